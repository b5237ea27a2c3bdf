import Derived.Test.YtnaglpcbkhjpnaaGreatDoorG9
import Derived.Test.YtnaglpcbkhjpnaaGreatDoorWN
import Derived.Test.YtnaglpcbkhjpnaaGreatDoorU
import Derived.Test.YtnaglpcbkhjpnaaGreatDoorW
import Derived.MapKept
set_option linter.unusedVariables false
set_option linter.defProp false
set_option maxRecDepth 100000
namespace Go.Proofs.YtnaglpcbkhjpnaaGreatDoor
open Go renaming World->J,Calls->aj,Program->aH,Value->aa,TypeId->aC,Ending->cE,LoopState->kD
open Go.IntKind renaming wrap->ah
open _root_.Int renaming toNat->a5,tdiv->bS,tmod->cp,toNat_natCast->bo
open _root_.ByteArray renaming mk->bh
open Go.IntWalk renaming i64_in->aN
open Go.Builtin renaming append_->eu
open Go.Sem renaming run->f'
open _root_.Bool renaming and_eq_true->bH
open _root_.Nat renaming le_refl->bm,le_trans->bz,zero_le->dI,beq->cg
open _root_.UInt8 renaming ofNat->c9
open _root_.Prod.mk renaming injEq->eW
open _root_.Option.some renaming injEq->fq
open Go.Proofs.Tryz renaming prog->V
open _root_.Decidable renaming decide->au
open Go.Ending renaming returned->ae
open List renaming mem_append->aW,mem_cons->aq,not_mem_nil->aL,mem_of_getElem?->aG,getElem?_eq_getElem->a',getElem?_eq_some_iff->cV,mem_map->bK,length_append->a9,append_assoc->cN,mem_cons_of_mem->fF,mem_cons_self->oy,drop_eq_getElem_cons->dw,nil_append->lU,cons_append->i2,drop_of_length_le->du
open Go Go.W
def Ua:List UInt8:=[40,41,44,124,38,33,42]
def ff(l:List UInt8)(i:Nat):Tk×Nat:=
 if 0<=Go.Lib.indexByte Ua (l.getD i 0)then(⟨l.getD i 0,0,0,[],i⟩,1)
 else if ky (l.getD i 0)=true then(⟨119,0,0,(l.drop i).takeWhile ky,i⟩,((l.drop i).takeWhile ky).length)
 else if l.getD i 0=91 then
  match kO l (i+1)with
  |none=>(⟨63,0,0,[],i⟩,1)
  |some (lo,m)=>
   if i+1+m<l.length/\l.getD (i+1+m) 0=45 then
    match kO l (i+1+m+1)with
    |none=>(⟨63,0,0,[],i⟩,1)
    |some (h,d)=>if i+1+m+(1+d)<l.length/\l.getD (i+1+m+(1+d)) 0=93/\lo.toNat<=h.toNat then(⟨114,lo,h,[],i⟩,1+m+(1+d)+1)else(⟨63,0,0,[],i⟩,1)
   else(⟨63,0,0,[],i⟩,1)
 else match kO l i with
  |some (b,n)=>(⟨114,b,b,[],i⟩,n)
  |none=>(⟨63,0,0,[],i⟩,1)
def BX(x:Tk×Nat):aa:=.tuple #[x.1.v,.int .i64 (x.2:Int)]
def Dz{l:List UInt8}{i:Nat}{b:UInt8}{n:Nat}(h:kO l i=some (b,n)):(n=3\/n=4)/\i+n<=l.length:=by
 unfold kO at h
 grind
def Vf:∀(l:List UInt8) (m:Nat) (p:UInt8->Bool),m<=l.length->(∀j<m,p (l.getD j 0)=true)->(m<l.length->p (l.getD m 0)=false)->(l.takeWhile p)=l.take m
 |[],m,p,d,_,_=>ws
 |c::l,0,p,d,_,h=>by have:p c=false:=h ws;simp[this]
 |c::l,m+1,p,d,k,h=>by have q:p c=true:=k 0 co;rw[List.takeWhile_cons,av q,List.take_succ_cons,Vf l m p (by grind) (λj x=>by grind) (λw=>by grind)]
def aaq(l:List UInt8)(i k:Nat):(l.drop i).getD k 0=l.getD (i+k) 0:=by grind
def YF(s:ByteArray)(hs:s.size<=900000)(i:Nat)(hi:i<s.size)(w:J):aj V Gj #[.string s,.int .i64 (i:Int)] w λr Y=>r=ae (BX (ff (bl s) i))/\af w Y:=by
 have hl:(bl s).length=s.size:=dQ s;refine vB.aD _ _ w _ ((bN [] (λ_ q=>by cases q)).aK (bs:=[]) (λk w1 O=>⟨co,_,lZ (i:=i) hi,?_⟩) ws);have O:LH F0 w w1 [.g k] []:=O;have bad:∀Y,LH F0 w Y [.g k] []->ff (bl s) i=(⟨63,0,0,[],i⟩,1)->∀(D E F:Int) (G:ByteArray) (H:Int),vB.fU (i:Int) k D E F G H Y λr Y=>r=ae (BX (ff (bl s) i))/\af w Y:=λY N he _ _ _ _ _=>N.ai (bs:=[k]) (λS y=>⟨by rw[he];rfl,y.fr⟩) ws;refine O.aA (Hy _ _ _) ?_;rintro _ w2 rfl U;refine⟨_,rfl,?_⟩;show bt (au (Go.Lib.indexByte Ua _>=0)) _ _;refine aE (λM=>U.ai (bs:=[k]) (λS y=>⟨?_,y.fr⟩) ws) (λM=>U.aA (zE _ _) ?_)
 .unfold ff;rw[av M];rfl
 rintro _ S rfl y;refine⟨_,rfl,bP (λaa=>?_) (λaa=>j2 (n:=91) co (λW:(bl s).getD i 0=91=>?_) (λW:(bl s).getD i 0≠91=>?_))⟩
 .
  have loop:∀(n j:Nat) (Y:J),s.size - j<n->i<=j->j<=s.size->(∀C,i<=C->C<j->ky ((bl s).getD C 0)=true)->LH F0 w Y [.g k] []->∀(D E F:Int) (G:ByteArray) (H:Int),vB.cv s (i:Int) k D E F G H (j:Int) Y λr Y=>r=ae (BX (ff (bl s) i))/\af w Y:=by
   intro n;induction n with
   |zero=>omega
   |succ n ih=>
    intro j Y hn aw hj ap T D E F G H;have done:(j<s.size->ky ((bl s).getD j 0)=false)->∀Y,LH F0 w Y [.g k] []->vB.cb s (i:Int) k D E F G H (j:Int) Y λr Y=>r=ae (BX (ff (bl s) i))/\af w Y:=λaB Y N=>by
     refine⟨co,co,co,co,N.ai (bs:=[k]) (λx h=>⟨?_,h.fr⟩) ws⟩;have ak:((bl s).drop i).takeWhile ky=((bl s).drop i).take (j - i):=by
      refine Vf _ _ _ (by grind) (λC hk=>?_) (λq=>?_)
      .rw [aaq];grind
      grind
     have ad:(((bl s).drop i).take (j - i)).length=j - i:=by grind
     have ac:s.extract (a5 (i:Int)) (a5 (j:Int))=ba (((bl s).drop i).take (j - i)):=by
      have:bl (s.extract i j)=((bl s).drop i).take (j - i):=by unfold bl;rw[ByteArray.data_extract,Array.toList_extract,List.extract_eq_take_drop]
      rw[bo,bo,<-this,jk]
     have ew:ah .i64 ((j:Int) - (i:Int))=((j - i:Nat):Int):=by rw[aN _ co];omega
     rw[ac,ew];unfold ff;rw[ag M,av aa,ak,ad];rfl
    refine vB.dO _ _ _ _ _ _ _ _ _ _ _ (aE (λq=>⟨co,_,lZ (i:=j) co,T.aA (zE _ _) ?_⟩) (λq=>done (λA=>co) Y T));rintro _ x rfl h;refine⟨_,rfl,bP (λB=>?_) (λB=>done (λ_=>B) x h)⟩;rw[show ah .i64 ((j:Int)+1)=((j+1:Nat):Int)by rw[aN _ co];omega];refine ih (j+1) x co co co (λC h1 h2=>?_) h _ _ _ _ _
    grind
  exact loop (s.size+1) i S co (bm _) co (λC h1 h2=>co) y _ _ _ _ _
 .have Z:¬ky ((bl s).getD i 0)=true:=by grind
  rw[show ah .i64 ((i:Int)+1)=((i+1:Nat):Int)by rw[aN _ co];omega];refine y.aA (DG s (i+1) co _) ?_;rintro _ K rfl z;cases B:kO (bl s) (i+1)with
  |none=>
   refine⟨0,0,false,rfl,aM rfl (bad K z ?_ _ _ _ _ _)⟩;unfold ff
   grind
  |some I=>
   obtain⟨lo,m⟩:=I;obtain⟨hm,ay⟩:=Dz B;refine⟨lo.toNat,m,true,rfl,?_⟩;try dsimp only
   rw[show ah .i64 (((i+1:Nat):Int)+(m:Int))=((i+1+m:Nat):Int)by rw[aN _ co];omega];have ab:¬(i+1+m<(bl s).length/\(bl s).getD (i+1+m) 0=45)->ff (bl s) i=(⟨63,0,0,[],i⟩,1):=λq=>by
    unfold ff
    grind
   refine aP rfl (aE (λq=>bad K z (ab (λA=>co)) _ _ _ _ _) (λq=>⟨co,_,lZ (i:=i+1+m) co,?_⟩));refine bP (λQ=>bad K z (ab (λA=>?_)) _ _ _ _ _) (λaq=>?_)
   .rw [A.2]at Q;grind
   have ao:(bl s).getD (i+1+m) 0=45:=by
    have e:(((bl s).getD (i+1+m) 0).toNat:Int)=45:=by grind
    have:((bl s).getD (i+1+m) 0).toNat=(45:UInt8).toNat:=by grind
    exact UInt8.toNat_inj.1 this
   rw[show ah .i64 (((i+1+m:Nat):Int)+1)=((i+1+m+1:Nat):Int)by rw[aN _ co];omega];refine z.aA (DG s (i+1+m+1) co _) ?_;rintro _ x rfl h;cases am:kO (bl s) (i+1+m+1)with
   |none=>
    refine⟨0,0,false,rfl,aM rfl (bad x h ?_ _ _ _ _ _)⟩;unfold ff
    grind
   |some I=>
    obtain⟨P,d⟩:=I;obtain⟨ax,az⟩:=Dz am;refine⟨P.toNat,d,true,rfl,?_⟩;try dsimp only
    rw[show ah .i64 (((i+1+m:Nat):Int)+ah .i64 (1+(d:Int)))=((i+1+m+(1+d):Nat):Int)by rw[aN (1+(d:Int)) co,aN _ co];omega];have L:ff (bl s) i=if i+1+m+(1+d)<(bl s).length/\(bl s).getD (i+1+m+(1+d)) 0=93/\lo.toNat<=P.toNat then(⟨114,lo,P,[],i⟩,1+m+(1+d)+1)else(⟨63,0,0,[],i⟩,1):=by
     unfold ff
     grind
    refine aP rfl (aE (λq=>bad x h (L.trans (ag λA=>co)) _ _ _ _ _) (λq=>⟨co,_,lZ (i:=i+1+m+(1+d)) co,?_⟩));refine bP (λQ=>bad x h (L.trans (ag λA=>?_)) _ _ _ _ _) (λar=>?_)
    .rw [A.2.1]at Q;grind
    have al:(bl s).getD (i+1+m+(1+d)) 0=93:=by
     have e:(((bl s).getD (i+1+m+(1+d)) 0).toNat:Int)=93:=by grind
     have:((bl s).getD (i+1+m+(1+d)) 0).toNat=(93:UInt8).toNat:=by grind
     exact UInt8.toNat_inj.1 this
    refine aE (λan=>bad x h (L.trans (ag λA=>co)) _ _ _ _ _) (λan=>h.ai (bs:=[k]) (λw6 H6=>⟨?_,H6.fr⟩) ws);rw[L,av ⟨co,al,co⟩];rw[show ah .i64 (ah .i64 (((i+1+m+(1+d):Nat):Int)+1) - (i:Int))=((1+m+(1+d)+1:Nat):Int)by rw[aN (((i+1+m+(1+d):Nat):Int)+1) co,aN _ co];omega];rfl
 .have Z:¬ky ((bl s).getD i 0)=true:=by grind
  refine y.aA (DG s i co _) ?_;rintro _ K rfl z;cases B:kO (bl s) i with
  |none=>
   refine⟨0,0,false,rfl,aP rfl (bad K z ?_ _ _ _ _ _)⟩;unfold ff
   grind
  |some I=>
   obtain⟨b,n⟩:=I;refine⟨b.toNat,n,true,rfl,aM rfl (z.ai (bs:=[k]) (λx h=>⟨?_,h.fr⟩) ws)⟩;unfold ff;rw[ag M,ag Z,ag W,B];rfl
structure Inv(S:SX)(m:Nat):Prop where
 lo:S.lo.length<=m
 sl:∀f∈S.lo,Small f m
 tp:Small S.tp m
 s1:S.st=1->0<=S.tp.k/\S.lo≠[]
 s2:S.st=2->0<=S.wd
def Small.mono{f:FX}{m n:Nat}(h:Small f m)(d:m<=n):Small f n:=⟨bz h.n' d,bz h.ar d,bz h.al d,bz h.an d,bz h.ca d⟩
def HE(k:Int)(m:Nat):Small (lP k) m:=⟨dI _,dI _,dI _,dI _,dI _⟩
def yG{f:FX}{m:Nat}(h:Small f m)(x:Rx):Small (jj f x) m:=⟨h.n',h.ar,h.al,h.an,h.ca⟩
def Fk{t:Tk}{S k:SX}{m:Nat}(w:S.lo.length<=m)(j:∀f∈S.lo,Small f (m+1))(d:Small S.tp (m+1))(x:S.tp.n<=m)(h:fY t S=some k):Inv k (m+1):=by
 have q:∀f∈S.lo++[S.tp],Small f (m+1):=λf y=>by grind
 unfold fY at h;split at h
 .cases h;exact⟨by grind,j,⟨by grind,d.ar,d.al,d.an,d.ca⟩,λe=>(by grind),λe=>(by grind)⟩
 .split at h
  .cases h;exact⟨by grind,q,HE _ _,λe=>(by grind),λe=>(by grind)⟩
  .split at h
   .cases h;exact⟨by grind,j,yG d _,λe=>(by grind),λe=>(by grind)⟩
   .split at h
    .split at h
     .cases h;exact⟨by grind,j,yG d _,λe=>(by grind),λe=>(by grind)⟩
     .split at h
      .cases h;exact⟨by grind,j,yG d _,λe=>(by grind),λe=>(by grind)⟩
      .split at h
       .cases h;exact⟨by grind,j,d,λe=>(by grind),λ_=>by grind⟩
       .split at h
        .cases h;exact⟨by grind,j,d,λe=>(by grind),λ_=>by grind⟩
        .split at h
         .cases h;exact⟨by grind,j,d,λe=>(by grind),λ_=>by grind⟩
         grind
    grind
def J5{S j:SX}{l:List Rx}{m:Nat}(d:Inv S m)(h:mr S l=some j):Inv j (m+1):=by
 unfold mr at h;rcases sC S.lo with e|⟨a,g,e⟩
 .grind
 .rw [e]at h;simp at h;subst h;have k:=d.lo;rw[e]at k;simp at k;exact⟨by grind,λf q=>(d.sl f (by grind)).mono co,yG ((d.sl g (by grind)).mono co) _,λe=>(by grind),λe=>(by grind)⟩
def EK{s':Sl}{t:Tk}{S x:SX}{m:Nat}(d:Inv S m)(h:fX s' t S=some x):Inv x (m+1):=by
 have w:=d.lo;have k:∀f∈S.lo,Small f (m+1):=λf y=>(d.sl f y).mono co;have j:Small S.tp (m+1):=d.tp.mono co;have z:=d.tp.n';unfold fX at h;split at h
 .rename_i q;split at h
  .cases h;refine⟨by grind,λf y=>?_,HE _ _,λ_=>⟨d.s2 q,ws⟩,λe=>(by grind)⟩
   grind
  grind
 .rename_i q;split at h
  .split at h
   .exact J5 d h
   .exact Fk w k j z h
  .rename_i A;split at h
   .exact Fk w k j z h
   .split at h
    .cases h;exact⟨by grind,k,yG j _,λe=>absurd e A,λe=>absurd e q⟩
    .split at h
     .cases h;refine⟨by grind,k,⟨dI _,j.ar,j.al,?_,dI _⟩,λe=>(by grind),λe=>(by grind)⟩;have:=d.tp.an;show(S.tp.an++[_]).length<=_
      grind
     .split at h
      .cases h;refine⟨by grind,k,⟨dI _,j.ar,?_,dI _,dI _⟩,λe=>(by grind),λe=>(by grind)⟩;have:=d.tp.al;show(S.tp.al++[_]).length<=_
       grind
      .split at h
       .split at h
        .cases h
        .cases h;refine⟨by grind,k,⟨dI _,?_,dI _,dI _,dI _⟩,λe=>(by grind),λe=>(by grind)⟩;have:=d.tp.ar;show(S.tp.ar.2++[_]).length<=_
         grind
       .split at h
        .split at h
         .cases h
         .exact J5 d h
        .split at h
         .split at h
          .cases h;exact⟨co,k,j,d.s1,d.s2⟩
          grind
         .refine Fk (S:=⟨S.lo,lJ S.tp,S.st,S.wd⟩) w k ⟨dI _,j.ar,j.al,j.an,?_⟩ (dI _) h;have:=d.tp.ca;show(S.tp.ca++[_]).length<=_
          grind
def ZH{s':Sl}{t:Tk}{S:SX}(h:t.k=63):fX s' t S=none:=by
 have it:∀S,fY t S=none:=λS=>by
  unfold fY
  grind
 unfold fX
 grind
def j1(l:List UInt8):Nat->Nat->List Tk
 |0,_=>[]
 |n+1,i=>if i<l.length then(if l.getD i 0=32 then j1 l n (i+1)else(ff l i).1::j1 l n (i+(ff l i).2))else[⟨36,0,0,[],l.length⟩]
def rG:List Tk->SX->Int⊕SX->Prop
 |[],d,r=>r=.inr d
 |t::k,d,r=>∃j,(fX j t d=none/\r=.inl t.a)\/∃h,fX j t d=some h/\rG k h r
def VD{l:List UInt8}{i:Nat}(hi:i<l.length):1<=(ff l i).2/\i+(ff l i).2<=l.length:=by
 unfold ff;split
 .omega
 .split
  .rename_i h;have d:(l.drop i)=l.getD i 0::l.drop (i+1):=by rw[dw hi,List.getD_eq_getElem?_getD,a' hi];rfl
   have k:1<=((l.drop i).takeWhile ky).length:=by rw[d,List.takeWhile_cons,av h];simp
   have q:((l.drop i).takeWhile ky).length<=(l.drop i).length:=(List.takeWhile_prefix (p:=ky) (l:=l.drop i)).length_le
   grind
  .split
   .grind
   .split
    .rename_i j;have:=Dz j;omega
    omega
abbrev H'(t:Tk):List aa:=[.int .u8 (t.k.toNat:Int),.int .u8 (t.lo.toNat:Int),.int .u8 (t.hi.toNat:Int),.string (ba t.s),.int .i64 t.a]
def xg:En:=⟨[],λ_=>True,λ_ _ _ d=>d,λ_ _ b h=>by grind,ws⟩
abbrev mW(t2 t3 t4 D l_ bs:Nat)(s:ByteArray)(d h:aa)(o:Obj):List En:=[.c t2 [.int .i64 0,.int .u8 0,.int .u8 0,.slice none 0 0] aZ,.c t3 [d] b',.c t4 [h] VG,.ob D (.deferred (some [])),.ob l_ o,.c bs [.string s] cY]
def PS(w0 w:J)(rb:Nat)(G:List En)(S:SX):Prop:=∃(sl:Sl) (d:List FM) (f:FM) (U:List I) (p:Addr),d.map FM.x=S.lo/\f.x=S.tp/\(∀g∈d++[f],∀t∈g.U,t∈U)/\sl.a=some p/\(∀b∈I.be U,w0.heap.size<=b)/\SF F0 w0 w rb sl S.st S.wd d f G U
def PE(w0 w:J)(rb:Nat)(G:List En):Prop:=∃(sl:Sl) (d:List FM) (f:FM) (U:List I) (st h:Int),SF F0 w0 w rb sl st h d f G U
section
variable {s:ByteArray} {w0:J} {rb t2 t3 t4 D l_ bs:Nat} {o_:kD->Option Code->Obj}
abbrev IG(s:ByteArray)(rb t2 t3 t4 l_ bs:Nat)(o_:kD->Option Code->Obj):Prop:=
 ∀(k q w:Int) (x:ByteArray) (y:Int) (d:J) (h:Bool->J->Prop),d.heap[l_]? =some (o_ .ready none)->Hd.Cq l_ o_ s (ab t2) (ab t3) (ab t4) (ab rb) (ab bs) k q w x y d (λz A=>∃j:Bool,z=ae (.bool j)/\h j A)->W.wb V l_ #[.agg #[.int .u8 k,.int .u8 q,.int .u8 w,.string x,.int .i64 y]] d h
def RT(hY:IG s rb t2 t3 t4 l_ bs o_){S:SX}{m:Nat}(q:Inv S m)(hm:m<=900000)(t:Tk){e:En}{w:J}(H:PS w0 w rb (mW t2 t3 t4 D l_ bs s (.int .i64 0) (.int .i64 0) (o_ .ready none)++[e]) S){K:Bool->J->Prop}(ab:∀j h,fX h t S=none->PE w0 j rb (mW t2 t3 t4 D l_ bs s (.int .i64 t.a) (.int .i64 2) (o_ .done (some .ret))++[e])->K false j)(ac:∀j h C,fX h t S=some C->PS w0 j rb (mW t2 t3 t4 D l_ bs s (.int .i64 0) (.int .i64 0) (o_ .ready none)++[e]) C->K true j):W.wb V l_ #[t.v] w K:=by
 obtain⟨lo,ag,st,wd⟩:=S;obtain⟨sl,F,f,ts,p,y,z,Y,h4,hb,H⟩:=H;have y:F.map FM.x=lo:=y;have z:f.x=ag:=z;subst y z;refine hY _ _ _ _ _ w K (H.ob 7) ?_;refine H.nw λw1 _ N=>N.Ux 10 rfl λw2 O=>O.pu 7 rfl λw3 d=>⟨_,_,_,_,_,d.ld 10 0,d.ld 10 1,d.ld 10 2,d.ld 10 3,d.ld 10 4,?_⟩;have P:SF F0 w0 w3 rb sl st wd F f (mW t2 t3 t4 D l_ bs s (.int .i64 0) (.int .i64 0) (o_ .busy none)++[e,.c w.heap.size (H' t) oL]) ts:=d;refine P.zM Y h4 (λaj ae=>Ya ae (bz q.lo co) (q.tp.mono co) q.s1 t) ?_;rintro r w4 I G E p4 af ah L ak Z aa b4 ⟨h,ad⟩ A;rcases ad with⟨hn,rfl⟩|⟨hs,rfl⟩
 .refine ⟨false,rfl,aM rfl ?_⟩;refine A.dr λM k=>⟨t.a,k.ld 10 4,k.kz 3 rfl λw6 B=>⟨B.ld 10 4,B.jW 4 rfl λw7 Q=>Q.jW 5 rfl λw8 T=>T.pu 7 rfl λw9 U=>⟨false,rfl,ab w9 h hn ⟨I,G,E,L,af,ah,?_⟩⟩⟩⟩;exact U.take 10
 .refine ⟨true,rfl,aP rfl (A.pu 7 rfl λM k=>⟨true,rfl,ac M h _ hs ⟨I,G,E,L,p4,rfl,rfl,Z,aa,λb ai=>?_,k.take 10⟩⟩)⟩
  grind
def Wy(w0:J)(rb t2 t3 t4 D l_ bs:Nat)(s:ByteArray)(o_:kD->Option Code->Obj)(Y:J):Int⊕SX->Prop
 |.inl a=>PE w0 Y rb (mW t2 t3 t4 D l_ bs s (.int .i64 a) (.int .i64 2) (o_ .done (some .ret)))
 |.inr d=>PS w0 Y rb (mW t2 t3 t4 D l_ bs s (.int .i64 0) (.int .i64 0) (o_ .ready none)) d
def acV(hs:s.size<=4096)(hY:IG s rb t2 t3 t4 l_ bs o_)(R:aJ):∀(n i m:Nat) (S:SX) (w:J),s.size - i<n->i<=s.size->Inv S m->m+n<=900000->
  PS w0 w rb (mW t2 t3 t4 D l_ bs s (.int .i64 0) (.int .i64 0) (o_ .ready none)) S->
  (∀F res,rG (j1 (bl s) n i) S res->Wy w0 rb t2 t3 t4 D l_ bs s o_ F res->R (ae (.tuple #[])) F)->Bq.L0 l_ (ab bs) (i:Int) w R:=by
 intro n;induction n with
 |zero=>omega
 |succ n ih=>
  intro i m S w hn hi I hm hP x;have hl:(bl s).length=s.size:=dQ s;have ak:=hP;obtain⟨sl,N,f,ts,p,ad,af,h3,h4,K,C⟩:=ak;refine Bq.bC _ _ _ _ _ ⟨s,C.iV 8,aE (λaj=>⟨s,C.iV 8,co,_,lZ (i:=i) co,j2 (n:=32) co (λhc:(bl s).getD i 0=32=>?_) (λhc:(bl s).getD i 0≠32=>⟨s,C.iV 8,C.call (YF s co i co w) ?_⟩)⟩) (λaj=>⟨s,C.iV 8,?_⟩)⟩
  .rw [show ah .i64 ((i:Int)+1)=((i+1:Nat):Int)by rw[aN _ co];omega];refine ih (i+1) m S w co co I co hP (λF res hr T=>x F res ?_ T);unfold j1
   grind
  .rintro _ w1 rfl L;have al:=VD (l:=bl s) (i:=i) co;have M:j1 (bl s) (n+1) i=(ff (bl s) i).1::j1 (bl s) n (i+(ff (bl s) i).2):=by rw[j1,av co,ag hc]
   rw[M]at x;refine⟨_,_,_,_,_,_,rfl,L.nw λw2 _ H2=>H2.Ux 9 rfl λw7 E=>⟨_,_,_,_,_,E.ld 9 0,E.ld 9 1,E.ld 9 2,E.ld 9 3,E.ld 9 4,?_⟩⟩;have ai:SF F0 w0 w7 rb sl S.st S.wd N f (mW t2 t3 t4 D l_ bs s (.int .i64 0) (.int .i64 0) (o_ .ready none)++[.c w1.heap.size (H' (ff (bl s) i).1) oL]) ts:=E;refine RT hY I co (ff (bl s) i).1 (e:=.c w1.heap.size (H' (ff (bl s) i).1) oL) ⟨sl,N,f,ts,p,ad,af,h3,h4,K,ai⟩ (λB y W q=>aM rfl (x B (.inl (ff (bl s) i).1.a) ⟨y,.inl ⟨W,rfl⟩⟩ ?_)) (λB y G H q=>aP rfl ?_)
   .obtain ⟨z,j,h,A,aa,ac,d⟩:=q;exact⟨z,j,h,A,aa,ac,d.take 9⟩
   .obtain ⟨z,j,h,A,Z,U,Y,O,P,Q,d⟩:=q;refine⟨_,d.ld 9 0,j2 (n:=63) co (λhk:(ff (bl s) i).1.k=63=>?_) (λhk=>?_)⟩
    .rw [ZH hk]at H;grind
    .rw [show ah .i64 ((i:Int)+((ff (bl s) i).2:Int))=((i+(ff (bl s) i).2:Nat):Int)by rw[aN _ co];omega];refine ih (i+(ff (bl s) i).2) (m+1) G B co co (EK I H) co ⟨z,j,h,A,Z,U,Y,O,P,Q,d.take 9⟩ (λF res hr T=>x F res ⟨y,.inr ⟨G,H,hr⟩⟩ T)
  .have M:j1 (bl s) (n+1) i=[⟨36,0,0,[],(bl s).length⟩]:=by rw[j1,ag co]
   rw[M,hl]at x;have L:=C.push xg (Fr.refl _ _) trivial (λb K=>by cases K);refine RT hY I co ⟨36,0,0,[],(s.size:Int)⟩ (e:=xg) ⟨sl,N,f,ts,p,ad,af,h3,h4,K,L⟩ (λB y W q=>x B (.inl (s.size:Int)) ⟨y,.inl ⟨W,rfl⟩⟩ ?_) (λB y G H q=>x B (.inr G) ⟨y,.inr ⟨G,H,rfl⟩⟩ ?_)
   .obtain ⟨z,j,h,A,aa,ac,d⟩:=q;exact⟨z,j,h,A,aa,ac,d.take 9⟩
   .obtain ⟨z,j,h,A,Z,U,Y,O,P,Q,d⟩:=q;exact⟨z,j,h,A,Z,U,Y,O,P,Q,d.take 9⟩
end
def sZ:∀(a b:List Rx),Rx.a7 (a++b)=Rx.a7 a+Rx.a7 b
 |[],b=>by simp[Rx.a7]
 |d::a,b=>by have:=sZ a b;show d.sz+Rx.a7 (a++b)=(d.sz+Rx.a7 a)+Rx.a7 b;omega
def td(x:Rx):Rx.a7 [x]=x.sz:=by simp[Rx.a7]
def GH(k:Int)(l:List Rx):(pq k l).sz<=1+Rx.a7 l:=by
 unfold pq;split
 .rw [td];omega
 .unfold Rx.sz;omega
def Gz:∀(n:Nat) (r:Rx),(om n r).sz=n+r.sz
 |0,r=>by unfold om;omega
 |n+1,r=>by unfold om;rw[Gz n];unfold Rx.sz;rw[td];cases r;simp only[Rx.sz];omega
def fz(f:FX):Nat:=Rx.a7 f.ar.2+Rx.a7 f.al+Rx.a7 f.an+Rx.a7 f.ca+f.n
def lz:List FX->Nat
 |[]=>0
 |f::l=>fz f+lz l
def AA:∀(a b:List FX),lz (a++b)=lz a+lz b
 |[],b=>by simp[lz]
 |d::a,b=>by have:=AA a b;show fz d+lz (a++b)=(fz d+lz a)+lz b;omega
def pz(S:SX):Nat:=lz S.lo+fz S.tp+(if S.st=0\/S.st=1\/S.st=2 then 0 else S.tp.la.sz)
def G2(S:SX):pz S<=lz S.lo+fz S.tp+S.tp.la.sz:=by unfold pz;grind
def adb(S:SX):lz S.lo+fz S.tp<=pz S:=by unfold pz;omega
def py{S:SX}(h:S.st=0\/S.st=1\/S.st=2):pz S=lz S.lo+fz S.tp:=by unfold pz;grind
def So{S:SX}(h:¬(S.st=0\/S.st=1\/S.st=2)):pz S=lz S.lo+fz S.tp+S.tp.la.sz:=by unfold pz;grind
def aaH(f:FX):fz (lJ f)=fz f+f.la.sz:=by unfold fz lJ;simp only[sZ,td,Gz];omega
def TZ(f:FX):fz (kR f)<=fz f+f.la.sz+1:=by have d:=GH 3 (f.ca++[om f.n f.la]);simp only[sZ,td,Gz]at d;show Rx.a7 f.ar.2+Rx.a7 f.al+Rx.a7 (f.an++[pq 3 (f.ca++[om f.n f.la])])+Rx.a7 []+0<=_;unfold fz;simp only[sZ,Rx.a7];omega
def Kf(f:FX):Rx.a7 f.ar.2+Rx.a7 (kQ f).al<=fz f+f.la.sz+2:=by have d:=GH 5 (kR f).an;have h:=TZ f;have e:fz (kR f)=Rx.a7 f.ar.2+Rx.a7 f.al+Rx.a7 (kR f).an+0+0:=rfl;show Rx.a7 f.ar.2+Rx.a7 (f.al++[pq 5 (kR f).an])<=_;simp only[sZ,td];omega
def Y'(f:FX):fz (kQ f)<=fz f+f.la.sz+2:=by have:=Kf f;show Rx.a7 f.ar.2+Rx.a7 (kQ f).al+Rx.a7 []+Rx.a7 []+0<=_;simp only[Rx.a7];omega
def EI(f:FX):Rx.a7 f.ar.2+(fi f).sz<=fz f+f.la.sz+3:=by have d:=GH 4 (kQ f).al;have:=Kf f;show _+(pq 4 (kQ f).al).sz<=_;omega
def Fl{t:Tk}{S d:SX}(h:fY t S=some d):pz d<=lz S.lo+fz S.tp+1:=by
 have leaf:∀(k:Int) (a b:UInt8),(Rx.mk k a b []).sz=1:=λk a b=>by unfold Rx.sz;simp[Rx.a7]
 unfold fY at h;split at h
 .cases h;rw[py (.inl rfl)];show lz S.lo+(Rx.a7 S.tp.ar.2+Rx.a7 S.tp.al+Rx.a7 S.tp.an+Rx.a7 S.tp.ca+(S.tp.n+1))<=_;unfold fz;omega
 .split at h
  .cases h;rw[py (.inl rfl)];show lz (S.lo++[S.tp])+fz (lP (-1))<=_;rw[AA];have:fz (lP (-1))=0:=rfl;simp only[lz];omega
  .have j:∀(k:Int) (a b:UInt8),pz ⟨S.lo,jj S.tp (.mk k a b []),3,S.wd⟩<=lz S.lo+fz S.tp+1:=λk a b=>by
    refine bz (G2 _) ?_;show lz S.lo+fz S.tp+(Rx.mk k a b []).sz<=_
    grind
   split at h
   .grind
   .split at h
    .split at h
     .grind
     .split at h
      .grind
      .split at h
       .cases h;rw[py (.inr (.inr rfl))];grind
       .split at h
        .cases h;rw[py (.inr (.inr rfl))];grind
        .split at h
         .cases h;rw[py (.inr (.inr rfl))];grind
         grind
    grind
def J6{S d:SX}{l:List Rx}(h:mr S l=some d):pz d<=lz S.lo+Rx.a7 l+1:=by
 unfold mr at h;rcases sC S.lo with e|⟨a,g,e⟩
 .grind
 .rw [e]at h ⊢;simp at h;subst h;refine bz (G2 _) ?_;show lz a+fz g+(m4 S.tp.k l).sz<=_;rw[AA];have:(m4 S.tp.k l).sz<=Rx.a7 l+1:=by
   unfold m4;split
   .cases l with
    |nil=>exact(by show fO.sz<=_;unfold fO Rx.sz;omega)
    |cons j l=>show j.sz<=_;unfold Rx.a7;omega
   .unfold Rx.sz;omega
  simp only[lz];omega
def ZJ{s':Sl}{t:Tk}{S d:SX}(h:fX s' t S=some d):pz d<=pz S+4:=by
 have x:=adb S;unfold fX at h;split at h
 .split at h
  .cases h;rw[py (.inr (.inl rfl))];show lz (S.lo++[S.tp])+fz (lP S.wd)<=_;rw[AA];have:fz (lP S.wd)=0:=rfl;simp only[lz];omega
  grind
 .rename_i w;split at h
  .split at h
   .have:=J6 h;simp only[Rx.a7]at this;omega
   .have:=Fl h;omega
  .rename_i q;split at h
   .have:=Fl h;omega
   .rename_i k;have y:=So (S:=S) co;split at h
    .cases h;refine bz (G2 _) ?_;show lz S.lo+fz S.tp+(Rx.mk 7 0 0 [S.tp.la]).sz<=_;have:(Rx.mk 7 0 0 [S.tp.la]).sz=1+S.tp.la.sz:=by show 1+Rx.a7 [S.tp.la]=_;rw[td]
     omega
    .split at h
     .cases h;rw[py (.inl rfl)];show lz S.lo+fz (kR S.tp)<=_;have:=TZ S.tp;omega
     .split at h
      .cases h;rw[py (.inl rfl)];show lz S.lo+fz (kQ S.tp)<=_;have:=Y' S.tp;omega
      .split at h
       .split at h
        .cases h
        .cases h;rw[py (.inl rfl)];show lz S.lo+(Rx.a7 (S.tp.ar.2++[fi S.tp])+Rx.a7 []+Rx.a7 []+Rx.a7 []+0)<=_;have:=EI S.tp;simp only[sZ,Rx.a7];omega
       .split at h
        .split at h
         .cases h
         .have j:=J6 h;have:=EI S.tp;simp only[sZ,td]at j;omega
        .split at h
         .grind
         .have j:=Fl h;have:=aaH S.tp
          grind
def ZI{s':Sl}{a:Int}{S d:SX}(h:fX s' ⟨36,0,0,[],a⟩ S=some d):d=S/\¬(S.st=0\/S.st=1\/S.st=2):=by
 have it:∀S,fY ⟨36,0,0,[],a⟩ S=none:=λS=>rfl;unfold fX at h
 grind
def Hu(l:List UInt8):∀(n i:Nat) (S d:SX),l.length - i<n->rG (j1 l n i) S (.inr d)->(fi d.tp).sz<=pz S+4 *n+4
 |0,i,S,d,z,_=>co
 |n+1,i,S,d,z,h=>by
  unfold j1 at h;split at h
  .split at h
   .have:=Hu l n (i+1) S d co h;omega
   .rename_i A _;have C:=VD A;obtain⟨B,⟨_,w⟩|⟨j,k,q⟩⟩:=h
    .cases w
    .have:=Hu l n (i+(ff l i).2) j d co q;have:=ZJ k;omega
  .obtain ⟨B,⟨_,w⟩|⟨j,k,q⟩⟩:=h
   .cases w
   .have e:d=j:=by have:Sum.inr d=(Sum.inr j:Int⊕SX):=q;grind
    obtain⟨x,y⟩:=ZI k;subst e x;have:=So y;have:=EI d.tp;omega
def abr{M:Nat->Prop}{w0 w:J}{L D:List En}(H:LH M w0 w L D)(is k:List Nat)(A:is.Perm k)(z:k.map (λh=>L.getD h xg)=L):LH M w0 w (is.map λh=>L.getD h xg) D:=by
 have j:(is.map λh=>L.getD h xg).Perm L:=by grind
 exact⟨H.fr,λe d=>H.own e (j.mem_iff.1 d),H.rd,λe d=>H.new e (j.mem_iff.1 d),((j.flatMap_right _).nodup_iff).2 H.nd,λe d b x q y=>H.dj e d b x q (j.mem_iff.1 y)⟩
def adt{d:J}{l:Nat}{o:kD->Option Code->Obj}{N:J->Prop}{X:Nat->J->Prop}{T:J->Prop}(h:mK d l (o .ready none) (o .exhausted none) N):zi d l o N X T:=.inl h
def adu{d:J}{l:Nat}{o:kD->Option Code->Obj}{N:J->Prop}{X:Nat->J->Prop}{T:J->Prop}(h:mK d l (o .done (some .ret)) (o .exhausted (some .ret)) T):zi d l o N X T:=.inr (.inr h)
def M7{b:Nat}(h:b∈I.be [.mk 0 0 0 ⟨none,0,0⟩ []]):False:=by
 have:=Am (U:=[]) (k:=0) (lo:=0) (hi:=0) (b:=b) h;unfold I.be at this
 grind
def vQ:SX:=⟨[],lP (-1),0,0⟩
def MG:Inv vQ 0:=by
 refine⟨bm _,λf d=>?_,HE _ _,λe=>?_,λe=>?_⟩
 .cases d
 .have:(0:Int)=1:=e;omega
 .have:(0:Int)=2:=e;omega
def Ht(l:List UInt8):∀(n i m:Nat) (S d:SX),Inv S m->rG (j1 l n i) S (.inr d)->Inv d (m+n)
 |0,i,m,S,d,k,h=>by
  have e:(Sum.inr d:Int⊕SX)=.inr S:=h
  grind
 |n+1,i,m,S,d,k,h=>by
  have A:∀{S:SX} {a b:Nat},Inv S a->a<=b->Inv S b:=λj y=>⟨bz j.lo y,λf B=>(j.sl f B).mono y,j.tp.mono y,j.s1,j.s2⟩;unfold j1 at h;split at h
  .split at h
   .exact A (Ht l n _ m S d k h) co
   .obtain ⟨C,⟨_,z⟩|⟨q,w,x⟩⟩:=h
    .cases z
    .exact A (Ht l n _ (m+1) q d (EK k w) x) co
  .obtain ⟨C,⟨_,z⟩|⟨q,w,x⟩⟩:=h
   .cases z
   .have e:(Sum.inr d:Int⊕SX)=.inr q:=x;cases e;exact A (EK k w) co
def Wz(w:J)(s:ByteArray):aJ:=λr h=>af w h/\
 ((4096<s.size/\r=ae (.tuple #[.agg #[.int .i64 0,.int .u8 0,.int .u8 0,.slice none 0 0],.int .i64 4096,.int .i64 4]))\/
  (s.size<=4096/\∃res,rG (j1 (bl s) (s.size+1) 0) vQ res/\((∃a,res=.inl a/\r=ae (.tuple #[.agg #[.int .i64 0,.int .u8 0,.int .u8 0,.slice none 0 0],.int .i64 a,.int .i64 2]))\/
   ∃d,res=.inr d/\((64<(fi d.tp).sz/\r=ae (.tuple #[.agg #[.int .i64 0,.int .u8 0,.int .u8 0,.slice none 0 0],.int .i64 (s.size:Int),.int .i64 4]))\/
    ((fi d.tp).sz<=64/\∃t:I,r=ae (.tuple #[t.v,.int .i64 0,.int .i64 0])/\t.rx=fi d.tp/\t.P h/\∀b∈t.fp,w.heap.size<=b)))))
def XX(s:ByteArray)(w:J):aj V Pv #[.string s] w (Wz w s):=by
 refine Hd.ok _ w _ ((bN [] (λ_ x=>by cases x)).nw λN _ H1=>H1.nw λQ _ H2=>H2.nw λw3 _ H3=>aE (λx=>?_) (λx=>?_))
 .refine H3.kz 0 rfl λw4 H4=>H4.jW 1 rfl λw5 Y=>Y.jW 2 rfl λw6 q=>⟨_,_,_,⟨none,0,0⟩,q.ld 0 0,q.ld 0 1,q.ld 0 2,q.ld 0 3,_,q.iV 1,_,q.iV 2,q.fr,.inl ⟨co,rfl⟩⟩
 have L:s.size<=4096:=co
 have hl:(bl s).length=s.size:=dQ s;refine H3.cZ (e:=iJ) (sz:=10) (n:=1) (cs:=(jv (-1)).c) rfl md λO ag=>ag.nw λap _ T=>?_;refine T.jW 4 rfl λar y=>y.st 4 1 rfl λae E=>E.st 4 2 rfl λB F=>?_;refine Tn.ok _ B _ (F.nw λh _ k=>⟨_,rfl,?_⟩);show ∀A:kD->Option Code->Obj,_;intro A hY;have e1:(h.alloc (.deferred (some []))).heap.size=h.heap.size+1:=size_alloc _ _;have HG:=(k.alloc (.deferred (some []))).alloc (A .ready none);rw[e1]at HG;have hP:(En.rows (([]++[jv (-1)]:List FM).flatMap FM.rows)).P ((h.alloc (.deferred (some []))).alloc (A .ready none)):=by refine⟨λao K=>?_,md⟩;have K:ao∈[((⟨none,0,0⟩,[]):ew),(⟨none,0,0⟩,[]),(⟨none,0,0⟩,[]),(⟨none,0,0⟩,[])]:=K;simp only[aq,aL,aR,or_self]at K;subst K;exact aF.nil _ _ _
 have Ha:=(HG.push (.rows (([]++[jv (-1)]:List FM).flatMap FM.rows)) (Fr.refl _ _) hP (λb j=>by
  have j:=a0.1 j;have j:b∈([]:List Nat):=j;cases j)).gz (.trees [.mk 0 0 0 ⟨none,0,0⟩ []]) (Fr.refl _ _) (I.i0 λt M=>by
   simp at M;subst M;show I.P _ _;unfold I.P I.Ps;exact⟨bL.nil 4 _,trivial⟩) (λb j=>by exact(M7 (a0.1 j)).elim)
 have Hb:=abr Ha [4,3,8,0,1,2,6,7,5] [0,1,2,3,4,5,6,7,8] md rfl;have HS:SF F0 w ((h.alloc (.deferred (some []))).alloc (A .ready none)) O.heap.size ⟨some (ab w3.heap.size),1,1⟩ 0 0 [] (jv (-1)) (mW w.heap.size N.heap.size Q.heap.size h.heap.size (h.heap.size+1) B.heap.size s (.int .i64 0) (.int .i64 0) (A .ready none)) [.mk 0 0 0 ⟨none,0,0⟩ []]:=Hb;refine Bq.ok _ _ _ _ (acV (w0:=w) (rb:=O.heap.size) (t2:=w.heap.size) (t3:=N.heap.size) (t4:=Q.heap.size) (D:=h.heap.size) (l_:=h.heap.size+1) (bs:=B.heap.size) L hY _ (s.size+1) 0 0 vQ _ co co MG co
  ⟨_,[],jv (-1),_,_,rfl,rfl,λg hg t M=>?_,rfl,λb j=>?_,HS⟩ (λw' res G he=>⟨⟨_,rfl⟩,?_⟩))
 .simp at hg;subst hg;simpa[FM.U,jv]using M
 .exact (M7 j).elim
 cases res with
 |inl a=>
  obtain⟨sl,H,f,ts,st,aK,S⟩:=he;refine adu (S.pu 7 rfl λap T=>T.pu 6 rfl λh k=>⟨_,_,_,⟨none,0,0⟩,k.ld 3 0,k.ld 3 1,k.ld 3 2,k.ld 3 3,_,k.iV 4,_,k.iV 5,k.fr,.inr ⟨L,_,G,.inl ⟨a,rfl,rfl⟩⟩⟩)
 |inr z=>
  obtain⟨sl,H,f,ts,p,am,ac,h3,h4,j,S⟩:=he;have hI:=Ht _ _ _ _ _ _ MG G;have an:=Hu _ _ _ _ _ co G;rw[show pz vQ=0 from rfl]at an;have al:H.length<=1000000:=by have:=hI.lo;rw[<-am]at this;simp at this;omega
  refine adt (S.pu 7 rfl λw5 Y=>?_);have aa:SF F0 w w5 O.heap.size sl z.st z.wd H f (mW w.heap.size N.heap.size Q.heap.size h.heap.size (h.heap.size+1) B.heap.size s (.int .i64 0) (.int .i64 0) (A .exhausted none)) ts:=Y;refine aa.call (zF aa h4 al) ?_;rintro _ w6 rfl q;have ah:SF F0 w w6 O.heap.size sl z.st z.wd H f (mW w.heap.size N.heap.size Q.heap.size h.heap.size (h.heap.size+1) B.heap.size s (.int .i64 0) (.int .i64 0) (A .exhausted none)) ts:=q;refine⟨_,rfl,ah.zM h3 h4 (λaG s1=>zC s1 (by rw[ac];exact hI.tp.mono co)) ?_⟩;rintro r w7 aH av f3 p3 aI aM ad aJ aw ax ai ⟨aB,az,aA,rfl,rfl,u,Z,rfl,hx⟩ H7;rw[ac]at hx;have aD:u.sz=(fi z.tp).sz:=by rw[<-hx,I.eU]
  refine⟨_,_,_,u.s,rfl,H7.nw λw8 _ H8=>H8.kz 9 rfl λw9 C=>⟨_,_,_,u.s,C.ld 9 0,C.ld 9 1,C.ld 9 2,C.ld 9 3,C.call (DW u w9 co ((show I.Ps w9 ad from C.getD 0).mem Z)) ?_⟩⟩;rintro _ ar rfl y;refine⟨_,rfl,aE (λay=>?_) (λaC=>?_)⟩
  .refine y.kz 3 rfl λae E=>E.jW 4 rfl λB F=>F.jW 5 rfl λau W=>W.pu 6 rfl λaf d=>⟨_,_,_,⟨none,0,0⟩,d.ld 3 0,d.ld 3 1,d.ld 3 2,d.ld 3 3,_,d.iV 4,_,d.iV 5,d.fr,.inr ⟨L,_,G,.inr ⟨z,rfl,.inl ⟨co,rfl⟩⟩⟩⟩
  .refine ⟨_,_,_,u.s,y.ld 9 0,y.ld 9 1,y.ld 9 2,y.ld 9 3,y.kz 3 rfl λae E=>E.jW 4 rfl λB F=>F.jW 5 rfl λau W=>W.pu 6 rfl λaf d=>⟨_,_,_,u.s,d.ld 3 0,d.ld 3 1,d.ld 3 2,d.ld 3 3,_,d.iV 4,_,d.iV 5,d.fr,.inr ⟨L,_,G,.inr ⟨z,rfl,.inr ⟨co,u,rfl,hx,(show I.Ps af ad from d.getD 0).mem Z,λb ak=>?_⟩⟩⟩⟩⟩;rcases ai b (I.bZ.2 ⟨u,Z,ak⟩)with x|x|x
   .exact j b x
   .exact x
   .exact x.elim
def Iu:Sl:=⟨none,0,0⟩
def er(f:FX):FX:=⟨f.k,(Iu,f.ar.2),f.al,f.an,f.ca,f.n,f.la⟩
def fK(S:SX):SX:=⟨S.lo.map er,er S.tp,S.st,S.wd⟩
def Fj(t:Tk)(S:SX):(fY t S).map fK=fY t (fK S):=by
 have d:er (lP (-1))=lP (-1):=rfl;have h:(S.lo++[S.tp]).map er=S.lo.map er++[er S.tp]:=ws
 unfold fY;split
 .rfl
 .split
  .simp only[Option.map_some,fK,d,h]
  .split
   .rfl
   .split
    .split
     .rfl
     .split
      .rfl
      .split
       .rfl
       .split
        .rfl
        .split<;>rfl
    .rfl
def J4(S:SX)(l:List Rx):(mr S l).map fK=mr (fK S) l:=by
 unfold mr;rcases sC S.lo with e|⟨a,g,e⟩
 .simp [e,fK]
 .have d:(fK S).lo=a.map er++[er g]:=by simp[fK,e]
  rw[e,d];simp[fK];rfl
def LA(s':Sl)(t:Tk)(S:SX):(fX s' t S).map fK=fX Iu t (fK S):=by
 have q:(S.lo++[S.tp]).map er=S.lo.map er++[er S.tp]:=ws
 have h:(fK S).st=S.st:=rfl;have j:(fK S).tp.k=S.tp.k:=rfl;unfold fX;rw[h,j];by_cases d:S.st=2
 .rw [av d,av d];split
  .show some (fK ⟨S.lo++[S.tp],lP S.wd,1,S.wd⟩)=some ⟨S.lo.map er++[er S.tp],lP S.wd,1,S.wd⟩;rw[<-q];rfl
  .rfl
 rw[ag d,ag d];split
 .split
  .exact J4 S []
  .exact Fj t S
 .split
  .exact Fj t S
  .split
   .rfl
   .split
    .rfl
    .split
     .rfl
     .split
      .split<;>rfl
      .split
       .by_cases e:S.lo=[]
        .rw [av e,av (show(fK S).lo=[]by simp[fK,e])];rfl
        .rw [ag e,ag (show ¬(fK S).lo=[]by simp[fK,e])];exact J4 S _
       .split
        .by_cases e:S.lo=[]
         .rw [av e,av (show(fK S).lo=[]by simp[fK,e])];rfl
         .rw [ag e,ag (show ¬(fK S).lo=[]by simp[fK,e])];rfl
        .exact Fj t ⟨S.lo,lJ S.tp,S.st,S.wd⟩
def yv:List Tk->SX->Int⊕SX
 |[],d=>.inr d
 |t::j,d=>match fX Iu t d with
  |none=>.inl t.a
  |some h=>yv j h
def Li:Int⊕SX->Int⊕SX
 |.inl a=>.inl a
 |.inr d=>.inr (fK d)
def TK:∀(U:List Tk) (S:SX) (r:Int⊕SX),rG U S r->Li r=yv U (fK S)
 |[],S,r,d=>by have d:r=.inr S:=d;subst d;rfl
 |t::U,S,r,d=>by
  obtain⟨k,⟨h,j⟩|⟨q,h,j⟩⟩:=d
  .subst j;have:=LA k t S;rw[h]at this;unfold yv;rw[<-this];rfl
  .have:=LA k t S;rw[h]at this;unfold yv;rw[<-this];exact TK U q r j
def vV(l:List UInt8):Int⊕SX:=yv (j1 l (l.length+1) 0) vQ
def afC{s:ByteArray}{r:Int⊕SX}(h:rG (j1 (bl s) (s.size+1) 0) vQ r):Li r=vV (bl s):=by have:=TK _ _ _ h;rw[this];unfold vV;rw[dQ];rfl
def Ls(S:SX):fi (fK S).tp=fi S.tp:=rfl
def lit(c:UInt8):Rx:=.mk 2 c c []
def lQ(t:BL):Bool:=bif Nat.blt 4096 t.length then false else match vV t with
 |.inl _=>false
 |.inr d=>bif Nat.blt 64 (fi d.tp).sz then false else
  if pk (fi d.tp)=0 then(if kB (jw (fi d.tp))=0 then dd 0 (jw (fi d.tp)) (bn (jw (fi d.tp)))==t else false)else false
structure bA where
 k:Int
 n:Int
 x:Int
deriving DecidableEq
structure Nx where
 op:Int
 kids:List Int
 n:Int
 m:Int
 u:Int
 tx:ByteArray
 st:bA
deriving DecidableEq
def dq:bA:=⟨0,0,0⟩
def bM(n:Int):bA:=⟨0,n,0⟩
def fk(n:Int):bA:=⟨1,n,0⟩
def cm(s:bA):Bool:=(s.k==0&&au (1<=s.n)&&au (s.n<=64)&&s.x==0)||(s.k==1&&au (0<=s.n)&&au (s.n<=64)&&s.x==0)||(s.k==2&&au (1<=s.n)&&au (s.n<=64)&&au (1<=s.x)&&au (s.x<=16))||(s.k==3&&au (0<=s.n)&&au (s.n<=64)&&au (1<=s.x)&&au (s.x<=16))
def hr(s:bA):Int:=if cm s then 0 else 9
def eD(s:bA):Bool:=s.k==2||s.k==3
def dk(op:Int):Int:=if op<0\/34<op then -1 else if op<=3 then 0 else if op=4\/op=5\/op=21\/op=22\/op=23\/op=27\/op=28\/op=33\/op=34 then 1 else if op=19\/op=25\/op=30\/op=32 then 3 else 2
def qq(op:Int):Bool:=op==21||op==22||op==23||op==28
def qs(op:Int):Bool:=op==0||op==2||op==33
def jR(n:Nx):Bool:=(qq n.op||n.n==0)&&(n.op==21||n.m==0)&&(n.op==1||n.u==0)&&(qs n.op||au (n.tx=ba []))
def fL(g:List Nx)(k:Int):Bool:=au (0<=k)&&au (k<(g.length:Int))
def fv(c:UInt8):Bool:=au (97<=c.toNat)&&au (c.toNat<=122)
def dc(c:UInt8):Bool:=fv c||(au (48<=c.toNat)&&au (c.toNat<=57))||c==45
def eZ(l:List UInt8):Bool:=match l with
 |[]=>false
 |c::m=>au (m.length<=15)&&fv c&&m.all dc
def kC:List Nx->ByteArray->Option bA
 |[],_=>none
 |d::g,t=>if d.op=0/\d.tx=t then some d.st else kC g t
def th(g:List Nx)(n:Nx):Bool:=match kC g n.tx with
 |some s=>!decide (s=n.st)
 |none=>false
def fW(u n:Int):Bool:=au (n<64)&&au (2^n.toNat<=u)
def cR(g:List Nx)(n:Nx):bA×Int:=
 if n.op=2 then(if 64<n.tx.size then(dq,5)else(fk n.tx.size,0))else
 if n.op=0/\eZ (bl n.tx)=false then(dq,6)else
 if cm n.st=false then(dq,9)else
 if n.op=1/\n.st.k≠0\/n.op=3/\eD n.st=false then(dq,9)else
 if n.op=1/\fW n.u n.st.n=true then(dq,5)else
 if n.op=0/\th g n=true then(dq,8)else(n.st,0)
def iz(s:bA):bA:=if s.k=2 then bM s.n else fk s.n
def dB(op:Int)(x y z:bA):Bool:=
 if op=4\/op=5\/op=21\/op=22\/op=23 then x.k==0 else
 if op=18 then au (x=y)||(x.k==1&&y.k==1)else
 if op=19 then au (x=bM 1)&&(au (y=z)||(y.k==1&&z.k==1))else
 if op=20 then x.k==0&&y.k==0 else
 if op=24 then eD x&&au (y=bM x.x)else
 if op=25 then eD x&&au (y=bM x.x)&&(au (z=iz x)||(x.k==3&&z.k==1&&au (z.n<=x.n)))else
 if op=26 then eD x&&au (x=y)else
 if op=27\/op=28\/op=33 then x.k==1 else
 if op=29\/op=31 then x.k==1&&y.k==1 else
 if op=30 then x.k==1&&au (y=bM 7)&&au (z=bM 7)else
 if op=32 then x.k==1&&y.k==1&&z.k==1 else
 if op=34 then au (x=bM 8)else x.k==0&&au (x=y)
def ie(n:Nx)(x y z:bA):bA:=
 if n.op=16\/n.op=17\/n.op=18\/n.op=33 then bM 1 else
 if n.op=19 then(if y.k=1 then fk (if y.n<z.n then z.n else y.n)else y)else
 if n.op=20 then bM (x.n+y.n)else
 if n.op=21 then bM (n.n - n.m+1)else
 if n.op=22\/n.op=23 then bM (x.n+n.n)else
 if n.op=24 then iz x else
 if n.op=26 then bM x.x else
 if n.op=27\/n.op=31 then bM 7 else
 if n.op=28 then bM 8 else
 if n.op=29 then fk (x.n+y.n)else
 if n.op=32 then fk (x.n+z.n)else
 if n.op=34 then fk 1 else x
def k'(n:Nx)(x y z:bA):Bool:=
 if n.op=20\/n.op=29 then au (x.n+y.n<=64)else
 if n.op=21 then au (0<=n.m)&&au (n.m<=n.n)&&au (n.n<x.n)else
 if n.op=22\/n.op=23 then au (1<=n.n)&&au (n.n<=64 - x.n)else
 if n.op=28 then au (0<=n.n)&&au (n.n<=63)else
 if n.op=32 then au (x.n+z.n<=64)else true
def ck(g:List Nx)(n:Nx)(i:Nat):bA:=match n.kids[i]? with
 |some h=>match g[h.toNat]? with
  |some d=>d.st
  |none=>dq
 |none=>dq
def oZ(t:ByteArray):Bool:=lQ (bl t)
def cI(g:List Nx)(n:Nx):bA×Int:=
 if(dk n.op==(n.kids.length:Int)&&n.kids.all (fL g)&&jR n)=false then(dq,1)else
 if n.op<=3 then cR g n else
 if dB n.op (ck g n 0) (ck g n 1) (ck g n 2)=false then(dq,9)else
 if k' n (ck g n 0) (ck g n 1) (ck g n 2)=false then(dq,5)else
 if n.op=33/\oZ n.tx=false then(dq,2)else(ie n (ck g n 0) (ck g n 1) (ck g n 2),0)
def hc(n:Nx)(s:bA):Nx:={n with st:=s}
def h4(n:Nx):List Nx->Nat->Option Nat
 |[],_=>none
 |d::g,i=>if d=n then some i else h4 n g (i+1)
def hD(g:List Nx)(n:Nx):List Nx×Int×Int:=
 if(cI g n).2≠0 then([],0,(cI g n).2)else
 match h4 (hc n (cI g n).1) g 0 with
 |some i=>(g,i,0)
 |none=>if 4096<=g.length then([],0,4)else(g++[hc n (cI g n).1],g.length,0)
inductive Vg:List Nx->Prop
 |nil:Vg []
 |snoc {g:List Nx} {n:Nx}:Vg g->cI g n=(n.st,0)->n∉g->Vg (g++[n])
structure Nd where
 x:Nx
 ks:Sl
abbrev ee(s:bA):aa:=.agg #[.i s.k,.i s.n,.i s.x]
namespace Nd
def c(d:Nd):List aa:=[.i d.x.op,d.ks.v,.i d.x.n,.i d.x.m,.u d.x.u,.string d.x.tx,.i d.x.st.k,.i d.x.st.n,.i d.x.st.x]
abbrev v(d:Nd):aa:=.agg #[.i d.x.op,d.ks.v,.i d.x.n,.i d.x.m,.u d.x.u,.string d.x.tx,.i d.x.st.k,.i d.x.st.n,.i d.x.st.x]
def ka(d:Nd):(c d).length=9:=rfl
def e7(l:List Nd):(l.flatMap c).length=l.length *9:=qn c 9 ka l
abbrev P(w:J)(d:Nd):Prop:=bq w d.ks d.x.kids
structure ga(w:J)(p:Addr)(i:Nat)(d:Nd):Prop where
 c0:w.cell? ((p.add (i *9)).add 0)=some (.i d.x.op)
 c1:w.cell? ((p.add (i *9)).add 1)=some d.ks.v
 c2:w.cell? ((p.add (i *9)).add 2)=some (.i d.x.n)
 c3:w.cell? ((p.add (i *9)).add 3)=some (.i d.x.m)
 c4:w.cell? ((p.add (i *9)).add 4)=some (.u d.x.u)
 c5:w.cell? ((p.add (i *9)).add 5)=some (.string d.x.tx)
 c6:w.cell? ((p.add (i *9)).add 6)=some (.i d.x.st.k)
 c7:w.cell? ((p.add (i *9)).add 7)=some (.i d.x.st.n)
 c8:w.cell? ((p.add (i *9)).add 8)=some (.i d.x.st.x)
def cH{w:J}{s:Sl}{l:List Nd}(h:bL 9 w s (l.flatMap c)):s.n=l.length:=by have:=h.1;rw[e7]at this;omega
def dy{w:J}{s:Sl}{l:List Nd}(h:bL 9 w s (l.flatMap c)){i:Nat}{d:Nd}(hi:l[i]? =some d){K:Addr->Prop}(k:∀p,s.a=some p->ga w p i d->K p):dV s.a K:=
 fg.elem (f:=c) (sz:=9) ka co h.2.2 hi λp q j=>k p q ⟨j 0 _ rfl,j 1 _ rfl,j 2 _ rfl,j 3 _ rfl,j 4 _ rfl,j 5 _ rfl,j 6 _ rfl,j 7 _ rfl,j 8 _ rfl⟩
def again{w:J}{s:Sl}{l:List Nd}(h:bL 9 w s (l.flatMap c)){i:Nat}{d:Nd}(hi:l[i]? =some d){p:Addr}(z:s.a=some p):ga w p i d:=by have q:=dy h hi (K:=λk=>∃x,s.a=some x/\ga w x i d) (λk j y=>⟨k,j,y⟩);rw[z]at q;obtain⟨k,j,e⟩:=q;cases j;exact e
end Nd
abbrev xs(l:List Nd):List Nx:=l.map Nd.x
def GP(w:J)(s:Sl)(l:List Nd):Prop:=bL 9 w s (l.flatMap Nd.c)/\∀d∈l,d.P w
abbrev dp(d:Nd):En:=.rd d.ks (d.x.kids.map aY)
def _root_.Go.W.En.gr(s:Sl)(l:List Nd):En:=.all (.bd 9 s (l.flatMap Nd.c)::l.map dp)
def ct{w:J}{s:Sl}{l:List Nd}:(En.gr s l).P w↔GP w s l:=by
 constructor
 .exact λd=>⟨d (.bd 9 s (l.flatMap Nd.c)) ws,λh j=>d (dp h) (fF _ (bK.2 ⟨h,j,rfl⟩))⟩
 .intro d e k;rcases aq.1 k with rfl|k
  .exact d.1
  .obtain ⟨h,j,rfl⟩:=bK.1 k;exact d.2 h j
def od{s:Sl}{l:List Nd}{b:Nat}:b∈(En.gr s l).fp↔b∈(En.bd 9 s (l.flatMap Nd.c)).fp\/∃h∈l,b∈(dp h).fp:=by
 unfold En.gr En.all;rw[a0,List.mem_flatMap];constructor
 .rintro ⟨e,k,d⟩;rcases aq.1 k with rfl|k
  .exact .inl d
  .obtain ⟨h,j,rfl⟩:=bK.1 k;exact .inr ⟨h,j,d⟩
 .rintro (d|⟨h,j,d⟩)
  .exact ⟨_,oy ..,d⟩
  .exact ⟨_,fF _ (bK.2 ⟨h,j,rfl⟩),d⟩
def iU{w:J}{s:Sl}{l:List Nd}(h:GP w s l):s.n=l.length:=Nd.cH h.1
def iD{w:J}{s:Sl}{l:List Nd}(h:GP w s l){i:Nat}{d:Nd}{X:Int}(j:X=(i:Int))(hi:l[i]? =some d){K:Addr->Prop}(k:∀p,s.a=some p->Nd.ga w p (a5 X) d->K p):fo s X K:=by have x:=iU h;have q:=(cV.1 hi).1;subst j;exact⟨co,co,Nd.dy h.1 hi k⟩
def y4{l:List Nd}{i:Nat}{d:Nd}(h:l[i]? =some d):(xs l)[i]? =some d.x:=by simp[xs,h]
namespace Nd
def ga.s0{w:J}{p:Addr}{i:Nat}{d:Nd}(h:ga w p i d):w.cell? (((p.add (i *9)).add 6).add 0)=some (.i d.x.st.k):=by rw[add_add];exact h.c6
def ga.s1{w:J}{p:Addr}{i:Nat}{d:Nd}(h:ga w p i d):w.cell? (((p.add (i *9)).add 6).add 1)=some (.i d.x.st.n):=by rw[add_add];exact h.c7
def ga.s2{w:J}{p:Addr}{i:Nat}{d:Nd}(h:ga w p i d):w.cell? (((p.add (i *9)).add 6).add 2)=some (.i d.x.st.x):=by rw[add_add];exact h.c8
end Nd
def E3{w:J}{s:Sl}{l:List Nd}(h:GP w s l){i:Nat}{d:Nd}(hi:l[i]? =some d){p:Addr}(k:s.a=some p){X:Int}(j:X=(i:Int)):Nd.ga w p (a5 X) d:=by subst j;exact Nd.again h.1 hi k
def gP(s:bA):List aa:=[.i s.k,.i s.n,.i s.x]
def Uw(l:List bA):(l.flatMap gP).length=l.length *3:=qn gP 3 (λ_=>rfl) l
structure Dd(w:J)(p:Addr)(i:Nat)(s:bA):Prop where
 c0:w.cell? ((p.add (i *3)).add 0)=some (.i s.k)
 c1:w.cell? ((p.add (i *3)).add 1)=some (.i s.n)
 c2:w.cell? ((p.add (i *3)).add 2)=some (.i s.x)
def aeG{w:J}{s:Sl}{l:List bA}(h:bL 3 w s (l.flatMap gP)):s.n=l.length:=by have:=h.1;rw[Uw]at this;omega
def eL{w:J}{s:Sl}{l:List bA}(h:bL 3 w s (l.flatMap gP)){i:Nat}{x:bA}{X:Int}(j:X=(i:Int))(hi:l[i]? =some x){K:Addr->Prop}(k:∀p,s.a=some p->Dd w p (a5 X) x->K p):fo s X K:=by have z:=aeG h;have y:=(cV.1 hi).1;subst j;exact⟨co,co,fg.elem (f:=gP) (sz:=3) (λ_=>rfl) co h.2.2 hi λp q d=>k p q ⟨d 0 _ rfl,d 1 _ rfl,d 2 _ rfl⟩⟩
def gv{w:J}{s:Sl}{l:List bA}(h:bL 3 w s (l.flatMap gP)){i:Nat}{x:bA}{X:Int}(y:X=(i:Int))(hi:l[i]? =some x){p:Addr}(A:s.a=some p):Dd w p (a5 X) x:=by have k:=(eL h y hi (K:=λj=>∃q,s.a=some q/\Dd w q (a5 X) x) (λj d z=>⟨j,d,z⟩)).2.2;rw[A]at k;obtain⟨j,d,e⟩:=k;cases d;exact e
def lg(a b:bA):((a.k==b.k)&&((a.n==b.n)&&((a.x==b.x)&&true)))=au (a=b):=by cases a;cases b;simp only[bA.mk.injEq,Bool.and_true,Bool.decide_and];rfl
def q8(a b:ByteArray):(a.toList==b.toList)=au (a=b):=by
 rw[ByteArray.toList_eq,ByteArray.toList_eq];have d:(a.data.toList=b.data.toList)↔a=b:=⟨λd=>ByteArray.ext (Array.toList_inj.1 d),λd=>by rw[d]⟩;rw[<-decide_eq_decide.2 d];cases h:au (a.data.toList=b.data.toList)with
 |true=>rw[eP h];simp
 |false=>exact beq_eq_false_iff_ne.2 (il h)
section
variable {A B:Prop}
def jz{a b:ByteArray}(d:a=b->A)(h:a≠b->B):bt (a.toList==b.toList) A B:=by rw[q8];exact aE d h
def oG{a b:bA}(d:a=b->A)(h:a≠b->B):bt ((a.k==b.k)&&((a.n==b.n)&&((a.x==b.x)&&true))) A B:=by rw[lg];exact aE d h
def By{a b:bA}(h:a≠b->A)(j:a=b->B):bt (!((a.k==b.k)&&((a.n==b.n)&&((a.x==b.x)&&true)))) A B:=by rw[lg];exact dW (λd=>h (il d)) (λd=>j (eP d))
def HA{s:bA}(h:cm s=false->A)(j:cm s=true->B):bt (hr s !=0) A B:=by
 unfold hr;cases d:cm s with
 |true=>exact aP rfl (j d)
 |false=>exact aM rfl (h d)
end
set_option maxRecDepth 100000
set_option maxHeartbeats 2000000
namespace KP
def ok:=az (ay V Tryz.f138 [] []) N9 [.I]
end KP
namespace KV
def ok:=az (ay V Tryz.f137 [] []) Of [.Y]
end KV
namespace xo
noncomputable def L0:=bg (ay V Tryz.f210 [] []) [0,1,1,1,1] [(0,.v [.Y]),(3,.v [.I])]
noncomputable abbrev t1:=bf L0
def bC:=bj t1 L0
def ok:=az t1 Oe [.Y]
end xo
namespace xn
noncomputable abbrev S1:=ak (ay V Tryz.f193 [(4,ls [0,1,2,3,6,7,8,9,4,5,10,11,12,13,14])] []) [3] []
noncomputable abbrev t1:=ao S1
noncomputable abbrev S0:=ak t1 [2] [(0,.v [.st]),(1,.v [.I])]
noncomputable abbrev t2:=ao S0
def ok:=az t2 N8 [.st,.I]
end xn
namespace uK
abbrev P0:Ps:=[(4,.l [.I,.Y,.Y,.s] aT)]
noncomputable abbrev bW:=ak (ay V Tryz.f174 [] [4]) [0,1,1,1,6] P0
noncomputable abbrev t1:=ao bW
noncomputable abbrev cX:=ak t1 [0,1,1,1,9] P0
noncomputable abbrev t2:=ao cX
noncomputable abbrev cb:=ak t2 [9] [(0,.v [.st]),(1,.v [.I]),(4,.l [.I,.Y,.Y,.s] aT),(8,.v [.Y]),(11,.v [.Y]),(12,.v [.I]),(13,.v [.I])]
noncomputable abbrev t3:=ao cb
noncomputable abbrev bD:=ak t3 [6] [(0,.v [.st]),(1,.v [.I]),(4,.l [.I,.Y,.Y,.s] aT),(8,.v [.Y]),(9,.v [.I]),(10,.v [.I])]
noncomputable abbrev t4:=ao bD
def aD:=az t4 Oh [.st,.I]
end uK
namespace kg
noncomputable def a8:=bg (ay V Tryz.f143 [(11,lr 13)] [5]) [0,1,1,1,2] [(0,.v [.st]),(3,.v [.s]),(4,.v [.I])]
noncomputable abbrev t1:=bf a8
abbrev P0:Ps:=[(0,.v [.st]),(3,.v [.s]),(4,.v [.I]),(5,.l [.I,.Y,.Y,.s] aT),(6,.v [.I])]
noncomputable def cv:=bg t1 [0,1,1,1,1,1,2,1,1,2,1,1,2] P0
noncomputable abbrev t2:=bf cv
noncomputable abbrev cb:=ak t2 [3,1,1,2,1,1,2] P0
noncomputable abbrev t3:=ao cb
def dO:=bj t3 cv
def bJ:=bj t3 a8
def aD:=az t3 N6 [.st]
end kg
namespace KY
def ok:=az (ay V Tryz.f195 [(3,lr 12)] []) Ol [.r]
end KY
namespace KZ
noncomputable abbrev S0:=ak (ay V Tryz.f176 [] []) [3] []
noncomputable abbrev t1:=ao S0
def ok:=az t1 Om [.r,.st]
end KZ
namespace KX
def ok:=az (ay V Tryz.f145 [] []) Oj [.r,.st]
end KX
namespace KS
def aD:=az (ay V Tryz.f177 [] [4]) xZ [.I,.s]
end KS
namespace KW
def ok:=az (ay V Tryz.f212 [] []) Oi [.r]
end KW
namespace xq
noncomputable def a8:=bg (ay V Tryz.f144 [] [2]) [0,2,2] [(0,.v [.r]),(2,.l [.I,.Y,.Y,.s] aT),(3,.v [.s])]
noncomputable abbrev t1:=bf a8
def bJ:=bj t1 a8
def aD:=az t1 FZ [.r]
end xq
namespace xp
noncomputable def a8:=bg (ay V Tryz.f175 [] [2]) [0,2,2] [(0,.v [.r]),(2,.l [.I,.Y,.Y,.s] aT),(3,.v [.s])]
noncomputable abbrev t1:=bf a8
def bJ:=bj t1 a8
def aD:=az t1 AH [.r]
end xp
namespace xu
noncomputable def a8:=bg (ay V Tryz.f194 [] [2]) [0,2,2] [(0,.v [.r]),(2,.l [.I,.Y,.Y,.s] aT),(3,.v [.s])]
noncomputable abbrev t1:=bf a8
def bJ:=bj t1 a8
def aD:=az t1 AJ [.r]
end xu
namespace z2
noncomputable def a8:=bg (ay V Tryz.f211 [] [2,4]) [0,2,4] [(0,.v [.r]),(2,.l [.I,.Y,.Y,.s] aT),(4,.l [.I,.Y,.Y,.s] aT)]
noncomputable abbrev t1:=bf a8
def bJ:=bj t1 a8
def aD:=az t1 AI [.r]
end z2
namespace o6
abbrev P0:Ps:=[(0,.v [.r]),(2,.l [.I,.Y,.Y,.s] aT),(3,.v [.s]),(4,.v [.I])]
noncomputable def cv:=bg (ay V Tryz.f238 [(1,lr 20),(3,lr 13),(8,ls [0,1,2,3,5,6,7,8,4,9,10])] [2,5,6]) [0,1,1,1,3] P0
noncomputable abbrev t1:=bf cv
noncomputable abbrev cb:=ak t1 [2,2,1,1,3] P0
noncomputable abbrev t2:=ao cb
noncomputable abbrev cX:=ak t2 [4,2,1,2,1,1,3] [(2,.l [.I,.Y,.Y,.s] aT),(5,.l [.I,.Y,.Y,.s] aT)]
noncomputable abbrev t3:=ao cX
def dO:=bj t3 cv
noncomputable abbrev bD:=ak t3 [2] [(0,.v [.r]),(2,.l [.I,.Y,.Y,.s] aT)]
noncomputable abbrev t4:=ao bD
def aD:=az t4 FY [.r]
end o6
namespace xr
noncomputable abbrev S0:=ak (ay V Tryz.f252 [] []) [0,1,1,1,3] []
noncomputable abbrev t1:=ao S0
noncomputable def L1:=bg t1 [0,2,5] [(0,.v [.r]),(4,.v [.s])]
noncomputable abbrev t2:=bf L1
def fH:=bj t2 L1
def ok:=az t2 F1 [.r]
end xr
namespace KN
def aD:=az (ay V Tryz.f115 [(7,lr 15)] [2,6]) N4 [.st]
end KN
namespace KJ
def ok:=az (ay V Tryz.f109 [] []) N1 [.Y]
end KJ
namespace Ev
noncomputable abbrev bD:=ak (ay V Tryz.f108 [] [1]) [0,1,1,1,2] []
noncomputable abbrev t1:=ao bD
def aD:=az t1 FV [.a 4,.I,.Y,.Y,.s]
end Ev
namespace KU
def ok:=az (ay V Tryz.f110 [] []) Ob [.Y]
end KU
namespace my
noncomputable abbrev bD:=ak (ay V Tryz.f82 [(11,ls [0,1,5,6,2,3,4,7,8,9,10])] [2]) [2,1,1,1,3] [(2,.l [.I,.Y,.Y,.s] aT),(5,.v [.st])]
noncomputable abbrev t1:=ao bD
abbrev P0:Ps:=[(2,.l [.I,.Y,.Y,.s] aT),(6,.v [.st]),(7,.v [.I]),(8,.v [.st]),(9,.v [.I])]
noncomputable def cv:=bg t1 [0,1,1,1,7] P0
noncomputable abbrev t2:=bf cv
noncomputable abbrev cX:=ak t2 [2,2,1,1,7] P0
noncomputable abbrev t3:=ao cX
noncomputable abbrev cb:=ak t3 [2,2,1,2,1,1,7] [(2,.l [.I,.Y,.Y,.s] aT),(6,.v [.st]),(7,.v [.I]),(8,.v [.st]),(9,.v [.I]),(10,.v [.st])]
noncomputable abbrev t4:=ao cb
def dO:=bj t4 cv
def aD:=az t4 qC [.a 4,.I,.Y,.Y,.s,.I]
end my
namespace ZB
noncomputable def C0:Code:=(Tryz.f55.body).getD .skip
noncomputable def C1:=C0.sn
noncomputable def C2:=C1.sn
noncomputable def C3:=C2.sn
noncomputable def C4:=C3.sn
noncomputable def C5:=C4.sn
noncomputable def C6:=C5.sn
noncomputable def C7:=C6.sn
noncomputable def C8:=C7.sn
abbrev Q0(R:aJ):ir:=(bodyPost V Tryz.f55 R)
noncomputable def C9:=C8.sn
abbrev S0(d:Int)(h:Sl)(w:J)(R:aJ):Prop:=
 (0:Int)<=(cp (ah .i64 (bS d 216)) 8)/\(cp (ah .i64 (bS d 216)) 8)<(h.n:Int)/\dV h.a λj=>gi w (j.add (a5 (cp (ah .i64 (bS d 216)) 8) *4)) λk q x y=>zG x3 #[.agg #[.i k,.int .u8 q,.int .u8 x,y.v]] w λz A B C D=>JP qC #[.agg #[.i z,.int .u8 A,.int .u8 B,C.v],.i 0] D λt86 E=>R (ae (.string t86)) E
def CM(E:Env)(w:J)(R:aJ):Prop:=W.asInt .i64 (Env.get? E 3) λh=>W.asSlice (Env.get? E 9) λd=>S0 h d w R
end ZB
namespace KK
def aD:=az (ay V Tryz.f89 [] [3,6]) N2 [.st]
end KK
namespace K2
def aD:=az (ay V Tryz.f53 [] [2]) Oq [.I]
end K2
namespace K6
def aD:=az (ay V Tryz.f54 [] [2]) OC [.I]
end K6
namespace K7
def ok:=az (ay V Tryz.f112 [] []) OF [.s,.I]
end K7
namespace K4
abbrev P0:Ps:=[]
noncomputable abbrev S0:=ak (ay V Tryz.f56 [] []) [0,1,1,1,1] P0
noncomputable abbrev t1:=ao S0
noncomputable abbrev S1:=ak t1 [0,1,1,1,1,1,3] P0
noncomputable abbrev t2:=ao S1
noncomputable abbrev S3:=ak t2 [0,1,3,1,1,1,3] P0
noncomputable abbrev t3:=ao S3
noncomputable abbrev S4:=ak t3 [4] P0
noncomputable abbrev t4:=ao S4
noncomputable abbrev S2:=ak t4 [2,1,1,1,3] [(11,.v [.I])]
noncomputable abbrev t5:=ao S2
def ok:=az t5 Ox [.I]
end K4
namespace m9
noncomputable abbrev S0:=ak (ay V Tryz.f113 [] []) [0,1,1,1,1] []
noncomputable abbrev t1:=ao S0
abbrev P0:Ps:=[(0,.v [.st]),(3,.v [.I])]
noncomputable def L1:=bg t1 [0,1,1,1,2] P0
noncomputable abbrev t2:=bf L1
noncomputable abbrev S4:=ak t2 [2,2,1,1,2] P0
noncomputable abbrev t3:=ao S4
noncomputable abbrev S3:=ak t3 [2,2,1,2,1,1,2] [(0,.v [.st]),(3,.v [.I]),(4,.v [.b]),(5,.v [.b])]
noncomputable abbrev t4:=ao S3
noncomputable abbrev S2:=ak t4 [1,2,1,2,1,1,2] [(0,.v [.st]),(3,.v [.I]),(4,.v [.b])]
noncomputable abbrev t5:=ao S2
def fH:=bj t5 L1
def ok:=az t5 Oz [.st]
end m9
namespace K0
def ok:=az (ay V Tryz.f142 [] []) x4 [.I,.I,.I]
end K0
namespace r2
noncomputable abbrev bD:=ak (ay V Tryz.f114 [] [1]) [3] [(3,.v [.b])]
noncomputable abbrev t1:=ao bD
def aD:=az t1 On [.a 3,.I,.I,.I]
end r2
namespace xy
noncomputable def a8:=bg (ay V Tryz.f85 [(1,ls [0,1,3,4,5,2,6])] [3]) [0,1,1,1,2] [(0,.v [.s]),(3,.l [.I,.s,.I,.I,.U,.st,.I,.I,.I] cQ),(5,.v [.I])]
noncomputable abbrev t1:=bf a8
abbrev P0:Ps:=[]
noncomputable abbrev bW:=ak t1 [0,1,1,2,1,2,1,1,2] P0
noncomputable abbrev t2:=ao bW
noncomputable abbrev cb:=ak t2 [0,1,1,1,5] P0
noncomputable abbrev t3:=ao cb
noncomputable abbrev cX:=ak t3 [6] P0
noncomputable abbrev t4:=ao cX
def bJ:=bj t4 a8
def aD:=az t4 OD [.s,.a 9,.I,.s,.I,.I,.U,.st,.I,.I,.I]
end xy
namespace kh
noncomputable abbrev cb:=ak (ay V Tryz.f86 [(19,lr 31)] [3,4]) [0,1,1,1,7] [(4,.l [.I,.I,.I] cA)]
noncomputable abbrev t1:=ao cb
abbrev P0:Ps:=[(0,.v [.s]),(3,.l [.I,.s,.I,.I,.U,.st,.I,.I,.I] cQ),(4,.l [.I,.I,.I] cA),(9,.v [.I])]
noncomputable def lA:=bg t1 [0,1,1,1,9] P0
noncomputable abbrev t2:=bf lA
noncomputable abbrev hW:=ak t2 [2,2,1,1,9] P0
noncomputable abbrev t3:=ao hW
def oS:=bj t3 lA
abbrev P1:Ps:=[(0,.v [.s]),(3,.l [.I,.s,.I,.I,.U,.st,.I,.I,.I] cQ),(4,.l [.I,.I,.I] cA)]
noncomputable abbrev fU:=ak t3 [9] P1
noncomputable abbrev t4:=ao fU
noncomputable abbrev cX:=ak t4 [8] P1
noncomputable abbrev t5:=ao cX
noncomputable abbrev bW:=ak t5 [7] [(0,.v [.s]),(3,.l [.I,.s,.I,.I,.U,.st,.I,.I,.I] cQ),(4,.l [.I,.I,.I] cA),(8,.v [.b])]
noncomputable abbrev t6:=ao bW
noncomputable abbrev bD:=ak t6 [3] [(0,.v [.s]),(3,.l [.I,.s,.I,.I,.U,.st,.I,.I,.I] cQ),(4,.l [.I,.I,.I] cA),(6,.v [.b])]
noncomputable abbrev t7:=ao bD
def aD:=az t7 OG [.s,.a 9,.I,.s,.I,.I,.U,.st,.I,.I,.I]
end kh
namespace K3
def aD:=az (ay V Tryz.f84 [] [1,2]) Ot [.a 3,.I,.I,.I]
end K3
namespace Ew
noncomputable abbrev bW:=ak (ay V Tryz.f87 [(13,lr 16),(15,lr 27),(19,lr 11),(21,lr 11),(23,lr 28),(25,lr 9),(34,lr 16),(38,lr 4),(39,lr 9)] [5]) [0,1,1,1,1,1,5] [(6,.v [.b])]
noncomputable abbrev t1:=ao bW
noncomputable abbrev cX:=ak t1 [0,1,1,2,11,1,1,1,5] []
noncomputable abbrev t2:=ao cX
noncomputable abbrev fU:=ak t2 [0,1,15,1,1,1,5] [(7,.v [.b])]
noncomputable abbrev t3:=ao fU
noncomputable abbrev hW:=ak t3 [0,1,17,1,1,1,5] [(1,.v [.s]),(7,.v [.b])]
noncomputable abbrev t4:=ao hW
abbrev P0:Ps:=[(1,.v [.s]),(5,.l [.I,.I,.I] cA),(6,.v [.b]),(7,.v [.b]),(26,.v [.I])]
noncomputable abbrev nR:=ak t4 [18,1,1,1,5] P0
noncomputable abbrev t5:=ao nR
noncomputable abbrev jF:=ak t5 [16,1,1,1,5] P0
noncomputable abbrev t6:=ao jF
noncomputable abbrev cb:=ak t6 [2,1,1,1,5] [(1,.v [.s]),(5,.l [.I,.I,.I] cA),(6,.v [.b]),(7,.v [.b]),(8,.v [.b]),(26,.v [.I])]
noncomputable abbrev t7:=ao cb
noncomputable abbrev bD:=ak t7 [5] [(0,.v [.I]),(1,.v [.s]),(5,.l [.I,.I,.I] cA),(6,.v [.b]),(7,.v [.b]),(8,.v [.b])]
noncomputable abbrev t8:=ao bD
def aD:=az t8 OE [.I,.s]
end Ew
namespace z3
abbrev P0:Ps:=[(4,.l [.I,.I,.I] cA)]
noncomputable abbrev bD:=ak (ay V Tryz.f88 [(10,lr 12),(13,ls [0,1,2,3,4,5,6,8,9,10,11,12,13,14,15,7,16,17]),(15,ls [0,1,2,3,4,5,7,8,9,6,10,11,12,13,14,15,16,17,18,19,20,21,22,23,24,25]),(18,ls [0,1,2,3,4,6,7,8,5,9,10,11,12,13,14,15,16,17,18]),(27,ls [1,2,3,0,4,5,6,7,8,9,10]),(29,ls [0,1,2,3,4,5,6,8,9,10,11,12,13,14,15,7,16,17]),(31,ls [0,1,2,3,4,5,6,8,9,10,11,12,13,14,15,7,16,17])] [2,4,6]) [0,1,1,1,1,1,2] P0
noncomputable abbrev t1:=ao bD
noncomputable abbrev cb:=ak t1 [0,1,9,1,1,1,2] [(2,.l [.I,.s,.I,.I,.U,.st,.I,.I,.I] cQ),(4,.l [.I,.I,.I] cA),(6,.l [.I,.I,.I] cA)]
noncomputable abbrev t2:=ao cb
noncomputable abbrev fU:=ak t2 [0,1,15,1,1,1,2] P0
noncomputable abbrev t3:=ao fU
abbrev P1:Ps:=[(1,.v [.s]),(2,.l [.I,.s,.I,.I,.U,.st,.I,.I,.I] cQ),(4,.l [.I,.I,.I] cA),(6,.l [.I,.I,.I] cA),(11,.v [.I])]
noncomputable abbrev jF:=ak t3 [16,1,1,1,2] P1
noncomputable abbrev t4:=ao jF
noncomputable abbrev cX:=ak t4 [10,1,1,1,2] P1
noncomputable abbrev t5:=ao cX
noncomputable abbrev bW:=ak t5 [2,1,1,1,2] P1
noncomputable abbrev t6:=ao bW
def aD:=az t6 OI [.a 9,.I,.s,.I,.I,.U,.st,.I,.I,.I,.s]
end z3
namespace uL
noncomputable def a8:=bg (ay V Tryz.f59 [] [3,4,10]) [0,1,1,1,5] [(0,.v [.s]),(3,.l [.I,.s,.I,.I,.U,.st,.I,.I,.I] cQ),(4,.l [.I,.I,.I] cA),(7,.v [.s]),(8,.v [.I])]
noncomputable abbrev t1:=bf a8
noncomputable abbrev bW:=ak t1 [11] [(4,.l [.I,.I,.I] cA),(10,.l [.I,.I,.I] cA),(12,.v [.b])]
noncomputable abbrev t2:=ao bW
def bJ:=bj t2 a8
def aD:=az t2 OB [.s,.a 9,.I,.s,.I,.I,.U,.st,.I,.I,.I]
end uL
namespace K5
def aD:=az (ay V Tryz.f90 [] [2,3]) OA [.a 9,.I,.s,.I,.I,.U,.st,.I,.I,.I,.a 9,.I,.s,.I,.I,.U,.st,.I,.I,.I]
end K5
namespace xx
noncomputable def cv:=bg (ay V Tryz.f60 [(7,lr 7)] [3,5]) [0,1,1,1,3] [(0,.v [.s]),(3,.l [.I,.s,.I,.I,.U,.st,.I,.I,.I] cQ),(7,.v [.I])]
noncomputable abbrev t1:=bf cv
def dO:=bj t1 cv
noncomputable abbrev bD:=ak t1 [3] [(0,.v [.s]),(3,.l [.I,.s,.I,.I,.U,.st,.I,.I,.I] cQ)]
noncomputable abbrev t2:=ao bD
def aD:=az t2 Ov [.s,.a 9,.I,.s,.I,.I,.U,.st,.I,.I,.I]
end xx
namespace K1
def aD:=az (ay V Tryz.f31 [(10,(.sq [1,3,6,7] (.fork (.sq [0] (.fork (ls [2,4,5,8,9,10]) (ls [4,2,5,8,9,10]))) (ls [4,0,2,5,8,9,10]))))] [3,7]) Oo [.s,.a 9,.I,.s,.I,.I,.U,.st,.I,.I,.I]
end K1
namespace Ex
noncomputable abbrev S1:=ak (ay V Tryz.f29 [] []) [4] [(3,.v [.s])]
noncomputable abbrev t1:=ao S1
noncomputable abbrev S0:=ak t1 [3] [(0,.v [.I]),(3,.v [.s])]
noncomputable abbrev t2:=ao S0
def ok:=az t2 OK [.I]
end Ex
namespace r3
abbrev P0:Ps:=[(0,.v [.s]),(2,.v [.I]),(4,.l [.I,.I,.I] cA),(7,.v [.s]),(8,.v [.I])]
noncomputable def a8:=bg (ay V Tryz.f57 [(5,lr 7)] [4]) [0,1,1,1,2] P0
noncomputable abbrev t1:=bf a8
noncomputable abbrev bW:=ak t1 [2,2,1,1,2] P0
noncomputable abbrev t2:=ao bW
def bJ:=bj t2 a8
def aD:=az t2 Oy [.s,.a 3,.I,.I,.I,.I]
end r3
namespace Ey
noncomputable abbrev bD:=ak (ay V Tryz.f58 [] [10,11]) [0,1,11,1,1,1,2] [(4,.v [.I]),(10,.l [.I,.I,.I] cA)]
noncomputable abbrev t1:=ao bD
noncomputable abbrev bW:=ak t1 [3] [(10,.l [.I,.I,.I] cA),(11,.l [.I,.I,.I] cA)]
noncomputable abbrev t2:=ao bW
def aD:=az t2 OL [.s,.I,.I,.I,.I]
end Ey
namespace jq
noncomputable def lA:=bg (ay V Tryz.f30 [(38,lr 13)] [8,10,16]) [0,1,1,1,8] [(0,.v [.s]),(2,.v [.I]),(3,.v [.I]),(8,.l [.I,.s,.I,.I,.U,.st,.I,.I,.I] cQ),(10,.l [.I,.s,.I,.I,.U,.st,.I,.I,.I] cQ),(11,.v [.I]),(13,.v [.I]),(14,.v [.I])]
noncomputable abbrev t1:=bf lA
noncomputable abbrev nR:=ak t1 [2,2,1,2,1,1,8] [(0,.v [.s]),(2,.v [.I]),(3,.v [.I]),(8,.l [.I,.s,.I,.I,.U,.st,.I,.I,.I] cQ),(10,.l [.I,.s,.I,.I,.U,.st,.I,.I,.I] cQ),(11,.v [.I]),(13,.v [.I]),(14,.v [.I]),(15,.v [.I])]
noncomputable abbrev t2:=ao nR
noncomputable abbrev hW:=ak t2 [2,1,1,1,1,2,1,2,1,1,8] [(0,.v [.s]),(2,.v [.I]),(3,.v [.I]),(8,.l [.I,.s,.I,.I,.U,.st,.I,.I,.I] cQ),(10,.l [.I,.s,.I,.I,.U,.st,.I,.I,.I] cQ),(11,.v [.I]),(13,.v [.I]),(14,.v [.I]),(16,.l [.I,.I,.I] cA)]
noncomputable abbrev t3:=ao hW
def oS:=bj t3 lA
noncomputable abbrev fU:=ak t3 [8] [(0,.v [.s]),(2,.v [.I]),(3,.v [.I]),(8,.l [.I,.s,.I,.I,.U,.st,.I,.I,.I] cQ),(10,.l [.I,.s,.I,.I,.U,.st,.I,.I,.I] cQ),(11,.v [.I]),(13,.v [.I])]
noncomputable abbrev t4:=ao fU
noncomputable abbrev cX:=ak t4 [7] [(0,.v [.s]),(1,.v [.I]),(2,.v [.I]),(3,.v [.I]),(8,.l [.I,.s,.I,.I,.U,.st,.I,.I,.I] cQ),(10,.l [.I,.s,.I,.I,.U,.st,.I,.I,.I] cQ),(11,.v [.I]),(13,.v [.I])]
noncomputable abbrev t5:=ao cX
abbrev P0:Ps:=[(0,.v [.s]),(1,.v [.I]),(2,.v [.I]),(3,.v [.I]),(8,.l [.I,.s,.I,.I,.U,.st,.I,.I,.I] cQ),(10,.l [.I,.s,.I,.I,.U,.st,.I,.I,.I] cQ),(11,.v [.I])]
noncomputable abbrev cb:=ak t5 [5] P0
noncomputable abbrev t6:=ao cb
abbrev P1:Ps:=[(0,.v [.s]),(1,.v [.I]),(2,.v [.I]),(3,.v [.I]),(8,.l [.I,.s,.I,.I,.U,.st,.I,.I,.I] cQ),(10,.l [.I,.s,.I,.I,.U,.st,.I,.I,.I] cQ),(11,.v [.I]),(12,.v [.I])]
noncomputable abbrev bW:=ak t6 [2,1,1,1,1,1,4] P1
noncomputable abbrev t7:=ao bW
noncomputable abbrev bD:=ak t7 [1,1,1,1,1,1,4] P1
noncomputable abbrev t8:=ao bD
noncomputable abbrev rH:=ak t8 [0,1,9,1,1,1,4] P0
noncomputable abbrev t9:=ao rH
noncomputable abbrev WM:=ak t9 [10,1,1,1,4] [(0,.v [.s]),(1,.v [.I]),(2,.v [.I]),(3,.v [.I]),(8,.l [.I,.s,.I,.I,.U,.st,.I,.I,.I] cQ),(10,.l [.I,.s,.I,.I,.U,.st,.I,.I,.I] cQ),(11,.v [.I]),(32,.v [.I])]
noncomputable abbrev t10:=ao WM
def aD:=az t10 OH [.s,.I,.I,.I]
end jq
namespace uM
abbrev P0:Ps:=[(0,.v [.s]),(1,.v [.I]),(5,.v [.I]),(6,.v [.I])]
noncomputable def L0:=bg (ay V Tryz.f33 [] []) [0,1,1,1,2] P0
noncomputable abbrev t1:=bf L0
noncomputable abbrev S1:=ak t1 [2,2,1,1,2] P0
noncomputable abbrev t2:=ao S1
def bC:=bj t2 L0
def ok:=az t2 OJ [.s,.I]
end uM
namespace K8
def aD:=az (ay V Tryz.f32 [] [3]) OM [.I,.a 3,.I,.I,.I]
end K8
namespace n9
abbrev P0:Ps:=[(0,.v [.s]),(1,.v [.I]),(2,.v [.I]),(7,.v [.s]),(8,.v [.I])]
noncomputable def a8:=bg (ay V Tryz.f13 [(5,(.sq [0,1,2,3,4,5,6,7,8,9,10,11,12,13,14] (.fork (ls [15,16,17]) (ls [16,15,17]))))] [9]) [0,1,1,1,2] P0
noncomputable abbrev t1:=bf a8
noncomputable abbrev cb:=ak t1 [2,2,1,1,2] P0
noncomputable abbrev t2:=ao cb
noncomputable abbrev bW:=ak t2 [1,2,1,2,1,1,2] [(0,.v [.s]),(1,.v [.I]),(2,.v [.I]),(7,.v [.s]),(8,.v [.I]),(9,.l [.I,.s,.I,.I,.U,.st,.I,.I,.I] cQ)]
noncomputable abbrev t3:=ao bW
noncomputable abbrev cX:=ak t3 [3] [(7,.v [.s])]
noncomputable abbrev t4:=ao cX
def bJ:=bj t4 a8
def aD:=az t4 F2 [.s,.I,.I]
end n9
def fI(n:Int)(w:J):aj V Oq #[.i n] w λr j=>r=ae (ee (bM n))/\af w j:=
 K2.aD _ w _ ((bN [] ws).aK λb k d=>d.ai λq h=>⟨rfl,h.fr⟩)
def oY(n:Int)(w:J):aj V OC #[.i n] w λr j=>r=ae (ee (fk n))/\af w j:=
 K6.aD _ w _ ((bN [] ws).aK λb k d=>d.ai λq h=>⟨rfl,h.fr⟩)
def G7(s:bA)(w:J):aj V Ot #[ee s] w λr y=>r=ae (ee (iz s))/\af w y:=by
 refine K3.aD _ _ _ w _ ((bN [] ws).aK λb C x=>x.aK λB q k=>aO (λj=>k.aA (fI s.n q) ?_) (λj=>k.aA (oY s.n q) ?_))
 .rintro _ z rfl d;exact⟨_,_,_,rfl,d.ai λA h=>⟨by unfold iz;rw[av j],h.fr⟩⟩
 .rintro _ z rfl d;exact⟨_,_,_,rfl,d.ai λA h=>⟨by unfold iz;rw[ag j],h.fr⟩⟩
def vh{op:Int}(d:0<=op)(h:op<=34):op=0\/op=1\/op=2\/op=3\/op=4\/op=5\/op=6\/op=7\/op=8\/op=9\/op=10\/op=11\/op=12\/op=13\/op=14\/op=15\/op=16\/op=17\/op=18\/op=19\/op=20\/op=21\/op=22\/op=23\/op=24\/op=25\/op=26\/op=27\/op=28\/op=29\/op=30\/op=31\/op=32\/op=33\/op=34:=co
def Jg(op:Int)(w:J):aj V Ox #[.i op] w λr j=>r=ae (.i (dk op))/\af w j:=by
 refine K4.ok op w _ ?_;by_cases d:op<0
 .exact aM (aQ d) ⟨by unfold dk;rw[av (.inl d)],Fr.refl _ _⟩
 refine aP (aV d) ?_;by_cases h:op>34
 .exact aM (aQ h) ⟨by unfold dk;rw[av (.inr h)],Fr.refl _ _⟩
 refine aP (aV h) ?_;rcases vh co (by omega:op<=34)with rfl|rfl|rfl|rfl|rfl|rfl|rfl|rfl|rfl|rfl|rfl|rfl|rfl|rfl|rfl|rfl|rfl|rfl|rfl|rfl|rfl|rfl|rfl|rfl|rfl|rfl|rfl|rfl|rfl|rfl|rfl|rfl|rfl|rfl|rfl<;>exact⟨rfl,Fr.refl _ _⟩
def LZ{s:ByteArray}{i:Nat}(h:i<s.size):s[i]? =some (gQ (bl s) i):=by
 have d:i<(bl s).length:=h;have e:gQ (bl s) i=(bl s)[i]:=by unfold gQ;rw[List.getD_eq_getElem?_getD,a' d];rfl
 rw[e,getElem?_pos s i h];rfl
def nk(c:UInt8)(m:List UInt8):eZ (c::m)=(au (m.length<=15)&&fv c&&m.all dc):=rfl
def XV(s:ByteArray)(w:J):aj V Oz #[.string s] w λr j=>r=ae (.bool (eZ (bl s)))/\af w j:=by
 have A:(bl s).length=s.size:=dQ s;have no:eZ (bl s)=false->(Ending.returned (.bool false)=ae (.bool (eZ (bl s)))/\af w w):=λh=>⟨by rw[h],Fr.refl _ _⟩;cases B:bl s with
 |nil=>
  have D:s.size=0:=by rw[<-A,B];rfl
  exact m9.ok s w _ (aM (aQ co) ⟨rfl,Fr.refl _ _⟩)
 |cons c m=>
  have Q:s.size=m.length+1:=by rw[<-A,B];rfl
  rw[B]at no;have L:gQ (bl s) 0=c:=by rw[B];rfl
  have D:s[a5 0]? =some c:=by rw[<-L];exact LZ co
  refine m9.ok s w _ (aP (aV co) (aE (λh=>no ?_) (λh=>⟨co,c,D,aE (λN=>no ?_) (λN=>⟨co,c,D,aE (λG=>no ?_) (λG=>?_)⟩)⟩)))
  .rw [nk,aV co];rfl
  .rw [nk];unfold fv;rw[aV (show ¬97<=c.toNat by omega)];simp
  .rw [nk];unfold fv;rw[aV (show ¬c.toNat<=122 by omega)];simp
  have I:eZ (c::m)=m.all dc:=by rw[nk];unfold fv;rw[aQ (show m.length<=15 by omega),aQ (show 97<=c.toNat by omega),aQ (show c.toNat<=122 by omega)];simp
  have K:eZ (c::m)=(bl s).all dc:=by rw[I,B,List.all_cons];unfold dc fv;rw[aQ (show 97<=c.toNat by omega),aQ (show c.toNat<=122 by omega)];simp
  rw[K];have loop:∀(d i:Nat),i+d=s.size->(bl s).all dc=((bl s).drop i).all dc->m9.L1 s (i:Int) w λr j=>r=ae (.bool ((bl s).all dc))/\af w j:=by
   intro d;induction d with
   |zero=>
    intro i O k;rw[du co]at k;exact m9.fH _ _ _ _ (aP (aV co) ⟨by rw[k];rfl,Fr.refl _ _⟩)
   |succ d P=>
    intro i O k;have q:=LZ (show i<s.size by omega);rw[dw (by omega:i<(bl s).length),List.all_cons,show(bl s)[i]'co=gQ (bl s) i by unfold gQ;rw[List.getD_eq_getElem?_getD,a' (by omega:i<(bl s).length)];rfl]at k;generalize gQ (bl s) i=x at q k;have go:dc x=true->m9.S4 s (i:Int) w λr j=>r=ae (.bool ((bl s).all dc))/\af w j:=λh=>by show m9.L1 s (ah .i64 ((i:Int)+1)) w _;rw[bb _ co];exact P (i+1) co (by rw[k,h,Bool.true_and])
    have stop:dc x=false->(Ending.returned (.bool false)=ae (.bool ((bl s).all dc))/\af w w):=λh=>⟨by rw[k,h,Bool.false_and],Fr.refl _ _⟩;have H:fv x=false->∀o:Bool,o=((au (48<=x.toNat)&&au (x.toNat<=57))||x==45)->m9.S3 s (i:Int) false o w λr j=>r=ae (.bool ((bl s).all dc))/\af w j:=λy o C=>by
     refine aM rfl (dW (λh=>stop ?_) (λh=>go ?_))
     .unfold dc;rw[y,Bool.false_or,<-C,h]
     .unfold dc;rw[y,Bool.false_or,<-C,h]
    have F:(((x.toNat:Int)==45):Bool)=(x==45):=by
     by_cases h:x=45
     .subst h;rfl
     .rw [beq_eq_false_iff_ne.2 h,beq_eq_false_iff_ne];intro G;exact h (UInt8.toNat_inj.1 (by have:((45:UInt8).toNat:Int)=45:=rfl;omega))
    have z:((i:Int)).toNat=i:=bo i;have E:∀l:Bool,l=fv x->m9.S2 s (i:Int) l w λr j=>r=ae (.bool ((bl s).all dc))/\af w j:=λl A=>by
     have fin:∀o:Bool,o=((au (48<=x.toNat)&&au (x.toNat<=57))||x==45)->m9.S3 s (i:Int) l o w λr j=>r=ae (.bool ((bl s).all dc))/\af w j:=λo C=>by
      cases y:fv x with
      |true=>rw[A,y];exact aP rfl (go (by unfold dc;rw[y];rfl))
      |false=>rw[A,y];exact H y o C
     refine⟨co,x,by rw[z];exact q,aE (λh=>⟨co,x,by rw[z];exact q,aE (λM=>fin true ?_) (λM=>⟨co,x,by rw[z];exact q,?_⟩)⟩) (λh=>⟨co,x,by rw[z];exact q,?_⟩)⟩
     .rw [aQ (show 48<=x.toNat by omega),aQ (show x.toNat<=57 by omega)];rfl
     .rw [F];exact fin _ (by rw[aV (show ¬x.toNat<=57 by omega)];simp)
     .rw [F];exact fin _ (by rw[aV (show ¬48<=x.toNat by omega)];simp)
    refine m9.fH _ _ _ _ (aM (aQ co) ⟨co,x,by rw[z];exact q,aE (λh=>⟨co,x,by rw[z];exact q,E _ ?_⟩) (λh=>E _ ?_)⟩)
    .unfold fv;rw[aQ (show 97<=x.toNat by omega),Bool.true_and];exact decide_eq_decide.2 co
    .unfold fv;rw[aV (show ¬97<=x.toNat by omega),Bool.false_and]
  exact loop s.size 0 co ws
def G8(n lo hi:Int)(w:J):aj V x4 #[.int .i64 n,.int .i64 lo,.int .i64 hi] w λr j=>r=ae (.bool (au (lo<=n/\n<=hi)))/\af w j:=by
 refine K0.ok _ _ _ w _ (aE (λd=>⟨?_,Fr.refl _ _⟩) (λd=>⟨?_,Fr.refl _ _⟩))
 .have:(lo<=n/\n<=hi)↔n<=hi:=⟨λd=>d.2,λh=>⟨d,h⟩⟩;simp only[this]
 .rw [aV co]
def adm(s:bA)(w:J):aj V On #[ee s] w λr j=>r=ae (.int .i64 (hr s))/\af w j:=by
 refine r2.aD _ _ _ w _ ((bN [] ws).aK λB z A=>?_);have fin:∀{d:J} {L:List En} (b:Bool),b=cm s->LH F0 w d L []->r2.bD b d λr j=>r=ae (.int .i64 (hr s))/\af w j:=by
  rintro d L b rfl G;refine dW (λh=>⟨?_,G.fr⟩) (λh=>⟨?_,G.fr⟩)
  .unfold hr;rw[ag (by simp[h])]
  .unfold hr;rw[av h]
 have plain:∀lo:Int,(cm s=(au (lo<=s.n/\s.n<=64)&&(s.x==0)))->eJ [B] V x4 #[.int .i64 s.n,.int .i64 lo,.int .i64 64] z λy d=>∃t10:Bool,y=ae (.bool t10)/\bt t10 (r2.bD (s.x==0) d λr j=>r=ae (.int .i64 (hr s))/\af w j) (r2.bD false d λr j=>r=ae (.int .i64 (hr s))/\af w j):=by
  intro lo q;refine A.aA (G8 _ _ _ z) ?_;rintro _ d rfl k;refine⟨_,rfl,bP (λh=>fin _ ?_ k) (λh=>fin _ ?_ k)⟩
  .rw [q,h];rfl
  .rw [q,h];rfl
 have array:∀lo:Int,(cm s=(au (lo<=s.n/\s.n<=64)&&au (1<=s.x/\s.x<=16)))->eJ [B] V x4 #[.int .i64 s.n,.int .i64 lo,.int .i64 64] z λy d=>∃t10:Bool,y=ae (.bool t10)/\bt t10 (eJ [B] V x4 #[.int .i64 s.x,.int .i64 1,.int .i64 16] d λy I=>∃t34:Bool,y=ae (.bool t34)/\r2.bD t34 I λr j=>r=ae (.int .i64 (hr s))/\af w j) (r2.bD false d λr j=>r=ae (.int .i64 (hr s))/\af w j):=by
  intro lo q;refine A.aA (G8 _ _ _ z) ?_;rintro _ d rfl k;refine⟨_,rfl,bP (λh=>k.aA (G8 _ _ _ d) ?_) (λh=>fin _ ?_ k)⟩
  .rintro _ K rfl H;exact⟨_,rfl,fin _ (by rw[q,h];rfl) H⟩
  .rw [q,h];rfl
 refine aO (λC=>plain 1 ?_) (λC=>aO (λD=>plain 0 ?_) (λD=>aO (λE=>array 1 ?_) (λE=>aO (λF=>array 0 ?_) (λF=>fin _ ?_ A))))
 .unfold cm;simp[C]
 .unfold cm;simp[D]
 .unfold cm;simp[E,Bool.and_assoc]
 .unfold cm;simp[F,Bool.and_assoc]
 .unfold cm;simp[C,D,E,F]
section
variable {M:Nat->Prop} {w0 w:J} {L D:List En} {bs:List Nat}
def wU(w:J)(h:Nat)(vs:List aa)(ty:aC)(b:Nat):¬(En.c h vs ty).P ({w with heap:=Array.replicate (b+1) (.map #[] 0)}):=by intro d;have d:({w with heap:=Array.replicate (b+1) (.map #[] 0)}:J).heap[h]? =some (.cells vs.toArray ty (0,0)):=d;simp[Array.getElem?_replicate]at d
def qg{d:Nat}{vs:List aa}{ty:aC}{b:Nat}:b∈(En.c d vs ty).fp↔b=d:=by simp[En.c,En.ob]
def _root_.Go.W.LH.B6{j:Nat}{vs:List aa}{ty:aC}(H:LH M w0 w (.c j vs ty::L) D){Y:J}(f:Fr (·=j) w Y){y:List aa}(h:Y.heap[j]? =some (.cells y.toArray ty (0,0))):
  LH M w0 Y (.c j y ty::L) D/\∀e:En,e.P Y->(∀b∈e.fp,w.heap.size<=b)->LH M w0 Y (.c j y ty::L) (D++[e]):=by
 have k:LH M w0 Y (.c j y ty::L) D:=H.YP 0 f h;refine⟨k,λe C E=>⟨k.fr,k.own,λz d=>?_,k.new,k.nd,λz d b B A x q=>?_⟩⟩
 .rcases aW.1 d with d|d
  .exact k.rd z d
  .simp at d;subst d;exact C
 .rcases aW.1 d with d|d
  .exact k.dj z d b B A x q
  .simp at d;subst d;have F:=E b B;have G:b<w.heap.size:=by
    rcases aq.1 x with rfl|x
    .have q:=qg.1 q;have:=(En.c j vs ty).lt w (H.get 0) j (qg.2 rfl);omega
    .exact A.lt w (H.own A (fF _ x)) b q
   omega
def _root_.Go.W.LH.rS{h:Nat}{vs:List aa}{ty:aC}(H:LH M w0 w (.c h vs ty::L) D){P:aH}{g:FuncId}{args:Array aa}{A:aJ}{j:List aa}{K:aJ}(x:aj P g args w λr d=>(A r d/\d.heap[h]? =some (.cells j.toArray ty (0,0)))/\Fr (·=h) w d)(y:∀r d,A r d->LH M w0 d (.c h j ty::L) D->(∀e:En,e.P d->(∀b∈e.fp,w.heap.size<=b)->LH M w0 d (.c h j ty::L) (D++[e]))->K r d):aj P g args w K:=
 x.mono λr d ⟨⟨q,k⟩,f⟩=>y r d q (H.B6 f k).1 (H.B6 f k).2
def _root_.Go.W.LH.iP{h:Nat}{vs:List aa}{ty:aC}(H:LH M w0 w (.c h vs ty::L) D){P:aH}{g:FuncId}{args:Array aa}{A:aJ}{j:List aa}{K:aJ}(y:aj P g args w λr d=>(A r d/\d.heap[h]? =some (.cells j.toArray ty (0,0)))/\Fr (·=h) w d)(z:∀r d,A r d->LH M w0 d (.c h j ty::L) D->(∀e:En,e.P d->(∀b∈e.fp,w.heap.size<=b)->LH M w0 d (.c h j ty::L) (D++[e]))->K r d)(bF:∀b∈bs,En.g b∈(En.c h vs ty::L):=by simp):eJ bs P g args w K:=
 ⟨(·=h),λb x B=>o' H (i:=0) rfl (wU w h vs ty) (bF b x) (by rw[B];exact qg.2 rfl),y.mono λr d ⟨⟨q,k⟩,f⟩=>⟨f,z r d q (H.B6 f k).1 (H.B6 f k).2⟩⟩
end
def gN{s:ByteArray}{i:Nat}(h:i<s.size):s[i]? =some (gQ (bl s) i):=by rw[getElem?_pos s i h];unfold gQ;rw[List.getD_eq_getElem?_getD,a' (show i<(bl s).length by rw[dQ];exact h)];rfl
def yX{x:UInt8}{n:Nat}{A B:Prop}(k:n<256)(h:(x==c9 n)=true->A)(j:(x==c9 n)=false->B):bt ((x.toNat:Int)==(n:Int)) A B:=by
 have e:x.toNat=n↔x=c9 n:=by rw[<-UInt8.toNat_inj,UInt8.toNat_ofNat'];omega
 refine aO (λd=>h (by grind)) (λd=>j (by grind))
def yW{x:UInt8}{n:Nat}{A B:Prop}(k:n<256)(h:(x==c9 n)=false->A)(j:(x==c9 n)=true->B):bt ((x.toNat:Int) !=(n:Int)) A B:=by
 have e:x.toNat=n↔x=c9 n:=by rw[<-UInt8.toNat_inj,UInt8.toNat_ofNat'];omega
 refine dA (λd=>h (by grind)) (λd=>j (by grind))
def IY{p:UInt8->Prop}(h:∀d:Fin 256,p (c9 d.val))(c:UInt8):p c:=by have:=h ⟨c.toNat,c.toNat_lt⟩;simpa using this
def Zj:∀n:Fin 16,(bh #[48,49,50,51,52,53,54,55,56,57,97,98,99,100,101,102])[n.val]? =some (iS n.val):=by decide+kernel
def DT(n:Nat)(h:n<16)(w:J):aj V N9 #[.i (n:Int)] w λr d=>r=ae (.int .u8 ((iS n).toNat:Int))/\af w d:=
 KP.ok _ w _ ⟨co,_,Zj ⟨n,h⟩,rfl,Fr.refl _ _⟩
def JI(c:UInt8)(w:J):aj V Of #[.int .u8 (c.toNat:Int)] w λr q=>r=ae (.bool (ot c))/\af w q:=by
 refine KV.ok _ w _ (aE (λj=>aE (λk=>yW (n:=39) co (λd=>⟨?_,Fr.refl _ _⟩) (λd=>⟨?_,Fr.refl _ _⟩)) (λk=>⟨?_,Fr.refl _ _⟩)) (λj=>⟨?_,Fr.refl _ _⟩))
 .have e:((c.toNat:Int) !=92)= !(c==92):=by
   have:=@yW c 92 ((((c.toNat:Int) !=92)=true)/\(c==92)=false) ((((c.toNat:Int) !=92)=false)/\(c==92)=true);cases x:((c.toNat:Int) !=92)with
   |true=>
    have h:c≠92:=λe=>by subst e;grind
    grind
   |false=>
    have h:c=92:=by
     rw[<-UInt8.toNat_inj]
     grind
    grind
  rw[e];unfold ot
  grind
 .have d:(c==39)=true:=d;unfold ot
  grind
 .unfold ot
  grind
 .unfold ot
  grind
def acz:∀n:Fin 16,iX (iS n.val)=(n.val:Int):=by decide+kernel
def acB:∀d:Fin 256,iX (c9 d.val)=-1\/∃n:Fin 16,iS n.val=c9 d.val:=by decide+kernel
def acA:∀d:Fin 256,iX (c9 d.val)<16:=by decide+kernel
def zD(c:UInt8)(w:J):aj V Oe #[.int .u8 (c.toNat:Int)] w λr k=>r=ae (.int .i64 (iX c))/\af w k:=by
 have loop:∀(d i:Nat) (h:J),i+d=16->(∀j,j<i->iS j≠c)->af w h->xo.L0 c.toNat (i:Int) h λr k=>r=ae (.int .i64 (iX c))/\af w k:=by
  intro d;induction d with
  |zero=>
   intro i h y z f;refine xo.bC _ _ _ _ (aP (aV co) ⟨?_,f⟩);have:=IY (p:=λc=>iX c=-1\/∃n:Fin 16,iS n.val=c) acB c
   grind
  |succ d A=>
   intro i h y z f;refine xo.bC _ _ _ _ (aM (aQ co) ((DT i co h).mono ?_));rintro _ B ⟨rfl,q⟩;refine⟨_,rfl,aO (λx=>⟨?_,f.dN q⟩) (λx=>?_)⟩
   .have e:iS i=c:=by rw[<-UInt8.toNat_inj];omega
    have:=acz ⟨i,co⟩
    grind
   .rw [bb _ co];refine A (i+1) B co (λj C=>?_) (f.dN q)
    grind
 exact xo.ok _ w _ (loop 16 0 w co (λj x=>co) (Fr.refl _ _))
def A8(x:UInt8×Nat):cE:=ae (.tuple #[.int .u8 (x.1.toNat:Int),.i (x.2:Int)])
def acC:∀d h:Fin 16,ah .u8 (ah .i64 ((ah .i64 (16 *(d.val:Int)))+(h.val:Int)))=((c9 ((16 *(d.val:Int)+(h.val:Int)).toNat)).toNat:Int):=by decide+kernel
def Rq{c:UInt8}(h:0<=iX c):∃d:Fin 16,iX c=(d.val:Int):=by have:=IY (p:=λc=>iX c<16) acA c;exact⟨⟨(iX c).toNat,co⟩,by grind⟩
def DS(s:ByteArray)(i:Nat)(hi:i<=1000000)(w:J):aj V N8 #[.string s,.i (i:Int)] w λr d=>r=A8 (hX (bl s) i)/\af w d:=by
 have y:ah .i64 ((i:Int)+1)=((i+1:Nat):Int):=by rw[aN _ co];omega
 have z:ah .i64 ((i:Int)+2)=((i+2:Nat):Int):=by rw[aN _ co];omega
 have A:ah .i64 ((i:Int)+3)=((i+3:Nat):Int):=by rw[aN _ co];omega
 have F:ah .i64 ((i:Int)+4)=((i+4:Nat):Int):=by rw[aN _ co];omega
 have U:(bl s).length=s.size:=dQ s;have no:∀d,af w d->hX (bl s) i=(0,0)->xn.S1 d (λr d=>r=A8 (hX (bl s) i)/\af w d):=λd f C=>⟨by rw[C];rfl,f⟩;have st:∀d,af w d->(au (i+3<=(bl s).length)&&gQ (bl s) i==39&&gQ (bl s) (i+2)==39&&ot (gQ (bl s) (i+1)))=false->xn.S0 s (i:Int) d (λr d=>r=A8 (hX (bl s) i)/\af w d):=by
  intro d f W;have E:(au (i+4<=(bl s).length)&&gQ (bl s) i==92&&gQ (bl s) (i+1)==120&&au (0<=iX (gQ (bl s) (i+2)))&&au (0<=iX (gQ (bl s) (i+3))))=false->∀d,af w d->xn.S1 d (λr d=>r=A8 (hX (bl s) i)/\af w d):=λC d f=>no d f (by
   unfold hX
   grind)
  show bt _ _ _;rw[F,A,z,y];refine aE (λM=>⟨co,_,gN (i:=i) co,yX (n:=92) co (λh=>⟨co,_,gN (i:=i+1) co,yX (n:=120) co (λj=>⟨co,_,gN (i:=i+2) co,(zD _ d).mono ?_⟩) (λj=>?_)⟩) (λh=>?_)⟩) (λM=>?_)
  rotate_left
  .grind
  .grind
  .grind
  rintro _ q ⟨rfl,k⟩;refine⟨_,rfl,aE (λN=>⟨co,_,gN (i:=i+3) co,(zD _ q).mono ?_⟩) (λN=>E (by grind) q (f.dN k))⟩;rintro _ x ⟨rfl,B⟩;refine⟨_,rfl,aE (λP=>?_) (λP=>E (by grind) x ((f.dN k).dN B))⟩;have H:af w x.drew:=((f.dN k).dN B).dN (Fr.drew _ _);refine(show mw x _ from ?_);refine⟨co,_,gN (i:=i+2) co,co,_,gN (i:=i+3) co,(zD _ _).mono ?_⟩;rintro _ Y ⟨rfl,I⟩;refine⟨_,rfl,(zD _ _).mono ?_⟩;rintro _ Z ⟨rfl,K⟩;refine⟨_,rfl,?_,(H.dN I).dN K⟩;have h:(gQ (bl s) i==92)=true:=h;have j:(gQ (bl s) (i+1)==120)=true:=j;have G:hX (bl s) i=(c9 ((16 *iX (gQ (bl s) (i+2))+iX (gQ (bl s) (i+3))).toNat),4):=by
   unfold hX
   grind
  rw[G];obtain⟨S,O⟩:=Rq (c:=gQ (bl s) (i+2)) co;obtain⟨T,Q⟩:=Rq (c:=gQ (bl s) (i+3)) co;rw[O,Q,acC S T];rfl
 refine xn.ok _ _ w _ ?_;rw[A,z,y];refine aE (λL=>⟨co,_,gN (i:=i) co,yX (n:=39) co (λh=>⟨co,_,gN (i:=i+2) co,yX (n:=39) co (λj=>⟨co,_,gN (i:=i+1) co,(JI _ w).mono ?_⟩) (λj=>?_)⟩) (λh=>?_)⟩) (λL=>?_)
 rotate_left
 .exact st w (Fr.refl _ _) (by grind)
 .exact st w (Fr.refl _ _) (by grind)
 .exact st w (Fr.refl _ _) (by grind)
 rintro _ q ⟨rfl,k⟩;refine⟨_,rfl,bP (λD=>⟨co,_,gN (i:=i+1) co,?_,k⟩) (λD=>st q k (by grind))⟩;have h:(gQ (bl s) i==39)=true:=h;have j:(gQ (bl s) (i+2)==39)=true:=j;unfold hX;rw[h,j,D,aQ (show i+3<=(bl s).length by omega)];rfl
def Dy(s:BL)(i:Nat):(hX s i).2<=4/\(0<(hX s i).2->i+(hX s i).2<=s.length):=by
 unfold hX
 grind
def Hn(g:Db):cE:=ae (.tuple #[.agg #[.i (g.k:Int),.int .u8 (g.lo.toNat:Int),.int .u8 (g.hi.toNat:Int),.slice none 0 0],.i (g.n:Int)])
def Sw(s:BL)(i:Nat):i+(kr s i).n<=s.length\/(kr s i).n=0:=by
 unfold kr;simp only;have d:=Dy s i;split
 .grind
 .split
  .exact .inr rfl
  .split
   .exact .inr rfl
   .split
    .exact .inr rfl
    grind
def Yv(s:ByteArray)(Z:s.size<=100000)(i:Nat)(hi:i<s.size)(w:J):aj V Oh #[.string s,.i (i:Int)] w λr Y=>r=Hn (kr (bl s) i)/\af w Y:=by
 have W:(bl s).length=s.size:=dQ s;refine uK.aD _ _ w _ ((bN [] ws).aK λb T H=>H.aA (DS s i co T) ?_);rintro _ U rfl C;refine⟨_,_,rfl,aE (λQ=>C.ai λh d=>⟨?_,d.fr⟩) (λQ=>⟨co,_,gN (i:=i) hi,yW (n:=91) co (λj=>C.ai λh d=>⟨?_,d.fr⟩) (λj=>?_)⟩)⟩
 .unfold kr;simp only;rw[av co];rfl
 .have j:(gQ (bl s) i==91)=false:=j;unfold kr;simp only;rw[ag co,av (beq_eq_false_iff_ne.1 j)];rfl
 have j:gQ (bl s) i=91:=eq_of_beq j;rw[bb _ co];refine C.aA (DS s (i+1) co U) ?_;rintro _ h rfl d;have K:=Dy (bl s) (i+1);have bad:∀(Y:J),LH F0 w Y [.g b] []->kr (bl s) i=sE->uK.bW b 0 0 0 ⟨none,0,0⟩ Y λr Y=>r=Hn (kr (bl s) i)/\af w Y:=λY A F=>A.ai λS B=>⟨by rw[F];rfl,B.fr⟩;have y:∀(Y:J),LH F0 w Y [.g b] []->kr (bl s) i=sE->uK.cX b 0 0 0 ⟨none,0,0⟩ Y λr Y=>r=Hn (kr (bl s) i)/\af w Y:=λY A F=>A.ai λS B=>⟨by rw[F];rfl,B.fr⟩;have q:kr (bl s) i=(let a:=hX (bl s) (i+1)
   let dash:=i+1+a.2
   if a.2=0\/(bl s).length<=dash\/gQ (bl s) dash≠45 then sE else
   let c:=hX (bl s) (dash+1)
   let fin:=dash+1+c.2
   if c.2=0\/(bl s).length<=fin\/gQ (bl s) fin≠93\/c.1.toNat<a.1.toNat then sE else⟨2,a.1,c.1,fin+1 - i⟩):=by
  conv=>lhs;unfold kr
  grind
 simp only at q;generalize hX (bl s) (i+1)=a at K q;refine⟨_,_,rfl,?_⟩;have N:ah .i64 (((i+1:Nat):Int)+(a.2:Int))=((i+1+a.2:Nat):Int):=by rw[aN _ co];omega
 show uK.bD s (i:Int) b 0 0 0 ⟨none,0,0⟩ (a.1.toNat:Int) (a.2:Int) (ah .i64 (((i+1:Nat):Int)+(a.2:Int))) h _;rw[N];refine aO (λD=>bad h d (by grind)) (λD=>aE (λE=>bad h d (by grind)) (λE=>⟨co,_,gN (i:=i+1+a.2) co,yW (n:=45) co (λz=>bad h d (by grind)) (λz=>?_)⟩));have z:gQ (bl s) (i+1+a.2)=45:=eq_of_beq z;rw[ag (by grind)]at q;rw[bb _ co];refine d.aA (DS s (i+1+a.2+1) co h) ?_;rintro _ x rfl k;have L:=Dy (bl s) (i+1+a.2+1);generalize hX (bl s) (i+1+a.2+1)=c at L q;refine⟨_,_,rfl,?_⟩;have P:ah .i64 (((i+1+a.2+1:Nat):Int)+(c.2:Int))=((i+1+a.2+1+c.2:Nat):Int):=by rw[aN _ co];omega
 show uK.cb s (i:Int) b 0 0 0 ⟨none,0,0⟩ (a.1.toNat:Int) (c.1.toNat:Int) (c.2:Int) (ah .i64 (((i+1+a.2+1:Nat):Int)+(c.2:Int))) x _;rw[P];refine aO (λD=>y x k (by grind)) (λD=>aE (λE=>y x k (by grind)) (λE=>⟨co,_,gN (i:=i+1+a.2+1+c.2) co,yW (n:=93) co (λz=>y x k (by grind)) (λG=>aE (λM=>y x k (by grind)) (λM=>k.ai λw5 I=>⟨?_,I.fr⟩))⟩));have G:gQ (bl s) (i+1+a.2+1+c.2)=93:=eq_of_beq G;rw[q,ag (by grind)];have O:ah .i64 ((ah .i64 (((i+1+a.2+1+c.2:Nat):Int)+1)) - (i:Int))=((i+1+a.2+1+c.2+1 - i:Nat):Int):=by rw[bb _ co,aN _ co];omega
 rw[O];rfl
def dP.c(t:dP):List aa:=[.string (ba t.tx),.i (t.at_:Int),.i (t.k:Int),.int .u8 (t.lo.toNat:Int),.int .u8 (t.hi.toNat:Int),.slice none 0 0]
def VA(t:dP):t.c.length=6:=rfl
def VB(l:List dP)(t:dP):l.flatMap dP.c++t.c=(l++[t]).flatMap dP.c:=ws
def yP{w:J}{s:Sl}{l:List dP}(h:bL 6 w s (l.flatMap dP.c)):s.n=l.length:=by have:=h.1;rw[qn dP.c 6 VA]at this;omega
def Ky:gW V B1 pM (.agg #[.s0,.i 0,.i 0,.int .u8 0,.int .u8 0,.slice none 0 0]) 6 64:=⟨by kernel_rfl,by kernel_rfl,rfl,md,md⟩
def IS(w:J)(l:List dP)(r:cE)(Y:J):Prop:=∃d:Sl,r=ae d.v/\aF Y pM 6 d (l.flatMap dP.c)/\∀h∈ax d,w.heap.size<=h
def Xo(s:ByteArray)(i j:Nat):s.extract i j=ba (((bl s).take j).drop i):=by
 have:bl (s.extract i j)=((bl s).take j).drop i:=by unfold bl;rw[ByteArray.data_extract,Array.toList_extract,List.extract_eq_take_drop];rw[List.drop_take]
 rw[<-this,jk]
def Nn(c:UInt8){A B:Prop}(h:eS c=true->A)(d:eS c=false->B):bt (au ((c.toNat:Int)>=97)) (bt (au ((c.toNat:Int)<=122)) A B) B:=
 aE (λj=>aE (λk=>h (by unfold eS;grind)) (λk=>d (by unfold eS;grind))) (λj=>d (by unfold eS;grind))
def TH(s:BL)(i:Nat):∀(f n:Nat),i+n<=s.length->n<=oE s i f n/\i+oE s i f n<=s.length
 |0,n,d=>⟨bm _,d⟩
 |f+1,n,d=>by
  unfold oE;split
  .rename_i h;simp only[bH,decide_eq_true_eq]at h;have:=TH s i f (n+1) co;omega
  omega
def X5(s:ByteArray)(hs:s.size<=100000)(w:J):aj V N6 #[.string s] w λr F=>IS w (nC (bl s)) r F/\af w F:=by
 have hl:(bl s).length=s.size:=dQ s
 let j:aJ:=λr F=>IS w (nC (bl s)) r F/\af w F
 have fin:∀(acc:List dP) (sl:Sl) (q:J),acc.length<=s.size->nC (bl s)=acc++[⟨[],(bl s).length,0,0,0⟩]->LH F0 w q [.row pM 6 sl (acc.flatMap dP.c)] []->
   dz q (.cells #[.s0,.i (s.size:Int),.i 0,.int .u8 0,.int .u8 0,.slice none 0 0] pM) λw7=>
 ∃(t81:Sl) (U:J),f' V (eu #[B1,B1] B1 #[sl.v,.slice (some (nb q)) 1 1]) w7=.ok (t81.v) U/\j (ae (t81.v)) U:=by intro acc sl q ha h A;have ab:=yP (A.get 0:aF _ _ _ _ _).bd;refine A.qd 0 Ky rfl (λN w2 D _ _=>⟨⟨N,rfl,?_,λac hx=>(D.new _ (aG (i:=0) rfl) ac hx).resolve_right id⟩,D.fr⟩) co;rw[h,<-VB];exact D.get 0
 have loop:∀(f i:Nat) (acc:List dP) (sl:Sl) (q:J),s.size<f+i->i<=s.size->acc.length<=i->nC (bl s)=acc++pJ (bl s) f i->LH F0 w q [.row pM 6 sl (acc.flatMap dP.c)] []->kg.a8 s sl (i:Int) q j:=by
  intro f;induction f with
  |zero=>omega
  |succ f Q=>
   intro i acc sl q hf ak ad h A;refine kg.bJ _ _ _ _ _ (aE (λZ=>⟨co,_,gN (i:=i) co,?_⟩) (λZ=>fin acc sl q co (by rw[h];unfold pJ;grind) A))
   unfold pJ at h;rw[ag co]at h;refine yX (n:=32) co (λz=>?_) (λz=>?_)
   .have z:gQ (bl s) i=32:=eq_of_beq z;rw[av z]at h;rw[bb _ co];exact Q (i+1) acc sl q co co co h A
   have z:gQ (bl s) i≠32:=beq_eq_false_iff_ne.1 z;rw[ag z]at h;simp only at h;refine A.call (Yv s hs i co q) ?_;rintro _ w2 rfl D;have B:=Sw (bl s) i;generalize kr (bl s) i=g at h B;refine⟨_,_,_,⟨none,0,0⟩,_,rfl,D.aK λb w3 G=>?_⟩;have G:LH F0 w w3 [.row pM 6 sl (acc.flatMap dP.c),.g b] []:=G;have one:∀(n:Nat) (C:J),1<=n->i+n<=s.size->nC (bl s)=acc++⟨((bl s).take (i+n)).drop i,i,g.k,g.lo,g.hi⟩::pJ (bl s) f (i+n)->LH F0 w C [.row pM 6 sl (acc.flatMap dP.c),.g b] []->
     kg.cb s sl (i:Int) b (g.k:Int) (g.lo.toNat:Int) (g.hi.toNat:Int) ⟨none,0,0⟩ (n:Int) C j:=by
    intro n C K I P H;show(0:Int)<=_/\_;have E:ah .i64 ((i:Int)+(n:Int))=((i+n:Nat):Int):=by rw[aN _ co];omega
    rw[E,bo,bo,Xo];refine⟨co,co,co,co,H.ai λd x=>?_⟩;have ab:=yP (x.get 0:aF _ _ _ _ _).bd;refine x.jh 0 Ky rfl (λN w6 W=>?_) co;refine Q (i+n) (acc++[⟨((bl s).take (i+n)).drop i,i,g.k,g.lo,g.hi⟩]) N w6 co co (by grind) (by grind) ?_;rw[<-VB];exact W.take 1
   refine aO (λL=>G.ai λC H=>?_) (λL=>G.ai λC H=>one g.n C co co (by grind) H);have L:g.n=0:=co
   rw[av L]at h;have word:∀(e n:Nat) (d:J),s.size<=e+(i+n)->1<=n->i+n<=s.size->oE (bl s) i (bl s).length 1=oE (bl s) i e n->LH F0 w d [.row pM 6 sl (acc.flatMap dP.c),.g b] []->
     kg.cv s sl (i:Int) b (g.k:Int) (g.lo.toNat:Int) (g.hi.toNat:Int) ⟨none,0,0⟩ (n:Int) d j:=by
    intro e;induction e with
    |zero=>
     intro n d P K I B x;have stop:kg.cb s sl (i:Int) b (g.k:Int) (g.lo.toNat:Int) (g.hi.toNat:Int) ⟨none,0,0⟩ (n:Int) d j:=one n d K I (by rw[h,B];rfl) x;have E:ah .i64 ((i:Int)+(n:Int))=((i+n:Nat):Int):=by rw[aN _ co];omega
     refine kg.dO _ _ _ _ _ _ _ _ _ _ _ ?_;rw[E];refine⟨co,_,gN (i:=i) co,bP (λ_=>⟨co,_,gN (i:=i) co,bP (λ_=>aP (aV co) stop) (λ_=>stop)⟩) (λ_=>stop)⟩
    |succ e aa=>
     intro n d P K I B x;have E:ah .i64 ((i:Int)+(n:Int))=((i+n:Nat):Int):=by rw[aN _ co];omega
     have stop:(eS (gQ (bl s) i)&&au (i+n<(bl s).length)&&eS (gQ (bl s) (i+n)))=false->kg.cb s sl (i:Int) b (g.k:Int) (g.lo.toNat:Int) (g.hi.toNat:Int) ⟨none,0,0⟩ (n:Int) d j:=λy=>one n d K I (by
      rw[h,B];conv=>lhs;unfold oE
      rw[y];rfl) x
     refine kg.dO _ _ _ _ _ _ _ _ _ _ _ ?_;rw[E];refine⟨co,_,gN (i:=i) co,?_⟩;have go:eS (gQ (bl s) i)=true->bt (au (((i+n:Nat):Int)<(s.size:Int))) ((0:Int)<=((i+n:Nat):Int)/\∃S:UInt8,s[a5 ((i+n:Nat):Int)]? =some S/\bt (au ((S.toNat:Int)>=97)) ((0:Int)<=((i+n:Nat):Int)/\∃T:UInt8,s[a5 ((i+n:Nat):Int)]? =some T/\bt (au ((T.toNat:Int)<=122)) (kg.cv s sl (i:Int) b (g.k:Int) (g.lo.toNat:Int) (g.hi.toNat:Int) ⟨none,0,0⟩ (ah .i64 ((n:Int)+1)) d j) (kg.cb s sl (i:Int) b (g.k:Int) (g.lo.toNat:Int) (g.hi.toNat:Int) ⟨none,0,0⟩ (n:Int) d j)) (kg.cb s sl (i:Int) b (g.k:Int) (g.lo.toNat:Int) (g.hi.toNat:Int) ⟨none,0,0⟩ (n:Int) d j)) (kg.cb s sl (i:Int) b (g.k:Int) (g.lo.toNat:Int) (g.hi.toNat:Int) ⟨none,0,0⟩ (n:Int) d j):=by
      intro h1;refine aE (λY=>⟨co,_,gN (i:=i+n) co,?_⟩) (λY=>stop (by grind));have key:eS (gQ (bl s) (i+n))=true->kg.cv s sl (i:Int) b (g.k:Int) (g.lo.toNat:Int) (g.hi.toNat:Int) ⟨none,0,0⟩ (ah .i64 ((n:Int)+1)) d j:=λO=>by
       rw[bb _ co];refine aa (n+1) d co co co ?_ x;rw[B];conv=>lhs;unfold oE
       grind
      have M:eS (gQ (bl s) (i+n))=false->_:=λO=>stop (by grind);have y:=Nn (gQ (bl s) (i+n)) key M;exact TX y (λy=>⟨co,_,gN (i:=i+n) co,y⟩) id
     have M:eS (gQ (bl s) i)=false->_:=λO=>stop (by grind);exact TX (Nn (gQ (bl s) i) go M) (λy=>⟨co,_,gN (i:=i) co,y⟩) id
   grind
 refine kg.aD _ w _ ?_;exact loop (s.size+1) 0 [] ⟨none,0,0⟩ w co co ws (by unfold nC;grind) ((bN [] ws).fN pM 6)
abbrev Sx(s:Sl)(st:bU):List aa:=[s.v,.i (st.1:Int),.bool st.2]
abbrev dh(d:Nat)(s:Sl)(st:bU):En:=.c d (Sx s st) VH
abbrev dn(s:Sl)(l:List dP):En:=.bd 6 s (l.flatMap dP.c)
abbrev SA(h:Nat)(s:Sl)(w:J)(A:aJ)(st:bU):aJ:=λr d=>(A r d/\d.heap[h]? =some (.cells (Sx s st).toArray VH (0,0)))/\Fr (·=h) w d
abbrev jd(d:Nat)(s:Sl)(l:List dP)(st:bU)(w:J):Prop:=LH (·=d) w w [dh d s st] [dn s l]
def _root_.Go.W.LH.gn{M:Nat->Prop}{w0 w:J}{L D:List En}{j:Nat}{s:Sl}{l:List dP}{st:bU}(H:LH M w0 w (dh j s st::L) (dn s l::D)):jd j s l st w:=
 LH.s9 _ _ (by
  intro e d;simp only[aq,aL,aR]at d;subst d;exact⟨H.get 0,λb h=>qg.1 h⟩) (by
  simp only[List.flatMap_cons,List.flatMap_nil,List.append_nil];exact(dh j s st).nd) (by
  intro e d;simp only[aq,aL,aR]at d;subst d;exact⟨H.getD 0,λb h q k=>by simp only[aq,aL,aR]at k;subst k;exact H.dj _ oy b h _ oy⟩)
structure IU(w:J)(p:Addr)(i:Nat)(t:dP):Prop where
 c0:w.cell? ((p.add (i *6)).add 0)=some (.string (ba t.tx))
 c1:w.cell? ((p.add (i *6)).add 1)=some (.i (t.at_:Int))
 c2:w.cell? ((p.add (i *6)).add 2)=some (.i (t.k:Int))
 c3:w.cell? ((p.add (i *6)).add 3)=some (.int .u8 (t.lo.toNat:Int))
 c4:w.cell? ((p.add (i *6)).add 4)=some (.int .u8 (t.hi.toNat:Int))
 c5:w.cell? ((p.add (i *6)).add 5)=some (.slice none 0 0)
def yQ{w:J}{s:Sl}{l:List dP}(h:bL 6 w s (l.flatMap dP.c)){i:Nat}(hi:i<l.length){K:Addr->Prop}(k:∀p,s.a=some p->IU w p i (fS l i)->K p):dV s.a K:=by
 have j:l[i]? =some (fS l i):=by unfold fS;rw[List.getD_eq_getElem?_getD,a' hi];rfl
 exact fg.elem (f:=dP.c) (sz:=6) VA co h.2.2 j λp q d=>k p q ⟨d 0 _ rfl,d 1 _ rfl,d 2 _ rfl,d 3 _ rfl,d 4 _ rfl,d 5 _ rfl⟩
def jE(l:List dP):Prop:=0<l.length/\(fS l (l.length - 1)).tx=[]/\(fS l (l.length - 1)).k=0
section
variable {pb:Nat} {s:Sl} {l:List dP} {st:bU} {w:J}
def DU(H:jd pb s l st w)(hi:st.1<l.length):aj V Ol #[.pointer (some (ab pb))] w λr x=>r=ae (.string (ba (fy l st)))/\af w x:=by
 have q:st.2=true->fy l st=[32]:=λh=>by unfold fy;rw[h];rfl
 have k:st.2=false->fy l st=(fS l st.1).tx:=λh=>by unfold fy;rw[h];rfl
 generalize fy l st=u at q k;refine KY.ok _ w _ ⟨st.2,H.ld 0 2,bP (λj=>⟨?_,Fr.refl _ _⟩) (λj=>?_)⟩
 .rw [q j];rfl
 rw[k j];have d:LH (·=pb) w w.drew [dh pb s st] [dn s l]:=H.drew;have y:=yP (d.getD 0:bL _ _ _ _);refine⟨s,d.ld 0 0,_,d.ld 0 1,co,co,yQ (d.getD 0) hi λp z c=>⟨ba (fS l st.1).tx,?_,rfl,Fr.drew _ _⟩⟩;rw[bo];exact c.c0
def ud(a b:BL):((ba a).toList==(ba b).toList)=(a==b):=by rw[ByteArray.toList_eq,ByteArray.toList_eq];rfl
def M1(j:jE l)(hi:st.1<l.length)(k:fy l st≠[])(h:st.2=false):st.1+1<l.length:=by
 rcases Nat.lt_or_ge (st.1+1) l.length with d|d
 .exact d
 .exfalso;apply k;have e:st.1=l.length - 1:=co
  unfold fy;rw[h,e];exact j.2.1
def tf(q:jE l)(hi:st.1<l.length)(u:BL)(w:u≠[32]):(fe l u st).2.1<l.length:=by
 unfold fe;cases d:fy l st==u with
 |false=>exact hi
 |true=>
  have d:=eq_of_beq d;cases k:u.isEmpty with
  |true=>exact hi
  |false=>
   show st.1+1<l.length;refine M1 q hi (λh=>?_) ?_
   .rw [h]at d;subst d;cases k
   .cases j:st.2 with
    |false=>rfl
    |true=>
     exfalso;apply w;rw[<-d];unfold fy;rw[j];rfl
def rQ(H:jd pb s l st w)(hi:st.1<l.length)(x:l.length<=1000000)(u:BL):aj V Om #[.pointer (some (ab pb)),.string (ba u)] w (SA pb s w (λr _=>r=ae (.bool (fe l u st).1)) (fe l u st).2):=by
 refine KZ.ok _ _ w _ (H.call (DU H hi) ?_);rintro _ y rfl h;refine⟨_,rfl,?_⟩;try dsimp only
 rw[ud];have q:((ba u).toList==(bh #[]).toList)=u.isEmpty:=by have:bh #[]=ba []:=rfl;rw[this,ud];cases u<;>rfl
 rw[q];refine dW (λd=>⟨⟨?_,?_⟩,h.fr⟩) (λd=>dW (λj=>⟨_,h.ld 0 1,?_⟩) (λj=>⟨⟨?_,?_⟩,h.fr⟩))
 .unfold fe;rw[d];rfl
 .have:(fe l u st).2=st:=by unfold fe;rw[d];rfl
  rw[this];exact h.get 0
 .rw [bb _ co];refine h.st 0 1 rfl λz k=>⟨⟨?_,?_⟩,k.fr⟩
  .unfold fe;rw[d];rfl
  .have:(fe l u st).2=(st.1+1,st.2):=by unfold fe;rw[d,j];rfl
   rw[this];exact k.get 0
 .unfold fe;rw[d];rfl
 .have:(fe l u st).2=st:=by unfold fe;rw[d,j];rfl
  rw[this];exact h.get 0
def Q'(u:BL):k2 l u st=bif (fe l u st).1 then(fe l u st).2 else((fe l u st).2.1,true):=by unfold k2;generalize fe l u st=x;obtain⟨b,d⟩:=x;cases b<;>rfl
def x8(d:jE l)(hi:st.1<l.length)(u:BL)(h:u≠[32]):(k2 l u st).1<l.length:=by rw[Q'];have:=tf d hi u h;cases(fe l u st).1<;>exact this
def wS(H:jd pb s l st w)(hi:st.1<l.length)(k:l.length<=1000000)(u:BL):aj V Oj #[.pointer (some (ab pb)),.string (ba u)] w (SA pb s w (λr _=>r=ae (.tuple #[])) (k2 l u st)):=by
 refine KX.ok _ _ w _ (H.rS (rQ H hi k u) ?_);rintro _ q rfl d _;rw[Q'];refine⟨_,rfl,dW (λh=>d.st 0 2 rfl λx j=>⟨⟨rfl,?_⟩,j.fr⟩) (λh=>⟨⟨rfl,?_⟩,d.fr⟩)⟩
 .rw [h];exact j.get 0
 .rw [h];exact d.get 0
def X7(H:jd pb s l st w)(hi:st.1<l.length):aj V Oi #[.pointer (some (ab pb))] w λr z=>r=ae (.bool (zx l st))/\af w z:=by refine KW.ok _ w _ ((DU H hi).mono ?_);rintro _ A ⟨rfl,d⟩;have h:=H.br d;refine⟨_,rfl,st.2,h.ld 0 2,?_⟩;have e:∀u:List UInt8,((ba (fy l st)).toList==(ba u).toList)=(fy l st==u):=λu=>ud _ _;have j:=e [];have k:=e [41];have q:=e [44];have x:=e [124];have y:=e [38];unfold zx;show bt _ (bt (!((ba (fy l st)).toList==(ba []).toList)) (bt (!((ba (fy l st)).toList==(ba [41]).toList)) (bt (!((ba (fy l st)).toList==(ba [44]).toList)) (bt (!((ba (fy l st)).toList==(ba [124]).toList)) (Ending.returned (.bool (!((ba (fy l st)).toList==(ba [38]).toList)))=_/\af w A) _) _) _) _) _;rw[j,k,q,x,y];cases st.2<;>cases fy l st==[]<;>cases fy l st==[41]<;>cases fy l st==[44]<;>cases fy l st==[124]<;>first |exact⟨rfl,d⟩|skip
end
def DM(k:Int)(s:Sl)(l:List I)(w:J)(h:(bV s l).P w):aj V xZ #[.i k,s.v] w λr z=>gy (bV s l).fp w (r8 k (I.aw l)) r z/\af w z:=by
 have d:=I.cH (dJ.1 h).1;refine KS.aD _ _ w _ ((g4 h).aK λb B q=>aO (λA=>?_) (λA=>q.ai λy j=>⟨⟨.mk k 0 0 s l,rfl,?_,?_,λb x=>.inr x⟩,j.fr⟩))
 .match l,d with
  |[],d=>simp at d;omega
  |a::b::m,d=>simp at d;omega
  |[a],d=>
   refine⟨co,co,I.dy (dJ.1 (show(bV s [a]).P B from q.getD 0)).1 (i:=0) rfl λp C c=>⟨_,_,_,_,c.c0,c.c1,c.c2,c.c3,q.ai λy j=>⟨⟨a,rfl,rfl,?_,λb x=>.inr ?_⟩,j.fr⟩⟩⟩
   .exact (dJ.1 (show(bV s [a]).P y from j.getD 0)).2.mem ws
   .exact mF.2 (.inr (I.bZ.2 ⟨a,ws,x⟩))
 .show Rx.mk k 0 0 (I.aw l)=_
  match l,d with
  |[],d=>rfl
  |[a],d=>simp at d;omega
  |a::b::m,d=>rfl
 .have:=dJ.1 (show(bV s l).P y from j.getD 0);unfold I.P;exact this
structure m0(s:Sl)(l:List dP)(n:Nat):Prop where
 expr:∀(pb:Nat) (st:bU) (w:J) (x:Rx) (fQ:bU),lL l n st=some (x,fQ)->st.1<l.length->jd pb s l st w->aj V FZ #[.pointer (some (ab pb))] w (SA pb s w (λr Y=>gb w x r Y/\fQ.1<l.length) fQ)
 Ke:∀(pb:Nat) (st:bU) (w:J) (x:Rx) (fQ:bU),o2 l n st=some (x,fQ)->st.1<l.length->jd pb s l st w->aj V AH #[.pointer (some (ab pb))] w (SA pb s w (λr Y=>gb w x r Y/\fQ.1<l.length) fQ)
 seq:∀(pb:Nat) (st:bU) (w:J) (x:Rx) (fQ:bU),pD l n st=some (x,fQ)->st.1<l.length->jd pb s l st w->aj V AJ #[.pointer (some (ab pb))] w (SA pb s w (λr Y=>gb w x r Y/\fQ.1<l.length) fQ)
 item:∀(pb:Nat) (st:bU) (w:J) (x:Rx) (fQ:bU),na l n st=some (x,fQ)->st.1<l.length->jd pb s l st w->aj V AI #[.pointer (some (ab pb))] w (SA pb s w (λr Y=>gb w x r Y/\fQ.1<l.length) fQ)
 atom:∀(pb:Nat) (st:bU) (w:J) (x:Rx) (fQ:bU),rN l n st=some (x,fQ)->st.1<l.length->jd pb s l st w->aj V FY #[.pointer (some (ab pb))] w (SA pb s w (λr Y=>gb w x r Y/\fQ.1<l.length) fQ)
 kids:∀(pb:Nat) (st:bU) (w:J) (m:List Rx) (fQ:bU),se l n st=some (m,fQ)->st.1<l.length->jd pb s l st w->aj V F1 #[.pointer (some (ab pb))] w (SA pb s w (λr Y=>(∃(sl:Sl) (a:List I),r=ae sl.v/\I.aw a=m/\(bV sl a).P Y/\∀b∈(bV sl a).fp,w.heap.size<=b)/\fQ.1<l.length) fQ)
def A7{M:Nat->Prop}{w0 w:J}{L D:List En}{d:Nat}{s:Sl}{st:bU}(H:LH M w0 w (dh d s st::L) D)(i:Nat){e:En}(hi:L[i]? =some e){b:Nat}(k:b∈e.fp):b≠d:=λh=>
 n4 H.nd (i:=i+1) (by grind) (j:=0) rfl co b k (qg.2 h)
def _root_.Go.W.LH.w7{M:Nat->Prop}{w0 w:J}{L D:List En}(H:LH M w0 w L D)(j:Nat){t:I}(k:D[j]? =some (.tree t):=by rfl):LH M w0 w L (D++[.trees [t]]):=by
 refine H.gz _ (Fr.refl _ _) (I.i0 λx d=>?_) λb q=>.inr (.inr ?_)
 .simp at d;subst d;exact H.getD j k
 .obtain ⟨x,d,h⟩:=I.bZ.1 (a0.1 q);simp at d;rw[d]at h;exact⟨_,aG k,a0.2 h⟩
section
variable {s:Sl} {l:List dP} {n:Nat}
def Lt(T:jE l)(S:l.length<=1000000)(U:∀m,m<=n->m0 s l m)(d:Nat)(w:J)(x:Rx)(y:bU):∀(f:Nat),f<=n->∀(acc:List I) (sl:Sl) (b2:Nat) (H:J) (st:bU),tX l f (I.aw acc) st=some (x,y)->st.1<l.length->acc.length+f<=1000000->(∀b∈I.be acc,w.heap.size<=b)->
  LH (·=d) w H [dh d s st,.g b2,.row aT 4 sl (acc.flatMap I.c)] [dn s l,.trees acc]->
  xq.a8 (ab d) b2 0 0 0 ⟨none,0,0⟩ sl H (SA d s w (λr D=>gb w x r D/\y.1<l.length) y)
 |0,_=>λacc sl b2 H st z=>by unfold tX at z;cases z
 |f+1,hf=>λacc sl b2 H st z Q aq aa K=>by
  have au:=I.cH (K.get 2:aF _ _ _ _ _).bd;unfold tX at z;have fin:∀(k:J) (j:bU),j.1<l.length->some (r8 4 (I.aw acc),j)=some (x,y)->LH (·=d) w k [dh d s j,.g b2,.row aT 4 sl (acc.flatMap I.c)] [dn s l,.trees acc]->
    um [b2] xZ #[.i 4,sl.v] k λak al am an w8=>loc [b2] w8 λao=>SA d s w (λr D=>gb w x r D/\y.1<l.length) y (ae (.agg #[.i ak,.int .u8 al,.int .u8 am,an.v])) ao:=by
   intro k j M F q;simp only[fq,eW]at F;obtain⟨rfl,rfl⟩:=F;have ar:∀b∈(bV sl acc).fp,w.heap.size<=b:=λb h=>by
    rcases mF.1 h with h|h
    .exact (q.new _ (aG (i:=2) rfl) b (gM h)).resolve_right (A7 q 1 rfl (gM h))
    grind
   have L:LH (·=d) w k [dh d s j,.g b2] [dn s l,.trees acc,I.row sl acc,.tree (bV sl acc)]:=q.sX 2 1 0 0 0;refine L.rT (DM 4 sl acc k (L.getD 3)) (λb h=>⟨_,aG (i:=3) rfl,a0.2 h⟩) λt Y C A ft=>?_;refine⟨_,_,_,t.s,rfl,A.ai λw4 B=>⟨⟨⟨⟨t,rfl,C,B.getD 4,λb h=>?_⟩,M⟩,B.get 0⟩,B.fr⟩⟩;rcases ft b h with h|h
   .exact bz L.fr.size h
   grind
  have more:∀(k:J) (j:bU),j.1<l.length->(match o2 l f j with
   |some (a,st)=>tX l f (I.aw acc++[a]) st
   |none=>none)=some (x,y)->LH (·=d) w k [dh d s j,.g b2,.row aT 4 sl (acc.flatMap I.c)] [dn s l,.trees acc]->
    um [b2] AH #[.pointer (some (ab d))] k λaf ag ah aj E=>dz E (.cells #[.i af,.int .u8 ag,.int .u8 ah,aj.v] aT) λZ=>
     ∃(t13:Sl) (N:J),f' V (eu #[dE,dE] dE #[sl.v,.slice (some (nb E)) 1 1]) Z=.ok (t13.v) N/\kept [b2] Z N/\xq.a8 (ab d) b2 0 0 0 ⟨none,0,0⟩ t13 N (SA d s w (λr D=>gb w x r D/\y.1<l.length) y):=by
   intro k j M F q;cases P:o2 l f j with
   |none=>grind
   |some ap=>
    obtain⟨a,G⟩:=ap;rw[P]at F;refine q.iP ((U f co).Ke d j k a G P M q.gn) ?_;rintro _ Y ⟨⟨u,rfl,hu,pu,O⟩,ac⟩ _ F3;have A:=F3 (.tree u) pu λb h=>O b (a0.1 h);have A:LH (·=d) w Y [dh d s G,.g b2,.row aT 4 sl (acc.flatMap I.c)] [dn s l,.trees acc,.tree u]:=A;refine⟨_,_,_,u.s,rfl,A.jh 2 lI (xs:=acc.flatMap I.c) rfl (λW E B=>?_) co⟩;have H6:LH (·=d) w E [dh d s G,.g b2,.row aT 4 W ((acc++[u]).flatMap I.c)] [dn s l,.trees (acc++[u])]:=by rw[m5];exact(B.s5 1 2).forget _ ws
    refine Lt T S U d w x y f co (acc++[u]) W b2 E G ?_ ac (by grind) (uR aa λb h=>bz q.fr.size (O b h)) H6;rw[ku];have:I.aw [u]=[a]:=by simp[I.aw,hu]
    grind
  refine xq.bJ _ _ _ _ _ _ _ _ _ (K.iP (rQ K.gn Q S [124]) ?_);have C:=tf T Q [124] md;rintro _ k rfl q _;refine⟨_,rfl,?_⟩;cases hq:fe l [124] st with
  |mk ad j=>
   rw[hq]at z q C;cases ad with
   |true=>exact more k j C z q
   |false=>exact fin k j C z q
def ZE(Q:jE l)(P:l.length<=1000000)(Y:n<=100000)(E:∀m,m<=n->m0 s l m)(d:Nat)(st:bU)(w:J)(x:Rx)(q:bU)(C:lL l (n+1) st=some (x,q))(hi:st.1<l.length)(H:jd d s l st w):
  aj V FZ #[.pointer (some (ab d))] w (SA d s w (λr U=>gb w x r U/\q.1<l.length) q):=by
 unfold lL at C;cases B:o2 l n st with
 |none=>grind
 |some W=>
  obtain⟨a,y⟩:=W;rw[B]at C;refine xq.aD _ w _ (H.aK λk F j=>?_);have j:LH (·=d) w F [dh d s st,.g k] [dn s l]:=j;refine j.iP ((E n (bm _)).Ke d st F a y B hi j.gn) ?_;rintro _ G ⟨⟨u,rfl,S,T,A⟩,O⟩ _ L;have z:=L (.tree u) T λb h=>A b (a0.1 h);have z:LH (·=d) w G [dh d s y,.g k] [dn s l,.tree u]:=z;refine⟨_,_,_,u.s,rfl,z.cZ (n:=1) (sz:=4) (cs:=u.c) rfl md λK M=>?_⟩;have N:LH (·=d) w K [dh d s y,.g k,.row aT 4 ⟨some (ab G.heap.size),1,1⟩ ([u].flatMap I.c)] [dn s l,.trees [u]]:=by
   have e:[u].flatMap I.c=u.c:=ws
   rw[e];exact(M.w7 1).forget _ ws
  refine Lt Q P E d w x q n (bm _) [u] _ k K y ?_ O (by grind) (λb h=>?_) N
  .have:I.aw [u]=[a]:=by simp[I.aw,S]
   grind
  .obtain ⟨t,D,h⟩:=I.bZ.1 h;simp at D;rw[D]at h;exact bz j.fr.size (A b h)
def Kg(T:jE l)(S:l.length<=1000000)(U:∀m,m<=n->m0 s l m)(d:Nat)(w:J)(x:Rx)(y:bU):∀(f:Nat),f<=n->∀(acc:List I) (sl:Sl) (b2:Nat) (H:J) (st:bU),ua l f (I.aw acc) st=some (x,y)->st.1<l.length->acc.length+f<=1000000->(∀b∈I.be acc,w.heap.size<=b)->
  LH (·=d) w H [dh d s st,.g b2,.row aT 4 sl (acc.flatMap I.c)] [dn s l,.trees acc]->
  xp.a8 (ab d) b2 0 0 0 ⟨none,0,0⟩ sl H (SA d s w (λr D=>gb w x r D/\y.1<l.length) y)
 |0,_=>λacc sl b2 H st z=>by unfold ua at z;cases z
 |f+1,hf=>λacc sl b2 H st z Q aq aa K=>by
  have au:=I.cH (K.get 2:aF _ _ _ _ _).bd;unfold ua at z;have fin:∀(k:J) (j:bU),j.1<l.length->some (r8 5 (I.aw acc),j)=some (x,y)->LH (·=d) w k [dh d s j,.g b2,.row aT 4 sl (acc.flatMap I.c)] [dn s l,.trees acc]->
    um [b2] xZ #[.i 5,sl.v] k λak al am an w8=>loc [b2] w8 λao=>SA d s w (λr D=>gb w x r D/\y.1<l.length) y (ae (.agg #[.i ak,.int .u8 al,.int .u8 am,an.v])) ao:=by
   intro k j M F q;simp only[fq,eW]at F;obtain⟨rfl,rfl⟩:=F;have ar:∀b∈(bV sl acc).fp,w.heap.size<=b:=λb h=>by
    rcases mF.1 h with h|h
    .exact (q.new _ (aG (i:=2) rfl) b (gM h)).resolve_right (A7 q 1 rfl (gM h))
    grind
   have L:LH (·=d) w k [dh d s j,.g b2] [dn s l,.trees acc,I.row sl acc,.tree (bV sl acc)]:=q.sX 2 1 0 0 0;refine L.rT (DM 5 sl acc k (L.getD 3)) (λb h=>⟨_,aG (i:=3) rfl,a0.2 h⟩) λt Y C A ft=>?_;refine⟨_,_,_,t.s,rfl,A.ai λw4 B=>⟨⟨⟨⟨t,rfl,C,B.getD 4,λb h=>?_⟩,M⟩,B.get 0⟩,B.fr⟩⟩;rcases ft b h with h|h
   .exact bz L.fr.size h
   grind
  have more:∀(k:J) (j:bU),j.1<l.length->(match pD l f j with
   |some (a,st)=>ua l f (I.aw acc++[a]) st
   |none=>none)=some (x,y)->LH (·=d) w k [dh d s j,.g b2,.row aT 4 sl (acc.flatMap I.c)] [dn s l,.trees acc]->
    um [b2] AJ #[.pointer (some (ab d))] k λaf ag ah aj E=>dz E (.cells #[.i af,.int .u8 ag,.int .u8 ah,aj.v] aT) λZ=>
     ∃(t13:Sl) (N:J),f' V (eu #[dE,dE] dE #[sl.v,.slice (some (nb E)) 1 1]) Z=.ok (t13.v) N/\kept [b2] Z N/\xp.a8 (ab d) b2 0 0 0 ⟨none,0,0⟩ t13 N (SA d s w (λr D=>gb w x r D/\y.1<l.length) y):=by
   intro k j M F q;cases P:pD l f j with
   |none=>grind
   |some ap=>
    obtain⟨a,G⟩:=ap;rw[P]at F;refine q.iP ((U f co).seq d j k a G P M q.gn) ?_;rintro _ Y ⟨⟨u,rfl,hu,pu,O⟩,ac⟩ _ F3;have A:=F3 (.tree u) pu λb h=>O b (a0.1 h);have A:LH (·=d) w Y [dh d s G,.g b2,.row aT 4 sl (acc.flatMap I.c)] [dn s l,.trees acc,.tree u]:=A;refine⟨_,_,_,u.s,rfl,A.jh 2 lI (xs:=acc.flatMap I.c) rfl (λW E B=>?_) co⟩;have H6:LH (·=d) w E [dh d s G,.g b2,.row aT 4 W ((acc++[u]).flatMap I.c)] [dn s l,.trees (acc++[u])]:=by rw[m5];exact(B.s5 1 2).forget _ ws
    refine Kg T S U d w x y f co (acc++[u]) W b2 E G ?_ ac (by grind) (uR aa λb h=>bz q.fr.size (O b h)) H6;rw[ku];have:I.aw [u]=[a]:=by simp[I.aw,hu]
    grind
  refine xp.bJ _ _ _ _ _ _ _ _ _ (K.iP (rQ K.gn Q S [38]) ?_);have C:=tf T Q [38] md;rintro _ k rfl q _;refine⟨_,rfl,?_⟩;cases hq:fe l [38] st with
  |mk ad j=>
   rw[hq]at z q C;cases ad with
   |true=>exact more k j C z q
   |false=>exact fin k j C z q
def Za(Q:jE l)(P:l.length<=1000000)(Y:n<=100000)(E:∀m,m<=n->m0 s l m)(d:Nat)(st:bU)(w:J)(x:Rx)(q:bU)(C:o2 l (n+1) st=some (x,q))(hi:st.1<l.length)(H:jd d s l st w):
  aj V AH #[.pointer (some (ab d))] w (SA d s w (λr U=>gb w x r U/\q.1<l.length) q):=by
 unfold o2 at C;cases B:pD l n st with
 |none=>grind
 |some W=>
  obtain⟨a,y⟩:=W;rw[B]at C;refine xp.aD _ w _ (H.aK λk F j=>?_);have j:LH (·=d) w F [dh d s st,.g k] [dn s l]:=j;refine j.iP ((E n (bm _)).seq d st F a y B hi j.gn) ?_;rintro _ G ⟨⟨u,rfl,S,T,A⟩,O⟩ _ L;have z:=L (.tree u) T λb h=>A b (a0.1 h);have z:LH (·=d) w G [dh d s y,.g k] [dn s l,.tree u]:=z;refine⟨_,_,_,u.s,rfl,z.cZ (n:=1) (sz:=4) (cs:=u.c) rfl md λK M=>?_⟩;have N:LH (·=d) w K [dh d s y,.g k,.row aT 4 ⟨some (ab G.heap.size),1,1⟩ ([u].flatMap I.c)] [dn s l,.trees [u]]:=by
   have e:[u].flatMap I.c=u.c:=ws
   rw[e];exact(M.w7 1).forget _ ws
  refine Kg Q P E d w x q n (bm _) [u] _ k K y ?_ O (by grind) (λb h=>?_) N
  .have:I.aw [u]=[a]:=by simp[I.aw,S]
   grind
  .obtain ⟨t,D,h⟩:=I.bZ.1 h;simp at D;rw[D]at h;exact bz j.fr.size (A b h)
def T0(af:jE l)(ad:l.length<=1000000)(S:∀m,m<=n->m0 s l m)(d:Nat)(w:J)(x:Rx)(y:bU):∀(f:Nat),f<=n->∀(acc:List I) (sl:Sl) (b2:Nat) (G:J) (st:bU),u1 l f (I.aw acc) st=some (x,y)->st.1<l.length->acc.length+f<=1000000->(∀b∈I.be acc,w.heap.size<=b)->
  LH (·=d) w G [dh d s st,.g b2,.row aT 4 sl (acc.flatMap I.c)] [dn s l,.trees acc]->
  xu.a8 (ab d) b2 0 0 0 ⟨none,0,0⟩ sl G (SA d s w (λr C=>gb w x r C/\y.1<l.length) y)
 |0,_=>λacc sl b2 G st z=>by unfold u1 at z;cases z
 |f+1,hf=>λacc sl b2 G st z L ar aa H=>by
  have av:=I.cH (H.get 2:aF _ _ _ _ _).bd;unfold u1 at z;have fin:∀(j:J) (k:bU),k.1<l.length->some (r8 3 (I.aw acc),k)=some (x,y)->LH (·=d) w j [dh d s k,.g b2,.row aT 4 sl (acc.flatMap I.c)] [dn s l,.trees acc]->
    um [b2] xZ #[.i 3,sl.v] j λal am an ao w8=>loc [b2] w8 λap=>SA d s w (λr C=>gb w x r C/\y.1<l.length) y (ae (.agg #[.i al,.int .u8 am,.int .u8 an,ao.v])) ap:=by
   intro j k M E q;simp only[fq,eW]at E;obtain⟨rfl,rfl⟩:=E;have au:∀b∈(bV sl acc).fp,w.heap.size<=b:=λb h=>by
    rcases mF.1 h with h|h
    .exact (q.new _ (aG (i:=2) rfl) b (gM h)).resolve_right (A7 q 1 rfl (gM h))
    grind
   have K:LH (·=d) w j [dh d s k,.g b2] [dn s l,.trees acc,I.row sl acc,.tree (bV sl acc)]:=q.sX 2 1 0 0 0;refine K.rT (DM 3 sl acc j (K.getD 3)) (λb h=>⟨_,aG (i:=3) rfl,a0.2 h⟩) λt U ht A ft=>?_;refine⟨_,_,_,t.s,rfl,A.ai λw4 B=>⟨⟨⟨⟨t,rfl,ht,B.getD 4,λb h=>?_⟩,M⟩,B.get 0⟩,B.fr⟩⟩;rcases ft b h with h|h
   .exact bz K.fr.size h
   grind
  have more:∀(j:J) (k:bU),k.1<l.length->(match na l f k with
   |some (a,st)=>u1 l f (I.aw acc++[a]) st
   |none=>none)=some (x,y)->LH (·=d) w j [dh d s k,.g b2,.row aT 4 sl (acc.flatMap I.c)] [dn s l,.trees acc]->
    um [b2] AI #[.pointer (some (ab d))] j λag ah aj ak D=>dz D (.cells #[.i ag,.int .u8 ah,.int .u8 aj,ak.v] aT) λW=>
     ∃(t13:Sl) (N:J),f' V (eu #[dE,dE] dE #[sl.v,.slice (some (nb D)) 1 1]) W=.ok (t13.v) N/\kept [b2] W N/\xu.a8 (ab d) b2 0 0 0 ⟨none,0,0⟩ t13 N (SA d s w (λr C=>gb w x r C/\y.1<l.length) y):=by
   intro j k M E q;cases P:na l f k with
   |none=>grind
   |some aq=>
    obtain⟨a,F⟩:=aq;rw[P]at E;refine q.iP ((S f co).item d k j a F P M q.gn) ?_;rintro _ U ⟨⟨u,rfl,hu,pu,O⟩,ac⟩ _ Y;have A:=Y (.tree u) pu λb h=>O b (a0.1 h);have A:LH (·=d) w U [dh d s F,.g b2,.row aT 4 sl (acc.flatMap I.c)] [dn s l,.trees acc,.tree u]:=A;refine⟨_,_,_,u.s,rfl,A.jh 2 lI (xs:=acc.flatMap I.c) rfl (λT D B=>?_) co⟩;have Z:LH (·=d) w D [dh d s F,.g b2,.row aT 4 T ((acc++[u]).flatMap I.c)] [dn s l,.trees (acc++[u])]:=by rw[m5];exact(B.s5 1 2).forget _ ws
    refine T0 af ad S d w x y f co (acc++[u]) T b2 D F ?_ ac (by grind) (uR aa λb h=>bz q.fr.size (O b h)) Z;rw[ku];have:I.aw [u]=[a]:=by simp[I.aw,hu]
    grind
  refine xu.bJ _ _ _ _ _ _ _ _ _ (H.aA (X7 H.gn L) ?_);rintro _ j rfl q;refine⟨_,rfl,?_⟩;cases Q:zx l st with
  |true=>rw[Q]at z;exact more j st L z q
  |false=>rw[Q]at z;exact fin j st L z q
def aei(Q:jE l)(P:l.length<=1000000)(Y:n<=100000)(E:∀m,m<=n->m0 s l m)(d:Nat)(st:bU)(w:J)(x:Rx)(q:bU)(C:pD l (n+1) st=some (x,q))(hi:st.1<l.length)(H:jd d s l st w):
  aj V AJ #[.pointer (some (ab d))] w (SA d s w (λr U=>gb w x r U/\q.1<l.length) q):=by
 unfold pD at C;cases B:na l n st with
 |none=>grind
 |some W=>
  obtain⟨a,y⟩:=W;rw[B]at C;refine xu.aD _ w _ (H.aK λk F j=>?_);have j:LH (·=d) w F [dh d s st,.g k] [dn s l]:=j;refine j.iP ((E n (bm _)).item d st F a y B hi j.gn) ?_;rintro _ G ⟨⟨u,rfl,S,T,A⟩,O⟩ _ L;have z:=L (.tree u) T λb h=>A b (a0.1 h);have z:LH (·=d) w G [dh d s y,.g k] [dn s l,.tree u]:=z;refine⟨_,_,_,u.s,rfl,z.cZ (n:=1) (sz:=4) (cs:=u.c) rfl md λK M=>?_⟩;have N:LH (·=d) w K [dh d s y,.g k,.row aT 4 ⟨some (ab G.heap.size),1,1⟩ ([u].flatMap I.c)] [dn s l,.trees [u]]:=by
   have e:[u].flatMap I.c=u.c:=ws
   rw[e];exact(M.w7 1).forget _ ws
  refine T0 Q P E d w x q n (bm _) [u] _ k K y ?_ O (by grind) (λb h=>?_) N
  .have:I.aw [u]=[a]:=by simp[I.aw,S]
   grind
  .obtain ⟨t,D,h⟩:=I.bZ.1 h;simp at D;rw[D]at h;exact bz j.fr.size (A b h)
end
def _root_.Go.W.LH.q2{M:Nat->Prop}{w0 w:J}{L D:List En}{bs:List Nat}(H:LH M w0 w L D)(i j:Nat){b:Nat}{vs:List aa}{T:aC}{v:aa}{K:J->Prop}(hi:L[i]? =some (.c b vs T))(y:∀q,LH M w0 q (L.set i (.c b (vs.set j v) T)) D->K q)(k:j<vs.length:=by simp)(bF:∀b∈bs,En.g b∈L:=by simp):aS w ((ab b).add j) v λx=>kept bs w x/\K x:=by obtain⟨A,B,C⟩:=H.set (v:=v) i j hi k;obtain⟨_,_,_,E⟩:=vI (H.ob i hi) j (by simpa using k) v;refine⟨A,B,λd h=>?_,y _ C⟩;refine E.cC d (H.own _ (bF d h)) λz=>o' H hi (wU w b vs T) (bF d h) ?_;rw[z];exact qg.2 rfl
def _root_.Go.W.LH.one{M:Nat->Prop}{w0 w:J}{L D:List En}(H:LH M w0 w L D)(i j:Nat){e:aC}{sl:Sl}{u:I}(k:Int)(lo hi:UInt8)(x:L[i]? =some (.row e 4 sl u.c):=by rfl)(y:D[j]? =some (.tree u):=by rfl):LH M w0 w (L.eraseIdx i) (D++[.tree (.mk k lo hi sl [u])]):=by
 have h:=H.w7 j y;have e:[u].flatMap I.c=u.c:=ws
 have q:=h.sX i D.length k lo hi (s:=sl) (U:=[u]) (by rw[e];exact x) ws;exact q.forget _ (λz d=>by
  simp only[aW,aq,aL,aR]at d ⊢;rcases d with d|d
  .exact .inl (.inl (.inl d))
  .exact .inr d)
def GG{w:J}{sl:Sl}{u:I}{k:Int}{lo hi:UInt8}(j:∀b∈ax sl,w.heap.size<=b)(q:∀b∈u.fp,w.heap.size<=b):∀b∈(I.mk k lo hi sl [u]).fp,w.heap.size<=b:=λb d=>by
 unfold I.fp at d;rcases aW.1 d with d|d
 .exact yk j b d
 .obtain ⟨t,h,d⟩:=I.bZ.1 d;simp at h;rw[h]at d;exact q b d
section
variable {s:Sl} {l:List dP} {n:Nat}
def MK(H:jE l)(G:l.length<=1000000)(h:Nat)(w:J)(x:Rx)(A:bU):∀(f:Nat) (u:I) (b2 j:Nat) (B:J) (st:bU),yH l f u.rx st=some (x,A)->st.1<l.length->(∀b∈u.fp,w.heap.size<=b)->
  LH (·=h) w B [dh h s st,.g b2,.g j] [dn s l,.tree u]->
  z2.a8 (ab h) b2 0 0 0 ⟨none,0,0⟩ j u.k (u.lo.toNat:Int) (u.hi.toNat:Int) u.s B (SA h s w (λr S=>gb w x r S/\A.1<l.length) A)
 |0,u,b2,j,B,st,d,_,_,_=>by unfold yH at d;cases d
 |f+1,u,b2,j,B,st,d,F,E,C=>by
  unfold yH at d;refine z2.bJ _ _ _ _ _ _ _ _ _ _ _ _ _ (C.iP (rQ C.gn F G [42]) ?_);have y:=tf H F [42] md;rintro _ L rfl z _;refine⟨_,rfl,?_⟩;cases P:fe l [42] st with
  |mk Q K=>
   rw[P]at d z y;cases Q with
   |true=>
    dsimp only at d y;refine aM rfl ?_;refine z.cZ (n:=1) (sz:=4) (cs:=u.c) rfl md λT q=>q.ai λM N=>?_;have O:LH (·=h) w M [dh h s K,.g b2,.g j] [dn s l,.tree (.mk 7 0 0 ⟨some (ab L.heap.size),1,1⟩ [u])]:=(N.one 3 1 7 0 0).forget _ ws;refine MK H G h w x A f (.mk 7 0 0 ⟨some (ab L.heap.size),1,1⟩ [u]) b2 j M K d y (GG (λb D=>?_) E) O;simp only[ax,aq,aL,aR]at D;rw[D];exact z.fr.size
   |false=>
    dsimp only at d y;simp only[fq,eW]at d;obtain⟨d,rfl⟩:=d;refine aP rfl ?_;exact z.ai λT q=>⟨⟨⟨⟨u,rfl,d,q.getD 1,E⟩,y⟩,q.get 0⟩,q.fr⟩
def aaI(U:jE l)(T:l.length<=1000000)(W:m0 s l n)(j:Nat)(st:bU)(w:J)(x:Rx)(D:bU)(d:na l (n+1) st=some (x,D))(hi:st.1<l.length)(H:jd j s l st w):
  aj V AI #[.pointer (some (ab j))] w (SA j s w (λr w'=>gb w x r w'/\D.1<l.length) D):=by
 unfold na at d;refine z2.aD _ w _ (H.aK λL w1 B=>?_);have B:LH (·=j) w w1 [dh j s st,.g L] [dn s l]:=B;refine B.iP (rQ B.gn hi T [33]) ?_;have z:=tf U hi [33] md;rintro _ Y rfl k _;refine⟨_,rfl,?_⟩;cases hq:fe l [33] st with
 |mk aa E=>
  rw[hq]at d k z;cases aa with
  |true=>
   dsimp only at d z;cases q:na l n E with
   |none=>rw[q]at d;cases d
   |some S=>
    obtain⟨a,A⟩:=S;rw[q]at d;simp only[fq,eW]at d;obtain⟨d,rfl⟩:=d;refine aM rfl ?_;refine k.iP (W.item j E Y a A q z k.gn) ?_;rintro _ P ⟨⟨u,rfl,N,O,y⟩,M⟩ _ F;have C:=F (.tree u) O λb h=>y b (a0.1 h);refine⟨_,_,_,u.s,rfl,C.cZ (n:=1) (sz:=4) (cs:=u.c) rfl md λw4 G=>G.ai λQ I=>?_⟩;have K:LH (·=j) w Q [dh j s A,.g L] [dn s l,.tree (.mk 6 0 0 ⟨some (ab P.heap.size),1,1⟩ [u])]:=(I.one 2 1 6 0 0).forget _ ws;refine⟨⟨⟨⟨.mk 6 0 0 ⟨some (ab P.heap.size),1,1⟩ [u],rfl,?_,K.getD 1,GG (λb h=>?_) (λb h=>bz k.fr.size (y b h))⟩,M⟩,K.get 0⟩,K.fr⟩
    .rw [<-d,<-N];rfl
    .simp only[ax,aq,aL,aR]at h;rw[h];exact C.fr.size
  |false=>
   dsimp only at d z;cases q:rN l n E with
   |none=>rw[q]at d;cases d
   |some S=>
    obtain⟨a,A⟩:=S;rw[q]at d;refine aP rfl ?_;refine k.iP (W.atom j E Y a A q z k.gn) ?_;rintro _ P ⟨⟨u,rfl,N,O,y⟩,M⟩ _ F;have C:=F (.tree u) O λb h=>y b (a0.1 h);refine⟨_,_,_,u.s,rfl,C.aK λZ w4 G=>G.ai λQ I=>?_⟩;exact MK U T j w x D n u L Z Q A (by rw[N];exact d) M (λb h=>bz k.fr.size (y b h)) I
def MY(F:jE l)(E:l.length<=1000000)(L:∀m,m<=n->m0 s l m)(j:Nat)(w:J)(m:List Rx)(y:bU):∀(f:Nat),f<=n->∀(acc:List I) (sl:Sl) (A:J) (st:bU),xX l f (I.aw acc) st=some (m,y)->st.1<l.length->acc.length+f<=1000000->(∀b∈I.be acc,w.heap.size<=b)->
  LH (·=j) w A [dh j s st,.row aT 4 sl (acc.flatMap I.c)] [dn s l,.trees acc]->
  xr.L1 (ab j) sl A (SA j s w (λr w'=>(∃(sl:Sl) (a:List I),r=ae sl.v/\I.aw a=m/\(bV sl a).P w'/\∀b∈(bV sl a).fp,w.heap.size<=b)/\y.1<l.length) y)
 |0,_=>λacc sl A st d=>by unfold xX at d;cases d
 |f+1,hf=>λacc sl A st d K ad H B=>by
  have af:=I.cH (B.get 1:aF _ _ _ _ _).bd;unfold xX at d;refine xr.fH _ _ _ _ (B.rS (rQ B.gn K E [44]) ?_);have x:=tf F K [44] md;rintro _ w2 rfl k _;refine⟨_,rfl,?_⟩;cases Y:fe l [44] st with
  |mk aa N=>
   rw[Y]at d k x;cases aa with
   |true=>
    dsimp only at d x;cases D:lL l f N with
    |none=>rw[D]at d;cases d
    |some ac=>
     obtain⟨a,z⟩:=ac;rw[D]at d;refine aM rfl ?_;refine k.rS ((L f co).expr j N w2 a z D x k.gn) ?_;rintro _ O ⟨⟨u,rfl,Z,pu,G⟩,W⟩ _ S;have C:=S (.tree u) pu λb h=>G b (a0.1 h);have C:LH (·=j) w O [dh j s z,.row aT 4 sl (acc.flatMap I.c)] [dn s l,.trees acc,.tree u]:=C;refine⟨_,_,_,u.s,rfl,C.qd 1 lI (xs:=acc.flatMap I.c) rfl (λM Q T _ _=>?_) co⟩;have U:LH (·=j) w Q [dh j s z,.row aT 4 M ((acc++[u]).flatMap I.c)] [dn s l,.trees (acc++[u])]:=by rw[m5];exact(T.s5 1 2).forget _ ws
     refine MY F E L j w m y f co (acc++[u]) M Q z ?_ W (by simp;omega) (uR H λb h=>bz k.fr.size (G b h)) U;rw[ku];have:I.aw [u]=[a]:=by simp[I.aw,Z]
     rw[this];exact d
   |false=>
    dsimp only at d x;simp only[fq,eW]at d;obtain⟨rfl,rfl⟩:=d;refine aP rfl ?_;refine k.rS (wS k.gn x E [41]) ?_;rintro _ O rfl q _;refine⟨rfl,⟨⟨⟨sl,acc,rfl,rfl,dJ.2 ⟨(q.get 1:aF _ _ _ _ _).bd,q.getD 1⟩,λb h=>?_⟩,x8 F x [41] md⟩,q.get 0⟩,q.fr⟩;rcases mF.1 h with h|h
    .exact (q.new _ (aG (i:=1) rfl) b (gM h)).resolve_right (A7 q 0 rfl (gM h))
    .exact H b h
def aa1(C:jE l)(B:l.length<=1000000)(hn:n<=100000)(M:∀m,m<=n->m0 s l m)(j:Nat)(st:bU)(w:J)(m:List Rx)(x:bU)(h:se l (n+1) st=some (m,x))(hi:st.1<l.length)(H:jd j s l st w):
  aj V F1 #[.pointer (some (ab j))] w (SA j s w (λr E=>(∃(sl:Sl) (a:List I),r=ae sl.v/\I.aw a=m/\(bV sl a).P E/\∀b∈(bV sl a).fp,w.heap.size<=b)/\x.1<l.length) x):=by
 unfold se at h;refine xr.ok _ w _ (H.rS (wS H hi B [40]) ?_);have L:=x8 C hi [40] md;rintro _ w1 rfl G _;refine⟨rfl,G.rS (rQ G.gn L B [41]) ?_⟩;have y:=tf C L [41] md;rintro _ F rfl k _;cases Y:fe l [41] (k2 l [40] st)with
 |mk N z=>
  rw[Y]at h k y;have none_:some (([]:List Rx),z)=some (m,x)->xr.S0 F (SA j s w (λr E=>(∃(sl:Sl) (a:List I),r=ae sl.v/\I.aw a=m/\(bV sl a).P E/\∀b∈(bV sl a).fp,w.heap.size<=b)/\x.1<l.length) x):=by
   intro h;simp only[fq,eW]at h;obtain⟨rfl,rfl⟩:=h;refine⟨⟨⟨⟨⟨none,0,0⟩,[],rfl,rfl,dJ.2 ⟨bL.nil 4 F,by unfold I.Ps;trivial⟩,λb d=>?_⟩,y⟩,k.get 0⟩,k.fr⟩;rcases mF.1 d with d|d
   .simp [I.row,En.bd]at d
   .unfold I.be at d;cases d
  refine⟨_,rfl,z.2,k.ld 0 2,bP (λd=>none_ (by simpa[d]using h)) (λd=>bP (λq=>none_ (by have q:N=true:=q;simpa[q]using h)) (λq=>?_))⟩
  have q:N=false:=q;simp only[d,q,Bool.or_false,cond_false]at h;cases A:lL l n z with
  |none=>rw[A]at h;cases h
  |some aa=>
   obtain⟨a,D⟩:=aa;rw[A]at h;refine k.rS ((M n (bm _)).expr j z F a D A y k.gn) ?_;rintro _ w3 ⟨⟨u,rfl,Z,pu,K⟩,W⟩ _ Q;have S:=Q (.tree u) pu λb d=>K b (a0.1 d);refine⟨_,_,_,u.s,rfl,S.cZ (n:=1) (sz:=4) (cs:=u.c) rfl md λO T=>?_⟩;have U:LH (·=j) w O [dh j s D,.row aT 4 ⟨some (ab w3.heap.size),1,1⟩ ([u].flatMap I.c)] [dn s l,.trees [u]]:=by
    have e:[u].flatMap I.c=u.c:=ws
    rw[e];exact(T.w7 1).forget _ ws
   refine MY C B M j w m x n (bm _) [u] _ O D ?_ W (by simp;omega) (λb d=>?_) U
   .have:I.aw [u]=[a]:=by simp[I.aw,Z]
    rw[this];exact h
   .obtain ⟨t,y,d⟩:=I.bZ.1 d;simp at y;rw[y]at d;exact bz k.fr.size (K b d)
end
def wa:List aa:=[.string (ba (nG 0)),.string (ba (nG 1)),.string (ba (nG 2)),.string (ba (nG 3)),.string (ba (nG 4)),.string (ba (nG 5))]
def V8{k:Nat}(h:k<6):wa[k]? =some (.string (ba (nG k))):=by
 have:k=0\/k=1\/k=2\/k=3\/k=4\/k=5:=co
 rcases this with rfl|rfl|rfl|rfl|rfl|rfl<;>rfl
def V7{k:Nat}(h:k<6)(d:k≠2):nG k≠[]/\nG k≠[32]:=by
 have:k=0\/k=1\/k=2\/k=3\/k=4\/k=5:=co
 rcases this with rfl|rfl|rfl|rfl|rfl|rfl<;>first |exact absurd rfl d|exact⟨md,md⟩
def ng(k:Int)(lo hi:UInt8):I:=.mk k lo hi ⟨none,0,0⟩ []
def sj(k:Int)(lo hi:UInt8)(w:J):(ng k lo hi).P w:=by unfold ng I.P I.Ps;exact⟨bL.nil 4 w,trivial⟩
def sm{k:Int}{lo hi:UInt8}{b:Nat}:¬b∈(ng k lo hi).fp:=λd=>by
 unfold ng I.fp I.be at d;rcases aW.1 d with d|d
 .simp [I.row,En.bd]at d
 .cases d
section
variable {s:Sl} {l:List dP} {n:Nat}
def W'(W:jE l)(am:l.length<=1000000)(ih:m0 s l n)(q:Nat)(st:bU)(w:J)(x:Rx)(K:bU)(d:rN l (n+1) st=some (x,K))(hi:st.1<l.length)(H:jd q s l st w):
  aj V FY #[.pointer (some (ab q))] w (SA q s w (λr w'=>gb w x r w'/\K.1<l.length) K):=by
 let R:aJ:=SA q s w (λr w'=>gb w x r w'/\K.1<l.length) K
 have loop:∀(f k:Nat) (b2 C:Nat) (D:J),f+k=6->mg l st 6 0=mg l st f k->(match mg l st 6 0 with
   |some k=>bif Nat.ble k 2 then some (Rx.mk k 0 0 [],(st.1+1,st.2))else match se l n (st.1+1,st.2)with
    |some (m,st)=>some (Rx.mk k 0 0 m,st)
    |none=>none
   |none=>let st:=k2 l [40] st
    bif st.2 then some (fO,st)else match lL l n st with
    |some (a,st)=>some (a,k2 l [41] st)
    |none=>none)=some (x,K)->LH (·=q) w D [dh q s st,.g b2,.c C wa cY] [dn s l]->
   o6.cv (ab q) b2 0 0 0 ⟨none,0,0⟩ ⟨some (ab C),6,6⟩ (k:Int) D R:=by
  intro f;induction f with
  |zero=>
   intro k b2 C D hk Z d E;have e0:mg l st 0 k=none:=by unfold mg;rfl
   rw[Z,e0]at d;dsimp only at d;have ae:=x8 W hi [40] md;refine o6.dO _ _ _ _ _ _ _ _ _ _ (aP (aV co) (E.iP (wS E.gn hi am [40]) ?_));rintro _ y rfl h _;generalize k2 l [40] st=HM at d ae h;refine⟨rfl,HM.2,h.ld 0 2,bP (λj=>?_) (λj=>?_)⟩
   .rw [j]at d;simp only[cond_true,fq,eW]at d;obtain⟨rfl,rfl⟩:=d;exact h.ai λS z=>⟨⟨⟨⟨cw,rfl,rfl,k4 _,λb j=>(k5 j).elim⟩,ae⟩,z.get 0⟩,z.fr⟩
   .rw [j]at d;dsimp only[cond_false]at d;cases G:lL l n HM with
    |none=>rw[G]at d;cases d
    |some af=>
     obtain⟨a,aa⟩:=af;rw[G]at d;simp only[fq,eW]at d;obtain⟨rfl,rfl⟩:=d;refine h.iP (ih.expr q HM y a aa G ae h.gn) ?_;rintro _ S ⟨⟨u,rfl,hu,pu,fu⟩,U⟩ _ F3;have z:=F3 (.tree u) pu λb j=>fu b (a0.1 j);refine⟨_,_,_,u.s,rfl,z.aK λb6 w4 A=>A.ai λw5 B=>?_⟩;have B:LH (·=q) w w5 (dh q s aa::[.g b2,.c C wa cY,.g b6]) [dn s l,.tree u]:=B;refine B.iP (wS B.gn U am [41]) ?_;rintro _ w6 rfl H6 _;exact⟨rfl,H6.ai λw7 L=>⟨⟨⟨⟨u,rfl,hu,L.getD 1,λb j=>bz h.fr.size (fu b j)⟩,x8 W U [41] md⟩,L.get 0⟩,L.fr⟩⟩
  |succ f av=>
   intro k b2 C D hk Z d E;have next:mg l st (f+1) k=mg l st f (k+1)->∀y,LH (·=q) w y [dh q s st,.g b2,.c C wa cY] [dn s l]->o6.cb (ab q) b2 0 0 0 ⟨none,0,0⟩ ⟨some (ab C),6,6⟩ (k:Int) y R:=by intro Q y h;show o6.cv _ _ _ _ _ _ _ _ _ _;rw[bb _ co];exact av (k+1) b2 C y co (by rw[Z,Q]) d h
   refine o6.dO _ _ _ _ _ _ _ _ _ _ (aM (aQ co) (aO (λO=>E.ai λy h=>next (by
    have:k=2:=co
    subst this;conv=>lhs;unfold mg
    rfl) y h) (λO=>⟨co,by show(k:Int)<((6:Nat):Int);omega,?_⟩)))
   have O:k≠2:=co
   have ag:cg k 2=false:=by
    cases F:cg k 2 with
    |false=>rfl
    |true=>exact absurd (Nat.eq_of_beq_eq_true F) O
   refine k8 (E.ai λy h=>?_);rw[bo,Nat.mul_one];refine⟨ba (nG k),h.ld 2 k rfl (V8 co),h.aA (DU h.gn hi) ?_⟩;rintro _ S rfl z;refine⟨_,rfl,z.ld 2 k rfl (V8 co),?_⟩;rw[ud];refine dW (λY=>next (by
    conv=>lhs;unfold mg
    rw[ag,Y];rfl) S z) (λY=>?_)
   have an:=eq_of_beq Y;have au:mg l st 6 0=some k:=by
    rw[Z];conv=>lhs;unfold mg
    rw[ag,Y];rfl
   rw[au]at d;dsimp only at d;have T:st.1+1<l.length:=by
    refine M1 W hi (by rw[an];exact(V7 co O).1) ?_;cases j:st.2 with
    |false=>rfl
    |true=>
     exfalso;refine(V7 (k:=k) co O).2 ?_;rw[<-an];unfold fy;rw[j];rfl
   refine⟨(st.1:Int),z.ld 0 1,?_⟩;rw[bb _ co];refine z.q2 0 1 rfl λw4 A=>?_;have A:LH (·=q) w w4 [dh q s (st.1+1,st.2),.g b2,.c C wa cY] [dn s l]:=A;refine A.aK λb5 w5 B=>aE (λar=>?_) (λar=>?_)
   .have ad:Nat.ble k 2=false:=by
     cases F:Nat.ble k 2 with
     |false=>rfl
     |true=>have:=Nat.le_of_ble_eq_true F;omega
    rw[ad]at d;dsimp only[cond_false]at d;cases G:se l n (st.1+1,st.2)with
    |none=>rw[G]at d;cases d
    |some af=>
     obtain⟨m,aa⟩:=af;rw[G]at d;simp only[fq,eW]at d;obtain⟨Q,rfl⟩:=d;refine B.ai λw9 N=>?_;have N:LH (·=q) w w9 (dh q s (st.1+1,st.2)::[.g b2,.c C wa cY,.g b5]) [dn s l]:=N;refine N.iP (ih.kids q (st.1+1,st.2) w9 m aa G T N.gn) ?_;rintro _ ax ⟨⟨sl,a,rfl,ha,pa,fa⟩,U⟩ _ ao;have ap:=ao (.tree (bV sl a)) pa λb j=>fa b (a0.1 j);refine⟨sl,rfl,ap.ai λay aq=>aq.ai λaw ac=>?_⟩;refine⟨⟨⟨⟨.mk k 0 0 sl a,rfl,?_,?_,λb j=>?_⟩,U⟩,ac.get 0⟩,ac.fr⟩
     .rw [<-Q,<-ha];rfl
     .have:=dJ.1 (show(bV sl a).P aw from ac.getD 1);unfold I.P;exact this
     .refine bz N.fr.size (fa b ?_);unfold I.fp at j;unfold bV I.fp;exact j
   .have ad:Nat.ble k 2=true:=Nat.ble_eq_true_of_le co;rw[ad]at d;simp only[cond_true,fq,eW]at d;obtain⟨Q,rfl⟩:=d;refine B.ai λw6 H6=>H6.ai λw7 L=>⟨⟨⟨⟨ng k 0 0,rfl,?_,sj _ _ _ _,λb j=>(sm j).elim⟩,T⟩,L.get 0⟩,L.fr⟩;rw[<-Q];rfl
 have s0:∀(b2:Nat) (D:J),(!st.2&&cg (fS l st.1).k 2)=false->LH (·=q) w D [dh q s st,.g b2] [dn s l]->o6.bD (ab q) b2 0 0 0 ⟨none,0,0⟩ D R:=by
  intro b2 D hq E;unfold rN at d;rw[hq]at d;dsimp only[cond_false]at d;try dsimp only[o6.bD,ak]
  refine E.nw λy _ h=>?_;exact loop 6 0 b2 D.heap.size y co rfl d h
 refine o6.aD _ w _ (H.aK λb2 D E=>E.ai λy h=>⟨st.2,h.ld 0 2,dW (λj=>?_) (λj=>s0 b2 y (by rw[j];rfl) h)⟩);have hn:=yP (h.getD 0:bL _ _ _ _);refine⟨s,h.ld 0 0,(st.1:Int),h.ld 0 1,co,co,yQ (h.getD 0) hi λp hp c=>⟨((fS l st.1).k:Int),?_,aO (λM=>?_) (λM=>s0 b2 y (by
  have:cg (fS l st.1).k 2=false:=by
   cases F:cg (fS l st.1).k 2 with
   |false=>rfl
   |true=>have:=Nat.eq_of_beq_eq_true F;omega
  rw[this];simp) h)⟩⟩
 .rw [bo,jg];exact c.c2
 have M:(fS l st.1).k=2:=co
 have T:st.1+1<l.length:=by
  rcases Nat.lt_or_ge (st.1+1) l.length with F|F
  .exact F
  .exfalso;have e:st.1=l.length - 1:=co
   rw[e,W.2.2]at M;cases M
 refine⟨(st.1:Int),h.ld 0 1,?_⟩;rw[bb _ co];refine h.q2 0 1 rfl λS z=>?_;have z:LH (·=q) w S [dh q s (st.1+1,st.2),.g b2] [dn s l]:=z;refine z.ai λw4 A=>⟨s,A.ld 0 0,((st.1+1:Nat):Int),A.ld 0 1,?_⟩;have em:ah .i64 (((st.1+1:Nat):Int) - 1)=(st.1:Int):=by rw[aN _ co];omega
 rw[em];unfold rN at d;rw[j,M]at d;have d:some (Rx.mk 2 (fS l st.1).lo (fS l st.1).hi [],(st.1+1,false))=some (x,K):=d;simp only[fq,eW]at d;obtain⟨d,al⟩:=d;refine⟨co,co,yQ (A.getD 0) hi λp hp c=>⟨2,(fS l st.1).lo.toNat,(fS l st.1).hi.toNat,⟨none,0,0⟩,?_,?_,?_,?_,A.ai λw5 B=>⟨⟨⟨⟨ng 2 (fS l st.1).lo (fS l st.1).hi,rfl,d,sj _ _ _ _,λb j=>(sm j).elim⟩,by rw[<-al];exact T⟩,?_⟩,B.fr⟩⟩⟩
 .rw [bo,jg,c.c2,M];rfl
 .rw [bo,add_add];exact c.c3
 .rw [bo,add_add];exact c.c4
 .rw [bo,add_add];exact c.c5
 .have:=B.get 0;rw[<-al,<-j];exact this
def RE(z:jE l)(y:l.length<=1000000):∀n:Nat,n<=100000->∀m,m<=n->m0 s l m
 |0,_=>λm C=>by
  have:m=0:=co
  subst this;exact⟨λh st k q j d=>(by unfold lL at d;cases d),λh st k q j d=>(by unfold o2 at d;cases d),λh st k q j d=>(by unfold pD at d;cases d),λh st k q j d=>(by unfold na at d;cases d),λh st k q j d=>(by unfold rN at d;cases d),λh st k q j d=>(by unfold se at d;cases d)⟩
 |n+1,D=>λm C=>by
  have A:=RE z y n co;rcases Nat.lt_or_ge m (n+1)with B|B
  .exact A m co
  have:m=n+1:=co
  subst this;exact⟨λh st k q j d x w=>ZE z y co A h st k q j d x w,λh st k q j d x w=>Za z y co A h st k q j d x w,λh st k q j d x w=>aei z y co A h st k q j d x w,λh st k q j d x w=>aaI z y (A n (bm _)) h st k q j d x w,λh st k q j d x w=>W' z y (A n (bm _)) h st k q j d x w,λh st k q j d x w=>aa1 z y co A h st k q j d x w⟩
end
def _root_.Go.W.LH.perm{M:Nat->Prop}{w0 w:J}{L L' D:List En}(H:LH M w0 w L D)(h:L.Perm L'):LH M w0 w L' D:=
 ⟨H.fr,λe d=>H.own e (h.mem_iff.2 d),H.rd,λe d=>H.new e (h.mem_iff.2 d),(h.flatMap_right (·.fp)).nodup_iff.1 H.nd,λe d b k j q=>H.dj e d b k j (h.mem_iff.2 q)⟩
def Ia(s:BL):∀(f i:Nat),s.length<f+i->∃init,pJ s f i=init++[⟨[],s.length,0,0,0⟩]/\init.length+i<=max i s.length
 |0,i,h=>⟨[],rfl,by simp;omega⟩
 |f+1,i,h=>by
  unfold pJ;split
  .exact ⟨[],rfl,by simp;omega⟩
  .split
   .obtain ⟨init,d,j⟩:=Ia s f (i+1) co;exact⟨init,d,co⟩
   .simp only;have q:=Sw s i;have w:=TH s i s.length 1 co;generalize kr s i=g at q;generalize oE s i s.length 1=e at w;have k:1<=(if g.n=0 then e else g.n)/\i+(if g.n=0 then e else g.n)<=s.length:=by split<;>omega
    generalize(if g.n=0 then e else g.n)=n at k;obtain⟨init,d,j⟩:=Ia s f (i+n) co;exact⟨_::init,by rw[d];rfl,by simp only[List.length_cons];omega⟩
def afB(s:BL):jE (nC s)/\(nC s).length<=s.length+1:=by
 obtain⟨init,j,k⟩:=Ia s (s.length+1) 0 co;have e:nC s=init++[⟨[],s.length,0,0,0⟩]:=j;rw[e];have d:(init++[(⟨[],s.length,0,0,0⟩:dP)]).length=init.length+1:=ws
 have h:fS (init++[(⟨[],s.length,0,0,0⟩:dP)]) init.length=⟨[],s.length,0,0,0⟩:=by unfold fS;simp[List.getD_eq_getElem?_getD]
 refine⟨⟨co,?_,?_⟩,co⟩
 .rw [d,Nat.add_sub_cancel,h]
 .rw [d,Nat.add_sub_cancel,h]
def WD(w:J)(x:Rx)(a:Nat)(e:Int)(r:cE)(Y:J):Prop:=∃t:I,r=ae (.tuple #[t.v,.i (a:Int),.i e])/\t.rx=x/\t.P Y/\∀b∈t.fp,w.heap.size<=b
def Yu(s:ByteArray)(hs:s.size<=100000)(x:Rx)(a:Nat)(e:Int)(d:vk (bl s)=some (x,a,e))(w:J):aj V N4 #[.string s] w λr w'=>WD w x a e r w'/\af w w':=by
 have hl:(bl s).length=s.size:=dQ s;obtain⟨C,hlen⟩:=afB (bl s);unfold vk at d;refine KN.aD _ w _ ((bN [] ws).aK λS w1 O=>aE (λh=>O.ai λw2 H2=>?_) (λh=>O.kc (X5 s hs w1) ?_))
 .rw [av co]at d;simp only[fq,eW]at d;obtain⟨rfl,rfl,rfl⟩:=d;exact⟨⟨cw,rfl,rfl,k4 _,λb h=>(k5 h).elim⟩,H2.fr⟩
 rw[ag co]at d;generalize nC (bl s)=l at d C hlen;dsimp only at d;rintro _ N ⟨j,rfl,ho,hf⟩ _ F6;have H6:=F6.rd (dn j l) ho.bd (yk hf);cases H:lL l 1000 (0,false)with
 |none=>rw[H]at d;cases d
 |some al=>
  obtain⟨Z,M⟩:=al;rw[H]at d;dsimp only at d;refine⟨j,rfl,H6.nw λw7 _ y=>?_⟩;have y:LH F0 w w7 (dh N.heap.size j (0,false)::[.g S]) [dn j l]:=y.perm (List.Perm.swap _ _ _);refine y.iP ((RE C co 1000 co 1000 (bm _)).expr N.heap.size (0,false) w7 Z M H C.1 y.gn) ?_;rintro _ w8 ⟨⟨u,rfl,Y,pu,T⟩,U⟩ _ F8;have H8:=F8 (.tree u) pu λb h=>T b (a0.1 h);refine⟨_,_,_,u.s,rfl,H8.aK λb6 w9 H9=>H9.ai λae z=>?_⟩;have z:LH F0 w ae (dh N.heap.size j M::[.g S,.g b6]) [dn j l,.tree u]:=z;refine z.iP (wS z.gn U co []) ?_;have G:=x8 C U [] md;rintro _ aa rfl k _;generalize k2 l [] M=pG at d G k;refine⟨rfl,pG.2,k.ld 0 2,bP (λE=>k.ai λan q=>?_) (λE=>?_)⟩
  .rw [av E]at d;simp only[fq,eW]at d;obtain⟨rfl,rfl,rfl⟩:=d;have hn:=yP (q.getD 0:bL _ _ _ _);refine⟨j,q.ld 0 0,(pG.1:Int),q.ld 0 1,co,co,yQ (q.getD 0) G λp hp c=>⟨((fS l pG.1).at_:Int),?_,q.ai λah A=>⟨?_,A.ld 0 1,A.ld 0 0,⟨cw,rfl,rfl,k4 _,λb h=>(k5 h).elim⟩,A.fr⟩⟩⟩
   .rw [bo];exact c.c1
   .rw [bo];have:=yQ (A.getD 0) G (K:=λD=>∃L,j.a=some L/\D=L/\IU ah L pG.1 (fS l pG.1)) (λD W F=>⟨D,W,rfl,F⟩);rw[hp]at this;obtain⟨D,W,rfl,F⟩:=this;exact F.c1
  .rw [ag (by rw[E];simp)]at d;have ad:u.P aa:=k.getD 1;have am:Z.sz=u.sz:=by rw[<-Y,I.eU]
   by_cases ac:u.sz<=1000000
   .rw [ag co]at d;refine k.aA (DD u aa ac ad) ?_;rintro _ ao rfl Q;refine⟨_,rfl,aE (λab=>Q.ai λak B=>?_) (λab=>Q.ai λak B=>?_)⟩
    .rw [av co]at d;simp only[fq,eW]at d;obtain⟨rfl,rfl,rfl⟩:=d;exact⟨⟨cw,rfl,rfl,k4 _,λb h=>(k5 h).elim⟩,B.fr⟩
    .rw [ag co]at d;simp only[fq,eW]at d;obtain⟨rfl,rfl,rfl⟩:=d;exact⟨⟨u,rfl,Y,B.getD 1,λb h=>bz y.fr.size (T b h)⟩,B.fr⟩
   .rw [av co]at d;cases d
def cL(a b:BL):ba a++ba b=ba (a++b):=by apply ByteArray.ext;rw[ByteArray.data_append];simp[ba]
def uh{w:J}{b n:Nat}{cs:List aa}{T:aC}(h:w.heap[b]? =some (.cells cs.toArray T (0,0)))(j:n=cs.length):Rd w ⟨some (ab b),n,n⟩ cs:=
 Bl (s:=⟨some (ab b),n,n⟩) j (bm _) (λh=>by cases h) λi v d=>⟨ab b,rfl,cellAt (p:=ab b) h rfl (by simpa using d)⟩
def JH(c:UInt8)(w:J):aj V Ob #[.int .u8 (c.toNat:Int)] w λr h=>r=ae (.bool (eS c))/\af w h:=by
 refine KU.ok _ w _ (aE (λd=>⟨?_,Fr.refl _ _⟩) (λd=>⟨?_,Fr.refl _ _⟩))
 .unfold eS;rw[aQ (show 97<=c.toNat by omega),Bool.true_and,show au ((c.toNat:Int)<=122)=au (c.toNat<=122)from decide_eq_decide.2 co]
 .unfold eS;rw[aV (show ¬97<=c.toNat by omega),Bool.false_and]
def DQ(c:UInt8)(w:J):aj V N1 #[.int .u8 (c.toNat:Int)] w λr G=>r=ae (.string (ba (dR c)))/\af w G:=by
 have L:=c.toNat_lt;have A:LH F0 w w [] []:=bN [] ws;refine KJ.ok _ w _ (A.call (JI c w) ?_);rintro _ z rfl y;refine⟨_,rfl,bP (λq=>?_) (λq=>?_)⟩
 .refine y.k6 (λx _ d j=>?_);have K:((39:UInt8).toNat:Int)=39:=rfl;have h:Bytes x ⟨some (ab z.heap.size),3,3⟩ [39,c,39]:=uh (T:=cJ) j rfl;have k:=lD h;refine⟨ba [39,c,39],k,?_,d.fr⟩;unfold dR;rw[av q]
 .have D:ah .i64 (c.toNat:Int)=(c.toNat:Int):=aN _ co;have E:ah .i64 (bS (c.toNat:Int) 16)=((c.toNat / 16:Nat):Int):=by rw[Int.tdiv_eq_ediv_of_nonneg co,aN _ co];omega
  have F:cp (c.toNat:Int) 16=((c.toNat%16:Nat):Int):=by rw[Int.tmod_eq_emod_of_nonneg co];omega
  rw[D,E,F];refine y.call (DT (c.toNat / 16) co z) ?_;rintro _ x rfl d;refine⟨_,rfl,d.call (DT (c.toNat%16) co x) ?_⟩;rintro _ H rfl B;refine⟨_,rfl,B.k6 (λI _ C j=>?_)⟩;have h:Bytes I ⟨some (ab H.heap.size),4,4⟩ [92,120,iS (c.toNat / 16),iS (c.toNat%16)]:=uh (T:=cJ) j rfl;have k:=lD h;refine⟨ba [92,120,iS (c.toNat / 16),iS (c.toNat%16)],k,?_,C.fr⟩;unfold dR;rw[ag (by rw[q];simp)]
abbrev mI(s:Sl)(l:List Nd)(d:Nd):List En:=[.gr s l,dp d]
def xR{w:J}{s:Sl}{l:List Nd}{d:Nd}(h:GP w s l)(k:d.P w):LH F0 w w [] (mI s l d):=bN _ (by
 intro e j;simp only[aq,aL,aR]at j;rcases j with rfl|rfl
 .exact ct.2 h
 .exact k)
def XM{w:J}{s:Sl}{l:List Int}(h:bq w s l)(B:l.length<=1000000000000)(n:Int):aj V NT #[s.v,.i n] w λr k=>r=ae (.bool (au (n∈l)))/\af w k:=by
 have C:=bq.len h;have loop:∀(d i:Nat),i+d=l.length->(n∈l↔n∈l.drop i)->xj.L0 s n (i:Int) w λr k=>r=ae (.bool (au (n∈l)))/\af w k:=by
  intro d;induction d with
  |zero=>
   intro i z j;rw[du co]at j;exact xj.bC _ _ _ _ _ (aP (aV co) ⟨by rw[aV (λh=>by have:=j.1 h;simp at this)],Fr.refl _ _⟩)
  |succ d A=>
   intro i z j;have q:l[i]? =some (l[i]'co):=a' co;rw[dw (by omega:i<l.length),aq]at j;generalize l[i]'co=x at q j;refine xj.bC _ _ _ _ _ (aM (aQ co) ⟨co,co,h.cell q co λp D y=>⟨x,y,aO (λe=>⟨?_,Fr.refl _ _⟩) (λe=>?_)⟩⟩)
   .rw [aQ (j.2 (.inl e.symm))]
   .rw [bb _ co];exact A (i+1) co (j.trans ⟨λh=>h.resolve_left (λh=>e h.symm),.inr⟩)
 exact xj.ok _ _ w _ (loop l.length 0 co ws)
def Jx{w:J}{s:Sl}{l:List Int}(h:bq w s l)(d:l.length<=1000000000000)(n:Int):aj V OF #[s.v,.i n] w λr j=>r=ae (.bool (au (n∈l)))/\af w j:=by refine K7.ok _ _ w _ ((XM h d n).mono ?_);rintro _ k ⟨rfl,f⟩;exact⟨_,rfl,rfl,f⟩
def Dw{w:J}{b n:Nat}{l:List Int}{T:aC}(h:w.heap[b]? =some (.cells (l.map aY).toArray T (0,0)))(d:n=l.length):bq w ⟨some (ab b),n,n⟩ l:=
 uh h (by simpa using d)
def fA:Nat:=1000000000
def LG(op:Int):(au (op∈[(21:Int),22,23,28])=qq op)/\(au (op∈[(0:Int),2,33])=qs op):=by
 constructor
 .unfold qq;by_cases d:op=21
  .subst d;rfl
  by_cases h:op=22
  .subst h;rfl
  by_cases j:op=23
  .subst j;rfl
  by_cases k:op=28
  .subst k;rfl
  simp[d,h,j,k]
 .unfold qs;by_cases d:op=0
  .subst d;rfl
  by_cases h:op=2
  .subst h;rfl
  by_cases j:op=33
  .subst j;rfl
  simp[d,h,j]
def Zu(t:ByteArray):(t.toList==(bh #[]).toList)=au (t=ba []):=q8 _ _
def acI{n:Nx}{A B:Prop}(h:bt (jR n) B A):∀a b:Bool,a=qq n.op->b=qs n.op->
  let j:=bt (!b) (bt (!(n.tx.toList==(bh #[]).toList)) A B) B
  let k:=bt (n.op !=1) (bt (n.u !=0) A j) j
  let d:=bt (n.op !=21) (bt (n.m !=0) A k) k
  bt (!a) (bt (n.n !=0) A d) d:=by rintro a b rfl rfl;dsimp only;rw[Zu];unfold jR at h;have q:(n.op !=1)= !(n.op==1):=rfl;have w:(n.op !=21)= !(n.op==21):=rfl;have x:(n.n !=0)= !(n.n==0):=rfl;have y:(n.m !=0)= !(n.m==0):=rfl;have z:(n.u !=0)= !(n.u==0):=rfl;rw[q,w,x,y,z];generalize(n.op==1)=p1 at *;generalize(n.op==21)=p2 at *;generalize(n.n==0)=p3 at *;generalize(n.m==0)=p4 at *;generalize(n.u==0)=p5 at *;generalize au (n.tx=ba [])=p6 at *;generalize qq n.op=p7 at *;generalize qs n.op=p8 at *;cases p1<;>cases p2<;>cases p3<;>cases p4<;>cases p5<;>cases p6<;>cases p7<;>cases p8<;>exact h
def oc(g:List Nx)(n:Nx):Int:=if(dk n.op==(n.kids.length:Int)&&n.kids.all (fL g)&&jR n)=true then 0 else 1
def Yc{w:J}{s:Sl}{l:List Nd}{d:Nd}(h:GP w s l)(H:d.P w)(hk:d.x.kids.length<=fA):aj V OD #[s.v,d.v] w λr E=>r=ae (.i (oc (xs l) d.x))/\af w E:=by
 have hn:=iU h;have K:d.ks.n=d.x.kids.length:=bq.len H;have N:(xs l).length=l.length:=by simp[xs]
 unfold fA at hk;have loop:∀(m i:Nat) (q:Nat) (j:J),i+m=d.x.kids.length->(dk d.x.op==(d.x.kids.length:Int))=true->(d.x.kids.all (fL (xs l))=(d.x.kids.drop i).all (fL (xs l)))->LH F0 w j [.g q] (mI s l d)->
   xy.a8 s q d.x.op d.ks d.x.n d.x.m d.x.u d.x.tx d.x.st.k d.x.st.n d.x.st.x (i:Int) j λr E=>r=ae (.i (oc (xs l) d.x))/\af w E:=by
  intro m;induction m with
  |zero=>
   intro i q j hi D y z;rw[du co]at y;refine xy.bJ _ _ _ _ _ _ _ _ _ _ _ _ _ _ (aP (aV co) (z.nw λO _ A=>A.aA (Jx (l:=[21,22,23,28]) (Dw (n:=4) (A.ob 1) rfl) md d.x.op) ?_));rintro _ Q rfl B;refine⟨_,rfl,B.nw λw4 _ F=>F.aA (Jx (l:=[0,2,33]) (Dw (n:=3) (F.ob 2) rfl) md d.x.op) ?_⟩;rintro _ w5 rfl G;refine⟨_,rfl,?_⟩;have I:∀b:Bool,jR d.x=b->oc (xs l) d.x=if b=true then 0 else 1:=λb W=>by unfold oc;rw[D,y,W];rfl
   exact acI (n:=d.x) (bP (λh=>⟨by rw[I _ h];rfl,G.fr⟩) (λh=>⟨by rw[I _ h];rfl,G.fr⟩)) _ _ (LG d.x.op).1 (LG d.x.op).2
  |succ m ih=>
   intro i q j hi D y z;have C:d.x.kids[i]? =some (d.x.kids[i]'co):=a' co;rw[dw (by omega:i<d.x.kids.length),List.all_cons]at y;generalize d.x.kids[i]'co=x at C y;have bad:fL (xs l) x=false->(Ending.returned (.i 1)=ae (.i (oc (xs l) d.x))/\af w j):=λhx=>⟨by unfold oc;rw[y,hx];simp,z.fr⟩;have L:bq j d.ks d.x.kids:=z.getD 1;refine xy.bJ _ _ _ _ _ _ _ _ _ _ _ _ _ _ (aM (aQ co) ⟨co,co,L.cell C co λp hp Y=>⟨x,Y,aE (λT=>bad ?_) (λT=>⟨co,co,L.cell C co λp' ab Z=>⟨x,Z,aE (λU=>bad ?_) (λU=>?_)⟩⟩)⟩⟩)
   .unfold fL;rw[aV co];rfl
   .unfold fL;rw[aV (show ¬x<((xs l).length:Int)by rw[N];omega)];simp
   .rw [bb _ co];refine ih (i+1) q j co D ?_ z;rw[y];unfold fL;rw[aQ (show 0<=x by omega),aQ (show x<((xs l).length:Int)by rw[N];omega)];rfl
 refine xy.aD _ _ _ _ _ _ _ _ _ _ w _ ((xR h H).aK λq j S=>S.ai λO A=>A.aA (Jg d.x.op O) ?_);rintro _ Q rfl B;refine⟨_,rfl,dA (λM=>⟨?_,B.fr⟩) (λaa=>?_)⟩
 .unfold oc;rw[beq_eq_false_iff_ne.2 (by rw[K]at M;exact M)];rfl
 .exact loop d.x.kids.length 0 q Q co (by rw[aa,K];simp) ws B
def zo(g:List Nx):Prop:=∀d∈g,d.op=0->∀e∈g,e.op=0->d.tx=e.tx->d.st=e.st
def vU(n d:Nx):Bool:=au (d.op=0/\d.tx=n.tx/\d.st≠n.st)
def Ip{t:ByteArray}{s:bA}:∀{g:List Nx},kC g t=some s->∃h∈g,h.op=0/\h.tx=t/\h.st=s
 |h::g,d=>by
  unfold kC at d;split at d
  .rename_i j;exact⟨h,ws,j.1,j.2,Option.some.inj d⟩
  .obtain ⟨e,k,d⟩:=Ip d;exact⟨e,fF _ k,d⟩
def VP{t:ByteArray}:∀{g:List Nx},kC g t=none->∀d∈g,d.op=0->d.tx≠t
 |a::g,h,d,j,k,q=>by
  unfold kC at h;split at h
  .cases h
  .rename_i w;rcases aq.1 j with rfl|j
   .exact w ⟨k,q⟩
   .exact VP h d j k q
def VF{g:List Nx}(A:zo g)(n:Nx):th g n=g.any (vU n):=by
 unfold th;cases q:kC g n.tx with
 |none=>
  symm;rw[List.any_eq_false];intro h j d;have d:=eP d;exact VP q h j d.1 d.2.1
 |some s=>
  obtain⟨h,j,w,x,y⟩:=Ip q;by_cases k:s=n.st
  .simp only[k,decide_true,Bool.not_true];symm;rw[List.any_eq_false];intro e z d;have d:=eP d;exact d.2.2 ((A e z d.1 h j w (d.2.1.trans x.symm)).trans (y.trans k))
  .simp only[k,decide_false,Bool.not_false];symm;rw[List.any_eq_true];exact⟨h,j,aQ ⟨w,x,λe=>k (y.symm.trans e)⟩⟩
def ac2(n:Int)(h:0<=n)(j:n<64):ah .u64 (1 *2^(min (a5 n) (IntKind.bits .u64)))=((2^n.toNat:Nat):Int):=by
 have e:min (a5 n) (IntKind.bits .u64)=n.toNat:=by show min n.toNat 64=_;omega
 have d:(2:Nat)^n.toNat<=2^63:=Nat.pow_le_pow_right co co;rw[e,Int.one_mul,show((2:Int)^n.toNat)=((2^n.toNat:Nat):Int)from by rw[Int.natCast_pow];rfl];generalize(2:Nat)^n.toNat=m at d;exact IntWalk.u64_in _ co
abbrev gO(x:bA×Int):cE:=ae (.tuple #[ee x.1,.i x.2])
def v7{s:bA}(h:cm s=true)(d:s.k=0):1<=s.n/\s.n<=64/\s.x=0:=by unfold cm at h;simp[d]at h;omega
def mR{s:bA}(h:cm s=true):0<=s.n/\s.n<=64/\0<=s.x/\s.x<=16/\0<=s.k/\s.k<=3:=by unfold cm at h;simp at h;omega
def Yn{w:J}{s:Sl}{l:List Nd}{d:Nd}(h:GP w s l)(hd:d.P w)(hl:l.length<=fA)(h0:0<=d.x.op)(Y:d.x.op<=3)(hv:zo (xs l)):aj V OG #[s.v,d.v] w λr q=>r=gO (cR (xs l) d.x)/\af w q:=by
 have hn:=iU h;have ap:(xs l).length=l.length:=by simp[xs]
 unfold fA at hl;have e0:d.x.op=0\/d.x.op=1\/d.x.op=2\/d.x.op=3:=co
 refine kh.aD _ _ _ _ _ _ _ _ _ _ w _ ((xR h hd).aK λB w1 H1=>H1.aK λz w2 U=>aO (λW=>?_) (λW=>?_))
 .refine aE (λhs=>U.ai λM H=>⟨?_,H.fr⟩) (λhs=>U.aA (oY _ w2) ?_)
  .unfold cR;rw[av W,av co];rfl
  .rintro _ M rfl H;refine⟨_,_,_,rfl,H.ai λZ N=>⟨?_,N.fr⟩⟩;unfold cR;rw[av W,ag co]
 have F:cR (xs l) d.x=if d.x.op=0/\eZ (bl d.x.tx)=false then(dq,6)else
   if cm d.x.st=false then(dq,9)else
   if d.x.op=1/\d.x.st.k≠0\/d.x.op=3/\eD d.x.st=false then(dq,9)else
   if d.x.op=1/\fW d.x.u d.x.st.n=true then(dq,5)else
   if d.x.op=0/\(xs l).any (vU d.x)=true then(dq,8)else(d.x.st,0):=by unfold cR;rw[ag W,VF hv]
 have S0:∀(nm:Bool) (M:J),nm=(!decide (d.x.op=0)||eZ (bl d.x.tx))->LH F0 w M [.g B,.g z] (mI s l d)->kh.bD s B d.x.op d.ks d.x.n d.x.m d.x.u d.x.tx d.x.st.k d.x.st.n d.x.st.x z 0 0 0 nm M λr q=>r=gO (cR (xs l) d.x)/\af w q:=by
  intro nm M O H;refine dW (λK=>H.ai λZ N=>⟨?_,N.fr⟩) (λE=>?_)
  .rw [K]at O;have O:=O.symm;simp only[Bool.or_eq_false_iff,Bool.not_eq_false',decide_eq_true_eq]at O;rw[F,av O];rfl
  have al:¬(d.x.op=0/\eZ (bl d.x.tx)=false):=λhc=>by rw[E,hc.2,aQ hc.1]at O;simp at O
  rw[ag al]at F;refine H.aA (adm d.x.st M) ?_;rintro _ Z rfl N;refine⟨_,rfl,HA (λK=>N.ai λj A=>⟨?_,A.fr⟩) (λE=>?_)⟩
  .rw [F,av K];unfold hr;rw[K];rfl
  rw[ag (by rw[E];simp)]at F;have loop:∀(m i:Nat) (j:J),i+m=l.length->cR (xs l) d.x=(if d.x.op=0/\((xs l).drop i).any (vU d.x)=true then(dq,8)else(d.x.st,0))->LH F0 w j [.g B,.g z] (mI s l d)->
    kh.lA s B d.x.op d.ks d.x.n d.x.m d.x.u d.x.tx d.x.st.k d.x.st.n d.x.st.x z 0 0 0 (i:Int) j λr q=>r=gO (cR (xs l) d.x)/\af w q:=by
   intro m;induction m with
   |zero=>
    intro i j hi G A;rw[du co]at G;refine kh.oS _ _ _ _ _ _ _ _ _ _ _ _ _ _ _ _ _ _ (aP (aV co) (A.ai λC y=>⟨?_,y.fr⟩));rw[G,ag ws]
   |succ m ih=>
    intro i j hi G A;have T:l[i]? =some (l[i]'co):=a' co;have hx:(xs l).drop i=(l[i]'co).x::(xs l).drop (i+1):=by rw[dw (by omega:i<(xs l).length)];simp[xs]
    rw[hx,List.any_cons]at G;generalize l[i]'co=e at T G;have next:∀C,LH F0 w C [.g B,.g z] (mI s l d)->(d.x.op=0->vU d.x e.x=false)->kh.hW s B d.x.op d.ks d.x.n d.x.m d.x.u d.x.tx d.x.st.k d.x.st.n d.x.st.x z 0 0 0 (i:Int) C λr q=>r=gO (cR (xs l) d.x)/\af w q:=by
     intro C y E;show kh.lA s B d.x.op d.ks d.x.n d.x.m d.x.u d.x.tx d.x.st.k d.x.st.n d.x.st.x z 0 0 0 (ah .i64 ((i:Int)+1)) C _;rw[bb _ co];refine ih (i+1) C co ?_ y;rw[G];by_cases Q:d.x.op=0
     .rw [E Q,Bool.false_or]
     .rw [ag (λh=>Q h.1),ag (λh=>Q h.1)]
    have G5:GP j s l:=ct.1 (A.getD 0);refine kh.oS _ _ _ _ _ _ _ _ _ _ _ _ _ _ _ _ _ _ (aM (aQ co) (aO (λQ=>?_) (λQ=>A.ai λC y=>next C y (λh=>absurd h Q))));refine iD G5 rfl T λp hp _=>A.ai λC y=>?_;have c6:=E3 (ct.1 (y.getD 0)) T hp (rfl:((i:Int))=(i:Int));refine⟨_,c6.c0,aO (λS=>?_) (λS=>next C y λ_=>aV λh=>S h.1)⟩;refine iD (ct.1 (y.getD 0)) rfl T λp1 an ak=>⟨_,ak.c5,jz (λE=>?_) (λE=>next C y λ_=>aV λh=>E h.2.1)⟩;refine iD (ct.1 (y.getD 0)) rfl T λp2 ao aa=>⟨_,_,_,aa.s0,aa.s1,aa.s2,By (λK=>y.ai λw7 H7=>⟨?_,H7.fr⟩) (λam=>next C y λ_=>aV λh=>h.2.2 am)⟩;rw[G,av ⟨Q,by rw[show vU d.x e.x=true from aQ ⟨S,E,K⟩];rfl⟩];rfl
  have S4:∀j:J,cR (xs l) d.x=(if d.x.op=0/\(xs l).any (vU d.x)=true then(dq,8)else(d.x.st,0))->LH F0 w j [.g B,.g z] (mI s l d)->
    kh.fU s B d.x.op d.ks d.x.n d.x.m d.x.u d.x.tx d.x.st.k d.x.st.n d.x.st.x z 0 0 0 j λr q=>r=gO (cR (xs l) d.x)/\af w q:=λj G A=>loop l.length 0 j co G A
  have S1:∀(a:Bool) (j:J),a=eD d.x.st->LH F0 w j [.g B,.g z] (mI s l d)->kh.bW s B d.x.op d.ks d.x.n d.x.m d.x.u d.x.tx d.x.st.k d.x.st.n d.x.st.x z 0 0 0 a j λr q=>r=gO (cR (xs l) d.x)/\af w q:=by
   rintro a j rfl A;have bad:(d.x.op=1/\d.x.st.k≠0\/d.x.op=3/\eD d.x.st=false)->kh.cb z 0 0 0 j λr q=>r=gO (cR (xs l) d.x)/\af w q:=λD=>A.ai λC y=>⟨by rw[F,av D];rfl,y.fr⟩;have S3:¬(d.x.op=1/\d.x.st.k≠0\/d.x.op=3/\eD d.x.st=false)->kh.cX s B d.x.op d.ks d.x.n d.x.m d.x.u d.x.tx d.x.st.k d.x.st.n d.x.st.x z 0 0 0 j λr q=>r=gO (cR (xs l) d.x)/\af w q:=λD=>by
    rw[ag D]at F;refine aO (λI=>?_) (λI=>S4 j (by rw[F,ag (λh=>I h.1)]) A);have L:d.x.st.k=0:=by
     rcases Int.decEq d.x.st.k 0 with h|h
     .exact absurd (.inl ⟨I,h⟩) D
     .exact h
    obtain⟨v1,v2,_⟩:=v7 E L;have ew:ah .u64 d.x.st.n=d.x.st.n:=IntWalk.u64_in _ co;refine aE (λab=>⟨by rw[ew];omega,?_⟩) (λab=>S4 j (by rw[F,ag];rintro⟨_,D⟩;unfold fW at D;rw[aV co]at D;cases D) A);rw[ew,ac2 _ co ab];have hp:((2^d.x.st.n.toNat:Nat):Int)=(2:Int)^d.x.st.n.toNat:=by rw[Int.natCast_pow];rfl
    rw[hp];refine aE (λad=>A.ai λC y=>⟨?_,y.fr⟩) (λad=>S4 j ?_ A)
    .rw [F,av ⟨I,by unfold fW;rw[aQ ab,aQ ad];rfl⟩];rfl
    .rw [F,ag];rintro⟨_,D⟩;unfold fW at D;rw[aV (by omega:¬(2:Int)^d.x.st.n.toNat<=d.x.u),Bool.and_false]at D;cases D
   have ae:¬(d.x.op=1/\d.x.st.k≠0)->bt (d.x.op==3) (bt (!eD d.x.st) (kh.cb z 0 0 0 j λr q=>r=gO (cR (xs l) d.x)/\af w q) (kh.cX s B d.x.op d.ks d.x.n d.x.m d.x.u d.x.tx d.x.st.k d.x.st.n d.x.st.x z 0 0 0 j λr q=>r=gO (cR (xs l) d.x)/\af w q)) (kh.cX s B d.x.op d.ks d.x.n d.x.m d.x.u d.x.tx d.x.st.k d.x.st.n d.x.st.x z 0 0 0 j λr q=>r=gO (cR (xs l) d.x)/\af w q):=λL=>
    aO (λY=>dW (λK=>bad (.inr ⟨Y,K⟩)) (λE=>S3 (by rintro(h|h);exact L h;rw[E]at h;cases h.2))) (λY=>S3 (by rintro(h|h);exact L h;exact Y h.1))
   exact aO (λI=>dA (λL=>bad (.inl ⟨I,L⟩)) (λL=>ae (λh=>h.2 L))) (λI=>ae (λh=>I h.1))
  refine aO (λac=>S1 true Z ?_ N) (λac=>S1 _ Z ?_ N)
  .unfold eD;rw[ac];rfl
  .unfold eD;rw[beq_eq_false_iff_ne.2 ac];rfl
 refine dA (λS=>S0 true w2 ?_ U) (λS=>U.aA (XV d.x.tx w2) ?_)
 .rw [aV S];rfl
 .rintro _ M rfl H;exact⟨_,rfl,S0 _ M (by rw[aQ S];rfl) H⟩
def B8{s:bA}(h:(s.k=0/\1<=s.n/\s.n<=64/\s.x=0)\/(s.k=1/\0<=s.n/\s.n<=64/\s.x=0)\/(s.k=2/\1<=s.n/\s.n<=64/\1<=s.x/\s.x<=16)\/(s.k=3/\0<=s.n/\s.n<=64/\1<=s.x/\s.x<=16)):cm s=true:=by unfold cm;rcases h with⟨d,j,q,w⟩|⟨d,j,q,w⟩|⟨d,j,q,w,y⟩|⟨d,j,q,w,y⟩<;>simp[d,j,q,w]<;>simp[y]
def Io{s:bA}:cm s=true↔(s.k=0/\1<=s.n/\s.n<=64/\s.x=0)\/(s.k=1/\0<=s.n/\s.n<=64/\s.x=0)\/(s.k=2/\1<=s.n/\s.n<=64/\1<=s.x/\s.x<=16)\/(s.k=3/\0<=s.n/\s.n<=64/\1<=s.x/\s.x<=16):=by refine⟨λd=>?_,B8⟩;unfold cm at d;simp only[Bool.or_eq_true,bH,beq_iff_eq,decide_eq_true_eq]at d;omega
structure tV(g:List Nx)(n:Nx):Prop where
 kl:dk n.op=(n.kids.length:Int)
 ki:∀k∈n.kids,0<=k/\k<(g.length:Int)
 ok:jR n=true
def HL{g:List Nx}{n:Nx}(h:(cI g n).2=0):tV g n:=by
 unfold cI at h;split at h
 .cases h
 .rename_i d;simp only[Bool.and_eq_false_iff,not_or,Bool.not_eq_false,beq_iff_eq]at d;refine⟨d.1.1,λk j=>?_,d.2⟩;have:=List.all_eq_true.1 d.1.2 k j;unfold fL at this;simpa using this
def aa8{g:List Nx}{n:Nx}(q:∀j∈g,cm j.st=true)(k:∀h∈n.kids,0<=h/\h<(g.length:Int)){i:Nat}(hi:i<n.kids.length):cm (ck g n i)=true:=by
 have w:=k _ (List.getElem_mem hi);unfold ck;rw[a' hi];dsimp only;have d:(n.kids[i]).toNat<g.length:=co
 rw[a' d];exact q _ (List.getElem_mem d)
def Zt{x:bA}(h:cm x=true)(d:eD x=true):cm (iz x)=true:=by
 rw[Io]at h;unfold eD at d;simp only[Bool.or_eq_true,beq_iff_eq]at d;unfold iz;refine B8 ?_;split
 .show (0=0/\1<=x.n/\x.n<=64/\0=0)\/_;left;omega
 .right;left;show(1:Int)=1/\0<=x.n/\x.n<=64/\(0:Int)=0;omega
def oX{n:Int}(d:1<=n)(h:n<=64):cm (bM n)=true:=B8 (.inl ⟨rfl,d,h,rfl⟩)
def yJ{n:Int}(d:0<=n)(h:n<=64):cm (fk n)=true:=B8 (.inr (.inl ⟨rfl,d,h,rfl⟩))
def aeF{g:List Nx}{n:Nx}(W:∀N∈g,cm N.st=true)(h:(cI g n).2=0):cm (cI g n).1=true:=by
 have E:=HL h;have D:∀i:Nat,(i:Int)<dk n.op->cm (ck g n i)=true:=λi Y=>aa8 W E.ki (by have:=E.kl;omega);unfold cI at h ⊢;split at h
 .cases h
 rename_i H;rw[ag H];split at h
 .rename_i G;rw[av G];unfold cR at h ⊢;split at h
  .rename_i A;rw[av A];split at h
   .cases h
   .rename_i U;rw[ag U];exact yJ co co
  .rename_i A;rw[ag A];split at h
   .cases h
   rename_i O;rw[ag O];split at h
   .cases h
   rename_i q;rw[ag q];split at h
   .cases h
   rename_i Q;rw[ag Q];split at h
   .cases h
   rename_i S;rw[ag S];split at h
   .cases h
   rename_i T;rw[ag T];simpa using q
 rename_i G;rw[ag G];split at h
 .cases h
 rename_i d;rw[ag d];split at h
 .cases h
 rename_i j;rw[ag j];split at h
 .cases h
 rename_i I;rw[ag I];simp only[Bool.not_eq_false]at d j;have P:n.op<=34:=by
  rcases Int.lt_or_le 34 n.op with h|h
  .have:=E.kl;unfold dk at this;rw[av (.inr h)]at this;omega
  .exact h
 generalize K:ck g n 0=x at *;generalize L:ck g n 1=y at *;generalize M:ck g n 2=z at *;have w:cm x=true:=by rw[<-K];exact D 0 (by unfold dk;repeat' split<;>omega)
 have B:2<=dk n.op->cm y=true:=λh=>by rw[<-L];exact D 1 co
 have F:dk n.op=3->cm z=true:=λh=>by rw[<-M];exact D 2 co
 obtain⟨op,kids,C,m,u,Z,st⟩:=n;simp only at *;clear K L M D E H I;rcases vh co P with rfl|rfl|rfl|rfl|rfl|rfl|rfl|rfl|rfl|rfl|rfl|rfl|rfl|rfl|rfl|rfl|rfl|rfl|rfl|rfl|rfl|rfl|rfl|rfl|rfl|rfl|rfl|rfl|rfl|rfl|rfl|rfl|rfl|rfl|rfl
 iterate 4 omega
 all_goals first |(have B:=B md)|skip
 all_goals first |(have F:=F md)|skip
 iterate 12 exact w
 iterate 3 exact oX co co
 .show cm (if y.k=1 then fk (if y.n<z.n then z.n else y.n)else y)=true;split
  .rename_i D;have d:(au (x=bM 1)&&(au (y=z)||(y.k==1&&z.k==1)))=true:=d;have q:=mR B;have A:=mR F;exact yJ (by split<;>omega) (by split<;>omega)
  .exact B
 .have d:(x.k==0&&y.k==0)=true:=d;have j:au (x.n+y.n<=64)=true:=j;simp only[bH,beq_iff_eq]at d;have q:=v7 w d.1;have A:=v7 B d.2;exact oX co (eP j)
 .have d:(x.k==0)=true:=d;have j:(au (0<=m)&&au (m<=C)&&au (C<x.n))=true:=j;simp only[bH,decide_eq_true_eq]at j;have q:=v7 w (eq_of_beq d);show cm (bM (C - m+1))=true;exact oX co co
 iterate 2
  .have d:(x.k==0)=true:=d;have j:(au (1<=C)&&au (C<=64 - x.n))=true:=j;simp only[bH,decide_eq_true_eq]at j;have q:=v7 w (eq_of_beq d);show cm (bM (x.n+C))=true;exact oX co co
 .have d:(eD x&&au (y=bM x.x))=true:=d;simp only[bH]at d;exact Zt w d.1
 .exact w
 .have d:(eD x&&au (x=y))=true:=d;simp only[bH]at d;have q:=d.1;unfold eD at q;simp only[Bool.or_eq_true,beq_iff_eq]at q;rw[Io]at w;exact oX co co
 .exact oX co co
 .exact oX co co
 .have j:au (x.n+y.n<=64)=true:=j;have q:=mR w;have A:=mR B;exact yJ co (eP j)
 .exact w
 .exact oX co co
 .have j:au (x.n+z.n<=64)=true:=j;have q:=mR w;have A:=mR F;exact yJ co (eP j)
 .exact oX co co
 .exact yJ co co
def Vg.val{g:List Nx}(h:Vg g):∀j∈g,cm j.st=true:=by
 induction h with
 |nil=>simp
 |snoc w k x q=>
  intro j d;rcases aW.1 d with d|d
  .exact q j d
  .simp only[aq,aL,aR]at d;subst d;have:=aeF q (by rw[k])
   rwa[k]at this
def var_eq{g E:List Nx}{a b:Nx}(j:tV g a)(G:tV E b)(h:a.op=0)(k:b.op=0)(I:a.tx=b.tx)(H:a.st=b.st):a=b:=by
 have q:∀{g:List Nx} {a:Nx},tV g a->a.op=0->a.kids=[]/\a.n=0/\a.m=0/\a.u=0:=by intro g a j h;have F:=j.kl;have d:=j.ok;rw[h]at F;unfold jR at d;rw[h]at d;refine⟨List.eq_nil_of_length_eq_zero (by have:dk 0=0:=rfl;omega),?_⟩;have:qq 0=false:=rfl;rw[this]at d;simp at d;exact⟨d.1.1.1,d.1.1.2,d.1.2⟩
 obtain⟨w,x,y,z⟩:=q j h;obtain⟨A,B,C,D⟩:=q G k;cases a;cases b;simp only at *;subst h k I H w x y z A B C D;rfl
def Vg.ok{g:List Nx}(h:Vg g):∀i j,g[i]? =some j->cI (g.take i) j=(j.st,0):=by
 induction h with
 |nil=>intro i j d;simp at d
 |@snoc g n x q y w=>
  intro i j d;rcases Nat.lt_or_ge i g.length with k|k
  .rw [List.getElem?_append_left k]at d;rw[List.take_append_of_le_length co];exact w i j d
  .rw [List.getElem?_append_right k]at d;have:i - g.length=0:=by have:=(cV.1 d).1;simp at this;omega
   rw[this]at d;simp at d;subst d;rw[show i=g.length by omega,List.take_left];exact q
def Vg.HG{g:List Nx}(h:Vg g):∀i d,g[i]? =some d->tV (g.take i) d:=λi d j=>HL (by rw[h.ok i d j])
def Vg.kids{g:List Nx}(h:Vg g){i:Nat}{d:Nx}(k:g[i]? =some d):∀j∈d.kids,0<=j/\j<(i:Int):=λj w=>by have q:=(h.HG i d k).ki j w;have x:=(cV.1 k).1;rw[List.length_take]at q;omega
def Vg.vars{g:List Nx}(h:Vg g):zo g:=by
 induction h with
 |nil=>intro q j;cases j
 |@snoc g n B d C A=>
  have one:∀q∈g,q.op=0->n.op=0->q.tx=n.tx->q.st=n.st:=by
   intro q j x y w;have D:tV g n:=HL (by rw[d]);unfold cI at d;split at d
   .simp at d
   rw[av (by omega:n.op<=3)]at d;unfold cR at d;rw[ag co]at d;split at d
   .simp at d
   split at d
   .simp at d
   split at d
   .simp at d
   split at d
   .simp at d
   split at d
   .simp at d
   rename_i z;simp only[y,true_and,Bool.not_eq_true]at z;rw[VF A,List.any_eq_false]at z;rcases decEq q.st n.st with h|h
   .exact absurd (aQ ⟨x,w,h⟩) (z q j)
   .exact h
  intro q j x e k y w;have j:=aW.1 j;have k:=aW.1 k;simp only[aq,aL,aR]at j k;rcases j with j|j
  .rcases k with k|k
   .exact A q j x e k y w
   .rw [k]at w y ⊢;exact one q j x y w
  .rw [j]at w x ⊢;rcases k with k|k
   .exact (one e k y x w.symm).symm
   .rw [k]
def E9{n:Nx}:∀{g:List Nx} {i:Nat},h4 n g i=none->n∉g
 |[],i,_=>ws
 |j::g,i,d=>by
  unfold h4 at d;split at d
  .cases d
  .rename_i h;simp only[aq,not_or];exact⟨λe=>h e.symm,E9 d⟩
def Af{n:Nx}:∀{g:List Nx} {i k:Nat},h4 n g i=some k->i<=k/\g[k - i]? =some n
 |j::g,i,k,d=>by
  unfold h4 at d;split at d
  .rename_i h;cases d;simp[h]
  .have:=Af d;refine⟨co,?_⟩;rw[show k - i=(k - (i+1))+1 by omega];simpa using this.2
set_option maxHeartbeats 1000000
def eC(w:J)(p:Addr)(d:Nd):Prop:=∀i v,(Nd.c d)[i]? =some v->w.cell? (p.add i)=some v
def eC.st{w Y:J}{p:Addr}{d:Nd}(h:eC w p d)(x:p.block<w.heap.size->Y.heap[p.block]? =w.heap[p.block]?):eC Y p d:=λi v q=>by have j:=h i v q;have k:=o0 j;rw[jG]at k;unfold World.cell? at j ⊢;rw[jG]at j ⊢;rw[x k];exact j
def eC.lt{w:J}{p:Addr}{d:Nd}(h:eC w p d):p.block<w.heap.size:=by
 have:=o0 (h 0 _ rfl)
 rwa[jG]at this
def _root_.Go.W.En.jP(p:Addr)(d:Nd):En:=⟨[p.block],λj=>eC j p d,λj w q h=>h.st (q p.block ws),λj h b k=>by simp at k;subst k;exact eC.lt h,ws⟩
def AR{w:J}{b:Nat}{d:Nd}{T:aC}(h:w.heap[b]? =some (.cells (Nd.c d).toArray T (0,0))):eC w (ab b) d:=λi v j=>cellAt (p:=ab b) h rfl (by simpa using j)
section
variable {w:J} {p:Addr} {d:Nd} (h:eC w p d)
include h
def eC.c0:w.cell? (p.add 0)=some (.i d.x.op):=h 0 _ rfl
def eC.c1:w.cell? (p.add 1)=some d.ks.v:=h 1 _ rfl
def eC.c2:w.cell? (p.add 2)=some (.i d.x.n):=h 2 _ rfl
def eC.c3:w.cell? (p.add 3)=some (.i d.x.m):=h 3 _ rfl
def eC.c4:w.cell? (p.add 4)=some (.u d.x.u):=h 4 _ rfl
def eC.c5:w.cell? (p.add 5)=some (.string d.x.tx):=h 5 _ rfl
def eC.s0:w.cell? ((p.add 6).add 0)=some (.i d.x.st.k):=by rw[add_add];exact h 6 _ rfl
def eC.s1:w.cell? ((p.add 6).add 1)=some (.i d.x.st.n):=by rw[add_add];exact h 7 _ rfl
def eC.s2:w.cell? ((p.add 6).add 2)=some (.i d.x.st.x):=by rw[add_add];exact h 8 _ rfl
end
def jY(n:Int)(w:J):aj V Qx #[.i n] w λr j=>r=ae (ee (bM n))/\af w j:=
 Vm.aD _ w _ ((bN [] ws).aK λb k d=>d.ai λq h=>⟨rfl,h.fr⟩)
def vT(n:Int)(w:J):aj V QL #[.i n] w λr j=>r=ae (ee (fk n))/\af w j:=
 Vu.aD _ w _ ((bN [] ws).aK λb k d=>d.ai λq h=>⟨rfl,h.fr⟩)
def te(s:bA)(w:J):aj V QA #[ee s] w λr h=>r=ae (.bool (s.k==0))/\af w h:=
 Vo.aD _ _ _ w _ ((bN [] ws).aK λb j d=>⟨rfl,d.fr⟩)
def jZ(s:bA)(w:J):aj V QC #[ee s] w λr h=>r=ae (.bool (s.k==1))/\af w h:=
 Vq.aD _ _ _ w _ ((bN [] ws).aK λb j d=>⟨rfl,d.fr⟩)
def H4(s:bA)(w:J):aj V Qz #[ee s] w λr j=>r=ae (.bool (eD s))/\af w j:=
 Vn.aD _ _ _ w _ ((bN [] ws).aK λb k h=>aO (λd=>⟨by unfold eD;rw[d];rfl,h.fr⟩) (λd=>⟨by unfold eD;rw[beq_eq_false_iff_ne.2 d];rfl,h.fr⟩))
def Va(x y:bA)(w:J):aj V Qt #[ee x,ee y] w λr B=>r=ae (.bool (au (x=y)||(x.k==1&&y.k==1)))/\af w B:=by refine Vi.aD _ _ _ _ _ _ w _ ((bN [] ws).aK λb F z=>z.aK λE C j=>oG (a:=x) (b:=y) (λd=>⟨by rw[aQ d];rfl,j.fr⟩) (λd=>j.aA (jZ x C) ?_));rintro _ D rfl q;rw[aV d,Bool.false_or];refine⟨_,rfl,aO (λh=>q.aA (jZ y D) ?_) (λh=>⟨by rw[beq_eq_false_iff_ne.2 h];rfl,q.fr⟩)⟩;rintro _ G rfl A;exact⟨_,rfl,by rw[h];rfl,A.fr⟩
def Hh(d ranges:Bool):Int:=if d=true then(if ranges=true then 0 else 5)else 9
def afr(s:bA)(q ranges:Bool)(w:J):aj V AQ #[ee s,.bool q,.bool ranges] w λr z=>r=gO (s,Hh q ranges)/\af w z:=by refine Vs.aD _ _ _ _ _ w _ ((bN [] ws).aK λb B y=>y.aK λA C j=>dW (λh=>j.ai λx d=>⟨by rw[h];rfl,d.fr⟩) (λh=>dW (λk=>j.ai λx d=>⟨by rw[h,k];rfl,d.fr⟩) (λk=>j.ai λx d=>⟨by rw[h,k];rfl,d.fr⟩)))
def U'(s:bA)(w:J):aj V QN #[ee s] w λr z=>r=ae (.int .i64 (hr s))/\af w z:=by
 refine B9.aD _ _ _ w _ ((bN [] ws).aK λH E G=>?_);have I:cm s=true->(Ending.returned (Value.int .i64 0)=ae (.int .i64 (hr s))/\af w E):=λq=>⟨by unfold hr;rw[av q],G.fr⟩;have bad:cm s=false->(Ending.returned (Value.int .i64 9)=ae (.int .i64 (hr s))/\af w E):=λq=>⟨by unfold hr;rw[ag (by simp[q])],G.fr⟩;have plain:∀least:Int,(∀h:least<=s.n,s.n<=64->s.x=0->cm s=true)->(¬(least<=s.n/\s.n<=64/\s.x=0)->cm s=false)->B9.bD H s.k s.n s.x least 64 false E λr z=>r=ae (.int .i64 (hr s))/\af w z:=by intro least h d;exact aE (λq=>bad (d co)) (λq=>aE (λF=>bad (d co)) (λF=>aP rfl (aM rfl (dA (λj=>bad (d (λK=>j K.2.2))) (λj=>I (h co co j))))))
 have array:∀least:Int,(∀h:least<=s.n,s.n<=64->1<=s.x->s.x<=16->cm s=true)->(¬(least<=s.n/\s.n<=64/\1<=s.x/\s.x<=16)->cm s=false)->B9.bD H s.k s.n s.x least 64 true E λr z=>r=ae (.int .i64 (hr s))/\af w z:=by intro least h d;exact aE (λq=>bad (d co)) (λq=>aE (λF=>bad (d co)) (λF=>aM rfl (aE (λj=>bad (d co)) (λj=>aE (λy=>bad (d co)) (λy=>aP rfl (I (h co co co co)))))))
 refine aO (λA=>plain 1 (λh d j=>?_) (λq=>?_)) (λA=>aO (λB=>plain 0 (λh d j=>?_) (λq=>?_)) (λB=>aO (λC=>array 1 (λh d j y=>?_) (λq=>?_)) (λC=>aO (λD=>array 0 (λh d j y=>?_) (λq=>?_)) (λD=>bad ?_))))
 .unfold cm;simp[A,h,d,j]
 .unfold cm;rw[A];simp;omega
 .unfold cm;simp[B,h,d,j]
 .unfold cm;rw[B];simp;omega
 .unfold cm;simp[C,h,d,j,y]
 .unfold cm;rw[C];simp;omega
 .unfold cm;simp[D,h,d,j,y]
 .unfold cm;rw[D];simp;omega
 .unfold cm;simp[A,B,C,D]
def ae'{s:ByteArray}{i:Nat}(h:i<s.size):s[i]? =some (gQ (bl s) i):=by
 have d:i<(bl s).length:=h;have e:gQ (bl s) i=(bl s)[i]:=by unfold gQ;rw[List.getD_eq_getElem?_getD,a' d];rfl
 rw[e,getElem?_pos s i h];rfl
def afo(s:ByteArray)(w:J):aj V QB #[.string s] w λr k=>r=ae (.bool (eZ (bl s)))/\af w k:=by
 have j:(bl s).length=s.size:=dQ s;have nk:∀(c:UInt8) (m:List UInt8),eZ (c::m)=(au (m.length<=15)&&fv c&&m.all dc):=λ_ _=>rfl;cases z:bl s with
 |nil=>
  have q:s.size=0:=by rw[<-j,z];rfl
  exact oK.ok s w _ (aM (aQ co) ⟨rfl,Fr.refl _ _⟩)
 |cons c m=>
  have P:s.size=m.length+1:=by rw[<-j,z];rfl
  have F:gQ (bl s) 0=c:=by rw[z];rfl
  refine oK.ok s w _ (aP (aV co) (aE (λh=>⟨?_,Fr.refl _ _⟩) (λh=>?_)))
  .rw [nk,aV co];rfl
  have I:eZ (c::m)=(fv c&&m.all dc):=by rw[nk,aQ (by omega:m.length<=15),Bool.true_and]
  rw[I];have loop:∀(d i:Nat),i+d=s.size->(fv c&&m.all dc)=(if i=0 then(fv c&&m.all dc)else((bl s).drop i).all dc)->oK.L1 s (i:Int) w λr k=>r=ae (.bool (fv c&&m.all dc))/\af w k:=by
   intro d;induction d with
   |zero=>
    intro i M y;rw[du co,ag co]at y;exact oK.fH _ _ _ _ (aP (aV co) ⟨by rw[y];rfl,Fr.refl _ _⟩)
   |succ d O=>
    intro i M y;have G:=ae' (show i<s.size by omega);have H:(bl s).drop i=gQ (bl s) i::(bl s).drop (i+1):=by rw[dw (by omega:i<(bl s).length)];unfold gQ;rw[List.getD_eq_getElem?_getD,a' (by omega:i<(bl s).length)];rfl
    have go:(if i=0 then fv (gQ (bl s) i)else dc (gQ (bl s) i))=true->oK.S5 s (i:Int) w λr k=>r=ae (.bool (fv c&&m.all dc))/\af w k:=λh=>by
     show oK.L1 s (ah .i64 ((i:Int)+1)) w _;rw[bb _ co];refine O (i+1) co ?_;rw[ag co];by_cases q:i=0
     .subst q;rw[av rfl,F]at h;rw[h,Bool.true_and];rw[z];rfl
     .rw [ag q]at h y;rw[y,H,List.all_cons,h,Bool.true_and]
    have stop:(if i=0 then fv (gQ (bl s) i)else dc (gQ (bl s) i))=false->oK.S4 w λr k=>r=ae (.bool (fv c&&m.all dc))/\af w k:=λh=>by
     refine⟨?_,Fr.refl _ _⟩;by_cases q:i=0
     .subst q;rw[av rfl,F]at h;rw[h,Bool.false_and]
     .rw [ag q]at h y;rw[y,H,List.all_cons,h,Bool.false_and]
    generalize gQ (bl s) i=x at G go stop;have E:∀l:Bool,l=fv x->oK.S3 s (i:Int) (x.toNat:Int) l w λr k=>r=ae (.bool (fv c&&m.all dc))/\af w k:=by
     intro l j;refine dW (λL=>?_) (λD=>go ?_)
     .rw [L]at j;refine aO (λq=>stop ?_) (λq=>?_)
      .rw [av co,<-j]
      have N:i≠0:=co
      rw[ag N]at go stop;have A:dc x=((au (48<=x.toNat)&&au (x.toNat<=57))||x==45):=by unfold dc;rw[<-j,Bool.false_or]
      refine dA (λC=>aE (λB=>stop ?_) (λB=>aE (λK=>stop ?_) (λK=>go ?_))) (λC=>go ?_)
      .rw [A,aV (show ¬48<=x.toNat by omega)];have:(x==45)=false:=beq_eq_false_iff_ne.2 λe=>C (by subst e;rfl);rw[this];rfl
      .rw [A,aV (show ¬x.toNat<=57 by omega),Bool.and_false];have:(x==45)=false:=beq_eq_false_iff_ne.2 λe=>C (by subst e;rfl);rw[this];rfl
      .rw [A,aQ (show 48<=x.toNat by omega),aQ (show x.toNat<=57 by omega)];rfl
      .have:x=45:=UInt8.toNat_inj.1 (by have:((45:UInt8).toNat:Int)=45:=rfl;omega);rw[A,this];rfl
     .rw [D]at j;split
      .exact j.symm
      .unfold dc;rw[<-j];rfl
    have D:((i:Int)).toNat=i:=bo i;refine oK.fH _ _ _ _ (aM (aQ co) ⟨co,x,by rw[D];exact G,aE (λB=>E _ ?_) (λB=>E _ ?_)⟩)
    .unfold fv;rw[aQ (show 97<=x.toNat by omega),Bool.true_and];exact decide_eq_decide.2 co
    .unfold fv;rw[aV (show ¬97<=x.toNat by omega),Bool.false_and]
  exact loop s.size 0 co (by rw[av rfl])
def Zv(t:ByteArray):(t.toList==(bh #[]).toList)=au (t=ba []):=q8 _ _
def afn{w:J}{p:Addr}{d:Nd}(h:eC w p d):aj V Qy #[.pointer (some p)] w λr q=>r=ae (.bool (jR d.x))/\af w q:=by
 have C:∀a b c e:Bool,yN.S1 p a b c e w λr q=>r=ae (.bool ((a||d.x.n==0)&&(b||d.x.m==0)&&(c||d.x.u==0)&&(e||au (d.x.tx=ba []))))/\af w q:=by
  intro a b c e;cases a<;>cases b<;>cases c<;>cases e;all_goals repeat (first |refine aP rfl ?_|refine aM rfl ?_|refine⟨_,h.c2,aO (λj=>?_) (λj=>⟨by rw[beq_eq_false_iff_ne.2 j];simp,Fr.refl _ _⟩)⟩|refine⟨_,h.c3,aO (λk=>?_) (λk=>⟨by rw[beq_eq_false_iff_ne.2 k];simp,Fr.refl _ _⟩)⟩|refine⟨_,h.c4,aO (λz=>?_) (λz=>⟨by rw[beq_eq_false_iff_ne.2 z];simp,Fr.refl _ _⟩)⟩|refine⟨_,h.c5,?_,Fr.refl _ _⟩)
  all_goals first |exact⟨by simp[*],Fr.refl _ _⟩|(rw[Zv];simp[*])
 have fin:∀a b c e:Bool,a=qq d.x.op->b=(d.x.op==21)->c=(d.x.op==1)->e=qs d.x.op->yN.S1 p a b c e w λr q=>r=ae (.bool (jR d.x))/\af w q:=by rintro a b c e rfl rfl rfl rfl;exact C _ _ _ _
 have H:∀A:Int,d.x.op≠A->(d.x.op==A)=false:=λA G=>beq_eq_false_iff_ne.2 G;have D:∀e:Bool,e=qs d.x.op->yN.S2 p false false false e d.x.op w λr q=>r=ae (.bool (jR d.x))/\af w q:=by intro e y;refine aO (λE=>fin _ _ _ _ ?_ ?_ ?_ y) (λE=>aO (λj=>fin _ _ _ _ ?_ ?_ ?_ y) (λj=>aO (λk=>aM (beq_iff_eq.2 k) (fin _ _ _ _ ?_ ?_ ?_ y)) (λk=>aO (λz=>aM (beq_iff_eq.2 z) (fin _ _ _ _ ?_ ?_ ?_ y)) (λz=>aO (λF=>fin _ _ _ _ ?_ ?_ ?_ y) (λF=>fin _ _ _ _ ?_ ?_ ?_ y)))));all_goals first |(rw[‹d.x.op=_›];rfl)|(simp[qq, *])
 refine yN.ok p w _ ⟨_,h.c0,aO (λB=>aM (beq_iff_eq.2 B) (fin _ _ _ _ ?_ ?_ ?_ ?_)) (λB=>aO (λj=>aM (beq_iff_eq.2 j) (fin _ _ _ _ ?_ ?_ ?_ ?_)) (λj=>aO (λk=>fin _ _ _ _ ?_ ?_ ?_ ?_) (λk=>D _ ?_)))⟩;all_goals first |(rw[‹d.x.op=_›];rfl)|(unfold qs;simp[*])
def ep(n:Nx):List UInt8:=cd n.op++(dS n.kids++(cd n.n++(cd n.m++(eF n.u.toNat++(ea (bl n.tx)++(cd n.st.k++(cd n.st.n++cd n.st.x)))))))
structure fV(x:Nx):Prop where
 op:aX x.op
 ks:∀k∈x.kids,aX k
 kl:x.kids.length<=1000000000
 n:aX x.n
 m:aX x.m
 u:0<=x.u/\x.u<18446744073709551616
 tx:x.tx.size<=1000000000
 sk:aX x.st.k
 sn:aX x.st.n
 sx:aX x.st.x
def acp{n:Nx}(W:fV n):(ep n).length<=20000000000:=by have h:=da _ W.op;have j:=km _ W.ks;have k:=da _ W.n;have q:=da _ W.m;have w:=ek n.u.toNat (by have:=W.u;omega);have x:=da _ W.sk;have y:=da _ W.sn;have z:=da _ W.sx;have A:=ek n.kids.length (by have:=W.kl;omega);have d:=ek (bl n.tx).length (by have:=W.tx;rw[dQ];omega);have B:=W.kl;have C:=W.tx;have D:=dQ n.tx;unfold ep dS ea;simp only[a9];omega
def pQ{P:aH}{f:FuncId}{args:Array aa}{w0 w:J}{j:Nat}{k:List Nat}{bs q:List UInt8}(h:jf w0 j k bs w)(B:∀own,hd w j bs own->(∀y∈own,y∈k\/w0.heap.size<=y)->aj P f args w (qb w j own q)){K:J->Prop}(A:∀d,jf w0 j k q d->K d):
  aj P f args w λr d=>r=ae (.tuple #[])/\K d:=by obtain⟨own,D,C,x⟩:=h;refine(B own D x).mono ?_;rintro r d ⟨rfl,z⟩;exact⟨rfl,A d (jf.then C x z)⟩
def af0{w:J}{k:Nat}{bs:List UInt8}{own:List Nat}(y:hd w k bs own){s:Sl}{l:List Int}(h:bq w s l)(A:∀d∈(En.rd s (l.map aY)).fp,d∉own)(hi:∀d∈l,aX d)(B:bs.length+10 *l.length<=1000000000000):
  aj V Gr #[.pointer (some (ab k)),s.v] w (qb w k own (bs++dS l)):=by
 by_cases q:l=[]
 .subst q;have C:s.n=0:=bq.len h;refine rh.ok _ _ w _ ?_;rw[C];refine(yZ y 0 co co).mono ?_;rintro r D ⟨rfl,z⟩;refine⟨rfl,rh.bC _ _ _ _ _ _ (aP md ⟨rfl,?_⟩)⟩;simpa[dS]using z
 .have x:(En.rd s (l.map aY)).fp=ax s:=by show(if l.map aY=[]then[]else ax s)=_;rw[ag (by simpa using q)]
  exact afZ y h (λd j=>A d (x▸j)) (λd j=>(En.rd s (l.map aY)).lt w h d (x▸j)) hi B
def Vc{w:J}{h:Nat}{bs:List UInt8}{own:List Nat}(U:hd w h bs own){p:Addr}{d:Nd}(L:eC w p d)(I:d.P w)(N:p.block∉own)(H:∀j∈(dp d).fp,j∉own)(W:fV d.x)(K:bs.length<=100000000000):
  aj V QM #[.pointer (some (ab h)),.pointer (some p)] w (qb w h own (bs++ep d.x)):=by
 have at_:∀{q:List UInt8} {Y:J},jf w h own q Y->eC Y p d:=λ⟨_,_,f,_⟩=>L.st λQ=>f.cC _ Q N
 have kd:∀{q:List UInt8} {Y:J},jf w h own q Y->bq Y d.ks d.x.kids:=λ⟨_,_,f,_⟩=>(dp d).st w _ (λb O K=>f.cC _ K (H b O)) I;have k1:=da _ W.op;have k2:=km _ W.ks;have k3:=da _ W.n;have k4:=da _ W.m;have Z:d.x.u=(d.x.u.toNat:Int):=by have:=W.u;omega
 have k5:=ek d.x.u.toNat (by have:=W.u;omega);have k6:=da _ W.sk;have k7:=da _ W.sn;have k9:=ek d.x.kids.length (by have:=W.kl;omega);have k0:=ek (bl d.x.tx).length (by have:=W.tx;rw[dQ];omega);have m1:=W.kl;have m2:=W.tx;have m3:=dQ d.x.tx;have lL:(dS d.x.kids).length<=10000000010:=by unfold dS;simp only[a9];omega
 have lR:(ea (bl d.x.tx)).length<=1000000010:=by unfold ea;simp only[a9];omega
 refine Vv.ok _ _ w _ ⟨_,L.c0,pQ (jf.refl U) (λo r _=>ra r _ W.op co) λw1 k=>⟨_,(at_ k).c1,pQ k (λo r T=>af0 r (kd k) (λj M S=>?_) W.ks (by simp only[a9];omega)) λw2 y=>⟨_,(at_ y).c2,pQ y (λo r _=>ra r _ W.n (by simp only[a9];omega)) λw3 z=>⟨_,(at_ z).c3,pQ z (λo r _=>ra r _ W.m (by simp only[a9];omega)) λw4 A=>⟨_,(at_ A).c4,?_⟩⟩⟩⟩⟩
 .rcases T j S with G|G
  .exact H j M G
  .have:=(dp d).lt w I j M;omega
 rw[Z];refine pQ A (λo r _=>yZ r d.x.u.toNat (by have:=W.u;omega) (by simp only[a9];omega)) λw5 B=>⟨_,(at_ B).c5,pQ B (λo r _=>af2 r d.x.tx (by simp only[a9];omega)) λw6 C=>⟨_,(at_ C).s0,pQ C (λo r _=>ra r _ W.sk (by simp only[a9];omega)) λw7 D=>⟨_,(at_ D).s1,pQ D (λo r _=>ra r _ W.sn (by simp only[a9];omega)) λw8 E=>⟨_,(at_ E).s2,pQ E (λo r _=>ra r _ W.sx (by simp only[a9];omega)) λw9 F=>⟨rfl,?_⟩⟩⟩⟩⟩;unfold ep;simp only[cN]at F;exact F
def Vb{w:J}{p:Addr}{d:Nd}(k:eC w p d)(j:d.P w)(W:fV d.x):
  aj V QD #[.pointer (some p)] w λr G=>r=ae (.string (ba (ep d.x)))/\af w G:=by refine Vr.ok _ w _ ?_;have h:af w (w.alloc (.cells #[.slice none 0 0] ti)):=Fr.alloc _ _ _;have lt:=acp W;refine(Vc (hd.new w) (k.st λD=>h.cC _ D id) ((dp d).st w _ (λb H C=>h.cC _ C id) j) (by have:=eC.lt k;simp;omega) (λz q=>by have:=(dp d).lt w j z q;simp;omega) W ws).mono ?_;rintro r L ⟨rfl,K,y,A,I⟩;rw[lU]at y;refine⟨rfl,(VV y co).mono ?_⟩;rintro r M ⟨s,rfl,F,B,_⟩;refine⟨s,rfl,_,lD F.rd,rfl,?_⟩;exact(h.trans A λz q E=>by simp at E;omega).dN B
def B4{a b:Nat}(d:a<256)(j:b<256)(h:c9 a=c9 b):a=b:=by have:=congrArg UInt8.toNat h;simp at this;omega
def z0:∀(n m:Nat) (r s:List UInt8),eF n++r=eF m++s->n=m/\r=s:=by
 intro n;induction n using Nat.strongRecOn with
 |_ n q=>
  intro m r s d;by_cases j:n<128<;>by_cases h:m<128
  .rw [mx j,mx h]at d;simp only[i2,lU,List.cons.injEq]at d;exact⟨B4 co co d.1,d.2⟩
  .rw [mx j,m8 h]at d;simp only[i2,lU,List.cons.injEq]at d;have:=B4 co co d.1;omega
  .rw [m8 j,mx h]at d;simp only[i2,lU,List.cons.injEq]at d;have:=B4 co co d.1;omega
  .rw [m8 j,m8 h]at d;simp only[i2,List.cons.injEq]at d;have w:=B4 co co d.1;have k:=q (n / 128) co _ _ _ d.2;exact⟨co,k.2⟩
def agh{a b:Int}(h:zz a=zz b):a=b:=by unfold zz at h;split at h<;>split at h<;>omega
def r0{n m:Int}{r s:List UInt8}(h:cd n++r=cd m++s):n=m/\r=s:=by have:=z0 _ _ _ _ h;exact⟨agh this.1,this.2⟩
def LM:∀{a b:List Int} {r s:List UInt8},a.length=b.length->a.flatMap cd++r=b.flatMap cd++s->a=b/\r=s
 |[],[],_,_,_,h=>⟨rfl,h⟩
 |[],_::_,_,_,d,_=>by simp at d
 |_::_,[],_,_,d,_=>by simp at d
 |x::a,y::b,r,s,d,h=>by simp only[List.flatMap_cons,cN]at h;obtain⟨j,k⟩:=r0 h;obtain⟨q,w⟩:=LM (a:=a) (b:=b) (by simpa using d) k;exact⟨by rw[j,q],w⟩
def Zw{a b:List Int}{r s:List UInt8}(h:dS a++r=dS b++s):a=b/\r=s:=by unfold dS at h;simp only[cN]at h;obtain⟨d,j⟩:=z0 _ _ _ _ h;exact LM d j
def Zx{a b r s:List UInt8}(h:ea a++r=ea b++s):a=b/\r=s:=by unfold ea at h;simp only[cN]at h;obtain⟨d,j⟩:=z0 _ _ _ _ h;exact List.append_inj j d
def aco{n m:Nx}(hn:0<=n.u)(Z:0<=m.u)(h:ep n=ep m):n=m:=by
 unfold ep at h;obtain⟨d,h⟩:=r0 h;obtain⟨j,h⟩:=Zw h;obtain⟨k,h⟩:=r0 h;obtain⟨q,h⟩:=r0 h;obtain⟨C,h⟩:=z0 _ _ _ _ h;obtain⟨w,h⟩:=Zx h;obtain⟨x,h⟩:=r0 h;obtain⟨y,h⟩:=r0 h;have z:=(r0 (r:=[]) (s:=[]) (by simpa using h)).1;have A:n.u=m.u:=co
 have B:n.tx=m.tx:=by
  have:=congrArg ba w
  rwa[jk,jk]at this
 obtain⟨D,E,F,G,H,I,⟨K,L,M⟩⟩:=n;obtain⟨N,O,P,Q,S,T,⟨U,W,Y⟩⟩:=m;simp only at d j k q A B x y z;clear C w;subst d j k q A B x y z;rfl
def kX(n:Nx):ByteArray:=ba (ep n)
def aaX{n m:Nx}(j:0<=n.u)(d:0<=m.u)(h:kX n=kX m):n=m:=by
 refine aco j d ?_;have:=congrArg bl h;unfold kX at this
 rwa[gC,gC]at this
def kL(es:Array MapEntry)(ms:List (ByteArray×aa)):Prop:=es.toList.map (λe=>(e.key,e.val))=ms.map λp=>(Value.string p.1,p.2)
def kv(ms:List (ByteArray×aa))(k:ByteArray):Option aa:=(ms.find? λp=>au (p.1=k)).map (·.2)
def Xr(a b:ByteArray):(a==b)=au (b=a):=by
 cases d:au (b=a)with
 |true=>rw[eP d];exact(Go.MapKept.bytes_beq _ _).2 rfl
 |false=>
  cases h:(a==b)with
  |false=>rfl
  |true=>exact absurd ((Go.MapKept.bytes_beq _ _).1 h).symm (il d)
def EN{k:ByteArray}:∀{es:List MapEntry} {ms:List (ByteArray×aa)} {i:Nat},es.map (λe=>(e.key,e.val))=ms.map (λp=>(Value.string p.1,p.2))->
  Instr.findNow .string (.string k) es i=some ((ms.findIdx? λp=>au (p.1=k)).bind λh=>(ms[h]?).map λp=>(i+h,p.2))
 |[],[],i,_=>rfl
 |[],_::_,_,d=>by simp at d
 |_::_,[],_,d=>by simp at d
 |e::es,p::ms,i,d=>by
  simp only[List.map_cons,List.cons.injEq,eW]at d;obtain⟨⟨w,x⟩,y⟩:=d;have z:=EN (k:=k) (i:=i+1) y;unfold Instr.findNow;simp only[w,Instr.sameNow,Xr];by_cases j:p.1=k
  .have q:au (p.1=k)=true:=aQ j;simp[List.findIdx?_cons,j,x]
  .have q:au (p.1=k)=false:=aV j;simp only[z,List.findIdx?_cons,q,Bool.false_eq_true,if_false];congr 1;cases A:ms.findIdx? (λp=>au (p.1=k))with
   |none=>simp
   |some h=>simp[Nat.add_assoc,Nat.add_comm 1 h]
def T5{ms:List (ByteArray×aa)}{k:ByteArray}{i:Nat}:(((ms.findIdx? λp=>au (p.1=k)).bind λd=>(ms[d]?).map λp=>(i+d,p.2)).map (·.2))=kv ms k:=by
 unfold kv;induction ms generalizing i with
 |nil=>rfl
 |cons p ms q=>
  by_cases h:p.1=k
  .simp [List.findIdx?_cons,h]
  .have j:au (p.1=k)=false:=aV h;simp only[List.findIdx?_cons,j,Bool.false_eq_true,if_false,List.find?_cons];rw[<-q (i:=i+1)];cases w:ms.findIdx? (λp=>au (p.1=k))with
   |none=>simp
   |some d=>simp[Function.comp_def]
structure zk(P:aH)(T kt et:aC)(z:aa):Prop where
 hT:P.underlying T=some (.map kt et)
 hk:P.underlying kt=some .string
 hz:(P.info? et).map (·.zero)=some (some z)
def JZ{P:aH}{d:aC}(h:P.underlying d=some .string)(b:Bool)(k:ByteArray)(w:J):(Instr.checkKey b 10000 d (.string k)).run P w=.ok () w:=by unfold Instr.checkKey;simp[run_underlying h]
def Nq{P:aH}{T E y:aC}{z:aa}(h:zk P T E y z){w:J}{j:Nat}{es:Array MapEntry}{clock:Nat}{ms:List (ByteArray×aa)}(C:w.heap[j]? =some (.map es clock))(D:kL es ms)(k:ByteArray):
  (Instr.lookup T (.map (some j)) (.string k) true).run P w=.ok (.tuple #[(kv ms k).getD z,.bool (kv ms k).isSome]) w:=by
 have A:=EN (k:=k) (i:=0) D;have B:(getObj j).run P w=.ok (.map es clock) w:=by simp[getObj,f',C]
 have d:=T5 (ms:=ms) (k:=k) (i:=0);unfold Instr.lookup Instr.findKey;simp only[Sem.run_bind,run_underlying h.hT,Result.andThen_ok,B,Sem.run_pure,JZ h.hk,run_underlying h.hk,A];cases q:((ms.findIdx? λp=>au (p.1=k)).bind λx=>(ms[x]?).map λp=>(0+x,p.2))with
 |none=>rw[q]at d;simp[<-d,We h.hz]
 |some F=>rw[q]at d;simp[<-d]
def VN{P:aH}{T I C:aC}{z:aa}(x:zk P T I C z){w:J}{d:Nat}{es:Array MapEntry}{clock:Nat}{ms:List (ByteArray×aa)}(j:w.heap[d]? =some (.map es clock))(q:kL es ms)(k:ByteArray)(v:aa)(G:kv ms k=none):
  ∃h y,(Instr.mapUpdate T (.map (some d)) (.string k) v).run P w=.ok () h/\h.heap[d]? =some (.map y (clock+1))/\kL y (ms++[(k,v)])/\Fr (λb=>b=d) w h/\h.heap.size=w.heap.size:=by
 have D:=EN (k:=k) (i:=0) q;have E:(getObj d).run P w=.ok (.map es clock) w:=by simp[getObj,f',j]
 have A:=T5 (ms:=ms) (k:=k) (i:=0);have F:=lt_of_heap j;have H:((ms.findIdx? λp=>au (p.1=k)).bind λB=>(ms[B]?).map λp=>(0+B,p.2))=none:=by rw[G]at A;simpa using A
 refine⟨{w with heap:=w.heap.setIfInBounds d (.map (es.push {key:=.string k,val:=v,born:=clock}) (clock+1))},es.push {key:=.string k,val:=v,born:=clock},?_,by simp[F],?_,Fr.setObj w d _ rfl,ws⟩
 .unfold Instr.mapUpdate Instr.findKey;simp only[Sem.run_bind,run_underlying x.hT,Result.andThen_ok,E,JZ x.hk,run_underlying x.hk,D,H];simp[setObj,f',j]
 .unfold kL at q ⊢;simp[q]
def jx:List Nx->Nat->List (ByteArray×aa)
 |[],_=>[]
 |d::g,i=>(kX d,.i (i:Int))::jx g (i+1)
def R1(n:Nx):∀(g:List Nx) (i:Nat),jx (g++[n]) i=jx g i++[(kX n,.i ((i+g.length:Nat):Int))]
 |[],i=>by simp[jx]
 |d::g,i=>by have:=R1 n g (i+1);simp only[i2,jx,this,List.length_cons];rw[show i+1+g.length=i+(g.length+1)by omega]
def GY{n:Nx}(q:0<=n.u):∀{g:List Nx} {i:Nat},(∀d∈g,0<=d.u)->kv (jx g i) (kX n)=(h4 n g i).map λk:Nat=>.i (k:Int)
 |[],i,_=>rfl
 |d::g,i,j=>by
  have w:=GY q (g:=g) (i:=i+1) λe x=>j e (by simp[x]);unfold kv at w ⊢;unfold jx h4;by_cases h:d=n
  .subst h;simp
  .have y:¬kX d=kX n:=λe=>h (aaX (j d ws) q e);rw[ag h,List.find?_cons];simp only[aV y];exact w
def iK:List Nx->List (ByteArray×aa)
 |[]=>[]
 |d::g=>if d.op=0 then(d.tx,ee d.st)::iK g else iK g
def VQ(n:Nx):∀(g:List Nx),iK (g++[n])=iK g++(if n.op=0 then[(n.tx,ee n.st)]else[])
 |[]=>by unfold iK;simp only[lU,iK]
 |d::g=>by have:=VQ n g;simp only[i2,iK,this];split<;>simp
def Iq(t:ByteArray):∀(g:List Nx),kv (iK g) t=(kC g t).map ee
 |[]=>rfl
 |q::g=>by
  have k:=Iq t g;unfold kv at k ⊢;unfold iK kC;by_cases d:q.op=0
  .rw [av d,List.find?_cons];by_cases h:q.tx=t
   .rw [av ⟨d,h⟩];simp[h]
   .rw [ag (λj=>h j.2)];simp only[aV h];exact k
  .rw [ag d,ag (λj=>d j.1)];exact k
def jC(s:bA)(e:Int)(r:cE):Prop:=∃(t:bA) (d:Int),r=gO (t,d)/\d=e/\(e=0->t=s)
def Ar{w:J}{p:Addr}{d:Nd}(h:eC w p d):LH F0 w w [] [.jP p d]:=bN _ (by intro e j;simp only[aq,aL,aR]at j;subst j;exact h)
def iT(n:Nx)(x y z:bA):Int:=if dB n.op x y z=false then 9 else if k' n x y z=false then 5 else if n.op=33/\oZ n.tx=false then 2 else 0
def adK{n:Nx}{x y z t:bA}{d ranges:Bool}(w:n.op≠33)(j:d=dB n.op x y z)(k:d=true->ranges=k' n x y z)(q:d=true->ranges=true->t=ie n x y z):jC (ie n x y z) (iT n x y z) (gO (t,Hh d ranges)):=by
 refine⟨t,_,rfl,?_,λh=>?_⟩
 .unfold Hh iT;rw[<-j];cases d with
  |false=>rfl
  |true=>
   rw[<-k rfl];cases ranges with
   |false=>rfl
   |true=>simp[w]
 .unfold iT at h;rw[<-j]at h;cases d with
  |false=>simp at h
  |true=>
   rw[<-k rfl]at h;cases ranges with
   |false=>simp at h
   |true=>exact q rfl rfl
section
variable {M:Nat->Prop} {w0 w:J} {L D:List En} {bs XA:List Nat}
def eB(H:LH F0 w0 w L D){n:Nx}{x y z:bA}(t:bA)(d ranges:Bool)(B:n.op≠33)(k:d=dB n.op x y z)(q:d=true->ranges=k' n x y z)(A:d=true->ranges=true->t=ie n x y z)(bF:∀b∈bs,En.g b∈L:=by simp):
  eJ XA V AQ #[ee t,.bool d,.bool ranges] w λr C=>∃a b c e:Int,r=ae (.tuple #[.agg #[.i a,.i b,.i c],.i e])/\loc bs C λE=>jC (ie n x y z) (iT n x y z) (ae (.tuple #[.agg #[.i a,.i b,.i c],.i e]))/\af w0 E:=by refine H.aA (afr t d ranges w) ?_;rintro _ F rfl h;exact⟨_,_,_,_,rfl,h.ai (λG j=>⟨adK B k q A,j.fr⟩) bF⟩
end
def pU(s:bA):Prop:=0<=s.n/\s.n<=64
def afW{s:bA}(h:cm s=true):pU s:=⟨(mR h).1,(mR h).2.1⟩
def Rh:pU dq:=⟨md,md⟩
def afm{w:J}{p:Addr}{d:Nd}{x y z:bA}(h:eC w p d)(h4:4<=d.x.op)(ak:d.x.op<=23)(hx:pU x)(hy:pU y)(hn:aX d.x.n)(hm:aX d.x.m):
  aj V QH #[.pointer (some p),ee x,ee y,ee z] w λr w'=>jC (ie d.x x y z) (iT d.x x y z) r/\af w w':=by
 refine H6.aD _ _ _ _ _ _ _ _ _ _ w _ ((Ar h).aK λb5 w1 H1=>H1.aK λb6 w2 H2=>H2.aK λb7 w3 H3=>H3.aK λb8 w4 G=>?_);obtain⟨⟨op,kids,n,m,u,N,st⟩,Z⟩:=d;have D:∀{B:J} {L:List En},LH F0 w B L [.jP p ⟨⟨op,kids,n,m,u,N,st⟩,Z⟩]->eC B p ⟨⟨op,kids,n,m,u,N,st⟩,Z⟩:=λad=>ad.getD 0;simp only at h4 ak hn hm;refine⟨op,(D G).c0,?_⟩;obtain⟨ap,aq⟩:=hx;obtain⟨ar,aw⟩:=hy;obtain⟨an,ao⟩:=hn;obtain⟨al,am⟩:=hm;have two:∀(c:Bool),c=true->c=true:=λ_ h=>h;rcases vh co (by omega:op<=34)with rfl|rfl|rfl|rfl|rfl|rfl|rfl|rfl|rfl|rfl|rfl|rfl|rfl|rfl|rfl|rfl|rfl|rfl|rfl|rfl|rfl|rfl|rfl|rfl|rfl|rfl|rfl|rfl|rfl|rfl|rfl|rfl|rfl|rfl|rfl
 iterate 4 omega
 rotate_left 20
 iterate 11 omega
 all_goals repeat (first |refine aP rfl ?_|refine aM rfl ?_)
 iterate 2
  .refine G.ai λB q=>q.aA (te x B) ?_;rintro _ E rfl A;exact⟨_,rfl,eB A x _ true ws rfl (λ_=>rfl) (λ_ _=>rfl)⟩
 iterate 10
  .refine G.ai λB q=>q.aA (te x B) ?_;rintro _ E rfl A;refine⟨_,rfl,aO (λC=>?_) (λC=>?_)⟩
   .refine eB A x _ true ws ?_ (λ_=>rfl) (λ_ _=>rfl);rw[lg];show _=(x.k==0&&au (x=y));rw[C];rfl
   .refine eB A x _ true ws ?_ (λ_=>rfl) (λ_ _=>rfl);show _=(x.k==0&&au (x=y));rw[beq_eq_false_iff_ne.2 C];rfl
 iterate 2
  .refine G.ai λB q=>q.aA (jY 1 B) ?_;rintro _ E rfl A;refine⟨_,_,_,rfl,A.aA (te x E) ?_⟩;rintro _ H rfl j;refine⟨_,rfl,aO (λC=>?_) (λC=>?_)⟩
   .refine eB j (bM 1) _ true ws ?_ (λ_=>rfl) (λ_ _=>rfl);rw[lg];show _=(x.k==0&&au (x=y));rw[C];rfl
   .refine eB j (bM 1) _ true ws ?_ (λ_=>rfl) (λ_ _=>rfl);show _=(x.k==0&&au (x=y));rw[beq_eq_false_iff_ne.2 C];rfl
 .refine G.ai λB q=>q.aA (jY 1 B) ?_;rintro _ E rfl A;refine⟨_,_,_,rfl,A.aA (Va x y E) ?_⟩;rintro _ H rfl j;exact⟨_,rfl,eB j (bM 1) _ true ws rfl (λ_=>rfl) (λ_ _=>rfl)⟩
 .refine G.aK λab B q=>q.ai λE A=>A.aA (jZ y E) ?_;rintro _ H rfl j;have U:∀(t:bA) (I:J),((au (y=z)||(y.k==1&&z.k==1))=true->t=if y.k=1 then fk (if y.n<z.n then z.n else y.n)else y)->LH F0 w I [.g b5,.g b6,.g b7,.g b8,.g ab] [.jP p ⟨⟨19,kids,n,m,u,N,st⟩,Z⟩]->H6.fU b5 x.k x.n x.x b6 y.k y.n y.x b7 z.k z.n z.x b8 0 0 0 ab t.k t.n t.x I λr w'=>jC (ie ⟨19,kids,n,m,u,N,st⟩ x y z) (iT ⟨19,kids,n,m,u,N,st⟩ x y z) r/\af w w':=by
   intro t I ht K;refine K.ai λw9 T=>T.aA (jY 1 w9) ?_;rintro _ aa rfl Q;have O:dB 19 x y z=(au (x=bM 1)&&(au (y=z)||(y.k==1&&z.k==1))):=rfl;refine⟨_,_,_,rfl,oG (a:=x) (b:=bM 1) (λW=>Q.aA (Va y z aa) ?_) (λW=>?_)⟩
   .rintro _ ax rfl ae;refine⟨_,rfl,eB ae t _ true ws ?_ (λ_=>rfl) (λh _=>ht h)⟩;show _=dB 19 x y z;rw[O,aQ W];rfl
   .refine eB Q t _ true ws ?_ (λ_=>rfl) (λh _=>by cases h);show _=dB 19 x y z;rw[O,aV W];rfl
  have yes:∀t:bA,y.k=1->z.k=1->t=fk (if y.n<z.n then z.n else y.n)->((au (y=z)||(y.k==1&&z.k==1))=true->t=if y.k=1 then fk (if y.n<z.n then z.n else y.n)else y):=λt h1 _ h3 _=>by rw[av h1,h3]
  refine⟨_,rfl,aO (λC=>j.aA (jZ z H) ?_) (λC=>U y H (λ_=>by rw[ag C]) j)⟩;rintro _ I rfl K;refine⟨_,rfl,aO (λS=>K.aA (vT _ I) ?_) (λS=>U y I (λhf=>?_) K)⟩
  .rintro _ w9 rfl T;exact⟨_,_,_,rfl,T.ai λaa Q=>U (fk (if y.n<z.n then z.n else y.n)) aa (yes _ C S rfl) Q⟩
  .rw [beq_eq_false_iff_ne.2 S,Bool.and_false,Bool.or_false]at hf;have:=eP hf;exact absurd (by rw[<-this];exact C) S
 .have e1:ah .i64 (x.n+y.n)=x.n+y.n:=aN _ co;have O:dB 20 x y z=(x.k==0&&y.k==0):=rfl;refine G.ai λB q=>?_;rw[e1];refine q.aA (jY _ B) ?_;rintro _ E rfl A;refine⟨_,_,_,rfl,A.aA (te x E) ?_⟩;rintro _ H rfl j;refine⟨_,rfl,aO (λC=>j.aA (te y H) ?_) (λC=>?_)⟩
  .rintro _ I rfl K;refine⟨_,rfl,eB K (bM (x.n+y.n)) _ _ ws ?_ (λ_=>rfl) (λ_ _=>rfl)⟩;show _=dB 20 x y z;rw[O,C];rfl
  .refine eB j (bM (x.n+y.n)) _ _ ws ?_ (λh=>by cases h) (λh _=>by cases h);show _=dB 20 x y z;rw[O,beq_eq_false_iff_ne.2 C];rfl
 .have Y:k' ⟨21,kids,n,m,u,N,st⟩ x y z=(au (0<=m)&&au (m<=n)&&au (n<x.n)):=rfl;refine G.ai λB q=>⟨_,(D q).c2,_,(D q).c3,_,(D q).c3,q.aA (jY _ B) ?_⟩;rintro _ E rfl A;refine⟨_,_,_,rfl,(D A).c3,A.aA (te x E) ?_⟩;rintro _ H rfl j;refine⟨_,rfl,(D j).c3,aE (λF=>⟨_,(D j).c3,_,(D j).c2,aE (λP=>⟨_,(D j).c2,eB j (bM _) _ _ ws rfl (λ_=>?_) (λ_ M=>?_)⟩) (λP=>eB j (bM _) _ _ ws rfl (λ_=>?_) (λ_ h=>by cases h))⟩) (λF=>eB j (bM _) _ _ ws rfl (λ_=>?_) (λ_ h=>by cases h))⟩
  .rw [Y,aQ (show 0<=m from F),aQ (show m<=n from P)];rfl
  .have F:0<=m:=F;have P:m<=n:=P;have M:n<x.n:=eP M;show bM (ah .i64 (ah .i64 (n - m)+1))=bM (n - m+1);rw[aN (n - m) co,aN _ co]
  .rw [Y,aV (show ¬m<=n from P),Bool.and_false];rfl
  .rw [Y,aV (show ¬0<=m from F)];rfl
 iterate 2
  .have ac:ah .i64 (64 - x.n)=64 - x.n:=aN _ co;refine G.ai λB q=>⟨_,(D q).c2,_,(D q).c2,q.aA (jY _ B) ?_⟩;rintro _ E rfl A;refine⟨_,_,_,rfl,(D A).c2,A.aA (te x E) ?_⟩;rintro _ H rfl j;refine⟨_,rfl,(D j).c2,aE (λF=>⟨_,(D j).c2,eB j (bM _) _ _ ws rfl (λ_=>?_) (λ_ M=>?_)⟩) (λF=>eB j (bM _) _ _ ws rfl (λ_=>?_) (λ_ h=>by cases h))⟩
   .show _=(au (1<=n)&&au (n<=64 - x.n));rw[ac,aQ (show 1<=n from F)];rfl
   .have F:1<=n:=F;rw[ac]at M;have M:n<=64 - x.n:=eP M;show bM (ah .i64 (x.n+n))=bM (x.n+n);rw[aN _ co]
   .show _=(au (1<=n)&&au (n<=64 - x.n));rw[aV (show ¬1<=n from F)];rfl
def ae4{x y z:bA}(j:eD x=true):dB 25 x y z=(au (y=bM x.x)&&(if x.k=3 then z.k==1&&au (z.n<=x.n)else au (z=iz x))):=by
 show(eD x&&au (y=bM x.x)&&(au (z=iz x)||(x.k==3&&z.k==1&&au (z.n<=x.n))))=_;rw[j,Bool.true_and];congr 1;by_cases d:x.k=3
 .rw [av d,d];have q:iz x=fk x.n:=by unfold iz;rw[ag co]
  rw[q];by_cases h:z=fk x.n
  .subst h;simp[fk]
  .rw [aV h];rfl
 .rw [ag d,beq_eq_false_iff_ne.2 d];simp
def afl{w:J}{p:Addr}{d:Nd}{x y z:bA}(h:eC w p d)(h4:24<=d.x.op)(al:d.x.op<=26):
  aj V QG #[.pointer (some p),ee x,ee y,ee z] w λr K=>jC (ie d.x x y z) (iT d.x x y z) r/\af w K:=by
 refine BW.aD _ _ _ _ _ _ _ _ _ _ w _ ((Ar h).aK λM w1 H1=>H1.aK λY w2 H2=>H2.aK λN w3 H3=>H3.aK λO w4 U=>?_);have ah:∀{Q:J} {L:List En},LH F0 w Q L [.jP p d]->eC Q p d:=λak=>ak.getD 0;refine⟨_,(ah U).c0,aO (λP=>U.ai λQ H5=>H5.aA (jY x.x Q) ?_) (λP=>U.aA (jY x.n w4) ?_)⟩
 .rintro _ w6 rfl W;refine⟨_,_,_,rfl,W.aA (H4 x w6) ?_⟩;rintro _ F rfl j;have fe:dB d.x.op x y z=(eD x&&au (x=y)):=by rw[P];rfl
  have E:k' d.x x y z=true:=by unfold k';rw[P];rfl
  have G:ie d.x x y z=bM x.x:=by unfold ie;rw[P];rfl
  refine⟨_,rfl,bP (λA=>?_) (λA=>?_)⟩
  .refine eB j (bM x.x) _ true co ?_ (λ_=>E.symm) (λ_ _=>G.symm);rw[fe,lg,A];rfl
  .refine eB j (bM x.x) _ true co ?_ (λ_=>E.symm) (λ_ _=>G.symm);rw[fe,A];rfl
 rintro _ w6 rfl W;have E:k' d.x x y z=true:=by unfold k';rw[ag co,ag co,ag co,ag co,ag co]
 have S1:∀(t:bA) (B:Nat) (f:Bool) (F:J),f=(eD x&&au (y=bM x.x))->(eD x=true->t=iz x)->LH F0 w F [.g M,.g Y,.g N,.g O,.g B] [.jP p d]->BW.bW p M x.k x.n x.x N z.k z.n z.x O 0 0 0 B t.k t.n t.x f F λr K=>jC (ie d.x x y z) (iT d.x x y z) r/\af w K:=by
  intro t B f F C I j;refine⟨_,(ah j).c0,aO (λaa=>?_) (λaa=>?_)⟩
  .refine eB j t f true co ?_ (λ_=>E.symm) (λhh _=>?_)
   .rw [C,aa];rfl
   .rw [C]at hh;simp only[bH]at hh;rw[I hh.1];unfold ie;rw[aa];rfl
  have ab:d.x.op=25:=co
  have G:ie d.x x y z=x:=by unfold ie;rw[ab];rfl
  have ff:f=false->dB d.x.op x y z=false:=λh=>by rw[ab];show(eD x&&au (y=bM x.x)&&(au (z=iz x)||(x.k==3&&z.k==1&&au (z.n<=x.n))))=_;rw[<-C,h];rfl
  have ft:f=true->eD x=true/\dB d.x.op x y z=(if x.k=3 then z.k==1&&au (z.n<=x.n)else au (z=iz x)):=λh=>by rw[h]at C;have C:=C.symm;simp only[bH]at C;refine⟨C.1,?_⟩;rw[ab,ae4 C.1,C.2,Bool.true_and]
  refine aO (λA=>bP (λad=>j.ai λD q=>q.aA (jZ z D) ?_) (λac=>j.ai λD q=>eB q x _ true co (ff ac).symm (λ_=>E.symm) (λ_ _=>G.symm))) (λA=>bP (λad=>j.ai λD q=>eB q x _ true co ?_ (λ_=>E.symm) (λ_ _=>G.symm)) (λac=>j.ai λD q=>eB q x _ true co (ff ac).symm (λ_=>E.symm) (λ_ _=>G.symm)))
  .rintro _ S rfl H;have:=(ft ad).2;rw[av A]at this;refine⟨_,rfl,aO (λhz=>eB H x _ true co ?_ (λ_=>E.symm) (λ_ _=>G.symm)) (λhz=>eB H x _ true co ?_ (λ_=>E.symm) (λ_ _=>G.symm))⟩
   .rw [this,hz];rfl
   .rw [this,beq_eq_false_iff_ne.2 hz];rfl
  .have Z:=ft ad;rw[ag A]at Z;rw[Z.2,lg,I Z.1]
 have S0:∀(t:bA) (B:Nat) (F:J),(eD x=true->t=iz x)->LH F0 w F [.g M,.g Y,.g N,.g O,.g B] [.jP p d]->BW.bD p M x.k x.n x.x Y y.k y.n y.x N z.k z.n z.x O 0 0 0 B t.k t.n t.x F λr K=>jC (ie d.x x y z) (iT d.x x y z) r/\af w K:=by intro t B F I j;refine j.ai λD q=>q.aA (H4 x D) ?_;rintro _ S rfl H;refine⟨_,rfl,bP (λA=>H.aA (jY x.x S) ?_) (λA=>S1 t B false S (by rw[A];rfl) I H)⟩;rintro _ ae rfl T;exact⟨_,_,_,rfl,S1 t B _ ae (by rw[A];exact lg y (bM x.x)) I T⟩
 refine⟨_,_,_,rfl,W.aK λB F j=>aO (λA=>j.ai λD q=>q.aA (vT x.n D) ?_) (λA=>j.ai λD q=>S0 (bM x.n) B D (λha=>?_) q)⟩
 .rintro _ S rfl H;exact⟨_,_,_,rfl,H.ai λae T=>S0 (fk x.n) B ae (λ_=>by unfold iz;rw[ag co]) T⟩
 .unfold eD at ha;simp only[Bool.or_eq_true,beq_iff_eq]at ha;unfold iz;rw[av co]
end Go.Proofs.YtnaglpcbkhjpnaaGreatDoor
