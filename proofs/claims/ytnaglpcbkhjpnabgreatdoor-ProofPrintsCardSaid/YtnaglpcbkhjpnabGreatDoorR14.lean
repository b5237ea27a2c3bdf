import Derived.Test.YtnaglpcbkhjpnabGreatDoorG9
import Derived.Test.YtnaglpcbkhjpnabGreatDoorWN
import Derived.Test.YtnaglpcbkhjpnabGreatDoorU
import Derived.Test.YtnaglpcbkhjpnabGreatDoorW
import Derived.MapKept
set_option linter.unusedVariables false
set_option linter.defProp false
set_option maxRecDepth 100000
noncomputable section
namespace Go.Proofs.YtnaglpcbkhjpnabGreatDoor
open Go renaming World->J,Calls->ai,Program->aJ,Value->aa,TypeId->aE,Ending->bW,LoopState->kH
open Go.IntKind renaming wrap->aj
open _root_.Int renaming toNat->a0,tdiv->bQ,tmod->cw,toNat_natCast->bB
open _root_.ByteArray renaming mk->bn
open Go.IntWalk renaming i64_in->aQ
open Go.Builtin renaming append_->eA
open Go.Sem renaming run->gx
open _root_.Bool renaming and_eq_true->bH
open _root_.Nat renaming le_refl->br,le_trans->bb,zero_le->dW,beq->cm
open _root_.UInt8 renaming ofNat->db
open _root_.Prod.mk renaming injEq->eZ
open _root_.Option.some renaming injEq->fy
open Go.Proofs.Tryz renaming prog->V
open _root_.Decidable renaming decide->av
open Go.Ending renaming returned->ae
open List renaming mem_append->aX,mem_cons->aq,not_mem_nil->aL,mem_of_getElem?->aD,getElem?_eq_getElem->a',getElem?_eq_some_iff->cX,mem_map->bS,length_append->a7,append_assoc->ck,mem_cons_of_mem->e6,mem_cons_self->oL,drop_eq_getElem_cons->dz,nil_append->lY,cons_append->je,drop_of_length_le->c9
open Go Go.W
def UY:List UInt8:=[40,41,44,124,38,33,42]
def fh(l:List UInt8)(i:Nat):Tk×Nat:=
 if 0<=Go.Lib.indexByte UY (l.getD i 0)then(⟨l.getD i 0,0,0,[],i⟩,1)
 else if kC (l.getD i 0)=true then(⟨119,0,0,(l.drop i).takeWhile kC,i⟩,((l.drop i).takeWhile kC).length)
 else if l.getD i 0=91 then
  match kQ l (i+1)with
  |none=>(⟨63,0,0,[],i⟩,1)
  |some (lo,m)=>
   if i+1+m<l.length/\l.getD (i+1+m) 0=45 then
    match kQ l (i+1+m+1)with
    |none=>(⟨63,0,0,[],i⟩,1)
    |some (h,d)=>if i+1+m+(1+d)<l.length/\l.getD (i+1+m+(1+d)) 0=93/\lo.toNat<=h.toNat then(⟨114,lo,h,[],i⟩,1+m+(1+d)+1)else(⟨63,0,0,[],i⟩,1)
   else(⟨63,0,0,[],i⟩,1)
 else match kQ l i with
  |some (b,n)=>(⟨114,b,b,[],i⟩,n)
  |none=>(⟨63,0,0,[],i⟩,1)
def B6(x:Tk×Nat):aa:=.tuple #[x.1.v,.int .i64 (x.2:Int)]
def DO{l:List UInt8}{i:Nat}{b:UInt8}{n:Nat}(h:kQ l i=some (b,n)):(n=3\/n=4)/\i+n<=l.length:=by
 unfold kQ at h
 grind
def V8:∀(l:List UInt8) (m:Nat) (p:UInt8->Bool),m<=l.length->(∀j<m,p (l.getD j 0)=true)->(m<l.length->p (l.getD m 0)=false)->(l.takeWhile p)=l.take m
 |[],m,p,d,_,_=>ws
 |c::l,0,p,d,_,h=>by have:p c=false:=h ws;simp[this]
 |c::l,m+1,p,d,k,h=>by have q:p c=true:=k 0 co;rw[List.takeWhile_cons,au q,List.take_succ_cons,V8 l m p (by grind) (λj x=>by grind) (λw=>by grind)]
def abo(l:List UInt8)(i k:Nat):(l.drop i).getD k 0=l.getD (i+k) 0:=by grind
def ZB(s:ByteArray)(hs:s.size<=900000)(i:Nat)(hi:i<s.size)(w:J):ai V Gv #[.string s,.int .i64 (i:Int)] w λr Y=>r=ae (B6 (fh (bl s) i))/\af w Y:=by
 have hl:(bl s).length=s.size:=dY s;refine vK.aC ((bK [] (λ_ q=>by cases q)).aH (U:=[]) (λk w1 O=>⟨co,_,mh (i:=i) hi,?_⟩) ws);have O:LH F0 w w1 [.g k] []:=O;have bad:∀Y,LH F0 w Y [.g k] []->fh (bl s) i=(⟨63,0,0,[],i⟩,1)->∀(D E F:Int) (G:ByteArray) (H:Int),vK.hx (i:Int) k D E F G H Y λr Y=>r=ae (B6 (fh (bl s) i))/\af w Y:=λY N he _ _ _ _ _=>N.ah (U:=[k]) (λS y=>⟨by rw[he];rfl,y.fr⟩) ws;refine O.aA (HO _ _ _) ?_;rintro _ w2 rfl W;refine⟨_,rfl,?_⟩;show bA (av (Go.Lib.indexByte UY _>=0)) _ _;refine aF (λM=>W.ah (U:=[k]) (λS y=>⟨?_,y.fr⟩) ws) (λM=>W.aA (zQ _ _) ?_)
 .unfold fh;rw[au M];rfl
 rintro _ S rfl y;refine⟨_,rfl,bT (λab=>?_) (λab=>j4 (n:=91) co (λZ:(bl s).getD i 0=91=>?_) (λZ:(bl s).getD i 0≠91=>?_))⟩
 .
  have loop:∀(n j:Nat) (Y:J),s.size - j<n->i<=j->j<=s.size->(∀C,i<=C->C<j->kC ((bl s).getD C 0)=true)->LH F0 w Y [.g k] []->∀(D E F:Int) (G:ByteArray) (H:Int),vK.cy s (i:Int) k D E F G H (j:Int) Y λr Y=>r=ae (B6 (fh (bl s) i))/\af w Y:=by
   intro n;induction n with
   |zero=>omega
   |succ n ih=>
    intro j Y hn ax hj aq T D E F G H;have done:(j<s.size->kC ((bl s).getD j 0)=false)->∀Y,LH F0 w Y [.g k] []->vK.cd s (i:Int) k D E F G H (j:Int) Y λr Y=>r=ae (B6 (fh (bl s) i))/\af w Y:=λaD Y N=>by
     refine⟨co,co,co,co,N.ah (U:=[k]) (λx h=>⟨?_,h.fr⟩) ws⟩;have al:((bl s).drop i).takeWhile kC=((bl s).drop i).take (j - i):=by
      refine V8 _ _ _ (by grind) (λC hk=>?_) (λq=>?_)
      .rw [abo];grind
      grind
     have ak:(((bl s).drop i).take (j - i)).length=j - i:=by grind
     have ad:s.extract (a0 (i:Int)) (a0 (j:Int))=ba (((bl s).drop i).take (j - i)):=by
      have:bl (s.extract i j)=((bl s).drop i).take (j - i):=by unfold bl;rw[ByteArray.data_extract,Array.toList_extract,List.extract_eq_take_drop]
      rw[bB,bB,<-this,jt]
     have ew:aj .i64 ((j:Int) - (i:Int))=((j - i:Nat):Int):=by rw[aQ _ co];omega
     rw[ad,ew];unfold fh;rw[ag M,au ab,al,ak];rfl
    refine vK.dH (aF (λq=>⟨co,_,mh (i:=j) co,T.aA (zQ _ _) ?_⟩) (λq=>done (λA=>co) Y T));rintro _ x rfl h;refine⟨_,rfl,bT (λB=>?_) (λB=>done (λ_=>B) x h)⟩;rw[show aj .i64 ((j:Int)+1)=((j+1:Nat):Int)by rw[aQ _ co];omega];refine ih (j+1) x co co co (λC h1 h2=>?_) h _ _ _ _ _
    grind
  exact loop (s.size+1) i S co (br _) co (λC h1 h2=>co) y _ _ _ _ _
 .have aa:¬kC ((bl s).getD i 0)=true:=by grind
  rw[show aj .i64 ((i:Int)+1)=((i+1:Nat):Int)by rw[aQ _ co];omega];refine y.aA (DU s (i+1) co _) ?_;rintro _ K rfl z;cases B:kQ (bl s) (i+1)with
  |none=>
   refine⟨0,0,false,rfl,aM rfl (bad K z ?_ _ _ _ _ _)⟩;unfold fh
   grind
  |some I=>
   obtain⟨lo,m⟩:=I;obtain⟨hm,az⟩:=DO B;refine⟨lo.toNat,m,true,rfl,?_⟩;try dsimp only
   rw[show aj .i64 (((i+1:Nat):Int)+(m:Int))=((i+1+m:Nat):Int)by rw[aQ _ co];omega];have ac:¬(i+1+m<(bl s).length/\(bl s).getD (i+1+m) 0=45)->fh (bl s) i=(⟨63,0,0,[],i⟩,1):=λq=>by
    unfold fh
    grind
   refine aN rfl (aF (λq=>bad K z (ac (λA=>co)) _ _ _ _ _) (λq=>⟨co,_,mh (i:=i+1+m) co,?_⟩));refine bT (λQ=>bad K z (ac (λA=>?_)) _ _ _ _ _) (λar=>?_)
   .rw [A.2]at Q;grind
   have ap:(bl s).getD (i+1+m) 0=45:=by
    have e:(((bl s).getD (i+1+m) 0).toNat:Int)=45:=by grind
    have:((bl s).getD (i+1+m) 0).toNat=(45:UInt8).toNat:=by grind
    exact UInt8.toNat_inj.1 this
   rw[show aj .i64 (((i+1+m:Nat):Int)+1)=((i+1+m+1:Nat):Int)by rw[aQ _ co];omega];refine z.aA (DU s (i+1+m+1) co _) ?_;rintro _ x rfl h;cases an:kQ (bl s) (i+1+m+1)with
   |none=>
    refine⟨0,0,false,rfl,aM rfl (bad x h ?_ _ _ _ _ _)⟩;unfold fh
    grind
   |some I=>
    obtain⟨P,d⟩:=I;obtain⟨ay,aB⟩:=DO an;refine⟨P.toNat,d,true,rfl,?_⟩;try dsimp only
    rw[show aj .i64 (((i+1+m:Nat):Int)+aj .i64 (1+(d:Int)))=((i+1+m+(1+d):Nat):Int)by rw[aQ (1+(d:Int)) co,aQ _ co];omega];have L:fh (bl s) i=if i+1+m+(1+d)<(bl s).length/\(bl s).getD (i+1+m+(1+d)) 0=93/\lo.toNat<=P.toNat then(⟨114,lo,P,[],i⟩,1+m+(1+d)+1)else(⟨63,0,0,[],i⟩,1):=by
     unfold fh
     grind
    refine aN rfl (aF (λq=>bad x h (L.trans (ag λA=>co)) _ _ _ _ _) (λq=>⟨co,_,mh (i:=i+1+m+(1+d)) co,?_⟩));refine bT (λQ=>bad x h (L.trans (ag λA=>?_)) _ _ _ _ _) (λaw=>?_)
    .rw [A.2.1]at Q;grind
    have am:(bl s).getD (i+1+m+(1+d)) 0=93:=by
     have e:(((bl s).getD (i+1+m+(1+d)) 0).toNat:Int)=93:=by grind
     have:((bl s).getD (i+1+m+(1+d)) 0).toNat=(93:UInt8).toNat:=by grind
     exact UInt8.toNat_inj.1 this
    refine aF (λao=>bad x h (L.trans (ag λA=>co)) _ _ _ _ _) (λao=>h.ah (U:=[k]) (λw6 H6=>⟨?_,H6.fr⟩) ws);rw[L,au ⟨co,am,co⟩];rw[show aj .i64 (aj .i64 (((i+1+m+(1+d):Nat):Int)+1) - (i:Int))=((1+m+(1+d)+1:Nat):Int)by rw[aQ (((i+1+m+(1+d):Nat):Int)+1) co,aQ _ co];omega];rfl
 .have aa:¬kC ((bl s).getD i 0)=true:=by grind
  refine y.aA (DU s i co _) ?_;rintro _ K rfl z;cases B:kQ (bl s) i with
  |none=>
   refine⟨0,0,false,rfl,aN rfl (bad K z ?_ _ _ _ _ _)⟩;unfold fh
   grind
  |some I=>
   obtain⟨b,n⟩:=I;refine⟨b.toNat,n,true,rfl,aM rfl (z.ah (U:=[k]) (λx h=>⟨?_,h.fr⟩) ws)⟩;unfold fh;rw[ag M,ag aa,ag Z,B];rfl
structure Inv(S:SX)(m:Nat):Prop where
 lo:S.lo.length<=m
 sl:∀f∈S.lo,Small f m
 tp:Small S.tp m
 s1:S.st=1->0<=S.tp.k/\S.lo≠[]
 s2:S.st=2->0<=S.wd
def Small.mono{f:FX}{m n:Nat}(h:Small f m)(d:m<=n):Small f n:=⟨bb h.n' d,bb h.ar d,bb h.al d,bb h.an d,bb h.ca d⟩
def HV(k:Int)(m:Nat):Small (lS k) m:=⟨dW _,dW _,dW _,dW _,dW _⟩
def yV{f:FX}{m:Nat}(h:Small f m)(x:Rx):Small (jr f x) m:=⟨h.n',h.ar,h.al,h.an,h.ca⟩
def Fz{t:Tk}{S k:SX}{m:Nat}(w:S.lo.length<=m)(j:∀f∈S.lo,Small f (m+1))(d:Small S.tp (m+1))(x:S.tp.n<=m)(h:gu t S=some k):Inv k (m+1):=by
 have q:∀f∈S.lo++[S.tp],Small f (m+1):=λf y=>by grind
 unfold gu at h;split at h
 .cases h;exact⟨by grind,j,⟨by grind,d.ar,d.al,d.an,d.ca⟩,λe=>(by grind),λe=>(by grind)⟩
 .split at h
  .cases h;exact⟨by grind,q,HV _ _,λe=>(by grind),λe=>(by grind)⟩
  .split at h
   .cases h;exact⟨by grind,j,yV d _,λe=>(by grind),λe=>(by grind)⟩
   .split at h
    .split at h
     .cases h;exact⟨by grind,j,yV d _,λe=>(by grind),λe=>(by grind)⟩
     .split at h
      .cases h;exact⟨by grind,j,yV d _,λe=>(by grind),λe=>(by grind)⟩
      .split at h
       .cases h;exact⟨by grind,j,d,λe=>(by grind),λ_=>by grind⟩
       .split at h
        .cases h;exact⟨by grind,j,d,λe=>(by grind),λ_=>by grind⟩
        .split at h
         .cases h;exact⟨by grind,j,d,λe=>(by grind),λ_=>by grind⟩
         grind
    grind
def Kn{S j:SX}{l:List Rx}{m:Nat}(d:Inv S m)(h:mC S l=some j):Inv j (m+1):=by
 unfold mC at h;rcases sM S.lo with e|⟨a,g,e⟩
 .grind
 .rw [e]at h;simp at h;subst h;have k:=d.lo;rw[e]at k;simp at k;exact⟨by grind,λf q=>(d.sl f (by grind)).mono co,yV ((d.sl g (by grind)).mono co) _,λe=>(by grind),λe=>(by grind)⟩
def EW{s':Sl}{t:Tk}{S x:SX}{m:Nat}(d:Inv S m)(h:gq s' t S=some x):Inv x (m+1):=by
 have w:=d.lo;have k:∀f∈S.lo,Small f (m+1):=λf y=>(d.sl f y).mono co;have j:Small S.tp (m+1):=d.tp.mono co;have z:=d.tp.n';unfold gq at h;split at h
 .rename_i q;split at h
  .cases h;refine⟨by grind,λf y=>?_,HV _ _,λ_=>⟨d.s2 q,ws⟩,λe=>(by grind)⟩
   grind
  grind
 .rename_i q;split at h
  .split at h
   .exact Kn d h
   .exact Fz w k j z h
  .rename_i A;split at h
   .exact Fz w k j z h
   .split at h
    .cases h;exact⟨by grind,k,yV j _,λe=>absurd e A,λe=>absurd e q⟩
    .split at h
     .cases h;refine⟨by grind,k,⟨dW _,j.ar,j.al,?_,dW _⟩,λe=>(by grind),λe=>(by grind)⟩;have:=d.tp.an;show(S.tp.an++[_]).length<=_
      grind
     .split at h
      .cases h;refine⟨by grind,k,⟨dW _,j.ar,?_,dW _,dW _⟩,λe=>(by grind),λe=>(by grind)⟩;have:=d.tp.al;show(S.tp.al++[_]).length<=_
       grind
      .split at h
       .split at h
        .cases h
        .cases h;refine⟨by grind,k,⟨dW _,?_,dW _,dW _,dW _⟩,λe=>(by grind),λe=>(by grind)⟩;have:=d.tp.ar;show(S.tp.ar.2++[_]).length<=_
         grind
       .split at h
        .split at h
         .cases h
         .exact Kn d h
        .split at h
         .split at h
          .cases h;exact⟨co,k,j,d.s1,d.s2⟩
          grind
         .refine Fz (S:=⟨S.lo,lL S.tp,S.st,S.wd⟩) w k ⟨dW _,j.ar,j.al,j.an,?_⟩ (dW _) h;have:=d.tp.ca;show(S.tp.ca++[_]).length<=_
          grind
def aaD{s':Sl}{t:Tk}{S:SX}(h:t.k=63):gq s' t S=none:=by
 have it:∀S,gu t S=none:=λS=>by
  unfold gu
  grind
 unfold gq
 grind
def j3(l:List UInt8):Nat->Nat->List Tk
 |0,_=>[]
 |n+1,i=>if i<l.length then(if l.getD i 0=32 then j3 l n (i+1)else(fh l i).1::j3 l n (i+(fh l i).2))else[⟨36,0,0,[],l.length⟩]
def rP:List Tk->SX->Int⊕SX->Prop
 |[],d,r=>r=.inr d
 |t::k,d,r=>∃j,(gq j t d=none/\r=.inl t.a)\/∃h,gq j t d=some h/\rP k h r
def Wu{l:List UInt8}{i:Nat}(hi:i<l.length):1<=(fh l i).2/\i+(fh l i).2<=l.length:=by
 unfold fh;split
 .omega
 .split
  .rename_i h;have d:(l.drop i)=l.getD i 0::l.drop (i+1):=by rw[dz hi,List.getD_eq_getElem?_getD,a' hi];rfl
   have k:1<=((l.drop i).takeWhile kC).length:=by rw[d,List.takeWhile_cons,au h];simp
   have q:((l.drop i).takeWhile kC).length<=(l.drop i).length:=(List.takeWhile_prefix (p:=kC) (l:=l.drop i)).length_le
   grind
  .split
   .grind
   .split
    .rename_i j;have:=DO j;omega
    omega
abbrev Ip(t:Tk):List aa:=[.int .u8 (t.k.toNat:Int),.int .u8 (t.lo.toNat:Int),.int .u8 (t.hi.toNat:Int),.string (ba t.s),.int .i64 t.a]
def xv:En:=⟨[],λ_=>True,λ_ _ _ d=>d,λ_ _ b h=>by grind,ws⟩
abbrev na(t2 t3 t4 D l_ U:Nat)(s:ByteArray)(d h:aa)(o:Obj):List En:=[.c t2 [.int .i64 0,.int .u8 0,.int .u8 0,.slice none 0 0] aZ,.c t3 [d] cb,.c t4 [h] Wx,.ob D (.deferred (some [])),.ob l_ o,.c U [.string s] dv]
def PS(w0 w:J)(rb:Nat)(G:List En)(S:SX):Prop:=∃(sl:Sl) (d:List FM) (f:FM) (O:List I) (p:Addr),d.map FM.x=S.lo/\f.x=S.tp/\(∀g∈d++[f],∀t∈g.O,t∈O)/\sl.a=some p/\(∀b∈I.bj O,w0.heap.size<=b)/\SF F0 w0 w rb sl S.st S.wd d f G O
def PE(w0 w:J)(rb:Nat)(G:List En):Prop:=∃(sl:Sl) (d:List FM) (f:FM) (O:List I) (st h:Int),SF F0 w0 w rb sl st h d f G O
section
variable {s:ByteArray} {w0:J} {rb t2 t3 t4 D l_ U:Nat} {o_:kH->Option Code->Obj}
abbrev I1(s:ByteArray)(rb t2 t3 t4 l_ U:Nat)(o_:kH->Option Code->Obj):Prop:=
 ∀(k q w:Int) (x:ByteArray) (y:Int) (d:J) (h:Bool->J->Prop),d.heap[l_]? =some (o_ .ready none)->Hs.CA l_ o_ s (ab t2) (ab t3) (ab t4) (ab rb) (ab U) k q w x y d (λz A=>∃j:Bool,z=ae (.bool j)/\h j A)->W.wu V l_ #[.agg #[.int .u8 k,.int .u8 q,.int .u8 w,.string x,.int .i64 y]] d h
def Sr(hY:I1 s rb t2 t3 t4 l_ U o_){S:SX}{m:Nat}(q:Inv S m)(hm:m<=900000)(t:Tk){e:En}{w:J}(H:PS w0 w rb (na t2 t3 t4 D l_ U s (.int .i64 0) (.int .i64 0) (o_ .ready none)++[e]) S){K:Bool->J->Prop}(ac:∀j h,gq h t S=none->PE w0 j rb (na t2 t3 t4 D l_ U s (.int .i64 t.a) (.int .i64 2) (o_ .done (some .ret))++[e])->K false j)(ad:∀j h C,gq h t S=some C->PS w0 j rb (na t2 t3 t4 D l_ U s (.int .i64 0) (.int .i64 0) (o_ .ready none)++[e]) C->K true j):W.wu V l_ #[t.v] w K:=by
 obtain⟨lo,ah,st,wd⟩:=S;obtain⟨sl,F,f,ts,p,y,z,Z,h4,hb,H⟩:=H;have y:F.map FM.x=lo:=y;have z:f.x=ah:=z;subst y z;refine hY _ _ _ _ _ w K (H.ob 7) ?_;refine H.nw λw1 _ N=>N.Vn 10 rfl λw2 O=>O.pu 7 rfl λw3 d=>⟨_,_,_,_,_,d.ld 10 0,d.ld 10 1,d.ld 10 2,d.ld 10 3,d.ld 10 4,?_⟩;have P:SF F0 w0 w3 rb sl st wd F f (na t2 t3 t4 D l_ U s (.int .i64 0) (.int .i64 0) (o_ .busy none)++[e,.c w.heap.size (Ip t) oX]) ts:=d;refine P.zY Z h4 (λak af=>Y6 af (bb q.lo co) (q.tp.mono co) q.s1 t) ?_;rintro r w4 I G E p4 ag ai L al aa ab b4 ⟨h,ae⟩ A;rcases ae with⟨hn,rfl⟩|⟨hs,rfl⟩
 .refine ⟨false,rfl,aM rfl ?_⟩;refine A.dr λM k=>⟨t.a,k.ld 10 4,k.kD 3 rfl λw6 B=>⟨B.ld 10 4,B.j0 4 rfl λw7 Q=>Q.j0 5 rfl λw8 T=>T.pu 7 rfl λw9 Y=>⟨false,rfl,ac w9 h hn ⟨I,G,E,L,ag,ai,?_⟩⟩⟩⟩;exact Y.take 10
 .refine ⟨true,rfl,aN rfl (A.pu 7 rfl λM k=>⟨true,rfl,ad M h _ hs ⟨I,G,E,L,p4,rfl,rfl,aa,ab,λb aj=>?_,k.take 10⟩⟩)⟩
  grind
def Xy(w0:J)(rb t2 t3 t4 D l_ U:Nat)(s:ByteArray)(o_:kH->Option Code->Obj)(Y:J):Int⊕SX->Prop
 |.inl a=>PE w0 Y rb (na t2 t3 t4 D l_ U s (.int .i64 a) (.int .i64 2) (o_ .done (some .ret)))
 |.inr d=>PS w0 Y rb (na t2 t3 t4 D l_ U s (.int .i64 0) (.int .i64 0) (o_ .ready none)) d
def ad1(hs:s.size<=4096)(hY:I1 s rb t2 t3 t4 l_ U o_)(R:aK):∀(n i m:Nat) (S:SX) (w:J),s.size - i<n->i<=s.size->Inv S m->m+n<=900000->
  PS w0 w rb (na t2 t3 t4 D l_ U s (.int .i64 0) (.int .i64 0) (o_ .ready none)) S->
  (∀F res,rP (j3 (bl s) n i) S res->Xy w0 rb t2 t3 t4 D l_ U s o_ F res->R (ae (.tuple #[])) F)->BD.L0 l_ (ab U) (i:Int) w R:=by
 intro n;induction n with
 |zero=>omega
 |succ n ih=>
  intro i m S w hn hi I hm hP x;have hl:(bl s).length=s.size:=dY s;have ak:=hP;obtain⟨sl,N,f,ts,p,ad,af,h3,h4,K,C⟩:=ak;refine BD.bE _ _ _ _ _ ⟨s,C.i5 8,aF (λai=>⟨s,C.i5 8,co,_,mh (i:=i) co,j4 (n:=32) co (λhc:(bl s).getD i 0=32=>?_) (λhc:(bl s).getD i 0≠32=>⟨s,C.i5 8,C.call (ZB s co i co w) ?_⟩)⟩) (λai=>⟨s,C.i5 8,?_⟩)⟩
  .rw [show aj .i64 ((i:Int)+1)=((i+1:Nat):Int)by rw[aQ _ co];omega];refine ih (i+1) m S w co co I co hP (λF res hr T=>x F res ?_ T);unfold j3
   grind
  .rintro _ w1 rfl L;have al:=Wu (l:=bl s) (i:=i) co;have M:j3 (bl s) (n+1) i=(fh (bl s) i).1::j3 (bl s) n (i+(fh (bl s) i).2):=by rw[j3,au co,ag hc]
   rw[M]at x;refine⟨_,_,_,_,_,_,rfl,L.nw λw2 _ H2=>H2.Vn 9 rfl λw7 E=>⟨_,_,_,_,_,E.ld 9 0,E.ld 9 1,E.ld 9 2,E.ld 9 3,E.ld 9 4,?_⟩⟩;have ah:SF F0 w0 w7 rb sl S.st S.wd N f (na t2 t3 t4 D l_ U s (.int .i64 0) (.int .i64 0) (o_ .ready none)++[.c w1.heap.size (Ip (fh (bl s) i).1) oX]) ts:=E;refine Sr hY I co (fh (bl s) i).1 (e:=.c w1.heap.size (Ip (fh (bl s) i).1) oX) ⟨sl,N,f,ts,p,ad,af,h3,h4,K,ah⟩ (λB y Y q=>aM rfl (x B (.inl (fh (bl s) i).1.a) ⟨y,.inl ⟨Y,rfl⟩⟩ ?_)) (λB y G H q=>aN rfl ?_)
   .obtain ⟨z,j,h,A,aa,ac,d⟩:=q;exact⟨z,j,h,A,aa,ac,d.take 9⟩
   .obtain ⟨z,j,h,A,p8,W,Z,O,P,Q,d⟩:=q;refine⟨_,d.ld 9 0,j4 (n:=63) co (λhk:(fh (bl s) i).1.k=63=>?_) (λhk=>?_)⟩
    .rw [aaD hk]at H;grind
    .rw [show aj .i64 ((i:Int)+((fh (bl s) i).2:Int))=((i+(fh (bl s) i).2:Nat):Int)by rw[aQ _ co];omega];refine ih (i+(fh (bl s) i).2) (m+1) G B co co (EW I H) co ⟨z,j,h,A,p8,W,Z,O,P,Q,d.take 9⟩ (λF res hr T=>x F res ⟨y,.inr ⟨G,H,hr⟩⟩ T)
  .have M:j3 (bl s) (n+1) i=[⟨36,0,0,[],(bl s).length⟩]:=by rw[j3,ag co]
   rw[M,hl]at x;have L:=C.push xv (Fr.refl _ _) trivial (λb K=>by cases K);refine Sr hY I co ⟨36,0,0,[],(s.size:Int)⟩ (e:=xv) ⟨sl,N,f,ts,p,ad,af,h3,h4,K,L⟩ (λB y Y q=>x B (.inl (s.size:Int)) ⟨y,.inl ⟨Y,rfl⟩⟩ ?_) (λB y G H q=>x B (.inr G) ⟨y,.inr ⟨G,H,rfl⟩⟩ ?_)
   .obtain ⟨z,j,h,A,aa,ac,d⟩:=q;exact⟨z,j,h,A,aa,ac,d.take 9⟩
   .obtain ⟨z,j,h,A,p8,W,Z,O,P,Q,d⟩:=q;exact⟨z,j,h,A,p8,W,Z,O,P,Q,d.take 9⟩
end
def ta:∀(a b:List Rx),Rx.a9 (a++b)=Rx.a9 a+Rx.a9 b
 |[],b=>by simp[Rx.a9]
 |d::a,b=>by have:=ta a b;show d.sz+Rx.a9 (a++b)=(d.sz+Rx.a9 a)+Rx.a9 b;omega
def tk(x:Rx):Rx.a9 [x]=x.sz:=by simp[Rx.a9]
def GV(k:Int)(l:List Rx):(pJ k l).sz<=1+Rx.a9 l:=by
 unfold pJ;split
 .rw [tk];omega
 .unfold Rx.sz;omega
def GL:∀(n:Nat) (r:Rx),(oD n r).sz=n+r.sz
 |0,r=>by unfold oD;omega
 |n+1,r=>by unfold oD;rw[GL n];unfold Rx.sz;rw[tk];cases r;simp only[Rx.sz];omega
def fz(f:FX):Nat:=Rx.a9 f.ar.2+Rx.a9 f.al+Rx.a9 f.an+Rx.a9 f.ca+f.n
def lz:List FX->Nat
 |[]=>0
 |f::l=>fz f+lz l
def AN:∀(a b:List FX),lz (a++b)=lz a+lz b
 |[],b=>by simp[lz]
 |d::a,b=>by have:=AN a b;show fz d+lz (a++b)=(fz d+lz a)+lz b;omega
def pz(S:SX):Nat:=lz S.lo+fz S.tp+(if S.st=0\/S.st=1\/S.st=2 then 0 else S.tp.la.sz)
def Hc(S:SX):pz S<=lz S.lo+fz S.tp+S.tp.la.sz:=by unfold pz;grind
def aer(S:SX):lz S.lo+fz S.tp<=pz S:=by unfold pz;omega
def pN{S:SX}(h:S.st=0\/S.st=1\/S.st=2):pz S=lz S.lo+fz S.tp:=by unfold pz;grind
def Th{S:SX}(h:¬(S.st=0\/S.st=1\/S.st=2)):pz S=lz S.lo+fz S.tp+S.tp.la.sz:=by unfold pz;grind
def abG(f:FX):fz (lL f)=fz f+f.la.sz:=by unfold fz lL;simp only[ta,tk,GL];omega
def UM(f:FX):fz (kU f)<=fz f+f.la.sz+1:=by have d:=GV 3 (f.ca++[oD f.n f.la]);simp only[ta,tk,GL]at d;show Rx.a9 f.ar.2+Rx.a9 f.al+Rx.a9 (f.an++[pJ 3 (f.ca++[oD f.n f.la])])+Rx.a9 []+0<=_;unfold fz;simp only[ta,Rx.a9];omega
def Kz(f:FX):Rx.a9 f.ar.2+Rx.a9 (kT f).al<=fz f+f.la.sz+2:=by have d:=GV 5 (kU f).an;have h:=UM f;have e:fz (kU f)=Rx.a9 f.ar.2+Rx.a9 f.al+Rx.a9 (kU f).an+0+0:=rfl;show Rx.a9 f.ar.2+Rx.a9 (f.al++[pJ 5 (kU f).an])<=_;simp only[ta,tk];omega
def Z4(f:FX):fz (kT f)<=fz f+f.la.sz+2:=by have:=Kz f;show Rx.a9 f.ar.2+Rx.a9 (kT f).al+Rx.a9 []+Rx.a9 []+0<=_;simp only[Rx.a9];omega
def EU(f:FX):Rx.a9 f.ar.2+(fj f).sz<=fz f+f.la.sz+3:=by have d:=GV 4 (kT f).al;have:=Kz f;show _+(pJ 4 (kT f).al).sz<=_;omega
def FA{t:Tk}{S d:SX}(h:gu t S=some d):pz d<=lz S.lo+fz S.tp+1:=by
 have leaf:∀(k:Int) (a b:UInt8),(Rx.mk k a b []).sz=1:=λk a b=>by unfold Rx.sz;simp[Rx.a9]
 unfold gu at h;split at h
 .cases h;rw[pN (.inl rfl)];show lz S.lo+(Rx.a9 S.tp.ar.2+Rx.a9 S.tp.al+Rx.a9 S.tp.an+Rx.a9 S.tp.ca+(S.tp.n+1))<=_;unfold fz;omega
 .split at h
  .cases h;rw[pN (.inl rfl)];show lz (S.lo++[S.tp])+fz (lS (-1))<=_;rw[AN];have:fz (lS (-1))=0:=rfl;simp only[lz];omega
  .have j:∀(k:Int) (a b:UInt8),pz ⟨S.lo,jr S.tp (.mk k a b []),3,S.wd⟩<=lz S.lo+fz S.tp+1:=λk a b=>by
    refine bb (Hc _) ?_;show lz S.lo+fz S.tp+(Rx.mk k a b []).sz<=_
    grind
   split at h
   .grind
   .split at h
    .split at h
     .grind
     .split at h
      .grind
      .split at h
       .cases h;rw[pN (.inr (.inr rfl))];grind
       .split at h
        .cases h;rw[pN (.inr (.inr rfl))];grind
        .split at h
         .cases h;rw[pN (.inr (.inr rfl))];grind
         grind
    grind
def Ko{S d:SX}{l:List Rx}(h:mC S l=some d):pz d<=lz S.lo+Rx.a9 l+1:=by
 unfold mC at h;rcases sM S.lo with e|⟨a,g,e⟩
 .grind
 .rw [e]at h ⊢;simp at h;subst h;refine bb (Hc _) ?_;show lz a+fz g+(nq S.tp.k l).sz<=_;rw[AN];have:(nq S.tp.k l).sz<=Rx.a9 l+1:=by
   unfold nq;split
   .cases l with
    |nil=>exact(by show fZ.sz<=_;unfold fZ Rx.sz;omega)
    |cons j l=>show j.sz<=_;unfold Rx.a9;omega
   .unfold Rx.sz;omega
  simp only[lz];omega
def aaF{s':Sl}{t:Tk}{S d:SX}(h:gq s' t S=some d):pz d<=pz S+4:=by
 have x:=aer S;unfold gq at h;split at h
 .split at h
  .cases h;rw[pN (.inr (.inl rfl))];show lz (S.lo++[S.tp])+fz (lS S.wd)<=_;rw[AN];have:fz (lS S.wd)=0:=rfl;simp only[lz];omega
  grind
 .rename_i w;split at h
  .split at h
   .have:=Ko h;simp only[Rx.a9]at this;omega
   .have:=FA h;omega
  .rename_i q;split at h
   .have:=FA h;omega
   .rename_i k;have y:=Th (S:=S) co;split at h
    .cases h;refine bb (Hc _) ?_;show lz S.lo+fz S.tp+(Rx.mk 7 0 0 [S.tp.la]).sz<=_;have:(Rx.mk 7 0 0 [S.tp.la]).sz=1+S.tp.la.sz:=by show 1+Rx.a9 [S.tp.la]=_;rw[tk]
     omega
    .split at h
     .cases h;rw[pN (.inl rfl)];show lz S.lo+fz (kU S.tp)<=_;have:=UM S.tp;omega
     .split at h
      .cases h;rw[pN (.inl rfl)];show lz S.lo+fz (kT S.tp)<=_;have:=Z4 S.tp;omega
      .split at h
       .split at h
        .cases h
        .cases h;rw[pN (.inl rfl)];show lz S.lo+(Rx.a9 (S.tp.ar.2++[fj S.tp])+Rx.a9 []+Rx.a9 []+Rx.a9 []+0)<=_;have:=EU S.tp;simp only[ta,Rx.a9];omega
       .split at h
        .split at h
         .cases h
         .have j:=Ko h;have:=EU S.tp;simp only[ta,tk]at j;omega
        .split at h
         .grind
         .have j:=FA h;have:=abG S.tp
          grind
def aaE{s':Sl}{a:Int}{S d:SX}(h:gq s' ⟨36,0,0,[],a⟩ S=some d):d=S/\¬(S.st=0\/S.st=1\/S.st=2):=by
 have it:∀S,gu ⟨36,0,0,[],a⟩ S=none:=λS=>rfl;unfold gq at h
 grind
def HK(l:List UInt8):∀(n i:Nat) (S d:SX),l.length - i<n->rP (j3 l n i) S (.inr d)->(fj d.tp).sz<=pz S+4 *n+4
 |0,i,S,d,z,_=>co
 |n+1,i,S,d,z,h=>by
  unfold j3 at h;split at h
  .split at h
   .have:=HK l n (i+1) S d co h;omega
   .rename_i A _;have C:=Wu A;obtain⟨B,⟨_,w⟩|⟨j,k,q⟩⟩:=h
    .cases w
    .have:=HK l n (i+(fh l i).2) j d co q;have:=aaF k;omega
  .obtain ⟨B,⟨_,w⟩|⟨j,k,q⟩⟩:=h
   .cases w
   .have e:d=j:=by have:Sum.inr d=(Sum.inr j:Int⊕SX):=q;grind
    obtain⟨x,y⟩:=aaE k;subst e x;have:=Th y;have:=EU d.tp;omega
def acv{M:Nat->Prop}{w0 w:J}{L D:List En}(H:LH M w0 w L D)(is k:List Nat)(A:is.Perm k)(z:k.map (λh=>L.getD h xv)=L):LH M w0 w (is.map λh=>L.getD h xv) D:=by
 have j:(is.map λh=>L.getD h xv).Perm L:=by grind
 exact⟨H.fr,λe d=>H.own e (j.mem_iff.1 d),H.rd,λe d=>H.new e (j.mem_iff.1 d),((j.flatMap_right _).nodup_iff).2 H.nd,λe d b x q y=>H.dj e d b x q (j.mem_iff.1 y)⟩
def aeE{d:J}{l:Nat}{o:kH->Option Code->Obj}{N:J->Prop}{X:Nat->J->Prop}{T:J->Prop}(h:mT d l (o .ready none) (o .exhausted none) N):zw d l o N X T:=.inl h
def aeF{d:J}{l:Nat}{o:kH->Option Code->Obj}{N:J->Prop}{X:Nat->J->Prop}{T:J->Prop}(h:mT d l (o .done (some .ret)) (o .exhausted (some .ret)) T):zw d l o N X T:=.inr (.inr h)
def Nq{b:Nat}(h:b∈I.bj [.mk 0 0 0 ⟨none,0,0⟩ []]):False:=by
 have:=Ay (O:=[]) (k:=0) (lo:=0) (hi:=0) (b:=b) h;unfold I.bj at this
 grind
def v3:SX:=⟨[],lS (-1),0,0⟩
def MY:Inv v3 0:=by
 refine⟨br _,λf d=>?_,HV _ _,λe=>?_,λe=>?_⟩
 .cases d
 .have:(0:Int)=1:=e;omega
 .have:(0:Int)=2:=e;omega
def HJ(l:List UInt8):∀(n i m:Nat) (S d:SX),Inv S m->rP (j3 l n i) S (.inr d)->Inv d (m+n)
 |0,i,m,S,d,k,h=>by
  have e:(Sum.inr d:Int⊕SX)=.inr S:=h
  grind
 |n+1,i,m,S,d,k,h=>by
  have A:∀{S:SX} {a b:Nat},Inv S a->a<=b->Inv S b:=λj y=>⟨bb j.lo y,λf B=>(j.sl f B).mono y,j.tp.mono y,j.s1,j.s2⟩;unfold j3 at h;split at h
  .split at h
   .exact A (HJ l n _ m S d k h) co
   .obtain ⟨C,⟨_,z⟩|⟨q,w,x⟩⟩:=h
    .cases z
    .exact A (HJ l n _ (m+1) q d (EW k w) x) co
  .obtain ⟨C,⟨_,z⟩|⟨q,w,x⟩⟩:=h
   .cases z
   .have e:(Sum.inr d:Int⊕SX)=.inr q:=x;cases e;exact A (EW k w) co
def Xz(w:J)(s:ByteArray):aK:=λr h=>af w h/\
 ((4096<s.size/\r=ae (.tuple #[.agg #[.int .i64 0,.int .u8 0,.int .u8 0,.slice none 0 0],.int .i64 4096,.int .i64 4]))\/
  (s.size<=4096/\∃res,rP (j3 (bl s) (s.size+1) 0) v3 res/\((∃a,res=.inl a/\r=ae (.tuple #[.agg #[.int .i64 0,.int .u8 0,.int .u8 0,.slice none 0 0],.int .i64 a,.int .i64 2]))\/
   ∃d,res=.inr d/\((64<(fj d.tp).sz/\r=ae (.tuple #[.agg #[.int .i64 0,.int .u8 0,.int .u8 0,.slice none 0 0],.int .i64 (s.size:Int),.int .i64 4]))\/
    ((fj d.tp).sz<=64/\∃t:I,r=ae (.tuple #[t.v,.int .i64 0,.int .i64 0])/\t.rx=fj d.tp/\t.P h/\∀b∈t.fp,w.heap.size<=b)))))
def YR(s:ByteArray)(w:J):ai V PZ #[.string s] w (Xz w s):=by
 refine Hs.ok _ w _ ((bK [] (λ_ x=>by cases x)).nw λN _ H1=>H1.nw λS _ H2=>H2.nw λw3 _ H3=>aF (λx=>?_) (λx=>?_))
 .refine H3.kD 0 rfl λw4 H4=>H4.j0 1 rfl λw5 Z=>Z.j0 2 rfl λw6 q=>⟨_,_,_,⟨none,0,0⟩,q.ld 0 0,q.ld 0 1,q.ld 0 2,q.ld 0 3,_,q.i5 1,_,q.i5 2,q.fr,.inl ⟨co,rfl⟩⟩
 have L:s.size<=4096:=co
 have hl:(bl s).length=s.size:=dY s;refine H3.cZ (e:=iS) (sz:=10) (n:=1) (cs:=(jC (-1)).c) rfl md λQ ag=>ag.nw λap _ W=>?_;refine W.j0 4 rfl λar y=>y.st 4 1 rfl λae E=>E.st 4 2 rfl λC F=>?_;refine Uc.ok (F.nw λh _ k=>⟨_,rfl,?_⟩);show ∀A:kH->Option Code->Obj,_;intro A hY;have e1:(h.alloc (.deferred (some []))).heap.size=h.heap.size+1:=size_alloc _ _;have HG:=(k.alloc (.deferred (some []))).alloc (A .ready none);rw[e1]at HG;have hP:(En.rows (([]++[jC (-1)]:List FM).flatMap FM.rows)).P ((h.alloc (.deferred (some []))).alloc (A .ready none)):=by refine⟨λao K=>?_,md⟩;have K:ao∈[((⟨none,0,0⟩,[]):eB),(⟨none,0,0⟩,[]),(⟨none,0,0⟩,[]),(⟨none,0,0⟩,[])]:=K;simp only[aq,aL,aO,or_self]at K;subst K;exact aG.nil _ _ _
 have Ha:=(HG.push (.rows (([]++[jC (-1)]:List FM).flatMap FM.rows)) (Fr.refl _ _) hP (λb j=>by
  have j:=aT.1 j;have j:b∈([]:List Nat):=j;cases j)).gP (.trees [.mk 0 0 0 ⟨none,0,0⟩ []]) (Fr.refl _ _) (I.jd λt M=>by
   simp at M;subst M;show I.P _ _;unfold I.P I.Ps;exact⟨bN.nil 4 _,trivial⟩) (λb j=>by exact(Nq (aT.1 j)).elim)
 have Hb:=acv Ha [4,3,8,0,1,2,6,7,5] [0,1,2,3,4,5,6,7,8] md rfl;have HS:SF F0 w ((h.alloc (.deferred (some []))).alloc (A .ready none)) Q.heap.size ⟨some (ab w3.heap.size),1,1⟩ 0 0 [] (jC (-1)) (na w.heap.size N.heap.size S.heap.size h.heap.size (h.heap.size+1) C.heap.size s (.int .i64 0) (.int .i64 0) (A .ready none)) [.mk 0 0 0 ⟨none,0,0⟩ []]:=Hb;refine BD.ok _ _ _ _ (ad1 (w0:=w) (rb:=Q.heap.size) (t2:=w.heap.size) (t3:=N.heap.size) (t4:=S.heap.size) (D:=h.heap.size) (l_:=h.heap.size+1) (U:=C.heap.size) L hY _ (s.size+1) 0 0 v3 _ co co MY co
  ⟨_,[],jC (-1),_,_,rfl,rfl,λg hg t M=>?_,rfl,λb j=>?_,HS⟩ (λw' res G he=>⟨⟨_,rfl⟩,?_⟩))
 .simp at hg;subst hg;simpa[FM.O,jC]using M
 .exact (Nq j).elim
 cases res with
 |inl a=>
  obtain⟨sl,H,f,ts,st,aK,T⟩:=he;refine aeF (T.pu 7 rfl λap W=>W.pu 6 rfl λh k=>⟨_,_,_,⟨none,0,0⟩,k.ld 3 0,k.ld 3 1,k.ld 3 2,k.ld 3 3,_,k.i5 4,_,k.i5 5,k.fr,.inr ⟨L,_,G,.inl ⟨a,rfl,rfl⟩⟩⟩)
 |inr z=>
  obtain⟨sl,H,f,ts,p,am,ac,h3,h4,j,T⟩:=he;have hI:=HJ _ _ _ _ _ _ MY G;have an:=HK _ _ _ _ _ co G;rw[show pz v3=0 from rfl]at an;have al:H.length<=1000000:=by have:=hI.lo;rw[<-am]at this;simp at this;omega
  refine aeE (T.pu 7 rfl λw5 Z=>?_);have aa:SF F0 w w5 Q.heap.size sl z.st z.wd H f (na w.heap.size N.heap.size S.heap.size h.heap.size (h.heap.size+1) C.heap.size s (.int .i64 0) (.int .i64 0) (A .exhausted none)) ts:=Z;refine aa.call (zR aa h4 al) ?_;rintro _ w6 rfl q;have ah:SF F0 w w6 Q.heap.size sl z.st z.wd H f (na w.heap.size N.heap.size S.heap.size h.heap.size (h.heap.size+1) C.heap.size s (.int .i64 0) (.int .i64 0) (A .exhausted none)) ts:=q;refine⟨_,rfl,ah.zY h3 h4 (λaE s1=>zO s1 (by rw[ac];exact hI.tp.mono co)) ?_⟩;rintro r w7 aH av f3 p3 aI aM ad aJ aw ax aj ⟨aB,az,aA,rfl,rfl,u,hu,rfl,hx⟩ H7;rw[ac]at hx;have aD:u.sz=(fj z.tp).sz:=by rw[<-hx,I.eX]
  refine⟨_,_,_,u.s,rfl,H7.nw λw8 _ H8=>H8.kD 9 rfl λw9 B=>⟨_,_,_,u.s,B.ld 9 0,B.ld 9 1,B.ld 9 2,B.ld 9 3,B.call (D7 u w9 co ((show I.Ps w9 ad from B.getD 0).mem hu)) ?_⟩⟩;rintro _ ar rfl y;refine⟨_,rfl,aF (λay=>?_) (λaC=>?_)⟩
  .refine y.kD 3 rfl λae E=>E.j0 4 rfl λC F=>F.j0 5 rfl λau Y=>Y.pu 6 rfl λaf d=>⟨_,_,_,⟨none,0,0⟩,d.ld 3 0,d.ld 3 1,d.ld 3 2,d.ld 3 3,_,d.i5 4,_,d.i5 5,d.fr,.inr ⟨L,_,G,.inr ⟨z,rfl,.inl ⟨co,rfl⟩⟩⟩⟩
  .refine ⟨_,_,_,u.s,y.ld 9 0,y.ld 9 1,y.ld 9 2,y.ld 9 3,y.kD 3 rfl λae E=>E.j0 4 rfl λC F=>F.j0 5 rfl λau Y=>Y.pu 6 rfl λaf d=>⟨_,_,_,u.s,d.ld 3 0,d.ld 3 1,d.ld 3 2,d.ld 3 3,_,d.i5 4,_,d.i5 5,d.fr,.inr ⟨L,_,G,.inr ⟨z,rfl,.inr ⟨co,u,rfl,hx,(show I.Ps af ad from d.getD 0).mem hu,λb ak=>?_⟩⟩⟩⟩⟩;rcases aj b (I.b'.2 ⟨u,hu,ak⟩)with x|x|x
   .exact j b x
   .exact x
   .exact x.elim
def IM:Sl:=⟨none,0,0⟩
def er(f:FX):FX:=⟨f.k,(IM,f.ar.2),f.al,f.an,f.ca,f.n,f.la⟩
def fT(S:SX):SX:=⟨S.lo.map er,er S.tp,S.st,S.wd⟩
def Fy(t:Tk)(S:SX):(gu t S).map fT=gu t (fT S):=by
 have d:er (lS (-1))=lS (-1):=rfl;have h:(S.lo++[S.tp]).map er=S.lo.map er++[er S.tp]:=ws
 unfold gu;split
 .rfl
 .split
  .simp only[Option.map_some,fT,d,h]
  .split
   .rfl
   .split
    .split
     .rfl
     .split
      .rfl
      .split
       .rfl
       .split
        .rfl
        .split<;>rfl
    .rfl
def Km(S:SX)(l:List Rx):(mC S l).map fT=mC (fT S) l:=by
 unfold mC;rcases sM S.lo with e|⟨a,g,e⟩
 .simp [e,fT]
 .have d:(fT S).lo=a.map er++[er g]:=by simp[fT,e]
  rw[e,d];simp[fT];rfl
def LY(s':Sl)(t:Tk)(S:SX):(gq s' t S).map fT=gq IM t (fT S):=by
 have q:(S.lo++[S.tp]).map er=S.lo.map er++[er S.tp]:=ws
 have h:(fT S).st=S.st:=rfl;have j:(fT S).tp.k=S.tp.k:=rfl;unfold gq;rw[h,j];by_cases d:S.st=2
 .rw [au d,au d];split
  .show some (fT ⟨S.lo++[S.tp],lS S.wd,1,S.wd⟩)=some ⟨S.lo.map er++[er S.tp],lS S.wd,1,S.wd⟩;rw[<-q];rfl
  .rfl
 rw[ag d,ag d];split
 .split
  .exact Km S []
  .exact Fy t S
 .split
  .exact Fy t S
  .split
   .rfl
   .split
    .rfl
    .split
     .rfl
     .split
      .split<;>rfl
      .split
       .by_cases e:S.lo=[]
        .rw [au e,au (show(fT S).lo=[]by simp[fT,e])];rfl
        .rw [ag e,ag (show ¬(fT S).lo=[]by simp[fT,e])];exact Km S _
       .split
        .by_cases e:S.lo=[]
         .rw [au e,au (show(fT S).lo=[]by simp[fT,e])];rfl
         .rw [ag e,ag (show ¬(fT S).lo=[]by simp[fT,e])];rfl
        .exact Fy t ⟨S.lo,lL S.tp,S.st,S.wd⟩
def yK:List Tk->SX->Int⊕SX
 |[],d=>.inr d
 |t::j,d=>match gq IM t d with
  |none=>.inl t.a
  |some h=>yK j h
def LJ:Int⊕SX->Int⊕SX
 |.inl a=>.inl a
 |.inr d=>.inr (fT d)
def Uy:∀(O:List Tk) (S:SX) (r:Int⊕SX),rP O S r->LJ r=yK O (fT S)
 |[],S,r,d=>by have d:r=.inr S:=d;subst d;rfl
 |t::O,S,r,d=>by
  obtain⟨k,⟨h,j⟩|⟨q,h,j⟩⟩:=d
  .subst j;have:=LY k t S;rw[h]at this;unfold yK;rw[<-this];rfl
  .have:=LY k t S;rw[h]at this;unfold yK;rw[<-this];exact Uy O q r j
def wa(l:List UInt8):Int⊕SX:=yK (j3 l (l.length+1) 0) v3
def agG{s:ByteArray}{r:Int⊕SX}(h:rP (j3 (bl s) (s.size+1) 0) v3 r):LJ r=wa (bl s):=by have:=Uy _ _ _ h;rw[this];unfold wa;rw[dY];rfl
def LR(S:SX):fj (fT S).tp=fj S.tp:=rfl
def lit(c:UInt8):Rx:=.mk 2 c c []
def lT(t:BL):Bool:=bif Nat.blt 4096 t.length then false else match wa t with
 |.inl _=>false
 |.inr d=>bif Nat.blt 64 (fj d.tp).sz then false else
  if pG (fj d.tp)=0 then(if kF (jD (fj d.tp))=0 then dh 0 (jD (fj d.tp)) (bo (jD (fj d.tp)))==t else false)else false
structure bC where
 k:Int
 n:Int
 x:Int
deriving DecidableEq
structure Nx where
 op:Int
 kids:List Int
 n:Int
 m:Int
 u:Int
 tx:ByteArray
 st:bC
deriving DecidableEq
def du:bC:=⟨0,0,0⟩
def bP(n:Int):bC:=⟨0,n,0⟩
def fv(n:Int):bC:=⟨1,n,0⟩
def cv(s:bC):Bool:=(s.k==0&&av (1<=s.n)&&av (s.n<=64)&&s.x==0)||(s.k==1&&av (0<=s.n)&&av (s.n<=64)&&s.x==0)||(s.k==2&&av (1<=s.n)&&av (s.n<=64)&&av (1<=s.x)&&av (s.x<=16))||(s.k==3&&av (0<=s.n)&&av (s.n<=64)&&av (1<=s.x)&&av (s.x<=16))
def hN(s:bC):Int:=if cv s then 0 else 9
def eG(s:bC):Bool:=s.k==2||s.k==3
def dm(op:Int):Int:=if op<0\/34<op then -1 else if op<=3 then 0 else if op=4\/op=5\/op=21\/op=22\/op=23\/op=27\/op=28\/op=33\/op=34 then 1 else if op=19\/op=25\/op=30\/op=32 then 3 else 2
def qH(op:Int):Bool:=op==21||op==22||op==23||op==28
def qI(op:Int):Bool:=op==0||op==2||op==33
def jW(n:Nx):Bool:=(qH n.op||n.n==0)&&(n.op==21||n.m==0)&&(n.op==1||n.u==0)&&(qI n.op||av (n.tx=ba []))
def fV(g:List Nx)(k:Int):Bool:=av (0<=k)&&av (k<(g.length:Int))
def fD(c:UInt8):Bool:=av (97<=c.toNat)&&av (c.toNat<=122)
def df(c:UInt8):Bool:=fD c||(av (48<=c.toNat)&&av (c.toNat<=57))||c==45
def e4(l:List UInt8):Bool:=match l with
 |[]=>false
 |c::m=>av (m.length<=15)&&fD c&&m.all df
def kG:List Nx->ByteArray->Option bC
 |[],_=>none
 |d::g,t=>if d.op=0/\d.tx=t then some d.st else kG g t
def tq(g:List Nx)(n:Nx):Bool:=match kG g n.tx with
 |some s=>!decide (s=n.st)
 |none=>false
def gk(u n:Int):Bool:=av (n<64)&&av (2^n.toNat<=u)
def cQ(g:List Nx)(n:Nx):bC×Int:=
 if n.op=2 then(if 64<n.tx.size then(du,5)else(fv n.tx.size,0))else
 if n.op=0/\e4 (bl n.tx)=false then(du,6)else
 if cv n.st=false then(du,9)else
 if n.op=1/\n.st.k≠0\/n.op=3/\eG n.st=false then(du,9)else
 if n.op=1/\gk n.u n.st.n=true then(du,5)else
 if n.op=0/\tq g n=true then(du,8)else(n.st,0)
def iI(s:bC):bC:=if s.k=2 then bP s.n else fv s.n
def dI(op:Int)(x y z:bC):Bool:=
 if op=4\/op=5\/op=21\/op=22\/op=23 then x.k==0 else
 if op=18 then av (x=y)||(x.k==1&&y.k==1)else
 if op=19 then av (x=bP 1)&&(av (y=z)||(y.k==1&&z.k==1))else
 if op=20 then x.k==0&&y.k==0 else
 if op=24 then eG x&&av (y=bP x.x)else
 if op=25 then eG x&&av (y=bP x.x)&&(av (z=iI x)||(x.k==3&&z.k==1&&av (z.n<=x.n)))else
 if op=26 then eG x&&av (x=y)else
 if op=27\/op=28\/op=33 then x.k==1 else
 if op=29\/op=31 then x.k==1&&y.k==1 else
 if op=30 then x.k==1&&av (y=bP 7)&&av (z=bP 7)else
 if op=32 then x.k==1&&y.k==1&&z.k==1 else
 if op=34 then av (x=bP 8)else x.k==0&&av (x=y)
def iu(n:Nx)(x y z:bC):bC:=
 if n.op=16\/n.op=17\/n.op=18\/n.op=33 then bP 1 else
 if n.op=19 then(if y.k=1 then fv (if y.n<z.n then z.n else y.n)else y)else
 if n.op=20 then bP (x.n+y.n)else
 if n.op=21 then bP (n.n - n.m+1)else
 if n.op=22\/n.op=23 then bP (x.n+n.n)else
 if n.op=24 then iI x else
 if n.op=26 then bP x.x else
 if n.op=27\/n.op=31 then bP 7 else
 if n.op=28 then bP 8 else
 if n.op=29 then fv (x.n+y.n)else
 if n.op=32 then fv (x.n+z.n)else
 if n.op=34 then fv 1 else x
def lf(n:Nx)(x y z:bC):Bool:=
 if n.op=20\/n.op=29 then av (x.n+y.n<=64)else
 if n.op=21 then av (0<=n.m)&&av (n.m<=n.n)&&av (n.n<x.n)else
 if n.op=22\/n.op=23 then av (1<=n.n)&&av (n.n<=64 - x.n)else
 if n.op=28 then av (0<=n.n)&&av (n.n<=63)else
 if n.op=32 then av (x.n+z.n<=64)else true
def cr(g:List Nx)(n:Nx)(i:Nat):bC:=match n.kids[i]? with
 |some h=>match g[h.toNat]? with
  |some d=>d.st
  |none=>du
 |none=>du
def pd(t:ByteArray):Bool:=lT (bl t)
def cK(g:List Nx)(n:Nx):bC×Int:=
 if(dm n.op==(n.kids.length:Int)&&n.kids.all (fV g)&&jW n)=false then(du,1)else
 if n.op<=3 then cQ g n else
 if dI n.op (cr g n 0) (cr g n 1) (cr g n 2)=false then(du,9)else
 if lf n (cr g n 0) (cr g n 1) (cr g n 2)=false then(du,5)else
 if n.op=33/\pd n.tx=false then(du,2)else(iu n (cr g n 0) (cr g n 1) (cr g n 2),0)
def hv(n:Nx)(s:bC):Nx:={n with st:=s}
def ie(n:Nx):List Nx->Nat->Option Nat
 |[],_=>none
 |d::g,i=>if d=n then some i else ie n g (i+1)
def hR(g:List Nx)(n:Nx):List Nx×Int×Int:=
 if(cK g n).2≠0 then([],0,(cK g n).2)else
 match ie (hv n (cK g n).1) g 0 with
 |some i=>(g,i,0)
 |none=>if 4096<=g.length then([],0,4)else(g++[hv n (cK g n).1],g.length,0)
inductive Vg:List Nx->Prop
 |nil:Vg []
 |snoc {g:List Nx} {n:Nx}:Vg g->cK g n=(n.st,0)->n∉g->Vg (g++[n])
structure Nd where
 x:Nx
 ks:Sl
abbrev ei(s:bC):aa:=.agg #[.i s.k,.i s.n,.i s.x]
namespace Nd
def c(d:Nd):List aa:=[.i d.x.op,d.ks.v,.i d.x.n,.i d.x.m,.u d.x.u,.string d.x.tx,.i d.x.st.k,.i d.x.st.n,.i d.x.st.x]
abbrev v(d:Nd):aa:=.agg #[.i d.x.op,d.ks.v,.i d.x.n,.i d.x.m,.u d.x.u,.string d.x.tx,.i d.x.st.k,.i d.x.st.n,.i d.x.st.x]
def ke(d:Nd):(c d).length=9:=rfl
def e1(l:List Nd):(l.flatMap c).length=l.length *9:=qE c 9 ke l
abbrev P(w:J)(d:Nd):Prop:=bx w d.ks d.x.kids
structure gy(w:J)(p:Addr)(i:Nat)(d:Nd):Prop where
 c0:w.cell? ((p.add (i *9)).add 0)=some (.i d.x.op)
 c1:w.cell? ((p.add (i *9)).add 1)=some d.ks.v
 c2:w.cell? ((p.add (i *9)).add 2)=some (.i d.x.n)
 c3:w.cell? ((p.add (i *9)).add 3)=some (.i d.x.m)
 c4:w.cell? ((p.add (i *9)).add 4)=some (.u d.x.u)
 c5:w.cell? ((p.add (i *9)).add 5)=some (.string d.x.tx)
 c6:w.cell? ((p.add (i *9)).add 6)=some (.i d.x.st.k)
 c7:w.cell? ((p.add (i *9)).add 7)=some (.i d.x.st.n)
 c8:w.cell? ((p.add (i *9)).add 8)=some (.i d.x.st.x)
def cI{w:J}{s:Sl}{l:List Nd}(h:bN 9 w s (l.flatMap c)):s.n=l.length:=by have:=h.1;rw[e1]at this;omega
def dE{w:J}{s:Sl}{l:List Nd}(h:bN 9 w s (l.flatMap c)){i:Nat}{d:Nd}(hi:l[i]? =some d){K:Addr->Prop}(k:∀p,s.a=some p->gy w p i d->K p):eh s.a K:=
 fN.elem (f:=c) (sz:=9) ke co h.2.2 hi λp q j=>k p q ⟨j 0 _ rfl,j 1 _ rfl,j 2 _ rfl,j 3 _ rfl,j 4 _ rfl,j 5 _ rfl,j 6 _ rfl,j 7 _ rfl,j 8 _ rfl⟩
def again{w:J}{s:Sl}{l:List Nd}(h:bN 9 w s (l.flatMap c)){i:Nat}{d:Nd}(hi:l[i]? =some d){p:Addr}(z:s.a=some p):gy w p i d:=by have q:=dE h hi (K:=λk=>∃x,s.a=some x/\gy w x i d) (λk j y=>⟨k,j,y⟩);rw[z]at q;obtain⟨k,j,e⟩:=q;cases j;exact e
end Nd
abbrev xs(l:List Nd):List Nx:=l.map Nd.x
def GP(w:J)(s:Sl)(l:List Nd):Prop:=bN 9 w s (l.flatMap Nd.c)/\∀d∈l,d.P w
abbrev dt(d:Nd):En:=.rd d.ks (d.x.kids.map a5)
def _root_.Go.W.En.gr(s:Sl)(l:List Nd):En:=.all (.bf 9 s (l.flatMap Nd.c)::l.map dt)
def ch{w:J}{s:Sl}{l:List Nd}:(En.gr s l).P w↔GP w s l:=by
 constructor
 .exact λd=>⟨d (.bf 9 s (l.flatMap Nd.c)) ws,λh j=>d (dt h) (e6 _ (bS.2 ⟨h,j,rfl⟩))⟩
 .intro d e k;rcases aq.1 k with rfl|k
  .exact d.1
  .obtain ⟨h,j,rfl⟩:=bS.1 k;exact d.2 h j
def ov{s:Sl}{l:List Nd}{b:Nat}:b∈(En.gr s l).fp↔b∈(En.bf 9 s (l.flatMap Nd.c)).fp\/∃h∈l,b∈(dt h).fp:=by
 unfold En.gr En.all;rw[aT,List.mem_flatMap];constructor
 .rintro ⟨e,k,d⟩;rcases aq.1 k with rfl|k
  .exact .inl d
  .obtain ⟨h,j,rfl⟩:=bS.1 k;exact .inr ⟨h,j,d⟩
 .rintro (d|⟨h,j,d⟩)
  .exact ⟨_,oL ..,d⟩
  .exact ⟨_,e6 _ (bS.2 ⟨h,j,rfl⟩),d⟩
def i4{w:J}{s:Sl}{l:List Nd}(h:GP w s l):s.n=l.length:=Nd.cI h.1
def iM{w:J}{s:Sl}{l:List Nd}(h:GP w s l){i:Nat}{d:Nd}{X:Int}(j:X=(i:Int))(hi:l[i]? =some d){K:Addr->Prop}(k:∀p,s.a=some p->Nd.gy w p (a0 X) d->K p):fx s X K:=by have x:=i4 h;have q:=(cX.1 hi).1;subst j;exact⟨co,co,Nd.dE h.1 hi k⟩
def zj{l:List Nd}{i:Nat}{d:Nd}(h:l[i]? =some d):(xs l)[i]? =some d.x:=by simp[xs,h]
namespace Nd
def gy.s0{w:J}{p:Addr}{i:Nat}{d:Nd}(h:gy w p i d):w.cell? (((p.add (i *9)).add 6).add 0)=some (.i d.x.st.k):=by rw[add_add];exact h.c6
def gy.s1{w:J}{p:Addr}{i:Nat}{d:Nd}(h:gy w p i d):w.cell? (((p.add (i *9)).add 6).add 1)=some (.i d.x.st.n):=by rw[add_add];exact h.c7
def gy.s2{w:J}{p:Addr}{i:Nat}{d:Nd}(h:gy w p i d):w.cell? (((p.add (i *9)).add 6).add 2)=some (.i d.x.st.x):=by rw[add_add];exact h.c8
end Nd
def Ff{w:J}{s:Sl}{l:List Nd}(h:GP w s l){i:Nat}{d:Nd}(hi:l[i]? =some d){p:Addr}(k:s.a=some p){X:Int}(j:X=(i:Int)):Nd.gy w p (a0 X) d:=by subst j;exact Nd.again h.1 hi k
def g1(s:bC):List aa:=[.i s.k,.i s.n,.i s.x]
def Vm(l:List bC):(l.flatMap g1).length=l.length *3:=qE g1 3 (λ_=>rfl) l
structure Dq(w:J)(p:Addr)(i:Nat)(s:bC):Prop where
 c0:w.cell? ((p.add (i *3)).add 0)=some (.i s.k)
 c1:w.cell? ((p.add (i *3)).add 1)=some (.i s.n)
 c2:w.cell? ((p.add (i *3)).add 2)=some (.i s.x)
def afN{w:J}{s:Sl}{l:List bC}(h:bN 3 w s (l.flatMap g1)):s.n=l.length:=by have:=h.1;rw[Vm]at this;omega
def eQ{w:J}{s:Sl}{l:List bC}(h:bN 3 w s (l.flatMap g1)){i:Nat}{x:bC}{X:Int}(j:X=(i:Int))(hi:l[i]? =some x){K:Addr->Prop}(k:∀p,s.a=some p->Dq w p (a0 X) x->K p):fx s X K:=by have z:=afN h;have y:=(cX.1 hi).1;subst j;exact⟨co,co,fN.elem (f:=g1) (sz:=3) (λ_=>rfl) co h.2.2 hi λp q d=>k p q ⟨d 0 _ rfl,d 1 _ rfl,d 2 _ rfl⟩⟩
def gK{w:J}{s:Sl}{l:List bC}(h:bN 3 w s (l.flatMap g1)){i:Nat}{x:bC}{X:Int}(y:X=(i:Int))(hi:l[i]? =some x){p:Addr}(A:s.a=some p):Dq w p (a0 X) x:=by have k:=(eQ h y hi (K:=λj=>∃q,s.a=some q/\Dq w q (a0 X) x) (λj d z=>⟨j,d,z⟩)).2.2;rw[A]at k;obtain⟨j,d,e⟩:=k;cases d;exact e
def lh(a b:bC):((a.k==b.k)&&((a.n==b.n)&&((a.x==b.x)&&true)))=av (a=b):=by cases a;cases b;simp only[bC.mk.injEq,Bool.and_true,Bool.decide_and];rfl
def rr(a b:ByteArray):(a.toList==b.toList)=av (a=b):=by
 rw[ByteArray.toList_eq,ByteArray.toList_eq];have d:(a.data.toList=b.data.toList)↔a=b:=⟨λd=>ByteArray.ext (Array.toList_inj.1 d),λd=>by rw[d]⟩;rw[<-decide_eq_decide.2 d];cases h:av (a.data.toList=b.data.toList)with
 |true=>rw[eT h];simp
 |false=>exact beq_eq_false_iff_ne.2 (iy h)
section
variable {A B:Prop}
def jH{a b:ByteArray}(d:a=b->A)(h:a≠b->B):bA (a.toList==b.toList) A B:=by rw[rr];exact aF d h
def oS{a b:bC}(d:a=b->A)(h:a≠b->B):bA ((a.k==b.k)&&((a.n==b.n)&&((a.x==b.x)&&true))) A B:=by rw[lh];exact aF d h
def BK{a b:bC}(h:a≠b->A)(j:a=b->B):bA (!((a.k==b.k)&&((a.n==b.n)&&((a.x==b.x)&&true)))) A B:=by rw[lh];exact eb (λd=>h (iy d)) (λd=>j (eT d))
def HQ{s:bC}(h:cv s=false->A)(j:cv s=true->B):bA (hN s !=0) A B:=by
 unfold hN;cases d:cv s with
 |true=>exact aN rfl (j d)
 |false=>exact aM rfl (h d)
end
set_option maxRecDepth 100000
set_option maxHeartbeats 2000000
namespace Lb
def ok:=ay (ax V Tryz.f149 [] []) Ov [.I]
end Lb
namespace Lf
def ok:=ay (ax V Tryz.f148 [] []) OC [.Y]
end Lf
namespace xB
def L0:=bh (ax V Tryz.f221 [] []) [0,1,1,1,1] [(0,.Y),(3,.I)]
abbrev t1:=bg L0
def bE:=bm t1 L0
def ok:=ay t1 OB [.Y]
end xB
namespace xA
abbrev S1:=ak (ax V Tryz.f204 [(4,ls [0,1,2,3,6,7,8,9,4,5,10,11,12,13,14])] []) [3] []
abbrev t1:=ao S1
abbrev S0:=ak t1 [2] [(0,.st),(1,.I)]
abbrev t2:=ao S0
def ok:=ay t2 Ou [.st,.I]
end xA
namespace uO
abbrev P0:Ps:=[(4,.l [.I,.Y,.Y,.s] aV)]
abbrev b3:=ak (ax V Tryz.f185 [] [4]) [0,1,1,1,6] P0
abbrev t1:=ao b3
abbrev dc:=ak t1 [0,1,1,1,9] P0
abbrev t2:=ao dc
abbrev cd:=ak t2 [9] [(0,.st),(1,.I),(4,.l [.I,.Y,.Y,.s] aV),(8,.Y),(11,.Y),(12,.I),(13,.I)]
abbrev t3:=ao cd
abbrev bt:=ak t3 [6] [(0,.st),(1,.I),(4,.l [.I,.Y,.Y,.s] aV),(8,.Y),(9,.I),(10,.I)]
abbrev t4:=ao bt
def aC:=ay t4 OE [.st,.I]
end uO
namespace kg
def a6:=bh (ax V Tryz.f154 [(11,lr 13)] [5]) [0,1,1,1,2] [(0,.st),(3,.s),(4,.I)]
abbrev t1:=bg a6
abbrev P0:Ps:=[(0,.st),(3,.s),(4,.I),(5,.l [.I,.Y,.Y,.s] aV),(6,.I)]
def cy:=bh t1 [0,1,1,1,1,1,2,1,1,2,1,1,2] P0
abbrev t2:=bg cy
abbrev cd:=ak t2 [3,1,1,2,1,1,2] P0
abbrev t3:=ao cd
def dH:=bm t3 cy
def bD:=bm t3 a6
def aC:=ay t3 Oq [.st]
end kg
namespace Li
def ok:=ay (ax V Tryz.f206 [(3,lr 12)] []) OH [.r]
end Li
namespace Lj
abbrev S0:=ak (ax V Tryz.f187 [] []) [3] []
abbrev t1:=ao S0
def ok:=ay t1 OI [.r,.st]
end Lj
namespace Lh
def ok:=ay (ax V Tryz.f156 [] []) OG [.r,.st]
end Lh
namespace Ld
def aC:=ay (ax V Tryz.f188 [] [4]) yc [.I,.s]
end Ld
namespace Lg
def ok:=ay (ax V Tryz.f223 [] []) OF [.r]
end Lg
namespace xD
def a6:=bh (ax V Tryz.f155 [] [2]) [0,2,2] [(0,.r),(2,.l [.I,.Y,.Y,.s] aV),(3,.s)]
abbrev t1:=bg a6
def bD:=bm t1 a6
def aC:=ay t1 Ga [.r]
end xD
namespace xC
def a6:=bh (ax V Tryz.f186 [] [2]) [0,2,2] [(0,.r),(2,.l [.I,.Y,.Y,.s] aV),(3,.s)]
abbrev t1:=bg a6
def bD:=bm t1 a6
def aC:=ay t1 AS [.r]
end xC
namespace xF
def a6:=bh (ax V Tryz.f205 [] [2]) [0,2,2] [(0,.r),(2,.l [.I,.Y,.Y,.s] aV),(3,.s)]
abbrev t1:=bg a6
def bD:=bm t1 a6
def aC:=ay t1 AU [.r]
end xF
namespace Ac
def a6:=bh (ax V Tryz.f222 [] [2,4]) [0,2,4] [(0,.r),(2,.l [.I,.Y,.Y,.s] aV),(4,.l [.I,.Y,.Y,.s] aV)]
abbrev t1:=bg a6
def bD:=bm t1 a6
def aC:=ay t1 AT [.r]
end Ac
namespace pq
abbrev P0:Ps:=[(0,.r),(2,.l [.I,.Y,.Y,.s] aV),(3,.s),(4,.I)]
def cy:=bh (ax V Tryz.f249 [(1,lr 20),(3,lr 13),(8,ls [0,1,2,3,5,6,7,8,4,9,10])] [2,5,6]) [0,1,1,1,3] P0
abbrev t1:=bg cy
abbrev cd:=ak t1 [2,2,1,1,3] P0
abbrev t2:=ao cd
abbrev dc:=ak t2 [4,2,1,2,1,1,3] [(2,.l [.I,.Y,.Y,.s] aV),(5,.l [.I,.Y,.Y,.s] aV)]
abbrev t3:=ao dc
def dH:=bm t3 cy
abbrev bt:=ak t3 [2] [(0,.r),(2,.l [.I,.Y,.Y,.s] aV)]
abbrev t4:=ao bt
def aC:=ay t4 F' [.r]
end pq
namespace xE
abbrev S0:=ak (ax V Tryz.f263 [] []) [0,1,1,1,3] []
abbrev t1:=ao S0
def L1:=bh t1 [0,2,5] [(0,.r),(4,.s)]
abbrev t2:=bg L1
def fO:=bm t2 L1
def ok:=ay t2 Gb [.r]
end xE
namespace K8
def aC:=ay (ax V Tryz.f129 [(7,lr 15)] [2,6]) On [.st]
end K8
namespace K4
def ok:=ay (ax V Tryz.f123 [] []) Oj [.Y]
end K4
namespace EG
abbrev bt:=ak (ax V Tryz.f122 [] [1]) [0,1,1,1,2] []
abbrev t1:=ao bt
def aC:=ay t1 F9 [.a 4,.I,.Y,.Y,.s]
end EG
namespace Le
def ok:=ay (ax V Tryz.f124 [] []) Oz [.Y]
end Le
namespace mH
abbrev bt:=ak (ax V Tryz.f100 [(11,ls [0,1,5,6,2,3,4,7,8,9,10])] [2]) [2,1,1,1,3] [(2,.l [.I,.Y,.Y,.s] aV),(5,.st)]
abbrev t1:=ao bt
abbrev P0:Ps:=[(2,.l [.I,.Y,.Y,.s] aV),(6,.st),(7,.I),(8,.st),(9,.I)]
def cy:=bh t1 [0,1,1,1,7] P0
abbrev t2:=bg cy
abbrev dc:=ak t2 [2,2,1,1,7] P0
abbrev t3:=ao dc
abbrev cd:=ak t3 [2,2,1,2,1,1,7] [(2,.l [.I,.Y,.Y,.s] aV),(6,.st),(7,.I),(8,.st),(9,.I),(10,.st)]
abbrev t4:=ao cd
def dH:=bm t4 cy
def aC:=ay t4 qS [.a 4,.I,.Y,.Y,.s,.I]
end mH
namespace aax
noncomputable def C0:Code:=(Tryz.f71.body).getD .skip
noncomputable def C1:=C0.sn
noncomputable def C2:=C1.sn
noncomputable def C3:=C2.sn
noncomputable def C4:=C3.sn
noncomputable def C5:=C4.sn
noncomputable def C6:=C5.sn
noncomputable def C7:=C6.sn
noncomputable def C8:=C7.sn
abbrev Q0(R:aK):iA:=(bodyPost V Tryz.f71 R)
noncomputable def C9:=C8.sn
abbrev S0(d:Int)(h:Sl)(w:J)(R:aK):Prop:=
 (0:Int)<=(cw (aj .i64 (bQ d 216)) 8)/\(cw (aj .i64 (bQ d 216)) 8)<(h.n:Int)/\eh h.a λj=>gC w (j.add (a0 (cw (aj .i64 (bQ d 216)) 8) *4)) λk q x y=>zS yd #[.agg #[.i k,.int .u8 q,.int .u8 x,y.v]] w λz A B C D=>J8 qS #[.agg #[.i z,.int .u8 A,.int .u8 B,C.v],.i 0] D λt86 E=>R (ae (.string t86)) E
def CV(E:Env)(w:J)(R:aK):Prop:=W.asInt .i64 (Env.get? E 3) λh=>W.asSlice (Env.get? E 9) λd=>S0 h d w R
end aax
namespace K5
def aC:=ay (ax V Tryz.f107 [] [3,6]) Ol [.st]
end K5
namespace Lo
def aC:=ay (ax V Tryz.f69 [] [2]) OL [.I]
end Lo
namespace Lt
def aC:=ay (ax V Tryz.f70 [] [2]) OU [.I]
end Lt
namespace Lu
def ok:=ay (ax V Tryz.f126 [] []) OX [.s,.I]
end Lu
namespace Lr
abbrev P0:Ps:=[]
abbrev S0:=ak (ax V Tryz.f72 [] []) [0,1,1,1,1] P0
abbrev t1:=ao S0
abbrev S1:=ak t1 [0,1,1,1,1,1,3] P0
abbrev t2:=ao S1
abbrev S3:=ak t2 [0,1,3,1,1,1,3] P0
abbrev t3:=ao S3
abbrev S4:=ak t3 [4] P0
abbrev t4:=ao S4
abbrev S2:=ak t4 [2,1,1,1,3] [(11,.I)]
abbrev t5:=ao S2
def ok:=ay t5 OP [.I]
end Lr
namespace nz
abbrev S0:=ak (ax V Tryz.f127 [] []) [0,1,1,1,1] []
abbrev t1:=ao S0
abbrev P0:Ps:=[(0,.st),(3,.I)]
def L1:=bh t1 [0,1,1,1,2] P0
abbrev t2:=bg L1
abbrev S4:=ak t2 [2,2,1,1,2] P0
abbrev t3:=ao S4
abbrev S3:=ak t3 [2,2,1,2,1,1,2] [(0,.st),(3,.I),(4,.b),(5,.b)]
abbrev t4:=ao S3
abbrev S2:=ak t4 [1,2,1,2,1,1,2] [(0,.st),(3,.I),(4,.b)]
abbrev t5:=ao S2
def fO:=bm t5 L1
def ok:=ay t5 OR [.st]
end nz
namespace Lk
def ok:=ay (ax V Tryz.f153 [] []) ye [.I,.I,.I]
end Lk
namespace sb
abbrev bt:=ak (ax V Tryz.f128 [] [1]) [3] [(3,.b)]
abbrev t1:=ao bt
def aC:=ay t1 OJ [.a 3,.I,.I,.I]
end sb
namespace xJ
def a6:=bh (ax V Tryz.f103 [(1,ls [0,1,3,4,5,2,6])] [3]) [0,1,1,1,2] [(0,.s),(3,.l [.I,.s,.I,.I,.U,.st,.I,.I,.I] cP),(5,.I)]
abbrev t1:=bg a6
abbrev P0:Ps:=[]
abbrev b3:=ak t1 [0,1,1,2,1,2,1,1,2] P0
abbrev t2:=ao b3
abbrev cd:=ak t2 [0,1,1,1,5] P0
abbrev t3:=ao cd
abbrev dc:=ak t3 [6] P0
abbrev t4:=ao dc
def bD:=bm t4 a6
def aC:=ay t4 OV [.s,.a 9,.I,.s,.I,.I,.U,.st,.I,.I,.I]
end xJ
namespace kh
abbrev cd:=ak (ax V Tryz.f104 [(19,lr 31)] [3,4]) [0,1,1,1,7] [(4,.l [.I,.I,.I] cF)]
abbrev t1:=ao cd
abbrev P0:Ps:=[(0,.s),(3,.l [.I,.s,.I,.I,.U,.st,.I,.I,.I] cP),(4,.l [.I,.I,.I] cF),(9,.I)]
def lC:=bh t1 [0,1,1,1,9] P0
abbrev t2:=bg lC
abbrev jN:=ak t2 [2,2,1,1,9] P0
abbrev t3:=ao jN
def o5:=bm t3 lC
abbrev P1:Ps:=[(0,.s),(3,.l [.I,.s,.I,.I,.U,.st,.I,.I,.I] cP),(4,.l [.I,.I,.I] cF)]
abbrev hx:=ak t3 [9] P1
abbrev t4:=ao hx
abbrev dc:=ak t4 [8] P1
abbrev t5:=ao dc
abbrev b3:=ak t5 [7] [(0,.s),(3,.l [.I,.s,.I,.I,.U,.st,.I,.I,.I] cP),(4,.l [.I,.I,.I] cF),(8,.b)]
abbrev t6:=ao b3
abbrev bt:=ak t6 [3] [(0,.s),(3,.l [.I,.s,.I,.I,.U,.st,.I,.I,.I] cP),(4,.l [.I,.I,.I] cF),(6,.b)]
abbrev t7:=ao bt
def aC:=ay t7 OY [.s,.a 9,.I,.s,.I,.I,.U,.st,.I,.I,.I]
end kh
namespace Lq
def aC:=ay (ax V Tryz.f102 [] [1,2]) OM [.a 3,.I,.I,.I]
end Lq
namespace EH
abbrev b3:=ak (ax V Tryz.f105 [(13,lr 16),(15,lr 27),(19,lr 11),(21,lr 11),(23,lr 28),(25,lr 9),(34,lr 16),(38,lr 4),(39,lr 9)] [5]) [0,1,1,1,1,1,5] [(6,.b)]
abbrev t1:=ao b3
abbrev dc:=ak t1 [0,1,1,2,11,1,1,1,5] []
abbrev t2:=ao dc
abbrev hx:=ak t2 [0,1,15,1,1,1,5] [(7,.b)]
abbrev t3:=ao hx
abbrev jN:=ak t3 [0,1,17,1,1,1,5] [(1,.s),(7,.b)]
abbrev t4:=ao jN
abbrev P0:Ps:=[(1,.s),(5,.l [.I,.I,.I] cF),(6,.b),(7,.b),(26,.I)]
abbrev n3:=ak t4 [18,1,1,1,5] P0
abbrev t5:=ao n3
abbrev mz:=ak t5 [16,1,1,1,5] P0
abbrev t6:=ao mz
abbrev cd:=ak t6 [2,1,1,1,5] [(1,.s),(5,.l [.I,.I,.I] cF),(6,.b),(7,.b),(8,.b),(26,.I)]
abbrev t7:=ao cd
abbrev bt:=ak t7 [5] [(0,.I),(1,.s),(5,.l [.I,.I,.I] cF),(6,.b),(7,.b),(8,.b)]
abbrev t8:=ao bt
def aC:=ay t8 OW [.I,.s]
end EH
namespace Ae
abbrev P0:Ps:=[(4,.l [.I,.I,.I] cF)]
abbrev bt:=ak (ax V Tryz.f106 [(10,lr 12),(13,ls [0,1,2,3,4,5,6,8,9,10,11,12,13,14,15,7,16,17]),(15,ls [0,1,2,3,4,5,7,8,9,6,10,11,12,13,14,15,16,17,18,19,20,21,22,23,24,25]),(18,ls [0,1,2,3,4,6,7,8,5,9,10,11,12,13,14,15,16,17,18]),(27,ls [1,2,3,0,4,5,6,7,8,9,10]),(29,ls [0,1,2,3,4,5,6,8,9,10,11,12,13,14,15,7,16,17]),(31,ls [0,1,2,3,4,5,6,8,9,10,11,12,13,14,15,7,16,17])] [2,4,6]) [0,1,1,1,1,1,2] P0
abbrev t1:=ao bt
abbrev cd:=ak t1 [0,1,9,1,1,1,2] [(2,.l [.I,.s,.I,.I,.U,.st,.I,.I,.I] cP),(4,.l [.I,.I,.I] cF),(6,.l [.I,.I,.I] cF)]
abbrev t2:=ao cd
abbrev hx:=ak t2 [0,1,15,1,1,1,2] P0
abbrev t3:=ao hx
abbrev P1:Ps:=[(1,.s),(2,.l [.I,.s,.I,.I,.U,.st,.I,.I,.I] cP),(4,.l [.I,.I,.I] cF),(6,.l [.I,.I,.I] cF),(11,.I)]
abbrev mz:=ak t3 [16,1,1,1,2] P1
abbrev t4:=ao mz
abbrev dc:=ak t4 [10,1,1,1,2] P1
abbrev t5:=ao dc
abbrev b3:=ak t5 [2,1,1,1,2] P1
abbrev t6:=ao b3
def aC:=ay t6 O0 [.a 9,.I,.s,.I,.I,.U,.st,.I,.I,.I,.s]
end Ae
namespace uP
def a6:=bh (ax V Tryz.f75 [] [3,4,10]) [0,1,1,1,5] [(0,.s),(3,.l [.I,.s,.I,.I,.U,.st,.I,.I,.I] cP),(4,.l [.I,.I,.I] cF),(7,.s),(8,.I)]
abbrev t1:=bg a6
abbrev b3:=ak t1 [11] [(4,.l [.I,.I,.I] cF),(10,.l [.I,.I,.I] cF),(12,.b)]
abbrev t2:=ao b3
def bD:=bm t2 a6
def aC:=ay t2 OT [.s,.a 9,.I,.s,.I,.I,.U,.st,.I,.I,.I]
end uP
namespace Ls
def aC:=ay (ax V Tryz.f108 [] [2,3]) OS [.a 9,.I,.s,.I,.I,.U,.st,.I,.I,.I,.a 9,.I,.s,.I,.I,.U,.st,.I,.I,.I]
end Ls
namespace xI
def cy:=bh (ax V Tryz.f76 [(7,lr 7)] [3,5]) [0,1,1,1,3] [(0,.s),(3,.l [.I,.s,.I,.I,.U,.st,.I,.I,.I] cP),(7,.I)]
abbrev t1:=bg cy
def dH:=bm t1 cy
abbrev bt:=ak t1 [3] [(0,.s),(3,.l [.I,.s,.I,.I,.U,.st,.I,.I,.I] cP)]
abbrev t2:=ao bt
def aC:=ay t2 OO [.s,.a 9,.I,.s,.I,.I,.U,.st,.I,.I,.I]
end xI
namespace Ll
def aC:=ay (ax V Tryz.f40 [(10,(.sq [1,3,6,7] (.fork (.sq [0] (.fork (ls [2,4,5,8,9,10]) (ls [4,2,5,8,9,10]))) (ls [4,0,2,5,8,9,10]))))] [3,7]) OK [.s,.a 9,.I,.s,.I,.I,.U,.st,.I,.I,.I]
end Ll
namespace EI
abbrev S1:=ak (ax V Tryz.f38 [] []) [4] [(3,.s)]
abbrev t1:=ao S1
abbrev S0:=ak t1 [3] [(0,.I),(3,.s)]
abbrev t2:=ao S0
def ok:=ay t2 O2 [.I]
end EI
namespace sc
abbrev P0:Ps:=[(0,.s),(2,.I),(4,.l [.I,.I,.I] cF),(7,.s),(8,.I)]
def a6:=bh (ax V Tryz.f73 [(5,lr 7)] [4]) [0,1,1,1,2] P0
abbrev t1:=bg a6
abbrev b3:=ak t1 [2,2,1,1,2] P0
abbrev t2:=ao b3
def bD:=bm t2 a6
def aC:=ay t2 OQ [.s,.a 3,.I,.I,.I,.I]
end sc
namespace EJ
abbrev bt:=ak (ax V Tryz.f74 [] [10,11]) [0,1,11,1,1,1,2] [(4,.I),(10,.l [.I,.I,.I] cF)]
abbrev t1:=ao bt
abbrev b3:=ak t1 [3] [(10,.l [.I,.I,.I] cF),(11,.l [.I,.I,.I] cF)]
abbrev t2:=ao b3
def aC:=ay t2 O3 [.s,.I,.I,.I,.I]
end EJ
namespace jA
def lC:=bh (ax V Tryz.f39 [(38,lr 13)] [8,10,16]) [0,1,1,1,8] [(0,.s),(2,.I),(3,.I),(8,.l [.I,.s,.I,.I,.U,.st,.I,.I,.I] cP),(10,.l [.I,.s,.I,.I,.U,.st,.I,.I,.I] cP),(11,.I),(13,.I),(14,.I)]
abbrev t1:=bg lC
abbrev n3:=ak t1 [2,2,1,2,1,1,8] [(0,.s),(2,.I),(3,.I),(8,.l [.I,.s,.I,.I,.U,.st,.I,.I,.I] cP),(10,.l [.I,.s,.I,.I,.U,.st,.I,.I,.I] cP),(11,.I),(13,.I),(14,.I),(15,.I)]
abbrev t2:=ao n3
abbrev jN:=ak t2 [2,1,1,1,1,2,1,2,1,1,8] [(0,.s),(2,.I),(3,.I),(8,.l [.I,.s,.I,.I,.U,.st,.I,.I,.I] cP),(10,.l [.I,.s,.I,.I,.U,.st,.I,.I,.I] cP),(11,.I),(13,.I),(14,.I),(16,.l [.I,.I,.I] cF)]
abbrev t3:=ao jN
def o5:=bm t3 lC
abbrev hx:=ak t3 [8] [(0,.s),(2,.I),(3,.I),(8,.l [.I,.s,.I,.I,.U,.st,.I,.I,.I] cP),(10,.l [.I,.s,.I,.I,.U,.st,.I,.I,.I] cP),(11,.I),(13,.I)]
abbrev t4:=ao hx
abbrev dc:=ak t4 [7] [(0,.s),(1,.I),(2,.I),(3,.I),(8,.l [.I,.s,.I,.I,.U,.st,.I,.I,.I] cP),(10,.l [.I,.s,.I,.I,.U,.st,.I,.I,.I] cP),(11,.I),(13,.I)]
abbrev t5:=ao dc
abbrev P0:Ps:=[(0,.s),(1,.I),(2,.I),(3,.I),(8,.l [.I,.s,.I,.I,.U,.st,.I,.I,.I] cP),(10,.l [.I,.s,.I,.I,.U,.st,.I,.I,.I] cP),(11,.I)]
abbrev cd:=ak t5 [5] P0
abbrev t6:=ao cd
abbrev P1:Ps:=[(0,.s),(1,.I),(2,.I),(3,.I),(8,.l [.I,.s,.I,.I,.U,.st,.I,.I,.I] cP),(10,.l [.I,.s,.I,.I,.U,.st,.I,.I,.I] cP),(11,.I),(12,.I)]
abbrev b3:=ak t6 [2,1,1,1,1,1,4] P1
abbrev t7:=ao b3
abbrev bt:=ak t7 [1,1,1,1,1,1,4] P1
abbrev t8:=ao bt
abbrev rQ:=ak t8 [0,1,9,1,1,1,4] P0
abbrev t9:=ao rQ
abbrev XL:=ak t9 [10,1,1,1,4] [(0,.s),(1,.I),(2,.I),(3,.I),(8,.l [.I,.s,.I,.I,.U,.st,.I,.I,.I] cP),(10,.l [.I,.s,.I,.I,.U,.st,.I,.I,.I] cP),(11,.I),(32,.I)]
abbrev t10:=ao XL
def aC:=ay t10 OZ [.s,.I,.I,.I]
end jA
namespace uQ
abbrev P0:Ps:=[(0,.s),(1,.I),(5,.I),(6,.I)]
def L0:=bh (ax V Tryz.f42 [] []) [0,1,1,1,2] P0
abbrev t1:=bg L0
abbrev S1:=ak t1 [2,2,1,1,2] P0
abbrev t2:=ao S1
def bE:=bm t2 L0
def ok:=ay t2 O1 [.s,.I]
end uQ
namespace Lw
def aC:=ay (ax V Tryz.f41 [] [3]) O4 [.I,.a 3,.I,.I,.I]
end Lw
namespace oo
abbrev P0:Ps:=[(0,.s),(1,.I),(2,.I),(7,.s),(8,.I)]
def a6:=bh (ax V Tryz.f14 [(5,(.sq [0,1,2,3,4,5,6,7,8,9,10,11,12,13,14] (.fork (ls [15,16,17]) (ls [16,15,17]))))] [9]) [0,1,1,1,2] P0
abbrev t1:=bg a6
abbrev cd:=ak t1 [2,2,1,1,2] P0
abbrev t2:=ao cd
abbrev b3:=ak t2 [1,2,1,2,1,1,2] [(0,.s),(1,.I),(2,.I),(7,.s),(8,.I),(9,.l [.I,.s,.I,.I,.U,.st,.I,.I,.I] cP)]
abbrev t3:=ao b3
abbrev dc:=ak t3 [3] [(7,.s)]
abbrev t4:=ao dc
def bD:=bm t4 a6
def aC:=ay t4 Gc [.s,.I,.I]
end oo
def fR(n:Int)(w:J):ai V OL #[.i n] w λr j=>r=ae (ei (bP n))/\af w j:=
 Lo.aC ((bK [] ws).aH λb k d=>d.ah λq h=>⟨rfl,h.fr⟩)
def pc(n:Int)(w:J):ai V OU #[.i n] w λr j=>r=ae (ei (fv n))/\af w j:=
 Lt.aC ((bK [] ws).aH λb k d=>d.ah λq h=>⟨rfl,h.fr⟩)
def Hg(s:bC)(w:J):ai V OM #[ei s] w λr y=>r=ae (ei (iI s))/\af w y:=by
 refine Lq.aC ((bK [] ws).aH λb C x=>x.aH λB q k=>aP (λj=>k.aA (fR s.n q) ?_) (λj=>k.aA (pc s.n q) ?_))
 .rintro _ z rfl d;exact⟨_,_,_,rfl,d.ah λA h=>⟨by unfold iI;rw[au j],h.fr⟩⟩
 .rintro _ z rfl d;exact⟨_,_,_,rfl,d.ah λA h=>⟨by unfold iI;rw[ag j],h.fr⟩⟩
def vl{op:Int}(d:0<=op)(h:op<=34):op=0\/op=1\/op=2\/op=3\/op=4\/op=5\/op=6\/op=7\/op=8\/op=9\/op=10\/op=11\/op=12\/op=13\/op=14\/op=15\/op=16\/op=17\/op=18\/op=19\/op=20\/op=21\/op=22\/op=23\/op=24\/op=25\/op=26\/op=27\/op=28\/op=29\/op=30\/op=31\/op=32\/op=33\/op=34:=co
def JA(op:Int)(w:J):ai V OP #[.i op] w λr j=>r=ae (.i (dm op))/\af w j:=by
 refine Lr.ok ?_;by_cases d:op<0
 .exact aM (aR d) ⟨by unfold dm;rw[au (.inl d)],Fr.refl _ _⟩
 refine aN (aW d) ?_;by_cases h:op>34
 .exact aM (aR h) ⟨by unfold dm;rw[au (.inr h)],Fr.refl _ _⟩
 refine aN (aW h) ?_;rcases vl co (by omega:op<=34)with rfl|rfl|rfl|rfl|rfl|rfl|rfl|rfl|rfl|rfl|rfl|rfl|rfl|rfl|rfl|rfl|rfl|rfl|rfl|rfl|rfl|rfl|rfl|rfl|rfl|rfl|rfl|rfl|rfl|rfl|rfl|rfl|rfl|rfl|rfl<;>exact⟨rfl,Fr.refl _ _⟩
def Mp{s:ByteArray}{i:Nat}(h:i<s.size):s[i]? =some (gQ (bl s) i):=by
 have d:i<(bl s).length:=h;have e:gQ (bl s) i=(bl s)[i]:=by unfold gQ;rw[List.getD_eq_getElem?_getD,a' d];rfl
 rw[e,getElem?_pos s i h];rfl
def nG(c:UInt8)(m:List UInt8):e4 (c::m)=(av (m.length<=15)&&fD c&&m.all df):=rfl
def YP(s:ByteArray)(w:J):ai V OR #[.string s] w λr j=>r=ae (.bool (e4 (bl s)))/\af w j:=by
 have A:(bl s).length=s.size:=dY s;have no:e4 (bl s)=false->(Ending.returned (.bool false)=ae (.bool (e4 (bl s)))/\af w w):=λh=>⟨by rw[h],Fr.refl _ _⟩;cases B:bl s with
 |nil=>
  have D:s.size=0:=by rw[<-A,B];rfl
  exact nz.ok (aM (aR co) ⟨rfl,Fr.refl _ _⟩)
 |cons c m=>
  have Q:s.size=m.length+1:=by rw[<-A,B];rfl
  rw[B]at no;have L:gQ (bl s) 0=c:=by rw[B];rfl
  have D:s[a0 0]? =some c:=by rw[<-L];exact Mp co
  refine nz.ok (aN (aW co) (aF (λh=>no ?_) (λh=>⟨co,c,D,aF (λN=>no ?_) (λN=>⟨co,c,D,aF (λG=>no ?_) (λG=>?_)⟩)⟩)))
  .rw [nG,aW co];rfl
  .rw [nG];unfold fD;rw[aW (show ¬97<=c.toNat by omega)];simp
  .rw [nG];unfold fD;rw[aW (show ¬c.toNat<=122 by omega)];simp
  have I:e4 (c::m)=m.all df:=by rw[nG];unfold fD;rw[aR (show m.length<=15 by omega),aR (show 97<=c.toNat by omega),aR (show c.toNat<=122 by omega)];simp
  have K:e4 (c::m)=(bl s).all df:=by rw[I,B,List.all_cons];unfold df fD;rw[aR (show 97<=c.toNat by omega),aR (show c.toNat<=122 by omega)];simp
  rw[K];have loop:∀(d i:Nat),i+d=s.size->(bl s).all df=((bl s).drop i).all df->nz.L1 s (i:Int) w λr j=>r=ae (.bool ((bl s).all df))/\af w j:=by
   intro d;induction d with
   |zero=>
    intro i O k;rw[c9 co]at k;exact nz.fO (aN (aW co) ⟨by rw[k];rfl,Fr.refl _ _⟩)
   |succ d P=>
    intro i O k;have q:=Mp (show i<s.size by omega);rw[dz (by omega:i<(bl s).length),List.all_cons,show(bl s)[i]'co=gQ (bl s) i by unfold gQ;rw[List.getD_eq_getElem?_getD,a' (by omega:i<(bl s).length)];rfl]at k;generalize gQ (bl s) i=x at q k;have go:df x=true->nz.S4 s (i:Int) w λr j=>r=ae (.bool ((bl s).all df))/\af w j:=λh=>by show nz.L1 s (aj .i64 ((i:Int)+1)) w _;rw[bc _ co];exact P (i+1) co (by rw[k,h,Bool.true_and])
    have stop:df x=false->(Ending.returned (.bool false)=ae (.bool ((bl s).all df))/\af w w):=λh=>⟨by rw[k,h,Bool.false_and],Fr.refl _ _⟩;have H:fD x=false->∀o:Bool,o=((av (48<=x.toNat)&&av (x.toNat<=57))||x==45)->nz.S3 s (i:Int) false o w λr j=>r=ae (.bool ((bl s).all df))/\af w j:=λy o C=>by
     refine aM rfl (eb (λh=>stop ?_) (λh=>go ?_))
     .unfold df;rw[y,Bool.false_or,<-C,h]
     .unfold df;rw[y,Bool.false_or,<-C,h]
    have F:(((x.toNat:Int)==45):Bool)=(x==45):=by
     by_cases h:x=45
     .subst h;rfl
     .rw [beq_eq_false_iff_ne.2 h,beq_eq_false_iff_ne];intro G;exact h (UInt8.toNat_inj.1 (by have:((45:UInt8).toNat:Int)=45:=rfl;omega))
    have z:((i:Int)).toNat=i:=bB i;have E:∀l:Bool,l=fD x->nz.S2 s (i:Int) l w λr j=>r=ae (.bool ((bl s).all df))/\af w j:=λl A=>by
     have fin:∀o:Bool,o=((av (48<=x.toNat)&&av (x.toNat<=57))||x==45)->nz.S3 s (i:Int) l o w λr j=>r=ae (.bool ((bl s).all df))/\af w j:=λo C=>by
      cases y:fD x with
      |true=>rw[A,y];exact aN rfl (go (by unfold df;rw[y];rfl))
      |false=>rw[A,y];exact H y o C
     refine⟨co,x,by rw[z];exact q,aF (λh=>⟨co,x,by rw[z];exact q,aF (λM=>fin true ?_) (λM=>⟨co,x,by rw[z];exact q,?_⟩)⟩) (λh=>⟨co,x,by rw[z];exact q,?_⟩)⟩
     .rw [aR (show 48<=x.toNat by omega),aR (show x.toNat<=57 by omega)];rfl
     .rw [F];exact fin _ (by rw[aW (show ¬x.toNat<=57 by omega)];simp)
     .rw [F];exact fin _ (by rw[aW (show ¬48<=x.toNat by omega)];simp)
    refine nz.fO (aM (aR co) ⟨co,x,by rw[z];exact q,aF (λh=>⟨co,x,by rw[z];exact q,E _ ?_⟩) (λh=>E _ ?_)⟩)
    .unfold fD;rw[aR (show 97<=x.toNat by omega),Bool.true_and];exact decide_eq_decide.2 co
    .unfold fD;rw[aW (show ¬97<=x.toNat by omega),Bool.false_and]
  exact loop s.size 0 co ws
def Hj(n lo hi:Int)(w:J):ai V ye #[.int .i64 n,.int .i64 lo,.int .i64 hi] w λr j=>r=ae (.bool (av (lo<=n/\n<=hi)))/\af w j:=by
 refine Lk.ok (aF (λd=>⟨?_,Fr.refl _ _⟩) (λd=>⟨?_,Fr.refl _ _⟩))
 .have:(lo<=n/\n<=hi)↔n<=hi:=⟨λd=>d.2,λh=>⟨d,h⟩⟩;simp only[this]
 .rw [aW co]
def aeA(s:bC)(w:J):ai V OJ #[ei s] w λr j=>r=ae (.int .i64 (hN s))/\af w j:=by
 refine sb.aC ((bK [] ws).aH λB z A=>?_);have fin:∀{d:J} {L:List En} (b:Bool),b=cv s->LH F0 w d L []->sb.bt b d λr j=>r=ae (.int .i64 (hN s))/\af w j:=by
  rintro d L b rfl G;refine eb (λh=>⟨?_,G.fr⟩) (λh=>⟨?_,G.fr⟩)
  .unfold hN;rw[ag (by simp[h])]
  .unfold hN;rw[au h]
 have plain:∀lo:Int,(cv s=(av (lo<=s.n/\s.n<=64)&&(s.x==0)))->ep [B] V ye #[.int .i64 s.n,.int .i64 lo,.int .i64 64] z λy d=>∃t10:Bool,y=ae (.bool t10)/\bA t10 (sb.bt (s.x==0) d λr j=>r=ae (.int .i64 (hN s))/\af w j) (sb.bt false d λr j=>r=ae (.int .i64 (hN s))/\af w j):=by
  intro lo q;refine A.aA (Hj _ _ _ z) ?_;rintro _ d rfl k;refine⟨_,rfl,bT (λh=>fin _ ?_ k) (λh=>fin _ ?_ k)⟩
  .rw [q,h];rfl
  .rw [q,h];rfl
 have array:∀lo:Int,(cv s=(av (lo<=s.n/\s.n<=64)&&av (1<=s.x/\s.x<=16)))->ep [B] V ye #[.int .i64 s.n,.int .i64 lo,.int .i64 64] z λy d=>∃t10:Bool,y=ae (.bool t10)/\bA t10 (ep [B] V ye #[.int .i64 s.x,.int .i64 1,.int .i64 16] d λy I=>∃t34:Bool,y=ae (.bool t34)/\sb.bt t34 I λr j=>r=ae (.int .i64 (hN s))/\af w j) (sb.bt false d λr j=>r=ae (.int .i64 (hN s))/\af w j):=by
  intro lo q;refine A.aA (Hj _ _ _ z) ?_;rintro _ d rfl k;refine⟨_,rfl,bT (λh=>k.aA (Hj _ _ _ d) ?_) (λh=>fin _ ?_ k)⟩
  .rintro _ K rfl H;exact⟨_,rfl,fin _ (by rw[q,h];rfl) H⟩
  .rw [q,h];rfl
 refine aP (λC=>plain 1 ?_) (λC=>aP (λD=>plain 0 ?_) (λD=>aP (λE=>array 1 ?_) (λE=>aP (λF=>array 0 ?_) (λF=>fin _ ?_ A))))
 .unfold cv;simp[C]
 .unfold cv;simp[D]
 .unfold cv;simp[E,Bool.and_assoc]
 .unfold cv;simp[F,Bool.and_assoc]
 .unfold cv;simp[C,D,E,F]
section
variable {M:Nat->Prop} {w0 w:J} {L D:List En} {U:List Nat}
def xa(w:J)(h:Nat)(vs:List aa)(ty:aE)(b:Nat):¬(En.c h vs ty).P ({w with heap:=Array.replicate (b+1) (.map #[] 0)}):=by intro d;have d:({w with heap:=Array.replicate (b+1) (.map #[] 0)}:J).heap[h]? =some (.cells vs.toArray ty (0,0)):=d;simp[Array.getElem?_replicate]at d
def qx{d:Nat}{vs:List aa}{ty:aE}{b:Nat}:b∈(En.c d vs ty).fp↔b=d:=by simp[En.c,En.ob]
def _root_.Go.W.LH.Ce{j:Nat}{vs:List aa}{ty:aE}(H:LH M w0 w (.c j vs ty::L) D){Y:J}(f:Fr (·=j) w Y){y:List aa}(h:Y.heap[j]? =some (.cells y.toArray ty (0,0))):
  LH M w0 Y (.c j y ty::L) D/\∀e:En,e.P Y->(∀b∈e.fp,w.heap.size<=b)->LH M w0 Y (.c j y ty::L) (D++[e]):=by
 have k:LH M w0 Y (.c j y ty::L) D:=H.ZL 0 f h;refine⟨k,λe C E=>⟨k.fr,k.own,λz d=>?_,k.new,k.nd,λz d b B A x q=>?_⟩⟩
 .rcases aX.1 d with d|d
  .exact k.rd z d
  .simp at d;subst d;exact C
 .rcases aX.1 d with d|d
  .exact k.dj z d b B A x q
  .simp at d;subst d;have F:=E b B;have G:b<w.heap.size:=by
    rcases aq.1 x with rfl|x
    .have q:=qx.1 q;have:=(En.c j vs ty).lt w (H.get 0) j (qx.2 rfl);omega
    .exact A.lt w (H.own A (e6 _ x)) b q
   omega
def _root_.Go.W.LH.r1{h:Nat}{vs:List aa}{ty:aE}(H:LH M w0 w (.c h vs ty::L) D){P:aJ}{g:FuncId}{args:Array aa}{A:aK}{j:List aa}{K:aK}(x:ai P g args w λr d=>(A r d/\d.heap[h]? =some (.cells j.toArray ty (0,0)))/\Fr (·=h) w d)(y:∀r d,A r d->LH M w0 d (.c h j ty::L) D->(∀e:En,e.P d->(∀b∈e.fp,w.heap.size<=b)->LH M w0 d (.c h j ty::L) (D++[e]))->K r d):ai P g args w K:=
 x.mono λr d ⟨⟨q,k⟩,f⟩=>y r d q (H.Ce f k).1 (H.Ce f k).2
def _root_.Go.W.LH.iZ{h:Nat}{vs:List aa}{ty:aE}(H:LH M w0 w (.c h vs ty::L) D){P:aJ}{g:FuncId}{args:Array aa}{A:aK}{j:List aa}{K:aK}(y:ai P g args w λr d=>(A r d/\d.heap[h]? =some (.cells j.toArray ty (0,0)))/\Fr (·=h) w d)(z:∀r d,A r d->LH M w0 d (.c h j ty::L) D->(∀e:En,e.P d->(∀b∈e.fp,w.heap.size<=b)->LH M w0 d (.c h j ty::L) (D++[e]))->K r d)(bG:∀b∈U,En.g b∈(En.c h vs ty::L):=by simp):ep U P g args w K:=
 ⟨(·=h),λb x B=>ou H (i:=0) rfl (xa w h vs ty) (bG b x) (by rw[B];exact qx.2 rfl),y.mono λr d ⟨⟨q,k⟩,f⟩=>⟨f,z r d q (H.Ce f k).1 (H.Ce f k).2⟩⟩
end
def gZ{s:ByteArray}{i:Nat}(h:i<s.size):s[i]? =some (gQ (bl s) i):=by rw[getElem?_pos s i h];unfold gQ;rw[List.getD_eq_getElem?_getD,a' (show i<(bl s).length by rw[dY];exact h)];rfl
def zc{x:UInt8}{n:Nat}{A B:Prop}(k:n<256)(h:(x==db n)=true->A)(j:(x==db n)=false->B):bA ((x.toNat:Int)==(n:Int)) A B:=by
 have e:x.toNat=n↔x=db n:=by rw[<-UInt8.toNat_inj,UInt8.toNat_ofNat'];omega
 refine aP (λd=>h (by grind)) (λd=>j (by grind))
def zb{x:UInt8}{n:Nat}{A B:Prop}(k:n<256)(h:(x==db n)=false->A)(j:(x==db n)=true->B):bA ((x.toNat:Int) !=(n:Int)) A B:=by
 have e:x.toNat=n↔x=db n:=by rw[<-UInt8.toNat_inj,UInt8.toNat_ofNat'];omega
 refine dA (λd=>h (by grind)) (λd=>j (by grind))
def Jg{p:UInt8->Prop}(h:∀d:Fin 256,p (db d.val))(c:UInt8):p c:=by have:=h ⟨c.toNat,c.toNat_lt⟩;simpa using this
def aaf:∀n:Fin 16,(bn #[48,49,50,51,52,53,54,55,56,57,97,98,99,100,101,102])[n.val]? =some (i2 n.val):=by decide+kernel
def D5(n:Nat)(h:n<16)(w:J):ai V Ov #[.i (n:Int)] w λr d=>r=ae (.int .u8 ((i2 n).toNat:Int))/\af w d:=
 Lb.ok ⟨co,_,aaf ⟨n,h⟩,rfl,Fr.refl _ _⟩
def J1(c:UInt8)(w:J):ai V OC #[.int .u8 (c.toNat:Int)] w λr q=>r=ae (.bool (oG c))/\af w q:=by
 refine Lf.ok (aF (λj=>aF (λk=>zb (n:=39) co (λd=>⟨?_,Fr.refl _ _⟩) (λd=>⟨?_,Fr.refl _ _⟩)) (λk=>⟨?_,Fr.refl _ _⟩)) (λj=>⟨?_,Fr.refl _ _⟩))
 .have e:((c.toNat:Int) !=92)= !(c==92):=by
   have:=@zb c 92 ((((c.toNat:Int) !=92)=true)/\(c==92)=false) ((((c.toNat:Int) !=92)=false)/\(c==92)=true);cases x:((c.toNat:Int) !=92)with
   |true=>
    have h:c≠92:=λe=>by subst e;grind
    grind
   |false=>
    have h:c=92:=by
     rw[<-UInt8.toNat_inj]
     grind
    grind
  rw[e];unfold oG
  grind
 .have d:(c==39)=true:=d;unfold oG
  grind
 .unfold oG
  grind
 .unfold oG
  grind
def adz:∀n:Fin 16,i' (i2 n.val)=(n.val:Int):=by decide+kernel
def adB:∀d:Fin 256,i' (db d.val)=-1\/∃n:Fin 16,i2 n.val=db d.val:=by decide+kernel
def adA:∀d:Fin 256,i' (db d.val)<16:=by decide+kernel
def zP(c:UInt8)(w:J):ai V OB #[.int .u8 (c.toNat:Int)] w λr k=>r=ae (.int .i64 (i' c))/\af w k:=by
 have loop:∀(d i:Nat) (h:J),i+d=16->(∀j,j<i->i2 j≠c)->af w h->xB.L0 c.toNat (i:Int) h λr k=>r=ae (.int .i64 (i' c))/\af w k:=by
  intro d;induction d with
  |zero=>
   intro i h y z f;refine xB.bE (aN (aW co) ⟨?_,f⟩);have:=Jg (p:=λc=>i' c=-1\/∃n:Fin 16,i2 n.val=c) adB c
   grind
  |succ d A=>
   intro i h y z f;refine xB.bE (aM (aR co) ((D5 i co h).mono ?_));rintro _ B ⟨rfl,q⟩;refine⟨_,rfl,aP (λx=>⟨?_,f.dO q⟩) (λx=>?_)⟩
   .have e:i2 i=c:=by rw[<-UInt8.toNat_inj];omega
    have:=adz ⟨i,co⟩
    grind
   .rw [bc _ co];refine A (i+1) B co (λj C=>?_) (f.dO q)
    grind
 exact xB.ok (loop 16 0 w co (λj x=>co) (Fr.refl _ _))
def Bi(x:UInt8×Nat):bW:=ae (.tuple #[.int .u8 (x.1.toNat:Int),.i (x.2:Int)])
def adC:∀d h:Fin 16,aj .u8 (aj .i64 ((aj .i64 (16 *(d.val:Int)))+(h.val:Int)))=((db ((16 *(d.val:Int)+(h.val:Int)).toNat)).toNat:Int):=by decide+kernel
def RY{c:UInt8}(h:0<=i' c):∃d:Fin 16,i' c=(d.val:Int):=by have:=Jg (p:=λc=>i' c<16) adA c;exact⟨⟨(i' c).toNat,co⟩,by grind⟩
def D4(s:ByteArray)(i:Nat)(hi:i<=1000000)(w:J):ai V Ou #[.string s,.i (i:Int)] w λr d=>r=Bi (h' (bl s) i)/\af w d:=by
 have y:aj .i64 ((i:Int)+1)=((i+1:Nat):Int):=by rw[aQ _ co];omega
 have z:aj .i64 ((i:Int)+2)=((i+2:Nat):Int):=by rw[aQ _ co];omega
 have A:aj .i64 ((i:Int)+3)=((i+3:Nat):Int):=by rw[aQ _ co];omega
 have F:aj .i64 ((i:Int)+4)=((i+4:Nat):Int):=by rw[aQ _ co];omega
 have U:(bl s).length=s.size:=dY s;have no:∀d,af w d->h' (bl s) i=(0,0)->xA.S1 d (λr d=>r=Bi (h' (bl s) i)/\af w d):=λd f C=>⟨by rw[C];rfl,f⟩;have st:∀d,af w d->(av (i+3<=(bl s).length)&&gQ (bl s) i==39&&gQ (bl s) (i+2)==39&&oG (gQ (bl s) (i+1)))=false->xA.S0 s (i:Int) d (λr d=>r=Bi (h' (bl s) i)/\af w d):=by
  intro d f W;have E:(av (i+4<=(bl s).length)&&gQ (bl s) i==92&&gQ (bl s) (i+1)==120&&av (0<=i' (gQ (bl s) (i+2)))&&av (0<=i' (gQ (bl s) (i+3))))=false->∀d,af w d->xA.S1 d (λr d=>r=Bi (h' (bl s) i)/\af w d):=λC d f=>no d f (by
   unfold h'
   grind)
  show bA _ _ _;rw[F,A,z,y];refine aF (λM=>⟨co,_,gZ (i:=i) co,zc (n:=92) co (λh=>⟨co,_,gZ (i:=i+1) co,zc (n:=120) co (λj=>⟨co,_,gZ (i:=i+2) co,(zP _ d).mono ?_⟩) (λj=>?_)⟩) (λh=>?_)⟩) (λM=>?_)
  rotate_left
  .grind
  .grind
  .grind
  rintro _ q ⟨rfl,k⟩;refine⟨_,rfl,aF (λN=>⟨co,_,gZ (i:=i+3) co,(zP _ q).mono ?_⟩) (λN=>E (by grind) q (f.dO k))⟩;rintro _ x ⟨rfl,B⟩;refine⟨_,rfl,aF (λP=>?_) (λP=>E (by grind) x ((f.dO k).dO B))⟩;have H:af w x.drew:=((f.dO k).dO B).dO (Fr.drew _ _);refine(show mF x _ from ?_);refine⟨co,_,gZ (i:=i+2) co,co,_,gZ (i:=i+3) co,(zP _ _).mono ?_⟩;rintro _ Y ⟨rfl,I⟩;refine⟨_,rfl,(zP _ _).mono ?_⟩;rintro _ Z ⟨rfl,K⟩;refine⟨_,rfl,?_,(H.dO I).dO K⟩;have h:(gQ (bl s) i==92)=true:=h;have j:(gQ (bl s) (i+1)==120)=true:=j;have G:h' (bl s) i=(db ((16 *i' (gQ (bl s) (i+2))+i' (gQ (bl s) (i+3))).toNat),4):=by
   unfold h'
   grind
  rw[G];obtain⟨S,O⟩:=RY (c:=gQ (bl s) (i+2)) co;obtain⟨T,Q⟩:=RY (c:=gQ (bl s) (i+3)) co;rw[O,Q,adC S T];rfl
 refine xA.ok ?_;rw[A,z,y];refine aF (λL=>⟨co,_,gZ (i:=i) co,zc (n:=39) co (λh=>⟨co,_,gZ (i:=i+2) co,zc (n:=39) co (λj=>⟨co,_,gZ (i:=i+1) co,(J1 _ w).mono ?_⟩) (λj=>?_)⟩) (λh=>?_)⟩) (λL=>?_)
 rotate_left
 .exact st w (Fr.refl _ _) (by grind)
 .exact st w (Fr.refl _ _) (by grind)
 .exact st w (Fr.refl _ _) (by grind)
 rintro _ q ⟨rfl,k⟩;refine⟨_,rfl,bT (λD=>⟨co,_,gZ (i:=i+1) co,?_,k⟩) (λD=>st q k (by grind))⟩;have h:(gQ (bl s) i==39)=true:=h;have j:(gQ (bl s) (i+2)==39)=true:=j;unfold h';rw[h,j,D,aR (show i+3<=(bl s).length by omega)];rfl
def DN(s:BL)(i:Nat):(h' s i).2<=4/\(0<(h' s i).2->i+(h' s i).2<=s.length):=by
 unfold h'
 grind
def HC(g:Dn):bW:=ae (.tuple #[.agg #[.i (g.k:Int),.int .u8 (g.lo.toNat:Int),.int .u8 (g.hi.toNat:Int),.slice none 0 0],.i (g.n:Int)])
def Tm(s:BL)(i:Nat):i+(kz s i).n<=s.length\/(kz s i).n=0:=by
 unfold kz;simp only;have d:=DN s i;split
 .grind
 .split
  .exact .inr rfl
  .split
   .exact .inr rfl
   .split
    .exact .inr rfl
    grind
def Zr(s:ByteArray)(Z:s.size<=100000)(i:Nat)(hi:i<s.size)(w:J):ai V OE #[.string s,.i (i:Int)] w λr Y=>r=HC (kz (bl s) i)/\af w Y:=by
 have W:(bl s).length=s.size:=dY s;refine uO.aC ((bK [] ws).aH λb T H=>H.aA (D4 s i co T) ?_);rintro _ U rfl C;refine⟨_,_,rfl,aF (λQ=>C.ah λh d=>⟨?_,d.fr⟩) (λQ=>⟨co,_,gZ (i:=i) hi,zb (n:=91) co (λj=>C.ah λh d=>⟨?_,d.fr⟩) (λj=>?_)⟩)⟩
 .unfold kz;simp only;rw[au co];rfl
 .have j:(gQ (bl s) i==91)=false:=j;unfold kz;simp only;rw[ag co,au (beq_eq_false_iff_ne.1 j)];rfl
 have j:gQ (bl s) i=91:=eq_of_beq j;rw[bc _ co];refine C.aA (D4 s (i+1) co U) ?_;rintro _ h rfl d;have K:=DN (bl s) (i+1);have bad:∀(Y:J),LH F0 w Y [.g b] []->kz (bl s) i=sO->uO.b3 b 0 0 0 ⟨none,0,0⟩ Y λr Y=>r=HC (kz (bl s) i)/\af w Y:=λY A F=>A.ah λS B=>⟨by rw[F];rfl,B.fr⟩;have y:∀(Y:J),LH F0 w Y [.g b] []->kz (bl s) i=sO->uO.dc b 0 0 0 ⟨none,0,0⟩ Y λr Y=>r=HC (kz (bl s) i)/\af w Y:=λY A F=>A.ah λS B=>⟨by rw[F];rfl,B.fr⟩;have q:kz (bl s) i=(let a:=h' (bl s) (i+1)
   let dash:=i+1+a.2
   if a.2=0\/(bl s).length<=dash\/gQ (bl s) dash≠45 then sO else
   let c:=h' (bl s) (dash+1)
   let fin:=dash+1+c.2
   if c.2=0\/(bl s).length<=fin\/gQ (bl s) fin≠93\/c.1.toNat<a.1.toNat then sO else⟨2,a.1,c.1,fin+1 - i⟩):=by
  conv=>lhs;unfold kz
  grind
 simp only at q;generalize h' (bl s) (i+1)=a at K q;refine⟨_,_,rfl,?_⟩;have N:aj .i64 (((i+1:Nat):Int)+(a.2:Int))=((i+1+a.2:Nat):Int):=by rw[aQ _ co];omega
 show uO.bt s (i:Int) b 0 0 0 ⟨none,0,0⟩ (a.1.toNat:Int) (a.2:Int) (aj .i64 (((i+1:Nat):Int)+(a.2:Int))) h _;rw[N];refine aP (λD=>bad h d (by grind)) (λD=>aF (λE=>bad h d (by grind)) (λE=>⟨co,_,gZ (i:=i+1+a.2) co,zb (n:=45) co (λz=>bad h d (by grind)) (λz=>?_)⟩));have z:gQ (bl s) (i+1+a.2)=45:=eq_of_beq z;rw[ag (by grind)]at q;rw[bc _ co];refine d.aA (D4 s (i+1+a.2+1) co h) ?_;rintro _ x rfl k;have L:=DN (bl s) (i+1+a.2+1);generalize h' (bl s) (i+1+a.2+1)=c at L q;refine⟨_,_,rfl,?_⟩;have P:aj .i64 (((i+1+a.2+1:Nat):Int)+(c.2:Int))=((i+1+a.2+1+c.2:Nat):Int):=by rw[aQ _ co];omega
 show uO.cd s (i:Int) b 0 0 0 ⟨none,0,0⟩ (a.1.toNat:Int) (c.1.toNat:Int) (c.2:Int) (aj .i64 (((i+1+a.2+1:Nat):Int)+(c.2:Int))) x _;rw[P];refine aP (λD=>y x k (by grind)) (λD=>aF (λE=>y x k (by grind)) (λE=>⟨co,_,gZ (i:=i+1+a.2+1+c.2) co,zb (n:=93) co (λz=>y x k (by grind)) (λG=>aF (λM=>y x k (by grind)) (λM=>k.ah λw5 I=>⟨?_,I.fr⟩))⟩));have G:gQ (bl s) (i+1+a.2+1+c.2)=93:=eq_of_beq G;rw[q,ag (by grind)];have O:aj .i64 ((aj .i64 (((i+1+a.2+1+c.2:Nat):Int)+1)) - (i:Int))=((i+1+a.2+1+c.2+1 - i:Nat):Int):=by rw[bc _ co,aQ _ co];omega
 rw[O];rfl
def dX.c(t:dX):List aa:=[.string (ba t.tx),.i (t.at_:Int),.i (t.k:Int),.int .u8 (t.lo.toNat:Int),.int .u8 (t.hi.toNat:Int),.slice none 0 0]
def Wr(t:dX):t.c.length=6:=rfl
def Ws(l:List dX)(t:dX):l.flatMap dX.c++t.c=(l++[t]).flatMap dX.c:=ws
def y5{w:J}{s:Sl}{l:List dX}(h:bN 6 w s (l.flatMap dX.c)):s.n=l.length:=by have:=h.1;rw[qE dX.c 6 Wr]at this;omega
def KR:g7 V B' p9 (.agg #[.s0,.i 0,.i 0,.int .u8 0,.int .u8 0,.slice none 0 0]) 6 64:=⟨by kernel_rfl,by kernel_rfl,rfl,md,md⟩
def Ja(w:J)(l:List dX)(r:bW)(Y:J):Prop:=∃d:Sl,r=ae d.v/\aG Y p9 6 d (l.flatMap dX.c)/\∀h∈az d,w.heap.size<=h
def Yi(s:ByteArray)(i j:Nat):s.extract i j=ba (((bl s).take j).drop i):=by
 have:bl (s.extract i j)=((bl s).take j).drop i:=by unfold bl;rw[ByteArray.data_extract,Array.toList_extract,List.extract_eq_take_drop];rw[List.drop_take]
 rw[<-this,jt]
def NH(c:UInt8){A B:Prop}(h:eW c=true->A)(d:eW c=false->B):bA (av ((c.toNat:Int)>=97)) (bA (av ((c.toNat:Int)<=122)) A B) B:=
 aF (λj=>aF (λk=>h (by unfold eW;grind)) (λk=>d (by unfold eW;grind))) (λj=>d (by unfold eW;grind))
def Uv(s:BL)(i:Nat):∀(f n:Nat),i+n<=s.length->n<=oQ s i f n/\i+oQ s i f n<=s.length
 |0,n,d=>⟨br _,d⟩
 |f+1,n,d=>by
  unfold oQ;split
  .rename_i h;simp only[bH,decide_eq_true_eq]at h;have:=Uv s i f (n+1) co;omega
  omega
def Y0(s:ByteArray)(hs:s.size<=100000)(w:J):ai V Oq #[.string s] w λr F=>Ja w (nO (bl s)) r F/\af w F:=by
 have hl:(bl s).length=s.size:=dY s
 let j:aK:=λr F=>Ja w (nO (bl s)) r F/\af w F
 have fin:∀(acc:List dX) (sl:Sl) (q:J),acc.length<=s.size->nO (bl s)=acc++[⟨[],(bl s).length,0,0,0⟩]->LH F0 w q [.row p9 6 sl (acc.flatMap dX.c)] []->
   dG q (.cells #[.s0,.i (s.size:Int),.i 0,.int .u8 0,.int .u8 0,.slice none 0 0] p9) λw7=>
 ∃(t81:Sl) (U:J),gx V (eA #[B',B'] B' #[sl.v,.slice (some (nb q)) 1 1]) w7=.ok (t81.v) U/\j (ae (t81.v)) U:=by intro acc sl q ha h A;have ab:=y5 (A.get 0:aG _ _ _ _ _).bf;refine A.uf 0 KR rfl (λN w2 D _ _=>⟨⟨N,rfl,?_,λac hx=>(D.new _ (aD (i:=0) rfl) ac hx).resolve_right id⟩,D.fr⟩) co;rw[h,<-Ws];exact D.get 0
 have loop:∀(f i:Nat) (acc:List dX) (sl:Sl) (q:J),s.size<f+i->i<=s.size->acc.length<=i->nO (bl s)=acc++pY (bl s) f i->LH F0 w q [.row p9 6 sl (acc.flatMap dX.c)] []->kg.a6 s sl (i:Int) q j:=by
  intro f;induction f with
  |zero=>omega
  |succ f Q=>
   intro i acc sl q hf ak ad h A;refine kg.bD (aF (λZ=>⟨co,_,gZ (i:=i) co,?_⟩) (λZ=>fin acc sl q co (by rw[h];unfold pY;grind) A))
   unfold pY at h;rw[ag co]at h;refine zc (n:=32) co (λz=>?_) (λz=>?_)
   .have z:gQ (bl s) i=32:=eq_of_beq z;rw[au z]at h;rw[bc _ co];exact Q (i+1) acc sl q co co co h A
   have z:gQ (bl s) i≠32:=beq_eq_false_iff_ne.1 z;rw[ag z]at h;simp only at h;refine A.call (Zr s hs i co q) ?_;rintro _ w2 rfl D;have B:=Tm (bl s) i;generalize kz (bl s) i=g at h B;refine⟨_,_,_,⟨none,0,0⟩,_,rfl,D.aH λb w3 G=>?_⟩;have G:LH F0 w w3 [.row p9 6 sl (acc.flatMap dX.c),.g b] []:=G;have one:∀(n:Nat) (C:J),1<=n->i+n<=s.size->nO (bl s)=acc++⟨((bl s).take (i+n)).drop i,i,g.k,g.lo,g.hi⟩::pY (bl s) f (i+n)->LH F0 w C [.row p9 6 sl (acc.flatMap dX.c),.g b] []->
     kg.cd s sl (i:Int) b (g.k:Int) (g.lo.toNat:Int) (g.hi.toNat:Int) ⟨none,0,0⟩ (n:Int) C j:=by
    intro n C K I P H;show(0:Int)<=_/\_;have E:aj .i64 ((i:Int)+(n:Int))=((i+n:Nat):Int):=by rw[aQ _ co];omega
    rw[E,bB,bB,Yi];refine⟨co,co,co,co,H.ah λd x=>?_⟩;have ab:=y5 (x.get 0:aG _ _ _ _ _).bf;refine x.iD 0 KR rfl (λN w6 W=>?_) co;refine Q (i+n) (acc++[⟨((bl s).take (i+n)).drop i,i,g.k,g.lo,g.hi⟩]) N w6 co co (by grind) (by grind) ?_;rw[<-Ws];exact W.take 1
   refine aP (λL=>G.ah λC H=>?_) (λL=>G.ah λC H=>one g.n C co co (by grind) H);have L:g.n=0:=co
   rw[au L]at h;have word:∀(e n:Nat) (d:J),s.size<=e+(i+n)->1<=n->i+n<=s.size->oQ (bl s) i (bl s).length 1=oQ (bl s) i e n->LH F0 w d [.row p9 6 sl (acc.flatMap dX.c),.g b] []->
     kg.cy s sl (i:Int) b (g.k:Int) (g.lo.toNat:Int) (g.hi.toNat:Int) ⟨none,0,0⟩ (n:Int) d j:=by
    intro e;induction e with
    |zero=>
     intro n d P K I B x;have stop:kg.cd s sl (i:Int) b (g.k:Int) (g.lo.toNat:Int) (g.hi.toNat:Int) ⟨none,0,0⟩ (n:Int) d j:=one n d K I (by rw[h,B];rfl) x;have E:aj .i64 ((i:Int)+(n:Int))=((i+n:Nat):Int):=by rw[aQ _ co];omega
     refine kg.dH ?_;rw[E];refine⟨co,_,gZ (i:=i) co,bT (λ_=>⟨co,_,gZ (i:=i) co,bT (λ_=>aN (aW co) stop) (λ_=>stop)⟩) (λ_=>stop)⟩
    |succ e aa=>
     intro n d P K I B x;have E:aj .i64 ((i:Int)+(n:Int))=((i+n:Nat):Int):=by rw[aQ _ co];omega
     have stop:(eW (gQ (bl s) i)&&av (i+n<(bl s).length)&&eW (gQ (bl s) (i+n)))=false->kg.cd s sl (i:Int) b (g.k:Int) (g.lo.toNat:Int) (g.hi.toNat:Int) ⟨none,0,0⟩ (n:Int) d j:=λy=>one n d K I (by
      rw[h,B];conv=>lhs;unfold oQ
      rw[y];rfl) x
     refine kg.dH ?_;rw[E];refine⟨co,_,gZ (i:=i) co,?_⟩;have go:eW (gQ (bl s) i)=true->bA (av (((i+n:Nat):Int)<(s.size:Int))) ((0:Int)<=((i+n:Nat):Int)/\∃S:UInt8,s[a0 ((i+n:Nat):Int)]? =some S/\bA (av ((S.toNat:Int)>=97)) ((0:Int)<=((i+n:Nat):Int)/\∃T:UInt8,s[a0 ((i+n:Nat):Int)]? =some T/\bA (av ((T.toNat:Int)<=122)) (kg.cy s sl (i:Int) b (g.k:Int) (g.lo.toNat:Int) (g.hi.toNat:Int) ⟨none,0,0⟩ (aj .i64 ((n:Int)+1)) d j) (kg.cd s sl (i:Int) b (g.k:Int) (g.lo.toNat:Int) (g.hi.toNat:Int) ⟨none,0,0⟩ (n:Int) d j)) (kg.cd s sl (i:Int) b (g.k:Int) (g.lo.toNat:Int) (g.hi.toNat:Int) ⟨none,0,0⟩ (n:Int) d j)) (kg.cd s sl (i:Int) b (g.k:Int) (g.lo.toNat:Int) (g.hi.toNat:Int) ⟨none,0,0⟩ (n:Int) d j):=by
      intro h1;refine aF (λY=>⟨co,_,gZ (i:=i+n) co,?_⟩) (λY=>stop (by grind));have key:eW (gQ (bl s) (i+n))=true->kg.cy s sl (i:Int) b (g.k:Int) (g.lo.toNat:Int) (g.hi.toNat:Int) ⟨none,0,0⟩ (aj .i64 ((n:Int)+1)) d j:=λO=>by
       rw[bc _ co];refine aa (n+1) d co co co ?_ x;rw[B];conv=>lhs;unfold oQ
       grind
      have M:eW (gQ (bl s) (i+n))=false->_:=λO=>stop (by grind);have y:=NH (gQ (bl s) (i+n)) key M;exact UK y (λy=>⟨co,_,gZ (i:=i+n) co,y⟩) id
     have M:eW (gQ (bl s) i)=false->_:=λO=>stop (by grind);exact UK (NH (gQ (bl s) i) go M) (λy=>⟨co,_,gZ (i:=i) co,y⟩) id
   grind
 refine kg.aC ?_;exact loop (s.size+1) 0 [] ⟨none,0,0⟩ w co co ws (by unfold nO;grind) ((bK [] ws).fY p9 6)
abbrev Tn(s:Sl)(st:bY):List aa:=[s.v,.i (st.1:Int),.bool st.2]
abbrev di(d:Nat)(s:Sl)(st:bY):En:=.c d (Tn s st) Wy
abbrev dq(s:Sl)(l:List dX):En:=.bf 6 s (l.flatMap dX.c)
abbrev SA(h:Nat)(s:Sl)(w:J)(A:aK)(st:bY):aK:=λr d=>(A r d/\d.heap[h]? =some (.cells (Tn s st).toArray Wy (0,0)))/\Fr (·=h) w d
abbrev jm(d:Nat)(s:Sl)(l:List dX)(st:bY)(w:J):Prop:=LH (·=d) w w [di d s st] [dq s l]
def _root_.Go.W.LH.gG{M:Nat->Prop}{w0 w:J}{L D:List En}{j:Nat}{s:Sl}{l:List dX}{st:bY}(H:LH M w0 w (di j s st::L) (dq s l::D)):jm j s l st w:=
 LH.th _ _ (by
  intro e d;simp only[aq,aL,aO]at d;subst d;exact⟨H.get 0,λb h=>qx.1 h⟩) (by
  simp only[List.flatMap_cons,List.flatMap_nil,List.append_nil];exact(di j s st).nd) (by
  intro e d;simp only[aq,aL,aO]at d;subst d;exact⟨H.getD 0,λb h q k=>by simp only[aq,aL,aO]at k;subst k;exact H.dj _ oL b h _ oL⟩)
structure Jc(w:J)(p:Addr)(i:Nat)(t:dX):Prop where
 c0:w.cell? ((p.add (i *6)).add 0)=some (.string (ba t.tx))
 c1:w.cell? ((p.add (i *6)).add 1)=some (.i (t.at_:Int))
 c2:w.cell? ((p.add (i *6)).add 2)=some (.i (t.k:Int))
 c3:w.cell? ((p.add (i *6)).add 3)=some (.int .u8 (t.lo.toNat:Int))
 c4:w.cell? ((p.add (i *6)).add 4)=some (.int .u8 (t.hi.toNat:Int))
 c5:w.cell? ((p.add (i *6)).add 5)=some (.slice none 0 0)
def y6{w:J}{s:Sl}{l:List dX}(h:bN 6 w s (l.flatMap dX.c)){i:Nat}(hi:i<l.length){K:Addr->Prop}(k:∀p,s.a=some p->Jc w p i (gi l i)->K p):eh s.a K:=by
 have j:l[i]? =some (gi l i):=by unfold gi;rw[List.getD_eq_getElem?_getD,a' hi];rfl
 exact fN.elem (f:=dX.c) (sz:=6) Wr co h.2.2 j λp q d=>k p q ⟨d 0 _ rfl,d 1 _ rfl,d 2 _ rfl,d 3 _ rfl,d 4 _ rfl,d 5 _ rfl⟩
def jM(l:List dX):Prop:=0<l.length/\(gi l (l.length - 1)).tx=[]/\(gi l (l.length - 1)).k=0
section
variable {pb:Nat} {s:Sl} {l:List dX} {st:bY} {w:J}
def D6(H:jm pb s l st w)(hi:st.1<l.length):ai V OH #[.pointer (some (ab pb))] w λr x=>r=ae (.string (ba (fG l st)))/\af w x:=by
 have q:st.2=true->fG l st=[32]:=λh=>by unfold fG;rw[h];rfl
 have k:st.2=false->fG l st=(gi l st.1).tx:=λh=>by unfold fG;rw[h];rfl
 generalize fG l st=u at q k;refine Li.ok ⟨st.2,H.ld 0 2,bT (λj=>⟨?_,Fr.refl _ _⟩) (λj=>?_)⟩
 .rw [q j];rfl
 rw[k j];have d:LH (·=pb) w w.drew [di pb s st] [dq s l]:=H.drew;have y:=y5 (d.getD 0:bN _ _ _ _);refine⟨s,d.ld 0 0,_,d.ld 0 1,co,co,y6 (d.getD 0) hi λp z c=>⟨ba (gi l st.1).tx,?_,rfl,Fr.drew _ _⟩⟩;rw[bB];exact c.c0
def ui(a b:BL):((ba a).toList==(ba b).toList)=(a==b):=by rw[ByteArray.toList_eq,ByteArray.toList_eq];rfl
def Nk(j:jM l)(hi:st.1<l.length)(k:fG l st≠[])(h:st.2=false):st.1+1<l.length:=by
 rcases Nat.lt_or_ge (st.1+1) l.length with d|d
 .exact d
 .exfalso;apply k;have e:st.1=l.length - 1:=co
  unfold fG;rw[h,e];exact j.2.1
def tn(q:jM l)(hi:st.1<l.length)(u:BL)(w:u≠[32]):(fg l u st).2.1<l.length:=by
 unfold fg;cases d:fG l st==u with
 |false=>exact hi
 |true=>
  have d:=eq_of_beq d;cases k:u.isEmpty with
  |true=>exact hi
  |false=>
   show st.1+1<l.length;refine Nk q hi (λh=>?_) ?_
   .rw [h]at d;subst d;cases k
   .cases j:st.2 with
    |false=>rfl
    |true=>
     exfalso;apply w;rw[<-d];unfold fG;rw[j];rfl
def rZ(H:jm pb s l st w)(hi:st.1<l.length)(x:l.length<=1000000)(u:BL):ai V OI #[.pointer (some (ab pb)),.string (ba u)] w (SA pb s w (λr _=>r=ae (.bool (fg l u st).1)) (fg l u st).2):=by
 refine Lj.ok (H.call (D6 H hi) ?_);rintro _ y rfl h;refine⟨_,rfl,?_⟩;try dsimp only
 rw[ui];have q:((ba u).toList==(bn #[]).toList)=u.isEmpty:=by have:bn #[]=ba []:=rfl;rw[this,ui];cases u<;>rfl
 rw[q];refine eb (λd=>⟨⟨?_,?_⟩,h.fr⟩) (λd=>eb (λj=>⟨_,h.ld 0 1,?_⟩) (λj=>⟨⟨?_,?_⟩,h.fr⟩))
 .unfold fg;rw[d];rfl
 .have:(fg l u st).2=st:=by unfold fg;rw[d];rfl
  rw[this];exact h.get 0
 .rw [bc _ co];refine h.st 0 1 rfl λz k=>⟨⟨?_,?_⟩,k.fr⟩
  .unfold fg;rw[d];rfl
  .have:(fg l u st).2=(st.1+1,st.2):=by unfold fg;rw[d,j];rfl
   rw[this];exact k.get 0
 .unfold fg;rw[d];rfl
 .have:(fg l u st).2=st:=by unfold fg;rw[d,j];rfl
  rw[this];exact h.get 0
def RG(u:BL):k4 l u st=bif (fg l u st).1 then(fg l u st).2 else((fg l u st).2.1,true):=by unfold k4;generalize fg l u st=x;obtain⟨b,d⟩:=x;cases b<;>rfl
def yj(d:jM l)(hi:st.1<l.length)(u:BL)(h:u≠[32]):(k4 l u st).1<l.length:=by rw[RG];have:=tn d hi u h;cases(fg l u st).1<;>exact this
def w9(H:jm pb s l st w)(hi:st.1<l.length)(k:l.length<=1000000)(u:BL):ai V OG #[.pointer (some (ab pb)),.string (ba u)] w (SA pb s w (λr _=>r=ae (.tuple #[])) (k4 l u st)):=by
 refine Lh.ok (H.r1 (rZ H hi k u) ?_);rintro _ q rfl d _;rw[RG];refine⟨_,rfl,eb (λh=>d.st 0 2 rfl λx j=>⟨⟨rfl,?_⟩,j.fr⟩) (λh=>⟨⟨rfl,?_⟩,d.fr⟩)⟩
 .rw [h];exact j.get 0
 .rw [h];exact d.get 0
def Y2(H:jm pb s l st w)(hi:st.1<l.length):ai V OF #[.pointer (some (ab pb))] w λr z=>r=ae (.bool (zK l st))/\af w z:=by refine Lg.ok ((D6 H hi).mono ?_);rintro _ A ⟨rfl,d⟩;have h:=H.bz d;refine⟨_,rfl,st.2,h.ld 0 2,?_⟩;have e:∀u:List UInt8,((ba (fG l st)).toList==(ba u).toList)=(fG l st==u):=λu=>ui _ _;have j:=e [];have k:=e [41];have q:=e [44];have x:=e [124];have y:=e [38];unfold zK;show bA _ (bA (!((ba (fG l st)).toList==(ba []).toList)) (bA (!((ba (fG l st)).toList==(ba [41]).toList)) (bA (!((ba (fG l st)).toList==(ba [44]).toList)) (bA (!((ba (fG l st)).toList==(ba [124]).toList)) (Ending.returned (.bool (!((ba (fG l st)).toList==(ba [38]).toList)))=_/\af w A) _) _) _) _) _;rw[j,k,q,x,y];cases st.2<;>cases fG l st==[]<;>cases fG l st==[41]<;>cases fG l st==[44]<;>cases fG l st==[124]<;>first |exact⟨rfl,d⟩|skip
end
def DX(k:Int)(s:Sl)(l:List I)(w:J)(h:(bZ s l).P w):ai V yc #[.i k,s.v] w λr z=>gO (bZ s l).fp w (so k (I.aw l)) r z/\af w z:=by
 have d:=I.cI (dT.1 h).1;refine Ld.aC ((hj h).aH λb B q=>aP (λA=>?_) (λA=>q.ah λy j=>⟨⟨.mk k 0 0 s l,rfl,?_,?_,λb x=>.inr x⟩,j.fr⟩))
 .match l,d with
  |[],d=>simp at d;omega
  |a::b::m,d=>simp at d;omega
  |[a],d=>
   refine⟨co,co,I.dE (dT.1 (show(bZ s [a]).P B from q.getD 0)).1 (i:=0) rfl λp C c=>⟨_,_,_,_,c.c0,c.c1,c.c2,c.c3,q.ah λy j=>⟨⟨a,rfl,rfl,?_,λb x=>.inr ?_⟩,j.fr⟩⟩⟩
   .exact (dT.1 (show(bZ s [a]).P y from j.getD 0)).2.mem ws
   .exact mO.2 (.inr (I.b'.2 ⟨a,ws,x⟩))
 .show Rx.mk k 0 0 (I.aw l)=_
  match l,d with
  |[],d=>rfl
  |[a],d=>simp at d;omega
  |a::b::m,d=>rfl
 .have:=dT.1 (show(bZ s l).P y from j.getD 0);unfold I.P;exact this
structure nj(s:Sl)(l:List dX)(n:Nat):Prop where
 expr:∀(pb:Nat) (st:bY) (w:J) (x:Rx) (gg:bY),lN l n st=some (x,gg)->st.1<l.length->jm pb s l st w->ai V Ga #[.pointer (some (ab pb))] w (SA pb s w (λr Y=>gz w x r Y/\gg.1<l.length) gg)
 Ky:∀(pb:Nat) (st:bY) (w:J) (x:Rx) (gg:bY),pg l n st=some (x,gg)->st.1<l.length->jm pb s l st w->ai V AS #[.pointer (some (ab pb))] w (SA pb s w (λr Y=>gz w x r Y/\gg.1<l.length) gg)
 seq:∀(pb:Nat) (st:bY) (w:J) (x:Rx) (gg:bY),pS l n st=some (x,gg)->st.1<l.length->jm pb s l st w->ai V AU #[.pointer (some (ab pb))] w (SA pb s w (λr Y=>gz w x r Y/\gg.1<l.length) gg)
 item:∀(pb:Nat) (st:bY) (w:J) (x:Rx) (gg:bY),nB l n st=some (x,gg)->st.1<l.length->jm pb s l st w->ai V AT #[.pointer (some (ab pb))] w (SA pb s w (λr Y=>gz w x r Y/\gg.1<l.length) gg)
 atom:∀(pb:Nat) (st:bY) (w:J) (x:Rx) (gg:bY),rW l n st=some (x,gg)->st.1<l.length->jm pb s l st w->ai V F' #[.pointer (some (ab pb))] w (SA pb s w (λr Y=>gz w x r Y/\gg.1<l.length) gg)
 kids:∀(pb:Nat) (st:bY) (w:J) (m:List Rx) (gg:bY),sA l n st=some (m,gg)->st.1<l.length->jm pb s l st w->ai V Gb #[.pointer (some (ab pb))] w (SA pb s w (λr Y=>(∃(sl:Sl) (a:List I),r=ae sl.v/\I.aw a=m/\(bZ sl a).P Y/\∀b∈(bZ sl a).fp,w.heap.size<=b)/\gg.1<l.length) gg)
def Bh{M:Nat->Prop}{w0 w:J}{L D:List En}{d:Nat}{s:Sl}{st:bY}(H:LH M w0 w (di d s st::L) D)(i:Nat){e:En}(hi:L[i]? =some e){b:Nat}(k:b∈e.fp):b≠d:=λh=>
 mE H.nd (i:=i+1) (by grind) (j:=0) rfl co b k (qx.2 h)
def _root_.Go.W.LH.xl{M:Nat->Prop}{w0 w:J}{L D:List En}(H:LH M w0 w L D)(j:Nat){t:I}(k:D[j]? =some (.tree t):=by rfl):LH M w0 w L (D++[.trees [t]]):=by
 refine H.gP _ (Fr.refl _ _) (I.jd λx d=>?_) λb q=>.inr (.inr ?_)
 .simp at d;subst d;exact H.getD j k
 .obtain ⟨x,d,h⟩:=I.b'.1 (aT.1 q);simp at d;rw[d]at h;exact⟨_,aD k,aT.2 h⟩
section
variable {s:Sl} {l:List dX} {n:Nat}
def LS(T:jM l)(S:l.length<=1000000)(U:∀m,m<=n->nj s l m)(d:Nat)(w:J)(x:Rx)(y:bY):∀(f:Nat),f<=n->∀(acc:List I) (sl:Sl) (b2:Nat) (H:J) (st:bY),ub l f (I.aw acc) st=some (x,y)->st.1<l.length->acc.length+f<=1000000->(∀b∈I.bj acc,w.heap.size<=b)->
  LH (·=d) w H [di d s st,.g b2,.row aV 4 sl (acc.flatMap I.c)] [dq s l,.trees acc]->
  xD.a6 (ab d) b2 0 0 0 ⟨none,0,0⟩ sl H (SA d s w (λr D=>gz w x r D/\y.1<l.length) y)
 |0,_=>λacc sl b2 H st z=>by unfold ub at z;cases z
 |f+1,hf=>λacc sl b2 H st z Q aq aa K=>by
  have au:=I.cI (K.get 2:aG _ _ _ _ _).bf;unfold ub at z;have fin:∀(k:J) (j:bY),j.1<l.length->some (so 4 (I.aw acc),j)=some (x,y)->LH (·=d) w k [di d s j,.g b2,.row aV 4 sl (acc.flatMap I.c)] [dq s l,.trees acc]->
    uv [b2] yc #[.i 4,sl.v] k λak al am an w8=>loc [b2] w8 λao=>SA d s w (λr D=>gz w x r D/\y.1<l.length) y (ae (.agg #[.i ak,.int .u8 al,.int .u8 am,an.v])) ao:=by
   intro k j M F q;simp only[fy,eZ]at F;obtain⟨rfl,rfl⟩:=F;have ar:∀b∈(bZ sl acc).fp,w.heap.size<=b:=λb h=>by
    rcases mO.1 h with h|h
    .exact (q.new _ (aD (i:=2) rfl) b (gY h)).resolve_right (Bh q 1 rfl (gY h))
    grind
   have L:LH (·=d) w k [di d s j,.g b2] [dq s l,.trees acc,I.row sl acc,.tree (bZ sl acc)]:=q.s8 2 1 0 0 0;refine L.r2 (DX 4 sl acc k (L.getD 3)) (λb h=>⟨_,aD (i:=3) rfl,aT.2 h⟩) λt Y C A ft=>?_;refine⟨_,_,_,t.s,rfl,A.ah λw4 B=>⟨⟨⟨⟨t,rfl,C,B.getD 4,λb h=>?_⟩,M⟩,B.get 0⟩,B.fr⟩⟩;rcases ft b h with h|h
   .exact bb L.fr.size h
   grind
  have more:∀(k:J) (j:bY),j.1<l.length->(match pg l f j with
   |some (a,st)=>ub l f (I.aw acc++[a]) st
   |none=>none)=some (x,y)->LH (·=d) w k [di d s j,.g b2,.row aV 4 sl (acc.flatMap I.c)] [dq s l,.trees acc]->
    uv [b2] AS #[.pointer (some (ab d))] k λaf ag ai aj E=>dG E (.cells #[.i af,.int .u8 ag,.int .u8 ai,aj.v] aV) λZ=>
     ∃(t13:Sl) (N:J),gx V (eA #[dP,dP] dP #[sl.v,.slice (some (nb E)) 1 1]) Z=.ok (t13.v) N/\kept [b2] Z N/\xD.a6 (ab d) b2 0 0 0 ⟨none,0,0⟩ t13 N (SA d s w (λr D=>gz w x r D/\y.1<l.length) y):=by
   intro k j M F q;cases P:pg l f j with
   |none=>grind
   |some ap=>
    obtain⟨a,G⟩:=ap;rw[P]at F;refine q.iZ ((U f co).Ky d j k a G P M q.gG) ?_;rintro _ Y ⟨⟨u,rfl,hu,pu,O⟩,ac⟩ _ F3;have A:=F3 (.tree u) pu λb h=>O b (aT.1 h);have A:LH (·=d) w Y [di d s G,.g b2,.row aV 4 sl (acc.flatMap I.c)] [dq s l,.trees acc,.tree u]:=A;refine⟨_,_,_,u.s,rfl,A.iD 2 lK (xs:=acc.flatMap I.c) rfl (λW E B=>?_) co⟩;have H6:LH (·=d) w E [di d s G,.g b2,.row aV 4 W ((acc++[u]).flatMap I.c)] [dq s l,.trees (acc++[u])]:=by rw[nr];exact(B.td 1 2).forget _ ws
    refine LS T S U d w x y f co (acc++[u]) W b2 E G ?_ ac (by grind) (uV aa λb h=>bb q.fr.size (O b h)) H6;rw[kA];have:I.aw [u]=[a]:=by simp[I.aw,hu]
    grind
  refine xD.bD (K.iZ (rZ K.gG Q S [124]) ?_);have C:=tn T Q [124] md;rintro _ k rfl q _;refine⟨_,rfl,?_⟩;cases hq:fg l [124] st with
  |mk ad j=>
   rw[hq]at z q C;cases ad with
   |true=>exact more k j C z q
   |false=>exact fin k j C z q
def aaA(Q:jM l)(P:l.length<=1000000)(Y:n<=100000)(E:∀m,m<=n->nj s l m)(d:Nat)(st:bY)(w:J)(x:Rx)(q:bY)(C:lN l (n+1) st=some (x,q))(hi:st.1<l.length)(H:jm d s l st w):
  ai V Ga #[.pointer (some (ab d))] w (SA d s w (λr U=>gz w x r U/\q.1<l.length) q):=by
 unfold lN at C;cases B:pg l n st with
 |none=>grind
 |some W=>
  obtain⟨a,y⟩:=W;rw[B]at C;refine xD.aC (H.aH λk F j=>?_);have j:LH (·=d) w F [di d s st,.g k] [dq s l]:=j;refine j.iZ ((E n (br _)).Ky d st F a y B hi j.gG) ?_;rintro _ G ⟨⟨u,rfl,S,T,A⟩,O⟩ _ L;have z:=L (.tree u) T λb h=>A b (aT.1 h);have z:LH (·=d) w G [di d s y,.g k] [dq s l,.tree u]:=z;refine⟨_,_,_,u.s,rfl,z.cZ (n:=1) (sz:=4) (cs:=u.c) rfl md λK M=>?_⟩;have N:LH (·=d) w K [di d s y,.g k,.row aV 4 ⟨some (ab G.heap.size),1,1⟩ ([u].flatMap I.c)] [dq s l,.trees [u]]:=by
   have e:[u].flatMap I.c=u.c:=ws
   rw[e];exact(M.xl 1).forget _ ws
  refine LS Q P E d w x q n (br _) [u] _ k K y ?_ O (by grind) (λb h=>?_) N
  .have:I.aw [u]=[a]:=by simp[I.aw,S]
   grind
  .obtain ⟨t,D,h⟩:=I.b'.1 h;simp at D;rw[D]at h;exact bb j.fr.size (A b h)
def KA(T:jM l)(S:l.length<=1000000)(U:∀m,m<=n->nj s l m)(d:Nat)(w:J)(x:Rx)(y:bY):∀(f:Nat),f<=n->∀(acc:List I) (sl:Sl) (b2:Nat) (H:J) (st:bY),ue l f (I.aw acc) st=some (x,y)->st.1<l.length->acc.length+f<=1000000->(∀b∈I.bj acc,w.heap.size<=b)->
  LH (·=d) w H [di d s st,.g b2,.row aV 4 sl (acc.flatMap I.c)] [dq s l,.trees acc]->
  xC.a6 (ab d) b2 0 0 0 ⟨none,0,0⟩ sl H (SA d s w (λr D=>gz w x r D/\y.1<l.length) y)
 |0,_=>λacc sl b2 H st z=>by unfold ue at z;cases z
 |f+1,hf=>λacc sl b2 H st z Q aq aa K=>by
  have au:=I.cI (K.get 2:aG _ _ _ _ _).bf;unfold ue at z;have fin:∀(k:J) (j:bY),j.1<l.length->some (so 5 (I.aw acc),j)=some (x,y)->LH (·=d) w k [di d s j,.g b2,.row aV 4 sl (acc.flatMap I.c)] [dq s l,.trees acc]->
    uv [b2] yc #[.i 5,sl.v] k λak al am an w8=>loc [b2] w8 λao=>SA d s w (λr D=>gz w x r D/\y.1<l.length) y (ae (.agg #[.i ak,.int .u8 al,.int .u8 am,an.v])) ao:=by
   intro k j M F q;simp only[fy,eZ]at F;obtain⟨rfl,rfl⟩:=F;have ar:∀b∈(bZ sl acc).fp,w.heap.size<=b:=λb h=>by
    rcases mO.1 h with h|h
    .exact (q.new _ (aD (i:=2) rfl) b (gY h)).resolve_right (Bh q 1 rfl (gY h))
    grind
   have L:LH (·=d) w k [di d s j,.g b2] [dq s l,.trees acc,I.row sl acc,.tree (bZ sl acc)]:=q.s8 2 1 0 0 0;refine L.r2 (DX 5 sl acc k (L.getD 3)) (λb h=>⟨_,aD (i:=3) rfl,aT.2 h⟩) λt Y C A ft=>?_;refine⟨_,_,_,t.s,rfl,A.ah λw4 B=>⟨⟨⟨⟨t,rfl,C,B.getD 4,λb h=>?_⟩,M⟩,B.get 0⟩,B.fr⟩⟩;rcases ft b h with h|h
   .exact bb L.fr.size h
   grind
  have more:∀(k:J) (j:bY),j.1<l.length->(match pS l f j with
   |some (a,st)=>ue l f (I.aw acc++[a]) st
   |none=>none)=some (x,y)->LH (·=d) w k [di d s j,.g b2,.row aV 4 sl (acc.flatMap I.c)] [dq s l,.trees acc]->
    uv [b2] AU #[.pointer (some (ab d))] k λaf ag ai aj E=>dG E (.cells #[.i af,.int .u8 ag,.int .u8 ai,aj.v] aV) λZ=>
     ∃(t13:Sl) (N:J),gx V (eA #[dP,dP] dP #[sl.v,.slice (some (nb E)) 1 1]) Z=.ok (t13.v) N/\kept [b2] Z N/\xC.a6 (ab d) b2 0 0 0 ⟨none,0,0⟩ t13 N (SA d s w (λr D=>gz w x r D/\y.1<l.length) y):=by
   intro k j M F q;cases P:pS l f j with
   |none=>grind
   |some ap=>
    obtain⟨a,G⟩:=ap;rw[P]at F;refine q.iZ ((U f co).seq d j k a G P M q.gG) ?_;rintro _ Y ⟨⟨u,rfl,hu,pu,O⟩,ac⟩ _ F3;have A:=F3 (.tree u) pu λb h=>O b (aT.1 h);have A:LH (·=d) w Y [di d s G,.g b2,.row aV 4 sl (acc.flatMap I.c)] [dq s l,.trees acc,.tree u]:=A;refine⟨_,_,_,u.s,rfl,A.iD 2 lK (xs:=acc.flatMap I.c) rfl (λW E B=>?_) co⟩;have H6:LH (·=d) w E [di d s G,.g b2,.row aV 4 W ((acc++[u]).flatMap I.c)] [dq s l,.trees (acc++[u])]:=by rw[nr];exact(B.td 1 2).forget _ ws
    refine KA T S U d w x y f co (acc++[u]) W b2 E G ?_ ac (by grind) (uV aa λb h=>bb q.fr.size (O b h)) H6;rw[kA];have:I.aw [u]=[a]:=by simp[I.aw,hu]
    grind
  refine xC.bD (K.iZ (rZ K.gG Q S [38]) ?_);have C:=tn T Q [38] md;rintro _ k rfl q _;refine⟨_,rfl,?_⟩;cases hq:fg l [38] st with
  |mk ad j=>
   rw[hq]at z q C;cases ad with
   |true=>exact more k j C z q
   |false=>exact fin k j C z q
def Z5(Q:jM l)(P:l.length<=1000000)(Y:n<=100000)(E:∀m,m<=n->nj s l m)(d:Nat)(st:bY)(w:J)(x:Rx)(q:bY)(C:pg l (n+1) st=some (x,q))(hi:st.1<l.length)(H:jm d s l st w):
  ai V AS #[.pointer (some (ab d))] w (SA d s w (λr U=>gz w x r U/\q.1<l.length) q):=by
 unfold pg at C;cases B:pS l n st with
 |none=>grind
 |some W=>
  obtain⟨a,y⟩:=W;rw[B]at C;refine xC.aC (H.aH λk F j=>?_);have j:LH (·=d) w F [di d s st,.g k] [dq s l]:=j;refine j.iZ ((E n (br _)).seq d st F a y B hi j.gG) ?_;rintro _ G ⟨⟨u,rfl,S,T,A⟩,O⟩ _ L;have z:=L (.tree u) T λb h=>A b (aT.1 h);have z:LH (·=d) w G [di d s y,.g k] [dq s l,.tree u]:=z;refine⟨_,_,_,u.s,rfl,z.cZ (n:=1) (sz:=4) (cs:=u.c) rfl md λK M=>?_⟩;have N:LH (·=d) w K [di d s y,.g k,.row aV 4 ⟨some (ab G.heap.size),1,1⟩ ([u].flatMap I.c)] [dq s l,.trees [u]]:=by
   have e:[u].flatMap I.c=u.c:=ws
   rw[e];exact(M.xl 1).forget _ ws
  refine KA Q P E d w x q n (br _) [u] _ k K y ?_ O (by grind) (λb h=>?_) N
  .have:I.aw [u]=[a]:=by simp[I.aw,S]
   grind
  .obtain ⟨t,D,h⟩:=I.b'.1 h;simp at D;rw[D]at h;exact bb j.fr.size (A b h)
def UN(af:jM l)(ad:l.length<=1000000)(S:∀m,m<=n->nj s l m)(d:Nat)(w:J)(x:Rx)(y:bY):∀(f:Nat),f<=n->∀(acc:List I) (sl:Sl) (b2:Nat) (G:J) (st:bY),u5 l f (I.aw acc) st=some (x,y)->st.1<l.length->acc.length+f<=1000000->(∀b∈I.bj acc,w.heap.size<=b)->
  LH (·=d) w G [di d s st,.g b2,.row aV 4 sl (acc.flatMap I.c)] [dq s l,.trees acc]->
  xF.a6 (ab d) b2 0 0 0 ⟨none,0,0⟩ sl G (SA d s w (λr C=>gz w x r C/\y.1<l.length) y)
 |0,_=>λacc sl b2 G st z=>by unfold u5 at z;cases z
 |f+1,hf=>λacc sl b2 G st z L ar aa H=>by
  have av:=I.cI (H.get 2:aG _ _ _ _ _).bf;unfold u5 at z;have fin:∀(j:J) (k:bY),k.1<l.length->some (so 3 (I.aw acc),k)=some (x,y)->LH (·=d) w j [di d s k,.g b2,.row aV 4 sl (acc.flatMap I.c)] [dq s l,.trees acc]->
    uv [b2] yc #[.i 3,sl.v] j λal am an ao w8=>loc [b2] w8 λap=>SA d s w (λr C=>gz w x r C/\y.1<l.length) y (ae (.agg #[.i al,.int .u8 am,.int .u8 an,ao.v])) ap:=by
   intro j k M E q;simp only[fy,eZ]at E;obtain⟨rfl,rfl⟩:=E;have au:∀b∈(bZ sl acc).fp,w.heap.size<=b:=λb h=>by
    rcases mO.1 h with h|h
    .exact (q.new _ (aD (i:=2) rfl) b (gY h)).resolve_right (Bh q 1 rfl (gY h))
    grind
   have K:LH (·=d) w j [di d s k,.g b2] [dq s l,.trees acc,I.row sl acc,.tree (bZ sl acc)]:=q.s8 2 1 0 0 0;refine K.r2 (DX 3 sl acc j (K.getD 3)) (λb h=>⟨_,aD (i:=3) rfl,aT.2 h⟩) λt U ht A ft=>?_;refine⟨_,_,_,t.s,rfl,A.ah λw4 B=>⟨⟨⟨⟨t,rfl,ht,B.getD 4,λb h=>?_⟩,M⟩,B.get 0⟩,B.fr⟩⟩;rcases ft b h with h|h
   .exact bb K.fr.size h
   grind
  have more:∀(j:J) (k:bY),k.1<l.length->(match nB l f k with
   |some (a,st)=>u5 l f (I.aw acc++[a]) st
   |none=>none)=some (x,y)->LH (·=d) w j [di d s k,.g b2,.row aV 4 sl (acc.flatMap I.c)] [dq s l,.trees acc]->
    uv [b2] AT #[.pointer (some (ab d))] j λag ai aj ak D=>dG D (.cells #[.i ag,.int .u8 ai,.int .u8 aj,ak.v] aV) λW=>
     ∃(t13:Sl) (N:J),gx V (eA #[dP,dP] dP #[sl.v,.slice (some (nb D)) 1 1]) W=.ok (t13.v) N/\kept [b2] W N/\xF.a6 (ab d) b2 0 0 0 ⟨none,0,0⟩ t13 N (SA d s w (λr C=>gz w x r C/\y.1<l.length) y):=by
   intro j k M E q;cases P:nB l f k with
   |none=>grind
   |some aq=>
    obtain⟨a,F⟩:=aq;rw[P]at E;refine q.iZ ((S f co).item d k j a F P M q.gG) ?_;rintro _ U ⟨⟨u,rfl,hu,pu,O⟩,ac⟩ _ Y;have A:=Y (.tree u) pu λb h=>O b (aT.1 h);have A:LH (·=d) w U [di d s F,.g b2,.row aV 4 sl (acc.flatMap I.c)] [dq s l,.trees acc,.tree u]:=A;refine⟨_,_,_,u.s,rfl,A.iD 2 lK (xs:=acc.flatMap I.c) rfl (λT D B=>?_) co⟩;have Z:LH (·=d) w D [di d s F,.g b2,.row aV 4 T ((acc++[u]).flatMap I.c)] [dq s l,.trees (acc++[u])]:=by rw[nr];exact(B.td 1 2).forget _ ws
    refine UN af ad S d w x y f co (acc++[u]) T b2 D F ?_ ac (by grind) (uV aa λb h=>bb q.fr.size (O b h)) Z;rw[kA];have:I.aw [u]=[a]:=by simp[I.aw,hu]
    grind
  refine xF.bD (H.aA (Y2 H.gG L) ?_);rintro _ j rfl q;refine⟨_,rfl,?_⟩;cases Q:zK l st with
  |true=>rw[Q]at z;exact more j st L z q
  |false=>rw[Q]at z;exact fin j st L z q
def afq(Q:jM l)(P:l.length<=1000000)(Y:n<=100000)(E:∀m,m<=n->nj s l m)(d:Nat)(st:bY)(w:J)(x:Rx)(q:bY)(C:pS l (n+1) st=some (x,q))(hi:st.1<l.length)(H:jm d s l st w):
  ai V AU #[.pointer (some (ab d))] w (SA d s w (λr U=>gz w x r U/\q.1<l.length) q):=by
 unfold pS at C;cases B:nB l n st with
 |none=>grind
 |some W=>
  obtain⟨a,y⟩:=W;rw[B]at C;refine xF.aC (H.aH λk F j=>?_);have j:LH (·=d) w F [di d s st,.g k] [dq s l]:=j;refine j.iZ ((E n (br _)).item d st F a y B hi j.gG) ?_;rintro _ G ⟨⟨u,rfl,S,T,A⟩,O⟩ _ L;have z:=L (.tree u) T λb h=>A b (aT.1 h);have z:LH (·=d) w G [di d s y,.g k] [dq s l,.tree u]:=z;refine⟨_,_,_,u.s,rfl,z.cZ (n:=1) (sz:=4) (cs:=u.c) rfl md λK M=>?_⟩;have N:LH (·=d) w K [di d s y,.g k,.row aV 4 ⟨some (ab G.heap.size),1,1⟩ ([u].flatMap I.c)] [dq s l,.trees [u]]:=by
   have e:[u].flatMap I.c=u.c:=ws
   rw[e];exact(M.xl 1).forget _ ws
  refine UN Q P E d w x q n (br _) [u] _ k K y ?_ O (by grind) (λb h=>?_) N
  .have:I.aw [u]=[a]:=by simp[I.aw,S]
   grind
  .obtain ⟨t,D,h⟩:=I.b'.1 h;simp at D;rw[D]at h;exact bb j.fr.size (A b h)
end
def _root_.Go.W.LH.rn{M:Nat->Prop}{w0 w:J}{L D:List En}{U:List Nat}(H:LH M w0 w L D)(i j:Nat){b:Nat}{vs:List aa}{T:aE}{v:aa}{K:J->Prop}(hi:L[i]? =some (.c b vs T))(y:∀q,LH M w0 q (L.set i (.c b (vs.set j v) T)) D->K q)(k:j<vs.length:=by simp)(bG:∀b∈U,En.g b∈L:=by simp):aS w ((ab b).add j) v λx=>kept U w x/\K x:=by obtain⟨A,B,C⟩:=H.set (v:=v) i j hi k;obtain⟨_,_,_,E⟩:=vR (H.ob i hi) j (by simpa using k) v;refine⟨A,B,λd h=>?_,y _ C⟩;refine E.cB d (H.own _ (bG d h)) λz=>ou H hi (xa w b vs T) (bG d h) ?_;rw[z];exact qx.2 rfl
def _root_.Go.W.LH.one{M:Nat->Prop}{w0 w:J}{L D:List En}(H:LH M w0 w L D)(i j:Nat){e:aE}{sl:Sl}{u:I}(k:Int)(lo hi:UInt8)(x:L[i]? =some (.row e 4 sl u.c):=by rfl)(y:D[j]? =some (.tree u):=by rfl):LH M w0 w (L.eraseIdx i) (D++[.tree (.mk k lo hi sl [u])]):=by
 have h:=H.xl j y;have e:[u].flatMap I.c=u.c:=ws
 have q:=h.s8 i D.length k lo hi (s:=sl) (O:=[u]) (by rw[e];exact x) ws;exact q.forget _ (λz d=>by
  simp only[aX,aq,aL,aO]at d ⊢;rcases d with d|d
  .exact .inl (.inl (.inl d))
  .exact .inr d)
def GU{w:J}{sl:Sl}{u:I}{k:Int}{lo hi:UInt8}(j:∀b∈az sl,w.heap.size<=b)(q:∀b∈u.fp,w.heap.size<=b):∀b∈(I.mk k lo hi sl [u]).fp,w.heap.size<=b:=λb d=>by
 unfold I.fp at d;rcases aX.1 d with d|d
 .exact sZ j b d
 .obtain ⟨t,h,d⟩:=I.b'.1 d;simp at h;rw[h]at d;exact q b d
section
variable {s:Sl} {l:List dX} {n:Nat}
def M2(H:jM l)(G:l.length<=1000000)(h:Nat)(w:J)(x:Rx)(A:bY):∀(f:Nat) (u:I) (b2 j:Nat) (B:J) (st:bY),yW l f u.rx st=some (x,A)->st.1<l.length->(∀b∈u.fp,w.heap.size<=b)->
  LH (·=h) w B [di h s st,.g b2,.g j] [dq s l,.tree u]->
  Ac.a6 (ab h) b2 0 0 0 ⟨none,0,0⟩ j u.k (u.lo.toNat:Int) (u.hi.toNat:Int) u.s B (SA h s w (λr S=>gz w x r S/\A.1<l.length) A)
 |0,u,b2,j,B,st,d,_,_,_=>by unfold yW at d;cases d
 |f+1,u,b2,j,B,st,d,F,E,C=>by
  unfold yW at d;refine Ac.bD (C.iZ (rZ C.gG F G [42]) ?_);have y:=tn H F [42] md;rintro _ L rfl z _;refine⟨_,rfl,?_⟩;cases P:fg l [42] st with
  |mk Q K=>
   rw[P]at d z y;cases Q with
   |true=>
    dsimp only at d y;refine aM rfl ?_;refine z.cZ (n:=1) (sz:=4) (cs:=u.c) rfl md λT q=>q.ah λM N=>?_;have O:LH (·=h) w M [di h s K,.g b2,.g j] [dq s l,.tree (.mk 7 0 0 ⟨some (ab L.heap.size),1,1⟩ [u])]:=(N.one 3 1 7 0 0).forget _ ws;refine M2 H G h w x A f (.mk 7 0 0 ⟨some (ab L.heap.size),1,1⟩ [u]) b2 j M K d y (GU (λb D=>?_) E) O;simp only[az,aq,aL,aO]at D;rw[D];exact z.fr.size
   |false=>
    dsimp only at d y;simp only[fy,eZ]at d;obtain⟨d,rfl⟩:=d;refine aN rfl ?_;exact z.ah λT q=>⟨⟨⟨⟨u,rfl,d,q.getD 1,E⟩,y⟩,q.get 0⟩,q.fr⟩
def abH(U:jM l)(T:l.length<=1000000)(W:nj s l n)(j:Nat)(st:bY)(w:J)(x:Rx)(D:bY)(d:nB l (n+1) st=some (x,D))(hi:st.1<l.length)(H:jm j s l st w):
  ai V AT #[.pointer (some (ab j))] w (SA j s w (λr w'=>gz w x r w'/\D.1<l.length) D):=by
 unfold nB at d;refine Ac.aC (H.aH λL w1 B=>?_);have B:LH (·=j) w w1 [di j s st,.g L] [dq s l]:=B;refine B.iZ (rZ B.gG hi T [33]) ?_;have z:=tn U hi [33] md;rintro _ Y rfl k _;refine⟨_,rfl,?_⟩;cases hq:fg l [33] st with
 |mk aa E=>
  rw[hq]at d k z;cases aa with
  |true=>
   dsimp only at d z;cases q:nB l n E with
   |none=>rw[q]at d;cases d
   |some S=>
    obtain⟨a,A⟩:=S;rw[q]at d;simp only[fy,eZ]at d;obtain⟨d,rfl⟩:=d;refine aM rfl ?_;refine k.iZ (W.item j E Y a A q z k.gG) ?_;rintro _ P ⟨⟨u,rfl,N,O,y⟩,M⟩ _ F;have C:=F (.tree u) O λb h=>y b (aT.1 h);refine⟨_,_,_,u.s,rfl,C.cZ (n:=1) (sz:=4) (cs:=u.c) rfl md λw4 G=>G.ah λQ I=>?_⟩;have K:LH (·=j) w Q [di j s A,.g L] [dq s l,.tree (.mk 6 0 0 ⟨some (ab P.heap.size),1,1⟩ [u])]:=(I.one 2 1 6 0 0).forget _ ws;refine⟨⟨⟨⟨.mk 6 0 0 ⟨some (ab P.heap.size),1,1⟩ [u],rfl,?_,K.getD 1,GU (λb h=>?_) (λb h=>bb k.fr.size (y b h))⟩,M⟩,K.get 0⟩,K.fr⟩
    .rw [<-d,<-N];rfl
    .simp only[az,aq,aL,aO]at h;rw[h];exact C.fr.size
  |false=>
   dsimp only at d z;cases q:rW l n E with
   |none=>rw[q]at d;cases d
   |some S=>
    obtain⟨a,A⟩:=S;rw[q]at d;refine aN rfl ?_;refine k.iZ (W.atom j E Y a A q z k.gG) ?_;rintro _ P ⟨⟨u,rfl,N,O,y⟩,M⟩ _ F;have C:=F (.tree u) O λb h=>y b (aT.1 h);refine⟨_,_,_,u.s,rfl,C.aH λZ w4 G=>G.ah λQ I=>?_⟩;exact M2 U T j w x D n u L Z Q A (by rw[N];exact d) M (λb h=>bb k.fr.size (y b h)) I
def Nh(F:jM l)(E:l.length<=1000000)(L:∀m,m<=n->nj s l m)(j:Nat)(w:J)(m:List Rx)(y:bY):∀(f:Nat),f<=n->∀(acc:List I) (sl:Sl) (A:J) (st:bY),ya l f (I.aw acc) st=some (m,y)->st.1<l.length->acc.length+f<=1000000->(∀b∈I.bj acc,w.heap.size<=b)->
  LH (·=j) w A [di j s st,.row aV 4 sl (acc.flatMap I.c)] [dq s l,.trees acc]->
  xE.L1 (ab j) sl A (SA j s w (λr w'=>(∃(sl:Sl) (a:List I),r=ae sl.v/\I.aw a=m/\(bZ sl a).P w'/\∀b∈(bZ sl a).fp,w.heap.size<=b)/\y.1<l.length) y)
 |0,_=>λacc sl A st d=>by unfold ya at d;cases d
 |f+1,hf=>λacc sl A st d K ad H B=>by
  have af:=I.cI (B.get 1:aG _ _ _ _ _).bf;unfold ya at d;refine xE.fO (B.r1 (rZ B.gG K E [44]) ?_);have x:=tn F K [44] md;rintro _ w2 rfl k _;refine⟨_,rfl,?_⟩;cases Y:fg l [44] st with
  |mk aa N=>
   rw[Y]at d k x;cases aa with
   |true=>
    dsimp only at d x;cases D:lN l f N with
    |none=>rw[D]at d;cases d
    |some ac=>
     obtain⟨a,z⟩:=ac;rw[D]at d;refine aM rfl ?_;refine k.r1 ((L f co).expr j N w2 a z D x k.gG) ?_;rintro _ O ⟨⟨u,rfl,Z,pu,G⟩,W⟩ _ S;have C:=S (.tree u) pu λb h=>G b (aT.1 h);have C:LH (·=j) w O [di j s z,.row aV 4 sl (acc.flatMap I.c)] [dq s l,.trees acc,.tree u]:=C;refine⟨_,_,_,u.s,rfl,C.uf 1 lK (xs:=acc.flatMap I.c) rfl (λM Q T _ _=>?_) co⟩;have U:LH (·=j) w Q [di j s z,.row aV 4 M ((acc++[u]).flatMap I.c)] [dq s l,.trees (acc++[u])]:=by rw[nr];exact(T.td 1 2).forget _ ws
     refine Nh F E L j w m y f co (acc++[u]) M Q z ?_ W (by simp;omega) (uV H λb h=>bb k.fr.size (G b h)) U;rw[kA];have:I.aw [u]=[a]:=by simp[I.aw,Z]
     rw[this];exact d
   |false=>
    dsimp only at d x;simp only[fy,eZ]at d;obtain⟨rfl,rfl⟩:=d;refine aN rfl ?_;refine k.r1 (w9 k.gG x E [41]) ?_;rintro _ O rfl q _;refine⟨rfl,⟨⟨⟨sl,acc,rfl,rfl,dT.2 ⟨(q.get 1:aG _ _ _ _ _).bf,q.getD 1⟩,λb h=>?_⟩,yj F x [41] md⟩,q.get 0⟩,q.fr⟩;rcases mO.1 h with h|h
    .exact (q.new _ (aD (i:=1) rfl) b (gY h)).resolve_right (Bh q 0 rfl (gY h))
    .exact H b h
def ab0(C:jM l)(B:l.length<=1000000)(hn:n<=100000)(M:∀m,m<=n->nj s l m)(j:Nat)(st:bY)(w:J)(m:List Rx)(x:bY)(h:sA l (n+1) st=some (m,x))(hi:st.1<l.length)(H:jm j s l st w):
  ai V Gb #[.pointer (some (ab j))] w (SA j s w (λr E=>(∃(sl:Sl) (a:List I),r=ae sl.v/\I.aw a=m/\(bZ sl a).P E/\∀b∈(bZ sl a).fp,w.heap.size<=b)/\x.1<l.length) x):=by
 unfold sA at h;refine xE.ok (H.r1 (w9 H hi B [40]) ?_);have L:=yj C hi [40] md;rintro _ w1 rfl G _;refine⟨rfl,G.r1 (rZ G.gG L B [41]) ?_⟩;have y:=tn C L [41] md;rintro _ F rfl k _;cases Y:fg l [41] (k4 l [40] st)with
 |mk N z=>
  rw[Y]at h k y;have none_:some (([]:List Rx),z)=some (m,x)->xE.S0 F (SA j s w (λr E=>(∃(sl:Sl) (a:List I),r=ae sl.v/\I.aw a=m/\(bZ sl a).P E/\∀b∈(bZ sl a).fp,w.heap.size<=b)/\x.1<l.length) x):=by
   intro h;simp only[fy,eZ]at h;obtain⟨rfl,rfl⟩:=h;refine⟨⟨⟨⟨⟨none,0,0⟩,[],rfl,rfl,dT.2 ⟨bN.nil 4 F,by unfold I.Ps;trivial⟩,λb d=>?_⟩,y⟩,k.get 0⟩,k.fr⟩;rcases mO.1 d with d|d
   .simp [I.row,En.bf]at d
   .unfold I.bj at d;cases d
  refine⟨_,rfl,z.2,k.ld 0 2,bT (λd=>none_ (by simpa[d]using h)) (λd=>bT (λq=>none_ (by have q:N=true:=q;simpa[q]using h)) (λq=>?_))⟩
  have q:N=false:=q;simp only[d,q,Bool.or_false,cond_false]at h;cases A:lN l n z with
  |none=>rw[A]at h;cases h
  |some aa=>
   obtain⟨a,D⟩:=aa;rw[A]at h;refine k.r1 ((M n (br _)).expr j z F a D A y k.gG) ?_;rintro _ w3 ⟨⟨u,rfl,Z,pu,K⟩,W⟩ _ Q;have S:=Q (.tree u) pu λb d=>K b (aT.1 d);refine⟨_,_,_,u.s,rfl,S.cZ (n:=1) (sz:=4) (cs:=u.c) rfl md λO T=>?_⟩;have U:LH (·=j) w O [di j s D,.row aV 4 ⟨some (ab w3.heap.size),1,1⟩ ([u].flatMap I.c)] [dq s l,.trees [u]]:=by
    have e:[u].flatMap I.c=u.c:=ws
    rw[e];exact(T.xl 1).forget _ ws
   refine Nh C B M j w m x n (br _) [u] _ O D ?_ W (by simp;omega) (λb d=>?_) U
   .have:I.aw [u]=[a]:=by simp[I.aw,Z]
    rw[this];exact h
   .obtain ⟨t,y,d⟩:=I.b'.1 d;simp at y;rw[y]at d;exact bb k.fr.size (K b d)
end
def wt:List aa:=[.string (ba (nS 0)),.string (ba (nS 1)),.string (ba (nS 2)),.string (ba (nS 3)),.string (ba (nS 4)),.string (ba (nS 5))]
def W3{k:Nat}(h:k<6):wt[k]? =some (.string (ba (nS k))):=by
 have:k=0\/k=1\/k=2\/k=3\/k=4\/k=5:=co
 rcases this with rfl|rfl|rfl|rfl|rfl|rfl<;>rfl
def W2{k:Nat}(h:k<6)(d:k≠2):nS k≠[]/\nS k≠[32]:=by
 have:k=0\/k=1\/k=2\/k=3\/k=4\/k=5:=co
 rcases this with rfl|rfl|rfl|rfl|rfl|rfl<;>first |exact absurd rfl d|exact⟨md,md⟩
def nD(k:Int)(lo hi:UInt8):I:=.mk k lo hi ⟨none,0,0⟩ []
def sC(k:Int)(lo hi:UInt8)(w:J):(nD k lo hi).P w:=by unfold nD I.P I.Ps;exact⟨bN.nil 4 w,trivial⟩
def sD{k:Int}{lo hi:UInt8}{b:Nat}:¬b∈(nD k lo hi).fp:=λd=>by
 unfold nD I.fp I.bj at d;rcases aX.1 d with d|d
 .simp [I.row,En.bf]at d
 .cases d
section
variable {s:Sl} {l:List dX} {n:Nat}
def X7(W:jM l)(am:l.length<=1000000)(ih:nj s l n)(q:Nat)(st:bY)(w:J)(x:Rx)(K:bY)(d:rW l (n+1) st=some (x,K))(hi:st.1<l.length)(H:jm q s l st w):
  ai V F' #[.pointer (some (ab q))] w (SA q s w (λr w'=>gz w x r w'/\K.1<l.length) K):=by
 let R:aK:=SA q s w (λr w'=>gz w x r w'/\K.1<l.length) K
 have loop:∀(f k:Nat) (b2 C:Nat) (D:J),f+k=6->mq l st 6 0=mq l st f k->(match mq l st 6 0 with
   |some k=>bif Nat.ble k 2 then some (Rx.mk k 0 0 [],(st.1+1,st.2))else match sA l n (st.1+1,st.2)with
    |some (m,st)=>some (Rx.mk k 0 0 m,st)
    |none=>none
   |none=>let st:=k4 l [40] st
    bif st.2 then some (fZ,st)else match lN l n st with
    |some (a,st)=>some (a,k4 l [41] st)
    |none=>none)=some (x,K)->LH (·=q) w D [di q s st,.g b2,.c C wt dv] [dq s l]->
   pq.cy (ab q) b2 0 0 0 ⟨none,0,0⟩ ⟨some (ab C),6,6⟩ (k:Int) D R:=by
  intro f;induction f with
  |zero=>
   intro k b2 C D hk Z d E;have e0:mq l st 0 k=none:=by unfold mq;rfl
   rw[Z,e0]at d;dsimp only at d;have ae:=yj W hi [40] md;refine pq.dH (aN (aW co) (E.iZ (w9 E.gG hi am [40]) ?_));rintro _ y rfl h _;generalize k4 l [40] st=H3 at d ae h;refine⟨rfl,H3.2,h.ld 0 2,bT (λj=>?_) (λj=>?_)⟩
   .rw [j]at d;simp only[cond_true,fy,eZ]at d;obtain⟨rfl,rfl⟩:=d;exact h.ah λS z=>⟨⟨⟨⟨cC,rfl,rfl,k5 _,λb j=>(k6 j).elim⟩,ae⟩,z.get 0⟩,z.fr⟩
   .rw [j]at d;dsimp only[cond_false]at d;cases G:lN l n H3 with
    |none=>rw[G]at d;cases d
    |some af=>
     obtain⟨a,aa⟩:=af;rw[G]at d;simp only[fy,eZ]at d;obtain⟨rfl,rfl⟩:=d;refine h.iZ (ih.expr q H3 y a aa G ae h.gG) ?_;rintro _ S ⟨⟨u,rfl,hu,pu,fu⟩,U⟩ _ F3;have z:=F3 (.tree u) pu λb j=>fu b (aT.1 j);refine⟨_,_,_,u.s,rfl,z.aH λb6 w4 A=>A.ah λw5 B=>?_⟩;have B:LH (·=q) w w5 (di q s aa::[.g b2,.c C wt dv,.g b6]) [dq s l,.tree u]:=B;refine B.iZ (w9 B.gG U am [41]) ?_;rintro _ w6 rfl H6 _;exact⟨rfl,H6.ah λw7 L=>⟨⟨⟨⟨u,rfl,hu,L.getD 1,λb j=>bb h.fr.size (fu b j)⟩,yj W U [41] md⟩,L.get 0⟩,L.fr⟩⟩
  |succ f aw=>
   intro k b2 C D hk Z d E;have next:mq l st (f+1) k=mq l st f (k+1)->∀y,LH (·=q) w y [di q s st,.g b2,.c C wt dv] [dq s l]->pq.cd (ab q) b2 0 0 0 ⟨none,0,0⟩ ⟨some (ab C),6,6⟩ (k:Int) y R:=by intro Q y h;show pq.cy _ _ _ _ _ _ _ _ _ _;rw[bc _ co];exact aw (k+1) b2 C y co (by rw[Z,Q]) d h
   refine pq.dH (aM (aR co) (aP (λO=>E.ah λy h=>next (by
    have:k=2:=co
    subst this;conv=>lhs;unfold mq
    rfl) y h) (λO=>⟨co,by show(k:Int)<((6:Nat):Int);omega,?_⟩)))
   have O:k≠2:=co
   have ag:cm k 2=false:=by
    cases F:cm k 2 with
    |false=>rfl
    |true=>exact absurd (Nat.eq_of_beq_eq_true F) O
   refine k8 (E.ah λy h=>?_);rw[bB,Nat.mul_one];refine⟨ba (nS k),h.ld 2 k rfl (W3 co),h.aA (D6 h.gG hi) ?_⟩;rintro _ S rfl z;refine⟨_,rfl,z.ld 2 k rfl (W3 co),?_⟩;rw[ui];refine eb (λY=>next (by
    conv=>lhs;unfold mq
    rw[ag,Y];rfl) S z) (λY=>?_)
   have an:=eq_of_beq Y;have av:mq l st 6 0=some k:=by
    rw[Z];conv=>lhs;unfold mq
    rw[ag,Y];rfl
   rw[av]at d;dsimp only at d;have T:st.1+1<l.length:=by
    refine Nk W hi (by rw[an];exact(W2 co O).1) ?_;cases j:st.2 with
    |false=>rfl
    |true=>
     exfalso;refine(W2 (k:=k) co O).2 ?_;rw[<-an];unfold fG;rw[j];rfl
   refine⟨(st.1:Int),z.ld 0 1,?_⟩;rw[bc _ co];refine z.rn 0 1 rfl λw4 A=>?_;have A:LH (·=q) w w4 [di q s (st.1+1,st.2),.g b2,.c C wt dv] [dq s l]:=A;refine A.aH λb5 w5 B=>aF (λau=>?_) (λau=>?_)
   .have ad:Nat.ble k 2=false:=by
     cases F:Nat.ble k 2 with
     |false=>rfl
     |true=>have:=Nat.le_of_ble_eq_true F;omega
    rw[ad]at d;dsimp only[cond_false]at d;cases G:sA l n (st.1+1,st.2)with
    |none=>rw[G]at d;cases d
    |some af=>
     obtain⟨m,aa⟩:=af;rw[G]at d;simp only[fy,eZ]at d;obtain⟨Q,rfl⟩:=d;refine B.ah λao N=>?_;have N:LH (·=q) w ao (di q s (st.1+1,st.2)::[.g b2,.c C wt dv,.g b5]) [dq s l]:=N;refine N.iZ (ih.kids q (st.1+1,st.2) ao m aa G T N.gG) ?_;rintro _ ay ⟨⟨sl,a,rfl,ha,pa,fa⟩,U⟩ _ ap;have aq:=ap (.tree (bZ sl a)) pa λb j=>fa b (aT.1 j);refine⟨sl,rfl,aq.ah λaz ar=>ar.ah λax ac=>?_⟩;refine⟨⟨⟨⟨.mk k 0 0 sl a,rfl,?_,?_,λb j=>?_⟩,U⟩,ac.get 0⟩,ac.fr⟩
     .rw [<-Q,<-ha];rfl
     .have:=dT.1 (show(bZ sl a).P ax from ac.getD 1);unfold I.P;exact this
     .refine bb N.fr.size (fa b ?_);unfold I.fp at j;unfold bZ I.fp;exact j
   .have ad:Nat.ble k 2=true:=Nat.ble_eq_true_of_le co;rw[ad]at d;simp only[cond_true,fy,eZ]at d;obtain⟨Q,rfl⟩:=d;refine B.ah λw6 H6=>H6.ah λw7 L=>⟨⟨⟨⟨nD k 0 0,rfl,?_,sC _ _ _ _,λb j=>(sD j).elim⟩,T⟩,L.get 0⟩,L.fr⟩;rw[<-Q];rfl
 have s0:∀(b2:Nat) (D:J),(!st.2&&cm (gi l st.1).k 2)=false->LH (·=q) w D [di q s st,.g b2] [dq s l]->pq.bt (ab q) b2 0 0 0 ⟨none,0,0⟩ D R:=by
  intro b2 D hq E;unfold rW at d;rw[hq]at d;dsimp only[cond_false]at d;try dsimp only[pq.bt,ak]
  refine E.nw λy _ h=>?_;exact loop 6 0 b2 D.heap.size y co rfl d h
 refine pq.aC (H.aH λb2 D E=>E.ah λy h=>⟨st.2,h.ld 0 2,eb (λj=>?_) (λj=>s0 b2 y (by rw[j];rfl) h)⟩);have hn:=y5 (h.getD 0:bN _ _ _ _);refine⟨s,h.ld 0 0,(st.1:Int),h.ld 0 1,co,co,y6 (h.getD 0) hi λp hp c=>⟨((gi l st.1).k:Int),?_,aP (λM=>?_) (λM=>s0 b2 y (by
  have:cm (gi l st.1).k 2=false:=by
   cases F:cm (gi l st.1).k 2 with
   |false=>rfl
   |true=>have:=Nat.eq_of_beq_eq_true F;omega
  rw[this];simp) h)⟩⟩
 .rw [bB,jq];exact c.c2
 have M:(gi l st.1).k=2:=co
 have T:st.1+1<l.length:=by
  rcases Nat.lt_or_ge (st.1+1) l.length with F|F
  .exact F
  .exfalso;have e:st.1=l.length - 1:=co
   rw[e,W.2.2]at M;cases M
 refine⟨(st.1:Int),h.ld 0 1,?_⟩;rw[bc _ co];refine h.rn 0 1 rfl λS z=>?_;have z:LH (·=q) w S [di q s (st.1+1,st.2),.g b2] [dq s l]:=z;refine z.ah λw4 A=>⟨s,A.ld 0 0,((st.1+1:Nat):Int),A.ld 0 1,?_⟩;have em:aj .i64 (((st.1+1:Nat):Int) - 1)=(st.1:Int):=by rw[aQ _ co];omega
 rw[em];unfold rW at d;rw[j,M]at d;have d:some (Rx.mk 2 (gi l st.1).lo (gi l st.1).hi [],(st.1+1,false))=some (x,K):=d;simp only[fy,eZ]at d;obtain⟨d,al⟩:=d;refine⟨co,co,y6 (A.getD 0) hi λp hp c=>⟨2,(gi l st.1).lo.toNat,(gi l st.1).hi.toNat,⟨none,0,0⟩,?_,?_,?_,?_,A.ah λw5 B=>⟨⟨⟨⟨nD 2 (gi l st.1).lo (gi l st.1).hi,rfl,d,sC _ _ _ _,λb j=>(sD j).elim⟩,by rw[<-al];exact T⟩,?_⟩,B.fr⟩⟩⟩
 .rw [bB,jq,c.c2,M];rfl
 .rw [bB,add_add];exact c.c3
 .rw [bB,add_add];exact c.c4
 .rw [bB,add_add];exact c.c5
 .have:=B.get 0;rw[<-al,<-j];exact this
def R9(z:jM l)(y:l.length<=1000000):∀n:Nat,n<=100000->∀m,m<=n->nj s l m
 |0,_=>λm C=>by
  have:m=0:=co
  subst this;exact⟨λh st k q j d=>(by unfold lN at d;cases d),λh st k q j d=>(by unfold pg at d;cases d),λh st k q j d=>(by unfold pS at d;cases d),λh st k q j d=>(by unfold nB at d;cases d),λh st k q j d=>(by unfold rW at d;cases d),λh st k q j d=>(by unfold sA at d;cases d)⟩
 |n+1,D=>λm C=>by
  have A:=R9 z y n co;rcases Nat.lt_or_ge m (n+1)with B|B
  .exact A m co
  have:m=n+1:=co
  subst this;exact⟨λh st k q j d x w=>aaA z y co A h st k q j d x w,λh st k q j d x w=>Z5 z y co A h st k q j d x w,λh st k q j d x w=>afq z y co A h st k q j d x w,λh st k q j d x w=>abH z y (A n (br _)) h st k q j d x w,λh st k q j d x w=>X7 z y (A n (br _)) h st k q j d x w,λh st k q j d x w=>ab0 z y co A h st k q j d x w⟩
end
def _root_.Go.W.LH.perm{M:Nat->Prop}{w0 w:J}{L L' D:List En}(H:LH M w0 w L D)(h:L.Perm L'):LH M w0 w L' D:=
 ⟨H.fr,λe d=>H.own e (h.mem_iff.2 d),H.rd,λe d=>H.new e (h.mem_iff.2 d),(h.flatMap_right (·.fp)).nodup_iff.1 H.nd,λe d b k j q=>H.dj e d b k j (h.mem_iff.2 q)⟩
def Iq(s:BL):∀(f i:Nat),s.length<f+i->∃init,pY s f i=init++[⟨[],s.length,0,0,0⟩]/\init.length+i<=max i s.length
 |0,i,h=>⟨[],rfl,by simp;omega⟩
 |f+1,i,h=>by
  unfold pY;split
  .exact ⟨[],rfl,by simp;omega⟩
  .split
   .obtain ⟨init,d,j⟩:=Iq s f (i+1) co;exact⟨init,d,co⟩
   .simp only;have q:=Tm s i;have w:=Uv s i s.length 1 co;generalize kz s i=g at q;generalize oQ s i s.length 1=e at w;have k:1<=(if g.n=0 then e else g.n)/\i+(if g.n=0 then e else g.n)<=s.length:=by split<;>omega
    generalize(if g.n=0 then e else g.n)=n at k;obtain⟨init,d,j⟩:=Iq s f (i+n) co;exact⟨_::init,by rw[d];rfl,by simp only[List.length_cons];omega⟩
def agF(s:BL):jM (nO s)/\(nO s).length<=s.length+1:=by
 obtain⟨init,j,k⟩:=Iq s (s.length+1) 0 co;have e:nO s=init++[⟨[],s.length,0,0,0⟩]:=j;rw[e];have d:(init++[(⟨[],s.length,0,0,0⟩:dX)]).length=init.length+1:=ws
 have h:gi (init++[(⟨[],s.length,0,0,0⟩:dX)]) init.length=⟨[],s.length,0,0,0⟩:=by unfold gi;simp[List.getD_eq_getElem?_getD]
 refine⟨⟨co,?_,?_⟩,co⟩
 .rw [d,Nat.add_sub_cancel,h]
 .rw [d,Nat.add_sub_cancel,h]
def XD(w:J)(x:Rx)(a:Nat)(e:Int)(r:bW)(Y:J):Prop:=∃t:I,r=ae (.tuple #[t.v,.i (a:Int),.i e])/\t.rx=x/\t.P Y/\∀b∈t.fp,w.heap.size<=b
def Zq(s:ByteArray)(hs:s.size<=100000)(x:Rx)(a:Nat)(e:Int)(d:vo (bl s)=some (x,a,e))(w:J):ai V On #[.string s] w λr w'=>XD w x a e r w'/\af w w':=by
 have hl:(bl s).length=s.size:=dY s;obtain⟨C,hlen⟩:=agF (bl s);unfold vo at d;refine K8.aC ((bK [] ws).aH λS w1 O=>aF (λh=>O.ah λw2 H2=>?_) (λh=>O.iF (Y0 s hs w1) ?_))
 .rw [au co]at d;simp only[fy,eZ]at d;obtain⟨rfl,rfl,rfl⟩:=d;exact⟨⟨cC,rfl,rfl,k5 _,λb h=>(k6 h).elim⟩,H2.fr⟩
 rw[ag co]at d;generalize nO (bl s)=l at d C hlen;dsimp only at d;rintro _ N ⟨j,rfl,ho,hf⟩ _ F6;have H6:=F6.rd (dq j l) ho.bf (sZ hf);cases H:lN l 1000 (0,false)with
 |none=>rw[H]at d;cases d
 |some al=>
  obtain⟨Z,M⟩:=al;rw[H]at d;dsimp only at d;refine⟨j,rfl,H6.nw λw7 _ y=>?_⟩;have y:LH F0 w w7 (di N.heap.size j (0,false)::[.g S]) [dq j l]:=y.perm (List.Perm.swap _ _ _);refine y.iZ ((R9 C co 1000 co 1000 (br _)).expr N.heap.size (0,false) w7 Z M H C.1 y.gG) ?_;rintro _ w8 ⟨⟨u,rfl,Y,pu,T⟩,U⟩ _ F8;have H8:=F8 (.tree u) pu λb h=>T b (aT.1 h);refine⟨_,_,_,u.s,rfl,H8.aH λb6 ap H9=>H9.ah λae z=>?_⟩;have z:LH F0 w ae (di N.heap.size j M::[.g S,.g b6]) [dq j l,.tree u]:=z;refine z.iZ (w9 z.gG U co []) ?_;have G:=yj C U [] md;rintro _ aa rfl k _;generalize k4 l [] M=pU at d G k;refine⟨rfl,pU.2,k.ld 0 2,bT (λE=>k.ah λan q=>?_) (λE=>?_)⟩
  .rw [au E]at d;simp only[fy,eZ]at d;obtain⟨rfl,rfl,rfl⟩:=d;have hn:=y5 (q.getD 0:bN _ _ _ _);refine⟨j,q.ld 0 0,(pU.1:Int),q.ld 0 1,co,co,y6 (q.getD 0) G λp hp c=>⟨((gi l pU.1).at_:Int),?_,q.ah λaj A=>⟨?_,A.ld 0 1,A.ld 0 0,⟨cC,rfl,rfl,k5 _,λb h=>(k6 h).elim⟩,A.fr⟩⟩⟩
   .rw [bB];exact c.c1
   .rw [bB];have:=y6 (A.getD 0) G (K:=λD=>∃L,j.a=some L/\D=L/\Jc aj L pU.1 (gi l pU.1)) (λD W F=>⟨D,W,rfl,F⟩);rw[hp]at this;obtain⟨D,W,rfl,F⟩:=this;exact F.c1
  .rw [ag (by rw[E];simp)]at d;have ad:u.P aa:=k.getD 1;have am:Z.sz=u.sz:=by rw[<-Y,I.eX]
   by_cases ac:u.sz<=1000000
   .rw [ag co]at d;refine k.aA (DS u aa ac ad) ?_;rintro _ ao rfl Q;refine⟨_,rfl,aF (λab=>Q.ah λak B=>?_) (λab=>Q.ah λak B=>?_)⟩
    .rw [au co]at d;simp only[fy,eZ]at d;obtain⟨rfl,rfl,rfl⟩:=d;exact⟨⟨cC,rfl,rfl,k5 _,λb h=>(k6 h).elim⟩,B.fr⟩
    .rw [ag co]at d;simp only[fy,eZ]at d;obtain⟨rfl,rfl,rfl⟩:=d;exact⟨⟨u,rfl,Y,B.getD 1,λb h=>bb y.fr.size (T b h)⟩,B.fr⟩
   .rw [au co]at d;cases d
def cN(a b:BL):ba a++ba b=ba (a++b):=by apply ByteArray.ext;rw[ByteArray.data_append];simp[ba]
def uo{w:J}{b n:Nat}{cs:List aa}{T:aE}(h:w.heap[b]? =some (.cells cs.toArray T (0,0)))(j:n=cs.length):Rd w ⟨some (ab b),n,n⟩ cs:=
 By (s:=⟨some (ab b),n,n⟩) j (br _) (λh=>by cases h) λi v d=>⟨ab b,rfl,cellAt (p:=ab b) h rfl (by simpa using d)⟩
def J0(c:UInt8)(w:J):ai V Oz #[.int .u8 (c.toNat:Int)] w λr h=>r=ae (.bool (eW c))/\af w h:=by
 refine Le.ok (aF (λd=>⟨?_,Fr.refl _ _⟩) (λd=>⟨?_,Fr.refl _ _⟩))
 .unfold eW;rw[aR (show 97<=c.toNat by omega),Bool.true_and,show av ((c.toNat:Int)<=122)=av (c.toNat<=122)from decide_eq_decide.2 co]
 .unfold eW;rw[aW (show ¬97<=c.toNat by omega),Bool.false_and]
def D2(c:UInt8)(w:J):ai V Oj #[.int .u8 (c.toNat:Int)] w λr G=>r=ae (.string (ba (dZ c)))/\af w G:=by
 have L:=c.toNat_lt;have A:LH F0 w w [] []:=bK [] ws;refine K4.ok (A.call (J1 c w) ?_);rintro _ z rfl y;refine⟨_,rfl,bT (λq=>?_) (λq=>?_)⟩
 .refine y.k7 (λx _ d j=>?_);have K:((39:UInt8).toNat:Int)=39:=rfl;have h:Bytes x ⟨some (ab z.heap.size),3,3⟩ [39,c,39]:=uo (T:=cJ) j rfl;have k:=kR h;refine⟨ba [39,c,39],k,?_,d.fr⟩;unfold dZ;rw[au q]
 .have D:aj .i64 (c.toNat:Int)=(c.toNat:Int):=aQ _ co;have E:aj .i64 (bQ (c.toNat:Int) 16)=((c.toNat / 16:Nat):Int):=by rw[Int.tdiv_eq_ediv_of_nonneg co,aQ _ co];omega
  have F:cw (c.toNat:Int) 16=((c.toNat%16:Nat):Int):=by rw[Int.tmod_eq_emod_of_nonneg co];omega
  rw[D,E,F];refine y.call (D5 (c.toNat / 16) co z) ?_;rintro _ x rfl d;refine⟨_,rfl,d.call (D5 (c.toNat%16) co x) ?_⟩;rintro _ H rfl B;refine⟨_,rfl,B.k7 (λI _ C j=>?_)⟩;have h:Bytes I ⟨some (ab H.heap.size),4,4⟩ [92,120,i2 (c.toNat / 16),i2 (c.toNat%16)]:=uo (T:=cJ) j rfl;have k:=kR h;refine⟨ba [92,120,i2 (c.toNat / 16),i2 (c.toNat%16)],k,?_,C.fr⟩;unfold dZ;rw[ag (by rw[q];simp)]
abbrev mR(s:Sl)(l:List Nd)(d:Nd):List En:=[.gr s l,dt d]
def x4{w:J}{s:Sl}{l:List Nd}{d:Nd}(h:GP w s l)(k:d.P w):LH F0 w w [] (mR s l d):=bK _ (by
 intro e j;simp only[aq,aL,aO]at j;rcases j with rfl|rfl
 .exact ch.2 h
 .exact k)
def YG{w:J}{s:Sl}{l:List Int}(h:bx w s l)(B:l.length<=1000000000000)(n:Int):ai V Oa #[s.v,.i n] w λr k=>r=ae (.bool (av (n∈l)))/\af w k:=by
 have C:=bx.len h;have loop:∀(d i:Nat),i+d=l.length->(n∈l↔n∈l.drop i)->xw.L0 s n (i:Int) w λr k=>r=ae (.bool (av (n∈l)))/\af w k:=by
  intro d;induction d with
  |zero=>
   intro i z j;rw[c9 co]at j;exact xw.bE (aN (aW co) ⟨by rw[aW (λh=>by have:=j.1 h;simp at this)],Fr.refl _ _⟩)
  |succ d A=>
   intro i z j;have q:l[i]? =some (l[i]'co):=a' co;rw[dz (by omega:i<l.length),aq]at j;generalize l[i]'co=x at q j;refine xw.bE (aM (aR co) ⟨co,co,h.cell q co λp D y=>⟨x,y,aP (λe=>⟨?_,Fr.refl _ _⟩) (λe=>?_)⟩⟩)
   .rw [aR (j.2 (.inl e.symm))]
   .rw [bc _ co];exact A (i+1) co (j.trans ⟨λh=>h.resolve_left (λh=>e h.symm),.inr⟩)
 exact xw.ok (loop l.length 0 co ws)
def JQ{w:J}{s:Sl}{l:List Int}(h:bx w s l)(d:l.length<=1000000000000)(n:Int):ai V OX #[s.v,.i n] w λr j=>r=ae (.bool (av (n∈l)))/\af w j:=by refine Lu.ok ((YG h d n).mono ?_);rintro _ k ⟨rfl,f⟩;exact⟨_,rfl,rfl,f⟩
def DI{w:J}{b n:Nat}{l:List Int}{T:aE}(h:w.heap[b]? =some (.cells (l.map a5).toArray T (0,0)))(d:n=l.length):bx w ⟨some (ab b),n,n⟩ l:=
 uo h (by simpa using d)
def fH:Nat:=1000000000
def L9(op:Int):(av (op∈[(21:Int),22,23,28])=qH op)/\(av (op∈[(0:Int),2,33])=qI op):=by
 constructor
 .unfold qH;by_cases d:op=21
  .subst d;rfl
  by_cases h:op=22
  .subst h;rfl
  by_cases j:op=23
  .subst j;rfl
  by_cases k:op=28
  .subst k;rfl
  simp[d,h,j,k]
 .unfold qI;by_cases d:op=0
  .subst d;rfl
  by_cases h:op=2
  .subst h;rfl
  by_cases j:op=33
  .subst j;rfl
  simp[d,h,j]
def aaq(t:ByteArray):(t.toList==(bn #[]).toList)=av (t=ba []):=rr _ _
def adI{n:Nx}{A B:Prop}(h:bA (jW n) B A):∀a b:Bool,a=qH n.op->b=qI n.op->
  let j:=bA (!b) (bA (!(n.tx.toList==(bn #[]).toList)) A B) B
  let k:=bA (n.op !=1) (bA (n.u !=0) A j) j
  let d:=bA (n.op !=21) (bA (n.m !=0) A k) k
  bA (!a) (bA (n.n !=0) A d) d:=by rintro a b rfl rfl;dsimp only;rw[aaq];unfold jW at h;have q:(n.op !=1)= !(n.op==1):=rfl;have w:(n.op !=21)= !(n.op==21):=rfl;have x:(n.n !=0)= !(n.n==0):=rfl;have y:(n.m !=0)= !(n.m==0):=rfl;have z:(n.u !=0)= !(n.u==0):=rfl;rw[q,w,x,y,z];generalize(n.op==1)=p1 at *;generalize(n.op==21)=p2 at *;generalize(n.n==0)=p3 at *;generalize(n.m==0)=p4 at *;generalize(n.u==0)=p5 at *;generalize av (n.tx=ba [])=p6 at *;generalize qH n.op=p7 at *;generalize qI n.op=p8 at *;cases p1<;>cases p2<;>cases p3<;>cases p4<;>cases p5<;>cases p6<;>cases p7<;>cases p8<;>exact h
def ot(g:List Nx)(n:Nx):Int:=if(dm n.op==(n.kids.length:Int)&&n.kids.all (fV g)&&jW n)=true then 0 else 1
def Y8{w:J}{s:Sl}{l:List Nd}{d:Nd}(h:GP w s l)(H:d.P w)(hk:d.x.kids.length<=fH):ai V OV #[s.v,d.v] w λr E=>r=ae (.i (ot (xs l) d.x))/\af w E:=by
 have hn:=i4 h;have K:d.ks.n=d.x.kids.length:=bx.len H;have N:(xs l).length=l.length:=by simp[xs]
 unfold fH at hk;have loop:∀(m i:Nat) (q:Nat) (j:J),i+m=d.x.kids.length->(dm d.x.op==(d.x.kids.length:Int))=true->(d.x.kids.all (fV (xs l))=(d.x.kids.drop i).all (fV (xs l)))->LH F0 w j [.g q] (mR s l d)->
   xJ.a6 s q d.x.op d.ks d.x.n d.x.m d.x.u d.x.tx d.x.st.k d.x.st.n d.x.st.x (i:Int) j λr E=>r=ae (.i (ot (xs l) d.x))/\af w E:=by
  intro m;induction m with
  |zero=>
   intro i q j hi D y z;rw[c9 co]at y;refine xJ.bD (aN (aW co) (z.nw λO _ A=>A.aA (JQ (l:=[21,22,23,28]) (DI (n:=4) (A.ob 1) rfl) md d.x.op) ?_));rintro _ Q rfl B;refine⟨_,rfl,B.nw λw4 _ F=>F.aA (JQ (l:=[0,2,33]) (DI (n:=3) (F.ob 2) rfl) md d.x.op) ?_⟩;rintro _ w5 rfl G;refine⟨_,rfl,?_⟩;have I:∀b:Bool,jW d.x=b->ot (xs l) d.x=if b=true then 0 else 1:=λb W=>by unfold ot;rw[D,y,W];rfl
   exact adI (n:=d.x) (bT (λh=>⟨by rw[I _ h];rfl,G.fr⟩) (λh=>⟨by rw[I _ h];rfl,G.fr⟩)) _ _ (L9 d.x.op).1 (L9 d.x.op).2
  |succ m ih=>
   intro i q j hi D y z;have C:d.x.kids[i]? =some (d.x.kids[i]'co):=a' co;rw[dz (by omega:i<d.x.kids.length),List.all_cons]at y;generalize d.x.kids[i]'co=x at C y;have bad:fV (xs l) x=false->(Ending.returned (.i 1)=ae (.i (ot (xs l) d.x))/\af w j):=λhx=>⟨by unfold ot;rw[y,hx];simp,z.fr⟩;have L:bx j d.ks d.x.kids:=z.getD 1;refine xJ.bD (aM (aR co) ⟨co,co,L.cell C co λp hp Y=>⟨x,Y,aF (λT=>bad ?_) (λT=>⟨co,co,L.cell C co λp' ab Z=>⟨x,Z,aF (λU=>bad ?_) (λU=>?_)⟩⟩)⟩⟩)
   .unfold fV;rw[aW co];rfl
   .unfold fV;rw[aW (show ¬x<((xs l).length:Int)by rw[N];omega)];simp
   .rw [bc _ co];refine ih (i+1) q j co D ?_ z;rw[y];unfold fV;rw[aR (show 0<=x by omega),aR (show x<((xs l).length:Int)by rw[N];omega)];rfl
 refine xJ.aC ((x4 h H).aH λq j S=>S.ah λO A=>A.aA (JA d.x.op O) ?_);rintro _ Q rfl B;refine⟨_,rfl,dA (λM=>⟨?_,B.fr⟩) (λaa=>?_)⟩
 .unfold ot;rw[beq_eq_false_iff_ne.2 (by rw[K]at M;exact M)];rfl
 .exact loop d.x.kids.length 0 q Q co (by rw[aa,K];simp) ws B
def zD(g:List Nx):Prop:=∀d∈g,d.op=0->∀e∈g,e.op=0->d.tx=e.tx->d.st=e.st
def v'(n d:Nx):Bool:=av (d.op=0/\d.tx=n.tx/\d.st≠n.st)
def IE{t:ByteArray}{s:bC}:∀{g:List Nx},kG g t=some s->∃h∈g,h.op=0/\h.tx=t/\h.st=s
 |h::g,d=>by
  unfold kG at d;split at d
  .rename_i j;exact⟨h,ws,j.1,j.2,Option.some.inj d⟩
  .obtain ⟨e,k,d⟩:=IE d;exact⟨e,e6 _ k,d⟩
def WH{t:ByteArray}:∀{g:List Nx},kG g t=none->∀d∈g,d.op=0->d.tx≠t
 |a::g,h,d,j,k,q=>by
  unfold kG at h;split at h
  .cases h
  .rename_i w;rcases aq.1 j with rfl|j
   .exact w ⟨k,q⟩
   .exact WH h d j k q
def Ww{g:List Nx}(A:zD g)(n:Nx):tq g n=g.any (v' n):=by
 unfold tq;cases q:kG g n.tx with
 |none=>
  symm;rw[List.any_eq_false];intro h j d;have d:=eT d;exact WH q h j d.1 d.2.1
 |some s=>
  obtain⟨h,j,w,x,y⟩:=IE q;by_cases k:s=n.st
  .simp only[k,decide_true,Bool.not_true];symm;rw[List.any_eq_false];intro e z d;have d:=eT d;exact d.2.2 ((A e z d.1 h j w (d.2.1.trans x.symm)).trans (y.trans k))
  .simp only[k,decide_false,Bool.not_false];symm;rw[List.any_eq_true];exact⟨h,j,aR ⟨w,x,λe=>k (y.symm.trans e)⟩⟩
def aea(n:Int)(h:0<=n)(j:n<64):aj .u64 (1 *2^(min (a0 n) (IntKind.bits .u64)))=((2^n.toNat:Nat):Int):=by
 have e:min (a0 n) (IntKind.bits .u64)=n.toNat:=by show min n.toNat 64=_;omega
 have d:(2:Nat)^n.toNat<=2^63:=Nat.pow_le_pow_right co co;rw[e,Int.one_mul,show((2:Int)^n.toNat)=((2^n.toNat:Nat):Int)from by rw[Int.natCast_pow];rfl];generalize(2:Nat)^n.toNat=m at d;exact IntWalk.u64_in _ co
abbrev g0(x:bC×Int):bW:=ae (.tuple #[ei x.1,.i x.2])
def wi{s:bC}(h:cv s=true)(d:s.k=0):1<=s.n/\s.n<=64/\s.x=0:=by unfold cv at h;simp[d]at h;omega
def m6{s:bC}(h:cv s=true):0<=s.n/\s.n<=64/\0<=s.x/\s.x<=16/\0<=s.k/\s.k<=3:=by unfold cv at h;simp at h;omega
def Zi{w:J}{s:Sl}{l:List Nd}{d:Nd}(h:GP w s l)(hd:d.P w)(hl:l.length<=fH)(h0:0<=d.x.op)(Y:d.x.op<=3)(hv:zD (xs l)):ai V OY #[s.v,d.v] w λr q=>r=g0 (cQ (xs l) d.x)/\af w q:=by
 have hn:=i4 h;have aq:(xs l).length=l.length:=by simp[xs]
 unfold fH at hl;have e0:d.x.op=0\/d.x.op=1\/d.x.op=2\/d.x.op=3:=co
 refine kh.aC ((x4 h hd).aH λB w1 H1=>H1.aH λz w2 U=>aP (λW=>?_) (λW=>?_))
 .refine aF (λhs=>U.ah λM H=>⟨?_,H.fr⟩) (λhs=>U.aA (pc _ w2) ?_)
  .unfold cQ;rw[au W,au co];rfl
  .rintro _ M rfl H;refine⟨_,_,_,rfl,H.ah λZ N=>⟨?_,N.fr⟩⟩;unfold cQ;rw[au W,ag co]
 have F:cQ (xs l) d.x=if d.x.op=0/\e4 (bl d.x.tx)=false then(du,6)else
   if cv d.x.st=false then(du,9)else
   if d.x.op=1/\d.x.st.k≠0\/d.x.op=3/\eG d.x.st=false then(du,9)else
   if d.x.op=1/\gk d.x.u d.x.st.n=true then(du,5)else
   if d.x.op=0/\(xs l).any (v' d.x)=true then(du,8)else(d.x.st,0):=by unfold cQ;rw[ag W,Ww hv]
 have S0:∀(nm:Bool) (M:J),nm=(!decide (d.x.op=0)||e4 (bl d.x.tx))->LH F0 w M [.g B,.g z] (mR s l d)->kh.bt s B d.x.op d.ks d.x.n d.x.m d.x.u d.x.tx d.x.st.k d.x.st.n d.x.st.x z 0 0 0 nm M λr q=>r=g0 (cQ (xs l) d.x)/\af w q:=by
  intro nm M O H;refine eb (λK=>H.ah λZ N=>⟨?_,N.fr⟩) (λE=>?_)
  .rw [K]at O;have O:=O.symm;simp only[Bool.or_eq_false_iff,Bool.not_eq_false',decide_eq_true_eq]at O;rw[F,au O];rfl
  have al:¬(d.x.op=0/\e4 (bl d.x.tx)=false):=λhc=>by rw[E,hc.2,aR hc.1]at O;simp at O
  rw[ag al]at F;refine H.aA (aeA d.x.st M) ?_;rintro _ Z rfl N;refine⟨_,rfl,HQ (λK=>N.ah λj A=>⟨?_,A.fr⟩) (λE=>?_)⟩
  .rw [F,au K];unfold hN;rw[K];rfl
  rw[ag (by rw[E];simp)]at F;have loop:∀(m i:Nat) (j:J),i+m=l.length->cQ (xs l) d.x=(if d.x.op=0/\((xs l).drop i).any (v' d.x)=true then(du,8)else(d.x.st,0))->LH F0 w j [.g B,.g z] (mR s l d)->
    kh.lC s B d.x.op d.ks d.x.n d.x.m d.x.u d.x.tx d.x.st.k d.x.st.n d.x.st.x z 0 0 0 (i:Int) j λr q=>r=g0 (cQ (xs l) d.x)/\af w q:=by
   intro m;induction m with
   |zero=>
    intro i j hi G A;rw[c9 co]at G;refine kh.o5 (aN (aW co) (A.ah λC y=>⟨?_,y.fr⟩));rw[G,ag ws]
   |succ m ih=>
    intro i j hi G A;have T:l[i]? =some (l[i]'co):=a' co;have an:(xs l).drop i=(l[i]'co).x::(xs l).drop (i+1):=by rw[dz (by omega:i<(xs l).length)];simp[xs]
    rw[an,List.any_cons]at G;generalize l[i]'co=e at T G;have next:∀C,LH F0 w C [.g B,.g z] (mR s l d)->(d.x.op=0->v' d.x e.x=false)->kh.jN s B d.x.op d.ks d.x.n d.x.m d.x.u d.x.tx d.x.st.k d.x.st.n d.x.st.x z 0 0 0 (i:Int) C λr q=>r=g0 (cQ (xs l) d.x)/\af w q:=by
     intro C y E;show kh.lC s B d.x.op d.ks d.x.n d.x.m d.x.u d.x.tx d.x.st.k d.x.st.n d.x.st.x z 0 0 0 (aj .i64 ((i:Int)+1)) C _;rw[bc _ co];refine ih (i+1) C co ?_ y;rw[G];by_cases Q:d.x.op=0
     .rw [E Q,Bool.false_or]
     .rw [ag (λh=>Q h.1),ag (λh=>Q h.1)]
    have G5:GP j s l:=ch.1 (A.getD 0);refine kh.o5 (aM (aR co) (aP (λQ=>?_) (λQ=>A.ah λC y=>next C y (λh=>absurd h Q))));refine iM G5 rfl T λp hp _=>A.ah λC y=>?_;have c6:=Ff (ch.1 (y.getD 0)) T hp (rfl:((i:Int))=(i:Int));refine⟨_,c6.c0,aP (λS=>?_) (λS=>next C y λ_=>aW λh=>S h.1)⟩;refine iM (ch.1 (y.getD 0)) rfl T λp1 ao ak=>⟨_,ak.c5,jH (λE=>?_) (λE=>next C y λ_=>aW λh=>E h.2.1)⟩;refine iM (ch.1 (y.getD 0)) rfl T λp2 ap aa=>⟨_,_,_,aa.s0,aa.s1,aa.s2,BK (λK=>y.ah λw7 H7=>⟨?_,H7.fr⟩) (λam=>next C y λ_=>aW λh=>h.2.2 am)⟩;rw[G,au ⟨Q,by rw[show v' d.x e.x=true from aR ⟨S,E,K⟩];rfl⟩];rfl
  have S4:∀j:J,cQ (xs l) d.x=(if d.x.op=0/\(xs l).any (v' d.x)=true then(du,8)else(d.x.st,0))->LH F0 w j [.g B,.g z] (mR s l d)->
    kh.hx s B d.x.op d.ks d.x.n d.x.m d.x.u d.x.tx d.x.st.k d.x.st.n d.x.st.x z 0 0 0 j λr q=>r=g0 (cQ (xs l) d.x)/\af w q:=λj G A=>loop l.length 0 j co G A
  have S1:∀(a:Bool) (j:J),a=eG d.x.st->LH F0 w j [.g B,.g z] (mR s l d)->kh.b3 s B d.x.op d.ks d.x.n d.x.m d.x.u d.x.tx d.x.st.k d.x.st.n d.x.st.x z 0 0 0 a j λr q=>r=g0 (cQ (xs l) d.x)/\af w q:=by
   rintro a j rfl A;have bad:(d.x.op=1/\d.x.st.k≠0\/d.x.op=3/\eG d.x.st=false)->kh.cd z 0 0 0 j λr q=>r=g0 (cQ (xs l) d.x)/\af w q:=λD=>A.ah λC y=>⟨by rw[F,au D];rfl,y.fr⟩;have S3:¬(d.x.op=1/\d.x.st.k≠0\/d.x.op=3/\eG d.x.st=false)->kh.dc s B d.x.op d.ks d.x.n d.x.m d.x.u d.x.tx d.x.st.k d.x.st.n d.x.st.x z 0 0 0 j λr q=>r=g0 (cQ (xs l) d.x)/\af w q:=λD=>by
    rw[ag D]at F;refine aP (λI=>?_) (λI=>S4 j (by rw[F,ag (λh=>I h.1)]) A);have L:d.x.st.k=0:=by
     rcases Int.decEq d.x.st.k 0 with h|h
     .exact absurd (.inl ⟨I,h⟩) D
     .exact h
    obtain⟨v1,v2,_⟩:=wi E L;have ew:aj .u64 d.x.st.n=d.x.st.n:=IntWalk.u64_in _ co;refine aF (λab=>⟨by rw[ew];omega,?_⟩) (λab=>S4 j (by rw[F,ag];rintro⟨_,D⟩;unfold gk at D;rw[aW co]at D;cases D) A);rw[ew,aea _ co ab];have hp:((2^d.x.st.n.toNat:Nat):Int)=(2:Int)^d.x.st.n.toNat:=by rw[Int.natCast_pow];rfl
    rw[hp];refine aF (λad=>A.ah λC y=>⟨?_,y.fr⟩) (λad=>S4 j ?_ A)
    .rw [F,au ⟨I,by unfold gk;rw[aR ab,aR ad];rfl⟩];rfl
    .rw [F,ag];rintro⟨_,D⟩;unfold gk at D;rw[aW (by omega:¬(2:Int)^d.x.st.n.toNat<=d.x.u),Bool.and_false]at D;cases D
   have ae:¬(d.x.op=1/\d.x.st.k≠0)->bA (d.x.op==3) (bA (!eG d.x.st) (kh.cd z 0 0 0 j λr q=>r=g0 (cQ (xs l) d.x)/\af w q) (kh.dc s B d.x.op d.ks d.x.n d.x.m d.x.u d.x.tx d.x.st.k d.x.st.n d.x.st.x z 0 0 0 j λr q=>r=g0 (cQ (xs l) d.x)/\af w q)) (kh.dc s B d.x.op d.ks d.x.n d.x.m d.x.u d.x.tx d.x.st.k d.x.st.n d.x.st.x z 0 0 0 j λr q=>r=g0 (cQ (xs l) d.x)/\af w q):=λL=>
    aP (λY=>eb (λK=>bad (.inr ⟨Y,K⟩)) (λE=>S3 (by rintro(h|h);exact L h;rw[E]at h;cases h.2))) (λY=>S3 (by rintro(h|h);exact L h;exact Y h.1))
   exact aP (λI=>dA (λL=>bad (.inl ⟨I,L⟩)) (λL=>ae (λh=>h.2 L))) (λI=>ae (λh=>I h.1))
  refine aP (λac=>S1 true Z ?_ N) (λac=>S1 _ Z ?_ N)
  .unfold eG;rw[ac];rfl
  .unfold eG;rw[beq_eq_false_iff_ne.2 ac];rfl
 refine dA (λS=>S0 true w2 ?_ U) (λS=>U.aA (YP d.x.tx w2) ?_)
 .rw [aW S];rfl
 .rintro _ M rfl H;exact⟨_,rfl,S0 _ M (by rw[aR S];rfl) H⟩
def Cg{s:bC}(h:(s.k=0/\1<=s.n/\s.n<=64/\s.x=0)\/(s.k=1/\0<=s.n/\s.n<=64/\s.x=0)\/(s.k=2/\1<=s.n/\s.n<=64/\1<=s.x/\s.x<=16)\/(s.k=3/\0<=s.n/\s.n<=64/\1<=s.x/\s.x<=16)):cv s=true:=by unfold cv;rcases h with⟨d,j,q,w⟩|⟨d,j,q,w⟩|⟨d,j,q,w,y⟩|⟨d,j,q,w,y⟩<;>simp[d,j,q,w]<;>simp[y]
def ID{s:bC}:cv s=true↔(s.k=0/\1<=s.n/\s.n<=64/\s.x=0)\/(s.k=1/\0<=s.n/\s.n<=64/\s.x=0)\/(s.k=2/\1<=s.n/\s.n<=64/\1<=s.x/\s.x<=16)\/(s.k=3/\0<=s.n/\s.n<=64/\1<=s.x/\s.x<=16):=by refine⟨λd=>?_,Cg⟩;unfold cv at d;simp only[Bool.or_eq_true,bH,beq_iff_eq,decide_eq_true_eq]at d;omega
structure t'(g:List Nx)(n:Nx):Prop where
 kl:dm n.op=(n.kids.length:Int)
 ki:∀k∈n.kids,0<=k/\k<(g.length:Int)
 ok:jW n=true
def H2{g:List Nx}{n:Nx}(h:(cK g n).2=0):t' g n:=by
 unfold cK at h;split at h
 .cases h
 .rename_i d;simp only[Bool.and_eq_false_iff,not_or,Bool.not_eq_false,beq_iff_eq]at d;refine⟨d.1.1,λk j=>?_,d.2⟩;have:=List.all_eq_true.1 d.1.2 k j;unfold fV at this;simpa using this
def ab7{g:List Nx}{n:Nx}(q:∀j∈g,cv j.st=true)(k:∀h∈n.kids,0<=h/\h<(g.length:Int)){i:Nat}(hi:i<n.kids.length):cv (cr g n i)=true:=by
 have w:=k _ (List.getElem_mem hi);unfold cr;rw[a' hi];dsimp only;have d:(n.kids[i]).toNat<g.length:=co
 rw[a' d];exact q _ (List.getElem_mem d)
def aap{x:bC}(h:cv x=true)(d:eG x=true):cv (iI x)=true:=by
 rw[ID]at h;unfold eG at d;simp only[Bool.or_eq_true,beq_iff_eq]at d;unfold iI;refine Cg ?_;split
 .show (0=0/\1<=x.n/\x.n<=64/\0=0)\/_;left;omega
 .right;left;show(1:Int)=1/\0<=x.n/\x.n<=64/\(0:Int)=0;omega
def pa{n:Int}(d:1<=n)(h:n<=64):cv (bP n)=true:=Cg (.inl ⟨rfl,d,h,rfl⟩)
def yZ{n:Int}(d:0<=n)(h:n<=64):cv (fv n)=true:=Cg (.inr (.inl ⟨rfl,d,h,rfl⟩))
def afM{g:List Nx}{n:Nx}(W:∀N∈g,cv N.st=true)(h:(cK g n).2=0):cv (cK g n).1=true:=by
 have E:=H2 h;have D:∀i:Nat,(i:Int)<dm n.op->cv (cr g n i)=true:=λi Y=>ab7 W E.ki (by have:=E.kl;omega);unfold cK at h ⊢;split at h
 .cases h
 rename_i H;rw[ag H];split at h
 .rename_i G;rw[au G];unfold cQ at h ⊢;split at h
  .rename_i A;rw[au A];split at h
   .cases h
   .rename_i U;rw[ag U];exact yZ co co
  .rename_i A;rw[ag A];split at h
   .cases h
   rename_i O;rw[ag O];split at h
   .cases h
   rename_i q;rw[ag q];split at h
   .cases h
   rename_i Q;rw[ag Q];split at h
   .cases h
   rename_i S;rw[ag S];split at h
   .cases h
   rename_i T;rw[ag T];simpa using q
 rename_i G;rw[ag G];split at h
 .cases h
 rename_i d;rw[ag d];split at h
 .cases h
 rename_i j;rw[ag j];split at h
 .cases h
 rename_i I;rw[ag I];simp only[Bool.not_eq_false]at d j;have P:n.op<=34:=by
  rcases Int.lt_or_le 34 n.op with h|h
  .have:=E.kl;unfold dm at this;rw[au (.inr h)]at this;omega
  .exact h
 generalize K:cr g n 0=x at *;generalize L:cr g n 1=y at *;generalize M:cr g n 2=z at *;have w:cv x=true:=by rw[<-K];exact D 0 (by unfold dm;repeat' split<;>omega)
 have B:2<=dm n.op->cv y=true:=λh=>by rw[<-L];exact D 1 co
 have F:dm n.op=3->cv z=true:=λh=>by rw[<-M];exact D 2 co
 obtain⟨op,kids,C,m,u,Z,st⟩:=n;simp only at *;clear K L M D E H I;rcases vl co P with rfl|rfl|rfl|rfl|rfl|rfl|rfl|rfl|rfl|rfl|rfl|rfl|rfl|rfl|rfl|rfl|rfl|rfl|rfl|rfl|rfl|rfl|rfl|rfl|rfl|rfl|rfl|rfl|rfl|rfl|rfl|rfl|rfl|rfl|rfl
 iterate 4 omega
 all_goals first |(have B:=B md)|skip
 all_goals first |(have F:=F md)|skip
 iterate 12 exact w
 iterate 3 exact pa co co
 .show cv (if y.k=1 then fv (if y.n<z.n then z.n else y.n)else y)=true;split
  .rename_i D;have d:(av (x=bP 1)&&(av (y=z)||(y.k==1&&z.k==1)))=true:=d;have q:=m6 B;have A:=m6 F;exact yZ (by split<;>omega) (by split<;>omega)
  .exact B
 .have d:(x.k==0&&y.k==0)=true:=d;have j:av (x.n+y.n<=64)=true:=j;simp only[bH,beq_iff_eq]at d;have q:=wi w d.1;have A:=wi B d.2;exact pa co (eT j)
 .have d:(x.k==0)=true:=d;have j:(av (0<=m)&&av (m<=C)&&av (C<x.n))=true:=j;simp only[bH,decide_eq_true_eq]at j;have q:=wi w (eq_of_beq d);show cv (bP (C - m+1))=true;exact pa co co
 iterate 2
  .have d:(x.k==0)=true:=d;have j:(av (1<=C)&&av (C<=64 - x.n))=true:=j;simp only[bH,decide_eq_true_eq]at j;have q:=wi w (eq_of_beq d);show cv (bP (x.n+C))=true;exact pa co co
 .have d:(eG x&&av (y=bP x.x))=true:=d;simp only[bH]at d;exact aap w d.1
 .exact w
 .have d:(eG x&&av (x=y))=true:=d;simp only[bH]at d;have q:=d.1;unfold eG at q;simp only[Bool.or_eq_true,beq_iff_eq]at q;rw[ID]at w;exact pa co co
 .exact pa co co
 .exact pa co co
 .have j:av (x.n+y.n<=64)=true:=j;have q:=m6 w;have A:=m6 B;exact yZ co (eT j)
 .exact w
 .exact pa co co
 .have j:av (x.n+z.n<=64)=true:=j;have q:=m6 w;have A:=m6 F;exact yZ co (eT j)
 .exact pa co co
 .exact yZ co co
def Vg.val{g:List Nx}(h:Vg g):∀j∈g,cv j.st=true:=by
 induction h with
 |nil=>simp
 |snoc w k x q=>
  intro j d;rcases aX.1 d with d|d
  .exact q j d
  .simp only[aq,aL,aO]at d;subst d;have:=afM q (by rw[k])
   rwa[k]at this
def var_eq{g E:List Nx}{a b:Nx}(j:t' g a)(G:t' E b)(h:a.op=0)(k:b.op=0)(I:a.tx=b.tx)(H:a.st=b.st):a=b:=by
 have q:∀{g:List Nx} {a:Nx},t' g a->a.op=0->a.kids=[]/\a.n=0/\a.m=0/\a.u=0:=by intro g a j h;have F:=j.kl;have d:=j.ok;rw[h]at F;unfold jW at d;rw[h]at d;refine⟨List.eq_nil_of_length_eq_zero (by have:dm 0=0:=rfl;omega),?_⟩;have:qH 0=false:=rfl;rw[this]at d;simp at d;exact⟨d.1.1.1,d.1.1.2,d.1.2⟩
 obtain⟨w,x,y,z⟩:=q j h;obtain⟨A,B,C,D⟩:=q G k;cases a;cases b;simp only at *;subst h k I H w x y z A B C D;rfl
def Vg.ok{g:List Nx}(h:Vg g):∀i j,g[i]? =some j->cK (g.take i) j=(j.st,0):=by
 induction h with
 |nil=>intro i j d;simp at d
 |@snoc g n x q y w=>
  intro i j d;rcases Nat.lt_or_ge i g.length with k|k
  .rw [List.getElem?_append_left k]at d;rw[List.take_append_of_le_length co];exact w i j d
  .rw [List.getElem?_append_right k]at d;have:i - g.length=0:=by have:=(cX.1 d).1;simp at this;omega
   rw[this]at d;simp at d;subst d;rw[show i=g.length by omega,List.take_left];exact q
def Vg.HX{g:List Nx}(h:Vg g):∀i d,g[i]? =some d->t' (g.take i) d:=λi d j=>H2 (by rw[h.ok i d j])
def Vg.kids{g:List Nx}(h:Vg g){i:Nat}{d:Nx}(k:g[i]? =some d):∀j∈d.kids,0<=j/\j<(i:Int):=λj w=>by have q:=(h.HX i d k).ki j w;have x:=(cX.1 k).1;rw[List.length_take]at q;omega
def Vg.vars{g:List Nx}(h:Vg g):zD g:=by
 induction h with
 |nil=>intro q j;cases j
 |@snoc g n B d C A=>
  have one:∀q∈g,q.op=0->n.op=0->q.tx=n.tx->q.st=n.st:=by
   intro q j x y w;have D:t' g n:=H2 (by rw[d]);unfold cK at d;split at d
   .simp at d
   rw[au (by omega:n.op<=3)]at d;unfold cQ at d;rw[ag co]at d;split at d
   .simp at d
   split at d
   .simp at d
   split at d
   .simp at d
   split at d
   .simp at d
   split at d
   .simp at d
   rename_i z;simp only[y,true_and,Bool.not_eq_true]at z;rw[Ww A,List.any_eq_false]at z;rcases decEq q.st n.st with h|h
   .exact absurd (aR ⟨x,w,h⟩) (z q j)
   .exact h
  intro q j x e k y w;have j:=aX.1 j;have k:=aX.1 k;simp only[aq,aL,aO]at j k;rcases j with j|j
  .rcases k with k|k
   .exact A q j x e k y w
   .rw [k]at w y ⊢;exact one q j x y w
  .rw [j]at w x ⊢;rcases k with k|k
   .exact (one e k y x w.symm).symm
   .rw [k]
def Fl{n:Nx}:∀{g:List Nx} {i:Nat},ie n g i=none->n∉g
 |[],i,_=>ws
 |j::g,i,d=>by
  unfold ie at d;split at d
  .cases d
  .rename_i h;simp only[aq,not_or];exact⟨λe=>h e.symm,Fl d⟩
def Aq{n:Nx}:∀{g:List Nx} {i k:Nat},ie n g i=some k->i<=k/\g[k - i]? =some n
 |j::g,i,k,d=>by
  unfold ie at d;split at d
  .rename_i h;cases d;simp[h]
  .have:=Aq d;refine⟨co,?_⟩;rw[show k - i=(k - (i+1))+1 by omega];simpa using this.2
set_option maxHeartbeats 1000000
def eF(w:J)(p:Addr)(d:Nd):Prop:=∀i v,(Nd.c d)[i]? =some v->w.cell? (p.add i)=some v
def eF.st{w Y:J}{p:Addr}{d:Nd}(h:eF w p d)(x:p.block<w.heap.size->Y.heap[p.block]? =w.heap[p.block]?):eF Y p d:=λi v q=>by have j:=h i v q;have k:=pe j;rw[jO]at k;unfold World.cell? at j ⊢;rw[jO]at j ⊢;rw[x k];exact j
def eF.lt{w:J}{p:Addr}{d:Nd}(h:eF w p d):p.block<w.heap.size:=by
 have:=pe (h 0 _ rfl)
 rwa[jO]at this
def _root_.Go.W.En.jU(p:Addr)(d:Nd):En:=⟨[p.block],λj=>eF j p d,λj w q h=>h.st (q p.block ws),λj h b k=>by simp at k;subst k;exact eF.lt h,ws⟩
def A2{w:J}{b:Nat}{d:Nd}{T:aE}(h:w.heap[b]? =some (.cells (Nd.c d).toArray T (0,0))):eF w (ab b) d:=λi v j=>cellAt (p:=ab b) h rfl (by simpa using j)
section
variable {w:J} {p:Addr} {d:Nd} (h:eF w p d)
include h
def eF.c0:w.cell? (p.add 0)=some (.i d.x.op):=h 0 _ rfl
def eF.c1:w.cell? (p.add 1)=some d.ks.v:=h 1 _ rfl
def eF.c2:w.cell? (p.add 2)=some (.i d.x.n):=h 2 _ rfl
def eF.c3:w.cell? (p.add 3)=some (.i d.x.m):=h 3 _ rfl
def eF.c4:w.cell? (p.add 4)=some (.u d.x.u):=h 4 _ rfl
def eF.c5:w.cell? (p.add 5)=some (.string d.x.tx):=h 5 _ rfl
def eF.s0:w.cell? ((p.add 6).add 0)=some (.i d.x.st.k):=by rw[add_add];exact h 6 _ rfl
def eF.s1:w.cell? ((p.add 6).add 1)=some (.i d.x.st.n):=by rw[add_add];exact h 7 _ rfl
def eF.s2:w.cell? ((p.add 6).add 2)=some (.i d.x.st.x):=by rw[add_add];exact h 8 _ rfl
end
def j1(n:Int)(w:J):ai V QY #[.i n] w λr j=>r=ae (ei (bP n))/\af w j:=
 Wd.aC ((bK [] ws).aH λb k d=>d.ah λq h=>⟨rfl,h.fr⟩)
def v8(n:Int)(w:J):ai V Rm #[.i n] w λr j=>r=ae (ei (fv n))/\af w j:=
 Wl.aC ((bK [] ws).aH λb k d=>d.ah λq h=>⟨rfl,h.fr⟩)
def tm(s:bC)(w:J):ai V Ra #[ei s] w λr h=>r=ae (.bool (s.k==0))/\af w h:=
 Wf.aC ((bK [] ws).aH λb j d=>⟨rfl,d.fr⟩)
def j2(s:bC)(w:J):ai V Rc #[ei s] w λr h=>r=ae (.bool (s.k==1))/\af w h:=
 Wh.aC ((bK [] ws).aH λb j d=>⟨rfl,d.fr⟩)
def Ii(s:bC)(w:J):ai V Q' #[ei s] w λr j=>r=ae (.bool (eG s))/\af w j:=
 We.aC ((bK [] ws).aH λb k h=>aP (λd=>⟨by unfold eG;rw[d];rfl,h.fr⟩) (λd=>⟨by unfold eG;rw[beq_eq_false_iff_ne.2 d];rfl,h.fr⟩))
def V3(x y:bC)(w:J):ai V QU #[ei x,ei y] w λr B=>r=ae (.bool (av (x=y)||(x.k==1&&y.k==1)))/\af w B:=by refine V'.aC ((bK [] ws).aH λb F z=>z.aH λE C j=>oS (a:=x) (b:=y) (λd=>⟨by rw[aR d];rfl,j.fr⟩) (λd=>j.aA (j2 x C) ?_));rintro _ D rfl q;rw[aW d,Bool.false_or];refine⟨_,rfl,aP (λh=>q.aA (j2 y D) ?_) (λh=>⟨by rw[beq_eq_false_iff_ne.2 h];rfl,q.fr⟩)⟩;rintro _ G rfl A;exact⟨_,rfl,by rw[h];rfl,A.fr⟩
def Hw(d ranges:Bool):Int:=if d=true then(if ranges=true then 0 else 5)else 9
def agv(s:bC)(q ranges:Bool)(w:J):ai V A1 #[ei s,.bool q,.bool ranges] w λr z=>r=g0 (s,Hw q ranges)/\af w z:=by refine Wj.aC ((bK [] ws).aH λb B y=>y.aH λA C j=>eb (λh=>j.ah λx d=>⟨by rw[h];rfl,d.fr⟩) (λh=>eb (λk=>j.ah λx d=>⟨by rw[h,k];rfl,d.fr⟩) (λk=>j.ah λx d=>⟨by rw[h,k];rfl,d.fr⟩)))
def V2(s:bC)(w:J):ai V Ro #[ei s] w λr z=>r=ae (.int .i64 (hN s))/\af w z:=by
 refine Ch.aC ((bK [] ws).aH λH E G=>?_);have I:cv s=true->(Ending.returned (Value.int .i64 0)=ae (.int .i64 (hN s))/\af w E):=λq=>⟨by unfold hN;rw[au q],G.fr⟩;have bad:cv s=false->(Ending.returned (Value.int .i64 9)=ae (.int .i64 (hN s))/\af w E):=λq=>⟨by unfold hN;rw[ag (by simp[q])],G.fr⟩;have plain:∀least:Int,(∀h:least<=s.n,s.n<=64->s.x=0->cv s=true)->(¬(least<=s.n/\s.n<=64/\s.x=0)->cv s=false)->Ch.bt H s.k s.n s.x least 64 false E λr z=>r=ae (.int .i64 (hN s))/\af w z:=by intro least h d;exact aF (λq=>bad (d co)) (λq=>aF (λF=>bad (d co)) (λF=>aN rfl (aM rfl (dA (λj=>bad (d (λK=>j K.2.2))) (λj=>I (h co co j))))))
 have array:∀least:Int,(∀h:least<=s.n,s.n<=64->1<=s.x->s.x<=16->cv s=true)->(¬(least<=s.n/\s.n<=64/\1<=s.x/\s.x<=16)->cv s=false)->Ch.bt H s.k s.n s.x least 64 true E λr z=>r=ae (.int .i64 (hN s))/\af w z:=by intro least h d;exact aF (λq=>bad (d co)) (λq=>aF (λF=>bad (d co)) (λF=>aM rfl (aF (λj=>bad (d co)) (λj=>aF (λy=>bad (d co)) (λy=>aN rfl (I (h co co co co)))))))
 refine aP (λA=>plain 1 (λh d j=>?_) (λq=>?_)) (λA=>aP (λB=>plain 0 (λh d j=>?_) (λq=>?_)) (λB=>aP (λC=>array 1 (λh d j y=>?_) (λq=>?_)) (λC=>aP (λD=>array 0 (λh d j y=>?_) (λq=>?_)) (λD=>bad ?_))))
 .unfold cv;simp[A,h,d,j]
 .unfold cv;rw[A];simp;omega
 .unfold cv;simp[B,h,d,j]
 .unfold cv;rw[B];simp;omega
 .unfold cv;simp[C,h,d,j,y]
 .unfold cv;rw[C];simp;omega
 .unfold cv;simp[D,h,d,j,y]
 .unfold cv;rw[D];simp;omega
 .unfold cv;simp[A,B,C,D]
def age{s:ByteArray}{i:Nat}(h:i<s.size):s[i]? =some (gQ (bl s) i):=by
 have d:i<(bl s).length:=h;have e:gQ (bl s) i=(bl s)[i]:=by unfold gQ;rw[List.getD_eq_getElem?_getD,a' d];rfl
 rw[e,getElem?_pos s i h];rfl
def ags(s:ByteArray)(w:J):ai V Rb #[.string s] w λr k=>r=ae (.bool (e4 (bl s)))/\af w k:=by
 have j:(bl s).length=s.size:=dY s;have nG:∀(c:UInt8) (m:List UInt8),e4 (c::m)=(av (m.length<=15)&&fD c&&m.all df):=λ_ _=>rfl;cases z:bl s with
 |nil=>
  have q:s.size=0:=by rw[<-j,z];rfl
  exact oW.ok (aM (aR co) ⟨rfl,Fr.refl _ _⟩)
 |cons c m=>
  have P:s.size=m.length+1:=by rw[<-j,z];rfl
  have F:gQ (bl s) 0=c:=by rw[z];rfl
  refine oW.ok (aN (aW co) (aF (λh=>⟨?_,Fr.refl _ _⟩) (λh=>?_)))
  .rw [nG,aW co];rfl
  have I:e4 (c::m)=(fD c&&m.all df):=by rw[nG,aR (by omega:m.length<=15),Bool.true_and]
  rw[I];have loop:∀(d i:Nat),i+d=s.size->(fD c&&m.all df)=(if i=0 then(fD c&&m.all df)else((bl s).drop i).all df)->oW.L1 s (i:Int) w λr k=>r=ae (.bool (fD c&&m.all df))/\af w k:=by
   intro d;induction d with
   |zero=>
    intro i M y;rw[c9 co,ag co]at y;exact oW.fO (aN (aW co) ⟨by rw[y];rfl,Fr.refl _ _⟩)
   |succ d O=>
    intro i M y;have G:=age (show i<s.size by omega);have H:(bl s).drop i=gQ (bl s) i::(bl s).drop (i+1):=by rw[dz (by omega:i<(bl s).length)];unfold gQ;rw[List.getD_eq_getElem?_getD,a' (by omega:i<(bl s).length)];rfl
    have go:(if i=0 then fD (gQ (bl s) i)else df (gQ (bl s) i))=true->oW.S5 s (i:Int) w λr k=>r=ae (.bool (fD c&&m.all df))/\af w k:=λh=>by
     show oW.L1 s (aj .i64 ((i:Int)+1)) w _;rw[bc _ co];refine O (i+1) co ?_;rw[ag co];by_cases q:i=0
     .subst q;rw[au rfl,F]at h;rw[h,Bool.true_and];rw[z];rfl
     .rw [ag q]at h y;rw[y,H,List.all_cons,h,Bool.true_and]
    have stop:(if i=0 then fD (gQ (bl s) i)else df (gQ (bl s) i))=false->oW.S4 w λr k=>r=ae (.bool (fD c&&m.all df))/\af w k:=λh=>by
     refine⟨?_,Fr.refl _ _⟩;by_cases q:i=0
     .subst q;rw[au rfl,F]at h;rw[h,Bool.false_and]
     .rw [ag q]at h y;rw[y,H,List.all_cons,h,Bool.false_and]
    generalize gQ (bl s) i=x at G go stop;have E:∀l:Bool,l=fD x->oW.S3 s (i:Int) (x.toNat:Int) l w λr k=>r=ae (.bool (fD c&&m.all df))/\af w k:=by
     intro l j;refine eb (λL=>?_) (λD=>go ?_)
     .rw [L]at j;refine aP (λq=>stop ?_) (λq=>?_)
      .rw [au co,<-j]
      have N:i≠0:=co
      rw[ag N]at go stop;have A:df x=((av (48<=x.toNat)&&av (x.toNat<=57))||x==45):=by unfold df;rw[<-j,Bool.false_or]
      refine dA (λC=>aF (λB=>stop ?_) (λB=>aF (λK=>stop ?_) (λK=>go ?_))) (λC=>go ?_)
      .rw [A,aW (show ¬48<=x.toNat by omega)];have:(x==45)=false:=beq_eq_false_iff_ne.2 λe=>C (by subst e;rfl);rw[this];rfl
      .rw [A,aW (show ¬x.toNat<=57 by omega),Bool.and_false];have:(x==45)=false:=beq_eq_false_iff_ne.2 λe=>C (by subst e;rfl);rw[this];rfl
      .rw [A,aR (show 48<=x.toNat by omega),aR (show x.toNat<=57 by omega)];rfl
      .have:x=45:=UInt8.toNat_inj.1 (by have:((45:UInt8).toNat:Int)=45:=rfl;omega);rw[A,this];rfl
     .rw [D]at j;split
      .exact j.symm
      .unfold df;rw[<-j];rfl
    have D:((i:Int)).toNat=i:=bB i;refine oW.fO (aM (aR co) ⟨co,x,by rw[D];exact G,aF (λB=>E _ ?_) (λB=>E _ ?_)⟩)
    .unfold fD;rw[aR (show 97<=x.toNat by omega),Bool.true_and];exact decide_eq_decide.2 co
    .unfold fD;rw[aW (show ¬97<=x.toNat by omega),Bool.false_and]
  exact loop s.size 0 co (by rw[au rfl])
def aar(t:ByteArray):(t.toList==(bn #[]).toList)=av (t=ba []):=rr _ _
def agr{w:J}{p:Addr}{d:Nd}(h:eF w p d):ai V QZ #[.pointer (some p)] w λr q=>r=ae (.bool (jW d.x))/\af w q:=by
 have C:∀a b c e:Bool,y3.S1 p a b c e w λr q=>r=ae (.bool ((a||d.x.n==0)&&(b||d.x.m==0)&&(c||d.x.u==0)&&(e||av (d.x.tx=ba []))))/\af w q:=by
  intro a b c e;cases a<;>cases b<;>cases c<;>cases e;all_goals repeat (first |refine aN rfl ?_|refine aM rfl ?_|refine⟨_,h.c2,aP (λj=>?_) (λj=>⟨by rw[beq_eq_false_iff_ne.2 j];simp,Fr.refl _ _⟩)⟩|refine⟨_,h.c3,aP (λk=>?_) (λk=>⟨by rw[beq_eq_false_iff_ne.2 k];simp,Fr.refl _ _⟩)⟩|refine⟨_,h.c4,aP (λz=>?_) (λz=>⟨by rw[beq_eq_false_iff_ne.2 z];simp,Fr.refl _ _⟩)⟩|refine⟨_,h.c5,?_,Fr.refl _ _⟩)
  all_goals first |exact⟨by simp[*],Fr.refl _ _⟩|(rw[aar];simp[*])
 have fin:∀a b c e:Bool,a=qH d.x.op->b=(d.x.op==21)->c=(d.x.op==1)->e=qI d.x.op->y3.S1 p a b c e w λr q=>r=ae (.bool (jW d.x))/\af w q:=by rintro a b c e rfl rfl rfl rfl;exact C _ _ _ _
 have H:∀A:Int,d.x.op≠A->(d.x.op==A)=false:=λA G=>beq_eq_false_iff_ne.2 G;have D:∀e:Bool,e=qI d.x.op->y3.S2 p false false false e d.x.op w λr q=>r=ae (.bool (jW d.x))/\af w q:=by intro e y;refine aP (λE=>fin _ _ _ _ ?_ ?_ ?_ y) (λE=>aP (λj=>fin _ _ _ _ ?_ ?_ ?_ y) (λj=>aP (λk=>aM (beq_iff_eq.2 k) (fin _ _ _ _ ?_ ?_ ?_ y)) (λk=>aP (λz=>aM (beq_iff_eq.2 z) (fin _ _ _ _ ?_ ?_ ?_ y)) (λz=>aP (λF=>fin _ _ _ _ ?_ ?_ ?_ y) (λF=>fin _ _ _ _ ?_ ?_ ?_ y)))));all_goals first |(rw[‹d.x.op=_›];rfl)|(simp[qH, *])
 refine y3.ok ⟨_,h.c0,aP (λB=>aM (beq_iff_eq.2 B) (fin _ _ _ _ ?_ ?_ ?_ ?_)) (λB=>aP (λj=>aM (beq_iff_eq.2 j) (fin _ _ _ _ ?_ ?_ ?_ ?_)) (λj=>aP (λk=>fin _ _ _ _ ?_ ?_ ?_ ?_) (λk=>D _ ?_)))⟩;all_goals first |(rw[‹d.x.op=_›];rfl)|(unfold qI;simp[*])
def dJ(n:Nx):List UInt8:=bJ n.op++(cY n.kids++(bJ n.n++(bJ n.m++(ew n.u.toNat++(dF (bl n.tx)++(bJ n.st.k++(bJ n.st.n++bJ n.st.x)))))))
structure fA(x:Nx):Prop where
 op:aY x.op
 ks:∀k∈x.kids,aY k
 kl:x.kids.length<=1000000000
 n:aY x.n
 m:aY x.m
 u:0<=x.u/\x.u<18446744073709551616
 tx:x.tx.size<=1000000000
 sk:aY x.st.k
 sn:aY x.st.n
 sx:aY x.st.x
def adq{n:Nx}(W:fA n):(dJ n).length<=20000000000:=by have h:=dk _ W.op;have j:=lO _ W.ks;have k:=dk _ W.n;have q:=dk _ W.m;have w:=eM n.u.toNat (by have:=W.u;omega);have x:=dk _ W.sk;have y:=dk _ W.sn;have z:=dk _ W.sx;have A:=eM n.kids.length (by have:=W.kl;omega);have d:=eM (bl n.tx).length (by have:=W.tx;rw[dY];omega);have B:=W.kl;have C:=W.tx;have D:=dY n.tx;unfold dJ cY dF;simp only[a7];omega
def qc{P:aJ}{f:FuncId}{args:Array aa}{w0 w:J}{j:Nat}{k:List Nat}{U q:List UInt8}(h:jo w0 j k U w)(B:∀own,fQ w j U own->(∀y∈own,y∈k\/w0.heap.size<=y)->ai P f args w (nn w j own q)){K:J->Prop}(A:∀d,jo w0 j k q d->K d):
  ai P f args w λr d=>r=ae (.tuple #[])/\K d:=by obtain⟨own,D,C,x⟩:=h;refine(B own D x).mono ?_;rintro r d ⟨rfl,z⟩;exact⟨rfl,A d (jo.then C x z)⟩
def IH{w:J}{k:Nat}{U:List UInt8}{own:List Nat}(y:fQ w k U own){s:Sl}{l:List Int}(h:bx w s l)(A:∀d∈(En.rd s (l.map a5)).fp,d∉own)(hi:∀d∈l,aY d)(B:U.length+10 *l.length<=1000000000000):
  ai V yi #[.pointer (some (ab k)),s.v] w (nn w k own (U++cY l)):=by
 by_cases q:l=[]
 .subst q;have C:s.n=0:=bx.len h;refine ry.ok ?_;rw[C];refine(wj y 0 co co).mono ?_;rintro r D ⟨rfl,z⟩;refine⟨rfl,ry.bE (aN md ⟨rfl,?_⟩)⟩;simpa[cY]using z
 .have x:(En.rd s (l.map a5)).fp=az s:=by show(if l.map a5=[]then[]else az s)=_;rw[ag (by simpa using q)]
  exact ag3 y h (λd j=>A d (x▸j)) (λd j=>(En.rd s (l.map a5)).lt w h d (x▸j)) hi B
def V5{w:J}{h:Nat}{U:List UInt8}{own:List Nat}(Z:fQ w h U own){p:Addr}{d:Nd}(L:eF w p d)(I:d.P w)(N:p.block∉own)(H:∀j∈(dt d).fp,j∉own)(W:fA d.x)(K:U.length<=100000000000):
  ai V Rn #[.pointer (some (ab h)),.pointer (some p)] w (nn w h own (U++dJ d.x)):=by
 have at_:∀{q:List UInt8} {Y:J},jo w h own q Y->eF Y p d:=λ⟨_,_,f,_⟩=>L.st λQ=>f.cB _ Q N
 have kd:∀{q:List UInt8} {Y:J},jo w h own q Y->bx Y d.ks d.x.kids:=λ⟨_,_,f,_⟩=>(dt d).st w _ (λb O K=>f.cB _ K (H b O)) I;have k1:=dk _ W.op;have k2:=lO _ W.ks;have k3:=dk _ W.n;have k4:=dk _ W.m;have hu:d.x.u=(d.x.u.toNat:Int):=by have:=W.u;omega
 have k5:=eM d.x.u.toNat (by have:=W.u;omega);have k6:=dk _ W.sk;have k7:=dk _ W.sn;have k9:=eM d.x.kids.length (by have:=W.kl;omega);have k0:=eM (bl d.x.tx).length (by have:=W.tx;rw[dY];omega);have m1:=W.kl;have m2:=W.tx;have m3:=dY d.x.tx;have lL:(cY d.x.kids).length<=10000000010:=by unfold cY;simp only[a7];omega
 have lR:(dF (bl d.x.tx)).length<=1000000010:=by unfold dF;simp only[a7];omega
 refine Wm.ok ⟨_,L.c0,qc (jo.refl Z) (λo r _=>mn r _ W.op co) λw1 k=>⟨_,(at_ k).c1,qc k (λo r T=>IH r (kd k) (λj M S=>?_) W.ks (by simp only[a7];omega)) λw2 y=>⟨_,(at_ y).c2,qc y (λo r _=>mn r _ W.n (by simp only[a7];omega)) λw3 z=>⟨_,(at_ z).c3,qc z (λo r _=>mn r _ W.m (by simp only[a7];omega)) λw4 A=>⟨_,(at_ A).c4,?_⟩⟩⟩⟩⟩
 .rcases T j S with G|G
  .exact H j M G
  .have:=(dt d).lt w I j M;omega
 rw[hu];refine qc A (λo r _=>wj r d.x.u.toNat (by have:=W.u;omega) (by simp only[a7];omega)) λw5 B=>⟨_,(at_ B).c5,qc B (λo r _=>ag5 r d.x.tx (by simp only[a7];omega)) λw6 C=>⟨_,(at_ C).s0,qc C (λo r _=>mn r _ W.sk (by simp only[a7];omega)) λw7 D=>⟨_,(at_ D).s1,qc D (λo r _=>mn r _ W.sn (by simp only[a7];omega)) λw8 E=>⟨_,(at_ E).s2,qc E (λo r _=>mn r _ W.sx (by simp only[a7];omega)) λw9 F=>⟨rfl,?_⟩⟩⟩⟩⟩;unfold dJ;simp only[ck]at F;exact F
def V4{w:J}{p:Addr}{d:Nd}(k:eF w p d)(j:d.P w)(W:fA d.x):
  ai V Re #[.pointer (some p)] w λr G=>r=ae (.string (ba (dJ d.x)))/\af w G:=by refine Wi.ok ?_;have h:af w (w.alloc (.cells #[.slice none 0 0] tt)):=Fr.alloc _ _ _;have lt:=adq W;refine(V5 (fQ.new w) (k.st λD=>h.cB _ D id) ((dt d).st w _ (λb H C=>h.cB _ C id) j) (by have:=eF.lt k;simp;omega) (λz q=>by have:=(dt d).lt w j z q;simp;omega) W ws).mono ?_;rintro r L ⟨rfl,K,y,A,I⟩;rw[lY]at y;refine⟨rfl,(Co y co).mono ?_⟩;rintro r M ⟨s,rfl,F,B,_⟩;refine⟨s,rfl,_,kR F.rd,rfl,?_⟩;exact(h.trans A λz q E=>by simp at E;omega).dO B
def Cc{a b:Nat}(d:a<256)(j:b<256)(h:db a=db b):a=b:=by have:=congrArg UInt8.toNat h;simp at this;omega
def Aa:∀(n m:Nat) (r s:List UInt8),ew n++r=ew m++s->n=m/\r=s:=by
 intro n;induction n using Nat.strongRecOn with
 |_ n q=>
  intro m r s d;by_cases j:n<128<;>by_cases h:m<128
  .rw [mG j,mG h]at d;simp only[je,lY,List.cons.injEq]at d;exact⟨Cc co co d.1,d.2⟩
  .rw [mG j,ny h]at d;simp only[je,lY,List.cons.injEq]at d;have:=Cc co co d.1;omega
  .rw [ny j,mG h]at d;simp only[je,lY,List.cons.injEq]at d;have:=Cc co co d.1;omega
  .rw [ny j,ny h]at d;simp only[je,List.cons.injEq]at d;have w:=Cc co co d.1;have k:=q (n / 128) co _ _ _ d.2;exact⟨co,k.2⟩
def ahj{a b:Int}(h:zz a=zz b):a=b:=by unfold zz at h;split at h<;>split at h<;>omega
def r9{n m:Int}{r s:List UInt8}(h:bJ n++r=bJ m++s):n=m/\r=s:=by have:=Aa _ _ _ _ h;exact⟨ahj this.1,this.2⟩
def Mf:∀{a b:List Int} {r s:List UInt8},a.length=b.length->a.flatMap bJ++r=b.flatMap bJ++s->a=b/\r=s
 |[],[],_,_,_,h=>⟨rfl,h⟩
 |[],_::_,_,_,d,_=>by simp at d
 |_::_,[],_,_,d,_=>by simp at d
 |x::a,y::b,r,s,d,h=>by simp only[List.flatMap_cons,ck]at h;obtain⟨j,k⟩:=r9 h;obtain⟨q,w⟩:=Mf (a:=a) (b:=b) (by simpa using d) k;exact⟨by rw[j,q],w⟩
def aas{a b:List Int}{r s:List UInt8}(h:cY a++r=cY b++s):a=b/\r=s:=by unfold cY at h;simp only[ck]at h;obtain⟨d,j⟩:=Aa _ _ _ _ h;exact Mf d j
def aat{a b r s:List UInt8}(h:dF a++r=dF b++s):a=b/\r=s:=by unfold dF at h;simp only[ck]at h;obtain⟨d,j⟩:=Aa _ _ _ _ h;exact List.append_inj j d
def adp{n m:Nx}(hn:0<=n.u)(Z:0<=m.u)(h:dJ n=dJ m):n=m:=by
 unfold dJ at h;obtain⟨d,h⟩:=r9 h;obtain⟨j,h⟩:=aas h;obtain⟨k,h⟩:=r9 h;obtain⟨q,h⟩:=r9 h;obtain⟨C,h⟩:=Aa _ _ _ _ h;obtain⟨w,h⟩:=aat h;obtain⟨x,h⟩:=r9 h;obtain⟨y,h⟩:=r9 h;have z:=(r9 (r:=[]) (s:=[]) (by simpa using h)).1;have A:n.u=m.u:=co
 have B:n.tx=m.tx:=by
  have:=congrArg ba w
  rwa[jt,jt]at this
 obtain⟨D,E,F,G,H,I,⟨K,L,M⟩⟩:=n;obtain⟨N,O,P,Q,S,T,⟨U,W,Y⟩⟩:=m;simp only at d j k q A B x y z;clear C w;subst d j k q A B x y z;rfl
def k0(n:Nx):ByteArray:=ba (dJ n)
def abW{n m:Nx}(j:0<=n.u)(d:0<=m.u)(h:k0 n=k0 m):n=m:=by
 refine adp j d ?_;have:=congrArg bl h;unfold k0 at this
 rwa[gm,gm]at this
def kN(es:Array MapEntry)(ms:List (ByteArray×aa)):Prop:=es.toList.map (λe=>(e.key,e.val))=ms.map λp=>(Value.string p.1,p.2)
def kB(ms:List (ByteArray×aa))(k:ByteArray):Option aa:=(ms.find? λp=>av (p.1=k)).map (·.2)
def Ym(a b:ByteArray):(a==b)=av (b=a):=by
 cases d:av (b=a)with
 |true=>rw[eT d];exact(Go.MapKept.bytes_beq _ _).2 rfl
 |false=>
  cases h:(a==b)with
  |false=>rfl
  |true=>exact absurd ((Go.MapKept.bytes_beq _ _).1 h).symm (iy d)
def EZ{k:ByteArray}:∀{es:List MapEntry} {ms:List (ByteArray×aa)} {i:Nat},es.map (λe=>(e.key,e.val))=ms.map (λp=>(Value.string p.1,p.2))->
  Instr.findNow .string (.string k) es i=some ((ms.findIdx? λp=>av (p.1=k)).bind λh=>(ms[h]?).map λp=>(i+h,p.2))
 |[],[],i,_=>rfl
 |[],_::_,_,d=>by simp at d
 |_::_,[],_,d=>by simp at d
 |e::es,p::ms,i,d=>by
  simp only[List.map_cons,List.cons.injEq,eZ]at d;obtain⟨⟨w,x⟩,y⟩:=d;have z:=EZ (k:=k) (i:=i+1) y;unfold Instr.findNow;simp only[w,Instr.sameNow,Ym];by_cases j:p.1=k
  .have q:av (p.1=k)=true:=aR j;simp[List.findIdx?_cons,j,x]
  .have q:av (p.1=k)=false:=aW j;simp only[z,List.findIdx?_cons,q,Bool.false_eq_true,if_false];congr 1;cases A:ms.findIdx? (λp=>av (p.1=k))with
   |none=>simp
   |some h=>simp[Nat.add_assoc,Nat.add_comm 1 h]
def US{ms:List (ByteArray×aa)}{k:ByteArray}{i:Nat}:(((ms.findIdx? λp=>av (p.1=k)).bind λd=>(ms[d]?).map λp=>(i+d,p.2)).map (·.2))=kB ms k:=by
 unfold kB;induction ms generalizing i with
 |nil=>rfl
 |cons p ms q=>
  by_cases h:p.1=k
  .simp [List.findIdx?_cons,h]
  .have j:av (p.1=k)=false:=aW h;simp only[List.findIdx?_cons,j,Bool.false_eq_true,if_false,List.find?_cons];rw[<-q (i:=i+1)];cases w:ms.findIdx? (λp=>av (p.1=k))with
   |none=>simp
   |some d=>simp[Function.comp_def]
structure zy(P:aJ)(T kt et:aE)(z:aa):Prop where
 hT:P.underlying T=some (.map kt et)
 hk:P.underlying kt=some .string
 hz:(P.info? et).map (·.zero)=some (some z)
def Kg{P:aJ}{d:aE}(h:P.underlying d=some .string)(b:Bool)(k:ByteArray)(w:J):(Instr.checkKey b 10000 d (.string k)).run P w=.ok () w:=by unfold Instr.checkKey;simp[run_underlying h]
def NK{P:aJ}{T E y:aE}{z:aa}(h:zy P T E y z){w:J}{j:Nat}{es:Array MapEntry}{clock:Nat}{ms:List (ByteArray×aa)}(C:w.heap[j]? =some (.map es clock))(D:kN es ms)(k:ByteArray):
  (Instr.lookup T (.map (some j)) (.string k) true).run P w=.ok (.tuple #[(kB ms k).getD z,.bool (kB ms k).isSome]) w:=by
 have A:=EZ (k:=k) (i:=0) D;have B:(getObj j).run P w=.ok (.map es clock) w:=by simp[getObj,gx,C]
 have d:=US (ms:=ms) (k:=k) (i:=0);unfold Instr.lookup Instr.findKey;simp only[Sem.run_bind,run_underlying h.hT,Result.andThen_ok,B,Sem.run_pure,Kg h.hk,run_underlying h.hk,A];cases q:((ms.findIdx? λp=>av (p.1=k)).bind λx=>(ms[x]?).map λp=>(0+x,p.2))with
 |none=>rw[q]at d;simp[<-d,W9 h.hz]
 |some F=>rw[q]at d;simp[<-d]
def WE{P:aJ}{T I C:aE}{z:aa}(x:zy P T I C z){w:J}{d:Nat}{es:Array MapEntry}{clock:Nat}{ms:List (ByteArray×aa)}(j:w.heap[d]? =some (.map es clock))(q:kN es ms)(k:ByteArray)(v:aa)(G:kB ms k=none):
  ∃h y,(Instr.mapUpdate T (.map (some d)) (.string k) v).run P w=.ok () h/\h.heap[d]? =some (.map y (clock+1))/\kN y (ms++[(k,v)])/\Fr (λb=>b=d) w h/\h.heap.size=w.heap.size:=by
 have D:=EZ (k:=k) (i:=0) q;have E:(getObj d).run P w=.ok (.map es clock) w:=by simp[getObj,gx,j]
 have A:=US (ms:=ms) (k:=k) (i:=0);have F:=lt_of_heap j;have H:((ms.findIdx? λp=>av (p.1=k)).bind λB=>(ms[B]?).map λp=>(0+B,p.2))=none:=by rw[G]at A;simpa using A
 refine⟨{w with heap:=w.heap.setIfInBounds d (.map (es.push {key:=.string k,val:=v,born:=clock}) (clock+1))},es.push {key:=.string k,val:=v,born:=clock},?_,by simp[F],?_,Fr.setObj w d _ rfl,ws⟩
 .unfold Instr.mapUpdate Instr.findKey;simp only[Sem.run_bind,run_underlying x.hT,Result.andThen_ok,E,Kg x.hk,run_underlying x.hk,D,H];simp[setObj,gx,j]
 .unfold kN at q ⊢;simp[q]
def jE:List Nx->Nat->List (ByteArray×aa)
 |[],_=>[]
 |d::g,i=>(k0 d,.i (i:Int))::jE g (i+1)
def SC(n:Nx):∀(g:List Nx) (i:Nat),jE (g++[n]) i=jE g i++[(k0 n,.i ((i+g.length:Nat):Int))]
 |[],i=>by simp[jE]
 |d::g,i=>by have:=SC n g (i+1);simp only[je,jE,this,List.length_cons];rw[show i+1+g.length=i+(g.length+1)by omega]
def G8{n:Nx}(q:0<=n.u):∀{g:List Nx} {i:Nat},(∀d∈g,0<=d.u)->kB (jE g i) (k0 n)=(ie n g i).map λk:Nat=>.i (k:Int)
 |[],i,_=>rfl
 |d::g,i,j=>by
  have w:=G8 q (g:=g) (i:=i+1) λe x=>j e (by simp[x]);unfold kB at w ⊢;unfold jE ie;by_cases h:d=n
  .subst h;simp
  .have y:¬k0 d=k0 n:=λe=>h (abW (j d ws) q e);rw[ag h,List.find?_cons];simp only[aW y];exact w
def iT:List Nx->List (ByteArray×aa)
 |[]=>[]
 |d::g=>if d.op=0 then(d.tx,ei d.st)::iT g else iT g
def WI(n:Nx):∀(g:List Nx),iT (g++[n])=iT g++(if n.op=0 then[(n.tx,ei n.st)]else[])
 |[]=>by unfold iT;simp only[lY,iT]
 |d::g=>by have:=WI n g;simp only[je,iT,this];split<;>simp
def IF(t:ByteArray):∀(g:List Nx),kB (iT g) t=(kG g t).map ei
 |[]=>rfl
 |q::g=>by
  have k:=IF t g;unfold kB at k ⊢;unfold iT kG;by_cases d:q.op=0
  .rw [au d,List.find?_cons];by_cases h:q.tx=t
   .rw [au ⟨d,h⟩];simp[h]
   .rw [ag (λj=>h j.2)];simp only[aW h];exact k
  .rw [ag d,ag (λj=>d j.1)];exact k
def jJ(s:bC)(e:Int)(r:bW):Prop:=∃(t:bC) (d:Int),r=g0 (t,d)/\d=e/\(e=0->t=s)
def AF{w:J}{p:Addr}{d:Nd}(h:eF w p d):LH F0 w w [] [.jU p d]:=bK _ (by intro e j;simp only[aq,aL,aO]at j;subst j;exact h)
def i3(n:Nx)(x y z:bC):Int:=if dI n.op x y z=false then 9 else if lf n x y z=false then 5 else if n.op=33/\pd n.tx=false then 2 else 0
def aeU{n:Nx}{x y z t:bC}{d ranges:Bool}(w:n.op≠33)(j:d=dI n.op x y z)(k:d=true->ranges=lf n x y z)(q:d=true->ranges=true->t=iu n x y z):jJ (iu n x y z) (i3 n x y z) (g0 (t,Hw d ranges)):=by
 refine⟨t,_,rfl,?_,λh=>?_⟩
 .unfold Hw i3;rw[<-j];cases d with
  |false=>rfl
  |true=>
   rw[<-k rfl];cases ranges with
   |false=>rfl
   |true=>simp[w]
 .unfold i3 at h;rw[<-j]at h;cases d with
  |false=>simp at h
  |true=>
   rw[<-k rfl]at h;cases ranges with
   |false=>simp at h
   |true=>exact q rfl rfl
section
variable {M:Nat->Prop} {w0 w:J} {L D:List En} {U Yu:List Nat}
def eE(H:LH F0 w0 w L D){n:Nx}{x y z:bC}(t:bC)(d ranges:Bool)(B:n.op≠33)(k:d=dI n.op x y z)(q:d=true->ranges=lf n x y z)(A:d=true->ranges=true->t=iu n x y z)(bG:∀b∈U,En.g b∈L:=by simp):
  ep Yu V A1 #[ei t,.bool d,.bool ranges] w λr C=>∃a b c e:Int,r=ae (.tuple #[.agg #[.i a,.i b,.i c],.i e])/\loc U C λE=>jJ (iu n x y z) (i3 n x y z) (ae (.tuple #[.agg #[.i a,.i b,.i c],.i e]))/\af w0 E:=by refine H.aA (agv t d ranges w) ?_;rintro _ F rfl h;exact⟨_,_,_,_,rfl,h.ah (λG j=>⟨aeU B k q A,j.fr⟩) bG⟩
end
def qg(s:bC):Prop:=0<=s.n/\s.n<=64
def ag0{s:bC}(h:cv s=true):qg s:=⟨(m6 h).1,(m6 h).2.1⟩
def RN:qg du:=⟨md,md⟩
def agq{w:J}{p:Addr}{d:Nd}{x y z:bC}(h:eF w p d)(h4:4<=d.x.op)(ak:d.x.op<=23)(al:qg x)(hy:qg y)(hn:aY d.x.n)(hm:aY d.x.m):
  ai V Ri #[.pointer (some p),ei x,ei y,ei z] w λr w'=>jJ (iu d.x x y z) (i3 d.x x y z) r/\af w w':=by
 refine Ik.aC ((AF h).aH λb5 w1 H1=>H1.aH λb6 w2 H2=>H2.aH λb7 w3 H3=>H3.aH λb8 w4 G=>?_);obtain⟨⟨op,kids,n,m,u,N,st⟩,Z⟩:=d;have D:∀{B:J} {L:List En},LH F0 w B L [.jU p ⟨⟨op,kids,n,m,u,N,st⟩,Z⟩]->eF B p ⟨⟨op,kids,n,m,u,N,st⟩,Z⟩:=λad=>ad.getD 0;simp only at h4 ak hn hm;refine⟨op,(D G).c0,?_⟩;obtain⟨aq,ar⟩:=al;obtain⟨aw,ax⟩:=hy;obtain⟨ao,ap⟩:=hn;obtain⟨am,an⟩:=hm;have two:∀(c:Bool),c=true->c=true:=λ_ h=>h;rcases vl co (by omega:op<=34)with rfl|rfl|rfl|rfl|rfl|rfl|rfl|rfl|rfl|rfl|rfl|rfl|rfl|rfl|rfl|rfl|rfl|rfl|rfl|rfl|rfl|rfl|rfl|rfl|rfl|rfl|rfl|rfl|rfl|rfl|rfl|rfl|rfl|rfl|rfl
 iterate 4 omega
 rotate_left 20
 iterate 11 omega
 all_goals repeat (first |refine aN rfl ?_|refine aM rfl ?_)
 iterate 2
  .refine G.ah λB q=>q.aA (tm x B) ?_;rintro _ E rfl A;exact⟨_,rfl,eE A x _ true ws rfl (λ_=>rfl) (λ_ _=>rfl)⟩
 iterate 10
  .refine G.ah λB q=>q.aA (tm x B) ?_;rintro _ E rfl A;refine⟨_,rfl,aP (λC=>?_) (λC=>?_)⟩
   .refine eE A x _ true ws ?_ (λ_=>rfl) (λ_ _=>rfl);rw[lh];show _=(x.k==0&&av (x=y));rw[C];rfl
   .refine eE A x _ true ws ?_ (λ_=>rfl) (λ_ _=>rfl);show _=(x.k==0&&av (x=y));rw[beq_eq_false_iff_ne.2 C];rfl
 iterate 2
  .refine G.ah λB q=>q.aA (j1 1 B) ?_;rintro _ E rfl A;refine⟨_,_,_,rfl,A.aA (tm x E) ?_⟩;rintro _ H rfl j;refine⟨_,rfl,aP (λC=>?_) (λC=>?_)⟩
   .refine eE j (bP 1) _ true ws ?_ (λ_=>rfl) (λ_ _=>rfl);rw[lh];show _=(x.k==0&&av (x=y));rw[C];rfl
   .refine eE j (bP 1) _ true ws ?_ (λ_=>rfl) (λ_ _=>rfl);show _=(x.k==0&&av (x=y));rw[beq_eq_false_iff_ne.2 C];rfl
 .refine G.ah λB q=>q.aA (j1 1 B) ?_;rintro _ E rfl A;refine⟨_,_,_,rfl,A.aA (V3 x y E) ?_⟩;rintro _ H rfl j;exact⟨_,rfl,eE j (bP 1) _ true ws rfl (λ_=>rfl) (λ_ _=>rfl)⟩
 .refine G.aH λab B q=>q.ah λE A=>A.aA (j2 y E) ?_;rintro _ H rfl j;have U:∀(t:bC) (I:J),((av (y=z)||(y.k==1&&z.k==1))=true->t=if y.k=1 then fv (if y.n<z.n then z.n else y.n)else y)->LH F0 w I [.g b5,.g b6,.g b7,.g b8,.g ab] [.jU p ⟨⟨19,kids,n,m,u,N,st⟩,Z⟩]->Ik.hx b5 x.k x.n x.x b6 y.k y.n y.x b7 z.k z.n z.x b8 0 0 0 ab t.k t.n t.x I λr w'=>jJ (iu ⟨19,kids,n,m,u,N,st⟩ x y z) (i3 ⟨19,kids,n,m,u,N,st⟩ x y z) r/\af w w':=by
   intro t I ht K;refine K.ah λw9 T=>T.aA (j1 1 w9) ?_;rintro _ aa rfl Q;have O:dI 19 x y z=(av (x=bP 1)&&(av (y=z)||(y.k==1&&z.k==1))):=rfl;refine⟨_,_,_,rfl,oS (a:=x) (b:=bP 1) (λW=>Q.aA (V3 y z aa) ?_) (λW=>?_)⟩
   .rintro _ ay rfl ae;refine⟨_,rfl,eE ae t _ true ws ?_ (λ_=>rfl) (λh _=>ht h)⟩;show _=dI 19 x y z;rw[O,aR W];rfl
   .refine eE Q t _ true ws ?_ (λ_=>rfl) (λh _=>by cases h);show _=dI 19 x y z;rw[O,aW W];rfl
  have yes:∀t:bC,y.k=1->z.k=1->t=fv (if y.n<z.n then z.n else y.n)->((av (y=z)||(y.k==1&&z.k==1))=true->t=if y.k=1 then fv (if y.n<z.n then z.n else y.n)else y):=λt h1 _ h3 _=>by rw[au h1,h3]
  refine⟨_,rfl,aP (λC=>j.aA (j2 z H) ?_) (λC=>U y H (λ_=>by rw[ag C]) j)⟩;rintro _ I rfl K;refine⟨_,rfl,aP (λS=>K.aA (v8 _ I) ?_) (λS=>U y I (λhf=>?_) K)⟩
  .rintro _ w9 rfl T;exact⟨_,_,_,rfl,T.ah λaa Q=>U (fv (if y.n<z.n then z.n else y.n)) aa (yes _ C S rfl) Q⟩
  .rw [beq_eq_false_iff_ne.2 S,Bool.and_false,Bool.or_false]at hf;have:=eT hf;exact absurd (by rw[<-this];exact C) S
 .have e1:aj .i64 (x.n+y.n)=x.n+y.n:=aQ _ co;have O:dI 20 x y z=(x.k==0&&y.k==0):=rfl;refine G.ah λB q=>?_;rw[e1];refine q.aA (j1 _ B) ?_;rintro _ E rfl A;refine⟨_,_,_,rfl,A.aA (tm x E) ?_⟩;rintro _ H rfl j;refine⟨_,rfl,aP (λC=>j.aA (tm y H) ?_) (λC=>?_)⟩
  .rintro _ I rfl K;refine⟨_,rfl,eE K (bP (x.n+y.n)) _ _ ws ?_ (λ_=>rfl) (λ_ _=>rfl)⟩;show _=dI 20 x y z;rw[O,C];rfl
  .refine eE j (bP (x.n+y.n)) _ _ ws ?_ (λh=>by cases h) (λh _=>by cases h);show _=dI 20 x y z;rw[O,beq_eq_false_iff_ne.2 C];rfl
 .have Y:lf ⟨21,kids,n,m,u,N,st⟩ x y z=(av (0<=m)&&av (m<=n)&&av (n<x.n)):=rfl;refine G.ah λB q=>⟨_,(D q).c2,_,(D q).c3,_,(D q).c3,q.aA (j1 _ B) ?_⟩;rintro _ E rfl A;refine⟨_,_,_,rfl,(D A).c3,A.aA (tm x E) ?_⟩;rintro _ H rfl j;refine⟨_,rfl,(D j).c3,aF (λF=>⟨_,(D j).c3,_,(D j).c2,aF (λP=>⟨_,(D j).c2,eE j (bP _) _ _ ws rfl (λ_=>?_) (λ_ M=>?_)⟩) (λP=>eE j (bP _) _ _ ws rfl (λ_=>?_) (λ_ h=>by cases h))⟩) (λF=>eE j (bP _) _ _ ws rfl (λ_=>?_) (λ_ h=>by cases h))⟩
  .rw [Y,aR (show 0<=m from F),aR (show m<=n from P)];rfl
  .have F:0<=m:=F;have P:m<=n:=P;have M:n<x.n:=eT M;show bP (aj .i64 (aj .i64 (n - m)+1))=bP (n - m+1);rw[aQ (n - m) co,aQ _ co]
  .rw [Y,aW (show ¬m<=n from P),Bool.and_false];rfl
  .rw [Y,aW (show ¬0<=m from F)];rfl
 iterate 2
  .have ac:aj .i64 (64 - x.n)=64 - x.n:=aQ _ co;refine G.ah λB q=>⟨_,(D q).c2,_,(D q).c2,q.aA (j1 _ B) ?_⟩;rintro _ E rfl A;refine⟨_,_,_,rfl,(D A).c2,A.aA (tm x E) ?_⟩;rintro _ H rfl j;refine⟨_,rfl,(D j).c2,aF (λF=>⟨_,(D j).c2,eE j (bP _) _ _ ws rfl (λ_=>?_) (λ_ M=>?_)⟩) (λF=>eE j (bP _) _ _ ws rfl (λ_=>?_) (λ_ h=>by cases h))⟩
   .show _=(av (1<=n)&&av (n<=64 - x.n));rw[ac,aR (show 1<=n from F)];rfl
   .have F:1<=n:=F;rw[ac]at M;have M:n<=64 - x.n:=eT M;show bP (aj .i64 (x.n+n))=bP (x.n+n);rw[aQ _ co]
   .show _=(av (1<=n)&&av (n<=64 - x.n));rw[aW (show ¬1<=n from F)];rfl
def af9{x y z:bC}(j:eG x=true):dI 25 x y z=(av (y=bP x.x)&&(if x.k=3 then z.k==1&&av (z.n<=x.n)else av (z=iI x))):=by
 show(eG x&&av (y=bP x.x)&&(av (z=iI x)||(x.k==3&&z.k==1&&av (z.n<=x.n))))=_;rw[j,Bool.true_and];congr 1;by_cases d:x.k=3
 .rw [au d,d];have q:iI x=fv x.n:=by unfold iI;rw[ag co]
  rw[q];by_cases h:z=fv x.n
  .subst h;simp[fv]
  .rw [aW h];rfl
 .rw [ag d,beq_eq_false_iff_ne.2 d];simp
def agp{w:J}{p:Addr}{d:Nd}{x y z:bC}(h:eF w p d)(h4:24<=d.x.op)(al:d.x.op<=26):
  ai V Rh #[.pointer (some p),ei x,ei y,ei z] w λr K=>jJ (iu d.x x y z) (i3 d.x x y z) r/\af w K:=by
 refine B5.aC ((AF h).aH λM w1 H1=>H1.aH λY w2 H2=>H2.aH λN w3 H3=>H3.aH λO w4 U=>?_);have aj:∀{Q:J} {L:List En},LH F0 w Q L [.jU p d]->eF Q p d:=λak=>ak.getD 0;refine⟨_,(aj U).c0,aP (λP=>U.ah λQ H5=>H5.aA (j1 x.x Q) ?_) (λP=>U.aA (j1 x.n w4) ?_)⟩
 .rintro _ w6 rfl W;refine⟨_,_,_,rfl,W.aA (Ii x w6) ?_⟩;rintro _ F rfl j;have fe:dI d.x.op x y z=(eG x&&av (x=y)):=by rw[P];rfl
  have E:lf d.x x y z=true:=by unfold lf;rw[P];rfl
  have G:iu d.x x y z=bP x.x:=by unfold iu;rw[P];rfl
  refine⟨_,rfl,bT (λA=>?_) (λA=>?_)⟩
  .refine eE j (bP x.x) _ true co ?_ (λ_=>E.symm) (λ_ _=>G.symm);rw[fe,lh,A];rfl
  .refine eE j (bP x.x) _ true co ?_ (λ_=>E.symm) (λ_ _=>G.symm);rw[fe,A];rfl
 rintro _ w6 rfl W;have E:lf d.x x y z=true:=by unfold lf;rw[ag co,ag co,ag co,ag co,ag co]
 have S1:∀(t:bC) (B:Nat) (f:Bool) (F:J),f=(eG x&&av (y=bP x.x))->(eG x=true->t=iI x)->LH F0 w F [.g M,.g Y,.g N,.g O,.g B] [.jU p d]->B5.b3 p M x.k x.n x.x N z.k z.n z.x O 0 0 0 B t.k t.n t.x f F λr K=>jJ (iu d.x x y z) (i3 d.x x y z) r/\af w K:=by
  intro t B f F C I j;refine⟨_,(aj j).c0,aP (λaa=>?_) (λaa=>?_)⟩
  .refine eE j t f true co ?_ (λ_=>E.symm) (λhh _=>?_)
   .rw [C,aa];rfl
   .rw [C]at hh;simp only[bH]at hh;rw[I hh.1];unfold iu;rw[aa];rfl
  have ab:d.x.op=25:=co
  have G:iu d.x x y z=x:=by unfold iu;rw[ab];rfl
  have ff:f=false->dI d.x.op x y z=false:=λh=>by rw[ab];show(eG x&&av (y=bP x.x)&&(av (z=iI x)||(x.k==3&&z.k==1&&av (z.n<=x.n))))=_;rw[<-C,h];rfl
  have ft:f=true->eG x=true/\dI d.x.op x y z=(if x.k=3 then z.k==1&&av (z.n<=x.n)else av (z=iI x)):=λh=>by rw[h]at C;have C:=C.symm;simp only[bH]at C;refine⟨C.1,?_⟩;rw[ab,af9 C.1,C.2,Bool.true_and]
  refine aP (λA=>bT (λad=>j.ah λD q=>q.aA (j2 z D) ?_) (λac=>j.ah λD q=>eE q x _ true co (ff ac).symm (λ_=>E.symm) (λ_ _=>G.symm))) (λA=>bT (λad=>j.ah λD q=>eE q x _ true co ?_ (λ_=>E.symm) (λ_ _=>G.symm)) (λac=>j.ah λD q=>eE q x _ true co (ff ac).symm (λ_=>E.symm) (λ_ _=>G.symm)))
  .rintro _ S rfl H;have:=(ft ad).2;rw[au A]at this;refine⟨_,rfl,aP (λhz=>eE H x _ true co ?_ (λ_=>E.symm) (λ_ _=>G.symm)) (λhz=>eE H x _ true co ?_ (λ_=>E.symm) (λ_ _=>G.symm))⟩
   .rw [this,hz];rfl
   .rw [this,beq_eq_false_iff_ne.2 hz];rfl
  .have Z:=ft ad;rw[ag A]at Z;rw[Z.2,lh,I Z.1]
 have S0:∀(t:bC) (B:Nat) (F:J),(eG x=true->t=iI x)->LH F0 w F [.g M,.g Y,.g N,.g O,.g B] [.jU p d]->B5.bt p M x.k x.n x.x Y y.k y.n y.x N z.k z.n z.x O 0 0 0 B t.k t.n t.x F λr K=>jJ (iu d.x x y z) (i3 d.x x y z) r/\af w K:=by intro t B F I j;refine j.ah λD q=>q.aA (Ii x D) ?_;rintro _ S rfl H;refine⟨_,rfl,bT (λA=>H.aA (j1 x.x S) ?_) (λA=>S1 t B false S (by rw[A];rfl) I H)⟩;rintro _ ae rfl T;exact⟨_,_,_,rfl,S1 t B _ ae (by rw[A];exact lh y (bP x.x)) I T⟩
 refine⟨_,_,_,rfl,W.aH λB F j=>aP (λA=>j.ah λD q=>q.aA (v8 x.n D) ?_) (λA=>j.ah λD q=>S0 (bP x.n) B D (λha=>?_) q)⟩
 .rintro _ S rfl H;exact⟨_,_,_,rfl,H.ah λae T=>S0 (fv x.n) B ae (λ_=>by unfold iI;rw[ag co]) T⟩
 .unfold eG at ha;simp only[Bool.or_eq_true,beq_iff_eq]at ha;unfold iI;rw[au co]
end Go.Proofs.YtnaglpcbkhjpnabGreatDoor
end
