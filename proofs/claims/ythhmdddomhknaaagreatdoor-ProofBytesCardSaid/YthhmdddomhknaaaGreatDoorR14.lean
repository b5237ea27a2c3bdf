import Derived.Test.YthhmdddomhknaaaGreatDoorG9
import Derived.Test.YthhmdddomhknaaaGreatDoorWB
import Derived.Test.YthhmdddomhknaaaGreatDoorU
import Derived.Test.YthhmdddomhknaaaGreatDoorW
import Derived.MapKept
set_option linter.unusedVariables false
set_option linter.defProp false
set_option maxRecDepth 100000
namespace Go.Proofs.YthhmdddomhknaaaGreatDoor
open Go renaming World->J,Calls->ai,Program->aE,Value->aa,TypeId->aC,Ending->ch,LoopState->jP
open Go.IntKind renaming wrap->aj
open _root_.Int renaming toNat->aV,tdiv->bL,tmod->ck,toNat_natCast->bH
open _root_.ByteArray renaming mk->bG
open Go.IntWalk renaming i64_in->aQ
open Go.Builtin renaming append_->dY
open Go.Sem renaming run->k5
open _root_.Bool renaming and_eq_true->bq
open _root_.Nat renaming le_refl->bm,le_trans->a6,zero_le->dv,beq->bO
open _root_.UInt8 renaming ofNat->cE
open _root_.Prod.mk renaming injEq->eC
open _root_.Option.some renaming injEq->eI
open Go.Proofs.Tryz renaming prog->Y
open _root_.Decidable renaming decide->ak
open Go.Ending renaming returned->ae
open List renaming mem_append->aY,mem_cons->au,not_mem_nil->aO,mem_of_getElem?->aD,getElem?_eq_getElem->a4,getElem?_eq_some_iff->cz,mem_map->bZ,length_append->bc,append_assoc->cp,mem_cons_of_mem->e8,mem_cons_self->kf,drop_eq_getElem_cons->dz,nil_append->lN,cons_append->jc,drop_of_length_le->cU
open Go Go.W
def P6:List UInt8:=[40,41,44,124,38,33,42]
def eL(l:List UInt8)(i:Nat):Tk×Nat:=
 if 0<=Go.Lib.indexByte P6 (l.getD i 0)then(⟨l.getD i 0,0,0,[],i⟩,1)
 else if jJ (l.getD i 0)=true then(⟨119,0,0,(l.drop i).takeWhile jJ,i⟩,((l.drop i).takeWhile jJ).length)
 else if l.getD i 0=91 then
  match jW l (i+1)with
  |none=>(⟨63,0,0,[],i⟩,1)
  |some (lo,m)=>
   if i+1+m<l.length/\l.getD (i+1+m) 0=45 then
    match jW l (i+1+m+1)with
    |none=>(⟨63,0,0,[],i⟩,1)
    |some (e,d)=>if i+1+m+(1+d)<l.length/\l.getD (i+1+m+(1+d)) 0=93/\lo.toNat<=e.toNat then(⟨114,lo,e,[],i⟩,1+m+(1+d)+1)else(⟨63,0,0,[],i⟩,1)
   else(⟨63,0,0,[],i⟩,1)
 else match jW l i with
  |some (b,n)=>(⟨114,b,b,[],i⟩,n)
  |none=>(⟨63,0,0,[],i⟩,1)
def zE(x:Tk×Nat):aa:=.tuple #[x.1.v,.int .i64 (x.2:Int)]
def A2{l:List UInt8}{i:Nat}{b:UInt8}{n:Nat}(h:jW l i=some (b,n)):(n=3\/n=4)/\i+n<=l.length:=by
 unfold jW at h
 grind
def QQ:∀(l:List UInt8) (m:Nat) (p:UInt8->Bool),m<=l.length->(∀h<m,p (l.getD h 0)=true)->(m<l.length->p (l.getD m 0)=false)->(l.takeWhile p)=l.take m
 |[],m,p,d,_,_=>by simp
 |c::l,0,p,d,_,e=>by have:p c=false:=e (by simp);simp[this]
 |c::l,m+1,p,d,j,e=>by have k:p c=true:=j 0 (by omega);rw[List.takeWhile_cons,aq k,List.take_succ_cons,QQ l m p (by grind) (λh w=>by grind) (λq=>by grind)]
def We(l:List UInt8)(i k:Nat):(l.drop i).getD k 0=l.getD (i+k) 0:=by grind
def Uu(s:ByteArray)(hs:s.size<=900000)(i:Nat)(V:i<s.size)(w:J):ai Y Dh #[.string s,.int .i64 (i:Int)] w λr w'=>r=ae (zE (eL (bl s) i))/\ag w w':=by
 have hl:(bl s).length=s.size:=dH s;refine tt.aB _ _ w _ ((bI [] (λ_ k=>by cases k)).aG (U:=[]) (λh w1 N=>⟨by omega,_,kX (i:=i) V,?_⟩) (by simp));have N:LH F0 w w1 [.g h] []:=N;have bad:∀w',LH F0 w w' [.g h] []->eL (bl s) i=(⟨63,0,0,[],i⟩,1)->∀(C D E:Int) (F:ByteArray) (G:Int),tt.fK (i:Int) h C D E F G w' λr w'=>r=ae (zE (eL (bl s) i))/\ag w w':=λw' M he _ _ _ _ _=>M.ah (U:=[h]) (λQ x=>⟨by rw[he];rfl,x.fr⟩) (by simp);refine N.aw (EA _ _ _) ?_;rintro _ w2 rfl T;refine⟨_,rfl,?_⟩;show bh (ak (Go.Lib.indexByte P6 _>=0)) _ _;refine aF (λL=>T.ah (U:=[h]) (λQ x=>⟨?_,x.fr⟩) (by simp)) (λL=>T.aw (xD _ _) ?_)
 .unfold eL;rw[aq L];rfl
 rintro _ Q rfl x;refine⟨_,rfl,bB (λaa=>?_) (λaa=>jj (n:=91) (by omega) (λW:(bl s).getD i 0=91=>?_) (λW:(bl s).getD i 0≠91=>?_))⟩
 .
  have loop:∀(n j:Nat) (w':J),s.size - j<n->i<=j->j<=s.size->(∀B,i<=B->B<j->jJ ((bl s).getD B 0)=true)->LH F0 w w' [.g h] []->∀(C D E:Int) (F:ByteArray) (G:Int),tt.cm s (i:Int) h C D E F G (j:Int) w' λr w'=>r=ae (zE (eL (bl s) i))/\ag w w':=by
   intro n;induction n with
   |zero=>omega
   |succ n ih=>
    intro j w' hn ay hj au S C D E F G;have done:(j<s.size->jJ ((bl s).getD j 0)=false)->∀w',LH F0 w w' [.g h] []->tt.bV s (i:Int) h C D E F G (j:Int) w' λr w'=>r=ae (zE (eL (bl s) i))/\ag w w':=λaD w' M=>by
     refine⟨by omega,by omega,by omega,by omega,M.ah (U:=[h]) (λq e=>⟨?_,e.fr⟩) (by simp)⟩;have am:((bl s).drop i).takeWhile jJ=((bl s).drop i).take (j - i):=by
      refine QQ _ _ _ (by grind) (λB hk=>?_) (λk=>?_)
      .rw [We];grind
      grind
     have al:(((bl s).drop i).take (j - i)).length=j - i:=by grind
     have ad:s.extract (aV (i:Int)) (aV (j:Int))=ba (((bl s).drop i).take (j - i)):=by
      have:bl (s.extract i j)=((bl s).drop i).take (j - i):=by unfold bl;rw[ByteArray.data_extract,Array.toList_extract,List.extract_eq_take_drop]
      rw[bH,bH,<-this,l8]
     have ew:aj .i64 ((j:Int) - (i:Int))=((j - i:Nat):Int):=by rw[aQ _ (by omega)];omega
     rw[ad,ew];unfold eL;rw[af L,aq aa,am,al];rfl
    refine tt.dB _ _ _ _ _ _ _ _ _ _ _ (aF (λk=>⟨by omega,_,kX (i:=j) (by omega),S.aw (xD _ _) ?_⟩) (λk=>done (λz=>by omega) w' S));rintro _ q rfl e;refine⟨_,rfl,bB (λA=>?_) (λA=>done (λ_=>A) q e)⟩;rw[show aj .i64 ((j:Int)+1)=((j+1:Nat):Int)by rw[aQ _ (by omega)];omega];refine ih (j+1) q (by omega) (by omega) (by omega) (λB h1 h2=>?_) e _ _ _ _ _
    grind
  exact loop (s.size+1) i Q (by omega) (bm _) (by omega) (λB h1 h2=>by omega) x _ _ _ _ _
 .have Z:¬jJ ((bl s).getD i 0)=true:=by grind
  rw[show aj .i64 ((i:Int)+1)=((i+1:Nat):Int)by rw[aQ _ (by omega)];omega];refine x.aw (A8 s (i+1) (by omega) _) ?_;rintro _ I rfl y;cases A:jW (bl s) (i+1)with
  |none=>
   refine⟨0,0,false,rfl,a1 rfl (bad I y ?_ _ _ _ _ _)⟩;unfold eL
   grind
  |some H=>
   obtain⟨lo,m⟩:=H;obtain⟨hm,aA⟩:=A2 A;refine⟨lo.toNat,m,true,rfl,?_⟩;try dsimp only
   rw[show aj .i64 (((i+1:Nat):Int)+(m:Int))=((i+1+m:Nat):Int)by rw[aQ _ (by omega)];omega];have ab:¬(i+1+m<(bl s).length/\(bl s).getD (i+1+m) 0=45)->eL (bl s) i=(⟨63,0,0,[],i⟩,1):=λk=>by
    unfold eL
    grind
   refine aZ rfl (aF (λk=>bad I y (ab (λz=>by omega)) _ _ _ _ _) (λk=>⟨by omega,_,kX (i:=i+1+m) (by omega),?_⟩));refine bB (λP=>bad I y (ab (λz=>?_)) _ _ _ _ _) (λav=>?_)
   .rw [z.2]at P;grind
   have ar:(bl s).getD (i+1+m) 0=45:=by
    have ac:(((bl s).getD (i+1+m) 0).toNat:Int)=45:=by grind
    have:((bl s).getD (i+1+m) 0).toNat=(45:UInt8).toNat:=by grind
    exact UInt8.toNat_inj.1 this
   rw[show aj .i64 (((i+1+m:Nat):Int)+1)=((i+1+m+1:Nat):Int)by rw[aQ _ (by omega)];omega];refine y.aw (A8 s (i+1+m+1) (by omega) _) ?_;rintro _ q rfl e;cases ao:jW (bl s) (i+1+m+1)with
   |none=>
    refine⟨0,0,false,rfl,a1 rfl (bad q e ?_ _ _ _ _ _)⟩;unfold eL
    grind
   |some H=>
    obtain⟨O,d⟩:=H;obtain⟨az,aC⟩:=A2 ao;refine⟨O.toNat,d,true,rfl,?_⟩;try dsimp only
    rw[show aj .i64 (((i+1+m:Nat):Int)+aj .i64 (1+(d:Int)))=((i+1+m+(1+d):Nat):Int)by rw[aQ (1+(d:Int)) (by omega),aQ _ (by omega)];omega];have K:eL (bl s) i=if i+1+m+(1+d)<(bl s).length/\(bl s).getD (i+1+m+(1+d)) 0=93/\lo.toNat<=O.toNat then(⟨114,lo,O,[],i⟩,1+m+(1+d)+1)else(⟨63,0,0,[],i⟩,1):=by
     unfold eL
     grind
    refine aZ rfl (aF (λk=>bad q e (K.trans (af λz=>by omega)) _ _ _ _ _) (λk=>⟨by omega,_,kX (i:=i+1+m+(1+d)) (by omega),?_⟩));refine bB (λP=>bad q e (K.trans (af λz=>?_)) _ _ _ _ _) (λax=>?_)
    .rw [z.2.1]at P;grind
    have an:(bl s).getD (i+1+m+(1+d)) 0=93:=by
     have ac:(((bl s).getD (i+1+m+(1+d)) 0).toNat:Int)=93:=by grind
     have:((bl s).getD (i+1+m+(1+d)) 0).toNat=(93:UInt8).toNat:=by grind
     exact UInt8.toNat_inj.1 this
    refine aF (λap=>bad q e (K.trans (af λz=>by omega)) _ _ _ _ _) (λap=>e.ah (U:=[h]) (λw6 H6=>⟨?_,H6.fr⟩) (by simp));rw[K,aq ⟨by omega,an,by omega⟩];rw[show aj .i64 (aj .i64 (((i+1+m+(1+d):Nat):Int)+1) - (i:Int))=((1+m+(1+d)+1:Nat):Int)by rw[aQ (((i+1+m+(1+d):Nat):Int)+1) (by omega),aQ _ (by omega)];omega];rfl
 .have Z:¬jJ ((bl s).getD i 0)=true:=by grind
  refine x.aw (A8 s i (by omega) _) ?_;rintro _ I rfl y;cases A:jW (bl s) i with
  |none=>
   refine⟨0,0,false,rfl,aZ rfl (bad I y ?_ _ _ _ _ _)⟩;unfold eL
   grind
  |some H=>
   obtain⟨b,n⟩:=H;refine⟨b.toNat,n,true,rfl,a1 rfl (y.ah (U:=[h]) (λq e=>⟨?_,e.fr⟩) (by simp))⟩;unfold eL;rw[af L,af Z,af W,A];rfl
structure Inv(S:SX)(m:Nat):Prop where
 lo:S.lo.length<=m
 sl:∀f∈S.lo,Small f m
 tp:Small S.tp m
 s1:S.st=1->0<=S.tp.k/\S.lo≠[]
 s2:S.st=2->0<=S.wd
def Small.mono{f:FX}{m n:Nat}(h:Small f m)(d:m<=n):Small f n:=⟨a6 h.n' d,a6 h.ar d,a6 h.al d,a6 h.an d,a6 h.ca d⟩
def EH(k:Int)(m:Nat):Small (kQ k) m:=⟨dv _,dv _,dv _,dv _,dv _⟩
def wD{f:FX}{m:Nat}(h:Small f m)(x:Rx):Small (iF f x) m:=⟨h.n',h.ar,h.al,h.an,h.ca⟩
def Cr{t:Tk}{S k:SX}{m:Nat}(w:S.lo.length<=m)(j:∀f∈S.lo,Small f (m+1))(e:Small S.tp (m+1))(x:S.tp.n<=m)(h:fD t S=some k):Inv k (m+1):=by
 have q:∀f∈S.lo++[S.tp],Small f (m+1):=λf y=>by grind
 unfold fD at h;split at h
 .cases h;exact⟨by grind,j,⟨by grind,e.ar,e.al,e.an,e.ca⟩,λd=>(by grind),λd=>(by grind)⟩
 .split at h
  .cases h;exact⟨by grind,q,EH _ _,λd=>(by grind),λd=>(by grind)⟩
  .split at h
   .cases h;exact⟨by grind,j,wD e _,λd=>(by grind),λd=>(by grind)⟩
   .split at h
    .split at h
     .cases h;exact⟨by grind,j,wD e _,λd=>(by grind),λd=>(by grind)⟩
     .split at h
      .cases h;exact⟨by grind,j,wD e _,λd=>(by grind),λd=>(by grind)⟩
      .split at h
       .cases h;exact⟨by grind,j,e,λd=>(by grind),λ_=>by grind⟩
       .split at h
        .cases h;exact⟨by grind,j,e,λd=>(by grind),λ_=>by grind⟩
        .split at h
         .cases h;exact⟨by grind,j,e,λd=>(by grind),λ_=>by grind⟩
         grind
    grind
def Hl{S j:SX}{l:List Rx}{m:Nat}(e:Inv S m)(h:ln S l=some j):Inv j (m+1):=by
 unfold ln at h;rcases qL S.lo with d|⟨a,g,d⟩
 .grind
 .rw [d]at h;simp at h;subst h;have k:=e.lo;rw[d]at k;simp at k;exact⟨by grind,λf q=>(e.sl f (by grind)).mono (by omega),wD ((e.sl g (by grind)).mono (by omega)) _,λd=>(by grind),λd=>(by grind)⟩
def B0{s':Sl}{t:Tk}{S x:SX}{m:Nat}(d:Inv S m)(h:fC s' t S=some x):Inv x (m+1):=by
 have w:=d.lo;have k:∀f∈S.lo,Small f (m+1):=λf y=>(d.sl f y).mono (by omega);have j:Small S.tp (m+1):=d.tp.mono (by omega);have z:=d.tp.n';unfold fC at h;split at h
 .rename_i q;split at h
  .cases h;refine⟨by grind,λf y=>?_,EH _ _,λ_=>⟨d.s2 q,by simp⟩,λe=>(by grind)⟩
   grind
  grind
 .rename_i q;split at h
  .split at h
   .exact Hl d h
   .exact Cr w k j z h
  .rename_i A;split at h
   .exact Cr w k j z h
   .split at h
    .cases h;exact⟨by grind,k,wD j _,λe=>absurd e A,λe=>absurd e q⟩
    .split at h
     .cases h;refine⟨by grind,k,⟨dv _,j.ar,j.al,?_,dv _⟩,λe=>(by grind),λe=>(by grind)⟩;have:=d.tp.an;show(S.tp.an++[_]).length<=_
      grind
     .split at h
      .cases h;refine⟨by grind,k,⟨dv _,j.ar,?_,dv _,dv _⟩,λe=>(by grind),λe=>(by grind)⟩;have:=d.tp.al;show(S.tp.al++[_]).length<=_
       grind
      .split at h
       .split at h
        .cases h
        .cases h;refine⟨by grind,k,⟨dv _,?_,dv _,dv _,dv _⟩,λe=>(by grind),λe=>(by grind)⟩;have:=d.tp.ar;show(S.tp.ar.2++[_]).length<=_
         grind
       .split at h
        .split at h
         .cases h
         .exact Hl d h
        .split at h
         .split at h
          .cases h;exact⟨by omega,k,j,d.s1,d.s2⟩
          grind
         .refine Cr (S:=⟨S.lo,kJ S.tp,S.st,S.wd⟩) w k ⟨dv _,j.ar,j.al,j.an,?_⟩ (dv _) h;have:=d.tp.ca;show(S.tp.ca++[_]).length<=_
          grind
def Vv{s':Sl}{t:Tk}{S:SX}(h:t.k=63):fC s' t S=none:=by
 have it:∀S,fD t S=none:=λS=>by
  unfold fD
  grind
 unfold fC
 grind
def ji(l:List UInt8):Nat->Nat->List Tk
 |0,_=>[]
 |n+1,i=>if i<l.length then(if l.getD i 0=32 then ji l n (i+1)else(eL l i).1::ji l n (i+(eL l i).2))else[⟨36,0,0,[],l.length⟩]
def pZ:List Tk->SX->Int⊕SX->Prop
 |[],d,r=>r=.inr d
 |t::j,d,r=>∃h,(fC h t d=none/\r=.inl t.a)\/∃e,fC h t d=some e/\pZ j e r
def Rm{l:List UInt8}{i:Nat}(V:i<l.length):1<=(eL l i).2/\i+(eL l i).2<=l.length:=by
 unfold eL;split
 .omega
 .split
  .rename_i e;have d:(l.drop i)=l.getD i 0::l.drop (i+1):=by rw[dz V,List.getD_eq_getElem?_getD,a4 V];rfl
   have j:1<=((l.drop i).takeWhile jJ).length:=by rw[d,List.takeWhile_cons,aq e];simp
   have k:((l.drop i).takeWhile jJ).length<=(l.drop i).length:=(List.takeWhile_prefix (p:=jJ) (l:=l.drop i)).length_le
   grind
  .split
   .grind
   .split
    .rename_i h;have:=A2 h;omega
    omega
abbrev E8(t:Tk):List aa:=[.int .u8 (t.k.toNat:Int),.int .u8 (t.lo.toNat:Int),.int .u8 (t.V.toNat:Int),.string (ba t.s),.int .i64 t.a]
def u4:En:=⟨[],λ_=>True,λ_ _ _ d=>d,λ_ _ b e=>by grind,by simp⟩
abbrev lZ(t2 t3 t4 D l_ U:Nat)(s:ByteArray)(d e:aa)(o:Obj):List En:=[.c t2 [.int .i64 0,.int .u8 0,.int .u8 0,.slice none 0 0] aT,.c t3 [d] bN,.c t4 [e] Rp,.ob D (.deferred (some [])),.ob l_ o,.c U [.string s] fX]
def PS(w0 w:J)(rb:Nat)(G:List En)(S:SX):Prop:=∃(sl:Sl) (d:List FM) (f:FM) (O:List I) (p:Addr),d.map FM.x=S.lo/\f.x=S.tp/\(∀g∈d++[f],∀t∈g.O,t∈O)/\sl.a=some p/\(∀b∈I.a8 O,w0.heap.size<=b)/\SF F0 w0 w rb sl S.st S.wd d f G O
def PE(w0 w:J)(rb:Nat)(G:List En):Prop:=∃(sl:Sl) (d:List FM) (f:FM) (O:List I) (st e:Int),SF F0 w0 w rb sl st e d f G O
section
variable {s:ByteArray} {w0:J} {rb t2 t3 t4 D l_ U:Nat} {o_:jP->Option Code->Obj}
abbrev FU(s:ByteArray)(rb t2 t3 t4 l_ U:Nat)(o_:jP->Option Code->Obj):Prop:=
 ∀(j k q:Int) (w:ByteArray) (x:Int) (d:J) (e:Bool->J->Prop),d.heap[l_]? =some (o_ .ready none)->Eg.z6 l_ o_ s (ab t2) (ab t3) (ab t4) (ab rb) (ab U) j k q w x d (λy z=>∃h:Bool,y=ae (.bool h)/\e h z)->W.ud Y l_ #[.agg #[.int .u8 j,.int .u8 k,.int .u8 q,.string w,.int .i64 x]] d e
def NT(hY:FU s rb t2 t3 t4 l_ U o_){S:SX}{m:Nat}(q:Inv S m)(hm:m<=900000)(t:Tk){e:En}{w:J}(H:PS w0 w rb (lZ t2 t3 t4 D l_ U s (.int .i64 0) (.int .i64 0) (o_ .ready none)++[e]) S){K:Bool->J->Prop}(ac:∀j h,fC h t S=none->PE w0 j rb (lZ t2 t3 t4 D l_ U s (.int .i64 t.a) (.int .i64 2) (o_ .done (some .ret))++[e])->K false j)(ad:∀j h C,fC h t S=some C->PS w0 j rb (lZ t2 t3 t4 D l_ U s (.int .i64 0) (.int .i64 0) (o_ .ready none)++[e]) C->K true j):W.ud Y l_ #[t.v] w K:=by
 obtain⟨lo,ah,st,wd⟩:=S;obtain⟨sl,F,f,ts,p,y,z,Z,h4,hb,H⟩:=H;have y:F.map FM.x=lo:=y;have z:f.x=ah:=z;subst y z;refine hY _ _ _ _ _ w K (H.ob 7) ?_;refine H.nw λw1 _ N=>N.Qm 10 rfl λw2 O=>O.pu 7 rfl λw3 d=>⟨_,_,_,_,_,d.ld 10 0,d.ld 10 1,d.ld 10 2,d.ld 10 3,d.ld 10 4,?_⟩;have P:SF F0 w0 w3 rb sl st wd F f (lZ t2 t3 t4 D l_ U s (.int .i64 0) (.int .i64 0) (o_ .busy none)++[e,.c w.heap.size (E8 t) nA]) ts:=d;refine P.xJ Z h4 (λak af=>T1 af (a6 q.lo (by omega)) (q.tp.mono (by omega)) q.s1 t) ?_;rintro r w4 I G E p4 ag ai L al aa ab b4 ⟨h,ae⟩ A;rcases ae with⟨hn,rfl⟩|⟨hs,rfl⟩
 .refine ⟨false,rfl,a1 rfl ?_⟩;refine A.dr λM k=>⟨t.a,k.ld 10 4,k.jL 3 rfl λw6 B=>⟨B.ld 10 4,B.jK 4 rfl λw7 Q=>Q.jK 5 rfl λw8 T=>T.pu 7 rfl λw9 V=>⟨false,rfl,ac w9 h hn ⟨I,G,E,L,ag,ai,?_⟩⟩⟩⟩;exact V.take 10
 .refine ⟨true,rfl,aZ rfl (A.pu 7 rfl λM k=>⟨true,rfl,ad M h _ hs ⟨I,G,E,L,p4,rfl,rfl,aa,ab,λb aj=>?_,k.take 10⟩⟩)⟩
  grind
def Sn(w0:J)(rb t2 t3 t4 D l_ U:Nat)(s:ByteArray)(o_:jP->Option Code->Obj)(w':J):Int⊕SX->Prop
 |.inl a=>PE w0 w' rb (lZ t2 t3 t4 D l_ U s (.int .i64 a) (.int .i64 2) (o_ .done (some .ret)))
 |.inr d=>PS w0 w' rb (lZ t2 t3 t4 D l_ U s (.int .i64 0) (.int .i64 0) (o_ .ready none)) d
def YC(hs:s.size<=4096)(hY:FU s rb t2 t3 t4 l_ U o_)(R:aH):∀(n i m:Nat) (S:SX) (w:J),s.size - i<n->i<=s.size->Inv S m->m+n<=900000->
  PS w0 w rb (lZ t2 t3 t4 D l_ U s (.int .i64 0) (.int .i64 0) (o_ .ready none)) S->
  (∀F res,pZ (ji (bl s) n i) S res->Sn w0 rb t2 t3 t4 D l_ U s o_ F res->R (ae (.tuple #[])) F)->zf.L0 l_ (ab U) (i:Int) w R:=by
 intro n;induction n with
 |zero=>omega
 |succ n ih=>
  intro i m S w hn hi I hm hP x;have hl:(bl s).length=s.size:=dH s;have ak:=hP;obtain⟨sl,N,f,ts,p,ad,ag,h3,h4,K,C⟩:=ak;refine zf.bC _ _ _ _ _ ⟨s,C.j6 8,aF (λai=>⟨s,C.j6 8,by omega,_,kX (i:=i) (by omega),jj (n:=32) (by omega) (λhc:(bl s).getD i 0=32=>?_) (λhc:(bl s).getD i 0≠32=>⟨s,C.j6 8,C.call (Uu s (by omega) i (by omega) w) ?_⟩)⟩) (λai=>⟨s,C.j6 8,?_⟩)⟩
  .rw [show aj .i64 ((i:Int)+1)=((i+1:Nat):Int)by rw[aQ _ (by omega)];omega];refine ih (i+1) m S w (by omega) (by omega) I (by omega) hP (λF res hr T=>x F res ?_ T);unfold ji
   grind
  .rintro _ w1 rfl L;have al:=Rm (l:=bl s) (i:=i) (by omega);have M:ji (bl s) (n+1) i=(eL (bl s) i).1::ji (bl s) n (i+(eL (bl s) i).2):=by rw[ji,aq (by omega),af hc]
   rw[M]at x;refine⟨_,_,_,_,_,_,rfl,L.nw λw2 _ H2=>H2.Qm 9 rfl λw7 E=>⟨_,_,_,_,_,E.ld 9 0,E.ld 9 1,E.ld 9 2,E.ld 9 3,E.ld 9 4,?_⟩⟩;have ah:SF F0 w0 w7 rb sl S.st S.wd N f (lZ t2 t3 t4 D l_ U s (.int .i64 0) (.int .i64 0) (o_ .ready none)++[.c w1.heap.size (E8 (eL (bl s) i).1) nA]) ts:=E;refine NT hY I (by omega) (eL (bl s) i).1 (e:=.c w1.heap.size (E8 (eL (bl s) i).1) nA) ⟨sl,N,f,ts,p,ad,ag,h3,h4,K,ah⟩ (λB y W q=>a1 rfl (x B (.inl (eL (bl s) i).1.a) ⟨y,.inl ⟨W,rfl⟩⟩ ?_)) (λB y G H q=>aZ rfl ?_)
   .obtain ⟨z,j,h,A,aa,ac,d⟩:=q;exact⟨z,j,h,A,aa,ac,d.take 9⟩
   .obtain ⟨z,j,h,A,p8,V,Z,O,P,Q,d⟩:=q;refine⟨_,d.ld 9 0,jj (n:=63) (by omega) (λhk:(eL (bl s) i).1.k=63=>?_) (λhk=>?_)⟩
    .rw [Vv hk]at H;grind
    .rw [show aj .i64 ((i:Int)+((eL (bl s) i).2:Int))=((i+(eL (bl s) i).2:Nat):Int)by rw[aQ _ (by omega)];omega];refine ih (i+(eL (bl s) i).2) (m+1) G B (by omega) (by omega) (B0 I H) (by omega) ⟨z,j,h,A,p8,V,Z,O,P,Q,d.take 9⟩ (λF res hr T=>x F res ⟨y,.inr ⟨G,H,hr⟩⟩ T)
  .have M:ji (bl s) (n+1) i=[⟨36,0,0,[],(bl s).length⟩]:=by rw[ji,af (by omega)]
   rw[M,hl]at x;have L:=C.push u4 (Fr.refl _ _) trivial (λb K=>by cases K);refine NT hY I (by omega) ⟨36,0,0,[],(s.size:Int)⟩ (e:=u4) ⟨sl,N,f,ts,p,ad,ag,h3,h4,K,L⟩ (λB y W q=>x B (.inl (s.size:Int)) ⟨y,.inl ⟨W,rfl⟩⟩ ?_) (λB y G H q=>x B (.inr G) ⟨y,.inr ⟨G,H,rfl⟩⟩ ?_)
   .obtain ⟨z,j,h,A,aa,ac,d⟩:=q;exact⟨z,j,h,A,aa,ac,d.take 9⟩
   .obtain ⟨z,j,h,A,p8,V,Z,O,P,Q,d⟩:=q;exact⟨z,j,h,A,p8,V,Z,O,P,Q,d.take 9⟩
end
def q2:∀(a b:List Rx),Rx.a0 (a++b)=Rx.a0 a+Rx.a0 b
 |[],b=>by simp[Rx.a0]
 |d::a,b=>by have:=q2 a b;show d.sz+Rx.a0 (a++b)=(d.sz+Rx.a0 a)+Rx.a0 b;omega
def q7(x:Rx):Rx.a0 [x]=x.sz:=by simp[Rx.a0]
def DB(k:Int)(l:List Rx):(od k l).sz<=1+Rx.a0 l:=by
 unfold od;split
 .rw [q7];omega
 .unfold Rx.sz;omega
def Dv:∀(n:Nat) (r:Rx),(na n r).sz=n+r.sz
 |0,r=>by unfold na;omega
 |n+1,r=>by unfold na;rw[Dv n];unfold Rx.sz;rw[q7];cases r;simp only[Rx.sz];omega
def fz(f:FX):Nat:=Rx.a0 f.ar.2+Rx.a0 f.al+Rx.a0 f.an+Rx.a0 f.ca+f.n
def lz:List FX->Nat
 |[]=>0
 |f::l=>fz f+lz l
def ys:∀(a b:List FX),lz (a++b)=lz a+lz b
 |[],b=>by simp[lz]
 |d::a,b=>by have:=ys a b;show fz d+lz (a++b)=(fz d+lz a)+lz b;omega
def pz(S:SX):Nat:=lz S.lo+fz S.tp+(if S.st=0\/S.st=1\/S.st=2 then 0 else S.tp.la.sz)
def DZ(S:SX):pz S<=lz S.lo+fz S.tp+S.tp.la.sz:=by unfold pz;grind
def YY(S:SX):lz S.lo+fz S.tp<=pz S:=by unfold pz;omega
def og{S:SX}(h:S.st=0\/S.st=1\/S.st=2):pz S=lz S.lo+fz S.tp:=by unfold pz;grind
def Ot{S:SX}(h:¬(S.st=0\/S.st=1\/S.st=2)):pz S=lz S.lo+fz S.tp+S.tp.la.sz:=by unfold pz;grind
def Wq(f:FX):fz (kJ f)=fz f+f.la.sz:=by unfold fz kJ;simp only[q2,q7,Dv];omega
def PR(f:FX):fz (jZ f)<=fz f+f.la.sz+1:=by have d:=DB 3 (f.ca++[na f.n f.la]);simp only[q2,q7,Dv]at d;show Rx.a0 f.ar.2+Rx.a0 f.al+Rx.a0 (f.an++[od 3 (f.ca++[na f.n f.la])])+Rx.a0 []+0<=_;unfold fz;simp only[q2,Rx.a0];omega
def Hw(f:FX):Rx.a0 f.ar.2+Rx.a0 (jY f).al<=fz f+f.la.sz+2:=by have e:=DB 5 (jZ f).an;have h:=PR f;have d:fz (jZ f)=Rx.a0 f.ar.2+Rx.a0 f.al+Rx.a0 (jZ f).an+0+0:=rfl;show Rx.a0 f.ar.2+Rx.a0 (f.al++[od 5 (jZ f).an])<=_;simp only[q2,q7];omega
def UX(f:FX):fz (jY f)<=fz f+f.la.sz+2:=by have:=Hw f;show Rx.a0 f.ar.2+Rx.a0 (jY f).al+Rx.a0 []+Rx.a0 []+0<=_;simp only[Rx.a0];omega
def BZ(f:FX):Rx.a0 f.ar.2+(eN f).sz<=fz f+f.la.sz+3:=by have d:=DB 4 (jY f).al;have:=Hw f;show _+(od 4 (jY f).al).sz<=_;omega
def Cs{t:Tk}{S d:SX}(h:fD t S=some d):pz d<=lz S.lo+fz S.tp+1:=by
 have leaf:∀(k:Int) (a b:UInt8),(Rx.mk k a b []).sz=1:=λk a b=>by unfold Rx.sz;simp[Rx.a0]
 unfold fD at h;split at h
 .cases h;rw[og (.inl rfl)];show lz S.lo+(Rx.a0 S.tp.ar.2+Rx.a0 S.tp.al+Rx.a0 S.tp.an+Rx.a0 S.tp.ca+(S.tp.n+1))<=_;unfold fz;omega
 .split at h
  .cases h;rw[og (.inl rfl)];show lz (S.lo++[S.tp])+fz (kQ (-1))<=_;rw[ys];have:fz (kQ (-1))=0:=rfl;simp only[lz];omega
  .have e:∀(k:Int) (a b:UInt8),pz ⟨S.lo,iF S.tp (.mk k a b []),3,S.wd⟩<=lz S.lo+fz S.tp+1:=λk a b=>by
    refine a6 (DZ _) ?_;show lz S.lo+fz S.tp+(Rx.mk k a b []).sz<=_
    grind
   split at h
   .grind
   .split at h
    .split at h
     .grind
     .split at h
      .grind
      .split at h
       .cases h;rw[og (.inr (.inr rfl))];grind
       .split at h
        .cases h;rw[og (.inr (.inr rfl))];grind
        .split at h
         .cases h;rw[og (.inr (.inr rfl))];grind
         grind
    grind
def Hm{S d:SX}{l:List Rx}(h:ln S l=some d):pz d<=lz S.lo+Rx.a0 l+1:=by
 unfold ln at h;rcases qL S.lo with e|⟨a,g,e⟩
 .grind
 .rw [e]at h ⊢;simp at h;subst h;refine a6 (DZ _) ?_;show lz a+fz g+(mc S.tp.k l).sz<=_;rw[ys];have:(mc S.tp.k l).sz<=Rx.a0 l+1:=by
   unfold mc;split
   .cases l with
    |nil=>exact(by show fq.sz<=_;unfold fq Rx.sz;omega)
    |cons j l=>show j.sz<=_;unfold Rx.a0;omega
   .unfold Rx.sz;omega
  simp only[lz];omega
def Vx{s':Sl}{t:Tk}{S d:SX}(h:fC s' t S=some d):pz d<=pz S+4:=by
 have w:=YY S;unfold fC at h;split at h
 .split at h
  .cases h;rw[og (.inr (.inl rfl))];show lz (S.lo++[S.tp])+fz (kQ S.wd)<=_;rw[ys];have:fz (kQ S.wd)=0:=rfl;simp only[lz];omega
  grind
 .rename_i q;split at h
  .split at h
   .have:=Hm h;simp only[Rx.a0]at this;omega
   .have:=Cs h;omega
  .rename_i k;split at h
   .have:=Cs h;omega
   .rename_i j;have x:=Ot (S:=S) (by omega);split at h
    .cases h;refine a6 (DZ _) ?_;show lz S.lo+fz S.tp+(Rx.mk 7 0 0 [S.tp.la]).sz<=_;have:(Rx.mk 7 0 0 [S.tp.la]).sz=1+S.tp.la.sz:=by show 1+Rx.a0 [S.tp.la]=_;rw[q7]
     omega
    .split at h
     .cases h;rw[og (.inl rfl)];show lz S.lo+fz (jZ S.tp)<=_;have:=PR S.tp;omega
     .split at h
      .cases h;rw[og (.inl rfl)];show lz S.lo+fz (jY S.tp)<=_;have:=UX S.tp;omega
      .split at h
       .split at h
        .cases h
        .cases h;rw[og (.inl rfl)];show lz S.lo+(Rx.a0 (S.tp.ar.2++[eN S.tp])+Rx.a0 []+Rx.a0 []+Rx.a0 []+0)<=_;have:=BZ S.tp;simp only[q2,Rx.a0];omega
       .split at h
        .split at h
         .cases h
         .have e:=Hm h;have:=BZ S.tp;simp only[q2,q7]at e;omega
        .split at h
         .grind
         .have e:=Cs h;have:=Wq S.tp
          grind
def Vw{s':Sl}{a:Int}{S d:SX}(h:fC s' ⟨36,0,0,[],a⟩ S=some d):d=S/\¬(S.st=0\/S.st=1\/S.st=2):=by
 have it:∀S,fD ⟨36,0,0,[],a⟩ S=none:=λS=>rfl;unfold fC at h
 grind
def Ey(l:List UInt8):∀(n i:Nat) (S d:SX),l.length - i<n->pZ (ji l n i) S (.inr d)->(eN d.tp).sz<=pz S+4 *n+4
 |0,i,S,d,z,_=>by omega
 |n+1,i,S,d,z,e=>by
  unfold ji at e;split at e
  .split at e
   .have:=Ey l n (i+1) S d (by omega) e;omega
   .rename_i A _;have C:=Rm A;obtain⟨B,⟨_,q⟩|⟨h,j,k⟩⟩:=e
    .cases q
    .have:=Ey l n (i+(eL l i).2) h d (by omega) k;have:=Vx j;omega
  .obtain ⟨B,⟨_,q⟩|⟨h,j,k⟩⟩:=e
   .cases q
   .have w:d=h:=by have:Sum.inr d=(Sum.inr h:Int⊕SX):=k;grind
    obtain⟨x,y⟩:=Vw j;subst w x;have:=Ot y;have:=BZ d.tp;omega
def Xd{M:Nat->Prop}{w0 w:J}{L D:List En}(H:LH M w0 w L D)(is k:List Nat)(A:is.Perm k)(z:k.map (λh=>L.getD h u4)=L):LH M w0 w (is.map λh=>L.getD h u4) D:=by
 have j:(is.map λh=>L.getD h u4).Perm L:=by grind
 exact⟨H.fr,λd e=>H.own d (j.mem_iff.1 e),H.rd,λd e=>H.new d (j.mem_iff.1 e),((j.flatMap_right _).nodup_iff).2 H.nd,λd e b x q y=>H.dj d e b x q (j.mem_iff.1 y)⟩
def Za{d:J}{l:Nat}{o:jP->Option Code->Obj}{N:J->Prop}{X:Nat->J->Prop}{T:J->Prop}(h:lL d l (o .ready none) (o .exhausted none) N):xg d l o N X T:=.inl h
def Zb{d:J}{l:Nat}{o:jP->Option Code->Obj}{N:J->Prop}{X:Nat->J->Prop}{T:J->Prop}(h:lL d l (o .done (some .ret)) (o .exhausted (some .ret)) T):xg d l o N X T:=.inr (.inr h)
def JJ{b:Nat}(h:b∈I.a8 [.mk 0 0 0 ⟨none,0,0⟩ []]):False:=by
 have:=yf (O:=[]) (k:=0) (lo:=0) (V:=0) (b:=b) h;unfold I.a8 at this
 grind
def tN:SX:=⟨[],kQ (-1),0,0⟩
def Jm:Inv tN 0:=by
 refine⟨bm _,λf e=>?_,EH _ _,λd=>?_,λd=>?_⟩
 .cases e
 .have:(0:Int)=1:=d;omega
 .have:(0:Int)=2:=d;omega
def Ex(l:List UInt8):∀(n i m:Nat) (S d:SX),Inv S m->pZ (ji l n i) S (.inr d)->Inv d (m+n)
 |0,i,m,S,d,j,e=>by
  have A:(Sum.inr d:Int⊕SX)=.inr S:=e
  grind
 |n+1,i,m,S,d,j,e=>by
  have z:∀{S:SX} {a b:Nat},Inv S a->a<=b->Inv S b:=λh x=>⟨a6 h.lo x,λf B=>(h.sl f B).mono x,h.tp.mono x,h.s1,h.s2⟩;unfold ji at e;split at e
  .split at e
   .exact z (Ex l n _ m S d j e) (by omega)
   .obtain ⟨C,⟨_,y⟩|⟨k,q,w⟩⟩:=e
    .cases y
    .exact z (Ex l n _ (m+1) k d (B0 j q) w) (by omega)
  .obtain ⟨C,⟨_,y⟩|⟨k,q,w⟩⟩:=e
   .cases y
   .have A:(Sum.inr d:Int⊕SX)=.inr k:=w;cases A;exact z (B0 j q) (by omega)
def So(w:J)(s:ByteArray):aH:=λr e=>ag w e/\
 ((4096<s.size/\r=ae (.tuple #[.agg #[.int .i64 0,.int .u8 0,.int .u8 0,.slice none 0 0],.int .i64 4096,.int .i64 4]))\/
  (s.size<=4096/\∃res,pZ (ji (bl s) (s.size+1) 0) tN res/\((∃a,res=.inl a/\r=ae (.tuple #[.agg #[.int .i64 0,.int .u8 0,.int .u8 0,.slice none 0 0],.int .i64 a,.int .i64 2]))\/
   ∃d,res=.inr d/\((64<(eN d.tp).sz/\r=ae (.tuple #[.agg #[.int .i64 0,.int .u8 0,.int .u8 0,.slice none 0 0],.int .i64 (s.size:Int),.int .i64 4]))\/
    ((eN d.tp).sz<=64/\∃t:I,r=ae (.tuple #[t.v,.int .i64 0,.int .i64 0])/\t.rx=eN d.tp/\t.P e/\∀b∈t.fp,w.heap.size<=b)))))
def TP(s:ByteArray)(w:J):ai Y LU #[.string s] w (So w s):=by
 refine Eg.ok _ w _ ((bI [] (λ_ x=>by cases x)).nw λN _ H1=>H1.nw λS _ H2=>H2.nw λw3 _ H3=>aF (λx=>?_) (λx=>?_))
 .refine H3.jL 0 rfl λw4 H4=>H4.jK 1 rfl λw5 Z=>Z.jK 2 rfl λw6 q=>⟨_,_,_,⟨none,0,0⟩,q.ld 0 0,q.ld 0 1,q.ld 0 2,q.ld 0 3,_,q.j6 1,_,q.j6 2,q.fr,.inl ⟨by omega,rfl⟩⟩
 have L:s.size<=4096:=by omega
 have hl:(bl s).length=s.size:=dH s;refine H3.cN (e:=hX) (sz:=10) (n:=1) (cs:=(iN (-1)).c) rfl (by decide) λQ ag=>ag.nw λap _ V=>?_;refine V.jK 4 rfl λaq y=>y.st 4 1 rfl λae E=>E.st 4 2 rfl λB F=>?_;refine Pl.ok _ B _ (F.nw λh _ k=>⟨_,rfl,?_⟩);show ∀A:jP->Option Code->Obj,_;intro A hY;have e1:(h.alloc (.deferred (some []))).heap.size=h.heap.size+1:=size_alloc _ _;have HG:=(k.alloc (.deferred (some []))).alloc (A .ready none);rw[e1]at HG;have hP:(En.rows (([]++[iN (-1)]:List FM).flatMap FM.rows)).P ((h.alloc (.deferred (some []))).alloc (A .ready none)):=by refine⟨λao K=>?_,by decide⟩;have K:ao∈[((⟨none,0,0⟩,[]):dZ),(⟨none,0,0⟩,[]),(⟨none,0,0⟩,[]),(⟨none,0,0⟩,[])]:=K;simp only[au,aO,aR,or_self]at K;subst K;exact aK.nil _ _ _
 have Ha:=(HG.push (.rows (([]++[iN (-1)]:List FM).flatMap FM.rows)) (Fr.refl _ _) hP (λb j=>by
  have j:=aM.1 j;have j:b∈([]:List Nat):=j;cases j)).gy (.trees [.mk 0 0 0 ⟨none,0,0⟩ []]) (Fr.refl _ _) (I.ir λt M=>by
   simp at M;subst M;show I.P _ _;unfold I.P I.Ps;exact⟨bx.nil 4 _,trivial⟩) (λb j=>by exact(JJ (aM.1 j)).elim)
 have Hb:=Xd Ha [4,3,8,0,1,2,6,7,5] [0,1,2,3,4,5,6,7,8] (by decide) rfl;have HS:SF F0 w ((h.alloc (.deferred (some []))).alloc (A .ready none)) Q.heap.size ⟨some (ab w3.heap.size),1,1⟩ 0 0 [] (iN (-1)) (lZ w.heap.size N.heap.size S.heap.size h.heap.size (h.heap.size+1) B.heap.size s (.int .i64 0) (.int .i64 0) (A .ready none)) [.mk 0 0 0 ⟨none,0,0⟩ []]:=Hb;refine zf.ok _ _ _ _ (YC (w0:=w) (rb:=Q.heap.size) (t2:=w.heap.size) (t3:=N.heap.size) (t4:=S.heap.size) (D:=h.heap.size) (l_:=h.heap.size+1) (U:=B.heap.size) L hY _ (s.size+1) 0 0 tN _ (by omega) (by omega) Jm (by omega)
  ⟨_,[],iN (-1),_,_,rfl,rfl,λg hg t M=>?_,rfl,λb j=>?_,HS⟩ (λw' res G he=>⟨⟨_,rfl⟩,?_⟩))
 .simp at hg;subst hg;simpa[FM.O,iN]using M
 .exact (JJ j).elim
 cases res with
 |inl a=>
  obtain⟨sl,H,f,ts,st,aJ,T⟩:=he;refine Zb (T.pu 7 rfl λap V=>V.pu 6 rfl λh k=>⟨_,_,_,⟨none,0,0⟩,k.ld 3 0,k.ld 3 1,k.ld 3 2,k.ld 3 3,_,k.j6 4,_,k.j6 5,k.fr,.inr ⟨L,_,G,.inl ⟨a,rfl,rfl⟩⟩⟩)
 |inr z=>
  obtain⟨sl,H,f,ts,p,am,ac,h3,h4,j,T⟩:=he;have hI:=Ex _ _ _ _ _ _ Jm G;have an:=Ey _ _ _ _ _ (by omega) G;rw[show pz tN=0 from rfl]at an;have al:H.length<=1000000:=by have:=hI.lo;rw[<-am]at this;simp at this;omega
  refine Za (T.pu 7 rfl λw5 Z=>?_);have aa:SF F0 w w5 Q.heap.size sl z.st z.wd H f (lZ w.heap.size N.heap.size S.heap.size h.heap.size (h.heap.size+1) B.heap.size s (.int .i64 0) (.int .i64 0) (A .exhausted none)) ts:=Z;refine aa.call (xE aa h4 al) ?_;rintro _ w6 rfl q;have ah:SF F0 w w6 Q.heap.size sl z.st z.wd H f (lZ w.heap.size N.heap.size S.heap.size h.heap.size (h.heap.size+1) B.heap.size s (.int .i64 0) (.int .i64 0) (A .exhausted none)) ts:=q;refine⟨_,rfl,ah.xJ h3 h4 (λaE s1=>xA s1 (by rw[ac];exact hI.tp.mono (by omega))) ?_⟩;rintro r w7 aG av f3 p3 aH aL ad aI aw ax aj ⟨aB,az,aA,rfl,rfl,u,hu,rfl,hx⟩ H7;rw[ac]at hx;have aD:u.sz=(eN z.tp).sz:=by rw[<-hx,I.eB]
  refine⟨_,_,_,u.s,rfl,H7.nw λw8 _ H8=>H8.jL 9 rfl λw9 C=>⟨_,_,_,u.s,C.ld 9 0,C.ld 9 1,C.ld 9 2,C.ld 9 3,C.call (Bh u w9 (by omega) ((show I.Ps w9 ad from C.getD 0).mem hu)) ?_⟩⟩;rintro _ aq rfl y;refine⟨_,rfl,aF (λay=>?_) (λaC=>?_)⟩
  .refine y.jL 3 rfl λae E=>E.jK 4 rfl λB F=>F.jK 5 rfl λar W=>W.pu 6 rfl λaf d=>⟨_,_,_,⟨none,0,0⟩,d.ld 3 0,d.ld 3 1,d.ld 3 2,d.ld 3 3,_,d.j6 4,_,d.j6 5,d.fr,.inr ⟨L,_,G,.inr ⟨z,rfl,.inl ⟨by omega,rfl⟩⟩⟩⟩
  .refine ⟨_,_,_,u.s,y.ld 9 0,y.ld 9 1,y.ld 9 2,y.ld 9 3,y.jL 3 rfl λae E=>E.jK 4 rfl λB F=>F.jK 5 rfl λar W=>W.pu 6 rfl λaf d=>⟨_,_,_,u.s,d.ld 3 0,d.ld 3 1,d.ld 3 2,d.ld 3 3,_,d.j6 4,_,d.j6 5,d.fr,.inr ⟨L,_,G,.inr ⟨z,rfl,.inr ⟨by omega,u,rfl,hx,(show I.Ps af ad from d.getD 0).mem hu,λb ak=>?_⟩⟩⟩⟩⟩;rcases aj b (I.bJ.2 ⟨u,hu,ak⟩)with x|x|x
   .exact j b x
   .exact x
   .exact x.elim
def FF:Sl:=⟨none,0,0⟩
def er(f:FX):FX:=⟨f.k,(FF,f.ar.2),f.al,f.an,f.ca,f.n,f.la⟩
def fj(S:SX):SX:=⟨S.lo.map er,er S.tp,S.st,S.wd⟩
def Cq(t:Tk)(S:SX):(fD t S).map fj=fD t (fj S):=by
 have d:er (kQ (-1))=kQ (-1):=rfl;have e:(S.lo++[S.tp]).map er=S.lo.map er++[er S.tp]:=by simp
 unfold fD;split
 .rfl
 .split
  .simp only[Option.map_some,fj,d,e]
  .split
   .rfl
   .split
    .split
     .rfl
     .split
      .rfl
      .split
       .rfl
       .split
        .rfl
        .split<;>rfl
    .rfl
def Hk(S:SX)(l:List Rx):(ln S l).map fj=ln (fj S) l:=by
 unfold ln;rcases qL S.lo with d|⟨a,g,d⟩
 .simp [d,fj]
 .have e:(fj S).lo=a.map er++[er g]:=by simp[fj,d]
  rw[d,e];simp[fj];rfl
def IC(s':Sl)(t:Tk)(S:SX):(fC s' t S).map fj=fC FF t (fj S):=by
 have q:(S.lo++[S.tp]).map er=S.lo.map er++[er S.tp]:=by simp
 have h:(fj S).st=S.st:=rfl;have j:(fj S).tp.k=S.tp.k:=rfl;unfold fC;rw[h,j];by_cases e:S.st=2
 .rw [aq e,aq e];split
  .show some (fj ⟨S.lo++[S.tp],kQ S.wd,1,S.wd⟩)=some ⟨S.lo.map er++[er S.tp],kQ S.wd,1,S.wd⟩;rw[<-q];rfl
  .rfl
 rw[af e,af e];split
 .split
  .exact Hk S []
  .exact Cq t S
 .split
  .exact Cq t S
  .split
   .rfl
   .split
    .rfl
    .split
     .rfl
     .split
      .split<;>rfl
      .split
       .by_cases d:S.lo=[]
        .rw [aq d,aq (show(fj S).lo=[]by simp[fj,d])];rfl
        .rw [af d,af (show ¬(fj S).lo=[]by simp[fj,d])];exact Hk S _
       .split
        .by_cases d:S.lo=[]
         .rw [aq d,aq (show(fj S).lo=[]by simp[fj,d])];rfl
         .rw [af d,af (show ¬(fj S).lo=[]by simp[fj,d])];rfl
        .exact Cq t ⟨S.lo,kJ S.tp,S.st,S.wd⟩
def wo:List Tk->SX->Int⊕SX
 |[],d=>.inr d
 |t::h,d=>match fC FF t d with
  |none=>.inl t.a
  |some e=>wo h e
def Ir:Int⊕SX->Int⊕SX
 |.inl a=>.inl a
 |.inr d=>.inr (fj d)
def PG:∀(O:List Tk) (S:SX) (r:Int⊕SX),pZ O S r->Ir r=wo O (fj S)
 |[],S,r,d=>by have d:r=.inr S:=d;subst d;rfl
 |t::O,S,r,d=>by
  obtain⟨j,⟨e,h⟩|⟨k,e,h⟩⟩:=d
  .subst h;have:=IC j t S;rw[e]at this;unfold wo;rw[<-this];rfl
  .have:=IC j t S;rw[e]at this;unfold wo;rw[<-this];exact PG O k r h
def tS(l:List UInt8):Int⊕SX:=wo (ji l (l.length+1) 0) tN
def aa3{s:ByteArray}{r:Int⊕SX}(h:pZ (ji (bl s) (s.size+1) 0) tN r):Ir r=tS (bl s):=by have:=PG _ _ _ h;rw[this];unfold tS;rw[dH];rfl
def Ix(S:SX):eN (fj S).tp=eN S.tp:=rfl
def lit(c:UInt8):Rx:=.mk 2 c c []
def kR(t:BL):Bool:=bif Nat.blt 4096 t.length then false else match tS t with
 |.inl _=>false
 |.inr d=>bif Nat.blt 64 (eN d.tp).sz then false else
  if n8 (eN d.tp)=0 then(if jN (iO (eN d.tp))=0 then cL 0 (iO (eN d.tp)) (a9 (iO (eN d.tp)))==t else false)else false
structure bj where
 k:Int
 n:Int
 x:Int
deriving DecidableEq
structure Nx where
 op:Int
 kids:List Int
 n:Int
 m:Int
 u:Int
 tx:ByteArray
 st:bj
deriving DecidableEq
def cZ:bj:=⟨0,0,0⟩
def bz(n:Int):bj:=⟨0,n,0⟩
def eT(n:Int):bj:=⟨1,n,0⟩
def bU(s:bj):Bool:=(s.k==0&&ak (1<=s.n)&&ak (s.n<=64)&&s.x==0)||(s.k==1&&ak (0<=s.n)&&ak (s.n<=64)&&s.x==0)||(s.k==2&&ak (1<=s.n)&&ak (s.n<=64)&&ak (1<=s.x)&&ak (s.x<=16))||(s.k==3&&ak (0<=s.n)&&ak (s.n<=64)&&ak (1<=s.x)&&ak (s.x<=16))
def gW(s:bj):Int:=if bU s then 0 else 9
def ec(s:bj):Bool:=s.k==2||s.k==3
def cS(op:Int):Int:=if op<0\/34<op then -1 else if op<=3 then 0 else if op=4\/op=5\/op=21\/op=22\/op=23\/op=27\/op=28\/op=33\/op=34 then 1 else if op=19\/op=25\/op=30\/op=32 then 3 else 2
def o0(op:Int):Bool:=op==21||op==22||op==23||op==28
def o1(op:Int):Bool:=op==0||op==2||op==33
def i'(n:Nx):Bool:=(o0 n.op||n.n==0)&&(n.op==21||n.m==0)&&(n.op==1||n.u==0)&&(o1 n.op||ak (n.tx=ba []))
def fk(g:List Nx)(k:Int):Bool:=ak (0<=k)&&ak (k<(g.length:Int))
def eZ(c:UInt8):Bool:=ak (97<=c.toNat)&&ak (c.toNat<=122)
def cT(c:UInt8):Bool:=eZ c||(ak (48<=c.toNat)&&ak (c.toNat<=57))||c==45
def fE(l:List UInt8):Bool:=match l with
 |[]=>false
 |c::m=>ak (m.length<=15)&&eZ c&&m.all cT
def jO:List Nx->ByteArray->Option bj
 |[],_=>none
 |d::g,t=>if d.op=0/\d.tx=t then some d.st else jO g t
def q'(g:List Nx)(n:Nx):Bool:=match jO g n.tx with
 |some s=>!decide (s=n.st)
 |none=>false
def ll(u n:Int):Bool:=ak (n<64)&&ak (2^n.toNat<=u)
def cC(g:List Nx)(n:Nx):bj×Int:=
 if n.op=2 then(if 64<n.tx.size then(cZ,5)else(eT n.tx.size,0))else
 if n.op=0/\fE (bl n.tx)=false then(cZ,6)else
 if bU n.st=false then(cZ,9)else
 if n.op=1/\n.st.k≠0\/n.op=3/\ec n.st=false then(cZ,9)else
 if n.op=1/\ll n.u n.st.n=true then(cZ,5)else
 if n.op=0/\q' g n=true then(cZ,8)else(n.st,0)
def hM(s:bj):bj:=if s.k=2 then bz s.n else eT s.n
def dh(op:Int)(x y z:bj):Bool:=
 if op=4\/op=5\/op=21\/op=22\/op=23 then x.k==0 else
 if op=18 then ak (x=y)||(x.k==1&&y.k==1)else
 if op=19 then ak (x=bz 1)&&(ak (y=z)||(y.k==1&&z.k==1))else
 if op=20 then x.k==0&&y.k==0 else
 if op=24 then ec x&&ak (y=bz x.x)else
 if op=25 then ec x&&ak (y=bz x.x)&&(ak (z=hM x)||(x.k==3&&z.k==1&&ak (z.n<=x.n)))else
 if op=26 then ec x&&ak (x=y)else
 if op=27\/op=28\/op=33 then x.k==1 else
 if op=29\/op=31 then x.k==1&&y.k==1 else
 if op=30 then x.k==1&&ak (y=bz 7)&&ak (z=bz 7)else
 if op=32 then x.k==1&&y.k==1&&z.k==1 else
 if op=34 then ak (x=bz 8)else x.k==0&&ak (x=y)
def hx(n:Nx)(x y z:bj):bj:=
 if n.op=16\/n.op=17\/n.op=18\/n.op=33 then bz 1 else
 if n.op=19 then(if y.k=1 then eT (if y.n<z.n then z.n else y.n)else y)else
 if n.op=20 then bz (x.n+y.n)else
 if n.op=21 then bz (n.n - n.m+1)else
 if n.op=22\/n.op=23 then bz (x.n+n.n)else
 if n.op=24 then hM x else
 if n.op=26 then bz x.x else
 if n.op=27\/n.op=31 then bz 7 else
 if n.op=28 then bz 8 else
 if n.op=29 then eT (x.n+y.n)else
 if n.op=32 then eT (x.n+z.n)else
 if n.op=34 then eT 1 else x
def km(n:Nx)(x y z:bj):Bool:=
 if n.op=20\/n.op=29 then ak (x.n+y.n<=64)else
 if n.op=21 then ak (0<=n.m)&&ak (n.m<=n.n)&&ak (n.n<x.n)else
 if n.op=22\/n.op=23 then ak (1<=n.n)&&ak (n.n<=64 - x.n)else
 if n.op=28 then ak (0<=n.n)&&ak (n.n<=63)else
 if n.op=32 then ak (x.n+z.n<=64)else true
def bQ(g:List Nx)(n:Nx)(i:Nat):bj:=match n.kids[i]? with
 |some e=>match g[e.toNat]? with
  |some d=>d.st
  |none=>cZ
 |none=>cZ
def nN(t:ByteArray):Bool:=kR (bl t)
def cv(g:List Nx)(n:Nx):bj×Int:=
 if(cS n.op==(n.kids.length:Int)&&n.kids.all (fk g)&&i' n)=false then(cZ,1)else
 if n.op<=3 then cC g n else
 if dh n.op (bQ g n 0) (bQ g n 1) (bQ g n 2)=false then(cZ,9)else
 if km n (bQ g n 0) (bQ g n 1) (bQ g n 2)=false then(cZ,5)else
 if n.op=33/\nN n.tx=false then(cZ,2)else(hx n (bQ g n 0) (bQ g n 1) (bQ g n 2),0)
def gL(n:Nx)(s:bj):Nx:={n with st:=s}
def hn(n:Nx):List Nx->Nat->Option Nat
 |[],_=>none
 |d::g,i=>if d=n then some i else hn n g (i+1)
def g2(g:List Nx)(n:Nx):List Nx×Int×Int:=
 if(cv g n).2≠0 then([],0,(cv g n).2)else
 match hn (gL n (cv g n).1) g 0 with
 |some i=>(g,i,0)
 |none=>if 4096<=g.length then([],0,4)else(g++[gL n (cv g n).1],g.length,0)
inductive Vg:List Nx->Prop
 |nil:Vg []
 |snoc {g:List Nx} {n:Nx}:Vg g->cv g n=(n.st,0)->n∉g->Vg (g++[n])
structure Nd where
 x:Nx
 ks:Sl
abbrev dO(s:bj):aa:=.agg #[.i s.k,.i s.n,.i s.x]
namespace Nd
def c(d:Nd):List aa:=[.i d.x.op,d.ks.v,.i d.x.n,.i d.x.m,.u d.x.u,.string d.x.tx,.i d.x.st.k,.i d.x.st.n,.i d.x.st.x]
abbrev v(d:Nd):aa:=.agg #[.i d.x.op,d.ks.v,.i d.x.n,.i d.x.m,.u d.x.u,.string d.x.tx,.i d.x.st.k,.i d.x.st.n,.i d.x.st.x]
def jq(d:Nd):(c d).length=9:=rfl
def eW(l:List Nd):(l.flatMap c).length=l.length *9:=oX c 9 jq l
abbrev P(w:J)(d:Nd):Prop:=bo w d.ks d.x.kids
structure fH(w:J)(p:Addr)(i:Nat)(d:Nd):Prop where
 c0:w.cell? ((p.add (i *9)).add 0)=some (.i d.x.op)
 c1:w.cell? ((p.add (i *9)).add 1)=some d.ks.v
 c2:w.cell? ((p.add (i *9)).add 2)=some (.i d.x.n)
 c3:w.cell? ((p.add (i *9)).add 3)=some (.i d.x.m)
 c4:w.cell? ((p.add (i *9)).add 4)=some (.u d.x.u)
 c5:w.cell? ((p.add (i *9)).add 5)=some (.string d.x.tx)
 c6:w.cell? ((p.add (i *9)).add 6)=some (.i d.x.st.k)
 c7:w.cell? ((p.add (i *9)).add 7)=some (.i d.x.st.n)
 c8:w.cell? ((p.add (i *9)).add 8)=some (.i d.x.st.x)
def cr{w:J}{s:Sl}{l:List Nd}(h:bx 9 w s (l.flatMap c)):s.n=l.length:=by have:=h.1;rw[eW]at this;omega
def dd{w:J}{s:Sl}{l:List Nd}(h:bx 9 w s (l.flatMap c)){i:Nat}{d:Nd}(V:l[i]? =some d){K:Addr->Prop}(j:∀p,s.a=some p->fH w p i d->K p):dM s.a K:=
 eV.elem (f:=c) (sz:=9) jq (by omega) h.2.2 V λp k e=>j p k ⟨e 0 _ rfl,e 1 _ rfl,e 2 _ rfl,e 3 _ rfl,e 4 _ rfl,e 5 _ rfl,e 6 _ rfl,e 7 _ rfl,e 8 _ rfl⟩
def again{w:J}{s:Sl}{l:List Nd}(h:bx 9 w s (l.flatMap c)){i:Nat}{d:Nd}(V:l[i]? =some d){p:Addr}(z:s.a=some p):fH w p i d:=by have k:=dd h V (K:=λj=>∃q,s.a=some q/\fH w q i d) (λj e y=>⟨j,e,y⟩);rw[z]at k;obtain⟨j,e,x⟩:=k;cases e;exact x
end Nd
abbrev xs(l:List Nd):List Nx:=l.map Nd.x
def GP(w:J)(s:Sl)(l:List Nd):Prop:=bx 9 w s (l.flatMap Nd.c)/\∀d∈l,d.P w
abbrev cY(d:Nd):En:=.rd d.ks (d.x.kids.map a')
def _root_.Go.W.En.gr(s:Sl)(l:List Nd):En:=.all (.bd 9 s (l.flatMap Nd.c)::l.map cY)
def bR{w:J}{s:Sl}{l:List Nd}:(En.gr s l).P w↔GP w s l:=by
 constructor
 .exact λd=>⟨d (.bd 9 s (l.flatMap Nd.c)) (by simp),λe h=>d (cY e) (e8 _ (bZ.2 ⟨e,h,rfl⟩))⟩
 .intro d k j;rcases au.1 j with rfl|j
  .exact d.1
  .obtain ⟨e,h,rfl⟩:=bZ.1 j;exact d.2 e h
def m6{s:Sl}{l:List Nd}{b:Nat}:b∈(En.gr s l).fp↔b∈(En.bd 9 s (l.flatMap Nd.c)).fp\/∃e∈l,b∈(cY e).fp:=by
 unfold En.gr En.all;rw[aM,List.mem_flatMap];constructor
 .rintro ⟨k,j,d⟩;rcases au.1 j with rfl|j
  .exact .inl d
  .obtain ⟨e,h,rfl⟩:=bZ.1 j;exact .inr ⟨e,h,d⟩
 .rintro (d|⟨e,h,d⟩)
  .exact ⟨_,kf ..,d⟩
  .exact ⟨_,e8 _ (bZ.2 ⟨e,h,rfl⟩),d⟩
def ih{w:J}{s:Sl}{l:List Nd}(h:GP w s l):s.n=l.length:=Nd.cr h.1
def hQ{w:J}{s:Sl}{l:List Nd}(h:GP w s l){i:Nat}{d:Nd}{X:Int}(e:X=(i:Int))(V:l[i]? =some d){K:Addr->Prop}(j:∀p,s.a=some p->Nd.fH w p (aV X) d->K p):fb s X K:=by have q:=ih h;have k:=(cz.1 V).1;subst e;exact⟨by omega,by omega,Nd.dd h.1 V j⟩
def wY{l:List Nd}{i:Nat}{d:Nd}(h:l[i]? =some d):(xs l)[i]? =some d.x:=by simp[xs,h]
namespace Nd
def fH.s0{w:J}{p:Addr}{i:Nat}{d:Nd}(h:fH w p i d):w.cell? (((p.add (i *9)).add 6).add 0)=some (.i d.x.st.k):=by rw[add_add];exact h.c6
def fH.s1{w:J}{p:Addr}{i:Nat}{d:Nd}(h:fH w p i d):w.cell? (((p.add (i *9)).add 6).add 1)=some (.i d.x.st.n):=by rw[add_add];exact h.c7
def fH.s2{w:J}{p:Addr}{i:Nat}{d:Nd}(h:fH w p i d):w.cell? (((p.add (i *9)).add 6).add 2)=some (.i d.x.st.x):=by rw[add_add];exact h.c8
end Nd
def Cf{w:J}{s:Sl}{l:List Nd}(h:GP w s l){i:Nat}{d:Nd}(V:l[i]? =some d){p:Addr}(j:s.a=some p){X:Int}(e:X=(i:Int)):Nd.fH w p (aV X) d:=by subst e;exact Nd.again h.1 V j
def gp(s:bj):List aa:=[.i s.k,.i s.n,.i s.x]
def Ql(l:List bj):(l.flatMap gp).length=l.length *3:=oX gp 3 (λ_=>rfl) l
structure AL(w:J)(p:Addr)(i:Nat)(s:bj):Prop where
 c0:w.cell? ((p.add (i *3)).add 0)=some (.i s.k)
 c1:w.cell? ((p.add (i *3)).add 1)=some (.i s.n)
 c2:w.cell? ((p.add (i *3)).add 2)=some (.i s.x)
def aad{w:J}{s:Sl}{l:List bj}(h:bx 3 w s (l.flatMap gp)):s.n=l.length:=by have:=h.1;rw[Ql]at this;omega
def ek{w:J}{s:Sl}{l:List bj}(h:bx 3 w s (l.flatMap gp)){i:Nat}{x:bj}{X:Int}(e:X=(i:Int))(V:l[i]? =some x){K:Addr->Prop}(j:∀p,s.a=some p->AL w p (aV X) x->K p):fb s X K:=by have y:=aad h;have q:=(cz.1 V).1;subst e;exact⟨by omega,by omega,eV.elem (f:=gp) (sz:=3) (λ_=>rfl) (by omega) h.2.2 V λp k d=>j p k ⟨d 0 _ rfl,d 1 _ rfl,d 2 _ rfl⟩⟩
def fV{w:J}{s:Sl}{l:List bj}(h:bx 3 w s (l.flatMap gp)){i:Nat}{x:bj}{X:Int}(y:X=(i:Int))(V:l[i]? =some x){p:Addr}(A:s.a=some p):AL w p (aV X) x:=by have j:=(ek h y V (K:=λe=>∃k,s.a=some k/\AL w k (aV X) x) (λe d z=>⟨e,d,z⟩)).2.2;rw[A]at j;obtain⟨e,d,q⟩:=j;cases d;exact q
def ko(a b:bj):((a.k==b.k)&&((a.n==b.n)&&((a.x==b.x)&&true)))=ak (a=b):=by cases a;cases b;simp only[bj.mk.injEq,Bool.and_true,Bool.decide_and];rfl
def zH(a b:ByteArray):(a.toList==b.toList)=ak (a=b):=by
 rw[ByteArray.toList_eq,ByteArray.toList_eq];have d:(a.data.toList=b.data.toList)↔a=b:=⟨λd=>ByteArray.ext (Array.toList_inj.1 d),λd=>by rw[d]⟩;rw[<-decide_eq_decide.2 d];cases e:ak (a.data.toList=b.data.toList)with
 |true=>rw[eH e];simp
 |false=>exact beq_eq_false_iff_ne.2 (hZ e)
section
variable {A B:Prop}
def ED{a b:ByteArray}(d:a=b->A)(e:a≠b->B):bh (a.toList==b.toList) A B:=by rw[zH];exact aF d e
def nt{a b:bj}(d:a=b->A)(e:a≠b->B):bh ((a.k==b.k)&&((a.n==b.n)&&((a.x==b.x)&&true))) A B:=by rw[ko];exact aF d e
def zl{a b:bj}(e:a≠b->A)(h:a=b->B):bh (!((a.k==b.k)&&((a.n==b.n)&&((a.x==b.x)&&true)))) A B:=by rw[ko];exact dN (λd=>e (hZ d)) (λd=>h (eH d))
def EC{s:bj}(e:bU s=false->A)(h:bU s=true->B):bh (gW s !=0) A B:=by
 unfold gW;cases d:bU s with
 |true=>exact aZ rfl (h d)
 |false=>exact a1 rfl (e d)
end
set_option maxRecDepth 100000
set_option maxHeartbeats 2000000
namespace H5
noncomputable abbrev t0:=az Y Tryz.f112 [] []
def ok:=aA t0 KD [.I]
end H5
namespace H9
noncomputable abbrev t0:=az Y Tryz.f111 [] []
def ok:=aA t0 KJ [.Y]
end H9
namespace vb
noncomputable abbrev t0:=az Y Tryz.f161 [] []
noncomputable def L0:=bf t0 [0,1,1,1,1] [(0,.v [.Y]),(3,.v [.I])]
noncomputable abbrev t1:=be L0
def bC:=bg t1 L0
def ok:=aA t1 KI [.Y]
end vb
namespace va
noncomputable abbrev t0:=az Y Tryz.f153 [(4,ls [0,1,2,3,6,7,8,9,4,5,10,11,12,13,14])] []
noncomputable abbrev S1:=av t0 [3] []
noncomputable abbrev t1:=ay S1
noncomputable abbrev S0:=av t1 [2] [(0,.v [.st]),(1,.v [.I])]
noncomputable abbrev t2:=ay S0
def ok:=aA t2 KC [.st,.I]
end va
namespace sA
noncomputable abbrev t0:=az Y Tryz.f133 [] [4]
abbrev P0:Ps:=[(4,.l [.I,.Y,.Y,.s] aN)]
noncomputable abbrev bM:=av t0 [0,1,1,1,6] P0
noncomputable abbrev t1:=ay bM
noncomputable abbrev cM:=av t1 [0,1,1,1,9] P0
noncomputable abbrev t2:=ay cM
noncomputable abbrev bV:=av t2 [9] [(0,.v [.st]),(1,.v [.I]),(4,.l [.I,.Y,.Y,.s] aN),(8,.v [.Y]),(11,.v [.Y]),(12,.v [.I]),(13,.v [.I])]
noncomputable abbrev t3:=ay bV
noncomputable abbrev bn:=av t3 [6] [(0,.v [.st]),(1,.v [.I]),(4,.l [.I,.Y,.Y,.s] aN),(8,.v [.Y]),(9,.v [.I]),(10,.v [.I])]
noncomputable abbrev t4:=ay bn
def aB:=aA t4 KL [.st,.I]
end sA
namespace jt
noncomputable abbrev t0:=az Y Tryz.f117 [(11,ls [0,1,2,3,4,5,6,7,8,9,10,11,12])] [5]
noncomputable def a2:=bf t0 [0,1,1,1,2] [(0,.v [.st]),(3,.v [.s]),(4,.v [.I])]
noncomputable abbrev t1:=be a2
abbrev P0:Ps:=[(0,.v [.st]),(3,.v [.s]),(4,.v [.I]),(5,.l [.I,.Y,.Y,.s] aN),(6,.v [.I])]
noncomputable def cm:=bf t1 [0,1,1,1,1,1,2,1,1,2,1,1,2] P0
noncomputable abbrev t2:=be cm
noncomputable abbrev bV:=av t2 [3,1,1,2,1,1,2] P0
noncomputable abbrev t3:=ay bV
def dB:=bg t3 cm
def bw:=bg t3 a2
def aB:=aA t3 KA [.st]
end jt
namespace Ib
noncomputable abbrev t0:=az Y Tryz.f155 [(3,ls [0,1,2,3,4,5,6,7,8,9,10,11])] []
def ok:=aA t0 KO [.r]
end Ib
namespace Ic
noncomputable abbrev t0:=az Y Tryz.f135 [] []
noncomputable abbrev S0:=av t0 [3] []
noncomputable abbrev t1:=ay S0
def ok:=aA t1 KP [.r,.st]
end Ic
namespace Ia
noncomputable abbrev t0:=az Y Tryz.f119 [] []
def ok:=aA t0 KN [.r,.st]
end Ia
namespace H7
noncomputable abbrev t0:=az Y Tryz.f136 [] [4]
def aB:=aA t0 vL [.I,.s]
end H7
namespace H'
noncomputable abbrev t0:=az Y Tryz.f163 [] []
def ok:=aA t0 KM [.r]
end H'
namespace vd
noncomputable abbrev t0:=az Y Tryz.f118 [] [2]
noncomputable def a2:=bf t0 [0,2,2] [(0,.v [.r]),(2,.l [.I,.Y,.Y,.s] aN),(3,.v [.s])]
noncomputable abbrev t1:=be a2
def bw:=bg t1 a2
def aB:=aA t1 CS [.r]
end vd
namespace vc
noncomputable abbrev t0:=az Y Tryz.f134 [] [2]
noncomputable def a2:=bf t0 [0,2,2] [(0,.v [.r]),(2,.l [.I,.Y,.Y,.s] aN),(3,.v [.s])]
noncomputable abbrev t1:=be a2
def bw:=bg t1 a2
def aB:=aA t1 yx [.r]
end vc
namespace vf
noncomputable abbrev t0:=az Y Tryz.f154 [] [2]
noncomputable def a2:=bf t0 [0,2,2] [(0,.v [.r]),(2,.l [.I,.Y,.Y,.s] aN),(3,.v [.s])]
noncomputable abbrev t1:=be a2
def bw:=bg t1 a2
def aB:=aA t1 yz [.r]
end vf
namespace xW
noncomputable abbrev t0:=az Y Tryz.f162 [] [2,4]
noncomputable def a2:=bf t0 [0,2,4] [(0,.v [.r]),(2,.l [.I,.Y,.Y,.s] aN),(4,.l [.I,.Y,.Y,.s] aN)]
noncomputable abbrev t1:=be a2
def bw:=bg t1 a2
def aB:=aA t1 yy [.r]
end xW
namespace nU
noncomputable abbrev t0:=az Y Tryz.f174 [(1,ls [0,1,2,3,4,5,6,7,8,9,10,11,12,13,14,15,16,17,18,19]),(3,ls [0,1,2,3,4,5,6,7,8,9,10,11,12]),(8,ls [0,1,2,3,5,6,7,8,4,9,10])] [2,5,6]
abbrev P0:Ps:=[(0,.v [.r]),(2,.l [.I,.Y,.Y,.s] aN),(3,.v [.s]),(4,.v [.I])]
noncomputable def cm:=bf t0 [0,1,1,1,3] P0
noncomputable abbrev t1:=be cm
noncomputable abbrev bV:=av t1 [2,2,1,1,3] P0
noncomputable abbrev t2:=ay bV
noncomputable abbrev cM:=av t2 [4,2,1,2,1,1,3] [(2,.l [.I,.Y,.Y,.s] aN),(5,.l [.I,.Y,.Y,.s] aN)]
noncomputable abbrev t3:=ay cM
def dB:=bg t3 cm
noncomputable abbrev bn:=av t3 [2] [(0,.v [.r]),(2,.l [.I,.Y,.Y,.s] aN)]
noncomputable abbrev t4:=ay bn
def aB:=aA t4 CR [.r]
end nU
namespace ve
noncomputable abbrev t0:=az Y Tryz.f200 [] []
noncomputable abbrev S0:=av t0 [0,1,1,1,3] []
noncomputable abbrev t1:=ay S0
noncomputable def L1:=bf t1 [0,2,5] [(0,.v [.r]),(4,.v [.s])]
noncomputable abbrev t2:=be L1
def fI:=bg t2 L1
def ok:=aA t2 CT [.r]
end ve
namespace H3
noncomputable abbrev t0:=az Y Tryz.f102 [(7,ls [0,1,2,3,4,5,6,7,8,9,10,11,12,13,14])] [2,6]
def aB:=aA t0 Ky [.st]
end H3
namespace HY
noncomputable abbrev t0:=az Y Tryz.f96 [] []
def ok:=aA t0 Ku [.Y]
end HY
namespace BN
noncomputable abbrev t0:=az Y Tryz.f95 [] [1]
noncomputable abbrev bn:=av t0 [0,1,1,1,2] []
noncomputable abbrev t1:=ay bn
def aB:=aA t1 CQ [.a 4,.I,.Y,.Y,.s]
end BN
namespace H8
noncomputable abbrev t0:=az Y Tryz.f97 [] []
def ok:=aA t0 KG [.Y]
end H8
namespace lx
noncomputable abbrev t0:=az Y Tryz.f75 [(11,ls [0,1,5,6,2,3,4,7,8,9,10])] [2]
noncomputable abbrev bn:=av t0 [2,1,1,1,3] [(2,.l [.I,.Y,.Y,.s] aN),(5,.v [.st])]
noncomputable abbrev t1:=ay bn
abbrev P0:Ps:=[(2,.l [.I,.Y,.Y,.s] aN),(6,.v [.st]),(7,.v [.I]),(8,.v [.st]),(9,.v [.I])]
noncomputable def cm:=bf t1 [0,1,1,1,7] P0
noncomputable abbrev t2:=be cm
noncomputable abbrev cM:=av t2 [2,2,1,1,7] P0
noncomputable abbrev t3:=ay cM
noncomputable abbrev bV:=av t3 [2,2,1,2,1,1,7] [(2,.l [.I,.Y,.Y,.s] aN),(6,.v [.st]),(7,.v [.I]),(8,.v [.st]),(9,.v [.I]),(10,.v [.st])]
noncomputable abbrev t4:=ay bV
def dB:=bg t4 cm
def aB:=aA t4 o8 [.a 4,.I,.Y,.Y,.s,.I]
end lx
namespace Vq
noncomputable def C0:Code:=(Tryz.f57.body).getD .skip
noncomputable def C1:=C0.sn
noncomputable def C2:=C1.sn
noncomputable def C3:=C2.sn
noncomputable def C4:=C3.sn
noncomputable def C5:=C4.sn
noncomputable def C6:=C5.sn
noncomputable def C7:=C6.sn
noncomputable def C8:=C7.sn
abbrev Q0(R:aH):hF:=(bodyPost Y Tryz.f57 R)
noncomputable def C9:=C8.sn
abbrev S0(d:Int)(e:Sl)(w:J)(R:aH):Prop:=
 (0:Int)<=(ck (aj .i64 (bL d 216)) 8)/\(ck (aj .i64 (bL d 216)) 8)<((e.n:Nat):Int)/\dM e.a λh=>fM w (h.add (aV (ck (aj .i64 (bL d 216)) 8) *4)) λj k q x=>xF vM #[.agg #[.i j,.int .u8 k,.int .u8 q,x.v]] w λy z A B C=>G6 o8 #[.agg #[.i y,.int .u8 z,.int .u8 A,B.v],.i 0] C λt86 D=>R (ae (.string t86)) D
def Aq(E:Env)(w:J)(R:aH):Prop:=W.asInt .i64 (Env.get? E 3) λe=>W.asSlice (Env.get? E 9) λd=>S0 e d w R
end Vq
namespace HZ
noncomputable abbrev t0:=az Y Tryz.f82 [] [3,6]
def aB:=aA t0 Kw [.st]
end HZ
namespace Ig
noncomputable abbrev t0:=az Y Tryz.f55 [] [2]
def aB:=aA t0 KU [.I]
end Ig
namespace Ik
noncomputable abbrev t0:=az Y Tryz.f56 [] [2]
def aB:=aA t0 K3 [.I]
end Ik
namespace Il
noncomputable abbrev t0:=az Y Tryz.f99 [] []
def ok:=aA t0 K6 [.s,.I]
end Il
namespace Ii
noncomputable abbrev t0:=az Y Tryz.f58 [] []
abbrev P0:Ps:=[]
noncomputable abbrev S0:=av t0 [0,1,1,1,1] P0
noncomputable abbrev t1:=ay S0
noncomputable abbrev S1:=av t1 [0,1,1,1,1,1,3] P0
noncomputable abbrev t2:=ay S1
noncomputable abbrev S3:=av t2 [0,1,3,1,1,1,3] P0
noncomputable abbrev t3:=ay S3
noncomputable abbrev S4:=av t3 [4] P0
noncomputable abbrev t4:=ay S4
noncomputable abbrev S2:=av t4 [2,1,1,1,3] [(11,.v [.I])]
noncomputable abbrev t5:=ay S2
def ok:=aA t5 KY [.I]
end Ii
namespace mh
noncomputable abbrev t0:=az Y Tryz.f100 [] []
noncomputable abbrev S0:=av t0 [0,1,1,1,1] []
noncomputable abbrev t1:=ay S0
abbrev P0:Ps:=[(0,.v [.st]),(3,.v [.I])]
noncomputable def L1:=bf t1 [0,1,1,1,2] P0
noncomputable abbrev t2:=be L1
noncomputable abbrev S4:=av t2 [2,2,1,1,2] P0
noncomputable abbrev t3:=ay S4
noncomputable abbrev S3:=av t3 [2,2,1,2,1,1,2] [(0,.v [.st]),(3,.v [.I]),(4,.v [.b]),(5,.v [.b])]
noncomputable abbrev t4:=ay S3
noncomputable abbrev S2:=av t4 [1,2,1,2,1,1,2] [(0,.v [.st]),(3,.v [.I]),(4,.v [.b])]
noncomputable abbrev t5:=ay S2
def fI:=bg t5 L1
def ok:=aA t5 K0 [.st]
end mh
namespace Ie
noncomputable abbrev t0:=az Y Tryz.f116 [] []
def ok:=aA t0 vN [.I,.I,.I]
end Ie
namespace qt
noncomputable abbrev t0:=az Y Tryz.f101 [] [1]
noncomputable abbrev bn:=av t0 [3] [(3,.v [.b])]
noncomputable abbrev t1:=ay bn
def aB:=aA t1 KR [.a 3,.I,.I,.I]
end qt
namespace vk
noncomputable abbrev t0:=az Y Tryz.f78 [(1,ls [0,1,3,4,5,2,6])] [3]
noncomputable def a2:=bf t0 [0,1,1,1,2] [(0,.v [.s]),(3,.l [.I,.s,.I,.I,.U,.st,.I,.I,.I] cA),(5,.v [.I])]
noncomputable abbrev t1:=be a2
abbrev P0:Ps:=[]
noncomputable abbrev bM:=av t1 [0,1,1,2,1,2,1,1,2] P0
noncomputable abbrev t2:=ay bM
noncomputable abbrev bV:=av t2 [0,1,1,1,5] P0
noncomputable abbrev t3:=ay bV
noncomputable abbrev cM:=av t3 [6] P0
noncomputable abbrev t4:=ay cM
def bw:=bg t4 a2
def aB:=aA t4 K4 [.s,.a 9,.I,.s,.I,.I,.U,.st,.I,.I,.I]
end vk
namespace ju
noncomputable abbrev t0:=az Y Tryz.f79 [(19,ls [0,1,2,3,4,5,6,7,8,9,10,11,12,13,14,15,16,17,18,19,20,21,22,23,24,25,26,27,28,29,30])] [3,4]
noncomputable abbrev bV:=av t0 [0,1,1,1,7] [(4,.l [.I,.I,.I] cg)]
noncomputable abbrev t1:=ay bV
abbrev P0:Ps:=[(0,.v [.s]),(3,.l [.I,.s,.I,.I,.U,.st,.I,.I,.I] cA),(4,.l [.I,.I,.I] cg),(9,.v [.I])]
noncomputable def kA:=bf t1 [0,1,1,1,9] P0
noncomputable abbrev t2:=be kA
noncomputable abbrev iV:=av t2 [2,2,1,1,9] P0
noncomputable abbrev t3:=ay iV
def nI:=bg t3 kA
abbrev P1:Ps:=[(0,.v [.s]),(3,.l [.I,.s,.I,.I,.U,.st,.I,.I,.I] cA),(4,.l [.I,.I,.I] cg)]
noncomputable abbrev fK:=av t3 [9] P1
noncomputable abbrev t4:=ay fK
noncomputable abbrev cM:=av t4 [8] P1
noncomputable abbrev t5:=ay cM
noncomputable abbrev bM:=av t5 [7] [(0,.v [.s]),(3,.l [.I,.s,.I,.I,.U,.st,.I,.I,.I] cA),(4,.l [.I,.I,.I] cg),(8,.v [.b])]
noncomputable abbrev t6:=ay bM
noncomputable abbrev bn:=av t6 [3] [(0,.v [.s]),(3,.l [.I,.s,.I,.I,.U,.st,.I,.I,.I] cA),(4,.l [.I,.I,.I] cg),(6,.v [.b])]
noncomputable abbrev t7:=ay bn
def aB:=aA t7 K7 [.s,.a 9,.I,.s,.I,.I,.U,.st,.I,.I,.I]
end ju
namespace Ih
noncomputable abbrev t0:=az Y Tryz.f77 [] [1,2]
def aB:=aA t0 KV [.a 3,.I,.I,.I]
end Ih
namespace BO
noncomputable abbrev t0:=az Y Tryz.f80 [(13,ls [0,1,2,3,4,5,6,7,8,9,10,11,12,13,14,15]),(15,ls [0,1,2,3,4,5,6,7,8,9,10,11,12,13,14,15,16,17,18,19,20,21,22,23,24,25,26]),(19,ls [0,1,2,3,4,5,6,7,8,9,10]),(21,ls [0,1,2,3,4,5,6,7,8,9,10]),(23,ls [0,1,2,3,4,5,6,7,8,9,10,11,12,13,14,15,16,17,18,19,20,21,22,23,24,25,26,27]),(25,ls [0,1,2,3,4,5,6,7,8]),(34,ls [0,1,2,3,4,5,6,7,8,9,10,11,12,13,14,15]),(38,ls [0,1,2,3]),(39,ls [0,1,2,3,4,5,6,7,8])] [5]
noncomputable abbrev bM:=av t0 [0,1,1,1,1,1,5] [(6,.v [.b])]
noncomputable abbrev t1:=ay bM
noncomputable abbrev cM:=av t1 [0,1,1,2,11,1,1,1,5] []
noncomputable abbrev t2:=ay cM
noncomputable abbrev fK:=av t2 [0,1,15,1,1,1,5] [(7,.v [.b])]
noncomputable abbrev t3:=ay fK
noncomputable abbrev iV:=av t3 [0,1,17,1,1,1,5] [(1,.v [.s]),(7,.v [.b])]
noncomputable abbrev t4:=ay iV
abbrev P0:Ps:=[(1,.v [.s]),(5,.l [.I,.I,.I] cg),(6,.v [.b]),(7,.v [.b]),(26,.v [.I])]
noncomputable abbrev mP:=av t4 [18,1,1,1,5] P0
noncomputable abbrev t5:=ay mP
noncomputable abbrev lg:=av t5 [16,1,1,1,5] P0
noncomputable abbrev t6:=ay lg
noncomputable abbrev bV:=av t6 [2,1,1,1,5] [(1,.v [.s]),(5,.l [.I,.I,.I] cg),(6,.v [.b]),(7,.v [.b]),(8,.v [.b]),(26,.v [.I])]
noncomputable abbrev t7:=ay bV
noncomputable abbrev bn:=av t7 [5] [(0,.v [.I]),(1,.v [.s]),(5,.l [.I,.I,.I] cg),(6,.v [.b]),(7,.v [.b]),(8,.v [.b])]
noncomputable abbrev t8:=ay bn
def aB:=aA t8 K5 [.I,.s]
end BO
namespace xX
noncomputable abbrev t0:=az Y Tryz.f81 [(10,ls [0,1,2,3,4,5,6,7,8,9,10,11]),(13,ls [0,1,2,3,4,5,6,8,9,10,11,12,13,14,15,7,16,17]),(15,ls [0,1,2,3,4,5,7,8,9,6,10,11,12,13,14,15,16,17,18,19,20,21,22,23,24,25]),(18,ls [0,1,2,3,4,6,7,8,5,9,10,11,12,13,14,15,16,17,18]),(27,ls [1,2,3,0,4,5,6,7,8,9,10]),(29,ls [0,1,2,3,4,5,6,8,9,10,11,12,13,14,15,7,16,17]),(31,ls [0,1,2,3,4,5,6,8,9,10,11,12,13,14,15,7,16,17])] [2,4,6]
abbrev P0:Ps:=[(4,.l [.I,.I,.I] cg)]
noncomputable abbrev bn:=av t0 [0,1,1,1,1,1,2] P0
noncomputable abbrev t1:=ay bn
noncomputable abbrev bV:=av t1 [0,1,9,1,1,1,2] [(2,.l [.I,.s,.I,.I,.U,.st,.I,.I,.I] cA),(4,.l [.I,.I,.I] cg),(6,.l [.I,.I,.I] cg)]
noncomputable abbrev t2:=ay bV
noncomputable abbrev fK:=av t2 [0,1,15,1,1,1,2] P0
noncomputable abbrev t3:=ay fK
abbrev P1:Ps:=[(1,.v [.s]),(2,.l [.I,.s,.I,.I,.U,.st,.I,.I,.I] cA),(4,.l [.I,.I,.I] cg),(6,.l [.I,.I,.I] cg),(11,.v [.I])]
noncomputable abbrev lg:=av t3 [16,1,1,1,2] P1
noncomputable abbrev t4:=ay lg
noncomputable abbrev cM:=av t4 [10,1,1,1,2] P1
noncomputable abbrev t5:=ay cM
noncomputable abbrev bM:=av t5 [2,1,1,1,2] P1
noncomputable abbrev t6:=ay bM
def aB:=aA t6 La [.a 9,.I,.s,.I,.I,.U,.st,.I,.I,.I,.s]
end xX
namespace sB
noncomputable abbrev t0:=az Y Tryz.f61 [] [3,4,10]
noncomputable def a2:=bf t0 [0,1,1,1,5] [(0,.v [.s]),(3,.l [.I,.s,.I,.I,.U,.st,.I,.I,.I] cA),(4,.l [.I,.I,.I] cg),(7,.v [.s]),(8,.v [.I])]
noncomputable abbrev t1:=be a2
noncomputable abbrev bM:=av t1 [11] [(4,.l [.I,.I,.I] cg),(10,.l [.I,.I,.I] cg),(12,.v [.b])]
noncomputable abbrev t2:=ay bM
def bw:=bg t2 a2
def aB:=aA t2 K2 [.s,.a 9,.I,.s,.I,.I,.U,.st,.I,.I,.I]
end sB
namespace Ij
noncomputable abbrev t0:=az Y Tryz.f83 [] [2,3]
def aB:=aA t0 K1 [.a 9,.I,.s,.I,.I,.U,.st,.I,.I,.I,.a 9,.I,.s,.I,.I,.U,.st,.I,.I,.I]
end Ij
namespace vj
noncomputable abbrev t0:=az Y Tryz.f62 [(7,ls [0,1,2,3,4,5,6])] [3,5]
noncomputable def cm:=bf t0 [0,1,1,1,3] [(0,.v [.s]),(3,.l [.I,.s,.I,.I,.U,.st,.I,.I,.I] cA),(7,.v [.I])]
noncomputable abbrev t1:=be cm
def dB:=bg t1 cm
noncomputable abbrev bn:=av t1 [3] [(0,.v [.s]),(3,.l [.I,.s,.I,.I,.U,.st,.I,.I,.I] cA)]
noncomputable abbrev t2:=ay bn
def aB:=aA t2 KX [.s,.a 9,.I,.s,.I,.I,.U,.st,.I,.I,.I]
end vj
namespace If
noncomputable abbrev t0:=az Y Tryz.f35 [(10,(.sq [1,3,6,7] (.fork (.sq [0] (.fork (ls [2,4,5,8,9,10]) (ls [4,2,5,8,9,10]))) (ls [4,0,2,5,8,9,10]))))] [3,7]
def aB:=aA t0 KS [.s,.a 9,.I,.s,.I,.I,.U,.st,.I,.I,.I]
end If
namespace BP
noncomputable abbrev t0:=az Y Tryz.f33 [] []
noncomputable abbrev S1:=av t0 [4] [(3,.v [.s])]
noncomputable abbrev t1:=ay S1
noncomputable abbrev S0:=av t1 [3] [(0,.v [.I]),(3,.v [.s])]
noncomputable abbrev t2:=ay S0
def ok:=aA t2 Lc [.I]
end BP
namespace qu
noncomputable abbrev t0:=az Y Tryz.f59 [(5,ls [0,1,2,3,4,5,6])] [4]
abbrev P0:Ps:=[(0,.v [.s]),(2,.v [.I]),(4,.l [.I,.I,.I] cg),(7,.v [.s]),(8,.v [.I])]
noncomputable def a2:=bf t0 [0,1,1,1,2] P0
noncomputable abbrev t1:=be a2
noncomputable abbrev bM:=av t1 [2,2,1,1,2] P0
noncomputable abbrev t2:=ay bM
def bw:=bg t2 a2
def aB:=aA t2 KZ [.s,.a 3,.I,.I,.I,.I]
end qu
namespace BQ
noncomputable abbrev t0:=az Y Tryz.f60 [] [10,11]
noncomputable abbrev bn:=av t0 [0,1,11,1,1,1,2] [(4,.v [.I]),(10,.l [.I,.I,.I] cg)]
noncomputable abbrev t1:=ay bn
noncomputable abbrev bM:=av t1 [3] [(10,.l [.I,.I,.I] cg),(11,.l [.I,.I,.I] cg)]
noncomputable abbrev t2:=ay bM
def aB:=aA t2 Ld [.s,.I,.I,.I,.I]
end BQ
namespace iK
noncomputable abbrev t0:=az Y Tryz.f34 [(38,ls [0,1,2,3,4,5,6,7,8,9,10,11,12])] [8,10,16]
noncomputable def kA:=bf t0 [0,1,1,1,8] [(0,.v [.s]),(2,.v [.I]),(3,.v [.I]),(8,.l [.I,.s,.I,.I,.U,.st,.I,.I,.I] cA),(10,.l [.I,.s,.I,.I,.U,.st,.I,.I,.I] cA),(11,.v [.I]),(13,.v [.I]),(14,.v [.I])]
noncomputable abbrev t1:=be kA
noncomputable abbrev mP:=av t1 [2,2,1,2,1,1,8] [(0,.v [.s]),(2,.v [.I]),(3,.v [.I]),(8,.l [.I,.s,.I,.I,.U,.st,.I,.I,.I] cA),(10,.l [.I,.s,.I,.I,.U,.st,.I,.I,.I] cA),(11,.v [.I]),(13,.v [.I]),(14,.v [.I]),(15,.v [.I])]
noncomputable abbrev t2:=ay mP
noncomputable abbrev iV:=av t2 [2,1,1,1,1,2,1,2,1,1,8] [(0,.v [.s]),(2,.v [.I]),(3,.v [.I]),(8,.l [.I,.s,.I,.I,.U,.st,.I,.I,.I] cA),(10,.l [.I,.s,.I,.I,.U,.st,.I,.I,.I] cA),(11,.v [.I]),(13,.v [.I]),(14,.v [.I]),(16,.l [.I,.I,.I] cg)]
noncomputable abbrev t3:=ay iV
def nI:=bg t3 kA
noncomputable abbrev fK:=av t3 [8] [(0,.v [.s]),(2,.v [.I]),(3,.v [.I]),(8,.l [.I,.s,.I,.I,.U,.st,.I,.I,.I] cA),(10,.l [.I,.s,.I,.I,.U,.st,.I,.I,.I] cA),(11,.v [.I]),(13,.v [.I])]
noncomputable abbrev t4:=ay fK
noncomputable abbrev cM:=av t4 [7] [(0,.v [.s]),(1,.v [.I]),(2,.v [.I]),(3,.v [.I]),(8,.l [.I,.s,.I,.I,.U,.st,.I,.I,.I] cA),(10,.l [.I,.s,.I,.I,.U,.st,.I,.I,.I] cA),(11,.v [.I]),(13,.v [.I])]
noncomputable abbrev t5:=ay cM
abbrev P0:Ps:=[(0,.v [.s]),(1,.v [.I]),(2,.v [.I]),(3,.v [.I]),(8,.l [.I,.s,.I,.I,.U,.st,.I,.I,.I] cA),(10,.l [.I,.s,.I,.I,.U,.st,.I,.I,.I] cA),(11,.v [.I])]
noncomputable abbrev bV:=av t5 [5] P0
noncomputable abbrev t6:=ay bV
abbrev P1:Ps:=[(0,.v [.s]),(1,.v [.I]),(2,.v [.I]),(3,.v [.I]),(8,.l [.I,.s,.I,.I,.U,.st,.I,.I,.I] cA),(10,.l [.I,.s,.I,.I,.U,.st,.I,.I,.I] cA),(11,.v [.I]),(12,.v [.I])]
noncomputable abbrev bM:=av t6 [2,1,1,1,1,1,4] P1
noncomputable abbrev t7:=ay bM
noncomputable abbrev bn:=av t7 [1,1,1,1,1,1,4] P1
noncomputable abbrev t8:=ay bn
noncomputable abbrev p0:=av t8 [0,1,9,1,1,1,4] P0
noncomputable abbrev t9:=ay p0
noncomputable abbrev Sz:=av t9 [10,1,1,1,4] [(0,.v [.s]),(1,.v [.I]),(2,.v [.I]),(3,.v [.I]),(8,.l [.I,.s,.I,.I,.U,.st,.I,.I,.I] cA),(10,.l [.I,.s,.I,.I,.U,.st,.I,.I,.I] cA),(11,.v [.I]),(32,.v [.I])]
noncomputable abbrev t10:=ay Sz
def aB:=aA t10 K8 [.s,.I,.I,.I]
end iK
namespace sC
noncomputable abbrev t0:=az Y Tryz.f37 [] []
abbrev P0:Ps:=[(0,.v [.s]),(1,.v [.I]),(5,.v [.I]),(6,.v [.I])]
noncomputable def L0:=bf t0 [0,1,1,1,2] P0
noncomputable abbrev t1:=be L0
noncomputable abbrev S1:=av t1 [2,2,1,1,2] P0
noncomputable abbrev t2:=ay S1
def bC:=bg t2 L0
def ok:=aA t2 Lb [.s,.I]
end sC
namespace Im
noncomputable abbrev t0:=az Y Tryz.f36 [] [3]
def aB:=aA t0 Le [.I,.a 3,.I,.I,.I]
end Im
namespace m3
noncomputable abbrev t0:=az Y Tryz.f16 [(5,(.sq [0,1,2,3,4,5,6,7,8,9,10,11,12,13,14] (.fork (ls [15,16,17]) (ls [16,15,17]))))] [9]
abbrev P0:Ps:=[(0,.v [.s]),(1,.v [.I]),(2,.v [.I]),(7,.v [.s]),(8,.v [.I])]
noncomputable def a2:=bf t0 [0,1,1,1,2] P0
noncomputable abbrev t1:=be a2
noncomputable abbrev bV:=av t1 [2,2,1,1,2] P0
noncomputable abbrev t2:=ay bV
noncomputable abbrev bM:=av t2 [1,2,1,2,1,1,2] [(0,.v [.s]),(1,.v [.I]),(2,.v [.I]),(7,.v [.s]),(8,.v [.I]),(9,.l [.I,.s,.I,.I,.U,.st,.I,.I,.I] cA)]
noncomputable abbrev t3:=ay bM
noncomputable abbrev cM:=av t3 [3] [(7,.v [.s])]
noncomputable abbrev t4:=ay cM
def bw:=bg t4 a2
def aB:=aA t4 CU [.s,.I,.I]
end m3
def fh(n:Int)(w:J):ai Y KU #[.i n] w λr h=>r=ae (dO (bz n))/\ag w h:=
 Ig.aB _ w _ ((bI [] (by simp)).aG λb j d=>d.ah λk e=>⟨rfl,e.fr⟩)
def nM(n:Int)(w:J):ai Y K3 #[.i n] w λr h=>r=ae (dO (eT n))/\ag w h:=
 Ik.aB _ w _ ((bI [] (by simp)).aG λb j d=>d.ah λk e=>⟨rfl,e.fr⟩)
def D4(s:bj)(w:J):ai Y KV #[dO s] w λr x=>r=ae (dO (hM s))/\ag w x:=by
 refine Ih.aB _ _ _ w _ ((bI [] (by simp)).aG λb B q=>q.aG λA k j=>aL (λh=>j.aw (fh s.n k) ?_) (λh=>j.aw (nM s.n k) ?_))
 .rintro _ y rfl d;exact⟨_,_,_,rfl,d.ah λz e=>⟨by unfold hM;rw[aq h],e.fr⟩⟩
 .rintro _ y rfl d;exact⟨_,_,_,rfl,d.ah λz e=>⟨by unfold hM;rw[af h],e.fr⟩⟩
def sY{op:Int}(d:0<=op)(e:op<=34):op=0\/op=1\/op=2\/op=3\/op=4\/op=5\/op=6\/op=7\/op=8\/op=9\/op=10\/op=11\/op=12\/op=13\/op=14\/op=15\/op=16\/op=17\/op=18\/op=19\/op=20\/op=21\/op=22\/op=23\/op=24\/op=25\/op=26\/op=27\/op=28\/op=29\/op=30\/op=31\/op=32\/op=33\/op=34:=by omega
def Gx(op:Int)(w:J):ai Y KY #[.i op] w λr h=>r=ae (.i (cS op))/\ag w h:=by
 refine Ii.ok op w _ ?_;by_cases d:op<0
 .exact a1 (aS d) ⟨by unfold cS;rw[aq (.inl d)],Fr.refl _ _⟩
 refine aZ (aW d) ?_;by_cases e:op>34
 .exact a1 (aS e) ⟨by unfold cS;rw[aq (.inr e)],Fr.refl _ _⟩
 refine aZ (aW e) ?_;rcases sY (by omega) (by omega:op<=34)with rfl|rfl|rfl|rfl|rfl|rfl|rfl|rfl|rfl|rfl|rfl|rfl|rfl|rfl|rfl|rfl|rfl|rfl|rfl|rfl|rfl|rfl|rfl|rfl|rfl|rfl|rfl|rfl|rfl|rfl|rfl|rfl|rfl|rfl|rfl<;>exact⟨rfl,Fr.refl _ _⟩
def IY{s:ByteArray}{i:Nat}(h:i<s.size):s[i]? =some (gQ (bl s) i):=by
 have e:i<(bl s).length:=h;have d:gQ (bl s) i=(bl s)[i]:=by unfold gQ;rw[List.getD_eq_getElem?_getD,a4 e];rfl
 rw[d,getElem?_pos s i h];rfl
def mn(c:UInt8)(m:List UInt8):fE (c::m)=(ak (m.length<=15)&&eZ c&&m.all cT):=rfl
def TN(s:ByteArray)(w:J):ai Y K0 #[.string s] w λr h=>r=ae (.bool (fE (bl s)))/\ag w h:=by
 have z:(bl s).length=s.size:=dH s;have no:fE (bl s)=false->(Ending.returned (.bool false)=ae (.bool (fE (bl s)))/\ag w w):=λe=>⟨by rw[e],Fr.refl _ _⟩;cases A:bl s with
 |nil=>
  have C:s.size=0:=by rw[<-z,A];rfl
  exact mh.ok s w _ (a1 (aS (by omega)) ⟨rfl,Fr.refl _ _⟩)
 |cons c m=>
  have P:s.size=m.length+1:=by rw[<-z,A];rfl
  rw[A]at no;have K:gQ (bl s) 0=c:=by rw[A];rfl
  have C:s[aV 0]? =some c:=by rw[<-K];exact IY (by omega)
  refine mh.ok s w _ (aZ (aW (by omega)) (aF (λe=>no ?_) (λe=>⟨by omega,c,C,aF (λM=>no ?_) (λM=>⟨by omega,c,C,aF (λF=>no ?_) (λF=>?_)⟩)⟩)))
  .rw [mn,aW (by omega)];rfl
  .rw [mn];unfold eZ;rw[aW (show ¬97<=c.toNat by omega)];simp
  .rw [mn];unfold eZ;rw[aW (show ¬c.toNat<=122 by omega)];simp
  have H:fE (c::m)=m.all cT:=by rw[mn];unfold eZ;rw[aS (show m.length<=15 by omega),aS (show 97<=c.toNat by omega),aS (show c.toNat<=122 by omega)];simp
  have I:fE (c::m)=(bl s).all cT:=by rw[H,A,List.all_cons];unfold cT eZ;rw[aS (show 97<=c.toNat by omega),aS (show c.toNat<=122 by omega)];simp
  rw[I];have loop:∀(d i:Nat),i+d=s.size->(bl s).all cT=((bl s).drop i).all cT->mh.L1 s (i:Int) w λr h=>r=ae (.bool ((bl s).all cT))/\ag w h:=by
   intro d;induction d with
   |zero=>
    intro i N j;rw[cU (by omega)]at j;exact mh.fI _ _ _ _ (aZ (aW (by omega)) ⟨by rw[j];rfl,Fr.refl _ _⟩)
   |succ d O=>
    intro i N j;have k:=IY (show i<s.size by omega);rw[dz (by omega:i<(bl s).length),List.all_cons,show(bl s)[i]'(by omega)=gQ (bl s) i by unfold gQ;rw[List.getD_eq_getElem?_getD,a4 (by omega:i<(bl s).length)];rfl]at j;generalize gQ (bl s) i=x at k j;have go:cT x=true->mh.S4 s (i:Int) w λr h=>r=ae (.bool ((bl s).all cT))/\ag w h:=λe=>by show mh.L1 s (aj .i64 ((i:Int)+1)) w _;rw[bb _ (by omega)];exact O (i+1) (by omega) (by rw[j,e,Bool.true_and])
    have stop:cT x=false->(Ending.returned (.bool false)=ae (.bool ((bl s).all cT))/\ag w w):=λe=>⟨by rw[j,e,Bool.false_and],Fr.refl _ _⟩;have G:eZ x=false->∀o:Bool,o=((ak (48<=x.toNat)&&ak (x.toNat<=57))||x==45)->mh.S3 s (i:Int) false o w λr h=>r=ae (.bool ((bl s).all cT))/\ag w h:=λq o B=>by
     refine a1 rfl (dN (λe=>stop ?_) (λe=>go ?_))
     .unfold cT;rw[q,Bool.false_or,<-B,e]
     .unfold cT;rw[q,Bool.false_or,<-B,e]
    have E:((((x.toNat:Nat):Int)==45):Bool)=(x==45):=by
     by_cases e:x=45
     .subst e;rfl
     .rw [beq_eq_false_iff_ne.2 e,beq_eq_false_iff_ne];intro F;exact e (UInt8.toNat_inj.1 (by have:((45:UInt8).toNat:Int)=45:=rfl;omega))
    have y:((i:Int)).toNat=i:=bH i;have D:∀l:Bool,l=eZ x->mh.S2 s (i:Int) l w λr h=>r=ae (.bool ((bl s).all cT))/\ag w h:=λl z=>by
     have fin:∀o:Bool,o=((ak (48<=x.toNat)&&ak (x.toNat<=57))||x==45)->mh.S3 s (i:Int) l o w λr h=>r=ae (.bool ((bl s).all cT))/\ag w h:=λo B=>by
      cases q:eZ x with
      |true=>rw[z,q];exact aZ rfl (go (by unfold cT;rw[q];rfl))
      |false=>rw[z,q];exact G q o B
     refine⟨by omega,x,by rw[y];exact k,aF (λe=>⟨by omega,x,by rw[y];exact k,aF (λL=>fin true ?_) (λL=>⟨by omega,x,by rw[y];exact k,?_⟩)⟩) (λe=>⟨by omega,x,by rw[y];exact k,?_⟩)⟩
     .rw [aS (show 48<=x.toNat by omega),aS (show x.toNat<=57 by omega)];rfl
     .rw [E];exact fin _ (by rw[aW (show ¬x.toNat<=57 by omega)];simp)
     .rw [E];exact fin _ (by rw[aW (show ¬48<=x.toNat by omega)];simp)
    refine mh.fI _ _ _ _ (a1 (aS (by omega)) ⟨by omega,x,by rw[y];exact k,aF (λe=>⟨by omega,x,by rw[y];exact k,D _ ?_⟩) (λe=>D _ ?_)⟩)
    .unfold eZ;rw[aS (show 97<=x.toNat by omega),Bool.true_and];exact decide_eq_decide.2 (by omega)
    .unfold eZ;rw[aW (show ¬97<=x.toNat by omega),Bool.false_and]
  exact loop s.size 0 (by omega) (by simp)
def D8(n lo V:Int)(w:J):ai Y vN #[.int .i64 n,.int .i64 lo,.int .i64 V] w λr h=>r=ae (.bool (ak (lo<=n/\n<=V)))/\ag w h:=by
 refine Ie.ok _ _ _ w _ (aF (λd=>⟨?_,Fr.refl _ _⟩) (λd=>⟨?_,Fr.refl _ _⟩))
 .have:(lo<=n/\n<=V)↔n<=V:=⟨λd=>d.2,λe=>⟨d,e⟩⟩;simp only[this]
 .rw [aW (by omega)]
def Y7(s:bj)(w:J):ai Y KR #[dO s] w λr h=>r=ae (.int .i64 (gW s))/\ag w h:=by
 refine qt.aB _ _ _ w _ ((bI [] (by simp)).aG λA y z=>?_);have fin:∀{d:J} {L:List En} (b:Bool),b=bU s->LH F0 w d L []->qt.bn b d λr h=>r=ae (.int .i64 (gW s))/\ag w h:=by
  rintro d L b rfl F;refine dN (λe=>⟨?_,F.fr⟩) (λe=>⟨?_,F.fr⟩)
  .unfold gW;rw[af (by simp[e])]
  .unfold gW;rw[aq e]
 have plain:∀lo:Int,(bU s=(ak (lo<=s.n/\s.n<=64)&&(s.x==0)))->ee [A] Y vN #[.int .i64 s.n,.int .i64 lo,.int .i64 64] y λq d=>∃t10:Bool,q=ae (.bool t10)/\bh t10 (qt.bn (s.x==0) d λr h=>r=ae (.int .i64 (gW s))/\ag w h) (qt.bn false d λr h=>r=ae (.int .i64 (gW s))/\ag w h):=by
  intro lo k;refine z.aw (D8 _ _ _ y) ?_;rintro _ d rfl j;refine⟨_,rfl,bB (λe=>fin _ ?_ j) (λe=>fin _ ?_ j)⟩
  .rw [k,e];rfl
  .rw [k,e];rfl
 have array:∀lo:Int,(bU s=(ak (lo<=s.n/\s.n<=64)&&ak (1<=s.x/\s.x<=16)))->ee [A] Y vN #[.int .i64 s.n,.int .i64 lo,.int .i64 64] y λq d=>∃t10:Bool,q=ae (.bool t10)/\bh t10 (ee [A] Y vN #[.int .i64 s.x,.int .i64 1,.int .i64 16] d λq H=>∃t34:Bool,q=ae (.bool t34)/\qt.bn t34 H λr h=>r=ae (.int .i64 (gW s))/\ag w h) (qt.bn false d λr h=>r=ae (.int .i64 (gW s))/\ag w h):=by
  intro lo k;refine z.aw (D8 _ _ _ y) ?_;rintro _ d rfl j;refine⟨_,rfl,bB (λe=>j.aw (D8 _ _ _ d) ?_) (λe=>fin _ ?_ j)⟩
  .rintro _ I rfl G;exact⟨_,rfl,fin _ (by rw[k,e];rfl) G⟩
  .rw [k,e];rfl
 refine aL (λB=>plain 1 ?_) (λB=>aL (λC=>plain 0 ?_) (λC=>aL (λD=>array 1 ?_) (λD=>aL (λE=>array 0 ?_) (λE=>fin _ ?_ z))))
 .unfold bU;simp[B]
 .unfold bU;simp[C]
 .unfold bU;simp[D,Bool.and_assoc]
 .unfold bU;simp[E,Bool.and_assoc]
 .unfold bU;simp[B,C,D,E]
section
variable {M:Nat->Prop} {w0 w:J} {L D:List En} {U:List Nat}
def xC(w:J)(e:Nat)(vs:List aa)(ty:aC)(b:Nat):¬(En.c e vs ty).P ({w with heap:=Array.replicate (b+1) (.map #[] 0)}):=by intro d;have d:({w with heap:=Array.replicate (b+1) (.map #[] 0)}:J).heap[e]? =some (.cells vs.toArray ty (0,0)):=d;simp[Array.getElem?_replicate]at d
def qg{d:Nat}{vs:List aa}{ty:aC}{b:Nat}:b∈(En.c d vs ty).fp↔b=d:=by simp[En.c,En.ob]
def _root_.Go.W.LH.zN{e:Nat}{vs:List aa}{ty:aC}(H:LH M w0 w (.c e vs ty::L) D){w':J}(f:Fr (·=e) w w'){y:List aa}(h:w'.heap[e]? =some (.cells y.toArray ty (0,0))):
  LH M w0 w' (.c e y ty::L) D/\∀k:En,k.P w'->(∀b∈k.fp,w.heap.size<=b)->LH M w0 w' (.c e y ty::L) (D++[k]):=by
 have j:LH M w0 w' (.c e y ty::L) D:=H.UD 0 f h;refine⟨j,λk C E=>⟨j.fr,j.own,λz d=>?_,j.new,j.nd,λz d b B A x q=>?_⟩⟩
 .rcases aY.1 d with d|d
  .exact j.rd z d
  .simp at d;subst d;exact C
 .rcases aY.1 d with d|d
  .exact j.dj z d b B A x q
  .simp at d;subst d;have F:=E b B;have G:b<w.heap.size:=by
    rcases au.1 x with rfl|x
    .have q:=qg.1 q;have:=(En.c e vs ty).lt w (H.get 0) e (qg.2 rfl);omega
    .exact A.lt w (H.own A (e8 _ x)) b q
   omega
def _root_.Go.W.LH.qk{e:Nat}{vs:List aa}{ty:aC}(H:LH M w0 w (.c e vs ty::L) D){P:aE}{g:FuncId}{args:Array aa}{A:aH}{j:List aa}{K:aH}(x:ai P g args w λr d=>(A r d/\d.heap[e]? =some (.cells j.toArray ty (0,0)))/\Fr (·=e) w d)(y:∀r d,A r d->LH M w0 d (.c e j ty::L) D->(∀h:En,h.P d->(∀b∈h.fp,w.heap.size<=b)->LH M w0 d (.c e j ty::L) (D++[h]))->K r d):ai P g args w K:=
 x.mono λr d ⟨⟨q,k⟩,f⟩=>y r d q (H.zN f k).1 (H.zN f k).2
def _root_.Go.W.LH.h8{e:Nat}{vs:List aa}{ty:aC}(H:LH M w0 w (.c e vs ty::L) D){P:aE}{g:FuncId}{args:Array aa}{A:aH}{j:List aa}{K:aH}(y:ai P g args w λr d=>(A r d/\d.heap[e]? =some (.cells j.toArray ty (0,0)))/\Fr (·=e) w d)(z:∀r d,A r d->LH M w0 d (.c e j ty::L) D->(∀h:En,h.P d->(∀b∈h.fp,w.heap.size<=b)->LH M w0 d (.c e j ty::L) (D++[h]))->K r d)(bp:∀b∈U,En.g b∈(En.c e vs ty::L):=by simp):ee U P g args w K:=
 ⟨(·=e),λb x B=>nY H (i:=0) rfl (xC w e vs ty) (bp b x) (by rw[B];exact qg.2 rfl),y.mono λr d ⟨⟨q,k⟩,f⟩=>⟨f,z r d q (H.zN f k).1 (H.zN f k).2⟩⟩
end
def gm{s:ByteArray}{i:Nat}(h:i<s.size):s[i]? =some (gQ (bl s) i):=by rw[getElem?_pos s i h];unfold gQ;rw[List.getD_eq_getElem?_getD,a4 (show i<(bl s).length by rw[dH];exact h)];rfl
def wU{x:UInt8}{n:Nat}{A B:Prop}(k:n<256)(e:(x==cE n)=true->A)(h:(x==cE n)=false->B):bh (((x.toNat:Nat):Int)==(n:Int)) A B:=by
 have j:x.toNat=n↔x=cE n:=by rw[<-UInt8.toNat_inj,UInt8.toNat_ofNat'];omega
 refine aL (λd=>e (by grind)) (λd=>h (by grind))
def wS{x:UInt8}{n:Nat}{A B:Prop}(k:n<256)(e:(x==cE n)=false->A)(h:(x==cE n)=true->B):bh (((x.toNat:Nat):Int) !=(n:Int)) A B:=by
 have j:x.toNat=n↔x=cE n:=by rw[<-UInt8.toNat_inj,UInt8.toNat_ofNat'];omega
 refine di (λd=>e (by grind)) (λd=>h (by grind))
def Gd{p:UInt8->Prop}(h:∀d:Fin 256,p (cE d.val))(c:UInt8):p c:=by have:=h ⟨c.toNat,c.toNat_lt⟩;simpa using this
def U9:∀n:Fin 16,(bG #[48,49,50,51,52,53,54,55,56,57,97,98,99,100,101,102])[n.val]? =some (ib n.val):=by decide+kernel
def Bf(n:Nat)(h:n<16)(w:J):ai Y KD #[.i (n:Int)] w λr d=>r=ae (.int .u8 ((ib n).toNat:Int))/\ag w d:=
 H5.ok _ w _ ⟨by omega,_,U9 ⟨n,h⟩,rfl,Fr.refl _ _⟩
def GZ(c:UInt8)(w:J):ai Y KJ #[.int .u8 (c.toNat:Int)] w λr q=>r=ae (.bool (ng c))/\ag w q:=by
 refine H9.ok _ w _ (aF (λj=>aF (λk=>wS (n:=39) (by omega) (λe=>⟨?_,Fr.refl _ _⟩) (λe=>⟨?_,Fr.refl _ _⟩)) (λk=>⟨?_,Fr.refl _ _⟩)) (λj=>⟨?_,Fr.refl _ _⟩))
 .have d:(((c.toNat:Nat):Int) !=92)= !(c==92):=by
   have:=@wS c 92 (((((c.toNat:Nat):Int) !=92)=true)/\(c==92)=false) (((((c.toNat:Nat):Int) !=92)=false)/\(c==92)=true);cases x:(((c.toNat:Nat):Int) !=92)with
   |true=>
    have h:c≠92:=λd=>by subst d;grind
    grind
   |false=>
    have h:c=92:=by
     rw[<-UInt8.toNat_inj]
     grind
    grind
  rw[d];unfold ng
  grind
 .have e:(c==39)=true:=e;unfold ng
  grind
 .unfold ng
  grind
 .unfold ng
  grind
def Yc:∀n:Fin 16,ik (ib n.val)=(n.val:Int):=by decide+kernel
def Ye:∀d:Fin 256,ik (cE d.val)=-1\/∃n:Fin 16,ib n.val=cE d.val:=by decide+kernel
def Yd:∀d:Fin 256,ik (cE d.val)<16:=by decide+kernel
def xB(c:UInt8)(w:J):ai Y KI #[.int .u8 (c.toNat:Int)] w λr j=>r=ae (.int .i64 (ik c))/\ag w j:=by
 have loop:∀(d i:Nat) (e:J),i+d=16->(∀h,h<i->ib h≠c)->ag w e->vb.L0 c.toNat (i:Int) e λr j=>r=ae (.int .i64 (ik c))/\ag w j:=by
  intro d;induction d with
  |zero=>
   intro i e x y f;refine vb.bC _ _ _ _ (aZ (aW (by omega)) ⟨?_,f⟩);have:=Gd (p:=λc=>ik c=-1\/∃n:Fin 16,ib n.val=c) Ye c
   grind
  |succ d z=>
   intro i e x y f;refine vb.bC _ _ _ _ (a1 (aS (by omega)) ((Bf i (by omega) e).mono ?_));rintro _ A ⟨rfl,k⟩;refine⟨_,rfl,aL (λq=>⟨?_,f.dA k⟩) (λq=>?_)⟩
   .have B:ib i=c:=by rw[<-UInt8.toNat_inj];omega
    have:=Yc ⟨i,by omega⟩
    grind
   .rw [bb _ (by omega)];refine z (i+1) A (by omega) (λh C=>?_) (f.dA k)
    grind
 exact vb.ok _ w _ (loop 16 0 w (by omega) (λh q=>by omega) (Fr.refl _ _))
def y1(x:UInt8×Nat):ch:=ae (.tuple #[.int .u8 (x.1.toNat:Int),.i (x.2:Int)])
def Yf:∀d e:Fin 16,aj .u8 (aj .i64 ((aj .i64 (16 *(d.val:Int)))+(e.val:Int)))=((cE ((16 *(d.val:Int)+(e.val:Int)).toNat)).toNat:Int):=by decide+kernel
def Nz{c:UInt8}(h:0<=ik c):∃d:Fin 16,ik c=(d.val:Int):=by have:=Gd (p:=λc=>ik c<16) Yd c;exact⟨⟨(ik c).toNat,by omega⟩,by grind⟩
def Be(s:ByteArray)(i:Nat)(V:i<=1000000)(w:J):ai Y KC #[.string s,.i (i:Int)] w λr d=>r=y1 (hf (bl s) i)/\ag w d:=by
 have x:aj .i64 ((i:Int)+1)=((i+1:Nat):Int):=by rw[aQ _ (by omega)];omega
 have y:aj .i64 ((i:Int)+2)=((i+2:Nat):Int):=by rw[aQ _ (by omega)];omega
 have z:aj .i64 ((i:Int)+3)=((i+3:Nat):Int):=by rw[aQ _ (by omega)];omega
 have E:aj .i64 ((i:Int)+4)=((i+4:Nat):Int):=by rw[aQ _ (by omega)];omega
 have T:(bl s).length=s.size:=dH s;have no:∀d,ag w d->hf (bl s) i=(0,0)->va.S1 d (λr d=>r=y1 (hf (bl s) i)/\ag w d):=λd f B=>⟨by rw[B];rfl,f⟩;have st:∀d,ag w d->(ak (i+3<=(bl s).length)&&gQ (bl s) i==39&&gQ (bl s) (i+2)==39&&ng (gQ (bl s) (i+1)))=false->va.S0 s (i:Int) d (λr d=>r=y1 (hf (bl s) i)/\ag w d):=by
  intro d f U;have D:(ak (i+4<=(bl s).length)&&gQ (bl s) i==92&&gQ (bl s) (i+1)==120&&ak (0<=ik (gQ (bl s) (i+2)))&&ak (0<=ik (gQ (bl s) (i+3))))=false->∀d,ag w d->va.S1 d (λr d=>r=y1 (hf (bl s) i)/\ag w d):=λB d f=>no d f (by
   unfold hf
   grind)
  show bh _ _ _;rw[E,z,y,x];refine aF (λL=>⟨by omega,_,gm (i:=i) (by omega),wU (n:=92) (by omega) (λe=>⟨by omega,_,gm (i:=i+1) (by omega),wU (n:=120) (by omega) (λh=>⟨by omega,_,gm (i:=i+2) (by omega),(xB _ d).mono ?_⟩) (λh=>?_)⟩) (λe=>?_)⟩) (λL=>?_)
  rotate_left
  .grind
  .grind
  .grind
  rintro _ k ⟨rfl,j⟩;refine⟨_,rfl,aF (λM=>⟨by omega,_,gm (i:=i+3) (by omega),(xB _ k).mono ?_⟩) (λM=>D (by grind) k (f.dA j))⟩;rintro _ q ⟨rfl,A⟩;refine⟨_,rfl,aF (λO=>?_) (λO=>D (by grind) q ((f.dA j).dA A))⟩;have G:ag w q.drew:=((f.dA j).dA A).dA (Fr.drew _ _);refine(show lr q _ from ?_);refine⟨by omega,_,gm (i:=i+2) (by omega),by omega,_,gm (i:=i+3) (by omega),(xB _ _).mono ?_⟩;rintro _ W ⟨rfl,H⟩;refine⟨_,rfl,(xB _ _).mono ?_⟩;rintro _ Z ⟨rfl,I⟩;refine⟨_,rfl,?_,(G.dA H).dA I⟩;have e:(gQ (bl s) i==92)=true:=e;have h:(gQ (bl s) (i+1)==120)=true:=h;have F:hf (bl s) i=(cE ((16 *ik (gQ (bl s) (i+2))+ik (gQ (bl s) (i+3))).toNat),4):=by
   unfold hf
   grind
  rw[F];obtain⟨Q,N⟩:=Nz (c:=gQ (bl s) (i+2)) (by omega);obtain⟨S,P⟩:=Nz (c:=gQ (bl s) (i+3)) (by omega);rw[N,P,Yf Q S];rfl
 refine va.ok _ _ w _ ?_;rw[z,y,x];refine aF (λK=>⟨by omega,_,gm (i:=i) (by omega),wU (n:=39) (by omega) (λe=>⟨by omega,_,gm (i:=i+2) (by omega),wU (n:=39) (by omega) (λh=>⟨by omega,_,gm (i:=i+1) (by omega),(GZ _ w).mono ?_⟩) (λh=>?_)⟩) (λe=>?_)⟩) (λK=>?_)
 rotate_left
 .exact st w (Fr.refl _ _) (by grind)
 .exact st w (Fr.refl _ _) (by grind)
 .exact st w (Fr.refl _ _) (by grind)
 rintro _ k ⟨rfl,j⟩;refine⟨_,rfl,bB (λC=>⟨by omega,_,gm (i:=i+1) (by omega),?_,j⟩) (λC=>st k j (by grind))⟩;have e:(gQ (bl s) i==39)=true:=e;have h:(gQ (bl s) (i+2)==39)=true:=h;unfold hf;rw[e,h,C,aS (show i+3<=(bl s).length by omega)];rfl
def A1(s:BL)(i:Nat):(hf s i).2<=4/\(0<(hf s i).2->i+(hf s i).2<=s.length):=by
 unfold hf
 grind
def Es(g:AJ):ch:=ae (.tuple #[.agg #[.i (g.k:Int),.int .u8 (g.lo.toNat:Int),.int .u8 (g.V.toNat:Int),.slice none 0 0],.i (g.n:Int)])
def Ox(s:BL)(i:Nat):i+(jG s i).n<=s.length\/(jG s i).n=0:=by
 unfold jG;simp only;have d:=A1 s i;split
 .grind
 .split
  .exact .inr rfl
  .split
   .exact .inr rfl
   .split
    .exact .inr rfl
    grind
def Un(s:ByteArray)(W:s.size<=100000)(i:Nat)(V:i<s.size)(w:J):ai Y KL #[.string s,.i (i:Int)] w λr w'=>r=Es (jG (bl s) i)/\ag w w':=by
 have U:(bl s).length=s.size:=dH s;refine sA.aB _ _ w _ ((bI [] (by simp)).aG λb S G=>G.aw (Be s i (by omega) S) ?_);rintro _ T rfl B;refine⟨_,_,rfl,aF (λP=>B.ah λe d=>⟨?_,d.fr⟩) (λP=>⟨by omega,_,gm (i:=i) V,wS (n:=91) (by omega) (λh=>B.ah λe d=>⟨?_,d.fr⟩) (λh=>?_)⟩)⟩
 .unfold jG;simp only;rw[aq (by omega)];rfl
 .have h:(gQ (bl s) i==91)=false:=h;unfold jG;simp only;rw[af (by omega),aq (beq_eq_false_iff_ne.1 h)];rfl
 have h:gQ (bl s) i=91:=eq_of_beq h;rw[bb _ (by omega)];refine B.aw (Be s (i+1) (by omega) T) ?_;rintro _ e rfl d;have I:=A1 (bl s) (i+1);have bad:∀(w':J),LH F0 w w' [.g b] []->jG (bl s) i=qM->sA.bM b 0 0 0 ⟨none,0,0⟩ w' λr w'=>r=Es (jG (bl s) i)/\ag w w':=λw' z E=>z.ah λQ A=>⟨by rw[E];rfl,A.fr⟩;have x:∀(w':J),LH F0 w w' [.g b] []->jG (bl s) i=qM->sA.cM b 0 0 0 ⟨none,0,0⟩ w' λr w'=>r=Es (jG (bl s) i)/\ag w w':=λw' z E=>z.ah λQ A=>⟨by rw[E];rfl,A.fr⟩;have k:jG (bl s) i=(let a:=hf (bl s) (i+1)
   let dash:=i+1+a.2
   if a.2=0\/(bl s).length<=dash\/gQ (bl s) dash≠45 then qM else
   let c:=hf (bl s) (dash+1)
   let fin:=dash+1+c.2
   if c.2=0\/(bl s).length<=fin\/gQ (bl s) fin≠93\/c.1.toNat<a.1.toNat then qM else⟨2,a.1,c.1,fin+1 - i⟩):=by
  conv=>lhs;unfold jG
  grind
 simp only at k;generalize hf (bl s) (i+1)=a at I k;refine⟨_,_,rfl,?_⟩;have M:aj .i64 (((i+1:Nat):Int)+(a.2:Int))=((i+1+a.2:Nat):Int):=by rw[aQ _ (by omega)];omega
 show sA.bn s (i:Int) b 0 0 0 ⟨none,0,0⟩ (a.1.toNat:Int) (a.2:Int) (aj .i64 (((i+1:Nat):Int)+(a.2:Int))) e _;rw[M];refine aL (λC=>bad e d (by grind)) (λC=>aF (λD=>bad e d (by grind)) (λD=>⟨by omega,_,gm (i:=i+1+a.2) (by omega),wS (n:=45) (by omega) (λy=>bad e d (by grind)) (λy=>?_)⟩));have y:gQ (bl s) (i+1+a.2)=45:=eq_of_beq y;rw[af (by grind)]at k;rw[bb _ (by omega)];refine d.aw (Be s (i+1+a.2+1) (by omega) e) ?_;rintro _ q rfl j;have K:=A1 (bl s) (i+1+a.2+1);generalize hf (bl s) (i+1+a.2+1)=c at K k;refine⟨_,_,rfl,?_⟩;have O:aj .i64 (((i+1+a.2+1:Nat):Int)+(c.2:Int))=((i+1+a.2+1+c.2:Nat):Int):=by rw[aQ _ (by omega)];omega
 show sA.bV s (i:Int) b 0 0 0 ⟨none,0,0⟩ (a.1.toNat:Int) (c.1.toNat:Int) (c.2:Int) (aj .i64 (((i+1+a.2+1:Nat):Int)+(c.2:Int))) q _;rw[O];refine aL (λC=>x q j (by grind)) (λC=>aF (λD=>x q j (by grind)) (λD=>⟨by omega,_,gm (i:=i+1+a.2+1+c.2) (by omega),wS (n:=93) (by omega) (λy=>x q j (by grind)) (λF=>aF (λL=>x q j (by grind)) (λL=>j.ah λZ H=>⟨?_,H.fr⟩))⟩));have F:gQ (bl s) (i+1+a.2+1+c.2)=93:=eq_of_beq F;rw[k,af (by grind)];have N:aj .i64 ((aj .i64 (((i+1+a.2+1+c.2:Nat):Int)+1)) - (i:Int))=((i+1+a.2+1+c.2+1 - i:Nat):Int):=by rw[bb _ (by omega),aQ _ (by omega)];omega
 rw[N];rfl
def dC.c(t:dC):List aa:=[.string (ba t.tx),.i (t.at_:Int),.i (t.k:Int),.int .u8 (t.lo.toNat:Int),.int .u8 (t.V.toNat:Int),.slice none 0 0]
def Rj(t:dC):t.c.length=6:=rfl
def Rk(l:List dC)(t:dC):l.flatMap dC.c++t.c=(l++[t]).flatMap dC.c:=by simp
def wM{w:J}{s:Sl}{l:List dC}(h:bx 6 w s (l.flatMap dC.c)):s.n=l.length:=by have:=h.1;rw[oX dC.c 6 Rj]at this;omega
def HL:g0 Y zJ oA (.agg #[.s0,.i 0,.i 0,.int .u8 0,.int .u8 0,.slice none 0 0]) 6 64:=⟨by kernel_rfl,by kernel_rfl,rfl,by decide,by decide⟩
def F7(w:J)(l:List dC)(r:ch)(w':J):Prop:=∃d:Sl,r=ae d.v/\aK w' oA 6 d (l.flatMap dC.c)/\∀e∈ax d,w.heap.size<=e
def Tj(s:ByteArray)(i j:Nat):s.extract i j=ba (((bl s).take j).drop i):=by
 have:bl (s.extract i j)=((bl s).take j).drop i:=by unfold bl;rw[ByteArray.data_extract,Array.toList_extract,List.extract_eq_take_drop];rw[List.drop_take]
 rw[<-this,l8]
def JW(c:UInt8){A B:Prop}(e:ey c=true->A)(d:ey c=false->B):bh (ak (((c.toNat:Nat):Int)>=97)) (bh (ak (((c.toNat:Nat):Int)<=122)) A B) B:=
 aF (λh=>aF (λj=>e (by unfold ey;grind)) (λj=>d (by unfold ey;grind))) (λh=>d (by unfold ey;grind))
def PC(s:BL)(i:Nat):∀(f n:Nat),i+n<=s.length->n<=nr s i f n/\i+nr s i f n<=s.length
 |0,n,d=>⟨bm _,d⟩
 |f+1,n,d=>by
  unfold nr;split
  .rename_i e;simp only[bq,decide_eq_true_eq]at e;have:=PC s i f (n+1) (by omega);omega
  omega
def TV(s:ByteArray)(hs:s.size<=100000)(w:J):ai Y KA #[.string s] w λr F=>F7 w (mC (bl s)) r F/\ag w F:=by
 have hl:(bl s).length=s.size:=dH s
 let j:aH:=λr F=>F7 w (mC (bl s)) r F/\ag w F
 have fin:∀(acc:List dC) (sl:Sl) (q:J),acc.length<=s.size->mC (bl s)=acc++[⟨[],(bl s).length,0,0,0⟩]->LH F0 w q [.row oA 6 sl (acc.flatMap dC.c)] []->
   c9 q (.cells #[.s0,.i ((s.size:Nat):Int),.i 0,.int .u8 0,.int .u8 0,.slice none 0 0] oA) λw7=>
 ∃(t81:Sl) (U:J),k5 Y (dY #[zJ,zJ] zJ #[sl.v,.slice (some (nb q)) 1 1]) w7=.ok (t81.v) U/\j (ae (t81.v)) U:=by intro acc sl q ha h A;have ac:=wM (A.get 0:aK _ _ _ _ _).bd;refine A.uE 0 HL rfl (λN w2 D _ _=>⟨⟨N,rfl,?_,λad hx=>(D.new _ (aD (i:=0) rfl) ad hx).resolve_right id⟩,D.fr⟩) (by omega);rw[h,<-Rk];exact D.get 0
 have loop:∀(f i:Nat) (acc:List dC) (sl:Sl) (q:J),s.size<f+i->i<=s.size->acc.length<=i->mC (bl s)=acc++ox (bl s) f i->LH F0 w q [.row oA 6 sl (acc.flatMap dC.c)] []->jt.a2 s sl (i:Int) q j:=by
  intro f;induction f with
  |zero=>omega
  |succ f Q=>
   intro i acc sl q hf hi al h A;refine jt.bw _ _ _ _ _ (aF (λaa=>⟨by omega,_,gm (i:=i) (by omega),?_⟩) (λaa=>fin acc sl q (by omega) (by rw[h];unfold ox;grind) A))
   unfold ox at h;rw[af (by omega)]at h;refine wU (n:=32) (by omega) (λz=>?_) (λz=>?_)
   .have z:gQ (bl s) i=32:=eq_of_beq z;rw[aq z]at h;rw[bb _ (by omega)];exact Q (i+1) acc sl q (by omega) (by omega) (by omega) h A
   have z:gQ (bl s) i≠32:=beq_eq_false_iff_ne.1 z;rw[af z]at h;simp only at h;refine A.call (Un s hs i (by omega) q) ?_;rintro _ w2 rfl D;have B:=Ox (bl s) i;generalize jG (bl s) i=g at h B;refine⟨_,_,_,⟨none,0,0⟩,_,rfl,D.aG λb w3 G=>?_⟩;have G:LH F0 w w3 [.row oA 6 sl (acc.flatMap dC.c),.g b] []:=G;have one:∀(n:Nat) (C:J),1<=n->i+n<=s.size->mC (bl s)=acc++⟨((bl s).take (i+n)).drop i,i,g.k,g.lo,g.V⟩::ox (bl s) f (i+n)->LH F0 w C [.row oA 6 sl (acc.flatMap dC.c),.g b] []->
     jt.bV s sl (i:Int) b (g.k:Int) (g.lo.toNat:Int) (g.V.toNat:Int) ⟨none,0,0⟩ (n:Int) C j:=by
    intro n C K I P H;show(0:Int)<=_/\_;have E:aj .i64 ((i:Int)+(n:Int))=((i+n:Nat):Int):=by rw[aQ _ (by omega)];omega
    rw[E,bH,bH,Tj];refine⟨by omega,by omega,by omega,by omega,H.ah λd x=>?_⟩;have ac:=wM (x.get 0:aK _ _ _ _ _).bd;refine x.h7 0 HL rfl (λN w6 W=>?_) (by omega);refine Q (i+n) (acc++[⟨((bl s).take (i+n)).drop i,i,g.k,g.lo,g.V⟩]) N w6 (by omega) (by omega) (by grind) (by grind) ?_;rw[<-Rk];exact W.take 1
   refine aL (λL=>G.ah λC H=>?_) (λL=>G.ah λC H=>one g.n C (by omega) (by omega) (by grind) H);have L:g.n=0:=by omega
   rw[aq L]at h;have word:∀(e n:Nat) (d:J),s.size<=e+(i+n)->1<=n->i+n<=s.size->nr (bl s) i (bl s).length 1=nr (bl s) i e n->LH F0 w d [.row oA 6 sl (acc.flatMap dC.c),.g b] []->
     jt.cm s sl (i:Int) b (g.k:Int) (g.lo.toNat:Int) (g.V.toNat:Int) ⟨none,0,0⟩ (n:Int) d j:=by
    intro e;induction e with
    |zero=>
     intro n d P K I B x;have stop:jt.bV s sl (i:Int) b (g.k:Int) (g.lo.toNat:Int) (g.V.toNat:Int) ⟨none,0,0⟩ (n:Int) d j:=one n d K I (by rw[h,B];rfl) x;have E:aj .i64 ((i:Int)+(n:Int))=((i+n:Nat):Int):=by rw[aQ _ (by omega)];omega
     refine jt.dB _ _ _ _ _ _ _ _ _ _ _ ?_;rw[E];refine⟨by omega,_,gm (i:=i) (by omega),bB (λ_=>⟨by omega,_,gm (i:=i) (by omega),bB (λ_=>aZ (aW (by omega)) stop) (λ_=>stop)⟩) (λ_=>stop)⟩
    |succ e ab=>
     intro n d P K I B x;have E:aj .i64 ((i:Int)+(n:Int))=((i+n:Nat):Int):=by rw[aQ _ (by omega)];omega
     have stop:(ey (gQ (bl s) i)&&ak (i+n<(bl s).length)&&ey (gQ (bl s) (i+n)))=false->jt.bV s sl (i:Int) b (g.k:Int) (g.lo.toNat:Int) (g.V.toNat:Int) ⟨none,0,0⟩ (n:Int) d j:=λy=>one n d K I (by
      rw[h,B];conv=>lhs;unfold nr
      rw[y];rfl) x
     refine jt.dB _ _ _ _ _ _ _ _ _ _ _ ?_;rw[E];refine⟨by omega,_,gm (i:=i) (by omega),?_⟩;have go:ey (gQ (bl s) i)=true->bh (ak (((i+n:Nat):Int)<((s.size:Nat):Int))) ((0:Int)<=((i+n:Nat):Int)/\∃S:UInt8,s[aV ((i+n:Nat):Int)]? =some S/\bh (ak (((S.toNat:Nat):Int)>=97)) ((0:Int)<=((i+n:Nat):Int)/\∃T:UInt8,s[aV ((i+n:Nat):Int)]? =some T/\bh (ak (((T.toNat:Nat):Int)<=122)) (jt.cm s sl (i:Int) b (g.k:Int) (g.lo.toNat:Int) (g.V.toNat:Int) ⟨none,0,0⟩ (aj .i64 ((n:Int)+1)) d j) (jt.bV s sl (i:Int) b (g.k:Int) (g.lo.toNat:Int) (g.V.toNat:Int) ⟨none,0,0⟩ (n:Int) d j)) (jt.bV s sl (i:Int) b (g.k:Int) (g.lo.toNat:Int) (g.V.toNat:Int) ⟨none,0,0⟩ (n:Int) d j)) (jt.bV s sl (i:Int) b (g.k:Int) (g.lo.toNat:Int) (g.V.toNat:Int) ⟨none,0,0⟩ (n:Int) d j):=by
      intro h1;refine aF (λZ=>⟨by omega,_,gm (i:=i+n) (by omega),?_⟩) (λZ=>stop (by grind));have key:ey (gQ (bl s) (i+n))=true->jt.cm s sl (i:Int) b (g.k:Int) (g.lo.toNat:Int) (g.V.toNat:Int) ⟨none,0,0⟩ (aj .i64 ((n:Int)+1)) d j:=λO=>by
       rw[bb _ (by omega)];refine ab (n+1) d (by omega) (by omega) (by omega) ?_ x;rw[B];conv=>lhs;unfold nr
       grind
      have M:ey (gQ (bl s) (i+n))=false->_:=λO=>stop (by grind);have y:=JW (gQ (bl s) (i+n)) key M;exact PO y (λy=>⟨by omega,_,gm (i:=i+n) (by omega),y⟩) id
     have M:ey (gQ (bl s) i)=false->_:=λO=>stop (by grind);exact PO (JW (gQ (bl s) i) go M) (λy=>⟨by omega,_,gm (i:=i) (by omega),y⟩) id
   grind
 refine jt.aB _ w _ ?_;exact loop (s.size+1) 0 [] ⟨none,0,0⟩ w (by omega) (by omega) (by simp) (by unfold mC;grind) ((bI [] (by simp)).hR oA 6)
abbrev Oy(s:Sl)(st:bE):List aa:=[s.v,.i (st.1:Int),.bool st.2]
abbrev cQ(d:Nat)(s:Sl)(st:bE):En:=.c d (Oy s st) Rq
abbrev cX(s:Sl)(l:List dC):En:=.bd 6 s (l.flatMap dC.c)
abbrev SA(e:Nat)(s:Sl)(w:J)(A:aH)(st:bE):aH:=λr d=>(A r d/\d.heap[e]? =some (.cells (Oy s st).toArray Rq (0,0)))/\Fr (·=e) w d
abbrev iB(d:Nat)(s:Sl)(l:List dC)(st:bE)(w:J):Prop:=LH (·=d) w w [cQ d s st] [cX s l]
def _root_.Go.W.LH.fR{M:Nat->Prop}{w0 w:J}{L D:List En}{h:Nat}{s:Sl}{l:List dC}{st:bE}(H:LH M w0 w (cQ h s st::L) (cX s l::D)):iB h s l st w:=
 LH.tK _ _ (by
  intro k d;simp only[au,aO,aR]at d;subst d;exact⟨H.get 0,λb e=>qg.1 e⟩) (by
  simp only[List.flatMap_cons,List.flatMap_nil,List.append_nil];exact(cQ h s st).nd) (by
  intro k d;simp only[au,aO,aR]at d;subst d;exact⟨H.getD 0,λb e q j=>by simp only[au,aO,aR]at j;subst j;exact H.dj _ kf b e _ kf⟩)
structure F'(w:J)(p:Addr)(i:Nat)(t:dC):Prop where
 c0:w.cell? ((p.add (i *6)).add 0)=some (.string (ba t.tx))
 c1:w.cell? ((p.add (i *6)).add 1)=some (.i (t.at_:Int))
 c2:w.cell? ((p.add (i *6)).add 2)=some (.i (t.k:Int))
 c3:w.cell? ((p.add (i *6)).add 3)=some (.int .u8 (t.lo.toNat:Int))
 c4:w.cell? ((p.add (i *6)).add 4)=some (.int .u8 (t.V.toNat:Int))
 c5:w.cell? ((p.add (i *6)).add 5)=some (.slice none 0 0)
def wN{w:J}{s:Sl}{l:List dC}(h:bx 6 w s (l.flatMap dC.c)){i:Nat}(V:i<l.length){K:Addr->Prop}(j:∀p,s.a=some p->F' w p i (fw l i)->K p):dM s.a K:=by
 have e:l[i]? =some (fw l i):=by unfold fw;rw[List.getD_eq_getElem?_getD,a4 V];rfl
 exact eV.elem (f:=dC.c) (sz:=6) Rj (by omega) h.2.2 e λp k d=>j p k ⟨d 0 _ rfl,d 1 _ rfl,d 2 _ rfl,d 3 _ rfl,d 4 _ rfl,d 5 _ rfl⟩
def iU(l:List dC):Prop:=0<l.length/\(fw l (l.length - 1)).tx=[]/\(fw l (l.length - 1)).k=0
section
variable {pb:Nat} {s:Sl} {l:List dC} {st:bE} {w:J}
def Bg(H:iB pb s l st w)(V:st.1<l.length):ai Y KO #[.pointer (some (ab pb))] w λr q=>r=ae (.string (ba (e2 l st)))/\ag w q:=by
 have k:st.2=true->e2 l st=[32]:=λe=>by unfold e2;rw[e];rfl
 have j:st.2=false->e2 l st=(fw l st.1).tx:=λe=>by unfold e2;rw[e];rfl
 generalize e2 l st=u at k j;refine Ib.ok _ w _ ⟨st.2,H.ld 0 2,bB (λh=>⟨?_,Fr.refl _ _⟩) (λh=>?_)⟩
 .rw [k h];rfl
 rw[j h];have d:LH (·=pb) w w.drew [cQ pb s st] [cX s l]:=H.drew;have x:=wM (d.getD 0:bx _ _ _ _);refine⟨s,d.ld 0 0,_,d.ld 0 1,by omega,by omega,wN (d.getD 0) V λp y c=>⟨ba (fw l st.1).tx,?_,rfl,Fr.drew _ _⟩⟩;rw[bH];exact c.c0
def r0(a b:BL):((ba a).toList==(ba b).toList)=(a==b):=by rw[ByteArray.toList_eq,ByteArray.toList_eq];rfl
def JD(j:iU l)(V:st.1<l.length)(k:e2 l st≠[])(h:st.2=false):st.1+1<l.length:=by
 rcases Nat.lt_or_ge (st.1+1) l.length with d|d
 .exact d
 .exfalso;apply k;have e:st.1=l.length - 1:=by omega
  unfold e2;rw[h,e];exact j.2.1
def q9(k:iU l)(V:st.1<l.length)(u:BL)(q:u≠[32]):(eK l u st).2.1<l.length:=by
 unfold eK;cases d:e2 l st==u with
 |false=>exact V
 |true=>
  have d:=eq_of_beq d;cases j:u.isEmpty with
  |true=>exact V
  |false=>
   show st.1+1<l.length;refine JD k V (λe=>?_) ?_
   .rw [e]at d;subst d;cases j
   .cases h:st.2 with
    |false=>rfl
    |true=>
     exfalso;apply q;rw[<-d];unfold e2;rw[h];rfl
def qi(H:iB pb s l st w)(V:st.1<l.length)(q:l.length<=1000000)(u:BL):ai Y KP #[.pointer (some (ab pb)),.string (ba u)] w (SA pb s w (λr _=>r=ae (.bool (eK l u st).1)) (eK l u st).2):=by
 refine Ic.ok _ _ w _ (H.call (Bg H V) ?_);rintro _ x rfl e;refine⟨_,rfl,?_⟩;try dsimp only
 rw[r0];have k:((ba u).toList==(bG #[]).toList)=u.isEmpty:=by have:bG #[]=ba []:=rfl;rw[this,r0];cases u<;>rfl
 rw[k];refine dN (λd=>⟨⟨?_,?_⟩,e.fr⟩) (λd=>dN (λh=>⟨_,e.ld 0 1,?_⟩) (λh=>⟨⟨?_,?_⟩,e.fr⟩))
 .unfold eK;rw[d];rfl
 .have:(eK l u st).2=st:=by unfold eK;rw[d];rfl
  rw[this];exact e.get 0
 .rw [bb _ (by omega)];refine e.st 0 1 rfl λy j=>⟨⟨?_,?_⟩,j.fr⟩
  .unfold eK;rw[d];rfl
  .have:(eK l u st).2=(st.1+1,st.2):=by unfold eK;rw[d,h];rfl
   rw[this];exact j.get 0
 .unfold eK;rw[d];rfl
 .have:(eK l u st).2=st:=by unfold eK;rw[d,h];rfl
  rw[this];exact e.get 0
def Nh(u:BL):j8 l u st=bif (eK l u st).1 then(eK l u st).2 else((eK l u st).2.1,true):=by unfold j8;generalize eK l u st=x;obtain⟨b,d⟩:=x;cases b<;>rfl
def vS(d:iU l)(V:st.1<l.length)(u:BL)(e:u≠[32]):(j8 l u st).1<l.length:=by rw[Nh];have:=q9 d V u e;cases(eK l u st).1<;>exact this
def uN(H:iB pb s l st w)(V:st.1<l.length)(j:l.length<=1000000)(u:BL):ai Y KN #[.pointer (some (ab pb)),.string (ba u)] w (SA pb s w (λr _=>r=ae (.tuple #[])) (j8 l u st)):=by
 refine Ia.ok _ _ w _ (H.qk (qi H V j u) ?_);rintro _ k rfl d _;rw[Nh];refine⟨_,rfl,dN (λe=>d.st 0 2 rfl λq h=>⟨⟨rfl,?_⟩,h.fr⟩) (λe=>⟨⟨rfl,?_⟩,d.fr⟩)⟩
 .rw [e];exact h.get 0
 .rw [e];exact d.get 0
def TX(H:iB pb s l st w)(V:st.1<l.length):ai Y KM #[.pointer (some (ab pb))] w λr z=>r=ae (.bool (xw l st))/\ag w z:=by refine H'.ok _ w _ ((Bg H V).mono ?_);rintro _ A ⟨rfl,e⟩;have h:=H.br e;refine⟨_,rfl,st.2,h.ld 0 2,?_⟩;have d:∀u:List UInt8,((ba (e2 l st)).toList==(ba u).toList)=(e2 l st==u):=λu=>r0 _ _;have j:=d [];have k:=d [41];have q:=d [44];have x:=d [124];have y:=d [38];unfold xw;show bh _ (bh (!((ba (e2 l st)).toList==(ba []).toList)) (bh (!((ba (e2 l st)).toList==(ba [41]).toList)) (bh (!((ba (e2 l st)).toList==(ba [44]).toList)) (bh (!((ba (e2 l st)).toList==(ba [124]).toList)) (Ending.returned (.bool (!((ba (e2 l st)).toList==(ba [38]).toList)))=_/\ag w A) _) _) _) _) _;rw[j,k,q,x,y];cases st.2<;>cases e2 l st==[]<;>cases e2 l st==[41]<;>cases e2 l st==[44]<;>cases e2 l st==[124]<;>first |exact⟨rfl,e⟩|skip
end
def A'(k:Int)(s:Sl)(l:List I)(w:J)(h:(bF s l).P w):ai Y vL #[.i k,s.v] w λr y=>fZ (bF s l).fp w (qz k (I.ao l)) r y/\ag w y:=by
 have d:=I.cr (dw.1 h).1;refine H7.aB _ _ w _ ((gG h).aG λb A j=>aL (λz=>?_) (λz=>j.ah λx e=>⟨⟨.mk k 0 0 s l,rfl,?_,?_,λb q=>.inr q⟩,e.fr⟩))
 .match l,d with
  |[],d=>simp at d;omega
  |a::b::m,d=>simp at d;omega
  |[a],d=>
   refine⟨by omega,by omega,I.dd (dw.1 (show(bF s [a]).P A from j.getD 0)).1 (i:=0) rfl λp B c=>⟨_,_,_,_,c.c0,c.c1,c.c2,c.c3,j.ah λx e=>⟨⟨a,rfl,rfl,?_,λb q=>.inr ?_⟩,e.fr⟩⟩⟩
   .exact (dw.1 (show(bF s [a]).P x from e.getD 0)).2.mem (by simp)
   .exact lG.2 (.inr (I.bJ.2 ⟨a,by simp,q⟩))
 .show Rx.mk k 0 0 (I.ao l)=_
  match l,d with
  |[],d=>rfl
  |[a],d=>simp at d;omega
  |a::b::m,d=>rfl
 .have:=dw.1 (show(bF s l).P x from e.getD 0);unfold I.P;exact this
structure l4(s:Sl)(l:List dC)(n:Nat):Prop where
 expr:∀(pb:Nat) (st:bE) (w:J) (x:Rx) (fW:bE),kK l n st=some (x,fW)->st.1<l.length->iB pb s l st w->ai Y CS #[.pointer (some (ab pb))] w (SA pb s w (λr w'=>fJ w x r w'/\fW.1<l.length) fW)
 Hv:∀(pb:Nat) (st:bE) (w:J) (x:Rx) (fW:bE),nQ l n st=some (x,fW)->st.1<l.length->iB pb s l st w->ai Y yx #[.pointer (some (ab pb))] w (SA pb s w (λr w'=>fJ w x r w'/\fW.1<l.length) fW)
 seq:∀(pb:Nat) (st:bE) (w:J) (x:Rx) (fW:bE),om l n st=some (x,fW)->st.1<l.length->iB pb s l st w->ai Y yz #[.pointer (some (ab pb))] w (SA pb s w (λr w'=>fJ w x r w'/\fW.1<l.length) fW)
 item:∀(pb:Nat) (st:bE) (w:J) (x:Rx) (fW:bE),mi l n st=some (x,fW)->st.1<l.length->iB pb s l st w->ai Y yy #[.pointer (some (ab pb))] w (SA pb s w (λr w'=>fJ w x r w'/\fW.1<l.length) fW)
 atom:∀(pb:Nat) (st:bE) (w:J) (x:Rx) (fW:bE),qd l n st=some (x,fW)->st.1<l.length->iB pb s l st w->ai Y CR #[.pointer (some (ab pb))] w (SA pb s w (λr w'=>fJ w x r w'/\fW.1<l.length) fW)
 kids:∀(pb:Nat) (st:bE) (w:J) (m:List Rx) (fW:bE),qB l n st=some (m,fW)->st.1<l.length->iB pb s l st w->ai Y CT #[.pointer (some (ab pb))] w (SA pb s w (λr w'=>(∃(sl:Sl) (a:List I),r=ae sl.v/\I.ao a=m/\(bF sl a).P w'/\∀b∈(bF sl a).fp,w.heap.size<=b)/\fW.1<l.length) fW)
def yY{M:Nat->Prop}{w0 w:J}{L D:List En}{d:Nat}{s:Sl}{st:bE}(H:LH M w0 w (cQ d s st::L) D)(i:Nat){e:En}(V:L[i]? =some e){b:Nat}(k:b∈e.fp):b≠d:=λh=>
 mf H.nd (i:=i+1) (by grind) (j:=0) rfl (by omega) b k (qg.2 h)
def _root_.Go.W.LH.uY{M:Nat->Prop}{w0 w:J}{L D:List En}(H:LH M w0 w L D)(j:Nat){t:I}(h:D[j]? =some (.tree t):=by rfl):LH M w0 w L (D++[.trees [t]]):=by
 refine H.gy _ (Fr.refl _ _) (I.ir λq d=>?_) λb k=>.inr (.inr ?_)
 .simp at d;subst d;exact H.getD j h
 .obtain ⟨q,d,e⟩:=I.bJ.1 (aM.1 k);simp at d;rw[d]at e;exact⟨_,aD h,aM.2 e⟩
section
variable {s:Sl} {l:List dC} {n:Nat}
def Iy(T:iU l)(S:l.length<=1000000)(U:∀m,m<=n->l4 s l m)(d:Nat)(w:J)(x:Rx)(y:bE):∀(f:Nat),f<=n->∀(acc:List I) (sl:Sl) (h:Nat) (H:J) (st:bE),rU l f (I.ao acc) st=some (x,y)->st.1<l.length->acc.length+f<=1000000->(∀b∈I.a8 acc,w.heap.size<=b)->
  LH (·=d) w H [cQ d s st,.g h,.row aN 4 sl (acc.flatMap I.c)] [cX s l,.trees acc]->
  vd.a2 (ab d) h 0 0 0 ⟨none,0,0⟩ sl H (SA d s w (λr D=>fJ w x r D/\y.1<l.length) y)
 |0,_=>λacc sl h H st z=>by unfold rU at z;cases z
 |f+1,hf=>λacc sl h H st z Q ar aa K=>by
  have av:=I.cr (K.get 2:aK _ _ _ _ _).bd;unfold rU at z;have fin:∀(k:J) (j:bE),j.1<l.length->some (qz 4 (I.ao acc),j)=some (x,y)->LH (·=d) w k [cQ d s j,.g h,.row aN 4 sl (acc.flatMap I.c)] [cX s l,.trees acc]->
    r6 [h] vL #[.i 4,sl.v] k λak al am an w8=>loc [h] w8 λap=>SA d s w (λr D=>fJ w x r D/\y.1<l.length) y (ae (.agg #[.i ak,.int .u8 al,.int .u8 am,an.v])) ap:=by
   intro k j M F q;simp only[eI,eC]at F;obtain⟨rfl,rfl⟩:=F;have au:∀b∈(bF sl acc).fp,w.heap.size<=b:=λb e=>by
    rcases lG.1 e with e|e
    .exact (q.new _ (aD (i:=2) rfl) b (gk e)).resolve_right (yY q 1 rfl (gk e))
    grind
   have L:LH (·=d) w k [cQ d s j,.g h] [cX s l,.trees acc,I.row sl acc,.tree (bF sl acc)]:=q.q0 2 1 0 0 0;refine L.ql (A' 4 sl acc k (L.getD 3)) (λb e=>⟨_,aD (i:=3) rfl,aM.2 e⟩) λt W C A ft=>?_;refine⟨_,_,_,t.s,rfl,A.ah λw4 B=>⟨⟨⟨⟨t,rfl,C,B.getD 4,λb e=>?_⟩,M⟩,B.get 0⟩,B.fr⟩⟩;rcases ft b e with e|e
   .exact a6 L.fr.size e
   grind
  have more:∀(k:J) (j:bE),j.1<l.length->(match nQ l f j with
   |some (a,st)=>rU l f (I.ao acc++[a]) st
   |none=>none)=some (x,y)->LH (·=d) w k [cQ d s j,.g h,.row aN 4 sl (acc.flatMap I.c)] [cX s l,.trees acc]->
    r6 [h] yx #[.pointer (some (ab d))] k λaf ag ai aj E=>c9 E (.cells #[.i af,.int .u8 ag,.int .u8 ai,aj.v] aN) λZ=>
     ∃(t13:Sl) (N:J),k5 Y (dY #[dm,dm] dm #[sl.v,.slice (some (nb E)) 1 1]) Z=.ok (t13.v) N/\kept [h] Z N/\vd.a2 (ab d) h 0 0 0 ⟨none,0,0⟩ t13 N (SA d s w (λr D=>fJ w x r D/\y.1<l.length) y):=by
   intro k j M F q;cases P:nQ l f j with
   |none=>grind
   |some aq=>
    obtain⟨a,G⟩:=aq;rw[P]at F;refine q.h8 ((U f (by omega)).Hv d j k a G P M q.fR) ?_;rintro _ W ⟨⟨u,rfl,hu,pu,O⟩,ac⟩ _ F3;have A:=F3 (.tree u) pu λb e=>O b (aM.1 e);have A:LH (·=d) w W [cQ d s G,.g h,.row aN 4 sl (acc.flatMap I.c)] [cX s l,.trees acc,.tree u]:=A;refine⟨_,_,_,u.s,rfl,A.h7 2 kI (xs:=acc.flatMap I.c) rfl (λV E B=>?_) (by omega)⟩;have H6:LH (·=d) w E [cQ d s G,.g h,.row aN 4 V ((acc++[u]).flatMap I.c)] [cX s l,.trees (acc++[u])]:=by rw[me];exact(B.q4 1 2).forget _ (by simp)
    refine Iy T S U d w x y f (by omega) (acc++[u]) V h E G ?_ ac (by grind) (sF aa λb e=>a6 q.fr.size (O b e)) H6;rw[jH];have:I.ao [u]=[a]:=by simp[I.ao,hu]
    grind
  refine vd.bw _ _ _ _ _ _ _ _ _ (K.h8 (qi K.fR Q S [124]) ?_);have C:=q9 T Q [124] (by decide);rintro _ k rfl q _;refine⟨_,rfl,?_⟩;cases hq:eK l [124] st with
  |mk ad j=>
   rw[hq]at z q C;cases ad with
   |true=>exact more k j C z q
   |false=>exact fin k j C z q
def Vs(Q:iU l)(P:l.length<=1000000)(Z:n<=100000)(D:∀m,m<=n->l4 s l m)(d:Nat)(st:bE)(w:J)(x:Rx)(k:bE)(B:kK l (n+1) st=some (x,k))(V:st.1<l.length)(H:iB d s l st w):
  ai Y CS #[.pointer (some (ab d))] w (SA d s w (λr U=>fJ w x r U/\k.1<l.length) k):=by
 unfold kK at B;cases A:nQ l n st with
 |none=>grind
 |some W=>
  obtain⟨a,q⟩:=W;rw[A]at B;refine vd.aB _ w _ (H.aG λj E h=>?_);have h:LH (·=d) w E [cQ d s st,.g j] [cX s l]:=h;refine h.h8 ((D n (bm _)).Hv d st E a q A V h.fR) ?_;rintro _ F ⟨⟨u,rfl,S,T,z⟩,O⟩ _ K;have y:=K (.tree u) T λb e=>z b (aM.1 e);have y:LH (·=d) w F [cQ d s q,.g j] [cX s l,.tree u]:=y;refine⟨_,_,_,u.s,rfl,y.cN (n:=1) (sz:=4) (cs:=u.c) rfl (by decide) λG L=>?_⟩;have M:LH (·=d) w G [cQ d s q,.g j,.row aN 4 ⟨some (ab F.heap.size),1,1⟩ ([u].flatMap I.c)] [cX s l,.trees [u]]:=by
   have N:[u].flatMap I.c=u.c:=by simp
   rw[N];exact(L.uY 1).forget _ (by simp)
  refine Iy Q P D d w x k n (bm _) [u] _ j G q ?_ O (by grind) (λb e=>?_) M
  .have:I.ao [u]=[a]:=by simp[I.ao,S]
   grind
  .obtain ⟨t,C,e⟩:=I.bJ.1 e;simp at C;rw[C]at e;exact a6 h.fr.size (z b e)
def Hx(T:iU l)(S:l.length<=1000000)(U:∀m,m<=n->l4 s l m)(d:Nat)(w:J)(x:Rx)(y:bE):∀(f:Nat),f<=n->∀(acc:List I) (sl:Sl) (h:Nat) (H:J) (st:bE),rX l f (I.ao acc) st=some (x,y)->st.1<l.length->acc.length+f<=1000000->(∀b∈I.a8 acc,w.heap.size<=b)->
  LH (·=d) w H [cQ d s st,.g h,.row aN 4 sl (acc.flatMap I.c)] [cX s l,.trees acc]->
  vc.a2 (ab d) h 0 0 0 ⟨none,0,0⟩ sl H (SA d s w (λr D=>fJ w x r D/\y.1<l.length) y)
 |0,_=>λacc sl h H st z=>by unfold rX at z;cases z
 |f+1,hf=>λacc sl h H st z Q ar aa K=>by
  have av:=I.cr (K.get 2:aK _ _ _ _ _).bd;unfold rX at z;have fin:∀(k:J) (j:bE),j.1<l.length->some (qz 5 (I.ao acc),j)=some (x,y)->LH (·=d) w k [cQ d s j,.g h,.row aN 4 sl (acc.flatMap I.c)] [cX s l,.trees acc]->
    r6 [h] vL #[.i 5,sl.v] k λak al am an w8=>loc [h] w8 λap=>SA d s w (λr D=>fJ w x r D/\y.1<l.length) y (ae (.agg #[.i ak,.int .u8 al,.int .u8 am,an.v])) ap:=by
   intro k j M F q;simp only[eI,eC]at F;obtain⟨rfl,rfl⟩:=F;have au:∀b∈(bF sl acc).fp,w.heap.size<=b:=λb e=>by
    rcases lG.1 e with e|e
    .exact (q.new _ (aD (i:=2) rfl) b (gk e)).resolve_right (yY q 1 rfl (gk e))
    grind
   have L:LH (·=d) w k [cQ d s j,.g h] [cX s l,.trees acc,I.row sl acc,.tree (bF sl acc)]:=q.q0 2 1 0 0 0;refine L.ql (A' 5 sl acc k (L.getD 3)) (λb e=>⟨_,aD (i:=3) rfl,aM.2 e⟩) λt W C A ft=>?_;refine⟨_,_,_,t.s,rfl,A.ah λw4 B=>⟨⟨⟨⟨t,rfl,C,B.getD 4,λb e=>?_⟩,M⟩,B.get 0⟩,B.fr⟩⟩;rcases ft b e with e|e
   .exact a6 L.fr.size e
   grind
  have more:∀(k:J) (j:bE),j.1<l.length->(match om l f j with
   |some (a,st)=>rX l f (I.ao acc++[a]) st
   |none=>none)=some (x,y)->LH (·=d) w k [cQ d s j,.g h,.row aN 4 sl (acc.flatMap I.c)] [cX s l,.trees acc]->
    r6 [h] yz #[.pointer (some (ab d))] k λaf ag ai aj E=>c9 E (.cells #[.i af,.int .u8 ag,.int .u8 ai,aj.v] aN) λZ=>
     ∃(t13:Sl) (N:J),k5 Y (dY #[dm,dm] dm #[sl.v,.slice (some (nb E)) 1 1]) Z=.ok (t13.v) N/\kept [h] Z N/\vc.a2 (ab d) h 0 0 0 ⟨none,0,0⟩ t13 N (SA d s w (λr D=>fJ w x r D/\y.1<l.length) y):=by
   intro k j M F q;cases P:om l f j with
   |none=>grind
   |some aq=>
    obtain⟨a,G⟩:=aq;rw[P]at F;refine q.h8 ((U f (by omega)).seq d j k a G P M q.fR) ?_;rintro _ W ⟨⟨u,rfl,hu,pu,O⟩,ac⟩ _ F3;have A:=F3 (.tree u) pu λb e=>O b (aM.1 e);have A:LH (·=d) w W [cQ d s G,.g h,.row aN 4 sl (acc.flatMap I.c)] [cX s l,.trees acc,.tree u]:=A;refine⟨_,_,_,u.s,rfl,A.h7 2 kI (xs:=acc.flatMap I.c) rfl (λV E B=>?_) (by omega)⟩;have H6:LH (·=d) w E [cQ d s G,.g h,.row aN 4 V ((acc++[u]).flatMap I.c)] [cX s l,.trees (acc++[u])]:=by rw[me];exact(B.q4 1 2).forget _ (by simp)
    refine Hx T S U d w x y f (by omega) (acc++[u]) V h E G ?_ ac (by grind) (sF aa λb e=>a6 q.fr.size (O b e)) H6;rw[jH];have:I.ao [u]=[a]:=by simp[I.ao,hu]
    grind
  refine vc.bw _ _ _ _ _ _ _ _ _ (K.h8 (qi K.fR Q S [38]) ?_);have C:=q9 T Q [38] (by decide);rintro _ k rfl q _;refine⟨_,rfl,?_⟩;cases hq:eK l [38] st with
  |mk ad j=>
   rw[hq]at z q C;cases ad with
   |true=>exact more k j C z q
   |false=>exact fin k j C z q
def UY(Q:iU l)(P:l.length<=1000000)(Z:n<=100000)(D:∀m,m<=n->l4 s l m)(d:Nat)(st:bE)(w:J)(x:Rx)(k:bE)(B:nQ l (n+1) st=some (x,k))(V:st.1<l.length)(H:iB d s l st w):
  ai Y yx #[.pointer (some (ab d))] w (SA d s w (λr U=>fJ w x r U/\k.1<l.length) k):=by
 unfold nQ at B;cases A:om l n st with
 |none=>grind
 |some W=>
  obtain⟨a,q⟩:=W;rw[A]at B;refine vc.aB _ w _ (H.aG λj E h=>?_);have h:LH (·=d) w E [cQ d s st,.g j] [cX s l]:=h;refine h.h8 ((D n (bm _)).seq d st E a q A V h.fR) ?_;rintro _ F ⟨⟨u,rfl,S,T,z⟩,O⟩ _ K;have y:=K (.tree u) T λb e=>z b (aM.1 e);have y:LH (·=d) w F [cQ d s q,.g j] [cX s l,.tree u]:=y;refine⟨_,_,_,u.s,rfl,y.cN (n:=1) (sz:=4) (cs:=u.c) rfl (by decide) λG L=>?_⟩;have M:LH (·=d) w G [cQ d s q,.g j,.row aN 4 ⟨some (ab F.heap.size),1,1⟩ ([u].flatMap I.c)] [cX s l,.trees [u]]:=by
   have N:[u].flatMap I.c=u.c:=by simp
   rw[N];exact(L.uY 1).forget _ (by simp)
  refine Hx Q P D d w x k n (bm _) [u] _ j G q ?_ O (by grind) (λb e=>?_) M
  .have:I.ao [u]=[a]:=by simp[I.ao,S]
   grind
  .obtain ⟨t,C,e⟩:=I.bJ.1 e;simp at C;rw[C]at e;exact a6 h.fr.size (z b e)
def PT(af:iU l)(ad:l.length<=1000000)(S:∀m,m<=n->l4 s l m)(d:Nat)(w:J)(x:Rx)(y:bE):∀(f:Nat),f<=n->∀(acc:List I) (sl:Sl) (h:Nat) (G:J) (st:bE),sM l f (I.ao acc) st=some (x,y)->st.1<l.length->acc.length+f<=1000000->(∀b∈I.a8 acc,w.heap.size<=b)->
  LH (·=d) w G [cQ d s st,.g h,.row aN 4 sl (acc.flatMap I.c)] [cX s l,.trees acc]->
  vf.a2 (ab d) h 0 0 0 ⟨none,0,0⟩ sl G (SA d s w (λr C=>fJ w x r C/\y.1<l.length) y)
 |0,_=>λacc sl h G st z=>by unfold sM at z;cases z
 |f+1,hf=>λacc sl h G st z L au aa H=>by
  have ax:=I.cr (H.get 2:aK _ _ _ _ _).bd;unfold sM at z;have fin:∀(j:J) (k:bE),k.1<l.length->some (qz 3 (I.ao acc),k)=some (x,y)->LH (·=d) w j [cQ d s k,.g h,.row aN 4 sl (acc.flatMap I.c)] [cX s l,.trees acc]->
    r6 [h] vL #[.i 3,sl.v] j λal am an ap w8=>loc [h] w8 λaq=>SA d s w (λr C=>fJ w x r C/\y.1<l.length) y (ae (.agg #[.i al,.int .u8 am,.int .u8 an,ap.v])) aq:=by
   intro j k M E q;simp only[eI,eC]at E;obtain⟨rfl,rfl⟩:=E;have av:∀b∈(bF sl acc).fp,w.heap.size<=b:=λb e=>by
    rcases lG.1 e with e|e
    .exact (q.new _ (aD (i:=2) rfl) b (gk e)).resolve_right (yY q 1 rfl (gk e))
    grind
   have K:LH (·=d) w j [cQ d s k,.g h] [cX s l,.trees acc,I.row sl acc,.tree (bF sl acc)]:=q.q0 2 1 0 0 0;refine K.ql (A' 3 sl acc j (K.getD 3)) (λb e=>⟨_,aD (i:=3) rfl,aM.2 e⟩) λt U ht A ft=>?_;refine⟨_,_,_,t.s,rfl,A.ah λw4 B=>⟨⟨⟨⟨t,rfl,ht,B.getD 4,λb e=>?_⟩,M⟩,B.get 0⟩,B.fr⟩⟩;rcases ft b e with e|e
   .exact a6 K.fr.size e
   grind
  have more:∀(j:J) (k:bE),k.1<l.length->(match mi l f k with
   |some (a,st)=>sM l f (I.ao acc++[a]) st
   |none=>none)=some (x,y)->LH (·=d) w j [cQ d s k,.g h,.row aN 4 sl (acc.flatMap I.c)] [cX s l,.trees acc]->
    r6 [h] yy #[.pointer (some (ab d))] j λag ai aj ak D=>c9 D (.cells #[.i ag,.int .u8 ai,.int .u8 aj,ak.v] aN) λV=>
     ∃(t13:Sl) (N:J),k5 Y (dY #[dm,dm] dm #[sl.v,.slice (some (nb D)) 1 1]) V=.ok (t13.v) N/\kept [h] V N/\vf.a2 (ab d) h 0 0 0 ⟨none,0,0⟩ t13 N (SA d s w (λr C=>fJ w x r C/\y.1<l.length) y):=by
   intro j k M E q;cases P:mi l f k with
   |none=>grind
   |some ar=>
    obtain⟨a,F⟩:=ar;rw[P]at E;refine q.h8 ((S f (by omega)).item d k j a F P M q.fR) ?_;rintro _ U ⟨⟨u,rfl,hu,pu,O⟩,ac⟩ _ W;have A:=W (.tree u) pu λb e=>O b (aM.1 e);have A:LH (·=d) w U [cQ d s F,.g h,.row aN 4 sl (acc.flatMap I.c)] [cX s l,.trees acc,.tree u]:=A;refine⟨_,_,_,u.s,rfl,A.h7 2 kI (xs:=acc.flatMap I.c) rfl (λT D B=>?_) (by omega)⟩;have Z:LH (·=d) w D [cQ d s F,.g h,.row aN 4 T ((acc++[u]).flatMap I.c)] [cX s l,.trees (acc++[u])]:=by rw[me];exact(B.q4 1 2).forget _ (by simp)
    refine PT af ad S d w x y f (by omega) (acc++[u]) T h D F ?_ ac (by grind) (sF aa λb e=>a6 q.fr.size (O b e)) Z;rw[jH];have:I.ao [u]=[a]:=by simp[I.ao,hu]
    grind
  refine vf.bw _ _ _ _ _ _ _ _ _ (H.aw (TX H.fR L) ?_);rintro _ j rfl q;refine⟨_,rfl,?_⟩;cases Q:xw l st with
  |true=>rw[Q]at z;exact more j st L z q
  |false=>rw[Q]at z;exact fin j st L z q
def ZS(Q:iU l)(P:l.length<=1000000)(Z:n<=100000)(D:∀m,m<=n->l4 s l m)(d:Nat)(st:bE)(w:J)(x:Rx)(k:bE)(B:om l (n+1) st=some (x,k))(V:st.1<l.length)(H:iB d s l st w):
  ai Y yz #[.pointer (some (ab d))] w (SA d s w (λr U=>fJ w x r U/\k.1<l.length) k):=by
 unfold om at B;cases A:mi l n st with
 |none=>grind
 |some W=>
  obtain⟨a,q⟩:=W;rw[A]at B;refine vf.aB _ w _ (H.aG λj E h=>?_);have h:LH (·=d) w E [cQ d s st,.g j] [cX s l]:=h;refine h.h8 ((D n (bm _)).item d st E a q A V h.fR) ?_;rintro _ F ⟨⟨u,rfl,S,T,z⟩,O⟩ _ K;have y:=K (.tree u) T λb e=>z b (aM.1 e);have y:LH (·=d) w F [cQ d s q,.g j] [cX s l,.tree u]:=y;refine⟨_,_,_,u.s,rfl,y.cN (n:=1) (sz:=4) (cs:=u.c) rfl (by decide) λG L=>?_⟩;have M:LH (·=d) w G [cQ d s q,.g j,.row aN 4 ⟨some (ab F.heap.size),1,1⟩ ([u].flatMap I.c)] [cX s l,.trees [u]]:=by
   have N:[u].flatMap I.c=u.c:=by simp
   rw[N];exact(L.uY 1).forget _ (by simp)
  refine PT Q P D d w x k n (bm _) [u] _ j G q ?_ O (by grind) (λb e=>?_) M
  .have:I.ao [u]=[a]:=by simp[I.ao,S]
   grind
  .obtain ⟨t,C,e⟩:=I.bJ.1 e;simp at C;rw[C]at e;exact a6 h.fr.size (z b e)
end
def _root_.Go.W.LH.QC{M:Nat->Prop}{w0 w:J}{L D:List En}{U:List Nat}(H:LH M w0 w L D)(i j:Nat){b:Nat}{vs:List aa}{T:aC}{v:aa}{K:J->Prop}(V:L[i]? =some (.c b vs T))(x:∀k,LH M w0 k (L.set i (.c b (vs.set j v) T)) D->K k)(h:j<vs.length:=by simp)(bp:∀b∈U,En.g b∈L:=by simp):aP w ((ab b).add j) v λq=>kept U w q/\K q:=by obtain⟨z,A,B⟩:=H.set (v:=v) i j V h;obtain⟨_,_,_,C⟩:=tC (H.ob i V) j (by simpa using h) v;refine⟨z,A,λd e=>?_,x _ B⟩;refine C.cb d (H.own _ (bp d e)) λy=>nY H V (xC w b vs T) (bp d e) ?_;rw[y];exact qg.2 rfl
def _root_.Go.W.LH.one{M:Nat->Prop}{w0 w:J}{L D:List En}(H:LH M w0 w L D)(i j:Nat){e:aC}{sl:Sl}{u:I}(k:Int)(lo V:UInt8)(x:L[i]? =some (.row e 4 sl u.c):=by rfl)(y:D[j]? =some (.tree u):=by rfl):LH M w0 w (L.eraseIdx i) (D++[.tree (.mk k lo V sl [u])]):=by
 have h:=H.uY j y;have e:[u].flatMap I.c=u.c:=by simp
 have q:=h.q0 i D.length k lo V (s:=sl) (O:=[u]) (by rw[e];exact x) (by simp);exact q.forget _ (λz d=>by
  simp only[aY,au,aO,aR]at d ⊢;rcases d with d|d
  .exact .inl (.inl (.inl d))
  .exact .inr d)
def DA{w:J}{sl:Sl}{u:I}{k:Int}{lo V:UInt8}(h:∀b∈ax sl,w.heap.size<=b)(j:∀b∈u.fp,w.heap.size<=b):∀b∈(I.mk k lo V sl [u]).fp,w.heap.size<=b:=λb d=>by
 unfold I.fp at d;rcases aY.1 d with d|d
 .exact qV h b d
 .obtain ⟨t,e,d⟩:=I.bJ.1 d;simp at e;rw[e]at d;exact j b d
section
variable {s:Sl} {l:List dC} {n:Nat}
def Jp(H:iU l)(G:l.length<=1000000)(e:Nat)(w:J)(x:Rx)(A:bE):∀(f:Nat) (u:I) (h j:Nat) (B:J) (st:bE),wE l f u.rx st=some (x,A)->st.1<l.length->(∀b∈u.fp,w.heap.size<=b)->
  LH (·=e) w B [cQ e s st,.g h,.g j] [cX s l,.tree u]->
  xW.a2 (ab e) h 0 0 0 ⟨none,0,0⟩ j u.k (u.lo.toNat:Int) (u.V.toNat:Int) u.s B (SA e s w (λr S=>fJ w x r S/\A.1<l.length) A)
 |0,u,h,j,B,st,d,_,_,_=>by unfold wE at d;cases d
 |f+1,u,h,j,B,st,d,F,E,C=>by
  unfold wE at d;refine xW.bw _ _ _ _ _ _ _ _ _ _ _ _ _ (C.h8 (qi C.fR F G [42]) ?_);have y:=q9 H F [42] (by decide);rintro _ L rfl z _;refine⟨_,rfl,?_⟩;cases P:eK l [42] st with
  |mk Q K=>
   rw[P]at d z y;cases Q with
   |true=>
    dsimp only at d y;refine a1 rfl ?_;refine z.cN (n:=1) (sz:=4) (cs:=u.c) rfl (by decide) λT q=>q.ah λM N=>?_;have O:LH (·=e) w M [cQ e s K,.g h,.g j] [cX s l,.tree (.mk 7 0 0 ⟨some (ab L.heap.size),1,1⟩ [u])]:=(N.one 3 1 7 0 0).forget _ (by simp);refine Jp H G e w x A f (.mk 7 0 0 ⟨some (ab L.heap.size),1,1⟩ [u]) h j M K d y (DA (λb D=>?_) E) O;simp only[ax,au,aO,aR]at D;rw[D];exact z.fr.size
   |false=>
    dsimp only at d y;simp only[eI,eC]at d;obtain⟨d,rfl⟩:=d;refine aZ rfl ?_;exact z.ah λT q=>⟨⟨⟨⟨u,rfl,d,q.getD 1,E⟩,y⟩,q.get 0⟩,q.fr⟩
def Wr(T:iU l)(S:l.length<=1000000)(U:l4 s l n)(h:Nat)(st:bE)(w:J)(x:Rx)(C:bE)(d:mi l (n+1) st=some (x,C))(V:st.1<l.length)(H:iB h s l st w):
  ai Y yy #[.pointer (some (ab h))] w (SA h s w (λr w'=>fJ w x r w'/\C.1<l.length) C):=by
 unfold mi at d;refine xW.aB _ w _ (H.aG λK w1 A=>?_);have A:LH (·=h) w w1 [cQ h s st,.g K] [cX s l]:=A;refine A.h8 (qi A.fR V S [33]) ?_;have y:=q9 T V [33] (by decide);rintro _ W rfl j _;refine⟨_,rfl,?_⟩;cases hq:eK l [33] st with
 |mk aa D=>
  rw[hq]at d j y;cases aa with
  |true=>
   dsimp only at d y;cases k:mi l n D with
   |none=>rw[k]at d;cases d
   |some Q=>
    obtain⟨a,z⟩:=Q;rw[k]at d;simp only[eI,eC]at d;obtain⟨d,rfl⟩:=d;refine a1 rfl ?_;refine j.h8 (U.item h D W a z k y j.fR) ?_;rintro _ O ⟨⟨u,rfl,M,N,q⟩,L⟩ _ E;have B:=E (.tree u) N λb e=>q b (aM.1 e);refine⟨_,_,_,u.s,rfl,B.cN (n:=1) (sz:=4) (cs:=u.c) rfl (by decide) λw4 F=>F.ah λP G=>?_⟩;have I:LH (·=h) w P [cQ h s z,.g K] [cX s l,.tree (.mk 6 0 0 ⟨some (ab O.heap.size),1,1⟩ [u])]:=(G.one 2 1 6 0 0).forget _ (by simp);refine⟨⟨⟨⟨.mk 6 0 0 ⟨some (ab O.heap.size),1,1⟩ [u],rfl,?_,I.getD 1,DA (λb e=>?_) (λb e=>a6 j.fr.size (q b e))⟩,L⟩,I.get 0⟩,I.fr⟩
    .rw [<-d,<-M];rfl
    .simp only[ax,au,aO,aR]at e;rw[e];exact B.fr.size
  |false=>
   dsimp only at d y;cases k:qd l n D with
   |none=>rw[k]at d;cases d
   |some Q=>
    obtain⟨a,z⟩:=Q;rw[k]at d;refine aZ rfl ?_;refine j.h8 (U.atom h D W a z k y j.fR) ?_;rintro _ O ⟨⟨u,rfl,M,N,q⟩,L⟩ _ E;have B:=E (.tree u) N λb e=>q b (aM.1 e);refine⟨_,_,_,u.s,rfl,B.aG λZ w4 F=>F.ah λP G=>?_⟩;exact Jp T S h w x C n u K Z P z (by rw[M];exact d) L (λb e=>a6 j.fr.size (q b e)) G
def JB(E:iU l)(D:l.length<=1000000)(K:∀m,m<=n->l4 s l m)(h:Nat)(w:J)(m:List Rx)(x:bE):∀(f:Nat),f<=n->∀(acc:List I) (sl:Sl) (z:J) (st:bE),vJ l f (I.ao acc) st=some (m,x)->st.1<l.length->acc.length+f<=1000000->(∀b∈I.a8 acc,w.heap.size<=b)->
  LH (·=h) w z [cQ h s st,.row aN 4 sl (acc.flatMap I.c)] [cX s l,.trees acc]->
  ve.L1 (ab h) sl z (SA h s w (λr w'=>(∃(sl:Sl) (a:List I),r=ae sl.v/\I.ao a=m/\(bF sl a).P w'/\∀b∈(bF sl a).fp,w.heap.size<=b)/\x.1<l.length) x)
 |0,_=>λacc sl z st d=>by unfold vJ at d;cases d
 |f+1,hf=>λacc sl z st d H ad G A=>by
  have af:=I.cr (A.get 1:aK _ _ _ _ _).bd;unfold vJ at d;refine ve.fI _ _ _ _ (A.qk (qi A.fR H D [44]) ?_);have q:=q9 E H [44] (by decide);rintro _ w2 rfl j _;refine⟨_,rfl,?_⟩;cases V:eK l [44] st with
  |mk aa M=>
   rw[V]at d j q;cases aa with
   |true=>
    dsimp only at d q;cases C:kK l f M with
    |none=>rw[C]at d;cases d
    |some ac=>
     obtain⟨a,y⟩:=ac;rw[C]at d;refine a1 rfl ?_;refine j.qk ((K f (by omega)).expr h M w2 a y C q j.fR) ?_;rintro _ N ⟨⟨u,rfl,W,Z,F⟩,U⟩ _ Q;have B:=Q (.tree u) Z λb e=>F b (aM.1 e);have B:LH (·=h) w N [cQ h s y,.row aN 4 sl (acc.flatMap I.c)] [cX s l,.trees acc,.tree u]:=B;refine⟨_,_,_,u.s,rfl,B.uE 1 kI (xs:=acc.flatMap I.c) rfl (λL O S _ _=>?_) (by omega)⟩;have T:LH (·=h) w O [cQ h s y,.row aN 4 L ((acc++[u]).flatMap I.c)] [cX s l,.trees (acc++[u])]:=by rw[me];exact(S.q4 1 2).forget _ (by simp)
     refine JB E D K h w m x f (by omega) (acc++[u]) L O y ?_ U (by simp;omega) (sF G λb e=>a6 j.fr.size (F b e)) T;rw[jH];have:I.ao [u]=[a]:=by simp[I.ao,W]
     rw[this];exact d
   |false=>
    dsimp only at d q;simp only[eI,eC]at d;obtain⟨rfl,rfl⟩:=d;refine aZ rfl ?_;refine j.qk (uN j.fR q D [41]) ?_;rintro _ N rfl k _;refine⟨rfl,⟨⟨⟨sl,acc,rfl,rfl,dw.2 ⟨(k.get 1:aK _ _ _ _ _).bd,k.getD 1⟩,λb e=>?_⟩,vS E q [41] (by decide)⟩,k.get 0⟩,k.fr⟩;rcases lG.1 e with e|e
    .exact (k.new _ (aD (i:=1) rfl) b (gk e)).resolve_right (yY k 0 rfl (gk e))
    .exact G b e
def WI(B:iU l)(A:l.length<=1000000)(hn:n<=100000)(L:∀m,m<=n->l4 s l m)(h:Nat)(st:bE)(w:J)(m:List Rx)(q:bE)(e:qB l (n+1) st=some (m,q))(V:st.1<l.length)(H:iB h s l st w):
  ai Y CT #[.pointer (some (ab h))] w (SA h s w (λr D=>(∃(sl:Sl) (a:List I),r=ae sl.v/\I.ao a=m/\(bF sl a).P D/\∀b∈(bF sl a).fp,w.heap.size<=b)/\q.1<l.length) q):=by
 unfold qB at e;refine ve.ok _ w _ (H.qk (uN H V A [40]) ?_);have K:=vS B V [40] (by decide);rintro _ w1 rfl F _;refine⟨rfl,F.qk (qi F.fR K A [41]) ?_⟩;have x:=q9 B K [41] (by decide);rintro _ E rfl j _;cases Z:eK l [41] (j8 l [40] st)with
 |mk M y=>
  rw[Z]at e j x;have none_:some (([]:List Rx),y)=some (m,q)->ve.S0 E (SA h s w (λr D=>(∃(sl:Sl) (a:List I),r=ae sl.v/\I.ao a=m/\(bF sl a).P D/\∀b∈(bF sl a).fp,w.heap.size<=b)/\q.1<l.length) q):=by
   intro e;simp only[eI,eC]at e;obtain⟨rfl,rfl⟩:=e;refine⟨⟨⟨⟨⟨none,0,0⟩,[],rfl,rfl,dw.2 ⟨bx.nil 4 E,by unfold I.Ps;trivial⟩,λb d=>?_⟩,x⟩,j.get 0⟩,j.fr⟩;rcases lG.1 d with d|d
   .simp [I.row,En.bd]at d
   .unfold I.a8 at d;cases d
  refine⟨_,rfl,y.2,j.ld 0 2,bB (λd=>none_ (by simpa[d]using e)) (λd=>bB (λk=>none_ (by have k:M=true:=k;simpa[k]using e)) (λk=>?_))⟩
  have k:M=false:=k;simp only[d,k,Bool.or_false,cond_false]at e;cases z:kK l n y with
  |none=>rw[z]at e;cases e
  |some aa=>
   obtain⟨a,C⟩:=aa;rw[z]at e;refine j.qk ((L n (bm _)).expr h y E a C z x j.fR) ?_;rintro _ w3 ⟨⟨u,rfl,hu,pu,G⟩,W⟩ _ O;have Q:=O (.tree u) pu λb d=>G b (aM.1 d);refine⟨_,_,_,u.s,rfl,Q.cN (n:=1) (sz:=4) (cs:=u.c) rfl (by decide) λN S=>?_⟩;have T:LH (·=h) w N [cQ h s C,.row aN 4 ⟨some (ab w3.heap.size),1,1⟩ ([u].flatMap I.c)] [cX s l,.trees [u]]:=by
    have U:[u].flatMap I.c=u.c:=by simp
    rw[U];exact(S.uY 1).forget _ (by simp)
   refine JB B A L h w m q n (bm _) [u] _ N C ?_ W (by simp;omega) (λb d=>?_) T
   .have:I.ao [u]=[a]:=by simp[I.ao,hu]
    rw[this];exact e
   .obtain ⟨t,x,d⟩:=I.bJ.1 d;simp at x;rw[x]at d;exact a6 j.fr.size (G b d)
end
def uc:List aa:=[.string (ba (mG 0)),.string (ba (mG 1)),.string (ba (mG 2)),.string (ba (mG 3)),.string (ba (mG 4)),.string (ba (mG 5))]
def RW{k:Nat}(h:k<6):uc[k]? =some (.string (ba (mG k))):=by
 have:k=0\/k=1\/k=2\/k=3\/k=4\/k=5:=by omega
 rcases this with rfl|rfl|rfl|rfl|rfl|rfl<;>rfl
def RT{k:Nat}(h:k<6)(d:k≠2):mG k≠[]/\mG k≠[32]:=by
 have:k=0\/k=1\/k=2\/k=3\/k=4\/k=5:=by omega
 rcases this with rfl|rfl|rfl|rfl|rfl|rfl<;>first |exact absurd rfl d|exact⟨by decide,by decide⟩
def ml(k:Int)(lo V:UInt8):I:=.mk k lo V ⟨none,0,0⟩ []
def qD(k:Int)(lo V:UInt8)(w:J):(ml k lo V).P w:=by unfold ml I.P I.Ps;exact⟨bx.nil 4 w,trivial⟩
def qE{k:Int}{lo V:UInt8}{b:Nat}:¬b∈(ml k lo V).fp:=λd=>by
 unfold ml I.fp I.a8 at d;rcases aY.1 d with d|d
 .simp [I.row,En.bd]at d
 .cases d
section
variable {s:Sl} {l:List dC} {n:Nat}
def SY(W:iU l)(al:l.length<=1000000)(ih:l4 s l n)(j:Nat)(st:bE)(w:J)(x:Rx)(K:bE)(d:qd l (n+1) st=some (x,K))(V:st.1<l.length)(H:iB j s l st w):
  ai Y CR #[.pointer (some (ab j))] w (SA j s w (λr w'=>fJ w x r w'/\K.1<l.length) K):=by
 let R:aH:=SA j s w (λr w'=>fJ w x r w'/\K.1<l.length) K
 have loop:∀(f k:Nat) (q C:Nat) (D:J),f+k=6->k4 l st 6 0=k4 l st f k->(match k4 l st 6 0 with
   |some k=>bif Nat.ble k 2 then some (Rx.mk k 0 0 [],(st.1+1,st.2))else match qB l n (st.1+1,st.2)with
    |some (m,st)=>some (Rx.mk k 0 0 m,st)
    |none=>none
   |none=>let st:=j8 l [40] st
    bif st.2 then some (fq,st)else match kK l n st with
    |some (a,st)=>some (a,j8 l [41] st)
    |none=>none)=some (x,K)->LH (·=j) w D [cQ j s st,.g q,.c C uc fX] [cX s l]->
   nU.cm (ab j) q 0 0 0 ⟨none,0,0⟩ ⟨some (ab C),6,6⟩ (k:Int) D R:=by
  intro f;induction f with
  |zero=>
   intro k q C D hk hw d E;have e0:k4 l st 0 k=none:=by unfold k4;rfl
   rw[hw,e0]at d;dsimp only at d;have ae:=vS W V [40] (by decide);refine nU.dB _ _ _ _ _ _ _ _ _ _ (aZ (aW (by omega)) (E.h8 (uN E.fR V al [40]) ?_));rintro _ y rfl e _;generalize j8 l [40] st=EO at d ae e;refine⟨rfl,EO.2,e.ld 0 2,bB (λh=>?_) (λh=>?_)⟩
   .rw [h]at d;simp only[cond_true,eI,eC]at d;obtain⟨rfl,rfl⟩:=d;exact e.ah λS z=>⟨⟨⟨⟨b3,rfl,rfl,j9 _,λb h=>(j' h).elim⟩,ae⟩,z.get 0⟩,z.fr⟩
   .rw [h]at d;dsimp only[cond_false]at d;cases G:kK l n EO with
    |none=>rw[G]at d;cases d
    |some af=>
     obtain⟨a,aa⟩:=af;rw[G]at d;simp only[eI,eC]at d;obtain⟨rfl,rfl⟩:=d;refine e.h8 (ih.expr j EO y a aa G ae e.fR) ?_;rintro _ S ⟨⟨u,rfl,hu,pu,fu⟩,U⟩ _ F3;have z:=F3 (.tree u) pu λb h=>fu b (aM.1 h);refine⟨_,_,_,u.s,rfl,z.aG λb6 w4 A=>A.ah λw5 B=>?_⟩;have B:LH (·=j) w w5 (cQ j s aa::[.g q,.c C uc fX,.g b6]) [cX s l,.tree u]:=B;refine B.h8 (uN B.fR U al [41]) ?_;rintro _ w6 rfl H6 _;exact⟨rfl,H6.ah λw7 L=>⟨⟨⟨⟨u,rfl,hu,L.getD 1,λb h=>a6 e.fr.size (fu b h)⟩,vS W U [41] (by decide)⟩,L.get 0⟩,L.fr⟩⟩
  |succ f ax=>
   intro k q C D hk hw d E;have next:k4 l st (f+1) k=k4 l st f (k+1)->∀y,LH (·=j) w y [cQ j s st,.g q,.c C uc fX] [cX s l]->nU.bV (ab j) q 0 0 0 ⟨none,0,0⟩ ⟨some (ab C),6,6⟩ (k:Int) y R:=by intro Q y e;show nU.cm _ _ _ _ _ _ _ _ _ _;rw[bb _ (by omega)];exact ax (k+1) q C y (by omega) (by rw[hw,Q]) d e
   refine nU.dB _ _ _ _ _ _ _ _ _ _ (a1 (aS (by omega)) (aL (λO=>E.ah λy e=>next (by
    have:k=2:=by omega
    subst this;conv=>lhs;unfold k4
    rfl) y e) (λO=>⟨by omega,by show(k:Int)<((6:Nat):Int);omega,?_⟩)))
   have O:k≠2:=by omega
   have ag:bO k 2=false:=by
    cases F:bO k 2 with
    |false=>rfl
    |true=>exact absurd (Nat.eq_of_beq_eq_true F) O
   refine ka (E.ah λy e=>?_);rw[bH,Nat.mul_one];refine⟨ba (mG k),e.ld 2 k rfl (RW (by omega)),e.aw (Bg e.fR V) ?_⟩;rintro _ S rfl z;refine⟨_,rfl,z.ld 2 k rfl (RW (by omega)),?_⟩;rw[r0];refine dN (λZ=>next (by
    conv=>lhs;unfold k4
    rw[ag,Z];rfl) S z) (λZ=>?_)
   have am:=eq_of_beq Z;have au:k4 l st 6 0=some k:=by
    rw[hw];conv=>lhs;unfold k4
    rw[ag,Z];rfl
   rw[au]at d;dsimp only at d;have T:st.1+1<l.length:=by
    refine JD W V (by rw[am];exact(RT (by omega) O).1) ?_;cases h:st.2 with
    |false=>rfl
    |true=>
     exfalso;refine(RT (k:=k) (by omega) O).2 ?_;rw[<-am];unfold e2;rw[h];rfl
   refine⟨(st.1:Int),z.ld 0 1,?_⟩;rw[bb _ (by omega)];refine z.QC 0 1 rfl λw4 A=>?_;have A:LH (·=j) w w4 [cQ j s (st.1+1,st.2),.g q,.c C uc fX] [cX s l]:=A;refine A.aG λb5 w5 B=>aF (λar=>?_) (λar=>?_)
   .have ad:Nat.ble k 2=false:=by
     cases F:Nat.ble k 2 with
     |false=>rfl
     |true=>have:=Nat.le_of_ble_eq_true F;omega
    rw[ad]at d;dsimp only[cond_false]at d;cases G:qB l n (st.1+1,st.2)with
    |none=>rw[G]at d;cases d
    |some af=>
     obtain⟨m,aa⟩:=af;rw[G]at d;simp only[eI,eC]at d;obtain⟨Q,rfl⟩:=d;refine B.ah λw9 N=>?_;have N:LH (·=j) w w9 (cQ j s (st.1+1,st.2)::[.g q,.c C uc fX,.g b5]) [cX s l]:=N;refine N.h8 (ih.kids j (st.1+1,st.2) w9 m aa G T N.fR) ?_;rintro _ az ⟨⟨sl,a,rfl,ha,pa,fa⟩,U⟩ _ an;have ao:=an (.tree (bF sl a)) pa λb h=>fa b (aM.1 h);refine⟨sl,rfl,ao.ah λaA ap=>ap.ah λay ac=>?_⟩;refine⟨⟨⟨⟨.mk k 0 0 sl a,rfl,?_,?_,λb h=>?_⟩,U⟩,ac.get 0⟩,ac.fr⟩
     .rw [<-Q,<-ha];rfl
     .have:=dw.1 (show(bF sl a).P ay from ac.getD 1);unfold I.P;exact this
     .refine a6 N.fr.size (fa b ?_);unfold I.fp at h;unfold bF I.fp;exact h
   .have ad:Nat.ble k 2=true:=Nat.ble_eq_true_of_le (by omega);rw[ad]at d;simp only[cond_true,eI,eC]at d;obtain⟨Q,rfl⟩:=d;refine B.ah λw6 H6=>H6.ah λw7 L=>⟨⟨⟨⟨ml k 0 0,rfl,?_,qD _ _ _ _,λb h=>(qE h).elim⟩,T⟩,L.get 0⟩,L.fr⟩;rw[<-Q];rfl
 have s0:∀(q:Nat) (D:J),(!st.2&&bO (fw l st.1).k 2)=false->LH (·=j) w D [cQ j s st,.g q] [cX s l]->nU.bn (ab j) q 0 0 0 ⟨none,0,0⟩ D R:=by
  intro q D hq E;unfold qd at d;rw[hq]at d;dsimp only[cond_false]at d;try dsimp only[nU.bn,av]
  refine E.nw λy _ e=>?_;exact loop 6 0 q D.heap.size y (by omega) rfl d e
 refine nU.aB _ w _ (H.aG λq D E=>E.ah λy e=>⟨st.2,e.ld 0 2,dN (λh=>?_) (λh=>s0 q y (by rw[h];rfl) e)⟩);have hn:=wM (e.getD 0:bx _ _ _ _);refine⟨s,e.ld 0 0,(st.1:Int),e.ld 0 1,by omega,by omega,wN (e.getD 0) V λp hp c=>⟨((fw l st.1).k:Int),?_,aL (λM=>?_) (λM=>s0 q y (by
  have:bO (fw l st.1).k 2=false:=by
   cases F:bO (fw l st.1).k 2 with
   |false=>rfl
   |true=>have:=Nat.eq_of_beq_eq_true F;omega
  rw[this];simp) e)⟩⟩
 .rw [bH,iW];exact c.c2
 have M:(fw l st.1).k=2:=by omega
 have T:st.1+1<l.length:=by
  rcases Nat.lt_or_ge (st.1+1) l.length with F|F
  .exact F
  .exfalso;have aq:st.1=l.length - 1:=by omega
   rw[aq,W.2.2]at M;cases M
 refine⟨(st.1:Int),e.ld 0 1,?_⟩;rw[bb _ (by omega)];refine e.QC 0 1 rfl λS z=>?_;have z:LH (·=j) w S [cQ j s (st.1+1,st.2),.g q] [cX s l]:=z;refine z.ah λw4 A=>⟨s,A.ld 0 0,((st.1+1:Nat):Int),A.ld 0 1,?_⟩;have em:aj .i64 (((st.1+1:Nat):Int) - 1)=(st.1:Int):=by rw[aQ _ (by omega)];omega
 rw[em];unfold qd at d;rw[h,M]at d;have d:some (Rx.mk 2 (fw l st.1).lo (fw l st.1).V [],(st.1+1,false))=some (x,K):=d;simp only[eI,eC]at d;obtain⟨d,ak⟩:=d;refine⟨by omega,by omega,wN (A.getD 0) V λp hp c=>⟨2,(fw l st.1).lo.toNat,(fw l st.1).V.toNat,⟨none,0,0⟩,?_,?_,?_,?_,A.ah λw5 B=>⟨⟨⟨⟨ml 2 (fw l st.1).lo (fw l st.1).V,rfl,d,qD _ _ _ _,λb h=>(qE h).elim⟩,by rw[<-ak];exact T⟩,?_⟩,B.fr⟩⟩⟩
 .rw [bH,iW,c.c2,M];rfl
 .rw [bH,add_add];exact c.c3
 .rw [bH,add_add];exact c.c4
 .rw [bH,add_add];exact c.c5
 .have:=B.get 0;rw[<-ak,<-h];exact this
def NB(y:iU l)(x:l.length<=1000000):∀n:Nat,n<=100000->∀m,m<=n->l4 s l m
 |0,_=>λm B=>by
  have:m=0:=by omega
  subst this;exact⟨λe st j k h d=>(by unfold kK at d;cases d),λe st j k h d=>(by unfold nQ at d;cases d),λe st j k h d=>(by unfold om at d;cases d),λe st j k h d=>(by unfold mi at d;cases d),λe st j k h d=>(by unfold qd at d;cases d),λe st j k h d=>(by unfold qB at d;cases d)⟩
 |n+1,C=>λm B=>by
  have z:=NB y x n (by omega);rcases Nat.lt_or_ge m (n+1)with A|A
  .exact z m (by omega)
  have:m=n+1:=by omega
  subst this;exact⟨λe st j k h d w q=>Vs y x (by omega) z e st j k h d w q,λe st j k h d w q=>UY y x (by omega) z e st j k h d w q,λe st j k h d w q=>ZS y x (by omega) z e st j k h d w q,λe st j k h d w q=>Wr y x (z n (bm _)) e st j k h d w q,λe st j k h d w q=>SY y x (z n (bm _)) e st j k h d w q,λe st j k h d w q=>WI y x (by omega) z e st j k h d w q⟩
end
def _root_.Go.W.LH.perm{M:Nat->Prop}{w0 w:J}{L j D:List En}(H:LH M w0 w L D)(h:L.Perm j):LH M w0 w j D:=
 ⟨H.fr,λd e=>H.own d (h.mem_iff.2 e),H.rd,λd e=>H.new d (h.mem_iff.2 e),(h.flatMap_right (·.fp)).nodup_iff.1 H.nd,λd e b q k x=>H.dj d e b q k (h.mem_iff.2 x)⟩
def E9(s:BL):∀(f i:Nat),s.length<f+i->∃init,ox s f i=init++[⟨[],s.length,0,0,0⟩]/\init.length+i<=max i s.length
 |0,i,h=>⟨[],rfl,by simp;omega⟩
 |f+1,i,h=>by
  unfold ox;split
  .exact ⟨[],rfl,by simp;omega⟩
  .split
   .obtain ⟨init,d,j⟩:=E9 s f (i+1) (by omega);exact⟨init,d,by omega⟩
   .simp only;have q:=Ox s i;have w:=PC s i s.length 1 (by omega);generalize jG s i=g at q;generalize nr s i s.length 1=e at w;have k:1<=(if g.n=0 then e else g.n)/\i+(if g.n=0 then e else g.n)<=s.length:=by split<;>omega
    generalize(if g.n=0 then e else g.n)=n at k;obtain⟨init,d,j⟩:=E9 s f (i+n) (by omega);exact⟨_::init,by rw[d];rfl,by simp only[List.length_cons];omega⟩
def aa2(s:BL):iU (mC s)/\(mC s).length<=s.length+1:=by
 obtain⟨init,j,k⟩:=E9 s (s.length+1) 0 (by omega);have h:mC s=init++[⟨[],s.length,0,0,0⟩]:=j;rw[h];have d:(init++[(⟨[],s.length,0,0,0⟩:dC)]).length=init.length+1:=by simp
 have e:fw (init++[(⟨[],s.length,0,0,0⟩:dC)]) init.length=⟨[],s.length,0,0,0⟩:=by unfold fw;simp[List.getD_eq_getElem?_getD]
 refine⟨⟨by omega,?_,?_⟩,by omega⟩
 .rw [d,Nat.add_sub_cancel,e]
 .rw [d,Nat.add_sub_cancel,e]
def Sx(w:J)(x:Rx)(a:Nat)(e:Int)(r:ch)(w':J):Prop:=∃t:I,r=ae (.tuple #[t.v,.i (a:Int),.i e])/\t.rx=x/\t.P w'/\∀b∈t.fp,w.heap.size<=b
def Um(s:ByteArray)(hs:s.size<=100000)(x:Rx)(a:Nat)(e:Int)(d:s4 (bl s)=some (x,a,e))(w:J):ai Y Ky #[.string s] w λr w'=>Sx w x a e r w'/\ag w w':=by
 have hl:(bl s).length=s.size:=dH s;obtain⟨C,hlen⟩:=aa2 (bl s);unfold s4 at d;refine H3.aB _ w _ ((bI [] (by simp)).aG λS w1 O=>aF (λh=>O.ah λw2 H2=>?_) (λh=>O.iZ (TV s hs w1) ?_))
 .rw [aq (by omega)]at d;simp only[eI,eC]at d;obtain⟨rfl,rfl,rfl⟩:=d;exact⟨⟨b3,rfl,rfl,j9 _,λb h=>(j' h).elim⟩,H2.fr⟩
 rw[af (by omega)]at d;generalize mC (bl s)=l at d C hlen;dsimp only at d;rintro _ N ⟨j,rfl,ho,hf⟩ _ F6;have H6:=F6.rd (cX j l) ho.bd (qV hf);cases H:kK l 1000 (0,false)with
 |none=>rw[H]at d;cases d
 |some al=>
  obtain⟨Z,M⟩:=al;rw[H]at d;dsimp only at d;refine⟨j,rfl,H6.nw λw7 _ y=>?_⟩;have y:LH F0 w w7 (cQ N.heap.size j (0,false)::[.g S]) [cX j l]:=y.perm (List.Perm.swap _ _ _);refine y.h8 ((NB C (by omega) 1000 (by omega) 1000 (bm _)).expr N.heap.size (0,false) w7 Z M H C.1 y.fR) ?_;rintro _ w8 ⟨⟨u,rfl,W,pu,T⟩,U⟩ _ F8;have H8:=F8 (.tree u) pu λb h=>T b (aM.1 h);refine⟨_,_,_,u.s,rfl,H8.aG λb6 w9 H9=>H9.ah λae z=>?_⟩;have z:LH F0 w ae (cQ N.heap.size j M::[.g S,.g b6]) [cX j l,.tree u]:=z;refine z.h8 (uN z.fR U (by omega) []) ?_;have G:=vS C U [] (by decide);rintro _ aa rfl k _;generalize j8 l [] M=q5 at d G k;refine⟨rfl,q5.2,k.ld 0 2,bB (λE=>k.ah λan q=>?_) (λE=>?_)⟩
  .rw [aq E]at d;simp only[eI,eC]at d;obtain⟨rfl,rfl,rfl⟩:=d;have hn:=wM (q.getD 0:bx _ _ _ _);refine⟨j,q.ld 0 0,(q5.1:Int),q.ld 0 1,by omega,by omega,wN (q.getD 0) G λp hp c=>⟨((fw l q5.1).at_:Int),?_,q.ah λaj A=>⟨?_,A.ld 0 1,A.ld 0 0,⟨b3,rfl,rfl,j9 _,λb h=>(j' h).elim⟩,A.fr⟩⟩⟩
   .rw [bH];exact c.c1
   .rw [bH];have:=wN (A.getD 0) G (K:=λD=>∃L,j.a=some L/\D=L/\F' aj L q5.1 (fw l q5.1)) (λD V F=>⟨D,V,rfl,F⟩);rw[hp]at this;obtain⟨D,V,rfl,F⟩:=this;exact F.c1
  .rw [af (by rw[E];simp)]at d;have ad:u.P aa:=k.getD 1;have am:Z.sz=u.sz:=by rw[<-W,I.eB]
   by_cases ac:u.sz<=1000000
   .rw [af (by omega)]at d;refine k.aw (A5 u aa ac ad) ?_;rintro _ ao rfl Q;refine⟨_,rfl,aF (λab=>Q.ah λak B=>?_) (λab=>Q.ah λak B=>?_)⟩
    .rw [aq (by omega)]at d;simp only[eI,eC]at d;obtain⟨rfl,rfl,rfl⟩:=d;exact⟨⟨b3,rfl,rfl,j9 _,λb h=>(j' h).elim⟩,B.fr⟩
    .rw [af (by omega)]at d;simp only[eI,eC]at d;obtain⟨rfl,rfl,rfl⟩:=d;exact⟨⟨u,rfl,W,B.getD 1,λb h=>a6 y.fr.size (T b h)⟩,B.fr⟩
   .rw [aq (by omega)]at d;cases d
def dG(a b:BL):ba a++ba b=ba (a++b):=by apply ByteArray.ext;rw[ByteArray.data_append];simp[ba]
def r2{w:J}{b n:Nat}{cs:List aa}{T:aC}(h:w.heap[b]? =some (.cells cs.toArray T (0,0)))(e:n=cs.length):Rd w ⟨some (ab b),n,n⟩ cs:=
 v' (s:=⟨some (ab b),n,n⟩) e (bm _) (λh=>by cases h) λi v d=>⟨ab b,rfl,cellAt (p:=ab b) h rfl (by simpa using d)⟩
def GY(c:UInt8)(w:J):ai Y KG #[.int .u8 (c.toNat:Int)] w λr e=>r=ae (.bool (ey c))/\ag w e:=by
 refine H8.ok _ w _ (aF (λd=>⟨?_,Fr.refl _ _⟩) (λd=>⟨?_,Fr.refl _ _⟩))
 .unfold ey;rw[aS (show 97<=c.toNat by omega),Bool.true_and,show ak ((c.toNat:Int)<=122)=ak (c.toNat<=122)from decide_eq_decide.2 (by omega)]
 .unfold ey;rw[aW (show ¬97<=c.toNat by omega),Bool.false_and]
def Bc(c:UInt8)(w:J):ai Y Ku #[.int .u8 (c.toNat:Int)] w λr F=>r=ae (.string (ba (dD c)))/\ag w F:=by
 have K:=c.toNat_lt;have z:LH F0 w w [] []:=bI [] (by simp);refine HY.ok _ w _ (z.call (GZ c w) ?_);rintro _ y rfl x;refine⟨_,rfl,bB (λk=>?_) (λk=>?_)⟩
 .refine x.oa (λq _ d h=>?_);have I:((39:UInt8).toNat:Int)=39:=rfl;have e:Bytes q ⟨some (ab y.heap.size),3,3⟩ [39,c,39]:=r2 (T:=cD) h rfl;have j:=ma e;refine⟨ba [39,c,39],j,?_,d.fr⟩;unfold dD;rw[aq k]
 .have C:aj .i64 (c.toNat:Int)=(c.toNat:Int):=aQ _ (by omega);have D:aj .i64 (bL (c.toNat:Int) 16)=((c.toNat / 16:Nat):Int):=by rw[Int.tdiv_eq_ediv_of_nonneg (by omega),aQ _ (by omega)];omega
  have E:ck (c.toNat:Int) 16=((c.toNat%16:Nat):Int):=by rw[Int.tmod_eq_emod_of_nonneg (by omega)];omega
  rw[C,D,E];refine x.call (Bf (c.toNat / 16) (by omega) y) ?_;rintro _ q rfl d;refine⟨_,rfl,d.call (Bf (c.toNat%16) (by omega) q) ?_⟩;rintro _ G rfl A;refine⟨_,rfl,A.oa (λH _ B h=>?_)⟩;have e:Bytes H ⟨some (ab G.heap.size),4,4⟩ [92,120,ib (c.toNat / 16),ib (c.toNat%16)]:=r2 (T:=cD) h rfl;have j:=ma e;refine⟨ba [92,120,ib (c.toNat / 16),ib (c.toNat%16)],j,?_,B.fr⟩;unfold dD;rw[af (by rw[k];simp)]
abbrev lJ(s:Sl)(l:List Nd)(d:Nd):List En:=[.gr s l,cY d]
def vE{w:J}{s:Sl}{l:List Nd}{d:Nd}(h:GP w s l)(j:d.P w):LH F0 w w [] (lJ s l d):=bI _ (by
 intro k e;simp only[au,aO,aR]at e;rcases e with rfl|rfl
 .exact bR.2 h
 .exact j)
def TF{w:J}{s:Sl}{l:List Int}(h:bo w s l)(B:l.length<=1000000000000)(n:Int):ai Y Km #[s.v,.i n] w λr k=>r=ae (.bool (ak (n∈l)))/\ag w k:=by
 have C:=bo.len h;have loop:∀(d i:Nat),i+d=l.length->(n∈l↔n∈l.drop i)->u6.L0 s n (i:Int) w λr k=>r=ae (.bool (ak (n∈l)))/\ag w k:=by
  intro d;induction d with
  |zero=>
   intro i z e;rw[cU (by omega)]at e;exact u6.bC _ _ _ _ _ (aZ (aW (by omega)) ⟨by rw[aW (λh=>by have:=e.1 h;simp at this)],Fr.refl _ _⟩)
  |succ d A=>
   intro i z e;have q:l[i]? =some (l[i]'(by omega)):=a4 (by omega);rw[dz (by omega:i<l.length),au]at e;generalize l[i]'(by omega)=x at q e;refine u6.bC _ _ _ _ _ (a1 (aS (by omega)) ⟨by omega,by omega,h.cell q (by omega) λp D y=>⟨x,y,aL (λj=>⟨?_,Fr.refl _ _⟩) (λj=>?_)⟩⟩)
   .rw [aS (e.2 (.inl j.symm))]
   .rw [bb _ (by omega)];exact A (i+1) (by omega) (e.trans ⟨λh=>h.resolve_left (λh=>j h.symm),.inr⟩)
 exact u6.ok _ _ w _ (loop l.length 0 (by omega) (by simp))
def GN{w:J}{s:Sl}{l:List Int}(h:bo w s l)(d:l.length<=1000000000000)(n:Int):ai Y K6 #[s.v,.i n] w λr e=>r=ae (.bool (ak (n∈l)))/\ag w e:=by refine Il.ok _ _ w _ ((TF h d n).mono ?_);rintro _ j ⟨rfl,f⟩;exact⟨_,rfl,rfl,f⟩
def AY{w:J}{b n:Nat}{l:List Int}{T:aC}(h:w.heap[b]? =some (.cells (l.map a').toArray T (0,0)))(d:n=l.length):bo w ⟨some (ab b),n,n⟩ l:=
 r2 h (by simpa using d)
def e5:Nat:=1000000000
def IG(op:Int):(ak (op∈[(21:Int),22,23,28])=o0 op)/\(ak (op∈[(0:Int),2,33])=o1 op):=by
 constructor
 .unfold o0;by_cases d:op=21
  .subst d;rfl
  by_cases e:op=22
  .subst e;rfl
  by_cases h:op=23
  .subst h;rfl
  by_cases j:op=28
  .subst j;rfl
  simp[d,e,h,j]
 .unfold o1;by_cases d:op=0
  .subst d;rfl
  by_cases e:op=2
  .subst e;rfl
  by_cases h:op=33
  .subst h;rfl
  simp[d,e,h]
def Vj(t:ByteArray):(t.toList==(bG #[]).toList)=ak (t=ba []):=zH _ _
def Yn{n:Nx}{A B:Prop}(h:bh (i' n) B A):∀a b:Bool,a=o0 n.op->b=o1 n.op->
  let e:=bh (!b) (bh (!(n.tx.toList==(bG #[]).toList)) A B) B
  let j:=bh (n.op !=1) (bh (n.u !=0) A e) e
  let d:=bh (n.op !=21) (bh (n.m !=0) A j) j
  bh (!a) (bh (n.n !=0) A d) d:=by rintro a b rfl rfl;dsimp only;rw[Vj];unfold i' at h;have k:(n.op !=1)= !(n.op==1):=rfl;have q:(n.op !=21)= !(n.op==21):=rfl;have w:(n.n !=0)= !(n.n==0):=rfl;have x:(n.m !=0)= !(n.m==0):=rfl;have y:(n.u !=0)= !(n.u==0):=rfl;rw[k,q,w,x,y];generalize(n.op==1)=p1 at *;generalize(n.op==21)=p2 at *;generalize(n.n==0)=p3 at *;generalize(n.m==0)=p4 at *;generalize(n.u==0)=p5 at *;generalize ak (n.tx=ba [])=p6 at *;generalize o0 n.op=p7 at *;generalize o1 n.op=p8 at *;cases p1<;>cases p2<;>cases p3<;>cases p4<;>cases p5<;>cases p6<;>cases p7<;>cases p8<;>exact h
def m5(g:List Nx)(n:Nx):Int:=if(cS n.op==(n.kids.length:Int)&&n.kids.all (fk g)&&i' n)=true then 0 else 1
def T3{w:J}{s:Sl}{l:List Nd}{d:Nd}(h:GP w s l)(G:d.P w)(hk:d.x.kids.length<=e5):ai Y K4 #[s.v,d.v] w λr D=>r=ae (.i (m5 (xs l) d.x))/\ag w D:=by
 have hn:=ih h;have I:d.ks.n=d.x.kids.length:=bo.len G;have M:(xs l).length=l.length:=by simp[xs]
 unfold e5 at hk;have loop:∀(m i:Nat) (j:Nat) (e:J),i+m=d.x.kids.length->(cS d.x.op==(d.x.kids.length:Int))=true->(d.x.kids.all (fk (xs l))=(d.x.kids.drop i).all (fk (xs l)))->LH F0 w e [.g j] (lJ s l d)->
   vk.a2 s j d.x.op d.ks d.x.n d.x.m d.x.u d.x.tx d.x.st.k d.x.st.n d.x.st.x (i:Int) e λr D=>r=ae (.i (m5 (xs l) d.x))/\ag w D:=by
  intro m;induction m with
  |zero=>
   intro i j e hi C q y;rw[cU (by omega)]at q;refine vk.bw _ _ _ _ _ _ _ _ _ _ _ _ _ _ (aZ (aW (by omega)) (y.nw λN _ z=>z.aw (GN (l:=[21,22,23,28]) (AY (n:=4) (z.ob 1) rfl) (by decide) d.x.op) ?_));rintro _ O rfl A;refine⟨_,rfl,A.nw λw4 _ E=>E.aw (GN (l:=[0,2,33]) (AY (n:=3) (E.ob 2) rfl) (by decide) d.x.op) ?_⟩;rintro _ w5 rfl F;refine⟨_,rfl,?_⟩;have H:∀b:Bool,i' d.x=b->m5 (xs l) d.x=if b=true then 0 else 1:=λb U=>by unfold m5;rw[C,q,U];rfl
   exact Yn (n:=d.x) (bB (λh=>⟨by rw[H _ h];rfl,F.fr⟩) (λh=>⟨by rw[H _ h];rfl,F.fr⟩)) _ _ (IG d.x.op).1 (IG d.x.op).2
  |succ m aa=>
   intro i j e hi C q y;have B:d.x.kids[i]? =some (d.x.kids[i]'(by omega)):=a4 (by omega);rw[dz (by omega:i<d.x.kids.length),List.all_cons]at q;generalize d.x.kids[i]'(by omega)=x at B q;have bad:fk (xs l) x=false->(Ending.returned (.i 1)=ae (.i (m5 (xs l) d.x))/\ag w e):=λhx=>⟨by unfold m5;rw[q,hx];simp,y.fr⟩;have K:bo e d.ks d.x.kids:=y.getD 1;refine vk.bw _ _ _ _ _ _ _ _ _ _ _ _ _ _ (a1 (aS (by omega)) ⟨by omega,by omega,K.cell B (by omega) λp hp V=>⟨x,V,aF (λS=>bad ?_) (λS=>⟨by omega,by omega,K.cell B (by omega) λp' ab W=>⟨x,W,aF (λT=>bad ?_) (λT=>?_)⟩⟩)⟩⟩)
   .unfold fk;rw[aW (by omega)];rfl
   .unfold fk;rw[aW (show ¬x<((xs l).length:Int)by rw[M];omega)];simp
   .rw [bb _ (by omega)];refine aa (i+1) j e (by omega) C ?_ y;rw[q];unfold fk;rw[aS (show 0<=x by omega),aS (show x<((xs l).length:Int)by rw[M];omega)];rfl
 refine vk.aB _ _ _ _ _ _ _ _ _ _ w _ ((vE h G).aG λj e Q=>Q.ah λN z=>z.aw (Gx d.x.op N) ?_);rintro _ O rfl A;refine⟨_,rfl,di (λL=>⟨?_,A.fr⟩) (λZ=>?_)⟩
 .unfold m5;rw[beq_eq_false_iff_ne.2 (by rw[I]at L;exact L)];rfl
 .exact loop d.x.kids.length 0 j O (by omega) (by rw[Z,I];simp) (by simp) A
def xn(g:List Nx):Prop:=∀d∈g,d.op=0->∀e∈g,e.op=0->d.tx=e.tx->d.st=e.st
def tR(n d:Nx):Bool:=ak (d.op=0/\d.tx=n.tx/\d.st≠n.st)
def Fu{t:ByteArray}{s:bj}:∀{g:List Nx},jO g t=some s->∃e∈g,e.op=0/\e.tx=t/\e.st=s
 |e::g,d=>by
  unfold jO at d;split at d
  .rename_i h;exact⟨e,by simp,h.1,h.2,Option.some.inj d⟩
  .obtain ⟨j,k,d⟩:=Fu d;exact⟨j,e8 _ k,d⟩
def Rz{t:ByteArray}:∀{g:List Nx},jO g t=none->∀d∈g,d.op=0->d.tx≠t
 |a::g,e,d,h,j,k=>by
  unfold jO at e;split at e
  .cases e
  .rename_i q;rcases au.1 h with rfl|h
   .exact q ⟨j,k⟩
   .exact Rz e d h j k
def Ro{g:List Nx}(A:xn g)(n:Nx):q' g n=g.any (tR n):=by
 unfold q';cases q:jO g n.tx with
 |none=>
  symm;rw[List.any_eq_false];intro e h d;have d:=eH d;exact Rz q e h d.1 d.2.1
 |some s=>
  obtain⟨e,h,w,x,y⟩:=Fu q;by_cases j:s=n.st
  .simp only[j,decide_true,Bool.not_true];symm;rw[List.any_eq_false];intro k z d;have d:=eH d;exact d.2.2 ((A k z d.1 e h w (d.2.1.trans x.symm)).trans (y.trans j))
  .simp only[j,decide_false,Bool.not_false];symm;rw[List.any_eq_true];exact⟨e,h,aS ⟨w,x,λk=>j (y.symm.trans k)⟩⟩
def YJ(n:Int)(h:0<=n)(j:n<64):aj .u64 (1 *2^(min (aV n) (IntKind.bits .u64)))=((2^n.toNat:Nat):Int):=by
 have d:min (aV n) (IntKind.bits .u64)=n.toNat:=by show min n.toNat 64=_;omega
 have e:(2:Nat)^n.toNat<=2^63:=Nat.pow_le_pow_right (by omega) (by omega);rw[d,Int.one_mul,show((2:Int)^n.toNat)=((2^n.toNat:Nat):Int)from by rw[Int.natCast_pow];rfl];generalize(2:Nat)^n.toNat=m at e;exact IntWalk.u64_in _ (by omega)
abbrev gn(x:bj×Int):ch:=ae (.tuple #[dO x.1,.i x.2])
def tY{s:bj}(h:bU s=true)(d:s.k=0):1<=s.n/\s.n<=64/\s.x=0:=by unfold bU at h;simp[d]at h;omega
def lV{s:bj}(h:bU s=true):0<=s.n/\s.n<=64/\0<=s.x/\s.x<=16/\0<=s.k/\s.k<=3:=by unfold bU at h;simp at h;omega
def Ud{w:J}{s:Sl}{l:List Nd}{d:Nd}(h:GP w s l)(hd:d.P w)(hl:l.length<=e5)(h0:0<=d.x.op)(W:d.x.op<=3)(hv:xn (xs l)):ai Y K7 #[s.v,d.v] w λr q=>r=gn (cC (xs l) d.x)/\ag w q:=by
 have hn:=ih h;have ar:(xs l).length=l.length:=by simp[xs]
 unfold e5 at hl;have e0:d.x.op=0\/d.x.op=1\/d.x.op=2\/d.x.op=3:=by omega
 refine ju.aB _ _ _ _ _ _ _ _ _ _ w _ ((vE h hd).aG λB w1 H1=>H1.aG λz w2 U=>aL (λV=>?_) (λV=>?_))
 .refine aF (λhs=>U.ah λM H=>⟨?_,H.fr⟩) (λhs=>U.aw (nM _ w2) ?_)
  .unfold cC;rw[aq V,aq (by omega)];rfl
  .rintro _ M rfl H;refine⟨_,_,_,rfl,H.ah λZ N=>⟨?_,N.fr⟩⟩;unfold cC;rw[aq V,af (by omega)]
 have F:cC (xs l) d.x=if d.x.op=0/\fE (bl d.x.tx)=false then(cZ,6)else
   if bU d.x.st=false then(cZ,9)else
   if d.x.op=1/\d.x.st.k≠0\/d.x.op=3/\ec d.x.st=false then(cZ,9)else
   if d.x.op=1/\ll d.x.u d.x.st.n=true then(cZ,5)else
   if d.x.op=0/\(xs l).any (tR d.x)=true then(cZ,8)else(d.x.st,0):=by unfold cC;rw[af V,Ro hv]
 have S0:∀(nm:Bool) (M:J),nm=(!decide (d.x.op=0)||fE (bl d.x.tx))->LH F0 w M [.g B,.g z] (lJ s l d)->ju.bn s B d.x.op d.ks d.x.n d.x.m d.x.u d.x.tx d.x.st.k d.x.st.n d.x.st.x z 0 0 0 nm M λr q=>r=gn (cC (xs l) d.x)/\ag w q:=by
  intro nm M O H;refine dN (λK=>H.ah λZ N=>⟨?_,N.fr⟩) (λE=>?_)
  .rw [K]at O;have O:=O.symm;simp only[Bool.or_eq_false_iff,Bool.not_eq_false',decide_eq_true_eq]at O;rw[F,aq O];rfl
  have al:¬(d.x.op=0/\fE (bl d.x.tx)=false):=λhc=>by rw[E,hc.2,aS hc.1]at O;simp at O
  rw[af al]at F;refine H.aw (Y7 d.x.st M) ?_;rintro _ Z rfl N;refine⟨_,rfl,EC (λK=>N.ah λj A=>⟨?_,A.fr⟩) (λE=>?_)⟩
  .rw [F,aq K];unfold gW;rw[K];rfl
  rw[af (by rw[E];simp)]at F;have loop:∀(m i:Nat) (j:J),i+m=l.length->cC (xs l) d.x=(if d.x.op=0/\((xs l).drop i).any (tR d.x)=true then(cZ,8)else(d.x.st,0))->LH F0 w j [.g B,.g z] (lJ s l d)->
    ju.kA s B d.x.op d.ks d.x.n d.x.m d.x.u d.x.tx d.x.st.k d.x.st.n d.x.st.x z 0 0 0 (i:Int) j λr q=>r=gn (cC (xs l) d.x)/\ag w q:=by
   intro m;induction m with
   |zero=>
    intro i j hi G A;rw[cU (by omega)]at G;refine ju.nI _ _ _ _ _ _ _ _ _ _ _ _ _ _ _ _ _ _ (aZ (aW (by omega)) (A.ah λC y=>⟨?_,y.fr⟩));rw[G,af (by simp)]
   |succ m an=>
    intro i j hi G A;have T:l[i]? =some (l[i]'(by omega)):=a4 (by omega);have hx:(xs l).drop i=(l[i]'(by omega)).x::(xs l).drop (i+1):=by rw[dz (by omega:i<(xs l).length)];simp[xs]
    rw[hx,List.any_cons]at G;generalize l[i]'(by omega)=e at T G;have next:∀C,LH F0 w C [.g B,.g z] (lJ s l d)->(d.x.op=0->tR d.x e.x=false)->ju.iV s B d.x.op d.ks d.x.n d.x.m d.x.u d.x.tx d.x.st.k d.x.st.n d.x.st.x z 0 0 0 (i:Int) C λr q=>r=gn (cC (xs l) d.x)/\ag w q:=by
     intro C y E;show ju.kA s B d.x.op d.ks d.x.n d.x.m d.x.u d.x.tx d.x.st.k d.x.st.n d.x.st.x z 0 0 0 (aj .i64 ((i:Int)+1)) C _;rw[bb _ (by omega)];refine an (i+1) C (by omega) ?_ y;rw[G];by_cases Q:d.x.op=0
     .rw [E Q,Bool.false_or]
     .rw [af (λh=>Q h.1),af (λh=>Q h.1)]
    have G5:GP j s l:=bR.1 (A.getD 0);refine ju.nI _ _ _ _ _ _ _ _ _ _ _ _ _ _ _ _ _ _ (a1 (aS (by omega)) (aL (λQ=>?_) (λQ=>A.ah λC y=>next C y (λh=>absurd h Q))));refine hQ G5 rfl T λp hp _=>A.ah λC y=>?_;have c6:=Cf (bR.1 (y.getD 0)) T hp (rfl:((i:Int))=(i:Int));refine⟨_,c6.c0,aL (λS=>?_) (λS=>next C y λ_=>aW λh=>S h.1)⟩;refine hQ (bR.1 (y.getD 0)) rfl T λp1 ao ak=>⟨_,ak.c5,ED (λE=>?_) (λE=>next C y λ_=>aW λh=>E h.2.1)⟩;refine hQ (bR.1 (y.getD 0)) rfl T λp2 ap aa=>⟨_,_,_,aa.s0,aa.s1,aa.s2,zl (λK=>y.ah λw7 H7=>⟨?_,H7.fr⟩) (λam=>next C y λ_=>aW λh=>h.2.2 am)⟩;rw[G,aq ⟨Q,by rw[show tR d.x e.x=true from aS ⟨S,E,K⟩];rfl⟩];rfl
  have S4:∀j:J,cC (xs l) d.x=(if d.x.op=0/\(xs l).any (tR d.x)=true then(cZ,8)else(d.x.st,0))->LH F0 w j [.g B,.g z] (lJ s l d)->
    ju.fK s B d.x.op d.ks d.x.n d.x.m d.x.u d.x.tx d.x.st.k d.x.st.n d.x.st.x z 0 0 0 j λr q=>r=gn (cC (xs l) d.x)/\ag w q:=λj G A=>loop l.length 0 j (by omega) G A
  have S1:∀(a:Bool) (j:J),a=ec d.x.st->LH F0 w j [.g B,.g z] (lJ s l d)->ju.bM s B d.x.op d.ks d.x.n d.x.m d.x.u d.x.tx d.x.st.k d.x.st.n d.x.st.x z 0 0 0 a j λr q=>r=gn (cC (xs l) d.x)/\ag w q:=by
   rintro a j rfl A;have bad:(d.x.op=1/\d.x.st.k≠0\/d.x.op=3/\ec d.x.st=false)->ju.bV z 0 0 0 j λr q=>r=gn (cC (xs l) d.x)/\ag w q:=λD=>A.ah λC y=>⟨by rw[F,aq D];rfl,y.fr⟩;have S3:¬(d.x.op=1/\d.x.st.k≠0\/d.x.op=3/\ec d.x.st=false)->ju.cM s B d.x.op d.ks d.x.n d.x.m d.x.u d.x.tx d.x.st.k d.x.st.n d.x.st.x z 0 0 0 j λr q=>r=gn (cC (xs l) d.x)/\ag w q:=λD=>by
    rw[af D]at F;refine aL (λI=>?_) (λI=>S4 j (by rw[F,af (λh=>I h.1)]) A);have L:d.x.st.k=0:=by
     rcases Int.decEq d.x.st.k 0 with h|h
     .exact absurd (.inl ⟨I,h⟩) D
     .exact h
    obtain⟨v1,v2,_⟩:=tY E L;have ew:aj .u64 d.x.st.n=d.x.st.n:=IntWalk.u64_in _ (by omega);refine aF (λab=>⟨by rw[ew];omega,?_⟩) (λab=>S4 j (by rw[F,af];rintro⟨_,D⟩;unfold ll at D;rw[aW (by omega)]at D;cases D) A);rw[ew,YJ _ (by omega) ab];have hp:((2^d.x.st.n.toNat:Nat):Int)=(2:Int)^d.x.st.n.toNat:=by rw[Int.natCast_pow];rfl
    rw[hp];refine aF (λad=>A.ah λC y=>⟨?_,y.fr⟩) (λad=>S4 j ?_ A)
    .rw [F,aq ⟨I,by unfold ll;rw[aS ab,aS ad];rfl⟩];rfl
    .rw [F,af];rintro⟨_,D⟩;unfold ll at D;rw[aW (by omega:¬(2:Int)^d.x.st.n.toNat<=d.x.u),Bool.and_false]at D;cases D
   have ae:¬(d.x.op=1/\d.x.st.k≠0)->bh (d.x.op==3) (bh (!ec d.x.st) (ju.bV z 0 0 0 j λr q=>r=gn (cC (xs l) d.x)/\ag w q) (ju.cM s B d.x.op d.ks d.x.n d.x.m d.x.u d.x.tx d.x.st.k d.x.st.n d.x.st.x z 0 0 0 j λr q=>r=gn (cC (xs l) d.x)/\ag w q)) (ju.cM s B d.x.op d.ks d.x.n d.x.m d.x.u d.x.tx d.x.st.k d.x.st.n d.x.st.x z 0 0 0 j λr q=>r=gn (cC (xs l) d.x)/\ag w q):=λL=>
    aL (λW=>dN (λK=>bad (.inr ⟨W,K⟩)) (λE=>S3 (by rintro(h|h);exact L h;rw[E]at h;cases h.2))) (λW=>S3 (by rintro(h|h);exact L h;exact W h.1))
   exact aL (λI=>di (λL=>bad (.inl ⟨I,L⟩)) (λL=>ae (λh=>h.2 L))) (λI=>ae (λh=>I h.1))
  refine aL (λac=>S1 true Z ?_ N) (λac=>S1 _ Z ?_ N)
  .unfold ec;rw[ac];rfl
  .unfold ec;rw[beq_eq_false_iff_ne.2 ac];rfl
 refine di (λS=>S0 true w2 ?_ U) (λS=>U.aw (TN d.x.tx w2) ?_)
 .rw [aW S];rfl
 .rintro _ M rfl H;exact⟨_,rfl,S0 _ M (by rw[aS S];rfl) H⟩
def zO{s:bj}(h:(s.k=0/\1<=s.n/\s.n<=64/\s.x=0)\/(s.k=1/\0<=s.n/\s.n<=64/\s.x=0)\/(s.k=2/\1<=s.n/\s.n<=64/\1<=s.x/\s.x<=16)\/(s.k=3/\0<=s.n/\s.n<=64/\1<=s.x/\s.x<=16)):bU s=true:=by unfold bU;rcases h with⟨d,e,j,q⟩|⟨d,e,j,q⟩|⟨d,e,j,q,w⟩|⟨d,e,j,q,w⟩<;>simp[d,e,j,q]<;>simp[w]
def Ft{s:bj}:bU s=true↔(s.k=0/\1<=s.n/\s.n<=64/\s.x=0)\/(s.k=1/\0<=s.n/\s.n<=64/\s.x=0)\/(s.k=2/\1<=s.n/\s.n<=64/\1<=s.x/\s.x<=16)\/(s.k=3/\0<=s.n/\s.n<=64/\1<=s.x/\s.x<=16):=by refine⟨λd=>?_,zO⟩;unfold bU at d;simp only[Bool.or_eq_true,bq,beq_iff_eq,decide_eq_true_eq]at d;omega
structure rS(g:List Nx)(n:Nx):Prop where
 kl:cS n.op=(n.kids.length:Int)
 ki:∀k∈n.kids,0<=k/\k<(g.length:Int)
 ok:i' n=true
def EN{g:List Nx}{n:Nx}(h:(cv g n).2=0):rS g n:=by
 unfold cv at h;split at h
 .cases h
 .rename_i d;simp only[Bool.and_eq_false_iff,not_or,Bool.not_eq_false,beq_iff_eq]at d;refine⟨d.1.1,λj e=>?_,d.2⟩;have:=List.all_eq_true.1 d.1.2 j e;unfold fk at this;simpa using this
def WO{g:List Nx}{n:Nx}(k:∀h∈g,bU h.st=true)(j:∀e∈n.kids,0<=e/\e<(g.length:Int)){i:Nat}(V:i<n.kids.length):bU (bQ g n i)=true:=by
 have q:=j _ (List.getElem_mem V);unfold bQ;rw[a4 V];dsimp only;have d:(n.kids[i]).toNat<g.length:=by omega
 rw[a4 d];exact k _ (List.getElem_mem d)
def Vi{x:bj}(h:bU x=true)(d:ec x=true):bU (hM x)=true:=by
 rw[Ft]at h;unfold ec at d;simp only[Bool.or_eq_true,beq_iff_eq]at d;unfold hM;refine zO ?_;split
 .show (0=0/\1<=x.n/\x.n<=64/\0=0)\/_;left;omega
 .right;left;show(1:Int)=1/\0<=x.n/\x.n<=64/\(0:Int)=0;omega
def nL{n:Int}(d:1<=n)(e:n<=64):bU (bz n)=true:=zO (.inl ⟨rfl,d,e,rfl⟩)
def wG{n:Int}(d:0<=n)(e:n<=64):bU (eT n)=true:=zO (.inr (.inl ⟨rfl,d,e,rfl⟩))
def aac{g:List Nx}{n:Nx}(U:∀M∈g,bU M.st=true)(h:(cv g n).2=0):bU (cv g n).1=true:=by
 have D:=EN h;have C:∀i:Nat,(i:Int)<cS n.op->bU (bQ g n i)=true:=λi V=>WO U D.ki (by have:=D.kl;omega);unfold cv at h ⊢;split at h
 .cases h
 rename_i G;rw[af G];split at h
 .rename_i F;rw[aq F];unfold cC at h ⊢;split at h
  .rename_i w;rw[aq w];split at h
   .cases h
   .rename_i T;rw[af T];exact wG (by omega) (by omega)
  .rename_i w;rw[af w];split at h
   .cases h
   rename_i N;rw[af N];split at h
   .cases h
   rename_i j;rw[af j];split at h
   .cases h
   rename_i P;rw[af P];split at h
   .cases h
   rename_i Q;rw[af Q];split at h
   .cases h
   rename_i S;rw[af S];simpa using j
 rename_i F;rw[af F];split at h
 .cases h
 rename_i d;rw[af d];split at h
 .cases h
 rename_i e;rw[af e];split at h
 .cases h
 rename_i H;rw[af H];simp only[Bool.not_eq_false]at d e;have O:n.op<=34:=by
  rcases Int.lt_or_le 34 n.op with h|h
  .have:=D.kl;unfold cS at this;rw[aq (.inr h)]at this;omega
  .exact h
 generalize I:bQ g n 0=x at *;generalize K:bQ g n 1=y at *;generalize L:bQ g n 2=z at *;have q:bU x=true:=by rw[<-I];exact C 0 (by unfold cS;repeat' split<;>omega)
 have A:2<=cS n.op->bU y=true:=λh=>by rw[<-K];exact C 1 (by omega)
 have E:cS n.op=3->bU z=true:=λh=>by rw[<-L];exact C 2 (by omega)
 obtain⟨op,kids,B,m,u,W,st⟩:=n;simp only at *;clear I K L C D G H;rcases sY (by omega) O with rfl|rfl|rfl|rfl|rfl|rfl|rfl|rfl|rfl|rfl|rfl|rfl|rfl|rfl|rfl|rfl|rfl|rfl|rfl|rfl|rfl|rfl|rfl|rfl|rfl|rfl|rfl|rfl|rfl|rfl|rfl|rfl|rfl|rfl|rfl
 iterate 4 omega
 all_goals first |(have A:=A (by decide))|skip
 all_goals first |(have E:=E (by decide))|skip
 iterate 12 exact q
 iterate 3 exact nL (by omega) (by omega)
 .show bU (if y.k=1 then eT (if y.n<z.n then z.n else y.n)else y)=true;split
  .rename_i C;have d:(ak (x=bz 1)&&(ak (y=z)||(y.k==1&&z.k==1)))=true:=d;have j:=lV A;have w:=lV E;exact wG (by split<;>omega) (by split<;>omega)
  .exact A
 .have d:(x.k==0&&y.k==0)=true:=d;have e:ak (x.n+y.n<=64)=true:=e;simp only[bq,beq_iff_eq]at d;have j:=tY q d.1;have w:=tY A d.2;exact nL (by omega) (eH e)
 .have d:(x.k==0)=true:=d;have e:(ak (0<=m)&&ak (m<=B)&&ak (B<x.n))=true:=e;simp only[bq,decide_eq_true_eq]at e;have j:=tY q (eq_of_beq d);show bU (bz (B - m+1))=true;exact nL (by omega) (by omega)
 iterate 2
  .have d:(x.k==0)=true:=d;have e:(ak (1<=B)&&ak (B<=64 - x.n))=true:=e;simp only[bq,decide_eq_true_eq]at e;have j:=tY q (eq_of_beq d);show bU (bz (x.n+B))=true;exact nL (by omega) (by omega)
 .have d:(ec x&&ak (y=bz x.x))=true:=d;simp only[bq]at d;exact Vi q d.1
 .exact q
 .have d:(ec x&&ak (x=y))=true:=d;simp only[bq]at d;have j:=d.1;unfold ec at j;simp only[Bool.or_eq_true,beq_iff_eq]at j;rw[Ft]at q;exact nL (by omega) (by omega)
 .exact nL (by omega) (by omega)
 .exact nL (by omega) (by omega)
 .have e:ak (x.n+y.n<=64)=true:=e;have j:=lV q;have w:=lV A;exact wG (by omega) (eH e)
 .exact q
 .exact nL (by omega) (by omega)
 .have e:ak (x.n+z.n<=64)=true:=e;have j:=lV q;have w:=lV E;exact wG (by omega) (eH e)
 .exact nL (by omega) (by omega)
 .exact wG (by omega) (by omega)
def Vg.val{g:List Nx}(h:Vg g):∀e∈g,bU e.st=true:=by
 induction h with
 |nil=>simp
 |snoc q j w k=>
  intro e d;rcases aY.1 d with d|d
  .exact k e d
  .simp only[au,aO,aR]at d;subst d;have:=aac k (by rw[j])
   rwa[j]at this
def var_eq{g D:List Nx}{a b:Nx}(h:rS g a)(F:rS D b)(e:a.op=0)(j:b.op=0)(H:a.tx=b.tx)(G:a.st=b.st):a=b:=by
 have k:∀{g:List Nx} {a:Nx},rS g a->a.op=0->a.kids=[]/\a.n=0/\a.m=0/\a.u=0:=by intro g a h e;have E:=h.kl;have d:=h.ok;rw[e]at E;unfold i' at d;rw[e]at d;refine⟨List.eq_nil_of_length_eq_zero (by have:cS 0=0:=rfl;omega),?_⟩;have:o0 0=false:=rfl;rw[this]at d;simp at d;exact⟨d.1.1.1,d.1.1.2,d.1.2⟩
 obtain⟨q,w,x,y⟩:=k h e;obtain⟨z,A,B,C⟩:=k F j;cases a;cases b;simp only at *;subst e j H G q w x y z A B C;rfl
def Vg.ok{g:List Nx}(h:Vg g):∀i e,g[i]? =some e->cv (g.take i) e=(e.st,0):=by
 induction h with
 |nil=>intro i e d;simp at d
 |@snoc g n w k x q=>
  intro i e d;rcases Nat.lt_or_ge i g.length with j|j
  .rw [List.getElem?_append_left j]at d;rw[List.take_append_of_le_length (by omega)];exact q i e d
  .rw [List.getElem?_append_right j]at d;have:i - g.length=0:=by have:=(cz.1 d).1;simp at this;omega
   rw[this]at d;simp at d;subst d;rw[show i=g.length by omega,List.take_left];exact k
def Vg.EJ{g:List Nx}(h:Vg g):∀i d,g[i]? =some d->rS (g.take i) d:=λi d e=>EN (by rw[h.ok i d e])
def Vg.kids{g:List Nx}(h:Vg g){i:Nat}{d:Nx}(j:g[i]? =some d):∀e∈d.kids,0<=e/\e<(i:Int):=λe q=>by have k:=(h.EJ i d j).ki e q;have w:=(cz.1 j).1;rw[List.length_take]at k;omega
def Vg.vars{g:List Nx}(h:Vg g):xn g:=by
 induction h with
 |nil=>intro k e;cases e
 |@snoc g n B d C A=>
  have one:∀k∈g,k.op=0->n.op=0->k.tx=n.tx->k.st=n.st:=by
   intro k e w x q;have D:rS g n:=EN (by rw[d]);unfold cv at d;split at d
   .simp at d
   rw[aq (by omega:n.op<=3)]at d;unfold cC at d;rw[af (by omega)]at d;split at d
   .simp at d
   split at d
   .simp at d
   split at d
   .simp at d
   split at d
   .simp at d
   split at d
   .simp at d
   rename_i y;simp only[x,true_and,Bool.not_eq_true]at y;rw[Ro A,List.any_eq_false]at y;rcases decEq k.st n.st with h|h
   .exact absurd (aS ⟨w,q,h⟩) (y k e)
   .exact h
  intro k e w z j x q;have e:=aY.1 e;have j:=aY.1 j;simp only[au,aO,aR]at e j;rcases e with e|e
  .rcases j with j|j
   .exact A k e w z j x q
   .rw [j]at q x ⊢;exact one k e w x q
  .rw [e]at q w ⊢;rcases j with j|j
   .exact (one z j x w q.symm).symm
   .rw [j]
def Ck{n:Nx}:∀{g:List Nx} {i:Nat},hn n g i=none->n∉g
 |[],i,_=>by simp
 |j::g,i,d=>by
  unfold hn at d;split at d
  .cases d
  .rename_i h;simp only[au,not_or];exact⟨λe=>h e.symm,Ck d⟩
def ya{n:Nx}:∀{g:List Nx} {i k:Nat},hn n g i=some k->i<=k/\g[k - i]? =some n
 |h::g,i,k,d=>by
  unfold hn at d;split at d
  .rename_i e;cases d;simp[e]
  .have:=ya d;refine⟨by omega,?_⟩;rw[show k - i=(k - (i+1))+1 by omega];simpa using this.2
set_option maxHeartbeats 1000000
def eb(w:J)(p:Addr)(d:Nd):Prop:=∀i v,(Nd.c d)[i]? =some v->w.cell? (p.add i)=some v
def eb.st{w w':J}{p:Addr}{d:Nd}(h:eb w p d)(q:p.block<w.heap.size->w'.heap[p.block]? =w.heap[p.block]?):eb w' p d:=λi v k=>by have e:=h i v k;have j:=nO e;rw[iX]at j;unfold World.cell? at e ⊢;rw[iX]at e ⊢;rw[q j];exact e
def eb.lt{w:J}{p:Addr}{d:Nd}(h:eb w p d):p.block<w.heap.size:=by
 have:=nO (h 0 _ rfl)
 rwa[iX]at this
def _root_.Go.W.En.i9(p:Addr)(d:Nd):En:=⟨[p.block],λh=>eb h p d,λh q k e=>e.st (k p.block (by simp)),λh e b j=>by simp at j;subst j;exact eb.lt e,by simp⟩
def yG{w:J}{b:Nat}{d:Nd}{T:aC}(h:w.heap[b]? =some (.cells (Nd.c d).toArray T (0,0))):eb w (ab b) d:=λi v e=>cellAt (p:=ab b) h rfl (by simpa using e)
section
variable {w:J} {p:Addr} {d:Nd} (h:eb w p d)
include h
def eb.c0:w.cell? (p.add 0)=some (.i d.x.op):=h 0 _ rfl
def eb.c1:w.cell? (p.add 1)=some d.ks.v:=h 1 _ rfl
def eb.c2:w.cell? (p.add 2)=some (.i d.x.n):=h 2 _ rfl
def eb.c3:w.cell? (p.add 3)=some (.i d.x.m):=h 3 _ rfl
def eb.c4:w.cell? (p.add 4)=some (.u d.x.u):=h 4 _ rfl
def eb.c5:w.cell? (p.add 5)=some (.string d.x.tx):=h 5 _ rfl
def eb.s0:w.cell? ((p.add 6).add 0)=some (.i d.x.st.k):=by rw[add_add];exact h 6 _ rfl
def eb.s1:w.cell? ((p.add 6).add 1)=some (.i d.x.st.n):=by rw[add_add];exact h 7 _ rfl
def eb.s2:w.cell? ((p.add 6).add 2)=some (.i d.x.st.x):=by rw[add_add];exact h 8 _ rfl
end
def jg(n:Int)(w:J):ai Y MK #[.i n] w λr h=>r=ae (dO (bz n))/\ag w h:=
 QW.aB _ w _ ((bI [] (by simp)).aG λb j d=>d.ah λk e=>⟨rfl,e.fr⟩)
def tQ(n:Int)(w:J):ai Y MY #[.i n] w λr h=>r=ae (dO (eT n))/\ag w h:=
 Re.aB _ w _ ((bI [] (by simp)).aG λb j d=>d.ah λk e=>⟨rfl,e.fr⟩)
def q8(s:bj)(w:J):ai Y MN #[dO s] w λr e=>r=ae (.bool (s.k==0))/\ag w e:=
 QY.aB _ _ _ w _ ((bI [] (by simp)).aG λb h d=>⟨rfl,d.fr⟩)
def jh(s:bj)(w:J):ai Y MP #[dO s] w λr e=>r=ae (.bool (s.k==1))/\ag w e:=
 Q'.aB _ _ _ w _ ((bI [] (by simp)).aG λb h d=>⟨rfl,d.fr⟩)
def E4(s:bj)(w:J):ai Y MM #[dO s] w λr h=>r=ae (.bool (ec s))/\ag w h:=
 QX.aB _ _ _ w _ ((bI [] (by simp)).aG λb j e=>aL (λd=>⟨by unfold ec;rw[d];rfl,e.fr⟩) (λd=>⟨by unfold ec;rw[beq_eq_false_iff_ne.2 d];rfl,e.fr⟩))
def QL(x y:bj)(w:J):ai Y MG #[dO x,dO y] w λr A=>r=ae (.bool (ak (x=y)||(x.k==1&&y.k==1)))/\ag w A:=by refine QS.aB _ _ _ _ _ _ w _ ((bI [] (by simp)).aG λb E q=>q.aG λD B h=>nt (a:=x) (b:=y) (λd=>⟨by rw[aS d];rfl,h.fr⟩) (λd=>h.aw (jh x B) ?_));rintro _ C rfl j;rw[aW d,Bool.false_or];refine⟨_,rfl,aL (λe=>j.aw (jh y C) ?_) (λe=>⟨by rw[beq_eq_false_iff_ne.2 e];rfl,j.fr⟩)⟩;rintro _ F rfl z;exact⟨_,rfl,by rw[e];rfl,z.fr⟩
def Ek(d ranges:Bool):Int:=if d=true then(if ranges=true then 0 else 5)else 9
def aaS(s:bj)(k ranges:Bool)(w:J):ai Y yF #[dO s,.bool k,.bool ranges] w λr y=>r=gn (s,Ek k ranges)/\ag w y:=by refine Rb.aB _ _ _ _ _ w _ ((bI [] (by simp)).aG λb A x=>x.aG λz B h=>dN (λe=>h.ah λq d=>⟨by rw[e];rfl,d.fr⟩) (λe=>dN (λj=>h.ah λq d=>⟨by rw[e,j];rfl,d.fr⟩) (λj=>h.ah λq d=>⟨by rw[e,j];rfl,d.fr⟩)))
def QK(s:bj)(w:J):ai Y M0 #[dO s] w λr y=>r=ae (.int .i64 (gW s))/\ag w y:=by
 refine zP.aB _ _ _ w _ ((bI [] (by simp)).aG λG D F=>?_);have H:bU s=true->(Ending.returned (Value.int .i64 0)=ae (.int .i64 (gW s))/\ag w D):=λj=>⟨by unfold gW;rw[aq j],F.fr⟩;have bad:bU s=false->(Ending.returned (Value.int .i64 9)=ae (.int .i64 (gW s))/\ag w D):=λj=>⟨by unfold gW;rw[af (by simp[j])],F.fr⟩;have plain:∀least:Int,(∀e:least<=s.n,s.n<=64->s.x=0->bU s=true)->(¬(least<=s.n/\s.n<=64/\s.x=0)->bU s=false)->zP.bn G s.k s.n s.x least 64 false D λr y=>r=ae (.int .i64 (gW s))/\ag w y:=by intro least e d;exact aF (λj=>bad (d (by omega))) (λj=>aF (λE=>bad (d (by omega))) (λE=>aZ rfl (a1 rfl (di (λh=>bad (d (λI=>h I.2.2))) (λh=>H (e (by omega) (by omega) h))))))
 have array:∀least:Int,(∀e:least<=s.n,s.n<=64->1<=s.x->s.x<=16->bU s=true)->(¬(least<=s.n/\s.n<=64/\1<=s.x/\s.x<=16)->bU s=false)->zP.bn G s.k s.n s.x least 64 true D λr y=>r=ae (.int .i64 (gW s))/\ag w y:=by intro least e d;exact aF (λj=>bad (d (by omega))) (λj=>aF (λE=>bad (d (by omega))) (λE=>a1 rfl (aF (λh=>bad (d (by omega))) (λh=>aF (λq=>bad (d (by omega))) (λq=>aZ rfl (H (e (by omega) (by omega) (by omega) (by omega))))))))
 refine aL (λz=>plain 1 (λe d h=>?_) (λj=>?_)) (λz=>aL (λA=>plain 0 (λe d h=>?_) (λj=>?_)) (λA=>aL (λB=>array 1 (λe d h q=>?_) (λj=>?_)) (λB=>aL (λC=>array 0 (λe d h q=>?_) (λj=>?_)) (λC=>bad ?_))))
 .unfold bU;simp[z,e,d,h]
 .unfold bU;rw[z];simp;omega
 .unfold bU;simp[A,e,d,h]
 .unfold bU;rw[A];simp;omega
 .unfold bU;simp[B,e,d,h,q]
 .unfold bU;rw[B];simp;omega
 .unfold bU;simp[C,e,d,h,q]
 .unfold bU;rw[C];simp;omega
 .unfold bU;simp[z,A,B,C]
def aaB{s:ByteArray}{i:Nat}(h:i<s.size):s[i]? =some (gQ (bl s) i):=by
 have e:i<(bl s).length:=h;have d:gQ (bl s) i=(bl s)[i]:=by unfold gQ;rw[List.getD_eq_getElem?_getD,a4 e];rfl
 rw[d,getElem?_pos s i h];rfl
def aaP(s:ByteArray)(w:J):ai Y MO #[.string s] w λr j=>r=ae (.bool (fE (bl s)))/\ag w j:=by
 have h:(bl s).length=s.size:=dH s;have mn:∀(c:UInt8) (m:List UInt8),fE (c::m)=(ak (m.length<=15)&&eZ c&&m.all cT):=λ_ _=>rfl;cases y:bl s with
 |nil=>
  have k:s.size=0:=by rw[<-h,y];rfl
  exact nz.ok s w _ (a1 (aS (by omega)) ⟨rfl,Fr.refl _ _⟩)
 |cons c m=>
  have P:s.size=m.length+1:=by rw[<-h,y];rfl
  have F:gQ (bl s) 0=c:=by rw[y];rfl
  refine nz.ok s w _ (aZ (aW (by omega)) (aF (λe=>⟨?_,Fr.refl _ _⟩) (λe=>?_)))
  .rw [mn,aW (by omega)];rfl
  have I:fE (c::m)=(eZ c&&m.all cT):=by rw[mn,aS (by omega:m.length<=15),Bool.true_and]
  rw[I];have loop:∀(d i:Nat),i+d=s.size->(eZ c&&m.all cT)=(if i=0 then(eZ c&&m.all cT)else((bl s).drop i).all cT)->nz.L1 s (i:Int) w λr j=>r=ae (.bool (eZ c&&m.all cT))/\ag w j:=by
   intro d;induction d with
   |zero=>
    intro i M q;rw[cU (by omega),af (by omega)]at q;exact nz.fI _ _ _ _ (aZ (aW (by omega)) ⟨by rw[q];rfl,Fr.refl _ _⟩)
   |succ d O=>
    intro i M q;have G:=aaB (show i<s.size by omega);have H:(bl s).drop i=gQ (bl s) i::(bl s).drop (i+1):=by rw[dz (by omega:i<(bl s).length)];unfold gQ;rw[List.getD_eq_getElem?_getD,a4 (by omega:i<(bl s).length)];rfl
    have go:(if i=0 then eZ (gQ (bl s) i)else cT (gQ (bl s) i))=true->nz.S5 s (i:Int) w λr j=>r=ae (.bool (eZ c&&m.all cT))/\ag w j:=λe=>by
     show nz.L1 s (aj .i64 ((i:Int)+1)) w _;rw[bb _ (by omega)];refine O (i+1) (by omega) ?_;rw[af (by omega)];by_cases k:i=0
     .subst k;rw[aq rfl,F]at e;rw[e,Bool.true_and];rw[y];rfl
     .rw [af k]at e q;rw[q,H,List.all_cons,e,Bool.true_and]
    have stop:(if i=0 then eZ (gQ (bl s) i)else cT (gQ (bl s) i))=false->nz.S4 w λr j=>r=ae (.bool (eZ c&&m.all cT))/\ag w j:=λe=>by
     refine⟨?_,Fr.refl _ _⟩;by_cases k:i=0
     .subst k;rw[aq rfl,F]at e;rw[e,Bool.false_and]
     .rw [af k]at e q;rw[q,H,List.all_cons,e,Bool.false_and]
    generalize gQ (bl s) i=x at G go stop;have E:∀l:Bool,l=eZ x->nz.S3 s (i:Int) ((x.toNat:Nat):Int) l w λr j=>r=ae (.bool (eZ c&&m.all cT))/\ag w j:=by
     intro l h;refine dN (λL=>?_) (λD=>go ?_)
     .rw [L]at h;refine aL (λk=>stop ?_) (λk=>?_)
      .rw [aq (by omega),<-h]
      have N:i≠0:=by omega
      rw[af N]at go stop;have z:cT x=((ak (48<=x.toNat)&&ak (x.toNat<=57))||x==45):=by unfold cT;rw[<-h,Bool.false_or]
      refine di (λC=>aF (λB=>stop ?_) (λB=>aF (λK=>stop ?_) (λK=>go ?_))) (λC=>go ?_)
      .rw [z,aW (show ¬48<=x.toNat by omega)];have:(x==45)=false:=beq_eq_false_iff_ne.2 λA=>C (by subst A;rfl);rw[this];rfl
      .rw [z,aW (show ¬x.toNat<=57 by omega),Bool.and_false];have:(x==45)=false:=beq_eq_false_iff_ne.2 λA=>C (by subst A;rfl);rw[this];rfl
      .rw [z,aS (show 48<=x.toNat by omega),aS (show x.toNat<=57 by omega)];rfl
      .have:x=45:=UInt8.toNat_inj.1 (by have:((45:UInt8).toNat:Int)=45:=rfl;omega);rw[z,this];rfl
     .rw [D]at h;split
      .exact h.symm
      .unfold cT;rw[<-h];rfl
    have D:((i:Int)).toNat=i:=bH i;refine nz.fI _ _ _ _ (a1 (aS (by omega)) ⟨by omega,x,by rw[D];exact G,aF (λB=>E _ ?_) (λB=>E _ ?_)⟩)
    .unfold eZ;rw[aS (show 97<=x.toNat by omega),Bool.true_and];exact decide_eq_decide.2 (by omega)
    .unfold eZ;rw[aW (show ¬97<=x.toNat by omega),Bool.false_and]
  exact loop s.size 0 (by omega) (by rw[aq rfl])
def Vk(t:ByteArray):(t.toList==(bG #[]).toList)=ak (t=ba []):=zH _ _
def aaO{w:J}{p:Addr}{d:Nd}(h:eb w p d):ai Y ML #[.pointer (some p)] w λr q=>r=ae (.bool (i' d.x))/\ag w q:=by
 have C:∀a b c e:Bool,wK.S1 p a b c e w λr q=>r=ae (.bool ((a||d.x.n==0)&&(b||d.x.m==0)&&(c||d.x.u==0)&&(e||ak (d.x.tx=ba []))))/\ag w q:=by
  intro a b c e;cases a<;>cases b<;>cases c<;>cases e;all_goals repeat (first |refine aZ rfl ?_|refine a1 rfl ?_|refine⟨_,h.c2,aL (λj=>?_) (λj=>⟨by rw[beq_eq_false_iff_ne.2 j];simp,Fr.refl _ _⟩)⟩|refine⟨_,h.c3,aL (λk=>?_) (λk=>⟨by rw[beq_eq_false_iff_ne.2 k];simp,Fr.refl _ _⟩)⟩|refine⟨_,h.c4,aL (λz=>?_) (λz=>⟨by rw[beq_eq_false_iff_ne.2 z];simp,Fr.refl _ _⟩)⟩|refine⟨_,h.c5,?_,Fr.refl _ _⟩)
  all_goals first |exact⟨by simp[*],Fr.refl _ _⟩|(rw[Vk];simp[*])
 have fin:∀a b c e:Bool,a=o0 d.x.op->b=(d.x.op==21)->c=(d.x.op==1)->e=o1 d.x.op->wK.S1 p a b c e w λr q=>r=ae (.bool (i' d.x))/\ag w q:=by rintro a b c e rfl rfl rfl rfl;exact C _ _ _ _
 have H:∀A:Int,d.x.op≠A->(d.x.op==A)=false:=λA G=>beq_eq_false_iff_ne.2 G;have D:∀e:Bool,e=o1 d.x.op->wK.S2 p false false false e d.x.op w λr q=>r=ae (.bool (i' d.x))/\ag w q:=by intro e y;refine aL (λE=>fin _ _ _ _ ?_ ?_ ?_ y) (λE=>aL (λj=>fin _ _ _ _ ?_ ?_ ?_ y) (λj=>aL (λk=>a1 (beq_iff_eq.2 k) (fin _ _ _ _ ?_ ?_ ?_ y)) (λk=>aL (λz=>a1 (beq_iff_eq.2 z) (fin _ _ _ _ ?_ ?_ ?_ y)) (λz=>aL (λF=>fin _ _ _ _ ?_ ?_ ?_ y) (λF=>fin _ _ _ _ ?_ ?_ ?_ y)))));all_goals first |(rw[‹d.x.op=_›];rfl)|(simp[o0, *])
 refine wK.ok p w _ ⟨_,h.c0,aL (λB=>a1 (beq_iff_eq.2 B) (fin _ _ _ _ ?_ ?_ ?_ ?_)) (λB=>aL (λj=>a1 (beq_iff_eq.2 j) (fin _ _ _ _ ?_ ?_ ?_ ?_)) (λj=>aL (λk=>fin _ _ _ _ ?_ ?_ ?_ ?_) (λk=>D _ ?_)))⟩;all_goals first |(rw[‹d.x.op=_›];rfl)|(unfold o1;simp[*])
def dq(n:Nx):List UInt8:=bt n.op++(cH n.kids++(bt n.n++(bt n.m++(dT n.u.toNat++(df (bl n.tx)++(bt n.st.k++(bt n.st.n++bt n.st.x)))))))
structure ff(x:Nx):Prop where
 op:a7 x.op
 ks:∀k∈x.kids,a7 k
 kl:x.kids.length<=1000000000
 n:a7 x.n
 m:a7 x.m
 u:0<=x.u/\x.u<18446744073709551616
 tx:x.tx.size<=1000000000
 sk:a7 x.st.k
 sn:a7 x.st.n
 sx:a7 x.st.x
def X4{n:Nx}(W:ff n):(dq n).length<=20000000000:=by have e:=cR _ W.op;have h:=kL _ W.ks;have j:=cR _ W.n;have k:=cR _ W.m;have q:=ei n.u.toNat (by have:=W.u;omega);have w:=cR _ W.sk;have x:=cR _ W.sn;have y:=cR _ W.sx;have z:=ei n.kids.length (by have:=W.kl;omega);have d:=ei (bl n.tx).length (by have:=W.tx;rw[dH];omega);have A:=W.kl;have B:=W.tx;have C:=dH n.tx;unfold dq cH df;simp only[bc];omega
def oE{P:aE}{f:FuncId}{args:Array aa}{w0 w:J}{e:Nat}{j:List Nat}{U k:List UInt8}(h:iE w0 e j U w)(A:∀own,fg w e U own->(∀x∈own,x∈j\/w0.heap.size<=x)->ai P f args w (l7 w e own k)){K:J->Prop}(z:∀d,iE w0 e j k d->K d):
  ai P f args w λr d=>r=ae (.tuple #[])/\K d:=by obtain⟨own,C,B,q⟩:=h;refine(A own C q).mono ?_;rintro r d ⟨rfl,y⟩;exact⟨rfl,z d (iE.then B q y)⟩
def FA{w:J}{j:Nat}{U:List UInt8}{own:List Nat}(x:fg w j U own){s:Sl}{l:List Int}(e:bo w s l)(z:∀d∈(En.rd s (l.map a')).fp,d∉own)(V:∀d∈l,a7 d)(A:U.length+10 *l.length<=1000000000000):
  ai Y vR #[.pointer (some (ab j)),s.v] w (l7 w j own (U++cH l)):=by
 by_cases k:l=[]
 .subst k;have B:s.n=0:=bo.len e;refine pL.ok _ _ w _ ?_;rw[B];refine(tZ x 0 (by omega) (by omega)).mono ?_;rintro r C ⟨rfl,y⟩;refine⟨rfl,pL.bC _ _ _ _ _ _ (aZ (by decide) ⟨rfl,?_⟩)⟩;simpa[cH]using y
 .have q:(En.rd s (l.map a')).fp=ax s:=by show(if l.map a'=[]then[]else ax s)=_;rw[af (by simpa using k)]
  exact abh x e (λd h=>z d (q▸h)) (λd h=>(En.rd s (l.map a')).lt w e d (q▸h)) V A
def QN{w:J}{e:Nat}{U:List UInt8}{own:List Nat}(T:fg w e U own){p:Addr}{d:Nd}(K:eb w p d)(H:d.P w)(M:p.block∉own)(G:∀h∈(cY d).fp,h∉own)(W:ff d.x)(I:U.length<=100000000000):
  ai Y MZ #[.pointer (some (ab e)),.pointer (some p)] w (l7 w e own (U++dq d.x)):=by
 have at_:∀{k:List UInt8} {w':J},iE w e own k w'->eb w' p d:=λ⟨_,_,f,_⟩=>K.st λO=>f.cb _ O M
 have Z:∀{k:List UInt8} {w':J},iE w e own k w'->bo w' d.ks d.x.kids:=λ⟨_,_,f,_⟩=>(cY d).st w _ (λb N I=>f.cb _ I (G b N)) H;have k1:=cR _ W.op;have aa:=kL _ W.ks;have k3:=cR _ W.n;have k4:=cR _ W.m;have V:d.x.u=((d.x.u.toNat:Nat):Int):=by have:=W.u;omega
 have k5:=ei d.x.u.toNat (by have:=W.u;omega);have k6:=cR _ W.sk;have k7:=cR _ W.sn;have k9:=ei d.x.kids.length (by have:=W.kl;omega);have k0:=ei (bl d.x.tx).length (by have:=W.tx;rw[dH];omega);have m1:=W.kl;have m2:=W.tx;have m3:=dH d.x.tx;have lL:(cH d.x.kids).length<=10000000010:=by unfold cH;simp only[bc];omega
 have lR:(df (bl d.x.tx)).length<=1000000010:=by unfold df;simp only[bc];omega
 refine Rf.ok _ _ w _ ⟨_,K.c0,oE (iE.refl T) (λo r _=>k2 r _ W.op (by omega)) λw1 j=>⟨_,(at_ j).c1,oE j (λo r S=>FA r (Z j) (λh L Q=>?_) W.ks (by simp only[bc];omega)) λw2 q=>⟨_,(at_ q).c2,oE q (λo r _=>k2 r _ W.n (by simp only[bc];omega)) λw3 y=>⟨_,(at_ y).c3,oE y (λo r _=>k2 r _ W.m (by simp only[bc];omega)) λw4 z=>⟨_,(at_ z).c4,?_⟩⟩⟩⟩⟩
 .rcases S h Q with F|F
  .exact G h L F
  .have:=(cY d).lt w H h L;omega
 rw[V];refine oE z (λo r _=>tZ r d.x.u.toNat (by have:=W.u;omega) (by simp only[bc];omega)) λw5 A=>⟨_,(at_ A).c5,oE A (λo r _=>abj r d.x.tx (by simp only[bc];omega)) λw6 B=>⟨_,(at_ B).s0,oE B (λo r _=>k2 r _ W.sk (by simp only[bc];omega)) λw7 C=>⟨_,(at_ C).s1,oE C (λo r _=>k2 r _ W.sn (by simp only[bc];omega)) λw8 D=>⟨_,(at_ D).s2,oE D (λo r _=>k2 r _ W.sx (by simp only[bc];omega)) λw9 E=>⟨rfl,?_⟩⟩⟩⟩⟩;unfold dq;simp only[cp]at E;exact E
def QM{w:J}{p:Addr}{d:Nd}(j:eb w p d)(h:d.P w)(W:ff d.x):
  ai Y MQ #[.pointer (some p)] w λr F=>r=ae (.string (ba (dq d.x)))/\ag w F:=by refine Ra.ok _ w _ ?_;have e:ag w (w.alloc (.cells #[.slice none 0 0] ra)):=Fr.alloc _ _ _;have lt:=X4 W;refine(QN (fg.new w) (j.st λC=>e.cb _ C id) ((cY d).st w _ (λb G B=>e.cb _ B id) h) (by have:=eb.lt j;simp;omega) (λy k=>by have:=(cY d).lt w h y k;simp;omega) W (by simp)).mono ?_;rintro r K ⟨rfl,I,q,z,H⟩;rw[lN]at q;refine⟨rfl,(zW q (by omega)).mono ?_⟩;rintro r L ⟨s,rfl,E,A,_⟩;refine⟨s,rfl,_,ma E.rd,rfl,?_⟩;exact(e.trans z λy k D=>by simp at D;omega).dA A
def zL{a b:Nat}(d:a<256)(e:b<256)(h:cE a=cE b):a=b:=by have:=congrArg UInt8.toNat h;simp at this;omega
def xT:∀(n m:Nat) (r s:List UInt8),dT n++r=dT m++s->n=m/\r=s:=by
 intro n;induction n using Nat.strongRecOn with
 |_ n k=>
  intro m r s d;by_cases h:n<128<;>by_cases e:m<128
  .rw [lu h,lu e]at d;simp only[jc,lN,List.cons.injEq]at d;exact⟨zL (by omega) (by omega) d.1,d.2⟩
  .rw [lu h,mg e]at d;simp only[jc,lN,List.cons.injEq]at d;have:=zL (by omega) (by omega) d.1;omega
  .rw [mg h,lu e]at d;simp only[jc,lN,List.cons.injEq]at d;have:=zL (by omega) (by omega) d.1;omega
  .rw [mg h,mg e]at d;simp only[jc,List.cons.injEq]at d;have q:=zL (by omega) (by omega) d.1;have j:=k (n / 128) (by omega) _ _ _ d.2;exact⟨by omega,j.2⟩
def abz{a b:Int}(h:zz a=zz b):a=b:=by unfold zz at h;split at h<;>split at h<;>omega
def qs{n m:Int}{r s:List UInt8}(h:bt n++r=bt m++s):n=m/\r=s:=by have:=xT _ _ _ _ h;exact⟨abz this.1,this.2⟩
def IL:∀{a b:List Int} {r s:List UInt8},a.length=b.length->a.flatMap bt++r=b.flatMap bt++s->a=b/\r=s
 |[],[],_,_,_,e=>⟨rfl,e⟩
 |[],_::_,_,_,d,_=>by simp at d
 |_::_,[],_,_,d,_=>by simp at d
 |w::a,x::b,r,s,d,e=>by simp only[List.flatMap_cons,cp]at e;obtain⟨h,j⟩:=qs e;obtain⟨k,q⟩:=IL (a:=a) (b:=b) (by simpa using d) j;exact⟨by rw[h,k],q⟩
def Vl{a b:List Int}{r s:List UInt8}(h:cH a++r=cH b++s):a=b/\r=s:=by unfold cH at h;simp only[cp]at h;obtain⟨d,e⟩:=xT _ _ _ _ h;exact IL d e
def Vm{a b r s:List UInt8}(h:df a++r=df b++s):a=b/\r=s:=by unfold df at h;simp only[cp]at h;obtain⟨d,e⟩:=xT _ _ _ _ h;exact List.append_inj e d
def X3{n m:Nx}(Z:0<=n.u)(W:0<=m.u)(h:dq n=dq m):n=m:=by
 unfold dq at h;obtain⟨d,h⟩:=qs h;obtain⟨e,h⟩:=Vl h;obtain⟨j,h⟩:=qs h;obtain⟨k,h⟩:=qs h;obtain⟨B,h⟩:=xT _ _ _ _ h;obtain⟨q,h⟩:=Vm h;obtain⟨w,h⟩:=qs h;obtain⟨x,h⟩:=qs h;have y:=(qs (r:=[]) (s:=[]) (by simpa using h)).1;have z:n.u=m.u:=by omega
 have A:n.tx=m.tx:=by
  have:=congrArg ba q
  rwa[l8,l8]at this
 obtain⟨C,D,E,F,G,H,⟨I,K,L⟩⟩:=n;obtain⟨M,N,O,P,Q,S,⟨T,U,V⟩⟩:=m;simp only at d e j k z A w x y;clear B q;subst d e j k z A w x y;rfl
def j4(n:Nx):ByteArray:=ba (dq n)
def WD{n m:Nx}(e:0<=n.u)(d:0<=m.u)(h:j4 n=j4 m):n=m:=by
 refine X3 e d ?_;have:=congrArg bl h;unfold j4 at this
 rwa[mS,mS]at this
def jV(es:Array MapEntry)(ms:List (ByteArray×aa)):Prop:=es.toList.map (λd=>(d.key,d.val))=ms.map λp=>(Value.string p.1,p.2)
def jI(ms:List (ByteArray×aa))(k:ByteArray):Option aa:=(ms.find? λp=>ak (p.1=k)).map (·.2)
def Tm(a b:ByteArray):(a==b)=ak (b=a):=by
 cases d:ak (b=a)with
 |true=>rw[eH d];exact(Go.MapKept.bytes_beq _ _).2 rfl
 |false=>
  cases e:(a==b)with
  |false=>rfl
  |true=>exact absurd ((Go.MapKept.bytes_beq _ _).1 e).symm (hZ d)
def B3{k:ByteArray}:∀{es:List MapEntry} {ms:List (ByteArray×aa)} {i:Nat},es.map (λh=>(h.key,h.val))=ms.map (λp=>(Value.string p.1,p.2))->
  Instr.findNow .string (.string k) es i=some ((ms.findIdx? λp=>ak (p.1=k)).bind λe=>(ms[e]?).map λp=>(i+e,p.2))
 |[],[],i,_=>rfl
 |[],_::_,_,d=>by simp at d
 |_::_,[],_,d=>by simp at d
 |h::es,p::ms,i,d=>by
  simp only[List.map_cons,List.cons.injEq,eC]at d;obtain⟨⟨w,x⟩,y⟩:=d;have z:=B3 (k:=k) (i:=i+1) y;unfold Instr.findNow;simp only[w,Instr.sameNow,Tm];by_cases j:p.1=k
  .have q:ak (p.1=k)=true:=aS j;simp[List.findIdx?_cons,j,x]
  .have q:ak (p.1=k)=false:=aW j;simp only[z,List.findIdx?_cons,q,Bool.false_eq_true,if_false];congr 1;cases A:ms.findIdx? (λp=>ak (p.1=k))with
   |none=>simp
   |some e=>simp[Nat.add_assoc,Nat.add_comm 1 e]
def PX{ms:List (ByteArray×aa)}{k:ByteArray}{i:Nat}:(((ms.findIdx? λp=>ak (p.1=k)).bind λd=>(ms[d]?).map λp=>(i+d,p.2)).map (·.2))=jI ms k:=by
 unfold jI;induction ms generalizing i with
 |nil=>rfl
 |cons p ms j=>
  by_cases e:p.1=k
  .simp [List.findIdx?_cons,e]
  .have h:ak (p.1=k)=false:=aW e;simp only[List.findIdx?_cons,h,Bool.false_eq_true,if_false,List.find?_cons];rw[<-j (i:=i+1)];cases q:ms.findIdx? (λp=>ak (p.1=k))with
   |none=>simp
   |some d=>simp[Function.comp_def]
structure xi(P:aE)(T kt et:aC)(z:aa):Prop where
 hT:P.underlying T=some (.map kt et)
 hk:P.underlying kt=some .string
 hz:(P.info? et).map (·.zero)=some (some z)
def Hf{P:aE}{d:aC}(e:P.underlying d=some .string)(b:Bool)(k:ByteArray)(w:J):(Instr.checkKey b 10000 d (.string k)).run P w=.ok () w:=by unfold Instr.checkKey;simp[run_underlying e]
def JZ{P:aE}{T D x:aC}{z:aa}(e:xi P T D x z){w:J}{h:Nat}{es:Array MapEntry}{clock:Nat}{ms:List (ByteArray×aa)}(B:w.heap[h]? =some (.map es clock))(C:jV es ms)(k:ByteArray):
  (Instr.lookup T (.map (some h)) (.string k) true).run P w=.ok (.tuple #[(jI ms k).getD z,.bool (jI ms k).isSome]) w:=by
 have y:=B3 (k:=k) (i:=0) C;have A:(getObj h).run P w=.ok (.map es clock) w:=by simp[getObj,k5,B]
 have d:=PX (ms:=ms) (k:=k) (i:=0);unfold Instr.lookup Instr.findKey;simp only[Sem.run_bind,run_underlying e.hT,Result.andThen_ok,A,Sem.run_pure,Hf e.hk,run_underlying e.hk,y];cases j:((ms.findIdx? λp=>ak (p.1=k)).bind λq=>(ms[q]?).map λp=>(0+q,p.2))with
 |none=>rw[j]at d;simp[<-d,R2 e.hz]
 |some E=>rw[j]at d;simp[<-d]
def Rw{P:aE}{T H B:aC}{z:aa}(q:xi P T H B z){w:J}{d:Nat}{es:Array MapEntry}{clock:Nat}{ms:List (ByteArray×aa)}(h:w.heap[d]? =some (.map es clock))(j:jV es ms)(k:ByteArray)(v:aa)(F:jI ms k=none):
  ∃e x,(Instr.mapUpdate T (.map (some d)) (.string k) v).run P w=.ok () e/\e.heap[d]? =some (.map x (clock+1))/\jV x (ms++[(k,v)])/\Fr (λb=>b=d) w e/\e.heap.size=w.heap.size:=by
 have C:=B3 (k:=k) (i:=0) j;have D:(getObj d).run P w=.ok (.map es clock) w:=by simp[getObj,k5,h]
 have y:=PX (ms:=ms) (k:=k) (i:=0);have E:=lt_of_heap h;have G:((ms.findIdx? λp=>ak (p.1=k)).bind λA=>(ms[A]?).map λp=>(0+A,p.2))=none:=by rw[F]at y;simpa using y
 refine⟨{w with heap:=w.heap.setIfInBounds d (.map (es.push {key:=.string k,val:=v,born:=clock}) (clock+1))},es.push {key:=.string k,val:=v,born:=clock},?_,by simp[E],?_,Fr.setObj w d _ rfl,by simp⟩
 .unfold Instr.mapUpdate Instr.findKey;simp only[Sem.run_bind,run_underlying q.hT,Result.andThen_ok,D,Hf q.hk,run_underlying q.hk,C,G];simp[setObj,k5,h]
 .unfold jV at j ⊢;simp[j]
def iP:List Nx->Nat->List (ByteArray×aa)
 |[],_=>[]
 |d::g,i=>(j4 d,.i (i:Int))::iP g (i+1)
def NZ(n:Nx):∀(g:List Nx) (i:Nat),iP (g++[n]) i=iP g i++[(j4 n,.i ((i+g.length:Nat):Int))]
 |[],i=>by simp[iP]
 |d::g,i=>by have:=NZ n g (i+1);simp only[jc,iP,this,List.length_cons];rw[show i+1+g.length=i+(g.length+1)by omega]
def DR{n:Nx}(q:0<=n.u):∀{g:List Nx} {i:Nat},(∀d∈g,0<=d.u)->jI (iP g i) (j4 n)=(hn n g i).map λk:Nat=>.i (k:Int)
 |[],i,_=>rfl
 |d::g,i,j=>by
  have w:=DR q (g:=g) (i:=i+1) λe x=>j e (by simp[x]);unfold jI at w ⊢;unfold iP hn;by_cases h:d=n
  .subst h;simp
  .have y:¬j4 d=j4 n:=λe=>h (WD (j d (by simp)) q e);rw[af h,List.find?_cons];simp only[aW y];exact w
def hY:List Nx->List (ByteArray×aa)
 |[]=>[]
 |d::g=>if d.op=0 then(d.tx,dO d.st)::hY g else hY g
def RA(n:Nx):∀(g:List Nx),hY (g++[n])=hY g++(if n.op=0 then[(n.tx,dO n.st)]else[])
 |[]=>by unfold hY;simp only[lN,hY]
 |d::g=>by have:=RA n g;simp only[jc,hY,this];split<;>simp
def Fy(t:ByteArray):∀(g:List Nx),jI (hY g) t=(jO g t).map dO
 |[]=>rfl
 |k::g=>by
  have j:=Fy t g;unfold jI at j ⊢;unfold hY jO;by_cases d:k.op=0
  .rw [aq d,List.find?_cons];by_cases e:k.tx=t
   .rw [aq ⟨d,e⟩];simp[e]
   .rw [af (λh=>e h.2)];simp only[aW e];exact j
  .rw [af d,af (λh=>d h.1)];exact j
end Go.Proofs.YthhmdddomhknaaaGreatDoor
