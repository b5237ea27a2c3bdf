import Derived.Test.YtkbmpalepmakmaaGreatDoorN0
import Derived.Test.YtkbmpalepmakmaaGreatDoorVP
import Derived.Test.YtkbmpalepmakmaaGreatDoorU
set_option linter.unusedVariables false
set_option linter.defProp false
set_option maxRecDepth 100000
noncomputable section
namespace Go.Proofs.YtkbmpalepmakmaaGreatDoor
open Go renaming World->I,Calls->ah,Value->V,TypeId->aD,Ending->cZ
open Go.IntKind renaming wrap->aE
open _root_.Int renaming toNat->aY,toNat_natCast->cb
open _root_.ByteArray renaming mk->bh
open Go.IntWalk renaming i64_in->bH
open Go.Builtin renaming append_->fL
open _root_.Bool renaming and_eq_true->bf,not_eq_true->iu
open _root_.Nat renaming le_refl->bz,le_trans->bI,beq->bQ
open _root_.UInt8 renaming ofNat->c9
open _root_.Prod.mk renaming injEq->fB
open _root_.Option.some renaming injEq->fC
open Go.Proofs.Tryz renaming prog->U
open _root_.Decidable renaming decide->ak
open Go.Ending renaming returned->ab
open List renaming mem_append->aP,mem_cons->aF,not_mem_nil->aW,mem_of_getElem?->ay,getElem?_eq_getElem->a0,length_append->bM,length_cons->cD,length_nil->gX,drop_eq_getElem_cons->dG,all_eq_true->dF,drop_of_length_le->dH
open Go Go.W
def g0{s:ByteArray}{i:Nat}(d:i<s.size):s[i]? =some (gQ (bl s) i):=by rw[getElem?_pos s i d];unfold gQ;rw[List.getD_eq_getElem?_getD,a0 (show i<(bl s).length by rw[dd];exact d)];rfl
def yU{x:UInt8}{n:Nat}{A d:Prop}(q:n<256)(h:(x==c9 n)=true->A)(j:(x==c9 n)=false->d):bK ((x.toNat:Int)==(n:Int)) A d:=by
 have k:x.toNat=n↔x=c9 n:=by rw[<-UInt8.toNat_inj,UInt8.toNat_ofNat'];omega
 refine ax (λe=>h (by grind)) (λe=>j (by grind))
def yT{x:UInt8}{n:Nat}{A d:Prop}(q:n<256)(h:(x==c9 n)=false->A)(j:(x==c9 n)=true->d):bK ((x.toNat:Int) !=(n:Int)) A d:=by
 have k:x.toNat=n↔x=c9 n:=by rw[<-UInt8.toNat_inj,UInt8.toNat_ofNat'];omega
 refine cq (λe=>h (by grind)) (λe=>j (by grind))
def I8{p:UInt8->Prop}(d:∀e:Fin 256,p (c9 e.val))(c:UInt8):p c:=by have:=d ⟨c.toNat,c.toNat_lt⟩;simpa using this
def X':∀n:Fin 16,(bh #[48,49,50,51,52,53,54,55,56,57,97,98,99,100,101,102])[n.val]? =some (iZ n.val):=by decide+kernel
def DP(n:Nat)(d:n<16)(w:I):ah U N1 #[.i (n:Int)] w λr e=>r=ab (.int .u8 ((iZ n).toNat:Int))/\af w e:=
 K4.ok ⟨io,_,X' ⟨n,d⟩,rfl,Fr.refl _ _⟩
def JY(c:UInt8)(w:I):ah U N7 #[.int .u8 (c.toNat:Int)] w λr q=>r=ab (.bool (oZ c))/\af w q:=by
 refine K8.ok (aS (λj=>aS (λk=>yT (n:=39) io (λe=>⟨?_,Fr.refl _ _⟩) (λe=>⟨?_,Fr.refl _ _⟩)) (λk=>⟨?_,Fr.refl _ _⟩)) (λj=>⟨?_,Fr.refl _ _⟩))
 .have d:((c.toNat:Int) !=92)= !(c==92):=by
   have:=@yT c 92 ((((c.toNat:Int) !=92)=true)/\(c==92)=false) ((((c.toNat:Int) !=92)=false)/\(c==92)=true);cases x:((c.toNat:Int) !=92)with
   |true=>
    have h:c≠92:=λd=>by subst d;grind
    grind
   |false=>
    have h:c=92:=by
     rw[<-UInt8.toNat_inj]
     grind
    grind
  rw[d];unfold oZ
  grind
 .have e:(c==39)=true:=e;unfold oZ
  grind
 .unfold oZ
  grind
 .unfold oZ
  grind
def abz:∀n:Fin 16,i6 (iZ n.val)=(n.val:Int):=by decide+kernel
def abB:∀d:Fin 256,i6 (c9 d.val)=-1\/∃n:Fin 16,iZ n.val=c9 d.val:=by decide+kernel
def abA:∀d:Fin 256,i6 (c9 d.val)<16:=by decide+kernel
def zF(c:UInt8)(w:I):ah U N6 #[.int .u8 (c.toNat:Int)] w λr j=>r=ab (.int .i64 (i6 c))/\af w j:=by
 have loop:∀(d i:Nat) (e:I),i+d=16->(∀h,h<i->iZ h≠c)->af w e->w6.L0 c.toNat (i:Int) e λr j=>r=ab (.int .i64 (i6 c))/\af w j:=by
  intro d;induction d with
  |zero=>
   intro i e x y f;refine w6.cH (aT (a7 io) ⟨?_,f⟩);have:=I8 (p:=λc=>i6 c=-1\/∃n:Fin 16,iZ n.val=c) abB c
   grind
  |succ d z=>
   intro i e x y f;refine w6.cH (aR (a6 io) ((DP i io e).mono ?_));rintro _ A ⟨rfl,k⟩;refine⟨_,rfl,ax (λq=>⟨?_,f.gq k⟩) (λq=>?_)⟩
   .have B:iZ i=c:=by rw[<-UInt8.toNat_inj];omega
    have:=abz ⟨i,io⟩
    grind
   .rw [bt _ io];refine z (i+1) A io (λh C=>?_) (f.gq k)
    grind
 exact w6.ok (loop 16 0 w io (λh q=>io) (Fr.refl _ _))
def Bi(x:UInt8×Nat):cZ:=ab (.tuple #[.int .u8 (x.1.toNat:Int),.i (x.2:Int)])
def abE:∀d e:Fin 16,aE .u8 (aE .i64 ((aE .i64 (16 *(d.val:Int)))+(e.val:Int)))=((c9 ((16 *(d.val:Int)+(e.val:Int)).toNat)).toNat:Int):=by decide+kernel
def QL{c:UInt8}(e:0<=i6 c):∃d:Fin 16,i6 c=(d.val:Int):=by have:=I8 (p:=λc=>i6 c<16) abA c;exact⟨⟨(i6 c).toNat,io⟩,by grind⟩
def DO(s:ByteArray)(i:Nat)(hi:i<=1000000)(w:I):ah U N0 #[.string s,.i (i:Int)] w λr d=>r=Bi (ia (bl s) i)/\af w d:=by
 have x:aE .i64 ((i:Int)+1)=((i+1:Nat):Int):=by rw[bH _ io];omega
 have y:aE .i64 ((i:Int)+2)=((i+2:Nat):Int):=by rw[bH _ io];omega
 have z:aE .i64 ((i:Int)+3)=((i+3:Nat):Int):=by rw[bH _ io];omega
 have E:aE .i64 ((i:Int)+4)=((i+4:Nat):Int):=by rw[bH _ io];omega
 have T:(bl s).length=s.size:=dd s;have no:∀d,af w d->ia (bl s) i=(0,0)->w5.S1 d (λr d=>r=Bi (ia (bl s) i)/\af w d):=λd f B=>⟨by rw[B];rfl,f⟩;have st:∀d,af w d->(ak (i+3<=(bl s).length)&&gQ (bl s) i==39&&gQ (bl s) (i+2)==39&&oZ (gQ (bl s) (i+1)))=false->w5.S0 s (i:Int) d (λr d=>r=Bi (ia (bl s) i)/\af w d):=by
  intro d f W;have D:(ak (i+4<=(bl s).length)&&gQ (bl s) i==92&&gQ (bl s) (i+1)==120&&ak (0<=i6 (gQ (bl s) (i+2)))&&ak (0<=i6 (gQ (bl s) (i+3))))=false->∀d,af w d->w5.S1 d (λr d=>r=Bi (ia (bl s) i)/\af w d):=λB d f=>no d f (by
   unfold ia
   grind)
  show bK _ _ _;rw[E,z,y,x];refine aS (λL=>⟨io,_,g0 (i:=i) io,yU (n:=92) io (λe=>⟨io,_,g0 (i:=i+1) io,yU (n:=120) io (λh=>⟨io,_,g0 (i:=i+2) io,(zF _ d).mono ?_⟩) (λh=>?_)⟩) (λe=>?_)⟩) (λL=>?_)
  rotate_left
  .grind
  .grind
  .grind
  rintro _ k ⟨rfl,j⟩;refine⟨_,rfl,aS (λM=>⟨io,_,g0 (i:=i+3) io,(zF _ k).mono ?_⟩) (λM=>D (by grind) k (f.gq j))⟩;rintro _ q ⟨rfl,A⟩;refine⟨_,rfl,aS (λO=>?_) (λO=>D (by grind) q ((f.gq j).gq A))⟩;have G:af w q.drew:=((f.gq j).gq A).gq (Fr.drew _ _);refine(show uE q _ from ?_);refine⟨io,_,g0 (i:=i+2) io,io,_,g0 (i:=i+3) io,(zF _ _).mono ?_⟩;rintro _ Y ⟨rfl,H⟩;refine⟨_,rfl,(zF _ _).mono ?_⟩;rintro _ Z ⟨rfl,J⟩;refine⟨_,rfl,?_,(G.gq H).gq J⟩;have e:(gQ (bl s) i==92)=true:=e;have h:(gQ (bl s) (i+1)==120)=true:=h;have F:ia (bl s) i=(c9 ((16 *i6 (gQ (bl s) (i+2))+i6 (gQ (bl s) (i+3))).toNat),4):=by
   unfold ia
   grind
  rw[F];obtain⟨Q,N⟩:=QL (c:=gQ (bl s) (i+2)) io;obtain⟨S,P⟩:=QL (c:=gQ (bl s) (i+3)) io;rw[N,P,abE Q S];rfl
 refine w5.ok ?_;rw[z,y,x];refine aS (λK=>⟨io,_,g0 (i:=i) io,yU (n:=39) io (λe=>⟨io,_,g0 (i:=i+2) io,yU (n:=39) io (λh=>⟨io,_,g0 (i:=i+1) io,(JY _ w).mono ?_⟩) (λh=>?_)⟩) (λe=>?_)⟩) (λK=>?_)
 rotate_left
 .exact st w (Fr.refl _ _) (by grind)
 .exact st w (Fr.refl _ _) (by grind)
 .exact st w (Fr.refl _ _) (by grind)
 rintro _ k ⟨rfl,j⟩;refine⟨_,rfl,bm (λC=>⟨io,_,g0 (i:=i+1) io,?_,j⟩) (λC=>st k j (by grind))⟩;have e:(gQ (bl s) i==39)=true:=e;have h:(gQ (bl s) (i+2)==39)=true:=h;unfold ia;rw[e,h,C,a6 (show i+3<=(bl s).length by omega)];rfl
def Dv(s:BL)(i:Nat):(ia s i).2<=4/\(0<(ia s i).2->i+(ia s i).2<=s.length):=by
 unfold ia
 grind
def Hx(g:CY):cZ:=ab (.tuple #[.agg #[.i (g.k:Int),.int .u8 (g.lo.toNat:Int),.int .u8 (g.hi.toNat:Int),.slice none 0 0],.i (g.n:Int)])
def R3(s:BL)(i:Nat):i+(kZ s i).n<=s.length\/(kZ s i).n=0:=by
 unfold kZ;simp only;have d:=Dv s i;split
 .grind
 .split
  .exact .inr rfl
  .split
   .exact .inr rfl
   .split
    .exact .inr rfl
    grind
def Xl(s:ByteArray)(Z:s.size<=100000)(i:Nat)(hi:i<s.size)(w:I):ah U N9 #[.string s,.i (i:Int)] w λr w'=>r=Hx (kZ (bl s) i)/\af w w':=by
 have Y:(bl s).length=s.size:=dd s;refine uI.aq ((bZ [] us).aw λb T G=>G.av (DO s i io T) ?_);rintro _ W rfl B;refine⟨_,_,rfl,aS (λQ=>B.ae λe d=>⟨?_,d.fr⟩) (λQ=>⟨io,_,g0 (i:=i) hi,yT (n:=91) io (λh=>B.ae λe d=>⟨?_,d.fr⟩) (λh=>?_)⟩)⟩
 .unfold kZ;simp only;rw[ag io];rfl
 .have h:(gQ (bl s) i==91)=false:=h;unfold kZ;simp only;rw[ad io,ag (beq_eq_false_iff_ne.1 h)];rfl
 have h:gQ (bl s) i=91:=eq_of_beq h;rw[bt _ io];refine B.av (DO s (i+1) io W) ?_;rintro _ e rfl d;have J:=Dv (bl s) (i+1);have bad:∀(w':I),O F0 w w' [.g b] []->kZ (bl s) i=sS->uI.bg b 0 0 0 ⟨none,0,0⟩ w' λr w'=>r=Hx (kZ (bl s) i)/\af w w':=λw' z E=>z.ae λS A=>⟨by rw[E];rfl,A.fr⟩;have x:∀(w':I),O F0 w w' [.g b] []->kZ (bl s) i=sS->uI.cM b 0 0 0 ⟨none,0,0⟩ w' λr w'=>r=Hx (kZ (bl s) i)/\af w w':=λw' z E=>z.ae λS A=>⟨by rw[E];rfl,A.fr⟩;have k:kZ (bl s) i=(let a:=ia (bl s) (i+1)
   let dash:=i+1+a.2
   if a.2=0\/(bl s).length<=dash\/gQ (bl s) dash≠45 then sS else
   let c:=ia (bl s) (dash+1)
   let fin:=dash+1+c.2
   if c.2=0\/(bl s).length<=fin\/gQ (bl s) fin≠93\/c.1.toNat<a.1.toNat then sS else⟨2,a.1,c.1,fin+1 - i⟩):=by
  conv=>lhs;unfold kZ
  grind
 simp only at k;generalize ia (bl s) (i+1)=a at J k;refine⟨_,_,rfl,?_⟩;have M:aE .i64 (((i+1:Nat):Int)+(a.2:Int))=((i+1+a.2:Nat):Int):=by rw[bH _ io];omega
 show uI.aV s (i:Int) b 0 0 0 ⟨none,0,0⟩ (a.1.toNat:Int) (a.2:Int) (aE .i64 (((i+1:Nat):Int)+(a.2:Int))) e _;rw[M];refine ax (λC=>bad e d (by grind)) (λC=>aS (λD=>bad e d (by grind)) (λD=>⟨io,_,g0 (i:=i+1+a.2) io,yT (n:=45) io (λy=>bad e d (by grind)) (λy=>?_)⟩));have y:gQ (bl s) (i+1+a.2)=45:=eq_of_beq y;rw[ad (by grind)]at k;rw[bt _ io];refine d.av (DO s (i+1+a.2+1) io e) ?_;rintro _ q rfl j;have K:=Dv (bl s) (i+1+a.2+1);generalize ia (bl s) (i+1+a.2+1)=c at K k;refine⟨_,_,rfl,?_⟩;have P:aE .i64 (((i+1+a.2+1:Nat):Int)+(c.2:Int))=((i+1+a.2+1+c.2:Nat):Int):=by rw[bH _ io];omega
 show uI.bL s (i:Int) b 0 0 0 ⟨none,0,0⟩ (a.1.toNat:Int) (c.1.toNat:Int) (c.2:Int) (aE .i64 (((i+1+a.2+1:Nat):Int)+(c.2:Int))) q _;rw[P];refine ax (λC=>x q j (by grind)) (λC=>aS (λD=>x q j (by grind)) (λD=>⟨io,_,g0 (i:=i+1+a.2+1+c.2) io,yT (n:=93) io (λy=>x q j (by grind)) (λF=>aS (λL=>x q j (by grind)) (λL=>j.ae λw5 H=>⟨?_,H.fr⟩))⟩));have F:gQ (bl s) (i+1+a.2+1+c.2)=93:=eq_of_beq F;rw[k,ad (by grind)];have N:aE .i64 ((aE .i64 (((i+1+a.2+1+c.2:Nat):Int)+1)) - (i:Int))=((i+1+a.2+1+c.2+1 - i:Nat):Int):=by rw[bt _ io,bH _ io];omega
 rw[N];rfl
def dQ.c(t:dQ):List V:=[.string (ba t.tx),.i (t.at_:Int),.i (t.k:Int),.int .u8 (t.lo.toNat:Int),.int .u8 (t.hi.toNat:Int),.slice none 0 0]
def UM(t:dQ):t.c.length=6:=rfl
def UN(l:List dQ)(t:dQ):l.flatMap dQ.c++t.c=(l++[t]).flatMap dQ.c:=us
def yL{w:I}{s:Sl}{l:List dQ}(d:bA 6 w s (l.flatMap dQ.c)):s.n=l.length:=by have:=d.1;rw[pO dQ.c 6 UM]at this;omega
def KO:gg U Ce qy (.agg #[.s0,.i 0,.i 0,.int .u8 0,.int .u8 0,.slice none 0 0]) 6 64:=⟨by kernel_rfl,by kernel_rfl,rfl,dl,dl⟩
def IZ(w:I)(l:List dQ)(r:cZ)(w':I):Prop:=∃d:Sl,r=ab d.v/\aJ w' qy 6 d (l.flatMap dQ.c)/\∀e∈aG d,w.heap.size<=e
def Jk(s:ByteArray)(i j:Nat):s.extract i j=ba (((bl s).take j).drop i):=by
 have:bl (s.extract i j)=((bl s).take j).drop i:=by unfold bl;rw[ByteArray.data_extract,Array.toList_extract,List.extract_eq_take_drop];rw[List.drop_take]
 rw[<-this,jW]
def Nc(c:UInt8){A d:Prop}(h:eL c=true->A)(e:eL c=false->d):bK (ak ((c.toNat:Int)>=97)) (bK (ak ((c.toNat:Int)<=122)) A d) d:=
 aS (λj=>aS (λk=>h (by unfold eL;grind)) (λk=>e (by unfold eL;grind))) (λj=>e (by unfold eL;grind))
def S'(s:BL)(i:Nat):∀(f n:Nat),i+n<=s.length->n<=o4 s i f n/\i+o4 s i f n<=s.length
 |0,n,d=>⟨bz _,d⟩
 |f+1,n,d=>by
  unfold o4;split
  .rename_i e;simp only[bf,decide_eq_true_eq]at e;have:=S' s i f (n+1) io;omega
  omega
def WO(s:ByteArray)(hs:s.size<=100000)(w:I):ah U NY #[.string s] w λr F=>IZ w (oh (bl s)) r F/\af w F:=by
 have hl:(bl s).length=s.size:=dd s
 let j:aC:=λr F=>IZ w (oh (bl s)) r F/\af w F
 have fin:∀(acc:List dQ) (sl:Sl) (q:I),acc.length<=s.size->oh (bl s)=acc++[⟨[],(bl s).length,0,0,0⟩]->O F0 w q [.row qy 6 sl (acc.flatMap dQ.c)] []->
   dh q (.cells #[.s0,.i (s.size:Int),.i 0,.int .u8 0,.int .u8 0,.slice none 0 0] qy) λw7=>
 ∃(t81:Sl) (Y:I),Sem.run U (fL #[Ce,Ce] Ce #[sl.v,.slice (some (nb q)) 1 1]) w7=.ok (t81.v) Y/\j (ab (t81.v)) Y:=by intro acc sl q ha h A;have ai:=yL (A.get 0:aJ _ _ _ _ _).a9;refine A.wG 0 KO rfl (λN w2 D _ _=>⟨⟨N,rfl,?_,λaj hx=>(D.new _ (ay (i:=0) rfl) aj hx).resolve_right id⟩,D.fr⟩) io;rw[h,<-UN];exact D.get 0
 have loop:∀(f i:Nat) (acc:List dQ) (sl:Sl) (q:I),s.size<f+i->i<=s.size->acc.length<=i->oh (bl s)=acc++qw (bl s) f i->O F0 w q [.row qy 6 sl (acc.flatMap dQ.c)] []->kJ.aX s sl (i:Int) q j:=by
  intro f;induction f with
  |zero=>omega
  |succ f S=>
   intro i acc sl q hf an am h A;refine kJ.bR (aS (λaa=>⟨io,_,g0 (i:=i) io,?_⟩) (λaa=>fin acc sl q io (by rw[h];unfold qw;grind) A))
   unfold qw at h;rw[ad io]at h;refine yU (n:=32) io (λz=>?_) (λz=>?_)
   .have z:gQ (bl s) i=32:=eq_of_beq z;rw[ag z]at h;rw[bt _ io];exact S (i+1) acc sl q io io io h A
   have z:gQ (bl s) i≠32:=beq_eq_false_iff_ne.1 z;rw[ad z]at h;simp only at h;refine A.call (Xl s hs i io q) ?_;rintro _ w2 rfl D;have B:=R3 (bl s) i;generalize kZ (bl s) i=g at h B;refine⟨_,_,_,⟨none,0,0⟩,_,rfl,D.aw λb w3 G=>?_⟩;have G:O F0 w w3 [.row qy 6 sl (acc.flatMap dQ.c),.g b] []:=G;have one:∀(n:Nat) (C:I),1<=n->i+n<=s.size->oh (bl s)=acc++⟨((bl s).take (i+n)).drop i,i,g.k,g.lo,g.hi⟩::qw (bl s) f (i+n)->O F0 w C [.row qy 6 sl (acc.flatMap dQ.c),.g b] []->
     kJ.bL s sl (i:Int) b (g.k:Int) (g.lo.toNat:Int) (g.hi.toNat:Int) ⟨none,0,0⟩ (n:Int) C j:=by
    intro n C K J Q H;show(0:Int)<=_/\_;have E:aE .i64 ((i:Int)+(n:Int))=((i+n:Nat):Int):=by rw[bH _ io];omega
    rw[E,cb,cb,Jk];refine⟨io,io,io,io,H.ae λd x=>?_⟩;have ai:=yL (x.get 0:aJ _ _ _ _ _).a9;refine x.jo 0 KO rfl (λN w6 Z=>?_) io;refine S (i+n) (acc++[⟨((bl s).take (i+n)).drop i,i,g.k,g.lo,g.hi⟩]) N w6 io io (by grind) (by grind) ?_;rw[<-UN];exact Z.take 1
   refine ax (λL=>G.ae λC H=>?_) (λL=>G.ae λC H=>one g.n C io io (by grind) H);have L:g.n=0:=io
   rw[ag L]at h;have word:∀(e n:Nat) (d:I),s.size<=e+(i+n)->1<=n->i+n<=s.size->o4 (bl s) i (bl s).length 1=o4 (bl s) i e n->O F0 w d [.row qy 6 sl (acc.flatMap dQ.c),.g b] []->
     kJ.cA s sl (i:Int) b (g.k:Int) (g.lo.toNat:Int) (g.hi.toNat:Int) ⟨none,0,0⟩ (n:Int) d j:=by
    intro e;induction e with
    |zero=>
     intro n d Q K J B x;have stop:kJ.bL s sl (i:Int) b (g.k:Int) (g.lo.toNat:Int) (g.hi.toNat:Int) ⟨none,0,0⟩ (n:Int) d j:=one n d K J (by rw[h,B];rfl) x;have E:aE .i64 ((i:Int)+(n:Int))=((i+n:Nat):Int):=by rw[bH _ io];omega
     refine kJ.dU ?_;rw[E];refine⟨io,_,g0 (i:=i) io,bm (λ_=>⟨io,_,g0 (i:=i) io,bm (λ_=>aT (a7 io) stop) (λ_=>stop)⟩) (λ_=>stop)⟩
    |succ e ac=>
     intro n d Q K J B x;have E:aE .i64 ((i:Int)+(n:Int))=((i+n:Nat):Int):=by rw[bH _ io];omega
     have stop:(eL (gQ (bl s) i)&&ak (i+n<(bl s).length)&&eL (gQ (bl s) (i+n)))=false->kJ.bL s sl (i:Int) b (g.k:Int) (g.lo.toNat:Int) (g.hi.toNat:Int) ⟨none,0,0⟩ (n:Int) d j:=λy=>one n d K J (by
      rw[h,B];conv=>lhs;unfold o4
      rw[y];rfl) x
     refine kJ.dU ?_;rw[E];refine⟨io,_,g0 (i:=i) io,?_⟩;have go:eL (gQ (bl s) i)=true->bK (ak (((i+n:Nat):Int)<(s.size:Int))) ((0:Int)<=((i+n:Nat):Int)/\∃T:UInt8,s[aY ((i+n:Nat):Int)]? =some T/\bK (ak ((T.toNat:Int)>=97)) ((0:Int)<=((i+n:Nat):Int)/\∃W:UInt8,s[aY ((i+n:Nat):Int)]? =some W/\bK (ak ((W.toNat:Int)<=122)) (kJ.cA s sl (i:Int) b (g.k:Int) (g.lo.toNat:Int) (g.hi.toNat:Int) ⟨none,0,0⟩ (aE .i64 ((n:Int)+1)) d j) (kJ.bL s sl (i:Int) b (g.k:Int) (g.lo.toNat:Int) (g.hi.toNat:Int) ⟨none,0,0⟩ (n:Int) d j)) (kJ.bL s sl (i:Int) b (g.k:Int) (g.lo.toNat:Int) (g.hi.toNat:Int) ⟨none,0,0⟩ (n:Int) d j)) (kJ.bL s sl (i:Int) b (g.k:Int) (g.lo.toNat:Int) (g.hi.toNat:Int) ⟨none,0,0⟩ (n:Int) d j):=by
      intro h1;refine aS (λh2=>⟨io,_,g0 (i:=i+n) io,?_⟩) (λh2=>stop (by grind));have key:eL (gQ (bl s) (i+n))=true->kJ.cA s sl (i:Int) b (g.k:Int) (g.lo.toNat:Int) (g.hi.toNat:Int) ⟨none,0,0⟩ (aE .i64 ((n:Int)+1)) d j:=λP=>by
       rw[bt _ io];refine ac (n+1) d io io io ?_ x;rw[B];conv=>lhs;unfold o4
       grind
      have M:eL (gQ (bl s) (i+n))=false->_:=λP=>stop (by grind);have y:=Nc (gQ (bl s) (i+n)) key M;exact Tp y (λy=>⟨io,_,g0 (i:=i+n) io,y⟩) id
     have M:eL (gQ (bl s) i)=false->_:=λP=>stop (by grind);exact Tp (Nc (gQ (bl s) i) go M) (λy=>⟨io,_,g0 (i:=i) io,y⟩) id
   grind
 refine kJ.aq ?_;exact loop (s.size+1) 0 [] ⟨none,0,0⟩ w io io us (by unfold oh;grind) ((bZ [] us).iH qy 6)
abbrev R4(s:Sl)(st:bV):List V:=[s.v,.i (st.1:Int),.bool st.2]
abbrev cX(d:Nat)(s:Sl)(st:bV):En:=.c d (R4 s st) UU
abbrev da(s:Sl)(l:List dQ):En:=.a9 6 s (l.flatMap dQ.c)
abbrev SA(e:Nat)(s:Sl)(w:I)(A:aC)(st:bV):aC:=λr d=>(A r d/\d.heap[e]? =some (.cells (R4 s st).toArray UU (0,0)))/\Fr (·=e) w d
abbrev jl(d:Nat)(s:Sl)(l:List dQ)(st:bV)(w:I):Prop:=O (·=d) w w [cX d s st] [da s l]
def _root_.Go.W.O.gE{M:Nat->Prop}{w0 w:I}{L D:List En}{h:Nat}{s:Sl}{l:List dQ}{st:bV}(H:O M w0 w (cX h s st::L) (da s l::D)):jl h s l st w:=
 O.og _ _ (by
  intro k d;simp only[aF,aW,a2]at d;subst d;exact⟨H.get 0,λb e=>r0.1 e⟩) (by
  simp only[List.flatMap_cons,List.flatMap_nil,List.append_nil];exact(cX h s st).nd) (by
  intro k d;simp only[aF,aW,a2]at d;subst d;exact⟨H.getD 0,λb e q j=>by simp only[aF,aW,a2]at j;subst j;exact H.dj _ List.mem_cons_self b e _ List.mem_cons_self⟩)
structure I0(w:I)(p:Addr)(i:Nat)(t:dQ):Prop where
 c0:w.cell? ((p.add (i *6)).add 0)=some (.string (ba t.tx))
 c1:w.cell? ((p.add (i *6)).add 1)=some (.i (t.at_:Int))
 c2:w.cell? ((p.add (i *6)).add 2)=some (.i (t.k:Int))
 c3:w.cell? ((p.add (i *6)).add 3)=some (.int .u8 (t.lo.toNat:Int))
 c4:w.cell? ((p.add (i *6)).add 4)=some (.int .u8 (t.hi.toNat:Int))
 c5:w.cell? ((p.add (i *6)).add 5)=some (.slice none 0 0)
def yM{w:I}{s:Sl}{l:List dQ}(e:bA 6 w s (l.flatMap dQ.c)){i:Nat}(hi:i<l.length){K:Addr->Prop}(j:∀p,s.a=some p->I0 w p i (f' l i)->K p):ea s.a K:=by
 have h:l[i]? =some (f' l i):=by unfold f';rw[List.getD_eq_getElem?_getD,a0 hi];rfl
 exact gb.elem (f:=dQ.c) (sz:=6) UM io e.2.2 h λp k d=>j p k ⟨d 0 _ rfl,d 1 _ rfl,d 2 _ rfl,d 3 _ rfl,d 4 _ rfl,d 5 _ rfl⟩
def jV(l:List dQ):Prop:=0<l.length/\(f' l (l.length - 1)).tx=[]/\(f' l (l.length - 1)).k=0
section
variable {pb:Nat} {s:Sl} {l:List dQ} {st:bV} {w:I}
def DQ(H:jl pb s l st w)(hi:st.1<l.length):ah U Ob #[.pointer (some (aa pb))] w λr q=>r=ab (.string (ba (fx l st)))/\af w q:=by
 have k:st.2=true->fx l st=[32]:=λe=>by unfold fx;rw[e];rfl
 have j:st.2=false->fx l st=(f' l st.1).tx:=λe=>by unfold fx;rw[e];rfl
 generalize fx l st=u at k j;refine Lc.ok ⟨st.2,H.ld 0 2,bm (λh=>⟨?_,Fr.refl _ _⟩) (λh=>?_)⟩
 .rw [k h];rfl
 rw[j h];have d:O (·=pb) w w.drew [cX pb s st] [da s l]:=H.drew;have x:=yL (d.getD 0:bA _ _ _ _);refine⟨s,d.ld 0 0,_,d.ld 0 1,io,io,yM (d.getD 0) hi λp y c=>⟨ba (f' l st.1).tx,?_,rfl,Fr.drew _ _⟩⟩;rw[cb];exact c.c0
def uj(a b:BL):((ba a).toList==(ba b).toList)=(a==b):=by rw[ByteArray.toList_eq,ByteArray.toList_eq];rfl
def MP(j:jV l)(hi:st.1<l.length)(k:fx l st≠[])(h:st.2=false):st.1+1<l.length:=by
 rcases Nat.lt_or_ge (st.1+1) l.length with d|d
 .exact d
 .exfalso;apply k;have e:st.1=l.length - 1:=io
  unfold fx;rw[h,e];exact j.2.1
def tA(k:jV l)(hi:st.1<l.length)(u:BL)(q:u≠[32]):(e3 l u st).2.1<l.length:=by
 unfold e3;cases d:fx l st==u with
 |false=>exact hi
 |true=>
  have d:=eq_of_beq d;cases j:u.isEmpty with
  |true=>exact hi
  |false=>
   show st.1+1<l.length;refine MP k hi (λe=>?_) ?_
   .rw [e]at d;subst d;cases j
   .cases h:st.2 with
    |false=>rfl
    |true=>
     exfalso;apply q;rw[<-d];unfold fx;rw[h];rfl
def r2(H:jl pb s l st w)(hi:st.1<l.length)(q:l.length<=1000000)(u:BL):ah U Od #[.pointer (some (aa pb)),.string (ba u)] w (SA pb s w (λr _=>r=ab (.bool (e3 l u st).1)) (e3 l u st).2):=by
 refine Ld.ok (H.call (DQ H hi) ?_);rintro _ x rfl e;refine⟨_,rfl,?_⟩;try dsimp only
 rw[uj];have k:((ba u).toList==(bh #[]).toList)=u.isEmpty:=by have:bh #[]=ba []:=rfl;rw[this,uj];cases u<;>rfl
 rw[k];refine eS (λd=>⟨⟨?_,?_⟩,e.fr⟩) (λd=>eS (λh=>⟨_,e.ld 0 1,?_⟩) (λh=>⟨⟨?_,?_⟩,e.fr⟩))
 .unfold e3;rw[d];rfl
 .have:(e3 l u st).2=st:=by unfold e3;rw[d];rfl
  rw[this];exact e.get 0
 .rw [bt _ io];refine e.st 0 1 rfl λy j=>⟨⟨?_,?_⟩,j.fr⟩
  .unfold e3;rw[d];rfl
  .have:(e3 l u st).2=(st.1+1,st.2):=by unfold e3;rw[d,h];rfl
   rw[this];exact j.get 0
 .unfold e3;rw[d];rfl
 .have:(e3 l u st).2=st:=by unfold e3;rw[d,h];rfl
  rw[this];exact e.get 0
def Qr(u:BL):lL l u st=bif (e3 l u st).1 then(e3 l u st).2 else((e3 l u st).2.1,true):=by unfold lL;generalize e3 l u st=x;obtain⟨b,d⟩:=x;cases b<;>rfl
def xR(d:jV l)(hi:st.1<l.length)(u:BL)(e:u≠[32]):(lL l u st).1<l.length:=by rw[Qr];have:=tA d hi u e;cases(e3 l u st).1<;>exact this
def wM(H:jl pb s l st w)(hi:st.1<l.length)(j:l.length<=1000000)(u:BL):ah U Oa #[.pointer (some (aa pb)),.string (ba u)] w (SA pb s w (λr _=>r=ab (.tuple #[])) (lL l u st)):=by
 refine Lb.ok (H.r3 (r2 H hi j u) ?_);rintro _ k rfl d _;rw[Qr];refine⟨_,rfl,eS (λe=>d.st 0 2 rfl λq h=>⟨⟨rfl,?_⟩,h.fr⟩) (λe=>⟨⟨rfl,?_⟩,d.fr⟩)⟩
 .rw [e];exact h.get 0
 .rw [e];exact d.get 0
def WT(H:jl pb s l st w)(hi:st.1<l.length):ah U N' #[.pointer (some (aa pb))] w λr z=>r=ab (.bool (zC l st))/\af w z:=by refine La.ok ((DQ H hi).mono ?_);rintro _ A ⟨rfl,e⟩;have h:=H.cB e;refine⟨_,rfl,st.2,h.ld 0 2,?_⟩;have d:∀u:List UInt8,((ba (fx l st)).toList==(ba u).toList)=(fx l st==u):=λu=>uj _ _;have j:=d [];have k:=d [41];have q:=d [44];have x:=d [124];have y:=d [38];unfold zC;show bK _ (bK (!((ba (fx l st)).toList==(ba []).toList)) (bK (!((ba (fx l st)).toList==(ba [41]).toList)) (bK (!((ba (fx l st)).toList==(ba [44]).toList)) (bK (!((ba (fx l st)).toList==(ba [124]).toList)) (Ending.returned (.bool (!((ba (fx l st)).toList==(ba [38]).toList)))=_/\af w A) _) _) _) _) _;rw[j,k,q,x,y];cases st.2<;>cases fx l st==[]<;>cases fx l st==[41]<;>cases fx l st==[44]<;>cases fx l st==[124]<;>first |exact⟨rfl,e⟩|skip
end
def DF(k:Int)(s:Sl)(l:List J)(w:I)(x:(bW s l).P w):ah U xH #[.i k,s.v] w λr y=>gL (bW s l).fp w (sA k (J.ao l)) r y/\af w y:=by
 have d:=J.cw (dB.1 x).1;refine K6.aq ((gT x).aw λb A h=>ax (λz=>?_) (λz=>h.ae λq e=>⟨⟨.mk k 0 0 s l,rfl,?_,?_,λb j=>.inr j⟩,e.fr⟩))
 .match l,d with
  |[],d=>simp at d;omega
  |a::b::m,d=>simp at d;omega
  |[a],d=>
   refine⟨io,io,J.a4 (dB.1 (show(bW s [a]).P A from h.getD 0)).1 (i:=0) rfl λp B c=>⟨_,_,_,_,c.c0,c.c1,c.c2,c.c3,h.ae λq e=>⟨⟨a,rfl,rfl,?_,λb j=>.inr ?_⟩,e.fr⟩⟩⟩
   .exact (dB.1 (show(bW s [a]).P q from e.getD 0)).2.mem us
   .exact nc.2 (.inr (J.b0.2 ⟨a,us,j⟩))
 .show Rx.mk k 0 0 (J.ao l)=_
  match l,d with
  |[],d=>rfl
  |[a],d=>simp at d;omega
  |a::b::m,d=>rfl
 .have:=dB.1 (show(bW s l).P q from e.getD 0);unfold J.P;exact this
structure nN(s:Sl)(l:List dQ)(n:Nat):Prop where
 expr:∀(pb:Nat) (st:bV) (w:I) (x:Rx) (hj:bV),mn l n st=some (x,hj)->st.1<l.length->jl pb s l st w->ah U FQ #[.pointer (some (aa pb))] w (SA pb s w (λr w'=>gv w x r w'/\hj.1<l.length) hj)
 Kz:∀(pb:Nat) (st:bV) (w:I) (x:Rx) (hj:bV),pE l n st=some (x,hj)->st.1<l.length->jl pb s l st w->ah U AL #[.pointer (some (aa pb))] w (SA pb s w (λr w'=>gv w x r w'/\hj.1<l.length) hj)
 seq:∀(pb:Nat) (st:bV) (w:I) (x:Rx) (hj:bV),qm l n st=some (x,hj)->st.1<l.length->jl pb s l st w->ah U AN #[.pointer (some (aa pb))] w (SA pb s w (λr w'=>gv w x r w'/\hj.1<l.length) hj)
 item:∀(pb:Nat) (st:bV) (w:I) (x:Rx) (hj:bV),n3 l n st=some (x,hj)->st.1<l.length->jl pb s l st w->ah U AM #[.pointer (some (aa pb))] w (SA pb s w (λr w'=>gv w x r w'/\hj.1<l.length) hj)
 atom:∀(pb:Nat) (st:bV) (w:I) (x:Rx) (hj:bV),rW l n st=some (x,hj)->st.1<l.length->jl pb s l st w->ah U FP #[.pointer (some (aa pb))] w (SA pb s w (λr w'=>gv w x r w'/\hj.1<l.length) hj)
 kids:∀(pb:Nat) (st:bV) (w:I) (m:List Rx) (hj:bV),sE l n st=some (m,hj)->st.1<l.length->jl pb s l st w->ah U FR #[.pointer (some (aa pb))] w (SA pb s w (λr w'=>(∃(sl:Sl) (a:List J),r=ab sl.v/\J.ao a=m/\(bW sl a).P w'/\∀b∈(bW sl a).fp,w.heap.size<=b)/\hj.1<l.length) hj)
def Bh{M:Nat->Prop}{w0 w:I}{L D:List En}{d:Nat}{s:Sl}{st:bV}(H:O M w0 w (cX d s st::L) D)(i:Nat){e:En}(hi:L[i]? =some e){b:Nat}(k:b∈e.fp):b≠d:=λh=>
 jX H.nd (i:=i+1) (by grind) (j:=0) rfl io b k (r0.2 h)
def _root_.Go.W.O.wV{M:Nat->Prop}{w0 w:I}{L D:List En}(H:O M w0 w L D)(j:Nat){t:J}(h:D[j]? =some (.tree t):=by rfl):O M w0 w L (D++[.trees [t]]):=by
 refine H.eO _ (Fr.refl _ _) (J.jL λq d=>?_) λb k=>.inr (.inr ?_)
 .simp at d;subst d;exact H.getD j h
 .obtain ⟨q,d,e⟩:=J.b0.1 (aU.1 k);simp at d;rw[d]at e;exact⟨_,ay h,aU.2 e⟩
section
variable {s:Sl} {l:List dQ} {n:Nat}
def LF(W:jV l)(T:l.length<=1000000)(Y:∀m,m<=n->nN s l m)(d:Nat)(w:I)(x:Rx)(y:bV):∀(f:Nat),f<=n->∀(acc:List J) (sl:Sl) (h:Nat) (H:I) (st:bV),uc l f (J.ao acc) st=some (x,y)->st.1<l.length->acc.length+f<=1000000->(∀b∈J.be acc,w.heap.size<=b)->
  O (·=d) w H [cX d s st,.g h,.row aI 4 sl (acc.flatMap J.c)] [da s l,.trees acc]->
  w8.aX (aa d) h 0 0 0 ⟨none,0,0⟩ sl H (SA d s w (λr D=>gv w x r D/\y.1<l.length) y)
 |0,_=>λacc sl h H st z=>by unfold uc at z;cases z
 |f+1,hf=>λacc sl h H st z S az ac K=>by
  have aB:=J.cw (K.get 2:aJ _ _ _ _ _).a9;unfold uc at z;have fin:∀(k:I) (j:bV),j.1<l.length->some (sA 4 (J.ao acc),j)=some (x,y)->O (·=d) w k [cX d s j,.g h,.row aI 4 sl (acc.flatMap J.c)] [da s l,.trees acc]->
    uv [h] xH #[.i 4,sl.v] k λan ap aq ar aw=>loc [h] aw λav=>SA d s w (λr D=>gv w x r D/\y.1<l.length) y (ab (.agg #[.i an,.int .u8 ap,.int .u8 aq,ar.v])) av:=by
   intro k j M F q;simp only[fC,fB]at F;obtain⟨rfl,rfl⟩:=F;have aA:∀b∈(bW sl acc).fp,w.heap.size<=b:=λb e=>by
    rcases nc.1 e with e|e
    .exact (q.new _ (ay (i:=2) rfl) b (gY e)).resolve_right (Bh q 1 rfl (gY e))
    grind
   have L:O (·=d) w k [cX d s j,.g h] [da s l,.trees acc,J.row sl acc,.tree (bW sl acc)]:=q.td 2 1 0 0 0;refine L.r5 (DF 4 sl acc k (L.getD 3)) (λb e=>⟨_,ay (i:=3) rfl,aU.2 e⟩) λt w3 C A ft=>?_;refine⟨_,_,_,t.s,rfl,A.ae λw4 B=>⟨⟨⟨⟨t,rfl,C,B.getD 4,λb e=>?_⟩,M⟩,B.get 0⟩,B.fr⟩⟩;rcases ft b e with e|e
   .exact bI L.fr.size e
   grind
  have more:∀(k:I) (j:bV),j.1<l.length->(match pE l f j with
   |some (a,st)=>uc l f (J.ao acc++[a]) st
   |none=>none)=some (x,y)->O (·=d) w k [cX d s j,.g h,.row aI 4 sl (acc.flatMap J.c)] [da s l,.trees acc]->
    uv [h] AL #[.pointer (some (aa d))] k λag ai aj am E=>dh E (.cells #[.i ag,.int .u8 ai,.int .u8 aj,am.v] aI) λw6=>
     ∃(t13:Sl) (N:I),Sem.run U (fL #[dq,dq] dq #[sl.v,.slice (some (nb E)) 1 1]) w6=.ok (t13.v) N/\kept [h] w6 N/\w8.aX (aa d) h 0 0 0 ⟨none,0,0⟩ t13 N (SA d s w (λr D=>gv w x r D/\y.1<l.length) y):=by
   intro k j M F q;cases Q:pE l f j with
   |none=>grind
   |some ax=>
    obtain⟨a,G⟩:=ax;rw[Q]at F;refine q.iX ((Y f io).Kz d j k a G Q M q.gE) ?_;rintro _ w3 ⟨⟨u,rfl,hu,pu,P⟩,ad⟩ _ F3;have A:=F3 (.tree u) pu λb e=>P b (aU.1 e);have A:O (·=d) w w3 [cX d s G,.g h,.row aI 4 sl (acc.flatMap J.c)] [da s l,.trees acc,.tree u]:=A;refine⟨_,_,_,u.s,rfl,A.jo 2 mg (xs:=acc.flatMap J.c) rfl (λZ E B=>?_) io⟩;have H6:O (·=d) w E [cX d s G,.g h,.row aI 4 Z ((acc++[u]).flatMap J.c)] [da s l,.trees (acc++[u])]:=by rw[nW];exact(B.th 1 2).forget _ us
    refine LF W T Y d w x y f io (acc++[u]) Z h E G ?_ ad (by grind) (uU ac λb e=>bI q.fr.size (P b e)) H6;rw[k0];have:J.ao [u]=[a]:=by simp[J.ao,hu]
    grind
  refine w8.bR (K.iX (r2 K.gE S T [124]) ?_);have C:=tA W S [124] dl;rintro _ k rfl q _;refine⟨_,rfl,?_⟩;cases hq:e3 l [124] st with
  |mk af j=>
   rw[hq]at z q C;cases af with
   |true=>exact more k j C z q
   |false=>exact fin k j C z q
def Yu(S:jV l)(Q:l.length<=1000000)(hn:n<=100000)(D:∀m,m<=n->nN s l m)(d:Nat)(st:bV)(w:I)(x:Rx)(k:bV)(B:mn l (n+1) st=some (x,k))(hi:st.1<l.length)(H:jl d s l st w):
  ah U FQ #[.pointer (some (aa d))] w (SA d s w (λr Y=>gv w x r Y/\k.1<l.length) k):=by
 unfold mn at B;cases A:pE l n st with
 |none=>grind
 |some Z=>
  obtain⟨a,q⟩:=Z;rw[A]at B;refine w8.aq (H.aw λj E h=>?_);have h:O (·=d) w E [cX d s st,.g j] [da s l]:=h;refine h.iX ((D n (bz _)).Kz d st E a q A hi h.gE) ?_;rintro _ F ⟨⟨u,rfl,T,W,z⟩,P⟩ _ K;have y:=K (.tree u) W λb e=>z b (aU.1 e);have y:O (·=d) w F [cX d s q,.g j] [da s l,.tree u]:=y;refine⟨_,_,_,u.s,rfl,y.fe (n:=1) (sz:=4) (cs:=u.c) rfl dl λG L=>?_⟩;have M:O (·=d) w G [cX d s q,.g j,.row aI 4 ⟨some (aa F.heap.size),1,1⟩ ([u].flatMap J.c)] [da s l,.trees [u]]:=by
   have N:[u].flatMap J.c=u.c:=us
   rw[N];exact(L.wV 1).forget _ us
  refine LF S Q D d w x k n (bz _) [u] _ j G q ?_ P (by grind) (λb e=>?_) M
  .have:J.ao [u]=[a]:=by simp[J.ao,T]
   grind
  .obtain ⟨t,C,e⟩:=J.b0.1 e;simp at C;rw[C]at e;exact bI h.fr.size (z b e)
def KD(W:jV l)(T:l.length<=1000000)(Y:∀m,m<=n->nN s l m)(d:Nat)(w:I)(x:Rx)(y:bV):∀(f:Nat),f<=n->∀(acc:List J) (sl:Sl) (h:Nat) (H:I) (st:bV),uf l f (J.ao acc) st=some (x,y)->st.1<l.length->acc.length+f<=1000000->(∀b∈J.be acc,w.heap.size<=b)->
  O (·=d) w H [cX d s st,.g h,.row aI 4 sl (acc.flatMap J.c)] [da s l,.trees acc]->
  w7.aX (aa d) h 0 0 0 ⟨none,0,0⟩ sl H (SA d s w (λr D=>gv w x r D/\y.1<l.length) y)
 |0,_=>λacc sl h H st z=>by unfold uf at z;cases z
 |f+1,hf=>λacc sl h H st z S ax ac K=>by
  have aA:=J.cw (K.get 2:aJ _ _ _ _ _).a9;unfold uf at z;have fin:∀(k:I) (j:bV),j.1<l.length->some (sA 5 (J.ao acc),j)=some (x,y)->O (·=d) w k [cX d s j,.g h,.row aI 4 sl (acc.flatMap J.c)] [da s l,.trees acc]->
    uv [h] xH #[.i 5,sl.v] k λan ap aq ar w8=>loc [h] w8 λav=>SA d s w (λr D=>gv w x r D/\y.1<l.length) y (ab (.agg #[.i an,.int .u8 ap,.int .u8 aq,ar.v])) av:=by
   intro k j M F q;simp only[fC,fB]at F;obtain⟨rfl,rfl⟩:=F;have az:∀b∈(bW sl acc).fp,w.heap.size<=b:=λb e=>by
    rcases nc.1 e with e|e
    .exact (q.new _ (ay (i:=2) rfl) b (gY e)).resolve_right (Bh q 1 rfl (gY e))
    grind
   have L:O (·=d) w k [cX d s j,.g h] [da s l,.trees acc,J.row sl acc,.tree (bW sl acc)]:=q.td 2 1 0 0 0;refine L.r5 (DF 5 sl acc k (L.getD 3)) (λb e=>⟨_,ay (i:=3) rfl,aU.2 e⟩) λt w3 C A ft=>?_;refine⟨_,_,_,t.s,rfl,A.ae λw4 B=>⟨⟨⟨⟨t,rfl,C,B.getD 4,λb e=>?_⟩,M⟩,B.get 0⟩,B.fr⟩⟩;rcases ft b e with e|e
   .exact bI L.fr.size e
   grind
  have more:∀(k:I) (j:bV),j.1<l.length->(match qm l f j with
   |some (a,st)=>uf l f (J.ao acc++[a]) st
   |none=>none)=some (x,y)->O (·=d) w k [cX d s j,.g h,.row aI 4 sl (acc.flatMap J.c)] [da s l,.trees acc]->
    uv [h] AN #[.pointer (some (aa d))] k λag ai aj am E=>dh E (.cells #[.i ag,.int .u8 ai,.int .u8 aj,am.v] aI) λw6=>
     ∃(t13:Sl) (N:I),Sem.run U (fL #[dq,dq] dq #[sl.v,.slice (some (nb E)) 1 1]) w6=.ok (t13.v) N/\kept [h] w6 N/\w7.aX (aa d) h 0 0 0 ⟨none,0,0⟩ t13 N (SA d s w (λr D=>gv w x r D/\y.1<l.length) y):=by
   intro k j M F q;cases Q:qm l f j with
   |none=>grind
   |some aw=>
    obtain⟨a,G⟩:=aw;rw[Q]at F;refine q.iX ((Y f io).seq d j k a G Q M q.gE) ?_;rintro _ w3 ⟨⟨u,rfl,hu,pu,P⟩,ad⟩ _ F3;have A:=F3 (.tree u) pu λb e=>P b (aU.1 e);have A:O (·=d) w w3 [cX d s G,.g h,.row aI 4 sl (acc.flatMap J.c)] [da s l,.trees acc,.tree u]:=A;refine⟨_,_,_,u.s,rfl,A.jo 2 mg (xs:=acc.flatMap J.c) rfl (λZ E B=>?_) io⟩;have H6:O (·=d) w E [cX d s G,.g h,.row aI 4 Z ((acc++[u]).flatMap J.c)] [da s l,.trees (acc++[u])]:=by rw[nW];exact(B.th 1 2).forget _ us
    refine KD W T Y d w x y f io (acc++[u]) Z h E G ?_ ad (by grind) (uU ac λb e=>bI q.fr.size (P b e)) H6;rw[k0];have:J.ao [u]=[a]:=by simp[J.ao,hu]
    grind
  refine w7.bR (K.iX (r2 K.gE S T [38]) ?_);have C:=tA W S [38] dl;rintro _ k rfl q _;refine⟨_,rfl,?_⟩;cases hq:e3 l [38] st with
  |mk af j=>
   rw[hq]at z q C;cases af with
   |true=>exact more k j C z q
   |false=>exact fin k j C z q
def XW(S:jV l)(Q:l.length<=1000000)(hn:n<=100000)(D:∀m,m<=n->nN s l m)(d:Nat)(st:bV)(w:I)(x:Rx)(k:bV)(B:pE l (n+1) st=some (x,k))(hi:st.1<l.length)(H:jl d s l st w):
  ah U AL #[.pointer (some (aa d))] w (SA d s w (λr Y=>gv w x r Y/\k.1<l.length) k):=by
 unfold pE at B;cases A:qm l n st with
 |none=>grind
 |some Z=>
  obtain⟨a,q⟩:=Z;rw[A]at B;refine w7.aq (H.aw λj E h=>?_);have h:O (·=d) w E [cX d s st,.g j] [da s l]:=h;refine h.iX ((D n (bz _)).seq d st E a q A hi h.gE) ?_;rintro _ F ⟨⟨u,rfl,T,W,z⟩,P⟩ _ K;have y:=K (.tree u) W λb e=>z b (aU.1 e);have y:O (·=d) w F [cX d s q,.g j] [da s l,.tree u]:=y;refine⟨_,_,_,u.s,rfl,y.fe (n:=1) (sz:=4) (cs:=u.c) rfl dl λG L=>?_⟩;have M:O (·=d) w G [cX d s q,.g j,.row aI 4 ⟨some (aa F.heap.size),1,1⟩ ([u].flatMap J.c)] [da s l,.trees [u]]:=by
   have N:[u].flatMap J.c=u.c:=us
   rw[N];exact(L.wV 1).forget _ us
  refine KD S Q D d w x k n (bz _) [u] _ j G q ?_ P (by grind) (λb e=>?_) M
  .have:J.ao [u]=[a]:=by simp[J.ao,T]
   grind
  .obtain ⟨t,C,e⟩:=J.b0.1 e;simp at C;rw[C]at e;exact bI h.fr.size (z b e)
def Tt(ag:jV l)(af:l.length<=1000000)(T:∀m,m<=n->nN s l m)(d:Nat)(w:I)(x:Rx)(y:bV):∀(f:Nat),f<=n->∀(acc:List J) (sl:Sl) (h:Nat) (G:I) (st:bV),u5 l f (J.ao acc) st=some (x,y)->st.1<l.length->acc.length+f<=1000000->(∀b∈J.be acc,w.heap.size<=b)->
  O (·=d) w G [cX d s st,.g h,.row aI 4 sl (acc.flatMap J.c)] [da s l,.trees acc]->
  xa.aX (aa d) h 0 0 0 ⟨none,0,0⟩ sl G (SA d s w (λr C=>gv w x r C/\y.1<l.length) y)
 |0,_=>λacc sl h G st z=>by unfold u5 at z;cases z
 |f+1,hf=>λacc sl h G st z L aA ac H=>by
  have aC:=J.cw (H.get 2:aJ _ _ _ _ _).a9;unfold u5 at z;have fin:∀(j:I) (k:bV),k.1<l.length->some (sA 3 (J.ao acc),k)=some (x,y)->O (·=d) w j [cX d s k,.g h,.row aI 4 sl (acc.flatMap J.c)] [da s l,.trees acc]->
    uv [h] xH #[.i 3,sl.v] j λap aq ar aw w8=>loc [h] w8 λax=>SA d s w (λr C=>gv w x r C/\y.1<l.length) y (ab (.agg #[.i ap,.int .u8 aq,.int .u8 ar,aw.v])) ax:=by
   intro j k M E q;simp only[fC,fB]at E;obtain⟨rfl,rfl⟩:=E;have aB:∀b∈(bW sl acc).fp,w.heap.size<=b:=λb e=>by
    rcases nc.1 e with e|e
    .exact (q.new _ (ay (i:=2) rfl) b (gY e)).resolve_right (Bh q 1 rfl (gY e))
    grind
   have K:O (·=d) w j [cX d s k,.g h] [da s l,.trees acc,J.row sl acc,.tree (bW sl acc)]:=q.td 2 1 0 0 0;refine K.r5 (DF 3 sl acc j (K.getD 3)) (λb e=>⟨_,ay (i:=3) rfl,aU.2 e⟩) λt Y ht A ft=>?_;refine⟨_,_,_,t.s,rfl,A.ae λw4 B=>⟨⟨⟨⟨t,rfl,ht,B.getD 4,λb e=>?_⟩,M⟩,B.get 0⟩,B.fr⟩⟩;rcases ft b e with e|e
   .exact bI K.fr.size e
   grind
  have more:∀(j:I) (k:bV),k.1<l.length->(match n3 l f k with
   |some (a,st)=>u5 l f (J.ao acc++[a]) st
   |none=>none)=some (x,y)->O (·=d) w j [cX d s k,.g h,.row aI 4 sl (acc.flatMap J.c)] [da s l,.trees acc]->
    uv [h] AM #[.pointer (some (aa d))] j λai aj am an D=>dh D (.cells #[.i ai,.int .u8 aj,.int .u8 am,an.v] aI) λZ=>
     ∃(t13:Sl) (N:I),Sem.run U (fL #[dq,dq] dq #[sl.v,.slice (some (nb D)) 1 1]) Z=.ok (t13.v) N/\kept [h] Z N/\xa.aX (aa d) h 0 0 0 ⟨none,0,0⟩ t13 N (SA d s w (λr C=>gv w x r C/\y.1<l.length) y):=by
   intro j k M E q;cases Q:n3 l f k with
   |none=>grind
   |some az=>
    obtain⟨a,F⟩:=az;rw[Q]at E;refine q.iX ((T f io).item d k j a F Q M q.gE) ?_;rintro _ Y ⟨⟨u,rfl,hu,pu,P⟩,ad⟩ _ F3;have A:=F3 (.tree u) pu λb e=>P b (aU.1 e);have A:O (·=d) w Y [cX d s F,.g h,.row aI 4 sl (acc.flatMap J.c)] [da s l,.trees acc,.tree u]:=A;refine⟨_,_,_,u.s,rfl,A.jo 2 mg (xs:=acc.flatMap J.c) rfl (λW D B=>?_) io⟩;have H6:O (·=d) w D [cX d s F,.g h,.row aI 4 W ((acc++[u]).flatMap J.c)] [da s l,.trees (acc++[u])]:=by rw[nW];exact(B.th 1 2).forget _ us
    refine Tt ag af T d w x y f io (acc++[u]) W h D F ?_ ad (by grind) (uU ac λb e=>bI q.fr.size (P b e)) H6;rw[k0];have:J.ao [u]=[a]:=by simp[J.ao,hu]
    grind
  refine xa.bR (H.av (WT H.gE L) ?_);rintro _ j rfl q;refine⟨_,rfl,?_⟩;cases S:zC l st with
  |true=>rw[S]at z;exact more j st L z q
  |false=>rw[S]at z;exact fin j st L z q
def adt(S:jV l)(Q:l.length<=1000000)(hn:n<=100000)(D:∀m,m<=n->nN s l m)(d:Nat)(st:bV)(w:I)(x:Rx)(k:bV)(B:qm l (n+1) st=some (x,k))(hi:st.1<l.length)(H:jl d s l st w):
  ah U AN #[.pointer (some (aa d))] w (SA d s w (λr Y=>gv w x r Y/\k.1<l.length) k):=by
 unfold qm at B;cases A:n3 l n st with
 |none=>grind
 |some Z=>
  obtain⟨a,q⟩:=Z;rw[A]at B;refine xa.aq (H.aw λj E h=>?_);have h:O (·=d) w E [cX d s st,.g j] [da s l]:=h;refine h.iX ((D n (bz _)).item d st E a q A hi h.gE) ?_;rintro _ F ⟨⟨u,rfl,T,W,z⟩,P⟩ _ K;have y:=K (.tree u) W λb e=>z b (aU.1 e);have y:O (·=d) w F [cX d s q,.g j] [da s l,.tree u]:=y;refine⟨_,_,_,u.s,rfl,y.fe (n:=1) (sz:=4) (cs:=u.c) rfl dl λG L=>?_⟩;have M:O (·=d) w G [cX d s q,.g j,.row aI 4 ⟨some (aa F.heap.size),1,1⟩ ([u].flatMap J.c)] [da s l,.trees [u]]:=by
   have N:[u].flatMap J.c=u.c:=us
   rw[N];exact(L.wV 1).forget _ us
  refine Tt S Q D d w x k n (bz _) [u] _ j G q ?_ P (by grind) (λb e=>?_) M
  .have:J.ao [u]=[a]:=by simp[J.ao,T]
   grind
  .obtain ⟨t,C,e⟩:=J.b0.1 e;simp at C;rw[C]at e;exact bI h.fr.size (z b e)
end
def _root_.Go.W.O.T'{M:Nat->Prop}{w0 w:I}{L D:List En}{bs:List Nat}(H:O M w0 w L D)(i j:Nat){b:Nat}{vs:List V}{T:aD}{v:V}{K:I->Prop}(hi:L[i]? =some (.c b vs T))(x:∀k,O M w0 k (L.set i (.c b (vs.set j v) T)) D->K k)(y:j<vs.length:=by simp)(h:∀b∈bs,En.g b∈L:=by simp):aL w ((aa b).add j) v λq=>kept bs w q/\K q:=by obtain⟨A,B,C⟩:=H.set (v:=v) i j hi y;obtain⟨_,_,_,E⟩:=BM (H.ob i hi) j io v;refine⟨A,B,λd e=>?_,x _ C⟩;refine E.cv d (H.own _ (h d e)) λz=>u0 H hi (zG w b vs T) (h d e) ?_;rw[z];exact r0.2 rfl
def _root_.Go.W.O.one{M:Nat->Prop}{w0 w:I}{L D:List En}(H:O M w0 w L D)(i j:Nat){e:aD}{sl:Sl}{u:J}(k:Int)(lo hi:UInt8)(q:L[i]? =some (.row e 4 sl u.c):=by rfl)(x:D[j]? =some (.tree u):=by rfl):O M w0 w (L.eraseIdx i) (D++[.tree (.mk k lo hi sl [u])]):=by
 have d:=H.wV j x;have e:[u].flatMap J.c=u.c:=us
 have h:=d.td i D.length k lo hi (s:=sl) (ts:=[u]) (by rw[e];exact q) us;exact h.forget _ (λy z=>by grind)
def GK{w:I}{sl:Sl}{u:J}{k:Int}{lo hi:UInt8}(e:∀b∈aG sl,w.heap.size<=b)(h:∀b∈u.fp,w.heap.size<=b):∀b∈(J.mk k lo hi sl [u]).fp,w.heap.size<=b:=λb d=>by
 unfold J.fp at d;rcases aP.1 d with d|d
 .exact rp e b d
 .obtain ⟨t,j,d⟩:=J.b0.1 d
  grind
section
variable {s:Sl} {l:List dQ} {n:Nat}
def Mz(H:jV l)(G:l.length<=1000000)(e:Nat)(w:I)(x:Rx)(A:bV):∀(f:Nat) (u:J) (h j:Nat) (B:I) (st:bV),yB l f u.rx st=some (x,A)->st.1<l.length->(∀b∈u.fp,w.heap.size<=b)->
  O (·=e) w B [cX e s st,.g h,.g j] [da s l,.tree u]->
  zZ.aX (aa e) h 0 0 0 ⟨none,0,0⟩ j u.k (u.lo.toNat:Int) (u.hi.toNat:Int) u.s B (SA e s w (λr T=>gv w x r T/\A.1<l.length) A)
 |0,u,h,j,B,st,d,_,_,_=>by unfold yB at d;cases d
 |f+1,u,h,j,B,st,d,F,E,C=>by
  unfold yB at d;refine zZ.bR (C.iX (r2 C.gE F G [42]) ?_);have y:=tA H F [42] dl;rintro _ L rfl z _;refine⟨_,rfl,?_⟩;cases Q:e3 l [42] st with
  |mk S K=>
   rw[Q]at d z y;cases S with
   |true=>
    dsimp only at d y;refine aR rfl ?_;refine z.fe (n:=1) (sz:=4) (cs:=u.c) rfl dl λW q=>q.ae λM N=>?_;have P:O (·=e) w M [cX e s K,.g h,.g j] [da s l,.tree (.mk 7 0 0 ⟨some (aa L.heap.size),1,1⟩ [u])]:=(N.one 3 1 7 0 0).forget _ us;refine Mz H G e w x A f (.mk 7 0 0 ⟨some (aa L.heap.size),1,1⟩ [u]) h j M K d y (GK (λb D=>?_) E) P;simp only[aG,aF,aW,a2]at D;rw[D];exact z.fr.size
   |false=>
    dsimp only at d y;simp only[fC,fB]at d;obtain⟨d,rfl⟩:=d;refine aT rfl ?_;exact z.ae λW q=>⟨⟨⟨⟨u,rfl,d,q.getD 1,E⟩,y⟩,q.get 0⟩,q.fr⟩
def ZC(T:jV l)(S:l.length<=1000000)(Y:nN s l n)(h:Nat)(st:bV)(w:I)(x:Rx)(C:bV)(e:n3 l (n+1) st=some (x,C))(hi:st.1<l.length)(H:jl h s l st w):
  ah U AM #[.pointer (some (aa h))] w (SA h s w (λr w'=>gv w x r w'/\C.1<l.length) C):=by
 unfold n3 at e;refine zZ.aq (H.aw λK w1 A=>?_);have A:O (·=h) w w1 [cX h s st,.g K] [da s l]:=A;refine A.iX (r2 A.gE hi S [33]) ?_;have y:=tA T hi [33] dl;rintro _ Z rfl j _;refine⟨_,rfl,?_⟩;cases hq:e3 l [33] st with
 |mk ac D=>
  rw[hq]at e j y;cases ac with
  |true=>
   dsimp only at e y;cases q:n3 l n D with
   |none=>grind
   |some Q=>
    obtain⟨a,z⟩:=Q;rw[q]at e;simp only[fC,fB]at e;obtain⟨e,rfl⟩:=e;refine aR rfl ?_;refine j.iX (Y.item h D Z a z q y j.gE) ?_;rintro _ N ⟨⟨u,rfl,W,M,k⟩,L⟩ _ E;have B:=E (.tree u) M λb d=>k b (aU.1 d);refine⟨_,_,_,u.s,rfl,B.fe (n:=1) (sz:=4) (cs:=u.c) rfl dl λw4 F=>F.ae λP G=>?_⟩;have J:O (·=h) w P [cX h s z,.g K] [da s l,.tree (.mk 6 0 0 ⟨some (aa N.heap.size),1,1⟩ [u])]:=(G.one 2 1 6 0 0).forget _ us;refine⟨⟨⟨⟨.mk 6 0 0 ⟨some (aa N.heap.size),1,1⟩ [u],rfl,?_,J.getD 1,GK (λb d=>?_) (λb d=>bI j.fr.size (k b d))⟩,L⟩,J.get 0⟩,J.fr⟩
    .rw [<-e,<-W];rfl
    .simp only[aG,aF,aW,a2]at d;rw[d];exact B.fr.size
  |false=>
   dsimp only at e y;cases q:rW l n D with
   |none=>grind
   |some Q=>
    obtain⟨a,z⟩:=Q;rw[q]at e;refine aT rfl ?_;refine j.iX (Y.atom h D Z a z q y j.gE) ?_;rintro _ N ⟨⟨u,rfl,W,M,k⟩,L⟩ _ E;have B:=E (.tree u) M λb d=>k b (aU.1 d);refine⟨_,_,_,u.s,rfl,B.aw λb4 w4 F=>F.ae λP G=>?_⟩;exact Mz T S h w x C n u K b4 P z (by grind) L (λb d=>bI j.fr.size (k b d)) G
def MI(D:jV l)(C:l.length<=1000000)(H:∀m,m<=n->nN s l m)(e:Nat)(w:I)(m:List Rx)(x:bV):∀(f:Nat),f<=n->∀(acc:List J) (sl:Sl) (z:I) (st:bV),xD l f (J.ao acc) st=some (m,x)->st.1<l.length->acc.length+f<=1000000->(∀b∈J.be acc,w.heap.size<=b)->
  O (·=e) w z [cX e s st,.row aI 4 sl (acc.flatMap J.c)] [da s l,.trees acc]->
  w9.L1 (aa e) sl z (SA e s w (λr w'=>(∃(sl:Sl) (a:List J),r=ab sl.v/\J.ao a=m/\(bW sl a).P w'/\∀b∈(bW sl a).fp,w.heap.size<=b)/\x.1<l.length) x)
 |0,_=>λacc sl z st d=>by unfold xD at d;cases d
 |f+1,hf=>λacc sl z st d G ae W A=>by
  have af:=J.cw (A.get 1:aJ _ _ _ _ _).a9;unfold xD at d;refine w9.jU (A.r3 (r2 A.gE G C [44]) ?_);have q:=tA D G [44] dl;rintro _ w2 rfl j _;refine⟨_,rfl,?_⟩;cases Z:e3 l [44] st with
  |mk ac L=>
   rw[Z]at d j q;cases ac with
   |true=>
    dsimp only at d q;cases F:mn l f L with
    |none=>grind
    |some ad=>
     obtain⟨a,y⟩:=ad;rw[F]at d;refine aR rfl ?_;refine j.r3 ((H f io).expr e L w2 a y F q j.gE) ?_;rintro _ M ⟨⟨u,rfl,hu,pu,E⟩,Y⟩ _ Q;have B:=Q (.tree u) pu λb h=>E b (aU.1 h);have B:O (·=e) w M [cX e s y,.row aI 4 sl (acc.flatMap J.c)] [da s l,.trees acc,.tree u]:=B;refine⟨_,_,_,u.s,rfl,B.wG 1 mg (xs:=acc.flatMap J.c) rfl (λK N S _ _=>?_) io⟩;have T:O (·=e) w N [cX e s y,.row aI 4 K ((acc++[u]).flatMap J.c)] [da s l,.trees (acc++[u])]:=by rw[nW];exact(S.th 1 2).forget _ us
     refine MI D C H e w m x f io (acc++[u]) K N y ?_ Y (by grind) (uU W λb h=>bI j.fr.size (E b h)) T;rw[k0];have:J.ao [u]=[a]:=by simp[J.ao,hu]
     grind
   |false=>
    dsimp only at d q;simp only[fC,fB]at d;obtain⟨rfl,rfl⟩:=d;refine aT rfl ?_;refine j.r3 (wM j.gE q C [41]) ?_;rintro _ M rfl k _;refine⟨rfl,⟨⟨⟨sl,acc,rfl,rfl,dB.2 ⟨(k.get 1:aJ _ _ _ _ _).a9,k.getD 1⟩,λb h=>?_⟩,xR D q [41] dl⟩,k.get 0⟩,k.fr⟩;rcases nc.1 h with h|h
    .exact (k.new _ (ay (i:=1) rfl) b (gY h)).resolve_right (Bh k 0 rfl (gY h))
    grind
def ZL(A:jV l)(z:l.length<=1000000)(hn:n<=100000)(L:∀m,m<=n->nN s l m)(e:Nat)(st:bV)(w:I)(m:List Rx)(k:bV)(j:sE l (n+1) st=some (m,k))(hi:st.1<l.length)(H:jl e s l st w):
  ah U FR #[.pointer (some (aa e))] w (SA e s w (λr C=>(∃(sl:Sl) (a:List J),r=ab sl.v/\J.ao a=m/\(bW sl a).P C/\∀b∈(bW sl a).fp,w.heap.size<=b)/\k.1<l.length) k):=by
 unfold sE at j;refine w9.ok (H.r3 (wM H hi z [40]) ?_);have K:=xR A hi [40] dl;rintro _ w1 rfl E _;refine⟨rfl,E.r3 (r2 E.gE K z [41]) ?_⟩;have q:=tA A K [41] dl;rintro _ D rfl h _;cases Z:e3 l [41] (lL l [40] st)with
 |mk ac y=>
  rw[Z]at j h q;have none_:some (([]:List Rx),y)=some (m,k)->w9.S0 D (SA e s w (λr C=>(∃(sl:Sl) (a:List J),r=ab sl.v/\J.ao a=m/\(bW sl a).P C/\∀b∈(bW sl a).fp,w.heap.size<=b)/\k.1<l.length) k):=by
   intro j;simp only[fC,fB]at j;obtain⟨rfl,rfl⟩:=j;refine⟨⟨⟨⟨⟨none,0,0⟩,[],rfl,rfl,dB.2 ⟨bA.nil 4 D,by unfold J.Ps;trivial⟩,λb d=>?_⟩,q⟩,h.get 0⟩,h.fr⟩;rcases nc.1 d with d|d
   .simp [J.row,En.a9]at d
   .unfold J.be at d;cases d
  refine⟨_,rfl,y.2,h.ld 0 2,bm (λd=>none_ (by grind)) (λd=>bm (λx=>none_ (by grind)) (λx=>?_))⟩
  have x:ac=false:=x;simp only[d,x,Bool.or_false,cond_false]at j;cases G:mn l n y with
  |none=>grind
  |some ad=>
   obtain⟨a,B⟩:=ad;rw[G]at j;refine h.r3 ((L n (bz _)).expr e y D a B G q h.gE) ?_;rintro _ w3 ⟨⟨u,rfl,hu,pu,F⟩,Y⟩ _ N;have Q:=N (.tree u) pu λb d=>F b (aU.1 d);refine⟨_,_,_,u.s,rfl,Q.fe (n:=1) (sz:=4) (cs:=u.c) rfl dl λM S=>?_⟩;have T:O (·=e) w M [cX e s B,.row aI 4 ⟨some (aa w3.heap.size),1,1⟩ ([u].flatMap J.c)] [da s l,.trees [u]]:=by
    have W:[u].flatMap J.c=u.c:=us
    rw[W];exact(S.wV 1).forget _ us
   refine MI A z L e w m k n (bz _) [u] _ M B ?_ Y (by grind) (λb d=>?_) T
   .have:J.ao [u]=[a]:=by simp[J.ao,hu]
    grind
   .obtain ⟨t,q,d⟩:=J.b0.1 d;simp at q;rw[q]at d;exact bI h.fr.size (F b d)
end
def wg:List V:=[.string (ba (ou 0)),.string (ba (ou 1)),.string (ba (ou 2)),.string (ba (ou 3)),.string (ba (ou 4)),.string (ba (ou 5))]
def Ve{k:Nat}(d:k<6):wg[k]? =some (.string (ba (ou k))):=by
 have:k=0\/k=1\/k=2\/k=3\/k=4\/k=5:=io
 rcases this with rfl|rfl|rfl|rfl|rfl|rfl<;>rfl
def Vd{k:Nat}(e:k<6)(d:k≠2):ou k≠[]/\ou k≠[32]:=by
 have:k=0\/k=1\/k=2\/k=3\/k=4\/k=5:=io
 rcases this with rfl|rfl|rfl|rfl|rfl|rfl<;>first |exact absurd rfl d|exact⟨dl,dl⟩
def n5(k:Int)(lo hi:UInt8):J:=.mk k lo hi ⟨none,0,0⟩ []
def sF(k:Int)(lo hi:UInt8)(w:I):(n5 k lo hi).P w:=by unfold n5 J.P J.Ps;exact⟨bA.nil 4 w,trivial⟩
def sG{k:Int}{lo hi:UInt8}{b:Nat}:¬b∈(n5 k lo hi).fp:=λd=>by
 unfold n5 J.fp J.be at d;rcases aP.1 d with d|d
 .simp [J.row,En.a9]at d
 grind
section
variable {s:Sl} {l:List dQ} {n:Nat}
def Wb(W:jV l)(am:l.length<=1000000)(ih:nN s l n)(j:Nat)(st:bV)(w:I)(x:Rx)(G:bV)(d:rW l (n+1) st=some (x,G))(hi:st.1<l.length)(H:jl j s l st w):
  ah U FP #[.pointer (some (aa j))] w (SA j s w (λr w'=>gv w x r w'/\G.1<l.length) G):=by
 let R:aC:=SA j s w (λr w'=>gv w x r w'/\G.1<l.length) G
 have loop:∀(f k:Nat) (q E:Nat) (C:I),f+k=6->mL l st 6 0=mL l st f k->(match mL l st 6 0 with
   |some k=>bif Nat.ble k 2 then some (Rx.mk k 0 0 [],(st.1+1,st.2))else match sE l n (st.1+1,st.2)with
    |some (m,st)=>some (Rx.mk k 0 0 m,st)
    |none=>none
   |none=>let st:=lL l [40] st
    bif st.2 then some (fT,st)else match mn l n st with
    |some (a,st)=>some (a,lL l [41] st)
    |none=>none)=some (x,G)->O (·=j) w C [cX j s st,.g q,.c E wg eD] [da s l]->
   pN.cA (aa j) q 0 0 0 ⟨none,0,0⟩ ⟨some (aa E),6,6⟩ (k:Int) C R:=by
  intro f;induction f with
  |zero=>
   intro k q E C hk hw d D;have e0:mL l st 0 k=none:=by unfold mL;rfl
   rw[hw,e0]at d;dsimp only at d;have ag:=xR W hi [40] dl;refine pN.dU (aT (a7 io) (D.iX (wM D.gE hi am [40]) ?_));rintro _ z rfl e _;generalize lL l [40] st=jP at d ag e;refine⟨rfl,jP.2,e.ld 0 2,bm (λh=>?_) (λh=>?_)⟩
   .rw [h]at d;simp only[cond_true,fC,fB]at d;obtain⟨rfl,rfl⟩:=d;exact e.ae λS y=>⟨⟨⟨⟨cu,rfl,rfl,lM _,λb h=>(lN h).elim⟩,ag⟩,y.get 0⟩,y.fr⟩
   .rw [h]at d;dsimp only[cond_false]at d;cases N:mn l n jP with
    |none=>grind
    |some aj=>
     obtain⟨a,Z⟩:=aj;rw[N]at d;simp only[fC,fB]at d;obtain⟨rfl,rfl⟩:=d;refine e.iX (ih.expr j jP z a Z N ag e.gE) ?_;rintro _ S ⟨⟨u,rfl,hu,pu,fu⟩,T⟩ _ F3;have y:=F3 (.tree u) pu λb h=>fu b (aU.1 h);refine⟨_,_,_,u.s,rfl,y.aw λb6 w4 A=>A.ae λw5 B=>?_⟩;have B:O (·=j) w w5 (cX j s Z::[.g q,.c E wg eD,.g b6]) [da s l,.tree u]:=B;refine B.iX (wM B.gE T am [41]) ?_;rintro _ w6 rfl H6 _;exact⟨rfl,H6.ae λw7 K=>⟨⟨⟨⟨u,rfl,hu,K.getD 1,λb h=>bI e.fr.size (fu b h)⟩,xR W T [41] dl⟩,K.get 0⟩,K.fr⟩⟩
  |succ f aJ=>
   intro k q E C hk hw d D;have next:mL l st (f+1) k=mL l st f (k+1)->∀z,O (·=j) w z [cX j s st,.g q,.c E wg eD] [da s l]->pN.bL (aa j) q 0 0 0 ⟨none,0,0⟩ ⟨some (aa E),6,6⟩ (k:Int) z R:=by
    intro Y z e;show pN.cA _ _ _ _ _ _ _ _ _ _;rw[bt _ io]
    grind
   refine pN.dU (aR (a6 io) (ax (λQ=>D.ae λz e=>next (by
    have:k=2:=io
    subst this;conv=>lhs;unfold mL
    rfl) z e) (λQ=>⟨io,by grind,?_⟩)))
   have Q:k≠2:=io
   have aI:bQ k 2=false:=by
    cases F:bQ k 2 with
    |false=>rfl
    |true=>exact absurd (Nat.eq_of_beq_eq_true F) Q
   refine lQ (D.ae λz e=>?_);rw[cb,Nat.mul_one];refine⟨ba (ou k),e.ld 2 k rfl (Ve io),e.av (DQ e.gE hi) ?_⟩;rintro _ S rfl y;refine⟨_,rfl,y.ld 2 k rfl (Ve io),?_⟩;rw[uj];refine eS (λhs=>next (by
    conv=>lhs;unfold mL
    grind) S y) (λhs=>?_)
   have an:=eq_of_beq hs;have aG:mL l st 6 0=some k:=by
    rw[hw];conv=>lhs;unfold mL
    grind
   rw[aG]at d;dsimp only at d;have af:st.1+1<l.length:=by
    refine MP W hi (by rw[an];exact(Vd io Q).1) ?_;cases h:st.2 with
    |false=>rfl
    |true=>
     exfalso;refine(Vd (k:=k) io Q).2 ?_;rw[<-an];unfold fx;grind
   refine⟨(st.1:Int),y.ld 0 1,?_⟩;rw[bt _ io];refine y.T' 0 1 rfl λw4 A=>?_;have A:O (·=j) w w4 [cX j s (st.1+1,st.2),.g q,.c E wg eD] [da s l]:=A;refine A.aw λb5 w5 B=>aS (λaB=>?_) (λaB=>?_)
   .have ad:Nat.ble k 2=false:=by
     cases F:Nat.ble k 2 with
     |false=>rfl
     |true=>have:=Nat.le_of_ble_eq_true F;omega
    rw[ad]at d;dsimp only[cond_false]at d;cases N:sE l n (st.1+1,st.2)with
    |none=>grind
    |some aj=>
     obtain⟨m,Z⟩:=aj;rw[N]at d;simp only[fC,fB]at d;obtain⟨Y,rfl⟩:=d;refine B.ae λw9 M=>?_;have M:O (·=j) w w9 (cX j s (st.1+1,st.2)::[.g q,.c E wg eD,.g b5]) [da s l]:=M;refine M.iX (ih.kids j (st.1+1,st.2) w9 m Z N af M.gE) ?_;rintro _ aK ⟨⟨sl,a,rfl,ha,pa,fa⟩,T⟩ _ ao;have ap:=ao (.tree (bW sl a)) pa λb h=>fa b (aU.1 h);refine⟨sl,rfl,ap.ae λaL ar=>ar.ae λaH ac=>?_⟩;refine⟨⟨⟨⟨.mk k 0 0 sl a,rfl,?_,?_,λb h=>?_⟩,T⟩,ac.get 0⟩,ac.fr⟩
     .rw [<-Y,<-ha];rfl
     .have:=dB.1 (show(bW sl a).P aH from ac.getD 1);unfold J.P;omega
     .refine bI M.fr.size (fa b ?_);unfold J.fp at h;unfold bW J.fp;exact h
   .have ad:Nat.ble k 2=true:=Nat.ble_eq_true_of_le io;rw[ad]at d;simp only[cond_true,fC,fB]at d;obtain⟨Y,rfl⟩:=d;refine B.ae λw6 H6=>H6.ae λw7 K=>⟨⟨⟨⟨n5 k 0 0,rfl,?_,sF _ _ _ _,λb h=>(sG h).elim⟩,af⟩,K.get 0⟩,K.fr⟩;rw[<-Y];rfl
 have s0:∀(q:Nat) (C:I),(!st.2&&bQ (f' l st.1).k 2)=false->O (·=j) w C [cX j s st,.g q] [da s l]->pN.aV (aa j) q 0 0 0 ⟨none,0,0⟩ C R:=by
  intro q C hq D;unfold rW at d;rw[hq]at d;dsimp only[cond_false]at d;try dsimp only[pN.aV,ai]
  refine D.nw λz _ e=>?_;exact loop 6 0 q C.heap.size z io rfl d e
 refine pN.aq (H.aw λq C D=>D.ae λz e=>⟨st.2,e.ld 0 2,eS (λh=>?_) (λh=>s0 q z (by grind) e)⟩);have hn:=yL (e.getD 0:bA _ _ _ _);refine⟨s,e.ld 0 0,(st.1:Int),e.ld 0 1,io,io,yM (e.getD 0) hi λp hp c=>⟨((f' l st.1).k:Int),?_,ax (λL=>?_) (λL=>s0 q z (by
  have:bQ (f' l st.1).k 2=false:=by
   cases F:bQ (f' l st.1).k 2 with
   |false=>rfl
   |true=>have:=Nat.eq_of_beq_eq_true F;omega
  grind) e)⟩⟩
 .rw [cb,iV];exact c.c2
 have L:(f' l st.1).k=2:=io
 have af:st.1+1<l.length:=by
  rcases Nat.lt_or_ge (st.1+1) l.length with F|F
  .exact F
  .exfalso;have az:st.1=l.length - 1:=io
   rw[az,W.2.2]at L;cases L
 refine⟨(st.1:Int),e.ld 0 1,?_⟩;rw[bt _ io];refine e.T' 0 1 rfl λS y=>?_;have y:O (·=j) w S [cX j s (st.1+1,st.2),.g q] [da s l]:=y;refine y.ae λw4 A=>⟨s,A.ld 0 0,((st.1+1:Nat):Int),A.ld 0 1,?_⟩;have em:aE .i64 (((st.1+1:Nat):Int) - 1)=(st.1:Int):=by rw[bH _ io];omega
 rw[em];unfold rW at d;rw[h,L]at d;have d:some (Rx.mk 2 (f' l st.1).lo (f' l st.1).hi [],(st.1+1,false))=some (x,G):=d;simp only[fC,fB]at d;obtain⟨d,aA⟩:=d;refine⟨io,io,yM (A.getD 0) hi λp hp c=>⟨2,(f' l st.1).lo.toNat,(f' l st.1).hi.toNat,⟨none,0,0⟩,?_,?_,?_,?_,A.ae λw5 B=>⟨⟨⟨⟨n5 2 (f' l st.1).lo (f' l st.1).hi,rfl,d,sF _ _ _ _,λb h=>(sG h).elim⟩,by grind⟩,?_⟩,B.fr⟩⟩⟩
 .rw [cb,iV,c.c2,L];rfl
 .rw [cb,add_add];exact c.c3
 .rw [cb,add_add];exact c.c4
 .rw [cb,add_add];exact c.c5
 .have:=B.get 0;rw[<-aA,<-h];exact this
def QP(y:jV l)(x:l.length<=1000000):∀n:Nat,n<=100000->∀m,m<=n->nN s l m
 |0,_=>λm B=>by
  have:m=0:=io
  subst this;exact⟨λe st j k h d=>(by unfold mn at d;cases d),λe st j k h d=>(by unfold pE at d;cases d),λe st j k h d=>(by unfold qm at d;cases d),λe st j k h d=>(by unfold n3 at d;cases d),λe st j k h d=>(by unfold rW at d;cases d),λe st j k h d=>(by unfold sE at d;cases d)⟩
 |n+1,C=>λm B=>by
  have z:=QP y x n io;rcases Nat.lt_or_ge m (n+1)with A|A
  .grind
  have:m=n+1:=io
  subst this;exact⟨λe st j k h d w q=>Yu y x io z e st j k h d w q,λe st j k h d w q=>XW y x io z e st j k h d w q,λe st j k h d w q=>adt y x io z e st j k h d w q,λe st j k h d w q=>ZC y x (z n (bz _)) e st j k h d w q,λe st j k h d w q=>Wb y x (z n (bz _)) e st j k h d w q,λe st j k h d w q=>ZL y x io z e st j k h d w q⟩
end
def _root_.Go.W.O.perm{M:Nat->Prop}{w0 w:I}{L j D:List En}(H:O M w0 w L D)(h:L.Perm j):O M w0 w j D:=
 ⟨H.fr,λd e=>H.own d (h.mem_iff.2 e),H.rd,λd e=>H.new d (h.mem_iff.2 e),(h.flatMap_right (·.fp)).nodup_iff.1 H.nd,λd e b q k x=>H.dj d e b q k (h.mem_iff.2 x)⟩
def Ig(s:BL):∀(f i:Nat),s.length<f+i->∃init,qw s f i=init++[⟨[],s.length,0,0,0⟩]/\init.length+i<=max i s.length
 |0,i,h=>⟨[],rfl,by simp;omega⟩
 |f+1,i,h=>by
  unfold qw;split
  .exact ⟨[],rfl,by simp;omega⟩
  .split
   .obtain ⟨init,d,j⟩:=Ig s f (i+1) io;exact⟨init,d,io⟩
   .simp only;have q:=R3 s i;have w:=S' s i s.length 1 io;generalize kZ s i=g at q;generalize o4 s i s.length 1=e at w;have k:1<=(if g.n=0 then e else g.n)/\i+(if g.n=0 then e else g.n)<=s.length:=by split<;>omega
    generalize(if g.n=0 then e else g.n)=n at k;obtain⟨init,d,j⟩:=Ig s f (i+n) io;exact⟨_::init,by rw[d];rfl,by simp only[cD];omega⟩
def aeJ(s:BL):jV (oh s)/\(oh s).length<=s.length+1:=by
 obtain⟨init,j,k⟩:=Ig s (s.length+1) 0 io;have h:oh s=init++[⟨[],s.length,0,0,0⟩]:=j;rw[h];have d:(init++[(⟨[],s.length,0,0,0⟩:dQ)]).length=init.length+1:=us
 have e:f' (init++[(⟨[],s.length,0,0,0⟩:dQ)]) init.length=⟨[],s.length,0,0,0⟩:=by unfold f';simp[List.getD_eq_getElem?_getD]
 refine⟨⟨io,?_,?_⟩,io⟩
 .rw [d,Nat.add_sub_cancel,e]
 .rw [d,Nat.add_sub_cancel,e]
def VG(w:I)(x:Rx)(a:Nat)(e:Int)(r:cZ)(w':I):Prop:=∃t:J,r=ab (.tuple #[t.v,.i (a:Int),.i e])/\t.rx=x/\t.P w'/\∀b∈t.fp,w.heap.size<=b
def Xk(s:ByteArray)(hs:s.size<=100000)(x:Rx)(a:Nat)(e:Int)(d:vr (bl s)=some (x,a,e))(w:I):ah U NW #[.string s] w λr w'=>VG w x a e r w'/\af w w':=by
 have hl:(bl s).length=s.size:=dd s;obtain⟨C,hlen⟩:=aeJ (bl s);unfold vr at d;refine K0.aq ((bZ [] us).aw λT w1 Q=>aS (λh=>Q.ae λw2 H2=>?_) (λh=>Q.g5 (WO s hs w1) ?_))
 .rw [ag io]at d;simp only[fC,fB]at d;obtain⟨rfl,rfl,rfl⟩:=d;exact⟨⟨cu,rfl,rfl,lM _,λb h=>(lN h).elim⟩,H2.fr⟩
 rw[ad io]at d;generalize oh (bl s)=l at d C hlen;dsimp only at d;rintro _ N ⟨j,rfl,ho,hf⟩ _ F6;have H6:=F6.rd (da j l) ho.a9 (rp hf);cases H:mn l 1000 (0,false)with
 |none=>rw[H]at d;cases d
 |some ap=>
  obtain⟨r0,M⟩:=ap;rw[H]at d;dsimp only at d;refine⟨j,rfl,H6.nw λw7 _ y=>?_⟩;have y:O F0 w w7 (cX N.heap.size j (0,false)::[.g T]) [da j l]:=y.perm (List.Perm.swap _ _ _);refine y.iX ((QP C io 1000 io 1000 (bz _)).expr N.heap.size (0,false) w7 r0 M H C.1 y.gE) ?_;rintro _ w8 ⟨⟨u,rfl,hu,pu,W⟩,Y⟩ _ F8;have H8:=F8 (.tree u) pu λb h=>W b (aU.1 h);refine⟨_,_,_,u.s,rfl,H8.aw λb6 w9 H9=>H9.ae λam z=>?_⟩;have z:O F0 w am (cX N.heap.size j M::[.g T,.g b6]) [da j l,.tree u]:=z;refine z.iX (wM z.gE Y io []) ?_;have G:=xR C Y [] dl;rintro _ aa rfl k _;generalize lL l [] M=qn at d G k;refine⟨rfl,qn.2,k.ld 0 2,bm (λE=>k.ae λax q=>?_) (λE=>?_)⟩
  .rw [ag E]at d;simp only[fC,fB]at d;obtain⟨rfl,rfl,rfl⟩:=d;have hn:=yL (q.getD 0:bA _ _ _ _);refine⟨j,q.ld 0 0,(qn.1:Int),q.ld 0 1,io,io,yM (q.getD 0) G λp hp c=>⟨((f' l qn.1).at_:Int),?_,q.ae λan A=>⟨?_,A.ld 0 1,A.ld 0 0,⟨cu,rfl,rfl,lM _,λb h=>(lN h).elim⟩,A.fr⟩⟩⟩
   .rw [cb];exact c.c1
   .rw [cb];have:=yM (A.getD 0) G (K:=λD=>∃L,j.a=some L/\D=L/\I0 an L qn.1 (f' l qn.1)) (λD Z F=>⟨D,Z,rfl,F⟩);rw[hp]at this;obtain⟨D,Z,rfl,F⟩:=this;exact F.c1
  .rw [ad (by rw[E];simp)]at d;have aj:u.P aa:=k.getD 1;have ar:r0.sz=u.sz:=by rw[<-hu,J.eu]
   by_cases ai:u.sz<=1000000
   .rw [ad io]at d;refine k.av (Dy u aa ai aj) ?_;rintro _ az rfl S;refine⟨_,rfl,aS (λac=>S.ae λao B=>?_) (λac=>S.ae λao B=>?_)⟩
    .rw [ag io]at d;simp only[fC,fB]at d;obtain⟨rfl,rfl,rfl⟩:=d;exact⟨⟨cu,rfl,rfl,lM _,λb h=>(lN h).elim⟩,B.fr⟩
    .rw [ad io]at d;simp only[fC,fB]at d;obtain⟨rfl,rfl,rfl⟩:=d;exact⟨⟨u,rfl,hu,B.getD 1,λb h=>bI y.fr.size (W b h)⟩,B.fr⟩
   .rw [ag io]at d;cases d
def cg(a b:BL):ba a++ba b=ba (a++b):=by apply ByteArray.ext;rw[ByteArray.data_append];simp[ba]
def qN{w:I}{b n:Nat}{cs:List V}{T:aD}(d:w.heap[b]? =some (.cells cs.toArray T (0,0)))(h:n=cs.length):Rd w ⟨some (aa b),n,n⟩ cs:=
 Hj (s:=⟨some (aa b),n,n⟩) h (bz _) (λd=>by cases d) λi v e=>⟨aa b,rfl,cellAt (p:=aa b) d rfl (by simpa using e)⟩
def JX(c:UInt8)(w:I):ah U N4 #[.int .u8 (c.toNat:Int)] w λr e=>r=ab (.bool (eL c))/\af w e:=by
 refine K7.ok (aS (λd=>⟨?_,Fr.refl _ _⟩) (λd=>⟨?_,Fr.refl _ _⟩))
 .unfold eL;rw[a6 (show 97<=c.toNat by omega),Bool.true_and,show ak ((c.toNat:Int)<=122)=ak (c.toNat<=122)from decide_eq_decide.2 io]
 .unfold eL;rw[a7 (show ¬97<=c.toNat by omega),Bool.false_and]
def DM(c:UInt8)(w:I):ah U NS #[.int .u8 (c.toNat:Int)] w λr F=>r=ab (.string (ba (dD c)))/\af w F:=by
 have K:=c.toNat_lt;have z:O F0 w w [] []:=bZ [] us;refine KW.ok (z.call (JY c w) ?_);rintro _ y rfl x;refine⟨_,rfl,bm (λk=>?_) (λk=>?_)⟩
 .refine x.vm (λq _ d h=>?_);have J:((39:UInt8).toNat:Int)=39:=rfl;have e:Bytes q ⟨some (aa y.heap.size),3,3⟩ [39,c,39]:=qN (T:=ez) h rfl;have j:=rZ e;refine⟨ba [39,c,39],j,?_,d.fr⟩;unfold dD;rw[ag k]
 .have C:aE .i64 (c.toNat:Int)=(c.toNat:Int):=bH _ io;have D:aE .i64 (Int.tdiv (c.toNat:Int) 16)=((c.toNat / 16:Nat):Int):=by rw[Int.tdiv_eq_ediv_of_nonneg io,bH _ io];omega
  have E:Int.tmod (c.toNat:Int) 16=((c.toNat%16:Nat):Int):=by rw[Int.tmod_eq_emod_of_nonneg io];omega
  rw[C,D,E];refine x.call (DP (c.toNat / 16) io y) ?_;rintro _ q rfl d;refine⟨_,rfl,d.call (DP (c.toNat%16) io q) ?_⟩;rintro _ G rfl A;refine⟨_,rfl,A.vm (λH _ B h=>?_)⟩;have e:Bytes H ⟨some (aa G.heap.size),4,4⟩ [92,120,iZ (c.toNat / 16),iZ (c.toNat%16)]:=qN (T:=ez) h rfl;have j:=rZ e;refine⟨ba [92,120,iZ (c.toNat / 16),iZ (c.toNat%16)],j,?_,B.fr⟩;unfold dD;rw[ad (by rw[k];simp)]
set_option maxRecDepth 100000
abbrev nj(s:Sl)(l:List Nd)(d:Nd):List En:=[.gr s l,bE d]
def xv{w:I}{s:Sl}{l:List Nd}{d:Nd}(h:GP w s l)(hd:d.P w):O F0 w w [] (nj s l d):=bZ _ (by
 intro j e;simp only[aF,aW,a2]at e;rcases e with rfl|rfl
 .exact bd.2 h
 .exact hd)
def WH{w:I}{s:Sl}{l:List Int}(e:bJ w s l)(B:l.length<=1000000000000)(n:Int):ah U NR #[s.v,.i n] w λr k=>r=ab (.bool (ak (n∈l)))/\af w k:=by
 have C:=bJ.len e;have loop:∀(d i:Nat),i+d=l.length->(n∈l↔n∈l.drop i)->w3.L0 s n (i:Int) w λr k=>r=ab (.bool (ak (n∈l)))/\af w k:=by
  intro d;induction d with
  |zero=>
   intro i z h;rw[dH io]at h;exact w3.cH (aT (a7 io) ⟨by rw[a7 (λe=>by have:=h.1 e;simp at this)],Fr.refl _ _⟩)
  |succ d A=>
   intro i z h;have q:l[i]? =some (l[i]'io):=a0 io;rw[dG (by omega:i<l.length),aF]at h;generalize l[i]'io=x at q h;refine w3.cH (aR (a6 io) ⟨io,io,e.cell q io λp D y=>⟨x,y,ax (λj=>⟨?_,Fr.refl _ _⟩) (λj=>?_)⟩⟩)
   .rw [a6 (h.2 (.inl j.symm))]
   .rw [bt _ io];exact A (i+1) io (h.trans ⟨λe=>e.resolve_left (λe=>j e.symm),.inr⟩)
 exact w3.ok (loop l.length 0 io us)
def JP{w:I}{s:Sl}{l:List Int}(d:bJ w s l)(e:l.length<=1000000000000)(n:Int):ah U Oy #[s.v,.i n] w λr h=>r=ab (.bool (ak (n∈l)))/\af w h:=by refine Lm.ok ((WH d e n).mono ?_);rintro _ j ⟨rfl,f⟩;exact⟨_,rfl,rfl,f⟩
def Ds{w:I}{b n:Nat}{l:List Int}{T:aD}(d:w.heap[b]? =some (.cells (l.map bX).toArray T (0,0)))(e:n=l.length):bJ w ⟨some (aa b),n,n⟩ l:=
 qN d (by simpa using e)
def eG:Nat:=1000000000
def LN(op:Int):(ak (op∈[(21:Int),22,23,28])=m6 op)/\(ak (op∈[(0:Int),2,33])=m7 op):=by
 constructor
 .unfold m6;by_cases d:op=21
  .subst d;rfl
  by_cases e:op=22
  .subst e;rfl
  by_cases h:op=23
  .subst h;rfl
  by_cases j:op=28
  .subst j;rfl
  simp[d,e,h,j]
 .unfold m7;by_cases d:op=0
  .subst d;rfl
  by_cases e:op=2
  .subst e;rfl
  by_cases h:op=33
  .subst h;rfl
  simp[d,e,h]
def Yk(t:ByteArray):(t.toList==(bh #[]).toList)=ak (t=ba []):=yQ _ _
def abJ{n:Nx}{A d:Prop}(k:bK (fU n) d A):∀a b:Bool,a=m6 n.op->b=m7 n.op->
  let h:=bK (!b) (bK (!(n.tx.toList==(bh #[]).toList)) A d) d
  let j:=bK (n.op !=1) (bK (n.u !=0) A h) h
  let e:=bK (n.op !=21) (bK (n.m !=0) A j) j
  bK (!a) (bK (n.n !=0) A e) e:=by rintro a b rfl rfl;dsimp only;rw[Yk];unfold fU at k;have q:(n.op !=1)= !(n.op==1):=rfl;have w:(n.op !=21)= !(n.op==21):=rfl;have x:(n.n !=0)= !(n.n==0):=rfl;have y:(n.m !=0)= !(n.m==0):=rfl;have z:(n.u !=0)= !(n.u==0):=rfl;rw[q,w,x,y,z];generalize(n.op==1)=p1 at *;generalize(n.op==21)=p2 at *;generalize(n.n==0)=p3 at *;generalize(n.m==0)=p4 at *;generalize(n.u==0)=p5 at *;generalize ak (n.tx=ba [])=p6 at *;generalize m6 n.op=p7 at *;generalize m7 n.op=p8 at *;cases p1<;>cases p2<;>cases p3<;>cases p4<;>cases p5<;>cases p6<;>cases p7<;>cases p8<;>exact k
def oN(g:List Nx)(n:Nx):Int:=if(ck n.op==(n.kids.length:Int)&&n.kids.all (dx g)&&fU n)=true then 0 else 1
def WZ{w:I}{s:Sl}{l:List Nd}{d:Nd}(q:GP w s l)(hd:d.P w)(hk:d.x.kids.length<=eG):ah U Ov #[s.v,d.v] w λr D=>r=ab (.i (oN (xs l) d.x))/\af w D:=by
 have hn:=gz q;have H:d.ks.n=d.x.kids.length:=bJ.len hd;have L:(xs l).length=l.length:=by simp[xs]
 unfold eG at hk;have loop:∀(m i:Nat) (h:Nat) (e:I),i+m=d.x.kids.length->(ck d.x.op==(d.x.kids.length:Int))=true->(d.x.kids.all (dx (xs l))=(d.x.kids.drop i).all (dx (xs l)))->O F0 w e [.g h] (nj s l d)->
   xd.aX s h d.x.op d.ks d.x.n d.x.m d.x.u d.x.tx d.x.st.k d.x.st.n d.x.st.x (i:Int) e λr D=>r=ab (.i (oN (xs l) d.x))/\af w D:=by
  intro m;induction m with
  |zero=>
   intro i h e hi C j y;rw[dH io]at j;refine xd.bR (aT (a7 io) (y.nw λM _ z=>z.av (JP (l:=[21,22,23,28]) (Ds (n:=4) (z.ob 1) rfl) dl d.x.op) ?_));rintro _ N rfl A;refine⟨_,rfl,A.nw λw4 _ E=>E.av (JP (l:=[0,2,33]) (Ds (n:=3) (E.ob 2) rfl) dl d.x.op) ?_⟩;rintro _ w5 rfl F;refine⟨_,rfl,?_⟩;have G:∀b:Bool,fU d.x=b->oN (xs l) d.x=if b=true then 0 else 1:=λb W=>by unfold oN;rw[C,j,W];rfl
   exact abJ (n:=d.x) (bm (λq=>⟨by rw[G _ q];rfl,F.fr⟩) (λq=>⟨by rw[G _ q];rfl,F.fr⟩)) _ _ (LN d.x.op).1 (LN d.x.op).2
  |succ m ih=>
   intro i h e hi C j y;have B:d.x.kids[i]? =some (d.x.kids[i]'io):=a0 io;rw[dG (by omega:i<d.x.kids.length),List.all_cons]at j;generalize d.x.kids[i]'io=x at B j;have bad:dx (xs l) x=false->(Ending.returned (.i 1)=ab (.i (oN (xs l) d.x))/\af w e):=λhx=>⟨by unfold oN;rw[j,hx];simp,y.fr⟩;have J:bJ e d.ks d.x.kids:=y.getD 1;refine xd.bR (aR (a6 io) ⟨io,io,J.cell B io λp hp Y=>⟨x,Y,aS (λS=>bad ?_) (λS=>⟨io,io,J.cell B io λp' ac Z=>⟨x,Z,aS (λT=>bad ?_) (λT=>?_)⟩⟩)⟩⟩)
   .unfold dx;rw[a7 io];rfl
   .unfold dx;rw[a7 (show ¬x<((xs l).length:Int)by rw[L];omega)];simp
   .rw [bt _ io];refine ih (i+1) h e io C ?_ y;rw[j];unfold dx;rw[a6 (show 0<=x by omega),a6 (show x<((xs l).length:Int)by rw[L];omega)];rfl
 refine xd.aq ((xv q hd).aw λh e Q=>Q.ae λM z=>z.av (JA d.x.op M) ?_);rintro _ N rfl A;refine⟨_,rfl,cq (λK=>⟨?_,A.fr⟩) (λaa=>?_)⟩
 .unfold oN;rw[beq_eq_false_iff_ne.2 (by rw[H]at K;exact K)];rfl
 .exact loop d.x.kids.length 0 h N io (by rw[aa,H];simp) us A
def zg(g:List Nx):Prop:=∀d∈g,d.op=0->∀e∈g,e.op=0->d.tx=e.tx->d.st=e.st
def v'(n d:Nx):Bool:=ak (d.op=0/\d.tx=n.tx/\d.st≠n.st)
def Cn{t:ByteArray}{s:aM}:∀{g:List Nx},ga g t=some s->∃d∈g,d.op=0/\d.tx=t/\d.st=s
 |d::g,e=>by
  unfold ga at e;split at e
  .grind
  .obtain ⟨h,j,e⟩:=Cn e
   grind
def U3{t:ByteArray}:∀{g:List Nx},ga g t=none->∀d∈g,d.op=0->d.tx≠t
 |a::g,e,d,h,j,k=>by
  unfold ga at e;split at e
  .cases e
  .rename_i q;rcases aF.1 h with rfl|h
   .grind
   .exact U3 e d h j k
def US{g:List Nx}(A:zg g)(n:Nx):oi g n=g.any (v' n):=by
 unfold oi;cases q:ga g n.tx with
 |none=>
  symm;rw[List.any_eq_false];intro e h d;have d:=fk d;exact U3 q e h d.1 d.2.1
 |some s=>
  obtain⟨e,h,w,x,y⟩:=Cn q;by_cases j:s=n.st
  .simp only[j,decide_true,Bool.not_true];symm;rw[List.any_eq_false];intro k z d;have d:=fk d;exact d.2.2 ((A k z d.1 e h w (d.2.1.trans x.symm)).trans (y.trans j))
  .simp only[j,decide_false,Bool.not_false];symm;rw[List.any_eq_true];exact⟨e,h,a6 ⟨w,x,λk=>j (y.symm.trans k)⟩⟩
def aca(n:Int)(h:0<=n)(j:n<64):aE .u64 (1 *2^(min (aY n) (IntKind.bits .u64)))=((2^n.toNat:Nat):Int):=by
 have d:min (aY n) (IntKind.bits .u64)=n.toNat:=by show min n.toNat 64=_;omega
 have e:(2:Nat)^n.toNat<=2^63:=Nat.pow_le_pow_right io io;rw[d,Int.one_mul,show((2:Int)^n.toNat)=((2^n.toNat:Nat):Int)from by grind];generalize(2:Nat)^n.toNat=m at e;exact IntWalk.u64_in _ io
abbrev gF(x:aM×Int):cZ:=ab (.tuple #[dk x.1,.i x.2])
def wb{s:aM}(d:bx s=true)(e:s.k=0):1<=s.n/\s.n<=64/\s.x=0:=by
 unfold bx at d
 grind
def nD{s:aM}(d:bx s=true):0<=s.n/\s.n<=64/\0<=s.x/\s.x<=16/\0<=s.k/\s.k<=3:=by
 unfold bx at d
 grind
def W'{w:I}{s:Sl}{l:List Nd}{d:Nd}(B:GP w s l)(hd:d.P w)(hl:l.length<=eG)(h0:0<=d.x.op)(h3:d.x.op<=3)(hv:zg (xs l)):ah U Oz #[s.v,d.v] w λr j=>r=gF (b6 (xs l) d.x)/\af w j:=by
 have hn:=gz B;have aA:(xs l).length=l.length:=by grind
 unfold eG at hl;have e0:d.x.op=0\/d.x.op=1\/d.x.op=2\/d.x.op=3:=io
 refine kK.aq ((xv B hd).aw λA w1 H1=>H1.aw λy w2 W=>ax (λh2=>?_) (λh2=>?_))
 .refine aS (λhs=>W.ae λN K=>⟨?_,K.fr⟩) (λhs=>W.av (pA _ w2) ?_)
  .unfold b6;rw[ag h2,ag io];rfl
  .rintro _ N rfl K;refine⟨_,_,_,rfl,K.ae λY G=>⟨?_,G.fr⟩⟩;unfold b6;grind
 have D:b6 (xs l) d.x=if d.x.op=0/\jE (bl d.x.tx)=false then(a5,6)else
   if bx d.x.st=false then(a5,9)else
   if d.x.op=1/\d.x.st.k≠0\/d.x.op=3/\dV d.x.st=false then(a5,9)else
   if d.x.op=1/\mU d.x.u d.x.st.n=true then(a5,5)else
   if d.x.op=0/\(xs l).any (v' d.x)=true then(a5,8)else(d.x.st,0):=by unfold b6;rw[ad h2,US hv]
 have S0:∀(nm:Bool) (N:I),nm=(!decide (d.x.op=0)||jE (bl d.x.tx))->O F0 w N [.g A,.g y] (nj s l d)->kK.aV s A d.x.op d.ks d.x.n d.x.m d.x.u d.x.tx d.x.st.k d.x.st.n d.x.st.x y 0 0 0 nm N λr j=>r=gF (b6 (xs l) d.x)/\af w j:=by
  intro nm N S K;refine eS (λE=>K.ae λY G=>⟨?_,G.fr⟩) (λF=>?_)
  .rw [E]at S;have S:=S.symm;simp only[Bool.or_eq_false_iff,Bool.not_eq_false',decide_eq_true_eq]at S;rw[D,ag S];rfl
  have ao:¬(d.x.op=0/\jE (bl d.x.tx)=false):=λhc=>by grind
  rw[ad ao]at D;refine K.av (acp d.x.st N) ?_;rintro _ Y rfl G;refine⟨_,rfl,HJ (λE=>G.ae λh z=>⟨?_,z.fr⟩) (λF=>?_)⟩
  .rw [D,ag E];unfold gm;rw[E];rfl
  rw[ad (by grind)]at D;have loop:∀(m i:Nat) (h:I),i+m=l.length->b6 (xs l) d.x=(if d.x.op=0/\((xs l).drop i).any (v' d.x)=true then(a5,8)else(d.x.st,0))->O F0 w h [.g A,.g y] (nj s l d)->
    kK.iQ s A d.x.op d.ks d.x.n d.x.m d.x.u d.x.tx d.x.st.k d.x.st.n d.x.st.x y 0 0 0 (i:Int) h λr j=>r=gF (b6 (xs l) d.x)/\af w j:=by
   intro m;induction m with
   |zero=>
    intro i h hi J z;rw[dH io]at J;refine kK.mQ (aT (a7 io) (z.ae λC q=>⟨?_,q.fr⟩))
    grind
   |succ m ih=>
    intro i h hi J z;have Q:l[i]? =some (l[i]'io):=a0 io;have hx:(xs l).drop i=(l[i]'io).x::(xs l).drop (i+1):=by
     rw[dG (by omega:i<(xs l).length)]
     grind
    rw[hx,List.any_cons]at J;generalize l[i]'io=e at Q J;have next:∀C,O F0 w C [.g A,.g y] (nj s l d)->(d.x.op=0->v' d.x e.x=false)->kK.lu s A d.x.op d.ks d.x.n d.x.m d.x.u d.x.tx d.x.st.k d.x.st.n d.x.st.x y 0 0 0 (i:Int) C λr j=>r=gF (b6 (xs l) d.x)/\af w j:=by
     intro C q F;show kK.iQ s A d.x.op d.ks d.x.n d.x.m d.x.u d.x.tx d.x.st.k d.x.st.n d.x.st.x y 0 0 0 (aE .i64 ((i:Int)+1)) C _;rw[bt _ io]
     grind
    have G5:GP h s l:=bd.1 (z.getD 0);refine kK.mQ (aR (a6 io) (ax (λho=>?_) (λho=>z.ae λC q=>next C q (λB=>absurd B ho))));refine eJ G5 rfl Q λp hp _=>z.ae λC q=>?_;have c6:=xk (bd.1 (q.getD 0)) Q hp (rfl:((i:Int))=(i:Int));refine⟨_,c6.c0,ax (λT=>?_) (λT=>next C q λ_=>a7 λB=>T B.1)⟩;refine eJ (bd.1 (q.getD 0)) rfl Q λp1 ar aj=>⟨_,aj.c5,BJ (λF=>?_) (λF=>next C q λ_=>a7 λB=>F B.2.1)⟩;refine eJ (bd.1 (q.getD 0)) rfl Q λp2 az aa=>⟨_,_,_,aa.s0,aa.s1,aa.s2,yt (λE=>q.ae λw7 H7=>⟨?_,H7.fr⟩) (λap=>next C q λ_=>a7 λB=>B.2.2 ap)⟩;rw[J,ag ⟨ho,by rw[show v' d.x e.x=true from a6 ⟨T,F,E⟩];rfl⟩];rfl
  have Z:∀h:I,b6 (xs l) d.x=(if d.x.op=0/\(xs l).any (v' d.x)=true then(a5,8)else(d.x.st,0))->O F0 w h [.g A,.g y] (nj s l d)->
    kK.gw s A d.x.op d.ks d.x.n d.x.m d.x.u d.x.tx d.x.st.k d.x.st.n d.x.st.x y 0 0 0 h λr j=>r=gF (b6 (xs l) d.x)/\af w j:=λh J z=>loop l.length 0 h io J z
  have S1:∀(a:Bool) (h:I),a=dV d.x.st->O F0 w h [.g A,.g y] (nj s l d)->kK.bg s A d.x.op d.ks d.x.n d.x.m d.x.u d.x.tx d.x.st.k d.x.st.n d.x.st.x y 0 0 0 a h λr j=>r=gF (b6 (xs l) d.x)/\af w j:=by
   rintro a h rfl z;have bad:(d.x.op=1/\d.x.st.k≠0\/d.x.op=3/\dV d.x.st=false)->kK.bL y 0 0 0 h λr j=>r=gF (b6 (xs l) d.x)/\af w j:=λH=>z.ae λC q=>⟨by rw[D,ag H];rfl,q.fr⟩;have S3:¬(d.x.op=1/\d.x.st.k≠0\/d.x.op=3/\dV d.x.st=false)->kK.cM s A d.x.op d.ks d.x.n d.x.m d.x.u d.x.tx d.x.st.k d.x.st.n d.x.st.x y 0 0 0 h λr j=>r=gF (b6 (xs l) d.x)/\af w j:=λH=>by
    rw[ad H]at D;refine ax (λL=>?_) (λL=>Z h (by grind) z);have M:d.x.st.k=0:=io
    obtain⟨v1,v2,_⟩:=wb F M;have ew:aE .u64 d.x.st.n=d.x.st.n:=IntWalk.u64_in _ io;refine aS (λac=>⟨io,?_⟩) (λac=>Z h (by rw[D,ad];rintro⟨_,H⟩;unfold mU at H;grind) z);rw[ew,aca _ io ac];have hp:((2^d.x.st.n.toNat:Nat):Int)=(2:Int)^d.x.st.n.toNat:=by grind
    rw[hp];refine aS (λam=>z.ae λC q=>⟨?_,q.fr⟩) (λam=>Z h ?_ z)
    .rw [D,ag ⟨L,by unfold mU;grind⟩];rfl
    .rw [D,ad];rintro⟨_,H⟩;unfold mU at H
     grind
   have ai:¬(d.x.op=1/\d.x.st.k≠0)->bK (d.x.op==3) (bK (!dV d.x.st) (kK.bL y 0 0 0 h λr j=>r=gF (b6 (xs l) d.x)/\af w j) (kK.cM s A d.x.op d.ks d.x.n d.x.m d.x.u d.x.tx d.x.st.k d.x.st.n d.x.st.x y 0 0 0 h λr j=>r=gF (b6 (xs l) d.x)/\af w j)) (kK.cM s A d.x.op d.ks d.x.n d.x.m d.x.u d.x.tx d.x.st.k d.x.st.n d.x.st.x y 0 0 0 h λr j=>r=gF (b6 (xs l) d.x)/\af w j):=λM=>
    ax (λh3=>eS (λE=>bad (.inr ⟨h3,E⟩)) (λF=>S3 (by grind))) (λh3=>S3 io)
   exact ax (λL=>cq (λM=>bad (.inl ⟨L,M⟩)) (λM=>ai (λB=>B.2 M))) (λL=>ai (λB=>L B.1))
  refine ax (λan=>S1 true Y ?_ G) (λan=>S1 _ Y ?_ G)
  .unfold dV;grind
  .unfold dV;grind
 refine cq (λT=>S0 true w2 ?_ W) (λT=>W.av (WL d.x.tx w2) ?_)
 .grind
 grind
def Cl{s:aM}(d:(s.k=0/\1<=s.n/\s.n<=64/\s.x=0)\/(s.k=1/\0<=s.n/\s.n<=64/\s.x=0)\/(s.k=2/\1<=s.n/\s.n<=64/\1<=s.x/\s.x<=16)\/(s.k=3/\0<=s.n/\s.n<=64/\1<=s.x/\s.x<=16)):bx s=true:=by
 unfold bx
 grind
def Ck{s:aM}:bx s=true↔(s.k=0/\1<=s.n/\s.n<=64/\s.x=0)\/(s.k=1/\0<=s.n/\s.n<=64/\s.x=0)\/(s.k=2/\1<=s.n/\s.n<=64/\1<=s.x/\s.x<=16)\/(s.k=3/\0<=s.n/\s.n<=64/\1<=s.x/\s.x<=16):=by
 refine⟨λd=>?_,Cl⟩;unfold bx at d
 grind
structure rP(g:List Nx)(n:Nx):Prop where
 kl:ck n.op=(n.kids.length:Int)
 ki:∀k∈n.kids,0<=k/\k<(g.length:Int)
 ok:fU n=true
def yA{g:List Nx}{n:Nx}(e:(bo g n).2=0):rP g n:=by
 unfold bo at e;split at e
 .cases e
 .rename_i d;simp only[Bool.and_eq_false_iff,not_or,Bool.not_eq_false,beq_iff_eq]at d;refine⟨d.1.1,λj h=>?_,d.2⟩;have:=dF.1 d.1.2 j h;unfold dx at this
  grind
def MK{g:List Nx}{n:Nx}(k:∀e∈g,bx e.st=true)(h:∀d∈n.kids,0<=d/\d<(g.length:Int)){i:Nat}(hi:i<n.kids.length):bx (a8 g n i)=true:=by
 have j:=h _ (List.getElem_mem hi);unfold a8
 grind
def Yj{x:aM}(e:bx x=true)(d:dV x=true):bx (ib x)=true:=by
 rw[Ck]at e;unfold dV at d;simp only[Bool.or_eq_true,beq_iff_eq]at d;unfold ib;refine Cl ?_;split
 .show (0=0/\1<=x.n/\x.n<=64/\0=0)\/_;omega
 .right;left;show(1:Int)=1/\0<=x.n/\x.n<=64/\(0:Int)=0;omega
def py{n:Int}(d:1<=n)(e:n<=64):bx (aZ n)=true:=Cl (.inl ⟨rfl,d,e,rfl⟩)
def yD{n:Int}(d:0<=n)(e:n<=64):bx (e0 n)=true:=Cl (.inr (.inl ⟨rfl,d,e,rfl⟩))
def TV{g:List Nx}{n:Nx}(N:∀K∈g,bx K.st=true)(e:(bo g n).2=0):bx (bo g n).1=true:=by
 have C:=yA e;have F:∀i:Nat,(i:Int)<ck n.op->bx (a8 g n i)=true:=λi Q=>MK N C.ki (by have:=C.kl;omega);unfold bo at e ⊢;split at e
 .cases e
 rename_i G;rw[ad G];split at e
 .rename_i E;rw[ag E];unfold b6 at e ⊢;split at e
  .rename_i A;rw[ag A];split at e
   .cases e
   .rename_i M;rw[ad M];exact yD io io
  grind
 rename_i E;rw[ad E];split at e
 .cases e
 rename_i d;rw[ad d];split at e
 .cases e
 rename_i h;rw[ad h];split at e
 .cases e
 rename_i H;rw[ad H];simp only[Bool.not_eq_false]at d h;have L:n.op<=34:=by
  rcases Int.lt_or_le 34 n.op with e|e
  .have:=C.kl;unfold ck at this;omega
  omega
 generalize J:a8 g n 0=x at *;generalize O:a8 g n 1=y at *;generalize P:a8 g n 2=z at *;have j:bx x=true:=by rw[<-J];exact F 0 (by unfold ck;omega)
 have B:2<=ck n.op->bx y=true:=λe=>by grind
 have D:ck n.op=3->bx z=true:=λe=>by grind
 obtain⟨op,kids,w,m,u,S,st⟩:=n;simp only at *;clear J O P F C G H;rcases vp io L with rfl|rfl|rfl|rfl|rfl|rfl|rfl|rfl|rfl|rfl|rfl|rfl|rfl|rfl|rfl|rfl|rfl|rfl|rfl|rfl|rfl|rfl|rfl|rfl|rfl|rfl|rfl|rfl|rfl|rfl|rfl|rfl|rfl|rfl|rfl
 iterate 4 omega
 all_goals first |(have B:=B dl)|skip
 all_goals first |(have D:=D dl)|skip
 iterate 12 exact j
 iterate 3 exact py io io
 .show bx (if y.k=1 then e0 (if y.n<z.n then z.n else y.n)else y)=true;split
  .rename_i F;have d:(ak (x=aZ 1)&&(ak (y=z)||(y.k==1&&z.k==1)))=true:=d;have q:=nD B;have A:=nD D;exact yD io io
  omega
 .have d:(x.k==0&&y.k==0)=true:=d;have h:ak (x.n+y.n<=64)=true:=h;simp only[bf,beq_iff_eq]at d;have q:=wb j d.1;have A:=wb B d.2;exact py io (fk h)
 .have d:(x.k==0)=true:=d;have h:(ak (0<=m)&&ak (m<=w)&&ak (w<x.n))=true:=h;simp only[bf,decide_eq_true_eq]at h;have q:=wb j (eq_of_beq d);show bx (aZ (w - m+1))=true;exact py io io
 iterate 2
  .have d:(x.k==0)=true:=d;have h:(ak (1<=w)&&ak (w<=64 - x.n))=true:=h;simp only[bf,decide_eq_true_eq]at h;have q:=wb j (eq_of_beq d);show bx (aZ (x.n+w))=true;exact py io io
 .have d:(dV x&&ak (y=aZ x.x))=true:=d;simp only[bf]at d;exact Yj j d.1
 .exact j
 .have d:(dV x&&ak (x=y))=true:=d;simp only[bf]at d;have q:=d.1;unfold dV at q;simp only[Bool.or_eq_true,beq_iff_eq]at q;rw[Ck]at j;exact py io io
 .exact py io io
 .exact py io io
 .have h:ak (x.n+y.n<=64)=true:=h;have q:=nD j;have A:=nD B;exact yD io (fk h)
 .exact j
 .exact py io io
 .have h:ak (x.n+z.n<=64)=true:=h;have q:=nD j;have A:=nD D;exact yD io (fk h)
 .exact py io io
 .exact yD io io
def Vg.val{g:List Nx}(h:Vg g):∀e∈g,bx e.st=true:=by
 induction h with
 |nil=>simp
 |snoc q j w k=>
  intro e d;rcases aP.1 d with d|d
  .grind
  .simp only[aF,aW,a2]at d;subst d;have:=TV k (by rw[j])
   grind
def var_eq{g k:List Nx}{a b:Nx}(e:rP g a)(x:rP k b)(d:a.op=0)(q:b.op=0)(H:a.tx=b.tx)(G:a.st=b.st):a=b:=by
 have j:∀{g:List Nx} {a:Nx},rP g a->a.op=0->a.kids=[]/\a.n=0/\a.m=0/\a.u=0:=by
  intro g a e d;have w:=e.kl;have h:=e.ok;rw[d]at w;unfold fU at h;rw[d]at h;refine⟨List.eq_nil_of_length_eq_zero (by have:ck 0=0:=rfl;omega),?_⟩;have:m6 0=false:=rfl
  grind
 obtain⟨y,z,A,B⟩:=j e d;obtain⟨C,D,E,F⟩:=j x q;cases a;cases b
 grind
def Vg.ok{g:List Nx}(e:Vg g):∀i d,g[i]? =some d->bo (g.take i) d=(d.st,0):=by
 induction e with
 |nil=>grind
 |@snoc g n h k j q=>
  grind
def Vg.ti{g:List Nx}(e:Vg g):∀i d,g[i]? =some d->rP (g.take i) d:=λi d h=>yA (by rw[e.ok i d h])
def Vg.kids{g:List Nx}(h:Vg g){i:Nat}{d:Nx}(hd:g[i]? =some d):∀e∈d.kids,0<=e/\e<(i:Int):=λe j=>by
 have k:=(h.ti i d hd).ki e j
 grind
def Vg.vars{g:List Nx}(k:Vg g):zg g:=by
 induction k with
 |nil=>intro h d;cases d
 |@snoc g n B e C z=>
  have one:∀h∈g,h.op=0->n.op=0->h.tx=n.tx->h.st=n.st:=by
   intro h d q w y;have D:rP g n:=yA (by rw[e]);unfold bo at e;split at e
   .grind
   rw[ag (by omega:n.op<=3)]at e;unfold b6 at e;rw[ad io]at e;split at e
   .grind
   split at e
   .grind
   split at e
   .omega
   split at e
   .omega
   split at e
   .grind
   rename_i x;simp only[w,true_and,iu]at x;rw[US z,List.any_eq_false]at x;rcases decEq h.st n.st with k|k
   .exact absurd (a6 ⟨q,y,k⟩) (x h d)
   omega
  intro h d q A j w y;have d:=aP.1 d;have j:=aP.1 j;simp only[aF,aW,a2]at d j;rcases d with d|d
  .rcases j with j|j
   .exact z h d q A j w y
   grind
  grind
def sB{n:Nx}:∀{g:List Nx} {i:Nat},eo n g i=none->n∉g
 |[],i,_=>us
 |j::g,i,d=>by
  unfold eo at d;split at d
  .cases d
  .rename_i h;simp only[aF,not_or];exact⟨λe=>h e.symm,sB d⟩
def q4{n:Nx}:∀{g:List Nx} {i k:Nat},eo n g i=some k->i<=k/\g[k - i]? =some n
 |e::g,i,k,d=>by
  unfold eo at d;split at d
  .grind
  .have:=q4 d
   grind
def hN(ts:List BL):Nat:=(ts.map λt=>t.length+2).sum
def sZ(d:Nat)(a:Rx)(t:BL):(cR d a t).length<=t.length+2/\t.length<=(cR d a t).length:=by
 unfold cR
 grind
def Fe(k:Int):∀(ts:List BL) (out:BL),(jZ k out ts).length<=out.length+hN ts/\out.length<=(jZ k out ts).length
 |[],out=>by simp[jZ,hN]
 |t::ts,out=>by
  unfold jZ;have d:=Fe k ts ((if k=3/\eL (lJ out)=true/\eL (gQ t 0)=true then out++[32]else out)++hh k++t);have h:(hh k).length<=1:=by unfold hh;grind
  have q:k=3->(hh k).length=0:=λe=>by unfold hh;grind
  have j:((if k=3/\eL (lJ out)=true/\eL (gQ t 0)=true then out++[32]else out):BL).length<=out.length+2 - (hh k).length/\out.length<=((if k=3/\eL (lJ out)=true/\eL (gQ t 0)=true then out++[32]else out):BL).length:=by grind
  simp only[bM]at d;have w:hN (t::ts)=t.length+2+hN ts:=by simp[hN]
  omega
mutual
def yX:∀x:Rx,(a' x).length+4<=18 *x.sz
 |.mk d lo j l=>by
  have q:∀c,(dD c).length<=4:=λc=>by unfold dD;grind
  have D:=tM 3 l;have E:=tM 4 l;have C:=tM 0 l;have H:(sO d).length=4:=by unfold sO;grind
  have h:∀e,(kP (dt e l)).length<=hN (dt e l):=λe=>by
   cases dt e l with
   |nil=>simp[kP]
   |cons t k=>simp[kP,hN];omega
  have A:=h 3;have B:=h 4;have z:=h 0;have G:=q lo;have F:=q j;unfold Rx.sz;unfold a';split
  .grind
  .split
   .simp;omega
   .split
    .grind
    .split
     .grind
     .split
      .grind
      .split
       .grind
       .have w:=tM (cT (.mk d lo j l)+1) l;cases y:dt (cT (.mk d lo j l)+1) l with
        |nil=>show 0+4<=_;omega
        |cons t k=>
         rw[y]at w;have:=(Fe d k t).1;simp only[hN,List.map_cons,List.sum_cons]at w;simp only[hN]at this;show(jZ d t k).length+4<=_;omega
def tM(d:Nat):∀l:List Rx,hN (dt d l)<=18 *Rx.a1 l
 |[]=>by simp[dt,hN]
 |a::l=>by have h:=yX a;have e:=tM d l;have j:=(sZ d a (a' a)).1;unfold dt Rx.a1;simp only[hN,List.map_cons,List.sum_cons]at e ⊢;omega
end
def A'{k:Int}{lo hi:UInt8}{l:List Rx}(d:i7 (.mk k lo hi l)=true):0<=k/\k<=7/\(k=6\/k=7->l.length=1)/\oY l=true:=by
 unfold i7 at d
 grind
def Ba:∀{l:List Rx} {a:Rx},oY l=true->a∈l->i7 a=true
 |b::l,a,d,e=>by
  unfold oY at d;rw[bf]at d;rcases aF.1 e with rfl|e
  .grind
  .exact Ba d.2 e
def Cz:∀k:Rx,i7 k=true->0<(a' k).length
 |.mk d lo j l=>λq=>by
  obtain⟨w,x,y,e⟩:=A' q;have z:∀c,0<(dD c).length:=λc=>by unfold dD;grind
  unfold a';split
  .simp
  .split
   .simp
   .split
    .grind
    .split
     .simp
     .split
      .simp
      .split
       .grind
       .rename_i h
        match l,e,h with
        |[],_,h=>grind
        |a::m,e,h=>
         have:=Cz a (Ba e us);unfold dt;show 0<(jZ _ _ _).length;have A:=(Fe d (dt (cT (.mk d lo j (a::m))+1) m) (cR (cT (.mk d lo j (a::m))+1) a (a' a))).2;have B:=(sZ (cT (.mk d lo j (a::m))+1) a (a' a)).2;omega
def DN(x:J)(w:I)(G:0<=x.k)(H:x.k<=7)(B:x.P w):ah U FO #[x.v] w λr d=>r=ab (.i (cT x.rx:Int))/\af w d:=by
 have L:=J.cw B.parts.1;have K:(J.ao x.l).length=x.l.length:=by rw[J.fY,List.length_map]
 have D:cT x.rx=if x.k=6 then 3 else if x.k<3\/x.k=7\/x.l.length<2 then 4 else if x.k=3 then 2 else if x.k=4 then 0 else 1:=by
  rw[J.fw];unfold cT
  grind
 rw[D];have four:∀d,af w d->x.k≠6->(x.k<3\/x.k=7\/x.l.length<2)->El.aV d λr d=>r=ab (.i ((if x.k=6 then 3 else if x.k<3\/x.k=7\/x.l.length<2 then 4 else if x.k=3 then 2 else if x.k=4 then 0 else 1:Nat):Int))/\af w d:=λd f j F=>⟨by grind,f⟩;refine El.aq ((gT B).aw λb y h=>ax (λj=>⟨by grind,h.fr⟩) (λj=>aS (λz=>four y h.fr j (.inl z)) (λz=>ax (λA=>four y h.fr j (.inr (.inl A))) (λA=>aS (λE=>four y h.fr j (.inr (.inr io))) (λE=>?_)))));refine h.nw λM _ e=>?_;have q:x.k=3\/x.k=4\/x.k=5:=io
 have C:(if x.k=6 then 3 else if x.k<3\/x.k=7\/x.l.length<2 then 4 else if x.k=3 then 2 else if x.k=4 then 0 else 1:Nat)=if x.k=3 then 2 else if x.k=4 then 0 else 1:=by grind
 rw[C];rcases q with q|q|q<;>rw[q]
 .exact ⟨dl,dl,lQ ⟨2,e.ld 1 0,rfl,e.fr⟩⟩
 .exact ⟨dl,dl,lQ ⟨0,e.ld 1 1,rfl,e.fr⟩⟩
 .exact ⟨dl,dl,lQ ⟨1,e.ld 1 2,rfl,e.fr⟩⟩
def MO(t:BL)(d:0<t.length):gQ t (t.length - 1)=lJ t:=by
 unfold gQ lJ
 grind
def aec(l:List J)(i:Nat):Rx.a1 (J.ao (l.drop i))<=J.a1 l:=by
 rw[J.ys];induction l generalizing i with
 |nil=>simp
 |cons a l d=>
  cases i with
  |zero=>grind
  |succ i=>have:=d i;show _<=a.sz+J.a1 l;grind
abbrev VR(n:Nat):Prop:=∀(x:J) (d:Nat) (w:I),x.sz<=n->d<=1000->i7 x.rx=true->x.P w->ah U q7 #[x.v,.i (d:Int)] w λr e=>r=ab (.string (ba (cR d x.rx (a' x.rx))))/\af w e
def JG:∀n:Nat,n<=1000000->VR n
 |0,_=>λx F w A _ _ _=>absurd A (by have:=J.nA x;omega)
 |n+1,hn=>by
  have ih:=JG n io;have core:∀(x:J) (F:Nat) (w:I),x.sz<=n+1->¬cT x.rx<F->i7 x.rx=true->x.P w->ah U q7 #[x.v,.i (F:Int)] w λr w'=>r=ab (.string (ba (a' x.rx)))/\af w w':=by
   intro x F w A bg ac px;have hs:=J.iK x;have hl:=J.gp x.l;have Y:=J.cw px.parts.1;have aj:=ac;rw[J.fw]at aj;obtain⟨k0,k7,aM,bd⟩:=A' aj;have aL:(J.ao x.l).length=x.l.length:=by rw[J.fY,List.length_map]
   rw[aL]at aM;have aK:∀a∈x.l,i7 a.rx=true:=λa j=>Ba bd (by rw[J.fY];exact List.mem_map.2 ⟨a,j,rfl⟩);have a8:∀a:J,a.sz<=1000000->(a' a.rx).length<=18000000:=λa j=>by have:=yX a.rx;rw[J.eu]at this;omega
   have aB:∀(a:J) (F:Nat),a.sz<=1000000->(cR F a.rx (a' a.rx)).length<=18000002:=λa F j=>by have D:=a8 a j;have:=(sZ F a.rx (a' a.rx)).1;omega
   have aZ:∀c,(dD c).length<=4:=λc=>by unfold dD;split<;>simp
   let Q:aC:=λr w'=>r=ab (.string (ba (a' x.rx)))/\af w w'
   have one:∀(a:J) (am:Nat) (H:I) (h:Nat) (K:ByteArray->I->Prop),am<=1000->a∈x.l->O F0 w H [.g h] [.tree x]->(∀B,O F0 w B [.g h] [.tree x]->K (ba (cR am a.rx (a' a.rx))) B)->DW [h] q7 #[.agg #[.i a.k,.int .u8 (a.lo.toNat:Int),.int .u8 (a.hi.toNat:Int),a.s.v],.i (am:Int)] H K:=by intro a am H h K bi j G hK;have aH:=J.eM j;refine G.av (ih a am H io bi (aK a j) ((show x.P H from G.getD 0).parts.2.mem j)) ?_;rintro _ B rfl q;exact⟨_,rfl,hK B q⟩
   refine m3.aq ((gT px).aw λh H G=>?_);have G:O F0 w H [.g h] [.tree x]:=G;refine G.av (DN x H k0 k7 (G.getD 0)) ?_;rintro _ B rfl q;have N:a' x.rx=a' (.mk x.k x.lo x.hi (J.ao x.l)):=by rw[J.fw]
   refine⟨_,rfl,aT (a7 io) (ax (λe=>⟨?_,q.fr⟩) (λS=>ax (λe=>⟨?_,q.fr⟩) (λZ=>ax (λT=>?_) (λT=>ax (λW=>?_) (λW=>ax (λaa=>?_) (λaa=>aS (λbe=>?_) (λbe=>?_)))))))⟩
   .rw [N];unfold a';rw[ag e];rfl
   .rw [N];unfold a';rw[ad S,ag e];rfl
   .have e2:a' x.rx=if x.lo=x.hi then dD x.lo else 91::(dD x.lo++45::(dD x.hi++[93])):=by rw[N];unfold a';rw[ad S,ad Z,ag T]
    refine ax (λa2=>q.av (DM x.lo B) ?_) (λa2=>q.ae λC L=>L.av (DM x.lo C) ?_)
    .rintro _ z rfl y;exact⟨_,rfl,by rw[e2,ag (UInt8.toNat_inj.1 io)],y.fr⟩
    .rintro _ w6 rfl H6;have D:=aZ x.lo;have h2:=aZ x.hi;have s0:bh #[91]++ba (dD x.lo)++bh #[45]=ba (91::dD x.lo++[45]):=by show ba [91]++ba (dD x.lo)++ba [45]=_;rw[cg,cg];rfl
     refine⟨_,rfl,?_,?_,H6.av (DM x.hi w6) ?_⟩
     .rw [bC];show ¬(((1+_:Nat):Int)>9223372036854775807);omega
     .have:(bh #[91]++ba (dD x.lo)).size=1+(dD x.lo).length:=by show(ba [91]++_).size=_;rw[cg,bC];simp;omega
      rw[this];show ¬(((_+1:Nat):Int)>9223372036854775807);omega
     rintro _ w7 rfl H7;rw[s0];have:ba (91::dD x.lo++[45]++dD x.hi)++bh #[93]=ba (91::dD x.lo++[45]++dD x.hi++[93]):=by show _++ba [93]=_;rw[cg]
     refine⟨_,rfl,?_,?_,?_,H7.fr⟩
     .rw [bC,bC];simp only[bM,cD,gX];show ¬(((_:Nat):Int)>9223372036854775807);omega
     .rw [cg,bC];simp only[bM,cD,gX];show ¬(((_+1:Nat):Int)>9223372036854775807);omega
     .rw [cg,this,e2,ad (λA=>a2 (by rw[A]))];simp
   .have D:=aM (.inl W);have e6:a' x.rx=33::kP (dt 3 (J.ao x.l)):=by rw[N];unfold a';rw[ad S,ad Z,ad T,ag W]
    match gR:x.l,D with
    |[a],_=>
     have j:a∈x.l:=by rw[gR];simp
     have aH:=J.eM j;refine j5 (show x.P B from q.getD 0) (k:=0) rfl (by rw[gR];rfl) (one a 3 B h _ io j q λz y=>⟨?_,?_,y.fr⟩)
     .have:=aB a 3 io;rw[bC];show ¬(((1+_:Nat):Int)>9223372036854775807);omega
     .have:bh #[33]++ba (cR 3 a.rx (a' a.rx))=ba (33::cR 3 a.rx (a' a.rx)):=by show ba [33]++_=_;rw[cg];rfl
      rw[this,e6,gR];rfl
   .have D:=aM (.inr aa);have e7:a' x.rx=kP (dt 4 (J.ao x.l))++[42]:=by rw[N];unfold a';rw[ad S,ad Z,ad T,ad W,ag aa]
    match gR:x.l,D with
    |[a],_=>
     have j:a∈x.l:=by rw[gR];simp
     have aH:=J.eM j;refine j5 (show x.P B from q.getD 0) (k:=0) rfl (by rw[gR];rfl) (one a 4 B h _ io j q λz y=>⟨?_,?_,y.fr⟩)
     .have:=aB a 4 io;rw[bC];show ¬(((_+1:Nat):Int)>9223372036854775807);omega
     .have:ba (cR 4 a.rx (a' a.rx))++bh #[42]=ba (cR 4 a.rx (a' a.rx)++[42]):=by show _++ba [42]=_;rw[cg]
      rw[this,e7,gR];rfl
   .
    have e:x.k=3\/x.k=4\/x.k=5:=io
    have ef:a' x.rx=sO x.k++(kP (dt 0 (J.ao x.l))++[41]):=by rw[N];unfold a';rw[ad S,ad Z,ad T,ad W,ad aa,ag (by rw[aL];omega)]
    have fin:∀(t:BL) (z:I),t.length<=18000002->kP (dt 0 (J.ao x.l))=t->O F0 w z [.g h] [.tree x]->m3.aV h x.k x.lo.toNat x.hi.toNat x.s (ba t) z Q:=by
     intro t z ht E y;dsimp only[m3.aV,ai];refine y.nw λw4 _ M=>?_;have key:∀(u:BL),u.length=4->sO x.k=u->¬((((ba u).size+(ba t).size:Nat):Int)>IntKind.i64.max)/\¬((((ba u++ba t).size+(bh #[41]).size:Nat):Int)>IntKind.i64.max)/\Q (ab (.string ((ba u++ba t)++(bh #[41])))) w4:=by
      intro u hu hn;refine⟨?_,?_,?_,M.fr⟩
      .rw [bC,bC];show ¬(((_:Nat):Int)>9223372036854775807);omega
      .rw [cg,bC];simp only[bM];show ¬(((_+1:Nat):Int)>9223372036854775807);omega
      .have:ba u++ba t++bh #[41]=ba (u++(t++[41])):=by show _++_++ba [41]=_;rw[cg,cg];simp
       rw[this,ef,hn,E]
     rcases e with e|e|e<;>rw[e]
     .exact ⟨dl,dl,lQ ⟨ba [99,97,116,40],M.ld 1 0,key _ rfl (by rw[e];rfl)⟩⟩
     .exact ⟨dl,dl,lQ ⟨ba [97,108,116,40],M.ld 1 1,key _ rfl (by rw[e];rfl)⟩⟩
     .exact ⟨dl,dl,lQ ⟨ba [97,108,108,40],M.ld 1 2,key _ rfl (by rw[e];rfl)⟩⟩
    refine ax (λD=>?_) (λD=>?_)
    .match gR:x.l with
     |[]=>rw[gR]at Y;simp at Y;omega
     |_::_::_=>rw[gR]at Y;simp at Y;omega
     |[a]=>
      have j:a∈x.l:=by rw[gR];simp
      have aH:=J.eM j;refine j5 (show x.P B from q.getD 0) (k:=0) rfl (by rw[gR];rfl) (one a 0 B h _ io j q λz y=>?_);exact fin _ z (aB a 0 io) (by rw[gR];rfl) y
    .have:x.l=[]:=List.length_eq_zero_iff.1 io;exact fin [] B us (by rw[this];rfl) q
   .
    have e:x.k=3\/x.k=4\/x.k=5:=io
    match gR:x.l with
    |[]=>rw[gR]at Y;simp at Y;omega
    |a::m=>
    have j:a∈x.l:=by rw[gR];simp
    have aH:=J.eM j;have bw:(hh x.k).length<=1:=by unfold hh;split<;>(try split)<;>simp
    have ef:a' x.rx=jZ x.k (cR (cT x.rx+1) a.rx (a' a.rx)) (dt (cT x.rx+1) (J.ao (x.l.drop 1))):=by
     have e1:a' x.rx=Ai x.k (dt (cT x.rx+1) (J.ao x.l)):=by
      conv=>lhs;rw[N];unfold a';rw[ad S,ad Z,ad T,ad W,ad aa,ad (by rw[aL];omega)]
      rw[<-J.fw]
     rw[e1,gR];rfl
    have bq:cT x.rx<=4:=by rw[J.fw];unfold cT;dsimp only;repeat (first |omega|split)
    have loop:∀(d i:Nat) (out:BL) (z:I),i+d=x.l.length->1<=i->0<out.length->out.length+hN (dt (cT x.rx+1) (J.ao (x.l.drop i)))<=40000000->a' x.rx=jZ x.k out (dt (cT x.rx+1) (J.ao (x.l.drop i)))->O F0 w z [.g h] [.tree x]->
      m3.cA h x.k x.lo.toNat x.hi.toNat x.s (ba (hh x.k)) (cT x.rx:Int) (ba out) (i:Int) z Q:=by
     intro d;induction d with
     |zero=>
      intro i out z bc D a3 aG E y;refine m3.dU (aT (a7 io) ⟨?_,y.fr⟩);rw[E,dH io];rfl
     |succ d bj=>
      intro i out z bc D a3 aG E y;have hg:x.l[i]? =some (x.l[i]'io):=a0 io;have a1:x.l.drop i=(x.l[i]'io)::x.l.drop (i+1):=dG io;generalize x.l[i]'io=c at hg a1;have hc:=ay hg;have bx:=J.eM hc;rw[a1]at E aG;have aG:out.length+((cR (cT x.rx+1) c.rx (a' c.rx)).length+2+hN (dt (cT x.rx+1) (J.ao (x.l.drop (i+1)))))<=40000000:=by
       have:hN (dt (cT x.rx+1) (J.ao (c::x.l.drop (i+1))))=(cR (cT x.rx+1) c.rx (a' c.rx)).length+2+hN (dt (cT x.rx+1) (J.ao (x.l.drop (i+1)))):=by simp[J.ao,dt,hN]
       omega
      have E:a' x.rx=jZ x.k ((if x.k=3/\eL (lJ out)=true/\eL (gQ (cR (cT x.rx+1) c.rx (a' c.rx)) 0)=true then out++[32]else out)++hh x.k++cR (cT x.rx+1) c.rx (a' c.rx)) (dt (cT x.rx+1) (J.ao (x.l.drop (i+1)))):=by rw[E];rfl
      have a9:0<(cR (cT x.rx+1) c.rx (a' c.rx)).length:=by have D:=Cz c.rx (aK c hc);have:=(sZ (cT x.rx+1) c.rx (a' c.rx)).2;omega
      have aJ:aE .i64 ((cT x.rx:Int)+1)=((cT x.rx+1:Nat):Int):=bt _ io;refine m3.dU (aR (a6 io) (j5 (show x.P z from y.getD 0) rfl hg ?_));rw[aJ];refine one c (cT x.rx+1) z h _ io hc y λw4 M=>?_;generalize cR (cT x.rx+1) c.rx (a' c.rx)=t at E aG a9;have go:∀(o:BL) (C:I),o.length<=out.length+1->out.length<=o.length->o.length+(hh x.k).length<=out.length+1->a' x.rx=jZ x.k (o++hh x.k++t) (dt (cT x.rx+1) (J.ao (x.l.drop (i+1))))->O F0 w C [.g h] [.tree x]->
        m3.bL h x.k x.lo.toNat x.hi.toNat x.s (ba (hh x.k)) (cT x.rx:Int) (ba o) (i:Int) (ba t) C Q:=by
       intro o C bs bu bv bb L;refine⟨?_,?_,?_⟩
       .rw [bC,bC];show ¬(((_:Nat):Int)>9223372036854775807);omega
       .rw [cg,bC,bC];simp only[bM];show ¬(((_:Nat):Int)>9223372036854775807);omega
       .show m3.cA _ _ _ _ _ _ _ _ _ _ _;rw[cg,cg,bt _ io];refine bj (i+1) (o++hh x.k++t) C io io (by simp only[bM];omega) (by simp only[bM];omega) bb L
      have aN:∀C,O F0 w C [.g h] [.tree x]->¬(x.k=3/\eL (lJ out)=true/\eL (gQ t 0)=true)->m3.bL h x.k x.lo.toNat x.hi.toNat x.s (ba (hh x.k)) (cT x.rx:Int) (ba out) (i:Int) (ba t) C Q:=λC L A=>go out C io io io (by rw[ad A]at E;exact E) L;have eo:aE .i64 ((((ba out).size:Nat):Int) - 1)=((out.length - 1:Nat):Int):=by rw[bC,bH _ io];omega
      rw[eo];refine ax (λar=>⟨io,lJ out,?_,M.av (JX (lJ out) w4) ?_⟩) (λar=>aN w4 M (λA=>ar A.1))
      .rw [cb,g0 (s:=ba out) (by rw[bC];omega),kE,MO out a3]
      rintro _ C rfl L;refine⟨_,rfl,bm (λaz=>⟨io,gQ t 0,?_,L.av (JX (gQ t 0) C) ?_⟩) (λaz=>aN C L (λA=>by rw[A.2.1]at az;cases az))⟩
      .rw [show aY 0=0 from rfl,g0 (s:=ba t) (by rw[bC];omega),kE]
      rintro _ w6 rfl H6;have s3:(hh x.k).length=0:=by unfold hh;rw[ag ar];rfl
      refine⟨_,rfl,bm (λaA=>⟨?_,?_⟩) (λaA=>aN w6 H6 (λA=>by rw[A.2.2]at aA;cases aA))⟩
      .rw [bC];show ¬(((_+1:Nat):Int)>9223372036854775807);omega
      .have a5:ba out++bh #[32]=ba (out++[32]):=by show _++ba [32]=_;rw[cg]
       rw[a5];refine go (out++[32]) w6 us us (by simp;omega) ?_ H6;rw[ag ⟨ar,az,aA⟩]at E;exact E
    refine q.nw λaO _ ap=>?_;have aU:O F0 w aO [.g h] [.tree x]:=ap.take 1;have rest:∀(u:BL),hh x.k=u->XJ [h] FO #[.agg #[.i x.k,.int .u8 (x.lo.toNat:Int),.int .u8 (x.hi.toNat:Int),x.s.v]] aO λt90 an=>ow x.s 0 λbk=>jA an (bk.add (aY 0 *4)) λbl bn bo bp=>DW [h] q7 #[.agg #[.i bl,.int .u8 bn,.int .u8 bo,bp.v],.i (aE .i64 (t90+1))] an λt97 aQ=>m3.cA h x.k x.lo.toNat x.hi.toNat x.s (ba u) t90 t97 1 aQ Q:=by
     intro u hu;refine aU.av (DN x aO k0 k7 (aU.getD 0)) ?_;rintro _ an rfl aX;refine⟨_,rfl,j5 (show x.P an from aX.getD 0) (k:=0) rfl (by rw[gR];rfl) ?_⟩;have aJ:aE .i64 ((cT x.rx:Int)+1)=((cT x.rx+1:Nat):Int):=bt _ io;rw[aJ];refine one a (cT x.rx+1) an h _ io j aX λaQ a4=>?_;rw[<-hu];refine loop (x.l.length - 1) 1 _ aQ io io ?_ ?_ ef a4
     .have D:=Cz a.rx (aK a j);have:=(sZ (cT x.rx+1) a.rx (a' a.rx)).2;omega
     .have D:=aB a (cT x.rx+1) io;have h2:=tM (cT x.rx+1) (J.ao (x.l.drop 1));have h3:=aec x.l 1;omega
    rcases e with e|e|e
    .exact ⟨by rw[e];decide,by rw[e];decide,lQ ⟨ba [],by rw[e];exact ap.ld 1 0,rest _ (by rw[e];rfl)⟩⟩
    .exact ⟨by rw[e];decide,by rw[e];decide,lQ ⟨ba [124],by rw[e];exact ap.ld 1 1,rest _ (by rw[e];rfl)⟩⟩
    .exact ⟨by rw[e];decide,by rw[e];decide,lQ ⟨ba [38],by rw[e];exact ap.ld 1 2,rest _ (by rw[e];rfl)⟩⟩
  intro x F w A bg ac px;by_cases hb:cT x.rx<F
  .have aj:=ac;rw[J.fw]at aj;obtain⟨k0,k7,_,_⟩:=A' aj;refine m3.aq ((gT px).aw λh H G=>G.av (DN x H k0 k7 (G.getD 0)) ?_);rintro _ B rfl q;refine⟨_,rfl,aR (a6 io) (q.av (core x 0 B A io ac (q.getD 0)) ?_)⟩;rintro _ z rfl y;have br:(a' x.rx).length<=18000000:=by have:=yX x.rx;rw[J.eu]at this;omega
   have aI:bh #[40]++ba (a' x.rx)++bh #[41]=ba (40::(a' x.rx++[41])):=by show ba [40]++ba (a' x.rx)++ba [41]=_;rw[cg,cg];simp
   refine⟨_,rfl,?_,?_,?_,y.fr⟩
   .rw [bC];show ¬(((1+_:Nat):Int)>9223372036854775807);omega
   .have:(bh #[40]++ba (a' x.rx)).size=1+(a' x.rx).length:=by show(ba [40]++_).size=_;rw[cg,bC];simp;omega
    rw[this];show ¬(((_+1:Nat):Int)>9223372036854775807);omega
   .rw [aI];unfold cR;rw[ag hb]
  .have:=core x F w A hb ac px;have aI:cR F x.rx (a' x.rx)=a' x.rx:=by unfold cR;rw[ad hb]
   rw[aI];exact this
def JF(x:J)(d:Nat)(w:I)(e:x.sz<=1000000)(h:d<=1000)(j:i7 x.rx=true)(k:x.P w):ah U q7 #[x.v,.i (d:Int)] w λr q=>r=ab (.string (ba (cR d x.rx (a' x.rx))))/\af w q:=JG 1000000 (bz _) x d w e h j k
set_option maxHeartbeats 2000000
namespace Cm
abbrev P0:Ps:=[]
abbrev bg:=ai (aA U Tryz.f122 [] [1]) [0,1,1,1,3] P0
abbrev t1:=aj bg
abbrev bL:=ai t1 [0,1,1,1,4] P0
abbrev t2:=aj bL
abbrev cM:=ai t2 [5] P0
abbrev t3:=aj cM
abbrev aV:=ai t3 [3] [(1,.l [.I,.I,.I] cd),(3,.I),(4,.I),(5,.b)]
abbrev t4:=aj aV
def aq:=aB t4 Qf [.a 3,.I,.I,.I]
end Cm
namespace o7
abbrev P0:Ps:=[]
abbrev S0:=ai (aA U Tryz.f134 [] []) [0,1,1,1,1] P0
abbrev t1:=aj S0
abbrev P1:Ps:=[(0,.st),(3,.I)]
def L1:=bD t1 [0,1,1,1,2] P1
abbrev t2:=bB L1
abbrev S4:=ai t2 [0,1,3,2,1,2,1,1,2] P0
abbrev t3:=aj S4
abbrev S5:=ai t3 [2,2,1,1,2] P1
abbrev t4:=aj S5
abbrev S3:=ai t4 [2,2,1,2,1,1,2] [(0,.st),(3,.I),(4,.Y),(5,.b)]
abbrev t5:=aj S3
abbrev S2:=ai t5 [1,2,1,2,1,1,2] [(0,.st),(3,.I),(4,.Y)]
abbrev t6:=aj S2
def jU:=bO t6 L1
def ok:=aB t6 PV [.st]
end o7
namespace yG
abbrev S1:=ai (aA U Tryz.f100 [] []) [3] [(0,.r),(3,.b),(4,.b),(5,.b),(6,.b)]
abbrev t1:=aj S1
abbrev S0:=ai t1 [0,1,1,1,1,1,2] [(0,.r),(3,.b),(4,.b),(5,.b)]
abbrev t2:=aj S0
abbrev S3:=ai t2 [0,1,7,1,1,1,2] [(0,.r),(4,.b),(5,.b),(6,.b)]
abbrev t3:=aj S3
abbrev S2:=ai t3 [2,1,1,1,2] [(0,.r),(3,.b),(4,.b),(5,.b),(6,.b),(10,.I)]
abbrev t4:=aj S2
def ok:=aB t4 PQ [.r]
end yG
namespace Uz
def aq:=aB (aA U Tryz.f139 [] [2]) PO [.I]
end Uz
namespace UJ
def aq:=aB (aA U Tryz.f135 [] [2]) Qd [.I]
end UJ
namespace UB
def aq:=aB (aA U Tryz.f138 [] [1]) PU [.a 3,.I,.I,.I]
end UB
namespace UD
def aq:=aB (aA U Tryz.f141 [] [1]) PW [.a 3,.I,.I,.I]
end UD
namespace UA
def aq:=aB (aA U Tryz.f136 [] [1]) PT [.a 3,.I,.I,.I]
end UA
namespace Ut
def aq:=aB (aA U Tryz.f140 [] [2,3]) PH [.a 3,.I,.I,.I,.a 3,.I,.I,.I]
end Ut
namespace UG
def aq:=aB (aA U Tryz.f137 [] [3,6]) AV [.a 3,.I,.I,.I,.b,.b]
end UG
namespace H'
abbrev S0:=ai (aA U Tryz.f101 [(7,lr 9)] []) [4] [(0,.r),(4,.r)]
abbrev t1:=aj S0
def ok:=aB t1 Qc [.r,.f]
end H'
namespace H9
abbrev aV:=ai (aA U Tryz.f102 [(14,lr 19)] [2]) [6] [(0,.r),(2,.l [.I,.I,.I] cd)]
abbrev t1:=aj aV
def aq:=aB t1 Qa [.r]
end H9
namespace H8
abbrev aV:=ai (aA U Tryz.f103 [(4,lr 8),(7,ls [1,0,2,3,4,5,6,7,8,9,10,11,12]),(9,ls [1,2,0,3,4,5,6,7,8]),(14,lr 14),(16,ls [0,1,2,3,4,6,12,13,14,15,16,17,5,7,8,9,10,11,18,19,20,21,22]),(18,ls [0,1,2,3,4,5,6,7,8,9,11,13,14,15,16,17,10,12,18,19,20,21,22,23,24,25,26,27,28,29,30,31,32,33,34,35,36,37,38,39,40,41,42]),(21,ls [0,1,2,3,4,5,6,8,10,11,12,13,14,7,9,15,16,17,18,19,20,21,22,23,24,25,26,27,28,29]),(22,lr 13)] [5,6,7,8,10]) [0,1,1,1,1,1,1] [(5,.l [.I,.I,.I] cd),(8,.l [.I,.I,.I] cd)]
abbrev t1:=aj aV
abbrev P0:Ps:=[(5,.l [.I,.I,.I] cd),(6,.l [.I,.I,.I] cd),(8,.l [.I,.I,.I] cd)]
abbrev bL:=ai t1 [0,1,3,1,1,1,1] P0
abbrev t2:=aj bL
abbrev gw:=ai t2 [2,1,7,1,1,1,1] [(5,.l [.I,.I,.I] cd),(6,.l [.I,.I,.I] cd),(7,.l [.I,.I,.I] cd),(8,.l [.I,.I,.I] cd),(10,.l [.I,.I,.I] cd)]
abbrev t3:=aj gw
abbrev pv:=ai t3 [0,1,13,1,1,1,1] [(0,.r),(5,.l [.I,.I,.I] cd),(8,.l [.I,.I,.I] cd)]
abbrev t4:=aj pv
abbrev lu:=ai t4 [2] P0
abbrev t5:=aj lu
abbrev P1:Ps:=[(0,.r),(5,.l [.I,.I,.I] cd),(6,.l [.I,.I,.I] cd),(7,.l [.I,.I,.I] cd),(8,.l [.I,.I,.I] cd),(14,.I)]
abbrev cM:=ai t5 [4,1,1,1,1] P1
abbrev t6:=aj cM
abbrev bg:=ai t6 [2,1,1,1,1] P1
abbrev t7:=aj bg
def aq:=aB t7 P' [.r,.a 3,.I,.I,.I,.a 3,.I,.I,.I,.a 3,.I,.I,.I]
end H8
namespace B6
abbrev bg:=ai (aA U Tryz.f104 [(2,ls [0,1,3,2,4,5,6,7,8,9,10,11,12,13,14]),(6,lr 10),(10,lr 18),(11,lr 12)] [5,6,7,8,10]) [5] [(0,.r),(5,.l [.I,.I,.I] cd),(7,.l [.I,.I,.I] cd),(8,.l [.I,.I,.I] cd),(10,.l [.I,.I,.I] cd),(11,.b)]
abbrev t1:=aj bg
abbrev aV:=ai t1 [4] [(0,.r),(5,.l [.I,.I,.I] cd),(6,.l [.I,.I,.I] cd),(7,.l [.I,.I,.I] cd),(8,.l [.I,.I,.I] cd),(10,.l [.I,.I,.I] cd)]
abbrev t2:=aj aV
def aq:=aB t2 P9 [.r,.a 3,.I,.I,.I,.a 3,.I,.I,.I,.a 3,.I,.I,.I]
end B6
namespace UI
def aq:=aB (aA U Tryz.f105 [(3,ls [1,0,2,3,4,5,6,7]),(5,ls [1,3,4,5,6,7,0,2,8,9,10,11,12,13,14,15,16,17,18,19]),(7,ls [0,1,2,3,4,6,12,13,14,15,16,17,5,7,8,9,10,11,18,19,20,21,22]),(9,lr 18),(11,ls [1,0,2,3,4,5,6,7,8,9,10,11]),(13,ls [0,1,2,3,4,6,16,17,18,19,20,21,5,7,8,9,10,11,12,13,14,15,22,23,24,25,26]),(15,ls [1,0,2,3,4,5,6,7,8])] [5,6,7,8]) Qb [.r,.a 3,.I,.I,.I,.a 3,.I,.I,.I,.a 3,.I,.I,.I]
end UI
namespace rz
abbrev P0:Ps:=[(6,.l [.I,.I,.I] cd)]
abbrev aV:=ai (aA U Tryz.f76 [(1,lr 18)] [6,11]) [0,1,1,1,1] P0
abbrev t1:=aj aV
def cA:=bD t1 [0,1,1,1,3] [(0,.s),(2,.f),(4,.r),(6,.l [.I,.I,.I] cd),(8,.r),(34,.I),(35,.I)]
abbrev t2:=bB cA
abbrev bL:=ai t2 [0,1,1,1,2,2,2,2,1,1,3] P0
abbrev t3:=aj bL
abbrev cM:=ai t3 [8] [(6,.l [.I,.I,.I] cd),(11,.l [.I,.I,.I] cd),(12,.I)]
abbrev t4:=aj cM
def dU:=bO t4 cA
def aq:=aB t4 P8 [.s,.a 9,.I,.s,.I,.I,.U,.st,.I,.I,.I,.f]
end rz
namespace tB
abbrev P0:Ps:=[(0,.st),(1,.r),(3,.l [.I,.I,.I] cd),(8,.I),(9,.I)]
def aX:=bD (aA U Tryz.f168 [] [3]) [0,1,1,1,1] P0
abbrev t1:=bB aX
abbrev bg:=ai t1 [3,2,1,1,1] P0
abbrev t2:=aj bg
def bR:=bO t2 aX
def aq:=aB t2 Gl [.st,.r]
end tB
namespace Us
def aq:=aB (aA U Tryz.f149 [] [3,4]) PF [.a 1,.s,.a 9,.I,.s,.I,.I,.U,.st,.I,.I,.I]
end Us
namespace yx
def L0:=bD (aA U Tryz.f188 [(6,lr 9)] []) [0,1,1,1,2] [(0,.s),(1,.s),(12,.I),(13,.I)]
abbrev t1:=bB L0
def cH:=bO t1 L0
def ok:=aB t1 Pu [.s,.s]
end yx
namespace UH
def ok:=aB (aA U Tryz.f169 [(1,lr 76)] []) P6 [.r,.r]
end UH
namespace yK
def aX:=bD (aA U Tryz.f150 [] [2]) [0,1,1,1,1] [(1,.r),(2,.l [.s] l3),(8,.I),(9,.I)]
abbrev t1:=bB aX
def bR:=bO t1 aX
def aq:=aB t1 P7 [.a 1,.s,.r]
end yK
namespace TI
def ok:=aB (aA U Tryz.f151 [] []) Po [.s]
end TI
namespace Ur
def aq:=aB (aA U Tryz.f123 [(14,lr 8)] [2,4,7]) PC [.a 1,.s,.a 9,.I,.s,.I,.I,.U,.st,.I,.I,.I]
end Ur
namespace tC
abbrev P0:Ps:=[(1,.l [.s] l3),(3,.s),(7,.I),(8,.I)]
def aX:=bD (aA U Tryz.f42 [] [1]) [0,1,1,1,2] P0
abbrev t1:=bB aX
abbrev bg:=ai t1 [3,2,1,1,2] P0
abbrev t2:=aj bg
def bR:=bO t2 aX
def aq:=aB t2 PG [.a 1,.s]
end tC
namespace Sa
def ok:=aB (aA U Tryz.f231 [(3,lr 9)] []) O8 [.Y]
end Sa
namespace Sy
def aq:=aB (aA U Tryz.f184 [] [2]) AU [.a 4,.I,.Y,.Y,.s,.I]
end Sy
namespace rs
def l7:=bD (aA U Tryz.f216 [(9,ls [0,1,5,6,2,3,4,7,8,9,10,11])] [1,9]) [0,1,1,1,7] [(1,.l [.I,.Y,.Y,.s] aO),(5,.st),(6,.I),(7,.st),(79,.s),(80,.I),(81,.I)]
abbrev t1:=bB l7
abbrev cM:=ai t1 [3,2,2,2,1,1,7] [(1,.l [.I,.Y,.Y,.s] aO),(5,.st),(6,.I),(7,.st),(10,.st),(79,.s),(80,.I),(81,.I)]
abbrev t2:=aj cM
def qF:=bO t2 l7
abbrev P0:Ps:=[(1,.l [.I,.Y,.Y,.s] aO),(4,.st),(5,.st),(6,.I)]
abbrev bg:=ai t2 [4] P0
abbrev t3:=aj bg
abbrev aV:=ai t3 [3] P0
abbrev t4:=aj aV
def aq:=aB t4 O6 [.a 4,.I,.Y,.Y,.s]
end rs
namespace Ho
def aq:=aB (aA U Tryz.f164 [] [1]) O4 [.a 4,.I,.Y,.Y,.s]
end Ho
namespace UC
def aq:=aB (aA U Tryz.f142 [] [3,6]) Gn [.st]
end UC
set_option maxHeartbeats 1000000
def RA(c:UInt8):vy c=oZ c:=by
 unfold vy oZ
 grind
def TM(c:UInt8):k6 c=eL c:=rfl
def V5:(List.range 256).all (λn=>rX .u8 (n:Int) 15==((n%16:Nat):Int))=true:=by kernel_rfl
def Md{n:Nat}(d:n<16):(bh #[48,49,50,51,52,53,54,55,56,57,97,98,99,100,101,102])[n]? =some (iZ n):=by
 have:n=0\/n=1\/n=2\/n=3\/n=4\/n=5\/n=6\/n=7\/n=8\/n=9\/n=10\/n=11\/n=12\/n=13\/n=14\/n=15:=io
 (repeat' rcases this with rfl|this)<;>(try subst this)<;>rfl
def GS(c:UInt8)(w:I):ah U O8 #[.int .u8 (c.toNat:Int)] w λr C=>r=ab (.string (ba (dD c)))/\af w C:=by
 have B:=c.toNat_lt;have k:O F0 w w [] []:=bZ [] us;refine Sa.ok (k.call (JS c w) ?_);rintro _ D rfl j;refine⟨_,rfl,bm (λh=>?_) (λh=>?_)⟩
 .rw [RA]at h;refine j.vm (λE _ q e=>?_);have d:Bytes E ⟨some (aa D.heap.size),3,3⟩ [39,c,39]:=qN (T:=ez) e rfl;refine⟨ba [39,c,39],rZ d,?_,q.fr⟩;unfold dD;grind
 .rw [RA]at h;have z:Int.fdiv (c.toNat:Int) (2^(4))=((c.toNat / 16:Nat):Int):=by grind
  have A:rX .u8 (c.toNat:Int) 15=((c.toNat%16:Nat):Int):=eq_of_beq (dF.1 V5 c.toNat (List.mem_range.2 B));refine j.dr λF x=>?_;rw[z,A];refine⟨io,_,Md io,io,_,Md io,x.vm (λG _ y e=>?_)⟩;have d:Bytes G ⟨some (aa F.heap.size),4,4⟩ [92,120,iZ (c.toNat / 16),iZ (c.toNat%16)]:=qN (T:=ez) e rfl;refine⟨ba [92,120,iZ (c.toNat / 16),iZ (c.toNat%16)],rZ d,?_,y.fr⟩;unfold dD;grind
abbrev IC(n:Nat):Prop:=∀(x:J) (w:I),x.sz<=n->i7 x.rx=true->x.P w->ah U O6 #[x.v] w λr d=>r=ab (.tuple #[.string (ba (a' x.rx)),.i (cT x.rx:Int)])/\af w d
def Re{n:Nat}(G:n<=1000000)(q:IC n)(x:J)(d:Nat)(w:I)(k:x.sz<=n)(F:d<=1000)(z:i7 x.rx=true)(A:x.P w):ah U AU #[x.v,.i (d:Int)] w λr B=>r=ab (.string (ba (cR d x.rx (a' x.rx))))/\af w B:=by
 refine Sy.aq ((gT A).aw λD C e=>e.av (q x C k z (e.getD 0)) ?_);rintro _ H rfl h;have E:(a' x.rx).length<=18000000:=by have:=yX x.rx;rw[J.eu]at this;omega
 have j:bh #[40]++ba (a' x.rx)++bh #[41]=ba (40::(a' x.rx++[41])):=by show ba [40]++ba (a' x.rx)++ba [41]=_;rw[cg,cg];simp
 refine⟨_,_,rfl,aS (λy=>⟨?_,?_,?_,h.fr⟩) (λy=>⟨?_,h.fr⟩)⟩
 .rw [bC];show ¬(((1+_:Nat):Int)>9223372036854775807);omega
 .have:(bh #[40]++ba (a' x.rx)).size=1+(a' x.rx).length:=by show(ba [40]++_).size=_;rw[cg,bC];grind
  rw[this];show ¬(((_+1:Nat):Int)>9223372036854775807);omega
 .rw [j];unfold cR;grind
 .unfold cR;grind
def Ra:∀n:Nat,n<=1000000->IC n
 |0,_=>λe B j _ _=>absurd j (by have:=J.nA e;omega)
 |n+1,hn=>by
  have ih:=Ra n io;intro e B j a8 px;have hs:=J.iK e;have hl:=J.gp e.l;have nr:=J.cw px.parts.1;have aN:=a8;rw[J.fw]at aN;obtain⟨k0,k7,ar,a3⟩:=A' aN;have a4:(J.ao e.l).length=e.l.length:=by rw[J.fY,List.length_map]
  rw[a4]at ar;have aK:∀a∈e.l,i7 a.rx=true:=λa w=>Ba a3 (by rw[J.fY];grind);have az:∀(a:J) (lv:Nat),a.sz<=1000000->(cR lv a.rx (a' a.rx)).length<=18000002:=λa lv w=>by have z:=yX a.rx;rw[J.eu]at z;have:=(sZ lv a.rx (a' a.rx)).1;omega
  have aG:∀c,(dD c).length<=4:=λc=>by unfold dD;grind
  let W:aC:=λr w'=>r=ab (.tuple #[.string (ba (a' e.rx)),.i (cT e.rx:Int)])/\af B w'
  have one:∀(a:J) (T:Nat) (q:I) (L:List En) (bs:List Nat) (K:ByteArray->I->Prop),T<=1000->a∈e.l->O F0 B q L [.tree e]->(∀w2,O F0 B w2 L [.tree e]->K (ba (cR T a.rx (a' a.rx))) w2)->DW bs AU #[.agg #[.i a.k,.int .u8 (a.lo.toNat:Int),.int .u8 (a.hi.toNat:Int),a.s.v],.i (T:Int)] q K:=by
   intro a T q L bs K a5 w h hK;have aB:=J.eM w;refine h.av (Re io ih a T q io a5 (aK a w) ((show e.P q from h.getD 0).parts.2.mem w)) ?_
   grind
  have G:a' e.rx=a' (.mk e.k e.lo e.hi (J.ao e.l)):=by rw[J.fw]
  have bb:cT e.rx=if e.k=6 then 3 else if e.k<3\/e.k=7\/e.l.length<2 then 4 else if e.k=3 then 2 else if e.k=4 then 0 else 1:=by rw[J.fw];unfold cT;grind
  have M:(e.k<3\/e.k=7\/e.l.length<2)->e.k≠6->(4:Int)=(cT e.rx:Int):=λz E=>by grind
  refine rs.aq ((gT px).aw λA q h=>?_);have h:O F0 B q [.g A] [.tree e]:=h;refine ax (λhk=>⟨?_,h.fr⟩) (λaI=>ax (λhk=>⟨?_,h.fr⟩) (λa2=>ax (λaJ=>?_) (λaJ=>ax (λN=>?_) (λN=>ax (λaa=>?_) (λaa=>?_)))))
  .rw [<-M (.inl io) io,G];unfold a';rw[ag hk];rfl
  .rw [<-M (.inl io) io,G];unfold a';rw[ad aI,ag hk];rfl
  .have e2:a' e.rx=if e.lo=e.hi then dD e.lo else 91::(dD e.lo++45::(dD e.hi++[93])):=by rw[G];unfold a';grind
   rw[<-M (.inl io) io];refine ax (λaL=>h.av (GS e.lo q) ?_) (λaL=>h.ae λw5 H5=>H5.av (GS e.lo w5) ?_)
   .rintro _ C rfl y;exact⟨_,rfl,by rw[e2,ag (UInt8.toNat_inj.1 io)],y.fr⟩
   .rintro _ Q rfl F;have z:=aG e.lo;have E:=aG e.hi;have s0:bh #[91]++ba (dD e.lo)++bh #[45]=ba (91::dD e.lo++[45]):=by show ba [91]++ba (dD e.lo)++ba [45]=_;rw[cg,cg];rfl
    refine⟨_,rfl,?_,?_,F.av (GS e.hi Q) ?_⟩
    .rw [bC];show ¬(((1+_:Nat):Int)>9223372036854775807);omega
    .have:(bh #[91]++ba (dD e.lo)).size=1+(dD e.lo).length:=by show(ba [91]++_).size=_;rw[cg,bC];grind
     rw[this];show ¬(((_+1:Nat):Int)>9223372036854775807);omega
    rintro _ x rfl D;rw[s0];have:ba (91::dD e.lo++[45]++dD e.hi)++bh #[93]=ba (91::dD e.lo++[45]++dD e.hi++[93]):=by show _++ba [93]=_;rw[cg]
    refine⟨_,rfl,?_,?_,?_,D.fr⟩
    .rw [bC,bC];simp only[bM,cD,gX];show ¬(((_:Nat):Int)>9223372036854775807);omega
    .rw [cg,bC];simp only[bM,cD,gX];show ¬(((_+1:Nat):Int)>9223372036854775807);omega
    .rw [cg,this,e2,ad (λj=>aL (by rw[j]))];simp
  .have z:=ar (.inl N);have e6:a' e.rx=33::kP (dt 3 (J.ao e.l)):=by rw[G];unfold a';grind
   have e3:(3:Int)=(cT e.rx:Int):=by grind
   match gR:e.l,z with
   |[a],_=>
    have w:a∈e.l:=by grind
    have aB:=J.eM w;refine j5 (show e.P q from h.getD 0) (k:=0) rfl (by grind) (one a 3 q _ _ _ io w h λC y=>⟨?_,?_,y.fr⟩)
    .have:=az a 3 io;rw[bC];show ¬(((1+_:Nat):Int)>9223372036854775807);omega
    .have:bh #[33]++ba (cR 3 a.rx (a' a.rx))=ba (33::cR 3 a.rx (a' a.rx)):=by show ba [33]++_=_;rw[cg];rfl
     rw[this,e6,gR,<-e3];rfl
  .have z:=ar (.inr aa);have e7:a' e.rx=kP (dt 4 (J.ao e.l))++[42]:=by rw[G];unfold a';grind
   match gR:e.l,z with
   |[a],_=>
    have w:a∈e.l:=by grind
    have aB:=J.eM w;refine j5 (show e.P q from h.getD 0) (k:=0) rfl (by grind) (one a 4 q _ _ _ io w h λC y=>⟨?_,?_,y.fr⟩)
    .have:=az a 4 io;rw[bC];show ¬(((_+1:Nat):Int)>9223372036854775807);omega
    .have:ba (cR 4 a.rx (a' a.rx))++bh #[42]=ba (cR 4 a.rx (a' a.rx)++[42]):=by show _++ba [42]=_;rw[cg]
     rw[this,e7,gR,<-M (.inr (.inl aa)) N];rfl
  have hk:e.k=3\/e.k=4\/e.k=5:=io
  have S1:∀(word sign:BL) (level:Nat),word.length=3->sO e.k=word++[40]->hh e.k=sign->level<=2->(2<=e.l.length->cT e.rx=level)->rs.bg A e.k e.lo.toNat e.hi.toNat e.s (ba word) (ba sign) (level:Int) q W:=by
   intro word sign level hw aM aA bc Z;have ef:e.l.length<2->a' e.rx=sO e.k++(kP (dt 0 (J.ao e.l))++[41]):=λj=>by rw[G];unfold a';grind
   refine ax (λh0=>?_) (λh0=>ax (λz=>?_) (λz=>?_))
   .have hx:e.l=[]:=List.length_eq_zero_iff.1 io;refine⟨?_,?_,h.fr⟩
    .rw [bC];show ¬(((_+2:Nat):Int)>9223372036854775807);omega
    .have:ba word++bh #[40,41]=ba (word++[40,41]):=by show _++ba [40,41]=_;rw[cg]
     rw[this,<-M (.inr (.inr io)) N,ef io,aM,hx];simp[J.ao,dt,kP]
   .match gR:e.l with
    |[]=>grind
    |_::_::_=>grind
    |[a]=>
     have w:a∈e.l:=by grind
     have aB:=J.eM w;have hp:=az a 0 io;refine⟨?_,j5 (show e.P q from h.getD 0) (k:=0) rfl (by grind) (one a 0 q _ _ _ io w h λC y=>⟨?_,?_,?_,y.fr⟩)⟩
     .rw [bC];show ¬(((_+1:Nat):Int)>9223372036854775807);omega
     .have:ba word++bh #[40]=ba (word++[40]):=by show _++ba [40]=_;rw[cg]
      rw[this,bC,bC];simp only[bM,cD,gX];show ¬(((_:Nat):Int)>9223372036854775807);omega
     .have:ba word++bh #[40]++ba (cR 0 a.rx (a' a.rx))=ba (word++[40]++cR 0 a.rx (a' a.rx)):=by show _++ba [40]++_=_;rw[cg,cg]
      rw[this,bC];simp only[bM,cD,gX];show ¬(((_+1:Nat):Int)>9223372036854775807);omega
     .have:ba word++bh #[40]++ba (cR 0 a.rx (a' a.rx))++bh #[41]=ba (word++[40]++cR 0 a.rx (a' a.rx)++[41]):=by show _++ba [40]++_++ba [41]=_;rw[cg,cg,cg]
      rw[this,<-M (.inr (.inr io)) N,ef io,aM,gR];simp[J.ao,dt,kP]
   .have E:2<=e.l.length:=io
    have Z:=Z E;have ej:a' e.rx=Ai e.k (dt (level+1) (J.ao e.l)):=by
     conv=>lhs;rw[G];unfold a';rw[ad aI,ad a2,ad aJ,ad N,ad aa,ad io]
     rw[<-J.fw,Z]
    have bi:sign.length<=1:=by rw[<-aA];unfold hh;grind
    have loop:∀(d i:Nat) (out:BL) (C:I),i+d=e.l.length->(1<=i->0<out.length)->(i=0->out=[])->out.length+hN (dt (level+1) (J.ao (e.l.drop i)))<=40000000->a' e.rx=(if i=0 then Ai e.k (dt (level+1) (J.ao (e.l.drop i)))else jZ e.k out (dt (level+1) (J.ao (e.l.drop i))))->O F0 B C [.g A] [.tree e]->
      rs.l7 A e.k e.lo.toNat e.hi.toNat e.s (ba sign) (level:Int) (ba out) e.s (e.s.n:Int) (i:Int) C W:=by
     intro d;induction d with
     |zero=>
      intro i out C aX ac hz ai H y;refine rs.qF (aT (a7 io) ⟨?_,y.fr⟩);rw[H,dH io,ad io,Z];rfl
     |succ d a9=>
      intro i out C aX ac hz ai H y;have hg:e.l[i]? =some (e.l[i]'io):=a0 io;have aH:e.l.drop i=(e.l[i]'io)::e.l.drop (i+1):=dG io;generalize e.l[i]'io=c at hg aH;have hc:=ay hg;have bj:=J.eM hc;rw[aH]at H ai;have ai:out.length+((cR (level+1) c.rx (a' c.rx)).length+2+hN (dt (level+1) (J.ao (e.l.drop (i+1)))))<=40000000:=by
       have:hN (dt (level+1) (J.ao (c::e.l.drop (i+1))))=(cR (level+1) c.rx (a' c.rx)).length+2+hN (dt (level+1) (J.ao (e.l.drop (i+1)))):=by simp[J.ao,dt,hN]
       omega
      have aU:0<(cR (level+1) c.rx (a' c.rx)).length:=by have z:=Cz c.rx (aK c hc);have:=(sZ (level+1) c.rx (a' c.rx)).2;omega
      have aQ:aE .i64 ((level:Int)+1)=((level+1:Nat):Int):=bt _ io;have aV:i=0->a' e.rx=jZ e.k (cR (level+1) c.rx (a' c.rx)) (dt (level+1) (J.ao (e.l.drop (i+1)))):=λj=>by rw[ag j]at H;rw[H];rfl
      have S:i≠0->a' e.rx=jZ e.k ((if e.k=3/\eL (lJ out)=true/\eL (gQ (cR (level+1) c.rx (a' c.rx)) 0)=true then out++[32]else out)++hh e.k++cR (level+1) c.rx (a' c.rx)) (dt (level+1) (J.ao (e.l.drop (i+1)))):=λj=>by rw[ad j]at H;rw[H];rfl
      refine rs.qF (aR (a6 io) (j5 (show e.P C from y.getD 0) rfl hg (y.aw λb9 w4 H4=>H4.ae λw5 H5=>?_)));rw[aQ];refine one c (level+1) w5 _ _ _ io hc H5 λQ F=>?_;have F:O F0 B Q [.g A,.g b9] [.tree e]:=F;generalize cR (level+1) c.rx (a' c.rx)=t at aV S ai aU;have go:∀(o:BL) (x:I),o.length<=out.length+1->out.length<=o.length->a' e.rx=jZ e.k (o++t) (dt (level+1) (J.ao (e.l.drop (i+1))))->O F0 B x [.g A,.g b9] [.tree e]->rs.cM A e.k e.lo.toNat e.hi.toNat e.s (ba sign) (level:Int) (ba o) (ba t) e.s (e.s.n:Int) (i:Int) x W:=by
       intro o x z E h3 D;refine⟨?_,?_⟩
       .rw [bC,bC];show ¬(((_:Nat):Int)>9223372036854775807);omega
       .rw [cg,bt _ io];refine a9 (i+1) (o++t) x io (λ_=>by grind) (λj=>io) (by grind) (by grind) (D.take 1)
      refine aS (λaZ=>⟨?_,?_⟩) (λaZ=>go out Q io (bz _) (by grind) F)
      .rw [bC,bC];show ¬(((_:Nat):Int)>9223372036854775807);omega
      have S:=S io;have ac:=ac io;rw[aA]at S;have ea:ba out++ba sign=ba (out++sign):=cg _ _;have aj:∀x,O F0 B x [.g A,.g b9] [.tree e]->¬(e.k=3/\eL (lJ out)=true/\eL (gQ t 0)=true)->rs.cM A e.k e.lo.toNat e.hi.toNat e.s (ba sign) (level:Int) (ba (out++sign)) (ba t) e.s (e.s.n:Int) (i:Int) x W:=λx D be=>go (out++sign) x (by grind) (by grind) (by grind) D;rw[ea];refine ax (λam=>?_) (λam=>aj Q F (λj=>am j.1));have s3:sign=[]:=by rw[<-aA];unfold hh;grind
      have e9:out++sign=out:=by grind
      rw[e9]at aj ⊢;have eo:aE .i64 ((((ba out).size:Nat):Int) - 1)=((out.length - 1:Nat):Int):=by rw[bC,bH _ io];omega
      rw[eo];refine⟨io,lJ out,?_,F.av (zH (lJ out) Q) ?_⟩
      .rw [cb,g0 (s:=ba out) (by rw[bC];omega),kE,MO out ac]
      rintro _ x rfl D;refine⟨_,rfl,bm (λan=>⟨io,gQ t 0,?_,D.av (zH (gQ t 0) x) ?_⟩) (λan=>aj x D (λj=>by rw[TM,j.2.1]at an;grind))⟩
      .rw [show aY 0=0 from rfl,g0 (s:=ba t) (by rw[bC];omega),kE]
      rintro _ w8 rfl H8;refine⟨_,rfl,bm (λap=>⟨?_,?_⟩) (λap=>aj w8 H8 (λj=>by rw[TM,j.2.2]at ap;grind))⟩
      .rw [bC];show ¬(((_+1:Nat):Int)>9223372036854775807);omega
      .have aO:ba out++bh #[32]=ba (out++[32]):=by show _++ba [32]=_;rw[cg]
       rw[aO];refine go (out++[32]) w8 us us ?_ H8;rw[ag ⟨am,an,ap⟩,s3,List.append_nil]at S;omega
    have h3:=tM (level+1) (J.ao e.l);have Y:Rx.a1 (J.ao e.l)=J.a1 e.l:=J.ys e.l;exact loop e.l.length 0 [] q io (λj=>io) (λ_=>rfl) (by grind) (by grind) h
  have bd:2<=e.l.length->cT e.rx=if e.k=3 then 2 else if e.k=4 then 0 else 1:=λE=>by grind
  refine ax (λY=>S1 [97,108,116] [124] 0 rfl (by rw[Y];rfl) (by rw[Y];rfl) io (λE=>by grind)) (λY=>ax (λh5=>S1 [97,108,108] [38] 1 rfl (by rw[h5];rfl) (by rw[h5];rfl) io (λE=>by grind)) (λh5=>S1 [99,97,116] [] 2 rfl (by rw[show e.k=3 by omega];rfl) (by rw[show e.k=3 by omega];rfl) io (λE=>by grind)))
def Rc(x:J)(d:Nat)(w:I)(e:x.sz<=1000000)(h:d<=1000)(j:i7 x.rx=true)(k:x.P w):ah U AU #[x.v,.i (d:Int)] w λr q=>r=ab (.string (ba (cR d x.rx (a' x.rx))))/\af w q:=Re (bz _) (Ra 1000000 (bz _)) x d w e h j k
def dK(w:I)(p:Addr)(d:Nd):Prop:=∀i v,(Nd.c d)[i]? =some v->w.cell? (p.add i)=some v
def dK.st{w w':I}{p:Addr}{d:Nd}(h:dK w p d)(q:p.block<w.heap.size->w'.heap[p.block]? =w.heap[p.block]?):dK w' p d:=λi v j=>by
 have e:=h i v j;have k:=pC e;rw[kC]at k;unfold World.cell? at e ⊢;rw[kC]at e ⊢
 grind
def dK.lt{w:I}{p:Addr}{d:Nd}(e:dK w p d):p.block<w.heap.size:=by
 have:=pC (e 0 _ rfl)
 rwa[kC]at this
def _root_.Go.W.En.gU(p:Addr)(d:Nd):En:=⟨[p.block],λh=>dK h p d,λh q k e=>e.st (k p.block us),λh e b j=>by simp at j;subst j;exact dK.lt e,us⟩
def xQ{w:I}{b:Nat}{d:Nd}{T:aD}(e:w.heap[b]? =some (.cells (Nd.c d).toArray T (0,0))):dK w (aa b) d:=λi v h=>cellAt (p:=aa b) e rfl (by grind)
section
variable {w:I} {p:Addr} {d:Nd} (h:dK w p d)
include h
def dK.c0:w.cell? (p.add 0)=some (.i d.x.op):=h 0 _ rfl
def dK.c1:w.cell? (p.add 1)=some d.ks.v:=h 1 _ rfl
def dK.c2:w.cell? (p.add 2)=some (.i d.x.n):=h 2 _ rfl
def dK.c3:w.cell? (p.add 3)=some (.i d.x.m):=h 3 _ rfl
def dK.c4:w.cell? (p.add 4)=some (.u d.x.u):=h 4 _ rfl
def dK.c5:w.cell? (p.add 5)=some (.string d.x.tx):=h 5 _ rfl
def dK.s0:w.cell? ((p.add 6).add 0)=some (.i d.x.st.k):=by rw[add_add];exact h 6 _ rfl
def dK.s1:w.cell? ((p.add 6).add 1)=some (.i d.x.st.n):=by rw[add_add];exact h 7 _ rfl
def dK.s2:w.cell? ((p.add 6).add 2)=some (.i d.x.st.x):=by rw[add_add];exact h 8 _ rfl
end
def j8(n:Int)(w:I):ah U PO #[.i n] w λr h=>r=ab (dk (aZ n))/\af w h:=
 Uz.aq ((bZ [] us).aw λb j d=>d.ae λk e=>⟨rfl,e.fr⟩)
def vZ(n:Int)(w:I):ah U Qd #[.i n] w λr h=>r=ab (dk (e0 n))/\af w h:=
 UJ.aq ((bZ [] us).aw λb j d=>d.ae λk e=>⟨rfl,e.fr⟩)
def tz(s:aM)(w:I):ah U PU #[dk s] w λr e=>r=ab (.bool (s.k==0))/\af w e:=
 UB.aq ((bZ [] us).aw λb h d=>⟨rfl,d.fr⟩)
def j9(s:aM)(w:I):ah U PW #[dk s] w λr e=>r=ab (.bool (s.k==1))/\af w e:=
 UD.aq ((bZ [] us).aw λb h d=>⟨rfl,d.fr⟩)
def H7(s:aM)(w:I):ah U PT #[dk s] w λr h=>r=ab (.bool (dV s))/\af w h:=
 UA.aq ((bZ [] us).aw λb j d=>ax (λe=>⟨by unfold dV;grind,d.fr⟩) (λe=>⟨by unfold dV;grind,d.fr⟩))
def Uk(x y:aM)(w:I):ah U PH #[dk x,dk y] w λr A=>r=ab (.bool (ak (x=y)||(x.k==1&&y.k==1)))/\af w A:=by refine Ut.aq ((bZ [] us).aw λb E j=>j.aw λD B d=>nt (a:=x) (b:=y) (λh=>⟨by grind,d.fr⟩) (λh=>d.av (j9 x B) ?_));rintro _ C rfl e;rw[a7 h,Bool.false_or];refine⟨_,rfl,ax (λz=>e.av (j9 y C) ?_) (λz=>⟨by grind,e.fr⟩)⟩;rintro _ F rfl q;exact⟨_,rfl,by grind,q.fr⟩
def Hs(d ranges:Bool):Int:=if d=true then(if ranges=true then 0 else 5)else 9
def aer(s:aM)(k ranges:Bool)(w:I):ah U AV #[dk s,.bool k,.bool ranges] w λr y=>r=gF (s,Hs k ranges)/\af w y:=by refine UG.aq ((bZ [] us).aw λb A x=>x.aw λz B h=>eS (λe=>h.ae λq d=>⟨by rw[e];rfl,d.fr⟩) (λe=>eS (λj=>h.ae λq d=>⟨by rw[e,j];rfl,d.fr⟩) (λj=>h.ae λq d=>⟨by rw[e,j];rfl,d.fr⟩)))
def H5(s:aM)(w:I):ah U Qf #[dk s] w λr q=>r=ab (.int .i64 (gm s))/\af w q:=by
 refine Cm.aq ((bZ [] us).aw λC y B=>?_);have D:bx s=true->(Ending.returned (Value.int .i64 0)=ab (.int .i64 (gm s))/\af w y):=λe=>⟨by unfold gm;grind,B.fr⟩;have bad:bx s=false->(Ending.returned (Value.int .i64 9)=ab (.int .i64 (gm s))/\af w y):=λe=>⟨by unfold gm;grind,B.fr⟩;have plain:∀least:Int,(∀h:least<=s.n,s.n<=64->s.x=0->bx s=true)->(¬(least<=s.n/\s.n<=64/\s.x=0)->bx s=false)->Cm.aV C s.k s.n s.x least 64 false y λr q=>r=ab (.int .i64 (gm s))/\af w q:=by intro least h d;exact aS (λe=>bad (d io)) (λe=>aS (λz=>bad (d io)) (λz=>aT rfl (aR rfl (cq (λj=>bad (d (λJ=>j J.2.2))) (λj=>D (h io io j))))))
 have array:∀least:Int,(∀h:least<=s.n,s.n<=64->1<=s.x->s.x<=16->bx s=true)->(¬(least<=s.n/\s.n<=64/\1<=s.x/\s.x<=16)->bx s=false)->Cm.aV C s.k s.n s.x least 64 true y λr q=>r=ab (.int .i64 (gm s))/\af w q:=by intro least h d;exact aS (λe=>bad (d io)) (λe=>aS (λz=>bad (d io)) (λz=>aR rfl (aS (λj=>bad (d io)) (λj=>aS (λA=>bad (d io)) (λA=>aT rfl (D (h io io io io)))))))
 refine ax (λE=>plain 1 (λh d j=>?_) (λe=>?_)) (λE=>ax (λF=>plain 0 (λh d j=>?_) (λe=>?_)) (λF=>ax (λG=>array 1 (λh d j A=>?_) (λe=>?_)) (λG=>ax (λH=>array 0 (λh d j A=>?_) (λe=>?_)) (λH=>bad ?_))))
 .unfold bx;grind
 .unfold bx;grind
 .unfold bx;grind
 .unfold bx;grind
 .unfold bx;grind
 .unfold bx;grind
 .unfold bx;grind
 .unfold bx;grind
 .unfold bx;grind
def ad9{s:ByteArray}{i:Nat}(d:i<s.size):s[i]? =some (gQ (bl s) i):=by
 have h:i<(bl s).length:=d;have e:gQ (bl s) i=(bl s)[i]:=by unfold gQ;grind
 rw[e,getElem?_pos s i d];rfl
def aem(s:ByteArray)(w:I):ah U PV #[.string s] w λr e=>r=ab (.bool (jE (bl s)))/\af w e:=by
 have y:(bl s).length=s.size:=dd s;have xP:∀(c:UInt8) (m:List UInt8),jE (c::m)=(ak (m.length<=15)&&gB c&&m.all dZ):=λ_ _=>rfl;cases L:bl s with
 |nil=>
  have A:s.size=0:=by grind
  exact o7.ok (aR (a6 io) ⟨rfl,Fr.refl _ _⟩)
 |cons c m=>
  have N:s.size=m.length+1:=by grind
  have M:gQ (bl s) 0=c:=by rw[L];rfl
  refine o7.ok (aT (a7 io) (aS (λj=>⟨?_,Fr.refl _ _⟩) (λj=>?_)))
  .grind
  have E:jE (c::m)=(gB c&&m.all dZ):=by grind
  rw[E];have loop:∀(d i:Nat),i+d=s.size->(gB c&&m.all dZ)=(if i=0 then(gB c&&m.all dZ)else((bl s).drop i).all dZ)->o7.L1 s (i:Int) w λr e=>r=ab (.bool (gB c&&m.all dZ))/\af w e:=by
   intro d;induction d with
   |zero=>
    intro i J B;rw[dH io,ad io]at B;exact o7.jU (aT (a7 io) ⟨by grind,Fr.refl _ _⟩)
   |succ d P=>
    intro i J B;have H:=ad9 (show i<s.size by omega);have O:(bl s).drop i=gQ (bl s) i::(bl s).drop (i+1):=by rw[dG (by omega:i<(bl s).length)];unfold gQ;grind
    have go:(if i=0 then gB (gQ (bl s) i)else dZ (gQ (bl s) i))=true->o7.S5 s (i:Int) w λr e=>r=ab (.bool (gB c&&m.all dZ))/\af w e:=λj=>by
     show o7.L1 s (aE .i64 ((i:Int)+1)) w _;rw[bt _ io]
     grind
    have stop:(if i=0 then gB (gQ (bl s) i)else dZ (gQ (bl s) i))=false->o7.S4 w λr e=>r=ab (.bool (gB c&&m.all dZ))/\af w e:=λj=>by
     refine⟨?_,Fr.refl _ _⟩
     grind
    generalize gQ (bl s) i=x at H go stop;have z:∀l:Bool,l=gB x->o7.S3 s (i:Int) (x.toNat:Int) l w λr e=>r=ab (.bool (gB c&&m.all dZ))/\af w e:=by
     intro l y;refine eS (λG=>?_) (λC=>go ?_)
     .rw [G]at y;refine ax (λA=>stop ?_) (λA=>?_)
      .grind
      have K:i≠0:=io
      rw[ad K]at go stop;have D:dZ x=((ak (48<=x.toNat)&&ak (x.toNat<=57))||x==45):=by unfold dZ;grind
      refine cq (λq=>aS (λk=>stop ?_) (λk=>aS (λF=>stop ?_) (λF=>go ?_))) (λq=>go ?_)
      .rw [D,a7 (show ¬48<=x.toNat by omega)];have:(x==45)=false:=beq_eq_false_iff_ne.2 λh=>q (by subst h;rfl)
       grind
      .rw [D,a7 (show ¬x.toNat<=57 by omega),Bool.and_false];have:(x==45)=false:=beq_eq_false_iff_ne.2 λh=>q (by subst h;rfl)
       grind
      .grind
      .have:x=45:=UInt8.toNat_inj.1 (by grind)
       grind
     .rw [C]at y;split
      .grind
      .unfold dZ;grind
    have C:((i:Int)).toNat=i:=cb i;refine o7.jU (aR (a6 io) ⟨io,x,by grind,aS (λk=>z _ ?_) (λk=>z _ ?_)⟩)
    .unfold gB
     grind
    .unfold gB
     grind
  exact loop s.size 0 io (by grind)
def Yl(t:ByteArray):(t.toList==(bh #[]).toList)=ak (t=ba []):=yQ _ _
def aek{w:I}{p:Addr}{d:Nd}(y:dK w p d):ah U PQ #[.pointer (some p)] w λr k=>r=ab (.bool (fU d.x))/\af w k:=by
 have C:∀a b c e:Bool,yG.S1 p a b c e w λr k=>r=ab (.bool ((a||d.x.n==0)&&(b||d.x.m==0)&&(c||d.x.u==0)&&(e||ak (d.x.tx=ba []))))/\af w k:=by
  intro a b c e;cases a<;>cases b<;>cases c<;>cases e;all_goals repeat (first |refine aT rfl ?_|refine aR rfl ?_|refine⟨_,y.c2,ax (λh=>?_) (λh=>⟨by rw[beq_eq_false_iff_ne.2 h];simp,Fr.refl _ _⟩)⟩|refine⟨_,y.c3,ax (λj=>?_) (λj=>⟨by rw[beq_eq_false_iff_ne.2 j];simp,Fr.refl _ _⟩)⟩|refine⟨_,y.c4,ax (λz=>?_) (λz=>⟨by rw[beq_eq_false_iff_ne.2 z];simp,Fr.refl _ _⟩)⟩|refine⟨_,y.c5,?_,Fr.refl _ _⟩)
  all_goals first |exact⟨by simp[*],Fr.refl _ _⟩|(rw[Yl];simp[*])
 have fin:∀a b c e:Bool,a=m6 d.x.op->b=(d.x.op==21)->c=(d.x.op==1)->e=m7 d.x.op->yG.S1 p a b c e w λr k=>r=ab (.bool (fU d.x))/\af w k:=by rintro a b c e rfl rfl rfl rfl;exact C _ _ _ _
 have H:∀A:Int,d.x.op≠A->(d.x.op==A)=false:=λA G=>beq_eq_false_iff_ne.2 G;have D:∀e:Bool,e=m7 d.x.op->yG.S2 p false false false e d.x.op w λr k=>r=ab (.bool (fU d.x))/\af w k:=by intro e q;refine ax (λE=>fin _ _ _ _ ?_ ?_ ?_ q) (λE=>ax (λh=>fin _ _ _ _ ?_ ?_ ?_ q) (λh=>ax (λj=>aR (beq_iff_eq.2 j) (fin _ _ _ _ ?_ ?_ ?_ q)) (λj=>ax (λz=>aR (beq_iff_eq.2 z) (fin _ _ _ _ ?_ ?_ ?_ q)) (λz=>ax (λF=>fin _ _ _ _ ?_ ?_ ?_ q) (λF=>fin _ _ _ _ ?_ ?_ ?_ q)))));all_goals first |(rw[‹d.x.op=_›];rfl)|(simp[m6, *])
 refine yG.ok ⟨_,y.c0,ax (λB=>aR (beq_iff_eq.2 B) (fin _ _ _ _ ?_ ?_ ?_ ?_)) (λB=>ax (λh=>aR (beq_iff_eq.2 h) (fin _ _ _ _ ?_ ?_ ?_ ?_)) (λh=>ax (λj=>fin _ _ _ _ ?_ ?_ ?_ ?_) (λj=>D _ ?_)))⟩;all_goals first |(rw[‹d.x.op=_›];rfl)|(unfold m7;simp[*])
def jR(s:aM)(e:Int)(r:cZ):Prop:=∃(t:aM) (d:Int),r=gF (t,d)/\d=e/\(e=0->t=s)
def As{w:I}{p:Addr}{d:Nd}(h:dK w p d):O F0 w w [] [.gU p d]:=bZ _ (by intro j e;simp only[aF,aW,a2]at e;subst e;exact h)
def i1(n:Nx)(x y d:aM):Int:=if ek n.op x y d=false then 9 else if jb n x y d=false then 5 else if n.op=33/\mW n.tx=false then 2 else 0
def acP{n:Nx}{x y d t:aM}{e ranges:Bool}(w:n.op≠33)(j:e=ek n.op x y d)(k:e=true->ranges=jb n x y d)(q:e=true->ranges=true->t=fX n x y d):jR (fX n x y d) (i1 n x y d) (gF (t,Hs e ranges)):=by
 refine⟨t,_,rfl,?_,λh=>?_⟩
 .unfold Hs i1
  grind
 .unfold i1 at h
  grind
section
variable {M:Nat->Prop} {w0 w:I} {L D:List En} {bs Ww:List Nat}
def eh(H:O F0 w0 w L D){n:Nx}{x y e:aM}(t:aM)(d ranges:Bool)(B:n.op≠33)(q:d=ek n.op x y e)(z:d=true->ranges=jb n x y e)(A:d=true->ranges=true->t=fX n x y e)(C:∀b∈bs,En.g b∈L:=by simp):
  e8 Ww U AV #[dk t,.bool d,.bool ranges] w λr E=>∃a b c h:Int,r=ab (.tuple #[.agg #[.i a,.i b,.i c],.i h])/\loc bs E λF=>jR (fX n x y e) (i1 n x y e) (ab (.tuple #[.agg #[.i a,.i b,.i c],.i h]))/\af w0 F:=by refine H.av (aer t d ranges w) ?_;rintro _ G rfl j;exact⟨_,_,_,_,rfl,j.ae (λJ k=>⟨acP B q z A,k.fr⟩) C⟩
end
def qB(s:aM):Prop:=0<=s.n/\s.n<=64
def ae1{s:aM}(d:bx s=true):qB s:=⟨(nD d).1,(nD d).2.1⟩
def QA:qB a5:=⟨dl,dl⟩
def aei{w:I}{p:Addr}{d:Nd}{x y e:aM}(z:dK w p d)(h4:4<=d.x.op)(ai:d.x.op<=23)(hx:qB x)(hy:qB y)(hn:cE d.x.n)(hm:cE d.x.m):
  ah U P' #[.pointer (some p),dk x,dk y,dk e] w λr W=>jR (fX d.x x y e) (i1 d.x x y e) r/\af w W:=by
 refine H8.aq ((As z).aw λb5 w1 H1=>H1.aw λb6 w2 H2=>H2.aw λb7 w3 H3=>H3.aw λb8 w4 E=>?_);obtain⟨⟨op,kids,n,m,u,M,st⟩,T⟩:=d;have B:∀{A:I} {L:List En},O F0 w A L [.gU p ⟨⟨op,kids,n,m,u,M,st⟩,T⟩]->dK A p ⟨⟨op,kids,n,m,u,M,st⟩,T⟩:=λac=>ac.getD 0;simp only at h4 ai hn hm;refine⟨op,(B E).c0,?_⟩;obtain⟨ap,ar⟩:=hx;obtain⟨az,aA⟩:=hy;obtain⟨an,ao⟩:=hn;obtain⟨aj,am⟩:=hm;have two:∀(c:Bool),c=true->c=true:=λ_ z=>z;rcases vp io (by omega:op<=34)with rfl|rfl|rfl|rfl|rfl|rfl|rfl|rfl|rfl|rfl|rfl|rfl|rfl|rfl|rfl|rfl|rfl|rfl|rfl|rfl|rfl|rfl|rfl|rfl|rfl|rfl|rfl|rfl|rfl|rfl|rfl|rfl|rfl|rfl|rfl
 iterate 4 omega
 rotate_left 20
 iterate 11 omega
 all_goals repeat (first |refine aT rfl ?_|refine aR rfl ?_)
 iterate 2
  .refine E.ae λA j=>j.av (tz x A) ?_;rintro _ C rfl q;exact⟨_,rfl,eh q x _ true us rfl (λ_=>rfl) (λ_ _=>rfl)⟩
 iterate 10
  .refine E.ae λA j=>j.av (tz x A) ?_;rintro _ C rfl q;refine⟨_,rfl,ax (λD=>?_) (λD=>?_)⟩
   .refine eh q x _ true us ?_ (λ_=>rfl) (λ_ _=>rfl);rw[lX];show _=(x.k==0&&ak (x=y));rw[D];rfl
   .refine eh q x _ true us ?_ (λ_=>rfl) (λ_ _=>rfl);show _=(x.k==0&&ak (x=y));rw[beq_eq_false_iff_ne.2 D];rfl
 iterate 2
  .refine E.ae λA j=>j.av (j8 1 A) ?_;rintro _ C rfl q;refine⟨_,_,_,rfl,q.av (tz x C) ?_⟩;rintro _ F rfl h;refine⟨_,rfl,ax (λD=>?_) (λD=>?_)⟩
   .refine eh h (aZ 1) _ true us ?_ (λ_=>rfl) (λ_ _=>rfl);rw[lX];show _=(x.k==0&&ak (x=y))
    grind
   .refine eh h (aZ 1) _ true us ?_ (λ_=>rfl) (λ_ _=>rfl);show _=(x.k==0&&ak (x=y))
    grind
 .refine E.ae λA j=>j.av (j8 1 A) ?_;rintro _ C rfl q;refine⟨_,_,_,rfl,q.av (Uk x y C) ?_⟩;rintro _ F rfl h;exact⟨_,rfl,eh h (aZ 1) _ true us rfl (λ_=>rfl) (λ_ _=>rfl)⟩
 .refine E.aw λZ A j=>j.ae λC q=>q.av (j9 y C) ?_;rintro _ F rfl h;have Q:∀(t:aM) (H:I),((ak (y=e)||(y.k==1&&e.k==1))=true->t=if y.k=1 then e0 (if y.n<e.n then e.n else y.n)else y)->O F0 w H [.g b5,.g b6,.g b7,.g b8,.g Z] [.gU p ⟨⟨19,kids,n,m,u,M,st⟩,T⟩]->H8.gw b5 x.k x.n x.x b6 y.k y.n y.x b7 e.k e.n e.x b8 0 0 0 Z t.k t.n t.x H λr W=>jR (fX ⟨19,kids,n,m,u,M,st⟩ x y e) (i1 ⟨19,kids,n,m,u,M,st⟩ x y e) r/\af w W:=by
   intro t H ht J;refine J.ae λw9 P=>P.av (j8 1 w9) ?_;rintro _ Y rfl N;have fe:ek 19 x y e=(ak (x=aZ 1)&&(ak (y=e)||(y.k==1&&e.k==1))):=rfl;refine⟨_,_,_,rfl,nt (a:=x) (b:=aZ 1) (λhe=>N.av (Uk y e Y) ?_) (λhe=>?_)⟩
   .rintro _ aB rfl ad;refine⟨_,rfl,eh ad t _ true us ?_ (λ_=>rfl) (λz _=>ht z)⟩
    grind
   .refine eh N t _ true us ?_ (λ_=>rfl) (λz _=>by cases z)
    grind
  have yes:∀t:aM,y.k=1->e.k=1->t=e0 (if y.n<e.n then e.n else y.n)->((ak (y=e)||(y.k==1&&e.k==1))=true->t=if y.k=1 then e0 (if y.n<e.n then e.n else y.n)else y):=λt h1 _ h3 _=>by grind
  refine⟨_,rfl,ax (λD=>h.av (j9 e F) ?_) (λD=>Q y F (λ_=>by grind) h)⟩;rintro _ H rfl J;refine⟨_,rfl,ax (λaa=>J.av (vZ _ H) ?_) (λaa=>Q y H (λhf=>?_) J)⟩
  .rintro _ w9 rfl P;exact⟨_,_,_,rfl,P.ae λY N=>Q (e0 (if y.n<e.n then e.n else y.n)) Y (yes _ D aa rfl) N⟩
  grind
 .have e1:aE .i64 (x.n+y.n)=x.n+y.n:=bH _ io;have fe:ek 20 x y e=(x.k==0&&y.k==0):=rfl;refine E.ae λA j=>?_;rw[e1];refine j.av (j8 _ A) ?_;rintro _ C rfl q;refine⟨_,_,_,rfl,q.av (tz x C) ?_⟩;rintro _ F rfl h;refine⟨_,rfl,ax (λD=>h.av (tz y F) ?_) (λD=>?_)⟩
  .rintro _ H rfl J;refine⟨_,rfl,eh J (aZ (x.n+y.n)) _ _ us ?_ (λ_=>rfl) (λ_ _=>rfl)⟩
   grind
  .refine eh h (aZ (x.n+y.n)) _ _ us ?_ (λz=>by cases z) (λz _=>by cases z)
   grind
 .have hr:jb ⟨21,kids,n,m,u,M,st⟩ x y e=(ak (0<=m)&&ak (m<=n)&&ak (n<x.n)):=rfl;refine E.ae λA j=>⟨_,(B j).c2,_,(B j).c3,_,(B j).c3,j.av (j8 _ A) ?_⟩;rintro _ C rfl q;refine⟨_,_,_,rfl,(B q).c3,q.av (tz x C) ?_⟩;rintro _ F rfl h;refine⟨_,rfl,(B h).c3,aS (λG=>⟨_,(B h).c3,_,(B h).c2,aS (λS=>⟨_,(B h).c2,eh h (aZ _) _ _ us rfl (λ_=>?_) (λ_ K=>?_)⟩) (λS=>eh h (aZ _) _ _ us rfl (λ_=>?_) (λ_ z=>by cases z))⟩) (λG=>eh h (aZ _) _ _ us rfl (λ_=>?_) (λ_ z=>by cases z))⟩
  .grind
  .have G:0<=m:=G;have S:m<=n:=S;have K:n<x.n:=fk K;show aZ (aE .i64 (aE .i64 (n - m)+1))=aZ (n - m+1);rw[bH (n - m) io,bH _ io]
  .grind
  grind
 iterate 2
  .have ag:aE .i64 (64 - x.n)=64 - x.n:=bH _ io;refine E.ae λA j=>⟨_,(B j).c2,_,(B j).c2,j.av (j8 _ A) ?_⟩;rintro _ C rfl q;refine⟨_,_,_,rfl,(B q).c2,q.av (tz x C) ?_⟩;rintro _ F rfl h;refine⟨_,rfl,(B h).c2,aS (λG=>⟨_,(B h).c2,eh h (aZ _) _ _ us rfl (λ_=>?_) (λ_ K=>?_)⟩) (λG=>eh h (aZ _) _ _ us rfl (λ_=>?_) (λ_ z=>by cases z))⟩
   .show _=(ak (1<=n)&&ak (n<=64 - x.n))
    grind
   .have G:1<=n:=G;rw[ag]at K;have K:n<=64 - x.n:=fk K;show aZ (aE .i64 (x.n+n))=aZ (x.n+n);rw[bH _ io]
   .show _=(ak (1<=n)&&ak (n<=64 - x.n))
    grind
def ad6{x y d:aM}(h:dV x=true):ek 25 x y d=(ak (y=aZ x.x)&&(if x.k=3 then d.k==1&&ak (d.n<=x.n)else ak (d=ib x))):=by
 show(dV x&&ak (y=aZ x.x)&&(ak (d=ib x)||(x.k==3&&d.k==1&&ak (d.n<=x.n))))=_;rw[h,Bool.true_and];congr 1;by_cases e:x.k=3
 .rw [ag e,e];have j:ib x=e0 x.n:=by unfold ib;grind
  rw[j];by_cases q:d=e0 x.n
  .subst q;simp[e0]
  grind
 grind
def aeh{w:I}{p:Addr}{d:Nd}{x y e:aM}(N:dK w p d)(h4:24<=d.x.op)(ap:d.x.op<=26):
  ah U P9 #[.pointer (some p),dk x,dk y,dk e] w λr H=>jR (fX d.x x y e) (i1 d.x x y e) r/\af w H:=by
 refine B6.aq ((As N).aw λJ w1 H1=>H1.aw λY w2 H2=>H2.aw λK w3 H3=>H3.aw λM w4 T=>?_);have am:∀{P:I} {L:List En},O F0 w P L [.gU p d]->dK P p d:=λao=>ao.getD 0;refine⟨_,(am T).c0,ax (λho=>T.ae λP H5=>H5.av (j8 x.x P) ?_) (λho=>T.av (j8 x.n w4) ?_)⟩
 .rintro _ w6 rfl W;refine⟨_,_,_,rfl,W.av (H7 x w6) ?_⟩;rintro _ D rfl h;have fe:ek d.x.op x y e=(dV x&&ak (x=y)):=by rw[ho];rfl
  have B:jb d.x x y e=true:=by unfold jb;grind
  have E:fX d.x x y e=aZ x.x:=by unfold fX;grind
  refine⟨_,rfl,bm (λz=>?_) (λz=>?_)⟩
  .refine eh h (aZ x.x) _ true io ?_ (λ_=>B.symm) (λ_ _=>E.symm);rw[fe,lX,z];rfl
  .refine eh h (aZ x.x) _ true io ?_ (λ_=>B.symm) (λ_ _=>E.symm)
   grind
 rintro _ w6 rfl W;have B:jb d.x x y e=true:=by unfold jb;grind
 have S1:∀(t:aM) (q:Nat) (f:Bool) (D:I),f=(dV x&&ak (y=aZ x.x))->(dV x=true->t=ib x)->O F0 w D [.g J,.g Y,.g K,.g M,.g q] [.gU p d]->B6.bg p J x.k x.n x.x K e.k e.n e.x M 0 0 0 q t.k t.n t.x f D λr H=>jR (fX d.x x y e) (i1 d.x x y e) r/\af w H:=by
  intro t q f D C G h;refine⟨_,(am h).c0,ax (λan=>?_) (λan=>?_)⟩
  .refine eh h t f true io ?_ (λ_=>B.symm) (λhh _=>?_)
   .rw [C,an];rfl
   .rw [C]at hh;simp only[bf]at hh;rw[G hh.1];unfold fX;grind
  have aa:d.x.op=25:=io
  have E:fX d.x x y e=x:=by unfold fX;rw[aa];rfl
  have ff:f=false->ek d.x.op x y e=false:=λN=>by
   rw[aa];show(dV x&&ak (y=aZ x.x)&&(ak (e=ib x)||(x.k==3&&e.k==1&&ak (e.n<=x.n))))=_
   grind
  have ft:f=true->dV x=true/\ek d.x.op x y e=(if x.k=3 then e.k==1&&ak (e.n<=x.n)else ak (e=ib x)):=λN=>by rw[N]at C;have C:=C.symm;simp only[bf]at C;refine⟨C.1,?_⟩;rw[aa,ad6 C.1,C.2,Bool.true_and]
  refine ax (λz=>bm (λai=>h.ae λA j=>j.av (j9 e A) ?_) (λac=>h.ae λA j=>eh j x _ true io (ff ac).symm (λ_=>B.symm) (λ_ _=>E.symm))) (λz=>bm (λai=>h.ae λA j=>eh j x _ true io ?_ (λ_=>B.symm) (λ_ _=>E.symm)) (λac=>h.ae λA j=>eh j x _ true io (ff ac).symm (λ_=>B.symm) (λ_ _=>E.symm)))
  .rintro _ Q rfl F;have:=(ft ai).2;rw[ag z]at this;refine⟨_,rfl,ax (λhz=>eh F x _ true io ?_ (λ_=>B.symm) (λ_ _=>E.symm)) (λhz=>eh F x _ true io ?_ (λ_=>B.symm) (λ_ _=>E.symm))⟩
   .grind
   grind
  .have Z:=ft ai;rw[ad z]at Z;rw[Z.2,lX,G Z.1]
 have S0:∀(t:aM) (q:Nat) (D:I),(dV x=true->t=ib x)->O F0 w D [.g J,.g Y,.g K,.g M,.g q] [.gU p d]->B6.aV p J x.k x.n x.x Y y.k y.n y.x K e.k e.n e.x M 0 0 0 q t.k t.n t.x D λr H=>jR (fX d.x x y e) (i1 d.x x y e) r/\af w H:=by intro t q D G h;refine h.ae λA j=>j.av (H7 x A) ?_;rintro _ Q rfl F;refine⟨_,rfl,bm (λz=>F.av (j8 x.x Q) ?_) (λz=>S1 t q false Q (by grind) G F)⟩;rintro _ aj rfl S;exact⟨_,_,_,rfl,S1 t q _ aj (by rw[z];exact lX y (aZ x.x)) G S⟩
 refine⟨_,_,_,rfl,W.aw λq D h=>ax (λz=>h.ae λA j=>j.av (vZ x.n A) ?_) (λz=>h.ae λA j=>S0 (aZ x.n) q A (λha=>?_) j)⟩
 .rintro _ Q rfl F;exact⟨_,_,_,rfl,F.ae λaj S=>S0 (e0 x.n) q aj (λ_=>by unfold ib;grind) S⟩
 .unfold dV at ha;simp only[Bool.or_eq_true,beq_iff_eq]at ha;unfold ib
  grind
def rL(t:ByteArray):Prop:=∀d,ah U Gn #[.string t] d λr e=>r=ab (.bool (mW t))/\af d e
def aev{w:I}{p:Addr}{d:Nd}{x y e:aM}(B:dK w p d)(ac:27<=d.x.op)(ad:d.x.op<=34)(hx:qB x)(hy:qB y)(hz:qB e)(S:d.x.op=33->rL d.x.tx):
  ah U Qb #[.pointer (some p),dk x,dk y,dk e] w λr w'=>jR (fX d.x x y e) (i1 d.x x y e) r/\af w w':=by
 refine UI.aq ((As B).aw λb5 w1 W=>W.aw λb6 w2 Y=>Y.aw λb7 w3 Z=>Z.aw λb8 w4 G=>?_);obtain⟨⟨op,kids,n,m,u,F,st⟩,P⟩:=d;have J:∀{q:I} {L:List En},O F0 w q L [.gU p ⟨⟨op,kids,n,m,u,F,st⟩,P⟩]->dK q p ⟨⟨op,kids,n,m,u,F,st⟩,P⟩:=λT=>T.getD 0;simp only at ac ad S;refine⟨op,(J G).c0,?_⟩;obtain⟨am,an⟩:=hx;obtain⟨ao,ap⟩:=hy;obtain⟨ar,az⟩:=hz;have ai:op=27\/op=28\/op=29\/op=30\/op=31\/op=32\/op=33\/op=34:=io
 rcases ai with rfl|rfl|rfl|rfl|rfl|rfl|rfl|rfl;all_goals repeat (first |refine aT rfl ?_|refine aR rfl ?_)
 .refine G.ae λq z=>z.av (j8 7 q) ?_;rintro _ A rfl j;refine⟨_,_,_,rfl,j.av (j9 x A) ?_⟩;rintro _ D rfl h;exact⟨_,rfl,eh h (aZ 7) _ true us rfl (λ_=>rfl) (λ_ _=>rfl)⟩
 .have hr:jb ⟨28,kids,n,m,u,F,st⟩ x y e=(ak (0<=n)&&ak (n<=63)):=rfl;refine G.ae λq z=>⟨_,(J z).c2,z.av (j8 8 q) ?_⟩;rintro _ A rfl j;refine⟨_,_,_,rfl,(J j).c2,j.av (j9 x A) ?_⟩;rintro _ D rfl h;refine⟨_,rfl,(J h).c2,aS (λg1=>⟨_,(J h).c2,eh h (aZ 8) _ _ us rfl (λ_=>?_) (λ_ _=>rfl)⟩) (λg1=>eh h (aZ 8) _ _ us rfl (λ_=>?_) (λ_ B=>by cases B))⟩
  .grind
  grind
 .have M:aE .i64 (x.n+y.n)=x.n+y.n:=bH _ io;have K:ek 29 x y e=(x.k==1&&y.k==1):=rfl;refine G.ae λq z=>?_;rw[M];refine z.av (vZ _ q) ?_;rintro _ A rfl j;refine⟨_,_,_,rfl,j.av (j9 x A) ?_⟩;rintro _ D rfl h;refine⟨_,rfl,ax (λE=>h.av (j9 y D) ?_) (λE=>?_)⟩
  .rintro _ H rfl C;refine⟨_,rfl,eh C (e0 (x.n+y.n)) _ _ us ?_ (λ_=>rfl) (λ_ _=>rfl)⟩
   grind
  .refine eh h (e0 (x.n+y.n)) _ _ us ?_ (λB=>by cases B) (λB _=>by cases B)
   grind
 .have K:ek 30 x y e=(x.k==1&&ak (y=aZ 7)&&ak (e=aZ 7)):=rfl;refine G.ae λq z=>z.av (j9 x q) ?_;rintro _ A rfl j;refine⟨_,rfl,ax (λE=>j.av (j8 7 A) ?_) (λE=>eh j x _ true us ?_ (λ_=>rfl) (λ_ _=>rfl))⟩
  .rintro _ D rfl h;refine⟨_,_,_,rfl,nt (a:=y) (b:=aZ 7) (λN=>h.av (j8 7 D) ?_) (λN=>eh h x _ true us ?_ (λ_=>rfl) (λ_ _=>rfl))⟩
   .rintro _ H rfl C;refine⟨_,_,_,rfl,eh C x _ true us ?_ (λ_=>rfl) (λ_ _=>rfl)⟩;show _=ek 30 x y e;rw[K,E,a6 N];exact lX e (aZ 7)
   grind
  grind
 .have K:ek 31 x y e=(x.k==1&&y.k==1):=rfl;refine G.ae λq z=>z.av (j8 7 q) ?_;rintro _ A rfl j;refine⟨_,_,_,rfl,j.av (j9 x A) ?_⟩;rintro _ D rfl h;refine⟨_,rfl,ax (λE=>h.av (j9 y D) ?_) (λE=>?_)⟩
  .rintro _ H rfl C;refine⟨_,rfl,eh C (aZ 7) _ true us ?_ (λ_=>rfl) (λ_ _=>rfl)⟩
   grind
  .refine eh h (aZ 7) _ true us ?_ (λ_=>rfl) (λ_ _=>rfl)
   grind
 .have M:aE .i64 (x.n+e.n)=x.n+e.n:=bH _ io;have K:ek 32 x y e=(x.k==1&&y.k==1&&e.k==1):=rfl;refine G.ae λq z=>?_;rw[M];refine z.av (vZ _ q) ?_;rintro _ A rfl j;refine⟨_,_,_,rfl,j.av (j9 x A) ?_⟩;rintro _ D rfl h;have no:∀{H:I} {L:List En} {bs aa:List Nat},O F0 w H L [.gU p ⟨⟨32,kids,n,m,u,F,st⟩,P⟩]->(∀b∈bs,En.g b∈L)->ek 32 x y e=false->e8 aa U AV #[dk (e0 (x.n+e.n)),.bool false,.bool (ak (x.n+e.n<=64))] H λr q=>∃a b c Q:Int,r=ab (.tuple #[.agg #[.i a,.i b,.i c],.i Q])/\loc bs q λA=>jR (fX ⟨32,kids,n,m,u,F,st⟩ x y e) (i1 ⟨32,kids,n,m,u,F,st⟩ x y e) (ab (.tuple #[.agg #[.i a,.i b,.i c],.i Q]))/\af w A:=λC hb hf=>eh C _ _ _ us hf.symm (λB=>by cases B) (λB _=>by cases B) hb;refine⟨_,rfl,ax (λE=>h.av (j9 y D) ?_) (λE=>no h us ?_)⟩
  .rintro _ H rfl C;refine⟨_,rfl,ax (λag=>C.av (j9 e H) ?_) (λag=>no C us ?_)⟩
   .rintro _ w9 rfl H9;refine⟨_,rfl,eh H9 (e0 (x.n+e.n)) _ _ us ?_ (λ_=>rfl) (λ_ _=>rfl)⟩
    grind
   grind
  grind
 .have K:ek 33 x y e=(x.k==1):=rfl;have aj:jb ⟨33,kids,n,m,u,F,st⟩ x y e=true:=rfl;refine G.av (j9 x w4) ?_;rintro _ q rfl z;refine⟨_,rfl,eS (λE=>z.ae λA j=>⟨⟨x,9,rfl,?_,λB=>?_⟩,j.fr⟩) (λE=>⟨F,(J z).c5,z.av (S rfl q) ?_⟩)⟩
  .unfold i1
   grind
  .unfold i1 at B
   grind
  .rintro _ A rfl j;have N:i1 ⟨33,kids,n,m,u,F,st⟩ x y e=if mW F=false then 2 else 0:=by
    unfold i1
    grind
   refine⟨_,rfl,eS (λhc=>j.ae λD h=>⟨⟨x,2,rfl,?_,λB=>?_⟩,h.fr⟩) (λhc=>j.av (j8 1 A) ?_)⟩
   .grind
   .grind
   .rintro _ D rfl h;exact⟨_,_,_,rfl,h.ae λH C=>⟨⟨aZ 1,0,rfl,by grind,λ_=>rfl⟩,C.fr⟩⟩
 .refine G.ae λq z=>z.av (vZ 1 q) ?_;rintro _ A rfl j;refine⟨_,_,_,rfl,j.av (j8 8 A) ?_⟩;rintro _ D rfl h;exact⟨_,_,_,rfl,eh h (e0 1) _ true us (lX x (aZ 8)) (λ_=>rfl) (λ_ _=>rfl)⟩
def Yv(u n:Int)(j:0<=u)(w:0<=n)(x:n<64):((Int.fdiv u (2^(min (aY n) (IntKind.bits .u64)))) !=0)=ak (2^n.toNat<=u):=by
 have h:min (aY n) (IntKind.bits .u64)=n.toNat:=by show min n.toNat 64=_;omega
 rw[h];have d:(0:Int)<2^n.toNat:=Int.pow_pos dl;generalize(2:Int)^n.toNat=q at d;have k:=Int.fdiv_eq_ediv_of_nonneg u (by omega:0<=q);rw[k];by_cases e:q<=u
 .rw [a6 e];have:1<=u / q:=by rw[Int.le_ediv_iff_mul_le d];omega
  grind
 .rw [a7 e];rw[Int.ediv_eq_zero_of_lt j io];rfl
def aeo{w:I}{p:Addr}{d:Nd}(g:List Nx)(P:dK w p d)(Q:1<=d.x.op)(h3:d.x.op<=3)(hu:0<=d.x.u):
  ah U Qa #[.pointer (some p)] w λr K=>jR (b6 g d.x).1 (b6 g d.x).2 r/\af w K:=by
 refine H9.aq ((As P).aw λC M y=>?_);have h:∀{z:I} {L:List En},O F0 w z L [.gU p d]->dK z p d:=λY=>Y.getD 0;have er:∀(t:aM) (e:Int) (z:I),e≠0->(b6 g d.x)=(a5,e)->O F0 w z [.g C] [.gU p d]->loc [C] z λF=>jR (b6 g d.x).1 (b6 g d.x).2 (ab (.tuple #[.agg #[.i t.k,.i t.n,.i t.x],.i e]))/\af w F:=λt e z h0 A G=>G.ae λF H=>⟨⟨t,e,rfl,by rw[A],λP=>by grind⟩,H.fr⟩;have ok:∀(t:aM) (z:I),(b6 g d.x)=(t,0)->O F0 w z [.g C] [.gU p d]->loc [C] z λF=>jR (b6 g d.x).1 (b6 g d.x).2 (ab (.tuple #[.agg #[.i t.k,.i t.n,.i t.x],.i 0]))/\af w F:=λt z A G=>G.ae λF H=>⟨⟨t,0,rfl,by rw[A],λ_=>by rw[A]⟩,H.fr⟩;refine⟨_,(h y).c0,ax (λZ=>?_) (λZ=>?_)⟩
 .refine ⟨_,(h y).c5,aS (λhs=>⟨_,_,_,(h y).s0,(h y).s1,(h y).s2,er d.x.st 5 M dl ?_ y⟩) (λhs=>⟨_,(h y).c5,y.av (vZ _ M) ?_⟩)⟩
  .unfold b6;grind
  .rintro _ E rfl q;refine⟨_,_,_,rfl,ok (e0 d.x.tx.size) E ?_ q⟩;unfold b6;grind
 have D:b6 g d.x=if bx d.x.st=false then(a5,9)else
   if d.x.op=1/\d.x.st.k≠0\/d.x.op=3/\dV d.x.st=false then(a5,9)else
   if d.x.op=1/\mU d.x.u d.x.st.n=true then(a5,5)else(d.x.st,0):=by unfold b6;grind
 refine⟨_,_,_,(h y).s0,(h y).s1,(h y).s2,y.av (H5 d.x.st M) ?_⟩;rintro _ E rfl q;refine⟨_,rfl,HJ (λW=>⟨_,_,_,(h q).s0,(h q).s1,(h q).s2,?_⟩) (λW=>?_)⟩
 .have:gm d.x.st=9:=by unfold gm;grind
  rw[this];exact er d.x.st 9 E dl (by grind) q
 rw[ad (by grind)]at D;refine⟨_,(h q).c0,ax (λh3=>⟨_,_,_,(h q).s0,(h q).s1,(h q).s2,q.av (H7 d.x.st E) ?_⟩) (λaa=>?_)⟩
 .rintro _ B rfl j;refine⟨_,rfl,eS (λha=>⟨_,_,_,(h j).s0,(h j).s1,(h j).s2,er d.x.st 9 B dl ?_ j⟩) (λha=>⟨_,_,_,(h j).s0,(h j).s1,(h j).s2,ok d.x.st B ?_ j⟩)⟩
  .grind
  grind
 have Q:d.x.op=1:=io
 refine⟨_,(h q).s0,cq (λT=>⟨_,_,_,(h q).s0,(h q).s1,(h q).s2,er d.x.st 9 E dl ?_ q⟩) (λT=>q.ae λB j=>?_)⟩
 .grind
 rw[ad io]at D;obtain⟨v1,v2,_⟩:=wb W T;have N:b6 g d.x=(d.x.st,0)->H9.aV p C 0 0 0 B λr K=>jR (b6 g d.x).1 (b6 g d.x).2 r/\af w K:=λA=>⟨_,_,_,(h j).s0,(h j).s1,(h j).s2,ok d.x.st B A j⟩;refine⟨_,(h j).s1,aS (λS=>⟨_,(h j).c4,_,(h j).s1,io,?_⟩) (λS=>N ?_)⟩
 .rw [Yv _ _ hu io S];refine aS (λhb=>⟨_,_,_,(h j).s0,(h j).s1,(h j).s2,er d.x.st 5 B dl ?_ j⟩) (λhb=>N ?_)
  .rw [D,ag ⟨Q,by unfold mU;grind⟩]
  .rw [D,ad];rintro⟨_,J⟩;unfold mU at J
   grind
 .rw [D,ad];rintro⟨_,J⟩;unfold mU at J
  grind
def n8(g:List Nx)(t:ByteArray):cZ:=match ga g t with
 |some s=>ab (.tuple #[dk s,.bool true])
 |none=>ab (.tuple #[dk a5,.bool false])
def aew{w:I}{p:Addr}{d:Nd}{D:List En}(g:List Nx)(lk:Fv)(H:O F0 w w [] (.gU p d::D))(hc:hv U lk.n=true)(hl:∀C:I,(∀e∈D,e.P C)->ah U lk.n (lk.bs++#[.string d.x.tx]++lk.cs) C λr ai=>r=n8 g d.x.tx/\af C ai)(h0:d.x.op=0):
  ah U Qc #[.pointer (some p),lk.v] w λr C=>jR (b6 g d.x).1 (b6 g d.x).2 r/\af w C:=by
 have h:∀{q:I} {L:List En},O F0 w q L (.gU p d::D)->dK q p d:=λH=>H.getD 0;have z:b6 g d.x=if jE (bl d.x.tx)=false then(a5,6)else if bx d.x.st=false then(a5,9)else if oi g d.x=true then(a5,8)else(d.x.st,0):=by
  unfold b6
  grind
 have fin:∀(e:Int) (q:I) (L:List En) (i:Nat) (b:Nat) (E c1 c2:V),O F0 w q L (.gU p d::D)->L[i]? =some (.c b [E,c1,c2] cd)->b6 g d.x=(if e=0 then d.x.st else a5,e)->BU q (aa b) (.i d.x.st.k) (.i d.x.st.n) (.i d.x.st.x) λW=>MQ W (aa b) λa0 a1 a2=>jR (b6 g d.x).1 (b6 g d.x).2 (ab (.tuple #[.agg #[.i a0,.i a1,.i a2],.i e]))/\af w W:=by
  intro e q L i b E c1 c2 y Q N;refine y.k8 i Q λW G=>?_;have S:(L.set i (.c b [Value.i d.x.st.k,.i d.x.st.n,.i d.x.st.x] cd))[i]? =some (.c b [Value.i d.x.st.k,.i d.x.st.n,.i d.x.st.x] cd):=by grind
  refine⟨_,_,_,G.ld i 0 S,G.ld i 1 S,G.ld i 2 S,⟨d.x.st,e,rfl,by rw[N],λaj=>?_⟩,G.fr⟩
  grind
 refine H'.ok (H.nw λw1 _ Y=>⟨_,(h Y).c5,Y.call (aem d.x.tx w1) ?_⟩);rintro _ w2 rfl A;refine⟨_,rfl,eS (λT=>⟨_,_,_,(h A).s0,(h A).s1,(h A).s2,fin 6 w2 _ 0 _ _ _ _ A rfl (by rw[z,ag T];rfl)⟩) (λT=>⟨_,_,_,(h A).s0,(h A).s1,(h A).s2,A.call (H5 d.x.st w2) ?_⟩)⟩;rw[ad (by rw[T];simp)]at z;rintro _ w3 rfl B;refine⟨_,rfl,HJ (λJ=>⟨_,_,_,(h B).s0,(h B).s1,(h B).s2,?_⟩) (λJ=>⟨_,(h B).c5,?_⟩)⟩
 .have:gm d.x.st=9:=by unfold gm;rw[J];rfl
  rw[this];exact fin 9 w3 _ 0 _ _ _ _ B rfl (by rw[z,ag J];rfl)
 rw[ad (by rw[J];simp)]at z;rw[hc];refine(show cS true _ from ?_);refine B.call (hl w3 (λe N=>B.rd e (List.mem_cons_of_mem _ N))) ?_;rintro _ w4 rfl Z;have F:∀(q:I) (L:List En) (E c1 c2:V),O F0 w q L (.gU p d::D)->L[0]? =some (.c w.heap.size [E,c1,c2] cd)->oi g d.x=false->H'.S0 p (aa w.heap.size) q λr C=>jR (b6 g d.x).1 (b6 g d.x).2 r/\af w C:=λq L E c1 c2 y Q ht=>⟨_,_,_,(h y).s0,(h y).s1,(h y).s2,fin 0 q L 0 _ E c1 c2 y Q (by rw[z,ad (by rw[ht];simp)];rfl)⟩;unfold oi at z F;unfold n8;cases hs:ga g d.x.tx with
 |none=>
  rw[hs]at z F;refine⟨a5.k,a5.n,a5.x,false,rfl,Z.nw λq _ y=>y.k8 1 rfl λw8 M=>M.dr λK j=>aT rfl ?_⟩;exact F K _ _ _ _ j rfl rfl
 |some t=>
  rw[hs]at z F;refine⟨t.k,t.n,t.x,true,rfl,Z.nw λq _ y=>y.k8 1 rfl λw8 M=>M.dr λK j=>aR rfl ⟨_,_,_,j.ld 1 0,j.ld 1 1,j.ld 1 2,_,_,_,(h j).s0,(h j).s1,(h j).s2,yt (a:=t) (b:=d.x.st) (λae=>⟨_,_,_,(h j).s0,(h j).s1,(h j).s2,fin 8 K _ 0 _ _ _ _ j rfl ?_⟩) (λac=>F K _ _ _ _ j rfl ?_)⟩⟩
  .rw [z,ag (by simp[ae])];rfl
  .simp [ac]
def ab8{s:BL}{x:Rx}{a:Nat}{e:Int}(d:vr s=some (x,a,e)):x.sz<=1000000:=by
 unfold vr at d;split at d
 .simp only[fC,fB]at d;rw[<-d.1];decide
 .dsimp only at d;split at d
  .split at d
   .simp only[fC,fB]at d;rw[<-d.1];decide
   .split at d
    .cases d
    .split at d
     .simp only[fC,fB]at d;rw[<-d.1];decide
     .simp only[fC,fB]at d;rw[<-d.1];omega
  .cases d
def WA(s:ByteArray)(S:s.size<=100000)(b:Bool)(d:uu (bl s)=some b)(w:I):ah U NU #[.string s] w λr w'=>r=ab (.bool b)/\af w w':=by
 unfold uu at d;cases k:vr (bl s)with
 |none=>rw[k]at d;cases d
 |some ac=>
  obtain⟨aa,a,N⟩:=ac;rw[k]at d;dsimp only at d;have T:=ab8 k;have H:O F0 w w [] []:=bZ [] us;refine KX.aq (H.wO (Xk s S aa a N k w) ?_);rintro _ w1 ⟨t,rfl,y,W,P⟩ _ G;have K:=G.rd (.tree t) W λb e=>P b (aU.1 e);have Z:t.sz<=1000000:=by rw[<-J.eu,y];exact T
  refine⟨_,_,_,t.s,_,_,rfl,K.aw λb3 w2 z=>cq (λq=>z.ae λE h=>⟨?_,h.fr⟩) (λq=>z.ae λE h=>?_)⟩
  .rw [ad q]at d;cases d;rfl
  rw[ag q]at d;refine kG ((Xm t E Z (h.getD 0)).mono ?_);rintro _ w4 ⟨⟨u,rfl,D,Y,Q⟩,B⟩;have L:=h.eO (.tree u) B Y λb e=>(Q b (aU.1 e)).imp id λe=>.inr ⟨_,ay (i:=0) rfl,aU.2 e⟩;rw[y]at D;refine⟨B,_,_,_,u.s,_,rfl,L.aw λb6 w5 A=>?_⟩;rw[y];refine ax (λx=>A.ae λF j=>?_) (λx=>A.ae λF j=>⟨?_,j.fr⟩)
  .rw [ag x]at d;split at d
   .rename_i C;rw[<-D]at C d;refine j.av (JF u 0 F (by rw[<-J.eu];omega) io C.1 (j.getD 1)) ?_;rintro _ w7 rfl M;refine⟨_,rfl,?_,M.fr⟩;cases d;congr 2;have:=uj (cR 0 u.rx (a' u.rx)) (bl s);rw[jW]at this;exact this
   .cases d
  .rw [ad x]at d;cases d;rfl
abbrev vS(k:Sl)(ks:List aM):En:=.a9 3 k (ks.flatMap g1)
def M9{w:I}{k:Sl}{ks:List aM}(e:bA 3 w k (ks.flatMap g1)):O F0 w w [] [vS k ks]:=bZ _ (by intro h d;simp only[aF,aW,a2]at d;subst d;exact e)
def W0{w:I}{k:Sl}{ks:List aM}{x y B:aM}(op:Int)(ag:bA 3 w k (ks.flatMap g1))(hx:ks[0]? =some x)(q:2<=ck op->ks[1]? =some y)(G:ck op=3->ks[2]? =some B)(h4:4<=op)(aj:op<=34):
  ah U Ox #[.i op,k.v] w λr w'=>r=ab (.bool (ek op x y B))/\af w w':=by
 refine Em.aq (eC ag (rfl:(0:Int)=((0:Nat):Int)) hx λp0 an Z=>⟨x.k,x.n,x.x,Z.c0,Z.c1,Z.c2,(M9 ag).aw λb5 w1 H1=>?_⟩);have main:∀(a:Bool) (M:I),a=dV x->O F0 w M [.g b5] [vS k ks]->Em.aV op k b5 x.k x.n x.x (x.k==0) (x.k==1) a M λr w'=>r=ab (.bool (ek op x y B))/\af w w':=by
  rintro a M ha d;have j:∀{C:I} {L:List En},O F0 w C L [vS k ks]->bA 3 C k (ks.flatMap g1):=λai=>ai.getD 0;have A:(1:Int)=((1:Nat):Int):=rfl;have J:(2:Int)=((2:Nat):Int):=rfl;rcases vp io aj with rfl|rfl|rfl|rfl|rfl|rfl|rfl|rfl|rfl|rfl|rfl|rfl|rfl|rfl|rfl|rfl|rfl|rfl|rfl|rfl|rfl|rfl|rfl|rfl|rfl|rfl|rfl|rfl|rfl|rfl|rfl|rfl|rfl|rfl|rfl
  iterate 4 omega
  all_goals repeat (first |refine aT rfl ?_|refine aR rfl ?_)
  all_goals first |(have q:=q dl)|skip
  all_goals first |(have G:=G dl)|skip
  iterate 2 exact⟨rfl,d.fr⟩
  iterate 12
   .refine ax (λe=>?_) (λe=>d.ae λC h=>⟨?_,h.fr⟩)
    .refine eC (j d) A q λp F _=>d.ae λC h=>?_;have c:=gG (j h) A q F;refine⟨_,_,_,c.c0,c.c1,c.c2,?_,h.fr⟩;rw[lX];show _=Ending.returned (.bool (x.k==0&&ak (x=y)));rw[e];rfl
    .show _=Ending.returned (.bool (x.k==0&&ak (x=y)));rw[beq_eq_false_iff_ne.2 e];rfl
  .refine eC (j d) A q λp F _=>d.ae λC h=>?_;have c:=gG (j h) A q F;have D:ek 18 x y B=(ak (x=y)||(x.k==1&&y.k==1)):=rfl;rw[D];refine⟨_,_,_,c.c0,c.c1,c.c2,nt (λH=>⟨by rw[a6 H];rfl,h.fr⟩) (λH=>?_)⟩;rw[a7 H,Bool.false_or];refine ax (λe=>eC (j h) A q λp' _ Y=>⟨_,Y.c0,?_,h.fr⟩) (λe=>⟨?_,h.fr⟩)
   .rw [e];rfl
   .rw [beq_eq_false_iff_ne.2 e];rfl
  .refine d.ae λC h=>h.av (fD 1 C) ?_;rintro _ T rfl z;have D:ek 19 x y B=(ak (x=aZ 1)&&(ak (y=B)||(y.k==1&&B.k==1))):=rfl;rw[D];refine⟨_,_,_,rfl,nt (b:=aZ 1) (λH=>?_) (λH=>⟨by rw[a7 H];rfl,z.fr⟩)⟩;rw[a6 H,Bool.true_and];refine eC (j z) A q λp _ c=>⟨_,_,_,c.c0,c.c1,c.c2,eC (j z) J G λad _ E=>⟨_,_,_,E.c0,E.c1,E.c2,nt (λh2=>⟨by rw[a6 h2];rfl,z.fr⟩) (λh2=>?_)⟩⟩;rw[a7 h2,Bool.false_or];refine eC (j z) A q λp' _ Y=>⟨_,Y.c0,ax (λe=>eC (j z) J G λq' _ d'=>⟨_,d'.c0,?_,z.fr⟩) (λe=>⟨?_,z.fr⟩)⟩
   .rw [e];rfl
   .rw [beq_eq_false_iff_ne.2 e];rfl
  .have D:ek 20 x y B=(x.k==0&&y.k==0):=rfl;rw[D];refine ax (λe=>eC (j d) A q λp _ c=>⟨_,c.c0,?_,d.fr⟩) (λe=>⟨?_,d.fr⟩)
   .rw [e];rfl
   .rw [beq_eq_false_iff_ne.2 e];rfl
  iterate 3 exact⟨rfl,d.fr⟩
  .have D:ek 24 x y B=(dV x&&ak (y=aZ x.x)):=rfl;rw[D,<-ha];refine bm (λS=>?_) (λP=>d.ae λC h=>⟨by rw[P];rfl,h.fr⟩);refine eC (j d) A q λp F _=>d.ae λC h=>?_;have c:=gG (j h) A q F;refine⟨_,_,_,c.c0,c.c1,c.c2,h.av (fD x.x C) ?_⟩;rintro _ T rfl z;have E:=gG (j z) A q F;refine⟨_,_,_,rfl,E.c0,E.c1,E.c2,?_,z.fr⟩;rw[S,Bool.true_and];exact congrArg (λb=>Ending.returned (.bool b)) (lX y (aZ x.x))
  .have D:ek 25 x y B=(dV x&&ak (y=aZ x.x)&&(ak (B=ib x)||(x.k==3&&B.k==1&&ak (B.n<=x.n)))):=rfl;rw[D,<-ha];refine eS (λP=>d.ae λC h=>⟨by rw[P];rfl,h.fr⟩) (λS=>?_);rw[S,Bool.true_and];refine eC (j d) A q λp F _=>d.ae λC h=>?_;have c:=gG (j h) A q F;refine⟨_,_,_,c.c0,c.c1,c.c2,h.av (fD x.x C) ?_⟩;rintro _ T rfl z;have E:=gG (j z) A q F;refine⟨_,_,_,rfl,E.c0,E.c1,E.c2,yt (a:=y) (b:=aZ x.x) (λQ=>⟨by rw[a7 Q];rfl,z.fr⟩) (λam=>?_)⟩;rw[a6 am,Bool.true_and];refine eC (j z) J G λad W _=>z.ae λw5 N=>?_;have c5:=gG (j N) J G W;refine⟨_,_,_,c5.c0,c5.c1,c5.c2,N.av (Hf x w5) ?_⟩;rintro _ w6 rfl K;have d6:=gG (j K) J G W;refine⟨_,_,_,rfl,d6.c0,d6.c1,d6.c2,nt (a:=B) (b:=ib x) (λH=>⟨by rw[a6 H];rfl,K.fr⟩) (λQ=>?_)⟩;rw[a7 Q,Bool.false_or];refine ax (λe=>eC (j K) J G λq' _ d'=>⟨_,d'.c0,ax (λac=>eC (j K) J G λq2 _ d2=>⟨_,d2.c1,?_,K.fr⟩) (λac=>⟨?_,K.fr⟩)⟩) (λe=>⟨?_,K.fr⟩)
   .rw [e,ac];rfl
   .rw [beq_eq_false_iff_ne.2 ac,Bool.and_false];rfl
   .rw [beq_eq_false_iff_ne.2 e];rfl
  .have D:ek 26 x y B=(dV x&&ak (x=y)):=rfl;rw[D,<-ha];refine bm (λS=>?_) (λP=>d.ae λC h=>⟨by rw[P];rfl,h.fr⟩);refine eC (j d) A q λp F _=>d.ae λC h=>?_;have c:=gG (j h) A q F;refine⟨_,_,_,c.c0,c.c1,c.c2,?_,h.fr⟩;rw[lX,S];rfl
  iterate 2 exact⟨rfl,d.fr⟩
  .have D:ek 29 x y B=(x.k==1&&y.k==1):=rfl;rw[D];refine ax (λe=>eC (j d) A q λp _ c=>⟨_,c.c0,?_,d.fr⟩) (λe=>⟨?_,d.fr⟩)
   .rw [e];rfl
   .rw [beq_eq_false_iff_ne.2 e];rfl
  .have D:ek 30 x y B=(x.k==1&&ak (y=aZ 7)&&ak (B=aZ 7)):=rfl;rw[D];refine ax (λe=>?_) (λe=>d.ae λC h=>⟨by rw[beq_eq_false_iff_ne.2 e];rfl,h.fr⟩);rw[e];refine eC (j d) A q λp F _=>d.ae λC h=>?_;have c:=gG (j h) A q F;refine⟨_,_,_,c.c0,c.c1,c.c2,h.av (fD 7 C) ?_⟩;rintro _ T rfl z;have E:=gG (j z) A q F;refine⟨_,_,_,rfl,E.c0,E.c1,E.c2,nt (a:=y) (b:=aZ 7) (λH=>?_) (λQ=>⟨by rw[a7 Q];rfl,z.fr⟩)⟩;rw[a6 H];refine eC (j z) J G λad W c4=>⟨_,_,_,c4.c0,c4.c1,c4.c2,z.av (fD 7 T) ?_⟩;rintro _ w5 rfl N;have d5:=gG (j N) J G W;exact⟨_,_,_,rfl,d5.c0,d5.c1,d5.c2,congrArg (λb=>Ending.returned (.bool b)) (lX B (aZ 7)),N.fr⟩
  .have D:ek 31 x y B=(x.k==1&&y.k==1):=rfl;rw[D];refine ax (λe=>eC (j d) A q λp _ c=>⟨_,c.c0,?_,d.fr⟩) (λe=>⟨?_,d.fr⟩)
   .rw [e];rfl
   .rw [beq_eq_false_iff_ne.2 e];rfl
  .have D:ek 32 x y B=(x.k==1&&y.k==1&&B.k==1):=rfl;rw[D];refine ax (λe=>eC (j d) A q λp _ c=>⟨_,c.c0,ax (λaa=>eC (j d) J G λad _ E=>⟨_,E.c0,?_,d.fr⟩) (λaa=>⟨?_,d.fr⟩)⟩) (λe=>⟨?_,d.fr⟩)
   .rw [e,aa];rfl
   .rw [beq_eq_false_iff_ne.2 aa,Bool.and_false];rfl
   .rw [beq_eq_false_iff_ne.2 e];rfl
  .exact ⟨rfl,d.fr⟩
  .refine d.ae λC h=>h.av (fD 8 C) ?_;rintro _ T rfl z;exact⟨_,_,_,rfl,congrArg (λb=>Ending.returned (.bool b)) (lX x (aZ 8)),z.fr⟩
 refine ax (λe=>H1.ae λM d=>main true M ?_ d) (λe=>H1.ae λM d=>main _ M ?_ d)
 .unfold dV;rw[e];rfl
 .unfold dV;rw[beq_eq_false_iff_ne.2 e];rfl
def CW(n:Nx)(x y d:aM):cZ->Prop:=λr=>∃(t:aM) (b:Bool),r=ab (.tuple #[dk t,.bool b])/\b=jb n x y d/\(b=true->t=fX n x y d)
def Xp{w:I}{k:Sl}{ks:List aM}{x y T:aM}(d:Nd)(F:bA 3 w k (ks.flatMap g1))(hx:ks[0]? =some x)(C:2<=ck d.x.op->ks[1]? =some y)(K:ck d.x.op=3->ks[2]? =some T)(h4:4<=d.x.op)(ai:d.x.op<=34)(vx:bx x=true)(vy:2<=ck d.x.op->bx y=true)(vz:ck d.x.op=3->bx T=true)(hn:cE d.x.n)(hm:cE d.x.m):
  ah U OB #[d.v,k.v] w λr Y=>CW d.x x y T r/\af w Y:=by
 obtain⟨x1,x2,x3,x4,_⟩:=nD vx;obtain⟨ar,az⟩:=hn;obtain⟨ao,ap⟩:=hm;refine z0.aq ((M9 F).aw λb2 w1 H1=>H1.aw λb4 w2 H2=>eC (H2.getD 0) (rfl:(0:Int)=((0:Nat):Int)) hx λp0 aB aa=>⟨x.k,x.n,x.x,aa.c0,aa.c1,aa.c2,H2.aw λb6 w3 W=>?_⟩);have z:∀{w3:I} {L:List En},O F0 w w3 L [vS k ks]->bA 3 w3 k (ks.flatMap g1):=λaj=>aj.getD 0;have D:(1:Int)=((1:Nat):Int):=rfl;have S:(2:Int)=((2:Nat):Int):=rfl;obtain⟨⟨op,kids,n,m,u,tx,st⟩,aA⟩:=d;simp only at C K h4 ai vy vz ar az ao ap;have S1:∀A:I,op≠16->op≠17->op≠18->op≠33->O F0 w A [.g b2,.g b4,.g b6] [vS k ks]->z0.bg k b2 op aA n m u tx st.k st.n st.x b4 0 0 0 b6 x.k x.n x.x op A λr Y=>CW ⟨op,kids,n,m,u,tx,st⟩ x y T r/\af w Y:=by
  intro A n1 n2 n3 n4 h;rcases vp io ai with rfl|rfl|rfl|rfl|rfl|rfl|rfl|rfl|rfl|rfl|rfl|rfl|rfl|rfl|rfl|rfl|rfl|rfl|rfl|rfl|rfl|rfl|rfl|rfl|rfl|rfl|rfl|rfl|rfl|rfl|rfl|rfl|rfl|rfl|rfl
  iterate 4 omega
  all_goals repeat (first |refine aT rfl ?_|refine aR rfl ?_)
  all_goals first |(have C:=C dl)|skip
  all_goals first |(have K:=K dl)|skip
  all_goals first |(have vy:=nD (vy dl))|skip
  all_goals first |(have vz:=nD (vz dl))|skip
  iterate 12 exact h.ae λB e=>⟨⟨x,true,rfl,rfl,λ_=>rfl⟩,e.fr⟩
  iterate 3 omega
  .refine eC (z h) D C λp N c=>⟨_,c.c0,ax (λhk=>?_) (λhk=>?_)⟩
   .refine eC (z h) D C λp N _=>h.ae λB e=>?_;have P:=gG (z e) D C N;refine⟨_,P.c1,eC (z e) S K λac G Q=>⟨_,Q.c1,e.av (pA _ B) ?_⟩⟩;rintro _ H rfl j;refine⟨_,_,_,rfl,j.ae λM q=>⟨⟨_,true,rfl,rfl,λ_=>?_⟩,q.fr⟩⟩;show _=if y.k=1 then _ else _;rw[ag hk]
   .refine eC (z h) D C λp N c'=>⟨_,_,_,c'.c0,c'.c1,c'.c2,h.ae λB e=>⟨⟨y,true,rfl,rfl,λ_=>?_⟩,e.fr⟩⟩;show _=if y.k=1 then _ else _;rw[ad hk]
  .refine eC (z h) D C λp N _=>h.ae λB e=>?_;have P:=gG (z e) D C N;refine⟨_,P.c1,eC (z e) D C λac G _=>?_⟩;have Q:=gG (z e) D C G;refine⟨_,Q.c1,e.av (fD _ B) ?_⟩;rintro _ H rfl j;refine⟨_,_,_,rfl,(gG (z j) D C G).c1,j.ae λM q=>⟨(gG (z q) D C G).c1,⟨_,_,rfl,?_,λ_=>?_⟩,q.fr⟩⟩
   .rw [bH _ io];rfl
   .show aZ _=aZ (x.n+y.n);rw[bH _ io]
  .refine h.ae λB e=>e.av (fD _ B) ?_;rintro _ H rfl j;have hr:jb ⟨21,kids,n,m,u,tx,st⟩ x y T=(ak (0<=m)&&ak (m<=n)&&ak (n<x.n)):=rfl;refine⟨_,_,_,rfl,aS (λJ=>aS (λg2=>j.ae λM q=>⟨⟨_,_,rfl,?_,λE=>?_⟩,q.fr⟩) (λg2=>j.ae λM q=>⟨⟨_,false,rfl,?_,λE=>by cases E⟩,q.fr⟩)) (λJ=>j.ae λM q=>⟨⟨_,false,rfl,?_,λE=>by cases E⟩,q.fr⟩)⟩
   .rw [hr,a6 (show 0<=m from J),a6 g2];rfl
   .have E:=fk E;show aZ _=aZ (n - m+1);rw[bH (n - m) io,bH _ io]
   .rw [hr,a7 g2,Bool.and_false];rfl
   .rw [hr,a7 (show ¬0<=m from J)];rfl
  iterate 2
   .refine h.ae λB e=>e.av (fD _ B) ?_;rintro _ H rfl j;have am:aE .i64 (64 - x.n)=64 - x.n:=bH _ io;rw[am];refine⟨_,_,_,rfl,aS (λJ=>j.ae λM q=>⟨⟨_,_,rfl,?_,λE=>?_⟩,q.fr⟩) (λJ=>j.ae λM q=>⟨⟨_,false,rfl,?_,λE=>by cases E⟩,q.fr⟩)⟩
    .show _=(ak (1<=n)&&ak (n<=64 - x.n));rw[a6 (show 1<=n from J)];rfl
    .have E:=fk E;show aZ _=aZ (x.n+n);rw[bH _ io]
    .show _=(ak (1<=n)&&ak (n<=64 - x.n));rw[a7 (show ¬1<=n from J)];rfl
  .refine h.av (Hf x A) ?_;rintro _ B rfl e;exact⟨_,_,_,rfl,e.ae λH j=>⟨⟨_,true,rfl,rfl,λ_=>rfl⟩,j.fr⟩⟩
  .exact h.ae λB e=>⟨⟨x,true,rfl,rfl,λ_=>rfl⟩,e.fr⟩
  .refine h.av (fD _ A) ?_;rintro _ B rfl e;exact⟨_,_,_,rfl,e.ae λH j=>⟨⟨_,true,rfl,rfl,λ_=>rfl⟩,j.fr⟩⟩
  .refine h.av (fD _ A) ?_;rintro _ B rfl e;exact⟨_,_,_,rfl,e.ae λH j=>⟨⟨_,true,rfl,rfl,λ_=>rfl⟩,j.fr⟩⟩
  .refine h.ae λB e=>e.av (fD _ B) ?_;rintro _ H rfl j;refine⟨_,_,_,rfl,aS (λJ=>j.ae λM q=>⟨⟨_,_,rfl,?_,λE=>rfl⟩,q.fr⟩) (λJ=>j.ae λM q=>⟨⟨_,false,rfl,?_,λE=>by cases E⟩,q.fr⟩)⟩
   .show _=(ak (0<=n)&&ak (n<=63));rw[a6 (show 0<=n from J)];rfl
   .show _=(ak (0<=n)&&ak (n<=63));rw[a7 (show ¬0<=n from J)];rfl
  .refine eC (z h) D C λp N _=>h.ae λB e=>?_;have P:=gG (z e) D C N;refine⟨_,P.c1,eC (z e) D C λac G _=>?_⟩;have Q:=gG (z e) D C G;refine⟨_,Q.c1,e.av (pA _ B) ?_⟩;rintro _ H rfl j;refine⟨_,_,_,rfl,(gG (z j) D C G).c1,j.ae λM q=>⟨(gG (z q) D C G).c1,⟨_,_,rfl,?_,λ_=>?_⟩,q.fr⟩⟩
   .rw [bH _ io];rfl
   .show e0 _=e0 (x.n+y.n);rw[bH _ io]
  .exact h.ae λB e=>⟨⟨x,true,rfl,rfl,λ_=>rfl⟩,e.fr⟩
  .refine h.av (fD _ A) ?_;rintro _ B rfl e;exact⟨_,_,_,rfl,e.ae λH j=>⟨⟨_,true,rfl,rfl,λ_=>rfl⟩,j.fr⟩⟩
  .refine eC (z h) S K λp N _=>h.ae λB e=>?_;have P:=gG (z e) S K N;refine⟨_,P.c1,eC (z e) S K λac G _=>?_⟩;have Q:=gG (z e) S K G;refine⟨_,Q.c1,e.av (pA _ B) ?_⟩;rintro _ H rfl j;refine⟨_,_,_,rfl,(gG (z j) S K G).c1,j.ae λM q=>⟨(gG (z q) S K G).c1,⟨_,_,rfl,?_,λ_=>?_⟩,q.fr⟩⟩
   .rw [bH _ io];rfl
   .show e0 _=e0 (x.n+T.n);rw[bH _ io]
  .omega
  .refine h.av (pA _ A) ?_;rintro _ B rfl e;exact⟨_,_,_,rfl,e.ae λH j=>⟨⟨_,true,rfl,rfl,λ_=>rfl⟩,j.fr⟩⟩
 have Z:∀A:I,(op=16\/op=17\/op=18\/op=33)->O F0 w A [.g b2,.g b4,.g b6] [vS k ks]->z0.aV b4 0 0 0 A λr Y=>CW ⟨op,kids,n,m,u,tx,st⟩ x y T r/\af w Y:=by
  intro A ho h;refine h.av (fD 1 A) ?_;rintro _ B rfl e;refine⟨_,_,_,rfl,e.ae λH j=>⟨⟨_,true,rfl,?_,λ_=>?_⟩,j.fr⟩⟩
  .rcases ho with rfl|rfl|rfl|rfl<;>rfl
  .rcases ho with rfl|rfl|rfl|rfl<;>rfl
 exact ax (λF=>aR (beq_iff_eq.2 F) (W.ae λA h=>Z A (.inl F) h)) λh1=>ax (λF=>aR (beq_iff_eq.2 F) (W.ae λA h=>Z A (.inr (.inl F)) h)) λh2=>ax (λF=>aR (beq_iff_eq.2 F) (W.ae λA h=>Z A (.inr (.inr (.inl F))) h)) λh3=>ax (λF=>W.ae λA h=>Z A (.inr (.inr (.inr F))) h) λan=>W.ae λA h=>S1 A h1 h2 h3 an h
def Yh:gg U aeW cd (.agg #[.int .i64 0,.int .i64 0,.int .i64 0]) 3 24:=⟨by kernel_rfl,by kernel_rfl,rfl,dl,dl⟩
def zf(t:ByteArray):Prop:=t.size<=100000/\uu (bl t)=some (mW t)
def zf.can{t:ByteArray}(d:zf t):uu (bl t)=some (mW t):=d.2
structure wu(d:Nx):Prop where
 kl:d.kids.length<=eG
 n:cE d.n
 m:cE d.m
 tx:d.op=33->zf d.tx
structure y4(g:List Nx):Prop where
 len:g.length<=eG
 val:∀d∈g,bx d.st=true
 vars:zg g
def ZP{l:List Nd}{n:Nx}{i:Nat}{k:Int}{e:Nd}(h:n.kids[i]? =some k)(d:l[k.toNat]? =some e):a8 (xs l) n i=e.x.st:=by unfold a8;rw[h];dsimp only;rw[pa d]
def acH(i:Nat)(f:Nat->aM):((List.range (i+1)).map f).flatMap g1=((List.range i).map f).flatMap g1++g1 (f i):=by rw[List.range_succ];simp
def ZK{op:Int}{m:Nat}(d:ck op=(m:Int))(e:m≠0):4<=op/\op<=34:=by
 unfold ck at d;split at d
 .omega
 .split at d
  .omega
  .omega
def ZM{op:Int}(d:ck op=0):0<=op/\op<=3:=by
 unfold ck at d;split at d
 .omega
 .split at d
  .omega
  .split at d
   .omega
   .split at d<;>omega
def YH{g:List Nx}{n:Nx}(d:oN g n=0):(ck n.op==(n.kids.length:Int)&&n.kids.all (dx g)&&fU n)=true:=by
 unfold oN at d;split at d
 .assumption
 .omega
def ZU{g:List Nx}{n:Nx}(k:∀h∈g,bx h.st=true)(j:n.kids.all (dx g)=true){i:Nat}(hi:i<n.kids.length):bx (a8 g n i)=true:=by
 have d:=dF.1 j _ (List.getElem_mem hi);unfold dx at d;simp only[bf,decide_eq_true_eq]at d;unfold a8;rw[a0 hi];dsimp only;have e:(n.kids[i]).toNat<g.length:=io
 rw[a0 e];exact k _ (List.getElem_mem e)
def JE{w:I}{s:Sl}{l:List Nd}{d:Nd}(j:GP w s l)(hd:d.P w)(hg:y4 (xs l))(W:wu d.x):
  ah U Ot #[s.v,d.v] w λr N=>r=gF (bo (xs l) d.x)/\af w N:=by
 have hn:=gz j;have aK:(xs l).length=l.length:=by simp[xs]
 have aM:d.ks.n=d.x.kids.length:=bJ.len hd;have hl:=hg.len;have hk:=W.kl;rw[aK]at hl;refine uJ.aq ((xv j hd).aw λb3 w1 H1=>H1.aw λJ w2 Z=>Z.av (WZ (bd.1 (Z.getD 0)) (Z.getD 1) hk) ?_);rintro _ w3 rfl G;refine⟨_,rfl,cq (λam=>G.ae λy h=>⟨?_,h.fr⟩) (λh0=>?_)⟩
 .unfold bo;unfold oN at am ⊢;split
  .rename_i q;rw[ag q]at am;exact absurd rfl am
  .rename_i q;rw[iu]at q;rw[q];rfl
 have M:=YH h0;have aG:ck d.x.op=(d.x.kids.length:Int):=by simp only[bf]at M;exact eq_of_beq M.1.1
 have ar:d.x.kids.all (dx (xs l))=true:=by simp only[bf]at M;exact M.1.2
 have A:bo (xs l) d.x=if d.x.op<=3 then b6 (xs l) d.x else
   if ek d.x.op (a8 (xs l) d.x 0) (a8 (xs l) d.x 1) (a8 (xs l) d.x 2)=false then(a5,9)else
   if jb d.x (a8 (xs l) d.x 0) (a8 (xs l) d.x 1) (a8 (xs l) d.x 2)=false then(a5,5)else
   if d.x.op=33/\mW d.x.tx=false then(a5,2)else(fX d.x (a8 (xs l) d.x 0) (a8 (xs l) d.x 1) (a8 (xs l) d.x 2),0):=by unfold bo;rw[M];rfl
 refine ax (λaH=>?_) (λaH=>?_)
 .have hz:=ZM (op:=d.x.op) io;refine G.av (W' (bd.1 (G.getD 0)) (G.getD 1) hl hz.1 hz.2 hg.vars) ?_;rintro _ y rfl h;refine⟨_,_,_,_,rfl,h.ae λY D=>⟨?_,D.fr⟩⟩;rw[A,ag hz.2]
 have S:=ZK (op:=d.x.op) aG io;rw[ad io]at A;unfold eG at hk hl;have loop:∀(m i:Nat) (E:Sl) (y:I),i+m=d.x.kids.length->O F0 w y [.g b3,.g J,.row cd 3 E (((List.range i).map (a8 (xs l) d.x)).flatMap g1)] (nj s l d)->
   uJ.aX s b3 d.x.op d.ks d.x.n d.x.m d.x.u d.x.tx d.x.st.k d.x.st.n d.x.st.x J 0 0 0 E (i:Int) y λr N=>r=gF (bo (xs l) d.x)/\af w N:=by
  intro m;induction m with
  |zero=>
   intro i E y hi h;have hi:i=d.x.kids.length:=io
   subst hi;have R4:bA 3 y E (((List.range d.x.kids.length).map (a8 (xs l) d.x)).flatMap g1):=(h.get 2:aJ _ _ _ _ _).a9;have F:∀B,B<d.x.kids.length->((List.range d.x.kids.length).map (a8 (xs l) d.x))[B]? =some (a8 (xs l) d.x B):=λB hj=>by rw[List.getElem?_map,List.getElem?_range hj];rfl
   have an:∀B,B<d.x.kids.length->bx (a8 (xs l) d.x B)=true:=λB hj=>ZU hg.val ar hj;refine uJ.bR (aT (a7 io) (h.av (W0 d.x.op R4 (F 0 io) (λh2=>F 1 io) (λh3=>F 2 io) S.1 S.2) ?_));rintro _ Y rfl D;refine⟨_,rfl,eS (λac=>D.ae λw6 H6=>⟨by rw[A,ag ac];rfl,H6.fr⟩) (λac=>?_)⟩;rw[ad (by rw[ac];simp)]at A;have R5:bA 3 Y E (((List.range d.x.kids.length).map (a8 (xs l) d.x)).flatMap g1):=(D.get 2:aJ _ _ _ _ _).a9;refine D.av (Xp d R5 (F 0 io) (λh2=>F 1 io) (λh3=>F 2 io) S.1 S.2 (an 0 io) (λh2=>an 1 io) (λh3=>an 2 io) W.n W.m) ?_;rintro _ w6 ⟨t,b,rfl,K,ht⟩ H6;refine⟨_,_,_,_,rfl,H6.aw λaa w7 H7=>eS (λaA=>H7.ae λC z=>⟨?_,z.fr⟩) (λap=>?_)⟩
   .rw [A,ag (by rw[<-K,aA])];rfl
   rw[ad (by rw[<-K,ap];simp)]at A;have ht:=ht ap;have S1:∀(c:Bool) (C:I) (L:List En),(d.x.op=33/\mW d.x.tx=false↔c=false)->En.g J∈L->En.g aa∈L->O F0 w C L (nj s l d)->uJ.bg J 0 0 0 aa t.k t.n t.x c C λr N=>r=gF (bo (xs l) d.x)/\af w N:=by
    intro c C L q m4 aL z;have ao:∀b∈[J,aa],En.g b∈L:=by
     intro b K;simp only[aF,aW,a2]at K;rcases K with rfl|rfl
     .exact m4
     .exact aL
    refine eS (λaB=>z.ae (λw9 H=>⟨?_,H.fr⟩) ao) (λaC=>z.ae (λw9 H=>⟨?_,H.fr⟩) ao)
    .rw [A,ag (q.2 aB)];rfl
    .rw [A,ad (λj=>by rw[aC]at q;cases q.1 j),ht]
   refine cq (λQ=>H7.ae λC z=>S1 true C _ ⟨λj=>absurd j.1 Q,λj=>by cases j⟩ us us z) (λQ=>H7.ae λC z=>?_);have az:=W.tx Q;refine z.av (WA d.x.tx az.1 _ az.can C) ?_;rintro _ w9 rfl H;exact⟨_,rfl,S1 _ w9 _ ⟨λj=>j.2,λj=>⟨Q,j⟩⟩ us us H⟩
  |succ m ih=>
   intro i E y hi h;have T:d.x.kids[i]? =some (d.x.kids[i]'io):=a0 io;have aj:=dF.1 ar _ (ay T);generalize d.x.kids[i]'io=kx at T aj;unfold dx at aj;simp only[bf,decide_eq_true_eq]at aj;have ai:l[kx.toNat]? =some (l[kx.toNat]'io):=a0 io;generalize l[kx.toNat]'io=e at ai;have aI:bJ y d.ks d.x.kids:=h.getD 1;have aN:=Nd.cw (show bA 9 y s (l.flatMap Nd.c)from(bd.1 (h.getD 0)).1);refine uJ.bR (aR (a6 io) ⟨io,io,aI.cell T io λp hp q=>⟨kx,q,eJ (bd.1 (h.getD 0)) (i:=kx.toNat) io ai λaO hq c=>⟨_,_,_,c.s0,c.s1,c.s2,?_⟩⟩⟩);have hlen:E.n=i:=by have:=(h.get 2:aJ _ _ _ _ _).len;rw[TW]at this;simp at this;omega
   refine h.jo 2 Yh rfl (λs' Y D=>?_) io;rw[bt _ io];refine ih (i+1) s' Y io ?_;rw[acH,ZP T ai];exact D
 exact loop d.x.kids.length 0 ⟨none,0,0⟩ w3 io (G.iH cd 3)
def mr(k:Nat):Rx:=EN (e6 (k%6)) (e6 (k / 6%6)) (e6 (k / 36%6)) (k / 216%8)
def QO(k:Nat):Bool:=cU (mr k)&&Nat.ble (mr k).sz 1000&&i7 (dR (mr k))&&Nat.ble (dR (mr k)).sz 1000
def abO:(List.range 1728).all QO=true:=by kernel_rfl
def LY(k:Nat):mr k=mr (k%1728):=by unfold mr;rw[show k%1728%6=k%6 by omega,show k%1728 / 6%6=k / 6%6 by omega,show k%1728 / 36%6=k / 36%6 by omega,show k%1728 / 216%8=k / 216%8 by omega]
def aeD(k:Nat):cU (mr k)=true/\(mr k).sz<=1000/\i7 (dR (mr k))=true/\(dR (mr k)).sz<=1000:=by rw[LY];have:=dF.1 abO (k%1728) (List.mem_range.2 (Nat.mod_lt _ io));unfold QO at this;simp only[bf]at this;exact⟨this.1.1.1,Nat.le_of_ble_eq_true this.1.1.2,this.1.2,Nat.le_of_ble_eq_true this.2⟩
def UL(k:Nat):lZ k=a' (dR (mr k)):=rfl
def Ia(k:Nat):lZ k=lZ (k%1728):=by rw[UL,UL,LY]
def Z':(List.range 1728).all (λd=>Nat.ble (lZ d).length 64)=true:=by kernel_rfl
def aeC(k:Nat):(lZ k).length<=64:=by rw[Ia];exact Nat.le_of_ble_eq_true (dF.1 Z' (k%1728) (List.mem_range.2 (Nat.mod_lt _ io)))
end Go.Proofs.YtkbmpalepmakmaaGreatDoor
end
