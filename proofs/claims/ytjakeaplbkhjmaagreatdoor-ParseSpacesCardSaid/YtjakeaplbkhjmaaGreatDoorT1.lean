import Derived.Test.YtjakeaplbkhjmaaGreatDoorN0
import Derived.Test.YtjakeaplbkhjmaaGreatDoorVP
import Derived.Test.YtjakeaplbkhjmaaGreatDoorU
set_option linter.unusedVariables false
set_option linter.defProp false
set_option maxRecDepth 100000
noncomputable section
namespace Go.Proofs.YtjakeaplbkhjmaaGreatDoor
open Go renaming World->J,Calls->aj,Value->V,TypeId->aE,Ending->cR
open Go.IntKind renaming wrap->aD
open _root_.Int renaming toNat->aZ,toNat_natCast->bG
open _root_.ByteArray renaming mk->a8
open Go.IntWalk renaming i64_in->br
open Go.Builtin renaming append_->hX
open _root_.Bool renaming and_eq_true->be,not_eq_true->ij
open _root_.Nat renaming le_refl->bm,le_trans->bD,beq->bH
open _root_.UInt8 renaming ofNat->ei
open _root_.Prod.mk renaming injEq->fk
open _root_.Option.some renaming injEq->fo
open Go.Proofs.Tryz renaming prog->U
open _root_.Decidable renaming decide->ai
open Go.Ending renaming returned->ad
open List renaming mem_append->aK,mem_cons->aF,not_mem_nil->a5,mem_of_getElem?->aA,getElem?_eq_getElem->a0,getElem?_eq_some_iff->cq,length_append->bb,length_cons->bx,length_nil->eU,drop_eq_getElem_cons->dy,all_eq_true->cY,getElem_mem->As,drop_of_length_le->dw
open Go Go.W
def gN{s:ByteArray}{i:Nat}(d:i<s.size):s[i]? =some (gQ (bl s) i):=by rw[getElem?_pos s i d];unfold gQ;rw[List.getD_eq_getElem?_getD,a0 (show i<(bl s).length by rw[cZ];exact d)];rfl
def yd{x:UInt8}{n:Nat}{A d:Prop}(q:n<256)(h:(x==ei n)=true->A)(j:(x==ei n)=false->d):bB ((x.toNat:Int)==(n:Int)) A d:=by
 have k:x.toNat=n↔x=ei n:=by rw[<-UInt8.toNat_inj,UInt8.toNat_ofNat'];omega
 refine aw (λe=>h (by grind)) (λe=>j (by grind))
def yc{x:UInt8}{n:Nat}{A d:Prop}(q:n<256)(h:(x==ei n)=false->A)(j:(x==ei n)=true->d):bB ((x.toNat:Int) !=(n:Int)) A d:=by
 have k:x.toNat=n↔x=ei n:=by rw[<-UInt8.toNat_inj,UInt8.toNat_ofNat'];omega
 refine cz (λe=>h (by grind)) (λe=>j (by grind))
def HS{p:UInt8->Prop}(d:∀e:Fin 256,p (ei e.val))(c:UInt8):p c:=by have:=d ⟨c.toNat,c.toNat_lt⟩;simpa using this
def V8:∀n:Fin 16,(a8 #[48,49,50,51,52,53,54,55,56,57,97,98,99,100,101,102])[n.val]? =some (iX n.val):=by decide+kernel
def CB(n:Nat)(d:n<16)(w:J):aj U MD #[.i (n:Int)] w λr e=>r=ad (.int .u8 ((iX n).toNat:Int))/\ag w e:=
 JM.ok ⟨io,_,V8 ⟨n,d⟩,rfl,Fr.refl _ _⟩
def IU(c:UInt8)(w:J):aj U MJ #[.int .u8 (c.toNat:Int)] w λr q=>r=ad (.bool (om c))/\ag w q:=by
 refine JQ.ok (aY (λj=>aY (λk=>yc (n:=39) io (λe=>⟨?_,Fr.refl _ _⟩) (λe=>⟨?_,Fr.refl _ _⟩)) (λk=>⟨?_,Fr.refl _ _⟩)) (λj=>⟨?_,Fr.refl _ _⟩))
 .have d:((c.toNat:Int) !=92)= !(c==92):=by
   have:=@yc c 92 ((((c.toNat:Int) !=92)=true)/\(c==92)=false) ((((c.toNat:Int) !=92)=false)/\(c==92)=true);cases x:((c.toNat:Int) !=92)with
   |true=>
    have h:c≠92:=λd=>by subst d;grind
    grind
   |false=>
    have h:c=92:=by
     rw[<-UInt8.toNat_inj]
     grind
    grind
  rw[d];unfold om
  grind
 .have e:(c==39)=true:=e;unfold om
  grind
 .unfold om
  grind
 .unfold om
  grind
def Zr:∀n:Fin 16,i6 (iX n.val)=(n.val:Int):=by decide+kernel
def Zt:∀d:Fin 256,i6 (ei d.val)=-1\/∃n:Fin 16,iX n.val=ei d.val:=by decide+kernel
def Zs:∀d:Fin 256,i6 (ei d.val)<16:=by decide+kernel
def yK(c:UInt8)(w:J):aj U MI #[.int .u8 (c.toNat:Int)] w λr j=>r=ad (.int .i64 (i6 c))/\ag w j:=by
 have loop:∀(d i:Nat) (e:J),i+d=16->(∀h,h<i->iX h≠c)->ag w e->wk.L0 c.toNat (i:Int) e λr j=>r=ad (.int .i64 (i6 c))/\ag w j:=by
  intro d;induction d with
  |zero=>
   intro i e x y f;refine wk.cr (aW (aS io) ⟨?_,f⟩);have:=HS (p:=λc=>i6 c=-1\/∃n:Fin 16,iX n.val=c) Zt c
   grind
  |succ d z=>
   intro i e x y f;refine wk.cr (aU (aQ io) ((CB i io e).mono ?_));rintro _ A ⟨rfl,k⟩;refine⟨_,rfl,aw (λq=>⟨?_,f.g' k⟩) (λq=>?_)⟩
   .have B:iX i=c:=by rw[<-UInt8.toNat_inj];omega
    have:=Zr ⟨i,io⟩
    grind
   .rw [bp _ io];refine z (i+1) A io (λh C=>?_) (f.g' k)
    grind
 exact wk.ok (loop 16 0 w io (λh q=>io) (Fr.refl _ _))
def Ai(x:UInt8×Nat):cR:=ad (.tuple #[.int .u8 (x.1.toNat:Int),.i (x.2:Int)])
def Zv:∀d e:Fin 16,aD .u8 (aD .i64 ((aD .i64 (16 *(d.val:Int)))+(e.val:Int)))=((ei ((16 *(d.val:Int)+(e.val:Int)).toNat)).toNat:Int):=by decide+kernel
def O8{c:UInt8}(e:0<=i6 c):∃d:Fin 16,i6 c=(d.val:Int):=by have:=HS (p:=λc=>i6 c<16) Zs c;exact⟨⟨(i6 c).toNat,io⟩,by grind⟩
def CA(s:ByteArray)(i:Nat)(hi:i<=1000000)(w:J):aj U MC #[.string s,.i (i:Int)] w λr d=>r=Ai (h6 (bl s) i)/\ag w d:=by
 have x:aD .i64 ((i:Int)+1)=((i+1:Nat):Int):=by rw[br _ io];omega
 have y:aD .i64 ((i:Int)+2)=((i+2:Nat):Int):=by rw[br _ io];omega
 have z:aD .i64 ((i:Int)+3)=((i+3:Nat):Int):=by rw[br _ io];omega
 have E:aD .i64 ((i:Int)+4)=((i+4:Nat):Int):=by rw[br _ io];omega
 have T:(bl s).length=s.size:=cZ s;have no:∀d,ag w d->h6 (bl s) i=(0,0)->wj.S1 d (λr d=>r=Ai (h6 (bl s) i)/\ag w d):=λd f B=>⟨by rw[B];rfl,f⟩;have st:∀d,ag w d->(ai (i+3<=(bl s).length)&&gQ (bl s) i==39&&gQ (bl s) (i+2)==39&&om (gQ (bl s) (i+1)))=false->wj.S0 s (i:Int) d (λr d=>r=Ai (h6 (bl s) i)/\ag w d):=by
  intro d f W;have D:(ai (i+4<=(bl s).length)&&gQ (bl s) i==92&&gQ (bl s) (i+1)==120&&ai (0<=i6 (gQ (bl s) (i+2)))&&ai (0<=i6 (gQ (bl s) (i+3))))=false->∀d,ag w d->wj.S1 d (λr d=>r=Ai (h6 (bl s) i)/\ag w d):=λB d f=>no d f (by
   unfold h6
   grind)
  show bB _ _ _;rw[E,z,y,x];refine aY (λL=>⟨io,_,gN (i:=i) io,yd (n:=92) io (λe=>⟨io,_,gN (i:=i+1) io,yd (n:=120) io (λh=>⟨io,_,gN (i:=i+2) io,(yK _ d).mono ?_⟩) (λh=>?_)⟩) (λe=>?_)⟩) (λL=>?_)
  rotate_left
  .grind
  .grind
  .grind
  rintro _ k ⟨rfl,j⟩;refine⟨_,rfl,aY (λM=>⟨io,_,gN (i:=i+3) io,(yK _ k).mono ?_⟩) (λM=>D (by grind) k (f.g' j))⟩;rintro _ q ⟨rfl,A⟩;refine⟨_,rfl,aY (λO=>?_) (λO=>D (by grind) q ((f.g' j).g' A))⟩;have G:ag w q.drew:=((f.g' j).g' A).g' (Fr.drew _ _);refine(show tI q _ from ?_);refine⟨io,_,gN (i:=i+2) io,io,_,gN (i:=i+3) io,(yK _ _).mono ?_⟩;rintro _ Y ⟨rfl,H⟩;refine⟨_,rfl,(yK _ _).mono ?_⟩;rintro _ Z ⟨rfl,I⟩;refine⟨_,rfl,?_,(G.g' H).g' I⟩;have e:(gQ (bl s) i==92)=true:=e;have h:(gQ (bl s) (i+1)==120)=true:=h;have F:h6 (bl s) i=(ei ((16 *i6 (gQ (bl s) (i+2))+i6 (gQ (bl s) (i+3))).toNat),4):=by
   unfold h6
   grind
  rw[F];obtain⟨Q,N⟩:=O8 (c:=gQ (bl s) (i+2)) io;obtain⟨S,P⟩:=O8 (c:=gQ (bl s) (i+3)) io;rw[N,P,Zv Q S];rfl
 refine wj.ok ?_;rw[z,y,x];refine aY (λK=>⟨io,_,gN (i:=i) io,yd (n:=39) io (λe=>⟨io,_,gN (i:=i+2) io,yd (n:=39) io (λh=>⟨io,_,gN (i:=i+1) io,(IU _ w).mono ?_⟩) (λh=>?_)⟩) (λe=>?_)⟩) (λK=>?_)
 rotate_left
 .exact st w (Fr.refl _ _) (by grind)
 .exact st w (Fr.refl _ _) (by grind)
 .exact st w (Fr.refl _ _) (by grind)
 rintro _ k ⟨rfl,j⟩;refine⟨_,rfl,bq (λC=>⟨io,_,gN (i:=i+1) io,?_,j⟩) (λC=>st k j (by grind))⟩;have e:(gQ (bl s) i==39)=true:=e;have h:(gQ (bl s) (i+2)==39)=true:=h;unfold h6;rw[e,h,C,aQ (show i+3<=(bl s).length by omega)];rfl
def Cl(s:BL)(i:Nat):(h6 s i).2<=4/\(0<(h6 s i).2->i+(h6 s i).2<=s.length):=by
 unfold h6
 grind
def Gl(g:BY):cR:=ad (.tuple #[.agg #[.i (g.k:Int),.int .u8 (g.lo.toNat:Int),.int .u8 (g.hi.toNat:Int),.slice none 0 0],.i (g.n:Int)])
def Qq(s:BL)(i:Nat):i+(kF s i).n<=s.length\/(kF s i).n=0:=by
 unfold kF;simp only;have d:=Cl s i;split
 .grind
 .split
  .exact .inr rfl
  .split
   .exact .inr rfl
   .split
    .exact .inr rfl
    grind
def Vd(s:ByteArray)(Z:s.size<=100000)(i:Nat)(hi:i<s.size)(w:J):aj U ML #[.string s,.i (i:Int)] w λr w'=>r=Gl (kF (bl s) i)/\ag w w':=by
 have Y:(bl s).length=s.size:=cZ s;refine tM.aq ((bT [] gs).ax λb T G=>G.av (CA s i io T) ?_);rintro _ W rfl B;refine⟨_,_,rfl,aY (λQ=>B.ae λe d=>⟨?_,d.fr⟩) (λQ=>⟨io,_,gN (i:=i) hi,yc (n:=91) io (λh=>B.ae λe d=>⟨?_,d.fr⟩) (λh=>?_)⟩)⟩
 .unfold kF;simp only;rw[af io];rfl
 .have h:(gQ (bl s) i==91)=false:=h;unfold kF;simp only;rw[aa io,af (beq_eq_false_iff_ne.1 h)];rfl
 have h:gQ (bl s) i=91:=eq_of_beq h;rw[bp _ io];refine B.av (CA s (i+1) io W) ?_;rintro _ e rfl d;have I:=Cl (bl s) (i+1);have bad:∀(w':J),O F0 w w' [.g b] []->kF (bl s) i=r1->tM.bh b 0 0 0 ⟨none,0,0⟩ w' λr w'=>r=Gl (kF (bl s) i)/\ag w w':=λw' z E=>z.ae λS A=>⟨by rw[E];rfl,A.fr⟩;have x:∀(w':J),O F0 w w' [.g b] []->kF (bl s) i=r1->tM.cF b 0 0 0 ⟨none,0,0⟩ w' λr w'=>r=Gl (kF (bl s) i)/\ag w w':=λw' z E=>z.ae λS A=>⟨by rw[E];rfl,A.fr⟩;have k:kF (bl s) i=(let a:=h6 (bl s) (i+1)
   let dash:=i+1+a.2
   if a.2=0\/(bl s).length<=dash\/gQ (bl s) dash≠45 then r1 else
   let c:=h6 (bl s) (dash+1)
   let fin:=dash+1+c.2
   if c.2=0\/(bl s).length<=fin\/gQ (bl s) fin≠93\/c.1.toNat<a.1.toNat then r1 else⟨2,a.1,c.1,fin+1 - i⟩):=by
  conv=>lhs;unfold kF
  grind
 simp only at k;generalize h6 (bl s) (i+1)=a at I k;refine⟨_,_,rfl,?_⟩;have M:aD .i64 (((i+1:Nat):Int)+(a.2:Int))=((i+1+a.2:Nat):Int):=by rw[br _ io];omega
 show tM.a1 s (i:Int) b 0 0 0 ⟨none,0,0⟩ (a.1.toNat:Int) (a.2:Int) (aD .i64 (((i+1:Nat):Int)+(a.2:Int))) e _;rw[M];refine aw (λC=>bad e d (by grind)) (λC=>aY (λD=>bad e d (by grind)) (λD=>⟨io,_,gN (i:=i+1+a.2) io,yc (n:=45) io (λy=>bad e d (by grind)) (λy=>?_)⟩));have y:gQ (bl s) (i+1+a.2)=45:=eq_of_beq y;rw[aa (by grind)]at k;rw[bp _ io];refine d.av (CA s (i+1+a.2+1) io e) ?_;rintro _ q rfl j;have K:=Cl (bl s) (i+1+a.2+1);generalize h6 (bl s) (i+1+a.2+1)=c at K k;refine⟨_,_,rfl,?_⟩;have P:aD .i64 (((i+1+a.2+1:Nat):Int)+(c.2:Int))=((i+1+a.2+1+c.2:Nat):Int):=by rw[br _ io];omega
 show tM.bC s (i:Int) b 0 0 0 ⟨none,0,0⟩ (a.1.toNat:Int) (c.1.toNat:Int) (c.2:Int) (aD .i64 (((i+1+a.2+1:Nat):Int)+(c.2:Int))) q _;rw[P];refine aw (λC=>x q j (by grind)) (λC=>aY (λD=>x q j (by grind)) (λD=>⟨io,_,gN (i:=i+1+a.2+1+c.2) io,yc (n:=93) io (λy=>x q j (by grind)) (λF=>aY (λL=>x q j (by grind)) (λL=>j.ae λw5 H=>⟨?_,H.fr⟩))⟩));have F:gQ (bl s) (i+1+a.2+1+c.2)=93:=eq_of_beq F;rw[k,aa (by grind)];have N:aD .i64 ((aD .i64 (((i+1+a.2+1+c.2:Nat):Int)+1)) - (i:Int))=((i+1+a.2+1+c.2+1 - i:Nat):Int):=by rw[bp _ io,br _ io];omega
 rw[N];rfl
def dF.c(t:dF):List V:=[.string (ba t.tx),.i (t.at_:Int),.i (t.k:Int),.int .u8 (t.lo.toNat:Int),.int .u8 (t.hi.toNat:Int),.slice none 0 0]
def SJ(t:dF):t.c.length=6:=rfl
def SK(l:List dF)(t:dF):l.flatMap dF.c++t.c=(l++[t]).flatMap dF.c:=gs
def xW{w:J}{s:Sl}{l:List dF}(d:bo 6 w s (l.flatMap dF.c)):s.n=l.length:=by have:=d.1;rw[o1 dF.c 6 SJ]at this;omega
def JA:fQ U Bj pM (.agg #[.s0,.i 0,.i 0,.int .u8 0,.int .u8 0,.slice none 0 0]) 6 64:=⟨by kernel_rfl,by kernel_rfl,rfl,dl,dl⟩
def HG(w:J)(l:List dF)(r:cR)(w':J):Prop:=∃d:Sl,r=ad d.v/\aL w' pM 6 d (l.flatMap dF.c)/\∀e∈aR d,w.heap.size<=e
def Cg(s:ByteArray)(i j:Nat):s.extract i j=ba (((bl s).take j).drop i):=by
 have:bl (s.extract i j)=((bl s).take j).drop i:=by unfold bl;rw[ByteArray.data_extract,Array.toList_extract,List.extract_eq_take_drop];rw[List.drop_take]
 rw[<-this,kZ]
def LM(c:UInt8){A d:Prop}(h:eG c=true->A)(e:eG c=false->d):bB (ai ((c.toNat:Int)>=97)) (bB (ai ((c.toNat:Int)<=122)) A d) d:=
 aY (λj=>aY (λk=>h (by unfold eG;grind)) (λk=>e (by unfold eG;grind))) (λj=>e (by unfold eG;grind))
def Rg(s:BL)(i:Nat):∀(f n:Nat),i+n<=s.length->n<=ow s i f n/\i+ow s i f n<=s.length
 |0,n,d=>⟨bm _,d⟩
 |f+1,n,d=>by
  unfold ow;split
  .rename_i e;simp only[be,decide_eq_true_eq]at e;have:=Rg s i f (n+1) io;omega
  omega
def UL(s:ByteArray)(hs:s.size<=100000)(w:J):aj U MA #[.string s] w λr F=>HG w (nH (bl s)) r F/\ag w F:=by
 have hl:(bl s).length=s.size:=cZ s
 let j:aB:=λr F=>HG w (nH (bl s)) r F/\ag w F
 have fin:∀(acc:List dF) (sl:Sl) (q:J),acc.length<=s.size->nH (bl s)=acc++[⟨[],(bl s).length,0,0,0⟩]->O F0 w q [.row pM 6 sl (acc.flatMap dF.c)] []->
   c9 q (.cells #[.s0,.i (s.size:Int),.i 0,.int .u8 0,.int .u8 0,.slice none 0 0] pM) λw7=>
 ∃(t81:Sl) (Y:J),Sem.run U (hX #[Bj,Bj] Bj #[sl.v,.slice (some (nb q)) 1 1]) w7=.ok (t81.v) Y/\j (ad (t81.v)) Y:=by intro acc sl q ha h A;have ah:=xW (A.get 0:aL _ _ _ _ _).a2;refine A.q4 0 JA rfl (λN w2 D _ _=>⟨⟨N,rfl,?_,λak hx=>(D.new _ (aA (i:=0) rfl) ak hx).resolve_right id⟩,D.fr⟩) io;rw[h,<-SK];exact D.get 0
 have loop:∀(f i:Nat) (acc:List dF) (sl:Sl) (q:J),s.size<f+i->i<=s.size->acc.length<=i->nH (bl s)=acc++pK (bl s) f i->O F0 w q [.row pM 6 sl (acc.flatMap dF.c)] []->kj.a4 s sl (i:Int) q j:=by
  intro f;induction f with
  |zero=>omega
  |succ f S=>
   intro i acc sl q hf an am h A;refine kj.bR (aY (λab=>⟨io,_,gN (i:=i) io,?_⟩) (λab=>fin acc sl q io (by rw[h];unfold pK;grind) A))
   unfold pK at h;rw[aa io]at h;refine yd (n:=32) io (λz=>?_) (λz=>?_)
   .have z:gQ (bl s) i=32:=eq_of_beq z;rw[af z]at h;rw[bp _ io];exact S (i+1) acc sl q io io io h A
   have z:gQ (bl s) i≠32:=beq_eq_false_iff_ne.1 z;rw[aa z]at h;simp only at h;refine A.call (Vd s hs i io q) ?_;rintro _ w2 rfl D;have B:=Qq (bl s) i;generalize kF (bl s) i=g at h B;refine⟨_,_,_,⟨none,0,0⟩,_,rfl,D.ax λb w3 G=>?_⟩;have G:O F0 w w3 [.row pM 6 sl (acc.flatMap dF.c),.g b] []:=G;have one:∀(n:Nat) (C:J),1<=n->i+n<=s.size->nH (bl s)=acc++⟨((bl s).take (i+n)).drop i,i,g.k,g.lo,g.hi⟩::pK (bl s) f (i+n)->O F0 w C [.row pM 6 sl (acc.flatMap dF.c),.g b] []->
     kj.bC s sl (i:Int) b (g.k:Int) (g.lo.toNat:Int) (g.hi.toNat:Int) ⟨none,0,0⟩ (n:Int) C j:=by
    intro n C K I Q H;show(0:Int)<=_/\_;have E:aD .i64 ((i:Int)+(n:Int))=((i+n:Nat):Int):=by rw[br _ io];omega
    rw[E,bG,bG,Cg];refine⟨io,io,io,io,H.ae λd x=>?_⟩;have ah:=xW (x.get 0:aL _ _ _ _ _).a2;refine x.jn 0 JA rfl (λN w6 Z=>?_) io;refine S (i+n) (acc++[⟨((bl s).take (i+n)).drop i,i,g.k,g.lo,g.hi⟩]) N w6 io io (by grind) (by grind) ?_;rw[<-SK];exact Z.take 1
   refine aw (λL=>G.ae λC H=>?_) (λL=>G.ae λC H=>one g.n C io io (by grind) H);have L:g.n=0:=io
   rw[af L]at h;have word:∀(e n:Nat) (d:J),s.size<=e+(i+n)->1<=n->i+n<=s.size->ow (bl s) i (bl s).length 1=ow (bl s) i e n->O F0 w d [.row pM 6 sl (acc.flatMap dF.c),.g b] []->
     kj.cu s sl (i:Int) b (g.k:Int) (g.lo.toNat:Int) (g.hi.toNat:Int) ⟨none,0,0⟩ (n:Int) d j:=by
    intro e;induction e with
    |zero=>
     intro n d Q K I B x;have stop:kj.bC s sl (i:Int) b (g.k:Int) (g.lo.toNat:Int) (g.hi.toNat:Int) ⟨none,0,0⟩ (n:Int) d j:=one n d K I (by rw[h,B];rfl) x;have E:aD .i64 ((i:Int)+(n:Int))=((i+n:Nat):Int):=by rw[br _ io];omega
     refine kj.dQ ?_;rw[E];refine⟨io,_,gN (i:=i) io,bq (λ_=>⟨io,_,gN (i:=i) io,bq (λ_=>aW (aS io) stop) (λ_=>stop)⟩) (λ_=>stop)⟩
    |succ e ac=>
     intro n d Q K I B x;have E:aD .i64 ((i:Int)+(n:Int))=((i+n:Nat):Int):=by rw[br _ io];omega
     have stop:(eG (gQ (bl s) i)&&ai (i+n<(bl s).length)&&eG (gQ (bl s) (i+n)))=false->kj.bC s sl (i:Int) b (g.k:Int) (g.lo.toNat:Int) (g.hi.toNat:Int) ⟨none,0,0⟩ (n:Int) d j:=λy=>one n d K I (by
      rw[h,B];conv=>lhs;unfold ow
      rw[y];rfl) x
     refine kj.dQ ?_;rw[E];refine⟨io,_,gN (i:=i) io,?_⟩;have go:eG (gQ (bl s) i)=true->bB (ai (((i+n:Nat):Int)<(s.size:Int))) ((0:Int)<=((i+n:Nat):Int)/\∃T:UInt8,s[aZ ((i+n:Nat):Int)]? =some T/\bB (ai ((T.toNat:Int)>=97)) ((0:Int)<=((i+n:Nat):Int)/\∃W:UInt8,s[aZ ((i+n:Nat):Int)]? =some W/\bB (ai ((W.toNat:Int)<=122)) (kj.cu s sl (i:Int) b (g.k:Int) (g.lo.toNat:Int) (g.hi.toNat:Int) ⟨none,0,0⟩ (aD .i64 ((n:Int)+1)) d j) (kj.bC s sl (i:Int) b (g.k:Int) (g.lo.toNat:Int) (g.hi.toNat:Int) ⟨none,0,0⟩ (n:Int) d j)) (kj.bC s sl (i:Int) b (g.k:Int) (g.lo.toNat:Int) (g.hi.toNat:Int) ⟨none,0,0⟩ (n:Int) d j)) (kj.bC s sl (i:Int) b (g.k:Int) (g.lo.toNat:Int) (g.hi.toNat:Int) ⟨none,0,0⟩ (n:Int) d j):=by
      intro h1;refine aY (λh2=>⟨io,_,gN (i:=i+n) io,?_⟩) (λh2=>stop (by grind));have key:eG (gQ (bl s) (i+n))=true->kj.cu s sl (i:Int) b (g.k:Int) (g.lo.toNat:Int) (g.hi.toNat:Int) ⟨none,0,0⟩ (aD .i64 ((n:Int)+1)) d j:=λP=>by
       rw[bp _ io];refine ac (n+1) d io io io ?_ x;rw[B];conv=>lhs;unfold ow
       grind
      have M:eG (gQ (bl s) (i+n))=false->_:=λP=>stop (by grind);have y:=LM (gQ (bl s) (i+n)) key M;exact Ru y (λy=>⟨io,_,gN (i:=i+n) io,y⟩) id
     have M:eG (gQ (bl s) i)=false->_:=λP=>stop (by grind);exact Ru (LM (gQ (bl s) i) go M) (λy=>⟨io,_,gN (i:=i) io,y⟩) id
   grind
 refine kj.aq ?_;exact loop (s.size+1) 0 [] ⟨none,0,0⟩ w io io gs (by unfold nH;grind) ((bT [] gs).hP pM 6)
abbrev Qr(s:Sl)(st:bJ):List V:=[s.v,.i (st.1:Int),.bool st.2]
abbrev cP(d:Nat)(s:Sl)(st:bJ):En:=.c d (Qr s st) SU
abbrev cW(s:Sl)(l:List dF):En:=.a2 6 s (l.flatMap dF.c)
abbrev SA(e:Nat)(s:Sl)(w:J)(A:aB)(st:bJ):aB:=λr d=>(A r d/\d.heap[e]? =some (.cells (Qr s st).toArray SU (0,0)))/\Fr (·=e) w d
abbrev ji(d:Nat)(s:Sl)(l:List dF)(st:bJ)(w:J):Prop:=O (·=d) w w [cP d s st] [cW s l]
def _root_.Go.W.O.gu{M:Nat->Prop}{w0 w:J}{L D:List En}{h:Nat}{s:Sl}{l:List dF}{st:bJ}(H:O M w0 w (cP h s st::L) (cW s l::D)):ji h s l st w:=
 O.pD _ _ (by
  intro k d;simp only[aF,a5,a9]at d;subst d;exact⟨H.get 0,λb e=>q9.1 e⟩) (by
  simp only[List.flatMap_cons,List.flatMap_nil,List.append_nil];exact(cP h s st).nd) (by
  intro k d;simp only[aF,a5,a9]at d;subst d;exact⟨H.getD 0,λb e q j=>by simp only[aF,a5,a9]at j;subst j;exact H.dj _ List.mem_cons_self b e _ List.mem_cons_self⟩)
structure HJ(w:J)(p:Addr)(i:Nat)(t:dF):Prop where
 c0:w.cell? ((p.add (i *6)).add 0)=some (.string (ba t.tx))
 c1:w.cell? ((p.add (i *6)).add 1)=some (.i (t.at_:Int))
 c2:w.cell? ((p.add (i *6)).add 2)=some (.i (t.k:Int))
 c3:w.cell? ((p.add (i *6)).add 3)=some (.int .u8 (t.lo.toNat:Int))
 c4:w.cell? ((p.add (i *6)).add 4)=some (.int .u8 (t.hi.toNat:Int))
 c5:w.cell? ((p.add (i *6)).add 5)=some (.slice none 0 0)
def xX{w:J}{s:Sl}{l:List dF}(e:bo 6 w s (l.flatMap dF.c)){i:Nat}(hi:i<l.length){K:Addr->Prop}(j:∀p,s.a=some p->HJ w p i (fP l i)->K p):dv s.a K:=by
 have h:l[i]? =some (fP l i):=by unfold fP;rw[List.getD_eq_getElem?_getD,a0 hi];rfl
 exact fq.elem (f:=dF.c) (sz:=6) SJ io e.2.2 h λp k d=>j p k ⟨d 0 _ rfl,d 1 _ rfl,d 2 _ rfl,d 3 _ rfl,d 4 _ rfl,d 5 _ rfl⟩
def jP(l:List dF):Prop:=0<l.length/\(fP l (l.length - 1)).tx=[]/\(fP l (l.length - 1)).k=0
section
variable {pb:Nat} {s:Sl} {l:List dF} {st:bJ} {w:J}
def CC(H:ji pb s l st w)(hi:st.1<l.length):aj U MO #[.pointer (some (ab pb))] w λr q=>r=ad (.string (ba (fj l st)))/\ag w q:=by
 have k:st.2=true->fj l st=[32]:=λe=>by unfold fj;rw[e];rfl
 have j:st.2=false->fj l st=(fP l st.1).tx:=λe=>by unfold fj;rw[e];rfl
 generalize fj l st=u at k j;refine JU.ok ⟨st.2,H.ld 0 2,bq (λh=>⟨?_,Fr.refl _ _⟩) (λh=>?_)⟩
 .rw [k h];rfl
 rw[j h];have d:O (·=pb) w w.drew [cP pb s st] [cW s l]:=H.drew;have x:=xW (d.getD 0:bo _ _ _ _);refine⟨s,d.ld 0 0,_,d.ld 0 1,io,io,xX (d.getD 0) hi λp y c=>⟨ba (fP l st.1).tx,?_,rfl,Fr.drew _ _⟩⟩;rw[bG];exact c.c0
def tn(a b:BL):((ba a).toList==(ba b).toList)=(a==b):=by rw[ByteArray.toList_eq,ByteArray.toList_eq];rfl
def Ll(j:jP l)(hi:st.1<l.length)(k:fj l st≠[])(h:st.2=false):st.1+1<l.length:=by
 rcases Nat.lt_or_ge (st.1+1) l.length with d|d
 .exact d
 .exfalso;apply k;have e:st.1=l.length - 1:=io
  unfold fj;rw[h,e];exact j.2.1
def sE(k:jP l)(hi:st.1<l.length)(u:BL)(q:u≠[32]):(eV l u st).2.1<l.length:=by
 unfold eV;cases d:fj l st==u with
 |false=>exact hi
 |true=>
  have d:=eq_of_beq d;cases j:u.isEmpty with
  |true=>exact hi
  |false=>
   show st.1+1<l.length;refine Ll k hi (λe=>?_) ?_
   .rw [e]at d;subst d;cases j
   .cases h:st.2 with
    |false=>rfl
    |true=>
     exfalso;apply q;rw[<-d];unfold fj;rw[h];rfl
def ra(H:ji pb s l st w)(hi:st.1<l.length)(q:l.length<=1000000)(u:BL):aj U MP #[.pointer (some (ab pb)),.string (ba u)] w (SA pb s w (λr _=>r=ad (.bool (eV l u st).1)) (eV l u st).2):=by
 refine JV.ok (H.call (CC H hi) ?_);rintro _ x rfl e;refine⟨_,rfl,?_⟩;try dsimp only
 rw[tn];have k:((ba u).toList==(a8 #[]).toList)=u.isEmpty:=by have:a8 #[]=ba []:=rfl;rw[this,tn];cases u<;>rfl
 rw[k];refine eO (λd=>⟨⟨?_,?_⟩,e.fr⟩) (λd=>eO (λh=>⟨_,e.ld 0 1,?_⟩) (λh=>⟨⟨?_,?_⟩,e.fr⟩))
 .unfold eV;rw[d];rfl
 .have:(eV l u st).2=st:=by unfold eV;rw[d];rfl
  rw[this];exact e.get 0
 .rw [bp _ io];refine e.st 0 1 rfl λy j=>⟨⟨?_,?_⟩,j.fr⟩
  .unfold eV;rw[d];rfl
  .have:(eV l u st).2=(st.1+1,st.2):=by unfold eV;rw[d,h];rfl
   rw[this];exact j.get 0
 .unfold eV;rw[d];rfl
 .have:(eV l u st).2=st:=by unfold eV;rw[d,h];rfl
  rw[this];exact e.get 0
def OM(u:BL):k' l u st=bif (eV l u st).1 then(eV l u st).2 else((eV l u st).2.1,true):=by unfold k';generalize eV l u st=x;obtain⟨b,d⟩:=x;cases b<;>rfl
def w8(d:jP l)(hi:st.1<l.length)(u:BL)(e:u≠[32]):(k' l u st).1<l.length:=by rw[OM];have:=sE d hi u e;cases(eV l u st).1<;>exact this
def vW(H:ji pb s l st w)(hi:st.1<l.length)(j:l.length<=1000000)(u:BL):aj U MN #[.pointer (some (ab pb)),.string (ba u)] w (SA pb s w (λr _=>r=ad (.tuple #[])) (k' l u st)):=by
 refine JS.ok (H.rf (ra H hi j u) ?_);rintro _ k rfl d _;rw[OM];refine⟨_,rfl,eO (λe=>d.st 0 2 rfl λq h=>⟨⟨rfl,?_⟩,h.fr⟩) (λe=>⟨⟨rfl,?_⟩,d.fr⟩)⟩
 .rw [e];exact h.get 0
 .rw [e];exact d.get 0
def UP(H:ji pb s l st w)(hi:st.1<l.length):aj U MM #[.pointer (some (ab pb))] w λr z=>r=ad (.bool (yG l st))/\ag w z:=by refine JR.ok ((CC H hi).mono ?_);rintro _ A ⟨rfl,e⟩;have h:=H.cC e;refine⟨_,rfl,st.2,h.ld 0 2,?_⟩;have d:∀u:List UInt8,((ba (fj l st)).toList==(ba u).toList)=(fj l st==u):=λu=>tn _ _;have j:=d [];have k:=d [41];have q:=d [44];have x:=d [124];have y:=d [38];unfold yG;show bB _ (bB (!((ba (fj l st)).toList==(ba []).toList)) (bB (!((ba (fj l st)).toList==(ba [41]).toList)) (bB (!((ba (fj l st)).toList==(ba [44]).toList)) (bB (!((ba (fj l st)).toList==(ba [124]).toList)) (Ending.returned (.bool (!((ba (fj l st)).toList==(ba [38]).toList)))=_/\ag w A) _) _) _) _) _;rw[j,k,q,x,y];cases st.2<;>cases fj l st==[]<;>cases fj l st==[41]<;>cases fj l st==[44]<;>cases fj l st==[124]<;>first |exact⟨rfl,e⟩|skip
end
def Ct(k:Int)(s:Sl)(l:List I)(w:J)(x:(bK s l).P w):aj U w2 #[.i k,s.v] w λr y=>gy (bK s l).fp w (rI k (I.ao l)) r y/\ag w y:=by
 have d:=I.cw (dk.1 x).1;refine JO.aq ((gH x).ax λb A h=>aw (λz=>?_) (λz=>h.ae λq e=>⟨⟨.mk k 0 0 s l,rfl,?_,?_,λb j=>.inr j⟩,e.fr⟩))
 .match l,d with
  |[],d=>simp at d;omega
  |a::b::m,d=>simp at d;omega
  |[a],d=>
   refine⟨io,io,I.aT (dk.1 (show(bK s [a]).P A from h.getD 0)).1 (i:=0) rfl λp B c=>⟨_,_,_,_,c.c0,c.c1,c.c2,c.c3,h.ae λq e=>⟨⟨a,rfl,rfl,?_,λb j=>.inr ?_⟩,e.fr⟩⟩⟩
   .exact (dk.1 (show(bK s [a]).P q from e.getD 0)).2.mem gs
   .exact mK.2 (.inr (I.bS.2 ⟨a,gs,j⟩))
 .show Rx.mk k 0 0 (I.ao l)=_
  match l,d with
  |[],d=>rfl
  |[a],d=>simp at d;omega
  |a::b::m,d=>rfl
 .have:=dk.1 (show(bK s l).P q from e.getD 0);unfold I.P;exact this
structure na(s:Sl)(l:List dF)(n:Nat):Prop where
 expr:∀(pb:Nat) (st:bJ) (w:J) (x:Rx) (g8:bJ),lS l n st=some (x,g8)->st.1<l.length->ji pb s l st w->aj U EK #[.pointer (some (ab pb))] w (SA pb s w (λr w'=>gg w x r w'/\g8.1<l.length) g8)
 Jo:∀(pb:Nat) (st:bJ) (w:J) (x:Rx) (g8:bJ),oU l n st=some (x,g8)->st.1<l.length->ji pb s l st w->aj U zI #[.pointer (some (ab pb))] w (SA pb s w (λr w'=>gg w x r w'/\g8.1<l.length) g8)
 seq:∀(pb:Nat) (st:bJ) (w:J) (x:Rx) (g8:bJ),pB l n st=some (x,g8)->st.1<l.length->ji pb s l st w->aj U zK #[.pointer (some (ab pb))] w (SA pb s w (λr w'=>gg w x r w'/\g8.1<l.length) g8)
 item:∀(pb:Nat) (st:bJ) (w:J) (x:Rx) (g8:bJ),ns l n st=some (x,g8)->st.1<l.length->ji pb s l st w->aj U zJ #[.pointer (some (ab pb))] w (SA pb s w (λr w'=>gg w x r w'/\g8.1<l.length) g8)
 atom:∀(pb:Nat) (st:bJ) (w:J) (x:Rx) (g8:bJ),q5 l n st=some (x,g8)->st.1<l.length->ji pb s l st w->aj U EJ #[.pointer (some (ab pb))] w (SA pb s w (λr w'=>gg w x r w'/\g8.1<l.length) g8)
 kids:∀(pb:Nat) (st:bJ) (w:J) (m:List Rx) (g8:bJ),rJ l n st=some (m,g8)->st.1<l.length->ji pb s l st w->aj U EM #[.pointer (some (ab pb))] w (SA pb s w (λr w'=>(∃(sl:Sl) (a:List I),r=ad sl.v/\I.ao a=m/\(bK sl a).P w'/\∀b∈(bK sl a).fp,w.heap.size<=b)/\g8.1<l.length) g8)
def Ah{M:Nat->Prop}{w0 w:J}{L D:List En}{d:Nat}{s:Sl}{st:bJ}(H:O M w0 w (cP d s st::L) D)(i:Nat){e:En}(hi:L[i]? =some e){b:Nat}(k:b∈e.fp):b≠d:=λh=>
 jS H.nd (i:=i+1) (by grind) (j:=0) rfl io b k (q9.2 h)
def _root_.Go.W.O.v8{M:Nat->Prop}{w0 w:J}{L D:List En}(H:O M w0 w L D)(j:Nat){t:I}(h:D[j]? =some (.tree t):=by rfl):O M w0 w L (D++[.trees [t]]):=by
 refine H.ec _ (Fr.refl _ _) (I.jD λq d=>?_) λb k=>.inr (.inr ?_)
 .simp at d;subst d;exact H.getD j h
 .obtain ⟨q,d,e⟩:=I.bS.1 (a7.1 k);simp at d;rw[d]at e;exact⟨_,aA h,a7.2 e⟩
section
variable {s:Sl} {l:List dF} {n:Nat}
def Kj(W:jP l)(T:l.length<=1000000)(Y:∀m,m<=n->na s l m)(d:Nat)(w:J)(x:Rx)(y:bJ):∀(f:Nat),f<=n->∀(acc:List I) (sl:Sl) (h:Nat) (H:J) (st:bJ),td l f (I.ao acc) st=some (x,y)->st.1<l.length->acc.length+f<=1000000->(∀b∈I.bd acc,w.heap.size<=b)->
  O (·=d) w H [cP d s st,.g h,.row aI 4 sl (acc.flatMap I.c)] [cW s l,.trees acc]->
  wo.a4 (ab d) h 0 0 0 ⟨none,0,0⟩ sl H (SA d s w (λr D=>gg w x r D/\y.1<l.length) y)
 |0,_=>λacc sl h H st z=>by unfold td at z;cases z
 |f+1,hf=>λacc sl h H st z S ax aa K=>by
  have az:=I.cw (K.get 2:aL _ _ _ _ _).a2;unfold td at z;have fin:∀(k:J) (j:bJ),j.1<l.length->some (rI 4 (I.ao acc),j)=some (x,y)->O (·=d) w k [cP d s j,.g h,.row aI 4 sl (acc.flatMap I.c)] [cW s l,.trees acc]->
    tz [h] w2 #[.i 4,sl.v] k λan ap aq ar w8=>loc [h] w8 λav=>SA d s w (λr D=>gg w x r D/\y.1<l.length) y (ad (.agg #[.i an,.int .u8 ap,.int .u8 aq,ar.v])) av:=by
   intro k j M F q;simp only[fo,fk]at F;obtain⟨rfl,rfl⟩:=F;have ay:∀b∈(bK sl acc).fp,w.heap.size<=b:=λb e=>by
    rcases mK.1 e with e|e
    .exact (q.new _ (aA (i:=2) rfl) b (gL e)).resolve_right (Ah q 1 rfl (gL e))
    grind
   have L:O (·=d) w k [cP d s j,.g h] [cW s l,.trees acc,I.row sl acc,.tree (bK sl acc)]:=q.sg 2 1 0 0 0;refine L.rj (Ct 4 sl acc k (L.getD 3)) (λb e=>⟨_,aA (i:=3) rfl,a7.2 e⟩) λt w3 C A ft=>?_;refine⟨_,_,_,t.s,rfl,A.ae λw4 B=>⟨⟨⟨⟨t,rfl,C,B.getD 4,λb e=>?_⟩,M⟩,B.get 0⟩,B.fr⟩⟩;rcases ft b e with e|e
   .exact bD L.fr.size e
   grind
  have more:∀(k:J) (j:bJ),j.1<l.length->(match oU l f j with
   |some (a,st)=>td l f (I.ao acc++[a]) st
   |none=>none)=some (x,y)->O (·=d) w k [cP d s j,.g h,.row aI 4 sl (acc.flatMap I.c)] [cW s l,.trees acc]->
    tz [h] zI #[.pointer (some (ab d))] k λag ah ak am E=>c9 E (.cells #[.i ag,.int .u8 ah,.int .u8 ak,am.v] aI) λw6=>
     ∃(t13:Sl) (N:J),Sem.run U (hX #[dc,dc] dc #[sl.v,.slice (some (nb E)) 1 1]) w6=.ok (t13.v) N/\kept [h] w6 N/\wo.a4 (ab d) h 0 0 0 ⟨none,0,0⟩ t13 N (SA d s w (λr D=>gg w x r D/\y.1<l.length) y):=by
   intro k j M F q;cases Q:oU l f j with
   |none=>grind
   |some aw=>
    obtain⟨a,G⟩:=aw;rw[Q]at F;refine q.iV ((Y f io).Jo d j k a G Q M q.gu) ?_;rintro _ w3 ⟨⟨u,rfl,hu,pu,P⟩,ac⟩ _ F3;have A:=F3 (.tree u) pu λb e=>P b (a7.1 e);have A:O (·=d) w w3 [cP d s G,.g h,.row aI 4 sl (acc.flatMap I.c)] [cW s l,.trees acc,.tree u]:=A;refine⟨_,_,_,u.s,rfl,A.jn 2 lP (xs:=acc.flatMap I.c) rfl (λZ E B=>?_) io⟩;have H6:O (·=d) w E [cP d s G,.g h,.row aI 4 Z ((acc++[u]).flatMap I.c)] [cW s l,.trees (acc++[u])]:=by rw[nq];exact(B.su 1 2).forget _ gs
    refine Kj W T Y d w x y f io (acc++[u]) Z h E G ?_ ac (by grind) (tY aa λb e=>bD q.fr.size (P b e)) H6;rw[kG];have:I.ao [u]=[a]:=by simp[I.ao,hu]
    grind
  refine wo.bR (K.iV (ra K.gu S T [124]) ?_);have C:=sE W S [124] dl;rintro _ k rfl q _;refine⟨_,rfl,?_⟩;cases hq:eV l [124] st with
  |mk af j=>
   rw[hq]at z q C;cases af with
   |true=>exact more k j C z q
   |false=>exact fin k j C z q
def Ws(S:jP l)(Q:l.length<=1000000)(hn:n<=100000)(D:∀m,m<=n->na s l m)(d:Nat)(st:bJ)(w:J)(x:Rx)(k:bJ)(B:lS l (n+1) st=some (x,k))(hi:st.1<l.length)(H:ji d s l st w):
  aj U EK #[.pointer (some (ab d))] w (SA d s w (λr Y=>gg w x r Y/\k.1<l.length) k):=by
 unfold lS at B;cases A:oU l n st with
 |none=>grind
 |some Z=>
  obtain⟨a,q⟩:=Z;rw[A]at B;refine wo.aq (H.ax λj E h=>?_);have h:O (·=d) w E [cP d s st,.g j] [cW s l]:=h;refine h.iV ((D n (bm _)).Jo d st E a q A hi h.gu) ?_;rintro _ F ⟨⟨u,rfl,T,W,z⟩,P⟩ _ K;have y:=K (.tree u) W λb e=>z b (a7.1 e);have y:O (·=d) w F [cP d s q,.g j] [cW s l,.tree u]:=y;refine⟨_,_,_,u.s,rfl,y.e3 (n:=1) (sz:=4) (cs:=u.c) rfl dl λG L=>?_⟩;have M:O (·=d) w G [cP d s q,.g j,.row aI 4 ⟨some (ab F.heap.size),1,1⟩ ([u].flatMap I.c)] [cW s l,.trees [u]]:=by
   have N:[u].flatMap I.c=u.c:=gs
   rw[N];exact(L.v8 1).forget _ gs
  refine Kj S Q D d w x k n (bm _) [u] _ j G q ?_ P (by grind) (λb e=>?_) M
  .have:I.ao [u]=[a]:=by simp[I.ao,T]
   grind
  .obtain ⟨t,C,e⟩:=I.bS.1 e;simp at C;rw[C]at e;exact bD h.fr.size (z b e)
def Jq(W:jP l)(T:l.length<=1000000)(Y:∀m,m<=n->na s l m)(d:Nat)(w:J)(x:Rx)(y:bJ):∀(f:Nat),f<=n->∀(acc:List I) (sl:Sl) (h:Nat) (H:J) (st:bJ),tg l f (I.ao acc) st=some (x,y)->st.1<l.length->acc.length+f<=1000000->(∀b∈I.bd acc,w.heap.size<=b)->
  O (·=d) w H [cP d s st,.g h,.row aI 4 sl (acc.flatMap I.c)] [cW s l,.trees acc]->
  wm.a4 (ab d) h 0 0 0 ⟨none,0,0⟩ sl H (SA d s w (λr D=>gg w x r D/\y.1<l.length) y)
 |0,_=>λacc sl h H st z=>by unfold tg at z;cases z
 |f+1,hf=>λacc sl h H st z S ax aa K=>by
  have az:=I.cw (K.get 2:aL _ _ _ _ _).a2;unfold tg at z;have fin:∀(k:J) (j:bJ),j.1<l.length->some (rI 5 (I.ao acc),j)=some (x,y)->O (·=d) w k [cP d s j,.g h,.row aI 4 sl (acc.flatMap I.c)] [cW s l,.trees acc]->
    tz [h] w2 #[.i 5,sl.v] k λan ap aq ar w8=>loc [h] w8 λav=>SA d s w (λr D=>gg w x r D/\y.1<l.length) y (ad (.agg #[.i an,.int .u8 ap,.int .u8 aq,ar.v])) av:=by
   intro k j M F q;simp only[fo,fk]at F;obtain⟨rfl,rfl⟩:=F;have ay:∀b∈(bK sl acc).fp,w.heap.size<=b:=λb e=>by
    rcases mK.1 e with e|e
    .exact (q.new _ (aA (i:=2) rfl) b (gL e)).resolve_right (Ah q 1 rfl (gL e))
    grind
   have L:O (·=d) w k [cP d s j,.g h] [cW s l,.trees acc,I.row sl acc,.tree (bK sl acc)]:=q.sg 2 1 0 0 0;refine L.rj (Ct 5 sl acc k (L.getD 3)) (λb e=>⟨_,aA (i:=3) rfl,a7.2 e⟩) λt w3 C A ft=>?_;refine⟨_,_,_,t.s,rfl,A.ae λw4 B=>⟨⟨⟨⟨t,rfl,C,B.getD 4,λb e=>?_⟩,M⟩,B.get 0⟩,B.fr⟩⟩;rcases ft b e with e|e
   .exact bD L.fr.size e
   grind
  have more:∀(k:J) (j:bJ),j.1<l.length->(match pB l f j with
   |some (a,st)=>tg l f (I.ao acc++[a]) st
   |none=>none)=some (x,y)->O (·=d) w k [cP d s j,.g h,.row aI 4 sl (acc.flatMap I.c)] [cW s l,.trees acc]->
    tz [h] zK #[.pointer (some (ab d))] k λag ah ak am E=>c9 E (.cells #[.i ag,.int .u8 ah,.int .u8 ak,am.v] aI) λw6=>
     ∃(t13:Sl) (N:J),Sem.run U (hX #[dc,dc] dc #[sl.v,.slice (some (nb E)) 1 1]) w6=.ok (t13.v) N/\kept [h] w6 N/\wm.a4 (ab d) h 0 0 0 ⟨none,0,0⟩ t13 N (SA d s w (λr D=>gg w x r D/\y.1<l.length) y):=by
   intro k j M F q;cases Q:pB l f j with
   |none=>grind
   |some aw=>
    obtain⟨a,G⟩:=aw;rw[Q]at F;refine q.iV ((Y f io).seq d j k a G Q M q.gu) ?_;rintro _ w3 ⟨⟨u,rfl,hu,pu,P⟩,ac⟩ _ F3;have A:=F3 (.tree u) pu λb e=>P b (a7.1 e);have A:O (·=d) w w3 [cP d s G,.g h,.row aI 4 sl (acc.flatMap I.c)] [cW s l,.trees acc,.tree u]:=A;refine⟨_,_,_,u.s,rfl,A.jn 2 lP (xs:=acc.flatMap I.c) rfl (λZ E B=>?_) io⟩;have H6:O (·=d) w E [cP d s G,.g h,.row aI 4 Z ((acc++[u]).flatMap I.c)] [cW s l,.trees (acc++[u])]:=by rw[nq];exact(B.su 1 2).forget _ gs
    refine Jq W T Y d w x y f io (acc++[u]) Z h E G ?_ ac (by grind) (tY aa λb e=>bD q.fr.size (P b e)) H6;rw[kG];have:I.ao [u]=[a]:=by simp[I.ao,hu]
    grind
  refine wm.bR (K.iV (ra K.gu S T [38]) ?_);have C:=sE W S [38] dl;rintro _ k rfl q _;refine⟨_,rfl,?_⟩;cases hq:eV l [38] st with
  |mk af j=>
   rw[hq]at z q C;cases af with
   |true=>exact more k j C z q
   |false=>exact fin k j C z q
def VV(S:jP l)(Q:l.length<=1000000)(hn:n<=100000)(D:∀m,m<=n->na s l m)(d:Nat)(st:bJ)(w:J)(x:Rx)(k:bJ)(B:oU l (n+1) st=some (x,k))(hi:st.1<l.length)(H:ji d s l st w):
  aj U zI #[.pointer (some (ab d))] w (SA d s w (λr Y=>gg w x r Y/\k.1<l.length) k):=by
 unfold oU at B;cases A:pB l n st with
 |none=>grind
 |some Z=>
  obtain⟨a,q⟩:=Z;rw[A]at B;refine wm.aq (H.ax λj E h=>?_);have h:O (·=d) w E [cP d s st,.g j] [cW s l]:=h;refine h.iV ((D n (bm _)).seq d st E a q A hi h.gu) ?_;rintro _ F ⟨⟨u,rfl,T,W,z⟩,P⟩ _ K;have y:=K (.tree u) W λb e=>z b (a7.1 e);have y:O (·=d) w F [cP d s q,.g j] [cW s l,.tree u]:=y;refine⟨_,_,_,u.s,rfl,y.e3 (n:=1) (sz:=4) (cs:=u.c) rfl dl λG L=>?_⟩;have M:O (·=d) w G [cP d s q,.g j,.row aI 4 ⟨some (ab F.heap.size),1,1⟩ ([u].flatMap I.c)] [cW s l,.trees [u]]:=by
   have N:[u].flatMap I.c=u.c:=gs
   rw[N];exact(L.v8 1).forget _ gs
  refine Jq S Q D d w x k n (bm _) [u] _ j G q ?_ P (by grind) (λb e=>?_) M
  .have:I.ao [u]=[a]:=by simp[I.ao,T]
   grind
  .obtain ⟨t,C,e⟩:=I.bS.1 e;simp at C;rw[C]at e;exact bD h.fr.size (z b e)
def Rz(ag:jP l)(af:l.length<=1000000)(T:∀m,m<=n->na s l m)(d:Nat)(w:J)(x:Rx)(y:bJ):∀(f:Nat),f<=n->∀(acc:List I) (sl:Sl) (h:Nat) (G:J) (st:bJ),uh l f (I.ao acc) st=some (x,y)->st.1<l.length->acc.length+f<=1000000->(∀b∈I.bd acc,w.heap.size<=b)->
  O (·=d) w G [cP d s st,.g h,.row aI 4 sl (acc.flatMap I.c)] [cW s l,.trees acc]->
  wt.a4 (ab d) h 0 0 0 ⟨none,0,0⟩ sl G (SA d s w (λr C=>gg w x r C/\y.1<l.length) y)
 |0,_=>λacc sl h G st z=>by unfold uh at z;cases z
 |f+1,hf=>λacc sl h G st z L az aa H=>by
  have aC:=I.cw (H.get 2:aL _ _ _ _ _).a2;unfold uh at z;have fin:∀(j:J) (k:bJ),k.1<l.length->some (rI 3 (I.ao acc),k)=some (x,y)->O (·=d) w j [cP d s k,.g h,.row aI 4 sl (acc.flatMap I.c)] [cW s l,.trees acc]->
    tz [h] w2 #[.i 3,sl.v] j λap aq ar aw w8=>loc [h] w8 λax=>SA d s w (λr C=>gg w x r C/\y.1<l.length) y (ad (.agg #[.i ap,.int .u8 aq,.int .u8 ar,aw.v])) ax:=by
   intro j k M E q;simp only[fo,fk]at E;obtain⟨rfl,rfl⟩:=E;have aB:∀b∈(bK sl acc).fp,w.heap.size<=b:=λb e=>by
    rcases mK.1 e with e|e
    .exact (q.new _ (aA (i:=2) rfl) b (gL e)).resolve_right (Ah q 1 rfl (gL e))
    grind
   have K:O (·=d) w j [cP d s k,.g h] [cW s l,.trees acc,I.row sl acc,.tree (bK sl acc)]:=q.sg 2 1 0 0 0;refine K.rj (Ct 3 sl acc j (K.getD 3)) (λb e=>⟨_,aA (i:=3) rfl,a7.2 e⟩) λt Y ht A ft=>?_;refine⟨_,_,_,t.s,rfl,A.ae λw4 B=>⟨⟨⟨⟨t,rfl,ht,B.getD 4,λb e=>?_⟩,M⟩,B.get 0⟩,B.fr⟩⟩;rcases ft b e with e|e
   .exact bD K.fr.size e
   grind
  have more:∀(j:J) (k:bJ),k.1<l.length->(match ns l f k with
   |some (a,st)=>uh l f (I.ao acc++[a]) st
   |none=>none)=some (x,y)->O (·=d) w j [cP d s k,.g h,.row aI 4 sl (acc.flatMap I.c)] [cW s l,.trees acc]->
    tz [h] zJ #[.pointer (some (ab d))] j λah ak am an D=>c9 D (.cells #[.i ah,.int .u8 ak,.int .u8 am,an.v] aI) λZ=>
     ∃(t13:Sl) (N:J),Sem.run U (hX #[dc,dc] dc #[sl.v,.slice (some (nb D)) 1 1]) Z=.ok (t13.v) N/\kept [h] Z N/\wt.a4 (ab d) h 0 0 0 ⟨none,0,0⟩ t13 N (SA d s w (λr C=>gg w x r C/\y.1<l.length) y):=by
   intro j k M E q;cases Q:ns l f k with
   |none=>grind
   |some ay=>
    obtain⟨a,F⟩:=ay;rw[Q]at E;refine q.iV ((T f io).item d k j a F Q M q.gu) ?_;rintro _ Y ⟨⟨u,rfl,hu,pu,P⟩,ac⟩ _ F3;have A:=F3 (.tree u) pu λb e=>P b (a7.1 e);have A:O (·=d) w Y [cP d s F,.g h,.row aI 4 sl (acc.flatMap I.c)] [cW s l,.trees acc,.tree u]:=A;refine⟨_,_,_,u.s,rfl,A.jn 2 lP (xs:=acc.flatMap I.c) rfl (λW D B=>?_) io⟩;have H6:O (·=d) w D [cP d s F,.g h,.row aI 4 W ((acc++[u]).flatMap I.c)] [cW s l,.trees (acc++[u])]:=by rw[nq];exact(B.su 1 2).forget _ gs
    refine Rz ag af T d w x y f io (acc++[u]) W h D F ?_ ac (by grind) (tY aa λb e=>bD q.fr.size (P b e)) H6;rw[kG];have:I.ao [u]=[a]:=by simp[I.ao,hu]
    grind
  refine wt.bR (H.av (UP H.gu L) ?_);rintro _ j rfl q;refine⟨_,rfl,?_⟩;cases S:yG l st with
  |true=>rw[S]at z;exact more j st L z q
  |false=>rw[S]at z;exact fin j st L z q
def abm(S:jP l)(Q:l.length<=1000000)(hn:n<=100000)(D:∀m,m<=n->na s l m)(d:Nat)(st:bJ)(w:J)(x:Rx)(k:bJ)(B:pB l (n+1) st=some (x,k))(hi:st.1<l.length)(H:ji d s l st w):
  aj U zK #[.pointer (some (ab d))] w (SA d s w (λr Y=>gg w x r Y/\k.1<l.length) k):=by
 unfold pB at B;cases A:ns l n st with
 |none=>grind
 |some Z=>
  obtain⟨a,q⟩:=Z;rw[A]at B;refine wt.aq (H.ax λj E h=>?_);have h:O (·=d) w E [cP d s st,.g j] [cW s l]:=h;refine h.iV ((D n (bm _)).item d st E a q A hi h.gu) ?_;rintro _ F ⟨⟨u,rfl,T,W,z⟩,P⟩ _ K;have y:=K (.tree u) W λb e=>z b (a7.1 e);have y:O (·=d) w F [cP d s q,.g j] [cW s l,.tree u]:=y;refine⟨_,_,_,u.s,rfl,y.e3 (n:=1) (sz:=4) (cs:=u.c) rfl dl λG L=>?_⟩;have M:O (·=d) w G [cP d s q,.g j,.row aI 4 ⟨some (ab F.heap.size),1,1⟩ ([u].flatMap I.c)] [cW s l,.trees [u]]:=by
   have N:[u].flatMap I.c=u.c:=gs
   rw[N];exact(L.v8 1).forget _ gs
  refine Rz S Q D d w x k n (bm _) [u] _ j G q ?_ P (by grind) (λb e=>?_) M
  .have:I.ao [u]=[a]:=by simp[I.ao,T]
   grind
  .obtain ⟨t,C,e⟩:=I.bS.1 e;simp at C;rw[C]at e;exact bD h.fr.size (z b e)
end
def _root_.Go.W.O.R8{M:Nat->Prop}{w0 w:J}{L D:List En}{bs:List Nat}(H:O M w0 w L D)(i j:Nat){b:Nat}{vs:List V}{T:aE}{v:V}{K:J->Prop}(hi:L[i]? =some (.c b vs T))(y:∀q,O M w0 q (L.set i (.c b (vs.set j v) T)) D->K q)(k:j<vs.length:=by simp)(h:∀b∈bs,En.g b∈L:=by simp):aM w ((ab b).add j) v λx=>kept bs w x/\K x:=by obtain⟨A,B,C⟩:=H.set (v:=v) i j hi k;obtain⟨_,_,_,E⟩:=AR (H.ob i hi) j (by simpa using k) v;refine⟨A,B,λd e=>?_,y _ C⟩;refine E.cD d (H.own _ (h d e)) λz=>zc H hi (Cu w b vs T) (h d e) ?_;rw[z];exact q9.2 rfl
def _root_.Go.W.O.one{M:Nat->Prop}{w0 w:J}{L D:List En}(H:O M w0 w L D)(i j:Nat){e:aE}{sl:Sl}{u:I}(k:Int)(lo hi:UInt8)(x:L[i]? =some (.row e 4 sl u.c):=by rfl)(y:D[j]? =some (.tree u):=by rfl):O M w0 w (L.eraseIdx i) (D++[.tree (.mk k lo hi sl [u])]):=by
 have h:=H.v8 j y;have e:[u].flatMap I.c=u.c:=gs
 have q:=h.sg i D.length k lo hi (s:=sl) (ts:=[u]) (by rw[e];exact x) gs;exact q.forget _ (λz d=>by
  simp only[aK,aF,a5,a9]at d ⊢;rcases d with d|d
  .exact .inl (.inl (.inl d))
  .exact .inr d)
def FG{w:J}{sl:Sl}{u:I}{k:Int}{lo hi:UInt8}(h:∀b∈aR sl,w.heap.size<=b)(j:∀b∈u.fp,w.heap.size<=b):∀b∈(I.mk k lo hi sl [u]).fp,w.heap.size<=b:=λb d=>by
 unfold I.fp at d;rcases aK.1 d with d|d
 .exact nD h b d
 .obtain ⟨t,e,d⟩:=I.bS.1 d;simp at e;rw[e]at d;exact j b d
section
variable {s:Sl} {l:List dF} {n:Nat}
def K5(H:jP l)(G:l.length<=1000000)(e:Nat)(w:J)(x:Rx)(A:bJ):∀(f:Nat) (u:I) (h j:Nat) (B:J) (st:bJ),xO l f u.rx st=some (x,A)->st.1<l.length->(∀b∈u.fp,w.heap.size<=b)->
  O (·=e) w B [cP e s st,.g h,.g j] [cW s l,.tree u]->
  y0.a4 (ab e) h 0 0 0 ⟨none,0,0⟩ j u.k (u.lo.toNat:Int) (u.hi.toNat:Int) u.s B (SA e s w (λr T=>gg w x r T/\A.1<l.length) A)
 |0,u,h,j,B,st,d,_,_,_=>by unfold xO at d;cases d
 |f+1,u,h,j,B,st,d,F,E,C=>by
  unfold xO at d;refine y0.bR (C.iV (ra C.gu F G [42]) ?_);have y:=sE H F [42] dl;rintro _ L rfl z _;refine⟨_,rfl,?_⟩;cases Q:eV l [42] st with
  |mk S K=>
   rw[Q]at d z y;cases S with
   |true=>
    dsimp only at d y;refine aU rfl ?_;refine z.e3 (n:=1) (sz:=4) (cs:=u.c) rfl dl λW q=>q.ae λM N=>?_;have P:O (·=e) w M [cP e s K,.g h,.g j] [cW s l,.tree (.mk 7 0 0 ⟨some (ab L.heap.size),1,1⟩ [u])]:=(N.one 3 1 7 0 0).forget _ gs;refine K5 H G e w x A f (.mk 7 0 0 ⟨some (ab L.heap.size),1,1⟩ [u]) h j M K d y (FG (λb D=>?_) E) P;simp only[aR,aF,a5,a9]at D;rw[D];exact z.fr.size
   |false=>
    dsimp only at d y;simp only[fo,fk]at d;obtain⟨d,rfl⟩:=d;refine aW rfl ?_;exact z.ae λW q=>⟨⟨⟨⟨u,rfl,d,q.getD 1,E⟩,y⟩,q.get 0⟩,q.fr⟩
def XB(W:jP l)(T:l.length<=1000000)(Y:na s l n)(h:Nat)(st:bJ)(w:J)(x:Rx)(C:bJ)(d:ns l (n+1) st=some (x,C))(hi:st.1<l.length)(H:ji h s l st w):
  aj U zJ #[.pointer (some (ab h))] w (SA h s w (λr w'=>gg w x r w'/\C.1<l.length) C):=by
 unfold ns at d;refine y0.aq (H.ax λK w1 A=>?_);have A:O (·=h) w w1 [cP h s st,.g K] [cW s l]:=A;refine A.iV (ra A.gu hi T [33]) ?_;have y:=sE W hi [33] dl;rintro _ Z rfl j _;refine⟨_,rfl,?_⟩;cases hq:eV l [33] st with
 |mk aa D=>
  rw[hq]at d j y;cases aa with
  |true=>
   dsimp only at d y;cases k:ns l n D with
   |none=>rw[k]at d;cases d
   |some S=>
    obtain⟨a,z⟩:=S;rw[k]at d;simp only[fo,fk]at d;obtain⟨d,rfl⟩:=d;refine aU rfl ?_;refine j.iV (Y.item h D Z a z k y j.gu) ?_;rintro _ P ⟨⟨u,rfl,M,N,q⟩,L⟩ _ E;have B:=E (.tree u) N λb e=>q b (a7.1 e);refine⟨_,_,_,u.s,rfl,B.e3 (n:=1) (sz:=4) (cs:=u.c) rfl dl λw4 F=>F.ae λQ G=>?_⟩;have I:O (·=h) w Q [cP h s z,.g K] [cW s l,.tree (.mk 6 0 0 ⟨some (ab P.heap.size),1,1⟩ [u])]:=(G.one 2 1 6 0 0).forget _ gs;refine⟨⟨⟨⟨.mk 6 0 0 ⟨some (ab P.heap.size),1,1⟩ [u],rfl,?_,I.getD 1,FG (λb e=>?_) (λb e=>bD j.fr.size (q b e))⟩,L⟩,I.get 0⟩,I.fr⟩
    .rw [<-d,<-M];rfl
    .simp only[aR,aF,a5,a9]at e;rw[e];exact B.fr.size
  |false=>
   dsimp only at d y;cases k:q5 l n D with
   |none=>rw[k]at d;cases d
   |some S=>
    obtain⟨a,z⟩:=S;rw[k]at d;refine aW rfl ?_;refine j.iV (Y.atom h D Z a z k y j.gu) ?_;rintro _ P ⟨⟨u,rfl,M,N,q⟩,L⟩ _ E;have B:=E (.tree u) N λb e=>q b (a7.1 e);refine⟨_,_,_,u.s,rfl,B.ax λb4 w4 F=>F.ae λQ G=>?_⟩;exact K5 W T h w x C n u K b4 Q z (by rw[M];exact d) L (λb e=>bD j.fr.size (q b e)) G
def Le(E:jP l)(D:l.length<=1000000)(K:∀m,m<=n->na s l m)(h:Nat)(w:J)(m:List Rx)(x:bJ):∀(f:Nat),f<=n->∀(acc:List I) (sl:Sl) (z:J) (st:bJ),wW l f (I.ao acc) st=some (m,x)->st.1<l.length->acc.length+f<=1000000->(∀b∈I.bd acc,w.heap.size<=b)->
  O (·=h) w z [cP h s st,.row aI 4 sl (acc.flatMap I.c)] [cW s l,.trees acc]->
  wq.L1 (ab h) sl z (SA h s w (λr w'=>(∃(sl:Sl) (a:List I),r=ad sl.v/\I.ao a=m/\(bK sl a).P w'/\∀b∈(bK sl a).fp,w.heap.size<=b)/\x.1<l.length) x)
 |0,_=>λacc sl z st d=>by unfold wW at d;cases d
 |f+1,hf=>λacc sl z st d H ae G A=>by
  have af:=I.cw (A.get 1:aL _ _ _ _ _).a2;unfold wW at d;refine wq.ik (A.rf (ra A.gu H D [44]) ?_);have q:=sE E H [44] dl;rintro _ w2 rfl j _;refine⟨_,rfl,?_⟩;cases Z:eV l [44] st with
  |mk aa M=>
   rw[Z]at d j q;cases aa with
   |true=>
    dsimp only at d q;cases C:lS l f M with
    |none=>rw[C]at d;cases d
    |some ac=>
     obtain⟨a,y⟩:=ac;rw[C]at d;refine aU rfl ?_;refine j.rf ((K f io).expr h M w2 a y C q j.gu) ?_;rintro _ N ⟨⟨u,rfl,hu,pu,F⟩,Y⟩ _ S;have B:=S (.tree u) pu λb e=>F b (a7.1 e);have B:O (·=h) w N [cP h s y,.row aI 4 sl (acc.flatMap I.c)] [cW s l,.trees acc,.tree u]:=B;refine⟨_,_,_,u.s,rfl,B.q4 1 lP (xs:=acc.flatMap I.c) rfl (λL Q T _ _=>?_) io⟩;have W:O (·=h) w Q [cP h s y,.row aI 4 L ((acc++[u]).flatMap I.c)] [cW s l,.trees (acc++[u])]:=by rw[nq];exact(T.su 1 2).forget _ gs
     refine Le E D K h w m x f io (acc++[u]) L Q y ?_ Y (by simp;omega) (tY G λb e=>bD j.fr.size (F b e)) W;rw[kG];have:I.ao [u]=[a]:=by simp[I.ao,hu]
     rw[this];exact d
   |false=>
    dsimp only at d q;simp only[fo,fk]at d;obtain⟨rfl,rfl⟩:=d;refine aW rfl ?_;refine j.rf (vW j.gu q D [41]) ?_;rintro _ N rfl k _;refine⟨rfl,⟨⟨⟨sl,acc,rfl,rfl,dk.2 ⟨(k.get 1:aL _ _ _ _ _).a2,k.getD 1⟩,λb e=>?_⟩,w8 E q [41] dl⟩,k.get 0⟩,k.fr⟩;rcases mK.1 e with e|e
    .exact (k.new _ (aA (i:=1) rfl) b (gL e)).resolve_right (Ah k 0 rfl (gL e))
    .exact G b e
def XK(B:jP l)(A:l.length<=1000000)(hn:n<=100000)(L:∀m,m<=n->na s l m)(h:Nat)(st:bJ)(w:J)(m:List Rx)(q:bJ)(e:rJ l (n+1) st=some (m,q))(hi:st.1<l.length)(H:ji h s l st w):
  aj U EM #[.pointer (some (ab h))] w (SA h s w (λr D=>(∃(sl:Sl) (a:List I),r=ad sl.v/\I.ao a=m/\(bK sl a).P D/\∀b∈(bK sl a).fp,w.heap.size<=b)/\q.1<l.length) q):=by
 unfold rJ at e;refine wq.ok (H.rf (vW H hi A [40]) ?_);have K:=w8 B hi [40] dl;rintro _ w1 rfl F _;refine⟨rfl,F.rf (ra F.gu K A [41]) ?_⟩;have x:=sE B K [41] dl;rintro _ E rfl j _;cases hq:eV l [41] (k' l [40] st)with
 |mk M y=>
  rw[hq]at e j x;have none_:some (([]:List Rx),y)=some (m,q)->wq.S0 E (SA h s w (λr D=>(∃(sl:Sl) (a:List I),r=ad sl.v/\I.ao a=m/\(bK sl a).P D/\∀b∈(bK sl a).fp,w.heap.size<=b)/\q.1<l.length) q):=by
   intro e;simp only[fo,fk]at e;obtain⟨rfl,rfl⟩:=e;refine⟨⟨⟨⟨⟨none,0,0⟩,[],rfl,rfl,dk.2 ⟨bo.nil 4 E,by unfold I.Ps;trivial⟩,λb d=>?_⟩,x⟩,j.get 0⟩,j.fr⟩;rcases mK.1 d with d|d
   .simp [I.row,En.a2]at d
   .unfold I.bd at d;cases d
  refine⟨_,rfl,y.2,j.ld 0 2,bq (λd=>none_ (by simpa[d]using e)) (λd=>bq (λk=>none_ (by have k:M=true:=k;simpa[k]using e)) (λk=>?_))⟩
  have k:M=false:=k;simp only[d,k,Bool.or_false,cond_false]at e;cases z:lS l n y with
  |none=>rw[z]at e;cases e
  |some aa=>
   obtain⟨a,C⟩:=aa;rw[z]at e;refine j.rf ((L n (bm _)).expr h y E a C z x j.gu) ?_;rintro _ w3 ⟨⟨u,rfl,hu,pu,G⟩,Z⟩ _ Q;have S:=Q (.tree u) pu λb d=>G b (a7.1 d);refine⟨_,_,_,u.s,rfl,S.e3 (n:=1) (sz:=4) (cs:=u.c) rfl dl λN T=>?_⟩;have W:O (·=h) w N [cP h s C,.row aI 4 ⟨some (ab w3.heap.size),1,1⟩ ([u].flatMap I.c)] [cW s l,.trees [u]]:=by
    have Y:[u].flatMap I.c=u.c:=gs
    rw[Y];exact(T.v8 1).forget _ gs
   refine Le B A L h w m q n (bm _) [u] _ N C ?_ Z (by simp;omega) (λb d=>?_) W
   .have:I.ao [u]=[a]:=by simp[I.ao,hu]
    rw[this];exact e
   .obtain ⟨t,x,d⟩:=I.bS.1 d;simp at x;rw[x]at d;exact bD j.fr.size (G b d)
end
def vy:List V:=[.string (ba (nM 0)),.string (ba (nM 1)),.string (ba (nM 2)),.string (ba (nM 3)),.string (ba (nM 4)),.string (ba (nM 5))]
def Tm{k:Nat}(d:k<6):vy[k]? =some (.string (ba (nM k))):=by
 have:k=0\/k=1\/k=2\/k=3\/k=4\/k=5:=io
 rcases this with rfl|rfl|rfl|rfl|rfl|rfl<;>rfl
def Tl{k:Nat}(e:k<6)(d:k≠2):nM k≠[]/\nM k≠[32]:=by
 have:k=0\/k=1\/k=2\/k=3\/k=4\/k=5:=io
 rcases this with rfl|rfl|rfl|rfl|rfl|rfl<;>first |exact absurd rfl d|exact⟨dl,dl⟩
def nt(k:Int)(lo hi:UInt8):I:=.mk k lo hi ⟨none,0,0⟩ []
def rL(k:Int)(lo hi:UInt8)(w:J):(nt k lo hi).P w:=by unfold nt I.P I.Ps;exact⟨bo.nil 4 w,trivial⟩
def rM{k:Int}{lo hi:UInt8}{b:Nat}:¬b∈(nt k lo hi).fp:=λd=>by
 unfold nt I.fp I.bd at d;rcases aK.1 d with d|d
 .simp [I.row,En.a2]at d
 .cases d
section
variable {s:Sl} {l:List dF} {n:Nat}
def Uf(Z:jP l)(ao:l.length<=1000000)(ih:na s l n)(j:Nat)(st:bJ)(w:J)(x:Rx)(K:bJ)(d:q5 l (n+1) st=some (x,K))(hi:st.1<l.length)(H:ji j s l st w):
  aj U EJ #[.pointer (some (ab j))] w (SA j s w (λr w'=>gg w x r w'/\K.1<l.length) K):=by
 let R:aB:=SA j s w (λr w'=>gg w x r w'/\K.1<l.length) K
 have loop:∀(f k:Nat) (q C:Nat) (D:J),f+k=6->mg l st 6 0=mg l st f k->(match mg l st 6 0 with
   |some k=>bif Nat.ble k 2 then some (Rx.mk k 0 0 [],(st.1+1,st.2))else match rJ l n (st.1+1,st.2)with
    |some (m,st)=>some (Rx.mk k 0 0 m,st)
    |none=>none
   |none=>let st:=k' l [40] st
    bif st.2 then some (fK,st)else match lS l n st with
    |some (a,st)=>some (a,k' l [41] st)
    |none=>none)=some (x,K)->O (·=j) w D [cP j s st,.g q,.c C vy fD] [cW s l]->
   oZ.cu (ab j) q 0 0 0 ⟨none,0,0⟩ ⟨some (ab C),6,6⟩ (k:Int) D R:=by
  intro f;induction f with
  |zero=>
   intro k q C D hk hw d E;have e0:mg l st 0 k=none:=by unfold mg;rfl
   rw[hw,e0]at d;dsimp only at d;have ag:=w8 Z hi [40] dl;refine oZ.dQ (aW (aS io) (E.iV (vW E.gu hi ao [40]) ?_));rintro _ y rfl e _;generalize k' l [40] st=jI at d ag e;refine⟨rfl,jI.2,e.ld 0 2,bq (λh=>?_) (λh=>?_)⟩
   .rw [h]at d;simp only[cond_true,fo,fk]at d;obtain⟨rfl,rfl⟩:=d;exact e.ae λT z=>⟨⟨⟨⟨ck,rfl,rfl,lf _,λb h=>(lg h).elim⟩,ag⟩,z.get 0⟩,z.fr⟩
   .rw [h]at d;dsimp only[cond_false]at d;cases G:lS l n jI with
    |none=>rw[G]at d;cases d
    |some ak=>
     obtain⟨a,aa⟩:=ak;rw[G]at d;simp only[fo,fk]at d;obtain⟨rfl,rfl⟩:=d;refine e.iV (ih.expr j jI y a aa G ag e.gu) ?_;rintro _ T ⟨⟨u,rfl,hu,pu,fu⟩,Y⟩ _ F3;have z:=F3 (.tree u) pu λb h=>fu b (a7.1 h);refine⟨_,_,_,u.s,rfl,z.ax λb6 w4 A=>A.ae λw5 B=>?_⟩;have B:O (·=j) w w5 (cP j s aa::[.g q,.c C vy fD,.g b6]) [cW s l,.tree u]:=B;refine B.iV (vW B.gu Y ao [41]) ?_;rintro _ w6 rfl H6 _;exact⟨rfl,H6.ae λw7 L=>⟨⟨⟨⟨u,rfl,hu,L.getD 1,λb h=>bD e.fr.size (fu b h)⟩,w8 Z Y [41] dl⟩,L.get 0⟩,L.fr⟩⟩
  |succ f aI=>
   intro k q C D hk hw d E;have next:mg l st (f+1) k=mg l st f (k+1)->∀y,O (·=j) w y [cP j s st,.g q,.c C vy fD] [cW s l]->oZ.bC (ab j) q 0 0 0 ⟨none,0,0⟩ ⟨some (ab C),6,6⟩ (k:Int) y R:=by intro S y e;show oZ.cu _ _ _ _ _ _ _ _ _ _;rw[bp _ io];exact aI (k+1) q C y io (by rw[hw,S]) d e
   refine oZ.dQ (aU (aQ io) (aw (λQ=>E.ae λy e=>next (by
    have:k=2:=io
    subst this;conv=>lhs;unfold mg
    rfl) y e) (λQ=>⟨io,by show(k:Int)<((6:Nat):Int);omega,?_⟩)))
   have Q:k≠2:=io
   have am:bH k 2=false:=by
    cases F:bH k 2 with
    |false=>rfl
    |true=>exact absurd (Nat.eq_of_beq_eq_true F) Q
   refine lj (E.ae λy e=>?_);rw[bG,Nat.mul_one];refine⟨ba (nM k),e.ld 2 k rfl (Tm io),e.av (CC e.gu hi) ?_⟩;rintro _ T rfl z;refine⟨_,rfl,z.ld 2 k rfl (Tm io),?_⟩;rw[tn];refine eO (λhs=>next (by
    conv=>lhs;unfold mg
    rw[am,hs];rfl) T z) (λhs=>?_)
   have ap:=eq_of_beq hs;have aH:mg l st 6 0=some k:=by
    rw[hw];conv=>lhs;unfold mg
    rw[am,hs];rfl
   rw[aH]at d;dsimp only at d;have W:st.1+1<l.length:=by
    refine Ll Z hi (by rw[ap];exact(Tl io Q).1) ?_;cases h:st.2 with
    |false=>rfl
    |true=>
     exfalso;refine(Tl (k:=k) io Q).2 ?_;rw[<-ap];unfold fj;rw[h];rfl
   refine⟨(st.1:Int),z.ld 0 1,?_⟩;rw[bp _ io];refine z.R8 0 1 rfl λw4 A=>?_;have A:O (·=j) w w4 [cP j s (st.1+1,st.2),.g q,.c C vy fD] [cW s l]:=A;refine A.ax λb5 w5 B=>aY (λaG=>?_) (λaG=>?_)
   .have af:Nat.ble k 2=false:=by
     cases F:Nat.ble k 2 with
     |false=>rfl
     |true=>have:=Nat.le_of_ble_eq_true F;omega
    rw[af]at d;dsimp only[cond_false]at d;cases G:rJ l n (st.1+1,st.2)with
    |none=>rw[G]at d;cases d
    |some ak=>
     obtain⟨m,aa⟩:=ak;rw[G]at d;simp only[fo,fk]at d;obtain⟨S,rfl⟩:=d;refine B.ae λw9 N=>?_;have N:O (·=j) w w9 (cP j s (st.1+1,st.2)::[.g q,.c C vy fD,.g b5]) [cW s l]:=N;refine N.iV (ih.kids j (st.1+1,st.2) w9 m aa G W N.gu) ?_;rintro _ aL ⟨⟨sl,a,rfl,ha,pa,fa⟩,Y⟩ _ ar;have ay:=ar (.tree (bK sl a)) pa λb h=>fa b (a7.1 h);refine⟨sl,rfl,ay.ae λaM az=>az.ae λaJ ac=>?_⟩;refine⟨⟨⟨⟨.mk k 0 0 sl a,rfl,?_,?_,λb h=>?_⟩,Y⟩,ac.get 0⟩,ac.fr⟩
     .rw [<-S,<-ha];rfl
     .have:=dk.1 (show(bK sl a).P aJ from ac.getD 1);unfold I.P;exact this
     .refine bD N.fr.size (fa b ?_);unfold I.fp at h;unfold bK I.fp;exact h
   .have af:Nat.ble k 2=true:=Nat.ble_eq_true_of_le io;rw[af]at d;simp only[cond_true,fo,fk]at d;obtain⟨S,rfl⟩:=d;refine B.ae λw6 H6=>H6.ae λw7 L=>⟨⟨⟨⟨nt k 0 0,rfl,?_,rL _ _ _ _,λb h=>(rM h).elim⟩,W⟩,L.get 0⟩,L.fr⟩;rw[<-S];rfl
 have s0:∀(q:Nat) (D:J),(!st.2&&bH (fP l st.1).k 2)=false->O (·=j) w D [cP j s st,.g q] [cW s l]->oZ.a1 (ab j) q 0 0 0 ⟨none,0,0⟩ D R:=by
  intro q D hq E;unfold q5 at d;rw[hq]at d;dsimp only[cond_false]at d;try dsimp only[oZ.a1,ah]
  refine E.nw λy _ e=>?_;exact loop 6 0 q D.heap.size y io rfl d e
 refine oZ.aq (H.ax λq D E=>E.ae λy e=>⟨st.2,e.ld 0 2,eO (λh=>?_) (λh=>s0 q y (by rw[h];rfl) e)⟩);have hn:=xW (e.getD 0:bo _ _ _ _);refine⟨s,e.ld 0 0,(st.1:Int),e.ld 0 1,io,io,xX (e.getD 0) hi λp hp c=>⟨((fP l st.1).k:Int),?_,aw (λM=>?_) (λM=>s0 q y (by
  have:bH (fP l st.1).k 2=false:=by
   cases F:bH (fP l st.1).k 2 with
   |false=>rfl
   |true=>have:=Nat.eq_of_beq_eq_true F;omega
  rw[this];simp) e)⟩⟩
 .rw [bG,jm];exact c.c2
 have M:(fP l st.1).k=2:=io
 have W:st.1+1<l.length:=by
  rcases Nat.lt_or_ge (st.1+1) l.length with F|F
  .exact F
  .exfalso;have aC:st.1=l.length - 1:=io
   rw[aC,Z.2.2]at M;cases M
 refine⟨(st.1:Int),e.ld 0 1,?_⟩;rw[bp _ io];refine e.R8 0 1 rfl λT z=>?_;have z:O (·=j) w T [cP j s (st.1+1,st.2),.g q] [cW s l]:=z;refine z.ae λw4 A=>⟨s,A.ld 0 0,((st.1+1:Nat):Int),A.ld 0 1,?_⟩;have em:aD .i64 (((st.1+1:Nat):Int) - 1)=(st.1:Int):=by rw[br _ io];omega
 rw[em];unfold q5 at d;rw[h,M]at d;have d:some (Rx.mk 2 (fP l st.1).lo (fP l st.1).hi [],(st.1+1,false))=some (x,K):=d;simp only[fo,fk]at d;obtain⟨d,an⟩:=d;refine⟨io,io,xX (A.getD 0) hi λp hp c=>⟨2,(fP l st.1).lo.toNat,(fP l st.1).hi.toNat,⟨none,0,0⟩,?_,?_,?_,?_,A.ae λw5 B=>⟨⟨⟨⟨nt 2 (fP l st.1).lo (fP l st.1).hi,rfl,d,rL _ _ _ _,λb h=>(rM h).elim⟩,by rw[<-an];exact W⟩,?_⟩,B.fr⟩⟩⟩
 .rw [bG,jm,c.c2,M];rfl
 .rw [bG,add_add];exact c.c3
 .rw [bG,add_add];exact c.c4
 .rw [bG,add_add];exact c.c5
 .have:=B.get 0;rw[<-an,<-h];exact this
def Pc(y:jP l)(x:l.length<=1000000):∀n:Nat,n<=100000->∀m,m<=n->na s l m
 |0,_=>λm B=>by
  have:m=0:=io
  subst this;exact⟨λe st j k h d=>(by unfold lS at d;cases d),λe st j k h d=>(by unfold oU at d;cases d),λe st j k h d=>(by unfold pB at d;cases d),λe st j k h d=>(by unfold ns at d;cases d),λe st j k h d=>(by unfold q5 at d;cases d),λe st j k h d=>(by unfold rJ at d;cases d)⟩
 |n+1,C=>λm B=>by
  have z:=Pc y x n io;rcases Nat.lt_or_ge m (n+1)with A|A
  .exact z m io
  have:m=n+1:=io
  subst this;exact⟨λe st j k h d w q=>Ws y x io z e st j k h d w q,λe st j k h d w q=>VV y x io z e st j k h d w q,λe st j k h d w q=>abm y x io z e st j k h d w q,λe st j k h d w q=>XB y x (z n (bm _)) e st j k h d w q,λe st j k h d w q=>Uf y x (z n (bm _)) e st j k h d w q,λe st j k h d w q=>XK y x io z e st j k h d w q⟩
end
def _root_.Go.W.O.perm{M:Nat->Prop}{w0 w:J}{L j D:List En}(H:O M w0 w L D)(h:L.Perm j):O M w0 w j D:=
 ⟨H.fr,λd e=>H.own d (h.mem_iff.2 e),H.rd,λd e=>H.new d (h.mem_iff.2 e),(h.flatMap_right (·.fp)).nodup_iff.1 H.nd,λd e b q k x=>H.dj d e b q k (h.mem_iff.2 x)⟩
def G7(s:BL):∀(f i:Nat),s.length<f+i->∃init,pK s f i=init++[⟨[],s.length,0,0,0⟩]/\init.length+i<=max i s.length
 |0,i,h=>⟨[],rfl,by simp;omega⟩
 |f+1,i,h=>by
  unfold pK;split
  .exact ⟨[],rfl,by simp;omega⟩
  .split
   .obtain ⟨init,d,j⟩:=G7 s f (i+1) io;exact⟨init,d,io⟩
   .simp only;have q:=Qq s i;have w:=Rg s i s.length 1 io;generalize kF s i=g at q;generalize ow s i s.length 1=e at w;have k:1<=(if g.n=0 then e else g.n)/\i+(if g.n=0 then e else g.n)<=s.length:=by split<;>omega
    generalize(if g.n=0 then e else g.n)=n at k;obtain⟨init,d,j⟩:=G7 s f (i+n) io;exact⟨_::init,by rw[d];rfl,by simp only[bx];omega⟩
def acH(s:BL):jP (nH s)/\(nH s).length<=s.length+1:=by
 obtain⟨init,j,k⟩:=G7 s (s.length+1) 0 io;have h:nH s=init++[⟨[],s.length,0,0,0⟩]:=j;rw[h];have d:(init++[(⟨[],s.length,0,0,0⟩:dF)]).length=init.length+1:=gs
 have e:fP (init++[(⟨[],s.length,0,0,0⟩:dF)]) init.length=⟨[],s.length,0,0,0⟩:=by unfold fP;simp[List.getD_eq_getElem?_getD]
 refine⟨⟨io,?_,?_⟩,io⟩
 .rw [d,Nat.add_sub_cancel,e]
 .rw [d,Nat.add_sub_cancel,e]
def TL(w:J)(x:Rx)(a:Nat)(e:Int)(r:cR)(w':J):Prop:=∃t:I,r=ad (.tuple #[t.v,.i (a:Int),.i e])/\t.rx=x/\t.P w'/\∀b∈t.fp,w.heap.size<=b
def Vc(s:ByteArray)(hs:s.size<=100000)(x:Rx)(a:Nat)(e:Int)(d:uH (bl s)=some (x,a,e))(w:J):aj U My #[.string s] w λr w'=>TL w x a e r w'/\ag w w':=by
 have hl:(bl s).length=s.size:=cZ s;obtain⟨C,hlen⟩:=acH (bl s);unfold uH at d;refine JK.aq ((bT [] gs).ax λT w1 Q=>aY (λh=>Q.ae λw2 H2=>?_) (λh=>Q.hh (UL s hs w1) ?_))
 .rw [af io]at d;simp only[fo,fk]at d;obtain⟨rfl,rfl,rfl⟩:=d;exact⟨⟨ck,rfl,rfl,lf _,λb h=>(lg h).elim⟩,H2.fr⟩
 rw[aa io]at d;generalize nH (bl s)=l at d C hlen;dsimp only at d;rintro _ N ⟨j,rfl,ho,hf⟩ _ F6;have H6:=F6.rd (cW j l) ho.a2 (nD hf);cases H:lS l 1000 (0,false)with
 |none=>rw[H]at d;cases d
 |some ap=>
  obtain⟨r0,M⟩:=ap;rw[H]at d;dsimp only at d;refine⟨j,rfl,H6.nw λw7 _ y=>?_⟩;have y:O F0 w w7 (cP N.heap.size j (0,false)::[.g T]) [cW j l]:=y.perm (List.Perm.swap _ _ _);refine y.iV ((Pc C io 1000 io 1000 (bm _)).expr N.heap.size (0,false) w7 r0 M H C.1 y.gu) ?_;rintro _ az ⟨⟨u,rfl,hu,pu,W⟩,Y⟩ _ F8;have H8:=F8 (.tree u) pu λb h=>W b (a7.1 h);refine⟨_,_,_,u.s,rfl,H8.ax λb6 w9 H9=>H9.ae λam z=>?_⟩;have z:O F0 w am (cP N.heap.size j M::[.g T,.g b6]) [cW j l,.tree u]:=z;refine z.iV (vW z.gu Y io []) ?_;have G:=w8 C Y [] dl;rintro _ ab rfl k _;generalize k' l [] M=sy at d G k;refine⟨rfl,sy.2,k.ld 0 2,bq (λE=>k.ae λaw q=>?_) (λE=>?_)⟩
  .rw [af E]at d;simp only[fo,fk]at d;obtain⟨rfl,rfl,rfl⟩:=d;have hn:=xW (q.getD 0:bo _ _ _ _);refine⟨j,q.ld 0 0,(sy.1:Int),q.ld 0 1,io,io,xX (q.getD 0) G λp hp c=>⟨((fP l sy.1).at_:Int),?_,q.ae λan A=>⟨?_,A.ld 0 1,A.ld 0 0,⟨ck,rfl,rfl,lf _,λb h=>(lg h).elim⟩,A.fr⟩⟩⟩
   .rw [bG];exact c.c1
   .rw [bG];have:=xX (A.getD 0) G (K:=λD=>∃L,j.a=some L/\D=L/\HJ an L sy.1 (fP l sy.1)) (λD Z F=>⟨D,Z,rfl,F⟩);rw[hp]at this;obtain⟨D,Z,rfl,F⟩:=this;exact F.c1
  .rw [aa (by rw[E];simp)]at d;have ak:u.P ab:=k.getD 1;have ar:r0.sz=u.sz:=by rw[<-hu,I.ek]
   by_cases ah:u.sz<=1000000
   .rw [aa io]at d;refine k.av (Co u ab ah ak) ?_;rintro _ ay rfl S;refine⟨_,rfl,aY (λac=>S.ae λao B=>?_) (λac=>S.ae λao B=>?_)⟩
    .rw [af io]at d;simp only[fo,fk]at d;obtain⟨rfl,rfl,rfl⟩:=d;exact⟨⟨ck,rfl,rfl,lf _,λb h=>(lg h).elim⟩,B.fr⟩
    .rw [aa io]at d;simp only[fo,fk]at d;obtain⟨rfl,rfl,rfl⟩:=d;exact⟨⟨u,rfl,hu,B.getD 1,λb h=>bD y.fr.size (W b h)⟩,B.fr⟩
   .rw [af io]at d;cases d
def bM(a b:BL):ba a++ba b=ba (a++b):=by apply ByteArray.ext;rw[ByteArray.data_append];simp[ba]
def pX{w:J}{b n:Nat}{cs:List V}{T:aE}(d:w.heap[b]? =some (.cells cs.toArray T (0,0)))(h:n=cs.length):Rd w ⟨some (ab b),n,n⟩ cs:=
 F8 (s:=⟨some (ab b),n,n⟩) h (bm _) (λd=>by cases d) λi v e=>⟨ab b,rfl,cellAt (p:=ab b) d rfl (by simpa using e)⟩
def IT(c:UInt8)(w:J):aj U MG #[.int .u8 (c.toNat:Int)] w λr e=>r=ad (.bool (eG c))/\ag w e:=by
 refine JP.ok (aY (λd=>⟨?_,Fr.refl _ _⟩) (λd=>⟨?_,Fr.refl _ _⟩))
 .unfold eG;rw[aQ (show 97<=c.toNat by omega),Bool.true_and,show ai ((c.toNat:Int)<=122)=ai (c.toNat<=122)from decide_eq_decide.2 io]
 .unfold eG;rw[aS (show ¬97<=c.toNat by omega),Bool.false_and]
def Cy(c:UInt8)(w:J):aj U Mu #[.int .u8 (c.toNat:Int)] w λr F=>r=ad (.string (ba (dn c)))/\ag w F:=by
 have K:=c.toNat_lt;have z:O F0 w w [] []:=bT [] gs;refine JG.ok (z.call (IU c w) ?_);rintro _ y rfl x;refine⟨_,rfl,bq (λk=>?_) (λk=>?_)⟩
 .refine x.uC (λq _ d h=>?_);have I:((39:UInt8).toNat:Int)=39:=rfl;have e:Bytes q ⟨some (ab y.heap.size),3,3⟩ [39,c,39]:=pX (T:=hV) h rfl;have j:=tt e;refine⟨ba [39,c,39],j,?_,d.fr⟩;unfold dn;rw[af k]
 .have C:aD .i64 (c.toNat:Int)=(c.toNat:Int):=br _ io;have D:aD .i64 (Int.tdiv (c.toNat:Int) 16)=((c.toNat / 16:Nat):Int):=by rw[Int.tdiv_eq_ediv_of_nonneg io,br _ io];omega
  have E:Int.tmod (c.toNat:Int) 16=((c.toNat%16:Nat):Int):=by rw[Int.tmod_eq_emod_of_nonneg io];omega
  rw[C,D,E];refine x.call (CB (c.toNat / 16) io y) ?_;rintro _ q rfl d;refine⟨_,rfl,d.call (CB (c.toNat%16) io q) ?_⟩;rintro _ G rfl A;refine⟨_,rfl,A.uC (λH _ B h=>?_)⟩;have e:Bytes H ⟨some (ab G.heap.size),4,4⟩ [92,120,iX (c.toNat / 16),iX (c.toNat%16)]:=pX (T:=hV) h rfl;have j:=tt e;refine⟨ba [92,120,iX (c.toNat / 16),iX (c.toNat%16)],j,?_,B.fr⟩;unfold dn;rw[aa (by rw[k];simp)]
set_option maxRecDepth 100000
abbrev mN(s:Sl)(l:List Nd)(d:Nd):List En:=[.gr s l,cv d]
def wP{w:J}{s:Sl}{l:List Nd}{d:Nd}(h:GP w s l)(hd:d.P w):O F0 w w [] (mN s l d):=bT _ (by
 intro j e;simp only[aF,a5,a9]at e;rcases e with rfl|rfl
 .exact bf.2 h
 .exact hd)
def UB{w:J}{s:Sl}{l:List Int}(e:bI w s l)(B:l.length<=1000000000000)(n:Int):aj U Mr #[s.v,.i n] w λr k=>r=ad (.bool (ai (n∈l)))/\ag w k:=by
 have C:=bI.len e;have loop:∀(d i:Nat),i+d=l.length->(n∈l↔n∈l.drop i)->wh.L0 s n (i:Int) w λr k=>r=ad (.bool (ai (n∈l)))/\ag w k:=by
  intro d;induction d with
  |zero=>
   intro i z h;rw[dw io]at h;exact wh.cr (aW (aS io) ⟨by rw[aS (λe=>by have:=h.1 e;simp at this)],Fr.refl _ _⟩)
  |succ d A=>
   intro i z h;have q:l[i]? =some (l[i]'io):=a0 io;rw[dy (by omega:i<l.length),aF]at h;generalize l[i]'io=x at q h;refine wh.cr (aU (aQ io) ⟨io,io,e.cell q io λp D y=>⟨x,y,aw (λj=>⟨?_,Fr.refl _ _⟩) (λj=>?_)⟩⟩)
   .rw [aQ (h.2 (.inl j.symm))]
   .rw [bp _ io];exact A (i+1) io (h.trans ⟨λe=>e.resolve_left (λe=>j e.symm),.inr⟩)
 exact wh.ok (loop l.length 0 io gs)
def II{w:J}{s:Sl}{l:List Int}(d:bI w s l)(e:l.length<=1000000000000)(n:Int):aj U M7 #[s.v,.i n] w λr h=>r=ad (.bool (ai (n∈l)))/\ag w h:=by refine J3.ok ((UB d e n).mono ?_);rintro _ j ⟨rfl,f⟩;exact⟨_,rfl,rfl,f⟩
def yI{w:J}{b n:Nat}{l:List Int}{T:aE}(d:w.heap[b]? =some (.cells (l.map bE).toArray T (0,0)))(e:n=l.length):bI w ⟨some (ab b),n,n⟩ l:=
 pX d (by simpa using e)
def dD:Nat:=1000000000
def Kq(op:Int):(ai (op∈[(21:Int),22,23,28])=mF op)/\(ai (op∈[(0:Int),2,33])=mG op):=by
 constructor
 .unfold mF;by_cases d:op=21
  .subst d;rfl
  by_cases e:op=22
  .subst e;rfl
  by_cases h:op=23
  .subst h;rfl
  by_cases j:op=28
  .subst j;rfl
  simp[d,e,h,j]
 .unfold mG;by_cases d:op=0
  .subst d;rfl
  by_cases e:op=2
  .subst e;rfl
  by_cases h:op=33
  .subst h;rfl
  simp[d,e,h]
def Wk(t:ByteArray):(t.toList==(a8 #[]).toList)=ai (t=ba []):=x' _ _
def ZB{n:Nx}{A d:Prop}(k:bB (fL n) d A):∀a b:Bool,a=mF n.op->b=mG n.op->
  let h:=bB (!b) (bB (!(n.tx.toList==(a8 #[]).toList)) A d) d
  let j:=bB (n.op !=1) (bB (n.u !=0) A h) h
  let e:=bB (n.op !=21) (bB (n.m !=0) A j) j
  bB (!a) (bB (n.n !=0) A e) e:=by rintro a b rfl rfl;dsimp only;rw[Wk];unfold fL at k;have q:(n.op !=1)= !(n.op==1):=rfl;have w:(n.op !=21)= !(n.op==21):=rfl;have x:(n.n !=0)= !(n.n==0):=rfl;have y:(n.m !=0)= !(n.m==0):=rfl;have z:(n.u !=0)= !(n.u==0):=rfl;rw[q,w,x,y,z];generalize(n.op==1)=p1 at *;generalize(n.op==21)=p2 at *;generalize(n.n==0)=p3 at *;generalize(n.m==0)=p4 at *;generalize(n.u==0)=p5 at *;generalize ai (n.tx=ba [])=p6 at *;generalize mF n.op=p7 at *;generalize mG n.op=p8 at *;cases p1<;>cases p2<;>cases p3<;>cases p4<;>cases p5<;>cases p6<;>cases p7<;>cases p8<;>exact k
def n6(g:List Nx)(n:Nx):Int:=if(b6 n.op==(n.kids.length:Int)&&n.kids.all (dK g)&&fL n)=true then 0 else 1
def UW{w:J}{s:Sl}{l:List Nd}{d:Nd}(q:GP w s l)(hd:d.P w)(hk:d.x.kids.length<=dD):aj U M5 #[s.v,d.v] w λr D=>r=ad (.i (n6 (xs l) d.x))/\ag w D:=by
 have hn:=h' q;have H:d.ks.n=d.x.kids.length:=bI.len hd;have L:(xs l).length=l.length:=by simp[xs]
 unfold dD at hk;have loop:∀(m i:Nat) (h:Nat) (e:J),i+m=d.x.kids.length->(b6 d.x.op==(d.x.kids.length:Int))=true->(d.x.kids.all (dK (xs l))=(d.x.kids.drop i).all (dK (xs l)))->O F0 w e [.g h] (mN s l d)->
   wy.a4 s h d.x.op d.ks d.x.n d.x.m d.x.u d.x.tx d.x.st.k d.x.st.n d.x.st.x (i:Int) e λr D=>r=ad (.i (n6 (xs l) d.x))/\ag w D:=by
  intro m;induction m with
  |zero=>
   intro i h e hi C j y;rw[dw io]at j;refine wy.bR (aW (aS io) (y.nw λM _ z=>z.av (II (l:=[21,22,23,28]) (yI (n:=4) (z.ob 1) rfl) dl d.x.op) ?_));rintro _ N rfl A;refine⟨_,rfl,A.nw λw4 _ E=>E.av (II (l:=[0,2,33]) (yI (n:=3) (E.ob 2) rfl) dl d.x.op) ?_⟩;rintro _ w5 rfl F;refine⟨_,rfl,?_⟩;have G:∀b:Bool,fL d.x=b->n6 (xs l) d.x=if b=true then 0 else 1:=λb W=>by unfold n6;rw[C,j,W];rfl
   exact ZB (n:=d.x) (bq (λq=>⟨by rw[G _ q];rfl,F.fr⟩) (λq=>⟨by rw[G _ q];rfl,F.fr⟩)) _ _ (Kq d.x.op).1 (Kq d.x.op).2
  |succ m ih=>
   intro i h e hi C j y;have B:d.x.kids[i]? =some (d.x.kids[i]'io):=a0 io;rw[dy (by omega:i<d.x.kids.length),List.all_cons]at j;generalize d.x.kids[i]'io=x at B j;have bad:dK (xs l) x=false->(Ending.returned (.i 1)=ad (.i (n6 (xs l) d.x))/\ag w e):=λhx=>⟨by unfold n6;rw[j,hx];simp,y.fr⟩;have I:bI e d.ks d.x.kids:=y.getD 1;refine wy.bR (aU (aQ io) ⟨io,io,I.cell B io λp hp Y=>⟨x,Y,aY (λS=>bad ?_) (λS=>⟨io,io,I.cell B io λp' ab Z=>⟨x,Z,aY (λT=>bad ?_) (λT=>?_)⟩⟩)⟩⟩)
   .unfold dK;rw[aS io];rfl
   .unfold dK;rw[aS (show ¬x<((xs l).length:Int)by rw[L];omega)];simp
   .rw [bp _ io];refine ih (i+1) h e io C ?_ y;rw[j];unfold dK;rw[aQ (show 0<=x by omega),aQ (show x<((xs l).length:Int)by rw[L];omega)];rfl
 refine wy.aq ((wP q hd).ax λh e Q=>Q.ae λM z=>z.av (Ir d.x.op M) ?_);rintro _ N rfl A;refine⟨_,rfl,cz (λK=>⟨?_,A.fr⟩) (λaa=>?_)⟩
 .unfold n6;rw[beq_eq_false_iff_ne.2 (by rw[H]at K;exact K)];rfl
 .exact loop d.x.kids.length 0 h N io (by rw[aa,H];simp) gs A
def yx(g:List Nx):Prop:=∀d∈g,d.op=0->∀e∈g,e.op=0->d.tx=e.tx->d.st=e.st
def vq(n d:Nx):Bool:=ai (d.op=0/\d.tx=n.tx/\d.st≠n.st)
def Td{t:ByteArray}{s:aP}:∀{g:List Nx},me g t=some s->∃e∈g,e.op=0/\e.tx=t/\e.st=s
 |e::g,d=>by
  unfold me at d;split at d
  .rename_i h;exact⟨e,gs,h.1,h.2,Option.some.inj d⟩
  .obtain ⟨j,k,d⟩:=Td d;exact⟨j,List.mem_cons_of_mem _ k,d⟩
def Te{t:ByteArray}:∀{g:List Nx},me g t=none->∀d∈g,d.op=0->d.tx≠t
 |a::g,e,d,h,j,k=>by
  unfold me at e;split at e
  .cases e
  .rename_i q;rcases aF.1 h with rfl|h
   .exact q ⟨j,k⟩
   .exact Te e d h j k
def SP{g:List Nx}(A:yx g)(n:Nx):sJ g n=g.any (vq n):=by
 unfold sJ;cases q:me g n.tx with
 |none=>
  symm;rw[List.any_eq_false];intro e h d;have d:=eQ d;exact Te q e h d.1 d.2.1
 |some s=>
  obtain⟨e,h,w,x,y⟩:=Td q;by_cases j:s=n.st
  .simp only[j,decide_true,Bool.not_true];symm;rw[List.any_eq_false];intro k z d;have d:=eQ d;exact d.2.2 ((A k z d.1 e h w (d.2.1.trans x.symm)).trans (y.trans j))
  .simp only[j,decide_false,Bool.not_false];symm;rw[List.any_eq_true];exact⟨e,h,aQ ⟨w,x,λk=>j (y.symm.trans k)⟩⟩
def ZZ(n:Int)(h:0<=n)(j:n<64):aD .u64 (1 *2^(min (aZ n) (IntKind.bits .u64)))=((2^n.toNat:Nat):Int):=by
 have d:min (aZ n) (IntKind.bits .u64)=n.toNat:=by show min n.toNat 64=_;omega
 have e:(2:Nat)^n.toNat<=2^63:=Nat.pow_le_pow_right io io;rw[d,Int.one_mul,show((2:Int)^n.toNat)=((2^n.toNat:Nat):Int)from by rw[Int.natCast_pow];rfl];generalize(2:Nat)^n.toNat=m at e;exact IntWalk.u64_in _ io
abbrev gO(x:aP×Int):cR:=ad (.tuple #[dA x.1,.i x.2])
def vv{s:aP}(d:bw s=true)(e:s.k=0):1<=s.n/\s.n<=64/\s.x=0:=by unfold bw at d;simp[e]at d;omega
def m0{s:aP}(d:bw s=true):0<=s.n/\s.n<=64/\0<=s.x/\s.x<=16/\0<=s.k/\s.k<=3:=by unfold bw at d;simp at d;omega
def U6{w:J}{s:Sl}{l:List Nd}{d:Nd}(h:GP w s l)(hd:d.P w)(hl:l.length<=dD)(h0:0<=d.x.op)(h3:d.x.op<=3)(hv:yx (xs l)):aj U M8 #[s.v,d.v] w λr q=>r=gO (cg (xs l) d.x)/\ag w q:=by
 have hn:=h' h;have az:(xs l).length=l.length:=by simp[xs]
 unfold dD at hl;have e0:d.x.op=0\/d.x.op=1\/d.x.op=2\/d.x.op=3:=io
 refine km.aq ((wP h hd).ax λB w1 H1=>H1.ax λz w2 Y=>aw (λZ=>?_) (λZ=>?_))
 .refine aY (λhs=>Y.ae λM H=>⟨?_,H.fr⟩) (λhs=>Y.av (oR _ w2) ?_)
  .unfold cg;rw[af Z,af io];rfl
  .rintro _ M rfl H;refine⟨_,_,_,rfl,H.ae λw4 N=>⟨?_,N.fr⟩⟩;unfold cg;rw[af Z,aa io]
 have F:cg (xs l) d.x=if d.x.op=0/\i3 (bl d.x.tx)=false then(a6,6)else
   if bw d.x.st=false then(a6,9)else
   if d.x.op=1/\d.x.st.k≠0\/d.x.op=3/\ed d.x.st=false then(a6,9)else
   if d.x.op=1/\lL d.x.u d.x.st.n=true then(a6,5)else
   if d.x.op=0/\(xs l).any (vq d.x)=true then(a6,8)else(d.x.st,0):=by unfold cg;rw[aa Z,SP hv]
 have S0:∀(nm:Bool) (M:J),nm=(!decide (d.x.op=0)||i3 (bl d.x.tx))->O F0 w M [.g B,.g z] (mN s l d)->km.a1 s B d.x.op d.ks d.x.n d.x.m d.x.u d.x.tx d.x.st.k d.x.st.n d.x.st.x z 0 0 0 nm M λr q=>r=gO (cg (xs l) d.x)/\ag w q:=by
  intro nm M Q H;refine eO (λK=>H.ae λw4 N=>⟨?_,N.fr⟩) (λE=>?_)
  .rw [K]at Q;have Q:=Q.symm;simp only[Bool.or_eq_false_iff,Bool.not_eq_false',decide_eq_true_eq]at Q;rw[F,af Q];rfl
  have ao:¬(d.x.op=0/\i3 (bl d.x.tx)=false):=λhc=>by rw[E,hc.2,aQ hc.1]at Q;simp at Q
  rw[aa ao]at F;refine H.av (aai d.x.st M) ?_;rintro _ w4 rfl N;refine⟨_,rfl,Gx (λK=>N.ae λj A=>⟨?_,A.fr⟩) (λE=>?_)⟩
  .rw [F,af K];unfold fX;rw[K];rfl
  rw[aa (by rw[E];simp)]at F;have loop:∀(m i:Nat) (j:J),i+m=l.length->cg (xs l) d.x=(if d.x.op=0/\((xs l).drop i).any (vq d.x)=true then(a6,8)else(d.x.st,0))->O F0 w j [.g B,.g z] (mN s l d)->
    km.iO s B d.x.op d.ks d.x.n d.x.m d.x.u d.x.tx d.x.st.k d.x.st.n d.x.st.x z 0 0 0 (i:Int) j λr q=>r=gO (cg (xs l) d.x)/\ag w q:=by
   intro m;induction m with
   |zero=>
    intro i j hi G A;rw[dw io]at G;refine km.mj (aW (aS io) (A.ae λC y=>⟨?_,y.fr⟩));rw[G,aa gs]
   |succ m ih=>
    intro i j hi G A;have W:l[i]? =some (l[i]'io):=a0 io;have hx:(xs l).drop i=(l[i]'io).x::(xs l).drop (i+1):=by rw[dy (by omega:i<(xs l).length)];simp[xs]
    rw[hx,List.any_cons]at G;generalize l[i]'io=e at W G;have next:∀C,O F0 w C [.g B,.g z] (mN s l d)->(d.x.op=0->vq d.x e.x=false)->km.kW s B d.x.op d.ks d.x.n d.x.m d.x.u d.x.tx d.x.st.k d.x.st.n d.x.st.x z 0 0 0 (i:Int) C λr q=>r=gO (cg (xs l) d.x)/\ag w q:=by
     intro C y E;show km.iO s B d.x.op d.ks d.x.n d.x.m d.x.u d.x.tx d.x.st.k d.x.st.n d.x.st.x z 0 0 0 (aD .i64 ((i:Int)+1)) C _;rw[bp _ io];refine ih (i+1) C io ?_ y;rw[G];by_cases S:d.x.op=0
     .rw [E S,Bool.false_or]
     .rw [aa (λh=>S h.1),aa (λh=>S h.1)]
    have G5:GP j s l:=bf.1 (A.getD 0);refine km.mj (aU (aQ io) (aw (λS=>?_) (λS=>A.ae λC y=>next C y (λh=>absurd h S))));refine eE G5 rfl W λp hp _=>A.ae λC y=>?_;have c6:=wG (bf.1 (y.getD 0)) W hp (rfl:((i:Int))=(i:Int));refine⟨_,c6.c0,aw (λT=>?_) (λT=>next C y λ_=>aS λh=>T h.1)⟩;refine eE (bf.1 (y.getD 0)) rfl W λp1 ar an=>⟨_,an.c5,AO (λE=>?_) (λE=>next C y λ_=>aS λh=>E h.2.1)⟩;refine eE (bf.1 (y.getD 0)) rfl W λp2 ay ab=>⟨_,_,_,ab.s0,ab.s1,ab.s2,xG (λK=>y.ae λw7 H7=>⟨?_,H7.fr⟩) (λap=>next C y λ_=>aS λh=>h.2.2 ap)⟩;rw[G,af ⟨S,by rw[show vq d.x e.x=true from aQ ⟨T,E,K⟩];rfl⟩];rfl
  have S4:∀j:J,cg (xs l) d.x=(if d.x.op=0/\(xs l).any (vq d.x)=true then(a6,8)else(d.x.st,0))->O F0 w j [.g B,.g z] (mN s l d)->
    km.ft s B d.x.op d.ks d.x.n d.x.m d.x.u d.x.tx d.x.st.k d.x.st.n d.x.st.x z 0 0 0 j λr q=>r=gO (cg (xs l) d.x)/\ag w q:=λj G A=>loop l.length 0 j io G A
  have S1:∀(a:Bool) (j:J),a=ed d.x.st->O F0 w j [.g B,.g z] (mN s l d)->km.bh s B d.x.op d.ks d.x.n d.x.m d.x.u d.x.tx d.x.st.k d.x.st.n d.x.st.x z 0 0 0 a j λr q=>r=gO (cg (xs l) d.x)/\ag w q:=by
   rintro a j rfl A;have bad:(d.x.op=1/\d.x.st.k≠0\/d.x.op=3/\ed d.x.st=false)->km.bC z 0 0 0 j λr q=>r=gO (cg (xs l) d.x)/\ag w q:=λD=>A.ae λC y=>⟨by rw[F,af D];rfl,y.fr⟩;have S3:¬(d.x.op=1/\d.x.st.k≠0\/d.x.op=3/\ed d.x.st=false)->km.cF s B d.x.op d.ks d.x.n d.x.m d.x.u d.x.tx d.x.st.k d.x.st.n d.x.st.x z 0 0 0 j λr q=>r=gO (cg (xs l) d.x)/\ag w q:=λD=>by
    rw[aa D]at F;refine aw (λI=>?_) (λI=>S4 j (by rw[F,aa (λh=>I h.1)]) A);have L:d.x.st.k=0:=by
     rcases Int.decEq d.x.st.k 0 with h|h
     .exact absurd (.inl ⟨I,h⟩) D
     .exact h
    obtain⟨v1,v2,_⟩:=vv E L;have ew:aD .u64 d.x.st.n=d.x.st.n:=IntWalk.u64_in _ io;refine aY (λac=>⟨by rw[ew];omega,?_⟩) (λac=>S4 j (by rw[F,aa];rintro⟨_,D⟩;unfold lL at D;rw[aS io]at D;cases D) A);rw[ew,ZZ _ io ac];have hp:((2^d.x.st.n.toNat:Nat):Int)=(2:Int)^d.x.st.n.toNat:=by rw[Int.natCast_pow];rfl
    rw[hp];refine aY (λak=>A.ae λC y=>⟨?_,y.fr⟩) (λak=>S4 j ?_ A)
    .rw [F,af ⟨I,by unfold lL;rw[aQ ac,aQ ak];rfl⟩];rfl
    .rw [F,aa];rintro⟨_,D⟩;unfold lL at D;rw[aS (by omega:¬(2:Int)^d.x.st.n.toNat<=d.x.u),Bool.and_false]at D;cases D
   have am:¬(d.x.op=1/\d.x.st.k≠0)->bB (d.x.op==3) (bB (!ed d.x.st) (km.bC z 0 0 0 j λr q=>r=gO (cg (xs l) d.x)/\ag w q) (km.cF s B d.x.op d.ks d.x.n d.x.m d.x.u d.x.tx d.x.st.k d.x.st.n d.x.st.x z 0 0 0 j λr q=>r=gO (cg (xs l) d.x)/\ag w q)) (km.cF s B d.x.op d.ks d.x.n d.x.m d.x.u d.x.tx d.x.st.k d.x.st.n d.x.st.x z 0 0 0 j λr q=>r=gO (cg (xs l) d.x)/\ag w q):=λL=>
    aw (λh3=>eO (λK=>bad (.inr ⟨h3,K⟩)) (λE=>S3 (by rintro(h|h);exact L h;rw[E]at h;cases h.2))) (λh3=>S3 (by rintro(h|h);exact L h;exact h3 h.1))
   exact aw (λI=>cz (λL=>bad (.inl ⟨I,L⟩)) (λL=>am (λh=>h.2 L))) (λI=>am (λh=>I h.1))
  refine aw (λah=>S1 true w4 ?_ N) (λah=>S1 _ w4 ?_ N)
  .unfold ed;rw[ah];rfl
  .unfold ed;rw[beq_eq_false_iff_ne.2 ah];rfl
 refine cz (λT=>S0 true w2 ?_ Y) (λT=>Y.av (UF d.x.tx w2) ?_)
 .rw [aS T];rfl
 .rintro _ M rfl H;exact⟨_,rfl,S0 _ M (by rw[aQ T];rfl) H⟩
def Bo{s:aP}(w:(s.k=0/\1<=s.n/\s.n<=64/\s.x=0)\/(s.k=1/\0<=s.n/\s.n<=64/\s.x=0)\/(s.k=2/\1<=s.n/\s.n<=64/\1<=s.x/\s.x<=16)\/(s.k=3/\0<=s.n/\s.n<=64/\1<=s.x/\s.x<=16)):bw s=true:=by unfold bw;rcases w with⟨d,e,h,j⟩|⟨d,e,h,j⟩|⟨d,e,h,j,q⟩|⟨d,e,h,j,q⟩<;>simp[d,e,h,j]<;>simp[q]
def Tc{s:aP}:bw s=true↔(s.k=0/\1<=s.n/\s.n<=64/\s.x=0)\/(s.k=1/\0<=s.n/\s.n<=64/\s.x=0)\/(s.k=2/\1<=s.n/\s.n<=64/\1<=s.x/\s.x<=16)\/(s.k=3/\0<=s.n/\s.n<=64/\1<=s.x/\s.x<=16):=by refine⟨λd=>?_,Bo⟩;unfold bw at d;simp only[Bool.or_eq_true,be,beq_iff_eq,decide_eq_true_eq]at d;omega
structure qY(g:List Nx)(n:Nx):Prop where
 kl:b6 n.op=(n.kids.length:Int)
 ki:∀k∈n.kids,0<=k/\k<(g.length:Int)
 ok:fL n=true
def A0{g:List Nx}{n:Nx}(e:(bP g n).2=0):qY g n:=by
 unfold bP at e;split at e
 .cases e
 .rename_i d;simp only[Bool.and_eq_false_iff,not_or,Bool.not_eq_false,beq_iff_eq]at d;refine⟨d.1.1,λj h=>?_,d.2⟩;have:=cY.1 d.1.2 j h;unfold dK at this;simpa using this
def Lg{g:List Nx}{n:Nx}(k:∀h∈g,bw h.st=true)(j:∀e∈n.kids,0<=e/\e<(g.length:Int)){i:Nat}(hi:i<n.kids.length):bw (bg g n i)=true:=by
 have q:=j _ (As hi);unfold bg;rw[a0 hi];dsimp only;have d:(n.kids[i]).toNat<g.length:=io
 rw[a0 d];exact k _ (As d)
def Wj{x:aP}(e:bw x=true)(d:ed x=true):bw (iv x)=true:=by
 rw[Tc]at e;unfold ed at d;simp only[Bool.or_eq_true,beq_iff_eq]at d;unfold iv;refine Bo ?_;split
 .show (0=0/\1<=x.n/\x.n<=64/\0=0)\/_;left;omega
 .right;left;show(1:Int)=1/\0<=x.n/\x.n<=64/\(0:Int)=0;omega
def oQ{n:Int}(d:1<=n)(e:n<=64):bw (aN n)=true:=Bo (.inl ⟨rfl,d,e,rfl⟩)
def xQ{n:Int}(d:0<=n)(e:n<=64):bw (e9 n)=true:=Bo (.inr (.inl ⟨rfl,d,e,rfl⟩))
def abR{g:List Nx}{n:Nx}(W:∀M∈g,bw M.st=true)(d:(bP g n).2=0):bw (bP g n).1=true:=by
 have D:=A0 d;have C:∀i:Nat,(i:Int)<b6 n.op->bw (bg g n i)=true:=λi Y=>Lg W D.ki (by have:=D.kl;omega);unfold bP at d ⊢;split at d
 .cases d
 rename_i G;rw[aa G];split at d
 .rename_i F;rw[af F];unfold cg at d ⊢;split at d
  .rename_i w;rw[af w];split at d
   .cases d
   .rename_i T;rw[aa T];exact xQ io io
  .rename_i w;rw[aa w];split at d
   .cases d
   rename_i N;rw[aa N];split at d
   .cases d
   rename_i j;rw[aa j];split at d
   .cases d
   rename_i P;rw[aa P];split at d
   .cases d
   rename_i Q;rw[aa Q];split at d
   .cases d
   rename_i S;rw[aa S];simpa using j
 rename_i F;rw[aa F];split at d
 .cases d
 rename_i e;rw[aa e];split at d
 .cases d
 rename_i h;rw[aa h];split at d
 .cases d
 rename_i H;rw[aa H];simp only[Bool.not_eq_false]at e h;have O:n.op<=34:=by
  rcases Int.lt_or_le 34 n.op with d|d
  .have:=D.kl;unfold b6 at this;rw[af (.inr d)]at this;omega
  .exact d
 generalize I:bg g n 0=x at *;generalize K:bg g n 1=y at *;generalize L:bg g n 2=z at *;have q:bw x=true:=by rw[<-I];exact C 0 (by unfold b6;repeat' split<;>omega)
 have A:2<=b6 n.op->bw y=true:=λd=>by rw[<-K];exact C 1 io
 have E:b6 n.op=3->bw z=true:=λd=>by rw[<-L];exact C 2 io
 obtain⟨op,kids,B,m,u,Z,st⟩:=n;simp only at *;clear I K L C D G H;rcases uF io O with rfl|rfl|rfl|rfl|rfl|rfl|rfl|rfl|rfl|rfl|rfl|rfl|rfl|rfl|rfl|rfl|rfl|rfl|rfl|rfl|rfl|rfl|rfl|rfl|rfl|rfl|rfl|rfl|rfl|rfl|rfl|rfl|rfl|rfl|rfl
 iterate 4 omega
 all_goals first |(have A:=A dl)|skip
 all_goals first |(have E:=E dl)|skip
 iterate 12 exact q
 iterate 3 exact oQ io io
 .show bw (if y.k=1 then e9 (if y.n<z.n then z.n else y.n)else y)=true;split
  .rename_i C;have e:(ai (x=aN 1)&&(ai (y=z)||(y.k==1&&z.k==1)))=true:=e;have j:=m0 A;have w:=m0 E;exact xQ (by split<;>omega) (by split<;>omega)
  .exact A
 .have e:(x.k==0&&y.k==0)=true:=e;have h:ai (x.n+y.n<=64)=true:=h;simp only[be,beq_iff_eq]at e;have j:=vv q e.1;have w:=vv A e.2;exact oQ io (eQ h)
 .have e:(x.k==0)=true:=e;have h:(ai (0<=m)&&ai (m<=B)&&ai (B<x.n))=true:=h;simp only[be,decide_eq_true_eq]at h;have j:=vv q (eq_of_beq e);show bw (aN (B - m+1))=true;exact oQ io io
 iterate 2
  .have e:(x.k==0)=true:=e;have h:(ai (1<=B)&&ai (B<=64 - x.n))=true:=h;simp only[be,decide_eq_true_eq]at h;have j:=vv q (eq_of_beq e);show bw (aN (x.n+B))=true;exact oQ io io
 .have e:(ed x&&ai (y=aN x.x))=true:=e;simp only[be]at e;exact Wj q e.1
 .exact q
 .have e:(ed x&&ai (x=y))=true:=e;simp only[be]at e;have j:=e.1;unfold ed at j;simp only[Bool.or_eq_true,beq_iff_eq]at j;rw[Tc]at q;exact oQ io io
 .exact oQ io io
 .exact oQ io io
 .have h:ai (x.n+y.n<=64)=true:=h;have j:=m0 q;have w:=m0 A;exact xQ io (eQ h)
 .exact q
 .exact oQ io io
 .have h:ai (x.n+z.n<=64)=true:=h;have j:=m0 q;have w:=m0 E;exact xQ io (eQ h)
 .exact oQ io io
 .exact xQ io io
def Vg.val{g:List Nx}(k:Vg g):∀e∈g,bw e.st=true:=by
 induction k with
 |nil=>simp
 |snoc q h w j=>
  intro e d;rcases aK.1 d with d|d
  .exact j e d
  .simp only[aF,a5,a9]at d;subst d;have:=abR j (by rw[h])
   rwa[h]at this
def var_eq{g D:List Nx}{a b:Nx}(h:qY g a)(F:qY D b)(e:a.op=0)(j:b.op=0)(H:a.tx=b.tx)(G:a.st=b.st):a=b:=by
 have k:∀{g:List Nx} {a:Nx},qY g a->a.op=0->a.kids=[]/\a.n=0/\a.m=0/\a.u=0:=by intro g a h e;have E:=h.kl;have d:=h.ok;rw[e]at E;unfold fL at d;rw[e]at d;refine⟨List.eq_nil_of_length_eq_zero (by have:b6 0=0:=rfl;omega),?_⟩;have:mF 0=false:=rfl;rw[this]at d;simp at d;exact⟨d.1.1.1,d.1.1.2,d.1.2⟩
 obtain⟨q,w,x,y⟩:=k h e;obtain⟨z,A,B,C⟩:=k F j;cases a;cases b;simp only at *;subst e j H G q w x y z A B C;rfl
def Vg.ok{g:List Nx}(j:Vg g):∀i e,g[i]? =some e->bP (g.take i) e=(e.st,0):=by
 induction j with
 |nil=>intro i e d;simp at d
 |@snoc g n w k x q=>
  intro i e d;rcases Nat.lt_or_ge i g.length with h|h
  .rw [List.getElem?_append_left h]at d;rw[List.take_append_of_le_length io];exact q i e d
  .rw [List.getElem?_append_right h]at d;have:i - g.length=0:=by have:=(cq.1 d).1;simp at this;omega
   rw[this]at d;simp at d;subst d;rw[show i=g.length by omega,List.take_left];exact k
def Vg.u7{g:List Nx}(e:Vg g):∀i d,g[i]? =some d->qY (g.take i) d:=λi d h=>A0 (by rw[e.ok i d h])
def Vg.kids{g:List Nx}(h:Vg g){i:Nat}{d:Nx}(hd:g[i]? =some d):∀e∈d.kids,0<=e/\e<(i:Int):=λe k=>by have j:=(h.u7 i d hd).ki e k;have q:=(cq.1 hd).1;rw[List.length_take]at j;omega
def Vg.vars{g:List Nx}(x:Vg g):yx g:=by
 induction x with
 |nil=>intro j e;cases e
 |@snoc g n B d C A=>
  have one:∀j∈g,j.op=0->n.op=0->j.tx=n.tx->j.st=n.st:=by
   intro j e q w k;have D:qY g n:=A0 (by rw[d]);unfold bP at d;split at d
   .simp at d
   rw[af (by omega:n.op<=3)]at d;unfold cg at d;rw[aa io]at d;split at d
   .simp at d
   split at d
   .simp at d
   split at d
   .simp at d
   split at d
   .simp at d
   split at d
   .simp at d
   rename_i y;simp only[w,true_and,ij]at y;rw[SP A,List.any_eq_false]at y;rcases decEq j.st n.st with x|x
   .exact absurd (aQ ⟨q,k,x⟩) (y j e)
   .exact x
  intro j e q z h w k;have e:=aK.1 e;have h:=aK.1 h;simp only[aF,a5,a9]at e h;rcases e with e|e
  .rcases h with h|h
   .exact A j e q z h w k
   .rw [h]at k w ⊢;exact one j e q w k
  .rw [e]at k q ⊢;rcases h with h|h
   .exact (one z h w q k.symm).symm
   .rw [h]
def DW{n:Nx}:∀{g:List Nx} {i:Nat},gE n g i=none->n∉g
 |[],i,_=>gs
 |j::g,i,d=>by
  unfold gE at d;split at d
  .cases d
  .rename_i h;simp only[aF,not_or];exact⟨λe=>h e.symm,DW d⟩
def DX{n:Nx}:∀{g:List Nx} {i k:Nat},gE n g i=some k->i<=k/\g[k - i]? =some n
 |h::g,i,k,d=>by
  unfold gE at d;split at d
  .rename_i e;cases d;simp[e]
  .have:=DX d;refine⟨io,?_⟩;rw[show k - i=(k - (i+1))+1 by omega];simpa using this.2
def hG(ts:List BL):Nat:=(ts.map λt=>t.length+2).sum
def r8(d:Nat)(a:Rx)(t:BL):(cI d a t).length<=t.length+2/\t.length<=(cI d a t).length:=by
 unfold cI
 grind
def D9(k:Int):∀(ts:List BL) (out:BL),(jU k out ts).length<=out.length+hG ts/\out.length<=(jU k out ts).length
 |[],out=>by simp[jU,hG]
 |t::ts,out=>by
  unfold jU;have d:=D9 k ts ((if k=3/\eG (k8 out)=true/\eG (gQ t 0)=true then out++[32]else out)++g7 k++t);have h:(g7 k).length<=1:=by unfold g7;grind
  have q:k=3->(g7 k).length=0:=λe=>by unfold g7;grind
  have j:((if k=3/\eG (k8 out)=true/\eG (gQ t 0)=true then out++[32]else out):BL).length<=out.length+2 - (g7 k).length/\out.length<=((if k=3/\eG (k8 out)=true/\eG (gQ t 0)=true then out++[32]else out):BL).length:=by grind
  simp only[bb]at d;have w:hG (t::ts)=t.length+2+hG ts:=by simp[hG]
  omega
mutual
def yf:∀x:Rx,(a' x).length+4<=18 *x.sz
 |.mk d lo j l=>by
  have q:∀c,(dn c).length<=4:=λc=>by unfold dn;grind
  have D:=sQ 3 l;have E:=sQ 4 l;have C:=sQ 0 l;have H:(rV d).length=4:=by unfold rV;grind
  have h:∀e,(ku (dd e l)).length<=hG (dd e l):=λe=>by
   cases dd e l with
   |nil=>simp[ku]
   |cons t k=>simp[ku,hG];omega
  have A:=h 3;have B:=h 4;have z:=h 0;have G:=q lo;have F:=q j;unfold Rx.sz;unfold a';split
  .grind
  .split
   .simp;omega
   .split
    .grind
    .split
     .grind
     .split
      .grind
      .split
       .grind
       .have w:=sQ (cM (.mk d lo j l)+1) l;cases y:dd (cM (.mk d lo j l)+1) l with
        |nil=>show 0+4<=_;omega
        |cons t k=>
         rw[y]at w;have:=(D9 d k t).1;simp only[hG,List.map_cons,List.sum_cons]at w;simp only[hG]at this;show(jU d t k).length+4<=_;omega
def sQ(d:Nat):∀l:List Rx,hG (dd d l)<=18 *Rx.a3 l
 |[]=>by simp[dd,hG]
 |a::l=>by have h:=yf a;have e:=sQ d l;have j:=(r8 d a (a' a)).1;unfold dd Rx.a3;simp only[hG,List.map_cons,List.sum_cons]at e ⊢;omega
end
def z9{k:Int}{lo hi:UInt8}{l:List Rx}(d:i7 (.mk k lo hi l)=true):0<=k/\k<=7/\(k=6\/k=7->l.length=1)/\oh l=true:=by
 unfold i7 at d
 grind
def z':∀{l:List Rx} {a:Rx},oh l=true->a∈l->i7 a=true
 |b::l,a,d,e=>by
  unfold oh at d;rw[be]at d;rcases aF.1 e with rfl|e
  .grind
  .exact z' d.2 e
def Bz:∀k:Rx,i7 k=true->0<(a' k).length
 |.mk d lo j l=>λq=>by
  obtain⟨w,x,y,e⟩:=z9 q;have z:∀c,0<(dn c).length:=λc=>by unfold dn;grind
  unfold a';split
  .simp
  .split
   .simp
   .split
    .grind
    .split
     .simp
     .split
      .simp
      .split
       .grind
       .rename_i h
        match l,e,h with
        |[],_,h=>grind
        |a::m,e,h=>
         have:=Bz a (z' e gs);unfold dd;show 0<(jU _ _ _).length;have A:=(D9 d (dd (cM (.mk d lo j (a::m))+1) m) (cI (cM (.mk d lo j (a::m))+1) a (a' a))).2;have B:=(r8 (cM (.mk d lo j (a::m))+1) a (a' a)).2;omega
def Cz(x:I)(w:J)(G:0<=x.k)(H:x.k<=7)(B:x.P w):aj U EI #[x.v] w λr d=>r=ad (.i (cM x.rx:Int))/\ag w d:=by
 have L:=I.cw B.parts.1;have K:(I.ao x.l).length=x.l.length:=by rw[I.fN,List.length_map]
 have D:cM x.rx=if x.k=6 then 3 else if x.k<3\/x.k=7\/x.l.length<2 then 4 else if x.k=3 then 2 else if x.k=4 then 0 else 1:=by
  rw[I.fi];unfold cM
  grind
 rw[D];have four:∀d,ag w d->x.k≠6->(x.k<3\/x.k=7\/x.l.length<2)->Dj.a1 d λr d=>r=ad (.i ((if x.k=6 then 3 else if x.k<3\/x.k=7\/x.l.length<2 then 4 else if x.k=3 then 2 else if x.k=4 then 0 else 1:Nat):Int))/\ag w d:=λd f j F=>⟨by grind,f⟩;refine Dj.aq ((gH B).ax λb y h=>aw (λj=>⟨by grind,h.fr⟩) (λj=>aY (λz=>four y h.fr j (.inl z)) (λz=>aw (λA=>four y h.fr j (.inr (.inl A))) (λA=>aY (λE=>four y h.fr j (.inr (.inr io))) (λE=>?_)))));refine h.nw λM _ e=>?_;have q:x.k=3\/x.k=4\/x.k=5:=io
 have C:(if x.k=6 then 3 else if x.k<3\/x.k=7\/x.l.length<2 then 4 else if x.k=3 then 2 else if x.k=4 then 0 else 1:Nat)=if x.k=3 then 2 else if x.k=4 then 0 else 1:=by grind
 rw[C];rcases q with q|q|q<;>rw[q]
 .exact ⟨dl,dl,lj ⟨2,e.ld 1 0,rfl,e.fr⟩⟩
 .exact ⟨dl,dl,lj ⟨0,e.ld 1 1,rfl,e.fr⟩⟩
 .exact ⟨dl,dl,lj ⟨1,e.ld 1 2,rfl,e.fr⟩⟩
def Lj(t:BL)(d:0<t.length):gQ t (t.length - 1)=k8 t:=by
 unfold gQ k8
 grind
def ace(l:List I)(i:Nat):Rx.a3 (I.ao (l.drop i))<=I.a3 l:=by
 rw[I.xF];induction l generalizing i with
 |nil=>simp
 |cons a l d=>
  cases i with
  |zero=>grind
  |succ i=>have:=d i;show _<=a.sz+I.a3 l;grind
abbrev TY(n:Nat):Prop:=∀(x:I) (d:Nat) (w:J),x.sz<=n->d<=1000->i7 x.rx=true->x.P w->aj U qn #[x.v,.i (d:Int)] w λr e=>r=ad (.string (ba (cI d x.rx (a' x.rx))))/\ag w e
def Iz:∀n:Nat,n<=1000000->TY n
 |0,_=>λx F w A _ _ _=>absurd A (by have:=I.mU x;omega)
 |n+1,hn=>by
  have ih:=Iz n io;have core:∀(x:I) (F:Nat) (w:J),x.sz<=n+1->¬cM x.rx<F->i7 x.rx=true->x.P w->aj U qn #[x.v,.i (F:Int)] w λr w'=>r=ad (.string (ba (a' x.rx)))/\ag w w':=by
   intro x F w A bj ac px;have hs:=I.iJ x;have hl:=I.ga x.l;have Y:=I.cw px.parts.1;have ak:=ac;rw[I.fi]at ak;obtain⟨k0,k7,aN,bh⟩:=z9 ak;have aM:(I.ao x.l).length=x.l.length:=by rw[I.fN,List.length_map]
   rw[aM]at aN;have aL:∀a∈x.l,i7 a.rx=true:=λa j=>z' bh (by rw[I.fN];exact List.mem_map.2 ⟨a,j,rfl⟩);have a9:∀a:I,a.sz<=1000000->(a' a.rx).length<=18000000:=λa j=>by have:=yf a.rx;rw[I.ek]at this;omega
   have aC:∀(a:I) (F:Nat),a.sz<=1000000->(cI F a.rx (a' a.rx)).length<=18000002:=λa F j=>by have D:=a9 a j;have:=(r8 F a.rx (a' a.rx)).1;omega
   have aX:∀c,(dn c).length<=4:=λc=>by unfold dn;split<;>simp
   let Q:aB:=λr w'=>r=ad (.string (ba (a' x.rx)))/\ag w w'
   have one:∀(a:I) (am:Nat) (H:J) (h:Nat) (K:ByteArray->J->Prop),am<=1000->a∈x.l->O F0 w H [.g h] [.tree x]->(∀B,O F0 w B [.g h] [.tree x]->K (ba (cI am a.rx (a' a.rx))) B)->CH [h] qn #[.agg #[.i a.k,.int .u8 (a.lo.toNat:Int),.int .u8 (a.hi.toNat:Int),a.s.v],.i (am:Int)] H K:=by intro a am H h K bk j G hK;have aH:=I.eJ j;refine G.av (ih a am H io bk (aL a j) ((show x.P H from G.getD 0).parts.2.mem j)) ?_;rintro _ B rfl q;exact⟨_,rfl,hK B q⟩
   refine mB.aq ((gH px).ax λh H G=>?_);have G:O F0 w H [.g h] [.tree x]:=G;refine G.av (Cz x H k0 k7 (G.getD 0)) ?_;rintro _ B rfl q;have N:a' x.rx=a' (.mk x.k x.lo x.hi (I.ao x.l)):=by rw[I.fi]
   refine⟨_,rfl,aW (aS io) (aw (λe=>⟨?_,q.fr⟩) (λS=>aw (λe=>⟨?_,q.fr⟩) (λZ=>aw (λT=>?_) (λT=>aw (λW=>?_) (λW=>aw (λab=>?_) (λab=>aY (λbi=>?_) (λbi=>?_)))))))⟩
   .rw [N];unfold a';rw[af e];rfl
   .rw [N];unfold a';rw[aa S,af e];rfl
   .have e2:a' x.rx=if x.lo=x.hi then dn x.lo else 91::(dn x.lo++45::(dn x.hi++[93])):=by rw[N];unfold a';rw[aa S,aa Z,af T]
    refine aw (λa3=>q.av (Cy x.lo B) ?_) (λa3=>q.ae λC L=>L.av (Cy x.lo C) ?_)
    .rintro _ z rfl y;exact⟨_,rfl,by rw[e2,af (UInt8.toNat_inj.1 io)],y.fr⟩
    .rintro _ w6 rfl H6;have D:=aX x.lo;have h2:=aX x.hi;have s0:a8 #[91]++ba (dn x.lo)++a8 #[45]=ba (91::dn x.lo++[45]):=by show ba [91]++ba (dn x.lo)++ba [45]=_;rw[bM,bM];rfl
     refine⟨_,rfl,?_,?_,H6.av (Cy x.hi w6) ?_⟩
     .rw [bc];show ¬(((1+_:Nat):Int)>9223372036854775807);omega
     .have:(a8 #[91]++ba (dn x.lo)).size=1+(dn x.lo).length:=by show(ba [91]++_).size=_;rw[bM,bc];simp;omega
      rw[this];show ¬(((_+1:Nat):Int)>9223372036854775807);omega
     rintro _ w7 rfl H7;rw[s0];have:ba (91::dn x.lo++[45]++dn x.hi)++a8 #[93]=ba (91::dn x.lo++[45]++dn x.hi++[93]):=by show _++ba [93]=_;rw[bM]
     refine⟨_,rfl,?_,?_,?_,H7.fr⟩
     .rw [bc,bc];simp only[bb,bx,eU];show ¬((_:Int)>9223372036854775807);omega
     .rw [bM,bc];simp only[bb,bx,eU];show ¬(((_+1:Nat):Int)>9223372036854775807);omega
     .rw [bM,this,e2,aa (λA=>a3 (by rw[A]))];simp
   .have D:=aN (.inl W);have e6:a' x.rx=33::ku (dd 3 (I.ao x.l)):=by rw[N];unfold a';rw[aa S,aa Z,aa T,af W]
    match gD:x.l,D with
    |[a],_=>
     have j:a∈x.l:=by rw[gD];simp
     have aH:=I.eJ j;refine jY (show x.P B from q.getD 0) (k:=0) rfl (by rw[gD];rfl) (one a 3 B h _ io j q λz y=>⟨?_,?_,y.fr⟩)
     .have:=aC a 3 io;rw[bc];show ¬(((1+_:Nat):Int)>9223372036854775807);omega
     .have:a8 #[33]++ba (cI 3 a.rx (a' a.rx))=ba (33::cI 3 a.rx (a' a.rx)):=by show ba [33]++_=_;rw[bM];rfl
      rw[this,e6,gD];rfl
   .have D:=aN (.inr ab);have e7:a' x.rx=ku (dd 4 (I.ao x.l))++[42]:=by rw[N];unfold a';rw[aa S,aa Z,aa T,aa W,af ab]
    match gD:x.l,D with
    |[a],_=>
     have j:a∈x.l:=by rw[gD];simp
     have aH:=I.eJ j;refine jY (show x.P B from q.getD 0) (k:=0) rfl (by rw[gD];rfl) (one a 4 B h _ io j q λz y=>⟨?_,?_,y.fr⟩)
     .have:=aC a 4 io;rw[bc];show ¬(((_+1:Nat):Int)>9223372036854775807);omega
     .have:ba (cI 4 a.rx (a' a.rx))++a8 #[42]=ba (cI 4 a.rx (a' a.rx)++[42]):=by show _++ba [42]=_;rw[bM]
      rw[this,e7,gD];rfl
   .
    have e:x.k=3\/x.k=4\/x.k=5:=io
    have ef:a' x.rx=rV x.k++(ku (dd 0 (I.ao x.l))++[41]):=by rw[N];unfold a';rw[aa S,aa Z,aa T,aa W,aa ab,af (by rw[aM];omega)]
    have fin:∀(t:BL) (z:J),t.length<=18000002->ku (dd 0 (I.ao x.l))=t->O F0 w z [.g h] [.tree x]->mB.a1 h x.k x.lo.toNat x.hi.toNat x.s (ba t) z Q:=by
     intro t z ht E y;dsimp only[mB.a1,ah];refine y.nw λw4 _ M=>?_;have key:∀(u:BL),u.length=4->rV x.k=u->¬((((ba u).size+(ba t).size:Nat):Int)>IntKind.i64.max)/\¬((((ba u++ba t).size+(a8 #[41]).size:Nat):Int)>IntKind.i64.max)/\Q (ad (.string ((ba u++ba t)++(a8 #[41])))) w4:=by
      intro u hu hn;refine⟨?_,?_,?_,M.fr⟩
      .rw [bc,bc];show ¬((_:Int)>9223372036854775807);omega
      .rw [bM,bc];simp only[bb];show ¬(((_+1:Nat):Int)>9223372036854775807);omega
      .have:ba u++ba t++a8 #[41]=ba (u++(t++[41])):=by show _++_++ba [41]=_;rw[bM,bM];simp
       rw[this,ef,hn,E]
     rcases e with e|e|e<;>rw[e]
     .exact ⟨dl,dl,lj ⟨ba [99,97,116,40],M.ld 1 0,key _ rfl (by rw[e];rfl)⟩⟩
     .exact ⟨dl,dl,lj ⟨ba [97,108,116,40],M.ld 1 1,key _ rfl (by rw[e];rfl)⟩⟩
     .exact ⟨dl,dl,lj ⟨ba [97,108,108,40],M.ld 1 2,key _ rfl (by rw[e];rfl)⟩⟩
    refine aw (λD=>?_) (λD=>?_)
    .match gD:x.l with
     |[]=>rw[gD]at Y;simp at Y;omega
     |_::_::_=>rw[gD]at Y;simp at Y;omega
     |[a]=>
      have j:a∈x.l:=by rw[gD];simp
      have aH:=I.eJ j;refine jY (show x.P B from q.getD 0) (k:=0) rfl (by rw[gD];rfl) (one a 0 B h _ io j q λz y=>?_);exact fin _ z (aC a 0 io) (by rw[gD];rfl) y
    .have:x.l=[]:=List.length_eq_zero_iff.1 io;exact fin [] B gs (by rw[this];rfl) q
   .
    have e:x.k=3\/x.k=4\/x.k=5:=io
    match gD:x.l with
    |[]=>rw[gD]at Y;simp at Y;omega
    |a::m=>
    have j:a∈x.l:=by rw[gD];simp
    have aH:=I.eJ j;have bF:(g7 x.k).length<=1:=by unfold g7;split<;>(try split)<;>simp
    have ef:a' x.rx=jU x.k (cI (cM x.rx+1) a.rx (a' a.rx)) (dd (cM x.rx+1) (I.ao (x.l.drop 1))):=by
     have e1:a' x.rx=zi x.k (dd (cM x.rx+1) (I.ao x.l)):=by
      conv=>lhs;rw[N];unfold a';rw[aa S,aa Z,aa T,aa W,aa ab,aa (by rw[aM];omega)]
      rw[<-I.fi]
     rw[e1,gD];rfl
    have bv:cM x.rx<=4:=by rw[I.fi];unfold cM;dsimp only;repeat (first |omega|split)
    have loop:∀(d i:Nat) (out:BL) (z:J),i+d=x.l.length->1<=i->0<out.length->out.length+hG (dd (cM x.rx+1) (I.ao (x.l.drop i)))<=40000000->a' x.rx=jU x.k out (dd (cM x.rx+1) (I.ao (x.l.drop i)))->O F0 w z [.g h] [.tree x]->
      mB.cu h x.k x.lo.toNat x.hi.toNat x.s (ba (g7 x.k)) (cM x.rx:Int) (ba out) (i:Int) z Q:=by
     intro d;induction d with
     |zero=>
      intro i out z bg D a4 aG E y;refine mB.dQ (aW (aS io) ⟨?_,y.fr⟩);rw[E,dw io];rfl
     |succ d bl=>
      intro i out z bg D a4 aG E y;have hg:x.l[i]? =some (x.l[i]'io):=a0 io;have a2:x.l.drop i=(x.l[i]'io)::x.l.drop (i+1):=dy io;generalize x.l[i]'io=c at hg a2;have hc:=aA hg;have bI:=I.eJ hc;rw[a2]at E aG;have aG:out.length+((cI (cM x.rx+1) c.rx (a' c.rx)).length+2+hG (dd (cM x.rx+1) (I.ao (x.l.drop (i+1)))))<=40000000:=by
       have:hG (dd (cM x.rx+1) (I.ao (c::x.l.drop (i+1))))=(cI (cM x.rx+1) c.rx (a' c.rx)).length+2+hG (dd (cM x.rx+1) (I.ao (x.l.drop (i+1)))):=by simp[I.ao,dd,hG]
       omega
      have E:a' x.rx=jU x.k ((if x.k=3/\eG (k8 out)=true/\eG (gQ (cI (cM x.rx+1) c.rx (a' c.rx)) 0)=true then out++[32]else out)++g7 x.k++cI (cM x.rx+1) c.rx (a' c.rx)) (dd (cM x.rx+1) (I.ao (x.l.drop (i+1)))):=by rw[E];rfl
      have bd:0<(cI (cM x.rx+1) c.rx (a' c.rx)).length:=by have D:=Bz c.rx (aL c hc);have:=(r8 (cM x.rx+1) c.rx (a' c.rx)).2;omega
      have aJ:aD .i64 ((cM x.rx:Int)+1)=((cM x.rx+1:Nat):Int):=bp _ io;refine mB.dQ (aU (aQ io) (jY (show x.P z from y.getD 0) rfl hg ?_));rw[aJ];refine one c (cM x.rx+1) z h _ io hc y λw4 M=>?_;generalize cI (cM x.rx+1) c.rx (a' c.rx)=t at E aG bd;have go:∀(o:BL) (C:J),o.length<=out.length+1->out.length<=o.length->o.length+(g7 x.k).length<=out.length+1->a' x.rx=jU x.k (o++g7 x.k++t) (dd (cM x.rx+1) (I.ao (x.l.drop (i+1))))->O F0 w C [.g h] [.tree x]->
        mB.bC h x.k x.lo.toNat x.hi.toNat x.s (ba (g7 x.k)) (cM x.rx:Int) (ba o) (i:Int) (ba t) C Q:=by
       intro o C bz bA bE bf L;refine⟨?_,?_,?_⟩
       .rw [bc,bc];show ¬((_:Int)>9223372036854775807);omega
       .rw [bM,bc,bc];simp only[bb];show ¬((_:Int)>9223372036854775807);omega
       .show mB.cu _ _ _ _ _ _ _ _ _ _ _;rw[bM,bM,bp _ io];refine bl (i+1) (o++g7 x.k++t) C io io (by simp only[bb];omega) (by simp only[bb];omega) bf L
      have aO:∀C,O F0 w C [.g h] [.tree x]->¬(x.k=3/\eG (k8 out)=true/\eG (gQ t 0)=true)->mB.bC h x.k x.lo.toNat x.hi.toNat x.s (ba (g7 x.k)) (cM x.rx:Int) (ba out) (i:Int) (ba t) C Q:=λC L A=>go out C io io io (by rw[aa A]at E;exact E) L;have eo:aD .i64 ((((ba out).size:Nat):Int) - 1)=((out.length - 1:Nat):Int):=by rw[bc,br _ io];omega
      rw[eo];refine aw (λar=>⟨io,k8 out,?_,M.av (IT (k8 out) w4) ?_⟩) (λar=>aO w4 M (λA=>ar A.1))
      .rw [bG,gN (s:=ba out) (by rw[bc];omega),lM,Lj out a4]
      rintro _ C rfl L;refine⟨_,rfl,bq (λay=>⟨io,gQ t 0,?_,L.av (IT (gQ t 0) C) ?_⟩) (λay=>aO C L (λA=>by rw[A.2.1]at ay;cases ay))⟩
      .rw [show aZ 0=0 from rfl,gN (s:=ba t) (by rw[bc];omega),lM]
      rintro _ w6 rfl H6;have s3:(g7 x.k).length=0:=by unfold g7;rw[af ar];rfl
      refine⟨_,rfl,bq (λaz=>⟨?_,?_⟩) (λaz=>aO w6 H6 (λA=>by rw[A.2.2]at az;cases az))⟩
      .rw [bc];show ¬(((_+1:Nat):Int)>9223372036854775807);omega
      .have a7:ba out++a8 #[32]=ba (out++[32]):=by show _++ba [32]=_;rw[bM]
       rw[a7];refine go (out++[32]) w6 gs gs (by simp;omega) ?_ H6;rw[af ⟨ar,ay,az⟩]at E;exact E
    refine q.nw λaP _ ap=>?_;have aT:O F0 w aP [.g h] [.tree x]:=ap.take 1;have rest:∀(u:BL),g7 x.k=u->VE [h] EI #[.agg #[.i x.k,.int .u8 (x.lo.toNat:Int),.int .u8 (x.hi.toNat:Int),x.s.v]] aP λt90 an=>nN x.s 0 λbn=>jx an (bn.add (aZ 0 *4)) λbo bs bt bu=>CH [h] qn #[.agg #[.i bo,.int .u8 bs,.int .u8 bt,bu.v],.i (aD .i64 (t90+1))] an λt97 aR=>mB.cu h x.k x.lo.toNat x.hi.toNat x.s (ba u) t90 t97 1 aR Q:=by
     intro u hu;refine aT.av (Cz x aP k0 k7 (aT.getD 0)) ?_;rintro _ an rfl aV;refine⟨_,rfl,jY (show x.P an from aV.getD 0) (k:=0) rfl (by rw[gD];rfl) ?_⟩;have aJ:aD .i64 ((cM x.rx:Int)+1)=((cM x.rx+1:Nat):Int):=bp _ io;rw[aJ];refine one a (cM x.rx+1) an h _ io j aV λaR a6=>?_;rw[<-hu];refine loop (x.l.length - 1) 1 _ aR io io ?_ ?_ ef a6
     .have D:=Bz a.rx (aL a j);have:=(r8 (cM x.rx+1) a.rx (a' a.rx)).2;omega
     .have D:=aC a (cM x.rx+1) io;have h2:=sQ (cM x.rx+1) (I.ao (x.l.drop 1));have h3:=ace x.l 1;omega
    rcases e with e|e|e
    .exact ⟨by rw[e];decide,by rw[e];decide,lj ⟨ba [],by rw[e];exact ap.ld 1 0,rest _ (by rw[e];rfl)⟩⟩
    .exact ⟨by rw[e];decide,by rw[e];decide,lj ⟨ba [124],by rw[e];exact ap.ld 1 1,rest _ (by rw[e];rfl)⟩⟩
    .exact ⟨by rw[e];decide,by rw[e];decide,lj ⟨ba [38],by rw[e];exact ap.ld 1 2,rest _ (by rw[e];rfl)⟩⟩
  intro x F w A bj ac px;by_cases hb:cM x.rx<F
  .have ak:=ac;rw[I.fi]at ak;obtain⟨k0,k7,_,_⟩:=z9 ak;refine mB.aq ((gH px).ax λh H G=>G.av (Cz x H k0 k7 (G.getD 0)) ?_);rintro _ B rfl q;refine⟨_,rfl,aU (aQ io) (q.av (core x 0 B A io ac (q.getD 0)) ?_)⟩;rintro _ z rfl y;have bw:(a' x.rx).length<=18000000:=by have:=yf x.rx;rw[I.ek]at this;omega
   have aI:a8 #[40]++ba (a' x.rx)++a8 #[41]=ba (40::(a' x.rx++[41])):=by show ba [40]++ba (a' x.rx)++ba [41]=_;rw[bM,bM];simp
   refine⟨_,rfl,?_,?_,?_,y.fr⟩
   .rw [bc];show ¬(((1+_:Nat):Int)>9223372036854775807);omega
   .have:(a8 #[40]++ba (a' x.rx)).size=1+(a' x.rx).length:=by show(ba [40]++_).size=_;rw[bM,bc];simp;omega
    rw[this];show ¬(((_+1:Nat):Int)>9223372036854775807);omega
   .rw [aI];unfold cI;rw[af hb]
  .have:=core x F w A hb ac px;have aI:cI F x.rx (a' x.rx)=a' x.rx:=by unfold cI;rw[aa hb]
   rw[aI];exact this
def Iy(x:I)(d:Nat)(w:J)(e:x.sz<=1000000)(h:d<=1000)(j:i7 x.rx=true)(k:x.P w):aj U qn #[x.v,.i (d:Int)] w λr q=>r=ad (.string (ba (cI d x.rx (a' x.rx))))/\ag w q:=Iz 1000000 (bm _) x d w e h j k
set_option maxHeartbeats 2000000
namespace Bp
abbrev P0:Ps:=[]
abbrev bh:=ah (ay U Tryz.f93 [] [1]) [0,1,1,1,3] P0
abbrev t1:=ak bh
abbrev bC:=ah t1 [0,1,1,1,4] P0
abbrev t2:=ak bC
abbrev cF:=ah t2 [5] P0
abbrev t3:=ak cF
abbrev a1:=ah t3 [3] [(1,.l [.I,.I,.I] cb),(3,.I),(4,.I),(5,.b)]
abbrev t4:=ak a1
def aq:=aC t4 OD [.a 3,.I,.I,.I]
end Bp
namespace oy
abbrev P0:Ps:=[]
abbrev S0:=ah (ay U Tryz.f161 [] []) [0,1,1,1,1] P0
abbrev t1:=ak S0
abbrev P1:Ps:=[(0,.st),(3,.I)]
def L1:=bu t1 [0,1,1,1,2] P1
abbrev t2:=bt L1
abbrev S4:=ah t2 [0,1,3,2,1,2,1,1,2] P0
abbrev t3:=ak S4
abbrev S5:=ah t3 [2,2,1,1,2] P1
abbrev t4:=ak S5
abbrev S3:=ah t4 [2,2,1,2,1,1,2] [(0,.st),(3,.I),(4,.Y),(5,.b)]
abbrev t5:=ak S3
abbrev S2:=ah t5 [1,2,1,2,1,1,2] [(0,.st),(3,.I),(4,.Y)]
abbrev t6:=ak S2
def ik:=bF t6 L1
def ok:=aC t6 Oo [.st]
end oy
namespace xT
abbrev S1:=ah (ay U Tryz.f145 [] []) [3] [(0,.r),(3,.b),(4,.b),(5,.b),(6,.b)]
abbrev t1:=ak S1
abbrev S0:=ah t1 [0,1,1,1,1,1,2] [(0,.r),(3,.b),(4,.b),(5,.b)]
abbrev t2:=ak S0
abbrev S3:=ah t2 [0,1,7,1,1,1,2] [(0,.r),(4,.b),(5,.b),(6,.b)]
abbrev t3:=ak S3
abbrev S2:=ah t3 [2,1,1,1,2] [(0,.r),(3,.b),(4,.b),(5,.b),(6,.b),(10,.I)]
abbrev t4:=ak S2
def ok:=aC t4 Ol [.r]
end xT
namespace Su
def aq:=aC (ay U Tryz.f166 [] [2]) Oj [.I]
end Su
namespace SE
def aq:=aC (ay U Tryz.f162 [] [2]) OC [.I]
end SE
namespace Sx
def aq:=aC (ay U Tryz.f165 [] [1]) On [.a 3,.I,.I,.I]
end Sx
namespace Sz
def aq:=aC (ay U Tryz.f168 [] [1]) Oq [.a 3,.I,.I,.I]
end Sz
namespace Sw
def aq:=aC (ay U Tryz.f163 [] [1]) Om [.a 3,.I,.I,.I]
end Sw
namespace Sr
def aq:=aC (ay U Tryz.f167 [] [2,3]) Oi [.a 3,.I,.I,.I,.a 3,.I,.I,.I]
end Sr
namespace SB
def aq:=aC (ay U Tryz.f164 [] [3,6]) zU [.a 3,.I,.I,.I,.b,.b]
end SB
namespace G3
abbrev S0:=ah (ay U Tryz.f146 [(7,lr 9)] []) [4] [(0,.r),(4,.r)]
abbrev t1:=ak S0
def ok:=aC t1 OB [.r,.f]
end G3
namespace GZ
abbrev a1:=ah (ay U Tryz.f147 [(14,lr 19)] [2]) [6] [(0,.r),(2,.l [.I,.I,.I] cb)]
abbrev t1:=ak a1
def aq:=aC t1 Oz [.r]
end GZ
namespace GY
abbrev a1:=ah (ay U Tryz.f148 [(4,lr 8),(7,ls [1,0,2,3,4,5,6,7,8,9,10,11,12]),(9,ls [1,2,0,3,4,5,6,7,8]),(14,lr 14),(16,ls [0,1,2,3,4,6,12,13,14,15,16,17,5,7,8,9,10,11,18,19,20,21,22]),(18,ls [0,1,2,3,4,5,6,7,8,9,11,13,14,15,16,17,10,12,18,19,20,21,22,23,24,25,26,27,28,29,30,31,32,33,34,35,36,37,38,39,40,41,42]),(21,ls [0,1,2,3,4,5,6,8,10,11,12,13,14,7,9,15,16,17,18,19,20,21,22,23,24,25,26,27,28,29]),(22,lr 13)] [5,6,7,8,10]) [0,1,1,1,1,1,1] [(5,.l [.I,.I,.I] cb),(8,.l [.I,.I,.I] cb)]
abbrev t1:=ak a1
abbrev P0:Ps:=[(5,.l [.I,.I,.I] cb),(6,.l [.I,.I,.I] cb),(8,.l [.I,.I,.I] cb)]
abbrev bC:=ah t1 [0,1,3,1,1,1,1] P0
abbrev t2:=ak bC
abbrev ft:=ah t2 [2,1,7,1,1,1,1] [(5,.l [.I,.I,.I] cb),(6,.l [.I,.I,.I] cb),(7,.l [.I,.I,.I] cb),(8,.l [.I,.I,.I] cb),(10,.l [.I,.I,.I] cb)]
abbrev t3:=ak ft
abbrev qW:=ah t3 [0,1,13,1,1,1,1] [(0,.r),(5,.l [.I,.I,.I] cb),(8,.l [.I,.I,.I] cb)]
abbrev t4:=ak qW
abbrev kW:=ah t4 [2] P0
abbrev t5:=ak kW
abbrev P1:Ps:=[(0,.r),(5,.l [.I,.I,.I] cb),(6,.l [.I,.I,.I] cb),(7,.l [.I,.I,.I] cb),(8,.l [.I,.I,.I] cb),(14,.I)]
abbrev cF:=ah t5 [4,1,1,1,1] P1
abbrev t6:=ak cF
abbrev bh:=ah t6 [2,1,1,1,1] P1
abbrev t7:=ak bh
def aq:=aC t7 Oy [.r,.a 3,.I,.I,.I,.a 3,.I,.I,.I,.a 3,.I,.I,.I]
end GY
namespace Ba
abbrev bh:=ah (ay U Tryz.f149 [(2,ls [0,1,3,2,4,5,6,7,8,9,10,11,12,13,14]),(6,lr 10),(10,lr 18),(11,lr 12)] [5,6,7,8,10]) [5] [(0,.r),(5,.l [.I,.I,.I] cb),(7,.l [.I,.I,.I] cb),(8,.l [.I,.I,.I] cb),(10,.l [.I,.I,.I] cb),(11,.b)]
abbrev t1:=ak bh
abbrev a1:=ah t1 [4] [(0,.r),(5,.l [.I,.I,.I] cb),(6,.l [.I,.I,.I] cb),(7,.l [.I,.I,.I] cb),(8,.l [.I,.I,.I] cb),(10,.l [.I,.I,.I] cb)]
abbrev t2:=ak a1
def aq:=aC t2 Ox [.r,.a 3,.I,.I,.I,.a 3,.I,.I,.I,.a 3,.I,.I,.I]
end Ba
namespace SD
def aq:=aC (ay U Tryz.f150 [(3,ls [1,0,2,3,4,5,6,7]),(5,ls [1,3,4,5,6,7,0,2,8,9,10,11,12,13,14,15,16,17,18,19]),(7,ls [0,1,2,3,4,6,12,13,14,15,16,17,5,7,8,9,10,11,18,19,20,21,22]),(9,lr 18),(11,ls [1,0,2,3,4,5,6,7,8,9,10,11]),(13,ls [0,1,2,3,4,6,16,17,18,19,20,21,5,7,8,9,10,11,12,13,14,15,22,23,24,25,26]),(15,ls [1,0,2,3,4,5,6,7,8])] [5,6,7,8]) OA [.r,.a 3,.I,.I,.I,.a 3,.I,.I,.I,.a 3,.I,.I,.I]
end SD
namespace qG
abbrev P0:Ps:=[(6,.l [.I,.I,.I] cb)]
abbrev a1:=ah (ay U Tryz.f134 [(1,lr 18)] [6,11]) [0,1,1,1,1] P0
abbrev t1:=ak a1
def cu:=bu t1 [0,1,1,1,3] [(0,.s),(2,.f),(4,.r),(6,.l [.I,.I,.I] cb),(8,.r),(34,.I),(35,.I)]
abbrev t2:=bt cu
abbrev bC:=ah t2 [0,1,1,1,2,2,2,2,1,1,3] P0
abbrev t3:=ak bC
abbrev cF:=ah t3 [8] [(6,.l [.I,.I,.I] cb),(11,.l [.I,.I,.I] cb),(12,.I)]
abbrev t4:=ak cF
def dQ:=bF t4 cu
def aq:=aC t4 Ov [.s,.a 9,.I,.s,.I,.I,.U,.st,.I,.I,.I,.f]
end qG
namespace sF
abbrev P0:Ps:=[(0,.st),(1,.r),(3,.l [.I,.I,.I] cb),(8,.I),(9,.I)]
def a4:=bu (ay U Tryz.f135 [] [3]) [0,1,1,1,1] P0
abbrev t1:=bt a4
abbrev bh:=ah t1 [3,2,1,1,1] P0
abbrev t2:=ak bh
def bR:=bF t2 a4
def aq:=aC t2 Fg [.st,.r]
end sF
namespace Sq
def aq:=aC (ay U Tryz.f112 [] [3,4]) Og [.a 1,.s,.a 9,.I,.s,.I,.I,.U,.st,.I,.I,.I]
end Sq
namespace xL
def L0:=bu (ay U Tryz.f151 [(6,lr 9)] []) [0,1,1,1,2] [(0,.s),(1,.s),(12,.I),(13,.I)]
abbrev t1:=bt L0
def cr:=bF t1 L0
def ok:=aC t1 N7 [.s,.s]
end xL
namespace SC
def ok:=aC (ay U Tryz.f136 [(1,lr 76)] []) Ot [.r,.r]
end SC
namespace xV
def a4:=bu (ay U Tryz.f113 [] [2]) [0,1,1,1,1] [(1,.r),(2,.l [.s] mZ),(8,.I),(9,.I)]
abbrev t1:=bt a4
def bR:=bF t1 a4
def aq:=aC t1 Ou [.a 1,.s,.r]
end xV
namespace RO
def ok:=aC (ay U Tryz.f114 [] []) N2 [.s]
end RO
namespace So
def aq:=aC (ay U Tryz.f94 [(14,lr 8)] [2,4,7]) Of [.a 1,.s,.a 9,.I,.s,.I,.I,.U,.st,.I,.I,.I]
end So
namespace sG
abbrev P0:Ps:=[(1,.l [.s] mZ),(3,.s),(7,.I),(8,.I)]
def a4:=bu (ay U Tryz.f40 [] [1]) [0,1,1,1,2] P0
abbrev t1:=bt a4
abbrev bh:=ah t1 [3,2,1,1,2] P0
abbrev t2:=ak bh
def bR:=bF t2 a4
def aq:=aC t2 Oh [.a 1,.s]
end sG
namespace Qy
def ok:=aC (ay U Tryz.f224 [(3,lr 9)] []) NO [.Y]
end Qy
namespace QQ
def aq:=aC (ay U Tryz.f179 [] [2]) zT [.a 4,.I,.Y,.Y,.s,.I]
end QQ
namespace qC
def lG:=bu (ay U Tryz.f206 [(9,ls [0,1,5,6,2,3,4,7,8,9,10,11])] [1,9]) [0,1,1,1,7] [(1,.l [.I,.Y,.Y,.s] aV),(5,.st),(6,.I),(7,.st),(79,.s),(80,.I),(81,.I)]
abbrev t1:=bt lG
abbrev cF:=ah t1 [3,2,2,2,1,1,7] [(1,.l [.I,.Y,.Y,.s] aV),(5,.st),(6,.I),(7,.st),(10,.st),(79,.s),(80,.I),(81,.I)]
abbrev t2:=ak cF
def pS:=bF t2 lG
abbrev P0:Ps:=[(1,.l [.I,.Y,.Y,.s] aV),(4,.st),(5,.st),(6,.I)]
abbrev bh:=ah t2 [4] P0
abbrev t3:=ak bh
abbrev a1:=ah t3 [3] P0
abbrev t4:=ak a1
def aq:=aC t4 NM [.a 4,.I,.Y,.Y,.s]
end qC
namespace Gc
def aq:=aC (ay U Tryz.f156 [] [1]) NK [.a 4,.I,.Y,.Y,.s]
end Gc
namespace Sy
def aq:=aC (ay U Tryz.f169 [] [3,6]) Fh [.st]
end Sy
set_option maxHeartbeats 1000000
def PT(c:UInt8):uN c=om c:=by
 unfold uN om
 grind
def RR(c:UInt8):kI c=eG c:=rfl
def T8:(List.range 256).all (λn=>q6 .u8 (n:Int) 15==((n%16:Nat):Int))=true:=by kernel_rfl
def KJ{n:Nat}(d:n<16):(a8 #[48,49,50,51,52,53,54,55,56,57,97,98,99,100,101,102])[n]? =some (iX n):=by
 have:n=0\/n=1\/n=2\/n=3\/n=4\/n=5\/n=6\/n=7\/n=8\/n=9\/n=10\/n=11\/n=12\/n=13\/n=14\/n=15:=io
 (repeat' rcases this with rfl|this)<;>(try subst this)<;>rfl
def FO(c:UInt8)(w:J):aj U NO #[.int .u8 (c.toNat:Int)] w λr C=>r=ad (.string (ba (dn c)))/\ag w C:=by
 have B:=c.toNat_lt;have k:O F0 w w [] []:=bT [] gs;refine Qy.ok (k.call (IL c w) ?_);rintro _ D rfl j;refine⟨_,rfl,bq (λh=>?_) (λh=>?_)⟩
 .rw [PT]at h;refine j.uC (λE _ q e=>?_);have d:Bytes E ⟨some (ab D.heap.size),3,3⟩ [39,c,39]:=pX (T:=hV) e rfl;refine⟨ba [39,c,39],tt d,?_,q.fr⟩;unfold dn;grind
 .rw [PT]at h;have z:Int.fdiv (c.toNat:Int) (2^(4))=((c.toNat / 16:Nat):Int):=by grind
  have A:q6 .u8 (c.toNat:Int) 15=((c.toNat%16:Nat):Int):=eq_of_beq (cY.1 T8 c.toNat (List.mem_range.2 B));refine j.dr λF x=>?_;rw[z,A];refine⟨io,_,KJ io,io,_,KJ io,x.uC (λG _ y e=>?_)⟩;have d:Bytes G ⟨some (ab F.heap.size),4,4⟩ [92,120,iX (c.toNat / 16),iX (c.toNat%16)]:=pX (T:=hV) e rfl;refine⟨ba [92,120,iX (c.toNat / 16),iX (c.toNat%16)],tt d,?_,y.fr⟩;unfold dn;grind
abbrev Ho(n:Nat):Prop:=∀(x:I) (w:J),x.sz<=n->i7 x.rx=true->x.P w->aj U NM #[x.v] w λr d=>r=ad (.tuple #[.string (ba (a' x.rx)),.i (cM x.rx:Int)])/\ag w d
def Pw{n:Nat}(G:n<=1000000)(q:Ho n)(x:I)(d:Nat)(w:J)(k:x.sz<=n)(F:d<=1000)(z:i7 x.rx=true)(A:x.P w):aj U zT #[x.v,.i (d:Int)] w λr B=>r=ad (.string (ba (cI d x.rx (a' x.rx))))/\ag w B:=by
 refine QQ.aq ((gH A).ax λD C e=>e.av (q x C k z (e.getD 0)) ?_);rintro _ H rfl h;have E:(a' x.rx).length<=18000000:=by have:=yf x.rx;rw[I.ek]at this;omega
 have j:a8 #[40]++ba (a' x.rx)++a8 #[41]=ba (40::(a' x.rx++[41])):=by show ba [40]++ba (a' x.rx)++ba [41]=_;rw[bM,bM];simp
 refine⟨_,_,rfl,aY (λy=>⟨?_,?_,?_,h.fr⟩) (λy=>⟨?_,h.fr⟩)⟩
 .rw [bc];show ¬(((1+_:Nat):Int)>9223372036854775807);omega
 .have:(a8 #[40]++ba (a' x.rx)).size=1+(a' x.rx).length:=by show(ba [40]++_).size=_;rw[bM,bc];grind
  rw[this];show ¬(((_+1:Nat):Int)>9223372036854775807);omega
 .rw [j];unfold cI;grind
 .unfold cI;grind
def Pt:∀n:Nat,n<=1000000->Ho n
 |0,_=>λe B j _ _=>absurd j (by have:=I.mU e;omega)
 |n+1,hn=>by
  have ih:=Pt n io;intro e B j a9 px;have hs:=I.iJ e;have hl:=I.ga e.l;have nr:=I.cw px.parts.1;have aO:=a9;rw[I.fi]at aO;obtain⟨k0,k7,ar,a4⟩:=z9 aO;have a6:(I.ao e.l).length=e.l.length:=by rw[I.fN,List.length_map]
  rw[a6]at ar;have aL:∀a∈e.l,i7 a.rx=true:=λa w=>z' a4 (by rw[I.fN];grind);have ay:∀(a:I) (lv:Nat),a.sz<=1000000->(cI lv a.rx (a' a.rx)).length<=18000002:=λa lv w=>by have z:=yf a.rx;rw[I.ek]at z;have:=(r8 lv a.rx (a' a.rx)).1;omega
  have aG:∀c,(dn c).length<=4:=λc=>by unfold dn;grind
  let W:aB:=λr w'=>r=ad (.tuple #[.string (ba (a' e.rx)),.i (cM e.rx:Int)])/\ag B w'
  have one:∀(a:I) (T:Nat) (q:J) (L:List En) (bs:List Nat) (K:ByteArray->J->Prop),T<=1000->a∈e.l->O F0 B q L [.tree e]->(∀w2,O F0 B w2 L [.tree e]->K (ba (cI T a.rx (a' a.rx))) w2)->CH bs zT #[.agg #[.i a.k,.int .u8 (a.lo.toNat:Int),.int .u8 (a.hi.toNat:Int),a.s.v],.i (T:Int)] q K:=by
   intro a T q L bs K a7 w h hK;have aC:=I.eJ w;refine h.av (Pw io ih a T q io a7 (aL a w) ((show e.P q from h.getD 0).parts.2.mem w)) ?_
   grind
  have G:a' e.rx=a' (.mk e.k e.lo e.hi (I.ao e.l)):=by rw[I.fi]
  have bg:cM e.rx=if e.k=6 then 3 else if e.k<3\/e.k=7\/e.l.length<2 then 4 else if e.k=3 then 2 else if e.k=4 then 0 else 1:=by rw[I.fi];unfold cM;grind
  have M:(e.k<3\/e.k=7\/e.l.length<2)->e.k≠6->(4:Int)=(cM e.rx:Int):=λz E=>by grind
  refine qC.aq ((gH px).ax λA q h=>?_);have h:O F0 B q [.g A] [.tree e]:=h;refine aw (λhk=>⟨?_,h.fr⟩) (λaI=>aw (λhk=>⟨?_,h.fr⟩) (λa2=>aw (λaJ=>?_) (λaJ=>aw (λN=>?_) (λN=>aw (λab=>?_) (λab=>?_)))))
  .rw [<-M (.inl io) io,G];unfold a';rw[af hk];rfl
  .rw [<-M (.inl io) io,G];unfold a';rw[aa aI,af hk];rfl
  .have e2:a' e.rx=if e.lo=e.hi then dn e.lo else 91::(dn e.lo++45::(dn e.hi++[93])):=by rw[G];unfold a';grind
   rw[<-M (.inl io) io];refine aw (λaM=>h.av (FO e.lo q) ?_) (λaM=>h.ae λw5 H5=>H5.av (FO e.lo w5) ?_)
   .rintro _ C rfl y;exact⟨_,rfl,by rw[e2,af (UInt8.toNat_inj.1 io)],y.fr⟩
   .rintro _ Q rfl F;have z:=aG e.lo;have E:=aG e.hi;have s0:a8 #[91]++ba (dn e.lo)++a8 #[45]=ba (91::dn e.lo++[45]):=by show ba [91]++ba (dn e.lo)++ba [45]=_;rw[bM,bM];rfl
    refine⟨_,rfl,?_,?_,F.av (FO e.hi Q) ?_⟩
    .rw [bc];show ¬(((1+_:Nat):Int)>9223372036854775807);omega
    .have:(a8 #[91]++ba (dn e.lo)).size=1+(dn e.lo).length:=by show(ba [91]++_).size=_;rw[bM,bc];grind
     rw[this];show ¬(((_+1:Nat):Int)>9223372036854775807);omega
    rintro _ x rfl D;rw[s0];have:ba (91::dn e.lo++[45]++dn e.hi)++a8 #[93]=ba (91::dn e.lo++[45]++dn e.hi++[93]):=by show _++ba [93]=_;rw[bM]
    refine⟨_,rfl,?_,?_,?_,D.fr⟩
    .rw [bc,bc];simp only[bb,bx,eU];show ¬((_:Int)>9223372036854775807);omega
    .rw [bM,bc];simp only[bb,bx,eU];show ¬(((_+1:Nat):Int)>9223372036854775807);omega
    .rw [bM,this,e2,aa (λj=>aM (by rw[j]))];simp
  .have z:=ar (.inl N);have e6:a' e.rx=33::ku (dd 3 (I.ao e.l)):=by rw[G];unfold a';grind
   have e3:(3:Int)=(cM e.rx:Int):=by grind
   match gD:e.l,z with
   |[a],_=>
    have w:a∈e.l:=by grind
    have aC:=I.eJ w;refine jY (show e.P q from h.getD 0) (k:=0) rfl (by grind) (one a 3 q _ _ _ io w h λC y=>⟨?_,?_,y.fr⟩)
    .have:=ay a 3 io;rw[bc];show ¬(((1+_:Nat):Int)>9223372036854775807);omega
    .have:a8 #[33]++ba (cI 3 a.rx (a' a.rx))=ba (33::cI 3 a.rx (a' a.rx)):=by show ba [33]++_=_;rw[bM];rfl
     rw[this,e6,gD,<-e3];rfl
  .have z:=ar (.inr ab);have e7:a' e.rx=ku (dd 4 (I.ao e.l))++[42]:=by rw[G];unfold a';grind
   match gD:e.l,z with
   |[a],_=>
    have w:a∈e.l:=by grind
    have aC:=I.eJ w;refine jY (show e.P q from h.getD 0) (k:=0) rfl (by grind) (one a 4 q _ _ _ io w h λC y=>⟨?_,?_,y.fr⟩)
    .have:=ay a 4 io;rw[bc];show ¬(((_+1:Nat):Int)>9223372036854775807);omega
    .have:ba (cI 4 a.rx (a' a.rx))++a8 #[42]=ba (cI 4 a.rx (a' a.rx)++[42]):=by show _++ba [42]=_;rw[bM]
     rw[this,e7,gD,<-M (.inr (.inl ab)) N];rfl
  have hk:e.k=3\/e.k=4\/e.k=5:=io
  have S1:∀(word sign:BL) (level:Nat),word.length=3->rV e.k=word++[40]->g7 e.k=sign->level<=2->(2<=e.l.length->cM e.rx=level)->qC.bh A e.k e.lo.toNat e.hi.toNat e.s (ba word) (ba sign) (level:Int) q W:=by
   intro word sign level hw aN az bi Z;have ef:e.l.length<2->a' e.rx=rV e.k++(ku (dd 0 (I.ao e.l))++[41]):=λj=>by rw[G];unfold a';grind
   refine aw (λh0=>?_) (λh0=>aw (λz=>?_) (λz=>?_))
   .have hx:e.l=[]:=List.length_eq_zero_iff.1 io;refine⟨?_,?_,h.fr⟩
    .rw [bc];show ¬(((_+2:Nat):Int)>9223372036854775807);omega
    .have:ba word++a8 #[40,41]=ba (word++[40,41]):=by show _++ba [40,41]=_;rw[bM]
     rw[this,<-M (.inr (.inr io)) N,ef io,aN,hx];simp[I.ao,dd,ku]
   .match gD:e.l with
    |[]=>grind
    |_::_::_=>grind
    |[a]=>
     have w:a∈e.l:=by grind
     have aC:=I.eJ w;have hp:=ay a 0 io;refine⟨?_,jY (show e.P q from h.getD 0) (k:=0) rfl (by grind) (one a 0 q _ _ _ io w h λC y=>⟨?_,?_,?_,y.fr⟩)⟩
     .rw [bc];show ¬(((_+1:Nat):Int)>9223372036854775807);omega
     .have:ba word++a8 #[40]=ba (word++[40]):=by show _++ba [40]=_;rw[bM]
      rw[this,bc,bc];simp only[bb,bx,eU];show ¬((_:Int)>9223372036854775807);omega
     .have:ba word++a8 #[40]++ba (cI 0 a.rx (a' a.rx))=ba (word++[40]++cI 0 a.rx (a' a.rx)):=by show _++ba [40]++_=_;rw[bM,bM]
      rw[this,bc];simp only[bb,bx,eU];show ¬(((_+1:Nat):Int)>9223372036854775807);omega
     .have:ba word++a8 #[40]++ba (cI 0 a.rx (a' a.rx))++a8 #[41]=ba (word++[40]++cI 0 a.rx (a' a.rx)++[41]):=by show _++ba [40]++_++ba [41]=_;rw[bM,bM,bM]
      rw[this,<-M (.inr (.inr io)) N,ef io,aN,gD];simp[I.ao,dd,ku]
   .have E:2<=e.l.length:=io
    have Z:=Z E;have ej:a' e.rx=zi e.k (dd (level+1) (I.ao e.l)):=by
     conv=>lhs;rw[G];unfold a';rw[aa aI,aa a2,aa aJ,aa N,aa ab,aa io]
     rw[<-I.fi,Z]
    have bk:sign.length<=1:=by rw[<-az];unfold g7;grind
    have loop:∀(d i:Nat) (out:BL) (C:J),i+d=e.l.length->(1<=i->0<out.length)->(i=0->out=[])->out.length+hG (dd (level+1) (I.ao (e.l.drop i)))<=40000000->a' e.rx=(if i=0 then zi e.k (dd (level+1) (I.ao (e.l.drop i)))else jU e.k out (dd (level+1) (I.ao (e.l.drop i))))->O F0 B C [.g A] [.tree e]->
      qC.lG A e.k e.lo.toNat e.hi.toNat e.s (ba sign) (level:Int) (ba out) e.s (e.s.n:Int) (i:Int) C W:=by
     intro d;induction d with
     |zero=>
      intro i out C aX ac hz ah H y;refine qC.pS (aW (aS io) ⟨?_,y.fr⟩);rw[H,dw io,aa io,Z];rfl
     |succ d bf=>
      intro i out C aX ac hz ah H y;have hg:e.l[i]? =some (e.l[i]'io):=a0 io;have aH:e.l.drop i=(e.l[i]'io)::e.l.drop (i+1):=dy io;generalize e.l[i]'io=c at hg aH;have hc:=aA hg;have bl:=I.eJ hc;rw[aH]at H ah;have ah:out.length+((cI (level+1) c.rx (a' c.rx)).length+2+hG (dd (level+1) (I.ao (e.l.drop (i+1)))))<=40000000:=by
       have:hG (dd (level+1) (I.ao (c::e.l.drop (i+1))))=(cI (level+1) c.rx (a' c.rx)).length+2+hG (dd (level+1) (I.ao (e.l.drop (i+1)))):=by simp[I.ao,dd,hG]
       omega
      have aT:0<(cI (level+1) c.rx (a' c.rx)).length:=by have z:=Bz c.rx (aL c hc);have:=(r8 (level+1) c.rx (a' c.rx)).2;omega
      have aR:aD .i64 ((level:Int)+1)=((level+1:Nat):Int):=bp _ io;have aV:i=0->a' e.rx=jU e.k (cI (level+1) c.rx (a' c.rx)) (dd (level+1) (I.ao (e.l.drop (i+1)))):=λj=>by rw[af j]at H;rw[H];rfl
      have S:i≠0->a' e.rx=jU e.k ((if e.k=3/\eG (k8 out)=true/\eG (gQ (cI (level+1) c.rx (a' c.rx)) 0)=true then out++[32]else out)++g7 e.k++cI (level+1) c.rx (a' c.rx)) (dd (level+1) (I.ao (e.l.drop (i+1)))):=λj=>by rw[aa j]at H;rw[H];rfl
      refine qC.pS (aU (aQ io) (jY (show e.P C from y.getD 0) rfl hg (y.ax λb9 w4 H4=>H4.ae λw5 H5=>?_)));rw[aR];refine one c (level+1) w5 _ _ _ io hc H5 λQ F=>?_;have F:O F0 B Q [.g A,.g b9] [.tree e]:=F;generalize cI (level+1) c.rx (a' c.rx)=t at aV S ah aT;have go:∀(o:BL) (x:J),o.length<=out.length+1->out.length<=o.length->a' e.rx=jU e.k (o++t) (dd (level+1) (I.ao (e.l.drop (i+1))))->O F0 B x [.g A,.g b9] [.tree e]->qC.cF A e.k e.lo.toNat e.hi.toNat e.s (ba sign) (level:Int) (ba o) (ba t) e.s (e.s.n:Int) (i:Int) x W:=by
       intro o x z E h3 D;refine⟨?_,?_⟩
       .rw [bc,bc];show ¬((_:Int)>9223372036854775807);omega
       .rw [bM,bp _ io];refine bf (i+1) (o++t) x io (λ_=>by grind) (λj=>io) (by grind) (by grind) (D.take 1)
      refine aY (λa1=>⟨?_,?_⟩) (λa1=>go out Q io (bm _) (by grind) F)
      .rw [bc,bc];show ¬((_:Int)>9223372036854775807);omega
      have S:=S io;have ac:=ac io;rw[az]at S;have ea:ba out++ba sign=ba (out++sign):=bM _ _;have ak:∀x,O F0 B x [.g A,.g b9] [.tree e]->¬(e.k=3/\eG (k8 out)=true/\eG (gQ t 0)=true)->qC.cF A e.k e.lo.toNat e.hi.toNat e.s (ba sign) (level:Int) (ba (out++sign)) (ba t) e.s (e.s.n:Int) (i:Int) x W:=λx D bj=>go (out++sign) x (by grind) (by grind) (by grind) D;rw[ea];refine aw (λam=>?_) (λam=>ak Q F (λj=>am j.1));have s3:sign=[]:=by rw[<-az];unfold g7;grind
      have e9:out++sign=out:=by grind
      rw[e9]at ak ⊢;have eo:aD .i64 ((((ba out).size:Nat):Int) - 1)=((out.length - 1:Nat):Int):=by rw[bc,br _ io];omega
      rw[eo];refine⟨io,k8 out,?_,F.av (yL (k8 out) Q) ?_⟩
      .rw [bG,gN (s:=ba out) (by rw[bc];omega),lM,Lj out ac]
      rintro _ x rfl D;refine⟨_,rfl,bq (λan=>⟨io,gQ t 0,?_,D.av (yL (gQ t 0) x) ?_⟩) (λan=>ak x D (λj=>by rw[RR,j.2.1]at an;grind))⟩
      .rw [show aZ 0=0 from rfl,gN (s:=ba t) (by rw[bc];omega),lM]
      rintro _ w8 rfl H8;refine⟨_,rfl,bq (λap=>⟨?_,?_⟩) (λap=>ak w8 H8 (λj=>by rw[RR,j.2.2]at ap;grind))⟩
      .rw [bc];show ¬(((_+1:Nat):Int)>9223372036854775807);omega
      .have aP:ba out++a8 #[32]=ba (out++[32]):=by show _++ba [32]=_;rw[bM]
       rw[aP];refine go (out++[32]) w8 gs gs ?_ H8;rw[af ⟨am,an,ap⟩,s3,List.append_nil]at S;omega
    have h3:=sQ (level+1) (I.ao e.l);have Y:Rx.a3 (I.ao e.l)=I.a3 e.l:=I.xF e.l;exact loop e.l.length 0 [] q io (λj=>io) (λ_=>rfl) (by grind) (by grind) h
  have bd:2<=e.l.length->cM e.rx=if e.k=3 then 2 else if e.k=4 then 0 else 1:=λE=>by grind
  refine aw (λY=>S1 [97,108,116] [124] 0 rfl (by rw[Y];rfl) (by rw[Y];rfl) io (λE=>by grind)) (λY=>aw (λh5=>S1 [97,108,108] [38] 1 rfl (by rw[h5];rfl) (by rw[h5];rfl) io (λE=>by grind)) (λh5=>S1 [99,97,116] [] 2 rfl (by rw[show e.k=3 by omega];rfl) (by rw[show e.k=3 by omega];rfl) io (λE=>by grind)))
def Pv(x:I)(d:Nat)(w:J)(e:x.sz<=1000000)(h:d<=1000)(j:i7 x.rx=true)(k:x.P w):aj U zT #[x.v,.i (d:Int)] w λr q=>r=ad (.string (ba (cI d x.rx (a' x.rx))))/\ag w q:=Pw (bm _) (Pt 1000000 (bm _)) x d w e h j k
def ea(w:J)(p:Addr)(d:Nd):Prop:=∀i v,(Nd.c d)[i]? =some v->w.cell? (p.add i)=some v
def ea.st{w w':J}{p:Addr}{d:Nd}(j:ea w p d)(q:p.block<w.heap.size->w'.heap[p.block]? =w.heap[p.block]?):ea w' p d:=λi v k=>by have e:=j i v k;have h:=rk e;rw[j']at h;unfold World.cell? at e ⊢;rw[j']at e ⊢;rw[q h];exact e
def ea.lt{w:J}{p:Addr}{d:Nd}(e:ea w p d):p.block<w.heap.size:=by
 have:=rk (e 0 _ rfl)
 rwa[j']at this
def _root_.Go.W.En.gI(p:Addr)(d:Nd):En:=⟨[p.block],λh=>ea h p d,λh q k e=>e.st (k p.block gs),λh e b j=>by simp at j;subst j;exact ea.lt e,gs⟩
def OF{w:J}{b:Nat}{d:Nd}{T:aE}(e:w.heap[b]? =some (.cells (Nd.c d).toArray T (0,0))):ea w (ab b) d:=λi v h=>cellAt (p:=ab b) e rfl (by simpa using h)
section
variable {w:J} {p:Addr} {d:Nd} (h:ea w p d)
include h
def ea.c0:w.cell? (p.add 0)=some (.i d.x.op):=h 0 _ rfl
def ea.c1:w.cell? (p.add 1)=some d.ks.v:=h 1 _ rfl
def ea.c2:w.cell? (p.add 2)=some (.i d.x.n):=h 2 _ rfl
def ea.c3:w.cell? (p.add 3)=some (.i d.x.m):=h 3 _ rfl
def ea.c4:w.cell? (p.add 4)=some (.u d.x.u):=h 4 _ rfl
def ea.c5:w.cell? (p.add 5)=some (.string d.x.tx):=h 5 _ rfl
def ea.s0:w.cell? ((p.add 6).add 0)=some (.i d.x.st.k):=by rw[add_add];exact h 6 _ rfl
def ea.s1:w.cell? ((p.add 6).add 1)=some (.i d.x.st.n):=by rw[add_add];exact h 7 _ rfl
def ea.s2:w.cell? ((p.add 6).add 2)=some (.i d.x.st.x):=by rw[add_add];exact h 8 _ rfl
end
def j0(n:Int)(w:J):aj U Oj #[.i n] w λr h=>r=ad (dA (aN n))/\ag w h:=
 Su.aq ((bT [] gs).ax λb j d=>d.ae λk e=>⟨rfl,e.fr⟩)
def vk(n:Int)(w:J):aj U OC #[.i n] w λr h=>r=ad (dA (e9 n))/\ag w h:=
 SE.aq ((bT [] gs).ax λb j d=>d.ae λk e=>⟨rfl,e.fr⟩)
def sD(s:aP)(w:J):aj U On #[dA s] w λr e=>r=ad (.bool (s.k==0))/\ag w e:=
 Sx.aq ((bT [] gs).ax λb h d=>⟨rfl,d.fr⟩)
def j1(s:aP)(w:J):aj U Oq #[dA s] w λr e=>r=ad (.bool (s.k==1))/\ag w e:=
 Sz.aq ((bT [] gs).ax λb h d=>⟨rfl,d.fr⟩)
def GX(s:aP)(w:J):aj U Om #[dA s] w λr h=>r=ad (.bool (ed s))/\ag w h:=
 Sw.aq ((bT [] gs).ax λb j e=>aw (λd=>⟨by unfold ed;rw[d];rfl,e.fr⟩) (λd=>⟨by unfold ed;rw[beq_eq_false_iff_ne.2 d];rfl,e.fr⟩))
def Si(x y:aP)(w:J):aj U Oi #[dA x,dA y] w λr A=>r=ad (.bool (ai (x=y)||(x.k==1&&y.k==1)))/\ag w A:=by refine Sr.aq ((bT [] gs).ax λb E q=>q.ax λD B h=>mQ (a:=x) (b:=y) (λd=>⟨by rw[aQ d];rfl,h.fr⟩) (λd=>h.av (j1 x B) ?_));rintro _ C rfl j;rw[aS d,Bool.false_or];refine⟨_,rfl,aw (λe=>j.av (j1 y C) ?_) (λe=>⟨by rw[beq_eq_false_iff_ne.2 e];rfl,j.fr⟩)⟩;rintro _ F rfl z;exact⟨_,rfl,by rw[e];rfl,z.fr⟩
def Gg(d ranges:Bool):Int:=if d=true then(if ranges=true then 0 else 5)else 9
def acq(s:aP)(k ranges:Bool)(w:J):aj U zU #[dA s,.bool k,.bool ranges] w λr y=>r=gO (s,Gg k ranges)/\ag w y:=by refine SB.aq ((bT [] gs).ax λb A x=>x.ax λz B h=>eO (λe=>h.ae λq d=>⟨by rw[e];rfl,d.fr⟩) (λe=>eO (λj=>h.ae λq d=>⟨by rw[e,j];rfl,d.fr⟩) (λj=>h.ae λq d=>⟨by rw[e,j];rfl,d.fr⟩)))
def GV(s:aP)(w:J):aj U OD #[dA s] w λr y=>r=ad (.int .i64 (fX s))/\ag w y:=by
 refine Bp.aq ((bT [] gs).ax λG D F=>?_);have H:bw s=true->(Ending.returned (Value.int .i64 0)=ad (.int .i64 (fX s))/\ag w D):=λj=>⟨by unfold fX;rw[af j],F.fr⟩;have bad:bw s=false->(Ending.returned (Value.int .i64 9)=ad (.int .i64 (fX s))/\ag w D):=λj=>⟨by unfold fX;rw[aa (by simp[j])],F.fr⟩;have plain:∀least:Int,(∀e:least<=s.n,s.n<=64->s.x=0->bw s=true)->(¬(least<=s.n/\s.n<=64/\s.x=0)->bw s=false)->Bp.a1 G s.k s.n s.x least 64 false D λr y=>r=ad (.int .i64 (fX s))/\ag w y:=by intro least e d;exact aY (λj=>bad (d io)) (λj=>aY (λE=>bad (d io)) (λE=>aW rfl (aU rfl (cz (λh=>bad (d (λI=>h I.2.2))) (λh=>H (e io io h))))))
 have array:∀least:Int,(∀e:least<=s.n,s.n<=64->1<=s.x->s.x<=16->bw s=true)->(¬(least<=s.n/\s.n<=64/\1<=s.x/\s.x<=16)->bw s=false)->Bp.a1 G s.k s.n s.x least 64 true D λr y=>r=ad (.int .i64 (fX s))/\ag w y:=by intro least e d;exact aY (λj=>bad (d io)) (λj=>aY (λE=>bad (d io)) (λE=>aU rfl (aY (λh=>bad (d io)) (λh=>aY (λq=>bad (d io)) (λq=>aW rfl (H (e io io io io)))))))
 refine aw (λz=>plain 1 (λe d h=>?_) (λj=>?_)) (λz=>aw (λA=>plain 0 (λe d h=>?_) (λj=>?_)) (λA=>aw (λB=>array 1 (λe d h q=>?_) (λj=>?_)) (λB=>aw (λC=>array 0 (λe d h q=>?_) (λj=>?_)) (λC=>bad ?_))))
 .unfold bw;simp[z,e,d,h]
 .unfold bw;rw[z];simp;omega
 .unfold bw;simp[A,e,d,h]
 .unfold bw;rw[A];simp;omega
 .unfold bw;simp[B,e,d,h,q]
 .unfold bw;rw[B];simp;omega
 .unfold bw;simp[C,e,d,h,q]
 .unfold bw;rw[C];simp;omega
 .unfold bw;simp[z,A,B,C]
def ab7{s:ByteArray}{i:Nat}(d:i<s.size):s[i]? =some (gQ (bl s) i):=by
 have h:i<(bl s).length:=d;have e:gQ (bl s) i=(bl s)[i]:=by unfold gQ;rw[List.getD_eq_getElem?_getD,a0 h];rfl
 rw[e,getElem?_pos s i d];rfl
def acm(s:ByteArray)(w:J):aj U Oo #[.string s] w λr j=>r=ad (.bool (i3 (bl s)))/\ag w j:=by
 have h:(bl s).length=s.size:=cZ s;have rU:∀(c:UInt8) (m:List UInt8),i3 (c::m)=(ai (m.length<=15)&&gj c&&m.all dV):=λ_ _=>rfl;cases y:bl s with
 |nil=>
  have k:s.size=0:=by rw[<-h,y];rfl
  exact oy.ok (aU (aQ io) ⟨rfl,Fr.refl _ _⟩)
 |cons c m=>
  have P:s.size=m.length+1:=by rw[<-h,y];rfl
  have F:gQ (bl s) 0=c:=by rw[y];rfl
  refine oy.ok (aW (aS io) (aY (λe=>⟨?_,Fr.refl _ _⟩) (λe=>?_)))
  .rw [rU,aS io];rfl
  have I:i3 (c::m)=(gj c&&m.all dV):=by rw[rU,aQ (by omega:m.length<=15),Bool.true_and]
  rw[I];have loop:∀(d i:Nat),i+d=s.size->(gj c&&m.all dV)=(if i=0 then(gj c&&m.all dV)else((bl s).drop i).all dV)->oy.L1 s (i:Int) w λr j=>r=ad (.bool (gj c&&m.all dV))/\ag w j:=by
   intro d;induction d with
   |zero=>
    intro i M q;rw[dw io,aa io]at q;exact oy.ik (aW (aS io) ⟨by rw[q];rfl,Fr.refl _ _⟩)
   |succ d O=>
    intro i M q;have G:=ab7 (show i<s.size by omega);have H:(bl s).drop i=gQ (bl s) i::(bl s).drop (i+1):=by rw[dy (by omega:i<(bl s).length)];unfold gQ;rw[List.getD_eq_getElem?_getD,a0 (by omega:i<(bl s).length)];rfl
    have go:(if i=0 then gj (gQ (bl s) i)else dV (gQ (bl s) i))=true->oy.S5 s (i:Int) w λr j=>r=ad (.bool (gj c&&m.all dV))/\ag w j:=λe=>by
     show oy.L1 s (aD .i64 ((i:Int)+1)) w _;rw[bp _ io];refine O (i+1) io ?_;rw[aa io];by_cases k:i=0
     .subst k;rw[af rfl,F]at e;rw[e,Bool.true_and];rw[y];rfl
     .rw [aa k]at e q;rw[q,H,List.all_cons,e,Bool.true_and]
    have stop:(if i=0 then gj (gQ (bl s) i)else dV (gQ (bl s) i))=false->oy.S4 w λr j=>r=ad (.bool (gj c&&m.all dV))/\ag w j:=λe=>by
     refine⟨?_,Fr.refl _ _⟩;by_cases k:i=0
     .subst k;rw[af rfl,F]at e;rw[e,Bool.false_and]
     .rw [aa k]at e q;rw[q,H,List.all_cons,e,Bool.false_and]
    generalize gQ (bl s) i=x at G go stop;have E:∀l:Bool,l=gj x->oy.S3 s (i:Int) (x.toNat:Int) l w λr j=>r=ad (.bool (gj c&&m.all dV))/\ag w j:=by
     intro l h;refine eO (λL=>?_) (λD=>go ?_)
     .rw [L]at h;refine aw (λk=>stop ?_) (λk=>?_)
      .rw [af io,<-h]
      have N:i≠0:=io
      rw[aa N]at go stop;have z:dV x=((ai (48<=x.toNat)&&ai (x.toNat<=57))||x==45):=by unfold dV;rw[<-h,Bool.false_or]
      refine cz (λC=>aY (λB=>stop ?_) (λB=>aY (λK=>stop ?_) (λK=>go ?_))) (λC=>go ?_)
      .rw [z,aS (show ¬48<=x.toNat by omega)];have:(x==45)=false:=beq_eq_false_iff_ne.2 λA=>C (by subst A;rfl);rw[this];rfl
      .rw [z,aS (show ¬x.toNat<=57 by omega),Bool.and_false];have:(x==45)=false:=beq_eq_false_iff_ne.2 λA=>C (by subst A;rfl);rw[this];rfl
      .rw [z,aQ (show 48<=x.toNat by omega),aQ (show x.toNat<=57 by omega)];rfl
      .have:x=45:=UInt8.toNat_inj.1 (by have:((45:UInt8).toNat:Int)=45:=rfl;omega);rw[z,this];rfl
     .rw [D]at h;split
      .exact h.symm
      .unfold dV;rw[<-h];rfl
    have D:((i:Int)).toNat=i:=bG i;refine oy.ik (aU (aQ io) ⟨io,x,by rw[D];exact G,aY (λB=>E _ ?_) (λB=>E _ ?_)⟩)
    .unfold gj;rw[aQ (show 97<=x.toNat by omega),Bool.true_and];exact decide_eq_decide.2 io
    .unfold gj;rw[aS (show ¬97<=x.toNat by omega),Bool.false_and]
  exact loop s.size 0 io (by rw[af rfl])
def Wl(t:ByteArray):(t.toList==(a8 #[]).toList)=ai (t=ba []):=x' _ _
def ack{w:J}{p:Addr}{d:Nd}(y:ea w p d):aj U Ol #[.pointer (some p)] w λr k=>r=ad (.bool (fL d.x))/\ag w k:=by
 have C:∀a b c e:Bool,xT.S1 p a b c e w λr k=>r=ad (.bool ((a||d.x.n==0)&&(b||d.x.m==0)&&(c||d.x.u==0)&&(e||ai (d.x.tx=ba []))))/\ag w k:=by
  intro a b c e;cases a<;>cases b<;>cases c<;>cases e;all_goals repeat (first |refine aW rfl ?_|refine aU rfl ?_|refine⟨_,y.c2,aw (λh=>?_) (λh=>⟨by rw[beq_eq_false_iff_ne.2 h];simp,Fr.refl _ _⟩)⟩|refine⟨_,y.c3,aw (λj=>?_) (λj=>⟨by rw[beq_eq_false_iff_ne.2 j];simp,Fr.refl _ _⟩)⟩|refine⟨_,y.c4,aw (λz=>?_) (λz=>⟨by rw[beq_eq_false_iff_ne.2 z];simp,Fr.refl _ _⟩)⟩|refine⟨_,y.c5,?_,Fr.refl _ _⟩)
  all_goals first |exact⟨by simp[*],Fr.refl _ _⟩|(rw[Wl];simp[*])
 have fin:∀a b c e:Bool,a=mF d.x.op->b=(d.x.op==21)->c=(d.x.op==1)->e=mG d.x.op->xT.S1 p a b c e w λr k=>r=ad (.bool (fL d.x))/\ag w k:=by rintro a b c e rfl rfl rfl rfl;exact C _ _ _ _
 have H:∀A:Int,d.x.op≠A->(d.x.op==A)=false:=λA G=>beq_eq_false_iff_ne.2 G;have D:∀e:Bool,e=mG d.x.op->xT.S2 p false false false e d.x.op w λr k=>r=ad (.bool (fL d.x))/\ag w k:=by intro e q;refine aw (λE=>fin _ _ _ _ ?_ ?_ ?_ q) (λE=>aw (λh=>fin _ _ _ _ ?_ ?_ ?_ q) (λh=>aw (λj=>aU (beq_iff_eq.2 j) (fin _ _ _ _ ?_ ?_ ?_ q)) (λj=>aw (λz=>aU (beq_iff_eq.2 z) (fin _ _ _ _ ?_ ?_ ?_ q)) (λz=>aw (λF=>fin _ _ _ _ ?_ ?_ ?_ q) (λF=>fin _ _ _ _ ?_ ?_ ?_ q)))));all_goals first |(rw[‹d.x.op=_›];rfl)|(simp[mF, *])
 refine xT.ok ⟨_,y.c0,aw (λB=>aU (beq_iff_eq.2 B) (fin _ _ _ _ ?_ ?_ ?_ ?_)) (λB=>aw (λh=>aU (beq_iff_eq.2 h) (fin _ _ _ _ ?_ ?_ ?_ ?_)) (λh=>aw (λj=>fin _ _ _ _ ?_ ?_ ?_ ?_) (λj=>D _ ?_)))⟩;all_goals first |(rw[‹d.x.op=_›];rfl)|(unfold mG;simp[*])
def jM(s:aP)(e:Int)(r:cR):Prop:=∃(t:aP) (d:Int),r=gO (t,d)/\d=e/\(e=0->t=s)
def zq{w:J}{p:Addr}{d:Nd}(h:ea w p d):O F0 w w [] [.gI p d]:=bT _ (by intro j e;simp only[aF,a5,a9]at e;subst e;exact h)
def i0(n:Nx)(x y z:aP):Int:=if cX n.op x y z=false then 9 else if ic n x y z=false then 5 else if n.op=33/\k1 n.tx=false then 2 else 0
def aaH{n:Nx}{x y z t:aP}{d ranges:Bool}(q:n.op≠33)(h:d=cX n.op x y z)(j:d=true->ranges=ic n x y z)(k:d=true->ranges=true->t=gM n x y z):jM (gM n x y z) (i0 n x y z) (gO (t,Gg d ranges)):=by
 refine⟨t,_,rfl,?_,λe=>?_⟩
 .unfold Gg i0;rw[<-h];cases d with
  |false=>rfl
  |true=>
   rw[<-j rfl];cases ranges with
   |false=>rfl
   |true=>simp[q]
 .unfold i0 at e;rw[<-h]at e;cases d with
  |false=>simp at e
  |true=>
   rw[<-j rfl]at e;cases ranges with
   |false=>simp at e
   |true=>exact k rfl rfl
section
variable {M:Nat->Prop} {w0 w:J} {L D:List En} {bs Ut:List Nat}
def ef(H:O F0 w0 w L D){n:Nx}{x y z:aP}(t:aP)(d ranges:Bool)(B:n.op≠33)(k:d=cX n.op x y z)(q:d=true->ranges=ic n x y z)(A:d=true->ranges=true->t=gM n x y z)(C:∀b∈bs,En.g b∈L:=by simp):
  fH Ut U zU #[dA t,.bool d,.bool ranges] w λr E=>∃a b c e:Int,r=ad (.tuple #[.agg #[.i a,.i b,.i c],.i e])/\loc bs E λF=>jM (gM n x y z) (i0 n x y z) (ad (.tuple #[.agg #[.i a,.i b,.i c],.i e]))/\ag w0 F:=by refine H.av (acq t d ranges w) ?_;rintro _ G rfl h;exact⟨_,_,_,_,rfl,h.ae (λI j=>⟨aaH B k q A,j.fr⟩) C⟩
end
def pO(s:aP):Prop:=0<=s.n/\s.n<=64
def ac0{s:aP}(d:bw s=true):pO s:=⟨(m0 d).1,(m0 d).2.1⟩
def OW:pO a6:=⟨dl,dl⟩
def acj{w:J}{p:Addr}{d:Nd}{x y z:aP}(q:ea w p d)(h4:4<=d.x.op)(ao:d.x.op<=23)(hx:pO x)(hy:pO y)(hn:cO d.x.n)(hm:cO d.x.m):
  aj U Oy #[.pointer (some p),dA x,dA y,dA z] w λr w'=>jM (gM d.x x y z) (i0 d.x x y z) r/\ag w w':=by
 refine GY.aq ((zq q).ax λb5 w1 H1=>H1.ax λb6 w2 H2=>H2.ax λb7 w3 H3=>H3.ax λb8 w4 F=>?_);obtain⟨⟨op,kids,n,m,u,M,st⟩,ab⟩:=d;have C:∀{A:J} {L:List En},O F0 w A L [.gI p ⟨⟨op,kids,n,m,u,M,st⟩,ab⟩]->ea A p ⟨⟨op,kids,n,m,u,M,st⟩,ab⟩:=λam=>am.getD 0;simp only at h4 ao hn hm;refine⟨op,(C F).c0,?_⟩;obtain⟨aB,aC⟩:=hx;obtain⟨aG,aH⟩:=hy;obtain⟨ay,az⟩:=hn;obtain⟨ap,ar⟩:=hm;have two:∀(c:Bool),c=true->c=true:=λ_ q=>q;rcases uF io (by omega:op<=34)with rfl|rfl|rfl|rfl|rfl|rfl|rfl|rfl|rfl|rfl|rfl|rfl|rfl|rfl|rfl|rfl|rfl|rfl|rfl|rfl|rfl|rfl|rfl|rfl|rfl|rfl|rfl|rfl|rfl|rfl|rfl|rfl|rfl|rfl|rfl
 iterate 4 omega
 rotate_left 20
 iterate 11 omega
 all_goals repeat (first |refine aW rfl ?_|refine aU rfl ?_)
 iterate 2
  .refine F.ae λA h=>h.av (sD x A) ?_;rintro _ D rfl j;exact⟨_,rfl,ef j x _ true gs rfl (λ_=>rfl) (λ_ _=>rfl)⟩
 iterate 10
  .refine F.ae λA h=>h.av (sD x A) ?_;rintro _ D rfl j;refine⟨_,rfl,aw (λB=>?_) (λB=>?_)⟩
   .refine ef j x _ true gs ?_ (λ_=>rfl) (λ_ _=>rfl);rw[lA];show _=(x.k==0&&ai (x=y));rw[B];rfl
   .refine ef j x _ true gs ?_ (λ_=>rfl) (λ_ _=>rfl);show _=(x.k==0&&ai (x=y));rw[beq_eq_false_iff_ne.2 B];rfl
 iterate 2
  .refine F.ae λA h=>h.av (j0 1 A) ?_;rintro _ D rfl j;refine⟨_,_,_,rfl,j.av (sD x D) ?_⟩;rintro _ G rfl e;refine⟨_,rfl,aw (λB=>?_) (λB=>?_)⟩
   .refine ef e (aN 1) _ true gs ?_ (λ_=>rfl) (λ_ _=>rfl);rw[lA];show _=(x.k==0&&ai (x=y));rw[B];rfl
   .refine ef e (aN 1) _ true gs ?_ (λ_=>rfl) (λ_ _=>rfl);show _=(x.k==0&&ai (x=y));rw[beq_eq_false_iff_ne.2 B];rfl
 .refine F.ae λA h=>h.av (j0 1 A) ?_;rintro _ D rfl j;refine⟨_,_,_,rfl,j.av (Si x y D) ?_⟩;rintro _ G rfl e;exact⟨_,rfl,ef e (aN 1) _ true gs rfl (λ_=>rfl) (λ_ _=>rfl)⟩
 .refine F.ax λah A h=>h.ae λD j=>j.av (j1 y D) ?_;rintro _ G rfl e;have W:∀(t:aP) (H:J),((ai (y=z)||(y.k==1&&z.k==1))=true->t=if y.k=1 then e9 (if y.n<z.n then z.n else y.n)else y)->O F0 w H [.g b5,.g b6,.g b7,.g b8,.g ah] [.gI p ⟨⟨19,kids,n,m,u,M,st⟩,ab⟩]->GY.ft b5 x.k x.n x.x b6 y.k y.n y.x b7 z.k z.n z.x b8 0 0 0 ah t.k t.n t.x H λr w'=>jM (gM ⟨19,kids,n,m,u,M,st⟩ x y z) (i0 ⟨19,kids,n,m,u,M,st⟩ x y z) r/\ag w w':=by
   intro t H ht I;refine I.ae λw9 T=>T.av (j0 1 w9) ?_;rintro _ ac rfl Q;have N:cX 19 x y z=(ai (x=aN 1)&&(ai (y=z)||(y.k==1&&z.k==1))):=rfl;refine⟨_,_,_,rfl,mQ (a:=x) (b:=aN 1) (λY=>Q.av (Si y z ac) ?_) (λY=>?_)⟩
   .rintro _ aI rfl an;refine⟨_,rfl,ef an t _ true gs ?_ (λ_=>rfl) (λq _=>ht q)⟩;show _=cX 19 x y z;rw[N,aQ Y];rfl
   .refine ef Q t _ true gs ?_ (λ_=>rfl) (λq _=>by cases q);show _=cX 19 x y z;rw[N,aS Y];rfl
  have yes:∀t:aP,y.k=1->z.k=1->t=e9 (if y.n<z.n then z.n else y.n)->((ai (y=z)||(y.k==1&&z.k==1))=true->t=if y.k=1 then e9 (if y.n<z.n then z.n else y.n)else y):=λt h1 _ h3 _=>by rw[af h1,h3]
  refine⟨_,rfl,aw (λB=>e.av (j1 z G) ?_) (λB=>W y G (λ_=>by rw[aa B]) e)⟩;rintro _ H rfl I;refine⟨_,rfl,aw (λS=>I.av (vk _ H) ?_) (λS=>W y H (λhf=>?_) I)⟩
  .rintro _ w9 rfl T;exact⟨_,_,_,rfl,T.ae λac Q=>W (e9 (if y.n<z.n then z.n else y.n)) ac (yes _ B S rfl) Q⟩
  .rw [beq_eq_false_iff_ne.2 S,Bool.and_false,Bool.or_false]at hf;have:=eQ hf;exact absurd (by rw[<-this];exact B) S
 .have e1:aD .i64 (x.n+y.n)=x.n+y.n:=br _ io;have N:cX 20 x y z=(x.k==0&&y.k==0):=rfl;refine F.ae λA h=>?_;rw[e1];refine h.av (j0 _ A) ?_;rintro _ D rfl j;refine⟨_,_,_,rfl,j.av (sD x D) ?_⟩;rintro _ G rfl e;refine⟨_,rfl,aw (λB=>e.av (sD y G) ?_) (λB=>?_)⟩
  .rintro _ H rfl I;refine⟨_,rfl,ef I (aN (x.n+y.n)) _ _ gs ?_ (λ_=>rfl) (λ_ _=>rfl)⟩;show _=cX 20 x y z;rw[N,B];rfl
  .refine ef e (aN (x.n+y.n)) _ _ gs ?_ (λq=>by cases q) (λq _=>by cases q);show _=cX 20 x y z;rw[N,beq_eq_false_iff_ne.2 B];rfl
 .have Z:ic ⟨21,kids,n,m,u,M,st⟩ x y z=(ai (0<=m)&&ai (m<=n)&&ai (n<x.n)):=rfl;refine F.ae λA h=>⟨_,(C h).c2,_,(C h).c3,_,(C h).c3,h.av (j0 _ A) ?_⟩;rintro _ D rfl j;refine⟨_,_,_,rfl,(C j).c3,j.av (sD x D) ?_⟩;rintro _ G rfl e;refine⟨_,rfl,(C e).c3,aY (λE=>⟨_,(C e).c3,_,(C e).c2,aY (λP=>⟨_,(C e).c2,ef e (aN _) _ _ gs rfl (λ_=>?_) (λ_ K=>?_)⟩) (λP=>ef e (aN _) _ _ gs rfl (λ_=>?_) (λ_ q=>by cases q))⟩) (λE=>ef e (aN _) _ _ gs rfl (λ_=>?_) (λ_ q=>by cases q))⟩
  .rw [Z,aQ (show 0<=m from E),aQ (show m<=n from P)];rfl
  .have E:0<=m:=E;have P:m<=n:=P;have K:n<x.n:=eQ K;show aN (aD .i64 (aD .i64 (n - m)+1))=aN (n - m+1);rw[br (n - m) io,br _ io]
  .rw [Z,aS (show ¬m<=n from P),Bool.and_false];rfl
  .rw [Z,aS (show ¬0<=m from E)];rfl
 iterate 2
  .have ak:aD .i64 (64 - x.n)=64 - x.n:=br _ io;refine F.ae λA h=>⟨_,(C h).c2,_,(C h).c2,h.av (j0 _ A) ?_⟩;rintro _ D rfl j;refine⟨_,_,_,rfl,(C j).c2,j.av (sD x D) ?_⟩;rintro _ G rfl e;refine⟨_,rfl,(C e).c2,aY (λE=>⟨_,(C e).c2,ef e (aN _) _ _ gs rfl (λ_=>?_) (λ_ K=>?_)⟩) (λE=>ef e (aN _) _ _ gs rfl (λ_=>?_) (λ_ q=>by cases q))⟩
   .show _=(ai (1<=n)&&ai (n<=64 - x.n));rw[ak,aQ (show 1<=n from E)];rfl
   .have E:1<=n:=E;rw[ak]at K;have K:n<=64 - x.n:=eQ K;show aN (aD .i64 (x.n+n))=aN (x.n+n);rw[br _ io]
   .show _=(ai (1<=n)&&ai (n<=64 - x.n));rw[aS (show ¬1<=n from E)];rfl
def ab5{x y z:aP}(h:ed x=true):cX 25 x y z=(ai (y=aN x.x)&&(if x.k=3 then z.k==1&&ai (z.n<=x.n)else ai (z=iv x))):=by
 show(ed x&&ai (y=aN x.x)&&(ai (z=iv x)||(x.k==3&&z.k==1&&ai (z.n<=x.n))))=_;rw[h,Bool.true_and];congr 1;by_cases d:x.k=3
 .rw [af d,d];have j:iv x=e9 x.n:=by unfold iv;rw[aa io]
  rw[j];by_cases e:z=e9 x.n
  .subst e;simp[e9]
  .rw [aS e];rfl
 .rw [aa d,beq_eq_false_iff_ne.2 d];simp
def aci{w:J}{p:Addr}{d:Nd}{x y z:aP}(G:ea w p d)(h4:24<=d.x.op)(ap:d.x.op<=26):
  aj U Ox #[.pointer (some p),dA x,dA y,dA z] w λr I=>jM (gM d.x x y z) (i0 d.x x y z) r/\ag w I:=by
 refine Ba.aq ((zq G).ax λK w1 H1=>H1.ax λZ w2 H2=>H2.ax λM w3 H3=>H3.ax λN w4 W=>?_);have an:∀{Q:J} {L:List En},O F0 w Q L [.gI p d]->ea Q p d:=λao=>ao.getD 0;refine⟨_,(an W).c0,aw (λP=>W.ae λQ H5=>H5.av (j0 x.x Q) ?_) (λP=>W.av (j0 x.n w4) ?_)⟩
 .rintro _ w6 rfl Y;refine⟨_,_,_,rfl,Y.av (GX x w6) ?_⟩;rintro _ D rfl e;have fe:cX d.x.op x y z=(ed x&&ai (x=y)):=by rw[P];rfl
  have C:ic d.x x y z=true:=by unfold ic;rw[P];rfl
  have E:gM d.x x y z=aN x.x:=by unfold gM;rw[P];rfl
  refine⟨_,rfl,bq (λj=>?_) (λj=>?_)⟩
  .refine ef e (aN x.x) _ true io ?_ (λ_=>C.symm) (λ_ _=>E.symm);rw[fe,lA,j];rfl
  .refine ef e (aN x.x) _ true io ?_ (λ_=>C.symm) (λ_ _=>E.symm);rw[fe,j];rfl
 rintro _ w6 rfl Y;have C:ic d.x x y z=true:=by unfold ic;rw[aa io,aa io,aa io,aa io,aa io]
 have S1:∀(t:aP) (q:Nat) (f:Bool) (D:J),f=(ed x&&ai (y=aN x.x))->(ed x=true->t=iv x)->O F0 w D [.g K,.g Z,.g M,.g N,.g q] [.gI p d]->Ba.bh p K x.k x.n x.x M z.k z.n z.x N 0 0 0 q t.k t.n t.x f D λr I=>jM (gM d.x x y z) (i0 d.x x y z) r/\ag w I:=by
  intro t q f D A H e;refine⟨_,(an e).c0,aw (λab=>?_) (λab=>?_)⟩
  .refine ef e t f true io ?_ (λ_=>C.symm) (λhh _=>?_)
   .rw [A,ab];rfl
   .rw [A]at hh;simp only[be]at hh;rw[H hh.1];unfold gM;rw[ab];rfl
  have ac:d.x.op=25:=io
  have E:gM d.x x y z=x:=by unfold gM;rw[ac];rfl
  have ff:f=false->cX d.x.op x y z=false:=λG=>by rw[ac];show(ed x&&ai (y=aN x.x)&&(ai (z=iv x)||(x.k==3&&z.k==1&&ai (z.n<=x.n))))=_;rw[<-A,G];rfl
  have ft:f=true->ed x=true/\cX d.x.op x y z=(if x.k=3 then z.k==1&&ai (z.n<=x.n)else ai (z=iv x)):=λG=>by rw[G]at A;have A:=A.symm;simp only[be]at A;refine⟨A.1,?_⟩;rw[ac,ab5 A.1,A.2,Bool.true_and]
  refine aw (λj=>bq (λak=>e.ae λB h=>h.av (j1 z B) ?_) (λah=>e.ae λB h=>ef h x _ true io (ff ah).symm (λ_=>C.symm) (λ_ _=>E.symm))) (λj=>bq (λak=>e.ae λB h=>ef h x _ true io ?_ (λ_=>C.symm) (λ_ _=>E.symm)) (λah=>e.ae λB h=>ef h x _ true io (ff ah).symm (λ_=>C.symm) (λ_ _=>E.symm)))
  .rintro _ S rfl F;have:=(ft ak).2;rw[af j]at this;refine⟨_,rfl,aw (λhz=>ef F x _ true io ?_ (λ_=>C.symm) (λ_ _=>E.symm)) (λhz=>ef F x _ true io ?_ (λ_=>C.symm) (λ_ _=>E.symm))⟩
   .rw [this,hz];rfl
   .rw [this,beq_eq_false_iff_ne.2 hz];rfl
  .have h2:=ft ak;rw[aa j]at h2;rw[h2.2,lA,H h2.1]
 have S0:∀(t:aP) (q:Nat) (D:J),(ed x=true->t=iv x)->O F0 w D [.g K,.g Z,.g M,.g N,.g q] [.gI p d]->Ba.a1 p K x.k x.n x.x Z y.k y.n y.x M z.k z.n z.x N 0 0 0 q t.k t.n t.x D λr I=>jM (gM d.x x y z) (i0 d.x x y z) r/\ag w I:=by intro t q D H e;refine e.ae λB h=>h.av (GX x B) ?_;rintro _ S rfl F;refine⟨_,rfl,bq (λj=>F.av (j0 x.x S) ?_) (λj=>S1 t q false S (by rw[j];rfl) H F)⟩;rintro _ am rfl T;exact⟨_,_,_,rfl,S1 t q _ am (by rw[j];exact lA y (aN x.x)) H T⟩
 refine⟨_,_,_,rfl,Y.ax λq D e=>aw (λj=>e.ae λB h=>h.av (vk x.n B) ?_) (λj=>e.ae λB h=>S0 (aN x.n) q B (λha=>?_) h)⟩
 .rintro _ S rfl F;exact⟨_,_,_,rfl,F.ae λam T=>S0 (e9 x.n) q am (λ_=>by unfold iv;rw[aa io]) T⟩
 .unfold ed at ha;simp only[Bool.or_eq_true,beq_iff_eq]at ha;unfold iv;rw[af io]
def qS(t:ByteArray):Prop:=∀d,aj U Fh #[.string t] d λr e=>r=ad (.bool (k1 t))/\ag d e
def acv{w:J}{p:Addr}{d:Nd}{x y z:aP}(B:ea w p d)(ak:27<=d.x.op)(am:d.x.op<=34)(hx:pO x)(hy:pO y)(hz:pO z)(Y:d.x.op=33->qS d.x.tx):
  aj U OA #[.pointer (some p),dA x,dA y,dA z] w λr w'=>jM (gM d.x x y z) (i0 d.x x y z) r/\ag w w':=by
 refine SD.aq ((zq B).ax λb5 w1 H1=>H1.ax λb6 w2 H2=>H2.ax λb7 w3 H3=>H3.ax λb8 w4 H=>?_);obtain⟨⟨op,kids,n,m,u,G,st⟩,T⟩:=d;have M:∀{q:J} {L:List En},O F0 w q L [.gI p ⟨⟨op,kids,n,m,u,G,st⟩,T⟩]->ea q p ⟨⟨op,kids,n,m,u,G,st⟩,T⟩:=λab=>ab.getD 0;simp only at ak am Y;refine⟨op,(M H).c0,?_⟩;obtain⟨ao,ap⟩:=hx;obtain⟨ar,ay⟩:=hy;obtain⟨az,aB⟩:=hz;have an:op=27\/op=28\/op=29\/op=30\/op=31\/op=32\/op=33\/op=34:=io
 rcases an with rfl|rfl|rfl|rfl|rfl|rfl|rfl|rfl;all_goals repeat (first |refine aW rfl ?_|refine aU rfl ?_)
 .refine H.ae λq A=>A.av (j0 7 q) ?_;rintro _ C rfl h;refine⟨_,_,_,rfl,h.av (j1 x C) ?_⟩;rintro _ F rfl e;exact⟨_,rfl,ef e (aN 7) _ true gs rfl (λ_=>rfl) (λ_ _=>rfl)⟩
 .have Z:ic ⟨28,kids,n,m,u,G,st⟩ x y z=(ai (0<=n)&&ai (n<=63)):=rfl;refine H.ae λq A=>⟨_,(M A).c2,A.av (j0 8 q) ?_⟩;rintro _ C rfl h;refine⟨_,_,_,rfl,(M h).c2,h.av (j1 x C) ?_⟩;rintro _ F rfl e;refine⟨_,rfl,(M e).c2,aY (λQ=>⟨_,(M e).c2,ef e (aN 8) _ _ gs rfl (λ_=>?_) (λ_ _=>rfl)⟩) (λQ=>ef e (aN 8) _ _ gs rfl (λ_=>?_) (λ_ B=>by cases B))⟩
  .rw [Z,aQ (show 0<=n from Q),Bool.true_and];exact decide_eq_decide.2 (by show n<64↔n<=63;omega)
  .rw [Z,aS (show ¬0<=n from Q)];rfl
 .have P:aD .i64 (x.n+y.n)=x.n+y.n:=br _ io;have D:cX 29 x y z=(x.k==1&&y.k==1):=rfl;refine H.ae λq A=>?_;rw[P];refine A.av (vk _ q) ?_;rintro _ C rfl h;refine⟨_,_,_,rfl,h.av (j1 x C) ?_⟩;rintro _ F rfl e;refine⟨_,rfl,aw (λj=>e.av (j1 y F) ?_) (λj=>?_)⟩
  .rintro _ I rfl E;refine⟨_,rfl,ef E (e9 (x.n+y.n)) _ _ gs ?_ (λ_=>rfl) (λ_ _=>rfl)⟩;show _=cX 29 x y z;rw[D,j];rfl
  .refine ef e (e9 (x.n+y.n)) _ _ gs ?_ (λB=>by cases B) (λB _=>by cases B);show _=cX 29 x y z;rw[D,beq_eq_false_iff_ne.2 j];rfl
 .have D:cX 30 x y z=(x.k==1&&ai (y=aN 7)&&ai (z=aN 7)):=rfl;refine H.ae λq A=>A.av (j1 x q) ?_;rintro _ C rfl h;refine⟨_,rfl,aw (λj=>h.av (j0 7 C) ?_) (λj=>ef h x _ true gs ?_ (λ_=>rfl) (λ_ _=>rfl))⟩
  .rintro _ F rfl e;refine⟨_,_,_,rfl,mQ (a:=y) (b:=aN 7) (λK=>e.av (j0 7 F) ?_) (λK=>ef e x _ true gs ?_ (λ_=>rfl) (λ_ _=>rfl))⟩
   .rintro _ I rfl E;refine⟨_,_,_,rfl,ef E x _ true gs ?_ (λ_=>rfl) (λ_ _=>rfl)⟩;show _=cX 30 x y z;rw[D,j,aQ K];exact lA z (aN 7)
   .show _=cX 30 x y z;rw[D,aS K,Bool.and_false];rfl
  .show _=cX 30 x y z;rw[D,beq_eq_false_iff_ne.2 j];rfl
 .have D:cX 31 x y z=(x.k==1&&y.k==1):=rfl;refine H.ae λq A=>A.av (j0 7 q) ?_;rintro _ C rfl h;refine⟨_,_,_,rfl,h.av (j1 x C) ?_⟩;rintro _ F rfl e;refine⟨_,rfl,aw (λj=>e.av (j1 y F) ?_) (λj=>?_)⟩
  .rintro _ I rfl E;refine⟨_,rfl,ef E (aN 7) _ true gs ?_ (λ_=>rfl) (λ_ _=>rfl)⟩;show _=cX 31 x y z;rw[D,j];rfl
  .refine ef e (aN 7) _ true gs ?_ (λ_=>rfl) (λ_ _=>rfl);show _=cX 31 x y z;rw[D,beq_eq_false_iff_ne.2 j];rfl
 .have P:aD .i64 (x.n+z.n)=x.n+z.n:=br _ io;have D:cX 32 x y z=(x.k==1&&y.k==1&&z.k==1):=rfl;refine H.ae λq A=>?_;rw[P];refine A.av (vk _ q) ?_;rintro _ C rfl h;refine⟨_,_,_,rfl,h.av (j1 x C) ?_⟩;rintro _ F rfl e;have no:∀{I:J} {L:List En} {bs ac:List Nat},O F0 w I L [.gI p ⟨⟨32,kids,n,m,u,G,st⟩,T⟩]->(∀b∈bs,En.g b∈L)->cX 32 x y z=false->fH ac U zU #[dA (e9 (x.n+z.n)),.bool false,.bool (ai (x.n+z.n<=64))] I λr q=>∃a b c W:Int,r=ad (.tuple #[.agg #[.i a,.i b,.i c],.i W])/\loc bs q λC=>jM (gM ⟨32,kids,n,m,u,G,st⟩ x y z) (i0 ⟨32,kids,n,m,u,G,st⟩ x y z) (ad (.tuple #[.agg #[.i a,.i b,.i c],.i W]))/\ag w C:=λE hb hf=>ef E _ _ _ gs hf.symm (λB=>by cases B) (λB _=>by cases B) hb;refine⟨_,rfl,aw (λj=>e.av (j1 y F) ?_) (λj=>no e gs ?_)⟩
  .rintro _ I rfl E;refine⟨_,rfl,aw (λS=>E.av (j1 z I) ?_) (λS=>no E gs ?_)⟩
   .rintro _ w9 rfl H9;refine⟨_,rfl,ef H9 (e9 (x.n+z.n)) _ _ gs ?_ (λ_=>rfl) (λ_ _=>rfl)⟩;show _=cX 32 x y z;rw[D,j,S];rfl
   .rw [D,beq_eq_false_iff_ne.2 S,Bool.and_false];rfl
  .rw [D,beq_eq_false_iff_ne.2 j];rfl
 .have D:cX 33 x y z=(x.k==1):=rfl;have ah:ic ⟨33,kids,n,m,u,G,st⟩ x y z=true:=rfl;refine H.av (j1 x w4) ?_;rintro _ q rfl A;refine⟨_,rfl,eO (λj=>A.ae λC h=>⟨⟨x,9,rfl,?_,λB=>?_⟩,h.fr⟩) (λj=>⟨G,(M A).c5,A.av (Y rfl q) ?_⟩)⟩
  .unfold i0;rw[show cX (33:Int) x y z=false from j];rfl
  .unfold i0 at B;rw[show cX (33:Int) x y z=false from j]at B;cases B
  .rintro _ C rfl h;have K:i0 ⟨33,kids,n,m,u,G,st⟩ x y z=if k1 G=false then 2 else 0:=by unfold i0;rw[show cX (33:Int) x y z=true from j,ah];simp
   refine⟨_,rfl,eO (λN=>h.ae λF e=>⟨⟨x,2,rfl,?_,λB=>?_⟩,e.fr⟩) (λN=>h.av (j0 1 C) ?_)⟩
   .rw [K,af N]
   .rw [K,af N]at B;cases B
   .rintro _ F rfl e;exact⟨_,_,_,rfl,e.ae λI E=>⟨⟨aN 1,0,rfl,by rw[K,aa (by rw[N];simp)],λ_=>rfl⟩,E.fr⟩⟩
 .refine H.ae λq A=>A.av (vk 1 q) ?_;rintro _ C rfl h;refine⟨_,_,_,rfl,h.av (j0 8 C) ?_⟩;rintro _ F rfl e;exact⟨_,_,_,rfl,ef e (e9 1) _ true gs (lA x (aN 8)) (λ_=>rfl) (λ_ _=>rfl)⟩
def Wt(u n:Int)(j:0<=u)(w:0<=n)(x:n<64):((Int.fdiv u (2^(min (aZ n) (IntKind.bits .u64)))) !=0)=ai (2^n.toNat<=u):=by
 have h:min (aZ n) (IntKind.bits .u64)=n.toNat:=by show min n.toNat 64=_;omega
 rw[h];have d:(0:Int)<2^n.toNat:=Int.pow_pos dl;generalize(2:Int)^n.toNat=q at d;have k:=Int.fdiv_eq_ediv_of_nonneg u (by omega:0<=q);rw[k];by_cases e:q<=u
 .rw [aQ e];have:1<=u / q:=by rw[Int.le_ediv_iff_mul_le d];omega
  simp only[bne_iff_ne,ne_eq];omega
 .rw [aS e];rw[Int.ediv_eq_zero_of_lt j io];rfl
def aco{w:J}{p:Addr}{d:Nd}(g:List Nx)(y:ea w p d)(S:1<=d.x.op)(h3:d.x.op<=3)(hu:0<=d.x.u):
  aj U Oz #[.pointer (some p)] w λr Y=>jM (cg g d.x).1 (cg g d.x).2 r/\ag w Y:=by
 refine GZ.aq ((zq y).ax λF Z z=>?_);have h:∀{A:J} {L:List En},O F0 w A L [.gI p d]->ea A p d:=λab=>ab.getD 0;have er:∀(t:aP) (e:Int) (A:J),e≠0->(cg g d.x)=(a6,e)->O F0 w A [.g F] [.gI p d]->loc [F] A λI=>jM (cg g d.x).1 (cg g d.x).2 (ad (.tuple #[.agg #[.i t.k,.i t.n,.i t.x],.i e]))/\ag w I:=λt e A h0 C P=>P.ae λI Q=>⟨⟨t,e,rfl,by rw[C],λy=>by rw[C]at y;exact absurd y h0⟩,Q.fr⟩;have ok:∀(t:aP) (A:J),(cg g d.x)=(t,0)->O F0 w A [.g F] [.gI p d]->loc [F] A λI=>jM (cg g d.x).1 (cg g d.x).2 (ad (.tuple #[.agg #[.i t.k,.i t.n,.i t.x],.i 0]))/\ag w I:=λt A C P=>P.ae λI Q=>⟨⟨t,0,rfl,by rw[C],λ_=>by rw[C]⟩,Q.fr⟩;refine⟨_,(h z).c0,aw (λK=>?_) (λK=>?_)⟩
 .refine ⟨_,(h z).c5,aY (λhs=>⟨_,_,_,(h z).s0,(h z).s1,(h z).s2,er d.x.st 5 Z dl ?_ z⟩) (λhs=>⟨_,(h z).c5,z.av (vk _ Z) ?_⟩)⟩
  .unfold cg;rw[af K,af io]
  .rintro _ H rfl q;refine⟨_,_,_,rfl,ok (e9 d.x.tx.size) H ?_ q⟩;unfold cg;rw[af K,aa io]
 have B:cg g d.x=if bw d.x.st=false then(a6,9)else
   if d.x.op=1/\d.x.st.k≠0\/d.x.op=3/\ed d.x.st=false then(a6,9)else
   if d.x.op=1/\lL d.x.u d.x.st.n=true then(a6,5)else(d.x.st,0):=by
  unfold cg;rw[aa K,aa (λy=>io)];have:¬(d.x.op=0/\sJ g d.x=true):=λy=>io
  simp only[this,if_false]
 refine⟨_,_,_,(h z).s0,(h z).s1,(h z).s2,z.av (GV d.x.st Z) ?_⟩;rintro _ H rfl q;refine⟨_,rfl,Gx (λG=>⟨_,_,_,(h q).s0,(h q).s1,(h q).s2,?_⟩) (λG=>?_)⟩
 .have:fX d.x.st=9:=by unfold fX;rw[G];rfl
  rw[this];exact er d.x.st 9 H dl (by rw[B,af G]) q
 rw[aa (by rw[G];simp)]at B;refine⟨_,(h q).c0,aw (λh3=>⟨_,_,_,(h q).s0,(h q).s1,(h q).s2,q.av (GX d.x.st H) ?_⟩) (λac=>?_)⟩
 .rintro _ E rfl j;refine⟨_,rfl,eO (λT=>⟨_,_,_,(h j).s0,(h j).s1,(h j).s2,er d.x.st 9 E dl ?_ j⟩) (λT=>⟨_,_,_,(h j).s0,(h j).s1,(h j).s2,ok d.x.st E ?_ j⟩)⟩
  .rw [B,af (.inr ⟨h3,T⟩)]
  .rw [B,aa (by rintro(y|y);omega;rw[T]at y;cases y.2),aa (by rintro⟨y,_⟩;omega)]
 have S:d.x.op=1:=io
 refine⟨_,(h q).s0,cz (λN=>⟨_,_,_,(h q).s0,(h q).s1,(h q).s2,er d.x.st 9 H dl ?_ q⟩) (λN=>q.ae λE j=>?_)⟩
 .rw [B,af (.inl ⟨S,N⟩)]
 rw[aa (by rintro(y|y);exact y.2 N;omega)]at B;obtain⟨v1,v2,_⟩:=vv G N;have S0:cg g d.x=(d.x.st,0)->GZ.a1 p F 0 0 0 E λr Y=>jM (cg g d.x).1 (cg g d.x).2 r/\ag w Y:=λC=>⟨_,_,_,(h j).s0,(h j).s1,(h j).s2,ok d.x.st E C j⟩;refine⟨_,(h j).s1,aY (λM=>⟨_,(h j).c4,_,(h j).s1,io,?_⟩) (λM=>S0 ?_)⟩
 .rw [Wt _ _ hu io M];refine aY (λW=>⟨_,_,_,(h j).s0,(h j).s1,(h j).s2,er d.x.st 5 E dl ?_ j⟩) (λW=>S0 ?_)
  .rw [B,af ⟨S,by unfold lL;rw[aQ M,aQ W];rfl⟩]
  .rw [B,aa];rintro⟨_,D⟩;unfold lL at D;rw[aS W,Bool.and_false]at D;cases D
 .rw [B,aa];rintro⟨_,D⟩;unfold lL at D;rw[aS M]at D;cases D
def ql(g:List Nx)(t:ByteArray):cR:=match me g t with
 |some s=>ad (.tuple #[dA s,.bool true])
 |none=>ad (.tuple #[dA a6,.bool false])
def acw{w:J}{p:Addr}{d:Nd}{D:List En}(g:List Nx)(lk:Fv)(H:O F0 w w [] (.gI p d::D))(hc:hg U lk.n=true)(hl:∀C:J,(∀e∈D,e.P C)->aj U lk.n (lk.bs++#[.string d.x.tx]++lk.cs) C λr ak=>r=ql g d.x.tx/\ag C ak)(h0:d.x.op=0):
  aj U OB #[.pointer (some p),lk.v] w λr C=>jM (cg g d.x).1 (cg g d.x).2 r/\ag w C:=by
 have h:∀{q:J} {L:List En},O F0 w q L (.gI p d::D)->ea q p d:=λH=>H.getD 0;have z:cg g d.x=if i3 (bl d.x.tx)=false then(a6,6)else if bw d.x.st=false then(a6,9)else if sJ g d.x=true then(a6,8)else(d.x.st,0):=by unfold cg;rw[aa io];simp[h0]
 have fin:∀(e:Int) (q:J) (L:List En) (i:Nat) (b:Nat) (E F G:V),O F0 w q L (.gI p d::D)->L[i]? =some (.c b [E,F,G] cb)->cg g d.x=(if e=0 then d.x.st else a6,e)->A2 q (ab b) (.i d.x.st.k) (.i d.x.st.n) (.i d.x.st.x) λZ=>Lm Z (ab b) λa0 a1 a2=>jM (cg g d.x).1 (cg g d.x).2 (ad (.tuple #[.agg #[.i a0,.i a1,.i a2],.i e]))/\ag w Z:=by
  intro e q L i b E F G y N M;refine y.kL i N λZ K=>?_;have W:(L.set i (.c b [Value.i d.x.st.k,.i d.x.st.n,.i d.x.st.x] cb))[i]? =some (.c b [Value.i d.x.st.k,.i d.x.st.n,.i d.x.st.x] cb):=by rw[List.getElem?_set_self (cq.1 N).1]
  refine⟨_,_,_,K.ld i 0 W,K.ld i 1 W,K.ld i 2 W,⟨d.x.st,e,rfl,by rw[M],λac=>?_⟩,K.fr⟩;rw[M]at ac ⊢;rw[af ac]
 refine G3.ok (H.nw λw1 _ H1=>⟨_,(h H1).c5,H1.call (acm d.x.tx w1) ?_⟩);rintro _ w2 rfl A;refine⟨_,rfl,eO (λY=>⟨_,_,_,(h A).s0,(h A).s1,(h A).s2,fin 6 w2 _ 0 _ _ _ _ A rfl (by rw[z,af Y];rfl)⟩) (λY=>⟨_,_,_,(h A).s0,(h A).s1,(h A).s2,A.call (GV d.x.st w2) ?_⟩)⟩;rw[aa (by rw[Y];simp)]at z;rintro _ w3 rfl B;refine⟨_,rfl,Gx (λQ=>⟨_,_,_,(h B).s0,(h B).s1,(h B).s2,?_⟩) (λQ=>⟨_,(h B).c5,?_⟩)⟩
 .have:fX d.x.st=9:=by unfold fX;rw[Q];rfl
  rw[this];exact fin 9 w3 _ 0 _ _ _ _ B rfl (by rw[z,af Q];rfl)
 rw[aa (by rw[Q];simp)]at z;rw[hc];refine(show cL true _ from ?_);refine B.call (hl w3 (λe M=>B.rd e (List.mem_cons_of_mem _ M))) ?_;rintro _ w4 rfl H4;have I:∀(q:J) (L:List En) (E F G:V),O F0 w q L (.gI p d::D)->L[0]? =some (.c w.heap.size [E,F,G] cb)->sJ g d.x=false->G3.S0 p (ab w.heap.size) q λr C=>jM (cg g d.x).1 (cg g d.x).2 r/\ag w C:=λq L E F G y N ht=>⟨_,_,_,(h y).s0,(h y).s1,(h y).s2,fin 0 q L 0 _ E F G y N (by rw[z,aa (by rw[ht];simp)];rfl)⟩;unfold sJ at z I;unfold ql;cases hs:me g d.x.tx with
 |none=>
  rw[hs]at z I;refine⟨a6.k,a6.n,a6.x,false,rfl,H4.nw λq _ y=>y.kL 1 rfl λw8 T=>T.dr λS j=>aW rfl ?_⟩;exact I S _ _ _ _ j rfl rfl
 |some t=>
  rw[hs]at z I;refine⟨t.k,t.n,t.x,true,rfl,H4.nw λq _ y=>y.kL 1 rfl λw8 T=>T.dr λS j=>aU rfl ⟨_,_,_,j.ld 1 0,j.ld 1 1,j.ld 1 2,_,_,_,(h j).s0,(h j).s1,(h j).s2,xG (a:=t) (b:=d.x.st) (λah=>⟨_,_,_,(h j).s0,(h j).s1,(h j).s2,fin 8 S _ 0 _ _ _ _ j rfl ?_⟩) (λae=>I S _ _ _ _ j rfl ?_)⟩⟩
  .rw [z,af (by simp[ah])];rfl
  .simp [ae]
def ZV{s:BL}{x:Rx}{a:Nat}{e:Int}(d:uH s=some (x,a,e)):x.sz<=1000000:=by
 unfold uH at d;split at d
 .simp only[fo,fk]at d;rw[<-d.1];decide
 .dsimp only at d;split at d
  .split at d
   .simp only[fo,fk]at d;rw[<-d.1];decide
   .split at d
    .cases d
    .split at d
     .simp only[fo,fk]at d;rw[<-d.1];decide
     .simp only[fo,fk]at d;rw[<-d.1];omega
  .cases d
def Uv(s:ByteArray)(S:s.size<=100000)(b:Bool)(d:tw (bl s)=some b)(w:J):aj U Mw #[.string s] w λr w'=>r=ad (.bool b)/\ag w w':=by
 unfold tw at d;cases k:uH (bl s)with
 |none=>rw[k]at d;cases d
 |some ac=>
  obtain⟨ab,a,N⟩:=ac;rw[k]at d;dsimp only at d;have T:=ZV k;have H:O F0 w w [] []:=bT [] gs;refine JH.aq (H.yQ (Vc s S ab a N k w) ?_);rintro _ w1 ⟨t,rfl,y,W,P⟩ _ G;have K:=G.rd (.tree t) W λb e=>P b (a7.1 e);have Z:t.sz<=1000000:=by rw[<-I.ek,y];exact T
  refine⟨_,_,_,t.s,_,_,rfl,K.ax λb3 w2 z=>cz (λq=>z.ae λE h=>⟨?_,h.fr⟩) (λq=>z.ae λE h=>?_)⟩
  .rw [aa q]at d;cases d;rfl
  rw[af q]at d;refine kf ((Ve t E Z (h.getD 0)).mono ?_);rintro _ w4 ⟨⟨u,rfl,D,Y,Q⟩,B⟩;have L:=h.ec (.tree u) B Y λb e=>(Q b (a7.1 e)).imp id λe=>.inr ⟨_,aA (i:=0) rfl,a7.2 e⟩;rw[y]at D;refine⟨B,_,_,_,u.s,_,rfl,L.ax λb6 w5 A=>?_⟩;rw[y];refine aw (λx=>A.ae λF j=>?_) (λx=>A.ae λF j=>⟨?_,j.fr⟩)
  .rw [af x]at d;split at d
   .rename_i C;rw[<-D]at C d;refine j.av (Iy u 0 F (by rw[<-I.ek];omega) io C.1 (j.getD 1)) ?_;rintro _ w7 rfl M;refine⟨_,rfl,?_,M.fr⟩;cases d;congr 2;have:=tn (cI 0 u.rx (a' u.rx)) (bl s);rw[kZ]at this;exact this
   .cases d
  .rw [aa x]at d;cases d;rfl
abbrev vc(k:Sl)(ks:List aP):En:=.a2 3 k (ks.flatMap gP)
def LJ{w:J}{k:Sl}{ks:List aP}(e:bo 3 w k (ks.flatMap gP)):O F0 w w [] [vc k ks]:=bT _ (by intro h d;simp only[aF,a5,a9]at d;subst d;exact e)
def UX{w:J}{k:Sl}{ks:List aP}{x y z:aP}(op:Int)(af:bo 3 w k (ks.flatMap gP))(hx:ks[0]? =some x)(q:2<=b6 op->ks[1]? =some y)(G:b6 op=3->ks[2]? =some z)(h4:4<=op)(ak:op<=34):
  aj U M6 #[.i op,k.v] w λr w'=>r=ad (.bool (cX op x y z))/\ag w w':=by
 refine Dk.aq (ey af (rfl:(0:Int)=((0:Nat):Int)) hx λp0 an Z=>⟨x.k,x.n,x.x,Z.c0,Z.c1,Z.c2,(LJ af).ax λb5 w1 H1=>?_⟩);have main:∀(a:Bool) (M:J),a=ed x->O F0 w M [.g b5] [vc k ks]->Dk.a1 op k b5 x.k x.n x.x (x.k==0) (x.k==1) a M λr w'=>r=ad (.bool (cX op x y z))/\ag w w':=by
  rintro a M ha d;have j:∀{C:J} {L:List En},O F0 w C L [vc k ks]->bo 3 C k (ks.flatMap gP):=λah=>ah.getD 0;have B:(1:Int)=((1:Nat):Int):=rfl;have I:(2:Int)=((2:Nat):Int):=rfl;rcases uF io ak with rfl|rfl|rfl|rfl|rfl|rfl|rfl|rfl|rfl|rfl|rfl|rfl|rfl|rfl|rfl|rfl|rfl|rfl|rfl|rfl|rfl|rfl|rfl|rfl|rfl|rfl|rfl|rfl|rfl|rfl|rfl|rfl|rfl|rfl|rfl
  iterate 4 omega
  all_goals repeat (first |refine aW rfl ?_|refine aU rfl ?_)
  all_goals first |(have q:=q dl)|skip
  all_goals first |(have G:=G dl)|skip
  iterate 2 exact⟨rfl,d.fr⟩
  iterate 12
   .refine aw (λe=>?_) (λe=>d.ae λC h=>⟨?_,h.fr⟩)
    .refine ey (j d) B q λp F _=>d.ae λC h=>?_;have c:=gv (j h) B q F;refine⟨_,_,_,c.c0,c.c1,c.c2,?_,h.fr⟩;rw[lA];show _=Ending.returned (.bool (x.k==0&&ai (x=y)));rw[e];rfl
    .show _=Ending.returned (.bool (x.k==0&&ai (x=y)));rw[beq_eq_false_iff_ne.2 e];rfl
  .refine ey (j d) B q λp F _=>d.ae λC h=>?_;have c:=gv (j h) B q F;have D:cX 18 x y z=(ai (x=y)||(x.k==1&&y.k==1)):=rfl;rw[D];refine⟨_,_,_,c.c0,c.c1,c.c2,mQ (λH=>⟨by rw[aQ H];rfl,h.fr⟩) (λH=>?_)⟩;rw[aS H,Bool.false_or];refine aw (λe=>ey (j h) B q λp' _ Y=>⟨_,Y.c0,?_,h.fr⟩) (λe=>⟨?_,h.fr⟩)
   .rw [e];rfl
   .rw [beq_eq_false_iff_ne.2 e];rfl
  .refine d.ae λC h=>h.av (fv 1 C) ?_;rintro _ T rfl A;have D:cX 19 x y z=(ai (x=aN 1)&&(ai (y=z)||(y.k==1&&z.k==1))):=rfl;rw[D];refine⟨_,_,_,rfl,mQ (b:=aN 1) (λH=>?_) (λH=>⟨by rw[aS H];rfl,A.fr⟩)⟩;rw[aQ H,Bool.true_and];refine ey (j A) B q λp _ c=>⟨_,_,_,c.c0,c.c1,c.c2,ey (j A) I G λac _ E=>⟨_,_,_,E.c0,E.c1,E.c2,mQ (λh2=>⟨by rw[aQ h2];rfl,A.fr⟩) (λh2=>?_)⟩⟩;rw[aS h2,Bool.false_or];refine ey (j A) B q λp' _ Y=>⟨_,Y.c0,aw (λe=>ey (j A) I G λq' _ d'=>⟨_,d'.c0,?_,A.fr⟩) (λe=>⟨?_,A.fr⟩)⟩
   .rw [e];rfl
   .rw [beq_eq_false_iff_ne.2 e];rfl
  .have D:cX 20 x y z=(x.k==0&&y.k==0):=rfl;rw[D];refine aw (λe=>ey (j d) B q λp _ c=>⟨_,c.c0,?_,d.fr⟩) (λe=>⟨?_,d.fr⟩)
   .rw [e];rfl
   .rw [beq_eq_false_iff_ne.2 e];rfl
  iterate 3 exact⟨rfl,d.fr⟩
  .have D:cX 24 x y z=(ed x&&ai (y=aN x.x)):=rfl;rw[D,<-ha];refine bq (λS=>?_) (λP=>d.ae λC h=>⟨by rw[P];rfl,h.fr⟩);refine ey (j d) B q λp F _=>d.ae λC h=>?_;have c:=gv (j h) B q F;refine⟨_,_,_,c.c0,c.c1,c.c2,h.av (fv x.x C) ?_⟩;rintro _ T rfl A;have E:=gv (j A) B q F;refine⟨_,_,_,rfl,E.c0,E.c1,E.c2,?_,A.fr⟩;rw[S,Bool.true_and];exact congrArg (λb=>Ending.returned (.bool b)) (lA y (aN x.x))
  .have D:cX 25 x y z=(ed x&&ai (y=aN x.x)&&(ai (z=iv x)||(x.k==3&&z.k==1&&ai (z.n<=x.n)))):=rfl;rw[D,<-ha];refine eO (λP=>d.ae λC h=>⟨by rw[P];rfl,h.fr⟩) (λS=>?_);rw[S,Bool.true_and];refine ey (j d) B q λp F _=>d.ae λC h=>?_;have c:=gv (j h) B q F;refine⟨_,_,_,c.c0,c.c1,c.c2,h.av (fv x.x C) ?_⟩;rintro _ T rfl A;have E:=gv (j A) B q F;refine⟨_,_,_,rfl,E.c0,E.c1,E.c2,xG (a:=y) (b:=aN x.x) (λQ=>⟨by rw[aS Q];rfl,A.fr⟩) (λam=>?_)⟩;rw[aQ am,Bool.true_and];refine ey (j A) I G λac W _=>A.ae λw5 N=>?_;have c5:=gv (j N) I G W;refine⟨_,_,_,c5.c0,c5.c1,c5.c2,N.av (F4 x w5) ?_⟩;rintro _ w6 rfl K;have d6:=gv (j K) I G W;refine⟨_,_,_,rfl,d6.c0,d6.c1,d6.c2,mQ (a:=z) (b:=iv x) (λH=>⟨by rw[aQ H];rfl,K.fr⟩) (λQ=>?_)⟩;rw[aS Q,Bool.false_or];refine aw (λe=>ey (j K) I G λq' _ d'=>⟨_,d'.c0,aw (λab=>ey (j K) I G λq2 _ d2=>⟨_,d2.c1,?_,K.fr⟩) (λab=>⟨?_,K.fr⟩)⟩) (λe=>⟨?_,K.fr⟩)
   .rw [e,ab];rfl
   .rw [beq_eq_false_iff_ne.2 ab,Bool.and_false];rfl
   .rw [beq_eq_false_iff_ne.2 e];rfl
  .have D:cX 26 x y z=(ed x&&ai (x=y)):=rfl;rw[D,<-ha];refine bq (λS=>?_) (λP=>d.ae λC h=>⟨by rw[P];rfl,h.fr⟩);refine ey (j d) B q λp F _=>d.ae λC h=>?_;have c:=gv (j h) B q F;refine⟨_,_,_,c.c0,c.c1,c.c2,?_,h.fr⟩;rw[lA,S];rfl
  iterate 2 exact⟨rfl,d.fr⟩
  .have D:cX 29 x y z=(x.k==1&&y.k==1):=rfl;rw[D];refine aw (λe=>ey (j d) B q λp _ c=>⟨_,c.c0,?_,d.fr⟩) (λe=>⟨?_,d.fr⟩)
   .rw [e];rfl
   .rw [beq_eq_false_iff_ne.2 e];rfl
  .have D:cX 30 x y z=(x.k==1&&ai (y=aN 7)&&ai (z=aN 7)):=rfl;rw[D];refine aw (λe=>?_) (λe=>d.ae λC h=>⟨by rw[beq_eq_false_iff_ne.2 e];rfl,h.fr⟩);rw[e];refine ey (j d) B q λp F _=>d.ae λC h=>?_;have c:=gv (j h) B q F;refine⟨_,_,_,c.c0,c.c1,c.c2,h.av (fv 7 C) ?_⟩;rintro _ T rfl A;have E:=gv (j A) B q F;refine⟨_,_,_,rfl,E.c0,E.c1,E.c2,mQ (a:=y) (b:=aN 7) (λH=>?_) (λQ=>⟨by rw[aS Q];rfl,A.fr⟩)⟩;rw[aQ H];refine ey (j A) I G λac W c4=>⟨_,_,_,c4.c0,c4.c1,c4.c2,A.av (fv 7 T) ?_⟩;rintro _ w5 rfl N;have d5:=gv (j N) I G W;exact⟨_,_,_,rfl,d5.c0,d5.c1,d5.c2,congrArg (λb=>Ending.returned (.bool b)) (lA z (aN 7)),N.fr⟩
  .have D:cX 31 x y z=(x.k==1&&y.k==1):=rfl;rw[D];refine aw (λe=>ey (j d) B q λp _ c=>⟨_,c.c0,?_,d.fr⟩) (λe=>⟨?_,d.fr⟩)
   .rw [e];rfl
   .rw [beq_eq_false_iff_ne.2 e];rfl
  .have D:cX 32 x y z=(x.k==1&&y.k==1&&z.k==1):=rfl;rw[D];refine aw (λe=>ey (j d) B q λp _ c=>⟨_,c.c0,aw (λaa=>ey (j d) I G λac _ E=>⟨_,E.c0,?_,d.fr⟩) (λaa=>⟨?_,d.fr⟩)⟩) (λe=>⟨?_,d.fr⟩)
   .rw [e,aa];rfl
   .rw [beq_eq_false_iff_ne.2 aa,Bool.and_false];rfl
   .rw [beq_eq_false_iff_ne.2 e];rfl
  .exact ⟨rfl,d.fr⟩
  .refine d.ae λC h=>h.av (fv 8 C) ?_;rintro _ T rfl A;exact⟨_,_,_,rfl,congrArg (λb=>Ending.returned (.bool b)) (lA x (aN 8)),A.fr⟩
 refine aw (λe=>H1.ae λM d=>main true M ?_ d) (λe=>H1.ae λM d=>main _ M ?_ d)
 .unfold ed;rw[e];rfl
 .unfold ed;rw[beq_eq_false_iff_ne.2 e];rfl
def BW(n:Nx)(x y z:aP):cR->Prop:=λr=>∃(t:aP) (b:Bool),r=ad (.tuple #[dA t,.bool b])/\b=ic n x y z/\(b=true->t=gM n x y z)
def Vi{w:J}{k:Sl}{ks:List aP}{x y z:aP}(d:Nd)(G:bo 3 w k (ks.flatMap gP))(hx:ks[0]? =some x)(D:2<=b6 d.x.op->ks[1]? =some y)(M:b6 d.x.op=3->ks[2]? =some z)(h4:4<=d.x.op)(ak:d.x.op<=34)(vx:bw x=true)(vy:2<=b6 d.x.op->bw y=true)(vz:b6 d.x.op=3->bw z=true)(hn:cO d.x.n)(hm:cO d.x.m):
  aj U M' #[d.v,k.v] w λr Y=>BW d.x x y z r/\ag w Y:=by
 obtain⟨x1,x2,x3,x4,_⟩:=m0 vx;obtain⟨ay,az⟩:=hn;obtain⟨ap,ar⟩:=hm;refine y1.aq ((LJ G).ax λb2 w1 H1=>H1.ax λb4 w2 H2=>ey (H2.getD 0) (rfl:(0:Int)=((0:Nat):Int)) hx λp0 aC ac=>⟨x.k,x.n,x.x,ac.c0,ac.c1,ac.c2,H2.ax λab w3 W=>?_⟩);have A:∀{w3:J} {L:List En},O F0 w w3 L [vc k ks]->bo 3 w3 k (ks.flatMap gP):=λam=>am.getD 0;have E:(1:Int)=((1:Nat):Int):=rfl;have T:(2:Int)=((2:Nat):Int):=rfl;obtain⟨⟨op,kids,n,m,u,tx,st⟩,aB⟩:=d;simp only at D M h4 ak vy vz ay az ap ar;have S1:∀B:J,op≠16->op≠17->op≠18->op≠33->O F0 w B [.g b2,.g b4,.g ab] [vc k ks]->y1.bh k b2 op aB n m u tx st.k st.n st.x b4 0 0 0 ab x.k x.n x.x op B λr Y=>BW ⟨op,kids,n,m,u,tx,st⟩ x y z r/\ag w Y:=by
  intro B n1 n2 n3 n4 h;rcases uF io ak with rfl|rfl|rfl|rfl|rfl|rfl|rfl|rfl|rfl|rfl|rfl|rfl|rfl|rfl|rfl|rfl|rfl|rfl|rfl|rfl|rfl|rfl|rfl|rfl|rfl|rfl|rfl|rfl|rfl|rfl|rfl|rfl|rfl|rfl|rfl
  iterate 4 omega
  all_goals repeat (first |refine aW rfl ?_|refine aU rfl ?_)
  all_goals first |(have D:=D dl)|skip
  all_goals first |(have M:=M dl)|skip
  all_goals first |(have vy:=m0 (vy dl))|skip
  all_goals first |(have vz:=m0 (vz dl))|skip
  iterate 12 exact h.ae λC e=>⟨⟨x,true,rfl,rfl,λ_=>rfl⟩,e.fr⟩
  iterate 3 omega
  .refine ey (A h) E D λp P c=>⟨_,c.c0,aw (λhk=>?_) (λhk=>?_)⟩
   .refine ey (A h) E D λp P _=>h.ae λC e=>?_;have Q:=gv (A e) E D P;refine⟨_,Q.c1,ey (A e) T M λah H S=>⟨_,S.c1,e.av (oR _ C) ?_⟩⟩;rintro _ I rfl j;refine⟨_,_,_,rfl,j.ae λN q=>⟨⟨_,true,rfl,rfl,λ_=>?_⟩,q.fr⟩⟩;show _=if y.k=1 then _ else _;rw[af hk]
   .refine ey (A h) E D λp P c'=>⟨_,_,_,c'.c0,c'.c1,c'.c2,h.ae λC e=>⟨⟨y,true,rfl,rfl,λ_=>?_⟩,e.fr⟩⟩;show _=if y.k=1 then _ else _;rw[aa hk]
  .refine ey (A h) E D λp P _=>h.ae λC e=>?_;have Q:=gv (A e) E D P;refine⟨_,Q.c1,ey (A e) E D λah H _=>?_⟩;have S:=gv (A e) E D H;refine⟨_,S.c1,e.av (fv _ C) ?_⟩;rintro _ I rfl j;refine⟨_,_,_,rfl,(gv (A j) E D H).c1,j.ae λN q=>⟨(gv (A q) E D H).c1,⟨_,_,rfl,?_,λ_=>?_⟩,q.fr⟩⟩
   .rw [br _ io];rfl
   .show aN _=aN (x.n+y.n);rw[br _ io]
  .refine h.ae λC e=>e.av (fv _ C) ?_;rintro _ I rfl j;have hr:ic ⟨21,kids,n,m,u,tx,st⟩ x y z=(ai (0<=m)&&ai (m<=n)&&ai (n<x.n)):=rfl;refine⟨_,_,_,rfl,aY (λK=>aY (λg2=>j.ae λN q=>⟨⟨_,_,rfl,?_,λF=>?_⟩,q.fr⟩) (λg2=>j.ae λN q=>⟨⟨_,false,rfl,?_,λF=>by cases F⟩,q.fr⟩)) (λK=>j.ae λN q=>⟨⟨_,false,rfl,?_,λF=>by cases F⟩,q.fr⟩)⟩
   .rw [hr,aQ (show 0<=m from K),aQ g2];rfl
   .have F:=eQ F;show aN _=aN (n - m+1);rw[br (n - m) io,br _ io]
   .rw [hr,aS g2,Bool.and_false];rfl
   .rw [hr,aS (show ¬0<=m from K)];rfl
  iterate 2
   .refine h.ae λC e=>e.av (fv _ C) ?_;rintro _ I rfl j;have an:aD .i64 (64 - x.n)=64 - x.n:=br _ io;rw[an];refine⟨_,_,_,rfl,aY (λK=>j.ae λN q=>⟨⟨_,_,rfl,?_,λF=>?_⟩,q.fr⟩) (λK=>j.ae λN q=>⟨⟨_,false,rfl,?_,λF=>by cases F⟩,q.fr⟩)⟩
    .show _=(ai (1<=n)&&ai (n<=64 - x.n));rw[aQ (show 1<=n from K)];rfl
    .have F:=eQ F;show aN _=aN (x.n+n);rw[br _ io]
    .show _=(ai (1<=n)&&ai (n<=64 - x.n));rw[aS (show ¬1<=n from K)];rfl
  .refine h.av (F4 x B) ?_;rintro _ C rfl e;exact⟨_,_,_,rfl,e.ae λI j=>⟨⟨_,true,rfl,rfl,λ_=>rfl⟩,j.fr⟩⟩
  .exact h.ae λC e=>⟨⟨x,true,rfl,rfl,λ_=>rfl⟩,e.fr⟩
  .refine h.av (fv _ B) ?_;rintro _ C rfl e;exact⟨_,_,_,rfl,e.ae λI j=>⟨⟨_,true,rfl,rfl,λ_=>rfl⟩,j.fr⟩⟩
  .refine h.av (fv _ B) ?_;rintro _ C rfl e;exact⟨_,_,_,rfl,e.ae λI j=>⟨⟨_,true,rfl,rfl,λ_=>rfl⟩,j.fr⟩⟩
  .refine h.ae λC e=>e.av (fv _ C) ?_;rintro _ I rfl j;refine⟨_,_,_,rfl,aY (λK=>j.ae λN q=>⟨⟨_,_,rfl,?_,λF=>rfl⟩,q.fr⟩) (λK=>j.ae λN q=>⟨⟨_,false,rfl,?_,λF=>by cases F⟩,q.fr⟩)⟩
   .show _=(ai (0<=n)&&ai (n<=63));rw[aQ (show 0<=n from K)];rfl
   .show _=(ai (0<=n)&&ai (n<=63));rw[aS (show ¬0<=n from K)];rfl
  .refine ey (A h) E D λp P _=>h.ae λC e=>?_;have Q:=gv (A e) E D P;refine⟨_,Q.c1,ey (A e) E D λah H _=>?_⟩;have S:=gv (A e) E D H;refine⟨_,S.c1,e.av (oR _ C) ?_⟩;rintro _ I rfl j;refine⟨_,_,_,rfl,(gv (A j) E D H).c1,j.ae λN q=>⟨(gv (A q) E D H).c1,⟨_,_,rfl,?_,λ_=>?_⟩,q.fr⟩⟩
   .rw [br _ io];rfl
   .show e9 _=e9 (x.n+y.n);rw[br _ io]
  .exact h.ae λC e=>⟨⟨x,true,rfl,rfl,λ_=>rfl⟩,e.fr⟩
  .refine h.av (fv _ B) ?_;rintro _ C rfl e;exact⟨_,_,_,rfl,e.ae λI j=>⟨⟨_,true,rfl,rfl,λ_=>rfl⟩,j.fr⟩⟩
  .refine ey (A h) T M λp P _=>h.ae λC e=>?_;have Q:=gv (A e) T M P;refine⟨_,Q.c1,ey (A e) T M λah H _=>?_⟩;have S:=gv (A e) T M H;refine⟨_,S.c1,e.av (oR _ C) ?_⟩;rintro _ I rfl j;refine⟨_,_,_,rfl,(gv (A j) T M H).c1,j.ae λN q=>⟨(gv (A q) T M H).c1,⟨_,_,rfl,?_,λ_=>?_⟩,q.fr⟩⟩
   .rw [br _ io];rfl
   .show e9 _=e9 (x.n+z.n);rw[br _ io]
  .omega
  .refine h.av (oR _ B) ?_;rintro _ C rfl e;exact⟨_,_,_,rfl,e.ae λI j=>⟨⟨_,true,rfl,rfl,λ_=>rfl⟩,j.fr⟩⟩
 have Z:∀B:J,(op=16\/op=17\/op=18\/op=33)->O F0 w B [.g b2,.g b4,.g ab] [vc k ks]->y1.a1 b4 0 0 0 B λr Y=>BW ⟨op,kids,n,m,u,tx,st⟩ x y z r/\ag w Y:=by
  intro B ho h;refine h.av (fv 1 B) ?_;rintro _ C rfl e;refine⟨_,_,_,rfl,e.ae λI j=>⟨⟨_,true,rfl,?_,λ_=>?_⟩,j.fr⟩⟩
  .rcases ho with rfl|rfl|rfl|rfl<;>rfl
  .rcases ho with rfl|rfl|rfl|rfl<;>rfl
 exact aw (λG=>aU (beq_iff_eq.2 G) (W.ae λB h=>Z B (.inl G) h)) λh1=>aw (λG=>aU (beq_iff_eq.2 G) (W.ae λB h=>Z B (.inr (.inl G)) h)) λh2=>aw (λG=>aU (beq_iff_eq.2 G) (W.ae λB h=>Z B (.inr (.inr (.inl G))) h)) λh3=>aw (λG=>W.ae λB h=>Z B (.inr (.inr (.inr G))) h) λao=>W.ae λB h=>S1 B h1 h2 h3 ao h
def Wh:fQ U acT cb (.agg #[.int .i64 0,.int .i64 0,.int .i64 0]) 3 24:=⟨by kernel_rfl,by kernel_rfl,rfl,dl,dl⟩
def yw(t:ByteArray):Prop:=t.size<=100000/\tw (bl t)=some (k1 t)
def yw.can{t:ByteArray}(d:yw t):tw (bl t)=some (k1 t):=d.2
structure vF(d:Nx):Prop where
 kl:d.kids.length<=dD
 n:cO d.n
 m:cO d.m
 tx:d.op=33->yw d.tx
structure yk(g:List Nx):Prop where
 len:g.length<=dD
 val:∀d∈g,bw d.st=true
 vars:yx g
def XN{l:List Nd}{n:Nx}{i:Nat}{k:Int}{e:Nd}(h:n.kids[i]? =some k)(d:l[k.toNat]? =some e):bg (xs l) n i=e.x.st:=by unfold bg;rw[h];dsimp only;rw[m4 d]
def aaz(i:Nat)(f:Nat->aP):((List.range (i+1)).map f).flatMap gP=((List.range i).map f).flatMap gP++gP (f i):=by rw[List.range_succ];simp
def XJ{op:Int}{m:Nat}(d:b6 op=(m:Int))(e:m≠0):4<=op/\op<=34:=by
 unfold b6 at d;split at d
 .omega
 .split at d
  .omega
  .omega
def XL{op:Int}(d:b6 op=0):0<=op/\op<=3:=by
 unfold b6 at d;split at d
 .omega
 .split at d
  .omega
  .split at d
   .omega
   .split at d<;>omega
def WG{g:List Nx}{n:Nx}(d:n6 g n=0):(b6 n.op==(n.kids.length:Int)&&n.kids.all (dK g)&&fL n)=true:=by
 unfold n6 at d;split at d
 .assumption
 .omega
def XR{g:List Nx}{n:Nx}(k:∀h∈g,bw h.st=true)(j:n.kids.all (dK g)=true){i:Nat}(hi:i<n.kids.length):bw (bg g n i)=true:=by
 have d:=cY.1 j _ (As hi);unfold dK at d;simp only[be,decide_eq_true_eq]at d;unfold bg;rw[a0 hi];dsimp only;have e:(n.kids[i]).toNat<g.length:=io
 rw[a0 e];exact k _ (As e)
def Iw{w:J}{s:Sl}{l:List Nd}{d:Nd}(j:GP w s l)(hd:d.P w)(hg:yk (xs l))(W:vF d.x):
  aj U M3 #[s.v,d.v] w λr N=>r=gO (bP (xs l) d.x)/\ag w N:=by
 have hn:=h' j;have aJ:(xs l).length=l.length:=by simp[xs]
 have aN:d.ks.n=d.x.kids.length:=bI.len hd;have hl:=hg.len;have hk:=W.kl;rw[aJ]at hl;refine tN.aq ((wP j hd).ax λb3 w1 H1=>H1.ax λI w2 Z=>Z.av (UW (bf.1 (Z.getD 0)) (Z.getD 1) hk) ?_);rintro _ w3 rfl G;refine⟨_,rfl,cz (λam=>G.ae λy h=>⟨?_,h.fr⟩) (λh0=>?_)⟩
 .unfold bP;unfold n6 at am ⊢;split
  .rename_i q;rw[af q]at am;exact absurd rfl am
  .rename_i q;rw[ij]at q;rw[q];rfl
 have M:=WG h0;have aG:b6 d.x.op=(d.x.kids.length:Int):=by simp only[be]at M;exact eq_of_beq M.1.1
 have ar:d.x.kids.all (dK (xs l))=true:=by simp only[be]at M;exact M.1.2
 have A:bP (xs l) d.x=if d.x.op<=3 then cg (xs l) d.x else
   if cX d.x.op (bg (xs l) d.x 0) (bg (xs l) d.x 1) (bg (xs l) d.x 2)=false then(a6,9)else
   if ic d.x (bg (xs l) d.x 0) (bg (xs l) d.x 1) (bg (xs l) d.x 2)=false then(a6,5)else
   if d.x.op=33/\k1 d.x.tx=false then(a6,2)else(gM d.x (bg (xs l) d.x 0) (bg (xs l) d.x 1) (bg (xs l) d.x 2),0):=by unfold bP;rw[M];rfl
 refine aw (λaH=>?_) (λaH=>?_)
 .have hz:=XL (op:=d.x.op) io;refine G.av (U6 (bf.1 (G.getD 0)) (G.getD 1) hl hz.1 hz.2 hg.vars) ?_;rintro _ y rfl h;refine⟨_,_,_,_,rfl,h.ae λY D=>⟨?_,D.fr⟩⟩;rw[A,af hz.2]
 have S:=XJ (op:=d.x.op) aG io;rw[aa io]at A;unfold dD at hk hl;have loop:∀(m i:Nat) (E:Sl) (y:J),i+m=d.x.kids.length->O F0 w y [.g b3,.g I,.row cb 3 E (((List.range i).map (bg (xs l) d.x)).flatMap gP)] (mN s l d)->
   tN.a4 s b3 d.x.op d.ks d.x.n d.x.m d.x.u d.x.tx d.x.st.k d.x.st.n d.x.st.x I 0 0 0 E (i:Int) y λr N=>r=gO (bP (xs l) d.x)/\ag w N:=by
  intro m;induction m with
  |zero=>
   intro i E y hi h;have hi:i=d.x.kids.length:=io
   subst hi;have R4:bo 3 y E (((List.range d.x.kids.length).map (bg (xs l) d.x)).flatMap gP):=(h.get 2:aL _ _ _ _ _).a2;have F:∀B,B<d.x.kids.length->((List.range d.x.kids.length).map (bg (xs l) d.x))[B]? =some (bg (xs l) d.x B):=λB hj=>by rw[List.getElem?_map,List.getElem?_range hj];rfl
   have an:∀B,B<d.x.kids.length->bw (bg (xs l) d.x B)=true:=λB hj=>XR hg.val ar hj;refine tN.bR (aW (aS io) (h.av (UX d.x.op R4 (F 0 io) (λh2=>F 1 io) (λh3=>F 2 io) S.1 S.2) ?_));rintro _ Y rfl D;refine⟨_,rfl,eO (λac=>D.ae λw6 H6=>⟨by rw[A,af ac];rfl,H6.fr⟩) (λac=>?_)⟩;rw[aa (by rw[ac];simp)]at A;have R5:bo 3 Y E (((List.range d.x.kids.length).map (bg (xs l) d.x)).flatMap gP):=(D.get 2:aL _ _ _ _ _).a2;refine D.av (Vi d R5 (F 0 io) (λh2=>F 1 io) (λh3=>F 2 io) S.1 S.2 (an 0 io) (λh2=>an 1 io) (λh3=>an 2 io) W.n W.m) ?_;rintro _ w6 ⟨t,b,rfl,K,ht⟩ H6;refine⟨_,_,_,_,rfl,H6.ax λab w7 H7=>eO (λaz=>H7.ae λC z=>⟨?_,z.fr⟩) (λap=>?_)⟩
   .rw [A,af (by rw[<-K,az])];rfl
   rw[aa (by rw[<-K,ap];simp)]at A;have ht:=ht ap;have S1:∀(c:Bool) (C:J) (L:List En),(d.x.op=33/\k1 d.x.tx=false↔c=false)->En.g I∈L->En.g ab∈L->O F0 w C L (mN s l d)->tN.bh I 0 0 0 ab t.k t.n t.x c C λr N=>r=gO (bP (xs l) d.x)/\ag w N:=by
    intro c C L q m4 aM z;have ao:∀b∈[I,ab],En.g b∈L:=by
     intro b K;simp only[aF,a5,a9]at K;rcases K with rfl|rfl
     .exact m4
     .exact aM
    refine eO (λaB=>z.ae (λw9 H=>⟨?_,H.fr⟩) ao) (λaC=>z.ae (λw9 H=>⟨?_,H.fr⟩) ao)
    .rw [A,af (q.2 aB)];rfl
    .rw [A,aa (λj=>by rw[aC]at q;cases q.1 j),ht]
   refine cz (λQ=>H7.ae λC z=>S1 true C _ ⟨λj=>absurd j.1 Q,λj=>by cases j⟩ gs gs z) (λQ=>H7.ae λC z=>?_);have ay:=W.tx Q;refine z.av (Uv d.x.tx ay.1 _ ay.can C) ?_;rintro _ w9 rfl H;exact⟨_,rfl,S1 _ w9 _ ⟨λj=>j.2,λj=>⟨Q,j⟩⟩ gs gs H⟩
  |succ m ih=>
   intro i E y hi h;have T:d.x.kids[i]? =some (d.x.kids[i]'io):=a0 io;have ak:=cY.1 ar _ (aA T);generalize d.x.kids[i]'io=kx at T ak;unfold dK at ak;simp only[be,decide_eq_true_eq]at ak;have ah:l[kx.toNat]? =some (l[kx.toNat]'io):=a0 io;generalize l[kx.toNat]'io=e at ah;have aI:bI y d.ks d.x.kids:=h.getD 1;have aO:=Nd.cw (show bo 9 y s (l.flatMap Nd.c)from(bf.1 (h.getD 0)).1);refine tN.bR (aU (aQ io) ⟨io,io,aI.cell T io λp hp q=>⟨kx,q,eE (bf.1 (h.getD 0)) (i:=kx.toNat) io ah λaP hq c=>⟨_,_,_,c.s0,c.s1,c.s2,?_⟩⟩⟩);have hlen:E.n=i:=by have:=(h.get 2:aL _ _ _ _ _).len;rw[RX]at this;simp at this;omega
   refine h.jn 2 Wh rfl (λs' Y D=>?_) io;rw[bp _ io];refine ih (i+1) s' Y io ?_;rw[aaz,XN T ah];exact D
 exact loop d.x.kids.length 0 ⟨none,0,0⟩ w3 io (G.hP cb 3)
def lT(k:Nat):Rx:=DM (eZ (k%6)) (eZ (k / 6%6)) (eZ (k / 36%6)) (k / 216%8)
def Pb(k:Nat):Bool:=cN (lT k)&&Nat.ble (lT k).sz 1000&&i7 (dG (lT k))&&Nat.ble (dG (lT k)).sz 1000
def ZC:(List.range 1728).all Pb=true:=by kernel_rfl
def Kz(k:Nat):lT k=lT (k%1728):=by unfold lT;rw[show k%1728%6=k%6 by omega,show k%1728 / 6%6=k / 6%6 by omega,show k%1728 / 36%6=k / 36%6 by omega,show k%1728 / 216%8=k / 216%8 by omega]
def acB(k:Nat):cN (lT k)=true/\(lT k).sz<=1000/\i7 (dG (lT k))=true/\(dG (lT k)).sz<=1000:=by rw[Kz];have:=cY.1 ZC (k%1728) (List.mem_range.2 (Nat.mod_lt _ io));unfold Pb at this;simp only[be]at this;exact⟨this.1.1.1,Nat.le_of_ble_eq_true this.1.1.2,this.1.2,Nat.le_of_ble_eq_true this.2⟩
def SG(k:Nat):mW k=a' (dG (lT k)):=rfl
def SH(k:Nat):mW k=mW (k%1728):=by rw[SG,SG,Kz]
end Go.Proofs.YtjakeaplbkhjmaaGreatDoor
end
