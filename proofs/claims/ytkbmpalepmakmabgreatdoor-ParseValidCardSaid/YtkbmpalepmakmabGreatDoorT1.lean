import Derived.Test.YtkbmpalepmakmabGreatDoorN0
import Derived.Test.YtkbmpalepmakmabGreatDoorVP
import Derived.Test.YtkbmpalepmakmabGreatDoorU
set_option linter.unusedVariables false
set_option linter.defProp false
set_option maxRecDepth 100000
noncomputable section
namespace Go.Proofs.YtkbmpalepmakmabGreatDoor
open Go renaming World->I,Calls->ai,Value->V,TypeId->aE,Ending->cW
open Go.IntKind renaming wrap->aB
open _root_.Int renaming toNat->a0,toNat_natCast->bR
open _root_.ByteArray renaming mk->a'
open Go.IntWalk renaming i64_in->bo
open Go.Builtin renaming append_->fM
open _root_.Bool renaming and_eq_true->bd,not_eq_true->iF
open _root_.Nat renaming le_refl->bw,le_trans->bB,beq->bI
open _root_.UInt8 renaming ofNat->cX
open _root_.Prod.mk renaming injEq->fy
open _root_.Option.some renaming injEq->fA
open Go.Proofs.Tryz renaming prog->U
open _root_.Decidable renaming decide->ak
open Go.Ending renaming returned->ad
open List renaming mem_append->aP,mem_cons->aF,not_mem_nil->aZ,mem_of_getElem?->aD,getElem?_eq_getElem->aY,length_append->bG,length_cons->cC,length_nil->jm,drop_eq_getElem_cons->dw,all_eq_true->dS,drop_of_length_le->dy
open Go Go.W
def g3{s:ByteArray}{i:Nat}(d:i<s.size):s[i]? =some (gQ (bl s) i):=by rw[getElem?_pos s i d];unfold gQ;rw[List.getD_eq_getElem?_getD,aY (show i<(bl s).length by rw[cR];exact d)];rfl
def y5{x:UInt8}{n:Nat}{A d:Prop}(q:n<256)(h:(x==cX n)=true->A)(j:(x==cX n)=false->d):bD ((x.toNat:Int)==(n:Int)) A d:=by
 have k:x.toNat=n↔x=cX n:=by rw[<-UInt8.toNat_inj,UInt8.toNat_ofNat'];omega
 refine aw (λe=>h (by grind)) (λe=>j (by grind))
def y4{x:UInt8}{n:Nat}{A d:Prop}(q:n<256)(h:(x==cX n)=false->A)(j:(x==cX n)=true->d):bD ((x.toNat:Int) !=(n:Int)) A d:=by
 have k:x.toNat=n↔x=cX n:=by rw[<-UInt8.toNat_inj,UInt8.toNat_ofNat'];omega
 refine ct (λe=>h (by grind)) (λe=>j (by grind))
def IK{p:UInt8->Prop}(d:∀e:Fin 256,p (cX e.val))(c:UInt8):p c:=by have:=d ⟨c.toNat,c.toNat_lt⟩;simpa using this
def X':∀n:Fin 16,(a' #[48,49,50,51,52,53,54,55,56,57,97,98,99,100,101,102])[n.val]? =some (jb n.val):=by decide+kernel
def Dw(n:Nat)(d:n<16)(w:I):ai U NK #[.i (n:Int)] w λr e=>r=ad (.int .u8 ((jb n).toNat:Int))/\af w e:=
 KM.ok ⟨io,_,X' ⟨n,d⟩,rfl,Fr.refl _ _⟩
def JM(c:UInt8)(w:I):ai U NQ #[.int .u8 (c.toNat:Int)] w λr q=>r=ad (.bool (oX c))/\af w q:=by
 refine KR.ok (aT (λj=>aT (λk=>y4 (n:=39) io (λe=>⟨?_,Fr.refl _ _⟩) (λe=>⟨?_,Fr.refl _ _⟩)) (λk=>⟨?_,Fr.refl _ _⟩)) (λj=>⟨?_,Fr.refl _ _⟩))
 .have d:((c.toNat:Int) !=92)= !(c==92):=by
   have:=@y4 c 92 ((((c.toNat:Int) !=92)=true)/\(c==92)=false) ((((c.toNat:Int) !=92)=false)/\(c==92)=true);cases x:((c.toNat:Int) !=92)with
   |true=>
    have h:c≠92:=λd=>by subst d;grind
    grind
   |false=>
    have h:c=92:=by
     rw[<-UInt8.toNat_inj]
     grind
    grind
  rw[d];unfold oX
  grind
 .have e:(c==39)=true:=e;unfold oX
  grind
 .unfold oX
  grind
 .unfold oX
  grind
def abo:∀n:Fin 16,jk (jb n.val)=(n.val:Int):=by decide+kernel
def abq:∀d:Fin 256,jk (cX d.val)=-1\/∃n:Fin 16,jb n.val=cX d.val:=by decide+kernel
def abp:∀d:Fin 256,jk (cX d.val)<16:=by decide+kernel
def zG(c:UInt8)(w:I):ai U NP #[.int .u8 (c.toNat:Int)] w λr j=>r=ad (.int .i64 (jk c))/\af w j:=by
 have loop:∀(d i:Nat) (e:I),i+d=16->(∀h,h<i->jb h≠c)->af w e->xe.L0 c.toNat (i:Int) e λr j=>r=ad (.int .i64 (jk c))/\af w j:=by
  intro d;induction d with
  |zero=>
   intro i e x y f;refine xe.b' (aQ (a2 io) ⟨?_,f⟩);have:=IK (p:=λc=>jk c=-1\/∃n:Fin 16,jb n.val=c) abq c
   grind
  |succ d z=>
   intro i e x y f;refine xe.b' (aR (a5 io) ((Dw i io e).mono ?_));rintro _ A ⟨rfl,k⟩;refine⟨_,rfl,aw (λq=>⟨?_,f.gp k⟩) (λq=>?_)⟩
   .have B:jb i=c:=by rw[<-UInt8.toNat_inj];omega
    have:=abo ⟨i,io⟩
    grind
   .rw [bm _ io];refine z (i+1) A io (λh C=>?_) (f.gp k)
    grind
 exact xe.ok (loop 16 0 w io (λh q=>io) (Fr.refl _ _))
def Be(x:UInt8×Nat):cW:=ad (.tuple #[.int .u8 (x.1.toNat:Int),.i (x.2:Int)])
def abu:∀d e:Fin 16,aB .u8 (aB .i64 ((aB .i64 (16 *(d.val:Int)))+(e.val:Int)))=((cX ((16 *(d.val:Int)+(e.val:Int)).toNat)).toNat:Int):=by decide+kernel
def Qy{c:UInt8}(e:0<=jk c):∃d:Fin 16,jk c=(d.val:Int):=by have:=IK (p:=λc=>jk c<16) abp c;exact⟨⟨(jk c).toNat,io⟩,by grind⟩
def Dv(s:ByteArray)(i:Nat)(hi:i<=1000000)(w:I):ai U NJ #[.string s,.i (i:Int)] w λr d=>r=Be (ir (bl s) i)/\af w d:=by
 have x:aB .i64 ((i:Int)+1)=((i+1:Nat):Int):=by rw[bo _ io];omega
 have y:aB .i64 ((i:Int)+2)=((i+2:Nat):Int):=by rw[bo _ io];omega
 have z:aB .i64 ((i:Int)+3)=((i+3:Nat):Int):=by rw[bo _ io];omega
 have E:aB .i64 ((i:Int)+4)=((i+4:Nat):Int):=by rw[bo _ io];omega
 have T:(bl s).length=s.size:=cR s;have no:∀d,af w d->ir (bl s) i=(0,0)->xd.S1 d (λr d=>r=Be (ir (bl s) i)/\af w d):=λd f B=>⟨by rw[B];rfl,f⟩;have st:∀d,af w d->(ak (i+3<=(bl s).length)&&gQ (bl s) i==39&&gQ (bl s) (i+2)==39&&oX (gQ (bl s) (i+1)))=false->xd.S0 s (i:Int) d (λr d=>r=Be (ir (bl s) i)/\af w d):=by
  intro d f W;have D:(ak (i+4<=(bl s).length)&&gQ (bl s) i==92&&gQ (bl s) (i+1)==120&&ak (0<=jk (gQ (bl s) (i+2)))&&ak (0<=jk (gQ (bl s) (i+3))))=false->∀d,af w d->xd.S1 d (λr d=>r=Be (ir (bl s) i)/\af w d):=λB d f=>no d f (by
   unfold ir
   grind)
  show bD _ _ _;rw[E,z,y,x];refine aT (λL=>⟨io,_,g3 (i:=i) io,y5 (n:=92) io (λe=>⟨io,_,g3 (i:=i+1) io,y5 (n:=120) io (λh=>⟨io,_,g3 (i:=i+2) io,(zG _ d).mono ?_⟩) (λh=>?_)⟩) (λe=>?_)⟩) (λL=>?_)
  rotate_left
  .grind
  .grind
  .grind
  rintro _ k ⟨rfl,j⟩;refine⟨_,rfl,aT (λM=>⟨io,_,g3 (i:=i+3) io,(zG _ k).mono ?_⟩) (λM=>D (by grind) k (f.gp j))⟩;rintro _ q ⟨rfl,A⟩;refine⟨_,rfl,aT (λO=>?_) (λO=>D (by grind) q ((f.gp j).gp A))⟩;have G:af w q.drew:=((f.gp j).gp A).gp (Fr.drew _ _);refine(show uI q _ from ?_);refine⟨io,_,g3 (i:=i+2) io,io,_,g3 (i:=i+3) io,(zG _ _).mono ?_⟩;rintro _ Y ⟨rfl,H⟩;refine⟨_,rfl,(zG _ _).mono ?_⟩;rintro _ Z ⟨rfl,J⟩;refine⟨_,rfl,?_,(G.gp H).gp J⟩;have e:(gQ (bl s) i==92)=true:=e;have h:(gQ (bl s) (i+1)==120)=true:=h;have F:ir (bl s) i=(cX ((16 *jk (gQ (bl s) (i+2))+jk (gQ (bl s) (i+3))).toNat),4):=by
   unfold ir
   grind
  rw[F];obtain⟨Q,N⟩:=Qy (c:=gQ (bl s) (i+2)) io;obtain⟨S,P⟩:=Qy (c:=gQ (bl s) (i+3)) io;rw[N,P,abu Q S];rfl
 refine xd.ok ?_;rw[z,y,x];refine aT (λK=>⟨io,_,g3 (i:=i) io,y5 (n:=39) io (λe=>⟨io,_,g3 (i:=i+2) io,y5 (n:=39) io (λh=>⟨io,_,g3 (i:=i+1) io,(JM _ w).mono ?_⟩) (λh=>?_)⟩) (λe=>?_)⟩) (λK=>?_)
 rotate_left
 .exact st w (Fr.refl _ _) (by grind)
 .exact st w (Fr.refl _ _) (by grind)
 .exact st w (Fr.refl _ _) (by grind)
 rintro _ k ⟨rfl,j⟩;refine⟨_,rfl,bn (λC=>⟨io,_,g3 (i:=i+1) io,?_,j⟩) (λC=>st k j (by grind))⟩;have e:(gQ (bl s) i==39)=true:=e;have h:(gQ (bl s) (i+2)==39)=true:=h;unfold ir;rw[e,h,C,a5 (show i+3<=(bl s).length by omega)];rfl
def Dh(s:BL)(i:Nat):(ir s i).2<=4/\(0<(ir s i).2->i+(ir s i).2<=s.length):=by
 unfold ir
 grind
def Hd(g:CN):cW:=ad (.tuple #[.agg #[.i (g.k:Int),.int .u8 (g.lo.toNat:Int),.int .u8 (g.hi.toNat:Int),.slice none 0 0],.i (g.n:Int)])
def RV(s:BL)(i:Nat):i+(k4 s i).n<=s.length\/(k4 s i).n=0:=by
 unfold k4;simp only;have d:=Dh s i;split
 .grind
 .split
  .exact .inr rfl
  .split
   .exact .inr rfl
   .split
    .exact .inr rfl
    grind
def W'(s:ByteArray)(Z:s.size<=100000)(i:Nat)(hi:i<s.size)(w:I):ai U NS #[.string s,.i (i:Int)] w λr w'=>r=Hd (k4 (bl s) i)/\af w w':=by
 have Y:(bl s).length=s.size:=cR s;refine uM.aq ((bM [] gs).ax λb T G=>G.av (Dv s i io T) ?_);rintro _ W rfl B;refine⟨_,_,rfl,aT (λQ=>B.ae λe d=>⟨?_,d.fr⟩) (λQ=>⟨io,_,g3 (i:=i) hi,y4 (n:=91) io (λh=>B.ae λe d=>⟨?_,d.fr⟩) (λh=>?_)⟩)⟩
 .unfold k4;simp only;rw[ag io];rfl
 .have h:(gQ (bl s) i==91)=false:=h;unfold k4;simp only;rw[ab io,ag (beq_eq_false_iff_ne.1 h)];rfl
 have h:gQ (bl s) i=91:=eq_of_beq h;rw[bm _ io];refine B.av (Dv s (i+1) io W) ?_;rintro _ e rfl d;have J:=Dh (bl s) (i+1);have bad:∀(w':I),O F0 w w' [.g b] []->k4 (bl s) i=s6->uM.bg b 0 0 0 ⟨none,0,0⟩ w' λr w'=>r=Hd (k4 (bl s) i)/\af w w':=λw' z E=>z.ae λS A=>⟨by rw[E];rfl,A.fr⟩;have x:∀(w':I),O F0 w w' [.g b] []->k4 (bl s) i=s6->uM.cG b 0 0 0 ⟨none,0,0⟩ w' λr w'=>r=Hd (k4 (bl s) i)/\af w w':=λw' z E=>z.ae λS A=>⟨by rw[E];rfl,A.fr⟩;have k:k4 (bl s) i=(let a:=ir (bl s) (i+1)
   let dash:=i+1+a.2
   if a.2=0\/(bl s).length<=dash\/gQ (bl s) dash≠45 then s6 else
   let c:=ir (bl s) (dash+1)
   let fin:=dash+1+c.2
   if c.2=0\/(bl s).length<=fin\/gQ (bl s) fin≠93\/c.1.toNat<a.1.toNat then s6 else⟨2,a.1,c.1,fin+1 - i⟩):=by
  conv=>lhs;unfold k4
  grind
 simp only at k;generalize ir (bl s) (i+1)=a at J k;refine⟨_,_,rfl,?_⟩;have M:aB .i64 (((i+1:Nat):Int)+(a.2:Int))=((i+1+a.2:Nat):Int):=by rw[bo _ io];omega
 show uM.aV s (i:Int) b 0 0 0 ⟨none,0,0⟩ (a.1.toNat:Int) (a.2:Int) (aB .i64 (((i+1:Nat):Int)+(a.2:Int))) e _;rw[M];refine aw (λC=>bad e d (by grind)) (λC=>aT (λD=>bad e d (by grind)) (λD=>⟨io,_,g3 (i:=i+1+a.2) io,y4 (n:=45) io (λy=>bad e d (by grind)) (λy=>?_)⟩));have y:gQ (bl s) (i+1+a.2)=45:=eq_of_beq y;rw[ab (by grind)]at k;rw[bm _ io];refine d.av (Dv s (i+1+a.2+1) io e) ?_;rintro _ q rfl j;have K:=Dh (bl s) (i+1+a.2+1);generalize ir (bl s) (i+1+a.2+1)=c at K k;refine⟨_,_,rfl,?_⟩;have P:aB .i64 (((i+1+a.2+1:Nat):Int)+(c.2:Int))=((i+1+a.2+1+c.2:Nat):Int):=by rw[bo _ io];omega
 show uM.bH s (i:Int) b 0 0 0 ⟨none,0,0⟩ (a.1.toNat:Int) (c.1.toNat:Int) (c.2:Int) (aB .i64 (((i+1+a.2+1:Nat):Int)+(c.2:Int))) q _;rw[P];refine aw (λC=>x q j (by grind)) (λC=>aT (λD=>x q j (by grind)) (λD=>⟨io,_,g3 (i:=i+1+a.2+1+c.2) io,y4 (n:=93) io (λy=>x q j (by grind)) (λF=>aT (λL=>x q j (by grind)) (λL=>j.ae λw5 H=>⟨?_,H.fr⟩))⟩));have F:gQ (bl s) (i+1+a.2+1+c.2)=93:=eq_of_beq F;rw[k,ab (by grind)];have N:aB .i64 ((aB .i64 (((i+1+a.2+1+c.2:Nat):Int)+1)) - (i:Int))=((i+1+a.2+1+c.2+1 - i:Nat):Int):=by rw[bm _ io,bo _ io];omega
 rw[N];rfl
def dP.c(t:dP):List V:=[.string (ba t.tx),.i (t.at_:Int),.i (t.k:Int),.int .u8 (t.lo.toNat:Int),.int .u8 (t.hi.toNat:Int),.slice none 0 0]
def Uy(t:dP):t.c.length=6:=rfl
def Uz(l:List dP)(t:dP):l.flatMap dP.c++t.c=(l++[t]).flatMap dP.c:=gs
def yU{w:I}{s:Sl}{l:List dP}(d:bh 6 w s (l.flatMap dP.c)):s.n=l.length:=by have:=d.1;rw[pV dP.c 6 Uy]at this;omega
def Kx:fO U B8 qC (.agg #[.s0,.i 0,.i 0,.int .u8 0,.int .u8 0,.slice none 0 0]) 6 64:=⟨by kernel_rfl,by kernel_rfl,rfl,dl,dl⟩
def IA(w:I)(l:List dP)(r:cW)(w':I):Prop:=∃d:Sl,r=ad d.v/\aK w' qC 6 d (l.flatMap dP.c)/\∀e∈aG d,w.heap.size<=e
def I7(s:ByteArray)(i j:Nat):s.extract i j=ba (((bl s).take j).drop i):=by
 have:bl (s.extract i j)=((bl s).take j).drop i:=by unfold bl;rw[ByteArray.data_extract,Array.toList_extract,List.extract_eq_take_drop];rw[List.drop_take]
 rw[<-this,j8]
def MV(c:UInt8){A d:Prop}(h:eO c=true->A)(e:eO c=false->d):bD (ak ((c.toNat:Int)>=97)) (bD (ak ((c.toNat:Int)<=122)) A d) d:=
 aT (λj=>aT (λk=>h (by unfold eO;grind)) (λk=>e (by unfold eO;grind))) (λj=>e (by unfold eO;grind))
def SJ(s:BL)(i:Nat):∀(f n:Nat),i+n<=s.length->n<=o3 s i f n/\i+o3 s i f n<=s.length
 |0,n,d=>⟨bw _,d⟩
 |f+1,n,d=>by
  unfold o3;split
  .rename_i e;simp only[bd,decide_eq_true_eq]at e;have:=SJ s i f (n+1) io;omega
  omega
def WG(s:ByteArray)(hs:s.size<=100000)(w:I):ai U NH #[.string s] w λr F=>IA w (n8 (bl s)) r F/\af w F:=by
 have hl:(bl s).length=s.size:=cR s
 let j:aC:=λr F=>IA w (n8 (bl s)) r F/\af w F
 have fin:∀(acc:List dP) (sl:Sl) (q:I),acc.length<=s.size->n8 (bl s)=acc++[⟨[],(bl s).length,0,0,0⟩]->O F0 w q [.row qC 6 sl (acc.flatMap dP.c)] []->
   de q (.cells #[.s0,.i (s.size:Int),.i 0,.int .u8 0,.int .u8 0,.slice none 0 0] qC) λw7=>
 ∃(t81:Sl) (Y:I),Sem.run U (fM #[B8,B8] B8 #[sl.v,.slice (some (nb q)) 1 1]) w7=.ok (t81.v) Y/\j (ad (t81.v)) Y:=by intro acc sl q ha h A;have ah:=yU (A.get 0:aK _ _ _ _ _).a3;refine A.r1 0 Kx rfl (λN w2 D _ _=>⟨⟨N,rfl,?_,λaj hx=>(D.new _ (aD (i:=0) rfl) aj hx).resolve_right id⟩,D.fr⟩) io;rw[h,<-Uz];exact D.get 0
 have loop:∀(f i:Nat) (acc:List dP) (sl:Sl) (q:I),s.size<f+i->i<=s.size->acc.length<=i->n8 (bl s)=acc++qA (bl s) f i->O F0 w q [.row qC 6 sl (acc.flatMap dP.c)] []->kP.a1 s sl (i:Int) q j:=by
  intro f;induction f with
  |zero=>omega
  |succ f S=>
   intro i acc sl q hf an am h A;refine kP.bS (aT (λaa=>⟨io,_,g3 (i:=i) io,?_⟩) (λaa=>fin acc sl q io (by rw[h];unfold qA;grind) A))
   unfold qA at h;rw[ab io]at h;refine y5 (n:=32) io (λz=>?_) (λz=>?_)
   .have z:gQ (bl s) i=32:=eq_of_beq z;rw[ag z]at h;rw[bm _ io];exact S (i+1) acc sl q io io io h A
   have z:gQ (bl s) i≠32:=beq_eq_false_iff_ne.1 z;rw[ab z]at h;simp only at h;refine A.call (W' s hs i io q) ?_;rintro _ w2 rfl D;have B:=RV (bl s) i;generalize k4 (bl s) i=g at h B;refine⟨_,_,_,⟨none,0,0⟩,_,rfl,D.ax λb w3 G=>?_⟩;have G:O F0 w w3 [.row qC 6 sl (acc.flatMap dP.c),.g b] []:=G;have one:∀(n:Nat) (C:I),1<=n->i+n<=s.size->n8 (bl s)=acc++⟨((bl s).take (i+n)).drop i,i,g.k,g.lo,g.hi⟩::qA (bl s) f (i+n)->O F0 w C [.row qC 6 sl (acc.flatMap dP.c),.g b] []->
     kP.bH s sl (i:Int) b (g.k:Int) (g.lo.toNat:Int) (g.hi.toNat:Int) ⟨none,0,0⟩ (n:Int) C j:=by
    intro n C K J Q H;show(0:Int)<=_/\_;have E:aB .i64 ((i:Int)+(n:Int))=((i+n:Nat):Int):=by rw[bo _ io];omega
    rw[E,bR,bR,I7];refine⟨io,io,io,io,H.ae λd x=>?_⟩;have ah:=yU (x.get 0:aK _ _ _ _ _).a3;refine x.jE 0 Kx rfl (λN w6 Z=>?_) io;refine S (i+n) (acc++[⟨((bl s).take (i+n)).drop i,i,g.k,g.lo,g.hi⟩]) N w6 io io (by grind) (by grind) ?_;rw[<-Uz];exact Z.take 1
   refine aw (λL=>G.ae λC H=>?_) (λL=>G.ae λC H=>one g.n C io io (by grind) H);have L:g.n=0:=io
   rw[ag L]at h;have word:∀(e n:Nat) (d:I),s.size<=e+(i+n)->1<=n->i+n<=s.size->o3 (bl s) i (bl s).length 1=o3 (bl s) i e n->O F0 w d [.row qC 6 sl (acc.flatMap dP.c),.g b] []->
     kP.cq s sl (i:Int) b (g.k:Int) (g.lo.toNat:Int) (g.hi.toNat:Int) ⟨none,0,0⟩ (n:Int) d j:=by
    intro e;induction e with
    |zero=>
     intro n d Q K J B x;have stop:kP.bH s sl (i:Int) b (g.k:Int) (g.lo.toNat:Int) (g.hi.toNat:Int) ⟨none,0,0⟩ (n:Int) d j:=one n d K J (by rw[h,B];rfl) x;have E:aB .i64 ((i:Int)+(n:Int))=((i+n:Nat):Int):=by rw[bo _ io];omega
     refine kP.dF ?_;rw[E];refine⟨io,_,g3 (i:=i) io,bn (λ_=>⟨io,_,g3 (i:=i) io,bn (λ_=>aQ (a2 io) stop) (λ_=>stop)⟩) (λ_=>stop)⟩
    |succ e ac=>
     intro n d Q K J B x;have E:aB .i64 ((i:Int)+(n:Int))=((i+n:Nat):Int):=by rw[bo _ io];omega
     have stop:(eO (gQ (bl s) i)&&ak (i+n<(bl s).length)&&eO (gQ (bl s) (i+n)))=false->kP.bH s sl (i:Int) b (g.k:Int) (g.lo.toNat:Int) (g.hi.toNat:Int) ⟨none,0,0⟩ (n:Int) d j:=λy=>one n d K J (by
      rw[h,B];conv=>lhs;unfold o3
      rw[y];rfl) x
     refine kP.dF ?_;rw[E];refine⟨io,_,g3 (i:=i) io,?_⟩;have go:eO (gQ (bl s) i)=true->bD (ak (((i+n:Nat):Int)<(s.size:Int))) ((0:Int)<=((i+n:Nat):Int)/\∃T:UInt8,s[a0 ((i+n:Nat):Int)]? =some T/\bD (ak ((T.toNat:Int)>=97)) ((0:Int)<=((i+n:Nat):Int)/\∃W:UInt8,s[a0 ((i+n:Nat):Int)]? =some W/\bD (ak ((W.toNat:Int)<=122)) (kP.cq s sl (i:Int) b (g.k:Int) (g.lo.toNat:Int) (g.hi.toNat:Int) ⟨none,0,0⟩ (aB .i64 ((n:Int)+1)) d j) (kP.bH s sl (i:Int) b (g.k:Int) (g.lo.toNat:Int) (g.hi.toNat:Int) ⟨none,0,0⟩ (n:Int) d j)) (kP.bH s sl (i:Int) b (g.k:Int) (g.lo.toNat:Int) (g.hi.toNat:Int) ⟨none,0,0⟩ (n:Int) d j)) (kP.bH s sl (i:Int) b (g.k:Int) (g.lo.toNat:Int) (g.hi.toNat:Int) ⟨none,0,0⟩ (n:Int) d j):=by
      intro h1;refine aT (λh2=>⟨io,_,g3 (i:=i+n) io,?_⟩) (λh2=>stop (by grind));have key:eO (gQ (bl s) (i+n))=true->kP.cq s sl (i:Int) b (g.k:Int) (g.lo.toNat:Int) (g.hi.toNat:Int) ⟨none,0,0⟩ (aB .i64 ((n:Int)+1)) d j:=λP=>by
       rw[bm _ io];refine ac (n+1) d io io io ?_ x;rw[B];conv=>lhs;unfold o3
       grind
      have M:eO (gQ (bl s) (i+n))=false->_:=λP=>stop (by grind);have y:=MV (gQ (bl s) (i+n)) key M;exact Te y (λy=>⟨io,_,g3 (i:=i+n) io,y⟩) id
     have M:eO (gQ (bl s) i)=false->_:=λP=>stop (by grind);exact Te (MV (gQ (bl s) i) go M) (λy=>⟨io,_,g3 (i:=i) io,y⟩) id
   grind
 refine kP.aq ?_;exact loop (s.size+1) 0 [] ⟨none,0,0⟩ w io io gs (by unfold n8;grind) ((bM [] gs).h8 qC 6)
abbrev RW(s:Sl)(st:bO):List V:=[s.v,.i (st.1:Int),.bool st.2]
abbrev cS(d:Nat)(s:Sl)(st:bO):En:=.c d (RW s st) UG
abbrev c'(s:Sl)(l:List dP):En:=.a3 6 s (l.flatMap dP.c)
abbrev SA(e:Nat)(s:Sl)(w:I)(A:aC)(st:bO):aC:=λr d=>(A r d/\d.heap[e]? =some (.cells (RW s st).toArray UG (0,0)))/\Fr (·=e) w d
abbrev jA(d:Nat)(s:Sl)(l:List dP)(st:bO)(w:I):Prop:=O (·=d) w w [cS d s st] [c' s l]
def _root_.Go.W.O.gF{M:Nat->Prop}{w0 w:I}{L D:List En}{h:Nat}{s:Sl}{l:List dP}{st:bO}(H:O M w0 w (cS h s st::L) (c' s l::D)):jA h s l st w:=
 O.o6 _ _ (by
  intro k d;simp only[aF,aZ,a7]at d;subst d;exact⟨H.get 0,λb e=>r7.1 e⟩) (by
  simp only[List.flatMap_cons,List.flatMap_nil,List.append_nil];exact(cS h s st).nd) (by
  intro k d;simp only[aF,aZ,a7]at d;subst d;exact⟨H.getD 0,λb e q j=>by simp only[aF,aZ,a7]at j;subst j;exact H.dj _ List.mem_cons_self b e _ List.mem_cons_self⟩)
structure IB(w:I)(p:Addr)(i:Nat)(t:dP):Prop where
 c0:w.cell? ((p.add (i *6)).add 0)=some (.string (ba t.tx))
 c1:w.cell? ((p.add (i *6)).add 1)=some (.i (t.at_:Int))
 c2:w.cell? ((p.add (i *6)).add 2)=some (.i (t.k:Int))
 c3:w.cell? ((p.add (i *6)).add 3)=some (.int .u8 (t.lo.toNat:Int))
 c4:w.cell? ((p.add (i *6)).add 4)=some (.int .u8 (t.hi.toNat:Int))
 c5:w.cell? ((p.add (i *6)).add 5)=some (.slice none 0 0)
def yX{w:I}{s:Sl}{l:List dP}(e:bh 6 w s (l.flatMap dP.c)){i:Nat}(hi:i<l.length){K:Addr->Prop}(j:∀p,s.a=some p->IB w p i (fY l i)->K p):dJ s.a K:=by
 have h:l[i]? =some (fY l i):=by unfold fY;rw[List.getD_eq_getElem?_getD,aY hi];rfl
 exact fN.elem (f:=dP.c) (sz:=6) Uy io e.2.2 h λp k d=>j p k ⟨d 0 _ rfl,d 1 _ rfl,d 2 _ rfl,d 3 _ rfl,d 4 _ rfl,d 5 _ rfl⟩
def j6(l:List dP):Prop:=0<l.length/\(fY l (l.length - 1)).tx=[]/\(fY l (l.length - 1)).k=0
section
variable {pb:Nat} {s:Sl} {l:List dP} {st:bO} {w:I}
def Dx(H:jA pb s l st w)(hi:st.1<l.length):ai U NW #[.pointer (some (aa pb))] w λr q=>r=ad (.string (ba (fw l st)))/\af w q:=by
 have k:st.2=true->fw l st=[32]:=λe=>by unfold fw;rw[e];rfl
 have j:st.2=false->fw l st=(fY l st.1).tx:=λe=>by unfold fw;rw[e];rfl
 generalize fw l st=u at k j;refine KV.ok ⟨st.2,H.ld 0 2,bn (λh=>⟨?_,Fr.refl _ _⟩) (λh=>?_)⟩
 .rw [k h];rfl
 rw[j h];have d:O (·=pb) w w.drew [cS pb s st] [c' s l]:=H.drew;have x:=yU (d.getD 0:bh _ _ _ _);refine⟨s,d.ld 0 0,_,d.ld 0 1,io,io,yX (d.getD 0) hi λp y c=>⟨ba (fY l st.1).tx,?_,rfl,Fr.drew _ _⟩⟩;rw[bR];exact c.c0
def uu(a b:BL):((ba a).toList==(ba b).toList)=(a==b):=by rw[ByteArray.toList_eq,ByteArray.toList_eq];rfl
def My(j:j6 l)(hi:st.1<l.length)(k:fw l st≠[])(h:st.2=false):st.1+1<l.length:=by
 rcases Nat.lt_or_ge (st.1+1) l.length with d|d
 .exact d
 .exfalso;apply k;have e:st.1=l.length - 1:=io
  unfold fw;rw[h,e];exact j.2.1
def tG(k:j6 l)(hi:st.1<l.length)(u:BL)(q:u≠[32]):(e0 l u st).2.1<l.length:=by
 unfold e0;cases d:fw l st==u with
 |false=>exact hi
 |true=>
  have d:=eq_of_beq d;cases j:u.isEmpty with
  |true=>exact hi
  |false=>
   show st.1+1<l.length;refine My k hi (λe=>?_) ?_
   .rw [e]at d;subst d;cases j
   .cases h:st.2 with
    |false=>rfl
    |true=>
     exfalso;apply q;rw[<-d];unfold fw;rw[h];rfl
def r9(H:jA pb s l st w)(hi:st.1<l.length)(q:l.length<=1000000)(u:BL):ai U NX #[.pointer (some (aa pb)),.string (ba u)] w (SA pb s w (λr _=>r=ad (.bool (e0 l u st).1)) (e0 l u st).2):=by
 refine KW.ok (H.call (Dx H hi) ?_);rintro _ x rfl e;refine⟨_,rfl,?_⟩;try dsimp only
 rw[uu];have k:((ba u).toList==(a' #[]).toList)=u.isEmpty:=by have:a' #[]=ba []:=rfl;rw[this,uu];cases u<;>rfl
 rw[k];refine eU (λd=>⟨⟨?_,?_⟩,e.fr⟩) (λd=>eU (λh=>⟨_,e.ld 0 1,?_⟩) (λh=>⟨⟨?_,?_⟩,e.fr⟩))
 .unfold e0;rw[d];rfl
 .have:(e0 l u st).2=st:=by unfold e0;rw[d];rfl
  rw[this];exact e.get 0
 .rw [bm _ io];refine e.st 0 1 rfl λy j=>⟨⟨?_,?_⟩,j.fr⟩
  .unfold e0;rw[d];rfl
  .have:(e0 l u st).2=(st.1+1,st.2):=by unfold e0;rw[d,h];rfl
   rw[this];exact j.get 0
 .unfold e0;rw[d];rfl
 .have:(e0 l u st).2=st:=by unfold e0;rw[d,h];rfl
  rw[this];exact e.get 0
def Qb(u:BL):lN l u st=bif (e0 l u st).1 then(e0 l u st).2 else((e0 l u st).2.1,true):=by unfold lN;generalize e0 l u st=x;obtain⟨b,d⟩:=x;cases b<;>rfl
def yb(d:j6 l)(hi:st.1<l.length)(u:BL)(e:u≠[32]):(lN l u st).1<l.length:=by rw[Qb];have:=tG d hi u e;cases(e0 l u st).1<;>exact this
def wU(H:jA pb s l st w)(hi:st.1<l.length)(j:l.length<=1000000)(u:BL):ai U NV #[.pointer (some (aa pb)),.string (ba u)] w (SA pb s w (λr _=>r=ad (.tuple #[])) (lN l u st)):=by
 refine KU.ok (H.r' (r9 H hi j u) ?_);rintro _ k rfl d _;rw[Qb];refine⟨_,rfl,eU (λe=>d.st 0 2 rfl λq h=>⟨⟨rfl,?_⟩,h.fr⟩) (λe=>⟨⟨rfl,?_⟩,d.fr⟩)⟩
 .rw [e];exact h.get 0
 .rw [e];exact d.get 0
def WK(H:jA pb s l st w)(hi:st.1<l.length):ai U NU #[.pointer (some (aa pb))] w λr z=>r=ad (.bool (zC l st))/\af w z:=by refine KS.ok ((Dx H hi).mono ?_);rintro _ A ⟨rfl,e⟩;have h:=H.cA e;refine⟨_,rfl,st.2,h.ld 0 2,?_⟩;have d:∀u:List UInt8,((ba (fw l st)).toList==(ba u).toList)=(fw l st==u):=λu=>uu _ _;have j:=d [];have k:=d [41];have q:=d [44];have x:=d [124];have y:=d [38];unfold zC;show bD _ (bD (!((ba (fw l st)).toList==(ba []).toList)) (bD (!((ba (fw l st)).toList==(ba [41]).toList)) (bD (!((ba (fw l st)).toList==(ba [44]).toList)) (bD (!((ba (fw l st)).toList==(ba [124]).toList)) (Ending.returned (.bool (!((ba (fw l st)).toList==(ba [38]).toList)))=_/\af w A) _) _) _) _) _;rw[j,k,q,x,y];cases st.2<;>cases fw l st==[]<;>cases fw l st==[41]<;>cases fw l st==[44]<;>cases fw l st==[124]<;>first |exact⟨rfl,e⟩|skip
end
def Dq(k:Int)(s:Sl)(l:List J)(w:I)(x:(bP s l).P w):ai U xT #[.i k,s.v] w λr y=>gK (bP s l).fp w (sL k (J.ao l)) r y/\af w y:=by
 have d:=J.cz (dv.1 x).1;refine KO.aq ((gT x).ax λb A h=>aw (λz=>?_) (λz=>h.ae λq e=>⟨⟨.mk k 0 0 s l,rfl,?_,?_,λb j=>.inr j⟩,e.fr⟩))
 .match l,d with
  |[],d=>simp at d;omega
  |a::b::m,d=>simp at d;omega
  |[a],d=>
   refine⟨io,io,J.a6 (dv.1 (show(bP s [a]).P A from h.getD 0)).1 (i:=0) rfl λp B c=>⟨_,_,_,_,c.c0,c.c1,c.c2,c.c3,h.ae λq e=>⟨⟨a,rfl,rfl,?_,λb j=>.inr ?_⟩,e.fr⟩⟩⟩
   .exact (dv.1 (show(bP s [a]).P q from e.getD 0)).2.mem gs
   .exact m'.2 (.inr (J.bX.2 ⟨a,gs,j⟩))
 .show Rx.mk k 0 0 (J.ao l)=_
  match l,d with
  |[],d=>rfl
  |[a],d=>simp at d;omega
  |a::b::m,d=>rfl
 .have:=dv.1 (show(bP s l).P q from e.getD 0);unfold J.P;exact this
structure nL(s:Sl)(l:List dP)(n:Nat):Prop where
 expr:∀(pb:Nat) (st:bO) (w:I) (x:Rx) (ho:bO),mn l n st=some (x,ho)->st.1<l.length->jA pb s l st w->ai U Fy #[.pointer (some (aa pb))] w (SA pb s w (λr w'=>gu w x r w'/\ho.1<l.length) ho)
 Kj:∀(pb:Nat) (st:bO) (w:I) (x:Rx) (ho:bO),pM l n st=some (x,ho)->st.1<l.length->jA pb s l st w->ai U AM #[.pointer (some (aa pb))] w (SA pb s w (λr w'=>gu w x r w'/\ho.1<l.length) ho)
 seq:∀(pb:Nat) (st:bO) (w:I) (x:Rx) (ho:bO),qs l n st=some (x,ho)->st.1<l.length->jA pb s l st w->ai U AO #[.pointer (some (aa pb))] w (SA pb s w (λr w'=>gu w x r w'/\ho.1<l.length) ho)
 item:∀(pb:Nat) (st:bO) (w:I) (x:Rx) (ho:bO),nW l n st=some (x,ho)->st.1<l.length->jA pb s l st w->ai U AN #[.pointer (some (aa pb))] w (SA pb s w (λr w'=>gu w x r w'/\ho.1<l.length) ho)
 atom:∀(pb:Nat) (st:bO) (w:I) (x:Rx) (ho:bO),r2 l n st=some (x,ho)->st.1<l.length->jA pb s l st w->ai U Fw #[.pointer (some (aa pb))] w (SA pb s w (λr w'=>gu w x r w'/\ho.1<l.length) ho)
 kids:∀(pb:Nat) (st:bO) (w:I) (m:List Rx) (ho:bO),sM l n st=some (m,ho)->st.1<l.length->jA pb s l st w->ai U Fz #[.pointer (some (aa pb))] w (SA pb s w (λr w'=>(∃(sl:Sl) (a:List J),r=ad sl.v/\J.ao a=m/\(bP sl a).P w'/\∀b∈(bP sl a).fp,w.heap.size<=b)/\ho.1<l.length) ho)
def Bd{M:Nat->Prop}{w0 w:I}{L D:List En}{d:Nat}{s:Sl}{st:bO}(H:O M w0 w (cS d s st::L) D)(i:Nat){e:En}(hi:L[i]? =some e){b:Nat}(k:b∈e.fp):b≠d:=λh=>
 j' H.nd (i:=i+1) (by grind) (j:=0) rfl io b k (r7.2 h)
def _root_.Go.W.O.w3{M:Nat->Prop}{w0 w:I}{L D:List En}(H:O M w0 w L D)(j:Nat){t:J}(h:D[j]? =some (.tree t):=by rfl):O M w0 w L (D++[.trees [t]]):=by
 refine H.ef _ (Fr.refl _ _) (J.jV λq d=>?_) λb k=>.inr (.inr ?_)
 .simp at d;subst d;exact H.getD j h
 .obtain ⟨q,d,e⟩:=J.bX.1 (aW.1 k);simp at d;rw[d]at e;exact⟨_,aD h,aW.2 e⟩
section
variable {s:Sl} {l:List dP} {n:Nat}
def Ln(W:j6 l)(T:l.length<=1000000)(Y:∀m,m<=n->nL s l m)(d:Nat)(w:I)(x:Rx)(y:bO):∀(f:Nat),f<=n->∀(acc:List J) (sl:Sl) (h:Nat) (H:I) (st:bO),ui l f (J.ao acc) st=some (x,y)->st.1<l.length->acc.length+f<=1000000->(∀b∈J.bc acc,w.heap.size<=b)->
  O (·=d) w H [cS d s st,.g h,.row aJ 4 sl (acc.flatMap J.c)] [c' s l,.trees acc]->
  xg.a1 (aa d) h 0 0 0 ⟨none,0,0⟩ sl H (SA d s w (λr D=>gu w x r D/\y.1<l.length) y)
 |0,_=>λacc sl h H st z=>by unfold ui at z;cases z
 |f+1,hf=>λacc sl h H st z S ax ab K=>by
  have az:=J.cz (K.get 2:aK _ _ _ _ _).a3;unfold ui at z;have fin:∀(k:I) (j:bO),j.1<l.length->some (sL 4 (J.ao acc),j)=some (x,y)->O (·=d) w k [cS d s j,.g h,.row aJ 4 sl (acc.flatMap J.c)] [c' s l,.trees acc]->
    uA [h] xT #[.i 4,sl.v] k λan ap aq ar w8=>loc [h] w8 λav=>SA d s w (λr D=>gu w x r D/\y.1<l.length) y (ad (.agg #[.i an,.int .u8 ap,.int .u8 aq,ar.v])) av:=by
   intro k j M F q;simp only[fA,fy]at F;obtain⟨rfl,rfl⟩:=F;have ay:∀b∈(bP sl acc).fp,w.heap.size<=b:=λb e=>by
    rcases m'.1 e with e|e
    .exact (q.new _ (aD (i:=2) rfl) b (gY e)).resolve_right (Bd q 1 rfl (gY e))
    grind
   have L:O (·=d) w k [cS d s j,.g h] [c' s l,.trees acc,J.row sl acc,.tree (bP sl acc)]:=q.tn 2 1 0 0 0;refine L.sb (Dq 4 sl acc k (L.getD 3)) (λb e=>⟨_,aD (i:=3) rfl,aW.2 e⟩) λt w3 C A ft=>?_;refine⟨_,_,_,t.s,rfl,A.ae λw4 B=>⟨⟨⟨⟨t,rfl,C,B.getD 4,λb e=>?_⟩,M⟩,B.get 0⟩,B.fr⟩⟩;rcases ft b e with e|e
   .exact bB L.fr.size e
   grind
  have more:∀(k:I) (j:bO),j.1<l.length->(match pM l f j with
   |some (a,st)=>ui l f (J.ao acc++[a]) st
   |none=>none)=some (x,y)->O (·=d) w k [cS d s j,.g h,.row aJ 4 sl (acc.flatMap J.c)] [c' s l,.trees acc]->
    uA [h] AM #[.pointer (some (aa d))] k λag ah aj am E=>de E (.cells #[.i ag,.int .u8 ah,.int .u8 aj,am.v] aJ) λw6=>
     ∃(t13:Sl) (N:I),Sem.run U (fM #[di,di] di #[sl.v,.slice (some (nb E)) 1 1]) w6=.ok (t13.v) N/\kept [h] w6 N/\xg.a1 (aa d) h 0 0 0 ⟨none,0,0⟩ t13 N (SA d s w (λr D=>gu w x r D/\y.1<l.length) y):=by
   intro k j M F q;cases Q:pM l f j with
   |none=>grind
   |some aw=>
    obtain⟨a,G⟩:=aw;rw[Q]at F;refine q.i' ((Y f io).Kj d j k a G Q M q.gF) ?_;rintro _ w3 ⟨⟨u,rfl,hu,pu,P⟩,ac⟩ _ F3;have A:=F3 (.tree u) pu λb e=>P b (aW.1 e);have A:O (·=d) w w3 [cS d s G,.g h,.row aJ 4 sl (acc.flatMap J.c)] [c' s l,.trees acc,.tree u]:=A;refine⟨_,_,_,u.s,rfl,A.jE 2 mh (xs:=acc.flatMap J.c) rfl (λZ E B=>?_) io⟩;have H6:O (·=d) w E [cS d s G,.g h,.row aJ 4 Z ((acc++[u]).flatMap J.c)] [c' s l,.trees (acc++[u])]:=by rw[nS];exact(B.tw 1 2).forget _ gs
    refine Ln W T Y d w x y f io (acc++[u]) Z h E G ?_ ac (by grind) (uZ ab λb e=>bB q.fr.size (P b e)) H6;rw[k5];have:J.ao [u]=[a]:=by simp[J.ao,hu]
    grind
  refine xg.bS (K.i' (r9 K.gF S T [124]) ?_);have C:=tG W S [124] dl;rintro _ k rfl q _;refine⟨_,rfl,?_⟩;cases hq:e0 l [124] st with
  |mk af j=>
   rw[hq]at z q C;cases af with
   |true=>exact more k j C z q
   |false=>exact fin k j C z q
def Yw(S:j6 l)(Q:l.length<=1000000)(hn:n<=100000)(D:∀m,m<=n->nL s l m)(d:Nat)(st:bO)(w:I)(x:Rx)(k:bO)(B:mn l (n+1) st=some (x,k))(hi:st.1<l.length)(H:jA d s l st w):
  ai U Fy #[.pointer (some (aa d))] w (SA d s w (λr Y=>gu w x r Y/\k.1<l.length) k):=by
 unfold mn at B;cases A:pM l n st with
 |none=>grind
 |some Z=>
  obtain⟨a,q⟩:=Z;rw[A]at B;refine xg.aq (H.ax λj E h=>?_);have h:O (·=d) w E [cS d s st,.g j] [c' s l]:=h;refine h.i' ((D n (bw _)).Kj d st E a q A hi h.gF) ?_;rintro _ F ⟨⟨u,rfl,T,W,z⟩,P⟩ _ K;have y:=K (.tree u) W λb e=>z b (aW.1 e);have y:O (·=d) w F [cS d s q,.g j] [c' s l,.tree u]:=y;refine⟨_,_,_,u.s,rfl,y.e9 (n:=1) (sz:=4) (cs:=u.c) rfl dl λG L=>?_⟩;have M:O (·=d) w G [cS d s q,.g j,.row aJ 4 ⟨some (aa F.heap.size),1,1⟩ ([u].flatMap J.c)] [c' s l,.trees [u]]:=by
   have N:[u].flatMap J.c=u.c:=gs
   rw[N];exact(L.w3 1).forget _ gs
  refine Ln S Q D d w x k n (bw _) [u] _ j G q ?_ P (by grind) (λb e=>?_) M
  .have:J.ao [u]=[a]:=by simp[J.ao,T]
   grind
  .obtain ⟨t,C,e⟩:=J.bX.1 e;simp at C;rw[C]at e;exact bB h.fr.size (z b e)
def Kl(W:j6 l)(T:l.length<=1000000)(Y:∀m,m<=n->nL s l m)(d:Nat)(w:I)(x:Rx)(y:bO):∀(f:Nat),f<=n->∀(acc:List J) (sl:Sl) (h:Nat) (H:I) (st:bO),um l f (J.ao acc) st=some (x,y)->st.1<l.length->acc.length+f<=1000000->(∀b∈J.bc acc,w.heap.size<=b)->
  O (·=d) w H [cS d s st,.g h,.row aJ 4 sl (acc.flatMap J.c)] [c' s l,.trees acc]->
  xf.a1 (aa d) h 0 0 0 ⟨none,0,0⟩ sl H (SA d s w (λr D=>gu w x r D/\y.1<l.length) y)
 |0,_=>λacc sl h H st z=>by unfold um at z;cases z
 |f+1,hf=>λacc sl h H st z S ax ab K=>by
  have az:=J.cz (K.get 2:aK _ _ _ _ _).a3;unfold um at z;have fin:∀(k:I) (j:bO),j.1<l.length->some (sL 5 (J.ao acc),j)=some (x,y)->O (·=d) w k [cS d s j,.g h,.row aJ 4 sl (acc.flatMap J.c)] [c' s l,.trees acc]->
    uA [h] xT #[.i 5,sl.v] k λan ap aq ar w8=>loc [h] w8 λav=>SA d s w (λr D=>gu w x r D/\y.1<l.length) y (ad (.agg #[.i an,.int .u8 ap,.int .u8 aq,ar.v])) av:=by
   intro k j M F q;simp only[fA,fy]at F;obtain⟨rfl,rfl⟩:=F;have ay:∀b∈(bP sl acc).fp,w.heap.size<=b:=λb e=>by
    rcases m'.1 e with e|e
    .exact (q.new _ (aD (i:=2) rfl) b (gY e)).resolve_right (Bd q 1 rfl (gY e))
    grind
   have L:O (·=d) w k [cS d s j,.g h] [c' s l,.trees acc,J.row sl acc,.tree (bP sl acc)]:=q.tn 2 1 0 0 0;refine L.sb (Dq 5 sl acc k (L.getD 3)) (λb e=>⟨_,aD (i:=3) rfl,aW.2 e⟩) λt w3 C A ft=>?_;refine⟨_,_,_,t.s,rfl,A.ae λw4 B=>⟨⟨⟨⟨t,rfl,C,B.getD 4,λb e=>?_⟩,M⟩,B.get 0⟩,B.fr⟩⟩;rcases ft b e with e|e
   .exact bB L.fr.size e
   grind
  have more:∀(k:I) (j:bO),j.1<l.length->(match qs l f j with
   |some (a,st)=>um l f (J.ao acc++[a]) st
   |none=>none)=some (x,y)->O (·=d) w k [cS d s j,.g h,.row aJ 4 sl (acc.flatMap J.c)] [c' s l,.trees acc]->
    uA [h] AO #[.pointer (some (aa d))] k λag ah aj am E=>de E (.cells #[.i ag,.int .u8 ah,.int .u8 aj,am.v] aJ) λw6=>
     ∃(t13:Sl) (N:I),Sem.run U (fM #[di,di] di #[sl.v,.slice (some (nb E)) 1 1]) w6=.ok (t13.v) N/\kept [h] w6 N/\xf.a1 (aa d) h 0 0 0 ⟨none,0,0⟩ t13 N (SA d s w (λr D=>gu w x r D/\y.1<l.length) y):=by
   intro k j M F q;cases Q:qs l f j with
   |none=>grind
   |some aw=>
    obtain⟨a,G⟩:=aw;rw[Q]at F;refine q.i' ((Y f io).seq d j k a G Q M q.gF) ?_;rintro _ w3 ⟨⟨u,rfl,hu,pu,P⟩,ac⟩ _ F3;have A:=F3 (.tree u) pu λb e=>P b (aW.1 e);have A:O (·=d) w w3 [cS d s G,.g h,.row aJ 4 sl (acc.flatMap J.c)] [c' s l,.trees acc,.tree u]:=A;refine⟨_,_,_,u.s,rfl,A.jE 2 mh (xs:=acc.flatMap J.c) rfl (λZ E B=>?_) io⟩;have H6:O (·=d) w E [cS d s G,.g h,.row aJ 4 Z ((acc++[u]).flatMap J.c)] [c' s l,.trees (acc++[u])]:=by rw[nS];exact(B.tw 1 2).forget _ gs
    refine Kl W T Y d w x y f io (acc++[u]) Z h E G ?_ ac (by grind) (uZ ab λb e=>bB q.fr.size (P b e)) H6;rw[k5];have:J.ao [u]=[a]:=by simp[J.ao,hu]
    grind
  refine xf.bS (K.i' (r9 K.gF S T [38]) ?_);have C:=tG W S [38] dl;rintro _ k rfl q _;refine⟨_,rfl,?_⟩;cases hq:e0 l [38] st with
  |mk af j=>
   rw[hq]at z q C;cases af with
   |true=>exact more k j C z q
   |false=>exact fin k j C z q
def XX(S:j6 l)(Q:l.length<=1000000)(hn:n<=100000)(D:∀m,m<=n->nL s l m)(d:Nat)(st:bO)(w:I)(x:Rx)(k:bO)(B:pM l (n+1) st=some (x,k))(hi:st.1<l.length)(H:jA d s l st w):
  ai U AM #[.pointer (some (aa d))] w (SA d s w (λr Y=>gu w x r Y/\k.1<l.length) k):=by
 unfold pM at B;cases A:qs l n st with
 |none=>grind
 |some Z=>
  obtain⟨a,q⟩:=Z;rw[A]at B;refine xf.aq (H.ax λj E h=>?_);have h:O (·=d) w E [cS d s st,.g j] [c' s l]:=h;refine h.i' ((D n (bw _)).seq d st E a q A hi h.gF) ?_;rintro _ F ⟨⟨u,rfl,T,W,z⟩,P⟩ _ K;have y:=K (.tree u) W λb e=>z b (aW.1 e);have y:O (·=d) w F [cS d s q,.g j] [c' s l,.tree u]:=y;refine⟨_,_,_,u.s,rfl,y.e9 (n:=1) (sz:=4) (cs:=u.c) rfl dl λG L=>?_⟩;have M:O (·=d) w G [cS d s q,.g j,.row aJ 4 ⟨some (aa F.heap.size),1,1⟩ ([u].flatMap J.c)] [c' s l,.trees [u]]:=by
   have N:[u].flatMap J.c=u.c:=gs
   rw[N];exact(L.w3 1).forget _ gs
  refine Kl S Q D d w x k n (bw _) [u] _ j G q ?_ P (by grind) (λb e=>?_) M
  .have:J.ao [u]=[a]:=by simp[J.ao,T]
   grind
  .obtain ⟨t,C,e⟩:=J.bX.1 e;simp at C;rw[C]at e;exact bB h.fr.size (z b e)
def Th(ag:j6 l)(af:l.length<=1000000)(T:∀m,m<=n->nL s l m)(d:Nat)(w:I)(x:Rx)(y:bO):∀(f:Nat),f<=n->∀(acc:List J) (sl:Sl) (h:Nat) (G:I) (st:bO),u9 l f (J.ao acc) st=some (x,y)->st.1<l.length->acc.length+f<=1000000->(∀b∈J.bc acc,w.heap.size<=b)->
  O (·=d) w G [cS d s st,.g h,.row aJ 4 sl (acc.flatMap J.c)] [c' s l,.trees acc]->
  xi.a1 (aa d) h 0 0 0 ⟨none,0,0⟩ sl G (SA d s w (λr C=>gu w x r C/\y.1<l.length) y)
 |0,_=>λacc sl h G st z=>by unfold u9 at z;cases z
 |f+1,hf=>λacc sl h G st z L az ab H=>by
  have aC:=J.cz (H.get 2:aK _ _ _ _ _).a3;unfold u9 at z;have fin:∀(j:I) (k:bO),k.1<l.length->some (sL 3 (J.ao acc),k)=some (x,y)->O (·=d) w j [cS d s k,.g h,.row aJ 4 sl (acc.flatMap J.c)] [c' s l,.trees acc]->
    uA [h] xT #[.i 3,sl.v] j λap aq ar aw w8=>loc [h] w8 λax=>SA d s w (λr C=>gu w x r C/\y.1<l.length) y (ad (.agg #[.i ap,.int .u8 aq,.int .u8 ar,aw.v])) ax:=by
   intro j k M E q;simp only[fA,fy]at E;obtain⟨rfl,rfl⟩:=E;have aA:∀b∈(bP sl acc).fp,w.heap.size<=b:=λb e=>by
    rcases m'.1 e with e|e
    .exact (q.new _ (aD (i:=2) rfl) b (gY e)).resolve_right (Bd q 1 rfl (gY e))
    grind
   have K:O (·=d) w j [cS d s k,.g h] [c' s l,.trees acc,J.row sl acc,.tree (bP sl acc)]:=q.tn 2 1 0 0 0;refine K.sb (Dq 3 sl acc j (K.getD 3)) (λb e=>⟨_,aD (i:=3) rfl,aW.2 e⟩) λt Y ht A ft=>?_;refine⟨_,_,_,t.s,rfl,A.ae λw4 B=>⟨⟨⟨⟨t,rfl,ht,B.getD 4,λb e=>?_⟩,M⟩,B.get 0⟩,B.fr⟩⟩;rcases ft b e with e|e
   .exact bB K.fr.size e
   grind
  have more:∀(j:I) (k:bO),k.1<l.length->(match nW l f k with
   |some (a,st)=>u9 l f (J.ao acc++[a]) st
   |none=>none)=some (x,y)->O (·=d) w j [cS d s k,.g h,.row aJ 4 sl (acc.flatMap J.c)] [c' s l,.trees acc]->
    uA [h] AN #[.pointer (some (aa d))] j λah aj am an D=>de D (.cells #[.i ah,.int .u8 aj,.int .u8 am,an.v] aJ) λZ=>
     ∃(t13:Sl) (N:I),Sem.run U (fM #[di,di] di #[sl.v,.slice (some (nb D)) 1 1]) Z=.ok (t13.v) N/\kept [h] Z N/\xi.a1 (aa d) h 0 0 0 ⟨none,0,0⟩ t13 N (SA d s w (λr C=>gu w x r C/\y.1<l.length) y):=by
   intro j k M E q;cases Q:nW l f k with
   |none=>grind
   |some ay=>
    obtain⟨a,F⟩:=ay;rw[Q]at E;refine q.i' ((T f io).item d k j a F Q M q.gF) ?_;rintro _ Y ⟨⟨u,rfl,hu,pu,P⟩,ac⟩ _ F3;have A:=F3 (.tree u) pu λb e=>P b (aW.1 e);have A:O (·=d) w Y [cS d s F,.g h,.row aJ 4 sl (acc.flatMap J.c)] [c' s l,.trees acc,.tree u]:=A;refine⟨_,_,_,u.s,rfl,A.jE 2 mh (xs:=acc.flatMap J.c) rfl (λW D B=>?_) io⟩;have H6:O (·=d) w D [cS d s F,.g h,.row aJ 4 W ((acc++[u]).flatMap J.c)] [c' s l,.trees (acc++[u])]:=by rw[nS];exact(B.tw 1 2).forget _ gs
    refine Th ag af T d w x y f io (acc++[u]) W h D F ?_ ac (by grind) (uZ ab λb e=>bB q.fr.size (P b e)) H6;rw[k5];have:J.ao [u]=[a]:=by simp[J.ao,hu]
    grind
  refine xi.bS (H.av (WK H.gF L) ?_);rintro _ j rfl q;refine⟨_,rfl,?_⟩;cases S:zC l st with
  |true=>rw[S]at z;exact more j st L z q
  |false=>rw[S]at z;exact fin j st L z q
def adj(S:j6 l)(Q:l.length<=1000000)(hn:n<=100000)(D:∀m,m<=n->nL s l m)(d:Nat)(st:bO)(w:I)(x:Rx)(k:bO)(B:qs l (n+1) st=some (x,k))(hi:st.1<l.length)(H:jA d s l st w):
  ai U AO #[.pointer (some (aa d))] w (SA d s w (λr Y=>gu w x r Y/\k.1<l.length) k):=by
 unfold qs at B;cases A:nW l n st with
 |none=>grind
 |some Z=>
  obtain⟨a,q⟩:=Z;rw[A]at B;refine xi.aq (H.ax λj E h=>?_);have h:O (·=d) w E [cS d s st,.g j] [c' s l]:=h;refine h.i' ((D n (bw _)).item d st E a q A hi h.gF) ?_;rintro _ F ⟨⟨u,rfl,T,W,z⟩,P⟩ _ K;have y:=K (.tree u) W λb e=>z b (aW.1 e);have y:O (·=d) w F [cS d s q,.g j] [c' s l,.tree u]:=y;refine⟨_,_,_,u.s,rfl,y.e9 (n:=1) (sz:=4) (cs:=u.c) rfl dl λG L=>?_⟩;have M:O (·=d) w G [cS d s q,.g j,.row aJ 4 ⟨some (aa F.heap.size),1,1⟩ ([u].flatMap J.c)] [c' s l,.trees [u]]:=by
   have N:[u].flatMap J.c=u.c:=gs
   rw[N];exact(L.w3 1).forget _ gs
  refine Th S Q D d w x k n (bw _) [u] _ j G q ?_ P (by grind) (λb e=>?_) M
  .have:J.ao [u]=[a]:=by simp[J.ao,T]
   grind
  .obtain ⟨t,C,e⟩:=J.bX.1 e;simp at C;rw[C]at e;exact bB h.fr.size (z b e)
end
def _root_.Go.W.O.TV{M:Nat->Prop}{w0 w:I}{L D:List En}{bs:List Nat}(H:O M w0 w L D)(i j:Nat){b:Nat}{vs:List V}{T:aE}{v:V}{K:I->Prop}(hi:L[i]? =some (.c b vs T))(x:∀k,O M w0 k (L.set i (.c b (vs.set j v) T)) D->K k)(y:j<vs.length:=by simp)(h:∀b∈bs,En.g b∈L:=by simp):aN w ((aa b).add j) v λq=>kept bs w q/\K q:=by obtain⟨A,B,C⟩:=H.set (v:=v) i j hi y;obtain⟨_,_,_,E⟩:=BI (H.ob i hi) j io v;refine⟨A,B,λd e=>?_,x _ C⟩;refine E.cw d (H.own _ (h d e)) λz=>xw H hi (zH w b vs T) (h d e) ?_;rw[z];exact r7.2 rfl
def _root_.Go.W.O.one{M:Nat->Prop}{w0 w:I}{L D:List En}(H:O M w0 w L D)(i j:Nat){e:aE}{sl:Sl}{u:J}(k:Int)(lo hi:UInt8)(q:L[i]? =some (.row e 4 sl u.c):=by rfl)(x:D[j]? =some (.tree u):=by rfl):O M w0 w (L.eraseIdx i) (D++[.tree (.mk k lo hi sl [u])]):=by
 have d:=H.w3 j x;have e:[u].flatMap J.c=u.c:=gs
 have h:=d.tn i D.length k lo hi (s:=sl) (ts:=[u]) (by rw[e];exact q) gs;exact h.forget _ (λy z=>by grind)
def Gt{w:I}{sl:Sl}{u:J}{k:Int}{lo hi:UInt8}(e:∀b∈aG sl,w.heap.size<=b)(h:∀b∈u.fp,w.heap.size<=b):∀b∈(J.mk k lo hi sl [u]).fp,w.heap.size<=b:=λb d=>by
 unfold J.fp at d;rcases aP.1 d with d|d
 .exact o1 e b d
 .obtain ⟨t,j,d⟩:=J.bX.1 d
  grind
section
variable {s:Sl} {l:List dP} {n:Nat}
def Mh(H:j6 l)(G:l.length<=1000000)(e:Nat)(w:I)(x:Rx)(A:bO):∀(f:Nat) (u:J) (h j:Nat) (B:I) (st:bO),yJ l f u.rx st=some (x,A)->st.1<l.length->(∀b∈u.fp,w.heap.size<=b)->
  O (·=e) w B [cS e s st,.g h,.g j] [c' s l,.tree u]->
  z0.a1 (aa e) h 0 0 0 ⟨none,0,0⟩ j u.k (u.lo.toNat:Int) (u.hi.toNat:Int) u.s B (SA e s w (λr T=>gu w x r T/\A.1<l.length) A)
 |0,u,h,j,B,st,d,_,_,_=>by unfold yJ at d;cases d
 |f+1,u,h,j,B,st,d,F,E,C=>by
  unfold yJ at d;refine z0.bS (C.i' (r9 C.gF F G [42]) ?_);have y:=tG H F [42] dl;rintro _ L rfl z _;refine⟨_,rfl,?_⟩;cases Q:e0 l [42] st with
  |mk S K=>
   rw[Q]at d z y;cases S with
   |true=>
    dsimp only at d y;refine aR rfl ?_;refine z.e9 (n:=1) (sz:=4) (cs:=u.c) rfl dl λW q=>q.ae λM N=>?_;have P:O (·=e) w M [cS e s K,.g h,.g j] [c' s l,.tree (.mk 7 0 0 ⟨some (aa L.heap.size),1,1⟩ [u])]:=(N.one 3 1 7 0 0).forget _ gs;refine Mh H G e w x A f (.mk 7 0 0 ⟨some (aa L.heap.size),1,1⟩ [u]) h j M K d y (Gt (λb D=>?_) E) P;simp only[aG,aF,aZ,a7]at D;rw[D];exact z.fr.size
   |false=>
    dsimp only at d y;simp only[fA,fy]at d;obtain⟨d,rfl⟩:=d;refine aQ rfl ?_;exact z.ae λW q=>⟨⟨⟨⟨u,rfl,d,q.getD 1,E⟩,y⟩,q.get 0⟩,q.fr⟩
def ZC(T:j6 l)(S:l.length<=1000000)(Y:nL s l n)(h:Nat)(st:bO)(w:I)(x:Rx)(C:bO)(e:nW l (n+1) st=some (x,C))(hi:st.1<l.length)(H:jA h s l st w):
  ai U AN #[.pointer (some (aa h))] w (SA h s w (λr w'=>gu w x r w'/\C.1<l.length) C):=by
 unfold nW at e;refine z0.aq (H.ax λK w1 A=>?_);have A:O (·=h) w w1 [cS h s st,.g K] [c' s l]:=A;refine A.i' (r9 A.gF hi S [33]) ?_;have y:=tG T hi [33] dl;rintro _ Z rfl j _;refine⟨_,rfl,?_⟩;cases hq:e0 l [33] st with
 |mk ab D=>
  rw[hq]at e j y;cases ab with
  |true=>
   dsimp only at e y;cases q:nW l n D with
   |none=>grind
   |some Q=>
    obtain⟨a,z⟩:=Q;rw[q]at e;simp only[fA,fy]at e;obtain⟨e,rfl⟩:=e;refine aR rfl ?_;refine j.i' (Y.item h D Z a z q y j.gF) ?_;rintro _ N ⟨⟨u,rfl,W,M,k⟩,L⟩ _ E;have B:=E (.tree u) M λb d=>k b (aW.1 d);refine⟨_,_,_,u.s,rfl,B.e9 (n:=1) (sz:=4) (cs:=u.c) rfl dl λw4 F=>F.ae λP G=>?_⟩;have J:O (·=h) w P [cS h s z,.g K] [c' s l,.tree (.mk 6 0 0 ⟨some (aa N.heap.size),1,1⟩ [u])]:=(G.one 2 1 6 0 0).forget _ gs;refine⟨⟨⟨⟨.mk 6 0 0 ⟨some (aa N.heap.size),1,1⟩ [u],rfl,?_,J.getD 1,Gt (λb d=>?_) (λb d=>bB j.fr.size (k b d))⟩,L⟩,J.get 0⟩,J.fr⟩
    .rw [<-e,<-W];rfl
    .simp only[aG,aF,aZ,a7]at d;rw[d];exact B.fr.size
  |false=>
   dsimp only at e y;cases q:r2 l n D with
   |none=>grind
   |some Q=>
    obtain⟨a,z⟩:=Q;rw[q]at e;refine aQ rfl ?_;refine j.i' (Y.atom h D Z a z q y j.gF) ?_;rintro _ N ⟨⟨u,rfl,W,M,k⟩,L⟩ _ E;have B:=E (.tree u) M λb d=>k b (aW.1 d);refine⟨_,_,_,u.s,rfl,B.ax λb4 w4 F=>F.ae λP G=>?_⟩;exact Mh T S h w x C n u K b4 P z (by grind) L (λb d=>bB j.fr.size (k b d)) G
def Mp(D:j6 l)(C:l.length<=1000000)(H:∀m,m<=n->nL s l m)(e:Nat)(w:I)(m:List Rx)(x:bO):∀(f:Nat),f<=n->∀(acc:List J) (sl:Sl) (z:I) (st:bO),xP l f (J.ao acc) st=some (m,x)->st.1<l.length->acc.length+f<=1000000->(∀b∈J.bc acc,w.heap.size<=b)->
  O (·=e) w z [cS e s st,.row aJ 4 sl (acc.flatMap J.c)] [c' s l,.trees acc]->
  xh.L1 (aa e) sl z (SA e s w (λr w'=>(∃(sl:Sl) (a:List J),r=ad sl.v/\J.ao a=m/\(bP sl a).P w'/\∀b∈(bP sl a).fp,w.heap.size<=b)/\x.1<l.length) x)
 |0,_=>λacc sl z st d=>by unfold xP at d;cases d
 |f+1,hf=>λacc sl z st d G ae W A=>by
  have af:=J.cz (A.get 1:aK _ _ _ _ _).a3;unfold xP at d;refine xh.iH (A.r' (r9 A.gF G C [44]) ?_);have q:=tG D G [44] dl;rintro _ w2 rfl j _;refine⟨_,rfl,?_⟩;cases Z:e0 l [44] st with
  |mk ab L=>
   rw[Z]at d j q;cases ab with
   |true=>
    dsimp only at d q;cases F:mn l f L with
    |none=>grind
    |some ac=>
     obtain⟨a,y⟩:=ac;rw[F]at d;refine aR rfl ?_;refine j.r' ((H f io).expr e L w2 a y F q j.gF) ?_;rintro _ M ⟨⟨u,rfl,hu,pu,E⟩,Y⟩ _ Q;have B:=Q (.tree u) pu λb h=>E b (aW.1 h);have B:O (·=e) w M [cS e s y,.row aJ 4 sl (acc.flatMap J.c)] [c' s l,.trees acc,.tree u]:=B;refine⟨_,_,_,u.s,rfl,B.r1 1 mh (xs:=acc.flatMap J.c) rfl (λK N S _ _=>?_) io⟩;have T:O (·=e) w N [cS e s y,.row aJ 4 K ((acc++[u]).flatMap J.c)] [c' s l,.trees (acc++[u])]:=by rw[nS];exact(S.tw 1 2).forget _ gs
     refine Mp D C H e w m x f io (acc++[u]) K N y ?_ Y (by grind) (uZ W λb h=>bB j.fr.size (E b h)) T;rw[k5];have:J.ao [u]=[a]:=by simp[J.ao,hu]
     grind
   |false=>
    dsimp only at d q;simp only[fA,fy]at d;obtain⟨rfl,rfl⟩:=d;refine aQ rfl ?_;refine j.r' (wU j.gF q C [41]) ?_;rintro _ M rfl k _;refine⟨rfl,⟨⟨⟨sl,acc,rfl,rfl,dv.2 ⟨(k.get 1:aK _ _ _ _ _).a3,k.getD 1⟩,λb h=>?_⟩,yb D q [41] dl⟩,k.get 0⟩,k.fr⟩;rcases m'.1 h with h|h
    .exact (k.new _ (aD (i:=1) rfl) b (gY h)).resolve_right (Bd k 0 rfl (gY h))
    grind
def ZM(A:j6 l)(z:l.length<=1000000)(hn:n<=100000)(L:∀m,m<=n->nL s l m)(e:Nat)(st:bO)(w:I)(m:List Rx)(k:bO)(j:sM l (n+1) st=some (m,k))(hi:st.1<l.length)(H:jA e s l st w):
  ai U Fz #[.pointer (some (aa e))] w (SA e s w (λr C=>(∃(sl:Sl) (a:List J),r=ad sl.v/\J.ao a=m/\(bP sl a).P C/\∀b∈(bP sl a).fp,w.heap.size<=b)/\k.1<l.length) k):=by
 unfold sM at j;refine xh.ok (H.r' (wU H hi z [40]) ?_);have K:=yb A hi [40] dl;rintro _ w1 rfl E _;refine⟨rfl,E.r' (r9 E.gF K z [41]) ?_⟩;have q:=tG A K [41] dl;rintro _ D rfl h _;cases Z:e0 l [41] (lN l [40] st)with
 |mk ab y=>
  rw[Z]at j h q;have none_:some (([]:List Rx),y)=some (m,k)->xh.S0 D (SA e s w (λr C=>(∃(sl:Sl) (a:List J),r=ad sl.v/\J.ao a=m/\(bP sl a).P C/\∀b∈(bP sl a).fp,w.heap.size<=b)/\k.1<l.length) k):=by
   intro j;simp only[fA,fy]at j;obtain⟨rfl,rfl⟩:=j;refine⟨⟨⟨⟨⟨none,0,0⟩,[],rfl,rfl,dv.2 ⟨bh.nil 4 D,by unfold J.Ps;trivial⟩,λb d=>?_⟩,q⟩,h.get 0⟩,h.fr⟩;rcases m'.1 d with d|d
   .simp [J.row,En.a3]at d
   .unfold J.bc at d;cases d
  refine⟨_,rfl,y.2,h.ld 0 2,bn (λd=>none_ (by grind)) (λd=>bn (λx=>none_ (by grind)) (λx=>?_))⟩
  have x:ab=false:=x;simp only[d,x,Bool.or_false,cond_false]at j;cases G:mn l n y with
  |none=>grind
  |some ae=>
   obtain⟨a,B⟩:=ae;rw[G]at j;refine h.r' ((L n (bw _)).expr e y D a B G q h.gF) ?_;rintro _ ac ⟨⟨u,rfl,hu,pu,F⟩,Y⟩ _ N;have Q:=N (.tree u) pu λb d=>F b (aW.1 d);refine⟨_,_,_,u.s,rfl,Q.e9 (n:=1) (sz:=4) (cs:=u.c) rfl dl λM S=>?_⟩;have T:O (·=e) w M [cS e s B,.row aJ 4 ⟨some (aa ac.heap.size),1,1⟩ ([u].flatMap J.c)] [c' s l,.trees [u]]:=by
    have W:[u].flatMap J.c=u.c:=gs
    rw[W];exact(S.w3 1).forget _ gs
   refine Mp A z L e w m k n (bw _) [u] _ M B ?_ Y (by grind) (λb d=>?_) T
   .have:J.ao [u]=[a]:=by simp[J.ao,hu]
    grind
   .obtain ⟨t,q,d⟩:=J.bX.1 d;simp at q;rw[q]at d;exact bB h.fr.size (F b d)
end
def wu:List V:=[.string (ba (oe 0)),.string (ba (oe 1)),.string (ba (oe 2)),.string (ba (oe 3)),.string (ba (oe 4)),.string (ba (oe 5))]
def U7{k:Nat}(d:k<6):wu[k]? =some (.string (ba (oe k))):=by
 have:k=0\/k=1\/k=2\/k=3\/k=4\/k=5:=io
 rcases this with rfl|rfl|rfl|rfl|rfl|rfl<;>rfl
def U6{k:Nat}(e:k<6)(d:k≠2):oe k≠[]/\oe k≠[32]:=by
 have:k=0\/k=1\/k=2\/k=3\/k=4\/k=5:=io
 rcases this with rfl|rfl|rfl|rfl|rfl|rfl<;>first |exact absurd rfl d|exact⟨dl,dl⟩
def nX(k:Int)(lo hi:UInt8):J:=.mk k lo hi ⟨none,0,0⟩ []
def sO(k:Int)(lo hi:UInt8)(w:I):(nX k lo hi).P w:=by unfold nX J.P J.Ps;exact⟨bh.nil 4 w,trivial⟩
def sP{k:Int}{lo hi:UInt8}{b:Nat}:¬b∈(nX k lo hi).fp:=λd=>by
 unfold nX J.fp J.bc at d;rcases aP.1 d with d|d
 .simp [J.row,En.a3]at d
 grind
section
variable {s:Sl} {l:List dP} {n:Nat}
def V2(W:j6 l)(am:l.length<=1000000)(ih:nL s l n)(j:Nat)(st:bO)(w:I)(x:Rx)(G:bO)(d:r2 l (n+1) st=some (x,G))(hi:st.1<l.length)(H:jA j s l st w):
  ai U Fw #[.pointer (some (aa j))] w (SA j s w (λr w'=>gu w x r w'/\G.1<l.length) G):=by
 let R:aC:=SA j s w (λr w'=>gu w x r w'/\G.1<l.length) G
 have loop:∀(f k:Nat) (q E:Nat) (C:I),f+k=6->mN l st 6 0=mN l st f k->(match mN l st 6 0 with
   |some k=>bif Nat.ble k 2 then some (Rx.mk k 0 0 [],(st.1+1,st.2))else match sM l n (st.1+1,st.2)with
    |some (m,st)=>some (Rx.mk k 0 0 m,st)
    |none=>none
   |none=>let st:=lN l [40] st
    bif st.2 then some (fU,st)else match mn l n st with
    |some (a,st)=>some (a,lN l [41] st)
    |none=>none)=some (x,G)->O (·=j) w C [cS j s st,.g q,.c E wu eH] [c' s l]->
   pS.cq (aa j) q 0 0 0 ⟨none,0,0⟩ ⟨some (aa E),6,6⟩ (k:Int) C R:=by
  intro f;induction f with
  |zero=>
   intro k q E C hk hw d D;have e0:mN l st 0 k=none:=by unfold mN;rfl
   rw[hw,e0]at d;dsimp only at d;have ag:=yb W hi [40] dl;refine pS.dF (aQ (a2 io) (D.i' (wU D.gF hi am [40]) ?_));rintro _ z rfl e _;generalize lN l [40] st=j0 at d ag e;refine⟨rfl,j0.2,e.ld 0 2,bn (λh=>?_) (λh=>?_)⟩
   .rw [h]at d;simp only[cond_true,fA,fy]at d;obtain⟨rfl,rfl⟩:=d;exact e.ae λS y=>⟨⟨⟨⟨cu,rfl,rfl,lO _,λb h=>(lP h).elim⟩,ag⟩,y.get 0⟩,y.fr⟩
   .rw [h]at d;dsimp only[cond_false]at d;cases N:mn l n j0 with
    |none=>grind
    |some aj=>
     obtain⟨a,Z⟩:=aj;rw[N]at d;simp only[fA,fy]at d;obtain⟨rfl,rfl⟩:=d;refine e.i' (ih.expr j j0 z a Z N ag e.gF) ?_;rintro _ S ⟨⟨u,rfl,hu,pu,fu⟩,T⟩ _ F3;have y:=F3 (.tree u) pu λb h=>fu b (aW.1 h);refine⟨_,_,_,u.s,rfl,y.ax λb6 w4 A=>A.ae λw5 B=>?_⟩;have B:O (·=j) w w5 (cS j s Z::[.g q,.c E wu eH,.g b6]) [c' s l,.tree u]:=B;refine B.i' (wU B.gF T am [41]) ?_;rintro _ w6 rfl H6 _;exact⟨rfl,H6.ae λw7 K=>⟨⟨⟨⟨u,rfl,hu,K.getD 1,λb h=>bB e.fr.size (fu b h)⟩,yb W T [41] dl⟩,K.get 0⟩,K.fr⟩⟩
  |succ f aJ=>
   intro k q E C hk hw d D;have next:mN l st (f+1) k=mN l st f (k+1)->∀z,O (·=j) w z [cS j s st,.g q,.c E wu eH] [c' s l]->pS.bH (aa j) q 0 0 0 ⟨none,0,0⟩ ⟨some (aa E),6,6⟩ (k:Int) z R:=by
    intro Y z e;show pS.cq _ _ _ _ _ _ _ _ _ _;rw[bm _ io]
    grind
   refine pS.dF (aR (a5 io) (aw (λQ=>D.ae λz e=>next (by
    have:k=2:=io
    subst this;conv=>lhs;unfold mN
    rfl) z e) (λQ=>⟨io,by grind,?_⟩)))
   have Q:k≠2:=io
   have aI:bI k 2=false:=by
    cases F:bI k 2 with
    |false=>rfl
    |true=>exact absurd (Nat.eq_of_beq_eq_true F) Q
   refine lR (D.ae λz e=>?_);rw[bR,Nat.mul_one];refine⟨ba (oe k),e.ld 2 k rfl (U7 io),e.av (Dx e.gF hi) ?_⟩;rintro _ S rfl y;refine⟨_,rfl,y.ld 2 k rfl (U7 io),?_⟩;rw[uu];refine eU (λhs=>next (by
    conv=>lhs;unfold mN
    grind) S y) (λhs=>?_)
   have an:=eq_of_beq hs;have aG:mN l st 6 0=some k:=by
    rw[hw];conv=>lhs;unfold mN
    grind
   rw[aG]at d;dsimp only at d;have af:st.1+1<l.length:=by
    refine My W hi (by rw[an];exact(U6 io Q).1) ?_;cases h:st.2 with
    |false=>rfl
    |true=>
     exfalso;refine(U6 (k:=k) io Q).2 ?_;rw[<-an];unfold fw;grind
   refine⟨(st.1:Int),y.ld 0 1,?_⟩;rw[bm _ io];refine y.TV 0 1 rfl λw4 A=>?_;have A:O (·=j) w w4 [cS j s (st.1+1,st.2),.g q,.c E wu eH] [c' s l]:=A;refine A.ax λb5 w5 B=>aT (λaA=>?_) (λaA=>?_)
   .have ac:Nat.ble k 2=false:=by
     cases F:Nat.ble k 2 with
     |false=>rfl
     |true=>have:=Nat.le_of_ble_eq_true F;omega
    rw[ac]at d;dsimp only[cond_false]at d;cases N:sM l n (st.1+1,st.2)with
    |none=>grind
    |some aj=>
     obtain⟨m,Z⟩:=aj;rw[N]at d;simp only[fA,fy]at d;obtain⟨Y,rfl⟩:=d;refine B.ae λw9 M=>?_;have M:O (·=j) w w9 (cS j s (st.1+1,st.2)::[.g q,.c E wu eH,.g b5]) [c' s l]:=M;refine M.i' (ih.kids j (st.1+1,st.2) w9 m Z N af M.gF) ?_;rintro _ aK ⟨⟨sl,a,rfl,ha,pa,fa⟩,T⟩ _ ao;have ap:=ao (.tree (bP sl a)) pa λb h=>fa b (aW.1 h);refine⟨sl,rfl,ap.ae λaL ar=>ar.ae λaH ab=>?_⟩;refine⟨⟨⟨⟨.mk k 0 0 sl a,rfl,?_,?_,λb h=>?_⟩,T⟩,ab.get 0⟩,ab.fr⟩
     .rw [<-Y,<-ha];rfl
     .have:=dv.1 (show(bP sl a).P aH from ab.getD 1);unfold J.P;omega
     .refine bB M.fr.size (fa b ?_);unfold J.fp at h;unfold bP J.fp;exact h
   .have ac:Nat.ble k 2=true:=Nat.ble_eq_true_of_le io;rw[ac]at d;simp only[cond_true,fA,fy]at d;obtain⟨Y,rfl⟩:=d;refine B.ae λw6 H6=>H6.ae λw7 K=>⟨⟨⟨⟨nX k 0 0,rfl,?_,sO _ _ _ _,λb h=>(sP h).elim⟩,af⟩,K.get 0⟩,K.fr⟩;rw[<-Y];rfl
 have s0:∀(q:Nat) (C:I),(!st.2&&bI (fY l st.1).k 2)=false->O (·=j) w C [cS j s st,.g q] [c' s l]->pS.aV (aa j) q 0 0 0 ⟨none,0,0⟩ C R:=by
  intro q C hq D;unfold r2 at d;rw[hq]at d;dsimp only[cond_false]at d;try dsimp only[pS.aV,ah]
  refine D.nw λz _ e=>?_;exact loop 6 0 q C.heap.size z io rfl d e
 refine pS.aq (H.ax λq C D=>D.ae λz e=>⟨st.2,e.ld 0 2,eU (λh=>?_) (λh=>s0 q z (by grind) e)⟩);have hn:=yU (e.getD 0:bh _ _ _ _);refine⟨s,e.ld 0 0,(st.1:Int),e.ld 0 1,io,io,yX (e.getD 0) hi λp hp c=>⟨((fY l st.1).k:Int),?_,aw (λL=>?_) (λL=>s0 q z (by
  have:bI (fY l st.1).k 2=false:=by
   cases F:bI (fY l st.1).k 2 with
   |false=>rfl
   |true=>have:=Nat.eq_of_beq_eq_true F;omega
  grind) e)⟩⟩
 .rw [bR,jD];exact c.c2
 have L:(fY l st.1).k=2:=io
 have af:st.1+1<l.length:=by
  rcases Nat.lt_or_ge (st.1+1) l.length with F|F
  .exact F
  .exfalso;have ay:st.1=l.length - 1:=io
   rw[ay,W.2.2]at L;cases L
 refine⟨(st.1:Int),e.ld 0 1,?_⟩;rw[bm _ io];refine e.TV 0 1 rfl λS y=>?_;have y:O (·=j) w S [cS j s (st.1+1,st.2),.g q] [c' s l]:=y;refine y.ae λw4 A=>⟨s,A.ld 0 0,((st.1+1:Nat):Int),A.ld 0 1,?_⟩;have em:aB .i64 (((st.1+1:Nat):Int) - 1)=(st.1:Int):=by rw[bo _ io];omega
 rw[em];unfold r2 at d;rw[h,L]at d;have d:some (Rx.mk 2 (fY l st.1).lo (fY l st.1).hi [],(st.1+1,false))=some (x,G):=d;simp only[fA,fy]at d;obtain⟨d,az⟩:=d;refine⟨io,io,yX (A.getD 0) hi λp hp c=>⟨2,(fY l st.1).lo.toNat,(fY l st.1).hi.toNat,⟨none,0,0⟩,?_,?_,?_,?_,A.ae λw5 B=>⟨⟨⟨⟨nX 2 (fY l st.1).lo (fY l st.1).hi,rfl,d,sO _ _ _ _,λb h=>(sP h).elim⟩,by grind⟩,?_⟩,B.fr⟩⟩⟩
 .rw [bR,jD,c.c2,L];rfl
 .rw [bR,add_add];exact c.c3
 .rw [bR,add_add];exact c.c4
 .rw [bR,add_add];exact c.c5
 .have:=B.get 0;rw[<-az,<-h];exact this
def QB(y:j6 l)(x:l.length<=1000000):∀n:Nat,n<=100000->∀m,m<=n->nL s l m
 |0,_=>λm B=>by
  have:m=0:=io
  subst this;exact⟨λe st j k h d=>(by unfold mn at d;cases d),λe st j k h d=>(by unfold pM at d;cases d),λe st j k h d=>(by unfold qs at d;cases d),λe st j k h d=>(by unfold nW at d;cases d),λe st j k h d=>(by unfold r2 at d;cases d),λe st j k h d=>(by unfold sM at d;cases d)⟩
 |n+1,C=>λm B=>by
  have z:=QB y x n io;rcases Nat.lt_or_ge m (n+1)with A|A
  .grind
  have:m=n+1:=io
  subst this;exact⟨λe st j k h d w q=>Yw y x io z e st j k h d w q,λe st j k h d w q=>XX y x io z e st j k h d w q,λe st j k h d w q=>adj y x io z e st j k h d w q,λe st j k h d w q=>ZC y x (z n (bw _)) e st j k h d w q,λe st j k h d w q=>V2 y x (z n (bw _)) e st j k h d w q,λe st j k h d w q=>ZM y x io z e st j k h d w q⟩
end
def _root_.Go.W.O.perm{M:Nat->Prop}{w0 w:I}{L j D:List En}(H:O M w0 w L D)(h:L.Perm j):O M w0 w j D:=
 ⟨H.fr,λd e=>H.own d (h.mem_iff.2 e),H.rd,λd e=>H.new d (h.mem_iff.2 e),(h.flatMap_right (·.fp)).nodup_iff.1 H.nd,λd e b q k x=>H.dj d e b q k (h.mem_iff.2 x)⟩
def HV(s:BL):∀(f i:Nat),s.length<f+i->∃init,qA s f i=init++[⟨[],s.length,0,0,0⟩]/\init.length+i<=max i s.length
 |0,i,h=>⟨[],rfl,by simp;omega⟩
 |f+1,i,h=>by
  unfold qA;split
  .exact ⟨[],rfl,by simp;omega⟩
  .split
   .obtain ⟨init,d,j⟩:=HV s f (i+1) io;exact⟨init,d,io⟩
   .simp only;have q:=RV s i;have w:=SJ s i s.length 1 io;generalize k4 s i=g at q;generalize o3 s i s.length 1=e at w;have k:1<=(if g.n=0 then e else g.n)/\i+(if g.n=0 then e else g.n)<=s.length:=by split<;>omega
    generalize(if g.n=0 then e else g.n)=n at k;obtain⟨init,d,j⟩:=HV s f (i+n) io;exact⟨_::init,by rw[d];rfl,by simp only[cC];omega⟩
def aeE(s:BL):j6 (n8 s)/\(n8 s).length<=s.length+1:=by
 obtain⟨init,j,k⟩:=HV s (s.length+1) 0 io;have h:n8 s=init++[⟨[],s.length,0,0,0⟩]:=j;rw[h];have d:(init++[(⟨[],s.length,0,0,0⟩:dP)]).length=init.length+1:=gs
 have e:fY (init++[(⟨[],s.length,0,0,0⟩:dP)]) init.length=⟨[],s.length,0,0,0⟩:=by unfold fY;simp[List.getD_eq_getElem?_getD]
 refine⟨⟨io,?_,?_⟩,io⟩
 .rw [d,Nat.add_sub_cancel,e]
 .rw [d,Nat.add_sub_cancel,e]
def Vx(w:I)(x:Rx)(a:Nat)(e:Int)(r:cW)(w':I):Prop:=∃t:J,r=ad (.tuple #[t.v,.i (a:Int),.i e])/\t.rx=x/\t.P w'/\∀b∈t.fp,w.heap.size<=b
def W9(s:ByteArray)(hs:s.size<=100000)(x:Rx)(a:Nat)(e:Int)(d:vA (bl s)=some (x,a,e))(w:I):ai U ND #[.string s] w λr w'=>Vx w x a e r w'/\af w w':=by
 have hl:(bl s).length=s.size:=cR s;obtain⟨C,hlen⟩:=aeE (bl s);unfold vA at d;refine KJ.aq ((bM [] gs).ax λT w1 Q=>aT (λh=>Q.ae λw2 H2=>?_) (λh=>Q.g9 (WG s hs w1) ?_))
 .rw [ag io]at d;simp only[fA,fy]at d;obtain⟨rfl,rfl,rfl⟩:=d;exact⟨⟨cu,rfl,rfl,lO _,λb h=>(lP h).elim⟩,H2.fr⟩
 rw[ab io]at d;generalize n8 (bl s)=l at d C hlen;dsimp only at d;rintro _ N ⟨j,rfl,ho,hf⟩ _ F6;have H6:=F6.rd (c' j l) ho.a3 (o1 hf);cases H:mn l 1000 (0,false)with
 |none=>rw[H]at d;cases d
 |some ap=>
  obtain⟨r0,M⟩:=ap;rw[H]at d;dsimp only at d;refine⟨j,rfl,H6.nw λw7 _ y=>?_⟩;have y:O F0 w w7 (cS N.heap.size j (0,false)::[.g T]) [c' j l]:=y.perm (List.Perm.swap _ _ _);refine y.i' ((QB C io 1000 io 1000 (bw _)).expr N.heap.size (0,false) w7 r0 M H C.1 y.gF) ?_;rintro _ w8 ⟨⟨u,rfl,hu,pu,W⟩,Y⟩ _ F8;have H8:=F8 (.tree u) pu λb h=>W b (aW.1 h);refine⟨_,_,_,u.s,rfl,H8.ax λb6 w9 H9=>H9.ae λam z=>?_⟩;have z:O F0 w am (cS N.heap.size j M::[.g T,.g b6]) [c' j l,.tree u]:=z;refine z.i' (wU z.gF Y io []) ?_;have G:=yb C Y [] dl;rintro _ aa rfl k _;generalize lN l [] M=tA at d G k;refine⟨rfl,tA.2,k.ld 0 2,bn (λE=>k.ae λaw q=>?_) (λE=>?_)⟩
  .rw [ag E]at d;simp only[fA,fy]at d;obtain⟨rfl,rfl,rfl⟩:=d;have hn:=yU (q.getD 0:bh _ _ _ _);refine⟨j,q.ld 0 0,(tA.1:Int),q.ld 0 1,io,io,yX (q.getD 0) G λp hp c=>⟨((fY l tA.1).at_:Int),?_,q.ae λan A=>⟨?_,A.ld 0 1,A.ld 0 0,⟨cu,rfl,rfl,lO _,λb h=>(lP h).elim⟩,A.fr⟩⟩⟩
   .rw [bR];exact c.c1
   .rw [bR];have:=yX (A.getD 0) G (K:=λD=>∃L,j.a=some L/\D=L/\IB an L tA.1 (fY l tA.1)) (λD Z F=>⟨D,Z,rfl,F⟩);rw[hp]at this;obtain⟨D,Z,rfl,F⟩:=this;exact F.c1
  .rw [ab (by rw[E];simp)]at d;have aj:u.P aa:=k.getD 1;have ar:r0.sz=u.sz:=by rw[<-hu,J.ez]
   by_cases ah:u.sz<=1000000
   .rw [ab io]at d;refine k.av (Dk u aa ah aj) ?_;rintro _ ay rfl S;refine⟨_,rfl,aT (λac=>S.ae λao B=>?_) (λac=>S.ae λao B=>?_)⟩
    .rw [ag io]at d;simp only[fA,fy]at d;obtain⟨rfl,rfl,rfl⟩:=d;exact⟨⟨cu,rfl,rfl,lO _,λb h=>(lP h).elim⟩,B.fr⟩
    .rw [ab io]at d;simp only[fA,fy]at d;obtain⟨rfl,rfl,rfl⟩:=d;exact⟨⟨u,rfl,hu,B.getD 1,λb h=>bB y.fr.size (W b h)⟩,B.fr⟩
   .rw [ag io]at d;cases d
def bT(a b:BL):ba a++ba b=ba (a++b):=by apply ByteArray.ext;rw[ByteArray.data_append];simp[ba]
def qR{w:I}{b n:Nat}{cs:List V}{T:aE}(d:w.heap[b]? =some (.cells cs.toArray T (0,0)))(h:n=cs.length):Rd w ⟨some (aa b),n,n⟩ cs:=
 GX (s:=⟨some (aa b),n,n⟩) h (bw _) (λd=>by cases d) λi v e=>⟨aa b,rfl,cellAt (p:=aa b) d rfl (by simpa using e)⟩
def JL(c:UInt8)(w:I):ai U NN #[.int .u8 (c.toNat:Int)] w λr e=>r=ad (.bool (eO c))/\af w e:=by
 refine KP.ok (aT (λd=>⟨?_,Fr.refl _ _⟩) (λd=>⟨?_,Fr.refl _ _⟩))
 .unfold eO;rw[a5 (show 97<=c.toNat by omega),Bool.true_and,show ak ((c.toNat:Int)<=122)=ak (c.toNat<=122)from decide_eq_decide.2 io]
 .unfold eO;rw[a2 (show ¬97<=c.toNat by omega),Bool.false_and]
def Dt(c:UInt8)(w:I):ai U NA #[.int .u8 (c.toNat:Int)] w λr F=>r=ad (.string (ba (dC c)))/\af w F:=by
 have K:=c.toNat_lt;have z:O F0 w w [] []:=bM [] gs;refine KF.ok (z.call (JM c w) ?_);rintro _ y rfl x;refine⟨_,rfl,bn (λk=>?_) (λk=>?_)⟩
 .refine x.vu (λq _ d h=>?_);have J:((39:UInt8).toNat:Int)=39:=rfl;have e:Bytes q ⟨some (aa y.heap.size),3,3⟩ [39,c,39]:=qR (T:=eB) h rfl;have j:=r5 e;refine⟨ba [39,c,39],j,?_,d.fr⟩;unfold dC;rw[ag k]
 .have C:aB .i64 (c.toNat:Int)=(c.toNat:Int):=bo _ io;have D:aB .i64 (Int.tdiv (c.toNat:Int) 16)=((c.toNat / 16:Nat):Int):=by rw[Int.tdiv_eq_ediv_of_nonneg io,bo _ io];omega
  have E:Int.tmod (c.toNat:Int) 16=((c.toNat%16:Nat):Int):=by rw[Int.tmod_eq_emod_of_nonneg io];omega
  rw[C,D,E];refine x.call (Dw (c.toNat / 16) io y) ?_;rintro _ q rfl d;refine⟨_,rfl,d.call (Dw (c.toNat%16) io q) ?_⟩;rintro _ G rfl A;refine⟨_,rfl,A.vu (λH _ B h=>?_)⟩;have e:Bytes H ⟨some (aa G.heap.size),4,4⟩ [92,120,jb (c.toNat / 16),jb (c.toNat%16)]:=qR (T:=eB) h rfl;have j:=r5 e;refine⟨ba [92,120,jb (c.toNat / 16),jb (c.toNat%16)],j,?_,B.fr⟩;unfold dC;rw[ab (by rw[k];simp)]
set_option maxRecDepth 100000
abbrev ng(s:Sl)(l:List Nd)(d:Nd):List En:=[.gr s l,bZ d]
def xK{w:I}{s:Sl}{l:List Nd}{d:Nd}(h:GP w s l)(hd:d.P w):O F0 w w [] (ng s l d):=bM _ (by
 intro j e;simp only[aF,aZ,a7]at e;rcases e with rfl|rfl
 .exact a8.2 h
 .exact hd)
def Wv{w:I}{s:Sl}{l:List Int}(e:bF w s l)(B:l.length<=1000000000000)(n:Int):ai U Ny #[s.v,.i n] w λr k=>r=ad (.bool (ak (n∈l)))/\af w k:=by
 have C:=bF.len e;have loop:∀(d i:Nat),i+d=l.length->(n∈l↔n∈l.drop i)->xb.L0 s n (i:Int) w λr k=>r=ad (.bool (ak (n∈l)))/\af w k:=by
  intro d;induction d with
  |zero=>
   intro i z h;rw[dy io]at h;exact xb.b' (aQ (a2 io) ⟨by rw[a2 (λe=>by have:=h.1 e;simp at this)],Fr.refl _ _⟩)
  |succ d A=>
   intro i z h;have q:l[i]? =some (l[i]'io):=aY io;rw[dw (by omega:i<l.length),aF]at h;generalize l[i]'io=x at q h;refine xb.b' (aR (a5 io) ⟨io,io,e.cell q io λp D y=>⟨x,y,aw (λj=>⟨?_,Fr.refl _ _⟩) (λj=>?_)⟩⟩)
   .rw [a5 (h.2 (.inl j.symm))]
   .rw [bm _ io];exact A (i+1) io (h.trans ⟨λe=>e.resolve_left (λe=>j e.symm),.inr⟩)
 exact xb.ok (loop l.length 0 io gs)
def JC{w:I}{s:Sl}{l:List Int}(d:bF w s l)(e:l.length<=1000000000000)(n:Int):ai U Of #[s.v,.i n] w λr h=>r=ad (.bool (ak (n∈l)))/\af w h:=by refine K5.ok ((Wv d e n).mono ?_);rintro _ j ⟨rfl,f⟩;exact⟨_,rfl,rfl,f⟩
def zE{w:I}{b n:Nat}{l:List Int}{T:aE}(d:w.heap[b]? =some (.cells (l.map bC).toArray T (0,0)))(e:n=l.length):bF w ⟨some (aa b),n,n⟩ l:=
 qR d (by simpa using e)
def dO:Nat:=1000000000
def Lu(op:Int):(ak (op∈[(21:Int),22,23,28])=mr op)/\(ak (op∈[(0:Int),2,33])=mu op):=by
 constructor
 .unfold mr;by_cases d:op=21
  .subst d;rfl
  by_cases e:op=22
  .subst e;rfl
  by_cases h:op=23
  .subst h;rfl
  by_cases j:op=28
  .subst j;rfl
  simp[d,e,h,j]
 .unfold mu;by_cases d:op=0
  .subst d;rfl
  by_cases e:op=2
  .subst e;rfl
  by_cases h:op=33
  .subst h;rfl
  simp[d,e,h]
def Ym(t:ByteArray):(t.toList==(a' #[]).toList)=ak (t=ba []):=y1 _ _
def abA{n:Nx}{A d:Prop}(k:bD (fa n) d A):∀a b:Bool,a=mr n.op->b=mu n.op->
  let h:=bD (!b) (bD (!(n.tx.toList==(a' #[]).toList)) A d) d
  let j:=bD (n.op !=1) (bD (n.u !=0) A h) h
  let e:=bD (n.op !=21) (bD (n.m !=0) A j) j
  bD (!a) (bD (n.n !=0) A e) e:=by rintro a b rfl rfl;dsimp only;rw[Ym];unfold fa at k;have q:(n.op !=1)= !(n.op==1):=rfl;have w:(n.op !=21)= !(n.op==21):=rfl;have x:(n.n !=0)= !(n.n==0):=rfl;have y:(n.m !=0)= !(n.m==0):=rfl;have z:(n.u !=0)= !(n.u==0):=rfl;rw[q,w,x,y,z];generalize(n.op==1)=p1 at *;generalize(n.op==21)=p2 at *;generalize(n.n==0)=p3 at *;generalize(n.m==0)=p4 at *;generalize(n.u==0)=p5 at *;generalize ak (n.tx=ba [])=p6 at *;generalize mr n.op=p7 at *;generalize mu n.op=p8 at *;cases p1<;>cases p2<;>cases p3<;>cases p4<;>cases p5<;>cases p6<;>cases p7<;>cases p8<;>exact k
def oL(g:List Nx)(n:Nx):Int:=if(b5 n.op==(n.kids.length:Int)&&n.kids.all (dI g)&&fa n)=true then 0 else 1
def WR{w:I}{s:Sl}{l:List Nd}{d:Nd}(q:GP w s l)(hd:d.P w)(hk:d.x.kids.length<=dO):ai U Od #[s.v,d.v] w λr D=>r=ad (.i (oL (xs l) d.x))/\af w D:=by
 have hn:=gx q;have H:d.ks.n=d.x.kids.length:=bF.len hd;have L:(xs l).length=l.length:=by simp[xs]
 unfold dO at hk;have loop:∀(m i:Nat) (h:Nat) (e:I),i+m=d.x.kids.length->(b5 d.x.op==(d.x.kids.length:Int))=true->(d.x.kids.all (dI (xs l))=(d.x.kids.drop i).all (dI (xs l)))->O F0 w e [.g h] (ng s l d)->
   xm.a1 s h d.x.op d.ks d.x.n d.x.m d.x.u d.x.tx d.x.st.k d.x.st.n d.x.st.x (i:Int) e λr D=>r=ad (.i (oL (xs l) d.x))/\af w D:=by
  intro m;induction m with
  |zero=>
   intro i h e hi C j y;rw[dy io]at j;refine xm.bS (aQ (a2 io) (y.nw λM _ z=>z.av (JC (l:=[21,22,23,28]) (zE (n:=4) (z.ob 1) rfl) dl d.x.op) ?_));rintro _ N rfl A;refine⟨_,rfl,A.nw λw4 _ E=>E.av (JC (l:=[0,2,33]) (zE (n:=3) (E.ob 2) rfl) dl d.x.op) ?_⟩;rintro _ w5 rfl F;refine⟨_,rfl,?_⟩;have G:∀b:Bool,fa d.x=b->oL (xs l) d.x=if b=true then 0 else 1:=λb W=>by unfold oL;rw[C,j,W];rfl
   exact abA (n:=d.x) (bn (λq=>⟨by rw[G _ q];rfl,F.fr⟩) (λq=>⟨by rw[G _ q];rfl,F.fr⟩)) _ _ (Lu d.x.op).1 (Lu d.x.op).2
  |succ m ih=>
   intro i h e hi C j y;have B:d.x.kids[i]? =some (d.x.kids[i]'io):=aY io;rw[dw (by omega:i<d.x.kids.length),List.all_cons]at j;generalize d.x.kids[i]'io=x at B j;have bad:dI (xs l) x=false->(Ending.returned (.i 1)=ad (.i (oL (xs l) d.x))/\af w e):=λhx=>⟨by unfold oL;rw[j,hx];simp,y.fr⟩;have J:bF e d.ks d.x.kids:=y.getD 1;refine xm.bS (aR (a5 io) ⟨io,io,J.cell B io λp hp Y=>⟨x,Y,aT (λS=>bad ?_) (λS=>⟨io,io,J.cell B io λp' ab Z=>⟨x,Z,aT (λT=>bad ?_) (λT=>?_)⟩⟩)⟩⟩)
   .unfold dI;rw[a2 io];rfl
   .unfold dI;rw[a2 (show ¬x<((xs l).length:Int)by rw[L];omega)];simp
   .rw [bm _ io];refine ih (i+1) h e io C ?_ y;rw[j];unfold dI;rw[a5 (show 0<=x by omega),a5 (show x<((xs l).length:Int)by rw[L];omega)];rfl
 refine xm.aq ((xK q hd).ax λh e Q=>Q.ae λM z=>z.av (Jl d.x.op M) ?_);rintro _ N rfl A;refine⟨_,rfl,ct (λK=>⟨?_,A.fr⟩) (λaa=>?_)⟩
 .unfold oL;rw[beq_eq_false_iff_ne.2 (by rw[H]at K;exact K)];rfl
 .exact loop d.x.kids.length 0 h N io (by rw[aa,H];simp) gs A
def zp(g:List Nx):Prop:=∀d∈g,d.op=0->∀e∈g,e.op=0->d.tx=e.tx->d.st=e.st
def wi(n d:Nx):Bool:=ak (d.op=0/\d.tx=n.tx/\d.st≠n.st)
def H6{t:ByteArray}{s:aM}:∀{g:List Nx},ih g t=some s->∃d∈g,d.op=0/\d.tx=t/\d.st=s
 |d::g,e=>by
  unfold ih at e;split at e
  .grind
  .obtain ⟨h,j,e⟩:=H6 e
   grind
def UQ{t:ByteArray}:∀{g:List Nx},ih g t=none->∀d∈g,d.op=0->d.tx≠t
 |a::g,e,d,h,j,k=>by
  unfold ih at e;split at e
  .cases e
  .rename_i q;rcases aF.1 h with rfl|h
   .grind
   .exact UQ e d h j k
def UE{g:List Nx}(A:zp g)(n:Nx):rE g n=g.any (wi n):=by
 unfold rE;cases q:ih g n.tx with
 |none=>
  symm;rw[List.any_eq_false];intro e h d;have d:=e4 d;exact UQ q e h d.1 d.2.1
 |some s=>
  obtain⟨e,h,w,x,y⟩:=H6 q;by_cases j:s=n.st
  .simp only[j,decide_true,Bool.not_true];symm;rw[List.any_eq_false];intro k z d;have d:=e4 d;exact d.2.2 ((A k z d.1 e h w (d.2.1.trans x.symm)).trans (y.trans j))
  .simp only[j,decide_false,Bool.not_false];symm;rw[List.any_eq_true];exact⟨e,h,a5 ⟨w,x,λk=>j (y.symm.trans k)⟩⟩
def abV(n:Int)(h:0<=n)(j:n<64):aB .u64 (1 *2^(min (a0 n) (IntKind.bits .u64)))=((2^n.toNat:Nat):Int):=by
 have d:min (a0 n) (IntKind.bits .u64)=n.toNat:=by show min n.toNat 64=_;omega
 have e:(2:Nat)^n.toNat<=2^63:=Nat.pow_le_pow_right io io;rw[d,Int.one_mul,show((2:Int)^n.toNat)=((2^n.toNat:Nat):Int)from by grind];generalize(2:Nat)^n.toNat=m at e;exact IntWalk.u64_in _ io
abbrev gG(x:aM×Int):cW:=ad (.tuple #[dg x.1,.i x.2])
def wm{s:aM}(d:br s=true)(e:s.k=0):1<=s.n/\s.n<=64/\s.x=0:=by
 unfold br at d
 grind
def nC{s:aM}(d:br s=true):0<=s.n/\s.n<=64/\0<=s.x/\s.x<=16/\0<=s.k/\s.k<=3:=by
 unfold br at d
 grind
def W2{w:I}{s:Sl}{l:List Nd}{d:Nd}(B:GP w s l)(hd:d.P w)(hl:l.length<=dO)(h0:0<=d.x.op)(h3:d.x.op<=3)(hv:zp (xs l)):ai U Og #[s.v,d.v] w λr j=>r=gG (cb (xs l) d.x)/\af w j:=by
 have hn:=gx B;have az:(xs l).length=l.length:=by grind
 unfold dO at hl;have e0:d.x.op=0\/d.x.op=1\/d.x.op=2\/d.x.op=3:=io
 refine kQ.aq ((xK B hd).ax λA w1 H1=>H1.ax λy w2 W=>aw (λh2=>?_) (λh2=>?_))
 .refine aT (λhs=>W.ae λN K=>⟨?_,K.fr⟩) (λhs=>W.av (pF _ w2) ?_)
  .unfold cb;rw[ag h2,ag io];rfl
  .rintro _ N rfl K;refine⟨_,_,_,rfl,K.ae λY G=>⟨?_,G.fr⟩⟩;unfold cb;grind
 have D:cb (xs l) d.x=if d.x.op=0/\iS (bl d.x.tx)=false then(aX,6)else
   if br d.x.st=false then(aX,9)else
   if d.x.op=1/\d.x.st.k≠0\/d.x.op=3/\eg d.x.st=false then(aX,9)else
   if d.x.op=1/\mW d.x.u d.x.st.n=true then(aX,5)else
   if d.x.op=0/\(xs l).any (wi d.x)=true then(aX,8)else(d.x.st,0):=by unfold cb;rw[ab h2,UE hv]
 have S0:∀(nm:Bool) (N:I),nm=(!decide (d.x.op=0)||iS (bl d.x.tx))->O F0 w N [.g A,.g y] (ng s l d)->kQ.aV s A d.x.op d.ks d.x.n d.x.m d.x.u d.x.tx d.x.st.k d.x.st.n d.x.st.x y 0 0 0 nm N λr j=>r=gG (cb (xs l) d.x)/\af w j:=by
  intro nm N S K;refine eU (λE=>K.ae λY G=>⟨?_,G.fr⟩) (λF=>?_)
  .rw [E]at S;have S:=S.symm;simp only[Bool.or_eq_false_iff,Bool.not_eq_false',decide_eq_true_eq]at S;rw[D,ag S];rfl
  have ao:¬(d.x.op=0/\iS (bl d.x.tx)=false):=λhc=>by grind
  rw[ab ao]at D;refine K.av (acd d.x.st N) ?_;rintro _ Y rfl G;refine⟨_,rfl,Hp (λE=>G.ae λh z=>⟨?_,z.fr⟩) (λF=>?_)⟩
  .rw [D,ag E];unfold gk;rw[E];rfl
  rw[ab (by grind)]at D;have loop:∀(m i:Nat) (h:I),i+m=l.length->cb (xs l) d.x=(if d.x.op=0/\((xs l).drop i).any (wi d.x)=true then(aX,8)else(d.x.st,0))->O F0 w h [.g A,.g y] (ng s l d)->
    kQ.i2 s A d.x.op d.ks d.x.n d.x.m d.x.u d.x.tx d.x.st.k d.x.st.n d.x.st.x y 0 0 0 (i:Int) h λr j=>r=gG (cb (xs l) d.x)/\af w j:=by
   intro m;induction m with
   |zero=>
    intro i h hi J z;rw[dy io]at J;refine kQ.mR (aQ (a2 io) (z.ae λC q=>⟨?_,q.fr⟩))
    grind
   |succ m ih=>
    intro i h hi J z;have Q:l[i]? =some (l[i]'io):=aY io;have hx:(xs l).drop i=(l[i]'io).x::(xs l).drop (i+1):=by
     rw[dw (by omega:i<(xs l).length)]
     grind
    rw[hx,List.any_cons]at J;generalize l[i]'io=e at Q J;have next:∀C,O F0 w C [.g A,.g y] (ng s l d)->(d.x.op=0->wi d.x e.x=false)->kQ.lC s A d.x.op d.ks d.x.n d.x.m d.x.u d.x.tx d.x.st.k d.x.st.n d.x.st.x y 0 0 0 (i:Int) C λr j=>r=gG (cb (xs l) d.x)/\af w j:=by
     intro C q F;show kQ.i2 s A d.x.op d.ks d.x.n d.x.m d.x.u d.x.tx d.x.st.k d.x.st.n d.x.st.x y 0 0 0 (aB .i64 ((i:Int)+1)) C _;rw[bm _ io]
     grind
    have G5:GP h s l:=a8.1 (z.getD 0);refine kQ.mR (aR (a5 io) (aw (λho=>?_) (λho=>z.ae λC q=>next C q (λB=>absurd B ho))));refine eh G5 rfl Q λp hp _=>z.ae λC q=>?_;have c6:=xy (a8.1 (q.getD 0)) Q hp (rfl:((i:Int))=(i:Int));refine⟨_,c6.c0,aw (λT=>?_) (λT=>next C q λ_=>a2 λB=>T B.1)⟩;refine eh (a8.1 (q.getD 0)) rfl Q λp1 ar aj=>⟨_,aj.c5,BG (λF=>?_) (λF=>next C q λ_=>a2 λB=>F B.2.1)⟩;refine eh (a8.1 (q.getD 0)) rfl Q λp2 ay aa=>⟨_,_,_,aa.s0,aa.s1,aa.s2,vW (λE=>q.ae λw7 H7=>⟨?_,H7.fr⟩) (λap=>next C q λ_=>a2 λB=>B.2.2 ap)⟩;rw[J,ag ⟨ho,by rw[show wi d.x e.x=true from a5 ⟨T,F,E⟩];rfl⟩];rfl
  have Z:∀h:I,cb (xs l) d.x=(if d.x.op=0/\(xs l).any (wi d.x)=true then(aX,8)else(d.x.st,0))->O F0 w h [.g A,.g y] (ng s l d)->
    kQ.fB s A d.x.op d.ks d.x.n d.x.m d.x.u d.x.tx d.x.st.k d.x.st.n d.x.st.x y 0 0 0 h λr j=>r=gG (cb (xs l) d.x)/\af w j:=λh J z=>loop l.length 0 h io J z
  have S1:∀(a:Bool) (h:I),a=eg d.x.st->O F0 w h [.g A,.g y] (ng s l d)->kQ.bg s A d.x.op d.ks d.x.n d.x.m d.x.u d.x.tx d.x.st.k d.x.st.n d.x.st.x y 0 0 0 a h λr j=>r=gG (cb (xs l) d.x)/\af w j:=by
   rintro a h rfl z;have bad:(d.x.op=1/\d.x.st.k≠0\/d.x.op=3/\eg d.x.st=false)->kQ.bH y 0 0 0 h λr j=>r=gG (cb (xs l) d.x)/\af w j:=λH=>z.ae λC q=>⟨by rw[D,ag H];rfl,q.fr⟩;have S3:¬(d.x.op=1/\d.x.st.k≠0\/d.x.op=3/\eg d.x.st=false)->kQ.cG s A d.x.op d.ks d.x.n d.x.m d.x.u d.x.tx d.x.st.k d.x.st.n d.x.st.x y 0 0 0 h λr j=>r=gG (cb (xs l) d.x)/\af w j:=λH=>by
    rw[ab H]at D;refine aw (λL=>?_) (λL=>Z h (by grind) z);have M:d.x.st.k=0:=io
    obtain⟨v1,v2,_⟩:=wm F M;have ew:aB .u64 d.x.st.n=d.x.st.n:=IntWalk.u64_in _ io;refine aT (λac=>⟨io,?_⟩) (λac=>Z h (by rw[D,ab];rintro⟨_,H⟩;unfold mW at H;grind) z);rw[ew,abV _ io ac];have hp:((2^d.x.st.n.toNat:Nat):Int)=(2:Int)^d.x.st.n.toNat:=by grind
    rw[hp];refine aT (λam=>z.ae λC q=>⟨?_,q.fr⟩) (λam=>Z h ?_ z)
    .rw [D,ag ⟨L,by unfold mW;grind⟩];rfl
    .rw [D,ab];rintro⟨_,H⟩;unfold mW at H
     grind
   have ah:¬(d.x.op=1/\d.x.st.k≠0)->bD (d.x.op==3) (bD (!eg d.x.st) (kQ.bH y 0 0 0 h λr j=>r=gG (cb (xs l) d.x)/\af w j) (kQ.cG s A d.x.op d.ks d.x.n d.x.m d.x.u d.x.tx d.x.st.k d.x.st.n d.x.st.x y 0 0 0 h λr j=>r=gG (cb (xs l) d.x)/\af w j)) (kQ.cG s A d.x.op d.ks d.x.n d.x.m d.x.u d.x.tx d.x.st.k d.x.st.n d.x.st.x y 0 0 0 h λr j=>r=gG (cb (xs l) d.x)/\af w j):=λM=>
    aw (λh3=>eU (λE=>bad (.inr ⟨h3,E⟩)) (λF=>S3 (by grind))) (λh3=>S3 io)
   exact aw (λL=>ct (λM=>bad (.inl ⟨L,M⟩)) (λM=>ah (λB=>B.2 M))) (λL=>ah (λB=>L B.1))
  refine aw (λan=>S1 true Y ?_ G) (λan=>S1 _ Y ?_ G)
  .unfold eg;grind
  .unfold eg;grind
 refine ct (λT=>S0 true w2 ?_ W) (λT=>W.av (Wz d.x.tx w2) ?_)
 .grind
 grind
def Cd{s:aM}(d:(s.k=0/\1<=s.n/\s.n<=64/\s.x=0)\/(s.k=1/\0<=s.n/\s.n<=64/\s.x=0)\/(s.k=2/\1<=s.n/\s.n<=64/\1<=s.x/\s.x<=16)\/(s.k=3/\0<=s.n/\s.n<=64/\1<=s.x/\s.x<=16)):br s=true:=by
 unfold br
 grind
def UO{s:aM}:br s=true↔(s.k=0/\1<=s.n/\s.n<=64/\s.x=0)\/(s.k=1/\0<=s.n/\s.n<=64/\s.x=0)\/(s.k=2/\1<=s.n/\s.n<=64/\1<=s.x/\s.x<=16)\/(s.k=3/\0<=s.n/\s.n<=64/\1<=s.x/\s.x<=16):=by
 refine⟨λd=>?_,Cd⟩;unfold br at d
 grind
structure rV(g:List Nx)(n:Nx):Prop where
 kl:b5 n.op=(n.kids.length:Int)
 ki:∀k∈n.kids,0<=k/\k<(g.length:Int)
 ok:fa n=true
def BQ{g:List Nx}{n:Nx}(e:(bA g n).2=0):rV g n:=by
 unfold bA at e;split at e
 .cases e
 .rename_i d;simp only[Bool.and_eq_false_iff,not_or,Bool.not_eq_false,beq_iff_eq]at d;refine⟨d.1.1,λj h=>?_,d.2⟩;have:=dS.1 d.1.2 j h;unfold dI at this
  grind
def Mr{g:List Nx}{n:Nx}(k:∀e∈g,br e.st=true)(h:∀d∈n.kids,0<=d/\d<(g.length:Int)){i:Nat}(hi:i<n.kids.length):br (bf g n i)=true:=by
 have j:=h _ (List.getElem_mem hi);unfold bf
 grind
def Yl{x:aM}(e:br x=true)(d:eg x=true):br (iN x)=true:=by
 rw[UO]at e;unfold eg at d;simp only[Bool.or_eq_true,beq_iff_eq]at d;unfold iN;refine Cd ?_;split
 .show (0=0/\1<=x.n/\x.n<=64/\0=0)\/_;omega
 .right;left;show(1:Int)=1/\0<=x.n/\x.n<=64/\(0:Int)=0;omega
def pE{n:Int}(d:1<=n)(e:n<=64):br (aO n)=true:=Cd (.inl ⟨rfl,d,e,rfl⟩)
def yL{n:Int}(d:0<=n)(e:n<=64):br (dt n)=true:=Cd (.inr (.inl ⟨rfl,d,e,rfl⟩))
def adN{g:List Nx}{n:Nx}(N:∀K∈g,br K.st=true)(e:(bA g n).2=0):br (bA g n).1=true:=by
 have C:=BQ e;have F:∀i:Nat,(i:Int)<b5 n.op->br (bf g n i)=true:=λi Q=>Mr N C.ki (by have:=C.kl;omega);unfold bA at e ⊢;split at e
 .cases e
 rename_i G;rw[ab G];split at e
 .rename_i E;rw[ag E];unfold cb at e ⊢;split at e
  .rename_i A;rw[ag A];split at e
   .cases e
   .rename_i M;rw[ab M];exact yL io io
  grind
 rename_i E;rw[ab E];split at e
 .cases e
 rename_i d;rw[ab d];split at e
 .cases e
 rename_i h;rw[ab h];split at e
 .cases e
 rename_i H;rw[ab H];simp only[Bool.not_eq_false]at d h;have L:n.op<=34:=by
  rcases Int.lt_or_le 34 n.op with e|e
  .have:=C.kl;unfold b5 at this;omega
  omega
 generalize J:bf g n 0=x at *;generalize O:bf g n 1=y at *;generalize P:bf g n 2=z at *;have j:br x=true:=by rw[<-J];exact F 0 (by unfold b5;omega)
 have B:2<=b5 n.op->br y=true:=λe=>by grind
 have D:b5 n.op=3->br z=true:=λe=>by grind
 obtain⟨op,kids,w,m,u,S,st⟩:=n;simp only at *;clear J O P F C G H;rcases vy io L with rfl|rfl|rfl|rfl|rfl|rfl|rfl|rfl|rfl|rfl|rfl|rfl|rfl|rfl|rfl|rfl|rfl|rfl|rfl|rfl|rfl|rfl|rfl|rfl|rfl|rfl|rfl|rfl|rfl|rfl|rfl|rfl|rfl|rfl|rfl
 iterate 4 omega
 all_goals first |(have B:=B dl)|skip
 all_goals first |(have D:=D dl)|skip
 iterate 12 exact j
 iterate 3 exact pE io io
 .show br (if y.k=1 then dt (if y.n<z.n then z.n else y.n)else y)=true;split
  .rename_i F;have d:(ak (x=aO 1)&&(ak (y=z)||(y.k==1&&z.k==1)))=true:=d;have q:=nC B;have A:=nC D;exact yL io io
  omega
 .have d:(x.k==0&&y.k==0)=true:=d;have h:ak (x.n+y.n<=64)=true:=h;simp only[bd,beq_iff_eq]at d;have q:=wm j d.1;have A:=wm B d.2;exact pE io (e4 h)
 .have d:(x.k==0)=true:=d;have h:(ak (0<=m)&&ak (m<=w)&&ak (w<x.n))=true:=h;simp only[bd,decide_eq_true_eq]at h;have q:=wm j (eq_of_beq d);show br (aO (w - m+1))=true;exact pE io io
 iterate 2
  .have d:(x.k==0)=true:=d;have h:(ak (1<=w)&&ak (w<=64 - x.n))=true:=h;simp only[bd,decide_eq_true_eq]at h;have q:=wm j (eq_of_beq d);show br (aO (x.n+w))=true;exact pE io io
 .have d:(eg x&&ak (y=aO x.x))=true:=d;simp only[bd]at d;exact Yl j d.1
 .exact j
 .have d:(eg x&&ak (x=y))=true:=d;simp only[bd]at d;have q:=d.1;unfold eg at q;simp only[Bool.or_eq_true,beq_iff_eq]at q;rw[UO]at j;exact pE io io
 .exact pE io io
 .exact pE io io
 .have h:ak (x.n+y.n<=64)=true:=h;have q:=nC j;have A:=nC B;exact yL io (e4 h)
 .exact j
 .exact pE io io
 .have h:ak (x.n+z.n<=64)=true:=h;have q:=nC j;have A:=nC D;exact yL io (e4 h)
 .exact pE io io
 .exact yL io io
def Vg.val{g:List Nx}(h:Vg g):∀e∈g,br e.st=true:=by
 induction h with
 |nil=>simp
 |snoc q j w k=>
  intro e d;rcases aP.1 d with d|d
  .grind
  .simp only[aF,aZ,a7]at d;subst d;have:=adN k (by rw[j])
   grind
def var_eq{g k:List Nx}{a b:Nx}(e:rV g a)(x:rV k b)(d:a.op=0)(q:b.op=0)(H:a.tx=b.tx)(G:a.st=b.st):a=b:=by
 have j:∀{g:List Nx} {a:Nx},rV g a->a.op=0->a.kids=[]/\a.n=0/\a.m=0/\a.u=0:=by
  intro g a e d;have w:=e.kl;have h:=e.ok;rw[d]at w;unfold fa at h;rw[d]at h;refine⟨List.eq_nil_of_length_eq_zero (by have:b5 0=0:=rfl;omega),?_⟩;have:mr 0=false:=rfl
  grind
 obtain⟨y,z,A,B⟩:=j e d;obtain⟨C,D,E,F⟩:=j x q;cases a;cases b
 grind
def Vg.ok{g:List Nx}(e:Vg g):∀i d,g[i]? =some d->bA (g.take i) d=(d.st,0):=by
 induction e with
 |nil=>grind
 |@snoc g n h k j q=>
  grind
def Vg.ry{g:List Nx}(e:Vg g):∀i d,g[i]? =some d->rV (g.take i) d:=λi d h=>BQ (by rw[e.ok i d h])
def Vg.kids{g:List Nx}(h:Vg g){i:Nat}{d:Nx}(hd:g[i]? =some d):∀e∈d.kids,0<=e/\e<(i:Int):=λe j=>by
 have k:=(h.ry i d hd).ki e j
 grind
def Vg.vars{g:List Nx}(k:Vg g):zp g:=by
 induction k with
 |nil=>intro h d;cases d
 |@snoc g n B e C z=>
  have one:∀h∈g,h.op=0->n.op=0->h.tx=n.tx->h.st=n.st:=by
   intro h d q w y;have D:rV g n:=BQ (by rw[e]);unfold bA at e;split at e
   .grind
   rw[ag (by omega:n.op<=3)]at e;unfold cb at e;rw[ab io]at e;split at e
   .grind
   split at e
   .grind
   split at e
   .omega
   split at e
   .omega
   split at e
   .grind
   rename_i x;simp only[w,true_and,iF]at x;rw[UE z,List.any_eq_false]at x;rcases decEq h.st n.st with k|k
   .exact absurd (a5 ⟨q,y,k⟩) (x h d)
   omega
  intro h d q A j w y;have d:=aP.1 d;have j:=aP.1 j;simp only[aF,aZ,a7]at d j;rcases d with d|d
  .rcases j with j|j
   .exact z h d q A j w y
   grind
  grind
def Ae{n:Nx}:∀{g:List Nx} {i:Nat},fo n g i=none->n∉g
 |[],i,_=>gs
 |j::g,i,d=>by
  unfold fo at d;split at d
  .cases d
  .rename_i h;simp only[aF,not_or];exact⟨λe=>h e.symm,Ae d⟩
def xE{n:Nx}:∀{g:List Nx} {i k:Nat},fo n g i=some k->i<=k/\g[k - i]? =some n
 |e::g,i,k,d=>by
  unfold fo at d;split at d
  .grind
  .have:=xE d
   grind
def hQ(ts:List BL):Nat:=(ts.map λt=>t.length+2).sum
def te(d:Nat)(a:Rx)(t:BL):(cK d a t).length<=t.length+2/\t.length<=(cK d a t).length:=by
 unfold cK
 grind
def EW(k:Int):∀(ts:List BL) (out:BL),(ke k out ts).length<=out.length+hQ ts/\out.length<=(ke k out ts).length
 |[],out=>by simp[ke,hQ]
 |t::ts,out=>by
  unfold ke;have d:=EW k ts ((if k=3/\eO (lM out)=true/\eO (gQ t 0)=true then out++[32]else out)++hn k++t);have h:(hn k).length<=1:=by unfold hn;grind
  have q:k=3->(hn k).length=0:=λe=>by unfold hn;grind
  have j:((if k=3/\eO (lM out)=true/\eO (gQ t 0)=true then out++[32]else out):BL).length<=out.length+2 - (hn k).length/\out.length<=((if k=3/\eO (lM out)=true/\eO (gQ t 0)=true then out++[32]else out):BL).length:=by grind
  simp only[bG]at d;have w:hQ (t::ts)=t.length+2+hQ ts:=by simp[hQ]
  omega
mutual
def y8:∀x:Rx,(a9 x).length+4<=18 *x.sz
 |.mk d lo j l=>by
  have q:∀c,(dC c).length<=4:=λc=>by unfold dC;grind
  have D:=tQ 3 l;have E:=tQ 4 l;have C:=tQ 0 l;have H:(sY d).length=4:=by unfold sY;grind
  have h:∀e,(kW (dk e l)).length<=hQ (dk e l):=λe=>by
   cases dk e l with
   |nil=>simp[kW]
   |cons t k=>simp[kW,hQ];omega
  have A:=h 3;have B:=h 4;have z:=h 0;have G:=q lo;have F:=q j;unfold Rx.sz;unfold a9;split
  .grind
  .split
   .simp;omega
   .split
    .grind
    .split
     .grind
     .split
      .grind
      .split
       .grind
       .have w:=tQ (cN (.mk d lo j l)+1) l;cases y:dk (cN (.mk d lo j l)+1) l with
        |nil=>show 0+4<=_;omega
        |cons t k=>
         rw[y]at w;have:=(EW d k t).1;simp only[hQ,List.map_cons,List.sum_cons]at w;simp only[hQ]at this;show(ke d t k).length+4<=_;omega
def tQ(d:Nat):∀l:List Rx,hQ (dk d l)<=18 *Rx.a4 l
 |[]=>by simp[dk,hQ]
 |a::l=>by have h:=y8 a;have e:=tQ d l;have j:=(te d a (a9 a)).1;unfold dk Rx.a4;simp only[hQ,List.map_cons,List.sum_cons]at e ⊢;omega
end
def A6{k:Int}{lo hi:UInt8}{l:List Rx}(d:jl (.mk k lo hi l)=true):0<=k/\k<=7/\(k=6\/k=7->l.length=1)/\oU l=true:=by
 unfold jl at d
 grind
def A7:∀{l:List Rx} {a:Rx},oU l=true->a∈l->jl a=true
 |b::l,a,d,e=>by
  unfold oU at d;rw[bd]at d;rcases aF.1 e with rfl|e
  .grind
  .exact A7 d.2 e
def Co:∀k:Rx,jl k=true->0<(a9 k).length
 |.mk d lo j l=>λq=>by
  obtain⟨w,x,y,e⟩:=A6 q;have z:∀c,0<(dC c).length:=λc=>by unfold dC;grind
  unfold a9;split
  .simp
  .split
   .simp
   .split
    .grind
    .split
     .simp
     .split
      .simp
      .split
       .grind
       .rename_i h
        match l,e,h with
        |[],_,h=>grind
        |a::m,e,h=>
         have:=Co a (A7 e gs);unfold dk;show 0<(ke _ _ _).length;have A:=(EW d (dk (cN (.mk d lo j (a::m))+1) m) (cK (cN (.mk d lo j (a::m))+1) a (a9 a))).2;have B:=(te (cN (.mk d lo j (a::m))+1) a (a9 a)).2;omega
def Du(x:J)(w:I)(G:0<=x.k)(H:x.k<=7)(B:x.P w):ai U Fu #[x.v] w λr d=>r=ad (.i (cN x.rx:Int))/\af w d:=by
 have L:=J.cz B.parts.1;have K:(J.ao x.l).length=x.l.length:=by rw[J.fW,List.length_map]
 have D:cN x.rx=if x.k=6 then 3 else if x.k<3\/x.k=7\/x.l.length<2 then 4 else if x.k=3 then 2 else if x.k=4 then 0 else 1:=by
  rw[J.fv];unfold cN
  grind
 rw[D];have four:∀d,af w d->x.k≠6->(x.k<3\/x.k=7\/x.l.length<2)->D9.aV d λr d=>r=ad (.i ((if x.k=6 then 3 else if x.k<3\/x.k=7\/x.l.length<2 then 4 else if x.k=3 then 2 else if x.k=4 then 0 else 1:Nat):Int))/\af w d:=λd f j F=>⟨by grind,f⟩;refine D9.aq ((gT B).ax λb y h=>aw (λj=>⟨by grind,h.fr⟩) (λj=>aT (λz=>four y h.fr j (.inl z)) (λz=>aw (λA=>four y h.fr j (.inr (.inl A))) (λA=>aT (λE=>four y h.fr j (.inr (.inr io))) (λE=>?_)))));refine h.nw λM _ e=>?_;have q:x.k=3\/x.k=4\/x.k=5:=io
 have C:(if x.k=6 then 3 else if x.k<3\/x.k=7\/x.l.length<2 then 4 else if x.k=3 then 2 else if x.k=4 then 0 else 1:Nat)=if x.k=3 then 2 else if x.k=4 then 0 else 1:=by grind
 rw[C];rcases q with q|q|q<;>rw[q]
 .exact ⟨dl,dl,lR ⟨2,e.ld 1 0,rfl,e.fr⟩⟩
 .exact ⟨dl,dl,lR ⟨0,e.ld 1 1,rfl,e.fr⟩⟩
 .exact ⟨dl,dl,lR ⟨1,e.ld 1 2,rfl,e.fr⟩⟩
def Mx(t:BL)(d:0<t.length):gQ t (t.length - 1)=lM t:=by
 unfold gQ lM
 grind
def aeb(l:List J)(i:Nat):Rx.a4 (J.ao (l.drop i))<=J.a4 l:=by
 rw[J.yC];induction l generalizing i with
 |nil=>simp
 |cons a l d=>
  cases i with
  |zero=>grind
  |succ i=>have:=d i;show _<=a.sz+J.a4 l;grind
abbrev VI(n:Nat):Prop:=∀(x:J) (d:Nat) (w:I),x.sz<=n->d<=1000->jl x.rx=true->x.P w->ai U q9 #[x.v,.i (d:Int)] w λr e=>r=ad (.string (ba (cK d x.rx (a9 x.rx))))/\af w e
def Jt:∀n:Nat,n<=1000000->VI n
 |0,_=>λx F w A _ _ _=>absurd A (by have:=J.nr x;omega)
 |n+1,a4=>by
  have ih:=Jt n io;have core:∀(x:J) (F:Nat) (w:I),x.sz<=n+1->¬cN x.rx<F->jl x.rx=true->x.P w->ai U q9 #[x.v,.i (F:Int)] w λr w'=>r=ad (.string (ba (a9 x.rx)))/\af w w':=by
   intro x F w A bj ac px;have hs:=J.iW x;have hl:=J.gn x.l;have Y:=J.cz px.parts.1;have aj:=ac;rw[J.fv]at aj;obtain⟨k0,k7,aM,bh⟩:=A6 aj;have aL:(J.ao x.l).length=x.l.length:=by rw[J.fW,List.length_map]
   rw[aL]at aM;have aK:∀a∈x.l,jl a.rx=true:=λa j=>A7 bh (by rw[J.fW];exact List.mem_map.2 ⟨a,j,rfl⟩);have bb:∀a:J,a.sz<=1000000->(a9 a.rx).length<=18000000:=λa j=>by have:=y8 a.rx;rw[J.ez]at this;omega
   have aA:∀(a:J) (F:Nat),a.sz<=1000000->(cK F a.rx (a9 a.rx)).length<=18000002:=λa F j=>by have D:=bb a j;have:=(te F a.rx (a9 a.rx)).1;omega
   have aX:∀c,(dC c).length<=4:=λc=>by unfold dC;split<;>simp
   let Q:aC:=λr w'=>r=ad (.string (ba (a9 x.rx)))/\af w w'
   have one:∀(a:J) (am:Nat) (H:I) (h:Nat) (K:ByteArray->I->Prop),am<=1000->a∈x.l->O F0 w H [.g h] [.tree x]->(∀B,O F0 w B [.g h] [.tree x]->K (ba (cK am a.rx (a9 a.rx))) B)->DD [h] q9 #[.agg #[.i a.k,.int .u8 (a.lo.toNat:Int),.int .u8 (a.hi.toNat:Int),a.s.v],.i (am:Int)] H K:=by intro a am H h K bk j G hK;have aH:=J.eP j;refine G.av (ih a am H io bk (aK a j) ((show x.P H from G.getD 0).parts.2.mem j)) ?_;rintro _ B rfl q;exact⟨_,rfl,hK B q⟩
   refine m0.aq ((gT px).ax λh H G=>?_);have G:O F0 w H [.g h] [.tree x]:=G;refine G.av (Du x H k0 k7 (G.getD 0)) ?_;rintro _ B rfl q;have N:a9 x.rx=a9 (.mk x.k x.lo x.hi (J.ao x.l)):=by rw[J.fv]
   refine⟨_,rfl,aQ (a2 io) (aw (λe=>⟨?_,q.fr⟩) (λS=>aw (λe=>⟨?_,q.fr⟩) (λZ=>aw (λT=>?_) (λT=>aw (λW=>?_) (λW=>aw (λaa=>?_) (λaa=>aT (λbi=>?_) (λbi=>?_)))))))⟩
   .rw [N];unfold a9;rw[ag e];rfl
   .rw [N];unfold a9;rw[ab S,ag e];rfl
   .have e2:a9 x.rx=if x.lo=x.hi then dC x.lo else 91::(dC x.lo++45::(dC x.hi++[93])):=by rw[N];unfold a9;rw[ab S,ab Z,ag T]
    refine aw (λa3=>q.av (Dt x.lo B) ?_) (λa3=>q.ae λC L=>L.av (Dt x.lo C) ?_)
    .rintro _ z rfl y;exact⟨_,rfl,by rw[e2,ag (UInt8.toNat_inj.1 io)],y.fr⟩
    .rintro _ w6 rfl H6;have D:=aX x.lo;have h2:=aX x.hi;have s0:a' #[91]++ba (dC x.lo)++a' #[45]=ba (91::dC x.lo++[45]):=by show ba [91]++ba (dC x.lo)++ba [45]=_;rw[bT,bT];rfl
     refine⟨_,rfl,?_,?_,H6.av (Dt x.hi w6) ?_⟩
     .rw [be];show ¬(((1+_:Nat):Int)>9223372036854775807);omega
     .have:(a' #[91]++ba (dC x.lo)).size=1+(dC x.lo).length:=by show(ba [91]++_).size=_;rw[bT,be];simp;omega
      rw[this];show ¬(((_+1:Nat):Int)>9223372036854775807);omega
     rintro _ w7 rfl H7;rw[s0];have:ba (91::dC x.lo++[45]++dC x.hi)++a' #[93]=ba (91::dC x.lo++[45]++dC x.hi++[93]):=by show _++ba [93]=_;rw[bT]
     refine⟨_,rfl,?_,?_,?_,H7.fr⟩
     .rw [be,be];simp only[bG,cC,jm];show ¬(((_:Nat):Int)>9223372036854775807);omega
     .rw [bT,be];simp only[bG,cC,jm];show ¬(((_+1:Nat):Int)>9223372036854775807);omega
     .rw [bT,this,e2,ab (λA=>a3 (by rw[A]))];simp
   .have D:=aM (.inl W);have e6:a9 x.rx=33::kW (dk 3 (J.ao x.l)):=by rw[N];unfold a9;rw[ab S,ab Z,ab T,ag W]
    match gR:x.l,D with
    |[a],_=>
     have j:a∈x.l:=by rw[gR];simp
     have aH:=J.eP j;refine km (show x.P B from q.getD 0) (k:=0) rfl (by rw[gR];rfl) (one a 3 B h _ io j q λz y=>⟨?_,?_,y.fr⟩)
     .have:=aA a 3 io;rw[be];show ¬(((1+_:Nat):Int)>9223372036854775807);omega
     .have:a' #[33]++ba (cK 3 a.rx (a9 a.rx))=ba (33::cK 3 a.rx (a9 a.rx)):=by show ba [33]++_=_;rw[bT];rfl
      rw[this,e6,gR];rfl
   .have D:=aM (.inr aa);have e7:a9 x.rx=kW (dk 4 (J.ao x.l))++[42]:=by rw[N];unfold a9;rw[ab S,ab Z,ab T,ab W,ag aa]
    match gR:x.l,D with
    |[a],_=>
     have j:a∈x.l:=by rw[gR];simp
     have aH:=J.eP j;refine km (show x.P B from q.getD 0) (k:=0) rfl (by rw[gR];rfl) (one a 4 B h _ io j q λz y=>⟨?_,?_,y.fr⟩)
     .have:=aA a 4 io;rw[be];show ¬(((_+1:Nat):Int)>9223372036854775807);omega
     .have:ba (cK 4 a.rx (a9 a.rx))++a' #[42]=ba (cK 4 a.rx (a9 a.rx)++[42]):=by show _++ba [42]=_;rw[bT]
      rw[this,e7,gR];rfl
   .
    have e:x.k=3\/x.k=4\/x.k=5:=io
    have ef:a9 x.rx=sY x.k++(kW (dk 0 (J.ao x.l))++[41]):=by rw[N];unfold a9;rw[ab S,ab Z,ab T,ab W,ab aa,ag (by rw[aL];omega)]
    have fin:∀(t:BL) (z:I),t.length<=18000002->kW (dk 0 (J.ao x.l))=t->O F0 w z [.g h] [.tree x]->m0.aV h x.k x.lo.toNat x.hi.toNat x.s (ba t) z Q:=by
     intro t z ht E y;dsimp only[m0.aV,ah];refine y.nw λw4 _ M=>?_;have key:∀(u:BL),u.length=4->sY x.k=u->¬((((ba u).size+(ba t).size:Nat):Int)>IntKind.i64.max)/\¬((((ba u++ba t).size+(a' #[41]).size:Nat):Int)>IntKind.i64.max)/\Q (ad (.string ((ba u++ba t)++(a' #[41])))) w4:=by
      intro u hu a4;refine⟨?_,?_,?_,M.fr⟩
      .rw [be,be];show ¬(((_:Nat):Int)>9223372036854775807);omega
      .rw [bT,be];simp only[bG];show ¬(((_+1:Nat):Int)>9223372036854775807);omega
      .have:ba u++ba t++a' #[41]=ba (u++(t++[41])):=by show _++_++ba [41]=_;rw[bT,bT];simp
       rw[this,ef,a4,E]
     rcases e with e|e|e<;>rw[e]
     .exact ⟨dl,dl,lR ⟨ba [99,97,116,40],M.ld 1 0,key _ rfl (by rw[e];rfl)⟩⟩
     .exact ⟨dl,dl,lR ⟨ba [97,108,116,40],M.ld 1 1,key _ rfl (by rw[e];rfl)⟩⟩
     .exact ⟨dl,dl,lR ⟨ba [97,108,108,40],M.ld 1 2,key _ rfl (by rw[e];rfl)⟩⟩
    refine aw (λD=>?_) (λD=>?_)
    .match gR:x.l with
     |[]=>rw[gR]at Y;simp at Y;omega
     |_::_::_=>rw[gR]at Y;simp at Y;omega
     |[a]=>
      have j:a∈x.l:=by rw[gR];simp
      have aH:=J.eP j;refine km (show x.P B from q.getD 0) (k:=0) rfl (by rw[gR];rfl) (one a 0 B h _ io j q λz y=>?_);exact fin _ z (aA a 0 io) (by rw[gR];rfl) y
    .have:x.l=[]:=List.length_eq_zero_iff.1 io;exact fin [] B gs (by rw[this];rfl) q
   .
    have e:x.k=3\/x.k=4\/x.k=5:=io
    match gR:x.l with
    |[]=>rw[gR]at Y;simp at Y;omega
    |a::m=>
    have j:a∈x.l:=by rw[gR];simp
    have aH:=J.eP j;have bC:(hn x.k).length<=1:=by unfold hn;split<;>(try split)<;>simp
    have ef:a9 x.rx=ke x.k (cK (cN x.rx+1) a.rx (a9 a.rx)) (dk (cN x.rx+1) (J.ao (x.l.drop 1))):=by
     have e1:a9 x.rx=Al x.k (dk (cN x.rx+1) (J.ao x.l)):=by
      conv=>lhs;rw[N];unfold a9;rw[ab S,ab Z,ab T,ab W,ab aa,ab (by rw[aL];omega)]
      rw[<-J.fv]
     rw[e1,gR];rfl
    have bu:cN x.rx<=4:=by rw[J.fv];unfold cN;dsimp only;repeat (first |omega|split)
    have loop:∀(d i:Nat) (out:BL) (z:I),i+d=x.l.length->1<=i->0<out.length->out.length+hQ (dk (cN x.rx+1) (J.ao (x.l.drop i)))<=40000000->a9 x.rx=ke x.k out (dk (cN x.rx+1) (J.ao (x.l.drop i)))->O F0 w z [.g h] [.tree x]->
      m0.cq h x.k x.lo.toNat x.hi.toNat x.s (ba (hn x.k)) (cN x.rx:Int) (ba out) (i:Int) z Q:=by
     intro d;induction d with
     |zero=>
      intro i out z bg D a6 aG E y;refine m0.dF (aQ (a2 io) ⟨?_,y.fr⟩);rw[E,dy io];rfl
     |succ d bl=>
      intro i out z bg D a6 aG E y;have hg:x.l[i]? =some (x.l[i]'io):=aY io;have a1:x.l.drop i=(x.l[i]'io)::x.l.drop (i+1):=dw io;generalize x.l[i]'io=c at hg a1;have hc:=aD hg;have bE:=J.eP hc;rw[a1]at E aG;have aG:out.length+((cK (cN x.rx+1) c.rx (a9 c.rx)).length+2+hQ (dk (cN x.rx+1) (J.ao (x.l.drop (i+1)))))<=40000000:=by
       have:hQ (dk (cN x.rx+1) (J.ao (c::x.l.drop (i+1))))=(cK (cN x.rx+1) c.rx (a9 c.rx)).length+2+hQ (dk (cN x.rx+1) (J.ao (x.l.drop (i+1)))):=by simp[J.ao,dk,hQ]
       omega
      have E:a9 x.rx=ke x.k ((if x.k=3/\eO (lM out)=true/\eO (gQ (cK (cN x.rx+1) c.rx (a9 c.rx)) 0)=true then out++[32]else out)++hn x.k++cK (cN x.rx+1) c.rx (a9 c.rx)) (dk (cN x.rx+1) (J.ao (x.l.drop (i+1)))):=by rw[E];rfl
      have bc:0<(cK (cN x.rx+1) c.rx (a9 c.rx)).length:=by have D:=Co c.rx (aK c hc);have:=(te (cN x.rx+1) c.rx (a9 c.rx)).2;omega
      have aJ:aB .i64 ((cN x.rx:Int)+1)=((cN x.rx+1:Nat):Int):=bm _ io;refine m0.dF (aR (a5 io) (km (show x.P z from y.getD 0) rfl hg ?_));rw[aJ];refine one c (cN x.rx+1) z h _ io hc y λw4 M=>?_;generalize cK (cN x.rx+1) c.rx (a9 c.rx)=t at E aG bc;have go:∀(o:BL) (C:I),o.length<=out.length+1->out.length<=o.length->o.length+(hn x.k).length<=out.length+1->a9 x.rx=ke x.k (o++hn x.k++t) (dk (cN x.rx+1) (J.ao (x.l.drop (i+1))))->O F0 w C [.g h] [.tree x]->
        m0.bH h x.k x.lo.toNat x.hi.toNat x.s (ba (hn x.k)) (cN x.rx:Int) (ba o) (i:Int) (ba t) C Q:=by
       intro o C bx bz bA bf L;refine⟨?_,?_,?_⟩
       .rw [be,be];show ¬(((_:Nat):Int)>9223372036854775807);omega
       .rw [bT,be,be];simp only[bG];show ¬(((_:Nat):Int)>9223372036854775807);omega
       .show m0.cq _ _ _ _ _ _ _ _ _ _ _;rw[bT,bT,bm _ io];refine bl (i+1) (o++hn x.k++t) C io io (by simp only[bG];omega) (by simp only[bG];omega) bf L
      have aN:∀C,O F0 w C [.g h] [.tree x]->¬(x.k=3/\eO (lM out)=true/\eO (gQ t 0)=true)->m0.bH h x.k x.lo.toNat x.hi.toNat x.s (ba (hn x.k)) (cN x.rx:Int) (ba out) (i:Int) (ba t) C Q:=λC L A=>go out C io io io (by rw[ab A]at E;exact E) L;have eo:aB .i64 ((((ba out).size:Nat):Int) - 1)=((out.length - 1:Nat):Int):=by rw[be,bo _ io];omega
      rw[eo];refine aw (λar=>⟨io,lM out,?_,M.av (JL (lM out) w4) ?_⟩) (λar=>aN w4 M (λA=>ar A.1))
      .rw [bR,g3 (s:=ba out) (by rw[be];omega),j9,Mx out a6]
      rintro _ C rfl L;refine⟨_,rfl,bn (λay=>⟨io,gQ t 0,?_,L.av (JL (gQ t 0) C) ?_⟩) (λay=>aN C L (λA=>by rw[A.2.1]at ay;cases ay))⟩
      .rw [show a0 0=0 from rfl,g3 (s:=ba t) (by rw[be];omega),j9]
      rintro _ w6 rfl H6;have s3:(hn x.k).length=0:=by unfold hn;rw[ag ar];rfl
      refine⟨_,rfl,bn (λaz=>⟨?_,?_⟩) (λaz=>aN w6 H6 (λA=>by rw[A.2.2]at az;cases az))⟩
      .rw [be];show ¬(((_+1:Nat):Int)>9223372036854775807);omega
      .have a8:ba out++a' #[32]=ba (out++[32]):=by show _++ba [32]=_;rw[bT]
       rw[a8];refine go (out++[32]) w6 gs gs (by simp;omega) ?_ H6;rw[ag ⟨ar,ay,az⟩]at E;exact E
    refine q.nw λaO _ ap=>?_;have aU:O F0 w aO [.g h] [.tree x]:=ap.take 1;have rest:∀(u:BL),hn x.k=u->XD [h] Fu #[.agg #[.i x.k,.int .u8 (x.lo.toNat:Int),.int .u8 (x.hi.toNat:Int),x.s.v]] aO λt90 an=>oh x.s 0 λbp=>jM an (bp.add (a0 0 *4)) λbq br bs bt=>DD [h] q9 #[.agg #[.i bq,.int .u8 br,.int .u8 bs,bt.v],.i (aB .i64 (t90+1))] an λt97 aS=>m0.cq h x.k x.lo.toNat x.hi.toNat x.s (ba u) t90 t97 1 aS Q:=by
     intro u hu;refine aU.av (Du x aO k0 k7 (aU.getD 0)) ?_;rintro _ an rfl aW;refine⟨_,rfl,km (show x.P an from aW.getD 0) (k:=0) rfl (by rw[gR];rfl) ?_⟩;have aJ:aB .i64 ((cN x.rx:Int)+1)=((cN x.rx+1:Nat):Int):=bm _ io;rw[aJ];refine one a (cN x.rx+1) an h _ io j aW λaS a7=>?_;rw[<-hu];refine loop (x.l.length - 1) 1 _ aS io io ?_ ?_ ef a7
     .have D:=Co a.rx (aK a j);have:=(te (cN x.rx+1) a.rx (a9 a.rx)).2;omega
     .have D:=aA a (cN x.rx+1) io;have h2:=tQ (cN x.rx+1) (J.ao (x.l.drop 1));have h3:=aeb x.l 1;omega
    rcases e with e|e|e
    .exact ⟨by rw[e];decide,by rw[e];decide,lR ⟨ba [],by rw[e];exact ap.ld 1 0,rest _ (by rw[e];rfl)⟩⟩
    .exact ⟨by rw[e];decide,by rw[e];decide,lR ⟨ba [124],by rw[e];exact ap.ld 1 1,rest _ (by rw[e];rfl)⟩⟩
    .exact ⟨by rw[e];decide,by rw[e];decide,lR ⟨ba [38],by rw[e];exact ap.ld 1 2,rest _ (by rw[e];rfl)⟩⟩
  intro x F w A bj ac px;by_cases hb:cN x.rx<F
  .have aj:=ac;rw[J.fv]at aj;obtain⟨k0,k7,_,_⟩:=A6 aj;refine m0.aq ((gT px).ax λh H G=>G.av (Du x H k0 k7 (G.getD 0)) ?_);rintro _ B rfl q;refine⟨_,rfl,aR (a5 io) (q.av (core x 0 B A io ac (q.getD 0)) ?_)⟩;rintro _ z rfl y;have bv:(a9 x.rx).length<=18000000:=by have:=y8 x.rx;rw[J.ez]at this;omega
   have aI:a' #[40]++ba (a9 x.rx)++a' #[41]=ba (40::(a9 x.rx++[41])):=by show ba [40]++ba (a9 x.rx)++ba [41]=_;rw[bT,bT];simp
   refine⟨_,rfl,?_,?_,?_,y.fr⟩
   .rw [be];show ¬(((1+_:Nat):Int)>9223372036854775807);omega
   .have:(a' #[40]++ba (a9 x.rx)).size=1+(a9 x.rx).length:=by show(ba [40]++_).size=_;rw[bT,be];simp;omega
    rw[this];show ¬(((_+1:Nat):Int)>9223372036854775807);omega
   .rw [aI];unfold cK;rw[ag hb]
  .have:=core x F w A hb ac px;have aI:cK F x.rx (a9 x.rx)=a9 x.rx:=by unfold cK;rw[ab hb]
   rw[aI];exact this
def Js(x:J)(d:Nat)(w:I)(e:x.sz<=1000000)(h:d<=1000)(j:jl x.rx=true)(k:x.P w):ai U q9 #[x.v,.i (d:Int)] w λr q=>r=ad (.string (ba (cK d x.rx (a9 x.rx))))/\af w q:=Jt 1000000 (bw _) x d w e h j k
set_option maxHeartbeats 2000000
namespace Ce
abbrev P0:Ps:=[]
abbrev bg:=ah (ay U Tryz.f96 [] [1]) [0,1,1,1,3] P0
abbrev t1:=aj bg
abbrev bH:=ah t1 [0,1,1,1,4] P0
abbrev t2:=aj bH
abbrev cG:=ah t2 [5] P0
abbrev t3:=aj cG
abbrev aV:=ah t3 [3] [(1,.l [.I,.I,.I] cd),(3,.I),(4,.I),(5,.b)]
abbrev t4:=aj aV
def aq:=aA t4 PU [.a 3,.I,.I,.I]
end Ce
namespace o8
abbrev P0:Ps:=[]
abbrev S0:=ah (ay U Tryz.f95 [] []) [0,1,1,1,1] P0
abbrev t1:=aj S0
abbrev P1:Ps:=[(0,.st),(3,.I)]
def L1:=bq t1 [0,1,1,1,2] P1
abbrev t2:=bp L1
abbrev S4:=ah t2 [0,1,3,2,1,2,1,1,2] P0
abbrev t3:=aj S4
abbrev S5:=ah t3 [2,2,1,1,2] P1
abbrev t4:=aj S5
abbrev S3:=ah t4 [2,2,1,2,1,1,2] [(0,.st),(3,.I),(4,.Y),(5,.b)]
abbrev t5:=aj S3
abbrev S2:=ah t5 [1,2,1,2,1,1,2] [(0,.st),(3,.I),(4,.Y)]
abbrev t6:=aj S2
def iH:=bE t6 L1
def ok:=aA t6 PB [.st]
end o8
namespace yP
abbrev S1:=ah (ay U Tryz.f66 [] []) [3] [(0,.r),(3,.b),(4,.b),(5,.b),(6,.b)]
abbrev t1:=aj S1
abbrev S0:=ah t1 [0,1,1,1,1,1,2] [(0,.r),(3,.b),(4,.b),(5,.b)]
abbrev t2:=aj S0
abbrev S3:=ah t2 [0,1,7,1,1,1,2] [(0,.r),(4,.b),(5,.b),(6,.b)]
abbrev t3:=aj S3
abbrev S2:=ah t3 [2,1,1,1,2] [(0,.r),(3,.b),(4,.b),(5,.b),(6,.b),(10,.I)]
abbrev t4:=aj S2
def ok:=aA t4 Py [.r]
end yP
namespace Uj
def aq:=aA (ay U Tryz.f101 [] [2]) Px [.I]
end Uj
namespace Ut
def aq:=aA (ay U Tryz.f97 [] [2]) PQ [.I]
end Ut
namespace Ul
def aq:=aA (ay U Tryz.f100 [] [1]) PA [.a 3,.I,.I,.I]
end Ul
namespace Un
def aq:=aA (ay U Tryz.f103 [] [1]) PC [.a 3,.I,.I,.I]
end Un
namespace Uk
def aq:=aA (ay U Tryz.f98 [] [1]) Pz [.a 3,.I,.I,.I]
end Uk
namespace Uf
def aq:=aA (ay U Tryz.f102 [] [2,3]) Pt [.a 3,.I,.I,.I,.a 3,.I,.I,.I]
end Uf
namespace Uq
def aq:=aA (ay U Tryz.f99 [] [3,6]) AW [.a 3,.I,.I,.I,.b,.b]
end Uq
namespace HR
abbrev S0:=ah (ay U Tryz.f67 [(7,lr 9)] []) [4] [(0,.r),(4,.r)]
abbrev t1:=aj S0
def ok:=aA t1 PO [.r,.f]
end HR
namespace HQ
abbrev aV:=ah (ay U Tryz.f68 [(14,lr 19)] [2]) [6] [(0,.r),(2,.l [.I,.I,.I] cd)]
abbrev t1:=aj aV
def aq:=aA t1 PL [.r]
end HQ
namespace HP
abbrev aV:=ah (ay U Tryz.f69 [(4,lr 8),(7,ls [1,0,2,3,4,5,6,7,8,9,10,11,12]),(9,ls [1,2,0,3,4,5,6,7,8]),(14,lr 14),(16,ls [0,1,2,3,4,6,12,13,14,15,16,17,5,7,8,9,10,11,18,19,20,21,22]),(18,ls [0,1,2,3,4,5,6,7,8,9,11,13,14,15,16,17,10,12,18,19,20,21,22,23,24,25,26,27,28,29,30,31,32,33,34,35,36,37,38,39,40,41,42]),(21,ls [0,1,2,3,4,5,6,8,10,11,12,13,14,7,9,15,16,17,18,19,20,21,22,23,24,25,26,27,28,29]),(22,lr 13)] [5,6,7,8,10]) [0,1,1,1,1,1,1] [(5,.l [.I,.I,.I] cd),(8,.l [.I,.I,.I] cd)]
abbrev t1:=aj aV
abbrev P0:Ps:=[(5,.l [.I,.I,.I] cd),(6,.l [.I,.I,.I] cd),(8,.l [.I,.I,.I] cd)]
abbrev bH:=ah t1 [0,1,3,1,1,1,1] P0
abbrev t2:=aj bH
abbrev fB:=ah t2 [2,1,7,1,1,1,1] [(5,.l [.I,.I,.I] cd),(6,.l [.I,.I,.I] cd),(7,.l [.I,.I,.I] cd),(8,.l [.I,.I,.I] cd),(10,.l [.I,.I,.I] cd)]
abbrev t3:=aj fB
abbrev rT:=ah t3 [0,1,13,1,1,1,1] [(0,.r),(5,.l [.I,.I,.I] cd),(8,.l [.I,.I,.I] cd)]
abbrev t4:=aj rT
abbrev lC:=ah t4 [2] P0
abbrev t5:=aj lC
abbrev P1:Ps:=[(0,.r),(5,.l [.I,.I,.I] cd),(6,.l [.I,.I,.I] cd),(7,.l [.I,.I,.I] cd),(8,.l [.I,.I,.I] cd),(14,.I)]
abbrev cG:=ah t5 [4,1,1,1,1] P1
abbrev t6:=aj cG
abbrev bg:=ah t6 [2,1,1,1,1] P1
abbrev t7:=aj bg
def aq:=aA t7 PK [.r,.a 3,.I,.I,.I,.a 3,.I,.I,.I,.a 3,.I,.I,.I]
end HP
namespace B1
abbrev bg:=ah (ay U Tryz.f70 [(2,ls [0,1,3,2,4,5,6,7,8,9,10,11,12,13,14]),(6,lr 10),(10,lr 18),(11,lr 12)] [5,6,7,8,10]) [5] [(0,.r),(5,.l [.I,.I,.I] cd),(7,.l [.I,.I,.I] cd),(8,.l [.I,.I,.I] cd),(10,.l [.I,.I,.I] cd),(11,.b)]
abbrev t1:=aj bg
abbrev aV:=ah t1 [4] [(0,.r),(5,.l [.I,.I,.I] cd),(6,.l [.I,.I,.I] cd),(7,.l [.I,.I,.I] cd),(8,.l [.I,.I,.I] cd),(10,.l [.I,.I,.I] cd)]
abbrev t2:=aj aV
def aq:=aA t2 PJ [.r,.a 3,.I,.I,.I,.a 3,.I,.I,.I,.a 3,.I,.I,.I]
end B1
namespace Us
def aq:=aA (ay U Tryz.f71 [(3,ls [1,0,2,3,4,5,6,7]),(5,ls [1,3,4,5,6,7,0,2,8,9,10,11,12,13,14,15,16,17,18,19]),(7,ls [0,1,2,3,4,6,12,13,14,15,16,17,5,7,8,9,10,11,18,19,20,21,22]),(9,lr 18),(11,ls [1,0,2,3,4,5,6,7,8,9,10,11]),(13,ls [0,1,2,3,4,6,16,17,18,19,20,21,5,7,8,9,10,11,12,13,14,15,22,23,24,25,26]),(15,ls [1,0,2,3,4,5,6,7,8])] [5,6,7,8]) PN [.r,.a 3,.I,.I,.I,.a 3,.I,.I,.I,.a 3,.I,.I,.I]
end Us
namespace rB
abbrev P0:Ps:=[(6,.l [.I,.I,.I] cd)]
abbrev aV:=ah (ay U Tryz.f42 [(1,lr 18)] [6,11]) [0,1,1,1,1] P0
abbrev t1:=aj aV
def cq:=bq t1 [0,1,1,1,3] [(0,.s),(2,.f),(4,.r),(6,.l [.I,.I,.I] cd),(8,.r),(34,.I),(35,.I)]
abbrev t2:=bp cq
abbrev bH:=ah t2 [0,1,1,1,2,2,2,2,1,1,3] P0
abbrev t3:=aj bH
abbrev cG:=ah t3 [8] [(6,.l [.I,.I,.I] cd),(11,.l [.I,.I,.I] cd),(12,.I)]
abbrev t4:=aj cG
def dF:=bE t4 cq
def aq:=aA t4 PI [.s,.a 9,.I,.s,.I,.I,.U,.st,.I,.I,.I,.f]
end rB
namespace tH
abbrev P0:Ps:=[(0,.st),(1,.r),(3,.l [.I,.I,.I] cd),(8,.I),(9,.I)]
def a1:=bq (ay U Tryz.f177 [] [3]) [0,1,1,1,1] P0
abbrev t1:=bp a1
abbrev bg:=ah t1 [3,2,1,1,1] P0
abbrev t2:=aj bg
def bS:=bE t2 a1
def aq:=aA t2 F6 [.st,.r]
end tH
namespace Ue
def aq:=aA (ay U Tryz.f145 [] [3,4]) Pp [.a 1,.s,.a 9,.I,.s,.I,.I,.U,.st,.I,.I,.I]
end Ue
namespace yG
def L0:=bq (ay U Tryz.f212 [(6,lr 9)] []) [0,1,1,1,2] [(0,.s),(1,.s),(12,.I),(13,.I)]
abbrev t1:=bp L0
def b':=bE t1 L0
def ok:=aA t1 Pe [.s,.s]
end yG
namespace Ur
def ok:=aA (ay U Tryz.f178 [(1,lr 76)] []) PG [.r,.r]
end Ur
namespace yS
def a1:=bq (ay U Tryz.f146 [] [2]) [0,1,1,1,1] [(1,.r),(2,.l [.s] nB),(8,.I),(9,.I)]
abbrev t1:=bp a1
def bS:=bE t1 a1
def aq:=aA t1 PH [.a 1,.s,.r]
end yS
namespace Tx
def ok:=aA (ay U Tryz.f147 [] []) O' [.s]
end Tx
namespace Ud
def aq:=aA (ay U Tryz.f123 [(14,lr 8)] [2,4,7]) Po [.a 1,.s,.a 9,.I,.s,.I,.I,.U,.st,.I,.I,.I]
end Ud
namespace tI
abbrev P0:Ps:=[(1,.l [.s] nB),(3,.s),(7,.I),(8,.I)]
def a1:=bq (ay U Tryz.f37 [] [1]) [0,1,1,1,2] P0
abbrev t1:=bp a1
abbrev bg:=ah t1 [3,2,1,1,2] P0
abbrev t2:=aj bg
def bS:=bE t2 a1
def aq:=aA t2 Pr [.a 1,.s]
end tI
namespace R3
def ok:=aA (ay U Tryz.f228 [(3,lr 9)] []) OW [.Y]
end R3
namespace Sm
def aq:=aA (ay U Tryz.f167 [] [2]) AV [.a 4,.I,.Y,.Y,.s,.I]
end Sm
namespace ru
def l6:=bq (ay U Tryz.f208 [(9,ls [0,1,5,6,2,3,4,7,8,9,10,11])] [1,9]) [0,1,1,1,7] [(1,.l [.I,.Y,.Y,.s] aS),(5,.st),(6,.I),(7,.st),(79,.s),(80,.I),(81,.I)]
abbrev t1:=bp l6
abbrev cG:=ah t1 [3,2,2,2,1,1,7] [(1,.l [.I,.Y,.Y,.s] aS),(5,.st),(6,.I),(7,.st),(10,.st),(79,.s),(80,.I),(81,.I)]
abbrev t2:=aj cG
def qK:=bE t2 l6
abbrev P0:Ps:=[(1,.l [.I,.Y,.Y,.s] aS),(4,.st),(5,.st),(6,.I)]
abbrev bg:=ah t2 [4] P0
abbrev t3:=aj bg
abbrev aV:=ah t3 [3] P0
abbrev t4:=aj aV
def aq:=aA t4 OU [.a 4,.I,.Y,.Y,.s]
end ru
namespace G5
def aq:=aA (ay U Tryz.f131 [] [1]) OS [.a 4,.I,.Y,.Y,.s]
end G5
namespace Um
def aq:=aA (ay U Tryz.f104 [] [3,6]) F8 [.st]
end Um
set_option maxHeartbeats 1000000
def Rn(c:UInt8):vG c=oX c:=by
 unfold vG oX
 grind
def TA(c:UInt8):k9 c=eO c:=rfl
def VT:(List.range 256).all (λn=>r3 .u8 (n:Int) 15==((n%16:Nat):Int))=true:=by kernel_rfl
def LR{n:Nat}(d:n<16):(a' #[48,49,50,51,52,53,54,55,56,57,97,98,99,100,101,102])[n]? =some (jb n):=by
 have:n=0\/n=1\/n=2\/n=3\/n=4\/n=5\/n=6\/n=7\/n=8\/n=9\/n=10\/n=11\/n=12\/n=13\/n=14\/n=15:=io
 (repeat' rcases this with rfl|this)<;>(try subst this)<;>rfl
def GA(c:UInt8)(w:I):ai U OW #[.int .u8 (c.toNat:Int)] w λr C=>r=ad (.string (ba (dC c)))/\af w C:=by
 have B:=c.toNat_lt;have k:O F0 w w [] []:=bM [] gs;refine R3.ok (k.call (JF c w) ?_);rintro _ D rfl j;refine⟨_,rfl,bn (λh=>?_) (λh=>?_)⟩
 .rw [Rn]at h;refine j.vu (λE _ q e=>?_);have d:Bytes E ⟨some (aa D.heap.size),3,3⟩ [39,c,39]:=qR (T:=eB) e rfl;refine⟨ba [39,c,39],r5 d,?_,q.fr⟩;unfold dC;grind
 .rw [Rn]at h;have z:Int.fdiv (c.toNat:Int) (2^(4))=((c.toNat / 16:Nat):Int):=by grind
  have A:r3 .u8 (c.toNat:Int) 15=((c.toNat%16:Nat):Int):=eq_of_beq (dS.1 VT c.toNat (List.mem_range.2 B));refine j.dr λF x=>?_;rw[z,A];refine⟨io,_,LR io,io,_,LR io,x.vu (λG _ y e=>?_)⟩;have d:Bytes G ⟨some (aa F.heap.size),4,4⟩ [92,120,jb (c.toNat / 16),jb (c.toNat%16)]:=qR (T:=eB) e rfl;refine⟨ba [92,120,jb (c.toNat / 16),jb (c.toNat%16)],r5 d,?_,y.fr⟩;unfold dC;grind
abbrev Ii(n:Nat):Prop:=∀(x:J) (w:I),x.sz<=n->jl x.rx=true->x.P w->ai U OU #[x.v] w λr d=>r=ad (.tuple #[.string (ba (a9 x.rx)),.i (cN x.rx:Int)])/\af w d
def QV{n:Nat}(G:n<=1000000)(q:Ii n)(x:J)(d:Nat)(w:I)(k:x.sz<=n)(F:d<=1000)(z:jl x.rx=true)(A:x.P w):ai U AV #[x.v,.i (d:Int)] w λr B=>r=ad (.string (ba (cK d x.rx (a9 x.rx))))/\af w B:=by
 refine Sm.aq ((gT A).ax λD C e=>e.av (q x C k z (e.getD 0)) ?_);rintro _ H rfl h;have E:(a9 x.rx).length<=18000000:=by have:=y8 x.rx;rw[J.ez]at this;omega
 have j:a' #[40]++ba (a9 x.rx)++a' #[41]=ba (40::(a9 x.rx++[41])):=by show ba [40]++ba (a9 x.rx)++ba [41]=_;rw[bT,bT];simp
 refine⟨_,_,rfl,aT (λy=>⟨?_,?_,?_,h.fr⟩) (λy=>⟨?_,h.fr⟩)⟩
 .rw [be];show ¬(((1+_:Nat):Int)>9223372036854775807);omega
 .have:(a' #[40]++ba (a9 x.rx)).size=1+(a9 x.rx).length:=by show(ba [40]++_).size=_;rw[bT,be];grind
  rw[this];show ¬(((_+1:Nat):Int)>9223372036854775807);omega
 .rw [j];unfold cK;grind
 .unfold cK;grind
def QS:∀n:Nat,n<=1000000->Ii n
 |0,_=>λe B j _ _=>absurd j (by have:=J.nr e;omega)
 |n+1,bh=>by
  have ih:=QS n io;intro e B j a8 px;have hs:=J.iW e;have hl:=J.gn e.l;have bj:=J.cz px.parts.1;have aN:=a8;rw[J.fv]at aN;obtain⟨k0,k7,ar,a3⟩:=A6 aN;have a6:(J.ao e.l).length=e.l.length:=by rw[J.fW,List.length_map]
  rw[a6]at ar;have aK:∀a∈e.l,jl a.rx=true:=λa w=>A7 a3 (by rw[J.fW];grind);have ay:∀(a:J) (lv:Nat),a.sz<=1000000->(cK lv a.rx (a9 a.rx)).length<=18000002:=λa lv w=>by have z:=y8 a.rx;rw[J.ez]at z;have:=(te lv a.rx (a9 a.rx)).1;omega
  have aG:∀c,(dC c).length<=4:=λc=>by unfold dC;grind
  let W:aC:=λr w'=>r=ad (.tuple #[.string (ba (a9 e.rx)),.i (cN e.rx:Int)])/\af B w'
  have one:∀(a:J) (T:Nat) (q:I) (L:List En) (bs:List Nat) (K:ByteArray->I->Prop),T<=1000->a∈e.l->O F0 B q L [.tree e]->(∀w2,O F0 B w2 L [.tree e]->K (ba (cK T a.rx (a9 a.rx))) w2)->DD bs AV #[.agg #[.i a.k,.int .u8 (a.lo.toNat:Int),.int .u8 (a.hi.toNat:Int),a.s.v],.i (T:Int)] q K:=by
   intro a T q L bs K a7 w h hK;have aA:=J.eP w;refine h.av (QV io ih a T q io a7 (aK a w) ((show e.P q from h.getD 0).parts.2.mem w)) ?_
   grind
  have G:a9 e.rx=a9 (.mk e.k e.lo e.hi (J.ao e.l)):=by rw[J.fv]
  have bc:cN e.rx=if e.k=6 then 3 else if e.k<3\/e.k=7\/e.l.length<2 then 4 else if e.k=3 then 2 else if e.k=4 then 0 else 1:=by rw[J.fv];unfold cN;grind
  have M:(e.k<3\/e.k=7\/e.l.length<2)->e.k≠6->(4:Int)=(cN e.rx:Int):=λz E=>by grind
  refine ru.aq ((gT px).ax λA q h=>?_);have h:O F0 B q [.g A] [.tree e]:=h;refine aw (λhk=>⟨?_,h.fr⟩) (λaI=>aw (λhk=>⟨?_,h.fr⟩) (λa1=>aw (λaJ=>?_) (λaJ=>aw (λN=>?_) (λN=>aw (λaa=>?_) (λaa=>?_)))))
  .rw [<-M (.inl io) io,G];unfold a9;rw[ag hk];rfl
  .rw [<-M (.inl io) io,G];unfold a9;rw[ab aI,ag hk];rfl
  .have e2:a9 e.rx=if e.lo=e.hi then dC e.lo else 91::(dC e.lo++45::(dC e.hi++[93])):=by rw[G];unfold a9;grind
   rw[<-M (.inl io) io];refine aw (λaL=>h.av (GA e.lo q) ?_) (λaL=>h.ae λw5 H5=>H5.av (GA e.lo w5) ?_)
   .rintro _ C rfl y;exact⟨_,rfl,by rw[e2,ag (UInt8.toNat_inj.1 io)],y.fr⟩
   .rintro _ Q rfl F;have z:=aG e.lo;have E:=aG e.hi;have s0:a' #[91]++ba (dC e.lo)++a' #[45]=ba (91::dC e.lo++[45]):=by show ba [91]++ba (dC e.lo)++ba [45]=_;rw[bT,bT];rfl
    refine⟨_,rfl,?_,?_,F.av (GA e.hi Q) ?_⟩
    .rw [be];show ¬(((1+_:Nat):Int)>9223372036854775807);omega
    .have:(a' #[91]++ba (dC e.lo)).size=1+(dC e.lo).length:=by show(ba [91]++_).size=_;rw[bT,be];grind
     rw[this];show ¬(((_+1:Nat):Int)>9223372036854775807);omega
    rintro _ x rfl D;rw[s0];have:ba (91::dC e.lo++[45]++dC e.hi)++a' #[93]=ba (91::dC e.lo++[45]++dC e.hi++[93]):=by show _++ba [93]=_;rw[bT]
    refine⟨_,rfl,?_,?_,?_,D.fr⟩
    .rw [be,be];simp only[bG,cC,jm];show ¬(((_:Nat):Int)>9223372036854775807);omega
    .rw [bT,be];simp only[bG,cC,jm];show ¬(((_+1:Nat):Int)>9223372036854775807);omega
    .rw [bT,this,e2,ab (λj=>aL (by rw[j]))];simp
  .have z:=ar (.inl N);have e6:a9 e.rx=33::kW (dk 3 (J.ao e.l)):=by rw[G];unfold a9;grind
   have e3:(3:Int)=(cN e.rx:Int):=by grind
   match gR:e.l,z with
   |[a],_=>
    have w:a∈e.l:=by grind
    have aA:=J.eP w;refine km (show e.P q from h.getD 0) (k:=0) rfl (by grind) (one a 3 q _ _ _ io w h λC y=>⟨?_,?_,y.fr⟩)
    .have:=ay a 3 io;rw[be];show ¬(((1+_:Nat):Int)>9223372036854775807);omega
    .have:a' #[33]++ba (cK 3 a.rx (a9 a.rx))=ba (33::cK 3 a.rx (a9 a.rx)):=by show ba [33]++_=_;rw[bT];rfl
     rw[this,e6,gR,<-e3];rfl
  .have z:=ar (.inr aa);have e7:a9 e.rx=kW (dk 4 (J.ao e.l))++[42]:=by rw[G];unfold a9;grind
   match gR:e.l,z with
   |[a],_=>
    have w:a∈e.l:=by grind
    have aA:=J.eP w;refine km (show e.P q from h.getD 0) (k:=0) rfl (by grind) (one a 4 q _ _ _ io w h λC y=>⟨?_,?_,y.fr⟩)
    .have:=ay a 4 io;rw[be];show ¬(((_+1:Nat):Int)>9223372036854775807);omega
    .have:ba (cK 4 a.rx (a9 a.rx))++a' #[42]=ba (cK 4 a.rx (a9 a.rx)++[42]):=by show _++ba [42]=_;rw[bT]
     rw[this,e7,gR,<-M (.inr (.inl aa)) N];rfl
  have hk:e.k=3\/e.k=4\/e.k=5:=io
  have S1:∀(word sign:BL) (level:Nat),word.length=3->sY e.k=word++[40]->hn e.k=sign->level<=2->(2<=e.l.length->cN e.rx=level)->ru.bg A e.k e.lo.toNat e.hi.toNat e.s (ba word) (ba sign) (level:Int) q W:=by
   intro word sign level hw aM az bf Z;have ef:e.l.length<2->a9 e.rx=sY e.k++(kW (dk 0 (J.ao e.l))++[41]):=λj=>by rw[G];unfold a9;grind
   refine aw (λh0=>?_) (λh0=>aw (λz=>?_) (λz=>?_))
   .have hx:e.l=[]:=List.length_eq_zero_iff.1 io;refine⟨?_,?_,h.fr⟩
    .rw [be];show ¬(((_+2:Nat):Int)>9223372036854775807);omega
    .have:ba word++a' #[40,41]=ba (word++[40,41]):=by show _++ba [40,41]=_;rw[bT]
     rw[this,<-M (.inr (.inr io)) N,ef io,aM,hx];simp[J.ao,dk,kW]
   .match gR:e.l with
    |[]=>grind
    |_::_::_=>grind
    |[a]=>
     have w:a∈e.l:=by grind
     have aA:=J.eP w;have hp:=ay a 0 io;refine⟨?_,km (show e.P q from h.getD 0) (k:=0) rfl (by grind) (one a 0 q _ _ _ io w h λC y=>⟨?_,?_,?_,y.fr⟩)⟩
     .rw [be];show ¬(((_+1:Nat):Int)>9223372036854775807);omega
     .have:ba word++a' #[40]=ba (word++[40]):=by show _++ba [40]=_;rw[bT]
      rw[this,be,be];simp only[bG,cC,jm];show ¬(((_:Nat):Int)>9223372036854775807);omega
     .have:ba word++a' #[40]++ba (cK 0 a.rx (a9 a.rx))=ba (word++[40]++cK 0 a.rx (a9 a.rx)):=by show _++ba [40]++_=_;rw[bT,bT]
      rw[this,be];simp only[bG,cC,jm];show ¬(((_+1:Nat):Int)>9223372036854775807);omega
     .have:ba word++a' #[40]++ba (cK 0 a.rx (a9 a.rx))++a' #[41]=ba (word++[40]++cK 0 a.rx (a9 a.rx)++[41]):=by show _++ba [40]++_++ba [41]=_;rw[bT,bT,bT]
      rw[this,<-M (.inr (.inr io)) N,ef io,aM,gR];simp[J.ao,dk,kW]
   .have E:2<=e.l.length:=io
    have Z:=Z E;have ej:a9 e.rx=Al e.k (dk (level+1) (J.ao e.l)):=by
     conv=>lhs;rw[G];unfold a9;rw[ab aI,ab a1,ab aJ,ab N,ab aa,ab io]
     rw[<-J.fv,Z]
    have bk:sign.length<=1:=by rw[<-az];unfold hn;grind
    have loop:∀(d i:Nat) (out:BL) (C:I),i+d=e.l.length->(1<=i->0<out.length)->(i=0->out=[])->out.length+hQ (dk (level+1) (J.ao (e.l.drop i)))<=40000000->a9 e.rx=(if i=0 then Al e.k (dk (level+1) (J.ao (e.l.drop i)))else ke e.k out (dk (level+1) (J.ao (e.l.drop i))))->O F0 B C [.g A] [.tree e]->
      ru.l6 A e.k e.lo.toNat e.hi.toNat e.s (ba sign) (level:Int) (ba out) e.s (e.s.n:Int) (i:Int) C W:=by
     intro d;induction d with
     |zero=>
      intro i out C aW ac hz ah H y;refine ru.qK (aQ (a2 io) ⟨?_,y.fr⟩);rw[H,dy io,ab io,Z];rfl
     |succ d bb=>
      intro i out C aW ac hz ah H y;have hg:e.l[i]? =some (e.l[i]'io):=aY io;have aH:e.l.drop i=(e.l[i]'io)::e.l.drop (i+1):=dw io;generalize e.l[i]'io=c at hg aH;have hc:=aD hg;have bl:=J.eP hc;rw[aH]at H ah;have ah:out.length+((cK (level+1) c.rx (a9 c.rx)).length+2+hQ (dk (level+1) (J.ao (e.l.drop (i+1)))))<=40000000:=by
       have:hQ (dk (level+1) (J.ao (c::e.l.drop (i+1))))=(cK (level+1) c.rx (a9 c.rx)).length+2+hQ (dk (level+1) (J.ao (e.l.drop (i+1)))):=by simp[J.ao,dk,hQ]
       omega
      have aU:0<(cK (level+1) c.rx (a9 c.rx)).length:=by have z:=Co c.rx (aK c hc);have:=(te (level+1) c.rx (a9 c.rx)).2;omega
      have aS:aB .i64 ((level:Int)+1)=((level+1:Nat):Int):=bm _ io;have aV:i=0->a9 e.rx=ke e.k (cK (level+1) c.rx (a9 c.rx)) (dk (level+1) (J.ao (e.l.drop (i+1)))):=λj=>by rw[ag j]at H;rw[H];rfl
      have S:i≠0->a9 e.rx=ke e.k ((if e.k=3/\eO (lM out)=true/\eO (gQ (cK (level+1) c.rx (a9 c.rx)) 0)=true then out++[32]else out)++hn e.k++cK (level+1) c.rx (a9 c.rx)) (dk (level+1) (J.ao (e.l.drop (i+1)))):=λj=>by rw[ab j]at H;rw[H];rfl
      refine ru.qK (aR (a5 io) (km (show e.P C from y.getD 0) rfl hg (y.ax λb9 w4 H4=>H4.ae λw5 H5=>?_)));rw[aS];refine one c (level+1) w5 _ _ _ io hc H5 λQ F=>?_;have F:O F0 B Q [.g A,.g b9] [.tree e]:=F;generalize cK (level+1) c.rx (a9 c.rx)=t at aV S ah aU;have go:∀(o:BL) (x:I),o.length<=out.length+1->out.length<=o.length->a9 e.rx=ke e.k (o++t) (dk (level+1) (J.ao (e.l.drop (i+1))))->O F0 B x [.g A,.g b9] [.tree e]->ru.cG A e.k e.lo.toNat e.hi.toNat e.s (ba sign) (level:Int) (ba o) (ba t) e.s (e.s.n:Int) (i:Int) x W:=by
       intro o x z E h3 D;refine⟨?_,?_⟩
       .rw [be,be];show ¬(((_:Nat):Int)>9223372036854775807);omega
       .rw [bT,bm _ io];refine bb (i+1) (o++t) x io (λ_=>by grind) (λj=>io) (by grind) (by grind) (D.take 1)
      refine aT (λaX=>⟨?_,?_⟩) (λaX=>go out Q io (bw _) (by grind) F)
      .rw [be,be];show ¬(((_:Nat):Int)>9223372036854775807);omega
      have S:=S io;have ac:=ac io;rw[az]at S;have ea:ba out++ba sign=ba (out++sign):=bT _ _;have aj:∀x,O F0 B x [.g A,.g b9] [.tree e]->¬(e.k=3/\eO (lM out)=true/\eO (gQ t 0)=true)->ru.cG A e.k e.lo.toNat e.hi.toNat e.s (ba sign) (level:Int) (ba (out++sign)) (ba t) e.s (e.s.n:Int) (i:Int) x W:=λx D bi=>go (out++sign) x (by grind) (by grind) (by grind) D;rw[ea];refine aw (λam=>?_) (λam=>aj Q F (λj=>am j.1));have s3:sign=[]:=by rw[<-az];unfold hn;grind
      have e9:out++sign=out:=by grind
      rw[e9]at aj ⊢;have eo:aB .i64 ((((ba out).size:Nat):Int) - 1)=((out.length - 1:Nat):Int):=by rw[be,bo _ io];omega
      rw[eo];refine⟨io,lM out,?_,F.av (zI (lM out) Q) ?_⟩
      .rw [bR,g3 (s:=ba out) (by rw[be];omega),j9,Mx out ac]
      rintro _ x rfl D;refine⟨_,rfl,bn (λan=>⟨io,gQ t 0,?_,D.av (zI (gQ t 0) x) ?_⟩) (λan=>aj x D (λj=>by rw[TA,j.2.1]at an;grind))⟩
      .rw [show a0 0=0 from rfl,g3 (s:=ba t) (by rw[be];omega),j9]
      rintro _ w8 rfl H8;refine⟨_,rfl,bn (λap=>⟨?_,?_⟩) (λap=>aj w8 H8 (λj=>by rw[TA,j.2.2]at ap;grind))⟩
      .rw [be];show ¬(((_+1:Nat):Int)>9223372036854775807);omega
      .have aO:ba out++a' #[32]=ba (out++[32]):=by show _++ba [32]=_;rw[bT]
       rw[aO];refine go (out++[32]) w8 gs gs ?_ H8;rw[ag ⟨am,an,ap⟩,s3,List.append_nil]at S;omega
    have h3:=tQ (level+1) (J.ao e.l);have Y:Rx.a4 (J.ao e.l)=J.a4 e.l:=J.yC e.l;exact loop e.l.length 0 [] q io (λj=>io) (λ_=>rfl) (by grind) (by grind) h
  have bd:2<=e.l.length->cN e.rx=if e.k=3 then 2 else if e.k=4 then 0 else 1:=λE=>by grind
  refine aw (λY=>S1 [97,108,116] [124] 0 rfl (by rw[Y];rfl) (by rw[Y];rfl) io (λE=>by grind)) (λY=>aw (λh5=>S1 [97,108,108] [38] 1 rfl (by rw[h5];rfl) (by rw[h5];rfl) io (λE=>by grind)) (λh5=>S1 [99,97,116] [] 2 rfl (by rw[show e.k=3 by omega];rfl) (by rw[show e.k=3 by omega];rfl) io (λE=>by grind)))
def QU(x:J)(d:Nat)(w:I)(e:x.sz<=1000000)(h:d<=1000)(j:jl x.rx=true)(k:x.P w):ai U AV #[x.v,.i (d:Int)] w λr q=>r=ad (.string (ba (cK d x.rx (a9 x.rx))))/\af w q:=QV (bw _) (QS 1000000 (bw _)) x d w e h j k
def dG(w:I)(p:Addr)(d:Nd):Prop:=∀i v,(Nd.c d)[i]? =some v->w.cell? (p.add i)=some v
def dG.st{w w':I}{p:Addr}{d:Nd}(h:dG w p d)(q:p.block<w.heap.size->w'.heap[p.block]? =w.heap[p.block]?):dG w' p d:=λi v j=>by
 have e:=h i v j;have k:=pH e;rw[kG]at k;unfold World.cell? at e ⊢;rw[kG]at e ⊢
 grind
def dG.lt{w:I}{p:Addr}{d:Nd}(e:dG w p d):p.block<w.heap.size:=by
 have:=pH (e 0 _ rfl)
 rwa[kG]at this
def _root_.Go.W.En.gV(p:Addr)(d:Nd):En:=⟨[p.block],λh=>dG h p d,λh q k e=>e.st (k p.block gs),λh e b j=>by simp at j;subst j;exact dG.lt e,gs⟩
def ya{w:I}{b:Nat}{d:Nd}{T:aE}(e:w.heap[b]? =some (.cells (Nd.c d).toArray T (0,0))):dG w (aa b) d:=λi v h=>cellAt (p:=aa b) e rfl (by grind)
section
variable {w:I} {p:Addr} {d:Nd} (h:dG w p d)
include h
def dG.c0:w.cell? (p.add 0)=some (.i d.x.op):=h 0 _ rfl
def dG.c1:w.cell? (p.add 1)=some d.ks.v:=h 1 _ rfl
def dG.c2:w.cell? (p.add 2)=some (.i d.x.n):=h 2 _ rfl
def dG.c3:w.cell? (p.add 3)=some (.i d.x.m):=h 3 _ rfl
def dG.c4:w.cell? (p.add 4)=some (.u d.x.u):=h 4 _ rfl
def dG.c5:w.cell? (p.add 5)=some (.string d.x.tx):=h 5 _ rfl
def dG.s0:w.cell? ((p.add 6).add 0)=some (.i d.x.st.k):=by rw[add_add];exact h 6 _ rfl
def dG.s1:w.cell? ((p.add 6).add 1)=some (.i d.x.st.n):=by rw[add_add];exact h 7 _ rfl
def dG.s2:w.cell? ((p.add 6).add 2)=some (.i d.x.st.x):=by rw[add_add];exact h 8 _ rfl
end
def kr(n:Int)(w:I):ai U Px #[.i n] w λr h=>r=ad (dg (aO n))/\af w h:=
 Uj.aq ((bM [] gs).ax λb j d=>d.ae λk e=>⟨rfl,e.fr⟩)
def we(n:Int)(w:I):ai U PQ #[.i n] w λr h=>r=ad (dg (dt n))/\af w h:=
 Ut.aq ((bM [] gs).ax λb j d=>d.ae λk e=>⟨rfl,e.fr⟩)
def tF(s:aM)(w:I):ai U PA #[dg s] w λr e=>r=ad (.bool (s.k==0))/\af w e:=
 Ul.aq ((bM [] gs).ax λb h d=>⟨rfl,d.fr⟩)
def ku(s:aM)(w:I):ai U PC #[dg s] w λr e=>r=ad (.bool (s.k==1))/\af w e:=
 Un.aq ((bM [] gs).ax λb h d=>⟨rfl,d.fr⟩)
def HO(s:aM)(w:I):ai U Pz #[dg s] w λr h=>r=ad (.bool (eg s))/\af w h:=
 Uk.aq ((bM [] gs).ax λb j d=>aw (λe=>⟨by unfold eg;grind,d.fr⟩) (λe=>⟨by unfold eg;grind,d.fr⟩))
def T6(x y:aM)(w:I):ai U Pt #[dg x,dg y] w λr A=>r=ad (.bool (ak (x=y)||(x.k==1&&y.k==1)))/\af w A:=by refine Uf.aq ((bM [] gs).ax λb E j=>j.ax λD B d=>nk (a:=x) (b:=y) (λh=>⟨by grind,d.fr⟩) (λh=>d.av (ku x B) ?_));rintro _ C rfl e;rw[a2 h,Bool.false_or];refine⟨_,rfl,aw (λz=>e.av (ku y C) ?_) (λz=>⟨by grind,e.fr⟩)⟩;rintro _ F rfl q;exact⟨_,rfl,by grind,q.fr⟩
def G9(d ranges:Bool):Int:=if d=true then(if ranges=true then 0 else 5)else 9
def aem(s:aM)(k ranges:Bool)(w:I):ai U AW #[dg s,.bool k,.bool ranges] w λr y=>r=gG (s,G9 k ranges)/\af w y:=by refine Uq.aq ((bM [] gs).ax λb A x=>x.ax λz B h=>eU (λe=>h.ae λq d=>⟨by rw[e];rfl,d.fr⟩) (λe=>eU (λj=>h.ae λq d=>⟨by rw[e,j];rfl,d.fr⟩) (λj=>h.ae λq d=>⟨by rw[e,j];rfl,d.fr⟩)))
def HM(s:aM)(w:I):ai U PU #[dg s] w λr q=>r=ad (.int .i64 (gk s))/\af w q:=by
 refine Ce.aq ((bM [] gs).ax λC y B=>?_);have D:br s=true->(Ending.returned (Value.int .i64 0)=ad (.int .i64 (gk s))/\af w y):=λe=>⟨by unfold gk;grind,B.fr⟩;have bad:br s=false->(Ending.returned (Value.int .i64 9)=ad (.int .i64 (gk s))/\af w y):=λe=>⟨by unfold gk;grind,B.fr⟩;have plain:∀least:Int,(∀h:least<=s.n,s.n<=64->s.x=0->br s=true)->(¬(least<=s.n/\s.n<=64/\s.x=0)->br s=false)->Ce.aV C s.k s.n s.x least 64 false y λr q=>r=ad (.int .i64 (gk s))/\af w q:=by intro least h d;exact aT (λe=>bad (d io)) (λe=>aT (λz=>bad (d io)) (λz=>aQ rfl (aR rfl (ct (λj=>bad (d (λJ=>j J.2.2))) (λj=>D (h io io j))))))
 have array:∀least:Int,(∀h:least<=s.n,s.n<=64->1<=s.x->s.x<=16->br s=true)->(¬(least<=s.n/\s.n<=64/\1<=s.x/\s.x<=16)->br s=false)->Ce.aV C s.k s.n s.x least 64 true y λr q=>r=ad (.int .i64 (gk s))/\af w q:=by intro least h d;exact aT (λe=>bad (d io)) (λe=>aT (λz=>bad (d io)) (λz=>aR rfl (aT (λj=>bad (d io)) (λj=>aT (λA=>bad (d io)) (λA=>aQ rfl (D (h io io io io)))))))
 refine aw (λE=>plain 1 (λh d j=>?_) (λe=>?_)) (λE=>aw (λF=>plain 0 (λh d j=>?_) (λe=>?_)) (λF=>aw (λG=>array 1 (λh d j A=>?_) (λe=>?_)) (λG=>aw (λH=>array 0 (λh d j A=>?_) (λe=>?_)) (λH=>bad ?_))))
 .unfold br;grind
 .unfold br;grind
 .unfold br;grind
 .unfold br;grind
 .unfold br;grind
 .unfold br;grind
 .unfold br;grind
 .unfold br;grind
 .unfold br;grind
def ad5{s:ByteArray}{i:Nat}(d:i<s.size):s[i]? =some (gQ (bl s) i):=by
 have h:i<(bl s).length:=d;have e:gQ (bl s) i=(bl s)[i]:=by unfold gQ;grind
 rw[e,getElem?_pos s i d];rfl
def aei(s:ByteArray)(w:I):ai U PB #[.string s] w λr e=>r=ad (.bool (iS (bl s)))/\af w e:=by
 have y:(bl s).length=s.size:=cR s;have x':∀(c:UInt8) (m:List UInt8),iS (c::m)=(ak (m.length<=15)&&gz c&&m.all ea):=λ_ _=>rfl;cases L:bl s with
 |nil=>
  have A:s.size=0:=by grind
  exact o8.ok (aR (a5 io) ⟨rfl,Fr.refl _ _⟩)
 |cons c m=>
  have N:s.size=m.length+1:=by grind
  have M:gQ (bl s) 0=c:=by rw[L];rfl
  refine o8.ok (aQ (a2 io) (aT (λj=>⟨?_,Fr.refl _ _⟩) (λj=>?_)))
  .grind
  have E:iS (c::m)=(gz c&&m.all ea):=by grind
  rw[E];have loop:∀(d i:Nat),i+d=s.size->(gz c&&m.all ea)=(if i=0 then(gz c&&m.all ea)else((bl s).drop i).all ea)->o8.L1 s (i:Int) w λr e=>r=ad (.bool (gz c&&m.all ea))/\af w e:=by
   intro d;induction d with
   |zero=>
    intro i J B;rw[dy io,ab io]at B;exact o8.iH (aQ (a2 io) ⟨by grind,Fr.refl _ _⟩)
   |succ d P=>
    intro i J B;have H:=ad5 (show i<s.size by omega);have O:(bl s).drop i=gQ (bl s) i::(bl s).drop (i+1):=by rw[dw (by omega:i<(bl s).length)];unfold gQ;grind
    have go:(if i=0 then gz (gQ (bl s) i)else ea (gQ (bl s) i))=true->o8.S5 s (i:Int) w λr e=>r=ad (.bool (gz c&&m.all ea))/\af w e:=λj=>by
     show o8.L1 s (aB .i64 ((i:Int)+1)) w _;rw[bm _ io]
     grind
    have stop:(if i=0 then gz (gQ (bl s) i)else ea (gQ (bl s) i))=false->o8.S4 w λr e=>r=ad (.bool (gz c&&m.all ea))/\af w e:=λj=>by
     refine⟨?_,Fr.refl _ _⟩
     grind
    generalize gQ (bl s) i=x at H go stop;have z:∀l:Bool,l=gz x->o8.S3 s (i:Int) (x.toNat:Int) l w λr e=>r=ad (.bool (gz c&&m.all ea))/\af w e:=by
     intro l y;refine eU (λG=>?_) (λC=>go ?_)
     .rw [G]at y;refine aw (λA=>stop ?_) (λA=>?_)
      .grind
      have K:i≠0:=io
      rw[ab K]at go stop;have D:ea x=((ak (48<=x.toNat)&&ak (x.toNat<=57))||x==45):=by unfold ea;grind
      refine ct (λq=>aT (λk=>stop ?_) (λk=>aT (λF=>stop ?_) (λF=>go ?_))) (λq=>go ?_)
      .rw [D,a2 (show ¬48<=x.toNat by omega)];have:(x==45)=false:=beq_eq_false_iff_ne.2 λh=>q (by subst h;rfl)
       grind
      .rw [D,a2 (show ¬x.toNat<=57 by omega),Bool.and_false];have:(x==45)=false:=beq_eq_false_iff_ne.2 λh=>q (by subst h;rfl)
       grind
      .grind
      .have:x=45:=UInt8.toNat_inj.1 (by grind)
       grind
     .rw [C]at y;split
      .grind
      .unfold ea;grind
    have C:((i:Int)).toNat=i:=bR i;refine o8.iH (aR (a5 io) ⟨io,x,by grind,aT (λk=>z _ ?_) (λk=>z _ ?_)⟩)
    .unfold gz
     grind
    .unfold gz
     grind
  exact loop s.size 0 io (by grind)
def Yn(t:ByteArray):(t.toList==(a' #[]).toList)=ak (t=ba []):=y1 _ _
def aeh{w:I}{p:Addr}{d:Nd}(y:dG w p d):ai U Py #[.pointer (some p)] w λr k=>r=ad (.bool (fa d.x))/\af w k:=by
 have C:∀a b c e:Bool,yP.S1 p a b c e w λr k=>r=ad (.bool ((a||d.x.n==0)&&(b||d.x.m==0)&&(c||d.x.u==0)&&(e||ak (d.x.tx=ba []))))/\af w k:=by
  intro a b c e;cases a<;>cases b<;>cases c<;>cases e;all_goals repeat (first |refine aQ rfl ?_|refine aR rfl ?_|refine⟨_,y.c2,aw (λh=>?_) (λh=>⟨by rw[beq_eq_false_iff_ne.2 h];simp,Fr.refl _ _⟩)⟩|refine⟨_,y.c3,aw (λj=>?_) (λj=>⟨by rw[beq_eq_false_iff_ne.2 j];simp,Fr.refl _ _⟩)⟩|refine⟨_,y.c4,aw (λz=>?_) (λz=>⟨by rw[beq_eq_false_iff_ne.2 z];simp,Fr.refl _ _⟩)⟩|refine⟨_,y.c5,?_,Fr.refl _ _⟩)
  all_goals first |exact⟨by simp[*],Fr.refl _ _⟩|(rw[Yn];simp[*])
 have fin:∀a b c e:Bool,a=mr d.x.op->b=(d.x.op==21)->c=(d.x.op==1)->e=mu d.x.op->yP.S1 p a b c e w λr k=>r=ad (.bool (fa d.x))/\af w k:=by rintro a b c e rfl rfl rfl rfl;exact C _ _ _ _
 have H:∀A:Int,d.x.op≠A->(d.x.op==A)=false:=λA G=>beq_eq_false_iff_ne.2 G;have D:∀e:Bool,e=mu d.x.op->yP.S2 p false false false e d.x.op w λr k=>r=ad (.bool (fa d.x))/\af w k:=by intro e q;refine aw (λE=>fin _ _ _ _ ?_ ?_ ?_ q) (λE=>aw (λh=>fin _ _ _ _ ?_ ?_ ?_ q) (λh=>aw (λj=>aR (beq_iff_eq.2 j) (fin _ _ _ _ ?_ ?_ ?_ q)) (λj=>aw (λz=>aR (beq_iff_eq.2 z) (fin _ _ _ _ ?_ ?_ ?_ q)) (λz=>aw (λF=>fin _ _ _ _ ?_ ?_ ?_ q) (λF=>fin _ _ _ _ ?_ ?_ ?_ q)))));all_goals first |(rw[‹d.x.op=_›];rfl)|(simp[mr, *])
 refine yP.ok ⟨_,y.c0,aw (λB=>aR (beq_iff_eq.2 B) (fin _ _ _ _ ?_ ?_ ?_ ?_)) (λB=>aw (λh=>aR (beq_iff_eq.2 h) (fin _ _ _ _ ?_ ?_ ?_ ?_)) (λh=>aw (λj=>fin _ _ _ _ ?_ ?_ ?_ ?_) (λj=>D _ ?_)))⟩;all_goals first |(rw[‹d.x.op=_›];rfl)|(unfold mu;simp[*])
def j3(s:aM)(e:Int)(r:cW):Prop:=∃(t:aM) (d:Int),r=gG (t,d)/\d=e/\(e=0->t=s)
def Au{w:I}{p:Addr}{d:Nd}(h:dG w p d):O F0 w w [] [.gV p d]:=bM _ (by intro j e;simp only[aF,aZ,a7]at e;subst e;exact h)
def jd(n:Nx)(x y z:aM):Int:=if eD n.op x y z=false then 9 else if iC n x y z=false then 5 else if n.op=33/\mb n.tx=false then 2 else 0
def acE{n:Nx}{x y z t:aM}{d ranges:Bool}(q:n.op≠33)(h:d=eD n.op x y z)(j:d=true->ranges=iC n x y z)(k:d=true->ranges=true->t=gZ n x y z):j3 (gZ n x y z) (jd n x y z) (gG (t,G9 d ranges)):=by
 refine⟨t,_,rfl,?_,λe=>?_⟩
 .unfold G9 jd
  grind
 .unfold jd at e
  grind
section
variable {M:Nat->Prop} {w0 w:I} {L D:List En} {bs Wk:List Nat}
def ek(H:O F0 w0 w L D){n:Nx}{x y z:aM}(t:aM)(d ranges:Bool)(B:n.op≠33)(k:d=eD n.op x y z)(q:d=true->ranges=iC n x y z)(A:d=true->ranges=true->t=gZ n x y z)(C:∀b∈bs,En.g b∈L:=by simp):
  fF Wk U AW #[dg t,.bool d,.bool ranges] w λr E=>∃a b c e:Int,r=ad (.tuple #[.agg #[.i a,.i b,.i c],.i e])/\loc bs E λF=>j3 (gZ n x y z) (jd n x y z) (ad (.tuple #[.agg #[.i a,.i b,.i c],.i e]))/\af w0 F:=by refine H.av (aem t d ranges w) ?_;rintro _ G rfl h;exact⟨_,_,_,_,rfl,h.ae (λJ j=>⟨acE B k q A,j.fr⟩) C⟩
end
def qG(s:aM):Prop:=0<=s.n/\s.n<=64
def aeX{s:aM}(d:br s=true):qG s:=⟨(nC d).1,(nC d).2.1⟩
def Qm:qG aX:=⟨dl,dl⟩
def aeg{w:I}{p:Addr}{d:Nd}{x y z:aM}(q:dG w p d)(h4:4<=d.x.op)(ah:d.x.op<=23)(hx:qG x)(hy:qG y)(hn:cF d.x.n)(hm:cF d.x.m):
  ai U PK #[.pointer (some p),dg x,dg y,dg z] w λr W=>j3 (gZ d.x x y z) (jd d.x x y z) r/\af w W:=by
 refine HP.aq ((Au q).ax λb5 w1 H1=>H1.ax λb6 w2 H2=>H2.ax λb7 w3 H3=>H3.ax λb8 w4 E=>?_);obtain⟨⟨op,kids,n,m,u,M,st⟩,T⟩:=d;have B:∀{A:I} {L:List En},O F0 w A L [.gV p ⟨⟨op,kids,n,m,u,M,st⟩,T⟩]->dG A p ⟨⟨op,kids,n,m,u,M,st⟩,T⟩:=λab=>ab.getD 0;simp only at h4 ah hn hm;refine⟨op,(B E).c0,?_⟩;obtain⟨ap,ar⟩:=hx;obtain⟨ay,az⟩:=hy;obtain⟨an,ao⟩:=hn;obtain⟨aj,am⟩:=hm;have two:∀(c:Bool),c=true->c=true:=λ_ q=>q;rcases vy io (by omega:op<=34)with rfl|rfl|rfl|rfl|rfl|rfl|rfl|rfl|rfl|rfl|rfl|rfl|rfl|rfl|rfl|rfl|rfl|rfl|rfl|rfl|rfl|rfl|rfl|rfl|rfl|rfl|rfl|rfl|rfl|rfl|rfl|rfl|rfl|rfl|rfl
 iterate 4 omega
 rotate_left 20
 iterate 11 omega
 all_goals repeat (first |refine aQ rfl ?_|refine aR rfl ?_)
 iterate 2
  .refine E.ae λA h=>h.av (tF x A) ?_;rintro _ C rfl j;exact⟨_,rfl,ek j x _ true gs rfl (λ_=>rfl) (λ_ _=>rfl)⟩
 iterate 10
  .refine E.ae λA h=>h.av (tF x A) ?_;rintro _ C rfl j;refine⟨_,rfl,aw (λD=>?_) (λD=>?_)⟩
   .refine ek j x _ true gs ?_ (λ_=>rfl) (λ_ _=>rfl);rw[lZ];show _=(x.k==0&&ak (x=y));rw[D];rfl
   .refine ek j x _ true gs ?_ (λ_=>rfl) (λ_ _=>rfl);show _=(x.k==0&&ak (x=y));rw[beq_eq_false_iff_ne.2 D];rfl
 iterate 2
  .refine E.ae λA h=>h.av (kr 1 A) ?_;rintro _ C rfl j;refine⟨_,_,_,rfl,j.av (tF x C) ?_⟩;rintro _ F rfl e;refine⟨_,rfl,aw (λD=>?_) (λD=>?_)⟩
   .refine ek e (aO 1) _ true gs ?_ (λ_=>rfl) (λ_ _=>rfl);rw[lZ];show _=(x.k==0&&ak (x=y))
    grind
   .refine ek e (aO 1) _ true gs ?_ (λ_=>rfl) (λ_ _=>rfl);show _=(x.k==0&&ak (x=y))
    grind
 .refine E.ae λA h=>h.av (kr 1 A) ?_;rintro _ C rfl j;refine⟨_,_,_,rfl,j.av (T6 x y C) ?_⟩;rintro _ F rfl e;exact⟨_,rfl,ek e (aO 1) _ true gs rfl (λ_=>rfl) (λ_ _=>rfl)⟩
 .refine E.ax λZ A h=>h.ae λC j=>j.av (ku y C) ?_;rintro _ F rfl e;have Q:∀(t:aM) (H:I),((ak (y=z)||(y.k==1&&z.k==1))=true->t=if y.k=1 then dt (if y.n<z.n then z.n else y.n)else y)->O F0 w H [.g b5,.g b6,.g b7,.g b8,.g Z] [.gV p ⟨⟨19,kids,n,m,u,M,st⟩,T⟩]->HP.fB b5 x.k x.n x.x b6 y.k y.n y.x b7 z.k z.n z.x b8 0 0 0 Z t.k t.n t.x H λr W=>j3 (gZ ⟨19,kids,n,m,u,M,st⟩ x y z) (jd ⟨19,kids,n,m,u,M,st⟩ x y z) r/\af w W:=by
   intro t H ht J;refine J.ae λw9 P=>P.av (kr 1 w9) ?_;rintro _ Y rfl N;have fe:eD 19 x y z=(ak (x=aO 1)&&(ak (y=z)||(y.k==1&&z.k==1))):=rfl;refine⟨_,_,_,rfl,nk (a:=x) (b:=aO 1) (λhe=>N.av (T6 y z Y) ?_) (λhe=>?_)⟩
   .rintro _ aA rfl ac;refine⟨_,rfl,ek ac t _ true gs ?_ (λ_=>rfl) (λq _=>ht q)⟩
    grind
   .refine ek N t _ true gs ?_ (λ_=>rfl) (λq _=>by cases q)
    grind
  have yes:∀t:aM,y.k=1->z.k=1->t=dt (if y.n<z.n then z.n else y.n)->((ak (y=z)||(y.k==1&&z.k==1))=true->t=if y.k=1 then dt (if y.n<z.n then z.n else y.n)else y):=λt h1 _ h3 _=>by grind
  refine⟨_,rfl,aw (λD=>e.av (ku z F) ?_) (λD=>Q y F (λ_=>by grind) e)⟩;rintro _ H rfl J;refine⟨_,rfl,aw (λaa=>J.av (we _ H) ?_) (λaa=>Q y H (λhf=>?_) J)⟩
  .rintro _ w9 rfl P;exact⟨_,_,_,rfl,P.ae λY N=>Q (dt (if y.n<z.n then z.n else y.n)) Y (yes _ D aa rfl) N⟩
  grind
 .have e1:aB .i64 (x.n+y.n)=x.n+y.n:=bo _ io;have fe:eD 20 x y z=(x.k==0&&y.k==0):=rfl;refine E.ae λA h=>?_;rw[e1];refine h.av (kr _ A) ?_;rintro _ C rfl j;refine⟨_,_,_,rfl,j.av (tF x C) ?_⟩;rintro _ F rfl e;refine⟨_,rfl,aw (λD=>e.av (tF y F) ?_) (λD=>?_)⟩
  .rintro _ H rfl J;refine⟨_,rfl,ek J (aO (x.n+y.n)) _ _ gs ?_ (λ_=>rfl) (λ_ _=>rfl)⟩
   grind
  .refine ek e (aO (x.n+y.n)) _ _ gs ?_ (λq=>by cases q) (λq _=>by cases q)
   grind
 .have hr:iC ⟨21,kids,n,m,u,M,st⟩ x y z=(ak (0<=m)&&ak (m<=n)&&ak (n<x.n)):=rfl;refine E.ae λA h=>⟨_,(B h).c2,_,(B h).c3,_,(B h).c3,h.av (kr _ A) ?_⟩;rintro _ C rfl j;refine⟨_,_,_,rfl,(B j).c3,j.av (tF x C) ?_⟩;rintro _ F rfl e;refine⟨_,rfl,(B e).c3,aT (λG=>⟨_,(B e).c3,_,(B e).c2,aT (λS=>⟨_,(B e).c2,ek e (aO _) _ _ gs rfl (λ_=>?_) (λ_ K=>?_)⟩) (λS=>ek e (aO _) _ _ gs rfl (λ_=>?_) (λ_ q=>by cases q))⟩) (λG=>ek e (aO _) _ _ gs rfl (λ_=>?_) (λ_ q=>by cases q))⟩
  .grind
  .have G:0<=m:=G;have S:m<=n:=S;have K:n<x.n:=e4 K;show aO (aB .i64 (aB .i64 (n - m)+1))=aO (n - m+1);rw[bo (n - m) io,bo _ io]
  .grind
  grind
 iterate 2
  .have ag:aB .i64 (64 - x.n)=64 - x.n:=bo _ io;refine E.ae λA h=>⟨_,(B h).c2,_,(B h).c2,h.av (kr _ A) ?_⟩;rintro _ C rfl j;refine⟨_,_,_,rfl,(B j).c2,j.av (tF x C) ?_⟩;rintro _ F rfl e;refine⟨_,rfl,(B e).c2,aT (λG=>⟨_,(B e).c2,ek e (aO _) _ _ gs rfl (λ_=>?_) (λ_ K=>?_)⟩) (λG=>ek e (aO _) _ _ gs rfl (λ_=>?_) (λ_ q=>by cases q))⟩
   .show _=(ak (1<=n)&&ak (n<=64 - x.n))
    grind
   .have G:1<=n:=G;rw[ag]at K;have K:n<=64 - x.n:=e4 K;show aO (aB .i64 (x.n+n))=aO (x.n+n);rw[bo _ io]
   .show _=(ak (1<=n)&&ak (n<=64 - x.n))
    grind
def ad2{x y z:aM}(e:eg x=true):eD 25 x y z=(ak (y=aO x.x)&&(if x.k=3 then z.k==1&&ak (z.n<=x.n)else ak (z=iN x))):=by
 show(eg x&&ak (y=aO x.x)&&(ak (z=iN x)||(x.k==3&&z.k==1&&ak (z.n<=x.n))))=_;rw[e,Bool.true_and];congr 1;by_cases d:x.k=3
 .rw [ag d,d];have h:iN x=dt x.n:=by unfold iN;grind
  rw[h];by_cases j:z=dt x.n
  .subst j;simp[dt]
  grind
 grind
def aef{w:I}{p:Addr}{d:Nd}{x y z:aM}(N:dG w p d)(h4:24<=d.x.op)(ap:d.x.op<=26):
  ai U PJ #[.pointer (some p),dg x,dg y,dg z] w λr H=>j3 (gZ d.x x y z) (jd d.x x y z) r/\af w H:=by
 refine B1.aq ((Au N).ax λJ w1 H1=>H1.ax λY w2 H2=>H2.ax λK w3 H3=>H3.ax λM w4 T=>?_);have am:∀{P:I} {L:List En},O F0 w P L [.gV p d]->dG P p d:=λao=>ao.getD 0;refine⟨_,(am T).c0,aw (λho=>T.ae λP H5=>H5.av (kr x.x P) ?_) (λho=>T.av (kr x.n w4) ?_)⟩
 .rintro _ w6 rfl W;refine⟨_,_,_,rfl,W.av (HO x w6) ?_⟩;rintro _ D rfl e;have fe:eD d.x.op x y z=(eg x&&ak (x=y)):=by rw[ho];rfl
  have B:iC d.x x y z=true:=by unfold iC;grind
  have E:gZ d.x x y z=aO x.x:=by unfold gZ;grind
  refine⟨_,rfl,bn (λq=>?_) (λq=>?_)⟩
  .refine ek e (aO x.x) _ true io ?_ (λ_=>B.symm) (λ_ _=>E.symm);rw[fe,lZ,q];rfl
  .refine ek e (aO x.x) _ true io ?_ (λ_=>B.symm) (λ_ _=>E.symm)
   grind
 rintro _ w6 rfl W;have B:iC d.x x y z=true:=by unfold iC;grind
 have S1:∀(t:aM) (j:Nat) (f:Bool) (D:I),f=(eg x&&ak (y=aO x.x))->(eg x=true->t=iN x)->O F0 w D [.g J,.g Y,.g K,.g M,.g j] [.gV p d]->B1.bg p J x.k x.n x.x K z.k z.n z.x M 0 0 0 j t.k t.n t.x f D λr H=>j3 (gZ d.x x y z) (jd d.x x y z) r/\af w H:=by
  intro t j f D C G e;refine⟨_,(am e).c0,aw (λan=>?_) (λan=>?_)⟩
  .refine ek e t f true io ?_ (λ_=>B.symm) (λhh _=>?_)
   .rw [C,an];rfl
   .rw [C]at hh;simp only[bd]at hh;rw[G hh.1];unfold gZ;grind
  have aa:d.x.op=25:=io
  have E:gZ d.x x y z=x:=by unfold gZ;rw[aa];rfl
  have ff:f=false->eD d.x.op x y z=false:=λN=>by
   rw[aa];show(eg x&&ak (y=aO x.x)&&(ak (z=iN x)||(x.k==3&&z.k==1&&ak (z.n<=x.n))))=_
   grind
  have ft:f=true->eg x=true/\eD d.x.op x y z=(if x.k=3 then z.k==1&&ak (z.n<=x.n)else ak (z=iN x)):=λN=>by rw[N]at C;have C:=C.symm;simp only[bd]at C;refine⟨C.1,?_⟩;rw[aa,ad2 C.1,C.2,Bool.true_and]
  refine aw (λq=>bn (λah=>e.ae λA h=>h.av (ku z A) ?_) (λac=>e.ae λA h=>ek h x _ true io (ff ac).symm (λ_=>B.symm) (λ_ _=>E.symm))) (λq=>bn (λah=>e.ae λA h=>ek h x _ true io ?_ (λ_=>B.symm) (λ_ _=>E.symm)) (λac=>e.ae λA h=>ek h x _ true io (ff ac).symm (λ_=>B.symm) (λ_ _=>E.symm)))
  .rintro _ Q rfl F;have:=(ft ah).2;rw[ag q]at this;refine⟨_,rfl,aw (λhz=>ek F x _ true io ?_ (λ_=>B.symm) (λ_ _=>E.symm)) (λhz=>ek F x _ true io ?_ (λ_=>B.symm) (λ_ _=>E.symm))⟩
   .grind
   grind
  .have Z:=ft ah;rw[ab q]at Z;rw[Z.2,lZ,G Z.1]
 have S0:∀(t:aM) (j:Nat) (D:I),(eg x=true->t=iN x)->O F0 w D [.g J,.g Y,.g K,.g M,.g j] [.gV p d]->B1.aV p J x.k x.n x.x Y y.k y.n y.x K z.k z.n z.x M 0 0 0 j t.k t.n t.x D λr H=>j3 (gZ d.x x y z) (jd d.x x y z) r/\af w H:=by intro t j D G e;refine e.ae λA h=>h.av (HO x A) ?_;rintro _ Q rfl F;refine⟨_,rfl,bn (λq=>F.av (kr x.x Q) ?_) (λq=>S1 t j false Q (by grind) G F)⟩;rintro _ aj rfl S;exact⟨_,_,_,rfl,S1 t j _ aj (by rw[q];exact lZ y (aO x.x)) G S⟩
 refine⟨_,_,_,rfl,W.ax λj D e=>aw (λq=>e.ae λA h=>h.av (we x.n A) ?_) (λq=>e.ae λA h=>S0 (aO x.n) j A (λha=>?_) h)⟩
 .rintro _ Q rfl F;exact⟨_,_,_,rfl,F.ae λaj S=>S0 (dt x.n) j aj (λ_=>by unfold iN;grind) S⟩
 .unfold eg at ha;simp only[Bool.or_eq_true,beq_iff_eq]at ha;unfold iN
  grind
def oq(t:ByteArray):Prop:=∀d,ai U F8 #[.string t] d λr e=>r=ad (.bool (mb t))/\af d e
def aep{w:I}{p:Addr}{d:Nd}{x y z:aM}(B:dG w p d)(ab:27<=d.x.op)(ac:d.x.op<=34)(hx:qG x)(hy:qG y)(hz:qG z)(S:d.x.op=33->oq d.x.tx):
  ai U PN #[.pointer (some p),dg x,dg y,dg z] w λr w'=>j3 (gZ d.x x y z) (jd d.x x y z) r/\af w w':=by
 refine Us.aq ((Au B).ax λb5 w1 W=>W.ax λb6 w2 Y=>Y.ax λb7 w3 Z=>Z.ax λb8 w4 G=>?_);obtain⟨⟨op,kids,n,m,u,F,st⟩,P⟩:=d;have J:∀{j:I} {L:List En},O F0 w j L [.gV p ⟨⟨op,kids,n,m,u,F,st⟩,P⟩]->dG j p ⟨⟨op,kids,n,m,u,F,st⟩,P⟩:=λT=>T.getD 0;simp only at ab ac S;refine⟨op,(J G).c0,?_⟩;obtain⟨am,an⟩:=hx;obtain⟨ao,ap⟩:=hy;obtain⟨ar,ay⟩:=hz;have ah:op=27\/op=28\/op=29\/op=30\/op=31\/op=32\/op=33\/op=34:=io
 rcases ah with rfl|rfl|rfl|rfl|rfl|rfl|rfl|rfl;all_goals repeat (first |refine aQ rfl ?_|refine aR rfl ?_)
 .refine G.ae λj q=>q.av (kr 7 j) ?_;rintro _ A rfl h;refine⟨_,_,_,rfl,h.av (ku x A) ?_⟩;rintro _ D rfl e;exact⟨_,rfl,ek e (aO 7) _ true gs rfl (λ_=>rfl) (λ_ _=>rfl)⟩
 .have hr:iC ⟨28,kids,n,m,u,F,st⟩ x y z=(ak (0<=n)&&ak (n<=63)):=rfl;refine G.ae λj q=>⟨_,(J q).c2,q.av (kr 8 j) ?_⟩;rintro _ A rfl h;refine⟨_,_,_,rfl,(J h).c2,h.av (ku x A) ?_⟩;rintro _ D rfl e;refine⟨_,rfl,(J e).c2,aT (λg1=>⟨_,(J e).c2,ek e (aO 8) _ _ gs rfl (λ_=>?_) (λ_ _=>rfl)⟩) (λg1=>ek e (aO 8) _ _ gs rfl (λ_=>?_) (λ_ B=>by cases B))⟩
  .grind
  grind
 .have M:aB .i64 (x.n+y.n)=x.n+y.n:=bo _ io;have K:eD 29 x y z=(x.k==1&&y.k==1):=rfl;refine G.ae λj q=>?_;rw[M];refine q.av (we _ j) ?_;rintro _ A rfl h;refine⟨_,_,_,rfl,h.av (ku x A) ?_⟩;rintro _ D rfl e;refine⟨_,rfl,aw (λE=>e.av (ku y D) ?_) (λE=>?_)⟩
  .rintro _ H rfl C;refine⟨_,rfl,ek C (dt (x.n+y.n)) _ _ gs ?_ (λ_=>rfl) (λ_ _=>rfl)⟩
   grind
  .refine ek e (dt (x.n+y.n)) _ _ gs ?_ (λB=>by cases B) (λB _=>by cases B)
   grind
 .have K:eD 30 x y z=(x.k==1&&ak (y=aO 7)&&ak (z=aO 7)):=rfl;refine G.ae λj q=>q.av (ku x j) ?_;rintro _ A rfl h;refine⟨_,rfl,aw (λE=>h.av (kr 7 A) ?_) (λE=>ek h x _ true gs ?_ (λ_=>rfl) (λ_ _=>rfl))⟩
  .rintro _ D rfl e;refine⟨_,_,_,rfl,nk (a:=y) (b:=aO 7) (λN=>e.av (kr 7 D) ?_) (λN=>ek e x _ true gs ?_ (λ_=>rfl) (λ_ _=>rfl))⟩
   .rintro _ H rfl C;refine⟨_,_,_,rfl,ek C x _ true gs ?_ (λ_=>rfl) (λ_ _=>rfl)⟩;show _=eD 30 x y z;rw[K,E,a5 N];exact lZ z (aO 7)
   grind
  grind
 .have K:eD 31 x y z=(x.k==1&&y.k==1):=rfl;refine G.ae λj q=>q.av (kr 7 j) ?_;rintro _ A rfl h;refine⟨_,_,_,rfl,h.av (ku x A) ?_⟩;rintro _ D rfl e;refine⟨_,rfl,aw (λE=>e.av (ku y D) ?_) (λE=>?_)⟩
  .rintro _ H rfl C;refine⟨_,rfl,ek C (aO 7) _ true gs ?_ (λ_=>rfl) (λ_ _=>rfl)⟩
   grind
  .refine ek e (aO 7) _ true gs ?_ (λ_=>rfl) (λ_ _=>rfl)
   grind
 .have M:aB .i64 (x.n+z.n)=x.n+z.n:=bo _ io;have K:eD 32 x y z=(x.k==1&&y.k==1&&z.k==1):=rfl;refine G.ae λj q=>?_;rw[M];refine q.av (we _ j) ?_;rintro _ A rfl h;refine⟨_,_,_,rfl,h.av (ku x A) ?_⟩;rintro _ D rfl e;have no:∀{H:I} {L:List En} {bs aa:List Nat},O F0 w H L [.gV p ⟨⟨32,kids,n,m,u,F,st⟩,P⟩]->(∀b∈bs,En.g b∈L)->eD 32 x y z=false->fF aa U AW #[dg (dt (x.n+z.n)),.bool false,.bool (ak (x.n+z.n<=64))] H λr j=>∃a b c Q:Int,r=ad (.tuple #[.agg #[.i a,.i b,.i c],.i Q])/\loc bs j λA=>j3 (gZ ⟨32,kids,n,m,u,F,st⟩ x y z) (jd ⟨32,kids,n,m,u,F,st⟩ x y z) (ad (.tuple #[.agg #[.i a,.i b,.i c],.i Q]))/\af w A:=λC hb hf=>ek C _ _ _ gs hf.symm (λB=>by cases B) (λB _=>by cases B) hb;refine⟨_,rfl,aw (λE=>e.av (ku y D) ?_) (λE=>no e gs ?_)⟩
  .rintro _ H rfl C;refine⟨_,rfl,aw (λag=>C.av (ku z H) ?_) (λag=>no C gs ?_)⟩
   .rintro _ w9 rfl H9;refine⟨_,rfl,ek H9 (dt (x.n+z.n)) _ _ gs ?_ (λ_=>rfl) (λ_ _=>rfl)⟩
    grind
   grind
  grind
 .have K:eD 33 x y z=(x.k==1):=rfl;have aj:iC ⟨33,kids,n,m,u,F,st⟩ x y z=true:=rfl;refine G.av (ku x w4) ?_;rintro _ j rfl q;refine⟨_,rfl,eU (λE=>q.ae λA h=>⟨⟨x,9,rfl,?_,λB=>?_⟩,h.fr⟩) (λE=>⟨F,(J q).c5,q.av (S rfl j) ?_⟩)⟩
  .unfold jd
   grind
  .unfold jd at B
   grind
  .rintro _ A rfl h;have N:jd ⟨33,kids,n,m,u,F,st⟩ x y z=if mb F=false then 2 else 0:=by
    unfold jd
    grind
   refine⟨_,rfl,eU (λhc=>h.ae λD e=>⟨⟨x,2,rfl,?_,λB=>?_⟩,e.fr⟩) (λhc=>h.av (kr 1 A) ?_)⟩
   .grind
   .grind
   .rintro _ D rfl e;exact⟨_,_,_,rfl,e.ae λH C=>⟨⟨aO 1,0,rfl,by grind,λ_=>rfl⟩,C.fr⟩⟩
 .refine G.ae λj q=>q.av (we 1 j) ?_;rintro _ A rfl h;refine⟨_,_,_,rfl,h.av (kr 8 A) ?_⟩;rintro _ D rfl e;exact⟨_,_,_,rfl,ek e (dt 1) _ true gs (lZ x (aO 8)) (λ_=>rfl) (λ_ _=>rfl)⟩
def Yx(u n:Int)(j:0<=u)(w:0<=n)(x:n<64):((Int.fdiv u (2^(min (a0 n) (IntKind.bits .u64)))) !=0)=ak (2^n.toNat<=u):=by
 have h:min (a0 n) (IntKind.bits .u64)=n.toNat:=by show min n.toNat 64=_;omega
 rw[h];have d:(0:Int)<2^n.toNat:=Int.pow_pos dl;generalize(2:Int)^n.toNat=q at d;have k:=Int.fdiv_eq_ediv_of_nonneg u (by omega:0<=q);rw[k];by_cases e:q<=u
 .rw [a5 e];have:1<=u / q:=by rw[Int.le_ediv_iff_mul_le d];omega
  grind
 .rw [a2 e];rw[Int.ediv_eq_zero_of_lt j io];rfl
def aek{w:I}{p:Addr}{d:Nd}(g:List Nx)(P:dG w p d)(Q:1<=d.x.op)(h3:d.x.op<=3)(hu:0<=d.x.u):
  ai U PL #[.pointer (some p)] w λr K=>j3 (cb g d.x).1 (cb g d.x).2 r/\af w K:=by
 refine HQ.aq ((Au P).ax λC M y=>?_);have h:∀{z:I} {L:List En},O F0 w z L [.gV p d]->dG z p d:=λY=>Y.getD 0;have er:∀(t:aM) (e:Int) (z:I),e≠0->(cb g d.x)=(aX,e)->O F0 w z [.g C] [.gV p d]->loc [C] z λF=>j3 (cb g d.x).1 (cb g d.x).2 (ad (.tuple #[.agg #[.i t.k,.i t.n,.i t.x],.i e]))/\af w F:=λt e z h0 A G=>G.ae λF H=>⟨⟨t,e,rfl,by rw[A],λP=>by grind⟩,H.fr⟩;have ok:∀(t:aM) (z:I),(cb g d.x)=(t,0)->O F0 w z [.g C] [.gV p d]->loc [C] z λF=>j3 (cb g d.x).1 (cb g d.x).2 (ad (.tuple #[.agg #[.i t.k,.i t.n,.i t.x],.i 0]))/\af w F:=λt z A G=>G.ae λF H=>⟨⟨t,0,rfl,by rw[A],λ_=>by rw[A]⟩,H.fr⟩;refine⟨_,(h y).c0,aw (λZ=>?_) (λZ=>?_)⟩
 .refine ⟨_,(h y).c5,aT (λhs=>⟨_,_,_,(h y).s0,(h y).s1,(h y).s2,er d.x.st 5 M dl ?_ y⟩) (λhs=>⟨_,(h y).c5,y.av (we _ M) ?_⟩)⟩
  .unfold cb;grind
  .rintro _ E rfl q;refine⟨_,_,_,rfl,ok (dt d.x.tx.size) E ?_ q⟩;unfold cb;grind
 have D:cb g d.x=if br d.x.st=false then(aX,9)else
   if d.x.op=1/\d.x.st.k≠0\/d.x.op=3/\eg d.x.st=false then(aX,9)else
   if d.x.op=1/\mW d.x.u d.x.st.n=true then(aX,5)else(d.x.st,0):=by unfold cb;grind
 refine⟨_,_,_,(h y).s0,(h y).s1,(h y).s2,y.av (HM d.x.st M) ?_⟩;rintro _ E rfl q;refine⟨_,rfl,Hp (λW=>⟨_,_,_,(h q).s0,(h q).s1,(h q).s2,?_⟩) (λW=>?_)⟩
 .have:gk d.x.st=9:=by unfold gk;grind
  rw[this];exact er d.x.st 9 E dl (by grind) q
 rw[ab (by grind)]at D;refine⟨_,(h q).c0,aw (λh3=>⟨_,_,_,(h q).s0,(h q).s1,(h q).s2,q.av (HO d.x.st E) ?_⟩) (λaa=>?_)⟩
 .rintro _ B rfl j;refine⟨_,rfl,eU (λha=>⟨_,_,_,(h j).s0,(h j).s1,(h j).s2,er d.x.st 9 B dl ?_ j⟩) (λha=>⟨_,_,_,(h j).s0,(h j).s1,(h j).s2,ok d.x.st B ?_ j⟩)⟩
  .grind
  grind
 have Q:d.x.op=1:=io
 refine⟨_,(h q).s0,ct (λT=>⟨_,_,_,(h q).s0,(h q).s1,(h q).s2,er d.x.st 9 E dl ?_ q⟩) (λT=>q.ae λB j=>?_)⟩
 .grind
 rw[ab io]at D;obtain⟨v1,v2,_⟩:=wm W T;have N:cb g d.x=(d.x.st,0)->HQ.aV p C 0 0 0 B λr K=>j3 (cb g d.x).1 (cb g d.x).2 r/\af w K:=λA=>⟨_,_,_,(h j).s0,(h j).s1,(h j).s2,ok d.x.st B A j⟩;refine⟨_,(h j).s1,aT (λS=>⟨_,(h j).c4,_,(h j).s1,io,?_⟩) (λS=>N ?_)⟩
 .rw [Yx _ _ hu io S];refine aT (λhb=>⟨_,_,_,(h j).s0,(h j).s1,(h j).s2,er d.x.st 5 B dl ?_ j⟩) (λhb=>N ?_)
  .rw [D,ag ⟨Q,by unfold mW;grind⟩]
  .rw [D,ab];rintro⟨_,J⟩;unfold mW at J
   grind
 .rw [D,ab];rintro⟨_,J⟩;unfold mW at J
  grind
def n0(g:List Nx)(t:ByteArray):cW:=match ih g t with
 |some s=>ad (.tuple #[dg s,.bool true])
 |none=>ad (.tuple #[dg aX,.bool false])
def aeq{w:I}{p:Addr}{d:Nd}{D:List En}(g:List Nx)(lk:Fv)(H:O F0 w w [] (.gV p d::D))(hc:hy U lk.n=true)(hl:∀C:I,(∀e∈D,e.P C)->ai U lk.n (lk.bs++#[.string d.x.tx]++lk.cs) C λr ah=>r=n0 g d.x.tx/\af C ah)(h0:d.x.op=0):
  ai U PO #[.pointer (some p),lk.v] w λr C=>j3 (cb g d.x).1 (cb g d.x).2 r/\af w C:=by
 have h:∀{q:I} {L:List En},O F0 w q L (.gV p d::D)->dG q p d:=λH=>H.getD 0;have z:cb g d.x=if iS (bl d.x.tx)=false then(aX,6)else if br d.x.st=false then(aX,9)else if rE g d.x=true then(aX,8)else(d.x.st,0):=by
  unfold cb
  grind
 have fin:∀(e:Int) (q:I) (L:List En) (i:Nat) (b:Nat) (E c1 c2:V),O F0 w q L (.gV p d::D)->L[i]? =some (.c b [E,c1,c2] cd)->cb g d.x=(if e=0 then d.x.st else aX,e)->BS q (aa b) (.i d.x.st.k) (.i d.x.st.n) (.i d.x.st.x) λW=>Mz W (aa b) λa0 a1 a2=>j3 (cb g d.x).1 (cb g d.x).2 (ad (.tuple #[.agg #[.i a0,.i a1,.i a2],.i e]))/\af w W:=by
  intro e q L i b E c1 c2 y Q N;refine y.lh i Q λW G=>?_;have S:(L.set i (.c b [Value.i d.x.st.k,.i d.x.st.n,.i d.x.st.x] cd))[i]? =some (.c b [Value.i d.x.st.k,.i d.x.st.n,.i d.x.st.x] cd):=by grind
  refine⟨_,_,_,G.ld i 0 S,G.ld i 1 S,G.ld i 2 S,⟨d.x.st,e,rfl,by rw[N],λaj=>?_⟩,G.fr⟩
  grind
 refine HR.ok (H.nw λw1 _ Y=>⟨_,(h Y).c5,Y.call (aei d.x.tx w1) ?_⟩);rintro _ w2 rfl A;refine⟨_,rfl,eU (λT=>⟨_,_,_,(h A).s0,(h A).s1,(h A).s2,fin 6 w2 _ 0 _ _ _ _ A rfl (by rw[z,ag T];rfl)⟩) (λT=>⟨_,_,_,(h A).s0,(h A).s1,(h A).s2,A.call (HM d.x.st w2) ?_⟩)⟩;rw[ab (by rw[T];simp)]at z;rintro _ w3 rfl B;refine⟨_,rfl,Hp (λJ=>⟨_,_,_,(h B).s0,(h B).s1,(h B).s2,?_⟩) (λJ=>⟨_,(h B).c5,?_⟩)⟩
 .have:gk d.x.st=9:=by unfold gk;rw[J];rfl
  rw[this];exact fin 9 w3 _ 0 _ _ _ _ B rfl (by rw[z,ag J];rfl)
 rw[ab (by rw[J];simp)]at z;rw[hc];refine(show cM true _ from ?_);refine B.call (hl w3 (λe N=>B.rd e (List.mem_cons_of_mem _ N))) ?_;rintro _ w4 rfl Z;have F:∀(q:I) (L:List En) (E c1 c2:V),O F0 w q L (.gV p d::D)->L[0]? =some (.c w.heap.size [E,c1,c2] cd)->rE g d.x=false->HR.S0 p (aa w.heap.size) q λr C=>j3 (cb g d.x).1 (cb g d.x).2 r/\af w C:=λq L E c1 c2 y Q ht=>⟨_,_,_,(h y).s0,(h y).s1,(h y).s2,fin 0 q L 0 _ E c1 c2 y Q (by rw[z,ab (by rw[ht];simp)];rfl)⟩;unfold rE at z F;unfold n0;cases hs:ih g d.x.tx with
 |none=>
  rw[hs]at z F;refine⟨aX.k,aX.n,aX.x,false,rfl,Z.nw λq _ y=>y.lh 1 rfl λw8 M=>M.dr λK j=>aQ rfl ?_⟩;exact F K _ _ _ _ j rfl rfl
 |some t=>
  rw[hs]at z F;refine⟨t.k,t.n,t.x,true,rfl,Z.nw λq _ y=>y.lh 1 rfl λw8 M=>M.dr λK j=>aR rfl ⟨_,_,_,j.ld 1 0,j.ld 1 1,j.ld 1 2,_,_,_,(h j).s0,(h j).s1,(h j).s2,vW (a:=t) (b:=d.x.st) (λae=>⟨_,_,_,(h j).s0,(h j).s1,(h j).s2,fin 8 K _ 0 _ _ _ _ j rfl ?_⟩) (λac=>F K _ _ _ _ j rfl ?_)⟩⟩
  .rw [z,ag (by simp[ae])];rfl
  .simp [ac]
def abS{s:BL}{x:Rx}{a:Nat}{e:Int}(d:vA s=some (x,a,e)):x.sz<=1000000:=by
 unfold vA at d;split at d
 .simp only[fA,fy]at d;rw[<-d.1];decide
 .dsimp only at d;split at d
  .split at d
   .simp only[fA,fy]at d;rw[<-d.1];decide
   .split at d
    .cases d
    .split at d
     .simp only[fA,fy]at d;rw[<-d.1];decide
     .simp only[fA,fy]at d;rw[<-d.1];omega
  .cases d
def Wp(s:ByteArray)(S:s.size<=100000)(b:Bool)(d:uz (bl s)=some b)(w:I):ai U NB #[.string s] w λr w'=>r=ad (.bool b)/\af w w':=by
 unfold uz at d;cases k:vA (bl s)with
 |none=>rw[k]at d;cases d
 |some ac=>
  obtain⟨aa,a,N⟩:=ac;rw[k]at d;dsimp only at d;have T:=abS k;have H:O F0 w w [] []:=bM [] gs;refine KG.aq (H.DA (W9 s S aa a N k w) ?_);rintro _ w1 ⟨t,rfl,y,W,P⟩ _ G;have K:=G.rd (.tree t) W λb e=>P b (aW.1 e);have Z:t.sz<=1000000:=by rw[<-J.ez,y];exact T
  refine⟨_,_,_,t.s,_,_,rfl,K.ax λb3 w2 z=>ct (λq=>z.ae λE h=>⟨?_,h.fr⟩) (λq=>z.ae λE h=>?_)⟩
  .rw [ab q]at d;cases d;rfl
  rw[ag q]at d;refine kK ((Xd t E Z (h.getD 0)).mono ?_);rintro _ w4 ⟨⟨u,rfl,D,Y,Q⟩,B⟩;have L:=h.ef (.tree u) B Y λb e=>(Q b (aW.1 e)).imp id λe=>.inr ⟨_,aD (i:=0) rfl,aW.2 e⟩;rw[y]at D;refine⟨B,_,_,_,u.s,_,rfl,L.ax λb6 w5 A=>?_⟩;rw[y];refine aw (λx=>A.ae λF j=>?_) (λx=>A.ae λF j=>⟨?_,j.fr⟩)
  .rw [ag x]at d;split at d
   .rename_i C;rw[<-D]at C d;refine j.av (Js u 0 F (by rw[<-J.ez];omega) io C.1 (j.getD 1)) ?_;rintro _ w7 rfl M;refine⟨_,rfl,?_,M.fr⟩;cases d;congr 2;have:=uu (cK 0 u.rx (a9 u.rx)) (bl s);rw[j8]at this;exact this
   .cases d
  .rw [ab x]at d;cases d;rfl
abbrev v7(k:Sl)(ks:List aM):En:=.a3 3 k (ks.flatMap g4)
def MS{w:I}{k:Sl}{ks:List aM}(e:bh 3 w k (ks.flatMap g4)):O F0 w w [] [v7 k ks]:=bM _ (by intro h d;simp only[aF,aZ,a7]at d;subst d;exact e)
def WS{w:I}{k:Sl}{ks:List aM}{x y z:aM}(op:Int)(ah:bh 3 w k (ks.flatMap g4))(hx:ks[0]? =some x)(q:2<=b5 op->ks[1]? =some y)(G:b5 op=3->ks[2]? =some z)(h4:4<=op)(am:op<=34):
  ai U Oe #[.i op,k.v] w λr w'=>r=ad (.bool (eD op x y z))/\af w w':=by
 refine Ea.aq (eG ah (rfl:(0:Int)=((0:Nat):Int)) hx λp0 ao Z=>⟨x.k,x.n,x.x,Z.c0,Z.c1,Z.c2,(MS ah).ax λag w1 H1=>?_⟩);have main:∀(a:Bool) (M:I),a=eg x->O F0 w M [.g ag] [v7 k ks]->Ea.aV op k ag x.k x.n x.x (x.k==0) (x.k==1) a M λr w'=>r=ad (.bool (eD op x y z))/\af w w':=by
  rintro a M ha d;have j:∀{C:I} {L:List En},O F0 w C L [v7 k ks]->bh 3 C k (ks.flatMap g4):=λaj=>aj.getD 0;have B:(1:Int)=((1:Nat):Int):=rfl;have J:(2:Int)=((2:Nat):Int):=rfl;rcases vy io am with rfl|rfl|rfl|rfl|rfl|rfl|rfl|rfl|rfl|rfl|rfl|rfl|rfl|rfl|rfl|rfl|rfl|rfl|rfl|rfl|rfl|rfl|rfl|rfl|rfl|rfl|rfl|rfl|rfl|rfl|rfl|rfl|rfl|rfl|rfl
  iterate 4 omega
  all_goals repeat (first |refine aQ rfl ?_|refine aR rfl ?_)
  all_goals first |(have q:=q dl)|skip
  all_goals first |(have G:=G dl)|skip
  iterate 2 exact⟨rfl,d.fr⟩
  iterate 12
   .refine aw (λe=>?_) (λe=>d.ae λC h=>⟨?_,h.fr⟩)
    .refine eG (j d) B q λp F _=>d.ae λC h=>?_;have c:=gH (j h) B q F;refine⟨_,_,_,c.c0,c.c1,c.c2,?_,h.fr⟩;rw[lZ];show _=Ending.returned (.bool (x.k==0&&ak (x=y)));rw[e];rfl
    .show _=Ending.returned (.bool (x.k==0&&ak (x=y)));rw[beq_eq_false_iff_ne.2 e];rfl
  .refine eG (j d) B q λp F _=>d.ae λC h=>?_;have c:=gH (j h) B q F;have D:eD 18 x y z=(ak (x=y)||(x.k==1&&y.k==1)):=rfl;rw[D];refine⟨_,_,_,c.c0,c.c1,c.c2,nk (λH=>⟨by rw[a5 H];rfl,h.fr⟩) (λH=>?_)⟩;rw[a2 H,Bool.false_or];refine aw (λe=>eG (j h) B q λp' _ Y=>⟨_,Y.c0,?_,h.fr⟩) (λe=>⟨?_,h.fr⟩)
   .rw [e];rfl
   .rw [beq_eq_false_iff_ne.2 e];rfl
  .refine d.ae λC h=>h.av (fE 1 C) ?_;rintro _ T rfl A;have D:eD 19 x y z=(ak (x=aO 1)&&(ak (y=z)||(y.k==1&&z.k==1))):=rfl;rw[D];refine⟨_,_,_,rfl,nk (b:=aO 1) (λH=>?_) (λH=>⟨by rw[a2 H];rfl,A.fr⟩)⟩;rw[a5 H,Bool.true_and];refine eG (j A) B q λp _ c=>⟨_,_,_,c.c0,c.c1,c.c2,eG (j A) J G λac _ E=>⟨_,_,_,E.c0,E.c1,E.c2,nk (λh2=>⟨by rw[a5 h2];rfl,A.fr⟩) (λh2=>?_)⟩⟩;rw[a2 h2,Bool.false_or];refine eG (j A) B q λp' _ Y=>⟨_,Y.c0,aw (λe=>eG (j A) J G λq' _ d'=>⟨_,d'.c0,?_,A.fr⟩) (λe=>⟨?_,A.fr⟩)⟩
   .rw [e];rfl
   .rw [beq_eq_false_iff_ne.2 e];rfl
  .have D:eD 20 x y z=(x.k==0&&y.k==0):=rfl;rw[D];refine aw (λe=>eG (j d) B q λp _ c=>⟨_,c.c0,?_,d.fr⟩) (λe=>⟨?_,d.fr⟩)
   .rw [e];rfl
   .rw [beq_eq_false_iff_ne.2 e];rfl
  iterate 3 exact⟨rfl,d.fr⟩
  .have D:eD 24 x y z=(eg x&&ak (y=aO x.x)):=rfl;rw[D,<-ha];refine bn (λS=>?_) (λP=>d.ae λC h=>⟨by rw[P];rfl,h.fr⟩);refine eG (j d) B q λp F _=>d.ae λC h=>?_;have c:=gH (j h) B q F;refine⟨_,_,_,c.c0,c.c1,c.c2,h.av (fE x.x C) ?_⟩;rintro _ T rfl A;have E:=gH (j A) B q F;refine⟨_,_,_,rfl,E.c0,E.c1,E.c2,?_,A.fr⟩;rw[S,Bool.true_and];exact congrArg (λb=>Ending.returned (.bool b)) (lZ y (aO x.x))
  .have D:eD 25 x y z=(eg x&&ak (y=aO x.x)&&(ak (z=iN x)||(x.k==3&&z.k==1&&ak (z.n<=x.n)))):=rfl;rw[D,<-ha];refine eU (λP=>d.ae λC h=>⟨by rw[P];rfl,h.fr⟩) (λS=>?_);rw[S,Bool.true_and];refine eG (j d) B q λp F _=>d.ae λC h=>?_;have c:=gH (j h) B q F;refine⟨_,_,_,c.c0,c.c1,c.c2,h.av (fE x.x C) ?_⟩;rintro _ T rfl A;have E:=gH (j A) B q F;refine⟨_,_,_,rfl,E.c0,E.c1,E.c2,vW (a:=y) (b:=aO x.x) (λQ=>⟨by rw[a2 Q];rfl,A.fr⟩) (λan=>?_)⟩;rw[a5 an,Bool.true_and];refine eG (j A) J G λac W _=>A.ae λw5 N=>?_;have c5:=gH (j N) J G W;refine⟨_,_,_,c5.c0,c5.c1,c5.c2,N.av (GS x w5) ?_⟩;rintro _ w6 rfl K;have d6:=gH (j K) J G W;refine⟨_,_,_,rfl,d6.c0,d6.c1,d6.c2,nk (a:=z) (b:=iN x) (λH=>⟨by rw[a5 H];rfl,K.fr⟩) (λQ=>?_)⟩;rw[a2 Q,Bool.false_or];refine aw (λe=>eG (j K) J G λq' _ d'=>⟨_,d'.c0,aw (λab=>eG (j K) J G λq2 _ d2=>⟨_,d2.c1,?_,K.fr⟩) (λab=>⟨?_,K.fr⟩)⟩) (λe=>⟨?_,K.fr⟩)
   .rw [e,ab];rfl
   .rw [beq_eq_false_iff_ne.2 ab,Bool.and_false];rfl
   .rw [beq_eq_false_iff_ne.2 e];rfl
  .have D:eD 26 x y z=(eg x&&ak (x=y)):=rfl;rw[D,<-ha];refine bn (λS=>?_) (λP=>d.ae λC h=>⟨by rw[P];rfl,h.fr⟩);refine eG (j d) B q λp F _=>d.ae λC h=>?_;have c:=gH (j h) B q F;refine⟨_,_,_,c.c0,c.c1,c.c2,?_,h.fr⟩;rw[lZ,S];rfl
  iterate 2 exact⟨rfl,d.fr⟩
  .have D:eD 29 x y z=(x.k==1&&y.k==1):=rfl;rw[D];refine aw (λe=>eG (j d) B q λp _ c=>⟨_,c.c0,?_,d.fr⟩) (λe=>⟨?_,d.fr⟩)
   .rw [e];rfl
   .rw [beq_eq_false_iff_ne.2 e];rfl
  .have D:eD 30 x y z=(x.k==1&&ak (y=aO 7)&&ak (z=aO 7)):=rfl;rw[D];refine aw (λe=>?_) (λe=>d.ae λC h=>⟨by rw[beq_eq_false_iff_ne.2 e];rfl,h.fr⟩);rw[e];refine eG (j d) B q λp F _=>d.ae λC h=>?_;have c:=gH (j h) B q F;refine⟨_,_,_,c.c0,c.c1,c.c2,h.av (fE 7 C) ?_⟩;rintro _ T rfl A;have E:=gH (j A) B q F;refine⟨_,_,_,rfl,E.c0,E.c1,E.c2,nk (a:=y) (b:=aO 7) (λH=>?_) (λQ=>⟨by rw[a2 Q];rfl,A.fr⟩)⟩;rw[a5 H];refine eG (j A) J G λac W c4=>⟨_,_,_,c4.c0,c4.c1,c4.c2,A.av (fE 7 T) ?_⟩;rintro _ w5 rfl N;have d5:=gH (j N) J G W;exact⟨_,_,_,rfl,d5.c0,d5.c1,d5.c2,congrArg (λb=>Ending.returned (.bool b)) (lZ z (aO 7)),N.fr⟩
  .have D:eD 31 x y z=(x.k==1&&y.k==1):=rfl;rw[D];refine aw (λe=>eG (j d) B q λp _ c=>⟨_,c.c0,?_,d.fr⟩) (λe=>⟨?_,d.fr⟩)
   .rw [e];rfl
   .rw [beq_eq_false_iff_ne.2 e];rfl
  .have D:eD 32 x y z=(x.k==1&&y.k==1&&z.k==1):=rfl;rw[D];refine aw (λe=>eG (j d) B q λp _ c=>⟨_,c.c0,aw (λaa=>eG (j d) J G λac _ E=>⟨_,E.c0,?_,d.fr⟩) (λaa=>⟨?_,d.fr⟩)⟩) (λe=>⟨?_,d.fr⟩)
   .rw [e,aa];rfl
   .rw [beq_eq_false_iff_ne.2 aa,Bool.and_false];rfl
   .rw [beq_eq_false_iff_ne.2 e];rfl
  .exact ⟨rfl,d.fr⟩
  .refine d.ae λC h=>h.av (fE 8 C) ?_;rintro _ T rfl A;exact⟨_,_,_,rfl,congrArg (λb=>Ending.returned (.bool b)) (lZ x (aO 8)),A.fr⟩
 refine aw (λe=>H1.ae λM d=>main true M ?_ d) (λe=>H1.ae λM d=>main _ M ?_ d)
 .unfold eg;rw[e];rfl
 .unfold eg;rw[beq_eq_false_iff_ne.2 e];rfl
def CL(n:Nx)(x y z:aM):cW->Prop:=λr=>∃(t:aM) (b:Bool),r=ad (.tuple #[dg t,.bool b])/\b=iC n x y z/\(b=true->t=gZ n x y z)
def Xg{w:I}{k:Sl}{ks:List aM}{x y z:aM}(d:Nd)(G:bh 3 w k (ks.flatMap g4))(hx:ks[0]? =some x)(D:2<=b5 d.x.op->ks[1]? =some y)(M:b5 d.x.op=3->ks[2]? =some z)(h4:4<=d.x.op)(aj:d.x.op<=34)(vx:br x=true)(ah:2<=b5 d.x.op->br y=true)(vz:b5 d.x.op=3->br z=true)(hn:cF d.x.n)(hm:cF d.x.m):
  ai U Oi #[d.v,k.v] w λr Y=>CL d.x x y z r/\af w Y:=by
 obtain⟨x1,x2,x3,x4,_⟩:=nC vx;obtain⟨ay,az⟩:=hn;obtain⟨ap,ar⟩:=hm;refine z2.aq ((MS G).ax λb2 w1 H1=>H1.ax λb4 w2 H2=>eG (H2.getD 0) (rfl:(0:Int)=((0:Nat):Int)) hx λp0 aC aa=>⟨x.k,x.n,x.x,aa.c0,aa.c1,aa.c2,H2.ax λb6 w3 W=>?_⟩);have A:∀{w3:I} {L:List En},O F0 w w3 L [v7 k ks]->bh 3 w3 k (ks.flatMap g4):=λam=>am.getD 0;have E:(1:Int)=((1:Nat):Int):=rfl;have T:(2:Int)=((2:Nat):Int):=rfl;obtain⟨⟨op,kids,n,m,u,tx,st⟩,aA⟩:=d;simp only at D M h4 aj ah vz ay az ap ar;have S1:∀B:I,op≠16->op≠17->op≠18->op≠33->O F0 w B [.g b2,.g b4,.g b6] [v7 k ks]->z2.bg k b2 op aA n m u tx st.k st.n st.x b4 0 0 0 b6 x.k x.n x.x op B λr Y=>CL ⟨op,kids,n,m,u,tx,st⟩ x y z r/\af w Y:=by
  intro B n1 n2 n3 n4 h;rcases vy io aj with rfl|rfl|rfl|rfl|rfl|rfl|rfl|rfl|rfl|rfl|rfl|rfl|rfl|rfl|rfl|rfl|rfl|rfl|rfl|rfl|rfl|rfl|rfl|rfl|rfl|rfl|rfl|rfl|rfl|rfl|rfl|rfl|rfl|rfl|rfl
  iterate 4 omega
  all_goals repeat (first |refine aQ rfl ?_|refine aR rfl ?_)
  all_goals first |(have D:=D dl)|skip
  all_goals first |(have M:=M dl)|skip
  all_goals first |(have ah:=nC (ah dl))|skip
  all_goals first |(have vz:=nC (vz dl))|skip
  iterate 12 exact h.ae λC e=>⟨⟨x,true,rfl,rfl,λ_=>rfl⟩,e.fr⟩
  iterate 3 omega
  .refine eG (A h) E D λp P c=>⟨_,c.c0,aw (λhk=>?_) (λhk=>?_)⟩
   .refine eG (A h) E D λp P _=>h.ae λC e=>?_;have Q:=gH (A e) E D P;refine⟨_,Q.c1,eG (A e) T M λac H S=>⟨_,S.c1,e.av (pF _ C) ?_⟩⟩;rintro _ J rfl j;refine⟨_,_,_,rfl,j.ae λN q=>⟨⟨_,true,rfl,rfl,λ_=>?_⟩,q.fr⟩⟩;show _=if y.k=1 then _ else _;rw[ag hk]
   .refine eG (A h) E D λp P c'=>⟨_,_,_,c'.c0,c'.c1,c'.c2,h.ae λC e=>⟨⟨y,true,rfl,rfl,λ_=>?_⟩,e.fr⟩⟩;show _=if y.k=1 then _ else _;rw[ab hk]
  .refine eG (A h) E D λp P _=>h.ae λC e=>?_;have Q:=gH (A e) E D P;refine⟨_,Q.c1,eG (A e) E D λac H _=>?_⟩;have S:=gH (A e) E D H;refine⟨_,S.c1,e.av (fE _ C) ?_⟩;rintro _ J rfl j;refine⟨_,_,_,rfl,(gH (A j) E D H).c1,j.ae λN q=>⟨(gH (A q) E D H).c1,⟨_,_,rfl,?_,λ_=>?_⟩,q.fr⟩⟩
   .rw [bo _ io];rfl
   .show aO _=aO (x.n+y.n);rw[bo _ io]
  .refine h.ae λC e=>e.av (fE _ C) ?_;rintro _ J rfl j;have hr:iC ⟨21,kids,n,m,u,tx,st⟩ x y z=(ak (0<=m)&&ak (m<=n)&&ak (n<x.n)):=rfl;refine⟨_,_,_,rfl,aT (λK=>aT (λg2=>j.ae λN q=>⟨⟨_,_,rfl,?_,λF=>?_⟩,q.fr⟩) (λg2=>j.ae λN q=>⟨⟨_,false,rfl,?_,λF=>by cases F⟩,q.fr⟩)) (λK=>j.ae λN q=>⟨⟨_,false,rfl,?_,λF=>by cases F⟩,q.fr⟩)⟩
   .rw [hr,a5 (show 0<=m from K),a5 g2];rfl
   .have F:=e4 F;show aO _=aO (n - m+1);rw[bo (n - m) io,bo _ io]
   .rw [hr,a2 g2,Bool.and_false];rfl
   .rw [hr,a2 (show ¬0<=m from K)];rfl
  iterate 2
   .refine h.ae λC e=>e.av (fE _ C) ?_;rintro _ J rfl j;have an:aB .i64 (64 - x.n)=64 - x.n:=bo _ io;rw[an];refine⟨_,_,_,rfl,aT (λK=>j.ae λN q=>⟨⟨_,_,rfl,?_,λF=>?_⟩,q.fr⟩) (λK=>j.ae λN q=>⟨⟨_,false,rfl,?_,λF=>by cases F⟩,q.fr⟩)⟩
    .show _=(ak (1<=n)&&ak (n<=64 - x.n));rw[a5 (show 1<=n from K)];rfl
    .have F:=e4 F;show aO _=aO (x.n+n);rw[bo _ io]
    .show _=(ak (1<=n)&&ak (n<=64 - x.n));rw[a2 (show ¬1<=n from K)];rfl
  .refine h.av (GS x B) ?_;rintro _ C rfl e;exact⟨_,_,_,rfl,e.ae λJ j=>⟨⟨_,true,rfl,rfl,λ_=>rfl⟩,j.fr⟩⟩
  .exact h.ae λC e=>⟨⟨x,true,rfl,rfl,λ_=>rfl⟩,e.fr⟩
  .refine h.av (fE _ B) ?_;rintro _ C rfl e;exact⟨_,_,_,rfl,e.ae λJ j=>⟨⟨_,true,rfl,rfl,λ_=>rfl⟩,j.fr⟩⟩
  .refine h.av (fE _ B) ?_;rintro _ C rfl e;exact⟨_,_,_,rfl,e.ae λJ j=>⟨⟨_,true,rfl,rfl,λ_=>rfl⟩,j.fr⟩⟩
  .refine h.ae λC e=>e.av (fE _ C) ?_;rintro _ J rfl j;refine⟨_,_,_,rfl,aT (λK=>j.ae λN q=>⟨⟨_,_,rfl,?_,λF=>rfl⟩,q.fr⟩) (λK=>j.ae λN q=>⟨⟨_,false,rfl,?_,λF=>by cases F⟩,q.fr⟩)⟩
   .show _=(ak (0<=n)&&ak (n<=63));rw[a5 (show 0<=n from K)];rfl
   .show _=(ak (0<=n)&&ak (n<=63));rw[a2 (show ¬0<=n from K)];rfl
  .refine eG (A h) E D λp P _=>h.ae λC e=>?_;have Q:=gH (A e) E D P;refine⟨_,Q.c1,eG (A e) E D λac H _=>?_⟩;have S:=gH (A e) E D H;refine⟨_,S.c1,e.av (pF _ C) ?_⟩;rintro _ J rfl j;refine⟨_,_,_,rfl,(gH (A j) E D H).c1,j.ae λN q=>⟨(gH (A q) E D H).c1,⟨_,_,rfl,?_,λ_=>?_⟩,q.fr⟩⟩
   .rw [bo _ io];rfl
   .show dt _=dt (x.n+y.n);rw[bo _ io]
  .exact h.ae λC e=>⟨⟨x,true,rfl,rfl,λ_=>rfl⟩,e.fr⟩
  .refine h.av (fE _ B) ?_;rintro _ C rfl e;exact⟨_,_,_,rfl,e.ae λJ j=>⟨⟨_,true,rfl,rfl,λ_=>rfl⟩,j.fr⟩⟩
  .refine eG (A h) T M λp P _=>h.ae λC e=>?_;have Q:=gH (A e) T M P;refine⟨_,Q.c1,eG (A e) T M λac H _=>?_⟩;have S:=gH (A e) T M H;refine⟨_,S.c1,e.av (pF _ C) ?_⟩;rintro _ J rfl j;refine⟨_,_,_,rfl,(gH (A j) T M H).c1,j.ae λN q=>⟨(gH (A q) T M H).c1,⟨_,_,rfl,?_,λ_=>?_⟩,q.fr⟩⟩
   .rw [bo _ io];rfl
   .show dt _=dt (x.n+z.n);rw[bo _ io]
  .omega
  .refine h.av (pF _ B) ?_;rintro _ C rfl e;exact⟨_,_,_,rfl,e.ae λJ j=>⟨⟨_,true,rfl,rfl,λ_=>rfl⟩,j.fr⟩⟩
 have Z:∀B:I,(op=16\/op=17\/op=18\/op=33)->O F0 w B [.g b2,.g b4,.g b6] [v7 k ks]->z2.aV b4 0 0 0 B λr Y=>CL ⟨op,kids,n,m,u,tx,st⟩ x y z r/\af w Y:=by
  intro B ho h;refine h.av (fE 1 B) ?_;rintro _ C rfl e;refine⟨_,_,_,rfl,e.ae λJ j=>⟨⟨_,true,rfl,?_,λ_=>?_⟩,j.fr⟩⟩
  .rcases ho with rfl|rfl|rfl|rfl<;>rfl
  .rcases ho with rfl|rfl|rfl|rfl<;>rfl
 exact aw (λG=>aR (beq_iff_eq.2 G) (W.ae λB h=>Z B (.inl G) h)) λh1=>aw (λG=>aR (beq_iff_eq.2 G) (W.ae λB h=>Z B (.inr (.inl G)) h)) λh2=>aw (λG=>aR (beq_iff_eq.2 G) (W.ae λB h=>Z B (.inr (.inr (.inl G))) h)) λh3=>aw (λG=>W.ae λB h=>Z B (.inr (.inr (.inr G))) h) λao=>W.ae λB h=>S1 B h1 h2 h3 ao h
def Yj:fO U aeR cd (.agg #[.int .i64 0,.int .i64 0,.int .i64 0]) 3 24:=⟨by kernel_rfl,by kernel_rfl,rfl,dl,dl⟩
def zo(t:ByteArray):Prop:=t.size<=100000/\uz (bl t)=some (mb t)
def zo.can{t:ByteArray}(d:zo t):uz (bl t)=some (mb t):=d.2
structure wC(d:Nx):Prop where
 kl:d.kids.length<=dO
 n:cF d.n
 m:cF d.m
 tx:d.op=33->zo d.tx
structure zc(g:List Nx):Prop where
 len:g.length<=dO
 val:∀d∈g,br d.st=true
 vars:zp g
def ZO{l:List Nd}{n:Nx}{i:Nat}{k:Int}{e:Nd}(h:n.kids[i]? =some k)(d:l[k.toNat]? =some e):bf (xs l) n i=e.x.st:=by unfold bf;rw[h];dsimp only;rw[og d]
def acw(i:Nat)(f:Nat->aM):((List.range (i+1)).map f).flatMap g4=((List.range i).map f).flatMap g4++g4 (f i):=by rw[List.range_succ];simp
def ZL{op:Int}{m:Nat}(d:b5 op=(m:Int))(e:m≠0):4<=op/\op<=34:=by
 unfold b5 at d;split at d
 .omega
 .split at d
  .omega
  .omega
def ZN{op:Int}(d:b5 op=0):0<=op/\op<=3:=by
 unfold b5 at d;split at d
 .omega
 .split at d
  .omega
  .split at d
   .omega
   .split at d<;>omega
def YL{g:List Nx}{n:Nx}(d:oL g n=0):(b5 n.op==(n.kids.length:Int)&&n.kids.all (dI g)&&fa n)=true:=by
 unfold oL at d;split at d
 .assumption
 .omega
def ZS{g:List Nx}{n:Nx}(k:∀h∈g,br h.st=true)(j:n.kids.all (dI g)=true){i:Nat}(hi:i<n.kids.length):br (bf g n i)=true:=by
 have d:=dS.1 j _ (List.getElem_mem hi);unfold dI at d;simp only[bd,decide_eq_true_eq]at d;unfold bf;rw[aY hi];dsimp only;have e:(n.kids[i]).toNat<g.length:=io
 rw[aY e];exact k _ (List.getElem_mem e)
def Jq{w:I}{s:Sl}{l:List Nd}{d:Nd}(j:GP w s l)(hd:d.P w)(hg:zc (xs l))(W:wC d.x):
  ai U Oa #[s.v,d.v] w λr N=>r=gG (bA (xs l) d.x)/\af w N:=by
 have hn:=gx j;have aJ:(xs l).length=l.length:=by simp[xs]
 have aM:d.ks.n=d.x.kids.length:=bF.len hd;have hl:=hg.len;have hk:=W.kl;rw[aJ]at hl;refine uN.aq ((xK j hd).ax λb3 w1 H1=>H1.ax λJ w2 Z=>Z.av (WR (a8.1 (Z.getD 0)) (Z.getD 1) hk) ?_);rintro _ w3 rfl G;refine⟨_,rfl,ct (λam=>G.ae λy h=>⟨?_,h.fr⟩) (λh0=>?_)⟩
 .unfold bA;unfold oL at am ⊢;split
  .rename_i q;rw[ag q]at am;exact absurd rfl am
  .rename_i q;rw[iF]at q;rw[q];rfl
 have M:=YL h0;have aG:b5 d.x.op=(d.x.kids.length:Int):=by simp only[bd]at M;exact eq_of_beq M.1.1
 have ar:d.x.kids.all (dI (xs l))=true:=by simp only[bd]at M;exact M.1.2
 have A:bA (xs l) d.x=if d.x.op<=3 then cb (xs l) d.x else
   if eD d.x.op (bf (xs l) d.x 0) (bf (xs l) d.x 1) (bf (xs l) d.x 2)=false then(aX,9)else
   if iC d.x (bf (xs l) d.x 0) (bf (xs l) d.x 1) (bf (xs l) d.x 2)=false then(aX,5)else
   if d.x.op=33/\mb d.x.tx=false then(aX,2)else(gZ d.x (bf (xs l) d.x 0) (bf (xs l) d.x 1) (bf (xs l) d.x 2),0):=by unfold bA;rw[M];rfl
 refine aw (λaH=>?_) (λaH=>?_)
 .have hz:=ZN (op:=d.x.op) io;refine G.av (W2 (a8.1 (G.getD 0)) (G.getD 1) hl hz.1 hz.2 hg.vars) ?_;rintro _ y rfl h;refine⟨_,_,_,_,rfl,h.ae λY D=>⟨?_,D.fr⟩⟩;rw[A,ag hz.2]
 have S:=ZL (op:=d.x.op) aG io;rw[ab io]at A;unfold dO at hk hl;have loop:∀(m i:Nat) (E:Sl) (y:I),i+m=d.x.kids.length->O F0 w y [.g b3,.g J,.row cd 3 E (((List.range i).map (bf (xs l) d.x)).flatMap g4)] (ng s l d)->
   uN.a1 s b3 d.x.op d.ks d.x.n d.x.m d.x.u d.x.tx d.x.st.k d.x.st.n d.x.st.x J 0 0 0 E (i:Int) y λr N=>r=gG (bA (xs l) d.x)/\af w N:=by
  intro m;induction m with
  |zero=>
   intro i E y hi h;have hi:i=d.x.kids.length:=io
   subst hi;have R4:bh 3 y E (((List.range d.x.kids.length).map (bf (xs l) d.x)).flatMap g4):=(h.get 2:aK _ _ _ _ _).a3;have F:∀B,B<d.x.kids.length->((List.range d.x.kids.length).map (bf (xs l) d.x))[B]? =some (bf (xs l) d.x B):=λB hj=>by rw[List.getElem?_map,List.getElem?_range hj];rfl
   have an:∀B,B<d.x.kids.length->br (bf (xs l) d.x B)=true:=λB hj=>ZS hg.val ar hj;refine uN.bS (aQ (a2 io) (h.av (WS d.x.op R4 (F 0 io) (λh2=>F 1 io) (λh3=>F 2 io) S.1 S.2) ?_));rintro _ Y rfl D;refine⟨_,rfl,eU (λac=>D.ae λw6 H6=>⟨by rw[A,ag ac];rfl,H6.fr⟩) (λac=>?_)⟩;rw[ab (by rw[ac];simp)]at A;have R5:bh 3 Y E (((List.range d.x.kids.length).map (bf (xs l) d.x)).flatMap g4):=(D.get 2:aK _ _ _ _ _).a3;refine D.av (Xg d R5 (F 0 io) (λh2=>F 1 io) (λh3=>F 2 io) S.1 S.2 (an 0 io) (λh2=>an 1 io) (λh3=>an 2 io) W.n W.m) ?_;rintro _ w6 ⟨t,b,rfl,K,ht⟩ H6;refine⟨_,_,_,_,rfl,H6.ax λaa w7 H7=>eU (λaz=>H7.ae λC z=>⟨?_,z.fr⟩) (λap=>?_)⟩
   .rw [A,ag (by rw[<-K,az])];rfl
   rw[ab (by rw[<-K,ap];simp)]at A;have ht:=ht ap;have S1:∀(c:Bool) (C:I) (L:List En),(d.x.op=33/\mb d.x.tx=false↔c=false)->En.g J∈L->En.g aa∈L->O F0 w C L (ng s l d)->uN.bg J 0 0 0 aa t.k t.n t.x c C λr N=>r=gG (bA (xs l) d.x)/\af w N:=by
    intro c C L q m4 aL z;have ao:∀b∈[J,aa],En.g b∈L:=by
     intro b K;simp only[aF,aZ,a7]at K;rcases K with rfl|rfl
     .exact m4
     .exact aL
    refine eU (λaA=>z.ae (λw9 H=>⟨?_,H.fr⟩) ao) (λaC=>z.ae (λw9 H=>⟨?_,H.fr⟩) ao)
    .rw [A,ag (q.2 aA)];rfl
    .rw [A,ab (λj=>by rw[aC]at q;cases q.1 j),ht]
   refine ct (λQ=>H7.ae λC z=>S1 true C _ ⟨λj=>absurd j.1 Q,λj=>by cases j⟩ gs gs z) (λQ=>H7.ae λC z=>?_);have ay:=W.tx Q;refine z.av (Wp d.x.tx ay.1 _ ay.can C) ?_;rintro _ w9 rfl H;exact⟨_,rfl,S1 _ w9 _ ⟨λj=>j.2,λj=>⟨Q,j⟩⟩ gs gs H⟩
  |succ m ih=>
   intro i E y hi h;have T:d.x.kids[i]? =some (d.x.kids[i]'io):=aY io;have aj:=dS.1 ar _ (aD T);generalize d.x.kids[i]'io=kx at T aj;unfold dI at aj;simp only[bd,decide_eq_true_eq]at aj;have ah:l[kx.toNat]? =some (l[kx.toNat]'io):=aY io;generalize l[kx.toNat]'io=e at ah;have aI:bF y d.ks d.x.kids:=h.getD 1;have aN:=Nd.cz (show bh 9 y s (l.flatMap Nd.c)from(a8.1 (h.getD 0)).1);refine uN.bS (aR (a5 io) ⟨io,io,aI.cell T io λp hp q=>⟨kx,q,eh (a8.1 (h.getD 0)) (i:=kx.toNat) io ah λaO hq c=>⟨_,_,_,c.s0,c.s1,c.s2,?_⟩⟩⟩);have hlen:E.n=i:=by have:=(h.get 2:aK _ _ _ _ _).len;rw[TG]at this;simp at this;omega
   refine h.jE 2 Yj rfl (λs' Y D=>?_) io;rw[bm _ io];refine ih (i+1) s' Y io ?_;rw[acw,ZO T ah];exact D
 exact loop d.x.kids.length 0 ⟨none,0,0⟩ w3 io (G.h8 cd 3)
def mq(k:Nat):Rx:=Ez (e6 (k%6)) (e6 (k / 6%6)) (e6 (k / 36%6)) (k / 216%8)
def QA(k:Nat):Bool:=cO (mq k)&&Nat.ble (mq k).sz 1000&&jl (dQ (mq k))&&Nat.ble (dQ (mq k)).sz 1000
def abB:(List.range 1728).all QA=true:=by kernel_rfl
def LG(k:Nat):mq k=mq (k%1728):=by unfold mq;rw[show k%1728%6=k%6 by omega,show k%1728 / 6%6=k / 6%6 by omega,show k%1728 / 36%6=k / 36%6 by omega,show k%1728 / 216%8=k / 216%8 by omega]
def aex(k:Nat):cO (mq k)=true/\(mq k).sz<=1000/\jl (dQ (mq k))=true/\(dQ (mq k)).sz<=1000:=by rw[LG];have:=dS.1 abB (k%1728) (List.mem_range.2 (Nat.mod_lt _ io));unfold QA at this;simp only[bd]at this;exact⟨this.1.1.1,Nat.le_of_ble_eq_true this.1.1.2,this.1.2,Nat.le_of_ble_eq_true this.2⟩
def Uv(k:Nat):nt k=a9 (dQ (mq k)):=rfl
def Uw(k:Nat):nt k=nt (k%1728):=by rw[Uv,Uv,LG]
end Go.Proofs.YtkbmpalepmakmabGreatDoor
end
