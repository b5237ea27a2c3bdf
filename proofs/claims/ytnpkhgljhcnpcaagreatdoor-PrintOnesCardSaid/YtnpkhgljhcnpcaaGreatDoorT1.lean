import Derived.Test.YtnpkhgljhcnpcaaGreatDoorW
import Derived.Test.YtnpkhgljhcnpcaaGreatDoorR1
import Derived.Test.YtnpkhgljhcnpcaaGreatDoorG1
import Derived.Test.YtnpkhgljhcnpcaaGreatDoorV
set_option linter.unusedVariables false
noncomputable section
set_option linter.defProp false
namespace Go.Proofs.YtnpkhgljhcnpcaaGreatDoor
open Go renaming World->aA,Calls->aH,Program->aQ,Value->aD,TypeId->aP,Ending->cD
open Go.IntKind renaming wrap->aC
open _root_.Int renaming toNat->aF
open _root_.ByteArray renaming mk->aE
open Go.IntWalk renaming i64_in->aS
open Go.Proofs.Tryz renaming prog->aB
open _root_.Decidable renaming decide->aR
open Go.Ending renaming returned->aJ
open List renaming mem_append->gg,mem_cons->dT,not_mem_nil->gL,mem_of_getElem?->dI,getElem?_eq_getElem->ie,length_append->nE,length_cons->xB,length_nil->JM,all_eq_true->wo
open Go Go.W
section
variable {M:Nat->Prop} {w0 w:aA} {L D:List En} {bs:List Nat}
def D1 (w:aA) (pb:Nat) (vs:List aD) (ty:aP) (b:Nat):¬(En.c pb vs ty).P ({w with heap:=Array.replicate (b+1) (.map #[] 0)}):=by
 intro h
 have h:({w with heap:=Array.replicate (b+1) (.map #[] 0)}:aA).heap[pb]? =some (.cells vs.toArray ty (0,0)):=h
 simp [Array.getElem?_replicate] at h
def J' {pb:Nat} {vs:List aD} {ty:aP} {b:Nat}:b∈(En.c pb vs ty).fp↔b=pb:=by simp [En.c,En.ob]
def _root_.Go.W.LH.VJ {pb:Nat} {vs:List aD} {ty:aP} (H:LH M w0 w (.c pb vs ty::L) D) {w':aA} (f:Fr (·=pb) w w') {Da:List aD} (h:w'.heap[pb]? =some (.cells Da.toArray ty (0,0))):
  LH M w0 w' (.c pb Da ty::L) D/\∀e:En,e.P w'->(∀b∈e.fp,w.heap.size<=b)->LH M w0 w' (.c pb Da ty::L) (D++[e]):=by
 have H':LH M w0 w' (.c pb Da ty::L) D:=H.aaw 0 f h
 refine ⟨H',λe he hf=>⟨H'.fr,H'.own,λd hd=>?_,H'.new,H'.nd,λd hd b hb e' lM fA=>?_⟩⟩
 .rcases gg.1 hd with hd|hd
  .exact H'.rd d hd
  .simp at hd;subst hd;exact he
 .rcases gg.1 hd with hd|hd
  .exact H'.dj d hd b hb e' lM fA
  .simp at hd;subst hd
   have h1:=hf b hb
   have h2:b<w.heap.size:=by
    rcases dT.1 lM with rfl|lM
    .have fA:=J'.1 fA
     have:=(En.c pb vs ty).lt w (H.get 0) pb (J'.2 rfl)
     omega
    .exact e'.lt w (H.own e' (List.mem_cons_of_mem _ lM)) b fA
   omega
def _root_.Go.W.LH.Bx {pb:Nat} {vs:List aD} {ty:aP} (H:LH M w0 w (.c pb vs ty::L) D) {P:aQ} {g:FuncId} {args:Array aD} {A:aT} {Da:List aD} {K:aT} (hc:aH P g args w λr w'=>(A r w'/\w'.heap[pb]? =some (.cells Da.toArray ty (0,0)))/\Fr (·=pb) w w')
  (hk:∀r w',A r w'->LH M w0 w' (.c pb Da ty::L) D->(∀e:En,e.P w'->(∀b∈e.fp,w.heap.size<=b)->LH M w0 w' (.c pb Da ty::L) (D++[e]))->K r w'):aH P g args w K:=
 hc.mono λr w' ⟨⟨ha,h⟩,f⟩=>hk r w' ha (H.VJ f h).1 (H.VJ f h).2
def _root_.Go.W.LH.l3 {pb:Nat} {vs:List aD} {ty:aP} (H:LH M w0 w (.c pb vs ty::L) D) {P:aQ} {g:FuncId} {args:Array aD} {A:aT} {Da:List aD} {K:aT} (hc:aH P g args w λr w'=>(A r w'/\w'.heap[pb]? =some (.cells Da.toArray ty (0,0)))/\Fr (·=pb) w w')
  (hk:∀r w',A r w'->LH M w0 w' (.c pb Da ty::L) D->(∀e:En,e.P w'->(∀b∈e.fp,w.heap.size<=b)->LH M w0 w' (.c pb Da ty::L) (D++[e]))->K r w') (kS:∀b∈bs,En.g b∈(En.c pb vs ty::L):=by simp):fZ bs P g args w K:=
 ⟨(·=pb),λb hb hm=>lW H (i:=0) rfl (D1 w pb vs ty) (kS b hb) (by rw [hm];exact J'.2 rfl),hc.mono λr w' ⟨⟨ha,h⟩,f⟩=>⟨f,hk r w' ha (H.VJ f h).1 (H.VJ f h).2⟩⟩
end
def mu {s:ByteArray} {i:Nat} (h:i<s.size):s[i]? =some (gQ (bl s) i):=by
 rw [getElem?_pos s i h]
 unfold gQ
 rw [List.getD_eq_getElem?_getD,ie (show i<(bl s).length by rw [iH];exact h)]
 rfl
def SB {x:UInt8} {n:Nat} {A B:Prop} (hn:n<256) (h1:(x==UInt8.ofNat n)=true->A) (h2:(x==UInt8.ofNat n)=false->B):aW (((x.toNat:Nat):Int)==(n:Int)) A B:=by
 have e:x.toNat=n↔x=UInt8.ofNat n:=by
  rw [<-UInt8.toNat_inj,UInt8.toNat_ofNat']
  omega
 refine aY (λh=>h1 (by rw [beq_iff_eq,<-e];omega)) (λh=>h2 (by rw [beq_eq_false_iff_ne,Ne,<-e];omega))
def Jv {x:UInt8} {n:Nat} {A B:Prop} (hn:n<256) (h1:(x==UInt8.ofNat n)=false->A) (h2:(x==UInt8.ofNat n)=true->B):aW (((x.toNat:Nat):Int) !=(n:Int)) A B:=by
 have e:x.toNat=n↔x=UInt8.ofNat n:=by
  rw [<-UInt8.toNat_inj,UInt8.toNat_ofNat']
  omega
 refine gB (λh=>h1 (by rw [beq_eq_false_iff_ne,Ne,<-e];omega)) (λh=>h2 (by rw [beq_iff_eq,<-e];omega))
def Pt {p:UInt8->Prop} (h:∀x:Fin 256,p (UInt8.ofNat x.val)) (c:UInt8):p c:=by
 have:=h ⟨c.toNat,c.toNat_lt⟩
 simpa using this
def Yf:∀n:Fin 16,(aE #[48,49,50,51,52,53,54,55,56,57,97,98,99,100,101,102])[n.val]? =some (uB n.val):=by decide+kernel
def Bu (n:Nat) (h:n<16) (w:aA):aH aB g8 #[.i (n:Int)] w λr w'=>r=aJ (.int .u8 ((uB n).toNat:Int))/\bW w w':=
 enthymemeref04_digit.ok _ w _ ⟨by omega,_,Yf ⟨n,h⟩,rfl,Fr.refl _ _⟩
def Hi (c:UInt8) (w:aA):aH aB jd #[.int .u8 (c.toNat:Int)] w λr w'=>r=aJ (.bool (Tb c))/\bW w w':=by
 refine enthymemeref04_plain.ok _ w _ (bA (λh1=>bA (λh2=>Jv (n:=39) (by omega) (λh3=>⟨?_,Fr.refl _ _⟩) (λh3=>⟨?_,Fr.refl _ _⟩)) (λh2=>⟨?_,Fr.refl _ _⟩)) (λh1=>⟨?_,Fr.refl _ _⟩))
 .have e:(((c.toNat:Nat):Int) !=92)= !(c==92):=by
   have:=@Jv c 92 (((((c.toNat:Nat):Int) !=92)=true)/\(c==92)=false) (((((c.toNat:Nat):Int) !=92)=false)/\(c==92)=true)
   cases h:(((c.toNat:Nat):Int) !=92) with
   |true=>
    have h':c≠92:=λe=>by subst e;exact absurd h (by decide)
    rw [beq_eq_false_iff_ne.2 h'];rfl
   |false=>
    have h':c=92:=by
     rw [<-UInt8.toNat_inj]
     have:=(bne_eq_false_iff_eq.1 h)
     show c.toNat=92
     omega
    subst h';rfl
  rw [e]
  unfold Tb
  rw [aO (show 32<=c.toNat by omega),aO (show c.toNat<=126 by omega)]
  have h3:(c==39)=false:=h3
  rw [h3];rfl
 .have h3:(c==39)=true:=h3
  unfold Tb
  rw [h3];simp
 .unfold Tb
  rw [aK (show ¬c.toNat<=126 by omega)];simp
 .unfold Tb
  rw [aK (show ¬32<=c.toNat by omega)];simp
def UT:∀n:Fin 16,rf (uB n.val)=(n.val:Int):=by decide+kernel
def Y4:∀x:Fin 256,rf (UInt8.ofNat x.val)=-1\/∃n:Fin 16,uB n.val=UInt8.ofNat x.val:=by decide+kernel
def Y3:∀x:Fin 256,rf (UInt8.ofNat x.val)<16:=by decide+kernel
def x9 (c:UInt8) (w:aA):aH aB fM #[.int .u8 (c.toNat:Int)] w λr w'=>r=aJ (.int .i64 (rf c))/\bW w w':=by
 have loop:∀(d i:Nat) (w1:aA),i+d=16->(∀j,j<i->uB j≠c)->bW w w1->enthymemeref04_number.L0 c.toNat (i:Int) w1 λr w'=>r=aJ (.int .i64 (rf c))/\bW w w':=by
  intro d
  induction d with
  |zero=>
   intro i w1 hi hn f
   refine enthymemeref04_number.dE _ _ _ _ (aX (aK (by omega)) ⟨?_,f⟩)
   have:=Pt (p:=λc=>rf c=-1\/∃n:Fin 16,uB n.val=c) Y4 c
   rcases this with h|⟨n,h⟩
   .rw [h]
   .exact absurd h (hn n.val (by omega))
  |succ d rR=>
   intro i w1 hi hn f
   refine enthymemeref04_number.dE _ _ _ _ (bF (aO (by omega)) ((Bu i (by omega) w1).mono ?_))
   rintro _ w2 ⟨rfl,f2⟩
   refine ⟨_,rfl,aY (λh=>⟨?_,f.Az f2⟩) (λh=>?_)⟩
   .have e:uB i=c:=by rw [<-UInt8.toNat_inj];omega
    have:=UT ⟨i,by omega⟩
    rw [<-e]
    rw [this]
   .rw [bP _ (by omega)]
    refine rR (i+1) w2 (by omega) (λj hj=>?_) (f.Az f2)
    by_cases GH:j=i
    .subst GH;intro e;subst e;exact h rfl
    .exact hn j (by omega)
 exact enthymemeref04_number.ok _ w _ (loop 16 0 w (by omega) (λj h=>by omega) (Fr.refl _ _))
def MD (x:UInt8×Nat):cD:=aJ (.tuple #[.int .u8 (x.1.toNat:Int),.i (x.2:Int)])
def UW:∀x y:Fin 16,aC .u8 (aC .i64 ((aC .i64 (16 *(x.val:Int)))+(y.val:Int)))=((UInt8.ofNat ((16 *(x.val:Int)+(y.val:Int)).toNat)).toNat:Int):=by decide+kernel
def My {c:UInt8} (h:0<=rf c):∃x:Fin 16,rf c=(x.val:Int):=by
 have:=Pt (p:=λc=>rf c<16) Y3 c
 exact ⟨⟨(rf c).toNat,by omega⟩,by show rf c=(((rf c).toNat:Nat):Int);omega⟩
def ze (s:ByteArray) (i:Nat) (hi:i<=1000000) (w:aA):aH aB gJ #[.string s,.i (i:Int)] w λr w'=>r=MD (iR (bl s) i)/\bW w w':=by
 have e1:aC .i64 ((i:Int)+1)=((i+1:Nat):Int):=by rw [aS _ (by omega)];omega
 have e2:aC .i64 ((i:Int)+2)=((i+2:Nat):Int):=by rw [aS _ (by omega)];omega
 have e3:aC .i64 ((i:Int)+3)=((i+3:Nat):Int):=by rw [aS _ (by omega)];omega
 have e4:aC .i64 ((i:Int)+4)=((i+4:Nat):Int):=by rw [aS _ (by omega)];omega
 have hl:(bl s).length=s.size:=iH s
 have no:∀w',bW w w'->iR (bl s) i=(0,0)->enthymemeref04_byteAt.S1 w' (λr w'=>r=MD (iR (bl s) i)/\bW w w'):=λw' f h=>⟨by rw [h];rfl,f⟩
 have st:∀w',bW w w'->(aR (i+3<=(bl s).length)&&gQ (bl s) i==39&&gQ (bl s) (i+2)==39&&Tb (gQ (bl s) (i+1)))=false->enthymemeref04_byteAt.S0 s (i:Int) w' (λr w'=>r=MD (iR (bl s) i)/\bW w w'):=by
  intro w' f hq
  have nn:(aR (i+4<=(bl s).length)&&gQ (bl s) i==92&&gQ (bl s) (i+1)==120&&aR (0<=rf (gQ (bl s) (i+2)))&&aR (0<=rf (gQ (bl s) (i+3))))=false->∀w',bW w w'->enthymemeref04_byteAt.S1 w' (λr w'=>r=MD (iR (bl s) i)/\bW w w'):=λh w' f=>no w' f (by
   unfold iR
   rw [hq,h];rfl)
  show aW _ _ _
  rw [e4,e3,e2,e1]
  refine bA (λh4=>⟨by omega,_,mu (i:=i) (by omega),SB (n:=92) (by omega) (λha=>⟨by omega,_,mu (i:=i+1) (by omega),SB (n:=120) (by omega) (λhb=>⟨by omega,_,mu (i:=i+2) (by omega),(x9 _ w').mono ?_⟩) (λhb=>?_)⟩) (λha=>?_)⟩) (λh4=>?_)
  rotate_left
  .exact nn (by have hb:(gQ (bl s) (i+1)==120)=false:=hb;rw [hb];simp) w' f
  .exact nn (by have ha:(gQ (bl s) i==92)=false:=ha;rw [ha];simp) w' f
  .exact nn (by rw [aK (show ¬i+4<=(bl s).length by omega)];simp) w' f
  rintro _ w1 ⟨rfl,f1⟩
  refine ⟨_,rfl,bA (λhx=>⟨by omega,_,mu (i:=i+3) (by omega),(x9 _ w1).mono ?_⟩) (λhx=>nn (by rw [aK (show ¬0<=rf (gQ (bl s) (i+2)) by omega)];simp) w1 (f.Az f1))⟩
  rintro _ w2 ⟨rfl,f2⟩
  refine ⟨_,rfl,bA (λhy=>?_) (λhy=>nn (by rw [aK (show ¬0<=rf (gQ (bl s) (i+3)) by omega)];simp) w2 ((f.Az f1).Az f2))⟩
  have f3:bW w w2.drew:=((f.Az f1).Az f2).Az (Fr.drew _ _)
  refine (show wy w2 _ from ?_)
  refine ⟨by omega,_,mu (i:=i+2) (by omega),by omega,_,mu (i:=i+3) (by omega),(x9 _ _).mono ?_⟩
  rintro _ w4 ⟨rfl,f4⟩
  refine ⟨_,rfl,(x9 _ _).mono ?_⟩
  rintro _ w5 ⟨rfl,f5⟩
  refine ⟨_,rfl,?_,(f3.Az f4).Az f5⟩
  have ha:(gQ (bl s) i==92)=true:=ha
  have hb:(gQ (bl s) (i+1)==120)=true:=hb
  have eb:iR (bl s) i=(UInt8.ofNat ((16 *rf (gQ (bl s) (i+2))+rf (gQ (bl s) (i+3))).toNat),4):=by
   unfold iR
   rw [hq,ha,hb,aO (show i+4<=(bl s).length by omega),aO (show 0<=rf (gQ (bl s) (i+2)) by omega),aO (show 0<=rf (gQ (bl s) (i+3)) by omega)]
   rfl
  rw [eb]
  obtain ⟨x,FK⟩:=My (c:=gQ (bl s) (i+2)) (by omega)
  obtain ⟨y,hy'⟩:=My (c:=gQ (bl s) (i+3)) (by omega)
  rw [FK,hy',UW x y]
  rfl
 refine enthymemeref04_byteAt.ok _ _ w _ ?_
 rw [e3,e2,e1]
 refine bA (λh3=>⟨by omega,_,mu (i:=i) (by omega),SB (n:=39) (by omega) (λha=>⟨by omega,_,mu (i:=i+2) (by omega),SB (n:=39) (by omega) (λhb=>⟨by omega,_,mu (i:=i+1) (by omega),(Hi _ w).mono ?_⟩) (λhb=>?_)⟩) (λha=>?_)⟩) (λh3=>?_)
 rotate_left
 .exact st w (Fr.refl _ _) (by have hb:(gQ (bl s) (i+2)==39)=false:=hb;rw [hb];simp)
 .exact st w (Fr.refl _ _) (by have ha:(gQ (bl s) i==39)=false:=ha;rw [ha];simp)
 .exact st w (Fr.refl _ _) (by rw [aK (show ¬i+3<=(bl s).length by omega)];simp)
 rintro _ w1 ⟨rfl,f1⟩
 refine ⟨_,rfl,bR (λhp=>⟨by omega,_,mu (i:=i+1) (by omega),?_,f1⟩) (λhp=>st w1 f1 (by rw [hp];simp))⟩
 have ha:(gQ (bl s) i==39)=true:=ha
 have hb:(gQ (bl s) (i+2)==39)=true:=hb
 unfold iR
 rw [ha,hb,hp,aO (show i+3<=(bl s).length by omega)]
 rfl
def zc (s:BL) (i:Nat):(iR s i).2<=4/\(0<(iR s i).2->i+(iR s i).2<=s.length):=by
 unfold iR
 split
 .rename_i h
  simp only [Bool.and_eq_true,decide_eq_true_eq] at h
  exact ⟨by simp,λ_=>h.1.1.1⟩
 .split
  .rename_i h
   simp only [Bool.and_eq_true,decide_eq_true_eq] at h
   exact ⟨by simp,λ_=>h.1.1.1.1⟩
  .exact ⟨by simp,λh=>by simp at h⟩
def rgV (g:RgQ):cD:=aJ (.tuple #[.agg #[.i (g.k:Int),.int .u8 (g.lo.toNat:Int),.int .u8 (g.hi.toNat:Int),.slice none 0 0],.i (g.n:Int)])
def Ct (s:BL) (i:Nat):i+(jt s i).n<=s.length\/(jt s i).n=0:=by
 unfold jt
 simp only
 have h:=zc s i
 split
 .rename_i h0
  exact .inl (h.2 h0)
 .split
  .exact .inr rfl
  .split
   .exact .inr rfl
   .split
    .exact .inr rfl
    .rename_i h1
     simp only [not_or] at h1
     left
     show i+(_+1 - i)<=s.length
     omega
def Nt (s:ByteArray) (hs:s.size<=100000) (i:Nat) (hi:i<s.size) (w:aA):aH aB kf #[.string s,.i (i:Int)] w λr w'=>r=rgV (jt (bl s) i)/\bW w w':=by
 have hl:(bl s).length=s.size:=iH s
 refine enthymemeref04_rangeAt.dQ _ _ w _ ((og [] (by simp)).cC λb w1 H1=>H1.bC (ze s i (by omega) w1) ?_)
 rintro _ w2 rfl H2
 refine ⟨_,_,rfl,bA (λh0=>H2.bH λw3 H3=>⟨?_,H3.fr⟩) (λh0=>⟨by omega,_,mu (i:=i) hi,Jv (n:=91) (by omega) (λh1=>H2.bH λw3 H3=>⟨?_,H3.fr⟩) (λh1=>?_)⟩)⟩
 .unfold jt
  simp only
  rw [aN (by omega)]
  rfl
 .have h1:(gQ (bl s) i==91)=false:=h1
  unfold jt
  simp only
  rw [aI (by omega),aN (beq_eq_false_iff_ne.1 h1)]
  rfl
 have h1:gQ (bl s) i=91:=eq_of_beq h1
 rw [bP _ (by omega)]
 refine H2.bC (ze s (i+1) (by omega) w2) ?_
 rintro _ w3 rfl H3
 have b1:=zc (bl s) (i+1)
 have bad:∀(w':aA),LH F0 w w' [.g b] []->jt (bl s) i=KI->enthymemeref04_rangeAt.gW b 0 0 0 ⟨none,0,0⟩ w' λr w'=>r=rgV (jt (bl s) i)/\bW w w':=λw' H' he=>H'.bH λwP H''=>⟨by rw [he];rfl,H''.fr⟩
 have To:∀(w':aA),LH F0 w w' [.g b] []->jt (bl s) i=KI->enthymemeref04_rangeAt.ir b 0 0 0 ⟨none,0,0⟩ w' λr w'=>r=rgV (jt (bl s) i)/\bW w w':=λw' H' he=>H'.bH λwP H''=>⟨by rw [he];rfl,H''.fr⟩
 have DG:jt (bl s) i=(let a:=iR (bl s) (i+1)
   let dash:=i+1+a.2
   if a.2=0\/(bl s).length<=dash\/gQ (bl s) dash≠45 then KI else
   let c:=iR (bl s) (dash+1)
   let fin:=dash+1+c.2
   if c.2=0\/(bl s).length<=fin\/gQ (bl s) fin≠93\/c.1.toNat<a.1.toNat then KI else ⟨2,a.1,c.1,fin+1 - i⟩):=by
  conv=>lhs;unfold jt
  simp only
  rw [aI (by omega),aI (by rw [h1];simp)]
 simp only at DG
 generalize iR (bl s) (i+1)=a at b1 DG
 refine ⟨_,_,rfl,?_⟩
 have ed:aC .i64 (((i+1:Nat):Int)+(a.2:Int))=((i+1+a.2:Nat):Int):=by rw [aS _ (by omega)];omega
 show enthymemeref04_rangeAt.eX s (i:Int) b 0 0 0 ⟨none,0,0⟩ (a.1.toNat:Int) (a.2:Int) (aC .i64 (((i+1:Nat):Int)+(a.2:Int))) w3 _
 rw [ed]
 refine aY (λe0=>bad w3 H3 (by rw [DG,aN (.inl (by omega))])) (λe0=>bA (λe1=>bad w3 H3 (by rw [DG,aN (.inr (.inl (by omega)))])) (λe1=>⟨by omega,_,mu (i:=i+1+a.2) (by omega),Jv (n:=45) (by omega) (λe2=>bad w3 H3 (by rw [DG,aN (.inr (.inr (beq_eq_false_iff_ne.1 e2)))])) (λe2=>?_)⟩))
 have e2:gQ (bl s) (i+1+a.2)=45:=eq_of_beq e2
 rw [aI (by rw [e2];simp;omega)] at DG
 rw [bP _ (by omega)]
 refine H3.bC (ze s (i+1+a.2+1) (by omega) w3) ?_
 rintro _ w4 rfl H4
 have b2:=zc (bl s) (i+1+a.2+1)
 generalize iR (bl s) (i+1+a.2+1)=c at b2 DG
 refine ⟨_,_,rfl,?_⟩
 have ef:aC .i64 (((i+1+a.2+1:Nat):Int)+(c.2:Int))=((i+1+a.2+1+c.2:Nat):Int):=by rw [aS _ (by omega)];omega
 show enthymemeref04_rangeAt.fN s (i:Int) b 0 0 0 ⟨none,0,0⟩ (a.1.toNat:Int) (c.1.toNat:Int) (c.2:Int) (aC .i64 (((i+1+a.2+1:Nat):Int)+(c.2:Int))) w4 _
 rw [ef]
 refine aY (λe0=>To w4 H4 (by rw [DG,aN (.inl (by omega))])) (λe0=>bA (λe1=>To w4 H4 (by rw [DG,aN (.inr (.inl (by omega)))])) (λe1=>⟨by omega,_,mu (i:=i+1+a.2+1+c.2) (by omega),Jv (n:=93) (by omega) (λe2=>To w4 H4 (by rw [DG,aN (.inr (.inr (.inl (beq_eq_false_iff_ne.1 e2))))])) (λe3=>bA (λe4=>To w4 H4 (by rw [DG,aN (.inr (.inr (.inr (by omega))))])) (λe4=>H4.bH λw5 H5=>⟨?_,H5.fr⟩))⟩))
 have e3:gQ (bl s) (i+1+a.2+1+c.2)=93:=eq_of_beq e3
 rw [DG,aI (by rw [e3];simp;omega)]
 have ee:aC .i64 ((aC .i64 (((i+1+a.2+1+c.2:Nat):Int)+1)) - (i:Int))=((i+1+a.2+1+c.2+1 - i:Nat):Int):=by
  rw [bP _ (by omega),aS _ (by omega)];omega
 rw [ee]
 rfl
def kX.c (t:kX):List aD:=[.string (ba t.tx),.i (t.at_:Int),.i (t.k:Int),.int .u8 (t.lo.toNat:Int),.int .u8 (t.hi.toNat:Int),.slice none 0 0]
def M1 (t:kX):t.c.length=6:=rfl
def Js (l:List kX) (t:kX):l.flatMap kX.c++t.c=(l++[t]).flatMap kX.c:=by simp
def Jr {w:aA} {s:Sl} {l:List kX} (h:lN 6 w s (l.flatMap kX.c)):s.n=l.length:=by
 have:=h.1
 rw [qo kX.c 6 M1] at this
 omega
def Qo:jb aB cQ cZ (.agg #[.s0,.i 0,.i 0,.int .u8 0,.int .u8 0,.slice none 0 0]) 6 64:=⟨by kernel_rfl,by kernel_rfl,rfl,by decide,by decide⟩
def V6 (w:aA) (l:List kX) (r:cD) (w':aA):Prop:=∃s':Sl,r=aJ s'.v/\bD w' cZ 6 s' (l.flatMap kX.c)/\∀x∈bQ s',w.heap.size<=x
def XZ (s:ByteArray) (i j:Nat):s.extract i j=ba (((bl s).take j).drop i):=by
 have:bl (s.extract i j)=((bl s).take j).drop i:=by
  unfold bl
  rw [ByteArray.data_extract,Array.toList_extract,List.extract_eq_take_drop]
  rw [List.drop_take]
 rw [<-this,rA]
def aa3 (c:UInt8) {A B:Prop} (h1:wk c=true->A) (h2:wk c=false->B):aW (aR (((c.toNat:Nat):Int)>=97)) (aW (aR (((c.toNat:Nat):Int)<=122)) A B) B:=
 bA (λha=>bA (λhb=>h1 (by unfold wk;rw [aO (show 97<=c.toNat by omega),aO (show c.toNat<=122 by omega)];rfl)) (λhb=>h2 (by unfold wk;rw [aK (show ¬c.toNat<=122 by omega)];simp))) (λha=>h2 (by unfold wk;rw [aK (show ¬97<=c.toNat by omega)];simp))
def MN (s:BL) (i:Nat):∀(f n:Nat),i+n<=s.length->n<=DM s i f n/\i+DM s i f n<=s.length
 |0,n,h=>⟨Nat.le_refl _,h⟩
 |f+1,n,h=>by
  unfold DM
  split
  .rename_i h0
   simp only [Bool.and_eq_true,decide_eq_true_eq] at h0
   have:=MN s i f (n+1) (by omega)
   exact ⟨by omega,this.2⟩
  .exact ⟨Nat.le_refl _,h⟩
def PH (s:ByteArray) (hs:s.size<=100000) (w:aA):aH aB kD #[.string s] w λr w'=>V6 w (vI (bl s)) r w'/\bW w w':=by
 have hl:(bl s).length=s.size:=iH s
 let R:aT:=λr w'=>V6 w (vI (bl s)) r w'/\bW w w'
 have fin:∀(acc:List kX) (sl:Sl) (w1:aA),acc.length<=s.size->vI (bl s)=acc++[⟨[],(bl s).length,0,0,0⟩]->LH F0 w w1 [.row cZ 6 sl (acc.flatMap kX.c)] []->
   gi w1 (.cells #[.s0,.i ((s.size:Nat):Int),.i 0,.int .u8 0,.int .u8 0,.slice none 0 0] cZ) λw7=>
 ∃(t81:Sl) (w8:aA),Sem.run aB (Builtin.append_ #[cQ,cQ] cQ #[sl.v,.slice (some (nb w1)) 1 1]) w7=.ok (t81.v) w8/\R (aJ (t81.v)) w8:=by
  intro acc sl w1 ha he H
  have xu:=Jr (H.get 0:bD _ _ _ _ _).jG
  refine H.XW 0 Qo rfl (λs' w2 H2 _ _=>⟨⟨s',rfl,?_,λx hx=>(H2.new _ (dI (i:=0) rfl) x hx).resolve_right id⟩,H2.fr⟩) (by omega)
  rw [he,<-Js]
  exact H2.get 0
 have loop:∀(f i:Nat) (acc:List kX) (sl:Sl) (w1:aA),s.size<f+i->i<=s.size->acc.length<=i->vI (bl s)=acc++Gv (bl s) f i->LH F0 w w1 [.row cZ 6 sl (acc.flatMap kX.c)] []->enthymemeref04_Tokens.fO s sl (i:Int) w1 R:=by
  intro f
  induction f with
  |zero=>intro i acc sl w1 hf hi;omega
  |succ f ihf=>
   intro i acc sl w1 hf hi Kr he H
   refine enthymemeref04_Tokens.bT _ _ _ _ _ (bA (λjO=>⟨by omega,_,mu (i:=i) (by omega),?_⟩) (λjO=>fin acc sl w1 (by omega) (by
    rw [he];unfold Gv;rw [aN (by omega)]) H))
   unfold Gv at he
   rw [aI (by omega)] at he
   refine SB (n:=32) (by omega) (λJF=>?_) (λJF=>?_)
   .have JF:gQ (bl s) i=32:=eq_of_beq JF
    rw [aN JF] at he
    rw [bP _ (by omega)]
    exact ihf (i+1) acc sl w1 (by omega) (by omega) (by omega) he H
   have JF:gQ (bl s) i≠32:=beq_eq_false_iff_ne.1 JF
   rw [aI JF] at he
   simp only at he
   refine H.call (Nt s hs i (by omega) w1) ?_
   rintro _ w2 rfl H2
   have hr:=Ct (bl s) i
   generalize jt (bl s) i=g at he hr
   refine ⟨_,_,_,⟨none,0,0⟩,_,rfl,H2.cC λb w3 H3=>?_⟩
   have H3:LH F0 w w3 [.row cZ 6 sl (acc.flatMap kX.c),.g b] []:=H3
   have one:∀(n:Nat) (w4:aA),1<=n->i+n<=s.size->vI (bl s)=acc++⟨((bl s).take (i+n)).drop i,i,g.k,g.lo,g.hi⟩::Gv (bl s) f (i+n)->LH F0 w w4 [.row cZ 6 sl (acc.flatMap kX.c),.g b] []->
     enthymemeref04_Tokens.fN s sl (i:Int) b (g.k:Int) (g.lo.toNat:Int) (g.hi.toNat:Int) ⟨none,0,0⟩ (n:Int) w4 R:=by
    intro n w4 hn vk hen H4
    show (0:Int)<=_/\_
    have ei:aC .i64 ((i:Int)+(n:Int))=((i+n:Nat):Int):=by rw [aS _ (by omega)];omega
    rw [ei,Int.toNat_natCast,Int.toNat_natCast,XZ]
    refine ⟨by omega,by omega,by omega,by omega,H4.bH λw5 H5=>?_⟩
    have xu:=Jr (H5.get 0:bD _ _ _ _ _).jG
    refine H5.wV 0 Qo rfl (λs' w6 H6=>?_) (by omega)
    refine ihf (i+n) (acc++[⟨((bl s).take (i+n)).drop i,i,g.k,g.lo,g.hi⟩]) s' w6 (by omega) (by omega) (by simp;omega) (by rw [hen];simp) ?_
    rw [<-Js]
    exact H6.take 1
   refine aY (λh0=>H3.bH λw4 H4=>?_) (λh0=>H3.bH λw4 H4=>one g.n w4 (by omega) (by omega) (by rw [he,aI (by omega)]) H4)
   have h0:g.n=0:=by omega
   rw [aN h0] at he
   have word:∀(e n:Nat) (w5:aA),s.size<=e+(i+n)->1<=n->i+n<=s.size->DM (bl s) i (bl s).length 1=DM (bl s) i e n->LH F0 w w5 [.row cZ 6 sl (acc.flatMap kX.c),.g b] []->
     enthymemeref04_Tokens.mC s sl (i:Int) b (g.k:Int) (g.lo.toNat:Int) (g.hi.toNat:Int) ⟨none,0,0⟩ (n:Int) w5 R:=by
    intro e
    induction e with
    |zero=>
     intro n w5 hen hn vk hr H5
     have stop:enthymemeref04_Tokens.fN s sl (i:Int) b (g.k:Int) (g.lo.toNat:Int) (g.hi.toNat:Int) ⟨none,0,0⟩ (n:Int) w5 R:=one n w5 hn vk (by rw [he,hr];rfl) H5
     have ei:aC .i64 ((i:Int)+(n:Int))=((i+n:Nat):Int):=by rw [aS _ (by omega)];omega
     refine enthymemeref04_Tokens.dR _ _ _ _ _ _ _ _ _ _ _ ?_
     rw [ei]
     refine ⟨by omega,_,mu (i:=i) (by omega),bR (λ_=>⟨by omega,_,mu (i:=i) (by omega),bR (λ_=>aX (aK (by omega)) stop) (λ_=>stop)⟩) (λ_=>stop)⟩
    |succ e ihe=>
     intro n w5 hen hn vk hr H5
     have ei:aC .i64 ((i:Int)+(n:Int))=((i+n:Nat):Int):=by rw [aS _ (by omega)];omega
     have stop:(wk (gQ (bl s) i)&&aR (i+n<(bl s).length)&&wk (gQ (bl s) (i+n)))=false->enthymemeref04_Tokens.fN s sl (i:Int) b (g.k:Int) (g.lo.toNat:Int) (g.hi.toNat:Int) ⟨none,0,0⟩ (n:Int) w5 R:=λh=>one n w5 hn vk (by
      rw [he,hr]
      conv=>lhs;unfold DM
      rw [h];rfl) H5
     refine enthymemeref04_Tokens.dR _ _ _ _ _ _ _ _ _ _ _ ?_
     rw [ei]
     refine ⟨by omega,_,mu (i:=i) (by omega),?_⟩
     have go:wk (gQ (bl s) i)=true->aW (aR (((i+n:Nat):Int)<((s.size:Nat):Int))) ((0:Int)<=((i+n:Nat):Int)/\∃Xq:UInt8,s[aF ((i+n:Nat):Int)]? =some Xq/\aW (aR (((Xq.toNat:Nat):Int)>=97)) ((0:Int)<=((i+n:Nat):Int)/\∃Xr:UInt8,s[aF ((i+n:Nat):Int)]? =some Xr/\aW (aR (((Xr.toNat:Nat):Int)<=122)) (enthymemeref04_Tokens.mC s sl (i:Int) b (g.k:Int) (g.lo.toNat:Int) (g.hi.toNat:Int) ⟨none,0,0⟩ (aC .i64 ((n:Int)+1)) w5 R) (enthymemeref04_Tokens.fN s sl (i:Int) b (g.k:Int) (g.lo.toNat:Int) (g.hi.toNat:Int) ⟨none,0,0⟩ (n:Int) w5 R)) (enthymemeref04_Tokens.fN s sl (i:Int) b (g.k:Int) (g.lo.toNat:Int) (g.hi.toNat:Int) ⟨none,0,0⟩ (n:Int) w5 R)) (enthymemeref04_Tokens.fN s sl (i:Int) b (g.k:Int) (g.lo.toNat:Int) (g.hi.toNat:Int) ⟨none,0,0⟩ (n:Int) w5 R):=by
      intro h1
      refine bA (λh2=>⟨by omega,_,mu (i:=i+n) (by omega),?_⟩) (λh2=>stop (by rw [aK (show ¬i+n<(bl s).length by omega)];simp))
      have key:wk (gQ (bl s) (i+n))=true->enthymemeref04_Tokens.mC s sl (i:Int) b (g.k:Int) (g.lo.toNat:Int) (g.hi.toNat:Int) ⟨none,0,0⟩ (aC .i64 ((n:Int)+1)) w5 R:=λh3=>by
       rw [bP _ (by omega)]
       refine ihe (n+1) w5 (by omega) (by omega) (by omega) ?_ H5
       rw [hr]
       conv=>lhs;unfold DM
       rw [h1,h3,aO (show i+n<(bl s).length by omega)];rfl
      have YR:wk (gQ (bl s) (i+n))=false->_:=λh3=>stop (by rw [h3];simp)
      have h:=aa3 (gQ (bl s) (i+n)) key YR
      exact MO h (λh=>⟨by omega,_,mu (i:=i+n) (by omega),h⟩) id
     have YR:wk (gQ (bl s) i)=false->_:=λh3=>stop (by rw [h3];simp)
     exact MO (aa3 (gQ (bl s) i) go YR) (λh=>⟨by omega,_,mu (i:=i) (by omega),h⟩) id
   exact word (bl s).length 1 w4 (by omega) (by omega) (by omega) rfl H4
 refine enthymemeref04_Tokens.dQ _ w _ ?_
 exact loop (s.size+1) 0 [] ⟨none,0,0⟩ w (by omega) (by omega) (by simp) (by unfold vI;rw [hl];rfl) ((og [] (by simp)).qb cZ 6)
abbrev rdC (s:Sl) (st:lV):List aD:=[s.v,.i (st.1:Int),.bool st.2]
abbrev qZ (pb:Nat) (s:Sl) (st:lV):En:=.c pb (rdC s st) km
abbrev rp (s:Sl) (l:List kX):En:=.jG 6 s (l.flatMap kX.c)
abbrev SA (pb:Nat) (s:Sl) (w:aA) (A:aT) (st:lV):aT:=λr w'=>(A r w'/\w'.heap[pb]? =some (.cells (rdC s st).toArray km (0,0)))/\Fr (·=pb) w w'
abbrev GX (pb:Nat) (s:Sl) (l:List kX) (st:lV) (w:aA):Prop:=LH (·=pb) w w [qZ pb s st] [rp s l]
def _root_.Go.W.LH.AL {M:Nat->Prop} {w0 w:aA} {L D:List En} {pb:Nat} {s:Sl} {l:List kX} {st:lV} (H:LH M w0 w (qZ pb s st::L) (rp s l::D)):GX pb s l st w:=
 LH.uf _ _ (by
  intro e he
  simp only [dT,gL,or_false] at he
  subst he
  exact ⟨H.get 0,λb hb=>J'.1 hb⟩) (by
  simp only [List.flatMap_cons,List.flatMap_nil,List.append_nil]
  exact (qZ pb s st).nd) (by
  intro e he
  simp only [dT,gL,or_false] at he
  subst he
  exact ⟨H.getD 0,λb hb e' lM=>by
   simp only [dT,gL,or_false] at lM
   subst lM
   exact H.dj _ List.mem_cons_self b hb _ List.mem_cons_self⟩)
structure Lq (w:aA) (p:Addr) (i:Nat) (t:kX):Prop where
 c0:w.cell? ((p.add (i *6)).add 0)=some (.string (ba t.tx))
 c1:w.cell? ((p.add (i *6)).add 1)=some (.i (t.at_:Int))
 c2:w.cell? ((p.add (i *6)).add 2)=some (.i (t.k:Int))
 c3:w.cell? ((p.add (i *6)).add 3)=some (.int .u8 (t.lo.toNat:Int))
 c4:w.cell? ((p.add (i *6)).add 4)=some (.int .u8 (t.hi.toNat:Int))
 c5:w.cell? ((p.add (i *6)).add 5)=some (.slice none 0 0)
def CT {w:aA} {s:Sl} {l:List kX} (h:lN 6 w s (l.flatMap kX.c)) {i:Nat} (hi:i<l.length) {K:Addr->Prop} (hk:∀p,s.a=some p->Lq w p i (kO l i)->K p):gT s.a K:=by
 have hg:l[i]? =some (kO l i):=by
  unfold kO
  rw [List.getD_eq_getElem?_getD,ie hi];rfl
 exact qR.elem (f:=kX.c) (sz:=6) M1 (by omega) h.2.2 hg λp hp hc=>hk p hp ⟨hc 0 _ rfl,hc 1 _ rfl,hc 2 _ rfl,hc 3 _ rfl,hc 4 _ rfl,hc 5 _ rfl⟩
def JD (l:List kX):Prop:=0<l.length/\(kO l (l.length - 1)).tx=[]/\(kO l (l.length - 1)).k=0
section
variable {pb:Nat} {s:Sl} {l:List kX} {st:lV} {w:aA}
def PW (H:GX pb s l st w) (hi:st.1<l.length):aH aB fK #[.pointer (some (bO pb))] w λr w'=>r=aJ (.string (ba (pC l st)))/\bW w w':=by
 have et:st.2=true->pC l st=[32]:=λh=>by unfold pC;rw [h];rfl
 have ef:st.2=false->pC l st=(kO l st.1).tx:=λh=>by unfold pC;rw [h];rfl
 generalize pC l st=u at et ef
 refine enthymemeref04_reader_see.ok _ w _ ⟨st.2,H.ld 0 2,bR (λhb=>⟨?_,Fr.refl _ _⟩) (λhb=>?_)⟩
 .rw [et hb];rfl
 rw [ef hb]
 have H1:LH (·=pb) w w.drew [qZ pb s st] [rp s l]:=H.drew
 have hn:=Jr (H1.getD 0:lN _ _ _ _)
 refine ⟨s,H1.ld 0 0,_,H1.ld 0 1,by omega,by omega,CT (H1.getD 0) hi λp hp c=>⟨ba (kO l st.1).tx,?_,rfl,Fr.drew _ _⟩⟩
 rw [Int.toNat_natCast]
 exact c.c0
def DW (a b:BL):((ba a).toList==(ba b).toList)=(a==b):=by
 rw [ByteArray.toList_eq,ByteArray.toList_eq]
 rfl
def Io (hl:JD l) (hi:st.1<l.length) (hs:pC l st≠[]) (hb:st.2=false):st.1+1<l.length:=by
 rcases Nat.lt_or_ge (st.1+1) l.length with h|h
 .exact h
 .exfalso
  apply hs
  have e:st.1=l.length - 1:=by omega
  unfold pC
  rw [hb,e]
  exact hl.2.1
def rM (hl:JD l) (hi:st.1<l.length) (u:BL) (hu:u≠[32]):(ju l u st).2.1<l.length:=by
 unfold ju
 cases he:pC l st==u with
 |false=>exact hi
 |true=>
  have he:=eq_of_beq he
  cases hem:u.isEmpty with
  |true=>exact hi
  |false=>
   show st.1+1<l.length
   refine Io hl hi (λh=>?_) ?_
   .rw [h] at he;subst he;cases hem
   .cases hb:st.2 with
    |false=>rfl
    |true=>
     exfalso;apply hu
     rw [<-he];unfold pC;rw [hb];rfl
def wX (H:GX pb s l st w) (hi:st.1<l.length) (rq:l.length<=1000000) (u:BL):aH aB cS #[.pointer (some (bO pb)),.string (ba u)] w (SA pb s w (λr _=>r=aJ (.bool (ju l u st).1)) (ju l u st).2):=by
 refine enthymemeref04_reader_take.ok _ _ w _ (H.call (PW H hi) ?_)
 rintro _ w1 rfl H1
 refine ⟨_,rfl,?_⟩
 dsimp only
 rw [DW]
 have SS:((ba u).toList==(aE #[]).toList)=u.isEmpty:=by
  have:aE #[]=ba []:=rfl
  rw [this,DW]
  cases u<;>rfl
 rw [SS]
 refine fP (λhe=>⟨⟨?_,?_⟩,H1.fr⟩) (λhe=>fP (λh0=>⟨_,H1.ld 0 1,?_⟩) (λh0=>⟨⟨?_,?_⟩,H1.fr⟩))
 .unfold ju;rw [he];rfl
 .have:(ju l u st).2=st:=by unfold ju;rw [he];rfl
  rw [this];exact H1.get 0
 .rw [bP _ (by omega)]
  refine H1.st 0 1 rfl λw2 H2=>⟨⟨?_,?_⟩,H2.fr⟩
  .unfold ju;rw [he];rfl
  .have:(ju l u st).2=(st.1+1,st.2):=by unfold ju;rw [he,h0];rfl
   rw [this];exact H2.get 0
 .unfold ju;rw [he];rfl
 .have:(ju l u st).2=st:=by unfold ju;rw [he,h0];rfl
  rw [this];exact H1.get 0
def Iy (u:BL):ss l u st=bif (ju l u st).1 then (ju l u st).2 else ((ju l u st).2.1,true):=by
 unfold ss
 generalize ju l u st=x
 obtain ⟨b,eU⟩:=x
 cases b<;>rfl
def vt (hl:JD l) (hi:st.1<l.length) (u:BL) (hu:u≠[32]):(ss l u st).1<l.length:=by
 rw [Iy]
 have:=rM hl hi u hu
 cases (ju l u st).1<;>exact this
def Bs (H:GX pb s l st w) (hi:st.1<l.length) (rq:l.length<=1000000) (u:BL):aH aB dM #[.pointer (some (bO pb)),.string (ba u)] w (SA pb s w (λr _=>r=aJ (.tuple #[])) (ss l u st)):=by
 refine enthymemeref04_reader_need.ok _ _ w _ (H.Bx (wX H hi rq u) ?_)
 rintro _ w1 rfl H1 _
 rw [Iy]
 refine ⟨_,rfl,fP (λhb=>H1.st 0 2 rfl λw2 H2=>⟨⟨rfl,?_⟩,H2.fr⟩) (λhb=>⟨⟨rfl,?_⟩,H1.fr⟩)⟩
 .rw [hb];exact H2.get 0
 .rw [hb];exact H1.get 0
def PK (H:GX pb s l st w) (hi:st.1<l.length):aH aB iz #[.pointer (some (bO pb))] w λr w'=>r=aJ (.bool (AT l st))/\bW w w':=by
 refine enthymemeref04_reader_begins.ok _ w _ ((PW H hi).mono ?_)
 rintro _ w1 ⟨rfl,f1⟩
 have H1:=H.qx f1
 refine ⟨_,rfl,st.2,H1.ld 0 2,?_⟩
 have e:∀u:List UInt8,((ba (pC l st)).toList==(ba u).toList)=(pC l st==u):=λu=>DW _ _
 have e0:=e []
 have e1:=e [41]
 have e2:=e [44]
 have e3:=e [124]
 have e4:=e [38]
 unfold AT
 show aW _ (aW (!((ba (pC l st)).toList==(ba []).toList)) (aW (!((ba (pC l st)).toList==(ba [41]).toList)) (aW (!((ba (pC l st)).toList==(ba [44]).toList)) (aW (!((ba (pC l st)).toList==(ba [124]).toList)) (Ending.returned (.bool (!((ba (pC l st)).toList==(ba [38]).toList)))=_/\bW w w1) _) _) _) _) _
 rw [e0,e1,e2,e3,e4]
 cases st.2<;>cases pC l st==[]<;>cases pC l st==[41]<;>cases pC l st==[44]<;>cases pC l st==[124]<;>first |exact ⟨rfl,f1⟩|skip
end
def Ff (k:Int) (s:Sl) (l:List Rt) (w:aA) (h:(fD s l).P w):aH aB eC #[.i k,s.v] w λr w'=>qT (fD s l).fp w (xi k (Rt.cR l)) r w'/\bW w w':=by
 have nr:=Rt.cX (gG.1 h).1
 refine enthymemeref04_group.dQ _ _ w _ ((Cc h).cC λb w1 H1=>aY (λh1=>?_) (λh1=>H1.bH λw2 H2=>⟨⟨.mk k 0 0 s l,rfl,?_,?_,λb hb=>.inr hb⟩,H2.fr⟩))
 .match l,nr with
  |[],nr=>simp at nr;omega
  |a::b::m,nr=>simp at nr;omega
  |[a],nr=>
   refine ⟨by omega,by omega,Rt.at' (gG.1 (show (fD s [a]).P w1 from H1.getD 0)).1 (i:=0) rfl λp hp c=>⟨_,_,_,_,c.c0,c.c1,c.c2,c.c3,H1.bH λw2 H2=>⟨⟨a,rfl,rfl,?_,λb hb=>.inr ?_⟩,H2.fr⟩⟩⟩
   .exact (gG.1 (show (fD s [a]).P w2 from H2.getD 0)).2.mem (by simp)
   .exact qD.2 (.inr (Rt.bU.2 ⟨a,by simp,hb⟩))
 .show Rx.mk k 0 0 (Rt.cR l)=_
  match l,nr with
  |[],nr=>rfl
  |[a],nr=>simp at nr;omega
  |a::b::m,nr=>rfl
 .have:=gG.1 (show (fD s l).P w2 from H2.getD 0)
  unfold Rt.P
  exact this
structure Pj (s:Sl) (l:List kX) (n:Nat):Prop where
 expr:∀(pb:Nat) (st:lV) (w:aA) (x:Rx) (eU:lV),s8 l n st=some (x,eU)->st.1<l.length->GX pb s l st w->aH aB dK #[.pointer (some (bO pb))] w (SA pb s w (λr w'=>qz w x r w'/\eU.1<l.length) eU)
 aaz:∀(pb:Nat) (st:lV) (w:aA) (x:Rx) (eU:lV),yd l n st=some (x,eU)->st.1<l.length->GX pb s l st w->aH aB dZ #[.pointer (some (bO pb))] w (SA pb s w (λr w'=>qz w x r w'/\eU.1<l.length) eU)
 seq:∀(pb:Nat) (st:lV) (w:aA) (x:Rx) (eU:lV),Gl l n st=some (x,eU)->st.1<l.length->GX pb s l st w->aH aB eI #[.pointer (some (bO pb))] w (SA pb s w (λr w'=>qz w x r w'/\eU.1<l.length) eU)
 item:∀(pb:Nat) (st:lV) (w:aA) (x:Rx) (eU:lV),vl l n st=some (x,eU)->st.1<l.length->GX pb s l st w->aH aB dL #[.pointer (some (bO pb))] w (SA pb s w (λr w'=>qz w x r w'/\eU.1<l.length) eU)
 atom:∀(pb:Nat) (st:lV) (w:aA) (x:Rx) (eU:lV),Bk l n st=some (x,eU)->st.1<l.length->GX pb s l st w->aH aB gD #[.pointer (some (bO pb))] w (SA pb s w (λr w'=>qz w x r w'/\eU.1<l.length) eU)
 kids:∀(pb:Nat) (st:lV) (w:aA) (m:List Rx) (eU:lV),B8 l n st=some (m,eU)->st.1<l.length->GX pb s l st w->aH aB gE #[.pointer (some (bO pb))] w (SA pb s w (λr w'=>(∃(sl:Sl) (a:List Rt),r=aJ sl.v/\Rt.cR a=m/\(fD sl a).P w'/\∀b∈(fD sl a).fp,w.heap.size<=b)/\eU.1<l.length) eU)
def A3 {M:Nat->Prop} {w0 w:aA} {L D:List En} {pb:Nat} {s:Sl} {st:lV} (H:LH M w0 w (qZ pb s st::L) D) (i:Nat) {e:En} (hi:L[i]? =some e) {b:Nat} (hb:b∈e.fp):b≠pb:=λh=>
 qX H.nd (i:=i+1) (by simpa using hi) (j:=0) rfl (by omega) b hb (J'.2 h)
def _root_.Go.W.LH.Hx {M:Nat->Prop} {w0 w:aA} {L D:List En} (H:LH M w0 w L D) (j:Nat) {t:Rt} (hj:D[j]? =some (.tree t):=by rfl):LH M w0 w L (D++[.trees [t]]):=by
 refine H.pS _ (Fr.refl _ _) (Rt.qu λt' ht=>?_) λb hb=>.inr (.inr ?_)
 .simp at ht;subst ht;exact H.getD j hj
 .obtain ⟨t',ht,fA⟩:=Rt.bU.1 (aV.1 hb)
  simp at ht
  rw [ht] at fA
  exact ⟨_,dI hj,aV.2 fA⟩
section
variable {s:Sl} {l:List kX} {n:Nat}
def Ed (eL:JD l) (rq:l.length<=1000000) (ih:∀m,m<=n->Pj s l m) (pb:Nat) (w:aA) (x:Rx) (eU:lV):∀(f:Nat),f<=n->∀(acc:List Rt) (sl:Sl) (b2:Nat) (w1:aA) (st:lV),DS l f (Rt.cR acc) st=some (x,eU)->st.1<l.length->acc.length+f<=1000000->(∀b∈Rt.iD acc,w.heap.size<=b)->
  LH (·=pb) w w1 [qZ pb s st,.g b2,.row aG 4 sl (acc.flatMap Rt.c)] [rp s l,.trees acc]->
  enthymemeref04_reader_expr.fO (bO pb) b2 0 0 0 ⟨none,0,0⟩ sl w1 (SA pb s w (λr w'=>qz w x r w'/\eU.1<l.length) eU)
 |0,_=>λacc sl b2 w1 st he=>by unfold DS at he;cases he
 |f+1,hf=>λacc sl b2 w1 st he hi Kr El H=>by
  have xu:=Rt.cX (H.get 2:bD _ _ _ _ _).jG
  unfold DS at he
  have fin:∀(w2:aA) (my:lV),my.1<l.length->some (xi 4 (Rt.cR acc),my)=some (x,eU)->LH (·=pb) w w2 [qZ pb s my,.g b2,.row aG 4 sl (acc.flatMap Rt.c)] [rp s l,.trees acc]->
    xK [b2] eC #[.i 4,sl.v] w2 λJk Jl Jm Jn w8=>loc [b2] w8 λAO=>SA pb s w (λr w'=>qz w x r w'/\eU.1<l.length) eU (aJ (.agg #[.i Jk,.int .u8 Jl,.int .u8 Jm,Jn.v])) AO:=by
   intro w2 my JG kT H2
   simp only [Option.some.injEq,Prod.mk.injEq] at kT
   obtain ⟨rfl,rfl⟩:=kT
   have q5:∀b∈(fD sl acc).fp,w.heap.size<=b:=λb hb=>by
    rcases qD.1 hb with hb|hb
    .exact (H2.new _ (dI (i:=2) rfl) b (gP hb)).resolve_right (A3 H2 1 rfl (gP hb))
    .exact El b hb
   have H3:LH (·=pb) w w2 [qZ pb s my,.g b2] [rp s l,.trees acc,Rt.row sl acc,.tree (fD sl acc)]:=H2.K7 2 1 0 0 0
   refine H3.Bz (Ff 4 sl acc w2 (H3.getD 3)) (λb hb=>⟨_,dI (i:=3) rfl,aV.2 hb⟩) λt w3 ht H4 ft=>?_
   refine ⟨_,_,_,t.s,rfl,H4.bH λw4 H5=>⟨⟨⟨⟨t,rfl,ht,H5.getD 4,λb hb=>?_⟩,JG⟩,H5.get 0⟩,H5.fr⟩⟩
   rcases ft b hb with hb|hb
   .exact Nat.le_trans H3.fr.size hb
   .exact q5 b hb
  have more:∀(w2:aA) (my:lV),my.1<l.length->(match yd l f my with
   |some (a,st)=>DS l f (Rt.cR acc++[a]) st
   |none=>none)=some (x,eU)->LH (·=pb) w w2 [qZ pb s my,.g b2,.row aG 4 sl (acc.flatMap Rt.c)] [rp s l,.trees acc]->
    xK [b2] dZ #[.pointer (some (bO pb))] w2 λJg Jh Ji Jj w5=>gi w5 (.cells #[.i Jg,.int .u8 Jh,.int .u8 Ji,Jj.v] aG) λw6=>
     ∃(t13:Sl) (w7:aA),Sem.run aB (Builtin.append_ #[aM,aM] aM #[sl.v,.slice (some (nb w5)) 1 1]) w6=.ok (t13.v) w7/\kept [b2] w6 w7/\enthymemeref04_reader_expr.fO (bO pb) b2 0 0 0 ⟨none,0,0⟩ t13 w7 (SA pb s w (λr w'=>qz w x r w'/\eU.1<l.length) eU):=by
   intro w2 my JG kT H2
   cases hc:yd l f my with
   |none=>rw [hc] at kT;cases kT
   |some y=>
    obtain ⟨a,nJ⟩:=y
    rw [hc] at kT
    refine H2.l3 ((ih f (by omega)).aaz pb my w2 a nJ hc JG H2.AL) ?_
    rintro _ w3 ⟨⟨u,rfl,hu,pu,fu⟩,zo⟩ _ F3
    have H4:=F3 (.tree u) pu λb hb=>fu b (aV.1 hb)
    have H4:LH (·=pb) w w3 [qZ pb s nJ,.g b2,.row aG 4 sl (acc.flatMap Rt.c)] [rp s l,.trees acc,.tree u]:=H4
    refine ⟨_,_,_,u.s,rfl,H4.wV 2 pW (xs:=acc.flatMap Rt.c) rfl (λs' w5 H5=>?_) (by omega)⟩
    have H6:LH (·=pb) w w5 [qZ pb s nJ,.g b2,.row aG 4 s' ((acc++[u]).flatMap Rt.c)] [rp s l,.trees (acc++[u])]:=by
     rw [ou]
     exact (H5.CF 1 2).forget _ (by simp)
    refine Ed eL rq ih pb w x eU f (by omega) (acc++[u]) s' b2 w5 nJ ?_ zo (by simp;omega) (s9 El λb hb=>Nat.le_trans H2.fr.size (fu b hb)) H6
    rw [lJ]
    have:Rt.cR [u]=[a]:=by simp [Rt.cR,hu]
    rw [this]
    exact kT
  refine enthymemeref04_reader_expr.bT _ _ _ _ _ _ _ _ _ (H.l3 (wX H.AL hi rq [124]) ?_)
  have ht:=rM eL hi [124] (by decide)
  rintro _ w2 rfl H2 _
  refine ⟨_,rfl,?_⟩
  cases hq:ju l [124] st with
  |mk q my=>
   rw [hq] at he H2 ht
   cases q with
   |true=>exact more w2 my ht he H2
   |false=>exact fin w2 my ht he H2
def ND (eL:JD l) (rq:l.length<=1000000) (hn:n<=100000) (ih:∀m,m<=n->Pj s l m) (pb:Nat) (st:lV) (w:aA) (x:Rx) (eU:lV) (he:s8 l (n+1) st=some (x,eU)) (hi:st.1<l.length) (H:GX pb s l st w):
  aH aB dK #[.pointer (some (bO pb))] w (SA pb s w (λr w'=>qz w x r w'/\eU.1<l.length) eU):=by
 unfold s8 at he
 cases hc:yd l n st with
 |none=>rw [hc] at he;cases he
 |some y=>
  obtain ⟨a,nJ⟩:=y
  rw [hc] at he
  refine enthymemeref04_reader_expr.dQ _ w _ (H.cC λb2 w1 H1=>?_)
  have H1:LH (·=pb) w w1 [qZ pb s st,.g b2] [rp s l]:=H1
  refine H1.l3 ((ih n (Nat.le_refl _)).aaz pb st w1 a nJ hc hi H1.AL) ?_
  rintro _ w3 ⟨⟨u,rfl,hu,pu,fu⟩,zo⟩ _ F3
  have H4:=F3 (.tree u) pu λb hb=>fu b (aV.1 hb)
  have H4:LH (·=pb) w w3 [qZ pb s nJ,.g b2] [rp s l,.tree u]:=H4
  refine ⟨_,_,_,u.s,rfl,H4.ko (n:=1) (sz:=4) (cs:=u.c) rfl (by decide) λw4 H5=>?_⟩
  have H6:LH (·=pb) w w4 [qZ pb s nJ,.g b2,.row aG 4 ⟨some (bO w3.heap.size),1,1⟩ ([u].flatMap Rt.c)] [rp s l,.trees [u]]:=by
   have e:[u].flatMap Rt.c=u.c:=by simp
   rw [e]
   exact (H5.Hx 1).forget _ (by simp)
  refine Ed eL rq ih pb w x eU n (Nat.le_refl _) [u] _ b2 w4 nJ ?_ zo (by simp;omega) (λb hb=>?_) H6
  .have:Rt.cR [u]=[a]:=by simp [Rt.cR,hu]
   rw [this]
   exact he
  .obtain ⟨t,ht,hb⟩:=Rt.bU.1 hb
   simp at ht
   rw [ht] at hb
   exact Nat.le_trans H1.fr.size (fu b hb)
def D8 (eL:JD l) (rq:l.length<=1000000) (ih:∀m,m<=n->Pj s l m) (pb:Nat) (w:aA) (x:Rx) (eU:lV):∀(f:Nat),f<=n->∀(acc:List Rt) (sl:Sl) (b2:Nat) (w1:aA) (st:lV),DT l f (Rt.cR acc) st=some (x,eU)->st.1<l.length->acc.length+f<=1000000->(∀b∈Rt.iD acc,w.heap.size<=b)->
  LH (·=pb) w w1 [qZ pb s st,.g b2,.row aG 4 sl (acc.flatMap Rt.c)] [rp s l,.trees acc]->
  enthymemeref04_reader_conj.fO (bO pb) b2 0 0 0 ⟨none,0,0⟩ sl w1 (SA pb s w (λr w'=>qz w x r w'/\eU.1<l.length) eU)
 |0,_=>λacc sl b2 w1 st he=>by unfold DT at he;cases he
 |f+1,hf=>λacc sl b2 w1 st he hi Kr El H=>by
  have xu:=Rt.cX (H.get 2:bD _ _ _ _ _).jG
  unfold DT at he
  have fin:∀(w2:aA) (my:lV),my.1<l.length->some (xi 5 (Rt.cR acc),my)=some (x,eU)->LH (·=pb) w w2 [qZ pb s my,.g b2,.row aG 4 sl (acc.flatMap Rt.c)] [rp s l,.trees acc]->
    xK [b2] eC #[.i 5,sl.v] w2 λJk Jl Jm Jn w8=>loc [b2] w8 λAO=>SA pb s w (λr w'=>qz w x r w'/\eU.1<l.length) eU (aJ (.agg #[.i Jk,.int .u8 Jl,.int .u8 Jm,Jn.v])) AO:=by
   intro w2 my JG kT H2
   simp only [Option.some.injEq,Prod.mk.injEq] at kT
   obtain ⟨rfl,rfl⟩:=kT
   have q5:∀b∈(fD sl acc).fp,w.heap.size<=b:=λb hb=>by
    rcases qD.1 hb with hb|hb
    .exact (H2.new _ (dI (i:=2) rfl) b (gP hb)).resolve_right (A3 H2 1 rfl (gP hb))
    .exact El b hb
   have H3:LH (·=pb) w w2 [qZ pb s my,.g b2] [rp s l,.trees acc,Rt.row sl acc,.tree (fD sl acc)]:=H2.K7 2 1 0 0 0
   refine H3.Bz (Ff 5 sl acc w2 (H3.getD 3)) (λb hb=>⟨_,dI (i:=3) rfl,aV.2 hb⟩) λt w3 ht H4 ft=>?_
   refine ⟨_,_,_,t.s,rfl,H4.bH λw4 H5=>⟨⟨⟨⟨t,rfl,ht,H5.getD 4,λb hb=>?_⟩,JG⟩,H5.get 0⟩,H5.fr⟩⟩
   rcases ft b hb with hb|hb
   .exact Nat.le_trans H3.fr.size hb
   .exact q5 b hb
  have more:∀(w2:aA) (my:lV),my.1<l.length->(match Gl l f my with
   |some (a,st)=>DT l f (Rt.cR acc++[a]) st
   |none=>none)=some (x,eU)->LH (·=pb) w w2 [qZ pb s my,.g b2,.row aG 4 sl (acc.flatMap Rt.c)] [rp s l,.trees acc]->
    xK [b2] eI #[.pointer (some (bO pb))] w2 λJg Jh Ji Jj w5=>gi w5 (.cells #[.i Jg,.int .u8 Jh,.int .u8 Ji,Jj.v] aG) λw6=>
     ∃(t13:Sl) (w7:aA),Sem.run aB (Builtin.append_ #[aM,aM] aM #[sl.v,.slice (some (nb w5)) 1 1]) w6=.ok (t13.v) w7/\kept [b2] w6 w7/\enthymemeref04_reader_conj.fO (bO pb) b2 0 0 0 ⟨none,0,0⟩ t13 w7 (SA pb s w (λr w'=>qz w x r w'/\eU.1<l.length) eU):=by
   intro w2 my JG kT H2
   cases hc:Gl l f my with
   |none=>rw [hc] at kT;cases kT
   |some y=>
    obtain ⟨a,nJ⟩:=y
    rw [hc] at kT
    refine H2.l3 ((ih f (by omega)).seq pb my w2 a nJ hc JG H2.AL) ?_
    rintro _ w3 ⟨⟨u,rfl,hu,pu,fu⟩,zo⟩ _ F3
    have H4:=F3 (.tree u) pu λb hb=>fu b (aV.1 hb)
    have H4:LH (·=pb) w w3 [qZ pb s nJ,.g b2,.row aG 4 sl (acc.flatMap Rt.c)] [rp s l,.trees acc,.tree u]:=H4
    refine ⟨_,_,_,u.s,rfl,H4.wV 2 pW (xs:=acc.flatMap Rt.c) rfl (λs' w5 H5=>?_) (by omega)⟩
    have H6:LH (·=pb) w w5 [qZ pb s nJ,.g b2,.row aG 4 s' ((acc++[u]).flatMap Rt.c)] [rp s l,.trees (acc++[u])]:=by
     rw [ou]
     exact (H5.CF 1 2).forget _ (by simp)
    refine D8 eL rq ih pb w x eU f (by omega) (acc++[u]) s' b2 w5 nJ ?_ zo (by simp;omega) (s9 El λb hb=>Nat.le_trans H2.fr.size (fu b hb)) H6
    rw [lJ]
    have:Rt.cR [u]=[a]:=by simp [Rt.cR,hu]
    rw [this]
    exact kT
  refine enthymemeref04_reader_conj.bT _ _ _ _ _ _ _ _ _ (H.l3 (wX H.AL hi rq [38]) ?_)
  have ht:=rM eL hi [38] (by decide)
  rintro _ w2 rfl H2 _
  refine ⟨_,rfl,?_⟩
  cases hq:ju l [38] st with
  |mk q my=>
   rw [hq] at he H2 ht
   cases q with
   |true=>exact more w2 my ht he H2
   |false=>exact fin w2 my ht he H2
def Nz (eL:JD l) (rq:l.length<=1000000) (hn:n<=100000) (ih:∀m,m<=n->Pj s l m) (pb:Nat) (st:lV) (w:aA) (x:Rx) (eU:lV) (he:yd l (n+1) st=some (x,eU)) (hi:st.1<l.length) (H:GX pb s l st w):
  aH aB dZ #[.pointer (some (bO pb))] w (SA pb s w (λr w'=>qz w x r w'/\eU.1<l.length) eU):=by
 unfold yd at he
 cases hc:Gl l n st with
 |none=>rw [hc] at he;cases he
 |some y=>
  obtain ⟨a,nJ⟩:=y
  rw [hc] at he
  refine enthymemeref04_reader_conj.dQ _ w _ (H.cC λb2 w1 H1=>?_)
  have H1:LH (·=pb) w w1 [qZ pb s st,.g b2] [rp s l]:=H1
  refine H1.l3 ((ih n (Nat.le_refl _)).seq pb st w1 a nJ hc hi H1.AL) ?_
  rintro _ w3 ⟨⟨u,rfl,hu,pu,fu⟩,zo⟩ _ F3
  have H4:=F3 (.tree u) pu λb hb=>fu b (aV.1 hb)
  have H4:LH (·=pb) w w3 [qZ pb s nJ,.g b2] [rp s l,.tree u]:=H4
  refine ⟨_,_,_,u.s,rfl,H4.ko (n:=1) (sz:=4) (cs:=u.c) rfl (by decide) λw4 H5=>?_⟩
  have H6:LH (·=pb) w w4 [qZ pb s nJ,.g b2,.row aG 4 ⟨some (bO w3.heap.size),1,1⟩ ([u].flatMap Rt.c)] [rp s l,.trees [u]]:=by
   have e:[u].flatMap Rt.c=u.c:=by simp
   rw [e]
   exact (H5.Hx 1).forget _ (by simp)
  refine D8 eL rq ih pb w x eU n (Nat.le_refl _) [u] _ b2 w4 nJ ?_ zo (by simp;omega) (λb hb=>?_) H6
  .have:Rt.cR [u]=[a]:=by simp [Rt.cR,hu]
   rw [this]
   exact he
  .obtain ⟨t,ht,hb⟩:=Rt.bU.1 hb
   simp at ht
   rw [ht] at hb
   exact Nat.le_trans H1.fr.size (fu b hb)
def I4 (eL:JD l) (rq:l.length<=1000000) (ih:∀m,m<=n->Pj s l m) (pb:Nat) (w:aA) (x:Rx) (eU:lV):∀(f:Nat),f<=n->∀(acc:List Rt) (sl:Sl) (b2:Nat) (w1:aA) (st:lV),zt l f (Rt.cR acc) st=some (x,eU)->st.1<l.length->acc.length+f<=1000000->(∀b∈Rt.iD acc,w.heap.size<=b)->
  LH (·=pb) w w1 [qZ pb s st,.g b2,.row aG 4 sl (acc.flatMap Rt.c)] [rp s l,.trees acc]->
  enthymemeref04_reader_seq.fO (bO pb) b2 0 0 0 ⟨none,0,0⟩ sl w1 (SA pb s w (λr w'=>qz w x r w'/\eU.1<l.length) eU)
 |0,_=>λacc sl b2 w1 st he=>by unfold zt at he;cases he
 |f+1,hf=>λacc sl b2 w1 st he hi Kr El H=>by
  have xu:=Rt.cX (H.get 2:bD _ _ _ _ _).jG
  unfold zt at he
  have fin:∀(w2:aA) (my:lV),my.1<l.length->some (xi 3 (Rt.cR acc),my)=some (x,eU)->LH (·=pb) w w2 [qZ pb s my,.g b2,.row aG 4 sl (acc.flatMap Rt.c)] [rp s l,.trees acc]->
    xK [b2] eC #[.i 3,sl.v] w2 λJk Jl Jm Jn w8=>loc [b2] w8 λAO=>SA pb s w (λr w'=>qz w x r w'/\eU.1<l.length) eU (aJ (.agg #[.i Jk,.int .u8 Jl,.int .u8 Jm,Jn.v])) AO:=by
   intro w2 my JG kT H2
   simp only [Option.some.injEq,Prod.mk.injEq] at kT
   obtain ⟨rfl,rfl⟩:=kT
   have q5:∀b∈(fD sl acc).fp,w.heap.size<=b:=λb hb=>by
    rcases qD.1 hb with hb|hb
    .exact (H2.new _ (dI (i:=2) rfl) b (gP hb)).resolve_right (A3 H2 1 rfl (gP hb))
    .exact El b hb
   have H3:LH (·=pb) w w2 [qZ pb s my,.g b2] [rp s l,.trees acc,Rt.row sl acc,.tree (fD sl acc)]:=H2.K7 2 1 0 0 0
   refine H3.Bz (Ff 3 sl acc w2 (H3.getD 3)) (λb hb=>⟨_,dI (i:=3) rfl,aV.2 hb⟩) λt w3 ht H4 ft=>?_
   refine ⟨_,_,_,t.s,rfl,H4.bH λw4 H5=>⟨⟨⟨⟨t,rfl,ht,H5.getD 4,λb hb=>?_⟩,JG⟩,H5.get 0⟩,H5.fr⟩⟩
   rcases ft b hb with hb|hb
   .exact Nat.le_trans H3.fr.size hb
   .exact q5 b hb
  have more:∀(w2:aA) (my:lV),my.1<l.length->(match vl l f my with
   |some (a,st)=>zt l f (Rt.cR acc++[a]) st
   |none=>none)=some (x,eU)->LH (·=pb) w w2 [qZ pb s my,.g b2,.row aG 4 sl (acc.flatMap Rt.c)] [rp s l,.trees acc]->
    xK [b2] dL #[.pointer (some (bO pb))] w2 λJg Jh Ji Jj w5=>gi w5 (.cells #[.i Jg,.int .u8 Jh,.int .u8 Ji,Jj.v] aG) λw6=>
     ∃(t13:Sl) (w7:aA),Sem.run aB (Builtin.append_ #[aM,aM] aM #[sl.v,.slice (some (nb w5)) 1 1]) w6=.ok (t13.v) w7/\kept [b2] w6 w7/\enthymemeref04_reader_seq.fO (bO pb) b2 0 0 0 ⟨none,0,0⟩ t13 w7 (SA pb s w (λr w'=>qz w x r w'/\eU.1<l.length) eU):=by
   intro w2 my JG kT H2
   cases hc:vl l f my with
   |none=>rw [hc] at kT;cases kT
   |some y=>
    obtain ⟨a,nJ⟩:=y
    rw [hc] at kT
    refine H2.l3 ((ih f (by omega)).item pb my w2 a nJ hc JG H2.AL) ?_
    rintro _ w3 ⟨⟨u,rfl,hu,pu,fu⟩,zo⟩ _ F3
    have H4:=F3 (.tree u) pu λb hb=>fu b (aV.1 hb)
    have H4:LH (·=pb) w w3 [qZ pb s nJ,.g b2,.row aG 4 sl (acc.flatMap Rt.c)] [rp s l,.trees acc,.tree u]:=H4
    refine ⟨_,_,_,u.s,rfl,H4.wV 2 pW (xs:=acc.flatMap Rt.c) rfl (λs' w5 H5=>?_) (by omega)⟩
    have H6:LH (·=pb) w w5 [qZ pb s nJ,.g b2,.row aG 4 s' ((acc++[u]).flatMap Rt.c)] [rp s l,.trees (acc++[u])]:=by
     rw [ou]
     exact (H5.CF 1 2).forget _ (by simp)
    refine I4 eL rq ih pb w x eU f (by omega) (acc++[u]) s' b2 w5 nJ ?_ zo (by simp;omega) (s9 El λb hb=>Nat.le_trans H2.fr.size (fu b hb)) H6
    rw [lJ]
    have:Rt.cR [u]=[a]:=by simp [Rt.cR,hu]
    rw [this]
    exact kT
  refine enthymemeref04_reader_seq.bT _ _ _ _ _ _ _ _ _ (H.bC (PK H.AL hi) ?_)
  rintro _ w2 rfl H2
  refine ⟨_,rfl,?_⟩
  cases hq:AT l st with
  |true=>rw [hq] at he;exact more w2 st hi he H2
  |false=>rw [hq] at he;exact fin w2 st hi he H2
def R7 (eL:JD l) (rq:l.length<=1000000) (hn:n<=100000) (ih:∀m,m<=n->Pj s l m) (pb:Nat) (st:lV) (w:aA) (x:Rx) (eU:lV) (he:Gl l (n+1) st=some (x,eU)) (hi:st.1<l.length) (H:GX pb s l st w):
  aH aB eI #[.pointer (some (bO pb))] w (SA pb s w (λr w'=>qz w x r w'/\eU.1<l.length) eU):=by
 unfold Gl at he
 cases hc:vl l n st with
 |none=>rw [hc] at he;cases he
 |some y=>
  obtain ⟨a,nJ⟩:=y
  rw [hc] at he
  refine enthymemeref04_reader_seq.dQ _ w _ (H.cC λb2 w1 H1=>?_)
  have H1:LH (·=pb) w w1 [qZ pb s st,.g b2] [rp s l]:=H1
  refine H1.l3 ((ih n (Nat.le_refl _)).item pb st w1 a nJ hc hi H1.AL) ?_
  rintro _ w3 ⟨⟨u,rfl,hu,pu,fu⟩,zo⟩ _ F3
  have H4:=F3 (.tree u) pu λb hb=>fu b (aV.1 hb)
  have H4:LH (·=pb) w w3 [qZ pb s nJ,.g b2] [rp s l,.tree u]:=H4
  refine ⟨_,_,_,u.s,rfl,H4.ko (n:=1) (sz:=4) (cs:=u.c) rfl (by decide) λw4 H5=>?_⟩
  have H6:LH (·=pb) w w4 [qZ pb s nJ,.g b2,.row aG 4 ⟨some (bO w3.heap.size),1,1⟩ ([u].flatMap Rt.c)] [rp s l,.trees [u]]:=by
   have e:[u].flatMap Rt.c=u.c:=by simp
   rw [e]
   exact (H5.Hx 1).forget _ (by simp)
  refine I4 eL rq ih pb w x eU n (Nat.le_refl _) [u] _ b2 w4 nJ ?_ zo (by simp;omega) (λb hb=>?_) H6
  .have:Rt.cR [u]=[a]:=by simp [Rt.cR,hu]
   rw [this]
   exact he
  .obtain ⟨t,ht,hb⟩:=Rt.bU.1 hb
   simp at ht
   rw [ht] at hb
   exact Nat.le_trans H1.fr.size (fu b hb)
end
def _root_.Go.W.LH.stq {M:Nat->Prop} {w0 w:aA} {L D:List En} {bs:List Nat} (H:LH M w0 w L D) (i j:Nat) {b:Nat} {vs:List aD} {T:aP} {v:aD} {K:aA->Prop} (hi:L[i]? =some (.c b vs T)) (hK:∀w',LH M w0 w' (L.set i (.c b (vs.set j v) T)) D->K w') (hj:j<vs.length:=by simp) (kS:∀b∈bs,En.g b∈L:=by simp):cY w ((bO b).add j) v λw1=>kept bs w w1/\K w1:=by
 obtain ⟨x1,x2,x3⟩:=H.set (v:=v) i j hi hj
 obtain ⟨_,_,_,x4⟩:=I7 (H.ob i hi) j (by simpa using hj) v
 refine ⟨x1,x2,λb' hb=>?_,hK _ x3⟩
 refine x4.ic b' (H.own _ (kS b' hb)) λhm=>lW H hi (D1 w b vs T) (kS b' hb) ?_
 rw [hm];exact J'.2 rfl
def _root_.Go.W.LH.one {M:Nat->Prop} {w0 w:aA} {L D:List En} (H:LH M w0 w L D) (i j:Nat) {e:aP} {sl:Sl} {u:Rt} (k:Int) (lo hi:UInt8) (y6:L[i]? =some (.row e 4 sl u.c):=by rfl) (hj:D[j]? =some (.tree u):=by rfl):LH M w0 w (L.eraseIdx i) (D++[.tree (.mk k lo hi sl [u])]):=by
 have H1:=H.Hx j hj
 have e:[u].flatMap Rt.c=u.c:=by simp
 have H2:=H1.K7 i D.length k lo hi (s:=sl) (ts:=[u]) (by rw [e];exact y6) (by simp)
 exact H2.forget _ (λd hd=>by
  simp only [gg,dT,gL,or_false] at hd ⊢
  rcases hd with hd|hd
  .exact .inl (.inl (.inl hd))
  .exact .inr hd)
def Ga {w:aA} {sl:Sl} {u:Rt} {k:Int} {lo hi:UInt8} (h1:∀b∈bQ sl,w.heap.size<=b) (h2:∀b∈u.fp,w.heap.size<=b):∀b∈(Rt.mk k lo hi sl [u]).fp,w.heap.size<=b:=λb hb=>by
 unfold Rt.fp at hb
 rcases gg.1 hb with hb|hb
 .exact Gf h1 b hb
 .obtain ⟨t,ht,hb⟩:=Rt.bU.1 hb
  simp at ht
  rw [ht] at hb
  exact h2 b hb
section
variable {s:Sl} {l:List kX} {n:Nat}
def Et (eL:JD l) (rq:l.length<=1000000) (pb:Nat) (w:aA) (x:Rx) (eU:lV):∀(f:Nat) (u:Rt) (b2 b4:Nat) (w1:aA) (st:lV),CK l f u.rx st=some (x,eU)->st.1<l.length->(∀b∈u.fp,w.heap.size<=b)->
  LH (·=pb) w w1 [qZ pb s st,.g b2,.g b4] [rp s l,.tree u]->
  enthymemeref04_reader_item.fO (bO pb) b2 0 0 0 ⟨none,0,0⟩ b4 u.k (u.lo.toNat:Int) (u.hi.toNat:Int) u.s w1 (SA pb s w (λr w'=>qz w x r w'/\eU.1<l.length) eU)
 |0,u,b2,b4,w1,st,he,_,_,_=>by unfold CK at he;cases he
 |f+1,u,b2,b4,w1,st,he,hi,El,H=>by
  unfold CK at he
  refine enthymemeref04_reader_item.bT _ _ _ _ _ _ _ _ _ _ _ _ _ (H.l3 (wX H.AL hi rq [42]) ?_)
  have ht:=rM eL hi [42] (by decide)
  rintro _ w2 rfl H2 _
  refine ⟨_,rfl,?_⟩
  cases hq:ju l [42] st with
  |mk q my=>
   rw [hq] at he H2 ht
   cases q with
   |true=>
    dsimp only at he ht
    refine bF rfl ?_
    refine H2.ko (n:=1) (sz:=4) (cs:=u.c) rfl (by decide) λw3 H3=>H3.bH λw4 H4=>?_
    have H5:LH (·=pb) w w4 [qZ pb s my,.g b2,.g b4] [rp s l,.tree (.mk 7 0 0 ⟨some (bO w2.heap.size),1,1⟩ [u])]:=(H4.one 3 1 7 0 0).forget _ (by simp)
    refine Et eL rq pb w x eU f (.mk 7 0 0 ⟨some (bO w2.heap.size),1,1⟩ [u]) b2 b4 w4 my he ht (Ga (λb hb=>?_) El) H5
    simp only [bQ,dT,gL,or_false] at hb
    rw [hb];exact H2.fr.size
   |false=>
    dsimp only at he ht
    simp only [Option.some.injEq,Prod.mk.injEq] at he
    obtain ⟨he,rfl⟩:=he
    refine aX rfl ?_
    exact H2.bH λw3 H3=>⟨⟨⟨⟨u,rfl,he,H3.getD 1,El⟩,ht⟩,H3.get 0⟩,H3.fr⟩
def N3 (eL:JD l) (rq:l.length<=1000000) (ih:Pj s l n) (pb:Nat) (st:lV) (w:aA) (x:Rx) (eU:lV) (he:vl l (n+1) st=some (x,eU)) (hi:st.1<l.length) (H:GX pb s l st w):
  aH aB dL #[.pointer (some (bO pb))] w (SA pb s w (λr w'=>qz w x r w'/\eU.1<l.length) eU):=by
 unfold vl at he
 refine enthymemeref04_reader_item.dQ _ w _ (H.cC λb2 w1 H1=>?_)
 have H1:LH (·=pb) w w1 [qZ pb s st,.g b2] [rp s l]:=H1
 refine H1.l3 (wX H1.AL hi rq [33]) ?_
 have ht:=rM eL hi [33] (by decide)
 rintro _ w2 rfl H2 _
 refine ⟨_,rfl,?_⟩
 cases hq:ju l [33] st with
 |mk q my=>
  rw [hq] at he H2 ht
  cases q with
  |true=>
   dsimp only at he ht
   cases hc:vl l n my with
   |none=>rw [hc] at he;cases he
   |some y=>
    obtain ⟨a,nJ⟩:=y
    rw [hc] at he
    simp only [Option.some.injEq,Prod.mk.injEq] at he
    obtain ⟨he,rfl⟩:=he
    refine bF rfl ?_
    refine H2.l3 (ih.item pb my w2 a nJ hc ht H2.AL) ?_
    rintro _ w3 ⟨⟨u,rfl,hu,pu,fu⟩,zo⟩ _ F3
    have H3:=F3 (.tree u) pu λb hb=>fu b (aV.1 hb)
    refine ⟨_,_,_,u.s,rfl,H3.ko (n:=1) (sz:=4) (cs:=u.c) rfl (by decide) λw4 H4=>H4.bH λw5 H5=>?_⟩
    have H6:LH (·=pb) w w5 [qZ pb s nJ,.g b2] [rp s l,.tree (.mk 6 0 0 ⟨some (bO w3.heap.size),1,1⟩ [u])]:=(H5.one 2 1 6 0 0).forget _ (by simp)
    refine ⟨⟨⟨⟨.mk 6 0 0 ⟨some (bO w3.heap.size),1,1⟩ [u],rfl,?_,H6.getD 1,Ga (λb hb=>?_) (λb hb=>Nat.le_trans H2.fr.size (fu b hb))⟩,zo⟩,H6.get 0⟩,H6.fr⟩
    .rw [<-he,<-hu];rfl
    .simp only [bQ,dT,gL,or_false] at hb
     rw [hb];exact H3.fr.size
  |false=>
   dsimp only at he ht
   cases hc:Bk l n my with
   |none=>rw [hc] at he;cases he
   |some y=>
    obtain ⟨a,nJ⟩:=y
    rw [hc] at he
    refine aX rfl ?_
    refine H2.l3 (ih.atom pb my w2 a nJ hc ht H2.AL) ?_
    rintro _ w3 ⟨⟨u,rfl,hu,pu,fu⟩,zo⟩ _ F3
    have H3:=F3 (.tree u) pu λb hb=>fu b (aV.1 hb)
    refine ⟨_,_,_,u.s,rfl,H3.cC λb4 w4 H4=>H4.bH λw5 H5=>?_⟩
    exact Et eL rq pb w x eU n u b2 b4 w5 nJ (by rw [hu];exact he) zo (λb hb=>Nat.le_trans H2.fr.size (fu b hb)) H5
def Ew (eL:JD l) (rq:l.length<=1000000) (ih:∀m,m<=n->Pj s l m) (pb:Nat) (w:aA) (m:List Rx) (eU:lV):∀(f:Nat),f<=n->∀(acc:List Rt) (sl:Sl) (w1:aA) (st:lV),Ix l f (Rt.cR acc) st=some (m,eU)->st.1<l.length->acc.length+f<=1000000->(∀b∈Rt.iD acc,w.heap.size<=b)->
  LH (·=pb) w w1 [qZ pb s st,.row aG 4 sl (acc.flatMap Rt.c)] [rp s l,.trees acc]->
  enthymemeref04_reader_kids.L1 (bO pb) sl w1 (SA pb s w (λr w'=>(∃(sl:Sl) (a:List Rt),r=aJ sl.v/\Rt.cR a=m/\(fD sl a).P w'/\∀b∈(fD sl a).fp,w.heap.size<=b)/\eU.1<l.length) eU)
 |0,_=>λacc sl w1 st he=>by unfold Ix at he;cases he
 |f+1,hf=>λacc sl w1 st he hi Kr El H=>by
  have xu:=Rt.cX (H.get 1:bD _ _ _ _ _).jG
  unfold Ix at he
  refine enthymemeref04_reader_kids.nk _ _ _ _ (H.Bx (wX H.AL hi rq [44]) ?_)
  have ht:=rM eL hi [44] (by decide)
  rintro _ w2 rfl H2 _
  refine ⟨_,rfl,?_⟩
  cases hq:ju l [44] st with
  |mk q my=>
   rw [hq] at he H2 ht
   cases q with
   |true=>
    dsimp only at he ht
    cases hc:s8 l f my with
    |none=>rw [hc] at he;cases he
    |some y=>
     obtain ⟨a,nJ⟩:=y
     rw [hc] at he
     refine bF rfl ?_
     refine H2.Bx ((ih f (by omega)).expr pb my w2 a nJ hc ht H2.AL) ?_
     rintro _ w3 ⟨⟨u,rfl,hu,pu,fu⟩,zo⟩ _ F3
     have H4:=F3 (.tree u) pu λb hb=>fu b (aV.1 hb)
     have H4:LH (·=pb) w w3 [qZ pb s nJ,.row aG 4 sl (acc.flatMap Rt.c)] [rp s l,.trees acc,.tree u]:=H4
     refine ⟨_,_,_,u.s,rfl,H4.XW 1 pW (xs:=acc.flatMap Rt.c) rfl (λs' w5 H5 _ _=>?_) (by omega)⟩
     have H6:LH (·=pb) w w5 [qZ pb s nJ,.row aG 4 s' ((acc++[u]).flatMap Rt.c)] [rp s l,.trees (acc++[u])]:=by
      rw [ou]
      exact (H5.CF 1 2).forget _ (by simp)
     refine Ew eL rq ih pb w m eU f (by omega) (acc++[u]) s' w5 nJ ?_ zo (by simp;omega) (s9 El λb hb=>Nat.le_trans H2.fr.size (fu b hb)) H6
     rw [lJ]
     have:Rt.cR [u]=[a]:=by simp [Rt.cR,hu]
     rw [this]
     exact he
   |false=>
    dsimp only at he ht
    simp only [Option.some.injEq,Prod.mk.injEq] at he
    obtain ⟨rfl,rfl⟩:=he
    refine aX rfl ?_
    refine H2.Bx (Bs H2.AL ht rq [41]) ?_
    rintro _ w3 rfl H3 _
    refine ⟨rfl,⟨⟨⟨sl,acc,rfl,rfl,gG.2 ⟨(H3.get 1:bD _ _ _ _ _).jG,H3.getD 1⟩,λb hb=>?_⟩,vt eL ht [41] (by decide)⟩,H3.get 0⟩,H3.fr⟩
    rcases qD.1 hb with hb|hb
    .exact (H3.new _ (dI (i:=1) rfl) b (gP hb)).resolve_right (A3 H3 0 rfl (gP hb))
    .exact El b hb
def N4 (eL:JD l) (rq:l.length<=1000000) (hn:n<=100000) (ih:∀m,m<=n->Pj s l m) (pb:Nat) (st:lV) (w:aA) (m:List Rx) (eU:lV) (he:B8 l (n+1) st=some (m,eU)) (hi:st.1<l.length) (H:GX pb s l st w):
  aH aB gE #[.pointer (some (bO pb))] w (SA pb s w (λr w'=>(∃(sl:Sl) (a:List Rt),r=aJ sl.v/\Rt.cR a=m/\(fD sl a).P w'/\∀b∈(fD sl a).fp,w.heap.size<=b)/\eU.1<l.length) eU):=by
 unfold B8 at he
 refine enthymemeref04_reader_kids.ok _ w _ (H.Bx (Bs H hi rq [40]) ?_)
 have GJ:=vt eL hi [40] (by decide)
 rintro _ w1 rfl H1 _
 refine ⟨rfl,H1.Bx (wX H1.AL GJ rq [41]) ?_⟩
 have ht:=rM eL GJ [41] (by decide)
 rintro _ w2 rfl H2 _
 cases hq:ju l [41] (ss l [40] st) with
 |mk q my=>
  rw [hq] at he H2 ht
  have none_:some (([]:List Rx),my)=some (m,eU)->enthymemeref04_reader_kids.S0 w2 (SA pb s w (λr w'=>(∃(sl:Sl) (a:List Rt),r=aJ sl.v/\Rt.cR a=m/\(fD sl a).P w'/\∀b∈(fD sl a).fp,w.heap.size<=b)/\eU.1<l.length) eU):=by
   intro he
   simp only [Option.some.injEq,Prod.mk.injEq] at he
   obtain ⟨rfl,rfl⟩:=he
   refine ⟨⟨⟨⟨⟨none,0,0⟩,[],rfl,rfl,gG.2 ⟨lN.nil 4 w2,by unfold Rt.Ps;trivial⟩,λb hb=>?_⟩,ht⟩,H2.get 0⟩,H2.fr⟩
   rcases qD.1 hb with hb|hb
   .simp [Rt.row,En.jG] at hb
   .unfold Rt.iD at hb;cases hb
  refine ⟨_,rfl,my.2,H2.ld 0 2,bR (λhb=>none_ (by simpa [hb] using he)) (λhb=>bR (λNW=>none_ (by
   have NW:q=true:=NW
   simpa [NW] using he)) (λNW=>?_))⟩
  have NW:q=false:=NW
  simp only [hb,NW,Bool.or_false,cond_false] at he
  cases hc:s8 l n my with
  |none=>rw [hc] at he;cases he
  |some y=>
   obtain ⟨a,nJ⟩:=y
   rw [hc] at he
   refine H2.Bx ((ih n (Nat.le_refl _)).expr pb my w2 a nJ hc ht H2.AL) ?_
   rintro _ w3 ⟨⟨u,rfl,hu,pu,fu⟩,zo⟩ _ F3
   have H4:=F3 (.tree u) pu λb hb=>fu b (aV.1 hb)
   refine ⟨_,_,_,u.s,rfl,H4.ko (n:=1) (sz:=4) (cs:=u.c) rfl (by decide) λw4 H5=>?_⟩
   have H6:LH (·=pb) w w4 [qZ pb s nJ,.row aG 4 ⟨some (bO w3.heap.size),1,1⟩ ([u].flatMap Rt.c)] [rp s l,.trees [u]]:=by
    have e:[u].flatMap Rt.c=u.c:=by simp
    rw [e]
    exact (H5.Hx 1).forget _ (by simp)
   refine Ew eL rq ih pb w m eU n (Nat.le_refl _) [u] _ w4 nJ ?_ zo (by simp;omega) (λb hb=>?_) H6
   .have:Rt.cR [u]=[a]:=by simp [Rt.cR,hu]
    rw [this]
    exact he
   .obtain ⟨t,ht,hb⟩:=Rt.bU.1 hb
    simp at ht
    rw [ht] at hb
    exact Nat.le_trans H2.fr.size (fu b hb)
end
def zU:List aD:=[.string (ba (vK 0)),.string (ba (vK 1)),.string (ba (vK 2)),.string (ba (vK 3)),.string (ba (vK 4)),.string (ba (vK 5))]
def EV {k:Nat} (h:k<6):zU[k]? =some (.string (ba (vK k))):=by
 have:k=0\/k=1\/k=2\/k=3\/k=4\/k=5:=by omega
 rcases this with rfl|rfl|rfl|rfl|rfl|rfl<;>rfl
def JA {k:Nat} (h:k<6) (h2:k≠2):vK k≠[]/\vK k≠[32]:=by
 have:k=0\/k=1\/k=2\/k=3\/k=4\/k=5:=by omega
 rcases this with rfl|rfl|rfl|rfl|rfl|rfl<;>first |exact absurd rfl h2|exact ⟨by decide,by decide⟩
def vn (k:Int) (lo hi:UInt8):Rt:=.mk k lo hi ⟨none,0,0⟩ []
def xo (k:Int) (lo hi:UInt8) (w:aA):(vn k lo hi).P w:=by
 unfold vn Rt.P Rt.Ps
 exact ⟨lN.nil 4 w,trivial⟩
def tQ {k:Int} {lo hi:UInt8} {b:Nat}:¬b∈(vn k lo hi).fp:=λh=>by
 unfold vn Rt.fp Rt.iD at h
 rcases gg.1 h with h|h
 .simp [Rt.row,En.jG] at h
 .cases h
section
variable {s:Sl} {l:List kX} {n:Nat}
def Nm (eL:JD l) (rq:l.length<=1000000) (ih:Pj s l n) (pb:Nat) (st:lV) (w:aA) (x:Rx) (eU:lV) (he:Bk l (n+1) st=some (x,eU)) (hi:st.1<l.length) (H:GX pb s l st w):
  aH aB gD #[.pointer (some (bO pb))] w (SA pb s w (λr w'=>qz w x r w'/\eU.1<l.length) eU):=by
 let R:aT:=SA pb s w (λr w'=>qz w x r w'/\eU.1<l.length) eU
 have loop:∀(f k:Nat) (b2 bw:Nat) (w1:aA),f+k=6->qd l st 6 0=qd l st f k->(match qd l st 6 0 with
   |some k=>bif Nat.ble k 2 then some (Rx.mk k 0 0 [],(st.1+1,st.2)) else match B8 l n (st.1+1,st.2) with
    |some (m,st)=>some (Rx.mk k 0 0 m,st)
    |none=>none
   |none=>let st:=ss l [40] st
    bif st.2 then some (zx,st) else match s8 l n st with
    |some (a,st)=>some (a,ss l [41] st)
    |none=>none)=some (x,eU)->LH (·=pb) w w1 [qZ pb s st,.g b2,.c bw zU cG] [rp s l]->
   enthymemeref04_reader_atom.mC (bO pb) b2 0 0 0 ⟨none,0,0⟩ ⟨some (bO bw),6,6⟩ (k:Int) w1 R:=by
  intro f
  induction f with
  |zero=>
   intro k b2 bw w1 hk hw he H1
   have e0:qd l st 0 k=none:=by unfold qd;rfl
   rw [hw,e0] at he
   dsimp only at he
   have GJ:=vt eL hi [40] (by decide)
   refine enthymemeref04_reader_atom.dR _ _ _ _ _ _ _ _ _ _ (aX (aK (by omega)) (H1.l3 (Bs H1.AL hi rq [40]) ?_))
   rintro _ w2 rfl H2 _
   generalize ss l [40] st=my at he GJ H2
   refine ⟨rfl,my.2,H2.ld 0 2,bR (λhb=>?_) (λhb=>?_)⟩
   .rw [hb] at he
    simp only [cond_true,Option.some.injEq,Prod.mk.injEq] at he
    obtain ⟨rfl,rfl⟩:=he
    exact H2.bH λw3 H3=>⟨⟨⟨⟨oA,rfl,rfl,yz _,λb hb=>(pA hb).elim⟩,GJ⟩,H3.get 0⟩,H3.fr⟩
   .rw [hb] at he
    dsimp only [cond_false] at he
    cases hc:s8 l n my with
    |none=>rw [hc] at he;cases he
    |some y=>
     obtain ⟨a,nJ⟩:=y
     rw [hc] at he
     simp only [Option.some.injEq,Prod.mk.injEq] at he
     obtain ⟨rfl,rfl⟩:=he
     refine H2.l3 (ih.expr pb my w2 a nJ hc GJ H2.AL) ?_
     rintro _ w3 ⟨⟨u,rfl,hu,pu,fu⟩,zo⟩ _ F3
     have H3:=F3 (.tree u) pu λb hb=>fu b (aV.1 hb)
     refine ⟨_,_,_,u.s,rfl,H3.cC λb6 w4 H4=>H4.bH λw5 H5=>?_⟩
     have H5:LH (·=pb) w w5 (qZ pb s nJ::[.g b2,.c bw zU cG,.g b6]) [rp s l,.tree u]:=H5
     refine H5.l3 (Bs H5.AL zo rq [41]) ?_
     rintro _ w6 rfl H6 _
     exact ⟨rfl,H6.bH λw7 H7=>⟨⟨⟨⟨u,rfl,hu,H7.getD 1,λb hb=>Nat.le_trans H2.fr.size (fu b hb)⟩,vt eL zo [41] (by decide)⟩,H7.get 0⟩,H7.fr⟩⟩
  |succ f ihf=>
   intro k b2 bw w1 hk hw he H1
   have next:qd l st (f+1) k=qd l st f (k+1)->∀w2,LH (·=pb) w w2 [qZ pb s st,.g b2,.c bw zU cG] [rp s l]->enthymemeref04_reader_atom.fN (bO pb) b2 0 0 0 ⟨none,0,0⟩ ⟨some (bO bw),6,6⟩ (k:Int) w2 R:=by
    intro hx w2 H2
    show enthymemeref04_reader_atom.mC _ _ _ _ _ _ _ _ _ _
    rw [bP _ (by omega)]
    exact ihf (k+1) b2 bw w2 (by omega) (by rw [hw,hx]) he H2
   refine enthymemeref04_reader_atom.dR _ _ _ _ _ _ _ _ _ _ (bF (aO (by omega)) (aY (λtN=>H1.bH λw2 H2=>next (by
    have:k=2:=by omega
    subst this
    conv=>lhs;unfold qd
    rfl) w2 H2) (λtN=>⟨by omega,by show (k:Int)<((6:Nat):Int);omega,?_⟩)))
   have tN:k≠2:=by omega
   have Dm:Nat.beq k 2=false:=by
    cases h:Nat.beq k 2 with
    |false=>rfl
    |true=>exact absurd (Nat.eq_of_beq_eq_true h) tN
   refine yD (H1.bH λw2 H2=>?_)
   rw [Int.toNat_natCast,Nat.mul_one]
   refine ⟨ba (vK k),H2.ld 2 k rfl (EV (by omega)),H2.bC (PW H2.AL hi) ?_⟩
   rintro _ w3 rfl H3
   refine ⟨_,rfl,H3.ld 2 k rfl (EV (by omega)),?_⟩
   rw [DW]
   refine fP (λhs=>next (by
    conv=>lhs;unfold qd
    rw [Dm,hs];rfl) w3 H3) (λhs=>?_)
   have Up:=eq_of_beq hs
   have hwk:qd l st 6 0=some k:=by
    rw [hw]
    conv=>lhs;unfold qd
    rw [Dm,hs];rfl
   rw [hwk] at he
   dsimp only at he
   have hl1:st.1+1<l.length:=by
    refine Io eL hi (by rw [Up];exact (JA (by omega) tN).1) ?_
    cases hb:st.2 with
    |false=>rfl
    |true=>
     exfalso
     refine (JA (k:=k) (by omega) tN).2 ?_
     rw [<-Up];unfold pC;rw [hb];rfl
   refine ⟨(st.1:Int),H3.ld 0 1,?_⟩
   rw [bP _ (by omega)]
   refine H3.stq 0 1 rfl λw4 H4=>?_
   have H4:LH (·=pb) w w4 [qZ pb s (st.1+1,st.2),.g b2,.c bw zU cG] [rp s l]:=H4
   refine H4.cC λb5 w5 H5=>bA (λKw=>?_) (λKw=>?_)
   .have hbk:Nat.ble k 2=false:=by
     cases h:Nat.ble k 2 with
     |false=>rfl
     |true=>have:=Nat.le_of_ble_eq_true h;omega
    rw [hbk] at he
    dsimp only [cond_false] at he
    cases hc:B8 l n (st.1+1,st.2) with
    |none=>rw [hc] at he;cases he
    |some y=>
     obtain ⟨m,nJ⟩:=y
     rw [hc] at he
     simp only [Option.some.injEq,Prod.mk.injEq] at he
     obtain ⟨hx,rfl⟩:=he
     refine H5.bH λw9 H9=>?_
     have H9:LH (·=pb) w w9 (qZ pb s (st.1+1,st.2)::[.g b2,.c bw zU cG,.g b5]) [rp s l]:=H9
     refine H9.l3 (ih.kids pb (st.1+1,st.2) w9 m nJ hc hl1 H9.AL) ?_
     rintro _ tB ⟨⟨sl,a,rfl,ha,pa,fa⟩,zo⟩ _ F10
     have qe:=F10 (.tree (fD sl a)) pa λb hb=>fa b (aV.1 hb)
     refine ⟨sl,rfl,qe.bH λyY y8=>y8.bH λAO Dr=>?_⟩
     refine ⟨⟨⟨⟨.mk k 0 0 sl a,rfl,?_,?_,λb hb=>?_⟩,zo⟩,Dr.get 0⟩,Dr.fr⟩
     .rw [<-hx,<-ha];rfl
     .have:=gG.1 (show (fD sl a).P AO from Dr.getD 1)
      unfold Rt.P
      exact this
     .refine Nat.le_trans H9.fr.size (fa b ?_)
      unfold Rt.fp at hb
      unfold fD Rt.fp
      exact hb
   .have hbk:Nat.ble k 2=true:=Nat.ble_eq_true_of_le (by omega)
    rw [hbk] at he
    simp only [cond_true,Option.some.injEq,Prod.mk.injEq] at he
    obtain ⟨hx,rfl⟩:=he
    refine H5.bH λw6 H6=>H6.bH λw7 H7=>⟨⟨⟨⟨vn k 0 0,rfl,?_,xo _ _ _ _,λb hb=>(tQ hb).elim⟩,hl1⟩,H7.get 0⟩,H7.fr⟩
    rw [<-hx];rfl
 have s0:∀(b2:Nat) (w1:aA),(!st.2&&Nat.beq (kO l st.1).k 2)=false->LH (·=pb) w w1 [qZ pb s st,.g b2] [rp s l]->enthymemeref04_reader_atom.eX (bO pb) b2 0 0 0 ⟨none,0,0⟩ w1 R:=by
  intro b2 w1 hq H1
  unfold Bk at he
  rw [hq] at he
  dsimp only [cond_false] at he
  refine H1.nw λw2 _ H2=>?_
  exact loop 6 0 b2 w1.heap.size w2 (by omega) rfl he H2
 refine enthymemeref04_reader_atom.dQ _ w _ (H.cC λb2 w1 H1=>H1.bH λw2 H2=>⟨st.2,H2.ld 0 2,fP (λhb=>?_) (λhb=>s0 b2 w2 (by rw [hb];rfl) H2)⟩)
 have hn:=Jr (H2.getD 0:lN _ _ _ _)
 refine ⟨s,H2.ld 0 0,(st.1:Int),H2.ld 0 1,by omega,by omega,CT (H2.getD 0) hi λp hp c=>⟨((kO l st.1).k:Int),?_,aY (λh2=>?_) (λh2=>s0 b2 w2 (by
  have:Nat.beq (kO l st.1).k 2=false:=by
   cases h:Nat.beq (kO l st.1).k 2 with
   |false=>rfl
   |true=>have:=Nat.eq_of_beq_eq_true h;omega
  rw [this];simp) H2)⟩⟩
 .rw [Int.toNat_natCast,xS];exact c.c2
 have h2:(kO l st.1).k=2:=by omega
 have hl1:st.1+1<l.length:=by
  rcases Nat.lt_or_ge (st.1+1) l.length with h|h
  .exact h
  .exfalso
   have e:st.1=l.length - 1:=by omega
   rw [e,eL.2.2] at h2
   cases h2
 refine ⟨(st.1:Int),H2.ld 0 1,?_⟩
 rw [bP _ (by omega)]
 refine H2.stq 0 1 rfl λw3 H3=>?_
 have H3:LH (·=pb) w w3 [qZ pb s (st.1+1,st.2),.g b2] [rp s l]:=H3
 refine H3.bH λw4 H4=>⟨s,H4.ld 0 0,((st.1+1:Nat):Int),H4.ld 0 1,?_⟩
 have em:aC .i64 (((st.1+1:Nat):Int) - 1)=(st.1:Int):=by rw [aS _ (by omega)];omega
 rw [em]
 unfold Bk at he
 rw [hb,h2] at he
 have he:some (Rx.mk 2 (kO l st.1).lo (kO l st.1).hi [],(st.1+1,false))=some (x,eU):=he
 simp only [Option.some.injEq,Prod.mk.injEq] at he
 obtain ⟨he,kT⟩:=he
 refine ⟨by omega,by omega,CT (H4.getD 0) hi λp hp c=>⟨2,(kO l st.1).lo.toNat,(kO l st.1).hi.toNat,⟨none,0,0⟩,?_,?_,?_,?_,H4.bH λw5 H5=>⟨⟨⟨⟨vn 2 (kO l st.1).lo (kO l st.1).hi,rfl,he,xo _ _ _ _,λb hb=>(tQ hb).elim⟩,by rw [<-kT];exact hl1⟩,?_⟩,H5.fr⟩⟩⟩
 .rw [Int.toNat_natCast,xS,c.c2,h2];rfl
 .rw [Int.toNat_natCast,add_add];exact c.c3
 .rw [Int.toNat_natCast,add_add];exact c.c4
 .rw [Int.toNat_natCast,add_add];exact c.c5
 .have:=H5.get 0
  rw [<-kT,<-hb]
  exact this
def okp (eL:JD l) (rq:l.length<=1000000):∀n:Nat,n<=100000->∀m,m<=n->Pj s l m
 |0,_=>λm hm=>by
  have:m=0:=by omega
  subst this
  exact ⟨λpb st w x eU he=>(by unfold s8 at he;cases he),λpb st w x eU he=>(by unfold yd at he;cases he),λpb st w x eU he=>(by unfold Gl at he;cases he),λpb st w x eU he=>(by unfold vl at he;cases he),λpb st w x eU he=>(by unfold Bk at he;cases he),λpb st w x eU he=>(by unfold B8 at he;cases he)⟩
 |n+1,hn=>λm hm=>by
  have ih:=okp eL rq n (by omega)
  rcases Nat.lt_or_ge m (n+1) with h|h
  .exact ih m (by omega)
  have:m=n+1:=by omega
  subst this
  exact ⟨λpb st w x eU he hi H=>ND eL rq (by omega) ih pb st w x eU he hi H,λpb st w x eU he hi H=>Nz eL rq (by omega) ih pb st w x eU he hi H,λpb st w x eU he hi H=>R7 eL rq (by omega) ih pb st w x eU he hi H,λpb st w x eU he hi H=>N3 eL rq (ih n (Nat.le_refl _)) pb st w x eU he hi H,λpb st w x eU he hi H=>Nm eL rq (ih n (Nat.le_refl _)) pb st w x eU he hi H,λpb st w x eU he hi H=>N4 eL rq (by omega) ih pb st w x eU he hi H⟩
end
def _root_.Go.W.LH.perm {M:Nat->Prop} {w0 w:aA} {L L' D:List En} (H:LH M w0 w L D) (h:L.Perm L'):LH M w0 w L' D:=
 ⟨H.fr,λe he=>H.own e (h.mem_iff.2 he),H.rd,λe he=>H.new e (h.mem_iff.2 he),(h.flatMap_right (·.fp)).nodup_iff.1 H.nd,λe he b hb e' lM=>H.dj e he b hb e' (h.mem_iff.2 lM)⟩
def CS (s:BL):∀(f i:Nat),s.length<f+i->∃init,Gv s f i=init++[⟨[],s.length,0,0,0⟩]/\init.length+i<=max i s.length
 |0,i,h=>⟨[],rfl,by simp;omega⟩
 |f+1,i,h=>by
  unfold Gv
  split
  .exact ⟨[],rfl,by simp;omega⟩
  .split
   .obtain ⟨init,h1,h2⟩:=CS s f (i+1) (by omega)
    exact ⟨init,h1,by omega⟩
   .simp only
    have hr:=Ct s i
    have hw:=MN s i s.length 1 (by omega)
    generalize jt s i=g at hr
    generalize DM s i s.length 1=e at hw
    have hn:1<=(if g.n=0 then e else g.n)/\i+(if g.n=0 then e else g.n)<=s.length:=by split<;>omega
    generalize (if g.n=0 then e else g.n)=n at hn
    obtain ⟨init,h1,h2⟩:=CS s f (i+n) (by omega)
    exact ⟨_::init,by rw [h1];rfl,by simp only [xB];omega⟩
def VH (s:BL):JD (vI s)/\(vI s).length<=s.length+1:=by
 obtain ⟨init,h1,h2⟩:=CS s (s.length+1) 0 (by omega)
 have e:vI s=init++[⟨[],s.length,0,0,0⟩]:=h1
 rw [e]
 have hl:(init++[(⟨[],s.length,0,0,0⟩:kX)]).length=init.length+1:=by simp
 have ht:kO (init++[(⟨[],s.length,0,0,0⟩:kX)]) init.length=⟨[],s.length,0,0,0⟩:=by
  unfold kO
  simp [List.getD_eq_getElem?_getD]
 refine ⟨⟨by omega,?_,?_⟩,by omega⟩
 .rw [hl,Nat.add_sub_cancel,ht]
 .rw [hl,Nat.add_sub_cancel,ht]
def abZ (w:aA) (x:Rx) (a:Nat) (e:Int) (r:cD) (w':aA):Prop:=∃t:Rt,r=aJ (.tuple #[t.v,.i (a:Int),.i e])/\t.rx=x/\t.P w'/\∀b∈t.fp,w.heap.size<=b
def PT (s:ByteArray) (hs:s.size<=100000) (x:Rx) (a:Nat) (e:Int) (he:zE (bl s)=some (x,a,e)) (w:aA):aH aB lq #[.string s] w λr w'=>abZ w x a e r w'/\bW w w':=by
 have hl:(bl s).length=s.size:=iH s
 obtain ⟨eL,hlen⟩:=VH (bl s)
 unfold zE at he
 refine enthymemeref04_Parse.dQ _ w _ ((og [] (by simp)).cC λb2 w1 H1=>bA (λhb=>H1.bH λw2 H2=>?_) (λhb=>H1.rC (PH s hs w1) ?_))
 .rw [aN (by omega)] at he
  simp only [Option.some.injEq,Prod.mk.injEq] at he
  obtain ⟨rfl,rfl,rfl⟩:=he
  exact ⟨⟨oA,rfl,rfl,yz _,λb hb=>(pA hb).elim⟩,H2.fr⟩
 rw [aI (by omega)] at he
 generalize vI (bl s)=l at he eL hlen
 dsimp only at he
 rintro _ w6 ⟨tk,rfl,ho,hf⟩ _ F6
 have H6:=F6.rd (rp tk l) ho.jG (Gf hf)
 cases hx:s8 l 1000 (0,false) with
 |none=>rw [hx] at he;cases he
 |some y=>
  obtain ⟨r0,Gq⟩:=y
  rw [hx] at he
  dsimp only at he
  refine ⟨tk,rfl,H6.nw λw7 _ H7=>?_⟩
  have H7:LH F0 w w7 (qZ w6.heap.size tk (0,false)::[.g b2]) [rp tk l]:=H7.perm (List.Perm.swap _ _ _)
  refine H7.l3 ((okp eL (by omega) 1000 (by omega) 1000 (Nat.le_refl _)).expr w6.heap.size (0,false) w7 r0 Gq hx eL.1 H7.AL) ?_
  rintro _ w8 ⟨⟨u,rfl,hu,pu,fu⟩,zo⟩ _ F8
  have H8:=F8 (.tree u) pu λb hb=>fu b (aV.1 hb)
  refine ⟨_,_,_,u.s,rfl,H8.cC λb6 w9 H9=>H9.bH λtB qe=>?_⟩
  have qe:LH F0 w tB (qZ w6.heap.size tk Gq::[.g b2,.g b6]) [rp tk l,.tree u]:=qe
  refine qe.l3 (Bs qe.AL zo (by omega) []) ?_
  have GJ:=vt eL zo [] (by decide)
  rintro _ yY rfl y8 _
  generalize ss l [] Gq=OB at he GJ y8
  refine ⟨rfl,OB.2,y8.ld 0 2,bR (λDm=>y8.bH λGO JS=>?_) (λDm=>?_)⟩
  .rw [aN Dm] at he
   simp only [Option.some.injEq,Prod.mk.injEq] at he
   obtain ⟨rfl,rfl,rfl⟩:=he
   have hn:=Jr (JS.getD 0:lN _ _ _ _)
   refine ⟨tk,JS.ld 0 0,(OB.1:Int),JS.ld 0 1,by omega,by omega,CT (JS.getD 0) GJ λp hp c=>⟨((kO l OB.1).at_:Int),?_,JS.bH λZP ZV=>⟨?_,ZV.ld 0 1,ZV.ld 0 0,⟨oA,rfl,rfl,yz _,λb hb=>(pA hb).elim⟩,ZV.fr⟩⟩⟩
   .rw [Int.toNat_natCast];exact c.c1
   .rw [Int.toNat_natCast]
    have:=CT (ZV.getD 0) GJ (K:=λq=>∃q',tk.a=some q'/\q=q'/\Lq ZP q' OB.1 (kO l OB.1)) (λq hq hc=>⟨q,hq,rfl,hc⟩)
    rw [hp] at this
    obtain ⟨q,hq,rfl,hc⟩:=this
    exact hc.c1
  .rw [aI (by rw [Dm];simp)] at he
   have pu2:u.P yY:=y8.getD 1
   have ads:r0.sz=u.sz:=by rw [<-hu,Rt.ja]
   by_cases ni:u.sz<=1000000
   .rw [aI (by omega)] at he
    refine y8.bC (Fc u yY ni pu2) ?_
    rintro _ w20 rfl H20
    refine ⟨_,rfl,bA (λEj=>H20.bH λJN JU=>?_) (λEj=>H20.bH λJN JU=>?_)⟩
    .rw [aN (by omega)] at he
     simp only [Option.some.injEq,Prod.mk.injEq] at he
     obtain ⟨rfl,rfl,rfl⟩:=he
     exact ⟨⟨oA,rfl,rfl,yz _,λb hb=>(pA hb).elim⟩,JU.fr⟩
    .rw [aI (by omega)] at he
     simp only [Option.some.injEq,Prod.mk.injEq] at he
     obtain ⟨rfl,rfl,rfl⟩:=he
     exact ⟨⟨u,rfl,hu,JU.getD 1,λb hb=>Nat.le_trans H7.fr.size (fu b hb)⟩,JU.fr⟩
   .rw [aN (by omega)] at he
    cases he
def dW (a b:BL):ba a++ba b=ba (a++b):=by
 apply ByteArray.ext
 rw [ByteArray.data_append]
 simp [ba]
def zb {w:aA} {b n:Nat} {cs:List aD} {T:aP} (h:w.heap[b]? =some (.cells cs.toArray T (0,0))) (hn:n=cs.length):Rd w ⟨some (bO b),n,n⟩ cs:=
 RS (s:=⟨some (bO b),n,n⟩) hn (Nat.le_refl _) (λh=>by cases h) λi v hi=>⟨bO b,rfl,cellAt (p:=bO b) h rfl (by simpa using hi)⟩
def PV (c:UInt8) (w:aA):aH aB jT #[.int .u8 (c.toNat:Int)] w λr w'=>r=aJ (.bool (wk c))/\bW w w':=by
 refine enthymemeref04_low.ok _ w _ (bA (λh=>⟨?_,Fr.refl _ _⟩) (λh=>⟨?_,Fr.refl _ _⟩))
 .unfold wk
  rw [aO (show 97<=c.toNat by omega),Bool.true_and,show aR ((c.toNat:Int)<=122)=aR (c.toNat<=122) from decide_eq_decide.2 (by omega)]
 .unfold wk
  rw [aK (show ¬97<=c.toNat by omega),Bool.false_and]
def Fg (c:UInt8) (w:aA):aH aB il #[.int .u8 (c.toNat:Int)] w λr w'=>r=aJ (.string (ba (eN c)))/\bW w w':=by
 have hc:=c.toNat_lt
 have H:LH F0 w w [] []:=og [] (by simp)
 refine enthymemeref04_Byte.ok _ w _ (H.call (Hi c w) ?_)
 rintro _ w1 rfl H1
 refine ⟨_,rfl,bR (λhp=>?_) (λhp=>?_)⟩
 .refine H1.Y5 (λw2 _ H2 hb=>?_)
  have e39:((39:UInt8).toNat:Int)=39:=rfl
  have hB:Bytes w2 ⟨some (bO w1.heap.size),3,3⟩ [39,c,39]:=zb (T:=bS) hb rfl
  have hcv:=pT hB
  refine ⟨ba [39,c,39],hcv,?_,H2.fr⟩
  unfold eN;rw [aN hp]
 .have e1:aC .i64 (c.toNat:Int)=(c.toNat:Int):=aS _ (by omega)
  have e2:aC .i64 (Int.tdiv (c.toNat:Int) 16)=((c.toNat / 16:Nat):Int):=by
   rw [Int.tdiv_eq_ediv_of_nonneg (by omega),aS _ (by omega)];omega
  have e3:Int.tmod (c.toNat:Int) 16=((c.toNat%16:Nat):Int):=by
   rw [Int.tmod_eq_emod_of_nonneg (by omega)];omega
  rw [e1,e2,e3]
  refine H1.call (Bu (c.toNat / 16) (by omega) w1) ?_
  rintro _ w2 rfl H2
  refine ⟨_,rfl,H2.call (Bu (c.toNat%16) (by omega) w2) ?_⟩
  rintro _ w3 rfl H3
  refine ⟨_,rfl,H3.Y5 (λw4 _ H4 hb=>?_)⟩
  have hB:Bytes w4 ⟨some (bO w3.heap.size),4,4⟩ [92,120,uB (c.toNat / 16),uB (c.toNat%16)]:=zb (T:=bS) hb rfl
  have hcv:=pT hB
  refine ⟨ba [92,120,uB (c.toNat / 16),uB (c.toNat%16)],hcv,?_,H4.fr⟩
  unfold eN;rw [aI (by rw [hp];simp)]
def rY (ts:List BL):Nat:=(ts.map λt=>t.length+2).sum
def qc (lv:Nat) (a:Rx) (t:BL):(dN lv a t).length<=t.length+2/\t.length<=(dN lv a t).length:=by
 unfold dN
 split
 .simp;omega
 .simp
def B6 (k:Int):∀(ts:List BL) (out:BL),(nU k out ts).length<=out.length+rY ts/\out.length<=(nU k out ts).length
 |[],out=>by simp [nU,rY]
 |t::ts,out=>by
  unfold nU
  have ih:=B6 k ts ((if k=3/\wk (sg out)=true/\wk (gQ t 0)=true then out++[32] else out)++nf k++t)
  have h1:(nf k).length<=1:=by unfold nf;split<;>(try split)<;>simp
  have h3:k=3->(nf k).length=0:=λh=>by unfold nf;rw [aN h];rfl
  have h2:((if k=3/\wk (sg out)=true/\wk (gQ t 0)=true then out++[32] else out):BL).length<=out.length+2 - (nf k).length/\out.length<=((if k=3/\wk (sg out)=true/\wk (gQ t 0)=true then out++[32] else out):BL).length:=by
   split
   .rename_i h
    rw [h3 h.1]
    simp
   .omega
  simp only [nE] at ih
  have hs:rY (t::ts)=t.length+2+rY ts:=by simp [rY]
  omega
mutual
def Dh:∀x:Rx,(iC x).length+4<=18 *x.sz
 |.mk k lo hi l=>by
  have hb:∀c,(eN c).length<=4:=λc=>by unfold eN;split<;>simp
  have h3:=uk 3 l
  have h4:=uk 4 l
  have h0:=uk 0 l
  have hn:(Ci k).length=4:=by unfold Ci;split<;>(try split)<;>rfl
  have hd:∀lv,(xk (j9 lv l)).length<=rY (j9 lv l):=λlv=>by
   cases j9 lv l with
   |nil=>simp [xk]
   |cons t ts=>simp [xk,rY];omega
  have d3:=hd 3
  have d4:=hd 4
  have d0:=hd 0
  have uF:=hb lo
  have Ue:=hb hi
  unfold Rx.sz
  unfold iC
  split
  .simp;omega
  .split
   .simp;omega
   .split
    .split
     .omega
     .simp only [xB,nE,JM];omega
    .split
     .simp only [xB];omega
     .split
      .simp only [nE,xB,JM];omega
      .split
       .simp only [nE,xB,JM];omega
       .have hw:=uk (dJ (.mk k lo hi l)+1) l
        cases hh:j9 (dJ (.mk k lo hi l)+1) l with
        |nil=>show 0+4<=_;omega
        |cons t ts=>
         rw [hh] at hw
         have:=(B6 k ts t).1
         simp only [rY,List.map_cons,List.sum_cons] at hw
         simp only [rY] at this
         show (nU k t ts).length+4<=_
         omega
def uk (lv:Nat):∀l:List Rx,rY (j9 lv l)<=18 *Rx.gF l
 |[]=>by simp [j9,rY]
 |a::l=>by
  have h1:=Dh a
  have h2:=uk lv l
  have h3:=(qc lv a (iC a)).1
  unfold j9 Rx.gF
  simp only [rY,List.map_cons,List.sum_cons] at h2 ⊢
  omega
end
def vW {k:Int} {lo hi:UInt8} {l:List Rx} (h:okW (.mk k lo hi l)=true):0<=k/\k<=7/\(k=6\/k=7->l.length=1)/\DK l=true:=by
 unfold okW at h
 simp only [Bool.and_eq_true,decide_eq_true_eq,Bool.or_eq_true] at h
 exact ⟨h.1.1.1,h.1.1.2,λhk=>by omega,h.2⟩
def yC:∀{l:List Rx} {a:Rx},DK l=true->a∈l->okW a=true
 |b::l,a,h,ha=>by
  unfold DK at h
  rw [Bool.and_eq_true] at h
  rcases dT.1 ha with rfl|ha
  .exact h.1
  .exact yC h.2 ha
def GF:∀x:Rx,okW x=true->0<(iC x).length
 |.mk k lo hi l=>λh=>by
  obtain ⟨h1,h2,h3,h4⟩:=vW h
  have hb:∀c,0<(eN c).length:=λc=>by unfold eN;split<;>simp
  unfold iC
  split
  .simp
  .split
   .simp
   .split
    .split
     .exact hb lo
     .simp
    .split
     .simp
     .split
      .simp
      .split
       .simp only [nE,xB];omega
       .rename_i h5
        match l,h4,h5 with
        |[],_,h5=>simp at h5
        |a::m,h4,h5=>
         have:=GF a (yC h4 (by simp))
         unfold j9
         show 0<(nU _ _ _).length
         have hj:=(B6 k (j9 (dJ (.mk k lo hi (a::m))+1) m) (dN (dJ (.mk k lo hi (a::m))+1) a (iC a))).2
         have hp:=(qc (dJ (.mk k lo hi (a::m))+1) a (iC a)).2
         omega
def Bt (x:Rt) (w:aA) (h0:0<=x.k) (h7:x.k<=7) (px:x.P w):aH aB g7 #[x.v] w λr w'=>r=aJ (.i (dJ x.rx:Int))/\bW w w':=by
 have nr:=Rt.cX px.parts.1
 have hl:(Rt.cR x.l).length=x.l.length:=by rw [Rt.fX,List.length_map]
 have eb:dJ x.rx=if x.k=6 then 3 else if x.k<3\/x.k=7\/x.l.length<2 then 4 else if x.k=3 then 2 else if x.k=4 then 0 else 1:=by
  rw [Rt.eE]
  unfold dJ
  dsimp only
  rw [hl]
 rw [eb]
 have four:∀w',bW w w'->x.k≠6->(x.k<3\/x.k=7\/x.l.length<2)->enthymemeref04_binds.eX w' λr w'=>r=aJ (.i ((if x.k=6 then 3 else if x.k<3\/x.k=7\/x.l.length<2 then 4 else if x.k=3 then 2 else if x.k=4 then 0 else 1:Nat):Int))/\bW w w':=λw' f h6 h=>⟨by rw [aI h6,aN h];rfl,f⟩
 refine enthymemeref04_binds.dQ _ _ _ _ w _ ((Cc px).cC λb w1 H1=>aY (λh6=>⟨by rw [aN h6];rfl,H1.fr⟩) (λh6=>bA (λh3=>four w1 H1.fr h6 (.inl h3)) (λh3=>aY (λh7'=>four w1 H1.fr h6 (.inr (.inl h7'))) (λh7'=>bA (λh2=>four w1 H1.fr h6 (.inr (.inr (by omega)))) (λh2=>?_)))))
 refine H1.nw λw2 _ H2=>?_
 have hk:x.k=3\/x.k=4\/x.k=5:=by omega
 have e:(if x.k=6 then 3 else if x.k<3\/x.k=7\/x.l.length<2 then 4 else if x.k=3 then 2 else if x.k=4 then 0 else 1:Nat)=if x.k=3 then 2 else if x.k=4 then 0 else 1:=by
  rw [aI h6,aI (by omega)]
 rw [e]
 rcases hk with hk|hk|hk<;>rw [hk]
 .exact ⟨by decide,by decide,yD ⟨2,H2.ld 1 0,rfl,H2.fr⟩⟩
 .exact ⟨by decide,by decide,yD ⟨0,H2.ld 1 1,rfl,H2.fr⟩⟩
 .exact ⟨by decide,by decide,yD ⟨1,H2.ld 1 2,rfl,H2.fr⟩⟩
def Mk (t:BL) (h:0<t.length):gQ t (t.length - 1)=sg t:=by
 unfold gQ sg
 rw [List.getD_eq_getElem?_getD,List.getLastD_eq_getLast?,List.getLast?_eq_getElem?]
def Sj (l:List Rt) (i:Nat):Rx.gF (Rt.cR (l.drop i))<=Rt.gF l:=by
 rw [Rt.CB]
 induction l generalizing i with
 |nil=>simp
 |cons a l ih=>
  cases i with
  |zero=>exact Nat.le_refl _
  |succ i=>have:=ih i;show _<=a.sz+Rt.gF l;exact Nat.le_trans this (by omega)
abbrev ab1 (n:Nat):Prop:=∀(x:Rt) (lv:Nat) (w:aA),x.sz<=n->lv<=1000->okW x.rx=true->x.P w->aH aB cE #[x.v,.i (lv:Int)] w λr w'=>r=aJ (.string (ba (dN lv x.rx (iC x.rx))))/\bW w w'
def Hd:∀n:Nat,n<=1000000->ab1 n
 |0,_=>λx lv w h _ _ _=>absurd h (by have:=Rt.nZ x;omega)
 |n+1,hn=>by
  have ih:=Hd n (by omega)
  have core:∀(x:Rt) (lv:Nat) (w:aA),x.sz<=n+1->¬dJ x.rx<lv->okW x.rx=true->x.P w->aH aB cE #[x.v,.i (lv:Int)] w λr w'=>r=aJ (.string (ba (iC x.rx)))/\bW w w':=by
   intro x lv w h Wv eL px
   have hs:=Rt.hM x
   have hl:=Rt.gj x.l
   have nr:=Rt.cX px.parts.1
   have HZ:=eL
   rw [Rt.eE] at HZ
   obtain ⟨k0,k7,FF,wE⟩:=vW HZ
   have Kx:(Rt.cR x.l).length=x.l.length:=by rw [Rt.fX,List.length_map]
   rw [Kx] at FF
   have FE:∀a∈x.l,okW a.rx=true:=λa ha=>yC wE (by rw [Rt.fX];exact List.mem_map.2 ⟨a,ha,rfl⟩)
   have BX:∀a:Rt,a.sz<=1000000->(iC a.rx).length<=18000000:=λa ha=>by have:=Dh a.rx;rw [Rt.ja] at this;omega
   have QU:∀(a:Rt) (lv:Nat),a.sz<=1000000->(dN lv a.rx (iC a.rx)).length<=18000002:=λa lv ha=>by have h1:=BX a ha;have:=(qc lv a.rx (iC a.rx)).1;omega
   have BY:∀c,(eN c).length<=4:=λc=>by unfold eN;split<;>simp
   let R:aT:=λr w'=>r=aJ (.string (ba (iC x.rx)))/\bW w w'
   have one:∀(a:Rt) (Rj:Nat) (w1:aA) (b2:Nat) (K:ByteArray->aA->Prop),Rj<=1000->a∈x.l->LH F0 w w1 [.g b2] [.tree x]->(∀w2,LH F0 w w2 [.g b2] [.tree x]->K (ba (dN Rj a.rx (iC a.rx))) w2)->oW [b2] cE #[.agg #[.i a.k,.int .u8 (a.lo.toNat:Int),.int .u8 (a.hi.toNat:Int),a.s.v],.i (Rj:Int)] w1 K:=by
    intro a Rj w1 b2 K YE ha H1 hK
    have Gu:=Rt.eM ha
    refine H1.bC (ih a Rj w1 (by omega) YE (FE a ha) ((show x.P w1 from H1.getD 0).parts.2.mem ha)) ?_
    rintro _ w2 rfl H2
    exact ⟨_,rfl,hK w2 H2⟩
   refine enthymemeref04_Write.dQ _ _ _ _ _ w _ ((Cc px).cC λb2 w1 H1=>?_)
   have H1:LH F0 w w1 [.g b2] [.tree x]:=H1
   refine H1.bC (Bt x w1 k0 k7 (H1.getD 0)) ?_
   rintro _ w2 rfl H2
   have Kj:iC x.rx=iC (.mk x.k x.lo x.hi (Rt.cR x.l)):=by rw [Rt.eE]
   refine ⟨_,rfl,aX (aK (by omega)) (aY (λhk=>⟨?_,H2.fr⟩) (λvU=>aY (λhk=>⟨?_,H2.fr⟩) (λHW=>aY (λtN=>?_) (λtN=>aY (λGI=>?_) (λGI=>aY (λOW=>?_) (λOW=>bA (λYC=>?_) (λYC=>?_)))))))⟩
   .rw [Kj];unfold iC;rw [aN hk];rfl
   .rw [Kj];unfold iC;rw [aI vU,aN hk];rfl
   .have e2:iC x.rx=if x.lo=x.hi then eN x.lo else 91::(eN x.lo++45::(eN x.hi++[93])):=by
     rw [Kj];unfold iC;rw [aI vU,aI HW,aN tN]
    refine aY (λUh=>H2.bC (Fg x.lo w2) ?_) (λUh=>H2.bH λw5 H5=>H5.bC (Fg x.lo w5) ?_)
    .rintro _ w3 rfl H3
     exact ⟨_,rfl,by rw [e2,aN (UInt8.toNat_inj.1 (by omega))],H3.fr⟩
    .rintro _ w6 rfl H6
     have h1:=BY x.lo
     have h2:=BY x.hi
     have s0:aE #[91]++ba (eN x.lo)++aE #[45]=ba (91::eN x.lo++[45]):=by
      show ba [91]++ba (eN x.lo)++ba [45]=_
      rw [dW,dW];rfl
     refine ⟨_,rfl,?_,?_,H6.bC (Fg x.hi w6) ?_⟩
     .rw [cN];show ¬(((1+_:Nat):Int)>9223372036854775807);omega
     .have:(aE #[91]++ba (eN x.lo)).size=1+(eN x.lo).length:=by
       show (ba [91]++_).size=_
       rw [dW,cN];simp;omega
      rw [this];show ¬(((_+1:Nat):Int)>9223372036854775807);omega
     rintro _ w7 rfl H7
     rw [s0]
     have:ba (91::eN x.lo++[45]++eN x.hi)++aE #[93]=ba (91::eN x.lo++[45]++eN x.hi++[93]):=by
      show _++ba [93]=_
      rw [dW]
     refine ⟨_,rfl,?_,?_,?_,H7.fr⟩
     .rw [cN,cN];simp only [nE,xB,JM];show ¬(((_:Nat):Int)>9223372036854775807);omega
     .rw [dW,cN];simp only [nE,xB,JM];show ¬(((_+1:Nat):Int)>9223372036854775807);omega
     .rw [dW,this,e2,aI (λh=>Uh (by rw [h]))]
      simp
   .have h1:=FF (.inl GI)
    have e6:iC x.rx=33::xk (j9 3 (Rt.cR x.l)):=by
     rw [Kj];unfold iC;rw [aI vU,aI HW,aI tN,aN GI]
    match pQ:x.l,h1 with
    |[a],_=>
     have ha:a∈x.l:=by rw [pQ];simp
     have Gu:=Rt.eM ha
     refine ku (show x.P w2 from H2.getD 0) (k:=0) rfl (by rw [pQ];rfl) (one a 3 w2 b2 _ (by omega) ha H2 λw3 H3=>⟨?_,?_,H3.fr⟩)
     .have:=QU a 3 (by omega)
      rw [cN];show ¬(((1+_:Nat):Int)>9223372036854775807);omega
     .have:aE #[33]++ba (dN 3 a.rx (iC a.rx))=ba (33::dN 3 a.rx (iC a.rx)):=by
       show ba [33]++_=_
       rw [dW];rfl
      rw [this,e6,pQ]
      rfl
   .have h1:=FF (.inr OW)
    have e7:iC x.rx=xk (j9 4 (Rt.cR x.l))++[42]:=by
     rw [Kj];unfold iC;rw [aI vU,aI HW,aI tN,aI GI,aN OW]
    match pQ:x.l,h1 with
    |[a],_=>
     have ha:a∈x.l:=by rw [pQ];simp
     have Gu:=Rt.eM ha
     refine ku (show x.P w2 from H2.getD 0) (k:=0) rfl (by rw [pQ];rfl) (one a 4 w2 b2 _ (by omega) ha H2 λw3 H3=>⟨?_,?_,H3.fr⟩)
     .have:=QU a 4 (by omega)
      rw [cN];show ¬(((_+1:Nat):Int)>9223372036854775807);omega
     .have:ba (dN 4 a.rx (iC a.rx))++aE #[42]=ba (dN 4 a.rx (iC a.rx)++[42]):=by
       show _++ba [42]=_
       rw [dW]
      rw [this,e7,pQ]
      rfl
   .
    have hk:x.k=3\/x.k=4\/x.k=5:=by omega
    have ef:iC x.rx=Ci x.k++(xk (j9 0 (Rt.cR x.l))++[41]):=by
     rw [Kj];unfold iC;rw [aI vU,aI HW,aI tN,aI GI,aI OW,aN (by rw [Kx];omega)]
    have fin:∀(t:BL) (w3:aA),t.length<=18000002->xk (j9 0 (Rt.cR x.l))=t->LH F0 w w3 [.g b2] [.tree x]->enthymemeref04_Write.eX b2 x.k x.lo.toNat x.hi.toNat x.s (ba t) w3 R:=by
     intro t w3 ht he H3
     refine H3.nw λw4 _ H4=>?_
     have key:∀(u:BL),u.length=4->Ci x.k=u->¬((((ba u).size+(ba t).size:Nat):Int)>IntKind.i64.max)/\¬((((ba u++ba t).size+(aE #[41]).size:Nat):Int)>IntKind.i64.max)/\R (aJ (.string ((ba u++ba t)++(aE #[41])))) w4:=by
      intro u hu hn
      refine ⟨?_,?_,?_,H4.fr⟩
      .rw [cN,cN];show ¬(((_:Nat):Int)>9223372036854775807);omega
      .rw [dW,cN];simp only [nE];show ¬(((_+1:Nat):Int)>9223372036854775807);omega
      .have:ba u++ba t++aE #[41]=ba (u++(t++[41])):=by
        show _++_++ba [41]=_
        rw [dW,dW];simp
       rw [this,ef,hn,he]
     rcases hk with hk|hk|hk<;>rw [hk]
     .exact ⟨by decide,by decide,yD ⟨ba [99,97,116,40],H4.ld 1 0,key _ rfl (by rw [hk];rfl)⟩⟩
     .exact ⟨by decide,by decide,yD ⟨ba [97,108,116,40],H4.ld 1 1,key _ rfl (by rw [hk];rfl)⟩⟩
     .exact ⟨by decide,by decide,yD ⟨ba [97,108,108,40],H4.ld 1 2,key _ rfl (by rw [hk];rfl)⟩⟩
    refine aY (λh1=>?_) (λh1=>?_)
    .match pQ:x.l with
     |[]=>rw [pQ] at nr;simp at nr;omega
     |_::_::_=>rw [pQ] at nr;simp at nr;omega
     |[a]=>
      have ha:a∈x.l:=by rw [pQ];simp
      have Gu:=Rt.eM ha
      refine ku (show x.P w2 from H2.getD 0) (k:=0) rfl (by rw [pQ];rfl) (one a 0 w2 b2 _ (by omega) ha H2 λw3 H3=>?_)
      exact fin _ w3 (QU a 0 (by omega)) (by rw [pQ];rfl) H3
    .have:x.l=[]:=List.length_eq_zero_iff.1 (by omega)
     exact fin [] w2 (by simp) (by rw [this];rfl) H2
   .
    have hk:x.k=3\/x.k=4\/x.k=5:=by omega
    match pQ:x.l with
    |[]=>rw [pQ] at nr;simp at nr;omega
    |a::m=>
    have ha:a∈x.l:=by rw [pQ];simp
    have Gu:=Rt.eM ha
    have sgl:(nf x.k).length<=1:=by unfold nf;split<;>(try split)<;>simp
    have ef:iC x.rx=nU x.k (dN (dJ x.rx+1) a.rx (iC a.rx)) (j9 (dJ x.rx+1) (Rt.cR (x.l.drop 1))):=by
     have e1:iC x.rx=Uw x.k (j9 (dJ x.rx+1) (Rt.cR x.l)):=by
      conv=>lhs;rw [Kj];unfold iC;rw [aI vU,aI HW,aI tN,aI GI,aI OW,aI (by rw [Kx];omega)]
      rw [<-Rt.eE]
     rw [e1,pQ]
     rfl
    have hbq:dJ x.rx<=4:=by
     rw [Rt.eE];unfold dJ;dsimp only;repeat (first |omega|split)
    have loop:∀(d i:Nat) (out:BL) (w3:aA),i+d=x.l.length->1<=i->0<out.length->out.length+rY (j9 (dJ x.rx+1) (Rt.cR (x.l.drop i)))<=40000000->iC x.rx=nU x.k out (j9 (dJ x.rx+1) (Rt.cR (x.l.drop i)))->LH F0 w w3 [.g b2] [.tree x]->
      enthymemeref04_Write.mC b2 x.k x.lo.toNat x.hi.toNat x.s (ba (nf x.k)) (dJ x.rx:Int) (ba out) (i:Int) w3 R:=by
     intro d
     induction d with
     |zero=>
      intro i out w3 hi h1 KA AH he H3
      refine enthymemeref04_Write.dR _ _ _ _ _ _ _ _ _ _ _ (aX (aK (by omega)) ⟨?_,H3.fr⟩)
      rw [he,List.drop_of_length_le (by omega)]
      rfl
     |succ d rR=>
      intro i out w3 hi h1 KA AH he H3
      have hg:x.l[i]? =some (x.l[i]'(by omega)):=ie (by omega)
      have DC:x.l.drop i=(x.l[i]'(by omega))::x.l.drop (i+1):=List.drop_eq_getElem_cons (by omega)
      generalize x.l[i]'(by omega)=c at hg DC
      have hc:=dI hg
      have szc:=Rt.eM hc
      rw [DC] at he AH
      have AH:out.length+((dN (dJ x.rx+1) c.rx (iC c.rx)).length+2+rY (j9 (dJ x.rx+1) (Rt.cR (x.l.drop (i+1)))))<=40000000:=by
       have:rY (j9 (dJ x.rx+1) (Rt.cR (c::x.l.drop (i+1))))=(dN (dJ x.rx+1) c.rx (iC c.rx)).length+2+rY (j9 (dJ x.rx+1) (Rt.cR (x.l.drop (i+1)))):=by
        simp [Rt.cR,j9,rY]
       omega
      have he:iC x.rx=nU x.k ((if x.k=3/\wk (sg out)=true/\wk (gQ (dN (dJ x.rx+1) c.rx (iC c.rx)) 0)=true then out++[32] else out)++nf x.k++dN (dJ x.rx+1) c.rx (iC c.rx)) (j9 (dJ x.rx+1) (Rt.cR (x.l.drop (i+1)))):=by
       rw [he];rfl
      have hcp:0<(dN (dJ x.rx+1) c.rx (iC c.rx)).length:=by
       have h1:=GF c.rx (FE c hc)
       have:=(qc (dJ x.rx+1) c.rx (iC c.rx)).2
       omega
      have eb1:aC .i64 ((dJ x.rx:Int)+1)=((dJ x.rx+1:Nat):Int):=bP _ (by omega)
      refine enthymemeref04_Write.dR _ _ _ _ _ _ _ _ _ _ _ (bF (aO (by omega)) (ku (show x.P w3 from H3.getD 0) rfl hg ?_))
      rw [eb1]
      refine one c (dJ x.rx+1) w3 b2 _ (by omega) hc H3 λw4 H4=>?_
      generalize dN (dJ x.rx+1) c.rx (iC c.rx)=t at he AH hcp
      have go:∀(o:BL) (w5:aA),o.length<=out.length+1->out.length<=o.length->o.length+(nf x.k).length<=out.length+1->iC x.rx=nU x.k (o++nf x.k++t) (j9 (dJ x.rx+1) (Rt.cR (x.l.drop (i+1))))->LH F0 w w5 [.g b2] [.tree x]->
        enthymemeref04_Write.fN b2 x.k x.lo.toNat x.hi.toNat x.s (ba (nf x.k)) (dJ x.rx:Int) (ba o) (i:Int) (ba t) w5 R:=by
       intro o w5 ho1 ho2 ho3 heo H5
       refine ⟨?_,?_,?_⟩
       .rw [cN,cN];show ¬(((_:Nat):Int)>9223372036854775807);omega
       .rw [dW,cN,cN];simp only [nE];show ¬(((_:Nat):Int)>9223372036854775807);omega
       .show enthymemeref04_Write.mC _ _ _ _ _ _ _ _ _ _ _
        rw [dW,dW,bP _ (by omega)]
        refine rR (i+1) (o++nf x.k++t) w5 (by omega) (by omega) (by simp only [nE];omega) (by simp only [nE];omega) heo H5
      have sy:∀w5,LH F0 w w5 [.g b2] [.tree x]->¬(x.k=3/\wk (sg out)=true/\wk (gQ t 0)=true)->enthymemeref04_Write.fN b2 x.k x.lo.toNat x.hi.toNat x.s (ba (nf x.k)) (dJ x.rx:Int) (ba out) (i:Int) (ba t) w5 R:=λw5 H5 h=>go out w5 (by omega) (by omega) (by omega) (by rw [aI h] at he;exact he) H5
      have eo:aC .i64 ((((ba out).size:Nat):Int) - 1)=((out.length - 1:Nat):Int):=by rw [cN,aS _ (by omega)];omega
      rw [eo]
      refine aY (λKw=>⟨by omega,sg out,?_,H4.bC (PV (sg out) w4) ?_⟩) (λKw=>sy w4 H4 (λh=>Kw h.1))
      .rw [Int.toNat_natCast,mu (s:=ba out) (by rw [cN];omega),r7,Mk out KA]
      rintro _ w5 rfl H5
      refine ⟨_,rfl,bR (λuF=>⟨by omega,gQ t 0,?_,H5.bC (PV (gQ t 0) w5) ?_⟩) (λuF=>sy w5 H5 (λh=>by rw [h.2.1] at uF;cases uF))⟩
      .rw [show aF 0=0 from rfl,mu (s:=ba t) (by rw [cN];omega),r7]
      rintro _ w6 rfl H6
      have s3:(nf x.k).length=0:=by unfold nf;rw [aN Kw];rfl
      refine ⟨_,rfl,bR (λjO=>⟨?_,?_⟩) (λjO=>sy w6 H6 (λh=>by rw [h.2.2] at jO;cases jO))⟩
      .rw [cN];show ¬(((_+1:Nat):Int)>9223372036854775807);omega
      .have e32:ba out++aE #[32]=ba (out++[32]):=by
        show _++ba [32]=_
        rw [dW]
       rw [e32]
       refine go (out++[32]) w6 (by simp) (by simp) (by simp;omega) ?_ H6
       rw [aN ⟨Kw,uF,jO⟩] at he
       exact he
    refine H2.nw λyY _ y8=>?_
    have aaa:LH F0 w yY [.g b2] [.tree x]:=y8.take 1
    have rest:∀(u:BL),nf x.k=u->qf [b2] g7 #[.agg #[.i x.k,.int .u8 (x.lo.toNat:Int),.int .u8 (x.hi.toNat:Int),x.s.v]] yY λt90 AO=>bY x.s 0 λabA=>cV AO (abA.add (aF 0 *4)) λabB abC abD abE=>oW [b2] cE #[.agg #[.i abB,.int .u8 abC,.int .u8 abD,abE.v],.i (aC .i64 (t90+1))] AO λt97 Db=>enthymemeref04_Write.mC b2 x.k x.lo.toNat x.hi.toNat x.s (ba u) t90 t97 1 Db R:=by
     intro u hu
     refine aaa.bC (Bt x yY k0 k7 (aaa.getD 0)) ?_
     rintro _ AO rfl Dr
     refine ⟨_,rfl,ku (show x.P AO from Dr.getD 0) (k:=0) rfl (by rw [pQ];rfl) ?_⟩
     have eb1:aC .i64 ((dJ x.rx:Int)+1)=((dJ x.rx+1:Nat):Int):=bP _ (by omega)
     rw [eb1]
     refine one a (dJ x.rx+1) AO b2 _ (by omega) ha Dr λDb Di=>?_
     rw [<-hu]
     refine loop (x.l.length - 1) 1 _ Db (by omega) (by omega) ?_ ?_ ef Di
     .have h1:=GF a.rx (FE a ha)
      have:=(qc (dJ x.rx+1) a.rx (iC a.rx)).2
      omega
     .have h1:=QU a (dJ x.rx+1) (by omega)
      have h2:=uk (dJ x.rx+1) (Rt.cR (x.l.drop 1))
      have h3:=Sj x.l 1
      omega
    rcases hk with hk|hk|hk
    .exact ⟨by rw [hk];decide,by rw [hk];decide,yD ⟨ba [],by rw [hk];exact y8.ld 1 0,rest _ (by rw [hk];rfl)⟩⟩
    .exact ⟨by rw [hk];decide,by rw [hk];decide,yD ⟨ba [124],by rw [hk];exact y8.ld 1 1,rest _ (by rw [hk];rfl)⟩⟩
    .exact ⟨by rw [hk];decide,by rw [hk];decide,yD ⟨ba [38],by rw [hk];exact y8.ld 1 2,rest _ (by rw [hk];rfl)⟩⟩
  intro x lv w h Wv eL px
  by_cases hb:dJ x.rx<lv
  .have HZ:=eL
   rw [Rt.eE] at HZ
   obtain ⟨k0,k7,_,_⟩:=vW HZ
   refine enthymemeref04_Write.dQ _ _ _ _ _ w _ ((Cc px).cC λb2 w1 H1=>H1.bC (Bt x w1 k0 k7 (H1.getD 0)) ?_)
   rintro _ w2 rfl H2
   refine ⟨_,rfl,bF (aO (by omega)) (H2.bC (core x 0 w2 h (by omega) eL (H2.getD 0)) ?_)⟩
   rintro _ w3 rfl H3
   have rq:(iC x.rx).length<=18000000:=by have:=Dh x.rx;rw [Rt.ja] at this;omega
   have e:aE #[40]++ba (iC x.rx)++aE #[41]=ba (40::(iC x.rx++[41])):=by
    show ba [40]++ba (iC x.rx)++ba [41]=_
    rw [dW,dW];simp
   refine ⟨_,rfl,?_,?_,?_,H3.fr⟩
   .rw [cN];show ¬(((1+_:Nat):Int)>9223372036854775807);omega
   .have:(aE #[40]++ba (iC x.rx)).size=1+(iC x.rx).length:=by
     show (ba [40]++_).size=_
     rw [dW,cN];simp;omega
    rw [this];show ¬(((_+1:Nat):Int)>9223372036854775807);omega
   .rw [e];unfold dN;rw [aN hb]
  .have:=core x lv w h hb eL px
   have e:dN lv x.rx (iC x.rx)=iC x.rx:=by unfold dN;rw [aI hb]
   rw [e]
   exact this
def LB (x:Rt) (lv:Nat) (w:aA) (h:x.sz<=1000000) (Wv:lv<=1000) (eL:okW x.rx=true) (px:x.P w):aH aB cE #[x.v,.i (lv:Int)] w λr w'=>r=aJ (.string (ba (dN lv x.rx (iC x.rx))))/\bW w w':=Hd 1000000 (Nat.le_refl _) x lv w h Wv eL px
def RH {s:BL} {x:Rx} {a:Nat} {e:Int} (h:zE s=some (x,a,e)):x.sz<=1000000:=by
 unfold zE at h
 split at h
 .simp only [Option.some.injEq,Prod.mk.injEq] at h
  rw [<-h.1];decide
 .dsimp only at h
  split at h
  .split at h
   .simp only [Option.some.injEq,Prod.mk.injEq] at h
    rw [<-h.1];decide
   .split at h
    .cases h
    .split at h
     .simp only [Option.some.injEq,Prod.mk.injEq] at h
      rw [<-h.1];decide
     .simp only [Option.some.injEq,Prod.mk.injEq] at h
      rw [<-h.1];omega
  .cases h
def G8 (s:ByteArray) (hs:s.size<=100000) (b:Bool) (hc:Fj (bl s)=some b) (w:aA):aH aB jl #[.string s] w λr w'=>r=aJ (.bool b)/\bW w w':=by
 unfold Fj at hc
 cases hp:zE (bl s) with
 |none=>rw [hp] at hc;cases hc
 |some y=>
  obtain ⟨x,a,e⟩:=y
  rw [hp] at hc
  dsimp only at hc
  have ni:=RH hp
  have H:LH F0 w w [] []:=og [] (by simp)
  refine enthymemeref04_Canonical.dQ _ w _ (H.LJ (PT s hs x a e hp w) ?_)
  rintro _ w1 ⟨t,rfl,ht,pt,ft⟩ _ F1
  have H1:=F1.rd (.tree t) pt λb hb=>ft b (aV.1 hb)
  have W4:t.sz<=1000000:=by rw [<-Rt.ja,ht];exact ni
  refine ⟨_,_,_,t.s,_,_,rfl,H1.cC λb3 w2 H2=>gB (λhe=>H2.bH λw3 H3=>⟨?_,H3.fr⟩) (λhe=>H2.bH λw3 H3=>?_)⟩
  .rw [aI he] at hc
   cases hc;rfl
  rw [aN he] at hc
  refine o7 ((Hh t w3 W4 (H3.getD 0)).mono ?_)
  rintro _ w4 ⟨⟨u,rfl,hu,pu,fu⟩,f4⟩
  have H4:=H3.pS (.tree u) f4 pu λb hb=>(fu b (aV.1 hb)).imp id λhb=>.inr ⟨_,dI (i:=0) rfl,aV.2 hb⟩
  rw [ht] at hu
  refine ⟨f4,_,_,_,u.s,_,rfl,H4.cC λb6 w5 H5=>?_⟩
  rw [ht]
  refine aY (λhn=>H5.bH λw6 H6=>?_) (λhn=>H5.bH λw6 H6=>⟨?_,H6.fr⟩)
  .rw [aN hn] at hc
   split at hc
   .rename_i eL
    rw [<-hu] at eL hc
    refine H6.bC (LB u 0 w6 (by rw [<-Rt.ja];omega) (by omega) eL.1 (H6.getD 1)) ?_
    rintro _ w7 rfl H7
    refine ⟨_,rfl,?_,H7.fr⟩
    cases hc
    congr 2
    have:=DW (dN 0 u.rx (iC u.rx)) (bl s)
    rw [rA] at this
    exact this
   .cases hc
  .rw [aI hn] at hc
   cases hc;rfl
set_option maxRecDepth 100000
set_option maxHeartbeats 2000000
def abL {P:aQ} {n:Cx} {c:Code} {Q:Exit->Act->aA->Prop} {E E':Env} {w:aA} (h:∀t v,E'.get? t=some v->E.get? t=some v) (hw:WP P n c Q E' w):WP P n c Q E w:=λa ha=>hw a ⟨ha.defers,ha.size,λt v ht=>ha.get t v (h t v ht)⟩
def ac4 {E:Env} {i j:Nat} {a b:aD} (h1:E.get? i=some a) (h2:E.get? j=some b):∀t v,Env.get? [(i,a),(j,b)] t=some v->E.get? t=some v:=by
 intro t v h
 unfold Env.get? at h
 cases hi:Nat.beq i t with
 |true=>
  rw [hi] at h
  have:=Nat.eq_of_beq_eq_true hi
  subst this
  rw [h1];exact h
 |false=>
  rw [hi] at h
  have h:Env.get? [(j,b)] t=some v:=h
  unfold Env.get? at h
  cases hj:Nat.beq j t with
  |true=>
   rw [hj] at h
   have:=Nat.eq_of_beq_eq_true hj
   subst this
   rw [h2];exact h
  |false=>rw [hj] at h;cases h
namespace enthymemeref04_TextI
abbrev T9 (s:Sl) (k:Int) (w:aA) (R:aT):Prop:=
 (0:Int)<=(Int.tmod (aC .i64 (Int.tdiv k 216)) 8)/\(Int.tmod (aC .i64 (Int.tdiv k 216)) 8)<((s.n:Nat):Int)/\gT s.a λp=>cV w (p.add (aF (Int.tmod (aC .i64 (Int.tdiv k 216)) 8) *4)) λa b c d=>PZ eP #[.agg #[.i a,.int .u8 b,.int .u8 c,d.v]] w λe f g i w1=>Dw cE #[.agg #[.i e,.int .u8 f,.int .u8 g,i.v],.i 0] w1 λt w2=>R (aJ (.string t)) w2
def K9 (R:aT) (E:Env) (w:aA):Prop:=∃(s:Sl) (k:Int),E.get? 9=some s.v/\E.get? 3=some (.i k)/\T9 s k w R
def C0:Code:=(Tryz.f36.body).getD .skip
def C1:=C0.sn
def C2:=C1.sn
def C3:=C2.sn
def C4:=C3.sn
def C5:=C4.sn
def C6:=C5.sn
def C7:=C6.sn
def C8:=C7.sn
def C9:=C8.sn
def ok (n0:Int) (w:aA) (R:aT) (h:Dv bN #[.i n0,.i 1048576] w λt11 w1=>PZ cL #[] w1 λMT MU MV MW w2=>gi w2 (.cells #[.i 2,.int .u8 97,.int .u8 97,.slice none 0 0,.i 2,.int .u8 98,.int .u8 98,.slice none 0 0,.i 2,.int .u8 0,.int .u8 0,.slice none 0 0,.i 2,.int .u8 97,.int .u8 98,.slice none 0 0,.i 1,.int .u8 0,.int .u8 0,.slice none 0 0,.i MT,.int .u8 MU,.int .u8 MV,MW.v] aG) λw3=>
 (0:Int)<=(Int.tmod t11 6)/\(Int.tmod t11 6)<((6:Nat):Int)/\gT (some (nb w2)) λW5=>cV w3 (W5.add (aF (Int.tmod t11 6) *4)) λW6 W7 W8 W9=>gi w3 (.cells #[.i 0,.int .u8 0,.int .u8 0,.slice none 0 0] aG) λw4=>
 sR w4 (nb w3) (.i W6) (.int .u8 W7) (.int .u8 W8) (W9.v) λw8=>(0:Int)<=(Int.tmod (aC .i64 (Int.tdiv t11 6)) 6)/\(Int.tmod (aC .i64 (Int.tdiv t11 6)) 6)<((6:Nat):Int)/\gT (some (nb w2)) λW'=>cV w8 (W'.add (aF (Int.tmod (aC .i64 (Int.tdiv t11 6)) 6) *4)) λXd Xe Xf Xg=>gi w8 (.cells #[.i 0,.int .u8 0,.int .u8 0,.slice none 0 0] aG) λw9=>
 sR w9 (nb w8) (.i Xd) (.int .u8 Xe) (.int .u8 Xf) (Xg.v) λDb=>(0:Int)<=(Int.tmod (aC .i64 (Int.tdiv t11 36)) 6)/\(Int.tmod (aC .i64 (Int.tdiv t11 36)) 6)<((6:Nat):Int)/\gT (some (nb w2)) λXh=>cV Db (Xh.add (aF (Int.tmod (aC .i64 (Int.tdiv t11 36)) 6) *4)) λXi Xj Xk Xl=>gi Db (.cells #[.i 0,.int .u8 0,.int .u8 0,.slice none 0 0] aG) λLk=>
 sR Lk (nb Db) (.i Xi) (.int .u8 Xj) (.int .u8 Xk) (Xl.v) λTf=>cV Tf (nb w3) λXm Xn Xo Xp=>gi Tf (.cells #[.i Xm,.int .u8 Xn,.int .u8 Xo,Xp.v] aG) λZP=>
 gi ZP (.cells #[.i 0,.int .u8 0,.int .u8 0,.slice none 0 0] aG) λw20=>
 sR w20 (nb ZP) (.i 7) (.int .u8 0) (.int .u8 0) (.slice (some (nb Tf)) 1 1) λJN=>Zo aB C7 (K9 R) [(8,.pointer (some (nb ZP))),(38,.agg #[.i 7,.int .u8 0,.int .u8 0,.slice (some (nb Tf)) 1 1]),(37,.slice (some (nb Tf)) 1 1),(36,.agg #[.i Xm,.int .u8 Xn,.int .u8 Xo,Xp.v]),(7,.pointer (some (nb Db))),(35,.agg #[.i Xi,.int .u8 Xj,.int .u8 Xk,Xl.v]),(34,.pointer (some (Xh.add (aF (Int.tmod (aC .i64 (Int.tdiv t11 36)) 6) *4)))),(33,.i (Int.tmod (aC .i64 (Int.tdiv t11 36)) 6)),(32,.i (aC .i64 (Int.tdiv t11 36))),(31,.i t11),(30,.slice (some (nb w2)) 6 6),(6,.pointer (some (nb w8))),(29,.agg #[.i Xd,.int .u8 Xe,.int .u8 Xf,Xg.v]),(28,.pointer (some (W'.add (aF (Int.tmod (aC .i64 (Int.tdiv t11 6)) 6) *4)))),(27,.i (Int.tmod (aC .i64 (Int.tdiv t11 6)) 6)),(26,.i (aC .i64 (Int.tdiv t11 6))),(25,.i t11),(24,.slice (some (nb w2)) 6 6),(5,.pointer (some (nb w3))),(23,.agg #[.i W6,.int .u8 W7,.int .u8 W8,W9.v]),(22,.pointer (some (W5.add (aF (Int.tmod t11 6) *4)))),(21,.i (Int.tmod t11 6)),(20,.i t11),(19,.slice (some (nb w2)) 6 6),(4,.slice (some (nb w2)) 6 6),(18,.slice (some (nb w2)) 6 6),(17,.agg #[.i MT,.int .u8 MU,.int .u8 MV,MW.v]),(16,.agg #[.i 1,.int .u8 0,.int .u8 0,.slice none 0 0]),(15,.agg #[.i 2,.int .u8 97,.int .u8 98,.slice none 0 0]),(14,.agg #[.i 2,.int .u8 0,.int .u8 0,.slice none 0 0]),(13,.agg #[.i 2,.int .u8 98,.int .u8 98,.slice none 0 0]),(12,.agg #[.i 2,.int .u8 97,.int .u8 97,.slice none 0 0]),(3,.i t11),(11,.i t11),(10,.i n0),(2,.s0),(0,.i n0)] JN):aH aB l5 #[.i n0] w R:=
 jR (R:=R) (fn:=Tryz.f36) (c:=C0) (args:=[.i n0]) (by kernel_rfl) (by kernel_rfl) (by kernel_rfl) (sr C0 (show (λ(E:Env) (w:aA)=>ue aB C0 (λE w=>ue aB C1 (λE w=>ue aB C2 (λE w=>ue aB C3 (λE w=>ue aB C4 (λE w=>ue aB C5 (λE w=>ue aB C6 (λE w=>Zo aB C7 (K9 R) E w) E w) E w) E w) E w) E w) E w) E w) (qN 0 [.i n0]) w from mp h) λ_ _ hK=>(sr C1 hK λ_ _ hK=>(sr C2 hK λ_ _ hK=>(sr C3 hK λ_ _ hK=>(sr C4 hK λ_ _ hK=>(sr C5 hK λ_ _ hK=>(sr C6 hK λ_ _ hK=>(si C7 (by kernel_rfl) hK λ_ _ hK=>(let ⟨s,k,h9,h3,h⟩:=hK;abL (E':=[(9,s.v),(3,.i k)]) (ac4 h9 h3) (sr C8 (show ue aB C8 (λE w=>pB aB Tryz.f36 E w (λv=>R (aJ v) w)) [(9,s.v),(3,.i k)] _ from mp h) λ_ _ hK=>(rt C9 λa hA=>iM hA hK)))))))))))
end enthymemeref04_TextI
inductive SpT where
 |tr (x:Rx)
 |ls (l:List Rx)
def Ia (base:Nat) (w:aA) (v:Option aD):SpT->Prop
 |.tr x=>∃t:Rt,v=some t.v/\t.rx=x/\t.P w/\∀b∈t.fp,base<=b
 |.ls l=>∃(s:Sl) (ts:List Rt),v=some s.v/\Rt.cR ts=l/\(fD s ts).P w/\∀b∈(fD s ts).fp,base<=b
def Ia.qx {base:Nat} {w w':aA} {v:Option aD} {sp:SpT} (h:Ia base w v sp) (f:bW w w'):Ia base w' v sp:=by
 cases sp with
 |tr x=>obtain ⟨t,h1,h2,h3,h4⟩:=h;exact ⟨t,h1,h2,h3.qx f,h4⟩
 |ls l=>obtain ⟨s,ts,h1,h2,h3,h4⟩:=h;exact ⟨s,ts,h1,h2,h3.qx f,h4⟩
def ke (i:Nat):Nat:=if i=40 then 9 else 39+i
def wQ (base:Nat) (w:aA) (E:Env) (t:Nat) (x:Rx):Prop:=∃(b:Nat) (u:Rt),E.get? t=some (.pointer (some (bO b)))/\w.heap[b]? =some (.cells u.c.toArray aG (0,0))/\u.rx=x/\u.P w/\∀c∈u.fp,base<=c
def wQ.qx {base:Nat} {w w':aA} {E:Env} {t:Nat} {x:Rx} (h:wQ base w E t x) (f:bW w w'):wQ base w' E t x:=by
 obtain ⟨b,u,h1,h2,h3,h4,h5⟩:=h
 exact ⟨b,u,h1,(f.ic b (gh h2) id).trans h2,h3,h4.qx f,h5⟩
def wQ.put {base:Nat} {w:aA} {E:Env} {t d:Nat} {v:aD} {x:Rx} (h:wQ base w E t x) (hd:d≠t):wQ base w (E.put (some d) v) t x:=by
 obtain ⟨b,u,h1,h2⟩:=h
 exact ⟨b,u,by rw [dS hd];exact h1,h2⟩
section
variable (w0:aA) (base:Nat) (kk:Int) (Xa Xb Xc Xs:Rx)
def gV:List SpT:=[.tr Xa,
 .tr Xa,
 .tr Xb,
 .ls [Xa,Xb],
 .tr (.mk 3 0 0 [Xa,Xb]),
 .tr Xa,
 .tr Xb,
 .tr Xc,
 .ls [Xa,Xb,Xc],
 .tr (.mk 4 0 0 [Xa,Xb,Xc]),
 .tr Xs,
 .tr Xs,
 .tr Xb,
 .ls [Xs,Xb],
 .tr (.mk 3 0 0 [Xs,Xb]),
 .tr Xa,
 .tr Xb,
 .ls [Xa,Xb],
 .tr (.mk 3 0 0 [Xa,Xb]),
 .ls [(.mk 3 0 0 [Xa,Xb])],
 .tr (.mk 6 0 0 [(.mk 3 0 0 [Xa,Xb])]),
 .tr Xb,
 .tr Xa,
 .tr Xc,
 .ls [Xa,Xc],
 .tr (.mk 4 0 0 [Xa,Xc]),
 .ls [(.mk 4 0 0 [Xa,Xc])],
 .tr (.mk 7 0 0 [(.mk 4 0 0 [Xa,Xc])]),
 .ls [Xb,(.mk 7 0 0 [(.mk 4 0 0 [Xa,Xc])])],
 .tr (.mk 3 0 0 [Xb,(.mk 7 0 0 [(.mk 4 0 0 [Xa,Xc])])]),
 .tr Xb,
 .ls [Xb],
 .tr (.mk 6 0 0 [Xb]),
 .tr Xa,
 .tr gw,
 .ls [Xa,gw],
 .tr (.mk 3 0 0 [Xa,gw]),
 .ls [(.mk 6 0 0 [Xb]),(.mk 3 0 0 [Xa,gw])],
 .tr (.mk 5 0 0 [(.mk 6 0 0 [Xb]),(.mk 3 0 0 [Xa,gw])]),
 .ls [Xa,(.mk 3 0 0 [Xa,Xb]),(.mk 4 0 0 [Xa,Xb,Xc]),Xs,(.mk 3 0 0 [Xs,Xb]),(.mk 6 0 0 [(.mk 3 0 0 [Xa,Xb])]),(.mk 3 0 0 [Xb,(.mk 7 0 0 [(.mk 4 0 0 [Xa,Xc])])]),(.mk 5 0 0 [(.mk 6 0 0 [Xb]),(.mk 3 0 0 [Xa,gw])])],
 .ls [Xa,(.mk 3 0 0 [Xa,Xb]),(.mk 4 0 0 [Xa,Xb,Xc]),Xs,(.mk 3 0 0 [Xs,Xb]),(.mk 6 0 0 [(.mk 3 0 0 [Xa,Xb])]),(.mk 3 0 0 [Xb,(.mk 7 0 0 [(.mk 4 0 0 [Xa,Xc])])]),(.mk 5 0 0 [(.mk 6 0 0 [Xb]),(.mk 3 0 0 [Xa,gw])])]]
structure JT (L:Nat->Bool) (E:Env) (w:aA):Prop where
 fr:bW w0 w
 k:E.get? 3=some (.i kk)
 a:wQ base w E 5 Xa
 b:wQ base w E 6 Xb
 c:wQ base w E 7 Xc
 s:wQ base w E 8 Xs
 all:∀(i:Nat) (sp:SpT),(gV Xa Xb Xc Xs)[i]? =some sp->L i=true->Ia base w (E.get? (ke i)) sp
variable {w0 base kk Xa Xb Xc Xs}
def JT.step {L:Nat->Bool} {E:Env} {w w':aA} (J:JT w0 base kk Xa Xb Xc Xs L E w) (f:bW w w') {i d:Nat} (hd:d=ke i) {v:aD} {sp:SpT} (hs:(gV Xa Xb Xc Xs)[i]? =some sp) (h:Ia base w' (some v) sp):JT w0 base kk Xa Xb Xc Xs (iB L i) (E.put (some d) v) w':=by
 have hn:9<=d:=by rw [hd];unfold ke;split<;>omega
 refine ⟨J.fr.Az f,by rw [dS (by omega)];exact J.k,(J.a.qx f).put (by omega),(J.b.qx f).put (by omega),(J.c.qx f).put (by omega),(J.s.qx f).put (by omega),λj sq hq hL=>?_⟩
 by_cases hj:j=i
 .subst hj
  rw [hs] at hq;cases hq
  rw [<-hd,qg]
  exact h
 .have jx:d≠ke j:=by
   rw [hd]
   have h1:i<41:=(List.getElem?_eq_some_iff.1 hs).1
   have h2:j<41:=(List.getElem?_eq_some_iff.1 hq).1
   unfold ke
   split<;>split<;>omega
  rw [dS jx]
  refine (J.all j sq hq ?_).qx f
  have:Nat.beq j i=false:=by rw [<-Bool.not_eq_true,Nat.beq_eq];exact hj
  simpa [iB,this] using hL
abbrev uS (w0:aA) (base:Nat) (kk:Int) (Xa Xb Xc Xs:Rx) (i:Nat) (r:Op×Option Nat×aP×List Nat):Prop:=Ni aB (JT w0 base kk Xa Xb Xc Xs) i r
def UD {b:Nat} {u:Rt} {w:aA} (hb:w.heap[b]? =some (.cells u.c.toArray aG (0,0))) {K:aD->Prop} (hk:K u.v):DH aB aG (bO b) w λv _=>K v:=by
 have c0:=cellAt (p:=bO b) (i:=0) (v:=.int .i64 u.k) hb rfl rfl
 have c1:=cellAt (p:=bO b) (i:=1) (v:=.int .u8 (u.lo.toNat:Int)) hb rfl rfl
 have c2:=cellAt (p:=bO b) (i:=2) (v:=.int .u8 (u.hi.toNat:Int)) hb rfl rfl
 have c3:=cellAt (p:=bO b) (i:=3) (v:=u.s.v) hb rfl rfl
 have e:(DH aB aG (bO b) w λv _=>K v)=(∃n0:Int,∃n1:Int,∃n2:Int,∃n3:Sl,w.cell? ((bO b).add 0)=some (.int .i64 n0)/\w.cell? ((bO b).add 1)=some (.int .u8 n1)/\w.cell? ((bO b).add 2)=some (.int .u8 n2)/\w.cell? ((bO b).add 3)=some n3.v/\K (.agg #[.int .i64 n0,.int .u8 n1,.int .u8 n2,n3.v])):=by kernel_rfl
 rw [e]
 exact ⟨_,_,_,u.s,c0,c1,c2,c3,hk⟩
def Gj {ty:aP} {ds:List Nat} {t:Nat} {x:Rx} (i d:Nat) (hd:d=ke i) (hs:(gV Xa Xb Xc Xs)[i]? =some (.tr x)) (hv:∀L E w,JT w0 base kk Xa Xb Xc Xs L E w->wQ base w E t x):uS w0 base kk Xa Xb Xc Xs i (.load aG (.tmp t),some d,ty,ds):=by
 intro L E w o ho wj ht hi eW J
 obtain ⟨b,u,h1,h2,h3,h4,h5⟩:=hv L E w J
 refine Av ho h1 (UD h2 ?_)
 rw [wj]
 exact J.step (Fr.refl _ _) hd hs ⟨u,rfl,h3,h4,h5⟩
def vY {ty:aP} {ds:List Nat} (i d:Nat) (hs:(gV Xa Xb Xc Xs)[i]? =some (.tr Xa)) (hd:d=ke i:=by rfl):uS w0 base kk Xa Xb Xc Xs i (.load aG (.tmp 5),some d,ty,ds):=Gj i d hd hs λ_ _ _ J=>J.a
def vZ {ty:aP} {ds:List Nat} (i d:Nat) (hs:(gV Xa Xb Xc Xs)[i]? =some (.tr Xb)) (hd:d=ke i:=by rfl):uS w0 base kk Xa Xb Xc Xs i (.load aG (.tmp 6),some d,ty,ds):=Gj i d hd hs λ_ _ _ J=>J.b
def MK {ty:aP} {ds:List Nat} (i d:Nat) (hs:(gV Xa Xb Xc Xs)[i]? =some (.tr Xc)) (hd:d=ke i:=by rfl):uS w0 base kk Xa Xb Xc Xs i (.load aG (.tmp 7),some d,ty,ds):=Gj i d hd hs λ_ _ _ J=>J.c
def ML {ty:aP} {ds:List Nat} (i d:Nat) (hs:(gV Xa Xb Xc Xs)[i]? =some (.tr Xs)) (hd:d=ke i:=by rfl):uS w0 base kk Xa Xb Xc Xs i (.load aG (.tmp 8),some d,ty,ds):=Gj i d hd hs λ_ _ _ J=>J.s
def Vk (a:Rt) (w:aA):(Instr.buildSlice aM 1 #[((0:Nat),a.v)]).run aB w=.ok (.slice (some (bO w.heap.size)) 1 1) (w.alloc (.cells ([a].flatMap Rt.c).toArray aG)):=by kernel_rfl
def Vl (a b:Rt) (w:aA):(Instr.buildSlice aM 2 #[((0:Nat),a.v),(1,b.v)]).run aB w=.ok (.slice (some (bO w.heap.size)) 2 2) (w.alloc (.cells ([a,b].flatMap Rt.c).toArray aG)):=by kernel_rfl
def Vm (a b c:Rt) (w:aA):(Instr.buildSlice aM 3 #[((0:Nat),a.v),(1,b.v),(2,c.v)]).run aB w=.ok (.slice (some (bO w.heap.size)) 3 3) (w.alloc (.cells ([a,b,c].flatMap Rt.c).toArray aG)):=by kernel_rfl
def Vn (a b c q e g r s:Rt) (w:aA):(Instr.buildSlice aM 8 #[((0:Nat),a.v),(1,b.v),(2,c.v),(3,q.v),(4,e.v),(5,g.v),(6,r.v),(7,s.v)]).run aB w=.ok (.slice (some (bO w.heap.size)) 8 8) (w.alloc (.cells ([a,b,c,q,e,g,r,s].flatMap Rt.c).toArray aG)):=by kernel_rfl
def MQ {o:Oper} {T:aP} {n:Nat} {parts:Array (Nat×Operand)} {E:Env} {w w':aA} {v:aD} {K:Env->aA->Prop} (ho:o.op=.buildSlice T n parts) (hc:E.fT o=true) (hr:(Instr.buildSlice T n (parts.map λp=>(p.1,E.ev p.2))).run aB w=.ok v w') (h:K (E.put o.dst v) w'):oq aB o E w K:=by
 obtain ⟨dst,op,ty,pos,after,guard⟩:=o
 simp only at ho
 subst ho
 have he:vc aB ⟨dst,.buildSlice T n parts,ty,pos,after,guard⟩ E w (λv w'=>K (E.put dst v) w'):=by
  unfold vc
  rw [hc]
  show iW true _
  simp only [execOp]
  rw [show (λ(x:Nat×Operand)=>match x with |(i,x)=>(i,E.ev x))=λp=>(p.1,E.ev p.2) from rfl]
  simp [hr]
  exact h
 unfold oq
 simp only [calm,cond_false]
 unfold nO
 exact he
def oD {E:Env} {t:Nat} {v:aD} (h:E.get? t=some v):E.ev (.tmp t)=v:=by simp [Env.ev,Env.val,h]
def yv {w:aA} {ts:List Rt} {n:Nat} (hn:n=ts.length) (hm:n<=1000) (hp:Rt.Ps w ts) (hf:∀b∈Rt.iD ts,base<=b) (hb:base<=w.heap.size):
  (fD ⟨some (bO w.heap.size),n,n⟩ ts).P (w.alloc (.cells (ts.flatMap Rt.c).toArray aG))/\∀b∈(fD ⟨some (bO w.heap.size),n,n⟩ ts).fp,base<=b:=by
 have jc:=bD.made w aG 4 n (ts.flatMap Rt.c) (by rw [Rt.kz,hn]) (by unfold maxLen;omega)
 refine ⟨gG.2 ⟨jc.jG,hp.qx (Fr.alloc _ _ _)⟩,λb fA=>?_⟩
 rcases qD.1 fA with h|h
 .exact Gf (λc hc=>by simp only [bQ,dT,gL,or_false] at hc;rw [hc];exact hb) b h
 .exact hf b h
def JT.xX {L:Nat->Bool} {E:Env} {w:aA} (J:JT w0 base kk Xa Xb Xc Xs L E w) (hb:base<=w0.heap.size):base<=w.heap.size:=Nat.le_trans hb J.fr.size
section
variable (oe:base<=w0.heap.size)
include oe
def Gi {ty:aP} {ds:List Nat} (i d j0:Nat) {t0:Nat} {x0:Rx} (hs:(gV Xa Xb Xc Xs)[i]? =some (.ls [x0])) (h0:(gV Xa Xb Xc Xs)[j0]? =some (.tr x0)) (m0:j0∈ds) (hd:d=ke i:=by rfl) (e0:t0=ke j0:=by rfl):uS w0 base kk Xa Xb Xc Xs i (.buildSlice aM 1 #[(0,.tmp t0)],some d,ty,ds):=by
 intro L E w o ho wj ht hi eW J
 obtain ⟨a,a1,a2,a3,a4⟩:=J.all j0 _ h0 (eW j0 m0)
 rw [<-e0] at a1
 have hm:=yv (base:=base) (w:=w) (ts:=[a]) (n:=1) rfl (by omega) (Rt.qu (by simp [a3])) (by simp [Rt.iD];exact a4) (J.xX oe)
 refine MQ (w':=w.alloc (.cells ([a].flatMap Rt.c).toArray aG)) (v:=.slice (some (bO w.heap.size)) 1 1) ho (by obtain ⟨_,op,_,_,_,_⟩:=o;simp only at ho;subst ho;simp [Env.fT,Op.operands,Env.val,a1]) ?_ ?_
 .rw [show (#[((0:Nat),Operand.tmp t0)].map λp=>(p.1,E.ev p.2))=#[((0:Nat),a.v)] by simp [oD a1]]
  exact Vk a w
 .rw [wj]
  exact J.step (Fr.alloc _ _ _) hd hs ⟨⟨some (bO w.heap.size),1,1⟩,[a],rfl,by simp [Rt.cR,a2],hm.1,hm.2⟩
def uc {ty:aP} {ds:List Nat} (i d j0 j1:Nat) {t0 t1:Nat} {x0 x1:Rx} (hs:(gV Xa Xb Xc Xs)[i]? =some (.ls [x0,x1])) (h0:(gV Xa Xb Xc Xs)[j0]? =some (.tr x0)) (h1:(gV Xa Xb Xc Xs)[j1]? =some (.tr x1)) (m0:j0∈ds) (m1:j1∈ds) (hd:d=ke i:=by rfl) (e0:t0=ke j0:=by rfl) (e1:t1=ke j1:=by rfl):uS w0 base kk Xa Xb Xc Xs i (.buildSlice aM 2 #[(0,.tmp t0),(1,.tmp t1)],some d,ty,ds):=by
 intro L E w o ho wj ht hi eW J
 obtain ⟨a,a1,a2,a3,a4⟩:=J.all j0 _ h0 (eW j0 m0)
 obtain ⟨b,b1,b2,b3,b4⟩:=J.all j1 _ h1 (eW j1 m1)
 rw [<-e0] at a1
 rw [<-e1] at b1
 have hm:=yv (base:=base) (w:=w) (ts:=[a,b]) (n:=2) rfl (by omega) (Rt.qu (by simp [a3,b3])) (by simp [Rt.iD];exact λc hc=>hc.elim (a4 c) (b4 c)) (J.xX oe)
 refine MQ (w':=w.alloc (.cells ([a,b].flatMap Rt.c).toArray aG)) (v:=.slice (some (bO w.heap.size)) 2 2) ho (by obtain ⟨_,op,_,_,_,_⟩:=o;simp only at ho;subst ho;simp [Env.fT,Op.operands,Env.val,a1,b1]) ?_ ?_
 .rw [show (#[((0:Nat),Operand.tmp t0),(1,.tmp t1)].map λp=>(p.1,E.ev p.2))=#[((0:Nat),a.v),(1,b.v)] by simp [oD a1,oD b1]]
  exact Vl a b w
 .rw [wj]
  exact J.step (Fr.alloc _ _ _) hd hs ⟨⟨some (bO w.heap.size),2,2⟩,[a,b],rfl,by simp [Rt.cR,a2,b2],hm.1,hm.2⟩
def Vh {ty:aP} {ds:List Nat} (i d j0 j1 j2:Nat) {t0 t1 t2:Nat} {x0 x1 x2:Rx} (hs:(gV Xa Xb Xc Xs)[i]? =some (.ls [x0,x1,x2])) (h0:(gV Xa Xb Xc Xs)[j0]? =some (.tr x0)) (h1:(gV Xa Xb Xc Xs)[j1]? =some (.tr x1)) (h2:(gV Xa Xb Xc Xs)[j2]? =some (.tr x2)) (m0:j0∈ds) (m1:j1∈ds) (m2:j2∈ds) (hd:d=ke i:=by rfl) (e0:t0=ke j0:=by rfl) (e1:t1=ke j1:=by rfl) (e2:t2=ke j2:=by rfl):uS w0 base kk Xa Xb Xc Xs i (.buildSlice aM 3 #[(0,.tmp t0),(1,.tmp t1),(2,.tmp t2)],some d,ty,ds):=by
 intro L E w o ho wj ht hi eW J
 obtain ⟨a,a1,a2,a3,a4⟩:=J.all j0 _ h0 (eW j0 m0)
 obtain ⟨b,b1,b2,b3,b4⟩:=J.all j1 _ h1 (eW j1 m1)
 obtain ⟨c,c1,c2,c3,c4⟩:=J.all j2 _ h2 (eW j2 m2)
 rw [<-e0] at a1
 rw [<-e1] at b1
 rw [<-e2] at c1
 have hm:=yv (base:=base) (w:=w) (ts:=[a,b,c]) (n:=3) rfl (by omega) (Rt.qu (by simp [a3,b3,c3])) (by simp [Rt.iD];exact λz hz=>hz.elim (a4 z) (λhz=>hz.elim (b4 z) (c4 z))) (J.xX oe)
 refine MQ (w':=w.alloc (.cells ([a,b,c].flatMap Rt.c).toArray aG)) (v:=.slice (some (bO w.heap.size)) 3 3) ho (by obtain ⟨_,op,_,_,_,_⟩:=o;simp only at ho;subst ho;simp [Env.fT,Op.operands,Env.val,a1,b1,c1]) ?_ ?_
 .rw [show (#[((0:Nat),Operand.tmp t0),(1,.tmp t1),(2,.tmp t2)].map λp=>(p.1,E.ev p.2))=#[((0:Nat),a.v),(1,b.v),(2,c.v)] by simp [oD a1,oD b1,oD c1]]
  exact Vm a b c w
 .rw [wj]
  exact J.step (Fr.alloc _ _ _) hd hs ⟨⟨some (bO w.heap.size),3,3⟩,[a,b,c],rfl,by simp [Rt.cR,a2,b2,c2],hm.1,hm.2⟩
def Vi {ty:aP} {ds:List Nat} (i d j0 j1 j2 j3 j4 j5 j6 j7:Nat) {t0 t1 t2 t3 t4 t5 t6 t7:Nat} {x0 x1 x2 x3 x4 x5 x6 x7:Rx} (hs:(gV Xa Xb Xc Xs)[i]? =some (.ls [x0,x1,x2,x3,x4,x5,x6,x7])) (h0:(gV Xa Xb Xc Xs)[j0]? =some (.tr x0)) (h1:(gV Xa Xb Xc Xs)[j1]? =some (.tr x1)) (h2:(gV Xa Xb Xc Xs)[j2]? =some (.tr x2)) (h3:(gV Xa Xb Xc Xs)[j3]? =some (.tr x3)) (h4:(gV Xa Xb Xc Xs)[j4]? =some (.tr x4)) (h5:(gV Xa Xb Xc Xs)[j5]? =some (.tr x5)) (h6:(gV Xa Xb Xc Xs)[j6]? =some (.tr x6)) (h7:(gV Xa Xb Xc Xs)[j7]? =some (.tr x7)) (m0:j0∈ds) (m1:j1∈ds) (m2:j2∈ds) (m3:j3∈ds) (m4:j4∈ds) (m5:j5∈ds) (m6:j6∈ds) (m7:j7∈ds) (hd:d=ke i:=by rfl) (e0:t0=ke j0:=by rfl) (e1:t1=ke j1:=by rfl) (e2:t2=ke j2:=by rfl) (e3:t3=ke j3:=by rfl) (e4:t4=ke j4:=by rfl) (e5:t5=ke j5:=by rfl) (e6:t6=ke j6:=by rfl) (e7:t7=ke j7:=by rfl):
  uS w0 base kk Xa Xb Xc Xs i (.buildSlice aM 8 #[(0,.tmp t0),(1,.tmp t1),(2,.tmp t2),(3,.tmp t3),(4,.tmp t4),(5,.tmp t5),(6,.tmp t6),(7,.tmp t7)],some d,ty,ds):=by
 intro L E w o ho wj ht hi eW J
 obtain ⟨a,a1,a2,a3,a4⟩:=J.all j0 _ h0 (eW j0 m0)
 obtain ⟨b,b1,b2,b3,b4⟩:=J.all j1 _ h1 (eW j1 m1)
 obtain ⟨c,c1,c2,c3,c4⟩:=J.all j2 _ h2 (eW j2 m2)
 obtain ⟨q,q1,q2,q3,q4⟩:=J.all j3 _ h3 (eW j3 m3)
 obtain ⟨e,f1,f2,f3,f4⟩:=J.all j4 _ h4 (eW j4 m4)
 obtain ⟨g,g1,g2,g3,g4⟩:=J.all j5 _ h5 (eW j5 m5)
 obtain ⟨r,r1,r2,r3,r4⟩:=J.all j6 _ h6 (eW j6 m6)
 obtain ⟨s,s1,s2,s3,s4⟩:=J.all j7 _ h7 (eW j7 m7)
 rw [<-e0] at a1
 rw [<-e1] at b1
 rw [<-e2] at c1
 rw [<-e3] at q1
 rw [<-e4] at f1
 rw [<-e5] at g1
 rw [<-e6] at r1
 rw [<-e7] at s1
 have hm:=yv (base:=base) (w:=w) (ts:=[a,b,c,q,e,g,r,s]) (n:=8) rfl (by omega) (Rt.qu (by simp [a3,b3,c3,q3,f3,g3,r3,s3])) (by
  intro z hz
  obtain ⟨t,ht,hy⟩:=Rt.bU.1 hz
  clear hz
  simp only [dT,gL,or_false] at ht
  rcases ht with rfl|rfl|rfl|rfl|rfl|rfl|rfl|rfl
  .exact a4 z hy
  .exact b4 z hy
  .exact c4 z hy
  .exact q4 z hy
  .exact f4 z hy
  .exact g4 z hy
  .exact r4 z hy
  .exact s4 z hy) (J.xX oe)
 refine MQ (w':=w.alloc (.cells ([a,b,c,q,e,g,r,s].flatMap Rt.c).toArray aG)) (v:=.slice (some (bO w.heap.size)) 8 8) ho (by obtain ⟨_,op,_,_,_,_⟩:=o;simp only at ho;subst ho;simp [Env.fT,Op.operands,Env.val,a1,b1,c1,q1,f1,g1,r1,s1]) ?_ ?_
 .rw [show (#[((0:Nat),Operand.tmp t0),(1,.tmp t1),(2,.tmp t2),(3,.tmp t3),(4,.tmp t4),(5,.tmp t5),(6,.tmp t6),(7,.tmp t7)].map λp=>(p.1,E.ev p.2))=#[((0:Nat),a.v),(1,b.v),(2,c.v),(3,q.v),(4,e.v),(5,g.v),(6,r.v),(7,s.v)] by simp [oD a1,oD b1,oD c1,oD q1,oD f1,oD g1,oD r1,oD s1]]
  exact Vn a b c q e g r s w
 .rw [wj]
  exact J.step (Fr.alloc _ _ _) hd hs ⟨⟨some (bO w.heap.size),8,8⟩,[a,b,c,q,e,g,r,s],rfl,by simp [Rt.cR,a2,b2,c2,q2,f2,g2,r2,s2],hm.1,hm.2⟩
end
def abt {o:Oper} {k:Int} {t:Nat} {s:Sl} {E:Env} {w:aA} {K:Env->aA->Prop} (hk:k=3\/k=4\/k=5\/k=6\/k=7) (ho:o.op=.build aG #[(0,.const (.int .i64 k)),(3,.tmp t)]) (ht:E.get? t=some s.v) (h:K (E.put o.dst (.agg #[.i k,.int .u8 0,.int .u8 0,s.v])) w):oq aB o E w K:=by
 obtain ⟨dst,op,ty,pos,after,guard⟩:=o
 simp only at ho
 subst ho
 show iU aB _ E (λv _=>K (E.put dst v) w)
 have hc:E.fT ⟨dst,.build aG #[(0,.const (.int .i64 k)),(3,.tmp t)],ty,pos,after,guard⟩=true:=by simp [Env.fT,Op.operands,Env.val,ht]
 unfold iU
 rw [hc]
 have e:execOp E.ev ⟨dst,.build aG #[(0,.const (.int .i64 k)),(3,.tmp t)],ty,pos,after,guard⟩=execOp (λx=>match x with |.const v=>v|_=>s.v) ⟨dst,.build aG #[(0,.const (.int .i64 k)),(3,.tmp t)],ty,pos,after,guard⟩:=by
  have:E.ev (.tmp t)=s.v:=oD ht
  have h2:E.ev (.const (.int .i64 k))=.int .i64 k:=by simp [Env.ev,Env.val]
  simp only [execOp,List.map_toArray,List.map_cons,List.map_nil,this,h2]
 rw [e]
 have e2:rh aB (execOp (λx=>match x with |.const v=>v|_=>s.v) ⟨dst,.build aG #[(0,.const (.int .i64 k)),(3,.tmp t)],ty,pos,after,guard⟩)=some (.value (.agg #[.i k,.int .u8 0,.int .u8 0,s.v])):=by
  kernel_rfl
 rw [e2]
 exact h
def Cy {ty:aP} {ds:List Nat} (k:Int) (hk:k=3\/k=4\/k=5\/k=6\/k=7) (i d j:Nat) {t:Nat} {l:List Rx} (hs:(gV Xa Xb Xc Xs)[i]? =some (.tr (.mk k 0 0 l))) (h0:(gV Xa Xb Xc Xs)[j]? =some (.ls l)) (m:j∈ds) (hd:d=ke i) (e0:t=ke j):uS w0 base kk Xa Xb Xc Xs i (.build aG #[(0,.const (.int .i64 k)),(3,.tmp t)],some d,ty,ds):=by
 intro L E w o ho wj ht hi eW J
 obtain ⟨s,ts,a1,a2,a3,a4⟩:=J.all j _ h0 (eW j m)
 rw [<-e0] at a1
 refine abt hk ho a1 ?_
 rw [wj]
 refine J.step (Fr.refl _ _) hd hs ⟨.mk k 0 0 s ts,rfl,by rw [<-a2];rfl,?_,λb hb=>a4 b ?_⟩
 .have:=gG.1 a3
  unfold Rt.P
  exact this
 .unfold Rt.fp at hb
  unfold fD Rt.fp
  exact hb
def yM {ty:aP} {ds:List Nat} (i d j:Nat) {t:Nat} {l:List Rx} (hs:(gV Xa Xb Xc Xs)[i]? =some (.tr (.mk 3 0 0 l))) (h0:(gV Xa Xb Xc Xs)[j]? =some (.ls l)) (m:j∈ds) (hd:d=ke i:=by rfl) (e0:t=ke j:=by rfl):uS w0 base kk Xa Xb Xc Xs i (.build aG #[(0,.const (.int .i64 3)),(3,.tmp t)],some d,ty,ds):=Cy 3 (by omega) i d j hs h0 m hd e0
def MI {ty:aP} {ds:List Nat} (i d j:Nat) {t:Nat} {l:List Rx} (hs:(gV Xa Xb Xc Xs)[i]? =some (.tr (.mk 4 0 0 l))) (h0:(gV Xa Xb Xc Xs)[j]? =some (.ls l)) (m:j∈ds) (hd:d=ke i:=by rfl) (e0:t=ke j:=by rfl):uS w0 base kk Xa Xb Xc Xs i (.build aG #[(0,.const (.int .i64 4)),(3,.tmp t)],some d,ty,ds):=Cy 4 (by omega) i d j hs h0 m hd e0
def Ve {ty:aP} {ds:List Nat} (i d j:Nat) {t:Nat} {l:List Rx} (hs:(gV Xa Xb Xc Xs)[i]? =some (.tr (.mk 5 0 0 l))) (h0:(gV Xa Xb Xc Xs)[j]? =some (.ls l)) (m:j∈ds) (hd:d=ke i:=by rfl) (e0:t=ke j:=by rfl):uS w0 base kk Xa Xb Xc Xs i (.build aG #[(0,.const (.int .i64 5)),(3,.tmp t)],some d,ty,ds):=Cy 5 (by omega) i d j hs h0 m hd e0
def MJ {ty:aP} {ds:List Nat} (i d j:Nat) {t:Nat} {l:List Rx} (hs:(gV Xa Xb Xc Xs)[i]? =some (.tr (.mk 6 0 0 l))) (h0:(gV Xa Xb Xc Xs)[j]? =some (.ls l)) (m:j∈ds) (hd:d=ke i:=by rfl) (e0:t=ke j:=by rfl):uS w0 base kk Xa Xb Xc Xs i (.build aG #[(0,.const (.int .i64 6)),(3,.tmp t)],some d,ty,ds):=Cy 6 (by omega) i d j hs h0 m hd e0
def Vf {ty:aP} {ds:List Nat} (i d j:Nat) {t:Nat} {l:List Rx} (hs:(gV Xa Xb Xc Xs)[i]? =some (.tr (.mk 7 0 0 l))) (h0:(gV Xa Xb Xc Xs)[j]? =some (.ls l)) (m:j∈ds) (hd:d=ke i:=by rfl) (e0:t=ke j:=by rfl):uS w0 base kk Xa Xb Xc Xs i (.build aG #[(0,.const (.int .i64 7)),(3,.tmp t)],some d,ty,ds):=Cy 7 (by omega) i d j hs h0 m hd e0
def Zn {ty:aP} {ds:List Nat} (i d j:Nat) {t:Nat} {l:List Rx} (hs:(gV Xa Xb Xc Xs)[i]? =some (.ls l)) (h0:(gV Xa Xb Xc Xs)[j]? =some (.ls l)) (m:j∈ds) (hd:d=ke i:=by rfl) (e0:t=ke j:=by rfl):uS w0 base kk Xa Xb Xc Xs i (.assign (.tmp t),some d,ty,ds):=by
 intro L E w o ho wj ht hi eW J
 obtain ⟨s,ts,a1,a2,a3,a4⟩:=J.all j _ h0 (eW j m)
 rw [<-e0] at a1
 refine vH (.inr ho) a1 ?_
 rw [wj]
 exact J.step (Fr.refl _ _) hd hs ⟨s,ts,rfl,a2,a3,a4⟩
def RW {ds:List Nat} (oe:base<=w0.heap.size) (i d:Nat) (hs:(gV Xa Xb Xc Xs)[i]? =some (.tr gw)) (hd:d=ke i:=by rfl):uS w0 base kk Xa Xb Xc Xs i (.call ⟨.value (.func cL),#[],#[]⟩,some d,aG,ds):=by
 intro L E w o ho wj ht hi eW J
 obtain ⟨dst,op,ty,pos,after,guard⟩:=o
 simp only at ho wj ht
 subst ho
 subst wj
 subst ht
 have hc:E.fT ⟨some d,.call ⟨.value (.func cL),#[],#[]⟩,aG,pos,after,guard⟩=true:=by simp [Env.fT,Op.operands,Call.operands,Env.val]
 have Ek:gq aB cL=true:=by kernel_rfl
 have hcm:calm aB ⟨some d,.call ⟨.value (.func cL),#[],#[]⟩,aG,pos,after,guard⟩=false:=rfl
 unfold oq
 rw [hcm,cond_false]
 unfold nO
 dsimp only
 rw [hc,Ek]
 simp only [List.map_toArray,List.map_nil,cond_true]
 refine (show wZ aB cL #[] (zeroOf aB aG) w (λv w'=>JT w0 base kk Xa Xb Xc Xs (iB L i) (E.put (some d) v) w') from ?_)
 refine (Fe w).mono ?_
 rintro _ w' ⟨⟨t,rfl,h2,h3,h4⟩,f⟩
 have e:yi (zeroOf aB aG) (λv=>Ending.returned t.v=aJ v/\JT w0 base kk Xa Xb Xc Xs (iB L i) (E.put (some d) v) w')=∃n0:Int,∃n1:Int,∃n2:Int,∃n3:Sl,Ending.returned t.v=aJ (.agg #[.int .i64 n0,.int .u8 n1,.int .u8 n2,n3.v])/\JT w0 base kk Xa Xb Xc Xs (iB L i) (E.put (some d) (.agg #[.int .i64 n0,.int .u8 n1,.int .u8 n2,n3.v])) w':=by kernel_rfl
 rw [e]
 exact ⟨t.k,t.lo.toNat,t.hi.toNat,t.s,rfl,J.step f hd hs ⟨t,rfl,h2,h3,λb hb=>Nat.le_trans (J.xX oe) (h4 b hb)⟩⟩
def abG:List (Op×Option Nat×aP×List Nat):=[(.load aG (.tmp 5),some 39,aG,[]),
 (.load aG (.tmp 5),some 40,aG,[]),
 (.load aG (.tmp 6),some 41,aG,[]),
 (.buildSlice aM 2 #[(0,.tmp 40),(1,.tmp 41)],some 42,aM,[1,2]),
 (.build aG #[(0,.const (.int .i64 3)),(3,.tmp 42)],some 43,aG,[3]),
 (.load aG (.tmp 5),some 44,aG,[]),
 (.load aG (.tmp 6),some 45,aG,[]),
 (.load aG (.tmp 7),some 46,aG,[]),
 (.buildSlice aM 3 #[(0,.tmp 44),(1,.tmp 45),(2,.tmp 46)],some 47,aM,[5,6,7]),
 (.build aG #[(0,.const (.int .i64 4)),(3,.tmp 47)],some 48,aG,[8]),
 (.load aG (.tmp 8),some 49,aG,[]),
 (.load aG (.tmp 8),some 50,aG,[]),
 (.load aG (.tmp 6),some 51,aG,[]),
 (.buildSlice aM 2 #[(0,.tmp 50),(1,.tmp 51)],some 52,aM,[11,12]),
 (.build aG #[(0,.const (.int .i64 3)),(3,.tmp 52)],some 53,aG,[13]),
 (.load aG (.tmp 5),some 54,aG,[]),
 (.load aG (.tmp 6),some 55,aG,[]),
 (.buildSlice aM 2 #[(0,.tmp 54),(1,.tmp 55)],some 56,aM,[15,16]),
 (.build aG #[(0,.const (.int .i64 3)),(3,.tmp 56)],some 57,aG,[17]),
 (.buildSlice aM 1 #[(0,.tmp 57)],some 58,aM,[18]),
 (.build aG #[(0,.const (.int .i64 6)),(3,.tmp 58)],some 59,aG,[19]),
 (.load aG (.tmp 6),some 60,aG,[]),
 (.load aG (.tmp 5),some 61,aG,[]),
 (.load aG (.tmp 7),some 62,aG,[]),
 (.buildSlice aM 2 #[(0,.tmp 61),(1,.tmp 62)],some 63,aM,[22,23]),
 (.build aG #[(0,.const (.int .i64 4)),(3,.tmp 63)],some 64,aG,[24]),
 (.buildSlice aM 1 #[(0,.tmp 64)],some 65,aM,[25]),
 (.build aG #[(0,.const (.int .i64 7)),(3,.tmp 65)],some 66,aG,[26]),
 (.buildSlice aM 2 #[(0,.tmp 60),(1,.tmp 66)],some 67,aM,[21,27]),
 (.build aG #[(0,.const (.int .i64 3)),(3,.tmp 67)],some 68,aG,[28]),
 (.load aG (.tmp 6),some 69,aG,[]),
 (.buildSlice aM 1 #[(0,.tmp 69)],some 70,aM,[30]),
 (.build aG #[(0,.const (.int .i64 6)),(3,.tmp 70)],some 71,aG,[31]),
 (.load aG (.tmp 5),some 72,aG,[]),
 (.call ⟨.value (.func cL),#[],#[]⟩,some 73,aG,[]),
 (.buildSlice aM 2 #[(0,.tmp 72),(1,.tmp 73)],some 74,aM,[33,34]),
 (.build aG #[(0,.const (.int .i64 3)),(3,.tmp 74)],some 75,aG,[35]),
 (.buildSlice aM 2 #[(0,.tmp 71),(1,.tmp 75)],some 76,aM,[32,36]),
 (.build aG #[(0,.const (.int .i64 5)),(3,.tmp 76)],some 77,aG,[37]),
 (.buildSlice aM 8 #[(0,.tmp 39),(1,.tmp 43),(2,.tmp 48),(3,.tmp 49),(4,.tmp 53),(5,.tmp 59),(6,.tmp 68),(7,.tmp 77)],some 78,aM,[0,4,9,10,14,20,29,38]),
 (.assign (.tmp 78),some 9,aM,[39,34,0,1,2,3,4,5,6,7,8,9,10,11,12,13,14,15,16,17,18,19,20,21,22,23,24,25,26,27,28,29,30,31,32,33,34,35,36,37,38,39])]
def abl (oe:base<=w0.heap.size):allI (Ni aB (JT w0 base kk Xa Xb Xc Xs)) abG 0:=
 ⟨(vY 0 39 rfl),
  (vY 1 40 rfl),
  (vZ 2 41 rfl),
  (uc oe 3 42 1 2 rfl rfl rfl (by simp) (by simp)),
  (yM 4 43 3 rfl rfl (by simp)),
  (vY 5 44 rfl),
  (vZ 6 45 rfl),
  (MK 7 46 rfl),
  (Vh oe 8 47 5 6 7 rfl rfl rfl rfl (by simp) (by simp) (by simp)),
  (MI 9 48 8 rfl rfl (by simp)),
  (ML 10 49 rfl),
  (ML 11 50 rfl),
  (vZ 12 51 rfl),
  (uc oe 13 52 11 12 rfl rfl rfl (by simp) (by simp)),
  (yM 14 53 13 rfl rfl (by simp)),
  (vY 15 54 rfl),
  (vZ 16 55 rfl),
  (uc oe 17 56 15 16 rfl rfl rfl (by simp) (by simp)),
  (yM 18 57 17 rfl rfl (by simp)),
  (Gi oe 19 58 18 rfl rfl (by simp)),
  (MJ 20 59 19 rfl rfl (by simp)),
  (vZ 21 60 rfl),
  (vY 22 61 rfl),
  (MK 23 62 rfl),
  (uc oe 24 63 22 23 rfl rfl rfl (by simp) (by simp)),
  (MI 25 64 24 rfl rfl (by simp)),
  (Gi oe 26 65 25 rfl rfl (by simp)),
  (Vf 27 66 26 rfl rfl (by simp)),
  (uc oe 28 67 21 27 rfl rfl rfl (by simp) (by simp)),
  (yM 29 68 28 rfl rfl (by simp)),
  (vZ 30 69 rfl),
  (Gi oe 31 70 30 rfl rfl (by simp)),
  (MJ 32 71 31 rfl rfl (by simp)),
  (vY 33 72 rfl),
  (RW oe 34 73 rfl),
  (uc oe 35 74 33 34 rfl rfl rfl (by simp) (by simp)),
  (yM 36 75 35 rfl rfl (by simp)),
  (uc oe 37 76 32 36 rfl rfl rfl (by simp) (by simp)),
  (Ve 38 77 37 rfl rfl (by simp)),
  (Vi oe 39 78 0 4 9 10 14 20 29 38 rfl rfl rfl rfl rfl rfl rfl rfl rfl (by simp) (by simp) (by simp) (by simp) (by simp) (by simp) (by simp) (by simp)),
  (Zn 40 9 39 rfl rfl (by simp)),trivial⟩
end
def zk (k:Nat):Rx:=Kl (gR (k%6)) (gR (k / 6%6)) (gR (k / 36%6)) (k / 216%8)
def RA (k:Nat):Bool:=eV (zk k)&&Nat.ble (zk k).sz 1000&&okW (hG (zk k))&&Nat.ble (hG (zk k)).sz 1000
def KL:(List.range 1728).all RA=true:=by kernel_rfl
def L3 (k:Nat):zk k=zk (k%1728):=by
 unfold zk
 rw [show k%1728%6=k%6 by omega,show k%1728 / 6%6=k / 6%6 by omega,show k%1728 / 36%6=k / 36%6 by omega,show k%1728 / 216%8=k / 216%8 by omega]
def VF (k:Nat):eV (zk k)=true/\(zk k).sz<=1000/\okW (hG (zk k))=true/\(hG (zk k)).sz<=1000:=by
 rw [L3]
 have:=wo.1 KL (k%1728) (List.mem_range.2 (Nat.mod_lt _ (by omega)))
 unfold RA at this
 simp only [Bool.and_eq_true] at this
 exact ⟨this.1.1.1,Nat.le_of_ble_eq_true this.1.1.2,this.1.2,Nat.le_of_ble_eq_true this.2⟩
def Jq (k:Nat):sC k=iC (hG (zk k)):=rfl
def zR (k:Nat):sC k=sC (k%1728):=by rw [Jq,Jq,L3]
def TG:(List.range 1728).all (λk=>Fj (sC k)==some true)=true:=by kernel_rfl
def Qa (k:Nat):Fj (sC k)=some true:=by
 rw [zR]
 exact eq_of_beq (wo.1 TG (k%1728) (List.mem_range.2 (Nat.mod_lt _ (by omega))))
def PI (n m:Int) (w:aA) (hm:1<=m) (h:qS n):aH aB bN #[.i n,.i m] w λr w'=>r=aJ (.i (gX n m))/\bW w w':=(Bg n m w hm h).mono λr w' h=>⟨h.1,h.2▸Fr.refl _ _⟩
def Pv (ev:Rt):List Rt:=[vn 2 97 97,vn 2 98 98,vn 2 0 0,vn 2 97 98,vn 1 0 0,ev]
def Bl (ev:Rt) (xL:ev.rx=gw) {i:Nat} (hi:i<6):∃t,(Pv ev)[i]? =some t/\t.rx=gR i/\(t=ev\/∀w:aA,t.P w/\∀b,¬b∈t.fp):=by
 have:i=0\/i=1\/i=2\/i=3\/i=4\/i=5:=by omega
 rcases this with rfl|rfl|rfl|rfl|rfl|rfl
 .exact ⟨_,rfl,rfl,.inr λw=>⟨xo _ _ _ w,λb=>tQ⟩⟩
 .exact ⟨_,rfl,rfl,.inr λw=>⟨xo _ _ _ w,λb=>tQ⟩⟩
 .exact ⟨_,rfl,rfl,.inr λw=>⟨xo _ _ _ w,λb=>tQ⟩⟩
 .exact ⟨_,rfl,rfl,.inr λw=>⟨xo _ _ _ w,λb=>tQ⟩⟩
 .exact ⟨_,rfl,rfl,.inr λw=>⟨xo _ _ _ w,λb=>tQ⟩⟩
 .exact ⟨ev,rfl,xL,.inl rfl⟩
def QD (a b c:Rx) {i:Nat} (hi:i<8):[a,.mk 3 0 0 [a,b],.mk 4 0 0 [a,b,c],.mk 7 0 0 [a],.mk 3 0 0 [.mk 7 0 0 [a],b],.mk 6 0 0 [.mk 3 0 0 [a,b]],.mk 3 0 0 [b,.mk 7 0 0 [.mk 4 0 0 [a,c]]],.mk 5 0 0 [.mk 6 0 0 [b],.mk 3 0 0 [a,gw]]][i]? =some (Kl a b c i):=by
 have:i=0\/i=1\/i=2\/i=3\/i=4\/i=5\/i=6\/i=7:=by omega
 rcases this with rfl|rfl|rfl|rfl|rfl|rfl|rfl|rfl<;>rfl
def MZ (k m:Nat) (hm:0<m):Int.tmod (k:Int) (m:Int)=((k%m:Nat):Int):=by
 rw [Int.tmod_eq_emod_of_nonneg (by omega)];omega
def Sn (k m:Nat) (hk:k<=1048576):aC .i64 (Int.tdiv (k:Int) (m:Int))=((k / m:Nat):Int):=by
 have h:Int.tdiv (k:Int) (m:Int)=((k / m:Nat):Int):=by
  rw [Int.tdiv_eq_ediv_of_nonneg (by omega)];rfl
 have h2:k / m<=k:=Nat.div_le_self k m
 rw [h]
 generalize k / m=q at h2
 rw [aS _ (by omega)]
section
variable {w JN:aA} {R:aT} {K:Nat}
def Su (hK:K<=1048576) {s:Sl} {ts:List Rt} {w':aA} (h1:Rt.cR ts=[gR (K%6),.mk 3 0 0 [gR (K%6),gR (K / 6%6)],.mk 4 0 0 [gR (K%6),gR (K / 6%6),gR (K / 36%6)],.mk 7 0 0 [gR (K%6)],.mk 3 0 0 [.mk 7 0 0 [gR (K%6)],gR (K / 6%6)],.mk 6 0 0 [.mk 3 0 0 [gR (K%6),gR (K / 6%6)]],.mk 3 0 0 [gR (K / 6%6),.mk 7 0 0 [.mk 4 0 0 [gR (K%6),gR (K / 36%6)]]],.mk 5 0 0 [.mk 6 0 0 [gR (K / 6%6)],.mk 3 0 0 [gR (K%6),gw]]])
  (hp:(fD s ts).P w') (f:bW w w'):enthymemeref04_TextI.T9 s (K:Int) w' λr w'=>r=aJ (.string (ba (sC K)))/\bW w w':=by
 have hn:=Rt.cX (gG.1 hp).1
 have hl:ts.length=8:=by
  have:=congrArg List.length h1
  rw [Rt.fX,List.length_map] at this
  simpa using this
 show (0:Int)<=Int.tmod (aC .i64 (Int.tdiv (K:Int) ((216:Nat):Int))) ((8:Nat):Int)/\Int.tmod (aC .i64 (Int.tdiv (K:Int) ((216:Nat):Int))) ((8:Nat):Int)<((s.n:Nat):Int)/\gT s.a λp=>cV w' (p.add (aF (Int.tmod (aC .i64 (Int.tdiv (K:Int) ((216:Nat):Int))) ((8:Nat):Int)) *4)) _
 rw [Sn K 216 hK,MZ _ 8 (by omega)]
 have hi:K / 216%8<8:=Nat.mod_lt _ (by omega)
 have hg:ts[K / 216%8]? =some (ts[K / 216%8]'(by omega)):=ie (by omega)
 generalize ts[K / 216%8]'(by omega)=t at hg
 have ht:t.rx=zk K:=by
  have h2:=QD (gR (K%6)) (gR (K / 6%6)) (gR (K / 36%6)) hi
  rw [<-h1,Rt.fX,List.getElem?_map,hg] at h2
  exact Option.some.inj h2
 obtain ⟨g1,g2,g3,g4⟩:=VF K
 rw [<-ht] at g1 g2 g3 g4
 have pt:t.P w':=(gG.1 hp).2.get hg
 refine ⟨by omega,by omega,Rt.at' (gG.1 hp).1 hg λp hp c=>⟨_,_,_,_,c.c0,c.c1,c.c2,c.c3,(Hj t w' (by rw [<-Rt.ja];exact g2) g1 pt).mono ?_⟩⟩
 rintro _ w1 ⟨⟨u,rfl,hu,pu,_⟩,f1⟩
 rw [<-hu] at g3 g4
 refine ⟨_,_,_,u.s,rfl,(LB u 0 w1 (by rw [<-Rt.ja];omega) (by omega) g3 pu).mono ?_⟩
 rintro _ w2 ⟨rfl,f2⟩
 refine ⟨_,rfl,?_,(f.Az f1).Az f2⟩
 have e:dN 0 u.rx (iC u.rx)=iC u.rx:=by unfold dN;rw [aI (by omega)]
 rw [e,hu,ht]
 rfl
end
def Tl {s:Sl} {k:Int} {w:aA} {R R':aT} (h:enthymemeref04_TextI.T9 s k w R) (hr:∀r w',R r w'->R' r w'):enthymemeref04_TextI.T9 s k w R':=
 ⟨h.1,h.2.1,RC h.2.2 λp ⟨a,b,c,d,h0,h1,h2,h3,hc⟩=>⟨a,b,c,d,h0,h1,h2,h3,hc.mono λr w1 ⟨e,f,g,i,he,hw⟩=>⟨e,f,g,i,he,hw.mono λr w2 ⟨t,ht,hR⟩=>⟨t,ht,hr _ _ hR⟩⟩⟩⟩
def X3 (n:Int) (hn:qS n) (w:aA):aH aB l5 #[.i n] w λr w'=>(∃k:Nat,r=aJ (.string (ba (sC k))))/\bW w w':=by
 have hr:=fC n 1048576 (by omega)
 obtain ⟨K,hK⟩:∃K:Nat,gX n 1048576=(K:Int):=⟨(gX n 1048576).toNat,by omega⟩
 have hK2:K<=1048576:=by omega
 have H:LH F0 w w [] []:=og [] (by simp)
 refine enthymemeref04_TextI.ok n w _ (H.call (PI n 1048576 w (by omega) hn) ?_)
 rintro _ w1 rfl H1
 refine ⟨_,rfl,H1.LJ (Fe w1) ?_⟩
 rintro _ w2 ⟨ev,rfl,xL,pev,fev⟩ _ F2
 have H2:=F2.rd (.tree ev) pev λb hb=>fev b (aV.1 hb)
 rw [hK]
 have em:=MZ K 6 (by omega)
 have ed6:=Sn K 6 hK2
 have aaC:=Sn K 36 hK2
 have em6:=MZ (K / 6) 6 (by omega)
 have aaE:=MZ (K / 36) 6 (by omega)
 have c6:((6:Nat):Int)=6:=rfl
 have c36:((36:Nat):Int)=36:=rfl
 rw [c6] at em ed6 em6 aaE
 rw [c36] at aaC
 rw [em,ed6,aaC,em6,aaE]
 obtain ⟨ta,ga,ra,xa⟩:=Bl ev xL (i:=K%6) (Nat.mod_lt _ (by omega))
 obtain ⟨tb,gb,rb,xb⟩:=Bl ev xL (i:=K / 6%6) (Nat.mod_lt _ (by omega))
 obtain ⟨tc,gc,rc,xc⟩:=Bl ev xL (i:=K / 36%6) (Nat.mod_lt _ (by omega))
 have la:K%6<6:=Nat.mod_lt _ (by omega)
 have lb:K / 6%6<6:=Nat.mod_lt _ (by omega)
 have lc:K / 36%6<6:=Nat.mod_lt _ (by omega)
 have P:∀t:Rt,(t=ev\/∀w:aA,t.P w/\∀b,¬b∈t.fp)->(∀w':aA,ev.P w'->t.P w')/\∀b∈t.fp,w.heap.size<=b:=λt h=>by
  rcases h with rfl|h
  .exact ⟨λ_ h=>h,λb hb=>Nat.le_trans H1.fr.size (fev b hb)⟩
  .exact ⟨λw' _=>(h w').1,λb hb=>((h w).2 b hb).elim⟩
 refine ⟨_,_,_,ev.s,rfl,H2.ko (n:=6) (sz:=4) (cs:=(Pv ev).flatMap Rt.c) rfl (by decide) λw3 H3=>?_⟩
 refine ⟨by omega,by omega,Rt.at' (s:=⟨some (bO w2.heap.size),6,6⟩) (H3.get 0:bD _ _ _ _ _).jG ga λp hp c=>?_⟩
 refine ⟨_,_,_,_,c.c0,c.c1,c.c2,c.c3,H3.nw λw4 _ H4=>H4.Gr 1 rfl λw8 H8=>?_⟩
 refine ⟨by omega,by omega,Rt.at' (s:=⟨some (bO w2.heap.size),6,6⟩) (H8.get 0:bD _ _ _ _ _).jG gb λp hp c=>?_⟩
 refine ⟨_,_,_,_,c.c0,c.c1,c.c2,c.c3,H8.nw λw9 _ H9=>H9.Gr 2 rfl λDb Di=>?_⟩
 refine ⟨by omega,by omega,Rt.at' (s:=⟨some (bO w2.heap.size),6,6⟩) (Di.get 0:bD _ _ _ _ _).jG gc λp hp c=>?_⟩
 refine ⟨_,_,_,_,c.c0,c.c1,c.c2,c.c3,Di.nw λLk _ Ng=>Ng.Gr 3 rfl λTf O9=>?_⟩
 refine ⟨_,_,_,ta.s,O9.ld 1 0,O9.ld 1 1,O9.ld 1 2,O9.ld 1 3,O9.ko (n:=1) (sz:=4) (cs:=[ta].flatMap Rt.c) rfl (by decide) λZP ZV=>ZV.nw λw20 _ H20=>H20.Gr 5 rfl λJN JU=>?_⟩
 have pa:=P ta xa
 have pb:=P tb xb
 have pc:=P tc xc
 have ps:(Rt.mk 7 0 0 ⟨some (bO Tf.heap.size),1,1⟩ [ta]).P JN:=by
  unfold Rt.P
  exact ⟨(JU.get 4:bD _ _ _ _ _).jG,Rt.qu (by simp;exact pa.1 JN (JU.getD 0))⟩
 have fr:bW w JN:=JU.fr
 refine KC abG (by kernel_rfl) (JT JN w.heap.size (K:Int) (gR (K%6)) (gR (K / 6%6)) (gR (K / 36%6)) (.mk 7 0 0 [gR (K%6)])) ?_ (abl fr.size) ?_
 .refine ⟨Fr.drew _ _,rfl,?_,?_,?_,?_,λi sp hs hL=>by cases hL⟩
  .exact wQ.qx (w:=JN) ⟨w3.heap.size,ta,rfl,JU.ob 1,ra,pa.1 JN (JU.getD 0),pa.2⟩ (Fr.drew _ _)
  .exact wQ.qx (w:=JN) ⟨w8.heap.size,tb,rfl,JU.ob 2,rb,pb.1 JN (JU.getD 0),pb.2⟩ (Fr.drew _ _)
  .exact wQ.qx (w:=JN) ⟨Db.heap.size,tc,rfl,JU.ob 3,rc,pc.1 JN (JU.getD 0),pc.2⟩ (Fr.drew _ _)
  .refine wQ.qx (w:=JN) ⟨ZP.heap.size,.mk 7 0 0 ⟨some (bO Tf.heap.size),1,1⟩ [ta],rfl,JU.ob 5,?_,ps,Ga (λb hb=>?_) pa.2⟩ (Fr.drew _ _)
   .rw [<-ra];rfl
   .simp only [bQ,dT,gL,or_false] at hb
    rw [hb];exact O9.fr.size
 .intro L E w' hL J
  obtain ⟨s,ts,h1,h2,h3,_⟩:=J.all 40 _ rfl (hL 40 (by decide))
  refine ⟨s,(K:Int),h1,J.k,?_⟩
  refine Tl (Su hK2 h2 h3 (fr.Az J.fr)) λr wP h=>⟨⟨K,h.1⟩,h.2⟩
def UE:(List.range 1728).all (λk=>Nat.ble (sC k).length 64)=true:=by kernel_rfl
def CR (k:Nat):(sC k).length<=64:=by
 rw [zR]
 exact Nat.le_of_ble_eq_true (wo.1 UE (k%1728) (List.mem_range.2 (Nat.mod_lt _ (by omega))))
end Go.Proofs.YtnpkhgljhcnpcaaGreatDoor
end
