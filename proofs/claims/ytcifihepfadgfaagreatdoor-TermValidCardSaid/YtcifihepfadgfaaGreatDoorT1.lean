import Derived.Test.YtcifihepfadgfaaGreatDoorW
import Derived.Test.YtcifihepfadgfaaGreatDoorR1
import Derived.Test.YtcifihepfadgfaaGreatDoorG1
import Derived.Test.YtcifihepfadgfaaGreatDoorV
set_option linter.unusedVariables false
namespace Go.Proofs.YtcifihepfadgfaaGreatDoor
open List renaming mem_append->fW,mem_cons->cU,not_mem_nil->qnM,mem_of_getElem?->dC,getElem?_eq_getElem->g7,length_append->qlA,length_cons->qlC,length_nil->qlN,all_eq_true->qaT
open Go Go.W
section
variable {M:Nat->Prop} {w0 w:World} {L D:List En} {bs:List Nat}
theorem Hu (w:World) (pb:Nat) (vs:List Value) (ty:TypeId) (b:Nat):¬(En.c pb vs ty).P ({w with heap:=Array.replicate (b+1) (.map #[] 0)}):=by
 intro h
 have h:({w with heap:=Array.replicate (b+1) (.map #[] 0)}:World).heap[pb]? =some (.cells vs.toArray ty (0,0)):=h
 simp [Array.getElem?_replicate] at h
theorem FH {pb:Nat} {vs:List Value} {ty:TypeId} {b:Nat}:b∈(En.c pb vs ty).fp↔b=pb:=by simp [En.c,En.ob]
theorem _root_.Go.W.LH.Qi {pb:Nat} {vs:List Value} {ty:TypeId} (H:LH M w0 w (.c pb vs ty::L) D) {w':World} (f:Fr (·=pb) w w') {zS:List Value} (h:w'.heap[pb]? =some (.cells zS.toArray ty (0,0))):
  LH M w0 w' (.c pb zS ty::L) D/\∀e:En,e.P w'->(∀b∈e.fp,w.heap.size<=b)->LH M w0 w' (.c pb zS ty::L) (D++[e]):=by
 have H':LH M w0 w' (.c pb zS ty::L) D:=H.Vq 0 f h
 refine ⟨H',λe he hf=>⟨H'.fr,H'.own,λd hd=>?_,H'.new,H'.nd,λd hd b hb e' mJ eC=>?_⟩⟩
 .rcases fW.1 hd with hd|hd
  .exact H'.rd d hd
  .simp at hd;subst hd;exact he
 .rcases fW.1 hd with hd|hd
  .exact H'.dj d hd b hb e' mJ eC
  .simp at hd;subst hd
   have h1:=hf b hb
   have h2:b<w.heap.size:=by
    rcases cU.1 mJ with rfl|mJ
    .have eC:=FH.1 eC
     have:=(En.c pb vs ty).lt w (H.get 0) pb (FH.2 rfl)
     omega
    .exact e'.lt w (H.own e' (List.mem_cons_of_mem _ mJ)) b eC
   omega
theorem _root_.Go.W.LH.yE {pb:Nat} {vs:List Value} {ty:TypeId} (H:LH M w0 w (.c pb vs ty::L) D) {P:Program} {g:FuncId} {args:Array Value} {A:aD} {zS:List Value} {K:aD} (hc:Calls P g args w λr w'=>(A r w'/\w'.heap[pb]? =some (.cells zS.toArray ty (0,0)))/\Fr (·=pb) w w')
  (hk:∀r w',A r w'->LH M w0 w' (.c pb zS ty::L) D->(∀e:En,e.P w'->(∀b∈e.fp,w.heap.size<=b)->LH M w0 w' (.c pb zS ty::L) (D++[e]))->K r w'):Calls P g args w K:=
 hc.mono λr w' ⟨⟨ha,h⟩,f⟩=>hk r w' ha (H.Qi f h).1 (H.Qi f h).2
theorem _root_.Go.W.LH.kB {pb:Nat} {vs:List Value} {ty:TypeId} (H:LH M w0 w (.c pb vs ty::L) D) {P:Program} {g:FuncId} {args:Array Value} {A:aD} {zS:List Value} {K:aD} (hc:Calls P g args w λr w'=>(A r w'/\w'.heap[pb]? =some (.cells zS.toArray ty (0,0)))/\Fr (·=pb) w w')
  (hk:∀r w',A r w'->LH M w0 w' (.c pb zS ty::L) D->(∀e:En,e.P w'->(∀b∈e.fp,w.heap.size<=b)->LH M w0 w' (.c pb zS ty::L) (D++[e]))->K r w') (jS:∀b∈bs,En.g b∈(En.c pb vs ty::L):=by simp):fC bs P g args w K:=
 ⟨(·=pb),λb hb hm=>nU H (i:=0) rfl (Hu w pb vs ty) (jS b hb) (by rw [hm];exact FH.2 rfl),hc.mono λr w' ⟨⟨ha,h⟩,f⟩=>⟨f,hk r w' ha (H.Qi f h).1 (H.Qi f h).2⟩⟩
end
theorem kQ {s:ByteArray} {i:Nat} (h:i<s.size):s[i]? =some (gQ (bl s) i):=by
 rw [getElem?_pos s i h]
 unfold gQ
 rw [List.getD_eq_getElem?_getD,g7 (show i<(bl s).length by rw [hV];exact h)]
 rfl
theorem NA {x:UInt8} {n:Nat} {A B:Prop} (hn:n<256) (h1:(x==UInt8.ofNat n)=true->A) (h2:(x==UInt8.ofNat n)=false->B):aH (((x.toNat:Nat):Int)==(n:Int)) A B:=by
 have e:x.toNat=n↔x=UInt8.ofNat n:=by
  rw [<-UInt8.toNat_inj,UInt8.toNat_ofNat']
  omega
 refine aJ (λh=>h1 (by rw [beq_iff_eq,<-e];omega)) (λh=>h2 (by rw [beq_eq_false_iff_ne,Ne,<-e];omega))
theorem E5 {x:UInt8} {n:Nat} {A B:Prop} (hn:n<256) (h1:(x==UInt8.ofNat n)=false->A) (h2:(x==UInt8.ofNat n)=true->B):aH (((x.toNat:Nat):Int) !=(n:Int)) A B:=by
 have e:x.toNat=n↔x=UInt8.ofNat n:=by
  rw [<-UInt8.toNat_inj,UInt8.toNat_ofNat']
  omega
 refine eB (λh=>h1 (by rw [beq_eq_false_iff_ne,Ne,<-e];omega)) (λh=>h2 (by rw [beq_iff_eq,<-e];omega))
theorem KY {p:UInt8->Prop} (h:∀x:Fin 256,p (UInt8.ofNat x.val)) (c:UInt8):p c:=by
 have:=h ⟨c.toNat,c.toNat_lt⟩
 simpa using this
theorem Tc:∀n:Fin 16,(ByteArray.mk #[48,49,50,51,52,53,54,55,56,57,97,98,99,100,101,102])[n.val]? =some (rS n.val):=by decide+kernel
theorem yB (n:Nat) (h:n<16) (w:World):Calls Tryz.prog gi #[.i (n:Int)] w λr w'=>r=.returned (.int .u8 ((rS n).toNat:Int))/\bF w w':=
 enthymemeref04_digit.ok _ w _ ⟨by omega,_,Tc ⟨n,h⟩,rfl,Fr.refl _ _⟩
theorem Dj (c:UInt8) (w:World):Calls Tryz.prog ib #[.int .u8 (c.toNat:Int)] w λr w'=>r=.returned (.bool (NV c))/\bF w w':=by
 refine enthymemeref04_plain.ok _ w _ (aK (λh1=>aK (λh2=>E5 (n:=39) (by omega) (λh3=>⟨?_,Fr.refl _ _⟩) (λh3=>⟨?_,Fr.refl _ _⟩)) (λh2=>⟨?_,Fr.refl _ _⟩)) (λh1=>⟨?_,Fr.refl _ _⟩))
 .have e:(((c.toNat:Nat):Int) !=92)= !(c==92):=by
   have:=@E5 c 92 (((((c.toNat:Nat):Int) !=92)=true)/\(c==92)=false) (((((c.toNat:Nat):Int) !=92)=false)/\(c==92)=true)
   cases h:(((c.toNat:Nat):Int) !=92) with
   |true=>
    have h':c≠92:=λe=>by subst e;exact absurd h (by decide)
    rw [beq_eq_false_iff_ne.2 h'];rfl
   |false=>
    have h':c=92:=by
     rw [<-UInt8.toNat_inj]
     have:=(bne_eq_false_iff_eq.1 h)
     show c.toNat=92
     omega
    subst h';rfl
  rw [e]
  unfold NV
  rw [decide_eq_true (show 32<=c.toNat by omega),decide_eq_true (show c.toNat<=126 by omega)]
  have h3:(c==39)=false:=h3
  rw [h3];rfl
 .have h3:(c==39)=true:=h3
  unfold NV
  rw [h3];simp
 .unfold NV
  rw [decide_eq_false (show ¬c.toNat<=126 by omega)];simp
 .unfold NV
  rw [decide_eq_false (show ¬32<=c.toNat by omega)];simp
theorem Pr:∀n:Fin 16,o7 (rS n.val)=(n.val:Int):=by decide+kernel
theorem TY:∀x:Fin 256,o7 (UInt8.ofNat x.val)=-1\/∃n:Fin 16,rS n.val=UInt8.ofNat x.val:=by decide+kernel
theorem TX:∀x:Fin 256,o7 (UInt8.ofNat x.val)<16:=by decide+kernel
theorem uQ (c:UInt8) (w:World):Calls Tryz.prog eL #[.int .u8 (c.toNat:Int)] w λr w'=>r=.returned (.int .i64 (o7 c))/\bF w w':=by
 have loop:∀(d i:Nat) (w1:World),i+d=16->(∀j,j<i->rS j≠c)->bF w w1->enthymemeref04_number.L0 c.toNat (i:Int) w1 λr w'=>r=.returned (.int .i64 (o7 c))/\bF w w':=by
  intro d
  induction d with
  |zero=>
   intro i w1 hi hn f
   refine enthymemeref04_number.cO _ _ _ _ (aM (decide_eq_false (by omega)) ⟨?_,f⟩)
   have:=KY (p:=λc=>o7 c=-1\/∃n:Fin 16,rS n.val=c) TY c
   rcases this with h|⟨n,h⟩
   .rw [h]
   .exact absurd h (hn n.val (by omega))
  |succ d pW=>
   intro i w1 hi hn f
   refine enthymemeref04_number.cO _ _ _ _ (aS (decide_eq_true (by omega)) ((yB i (by omega) w1).mono ?_))
   rintro _ w2 ⟨rfl,f2⟩
   refine ⟨_,rfl,aJ (λh=>⟨?_,f.zM f2⟩) (λh=>?_)⟩
   .have e:rS i=c:=by rw [<-UInt8.toNat_inj];omega
    have:=Pr ⟨i,by omega⟩
    rw [<-e]
    rw [this]
   .rw [aZ _ (by omega)]
    refine pW (i+1) w2 (by omega) (λj hj=>?_) (f.zM f2)
    by_cases NR:j=i
    .subst NR;intro e;subst e;exact h rfl
    .exact hn j (by omega)
 exact enthymemeref04_number.ok _ w _ (loop 16 0 w (by omega) (λj h=>by omega) (Fr.refl _ _))
def Is (x:UInt8×Nat):Ending:=.returned (.tuple #[.int .u8 (x.1.toNat:Int),.i (x.2:Int)])
theorem Pt:∀x y:Fin 16,IntKind.wrap .u8 (IntKind.wrap .i64 ((IntKind.wrap .i64 (16 *(x.val:Int)))+(y.val:Int)))=((UInt8.ofNat ((16 *(x.val:Int)+(y.val:Int)).toNat)).toNat:Int):=by decide+kernel
theorem Io {c:UInt8} (h:0<=o7 c):∃x:Fin 16,o7 c=(x.val:Int):=by
 have:=KY (p:=λc=>o7 c<16) TX c
 exact ⟨⟨(o7 c).toNat,by omega⟩,by show o7 c=(((o7 c).toNat:Nat):Int);omega⟩
theorem wh (s:ByteArray) (i:Nat) (hi:i<=1000000) (w:World):Calls Tryz.prog fO #[.string s,.i (i:Int)] w λr w'=>r=Is (gX (bl s) i)/\bF w w':=by
 have e1:IntKind.wrap .i64 ((i:Int)+1)=((i+1:Nat):Int):=by rw [IntWalk.i64_in _ (by omega)];omega
 have e2:IntKind.wrap .i64 ((i:Int)+2)=((i+2:Nat):Int):=by rw [IntWalk.i64_in _ (by omega)];omega
 have e3:IntKind.wrap .i64 ((i:Int)+3)=((i+3:Nat):Int):=by rw [IntWalk.i64_in _ (by omega)];omega
 have e4:IntKind.wrap .i64 ((i:Int)+4)=((i+4:Nat):Int):=by rw [IntWalk.i64_in _ (by omega)];omega
 have hl:(bl s).length=s.size:=hV s
 have no:∀w',bF w w'->gX (bl s) i=(0,0)->enthymemeref04_byteAt.S1 w' (λr w'=>r=Is (gX (bl s) i)/\bF w w'):=λw' f h=>⟨by rw [h];rfl,f⟩
 have st:∀w',bF w w'->(decide (i+3<=(bl s).length)&&gQ (bl s) i==39&&gQ (bl s) (i+2)==39&&NV (gQ (bl s) (i+1)))=false->enthymemeref04_byteAt.S0 s (i:Int) w' (λr w'=>r=Is (gX (bl s) i)/\bF w w'):=by
  intro w' f hq
  have nn:(decide (i+4<=(bl s).length)&&gQ (bl s) i==92&&gQ (bl s) (i+1)==120&&decide (0<=o7 (gQ (bl s) (i+2)))&&decide (0<=o7 (gQ (bl s) (i+3))))=false->∀w',bF w w'->enthymemeref04_byteAt.S1 w' (λr w'=>r=Is (gX (bl s) i)/\bF w w'):=λh w' f=>no w' f (by
   unfold gX
   rw [hq,h];rfl)
  show aH _ _ _
  rw [e4,e3,e2,e1]
  refine aK (λh4=>⟨by omega,_,kQ (i:=i) (by omega),NA (n:=92) (by omega) (λha=>⟨by omega,_,kQ (i:=i+1) (by omega),NA (n:=120) (by omega) (λhb=>⟨by omega,_,kQ (i:=i+2) (by omega),(uQ _ w').mono ?_⟩) (λhb=>?_)⟩) (λha=>?_)⟩) (λh4=>?_)
  rotate_left
  .exact nn (by have hb:(gQ (bl s) (i+1)==120)=false:=hb;rw [hb];simp) w' f
  .exact nn (by have ha:(gQ (bl s) i==92)=false:=ha;rw [ha];simp) w' f
  .exact nn (by rw [decide_eq_false (show ¬i+4<=(bl s).length by omega)];simp) w' f
  rintro _ w1 ⟨rfl,f1⟩
  refine ⟨_,rfl,aK (λhx=>⟨by omega,_,kQ (i:=i+3) (by omega),(uQ _ w1).mono ?_⟩) (λhx=>nn (by rw [decide_eq_false (show ¬0<=o7 (gQ (bl s) (i+2)) by omega)];simp) w1 (f.zM f1))⟩
  rintro _ w2 ⟨rfl,f2⟩
  refine ⟨_,rfl,aK (λhy=>?_) (λhy=>nn (by rw [decide_eq_false (show ¬0<=o7 (gQ (bl s) (i+3)) by omega)];simp) w2 ((f.zM f1).zM f2))⟩
  have f3:bF w w2.drew:=((f.zM f1).zM f2).zM (Fr.drew _ _)
  refine (show tZ w2 _ from ?_)
  refine ⟨by omega,_,kQ (i:=i+2) (by omega),by omega,_,kQ (i:=i+3) (by omega),(uQ _ _).mono ?_⟩
  rintro _ w4 ⟨rfl,f4⟩
  refine ⟨_,rfl,(uQ _ _).mono ?_⟩
  rintro _ w5 ⟨rfl,f5⟩
  refine ⟨_,rfl,?_,(f3.zM f4).zM f5⟩
  have ha:(gQ (bl s) i==92)=true:=ha
  have hb:(gQ (bl s) (i+1)==120)=true:=hb
  have eb:gX (bl s) i=(UInt8.ofNat ((16 *o7 (gQ (bl s) (i+2))+o7 (gQ (bl s) (i+3))).toNat),4):=by
   unfold gX
   rw [hq,ha,hb,decide_eq_true (show i+4<=(bl s).length by omega),decide_eq_true (show 0<=o7 (gQ (bl s) (i+2)) by omega),decide_eq_true (show 0<=o7 (gQ (bl s) (i+3)) by omega)]
   rfl
  rw [eb]
  obtain ⟨x,D3⟩:=Io (c:=gQ (bl s) (i+2)) (by omega)
  obtain ⟨y,ZR⟩:=Io (c:=gQ (bl s) (i+3)) (by omega)
  rw [D3,ZR,Pt x y]
  rfl
 refine enthymemeref04_byteAt.ok _ _ w _ ?_
 rw [e3,e2,e1]
 refine aK (λh3=>⟨by omega,_,kQ (i:=i) (by omega),NA (n:=39) (by omega) (λha=>⟨by omega,_,kQ (i:=i+2) (by omega),NA (n:=39) (by omega) (λhb=>⟨by omega,_,kQ (i:=i+1) (by omega),(Dj _ w).mono ?_⟩) (λhb=>?_)⟩) (λha=>?_)⟩) (λh3=>?_)
 rotate_left
 .exact st w (Fr.refl _ _) (by have hb:(gQ (bl s) (i+2)==39)=false:=hb;rw [hb];simp)
 .exact st w (Fr.refl _ _) (by have ha:(gQ (bl s) i==39)=false:=ha;rw [ha];simp)
 .exact st w (Fr.refl _ _) (by rw [decide_eq_false (show ¬i+3<=(bl s).length by omega)];simp)
 rintro _ w1 ⟨rfl,f1⟩
 refine ⟨_,rfl,bB (λhp=>⟨by omega,_,kQ (i:=i+1) (by omega),?_,f1⟩) (λhp=>st w1 f1 (by rw [hp];simp))⟩
 have ha:(gQ (bl s) i==39)=true:=ha
 have hb:(gQ (bl s) (i+2)==39)=true:=hb
 unfold gX
 rw [ha,hb,hp,decide_eq_true (show i+3<=(bl s).length by omega)]
 rfl
theorem we (s:BL) (i:Nat):(gX s i).2<=4/\(0<(gX s i).2->i+(gX s i).2<=s.length):=by
 unfold gX
 split
 .rename_i h
  simp only [Bool.and_eq_true,decide_eq_true_eq] at h
  exact ⟨by simp,λ_=>h.1.1.1⟩
 .split
  .rename_i h
   simp only [Bool.and_eq_true,decide_eq_true_eq] at h
   exact ⟨by simp,λ_=>h.1.1.1.1⟩
  .exact ⟨by simp,λh=>by simp at h⟩
def rgV (g:Yj):Ending:=.returned (.tuple #[.agg #[.i (g.k:Int),.int .u8 (g.lo.toNat:Int),.int .u8 (g.hi.toNat:Int),.slice none 0 0],.i (g.n:Int)])
theorem zk (s:BL) (i:Nat):i+(iz s i).n<=s.length\/(iz s i).n=0:=by
 unfold iz
 simp only
 have h:=we s i
 split
 .rename_i h0
  exact .inl (h.2 h0)
 .split
  .exact .inr rfl
  .split
   .exact .inr rfl
   .split
    .exact .inr rfl
    .rename_i h1
     simp only [not_or] at h1
     left
     show i+(_+1 - i)<=s.length
     omega
theorem Je (s:ByteArray) (hs:s.size<=100000) (i:Nat) (hi:i<s.size) (w:World):Calls Tryz.prog jf #[.string s,.i (i:Int)] w λr w'=>r=rgV (iz (bl s) i)/\bF w w':=by
 have hl:(bl s).length=s.size:=hV s
 refine enthymemeref04_rangeAt.cT _ _ w _ ((mf [] (by simp)).bI λb w1 H1=>H1.aL (wh s i (by omega) w1) ?_)
 rintro _ w2 rfl H2
 refine ⟨_,_,rfl,aK (λh0=>H2.aN λw3 H3=>⟨?_,H3.fr⟩) (λh0=>⟨by omega,_,kQ (i:=i) hi,E5 (n:=91) (by omega) (λh1=>H2.aN λw3 H3=>⟨?_,H3.fr⟩) (λh1=>?_)⟩)⟩
 .unfold iz
  simp only
  rw [if_pos (by omega)]
  rfl
 .have h1:(gQ (bl s) i==91)=false:=h1
  unfold iz
  simp only
  rw [if_neg (by omega),if_pos (beq_eq_false_iff_ne.1 h1)]
  rfl
 have h1:gQ (bl s) i=91:=eq_of_beq h1
 rw [aZ _ (by omega)]
 refine H2.aL (wh s (i+1) (by omega) w2) ?_
 rintro _ w3 rfl H3
 have b1:=we (bl s) (i+1)
 have bad:∀(w':World),LH F0 w w' [.g b] []->iz (bl s) i=Gv->enthymemeref04_rangeAt.fY b 0 0 0 ⟨none,0,0⟩ w' λr w'=>r=rgV (iz (bl s) i)/\bF w w':=λw' H' he=>H'.aN λrC N3=>⟨by rw [he];rfl,N3.fr⟩
 have Ob:∀(w':World),LH F0 w w' [.g b] []->iz (bl s) i=Gv->enthymemeref04_rangeAt.hU b 0 0 0 ⟨none,0,0⟩ w' λr w'=>r=rgV (iz (bl s) i)/\bF w w':=λw' H' he=>H'.aN λrC N3=>⟨by rw [he];rfl,N3.fr⟩
 have Gn:iz (bl s) i=(let a:=gX (bl s) (i+1)
   let dash:=i+1+a.2
   if a.2=0\/(bl s).length<=dash\/gQ (bl s) dash≠45 then Gv else
   let c:=gX (bl s) (dash+1)
   let fin:=dash+1+c.2
   if c.2=0\/(bl s).length<=fin\/gQ (bl s) fin≠93\/c.1.toNat<a.1.toNat then Gv else ⟨2,a.1,c.1,fin+1 - i⟩):=by
  conv=>lhs;unfold iz
  simp only
  rw [if_neg (by omega),if_neg (by rw [h1];simp)]
 simp only at Gn
 generalize gX (bl s) (i+1)=a at b1 Gn
 refine ⟨_,_,rfl,?_⟩
 have ed:IntKind.wrap .i64 (((i+1:Nat):Int)+(a.2:Int))=((i+1+a.2:Nat):Int):=by rw [IntWalk.i64_in _ (by omega)];omega
 show enthymemeref04_rangeAt.dU s (i:Int) b 0 0 0 ⟨none,0,0⟩ (a.1.toNat:Int) (a.2:Int) (IntKind.wrap .i64 (((i+1:Nat):Int)+(a.2:Int))) w3 _
 rw [ed]
 refine aJ (λe0=>bad w3 H3 (by rw [Gn,if_pos (.inl (by omega))])) (λe0=>aK (λe1=>bad w3 H3 (by rw [Gn,if_pos (.inr (.inl (by omega)))])) (λe1=>⟨by omega,_,kQ (i:=i+1+a.2) (by omega),E5 (n:=45) (by omega) (λe2=>bad w3 H3 (by rw [Gn,if_pos (.inr (.inr (beq_eq_false_iff_ne.1 e2)))])) (λe2=>?_)⟩))
 have e2:gQ (bl s) (i+1+a.2)=45:=eq_of_beq e2
 rw [if_neg (by rw [e2];simp;omega)] at Gn
 rw [aZ _ (by omega)]
 refine H3.aL (wh s (i+1+a.2+1) (by omega) w3) ?_
 rintro _ w4 rfl H4
 have b2:=we (bl s) (i+1+a.2+1)
 generalize gX (bl s) (i+1+a.2+1)=c at b2 Gn
 refine ⟨_,_,rfl,?_⟩
 have ef:IntKind.wrap .i64 (((i+1+a.2+1:Nat):Int)+(c.2:Int))=((i+1+a.2+1+c.2:Nat):Int):=by rw [IntWalk.i64_in _ (by omega)];omega
 show enthymemeref04_rangeAt.eY s (i:Int) b 0 0 0 ⟨none,0,0⟩ (a.1.toNat:Int) (c.1.toNat:Int) (c.2:Int) (IntKind.wrap .i64 (((i+1+a.2+1:Nat):Int)+(c.2:Int))) w4 _
 rw [ef]
 refine aJ (λe0=>Ob w4 H4 (by rw [Gn,if_pos (.inl (by omega))])) (λe0=>aK (λe1=>Ob w4 H4 (by rw [Gn,if_pos (.inr (.inl (by omega)))])) (λe1=>⟨by omega,_,kQ (i:=i+1+a.2+1+c.2) (by omega),E5 (n:=93) (by omega) (λe2=>Ob w4 H4 (by rw [Gn,if_pos (.inr (.inr (.inl (beq_eq_false_iff_ne.1 e2))))])) (λe3=>aK (λe4=>Ob w4 H4 (by rw [Gn,if_pos (.inr (.inr (.inr (by omega))))])) (λe4=>H4.aN λw5 H5=>⟨?_,H5.fr⟩))⟩))
 have e3:gQ (bl s) (i+1+a.2+1+c.2)=93:=eq_of_beq e3
 rw [Gn,if_neg (by rw [e3];simp;omega)]
 have ee:IntKind.wrap .i64 ((IntKind.wrap .i64 (((i+1+a.2+1+c.2:Nat):Int)+1)) - (i:Int))=((i+1+a.2+1+c.2+1 - i:Nat):Int):=by
  rw [aZ _ (by omega),IntWalk.i64_in _ (by omega)];omega
 rw [ee]
 rfl
def jP.c (t:jP):List Value:=[.string (ba t.tx),.i (t.at_:Int),.i (t.k:Int),.int .u8 (t.lo.toNat:Int),.int .u8 (t.hi.toNat:Int),.slice none 0 0]
theorem IV (t:jP):t.c.length=6:=rfl
theorem E3 (l:List jP) (t:jP):l.flatMap jP.c++t.c=(l++[t]).flatMap jP.c:=by simp
theorem E2 {w:World} {s:Sl} {l:List jP} (h:jJ 6 w s (l.flatMap jP.c)):s.n=l.length:=by
 have:=h.1
 rw [oq jP.c 6 IV] at this
 omega
theorem LI:iK Tryz.prog bT bZ (.agg #[.s0,.i 0,.i 0,.int .u8 0,.int .u8 0,.slice none 0 0]) 6 64:=⟨by kernel_rfl,by kernel_rfl,rfl,by decide,by decide⟩
def QH (w:World) (l:List jP) (r:Ending) (w':World):Prop:=∃s':Sl,r=.returned s'.v/\aO w' bZ 6 s' (l.flatMap jP.c)/\∀x∈bA s',w.heap.size<=x
theorem SH (s:ByteArray) (i j:Nat):s.extract i j=ba (((bl s).take j).drop i):=by
 have:bl (s.extract i j)=((bl s).take j).drop i:=by
  unfold bl
  rw [ByteArray.data_extract,Array.toList_extract,List.extract_eq_take_drop]
  rw [List.drop_take]
 rw [<-this,AK]
theorem Wt (c:UInt8) {A B:Prop} (h1:tw c=true->A) (h2:tw c=false->B):aH (decide (((c.toNat:Nat):Int)>=97)) (aH (decide (((c.toNat:Nat):Int)<=122)) A B) B:=
 aK (λha=>aK (λhb=>h1 (by unfold tw;rw [decide_eq_true (show 97<=c.toNat by omega),decide_eq_true (show c.toNat<=122 by omega)];rfl)) (λhb=>h2 (by unfold tw;rw [decide_eq_false (show ¬c.toNat<=122 by omega)];simp))) (λha=>h2 (by unfold tw;rw [decide_eq_false (show ¬97<=c.toNat by omega)];simp))
theorem IB (s:BL) (i:Nat):∀(f n:Nat),i+n<=s.length->n<=Ax s i f n/\i+Ax s i f n<=s.length
 |0,n,h=>⟨Nat.le_refl _,h⟩
 |f+1,n,h=>by
  unfold Ax
  split
  .rename_i h0
   simp only [Bool.and_eq_true,decide_eq_true_eq] at h0
   have:=IB s i f (n+1) (by omega)
   exact ⟨by omega,this.2⟩
  .exact ⟨Nat.le_refl _,h⟩
theorem K7 (s:ByteArray) (hs:s.size<=100000) (w:World):Calls Tryz.prog jv #[.string s] w λr w'=>QH w (s5 (bl s)) r w'/\bF w w':=by
 have hl:(bl s).length=s.size:=hV s
 let R:aD:=λr w'=>QH w (s5 (bl s)) r w'/\bF w w'
 have fin:∀(acc:List jP) (sl:Sl) (w1:World),acc.length<=s.size->s5 (bl s)=acc++[⟨[],(bl s).length,0,0,0⟩]->LH F0 w w1 [.row bZ 6 sl (acc.flatMap jP.c)] []->
   eV w1 (.cells #[.s0,.i ((s.size:Nat):Int),.i 0,.int .u8 0,.int .u8 0,.slice none 0 0] bZ) λw7=>
 ∃(t81:Sl) (w8:World),Sem.run Tryz.prog (Builtin.append_ #[bT,bT] bT #[sl.v,.slice (some (nb w1)) 1 1]) w7=.ok (t81.v) w8/\R (.returned (t81.v)) w8:=by
  intro acc sl w1 ha he H
  have ug:=E2 (H.get 0:aO _ _ _ _ _).iQ
  refine H.Xn 0 LI rfl (λs' w2 H2 _ _=>⟨⟨s',rfl,?_,λx hx=>(H2.new _ (dC (i:=0) rfl) x hx).resolve_right id⟩,H2.fr⟩) (by omega)
  rw [he,<-E3]
  exact H2.get 0
 have loop:∀(f i:Nat) (acc:List jP) (sl:Sl) (w1:World),s.size<f+i->i<=s.size->acc.length<=i->s5 (bl s)=acc++CG (bl s) f i->LH F0 w w1 [.row bZ 6 sl (acc.flatMap jP.c)] []->enthymemeref04_Tokens.dY s sl (i:Int) w1 R:=by
  intro f
  induction f with
  |zero=>intro i acc sl w1 hf hi;omega
  |succ f XK=>
   intro i acc sl w1 hf hi Gd he H
   refine enthymemeref04_Tokens.aY _ _ _ _ _ (aK (λlC=>⟨by omega,_,kQ (i:=i) (by omega),?_⟩) (λlC=>fin acc sl w1 (by omega) (by
    rw [he];unfold CG;rw [if_pos (by omega)]) H))
   unfold CG at he
   rw [if_neg (by omega)] at he
   refine NA (n:=32) (by omega) (λFf=>?_) (λFf=>?_)
   .have Ff:gQ (bl s) i=32:=eq_of_beq Ff
    rw [if_pos Ff] at he
    rw [aZ _ (by omega)]
    exact XK (i+1) acc sl w1 (by omega) (by omega) (by omega) he H
   have Ff:gQ (bl s) i≠32:=beq_eq_false_iff_ne.1 Ff
   rw [if_neg Ff] at he
   simp only at he
   refine H.call (Je s hs i (by omega) w1) ?_
   rintro _ w2 rfl H2
   have hr:=zk (bl s) i
   generalize iz (bl s) i=g at he hr
   refine ⟨_,_,_,⟨none,0,0⟩,_,rfl,H2.bI λb w3 H3=>?_⟩
   have H3:LH F0 w w3 [.row bZ 6 sl (acc.flatMap jP.c),.g b] []:=H3
   have one:∀(n:Nat) (w4:World),1<=n->i+n<=s.size->s5 (bl s)=acc++⟨((bl s).take (i+n)).drop i,i,g.k,g.lo,g.hi⟩::CG (bl s) f (i+n)->LH F0 w w4 [.row bZ 6 sl (acc.flatMap jP.c),.g b] []->
     enthymemeref04_Tokens.eY s sl (i:Int) b (g.k:Int) (g.lo.toNat:Int) (g.hi.toNat:Int) ⟨none,0,0⟩ (n:Int) w4 R:=by
    intro n w4 hn vj Zi H4
    show (0:Int)<=_/\_
    have ei:IntKind.wrap .i64 ((i:Int)+(n:Int))=((i+n:Nat):Int):=by rw [IntWalk.i64_in _ (by omega)];omega
    rw [ei,Int.toNat_natCast,Int.toNat_natCast,SH]
    refine ⟨by omega,by omega,by omega,by omega,H4.aN λw5 H5=>?_⟩
    have ug:=E2 (H5.get 0:aO _ _ _ _ _).iQ
    refine H5.tS 0 LI rfl (λs' w6 H6=>?_) (by omega)
    refine XK (i+n) (acc++[⟨((bl s).take (i+n)).drop i,i,g.k,g.lo,g.hi⟩]) s' w6 (by omega) (by omega) (by simp;omega) (by rw [Zi];simp) ?_
    rw [<-E3]
    exact H6.take 1
   refine aJ (λh0=>H3.aN λw4 H4=>?_) (λh0=>H3.aN λw4 H4=>one g.n w4 (by omega) (by omega) (by rw [he,if_neg (by omega)]) H4)
   have h0:g.n=0:=by omega
   rw [if_pos h0] at he
   have word:∀(e n:Nat) (w5:World),s.size<=e+(i+n)->1<=n->i+n<=s.size->Ax (bl s) i (bl s).length 1=Ax (bl s) i e n->LH F0 w w5 [.row bZ 6 sl (acc.flatMap jP.c),.g b] []->
     enthymemeref04_Tokens.l6 s sl (i:Int) b (g.k:Int) (g.lo.toNat:Int) (g.hi.toNat:Int) ⟨none,0,0⟩ (n:Int) w5 R:=by
    intro e
    induction e with
    |zero=>
     intro n w5 Zi hn vj hr H5
     have stop:enthymemeref04_Tokens.eY s sl (i:Int) b (g.k:Int) (g.lo.toNat:Int) (g.hi.toNat:Int) ⟨none,0,0⟩ (n:Int) w5 R:=one n w5 hn vj (by rw [he,hr];rfl) H5
     have ei:IntKind.wrap .i64 ((i:Int)+(n:Int))=((i+n:Nat):Int):=by rw [IntWalk.i64_in _ (by omega)];omega
     refine enthymemeref04_Tokens.dI _ _ _ _ _ _ _ _ _ _ _ ?_
     rw [ei]
     refine ⟨by omega,_,kQ (i:=i) (by omega),bB (λ_=>⟨by omega,_,kQ (i:=i) (by omega),bB (λ_=>aM (decide_eq_false (by omega)) stop) (λ_=>stop)⟩) (λ_=>stop)⟩
    |succ e ihe=>
     intro n w5 Zi hn vj hr H5
     have ei:IntKind.wrap .i64 ((i:Int)+(n:Int))=((i+n:Nat):Int):=by rw [IntWalk.i64_in _ (by omega)];omega
     have stop:(tw (gQ (bl s) i)&&decide (i+n<(bl s).length)&&tw (gQ (bl s) (i+n)))=false->enthymemeref04_Tokens.eY s sl (i:Int) b (g.k:Int) (g.lo.toNat:Int) (g.hi.toNat:Int) ⟨none,0,0⟩ (n:Int) w5 R:=λh=>one n w5 hn vj (by
      rw [he,hr]
      conv=>lhs;unfold Ax
      rw [h];rfl) H5
     refine enthymemeref04_Tokens.dI _ _ _ _ _ _ _ _ _ _ _ ?_
     rw [ei]
     refine ⟨by omega,_,kQ (i:=i) (by omega),?_⟩
     have go:tw (gQ (bl s) i)=true->aH (decide (((i+n:Nat):Int)<((s.size:Nat):Int))) ((0:Int)<=((i+n:Nat):Int)/\∃RY:UInt8,s[Int.toNat ((i+n:Nat):Int)]? =some RY/\aH (decide (((RY.toNat:Nat):Int)>=97)) ((0:Int)<=((i+n:Nat):Int)/\∃RZ:UInt8,s[Int.toNat ((i+n:Nat):Int)]? =some RZ/\aH (decide (((RZ.toNat:Nat):Int)<=122)) (enthymemeref04_Tokens.l6 s sl (i:Int) b (g.k:Int) (g.lo.toNat:Int) (g.hi.toNat:Int) ⟨none,0,0⟩ (IntKind.wrap .i64 ((n:Int)+1)) w5 R) (enthymemeref04_Tokens.eY s sl (i:Int) b (g.k:Int) (g.lo.toNat:Int) (g.hi.toNat:Int) ⟨none,0,0⟩ (n:Int) w5 R)) (enthymemeref04_Tokens.eY s sl (i:Int) b (g.k:Int) (g.lo.toNat:Int) (g.hi.toNat:Int) ⟨none,0,0⟩ (n:Int) w5 R)) (enthymemeref04_Tokens.eY s sl (i:Int) b (g.k:Int) (g.lo.toNat:Int) (g.hi.toNat:Int) ⟨none,0,0⟩ (n:Int) w5 R):=by
      intro h1
      refine aK (λh2=>⟨by omega,_,kQ (i:=i+n) (by omega),?_⟩) (λh2=>stop (by rw [decide_eq_false (show ¬i+n<(bl s).length by omega)];simp))
      have key:tw (gQ (bl s) (i+n))=true->enthymemeref04_Tokens.l6 s sl (i:Int) b (g.k:Int) (g.lo.toNat:Int) (g.hi.toNat:Int) ⟨none,0,0⟩ (IntKind.wrap .i64 ((n:Int)+1)) w5 R:=λh3=>by
       rw [aZ _ (by omega)]
       refine ihe (n+1) w5 (by omega) (by omega) (by omega) ?_ H5
       rw [hr]
       conv=>lhs;unfold Ax
       rw [h1,h3,decide_eq_true (show i+n<(bl s).length by omega)];rfl
      have TN:tw (gQ (bl s) (i+n))=false->_:=λh3=>stop (by rw [h3];simp)
      have h:=Wt (gQ (bl s) (i+n)) key TN
      exact IC h (λh=>⟨by omega,_,kQ (i:=i+n) (by omega),h⟩) id
     have TN:tw (gQ (bl s) i)=false->_:=λh3=>stop (by rw [h3];simp)
     exact IC (Wt (gQ (bl s) i) go TN) (λh=>⟨by omega,_,kQ (i:=i) (by omega),h⟩) id
   exact word (bl s).length 1 w4 (by omega) (by omega) (by omega) rfl H4
 refine enthymemeref04_Tokens.cT _ w _ ?_
 exact loop (s.size+1) 0 [] ⟨none,0,0⟩ w (by omega) (by omega) (by simp) (by unfold s5;rw [hl];rfl) ((mf [] (by simp)).oL bZ 6)
abbrev rdC (s:Sl) (st:ky):List Value:=[s.v,.i (st.1:Int),.bool st.2]
abbrev oY (pb:Nat) (s:Sl) (st:ky):En:=.c pb (rdC s st) ji
abbrev pq (s:Sl) (l:List jP):En:=.iQ 6 s (l.flatMap jP.c)
abbrev SA (pb:Nat) (s:Sl) (w:World) (A:aD) (st:ky):aD:=λr w'=>(A r w'/\w'.heap[pb]? =some (.cells (rdC s st).toArray ji (0,0)))/\Fr (·=pb) w w'
abbrev CY (pb:Nat) (s:Sl) (l:List jP) (st:ky) (w:World):Prop:=LH (·=pb) w w [oY pb s st] [pq s l]
theorem _root_.Go.W.LH.xS {M:Nat->Prop} {w0 w:World} {L D:List En} {pb:Nat} {s:Sl} {l:List jP} {st:ky} (H:LH M w0 w (oY pb s st::L) (pq s l::D)):CY pb s l st w:=
 LH.zB _ _ (by
  intro e he
  simp only [cU,qnM,or_false] at he
  subst he
  exact ⟨H.get 0,λb hb=>FH.1 hb⟩) (by
  simp only [List.flatMap_cons,List.flatMap_nil,List.append_nil]
  exact (oY pb s st).nd) (by
  intro e he
  simp only [cU,qnM,or_false] at he
  subst he
  exact ⟨H.getD 0,λb hb e' mJ=>by
   simp only [cU,qnM,or_false] at mJ
   subst mJ
   exact H.dj _ List.mem_cons_self b hb _ List.mem_cons_self⟩)
structure Hk (w:World) (p:Addr) (i:Nat) (t:jP):Prop where
 c0:w.cell? ((p.add (i *6)).add 0)=some (.string (ba t.tx))
 c1:w.cell? ((p.add (i *6)).add 1)=some (.i (t.at_:Int))
 c2:w.cell? ((p.add (i *6)).add 2)=some (.i (t.k:Int))
 c3:w.cell? ((p.add (i *6)).add 3)=some (.int .u8 (t.lo.toNat:Int))
 c4:w.cell? ((p.add (i *6)).add 4)=some (.int .u8 (t.hi.toNat:Int))
 c5:w.cell? ((p.add (i *6)).add 5)=some (.slice none 0 0)
theorem zL {w:World} {s:Sl} {l:List jP} (h:jJ 6 w s (l.flatMap jP.c)) {i:Nat} (hi:i<l.length) {K:Addr->Prop} (hk:∀p,s.a=some p->Hk w p i (jG l i)->K p):aX s.a K:=by
 have hg:l[i]? =some (jG l i):=by
  unfold jG
  rw [List.getD_eq_getElem?_getD,g7 hi];rfl
 exact oB.elem (f:=jP.c) (sz:=6) IV (by omega) h.2.2 hg λp hp hc=>hk p hp ⟨hc 0 _ rfl,hc 1 _ rfl,hc 2 _ rfl,hc 3 _ rfl,hc 4 _ rfl,hc 5 _ rfl⟩
def Fc (l:List jP):Prop:=0<l.length/\(jG l (l.length - 1)).tx=[]/\(jG l (l.length - 1)).k=0
section
variable {pb:Nat} {s:Sl} {l:List jP} {st:ky} {w:World}
theorem Lk (H:CY pb s l st w) (hi:st.1<l.length):Calls Tryz.prog eI #[.pointer (some (bD pb))] w λr w'=>r=.returned (.string (ba (nE l st)))/\bF w w':=by
 have et:st.2=true->nE l st=[32]:=λh=>by unfold nE;rw [h];rfl
 have ef:st.2=false->nE l st=(jG l st.1).tx:=λh=>by unfold nE;rw [h];rfl
 generalize nE l st=u at et ef
 refine enthymemeref04_reader_see.ok _ w _ ⟨st.2,H.ld 0 2,bB (λhb=>⟨?_,Fr.refl _ _⟩) (λhb=>?_)⟩
 .rw [et hb];rfl
 rw [ef hb]
 have H1:LH (·=pb) w w.drew [oY pb s st] [pq s l]:=H.drew
 have hn:=E2 (H1.getD 0:jJ _ _ _ _)
 refine ⟨s,H1.ld 0 0,_,H1.ld 0 1,by omega,by omega,zL (H1.getD 0) hi λp hp c=>⟨ba (jG l st.1).tx,?_,rfl,Fr.drew _ _⟩⟩
 rw [Int.toNat_natCast]
 exact c.c0
theorem AL (a b:BL):((ba a).toList==(ba b).toList)=(a==b):=by
 rw [ByteArray.toList_eq,ByteArray.toList_eq]
 rfl
theorem Ea (hl:Fc l) (hi:st.1<l.length) (hs:nE l st≠[]) (hb:st.2=false):st.1+1<l.length:=by
 rcases Nat.lt_or_ge (st.1+1) l.length with h|h
 .exact h
 .exfalso
  apply hs
  have e:st.1=l.length - 1:=by omega
  unfold nE
  rw [hb,e]
  exact hl.2.1
theorem pR (hl:Fc l) (hi:st.1<l.length) (u:BL) (hu:u≠[32]):(iA l u st).2.1<l.length:=by
 unfold iA
 cases he:nE l st==u with
 |false=>exact hi
 |true=>
  have he:=eq_of_beq he
  cases hem:u.isEmpty with
  |true=>exact hi
  |false=>
   show st.1+1<l.length
   refine Ea hl hi (λh=>?_) ?_
   .rw [h] at he;subst he;cases hem
   .cases hb:st.2 with
    |false=>rfl
    |true=>
     exfalso;apply hu
     rw [<-he];unfold nE;rw [hb];rfl
theorem tU (H:CY pb s l st w) (hi:st.1<l.length) (pX:l.length<=1000000) (u:BL):Calls Tryz.prog bV #[.pointer (some (bD pb)),.string (ba u)] w (SA pb s w (λr _=>r=.returned (.bool (iA l u st).1)) (iA l u st).2):=by
 refine enthymemeref04_reader_take.ok _ _ w _ (H.call (Lk H hi) ?_)
 rintro _ w1 rfl H1
 refine ⟨_,rfl,?_⟩
 dsimp only
 rw [AL]
 have NP:((ba u).toList==(ByteArray.mk #[]).toList)=u.isEmpty:=by
  have:ByteArray.mk #[]=ba []:=rfl
  rw [this,AL]
  cases u<;>rfl
 rw [NP]
 refine eO (λhe=>⟨⟨?_,?_⟩,H1.fr⟩) (λhe=>eO (λh0=>⟨_,H1.ld 0 1,?_⟩) (λh0=>⟨⟨?_,?_⟩,H1.fr⟩))
 .unfold iA;rw [he];rfl
 .have:(iA l u st).2=st:=by unfold iA;rw [he];rfl
  rw [this];exact H1.get 0
 .rw [aZ _ (by omega)]
  refine H1.st 0 1 rfl λw2 H2=>⟨⟨?_,?_⟩,H2.fr⟩
  .unfold iA;rw [he];rfl
  .have:(iA l u st).2=(st.1+1,st.2):=by unfold iA;rw [he,h0];rfl
   rw [this];exact H2.get 0
 .unfold iA;rw [he];rfl
 .have:(iA l u st).2=st:=by unfold iA;rw [he,h0];rfl
  rw [this];exact H1.get 0
theorem Eh (u:BL):qg l u st=bif (iA l u st).1 then (iA l u st).2 else ((iA l u st).2.1,true):=by
 unfold qg
 generalize iA l u st=x
 obtain ⟨b,dJ⟩:=x
 cases b<;>rfl
theorem sO (hl:Fc l) (hi:st.1<l.length) (u:BL) (hu:u≠[32]):(qg l u st).1<l.length:=by
 rw [Eh]
 have:=pR hl hi u hu
 cases (iA l u st).1<;>exact this
theorem yz (H:CY pb s l st w) (hi:st.1<l.length) (pX:l.length<=1000000) (u:BL):Calls Tryz.prog cM #[.pointer (some (bD pb)),.string (ba u)] w (SA pb s w (λr _=>r=.returned (.tuple #[])) (qg l u st)):=by
 refine enthymemeref04_reader_need.ok _ _ w _ (H.yE (tU H hi pX u) ?_)
 rintro _ w1 rfl H1 _
 rw [Eh]
 refine ⟨_,rfl,eO (λhb=>H1.st 0 2 rfl λw2 H2=>⟨⟨rfl,?_⟩,H2.fr⟩) (λhb=>⟨⟨rfl,?_⟩,H1.fr⟩)⟩
 .rw [hb];exact H2.get 0
 .rw [hb];exact H1.get 0
theorem La (H:CY pb s l st w) (hi:st.1<l.length):Calls Tryz.prog gK #[.pointer (some (bD pb))] w λr w'=>r=.returned (.bool (xY l st))/\bF w w':=by
 refine enthymemeref04_reader_begins.ok _ w _ ((Lk H hi).mono ?_)
 rintro _ w1 ⟨rfl,f1⟩
 have H1:=H.ot f1
 refine ⟨_,rfl,st.2,H1.ld 0 2,?_⟩
 have e:∀u:List UInt8,((ba (nE l st)).toList==(ba u).toList)=(nE l st==u):=λu=>AL _ _
 have e0:=e []
 have e1:=e [41]
 have e2:=e [44]
 have e3:=e [124]
 have e4:=e [38]
 unfold xY
 show aH _ (aH (!((ba (nE l st)).toList==(ba []).toList)) (aH (!((ba (nE l st)).toList==(ba [41]).toList)) (aH (!((ba (nE l st)).toList==(ba [44]).toList)) (aH (!((ba (nE l st)).toList==(ba [124]).toList)) (Ending.returned (.bool (!((ba (nE l st)).toList==(ba [38]).toList)))=_/\bF w w1) _) _) _) _) _
 rw [e0,e1,e2,e3,e4]
 cases st.2<;>cases nE l st==[]<;>cases nE l st==[41]<;>cases nE l st==[44]<;>cases nE l st==[124]<;>first |exact ⟨rfl,f1⟩|skip
end
theorem BT (k:Int) (s:Sl) (l:List Rt) (w:World) (h:(eD s l).P w):Calls Tryz.prog cY #[.i k,s.v] w λr w'=>oT (eD s l).fp w (uc k (Rt.bU l)) r w'/\bF w w':=by
 have nr:=Rt.cB (fM.1 h).1
 refine enthymemeref04_group.cT _ _ w _ ((y9 h).bI λb w1 H1=>aJ (λh1=>?_) (λh1=>H1.aN λw2 H2=>⟨⟨.mk k 0 0 s l,rfl,?_,?_,λb hb=>.inr hb⟩,H2.fr⟩))
 .match l,nr with
  |[],nr=>simp at nr;omega
  |a::b::m,nr=>simp at nr;omega
  |[a],nr=>
   refine ⟨by omega,by omega,Rt.at' (fM.1 (show (eD s [a]).P w1 from H1.getD 0)).1 (i:=0) rfl λp hp c=>⟨_,_,_,_,c.c0,c.c1,c.c2,c.c3,H1.aN λw2 H2=>⟨⟨a,rfl,rfl,?_,λb hb=>.inr ?_⟩,H2.fr⟩⟩⟩
   .exact (fM.1 (show (eD s [a]).P w2 from H2.getD 0)).2.mem (by simp)
   .exact oF.2 (.inr (Rt.bC.2 ⟨a,by simp,hb⟩))
 .show Rx.mk k 0 0 (Rt.bU l)=_
  match l,nr with
  |[],nr=>rfl
  |[a],nr=>simp at nr;omega
  |a::b::m,nr=>rfl
 .have:=fM.1 (show (eD s l).P w2 from H2.getD 0)
  unfold Rt.P
  exact this
structure KS (s:Sl) (l:List jP) (n:Nat):Prop where
 expr:∀(pb:Nat) (st:ky) (w:World) (x:Rx) (dJ:ky),qJ l n st=some (x,dJ)->st.1<l.length->CY pb s l st w->Calls Tryz.prog cK #[.pointer (some (bD pb))] w (SA pb s w (λr w'=>oC w x r w'/\dJ.1<l.length) dJ)
 Vt:∀(pb:Nat) (st:ky) (w:World) (x:Rx) (dJ:ky),uV l n st=some (x,dJ)->st.1<l.length->CY pb s l st w->Calls Tryz.prog cW #[.pointer (some (bD pb))] w (SA pb s w (λr w'=>oC w x r w'/\dJ.1<l.length) dJ)
 seq:∀(pb:Nat) (st:ky) (w:World) (x:Rx) (dJ:ky),Cy l n st=some (x,dJ)->st.1<l.length->CY pb s l st w->Calls Tryz.prog dG #[.pointer (some (bD pb))] w (SA pb s w (λr w'=>oC w x r w'/\dJ.1<l.length) dJ)
 item:∀(pb:Nat) (st:ky) (w:World) (x:Rx) (dJ:ky),sJ l n st=some (x,dJ)->st.1<l.length->CY pb s l st w->Calls Tryz.prog cL #[.pointer (some (bD pb))] w (SA pb s w (λr w'=>oC w x r w'/\dJ.1<l.length) dJ)
 atom:∀(pb:Nat) (st:ky) (w:World) (x:Rx) (dJ:ky),yq l n st=some (x,dJ)->st.1<l.length->CY pb s l st w->Calls Tryz.prog fJ #[.pointer (some (bD pb))] w (SA pb s w (λr w'=>oC w x r w'/\dJ.1<l.length) dJ)
 kids:∀(pb:Nat) (st:ky) (w:World) (m:List Rx) (dJ:ky),y5 l n st=some (m,dJ)->st.1<l.length->CY pb s l st w->Calls Tryz.prog fK #[.pointer (some (bD pb))] w (SA pb s w (λr w'=>(∃(sl:Sl) (a:List Rt),r=.returned sl.v/\Rt.bU a=m/\(eD sl a).P w'/\∀b∈(eD sl a).fp,w.heap.size<=b)/\dJ.1<l.length) dJ)
theorem ye {M:Nat->Prop} {w0 w:World} {L D:List En} {pb:Nat} {s:Sl} {st:ky} (H:LH M w0 w (oY pb s st::L) D) (i:Nat) {e:En} (hi:L[i]? =some e) {b:Nat} (hb:b∈e.fp):b≠pb:=λh=>
 oX H.nd (i:=i+1) (by simpa using hi) (j:=0) rfl (by omega) b hb (FH.2 h)
theorem _root_.Go.W.LH.Dw {M:Nat->Prop} {w0 w:World} {L D:List En} (H:LH M w0 w L D) (j:Nat) {t:Rt} (hj:D[j]? =some (.tree t):=by rfl):LH M w0 w L (D++[.trees [t]]):=by
 refine H.oe _ (Fr.refl _ _) (Rt.ox λt' ht=>?_) λb hb=>.inr (.inr ?_)
 .simp at ht;subst ht;exact H.getD j hj
 .obtain ⟨t',ht,eC⟩:=Rt.bC.1 (aI.1 hb)
  simp at ht
  rw [ht] at eC
  exact ⟨_,dC hj,aI.2 eC⟩
section
variable {s:Sl} {l:List jP} {n:Nat}
theorem AY (dP:Fc l) (pX:l.length<=1000000) (ih:∀m,m<=n->KS s l m) (pb:Nat) (w:World) (x:Rx) (dJ:ky):∀(f:Nat),f<=n->∀(acc:List Rt) (sl:Sl) (b2:Nat) (w1:World) (st:ky),AH l f (Rt.bU acc) st=some (x,dJ)->st.1<l.length->acc.length+f<=1000000->(∀b∈Rt.gN acc,w.heap.size<=b)->
  LH (·=pb) w w1 [oY pb s st,.g b2,.row aA 4 sl (acc.flatMap Rt.c)] [pq s l,.trees acc]->
  enthymemeref04_reader_expr.dY (bD pb) b2 0 0 0 ⟨none,0,0⟩ sl w1 (SA pb s w (λr w'=>oC w x r w'/\dJ.1<l.length) dJ)
 |0,_=>λacc sl b2 w1 st he=>by unfold AH at he;cases he
 |f+1,hf=>λacc sl b2 w1 st he hi Gd A7 H=>by
  have ug:=Rt.cB (H.get 2:aO _ _ _ _ _).iQ
  unfold AH at he
  have fin:∀(w2:World) (kR:ky),kR.1<l.length->some (uc 4 (Rt.bU acc),kR)=some (x,dJ)->LH (·=pb) w w2 [oY pb s kR,.g b2,.row aA 4 sl (acc.flatMap Rt.c)] [pq s l,.trees acc]->
    uB [b2] cY #[.i 4,sl.v] w2 λET EU EV EW w8=>loc [b2] w8 λqW=>SA pb s w (λr w'=>oC w x r w'/\dJ.1<l.length) dJ (.returned (.agg #[.i ET,.int .u8 EU,.int .u8 EV,EW.v])) qW:=by
   intro w2 kR Cb jd H2
   simp only [Option.some.injEq,Prod.mk.injEq] at jd
   obtain ⟨rfl,rfl⟩:=jd
   have rW:∀b∈(eD sl acc).fp,w.heap.size<=b:=λb hb=>by
    rcases oF.1 hb with hb|hb
    .exact (H2.new _ (dC (i:=2) rfl) b (fQ hb)).resolve_right (ye H2 1 rfl (fQ hb))
    .exact A7 b hb
   have H3:LH (·=pb) w w2 [oY pb s kR,.g b2] [pq s l,.trees acc,Rt.row sl acc,.tree (eD sl acc)]:=H2.GO 2 1 0 0 0
   refine H3.yG (BT 4 sl acc w2 (H3.getD 3)) (λb hb=>⟨_,dC (i:=3) rfl,aI.2 hb⟩) λt w3 ht H4 ft=>?_
   refine ⟨_,_,_,t.s,rfl,H4.aN λw4 H5=>⟨⟨⟨⟨t,rfl,ht,H5.getD 4,λb hb=>?_⟩,Cb⟩,H5.get 0⟩,H5.fr⟩⟩
   rcases ft b hb with hb|hb
   .exact Nat.le_trans H3.fr.size hb
   .exact rW b hb
  have more:∀(w2:World) (kR:ky),kR.1<l.length->(match uV l f kR with
   |some (a,st)=>AH l f (Rt.bU acc++[a]) st
   |none=>none)=some (x,dJ)->LH (·=pb) w w2 [oY pb s kR,.g b2,.row aA 4 sl (acc.flatMap Rt.c)] [pq s l,.trees acc]->
    uB [b2] cW #[.pointer (some (bD pb))] w2 λEO EP ER ES w5=>eV w5 (.cells #[.i EO,.int .u8 EP,.int .u8 ER,ES.v] aA) λw6=>
     ∃(t13:Sl) (w7:World),Sem.run Tryz.prog (Builtin.append_ #[aC,aC] aC #[sl.v,.slice (some (nb w5)) 1 1]) w6=.ok (t13.v) w7/\kept [b2] w6 w7/\enthymemeref04_reader_expr.dY (bD pb) b2 0 0 0 ⟨none,0,0⟩ t13 w7 (SA pb s w (λr w'=>oC w x r w'/\dJ.1<l.length) dJ):=by
   intro w2 kR Cb jd H2
   cases hc:uV l f kR with
   |none=>rw [hc] at jd;cases jd
   |some y=>
    obtain ⟨a,lO⟩:=y
    rw [hc] at jd
    refine H2.kB ((ih f (by omega)).Vt pb kR w2 a lO hc Cb H2.xS) ?_
    rintro _ w3 ⟨⟨u,rfl,hu,pu,fu⟩,wB⟩ _ F3
    have H4:=F3 (.tree u) pu λb hb=>fu b (aI.1 hb)
    have H4:LH (·=pb) w w3 [oY pb s lO,.g b2,.row aA 4 sl (acc.flatMap Rt.c)] [pq s l,.trees acc,.tree u]:=H4
    refine ⟨_,_,_,u.s,rfl,H4.tS 2 nT (xs:=acc.flatMap Rt.c) rfl (λs' w5 H5=>?_) (by omega)⟩
    have H6:LH (·=pb) w w5 [oY pb s lO,.g b2,.row aA 4 s' ((acc++[u]).flatMap Rt.c)] [pq s l,.trees (acc++[u])]:=by
     rw [mw]
     exact (H5.zu 1 2).forget _ (by simp)
    refine AY dP pX ih pb w x dJ f (by omega) (acc++[u]) s' b2 w5 lO ?_ wB (by simp;omega) (qK A7 λb hb=>Nat.le_trans H2.fr.size (fu b hb)) H6
    rw [kg]
    have:Rt.bU [u]=[a]:=by simp [Rt.bU,hu]
    rw [this]
    exact jd
  refine enthymemeref04_reader_expr.aY _ _ _ _ _ _ _ _ _ (H.kB (tU H.xS hi pX [124]) ?_)
  have ht:=pR dP hi [124] (by decide)
  rintro _ w2 rfl H2 _
  refine ⟨_,rfl,?_⟩
  cases hq:iA l [124] st with
  |mk q kR=>
   rw [hq] at he H2 ht
   cases q with
   |true=>exact more w2 kR ht he H2
   |false=>exact fin w2 kR ht he H2
theorem Jn (dP:Fc l) (pX:l.length<=1000000) (hn:n<=100000) (ih:∀m,m<=n->KS s l m) (pb:Nat) (st:ky) (w:World) (x:Rx) (dJ:ky) (he:qJ l (n+1) st=some (x,dJ)) (hi:st.1<l.length) (H:CY pb s l st w):
  Calls Tryz.prog cK #[.pointer (some (bD pb))] w (SA pb s w (λr w'=>oC w x r w'/\dJ.1<l.length) dJ):=by
 unfold qJ at he
 cases hc:uV l n st with
 |none=>rw [hc] at he;cases he
 |some y=>
  obtain ⟨a,lO⟩:=y
  rw [hc] at he
  refine enthymemeref04_reader_expr.cT _ w _ (H.bI λb2 w1 H1=>?_)
  have H1:LH (·=pb) w w1 [oY pb s st,.g b2] [pq s l]:=H1
  refine H1.kB ((ih n (Nat.le_refl _)).Vt pb st w1 a lO hc hi H1.xS) ?_
  rintro _ w3 ⟨⟨u,rfl,hu,pu,fu⟩,wB⟩ _ F3
  have H4:=F3 (.tree u) pu λb hb=>fu b (aI.1 hb)
  have H4:LH (·=pb) w w3 [oY pb s lO,.g b2] [pq s l,.tree u]:=H4
  refine ⟨_,_,_,u.s,rfl,H4.gZ (n:=1) (sz:=4) (cs:=u.c) rfl (by decide) λw4 H5=>?_⟩
  have H6:LH (·=pb) w w4 [oY pb s lO,.g b2,.row aA 4 ⟨some (bD w3.heap.size),1,1⟩ ([u].flatMap Rt.c)] [pq s l,.trees [u]]:=by
   have e:[u].flatMap Rt.c=u.c:=by simp
   rw [e]
   exact (H5.Dw 1).forget _ (by simp)
  refine AY dP pX ih pb w x dJ n (Nat.le_refl _) [u] _ b2 w4 lO ?_ wB (by simp;omega) (λb hb=>?_) H6
  .have:Rt.bU [u]=[a]:=by simp [Rt.bU,hu]
   rw [this]
   exact he
  .obtain ⟨t,ht,hb⟩:=Rt.bC.1 hb
   simp at ht
   rw [ht] at hb
   exact Nat.le_trans H1.fr.size (fu b hb)
theorem AV (dP:Fc l) (pX:l.length<=1000000) (ih:∀m,m<=n->KS s l m) (pb:Nat) (w:World) (x:Rx) (dJ:ky):∀(f:Nat),f<=n->∀(acc:List Rt) (sl:Sl) (b2:Nat) (w1:World) (st:ky),AI l f (Rt.bU acc) st=some (x,dJ)->st.1<l.length->acc.length+f<=1000000->(∀b∈Rt.gN acc,w.heap.size<=b)->
  LH (·=pb) w w1 [oY pb s st,.g b2,.row aA 4 sl (acc.flatMap Rt.c)] [pq s l,.trees acc]->
  enthymemeref04_reader_conj.dY (bD pb) b2 0 0 0 ⟨none,0,0⟩ sl w1 (SA pb s w (λr w'=>oC w x r w'/\dJ.1<l.length) dJ)
 |0,_=>λacc sl b2 w1 st he=>by unfold AI at he;cases he
 |f+1,hf=>λacc sl b2 w1 st he hi Gd A7 H=>by
  have ug:=Rt.cB (H.get 2:aO _ _ _ _ _).iQ
  unfold AI at he
  have fin:∀(w2:World) (kR:ky),kR.1<l.length->some (uc 5 (Rt.bU acc),kR)=some (x,dJ)->LH (·=pb) w w2 [oY pb s kR,.g b2,.row aA 4 sl (acc.flatMap Rt.c)] [pq s l,.trees acc]->
    uB [b2] cY #[.i 5,sl.v] w2 λET EU EV EW w8=>loc [b2] w8 λqW=>SA pb s w (λr w'=>oC w x r w'/\dJ.1<l.length) dJ (.returned (.agg #[.i ET,.int .u8 EU,.int .u8 EV,EW.v])) qW:=by
   intro w2 kR Cb jd H2
   simp only [Option.some.injEq,Prod.mk.injEq] at jd
   obtain ⟨rfl,rfl⟩:=jd
   have rW:∀b∈(eD sl acc).fp,w.heap.size<=b:=λb hb=>by
    rcases oF.1 hb with hb|hb
    .exact (H2.new _ (dC (i:=2) rfl) b (fQ hb)).resolve_right (ye H2 1 rfl (fQ hb))
    .exact A7 b hb
   have H3:LH (·=pb) w w2 [oY pb s kR,.g b2] [pq s l,.trees acc,Rt.row sl acc,.tree (eD sl acc)]:=H2.GO 2 1 0 0 0
   refine H3.yG (BT 5 sl acc w2 (H3.getD 3)) (λb hb=>⟨_,dC (i:=3) rfl,aI.2 hb⟩) λt w3 ht H4 ft=>?_
   refine ⟨_,_,_,t.s,rfl,H4.aN λw4 H5=>⟨⟨⟨⟨t,rfl,ht,H5.getD 4,λb hb=>?_⟩,Cb⟩,H5.get 0⟩,H5.fr⟩⟩
   rcases ft b hb with hb|hb
   .exact Nat.le_trans H3.fr.size hb
   .exact rW b hb
  have more:∀(w2:World) (kR:ky),kR.1<l.length->(match Cy l f kR with
   |some (a,st)=>AI l f (Rt.bU acc++[a]) st
   |none=>none)=some (x,dJ)->LH (·=pb) w w2 [oY pb s kR,.g b2,.row aA 4 sl (acc.flatMap Rt.c)] [pq s l,.trees acc]->
    uB [b2] dG #[.pointer (some (bD pb))] w2 λEO EP ER ES w5=>eV w5 (.cells #[.i EO,.int .u8 EP,.int .u8 ER,ES.v] aA) λw6=>
     ∃(t13:Sl) (w7:World),Sem.run Tryz.prog (Builtin.append_ #[aC,aC] aC #[sl.v,.slice (some (nb w5)) 1 1]) w6=.ok (t13.v) w7/\kept [b2] w6 w7/\enthymemeref04_reader_conj.dY (bD pb) b2 0 0 0 ⟨none,0,0⟩ t13 w7 (SA pb s w (λr w'=>oC w x r w'/\dJ.1<l.length) dJ):=by
   intro w2 kR Cb jd H2
   cases hc:Cy l f kR with
   |none=>rw [hc] at jd;cases jd
   |some y=>
    obtain ⟨a,lO⟩:=y
    rw [hc] at jd
    refine H2.kB ((ih f (by omega)).seq pb kR w2 a lO hc Cb H2.xS) ?_
    rintro _ w3 ⟨⟨u,rfl,hu,pu,fu⟩,wB⟩ _ F3
    have H4:=F3 (.tree u) pu λb hb=>fu b (aI.1 hb)
    have H4:LH (·=pb) w w3 [oY pb s lO,.g b2,.row aA 4 sl (acc.flatMap Rt.c)] [pq s l,.trees acc,.tree u]:=H4
    refine ⟨_,_,_,u.s,rfl,H4.tS 2 nT (xs:=acc.flatMap Rt.c) rfl (λs' w5 H5=>?_) (by omega)⟩
    have H6:LH (·=pb) w w5 [oY pb s lO,.g b2,.row aA 4 s' ((acc++[u]).flatMap Rt.c)] [pq s l,.trees (acc++[u])]:=by
     rw [mw]
     exact (H5.zu 1 2).forget _ (by simp)
    refine AV dP pX ih pb w x dJ f (by omega) (acc++[u]) s' b2 w5 lO ?_ wB (by simp;omega) (qK A7 λb hb=>Nat.le_trans H2.fr.size (fu b hb)) H6
    rw [kg]
    have:Rt.bU [u]=[a]:=by simp [Rt.bU,hu]
    rw [this]
    exact jd
  refine enthymemeref04_reader_conj.aY _ _ _ _ _ _ _ _ _ (H.kB (tU H.xS hi pX [38]) ?_)
  have ht:=pR dP hi [38] (by decide)
  rintro _ w2 rfl H2 _
  refine ⟨_,rfl,?_⟩
  cases hq:iA l [38] st with
  |mk q kR=>
   rw [hq] at he H2 ht
   cases q with
   |true=>exact more w2 kR ht he H2
   |false=>exact fin w2 kR ht he H2
theorem Jj (dP:Fc l) (pX:l.length<=1000000) (hn:n<=100000) (ih:∀m,m<=n->KS s l m) (pb:Nat) (st:ky) (w:World) (x:Rx) (dJ:ky) (he:uV l (n+1) st=some (x,dJ)) (hi:st.1<l.length) (H:CY pb s l st w):
  Calls Tryz.prog cW #[.pointer (some (bD pb))] w (SA pb s w (λr w'=>oC w x r w'/\dJ.1<l.length) dJ):=by
 unfold uV at he
 cases hc:Cy l n st with
 |none=>rw [hc] at he;cases he
 |some y=>
  obtain ⟨a,lO⟩:=y
  rw [hc] at he
  refine enthymemeref04_reader_conj.cT _ w _ (H.bI λb2 w1 H1=>?_)
  have H1:LH (·=pb) w w1 [oY pb s st,.g b2] [pq s l]:=H1
  refine H1.kB ((ih n (Nat.le_refl _)).seq pb st w1 a lO hc hi H1.xS) ?_
  rintro _ w3 ⟨⟨u,rfl,hu,pu,fu⟩,wB⟩ _ F3
  have H4:=F3 (.tree u) pu λb hb=>fu b (aI.1 hb)
  have H4:LH (·=pb) w w3 [oY pb s lO,.g b2] [pq s l,.tree u]:=H4
  refine ⟨_,_,_,u.s,rfl,H4.gZ (n:=1) (sz:=4) (cs:=u.c) rfl (by decide) λw4 H5=>?_⟩
  have H6:LH (·=pb) w w4 [oY pb s lO,.g b2,.row aA 4 ⟨some (bD w3.heap.size),1,1⟩ ([u].flatMap Rt.c)] [pq s l,.trees [u]]:=by
   have e:[u].flatMap Rt.c=u.c:=by simp
   rw [e]
   exact (H5.Dw 1).forget _ (by simp)
  refine AV dP pX ih pb w x dJ n (Nat.le_refl _) [u] _ b2 w4 lO ?_ wB (by simp;omega) (λb hb=>?_) H6
  .have:Rt.bU [u]=[a]:=by simp [Rt.bU,hu]
   rw [this]
   exact he
  .obtain ⟨t,ht,hb⟩:=Rt.bC.1 hb
   simp at ht
   rw [ht] at hb
   exact Nat.le_trans H1.fr.size (fu b hb)
theorem EF (dP:Fc l) (pX:l.length<=1000000) (ih:∀m,m<=n->KS s l m) (pb:Nat) (w:World) (x:Rx) (dJ:ky):∀(f:Nat),f<=n->∀(acc:List Rt) (sl:Sl) (b2:Nat) (w1:World) (st:ky),wF l f (Rt.bU acc) st=some (x,dJ)->st.1<l.length->acc.length+f<=1000000->(∀b∈Rt.gN acc,w.heap.size<=b)->
  LH (·=pb) w w1 [oY pb s st,.g b2,.row aA 4 sl (acc.flatMap Rt.c)] [pq s l,.trees acc]->
  enthymemeref04_reader_seq.dY (bD pb) b2 0 0 0 ⟨none,0,0⟩ sl w1 (SA pb s w (λr w'=>oC w x r w'/\dJ.1<l.length) dJ)
 |0,_=>λacc sl b2 w1 st he=>by unfold wF at he;cases he
 |f+1,hf=>λacc sl b2 w1 st he hi Gd A7 H=>by
  have ug:=Rt.cB (H.get 2:aO _ _ _ _ _).iQ
  unfold wF at he
  have fin:∀(w2:World) (kR:ky),kR.1<l.length->some (uc 3 (Rt.bU acc),kR)=some (x,dJ)->LH (·=pb) w w2 [oY pb s kR,.g b2,.row aA 4 sl (acc.flatMap Rt.c)] [pq s l,.trees acc]->
    uB [b2] cY #[.i 3,sl.v] w2 λET EU EV EW w8=>loc [b2] w8 λqW=>SA pb s w (λr w'=>oC w x r w'/\dJ.1<l.length) dJ (.returned (.agg #[.i ET,.int .u8 EU,.int .u8 EV,EW.v])) qW:=by
   intro w2 kR Cb jd H2
   simp only [Option.some.injEq,Prod.mk.injEq] at jd
   obtain ⟨rfl,rfl⟩:=jd
   have rW:∀b∈(eD sl acc).fp,w.heap.size<=b:=λb hb=>by
    rcases oF.1 hb with hb|hb
    .exact (H2.new _ (dC (i:=2) rfl) b (fQ hb)).resolve_right (ye H2 1 rfl (fQ hb))
    .exact A7 b hb
   have H3:LH (·=pb) w w2 [oY pb s kR,.g b2] [pq s l,.trees acc,Rt.row sl acc,.tree (eD sl acc)]:=H2.GO 2 1 0 0 0
   refine H3.yG (BT 3 sl acc w2 (H3.getD 3)) (λb hb=>⟨_,dC (i:=3) rfl,aI.2 hb⟩) λt w3 ht H4 ft=>?_
   refine ⟨_,_,_,t.s,rfl,H4.aN λw4 H5=>⟨⟨⟨⟨t,rfl,ht,H5.getD 4,λb hb=>?_⟩,Cb⟩,H5.get 0⟩,H5.fr⟩⟩
   rcases ft b hb with hb|hb
   .exact Nat.le_trans H3.fr.size hb
   .exact rW b hb
  have more:∀(w2:World) (kR:ky),kR.1<l.length->(match sJ l f kR with
   |some (a,st)=>wF l f (Rt.bU acc++[a]) st
   |none=>none)=some (x,dJ)->LH (·=pb) w w2 [oY pb s kR,.g b2,.row aA 4 sl (acc.flatMap Rt.c)] [pq s l,.trees acc]->
    uB [b2] cL #[.pointer (some (bD pb))] w2 λEO EP ER ES w5=>eV w5 (.cells #[.i EO,.int .u8 EP,.int .u8 ER,ES.v] aA) λw6=>
     ∃(t13:Sl) (w7:World),Sem.run Tryz.prog (Builtin.append_ #[aC,aC] aC #[sl.v,.slice (some (nb w5)) 1 1]) w6=.ok (t13.v) w7/\kept [b2] w6 w7/\enthymemeref04_reader_seq.dY (bD pb) b2 0 0 0 ⟨none,0,0⟩ t13 w7 (SA pb s w (λr w'=>oC w x r w'/\dJ.1<l.length) dJ):=by
   intro w2 kR Cb jd H2
   cases hc:sJ l f kR with
   |none=>rw [hc] at jd;cases jd
   |some y=>
    obtain ⟨a,lO⟩:=y
    rw [hc] at jd
    refine H2.kB ((ih f (by omega)).item pb kR w2 a lO hc Cb H2.xS) ?_
    rintro _ w3 ⟨⟨u,rfl,hu,pu,fu⟩,wB⟩ _ F3
    have H4:=F3 (.tree u) pu λb hb=>fu b (aI.1 hb)
    have H4:LH (·=pb) w w3 [oY pb s lO,.g b2,.row aA 4 sl (acc.flatMap Rt.c)] [pq s l,.trees acc,.tree u]:=H4
    refine ⟨_,_,_,u.s,rfl,H4.tS 2 nT (xs:=acc.flatMap Rt.c) rfl (λs' w5 H5=>?_) (by omega)⟩
    have H6:LH (·=pb) w w5 [oY pb s lO,.g b2,.row aA 4 s' ((acc++[u]).flatMap Rt.c)] [pq s l,.trees (acc++[u])]:=by
     rw [mw]
     exact (H5.zu 1 2).forget _ (by simp)
    refine EF dP pX ih pb w x dJ f (by omega) (acc++[u]) s' b2 w5 lO ?_ wB (by simp;omega) (qK A7 λb hb=>Nat.le_trans H2.fr.size (fu b hb)) H6
    rw [kg]
    have:Rt.bU [u]=[a]:=by simp [Rt.bU,hu]
    rw [this]
    exact jd
  refine enthymemeref04_reader_seq.aY _ _ _ _ _ _ _ _ _ (H.aL (La H.xS hi) ?_)
  rintro _ w2 rfl H2
  refine ⟨_,rfl,?_⟩
  cases hq:xY l st with
  |true=>rw [hq] at he;exact more w2 st hi he H2
  |false=>rw [hq] at he;exact fin w2 st hi he H2
theorem Na (dP:Fc l) (pX:l.length<=1000000) (hn:n<=100000) (ih:∀m,m<=n->KS s l m) (pb:Nat) (st:ky) (w:World) (x:Rx) (dJ:ky) (he:Cy l (n+1) st=some (x,dJ)) (hi:st.1<l.length) (H:CY pb s l st w):
  Calls Tryz.prog dG #[.pointer (some (bD pb))] w (SA pb s w (λr w'=>oC w x r w'/\dJ.1<l.length) dJ):=by
 unfold Cy at he
 cases hc:sJ l n st with
 |none=>rw [hc] at he;cases he
 |some y=>
  obtain ⟨a,lO⟩:=y
  rw [hc] at he
  refine enthymemeref04_reader_seq.cT _ w _ (H.bI λb2 w1 H1=>?_)
  have H1:LH (·=pb) w w1 [oY pb s st,.g b2] [pq s l]:=H1
  refine H1.kB ((ih n (Nat.le_refl _)).item pb st w1 a lO hc hi H1.xS) ?_
  rintro _ w3 ⟨⟨u,rfl,hu,pu,fu⟩,wB⟩ _ F3
  have H4:=F3 (.tree u) pu λb hb=>fu b (aI.1 hb)
  have H4:LH (·=pb) w w3 [oY pb s lO,.g b2] [pq s l,.tree u]:=H4
  refine ⟨_,_,_,u.s,rfl,H4.gZ (n:=1) (sz:=4) (cs:=u.c) rfl (by decide) λw4 H5=>?_⟩
  have H6:LH (·=pb) w w4 [oY pb s lO,.g b2,.row aA 4 ⟨some (bD w3.heap.size),1,1⟩ ([u].flatMap Rt.c)] [pq s l,.trees [u]]:=by
   have e:[u].flatMap Rt.c=u.c:=by simp
   rw [e]
   exact (H5.Dw 1).forget _ (by simp)
  refine EF dP pX ih pb w x dJ n (Nat.le_refl _) [u] _ b2 w4 lO ?_ wB (by simp;omega) (λb hb=>?_) H6
  .have:Rt.bU [u]=[a]:=by simp [Rt.bU,hu]
   rw [this]
   exact he
  .obtain ⟨t,ht,hb⟩:=Rt.bC.1 hb
   simp at ht
   rw [ht] at hb
   exact Nat.le_trans H1.fr.size (fu b hb)
end
theorem _root_.Go.W.LH.stq {M:Nat->Prop} {w0 w:World} {L D:List En} {bs:List Nat} (H:LH M w0 w L D) (i j:Nat) {b:Nat} {vs:List Value} {T:TypeId} {v:Value} {K:World->Prop} (hi:L[i]? =some (.c b vs T)) (hK:∀w',LH M w0 w' (L.set i (.c b (vs.set j v) T)) D->K w') (hj:j<vs.length:=by simp) (jS:∀b∈bs,En.g b∈L:=by simp):bR w ((bD b).add j) v λw1=>kept bs w w1/\K w1:=by
 obtain ⟨x1,x2,x3⟩:=H.set (v:=v) i j hi hj
 obtain ⟨_,_,_,x4⟩:=IE (H.ob i hi) j (by simpa using hj) v
 refine ⟨x1,x2,λb' hb=>?_,hK _ x3⟩
 refine x4.gV b' (H.own _ (jS b' hb)) λhm=>nU H hi (Hu w b vs T) (jS b' hb) ?_
 rw [hm];exact FH.2 rfl
theorem _root_.Go.W.LH.one {M:Nat->Prop} {w0 w:World} {L D:List En} (H:LH M w0 w L D) (i j:Nat) {e:TypeId} {sl:Sl} {u:Rt} (k:Int) (lo hi:UInt8) (vX:L[i]? =some (.row e 4 sl u.c):=by rfl) (hj:D[j]? =some (.tree u):=by rfl):LH M w0 w (L.eraseIdx i) (D++[.tree (.mk k lo hi sl [u])]):=by
 have H1:=H.Dw j hj
 have e:[u].flatMap Rt.c=u.c:=by simp
 have H2:=H1.GO i D.length k lo hi (s:=sl) (ts:=[u]) (by rw [e];exact vX) (by simp)
 exact H2.forget _ (λd hd=>by
  simp only [fW,cU,qnM,or_false] at hd ⊢
  rcases hd with hd|hd
  .exact .inl (.inl (.inl hd))
  .exact .inr hd)
theorem Cn {w:World} {sl:Sl} {u:Rt} {k:Int} {lo hi:UInt8} (h1:∀b∈bA sl,w.heap.size<=b) (h2:∀b∈u.fp,w.heap.size<=b):∀b∈(Rt.mk k lo hi sl [u]).fp,w.heap.size<=b:=λb hb=>by
 unfold Rt.fp at hb
 rcases fW.1 hb with hb|hb
 .exact Cq h1 b hb
 .obtain ⟨t,ht,hb⟩:=Rt.bC.1 hb
  simp at ht
  rw [ht] at hb
  exact h2 b hb
section
variable {s:Sl} {l:List jP} {n:Nat}
theorem Be (dP:Fc l) (pX:l.length<=1000000) (pb:Nat) (w:World) (x:Rx) (dJ:ky):∀(f:Nat) (u:Rt) (b2 b4:Nat) (w1:World) (st:ky),zA l f u.rx st=some (x,dJ)->st.1<l.length->(∀b∈u.fp,w.heap.size<=b)->
  LH (·=pb) w w1 [oY pb s st,.g b2,.g b4] [pq s l,.tree u]->
  enthymemeref04_reader_item.dY (bD pb) b2 0 0 0 ⟨none,0,0⟩ b4 u.k (u.lo.toNat:Int) (u.hi.toNat:Int) u.s w1 (SA pb s w (λr w'=>oC w x r w'/\dJ.1<l.length) dJ)
 |0,u,b2,b4,w1,st,he,_,_,_=>by unfold zA at he;cases he
 |f+1,u,b2,b4,w1,st,he,hi,A7,H=>by
  unfold zA at he
  refine enthymemeref04_reader_item.aY _ _ _ _ _ _ _ _ _ _ _ _ _ (H.kB (tU H.xS hi pX [42]) ?_)
  have ht:=pR dP hi [42] (by decide)
  rintro _ w2 rfl H2 _
  refine ⟨_,rfl,?_⟩
  cases hq:iA l [42] st with
  |mk q kR=>
   rw [hq] at he H2 ht
   cases q with
   |true=>
    dsimp only at he ht
    refine aS rfl ?_
    refine H2.gZ (n:=1) (sz:=4) (cs:=u.c) rfl (by decide) λw3 H3=>H3.aN λw4 H4=>?_
    have H5:LH (·=pb) w w4 [oY pb s kR,.g b2,.g b4] [pq s l,.tree (.mk 7 0 0 ⟨some (bD w2.heap.size),1,1⟩ [u])]:=(H4.one 3 1 7 0 0).forget _ (by simp)
    refine Be dP pX pb w x dJ f (.mk 7 0 0 ⟨some (bD w2.heap.size),1,1⟩ [u]) b2 b4 w4 kR he ht (Cn (λb hb=>?_) A7) H5
    simp only [bA,cU,qnM,or_false] at hb
    rw [hb];exact H2.fr.size
   |false=>
    dsimp only at he ht
    simp only [Option.some.injEq,Prod.mk.injEq] at he
    obtain ⟨he,rfl⟩:=he
    refine aM rfl ?_
    exact H2.aN λw3 H3=>⟨⟨⟨⟨u,rfl,he,H3.getD 1,A7⟩,ht⟩,H3.get 0⟩,H3.fr⟩
theorem JN (dP:Fc l) (pX:l.length<=1000000) (ih:KS s l n) (pb:Nat) (st:ky) (w:World) (x:Rx) (dJ:ky) (he:sJ l (n+1) st=some (x,dJ)) (hi:st.1<l.length) (H:CY pb s l st w):
  Calls Tryz.prog cL #[.pointer (some (bD pb))] w (SA pb s w (λr w'=>oC w x r w'/\dJ.1<l.length) dJ):=by
 unfold sJ at he
 refine enthymemeref04_reader_item.cT _ w _ (H.bI λb2 w1 H1=>?_)
 have H1:LH (·=pb) w w1 [oY pb s st,.g b2] [pq s l]:=H1
 refine H1.kB (tU H1.xS hi pX [33]) ?_
 have ht:=pR dP hi [33] (by decide)
 rintro _ w2 rfl H2 _
 refine ⟨_,rfl,?_⟩
 cases hq:iA l [33] st with
 |mk q kR=>
  rw [hq] at he H2 ht
  cases q with
  |true=>
   dsimp only at he ht
   cases hc:sJ l n kR with
   |none=>rw [hc] at he;cases he
   |some y=>
    obtain ⟨a,lO⟩:=y
    rw [hc] at he
    simp only [Option.some.injEq,Prod.mk.injEq] at he
    obtain ⟨he,rfl⟩:=he
    refine aS rfl ?_
    refine H2.kB (ih.item pb kR w2 a lO hc ht H2.xS) ?_
    rintro _ w3 ⟨⟨u,rfl,hu,pu,fu⟩,wB⟩ _ F3
    have H3:=F3 (.tree u) pu λb hb=>fu b (aI.1 hb)
    refine ⟨_,_,_,u.s,rfl,H3.gZ (n:=1) (sz:=4) (cs:=u.c) rfl (by decide) λw4 H4=>H4.aN λw5 H5=>?_⟩
    have H6:LH (·=pb) w w5 [oY pb s lO,.g b2] [pq s l,.tree (.mk 6 0 0 ⟨some (bD w3.heap.size),1,1⟩ [u])]:=(H5.one 2 1 6 0 0).forget _ (by simp)
    refine ⟨⟨⟨⟨.mk 6 0 0 ⟨some (bD w3.heap.size),1,1⟩ [u],rfl,?_,H6.getD 1,Cn (λb hb=>?_) (λb hb=>Nat.le_trans H2.fr.size (fu b hb))⟩,wB⟩,H6.get 0⟩,H6.fr⟩
    .rw [<-he,<-hu];rfl
    .simp only [bA,cU,qnM,or_false] at hb
     rw [hb];exact H3.fr.size
  |false=>
   dsimp only at he ht
   cases hc:yq l n kR with
   |none=>rw [hc] at he;cases he
   |some y=>
    obtain ⟨a,lO⟩:=y
    rw [hc] at he
    refine aM rfl ?_
    refine H2.kB (ih.atom pb kR w2 a lO hc ht H2.xS) ?_
    rintro _ w3 ⟨⟨u,rfl,hu,pu,fu⟩,wB⟩ _ F3
    have H3:=F3 (.tree u) pu λb hb=>fu b (aI.1 hb)
    refine ⟨_,_,_,u.s,rfl,H3.bI λb4 w4 H4=>H4.aN λw5 H5=>?_⟩
    exact Be dP pX pb w x dJ n u b2 b4 w5 lO (by rw [hu];exact he) wB (λb hb=>Nat.le_trans H2.fr.size (fu b hb)) H5
theorem Bh (dP:Fc l) (pX:l.length<=1000000) (ih:∀m,m<=n->KS s l m) (pb:Nat) (w:World) (m:List Rx) (dJ:ky):∀(f:Nat),f<=n->∀(acc:List Rt) (sl:Sl) (w1:World) (st:ky),Eg l f (Rt.bU acc) st=some (m,dJ)->st.1<l.length->acc.length+f<=1000000->(∀b∈Rt.gN acc,w.heap.size<=b)->
  LH (·=pb) w w1 [oY pb s st,.row aA 4 sl (acc.flatMap Rt.c)] [pq s l,.trees acc]->
  enthymemeref04_reader_kids.L1 (bD pb) sl w1 (SA pb s w (λr w'=>(∃(sl:Sl) (a:List Rt),r=.returned sl.v/\Rt.bU a=m/\(eD sl a).P w'/\∀b∈(eD sl a).fp,w.heap.size<=b)/\dJ.1<l.length) dJ)
 |0,_=>λacc sl w1 st he=>by unfold Eg at he;cases he
 |f+1,hf=>λacc sl w1 st he hi Gd A7 H=>by
  have ug:=Rt.cB (H.get 1:aO _ _ _ _ _).iQ
  unfold Eg at he
  refine enthymemeref04_reader_kids.lE _ _ _ _ (H.yE (tU H.xS hi pX [44]) ?_)
  have ht:=pR dP hi [44] (by decide)
  rintro _ w2 rfl H2 _
  refine ⟨_,rfl,?_⟩
  cases hq:iA l [44] st with
  |mk q kR=>
   rw [hq] at he H2 ht
   cases q with
   |true=>
    dsimp only at he ht
    cases hc:qJ l f kR with
    |none=>rw [hc] at he;cases he
    |some y=>
     obtain ⟨a,lO⟩:=y
     rw [hc] at he
     refine aS rfl ?_
     refine H2.yE ((ih f (by omega)).expr pb kR w2 a lO hc ht H2.xS) ?_
     rintro _ w3 ⟨⟨u,rfl,hu,pu,fu⟩,wB⟩ _ F3
     have H4:=F3 (.tree u) pu λb hb=>fu b (aI.1 hb)
     have H4:LH (·=pb) w w3 [oY pb s lO,.row aA 4 sl (acc.flatMap Rt.c)] [pq s l,.trees acc,.tree u]:=H4
     refine ⟨_,_,_,u.s,rfl,H4.Xn 1 nT (xs:=acc.flatMap Rt.c) rfl (λs' w5 H5 _ _=>?_) (by omega)⟩
     have H6:LH (·=pb) w w5 [oY pb s lO,.row aA 4 s' ((acc++[u]).flatMap Rt.c)] [pq s l,.trees (acc++[u])]:=by
      rw [mw]
      exact (H5.zu 1 2).forget _ (by simp)
     refine Bh dP pX ih pb w m dJ f (by omega) (acc++[u]) s' w5 lO ?_ wB (by simp;omega) (qK A7 λb hb=>Nat.le_trans H2.fr.size (fu b hb)) H6
     rw [kg]
     have:Rt.bU [u]=[a]:=by simp [Rt.bU,hu]
     rw [this]
     exact he
   |false=>
    dsimp only at he ht
    simp only [Option.some.injEq,Prod.mk.injEq] at he
    obtain ⟨rfl,rfl⟩:=he
    refine aM rfl ?_
    refine H2.yE (yz H2.xS ht pX [41]) ?_
    rintro _ w3 rfl H3 _
    refine ⟨rfl,⟨⟨⟨sl,acc,rfl,rfl,fM.2 ⟨(H3.get 1:aO _ _ _ _ _).iQ,H3.getD 1⟩,λb hb=>?_⟩,sO dP ht [41] (by decide)⟩,H3.get 0⟩,H3.fr⟩
    rcases oF.1 hb with hb|hb
    .exact (H3.new _ (dC (i:=1) rfl) b (fQ hb)).resolve_right (ye H3 0 rfl (fQ hb))
    .exact A7 b hb
theorem JO (dP:Fc l) (pX:l.length<=1000000) (hn:n<=100000) (ih:∀m,m<=n->KS s l m) (pb:Nat) (st:ky) (w:World) (m:List Rx) (dJ:ky) (he:y5 l (n+1) st=some (m,dJ)) (hi:st.1<l.length) (H:CY pb s l st w):
  Calls Tryz.prog fK #[.pointer (some (bD pb))] w (SA pb s w (λr w'=>(∃(sl:Sl) (a:List Rt),r=.returned sl.v/\Rt.bU a=m/\(eD sl a).P w'/\∀b∈(eD sl a).fp,w.heap.size<=b)/\dJ.1<l.length) dJ):=by
 unfold y5 at he
 refine enthymemeref04_reader_kids.ok _ w _ (H.yE (yz H hi pX [40]) ?_)
 have A9:=sO dP hi [40] (by decide)
 rintro _ w1 rfl H1 _
 refine ⟨rfl,H1.yE (tU H1.xS A9 pX [41]) ?_⟩
 have ht:=pR dP A9 [41] (by decide)
 rintro _ w2 rfl H2 _
 cases hq:iA l [41] (qg l [40] st) with
 |mk q kR=>
  rw [hq] at he H2 ht
  have none_:some (([]:List Rx),kR)=some (m,dJ)->enthymemeref04_reader_kids.S0 w2 (SA pb s w (λr w'=>(∃(sl:Sl) (a:List Rt),r=.returned sl.v/\Rt.bU a=m/\(eD sl a).P w'/\∀b∈(eD sl a).fp,w.heap.size<=b)/\dJ.1<l.length) dJ):=by
   intro he
   simp only [Option.some.injEq,Prod.mk.injEq] at he
   obtain ⟨rfl,rfl⟩:=he
   refine ⟨⟨⟨⟨⟨none,0,0⟩,[],rfl,rfl,fM.2 ⟨jJ.nil 4 w2,by unfold Rt.Ps;trivial⟩,λb hb=>?_⟩,ht⟩,H2.get 0⟩,H2.fr⟩
   rcases oF.1 hb with hb|hb
   .simp [Rt.row,En.iQ] at hb
   .unfold Rt.gN at hb;cases hb
  refine ⟨_,rfl,kR.2,H2.ld 0 2,bB (λhb=>none_ (by simpa [hb] using he)) (λhb=>bB (λJF=>none_ (by
   have JF:q=true:=JF
   simpa [JF] using he)) (λJF=>?_))⟩
  have JF:q=false:=JF
  simp only [hb,JF,Bool.or_false,cond_false] at he
  cases hc:qJ l n kR with
  |none=>rw [hc] at he;cases he
  |some y=>
   obtain ⟨a,lO⟩:=y
   rw [hc] at he
   refine H2.yE ((ih n (Nat.le_refl _)).expr pb kR w2 a lO hc ht H2.xS) ?_
   rintro _ w3 ⟨⟨u,rfl,hu,pu,fu⟩,wB⟩ _ F3
   have H4:=F3 (.tree u) pu λb hb=>fu b (aI.1 hb)
   refine ⟨_,_,_,u.s,rfl,H4.gZ (n:=1) (sz:=4) (cs:=u.c) rfl (by decide) λw4 H5=>?_⟩
   have H6:LH (·=pb) w w4 [oY pb s lO,.row aA 4 ⟨some (bD w3.heap.size),1,1⟩ ([u].flatMap Rt.c)] [pq s l,.trees [u]]:=by
    have e:[u].flatMap Rt.c=u.c:=by simp
    rw [e]
    exact (H5.Dw 1).forget _ (by simp)
   refine Bh dP pX ih pb w m dJ n (Nat.le_refl _) [u] _ w4 lO ?_ wB (by simp;omega) (λb hb=>?_) H6
   .have:Rt.bU [u]=[a]:=by simp [Rt.bU,hu]
    rw [this]
    exact he
   .obtain ⟨t,ht,hb⟩:=Rt.bC.1 hb
    simp at ht
    rw [ht] at hb
    exact Nat.le_trans H2.fr.size (fu b hb)
end
def xg:List Value:=[.string (ba (s8 0)),.string (ba (s8 1)),.string (ba (s8 2)),.string (ba (s8 3)),.string (ba (s8 4)),.string (ba (s8 5))]
theorem BD {k:Nat} (h:k<6):xg[k]? =some (.string (ba (s8 k))):=by
 have:k=0\/k=1\/k=2\/k=3\/k=4\/k=5:=by omega
 rcases this with rfl|rfl|rfl|rfl|rfl|rfl<;>rfl
theorem E8 {k:Nat} (h:k<6) (h2:k≠2):s8 k≠[]/\s8 k≠[32]:=by
 have:k=0\/k=1\/k=2\/k=3\/k=4\/k=5:=by omega
 rcases this with rfl|rfl|rfl|rfl|rfl|rfl<;>first |exact absurd rfl h2|exact ⟨by decide,by decide⟩
def sK (k:Int) (lo hi:UInt8):Rt:=.mk k lo hi ⟨none,0,0⟩ []
theorem uf (k:Int) (lo hi:UInt8) (w:World):(sK k lo hi).P w:=by
 unfold sK Rt.P Rt.Ps
 exact ⟨jJ.nil 4 w,trivial⟩
theorem rj {k:Int} {lo hi:UInt8} {b:Nat}:¬b∈(sK k lo hi).fp:=λh=>by
 unfold sK Rt.fp Rt.gN at h
 rcases fW.1 h with h|h
 .simp [Rt.row,En.iQ] at h
 .cases h
section
variable {s:Sl} {l:List jP} {n:Nat}
theorem I9 (dP:Fc l) (pX:l.length<=1000000) (ih:KS s l n) (pb:Nat) (st:ky) (w:World) (x:Rx) (dJ:ky) (he:yq l (n+1) st=some (x,dJ)) (hi:st.1<l.length) (H:CY pb s l st w):
  Calls Tryz.prog fJ #[.pointer (some (bD pb))] w (SA pb s w (λr w'=>oC w x r w'/\dJ.1<l.length) dJ):=by
 let R:aD:=SA pb s w (λr w'=>oC w x r w'/\dJ.1<l.length) dJ
 have loop:∀(f k:Nat) (b2 bw:Nat) (w1:World),f+k=6->nZ l st 6 0=nZ l st f k->(match nZ l st 6 0 with
   |some k=>bif Nat.ble k 2 then some (Rx.mk k 0 0 [],(st.1+1,st.2)) else match y5 l n (st.1+1,st.2) with
    |some (m,st)=>some (Rx.mk k 0 0 m,st)
    |none=>none
   |none=>let st:=qg l [40] st
    bif st.2 then some (wI,st) else match qJ l n st with
    |some (a,st)=>some (a,qg l [41] st)
    |none=>none)=some (x,dJ)->LH (·=pb) w w1 [oY pb s st,.g b2,.c bw xg cF] [pq s l]->
   enthymemeref04_reader_atom.l6 (bD pb) b2 0 0 0 ⟨none,0,0⟩ ⟨some (bD bw),6,6⟩ (k:Int) w1 R:=by
  intro f
  induction f with
  |zero=>
   intro k b2 bw w1 hk hw he H1
   have e0:nZ l st 0 k=none:=by unfold nZ;rfl
   rw [hw,e0] at he
   dsimp only at he
   have A9:=sO dP hi [40] (by decide)
   refine enthymemeref04_reader_atom.dI _ _ _ _ _ _ _ _ _ _ (aM (decide_eq_false (by omega)) (H1.kB (yz H1.xS hi pX [40]) ?_))
   rintro _ w2 rfl H2 _
   generalize qg l [40] st=kR at he A9 H2
   refine ⟨rfl,kR.2,H2.ld 0 2,bB (λhb=>?_) (λhb=>?_)⟩
   .rw [hb] at he
    simp only [cond_true,Option.some.injEq,Prod.mk.injEq] at he
    obtain ⟨rfl,rfl⟩:=he
    exact H2.aN λw3 H3=>⟨⟨⟨⟨mD,rfl,rfl,vu _,λb hb=>(nD hb).elim⟩,A9⟩,H3.get 0⟩,H3.fr⟩
   .rw [hb] at he
    dsimp only [cond_false] at he
    cases hc:qJ l n kR with
    |none=>rw [hc] at he;cases he
    |some y=>
     obtain ⟨a,lO⟩:=y
     rw [hc] at he
     simp only [Option.some.injEq,Prod.mk.injEq] at he
     obtain ⟨rfl,rfl⟩:=he
     refine H2.kB (ih.expr pb kR w2 a lO hc A9 H2.xS) ?_
     rintro _ w3 ⟨⟨u,rfl,hu,pu,fu⟩,wB⟩ _ F3
     have H3:=F3 (.tree u) pu λb hb=>fu b (aI.1 hb)
     refine ⟨_,_,_,u.s,rfl,H3.bI λb6 w4 H4=>H4.aN λw5 H5=>?_⟩
     have H5:LH (·=pb) w w5 (oY pb s lO::[.g b2,.c bw xg cF,.g b6]) [pq s l,.tree u]:=H5
     refine H5.kB (yz H5.xS wB pX [41]) ?_
     rintro _ w6 rfl H6 _
     exact ⟨rfl,H6.aN λw7 H7=>⟨⟨⟨⟨u,rfl,hu,H7.getD 1,λb hb=>Nat.le_trans H2.fr.size (fu b hb)⟩,sO dP wB [41] (by decide)⟩,H7.get 0⟩,H7.fr⟩⟩
  |succ f XK=>
   intro k b2 bw w1 hk hw he H1
   have next:nZ l st (f+1) k=nZ l st f (k+1)->∀w2,LH (·=pb) w w2 [oY pb s st,.g b2,.c bw xg cF] [pq s l]->enthymemeref04_reader_atom.eY (bD pb) b2 0 0 0 ⟨none,0,0⟩ ⟨some (bD bw),6,6⟩ (k:Int) w2 R:=by
    intro hx w2 H2
    show enthymemeref04_reader_atom.l6 _ _ _ _ _ _ _ _ _ _
    rw [aZ _ (by omega)]
    exact XK (k+1) b2 bw w2 (by omega) (by rw [hw,hx]) he H2
   refine enthymemeref04_reader_atom.dI _ _ _ _ _ _ _ _ _ _ (aS (decide_eq_true (by omega)) (aJ (λsG=>H1.aN λw2 H2=>next (by
    have:k=2:=by omega
    subst this
    conv=>lhs;unfold nZ
    rfl) w2 H2) (λsG=>⟨by omega,by show (k:Int)<((6:Nat):Int);omega,?_⟩)))
   have sG:k≠2:=by omega
   have A4:Nat.beq k 2=false:=by
    cases h:Nat.beq k 2 with
    |false=>rfl
    |true=>exact absurd (Nat.eq_of_beq_eq_true h) sG
   refine vC (H1.aN λw2 H2=>?_)
   rw [Int.toNat_natCast,Nat.mul_one]
   refine ⟨ba (s8 k),H2.ld 2 k rfl (BD (by omega)),H2.aL (Lk H2.xS hi) ?_⟩
   rintro _ w3 rfl H3
   refine ⟨_,rfl,H3.ld 2 k rfl (BD (by omega)),?_⟩
   rw [AL]
   refine eO (λhs=>next (by
    conv=>lhs;unfold nZ
    rw [A4,hs];rfl) w3 H3) (λhs=>?_)
   have We:=eq_of_beq hs
   have hwk:nZ l st 6 0=some k:=by
    rw [hw]
    conv=>lhs;unfold nZ
    rw [A4,hs];rfl
   rw [hwk] at he
   dsimp only at he
   have V1:st.1+1<l.length:=by
    refine Ea dP hi (by rw [We];exact (E8 (by omega) sG).1) ?_
    cases hb:st.2 with
    |false=>rfl
    |true=>
     exfalso
     refine (E8 (k:=k) (by omega) sG).2 ?_
     rw [<-We];unfold nE;rw [hb];rfl
   refine ⟨(st.1:Int),H3.ld 0 1,?_⟩
   rw [aZ _ (by omega)]
   refine H3.stq 0 1 rfl λw4 H4=>?_
   have H4:LH (·=pb) w w4 [oY pb s (st.1+1,st.2),.g b2,.c bw xg cF] [pq s l]:=H4
   refine H4.bI λb5 w5 H5=>aK (λGh=>?_) (λGh=>?_)
   .have VO:Nat.ble k 2=false:=by
     cases h:Nat.ble k 2 with
     |false=>rfl
     |true=>have:=Nat.le_of_ble_eq_true h;omega
    rw [VO] at he
    dsimp only [cond_false] at he
    cases hc:y5 l n (st.1+1,st.2) with
    |none=>rw [hc] at he;cases he
    |some y=>
     obtain ⟨m,lO⟩:=y
     rw [hc] at he
     simp only [Option.some.injEq,Prod.mk.injEq] at he
     obtain ⟨hx,rfl⟩:=he
     refine H5.aN λw9 H9=>?_
     have H9:LH (·=pb) w w9 (oY pb s (st.1+1,st.2)::[.g b2,.c bw xg cF,.g b5]) [pq s l]:=H9
     refine H9.kB (ih.kids pb (st.1+1,st.2) w9 m lO hc V1 H9.xS) ?_
     rintro _ pT ⟨⟨sl,a,rfl,ha,pa,fa⟩,wB⟩ _ F10
     have mg:=F10 (.tree (eD sl a)) pa λb hb=>fa b (aI.1 hb)
     refine ⟨sl,rfl,mg.aN λrQ qn=>qn.aN λqW pV=>?_⟩
     refine ⟨⟨⟨⟨.mk k 0 0 sl a,rfl,?_,?_,λb hb=>?_⟩,wB⟩,pV.get 0⟩,pV.fr⟩
     .rw [<-hx,<-ha];rfl
     .have:=fM.1 (show (eD sl a).P qW from pV.getD 1)
      unfold Rt.P
      exact this
     .refine Nat.le_trans H9.fr.size (fa b ?_)
      unfold Rt.fp at hb
      unfold eD Rt.fp
      exact hb
   .have VO:Nat.ble k 2=true:=Nat.ble_eq_true_of_le (by omega)
    rw [VO] at he
    simp only [cond_true,Option.some.injEq,Prod.mk.injEq] at he
    obtain ⟨hx,rfl⟩:=he
    refine H5.aN λw6 H6=>H6.aN λw7 H7=>⟨⟨⟨⟨sK k 0 0,rfl,?_,uf _ _ _ _,λb hb=>(rj hb).elim⟩,V1⟩,H7.get 0⟩,H7.fr⟩
    rw [<-hx];rfl
 have s0:∀(b2:Nat) (w1:World),(!st.2&&Nat.beq (jG l st.1).k 2)=false->LH (·=pb) w w1 [oY pb s st,.g b2] [pq s l]->enthymemeref04_reader_atom.dU (bD pb) b2 0 0 0 ⟨none,0,0⟩ w1 R:=by
  intro b2 w1 hq H1
  unfold yq at he
  rw [hq] at he
  dsimp only [cond_false] at he
  refine H1.nw λw2 _ H2=>?_
  exact loop 6 0 b2 w1.heap.size w2 (by omega) rfl he H2
 refine enthymemeref04_reader_atom.cT _ w _ (H.bI λb2 w1 H1=>H1.aN λw2 H2=>⟨st.2,H2.ld 0 2,eO (λhb=>?_) (λhb=>s0 b2 w2 (by rw [hb];rfl) H2)⟩)
 have hn:=E2 (H2.getD 0:jJ _ _ _ _)
 refine ⟨s,H2.ld 0 0,(st.1:Int),H2.ld 0 1,by omega,by omega,zL (H2.getD 0) hi λp hp c=>⟨((jG l st.1).k:Int),?_,aJ (λh2=>?_) (λh2=>s0 b2 w2 (by
  have:Nat.beq (jG l st.1).k 2=false:=by
   cases h:Nat.beq (jG l st.1).k 2 with
   |false=>rfl
   |true=>have:=Nat.eq_of_beq_eq_true h;omega
  rw [this];simp) H2)⟩⟩
 .rw [Int.toNat_natCast,tR];exact c.c2
 have h2:(jG l st.1).k=2:=by omega
 have V1:st.1+1<l.length:=by
  rcases Nat.lt_or_ge (st.1+1) l.length with h|h
  .exact h
  .exfalso
   have e:st.1=l.length - 1:=by omega
   rw [e,dP.2.2] at h2
   cases h2
 refine ⟨(st.1:Int),H2.ld 0 1,?_⟩
 rw [aZ _ (by omega)]
 refine H2.stq 0 1 rfl λw3 H3=>?_
 have H3:LH (·=pb) w w3 [oY pb s (st.1+1,st.2),.g b2] [pq s l]:=H3
 refine H3.aN λw4 H4=>⟨s,H4.ld 0 0,((st.1+1:Nat):Int),H4.ld 0 1,?_⟩
 have em:IntKind.wrap .i64 (((st.1+1:Nat):Int) - 1)=(st.1:Int):=by rw [IntWalk.i64_in _ (by omega)];omega
 rw [em]
 unfold yq at he
 rw [hb,h2] at he
 have he:some (Rx.mk 2 (jG l st.1).lo (jG l st.1).hi [],(st.1+1,false))=some (x,dJ):=he
 simp only [Option.some.injEq,Prod.mk.injEq] at he
 obtain ⟨he,jd⟩:=he
 refine ⟨by omega,by omega,zL (H4.getD 0) hi λp hp c=>⟨2,(jG l st.1).lo.toNat,(jG l st.1).hi.toNat,⟨none,0,0⟩,?_,?_,?_,?_,H4.aN λw5 H5=>⟨⟨⟨⟨sK 2 (jG l st.1).lo (jG l st.1).hi,rfl,he,uf _ _ _ _,λb hb=>(rj hb).elim⟩,by rw [<-jd];exact V1⟩,?_⟩,H5.fr⟩⟩⟩
 .rw [Int.toNat_natCast,tR,c.c2,h2];rfl
 .rw [Int.toNat_natCast,add_add];exact c.c3
 .rw [Int.toNat_natCast,add_add];exact c.c4
 .rw [Int.toNat_natCast,add_add];exact c.c5
 .have:=H5.get 0
  rw [<-jd,<-hb]
  exact this
theorem okp (dP:Fc l) (pX:l.length<=1000000):∀n:Nat,n<=100000->∀m,m<=n->KS s l m
 |0,_=>λm hm=>by
  have:m=0:=by omega
  subst this
  exact ⟨λpb st w x dJ he=>(by unfold qJ at he;cases he),λpb st w x dJ he=>(by unfold uV at he;cases he),λpb st w x dJ he=>(by unfold Cy at he;cases he),λpb st w x dJ he=>(by unfold sJ at he;cases he),λpb st w x dJ he=>(by unfold yq at he;cases he),λpb st w x dJ he=>(by unfold y5 at he;cases he)⟩
 |n+1,hn=>λm hm=>by
  have ih:=okp dP pX n (by omega)
  rcases Nat.lt_or_ge m (n+1) with h|h
  .exact ih m (by omega)
  have:m=n+1:=by omega
  subst this
  exact ⟨λpb st w x dJ he hi H=>Jn dP pX (by omega) ih pb st w x dJ he hi H,λpb st w x dJ he hi H=>Jj dP pX (by omega) ih pb st w x dJ he hi H,λpb st w x dJ he hi H=>Na dP pX (by omega) ih pb st w x dJ he hi H,λpb st w x dJ he hi H=>JN dP pX (ih n (Nat.le_refl _)) pb st w x dJ he hi H,λpb st w x dJ he hi H=>I9 dP pX (ih n (Nat.le_refl _)) pb st w x dJ he hi H,λpb st w x dJ he hi H=>JO dP pX (by omega) ih pb st w x dJ he hi H⟩
end
theorem _root_.Go.W.LH.perm {M:Nat->Prop} {w0 w:World} {L L' D:List En} (H:LH M w0 w L D) (h:L.Perm L'):LH M w0 w L' D:=
 ⟨H.fr,λe he=>H.own e (h.mem_iff.2 he),H.rd,λe he=>H.new e (h.mem_iff.2 he),(h.flatMap_right (·.fp)).nodup_iff.1 H.nd,λe he b hb e' mJ=>H.dj e he b hb e' (h.mem_iff.2 mJ)⟩
theorem zK (s:BL):∀(f i:Nat),s.length<f+i->∃init,CG s f i=init++[⟨[],s.length,0,0,0⟩]/\init.length+i<=max i s.length
 |0,i,h=>⟨[],rfl,by simp;omega⟩
 |f+1,i,h=>by
  unfold CG
  split
  .exact ⟨[],rfl,by simp;omega⟩
  .split
   .obtain ⟨init,h1,h2⟩:=zK s f (i+1) (by omega)
    exact ⟨init,h1,by omega⟩
   .simp only
    have hr:=zk s i
    have hw:=IB s i s.length 1 (by omega)
    generalize iz s i=g at hr
    generalize Ax s i s.length 1=e at hw
    have hn:1<=(if g.n=0 then e else g.n)/\i+(if g.n=0 then e else g.n)<=s.length:=by split<;>omega
    generalize (if g.n=0 then e else g.n)=n at hn
    obtain ⟨init,h1,h2⟩:=zK s f (i+n) (by omega)
    exact ⟨_::init,by rw [h1];rfl,by simp only [qlC];omega⟩
theorem Qh (s:BL):Fc (s5 s)/\(s5 s).length<=s.length+1:=by
 obtain ⟨init,h1,h2⟩:=zK s (s.length+1) 0 (by omega)
 have e:s5 s=init++[⟨[],s.length,0,0,0⟩]:=h1
 rw [e]
 have hl:(init++[(⟨[],s.length,0,0,0⟩:jP)]).length=init.length+1:=by simp
 have ht:jG (init++[(⟨[],s.length,0,0,0⟩:jP)]) init.length=⟨[],s.length,0,0,0⟩:=by
  unfold jG
  simp [List.getD_eq_getElem?_getD]
 refine ⟨⟨by omega,?_,?_⟩,by omega⟩
 .rw [hl,Nat.add_sub_cancel,ht]
 .rw [hl,Nat.add_sub_cancel,ht]
def Yi (w:World) (x:Rx) (a:Nat) (e:Int) (r:Ending) (w':World):Prop:=∃t:Rt,r=.returned (.tuple #[t.v,.i (a:Int),.i e])/\t.rx=x/\t.P w'/\∀b∈t.fp,w.heap.size<=b
theorem Lg (s:ByteArray) (hs:s.size<=100000) (x:Rx) (a:Nat) (e:Int) (he:wM (bl s)=some (x,a,e)) (w:World):Calls Tryz.prog jV #[.string s] w λr w'=>Yi w x a e r w'/\bF w w':=by
 have hl:(bl s).length=s.size:=hV s
 obtain ⟨dP,hlen⟩:=Qh (bl s)
 unfold wM at he
 refine enthymemeref04_Parse.cT _ w _ ((mf [] (by simp)).bI λb2 w1 H1=>aK (λhb=>H1.aN λw2 H2=>?_) (λhb=>H1.ss (K7 s hs w1) ?_))
 .rw [if_pos (by omega)] at he
  simp only [Option.some.injEq,Prod.mk.injEq] at he
  obtain ⟨rfl,rfl,rfl⟩:=he
  exact ⟨⟨mD,rfl,rfl,vu _,λb hb=>(nD hb).elim⟩,H2.fr⟩
 rw [if_neg (by omega)] at he
 generalize s5 (bl s)=l at he dP hlen
 dsimp only at he
 rintro _ w6 ⟨tk,rfl,ho,hf⟩ _ F6
 have H6:=F6.rd (pq tk l) ho.iQ (Cq hf)
 cases hx:qJ l 1000 (0,false) with
 |none=>rw [hx] at he;cases he
 |some y=>
  obtain ⟨r0,CS⟩:=y
  rw [hx] at he
  dsimp only at he
  refine ⟨tk,rfl,H6.nw λw7 _ H7=>?_⟩
  have H7:LH F0 w w7 (oY w6.heap.size tk (0,false)::[.g b2]) [pq tk l]:=H7.perm (List.Perm.swap _ _ _)
  refine H7.kB ((okp dP (by omega) 1000 (by omega) 1000 (Nat.le_refl _)).expr w6.heap.size (0,false) w7 r0 CS hx dP.1 H7.xS) ?_
  rintro _ w8 ⟨⟨u,rfl,hu,pu,fu⟩,wB⟩ _ F8
  have H8:=F8 (.tree u) pu λb hb=>fu b (aI.1 hb)
  refine ⟨_,_,_,u.s,rfl,H8.bI λb6 w9 H9=>H9.aN λpT mg=>?_⟩
  have mg:LH F0 w pT (oY w6.heap.size tk CS::[.g b2,.g b6]) [pq tk l,.tree u]:=mg
  refine mg.kB (yz mg.xS wB (by omega) []) ?_
  have A9:=sO dP wB [] (by decide)
  rintro _ rQ rfl qn _
  generalize qg l [] CS=NY at he A9 qn
  refine ⟨rfl,NY.2,qn.ld 0 2,bB (λA4=>qn.aN λAz vS=>?_) (λA4=>?_)⟩
  .rw [if_pos A4] at he
   simp only [Option.some.injEq,Prod.mk.injEq] at he
   obtain ⟨rfl,rfl,rfl⟩:=he
   have hn:=E2 (vS.getD 0:jJ _ _ _ _)
   refine ⟨tk,vS.ld 0 0,(NY.1:Int),vS.ld 0 1,by omega,by omega,zL (vS.getD 0) A9 λp hp c=>⟨((jG l NY.1).at_:Int),?_,vS.aN λSa Qw=>⟨?_,Qw.ld 0 1,Qw.ld 0 0,⟨mD,rfl,rfl,vu _,λb hb=>(nD hb).elim⟩,Qw.fr⟩⟩⟩
   .rw [Int.toNat_natCast];exact c.c1
   .rw [Int.toNat_natCast]
    have:=zL (Qw.getD 0) A9 (K:=λq=>∃q',tk.a=some q'/\q=q'/\Hk Sa q' NY.1 (jG l NY.1)) (λq hq hc=>⟨q,hq,rfl,hc⟩)
    rw [hp] at this
    obtain ⟨q,hq,rfl,hc⟩:=this
    exact hc.c1
  .rw [if_neg (by rw [A4];simp)] at he
   have pu2:u.P rQ:=qn.getD 1
   have aaz:r0.sz=u.sz:=by rw [<-hu,Rt.hM]
   by_cases me:u.sz<=1000000
   .rw [if_neg (by omega)] at he
    refine qn.aL (BR u rQ me pu2) ?_
    rintro _ X0 rfl UG
    refine ⟨_,rfl,aK (λFg=>UG.aN λFk Fp=>?_) (λFg=>UG.aN λFk Fp=>?_)⟩
    .rw [if_pos (by omega)] at he
     simp only [Option.some.injEq,Prod.mk.injEq] at he
     obtain ⟨rfl,rfl,rfl⟩:=he
     exact ⟨⟨mD,rfl,rfl,vu _,λb hb=>(nD hb).elim⟩,Fp.fr⟩
    .rw [if_neg (by omega)] at he
     simp only [Option.some.injEq,Prod.mk.injEq] at he
     obtain ⟨rfl,rfl,rfl⟩:=he
     exact ⟨⟨u,rfl,hu,Fp.getD 1,λb hb=>Nat.le_trans H7.fr.size (fu b hb)⟩,Fp.fr⟩
   .rw [if_pos (by omega)] at he
    cases he
theorem dV (a b:BL):ba a++ba b=ba (a++b):=by
 apply ByteArray.ext
 rw [ByteArray.data_append]
 simp [ba]
theorem wc {w:World} {b n:Nat} {cs:List Value} {T:TypeId} (h:w.heap[b]? =some (.cells cs.toArray T (0,0))) (hn:n=cs.length):Rd w ⟨some (bD b),n,n⟩ cs:=
 MY (s:=⟨some (bD b),n,n⟩) hn (Nat.le_refl _) (λh=>by cases h) λi v hi=>⟨bD b,rfl,cellAt (p:=bD b) h rfl (by simpa using hi)⟩
theorem Lj (c:UInt8) (w:World):Calls Tryz.prog iU #[.int .u8 (c.toNat:Int)] w λr w'=>r=.returned (.bool (tw c))/\bF w w':=by
 refine enthymemeref04_low.ok _ w _ (aK (λh=>⟨?_,Fr.refl _ _⟩) (λh=>⟨?_,Fr.refl _ _⟩))
 .unfold tw
  rw [decide_eq_true (show 97<=c.toNat by omega),Bool.true_and,show decide ((c.toNat:Int)<=122)=decide (c.toNat<=122) from decide_eq_decide.2 (by omega)]
 .unfold tw
  rw [decide_eq_false (show ¬97<=c.toNat by omega),Bool.false_and]
theorem BU (c:UInt8) (w:World):Calls Tryz.prog gE #[.int .u8 (c.toNat:Int)] w λr w'=>r=.returned (.string (ba (dL c)))/\bF w w':=by
 have hc:=c.toNat_lt
 have H:LH F0 w w [] []:=mf [] (by simp)
 refine enthymemeref04_Byte.ok _ w _ (H.call (Dj c w) ?_)
 rintro _ w1 rfl H1
 refine ⟨_,rfl,bB (λhp=>?_) (λhp=>?_)⟩
 .refine H1.XP (λw2 _ H2 hb=>?_)
  have e39:((39:UInt8).toNat:Int)=39:=rfl
  have hB:Bytes w2 ⟨some (bD w1.heap.size),3,3⟩ [39,c,39]:=wc (T:=dB) hb rfl
  have VR:=qF hB
  refine ⟨ba [39,c,39],VR,?_,H2.fr⟩
  unfold dL;rw [if_pos hp]
 .have e1:IntKind.wrap .i64 (c.toNat:Int)=(c.toNat:Int):=IntWalk.i64_in _ (by omega)
  have e2:IntKind.wrap .i64 (Int.tdiv (c.toNat:Int) 16)=((c.toNat / 16:Nat):Int):=by
   rw [Int.tdiv_eq_ediv_of_nonneg (by omega),IntWalk.i64_in _ (by omega)];omega
  have e3:Int.tmod (c.toNat:Int) 16=((c.toNat%16:Nat):Int):=by
   rw [Int.tmod_eq_emod_of_nonneg (by omega)];omega
  rw [e1,e2,e3]
  refine H1.call (yB (c.toNat / 16) (by omega) w1) ?_
  rintro _ w2 rfl H2
  refine ⟨_,rfl,H2.call (yB (c.toNat%16) (by omega) w2) ?_⟩
  rintro _ w3 rfl H3
  refine ⟨_,rfl,H3.XP (λw4 _ H4 hb=>?_)⟩
  have hB:Bytes w4 ⟨some (bD w3.heap.size),4,4⟩ [92,120,rS (c.toNat / 16),rS (c.toNat%16)]:=wc (T:=dB) hb rfl
  have VR:=qF hB
  refine ⟨ba [92,120,rS (c.toNat / 16),rS (c.toNat%16)],VR,?_,H4.fr⟩
  unfold dL;rw [if_neg (by rw [hp];simp)]
def p9 (ts:List BL):Nat:=(ts.map λt=>t.length+2).sum
theorem nY (lv:Nat) (a:Rx) (t:BL):(cN lv a t).length<=t.length+2/\t.length<=(cN lv a t).length:=by
 unfold cN
 split
 .simp;omega
 .simp
theorem y4 (k:Int):∀(ts:List BL) (out:BL),(lV k out ts).length<=out.length+p9 ts/\out.length<=(lV k out ts).length
 |[],out=>by simp [lV,p9]
 |t::ts,out=>by
  unfold lV
  have ih:=y4 k ts ((if k=3/\tw (qd out)=true/\tw (gQ t 0)=true then out++[32] else out)++lB k++t)
  have h1:(lB k).length<=1:=by unfold lB;split<;>(try split)<;>simp
  have h3:k=3->(lB k).length=0:=λh=>by unfold lB;rw [if_pos h];rfl
  have h2:((if k=3/\tw (qd out)=true/\tw (gQ t 0)=true then out++[32] else out):BL).length<=out.length+2 - (lB k).length/\out.length<=((if k=3/\tw (qd out)=true/\tw (gQ t 0)=true then out++[32] else out):BL).length:=by
   split
   .rename_i h
    rw [h3 h.1]
    simp
   .omega
  simp only [qlA] at ih
  have hs:p9 (t::ts)=t.length+2+p9 ts:=by simp [p9]
  omega
mutual
theorem zW:∀x:Rx,(gM x).length+4<=18 *x.sz
 |.mk k lo hi l=>by
  have hb:∀c,(dL c).length<=4:=λc=>by unfold dL;split<;>simp
  have h3:=rF 3 l
  have h4:=rF 4 l
  have h0:=rF 0 l
  have hn:(zd k).length=4:=by unfold zd;split<;>(try split)<;>rfl
  have hd:∀lv,(ud (jc lv l)).length<=p9 (jc lv l):=λlv=>by
   cases jc lv l with
   |nil=>simp [ud]
   |cons t ts=>simp [ud,p9];omega
  have d3:=hd 3
  have d4:=hd 4
  have d0:=hd 0
  have rV:=hb lo
  have OU:=hb hi
  unfold Rx.sz
  unfold gM
  split
  .simp;omega
  .split
   .simp;omega
   .split
    .split
     .omega
     .simp only [qlC,qlA,qlN];omega
    .split
     .simp only [qlC];omega
     .split
      .simp only [qlA,qlC,qlN];omega
      .split
       .simp only [qlA,qlC,qlN];omega
       .have hw:=rF (cJ (.mk k lo hi l)+1) l
        cases hh:jc (cJ (.mk k lo hi l)+1) l with
        |nil=>show 0+4<=_;omega
        |cons t ts=>
         rw [hh] at hw
         have:=(y4 k ts t).1
         simp only [p9,List.map_cons,List.sum_cons] at hw
         simp only [p9] at this
         show (lV k t ts).length+4<=_
         omega
theorem rF (lv:Nat):∀l:List Rx,p9 (jc lv l)<=18 *Rx.fL l
 |[]=>by simp [jc,p9]
 |a::l=>by
  have h1:=zW a
  have h2:=rF lv l
  have h3:=(nY lv a (gM a)).1
  unfold jc Rx.fL
  simp only [p9,List.map_cons,List.sum_cons] at h2 ⊢
  omega
end
theorem ti {k:Int} {lo hi:UInt8} {l:List Rx} (h:okW (.mk k lo hi l)=true):0<=k/\k<=7/\(k=6\/k=7->l.length=1)/\Aw l=true:=by
 unfold okW at h
 simp only [Bool.and_eq_true,decide_eq_true_eq,Bool.or_eq_true] at h
 exact ⟨h.1.1.1,h.1.1.2,λhk=>by omega,h.2⟩
theorem vA:∀{l:List Rx} {a:Rx},Aw l=true->a∈l->okW a=true
 |b::l,a,h,ha=>by
  unfold Aw at h
  rw [Bool.and_eq_true] at h
  rcases cU.1 ha with rfl|ha
  .exact h.1
  .exact vA h.2 ha
theorem CN:∀x:Rx,okW x=true->0<(gM x).length
 |.mk k lo hi l=>λh=>by
  obtain ⟨h1,h2,h3,h4⟩:=ti h
  have hb:∀c,0<(dL c).length:=λc=>by unfold dL;split<;>simp
  unfold gM
  split
  .simp
  .split
   .simp
   .split
    .split
     .exact hb lo
     .simp
    .split
     .simp
     .split
      .simp
      .split
       .simp only [qlA,qlC];omega
       .rename_i h5
        match l,h4,h5 with
        |[],_,h5=>simp at h5
        |a::m,h4,h5=>
         have:=CN a (vA h4 (by simp))
         unfold jc
         show 0<(lV _ _ _).length
         have hj:=(y4 k (jc (cJ (.mk k lo hi (a::m))+1) m) (cN (cJ (.mk k lo hi (a::m))+1) a (gM a))).2
         have hp:=(nY (cJ (.mk k lo hi (a::m))+1) a (gM a)).2
         omega
theorem yA (x:Rt) (w:World) (h0:0<=x.k) (h7:x.k<=7) (px:x.P w):Calls Tryz.prog gh #[x.v] w λr w'=>r=.returned (.i (cJ x.rx:Int))/\bF w w':=by
 have nr:=Rt.cB px.parts.1
 have hl:(Rt.bU x.l).length=x.l.length:=by rw [Rt.eW,List.length_map]
 have eb:cJ x.rx=if x.k=6 then 3 else if x.k<3\/x.k=7\/x.l.length<2 then 4 else if x.k=3 then 2 else if x.k=4 then 0 else 1:=by
  rw [Rt.c9]
  unfold cJ
  dsimp only
  rw [hl]
 rw [eb]
 have four:∀w',bF w w'->x.k≠6->(x.k<3\/x.k=7\/x.l.length<2)->enthymemeref04_binds.dU w' λr w'=>r=.returned (.i ((if x.k=6 then 3 else if x.k<3\/x.k=7\/x.l.length<2 then 4 else if x.k=3 then 2 else if x.k=4 then 0 else 1:Nat):Int))/\bF w w':=λw' f h6 h=>⟨by rw [if_neg h6,if_pos h];rfl,f⟩
 refine enthymemeref04_binds.cT _ _ _ _ w _ ((y9 px).bI λb w1 H1=>aJ (λh6=>⟨by rw [if_pos h6];rfl,H1.fr⟩) (λh6=>aK (λh3=>four w1 H1.fr h6 (.inl h3)) (λh3=>aJ (λh7'=>four w1 H1.fr h6 (.inr (.inl h7'))) (λh7'=>aK (λh2=>four w1 H1.fr h6 (.inr (.inr (by omega)))) (λh2=>?_)))))
 refine H1.nw λw2 _ H2=>?_
 have hk:x.k=3\/x.k=4\/x.k=5:=by omega
 have e:(if x.k=6 then 3 else if x.k<3\/x.k=7\/x.l.length<2 then 4 else if x.k=3 then 2 else if x.k=4 then 0 else 1:Nat)=if x.k=3 then 2 else if x.k=4 then 0 else 1:=by
  rw [if_neg h6,if_neg (by omega)]
 rw [e]
 rcases hk with hk|hk|hk<;>rw [hk]
 .exact ⟨by decide,by decide,vC ⟨2,H2.ld 1 0,rfl,H2.fr⟩⟩
 .exact ⟨by decide,by decide,vC ⟨0,H2.ld 1 1,rfl,H2.fr⟩⟩
 .exact ⟨by decide,by decide,vC ⟨1,H2.ld 1 2,rfl,H2.fr⟩⟩
theorem Ic (t:BL) (h:0<t.length):gQ t (t.length - 1)=qd t:=by
 unfold gQ qd
 rw [List.getD_eq_getElem?_getD,List.getLastD_eq_getLast?,List.getLast?_eq_getElem?]
theorem Nm (l:List Rt) (i:Nat):Rx.fL (Rt.bU (l.drop i))<=Rt.fL l:=by
 rw [Rt.zr]
 induction l generalizing i with
 |nil=>simp
 |cons a l ih=>
  cases i with
  |zero=>exact Nat.le_refl _
  |succ i=>have:=ih i;show _<=a.sz+Rt.fL l;exact Nat.le_trans this (by omega)
abbrev Yn (n:Nat):Prop:=∀(x:Rt) (lv:Nat) (w:World),x.sz<=n->lv<=1000->okW x.rx=true->x.P w->Calls Tryz.prog bM #[x.v,.i (lv:Int)] w λr w'=>r=.returned (.string (ba (cN lv x.rx (gM x.rx))))/\bF w w'
theorem De:∀n:Nat,n<=1000000->Yn n
 |0,_=>λx lv w h _ _ _=>absurd h (by have:=Rt.oQ x;omega)
 |n+1,hn=>by
  have ih:=De n (by omega)
  have core:∀(x:Rt) (lv:Nat) (w:World),x.sz<=n+1->¬cJ x.rx<lv->okW x.rx=true->x.P w->Calls Tryz.prog bM #[x.v,.i (lv:Int)] w λr w'=>r=.returned (.string (ba (gM x.rx)))/\bF w w':=by
   intro x lv w h Rb dP px
   have hs:=Rt.gm x
   have hl:=Rt.eZ x.l
   have nr:=Rt.cB px.parts.1
   have DU:=dP
   rw [Rt.c9] at DU
   obtain ⟨k0,k7,Cc,sH⟩:=ti DU
   have A8:(Rt.bU x.l).length=x.l.length:=by rw [Rt.eW,List.length_map]
   rw [A8] at Cc
   have JC:∀a∈x.l,okW a.rx=true:=λa ha=>vA sH (by rw [Rt.eW];exact List.mem_map.2 ⟨a,ha,rfl⟩)
   have A5:∀a:Rt,a.sz<=1000000->(gM a.rx).length<=18000000:=λa ha=>by have:=zW a.rx;rw [Rt.hM] at this;omega
   have Rg:∀(a:Rt) (lv:Nat),a.sz<=1000000->(cN lv a.rx (gM a.rx)).length<=18000002:=λa lv ha=>by have h1:=A5 a ha;have:=(nY lv a.rx (gM a.rx)).1;omega
   have yV:∀c,(dL c).length<=4:=λc=>by unfold dL;split<;>simp
   let R:aD:=λr w'=>r=.returned (.string (ba (gM x.rx)))/\bF w w'
   have one:∀(a:Rt) (MB:Nat) (w1:World) (b2:Nat) (K:ByteArray->World->Prop),MB<=1000->a∈x.l->LH F0 w w1 [.g b2] [.tree x]->(∀w2,LH F0 w w2 [.g b2] [.tree x]->K (ba (cN MB a.rx (gM a.rx))) w2)->pE [b2] bM #[.agg #[.i a.k,.int .u8 (a.lo.toNat:Int),.int .u8 (a.hi.toNat:Int),a.s.v],.i (MB:Int)] w1 K:=by
    intro a MB w1 b2 K TE ha H1 hK
    have CE:=Rt.dK ha
    refine H1.aL (ih a MB w1 (by omega) TE (JC a ha) ((show x.P w1 from H1.getD 0).parts.2.mem ha)) ?_
    rintro _ w2 rfl H2
    exact ⟨_,rfl,hK w2 H2⟩
   refine enthymemeref04_Write.cT _ _ _ _ _ w _ ((y9 px).bI λb2 w1 H1=>?_)
   have H1:LH F0 w w1 [.g b2] [.tree x]:=H1
   refine H1.aL (yA x w1 k0 k7 (H1.getD 0)) ?_
   rintro _ w2 rfl H2
   have FT:gM x.rx=gM (.mk x.k x.lo x.hi (Rt.bU x.l)):=by rw [Rt.c9]
   refine ⟨_,rfl,aM (decide_eq_false (by omega)) (aJ (λhk=>⟨?_,H2.fr⟩) (λAb=>aJ (λhk=>⟨?_,H2.fr⟩) (λDT=>aJ (λsG=>?_) (λsG=>aJ (λCR=>?_) (λCR=>aJ (λKw=>?_) (λKw=>aK (λTC=>?_) (λTC=>?_)))))))⟩
   .rw [FT];unfold gM;rw [if_pos hk];rfl
   .rw [FT];unfold gM;rw [if_neg Ab,if_pos hk];rfl
   .have e2:gM x.rx=if x.lo=x.hi then dL x.lo else 91::(dL x.lo++45::(dL x.hi++[93])):=by
     rw [FT];unfold gM;rw [if_neg Ab,if_neg DT,if_pos sG]
    refine aJ (λOW=>H2.aL (BU x.lo w2) ?_) (λOW=>H2.aN λw5 H5=>H5.aL (BU x.lo w5) ?_)
    .rintro _ w3 rfl H3
     exact ⟨_,rfl,by rw [e2,if_pos (UInt8.toNat_inj.1 (by omega))],H3.fr⟩
    .rintro _ w6 rfl H6
     have h1:=yV x.lo
     have h2:=yV x.hi
     have s0:ByteArray.mk #[91]++ba (dL x.lo)++ByteArray.mk #[45]=ba (91::dL x.lo++[45]):=by
      show ba [91]++ba (dL x.lo)++ba [45]=_
      rw [dV,dV];rfl
     refine ⟨_,rfl,?_,?_,H6.aL (BU x.hi w6) ?_⟩
     .rw [cD];show ¬(((1+_:Nat):Int)>9223372036854775807);omega
     .have:(ByteArray.mk #[91]++ba (dL x.lo)).size=1+(dL x.lo).length:=by
       show (ba [91]++_).size=_
       rw [dV,cD];simp;omega
      rw [this];show ¬(((_+1:Nat):Int)>9223372036854775807);omega
     rintro _ w7 rfl H7
     rw [s0]
     have:ba (91::dL x.lo++[45]++dL x.hi)++ByteArray.mk #[93]=ba (91::dL x.lo++[45]++dL x.hi++[93]):=by
      show _++ba [93]=_
      rw [dV]
     refine ⟨_,rfl,?_,?_,?_,H7.fr⟩
     .rw [cD,cD];simp only [qlA,qlC,qlN];show ¬(((_:Nat):Int)>9223372036854775807);omega
     .rw [dV,cD];simp only [qlA,qlC,qlN];show ¬(((_+1:Nat):Int)>9223372036854775807);omega
     .rw [dV,this,e2,if_neg (λh=>OW (by rw [h]))]
      simp
   .have h1:=Cc (.inl CR)
    have e6:gM x.rx=33::ud (jc 3 (Rt.bU x.l)):=by
     rw [FT];unfold gM;rw [if_neg Ab,if_neg DT,if_neg sG,if_pos CR]
    match nN:x.l,h1 with
    |[a],_=>
     have ha:a∈x.l:=by rw [nN];simp
     have CE:=Rt.dK ha
     refine jo (show x.P w2 from H2.getD 0) (k:=0) rfl (by rw [nN];rfl) (one a 3 w2 b2 _ (by omega) ha H2 λw3 H3=>⟨?_,?_,H3.fr⟩)
     .have:=Rg a 3 (by omega)
      rw [cD];show ¬(((1+_:Nat):Int)>9223372036854775807);omega
     .have:ByteArray.mk #[33]++ba (cN 3 a.rx (gM a.rx))=ba (33::cN 3 a.rx (gM a.rx)):=by
       show ba [33]++_=_
       rw [dV];rfl
      rw [this,e6,nN]
      rfl
   .have h1:=Cc (.inr Kw)
    have e7:gM x.rx=ud (jc 4 (Rt.bU x.l))++[42]:=by
     rw [FT];unfold gM;rw [if_neg Ab,if_neg DT,if_neg sG,if_neg CR,if_pos Kw]
    match nN:x.l,h1 with
    |[a],_=>
     have ha:a∈x.l:=by rw [nN];simp
     have CE:=Rt.dK ha
     refine jo (show x.P w2 from H2.getD 0) (k:=0) rfl (by rw [nN];rfl) (one a 4 w2 b2 _ (by omega) ha H2 λw3 H3=>⟨?_,?_,H3.fr⟩)
     .have:=Rg a 4 (by omega)
      rw [cD];show ¬(((_+1:Nat):Int)>9223372036854775807);omega
     .have:ba (cN 4 a.rx (gM a.rx))++ByteArray.mk #[42]=ba (cN 4 a.rx (gM a.rx)++[42]):=by
       show _++ba [42]=_
       rw [dV]
      rw [this,e7,nN]
      rfl
   .
    have hk:x.k=3\/x.k=4\/x.k=5:=by omega
    have ef:gM x.rx=zd x.k++(ud (jc 0 (Rt.bU x.l))++[41]):=by
     rw [FT];unfold gM;rw [if_neg Ab,if_neg DT,if_neg sG,if_neg CR,if_neg Kw,if_pos (by rw [A8];omega)]
    have fin:∀(t:BL) (w3:World),t.length<=18000002->ud (jc 0 (Rt.bU x.l))=t->LH F0 w w3 [.g b2] [.tree x]->enthymemeref04_Write.dU b2 x.k x.lo.toNat x.hi.toNat x.s (ba t) w3 R:=by
     intro t w3 ht he H3
     refine H3.nw λw4 _ H4=>?_
     have key:∀(u:BL),u.length=4->zd x.k=u->¬((((ba u).size+(ba t).size:Nat):Int)>IntKind.i64.max)/\¬((((ba u++ba t).size+(ByteArray.mk #[41]).size:Nat):Int)>IntKind.i64.max)/\R (.returned (.string ((ba u++ba t)++(ByteArray.mk #[41])))) w4:=by
      intro u hu hn
      refine ⟨?_,?_,?_,H4.fr⟩
      .rw [cD,cD];show ¬(((_:Nat):Int)>9223372036854775807);omega
      .rw [dV,cD];simp only [qlA];show ¬(((_+1:Nat):Int)>9223372036854775807);omega
      .have:ba u++ba t++ByteArray.mk #[41]=ba (u++(t++[41])):=by
        show _++_++ba [41]=_
        rw [dV,dV];simp
       rw [this,ef,hn,he]
     rcases hk with hk|hk|hk<;>rw [hk]
     .exact ⟨by decide,by decide,vC ⟨ba [99,97,116,40],H4.ld 1 0,key _ rfl (by rw [hk];rfl)⟩⟩
     .exact ⟨by decide,by decide,vC ⟨ba [97,108,116,40],H4.ld 1 1,key _ rfl (by rw [hk];rfl)⟩⟩
     .exact ⟨by decide,by decide,vC ⟨ba [97,108,108,40],H4.ld 1 2,key _ rfl (by rw [hk];rfl)⟩⟩
    refine aJ (λh1=>?_) (λh1=>?_)
    .match nN:x.l with
     |[]=>rw [nN] at nr;simp at nr;omega
     |_::_::_=>rw [nN] at nr;simp at nr;omega
     |[a]=>
      have ha:a∈x.l:=by rw [nN];simp
      have CE:=Rt.dK ha
      refine jo (show x.P w2 from H2.getD 0) (k:=0) rfl (by rw [nN];rfl) (one a 0 w2 b2 _ (by omega) ha H2 λw3 H3=>?_)
      exact fin _ w3 (Rg a 0 (by omega)) (by rw [nN];rfl) H3
    .have:x.l=[]:=List.length_eq_zero_iff.1 (by omega)
     exact fin [] w2 (by simp) (by rw [this];rfl) H2
   .
    have hk:x.k=3\/x.k=4\/x.k=5:=by omega
    match nN:x.l with
    |[]=>rw [nN] at nr;simp at nr;omega
    |a::m=>
    have ha:a∈x.l:=by rw [nN];simp
    have CE:=Rt.dK ha
    have sgl:(lB x.k).length<=1:=by unfold lB;split<;>(try split)<;>simp
    have ef:gM x.rx=lV x.k (cN (cJ x.rx+1) a.rx (gM a.rx)) (jc (cJ x.rx+1) (Rt.bU (x.l.drop 1))):=by
     have e1:gM x.rx=O5 x.k (jc (cJ x.rx+1) (Rt.bU x.l)):=by
      conv=>lhs;rw [FT];unfold gM;rw [if_neg Ab,if_neg DT,if_neg sG,if_neg CR,if_neg Kw,if_neg (by rw [A8];omega)]
      rw [<-Rt.c9]
     rw [e1,nN]
     rfl
    have VP:cJ x.rx<=4:=by
     rw [Rt.c9];unfold cJ;dsimp only;repeat (first |omega|split)
    have loop:∀(d i:Nat) (out:BL) (w3:World),i+d=x.l.length->1<=i->0<out.length->out.length+p9 (jc (cJ x.rx+1) (Rt.bU (x.l.drop i)))<=40000000->gM x.rx=lV x.k out (jc (cJ x.rx+1) (Rt.bU (x.l.drop i)))->LH F0 w w3 [.g b2] [.tree x]->
      enthymemeref04_Write.l6 b2 x.k x.lo.toNat x.hi.toNat x.s (ba (lB x.k)) (cJ x.rx:Int) (ba out) (i:Int) w3 R:=by
     intro d
     induction d with
     |zero=>
      intro i out w3 hi h1 Gk Cd he H3
      refine enthymemeref04_Write.dI _ _ _ _ _ _ _ _ _ _ _ (aM (decide_eq_false (by omega)) ⟨?_,H3.fr⟩)
      rw [he,List.drop_of_length_le (by omega)]
      rfl
     |succ d pW=>
      intro i out w3 hi h1 Gk Cd he H3
      have hg:x.l[i]? =some (x.l[i]'(by omega)):=g7 (by omega)
      have CP:x.l.drop i=(x.l[i]'(by omega))::x.l.drop (i+1):=List.drop_eq_getElem_cons (by omega)
      generalize x.l[i]'(by omega)=c at hg CP
      have hc:=dC hg
      have szc:=Rt.dK hc
      rw [CP] at he Cd
      have Cd:out.length+((cN (cJ x.rx+1) c.rx (gM c.rx)).length+2+p9 (jc (cJ x.rx+1) (Rt.bU (x.l.drop (i+1)))))<=40000000:=by
       have:p9 (jc (cJ x.rx+1) (Rt.bU (c::x.l.drop (i+1))))=(cN (cJ x.rx+1) c.rx (gM c.rx)).length+2+p9 (jc (cJ x.rx+1) (Rt.bU (x.l.drop (i+1)))):=by
        simp [Rt.bU,jc,p9]
       omega
      have he:gM x.rx=lV x.k ((if x.k=3/\tw (qd out)=true/\tw (gQ (cN (cJ x.rx+1) c.rx (gM c.rx)) 0)=true then out++[32] else out)++lB x.k++cN (cJ x.rx+1) c.rx (gM c.rx)) (jc (cJ x.rx+1) (Rt.bU (x.l.drop (i+1)))):=by
       rw [he];rfl
      have Zf:0<(cN (cJ x.rx+1) c.rx (gM c.rx)).length:=by
       have h1:=CN c.rx (JC c hc)
       have:=(nY (cJ x.rx+1) c.rx (gM c.rx)).2
       omega
      have Vz:IntKind.wrap .i64 ((cJ x.rx:Int)+1)=((cJ x.rx+1:Nat):Int):=aZ _ (by omega)
      refine enthymemeref04_Write.dI _ _ _ _ _ _ _ _ _ _ _ (aS (decide_eq_true (by omega)) (jo (show x.P w3 from H3.getD 0) rfl hg ?_))
      rw [Vz]
      refine one c (cJ x.rx+1) w3 b2 _ (by omega) hc H3 λw4 H4=>?_
      generalize cN (cJ x.rx+1) c.rx (gM c.rx)=t at he Cd Zf
      have go:∀(o:BL) (w5:World),o.length<=out.length+1->out.length<=o.length->o.length+(lB x.k).length<=out.length+1->gM x.rx=lV x.k (o++lB x.k++t) (jc (cJ x.rx+1) (Rt.bU (x.l.drop (i+1))))->LH F0 w w5 [.g b2] [.tree x]->
        enthymemeref04_Write.eY b2 x.k x.lo.toNat x.hi.toNat x.s (ba (lB x.k)) (cJ x.rx:Int) (ba o) (i:Int) (ba t) w5 R:=by
       intro o w5 ho1 ho2 XD heo H5
       refine ⟨?_,?_,?_⟩
       .rw [cD,cD];show ¬(((_:Nat):Int)>9223372036854775807);omega
       .rw [dV,cD,cD];simp only [qlA];show ¬(((_:Nat):Int)>9223372036854775807);omega
       .show enthymemeref04_Write.l6 _ _ _ _ _ _ _ _ _ _ _
        rw [dV,dV,aZ _ (by omega)]
        refine pW (i+1) (o++lB x.k++t) w5 (by omega) (by omega) (by simp only [qlA];omega) (by simp only [qlA];omega) heo H5
      have qi:∀w5,LH F0 w w5 [.g b2] [.tree x]->¬(x.k=3/\tw (qd out)=true/\tw (gQ t 0)=true)->enthymemeref04_Write.eY b2 x.k x.lo.toNat x.hi.toNat x.s (ba (lB x.k)) (cJ x.rx:Int) (ba out) (i:Int) (ba t) w5 R:=λw5 H5 h=>go out w5 (by omega) (by omega) (by omega) (by rw [if_neg h] at he;exact he) H5
      have eo:IntKind.wrap .i64 ((((ba out).size:Nat):Int) - 1)=((out.length - 1:Nat):Int):=by rw [cD,IntWalk.i64_in _ (by omega)];omega
      rw [eo]
      refine aJ (λGh=>⟨by omega,qd out,?_,H4.aL (Lj (qd out) w4) ?_⟩) (λGh=>qi w4 H4 (λh=>Gh h.1))
      .rw [Int.toNat_natCast,kQ (s:=ba out) (by rw [cD];omega),yu,Ic out Gk]
      rintro _ w5 rfl H5
      refine ⟨_,rfl,bB (λrV=>⟨by omega,gQ t 0,?_,H5.aL (Lj (gQ t 0) w5) ?_⟩) (λrV=>qi w5 H5 (λh=>by rw [h.2.1] at rV;cases rV))⟩
      .rw [show Int.toNat 0=0 from rfl,kQ (s:=ba t) (by rw [cD];omega),yu]
      rintro _ w6 rfl H6
      have s3:(lB x.k).length=0:=by unfold lB;rw [if_pos Gh];rfl
      refine ⟨_,rfl,bB (λlC=>⟨?_,?_⟩) (λlC=>qi w6 H6 (λh=>by rw [h.2.2] at lC;cases lC))⟩
      .rw [cD];show ¬(((_+1:Nat):Int)>9223372036854775807);omega
      .have YI:ba out++ByteArray.mk #[32]=ba (out++[32]):=by
        show _++ba [32]=_
        rw [dV]
       rw [YI]
       refine go (out++[32]) w6 (by simp) (by simp) (by simp;omega) ?_ H6
       rw [if_pos ⟨Gh,rV,lC⟩] at he
       exact he
    refine H2.nw λrQ _ qn=>?_
    have U5:LH F0 w rQ [.g b2] [.tree x]:=qn.take 1
    have rest:∀(u:BL),lB x.k=u->mX [b2] gh #[.agg #[.i x.k,.int .u8 (x.lo.toNat:Int),.int .u8 (x.hi.toNat:Int),x.s.v]] rQ λt90 qW=>(0:Int)<=0/\0<((x.s.n:Nat):Int)/\aX x.s.a λW4=>cA qW (W4.add (Int.toNat 0 *4)) λW5 W6 W7 W8=>pE [b2] bM #[.agg #[.i W5,.int .u8 W6,.int .u8 W7,W8.v],.i (IntKind.wrap .i64 (t90+1))] qW λt97 uF=>enthymemeref04_Write.l6 b2 x.k x.lo.toNat x.hi.toNat x.s (ba u) t90 t97 1 uF R:=by
     intro u hu
     refine U5.aL (yA x rQ k0 k7 (U5.getD 0)) ?_
     rintro _ qW rfl pV
     refine ⟨_,rfl,jo (show x.P qW from pV.getD 0) (k:=0) rfl (by rw [nN];rfl) ?_⟩
     have Vz:IntKind.wrap .i64 ((cJ x.rx:Int)+1)=((cJ x.rx+1:Nat):Int):=aZ _ (by omega)
     rw [Vz]
     refine one a (cJ x.rx+1) qW b2 _ (by omega) ha pV λuF rG=>?_
     rw [<-hu]
     refine loop (x.l.length - 1) 1 _ uF (by omega) (by omega) ?_ ?_ ef rG
     .have h1:=CN a.rx (JC a ha)
      have:=(nY (cJ x.rx+1) a.rx (gM a.rx)).2
      omega
     .have h1:=Rg a (cJ x.rx+1) (by omega)
      have h2:=rF (cJ x.rx+1) (Rt.bU (x.l.drop 1))
      have h3:=Nm x.l 1
      omega
    rcases hk with hk|hk|hk
    .exact ⟨by rw [hk];decide,by rw [hk];decide,vC ⟨ba [],by rw [hk];exact qn.ld 1 0,rest _ (by rw [hk];rfl)⟩⟩
    .exact ⟨by rw [hk];decide,by rw [hk];decide,vC ⟨ba [124],by rw [hk];exact qn.ld 1 1,rest _ (by rw [hk];rfl)⟩⟩
    .exact ⟨by rw [hk];decide,by rw [hk];decide,vC ⟨ba [38],by rw [hk];exact qn.ld 1 2,rest _ (by rw [hk];rfl)⟩⟩
  intro x lv w h Rb dP px
  by_cases hb:cJ x.rx<lv
  .have DU:=dP
   rw [Rt.c9] at DU
   obtain ⟨k0,k7,_,_⟩:=ti DU
   refine enthymemeref04_Write.cT _ _ _ _ _ w _ ((y9 px).bI λb2 w1 H1=>H1.aL (yA x w1 k0 k7 (H1.getD 0)) ?_)
   rintro _ w2 rfl H2
   refine ⟨_,rfl,aS (decide_eq_true (by omega)) (H2.aL (core x 0 w2 h (by omega) dP (H2.getD 0)) ?_)⟩
   rintro _ w3 rfl H3
   have pX:(gM x.rx).length<=18000000:=by have:=zW x.rx;rw [Rt.hM] at this;omega
   have e:ByteArray.mk #[40]++ba (gM x.rx)++ByteArray.mk #[41]=ba (40::(gM x.rx++[41])):=by
    show ba [40]++ba (gM x.rx)++ba [41]=_
    rw [dV,dV];simp
   refine ⟨_,rfl,?_,?_,?_,H3.fr⟩
   .rw [cD];show ¬(((1+_:Nat):Int)>9223372036854775807);omega
   .have:(ByteArray.mk #[40]++ba (gM x.rx)).size=1+(gM x.rx).length:=by
     show (ba [40]++_).size=_
     rw [dV,cD];simp;omega
    rw [this];show ¬(((_+1:Nat):Int)>9223372036854775807);omega
   .rw [e];unfold cN;rw [if_pos hb]
  .have:=core x lv w h hb dP px
   have e:cN lv x.rx (gM x.rx)=gM x.rx:=by unfold cN;rw [if_neg hb]
   rw [e]
   exact this
theorem Hq (x:Rt) (lv:Nat) (w:World) (h:x.sz<=1000000) (Rb:lv<=1000) (dP:okW x.rx=true) (px:x.P w):Calls Tryz.prog bM #[x.v,.i (lv:Int)] w λr w'=>r=.returned (.string (ba (cN lv x.rx (gM x.rx))))/\bF w w':=De 1000000 (Nat.le_refl _) x lv w h Rb dP px
theorem MR {s:BL} {x:Rx} {a:Nat} {e:Int} (h:wM s=some (x,a,e)):x.sz<=1000000:=by
 unfold wM at h
 split at h
 .simp only [Option.some.injEq,Prod.mk.injEq] at h
  rw [<-h.1];decide
 .dsimp only at h
  split at h
  .split at h
   .simp only [Option.some.injEq,Prod.mk.injEq] at h
    rw [<-h.1];decide
   .split at h
    .cases h
    .split at h
     .simp only [Option.some.injEq,Prod.mk.injEq] at h
      rw [<-h.1];decide
     .simp only [Option.some.injEq,Prod.mk.injEq] at h
      rw [<-h.1];omega
  .cases h
theorem Dc (s:ByteArray) (hs:s.size<=100000) (b:Bool) (hc:BX (bl s)=some b) (w:World):Calls Tryz.prog iu #[.string s] w λr w'=>r=.returned (.bool b)/\bF w w':=by
 unfold BX at hc
 cases hp:wM (bl s) with
 |none=>rw [hp] at hc;cases hc
 |some y=>
  obtain ⟨x,a,e⟩:=y
  rw [hp] at hc
  dsimp only at hc
  have me:=MR hp
  have H:LH F0 w w [] []:=mf [] (by simp)
  refine enthymemeref04_Canonical.cT _ w _ (H.Dm (Lg s hs x a e hp w) ?_)
  rintro _ w1 ⟨t,rfl,ht,pt,ft⟩ _ F1
  have H1:=F1.rd (.tree t) pt λb hb=>ft b (aI.1 hb)
  have RE:t.sz<=1000000:=by rw [<-Rt.hM,ht];exact me
  refine ⟨_,_,_,t.s,_,_,rfl,H1.bI λb3 w2 H2=>eB (λhe=>H2.aN λw3 H3=>⟨?_,H3.fr⟩) (λhe=>H2.aN λw3 H3=>?_)⟩
  .rw [if_neg he] at hc
   cases hc;rfl
  rw [if_pos he] at hc
  refine nS ((Di t w3 RE (H3.getD 0)).mono ?_)
  rintro _ w4 ⟨⟨u,rfl,hu,pu,fu⟩,f4⟩
  have H4:=H3.oe (.tree u) f4 pu λb hb=>(fu b (aI.1 hb)).imp id λhb=>.inr ⟨_,dC (i:=0) rfl,aI.2 hb⟩
  rw [ht] at hu
  refine ⟨f4,_,_,_,u.s,_,rfl,H4.bI λb6 w5 H5=>?_⟩
  rw [ht]
  refine aJ (λhn=>H5.aN λw6 H6=>?_) (λhn=>H5.aN λw6 H6=>⟨?_,H6.fr⟩)
  .rw [if_pos hn] at hc
   split at hc
   .rename_i dP
    rw [<-hu] at dP hc
    refine H6.aL (Hq u 0 w6 (by rw [<-Rt.hM];omega) (by omega) dP.1 (H6.getD 1)) ?_
    rintro _ w7 rfl H7
    refine ⟨_,rfl,?_,H7.fr⟩
    cases hc
    congr 2
    have:=AL (cN 0 u.rx (gM u.rx)) (bl s)
    rw [AK] at this
    exact this
   .cases hc
  .rw [if_neg hn] at hc
   cases hc;rfl
set_option maxRecDepth 100000
set_option maxHeartbeats 2000000
theorem Xf {P:Program} {n:Cx} {c:Code} {Q:Exit->Act->World->Prop} {E E':Env} {w:World} (h:∀t v,E'.get? t=some v->E.get? t=some v) (hw:WP P n c Q E' w):WP P n c Q E w:=λa ha=>hw a ⟨ha.defers,ha.size,λt v ht=>ha.get t v (h t v ht)⟩
theorem aad {E:Env} {i j:Nat} {a b:Value} (h1:E.get? i=some a) (h2:E.get? j=some b):∀t v,Env.get? [(i,a),(j,b)] t=some v->E.get? t=some v:=by
 intro t v h
 unfold Env.get? at h
 cases hi:Nat.beq i t with
 |true=>
  rw [hi] at h
  have:=Nat.eq_of_beq_eq_true hi
  subst this
  rw [h1];exact h
 |false=>
  rw [hi] at h
  have h:Env.get? [(j,b)] t=some v:=h
  unfold Env.get? at h
  cases hj:Nat.beq j t with
  |true=>
   rw [hj] at h
   have:=Nat.eq_of_beq_eq_true hj
   subst this
   rw [h2];exact h
  |false=>rw [hj] at h;cases h
namespace enthymemeref04_TextI
abbrev T9 (s:Sl) (k:Int) (w:World) (R:aD):Prop:=
 (0:Int)<=(Int.tmod (IntKind.wrap .i64 (Int.tdiv k 216)) 8)/\(Int.tmod (IntKind.wrap .i64 (Int.tdiv k 216)) 8)<((s.n:Nat):Int)/\aX s.a λp=>cA w (p.add (Int.toNat (Int.tmod (IntKind.wrap .i64 (Int.tdiv k 216)) 8) *4)) λa b c d=>NN eM #[.agg #[.i a,.int .u8 b,.int .u8 c,d.v]] w λe f g i w1=>Ln bM #[.agg #[.i e,.int .u8 f,.int .u8 g,i.v],.i 0] w1 λt w2=>R (.returned (.string t)) w2
def K9 (R:aD) (E:Env) (w:World):Prop:=∃(s:Sl) (k:Int),E.get? 9=some s.v/\E.get? 3=some (.i k)/\T9 s k w R
noncomputable def C0:Code:=(Tryz.f76.body).getD .skip
noncomputable def C1:=C0.sn
noncomputable def C2:=C1.sn
noncomputable def C3:=C2.sn
noncomputable def C4:=C3.sn
noncomputable def C5:=C4.sn
noncomputable def C6:=C5.sn
noncomputable def C7:=C6.sn
noncomputable def C8:=C7.sn
noncomputable def C9:=C8.sn
theorem ok (n0:Int) (w:World) (R:aD) (h:zZ aT #[.i n0,.i 1048576] w λt11 w1=>NN bQ #[] w1 λIL IM IN IP w2=>eV w2 (.cells #[.i 2,.int .u8 97,.int .u8 97,.slice none 0 0,.i 2,.int .u8 98,.int .u8 98,.slice none 0 0,.i 2,.int .u8 0,.int .u8 0,.slice none 0 0,.i 2,.int .u8 97,.int .u8 98,.slice none 0 0,.i 1,.int .u8 0,.int .u8 0,.slice none 0 0,.i IL,.int .u8 IM,.int .u8 IN,IP.v] aA) λw3=>
 (0:Int)<=(Int.tmod t11 6)/\(Int.tmod t11 6)<((6:Nat):Int)/\aX (some (nb w2)) λRF=>cA w3 (RF.add (Int.toNat (Int.tmod t11 6) *4)) λRG RH RI RJ=>eV w3 (.cells #[.i 0,.int .u8 0,.int .u8 0,.slice none 0 0] aA) λw4=>
 qA w4 (nb w3) (.i RG) (.int .u8 RH) (.int .u8 RI) (RJ.v) λw8=>(0:Int)<=(Int.tmod (IntKind.wrap .i64 (Int.tdiv t11 6)) 6)/\(Int.tmod (IntKind.wrap .i64 (Int.tdiv t11 6)) 6)<((6:Nat):Int)/\aX (some (nb w2)) λRK=>cA w8 (RK.add (Int.toNat (Int.tmod (IntKind.wrap .i64 (Int.tdiv t11 6)) 6) *4)) λRL RM RN RO=>eV w8 (.cells #[.i 0,.int .u8 0,.int .u8 0,.slice none 0 0] aA) λw9=>
 qA w9 (nb w8) (.i RL) (.int .u8 RM) (.int .u8 RN) (RO.v) λuF=>(0:Int)<=(Int.tmod (IntKind.wrap .i64 (Int.tdiv t11 36)) 6)/\(Int.tmod (IntKind.wrap .i64 (Int.tdiv t11 36)) 6)<((6:Nat):Int)/\aX (some (nb w2)) λRP=>cA uF (RP.add (Int.toNat (Int.tmod (IntKind.wrap .i64 (Int.tdiv t11 36)) 6) *4)) λRQ RR RS RT=>eV uF (.cells #[.i 0,.int .u8 0,.int .u8 0,.slice none 0 0] aA) λCV=>
 qA CV (nb uF) (.i RQ) (.int .u8 RR) (.int .u8 RS) (RT.v) λKD=>cA KD (nb w3) λRU RV RW RX=>eV KD (.cells #[.i RU,.int .u8 RV,.int .u8 RW,RX.v] aA) λSa=>
 eV Sa (.cells #[.i 0,.int .u8 0,.int .u8 0,.slice none 0 0] aA) λX0=>
 qA X0 (nb Sa) (.i 7) (.int .u8 0) (.int .u8 0) (.slice (some (nb KD)) 1 1) λFk=>WR Tryz.prog C7 (K9 R) [(8,.pointer (some (nb Sa))),(38,.agg #[.i 7,.int .u8 0,.int .u8 0,.slice (some (nb KD)) 1 1]),(37,.slice (some (nb KD)) 1 1),(36,.agg #[.i RU,.int .u8 RV,.int .u8 RW,RX.v]),(7,.pointer (some (nb uF))),(35,.agg #[.i RQ,.int .u8 RR,.int .u8 RS,RT.v]),(34,.pointer (some (RP.add (Int.toNat (Int.tmod (IntKind.wrap .i64 (Int.tdiv t11 36)) 6) *4)))),(33,.i (Int.tmod (IntKind.wrap .i64 (Int.tdiv t11 36)) 6)),(32,.i (IntKind.wrap .i64 (Int.tdiv t11 36))),(31,.i t11),(30,.slice (some (nb w2)) 6 6),(6,.pointer (some (nb w8))),(29,.agg #[.i RL,.int .u8 RM,.int .u8 RN,RO.v]),(28,.pointer (some (RK.add (Int.toNat (Int.tmod (IntKind.wrap .i64 (Int.tdiv t11 6)) 6) *4)))),(27,.i (Int.tmod (IntKind.wrap .i64 (Int.tdiv t11 6)) 6)),(26,.i (IntKind.wrap .i64 (Int.tdiv t11 6))),(25,.i t11),(24,.slice (some (nb w2)) 6 6),(5,.pointer (some (nb w3))),(23,.agg #[.i RG,.int .u8 RH,.int .u8 RI,RJ.v]),(22,.pointer (some (RF.add (Int.toNat (Int.tmod t11 6) *4)))),(21,.i (Int.tmod t11 6)),(20,.i t11),(19,.slice (some (nb w2)) 6 6),(4,.slice (some (nb w2)) 6 6),(18,.slice (some (nb w2)) 6 6),(17,.agg #[.i IL,.int .u8 IM,.int .u8 IN,IP.v]),(16,.agg #[.i 1,.int .u8 0,.int .u8 0,.slice none 0 0]),(15,.agg #[.i 2,.int .u8 97,.int .u8 98,.slice none 0 0]),(14,.agg #[.i 2,.int .u8 0,.int .u8 0,.slice none 0 0]),(13,.agg #[.i 2,.int .u8 98,.int .u8 98,.slice none 0 0]),(12,.agg #[.i 2,.int .u8 97,.int .u8 97,.slice none 0 0]),(3,.i t11),(11,.i t11),(10,.i n0),(2,.s0),(0,.i n0)] Fk):Calls Tryz.prog kD #[.i n0] w R:=
 oU (R:=R) (fn:=Tryz.f76) (c:=C0) (args:=[.i n0]) (by kernel_rfl) (by kernel_rfl) (by kernel_rfl) (sr C0 (show (λ(E:Env) (w:World)=>xT Tryz.prog C0 (λE w=>xT Tryz.prog C1 (λE w=>xT Tryz.prog C2 (λE w=>xT Tryz.prog C3 (λE w=>xT Tryz.prog C4 (λE w=>xT Tryz.prog C5 (λE w=>xT Tryz.prog C6 (λE w=>WR Tryz.prog C7 (K9 R) E w) E w) E w) E w) E w) E w) E w) E w) (rI 0 [.i n0]) w from mp h) λ_ _ hK=>(sr C1 hK λ_ _ hK=>(sr C2 hK λ_ _ hK=>(sr C3 hK λ_ _ hK=>(sr C4 hK λ_ _ hK=>(sr C5 hK λ_ _ hK=>(sr C6 hK λ_ _ hK=>(si C7 (by kernel_rfl) hK λ_ _ hK=>(let ⟨s,k,h9,h3,h⟩:=hK;Xf (E':=[(9,s.v),(3,.i k)]) (aad h9 h3) (sr C8 (show xT Tryz.prog C8 (λE w=>rM Tryz.prog Tryz.f76 E w (λv=>R (.returned v) w)) [(9,s.v),(3,.i k)] _ from mp h) λ_ _ hK=>(rt C9 λa hA=>qj hA hK)))))))))))
end enthymemeref04_TextI
inductive U' where
 |tr (x:Rx)
 |ls (l:List Rx)
def DV (base:Nat) (w:World) (v:Option Value):U'->Prop
 |.tr x=>∃t:Rt,v=some t.v/\t.rx=x/\t.P w/\∀b∈t.fp,base<=b
 |.ls l=>∃(s:Sl) (ts:List Rt),v=some s.v/\Rt.bU ts=l/\(eD s ts).P w/\∀b∈(eD s ts).fp,base<=b
theorem DV.ot {base:Nat} {w w':World} {v:Option Value} {sp:U'} (h:DV base w v sp) (f:bF w w'):DV base w' v sp:=by
 cases sp with
 |tr x=>obtain ⟨t,h1,h2,h3,h4⟩:=h;exact ⟨t,h1,h2,h3.ot f,h4⟩
 |ls l=>obtain ⟨s,ts,h1,h2,h3,h4⟩:=h;exact ⟨s,ts,h1,h2,h3.ot f,h4⟩
def je (i:Nat):Nat:=if i=40 then 9 else 39+i
def tP (base:Nat) (w:World) (E:Env) (t:Nat) (x:Rx):Prop:=∃(b:Nat) (u:Rt),E.get? t=some (.pointer (some (bD b)))/\w.heap[b]? =some (.cells u.c.toArray aA (0,0))/\u.rx=x/\u.P w/\∀c∈u.fp,base<=c
theorem tP.ot {base:Nat} {w w':World} {E:Env} {t:Nat} {x:Rx} (h:tP base w E t x) (f:bF w w'):tP base w' E t x:=by
 obtain ⟨b,u,h1,h2,h3,h4,h5⟩:=h
 exact ⟨b,u,h1,(f.gV b (gg h2) id).trans h2,h3,h4.ot f,h5⟩
theorem tP.put {base:Nat} {w:World} {E:Env} {t d:Nat} {v:Value} {x:Rx} (h:tP base w E t x) (hd:d≠t):tP base w (E.put (some d) v) t x:=by
 obtain ⟨b,u,h1,h2⟩:=h
 exact ⟨b,u,by rw [eQ hd];exact h1,h2⟩
section
variable (w0:World) (base:Nat) (kk:Int) (Xa Xb Xc Xs:Rx)
def fX:List U':=[.tr Xa,
 .tr Xa,
 .tr Xb,
 .ls [Xa,Xb],
 .tr (.mk 3 0 0 [Xa,Xb]),
 .tr Xa,
 .tr Xb,
 .tr Xc,
 .ls [Xa,Xb,Xc],
 .tr (.mk 4 0 0 [Xa,Xb,Xc]),
 .tr Xs,
 .tr Xs,
 .tr Xb,
 .ls [Xs,Xb],
 .tr (.mk 3 0 0 [Xs,Xb]),
 .tr Xa,
 .tr Xb,
 .ls [Xa,Xb],
 .tr (.mk 3 0 0 [Xa,Xb]),
 .ls [(.mk 3 0 0 [Xa,Xb])],
 .tr (.mk 6 0 0 [(.mk 3 0 0 [Xa,Xb])]),
 .tr Xb,
 .tr Xa,
 .tr Xc,
 .ls [Xa,Xc],
 .tr (.mk 4 0 0 [Xa,Xc]),
 .ls [(.mk 4 0 0 [Xa,Xc])],
 .tr (.mk 7 0 0 [(.mk 4 0 0 [Xa,Xc])]),
 .ls [Xb,(.mk 7 0 0 [(.mk 4 0 0 [Xa,Xc])])],
 .tr (.mk 3 0 0 [Xb,(.mk 7 0 0 [(.mk 4 0 0 [Xa,Xc])])]),
 .tr Xb,
 .ls [Xb],
 .tr (.mk 6 0 0 [Xb]),
 .tr Xa,
 .tr fE,
 .ls [Xa,fE],
 .tr (.mk 3 0 0 [Xa,fE]),
 .ls [(.mk 6 0 0 [Xb]),(.mk 3 0 0 [Xa,fE])],
 .tr (.mk 5 0 0 [(.mk 6 0 0 [Xb]),(.mk 3 0 0 [Xa,fE])]),
 .ls [Xa,(.mk 3 0 0 [Xa,Xb]),(.mk 4 0 0 [Xa,Xb,Xc]),Xs,(.mk 3 0 0 [Xs,Xb]),(.mk 6 0 0 [(.mk 3 0 0 [Xa,Xb])]),(.mk 3 0 0 [Xb,(.mk 7 0 0 [(.mk 4 0 0 [Xa,Xc])])]),(.mk 5 0 0 [(.mk 6 0 0 [Xb]),(.mk 3 0 0 [Xa,fE])])],
 .ls [Xa,(.mk 3 0 0 [Xa,Xb]),(.mk 4 0 0 [Xa,Xb,Xc]),Xs,(.mk 3 0 0 [Xs,Xb]),(.mk 6 0 0 [(.mk 3 0 0 [Xa,Xb])]),(.mk 3 0 0 [Xb,(.mk 7 0 0 [(.mk 4 0 0 [Xa,Xc])])]),(.mk 5 0 0 [(.mk 6 0 0 [Xb]),(.mk 3 0 0 [Xa,fE])])]]
structure JT (L:Nat->Bool) (E:Env) (w:World):Prop where
 fr:bF w0 w
 k:E.get? 3=some (.i kk)
 a:tP base w E 5 Xa
 b:tP base w E 6 Xb
 c:tP base w E 7 Xc
 s:tP base w E 8 Xs
 all:∀(i:Nat) (sp:U'),(fX Xa Xb Xc Xs)[i]? =some sp->L i=true->DV base w (E.get? (je i)) sp
variable {w0 base kk Xa Xb Xc Xs}
theorem JT.step {L:Nat->Bool} {E:Env} {w w':World} (J:JT w0 base kk Xa Xb Xc Xs L E w) (f:bF w w') {i d:Nat} (hd:d=je i) {v:Value} {sp:U'} (hs:(fX Xa Xb Xc Xs)[i]? =some sp) (h:DV base w' (some v) sp):JT w0 base kk Xa Xb Xc Xs (jg L i) (E.put (some d) v) w':=by
 have hn:9<=d:=by rw [hd];unfold je;split<;>omega
 refine ⟨J.fr.zM f,by rw [eQ (by omega)];exact J.k,(J.a.ot f).put (by omega),(J.b.ot f).put (by omega),(J.c.ot f).put (by omega),(J.s.ot f).put (by omega),λj sq hq hL=>?_⟩
 by_cases hj:j=i
 .subst hj
  rw [hs] at hq;cases hq
  rw [<-hd,th]
  exact h
 .have iq:d≠je j:=by
   rw [hd]
   have h1:i<41:=(List.getElem?_eq_some_iff.1 hs).1
   have h2:j<41:=(List.getElem?_eq_some_iff.1 hq).1
   unfold je
   split<;>split<;>omega
  rw [eQ iq]
  refine (J.all j sq hq ?_).ot f
  have:Nat.beq j i=false:=by rw [<-Bool.not_eq_true,Nat.beq_eq];exact hj
  simpa [jg,this] using hL
abbrev sd (w0:World) (base:Nat) (kk:Int) (Xa Xb Xc Xs:Rx) (i:Nat) (r:Op×Option Nat×TypeId×List Nat):Prop:=N6 Tryz.prog (JT w0 base kk Xa Xb Xc Xs) i r
theorem Pb {b:Nat} {u:Rt} {w:World} (hb:w.heap[b]? =some (.cells u.c.toArray aA (0,0))) {K:Value->Prop} (hk:K u.v):At Tryz.prog aA (bD b) w λv _=>K v:=by
 have c0:=cellAt (p:=bD b) (i:=0) (v:=.int .i64 u.k) hb rfl rfl
 have c1:=cellAt (p:=bD b) (i:=1) (v:=.int .u8 (u.lo.toNat:Int)) hb rfl rfl
 have c2:=cellAt (p:=bD b) (i:=2) (v:=.int .u8 (u.hi.toNat:Int)) hb rfl rfl
 have c3:=cellAt (p:=bD b) (i:=3) (v:=u.s.v) hb rfl rfl
 have e:(At Tryz.prog aA (bD b) w λv _=>K v)=(∃n0:Int,∃n1:Int,∃n2:Int,∃n3:Sl,w.cell? ((bD b).add 0)=some (.int .i64 n0)/\w.cell? ((bD b).add 1)=some (.int .u8 n1)/\w.cell? ((bD b).add 2)=some (.int .u8 n2)/\w.cell? ((bD b).add 3)=some n3.v/\K (.agg #[.int .i64 n0,.int .u8 n1,.int .u8 n2,n3.v])):=by kernel_rfl
 rw [e]
 exact ⟨_,_,_,u.s,c0,c1,c2,c3,hk⟩
theorem Cv {ty:TypeId} {ds:List Nat} {t:Nat} {x:Rx} (i d:Nat) (hd:d=je i) (hs:(fX Xa Xb Xc Xs)[i]? =some (.tr x)) (hv:∀L E w,JT w0 base kk Xa Xb Xc Xs L E w->tP base w E t x):sd w0 base kk Xa Xb Xc Xs i (.load aA (.tmp t),some d,ty,ds):=by
 intro L E w o ho tv ht hi dT J
 obtain ⟨b,u,h1,h2,h3,h4,h5⟩:=hv L E w J
 refine zy ho h1 (Pb h2 ?_)
 rw [tv]
 exact J.step (Fr.refl _ _) hd hs ⟨u,rfl,h3,h4,h5⟩
theorem tm {ty:TypeId} {ds:List Nat} (i d:Nat) (hs:(fX Xa Xb Xc Xs)[i]? =some (.tr Xa)) (hd:d=je i:=by rfl):sd w0 base kk Xa Xb Xc Xs i (.load aA (.tmp 5),some d,ty,ds):=Cv i d hd hs λ_ _ _ J=>J.a
theorem tn {ty:TypeId} {ds:List Nat} (i d:Nat) (hs:(fX Xa Xb Xc Xs)[i]? =some (.tr Xb)) (hd:d=je i:=by rfl):sd w0 base kk Xa Xb Xc Xs i (.load aA (.tmp 6),some d,ty,ds):=Cv i d hd hs λ_ _ _ J=>J.b
theorem Iy {ty:TypeId} {ds:List Nat} (i d:Nat) (hs:(fX Xa Xb Xc Xs)[i]? =some (.tr Xc)) (hd:d=je i:=by rfl):sd w0 base kk Xa Xb Xc Xs i (.load aA (.tmp 7),some d,ty,ds):=Cv i d hd hs λ_ _ _ J=>J.c
theorem Iz {ty:TypeId} {ds:List Nat} (i d:Nat) (hs:(fX Xa Xb Xc Xs)[i]? =some (.tr Xs)) (hd:d=je i:=by rfl):sd w0 base kk Xa Xb Xc Xs i (.load aA (.tmp 8),some d,ty,ds):=Cv i d hd hs λ_ _ _ J=>J.s
theorem PM (a:Rt) (w:World):(Instr.buildSlice aC 1 #[((0:Nat),a.v)]).run Tryz.prog w=.ok (.slice (some (bD w.heap.size)) 1 1) (w.alloc (.cells ([a].flatMap Rt.c).toArray aA)):=by kernel_rfl
theorem PN (a b:Rt) (w:World):(Instr.buildSlice aC 2 #[((0:Nat),a.v),(1,b.v)]).run Tryz.prog w=.ok (.slice (some (bD w.heap.size)) 2 2) (w.alloc (.cells ([a,b].flatMap Rt.c).toArray aA)):=by kernel_rfl
theorem PO (a b c:Rt) (w:World):(Instr.buildSlice aC 3 #[((0:Nat),a.v),(1,b.v),(2,c.v)]).run Tryz.prog w=.ok (.slice (some (bD w.heap.size)) 3 3) (w.alloc (.cells ([a,b,c].flatMap Rt.c).toArray aA)):=by kernel_rfl
theorem PQ (a b c q e g r s:Rt) (w:World):(Instr.buildSlice aC 8 #[((0:Nat),a.v),(1,b.v),(2,c.v),(3,q.v),(4,e.v),(5,g.v),(6,r.v),(7,s.v)]).run Tryz.prog w=.ok (.slice (some (bD w.heap.size)) 8 8) (w.alloc (.cells ([a,b,c,q,e,g,r,s].flatMap Rt.c).toArray aA)):=by kernel_rfl
theorem II {o:Oper} {T:TypeId} {n:Nat} {parts:Array (Nat×Operand)} {E:Env} {w w':World} {v:Value} {K:Env->World->Prop} (ho:o.op=.buildSlice T n parts) (hc:E.fT o=true) (hr:(Instr.buildSlice T n (parts.map λp=>(p.1,E.ev p.2))).run Tryz.prog w=.ok v w') (h:K (E.put o.dst v) w'):oA Tryz.prog o E w K:=by
 obtain ⟨dst,op,ty,pos,after,guard⟩:=o
 simp only at ho
 subst ho
 have he:wu Tryz.prog ⟨dst,.buildSlice T n parts,ty,pos,after,guard⟩ E w (λv w'=>K (E.put dst v) w'):=by
  unfold wu
  rw [hc]
  show hO true _
  simp only [execOp]
  rw [show (λ(x:Nat×Operand)=>match x with |(i,x)=>(i,E.ev x))=λp=>(p.1,E.ev p.2) from rfl]
  simp [hr]
  exact h
 unfold oA
 simp only [calm,cond_false]
 unfold mi
 exact he
theorem mH {E:Env} {t:Nat} {v:Value} (h:E.get? t=some v):E.ev (.tmp t)=v:=by simp [Env.ev,Env.val,h]
theorem vq {w:World} {ts:List Rt} {n:Nat} (hn:n=ts.length) (hm:n<=1000) (hp:Rt.Ps w ts) (hf:∀b∈Rt.gN ts,base<=b) (hb:base<=w.heap.size):
  (eD ⟨some (bD w.heap.size),n,n⟩ ts).P (w.alloc (.cells (ts.flatMap Rt.c).toArray aA))/\∀b∈(eD ⟨some (bD w.heap.size),n,n⟩ ts).fp,base<=b:=by
 have jK:=aO.made w aA 4 n (ts.flatMap Rt.c) (by rw [Rt.gH,hn]) (by unfold maxLen;omega)
 refine ⟨fM.2 ⟨jK.iQ,hp.ot (Fr.alloc _ _ _)⟩,λb eC=>?_⟩
 rcases oF.1 eC with h|h
 .exact Cq (λc hc=>by simp only [bA,cU,qnM,or_false] at hc;rw [hc];exact hb) b h
 .exact hf b h
theorem JT.uL {L:Nat->Bool} {E:Env} {w:World} (J:JT w0 base kk Xa Xb Xc Xs L E w) (hb:base<=w0.heap.size):base<=w.heap.size:=Nat.le_trans hb J.fr.size
section
variable (mj:base<=w0.heap.size)
include mj
theorem Cu {ty:TypeId} {ds:List Nat} (i d j0:Nat) {t0:Nat} {x0:Rx} (hs:(fX Xa Xb Xc Xs)[i]? =some (.ls [x0])) (h0:(fX Xa Xb Xc Xs)[j0]? =some (.tr x0)) (m0:j0∈ds) (hd:d=je i:=by rfl) (e0:t0=je j0:=by rfl):sd w0 base kk Xa Xb Xc Xs i (.buildSlice aC 1 #[(0,.tmp t0)],some d,ty,ds):=by
 intro L E w o ho tv ht hi dT J
 obtain ⟨a,a1,a2,a3,a4⟩:=J.all j0 _ h0 (dT j0 m0)
 rw [<-e0] at a1
 have hm:=vq (base:=base) (w:=w) (ts:=[a]) (n:=1) rfl (by omega) (Rt.ox (by simp [a3])) (by simp [Rt.gN];exact a4) (J.uL mj)
 refine II (w':=w.alloc (.cells ([a].flatMap Rt.c).toArray aA)) (v:=.slice (some (bD w.heap.size)) 1 1) ho (by obtain ⟨_,op,_,_,_,_⟩:=o;simp only at ho;subst ho;simp [Env.fT,Op.operands,Env.val,a1]) ?_ ?_
 .rw [show (#[((0:Nat),Operand.tmp t0)].map λp=>(p.1,E.ev p.2))=#[((0:Nat),a.v)] by simp [mH a1]]
  exact PM a w
 .rw [tv]
  exact J.step (Fr.alloc _ _ _) hd hs ⟨⟨some (bD w.heap.size),1,1⟩,[a],rfl,by simp [Rt.bU,a2],hm.1,hm.2⟩
theorem rv {ty:TypeId} {ds:List Nat} (i d j0 j1:Nat) {t0 t1:Nat} {x0 x1:Rx} (hs:(fX Xa Xb Xc Xs)[i]? =some (.ls [x0,x1])) (h0:(fX Xa Xb Xc Xs)[j0]? =some (.tr x0)) (h1:(fX Xa Xb Xc Xs)[j1]? =some (.tr x1)) (m0:j0∈ds) (m1:j1∈ds) (hd:d=je i:=by rfl) (e0:t0=je j0:=by rfl) (e1:t1=je j1:=by rfl):sd w0 base kk Xa Xb Xc Xs i (.buildSlice aC 2 #[(0,.tmp t0),(1,.tmp t1)],some d,ty,ds):=by
 intro L E w o ho tv ht hi dT J
 obtain ⟨a,a1,a2,a3,a4⟩:=J.all j0 _ h0 (dT j0 m0)
 obtain ⟨b,b1,b2,b3,b4⟩:=J.all j1 _ h1 (dT j1 m1)
 rw [<-e0] at a1
 rw [<-e1] at b1
 have hm:=vq (base:=base) (w:=w) (ts:=[a,b]) (n:=2) rfl (by omega) (Rt.ox (by simp [a3,b3])) (by simp [Rt.gN];exact λc hc=>hc.elim (a4 c) (b4 c)) (J.uL mj)
 refine II (w':=w.alloc (.cells ([a,b].flatMap Rt.c).toArray aA)) (v:=.slice (some (bD w.heap.size)) 2 2) ho (by obtain ⟨_,op,_,_,_,_⟩:=o;simp only at ho;subst ho;simp [Env.fT,Op.operands,Env.val,a1,b1]) ?_ ?_
 .rw [show (#[((0:Nat),Operand.tmp t0),(1,.tmp t1)].map λp=>(p.1,E.ev p.2))=#[((0:Nat),a.v),(1,b.v)] by simp [mH a1,mH b1]]
  exact PN a b w
 .rw [tv]
  exact J.step (Fr.alloc _ _ _) hd hs ⟨⟨some (bD w.heap.size),2,2⟩,[a,b],rfl,by simp [Rt.bU,a2,b2],hm.1,hm.2⟩
theorem PJ {ty:TypeId} {ds:List Nat} (i d j0 j1 j2:Nat) {t0 t1 t2:Nat} {x0 x1 x2:Rx} (hs:(fX Xa Xb Xc Xs)[i]? =some (.ls [x0,x1,x2])) (h0:(fX Xa Xb Xc Xs)[j0]? =some (.tr x0)) (h1:(fX Xa Xb Xc Xs)[j1]? =some (.tr x1)) (h2:(fX Xa Xb Xc Xs)[j2]? =some (.tr x2)) (m0:j0∈ds) (m1:j1∈ds) (m2:j2∈ds) (hd:d=je i:=by rfl) (e0:t0=je j0:=by rfl) (e1:t1=je j1:=by rfl) (e2:t2=je j2:=by rfl):sd w0 base kk Xa Xb Xc Xs i (.buildSlice aC 3 #[(0,.tmp t0),(1,.tmp t1),(2,.tmp t2)],some d,ty,ds):=by
 intro L E w o ho tv ht hi dT J
 obtain ⟨a,a1,a2,a3,a4⟩:=J.all j0 _ h0 (dT j0 m0)
 obtain ⟨b,b1,b2,b3,b4⟩:=J.all j1 _ h1 (dT j1 m1)
 obtain ⟨c,c1,c2,c3,c4⟩:=J.all j2 _ h2 (dT j2 m2)
 rw [<-e0] at a1
 rw [<-e1] at b1
 rw [<-e2] at c1
 have hm:=vq (base:=base) (w:=w) (ts:=[a,b,c]) (n:=3) rfl (by omega) (Rt.ox (by simp [a3,b3,c3])) (by simp [Rt.gN];exact λz hz=>hz.elim (a4 z) (λhz=>hz.elim (b4 z) (c4 z))) (J.uL mj)
 refine II (w':=w.alloc (.cells ([a,b,c].flatMap Rt.c).toArray aA)) (v:=.slice (some (bD w.heap.size)) 3 3) ho (by obtain ⟨_,op,_,_,_,_⟩:=o;simp only at ho;subst ho;simp [Env.fT,Op.operands,Env.val,a1,b1,c1]) ?_ ?_
 .rw [show (#[((0:Nat),Operand.tmp t0),(1,.tmp t1),(2,.tmp t2)].map λp=>(p.1,E.ev p.2))=#[((0:Nat),a.v),(1,b.v),(2,c.v)] by simp [mH a1,mH b1,mH c1]]
  exact PO a b c w
 .rw [tv]
  exact J.step (Fr.alloc _ _ _) hd hs ⟨⟨some (bD w.heap.size),3,3⟩,[a,b,c],rfl,by simp [Rt.bU,a2,b2,c2],hm.1,hm.2⟩
theorem PK {ty:TypeId} {ds:List Nat} (i d j0 j1 j2 j3 j4 j5 j6 j7:Nat) {t0 t1 t2 t3 t4 t5 t6 t7:Nat} {x0 x1 x2 x3 x4 x5 x6 x7:Rx} (hs:(fX Xa Xb Xc Xs)[i]? =some (.ls [x0,x1,x2,x3,x4,x5,x6,x7])) (h0:(fX Xa Xb Xc Xs)[j0]? =some (.tr x0)) (h1:(fX Xa Xb Xc Xs)[j1]? =some (.tr x1)) (h2:(fX Xa Xb Xc Xs)[j2]? =some (.tr x2)) (h3:(fX Xa Xb Xc Xs)[j3]? =some (.tr x3)) (h4:(fX Xa Xb Xc Xs)[j4]? =some (.tr x4)) (h5:(fX Xa Xb Xc Xs)[j5]? =some (.tr x5)) (h6:(fX Xa Xb Xc Xs)[j6]? =some (.tr x6)) (h7:(fX Xa Xb Xc Xs)[j7]? =some (.tr x7)) (m0:j0∈ds) (m1:j1∈ds) (m2:j2∈ds) (m3:j3∈ds) (m4:j4∈ds) (m5:j5∈ds) (m6:j6∈ds) (m7:j7∈ds) (hd:d=je i:=by rfl) (e0:t0=je j0:=by rfl) (e1:t1=je j1:=by rfl) (e2:t2=je j2:=by rfl) (e3:t3=je j3:=by rfl) (e4:t4=je j4:=by rfl) (e5:t5=je j5:=by rfl) (e6:t6=je j6:=by rfl) (e7:t7=je j7:=by rfl):
  sd w0 base kk Xa Xb Xc Xs i (.buildSlice aC 8 #[(0,.tmp t0),(1,.tmp t1),(2,.tmp t2),(3,.tmp t3),(4,.tmp t4),(5,.tmp t5),(6,.tmp t6),(7,.tmp t7)],some d,ty,ds):=by
 intro L E w o ho tv ht hi dT J
 obtain ⟨a,a1,a2,a3,a4⟩:=J.all j0 _ h0 (dT j0 m0)
 obtain ⟨b,b1,b2,b3,b4⟩:=J.all j1 _ h1 (dT j1 m1)
 obtain ⟨c,c1,c2,c3,c4⟩:=J.all j2 _ h2 (dT j2 m2)
 obtain ⟨q,q1,q2,q3,q4⟩:=J.all j3 _ h3 (dT j3 m3)
 obtain ⟨e,f1,f2,f3,f4⟩:=J.all j4 _ h4 (dT j4 m4)
 obtain ⟨g,g1,g2,g3,g4⟩:=J.all j5 _ h5 (dT j5 m5)
 obtain ⟨r,r1,r2,r3,r4⟩:=J.all j6 _ h6 (dT j6 m6)
 obtain ⟨s,s1,s2,s3,s4⟩:=J.all j7 _ h7 (dT j7 m7)
 rw [<-e0] at a1
 rw [<-e1] at b1
 rw [<-e2] at c1
 rw [<-e3] at q1
 rw [<-e4] at f1
 rw [<-e5] at g1
 rw [<-e6] at r1
 rw [<-e7] at s1
 have hm:=vq (base:=base) (w:=w) (ts:=[a,b,c,q,e,g,r,s]) (n:=8) rfl (by omega) (Rt.ox (by simp [a3,b3,c3,q3,f3,g3,r3,s3])) (by
  intro z hz
  obtain ⟨t,ht,hy⟩:=Rt.bC.1 hz
  clear hz
  simp only [cU,qnM,or_false] at ht
  rcases ht with rfl|rfl|rfl|rfl|rfl|rfl|rfl|rfl
  .exact a4 z hy
  .exact b4 z hy
  .exact c4 z hy
  .exact q4 z hy
  .exact f4 z hy
  .exact g4 z hy
  .exact r4 z hy
  .exact s4 z hy) (J.uL mj)
 refine II (w':=w.alloc (.cells ([a,b,c,q,e,g,r,s].flatMap Rt.c).toArray aA)) (v:=.slice (some (bD w.heap.size)) 8 8) ho (by obtain ⟨_,op,_,_,_,_⟩:=o;simp only at ho;subst ho;simp [Env.fT,Op.operands,Env.val,a1,b1,c1,q1,f1,g1,r1,s1]) ?_ ?_
 .rw [show (#[((0:Nat),Operand.tmp t0),(1,.tmp t1),(2,.tmp t2),(3,.tmp t3),(4,.tmp t4),(5,.tmp t5),(6,.tmp t6),(7,.tmp t7)].map λp=>(p.1,E.ev p.2))=#[((0:Nat),a.v),(1,b.v),(2,c.v),(3,q.v),(4,e.v),(5,g.v),(6,r.v),(7,s.v)] by simp [mH a1,mH b1,mH c1,mH q1,mH f1,mH g1,mH r1,mH s1]]
  exact PQ a b c q e g r s w
 .rw [tv]
  exact J.step (Fr.alloc _ _ _) hd hs ⟨⟨some (bD w.heap.size),8,8⟩,[a,b,c,q,e,g,r,s],rfl,by simp [Rt.bU,a2,b2,c2,q2,f2,g2,r2,s2],hm.1,hm.2⟩
end
theorem WW {o:Oper} {k:Int} {t:Nat} {s:Sl} {E:Env} {w:World} {K:Env->World->Prop} (hk:k=3\/k=4\/k=5\/k=6\/k=7) (ho:o.op=.build aA #[(0,.const (.int .i64 k)),(3,.tmp t)]) (ht:E.get? t=some s.v) (h:K (E.put o.dst (.agg #[.i k,.int .u8 0,.int .u8 0,s.v])) w):oA Tryz.prog o E w K:=by
 obtain ⟨dst,op,ty,pos,after,guard⟩:=o
 simp only at ho
 subst ho
 show iy Tryz.prog _ E (λv _=>K (E.put dst v) w)
 have hc:E.fT ⟨dst,.build aA #[(0,.const (.int .i64 k)),(3,.tmp t)],ty,pos,after,guard⟩=true:=by simp [Env.fT,Op.operands,Env.val,ht]
 unfold iy
 rw [hc]
 have e:execOp E.ev ⟨dst,.build aA #[(0,.const (.int .i64 k)),(3,.tmp t)],ty,pos,after,guard⟩=execOp (λx=>match x with |.const v=>v|_=>s.v) ⟨dst,.build aA #[(0,.const (.int .i64 k)),(3,.tmp t)],ty,pos,after,guard⟩:=by
  have:E.ev (.tmp t)=s.v:=mH ht
  have h2:E.ev (.const (.int .i64 k))=.int .i64 k:=by simp [Env.ev,Env.val]
  simp only [execOp,List.map_toArray,List.map_cons,List.map_nil,this,h2]
 rw [e]
 have e2:rq Tryz.prog (execOp (λx=>match x with |.const v=>v|_=>s.v) ⟨dst,.build aA #[(0,.const (.int .i64 k)),(3,.tmp t)],ty,pos,after,guard⟩)=some (.value (.agg #[.i k,.int .u8 0,.int .u8 0,s.v])):=by
  kernel_rfl
 rw [e2]
 exact h
theorem zo {ty:TypeId} {ds:List Nat} (k:Int) (hk:k=3\/k=4\/k=5\/k=6\/k=7) (i d j:Nat) {t:Nat} {l:List Rx} (hs:(fX Xa Xb Xc Xs)[i]? =some (.tr (.mk k 0 0 l))) (h0:(fX Xa Xb Xc Xs)[j]? =some (.ls l)) (m:j∈ds) (hd:d=je i) (e0:t=je j):sd w0 base kk Xa Xb Xc Xs i (.build aA #[(0,.const (.int .i64 k)),(3,.tmp t)],some d,ty,ds):=by
 intro L E w o ho tv ht hi dT J
 obtain ⟨s,ts,a1,a2,a3,a4⟩:=J.all j _ h0 (dT j m)
 rw [<-e0] at a1
 refine WW hk ho a1 ?_
 rw [tv]
 refine J.step (Fr.refl _ _) hd hs ⟨.mk k 0 0 s ts,rfl,by rw [<-a2];rfl,?_,λb hb=>a4 b ?_⟩
 .have:=fM.1 a3
  unfold Rt.P
  exact this
 .unfold Rt.fp at hb
  unfold eD Rt.fp
  exact hb
theorem vI {ty:TypeId} {ds:List Nat} (i d j:Nat) {t:Nat} {l:List Rx} (hs:(fX Xa Xb Xc Xs)[i]? =some (.tr (.mk 3 0 0 l))) (h0:(fX Xa Xb Xc Xs)[j]? =some (.ls l)) (m:j∈ds) (hd:d=je i:=by rfl) (e0:t=je j:=by rfl):sd w0 base kk Xa Xb Xc Xs i (.build aA #[(0,.const (.int .i64 3)),(3,.tmp t)],some d,ty,ds):=zo 3 (by omega) i d j hs h0 m hd e0
theorem Iw {ty:TypeId} {ds:List Nat} (i d j:Nat) {t:Nat} {l:List Rx} (hs:(fX Xa Xb Xc Xs)[i]? =some (.tr (.mk 4 0 0 l))) (h0:(fX Xa Xb Xc Xs)[j]? =some (.ls l)) (m:j∈ds) (hd:d=je i:=by rfl) (e0:t=je j:=by rfl):sd w0 base kk Xa Xb Xc Xs i (.build aA #[(0,.const (.int .i64 4)),(3,.tmp t)],some d,ty,ds):=zo 4 (by omega) i d j hs h0 m hd e0
theorem PH {ty:TypeId} {ds:List Nat} (i d j:Nat) {t:Nat} {l:List Rx} (hs:(fX Xa Xb Xc Xs)[i]? =some (.tr (.mk 5 0 0 l))) (h0:(fX Xa Xb Xc Xs)[j]? =some (.ls l)) (m:j∈ds) (hd:d=je i:=by rfl) (e0:t=je j:=by rfl):sd w0 base kk Xa Xb Xc Xs i (.build aA #[(0,.const (.int .i64 5)),(3,.tmp t)],some d,ty,ds):=zo 5 (by omega) i d j hs h0 m hd e0
theorem Ix {ty:TypeId} {ds:List Nat} (i d j:Nat) {t:Nat} {l:List Rx} (hs:(fX Xa Xb Xc Xs)[i]? =some (.tr (.mk 6 0 0 l))) (h0:(fX Xa Xb Xc Xs)[j]? =some (.ls l)) (m:j∈ds) (hd:d=je i:=by rfl) (e0:t=je j:=by rfl):sd w0 base kk Xa Xb Xc Xs i (.build aA #[(0,.const (.int .i64 6)),(3,.tmp t)],some d,ty,ds):=zo 6 (by omega) i d j hs h0 m hd e0
theorem PI {ty:TypeId} {ds:List Nat} (i d j:Nat) {t:Nat} {l:List Rx} (hs:(fX Xa Xb Xc Xs)[i]? =some (.tr (.mk 7 0 0 l))) (h0:(fX Xa Xb Xc Xs)[j]? =some (.ls l)) (m:j∈ds) (hd:d=je i:=by rfl) (e0:t=je j:=by rfl):sd w0 base kk Xa Xb Xc Xs i (.build aA #[(0,.const (.int .i64 7)),(3,.tmp t)],some d,ty,ds):=zo 7 (by omega) i d j hs h0 m hd e0
theorem Ub {ty:TypeId} {ds:List Nat} (i d j:Nat) {t:Nat} {l:List Rx} (hs:(fX Xa Xb Xc Xs)[i]? =some (.ls l)) (h0:(fX Xa Xb Xc Xs)[j]? =some (.ls l)) (m:j∈ds) (hd:d=je i:=by rfl) (e0:t=je j:=by rfl):sd w0 base kk Xa Xb Xc Xs i (.assign (.tmp t),some d,ty,ds):=by
 intro L E w o ho tv ht hi dT J
 obtain ⟨s,ts,a1,a2,a3,a4⟩:=J.all j _ h0 (dT j m)
 rw [<-e0] at a1
 refine vK (.inr ho) a1 ?_
 rw [tv]
 exact J.step (Fr.refl _ _) hd hs ⟨s,ts,rfl,a2,a3,a4⟩
theorem M2 {ds:List Nat} (mj:base<=w0.heap.size) (i d:Nat) (hs:(fX Xa Xb Xc Xs)[i]? =some (.tr fE)) (hd:d=je i:=by rfl):sd w0 base kk Xa Xb Xc Xs i (.call ⟨.value (.func bQ),#[],#[]⟩,some d,aA,ds):=by
 intro L E w o ho tv ht hi dT J
 obtain ⟨dst,op,ty,pos,after,guard⟩:=o
 simp only at ho tv ht
 subst ho
 subst tv
 subst ht
 have hc:E.fT ⟨some d,.call ⟨.value (.func bQ),#[],#[]⟩,aA,pos,after,guard⟩=true:=by simp [Env.fT,Op.operands,Call.operands,Env.val]
 have A6:fD Tryz.prog bQ=true:=by kernel_rfl
 have Xy:calm Tryz.prog ⟨some d,.call ⟨.value (.func bQ),#[],#[]⟩,aA,pos,after,guard⟩=false:=rfl
 unfold oA
 rw [Xy,cond_false]
 unfold mi
 dsimp only
 rw [hc,A6]
 simp only [List.map_toArray,List.map_nil,cond_true]
 refine (show tW Tryz.prog bQ #[] (zeroOf Tryz.prog aA) w (λv w'=>JT w0 base kk Xa Xb Xc Xs (jg L i) (E.put (some d) v) w') from ?_)
 refine (BS w).mono ?_
 rintro _ w' ⟨⟨t,rfl,h2,h3,h4⟩,f⟩
 have e:va (zeroOf Tryz.prog aA) (λv=>Ending.returned t.v=.returned v/\JT w0 base kk Xa Xb Xc Xs (jg L i) (E.put (some d) v) w')=∃n0:Int,∃n1:Int,∃n2:Int,∃n3:Sl,Ending.returned t.v=.returned (.agg #[.int .i64 n0,.int .u8 n1,.int .u8 n2,n3.v])/\JT w0 base kk Xa Xb Xc Xs (jg L i) (E.put (some d) (.agg #[.int .i64 n0,.int .u8 n1,.int .u8 n2,n3.v])) w':=by kernel_rfl
 rw [e]
 exact ⟨t.k,t.lo.toNat,t.hi.toNat,t.s,rfl,J.step f hd hs ⟨t,rfl,h2,h3,λb hb=>Nat.le_trans (J.uL mj) (h4 b hb)⟩⟩
def W':List (Op×Option Nat×TypeId×List Nat):=[(.load aA (.tmp 5),some 39,aA,[]),
 (.load aA (.tmp 5),some 40,aA,[]),
 (.load aA (.tmp 6),some 41,aA,[]),
 (.buildSlice aC 2 #[(0,.tmp 40),(1,.tmp 41)],some 42,aC,[1,2]),
 (.build aA #[(0,.const (.int .i64 3)),(3,.tmp 42)],some 43,aA,[3]),
 (.load aA (.tmp 5),some 44,aA,[]),
 (.load aA (.tmp 6),some 45,aA,[]),
 (.load aA (.tmp 7),some 46,aA,[]),
 (.buildSlice aC 3 #[(0,.tmp 44),(1,.tmp 45),(2,.tmp 46)],some 47,aC,[5,6,7]),
 (.build aA #[(0,.const (.int .i64 4)),(3,.tmp 47)],some 48,aA,[8]),
 (.load aA (.tmp 8),some 49,aA,[]),
 (.load aA (.tmp 8),some 50,aA,[]),
 (.load aA (.tmp 6),some 51,aA,[]),
 (.buildSlice aC 2 #[(0,.tmp 50),(1,.tmp 51)],some 52,aC,[11,12]),
 (.build aA #[(0,.const (.int .i64 3)),(3,.tmp 52)],some 53,aA,[13]),
 (.load aA (.tmp 5),some 54,aA,[]),
 (.load aA (.tmp 6),some 55,aA,[]),
 (.buildSlice aC 2 #[(0,.tmp 54),(1,.tmp 55)],some 56,aC,[15,16]),
 (.build aA #[(0,.const (.int .i64 3)),(3,.tmp 56)],some 57,aA,[17]),
 (.buildSlice aC 1 #[(0,.tmp 57)],some 58,aC,[18]),
 (.build aA #[(0,.const (.int .i64 6)),(3,.tmp 58)],some 59,aA,[19]),
 (.load aA (.tmp 6),some 60,aA,[]),
 (.load aA (.tmp 5),some 61,aA,[]),
 (.load aA (.tmp 7),some 62,aA,[]),
 (.buildSlice aC 2 #[(0,.tmp 61),(1,.tmp 62)],some 63,aC,[22,23]),
 (.build aA #[(0,.const (.int .i64 4)),(3,.tmp 63)],some 64,aA,[24]),
 (.buildSlice aC 1 #[(0,.tmp 64)],some 65,aC,[25]),
 (.build aA #[(0,.const (.int .i64 7)),(3,.tmp 65)],some 66,aA,[26]),
 (.buildSlice aC 2 #[(0,.tmp 60),(1,.tmp 66)],some 67,aC,[21,27]),
 (.build aA #[(0,.const (.int .i64 3)),(3,.tmp 67)],some 68,aA,[28]),
 (.load aA (.tmp 6),some 69,aA,[]),
 (.buildSlice aC 1 #[(0,.tmp 69)],some 70,aC,[30]),
 (.build aA #[(0,.const (.int .i64 6)),(3,.tmp 70)],some 71,aA,[31]),
 (.load aA (.tmp 5),some 72,aA,[]),
 (.call ⟨.value (.func bQ),#[],#[]⟩,some 73,aA,[]),
 (.buildSlice aC 2 #[(0,.tmp 72),(1,.tmp 73)],some 74,aC,[33,34]),
 (.build aA #[(0,.const (.int .i64 3)),(3,.tmp 74)],some 75,aA,[35]),
 (.buildSlice aC 2 #[(0,.tmp 71),(1,.tmp 75)],some 76,aC,[32,36]),
 (.build aA #[(0,.const (.int .i64 5)),(3,.tmp 76)],some 77,aA,[37]),
 (.buildSlice aC 8 #[(0,.tmp 39),(1,.tmp 43),(2,.tmp 48),(3,.tmp 49),(4,.tmp 53),(5,.tmp 59),(6,.tmp 68),(7,.tmp 77)],some 78,aC,[0,4,9,10,14,20,29,38]),
 (.assign (.tmp 78),some 9,aC,[39,34,0,1,2,3,4,5,6,7,8,9,10,11,12,13,14,15,16,17,18,19,20,21,22,23,24,25,26,27,28,29,30,31,32,33,34,35,36,37,38,39])]
theorem WN (mj:base<=w0.heap.size):allI (N6 Tryz.prog (JT w0 base kk Xa Xb Xc Xs)) W' 0:=
 ⟨(tm 0 39 rfl),
  (tm 1 40 rfl),
  (tn 2 41 rfl),
  (rv mj 3 42 1 2 rfl rfl rfl (by simp) (by simp)),
  (vI 4 43 3 rfl rfl (by simp)),
  (tm 5 44 rfl),
  (tn 6 45 rfl),
  (Iy 7 46 rfl),
  (PJ mj 8 47 5 6 7 rfl rfl rfl rfl (by simp) (by simp) (by simp)),
  (Iw 9 48 8 rfl rfl (by simp)),
  (Iz 10 49 rfl),
  (Iz 11 50 rfl),
  (tn 12 51 rfl),
  (rv mj 13 52 11 12 rfl rfl rfl (by simp) (by simp)),
  (vI 14 53 13 rfl rfl (by simp)),
  (tm 15 54 rfl),
  (tn 16 55 rfl),
  (rv mj 17 56 15 16 rfl rfl rfl (by simp) (by simp)),
  (vI 18 57 17 rfl rfl (by simp)),
  (Cu mj 19 58 18 rfl rfl (by simp)),
  (Ix 20 59 19 rfl rfl (by simp)),
  (tn 21 60 rfl),
  (tm 22 61 rfl),
  (Iy 23 62 rfl),
  (rv mj 24 63 22 23 rfl rfl rfl (by simp) (by simp)),
  (Iw 25 64 24 rfl rfl (by simp)),
  (Cu mj 26 65 25 rfl rfl (by simp)),
  (PI 27 66 26 rfl rfl (by simp)),
  (rv mj 28 67 21 27 rfl rfl rfl (by simp) (by simp)),
  (vI 29 68 28 rfl rfl (by simp)),
  (tn 30 69 rfl),
  (Cu mj 31 70 30 rfl rfl (by simp)),
  (Ix 32 71 31 rfl rfl (by simp)),
  (tm 33 72 rfl),
  (M2 mj 34 73 rfl),
  (rv mj 35 74 33 34 rfl rfl rfl (by simp) (by simp)),
  (vI 36 75 35 rfl rfl (by simp)),
  (rv mj 37 76 32 36 rfl rfl rfl (by simp) (by simp)),
  (PH 38 77 37 rfl rfl (by simp)),
  (PK mj 39 78 0 4 9 10 14 20 29 38 rfl rfl rfl rfl rfl rfl rfl rfl rfl (by simp) (by simp) (by simp) (by simp) (by simp) (by simp) (by simp) (by simp)),
  (Ub 40 9 39 rfl rfl (by simp)),trivial⟩
end
def wx (k:Nat):Rx:=FV (fS (k%6)) (fS (k / 6%6)) (fS (k / 36%6)) (k / 216%8)
def ML (k:Nat):Bool:=dS (wx k)&&Nat.ble (wx k).sz 1000&&okW (gl (wx k))&&Nat.ble (gl (wx k)).sz 1000
theorem Gz:(List.range 1728).all ML=true:=by kernel_rfl
theorem HO (k:Nat):wx k=wx (k%1728):=by
 unfold wx
 rw [show k%1728%6=k%6 by omega,show k%1728 / 6%6=k / 6%6 by omega,show k%1728 / 36%6=k / 36%6 by omega,show k%1728 / 216%8=k / 216%8 by omega]
theorem Qf (k:Nat):dS (wx k)=true/\(wx k).sz<=1000/\okW (gl (wx k))=true/\(gl (wx k)).sz<=1000:=by
 rw [HO]
 have:=qaT.1 Gz (k%1728) (List.mem_range.2 (Nat.mod_lt _ (by omega)))
 unfold ML at this
 simp only [Bool.and_eq_true] at this
 exact ⟨this.1.1.1,Nat.le_of_ble_eq_true this.1.1.2,this.1.2,Nat.le_of_ble_eq_true this.2⟩
theorem E0 (k:Nat):qm k=gM (gl (wx k)):=rfl
theorem wY (k:Nat):qm k=qm (k%1728):=by rw [E0,E0,HO]
theorem Oq:(List.range 1728).all (λk=>BX (qm k)==some true)=true:=by kernel_rfl
theorem Lq (k:Nat):BX (qm k)=some true:=by
 rw [wY]
 exact eq_of_beq (qaT.1 Oq (k%1728) (List.mem_range.2 (Nat.mod_lt _ (by omega))))
theorem K8 (n m:Int) (w:World) (hm:1<=m) (h:nO n):Calls Tryz.prog aT #[.i n,.i m] w λr w'=>r=.returned (.i (dF n m))/\bF w w':=(yn n m w hm h).mono λr w' h=>⟨h.1,h.2▸Fr.refl _ _⟩
def KZ (ev:Rt):List Rt:=[sK 2 97 97,sK 2 98 98,sK 2 0 0,sK 2 97 98,sK 1 0 0,ev]
theorem yr (ev:Rt) (uD:ev.rx=fE) {i:Nat} (hi:i<6):∃t,(KZ ev)[i]? =some t/\t.rx=fS i/\(t=ev\/∀w:World,t.P w/\∀b,¬b∈t.fp):=by
 have:i=0\/i=1\/i=2\/i=3\/i=4\/i=5:=by omega
 rcases this with rfl|rfl|rfl|rfl|rfl|rfl
 .exact ⟨_,rfl,rfl,.inr λw=>⟨uf _ _ _ w,λb=>rj⟩⟩
 .exact ⟨_,rfl,rfl,.inr λw=>⟨uf _ _ _ w,λb=>rj⟩⟩
 .exact ⟨_,rfl,rfl,.inr λw=>⟨uf _ _ _ w,λb=>rj⟩⟩
 .exact ⟨_,rfl,rfl,.inr λw=>⟨uf _ _ _ w,λb=>rj⟩⟩
 .exact ⟨_,rfl,rfl,.inr λw=>⟨uf _ _ _ w,λb=>rj⟩⟩
 .exact ⟨ev,rfl,uD,.inl rfl⟩
theorem L3 (a b c:Rx) {i:Nat} (hi:i<8):[a,.mk 3 0 0 [a,b],.mk 4 0 0 [a,b,c],.mk 7 0 0 [a],.mk 3 0 0 [.mk 7 0 0 [a],b],.mk 6 0 0 [.mk 3 0 0 [a,b]],.mk 3 0 0 [b,.mk 7 0 0 [.mk 4 0 0 [a,c]]],.mk 5 0 0 [.mk 6 0 0 [b],.mk 3 0 0 [a,fE]]][i]? =some (FV a b c i):=by
 have:i=0\/i=1\/i=2\/i=3\/i=4\/i=5\/i=6\/i=7:=by omega
 rcases this with rfl|rfl|rfl|rfl|rfl|rfl|rfl|rfl<;>rfl
theorem IT (k m:Nat) (hm:0<m):Int.tmod (k:Int) (m:Int)=((k%m:Nat):Int):=by
 rw [Int.tmod_eq_emod_of_nonneg (by omega)];omega
theorem Nq (k m:Nat) (hk:k<=1048576):IntKind.wrap .i64 (Int.tdiv (k:Int) (m:Int))=((k / m:Nat):Int):=by
 have h:Int.tdiv (k:Int) (m:Int)=((k / m:Nat):Int):=by
  rw [Int.tdiv_eq_ediv_of_nonneg (by omega)];rfl
 have h2:k / m<=k:=Nat.div_le_self k m
 rw [h]
 generalize k / m=q at h2
 rw [IntWalk.i64_in _ (by omega)]
section
variable {w Fk:World} {R:aD} {K:Nat}
theorem Nv (hK:K<=1048576) {s:Sl} {ts:List Rt} {w':World} (h1:Rt.bU ts=[fS (K%6),.mk 3 0 0 [fS (K%6),fS (K / 6%6)],.mk 4 0 0 [fS (K%6),fS (K / 6%6),fS (K / 36%6)],.mk 7 0 0 [fS (K%6)],.mk 3 0 0 [.mk 7 0 0 [fS (K%6)],fS (K / 6%6)],.mk 6 0 0 [.mk 3 0 0 [fS (K%6),fS (K / 6%6)]],.mk 3 0 0 [fS (K / 6%6),.mk 7 0 0 [.mk 4 0 0 [fS (K%6),fS (K / 36%6)]]],.mk 5 0 0 [.mk 6 0 0 [fS (K / 6%6)],.mk 3 0 0 [fS (K%6),fE]]])
  (hp:(eD s ts).P w') (f:bF w w'):enthymemeref04_TextI.T9 s (K:Int) w' λr w'=>r=.returned (.string (ba (qm K)))/\bF w w':=by
 have hn:=Rt.cB (fM.1 hp).1
 have hl:ts.length=8:=by
  have:=congrArg List.length h1
  rw [Rt.eW,List.length_map] at this
  simpa using this
 show (0:Int)<=Int.tmod (IntKind.wrap .i64 (Int.tdiv (K:Int) ((216:Nat):Int))) ((8:Nat):Int)/\Int.tmod (IntKind.wrap .i64 (Int.tdiv (K:Int) ((216:Nat):Int))) ((8:Nat):Int)<((s.n:Nat):Int)/\aX s.a λp=>cA w' (p.add (Int.toNat (Int.tmod (IntKind.wrap .i64 (Int.tdiv (K:Int) ((216:Nat):Int))) ((8:Nat):Int)) *4)) _
 rw [Nq K 216 hK,IT _ 8 (by omega)]
 have hi:K / 216%8<8:=Nat.mod_lt _ (by omega)
 have hg:ts[K / 216%8]? =some (ts[K / 216%8]'(by omega)):=g7 (by omega)
 generalize ts[K / 216%8]'(by omega)=t at hg
 have ht:t.rx=wx K:=by
  have h2:=L3 (fS (K%6)) (fS (K / 6%6)) (fS (K / 36%6)) hi
  rw [<-h1,Rt.eW,List.getElem?_map,hg] at h2
  exact Option.some.inj h2
 obtain ⟨g1,g2,g3,g4⟩:=Qf K
 rw [<-ht] at g1 g2 g3 g4
 have pt:t.P w':=(fM.1 hp).2.get hg
 refine ⟨by omega,by omega,Rt.at' (fM.1 hp).1 hg λp hp c=>⟨_,_,_,_,c.c0,c.c1,c.c2,c.c3,(Dk t w' (by rw [<-Rt.hM];exact g2) g1 pt).mono ?_⟩⟩
 rintro _ w1 ⟨⟨u,rfl,hu,pu,_⟩,f1⟩
 rw [<-hu] at g3 g4
 refine ⟨_,_,_,u.s,rfl,(Hq u 0 w1 (by rw [<-Rt.hM];omega) (by omega) g3 pu).mono ?_⟩
 rintro _ w2 ⟨rfl,f2⟩
 refine ⟨_,rfl,?_,(f.zM f1).zM f2⟩
 have e:cN 0 u.rx (gM u.rx)=gM u.rx:=by unfold cN;rw [if_neg (by omega)]
 rw [e,hu,ht]
 rfl
end
theorem N8 {s:Sl} {k:Int} {w:World} {R R':aD} (h:enthymemeref04_TextI.T9 s k w R) (hr:∀r w',R r w'->R' r w'):enthymemeref04_TextI.T9 s k w R':=
 ⟨h.1,h.2.1,MN h.2.2 λp ⟨a,b,c,d,h0,h1,h2,h3,hc⟩=>⟨a,b,c,d,h0,h1,h2,h3,hc.mono λr w1 ⟨e,f,g,i,he,hw⟩=>⟨e,f,g,i,he,hw.mono λr w2 ⟨t,ht,hR⟩=>⟨t,ht,hr _ _ hR⟩⟩⟩⟩
theorem SN (n:Int) (hn:nO n) (w:World):Calls Tryz.prog kD #[.i n] w λr w'=>(∃k:Nat,r=.returned (.string (ba (qm k))))/\bF w w':=by
 have hr:=cI n 1048576 (by omega)
 obtain ⟨K,hK⟩:∃K:Nat,dF n 1048576=(K:Int):=⟨(dF n 1048576).toNat,by omega⟩
 have YU:K<=1048576:=by omega
 have H:LH F0 w w [] []:=mf [] (by simp)
 refine enthymemeref04_TextI.ok n w _ (H.call (K8 n 1048576 w (by omega) hn) ?_)
 rintro _ w1 rfl H1
 refine ⟨_,rfl,H1.Dm (BS w1) ?_⟩
 rintro _ w2 ⟨ev,rfl,uD,Z9,fev⟩ _ F2
 have H2:=F2.rd (.tree ev) Z9 λb hb=>fev b (aI.1 hb)
 rw [hK]
 have em:=IT K 6 (by omega)
 have ed6:=Nq K 6 YU
 have VA:=Nq K 36 YU
 have em6:=IT (K / 6) 6 (by omega)
 have VC:=IT (K / 36) 6 (by omega)
 have c6:((6:Nat):Int)=6:=rfl
 have c36:((36:Nat):Int)=36:=rfl
 rw [c6] at em ed6 em6 VC
 rw [c36] at VA
 rw [em,ed6,VA,em6,VC]
 obtain ⟨ta,ga,ra,xa⟩:=yr ev uD (i:=K%6) (Nat.mod_lt _ (by omega))
 obtain ⟨tb,gb,rb,xb⟩:=yr ev uD (i:=K / 6%6) (Nat.mod_lt _ (by omega))
 obtain ⟨tc,gc,rc,xc⟩:=yr ev uD (i:=K / 36%6) (Nat.mod_lt _ (by omega))
 have la:K%6<6:=Nat.mod_lt _ (by omega)
 have lb:K / 6%6<6:=Nat.mod_lt _ (by omega)
 have lc:K / 36%6<6:=Nat.mod_lt _ (by omega)
 have P:∀t:Rt,(t=ev\/∀w:World,t.P w/\∀b,¬b∈t.fp)->(∀w':World,ev.P w'->t.P w')/\∀b∈t.fp,w.heap.size<=b:=λt h=>by
  rcases h with rfl|h
  .exact ⟨λ_ h=>h,λb hb=>Nat.le_trans H1.fr.size (fev b hb)⟩
  .exact ⟨λw' _=>(h w').1,λb hb=>((h w).2 b hb).elim⟩
 refine ⟨_,_,_,ev.s,rfl,H2.gZ (n:=6) (sz:=4) (cs:=(KZ ev).flatMap Rt.c) rfl (by decide) λw3 H3=>?_⟩
 refine ⟨by omega,by omega,Rt.at' (s:=⟨some (bD w2.heap.size),6,6⟩) (H3.get 0:aO _ _ _ _ _).iQ ga λp hp c=>?_⟩
 refine ⟨_,_,_,_,c.c0,c.c1,c.c2,c.c3,H3.nw λw4 _ H4=>H4.CC 1 rfl λw8 H8=>?_⟩
 refine ⟨by omega,by omega,Rt.at' (s:=⟨some (bD w2.heap.size),6,6⟩) (H8.get 0:aO _ _ _ _ _).iQ gb λp hp c=>?_⟩
 refine ⟨_,_,_,_,c.c0,c.c1,c.c2,c.c3,H8.nw λw9 _ H9=>H9.CC 2 rfl λuF rG=>?_⟩
 refine ⟨by omega,by omega,Rt.at' (s:=⟨some (bD w2.heap.size),6,6⟩) (rG.get 0:aO _ _ _ _ _).iQ gc λp hp c=>?_⟩
 refine ⟨_,_,_,_,c.c0,c.c1,c.c2,c.c3,rG.nw λCV _ qD=>qD.CC 3 rfl λKD Fa=>?_⟩
 refine ⟨_,_,_,ta.s,Fa.ld 1 0,Fa.ld 1 1,Fa.ld 1 2,Fa.ld 1 3,Fa.gZ (n:=1) (sz:=4) (cs:=[ta].flatMap Rt.c) rfl (by decide) λSa Qw=>Qw.nw λX0 _ UG=>UG.CC 5 rfl λFk Fp=>?_⟩
 have pa:=P ta xa
 have pb:=P tb xb
 have pc:=P tc xc
 have ps:(Rt.mk 7 0 0 ⟨some (bD KD.heap.size),1,1⟩ [ta]).P Fk:=by
  unfold Rt.P
  exact ⟨(Fp.get 4:aO _ _ _ _ _).iQ,Rt.ox (by simp;exact pa.1 Fk (Fp.getD 0))⟩
 have fr:bF w Fk:=Fp.fr
 refine Mo W' (by kernel_rfl) (JT Fk w.heap.size (K:Int) (fS (K%6)) (fS (K / 6%6)) (fS (K / 36%6)) (.mk 7 0 0 [fS (K%6)])) ?_ (WN fr.size) ?_
 .refine ⟨Fr.drew _ _,rfl,?_,?_,?_,?_,λi sp hs hL=>by cases hL⟩
  .exact tP.ot (w:=Fk) ⟨w3.heap.size,ta,rfl,Fp.ob 1,ra,pa.1 Fk (Fp.getD 0),pa.2⟩ (Fr.drew _ _)
  .exact tP.ot (w:=Fk) ⟨w8.heap.size,tb,rfl,Fp.ob 2,rb,pb.1 Fk (Fp.getD 0),pb.2⟩ (Fr.drew _ _)
  .exact tP.ot (w:=Fk) ⟨uF.heap.size,tc,rfl,Fp.ob 3,rc,pc.1 Fk (Fp.getD 0),pc.2⟩ (Fr.drew _ _)
  .refine tP.ot (w:=Fk) ⟨Sa.heap.size,.mk 7 0 0 ⟨some (bD KD.heap.size),1,1⟩ [ta],rfl,Fp.ob 5,?_,ps,Cn (λb hb=>?_) pa.2⟩ (Fr.drew _ _)
   .rw [<-ra];rfl
   .simp only [bA,cU,qnM,or_false] at hb
    rw [hb];exact Fa.fr.size
 .intro L E w' hL J
  obtain ⟨s,ts,h1,h2,h3,_⟩:=J.all 40 _ rfl (hL 40 (by decide))
  refine ⟨s,(K:Int),h1,J.k,?_⟩
  refine N8 (Nv YU h2 h3 (fr.zM J.fr)) λr rC h=>⟨⟨K,h.1⟩,h.2⟩
theorem Pc:(List.range 1728).all (λk=>Nat.ble (qm k).length 64)=true:=by kernel_rfl
theorem E1 (k:Nat):(qm k).length<=64:=by
 rw [wY]
 exact Nat.le_of_ble_eq_true (qaT.1 Pc (k%1728) (List.mem_range.2 (Nat.mod_lt _ (by omega))))
end Go.Proofs.YtcifihepfadgfaaGreatDoor
