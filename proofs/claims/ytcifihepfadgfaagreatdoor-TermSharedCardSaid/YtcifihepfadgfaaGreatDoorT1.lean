import Derived.Test.YtcifihepfadgfaaGreatDoorW
import Derived.Test.YtcifihepfadgfaaGreatDoorR1
import Derived.Test.YtcifihepfadgfaaGreatDoorG1
import Derived.Test.YtcifihepfadgfaaGreatDoorV
set_option linter.unusedVariables false
namespace Go.Proofs.YtcifihepfadgfaaGreatDoor
open List renaming mem_append->fW,mem_cons->cU,not_mem_nil->qnM,mem_of_getElem?->cZ,getElem?_eq_getElem->gW,length_append->qlA,length_cons->qlC,length_nil->qlN,all_eq_true->qaT
open Go Go.W
section
variable {M:Nat->Prop} {w0 w:World} {L D:List En} {bs:List Nat}
theorem HC (w:World) (pb:Nat) (vs:List Value) (ty:TypeId) (b:Nat):¬(En.c pb vs ty).P ({w with heap:=Array.replicate (b+1) (.map #[] 0)}):=by
 intro h
 have h:({w with heap:=Array.replicate (b+1) (.map #[] 0)}:World).heap[pb]? =some (.cells vs.toArray ty (0,0)):=h
 simp [Array.getElem?_replicate] at h
theorem FT {pb:Nat} {vs:List Value} {ty:TypeId} {b:Nat}:b∈(En.c pb vs ty).fp↔b=pb:=by simp [En.c,En.ob]
theorem _root_.Go.W.LH.Qt {pb:Nat} {vs:List Value} {ty:TypeId} (H:LH M w0 w (.c pb vs ty::L) D) {w':World} (f:Fr (·=pb) w w') {zR:List Value} (h:w'.heap[pb]? =some (.cells zR.toArray ty (0,0))):
  LH M w0 w' (.c pb zR ty::L) D/\∀e:En,e.P w'->(∀b∈e.fp,w.heap.size<=b)->LH M w0 w' (.c pb zR ty::L) (D++[e]):=by
 have H':LH M w0 w' (.c pb zR ty::L) D:=H.VD 0 f h
 refine ⟨H',λe he hf=>⟨H'.fr,H'.own,λd hd=>?_,H'.new,H'.nd,λd hd b hb e' mI eD=>?_⟩⟩
 .rcases fW.1 hd with hd|hd
  .exact H'.rd d hd
  .simp at hd;subst hd;exact he
 .rcases fW.1 hd with hd|hd
  .exact H'.dj d hd b hb e' mI eD
  .simp at hd;subst hd
   have h1:=hf b hb
   have h2:b<w.heap.size:=by
    rcases cU.1 mI with rfl|mI
    .have eD:=FT.1 eD
     have:=(En.c pb vs ty).lt w (H.get 0) pb (FT.2 rfl)
     omega
    .exact e'.lt w (H.own e' (List.mem_cons_of_mem _ mI)) b eD
   omega
theorem _root_.Go.W.LH.yB {pb:Nat} {vs:List Value} {ty:TypeId} (H:LH M w0 w (.c pb vs ty::L) D) {P:Program} {g:FuncId} {args:Array Value} {A:aD} {zR:List Value} {K:aD} (hc:Calls P g args w λr w'=>(A r w'/\w'.heap[pb]? =some (.cells zR.toArray ty (0,0)))/\Fr (·=pb) w w')
  (hk:∀r w',A r w'->LH M w0 w' (.c pb zR ty::L) D->(∀e:En,e.P w'->(∀b∈e.fp,w.heap.size<=b)->LH M w0 w' (.c pb zR ty::L) (D++[e]))->K r w'):Calls P g args w K:=
 hc.mono λr w' ⟨⟨ha,h⟩,f⟩=>hk r w' ha (H.Qt f h).1 (H.Qt f h).2
theorem _root_.Go.W.LH.kD {pb:Nat} {vs:List Value} {ty:TypeId} (H:LH M w0 w (.c pb vs ty::L) D) {P:Program} {g:FuncId} {args:Array Value} {A:aD} {zR:List Value} {K:aD} (hc:Calls P g args w λr w'=>(A r w'/\w'.heap[pb]? =some (.cells zR.toArray ty (0,0)))/\Fr (·=pb) w w')
  (hk:∀r w',A r w'->LH M w0 w' (.c pb zR ty::L) D->(∀e:En,e.P w'->(∀b∈e.fp,w.heap.size<=b)->LH M w0 w' (.c pb zR ty::L) (D++[e]))->K r w') (jf:∀b∈bs,En.g b∈(En.c pb vs ty::L):=by simp):fV bs P g args w K:=
 ⟨(·=pb),λb hb hm=>pw H (i:=0) rfl (HC w pb vs ty) (jf b hb) (by rw [hm];exact FT.2 rfl),hc.mono λr w' ⟨⟨ha,h⟩,f⟩=>⟨f,hk r w' ha (H.Qt f h).1 (H.Qt f h).2⟩⟩
end
theorem kS {s:ByteArray} {i:Nat} (h:i<s.size):s[i]? =some (gQ (bl s) i):=by
 rw [getElem?_pos s i h]
 unfold gQ
 rw [List.getD_eq_getElem?_getD,gW (show i<(bl s).length by rw [iK];exact h)]
 rfl
theorem NN {x:UInt8} {n:Nat} {A B:Prop} (hn:n<256) (h1:(x==UInt8.ofNat n)=true->A) (h2:(x==UInt8.ofNat n)=false->B):aF (((x.toNat:Nat):Int)==(n:Int)) A B:=by
 have e:x.toNat=n↔x=UInt8.ofNat n:=by
  rw [<-UInt8.toNat_inj,UInt8.toNat_ofNat']
  omega
 refine aH (λh=>h1 (by rw [beq_iff_eq,<-e];omega)) (λh=>h2 (by rw [beq_eq_false_iff_ne,Ne,<-e];omega))
theorem Fb {x:UInt8} {n:Nat} {A B:Prop} (hn:n<256) (h1:(x==UInt8.ofNat n)=false->A) (h2:(x==UInt8.ofNat n)=true->B):aF (((x.toNat:Nat):Int) !=(n:Int)) A B:=by
 have e:x.toNat=n↔x=UInt8.ofNat n:=by
  rw [<-UInt8.toNat_inj,UInt8.toNat_ofNat']
  omega
 refine eB (λh=>h1 (by rw [beq_eq_false_iff_ne,Ne,<-e];omega)) (λh=>h2 (by rw [beq_iff_eq,<-e];omega))
theorem K6 {p:UInt8->Prop} (h:∀x:Fin 256,p (UInt8.ofNat x.val)) (c:UInt8):p c:=by
 have:=h ⟨c.toNat,c.toNat_lt⟩
 simpa using this
theorem Tl:∀n:Fin 16,(ByteArray.mk #[48,49,50,51,52,53,54,55,56,57,97,98,99,100,101,102])[n.val]? =some (rQ n.val):=by decide+kernel
theorem yy (n:Nat) (h:n<16) (w:World):Calls Tryz.prog gi #[.i (n:Int)] w λr w'=>r=.returned (.int .u8 ((rQ n).toNat:Int))/\bI w w':=
 enthymemeref04_digit.ok _ w _ ⟨by omega,_,Tl ⟨n,h⟩,rfl,Fr.refl _ _⟩
theorem Ds (c:UInt8) (w:World):Calls Tryz.prog hO #[.int .u8 (c.toNat:Int)] w λr w'=>r=.returned (.bool (N4 c))/\bI w w':=by
 refine enthymemeref04_plain.ok _ w _ (aM (λh1=>aM (λh2=>Fb (n:=39) (by omega) (λh3=>⟨?_,Fr.refl _ _⟩) (λh3=>⟨?_,Fr.refl _ _⟩)) (λh2=>⟨?_,Fr.refl _ _⟩)) (λh1=>⟨?_,Fr.refl _ _⟩))
 .have e:(((c.toNat:Nat):Int) !=92)= !(c==92):=by
   have:=@Fb c 92 (((((c.toNat:Nat):Int) !=92)=true)/\(c==92)=false) (((((c.toNat:Nat):Int) !=92)=false)/\(c==92)=true)
   cases h:(((c.toNat:Nat):Int) !=92) with
   |true=>
    have h':c≠92:=λe=>by subst e;exact absurd h (by decide)
    rw [beq_eq_false_iff_ne.2 h'];rfl
   |false=>
    have h':c=92:=by
     rw [<-UInt8.toNat_inj]
     have:=(bne_eq_false_iff_eq.1 h)
     show c.toNat=92
     omega
    subst h';rfl
  rw [e]
  unfold N4
  rw [decide_eq_true (show 32<=c.toNat by omega),decide_eq_true (show c.toNat<=126 by omega)]
  have h3:(c==39)=false:=h3
  rw [h3];rfl
 .have h3:(c==39)=true:=h3
  unfold N4
  rw [h3];simp
 .unfold N4
  rw [decide_eq_false (show ¬c.toNat<=126 by omega)];simp
 .unfold N4
  rw [decide_eq_false (show ¬32<=c.toNat by omega)];simp
theorem PA:∀n:Fin 16,o9 (rQ n.val)=(n.val:Int):=by decide+kernel
theorem T4:∀x:Fin 256,o9 (UInt8.ofNat x.val)=-1\/∃n:Fin 16,rQ n.val=UInt8.ofNat x.val:=by decide+kernel
theorem T3:∀x:Fin 256,o9 (UInt8.ofNat x.val)<16:=by decide+kernel
theorem uO (c:UInt8) (w:World):Calls Tryz.prog eO #[.int .u8 (c.toNat:Int)] w λr w'=>r=.returned (.int .i64 (o9 c))/\bI w w':=by
 have loop:∀(d i:Nat) (w1:World),i+d=16->(∀j,j<i->rQ j≠c)->bI w w1->enthymemeref04_number.L0 c.toNat (i:Int) w1 λr w'=>r=.returned (.int .i64 (o9 c))/\bI w w':=by
  intro d
  induction d with
  |zero=>
   intro i w1 hi hn f
   refine enthymemeref04_number.cF _ _ _ _ (aL (decide_eq_false (by omega)) ⟨?_,f⟩)
   have:=K6 (p:=λc=>o9 c=-1\/∃n:Fin 16,rQ n.val=c) T4 c
   rcases this with h|⟨n,h⟩
   .rw [h]
   .exact absurd h (hn n.val (by omega))
  |succ d pT=>
   intro i w1 hi hn f
   refine enthymemeref04_number.cF _ _ _ _ (aQ (decide_eq_true (by omega)) ((yy i (by omega) w1).mono ?_))
   rintro _ w2 ⟨rfl,f2⟩
   refine ⟨_,rfl,aH (λh=>⟨?_,f.Ab f2⟩) (λh=>?_)⟩
   .have e:rQ i=c:=by rw [<-UInt8.toNat_inj];omega
    have:=PA ⟨i,by omega⟩
    rw [<-e]
    rw [this]
   .rw [aY _ (by omega)]
    refine pT (i+1) w2 (by omega) (λj hj=>?_) (f.Ab f2)
    by_cases N0:j=i
    .subst N0;intro e;subst e;exact h rfl
    .exact hn j (by omega)
 exact enthymemeref04_number.ok _ w _ (loop 16 0 w (by omega) (λj h=>by omega) (Fr.refl _ _))
def Ix (x:UInt8×Nat):Ending:=.returned (.tuple #[.int .u8 (x.1.toNat:Int),.i (x.2:Int)])
theorem PB:∀x y:Fin 16,IntKind.wrap .u8 (IntKind.wrap .i64 ((IntKind.wrap .i64 (16 *(x.val:Int)))+(y.val:Int)))=((UInt8.ofNat ((16 *(x.val:Int)+(y.val:Int)).toNat)).toNat:Int):=by decide+kernel
theorem It {c:UInt8} (h:0<=o9 c):∃x:Fin 16,o9 c=(x.val:Int):=by
 have:=K6 (p:=λc=>o9 c<16) T3 c
 exact ⟨⟨(o9 c).toNat,by omega⟩,by show o9 c=(((o9 c).toNat:Nat):Int);omega⟩
theorem v9 (s:ByteArray) (i:Nat) (hi:i<=1000000) (w:World):Calls Tryz.prog fO #[.string s,.i (i:Int)] w λr w'=>r=Ix (gR (bl s) i)/\bI w w':=by
 have e1:IntKind.wrap .i64 ((i:Int)+1)=((i+1:Nat):Int):=by rw [IntWalk.i64_in _ (by omega)];omega
 have e2:IntKind.wrap .i64 ((i:Int)+2)=((i+2:Nat):Int):=by rw [IntWalk.i64_in _ (by omega)];omega
 have e3:IntKind.wrap .i64 ((i:Int)+3)=((i+3:Nat):Int):=by rw [IntWalk.i64_in _ (by omega)];omega
 have e4:IntKind.wrap .i64 ((i:Int)+4)=((i+4:Nat):Int):=by rw [IntWalk.i64_in _ (by omega)];omega
 have hl:(bl s).length=s.size:=iK s
 have no:∀w',bI w w'->gR (bl s) i=(0,0)->enthymemeref04_byteAt.S1 w' (λr w'=>r=Ix (gR (bl s) i)/\bI w w'):=λw' f h=>⟨by rw [h];rfl,f⟩
 have st:∀w',bI w w'->(decide (i+3<=(bl s).length)&&gQ (bl s) i==39&&gQ (bl s) (i+2)==39&&N4 (gQ (bl s) (i+1)))=false->enthymemeref04_byteAt.S0 s (i:Int) w' (λr w'=>r=Ix (gR (bl s) i)/\bI w w'):=by
  intro w' f hq
  have nn:(decide (i+4<=(bl s).length)&&gQ (bl s) i==92&&gQ (bl s) (i+1)==120&&decide (0<=o9 (gQ (bl s) (i+2)))&&decide (0<=o9 (gQ (bl s) (i+3))))=false->∀w',bI w w'->enthymemeref04_byteAt.S1 w' (λr w'=>r=Ix (gR (bl s) i)/\bI w w'):=λh w' f=>no w' f (by
   unfold gR
   rw [hq,h];rfl)
  show aF _ _ _
  rw [e4,e3,e2,e1]
  refine aM (λh4=>⟨by omega,_,kS (i:=i) (by omega),NN (n:=92) (by omega) (λha=>⟨by omega,_,kS (i:=i+1) (by omega),NN (n:=120) (by omega) (λhb=>⟨by omega,_,kS (i:=i+2) (by omega),(uO _ w').mono ?_⟩) (λhb=>?_)⟩) (λha=>?_)⟩) (λh4=>?_)
  rotate_left
  .exact nn (by have hb:(gQ (bl s) (i+1)==120)=false:=hb;rw [hb];simp) w' f
  .exact nn (by have ha:(gQ (bl s) i==92)=false:=ha;rw [ha];simp) w' f
  .exact nn (by rw [decide_eq_false (show ¬i+4<=(bl s).length by omega)];simp) w' f
  rintro _ w1 ⟨rfl,f1⟩
  refine ⟨_,rfl,aM (λhx=>⟨by omega,_,kS (i:=i+3) (by omega),(uO _ w1).mono ?_⟩) (λhx=>nn (by rw [decide_eq_false (show ¬0<=o9 (gQ (bl s) (i+2)) by omega)];simp) w1 (f.Ab f1))⟩
  rintro _ w2 ⟨rfl,f2⟩
  refine ⟨_,rfl,aM (λhy=>?_) (λhy=>nn (by rw [decide_eq_false (show ¬0<=o9 (gQ (bl s) (i+3)) by omega)];simp) w2 ((f.Ab f1).Ab f2))⟩
  have f3:bI w w2.drew:=((f.Ab f1).Ab f2).Ab (Fr.drew _ _)
  refine (show uU w2 _ from ?_)
  refine ⟨by omega,_,kS (i:=i+2) (by omega),by omega,_,kS (i:=i+3) (by omega),(uO _ _).mono ?_⟩
  rintro _ w4 ⟨rfl,f4⟩
  refine ⟨_,rfl,(uO _ _).mono ?_⟩
  rintro _ w5 ⟨rfl,f5⟩
  refine ⟨_,rfl,?_,(f3.Ab f4).Ab f5⟩
  have ha:(gQ (bl s) i==92)=true:=ha
  have hb:(gQ (bl s) (i+1)==120)=true:=hb
  have eb:gR (bl s) i=(UInt8.ofNat ((16 *o9 (gQ (bl s) (i+2))+o9 (gQ (bl s) (i+3))).toNat),4):=by
   unfold gR
   rw [hq,ha,hb,decide_eq_true (show i+4<=(bl s).length by omega),decide_eq_true (show 0<=o9 (gQ (bl s) (i+2)) by omega),decide_eq_true (show 0<=o9 (gQ (bl s) (i+3)) by omega)]
   rfl
  rw [eb]
  obtain ⟨x,Eb⟩:=It (c:=gQ (bl s) (i+2)) (by omega)
  obtain ⟨y,ZW⟩:=It (c:=gQ (bl s) (i+3)) (by omega)
  rw [Eb,ZW,PB x y]
  rfl
 refine enthymemeref04_byteAt.ok _ _ w _ ?_
 rw [e3,e2,e1]
 refine aM (λh3=>⟨by omega,_,kS (i:=i) (by omega),NN (n:=39) (by omega) (λha=>⟨by omega,_,kS (i:=i+2) (by omega),NN (n:=39) (by omega) (λhb=>⟨by omega,_,kS (i:=i+1) (by omega),(Ds _ w).mono ?_⟩) (λhb=>?_)⟩) (λha=>?_)⟩) (λh3=>?_)
 rotate_left
 .exact st w (Fr.refl _ _) (by have hb:(gQ (bl s) (i+2)==39)=false:=hb;rw [hb];simp)
 .exact st w (Fr.refl _ _) (by have ha:(gQ (bl s) i==39)=false:=ha;rw [ha];simp)
 .exact st w (Fr.refl _ _) (by rw [decide_eq_false (show ¬i+3<=(bl s).length by omega)];simp)
 rintro _ w1 ⟨rfl,f1⟩
 refine ⟨_,rfl,aZ (λhp=>⟨by omega,_,kS (i:=i+1) (by omega),?_,f1⟩) (λhp=>st w1 f1 (by rw [hp];simp))⟩
 have ha:(gQ (bl s) i==39)=true:=ha
 have hb:(gQ (bl s) (i+2)==39)=true:=hb
 unfold gR
 rw [ha,hb,hp,decide_eq_true (show i+3<=(bl s).length by omega)]
 rfl
theorem vZ (s:BL) (i:Nat):(gR s i).2<=4/\(0<(gR s i).2->i+(gR s i).2<=s.length):=by
 unfold gR
 split
 .rename_i h
  simp only [Bool.and_eq_true,decide_eq_true_eq] at h
  exact ⟨by simp,λ_=>h.1.1.1⟩
 .split
  .rename_i h
   simp only [Bool.and_eq_true,decide_eq_true_eq] at h
   exact ⟨by simp,λ_=>h.1.1.1.1⟩
  .exact ⟨by simp,λh=>by simp at h⟩
def rgV (g:Yq):Ending:=.returned (.tuple #[.agg #[.i (g.k:Int),.int .u8 (g.lo.toNat:Int),.int .u8 (g.hi.toNat:Int),.slice none 0 0],.i (g.n:Int)])
theorem zl (s:BL) (i:Nat):i+(ir s i).n<=s.length\/(ir s i).n=0:=by
 unfold ir
 simp only
 have h:=vZ s i
 split
 .rename_i h0
  exact .inl (h.2 h0)
 .split
  .exact .inr rfl
  .split
   .exact .inr rfl
   .split
    .exact .inr rfl
    .rename_i h1
     simp only [not_or] at h1
     left
     show i+(_+1 - i)<=s.length
     omega
theorem Jk (s:ByteArray) (hs:s.size<=100000) (i:Nat) (hi:i<s.size) (w:World):Calls Tryz.prog jg #[.string s,.i (i:Int)] w λr w'=>r=rgV (ir (bl s) i)/\bI w w':=by
 have hl:(bl s).length=s.size:=iK s
 refine enthymemeref04_rangeAt.cV _ _ w _ ((mu [] (by simp)).bJ λb w1 H1=>H1.aJ (v9 s i (by omega) w1) ?_)
 rintro _ w2 rfl H2
 refine ⟨_,_,rfl,aM (λh0=>H2.aK λw3 H3=>⟨?_,H3.fr⟩) (λh0=>⟨by omega,_,kS (i:=i) hi,Fb (n:=91) (by omega) (λh1=>H2.aK λw3 H3=>⟨?_,H3.fr⟩) (λh1=>?_)⟩)⟩
 .unfold ir
  simp only
  rw [if_pos (by omega)]
  rfl
 .have h1:(gQ (bl s) i==91)=false:=h1
  unfold ir
  simp only
  rw [if_neg (by omega),if_pos (beq_eq_false_iff_ne.1 h1)]
  rfl
 have h1:gQ (bl s) i=91:=eq_of_beq h1
 rw [aY _ (by omega)]
 refine H2.aJ (v9 s (i+1) (by omega) w2) ?_
 rintro _ w3 rfl H3
 have b1:=vZ (bl s) (i+1)
 have bad:∀(w':World),LH F0 w w' [.g b] []->ir (bl s) i=GF->enthymemeref04_rangeAt.fY b 0 0 0 ⟨none,0,0⟩ w' λr w'=>r=rgV (ir (bl s) i)/\bI w w':=λw' H' he=>H'.aK λtq UO=>⟨by rw [he];rfl,UO.fr⟩
 have Oi:∀(w':World),LH F0 w w' [.g b] []->ir (bl s) i=GF->enthymemeref04_rangeAt.gO b 0 0 0 ⟨none,0,0⟩ w' λr w'=>r=rgV (ir (bl s) i)/\bI w w':=λw' H' he=>H'.aK λtq UO=>⟨by rw [he];rfl,UO.fr⟩
 have Gx:ir (bl s) i=(let a:=gR (bl s) (i+1)
   let dash:=i+1+a.2
   if a.2=0\/(bl s).length<=dash\/gQ (bl s) dash≠45 then GF else
   let c:=gR (bl s) (dash+1)
   let fin:=dash+1+c.2
   if c.2=0\/(bl s).length<=fin\/gQ (bl s) fin≠93\/c.1.toNat<a.1.toNat then GF else ⟨2,a.1,c.1,fin+1 - i⟩):=by
  conv=>lhs;unfold ir
  simp only
  rw [if_neg (by omega),if_neg (by rw [h1];simp)]
 simp only at Gx
 generalize gR (bl s) (i+1)=a at b1 Gx
 refine ⟨_,_,rfl,?_⟩
 have ed:IntKind.wrap .i64 (((i+1:Nat):Int)+(a.2:Int))=((i+1+a.2:Nat):Int):=by rw [IntWalk.i64_in _ (by omega)];omega
 show enthymemeref04_rangeAt.dV s (i:Int) b 0 0 0 ⟨none,0,0⟩ (a.1.toNat:Int) (a.2:Int) (IntKind.wrap .i64 (((i+1:Nat):Int)+(a.2:Int))) w3 _
 rw [ed]
 refine aH (λe0=>bad w3 H3 (by rw [Gx,if_pos (.inl (by omega))])) (λe0=>aM (λe1=>bad w3 H3 (by rw [Gx,if_pos (.inr (.inl (by omega)))])) (λe1=>⟨by omega,_,kS (i:=i+1+a.2) (by omega),Fb (n:=45) (by omega) (λe2=>bad w3 H3 (by rw [Gx,if_pos (.inr (.inr (beq_eq_false_iff_ne.1 e2)))])) (λe2=>?_)⟩))
 have e2:gQ (bl s) (i+1+a.2)=45:=eq_of_beq e2
 rw [if_neg (by rw [e2];simp;omega)] at Gx
 rw [aY _ (by omega)]
 refine H3.aJ (v9 s (i+1+a.2+1) (by omega) w3) ?_
 rintro _ w4 rfl H4
 have b2:=vZ (bl s) (i+1+a.2+1)
 generalize gR (bl s) (i+1+a.2+1)=c at b2 Gx
 refine ⟨_,_,rfl,?_⟩
 have ef:IntKind.wrap .i64 (((i+1+a.2+1:Nat):Int)+(c.2:Int))=((i+1+a.2+1+c.2:Nat):Int):=by rw [IntWalk.i64_in _ (by omega)];omega
 show enthymemeref04_rangeAt.eY s (i:Int) b 0 0 0 ⟨none,0,0⟩ (a.1.toNat:Int) (c.1.toNat:Int) (c.2:Int) (IntKind.wrap .i64 (((i+1+a.2+1:Nat):Int)+(c.2:Int))) w4 _
 rw [ef]
 refine aH (λe0=>Oi w4 H4 (by rw [Gx,if_pos (.inl (by omega))])) (λe0=>aM (λe1=>Oi w4 H4 (by rw [Gx,if_pos (.inr (.inl (by omega)))])) (λe1=>⟨by omega,_,kS (i:=i+1+a.2+1+c.2) (by omega),Fb (n:=93) (by omega) (λe2=>Oi w4 H4 (by rw [Gx,if_pos (.inr (.inr (.inl (beq_eq_false_iff_ne.1 e2))))])) (λe3=>aM (λe4=>Oi w4 H4 (by rw [Gx,if_pos (.inr (.inr (.inr (by omega))))])) (λe4=>H4.aK λw5 H5=>⟨?_,H5.fr⟩))⟩))
 have e3:gQ (bl s) (i+1+a.2+1+c.2)=93:=eq_of_beq e3
 rw [Gx,if_neg (by rw [e3];simp;omega)]
 have ee:IntKind.wrap .i64 ((IntKind.wrap .i64 (((i+1+a.2+1+c.2:Nat):Int)+1)) - (i:Int))=((i+1+a.2+1+c.2+1 - i:Nat):Int):=by
  rw [aY _ (by omega),IntWalk.i64_in _ (by omega)];omega
 rw [ee]
 rfl
def jS.c (t:jS):List Value:=[.string (ba t.tx),.i (t.at_:Int),.i (t.k:Int),.int .u8 (t.lo.toNat:Int),.int .u8 (t.hi.toNat:Int),.slice none 0 0]
theorem I0 (t:jS):t.c.length=6:=rfl
theorem E9 (l:List jS) (t:jS):l.flatMap jS.c++t.c=(l++[t]).flatMap jS.c:=by simp
theorem E8 {w:World} {s:Sl} {l:List jS} (h:jO 6 w s (l.flatMap jS.c)):s.n=l.length:=by
 have:=h.1
 rw [oh jS.c 6 I0] at this
 omega
theorem LO:iJ Tryz.prog bT b0 (.agg #[.s0,.i 0,.i 0,.int .u8 0,.int .u8 0,.slice none 0 0]) 6 64:=⟨by kernel_rfl,by kernel_rfl,rfl,by decide,by decide⟩
def QR (w:World) (l:List jS) (r:Ending) (w':World):Prop:=∃s':Sl,r=.returned s'.v/\aP w' b0 6 s' (l.flatMap jS.c)/\∀x∈bC s',w.heap.size<=x
theorem SR (s:ByteArray) (i j:Nat):s.extract i j=ba (((bl s).take j).drop i):=by
 have:bl (s.extract i j)=((bl s).take j).drop i:=by
  unfold bl
  rw [ByteArray.data_extract,Array.toList_extract,List.extract_eq_take_drop]
  rw [List.drop_take]
 rw [<-this,AK]
theorem WD (c:UInt8) {A B:Prop} (h1:tv c=true->A) (h2:tv c=false->B):aF (decide (((c.toNat:Nat):Int)>=97)) (aF (decide (((c.toNat:Nat):Int)<=122)) A B) B:=
 aM (λha=>aM (λhb=>h1 (by unfold tv;rw [decide_eq_true (show 97<=c.toNat by omega),decide_eq_true (show c.toNat<=122 by omega)];rfl)) (λhb=>h2 (by unfold tv;rw [decide_eq_false (show ¬c.toNat<=122 by omega)];simp))) (λha=>h2 (by unfold tv;rw [decide_eq_false (show ¬97<=c.toNat by omega)];simp))
theorem IH (s:BL) (i:Nat):∀(f n:Nat),i+n<=s.length->n<=Ax s i f n/\i+Ax s i f n<=s.length
 |0,n,h=>⟨Nat.le_refl _,h⟩
 |f+1,n,h=>by
  unfold Ax
  split
  .rename_i h0
   simp only [Bool.and_eq_true,decide_eq_true_eq] at h0
   have:=IH s i f (n+1) (by omega)
   exact ⟨by omega,this.2⟩
  .exact ⟨Nat.le_refl _,h⟩
theorem Lf (s:ByteArray) (hs:s.size<=100000) (w:World):Calls Tryz.prog jz #[.string s] w λr w'=>QR w (sX (bl s)) r w'/\bI w w':=by
 have hl:(bl s).length=s.size:=iK s
 let R:aD:=λr w'=>QR w (sX (bl s)) r w'/\bI w w'
 have fin:∀(acc:List jS) (sl:Sl) (w1:World),acc.length<=s.size->sX (bl s)=acc++[⟨[],(bl s).length,0,0,0⟩]->LH F0 w w1 [.row b0 6 sl (acc.flatMap jS.c)] []->
   fJ w1 (.cells #[.s0,.i ((s.size:Nat):Int),.i 0,.int .u8 0,.int .u8 0,.slice none 0 0] b0) λw7=>
 ∃(t81:Sl) (w8:World),Sem.run Tryz.prog (Builtin.append_ #[bT,bT] bT #[sl.v,.slice (some (nb w1)) 1 1]) w7=.ok (t81.v) w8/\R (.returned (t81.v)) w8:=by
  intro acc sl w1 ha he H
  have uf:=E8 (H.get 0:aP _ _ _ _ _).jh
  refine H.Yv 0 LO rfl (λs' w2 H2 _ _=>⟨⟨s',rfl,?_,λx hx=>(H2.new _ (cZ (i:=0) rfl) x hx).resolve_right id⟩,H2.fr⟩) (by omega)
  rw [he,<-E9]
  exact H2.get 0
 have loop:∀(f i:Nat) (acc:List jS) (sl:Sl) (w1:World),s.size<f+i->i<=s.size->acc.length<=i->sX (bl s)=acc++CH (bl s) f i->LH F0 w w1 [.row b0 6 sl (acc.flatMap jS.c)] []->enthymemeref04_Tokens.eH s sl (i:Int) w1 R:=by
  intro f
  induction f with
  |zero=>intro i acc sl w1 hf hi;omega
  |succ f XT=>
   intro i acc sl w1 hf hi Gm he H
   refine enthymemeref04_Tokens.bA _ _ _ _ _ (aM (λl6=>⟨by omega,_,kS (i:=i) (by omega),?_⟩) (λl6=>fin acc sl w1 (by omega) (by
    rw [he];unfold CH;rw [if_pos (by omega)]) H))
   unfold CH at he
   rw [if_neg (by omega)] at he
   refine NN (n:=32) (by omega) (λFs=>?_) (λFs=>?_)
   .have Fs:gQ (bl s) i=32:=eq_of_beq Fs
    rw [if_pos Fs] at he
    rw [aY _ (by omega)]
    exact XT (i+1) acc sl w1 (by omega) (by omega) (by omega) he H
   have Fs:gQ (bl s) i≠32:=beq_eq_false_iff_ne.1 Fs
   rw [if_neg Fs] at he
   simp only at he
   refine H.call (Jk s hs i (by omega) w1) ?_
   rintro _ w2 rfl H2
   have hr:=zl (bl s) i
   generalize ir (bl s) i=g at he hr
   refine ⟨_,_,_,⟨none,0,0⟩,_,rfl,H2.bJ λb w3 H3=>?_⟩
   have H3:LH F0 w w3 [.row b0 6 sl (acc.flatMap jS.c),.g b] []:=H3
   have one:∀(n:Nat) (w4:World),1<=n->i+n<=s.size->sX (bl s)=acc++⟨((bl s).take (i+n)).drop i,i,g.k,g.lo,g.hi⟩::CH (bl s) f (i+n)->LH F0 w w4 [.row b0 6 sl (acc.flatMap jS.c),.g b] []->
     enthymemeref04_Tokens.eY s sl (i:Int) b (g.k:Int) (g.lo.toNat:Int) (g.hi.toNat:Int) ⟨none,0,0⟩ (n:Int) w4 R:=by
    intro n w4 hn vf Zk H4
    show (0:Int)<=_/\_
    have ei:IntKind.wrap .i64 ((i:Int)+(n:Int))=((i+n:Nat):Int):=by rw [IntWalk.i64_in _ (by omega)];omega
    rw [ei,Int.toNat_natCast,Int.toNat_natCast,SR]
    refine ⟨by omega,by omega,by omega,by omega,H4.aK λw5 H5=>?_⟩
    have uf:=E8 (H5.get 0:aP _ _ _ _ _).jh
    refine H5.tR 0 LO rfl (λs' w6 H6=>?_) (by omega)
    refine XT (i+n) (acc++[⟨((bl s).take (i+n)).drop i,i,g.k,g.lo,g.hi⟩]) s' w6 (by omega) (by omega) (by simp;omega) (by rw [Zk];simp) ?_
    rw [<-E9]
    exact H6.take 1
   refine aH (λh0=>H3.aK λw4 H4=>?_) (λh0=>H3.aK λw4 H4=>one g.n w4 (by omega) (by omega) (by rw [he,if_neg (by omega)]) H4)
   have h0:g.n=0:=by omega
   rw [if_pos h0] at he
   have word:∀(e n:Nat) (w5:World),s.size<=e+(i+n)->1<=n->i+n<=s.size->Ax (bl s) i (bl s).length 1=Ax (bl s) i e n->LH F0 w w5 [.row b0 6 sl (acc.flatMap jS.c),.g b] []->
     enthymemeref04_Tokens.l4 s sl (i:Int) b (g.k:Int) (g.lo.toNat:Int) (g.hi.toNat:Int) ⟨none,0,0⟩ (n:Int) w5 R:=by
    intro e
    induction e with
    |zero=>
     intro n w5 Zk hn vf hr H5
     have stop:enthymemeref04_Tokens.eY s sl (i:Int) b (g.k:Int) (g.lo.toNat:Int) (g.hi.toNat:Int) ⟨none,0,0⟩ (n:Int) w5 R:=one n w5 hn vf (by rw [he,hr];rfl) H5
     have ei:IntKind.wrap .i64 ((i:Int)+(n:Int))=((i+n:Nat):Int):=by rw [IntWalk.i64_in _ (by omega)];omega
     refine enthymemeref04_Tokens.dJ _ _ _ _ _ _ _ _ _ _ _ ?_
     rw [ei]
     refine ⟨by omega,_,kS (i:=i) (by omega),aZ (λ_=>⟨by omega,_,kS (i:=i) (by omega),aZ (λ_=>aL (decide_eq_false (by omega)) stop) (λ_=>stop)⟩) (λ_=>stop)⟩
    |succ e ihe=>
     intro n w5 Zk hn vf hr H5
     have ei:IntKind.wrap .i64 ((i:Int)+(n:Int))=((i+n:Nat):Int):=by rw [IntWalk.i64_in _ (by omega)];omega
     have stop:(tv (gQ (bl s) i)&&decide (i+n<(bl s).length)&&tv (gQ (bl s) (i+n)))=false->enthymemeref04_Tokens.eY s sl (i:Int) b (g.k:Int) (g.lo.toNat:Int) (g.hi.toNat:Int) ⟨none,0,0⟩ (n:Int) w5 R:=λh=>one n w5 hn vf (by
      rw [he,hr]
      conv=>lhs;unfold Ax
      rw [h];rfl) H5
     refine enthymemeref04_Tokens.dJ _ _ _ _ _ _ _ _ _ _ _ ?_
     rw [ei]
     refine ⟨by omega,_,kS (i:=i) (by omega),?_⟩
     have go:tv (gQ (bl s) i)=true->aF (decide (((i+n:Nat):Int)<((s.size:Nat):Int))) ((0:Int)<=((i+n:Nat):Int)/\∃Sa:UInt8,s[Int.toNat ((i+n:Nat):Int)]? =some Sa/\aF (decide (((Sa.toNat:Nat):Int)>=97)) ((0:Int)<=((i+n:Nat):Int)/\∃Sb:UInt8,s[Int.toNat ((i+n:Nat):Int)]? =some Sb/\aF (decide (((Sb.toNat:Nat):Int)<=122)) (enthymemeref04_Tokens.l4 s sl (i:Int) b (g.k:Int) (g.lo.toNat:Int) (g.hi.toNat:Int) ⟨none,0,0⟩ (IntKind.wrap .i64 ((n:Int)+1)) w5 R) (enthymemeref04_Tokens.eY s sl (i:Int) b (g.k:Int) (g.lo.toNat:Int) (g.hi.toNat:Int) ⟨none,0,0⟩ (n:Int) w5 R)) (enthymemeref04_Tokens.eY s sl (i:Int) b (g.k:Int) (g.lo.toNat:Int) (g.hi.toNat:Int) ⟨none,0,0⟩ (n:Int) w5 R)) (enthymemeref04_Tokens.eY s sl (i:Int) b (g.k:Int) (g.lo.toNat:Int) (g.hi.toNat:Int) ⟨none,0,0⟩ (n:Int) w5 R):=by
      intro h1
      refine aM (λh2=>⟨by omega,_,kS (i:=i+n) (by omega),?_⟩) (λh2=>stop (by rw [decide_eq_false (show ¬i+n<(bl s).length by omega)];simp))
      have key:tv (gQ (bl s) (i+n))=true->enthymemeref04_Tokens.l4 s sl (i:Int) b (g.k:Int) (g.lo.toNat:Int) (g.hi.toNat:Int) ⟨none,0,0⟩ (IntKind.wrap .i64 ((n:Int)+1)) w5 R:=λh3=>by
       rw [aY _ (by omega)]
       refine ihe (n+1) w5 (by omega) (by omega) (by omega) ?_ H5
       rw [hr]
       conv=>lhs;unfold Ax
       rw [h1,h3,decide_eq_true (show i+n<(bl s).length by omega)];rfl
      have TU:tv (gQ (bl s) (i+n))=false->_:=λh3=>stop (by rw [h3];simp)
      have h:=WD (gQ (bl s) (i+n)) key TU
      exact II h (λh=>⟨by omega,_,kS (i:=i+n) (by omega),h⟩) id
     have TU:tv (gQ (bl s) i)=false->_:=λh3=>stop (by rw [h3];simp)
     exact II (WD (gQ (bl s) i) go TU) (λh=>⟨by omega,_,kS (i:=i) (by omega),h⟩) id
   exact word (bl s).length 1 w4 (by omega) (by omega) (by omega) rfl H4
 refine enthymemeref04_Tokens.cV _ w _ ?_
 exact loop (s.size+1) 0 [] ⟨none,0,0⟩ w (by omega) (by omega) (by simp) (by unfold sX;rw [hl];rfl) ((mu [] (by simp)).oJ b0 6)
abbrev rdC (s:Sl) (st:kz):List Value:=[s.v,.i (st.1:Int),.bool st.2]
abbrev o0 (pb:Nat) (s:Sl) (st:kz):En:=.c pb (rdC s st) jk
abbrev pq (s:Sl) (l:List jS):En:=.jh 6 s (l.flatMap jS.c)
abbrev SA (pb:Nat) (s:Sl) (w:World) (A:aD) (st:kz):aD:=λr w'=>(A r w'/\w'.heap[pb]? =some (.cells (rdC s st).toArray jk (0,0)))/\Fr (·=pb) w w'
abbrev De (pb:Nat) (s:Sl) (l:List jS) (st:kz) (w:World):Prop:=LH (·=pb) w w [o0 pb s st] [pq s l]
theorem _root_.Go.W.LH.xP {M:Nat->Prop} {w0 w:World} {L D:List En} {pb:Nat} {s:Sl} {l:List jS} {st:kz} (H:LH M w0 w (o0 pb s st::L) (pq s l::D)):De pb s l st w:=
 LH.zD _ _ (by
  intro e he
  simp only [cU,qnM,or_false] at he
  subst he
  exact ⟨H.get 0,λb hb=>FT.1 hb⟩) (by
  simp only [List.flatMap_cons,List.flatMap_nil,List.append_nil]
  exact (o0 pb s st).nd) (by
  intro e he
  simp only [cU,qnM,or_false] at he
  subst he
  exact ⟨H.getD 0,λb hb e' mI=>by
   simp only [cU,qnM,or_false] at mI
   subst mI
   exact H.dj _ List.mem_cons_self b hb _ List.mem_cons_self⟩)
structure Hq (w:World) (p:Addr) (i:Nat) (t:jS):Prop where
 c0:w.cell? ((p.add (i *6)).add 0)=some (.string (ba t.tx))
 c1:w.cell? ((p.add (i *6)).add 1)=some (.i (t.at_:Int))
 c2:w.cell? ((p.add (i *6)).add 2)=some (.i (t.k:Int))
 c3:w.cell? ((p.add (i *6)).add 3)=some (.int .u8 (t.lo.toNat:Int))
 c4:w.cell? ((p.add (i *6)).add 4)=some (.int .u8 (t.hi.toNat:Int))
 c5:w.cell? ((p.add (i *6)).add 5)=some (.slice none 0 0)
theorem zN {w:World} {s:Sl} {l:List jS} (h:jO 6 w s (l.flatMap jS.c)) {i:Nat} (hi:i<l.length) {K:Addr->Prop} (hk:∀p,s.a=some p->Hq w p i (jI l i)->K p):aX s.a K:=by
 have hg:l[i]? =some (jI l i):=by
  unfold jI
  rw [List.getD_eq_getElem?_getD,gW hi];rfl
 exact oz.elem (f:=jS.c) (sz:=6) I0 (by omega) h.2.2 hg λp hp hc=>hk p hp ⟨hc 0 _ rfl,hc 1 _ rfl,hc 2 _ rfl,hc 3 _ rfl,hc 4 _ rfl,hc 5 _ rfl⟩
def Fk (l:List jS):Prop:=0<l.length/\(jI l (l.length - 1)).tx=[]/\(jI l (l.length - 1)).k=0
section
variable {pb:Nat} {s:Sl} {l:List jS} {st:kz} {w:World}
theorem Lq (H:De pb s l st w) (hi:st.1<l.length):Calls Tryz.prog eL #[.pointer (some (bF pb))] w λr w'=>r=.returned (.string (ba (nE l st)))/\bI w w':=by
 have et:st.2=true->nE l st=[32]:=λh=>by unfold nE;rw [h];rfl
 have ef:st.2=false->nE l st=(jI l st.1).tx:=λh=>by unfold nE;rw [h];rfl
 generalize nE l st=u at et ef
 refine enthymemeref04_reader_see.ok _ w _ ⟨st.2,H.ld 0 2,aZ (λhb=>⟨?_,Fr.refl _ _⟩) (λhb=>?_)⟩
 .rw [et hb];rfl
 rw [ef hb]
 have H1:LH (·=pb) w w.drew [o0 pb s st] [pq s l]:=H.drew
 have hn:=E8 (H1.getD 0:jO _ _ _ _)
 refine ⟨s,H1.ld 0 0,_,H1.ld 0 1,by omega,by omega,zN (H1.getD 0) hi λp hp c=>⟨ba (jI l st.1).tx,?_,rfl,Fr.drew _ _⟩⟩
 rw [Int.toNat_natCast]
 exact c.c0
theorem AL (a b:BL):((ba a).toList==(ba b).toList)=(a==b):=by
 rw [ByteArray.toList_eq,ByteArray.toList_eq]
 rfl
theorem Ei (hl:Fk l) (hi:st.1<l.length) (hs:nE l st≠[]) (hb:st.2=false):st.1+1<l.length:=by
 rcases Nat.lt_or_ge (st.1+1) l.length with h|h
 .exact h
 .exfalso
  apply hs
  have e:st.1=l.length - 1:=by omega
  unfold nE
  rw [hb,e]
  exact hl.2.1
theorem pP (hl:Fk l) (hi:st.1<l.length) (u:BL) (hu:u≠[32]):(iu l u st).2.1<l.length:=by
 unfold iu
 cases he:nE l st==u with
 |false=>exact hi
 |true=>
  have he:=eq_of_beq he
  cases hem:u.isEmpty with
  |true=>exact hi
  |false=>
   show st.1+1<l.length
   refine Ei hl hi (λh=>?_) ?_
   .rw [h] at he;subst he;cases hem
   .cases hb:st.2 with
    |false=>rfl
    |true=>
     exfalso;apply hu
     rw [<-he];unfold nE;rw [hb];rfl
theorem tT (H:De pb s l st w) (hi:st.1<l.length) (pU:l.length<=1000000) (u:BL):Calls Tryz.prog bV #[.pointer (some (bF pb)),.string (ba u)] w (SA pb s w (λr _=>r=.returned (.bool (iu l u st).1)) (iu l u st).2):=by
 refine enthymemeref04_reader_take.ok _ _ w _ (H.call (Lq H hi) ?_)
 rintro _ w1 rfl H1
 refine ⟨_,rfl,?_⟩
 dsimp only
 rw [AL]
 have NY:((ba u).toList==(ByteArray.mk #[]).toList)=u.isEmpty:=by
  have:ByteArray.mk #[]=ba []:=rfl
  rw [this,AL]
  cases u<;>rfl
 rw [NY]
 refine eQ (λhe=>⟨⟨?_,?_⟩,H1.fr⟩) (λhe=>eQ (λh0=>⟨_,H1.ld 0 1,?_⟩) (λh0=>⟨⟨?_,?_⟩,H1.fr⟩))
 .unfold iu;rw [he];rfl
 .have:(iu l u st).2=st:=by unfold iu;rw [he];rfl
  rw [this];exact H1.get 0
 .rw [aY _ (by omega)]
  refine H1.st 0 1 rfl λw2 H2=>⟨⟨?_,?_⟩,H2.fr⟩
  .unfold iu;rw [he];rfl
  .have:(iu l u st).2=(st.1+1,st.2):=by unfold iu;rw [he,h0];rfl
   rw [this];exact H2.get 0
 .unfold iu;rw [he];rfl
 .have:(iu l u st).2=st:=by unfold iu;rw [he,h0];rfl
  rw [this];exact H1.get 0
theorem Er (u:BL):qd l u st=bif (iu l u st).1 then (iu l u st).2 else ((iu l u st).2.1,true):=by
 unfold qd
 generalize iu l u st=x
 obtain ⟨b,dL⟩:=x
 cases b<;>rfl
theorem sM (hl:Fk l) (hi:st.1<l.length) (u:BL) (hu:u≠[32]):(qd l u st).1<l.length:=by
 rw [Er]
 have:=pP hl hi u hu
 cases (iu l u st).1<;>exact this
theorem yw (H:De pb s l st w) (hi:st.1<l.length) (pU:l.length<=1000000) (u:BL):Calls Tryz.prog cO #[.pointer (some (bF pb)),.string (ba u)] w (SA pb s w (λr _=>r=.returned (.tuple #[])) (qd l u st)):=by
 refine enthymemeref04_reader_need.ok _ _ w _ (H.yB (tT H hi pU u) ?_)
 rintro _ w1 rfl H1 _
 rw [Er]
 refine ⟨_,rfl,eQ (λhb=>H1.st 0 2 rfl λw2 H2=>⟨⟨rfl,?_⟩,H2.fr⟩) (λhb=>⟨⟨rfl,?_⟩,H1.fr⟩)⟩
 .rw [hb];exact H2.get 0
 .rw [hb];exact H1.get 0
theorem Lh (H:De pb s l st w) (hi:st.1<l.length):Calls Tryz.prog gH #[.pointer (some (bF pb))] w λr w'=>r=.returned (.bool (xV l st))/\bI w w':=by
 refine enthymemeref04_reader_begins.ok _ w _ ((Lq H hi).mono ?_)
 rintro _ w1 ⟨rfl,f1⟩
 have H1:=H.oR f1
 refine ⟨_,rfl,st.2,H1.ld 0 2,?_⟩
 have e:∀u:List UInt8,((ba (nE l st)).toList==(ba u).toList)=(nE l st==u):=λu=>AL _ _
 have e0:=e []
 have e1:=e [41]
 have e2:=e [44]
 have e3:=e [124]
 have e4:=e [38]
 unfold xV
 show aF _ (aF (!((ba (nE l st)).toList==(ba []).toList)) (aF (!((ba (nE l st)).toList==(ba [41]).toList)) (aF (!((ba (nE l st)).toList==(ba [44]).toList)) (aF (!((ba (nE l st)).toList==(ba [124]).toList)) (Ending.returned (.bool (!((ba (nE l st)).toList==(ba [38]).toList)))=_/\bI w w1) _) _) _) _) _
 rw [e0,e1,e2,e3,e4]
 cases st.2<;>cases nE l st==[]<;>cases nE l st==[41]<;>cases nE l st==[44]<;>cases nE l st==[124]<;>first |exact ⟨rfl,f1⟩|skip
end
theorem BU (k:Int) (s:Sl) (l:List Rt) (w:World) (h:(eE s l).P w):Calls Tryz.prog dA #[.i k,s.v] w λr w'=>oV (eE s l).fp w (ub k (Rt.bU l)) r w'/\bI w w':=by
 have nr:=Rt.cC (fM.1 h).1
 refine enthymemeref04_group.cV _ _ w _ ((za h).bJ λb w1 H1=>aH (λh1=>?_) (λh1=>H1.aK λw2 H2=>⟨⟨.mk k 0 0 s l,rfl,?_,?_,λb hb=>.inr hb⟩,H2.fr⟩))
 .match l,nr with
  |[],nr=>simp at nr;omega
  |a::b::m,nr=>simp at nr;omega
  |[a],nr=>
   refine ⟨by omega,by omega,Rt.at' (fM.1 (show (eE s [a]).P w1 from H1.getD 0)).1 (i:=0) rfl λp hp c=>⟨_,_,_,_,c.c0,c.c1,c.c2,c.c3,H1.aK λw2 H2=>⟨⟨a,rfl,rfl,?_,λb hb=>.inr ?_⟩,H2.fr⟩⟩⟩
   .exact (fM.1 (show (eE s [a]).P w2 from H2.getD 0)).2.mem (by simp)
   .exact oD.2 (.inr (Rt.bD.2 ⟨a,by simp,hb⟩))
 .show Rx.mk k 0 0 (Rt.bU l)=_
  match l,nr with
  |[],nr=>rfl
  |[a],nr=>simp at nr;omega
  |a::b::m,nr=>rfl
 .have:=fM.1 (show (eE s l).P w2 from H2.getD 0)
  unfold Rt.P
  exact this
structure KW (s:Sl) (l:List jS) (n:Nat):Prop where
 expr:∀(pb:Nat) (st:kz) (w:World) (x:Rx) (dL:kz),qH l n st=some (x,dL)->st.1<l.length->De pb s l st w->Calls Tryz.prog cM #[.pointer (some (bF pb))] w (SA pb s w (λr w'=>oA w x r w'/\dL.1<l.length) dL)
 VF:∀(pb:Nat) (st:kz) (w:World) (x:Rx) (dL:kz),uT l n st=some (x,dL)->st.1<l.length->De pb s l st w->Calls Tryz.prog cY #[.pointer (some (bF pb))] w (SA pb s w (λr w'=>oA w x r w'/\dL.1<l.length) dL)
 seq:∀(pb:Nat) (st:kz) (w:World) (x:Rx) (dL:kz),Cy l n st=some (x,dL)->st.1<l.length->De pb s l st w->Calls Tryz.prog dH #[.pointer (some (bF pb))] w (SA pb s w (λr w'=>oA w x r w'/\dL.1<l.length) dL)
 item:∀(pb:Nat) (st:kz) (w:World) (x:Rx) (dL:kz),sH l n st=some (x,dL)->st.1<l.length->De pb s l st w->Calls Tryz.prog cN #[.pointer (some (bF pb))] w (SA pb s w (λr w'=>oA w x r w'/\dL.1<l.length) dL)
 atom:∀(pb:Nat) (st:kz) (w:World) (x:Rx) (dL:kz),ym l n st=some (x,dL)->st.1<l.length->De pb s l st w->Calls Tryz.prog fH #[.pointer (some (bF pb))] w (SA pb s w (λr w'=>oA w x r w'/\dL.1<l.length) dL)
 kids:∀(pb:Nat) (st:kz) (w:World) (m:List Rx) (dL:kz),y6 l n st=some (m,dL)->st.1<l.length->De pb s l st w->Calls Tryz.prog fI #[.pointer (some (bF pb))] w (SA pb s w (λr w'=>(∃(sl:Sl) (a:List Rt),r=.returned sl.v/\Rt.bU a=m/\(eE sl a).P w'/\∀b∈(eE sl a).fp,w.heap.size<=b)/\dL.1<l.length) dL)
theorem yd {M:Nat->Prop} {w0 w:World} {L D:List En} {pb:Nat} {s:Sl} {st:kz} (H:LH M w0 w (o0 pb s st::L) D) (i:Nat) {e:En} (hi:L[i]? =some e) {b:Nat} (hb:b∈e.fp):b≠pb:=λh=>
 oZ H.nd (i:=i+1) (by simpa using hi) (j:=0) rfl (by omega) b hb (FT.2 h)
theorem _root_.Go.W.LH.DE {M:Nat->Prop} {w0 w:World} {L D:List En} (H:LH M w0 w L D) (j:Nat) {t:Rt} (hj:D[j]? =some (.tree t):=by rfl):LH M w0 w L (D++[.trees [t]]):=by
 refine H.mE _ (Fr.refl _ _) (Rt.oq λt' ht=>?_) λb hb=>.inr (.inr ?_)
 .simp at ht;subst ht;exact H.getD j hj
 .obtain ⟨t',ht,eD⟩:=Rt.bD.1 (aI.1 hb)
  simp at ht
  rw [ht] at eD
  exact ⟨_,cZ hj,aI.2 eD⟩
section
variable {s:Sl} {l:List jS} {n:Nat}
theorem AZ (dN:Fk l) (pU:l.length<=1000000) (ih:∀m,m<=n->KW s l m) (pb:Nat) (w:World) (x:Rx) (dL:kz):∀(f:Nat),f<=n->∀(acc:List Rt) (sl:Sl) (b2:Nat) (w1:World) (st:kz),AH l f (Rt.bU acc) st=some (x,dL)->st.1<l.length->acc.length+f<=1000000->(∀b∈Rt.gK acc,w.heap.size<=b)->
  LH (·=pb) w w1 [o0 pb s st,.g b2,.row aA 4 sl (acc.flatMap Rt.c)] [pq s l,.trees acc]->
  enthymemeref04_reader_expr.eH (bF pb) b2 0 0 0 ⟨none,0,0⟩ sl w1 (SA pb s w (λr w'=>oA w x r w'/\dL.1<l.length) dL)
 |0,_=>λacc sl b2 w1 st he=>by unfold AH at he;cases he
 |f+1,hf=>λacc sl b2 w1 st he hi Gm A7 H=>by
  have uf:=Rt.cC (H.get 2:aP _ _ _ _ _).jh
  unfold AH at he
  have fin:∀(w2:World) (kT:kz),kT.1<l.length->some (ub 4 (Rt.bU acc),kT)=some (x,dL)->LH (·=pb) w w2 [o0 pb s kT,.g b2,.row aA 4 sl (acc.flatMap Rt.c)] [pq s l,.trees acc]->
    uA [b2] dA #[.i 4,sl.v] w2 λEZ E0 E1 E2 w8=>loc [b2] w8 λqV=>SA pb s w (λr w'=>oA w x r w'/\dL.1<l.length) dL (.returned (.agg #[.i EZ,.int .u8 E0,.int .u8 E1,E2.v])) qV:=by
   intro w2 kT Fu jc H2
   simp only [Option.some.injEq,Prod.mk.injEq] at jc
   obtain ⟨rfl,rfl⟩:=jc
   have qn:∀b∈(eE sl acc).fp,w.heap.size<=b:=λb hb=>by
    rcases oD.1 hb with hb|hb
    .exact (H2.new _ (cZ (i:=2) rfl) b (fQ hb)).resolve_right (yd H2 1 rfl (fQ hb))
    .exact A7 b hb
   have H3:LH (·=pb) w w2 [o0 pb s kT,.g b2] [pq s l,.trees acc,Rt.row sl acc,.tree (eE sl acc)]:=H2.GZ 2 1 0 0 0
   refine H3.yD (BU 4 sl acc w2 (H3.getD 3)) (λb hb=>⟨_,cZ (i:=3) rfl,aI.2 hb⟩) λt w3 ht H4 ft=>?_
   refine ⟨_,_,_,t.s,rfl,H4.aK λw4 H5=>⟨⟨⟨⟨t,rfl,ht,H5.getD 4,λb hb=>?_⟩,Fu⟩,H5.get 0⟩,H5.fr⟩⟩
   rcases ft b hb with hb|hb
   .exact Nat.le_trans H3.fr.size hb
   .exact qn b hb
  have more:∀(w2:World) (kT:kz),kT.1<l.length->(match uT l f kT with
   |some (a,st)=>AH l f (Rt.bU acc++[a]) st
   |none=>none)=some (x,dL)->LH (·=pb) w w2 [o0 pb s kT,.g b2,.row aA 4 sl (acc.flatMap Rt.c)] [pq s l,.trees acc]->
    uA [b2] cY #[.pointer (some (bF pb))] w2 λEV EW EX EY w5=>fJ w5 (.cells #[.i EV,.int .u8 EW,.int .u8 EX,EY.v] aA) λw6=>
     ∃(t13:Sl) (w7:World),Sem.run Tryz.prog (Builtin.append_ #[aC,aC] aC #[sl.v,.slice (some (nb w5)) 1 1]) w6=.ok (t13.v) w7/\kept [b2] w6 w7/\enthymemeref04_reader_expr.eH (bF pb) b2 0 0 0 ⟨none,0,0⟩ t13 w7 (SA pb s w (λr w'=>oA w x r w'/\dL.1<l.length) dL):=by
   intro w2 kT Fu jc H2
   cases hc:uT l f kT with
   |none=>rw [hc] at jc;cases jc
   |some y=>
    obtain ⟨a,lO⟩:=y
    rw [hc] at jc
    refine H2.kD ((ih f (by omega)).VF pb kT w2 a lO hc Fu H2.xP) ?_
    rintro _ w3 ⟨⟨u,rfl,hu,pu,fu⟩,wq⟩ _ F3
    have H4:=F3 (.tree u) pu λb hb=>fu b (aI.1 hb)
    have H4:LH (·=pb) w w3 [o0 pb s lO,.g b2,.row aA 4 sl (acc.flatMap Rt.c)] [pq s l,.trees acc,.tree u]:=H4
    refine ⟨_,_,_,u.s,rfl,H4.tR 2 nQ (xs:=acc.flatMap Rt.c) rfl (λs' w5 H5=>?_) (by omega)⟩
    have H6:LH (·=pb) w w5 [o0 pb s lO,.g b2,.row aA 4 s' ((acc++[u]).flatMap Rt.c)] [pq s l,.trees (acc++[u])]:=by
     rw [mq]
     exact (H5.zv 1 2).forget _ (by simp)
    refine AZ dN pU ih pb w x dL f (by omega) (acc++[u]) s' b2 w5 lO ?_ wq (by simp;omega) (qI A7 λb hb=>Nat.le_trans H2.fr.size (fu b hb)) H6
    rw [kh]
    have:Rt.bU [u]=[a]:=by simp [Rt.bU,hu]
    rw [this]
    exact jc
  refine enthymemeref04_reader_expr.bA _ _ _ _ _ _ _ _ _ (H.kD (tT H.xP hi pU [124]) ?_)
  have ht:=pP dN hi [124] (by decide)
  rintro _ w2 rfl H2 _
  refine ⟨_,rfl,?_⟩
  cases hq:iu l [124] st with
  |mk q kT=>
   rw [hq] at he H2 ht
   cases q with
   |true=>exact more w2 kT ht he H2
   |false=>exact fin w2 kT ht he H2
theorem Js (dN:Fk l) (pU:l.length<=1000000) (hn:n<=100000) (ih:∀m,m<=n->KW s l m) (pb:Nat) (st:kz) (w:World) (x:Rx) (dL:kz) (he:qH l (n+1) st=some (x,dL)) (hi:st.1<l.length) (H:De pb s l st w):
  Calls Tryz.prog cM #[.pointer (some (bF pb))] w (SA pb s w (λr w'=>oA w x r w'/\dL.1<l.length) dL):=by
 unfold qH at he
 cases hc:uT l n st with
 |none=>rw [hc] at he;cases he
 |some y=>
  obtain ⟨a,lO⟩:=y
  rw [hc] at he
  refine enthymemeref04_reader_expr.cV _ w _ (H.bJ λb2 w1 H1=>?_)
  have H1:LH (·=pb) w w1 [o0 pb s st,.g b2] [pq s l]:=H1
  refine H1.kD ((ih n (Nat.le_refl _)).VF pb st w1 a lO hc hi H1.xP) ?_
  rintro _ w3 ⟨⟨u,rfl,hu,pu,fu⟩,wq⟩ _ F3
  have H4:=F3 (.tree u) pu λb hb=>fu b (aI.1 hb)
  have H4:LH (·=pb) w w3 [o0 pb s lO,.g b2] [pq s l,.tree u]:=H4
  refine ⟨_,_,_,u.s,rfl,H4.iH (n:=1) (sz:=4) (cs:=u.c) rfl (by decide) λw4 H5=>?_⟩
  have H6:LH (·=pb) w w4 [o0 pb s lO,.g b2,.row aA 4 ⟨some (bF w3.heap.size),1,1⟩ ([u].flatMap Rt.c)] [pq s l,.trees [u]]:=by
   have e:[u].flatMap Rt.c=u.c:=by simp
   rw [e]
   exact (H5.DE 1).forget _ (by simp)
  refine AZ dN pU ih pb w x dL n (Nat.le_refl _) [u] _ b2 w4 lO ?_ wq (by simp;omega) (λb hb=>?_) H6
  .have:Rt.bU [u]=[a]:=by simp [Rt.bU,hu]
   rw [this]
   exact he
  .obtain ⟨t,ht,hb⟩:=Rt.bD.1 hb
   simp at ht
   rw [ht] at hb
   exact Nat.le_trans H1.fr.size (fu b hb)
theorem AV (dN:Fk l) (pU:l.length<=1000000) (ih:∀m,m<=n->KW s l m) (pb:Nat) (w:World) (x:Rx) (dL:kz):∀(f:Nat),f<=n->∀(acc:List Rt) (sl:Sl) (b2:Nat) (w1:World) (st:kz),AI l f (Rt.bU acc) st=some (x,dL)->st.1<l.length->acc.length+f<=1000000->(∀b∈Rt.gK acc,w.heap.size<=b)->
  LH (·=pb) w w1 [o0 pb s st,.g b2,.row aA 4 sl (acc.flatMap Rt.c)] [pq s l,.trees acc]->
  enthymemeref04_reader_conj.eH (bF pb) b2 0 0 0 ⟨none,0,0⟩ sl w1 (SA pb s w (λr w'=>oA w x r w'/\dL.1<l.length) dL)
 |0,_=>λacc sl b2 w1 st he=>by unfold AI at he;cases he
 |f+1,hf=>λacc sl b2 w1 st he hi Gm A7 H=>by
  have uf:=Rt.cC (H.get 2:aP _ _ _ _ _).jh
  unfold AI at he
  have fin:∀(w2:World) (kT:kz),kT.1<l.length->some (ub 5 (Rt.bU acc),kT)=some (x,dL)->LH (·=pb) w w2 [o0 pb s kT,.g b2,.row aA 4 sl (acc.flatMap Rt.c)] [pq s l,.trees acc]->
    uA [b2] dA #[.i 5,sl.v] w2 λEZ E0 E1 E2 w8=>loc [b2] w8 λqV=>SA pb s w (λr w'=>oA w x r w'/\dL.1<l.length) dL (.returned (.agg #[.i EZ,.int .u8 E0,.int .u8 E1,E2.v])) qV:=by
   intro w2 kT Fu jc H2
   simp only [Option.some.injEq,Prod.mk.injEq] at jc
   obtain ⟨rfl,rfl⟩:=jc
   have qn:∀b∈(eE sl acc).fp,w.heap.size<=b:=λb hb=>by
    rcases oD.1 hb with hb|hb
    .exact (H2.new _ (cZ (i:=2) rfl) b (fQ hb)).resolve_right (yd H2 1 rfl (fQ hb))
    .exact A7 b hb
   have H3:LH (·=pb) w w2 [o0 pb s kT,.g b2] [pq s l,.trees acc,Rt.row sl acc,.tree (eE sl acc)]:=H2.GZ 2 1 0 0 0
   refine H3.yD (BU 5 sl acc w2 (H3.getD 3)) (λb hb=>⟨_,cZ (i:=3) rfl,aI.2 hb⟩) λt w3 ht H4 ft=>?_
   refine ⟨_,_,_,t.s,rfl,H4.aK λw4 H5=>⟨⟨⟨⟨t,rfl,ht,H5.getD 4,λb hb=>?_⟩,Fu⟩,H5.get 0⟩,H5.fr⟩⟩
   rcases ft b hb with hb|hb
   .exact Nat.le_trans H3.fr.size hb
   .exact qn b hb
  have more:∀(w2:World) (kT:kz),kT.1<l.length->(match Cy l f kT with
   |some (a,st)=>AI l f (Rt.bU acc++[a]) st
   |none=>none)=some (x,dL)->LH (·=pb) w w2 [o0 pb s kT,.g b2,.row aA 4 sl (acc.flatMap Rt.c)] [pq s l,.trees acc]->
    uA [b2] dH #[.pointer (some (bF pb))] w2 λEV EW EX EY w5=>fJ w5 (.cells #[.i EV,.int .u8 EW,.int .u8 EX,EY.v] aA) λw6=>
     ∃(t13:Sl) (w7:World),Sem.run Tryz.prog (Builtin.append_ #[aC,aC] aC #[sl.v,.slice (some (nb w5)) 1 1]) w6=.ok (t13.v) w7/\kept [b2] w6 w7/\enthymemeref04_reader_conj.eH (bF pb) b2 0 0 0 ⟨none,0,0⟩ t13 w7 (SA pb s w (λr w'=>oA w x r w'/\dL.1<l.length) dL):=by
   intro w2 kT Fu jc H2
   cases hc:Cy l f kT with
   |none=>rw [hc] at jc;cases jc
   |some y=>
    obtain ⟨a,lO⟩:=y
    rw [hc] at jc
    refine H2.kD ((ih f (by omega)).seq pb kT w2 a lO hc Fu H2.xP) ?_
    rintro _ w3 ⟨⟨u,rfl,hu,pu,fu⟩,wq⟩ _ F3
    have H4:=F3 (.tree u) pu λb hb=>fu b (aI.1 hb)
    have H4:LH (·=pb) w w3 [o0 pb s lO,.g b2,.row aA 4 sl (acc.flatMap Rt.c)] [pq s l,.trees acc,.tree u]:=H4
    refine ⟨_,_,_,u.s,rfl,H4.tR 2 nQ (xs:=acc.flatMap Rt.c) rfl (λs' w5 H5=>?_) (by omega)⟩
    have H6:LH (·=pb) w w5 [o0 pb s lO,.g b2,.row aA 4 s' ((acc++[u]).flatMap Rt.c)] [pq s l,.trees (acc++[u])]:=by
     rw [mq]
     exact (H5.zv 1 2).forget _ (by simp)
    refine AV dN pU ih pb w x dL f (by omega) (acc++[u]) s' b2 w5 lO ?_ wq (by simp;omega) (qI A7 λb hb=>Nat.le_trans H2.fr.size (fu b hb)) H6
    rw [kh]
    have:Rt.bU [u]=[a]:=by simp [Rt.bU,hu]
    rw [this]
    exact jc
  refine enthymemeref04_reader_conj.bA _ _ _ _ _ _ _ _ _ (H.kD (tT H.xP hi pU [38]) ?_)
  have ht:=pP dN hi [38] (by decide)
  rintro _ w2 rfl H2 _
  refine ⟨_,rfl,?_⟩
  cases hq:iu l [38] st with
  |mk q kT=>
   rw [hq] at he H2 ht
   cases q with
   |true=>exact more w2 kT ht he H2
   |false=>exact fin w2 kT ht he H2
theorem Jp (dN:Fk l) (pU:l.length<=1000000) (hn:n<=100000) (ih:∀m,m<=n->KW s l m) (pb:Nat) (st:kz) (w:World) (x:Rx) (dL:kz) (he:uT l (n+1) st=some (x,dL)) (hi:st.1<l.length) (H:De pb s l st w):
  Calls Tryz.prog cY #[.pointer (some (bF pb))] w (SA pb s w (λr w'=>oA w x r w'/\dL.1<l.length) dL):=by
 unfold uT at he
 cases hc:Cy l n st with
 |none=>rw [hc] at he;cases he
 |some y=>
  obtain ⟨a,lO⟩:=y
  rw [hc] at he
  refine enthymemeref04_reader_conj.cV _ w _ (H.bJ λb2 w1 H1=>?_)
  have H1:LH (·=pb) w w1 [o0 pb s st,.g b2] [pq s l]:=H1
  refine H1.kD ((ih n (Nat.le_refl _)).seq pb st w1 a lO hc hi H1.xP) ?_
  rintro _ w3 ⟨⟨u,rfl,hu,pu,fu⟩,wq⟩ _ F3
  have H4:=F3 (.tree u) pu λb hb=>fu b (aI.1 hb)
  have H4:LH (·=pb) w w3 [o0 pb s lO,.g b2] [pq s l,.tree u]:=H4
  refine ⟨_,_,_,u.s,rfl,H4.iH (n:=1) (sz:=4) (cs:=u.c) rfl (by decide) λw4 H5=>?_⟩
  have H6:LH (·=pb) w w4 [o0 pb s lO,.g b2,.row aA 4 ⟨some (bF w3.heap.size),1,1⟩ ([u].flatMap Rt.c)] [pq s l,.trees [u]]:=by
   have e:[u].flatMap Rt.c=u.c:=by simp
   rw [e]
   exact (H5.DE 1).forget _ (by simp)
  refine AV dN pU ih pb w x dL n (Nat.le_refl _) [u] _ b2 w4 lO ?_ wq (by simp;omega) (λb hb=>?_) H6
  .have:Rt.bU [u]=[a]:=by simp [Rt.bU,hu]
   rw [this]
   exact he
  .obtain ⟨t,ht,hb⟩:=Rt.bD.1 hb
   simp at ht
   rw [ht] at hb
   exact Nat.le_trans H1.fr.size (fu b hb)
theorem EL (dN:Fk l) (pU:l.length<=1000000) (ih:∀m,m<=n->KW s l m) (pb:Nat) (w:World) (x:Rx) (dL:kz):∀(f:Nat),f<=n->∀(acc:List Rt) (sl:Sl) (b2:Nat) (w1:World) (st:kz),wz l f (Rt.bU acc) st=some (x,dL)->st.1<l.length->acc.length+f<=1000000->(∀b∈Rt.gK acc,w.heap.size<=b)->
  LH (·=pb) w w1 [o0 pb s st,.g b2,.row aA 4 sl (acc.flatMap Rt.c)] [pq s l,.trees acc]->
  enthymemeref04_reader_seq.eH (bF pb) b2 0 0 0 ⟨none,0,0⟩ sl w1 (SA pb s w (λr w'=>oA w x r w'/\dL.1<l.length) dL)
 |0,_=>λacc sl b2 w1 st he=>by unfold wz at he;cases he
 |f+1,hf=>λacc sl b2 w1 st he hi Gm A7 H=>by
  have uf:=Rt.cC (H.get 2:aP _ _ _ _ _).jh
  unfold wz at he
  have fin:∀(w2:World) (kT:kz),kT.1<l.length->some (ub 3 (Rt.bU acc),kT)=some (x,dL)->LH (·=pb) w w2 [o0 pb s kT,.g b2,.row aA 4 sl (acc.flatMap Rt.c)] [pq s l,.trees acc]->
    uA [b2] dA #[.i 3,sl.v] w2 λEZ E0 E1 E2 w8=>loc [b2] w8 λqV=>SA pb s w (λr w'=>oA w x r w'/\dL.1<l.length) dL (.returned (.agg #[.i EZ,.int .u8 E0,.int .u8 E1,E2.v])) qV:=by
   intro w2 kT Fu jc H2
   simp only [Option.some.injEq,Prod.mk.injEq] at jc
   obtain ⟨rfl,rfl⟩:=jc
   have qn:∀b∈(eE sl acc).fp,w.heap.size<=b:=λb hb=>by
    rcases oD.1 hb with hb|hb
    .exact (H2.new _ (cZ (i:=2) rfl) b (fQ hb)).resolve_right (yd H2 1 rfl (fQ hb))
    .exact A7 b hb
   have H3:LH (·=pb) w w2 [o0 pb s kT,.g b2] [pq s l,.trees acc,Rt.row sl acc,.tree (eE sl acc)]:=H2.GZ 2 1 0 0 0
   refine H3.yD (BU 3 sl acc w2 (H3.getD 3)) (λb hb=>⟨_,cZ (i:=3) rfl,aI.2 hb⟩) λt w3 ht H4 ft=>?_
   refine ⟨_,_,_,t.s,rfl,H4.aK λw4 H5=>⟨⟨⟨⟨t,rfl,ht,H5.getD 4,λb hb=>?_⟩,Fu⟩,H5.get 0⟩,H5.fr⟩⟩
   rcases ft b hb with hb|hb
   .exact Nat.le_trans H3.fr.size hb
   .exact qn b hb
  have more:∀(w2:World) (kT:kz),kT.1<l.length->(match sH l f kT with
   |some (a,st)=>wz l f (Rt.bU acc++[a]) st
   |none=>none)=some (x,dL)->LH (·=pb) w w2 [o0 pb s kT,.g b2,.row aA 4 sl (acc.flatMap Rt.c)] [pq s l,.trees acc]->
    uA [b2] cN #[.pointer (some (bF pb))] w2 λEV EW EX EY w5=>fJ w5 (.cells #[.i EV,.int .u8 EW,.int .u8 EX,EY.v] aA) λw6=>
     ∃(t13:Sl) (w7:World),Sem.run Tryz.prog (Builtin.append_ #[aC,aC] aC #[sl.v,.slice (some (nb w5)) 1 1]) w6=.ok (t13.v) w7/\kept [b2] w6 w7/\enthymemeref04_reader_seq.eH (bF pb) b2 0 0 0 ⟨none,0,0⟩ t13 w7 (SA pb s w (λr w'=>oA w x r w'/\dL.1<l.length) dL):=by
   intro w2 kT Fu jc H2
   cases hc:sH l f kT with
   |none=>rw [hc] at jc;cases jc
   |some y=>
    obtain ⟨a,lO⟩:=y
    rw [hc] at jc
    refine H2.kD ((ih f (by omega)).item pb kT w2 a lO hc Fu H2.xP) ?_
    rintro _ w3 ⟨⟨u,rfl,hu,pu,fu⟩,wq⟩ _ F3
    have H4:=F3 (.tree u) pu λb hb=>fu b (aI.1 hb)
    have H4:LH (·=pb) w w3 [o0 pb s lO,.g b2,.row aA 4 sl (acc.flatMap Rt.c)] [pq s l,.trees acc,.tree u]:=H4
    refine ⟨_,_,_,u.s,rfl,H4.tR 2 nQ (xs:=acc.flatMap Rt.c) rfl (λs' w5 H5=>?_) (by omega)⟩
    have H6:LH (·=pb) w w5 [o0 pb s lO,.g b2,.row aA 4 s' ((acc++[u]).flatMap Rt.c)] [pq s l,.trees (acc++[u])]:=by
     rw [mq]
     exact (H5.zv 1 2).forget _ (by simp)
    refine EL dN pU ih pb w x dL f (by omega) (acc++[u]) s' b2 w5 lO ?_ wq (by simp;omega) (qI A7 λb hb=>Nat.le_trans H2.fr.size (fu b hb)) H6
    rw [kh]
    have:Rt.bU [u]=[a]:=by simp [Rt.bU,hu]
    rw [this]
    exact jc
  refine enthymemeref04_reader_seq.bA _ _ _ _ _ _ _ _ _ (H.aJ (Lh H.xP hi) ?_)
  rintro _ w2 rfl H2
  refine ⟨_,rfl,?_⟩
  cases hq:xV l st with
  |true=>rw [hq] at he;exact more w2 st hi he H2
  |false=>rw [hq] at he;exact fin w2 st hi he H2
theorem Nm (dN:Fk l) (pU:l.length<=1000000) (hn:n<=100000) (ih:∀m,m<=n->KW s l m) (pb:Nat) (st:kz) (w:World) (x:Rx) (dL:kz) (he:Cy l (n+1) st=some (x,dL)) (hi:st.1<l.length) (H:De pb s l st w):
  Calls Tryz.prog dH #[.pointer (some (bF pb))] w (SA pb s w (λr w'=>oA w x r w'/\dL.1<l.length) dL):=by
 unfold Cy at he
 cases hc:sH l n st with
 |none=>rw [hc] at he;cases he
 |some y=>
  obtain ⟨a,lO⟩:=y
  rw [hc] at he
  refine enthymemeref04_reader_seq.cV _ w _ (H.bJ λb2 w1 H1=>?_)
  have H1:LH (·=pb) w w1 [o0 pb s st,.g b2] [pq s l]:=H1
  refine H1.kD ((ih n (Nat.le_refl _)).item pb st w1 a lO hc hi H1.xP) ?_
  rintro _ w3 ⟨⟨u,rfl,hu,pu,fu⟩,wq⟩ _ F3
  have H4:=F3 (.tree u) pu λb hb=>fu b (aI.1 hb)
  have H4:LH (·=pb) w w3 [o0 pb s lO,.g b2] [pq s l,.tree u]:=H4
  refine ⟨_,_,_,u.s,rfl,H4.iH (n:=1) (sz:=4) (cs:=u.c) rfl (by decide) λw4 H5=>?_⟩
  have H6:LH (·=pb) w w4 [o0 pb s lO,.g b2,.row aA 4 ⟨some (bF w3.heap.size),1,1⟩ ([u].flatMap Rt.c)] [pq s l,.trees [u]]:=by
   have e:[u].flatMap Rt.c=u.c:=by simp
   rw [e]
   exact (H5.DE 1).forget _ (by simp)
  refine EL dN pU ih pb w x dL n (Nat.le_refl _) [u] _ b2 w4 lO ?_ wq (by simp;omega) (λb hb=>?_) H6
  .have:Rt.bU [u]=[a]:=by simp [Rt.bU,hu]
   rw [this]
   exact he
  .obtain ⟨t,ht,hb⟩:=Rt.bD.1 hb
   simp at ht
   rw [ht] at hb
   exact Nat.le_trans H1.fr.size (fu b hb)
end
theorem _root_.Go.W.LH.stq {M:Nat->Prop} {w0 w:World} {L D:List En} {bs:List Nat} (H:LH M w0 w L D) (i j:Nat) {b:Nat} {vs:List Value} {T:TypeId} {v:Value} {K:World->Prop} (hi:L[i]? =some (.c b vs T)) (hK:∀w',LH M w0 w' (L.set i (.c b (vs.set j v) T)) D->K w') (hj:j<vs.length:=by simp) (jf:∀b∈bs,En.g b∈L:=by simp):bX w ((bF b).add j) v λw1=>kept bs w w1/\K w1:=by
 obtain ⟨x1,x2,x3⟩:=H.set (v:=v) i j hi hj
 obtain ⟨_,_,_,x4⟩:=IK (H.ob i hi) j (by simpa using hj) v
 refine ⟨x1,x2,λb' hb=>?_,hK _ x3⟩
 refine x4.gV b' (H.own _ (jf b' hb)) λhm=>pw H hi (HC w b vs T) (jf b' hb) ?_
 rw [hm];exact FT.2 rfl
theorem _root_.Go.W.LH.one {M:Nat->Prop} {w0 w:World} {L D:List En} (H:LH M w0 w L D) (i j:Nat) {e:TypeId} {sl:Sl} {u:Rt} (k:Int) (lo hi:UInt8) (vT:L[i]? =some (.row e 4 sl u.c):=by rfl) (hj:D[j]? =some (.tree u):=by rfl):LH M w0 w (L.eraseIdx i) (D++[.tree (.mk k lo hi sl [u])]):=by
 have H1:=H.DE j hj
 have e:[u].flatMap Rt.c=u.c:=by simp
 have H2:=H1.GZ i D.length k lo hi (s:=sl) (ts:=[u]) (by rw [e];exact vT) (by simp)
 exact H2.forget _ (λd hd=>by
  simp only [fW,cU,qnM,or_false] at hd ⊢
  rcases hd with hd|hd
  .exact .inl (.inl (.inl hd))
  .exact .inr hd)
theorem Cm {w:World} {sl:Sl} {u:Rt} {k:Int} {lo hi:UInt8} (h1:∀b∈bC sl,w.heap.size<=b) (h2:∀b∈u.fp,w.heap.size<=b):∀b∈(Rt.mk k lo hi sl [u]).fp,w.heap.size<=b:=λb hb=>by
 unfold Rt.fp at hb
 rcases fW.1 hb with hb|hb
 .exact Cq h1 b hb
 .obtain ⟨t,ht,hb⟩:=Rt.bD.1 hb
  simp at ht
  rw [ht] at hb
  exact h2 b hb
section
variable {s:Sl} {l:List jS} {n:Nat}
theorem Bd (dN:Fk l) (pU:l.length<=1000000) (pb:Nat) (w:World) (x:Rx) (dL:kz):∀(f:Nat) (u:Rt) (b2 b4:Nat) (w1:World) (st:kz),zC l f u.rx st=some (x,dL)->st.1<l.length->(∀b∈u.fp,w.heap.size<=b)->
  LH (·=pb) w w1 [o0 pb s st,.g b2,.g b4] [pq s l,.tree u]->
  enthymemeref04_reader_item.eH (bF pb) b2 0 0 0 ⟨none,0,0⟩ b4 u.k (u.lo.toNat:Int) (u.hi.toNat:Int) u.s w1 (SA pb s w (λr w'=>oA w x r w'/\dL.1<l.length) dL)
 |0,u,b2,b4,w1,st,he,_,_,_=>by unfold zC at he;cases he
 |f+1,u,b2,b4,w1,st,he,hi,A7,H=>by
  unfold zC at he
  refine enthymemeref04_reader_item.bA _ _ _ _ _ _ _ _ _ _ _ _ _ (H.kD (tT H.xP hi pU [42]) ?_)
  have ht:=pP dN hi [42] (by decide)
  rintro _ w2 rfl H2 _
  refine ⟨_,rfl,?_⟩
  cases hq:iu l [42] st with
  |mk q kT=>
   rw [hq] at he H2 ht
   cases q with
   |true=>
    dsimp only at he ht
    refine aQ rfl ?_
    refine H2.iH (n:=1) (sz:=4) (cs:=u.c) rfl (by decide) λw3 H3=>H3.aK λw4 H4=>?_
    have H5:LH (·=pb) w w4 [o0 pb s kT,.g b2,.g b4] [pq s l,.tree (.mk 7 0 0 ⟨some (bF w2.heap.size),1,1⟩ [u])]:=(H4.one 3 1 7 0 0).forget _ (by simp)
    refine Bd dN pU pb w x dL f (.mk 7 0 0 ⟨some (bF w2.heap.size),1,1⟩ [u]) b2 b4 w4 kT he ht (Cm (λb hb=>?_) A7) H5
    simp only [bC,cU,qnM,or_false] at hb
    rw [hb];exact H2.fr.size
   |false=>
    dsimp only at he ht
    simp only [Option.some.injEq,Prod.mk.injEq] at he
    obtain ⟨he,rfl⟩:=he
    refine aL rfl ?_
    exact H2.aK λw3 H3=>⟨⟨⟨⟨u,rfl,he,H3.getD 1,A7⟩,ht⟩,H3.get 0⟩,H3.fr⟩
theorem JQ (dN:Fk l) (pU:l.length<=1000000) (ih:KW s l n) (pb:Nat) (st:kz) (w:World) (x:Rx) (dL:kz) (he:sH l (n+1) st=some (x,dL)) (hi:st.1<l.length) (H:De pb s l st w):
  Calls Tryz.prog cN #[.pointer (some (bF pb))] w (SA pb s w (λr w'=>oA w x r w'/\dL.1<l.length) dL):=by
 unfold sH at he
 refine enthymemeref04_reader_item.cV _ w _ (H.bJ λb2 w1 H1=>?_)
 have H1:LH (·=pb) w w1 [o0 pb s st,.g b2] [pq s l]:=H1
 refine H1.kD (tT H1.xP hi pU [33]) ?_
 have ht:=pP dN hi [33] (by decide)
 rintro _ w2 rfl H2 _
 refine ⟨_,rfl,?_⟩
 cases hq:iu l [33] st with
 |mk q kT=>
  rw [hq] at he H2 ht
  cases q with
  |true=>
   dsimp only at he ht
   cases hc:sH l n kT with
   |none=>rw [hc] at he;cases he
   |some y=>
    obtain ⟨a,lO⟩:=y
    rw [hc] at he
    simp only [Option.some.injEq,Prod.mk.injEq] at he
    obtain ⟨he,rfl⟩:=he
    refine aQ rfl ?_
    refine H2.kD (ih.item pb kT w2 a lO hc ht H2.xP) ?_
    rintro _ w3 ⟨⟨u,rfl,hu,pu,fu⟩,wq⟩ _ F3
    have H3:=F3 (.tree u) pu λb hb=>fu b (aI.1 hb)
    refine ⟨_,_,_,u.s,rfl,H3.iH (n:=1) (sz:=4) (cs:=u.c) rfl (by decide) λw4 H4=>H4.aK λw5 H5=>?_⟩
    have H6:LH (·=pb) w w5 [o0 pb s lO,.g b2] [pq s l,.tree (.mk 6 0 0 ⟨some (bF w3.heap.size),1,1⟩ [u])]:=(H5.one 2 1 6 0 0).forget _ (by simp)
    refine ⟨⟨⟨⟨.mk 6 0 0 ⟨some (bF w3.heap.size),1,1⟩ [u],rfl,?_,H6.getD 1,Cm (λb hb=>?_) (λb hb=>Nat.le_trans H2.fr.size (fu b hb))⟩,wq⟩,H6.get 0⟩,H6.fr⟩
    .rw [<-he,<-hu];rfl
    .simp only [bC,cU,qnM,or_false] at hb
     rw [hb];exact H3.fr.size
  |false=>
   dsimp only at he ht
   cases hc:ym l n kT with
   |none=>rw [hc] at he;cases he
   |some y=>
    obtain ⟨a,lO⟩:=y
    rw [hc] at he
    refine aL rfl ?_
    refine H2.kD (ih.atom pb kT w2 a lO hc ht H2.xP) ?_
    rintro _ w3 ⟨⟨u,rfl,hu,pu,fu⟩,wq⟩ _ F3
    have H3:=F3 (.tree u) pu λb hb=>fu b (aI.1 hb)
    refine ⟨_,_,_,u.s,rfl,H3.bJ λb4 w4 H4=>H4.aK λw5 H5=>?_⟩
    exact Bd dN pU pb w x dL n u b2 b4 w5 lO (by rw [hu];exact he) wq (λb hb=>Nat.le_trans H2.fr.size (fu b hb)) H5
theorem Bg (dN:Fk l) (pU:l.length<=1000000) (ih:∀m,m<=n->KW s l m) (pb:Nat) (w:World) (m:List Rx) (dL:kz):∀(f:Nat),f<=n->∀(acc:List Rt) (sl:Sl) (w1:World) (st:kz),Ep l f (Rt.bU acc) st=some (m,dL)->st.1<l.length->acc.length+f<=1000000->(∀b∈Rt.gK acc,w.heap.size<=b)->
  LH (·=pb) w w1 [o0 pb s st,.row aA 4 sl (acc.flatMap Rt.c)] [pq s l,.trees acc]->
  enthymemeref04_reader_kids.L1 (bF pb) sl w1 (SA pb s w (λr w'=>(∃(sl:Sl) (a:List Rt),r=.returned sl.v/\Rt.bU a=m/\(eE sl a).P w'/\∀b∈(eE sl a).fp,w.heap.size<=b)/\dL.1<l.length) dL)
 |0,_=>λacc sl w1 st he=>by unfold Ep at he;cases he
 |f+1,hf=>λacc sl w1 st he hi Gm A7 H=>by
  have uf:=Rt.cC (H.get 1:aP _ _ _ _ _).jh
  unfold Ep at he
  refine enthymemeref04_reader_kids.nY _ _ _ _ (H.yB (tT H.xP hi pU [44]) ?_)
  have ht:=pP dN hi [44] (by decide)
  rintro _ w2 rfl H2 _
  refine ⟨_,rfl,?_⟩
  cases hq:iu l [44] st with
  |mk q kT=>
   rw [hq] at he H2 ht
   cases q with
   |true=>
    dsimp only at he ht
    cases hc:qH l f kT with
    |none=>rw [hc] at he;cases he
    |some y=>
     obtain ⟨a,lO⟩:=y
     rw [hc] at he
     refine aQ rfl ?_
     refine H2.yB ((ih f (by omega)).expr pb kT w2 a lO hc ht H2.xP) ?_
     rintro _ w3 ⟨⟨u,rfl,hu,pu,fu⟩,wq⟩ _ F3
     have H4:=F3 (.tree u) pu λb hb=>fu b (aI.1 hb)
     have H4:LH (·=pb) w w3 [o0 pb s lO,.row aA 4 sl (acc.flatMap Rt.c)] [pq s l,.trees acc,.tree u]:=H4
     refine ⟨_,_,_,u.s,rfl,H4.Yv 1 nQ (xs:=acc.flatMap Rt.c) rfl (λs' w5 H5 _ _=>?_) (by omega)⟩
     have H6:LH (·=pb) w w5 [o0 pb s lO,.row aA 4 s' ((acc++[u]).flatMap Rt.c)] [pq s l,.trees (acc++[u])]:=by
      rw [mq]
      exact (H5.zv 1 2).forget _ (by simp)
     refine Bg dN pU ih pb w m dL f (by omega) (acc++[u]) s' w5 lO ?_ wq (by simp;omega) (qI A7 λb hb=>Nat.le_trans H2.fr.size (fu b hb)) H6
     rw [kh]
     have:Rt.bU [u]=[a]:=by simp [Rt.bU,hu]
     rw [this]
     exact he
   |false=>
    dsimp only at he ht
    simp only [Option.some.injEq,Prod.mk.injEq] at he
    obtain ⟨rfl,rfl⟩:=he
    refine aL rfl ?_
    refine H2.yB (yw H2.xP ht pU [41]) ?_
    rintro _ w3 rfl H3 _
    refine ⟨rfl,⟨⟨⟨sl,acc,rfl,rfl,fM.2 ⟨(H3.get 1:aP _ _ _ _ _).jh,H3.getD 1⟩,λb hb=>?_⟩,sM dN ht [41] (by decide)⟩,H3.get 0⟩,H3.fr⟩
    rcases oD.1 hb with hb|hb
    .exact (H3.new _ (cZ (i:=1) rfl) b (fQ hb)).resolve_right (yd H3 0 rfl (fQ hb))
    .exact A7 b hb
theorem JR (dN:Fk l) (pU:l.length<=1000000) (hn:n<=100000) (ih:∀m,m<=n->KW s l m) (pb:Nat) (st:kz) (w:World) (m:List Rx) (dL:kz) (he:y6 l (n+1) st=some (m,dL)) (hi:st.1<l.length) (H:De pb s l st w):
  Calls Tryz.prog fI #[.pointer (some (bF pb))] w (SA pb s w (λr w'=>(∃(sl:Sl) (a:List Rt),r=.returned sl.v/\Rt.bU a=m/\(eE sl a).P w'/\∀b∈(eE sl a).fp,w.heap.size<=b)/\dL.1<l.length) dL):=by
 unfold y6 at he
 refine enthymemeref04_reader_kids.ok _ w _ (H.yB (yw H hi pU [40]) ?_)
 have CV:=sM dN hi [40] (by decide)
 rintro _ w1 rfl H1 _
 refine ⟨rfl,H1.yB (tT H1.xP CV pU [41]) ?_⟩
 have ht:=pP dN CV [41] (by decide)
 rintro _ w2 rfl H2 _
 cases hq:iu l [41] (qd l [40] st) with
 |mk q kT=>
  rw [hq] at he H2 ht
  have none_:some (([]:List Rx),kT)=some (m,dL)->enthymemeref04_reader_kids.S0 w2 (SA pb s w (λr w'=>(∃(sl:Sl) (a:List Rt),r=.returned sl.v/\Rt.bU a=m/\(eE sl a).P w'/\∀b∈(eE sl a).fp,w.heap.size<=b)/\dL.1<l.length) dL):=by
   intro he
   simp only [Option.some.injEq,Prod.mk.injEq] at he
   obtain ⟨rfl,rfl⟩:=he
   refine ⟨⟨⟨⟨⟨none,0,0⟩,[],rfl,rfl,fM.2 ⟨jO.nil 4 w2,by unfold Rt.Ps;trivial⟩,λb hb=>?_⟩,ht⟩,H2.get 0⟩,H2.fr⟩
   rcases oD.1 hb with hb|hb
   .simp [Rt.row,En.jh] at hb
   .unfold Rt.gK at hb;cases hb
  refine ⟨_,rfl,kT.2,H2.ld 0 2,aZ (λhb=>none_ (by simpa [hb] using he)) (λhb=>aZ (λJI=>none_ (by
   have JI:q=true:=JI
   simpa [JI] using he)) (λJI=>?_))⟩
  have JI:q=false:=JI
  simp only [hb,JI,Bool.or_false,cond_false] at he
  cases hc:qH l n kT with
  |none=>rw [hc] at he;cases he
  |some y=>
   obtain ⟨a,lO⟩:=y
   rw [hc] at he
   refine H2.yB ((ih n (Nat.le_refl _)).expr pb kT w2 a lO hc ht H2.xP) ?_
   rintro _ w3 ⟨⟨u,rfl,hu,pu,fu⟩,wq⟩ _ F3
   have H4:=F3 (.tree u) pu λb hb=>fu b (aI.1 hb)
   refine ⟨_,_,_,u.s,rfl,H4.iH (n:=1) (sz:=4) (cs:=u.c) rfl (by decide) λw4 H5=>?_⟩
   have H6:LH (·=pb) w w4 [o0 pb s lO,.row aA 4 ⟨some (bF w3.heap.size),1,1⟩ ([u].flatMap Rt.c)] [pq s l,.trees [u]]:=by
    have e:[u].flatMap Rt.c=u.c:=by simp
    rw [e]
    exact (H5.DE 1).forget _ (by simp)
   refine Bg dN pU ih pb w m dL n (Nat.le_refl _) [u] _ w4 lO ?_ wq (by simp;omega) (λb hb=>?_) H6
   .have:Rt.bU [u]=[a]:=by simp [Rt.bU,hu]
    rw [this]
    exact he
   .obtain ⟨t,ht,hb⟩:=Rt.bD.1 hb
    simp at ht
    rw [ht] at hb
    exact Nat.le_trans H2.fr.size (fu b hb)
end
def wV:List Value:=[.string (ba (sY 0)),.string (ba (sY 1)),.string (ba (sY 2)),.string (ba (sY 3)),.string (ba (sY 4)),.string (ba (sY 5))]
theorem BB {k:Nat} (h:k<6):wV[k]? =some (.string (ba (sY k))):=by
 have:k=0\/k=1\/k=2\/k=3\/k=4\/k=5:=by omega
 rcases this with rfl|rfl|rfl|rfl|rfl|rfl<;>rfl
theorem Fg {k:Nat} (h:k<6) (h2:k≠2):sY k≠[]/\sY k≠[32]:=by
 have:k=0\/k=1\/k=2\/k=3\/k=4\/k=5:=by omega
 rcases this with rfl|rfl|rfl|rfl|rfl|rfl<;>first |exact absurd rfl h2|exact ⟨by decide,by decide⟩
def sI (k:Int) (lo hi:UInt8):Rt:=.mk k lo hi ⟨none,0,0⟩ []
theorem ue (k:Int) (lo hi:UInt8) (w:World):(sI k lo hi).P w:=by
 unfold sI Rt.P Rt.Ps
 exact ⟨jO.nil 4 w,trivial⟩
theorem rj {k:Int} {lo hi:UInt8} {b:Nat}:¬b∈(sI k lo hi).fp:=λh=>by
 unfold sI Rt.fp Rt.gK at h
 rcases fW.1 h with h|h
 .simp [Rt.row,En.jh] at h
 .cases h
section
variable {s:Sl} {l:List jS} {n:Nat}
theorem Jg (dN:Fk l) (pU:l.length<=1000000) (ih:KW s l n) (pb:Nat) (st:kz) (w:World) (x:Rx) (dL:kz) (he:ym l (n+1) st=some (x,dL)) (hi:st.1<l.length) (H:De pb s l st w):
  Calls Tryz.prog fH #[.pointer (some (bF pb))] w (SA pb s w (λr w'=>oA w x r w'/\dL.1<l.length) dL):=by
 let R:aD:=SA pb s w (λr w'=>oA w x r w'/\dL.1<l.length) dL
 have loop:∀(f k:Nat) (b2 bw:Nat) (w1:World),f+k=6->nX l st 6 0=nX l st f k->(match nX l st 6 0 with
   |some k=>bif Nat.ble k 2 then some (Rx.mk k 0 0 [],(st.1+1,st.2)) else match y6 l n (st.1+1,st.2) with
    |some (m,st)=>some (Rx.mk k 0 0 m,st)
    |none=>none
   |none=>let st:=qd l [40] st
    bif st.2 then some (wC,st) else match qH l n st with
    |some (a,st)=>some (a,qd l [41] st)
    |none=>none)=some (x,dL)->LH (·=pb) w w1 [o0 pb s st,.g b2,.c bw wV cI] [pq s l]->
   enthymemeref04_reader_atom.l4 (bF pb) b2 0 0 0 ⟨none,0,0⟩ ⟨some (bF bw),6,6⟩ (k:Int) w1 R:=by
  intro f
  induction f with
  |zero=>
   intro k b2 bw w1 hk hw he H1
   have e0:nX l st 0 k=none:=by unfold nX;rfl
   rw [hw,e0] at he
   dsimp only at he
   have CV:=sM dN hi [40] (by decide)
   refine enthymemeref04_reader_atom.dJ _ _ _ _ _ _ _ _ _ _ (aL (decide_eq_false (by omega)) (H1.kD (yw H1.xP hi pU [40]) ?_))
   rintro _ w2 rfl H2 _
   generalize qd l [40] st=kT at he CV H2
   refine ⟨rfl,kT.2,H2.ld 0 2,aZ (λhb=>?_) (λhb=>?_)⟩
   .rw [hb] at he
    simp only [cond_true,Option.some.injEq,Prod.mk.injEq] at he
    obtain ⟨rfl,rfl⟩:=he
    exact H2.aK λw3 H3=>⟨⟨⟨⟨mB,rfl,rfl,vp _,λb hb=>(nD hb).elim⟩,CV⟩,H3.get 0⟩,H3.fr⟩
   .rw [hb] at he
    dsimp only [cond_false] at he
    cases hc:qH l n kT with
    |none=>rw [hc] at he;cases he
    |some y=>
     obtain ⟨a,lO⟩:=y
     rw [hc] at he
     simp only [Option.some.injEq,Prod.mk.injEq] at he
     obtain ⟨rfl,rfl⟩:=he
     refine H2.kD (ih.expr pb kT w2 a lO hc CV H2.xP) ?_
     rintro _ w3 ⟨⟨u,rfl,hu,pu,fu⟩,wq⟩ _ F3
     have H3:=F3 (.tree u) pu λb hb=>fu b (aI.1 hb)
     refine ⟨_,_,_,u.s,rfl,H3.bJ λb6 w4 H4=>H4.aK λw5 H5=>?_⟩
     have H5:LH (·=pb) w w5 (o0 pb s lO::[.g b2,.c bw wV cI,.g b6]) [pq s l,.tree u]:=H5
     refine H5.kD (yw H5.xP wq pU [41]) ?_
     rintro _ w6 rfl H6 _
     exact ⟨rfl,H6.aK λw7 H7=>⟨⟨⟨⟨u,rfl,hu,H7.getD 1,λb hb=>Nat.le_trans H2.fr.size (fu b hb)⟩,sM dN wq [41] (by decide)⟩,H7.get 0⟩,H7.fr⟩⟩
  |succ f XT=>
   intro k b2 bw w1 hk hw he H1
   have next:nX l st (f+1) k=nX l st f (k+1)->∀w2,LH (·=pb) w w2 [o0 pb s st,.g b2,.c bw wV cI] [pq s l]->enthymemeref04_reader_atom.eY (bF pb) b2 0 0 0 ⟨none,0,0⟩ ⟨some (bF bw),6,6⟩ (k:Int) w2 R:=by
    intro hx w2 H2
    show enthymemeref04_reader_atom.l4 _ _ _ _ _ _ _ _ _ _
    rw [aY _ (by omega)]
    exact XT (k+1) b2 bw w2 (by omega) (by rw [hw,hx]) he H2
   refine enthymemeref04_reader_atom.dJ _ _ _ _ _ _ _ _ _ _ (aQ (decide_eq_true (by omega)) (aH (λsE=>H1.aK λw2 H2=>next (by
    have:k=2:=by omega
    subst this
    conv=>lhs;unfold nX
    rfl) w2 H2) (λsE=>⟨by omega,by show (k:Int)<((6:Nat):Int);omega,?_⟩)))
   have sE:k≠2:=by omega
   have yU:Nat.beq k 2=false:=by
    cases h:Nat.beq k 2 with
    |false=>rfl
    |true=>exact absurd (Nat.eq_of_beq_eq_true h) sE
   refine vu (H1.aK λw2 H2=>?_)
   rw [Int.toNat_natCast,Nat.mul_one]
   refine ⟨ba (sY k),H2.ld 2 k rfl (BB (by omega)),H2.aJ (Lq H2.xP hi) ?_⟩
   rintro _ w3 rfl H3
   refine ⟨_,rfl,H3.ld 2 k rfl (BB (by omega)),?_⟩
   rw [AL]
   refine eQ (λhs=>next (by
    conv=>lhs;unfold nX
    rw [yU,hs];rfl) w3 H3) (λhs=>?_)
   have Wl:=eq_of_beq hs
   have hwk:nX l st 6 0=some k:=by
    rw [hw]
    conv=>lhs;unfold nX
    rw [yU,hs];rfl
   rw [hwk] at he
   dsimp only at he
   have Wb:st.1+1<l.length:=by
    refine Ei dN hi (by rw [Wl];exact (Fg (by omega) sE).1) ?_
    cases hb:st.2 with
    |false=>rfl
    |true=>
     exfalso
     refine (Fg (k:=k) (by omega) sE).2 ?_
     rw [<-Wl];unfold nE;rw [hb];rfl
   refine ⟨(st.1:Int),H3.ld 0 1,?_⟩
   rw [aY _ (by omega)]
   refine H3.stq 0 1 rfl λw4 H4=>?_
   have H4:LH (·=pb) w w4 [o0 pb s (st.1+1,st.2),.g b2,.c bw wV cI] [pq s l]:=H4
   refine H4.bJ λb5 w5 H5=>aM (λGr=>?_) (λGr=>?_)
   .have VZ:Nat.ble k 2=false:=by
     cases h:Nat.ble k 2 with
     |false=>rfl
     |true=>have:=Nat.le_of_ble_eq_true h;omega
    rw [VZ] at he
    dsimp only [cond_false] at he
    cases hc:y6 l n (st.1+1,st.2) with
    |none=>rw [hc] at he;cases he
    |some y=>
     obtain ⟨m,lO⟩:=y
     rw [hc] at he
     simp only [Option.some.injEq,Prod.mk.injEq] at he
     obtain ⟨hx,rfl⟩:=he
     refine H5.aK λw9 H9=>?_
     have H9:LH (·=pb) w w9 (o0 pb s (st.1+1,st.2)::[.g b2,.c bw wV cI,.g b5]) [pq s l]:=H9
     refine H9.kD (ih.kids pb (st.1+1,st.2) w9 m lO hc Wb H9.xP) ?_
     rintro _ pR ⟨⟨sl,a,rfl,ha,pa,fa⟩,wq⟩ _ F10
     have m8:=F10 (.tree (eE sl a)) pa λb hb=>fa b (aI.1 hb)
     refine ⟨sl,rfl,m8.aK λrO qB=>qB.aK λqV qW=>?_⟩
     refine ⟨⟨⟨⟨.mk k 0 0 sl a,rfl,?_,?_,λb hb=>?_⟩,wq⟩,qW.get 0⟩,qW.fr⟩
     .rw [<-hx,<-ha];rfl
     .have:=fM.1 (show (eE sl a).P qV from qW.getD 1)
      unfold Rt.P
      exact this
     .refine Nat.le_trans H9.fr.size (fa b ?_)
      unfold Rt.fp at hb
      unfold eE Rt.fp
      exact hb
   .have VZ:Nat.ble k 2=true:=Nat.ble_eq_true_of_le (by omega)
    rw [VZ] at he
    simp only [cond_true,Option.some.injEq,Prod.mk.injEq] at he
    obtain ⟨hx,rfl⟩:=he
    refine H5.aK λw6 H6=>H6.aK λw7 H7=>⟨⟨⟨⟨sI k 0 0,rfl,?_,ue _ _ _ _,λb hb=>(rj hb).elim⟩,Wb⟩,H7.get 0⟩,H7.fr⟩
    rw [<-hx];rfl
 have s0:∀(b2:Nat) (w1:World),(!st.2&&Nat.beq (jI l st.1).k 2)=false->LH (·=pb) w w1 [o0 pb s st,.g b2] [pq s l]->enthymemeref04_reader_atom.dV (bF pb) b2 0 0 0 ⟨none,0,0⟩ w1 R:=by
  intro b2 w1 hq H1
  unfold ym at he
  rw [hq] at he
  dsimp only [cond_false] at he
  refine H1.nw λw2 _ H2=>?_
  exact loop 6 0 b2 w1.heap.size w2 (by omega) rfl he H2
 refine enthymemeref04_reader_atom.cV _ w _ (H.bJ λb2 w1 H1=>H1.aK λw2 H2=>⟨st.2,H2.ld 0 2,eQ (λhb=>?_) (λhb=>s0 b2 w2 (by rw [hb];rfl) H2)⟩)
 have hn:=E8 (H2.getD 0:jO _ _ _ _)
 refine ⟨s,H2.ld 0 0,(st.1:Int),H2.ld 0 1,by omega,by omega,zN (H2.getD 0) hi λp hp c=>⟨((jI l st.1).k:Int),?_,aH (λh2=>?_) (λh2=>s0 b2 w2 (by
  have:Nat.beq (jI l st.1).k 2=false:=by
   cases h:Nat.beq (jI l st.1).k 2 with
   |false=>rfl
   |true=>have:=Nat.eq_of_beq_eq_true h;omega
  rw [this];simp) H2)⟩⟩
 .rw [Int.toNat_natCast,uH];exact c.c2
 have h2:(jI l st.1).k=2:=by omega
 have Wb:st.1+1<l.length:=by
  rcases Nat.lt_or_ge (st.1+1) l.length with h|h
  .exact h
  .exfalso
   have e:st.1=l.length - 1:=by omega
   rw [e,dN.2.2] at h2
   cases h2
 refine ⟨(st.1:Int),H2.ld 0 1,?_⟩
 rw [aY _ (by omega)]
 refine H2.stq 0 1 rfl λw3 H3=>?_
 have H3:LH (·=pb) w w3 [o0 pb s (st.1+1,st.2),.g b2] [pq s l]:=H3
 refine H3.aK λw4 H4=>⟨s,H4.ld 0 0,((st.1+1:Nat):Int),H4.ld 0 1,?_⟩
 have em:IntKind.wrap .i64 (((st.1+1:Nat):Int) - 1)=(st.1:Int):=by rw [IntWalk.i64_in _ (by omega)];omega
 rw [em]
 unfold ym at he
 rw [hb,h2] at he
 have he:some (Rx.mk 2 (jI l st.1).lo (jI l st.1).hi [],(st.1+1,false))=some (x,dL):=he
 simp only [Option.some.injEq,Prod.mk.injEq] at he
 obtain ⟨he,jc⟩:=he
 refine ⟨by omega,by omega,zN (H4.getD 0) hi λp hp c=>⟨2,(jI l st.1).lo.toNat,(jI l st.1).hi.toNat,⟨none,0,0⟩,?_,?_,?_,?_,H4.aK λw5 H5=>⟨⟨⟨⟨sI 2 (jI l st.1).lo (jI l st.1).hi,rfl,he,ue _ _ _ _,λb hb=>(rj hb).elim⟩,by rw [<-jc];exact Wb⟩,?_⟩,H5.fr⟩⟩⟩
 .rw [Int.toNat_natCast,uH,c.c2,h2];rfl
 .rw [Int.toNat_natCast,add_add];exact c.c3
 .rw [Int.toNat_natCast,add_add];exact c.c4
 .rw [Int.toNat_natCast,add_add];exact c.c5
 .have:=H5.get 0
  rw [<-jc,<-hb]
  exact this
theorem okp (dN:Fk l) (pU:l.length<=1000000):∀n:Nat,n<=100000->∀m,m<=n->KW s l m
 |0,_=>λm hm=>by
  have:m=0:=by omega
  subst this
  exact ⟨λpb st w x dL he=>(by unfold qH at he;cases he),λpb st w x dL he=>(by unfold uT at he;cases he),λpb st w x dL he=>(by unfold Cy at he;cases he),λpb st w x dL he=>(by unfold sH at he;cases he),λpb st w x dL he=>(by unfold ym at he;cases he),λpb st w x dL he=>(by unfold y6 at he;cases he)⟩
 |n+1,hn=>λm hm=>by
  have ih:=okp dN pU n (by omega)
  rcases Nat.lt_or_ge m (n+1) with h|h
  .exact ih m (by omega)
  have:m=n+1:=by omega
  subst this
  exact ⟨λpb st w x dL he hi H=>Js dN pU (by omega) ih pb st w x dL he hi H,λpb st w x dL he hi H=>Jp dN pU (by omega) ih pb st w x dL he hi H,λpb st w x dL he hi H=>Nm dN pU (by omega) ih pb st w x dL he hi H,λpb st w x dL he hi H=>JQ dN pU (ih n (Nat.le_refl _)) pb st w x dL he hi H,λpb st w x dL he hi H=>Jg dN pU (ih n (Nat.le_refl _)) pb st w x dL he hi H,λpb st w x dL he hi H=>JR dN pU (by omega) ih pb st w x dL he hi H⟩
end
theorem _root_.Go.W.LH.perm {M:Nat->Prop} {w0 w:World} {L L' D:List En} (H:LH M w0 w L D) (h:L.Perm L'):LH M w0 w L' D:=
 ⟨H.fr,λe he=>H.own e (h.mem_iff.2 he),H.rd,λe he=>H.new e (h.mem_iff.2 he),(h.flatMap_right (·.fp)).nodup_iff.1 H.nd,λe he b hb e' mI=>H.dj e he b hb e' (h.mem_iff.2 mI)⟩
theorem zM (s:BL):∀(f i:Nat),s.length<f+i->∃init,CH s f i=init++[⟨[],s.length,0,0,0⟩]/\init.length+i<=max i s.length
 |0,i,h=>⟨[],rfl,by simp;omega⟩
 |f+1,i,h=>by
  unfold CH
  split
  .exact ⟨[],rfl,by simp;omega⟩
  .split
   .obtain ⟨init,h1,h2⟩:=zM s f (i+1) (by omega)
    exact ⟨init,h1,by omega⟩
   .simp only
    have hr:=zl s i
    have hw:=IH s i s.length 1 (by omega)
    generalize ir s i=g at hr
    generalize Ax s i s.length 1=e at hw
    have hn:1<=(if g.n=0 then e else g.n)/\i+(if g.n=0 then e else g.n)<=s.length:=by split<;>omega
    generalize (if g.n=0 then e else g.n)=n at hn
    obtain ⟨init,h1,h2⟩:=zM s f (i+n) (by omega)
    exact ⟨_::init,by rw [h1];rfl,by simp only [qlC];omega⟩
theorem Qs (s:BL):Fk (sX s)/\(sX s).length<=s.length+1:=by
 obtain ⟨init,h1,h2⟩:=zM s (s.length+1) 0 (by omega)
 have e:sX s=init++[⟨[],s.length,0,0,0⟩]:=h1
 rw [e]
 have hl:(init++[(⟨[],s.length,0,0,0⟩:jS)]).length=init.length+1:=by simp
 have ht:jI (init++[(⟨[],s.length,0,0,0⟩:jS)]) init.length=⟨[],s.length,0,0,0⟩:=by
  unfold jI
  simp [List.getD_eq_getElem?_getD]
 refine ⟨⟨by omega,?_,?_⟩,by omega⟩
 .rw [hl,Nat.add_sub_cancel,ht]
 .rw [hl,Nat.add_sub_cancel,ht]
def Yp (w:World) (x:Rx) (a:Nat) (e:Int) (r:Ending) (w':World):Prop:=∃t:Rt,r=.returned (.tuple #[t.v,.i (a:Int),.i e])/\t.rx=x/\t.P w'/\∀b∈t.fp,w.heap.size<=b
theorem Ln (s:ByteArray) (hs:s.size<=100000) (x:Rx) (a:Nat) (e:Int) (he:wG (bl s)=some (x,a,e)) (w:World):Calls Tryz.prog jX #[.string s] w λr w'=>Yp w x a e r w'/\bI w w':=by
 have hl:(bl s).length=s.size:=iK s
 obtain ⟨dN,hlen⟩:=Qs (bl s)
 unfold wG at he
 refine enthymemeref04_Parse.cV _ w _ ((mu [] (by simp)).bJ λb2 w1 H1=>aM (λhb=>H1.aK λw2 H2=>?_) (λhb=>H1.sh (Lf s hs w1) ?_))
 .rw [if_pos (by omega)] at he
  simp only [Option.some.injEq,Prod.mk.injEq] at he
  obtain ⟨rfl,rfl,rfl⟩:=he
  exact ⟨⟨mB,rfl,rfl,vp _,λb hb=>(nD hb).elim⟩,H2.fr⟩
 rw [if_neg (by omega)] at he
 generalize sX (bl s)=l at he dN hlen
 dsimp only at he
 rintro _ w6 ⟨tk,rfl,ho,hf⟩ _ F6
 have H6:=F6.rd (pq tk l) ho.jh (Cq hf)
 cases hx:qH l 1000 (0,false) with
 |none=>rw [hx] at he;cases he
 |some y=>
  obtain ⟨r0,CW⟩:=y
  rw [hx] at he
  dsimp only at he
  refine ⟨tk,rfl,H6.nw λw7 _ H7=>?_⟩
  have H7:LH F0 w w7 (o0 w6.heap.size tk (0,false)::[.g b2]) [pq tk l]:=H7.perm (List.Perm.swap _ _ _)
  refine H7.kD ((okp dN (by omega) 1000 (by omega) 1000 (Nat.le_refl _)).expr w6.heap.size (0,false) w7 r0 CW hx dN.1 H7.xP) ?_
  rintro _ w8 ⟨⟨u,rfl,hu,pu,fu⟩,wq⟩ _ F8
  have H8:=F8 (.tree u) pu λb hb=>fu b (aI.1 hb)
  refine ⟨_,_,_,u.s,rfl,H8.bJ λb6 w9 H9=>H9.aK λpR m8=>?_⟩
  have m8:LH F0 w pR (o0 w6.heap.size tk CW::[.g b2,.g b6]) [pq tk l,.tree u]:=m8
  refine m8.kD (yw m8.xP wq (by omega) []) ?_
  have CV:=sM dN wq [] (by decide)
  rintro _ rO rfl qB _
  generalize qd l [] CW=N7 at he CV qB
  refine ⟨rfl,N7.2,qB.ld 0 2,aZ (λyU=>qB.aK λAz BD=>?_) (λyU=>?_)⟩
  .rw [if_pos yU] at he
   simp only [Option.some.injEq,Prod.mk.injEq] at he
   obtain ⟨rfl,rfl,rfl⟩:=he
   have hn:=E8 (BD.getD 0:jO _ _ _ _)
   refine ⟨tk,BD.ld 0 0,(N7.1:Int),BD.ld 0 1,by omega,by omega,zN (BD.getD 0) CV λp hp c=>⟨((jI l N7.1).at_:Int),?_,BD.aK λSk QH=>⟨?_,QH.ld 0 1,QH.ld 0 0,⟨mB,rfl,rfl,vp _,λb hb=>(nD hb).elim⟩,QH.fr⟩⟩⟩
   .rw [Int.toNat_natCast];exact c.c1
   .rw [Int.toNat_natCast]
    have:=zN (QH.getD 0) CV (K:=λq=>∃q',tk.a=some q'/\q=q'/\Hq Sk q' N7.1 (jI l N7.1)) (λq hq hc=>⟨q,hq,rfl,hc⟩)
    rw [hp] at this
    obtain ⟨q,hq,rfl,hc⟩:=this
    exact hc.c1
  .rw [if_neg (by rw [yU];simp)] at he
   have pu2:u.P rO:=qB.getD 1
   have aay:r0.sz=u.sz:=by rw [<-hu,Rt.g9]
   by_cases l8:u.sz<=1000000
   .rw [if_neg (by omega)] at he
    refine qB.aJ (BS u rO l8 pu2) ?_
    rintro _ X8 rfl UP
    refine ⟨_,rfl,aM (λFt=>UP.aK λFz FC=>?_) (λFt=>UP.aK λFz FC=>?_)⟩
    .rw [if_pos (by omega)] at he
     simp only [Option.some.injEq,Prod.mk.injEq] at he
     obtain ⟨rfl,rfl,rfl⟩:=he
     exact ⟨⟨mB,rfl,rfl,vp _,λb hb=>(nD hb).elim⟩,FC.fr⟩
    .rw [if_neg (by omega)] at he
     simp only [Option.some.injEq,Prod.mk.injEq] at he
     obtain ⟨rfl,rfl,rfl⟩:=he
     exact ⟨⟨u,rfl,hu,FC.getD 1,λb hb=>Nat.le_trans H7.fr.size (fu b hb)⟩,FC.fr⟩
   .rw [if_pos (by omega)] at he
    cases he
theorem dW (a b:BL):ba a++ba b=ba (a++b):=by
 apply ByteArray.ext
 rw [ByteArray.data_append]
 simp [ba]
theorem vY {w:World} {b n:Nat} {cs:List Value} {T:TypeId} (h:w.heap[b]? =some (.cells cs.toArray T (0,0))) (hn:n=cs.length):Rd w ⟨some (bF b),n,n⟩ cs:=
 M8 (s:=⟨some (bF b),n,n⟩) hn (Nat.le_refl _) (λh=>by cases h) λi v hi=>⟨bF b,rfl,cellAt (p:=bF b) h rfl (by simpa using hi)⟩
theorem Lp (c:UInt8) (w:World):Calls Tryz.prog iU #[.int .u8 (c.toNat:Int)] w λr w'=>r=.returned (.bool (tv c))/\bI w w':=by
 refine enthymemeref04_low.ok _ w _ (aM (λh=>⟨?_,Fr.refl _ _⟩) (λh=>⟨?_,Fr.refl _ _⟩))
 .unfold tv
  rw [decide_eq_true (show 97<=c.toNat by omega),Bool.true_and,show decide ((c.toNat:Int)<=122)=decide (c.toNat<=122) from decide_eq_decide.2 (by omega)]
 .unfold tv
  rw [decide_eq_false (show ¬97<=c.toNat by omega),Bool.false_and]
theorem BV (c:UInt8) (w:World):Calls Tryz.prog gD #[.int .u8 (c.toNat:Int)] w λr w'=>r=.returned (.string (ba (dO c)))/\bI w w':=by
 have hc:=c.toNat_lt
 have H:LH F0 w w [] []:=mu [] (by simp)
 refine enthymemeref04_Byte.ok _ w _ (H.call (Ds c w) ?_)
 rintro _ w1 rfl H1
 refine ⟨_,rfl,aZ (λhp=>?_) (λhp=>?_)⟩
 .refine H1.XY (λw2 _ H2 hb=>?_)
  have e39:((39:UInt8).toNat:Int)=39:=rfl
  have hB:Bytes w2 ⟨some (bF w1.heap.size),3,3⟩ [39,c,39]:=vY (T:=dE) hb rfl
  have V2:=qD hB
  refine ⟨ba [39,c,39],V2,?_,H2.fr⟩
  unfold dO;rw [if_pos hp]
 .have e1:IntKind.wrap .i64 (c.toNat:Int)=(c.toNat:Int):=IntWalk.i64_in _ (by omega)
  have e2:IntKind.wrap .i64 (Int.tdiv (c.toNat:Int) 16)=((c.toNat / 16:Nat):Int):=by
   rw [Int.tdiv_eq_ediv_of_nonneg (by omega),IntWalk.i64_in _ (by omega)];omega
  have e3:Int.tmod (c.toNat:Int) 16=((c.toNat%16:Nat):Int):=by
   rw [Int.tmod_eq_emod_of_nonneg (by omega)];omega
  rw [e1,e2,e3]
  refine H1.call (yy (c.toNat / 16) (by omega) w1) ?_
  rintro _ w2 rfl H2
  refine ⟨_,rfl,H2.call (yy (c.toNat%16) (by omega) w2) ?_⟩
  rintro _ w3 rfl H3
  refine ⟨_,rfl,H3.XY (λw4 _ H4 hb=>?_)⟩
  have hB:Bytes w4 ⟨some (bF w3.heap.size),4,4⟩ [92,120,rQ (c.toNat / 16),rQ (c.toNat%16)]:=vY (T:=dE) hb rfl
  have V2:=qD hB
  refine ⟨ba [92,120,rQ (c.toNat / 16),rQ (c.toNat%16)],V2,?_,H4.fr⟩
  unfold dO;rw [if_neg (by rw [hp];simp)]
def pX (ts:List BL):Nat:=(ts.map λt=>t.length+2).sum
theorem nV (lv:Nat) (a:Rx) (t:BL):(cP lv a t).length<=t.length+2/\t.length<=(cP lv a t).length:=by
 unfold cP
 split
 .simp;omega
 .simp
theorem y5 (k:Int):∀(ts:List BL) (out:BL),(lU k out ts).length<=out.length+pX ts/\out.length<=(lU k out ts).length
 |[],out=>by simp [lU,pX]
 |t::ts,out=>by
  unfold lU
  have ih:=y5 k ts ((if k=3/\tv (qa out)=true/\tv (gQ t 0)=true then out++[32] else out)++lE k++t)
  have h1:(lE k).length<=1:=by unfold lE;split<;>(try split)<;>simp
  have h3:k=3->(lE k).length=0:=λh=>by unfold lE;rw [if_pos h];rfl
  have h2:((if k=3/\tv (qa out)=true/\tv (gQ t 0)=true then out++[32] else out):BL).length<=out.length+2 - (lE k).length/\out.length<=((if k=3/\tv (qa out)=true/\tv (gQ t 0)=true then out++[32] else out):BL).length:=by
   split
   .rename_i h
    rw [h3 h.1]
    simp
   .omega
  simp only [qlA] at ih
  have hs:pX (t::ts)=t.length+2+pX ts:=by simp [pX]
  omega
mutual
theorem zW:∀x:Rx,(gJ x).length+4<=18 *x.sz
 |.mk k lo hi l=>by
  have hb:∀c,(dO c).length<=4:=λc=>by unfold dO;split<;>simp
  have h3:=rE 3 l
  have h4:=rE 4 l
  have h0:=rE 0 l
  have hn:(ze k).length=4:=by unfold ze;split<;>(try split)<;>rfl
  have hd:∀lv,(uc (jb lv l)).length<=pX (jb lv l):=λlv=>by
   cases jb lv l with
   |nil=>simp [uc]
   |cons t ts=>simp [uc,pX];omega
  have d3:=hd 3
  have d4:=hd 4
  have d0:=hd 0
  have rT:=hb lo
  have O2:=hb hi
  unfold Rx.sz
  unfold gJ
  split
  .simp;omega
  .split
   .simp;omega
   .split
    .split
     .omega
     .simp only [qlC,qlA,qlN];omega
    .split
     .simp only [qlC];omega
     .split
      .simp only [qlA,qlC,qlN];omega
      .split
       .simp only [qlA,qlC,qlN];omega
       .have hw:=rE (cL (.mk k lo hi l)+1) l
        cases hh:jb (cL (.mk k lo hi l)+1) l with
        |nil=>show 0+4<=_;omega
        |cons t ts=>
         rw [hh] at hw
         have:=(y5 k ts t).1
         simp only [pX,List.map_cons,List.sum_cons] at hw
         simp only [pX] at this
         show (lU k t ts).length+4<=_
         omega
theorem rE (lv:Nat):∀l:List Rx,pX (jb lv l)<=18 *Rx.fK l
 |[]=>by simp [jb,pX]
 |a::l=>by
  have h1:=zW a
  have h2:=rE lv l
  have h3:=(nV lv a (gJ a)).1
  unfold jb Rx.fK
  simp only [pX,List.map_cons,List.sum_cons] at h2 ⊢
  omega
end
theorem tf {k:Int} {lo hi:UInt8} {l:List Rx} (h:okW (.mk k lo hi l)=true):0<=k/\k<=7/\(k=6\/k=7->l.length=1)/\Aw l=true:=by
 unfold okW at h
 simp only [Bool.and_eq_true,decide_eq_true_eq,Bool.or_eq_true] at h
 exact ⟨h.1.1.1,h.1.1.2,λhk=>by omega,h.2⟩
theorem vt:∀{l:List Rx} {a:Rx},Aw l=true->a∈l->okW a=true
 |b::l,a,h,ha=>by
  unfold Aw at h
  rw [Bool.and_eq_true] at h
  rcases cU.1 ha with rfl|ha
  .exact h.1
  .exact vt h.2 ha
theorem CP:∀x:Rx,okW x=true->0<(gJ x).length
 |.mk k lo hi l=>λh=>by
  obtain ⟨h1,h2,h3,h4⟩:=tf h
  have hb:∀c,0<(dO c).length:=λc=>by unfold dO;split<;>simp
  unfold gJ
  split
  .simp
  .split
   .simp
   .split
    .split
     .exact hb lo
     .simp
    .split
     .simp
     .split
      .simp
      .split
       .simp only [qlA,qlC];omega
       .rename_i h5
        match l,h4,h5 with
        |[],_,h5=>simp at h5
        |a::m,h4,h5=>
         have:=CP a (vt h4 (by simp))
         unfold jb
         show 0<(lU _ _ _).length
         have hj:=(y5 k (jb (cL (.mk k lo hi (a::m))+1) m) (cP (cL (.mk k lo hi (a::m))+1) a (gJ a))).2
         have hp:=(nV (cL (.mk k lo hi (a::m))+1) a (gJ a)).2
         omega
theorem yx (x:Rt) (w:World) (h0:0<=x.k) (h7:x.k<=7) (px:x.P w):Calls Tryz.prog gh #[x.v] w λr w'=>r=.returned (.i (cL x.rx:Int))/\bI w w':=by
 have nr:=Rt.cC px.parts.1
 have hl:(Rt.bU x.l).length=x.l.length:=by rw [Rt.eW,List.length_map]
 have eb:cL x.rx=if x.k=6 then 3 else if x.k<3\/x.k=7\/x.l.length<2 then 4 else if x.k=3 then 2 else if x.k=4 then 0 else 1:=by
  rw [Rt.dC]
  unfold cL
  dsimp only
  rw [hl]
 rw [eb]
 have four:∀w',bI w w'->x.k≠6->(x.k<3\/x.k=7\/x.l.length<2)->enthymemeref04_binds.dV w' λr w'=>r=.returned (.i ((if x.k=6 then 3 else if x.k<3\/x.k=7\/x.l.length<2 then 4 else if x.k=3 then 2 else if x.k=4 then 0 else 1:Nat):Int))/\bI w w':=λw' f h6 h=>⟨by rw [if_neg h6,if_pos h];rfl,f⟩
 refine enthymemeref04_binds.cV _ _ _ _ w _ ((za px).bJ λb w1 H1=>aH (λh6=>⟨by rw [if_pos h6];rfl,H1.fr⟩) (λh6=>aM (λh3=>four w1 H1.fr h6 (.inl h3)) (λh3=>aH (λh7'=>four w1 H1.fr h6 (.inr (.inl h7'))) (λh7'=>aM (λh2=>four w1 H1.fr h6 (.inr (.inr (by omega)))) (λh2=>?_)))))
 refine H1.nw λw2 _ H2=>?_
 have hk:x.k=3\/x.k=4\/x.k=5:=by omega
 have e:(if x.k=6 then 3 else if x.k<3\/x.k=7\/x.l.length<2 then 4 else if x.k=3 then 2 else if x.k=4 then 0 else 1:Nat)=if x.k=3 then 2 else if x.k=4 then 0 else 1:=by
  rw [if_neg h6,if_neg (by omega)]
 rw [e]
 rcases hk with hk|hk|hk<;>rw [hk]
 .exact ⟨by decide,by decide,vu ⟨2,H2.ld 1 0,rfl,H2.fr⟩⟩
 .exact ⟨by decide,by decide,vu ⟨0,H2.ld 1 1,rfl,H2.fr⟩⟩
 .exact ⟨by decide,by decide,vu ⟨1,H2.ld 1 2,rfl,H2.fr⟩⟩
theorem Ii (t:BL) (h:0<t.length):gQ t (t.length - 1)=qa t:=by
 unfold gQ qa
 rw [List.getD_eq_getElem?_getD,List.getLastD_eq_getLast?,List.getLast?_eq_getElem?]
theorem Ny (l:List Rt) (i:Nat):Rx.fK (Rt.bU (l.drop i))<=Rt.fK l:=by
 rw [Rt.zt]
 induction l generalizing i with
 |nil=>simp
 |cons a l ih=>
  cases i with
  |zero=>exact Nat.le_refl _
  |succ i=>have:=ih i;show _<=a.sz+Rt.fK l;exact Nat.le_trans this (by omega)
abbrev Yt (n:Nat):Prop:=∀(x:Rt) (lv:Nat) (w:World),x.sz<=n->lv<=1000->okW x.rx=true->x.P w->Calls Tryz.prog bN #[x.v,.i (lv:Int)] w λr w'=>r=.returned (.string (ba (cP lv x.rx (gJ x.rx))))/\bI w w'
theorem Dm:∀n:Nat,n<=1000000->Yt n
 |0,_=>λx lv w h _ _ _=>absurd h (by have:=Rt.oP x;omega)
 |n+1,hn=>by
  have ih:=Dm n (by omega)
  have core:∀(x:Rt) (lv:Nat) (w:World),x.sz<=n+1->¬cL x.rx<lv->okW x.rx=true->x.P w->Calls Tryz.prog bN #[x.v,.i (lv:Int)] w λr w'=>r=.returned (.string (ba (gJ x.rx)))/\bI w w':=by
   intro x lv w h Rm dN px
   have hs:=Rt.gm x
   have hl:=Rt.eZ x.l
   have nr:=Rt.cC px.parts.1
   have D2:=dN
   rw [Rt.dC] at D2
   obtain ⟨k0,k7,Cc,sF⟩:=tf D2
   have xM:(Rt.bU x.l).length=x.l.length:=by rw [Rt.eW,List.length_map]
   rw [xM] at Cc
   have JF:∀a∈x.l,okW a.rx=true:=λa ha=>vt sF (by rw [Rt.eW];exact List.mem_map.2 ⟨a,ha,rfl⟩)
   have A5:∀a:Rt,a.sz<=1000000->(gJ a.rx).length<=18000000:=λa ha=>by have:=zW a.rx;rw [Rt.g9] at this;omega
   have Rq:∀(a:Rt) (lv:Nat),a.sz<=1000000->(cP lv a.rx (gJ a.rx)).length<=18000002:=λa lv ha=>by have h1:=A5 a ha;have:=(nV lv a.rx (gJ a.rx)).1;omega
   have yV:∀c,(dO c).length<=4:=λc=>by unfold dO;split<;>simp
   let R:aD:=λr w'=>r=.returned (.string (ba (gJ x.rx)))/\bI w w'
   have one:∀(a:Rt) (MK:Nat) (w1:World) (b2:Nat) (K:ByteArray->World->Prop),MK<=1000->a∈x.l->LH F0 w w1 [.g b2] [.tree x]->(∀w2,LH F0 w w2 [.g b2] [.tree x]->K (ba (cP MK a.rx (gJ a.rx))) w2)->pG [b2] bN #[.agg #[.i a.k,.int .u8 (a.lo.toNat:Int),.int .u8 (a.hi.toNat:Int),a.s.v],.i (MK:Int)] w1 K:=by
    intro a MK w1 b2 K TL ha H1 hK
    have CF:=Rt.dM ha
    refine H1.aJ (ih a MK w1 (by omega) TL (JF a ha) ((show x.P w1 from H1.getD 0).parts.2.mem ha)) ?_
    rintro _ w2 rfl H2
    exact ⟨_,rfl,hK w2 H2⟩
   refine enthymemeref04_Write.cV _ _ _ _ _ w _ ((za px).bJ λb2 w1 H1=>?_)
   have H1:LH F0 w w1 [.g b2] [.tree x]:=H1
   refine H1.aJ (yx x w1 k0 k7 (H1.getD 0)) ?_
   rintro _ w2 rfl H2
   have Gd:gJ x.rx=gJ (.mk x.k x.lo x.hi (Rt.bU x.l)):=by rw [Rt.dC]
   refine ⟨_,rfl,aL (decide_eq_false (by omega)) (aH (λhk=>⟨?_,H2.fr⟩) (λz9=>aH (λhk=>⟨?_,H2.fr⟩) (λD1=>aH (λsE=>?_) (λsE=>aH (λCU=>?_) (λCU=>aH (λKA=>?_) (λKA=>aM (λTJ=>?_) (λTJ=>?_)))))))⟩
   .rw [Gd];unfold gJ;rw [if_pos hk];rfl
   .rw [Gd];unfold gJ;rw [if_neg z9,if_pos hk];rfl
   .have e2:gJ x.rx=if x.lo=x.hi then dO x.lo else 91::(dO x.lo++45::(dO x.hi++[93])):=by
     rw [Gd];unfold gJ;rw [if_neg z9,if_neg D1,if_pos sE]
    refine aH (λO4=>H2.aJ (BV x.lo w2) ?_) (λO4=>H2.aK λw5 H5=>H5.aJ (BV x.lo w5) ?_)
    .rintro _ w3 rfl H3
     exact ⟨_,rfl,by rw [e2,if_pos (UInt8.toNat_inj.1 (by omega))],H3.fr⟩
    .rintro _ w6 rfl H6
     have h1:=yV x.lo
     have h2:=yV x.hi
     have s0:ByteArray.mk #[91]++ba (dO x.lo)++ByteArray.mk #[45]=ba (91::dO x.lo++[45]):=by
      show ba [91]++ba (dO x.lo)++ba [45]=_
      rw [dW,dW];rfl
     refine ⟨_,rfl,?_,?_,H6.aJ (BV x.hi w6) ?_⟩
     .rw [cE];show ¬(((1+_:Nat):Int)>9223372036854775807);omega
     .have:(ByteArray.mk #[91]++ba (dO x.lo)).size=1+(dO x.lo).length:=by
       show (ba [91]++_).size=_
       rw [dW,cE];simp;omega
      rw [this];show ¬(((_+1:Nat):Int)>9223372036854775807);omega
     rintro _ w7 rfl H7
     rw [s0]
     have:ba (91::dO x.lo++[45]++dO x.hi)++ByteArray.mk #[93]=ba (91::dO x.lo++[45]++dO x.hi++[93]):=by
      show _++ba [93]=_
      rw [dW]
     refine ⟨_,rfl,?_,?_,?_,H7.fr⟩
     .rw [cE,cE];simp only [qlA,qlC,qlN];show ¬(((_:Nat):Int)>9223372036854775807);omega
     .rw [dW,cE];simp only [qlA,qlC,qlN];show ¬(((_+1:Nat):Int)>9223372036854775807);omega
     .rw [dW,this,e2,if_neg (λh=>O4 (by rw [h]))]
      simp
   .have h1:=Cc (.inl CU)
    have e6:gJ x.rx=33::uc (jb 3 (Rt.bU x.l)):=by
     rw [Gd];unfold gJ;rw [if_neg z9,if_neg D1,if_neg sE,if_pos CU]
    match nR:x.l,h1 with
    |[a],_=>
     have ha:a∈x.l:=by rw [nR];simp
     have CF:=Rt.dM ha
     refine jt (show x.P w2 from H2.getD 0) (k:=0) rfl (by rw [nR];rfl) (one a 3 w2 b2 _ (by omega) ha H2 λw3 H3=>⟨?_,?_,H3.fr⟩)
     .have:=Rq a 3 (by omega)
      rw [cE];show ¬(((1+_:Nat):Int)>9223372036854775807);omega
     .have:ByteArray.mk #[33]++ba (cP 3 a.rx (gJ a.rx))=ba (33::cP 3 a.rx (gJ a.rx)):=by
       show ba [33]++_=_
       rw [dW];rfl
      rw [this,e6,nR]
      rfl
   .have h1:=Cc (.inr KA)
    have e7:gJ x.rx=uc (jb 4 (Rt.bU x.l))++[42]:=by
     rw [Gd];unfold gJ;rw [if_neg z9,if_neg D1,if_neg sE,if_neg CU,if_pos KA]
    match nR:x.l,h1 with
    |[a],_=>
     have ha:a∈x.l:=by rw [nR];simp
     have CF:=Rt.dM ha
     refine jt (show x.P w2 from H2.getD 0) (k:=0) rfl (by rw [nR];rfl) (one a 4 w2 b2 _ (by omega) ha H2 λw3 H3=>⟨?_,?_,H3.fr⟩)
     .have:=Rq a 4 (by omega)
      rw [cE];show ¬(((_+1:Nat):Int)>9223372036854775807);omega
     .have:ba (cP 4 a.rx (gJ a.rx))++ByteArray.mk #[42]=ba (cP 4 a.rx (gJ a.rx)++[42]):=by
       show _++ba [42]=_
       rw [dW]
      rw [this,e7,nR]
      rfl
   .
    have hk:x.k=3\/x.k=4\/x.k=5:=by omega
    have ef:gJ x.rx=ze x.k++(uc (jb 0 (Rt.bU x.l))++[41]):=by
     rw [Gd];unfold gJ;rw [if_neg z9,if_neg D1,if_neg sE,if_neg CU,if_neg KA,if_pos (by rw [xM];omega)]
    have fin:∀(t:BL) (w3:World),t.length<=18000002->uc (jb 0 (Rt.bU x.l))=t->LH F0 w w3 [.g b2] [.tree x]->enthymemeref04_Write.dV b2 x.k x.lo.toNat x.hi.toNat x.s (ba t) w3 R:=by
     intro t w3 ht he H3
     refine H3.nw λw4 _ H4=>?_
     have key:∀(u:BL),u.length=4->ze x.k=u->¬((((ba u).size+(ba t).size:Nat):Int)>IntKind.i64.max)/\¬((((ba u++ba t).size+(ByteArray.mk #[41]).size:Nat):Int)>IntKind.i64.max)/\R (.returned (.string ((ba u++ba t)++(ByteArray.mk #[41])))) w4:=by
      intro u hu hn
      refine ⟨?_,?_,?_,H4.fr⟩
      .rw [cE,cE];show ¬(((_:Nat):Int)>9223372036854775807);omega
      .rw [dW,cE];simp only [qlA];show ¬(((_+1:Nat):Int)>9223372036854775807);omega
      .have:ba u++ba t++ByteArray.mk #[41]=ba (u++(t++[41])):=by
        show _++_++ba [41]=_
        rw [dW,dW];simp
       rw [this,ef,hn,he]
     rcases hk with hk|hk|hk<;>rw [hk]
     .exact ⟨by decide,by decide,vu ⟨ba [99,97,116,40],H4.ld 1 0,key _ rfl (by rw [hk];rfl)⟩⟩
     .exact ⟨by decide,by decide,vu ⟨ba [97,108,116,40],H4.ld 1 1,key _ rfl (by rw [hk];rfl)⟩⟩
     .exact ⟨by decide,by decide,vu ⟨ba [97,108,108,40],H4.ld 1 2,key _ rfl (by rw [hk];rfl)⟩⟩
    refine aH (λh1=>?_) (λh1=>?_)
    .match nR:x.l with
     |[]=>rw [nR] at nr;simp at nr;omega
     |_::_::_=>rw [nR] at nr;simp at nr;omega
     |[a]=>
      have ha:a∈x.l:=by rw [nR];simp
      have CF:=Rt.dM ha
      refine jt (show x.P w2 from H2.getD 0) (k:=0) rfl (by rw [nR];rfl) (one a 0 w2 b2 _ (by omega) ha H2 λw3 H3=>?_)
      exact fin _ w3 (Rq a 0 (by omega)) (by rw [nR];rfl) H3
    .have:x.l=[]:=List.length_eq_zero_iff.1 (by omega)
     exact fin [] w2 (by simp) (by rw [this];rfl) H2
   .
    have hk:x.k=3\/x.k=4\/x.k=5:=by omega
    match nR:x.l with
    |[]=>rw [nR] at nr;simp at nr;omega
    |a::m=>
    have ha:a∈x.l:=by rw [nR];simp
    have CF:=Rt.dM ha
    have sgl:(lE x.k).length<=1:=by unfold lE;split<;>(try split)<;>simp
    have ef:gJ x.rx=lU x.k (cP (cL x.rx+1) a.rx (gJ a.rx)) (jb (cL x.rx+1) (Rt.bU (x.l.drop 1))):=by
     have e1:gJ x.rx=Pc x.k (jb (cL x.rx+1) (Rt.bU x.l)):=by
      conv=>lhs;rw [Gd];unfold gJ;rw [if_neg z9,if_neg D1,if_neg sE,if_neg CU,if_neg KA,if_neg (by rw [xM];omega)]
      rw [<-Rt.dC]
     rw [e1,nR]
     rfl
    have V0:cL x.rx<=4:=by
     rw [Rt.dC];unfold cL;dsimp only;repeat (first |omega|split)
    have loop:∀(d i:Nat) (out:BL) (w3:World),i+d=x.l.length->1<=i->0<out.length->out.length+pX (jb (cL x.rx+1) (Rt.bU (x.l.drop i)))<=40000000->gJ x.rx=lU x.k out (jb (cL x.rx+1) (Rt.bU (x.l.drop i)))->LH F0 w w3 [.g b2] [.tree x]->
      enthymemeref04_Write.l4 b2 x.k x.lo.toNat x.hi.toNat x.s (ba (lE x.k)) (cL x.rx:Int) (ba out) (i:Int) w3 R:=by
     intro d
     induction d with
     |zero=>
      intro i out w3 hi h1 Gu Cd he H3
      refine enthymemeref04_Write.dJ _ _ _ _ _ _ _ _ _ _ _ (aL (decide_eq_false (by omega)) ⟨?_,H3.fr⟩)
      rw [he,List.drop_of_length_le (by omega)]
      rfl
     |succ d pT=>
      intro i out w3 hi h1 Gu Cd he H3
      have hg:x.l[i]? =some (x.l[i]'(by omega)):=gW (by omega)
      have CT:x.l.drop i=(x.l[i]'(by omega))::x.l.drop (i+1):=List.drop_eq_getElem_cons (by omega)
      generalize x.l[i]'(by omega)=c at hg CT
      have hc:=cZ hg
      have szc:=Rt.dM hc
      rw [CT] at he Cd
      have Cd:out.length+((cP (cL x.rx+1) c.rx (gJ c.rx)).length+2+pX (jb (cL x.rx+1) (Rt.bU (x.l.drop (i+1)))))<=40000000:=by
       have:pX (jb (cL x.rx+1) (Rt.bU (c::x.l.drop (i+1))))=(cP (cL x.rx+1) c.rx (gJ c.rx)).length+2+pX (jb (cL x.rx+1) (Rt.bU (x.l.drop (i+1)))):=by
        simp [Rt.bU,jb,pX]
       omega
      have he:gJ x.rx=lU x.k ((if x.k=3/\tv (qa out)=true/\tv (gQ (cP (cL x.rx+1) c.rx (gJ c.rx)) 0)=true then out++[32] else out)++lE x.k++cP (cL x.rx+1) c.rx (gJ c.rx)) (jb (cL x.rx+1) (Rt.bU (x.l.drop (i+1)))):=by
       rw [he];rfl
      have Zi:0<(cP (cL x.rx+1) c.rx (gJ c.rx)).length:=by
       have h1:=CP c.rx (JF c hc)
       have:=(nV (cL x.rx+1) c.rx (gJ c.rx)).2
       omega
      have VL:IntKind.wrap .i64 ((cL x.rx:Int)+1)=((cL x.rx+1:Nat):Int):=aY _ (by omega)
      refine enthymemeref04_Write.dJ _ _ _ _ _ _ _ _ _ _ _ (aQ (decide_eq_true (by omega)) (jt (show x.P w3 from H3.getD 0) rfl hg ?_))
      rw [VL]
      refine one c (cL x.rx+1) w3 b2 _ (by omega) hc H3 λw4 H4=>?_
      generalize cP (cL x.rx+1) c.rx (gJ c.rx)=t at he Cd Zi
      have go:∀(o:BL) (w5:World),o.length<=out.length+1->out.length<=o.length->o.length+(lE x.k).length<=out.length+1->gJ x.rx=lU x.k (o++lE x.k++t) (jb (cL x.rx+1) (Rt.bU (x.l.drop (i+1))))->LH F0 w w5 [.g b2] [.tree x]->
        enthymemeref04_Write.eY b2 x.k x.lo.toNat x.hi.toNat x.s (ba (lE x.k)) (cL x.rx:Int) (ba o) (i:Int) (ba t) w5 R:=by
       intro o w5 ho1 ho2 XM heo H5
       refine ⟨?_,?_,?_⟩
       .rw [cE,cE];show ¬(((_:Nat):Int)>9223372036854775807);omega
       .rw [dW,cE,cE];simp only [qlA];show ¬(((_:Nat):Int)>9223372036854775807);omega
       .show enthymemeref04_Write.l4 _ _ _ _ _ _ _ _ _ _ _
        rw [dW,dW,aY _ (by omega)]
        refine pT (i+1) (o++lE x.k++t) w5 (by omega) (by omega) (by simp only [qlA];omega) (by simp only [qlA];omega) heo H5
      have qf:∀w5,LH F0 w w5 [.g b2] [.tree x]->¬(x.k=3/\tv (qa out)=true/\tv (gQ t 0)=true)->enthymemeref04_Write.eY b2 x.k x.lo.toNat x.hi.toNat x.s (ba (lE x.k)) (cL x.rx:Int) (ba out) (i:Int) (ba t) w5 R:=λw5 H5 h=>go out w5 (by omega) (by omega) (by omega) (by rw [if_neg h] at he;exact he) H5
      have eo:IntKind.wrap .i64 ((((ba out).size:Nat):Int) - 1)=((out.length - 1:Nat):Int):=by rw [cE,IntWalk.i64_in _ (by omega)];omega
      rw [eo]
      refine aH (λGr=>⟨by omega,qa out,?_,H4.aJ (Lp (qa out) w4) ?_⟩) (λGr=>qf w4 H4 (λh=>Gr h.1))
      .rw [Int.toNat_natCast,kS (s:=ba out) (by rw [cE];omega),yq,Ii out Gu]
      rintro _ w5 rfl H5
      refine ⟨_,rfl,aZ (λrT=>⟨by omega,gQ t 0,?_,H5.aJ (Lp (gQ t 0) w5) ?_⟩) (λrT=>qf w5 H5 (λh=>by rw [h.2.1] at rT;cases rT))⟩
      .rw [show Int.toNat 0=0 from rfl,kS (s:=ba t) (by rw [cE];omega),yq]
      rintro _ w6 rfl H6
      have s3:(lE x.k).length=0:=by unfold lE;rw [if_pos Gr];rfl
      refine ⟨_,rfl,aZ (λl6=>⟨?_,?_⟩) (λl6=>qf w6 H6 (λh=>by rw [h.2.2] at l6;cases l6))⟩
      .rw [cE];show ¬(((_+1:Nat):Int)>9223372036854775807);omega
      .have YL:ba out++ByteArray.mk #[32]=ba (out++[32]):=by
        show _++ba [32]=_
        rw [dW]
       rw [YL]
       refine go (out++[32]) w6 (by simp) (by simp) (by simp;omega) ?_ H6
       rw [if_pos ⟨Gr,rT,l6⟩] at he
       exact he
    refine H2.nw λrO _ qB=>?_
    have Vh:LH F0 w rO [.g b2] [.tree x]:=qB.take 1
    have rest:∀(u:BL),lE x.k=u->mW [b2] gh #[.agg #[.i x.k,.int .u8 (x.lo.toNat:Int),.int .u8 (x.hi.toNat:Int),x.s.v]] rO λt90 qV=>(0:Int)<=0/\0<((x.s.n:Nat):Int)/\aX x.s.a λXg=>cB qV (Xg.add (Int.toNat 0 *4)) λXh Xi Xj Xk=>pG [b2] bN #[.agg #[.i Xh,.int .u8 Xi,.int .u8 Xj,Xk.v],.i (IntKind.wrap .i64 (t90+1))] qV λt97 uD=>enthymemeref04_Write.l4 b2 x.k x.lo.toNat x.hi.toNat x.s (ba u) t90 t97 1 uD R:=by
     intro u hu
     refine Vh.aJ (yx x rO k0 k7 (Vh.getD 0)) ?_
     rintro _ qV rfl qW
     refine ⟨_,rfl,jt (show x.P qV from qW.getD 0) (k:=0) rfl (by rw [nR];rfl) ?_⟩
     have VL:IntKind.wrap .i64 ((cL x.rx:Int)+1)=((cL x.rx+1:Nat):Int):=aY _ (by omega)
     rw [VL]
     refine one a (cL x.rx+1) qV b2 _ (by omega) ha qW λuD ux=>?_
     rw [<-hu]
     refine loop (x.l.length - 1) 1 _ uD (by omega) (by omega) ?_ ?_ ef ux
     .have h1:=CP a.rx (JF a ha)
      have:=(nV (cL x.rx+1) a.rx (gJ a.rx)).2
      omega
     .have h1:=Rq a (cL x.rx+1) (by omega)
      have h2:=rE (cL x.rx+1) (Rt.bU (x.l.drop 1))
      have h3:=Ny x.l 1
      omega
    rcases hk with hk|hk|hk
    .exact ⟨by rw [hk];decide,by rw [hk];decide,vu ⟨ba [],by rw [hk];exact qB.ld 1 0,rest _ (by rw [hk];rfl)⟩⟩
    .exact ⟨by rw [hk];decide,by rw [hk];decide,vu ⟨ba [124],by rw [hk];exact qB.ld 1 1,rest _ (by rw [hk];rfl)⟩⟩
    .exact ⟨by rw [hk];decide,by rw [hk];decide,vu ⟨ba [38],by rw [hk];exact qB.ld 1 2,rest _ (by rw [hk];rfl)⟩⟩
  intro x lv w h Rm dN px
  by_cases hb:cL x.rx<lv
  .have D2:=dN
   rw [Rt.dC] at D2
   obtain ⟨k0,k7,_,_⟩:=tf D2
   refine enthymemeref04_Write.cV _ _ _ _ _ w _ ((za px).bJ λb2 w1 H1=>H1.aJ (yx x w1 k0 k7 (H1.getD 0)) ?_)
   rintro _ w2 rfl H2
   refine ⟨_,rfl,aQ (decide_eq_true (by omega)) (H2.aJ (core x 0 w2 h (by omega) dN (H2.getD 0)) ?_)⟩
   rintro _ w3 rfl H3
   have pU:(gJ x.rx).length<=18000000:=by have:=zW x.rx;rw [Rt.g9] at this;omega
   have e:ByteArray.mk #[40]++ba (gJ x.rx)++ByteArray.mk #[41]=ba (40::(gJ x.rx++[41])):=by
    show ba [40]++ba (gJ x.rx)++ba [41]=_
    rw [dW,dW];simp
   refine ⟨_,rfl,?_,?_,?_,H3.fr⟩
   .rw [cE];show ¬(((1+_:Nat):Int)>9223372036854775807);omega
   .have:(ByteArray.mk #[40]++ba (gJ x.rx)).size=1+(gJ x.rx).length:=by
     show (ba [40]++_).size=_
     rw [dW,cE];simp;omega
    rw [this];show ¬(((_+1:Nat):Int)>9223372036854775807);omega
   .rw [e];unfold cP;rw [if_pos hb]
  .have:=core x lv w h hb dN px
   have e:cP lv x.rx (gJ x.rx)=gJ x.rx:=by unfold cP;rw [if_neg hb]
   rw [e]
   exact this
theorem Hx (x:Rt) (lv:Nat) (w:World) (h:x.sz<=1000000) (Rm:lv<=1000) (dN:okW x.rx=true) (px:x.P w):Calls Tryz.prog bN #[x.v,.i (lv:Int)] w λr w'=>r=.returned (.string (ba (cP lv x.rx (gJ x.rx))))/\bI w w':=Dm 1000000 (Nat.le_refl _) x lv w h Rm dN px
theorem M1 {s:BL} {x:Rx} {a:Nat} {e:Int} (h:wG s=some (x,a,e)):x.sz<=1000000:=by
 unfold wG at h
 split at h
 .simp only [Option.some.injEq,Prod.mk.injEq] at h
  rw [<-h.1];decide
 .dsimp only at h
  split at h
  .split at h
   .simp only [Option.some.injEq,Prod.mk.injEq] at h
    rw [<-h.1];decide
   .split at h
    .cases h
    .split at h
     .simp only [Option.some.injEq,Prod.mk.injEq] at h
      rw [<-h.1];decide
     .simp only [Option.some.injEq,Prod.mk.injEq] at h
      rw [<-h.1];omega
  .cases h
theorem Dj (s:ByteArray) (hs:s.size<=100000) (b:Bool) (hc:BZ (bl s)=some b) (w:World):Calls Tryz.prog il #[.string s] w λr w'=>r=.returned (.bool b)/\bI w w':=by
 unfold BZ at hc
 cases hp:wG (bl s) with
 |none=>rw [hp] at hc;cases hc
 |some y=>
  obtain ⟨x,a,e⟩:=y
  rw [hp] at hc
  dsimp only at hc
  have l8:=M1 hp
  have H:LH F0 w w [] []:=mu [] (by simp)
  refine enthymemeref04_Canonical.cV _ w _ (H.Dv (Ln s hs x a e hp w) ?_)
  rintro _ w1 ⟨t,rfl,ht,pt,ft⟩ _ F1
  have H1:=F1.rd (.tree t) pt λb hb=>ft b (aI.1 hb)
  have RN:t.sz<=1000000:=by rw [<-Rt.g9,ht];exact l8
  refine ⟨_,_,_,t.s,_,_,rfl,H1.bJ λb3 w2 H2=>eB (λhe=>H2.aK λw3 H3=>⟨?_,H3.fr⟩) (λhe=>H2.aK λw3 H3=>?_)⟩
  .rw [if_neg he] at hc
   cases hc;rfl
  rw [if_pos he] at hc
  refine ng ((Dr t w3 RN (H3.getD 0)).mono ?_)
  rintro _ w4 ⟨⟨u,rfl,hu,pu,fu⟩,f4⟩
  have H4:=H3.mE (.tree u) f4 pu λb hb=>(fu b (aI.1 hb)).imp id λhb=>.inr ⟨_,cZ (i:=0) rfl,aI.2 hb⟩
  rw [ht] at hu
  refine ⟨f4,_,_,_,u.s,_,rfl,H4.bJ λb6 w5 H5=>?_⟩
  rw [ht]
  refine aH (λhn=>H5.aK λw6 H6=>?_) (λhn=>H5.aK λw6 H6=>⟨?_,H6.fr⟩)
  .rw [if_pos hn] at hc
   split at hc
   .rename_i dN
    rw [<-hu] at dN hc
    refine H6.aJ (Hx u 0 w6 (by rw [<-Rt.g9];omega) (by omega) dN.1 (H6.getD 1)) ?_
    rintro _ w7 rfl H7
    refine ⟨_,rfl,?_,H7.fr⟩
    cases hc
    congr 2
    have:=AL (cP 0 u.rx (gJ u.rx)) (bl s)
    rw [AK] at this
    exact this
   .cases hc
  .rw [if_neg hn] at hc
   cases hc;rfl
set_option maxRecDepth 100000
set_option maxHeartbeats 2000000
theorem Xp {P:Program} {n:Cx} {c:Code} {Q:Exit->Act->World->Prop} {E E':Env} {w:World} (h:∀t v,E'.get? t=some v->E.get? t=some v) (hw:WP P n c Q E' w):WP P n c Q E w:=λa ha=>hw a ⟨ha.defers,ha.size,λt v ht=>ha.get t v (h t v ht)⟩
theorem aac {E:Env} {i j:Nat} {a b:Value} (h1:E.get? i=some a) (h2:E.get? j=some b):∀t v,Env.get? [(i,a),(j,b)] t=some v->E.get? t=some v:=by
 intro t v h
 unfold Env.get? at h
 cases hi:Nat.beq i t with
 |true=>
  rw [hi] at h
  have:=Nat.eq_of_beq_eq_true hi
  subst this
  rw [h1];exact h
 |false=>
  rw [hi] at h
  have h:Env.get? [(j,b)] t=some v:=h
  unfold Env.get? at h
  cases hj:Nat.beq j t with
  |true=>
   rw [hj] at h
   have:=Nat.eq_of_beq_eq_true hj
   subst this
   rw [h2];exact h
  |false=>rw [hj] at h;cases h
namespace enthymemeref04_TextI
abbrev T9 (s:Sl) (k:Int) (w:World) (R:aD):Prop:=
 (0:Int)<=(Int.tmod (IntKind.wrap .i64 (Int.tdiv k 216)) 8)/\(Int.tmod (IntKind.wrap .i64 (Int.tdiv k 216)) 8)<((s.n:Nat):Int)/\aX s.a λp=>cB w (p.add (Int.toNat (Int.tmod (IntKind.wrap .i64 (Int.tdiv k 216)) 8) *4)) λa b c d=>NX eP #[.agg #[.i a,.int .u8 b,.int .u8 c,d.v]] w λe f g i w1=>Lt bN #[.agg #[.i e,.int .u8 f,.int .u8 g,i.v],.i 0] w1 λt w2=>R (.returned (.string t)) w2
def K9 (R:aD) (E:Env) (w:World):Prop:=∃(s:Sl) (k:Int),E.get? 9=some s.v/\E.get? 3=some (.i k)/\T9 s k w R
noncomputable def C0:Code:=(Tryz.f76.body).getD .skip
noncomputable def C1:=C0.sn
noncomputable def C2:=C1.sn
noncomputable def C3:=C2.sn
noncomputable def C4:=C3.sn
noncomputable def C5:=C4.sn
noncomputable def C6:=C5.sn
noncomputable def C7:=C6.sn
noncomputable def C8:=C7.sn
noncomputable def C9:=C8.sn
theorem ok (n0:Int) (w:World) (R:aD) (h:BW aS #[.i n0,.i 1048576] w λt11 w1=>NX bR #[] w1 λIT IU IV IW w2=>fJ w2 (.cells #[.i 2,.int .u8 97,.int .u8 97,.slice none 0 0,.i 2,.int .u8 98,.int .u8 98,.slice none 0 0,.i 2,.int .u8 0,.int .u8 0,.slice none 0 0,.i 2,.int .u8 97,.int .u8 98,.slice none 0 0,.i 1,.int .u8 0,.int .u8 0,.slice none 0 0,.i IT,.int .u8 IU,.int .u8 IV,IW.v] aA) λw3=>
 (0:Int)<=(Int.tmod t11 6)/\(Int.tmod t11 6)<((6:Nat):Int)/\aX (some (nb w2)) λRO=>cB w3 (RO.add (Int.toNat (Int.tmod t11 6) *4)) λRP RQ RR RS=>fJ w3 (.cells #[.i 0,.int .u8 0,.int .u8 0,.slice none 0 0] aA) λw4=>
 qx w4 (nb w3) (.i RP) (.int .u8 RQ) (.int .u8 RR) (RS.v) λw8=>(0:Int)<=(Int.tmod (IntKind.wrap .i64 (Int.tdiv t11 6)) 6)/\(Int.tmod (IntKind.wrap .i64 (Int.tdiv t11 6)) 6)<((6:Nat):Int)/\aX (some (nb w2)) λRT=>cB w8 (RT.add (Int.toNat (Int.tmod (IntKind.wrap .i64 (Int.tdiv t11 6)) 6) *4)) λRU RV RW RX=>fJ w8 (.cells #[.i 0,.int .u8 0,.int .u8 0,.slice none 0 0] aA) λw9=>
 qx w9 (nb w8) (.i RU) (.int .u8 RV) (.int .u8 RW) (RX.v) λuD=>(0:Int)<=(Int.tmod (IntKind.wrap .i64 (Int.tdiv t11 36)) 6)/\(Int.tmod (IntKind.wrap .i64 (Int.tdiv t11 36)) 6)<((6:Nat):Int)/\aX (some (nb w2)) λRY=>cB uD (RY.add (Int.toNat (Int.tmod (IntKind.wrap .i64 (Int.tdiv t11 36)) 6) *4)) λRZ R0 R1 R3=>fJ uD (.cells #[.i 0,.int .u8 0,.int .u8 0,.slice none 0 0] aA) λC'=>
 qx C' (nb uD) (.i RZ) (.int .u8 R0) (.int .u8 R1) (R3.v) λKG=>cB KG (nb w3) λR6 R7 R8 R9=>fJ KG (.cells #[.i R6,.int .u8 R7,.int .u8 R8,R9.v] aA) λSk=>
 fJ Sk (.cells #[.i 0,.int .u8 0,.int .u8 0,.slice none 0 0] aA) λX8=>
 qx X8 (nb Sk) (.i 7) (.int .u8 0) (.int .u8 0) (.slice (some (nb KG)) 1 1) λFz=>W0 Tryz.prog C7 (K9 R) [(8,.pointer (some (nb Sk))),(38,.agg #[.i 7,.int .u8 0,.int .u8 0,.slice (some (nb KG)) 1 1]),(37,.slice (some (nb KG)) 1 1),(36,.agg #[.i R6,.int .u8 R7,.int .u8 R8,R9.v]),(7,.pointer (some (nb uD))),(35,.agg #[.i RZ,.int .u8 R0,.int .u8 R1,R3.v]),(34,.pointer (some (RY.add (Int.toNat (Int.tmod (IntKind.wrap .i64 (Int.tdiv t11 36)) 6) *4)))),(33,.i (Int.tmod (IntKind.wrap .i64 (Int.tdiv t11 36)) 6)),(32,.i (IntKind.wrap .i64 (Int.tdiv t11 36))),(31,.i t11),(30,.slice (some (nb w2)) 6 6),(6,.pointer (some (nb w8))),(29,.agg #[.i RU,.int .u8 RV,.int .u8 RW,RX.v]),(28,.pointer (some (RT.add (Int.toNat (Int.tmod (IntKind.wrap .i64 (Int.tdiv t11 6)) 6) *4)))),(27,.i (Int.tmod (IntKind.wrap .i64 (Int.tdiv t11 6)) 6)),(26,.i (IntKind.wrap .i64 (Int.tdiv t11 6))),(25,.i t11),(24,.slice (some (nb w2)) 6 6),(5,.pointer (some (nb w3))),(23,.agg #[.i RP,.int .u8 RQ,.int .u8 RR,RS.v]),(22,.pointer (some (RO.add (Int.toNat (Int.tmod t11 6) *4)))),(21,.i (Int.tmod t11 6)),(20,.i t11),(19,.slice (some (nb w2)) 6 6),(4,.slice (some (nb w2)) 6 6),(18,.slice (some (nb w2)) 6 6),(17,.agg #[.i IT,.int .u8 IU,.int .u8 IV,IW.v]),(16,.agg #[.i 1,.int .u8 0,.int .u8 0,.slice none 0 0]),(15,.agg #[.i 2,.int .u8 97,.int .u8 98,.slice none 0 0]),(14,.agg #[.i 2,.int .u8 0,.int .u8 0,.slice none 0 0]),(13,.agg #[.i 2,.int .u8 98,.int .u8 98,.slice none 0 0]),(12,.agg #[.i 2,.int .u8 97,.int .u8 97,.slice none 0 0]),(3,.i t11),(11,.i t11),(10,.i n0),(2,.s0),(0,.i n0)] Fz):Calls Tryz.prog kE #[.i n0] w R:=
 oW (R:=R) (fn:=Tryz.f76) (c:=C0) (args:=[.i n0]) (by kernel_rfl) (by kernel_rfl) (by kernel_rfl) (sr C0 (show (λ(E:Env) (w:World)=>xQ Tryz.prog C0 (λE w=>xQ Tryz.prog C1 (λE w=>xQ Tryz.prog C2 (λE w=>xQ Tryz.prog C3 (λE w=>xQ Tryz.prog C4 (λE w=>xQ Tryz.prog C5 (λE w=>xQ Tryz.prog C6 (λE w=>W0 Tryz.prog C7 (K9 R) E w) E w) E w) E w) E w) E w) E w) E w) (rF 0 [.i n0]) w from mp h) λ_ _ hK=>(sr C1 hK λ_ _ hK=>(sr C2 hK λ_ _ hK=>(sr C3 hK λ_ _ hK=>(sr C4 hK λ_ _ hK=>(sr C5 hK λ_ _ hK=>(sr C6 hK λ_ _ hK=>(si C7 (by kernel_rfl) hK λ_ _ hK=>(let ⟨s,k,h9,h3,h⟩:=hK;Xp (E':=[(9,s.v),(3,.i k)]) (aac h9 h3) (sr C8 (show xQ Tryz.prog C8 (λE w=>rJ Tryz.prog Tryz.f76 E w (λv=>R (.returned v) w)) [(9,s.v),(3,.i k)] _ from mp h) λ_ _ hK=>(rt C9 λa hA=>qg hA hK)))))))))))
end enthymemeref04_TextI
inductive Vm where
 |tr (x:Rx)
 |ls (l:List Rx)
def D3 (base:Nat) (w:World) (v:Option Value):Vm->Prop
 |.tr x=>∃t:Rt,v=some t.v/\t.rx=x/\t.P w/\∀b∈t.fp,base<=b
 |.ls l=>∃(s:Sl) (ts:List Rt),v=some s.v/\Rt.bU ts=l/\(eE s ts).P w/\∀b∈(eE s ts).fp,base<=b
theorem D3.oR {base:Nat} {w w':World} {v:Option Value} {sp:Vm} (h:D3 base w v sp) (f:bI w w'):D3 base w' v sp:=by
 cases sp with
 |tr x=>obtain ⟨t,h1,h2,h3,h4⟩:=h;exact ⟨t,h1,h2,h3.oR f,h4⟩
 |ls l=>obtain ⟨s,ts,h1,h2,h3,h4⟩:=h;exact ⟨s,ts,h1,h2,h3.oR f,h4⟩
def jd (i:Nat):Nat:=if i=40 then 9 else 39+i
def tO (base:Nat) (w:World) (E:Env) (t:Nat) (x:Rx):Prop:=∃(b:Nat) (u:Rt),E.get? t=some (.pointer (some (bF b)))/\w.heap[b]? =some (.cells u.c.toArray aA (0,0))/\u.rx=x/\u.P w/\∀c∈u.fp,base<=c
theorem tO.oR {base:Nat} {w w':World} {E:Env} {t:Nat} {x:Rx} (h:tO base w E t x) (f:bI w w'):tO base w' E t x:=by
 obtain ⟨b,u,h1,h2,h3,h4,h5⟩:=h
 exact ⟨b,u,h1,(f.gV b (gg h2) id).trans h2,h3,h4.oR f,h5⟩
theorem tO.put {base:Nat} {w:World} {E:Env} {t d:Nat} {v:Value} {x:Rx} (h:tO base w E t x) (hd:d≠t):tO base w (E.put (some d) v) t x:=by
 obtain ⟨b,u,h1,h2⟩:=h
 exact ⟨b,u,by rw [eS hd];exact h1,h2⟩
section
variable (w0:World) (base:Nat) (kk:Int) (Xa Xb Xc Xs:Rx)
def fX:List Vm:=[.tr Xa,
 .tr Xa,
 .tr Xb,
 .ls [Xa,Xb],
 .tr (.mk 3 0 0 [Xa,Xb]),
 .tr Xa,
 .tr Xb,
 .tr Xc,
 .ls [Xa,Xb,Xc],
 .tr (.mk 4 0 0 [Xa,Xb,Xc]),
 .tr Xs,
 .tr Xs,
 .tr Xb,
 .ls [Xs,Xb],
 .tr (.mk 3 0 0 [Xs,Xb]),
 .tr Xa,
 .tr Xb,
 .ls [Xa,Xb],
 .tr (.mk 3 0 0 [Xa,Xb]),
 .ls [(.mk 3 0 0 [Xa,Xb])],
 .tr (.mk 6 0 0 [(.mk 3 0 0 [Xa,Xb])]),
 .tr Xb,
 .tr Xa,
 .tr Xc,
 .ls [Xa,Xc],
 .tr (.mk 4 0 0 [Xa,Xc]),
 .ls [(.mk 4 0 0 [Xa,Xc])],
 .tr (.mk 7 0 0 [(.mk 4 0 0 [Xa,Xc])]),
 .ls [Xb,(.mk 7 0 0 [(.mk 4 0 0 [Xa,Xc])])],
 .tr (.mk 3 0 0 [Xb,(.mk 7 0 0 [(.mk 4 0 0 [Xa,Xc])])]),
 .tr Xb,
 .ls [Xb],
 .tr (.mk 6 0 0 [Xb]),
 .tr Xa,
 .tr fD,
 .ls [Xa,fD],
 .tr (.mk 3 0 0 [Xa,fD]),
 .ls [(.mk 6 0 0 [Xb]),(.mk 3 0 0 [Xa,fD])],
 .tr (.mk 5 0 0 [(.mk 6 0 0 [Xb]),(.mk 3 0 0 [Xa,fD])]),
 .ls [Xa,(.mk 3 0 0 [Xa,Xb]),(.mk 4 0 0 [Xa,Xb,Xc]),Xs,(.mk 3 0 0 [Xs,Xb]),(.mk 6 0 0 [(.mk 3 0 0 [Xa,Xb])]),(.mk 3 0 0 [Xb,(.mk 7 0 0 [(.mk 4 0 0 [Xa,Xc])])]),(.mk 5 0 0 [(.mk 6 0 0 [Xb]),(.mk 3 0 0 [Xa,fD])])],
 .ls [Xa,(.mk 3 0 0 [Xa,Xb]),(.mk 4 0 0 [Xa,Xb,Xc]),Xs,(.mk 3 0 0 [Xs,Xb]),(.mk 6 0 0 [(.mk 3 0 0 [Xa,Xb])]),(.mk 3 0 0 [Xb,(.mk 7 0 0 [(.mk 4 0 0 [Xa,Xc])])]),(.mk 5 0 0 [(.mk 6 0 0 [Xb]),(.mk 3 0 0 [Xa,fD])])]]
structure JT (L:Nat->Bool) (E:Env) (w:World):Prop where
 fr:bI w0 w
 k:E.get? 3=some (.i kk)
 a:tO base w E 5 Xa
 b:tO base w E 6 Xb
 c:tO base w E 7 Xc
 s:tO base w E 8 Xs
 all:∀(i:Nat) (sp:Vm),(fX Xa Xb Xc Xs)[i]? =some sp->L i=true->D3 base w (E.get? (jd i)) sp
variable {w0 base kk Xa Xb Xc Xs}
theorem JT.step {L:Nat->Bool} {E:Env} {w w':World} (J:JT w0 base kk Xa Xb Xc Xs L E w) (f:bI w w') {i d:Nat} (hd:d=jd i) {v:Value} {sp:Vm} (hs:(fX Xa Xb Xc Xs)[i]? =some sp) (h:D3 base w' (some v) sp):JT w0 base kk Xa Xb Xc Xs (ji L i) (E.put (some d) v) w':=by
 have hn:9<=d:=by rw [hd];unfold jd;split<;>omega
 refine ⟨J.fr.Ab f,by rw [eS (by omega)];exact J.k,(J.a.oR f).put (by omega),(J.b.oR f).put (by omega),(J.c.oR f).put (by omega),(J.s.oR f).put (by omega),λj sq hq hL=>?_⟩
 by_cases hj:j=i
 .subst hj
  rw [hs] at hq;cases hq
  rw [<-hd,te]
  exact h
 .have hM:d≠jd j:=by
   rw [hd]
   have h1:i<41:=(List.getElem?_eq_some_iff.1 hs).1
   have h2:j<41:=(List.getElem?_eq_some_iff.1 hq).1
   unfold jd
   split<;>split<;>omega
  rw [eS hM]
  refine (J.all j sq hq ?_).oR f
  have:Nat.beq j i=false:=by rw [<-Bool.not_eq_true,Nat.beq_eq];exact hj
  simpa [ji,this] using hL
abbrev r8 (w0:World) (base:Nat) (kk:Int) (Xa Xb Xc Xs:Rx) (i:Nat) (r:Op×Option Nat×TypeId×List Nat):Prop:=Od Tryz.prog (JT w0 base kk Xa Xb Xc Xs) i r
theorem Pk {b:Nat} {u:Rt} {w:World} (hb:w.heap[b]? =some (.cells u.c.toArray aA (0,0))) {K:Value->Prop} (hk:K u.v):At Tryz.prog aA (bF b) w λv _=>K v:=by
 have c0:=cellAt (p:=bF b) (i:=0) (v:=.int .i64 u.k) hb rfl rfl
 have c1:=cellAt (p:=bF b) (i:=1) (v:=.int .u8 (u.lo.toNat:Int)) hb rfl rfl
 have c2:=cellAt (p:=bF b) (i:=2) (v:=.int .u8 (u.hi.toNat:Int)) hb rfl rfl
 have c3:=cellAt (p:=bF b) (i:=3) (v:=u.s.v) hb rfl rfl
 have e:(At Tryz.prog aA (bF b) w λv _=>K v)=(∃n0:Int,∃n1:Int,∃n2:Int,∃n3:Sl,w.cell? ((bF b).add 0)=some (.int .i64 n0)/\w.cell? ((bF b).add 1)=some (.int .u8 n1)/\w.cell? ((bF b).add 2)=some (.int .u8 n2)/\w.cell? ((bF b).add 3)=some n3.v/\K (.agg #[.int .i64 n0,.int .u8 n1,.int .u8 n2,n3.v])):=by kernel_rfl
 rw [e]
 exact ⟨_,_,_,u.s,c0,c1,c2,c3,hk⟩
theorem Cv {ty:TypeId} {ds:List Nat} {t:Nat} {x:Rx} (i d:Nat) (hd:d=jd i) (hs:(fX Xa Xb Xc Xs)[i]? =some (.tr x)) (hv:∀L E w,JT w0 base kk Xa Xb Xc Xs L E w->tO base w E t x):r8 w0 base kk Xa Xb Xc Xs i (.load aA (.tmp t),some d,ty,ds):=by
 intro L E w o ho tu ht hi dU J
 obtain ⟨b,u,h1,h2,h3,h4,h5⟩:=hv L E w J
 refine zB ho h1 (Pk h2 ?_)
 rw [tu]
 exact J.step (Fr.refl _ _) hd hs ⟨u,rfl,h3,h4,h5⟩
theorem th {ty:TypeId} {ds:List Nat} (i d:Nat) (hs:(fX Xa Xb Xc Xs)[i]? =some (.tr Xa)) (hd:d=jd i:=by rfl):r8 w0 base kk Xa Xb Xc Xs i (.load aA (.tmp 5),some d,ty,ds):=Cv i d hd hs λ_ _ _ J=>J.a
theorem ti {ty:TypeId} {ds:List Nat} (i d:Nat) (hs:(fX Xa Xb Xc Xs)[i]? =some (.tr Xb)) (hd:d=jd i:=by rfl):r8 w0 base kk Xa Xb Xc Xs i (.load aA (.tmp 6),some d,ty,ds):=Cv i d hd hs λ_ _ _ J=>J.b
theorem IE {ty:TypeId} {ds:List Nat} (i d:Nat) (hs:(fX Xa Xb Xc Xs)[i]? =some (.tr Xc)) (hd:d=jd i:=by rfl):r8 w0 base kk Xa Xb Xc Xs i (.load aA (.tmp 7),some d,ty,ds):=Cv i d hd hs λ_ _ _ J=>J.c
theorem IF {ty:TypeId} {ds:List Nat} (i d:Nat) (hs:(fX Xa Xb Xc Xs)[i]? =some (.tr Xs)) (hd:d=jd i:=by rfl):r8 w0 base kk Xa Xb Xc Xs i (.load aA (.tmp 8),some d,ty,ds):=Cv i d hd hs λ_ _ _ J=>J.s
theorem PW (a:Rt) (w:World):(Instr.buildSlice aC 1 #[((0:Nat),a.v)]).run Tryz.prog w=.ok (.slice (some (bF w.heap.size)) 1 1) (w.alloc (.cells ([a].flatMap Rt.c).toArray aA)):=by kernel_rfl
theorem PX (a b:Rt) (w:World):(Instr.buildSlice aC 2 #[((0:Nat),a.v),(1,b.v)]).run Tryz.prog w=.ok (.slice (some (bF w.heap.size)) 2 2) (w.alloc (.cells ([a,b].flatMap Rt.c).toArray aA)):=by kernel_rfl
theorem PY (a b c:Rt) (w:World):(Instr.buildSlice aC 3 #[((0:Nat),a.v),(1,b.v),(2,c.v)]).run Tryz.prog w=.ok (.slice (some (bF w.heap.size)) 3 3) (w.alloc (.cells ([a,b,c].flatMap Rt.c).toArray aA)):=by kernel_rfl
theorem PZ (a b c q e g r s:Rt) (w:World):(Instr.buildSlice aC 8 #[((0:Nat),a.v),(1,b.v),(2,c.v),(3,q.v),(4,e.v),(5,g.v),(6,r.v),(7,s.v)]).run Tryz.prog w=.ok (.slice (some (bF w.heap.size)) 8 8) (w.alloc (.cells ([a,b,c,q,e,g,r,s].flatMap Rt.c).toArray aA)):=by kernel_rfl
theorem IN {o:Oper} {T:TypeId} {n:Nat} {parts:Array (Nat×Operand)} {E:Env} {w w':World} {v:Value} {K:Env->World->Prop} (ho:o.op=.buildSlice T n parts) (hc:E.fT o=true) (hr:(Instr.buildSlice T n (parts.map λp=>(p.1,E.ev p.2))).run Tryz.prog w=.ok v w') (h:K (E.put o.dst v) w'):ov Tryz.prog o E w K:=by
 obtain ⟨dst,op,ty,pos,after,guard⟩:=o
 simp only at ho
 subst ho
 have he:wi Tryz.prog ⟨dst,.buildSlice T n parts,ty,pos,after,guard⟩ E w (λv w'=>K (E.put dst v) w'):=by
  unfold wi
  rw [hc]
  show hG true _
  simp only [execOp]
  rw [show (λ(x:Nat×Operand)=>match x with |(i,x)=>(i,E.ev x))=λp=>(p.1,E.ev p.2) from rfl]
  simp [hr]
  exact h
 unfold ov
 simp only [calm,cond_false]
 unfold me
 exact he
theorem mG {E:Env} {t:Nat} {v:Value} (h:E.get? t=some v):E.ev (.tmp t)=v:=by simp [Env.ev,Env.val,h]
theorem vm {w:World} {ts:List Rt} {n:Nat} (hn:n=ts.length) (hm:n<=1000) (hp:Rt.Ps w ts) (hf:∀b∈Rt.gK ts,base<=b) (hb:base<=w.heap.size):
  (eE ⟨some (bF w.heap.size),n,n⟩ ts).P (w.alloc (.cells (ts.flatMap Rt.c).toArray aA))/\∀b∈(eE ⟨some (bF w.heap.size),n,n⟩ ts).fp,base<=b:=by
 have jN:=aP.made w aA 4 n (ts.flatMap Rt.c) (by rw [Rt.iL,hn]) (by unfold maxLen;omega)
 refine ⟨fM.2 ⟨jN.jh,hp.oR (Fr.alloc _ _ _)⟩,λb eD=>?_⟩
 rcases oD.1 eD with h|h
 .exact Cq (λc hc=>by simp only [bC,cU,qnM,or_false] at hc;rw [hc];exact hb) b h
 .exact hf b h
theorem JT.uL {L:Nat->Bool} {E:Env} {w:World} (J:JT w0 base kk Xa Xb Xc Xs L E w) (hb:base<=w0.heap.size):base<=w.heap.size:=Nat.le_trans hb J.fr.size
section
variable (mf:base<=w0.heap.size)
include mf
theorem Cu {ty:TypeId} {ds:List Nat} (i d j0:Nat) {t0:Nat} {x0:Rx} (hs:(fX Xa Xb Xc Xs)[i]? =some (.ls [x0])) (h0:(fX Xa Xb Xc Xs)[j0]? =some (.tr x0)) (m0:j0∈ds) (hd:d=jd i:=by rfl) (e0:t0=jd j0:=by rfl):r8 w0 base kk Xa Xb Xc Xs i (.buildSlice aC 1 #[(0,.tmp t0)],some d,ty,ds):=by
 intro L E w o ho tu ht hi dU J
 obtain ⟨a,a1,a2,a3,a4⟩:=J.all j0 _ h0 (dU j0 m0)
 rw [<-e0] at a1
 have hm:=vm (base:=base) (w:=w) (ts:=[a]) (n:=1) rfl (by omega) (Rt.oq (by simp [a3])) (by simp [Rt.gK];exact a4) (J.uL mf)
 refine IN (w':=w.alloc (.cells ([a].flatMap Rt.c).toArray aA)) (v:=.slice (some (bF w.heap.size)) 1 1) ho (by obtain ⟨_,op,_,_,_,_⟩:=o;simp only at ho;subst ho;simp [Env.fT,Op.operands,Env.val,a1]) ?_ ?_
 .rw [show (#[((0:Nat),Operand.tmp t0)].map λp=>(p.1,E.ev p.2))=#[((0:Nat),a.v)] by simp [mG a1]]
  exact PW a w
 .rw [tu]
  exact J.step (Fr.alloc _ _ _) hd hs ⟨⟨some (bF w.heap.size),1,1⟩,[a],rfl,by simp [Rt.bU,a2],hm.1,hm.2⟩
theorem ry {ty:TypeId} {ds:List Nat} (i d j0 j1:Nat) {t0 t1:Nat} {x0 x1:Rx} (hs:(fX Xa Xb Xc Xs)[i]? =some (.ls [x0,x1])) (h0:(fX Xa Xb Xc Xs)[j0]? =some (.tr x0)) (h1:(fX Xa Xb Xc Xs)[j1]? =some (.tr x1)) (m0:j0∈ds) (m1:j1∈ds) (hd:d=jd i:=by rfl) (e0:t0=jd j0:=by rfl) (e1:t1=jd j1:=by rfl):r8 w0 base kk Xa Xb Xc Xs i (.buildSlice aC 2 #[(0,.tmp t0),(1,.tmp t1)],some d,ty,ds):=by
 intro L E w o ho tu ht hi dU J
 obtain ⟨a,a1,a2,a3,a4⟩:=J.all j0 _ h0 (dU j0 m0)
 obtain ⟨b,b1,b2,b3,b4⟩:=J.all j1 _ h1 (dU j1 m1)
 rw [<-e0] at a1
 rw [<-e1] at b1
 have hm:=vm (base:=base) (w:=w) (ts:=[a,b]) (n:=2) rfl (by omega) (Rt.oq (by simp [a3,b3])) (by simp [Rt.gK];exact λc hc=>hc.elim (a4 c) (b4 c)) (J.uL mf)
 refine IN (w':=w.alloc (.cells ([a,b].flatMap Rt.c).toArray aA)) (v:=.slice (some (bF w.heap.size)) 2 2) ho (by obtain ⟨_,op,_,_,_,_⟩:=o;simp only at ho;subst ho;simp [Env.fT,Op.operands,Env.val,a1,b1]) ?_ ?_
 .rw [show (#[((0:Nat),Operand.tmp t0),(1,.tmp t1)].map λp=>(p.1,E.ev p.2))=#[((0:Nat),a.v),(1,b.v)] by simp [mG a1,mG b1]]
  exact PX a b w
 .rw [tu]
  exact J.step (Fr.alloc _ _ _) hd hs ⟨⟨some (bF w.heap.size),2,2⟩,[a,b],rfl,by simp [Rt.bU,a2,b2],hm.1,hm.2⟩
theorem PT {ty:TypeId} {ds:List Nat} (i d j0 j1 j2:Nat) {t0 t1 t2:Nat} {x0 x1 x2:Rx} (hs:(fX Xa Xb Xc Xs)[i]? =some (.ls [x0,x1,x2])) (h0:(fX Xa Xb Xc Xs)[j0]? =some (.tr x0)) (h1:(fX Xa Xb Xc Xs)[j1]? =some (.tr x1)) (h2:(fX Xa Xb Xc Xs)[j2]? =some (.tr x2)) (m0:j0∈ds) (m1:j1∈ds) (m2:j2∈ds) (hd:d=jd i:=by rfl) (e0:t0=jd j0:=by rfl) (e1:t1=jd j1:=by rfl) (e2:t2=jd j2:=by rfl):r8 w0 base kk Xa Xb Xc Xs i (.buildSlice aC 3 #[(0,.tmp t0),(1,.tmp t1),(2,.tmp t2)],some d,ty,ds):=by
 intro L E w o ho tu ht hi dU J
 obtain ⟨a,a1,a2,a3,a4⟩:=J.all j0 _ h0 (dU j0 m0)
 obtain ⟨b,b1,b2,b3,b4⟩:=J.all j1 _ h1 (dU j1 m1)
 obtain ⟨c,c1,c2,c3,c4⟩:=J.all j2 _ h2 (dU j2 m2)
 rw [<-e0] at a1
 rw [<-e1] at b1
 rw [<-e2] at c1
 have hm:=vm (base:=base) (w:=w) (ts:=[a,b,c]) (n:=3) rfl (by omega) (Rt.oq (by simp [a3,b3,c3])) (by simp [Rt.gK];exact λz hz=>hz.elim (a4 z) (λhz=>hz.elim (b4 z) (c4 z))) (J.uL mf)
 refine IN (w':=w.alloc (.cells ([a,b,c].flatMap Rt.c).toArray aA)) (v:=.slice (some (bF w.heap.size)) 3 3) ho (by obtain ⟨_,op,_,_,_,_⟩:=o;simp only at ho;subst ho;simp [Env.fT,Op.operands,Env.val,a1,b1,c1]) ?_ ?_
 .rw [show (#[((0:Nat),Operand.tmp t0),(1,.tmp t1),(2,.tmp t2)].map λp=>(p.1,E.ev p.2))=#[((0:Nat),a.v),(1,b.v),(2,c.v)] by simp [mG a1,mG b1,mG c1]]
  exact PY a b c w
 .rw [tu]
  exact J.step (Fr.alloc _ _ _) hd hs ⟨⟨some (bF w.heap.size),3,3⟩,[a,b,c],rfl,by simp [Rt.bU,a2,b2,c2],hm.1,hm.2⟩
theorem PU {ty:TypeId} {ds:List Nat} (i d j0 j1 j2 j3 j4 j5 j6 j7:Nat) {t0 t1 t2 t3 t4 t5 t6 t7:Nat} {x0 x1 x2 x3 x4 x5 x6 x7:Rx} (hs:(fX Xa Xb Xc Xs)[i]? =some (.ls [x0,x1,x2,x3,x4,x5,x6,x7])) (h0:(fX Xa Xb Xc Xs)[j0]? =some (.tr x0)) (h1:(fX Xa Xb Xc Xs)[j1]? =some (.tr x1)) (h2:(fX Xa Xb Xc Xs)[j2]? =some (.tr x2)) (h3:(fX Xa Xb Xc Xs)[j3]? =some (.tr x3)) (h4:(fX Xa Xb Xc Xs)[j4]? =some (.tr x4)) (h5:(fX Xa Xb Xc Xs)[j5]? =some (.tr x5)) (h6:(fX Xa Xb Xc Xs)[j6]? =some (.tr x6)) (h7:(fX Xa Xb Xc Xs)[j7]? =some (.tr x7)) (m0:j0∈ds) (m1:j1∈ds) (m2:j2∈ds) (m3:j3∈ds) (m4:j4∈ds) (m5:j5∈ds) (m6:j6∈ds) (m7:j7∈ds) (hd:d=jd i:=by rfl) (e0:t0=jd j0:=by rfl) (e1:t1=jd j1:=by rfl) (e2:t2=jd j2:=by rfl) (e3:t3=jd j3:=by rfl) (e4:t4=jd j4:=by rfl) (e5:t5=jd j5:=by rfl) (e6:t6=jd j6:=by rfl) (e7:t7=jd j7:=by rfl):
  r8 w0 base kk Xa Xb Xc Xs i (.buildSlice aC 8 #[(0,.tmp t0),(1,.tmp t1),(2,.tmp t2),(3,.tmp t3),(4,.tmp t4),(5,.tmp t5),(6,.tmp t6),(7,.tmp t7)],some d,ty,ds):=by
 intro L E w o ho tu ht hi dU J
 obtain ⟨a,a1,a2,a3,a4⟩:=J.all j0 _ h0 (dU j0 m0)
 obtain ⟨b,b1,b2,b3,b4⟩:=J.all j1 _ h1 (dU j1 m1)
 obtain ⟨c,c1,c2,c3,c4⟩:=J.all j2 _ h2 (dU j2 m2)
 obtain ⟨q,q1,q2,q3,q4⟩:=J.all j3 _ h3 (dU j3 m3)
 obtain ⟨e,f1,f2,f3,f4⟩:=J.all j4 _ h4 (dU j4 m4)
 obtain ⟨g,g1,g2,g3,g4⟩:=J.all j5 _ h5 (dU j5 m5)
 obtain ⟨r,r1,r2,r3,r4⟩:=J.all j6 _ h6 (dU j6 m6)
 obtain ⟨s,s1,s2,s3,s4⟩:=J.all j7 _ h7 (dU j7 m7)
 rw [<-e0] at a1
 rw [<-e1] at b1
 rw [<-e2] at c1
 rw [<-e3] at q1
 rw [<-e4] at f1
 rw [<-e5] at g1
 rw [<-e6] at r1
 rw [<-e7] at s1
 have hm:=vm (base:=base) (w:=w) (ts:=[a,b,c,q,e,g,r,s]) (n:=8) rfl (by omega) (Rt.oq (by simp [a3,b3,c3,q3,f3,g3,r3,s3])) (by
  intro z hz
  obtain ⟨t,ht,hy⟩:=Rt.bD.1 hz
  clear hz
  simp only [cU,qnM,or_false] at ht
  rcases ht with rfl|rfl|rfl|rfl|rfl|rfl|rfl|rfl
  .exact a4 z hy
  .exact b4 z hy
  .exact c4 z hy
  .exact q4 z hy
  .exact f4 z hy
  .exact g4 z hy
  .exact r4 z hy
  .exact s4 z hy) (J.uL mf)
 refine IN (w':=w.alloc (.cells ([a,b,c,q,e,g,r,s].flatMap Rt.c).toArray aA)) (v:=.slice (some (bF w.heap.size)) 8 8) ho (by obtain ⟨_,op,_,_,_,_⟩:=o;simp only at ho;subst ho;simp [Env.fT,Op.operands,Env.val,a1,b1,c1,q1,f1,g1,r1,s1]) ?_ ?_
 .rw [show (#[((0:Nat),Operand.tmp t0),(1,.tmp t1),(2,.tmp t2),(3,.tmp t3),(4,.tmp t4),(5,.tmp t5),(6,.tmp t6),(7,.tmp t7)].map λp=>(p.1,E.ev p.2))=#[((0:Nat),a.v),(1,b.v),(2,c.v),(3,q.v),(4,e.v),(5,g.v),(6,r.v),(7,s.v)] by simp [mG a1,mG b1,mG c1,mG q1,mG f1,mG g1,mG r1,mG s1]]
  exact PZ a b c q e g r s w
 .rw [tu]
  exact J.step (Fr.alloc _ _ _) hd hs ⟨⟨some (bF w.heap.size),8,8⟩,[a,b,c,q,e,g,r,s],rfl,by simp [Rt.bU,a2,b2,c2,q2,f2,g2,r2,s2],hm.1,hm.2⟩
end
theorem W6 {o:Oper} {k:Int} {t:Nat} {s:Sl} {E:Env} {w:World} {K:Env->World->Prop} (hk:k=3\/k=4\/k=5\/k=6\/k=7) (ho:o.op=.build aA #[(0,.const (.int .i64 k)),(3,.tmp t)]) (ht:E.get? t=some s.v) (h:K (E.put o.dst (.agg #[.i k,.int .u8 0,.int .u8 0,s.v])) w):ov Tryz.prog o E w K:=by
 obtain ⟨dst,op,ty,pos,after,guard⟩:=o
 simp only at ho
 subst ho
 show iq Tryz.prog _ E (λv _=>K (E.put dst v) w)
 have hc:E.fT ⟨dst,.build aA #[(0,.const (.int .i64 k)),(3,.tmp t)],ty,pos,after,guard⟩=true:=by simp [Env.fT,Op.operands,Env.val,ht]
 unfold iq
 rw [hc]
 have e:execOp E.ev ⟨dst,.build aA #[(0,.const (.int .i64 k)),(3,.tmp t)],ty,pos,after,guard⟩=execOp (λx=>match x with |.const v=>v|_=>s.v) ⟨dst,.build aA #[(0,.const (.int .i64 k)),(3,.tmp t)],ty,pos,after,guard⟩:=by
  have:E.ev (.tmp t)=s.v:=mG ht
  have h2:E.ev (.const (.int .i64 k))=.int .i64 k:=by simp [Env.ev,Env.val]
  simp only [execOp,List.map_toArray,List.map_cons,List.map_nil,this,h2]
 rw [e]
 have e2:rr Tryz.prog (execOp (λx=>match x with |.const v=>v|_=>s.v) ⟨dst,.build aA #[(0,.const (.int .i64 k)),(3,.tmp t)],ty,pos,after,guard⟩)=some (.value (.agg #[.i k,.int .u8 0,.int .u8 0,s.v])):=by
  kernel_rfl
 rw [e2]
 exact h
theorem zp {ty:TypeId} {ds:List Nat} (k:Int) (hk:k=3\/k=4\/k=5\/k=6\/k=7) (i d j:Nat) {t:Nat} {l:List Rx} (hs:(fX Xa Xb Xc Xs)[i]? =some (.tr (.mk k 0 0 l))) (h0:(fX Xa Xb Xc Xs)[j]? =some (.ls l)) (m:j∈ds) (hd:d=jd i) (e0:t=jd j):r8 w0 base kk Xa Xb Xc Xs i (.build aA #[(0,.const (.int .i64 k)),(3,.tmp t)],some d,ty,ds):=by
 intro L E w o ho tu ht hi dU J
 obtain ⟨s,ts,a1,a2,a3,a4⟩:=J.all j _ h0 (dU j m)
 rw [<-e0] at a1
 refine W6 hk ho a1 ?_
 rw [tu]
 refine J.step (Fr.refl _ _) hd hs ⟨.mk k 0 0 s ts,rfl,by rw [<-a2];rfl,?_,λb hb=>a4 b ?_⟩
 .have:=fM.1 a3
  unfold Rt.P
  exact this
 .unfold Rt.fp at hb
  unfold eE Rt.fp
  exact hb
theorem vE {ty:TypeId} {ds:List Nat} (i d j:Nat) {t:Nat} {l:List Rx} (hs:(fX Xa Xb Xc Xs)[i]? =some (.tr (.mk 3 0 0 l))) (h0:(fX Xa Xb Xc Xs)[j]? =some (.ls l)) (m:j∈ds) (hd:d=jd i:=by rfl) (e0:t=jd j:=by rfl):r8 w0 base kk Xa Xb Xc Xs i (.build aA #[(0,.const (.int .i64 3)),(3,.tmp t)],some d,ty,ds):=zp 3 (by omega) i d j hs h0 m hd e0
theorem IC {ty:TypeId} {ds:List Nat} (i d j:Nat) {t:Nat} {l:List Rx} (hs:(fX Xa Xb Xc Xs)[i]? =some (.tr (.mk 4 0 0 l))) (h0:(fX Xa Xb Xc Xs)[j]? =some (.ls l)) (m:j∈ds) (hd:d=jd i:=by rfl) (e0:t=jd j:=by rfl):r8 w0 base kk Xa Xb Xc Xs i (.build aA #[(0,.const (.int .i64 4)),(3,.tmp t)],some d,ty,ds):=zp 4 (by omega) i d j hs h0 m hd e0
theorem PQ {ty:TypeId} {ds:List Nat} (i d j:Nat) {t:Nat} {l:List Rx} (hs:(fX Xa Xb Xc Xs)[i]? =some (.tr (.mk 5 0 0 l))) (h0:(fX Xa Xb Xc Xs)[j]? =some (.ls l)) (m:j∈ds) (hd:d=jd i:=by rfl) (e0:t=jd j:=by rfl):r8 w0 base kk Xa Xb Xc Xs i (.build aA #[(0,.const (.int .i64 5)),(3,.tmp t)],some d,ty,ds):=zp 5 (by omega) i d j hs h0 m hd e0
theorem ID {ty:TypeId} {ds:List Nat} (i d j:Nat) {t:Nat} {l:List Rx} (hs:(fX Xa Xb Xc Xs)[i]? =some (.tr (.mk 6 0 0 l))) (h0:(fX Xa Xb Xc Xs)[j]? =some (.ls l)) (m:j∈ds) (hd:d=jd i:=by rfl) (e0:t=jd j:=by rfl):r8 w0 base kk Xa Xb Xc Xs i (.build aA #[(0,.const (.int .i64 6)),(3,.tmp t)],some d,ty,ds):=zp 6 (by omega) i d j hs h0 m hd e0
theorem PR {ty:TypeId} {ds:List Nat} (i d j:Nat) {t:Nat} {l:List Rx} (hs:(fX Xa Xb Xc Xs)[i]? =some (.tr (.mk 7 0 0 l))) (h0:(fX Xa Xb Xc Xs)[j]? =some (.ls l)) (m:j∈ds) (hd:d=jd i:=by rfl) (e0:t=jd j:=by rfl):r8 w0 base kk Xa Xb Xc Xs i (.build aA #[(0,.const (.int .i64 7)),(3,.tmp t)],some d,ty,ds):=zp 7 (by omega) i d j hs h0 m hd e0
theorem Uh {ty:TypeId} {ds:List Nat} (i d j:Nat) {t:Nat} {l:List Rx} (hs:(fX Xa Xb Xc Xs)[i]? =some (.ls l)) (h0:(fX Xa Xb Xc Xs)[j]? =some (.ls l)) (m:j∈ds) (hd:d=jd i:=by rfl) (e0:t=jd j:=by rfl):r8 w0 base kk Xa Xb Xc Xs i (.assign (.tmp t),some d,ty,ds):=by
 intro L E w o ho tu ht hi dU J
 obtain ⟨s,ts,a1,a2,a3,a4⟩:=J.all j _ h0 (dU j m)
 rw [<-e0] at a1
 refine vH (.inr ho) a1 ?_
 rw [tu]
 exact J.step (Fr.refl _ _) hd hs ⟨s,ts,rfl,a2,a3,a4⟩
theorem Nc {ds:List Nat} (mf:base<=w0.heap.size) (i d:Nat) (hs:(fX Xa Xb Xc Xs)[i]? =some (.tr fD)) (hd:d=jd i:=by rfl):r8 w0 base kk Xa Xb Xc Xs i (.call ⟨.value (.func bR),#[],#[]⟩,some d,aA,ds):=by
 intro L E w o ho tu ht hi dU J
 obtain ⟨dst,op,ty,pos,after,guard⟩:=o
 simp only at ho tu ht
 subst ho
 subst tu
 subst ht
 have hc:E.fT ⟨some d,.call ⟨.value (.func bR),#[],#[]⟩,aA,pos,after,guard⟩=true:=by simp [Env.fT,Op.operands,Call.operands,Env.val]
 have A6:fC Tryz.prog bR=true:=by kernel_rfl
 have XF:calm Tryz.prog ⟨some d,.call ⟨.value (.func bR),#[],#[]⟩,aA,pos,after,guard⟩=false:=rfl
 unfold ov
 rw [XF,cond_false]
 unfold me
 dsimp only
 rw [hc,A6]
 simp only [List.map_toArray,List.map_nil,cond_true]
 refine (show tV Tryz.prog bR #[] (zeroOf Tryz.prog aA) w (λv w'=>JT w0 base kk Xa Xb Xc Xs (ji L i) (E.put (some d) v) w') from ?_)
 refine (BT w).mono ?_
 rintro _ w' ⟨⟨t,rfl,h2,h3,h4⟩,f⟩
 have e:u9 (zeroOf Tryz.prog aA) (λv=>Ending.returned t.v=.returned v/\JT w0 base kk Xa Xb Xc Xs (ji L i) (E.put (some d) v) w')=∃n0:Int,∃n1:Int,∃n2:Int,∃n3:Sl,Ending.returned t.v=.returned (.agg #[.int .i64 n0,.int .u8 n1,.int .u8 n2,n3.v])/\JT w0 base kk Xa Xb Xc Xs (ji L i) (E.put (some d) (.agg #[.int .i64 n0,.int .u8 n1,.int .u8 n2,n3.v])) w':=by kernel_rfl
 rw [e]
 exact ⟨t.k,t.lo.toNat,t.hi.toNat,t.s,rfl,J.step f hd hs ⟨t,rfl,h2,h3,λb hb=>Nat.le_trans (J.uL mf) (h4 b hb)⟩⟩
def Xm:List (Op×Option Nat×TypeId×List Nat):=[(.load aA (.tmp 5),some 39,aA,[]),
 (.load aA (.tmp 5),some 40,aA,[]),
 (.load aA (.tmp 6),some 41,aA,[]),
 (.buildSlice aC 2 #[(0,.tmp 40),(1,.tmp 41)],some 42,aC,[1,2]),
 (.build aA #[(0,.const (.int .i64 3)),(3,.tmp 42)],some 43,aA,[3]),
 (.load aA (.tmp 5),some 44,aA,[]),
 (.load aA (.tmp 6),some 45,aA,[]),
 (.load aA (.tmp 7),some 46,aA,[]),
 (.buildSlice aC 3 #[(0,.tmp 44),(1,.tmp 45),(2,.tmp 46)],some 47,aC,[5,6,7]),
 (.build aA #[(0,.const (.int .i64 4)),(3,.tmp 47)],some 48,aA,[8]),
 (.load aA (.tmp 8),some 49,aA,[]),
 (.load aA (.tmp 8),some 50,aA,[]),
 (.load aA (.tmp 6),some 51,aA,[]),
 (.buildSlice aC 2 #[(0,.tmp 50),(1,.tmp 51)],some 52,aC,[11,12]),
 (.build aA #[(0,.const (.int .i64 3)),(3,.tmp 52)],some 53,aA,[13]),
 (.load aA (.tmp 5),some 54,aA,[]),
 (.load aA (.tmp 6),some 55,aA,[]),
 (.buildSlice aC 2 #[(0,.tmp 54),(1,.tmp 55)],some 56,aC,[15,16]),
 (.build aA #[(0,.const (.int .i64 3)),(3,.tmp 56)],some 57,aA,[17]),
 (.buildSlice aC 1 #[(0,.tmp 57)],some 58,aC,[18]),
 (.build aA #[(0,.const (.int .i64 6)),(3,.tmp 58)],some 59,aA,[19]),
 (.load aA (.tmp 6),some 60,aA,[]),
 (.load aA (.tmp 5),some 61,aA,[]),
 (.load aA (.tmp 7),some 62,aA,[]),
 (.buildSlice aC 2 #[(0,.tmp 61),(1,.tmp 62)],some 63,aC,[22,23]),
 (.build aA #[(0,.const (.int .i64 4)),(3,.tmp 63)],some 64,aA,[24]),
 (.buildSlice aC 1 #[(0,.tmp 64)],some 65,aC,[25]),
 (.build aA #[(0,.const (.int .i64 7)),(3,.tmp 65)],some 66,aA,[26]),
 (.buildSlice aC 2 #[(0,.tmp 60),(1,.tmp 66)],some 67,aC,[21,27]),
 (.build aA #[(0,.const (.int .i64 3)),(3,.tmp 67)],some 68,aA,[28]),
 (.load aA (.tmp 6),some 69,aA,[]),
 (.buildSlice aC 1 #[(0,.tmp 69)],some 70,aC,[30]),
 (.build aA #[(0,.const (.int .i64 6)),(3,.tmp 70)],some 71,aA,[31]),
 (.load aA (.tmp 5),some 72,aA,[]),
 (.call ⟨.value (.func bR),#[],#[]⟩,some 73,aA,[]),
 (.buildSlice aC 2 #[(0,.tmp 72),(1,.tmp 73)],some 74,aC,[33,34]),
 (.build aA #[(0,.const (.int .i64 3)),(3,.tmp 74)],some 75,aA,[35]),
 (.buildSlice aC 2 #[(0,.tmp 71),(1,.tmp 75)],some 76,aC,[32,36]),
 (.build aA #[(0,.const (.int .i64 5)),(3,.tmp 76)],some 77,aA,[37]),
 (.buildSlice aC 8 #[(0,.tmp 39),(1,.tmp 43),(2,.tmp 48),(3,.tmp 49),(4,.tmp 53),(5,.tmp 59),(6,.tmp 68),(7,.tmp 77)],some 78,aC,[0,4,9,10,14,20,29,38]),
 (.assign (.tmp 78),some 9,aC,[39,34,0,1,2,3,4,5,6,7,8,9,10,11,12,13,14,15,16,17,18,19,20,21,22,23,24,25,26,27,28,29,30,31,32,33,34,35,36,37,38,39])]
theorem WX (mf:base<=w0.heap.size):allI (Od Tryz.prog (JT w0 base kk Xa Xb Xc Xs)) Xm 0:=
 ⟨(th 0 39 rfl),
  (th 1 40 rfl),
  (ti 2 41 rfl),
  (ry mf 3 42 1 2 rfl rfl rfl (by simp) (by simp)),
  (vE 4 43 3 rfl rfl (by simp)),
  (th 5 44 rfl),
  (ti 6 45 rfl),
  (IE 7 46 rfl),
  (PT mf 8 47 5 6 7 rfl rfl rfl rfl (by simp) (by simp) (by simp)),
  (IC 9 48 8 rfl rfl (by simp)),
  (IF 10 49 rfl),
  (IF 11 50 rfl),
  (ti 12 51 rfl),
  (ry mf 13 52 11 12 rfl rfl rfl (by simp) (by simp)),
  (vE 14 53 13 rfl rfl (by simp)),
  (th 15 54 rfl),
  (ti 16 55 rfl),
  (ry mf 17 56 15 16 rfl rfl rfl (by simp) (by simp)),
  (vE 18 57 17 rfl rfl (by simp)),
  (Cu mf 19 58 18 rfl rfl (by simp)),
  (ID 20 59 19 rfl rfl (by simp)),
  (ti 21 60 rfl),
  (th 22 61 rfl),
  (IE 23 62 rfl),
  (ry mf 24 63 22 23 rfl rfl rfl (by simp) (by simp)),
  (IC 25 64 24 rfl rfl (by simp)),
  (Cu mf 26 65 25 rfl rfl (by simp)),
  (PR 27 66 26 rfl rfl (by simp)),
  (ry mf 28 67 21 27 rfl rfl rfl (by simp) (by simp)),
  (vE 29 68 28 rfl rfl (by simp)),
  (ti 30 69 rfl),
  (Cu mf 31 70 30 rfl rfl (by simp)),
  (ID 32 71 31 rfl rfl (by simp)),
  (th 33 72 rfl),
  (Nc mf 34 73 rfl),
  (ry mf 35 74 33 34 rfl rfl rfl (by simp) (by simp)),
  (vE 36 75 35 rfl rfl (by simp)),
  (ry mf 37 76 32 36 rfl rfl rfl (by simp) (by simp)),
  (PQ 38 77 37 rfl rfl (by simp)),
  (PU mf 39 78 0 4 9 10 14 20 29 38 rfl rfl rfl rfl rfl rfl rfl rfl rfl (by simp) (by simp) (by simp) (by simp) (by simp) (by simp) (by simp) (by simp)),
  (Uh 40 9 39 rfl rfl (by simp)),trivial⟩
end
def wj (k:Nat):Rx:=Gf (fS (k%6)) (fS (k / 6%6)) (fS (k / 36%6)) (k / 216%8)
def MU (k:Nat):Bool:=dT (wj k)&&Nat.ble (wj k).sz 1000&&okW (gl (wj k))&&Nat.ble (gl (wj k)).sz 1000
theorem GI:(List.range 1728).all MU=true:=by kernel_rfl
theorem HU (k:Nat):wj k=wj (k%1728):=by
 unfold wj
 rw [show k%1728%6=k%6 by omega,show k%1728 / 6%6=k / 6%6 by omega,show k%1728 / 36%6=k / 36%6 by omega,show k%1728 / 216%8=k / 216%8 by omega]
theorem Qq (k:Nat):dT (wj k)=true/\(wj k).sz<=1000/\okW (gl (wj k))=true/\(gl (wj k)).sz<=1000:=by
 rw [HU]
 have:=qaT.1 GI (k%1728) (List.mem_range.2 (Nat.mod_lt _ (by omega)))
 unfold MU at this
 simp only [Bool.and_eq_true] at this
 exact ⟨this.1.1.1,Nat.le_of_ble_eq_true this.1.1.2,this.1.2,Nat.le_of_ble_eq_true this.2⟩
theorem E6 (k:Nat):qj k=gJ (gl (wj k)):=rfl
theorem wR (k:Nat):qj k=qj (k%1728):=by rw [E6,E6,HU]
theorem OB:(List.range 1728).all (λk=>BZ (qj k)==some true)=true:=by kernel_rfl
theorem Lx (k:Nat):BZ (qj k)=some true:=by
 rw [wR]
 exact eq_of_beq (qaT.1 OB (k%1728) (List.mem_range.2 (Nat.mod_lt _ (by omega))))
theorem Lg (n m:Int) (w:World) (hm:1<=m) (h:ow n):Calls Tryz.prog aS #[.i n,.i m] w λr w'=>r=.returned (.i (dG n m))/\bI w w':=(yj n m w hm h).mono λr w' h=>⟨h.1,h.2▸Fr.refl _ _⟩
def K7 (ev:Rt):List Rt:=[sI 2 97 97,sI 2 98 98,sI 2 0 0,sI 2 97 98,sI 1 0 0,ev]
theorem yo (ev:Rt) (uB:ev.rx=fD) {i:Nat} (hi:i<6):∃t,(K7 ev)[i]? =some t/\t.rx=fS i/\(t=ev\/∀w:World,t.P w/\∀b,¬b∈t.fp):=by
 have:i=0\/i=1\/i=2\/i=3\/i=4\/i=5:=by omega
 rcases this with rfl|rfl|rfl|rfl|rfl|rfl
 .exact ⟨_,rfl,rfl,.inr λw=>⟨ue _ _ _ w,λb=>rj⟩⟩
 .exact ⟨_,rfl,rfl,.inr λw=>⟨ue _ _ _ w,λb=>rj⟩⟩
 .exact ⟨_,rfl,rfl,.inr λw=>⟨ue _ _ _ w,λb=>rj⟩⟩
 .exact ⟨_,rfl,rfl,.inr λw=>⟨ue _ _ _ w,λb=>rj⟩⟩
 .exact ⟨_,rfl,rfl,.inr λw=>⟨ue _ _ _ w,λb=>rj⟩⟩
 .exact ⟨ev,rfl,uB,.inl rfl⟩
theorem L9 (a b c:Rx) {i:Nat} (hi:i<8):[a,.mk 3 0 0 [a,b],.mk 4 0 0 [a,b,c],.mk 7 0 0 [a],.mk 3 0 0 [.mk 7 0 0 [a],b],.mk 6 0 0 [.mk 3 0 0 [a,b]],.mk 3 0 0 [b,.mk 7 0 0 [.mk 4 0 0 [a,c]]],.mk 5 0 0 [.mk 6 0 0 [b],.mk 3 0 0 [a,fD]]][i]? =some (Gf a b c i):=by
 have:i=0\/i=1\/i=2\/i=3\/i=4\/i=5\/i=6\/i=7:=by omega
 rcases this with rfl|rfl|rfl|rfl|rfl|rfl|rfl|rfl<;>rfl
theorem IZ (k m:Nat) (hm:0<m):Int.tmod (k:Int) (m:Int)=((k%m:Nat):Int):=by
 rw [Int.tmod_eq_emod_of_nonneg (by omega)];omega
theorem NB (k m:Nat) (hk:k<=1048576):IntKind.wrap .i64 (Int.tdiv (k:Int) (m:Int))=((k / m:Nat):Int):=by
 have h:Int.tdiv (k:Int) (m:Int)=((k / m:Nat):Int):=by
  rw [Int.tdiv_eq_ediv_of_nonneg (by omega)];rfl
 have h2:k / m<=k:=Nat.div_le_self k m
 rw [h]
 generalize k / m=q at h2
 rw [IntWalk.i64_in _ (by omega)]
section
variable {w Fz:World} {R:aD} {K:Nat}
theorem NI (hK:K<=1048576) {s:Sl} {ts:List Rt} {w':World} (h1:Rt.bU ts=[fS (K%6),.mk 3 0 0 [fS (K%6),fS (K / 6%6)],.mk 4 0 0 [fS (K%6),fS (K / 6%6),fS (K / 36%6)],.mk 7 0 0 [fS (K%6)],.mk 3 0 0 [.mk 7 0 0 [fS (K%6)],fS (K / 6%6)],.mk 6 0 0 [.mk 3 0 0 [fS (K%6),fS (K / 6%6)]],.mk 3 0 0 [fS (K / 6%6),.mk 7 0 0 [.mk 4 0 0 [fS (K%6),fS (K / 36%6)]]],.mk 5 0 0 [.mk 6 0 0 [fS (K / 6%6)],.mk 3 0 0 [fS (K%6),fD]]])
  (hp:(eE s ts).P w') (f:bI w w'):enthymemeref04_TextI.T9 s (K:Int) w' λr w'=>r=.returned (.string (ba (qj K)))/\bI w w':=by
 have hn:=Rt.cC (fM.1 hp).1
 have hl:ts.length=8:=by
  have:=congrArg List.length h1
  rw [Rt.eW,List.length_map] at this
  simpa using this
 show (0:Int)<=Int.tmod (IntKind.wrap .i64 (Int.tdiv (K:Int) ((216:Nat):Int))) ((8:Nat):Int)/\Int.tmod (IntKind.wrap .i64 (Int.tdiv (K:Int) ((216:Nat):Int))) ((8:Nat):Int)<((s.n:Nat):Int)/\aX s.a λp=>cB w' (p.add (Int.toNat (Int.tmod (IntKind.wrap .i64 (Int.tdiv (K:Int) ((216:Nat):Int))) ((8:Nat):Int)) *4)) _
 rw [NB K 216 hK,IZ _ 8 (by omega)]
 have hi:K / 216%8<8:=Nat.mod_lt _ (by omega)
 have hg:ts[K / 216%8]? =some (ts[K / 216%8]'(by omega)):=gW (by omega)
 generalize ts[K / 216%8]'(by omega)=t at hg
 have ht:t.rx=wj K:=by
  have h2:=L9 (fS (K%6)) (fS (K / 6%6)) (fS (K / 36%6)) hi
  rw [<-h1,Rt.eW,List.getElem?_map,hg] at h2
  exact Option.some.inj h2
 obtain ⟨g1,g2,g3,g4⟩:=Qq K
 rw [<-ht] at g1 g2 g3 g4
 have pt:t.P w':=(fM.1 hp).2.get hg
 refine ⟨by omega,by omega,Rt.at' (fM.1 hp).1 hg λp hp c=>⟨_,_,_,_,c.c0,c.c1,c.c2,c.c3,(Dt t w' (by rw [<-Rt.g9];exact g2) g1 pt).mono ?_⟩⟩
 rintro _ w1 ⟨⟨u,rfl,hu,pu,_⟩,f1⟩
 rw [<-hu] at g3 g4
 refine ⟨_,_,_,u.s,rfl,(Hx u 0 w1 (by rw [<-Rt.g9];omega) (by omega) g3 pu).mono ?_⟩
 rintro _ w2 ⟨rfl,f2⟩
 refine ⟨_,rfl,?_,(f.Ab f1).Ab f2⟩
 have e:cP 0 u.rx (gJ u.rx)=gJ u.rx:=by unfold cP;rw [if_neg (by omega)]
 rw [e,hu,ht]
 rfl
end
theorem Of {s:Sl} {k:Int} {w:World} {R R':aD} (h:enthymemeref04_TextI.T9 s k w R) (hr:∀r w',R r w'->R' r w'):enthymemeref04_TextI.T9 s k w R':=
 ⟨h.1,h.2.1,MX h.2.2 λp ⟨a,b,c,d,h0,h1,h2,h3,hc⟩=>⟨a,b,c,d,h0,h1,h2,h3,hc.mono λr w1 ⟨e,f,g,i,he,hw⟩=>⟨e,f,g,i,he,hw.mono λr w2 ⟨t,ht,hR⟩=>⟨t,ht,hr _ _ hR⟩⟩⟩⟩
theorem SV (n:Int) (hn:ow n) (w:World):Calls Tryz.prog kE #[.i n] w λr w'=>(∃k:Nat,r=.returned (.string (ba (qj k))))/\bI w w':=by
 have hr:=cR n 1048576 (by omega)
 obtain ⟨K,hK⟩:∃K:Nat,dG n 1048576=(K:Int):=⟨(dG n 1048576).toNat,by omega⟩
 have YX:K<=1048576:=by omega
 have H:LH F0 w w [] []:=mu [] (by simp)
 refine enthymemeref04_TextI.ok n w _ (H.call (Lg n 1048576 w (by omega) hn) ?_)
 rintro _ w1 rfl H1
 refine ⟨_,rfl,H1.Dv (BT w1) ?_⟩
 rintro _ w2 ⟨ev,rfl,uB,pev,fev⟩ _ F2
 have H2:=F2.rd (.tree ev) pev λb hb=>fev b (aI.1 hb)
 rw [hK]
 have em:=IZ K 6 (by omega)
 have ed6:=NB K 6 YX
 have VM:=NB K 36 YX
 have em6:=IZ (K / 6) 6 (by omega)
 have VO:=IZ (K / 36) 6 (by omega)
 have c6:((6:Nat):Int)=6:=rfl
 have c36:((36:Nat):Int)=36:=rfl
 rw [c6] at em ed6 em6 VO
 rw [c36] at VM
 rw [em,ed6,VM,em6,VO]
 obtain ⟨ta,ga,ra,xa⟩:=yo ev uB (i:=K%6) (Nat.mod_lt _ (by omega))
 obtain ⟨tb,gb,rb,xb⟩:=yo ev uB (i:=K / 6%6) (Nat.mod_lt _ (by omega))
 obtain ⟨tc,gc,rc,xc⟩:=yo ev uB (i:=K / 36%6) (Nat.mod_lt _ (by omega))
 have la:K%6<6:=Nat.mod_lt _ (by omega)
 have lb:K / 6%6<6:=Nat.mod_lt _ (by omega)
 have lc:K / 36%6<6:=Nat.mod_lt _ (by omega)
 have P:∀t:Rt,(t=ev\/∀w:World,t.P w/\∀b,¬b∈t.fp)->(∀w':World,ev.P w'->t.P w')/\∀b∈t.fp,w.heap.size<=b:=λt h=>by
  rcases h with rfl|h
  .exact ⟨λ_ h=>h,λb hb=>Nat.le_trans H1.fr.size (fev b hb)⟩
  .exact ⟨λw' _=>(h w').1,λb hb=>((h w).2 b hb).elim⟩
 refine ⟨_,_,_,ev.s,rfl,H2.iH (n:=6) (sz:=4) (cs:=(K7 ev).flatMap Rt.c) rfl (by decide) λw3 H3=>?_⟩
 refine ⟨by omega,by omega,Rt.at' (s:=⟨some (bF w2.heap.size),6,6⟩) (H3.get 0:aP _ _ _ _ _).jh ga λp hp c=>?_⟩
 refine ⟨_,_,_,_,c.c0,c.c1,c.c2,c.c3,H3.nw λw4 _ H4=>H4.CD 1 rfl λw8 H8=>?_⟩
 refine ⟨by omega,by omega,Rt.at' (s:=⟨some (bF w2.heap.size),6,6⟩) (H8.get 0:aP _ _ _ _ _).jh gb λp hp c=>?_⟩
 refine ⟨_,_,_,_,c.c0,c.c1,c.c2,c.c3,H8.nw λw9 _ H9=>H9.CD 2 rfl λuD ux=>?_⟩
 refine ⟨by omega,by omega,Rt.at' (s:=⟨some (bF w2.heap.size),6,6⟩) (ux.get 0:aP _ _ _ _ _).jh gc λp hp c=>?_⟩
 refine ⟨_,_,_,_,c.c0,c.c1,c.c2,c.c3,ux.nw λC' _ uy=>uy.CD 3 rfl λKG Fi=>?_⟩
 refine ⟨_,_,_,ta.s,Fi.ld 1 0,Fi.ld 1 1,Fi.ld 1 2,Fi.ld 1 3,Fi.iH (n:=1) (sz:=4) (cs:=[ta].flatMap Rt.c) rfl (by decide) λSk QH=>QH.nw λX8 _ UP=>UP.CD 5 rfl λFz FC=>?_⟩
 have pa:=P ta xa
 have pb:=P tb xb
 have pc:=P tc xc
 have ps:(Rt.mk 7 0 0 ⟨some (bF KG.heap.size),1,1⟩ [ta]).P Fz:=by
  unfold Rt.P
  exact ⟨(FC.get 4:aP _ _ _ _ _).jh,Rt.oq (by simp;exact pa.1 Fz (FC.getD 0))⟩
 have fr:bI w Fz:=FC.fr
 refine Mx Xm (by kernel_rfl) (JT Fz w.heap.size (K:Int) (fS (K%6)) (fS (K / 6%6)) (fS (K / 36%6)) (.mk 7 0 0 [fS (K%6)])) ?_ (WX fr.size) ?_
 .refine ⟨Fr.drew _ _,rfl,?_,?_,?_,?_,λi sp hs hL=>by cases hL⟩
  .exact tO.oR (w:=Fz) ⟨w3.heap.size,ta,rfl,FC.ob 1,ra,pa.1 Fz (FC.getD 0),pa.2⟩ (Fr.drew _ _)
  .exact tO.oR (w:=Fz) ⟨w8.heap.size,tb,rfl,FC.ob 2,rb,pb.1 Fz (FC.getD 0),pb.2⟩ (Fr.drew _ _)
  .exact tO.oR (w:=Fz) ⟨uD.heap.size,tc,rfl,FC.ob 3,rc,pc.1 Fz (FC.getD 0),pc.2⟩ (Fr.drew _ _)
  .refine tO.oR (w:=Fz) ⟨Sk.heap.size,.mk 7 0 0 ⟨some (bF KG.heap.size),1,1⟩ [ta],rfl,FC.ob 5,?_,ps,Cm (λb hb=>?_) pa.2⟩ (Fr.drew _ _)
   .rw [<-ra];rfl
   .simp only [bC,cU,qnM,or_false] at hb
    rw [hb];exact Fi.fr.size
 .intro L E w' hL J
  obtain ⟨s,ts,h1,h2,h3,_⟩:=J.all 40 _ rfl (hL 40 (by decide))
  refine ⟨s,(K:Int),h1,J.k,?_⟩
  refine Of (NI YX h2 h3 (fr.Ab J.fr)) λr tq h=>⟨⟨K,h.1⟩,h.2⟩
theorem Pl:(List.range 1728).all (λk=>Nat.ble (qj k).length 64)=true:=by kernel_rfl
theorem E7 (k:Nat):(qj k).length<=64:=by
 rw [wR]
 exact Nat.le_of_ble_eq_true (qaT.1 Pl (k%1728) (List.mem_range.2 (Nat.mod_lt _ (by omega))))
end Go.Proofs.YtcifihepfadgfaaGreatDoor
