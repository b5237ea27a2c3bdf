import Derived.Test.YtcifihepfadgfaaGreatDoorW
import Derived.Test.YtcifihepfadgfaaGreatDoorR1
import Derived.Test.YtcifihepfadgfaaGreatDoorG1
import Derived.Test.YtcifihepfadgfaaGreatDoorV
set_option linter.unusedVariables false
namespace Go.Proofs.YtcifihepfadgfaaGreatDoor
open List renaming mem_append->fS,mem_cons->cS,not_mem_nil->fF,mem_of_getElem?->cR,getElem?_eq_getElem->g8,length_append->qq,length_cons->GM,length_nil->JH,all_eq_true->wD
open Go Go.W
section
variable {M:Nat->Prop} {w0 w:World} {L D:List En} {bs:List Nat}
theorem IU (w:World) (pb:Nat) (vs:List Value) (ty:TypeId) (b:Nat):¬(En.c pb vs ty).P ({w with heap:=Array.replicate (b+1) (.map #[] 0)}):=by
 intro h
 have h:({w with heap:=Array.replicate (b+1) (.map #[] 0)}:World).heap[pb]? =some (.cells vs.toArray ty (0,0)):=h
 simp [Array.getElem?_replicate] at h
theorem Hg {pb:Nat} {vs:List Value} {ty:TypeId} {b:Nat}:b∈(En.c pb vs ty).fp↔b=pb:=by simp [En.c,En.ob]
theorem _root_.Go.W.LH.RH {pb:Nat} {vs:List Value} {ty:TypeId} (H:LH M w0 w (.c pb vs ty::L) D) {w':World} (f:Fr (·=pb) w w') {AL:List Value} (h:w'.heap[pb]? =some (.cells AL.toArray ty (0,0))):
  LH M w0 w' (.c pb AL ty::L) D/\∀e:En,e.P w'->(∀b∈e.fp,w.heap.size<=b)->LH M w0 w' (.c pb AL ty::L) (D++[e]):=by
 have H':LH M w0 w' (.c pb AL ty::L) D:=H.WX 0 f h
 refine ⟨H',λe he hf=>⟨H'.fr,H'.own,λd hd=>?_,H'.new,H'.nd,λd hd b hb e' mG eG=>?_⟩⟩
 .rcases fS.1 hd with hd|hd
  .exact H'.rd d hd
  .simp at hd;subst hd;exact he
 .rcases fS.1 hd with hd|hd
  .exact H'.dj d hd b hb e' mG eG
  .simp at hd;subst hd
   have h1:=hf b hb
   have h2:b<w.heap.size:=by
    rcases cS.1 mG with rfl|mG
    .have eG:=Hg.1 eG
     have:=(En.c pb vs ty).lt w (H.get 0) pb (Hg.2 rfl)
     omega
    .exact e'.lt w (H.own e' (List.mem_cons_of_mem _ mG)) b eG
   omega
theorem _root_.Go.W.LH.zn {pb:Nat} {vs:List Value} {ty:TypeId} (H:LH M w0 w (.c pb vs ty::L) D) {P:Program} {g:FuncId} {args:Array Value} {A:aD} {AL:List Value} {K:aD} (hc:Calls P g args w λr w'=>(A r w'/\w'.heap[pb]? =some (.cells AL.toArray ty (0,0)))/\Fr (·=pb) w w')
  (hk:∀r w',A r w'->LH M w0 w' (.c pb AL ty::L) D->(∀e:En,e.P w'->(∀b∈e.fp,w.heap.size<=b)->LH M w0 w' (.c pb AL ty::L) (D++[e]))->K r w'):Calls P g args w K:=
 hc.mono λr w' ⟨⟨ha,h⟩,f⟩=>hk r w' ha (H.RH f h).1 (H.RH f h).2
theorem _root_.Go.W.LH.kM {pb:Nat} {vs:List Value} {ty:TypeId} (H:LH M w0 w (.c pb vs ty::L) D) {P:Program} {g:FuncId} {args:Array Value} {A:aD} {AL:List Value} {K:aD} (hc:Calls P g args w λr w'=>(A r w'/\w'.heap[pb]? =some (.cells AL.toArray ty (0,0)))/\Fr (·=pb) w w')
  (hk:∀r w',A r w'->LH M w0 w' (.c pb AL ty::L) D->(∀e:En,e.P w'->(∀b∈e.fp,w.heap.size<=b)->LH M w0 w' (.c pb AL ty::L) (D++[e]))->K r w') (ke:∀b∈bs,En.g b∈(En.c pb vs ty::L):=by simp):fE bs P g args w K:=
 ⟨(·=pb),λb hb hm=>oB H (i:=0) rfl (IU w pb vs ty) (ke b hb) (by rw [hm];exact Hg.2 rfl),hc.mono λr w' ⟨⟨ha,h⟩,f⟩=>⟨f,hk r w' ha (H.RH f h).1 (H.RH f h).2⟩⟩
end
theorem k8 {s:ByteArray} {i:Nat} (h:i<s.size):s[i]? =some (gQ (bl s) i):=by
 rw [getElem?_pos s i h]
 unfold gQ
 rw [List.getD_eq_getElem?_getD,g8 (show i<(bl s).length by rw [iS];exact h)]
 rfl
theorem OO {x:UInt8} {n:Nat} {A B:Prop} (hn:n<256) (h1:(x==UInt8.ofNat n)=true->A) (h2:(x==UInt8.ofNat n)=false->B):aG (((x.toNat:Nat):Int)==(n:Int)) A B:=by
 have e:x.toNat=n↔x=UInt8.ofNat n:=by
  rw [<-UInt8.toNat_inj,UInt8.toNat_ofNat']
  omega
 refine aJ (λh=>h1 (by rw [beq_iff_eq,<-e];omega)) (λh=>h2 (by rw [beq_eq_false_iff_ne,Ne,<-e];omega))
theorem Gt {x:UInt8} {n:Nat} {A B:Prop} (hn:n<256) (h1:(x==UInt8.ofNat n)=false->A) (h2:(x==UInt8.ofNat n)=true->B):aG (((x.toNat:Nat):Int) !=(n:Int)) A B:=by
 have e:x.toNat=n↔x=UInt8.ofNat n:=by
  rw [<-UInt8.toNat_inj,UInt8.toNat_ofNat']
  omega
 refine dX (λh=>h1 (by rw [beq_eq_false_iff_ne,Ne,<-e];omega)) (λh=>h2 (by rw [beq_iff_eq,<-e];omega))
theorem Mh {p:UInt8->Prop} (h:∀x:Fin 256,p (UInt8.ofNat x.val)) (c:UInt8):p c:=by
 have:=h ⟨c.toNat,c.toNat_lt⟩
 simpa using this
theorem Uw:∀n:Fin 16,(ByteArray.mk #[48,49,50,51,52,53,54,55,56,57,97,98,99,100,101,102])[n.val]? =some (sJ n.val):=by decide+kernel
theorem zk (n:Nat) (h:n<16) (w:World):Calls Tryz.prog gw #[.i (n:Int)] w λr w'=>r=.returned (.int .u8 ((sJ n).toNat:Int))/\bG w w':=
 enthymemeref04_digit.ok _ w _ ⟨by omega,_,Uw ⟨n,h⟩,rfl,Fr.refl _ _⟩
theorem El (c:UInt8) (w:World):Calls Tryz.prog ik #[.int .u8 (c.toNat:Int)] w λr w'=>r=.returned (.bool (O5 c))/\bG w w':=by
 refine enthymemeref04_plain.ok _ w _ (aN (λh1=>aN (λh2=>Gt (n:=39) (by omega) (λh3=>⟨?_,Fr.refl _ _⟩) (λh3=>⟨?_,Fr.refl _ _⟩)) (λh2=>⟨?_,Fr.refl _ _⟩)) (λh1=>⟨?_,Fr.refl _ _⟩))
 .have e:(((c.toNat:Nat):Int) !=92)= !(c==92):=by
   have:=@Gt c 92 (((((c.toNat:Nat):Int) !=92)=true)/\(c==92)=false) (((((c.toNat:Nat):Int) !=92)=false)/\(c==92)=true)
   cases h:(((c.toNat:Nat):Int) !=92) with
   |true=>
    have h':c≠92:=λe=>by subst e;exact absurd h (by decide)
    rw [beq_eq_false_iff_ne.2 h'];rfl
   |false=>
    have h':c=92:=by
     rw [<-UInt8.toNat_inj]
     have:=(bne_eq_false_iff_eq.1 h)
     show c.toNat=92
     omega
    subst h';rfl
  rw [e]
  unfold O5
  rw [decide_eq_true (show 32<=c.toNat by omega),decide_eq_true (show c.toNat<=126 by omega)]
  have h3:(c==39)=false:=h3
  rw [h3];rfl
 .have h3:(c==39)=true:=h3
  unfold O5
  rw [h3];simp
 .unfold O5
  rw [decide_eq_false (show ¬c.toNat<=126 by omega)];simp
 .unfold O5
  rw [decide_eq_false (show ¬32<=c.toNat by omega)];simp
theorem QP:∀n:Fin 16,pW (sJ n.val)=(n.val:Int):=by decide+kernel
theorem Vj:∀x:Fin 256,pW (UInt8.ofNat x.val)=-1\/∃n:Fin 16,sJ n.val=UInt8.ofNat x.val:=by decide+kernel
theorem Vi:∀x:Fin 256,pW (UInt8.ofNat x.val)<16:=by decide+kernel
theorem vK (c:UInt8) (w:World):Calls Tryz.prog eS #[.int .u8 (c.toNat:Int)] w λr w'=>r=.returned (.int .i64 (pW c))/\bG w w':=by
 have loop:∀(d i:Nat) (w1:World),i+d=16->(∀j,j<i->sJ j≠c)->bG w w1->enthymemeref04_number.L0 c.toNat (i:Int) w1 λr w'=>r=.returned (.int .i64 (pW c))/\bG w w':=by
  intro d
  induction d with
  |zero=>
   intro i w1 hi hn f
   refine enthymemeref04_number.cC _ _ _ _ (aI (decide_eq_false (by omega)) ⟨?_,f⟩)
   have:=Mh (p:=λc=>pW c=-1\/∃n:Fin 16,sJ n.val=c) Vj c
   rcases this with h|⟨n,h⟩
   .rw [h]
   .exact absurd h (hn n.val (by omega))
  |succ d qz=>
   intro i w1 hi hn f
   refine enthymemeref04_number.cC _ _ _ _ (aQ (decide_eq_true (by omega)) ((zk i (by omega) w1).mono ?_))
   rintro _ w2 ⟨rfl,f2⟩
   refine ⟨_,rfl,aJ (λh=>⟨?_,f.AV f2⟩) (λh=>?_)⟩
   .have e:sJ i=c:=by rw [<-UInt8.toNat_inj];omega
    have:=QP ⟨i,by omega⟩
    rw [<-e]
    rw [this]
   .rw [aX _ (by omega)]
    refine qz (i+1) w2 (by omega) (λj hj=>?_) (f.AV f2)
    by_cases OZ:j=i
    .subst OZ;intro e;subst e;exact h rfl
    .exact hn j (by omega)
 exact enthymemeref04_number.ok _ w _ (loop 16 0 w (by omega) (λj h=>by omega) (Fr.refl _ _))
def JE (x:UInt8×Nat):Ending:=.returned (.tuple #[.int .u8 (x.1.toNat:Int),.i (x.2:Int)])
theorem QQ:∀x y:Fin 16,IntKind.wrap .u8 (IntKind.wrap .i64 ((IntKind.wrap .i64 (16 *(x.val:Int)))+(y.val:Int)))=((UInt8.ofNat ((16 *(x.val:Int)+(y.val:Int)).toNat)).toNat:Int):=by decide+kernel
theorem Jz {c:UInt8} (h:0<=pW c):∃x:Fin 16,pW c=(x.val:Int):=by
 have:=Mh (p:=λc=>pW c<16) Vi c
 exact ⟨⟨(pW c).toNat,by omega⟩,by show pW c=(((pW c).toNat:Nat):Int);omega⟩
theorem xg (s:ByteArray) (i:Nat) (hi:i<=1000000) (w:World):Calls Tryz.prog fV #[.string s,.i (i:Int)] w λr w'=>r=JE (hC (bl s) i)/\bG w w':=by
 have e1:IntKind.wrap .i64 ((i:Int)+1)=((i+1:Nat):Int):=by rw [IntWalk.i64_in _ (by omega)];omega
 have e2:IntKind.wrap .i64 ((i:Int)+2)=((i+2:Nat):Int):=by rw [IntWalk.i64_in _ (by omega)];omega
 have e3:IntKind.wrap .i64 ((i:Int)+3)=((i+3:Nat):Int):=by rw [IntWalk.i64_in _ (by omega)];omega
 have e4:IntKind.wrap .i64 ((i:Int)+4)=((i+4:Nat):Int):=by rw [IntWalk.i64_in _ (by omega)];omega
 have hl:(bl s).length=s.size:=iS s
 have no:∀w',bG w w'->hC (bl s) i=(0,0)->enthymemeref04_byteAt.S1 w' (λr w'=>r=JE (hC (bl s) i)/\bG w w'):=λw' f h=>⟨by rw [h];rfl,f⟩
 have st:∀w',bG w w'->(decide (i+3<=(bl s).length)&&gQ (bl s) i==39&&gQ (bl s) (i+2)==39&&O5 (gQ (bl s) (i+1)))=false->enthymemeref04_byteAt.S0 s (i:Int) w' (λr w'=>r=JE (hC (bl s) i)/\bG w w'):=by
  intro w' f hq
  have nn:(decide (i+4<=(bl s).length)&&gQ (bl s) i==92&&gQ (bl s) (i+1)==120&&decide (0<=pW (gQ (bl s) (i+2)))&&decide (0<=pW (gQ (bl s) (i+3))))=false->∀w',bG w w'->enthymemeref04_byteAt.S1 w' (λr w'=>r=JE (hC (bl s) i)/\bG w w'):=λh w' f=>no w' f (by
   unfold hC
   rw [hq,h];rfl)
  show aG _ _ _
  rw [e4,e3,e2,e1]
  refine aN (λh4=>⟨by omega,_,k8 (i:=i) (by omega),OO (n:=92) (by omega) (λha=>⟨by omega,_,k8 (i:=i+1) (by omega),OO (n:=120) (by omega) (λhb=>⟨by omega,_,k8 (i:=i+2) (by omega),(vK _ w').mono ?_⟩) (λhb=>?_)⟩) (λha=>?_)⟩) (λh4=>?_)
  rotate_left
  .exact nn (by have hb:(gQ (bl s) (i+1)==120)=false:=hb;rw [hb];simp) w' f
  .exact nn (by have ha:(gQ (bl s) i==92)=false:=ha;rw [ha];simp) w' f
  .exact nn (by rw [decide_eq_false (show ¬i+4<=(bl s).length by omega)];simp) w' f
  rintro _ w1 ⟨rfl,f1⟩
  refine ⟨_,rfl,aN (λhx=>⟨by omega,_,k8 (i:=i+3) (by omega),(vK _ w1).mono ?_⟩) (λhx=>nn (by rw [decide_eq_false (show ¬0<=pW (gQ (bl s) (i+2)) by omega)];simp) w1 (f.AV f1))⟩
  rintro _ w2 ⟨rfl,f2⟩
  refine ⟨_,rfl,aN (λhy=>?_) (λhy=>nn (by rw [decide_eq_false (show ¬0<=pW (gQ (bl s) (i+3)) by omega)];simp) w2 ((f.AV f1).AV f2))⟩
  have f3:bG w w2.drew:=((f.AV f1).AV f2).AV (Fr.drew _ _)
  refine (show vQ w2 _ from ?_)
  refine ⟨by omega,_,k8 (i:=i+2) (by omega),by omega,_,k8 (i:=i+3) (by omega),(vK _ _).mono ?_⟩
  rintro _ w4 ⟨rfl,f4⟩
  refine ⟨_,rfl,(vK _ _).mono ?_⟩
  rintro _ w5 ⟨rfl,f5⟩
  refine ⟨_,rfl,?_,(f3.AV f4).AV f5⟩
  have ha:(gQ (bl s) i==92)=true:=ha
  have hb:(gQ (bl s) (i+1)==120)=true:=hb
  have eb:hC (bl s) i=(UInt8.ofNat ((16 *pW (gQ (bl s) (i+2))+pW (gQ (bl s) (i+3))).toNat),4):=by
   unfold hC
   rw [hq,ha,hb,decide_eq_true (show i+4<=(bl s).length by omega),decide_eq_true (show 0<=pW (gQ (bl s) (i+2)) by omega),decide_eq_true (show 0<=pW (gQ (bl s) (i+3)) by omega)]
   rfl
  rw [eb]
  obtain ⟨x,E6⟩:=Jz (c:=gQ (bl s) (i+2)) (by omega)
  obtain ⟨y,hy'⟩:=Jz (c:=gQ (bl s) (i+3)) (by omega)
  rw [E6,hy',QQ x y]
  rfl
 refine enthymemeref04_byteAt.ok _ _ w _ ?_
 rw [e3,e2,e1]
 refine aN (λh3=>⟨by omega,_,k8 (i:=i) (by omega),OO (n:=39) (by omega) (λha=>⟨by omega,_,k8 (i:=i+2) (by omega),OO (n:=39) (by omega) (λhb=>⟨by omega,_,k8 (i:=i+1) (by omega),(El _ w).mono ?_⟩) (λhb=>?_)⟩) (λha=>?_)⟩) (λh3=>?_)
 rotate_left
 .exact st w (Fr.refl _ _) (by have hb:(gQ (bl s) (i+2)==39)=false:=hb;rw [hb];simp)
 .exact st w (Fr.refl _ _) (by have ha:(gQ (bl s) i==39)=false:=ha;rw [ha];simp)
 .exact st w (Fr.refl _ _) (by rw [decide_eq_false (show ¬i+3<=(bl s).length by omega)];simp)
 rintro _ w1 ⟨rfl,f1⟩
 refine ⟨_,rfl,bA (λhp=>⟨by omega,_,k8 (i:=i+1) (by omega),?_,f1⟩) (λhp=>st w1 f1 (by rw [hp];simp))⟩
 have ha:(gQ (bl s) i==39)=true:=ha
 have hb:(gQ (bl s) (i+2)==39)=true:=hb
 unfold hC
 rw [ha,hb,hp,decide_eq_true (show i+3<=(bl s).length by omega)]
 rfl
theorem xe (s:BL) (i:Nat):(hC s i).2<=4/\(0<(hC s i).2->i+(hC s i).2<=s.length):=by
 unfold hC
 split
 .rename_i h
  simp only [Bool.and_eq_true,decide_eq_true_eq] at h
  exact ⟨by simp,λ_=>h.1.1.1⟩
 .split
  .rename_i h
   simp only [Bool.and_eq_true,decide_eq_true_eq] at h
   exact ⟨by simp,λ_=>h.1.1.1.1⟩
  .exact ⟨by simp,λh=>by simp at h⟩
def rgV (g:ZO):Ending:=.returned (.tuple #[.agg #[.i (g.k:Int),.int .u8 (g.lo.toNat:Int),.int .u8 (g.hi.toNat:Int),.slice none 0 0],.i (g.n:Int)])
theorem Af (s:BL) (i:Nat):i+(iC s i).n<=s.length\/(iC s i).n=0:=by
 unfold iC
 simp only
 have h:=xe s i
 split
 .rename_i h0
  exact .inl (h.2 h0)
 .split
  .exact .inr rfl
  .split
   .exact .inr rfl
   .split
    .exact .inr rfl
    .rename_i h1
     simp only [not_or] at h1
     left
     show i+(_+1 - i)<=s.length
     omega
theorem Kj (s:ByteArray) (hs:s.size<=100000) (i:Nat) (hi:i<s.size) (w:World):Calls Tryz.prog jx #[.string s,.i (i:Int)] w λr w'=>r=rgV (iC (bl s) i)/\bG w w':=by
 have hl:(bl s).length=s.size:=iS s
 refine enthymemeref04_rangeAt.cU _ _ w _ ((mu [] (by simp)).bF λb w1 H1=>H1.aK (xg s i (by omega) w1) ?_)
 rintro _ w2 rfl H2
 refine ⟨_,_,rfl,aN (λh0=>H2.aL λw3 H3=>⟨?_,H3.fr⟩) (λh0=>⟨by omega,_,k8 (i:=i) hi,Gt (n:=91) (by omega) (λh1=>H2.aL λw3 H3=>⟨?_,H3.fr⟩) (λh1=>?_)⟩)⟩
 .unfold iC
  simp only
  rw [if_pos (by omega)]
  rfl
 .have h1:(gQ (bl s) i==91)=false:=h1
  unfold iC
  simp only
  rw [if_neg (by omega),if_pos (beq_eq_false_iff_ne.1 h1)]
  rfl
 have h1:gQ (bl s) i=91:=eq_of_beq h1
 rw [aX _ (by omega)]
 refine H2.aK (xg s (i+1) (by omega) w2) ?_
 rintro _ w3 rfl H3
 have b1:=xe (bl s) (i+1)
 have bad:∀(w':World),LH F0 w w' [.g b] []->iC (bl s) i=HW->enthymemeref04_rangeAt.gm b 0 0 0 ⟨none,0,0⟩ w' λr w'=>r=rgV (iC (bl s) i)/\bG w w':=λw' H' he=>H'.aL λuh V5=>⟨by rw [he];rfl,V5.fr⟩
 have Pk:∀(w':World),LH F0 w w' [.g b] []->iC (bl s) i=HW->enthymemeref04_rangeAt.ic b 0 0 0 ⟨none,0,0⟩ w' λr w'=>r=rgV (iC (bl s) i)/\bG w w':=λw' H' he=>H'.aL λuh V5=>⟨by rw [he];rfl,V5.fr⟩
 have HN:iC (bl s) i=(let a:=hC (bl s) (i+1)
   let dash:=i+1+a.2
   if a.2=0\/(bl s).length<=dash\/gQ (bl s) dash≠45 then HW else
   let c:=hC (bl s) (dash+1)
   let fin:=dash+1+c.2
   if c.2=0\/(bl s).length<=fin\/gQ (bl s) fin≠93\/c.1.toNat<a.1.toNat then HW else ⟨2,a.1,c.1,fin+1 - i⟩):=by
  conv=>lhs;unfold iC
  simp only
  rw [if_neg (by omega),if_neg (by rw [h1];simp)]
 simp only at HN
 generalize hC (bl s) (i+1)=a at b1 HN
 refine ⟨_,_,rfl,?_⟩
 have ed:IntKind.wrap .i64 (((i+1:Nat):Int)+(a.2:Int))=((i+1+a.2:Nat):Int):=by rw [IntWalk.i64_in _ (by omega)];omega
 show enthymemeref04_rangeAt.dV s (i:Int) b 0 0 0 ⟨none,0,0⟩ (a.1.toNat:Int) (a.2:Int) (IntKind.wrap .i64 (((i+1:Nat):Int)+(a.2:Int))) w3 _
 rw [ed]
 refine aJ (λe0=>bad w3 H3 (by rw [HN,if_pos (.inl (by omega))])) (λe0=>aN (λe1=>bad w3 H3 (by rw [HN,if_pos (.inr (.inl (by omega)))])) (λe1=>⟨by omega,_,k8 (i:=i+1+a.2) (by omega),Gt (n:=45) (by omega) (λe2=>bad w3 H3 (by rw [HN,if_pos (.inr (.inr (beq_eq_false_iff_ne.1 e2)))])) (λe2=>?_)⟩))
 have e2:gQ (bl s) (i+1+a.2)=45:=eq_of_beq e2
 rw [if_neg (by rw [e2];simp;omega)] at HN
 rw [aX _ (by omega)]
 refine H3.aK (xg s (i+1+a.2+1) (by omega) w3) ?_
 rintro _ w4 rfl H4
 have b2:=xe (bl s) (i+1+a.2+1)
 generalize hC (bl s) (i+1+a.2+1)=c at b2 HN
 refine ⟨_,_,rfl,?_⟩
 have ef:IntKind.wrap .i64 (((i+1+a.2+1:Nat):Int)+(c.2:Int))=((i+1+a.2+1+c.2:Nat):Int):=by rw [IntWalk.i64_in _ (by omega)];omega
 show enthymemeref04_rangeAt.fB s (i:Int) b 0 0 0 ⟨none,0,0⟩ (a.1.toNat:Int) (c.1.toNat:Int) (c.2:Int) (IntKind.wrap .i64 (((i+1+a.2+1:Nat):Int)+(c.2:Int))) w4 _
 rw [ef]
 refine aJ (λe0=>Pk w4 H4 (by rw [HN,if_pos (.inl (by omega))])) (λe0=>aN (λe1=>Pk w4 H4 (by rw [HN,if_pos (.inr (.inl (by omega)))])) (λe1=>⟨by omega,_,k8 (i:=i+1+a.2+1+c.2) (by omega),Gt (n:=93) (by omega) (λe2=>Pk w4 H4 (by rw [HN,if_pos (.inr (.inr (.inl (beq_eq_false_iff_ne.1 e2))))])) (λe3=>aN (λe4=>Pk w4 H4 (by rw [HN,if_pos (.inr (.inr (.inr (by omega))))])) (λe4=>H4.aL λw5 H5=>⟨?_,H5.fr⟩))⟩))
 have e3:gQ (bl s) (i+1+a.2+1+c.2)=93:=eq_of_beq e3
 rw [HN,if_neg (by rw [e3];simp;omega)]
 have ee:IntKind.wrap .i64 ((IntKind.wrap .i64 (((i+1+a.2+1+c.2:Nat):Int)+1)) - (i:Int))=((i+1+a.2+1+c.2+1 - i:Nat):Int):=by
  rw [aX _ (by omega),IntWalk.i64_in _ (by omega)];omega
 rw [ee]
 rfl
def j8.c (t:j8):List Value:=[.string (ba t.tx),.i (t.at_:Int),.i (t.k:Int),.int .u8 (t.lo.toNat:Int),.int .u8 (t.hi.toNat:Int),.slice none 0 0]
theorem J6 (t:j8):t.c.length=6:=rfl
theorem Gr (l:List j8) (t:j8):l.flatMap j8.c++t.c=(l++[t]).flatMap j8.c:=by simp
theorem Gq {w:World} {s:Sl} {l:List j8} (h:jU 6 w s (l.flatMap j8.c)):s.n=l.length:=by
 have:=h.1
 rw [oS j8.c 6 J6] at this
 omega
theorem MV:iy Tryz.prog bU cA (.agg #[.s0,.i 0,.i 0,.int .u8 0,.int .u8 0,.slice none 0 0]) 6 64:=⟨by kernel_rfl,by kernel_rfl,rfl,by decide,by decide⟩
def R7 (w:World) (l:List j8) (r:Ending) (w':World):Prop:=∃s':Sl,r=.returned s'.v/\aO w' cA 6 s' (l.flatMap j8.c)/\∀x∈aZ s',w.heap.size<=x
theorem Uh (s:ByteArray) (i j:Nat):s.extract i j=ba (((bl s).take j).drop i):=by
 have:bl (s.extract i j)=((bl s).take j).drop i:=by
  unfold bl
  rw [ByteArray.data_extract,Array.toList_extract,List.extract_eq_take_drop]
  rw [List.drop_take]
 rw [<-this,Bw]
theorem X1 (c:UInt8) {A B:Prop} (h1:uq c=true->A) (h2:uq c=false->B):aG (decide (((c.toNat:Nat):Int)>=97)) (aG (decide (((c.toNat:Nat):Int)<=122)) A B) B:=
 aN (λha=>aN (λhb=>h1 (by unfold uq;rw [decide_eq_true (show 97<=c.toNat by omega),decide_eq_true (show c.toNat<=122 by omega)];rfl)) (λhb=>h2 (by unfold uq;rw [decide_eq_false (show ¬c.toNat<=122 by omega)];simp))) (λha=>h2 (by unfold uq;rw [decide_eq_false (show ¬97<=c.toNat by omega)];simp))
theorem JO (s:BL) (i:Nat):∀(f n:Nat),i+n<=s.length->n<=Bk s i f n/\i+Bk s i f n<=s.length
 |0,n,h=>⟨Nat.le_refl _,h⟩
 |f+1,n,h=>by
  unfold Bk
  split
  .rename_i h0
   simp only [Bool.and_eq_true,decide_eq_true_eq] at h0
   have:=JO s i f (n+1) (by omega)
   exact ⟨by omega,this.2⟩
  .exact ⟨Nat.le_refl _,h⟩
theorem Mq (s:ByteArray) (hs:s.size<=100000) (w:World):Calls Tryz.prog jK #[.string s] w λr w'=>R7 w (tP (bl s)) r w'/\bG w w':=by
 have hl:(bl s).length=s.size:=iS s
 let R:aD:=λr w'=>R7 w (tP (bl s)) r w'/\bG w w'
 have fin:∀(acc:List j8) (sl:Sl) (w1:World),acc.length<=s.size->tP (bl s)=acc++[⟨[],(bl s).length,0,0,0⟩]->LH F0 w w1 [.row cA 6 sl (acc.flatMap j8.c)] []->
   fH w1 (.cells #[.s0,.i ((s.size:Nat):Int),.i 0,.int .u8 0,.int .u8 0,.slice none 0 0] cA) λw7=>
 ∃(t81:Sl) (w8:World),Sem.run Tryz.prog (Builtin.append_ #[bU,bU] bU #[sl.v,.slice (some (nb w1)) 1 1]) w7=.ok (t81.v) w8/\R (.returned (t81.v)) w8:=by
  intro acc sl w1 ha he H
  have vb:=Gq (H.get 0:aO _ _ _ _ _).iD
  refine H.YT 0 MV rfl (λs' w2 H2 _ _=>⟨⟨s',rfl,?_,λx hx=>(H2.new _ (cR (i:=0) rfl) x hx).resolve_right id⟩,H2.fr⟩) (by omega)
  rw [he,<-Gr]
  exact H2.get 0
 have loop:∀(f i:Nat) (acc:List j8) (sl:Sl) (w1:World),s.size<f+i->i<=s.size->acc.length<=i->tP (bl s)=acc++DO (bl s) f i->LH F0 w w1 [.row cA 6 sl (acc.flatMap j8.c)] []->enthymemeref04_Tokens.eE s sl (i:Int) w1 R:=by
  intro f
  induction f with
  |zero=>intro i acc sl w1 hf hi;omega
  |succ f Ze=>
   intro i acc sl w1 hf hi HC he H
   refine enthymemeref04_Tokens.aY _ _ _ _ _ (aN (λlV=>⟨by omega,_,k8 (i:=i) (by omega),?_⟩) (λlV=>fin acc sl w1 (by omega) (by
    rw [he];unfold DO;rw [if_pos (by omega)]) H))
   unfold DO at he
   rw [if_neg (by omega)] at he
   refine OO (n:=32) (by omega) (λGI=>?_) (λGI=>?_)
   .have GI:gQ (bl s) i=32:=eq_of_beq GI
    rw [if_pos GI] at he
    rw [aX _ (by omega)]
    exact Ze (i+1) acc sl w1 (by omega) (by omega) (by omega) he H
   have GI:gQ (bl s) i≠32:=beq_eq_false_iff_ne.1 GI
   rw [if_neg GI] at he
   simp only at he
   refine H.call (Kj s hs i (by omega) w1) ?_
   rintro _ w2 rfl H2
   have hr:=Af (bl s) i
   generalize iC (bl s) i=g at he hr
   refine ⟨_,_,_,⟨none,0,0⟩,_,rfl,H2.bF λb w3 H3=>?_⟩
   have H3:LH F0 w w3 [.row cA 6 sl (acc.flatMap j8.c),.g b] []:=H3
   have one:∀(n:Nat) (w4:World),1<=n->i+n<=s.size->tP (bl s)=acc++⟨((bl s).take (i+n)).drop i,i,g.k,g.lo,g.hi⟩::DO (bl s) f (i+n)->LH F0 w w4 [.row cA 6 sl (acc.flatMap j8.c),.g b] []->
     enthymemeref04_Tokens.fB s sl (i:Int) b (g.k:Int) (g.lo.toNat:Int) (g.hi.toNat:Int) ⟨none,0,0⟩ (n:Int) w4 R:=by
    intro n w4 hn u0 hen H4
    show (0:Int)<=_/\_
    have ei:IntKind.wrap .i64 ((i:Int)+(n:Int))=((i+n:Nat):Int):=by rw [IntWalk.i64_in _ (by omega)];omega
    rw [ei,Int.toNat_natCast,Int.toNat_natCast,Uh]
    refine ⟨by omega,by omega,by omega,by omega,H4.aL λw5 H5=>?_⟩
    have vb:=Gq (H5.get 0:aO _ _ _ _ _).iD
    refine H5.uj 0 MV rfl (λs' w6 H6=>?_) (by omega)
    refine Ze (i+n) (acc++[⟨((bl s).take (i+n)).drop i,i,g.k,g.lo,g.hi⟩]) s' w6 (by omega) (by omega) (by simp;omega) (by rw [hen];simp) ?_
    rw [<-Gr]
    exact H6.take 1
   refine aJ (λh0=>H3.aL λw4 H4=>?_) (λh0=>H3.aL λw4 H4=>one g.n w4 (by omega) (by omega) (by rw [he,if_neg (by omega)]) H4)
   have h0:g.n=0:=by omega
   rw [if_pos h0] at he
   have word:∀(e n:Nat) (w5:World),s.size<=e+(i+n)->1<=n->i+n<=s.size->Bk (bl s) i (bl s).length 1=Bk (bl s) i e n->LH F0 w w5 [.row cA 6 sl (acc.flatMap j8.c),.g b] []->
     enthymemeref04_Tokens.mD s sl (i:Int) b (g.k:Int) (g.lo.toNat:Int) (g.hi.toNat:Int) ⟨none,0,0⟩ (n:Int) w5 R:=by
    intro e
    induction e with
    |zero=>
     intro n w5 hen hn u0 hr H5
     have stop:enthymemeref04_Tokens.fB s sl (i:Int) b (g.k:Int) (g.lo.toNat:Int) (g.hi.toNat:Int) ⟨none,0,0⟩ (n:Int) w5 R:=one n w5 hn u0 (by rw [he,hr];rfl) H5
     have ei:IntKind.wrap .i64 ((i:Int)+(n:Int))=((i+n:Nat):Int):=by rw [IntWalk.i64_in _ (by omega)];omega
     refine enthymemeref04_Tokens.dM _ _ _ _ _ _ _ _ _ _ _ ?_
     rw [ei]
     refine ⟨by omega,_,k8 (i:=i) (by omega),bA (λ_=>⟨by omega,_,k8 (i:=i) (by omega),bA (λ_=>aI (decide_eq_false (by omega)) stop) (λ_=>stop)⟩) (λ_=>stop)⟩
    |succ e ihe=>
     intro n w5 hen hn u0 hr H5
     have ei:IntKind.wrap .i64 ((i:Int)+(n:Int))=((i+n:Nat):Int):=by rw [IntWalk.i64_in _ (by omega)];omega
     have stop:(uq (gQ (bl s) i)&&decide (i+n<(bl s).length)&&uq (gQ (bl s) (i+n)))=false->enthymemeref04_Tokens.fB s sl (i:Int) b (g.k:Int) (g.lo.toNat:Int) (g.hi.toNat:Int) ⟨none,0,0⟩ (n:Int) w5 R:=λh=>one n w5 hn u0 (by
      rw [he,hr]
      conv=>lhs;unfold Bk
      rw [h];rfl) H5
     refine enthymemeref04_Tokens.dM _ _ _ _ _ _ _ _ _ _ _ ?_
     rw [ei]
     refine ⟨by omega,_,k8 (i:=i) (by omega),?_⟩
     have go:uq (gQ (bl s) i)=true->aG (decide (((i+n:Nat):Int)<((s.size:Nat):Int))) ((0:Int)<=((i+n:Nat):Int)/\∃TH:UInt8,s[Int.toNat ((i+n:Nat):Int)]? =some TH/\aG (decide (((TH.toNat:Nat):Int)>=97)) ((0:Int)<=((i+n:Nat):Int)/\∃TI:UInt8,s[Int.toNat ((i+n:Nat):Int)]? =some TI/\aG (decide (((TI.toNat:Nat):Int)<=122)) (enthymemeref04_Tokens.mD s sl (i:Int) b (g.k:Int) (g.lo.toNat:Int) (g.hi.toNat:Int) ⟨none,0,0⟩ (IntKind.wrap .i64 ((n:Int)+1)) w5 R) (enthymemeref04_Tokens.fB s sl (i:Int) b (g.k:Int) (g.lo.toNat:Int) (g.hi.toNat:Int) ⟨none,0,0⟩ (n:Int) w5 R)) (enthymemeref04_Tokens.fB s sl (i:Int) b (g.k:Int) (g.lo.toNat:Int) (g.hi.toNat:Int) ⟨none,0,0⟩ (n:Int) w5 R)) (enthymemeref04_Tokens.fB s sl (i:Int) b (g.k:Int) (g.lo.toNat:Int) (g.hi.toNat:Int) ⟨none,0,0⟩ (n:Int) w5 R):=by
      intro h1
      refine aN (λh2=>⟨by omega,_,k8 (i:=i+n) (by omega),?_⟩) (λh2=>stop (by rw [decide_eq_false (show ¬i+n<(bl s).length by omega)];simp))
      have key:uq (gQ (bl s) (i+n))=true->enthymemeref04_Tokens.mD s sl (i:Int) b (g.k:Int) (g.lo.toNat:Int) (g.hi.toNat:Int) ⟨none,0,0⟩ (IntKind.wrap .i64 ((n:Int)+1)) w5 R:=λh3=>by
       rw [aX _ (by omega)]
       refine ihe (n+1) w5 (by omega) (by omega) (by omega) ?_ H5
       rw [hr]
       conv=>lhs;unfold Bk
       rw [h1,h3,decide_eq_true (show i+n<(bl s).length by omega)];rfl
      have U9:uq (gQ (bl s) (i+n))=false->_:=λh3=>stop (by rw [h3];simp)
      have h:=X1 (gQ (bl s) (i+n)) key U9
      exact JP h (λh=>⟨by omega,_,k8 (i:=i+n) (by omega),h⟩) id
     have U9:uq (gQ (bl s) i)=false->_:=λh3=>stop (by rw [h3];simp)
     exact JP (X1 (gQ (bl s) i) go U9) (λh=>⟨by omega,_,k8 (i:=i) (by omega),h⟩) id
   exact word (bl s).length 1 w4 (by omega) (by omega) (by omega) rfl H4
 refine enthymemeref04_Tokens.cU _ w _ ?_
 exact loop (s.size+1) 0 [] ⟨none,0,0⟩ w (by omega) (by omega) (by simp) (by unfold tP;rw [hl];rfl) ((mu [] (by simp)).n7 cA 6)
abbrev rdC (s:Sl) (st:kI):List Value:=[s.v,.i (st.1:Int),.bool st.2]
abbrev pS (pb:Nat) (s:Sl) (st:kI):En:=.c pb (rdC s st) jA
abbrev qd (s:Sl) (l:List j8):En:=.iD 6 s (l.flatMap j8.c)
abbrev SA (pb:Nat) (s:Sl) (w:World) (A:aD) (st:kI):aD:=λr w'=>(A r w'/\w'.heap[pb]? =some (.cells (rdC s st).toArray jA (0,0)))/\Fr (·=pb) w w'
abbrev D8 (pb:Nat) (s:Sl) (l:List j8) (st:kI) (w:World):Prop:=LH (·=pb) w w [pS pb s st] [qd s l]
theorem _root_.Go.W.LH.yK {M:Nat->Prop} {w0 w:World} {L D:List En} {pb:Nat} {s:Sl} {l:List j8} {st:kI} (H:LH M w0 w (pS pb s st::L) (qd s l::D)):D8 pb s l st w:=
 LH.xS _ _ (by
  intro e he
  simp only [cS,fF,or_false] at he
  subst he
  exact ⟨H.get 0,λb hb=>Hg.1 hb⟩) (by
  simp only [List.flatMap_cons,List.flatMap_nil,List.append_nil]
  exact (pS pb s st).nd) (by
  intro e he
  simp only [cS,fF,or_false] at he
  subst he
  exact ⟨H.getD 0,λb hb e' mG=>by
   simp only [cS,fF,or_false] at mG
   subst mG
   exact H.dj _ List.mem_cons_self b hb _ List.mem_cons_self⟩)
structure IJ (w:World) (p:Addr) (i:Nat) (t:j8):Prop where
 c0:w.cell? ((p.add (i *6)).add 0)=some (.string (ba t.tx))
 c1:w.cell? ((p.add (i *6)).add 1)=some (.i (t.at_:Int))
 c2:w.cell? ((p.add (i *6)).add 2)=some (.i (t.k:Int))
 c3:w.cell? ((p.add (i *6)).add 3)=some (.int .u8 (t.lo.toNat:Int))
 c4:w.cell? ((p.add (i *6)).add 4)=some (.int .u8 (t.hi.toNat:Int))
 c5:w.cell? ((p.add (i *6)).add 5)=some (.slice none 0 0)
theorem AG {w:World} {s:Sl} {l:List j8} (h:jU 6 w s (l.flatMap j8.c)) {i:Nat} (hi:i<l.length) {K:Addr->Prop} (hk:∀p,s.a=some p->IJ w p i (jT l i)->K p):aW s.a K:=by
 have hg:l[i]? =some (jT l i):=by
  unfold jT
  rw [List.getD_eq_getElem?_getD,g8 hi];rfl
 exact o7.elem (f:=j8.c) (sz:=6) J6 (by omega) h.2.2 hg λp hp hc=>hk p hp ⟨hc 0 _ rfl,hc 1 _ rfl,hc 2 _ rfl,hc 3 _ rfl,hc 4 _ rfl,hc 5 _ rfl⟩
def GG (l:List j8):Prop:=0<l.length/\(jT l (l.length - 1)).tx=[]/\(jT l (l.length - 1)).k=0
section
variable {pb:Nat} {s:Sl} {l:List j8} {st:kI} {w:World}
theorem MC (H:D8 pb s l st w) (hi:st.1<l.length):Calls Tryz.prog eQ #[.pointer (some (bD pb))] w λr w'=>r=.returned (.string (ba (oa l st)))/\bG w w':=by
 have et:st.2=true->oa l st=[32]:=λh=>by unfold oa;rw [h];rfl
 have ef:st.2=false->oa l st=(jT l st.1).tx:=λh=>by unfold oa;rw [h];rfl
 generalize oa l st=u at et ef
 refine enthymemeref04_reader_see.ok _ w _ ⟨st.2,H.ld 0 2,bA (λhb=>⟨?_,Fr.refl _ _⟩) (λhb=>?_)⟩
 .rw [et hb];rfl
 rw [ef hb]
 have H1:LH (·=pb) w w.drew [pS pb s st] [qd s l]:=H.drew
 have hn:=Gq (H1.getD 0:jU _ _ _ _)
 refine ⟨s,H1.ld 0 0,_,H1.ld 0 1,by omega,by omega,AG (H1.getD 0) hi λp hp c=>⟨ba (jT l st.1).tx,?_,rfl,Fr.drew _ _⟩⟩
 rw [Int.toNat_natCast]
 exact c.c0
theorem Bx (a b:BL):((ba a).toList==(ba b).toList)=(a==b):=by
 rw [ByteArray.toList_eq,ByteArray.toList_eq]
 rfl
theorem Fg (hl:GG l) (hi:st.1<l.length) (hs:oa l st≠[]) (hb:st.2=false):st.1+1<l.length:=by
 rcases Nat.lt_or_ge (st.1+1) l.length with h|h
 .exact h
 .exfalso
  apply hs
  have e:st.1=l.length - 1:=by omega
  unfold oa
  rw [hb,e]
  exact hl.2.1
theorem qw (hl:GG l) (hi:st.1<l.length) (u:BL) (hu:u≠[32]):(iE l u st).2.1<l.length:=by
 unfold iE
 cases he:oa l st==u with
 |false=>exact hi
 |true=>
  have he:=eq_of_beq he
  cases hem:u.isEmpty with
  |true=>exact hi
  |false=>
   show st.1+1<l.length
   refine Fg hl hi (λh=>?_) ?_
   .rw [h] at he;subst he;cases hem
   .cases hb:st.2 with
    |false=>rfl
    |true=>
     exfalso;apply hu
     rw [<-he];unfold oa;rw [hb];rfl
theorem uQ (H:D8 pb s l st w) (hi:st.1<l.length) (qA:l.length<=1000000) (u:BL):Calls Tryz.prog bW #[.pointer (some (bD pb)),.string (ba u)] w (SA pb s w (λr _=>r=.returned (.bool (iE l u st).1)) (iE l u st).2):=by
 refine enthymemeref04_reader_take.ok _ _ w _ (H.call (MC H hi) ?_)
 rintro _ w1 rfl H1
 refine ⟨_,rfl,?_⟩
 dsimp only
 rw [Bx]
 have OX:((ba u).toList==(ByteArray.mk #[]).toList)=u.isEmpty:=by
  have:ByteArray.mk #[]=ba []:=rfl
  rw [this,Bx]
  cases u<;>rfl
 rw [OX]
 refine eT (λhe=>⟨⟨?_,?_⟩,H1.fr⟩) (λhe=>eT (λh0=>⟨_,H1.ld 0 1,?_⟩) (λh0=>⟨⟨?_,?_⟩,H1.fr⟩))
 .unfold iE;rw [he];rfl
 .have:(iE l u st).2=st:=by unfold iE;rw [he];rfl
  rw [this];exact H1.get 0
 .rw [aX _ (by omega)]
  refine H1.st 0 1 rfl λw2 H2=>⟨⟨?_,?_⟩,H2.fr⟩
  .unfold iE;rw [he];rfl
  .have:(iE l u st).2=(st.1+1,st.2):=by unfold iE;rw [he,h0];rfl
   rw [this];exact H2.get 0
 .unfold iE;rw [he];rfl
 .have:(iE l u st).2=st:=by unfold iE;rw [he,h0];rfl
  rw [this];exact H1.get 0
theorem Fq (u:BL):qL l u st=bif (iE l u st).1 then (iE l u st).2 else ((iE l u st).2.1,true):=by
 unfold qL
 generalize iE l u st=x
 obtain ⟨b,dO⟩:=x
 cases b<;>rfl
theorem tB (hl:GG l) (hi:st.1<l.length) (u:BL) (hu:u≠[32]):(qL l u st).1<l.length:=by
 rw [Fq]
 have:=qw hl hi u hu
 cases (iE l u st).1<;>exact this
theorem zi (H:D8 pb s l st w) (hi:st.1<l.length) (qA:l.length<=1000000) (u:BL):Calls Tryz.prog cO #[.pointer (some (bD pb)),.string (ba u)] w (SA pb s w (λr _=>r=.returned (.tuple #[])) (qL l u st)):=by
 refine enthymemeref04_reader_need.ok _ _ w _ (H.zn (uQ H hi qA u) ?_)
 rintro _ w1 rfl H1 _
 rw [Fq]
 refine ⟨_,rfl,eT (λhb=>H1.st 0 2 rfl λw2 H2=>⟨⟨rfl,?_⟩,H2.fr⟩) (λhb=>⟨⟨rfl,?_⟩,H1.fr⟩)⟩
 .rw [hb];exact H2.get 0
 .rw [hb];exact H1.get 0
theorem Ms (H:D8 pb s l st w) (hi:st.1<l.length):Calls Tryz.prog gS #[.pointer (some (bD pb))] w λr w'=>r=.returned (.bool (yP l st))/\bG w w':=by
 refine enthymemeref04_reader_begins.ok _ w _ ((MC H hi).mono ?_)
 rintro _ w1 ⟨rfl,f1⟩
 have H1:=H.pI f1
 refine ⟨_,rfl,st.2,H1.ld 0 2,?_⟩
 have e:∀u:List UInt8,((ba (oa l st)).toList==(ba u).toList)=(oa l st==u):=λu=>Bx _ _
 have e0:=e []
 have e1:=e [41]
 have e2:=e [44]
 have e3:=e [124]
 have e4:=e [38]
 unfold yP
 show aG _ (aG (!((ba (oa l st)).toList==(ba []).toList)) (aG (!((ba (oa l st)).toList==(ba [41]).toList)) (aG (!((ba (oa l st)).toList==(ba [44]).toList)) (aG (!((ba (oa l st)).toList==(ba [124]).toList)) (Ending.returned (.bool (!((ba (oa l st)).toList==(ba [38]).toList)))=_/\bG w w1) _) _) _) _) _
 rw [e0,e1,e2,e3,e4]
 cases st.2<;>cases oa l st==[]<;>cases oa l st==[41]<;>cases oa l st==[44]<;>cases oa l st==[124]<;>first |exact ⟨rfl,f1⟩|skip
end
theorem CR (k:Int) (s:Sl) (l:List Rt) (w:World) (h:(eJ s l).P w):Calls Tryz.prog dC #[.i k,s.v] w λr w'=>pM (eJ s l).fp w (uY k (Rt.bV l)) r w'/\bG w w':=by
 have nr:=Rt.b0 (fR.1 h).1
 refine enthymemeref04_group.cU _ _ w _ ((zV h).bF λb w1 H1=>aJ (λh1=>?_) (λh1=>H1.aL λw2 H2=>⟨⟨.mk k 0 0 s l,rfl,?_,?_,λb hb=>.inr hb⟩,H2.fr⟩))
 .match l,nr with
  |[],nr=>simp at nr;omega
  |a::b::m,nr=>simp at nr;omega
  |[a],nr=>
   refine ⟨by omega,by omega,Rt.at' (fR.1 (show (eJ s [a]).P w1 from H1.getD 0)).1 (i:=0) rfl λp hp c=>⟨_,_,_,_,c.c0,c.c1,c.c2,c.c3,H1.aL λw2 H2=>⟨⟨a,rfl,rfl,?_,λb hb=>.inr ?_⟩,H2.fr⟩⟩⟩
   .exact (fR.1 (show (eJ s [a]).P w2 from H2.getD 0)).2.mem (by simp)
   .exact pg.2 (.inr (Rt.bC.2 ⟨a,by simp,hb⟩))
 .show Rx.mk k 0 0 (Rt.bV l)=_
  match l,nr with
  |[],nr=>rfl
  |[a],nr=>simp at nr;omega
  |a::b::m,nr=>rfl
 .have:=fR.1 (show (eJ s l).P w2 from H2.getD 0)
  unfold Rt.P
  exact this
structure L8 (s:Sl) (l:List j8) (n:Nat):Prop where
 expr:∀(pb:Nat) (st:kI) (w:World) (x:Rx) (dO:kI),rm l n st=some (x,dO)->st.1<l.length->D8 pb s l st w->Calls Tryz.prog cM #[.pointer (some (bD pb))] w (SA pb s w (λr w'=>o8 w x r w'/\dO.1<l.length) dO)
 W0:∀(pb:Nat) (st:kI) (w:World) (x:Rx) (dO:kI),vP l n st=some (x,dO)->st.1<l.length->D8 pb s l st w->Calls Tryz.prog c9 #[.pointer (some (bD pb))] w (SA pb s w (λr w'=>o8 w x r w'/\dO.1<l.length) dO)
 seq:∀(pb:Nat) (st:kI) (w:World) (x:Rx) (dO:kI),DG l n st=some (x,dO)->st.1<l.length->D8 pb s l st w->Calls Tryz.prog dJ #[.pointer (some (bD pb))] w (SA pb s w (λr w'=>o8 w x r w'/\dO.1<l.length) dO)
 item:∀(pb:Nat) (st:kI) (w:World) (x:Rx) (dO:kI),tq l n st=some (x,dO)->st.1<l.length->D8 pb s l st w->Calls Tryz.prog cN #[.pointer (some (bD pb))] w (SA pb s w (λr w'=>o8 w x r w'/\dO.1<l.length) dO)
 atom:∀(pb:Nat) (st:kI) (w:World) (x:Rx) (dO:kI),za l n st=some (x,dO)->st.1<l.length->D8 pb s l st w->Calls Tryz.prog fO #[.pointer (some (bD pb))] w (SA pb s w (λr w'=>o8 w x r w'/\dO.1<l.length) dO)
 kids:∀(pb:Nat) (st:kI) (w:World) (m:List Rx) (dO:kI),zS l n st=some (m,dO)->st.1<l.length->D8 pb s l st w->Calls Tryz.prog fP #[.pointer (some (bD pb))] w (SA pb s w (λr w'=>(∃(sl:Sl) (a:List Rt),r=.returned sl.v/\Rt.bV a=m/\(eJ sl a).P w'/\∀b∈(eJ sl a).fp,w.heap.size<=b)/\dO.1<l.length) dO)
theorem yY {M:Nat->Prop} {w0 w:World} {L D:List En} {pb:Nat} {s:Sl} {st:kI} (H:LH M w0 w (pS pb s st::L) D) (i:Nat) {e:En} (hi:L[i]? =some e) {b:Nat} (hb:b∈e.fp):b≠pb:=λh=>
 pQ H.nd (i:=i+1) (by simpa using hi) (j:=0) rfl (by omega) b hb (Hg.2 h)
theorem _root_.Go.W.LH.EA {M:Nat->Prop} {w0 w:World} {L D:List En} (H:LH M w0 w L D) (j:Nat) {t:Rt} (hj:D[j]? =some (.tree t):=by rfl):LH M w0 w L (D++[.trees [t]]):=by
 refine H.nf _ (Fr.refl _ _) (Rt.oX λt' ht=>?_) λb hb=>.inr (.inr ?_)
 .simp at ht;subst ht;exact H.getD j hj
 .obtain ⟨t',ht,eG⟩:=Rt.bC.1 (aH.1 hb)
  simp at ht
  rw [ht] at eG
  exact ⟨_,cR hj,aH.2 eG⟩
section
variable {s:Sl} {l:List j8} {n:Nat}
theorem BO (dP:GG l) (qA:l.length<=1000000) (ih:∀m,m<=n->L8 s l m) (pb:Nat) (w:World) (x:Rx) (dO:kI):∀(f:Nat),f<=n->∀(acc:List Rt) (sl:Sl) (b2:Nat) (w1:World) (st:kI),Bt l f (Rt.bV acc) st=some (x,dO)->st.1<l.length->acc.length+f<=1000000->(∀b∈Rt.gV acc,w.heap.size<=b)->
  LH (·=pb) w w1 [pS pb s st,.g b2,.row aA 4 sl (acc.flatMap Rt.c)] [qd s l,.trees acc]->
  enthymemeref04_reader_expr.eE (bD pb) b2 0 0 0 ⟨none,0,0⟩ sl w1 (SA pb s w (λr w'=>o8 w x r w'/\dO.1<l.length) dO)
 |0,_=>λacc sl b2 w1 st he=>by unfold Bt at he;cases he
 |f+1,hf=>λacc sl b2 w1 st he hi HC BX H=>by
  have vb:=Rt.b0 (H.get 2:aO _ _ _ _ _).iD
  unfold Bt at he
  have fin:∀(w2:World) (lf:kI),lf.1<l.length->some (uY 4 (Rt.bV acc),lf)=some (x,dO)->LH (·=pb) w w2 [pS pb s lf,.g b2,.row aA 4 sl (acc.flatMap Rt.c)] [qd s l,.trees acc]->
    vq [b2] dC #[.i 4,sl.v] w2 λGg Gh Gi Gj w8=>loc [b2] w8 λrI=>SA pb s w (λr w'=>o8 w x r w'/\dO.1<l.length) dO (.returned (.agg #[.i Gg,.int .u8 Gh,.int .u8 Gi,Gj.v])) rI:=by
   intro w2 lf GK jt H2
   simp only [Option.some.injEq,Prod.mk.injEq] at jt
   obtain ⟨rfl,rfl⟩:=jt
   have qB:∀b∈(eJ sl acc).fp,w.heap.size<=b:=λb hb=>by
    rcases pg.1 hb with hb|hb
    .exact (H2.new _ (cR (i:=2) rfl) b (fY hb)).resolve_right (yY H2 1 rfl (fY hb))
    .exact BX b hb
   have H3:LH (·=pb) w w2 [pS pb s lf,.g b2] [qd s l,.trees acc,Rt.row sl acc,.tree (eJ sl acc)]:=H2.Iq 2 1 0 0 0
   refine H3.zp (CR 4 sl acc w2 (H3.getD 3)) (λb hb=>⟨_,cR (i:=3) rfl,aH.2 hb⟩) λt w3 ht H4 ft=>?_
   refine ⟨_,_,_,t.s,rfl,H4.aL λw4 H5=>⟨⟨⟨⟨t,rfl,ht,H5.getD 4,λb hb=>?_⟩,GK⟩,H5.get 0⟩,H5.fr⟩⟩
   rcases ft b hb with hb|hb
   .exact Nat.le_trans H3.fr.size hb
   .exact qB b hb
  have more:∀(w2:World) (lf:kI),lf.1<l.length->(match vP l f lf with
   |some (a,st)=>Bt l f (Rt.bV acc++[a]) st
   |none=>none)=some (x,dO)->LH (·=pb) w w2 [pS pb s lf,.g b2,.row aA 4 sl (acc.flatMap Rt.c)] [qd s l,.trees acc]->
    vq [b2] c9 #[.pointer (some (bD pb))] w2 λGc Gd Ge Gf w5=>fH w5 (.cells #[.i Gc,.int .u8 Gd,.int .u8 Ge,Gf.v] aA) λw6=>
     ∃(t13:Sl) (w7:World),Sem.run Tryz.prog (Builtin.append_ #[aC,aC] aC #[sl.v,.slice (some (nb w5)) 1 1]) w6=.ok (t13.v) w7/\kept [b2] w6 w7/\enthymemeref04_reader_expr.eE (bD pb) b2 0 0 0 ⟨none,0,0⟩ t13 w7 (SA pb s w (λr w'=>o8 w x r w'/\dO.1<l.length) dO):=by
   intro w2 lf GK jt H2
   cases hc:vP l f lf with
   |none=>rw [hc] at jt;cases jt
   |some y=>
    obtain ⟨a,mj⟩:=y
    rw [hc] at jt
    refine H2.kM ((ih f (by omega)).W0 pb lf w2 a mj hc GK H2.yK) ?_
    rintro _ w3 ⟨⟨u,rfl,hu,pu,fu⟩,xu⟩ _ F3
    have H4:=F3 (.tree u) pu λb hb=>fu b (aH.1 hb)
    have H4:LH (·=pb) w w3 [pS pb s mj,.g b2,.row aA 4 sl (acc.flatMap Rt.c)] [qd s l,.trees acc,.tree u]:=H4
    refine ⟨_,_,_,u.s,rfl,H4.uj 2 oA (xs:=acc.flatMap Rt.c) rfl (λs' w5 H5=>?_) (by omega)⟩
    have H6:LH (·=pb) w w5 [pS pb s mj,.g b2,.row aA 4 s' ((acc++[u]).flatMap Rt.c)] [qd s l,.trees (acc++[u])]:=by
     rw [mV]
     exact (H5.Ar 1 2).forget _ (by simp)
    refine BO dP qA ih pb w x dO f (by omega) (acc++[u]) s' b2 w5 mj ?_ xu (by simp;omega) (rn BX λb hb=>Nat.le_trans H2.fr.size (fu b hb)) H6
    rw [kz]
    have:Rt.bV [u]=[a]:=by simp [Rt.bV,hu]
    rw [this]
    exact jt
  refine enthymemeref04_reader_expr.aY _ _ _ _ _ _ _ _ _ (H.kM (uQ H.yK hi qA [124]) ?_)
  have ht:=qw dP hi [124] (by decide)
  rintro _ w2 rfl H2 _
  refine ⟨_,rfl,?_⟩
  cases hq:iE l [124] st with
  |mk q lf=>
   rw [hq] at he H2 ht
   cases q with
   |true=>exact more w2 lf ht he H2
   |false=>exact fin w2 lf ht he H2
theorem Ku (dP:GG l) (qA:l.length<=1000000) (hn:n<=100000) (ih:∀m,m<=n->L8 s l m) (pb:Nat) (st:kI) (w:World) (x:Rx) (dO:kI) (he:rm l (n+1) st=some (x,dO)) (hi:st.1<l.length) (H:D8 pb s l st w):
  Calls Tryz.prog cM #[.pointer (some (bD pb))] w (SA pb s w (λr w'=>o8 w x r w'/\dO.1<l.length) dO):=by
 unfold rm at he
 cases hc:vP l n st with
 |none=>rw [hc] at he;cases he
 |some y=>
  obtain ⟨a,mj⟩:=y
  rw [hc] at he
  refine enthymemeref04_reader_expr.cU _ w _ (H.bF λb2 w1 H1=>?_)
  have H1:LH (·=pb) w w1 [pS pb s st,.g b2] [qd s l]:=H1
  refine H1.kM ((ih n (Nat.le_refl _)).W0 pb st w1 a mj hc hi H1.yK) ?_
  rintro _ w3 ⟨⟨u,rfl,hu,pu,fu⟩,xu⟩ _ F3
  have H4:=F3 (.tree u) pu λb hb=>fu b (aH.1 hb)
  have H4:LH (·=pb) w w3 [pS pb s mj,.g b2] [qd s l,.tree u]:=H4
  refine ⟨_,_,_,u.s,rfl,H4.iQ (n:=1) (sz:=4) (cs:=u.c) rfl (by decide) λw4 H5=>?_⟩
  have H6:LH (·=pb) w w4 [pS pb s mj,.g b2,.row aA 4 ⟨some (bD w3.heap.size),1,1⟩ ([u].flatMap Rt.c)] [qd s l,.trees [u]]:=by
   have e:[u].flatMap Rt.c=u.c:=by simp
   rw [e]
   exact (H5.EA 1).forget _ (by simp)
  refine BO dP qA ih pb w x dO n (Nat.le_refl _) [u] _ b2 w4 mj ?_ xu (by simp;omega) (λb hb=>?_) H6
  .have:Rt.bV [u]=[a]:=by simp [Rt.bV,hu]
   rw [this]
   exact he
  .obtain ⟨t,ht,hb⟩:=Rt.bC.1 hb
   simp at ht
   rw [ht] at hb
   exact Nat.le_trans H1.fr.size (fu b hb)
theorem BK (dP:GG l) (qA:l.length<=1000000) (ih:∀m,m<=n->L8 s l m) (pb:Nat) (w:World) (x:Rx) (dO:kI):∀(f:Nat),f<=n->∀(acc:List Rt) (sl:Sl) (b2:Nat) (w1:World) (st:kI),Bu l f (Rt.bV acc) st=some (x,dO)->st.1<l.length->acc.length+f<=1000000->(∀b∈Rt.gV acc,w.heap.size<=b)->
  LH (·=pb) w w1 [pS pb s st,.g b2,.row aA 4 sl (acc.flatMap Rt.c)] [qd s l,.trees acc]->
  enthymemeref04_reader_conj.eE (bD pb) b2 0 0 0 ⟨none,0,0⟩ sl w1 (SA pb s w (λr w'=>o8 w x r w'/\dO.1<l.length) dO)
 |0,_=>λacc sl b2 w1 st he=>by unfold Bu at he;cases he
 |f+1,hf=>λacc sl b2 w1 st he hi HC BX H=>by
  have vb:=Rt.b0 (H.get 2:aO _ _ _ _ _).iD
  unfold Bu at he
  have fin:∀(w2:World) (lf:kI),lf.1<l.length->some (uY 5 (Rt.bV acc),lf)=some (x,dO)->LH (·=pb) w w2 [pS pb s lf,.g b2,.row aA 4 sl (acc.flatMap Rt.c)] [qd s l,.trees acc]->
    vq [b2] dC #[.i 5,sl.v] w2 λGg Gh Gi Gj w8=>loc [b2] w8 λrI=>SA pb s w (λr w'=>o8 w x r w'/\dO.1<l.length) dO (.returned (.agg #[.i Gg,.int .u8 Gh,.int .u8 Gi,Gj.v])) rI:=by
   intro w2 lf GK jt H2
   simp only [Option.some.injEq,Prod.mk.injEq] at jt
   obtain ⟨rfl,rfl⟩:=jt
   have qB:∀b∈(eJ sl acc).fp,w.heap.size<=b:=λb hb=>by
    rcases pg.1 hb with hb|hb
    .exact (H2.new _ (cR (i:=2) rfl) b (fY hb)).resolve_right (yY H2 1 rfl (fY hb))
    .exact BX b hb
   have H3:LH (·=pb) w w2 [pS pb s lf,.g b2] [qd s l,.trees acc,Rt.row sl acc,.tree (eJ sl acc)]:=H2.Iq 2 1 0 0 0
   refine H3.zp (CR 5 sl acc w2 (H3.getD 3)) (λb hb=>⟨_,cR (i:=3) rfl,aH.2 hb⟩) λt w3 ht H4 ft=>?_
   refine ⟨_,_,_,t.s,rfl,H4.aL λw4 H5=>⟨⟨⟨⟨t,rfl,ht,H5.getD 4,λb hb=>?_⟩,GK⟩,H5.get 0⟩,H5.fr⟩⟩
   rcases ft b hb with hb|hb
   .exact Nat.le_trans H3.fr.size hb
   .exact qB b hb
  have more:∀(w2:World) (lf:kI),lf.1<l.length->(match DG l f lf with
   |some (a,st)=>Bu l f (Rt.bV acc++[a]) st
   |none=>none)=some (x,dO)->LH (·=pb) w w2 [pS pb s lf,.g b2,.row aA 4 sl (acc.flatMap Rt.c)] [qd s l,.trees acc]->
    vq [b2] dJ #[.pointer (some (bD pb))] w2 λGc Gd Ge Gf w5=>fH w5 (.cells #[.i Gc,.int .u8 Gd,.int .u8 Ge,Gf.v] aA) λw6=>
     ∃(t13:Sl) (w7:World),Sem.run Tryz.prog (Builtin.append_ #[aC,aC] aC #[sl.v,.slice (some (nb w5)) 1 1]) w6=.ok (t13.v) w7/\kept [b2] w6 w7/\enthymemeref04_reader_conj.eE (bD pb) b2 0 0 0 ⟨none,0,0⟩ t13 w7 (SA pb s w (λr w'=>o8 w x r w'/\dO.1<l.length) dO):=by
   intro w2 lf GK jt H2
   cases hc:DG l f lf with
   |none=>rw [hc] at jt;cases jt
   |some y=>
    obtain ⟨a,mj⟩:=y
    rw [hc] at jt
    refine H2.kM ((ih f (by omega)).seq pb lf w2 a mj hc GK H2.yK) ?_
    rintro _ w3 ⟨⟨u,rfl,hu,pu,fu⟩,xu⟩ _ F3
    have H4:=F3 (.tree u) pu λb hb=>fu b (aH.1 hb)
    have H4:LH (·=pb) w w3 [pS pb s mj,.g b2,.row aA 4 sl (acc.flatMap Rt.c)] [qd s l,.trees acc,.tree u]:=H4
    refine ⟨_,_,_,u.s,rfl,H4.uj 2 oA (xs:=acc.flatMap Rt.c) rfl (λs' w5 H5=>?_) (by omega)⟩
    have H6:LH (·=pb) w w5 [pS pb s mj,.g b2,.row aA 4 s' ((acc++[u]).flatMap Rt.c)] [qd s l,.trees (acc++[u])]:=by
     rw [mV]
     exact (H5.Ar 1 2).forget _ (by simp)
    refine BK dP qA ih pb w x dO f (by omega) (acc++[u]) s' b2 w5 mj ?_ xu (by simp;omega) (rn BX λb hb=>Nat.le_trans H2.fr.size (fu b hb)) H6
    rw [kz]
    have:Rt.bV [u]=[a]:=by simp [Rt.bV,hu]
    rw [this]
    exact jt
  refine enthymemeref04_reader_conj.aY _ _ _ _ _ _ _ _ _ (H.kM (uQ H.yK hi qA [38]) ?_)
  have ht:=qw dP hi [38] (by decide)
  rintro _ w2 rfl H2 _
  refine ⟨_,rfl,?_⟩
  cases hq:iE l [38] st with
  |mk q lf=>
   rw [hq] at he H2 ht
   cases q with
   |true=>exact more w2 lf ht he H2
   |false=>exact fin w2 lf ht he H2
theorem Kq (dP:GG l) (qA:l.length<=1000000) (hn:n<=100000) (ih:∀m,m<=n->L8 s l m) (pb:Nat) (st:kI) (w:World) (x:Rx) (dO:kI) (he:vP l (n+1) st=some (x,dO)) (hi:st.1<l.length) (H:D8 pb s l st w):
  Calls Tryz.prog c9 #[.pointer (some (bD pb))] w (SA pb s w (λr w'=>o8 w x r w'/\dO.1<l.length) dO):=by
 unfold vP at he
 cases hc:DG l n st with
 |none=>rw [hc] at he;cases he
 |some y=>
  obtain ⟨a,mj⟩:=y
  rw [hc] at he
  refine enthymemeref04_reader_conj.cU _ w _ (H.bF λb2 w1 H1=>?_)
  have H1:LH (·=pb) w w1 [pS pb s st,.g b2] [qd s l]:=H1
  refine H1.kM ((ih n (Nat.le_refl _)).seq pb st w1 a mj hc hi H1.yK) ?_
  rintro _ w3 ⟨⟨u,rfl,hu,pu,fu⟩,xu⟩ _ F3
  have H4:=F3 (.tree u) pu λb hb=>fu b (aH.1 hb)
  have H4:LH (·=pb) w w3 [pS pb s mj,.g b2] [qd s l,.tree u]:=H4
  refine ⟨_,_,_,u.s,rfl,H4.iQ (n:=1) (sz:=4) (cs:=u.c) rfl (by decide) λw4 H5=>?_⟩
  have H6:LH (·=pb) w w4 [pS pb s mj,.g b2,.row aA 4 ⟨some (bD w3.heap.size),1,1⟩ ([u].flatMap Rt.c)] [qd s l,.trees [u]]:=by
   have e:[u].flatMap Rt.c=u.c:=by simp
   rw [e]
   exact (H5.EA 1).forget _ (by simp)
  refine BK dP qA ih pb w x dO n (Nat.le_refl _) [u] _ b2 w4 mj ?_ xu (by simp;omega) (λb hb=>?_) H6
  .have:Rt.bV [u]=[a]:=by simp [Rt.bV,hu]
   rw [this]
   exact he
  .obtain ⟨t,ht,hb⟩:=Rt.bC.1 hb
   simp at ht
   rw [ht] at hb
   exact Nat.le_trans H1.fr.size (fu b hb)
theorem FR (dP:GG l) (qA:l.length<=1000000) (ih:∀m,m<=n->L8 s l m) (pb:Nat) (w:World) (x:Rx) (dO:kI):∀(f:Nat),f<=n->∀(acc:List Rt) (sl:Sl) (b2:Nat) (w1:World) (st:kI),xB l f (Rt.bV acc) st=some (x,dO)->st.1<l.length->acc.length+f<=1000000->(∀b∈Rt.gV acc,w.heap.size<=b)->
  LH (·=pb) w w1 [pS pb s st,.g b2,.row aA 4 sl (acc.flatMap Rt.c)] [qd s l,.trees acc]->
  enthymemeref04_reader_seq.eE (bD pb) b2 0 0 0 ⟨none,0,0⟩ sl w1 (SA pb s w (λr w'=>o8 w x r w'/\dO.1<l.length) dO)
 |0,_=>λacc sl b2 w1 st he=>by unfold xB at he;cases he
 |f+1,hf=>λacc sl b2 w1 st he hi HC BX H=>by
  have vb:=Rt.b0 (H.get 2:aO _ _ _ _ _).iD
  unfold xB at he
  have fin:∀(w2:World) (lf:kI),lf.1<l.length->some (uY 3 (Rt.bV acc),lf)=some (x,dO)->LH (·=pb) w w2 [pS pb s lf,.g b2,.row aA 4 sl (acc.flatMap Rt.c)] [qd s l,.trees acc]->
    vq [b2] dC #[.i 3,sl.v] w2 λGg Gh Gi Gj w8=>loc [b2] w8 λrI=>SA pb s w (λr w'=>o8 w x r w'/\dO.1<l.length) dO (.returned (.agg #[.i Gg,.int .u8 Gh,.int .u8 Gi,Gj.v])) rI:=by
   intro w2 lf GK jt H2
   simp only [Option.some.injEq,Prod.mk.injEq] at jt
   obtain ⟨rfl,rfl⟩:=jt
   have qB:∀b∈(eJ sl acc).fp,w.heap.size<=b:=λb hb=>by
    rcases pg.1 hb with hb|hb
    .exact (H2.new _ (cR (i:=2) rfl) b (fY hb)).resolve_right (yY H2 1 rfl (fY hb))
    .exact BX b hb
   have H3:LH (·=pb) w w2 [pS pb s lf,.g b2] [qd s l,.trees acc,Rt.row sl acc,.tree (eJ sl acc)]:=H2.Iq 2 1 0 0 0
   refine H3.zp (CR 3 sl acc w2 (H3.getD 3)) (λb hb=>⟨_,cR (i:=3) rfl,aH.2 hb⟩) λt w3 ht H4 ft=>?_
   refine ⟨_,_,_,t.s,rfl,H4.aL λw4 H5=>⟨⟨⟨⟨t,rfl,ht,H5.getD 4,λb hb=>?_⟩,GK⟩,H5.get 0⟩,H5.fr⟩⟩
   rcases ft b hb with hb|hb
   .exact Nat.le_trans H3.fr.size hb
   .exact qB b hb
  have more:∀(w2:World) (lf:kI),lf.1<l.length->(match tq l f lf with
   |some (a,st)=>xB l f (Rt.bV acc++[a]) st
   |none=>none)=some (x,dO)->LH (·=pb) w w2 [pS pb s lf,.g b2,.row aA 4 sl (acc.flatMap Rt.c)] [qd s l,.trees acc]->
    vq [b2] cN #[.pointer (some (bD pb))] w2 λGc Gd Ge Gf w5=>fH w5 (.cells #[.i Gc,.int .u8 Gd,.int .u8 Ge,Gf.v] aA) λw6=>
     ∃(t13:Sl) (w7:World),Sem.run Tryz.prog (Builtin.append_ #[aC,aC] aC #[sl.v,.slice (some (nb w5)) 1 1]) w6=.ok (t13.v) w7/\kept [b2] w6 w7/\enthymemeref04_reader_seq.eE (bD pb) b2 0 0 0 ⟨none,0,0⟩ t13 w7 (SA pb s w (λr w'=>o8 w x r w'/\dO.1<l.length) dO):=by
   intro w2 lf GK jt H2
   cases hc:tq l f lf with
   |none=>rw [hc] at jt;cases jt
   |some y=>
    obtain ⟨a,mj⟩:=y
    rw [hc] at jt
    refine H2.kM ((ih f (by omega)).item pb lf w2 a mj hc GK H2.yK) ?_
    rintro _ w3 ⟨⟨u,rfl,hu,pu,fu⟩,xu⟩ _ F3
    have H4:=F3 (.tree u) pu λb hb=>fu b (aH.1 hb)
    have H4:LH (·=pb) w w3 [pS pb s mj,.g b2,.row aA 4 sl (acc.flatMap Rt.c)] [qd s l,.trees acc,.tree u]:=H4
    refine ⟨_,_,_,u.s,rfl,H4.uj 2 oA (xs:=acc.flatMap Rt.c) rfl (λs' w5 H5=>?_) (by omega)⟩
    have H6:LH (·=pb) w w5 [pS pb s mj,.g b2,.row aA 4 s' ((acc++[u]).flatMap Rt.c)] [qd s l,.trees (acc++[u])]:=by
     rw [mV]
     exact (H5.Ar 1 2).forget _ (by simp)
    refine FR dP qA ih pb w x dO f (by omega) (acc++[u]) s' b2 w5 mj ?_ xu (by simp;omega) (rn BX λb hb=>Nat.le_trans H2.fr.size (fu b hb)) H6
    rw [kz]
    have:Rt.bV [u]=[a]:=by simp [Rt.bV,hu]
    rw [this]
    exact jt
  refine enthymemeref04_reader_seq.aY _ _ _ _ _ _ _ _ _ (H.aK (Ms H.yK hi) ?_)
  rintro _ w2 rfl H2
  refine ⟨_,rfl,?_⟩
  cases hq:yP l st with
  |true=>rw [hq] at he;exact more w2 st hi he H2
  |false=>rw [hq] at he;exact fin w2 st hi he H2
theorem On (dP:GG l) (qA:l.length<=1000000) (hn:n<=100000) (ih:∀m,m<=n->L8 s l m) (pb:Nat) (st:kI) (w:World) (x:Rx) (dO:kI) (he:DG l (n+1) st=some (x,dO)) (hi:st.1<l.length) (H:D8 pb s l st w):
  Calls Tryz.prog dJ #[.pointer (some (bD pb))] w (SA pb s w (λr w'=>o8 w x r w'/\dO.1<l.length) dO):=by
 unfold DG at he
 cases hc:tq l n st with
 |none=>rw [hc] at he;cases he
 |some y=>
  obtain ⟨a,mj⟩:=y
  rw [hc] at he
  refine enthymemeref04_reader_seq.cU _ w _ (H.bF λb2 w1 H1=>?_)
  have H1:LH (·=pb) w w1 [pS pb s st,.g b2] [qd s l]:=H1
  refine H1.kM ((ih n (Nat.le_refl _)).item pb st w1 a mj hc hi H1.yK) ?_
  rintro _ w3 ⟨⟨u,rfl,hu,pu,fu⟩,xu⟩ _ F3
  have H4:=F3 (.tree u) pu λb hb=>fu b (aH.1 hb)
  have H4:LH (·=pb) w w3 [pS pb s mj,.g b2] [qd s l,.tree u]:=H4
  refine ⟨_,_,_,u.s,rfl,H4.iQ (n:=1) (sz:=4) (cs:=u.c) rfl (by decide) λw4 H5=>?_⟩
  have H6:LH (·=pb) w w4 [pS pb s mj,.g b2,.row aA 4 ⟨some (bD w3.heap.size),1,1⟩ ([u].flatMap Rt.c)] [qd s l,.trees [u]]:=by
   have e:[u].flatMap Rt.c=u.c:=by simp
   rw [e]
   exact (H5.EA 1).forget _ (by simp)
  refine FR dP qA ih pb w x dO n (Nat.le_refl _) [u] _ b2 w4 mj ?_ xu (by simp;omega) (λb hb=>?_) H6
  .have:Rt.bV [u]=[a]:=by simp [Rt.bV,hu]
   rw [this]
   exact he
  .obtain ⟨t,ht,hb⟩:=Rt.bC.1 hb
   simp at ht
   rw [ht] at hb
   exact Nat.le_trans H1.fr.size (fu b hb)
end
theorem _root_.Go.W.LH.stq {M:Nat->Prop} {w0 w:World} {L D:List En} {bs:List Nat} (H:LH M w0 w L D) (i j:Nat) {b:Nat} {vs:List Value} {T:TypeId} {v:Value} {K:World->Prop} (hi:L[i]? =some (.c b vs T)) (hK:∀w',LH M w0 w' (L.set i (.c b (vs.set j v) T)) D->K w') (hj:j<vs.length:=by simp) (ke:∀b∈bs,En.g b∈L:=by simp):bT w ((bD b).add j) v λw1=>kept bs w w1/\K w1:=by
 obtain ⟨x1,x2,x3⟩:=H.set (v:=v) i j hi hj
 obtain ⟨_,_,_,x4⟩:=JR (H.ob i hi) j (by simpa using hj) v
 refine ⟨x1,x2,λb' hb=>?_,hK _ x3⟩
 refine x4.gY b' (H.own _ (ke b' hb)) λhm=>oB H hi (IU w b vs T) (ke b' hb) ?_
 rw [hm];exact Hg.2 rfl
theorem _root_.Go.W.LH.one {M:Nat->Prop} {w0 w:World} {L D:List En} (H:LH M w0 w L D) (i j:Nat) {e:TypeId} {sl:Sl} {u:Rt} (k:Int) (lo hi:UInt8) (wV:L[i]? =some (.row e 4 sl u.c):=by rfl) (hj:D[j]? =some (.tree u):=by rfl):LH M w0 w (L.eraseIdx i) (D++[.tree (.mk k lo hi sl [u])]):=by
 have H1:=H.EA j hj
 have e:[u].flatMap Rt.c=u.c:=by simp
 have H2:=H1.Iq i D.length k lo hi (s:=sl) (ts:=[u]) (by rw [e];exact wV) (by simp)
 exact H2.forget _ (λd hd=>by
  simp only [fS,cS,fF,or_false] at hd ⊢
  rcases hd with hd|hd
  .exact .inl (.inl (.inl hd))
  .exact .inr hd)
theorem Dx {w:World} {sl:Sl} {u:Rt} {k:Int} {lo hi:UInt8} (h1:∀b∈aZ sl,w.heap.size<=b) (h2:∀b∈u.fp,w.heap.size<=b):∀b∈(Rt.mk k lo hi sl [u]).fp,w.heap.size<=b:=λb hb=>by
 unfold Rt.fp at hb
 rcases fS.1 hb with hb|hb
 .exact Ah h1 b hb
 .obtain ⟨t,ht,hb⟩:=Rt.bC.1 hb
  simp at ht
  rw [ht] at hb
  exact h2 b hb
section
variable {s:Sl} {l:List j8} {n:Nat}
theorem B2 (dP:GG l) (qA:l.length<=1000000) (pb:Nat) (w:World) (x:Rx) (dO:kI):∀(f:Nat) (u:Rt) (b2 b4:Nat) (w1:World) (st:kI),Aw l f u.rx st=some (x,dO)->st.1<l.length->(∀b∈u.fp,w.heap.size<=b)->
  LH (·=pb) w w1 [pS pb s st,.g b2,.g b4] [qd s l,.tree u]->
  enthymemeref04_reader_item.eE (bD pb) b2 0 0 0 ⟨none,0,0⟩ b4 u.k (u.lo.toNat:Int) (u.hi.toNat:Int) u.s w1 (SA pb s w (λr w'=>o8 w x r w'/\dO.1<l.length) dO)
 |0,u,b2,b4,w1,st,he,_,_,_=>by unfold Aw at he;cases he
 |f+1,u,b2,b4,w1,st,he,hi,BX,H=>by
  unfold Aw at he
  refine enthymemeref04_reader_item.aY _ _ _ _ _ _ _ _ _ _ _ _ _ (H.kM (uQ H.yK hi qA [42]) ?_)
  have ht:=qw dP hi [42] (by decide)
  rintro _ w2 rfl H2 _
  refine ⟨_,rfl,?_⟩
  cases hq:iE l [42] st with
  |mk q lf=>
   rw [hq] at he H2 ht
   cases q with
   |true=>
    dsimp only at he ht
    refine aQ rfl ?_
    refine H2.iQ (n:=1) (sz:=4) (cs:=u.c) rfl (by decide) λw3 H3=>H3.aL λw4 H4=>?_
    have H5:LH (·=pb) w w4 [pS pb s lf,.g b2,.g b4] [qd s l,.tree (.mk 7 0 0 ⟨some (bD w2.heap.size),1,1⟩ [u])]:=(H4.one 3 1 7 0 0).forget _ (by simp)
    refine B2 dP qA pb w x dO f (.mk 7 0 0 ⟨some (bD w2.heap.size),1,1⟩ [u]) b2 b4 w4 lf he ht (Dx (λb hb=>?_) BX) H5
    simp only [aZ,cS,fF,or_false] at hb
    rw [hb];exact H2.fr.size
   |false=>
    dsimp only at he ht
    simp only [Option.some.injEq,Prod.mk.injEq] at he
    obtain ⟨he,rfl⟩:=he
    refine aI rfl ?_
    exact H2.aL λw3 H3=>⟨⟨⟨⟨u,rfl,he,H3.getD 1,BX⟩,ht⟩,H3.get 0⟩,H3.fr⟩
theorem KU (dP:GG l) (qA:l.length<=1000000) (ih:L8 s l n) (pb:Nat) (st:kI) (w:World) (x:Rx) (dO:kI) (he:tq l (n+1) st=some (x,dO)) (hi:st.1<l.length) (H:D8 pb s l st w):
  Calls Tryz.prog cN #[.pointer (some (bD pb))] w (SA pb s w (λr w'=>o8 w x r w'/\dO.1<l.length) dO):=by
 unfold tq at he
 refine enthymemeref04_reader_item.cU _ w _ (H.bF λb2 w1 H1=>?_)
 have H1:LH (·=pb) w w1 [pS pb s st,.g b2] [qd s l]:=H1
 refine H1.kM (uQ H1.yK hi qA [33]) ?_
 have ht:=qw dP hi [33] (by decide)
 rintro _ w2 rfl H2 _
 refine ⟨_,rfl,?_⟩
 cases hq:iE l [33] st with
 |mk q lf=>
  rw [hq] at he H2 ht
  cases q with
  |true=>
   dsimp only at he ht
   cases hc:tq l n lf with
   |none=>rw [hc] at he;cases he
   |some y=>
    obtain ⟨a,mj⟩:=y
    rw [hc] at he
    simp only [Option.some.injEq,Prod.mk.injEq] at he
    obtain ⟨he,rfl⟩:=he
    refine aQ rfl ?_
    refine H2.kM (ih.item pb lf w2 a mj hc ht H2.yK) ?_
    rintro _ w3 ⟨⟨u,rfl,hu,pu,fu⟩,xu⟩ _ F3
    have H3:=F3 (.tree u) pu λb hb=>fu b (aH.1 hb)
    refine ⟨_,_,_,u.s,rfl,H3.iQ (n:=1) (sz:=4) (cs:=u.c) rfl (by decide) λw4 H4=>H4.aL λw5 H5=>?_⟩
    have H6:LH (·=pb) w w5 [pS pb s mj,.g b2] [qd s l,.tree (.mk 6 0 0 ⟨some (bD w3.heap.size),1,1⟩ [u])]:=(H5.one 2 1 6 0 0).forget _ (by simp)
    refine ⟨⟨⟨⟨.mk 6 0 0 ⟨some (bD w3.heap.size),1,1⟩ [u],rfl,?_,H6.getD 1,Dx (λb hb=>?_) (λb hb=>Nat.le_trans H2.fr.size (fu b hb))⟩,xu⟩,H6.get 0⟩,H6.fr⟩
    .rw [<-he,<-hu];rfl
    .simp only [aZ,cS,fF,or_false] at hb
     rw [hb];exact H3.fr.size
  |false=>
   dsimp only at he ht
   cases hc:za l n lf with
   |none=>rw [hc] at he;cases he
   |some y=>
    obtain ⟨a,mj⟩:=y
    rw [hc] at he
    refine aI rfl ?_
    refine H2.kM (ih.atom pb lf w2 a mj hc ht H2.yK) ?_
    rintro _ w3 ⟨⟨u,rfl,hu,pu,fu⟩,xu⟩ _ F3
    have H3:=F3 (.tree u) pu λb hb=>fu b (aH.1 hb)
    refine ⟨_,_,_,u.s,rfl,H3.bF λb4 w4 H4=>H4.aL λw5 H5=>?_⟩
    exact B2 dP qA pb w x dO n u b2 b4 w5 mj (by rw [hu];exact he) xu (λb hb=>Nat.le_trans H2.fr.size (fu b hb)) H5
theorem B7 (dP:GG l) (qA:l.length<=1000000) (ih:∀m,m<=n->L8 s l m) (pb:Nat) (w:World) (m:List Rx) (dO:kI):∀(f:Nat),f<=n->∀(acc:List Rt) (sl:Sl) (w1:World) (st:kI),Fo l f (Rt.bV acc) st=some (m,dO)->st.1<l.length->acc.length+f<=1000000->(∀b∈Rt.gV acc,w.heap.size<=b)->
  LH (·=pb) w w1 [pS pb s st,.row aA 4 sl (acc.flatMap Rt.c)] [qd s l,.trees acc]->
  enthymemeref04_reader_kids.L1 (bD pb) sl w1 (SA pb s w (λr w'=>(∃(sl:Sl) (a:List Rt),r=.returned sl.v/\Rt.bV a=m/\(eJ sl a).P w'/\∀b∈(eJ sl a).fp,w.heap.size<=b)/\dO.1<l.length) dO)
 |0,_=>λacc sl w1 st he=>by unfold Fo at he;cases he
 |f+1,hf=>λacc sl w1 st he hi HC BX H=>by
  have vb:=Rt.b0 (H.get 1:aO _ _ _ _ _).iD
  unfold Fo at he
  refine enthymemeref04_reader_kids.oI _ _ _ _ (H.zn (uQ H.yK hi qA [44]) ?_)
  have ht:=qw dP hi [44] (by decide)
  rintro _ w2 rfl H2 _
  refine ⟨_,rfl,?_⟩
  cases hq:iE l [44] st with
  |mk q lf=>
   rw [hq] at he H2 ht
   cases q with
   |true=>
    dsimp only at he ht
    cases hc:rm l f lf with
    |none=>rw [hc] at he;cases he
    |some y=>
     obtain ⟨a,mj⟩:=y
     rw [hc] at he
     refine aQ rfl ?_
     refine H2.zn ((ih f (by omega)).expr pb lf w2 a mj hc ht H2.yK) ?_
     rintro _ w3 ⟨⟨u,rfl,hu,pu,fu⟩,xu⟩ _ F3
     have H4:=F3 (.tree u) pu λb hb=>fu b (aH.1 hb)
     have H4:LH (·=pb) w w3 [pS pb s mj,.row aA 4 sl (acc.flatMap Rt.c)] [qd s l,.trees acc,.tree u]:=H4
     refine ⟨_,_,_,u.s,rfl,H4.YT 1 oA (xs:=acc.flatMap Rt.c) rfl (λs' w5 H5 _ _=>?_) (by omega)⟩
     have H6:LH (·=pb) w w5 [pS pb s mj,.row aA 4 s' ((acc++[u]).flatMap Rt.c)] [qd s l,.trees (acc++[u])]:=by
      rw [mV]
      exact (H5.Ar 1 2).forget _ (by simp)
     refine B7 dP qA ih pb w m dO f (by omega) (acc++[u]) s' w5 mj ?_ xu (by simp;omega) (rn BX λb hb=>Nat.le_trans H2.fr.size (fu b hb)) H6
     rw [kz]
     have:Rt.bV [u]=[a]:=by simp [Rt.bV,hu]
     rw [this]
     exact he
   |false=>
    dsimp only at he ht
    simp only [Option.some.injEq,Prod.mk.injEq] at he
    obtain ⟨rfl,rfl⟩:=he
    refine aI rfl ?_
    refine H2.zn (zi H2.yK ht qA [41]) ?_
    rintro _ w3 rfl H3 _
    refine ⟨rfl,⟨⟨⟨sl,acc,rfl,rfl,fR.2 ⟨(H3.get 1:aO _ _ _ _ _).iD,H3.getD 1⟩,λb hb=>?_⟩,tB dP ht [41] (by decide)⟩,H3.get 0⟩,H3.fr⟩
    rcases pg.1 hb with hb|hb
    .exact (H3.new _ (cR (i:=1) rfl) b (fY hb)).resolve_right (yY H3 0 rfl (fY hb))
    .exact BX b hb
theorem KV (dP:GG l) (qA:l.length<=1000000) (hn:n<=100000) (ih:∀m,m<=n->L8 s l m) (pb:Nat) (st:kI) (w:World) (m:List Rx) (dO:kI) (he:zS l (n+1) st=some (m,dO)) (hi:st.1<l.length) (H:D8 pb s l st w):
  Calls Tryz.prog fP #[.pointer (some (bD pb))] w (SA pb s w (λr w'=>(∃(sl:Sl) (a:List Rt),r=.returned sl.v/\Rt.bV a=m/\(eJ sl a).P w'/\∀b∈(eJ sl a).fp,w.heap.size<=b)/\dO.1<l.length) dO):=by
 unfold zS at he
 refine enthymemeref04_reader_kids.ok _ w _ (H.zn (zi H hi qA [40]) ?_)
 have DY:=tB dP hi [40] (by decide)
 rintro _ w1 rfl H1 _
 refine ⟨rfl,H1.zn (uQ H1.yK DY qA [41]) ?_⟩
 have ht:=qw dP DY [41] (by decide)
 rintro _ w2 rfl H2 _
 cases hq:iE l [41] (qL l [40] st) with
 |mk q lf=>
  rw [hq] at he H2 ht
  have none_:some (([]:List Rx),lf)=some (m,dO)->enthymemeref04_reader_kids.S0 w2 (SA pb s w (λr w'=>(∃(sl:Sl) (a:List Rt),r=.returned sl.v/\Rt.bV a=m/\(eJ sl a).P w'/\∀b∈(eJ sl a).fp,w.heap.size<=b)/\dO.1<l.length) dO):=by
   intro he
   simp only [Option.some.injEq,Prod.mk.injEq] at he
   obtain ⟨rfl,rfl⟩:=he
   refine ⟨⟨⟨⟨⟨none,0,0⟩,[],rfl,rfl,fR.2 ⟨jU.nil 4 w2,by unfold Rt.Ps;trivial⟩,λb hb=>?_⟩,ht⟩,H2.get 0⟩,H2.fr⟩
   rcases pg.1 hb with hb|hb
   .simp [Rt.row,En.iD] at hb
   .unfold Rt.gV at hb;cases hb
  refine ⟨_,rfl,lf.2,H2.ld 0 2,bA (λhb=>none_ (by simpa [hb] using he)) (λhb=>bA (λKK=>none_ (by
   have KK:q=true:=KK
   simpa [KK] using he)) (λKK=>?_))⟩
  have KK:q=false:=KK
  simp only [hb,KK,Bool.or_false,cond_false] at he
  cases hc:rm l n lf with
  |none=>rw [hc] at he;cases he
  |some y=>
   obtain ⟨a,mj⟩:=y
   rw [hc] at he
   refine H2.zn ((ih n (Nat.le_refl _)).expr pb lf w2 a mj hc ht H2.yK) ?_
   rintro _ w3 ⟨⟨u,rfl,hu,pu,fu⟩,xu⟩ _ F3
   have H4:=F3 (.tree u) pu λb hb=>fu b (aH.1 hb)
   refine ⟨_,_,_,u.s,rfl,H4.iQ (n:=1) (sz:=4) (cs:=u.c) rfl (by decide) λw4 H5=>?_⟩
   have H6:LH (·=pb) w w4 [pS pb s mj,.row aA 4 ⟨some (bD w3.heap.size),1,1⟩ ([u].flatMap Rt.c)] [qd s l,.trees [u]]:=by
    have e:[u].flatMap Rt.c=u.c:=by simp
    rw [e]
    exact (H5.EA 1).forget _ (by simp)
   refine B7 dP qA ih pb w m dO n (Nat.le_refl _) [u] _ w4 mj ?_ xu (by simp;omega) (λb hb=>?_) H6
   .have:Rt.bV [u]=[a]:=by simp [Rt.bV,hu]
    rw [this]
    exact he
   .obtain ⟨t,ht,hb⟩:=Rt.bC.1 hb
    simp at ht
    rw [ht] at hb
    exact Nat.le_trans H2.fr.size (fu b hb)
end
def xX:List Value:=[.string (ba (tR 0)),.string (ba (tR 1)),.string (ba (tR 2)),.string (ba (tR 3)),.string (ba (tR 4)),.string (ba (tR 5))]
theorem Cw {k:Nat} (h:k<6):xX[k]? =some (.string (ba (tR k))):=by
 have:k=0\/k=1\/k=2\/k=3\/k=4\/k=5:=by omega
 rcases this with rfl|rfl|rfl|rfl|rfl|rfl<;>rfl
theorem GB {k:Nat} (h:k<6) (h2:k≠2):tR k≠[]/\tR k≠[32]:=by
 have:k=0\/k=1\/k=2\/k=3\/k=4\/k=5:=by omega
 rcases this with rfl|rfl|rfl|rfl|rfl|rfl<;>first |exact absurd rfl h2|exact ⟨by decide,by decide⟩
def tu (k:Int) (lo hi:UInt8):Rt:=.mk k lo hi ⟨none,0,0⟩ []
theorem u9 (k:Int) (lo hi:UInt8) (w:World):(tu k lo hi).P w:=by
 unfold tu Rt.P Rt.Ps
 exact ⟨jU.nil 4 w,trivial⟩
theorem rV {k:Int} {lo hi:UInt8} {b:Nat}:¬b∈(tu k lo hi).fp:=λh=>by
 unfold tu Rt.fp Rt.gV at h
 rcases fS.1 h with h|h
 .simp [Rt.row,En.iD] at h
 .cases h
section
variable {s:Sl} {l:List j8} {n:Nat}
theorem Ke (dP:GG l) (qA:l.length<=1000000) (ih:L8 s l n) (pb:Nat) (st:kI) (w:World) (x:Rx) (dO:kI) (he:za l (n+1) st=some (x,dO)) (hi:st.1<l.length) (H:D8 pb s l st w):
  Calls Tryz.prog fO #[.pointer (some (bD pb))] w (SA pb s w (λr w'=>o8 w x r w'/\dO.1<l.length) dO):=by
 let R:aD:=SA pb s w (λr w'=>o8 w x r w'/\dO.1<l.length) dO
 have loop:∀(f k:Nat) (b2 bw:Nat) (w1:World),f+k=6->oH l st 6 0=oH l st f k->(match oH l st 6 0 with
   |some k=>bif Nat.ble k 2 then some (Rx.mk k 0 0 [],(st.1+1,st.2)) else match zS l n (st.1+1,st.2) with
    |some (m,st)=>some (Rx.mk k 0 0 m,st)
    |none=>none
   |none=>let st:=qL l [40] st
    bif st.2 then some (xF,st) else match rm l n st with
    |some (a,st)=>some (a,qL l [41] st)
    |none=>none)=some (x,dO)->LH (·=pb) w w1 [pS pb s st,.g b2,.c bw xX cJ] [qd s l]->
   enthymemeref04_reader_atom.mD (bD pb) b2 0 0 0 ⟨none,0,0⟩ ⟨some (bD bw),6,6⟩ (k:Int) w1 R:=by
  intro f
  induction f with
  |zero=>
   intro k b2 bw w1 hk hw he H1
   have e0:oH l st 0 k=none:=by unfold oH;rfl
   rw [hw,e0] at he
   dsimp only at he
   have DY:=tB dP hi [40] (by decide)
   refine enthymemeref04_reader_atom.dM _ _ _ _ _ _ _ _ _ _ (aI (decide_eq_false (by omega)) (H1.kM (zi H1.yK hi qA [40]) ?_))
   rintro _ w2 rfl H2 _
   generalize qL l [40] st=lf at he DY H2
   refine ⟨rfl,lf.2,H2.ld 0 2,bA (λhb=>?_) (λhb=>?_)⟩
   .rw [hb] at he
    simp only [cond_true,Option.some.injEq,Prod.mk.injEq] at he
    obtain ⟨rfl,rfl⟩:=he
    exact H2.aL λw3 H3=>⟨⟨⟨⟨m8,rfl,rfl,wo _,λb hb=>(n8 hb).elim⟩,DY⟩,H3.get 0⟩,H3.fr⟩
   .rw [hb] at he
    dsimp only [cond_false] at he
    cases hc:rm l n lf with
    |none=>rw [hc] at he;cases he
    |some y=>
     obtain ⟨a,mj⟩:=y
     rw [hc] at he
     simp only [Option.some.injEq,Prod.mk.injEq] at he
     obtain ⟨rfl,rfl⟩:=he
     refine H2.kM (ih.expr pb lf w2 a mj hc DY H2.yK) ?_
     rintro _ w3 ⟨⟨u,rfl,hu,pu,fu⟩,xu⟩ _ F3
     have H3:=F3 (.tree u) pu λb hb=>fu b (aH.1 hb)
     refine ⟨_,_,_,u.s,rfl,H3.bF λb6 w4 H4=>H4.aL λw5 H5=>?_⟩
     have H5:LH (·=pb) w w5 (pS pb s mj::[.g b2,.c bw xX cJ,.g b6]) [qd s l,.tree u]:=H5
     refine H5.kM (zi H5.yK xu qA [41]) ?_
     rintro _ w6 rfl H6 _
     exact ⟨rfl,H6.aL λw7 H7=>⟨⟨⟨⟨u,rfl,hu,H7.getD 1,λb hb=>Nat.le_trans H2.fr.size (fu b hb)⟩,tB dP xu [41] (by decide)⟩,H7.get 0⟩,H7.fr⟩⟩
  |succ f Ze=>
   intro k b2 bw w1 hk hw he H1
   have next:oH l st (f+1) k=oH l st f (k+1)->∀w2,LH (·=pb) w w2 [pS pb s st,.g b2,.c bw xX cJ] [qd s l]->enthymemeref04_reader_atom.fB (bD pb) b2 0 0 0 ⟨none,0,0⟩ ⟨some (bD bw),6,6⟩ (k:Int) w2 R:=by
    intro hx w2 H2
    show enthymemeref04_reader_atom.mD _ _ _ _ _ _ _ _ _ _
    rw [aX _ (by omega)]
    exact Ze (k+1) b2 bw w2 (by omega) (by rw [hw,hx]) he H2
   refine enthymemeref04_reader_atom.dM _ _ _ _ _ _ _ _ _ _ (aQ (decide_eq_true (by omega)) (aJ (λsM=>H1.aL λw2 H2=>next (by
    have:k=2:=by omega
    subst this
    conv=>lhs;unfold oH
    rfl) w2 H2) (λsM=>⟨by omega,by show (k:Int)<((6:Nat):Int);omega,?_⟩)))
   have sM:k≠2:=by omega
   have BU:Nat.beq k 2=false:=by
    cases h:Nat.beq k 2 with
    |false=>rfl
    |true=>exact absurd (Nat.eq_of_beq_eq_true h) sM
   refine wy (H1.aL λw2 H2=>?_)
   rw [Int.toNat_natCast,Nat.mul_one]
   refine ⟨ba (tR k),H2.ld 2 k rfl (Cw (by omega)),H2.aK (MC H2.yK hi) ?_⟩
   rintro _ w3 rfl H3
   refine ⟨_,rfl,H3.ld 2 k rfl (Cw (by omega)),?_⟩
   rw [Bx]
   refine eT (λhs=>next (by
    conv=>lhs;unfold oH
    rw [BU,hs];rfl) w3 H3) (λhs=>?_)
   have XM:=eq_of_beq hs
   have hwk:oH l st 6 0=some k:=by
    rw [hw]
    conv=>lhs;unfold oH
    rw [BU,hs];rfl
   rw [hwk] at he
   dsimp only at he
   have XB:st.1+1<l.length:=by
    refine Fg dP hi (by rw [XM];exact (GB (by omega) sM).1) ?_
    cases hb:st.2 with
    |false=>rfl
    |true=>
     exfalso
     refine (GB (k:=k) (by omega) sM).2 ?_
     rw [<-XM];unfold oa;rw [hb];rfl
   refine ⟨(st.1:Int),H3.ld 0 1,?_⟩
   rw [aX _ (by omega)]
   refine H3.stq 0 1 rfl λw4 H4=>?_
   have H4:LH (·=pb) w w4 [pS pb s (st.1+1,st.2),.g b2,.c bw xX cJ] [qd s l]:=H4
   refine H4.bF λb5 w5 H5=>aN (λHH=>?_) (λHH=>?_)
   .have Xo:Nat.ble k 2=false:=by
     cases h:Nat.ble k 2 with
     |false=>rfl
     |true=>have:=Nat.le_of_ble_eq_true h;omega
    rw [Xo] at he
    dsimp only [cond_false] at he
    cases hc:zS l n (st.1+1,st.2) with
    |none=>rw [hc] at he;cases he
    |some y=>
     obtain ⟨m,mj⟩:=y
     rw [hc] at he
     simp only [Option.some.injEq,Prod.mk.injEq] at he
     obtain ⟨hx,rfl⟩:=he
     refine H5.aL λw9 H9=>?_
     have H9:LH (·=pb) w w9 (pS pb s (st.1+1,st.2)::[.g b2,.c bw xX cJ,.g b5]) [qd s l]:=H9
     refine H9.kM (ih.kids pb (st.1+1,st.2) w9 m mj hc XB H9.yK) ?_
     rintro _ pE ⟨⟨sl,a,rfl,ha,pa,fa⟩,xu⟩ _ F10
     have mJ:=F10 (.tree (eJ sl a)) pa λb hb=>fa b (aH.1 hb)
     refine ⟨sl,rfl,mJ.aL λsj qR=>qR.aL λrI qS=>?_⟩
     refine ⟨⟨⟨⟨.mk k 0 0 sl a,rfl,?_,?_,λb hb=>?_⟩,xu⟩,qS.get 0⟩,qS.fr⟩
     .rw [<-hx,<-ha];rfl
     .have:=fR.1 (show (eJ sl a).P rI from qS.getD 1)
      unfold Rt.P
      exact this
     .refine Nat.le_trans H9.fr.size (fa b ?_)
      unfold Rt.fp at hb
      unfold eJ Rt.fp
      exact hb
   .have Xo:Nat.ble k 2=true:=Nat.ble_eq_true_of_le (by omega)
    rw [Xo] at he
    simp only [cond_true,Option.some.injEq,Prod.mk.injEq] at he
    obtain ⟨hx,rfl⟩:=he
    refine H5.aL λw6 H6=>H6.aL λw7 H7=>⟨⟨⟨⟨tu k 0 0,rfl,?_,u9 _ _ _ _,λb hb=>(rV hb).elim⟩,XB⟩,H7.get 0⟩,H7.fr⟩
    rw [<-hx];rfl
 have s0:∀(b2:Nat) (w1:World),(!st.2&&Nat.beq (jT l st.1).k 2)=false->LH (·=pb) w w1 [pS pb s st,.g b2] [qd s l]->enthymemeref04_reader_atom.dV (bD pb) b2 0 0 0 ⟨none,0,0⟩ w1 R:=by
  intro b2 w1 hq H1
  unfold za at he
  rw [hq] at he
  dsimp only [cond_false] at he
  refine H1.nw λw2 _ H2=>?_
  exact loop 6 0 b2 w1.heap.size w2 (by omega) rfl he H2
 refine enthymemeref04_reader_atom.cU _ w _ (H.bF λb2 w1 H1=>H1.aL λw2 H2=>⟨st.2,H2.ld 0 2,eT (λhb=>?_) (λhb=>s0 b2 w2 (by rw [hb];rfl) H2)⟩)
 have hn:=Gq (H2.getD 0:jU _ _ _ _)
 refine ⟨s,H2.ld 0 0,(st.1:Int),H2.ld 0 1,by omega,by omega,AG (H2.getD 0) hi λp hp c=>⟨((jT l st.1).k:Int),?_,aJ (λh2=>?_) (λh2=>s0 b2 w2 (by
  have:Nat.beq (jT l st.1).k 2=false:=by
   cases h:Nat.beq (jT l st.1).k 2 with
   |false=>rfl
   |true=>have:=Nat.eq_of_beq_eq_true h;omega
  rw [this];simp) H2)⟩⟩
 .rw [Int.toNat_natCast,uN];exact c.c2
 have h2:(jT l st.1).k=2:=by omega
 have XB:st.1+1<l.length:=by
  rcases Nat.lt_or_ge (st.1+1) l.length with h|h
  .exact h
  .exfalso
   have e:st.1=l.length - 1:=by omega
   rw [e,dP.2.2] at h2
   cases h2
 refine ⟨(st.1:Int),H2.ld 0 1,?_⟩
 rw [aX _ (by omega)]
 refine H2.stq 0 1 rfl λw3 H3=>?_
 have H3:LH (·=pb) w w3 [pS pb s (st.1+1,st.2),.g b2] [qd s l]:=H3
 refine H3.aL λw4 H4=>⟨s,H4.ld 0 0,((st.1+1:Nat):Int),H4.ld 0 1,?_⟩
 have em:IntKind.wrap .i64 (((st.1+1:Nat):Int) - 1)=(st.1:Int):=by rw [IntWalk.i64_in _ (by omega)];omega
 rw [em]
 unfold za at he
 rw [hb,h2] at he
 have he:some (Rx.mk 2 (jT l st.1).lo (jT l st.1).hi [],(st.1+1,false))=some (x,dO):=he
 simp only [Option.some.injEq,Prod.mk.injEq] at he
 obtain ⟨he,jt⟩:=he
 refine ⟨by omega,by omega,AG (H4.getD 0) hi λp hp c=>⟨2,(jT l st.1).lo.toNat,(jT l st.1).hi.toNat,⟨none,0,0⟩,?_,?_,?_,?_,H4.aL λw5 H5=>⟨⟨⟨⟨tu 2 (jT l st.1).lo (jT l st.1).hi,rfl,he,u9 _ _ _ _,λb hb=>(rV hb).elim⟩,by rw [<-jt];exact XB⟩,?_⟩,H5.fr⟩⟩⟩
 .rw [Int.toNat_natCast,uN,c.c2,h2];rfl
 .rw [Int.toNat_natCast,add_add];exact c.c3
 .rw [Int.toNat_natCast,add_add];exact c.c4
 .rw [Int.toNat_natCast,add_add];exact c.c5
 .have:=H5.get 0
  rw [<-jt,<-hb]
  exact this
theorem okp (dP:GG l) (qA:l.length<=1000000):∀n:Nat,n<=100000->∀m,m<=n->L8 s l m
 |0,_=>λm hm=>by
  have:m=0:=by omega
  subst this
  exact ⟨λpb st w x dO he=>(by unfold rm at he;cases he),λpb st w x dO he=>(by unfold vP at he;cases he),λpb st w x dO he=>(by unfold DG at he;cases he),λpb st w x dO he=>(by unfold tq at he;cases he),λpb st w x dO he=>(by unfold za at he;cases he),λpb st w x dO he=>(by unfold zS at he;cases he)⟩
 |n+1,hn=>λm hm=>by
  have ih:=okp dP qA n (by omega)
  rcases Nat.lt_or_ge m (n+1) with h|h
  .exact ih m (by omega)
  have:m=n+1:=by omega
  subst this
  exact ⟨λpb st w x dO he hi H=>Ku dP qA (by omega) ih pb st w x dO he hi H,λpb st w x dO he hi H=>Kq dP qA (by omega) ih pb st w x dO he hi H,λpb st w x dO he hi H=>On dP qA (by omega) ih pb st w x dO he hi H,λpb st w x dO he hi H=>KU dP qA (ih n (Nat.le_refl _)) pb st w x dO he hi H,λpb st w x dO he hi H=>Ke dP qA (ih n (Nat.le_refl _)) pb st w x dO he hi H,λpb st w x dO he hi H=>KV dP qA (by omega) ih pb st w x dO he hi H⟩
end
theorem _root_.Go.W.LH.perm {M:Nat->Prop} {w0 w:World} {L L' D:List En} (H:LH M w0 w L D) (h:L.Perm L'):LH M w0 w L' D:=
 ⟨H.fr,λe he=>H.own e (h.mem_iff.2 he),H.rd,λe he=>H.new e (h.mem_iff.2 he),(h.flatMap_right (·.fp)).nodup_iff.1 H.nd,λe he b hb e' mG=>H.dj e he b hb e' (h.mem_iff.2 mG)⟩
theorem AF (s:BL):∀(f i:Nat),s.length<f+i->∃init,DO s f i=init++[⟨[],s.length,0,0,0⟩]/\init.length+i<=max i s.length
 |0,i,h=>⟨[],rfl,by simp;omega⟩
 |f+1,i,h=>by
  unfold DO
  split
  .exact ⟨[],rfl,by simp;omega⟩
  .split
   .obtain ⟨init,h1,h2⟩:=AF s f (i+1) (by omega)
    exact ⟨init,h1,by omega⟩
   .simp only
    have hr:=Af s i
    have hw:=JO s i s.length 1 (by omega)
    generalize iC s i=g at hr
    generalize Bk s i s.length 1=e at hw
    have hn:1<=(if g.n=0 then e else g.n)/\i+(if g.n=0 then e else g.n)<=s.length:=by split<;>omega
    generalize (if g.n=0 then e else g.n)=n at hn
    obtain ⟨init,h1,h2⟩:=AF s f (i+n) (by omega)
    exact ⟨_::init,by rw [h1];rfl,by simp only [GM];omega⟩
theorem RG (s:BL):GG (tP s)/\(tP s).length<=s.length+1:=by
 obtain ⟨init,h1,h2⟩:=AF s (s.length+1) 0 (by omega)
 have e:tP s=init++[⟨[],s.length,0,0,0⟩]:=h1
 rw [e]
 have hl:(init++[(⟨[],s.length,0,0,0⟩:j8)]).length=init.length+1:=by simp
 have ht:jT (init++[(⟨[],s.length,0,0,0⟩:j8)]) init.length=⟨[],s.length,0,0,0⟩:=by
  unfold jT
  simp [List.getD_eq_getElem?_getD]
 refine ⟨⟨by omega,?_,?_⟩,by omega⟩
 .rw [hl,Nat.add_sub_cancel,ht]
 .rw [hl,Nat.add_sub_cancel,ht]
def ZN (w:World) (x:Rx) (a:Nat) (e:Int) (r:Ending) (w':World):Prop:=∃t:Rt,r=.returned (.tuple #[t.v,.i (a:Int),.i e])/\t.rx=x/\t.P w'/\∀b∈t.fp,w.heap.size<=b
theorem Mz (s:ByteArray) (hs:s.size<=100000) (x:Rx) (a:Nat) (e:Int) (he:xJ (bl s)=some (x,a,e)) (w:World):Calls Tryz.prog kh #[.string s] w λr w'=>ZN w x a e r w'/\bG w w':=by
 have hl:(bl s).length=s.size:=iS s
 obtain ⟨dP,hlen⟩:=RG (bl s)
 unfold xJ at he
 refine enthymemeref04_Parse.cU _ w _ ((mu [] (by simp)).bF λb2 w1 H1=>aN (λhb=>H1.aL λw2 H2=>?_) (λhb=>H1.ri (Mq s hs w1) ?_))
 .rw [if_pos (by omega)] at he
  simp only [Option.some.injEq,Prod.mk.injEq] at he
  obtain ⟨rfl,rfl,rfl⟩:=he
  exact ⟨⟨m8,rfl,rfl,wo _,λb hb=>(n8 hb).elim⟩,H2.fr⟩
 rw [if_neg (by omega)] at he
 generalize tP (bl s)=l at he dP hlen
 dsimp only at he
 rintro _ w6 ⟨tk,rfl,ho,hf⟩ _ F6
 have H6:=F6.rd (qd tk l) ho.iD (Ah hf)
 cases hx:rm l 1000 (0,false) with
 |none=>rw [hx] at he;cases he
 |some y=>
  obtain ⟨r0,DZ⟩:=y
  rw [hx] at he
  dsimp only at he
  refine ⟨tk,rfl,H6.nw λw7 _ H7=>?_⟩
  have H7:LH F0 w w7 (pS w6.heap.size tk (0,false)::[.g b2]) [qd tk l]:=H7.perm (List.Perm.swap _ _ _)
  refine H7.kM ((okp dP (by omega) 1000 (by omega) 1000 (Nat.le_refl _)).expr w6.heap.size (0,false) w7 r0 DZ hx dP.1 H7.yK) ?_
  rintro _ w8 ⟨⟨u,rfl,hu,pu,fu⟩,xu⟩ _ F8
  have H8:=F8 (.tree u) pu λb hb=>fu b (aH.1 hb)
  refine ⟨_,_,_,u.s,rfl,H8.bF λb6 w9 H9=>H9.aL λpE mJ=>?_⟩
  have mJ:LH F0 w pE (pS w6.heap.size tk DZ::[.g b2,.g b6]) [qd tk l,.tree u]:=mJ
  refine mJ.kM (zi mJ.yK xu (by omega) []) ?_
  have DY:=tB dP xu [] (by decide)
  rintro _ sj rfl qR _
  generalize qL l [] DZ=LQ at he DY qR
  refine ⟨rfl,LQ.2,qR.ld 0 2,bA (λBU=>qR.aL λBm Cz=>?_) (λBU=>?_)⟩
  .rw [if_pos BU] at he
   simp only [Option.some.injEq,Prod.mk.injEq] at he
   obtain ⟨rfl,rfl,rfl⟩:=he
   have hn:=Gq (Cz.getD 0:jU _ _ _ _)
   refine ⟨tk,Cz.ld 0 0,(LQ.1:Int),Cz.ld 0 1,by omega,by omega,AG (Cz.getD 0) DY λp hp c=>⟨((jT l LQ.1).at_:Int),?_,Cz.aL λTQ RV=>⟨?_,RV.ld 0 1,RV.ld 0 0,⟨m8,rfl,rfl,wo _,λb hb=>(n8 hb).elim⟩,RV.fr⟩⟩⟩
   .rw [Int.toNat_natCast];exact c.c1
   .rw [Int.toNat_natCast]
    have:=AG (RV.getD 0) DY (K:=λq=>∃q',tk.a=some q'/\q=q'/\IJ TQ q' LQ.1 (jT l LQ.1)) (λq hq hc=>⟨q,hq,rfl,hc⟩)
    rw [hp] at this
    obtain ⟨q,hq,rfl,hc⟩:=this
    exact hc.c1
  .rw [if_neg (by rw [BU];simp)] at he
   have pu2:u.P sj:=qR.getD 1
   have aa':r0.sz=u.sz:=by rw [<-hu,Rt.ib]
   by_cases mH:u.sz<=1000000
   .rw [if_neg (by omega)] at he
    refine qR.aK (CP u sj mH pu2) ?_
    rintro _ Zw rfl V6
    refine ⟨_,rfl,aN (λGJ=>V6.aL λGO GV=>?_) (λGJ=>V6.aL λGO GV=>?_)⟩
    .rw [if_pos (by omega)] at he
     simp only [Option.some.injEq,Prod.mk.injEq] at he
     obtain ⟨rfl,rfl,rfl⟩:=he
     exact ⟨⟨m8,rfl,rfl,wo _,λb hb=>(n8 hb).elim⟩,GV.fr⟩
    .rw [if_neg (by omega)] at he
     simp only [Option.some.injEq,Prod.mk.injEq] at he
     obtain ⟨rfl,rfl,rfl⟩:=he
     exact ⟨⟨u,rfl,hu,GV.getD 1,λb hb=>Nat.le_trans H7.fr.size (fu b hb)⟩,GV.fr⟩
   .rw [if_pos (by omega)] at he
    cases he
theorem eB (a b:BL):ba a++ba b=ba (a++b):=by
 apply ByteArray.ext
 rw [ByteArray.data_append]
 simp [ba]
theorem xd {w:World} {b n:Nat} {cs:List Value} {T:TypeId} (h:w.heap[b]? =some (.cells cs.toArray T (0,0))) (hn:n=cs.length):Rd w ⟨some (bD b),n,n⟩ cs:=
 Oa (s:=⟨some (bD b),n,n⟩) hn (Nat.le_refl _) (λh=>by cases h) λi v hi=>⟨bD b,rfl,cellAt (p:=bD b) h rfl (by simpa using hi)⟩
theorem MB (c:UInt8) (w:World):Calls Tryz.prog je #[.int .u8 (c.toNat:Int)] w λr w'=>r=.returned (.bool (uq c))/\bG w w':=by
 refine enthymemeref04_low.ok _ w _ (aN (λh=>⟨?_,Fr.refl _ _⟩) (λh=>⟨?_,Fr.refl _ _⟩))
 .unfold uq
  rw [decide_eq_true (show 97<=c.toNat by omega),Bool.true_and,show decide ((c.toNat:Int)<=122)=decide (c.toNat<=122) from decide_eq_decide.2 (by omega)]
 .unfold uq
  rw [decide_eq_false (show ¬97<=c.toNat by omega),Bool.false_and]
theorem CS (c:UInt8) (w:World):Calls Tryz.prog gN #[.int .u8 (c.toNat:Int)] w λr w'=>r=.returned (.string (ba (dR c)))/\bG w w':=by
 have hc:=c.toNat_lt
 have H:LH F0 w w [] []:=mu [] (by simp)
 refine enthymemeref04_Byte.ok _ w _ (H.call (El c w) ?_)
 rintro _ w1 rfl H1
 refine ⟨_,rfl,bA (λhp=>?_) (λhp=>?_)⟩
 .refine H1.Zj (λw2 _ H2 hb=>?_)
  have e39:((39:UInt8).toNat:Int)=39:=rfl
  have hB:Bytes w2 ⟨some (bD w1.heap.size),3,3⟩ [39,c,39]:=xd (T:=dF) hb rfl
  have Xr:=rh hB
  refine ⟨ba [39,c,39],Xr,?_,H2.fr⟩
  unfold dR;rw [if_pos hp]
 .have e1:IntKind.wrap .i64 (c.toNat:Int)=(c.toNat:Int):=IntWalk.i64_in _ (by omega)
  have e2:IntKind.wrap .i64 (Int.tdiv (c.toNat:Int) 16)=((c.toNat / 16:Nat):Int):=by
   rw [Int.tdiv_eq_ediv_of_nonneg (by omega),IntWalk.i64_in _ (by omega)];omega
  have e3:Int.tmod (c.toNat:Int) 16=((c.toNat%16:Nat):Int):=by
   rw [Int.tmod_eq_emod_of_nonneg (by omega)];omega
  rw [e1,e2,e3]
  refine H1.call (zk (c.toNat / 16) (by omega) w1) ?_
  rintro _ w2 rfl H2
  refine ⟨_,rfl,H2.call (zk (c.toNat%16) (by omega) w2) ?_⟩
  rintro _ w3 rfl H3
  refine ⟨_,rfl,H3.Zj (λw4 _ H4 hb=>?_)⟩
  have hB:Bytes w4 ⟨some (bD w3.heap.size),4,4⟩ [92,120,sJ (c.toNat / 16),sJ (c.toNat%16)]:=xd (T:=dF) hb rfl
  have Xr:=rh hB
  refine ⟨ba [92,120,sJ (c.toNat / 16),sJ (c.toNat%16)],Xr,?_,H4.fr⟩
  unfold dR;rw [if_neg (by rw [hp];simp)]
def qE (ts:List BL):Nat:=(ts.map λt=>t.length+2).sum
theorem oF (lv:Nat) (a:Rx) (t:BL):(cP lv a t).length<=t.length+2/\t.length<=(cP lv a t).length:=by
 unfold cP
 split
 .simp;omega
 .simp
theorem zR (k:Int):∀(ts:List BL) (out:BL),(mr k out ts).length<=out.length+qE ts/\out.length<=(mr k out ts).length
 |[],out=>by simp [mr,qE]
 |t::ts,out=>by
  unfold mr
  have ih:=zR k ts ((if k=3/\uq (qH out)=true/\uq (gQ t 0)=true then out++[32] else out)++lU k++t)
  have h1:(lU k).length<=1:=by unfold lU;split<;>(try split)<;>simp
  have h3:k=3->(lU k).length=0:=λh=>by unfold lU;rw [if_pos h];rfl
  have h2:((if k=3/\uq (qH out)=true/\uq (gQ t 0)=true then out++[32] else out):BL).length<=out.length+2 - (lU k).length/\out.length<=((if k=3/\uq (qH out)=true/\uq (gQ t 0)=true then out++[32] else out):BL).length:=by
   split
   .rename_i h
    rw [h3 h.1]
    simp
   .omega
  simp only [qq] at ih
  have hs:qE (t::ts)=t.length+2+qE ts:=by simp [qE]
  omega
mutual
theorem AQ:∀x:Rx,(gU x).length+4<=18 *x.sz
 |.mk k lo hi l=>by
  have hb:∀c,(dR c).length<=4:=λc=>by unfold dR;split<;>simp
  have h3:=su 3 l
  have h4:=su 4 l
  have h0:=su 0 l
  have hn:(z9 k).length=4:=by unfold z9;split<;>(try split)<;>rfl
  have hd:∀lv,(uZ (jr lv l)).length<=qE (jr lv l):=λlv=>by
   cases jr lv l with
   |nil=>simp [uZ]
   |cons t ts=>simp [uZ,qE];omega
  have d3:=hd 3
  have d4:=hd 4
  have d0:=hd 0
  have sN:=hb lo
  have Qe:=hb hi
  unfold Rx.sz
  unfold gU
  split
  .simp;omega
  .split
   .simp;omega
   .split
    .split
     .omega
     .simp only [GM,qq,JH];omega
    .split
     .simp only [GM];omega
     .split
      .simp only [qq,GM,JH];omega
      .split
       .simp only [qq,GM,JH];omega
       .have hw:=su (cL (.mk k lo hi l)+1) l
        cases hh:jr (cL (.mk k lo hi l)+1) l with
        |nil=>show 0+4<=_;omega
        |cons t ts=>
         rw [hh] at hw
         have:=(zR k ts t).1
         simp only [qE,List.map_cons,List.sum_cons] at hw
         simp only [qE] at this
         show (mr k t ts).length+4<=_
         omega
theorem su (lv:Nat):∀l:List Rx,qE (jr lv l)<=18 *Rx.fQ l
 |[]=>by simp [jr,qE]
 |a::l=>by
  have h1:=AQ a
  have h2:=su lv l
  have h3:=(oF lv a (gU a)).1
  unfold jr Rx.fQ
  simp only [qE,List.map_cons,List.sum_cons] at h2 ⊢
  omega
end
theorem tZ {k:Int} {lo hi:UInt8} {l:List Rx} (h:okW (.mk k lo hi l)=true):0<=k/\k<=7/\(k=6\/k=7->l.length=1)/\Bh l=true:=by
 unfold okW at h
 simp only [Bool.and_eq_true,decide_eq_true_eq,Bool.or_eq_true] at h
 exact ⟨h.1.1.1,h.1.1.2,λhk=>by omega,h.2⟩
theorem wx:∀{l:List Rx} {a:Rx},Bh l=true->a∈l->okW a=true
 |b::l,a,h,ha=>by
  unfold Bh at h
  rw [Bool.and_eq_true] at h
  rcases cS.1 ha with rfl|ha
  .exact h.1
  .exact wx h.2 ha
theorem DV:∀x:Rx,okW x=true->0<(gU x).length
 |.mk k lo hi l=>λh=>by
  obtain ⟨h1,h2,h3,h4⟩:=tZ h
  have hb:∀c,0<(dR c).length:=λc=>by unfold dR;split<;>simp
  unfold gU
  split
  .simp
  .split
   .simp
   .split
    .split
     .exact hb lo
     .simp
    .split
     .simp
     .split
      .simp
      .split
       .simp only [qq,GM];omega
       .rename_i h5
        match l,h4,h5 with
        |[],_,h5=>simp at h5
        |a::m,h4,h5=>
         have:=DV a (wx h4 (by simp))
         unfold jr
         show 0<(mr _ _ _).length
         have hj:=(zR k (jr (cL (.mk k lo hi (a::m))+1) m) (cP (cL (.mk k lo hi (a::m))+1) a (gU a))).2
         have hp:=(oF (cL (.mk k lo hi (a::m))+1) a (gU a)).2
         omega
theorem zj (x:Rt) (w:World) (h0:0<=x.k) (h7:x.k<=7) (px:x.P w):Calls Tryz.prog gv #[x.v] w λr w'=>r=.returned (.i (cL x.rx:Int))/\bG w w':=by
 have nr:=Rt.b0 px.parts.1
 have hl:(Rt.bV x.l).length=x.l.length:=by rw [Rt.fC,List.length_map]
 have eb:cL x.rx=if x.k=6 then 3 else if x.k<3\/x.k=7\/x.l.length<2 then 4 else if x.k=3 then 2 else if x.k=4 then 0 else 1:=by
  rw [Rt.dE]
  unfold cL
  dsimp only
  rw [hl]
 rw [eb]
 have four:∀w',bG w w'->x.k≠6->(x.k<3\/x.k=7\/x.l.length<2)->enthymemeref04_binds.dV w' λr w'=>r=.returned (.i ((if x.k=6 then 3 else if x.k<3\/x.k=7\/x.l.length<2 then 4 else if x.k=3 then 2 else if x.k=4 then 0 else 1:Nat):Int))/\bG w w':=λw' f h6 h=>⟨by rw [if_neg h6,if_pos h];rfl,f⟩
 refine enthymemeref04_binds.cU _ _ _ _ w _ ((zV px).bF λb w1 H1=>aJ (λh6=>⟨by rw [if_pos h6];rfl,H1.fr⟩) (λh6=>aN (λh3=>four w1 H1.fr h6 (.inl h3)) (λh3=>aJ (λh7'=>four w1 H1.fr h6 (.inr (.inl h7'))) (λh7'=>aN (λh2=>four w1 H1.fr h6 (.inr (.inr (by omega)))) (λh2=>?_)))))
 refine H1.nw λw2 _ H2=>?_
 have hk:x.k=3\/x.k=4\/x.k=5:=by omega
 have e:(if x.k=6 then 3 else if x.k<3\/x.k=7\/x.l.length<2 then 4 else if x.k=3 then 2 else if x.k=4 then 0 else 1:Nat)=if x.k=3 then 2 else if x.k=4 then 0 else 1:=by
  rw [if_neg h6,if_neg (by omega)]
 rw [e]
 rcases hk with hk|hk|hk<;>rw [hk]
 .exact ⟨by decide,by decide,wy ⟨2,H2.ld 1 0,rfl,H2.fr⟩⟩
 .exact ⟨by decide,by decide,wy ⟨0,H2.ld 1 1,rfl,H2.fr⟩⟩
 .exact ⟨by decide,by decide,wy ⟨1,H2.ld 1 2,rfl,H2.fr⟩⟩
theorem Jp (t:BL) (h:0<t.length):gQ t (t.length - 1)=qH t:=by
 unfold gQ qH
 rw [List.getD_eq_getElem?_getD,List.getLastD_eq_getLast?,List.getLast?_eq_getElem?]
theorem OB (l:List Rt) (i:Nat):Rx.fQ (Rt.bV (l.drop i))<=Rt.fQ l:=by
 rw [Rt.Ao]
 induction l generalizing i with
 |nil=>simp
 |cons a l ih=>
  cases i with
  |zero=>exact Nat.le_refl _
  |succ i=>have:=ih i;show _<=a.sz+Rt.fQ l;exact Nat.le_trans this (by omega)
abbrev ZS (n:Nat):Prop:=∀(x:Rt) (lv:Nat) (w:World),x.sz<=n->lv<=1000->okW x.rx=true->x.P w->Calls Tryz.prog bL #[x.v,.i (lv:Int)] w λr w'=>r=.returned (.string (ba (cP lv x.rx (gU x.rx))))/\bG w w'
theorem Eg:∀n:Nat,n<=1000000->ZS n
 |0,_=>λx lv w h _ _ _=>absurd h (by have:=Rt.pD x;omega)
 |n+1,hn=>by
  have ih:=Eg n (by omega)
  have core:∀(x:Rt) (lv:Nat) (w:World),x.sz<=n+1->¬cL x.rx<lv->okW x.rx=true->x.P w->Calls Tryz.prog bL #[x.v,.i (lv:Int)] w λr w'=>r=.returned (.string (ba (gU x.rx)))/\bG w w':=by
   intro x lv w h SC dP px
   have hs:=Rt.gE x
   have hl:=Rt.fG x.l
   have nr:=Rt.b0 px.parts.1
   have EY:=dP
   rw [Rt.dE] at EY
   obtain ⟨k0,k7,Dj,sQ⟩:=tZ EY
   have zJ:(Rt.bV x.l).length=x.l.length:=by rw [Rt.fC,List.length_map]
   rw [zJ] at Dj
   have xr:∀a∈x.l,okW a.rx=true:=λa ha=>wx sQ (by rw [Rt.fC];exact List.mem_map.2 ⟨a,ha,rfl⟩)
   have BV:∀a:Rt,a.sz<=1000000->(gU a.rx).length<=18000000:=λa ha=>by have:=AQ a.rx;rw [Rt.ib] at this;omega
   have SH:∀(a:Rt) (lv:Nat),a.sz<=1000000->(cP lv a.rx (gU a.rx)).length<=18000002:=λa lv ha=>by have h1:=BV a ha;have:=(oF lv a.rx (gU a.rx)).1;omega
   have zH:∀c,(dR c).length<=4:=λc=>by unfold dR;split<;>simp
   let R:aD:=λr w'=>r=.returned (.string (ba (gU x.rx)))/\bG w w'
   have one:∀(a:Rt) (NK:Nat) (w1:World) (b2:Nat) (K:ByteArray->World->Prop),NK<=1000->a∈x.l->LH F0 w w1 [.g b2] [.tree x]->(∀w2,LH F0 w w2 [.g b2] [.tree x]->K (ba (cP NK a.rx (gU a.rx))) w2)->qj [b2] bL #[.agg #[.i a.k,.int .u8 (a.lo.toNat:Int),.int .u8 (a.hi.toNat:Int),a.s.v],.i (NK:Int)] w1 K:=by
    intro a NK w1 b2 K UZ ha H1 hK
    have DN:=Rt.dQ ha
    refine H1.aK (ih a NK w1 (by omega) UZ (xr a ha) ((show x.P w1 from H1.getD 0).parts.2.mem ha)) ?_
    rintro _ w2 rfl H2
    exact ⟨_,rfl,hK w2 H2⟩
   refine enthymemeref04_Write.cU _ _ _ _ _ w _ ((zV px).bF λb2 w1 H1=>?_)
   have H1:LH F0 w w1 [.g b2] [.tree x]:=H1
   refine H1.aK (zj x w1 k0 k7 (H1.getD 0)) ?_
   rintro _ w2 rfl H2
   have Hp:gU x.rx=gU (.mk x.k x.lo x.hi (Rt.bV x.l)):=by rw [Rt.dE]
   refine ⟨_,rfl,aI (decide_eq_false (by omega)) (aJ (λhk=>⟨?_,H2.fr⟩) (λyV=>aJ (λhk=>⟨?_,H2.fr⟩) (λDi=>aJ (λsM=>?_) (λsM=>aJ (λDX=>?_) (λDX=>aJ (λLI=>?_) (λLI=>aN (λUX=>?_) (λUX=>?_)))))))⟩
   .rw [Hp];unfold gU;rw [if_pos hk];rfl
   .rw [Hp];unfold gU;rw [if_neg yV,if_pos hk];rfl
   .have e2:gU x.rx=if x.lo=x.hi then dR x.lo else 91::(dR x.lo++45::(dR x.hi++[93])):=by
     rw [Hp];unfold gU;rw [if_neg yV,if_neg Di,if_pos sM]
    refine aJ (λLJ=>H2.aK (CS x.lo w2) ?_) (λLJ=>H2.aL λw5 H5=>H5.aK (CS x.lo w5) ?_)
    .rintro _ w3 rfl H3
     exact ⟨_,rfl,by rw [e2,if_pos (UInt8.toNat_inj.1 (by omega))],H3.fr⟩
    .rintro _ w6 rfl H6
     have h1:=zH x.lo
     have h2:=zH x.hi
     have s0:ByteArray.mk #[91]++ba (dR x.lo)++ByteArray.mk #[45]=ba (91::dR x.lo++[45]):=by
      show ba [91]++ba (dR x.lo)++ba [45]=_
      rw [eB,eB];rfl
     refine ⟨_,rfl,?_,?_,H6.aK (CS x.hi w6) ?_⟩
     .rw [cD];show ¬(((1+_:Nat):Int)>9223372036854775807);omega
     .have:(ByteArray.mk #[91]++ba (dR x.lo)).size=1+(dR x.lo).length:=by
       show (ba [91]++_).size=_
       rw [eB,cD];simp;omega
      rw [this];show ¬(((_+1:Nat):Int)>9223372036854775807);omega
     rintro _ w7 rfl H7
     rw [s0]
     have:ba (91::dR x.lo++[45]++dR x.hi)++ByteArray.mk #[93]=ba (91::dR x.lo++[45]++dR x.hi++[93]):=by
      show _++ba [93]=_
      rw [eB]
     refine ⟨_,rfl,?_,?_,?_,H7.fr⟩
     .rw [cD,cD];simp only [qq,GM,JH];show ¬(((_:Nat):Int)>9223372036854775807);omega
     .rw [eB,cD];simp only [qq,GM,JH];show ¬(((_+1:Nat):Int)>9223372036854775807);omega
     .rw [eB,this,e2,if_neg (λh=>LJ (by rw [h]))]
      simp
   .have h1:=Dj (.inl DX)
    have e6:gU x.rx=33::uZ (jr 3 (Rt.bV x.l)):=by
     rw [Hp];unfold gU;rw [if_neg yV,if_neg Di,if_neg sM,if_pos DX]
    match nT:x.l,h1 with
    |[a],_=>
     have ha:a∈x.l:=by rw [nT];simp
     have DN:=Rt.dQ ha
     refine jE (show x.P w2 from H2.getD 0) (k:=0) rfl (by rw [nT];rfl) (one a 3 w2 b2 _ (by omega) ha H2 λw3 H3=>⟨?_,?_,H3.fr⟩)
     .have:=SH a 3 (by omega)
      rw [cD];show ¬(((1+_:Nat):Int)>9223372036854775807);omega
     .have:ByteArray.mk #[33]++ba (cP 3 a.rx (gU a.rx))=ba (33::cP 3 a.rx (gU a.rx)):=by
       show ba [33]++_=_
       rw [eB];rfl
      rw [this,e6,nT]
      rfl
   .have h1:=Dj (.inr LI)
    have e7:gU x.rx=uZ (jr 4 (Rt.bV x.l))++[42]:=by
     rw [Hp];unfold gU;rw [if_neg yV,if_neg Di,if_neg sM,if_neg DX,if_pos LI]
    match nT:x.l,h1 with
    |[a],_=>
     have ha:a∈x.l:=by rw [nT];simp
     have DN:=Rt.dQ ha
     refine jE (show x.P w2 from H2.getD 0) (k:=0) rfl (by rw [nT];rfl) (one a 4 w2 b2 _ (by omega) ha H2 λw3 H3=>⟨?_,?_,H3.fr⟩)
     .have:=SH a 4 (by omega)
      rw [cD];show ¬(((_+1:Nat):Int)>9223372036854775807);omega
     .have:ba (cP 4 a.rx (gU a.rx))++ByteArray.mk #[42]=ba (cP 4 a.rx (gU a.rx)++[42]):=by
       show _++ba [42]=_
       rw [eB]
      rw [this,e7,nT]
      rfl
   .
    have hk:x.k=3\/x.k=4\/x.k=5:=by omega
    have ef:gU x.rx=z9 x.k++(uZ (jr 0 (Rt.bV x.l))++[41]):=by
     rw [Hp];unfold gU;rw [if_neg yV,if_neg Di,if_neg sM,if_neg DX,if_neg LI,if_pos (by rw [zJ];omega)]
    have fin:∀(t:BL) (w3:World),t.length<=18000002->uZ (jr 0 (Rt.bV x.l))=t->LH F0 w w3 [.g b2] [.tree x]->enthymemeref04_Write.dV b2 x.k x.lo.toNat x.hi.toNat x.s (ba t) w3 R:=by
     intro t w3 ht he H3
     refine H3.nw λw4 _ H4=>?_
     have key:∀(u:BL),u.length=4->z9 x.k=u->¬((((ba u).size+(ba t).size:Nat):Int)>IntKind.i64.max)/\¬((((ba u++ba t).size+(ByteArray.mk #[41]).size:Nat):Int)>IntKind.i64.max)/\R (.returned (.string ((ba u++ba t)++(ByteArray.mk #[41])))) w4:=by
      intro u hu hn
      refine ⟨?_,?_,?_,H4.fr⟩
      .rw [cD,cD];show ¬(((_:Nat):Int)>9223372036854775807);omega
      .rw [eB,cD];simp only [qq];show ¬(((_+1:Nat):Int)>9223372036854775807);omega
      .have:ba u++ba t++ByteArray.mk #[41]=ba (u++(t++[41])):=by
        show _++_++ba [41]=_
        rw [eB,eB];simp
       rw [this,ef,hn,he]
     rcases hk with hk|hk|hk<;>rw [hk]
     .exact ⟨by decide,by decide,wy ⟨ba [99,97,116,40],H4.ld 1 0,key _ rfl (by rw [hk];rfl)⟩⟩
     .exact ⟨by decide,by decide,wy ⟨ba [97,108,116,40],H4.ld 1 1,key _ rfl (by rw [hk];rfl)⟩⟩
     .exact ⟨by decide,by decide,wy ⟨ba [97,108,108,40],H4.ld 1 2,key _ rfl (by rw [hk];rfl)⟩⟩
    refine aJ (λh1=>?_) (λh1=>?_)
    .match nT:x.l with
     |[]=>rw [nT] at nr;simp at nr;omega
     |_::_::_=>rw [nT] at nr;simp at nr;omega
     |[a]=>
      have ha:a∈x.l:=by rw [nT];simp
      have DN:=Rt.dQ ha
      refine jE (show x.P w2 from H2.getD 0) (k:=0) rfl (by rw [nT];rfl) (one a 0 w2 b2 _ (by omega) ha H2 λw3 H3=>?_)
      exact fin _ w3 (SH a 0 (by omega)) (by rw [nT];rfl) H3
    .have:x.l=[]:=List.length_eq_zero_iff.1 (by omega)
     exact fin [] w2 (by simp) (by rw [this];rfl) H2
   .
    have hk:x.k=3\/x.k=4\/x.k=5:=by omega
    match nT:x.l with
    |[]=>rw [nT] at nr;simp at nr;omega
    |a::m=>
    have ha:a∈x.l:=by rw [nT];simp
    have DN:=Rt.dQ ha
    have sgl:(lU x.k).length<=1:=by unfold lU;split<;>(try split)<;>simp
    have ef:gU x.rx=mr x.k (cP (cL x.rx+1) a.rx (gU a.rx)) (jr (cL x.rx+1) (Rt.bV (x.l.drop 1))):=by
     have e1:gU x.rx=Qr x.k (jr (cL x.rx+1) (Rt.bV x.l)):=by
      conv=>lhs;rw [Hp];unfold gU;rw [if_neg yV,if_neg Di,if_neg sM,if_neg DX,if_neg LI,if_neg (by rw [zJ];omega)]
      rw [<-Rt.dE]
     rw [e1,nT]
     rfl
    have Xp:cL x.rx<=4:=by
     rw [Rt.dE];unfold cL;dsimp only;repeat (first |omega|split)
    have loop:∀(d i:Nat) (out:BL) (w3:World),i+d=x.l.length->1<=i->0<out.length->out.length+qE (jr (cL x.rx+1) (Rt.bV (x.l.drop i)))<=40000000->gU x.rx=mr x.k out (jr (cL x.rx+1) (Rt.bV (x.l.drop i)))->LH F0 w w3 [.g b2] [.tree x]->
      enthymemeref04_Write.mD b2 x.k x.lo.toNat x.hi.toNat x.s (ba (lU x.k)) (cL x.rx:Int) (ba out) (i:Int) w3 R:=by
     intro d
     induction d with
     |zero=>
      intro i out w3 hi h1 HL Dm he H3
      refine enthymemeref04_Write.dM _ _ _ _ _ _ _ _ _ _ _ (aI (decide_eq_false (by omega)) ⟨?_,H3.fr⟩)
      rw [he,List.drop_of_length_le (by omega)]
      rfl
     |succ d qz=>
      intro i out w3 hi h1 HL Dm he H3
      have hg:x.l[i]? =some (x.l[i]'(by omega)):=g8 (by omega)
      have yU:x.l.drop i=(x.l[i]'(by omega))::x.l.drop (i+1):=List.drop_eq_getElem_cons (by omega)
      generalize x.l[i]'(by omega)=c at hg yU
      have hc:=cR hg
      have szc:=Rt.dQ hc
      rw [yU] at he Dm
      have Dm:out.length+((cP (cL x.rx+1) c.rx (gU c.rx)).length+2+qE (jr (cL x.rx+1) (Rt.bV (x.l.drop (i+1)))))<=40000000:=by
       have:qE (jr (cL x.rx+1) (Rt.bV (c::x.l.drop (i+1))))=(cP (cL x.rx+1) c.rx (gU c.rx)).length+2+qE (jr (cL x.rx+1) (Rt.bV (x.l.drop (i+1)))):=by
        simp [Rt.bV,jr,qE]
       omega
      have he:gU x.rx=mr x.k ((if x.k=3/\uq (qH out)=true/\uq (gQ (cP (cL x.rx+1) c.rx (gU c.rx)) 0)=true then out++[32] else out)++lU x.k++cP (cL x.rx+1) c.rx (gU c.rx)) (jr (cL x.rx+1) (Rt.bV (x.l.drop (i+1)))):=by
       rw [he];rfl
      have hcp:0<(cP (cL x.rx+1) c.rx (gU c.rx)).length:=by
       have h1:=DV c.rx (xr c hc)
       have:=(oF (cL x.rx+1) c.rx (gU c.rx)).2
       omega
      have W8:IntKind.wrap .i64 ((cL x.rx:Int)+1)=((cL x.rx+1:Nat):Int):=aX _ (by omega)
      refine enthymemeref04_Write.dM _ _ _ _ _ _ _ _ _ _ _ (aQ (decide_eq_true (by omega)) (jE (show x.P w3 from H3.getD 0) rfl hg ?_))
      rw [W8]
      refine one c (cL x.rx+1) w3 b2 _ (by omega) hc H3 λw4 H4=>?_
      generalize cP (cL x.rx+1) c.rx (gU c.rx)=t at he Dm hcp
      have go:∀(o:BL) (w5:World),o.length<=out.length+1->out.length<=o.length->o.length+(lU x.k).length<=out.length+1->gU x.rx=mr x.k (o++lU x.k++t) (jr (cL x.rx+1) (Rt.bV (x.l.drop (i+1))))->LH F0 w w5 [.g b2] [.tree x]->
        enthymemeref04_Write.fB b2 x.k x.lo.toNat x.hi.toNat x.s (ba (lU x.k)) (cL x.rx:Int) (ba o) (i:Int) (ba t) w5 R:=by
       intro o w5 ho1 ho2 Y9 heo H5
       refine ⟨?_,?_,?_⟩
       .rw [cD,cD];show ¬(((_:Nat):Int)>9223372036854775807);omega
       .rw [eB,cD,cD];simp only [qq];show ¬(((_:Nat):Int)>9223372036854775807);omega
       .show enthymemeref04_Write.mD _ _ _ _ _ _ _ _ _ _ _
        rw [eB,eB,aX _ (by omega)]
        refine qz (i+1) (o++lU x.k++t) w5 (by omega) (by omega) (by simp only [qq];omega) (by simp only [qq];omega) heo H5
      have qN:∀w5,LH F0 w w5 [.g b2] [.tree x]->¬(x.k=3/\uq (qH out)=true/\uq (gQ t 0)=true)->enthymemeref04_Write.fB b2 x.k x.lo.toNat x.hi.toNat x.s (ba (lU x.k)) (cL x.rx:Int) (ba out) (i:Int) (ba t) w5 R:=λw5 H5 h=>go out w5 (by omega) (by omega) (by omega) (by rw [if_neg h] at he;exact he) H5
      have eo:IntKind.wrap .i64 ((((ba out).size:Nat):Int) - 1)=((out.length - 1:Nat):Int):=by rw [cD,IntWalk.i64_in _ (by omega)];omega
      rw [eo]
      refine aJ (λHH=>⟨by omega,qH out,?_,H4.aK (MB (qH out) w4) ?_⟩) (λHH=>qN w4 H4 (λh=>HH h.1))
      .rw [Int.toNat_natCast,k8 (s:=ba out) (by rw [cD];omega),zd,Jp out HL]
      rintro _ w5 rfl H5
      refine ⟨_,rfl,bA (λsN=>⟨by omega,gQ t 0,?_,H5.aK (MB (gQ t 0) w5) ?_⟩) (λsN=>qN w5 H5 (λh=>by rw [h.2.1] at sN;cases sN))⟩
      .rw [show Int.toNat 0=0 from rfl,k8 (s:=ba t) (by rw [cD];omega),zd]
      rintro _ w6 rfl H6
      have s3:(lU x.k).length=0:=by unfold lU;rw [if_pos HH];rfl
      refine ⟨_,rfl,bA (λlV=>⟨?_,?_⟩) (λlV=>qN w6 H6 (λh=>by rw [h.2.2] at lV;cases lV))⟩
      .rw [cD];show ¬(((_+1:Nat):Int)>9223372036854775807);omega
      .have e32:ba out++ByteArray.mk #[32]=ba (out++[32]):=by
        show _++ba [32]=_
        rw [eB]
       rw [e32]
       refine go (out++[32]) w6 (by simp) (by simp) (by simp;omega) ?_ H6
       rw [if_pos ⟨HH,sN,lV⟩] at he
       exact he
    refine H2.nw λsj _ qR=>?_
    have Wx:LH F0 w sj [.g b2] [.tree x]:=qR.take 1
    have rest:∀(u:BL),lU x.k=u->nJ [b2] gv #[.agg #[.i x.k,.int .u8 (x.lo.toNat:Int),.int .u8 (x.hi.toNat:Int),x.s.v]] sj λt90 rI=>(0:Int)<=0/\0<((x.s.n:Nat):Int)/\aW x.s.a λYB=>bY rI (YB.add (Int.toNat 0 *4)) λYC YD YE YF=>qj [b2] bL #[.agg #[.i YC,.int .u8 YD,.int .u8 YE,YF.v],.i (IntKind.wrap .i64 (t90+1))] rI λt97 uI=>enthymemeref04_Write.mD b2 x.k x.lo.toNat x.hi.toNat x.s (ba u) t90 t97 1 uI R:=by
     intro u hu
     refine Wx.aK (zj x sj k0 k7 (Wx.getD 0)) ?_
     rintro _ rI rfl qS
     refine ⟨_,rfl,jE (show x.P rI from qS.getD 0) (k:=0) rfl (by rw [nT];rfl) ?_⟩
     have W8:IntKind.wrap .i64 ((cL x.rx:Int)+1)=((cL x.rx+1:Nat):Int):=aX _ (by omega)
     rw [W8]
     refine one a (cL x.rx+1) rI b2 _ (by omega) ha qS λuI uu=>?_
     rw [<-hu]
     refine loop (x.l.length - 1) 1 _ uI (by omega) (by omega) ?_ ?_ ef uu
     .have h1:=DV a.rx (xr a ha)
      have:=(oF (cL x.rx+1) a.rx (gU a.rx)).2
      omega
     .have h1:=SH a (cL x.rx+1) (by omega)
      have h2:=su (cL x.rx+1) (Rt.bV (x.l.drop 1))
      have h3:=OB x.l 1
      omega
    rcases hk with hk|hk|hk
    .exact ⟨by rw [hk];decide,by rw [hk];decide,wy ⟨ba [],by rw [hk];exact qR.ld 1 0,rest _ (by rw [hk];rfl)⟩⟩
    .exact ⟨by rw [hk];decide,by rw [hk];decide,wy ⟨ba [124],by rw [hk];exact qR.ld 1 1,rest _ (by rw [hk];rfl)⟩⟩
    .exact ⟨by rw [hk];decide,by rw [hk];decide,wy ⟨ba [38],by rw [hk];exact qR.ld 1 2,rest _ (by rw [hk];rfl)⟩⟩
  intro x lv w h SC dP px
  by_cases hb:cL x.rx<lv
  .have EY:=dP
   rw [Rt.dE] at EY
   obtain ⟨k0,k7,_,_⟩:=tZ EY
   refine enthymemeref04_Write.cU _ _ _ _ _ w _ ((zV px).bF λb2 w1 H1=>H1.aK (zj x w1 k0 k7 (H1.getD 0)) ?_)
   rintro _ w2 rfl H2
   refine ⟨_,rfl,aQ (decide_eq_true (by omega)) (H2.aK (core x 0 w2 h (by omega) dP (H2.getD 0)) ?_)⟩
   rintro _ w3 rfl H3
   have qA:(gU x.rx).length<=18000000:=by have:=AQ x.rx;rw [Rt.ib] at this;omega
   have e:ByteArray.mk #[40]++ba (gU x.rx)++ByteArray.mk #[41]=ba (40::(gU x.rx++[41])):=by
    show ba [40]++ba (gU x.rx)++ba [41]=_
    rw [eB,eB];simp
   refine ⟨_,rfl,?_,?_,?_,H3.fr⟩
   .rw [cD];show ¬(((1+_:Nat):Int)>9223372036854775807);omega
   .have:(ByteArray.mk #[40]++ba (gU x.rx)).size=1+(gU x.rx).length:=by
     show (ba [40]++_).size=_
     rw [eB,cD];simp;omega
    rw [this];show ¬(((_+1:Nat):Int)>9223372036854775807);omega
   .rw [e];unfold cP;rw [if_pos hb]
  .have:=core x lv w h hb dP px
   have e:cP lv x.rx (gU x.rx)=gU x.rx:=by unfold cP;rw [if_neg hb]
   rw [e]
   exact this
theorem IQ (x:Rt) (lv:Nat) (w:World) (h:x.sz<=1000000) (SC:lv<=1000) (dP:okW x.rx=true) (px:x.P w):Calls Tryz.prog bL #[x.v,.i (lv:Int)] w λr w'=>r=.returned (.string (ba (cP lv x.rx (gU x.rx))))/\bG w w':=Eg 1000000 (Nat.le_refl _) x lv w h SC dP px
theorem N3 {s:BL} {x:Rx} {a:Nat} {e:Int} (h:xJ s=some (x,a,e)):x.sz<=1000000:=by
 unfold xJ at h
 split at h
 .simp only [Option.some.injEq,Prod.mk.injEq] at h
  rw [<-h.1];decide
 .dsimp only at h
  split at h
  .split at h
   .simp only [Option.some.injEq,Prod.mk.injEq] at h
    rw [<-h.1];decide
   .split at h
    .cases h
    .split at h
     .simp only [Option.some.injEq,Prod.mk.injEq] at h
      rw [<-h.1];decide
     .simp only [Option.some.injEq,Prod.mk.injEq] at h
      rw [<-h.1];omega
  .cases h
theorem Ed (s:ByteArray) (hs:s.size<=100000) (b:Bool) (hc:CV (bl s)=some b) (w:World):Calls Tryz.prog iz #[.string s] w λr w'=>r=.returned (.bool b)/\bG w w':=by
 unfold CV at hc
 cases hp:xJ (bl s) with
 |none=>rw [hp] at hc;cases hc
 |some y=>
  obtain ⟨x,a,e⟩:=y
  rw [hp] at hc
  dsimp only at hc
  have mH:=N3 hp
  have H:LH F0 w w [] []:=mu [] (by simp)
  refine enthymemeref04_Canonical.cU _ w _ (H.BG (Mz s hs x a e hp w) ?_)
  rintro _ w1 ⟨t,rfl,ht,pt,ft⟩ _ F1
  have H1:=F1.rd (.tree t) pt λb hb=>ft b (aH.1 hb)
  have Tm:t.sz<=1000000:=by rw [<-Rt.ib,ht];exact mH
  refine ⟨_,_,_,t.s,_,_,rfl,H1.bF λb3 w2 H2=>dX (λhe=>H2.aL λw3 H3=>⟨?_,H3.fr⟩) (λhe=>H2.aL λw3 H3=>?_)⟩
  .rw [if_neg he] at hc
   cases hc;rfl
  rw [if_pos he] at hc
  refine nN ((Ek t w3 Tm (H3.getD 0)).mono ?_)
  rintro _ w4 ⟨⟨u,rfl,hu,pu,fu⟩,f4⟩
  have H4:=H3.nf (.tree u) f4 pu λb hb=>(fu b (aH.1 hb)).imp id λhb=>.inr ⟨_,cR (i:=0) rfl,aH.2 hb⟩
  rw [ht] at hu
  refine ⟨f4,_,_,_,u.s,_,rfl,H4.bF λb6 w5 H5=>?_⟩
  rw [ht]
  refine aJ (λhn=>H5.aL λw6 H6=>?_) (λhn=>H5.aL λw6 H6=>⟨?_,H6.fr⟩)
  .rw [if_pos hn] at hc
   split at hc
   .rename_i dP
    rw [<-hu] at dP hc
    refine H6.aK (IQ u 0 w6 (by rw [<-Rt.ib];omega) (by omega) dP.1 (H6.getD 1)) ?_
    rintro _ w7 rfl H7
    refine ⟨_,rfl,?_,H7.fr⟩
    cases hc
    congr 2
    have:=Bx (cP 0 u.rx (gU u.rx)) (bl s)
    rw [Bw] at this
    exact this
   .cases hc
  .rw [if_neg hn] at hc
   cases hc;rfl
set_option maxRecDepth 100000
set_option maxHeartbeats 2000000
theorem YL {P:Program} {n:Cx} {c:Code} {Q:Exit->Act->World->Prop} {E E':Env} {w:World} (h:∀t v,E'.get? t=some v->E.get? t=some v) (hw:WP P n c Q E' w):WP P n c Q E w:=λa ha=>hw a ⟨ha.defers,ha.size,λt v ht=>ha.get t v (h t v ht)⟩
theorem aaO {E:Env} {i j:Nat} {a b:Value} (h1:E.get? i=some a) (h2:E.get? j=some b):∀t v,Env.get? [(i,a),(j,b)] t=some v->E.get? t=some v:=by
 intro t v h
 unfold Env.get? at h
 cases hi:Nat.beq i t with
 |true=>
  rw [hi] at h
  have:=Nat.eq_of_beq_eq_true hi
  subst this
  rw [h1];exact h
 |false=>
  rw [hi] at h
  have h:Env.get? [(j,b)] t=some v:=h
  unfold Env.get? at h
  cases hj:Nat.beq j t with
  |true=>
   rw [hj] at h
   have:=Nat.eq_of_beq_eq_true hj
   subst this
   rw [h2];exact h
  |false=>rw [hj] at h;cases h
namespace enthymemeref04_TextI
abbrev T9 (s:Sl) (k:Int) (w:World) (R:aD):Prop:=
 (0:Int)<=(Int.tmod (IntKind.wrap .i64 (Int.tdiv k 216)) 8)/\(Int.tmod (IntKind.wrap .i64 (Int.tdiv k 216)) 8)<((s.n:Nat):Int)/\aW s.a λp=>bY w (p.add (Int.toNat (Int.tmod (IntKind.wrap .i64 (Int.tdiv k 216)) 8) *4)) λa b c d=>MF dS #[.agg #[.i a,.int .u8 b,.int .u8 c,d.v]] w λe f g i w1=>Km bL #[.agg #[.i e,.int .u8 f,.int .u8 g,i.v],.i 0] w1 λt w2=>R (.returned (.string t)) w2
def K9 (R:aD) (E:Env) (w:World):Prop:=∃(s:Sl) (k:Int),E.get? 9=some s.v/\E.get? 3=some (.i k)/\T9 s k w R
noncomputable def C0:Code:=(Tryz.f76.body).getD .skip
noncomputable def C1:=C0.sn
noncomputable def C2:=C1.sn
noncomputable def C3:=C2.sn
noncomputable def C4:=C3.sn
noncomputable def C5:=C4.sn
noncomputable def C6:=C5.sn
noncomputable def C7:=C6.sn
noncomputable def C8:=C7.sn
noncomputable def C9:=C8.sn
theorem ok (n0:Int) (w:World) (R:aD) (h:BF aR #[.i n0,.i 1048576] w λt11 w1=>MF bR #[] w1 λJZ J0 J1 J2 w2=>fH w2 (.cells #[.i 2,.int .u8 97,.int .u8 97,.slice none 0 0,.i 2,.int .u8 98,.int .u8 98,.slice none 0 0,.i 2,.int .u8 0,.int .u8 0,.slice none 0 0,.i 2,.int .u8 97,.int .u8 98,.slice none 0 0,.i 1,.int .u8 0,.int .u8 0,.slice none 0 0,.i JZ,.int .u8 J0,.int .u8 J1,J2.v] aA) λw3=>
 (0:Int)<=(Int.tmod t11 6)/\(Int.tmod t11 6)<((6:Nat):Int)/\aW (some (nb w2)) λTn=>bY w3 (Tn.add (Int.toNat (Int.tmod t11 6) *4)) λTo Tp Tq Ts=>fH w3 (.cells #[.i 0,.int .u8 0,.int .u8 0,.slice none 0 0] aA) λw4=>
 q7 w4 (nb w3) (.i To) (.int .u8 Tp) (.int .u8 Tq) (Ts.v) λw8=>(0:Int)<=(Int.tmod (IntKind.wrap .i64 (Int.tdiv t11 6)) 6)/\(Int.tmod (IntKind.wrap .i64 (Int.tdiv t11 6)) 6)<((6:Nat):Int)/\aW (some (nb w2)) λTt=>bY w8 (Tt.add (Int.toNat (Int.tmod (IntKind.wrap .i64 (Int.tdiv t11 6)) 6) *4)) λTu Tv Tw Tx=>fH w8 (.cells #[.i 0,.int .u8 0,.int .u8 0,.slice none 0 0] aA) λw9=>
 q7 w9 (nb w8) (.i Tu) (.int .u8 Tv) (.int .u8 Tw) (Tx.v) λuI=>(0:Int)<=(Int.tmod (IntKind.wrap .i64 (Int.tdiv t11 36)) 6)/\(Int.tmod (IntKind.wrap .i64 (Int.tdiv t11 36)) 6)<((6:Nat):Int)/\aW (some (nb w2)) λTy=>bY uI (Ty.add (Int.toNat (Int.tmod (IntKind.wrap .i64 (Int.tdiv t11 36)) 6) *4)) λTz TA TB TC=>fH uI (.cells #[.i 0,.int .u8 0,.int .u8 0,.slice none 0 0] aA) λD3=>
 q7 D3 (nb uI) (.i Tz) (.int .u8 TA) (.int .u8 TB) (TC.v) λLR=>bY LR (nb w3) λTD TE TF TG=>fH LR (.cells #[.i TD,.int .u8 TE,.int .u8 TF,TG.v] aA) λTQ=>
 fH TQ (.cells #[.i 0,.int .u8 0,.int .u8 0,.slice none 0 0] aA) λZw=>
 q7 Zw (nb TQ) (.i 7) (.int .u8 0) (.int .u8 0) (.slice (some (nb LR)) 1 1) λGO=>Yp Tryz.prog C7 (K9 R) [(8,.pointer (some (nb TQ))),(38,.agg #[.i 7,.int .u8 0,.int .u8 0,.slice (some (nb LR)) 1 1]),(37,.slice (some (nb LR)) 1 1),(36,.agg #[.i TD,.int .u8 TE,.int .u8 TF,TG.v]),(7,.pointer (some (nb uI))),(35,.agg #[.i Tz,.int .u8 TA,.int .u8 TB,TC.v]),(34,.pointer (some (Ty.add (Int.toNat (Int.tmod (IntKind.wrap .i64 (Int.tdiv t11 36)) 6) *4)))),(33,.i (Int.tmod (IntKind.wrap .i64 (Int.tdiv t11 36)) 6)),(32,.i (IntKind.wrap .i64 (Int.tdiv t11 36))),(31,.i t11),(30,.slice (some (nb w2)) 6 6),(6,.pointer (some (nb w8))),(29,.agg #[.i Tu,.int .u8 Tv,.int .u8 Tw,Tx.v]),(28,.pointer (some (Tt.add (Int.toNat (Int.tmod (IntKind.wrap .i64 (Int.tdiv t11 6)) 6) *4)))),(27,.i (Int.tmod (IntKind.wrap .i64 (Int.tdiv t11 6)) 6)),(26,.i (IntKind.wrap .i64 (Int.tdiv t11 6))),(25,.i t11),(24,.slice (some (nb w2)) 6 6),(5,.pointer (some (nb w3))),(23,.agg #[.i To,.int .u8 Tp,.int .u8 Tq,Ts.v]),(22,.pointer (some (Tn.add (Int.toNat (Int.tmod t11 6) *4)))),(21,.i (Int.tmod t11 6)),(20,.i t11),(19,.slice (some (nb w2)) 6 6),(4,.slice (some (nb w2)) 6 6),(18,.slice (some (nb w2)) 6 6),(17,.agg #[.i JZ,.int .u8 J0,.int .u8 J1,J2.v]),(16,.agg #[.i 1,.int .u8 0,.int .u8 0,.slice none 0 0]),(15,.agg #[.i 2,.int .u8 97,.int .u8 98,.slice none 0 0]),(14,.agg #[.i 2,.int .u8 0,.int .u8 0,.slice none 0 0]),(13,.agg #[.i 2,.int .u8 98,.int .u8 98,.slice none 0 0]),(12,.agg #[.i 2,.int .u8 97,.int .u8 97,.slice none 0 0]),(3,.i t11),(11,.i t11),(10,.i n0),(2,.s0),(0,.i n0)] GO):Calls Tryz.prog kO #[.i n0] w R:=
 pN (R:=R) (fn:=Tryz.f76) (c:=C0) (args:=[.i n0]) (by kernel_rfl) (by kernel_rfl) (by kernel_rfl) (sr C0 (show (λ(E:Env) (w:World)=>yL Tryz.prog C0 (λE w=>yL Tryz.prog C1 (λE w=>yL Tryz.prog C2 (λE w=>yL Tryz.prog C3 (λE w=>yL Tryz.prog C4 (λE w=>yL Tryz.prog C5 (λE w=>yL Tryz.prog C6 (λE w=>Yp Tryz.prog C7 (K9 R) E w) E w) E w) E w) E w) E w) E w) E w) (sy 0 [.i n0]) w from mp h) λ_ _ hK=>(sr C1 hK λ_ _ hK=>(sr C2 hK λ_ _ hK=>(sr C3 hK λ_ _ hK=>(sr C4 hK λ_ _ hK=>(sr C5 hK λ_ _ hK=>(sr C6 hK λ_ _ hK=>(si C7 (by kernel_rfl) hK λ_ _ hK=>(let ⟨s,k,h9,h3,h⟩:=hK;YL (E':=[(9,s.v),(3,.i k)]) (aaO h9 h3) (sr C8 (show yL Tryz.prog C8 (λE w=>rC Tryz.prog Tryz.f76 E w (λv=>R (.returned v) w)) [(9,s.v),(3,.i k)] _ from mp h) λ_ _ hK=>(rt C9 λa hA=>oY hA hK)))))))))))
end enthymemeref04_TextI
inductive WD where
 |tr (x:Rx)
 |ls (l:List Rx)
def EZ (base:Nat) (w:World) (v:Option Value):WD->Prop
 |.tr x=>∃t:Rt,v=some t.v/\t.rx=x/\t.P w/\∀b∈t.fp,base<=b
 |.ls l=>∃(s:Sl) (ts:List Rt),v=some s.v/\Rt.bV ts=l/\(eJ s ts).P w/\∀b∈(eJ s ts).fp,base<=b
theorem EZ.pI {base:Nat} {w w':World} {v:Option Value} {sp:WD} (h:EZ base w v sp) (f:bG w w'):EZ base w' v sp:=by
 cases sp with
 |tr x=>obtain ⟨t,h1,h2,h3,h4⟩:=h;exact ⟨t,h1,h2,h3.pI f,h4⟩
 |ls l=>obtain ⟨s,ts,h1,h2,h3,h4⟩:=h;exact ⟨s,ts,h1,h2,h3.pI f,h4⟩
def ju (i:Nat):Nat:=if i=40 then 9 else 39+i
def uK (base:Nat) (w:World) (E:Env) (t:Nat) (x:Rx):Prop:=∃(b:Nat) (u:Rt),E.get? t=some (.pointer (some (bD b)))/\w.heap[b]? =some (.cells u.c.toArray aA (0,0))/\u.rx=x/\u.P w/\∀c∈u.fp,base<=c
theorem uK.pI {base:Nat} {w w':World} {E:Env} {t:Nat} {x:Rx} (h:uK base w E t x) (f:bG w w'):uK base w' E t x:=by
 obtain ⟨b,u,h1,h2,h3,h4,h5⟩:=h
 exact ⟨b,u,h1,(f.gY b (gq h2) id).trans h2,h3,h4.pI f,h5⟩
theorem uK.put {base:Nat} {w:World} {E:Env} {t d:Nat} {v:Value} {x:Rx} (h:uK base w E t x) (hd:d≠t):uK base w (E.put (some d) v) t x:=by
 obtain ⟨b,u,h1,h2⟩:=h
 exact ⟨b,u,by rw [eW hd];exact h1,h2⟩
section
variable (w0:World) (base:Nat) (kk:Int) (Xa Xb Xc Xs:Rx)
def gl:List WD:=[.tr Xa,
 .tr Xa,
 .tr Xb,
 .ls [Xa,Xb],
 .tr (.mk 3 0 0 [Xa,Xb]),
 .tr Xa,
 .tr Xb,
 .tr Xc,
 .ls [Xa,Xb,Xc],
 .tr (.mk 4 0 0 [Xa,Xb,Xc]),
 .tr Xs,
 .tr Xs,
 .tr Xb,
 .ls [Xs,Xb],
 .tr (.mk 3 0 0 [Xs,Xb]),
 .tr Xa,
 .tr Xb,
 .ls [Xa,Xb],
 .tr (.mk 3 0 0 [Xa,Xb]),
 .ls [(.mk 3 0 0 [Xa,Xb])],
 .tr (.mk 6 0 0 [(.mk 3 0 0 [Xa,Xb])]),
 .tr Xb,
 .tr Xa,
 .tr Xc,
 .ls [Xa,Xc],
 .tr (.mk 4 0 0 [Xa,Xc]),
 .ls [(.mk 4 0 0 [Xa,Xc])],
 .tr (.mk 7 0 0 [(.mk 4 0 0 [Xa,Xc])]),
 .ls [Xb,(.mk 7 0 0 [(.mk 4 0 0 [Xa,Xc])])],
 .tr (.mk 3 0 0 [Xb,(.mk 7 0 0 [(.mk 4 0 0 [Xa,Xc])])]),
 .tr Xb,
 .ls [Xb],
 .tr (.mk 6 0 0 [Xb]),
 .tr Xa,
 .tr fL,
 .ls [Xa,fL],
 .tr (.mk 3 0 0 [Xa,fL]),
 .ls [(.mk 6 0 0 [Xb]),(.mk 3 0 0 [Xa,fL])],
 .tr (.mk 5 0 0 [(.mk 6 0 0 [Xb]),(.mk 3 0 0 [Xa,fL])]),
 .ls [Xa,(.mk 3 0 0 [Xa,Xb]),(.mk 4 0 0 [Xa,Xb,Xc]),Xs,(.mk 3 0 0 [Xs,Xb]),(.mk 6 0 0 [(.mk 3 0 0 [Xa,Xb])]),(.mk 3 0 0 [Xb,(.mk 7 0 0 [(.mk 4 0 0 [Xa,Xc])])]),(.mk 5 0 0 [(.mk 6 0 0 [Xb]),(.mk 3 0 0 [Xa,fL])])],
 .ls [Xa,(.mk 3 0 0 [Xa,Xb]),(.mk 4 0 0 [Xa,Xb,Xc]),Xs,(.mk 3 0 0 [Xs,Xb]),(.mk 6 0 0 [(.mk 3 0 0 [Xa,Xb])]),(.mk 3 0 0 [Xb,(.mk 7 0 0 [(.mk 4 0 0 [Xa,Xc])])]),(.mk 5 0 0 [(.mk 6 0 0 [Xb]),(.mk 3 0 0 [Xa,fL])])]]
structure JT (L:Nat->Bool) (E:Env) (w:World):Prop where
 fr:bG w0 w
 k:E.get? 3=some (.i kk)
 a:uK base w E 5 Xa
 b:uK base w E 6 Xb
 c:uK base w E 7 Xc
 s:uK base w E 8 Xs
 all:∀(i:Nat) (sp:WD),(gl Xa Xb Xc Xs)[i]? =some sp->L i=true->EZ base w (E.get? (ju i)) sp
variable {w0 base kk Xa Xb Xc Xs}
theorem JT.step {L:Nat->Bool} {E:Env} {w w':World} (J:JT w0 base kk Xa Xb Xc Xs L E w) (f:bG w w') {i d:Nat} (hd:d=ju i) {v:Value} {sp:WD} (hs:(gl Xa Xb Xc Xs)[i]? =some sp) (h:EZ base w' (some v) sp):JT w0 base kk Xa Xb Xc Xs (jy L i) (E.put (some d) v) w':=by
 have hn:9<=d:=by rw [hd];unfold ju;split<;>omega
 refine ⟨J.fr.AV f,by rw [eW (by omega)];exact J.k,(J.a.pI f).put (by omega),(J.b.pI f).put (by omega),(J.c.pI f).put (by omega),(J.s.pI f).put (by omega),λj sq hq hL=>?_⟩
 by_cases hj:j=i
 .subst hj
  rw [hs] at hq;cases hq
  rw [<-hd,tY]
  exact h
 .have ie:d≠ju j:=by
   rw [hd]
   have h1:i<41:=(List.getElem?_eq_some_iff.1 hs).1
   have h2:j<41:=(List.getElem?_eq_some_iff.1 hq).1
   unfold ju
   split<;>split<;>omega
  rw [eW ie]
  refine (J.all j sq hq ?_).pI f
  have:Nat.beq j i=false:=by rw [<-Bool.not_eq_true,Nat.beq_eq];exact hj
  simpa [jy,this] using hL
abbrev sV (w0:World) (base:Nat) (kk:Int) (Xa Xb Xc Xs:Rx) (i:Nat) (r:Op×Option Nat×TypeId×List Nat):Prop:=Pe Tryz.prog (JT w0 base kk Xa Xb Xc Xs) i r
theorem QA {b:Nat} {u:Rt} {w:World} (hb:w.heap[b]? =some (.cells u.c.toArray aA (0,0))) {K:Value->Prop} (hk:K u.v):Bd Tryz.prog aA (bD b) w λv _=>K v:=by
 have c0:=cellAt (p:=bD b) (i:=0) (v:=.int .i64 u.k) hb rfl rfl
 have c1:=cellAt (p:=bD b) (i:=1) (v:=.int .u8 (u.lo.toNat:Int)) hb rfl rfl
 have c2:=cellAt (p:=bD b) (i:=2) (v:=.int .u8 (u.hi.toNat:Int)) hb rfl rfl
 have c3:=cellAt (p:=bD b) (i:=3) (v:=u.s.v) hb rfl rfl
 have e:(Bd Tryz.prog aA (bD b) w λv _=>K v)=(∃n0:Int,∃n1:Int,∃n2:Int,∃n3:Sl,w.cell? ((bD b).add 0)=some (.int .i64 n0)/\w.cell? ((bD b).add 1)=some (.int .u8 n1)/\w.cell? ((bD b).add 2)=some (.int .u8 n2)/\w.cell? ((bD b).add 3)=some n3.v/\K (.agg #[.int .i64 n0,.int .u8 n1,.int .u8 n2,n3.v])):=by kernel_rfl
 rw [e]
 exact ⟨_,_,_,u.s,c0,c1,c2,c3,hk⟩
theorem DE {ty:TypeId} {ds:List Nat} {t:Nat} {x:Rx} (i d:Nat) (hd:d=ju i) (hs:(gl Xa Xb Xc Xs)[i]? =some (.tr x)) (hv:∀L E w,JT w0 base kk Xa Xb Xc Xs L E w->uK base w E t x):sV w0 base kk Xa Xb Xc Xs i (.load aA (.tmp t),some d,ty,ds):=by
 intro L E w o ho uo ht hi dZ J
 obtain ⟨b,u,h1,h2,h3,h4,h5⟩:=hv L E w J
 refine Av ho h1 (QA h2 ?_)
 rw [uo]
 exact J.step (Fr.refl _ _) hd hs ⟨u,rfl,h3,h4,h5⟩
theorem uc {ty:TypeId} {ds:List Nat} (i d:Nat) (hs:(gl Xa Xb Xc Xs)[i]? =some (.tr Xa)) (hd:d=ju i:=by rfl):sV w0 base kk Xa Xb Xc Xs i (.load aA (.tmp 5),some d,ty,ds):=DE i d hd hs λ_ _ _ J=>J.a
theorem ud {ty:TypeId} {ds:List Nat} (i d:Nat) (hs:(gl Xa Xb Xc Xs)[i]? =some (.tr Xb)) (hd:d=ju i:=by rfl):sV w0 base kk Xa Xb Xc Xs i (.load aA (.tmp 6),some d,ty,ds):=DE i d hd hs λ_ _ _ J=>J.b
theorem JL {ty:TypeId} {ds:List Nat} (i d:Nat) (hs:(gl Xa Xb Xc Xs)[i]? =some (.tr Xc)) (hd:d=ju i:=by rfl):sV w0 base kk Xa Xb Xc Xs i (.load aA (.tmp 7),some d,ty,ds):=DE i d hd hs λ_ _ _ J=>J.c
theorem JM {ty:TypeId} {ds:List Nat} (i d:Nat) (hs:(gl Xa Xb Xc Xs)[i]? =some (.tr Xs)) (hd:d=ju i:=by rfl):sV w0 base kk Xa Xb Xc Xs i (.load aA (.tmp 8),some d,ty,ds):=DE i d hd hs λ_ _ _ J=>J.s
theorem Rh (a:Rt) (w:World):(Instr.buildSlice aC 1 #[((0:Nat),a.v)]).run Tryz.prog w=.ok (.slice (some (bD w.heap.size)) 1 1) (w.alloc (.cells ([a].flatMap Rt.c).toArray aA)):=by kernel_rfl
theorem Ri (a b:Rt) (w:World):(Instr.buildSlice aC 2 #[((0:Nat),a.v),(1,b.v)]).run Tryz.prog w=.ok (.slice (some (bD w.heap.size)) 2 2) (w.alloc (.cells ([a,b].flatMap Rt.c).toArray aA)):=by kernel_rfl
theorem Rj (a b c:Rt) (w:World):(Instr.buildSlice aC 3 #[((0:Nat),a.v),(1,b.v),(2,c.v)]).run Tryz.prog w=.ok (.slice (some (bD w.heap.size)) 3 3) (w.alloc (.cells ([a,b,c].flatMap Rt.c).toArray aA)):=by kernel_rfl
theorem Rk (a b c q e g r s:Rt) (w:World):(Instr.buildSlice aC 8 #[((0:Nat),a.v),(1,b.v),(2,c.v),(3,q.v),(4,e.v),(5,g.v),(6,r.v),(7,s.v)]).run Tryz.prog w=.ok (.slice (some (bD w.heap.size)) 8 8) (w.alloc (.cells ([a,b,c,q,e,g,r,s].flatMap Rt.c).toArray aA)):=by kernel_rfl
theorem JV {o:Oper} {T:TypeId} {n:Nat} {parts:Array (Nat×Operand)} {E:Env} {w w':World} {v:Value} {K:Env->World->Prop} (ho:o.op=.buildSlice T n parts) (hc:E.gh o=true) (hr:(Instr.buildSlice T n (parts.map λp=>(p.1,E.ev p.2))).run Tryz.prog w=.ok v w') (h:K (E.put o.dst v) w'):o3 Tryz.prog o E w K:=by
 obtain ⟨dst,op,ty,pos,after,guard⟩:=o
 simp only at ho
 subst ho
 have he:xm Tryz.prog ⟨dst,.buildSlice T n parts,ty,pos,after,guard⟩ E w (λv w'=>K (E.put dst v) w'):=by
  unfold xm
  rw [hc]
  show hU true _
  simp only [execOp]
  rw [show (λ(x:Nat×Operand)=>match x with |(i,x)=>(i,E.ev x))=λp=>(p.1,E.ev p.2) from rfl]
  simp [hr]
  exact h
 unfold o3
 simp only [calm,cond_false]
 unfold mM
 exact he
theorem nh {E:Env} {t:Nat} {v:Value} (h:E.get? t=some v):E.ev (.tmp t)=v:=by simp [Env.ev,Env.val,h]
theorem wj {w:World} {ts:List Rt} {n:Nat} (hn:n=ts.length) (hm:n<=1000) (hp:Rt.Ps w ts) (hf:∀b∈Rt.gV ts,base<=b) (hb:base<=w.heap.size):
  (eJ ⟨some (bD w.heap.size),n,n⟩ ts).P (w.alloc (.cells (ts.flatMap Rt.c).toArray aA))/\∀b∈(eJ ⟨some (bD w.heap.size),n,n⟩ ts).fp,base<=b:=by
 have iO:=aO.made w aA 4 n (ts.flatMap Rt.c) (by rw [Rt.iT,hn]) (by unfold maxLen;omega)
 refine ⟨fR.2 ⟨iO.iD,hp.pI (Fr.alloc _ _ _)⟩,λb eG=>?_⟩
 rcases pg.1 eG with h|h
 .exact Ah (λc hc=>by simp only [aZ,cS,fF,or_false] at hc;rw [hc];exact hb) b h
 .exact hf b h
theorem JT.vG {L:Nat->Bool} {E:Env} {w:World} (J:JT w0 base kk Xa Xb Xc Xs L E w) (hb:base<=w0.heap.size):base<=w.heap.size:=Nat.le_trans hb J.fr.size
section
variable (mN:base<=w0.heap.size)
include mN
theorem DD {ty:TypeId} {ds:List Nat} (i d j0:Nat) {t0:Nat} {x0:Rx} (hs:(gl Xa Xb Xc Xs)[i]? =some (.ls [x0])) (h0:(gl Xa Xb Xc Xs)[j0]? =some (.tr x0)) (m0:j0∈ds) (hd:d=ju i:=by rfl) (e0:t0=ju j0:=by rfl):sV w0 base kk Xa Xb Xc Xs i (.buildSlice aC 1 #[(0,.tmp t0)],some d,ty,ds):=by
 intro L E w o ho uo ht hi dZ J
 obtain ⟨a,a1,a2,a3,a4⟩:=J.all j0 _ h0 (dZ j0 m0)
 rw [<-e0] at a1
 have hm:=wj (base:=base) (w:=w) (ts:=[a]) (n:=1) rfl (by omega) (Rt.oX (by simp [a3])) (by simp [Rt.gV];exact a4) (J.vG mN)
 refine JV (w':=w.alloc (.cells ([a].flatMap Rt.c).toArray aA)) (v:=.slice (some (bD w.heap.size)) 1 1) ho (by obtain ⟨_,op,_,_,_,_⟩:=o;simp only at ho;subst ho;simp [Env.gh,Op.operands,Env.val,a1]) ?_ ?_
 .rw [show (#[((0:Nat),Operand.tmp t0)].map λp=>(p.1,E.ev p.2))=#[((0:Nat),a.v)] by simp [nh a1]]
  exact Rh a w
 .rw [uo]
  exact J.step (Fr.alloc _ _ _) hd hs ⟨⟨some (bD w.heap.size),1,1⟩,[a],rfl,by simp [Rt.bV,a2],hm.1,hm.2⟩
theorem sd {ty:TypeId} {ds:List Nat} (i d j0 j1:Nat) {t0 t1:Nat} {x0 x1:Rx} (hs:(gl Xa Xb Xc Xs)[i]? =some (.ls [x0,x1])) (h0:(gl Xa Xb Xc Xs)[j0]? =some (.tr x0)) (h1:(gl Xa Xb Xc Xs)[j1]? =some (.tr x1)) (m0:j0∈ds) (m1:j1∈ds) (hd:d=ju i:=by rfl) (e0:t0=ju j0:=by rfl) (e1:t1=ju j1:=by rfl):sV w0 base kk Xa Xb Xc Xs i (.buildSlice aC 2 #[(0,.tmp t0),(1,.tmp t1)],some d,ty,ds):=by
 intro L E w o ho uo ht hi dZ J
 obtain ⟨a,a1,a2,a3,a4⟩:=J.all j0 _ h0 (dZ j0 m0)
 obtain ⟨b,b1,b2,b3,b4⟩:=J.all j1 _ h1 (dZ j1 m1)
 rw [<-e0] at a1
 rw [<-e1] at b1
 have hm:=wj (base:=base) (w:=w) (ts:=[a,b]) (n:=2) rfl (by omega) (Rt.oX (by simp [a3,b3])) (by simp [Rt.gV];exact λc hc=>hc.elim (a4 c) (b4 c)) (J.vG mN)
 refine JV (w':=w.alloc (.cells ([a,b].flatMap Rt.c).toArray aA)) (v:=.slice (some (bD w.heap.size)) 2 2) ho (by obtain ⟨_,op,_,_,_,_⟩:=o;simp only at ho;subst ho;simp [Env.gh,Op.operands,Env.val,a1,b1]) ?_ ?_
 .rw [show (#[((0:Nat),Operand.tmp t0),(1,.tmp t1)].map λp=>(p.1,E.ev p.2))=#[((0:Nat),a.v),(1,b.v)] by simp [nh a1,nh b1]]
  exact Ri a b w
 .rw [uo]
  exact J.step (Fr.alloc _ _ _) hd hs ⟨⟨some (bD w.heap.size),2,2⟩,[a,b],rfl,by simp [Rt.bV,a2,b2],hm.1,hm.2⟩
theorem Re {ty:TypeId} {ds:List Nat} (i d j0 j1 j2:Nat) {t0 t1 t2:Nat} {x0 x1 x2:Rx} (hs:(gl Xa Xb Xc Xs)[i]? =some (.ls [x0,x1,x2])) (h0:(gl Xa Xb Xc Xs)[j0]? =some (.tr x0)) (h1:(gl Xa Xb Xc Xs)[j1]? =some (.tr x1)) (h2:(gl Xa Xb Xc Xs)[j2]? =some (.tr x2)) (m0:j0∈ds) (m1:j1∈ds) (m2:j2∈ds) (hd:d=ju i:=by rfl) (e0:t0=ju j0:=by rfl) (e1:t1=ju j1:=by rfl) (e2:t2=ju j2:=by rfl):sV w0 base kk Xa Xb Xc Xs i (.buildSlice aC 3 #[(0,.tmp t0),(1,.tmp t1),(2,.tmp t2)],some d,ty,ds):=by
 intro L E w o ho uo ht hi dZ J
 obtain ⟨a,a1,a2,a3,a4⟩:=J.all j0 _ h0 (dZ j0 m0)
 obtain ⟨b,b1,b2,b3,b4⟩:=J.all j1 _ h1 (dZ j1 m1)
 obtain ⟨c,c1,c2,c3,c4⟩:=J.all j2 _ h2 (dZ j2 m2)
 rw [<-e0] at a1
 rw [<-e1] at b1
 rw [<-e2] at c1
 have hm:=wj (base:=base) (w:=w) (ts:=[a,b,c]) (n:=3) rfl (by omega) (Rt.oX (by simp [a3,b3,c3])) (by simp [Rt.gV];exact λz hz=>hz.elim (a4 z) (λhz=>hz.elim (b4 z) (c4 z))) (J.vG mN)
 refine JV (w':=w.alloc (.cells ([a,b,c].flatMap Rt.c).toArray aA)) (v:=.slice (some (bD w.heap.size)) 3 3) ho (by obtain ⟨_,op,_,_,_,_⟩:=o;simp only at ho;subst ho;simp [Env.gh,Op.operands,Env.val,a1,b1,c1]) ?_ ?_
 .rw [show (#[((0:Nat),Operand.tmp t0),(1,.tmp t1),(2,.tmp t2)].map λp=>(p.1,E.ev p.2))=#[((0:Nat),a.v),(1,b.v),(2,c.v)] by simp [nh a1,nh b1,nh c1]]
  exact Rj a b c w
 .rw [uo]
  exact J.step (Fr.alloc _ _ _) hd hs ⟨⟨some (bD w.heap.size),3,3⟩,[a,b,c],rfl,by simp [Rt.bV,a2,b2,c2],hm.1,hm.2⟩
theorem Rf {ty:TypeId} {ds:List Nat} (i d j0 j1 j2 j3 j4 j5 j6 j7:Nat) {t0 t1 t2 t3 t4 t5 t6 t7:Nat} {x0 x1 x2 x3 x4 x5 x6 x7:Rx} (hs:(gl Xa Xb Xc Xs)[i]? =some (.ls [x0,x1,x2,x3,x4,x5,x6,x7])) (h0:(gl Xa Xb Xc Xs)[j0]? =some (.tr x0)) (h1:(gl Xa Xb Xc Xs)[j1]? =some (.tr x1)) (h2:(gl Xa Xb Xc Xs)[j2]? =some (.tr x2)) (h3:(gl Xa Xb Xc Xs)[j3]? =some (.tr x3)) (h4:(gl Xa Xb Xc Xs)[j4]? =some (.tr x4)) (h5:(gl Xa Xb Xc Xs)[j5]? =some (.tr x5)) (h6:(gl Xa Xb Xc Xs)[j6]? =some (.tr x6)) (h7:(gl Xa Xb Xc Xs)[j7]? =some (.tr x7)) (m0:j0∈ds) (m1:j1∈ds) (m2:j2∈ds) (m3:j3∈ds) (m4:j4∈ds) (m5:j5∈ds) (m6:j6∈ds) (m7:j7∈ds) (hd:d=ju i:=by rfl) (e0:t0=ju j0:=by rfl) (e1:t1=ju j1:=by rfl) (e2:t2=ju j2:=by rfl) (e3:t3=ju j3:=by rfl) (e4:t4=ju j4:=by rfl) (e5:t5=ju j5:=by rfl) (e6:t6=ju j6:=by rfl) (e7:t7=ju j7:=by rfl):
  sV w0 base kk Xa Xb Xc Xs i (.buildSlice aC 8 #[(0,.tmp t0),(1,.tmp t1),(2,.tmp t2),(3,.tmp t3),(4,.tmp t4),(5,.tmp t5),(6,.tmp t6),(7,.tmp t7)],some d,ty,ds):=by
 intro L E w o ho uo ht hi dZ J
 obtain ⟨a,a1,a2,a3,a4⟩:=J.all j0 _ h0 (dZ j0 m0)
 obtain ⟨b,b1,b2,b3,b4⟩:=J.all j1 _ h1 (dZ j1 m1)
 obtain ⟨c,c1,c2,c3,c4⟩:=J.all j2 _ h2 (dZ j2 m2)
 obtain ⟨q,q1,q2,q3,q4⟩:=J.all j3 _ h3 (dZ j3 m3)
 obtain ⟨e,f1,f2,f3,f4⟩:=J.all j4 _ h4 (dZ j4 m4)
 obtain ⟨g,g1,g2,g3,g4⟩:=J.all j5 _ h5 (dZ j5 m5)
 obtain ⟨r,r1,r2,r3,r4⟩:=J.all j6 _ h6 (dZ j6 m6)
 obtain ⟨s,s1,s2,s3,s4⟩:=J.all j7 _ h7 (dZ j7 m7)
 rw [<-e0] at a1
 rw [<-e1] at b1
 rw [<-e2] at c1
 rw [<-e3] at q1
 rw [<-e4] at f1
 rw [<-e5] at g1
 rw [<-e6] at r1
 rw [<-e7] at s1
 have hm:=wj (base:=base) (w:=w) (ts:=[a,b,c,q,e,g,r,s]) (n:=8) rfl (by omega) (Rt.oX (by simp [a3,b3,c3,q3,f3,g3,r3,s3])) (by
  intro z hz
  obtain ⟨t,ht,hy⟩:=Rt.bC.1 hz
  clear hz
  simp only [cS,fF,or_false] at ht
  rcases ht with rfl|rfl|rfl|rfl|rfl|rfl|rfl|rfl
  .exact a4 z hy
  .exact b4 z hy
  .exact c4 z hy
  .exact q4 z hy
  .exact f4 z hy
  .exact g4 z hy
  .exact r4 z hy
  .exact s4 z hy) (J.vG mN)
 refine JV (w':=w.alloc (.cells ([a,b,c,q,e,g,r,s].flatMap Rt.c).toArray aA)) (v:=.slice (some (bD w.heap.size)) 8 8) ho (by obtain ⟨_,op,_,_,_,_⟩:=o;simp only at ho;subst ho;simp [Env.gh,Op.operands,Env.val,a1,b1,c1,q1,f1,g1,r1,s1]) ?_ ?_
 .rw [show (#[((0:Nat),Operand.tmp t0),(1,.tmp t1),(2,.tmp t2),(3,.tmp t3),(4,.tmp t4),(5,.tmp t5),(6,.tmp t6),(7,.tmp t7)].map λp=>(p.1,E.ev p.2))=#[((0:Nat),a.v),(1,b.v),(2,c.v),(3,q.v),(4,e.v),(5,g.v),(6,r.v),(7,s.v)] by simp [nh a1,nh b1,nh c1,nh q1,nh f1,nh g1,nh r1,nh s1]]
  exact Rk a b c q e g r s w
 .rw [uo]
  exact J.step (Fr.alloc _ _ _) hd hs ⟨⟨some (bD w.heap.size),8,8⟩,[a,b,c,q,e,g,r,s],rfl,by simp [Rt.bV,a2,b2,c2,q2,f2,g2,r2,s2],hm.1,hm.2⟩
end
theorem Yu {o:Oper} {k:Int} {t:Nat} {s:Sl} {E:Env} {w:World} {K:Env->World->Prop} (hk:k=3\/k=4\/k=5\/k=6\/k=7) (ho:o.op=.build aA #[(0,.const (.int .i64 k)),(3,.tmp t)]) (ht:E.get? t=some s.v) (h:K (E.put o.dst (.agg #[.i k,.int .u8 0,.int .u8 0,s.v])) w):o3 Tryz.prog o E w K:=by
 obtain ⟨dst,op,ty,pos,after,guard⟩:=o
 simp only at ho
 subst ho
 show iB Tryz.prog _ E (λv _=>K (E.put dst v) w)
 have hc:E.gh ⟨dst,.build aA #[(0,.const (.int .i64 k)),(3,.tmp t)],ty,pos,after,guard⟩=true:=by simp [Env.gh,Op.operands,Env.val,ht]
 unfold iB
 rw [hc]
 have e:execOp E.ev ⟨dst,.build aA #[(0,.const (.int .i64 k)),(3,.tmp t)],ty,pos,after,guard⟩=execOp (λx=>match x with |.const v=>v|_=>s.v) ⟨dst,.build aA #[(0,.const (.int .i64 k)),(3,.tmp t)],ty,pos,after,guard⟩:=by
  have:E.ev (.tmp t)=s.v:=nh ht
  have h2:E.ev (.const (.int .i64 k))=.int .i64 k:=by simp [Env.ev,Env.val]
  simp only [execOp,List.map_toArray,List.map_cons,List.map_nil,this,h2]
 rw [e]
 have e2:r7 Tryz.prog (execOp (λx=>match x with |.const v=>v|_=>s.v) ⟨dst,.build aA #[(0,.const (.int .i64 k)),(3,.tmp t)],ty,pos,after,guard⟩)=some (.value (.agg #[.i k,.int .u8 0,.int .u8 0,s.v])):=by
  kernel_rfl
 rw [e2]
 exact h
theorem Al {ty:TypeId} {ds:List Nat} (k:Int) (hk:k=3\/k=4\/k=5\/k=6\/k=7) (i d j:Nat) {t:Nat} {l:List Rx} (hs:(gl Xa Xb Xc Xs)[i]? =some (.tr (.mk k 0 0 l))) (h0:(gl Xa Xb Xc Xs)[j]? =some (.ls l)) (m:j∈ds) (hd:d=ju i) (e0:t=ju j):sV w0 base kk Xa Xb Xc Xs i (.build aA #[(0,.const (.int .i64 k)),(3,.tmp t)],some d,ty,ds):=by
 intro L E w o ho uo ht hi dZ J
 obtain ⟨s,ts,a1,a2,a3,a4⟩:=J.all j _ h0 (dZ j m)
 rw [<-e0] at a1
 refine Yu hk ho a1 ?_
 rw [uo]
 refine J.step (Fr.refl _ _) hd hs ⟨.mk k 0 0 s ts,rfl,by rw [<-a2];rfl,?_,λb hb=>a4 b ?_⟩
 .have:=fR.1 a3
  unfold Rt.P
  exact this
 .unfold Rt.fp at hb
  unfold eJ Rt.fp
  exact hb
theorem wF {ty:TypeId} {ds:List Nat} (i d j:Nat) {t:Nat} {l:List Rx} (hs:(gl Xa Xb Xc Xs)[i]? =some (.tr (.mk 3 0 0 l))) (h0:(gl Xa Xb Xc Xs)[j]? =some (.ls l)) (m:j∈ds) (hd:d=ju i:=by rfl) (e0:t=ju j:=by rfl):sV w0 base kk Xa Xb Xc Xs i (.build aA #[(0,.const (.int .i64 3)),(3,.tmp t)],some d,ty,ds):=Al 3 (by omega) i d j hs h0 m hd e0
theorem JJ {ty:TypeId} {ds:List Nat} (i d j:Nat) {t:Nat} {l:List Rx} (hs:(gl Xa Xb Xc Xs)[i]? =some (.tr (.mk 4 0 0 l))) (h0:(gl Xa Xb Xc Xs)[j]? =some (.ls l)) (m:j∈ds) (hd:d=ju i:=by rfl) (e0:t=ju j:=by rfl):sV w0 base kk Xa Xb Xc Xs i (.build aA #[(0,.const (.int .i64 4)),(3,.tmp t)],some d,ty,ds):=Al 4 (by omega) i d j hs h0 m hd e0
theorem Rb {ty:TypeId} {ds:List Nat} (i d j:Nat) {t:Nat} {l:List Rx} (hs:(gl Xa Xb Xc Xs)[i]? =some (.tr (.mk 5 0 0 l))) (h0:(gl Xa Xb Xc Xs)[j]? =some (.ls l)) (m:j∈ds) (hd:d=ju i:=by rfl) (e0:t=ju j:=by rfl):sV w0 base kk Xa Xb Xc Xs i (.build aA #[(0,.const (.int .i64 5)),(3,.tmp t)],some d,ty,ds):=Al 5 (by omega) i d j hs h0 m hd e0
theorem JK {ty:TypeId} {ds:List Nat} (i d j:Nat) {t:Nat} {l:List Rx} (hs:(gl Xa Xb Xc Xs)[i]? =some (.tr (.mk 6 0 0 l))) (h0:(gl Xa Xb Xc Xs)[j]? =some (.ls l)) (m:j∈ds) (hd:d=ju i:=by rfl) (e0:t=ju j:=by rfl):sV w0 base kk Xa Xb Xc Xs i (.build aA #[(0,.const (.int .i64 6)),(3,.tmp t)],some d,ty,ds):=Al 6 (by omega) i d j hs h0 m hd e0
theorem Rc {ty:TypeId} {ds:List Nat} (i d j:Nat) {t:Nat} {l:List Rx} (hs:(gl Xa Xb Xc Xs)[i]? =some (.tr (.mk 7 0 0 l))) (h0:(gl Xa Xb Xc Xs)[j]? =some (.ls l)) (m:j∈ds) (hd:d=ju i:=by rfl) (e0:t=ju j:=by rfl):sV w0 base kk Xa Xb Xc Xs i (.build aA #[(0,.const (.int .i64 7)),(3,.tmp t)],some d,ty,ds):=Al 7 (by omega) i d j hs h0 m hd e0
theorem Vz {ty:TypeId} {ds:List Nat} (i d j:Nat) {t:Nat} {l:List Rx} (hs:(gl Xa Xb Xc Xs)[i]? =some (.ls l)) (h0:(gl Xa Xb Xc Xs)[j]? =some (.ls l)) (m:j∈ds) (hd:d=ju i:=by rfl) (e0:t=ju j:=by rfl):sV w0 base kk Xa Xb Xc Xs i (.assign (.tmp t),some d,ty,ds):=by
 intro L E w o ho uo ht hi dZ J
 obtain ⟨s,ts,a1,a2,a3,a4⟩:=J.all j _ h0 (dZ j m)
 rw [<-e0] at a1
 refine wH (.inr ho) a1 ?_
 rw [uo]
 exact J.step (Fr.refl _ _) hd hs ⟨s,ts,rfl,a2,a3,a4⟩
theorem Oe {ds:List Nat} (mN:base<=w0.heap.size) (i d:Nat) (hs:(gl Xa Xb Xc Xs)[i]? =some (.tr fL)) (hd:d=ju i:=by rfl):sV w0 base kk Xa Xb Xc Xs i (.call ⟨.value (.func bR),#[],#[]⟩,some d,aA,ds):=by
 intro L E w o ho uo ht hi dZ J
 obtain ⟨dst,op,ty,pos,after,guard⟩:=o
 simp only at ho uo ht
 subst ho
 subst uo
 subst ht
 have hc:E.gh ⟨some d,.call ⟨.value (.func bR),#[],#[]⟩,aA,pos,after,guard⟩=true:=by simp [Env.gh,Op.operands,Call.operands,Env.val]
 have BW:fK Tryz.prog bR=true:=by kernel_rfl
 have Y1:calm Tryz.prog ⟨some d,.call ⟨.value (.func bR),#[],#[]⟩,aA,pos,after,guard⟩=false:=rfl
 unfold o3
 rw [Y1,cond_false]
 unfold mM
 dsimp only
 rw [hc,BW]
 simp only [List.map_toArray,List.map_nil,cond_true]
 refine (show uS Tryz.prog bR #[] (zeroOf Tryz.prog aA) w (λv w'=>JT w0 base kk Xa Xb Xc Xs (jy L i) (E.put (some d) v) w') from ?_)
 refine (CQ w).mono ?_
 rintro _ w' ⟨⟨t,rfl,h2,h3,h4⟩,f⟩
 have e:vV (zeroOf Tryz.prog aA) (λv=>Ending.returned t.v=.returned v/\JT w0 base kk Xa Xb Xc Xs (jy L i) (E.put (some d) v) w')=∃n0:Int,∃n1:Int,∃n2:Int,∃n3:Sl,Ending.returned t.v=.returned (.agg #[.int .i64 n0,.int .u8 n1,.int .u8 n2,n3.v])/\JT w0 base kk Xa Xb Xc Xs (jy L i) (E.put (some d) (.agg #[.int .i64 n0,.int .u8 n1,.int .u8 n2,n3.v])) w':=by kernel_rfl
 rw [e]
 exact ⟨t.k,t.lo.toNat,t.hi.toNat,t.s,rfl,J.step f hd hs ⟨t,rfl,h2,h3,λb hb=>Nat.le_trans (J.vG mN) (h4 b hb)⟩⟩
def YH:List (Op×Option Nat×TypeId×List Nat):=[(.load aA (.tmp 5),some 39,aA,[]),
 (.load aA (.tmp 5),some 40,aA,[]),
 (.load aA (.tmp 6),some 41,aA,[]),
 (.buildSlice aC 2 #[(0,.tmp 40),(1,.tmp 41)],some 42,aC,[1,2]),
 (.build aA #[(0,.const (.int .i64 3)),(3,.tmp 42)],some 43,aA,[3]),
 (.load aA (.tmp 5),some 44,aA,[]),
 (.load aA (.tmp 6),some 45,aA,[]),
 (.load aA (.tmp 7),some 46,aA,[]),
 (.buildSlice aC 3 #[(0,.tmp 44),(1,.tmp 45),(2,.tmp 46)],some 47,aC,[5,6,7]),
 (.build aA #[(0,.const (.int .i64 4)),(3,.tmp 47)],some 48,aA,[8]),
 (.load aA (.tmp 8),some 49,aA,[]),
 (.load aA (.tmp 8),some 50,aA,[]),
 (.load aA (.tmp 6),some 51,aA,[]),
 (.buildSlice aC 2 #[(0,.tmp 50),(1,.tmp 51)],some 52,aC,[11,12]),
 (.build aA #[(0,.const (.int .i64 3)),(3,.tmp 52)],some 53,aA,[13]),
 (.load aA (.tmp 5),some 54,aA,[]),
 (.load aA (.tmp 6),some 55,aA,[]),
 (.buildSlice aC 2 #[(0,.tmp 54),(1,.tmp 55)],some 56,aC,[15,16]),
 (.build aA #[(0,.const (.int .i64 3)),(3,.tmp 56)],some 57,aA,[17]),
 (.buildSlice aC 1 #[(0,.tmp 57)],some 58,aC,[18]),
 (.build aA #[(0,.const (.int .i64 6)),(3,.tmp 58)],some 59,aA,[19]),
 (.load aA (.tmp 6),some 60,aA,[]),
 (.load aA (.tmp 5),some 61,aA,[]),
 (.load aA (.tmp 7),some 62,aA,[]),
 (.buildSlice aC 2 #[(0,.tmp 61),(1,.tmp 62)],some 63,aC,[22,23]),
 (.build aA #[(0,.const (.int .i64 4)),(3,.tmp 63)],some 64,aA,[24]),
 (.buildSlice aC 1 #[(0,.tmp 64)],some 65,aC,[25]),
 (.build aA #[(0,.const (.int .i64 7)),(3,.tmp 65)],some 66,aA,[26]),
 (.buildSlice aC 2 #[(0,.tmp 60),(1,.tmp 66)],some 67,aC,[21,27]),
 (.build aA #[(0,.const (.int .i64 3)),(3,.tmp 67)],some 68,aA,[28]),
 (.load aA (.tmp 6),some 69,aA,[]),
 (.buildSlice aC 1 #[(0,.tmp 69)],some 70,aC,[30]),
 (.build aA #[(0,.const (.int .i64 6)),(3,.tmp 70)],some 71,aA,[31]),
 (.load aA (.tmp 5),some 72,aA,[]),
 (.call ⟨.value (.func bR),#[],#[]⟩,some 73,aA,[]),
 (.buildSlice aC 2 #[(0,.tmp 72),(1,.tmp 73)],some 74,aC,[33,34]),
 (.build aA #[(0,.const (.int .i64 3)),(3,.tmp 74)],some 75,aA,[35]),
 (.buildSlice aC 2 #[(0,.tmp 71),(1,.tmp 75)],some 76,aC,[32,36]),
 (.build aA #[(0,.const (.int .i64 5)),(3,.tmp 76)],some 77,aA,[37]),
 (.buildSlice aC 8 #[(0,.tmp 39),(1,.tmp 43),(2,.tmp 48),(3,.tmp 49),(4,.tmp 53),(5,.tmp 59),(6,.tmp 68),(7,.tmp 77)],some 78,aC,[0,4,9,10,14,20,29,38]),
 (.assign (.tmp 78),some 9,aC,[39,34,0,1,2,3,4,5,6,7,8,9,10,11,12,13,14,15,16,17,18,19,20,21,22,23,24,25,26,27,28,29,30,31,32,33,34,35,36,37,38,39])]
theorem Ym (mN:base<=w0.heap.size):allI (Pe Tryz.prog (JT w0 base kk Xa Xb Xc Xs)) YH 0:=
 ⟨(uc 0 39 rfl),
  (uc 1 40 rfl),
  (ud 2 41 rfl),
  (sd mN 3 42 1 2 rfl rfl rfl (by simp) (by simp)),
  (wF 4 43 3 rfl rfl (by simp)),
  (uc 5 44 rfl),
  (ud 6 45 rfl),
  (JL 7 46 rfl),
  (Re mN 8 47 5 6 7 rfl rfl rfl rfl (by simp) (by simp) (by simp)),
  (JJ 9 48 8 rfl rfl (by simp)),
  (JM 10 49 rfl),
  (JM 11 50 rfl),
  (ud 12 51 rfl),
  (sd mN 13 52 11 12 rfl rfl rfl (by simp) (by simp)),
  (wF 14 53 13 rfl rfl (by simp)),
  (uc 15 54 rfl),
  (ud 16 55 rfl),
  (sd mN 17 56 15 16 rfl rfl rfl (by simp) (by simp)),
  (wF 18 57 17 rfl rfl (by simp)),
  (DD mN 19 58 18 rfl rfl (by simp)),
  (JK 20 59 19 rfl rfl (by simp)),
  (ud 21 60 rfl),
  (uc 22 61 rfl),
  (JL 23 62 rfl),
  (sd mN 24 63 22 23 rfl rfl rfl (by simp) (by simp)),
  (JJ 25 64 24 rfl rfl (by simp)),
  (DD mN 26 65 25 rfl rfl (by simp)),
  (Rc 27 66 26 rfl rfl (by simp)),
  (sd mN 28 67 21 27 rfl rfl rfl (by simp) (by simp)),
  (wF 29 68 28 rfl rfl (by simp)),
  (ud 30 69 rfl),
  (DD mN 31 70 30 rfl rfl (by simp)),
  (JK 32 71 31 rfl rfl (by simp)),
  (uc 33 72 rfl),
  (Oe mN 34 73 rfl),
  (sd mN 35 74 33 34 rfl rfl rfl (by simp) (by simp)),
  (wF 36 75 35 rfl rfl (by simp)),
  (sd mN 37 76 32 36 rfl rfl rfl (by simp) (by simp)),
  (Rb 38 77 37 rfl rfl (by simp)),
  (Rf mN 39 78 0 4 9 10 14 20 29 38 rfl rfl rfl rfl rfl rfl rfl rfl rfl (by simp) (by simp) (by simp) (by simp) (by simp) (by simp) (by simp) (by simp)),
  (Vz 40 9 39 rfl rfl (by simp)),trivial⟩
end
def xo (k:Nat):Rx:=Hr (gg (k%6)) (gg (k / 6%6)) (gg (k / 36%6)) (k / 216%8)
def NW (k:Nat):Bool:=dY (xo k)&&Nat.ble (xo k).sz 1000&&okW (gD (xo k))&&Nat.ble (gD (xo k)).sz 1000
theorem HZ:(List.range 1728).all NW=true:=by kernel_rfl
theorem Jb (k:Nat):xo k=xo (k%1728):=by
 unfold xo
 rw [show k%1728%6=k%6 by omega,show k%1728 / 6%6=k / 6%6 by omega,show k%1728 / 36%6=k / 36%6 by omega,show k%1728 / 216%8=k / 216%8 by omega]
theorem RE (k:Nat):dY (xo k)=true/\(xo k).sz<=1000/\okW (gD (xo k))=true/\(gD (xo k)).sz<=1000:=by
 rw [Jb]
 have:=wD.1 HZ (k%1728) (List.mem_range.2 (Nat.mod_lt _ (by omega)))
 unfold NW at this
 simp only [Bool.and_eq_true] at this
 exact ⟨this.1.1.1,Nat.le_of_ble_eq_true this.1.1.2,this.1.2,Nat.le_of_ble_eq_true this.2⟩
theorem Gn (k:Nat):qQ k=gU (gD (xo k)):=rfl
theorem xV (k:Nat):qQ k=qQ (k%1728):=by rw [Gn,Gn,Jb]
theorem PA:(List.range 1728).all (λk=>CV (qQ k)==some true)=true:=by kernel_rfl
theorem MI (k:Nat):CV (qQ k)=some true:=by
 rw [xV]
 exact eq_of_beq (wD.1 PA (k%1728) (List.mem_range.2 (Nat.mod_lt _ (by omega))))
theorem Mr (n m:Int) (w:World) (hm:1<=m) (h:oo n):Calls Tryz.prog aR #[.i n,.i m] w λr w'=>r=.returned (.i (dB n m))/\bG w w':=(y7 n m w hm h).mono λr w' h=>⟨h.1,h.2▸Fr.refl _ _⟩
def Mi (ev:Rt):List Rt:=[tu 2 97 97,tu 2 98 98,tu 2 0 0,tu 2 97 98,tu 1 0 0,ev]
theorem zb (ev:Rt) (vt:ev.rx=fL) {i:Nat} (hi:i<6):∃t,(Mi ev)[i]? =some t/\t.rx=gg i/\(t=ev\/∀w:World,t.P w/\∀b,¬b∈t.fp):=by
 have:i=0\/i=1\/i=2\/i=3\/i=4\/i=5:=by omega
 rcases this with rfl|rfl|rfl|rfl|rfl|rfl
 .exact ⟨_,rfl,rfl,.inr λw=>⟨u9 _ _ _ w,λb=>rV⟩⟩
 .exact ⟨_,rfl,rfl,.inr λw=>⟨u9 _ _ _ w,λb=>rV⟩⟩
 .exact ⟨_,rfl,rfl,.inr λw=>⟨u9 _ _ _ w,λb=>rV⟩⟩
 .exact ⟨_,rfl,rfl,.inr λw=>⟨u9 _ _ _ w,λb=>rV⟩⟩
 .exact ⟨_,rfl,rfl,.inr λw=>⟨u9 _ _ _ w,λb=>rV⟩⟩
 .exact ⟨ev,rfl,vt,.inl rfl⟩
theorem Na (a b c:Rx) {i:Nat} (hi:i<8):[a,.mk 3 0 0 [a,b],.mk 4 0 0 [a,b,c],.mk 7 0 0 [a],.mk 3 0 0 [.mk 7 0 0 [a],b],.mk 6 0 0 [.mk 3 0 0 [a,b]],.mk 3 0 0 [b,.mk 7 0 0 [.mk 4 0 0 [a,c]]],.mk 5 0 0 [.mk 6 0 0 [b],.mk 3 0 0 [a,fL]]][i]? =some (Hr a b c i):=by
 have:i=0\/i=1\/i=2\/i=3\/i=4\/i=5\/i=6\/i=7:=by omega
 rcases this with rfl|rfl|rfl|rfl|rfl|rfl|rfl|rfl<;>rfl
theorem J5 (k m:Nat) (hm:0<m):Int.tmod (k:Int) (m:Int)=((k%m:Nat):Int):=by
 rw [Int.tmod_eq_emod_of_nonneg (by omega)];omega
theorem OG (k m:Nat) (hk:k<=1048576):IntKind.wrap .i64 (Int.tdiv (k:Int) (m:Int))=((k / m:Nat):Int):=by
 have h:Int.tdiv (k:Int) (m:Int)=((k / m:Nat):Int):=by
  rw [Int.tdiv_eq_ediv_of_nonneg (by omega)];rfl
 have h2:k / m<=k:=Nat.div_le_self k m
 rw [h]
 generalize k / m=q at h2
 rw [IntWalk.i64_in _ (by omega)]
section
variable {w GO:World} {R:aD} {K:Nat}
theorem OK (hK:K<=1048576) {s:Sl} {ts:List Rt} {w':World} (h1:Rt.bV ts=[gg (K%6),.mk 3 0 0 [gg (K%6),gg (K / 6%6)],.mk 4 0 0 [gg (K%6),gg (K / 6%6),gg (K / 36%6)],.mk 7 0 0 [gg (K%6)],.mk 3 0 0 [.mk 7 0 0 [gg (K%6)],gg (K / 6%6)],.mk 6 0 0 [.mk 3 0 0 [gg (K%6),gg (K / 6%6)]],.mk 3 0 0 [gg (K / 6%6),.mk 7 0 0 [.mk 4 0 0 [gg (K%6),gg (K / 36%6)]]],.mk 5 0 0 [.mk 6 0 0 [gg (K / 6%6)],.mk 3 0 0 [gg (K%6),fL]]])
  (hp:(eJ s ts).P w') (f:bG w w'):enthymemeref04_TextI.T9 s (K:Int) w' λr w'=>r=.returned (.string (ba (qQ K)))/\bG w w':=by
 have hn:=Rt.b0 (fR.1 hp).1
 have hl:ts.length=8:=by
  have:=congrArg List.length h1
  rw [Rt.fC,List.length_map] at this
  simpa using this
 show (0:Int)<=Int.tmod (IntKind.wrap .i64 (Int.tdiv (K:Int) ((216:Nat):Int))) ((8:Nat):Int)/\Int.tmod (IntKind.wrap .i64 (Int.tdiv (K:Int) ((216:Nat):Int))) ((8:Nat):Int)<((s.n:Nat):Int)/\aW s.a λp=>bY w' (p.add (Int.toNat (Int.tmod (IntKind.wrap .i64 (Int.tdiv (K:Int) ((216:Nat):Int))) ((8:Nat):Int)) *4)) _
 rw [OG K 216 hK,J5 _ 8 (by omega)]
 have hi:K / 216%8<8:=Nat.mod_lt _ (by omega)
 have hg:ts[K / 216%8]? =some (ts[K / 216%8]'(by omega)):=g8 (by omega)
 generalize ts[K / 216%8]'(by omega)=t at hg
 have ht:t.rx=xo K:=by
  have h2:=Na (gg (K%6)) (gg (K / 6%6)) (gg (K / 36%6)) hi
  rw [<-h1,Rt.fC,List.getElem?_map,hg] at h2
  exact Option.some.inj h2
 obtain ⟨g1,g2,g3,g4⟩:=RE K
 rw [<-ht] at g1 g2 g3 g4
 have pt:t.P w':=(fR.1 hp).2.get hg
 refine ⟨by omega,by omega,Rt.at' (fR.1 hp).1 hg λp hp c=>⟨_,_,_,_,c.c0,c.c1,c.c2,c.c3,(Em t w' (by rw [<-Rt.ib];exact g2) g1 pt).mono ?_⟩⟩
 rintro _ w1 ⟨⟨u,rfl,hu,pu,_⟩,f1⟩
 rw [<-hu] at g3 g4
 refine ⟨_,_,_,u.s,rfl,(IQ u 0 w1 (by rw [<-Rt.ib];omega) (by omega) g3 pu).mono ?_⟩
 rintro _ w2 ⟨rfl,f2⟩
 refine ⟨_,rfl,?_,(f.AV f1).AV f2⟩
 have e:cP 0 u.rx (gU u.rx)=gU u.rx:=by unfold cP;rw [if_neg (by omega)]
 rw [e,hu,ht]
 rfl
end
theorem Pg {s:Sl} {k:Int} {w:World} {R R':aD} (h:enthymemeref04_TextI.T9 s k w R) (hr:∀r w',R r w'->R' r w'):enthymemeref04_TextI.T9 s k w R':=
 ⟨h.1,h.2.1,NZ h.2.2 λp ⟨a,b,c,d,h0,h1,h2,h3,hc⟩=>⟨a,b,c,d,h0,h1,h2,h3,hc.mono λr w1 ⟨e,f,g,i,he,hw⟩=>⟨e,f,g,i,he,hw.mono λr w2 ⟨t,ht,hR⟩=>⟨t,ht,hr _ _ hR⟩⟩⟩⟩
theorem Uj (n:Int) (hn:oo n) (w:World):Calls Tryz.prog kO #[.i n] w λr w'=>(∃k:Nat,r=.returned (.string (ba (qQ k))))/\bG w w':=by
 have hr:=cH n 1048576 (by omega)
 obtain ⟨K,hK⟩:∃K:Nat,dB n 1048576=(K:Int):=⟨(dB n 1048576).toNat,by omega⟩
 have hK2:K<=1048576:=by omega
 have H:LH F0 w w [] []:=mu [] (by simp)
 refine enthymemeref04_TextI.ok n w _ (H.call (Mr n 1048576 w (by omega) hn) ?_)
 rintro _ w1 rfl H1
 refine ⟨_,rfl,H1.BG (CQ w1) ?_⟩
 rintro _ w2 ⟨ev,rfl,vt,pev,fev⟩ _ F2
 have H2:=F2.rd (.tree ev) pev λb hb=>fev b (aH.1 hb)
 rw [hK]
 have em:=J5 K 6 (by omega)
 have ed6:=OG K 6 hK2
 have W9:=OG K 36 hK2
 have em6:=J5 (K / 6) 6 (by omega)
 have Xd:=J5 (K / 36) 6 (by omega)
 have c6:((6:Nat):Int)=6:=rfl
 have c36:((36:Nat):Int)=36:=rfl
 rw [c6] at em ed6 em6 Xd
 rw [c36] at W9
 rw [em,ed6,W9,em6,Xd]
 obtain ⟨ta,ga,ra,xa⟩:=zb ev vt (i:=K%6) (Nat.mod_lt _ (by omega))
 obtain ⟨tb,gb,rb,xb⟩:=zb ev vt (i:=K / 6%6) (Nat.mod_lt _ (by omega))
 obtain ⟨tc,gc,rc,xc⟩:=zb ev vt (i:=K / 36%6) (Nat.mod_lt _ (by omega))
 have la:K%6<6:=Nat.mod_lt _ (by omega)
 have lb:K / 6%6<6:=Nat.mod_lt _ (by omega)
 have lc:K / 36%6<6:=Nat.mod_lt _ (by omega)
 have P:∀t:Rt,(t=ev\/∀w:World,t.P w/\∀b,¬b∈t.fp)->(∀w':World,ev.P w'->t.P w')/\∀b∈t.fp,w.heap.size<=b:=λt h=>by
  rcases h with rfl|h
  .exact ⟨λ_ h=>h,λb hb=>Nat.le_trans H1.fr.size (fev b hb)⟩
  .exact ⟨λw' _=>(h w').1,λb hb=>((h w).2 b hb).elim⟩
 refine ⟨_,_,_,ev.s,rfl,H2.iQ (n:=6) (sz:=4) (cs:=(Mi ev).flatMap Rt.c) rfl (by decide) λw3 H3=>?_⟩
 refine ⟨by omega,by omega,Rt.at' (s:=⟨some (bD w2.heap.size),6,6⟩) (H3.get 0:aO _ _ _ _ _).iD ga λp hp c=>?_⟩
 refine ⟨_,_,_,_,c.c0,c.c1,c.c2,c.c3,H3.nw λw4 _ H4=>H4.DL 1 rfl λw8 H8=>?_⟩
 refine ⟨by omega,by omega,Rt.at' (s:=⟨some (bD w2.heap.size),6,6⟩) (H8.get 0:aO _ _ _ _ _).iD gb λp hp c=>?_⟩
 refine ⟨_,_,_,_,c.c0,c.c1,c.c2,c.c3,H8.nw λw9 _ H9=>H9.DL 2 rfl λuI uu=>?_⟩
 refine ⟨by omega,by omega,Rt.at' (s:=⟨some (bD w2.heap.size),6,6⟩) (uu.get 0:aO _ _ _ _ _).iD gc λp hp c=>?_⟩
 refine ⟨_,_,_,_,c.c0,c.c1,c.c2,c.c3,uu.nw λD3 _ vp=>vp.DL 3 rfl λLR GD=>?_⟩
 refine ⟨_,_,_,ta.s,GD.ld 1 0,GD.ld 1 1,GD.ld 1 2,GD.ld 1 3,GD.iQ (n:=1) (sz:=4) (cs:=[ta].flatMap Rt.c) rfl (by decide) λTQ RV=>RV.nw λZw _ V6=>V6.DL 5 rfl λGO GV=>?_⟩
 have pa:=P ta xa
 have pb:=P tb xb
 have pc:=P tc xc
 have ps:(Rt.mk 7 0 0 ⟨some (bD LR.heap.size),1,1⟩ [ta]).P GO:=by
  unfold Rt.P
  exact ⟨(GV.get 4:aO _ _ _ _ _).iD,Rt.oX (by simp;exact pa.1 GO (GV.getD 0))⟩
 have fr:bG w GO:=GV.fr
 refine Nu YH (by kernel_rfl) (JT GO w.heap.size (K:Int) (gg (K%6)) (gg (K / 6%6)) (gg (K / 36%6)) (.mk 7 0 0 [gg (K%6)])) ?_ (Ym fr.size) ?_
 .refine ⟨Fr.drew _ _,rfl,?_,?_,?_,?_,λi sp hs hL=>by cases hL⟩
  .exact uK.pI (w:=GO) ⟨w3.heap.size,ta,rfl,GV.ob 1,ra,pa.1 GO (GV.getD 0),pa.2⟩ (Fr.drew _ _)
  .exact uK.pI (w:=GO) ⟨w8.heap.size,tb,rfl,GV.ob 2,rb,pb.1 GO (GV.getD 0),pb.2⟩ (Fr.drew _ _)
  .exact uK.pI (w:=GO) ⟨uI.heap.size,tc,rfl,GV.ob 3,rc,pc.1 GO (GV.getD 0),pc.2⟩ (Fr.drew _ _)
  .refine uK.pI (w:=GO) ⟨TQ.heap.size,.mk 7 0 0 ⟨some (bD LR.heap.size),1,1⟩ [ta],rfl,GV.ob 5,?_,ps,Dx (λb hb=>?_) pa.2⟩ (Fr.drew _ _)
   .rw [<-ra];rfl
   .simp only [aZ,cS,fF,or_false] at hb
    rw [hb];exact GD.fr.size
 .intro L E w' hL J
  obtain ⟨s,ts,h1,h2,h3,_⟩:=J.all 40 _ rfl (hL 40 (by decide))
  refine ⟨s,(K:Int),h1,J.k,?_⟩
  refine Pg (OK hK2 h2 h3 (fr.AV J.fr)) λr uh h=>⟨⟨K,h.1⟩,h.2⟩
theorem QB:(List.range 1728).all (λk=>Nat.ble (qQ k).length 64)=true:=by kernel_rfl
theorem Gp (k:Nat):(qQ k).length<=64:=by
 rw [xV]
 exact Nat.le_of_ble_eq_true (wD.1 QB (k%1728) (List.mem_range.2 (Nat.mod_lt _ (by omega))))
end Go.Proofs.YtcifihepfadgfaaGreatDoor
