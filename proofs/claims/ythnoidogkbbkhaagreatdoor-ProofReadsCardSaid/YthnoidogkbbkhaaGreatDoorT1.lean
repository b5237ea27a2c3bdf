import Derived.Test.YthnoidogkbbkhaaGreatDoorW
import Derived.Test.YthnoidogkbbkhaaGreatDoorR1
import Derived.Test.YthnoidogkbbkhaaGreatDoorG1
import Derived.Test.YthnoidogkbbkhaaGreatDoorV
set_option linter.unusedVariables false
namespace Go.Proofs.YthnoidogkbbkhaaGreatDoor
open List renaming mem_append->qmA,mem_cons->qmC,not_mem_nil->qnM,mem_of_getElem?->qmG,getElem?_eq_getElem->qgE,length_append->qlA,length_cons->qlC,length_nil->qlN,all_eq_true->qaT
open Go Go.W
section
variable {M:Nat->Prop} {w0 w:World} {L D:List En} {bs:List Nat}
theorem c_off (w:World) (pb:Nat) (vs:List Value) (ty:TypeId) (b:Nat):¬(En.c pb vs ty).P ({w with heap:=Array.replicate (b+1) (.map #[] 0)}):=by
 intro h
 have h:({w with heap:=Array.replicate (b+1) (.map #[] 0)}:World).heap[pb]? =some (.cells vs.toArray ty (0,0)):=h
 simp [Array.getElem?_replicate] at h
theorem c_fp {pb:Nat} {vs:List Value} {ty:TypeId} {b:Nat}:b∈(En.c pb vs ty).fp↔b=pb:=by simp [En.c,En.ob]
theorem _root_.Go.W.LH.upd1 {pb:Nat} {vs:List Value} {ty:TypeId} (H:LH M w0 w (.c pb vs ty::L) D) {w':World} (f:Fr (·=pb) w w') {vs':List Value} (h:w'.heap[pb]? =some (.cells vs'.toArray ty (0,0))):
  LH M w0 w' (.c pb vs' ty::L) D/\∀e:En,e.P w'->(∀b∈e.fp,w.heap.size<=b)->LH M w0 w' (.c pb vs' ty::L) (D++[e]):=by
 have H':LH M w0 w' (.c pb vs' ty::L) D:=H.callc 0 f h
 refine ⟨H',λe he hf=>⟨H'.fr,H'.own,λd hd=>?_,H'.new,H'.nd,λd hd b hb e' he' hb'=>?_⟩⟩
 .rcases qmA.1 hd with hd|hd
  .exact H'.rd d hd
  .simp at hd;subst hd;exact he
 .rcases qmA.1 hd with hd|hd
  .exact H'.dj d hd b hb e' he' hb'
  .simp at hd;subst hd
   have h1:=hf b hb
   have h2:b<w.heap.size:=by
    rcases qmC.1 he' with rfl|he'
    .have hb':=c_fp.1 hb'
     have:=(En.c pb vs ty).lt w (H.get 0) pb (c_fp.2 rfl)
     omega
    .exact e'.lt w (H.own e' (List.mem_cons_of_mem _ he')) b hb'
   omega
theorem _root_.Go.W.LH.callU {pb:Nat} {vs:List Value} {ty:TypeId} (H:LH M w0 w (.c pb vs ty::L) D) {P:Program} {g:FuncId} {args:Array Value} {A:Post} {vs':List Value} {K:Post} (hc:Calls P g args w λr w'=>(A r w'/\w'.heap[pb]? =some (.cells vs'.toArray ty (0,0)))/\Fr (·=pb) w w')
  (hk:∀r w',A r w'->LH M w0 w' (.c pb vs' ty::L) D->(∀e:En,e.P w'->(∀b∈e.fp,w.heap.size<=b)->LH M w0 w' (.c pb vs' ty::L) (D++[e]))->K r w'):Calls P g args w K:=
 hc.mono λr w' ⟨⟨ha,h⟩,f⟩=>hk r w' ha (H.upd1 f h).1 (H.upd1 f h).2
theorem _root_.Go.W.LH.callUF {pb:Nat} {vs:List Value} {ty:TypeId} (H:LH M w0 w (.c pb vs ty::L) D) {P:Program} {g:FuncId} {args:Array Value} {A:Post} {vs':List Value} {K:Post} (hc:Calls P g args w λr w'=>(A r w'/\w'.heap[pb]? =some (.cells vs'.toArray ty (0,0)))/\Fr (·=pb) w w')
  (hk:∀r w',A r w'->LH M w0 w' (.c pb vs' ty::L) D->(∀e:En,e.P w'->(∀b∈e.fp,w.heap.size<=b)->LH M w0 w' (.c pb vs' ty::L) (D++[e]))->K r w') (hbs:∀b∈bs,En.g b∈(En.c pb vs ty::L):=by simp):callF bs P g args w K:=
 ⟨(·=pb),λb hb hm=>ghost_off H (i:=0) rfl (c_off w pb vs ty) (hbs b hb) (by rw [hm];exact c_fp.2 rfl),hc.mono λr w' ⟨⟨ha,h⟩,f⟩=>⟨f,hk r w' ha (H.upd1 f h).1 (H.upd1 f h).2⟩⟩
end
theorem sb_at {s:ByteArray} {i:Nat} (h:i<s.size):s[i]? =some (gQ (bl s) i):=by
 rw [getElem?_pos s i h]
 unfold gQ
 rw [List.getD_eq_getElem?_getD,qgE (show i<(bl s).length by rw [bl_len];exact h)]
 rfl
theorem u8_q {x:UInt8} {n:Nat} {A B:Prop} (hn:n<256) (h1:(x==UInt8.ofNat n)=true->A) (h2:(x==UInt8.ofNat n)=false->B):sel (((x.toNat:Nat):Int)==(n:Int)) A B:=by
 have e:x.toNat=n↔x=UInt8.ofNat n:=by
  rw [<-UInt8.toNat_inj,UInt8.toNat_ofNat']
  omega
 refine sel_eq (λh=>h1 (by rw [beq_iff_eq,<-e];omega)) (λh=>h2 (by rw [beq_eq_false_iff_ne,Ne,<-e];omega))
theorem u8_nq {x:UInt8} {n:Nat} {A B:Prop} (hn:n<256) (h1:(x==UInt8.ofNat n)=false->A) (h2:(x==UInt8.ofNat n)=true->B):sel (((x.toNat:Nat):Int) !=(n:Int)) A B:=by
 have e:x.toNat=n↔x=UInt8.ofNat n:=by
  rw [<-UInt8.toNat_inj,UInt8.toNat_ofNat']
  omega
 refine sel_ne (λh=>h1 (by rw [beq_eq_false_iff_ne,Ne,<-e];omega)) (λh=>h2 (by rw [beq_iff_eq,<-e];omega))
theorem all_u8 {p:UInt8->Prop} (h:∀x:Fin 256,p (UInt8.ofNat x.val)) (c:UInt8):p c:=by
 have:=h ⟨c.toNat,c.toNat_lt⟩
 simpa using this
theorem dig_at:∀n:Fin 16,(ByteArray.mk #[48,49,50,51,52,53,54,55,56,57,97,98,99,100,101,102])[n.val]? =some (digQ n.val):=by decide+kernel
theorem c_rdigit (n:Nat) (h:n<16) (w:World):Calls Tryz.prog n_enthymemeref04_digit #[.i (n:Int)] w λr w'=>r=.returned (.int .u8 ((digQ n).toNat:Int))/\Fr0 w w':=
 enthymemeref04_digit.ok _ w _ ⟨by omega,_,dig_at ⟨n,h⟩,rfl,Fr.refl _ _⟩
theorem c_rplain (c:UInt8) (w:World):Calls Tryz.prog n_enthymemeref04_plain #[.int .u8 (c.toNat:Int)] w λr w'=>r=.returned (.bool (plQ c))/\Fr0 w w':=by
 refine enthymemeref04_plain.ok _ w _ (sel_dec (λh1=>sel_dec (λh2=>u8_nq (n:=39) (by omega) (λh3=>⟨?_,Fr.refl _ _⟩) (λh3=>⟨?_,Fr.refl _ _⟩)) (λh2=>⟨?_,Fr.refl _ _⟩)) (λh1=>⟨?_,Fr.refl _ _⟩))
 .have e:(((c.toNat:Nat):Int) !=92)= !(c==92):=by
   have:=@u8_nq c 92 (((((c.toNat:Nat):Int) !=92)=true)/\(c==92)=false) (((((c.toNat:Nat):Int) !=92)=false)/\(c==92)=true)
   cases h:(((c.toNat:Nat):Int) !=92) with
   |true=>
    have h':c≠92:=λe=>by subst e;exact absurd h (by decide)
    rw [beq_eq_false_iff_ne.2 h'];rfl
   |false=>
    have h':c=92:=by
     rw [<-UInt8.toNat_inj]
     have:=(bne_eq_false_iff_eq.1 h)
     show c.toNat=92
     omega
    subst h';rfl
  rw [e]
  unfold plQ
  rw [decide_eq_true (show 32<=c.toNat by omega),decide_eq_true (show c.toNat<=126 by omega)]
  have h3:(c==39)=false:=h3
  rw [h3];rfl
 .have h3:(c==39)=true:=h3
  unfold plQ
  rw [h3];simp
 .unfold plQ
  rw [decide_eq_false (show ¬c.toNat<=126 by omega)];simp
 .unfold plQ
  rw [decide_eq_false (show ¬32<=c.toNat by omega)];simp
theorem num_dig:∀n:Fin 16,numQ (digQ n.val)=(n.val:Int):=by decide+kernel
theorem num_no:∀x:Fin 256,numQ (UInt8.ofNat x.val)=-1\/∃n:Fin 16,digQ n.val=UInt8.ofNat x.val:=by decide+kernel
theorem num_lt:∀x:Fin 256,numQ (UInt8.ofNat x.val)<16:=by decide+kernel
theorem c_number (c:UInt8) (w:World):Calls Tryz.prog n_enthymemeref04_number #[.int .u8 (c.toNat:Int)] w λr w'=>r=.returned (.int .i64 (numQ c))/\Fr0 w w':=by
 have loop:∀(d i:Nat) (w1:World),i+d=16->(∀j,j<i->digQ j≠c)->Fr0 w w1->enthymemeref04_number.L0 c.toNat (i:Int) w1 λr w'=>r=.returned (.int .i64 (numQ c))/\Fr0 w w':=by
  intro d
  induction d with
  |zero=>
   intro i w1 hi hn f
   refine enthymemeref04_number.L0_step _ _ _ _ (sel_false (decide_eq_false (by omega)) ⟨?_,f⟩)
   have:=all_u8 (p:=λc=>numQ c=-1\/∃n:Fin 16,digQ n.val=c) num_no c
   rcases this with h|⟨n,h⟩
   .rw [h]
   .exact absurd h (hn n.val (by omega))
  |succ d ihd=>
   intro i w1 hi hn f
   refine enthymemeref04_number.L0_step _ _ _ _ (sel_true (decide_eq_true (by omega)) ((c_rdigit i (by omega) w1).mono ?_))
   rintro _ w2 ⟨rfl,f2⟩
   refine ⟨_,rfl,sel_eq (λh=>⟨?_,f.tr0 f2⟩) (λh=>?_)⟩
   .have e:digQ i=c:=by rw [<-UInt8.toNat_inj];omega
    have:=num_dig ⟨i,by omega⟩
    rw [<-e]
    rw [this]
   .rw [i64_next _ (by omega)]
    refine ihd (i+1) w2 (by omega) (λj hj=>?_) (f.tr0 f2)
    by_cases hji:j=i
    .subst hji;intro e;subst e;exact h rfl
    .exact hn j (by omega)
 exact enthymemeref04_number.ok _ w _ (loop 16 0 w (by omega) (λj h=>by omega) (Fr.refl _ _))
def pairV (x:UInt8×Nat):Ending:=.returned (.tuple #[.int .u8 (x.1.toNat:Int),.i (x.2:Int)])
theorem num_val:∀x y:Fin 16,IntKind.wrap .u8 (IntKind.wrap .i64 ((IntKind.wrap .i64 (16 *(x.val:Int)))+(y.val:Int)))=((UInt8.ofNat ((16 *(x.val:Int)+(y.val:Int)).toNat)).toNat:Int):=by decide+kernel
theorem num_fin {c:UInt8} (h:0<=numQ c):∃x:Fin 16,numQ c=(x.val:Int):=by
 have:=all_u8 (p:=λc=>numQ c<16) num_lt c
 exact ⟨⟨(numQ c).toNat,by omega⟩,by show numQ c=(((numQ c).toNat:Nat):Int);omega⟩
theorem c_rbyteAt (s:ByteArray) (i:Nat) (hi:i<=1000000) (w:World):Calls Tryz.prog n_enthymemeref04_byteAt #[.string s,.i (i:Int)] w λr w'=>r=pairV (byteAtQ (bl s) i)/\Fr0 w w':=by
 have e1:IntKind.wrap .i64 ((i:Int)+1)=((i+1:Nat):Int):=by rw [IntWalk.i64_in _ (by omega)];omega
 have e2:IntKind.wrap .i64 ((i:Int)+2)=((i+2:Nat):Int):=by rw [IntWalk.i64_in _ (by omega)];omega
 have e3:IntKind.wrap .i64 ((i:Int)+3)=((i+3:Nat):Int):=by rw [IntWalk.i64_in _ (by omega)];omega
 have e4:IntKind.wrap .i64 ((i:Int)+4)=((i+4:Nat):Int):=by rw [IntWalk.i64_in _ (by omega)];omega
 have hl:(bl s).length=s.size:=bl_len s
 have no:∀w',Fr0 w w'->byteAtQ (bl s) i=(0,0)->enthymemeref04_byteAt.S1 w' (λr w'=>r=pairV (byteAtQ (bl s) i)/\Fr0 w w'):=λw' f h=>⟨by rw [h];rfl,f⟩
 have st:∀w',Fr0 w w'->(decide (i+3<=(bl s).length)&&gQ (bl s) i==39&&gQ (bl s) (i+2)==39&&plQ (gQ (bl s) (i+1)))=false->enthymemeref04_byteAt.S0 s (i:Int) w' (λr w'=>r=pairV (byteAtQ (bl s) i)/\Fr0 w w'):=by
  intro w' f hq
  have nn:(decide (i+4<=(bl s).length)&&gQ (bl s) i==92&&gQ (bl s) (i+1)==120&&decide (0<=numQ (gQ (bl s) (i+2)))&&decide (0<=numQ (gQ (bl s) (i+3))))=false->∀w',Fr0 w w'->enthymemeref04_byteAt.S1 w' (λr w'=>r=pairV (byteAtQ (bl s) i)/\Fr0 w w'):=λh w' f=>no w' f (by
   unfold byteAtQ
   rw [hq,h];rfl)
  show sel _ _ _
  rw [e4,e3,e2,e1]
  refine sel_dec (λh4=>⟨by omega,_,sb_at (i:=i) (by omega),u8_q (n:=92) (by omega) (λha=>⟨by omega,_,sb_at (i:=i+1) (by omega),u8_q (n:=120) (by omega) (λhb=>⟨by omega,_,sb_at (i:=i+2) (by omega),(c_number _ w').mono ?_⟩) (λhb=>?_)⟩) (λha=>?_)⟩) (λh4=>?_)
  rotate_left
  .exact nn (by have hb:(gQ (bl s) (i+1)==120)=false:=hb;rw [hb];simp) w' f
  .exact nn (by have ha:(gQ (bl s) i==92)=false:=ha;rw [ha];simp) w' f
  .exact nn (by rw [decide_eq_false (show ¬i+4<=(bl s).length by omega)];simp) w' f
  rintro _ w1 ⟨rfl,f1⟩
  refine ⟨_,rfl,sel_dec (λhx=>⟨by omega,_,sb_at (i:=i+3) (by omega),(c_number _ w1).mono ?_⟩) (λhx=>nn (by rw [decide_eq_false (show ¬0<=numQ (gQ (bl s) (i+2)) by omega)];simp) w1 (f.tr0 f1))⟩
  rintro _ w2 ⟨rfl,f2⟩
  refine ⟨_,rfl,sel_dec (λhy=>?_) (λhy=>nn (by rw [decide_eq_false (show ¬0<=numQ (gQ (bl s) (i+3)) by omega)];simp) w2 ((f.tr0 f1).tr0 f2))⟩
  have f3:Fr0 w w2.drew:=((f.tr0 f1).tr0 f2).tr0 (Fr.drew _ _)
  refine (show drV w2 _ from ?_)
  refine ⟨by omega,_,sb_at (i:=i+2) (by omega),by omega,_,sb_at (i:=i+3) (by omega),(c_number _ _).mono ?_⟩
  rintro _ w4 ⟨rfl,f4⟩
  refine ⟨_,rfl,(c_number _ _).mono ?_⟩
  rintro _ w5 ⟨rfl,f5⟩
  refine ⟨_,rfl,?_,(f3.tr0 f4).tr0 f5⟩
  have ha:(gQ (bl s) i==92)=true:=ha
  have hb:(gQ (bl s) (i+1)==120)=true:=hb
  have eb:byteAtQ (bl s) i=(UInt8.ofNat ((16 *numQ (gQ (bl s) (i+2))+numQ (gQ (bl s) (i+3))).toNat),4):=by
   unfold byteAtQ
   rw [hq,ha,hb,decide_eq_true (show i+4<=(bl s).length by omega),decide_eq_true (show 0<=numQ (gQ (bl s) (i+2)) by omega),decide_eq_true (show 0<=numQ (gQ (bl s) (i+3)) by omega)]
   rfl
  rw [eb]
  obtain ⟨x,hx'⟩:=num_fin (c:=gQ (bl s) (i+2)) (by omega)
  obtain ⟨y,hy'⟩:=num_fin (c:=gQ (bl s) (i+3)) (by omega)
  rw [hx',hy',num_val x y]
  rfl
 refine enthymemeref04_byteAt.ok _ _ w _ ?_
 rw [e3,e2,e1]
 refine sel_dec (λh3=>⟨by omega,_,sb_at (i:=i) (by omega),u8_q (n:=39) (by omega) (λha=>⟨by omega,_,sb_at (i:=i+2) (by omega),u8_q (n:=39) (by omega) (λhb=>⟨by omega,_,sb_at (i:=i+1) (by omega),(c_rplain _ w).mono ?_⟩) (λhb=>?_)⟩) (λha=>?_)⟩) (λh3=>?_)
 rotate_left
 .exact st w (Fr.refl _ _) (by have hb:(gQ (bl s) (i+2)==39)=false:=hb;rw [hb];simp)
 .exact st w (Fr.refl _ _) (by have ha:(gQ (bl s) i==39)=false:=ha;rw [ha];simp)
 .exact st w (Fr.refl _ _) (by rw [decide_eq_false (show ¬i+3<=(bl s).length by omega)];simp)
 rintro _ w1 ⟨rfl,f1⟩
 refine ⟨_,rfl,sel_intro (λhp=>⟨by omega,_,sb_at (i:=i+1) (by omega),?_,f1⟩) (λhp=>st w1 f1 (by rw [hp];simp))⟩
 have ha:(gQ (bl s) i==39)=true:=ha
 have hb:(gQ (bl s) (i+2)==39)=true:=hb
 unfold byteAtQ
 rw [ha,hb,hp,decide_eq_true (show i+3<=(bl s).length by omega)]
 rfl
theorem byteAt_le (s:BL) (i:Nat):(byteAtQ s i).2<=4/\(0<(byteAtQ s i).2->i+(byteAtQ s i).2<=s.length):=by
 unfold byteAtQ
 split
 .rename_i h
  simp only [Bool.and_eq_true,decide_eq_true_eq] at h
  exact ⟨by simp,λ_=>h.1.1.1⟩
 .split
  .rename_i h
   simp only [Bool.and_eq_true,decide_eq_true_eq] at h
   exact ⟨by simp,λ_=>h.1.1.1.1⟩
  .exact ⟨by simp,λh=>by simp at h⟩
def rgV (g:RgQ):Ending:=.returned (.tuple #[.agg #[.i (g.k:Int),.int .u8 (g.lo.toNat:Int),.int .u8 (g.hi.toNat:Int),.slice none 0 0],.i (g.n:Int)])
theorem rangeAt_le (s:BL) (i:Nat):i+(rangeAtQ s i).n<=s.length\/(rangeAtQ s i).n=0:=by
 unfold rangeAtQ
 simp only
 have h:=byteAt_le s i
 split
 .rename_i h0
  exact .inl (h.2 h0)
 .split
  .exact .inr rfl
  .split
   .exact .inr rfl
   .split
    .exact .inr rfl
    .rename_i h1
     simp only [not_or] at h1
     left
     show i+(_+1 - i)<=s.length
     omega
theorem c_rangeAt (s:ByteArray) (hs:s.size<=100000) (i:Nat) (hi:i<s.size) (w:World):Calls Tryz.prog n_enthymemeref04_rangeAt #[.string s,.i (i:Int)] w λr w'=>r=rgV (rangeAtQ (bl s) i)/\Fr0 w w':=by
 have hl:(bl s).length=s.size:=bl_len s
 refine enthymemeref04_rangeAt.okT _ _ w _ ((lh0 [] (by simp)).newg λb w1 H1=>H1.callg (c_rbyteAt s i (by omega) w1) ?_)
 rintro _ w2 rfl H2
 refine ⟨_,_,rfl,sel_dec (λh0=>H2.locg λw3 H3=>⟨?_,H3.fr⟩) (λh0=>⟨by omega,_,sb_at (i:=i) hi,u8_nq (n:=91) (by omega) (λh1=>H2.locg λw3 H3=>⟨?_,H3.fr⟩) (λh1=>?_)⟩)⟩
 .unfold rangeAtQ
  simp only
  rw [if_pos (by omega)]
  rfl
 .have h1:(gQ (bl s) i==91)=false:=h1
  unfold rangeAtQ
  simp only
  rw [if_neg (by omega),if_pos (beq_eq_false_iff_ne.1 h1)]
  rfl
 have h1:gQ (bl s) i=91:=eq_of_beq h1
 rw [i64_next _ (by omega)]
 refine H2.callg (c_rbyteAt s (i+1) (by omega) w2) ?_
 rintro _ w3 rfl H3
 have b1:=byteAt_le (bl s) (i+1)
 have bad:∀(w':World),LH F0 w w' [.g b] []->rangeAtQ (bl s) i=noRg->enthymemeref04_rangeAt.S1T b 0 0 0 ⟨none,0,0⟩ w' λr w'=>r=rgV (rangeAtQ (bl s) i)/\Fr0 w w':=λw' H' he=>H'.locg λw'' H''=>⟨by rw [he];rfl,H''.fr⟩
 have bad3:∀(w':World),LH F0 w w' [.g b] []->rangeAtQ (bl s) i=noRg->enthymemeref04_rangeAt.S3T b 0 0 0 ⟨none,0,0⟩ w' λr w'=>r=rgV (rangeAtQ (bl s) i)/\Fr0 w w':=λw' H' he=>H'.locg λw'' H''=>⟨by rw [he];rfl,H''.fr⟩
 have hun:rangeAtQ (bl s) i=(let a:=byteAtQ (bl s) (i+1)
   let dash:=i+1+a.2
   if a.2=0\/(bl s).length<=dash\/gQ (bl s) dash≠45 then noRg else
   let c:=byteAtQ (bl s) (dash+1)
   let fin:=dash+1+c.2
   if c.2=0\/(bl s).length<=fin\/gQ (bl s) fin≠93\/c.1.toNat<a.1.toNat then noRg else ⟨2,a.1,c.1,fin+1 - i⟩):=by
  conv=>lhs;unfold rangeAtQ
  simp only
  rw [if_neg (by omega),if_neg (by rw [h1];simp)]
 simp only at hun
 generalize byteAtQ (bl s) (i+1)=a at b1 hun
 refine ⟨_,_,rfl,?_⟩
 have ed:IntKind.wrap .i64 (((i+1:Nat):Int)+(a.2:Int))=((i+1+a.2:Nat):Int):=by rw [IntWalk.i64_in _ (by omega)];omega
 show enthymemeref04_rangeAt.S0T s (i:Int) b 0 0 0 ⟨none,0,0⟩ (a.1.toNat:Int) (a.2:Int) (IntKind.wrap .i64 (((i+1:Nat):Int)+(a.2:Int))) w3 _
 rw [ed]
 refine sel_eq (λe0=>bad w3 H3 (by rw [hun,if_pos (.inl (by omega))])) (λe0=>sel_dec (λe1=>bad w3 H3 (by rw [hun,if_pos (.inr (.inl (by omega)))])) (λe1=>⟨by omega,_,sb_at (i:=i+1+a.2) (by omega),u8_nq (n:=45) (by omega) (λe2=>bad w3 H3 (by rw [hun,if_pos (.inr (.inr (beq_eq_false_iff_ne.1 e2)))])) (λe2=>?_)⟩))
 have e2:gQ (bl s) (i+1+a.2)=45:=eq_of_beq e2
 rw [if_neg (by rw [e2];simp;omega)] at hun
 rw [i64_next _ (by omega)]
 refine H3.callg (c_rbyteAt s (i+1+a.2+1) (by omega) w3) ?_
 rintro _ w4 rfl H4
 have b2:=byteAt_le (bl s) (i+1+a.2+1)
 generalize byteAtQ (bl s) (i+1+a.2+1)=c at b2 hun
 refine ⟨_,_,rfl,?_⟩
 have ef:IntKind.wrap .i64 (((i+1+a.2+1:Nat):Int)+(c.2:Int))=((i+1+a.2+1+c.2:Nat):Int):=by rw [IntWalk.i64_in _ (by omega)];omega
 show enthymemeref04_rangeAt.S2T s (i:Int) b 0 0 0 ⟨none,0,0⟩ (a.1.toNat:Int) (c.1.toNat:Int) (c.2:Int) (IntKind.wrap .i64 (((i+1+a.2+1:Nat):Int)+(c.2:Int))) w4 _
 rw [ef]
 refine sel_eq (λe0=>bad3 w4 H4 (by rw [hun,if_pos (.inl (by omega))])) (λe0=>sel_dec (λe1=>bad3 w4 H4 (by rw [hun,if_pos (.inr (.inl (by omega)))])) (λe1=>⟨by omega,_,sb_at (i:=i+1+a.2+1+c.2) (by omega),u8_nq (n:=93) (by omega) (λe2=>bad3 w4 H4 (by rw [hun,if_pos (.inr (.inr (.inl (beq_eq_false_iff_ne.1 e2))))])) (λe3=>sel_dec (λe4=>bad3 w4 H4 (by rw [hun,if_pos (.inr (.inr (.inr (by omega))))])) (λe4=>H4.locg λw5 H5=>⟨?_,H5.fr⟩))⟩))
 have e3:gQ (bl s) (i+1+a.2+1+c.2)=93:=eq_of_beq e3
 rw [hun,if_neg (by rw [e3];simp;omega)]
 have ee:IntKind.wrap .i64 ((IntKind.wrap .i64 (((i+1+a.2+1+c.2:Nat):Int)+1)) - (i:Int))=((i+1+a.2+1+c.2+1 - i:Nat):Int):=by
  rw [i64_next _ (by omega),IntWalk.i64_in _ (by omega)];omega
 rw [ee]
 rfl
def TokQ.c (t:TokQ):List Value:=[.string (ba t.tx),.i (t.at_:Int),.i (t.k:Int),.int .u8 (t.lo.toNat:Int),.int .u8 (t.hi.toNat:Int),.slice none 0 0]
theorem tkc_len (t:TokQ):t.c.length=6:=rfl
theorem tks_snoc (l:List TokQ) (t:TokQ):l.flatMap TokQ.c++t.c=(l++[t]).flatMap TokQ.c:=by simp
theorem tks_n {w:World} {s:Sl} {l:List TokQ} (h:RdN 6 w s (l.flatMap TokQ.c)):s.n=l.length:=by
 have:=h.1
 rw [flat_length TokQ.c 6 tkc_len] at this
 omega
theorem el_tok:ElemOk Tryz.prog ty_sl_enthymemeref04_Token ty_enthymemeref04_Token (.agg #[.s0,.i 0,.i 0,.int .u8 0,.int .u8 0,.slice none 0 0]) 6 64:=⟨by kernel_rfl,by kernel_rfl,rfl,by decide,by decide⟩
def RowTk (w:World) (l:List TokQ) (r:Ending) (w':World):Prop:=∃s':Sl,r=.returned s'.v/\OwnRow w' ty_enthymemeref04_Token 6 s' (l.flatMap TokQ.c)/\∀x∈blkL s',w.heap.size<=x
theorem ba_ext (s:ByteArray) (i j:Nat):s.extract i j=ba (((bl s).take j).drop i):=by
 have:bl (s.extract i j)=((bl s).take j).drop i:=by
  unfold bl
  rw [ByteArray.data_extract,Array.toList_extract,List.extract_eq_take_drop]
  rw [List.drop_take]
 rw [<-this,ba_bl]
theorem lo_q (c:UInt8) {A B:Prop} (h1:loQ c=true->A) (h2:loQ c=false->B):sel (decide (((c.toNat:Nat):Int)>=97)) (sel (decide (((c.toNat:Nat):Int)<=122)) A B) B:=
 sel_dec (λha=>sel_dec (λhb=>h1 (by unfold loQ;rw [decide_eq_true (show 97<=c.toNat by omega),decide_eq_true (show c.toNat<=122 by omega)];rfl)) (λhb=>h2 (by unfold loQ;rw [decide_eq_false (show ¬c.toNat<=122 by omega)];simp))) (λha=>h2 (by unfold loQ;rw [decide_eq_false (show ¬97<=c.toNat by omega)];simp))
theorem runQ_le (s:BL) (i:Nat):∀(f n:Nat),i+n<=s.length->n<=runQ s i f n/\i+runQ s i f n<=s.length
 |0,n,h=>⟨Nat.le_refl _,h⟩
 |f+1,n,h=>by
  unfold runQ
  split
  .rename_i h0
   simp only [Bool.and_eq_true,decide_eq_true_eq] at h0
   have:=runQ_le s i f (n+1) (by omega)
   exact ⟨by omega,this.2⟩
  .exact ⟨Nat.le_refl _,h⟩
theorem c_Tokens (s:ByteArray) (hs:s.size<=100000) (w:World):Calls Tryz.prog n_enthymemeref04_Tokens #[.string s] w λr w'=>RowTk w (toksQ (bl s)) r w'/\Fr0 w w':=by
 have hl:(bl s).length=s.size:=bl_len s
 let R:Post:=λr w'=>RowTk w (toksQ (bl s)) r w'/\Fr0 w w'
 have fin:∀(acc:List TokQ) (sl:Sl) (w1:World),acc.length<=s.size->toksQ (bl s)=acc++[⟨[],(bl s).length,0,0,0⟩]->LH F0 w w1 [.row ty_enthymemeref04_Token 6 sl (acc.flatMap TokQ.c)] []->
   nwV w1 (.cells #[.s0,.i ((s.size:Nat):Int),.i 0,.int .u8 0,.int .u8 0,.slice none 0 0] ty_enthymemeref04_Token) λw7=>
 ∃(t81:Sl) (w8:World),Sem.run Tryz.prog (Builtin.append_ #[ty_sl_enthymemeref04_Token,ty_sl_enthymemeref04_Token] ty_sl_enthymemeref04_Token #[sl.v,.slice (some (nb w1)) 1 1]) w7=.ok (t81.v) w8/\R (.returned (t81.v)) w8:=by
  intro acc sl w1 ha he H
  have nrow:=tks_n (H.get 0:OwnRow _ _ _ _ _).rdn
  refine H.ap1 0 el_tok rfl (λs' w2 H2 _ _=>⟨⟨s',rfl,?_,λx hx=>(H2.new _ (qmG (i:=0) rfl) x hx).resolve_right id⟩,H2.fr⟩) (by omega)
  rw [he,<-tks_snoc]
  exact H2.get 0
 have loop:∀(f i:Nat) (acc:List TokQ) (sl:Sl) (w1:World),s.size<f+i->i<=s.size->acc.length<=i->toksQ (bl s)=acc++tokQ (bl s) f i->LH F0 w w1 [.row ty_enthymemeref04_Token 6 sl (acc.flatMap TokQ.c)] []->enthymemeref04_Tokens.L0T s sl (i:Int) w1 R:=by
  intro f
  induction f with
  |zero=>intro i acc sl w1 hf hi;omega
  |succ f ihf=>
   intro i acc sl w1 hf hi hacc he H
   refine enthymemeref04_Tokens.L0T_step _ _ _ _ _ (sel_dec (λhlt=>⟨by omega,_,sb_at (i:=i) (by omega),?_⟩) (λhlt=>fin acc sl w1 (by omega) (by
    rw [he];unfold tokQ;rw [if_pos (by omega)]) H))
   unfold tokQ at he
   rw [if_neg (by omega)] at he
   refine u8_q (n:=32) (by omega) (λh32=>?_) (λh32=>?_)
   .have h32:gQ (bl s) i=32:=eq_of_beq h32
    rw [if_pos h32] at he
    rw [i64_next _ (by omega)]
    exact ihf (i+1) acc sl w1 (by omega) (by omega) (by omega) he H
   have h32:gQ (bl s) i≠32:=beq_eq_false_iff_ne.1 h32
   rw [if_neg h32] at he
   simp only at he
   refine H.call (c_rangeAt s hs i (by omega) w1) ?_
   rintro _ w2 rfl H2
   have hr:=rangeAt_le (bl s) i
   generalize rangeAtQ (bl s) i=g at he hr
   refine ⟨_,_,_,⟨none,0,0⟩,_,rfl,H2.newg λb w3 H3=>?_⟩
   have H3:LH F0 w w3 [.row ty_enthymemeref04_Token 6 sl (acc.flatMap TokQ.c),.g b] []:=H3
   have one:∀(n:Nat) (w4:World),1<=n->i+n<=s.size->toksQ (bl s)=acc++⟨((bl s).take (i+n)).drop i,i,g.k,g.lo,g.hi⟩::tokQ (bl s) f (i+n)->LH F0 w w4 [.row ty_enthymemeref04_Token 6 sl (acc.flatMap TokQ.c),.g b] []->
     enthymemeref04_Tokens.S2T s sl (i:Int) b (g.k:Int) (g.lo.toNat:Int) (g.hi.toNat:Int) ⟨none,0,0⟩ (n:Int) w4 R:=by
    intro n w4 hn hin hen H4
    show (0:Int)<=_/\_
    have ei:IntKind.wrap .i64 ((i:Int)+(n:Int))=((i+n:Nat):Int):=by rw [IntWalk.i64_in _ (by omega)];omega
    rw [ei,Int.toNat_natCast,Int.toNat_natCast,ba_ext]
    refine ⟨by omega,by omega,by omega,by omega,H4.locg λw5 H5=>?_⟩
    have nrow:=tks_n (H5.get 0:OwnRow _ _ _ _ _).rdn
    refine H5.ap1T 0 el_tok rfl (λs' w6 H6=>?_) (by omega)
    refine ihf (i+n) (acc++[⟨((bl s).take (i+n)).drop i,i,g.k,g.lo,g.hi⟩]) s' w6 (by omega) (by omega) (by simp;omega) (by rw [hen];simp) ?_
    rw [<-tks_snoc]
    exact H6.take 1
   refine sel_eq (λh0=>H3.locg λw4 H4=>?_) (λh0=>H3.locg λw4 H4=>one g.n w4 (by omega) (by omega) (by rw [he,if_neg (by omega)]) H4)
   have h0:g.n=0:=by omega
   rw [if_pos h0] at he
   have word:∀(e n:Nat) (w5:World),s.size<=e+(i+n)->1<=n->i+n<=s.size->runQ (bl s) i (bl s).length 1=runQ (bl s) i e n->LH F0 w w5 [.row ty_enthymemeref04_Token 6 sl (acc.flatMap TokQ.c),.g b] []->
     enthymemeref04_Tokens.L1T s sl (i:Int) b (g.k:Int) (g.lo.toNat:Int) (g.hi.toNat:Int) ⟨none,0,0⟩ (n:Int) w5 R:=by
    intro e
    induction e with
    |zero=>
     intro n w5 hen hn hin hr H5
     have stop:enthymemeref04_Tokens.S2T s sl (i:Int) b (g.k:Int) (g.lo.toNat:Int) (g.hi.toNat:Int) ⟨none,0,0⟩ (n:Int) w5 R:=one n w5 hn hin (by rw [he,hr];rfl) H5
     have ei:IntKind.wrap .i64 ((i:Int)+(n:Int))=((i+n:Nat):Int):=by rw [IntWalk.i64_in _ (by omega)];omega
     refine enthymemeref04_Tokens.L1T_step _ _ _ _ _ _ _ _ _ _ _ ?_
     rw [ei]
     refine ⟨by omega,_,sb_at (i:=i) (by omega),sel_intro (λ_=>⟨by omega,_,sb_at (i:=i) (by omega),sel_intro (λ_=>sel_false (decide_eq_false (by omega)) stop) (λ_=>stop)⟩) (λ_=>stop)⟩
    |succ e ihe=>
     intro n w5 hen hn hin hr H5
     have ei:IntKind.wrap .i64 ((i:Int)+(n:Int))=((i+n:Nat):Int):=by rw [IntWalk.i64_in _ (by omega)];omega
     have stop:(loQ (gQ (bl s) i)&&decide (i+n<(bl s).length)&&loQ (gQ (bl s) (i+n)))=false->enthymemeref04_Tokens.S2T s sl (i:Int) b (g.k:Int) (g.lo.toNat:Int) (g.hi.toNat:Int) ⟨none,0,0⟩ (n:Int) w5 R:=λh=>one n w5 hn hin (by
      rw [he,hr]
      conv=>lhs;unfold runQ
      rw [h];rfl) H5
     refine enthymemeref04_Tokens.L1T_step _ _ _ _ _ _ _ _ _ _ _ ?_
     rw [ei]
     refine ⟨by omega,_,sb_at (i:=i) (by omega),?_⟩
     have go:loQ (gQ (bl s) i)=true->sel (decide (((i+n:Nat):Int)<((s.size:Nat):Int))) ((0:Int)<=((i+n:Nat):Int)/\∃t48_b:UInt8,s[Int.toNat ((i+n:Nat):Int)]? =some t48_b/\sel (decide (((t48_b.toNat:Nat):Int)>=97)) ((0:Int)<=((i+n:Nat):Int)/\∃t56_b:UInt8,s[Int.toNat ((i+n:Nat):Int)]? =some t56_b/\sel (decide (((t56_b.toNat:Nat):Int)<=122)) (enthymemeref04_Tokens.L1T s sl (i:Int) b (g.k:Int) (g.lo.toNat:Int) (g.hi.toNat:Int) ⟨none,0,0⟩ (IntKind.wrap .i64 ((n:Int)+1)) w5 R) (enthymemeref04_Tokens.S2T s sl (i:Int) b (g.k:Int) (g.lo.toNat:Int) (g.hi.toNat:Int) ⟨none,0,0⟩ (n:Int) w5 R)) (enthymemeref04_Tokens.S2T s sl (i:Int) b (g.k:Int) (g.lo.toNat:Int) (g.hi.toNat:Int) ⟨none,0,0⟩ (n:Int) w5 R)) (enthymemeref04_Tokens.S2T s sl (i:Int) b (g.k:Int) (g.lo.toNat:Int) (g.hi.toNat:Int) ⟨none,0,0⟩ (n:Int) w5 R):=by
      intro h1
      refine sel_dec (λh2=>⟨by omega,_,sb_at (i:=i+n) (by omega),?_⟩) (λh2=>stop (by rw [decide_eq_false (show ¬i+n<(bl s).length by omega)];simp))
      have key:loQ (gQ (bl s) (i+n))=true->enthymemeref04_Tokens.L1T s sl (i:Int) b (g.k:Int) (g.lo.toNat:Int) (g.hi.toNat:Int) ⟨none,0,0⟩ (IntKind.wrap .i64 ((n:Int)+1)) w5 R:=λh3=>by
       rw [i64_next _ (by omega)]
       refine ihe (n+1) w5 (by omega) (by omega) (by omega) ?_ H5
       rw [hr]
       conv=>lhs;unfold runQ
       rw [h1,h3,decide_eq_true (show i+n<(bl s).length by omega)];rfl
      have key2:loQ (gQ (bl s) (i+n))=false->_:=λh3=>stop (by rw [h3];simp)
      have h:=lo_q (gQ (bl s) (i+n)) key key2
      exact sel_imp h (λh=>⟨by omega,_,sb_at (i:=i+n) (by omega),h⟩) id
     have key2:loQ (gQ (bl s) i)=false->_:=λh3=>stop (by rw [h3];simp)
     exact sel_imp (lo_q (gQ (bl s) i) go key2) (λh=>⟨by omega,_,sb_at (i:=i) (by omega),h⟩) id
   exact word (bl s).length 1 w4 (by omega) (by omega) (by omega) rfl H4
 refine enthymemeref04_Tokens.okT _ w _ ?_
 exact loop (s.size+1) 0 [] ⟨none,0,0⟩ w (by omega) (by omega) (by simp) (by unfold toksQ;rw [hl];rfl) ((lh0 [] (by simp)).nilrow ty_enthymemeref04_Token 6)
abbrev rdC (s:Sl) (st:StQ):List Value:=[s.v,.i (st.1:Int),.bool st.2]
abbrev enR (pb:Nat) (s:Sl) (st:StQ):En:=.c pb (rdC s st) ty_enthymemeref04_reader
abbrev enT (s:Sl) (l:List TokQ):En:=.rdn 6 s (l.flatMap TokQ.c)
abbrev SA (pb:Nat) (s:Sl) (w:World) (A:Post) (st:StQ):Post:=λr w'=>(A r w'/\w'.heap[pb]? =some (.cells (rdC s st).toArray ty_enthymemeref04_reader (0,0)))/\Fr (·=pb) w w'
abbrev Rd0 (pb:Nat) (s:Sl) (l:List TokQ) (st:StQ) (w:World):Prop:=LH (·=pb) w w [enR pb s st] [enT s l]
theorem _root_.Go.W.LH.rd0 {M:Nat->Prop} {w0 w:World} {L D:List En} {pb:Nat} {s:Sl} {l:List TokQ} {st:StQ} (H:LH M w0 w (enR pb s st::L) (enT s l::D)):Rd0 pb s l st w:=
 LH.start' _ _ (by
  intro e he
  simp only [qmC,qnM,or_false] at he
  subst he
  exact ⟨H.get 0,λb hb=>c_fp.1 hb⟩) (by
  simp only [List.flatMap_cons,List.flatMap_nil,List.append_nil]
  exact (enR pb s st).nd) (by
  intro e he
  simp only [qmC,qnM,or_false] at he
  subst he
  exact ⟨H.getD 0,λb hb e' he'=>by
   simp only [qmC,qnM,or_false] at he'
   subst he'
   exact H.dj _ List.mem_cons_self b hb _ List.mem_cons_self⟩)
structure TkCells (w:World) (p:Addr) (i:Nat) (t:TokQ):Prop where
 c0:w.cell? ((p.add (i *6)).add 0)=some (.string (ba t.tx))
 c1:w.cell? ((p.add (i *6)).add 1)=some (.i (t.at_:Int))
 c2:w.cell? ((p.add (i *6)).add 2)=some (.i (t.k:Int))
 c3:w.cell? ((p.add (i *6)).add 3)=some (.int .u8 (t.lo.toNat:Int))
 c4:w.cell? ((p.add (i *6)).add 4)=some (.int .u8 (t.hi.toNat:Int))
 c5:w.cell? ((p.add (i *6)).add 5)=some (.slice none 0 0)
theorem tok_at {w:World} {s:Sl} {l:List TokQ} (h:RdN 6 w s (l.flatMap TokQ.c)) {i:Nat} (hi:i<l.length) {K:Addr->Prop} (hk:∀p,s.a=some p->TkCells w p i (tokAt l i)->K p):optP s.a K:=by
 have hg:l[i]? =some (tokAt l i):=by
  unfold tokAt
  rw [List.getD_eq_getElem?_getD,qgE hi];rfl
 exact CRow.elem (f:=TokQ.c) (sz:=6) tkc_len (by omega) h.2.2 hg λp hp hc=>hk p hp ⟨hc 0 _ rfl,hc 1 _ rfl,hc 2 _ rfl,hc 3 _ rfl,hc 4 _ rfl,hc 5 _ rfl⟩
def OkL (l:List TokQ):Prop:=0<l.length/\(tokAt l (l.length - 1)).tx=[]/\(tokAt l (l.length - 1)).k=0
section
variable {pb:Nat} {s:Sl} {l:List TokQ} {st:StQ} {w:World}
theorem c_see (H:Rd0 pb s l st w) (hi:st.1<l.length):Calls Tryz.prog n_enthymemeref04_reader_see #[.pointer (some (at0 pb))] w λr w'=>r=.returned (.string (ba (seeQ l st)))/\Fr0 w w':=by
 have et:st.2=true->seeQ l st=[32]:=λh=>by unfold seeQ;rw [h];rfl
 have ef:st.2=false->seeQ l st=(tokAt l st.1).tx:=λh=>by unfold seeQ;rw [h];rfl
 generalize seeQ l st=u at et ef
 refine enthymemeref04_reader_see.ok _ w _ ⟨st.2,H.ld 0 2,sel_intro (λhb=>⟨?_,Fr.refl _ _⟩) (λhb=>?_)⟩
 .rw [et hb];rfl
 rw [ef hb]
 have H1:LH (·=pb) w w.drew [enR pb s st] [enT s l]:=H.drew
 have hn:=tks_n (H1.getD 0:RdN _ _ _ _)
 refine ⟨s,H1.ld 0 0,_,H1.ld 0 1,by omega,by omega,tok_at (H1.getD 0) hi λp hp c=>⟨ba (tokAt l st.1).tx,?_,rfl,Fr.drew _ _⟩⟩
 rw [Int.toNat_natCast]
 exact c.c0
theorem ba_eq (a b:BL):((ba a).toList==(ba b).toList)=(a==b):=by
 rw [ByteArray.toList_eq,ByteArray.toList_eq]
 rfl
theorem last_see (hl:OkL l) (hi:st.1<l.length) (hs:seeQ l st≠[]) (hb:st.2=false):st.1+1<l.length:=by
 rcases Nat.lt_or_ge (st.1+1) l.length with h|h
 .exact h
 .exfalso
  apply hs
  have e:st.1=l.length - 1:=by omega
  unfold seeQ
  rw [hb,e]
  exact hl.2.1
theorem takeQ_lt (hl:OkL l) (hi:st.1<l.length) (u:BL) (hu:u≠[32]):(takeQ l u st).2.1<l.length:=by
 unfold takeQ
 cases he:seeQ l st==u with
 |false=>exact hi
 |true=>
  have he:=eq_of_beq he
  cases hem:u.isEmpty with
  |true=>exact hi
  |false=>
   show st.1+1<l.length
   refine last_see hl hi (λh=>?_) ?_
   .rw [h] at he;subst he;cases hem
   .cases hb:st.2 with
    |false=>rfl
    |true=>
     exfalso;apply hu
     rw [<-he];unfold seeQ;rw [hb];rfl
theorem c_take (H:Rd0 pb s l st w) (hi:st.1<l.length) (hln:l.length<=1000000) (u:BL):Calls Tryz.prog n_enthymemeref04_reader_take #[.pointer (some (at0 pb)),.string (ba u)] w (SA pb s w (λr _=>r=.returned (.bool (takeQ l u st).1)) (takeQ l u st).2):=by
 refine enthymemeref04_reader_take.ok _ _ w _ (H.call (c_see H hi) ?_)
 rintro _ w1 rfl H1
 refine ⟨_,rfl,?_⟩
 dsimp only
 rw [ba_eq]
 have he0:((ba u).toList==(ByteArray.mk #[]).toList)=u.isEmpty:=by
  have:ByteArray.mk #[]=ba []:=rfl
  rw [this,ba_eq]
  cases u<;>rfl
 rw [he0]
 refine sel_not (λhe=>⟨⟨?_,?_⟩,H1.fr⟩) (λhe=>sel_not (λh0=>⟨_,H1.ld 0 1,?_⟩) (λh0=>⟨⟨?_,?_⟩,H1.fr⟩))
 .unfold takeQ;rw [he];rfl
 .have:(takeQ l u st).2=st:=by unfold takeQ;rw [he];rfl
  rw [this];exact H1.get 0
 .rw [i64_next _ (by omega)]
  refine H1.st 0 1 rfl λw2 H2=>⟨⟨?_,?_⟩,H2.fr⟩
  .unfold takeQ;rw [he];rfl
  .have:(takeQ l u st).2=(st.1+1,st.2):=by unfold takeQ;rw [he,h0];rfl
   rw [this];exact H2.get 0
 .unfold takeQ;rw [he];rfl
 .have:(takeQ l u st).2=st:=by unfold takeQ;rw [he,h0];rfl
  rw [this];exact H1.get 0
theorem needQ_eq (u:BL):needQ l u st=bif (takeQ l u st).1 then (takeQ l u st).2 else ((takeQ l u st).2.1,true):=by
 unfold needQ
 generalize takeQ l u st=x
 obtain ⟨b,st'⟩:=x
 cases b<;>rfl
theorem needQ_lt (hl:OkL l) (hi:st.1<l.length) (u:BL) (hu:u≠[32]):(needQ l u st).1<l.length:=by
 rw [needQ_eq]
 have:=takeQ_lt hl hi u hu
 cases (takeQ l u st).1<;>exact this
theorem c_need (H:Rd0 pb s l st w) (hi:st.1<l.length) (hln:l.length<=1000000) (u:BL):Calls Tryz.prog n_enthymemeref04_reader_need #[.pointer (some (at0 pb)),.string (ba u)] w (SA pb s w (λr _=>r=.returned (.tuple #[])) (needQ l u st)):=by
 refine enthymemeref04_reader_need.ok _ _ w _ (H.callU (c_take H hi hln u) ?_)
 rintro _ w1 rfl H1 _
 rw [needQ_eq]
 refine ⟨_,rfl,sel_not (λhb=>H1.st 0 2 rfl λw2 H2=>⟨⟨rfl,?_⟩,H2.fr⟩) (λhb=>⟨⟨rfl,?_⟩,H1.fr⟩)⟩
 .rw [hb];exact H2.get 0
 .rw [hb];exact H1.get 0
theorem c_begins (H:Rd0 pb s l st w) (hi:st.1<l.length):Calls Tryz.prog n_enthymemeref04_reader_begins #[.pointer (some (at0 pb))] w λr w'=>r=.returned (.bool (beginsQ l st))/\Fr0 w w':=by
 refine enthymemeref04_reader_begins.ok _ w _ ((c_see H hi).mono ?_)
 rintro _ w1 ⟨rfl,f1⟩
 have H1:=H.fr0 f1
 refine ⟨_,rfl,st.2,H1.ld 0 2,?_⟩
 have e:∀u:List UInt8,((ba (seeQ l st)).toList==(ba u).toList)=(seeQ l st==u):=λu=>ba_eq _ _
 have e0:=e []
 have e1:=e [41]
 have e2:=e [44]
 have e3:=e [124]
 have e4:=e [38]
 unfold beginsQ
 show sel _ (sel (!((ba (seeQ l st)).toList==(ba []).toList)) (sel (!((ba (seeQ l st)).toList==(ba [41]).toList)) (sel (!((ba (seeQ l st)).toList==(ba [44]).toList)) (sel (!((ba (seeQ l st)).toList==(ba [124]).toList)) (Ending.returned (.bool (!((ba (seeQ l st)).toList==(ba [38]).toList)))=_/\Fr0 w w1) _) _) _) _) _
 rw [e0,e1,e2,e3,e4]
 cases st.2<;>cases seeQ l st==[]<;>cases seeQ l st==[41]<;>cases seeQ l st==[44]<;>cases seeQ l st==[124]<;>first |exact ⟨rfl,f1⟩|skip
end
theorem c_group (k:Int) (s:Sl) (l:List Rt) (w:World) (h:(lstT s l).P w):Calls Tryz.prog n_enthymemeref04_group #[.i k,s.v] w λr w'=>RetF (lstT s l).fp w (groupQ k (Rt.rxs l)) r w'/\Fr0 w w':=by
 have nr:=Rt.rows_n (lst_P.1 h).1
 refine enthymemeref04_group.okT _ _ w _ ((lhT h).newg λb w1 H1=>sel_eq (λh1=>?_) (λh1=>H1.locg λw2 H2=>⟨⟨.mk k 0 0 s l,rfl,?_,?_,λb hb=>.inr hb⟩,H2.fr⟩))
 .match l,nr with
  |[],nr=>simp at nr;omega
  |a::b::m,nr=>simp at nr;omega
  |[a],nr=>
   refine ⟨by omega,by omega,Rt.at' (lst_P.1 (show (lstT s [a]).P w1 from H1.getD 0)).1 (i:=0) rfl λp hp c=>⟨_,_,_,_,c.c0,c.c1,c.c2,c.c3,H1.locg λw2 H2=>⟨⟨a,rfl,rfl,?_,λb hb=>.inr ?_⟩,H2.fr⟩⟩⟩
   .exact (lst_P.1 (show (lstT s [a]).P w2 from H2.getD 0)).2.mem (by simp)
   .exact lst_fp.2 (.inr (Rt.fps_iff.2 ⟨a,by simp,hb⟩))
 .show Rx.mk k 0 0 (Rt.rxs l)=_
  match l,nr with
  |[],nr=>rfl
  |[a],nr=>simp at nr;omega
  |a::b::m,nr=>rfl
 .have:=lst_P.1 (show (lstT s l).P w2 from H2.getD 0)
  unfold Rt.P
  exact this
structure Okp (s:Sl) (l:List TokQ) (n:Nat):Prop where
 expr:∀(pb:Nat) (st:StQ) (w:World) (x:Rx) (st':StQ),exprQ l n st=some (x,st')->st.1<l.length->Rd0 pb s l st w->Calls Tryz.prog n_enthymemeref04_reader_expr #[.pointer (some (at0 pb))] w (SA pb s w (λr w'=>RetT w x r w'/\st'.1<l.length) st')
 conj:∀(pb:Nat) (st:StQ) (w:World) (x:Rx) (st':StQ),conjQ l n st=some (x,st')->st.1<l.length->Rd0 pb s l st w->Calls Tryz.prog n_enthymemeref04_reader_conj #[.pointer (some (at0 pb))] w (SA pb s w (λr w'=>RetT w x r w'/\st'.1<l.length) st')
 seq:∀(pb:Nat) (st:StQ) (w:World) (x:Rx) (st':StQ),seqQ l n st=some (x,st')->st.1<l.length->Rd0 pb s l st w->Calls Tryz.prog n_enthymemeref04_reader_seq #[.pointer (some (at0 pb))] w (SA pb s w (λr w'=>RetT w x r w'/\st'.1<l.length) st')
 item:∀(pb:Nat) (st:StQ) (w:World) (x:Rx) (st':StQ),itemQ l n st=some (x,st')->st.1<l.length->Rd0 pb s l st w->Calls Tryz.prog n_enthymemeref04_reader_item #[.pointer (some (at0 pb))] w (SA pb s w (λr w'=>RetT w x r w'/\st'.1<l.length) st')
 atom:∀(pb:Nat) (st:StQ) (w:World) (x:Rx) (st':StQ),atomQ l n st=some (x,st')->st.1<l.length->Rd0 pb s l st w->Calls Tryz.prog n_enthymemeref04_reader_atom #[.pointer (some (at0 pb))] w (SA pb s w (λr w'=>RetT w x r w'/\st'.1<l.length) st')
 kids:∀(pb:Nat) (st:StQ) (w:World) (m:List Rx) (st':StQ),kidsQ l n st=some (m,st')->st.1<l.length->Rd0 pb s l st w->Calls Tryz.prog n_enthymemeref04_reader_kids #[.pointer (some (at0 pb))] w (SA pb s w (λr w'=>(∃(sl:Sl) (a:List Rt),r=.returned sl.v/\Rt.rxs a=m/\(lstT sl a).P w'/\∀b∈(lstT sl a).fp,w.heap.size<=b)/\st'.1<l.length) st')
theorem own_off {M:Nat->Prop} {w0 w:World} {L D:List En} {pb:Nat} {s:Sl} {st:StQ} (H:LH M w0 w (enR pb s st::L) D) (i:Nat) {e:En} (hi:L[i]? =some e) {b:Nat} (hb:b∈e.fp):b≠pb:=λh=>
 disj_of H.nd (i:=i+1) (by simpa using hi) (j:=0) rfl (by omega) b hb (c_fp.2 h)
theorem _root_.Go.W.LH.cons1 {M:Nat->Prop} {w0 w:World} {L D:List En} (H:LH M w0 w L D) (j:Nat) {t:Rt} (hj:D[j]? =some (.tree t):=by rfl):LH M w0 w L (D++[.trees [t]]):=by
 refine H.addD _ (Fr.refl _ _) (Rt.ps_of λt' ht=>?_) λb hb=>.inr (.inr ?_)
 .simp at ht;subst ht;exact H.getD j hj
 .obtain ⟨t',ht,hb'⟩:=Rt.fps_iff.1 (mem_nub.1 hb)
  simp at ht
  rw [ht] at hb'
  exact ⟨_,qmG hj,mem_nub.2 hb'⟩
section
variable {s:Sl} {l:List TokQ} {n:Nat}
theorem expr_loop (hok:OkL l) (hln:l.length<=1000000) (ih:∀m,m<=n->Okp s l m) (pb:Nat) (w:World) (x:Rx) (st':StQ):∀(f:Nat),f<=n->∀(acc:List Rt) (sl:Sl) (b2:Nat) (w1:World) (st:StQ),altsQ l f (Rt.rxs acc) st=some (x,st')->st.1<l.length->acc.length+f<=1000000->(∀b∈Rt.fps acc,w.heap.size<=b)->
  LH (·=pb) w w1 [enR pb s st,.g b2,.row ty_enthymemeref04_Regex 4 sl (acc.flatMap Rt.c)] [enT s l,.trees acc]->
  enthymemeref04_reader_expr.L0T (at0 pb) b2 0 0 0 ⟨none,0,0⟩ sl w1 (SA pb s w (λr w'=>RetT w x r w'/\st'.1<l.length) st')
 |0,_=>λacc sl b2 w1 st he=>by unfold altsQ at he;cases he
 |f+1,hf=>λacc sl b2 w1 st he hi hacc hfr H=>by
  have nrow:=Rt.rows_n (H.get 2:OwnRow _ _ _ _ _).rdn
  unfold altsQ at he
  have fin:∀(w2:World) (st2:StQ),st2.1<l.length->some (groupQ 4 (Rt.rxs acc),st2)=some (x,st')->LH (·=pb) w w2 [enR pb s st2,.g b2,.row ty_enthymemeref04_Regex 4 sl (acc.flatMap Rt.c)] [enT s l,.trees acc]->
    cf2 [b2] n_enthymemeref04_group #[.i 4,sl.v] w2 λt15_0 t15_1 t15_2 t15_3 w8=>loc [b2] w8 λw12=>SA pb s w (λr w'=>RetT w x r w'/\st'.1<l.length) st' (.returned (.agg #[.i t15_0,.int .u8 t15_1,.int .u8 t15_2,t15_3.v])) w12:=by
   intro w2 st2 hi2 he2 H2
   simp only [Option.some.injEq,Prod.mk.injEq] at he2
   obtain ⟨rfl,rfl⟩:=he2
   have hnew:∀b∈(lstT sl acc).fp,w.heap.size<=b:=λb hb=>by
    rcases lst_fp.1 hb with hb|hb
    .exact (H2.new _ (qmG (i:=2) rfl) b (rdn_own hb)).resolve_right (own_off H2 1 rfl (rdn_own hb))
    .exact hfr b hb
   have H3:LH (·=pb) w w2 [enR pb s st2,.g b2] [enT s l,.trees acc,Rt.row sl acc,.tree (lstT sl acc)]:=H2.rowT 2 1 0 0 0
   refine H3.callt (c_group 4 sl acc w2 (H3.getD 3)) (λb hb=>⟨_,qmG (i:=3) rfl,mem_nub.2 hb⟩) λt w3 ht H4 ft=>?_
   refine ⟨_,_,_,t.s,rfl,H4.locg λw4 H5=>⟨⟨⟨⟨t,rfl,ht,H5.getD 4,λb hb=>?_⟩,hi2⟩,H5.get 0⟩,H5.fr⟩⟩
   rcases ft b hb with hb|hb
   .exact Nat.le_trans H3.fr.size hb
   .exact hnew b hb
  have more:∀(w2:World) (st2:StQ),st2.1<l.length->(match conjQ l f st2 with
   |some (a,st)=>altsQ l f (Rt.rxs acc++[a]) st
   |none=>none)=some (x,st')->LH (·=pb) w w2 [enR pb s st2,.g b2,.row ty_enthymemeref04_Regex 4 sl (acc.flatMap Rt.c)] [enT s l,.trees acc]->
    cf2 [b2] n_enthymemeref04_reader_conj #[.pointer (some (at0 pb))] w2 λt11_0 t11_1 t11_2 t11_3 w5=>nwV w5 (.cells #[.i t11_0,.int .u8 t11_1,.int .u8 t11_2,t11_3.v] ty_enthymemeref04_Regex) λw6=>
     ∃(t13:Sl) (w7:World),Sem.run Tryz.prog (Builtin.append_ #[ty_sl_enthymemeref04_Regex,ty_sl_enthymemeref04_Regex] ty_sl_enthymemeref04_Regex #[sl.v,.slice (some (nb w5)) 1 1]) w6=.ok (t13.v) w7/\kept [b2] w6 w7/\enthymemeref04_reader_expr.L0T (at0 pb) b2 0 0 0 ⟨none,0,0⟩ t13 w7 (SA pb s w (λr w'=>RetT w x r w'/\st'.1<l.length) st'):=by
   intro w2 st2 hi2 he2 H2
   cases hc:conjQ l f st2 with
   |none=>rw [hc] at he2;cases he2
   |some y=>
    obtain ⟨a,st3⟩:=y
    rw [hc] at he2
    refine H2.callUF ((ih f (by omega)).conj pb st2 w2 a st3 hc hi2 H2.rd0) ?_
    rintro _ w3 ⟨⟨u,rfl,hu,pu,fu⟩,hl3⟩ _ F3
    have H4:=F3 (.tree u) pu λb hb=>fu b (mem_nub.1 hb)
    have H4:LH (·=pb) w w3 [enR pb s st3,.g b2,.row ty_enthymemeref04_Regex 4 sl (acc.flatMap Rt.c)] [enT s l,.trees acc,.tree u]:=H4
    refine ⟨_,_,_,u.s,rfl,H4.ap1T 2 el_rf9 (xs:=acc.flatMap Rt.c) rfl (λs' w5 H5=>?_) (by omega)⟩
    have H6:LH (·=pb) w w5 [enR pb s st3,.g b2,.row ty_enthymemeref04_Regex 4 s' ((acc++[u]).flatMap Rt.c)] [enT s l,.trees (acc++[u])]:=by
     rw [cs_snoc]
     exact (H5.snocT 1 2).forget _ (by simp)
    refine expr_loop hok hln ih pb w x st' f (by omega) (acc++[u]) s' b2 w5 st3 ?_ hl3 (by simp;omega) (fps_snoc hfr λb hb=>Nat.le_trans H2.fr.size (fu b hb)) H6
    rw [rxs_app]
    have:Rt.rxs [u]=[a]:=by simp [Rt.rxs,hu]
    rw [this]
    exact he2
  refine enthymemeref04_reader_expr.L0T_step _ _ _ _ _ _ _ _ _ (H.callUF (c_take H.rd0 hi hln [124]) ?_)
  have ht:=takeQ_lt hok hi [124] (by decide)
  rintro _ w2 rfl H2 _
  refine ⟨_,rfl,?_⟩
  cases hq:takeQ l [124] st with
  |mk q st2=>
   rw [hq] at he H2 ht
   cases q with
   |true=>exact more w2 st2 ht he H2
   |false=>exact fin w2 st2 ht he H2
theorem expr_step (hok:OkL l) (hln:l.length<=1000000) (hn:n<=100000) (ih:∀m,m<=n->Okp s l m) (pb:Nat) (st:StQ) (w:World) (x:Rx) (st':StQ) (he:exprQ l (n+1) st=some (x,st')) (hi:st.1<l.length) (H:Rd0 pb s l st w):
  Calls Tryz.prog n_enthymemeref04_reader_expr #[.pointer (some (at0 pb))] w (SA pb s w (λr w'=>RetT w x r w'/\st'.1<l.length) st'):=by
 unfold exprQ at he
 cases hc:conjQ l n st with
 |none=>rw [hc] at he;cases he
 |some y=>
  obtain ⟨a,st3⟩:=y
  rw [hc] at he
  refine enthymemeref04_reader_expr.okT _ w _ (H.newg λb2 w1 H1=>?_)
  have H1:LH (·=pb) w w1 [enR pb s st,.g b2] [enT s l]:=H1
  refine H1.callUF ((ih n (Nat.le_refl _)).conj pb st w1 a st3 hc hi H1.rd0) ?_
  rintro _ w3 ⟨⟨u,rfl,hu,pu,fu⟩,hl3⟩ _ F3
  have H4:=F3 (.tree u) pu λb hb=>fu b (mem_nub.1 hb)
  have H4:LH (·=pb) w w3 [enR pb s st3,.g b2] [enT s l,.tree u]:=H4
  refine ⟨_,_,_,u.s,rfl,H4.nwrow (n:=1) (sz:=4) (cs:=u.c) rfl (by decide) λw4 H5=>?_⟩
  have H6:LH (·=pb) w w4 [enR pb s st3,.g b2,.row ty_enthymemeref04_Regex 4 ⟨some (at0 w3.heap.size),1,1⟩ ([u].flatMap Rt.c)] [enT s l,.trees [u]]:=by
   have e:[u].flatMap Rt.c=u.c:=by simp
   rw [e]
   exact (H5.cons1 1).forget _ (by simp)
  refine expr_loop hok hln ih pb w x st' n (Nat.le_refl _) [u] _ b2 w4 st3 ?_ hl3 (by simp;omega) (λb hb=>?_) H6
  .have:Rt.rxs [u]=[a]:=by simp [Rt.rxs,hu]
   rw [this]
   exact he
  .obtain ⟨t,ht,hb⟩:=Rt.fps_iff.1 hb
   simp at ht
   rw [ht] at hb
   exact Nat.le_trans H1.fr.size (fu b hb)
theorem conj_loop (hok:OkL l) (hln:l.length<=1000000) (ih:∀m,m<=n->Okp s l m) (pb:Nat) (w:World) (x:Rx) (st':StQ):∀(f:Nat),f<=n->∀(acc:List Rt) (sl:Sl) (b2:Nat) (w1:World) (st:StQ),andsQ l f (Rt.rxs acc) st=some (x,st')->st.1<l.length->acc.length+f<=1000000->(∀b∈Rt.fps acc,w.heap.size<=b)->
  LH (·=pb) w w1 [enR pb s st,.g b2,.row ty_enthymemeref04_Regex 4 sl (acc.flatMap Rt.c)] [enT s l,.trees acc]->
  enthymemeref04_reader_conj.L0T (at0 pb) b2 0 0 0 ⟨none,0,0⟩ sl w1 (SA pb s w (λr w'=>RetT w x r w'/\st'.1<l.length) st')
 |0,_=>λacc sl b2 w1 st he=>by unfold andsQ at he;cases he
 |f+1,hf=>λacc sl b2 w1 st he hi hacc hfr H=>by
  have nrow:=Rt.rows_n (H.get 2:OwnRow _ _ _ _ _).rdn
  unfold andsQ at he
  have fin:∀(w2:World) (st2:StQ),st2.1<l.length->some (groupQ 5 (Rt.rxs acc),st2)=some (x,st')->LH (·=pb) w w2 [enR pb s st2,.g b2,.row ty_enthymemeref04_Regex 4 sl (acc.flatMap Rt.c)] [enT s l,.trees acc]->
    cf2 [b2] n_enthymemeref04_group #[.i 5,sl.v] w2 λt15_0 t15_1 t15_2 t15_3 w8=>loc [b2] w8 λw12=>SA pb s w (λr w'=>RetT w x r w'/\st'.1<l.length) st' (.returned (.agg #[.i t15_0,.int .u8 t15_1,.int .u8 t15_2,t15_3.v])) w12:=by
   intro w2 st2 hi2 he2 H2
   simp only [Option.some.injEq,Prod.mk.injEq] at he2
   obtain ⟨rfl,rfl⟩:=he2
   have hnew:∀b∈(lstT sl acc).fp,w.heap.size<=b:=λb hb=>by
    rcases lst_fp.1 hb with hb|hb
    .exact (H2.new _ (qmG (i:=2) rfl) b (rdn_own hb)).resolve_right (own_off H2 1 rfl (rdn_own hb))
    .exact hfr b hb
   have H3:LH (·=pb) w w2 [enR pb s st2,.g b2] [enT s l,.trees acc,Rt.row sl acc,.tree (lstT sl acc)]:=H2.rowT 2 1 0 0 0
   refine H3.callt (c_group 5 sl acc w2 (H3.getD 3)) (λb hb=>⟨_,qmG (i:=3) rfl,mem_nub.2 hb⟩) λt w3 ht H4 ft=>?_
   refine ⟨_,_,_,t.s,rfl,H4.locg λw4 H5=>⟨⟨⟨⟨t,rfl,ht,H5.getD 4,λb hb=>?_⟩,hi2⟩,H5.get 0⟩,H5.fr⟩⟩
   rcases ft b hb with hb|hb
   .exact Nat.le_trans H3.fr.size hb
   .exact hnew b hb
  have more:∀(w2:World) (st2:StQ),st2.1<l.length->(match seqQ l f st2 with
   |some (a,st)=>andsQ l f (Rt.rxs acc++[a]) st
   |none=>none)=some (x,st')->LH (·=pb) w w2 [enR pb s st2,.g b2,.row ty_enthymemeref04_Regex 4 sl (acc.flatMap Rt.c)] [enT s l,.trees acc]->
    cf2 [b2] n_enthymemeref04_reader_seq #[.pointer (some (at0 pb))] w2 λt11_0 t11_1 t11_2 t11_3 w5=>nwV w5 (.cells #[.i t11_0,.int .u8 t11_1,.int .u8 t11_2,t11_3.v] ty_enthymemeref04_Regex) λw6=>
     ∃(t13:Sl) (w7:World),Sem.run Tryz.prog (Builtin.append_ #[ty_sl_enthymemeref04_Regex,ty_sl_enthymemeref04_Regex] ty_sl_enthymemeref04_Regex #[sl.v,.slice (some (nb w5)) 1 1]) w6=.ok (t13.v) w7/\kept [b2] w6 w7/\enthymemeref04_reader_conj.L0T (at0 pb) b2 0 0 0 ⟨none,0,0⟩ t13 w7 (SA pb s w (λr w'=>RetT w x r w'/\st'.1<l.length) st'):=by
   intro w2 st2 hi2 he2 H2
   cases hc:seqQ l f st2 with
   |none=>rw [hc] at he2;cases he2
   |some y=>
    obtain ⟨a,st3⟩:=y
    rw [hc] at he2
    refine H2.callUF ((ih f (by omega)).seq pb st2 w2 a st3 hc hi2 H2.rd0) ?_
    rintro _ w3 ⟨⟨u,rfl,hu,pu,fu⟩,hl3⟩ _ F3
    have H4:=F3 (.tree u) pu λb hb=>fu b (mem_nub.1 hb)
    have H4:LH (·=pb) w w3 [enR pb s st3,.g b2,.row ty_enthymemeref04_Regex 4 sl (acc.flatMap Rt.c)] [enT s l,.trees acc,.tree u]:=H4
    refine ⟨_,_,_,u.s,rfl,H4.ap1T 2 el_rf9 (xs:=acc.flatMap Rt.c) rfl (λs' w5 H5=>?_) (by omega)⟩
    have H6:LH (·=pb) w w5 [enR pb s st3,.g b2,.row ty_enthymemeref04_Regex 4 s' ((acc++[u]).flatMap Rt.c)] [enT s l,.trees (acc++[u])]:=by
     rw [cs_snoc]
     exact (H5.snocT 1 2).forget _ (by simp)
    refine conj_loop hok hln ih pb w x st' f (by omega) (acc++[u]) s' b2 w5 st3 ?_ hl3 (by simp;omega) (fps_snoc hfr λb hb=>Nat.le_trans H2.fr.size (fu b hb)) H6
    rw [rxs_app]
    have:Rt.rxs [u]=[a]:=by simp [Rt.rxs,hu]
    rw [this]
    exact he2
  refine enthymemeref04_reader_conj.L0T_step _ _ _ _ _ _ _ _ _ (H.callUF (c_take H.rd0 hi hln [38]) ?_)
  have ht:=takeQ_lt hok hi [38] (by decide)
  rintro _ w2 rfl H2 _
  refine ⟨_,rfl,?_⟩
  cases hq:takeQ l [38] st with
  |mk q st2=>
   rw [hq] at he H2 ht
   cases q with
   |true=>exact more w2 st2 ht he H2
   |false=>exact fin w2 st2 ht he H2
theorem conj_step (hok:OkL l) (hln:l.length<=1000000) (hn:n<=100000) (ih:∀m,m<=n->Okp s l m) (pb:Nat) (st:StQ) (w:World) (x:Rx) (st':StQ) (he:conjQ l (n+1) st=some (x,st')) (hi:st.1<l.length) (H:Rd0 pb s l st w):
  Calls Tryz.prog n_enthymemeref04_reader_conj #[.pointer (some (at0 pb))] w (SA pb s w (λr w'=>RetT w x r w'/\st'.1<l.length) st'):=by
 unfold conjQ at he
 cases hc:seqQ l n st with
 |none=>rw [hc] at he;cases he
 |some y=>
  obtain ⟨a,st3⟩:=y
  rw [hc] at he
  refine enthymemeref04_reader_conj.okT _ w _ (H.newg λb2 w1 H1=>?_)
  have H1:LH (·=pb) w w1 [enR pb s st,.g b2] [enT s l]:=H1
  refine H1.callUF ((ih n (Nat.le_refl _)).seq pb st w1 a st3 hc hi H1.rd0) ?_
  rintro _ w3 ⟨⟨u,rfl,hu,pu,fu⟩,hl3⟩ _ F3
  have H4:=F3 (.tree u) pu λb hb=>fu b (mem_nub.1 hb)
  have H4:LH (·=pb) w w3 [enR pb s st3,.g b2] [enT s l,.tree u]:=H4
  refine ⟨_,_,_,u.s,rfl,H4.nwrow (n:=1) (sz:=4) (cs:=u.c) rfl (by decide) λw4 H5=>?_⟩
  have H6:LH (·=pb) w w4 [enR pb s st3,.g b2,.row ty_enthymemeref04_Regex 4 ⟨some (at0 w3.heap.size),1,1⟩ ([u].flatMap Rt.c)] [enT s l,.trees [u]]:=by
   have e:[u].flatMap Rt.c=u.c:=by simp
   rw [e]
   exact (H5.cons1 1).forget _ (by simp)
  refine conj_loop hok hln ih pb w x st' n (Nat.le_refl _) [u] _ b2 w4 st3 ?_ hl3 (by simp;omega) (λb hb=>?_) H6
  .have:Rt.rxs [u]=[a]:=by simp [Rt.rxs,hu]
   rw [this]
   exact he
  .obtain ⟨t,ht,hb⟩:=Rt.fps_iff.1 hb
   simp at ht
   rw [ht] at hb
   exact Nat.le_trans H1.fr.size (fu b hb)
theorem seq_loop (hok:OkL l) (hln:l.length<=1000000) (ih:∀m,m<=n->Okp s l m) (pb:Nat) (w:World) (x:Rx) (st':StQ):∀(f:Nat),f<=n->∀(acc:List Rt) (sl:Sl) (b2:Nat) (w1:World) (st:StQ),itemsQ l f (Rt.rxs acc) st=some (x,st')->st.1<l.length->acc.length+f<=1000000->(∀b∈Rt.fps acc,w.heap.size<=b)->
  LH (·=pb) w w1 [enR pb s st,.g b2,.row ty_enthymemeref04_Regex 4 sl (acc.flatMap Rt.c)] [enT s l,.trees acc]->
  enthymemeref04_reader_seq.L0T (at0 pb) b2 0 0 0 ⟨none,0,0⟩ sl w1 (SA pb s w (λr w'=>RetT w x r w'/\st'.1<l.length) st')
 |0,_=>λacc sl b2 w1 st he=>by unfold itemsQ at he;cases he
 |f+1,hf=>λacc sl b2 w1 st he hi hacc hfr H=>by
  have nrow:=Rt.rows_n (H.get 2:OwnRow _ _ _ _ _).rdn
  unfold itemsQ at he
  have fin:∀(w2:World) (st2:StQ),st2.1<l.length->some (groupQ 3 (Rt.rxs acc),st2)=some (x,st')->LH (·=pb) w w2 [enR pb s st2,.g b2,.row ty_enthymemeref04_Regex 4 sl (acc.flatMap Rt.c)] [enT s l,.trees acc]->
    cf2 [b2] n_enthymemeref04_group #[.i 3,sl.v] w2 λt15_0 t15_1 t15_2 t15_3 w8=>loc [b2] w8 λw12=>SA pb s w (λr w'=>RetT w x r w'/\st'.1<l.length) st' (.returned (.agg #[.i t15_0,.int .u8 t15_1,.int .u8 t15_2,t15_3.v])) w12:=by
   intro w2 st2 hi2 he2 H2
   simp only [Option.some.injEq,Prod.mk.injEq] at he2
   obtain ⟨rfl,rfl⟩:=he2
   have hnew:∀b∈(lstT sl acc).fp,w.heap.size<=b:=λb hb=>by
    rcases lst_fp.1 hb with hb|hb
    .exact (H2.new _ (qmG (i:=2) rfl) b (rdn_own hb)).resolve_right (own_off H2 1 rfl (rdn_own hb))
    .exact hfr b hb
   have H3:LH (·=pb) w w2 [enR pb s st2,.g b2] [enT s l,.trees acc,Rt.row sl acc,.tree (lstT sl acc)]:=H2.rowT 2 1 0 0 0
   refine H3.callt (c_group 3 sl acc w2 (H3.getD 3)) (λb hb=>⟨_,qmG (i:=3) rfl,mem_nub.2 hb⟩) λt w3 ht H4 ft=>?_
   refine ⟨_,_,_,t.s,rfl,H4.locg λw4 H5=>⟨⟨⟨⟨t,rfl,ht,H5.getD 4,λb hb=>?_⟩,hi2⟩,H5.get 0⟩,H5.fr⟩⟩
   rcases ft b hb with hb|hb
   .exact Nat.le_trans H3.fr.size hb
   .exact hnew b hb
  have more:∀(w2:World) (st2:StQ),st2.1<l.length->(match itemQ l f st2 with
   |some (a,st)=>itemsQ l f (Rt.rxs acc++[a]) st
   |none=>none)=some (x,st')->LH (·=pb) w w2 [enR pb s st2,.g b2,.row ty_enthymemeref04_Regex 4 sl (acc.flatMap Rt.c)] [enT s l,.trees acc]->
    cf2 [b2] n_enthymemeref04_reader_item #[.pointer (some (at0 pb))] w2 λt11_0 t11_1 t11_2 t11_3 w5=>nwV w5 (.cells #[.i t11_0,.int .u8 t11_1,.int .u8 t11_2,t11_3.v] ty_enthymemeref04_Regex) λw6=>
     ∃(t13:Sl) (w7:World),Sem.run Tryz.prog (Builtin.append_ #[ty_sl_enthymemeref04_Regex,ty_sl_enthymemeref04_Regex] ty_sl_enthymemeref04_Regex #[sl.v,.slice (some (nb w5)) 1 1]) w6=.ok (t13.v) w7/\kept [b2] w6 w7/\enthymemeref04_reader_seq.L0T (at0 pb) b2 0 0 0 ⟨none,0,0⟩ t13 w7 (SA pb s w (λr w'=>RetT w x r w'/\st'.1<l.length) st'):=by
   intro w2 st2 hi2 he2 H2
   cases hc:itemQ l f st2 with
   |none=>rw [hc] at he2;cases he2
   |some y=>
    obtain ⟨a,st3⟩:=y
    rw [hc] at he2
    refine H2.callUF ((ih f (by omega)).item pb st2 w2 a st3 hc hi2 H2.rd0) ?_
    rintro _ w3 ⟨⟨u,rfl,hu,pu,fu⟩,hl3⟩ _ F3
    have H4:=F3 (.tree u) pu λb hb=>fu b (mem_nub.1 hb)
    have H4:LH (·=pb) w w3 [enR pb s st3,.g b2,.row ty_enthymemeref04_Regex 4 sl (acc.flatMap Rt.c)] [enT s l,.trees acc,.tree u]:=H4
    refine ⟨_,_,_,u.s,rfl,H4.ap1T 2 el_rf9 (xs:=acc.flatMap Rt.c) rfl (λs' w5 H5=>?_) (by omega)⟩
    have H6:LH (·=pb) w w5 [enR pb s st3,.g b2,.row ty_enthymemeref04_Regex 4 s' ((acc++[u]).flatMap Rt.c)] [enT s l,.trees (acc++[u])]:=by
     rw [cs_snoc]
     exact (H5.snocT 1 2).forget _ (by simp)
    refine seq_loop hok hln ih pb w x st' f (by omega) (acc++[u]) s' b2 w5 st3 ?_ hl3 (by simp;omega) (fps_snoc hfr λb hb=>Nat.le_trans H2.fr.size (fu b hb)) H6
    rw [rxs_app]
    have:Rt.rxs [u]=[a]:=by simp [Rt.rxs,hu]
    rw [this]
    exact he2
  refine enthymemeref04_reader_seq.L0T_step _ _ _ _ _ _ _ _ _ (H.callg (c_begins H.rd0 hi) ?_)
  rintro _ w2 rfl H2
  refine ⟨_,rfl,?_⟩
  cases hq:beginsQ l st with
  |true=>rw [hq] at he;exact more w2 st hi he H2
  |false=>rw [hq] at he;exact fin w2 st hi he H2
theorem seq_step (hok:OkL l) (hln:l.length<=1000000) (hn:n<=100000) (ih:∀m,m<=n->Okp s l m) (pb:Nat) (st:StQ) (w:World) (x:Rx) (st':StQ) (he:seqQ l (n+1) st=some (x,st')) (hi:st.1<l.length) (H:Rd0 pb s l st w):
  Calls Tryz.prog n_enthymemeref04_reader_seq #[.pointer (some (at0 pb))] w (SA pb s w (λr w'=>RetT w x r w'/\st'.1<l.length) st'):=by
 unfold seqQ at he
 cases hc:itemQ l n st with
 |none=>rw [hc] at he;cases he
 |some y=>
  obtain ⟨a,st3⟩:=y
  rw [hc] at he
  refine enthymemeref04_reader_seq.okT _ w _ (H.newg λb2 w1 H1=>?_)
  have H1:LH (·=pb) w w1 [enR pb s st,.g b2] [enT s l]:=H1
  refine H1.callUF ((ih n (Nat.le_refl _)).item pb st w1 a st3 hc hi H1.rd0) ?_
  rintro _ w3 ⟨⟨u,rfl,hu,pu,fu⟩,hl3⟩ _ F3
  have H4:=F3 (.tree u) pu λb hb=>fu b (mem_nub.1 hb)
  have H4:LH (·=pb) w w3 [enR pb s st3,.g b2] [enT s l,.tree u]:=H4
  refine ⟨_,_,_,u.s,rfl,H4.nwrow (n:=1) (sz:=4) (cs:=u.c) rfl (by decide) λw4 H5=>?_⟩
  have H6:LH (·=pb) w w4 [enR pb s st3,.g b2,.row ty_enthymemeref04_Regex 4 ⟨some (at0 w3.heap.size),1,1⟩ ([u].flatMap Rt.c)] [enT s l,.trees [u]]:=by
   have e:[u].flatMap Rt.c=u.c:=by simp
   rw [e]
   exact (H5.cons1 1).forget _ (by simp)
  refine seq_loop hok hln ih pb w x st' n (Nat.le_refl _) [u] _ b2 w4 st3 ?_ hl3 (by simp;omega) (λb hb=>?_) H6
  .have:Rt.rxs [u]=[a]:=by simp [Rt.rxs,hu]
   rw [this]
   exact he
  .obtain ⟨t,ht,hb⟩:=Rt.fps_iff.1 hb
   simp at ht
   rw [ht] at hb
   exact Nat.le_trans H1.fr.size (fu b hb)
end
theorem _root_.Go.W.LH.stq {M:Nat->Prop} {w0 w:World} {L D:List En} {bs:List Nat} (H:LH M w0 w L D) (i j:Nat) {b:Nat} {vs:List Value} {T:TypeId} {v:Value} {K:World->Prop} (hi:L[i]? =some (.c b vs T)) (hK:∀w',LH M w0 w' (L.set i (.c b (vs.set j v) T)) D->K w') (hj:j<vs.length:=by simp) (hbs:∀b∈bs,En.g b∈L:=by simp):stV w ((at0 b).add j) v λw1=>kept bs w w1/\K w1:=by
 obtain ⟨x1,x2,x3⟩:=H.set (v:=v) i j hi hj
 obtain ⟨_,_,_,x4⟩:=set_c (H.ob i hi) j (by simpa using hj) v
 refine ⟨x1,x2,λb' hb=>?_,hK _ x3⟩
 refine x4.keep b' (H.own _ (hbs b' hb)) λhm=>ghost_off H hi (c_off w b vs T) (hbs b' hb) ?_
 rw [hm];exact c_fp.2 rfl
theorem _root_.Go.W.LH.one {M:Nat->Prop} {w0 w:World} {L D:List En} (H:LH M w0 w L D) (i j:Nat) {e:TypeId} {sl:Sl} {u:Rt} (k:Int) (lo hi:UInt8) (hi':L[i]? =some (.row e 4 sl u.c):=by rfl) (hj:D[j]? =some (.tree u):=by rfl):LH M w0 w (L.eraseIdx i) (D++[.tree (.mk k lo hi sl [u])]):=by
 have H1:=H.cons1 j hj
 have e:[u].flatMap Rt.c=u.c:=by simp
 have H2:=H1.rowT i D.length k lo hi (s:=sl) (ts:=[u]) (by rw [e];exact hi') (by simp)
 exact H2.forget _ (λd hd=>by
  simp only [qmA,qmC,qnM,or_false] at hd ⊢
  rcases hd with hd|hd
  .exact .inl (.inl (.inl hd))
  .exact .inr hd)
theorem one_new {w:World} {sl:Sl} {u:Rt} {k:Int} {lo hi:UInt8} (h1:∀b∈blkL sl,w.heap.size<=b) (h2:∀b∈u.fp,w.heap.size<=b):∀b∈(Rt.mk k lo hi sl [u]).fp,w.heap.size<=b:=λb hb=>by
 unfold Rt.fp at hb
 rcases qmA.1 hb with hb|hb
 .exact rdn_fp h1 b hb
 .obtain ⟨t,ht,hb⟩:=Rt.fps_iff.1 hb
  simp at ht
  rw [ht] at hb
  exact h2 b hb
section
variable {s:Sl} {l:List TokQ} {n:Nat}
theorem item_loop (hok:OkL l) (hln:l.length<=1000000) (pb:Nat) (w:World) (x:Rx) (st':StQ):∀(f:Nat) (u:Rt) (b2 b4:Nat) (w1:World) (st:StQ),starsQ l f u.rx st=some (x,st')->st.1<l.length->(∀b∈u.fp,w.heap.size<=b)->
  LH (·=pb) w w1 [enR pb s st,.g b2,.g b4] [enT s l,.tree u]->
  enthymemeref04_reader_item.L0T (at0 pb) b2 0 0 0 ⟨none,0,0⟩ b4 u.k (u.lo.toNat:Int) (u.hi.toNat:Int) u.s w1 (SA pb s w (λr w'=>RetT w x r w'/\st'.1<l.length) st')
 |0,u,b2,b4,w1,st,he,_,_,_=>by unfold starsQ at he;cases he
 |f+1,u,b2,b4,w1,st,he,hi,hfr,H=>by
  unfold starsQ at he
  refine enthymemeref04_reader_item.L0T_step _ _ _ _ _ _ _ _ _ _ _ _ _ (H.callUF (c_take H.rd0 hi hln [42]) ?_)
  have ht:=takeQ_lt hok hi [42] (by decide)
  rintro _ w2 rfl H2 _
  refine ⟨_,rfl,?_⟩
  cases hq:takeQ l [42] st with
  |mk q st2=>
   rw [hq] at he H2 ht
   cases q with
   |true=>
    dsimp only at he ht
    refine sel_true rfl ?_
    refine H2.nwrow (n:=1) (sz:=4) (cs:=u.c) rfl (by decide) λw3 H3=>H3.locg λw4 H4=>?_
    have H5:LH (·=pb) w w4 [enR pb s st2,.g b2,.g b4] [enT s l,.tree (.mk 7 0 0 ⟨some (at0 w2.heap.size),1,1⟩ [u])]:=(H4.one 3 1 7 0 0).forget _ (by simp)
    refine item_loop hok hln pb w x st' f (.mk 7 0 0 ⟨some (at0 w2.heap.size),1,1⟩ [u]) b2 b4 w4 st2 he ht (one_new (λb hb=>?_) hfr) H5
    simp only [blkL,qmC,qnM,or_false] at hb
    rw [hb];exact H2.fr.size
   |false=>
    dsimp only at he ht
    simp only [Option.some.injEq,Prod.mk.injEq] at he
    obtain ⟨he,rfl⟩:=he
    refine sel_false rfl ?_
    exact H2.locg λw3 H3=>⟨⟨⟨⟨u,rfl,he,H3.getD 1,hfr⟩,ht⟩,H3.get 0⟩,H3.fr⟩
theorem item_step (hok:OkL l) (hln:l.length<=1000000) (ih:Okp s l n) (pb:Nat) (st:StQ) (w:World) (x:Rx) (st':StQ) (he:itemQ l (n+1) st=some (x,st')) (hi:st.1<l.length) (H:Rd0 pb s l st w):
  Calls Tryz.prog n_enthymemeref04_reader_item #[.pointer (some (at0 pb))] w (SA pb s w (λr w'=>RetT w x r w'/\st'.1<l.length) st'):=by
 unfold itemQ at he
 refine enthymemeref04_reader_item.okT _ w _ (H.newg λb2 w1 H1=>?_)
 have H1:LH (·=pb) w w1 [enR pb s st,.g b2] [enT s l]:=H1
 refine H1.callUF (c_take H1.rd0 hi hln [33]) ?_
 have ht:=takeQ_lt hok hi [33] (by decide)
 rintro _ w2 rfl H2 _
 refine ⟨_,rfl,?_⟩
 cases hq:takeQ l [33] st with
 |mk q st2=>
  rw [hq] at he H2 ht
  cases q with
  |true=>
   dsimp only at he ht
   cases hc:itemQ l n st2 with
   |none=>rw [hc] at he;cases he
   |some y=>
    obtain ⟨a,st3⟩:=y
    rw [hc] at he
    simp only [Option.some.injEq,Prod.mk.injEq] at he
    obtain ⟨he,rfl⟩:=he
    refine sel_true rfl ?_
    refine H2.callUF (ih.item pb st2 w2 a st3 hc ht H2.rd0) ?_
    rintro _ w3 ⟨⟨u,rfl,hu,pu,fu⟩,hl3⟩ _ F3
    have H3:=F3 (.tree u) pu λb hb=>fu b (mem_nub.1 hb)
    refine ⟨_,_,_,u.s,rfl,H3.nwrow (n:=1) (sz:=4) (cs:=u.c) rfl (by decide) λw4 H4=>H4.locg λw5 H5=>?_⟩
    have H6:LH (·=pb) w w5 [enR pb s st3,.g b2] [enT s l,.tree (.mk 6 0 0 ⟨some (at0 w3.heap.size),1,1⟩ [u])]:=(H5.one 2 1 6 0 0).forget _ (by simp)
    refine ⟨⟨⟨⟨.mk 6 0 0 ⟨some (at0 w3.heap.size),1,1⟩ [u],rfl,?_,H6.getD 1,one_new (λb hb=>?_) (λb hb=>Nat.le_trans H2.fr.size (fu b hb))⟩,hl3⟩,H6.get 0⟩,H6.fr⟩
    .rw [<-he,<-hu];rfl
    .simp only [blkL,qmC,qnM,or_false] at hb
     rw [hb];exact H3.fr.size
  |false=>
   dsimp only at he ht
   cases hc:atomQ l n st2 with
   |none=>rw [hc] at he;cases he
   |some y=>
    obtain ⟨a,st3⟩:=y
    rw [hc] at he
    refine sel_false rfl ?_
    refine H2.callUF (ih.atom pb st2 w2 a st3 hc ht H2.rd0) ?_
    rintro _ w3 ⟨⟨u,rfl,hu,pu,fu⟩,hl3⟩ _ F3
    have H3:=F3 (.tree u) pu λb hb=>fu b (mem_nub.1 hb)
    refine ⟨_,_,_,u.s,rfl,H3.newg λb4 w4 H4=>H4.locg λw5 H5=>?_⟩
    exact item_loop hok hln pb w x st' n u b2 b4 w5 st3 (by rw [hu];exact he) hl3 (λb hb=>Nat.le_trans H2.fr.size (fu b hb)) H5
theorem kids_loop (hok:OkL l) (hln:l.length<=1000000) (ih:∀m,m<=n->Okp s l m) (pb:Nat) (w:World) (m:List Rx) (st':StQ):∀(f:Nat),f<=n->∀(acc:List Rt) (sl:Sl) (w1:World) (st:StQ),moreQ l f (Rt.rxs acc) st=some (m,st')->st.1<l.length->acc.length+f<=1000000->(∀b∈Rt.fps acc,w.heap.size<=b)->
  LH (·=pb) w w1 [enR pb s st,.row ty_enthymemeref04_Regex 4 sl (acc.flatMap Rt.c)] [enT s l,.trees acc]->
  enthymemeref04_reader_kids.L1 (at0 pb) sl w1 (SA pb s w (λr w'=>(∃(sl:Sl) (a:List Rt),r=.returned sl.v/\Rt.rxs a=m/\(lstT sl a).P w'/\∀b∈(lstT sl a).fp,w.heap.size<=b)/\st'.1<l.length) st')
 |0,_=>λacc sl w1 st he=>by unfold moreQ at he;cases he
 |f+1,hf=>λacc sl w1 st he hi hacc hfr H=>by
  have nrow:=Rt.rows_n (H.get 1:OwnRow _ _ _ _ _).rdn
  unfold moreQ at he
  refine enthymemeref04_reader_kids.L1_step _ _ _ _ (H.callU (c_take H.rd0 hi hln [44]) ?_)
  have ht:=takeQ_lt hok hi [44] (by decide)
  rintro _ w2 rfl H2 _
  refine ⟨_,rfl,?_⟩
  cases hq:takeQ l [44] st with
  |mk q st2=>
   rw [hq] at he H2 ht
   cases q with
   |true=>
    dsimp only at he ht
    cases hc:exprQ l f st2 with
    |none=>rw [hc] at he;cases he
    |some y=>
     obtain ⟨a,st3⟩:=y
     rw [hc] at he
     refine sel_true rfl ?_
     refine H2.callU ((ih f (by omega)).expr pb st2 w2 a st3 hc ht H2.rd0) ?_
     rintro _ w3 ⟨⟨u,rfl,hu,pu,fu⟩,hl3⟩ _ F3
     have H4:=F3 (.tree u) pu λb hb=>fu b (mem_nub.1 hb)
     have H4:LH (·=pb) w w3 [enR pb s st3,.row ty_enthymemeref04_Regex 4 sl (acc.flatMap Rt.c)] [enT s l,.trees acc,.tree u]:=H4
     refine ⟨_,_,_,u.s,rfl,H4.ap1 1 el_rf9 (xs:=acc.flatMap Rt.c) rfl (λs' w5 H5 _ _=>?_) (by omega)⟩
     have H6:LH (·=pb) w w5 [enR pb s st3,.row ty_enthymemeref04_Regex 4 s' ((acc++[u]).flatMap Rt.c)] [enT s l,.trees (acc++[u])]:=by
      rw [cs_snoc]
      exact (H5.snocT 1 2).forget _ (by simp)
     refine kids_loop hok hln ih pb w m st' f (by omega) (acc++[u]) s' w5 st3 ?_ hl3 (by simp;omega) (fps_snoc hfr λb hb=>Nat.le_trans H2.fr.size (fu b hb)) H6
     rw [rxs_app]
     have:Rt.rxs [u]=[a]:=by simp [Rt.rxs,hu]
     rw [this]
     exact he
   |false=>
    dsimp only at he ht
    simp only [Option.some.injEq,Prod.mk.injEq] at he
    obtain ⟨rfl,rfl⟩:=he
    refine sel_false rfl ?_
    refine H2.callU (c_need H2.rd0 ht hln [41]) ?_
    rintro _ w3 rfl H3 _
    refine ⟨rfl,⟨⟨⟨sl,acc,rfl,rfl,lst_P.2 ⟨(H3.get 1:OwnRow _ _ _ _ _).rdn,H3.getD 1⟩,λb hb=>?_⟩,needQ_lt hok ht [41] (by decide)⟩,H3.get 0⟩,H3.fr⟩
    rcases lst_fp.1 hb with hb|hb
    .exact (H3.new _ (qmG (i:=1) rfl) b (rdn_own hb)).resolve_right (own_off H3 0 rfl (rdn_own hb))
    .exact hfr b hb
theorem kids_step (hok:OkL l) (hln:l.length<=1000000) (hn:n<=100000) (ih:∀m,m<=n->Okp s l m) (pb:Nat) (st:StQ) (w:World) (m:List Rx) (st':StQ) (he:kidsQ l (n+1) st=some (m,st')) (hi:st.1<l.length) (H:Rd0 pb s l st w):
  Calls Tryz.prog n_enthymemeref04_reader_kids #[.pointer (some (at0 pb))] w (SA pb s w (λr w'=>(∃(sl:Sl) (a:List Rt),r=.returned sl.v/\Rt.rxs a=m/\(lstT sl a).P w'/\∀b∈(lstT sl a).fp,w.heap.size<=b)/\st'.1<l.length) st'):=by
 unfold kidsQ at he
 refine enthymemeref04_reader_kids.ok _ w _ (H.callU (c_need H hi hln [40]) ?_)
 have hn1:=needQ_lt hok hi [40] (by decide)
 rintro _ w1 rfl H1 _
 refine ⟨rfl,H1.callU (c_take H1.rd0 hn1 hln [41]) ?_⟩
 have ht:=takeQ_lt hok hn1 [41] (by decide)
 rintro _ w2 rfl H2 _
 cases hq:takeQ l [41] (needQ l [40] st) with
 |mk q st2=>
  rw [hq] at he H2 ht
  have none_:some (([]:List Rx),st2)=some (m,st')->enthymemeref04_reader_kids.S0 w2 (SA pb s w (λr w'=>(∃(sl:Sl) (a:List Rt),r=.returned sl.v/\Rt.rxs a=m/\(lstT sl a).P w'/\∀b∈(lstT sl a).fp,w.heap.size<=b)/\st'.1<l.length) st'):=by
   intro he
   simp only [Option.some.injEq,Prod.mk.injEq] at he
   obtain ⟨rfl,rfl⟩:=he
   refine ⟨⟨⟨⟨⟨none,0,0⟩,[],rfl,rfl,lst_P.2 ⟨RdN.nil 4 w2,by unfold Rt.Ps;trivial⟩,λb hb=>?_⟩,ht⟩,H2.get 0⟩,H2.fr⟩
   rcases lst_fp.1 hb with hb|hb
   .simp [Rt.row,En.rdn] at hb
   .unfold Rt.fps at hb;cases hb
  refine ⟨_,rfl,st2.2,H2.ld 0 2,sel_intro (λhb=>none_ (by simpa [hb] using he)) (λhb=>sel_intro (λhq'=>none_ (by
   have hq':q=true:=hq'
   simpa [hq'] using he)) (λhq'=>?_))⟩
  have hq':q=false:=hq'
  simp only [hb,hq',Bool.or_false,cond_false] at he
  cases hc:exprQ l n st2 with
  |none=>rw [hc] at he;cases he
  |some y=>
   obtain ⟨a,st3⟩:=y
   rw [hc] at he
   refine H2.callU ((ih n (Nat.le_refl _)).expr pb st2 w2 a st3 hc ht H2.rd0) ?_
   rintro _ w3 ⟨⟨u,rfl,hu,pu,fu⟩,hl3⟩ _ F3
   have H4:=F3 (.tree u) pu λb hb=>fu b (mem_nub.1 hb)
   refine ⟨_,_,_,u.s,rfl,H4.nwrow (n:=1) (sz:=4) (cs:=u.c) rfl (by decide) λw4 H5=>?_⟩
   have H6:LH (·=pb) w w4 [enR pb s st3,.row ty_enthymemeref04_Regex 4 ⟨some (at0 w3.heap.size),1,1⟩ ([u].flatMap Rt.c)] [enT s l,.trees [u]]:=by
    have e:[u].flatMap Rt.c=u.c:=by simp
    rw [e]
    exact (H5.cons1 1).forget _ (by simp)
   refine kids_loop hok hln ih pb w m st' n (Nat.le_refl _) [u] _ w4 st3 ?_ hl3 (by simp;omega) (λb hb=>?_) H6
   .have:Rt.rxs [u]=[a]:=by simp [Rt.rxs,hu]
    rw [this]
    exact he
   .obtain ⟨t,ht,hb⟩:=Rt.fps_iff.1 hb
    simp at ht
    rw [ht] at hb
    exact Nat.le_trans H2.fr.size (fu b hb)
end
def wordsV:List Value:=[.string (ba (wordQ 0)),.string (ba (wordQ 1)),.string (ba (wordQ 2)),.string (ba (wordQ 3)),.string (ba (wordQ 4)),.string (ba (wordQ 5))]
theorem wordsV_at {k:Nat} (h:k<6):wordsV[k]? =some (.string (ba (wordQ k))):=by
 have:k=0\/k=1\/k=2\/k=3\/k=4\/k=5:=by omega
 rcases this with rfl|rfl|rfl|rfl|rfl|rfl<;>rfl
theorem wordQ_ne {k:Nat} (h:k<6) (h2:k≠2):wordQ k≠[]/\wordQ k≠[32]:=by
 have:k=0\/k=1\/k=2\/k=3\/k=4\/k=5:=by omega
 rcases this with rfl|rfl|rfl|rfl|rfl|rfl<;>first |exact absurd rfl h2|exact ⟨by decide,by decide⟩
def leafT (k:Int) (lo hi:UInt8):Rt:=.mk k lo hi ⟨none,0,0⟩ []
theorem leaf_P (k:Int) (lo hi:UInt8) (w:World):(leafT k lo hi).P w:=by
 unfold leafT Rt.P Rt.Ps
 exact ⟨RdN.nil 4 w,trivial⟩
theorem leaf_fp {k:Int} {lo hi:UInt8} {b:Nat}:¬b∈(leafT k lo hi).fp:=λh=>by
 unfold leafT Rt.fp Rt.fps at h
 rcases qmA.1 h with h|h
 .simp [Rt.row,En.rdn] at h
 .cases h
section
variable {s:Sl} {l:List TokQ} {n:Nat}
theorem atom_step (hok:OkL l) (hln:l.length<=1000000) (ih:Okp s l n) (pb:Nat) (st:StQ) (w:World) (x:Rx) (st':StQ) (he:atomQ l (n+1) st=some (x,st')) (hi:st.1<l.length) (H:Rd0 pb s l st w):
  Calls Tryz.prog n_enthymemeref04_reader_atom #[.pointer (some (at0 pb))] w (SA pb s w (λr w'=>RetT w x r w'/\st'.1<l.length) st'):=by
 let R:Post:=SA pb s w (λr w'=>RetT w x r w'/\st'.1<l.length) st'
 have loop:∀(f k:Nat) (b2 bw:Nat) (w1:World),f+k=6->whichQ l st 6 0=whichQ l st f k->(match whichQ l st 6 0 with
   |some k=>bif Nat.ble k 2 then some (Rx.mk k 0 0 [],(st.1+1,st.2)) else match kidsQ l n (st.1+1,st.2) with
    |some (m,st)=>some (Rx.mk k 0 0 m,st)
    |none=>none
   |none=>let st:=needQ l [40] st
    bif st.2 then some (noR,st) else match exprQ l n st with
    |some (a,st)=>some (a,needQ l [41] st)
    |none=>none)=some (x,st')->LH (·=pb) w w1 [enR pb s st,.g b2,.c bw wordsV ty_string] [enT s l]->
   enthymemeref04_reader_atom.L1T (at0 pb) b2 0 0 0 ⟨none,0,0⟩ ⟨some (at0 bw),6,6⟩ (k:Int) w1 R:=by
  intro f
  induction f with
  |zero=>
   intro k b2 bw w1 hk hw he H1
   have e0:whichQ l st 0 k=none:=by unfold whichQ;rfl
   rw [hw,e0] at he
   dsimp only at he
   have hn1:=needQ_lt hok hi [40] (by decide)
   refine enthymemeref04_reader_atom.L1T_step _ _ _ _ _ _ _ _ _ _ (sel_false (decide_eq_false (by omega)) (H1.callUF (c_need H1.rd0 hi hln [40]) ?_))
   rintro _ w2 rfl H2 _
   generalize needQ l [40] st=st2 at he hn1 H2
   refine ⟨rfl,st2.2,H2.ld 0 2,sel_intro (λhb=>?_) (λhb=>?_)⟩
   .rw [hb] at he
    simp only [cond_true,Option.some.injEq,Prod.mk.injEq] at he
    obtain ⟨rfl,rfl⟩:=he
    exact H2.locg λw3 H3=>⟨⟨⟨⟨noT,rfl,rfl,no_P _,λb hb=>(no_fp' hb).elim⟩,hn1⟩,H3.get 0⟩,H3.fr⟩
   .rw [hb] at he
    dsimp only [cond_false] at he
    cases hc:exprQ l n st2 with
    |none=>rw [hc] at he;cases he
    |some y=>
     obtain ⟨a,st3⟩:=y
     rw [hc] at he
     simp only [Option.some.injEq,Prod.mk.injEq] at he
     obtain ⟨rfl,rfl⟩:=he
     refine H2.callUF (ih.expr pb st2 w2 a st3 hc hn1 H2.rd0) ?_
     rintro _ w3 ⟨⟨u,rfl,hu,pu,fu⟩,hl3⟩ _ F3
     have H3:=F3 (.tree u) pu λb hb=>fu b (mem_nub.1 hb)
     refine ⟨_,_,_,u.s,rfl,H3.newg λb6 w4 H4=>H4.locg λw5 H5=>?_⟩
     have H5:LH (·=pb) w w5 (enR pb s st3::[.g b2,.c bw wordsV ty_string,.g b6]) [enT s l,.tree u]:=H5
     refine H5.callUF (c_need H5.rd0 hl3 hln [41]) ?_
     rintro _ w6 rfl H6 _
     exact ⟨rfl,H6.locg λw7 H7=>⟨⟨⟨⟨u,rfl,hu,H7.getD 1,λb hb=>Nat.le_trans H2.fr.size (fu b hb)⟩,needQ_lt hok hl3 [41] (by decide)⟩,H7.get 0⟩,H7.fr⟩⟩
  |succ f ihf=>
   intro k b2 bw w1 hk hw he H1
   have next:whichQ l st (f+1) k=whichQ l st f (k+1)->∀w2,LH (·=pb) w w2 [enR pb s st,.g b2,.c bw wordsV ty_string] [enT s l]->enthymemeref04_reader_atom.S2T (at0 pb) b2 0 0 0 ⟨none,0,0⟩ ⟨some (at0 bw),6,6⟩ (k:Int) w2 R:=by
    intro hx w2 H2
    show enthymemeref04_reader_atom.L1T _ _ _ _ _ _ _ _ _ _
    rw [i64_next _ (by omega)]
    exact ihf (k+1) b2 bw w2 (by omega) (by rw [hw,hx]) he H2
   refine enthymemeref04_reader_atom.L1T_step _ _ _ _ _ _ _ _ _ _ (sel_true (decide_eq_true (by omega)) (sel_eq (λhk2=>H1.locg λw2 H2=>next (by
    have:k=2:=by omega
    subst this
    conv=>lhs;unfold whichQ
    rfl) w2 H2) (λhk2=>⟨by omega,by show (k:Int)<((6:Nat):Int);omega,?_⟩)))
   have hk2:k≠2:=by omega
   have hb2:Nat.beq k 2=false:=by
    cases h:Nat.beq k 2 with
    |false=>rfl
    |true=>exact absurd (Nat.eq_of_beq_eq_true h) hk2
   refine optS (H1.locg λw2 H2=>?_)
   rw [Int.toNat_natCast,Nat.mul_one]
   refine ⟨ba (wordQ k),H2.ld 2 k rfl (wordsV_at (by omega)),H2.callg (c_see H2.rd0 hi) ?_⟩
   rintro _ w3 rfl H3
   refine ⟨_,rfl,H3.ld 2 k rfl (wordsV_at (by omega)),?_⟩
   rw [ba_eq]
   refine sel_not (λhs=>next (by
    conv=>lhs;unfold whichQ
    rw [hb2,hs];rfl) w3 H3) (λhs=>?_)
   have hs':=eq_of_beq hs
   have hwk:whichQ l st 6 0=some k:=by
    rw [hw]
    conv=>lhs;unfold whichQ
    rw [hb2,hs];rfl
   rw [hwk] at he
   dsimp only at he
   have hl1:st.1+1<l.length:=by
    refine last_see hok hi (by rw [hs'];exact (wordQ_ne (by omega) hk2).1) ?_
    cases hb:st.2 with
    |false=>rfl
    |true=>
     exfalso
     refine (wordQ_ne (k:=k) (by omega) hk2).2 ?_
     rw [<-hs'];unfold seeQ;rw [hb];rfl
   refine ⟨(st.1:Int),H3.ld 0 1,?_⟩
   rw [i64_next _ (by omega)]
   refine H3.stq 0 1 rfl λw4 H4=>?_
   have H4:LH (·=pb) w w4 [enR pb s (st.1+1,st.2),.g b2,.c bw wordsV ty_string] [enT s l]:=H4
   refine H4.newg λb5 w5 H5=>sel_dec (λhk3=>?_) (λhk3=>?_)
   .have hbk:Nat.ble k 2=false:=by
     cases h:Nat.ble k 2 with
     |false=>rfl
     |true=>have:=Nat.le_of_ble_eq_true h;omega
    rw [hbk] at he
    dsimp only [cond_false] at he
    cases hc:kidsQ l n (st.1+1,st.2) with
    |none=>rw [hc] at he;cases he
    |some y=>
     obtain ⟨m,st3⟩:=y
     rw [hc] at he
     simp only [Option.some.injEq,Prod.mk.injEq] at he
     obtain ⟨hx,rfl⟩:=he
     refine H5.locg λw9 H9=>?_
     have H9:LH (·=pb) w w9 (enR pb s (st.1+1,st.2)::[.g b2,.c bw wordsV ty_string,.g b5]) [enT s l]:=H9
     refine H9.callUF (ih.kids pb (st.1+1,st.2) w9 m st3 hc hl1 H9.rd0) ?_
     rintro _ w10 ⟨⟨sl,a,rfl,ha,pa,fa⟩,hl3⟩ _ F10
     have H10:=F10 (.tree (lstT sl a)) pa λb hb=>fa b (mem_nub.1 hb)
     refine ⟨sl,rfl,H10.locg λw11 H11=>H11.locg λw12 H12=>?_⟩
     refine ⟨⟨⟨⟨.mk k 0 0 sl a,rfl,?_,?_,λb hb=>?_⟩,hl3⟩,H12.get 0⟩,H12.fr⟩
     .rw [<-hx,<-ha];rfl
     .have:=lst_P.1 (show (lstT sl a).P w12 from H12.getD 1)
      unfold Rt.P
      exact this
     .refine Nat.le_trans H9.fr.size (fa b ?_)
      unfold Rt.fp at hb
      unfold lstT Rt.fp
      exact hb
   .have hbk:Nat.ble k 2=true:=Nat.ble_eq_true_of_le (by omega)
    rw [hbk] at he
    simp only [cond_true,Option.some.injEq,Prod.mk.injEq] at he
    obtain ⟨hx,rfl⟩:=he
    refine H5.locg λw6 H6=>H6.locg λw7 H7=>⟨⟨⟨⟨leafT k 0 0,rfl,?_,leaf_P _ _ _ _,λb hb=>(leaf_fp hb).elim⟩,hl1⟩,H7.get 0⟩,H7.fr⟩
    rw [<-hx];rfl
 have s0:∀(b2:Nat) (w1:World),(!st.2&&Nat.beq (tokAt l st.1).k 2)=false->LH (·=pb) w w1 [enR pb s st,.g b2] [enT s l]->enthymemeref04_reader_atom.S0T (at0 pb) b2 0 0 0 ⟨none,0,0⟩ w1 R:=by
  intro b2 w1 hq H1
  unfold atomQ at he
  rw [hq] at he
  dsimp only [cond_false] at he
  refine H1.nw λw2 _ H2=>?_
  exact loop 6 0 b2 w1.heap.size w2 (by omega) rfl he H2
 refine enthymemeref04_reader_atom.okT _ w _ (H.newg λb2 w1 H1=>H1.locg λw2 H2=>⟨st.2,H2.ld 0 2,sel_not (λhb=>?_) (λhb=>s0 b2 w2 (by rw [hb];rfl) H2)⟩)
 have hn:=tks_n (H2.getD 0:RdN _ _ _ _)
 refine ⟨s,H2.ld 0 0,(st.1:Int),H2.ld 0 1,by omega,by omega,tok_at (H2.getD 0) hi λp hp c=>⟨((tokAt l st.1).k:Int),?_,sel_eq (λh2=>?_) (λh2=>s0 b2 w2 (by
  have:Nat.beq (tokAt l st.1).k 2=false:=by
   cases h:Nat.beq (tokAt l st.1).k 2 with
   |false=>rfl
   |true=>have:=Nat.eq_of_beq_eq_true h;omega
  rw [this];simp) H2)⟩⟩
 .rw [Int.toNat_natCast,add0];exact c.c2
 have h2:(tokAt l st.1).k=2:=by omega
 have hl1:st.1+1<l.length:=by
  rcases Nat.lt_or_ge (st.1+1) l.length with h|h
  .exact h
  .exfalso
   have e:st.1=l.length - 1:=by omega
   rw [e,hok.2.2] at h2
   cases h2
 refine ⟨(st.1:Int),H2.ld 0 1,?_⟩
 rw [i64_next _ (by omega)]
 refine H2.stq 0 1 rfl λw3 H3=>?_
 have H3:LH (·=pb) w w3 [enR pb s (st.1+1,st.2),.g b2] [enT s l]:=H3
 refine H3.locg λw4 H4=>⟨s,H4.ld 0 0,((st.1+1:Nat):Int),H4.ld 0 1,?_⟩
 have em:IntKind.wrap .i64 (((st.1+1:Nat):Int) - 1)=(st.1:Int):=by rw [IntWalk.i64_in _ (by omega)];omega
 rw [em]
 unfold atomQ at he
 rw [hb,h2] at he
 have he:some (Rx.mk 2 (tokAt l st.1).lo (tokAt l st.1).hi [],(st.1+1,false))=some (x,st'):=he
 simp only [Option.some.injEq,Prod.mk.injEq] at he
 obtain ⟨he,he2⟩:=he
 refine ⟨by omega,by omega,tok_at (H4.getD 0) hi λp hp c=>⟨2,(tokAt l st.1).lo.toNat,(tokAt l st.1).hi.toNat,⟨none,0,0⟩,?_,?_,?_,?_,H4.locg λw5 H5=>⟨⟨⟨⟨leafT 2 (tokAt l st.1).lo (tokAt l st.1).hi,rfl,he,leaf_P _ _ _ _,λb hb=>(leaf_fp hb).elim⟩,by rw [<-he2];exact hl1⟩,?_⟩,H5.fr⟩⟩⟩
 .rw [Int.toNat_natCast,add0,c.c2,h2];rfl
 .rw [Int.toNat_natCast,add_add];exact c.c3
 .rw [Int.toNat_natCast,add_add];exact c.c4
 .rw [Int.toNat_natCast,add_add];exact c.c5
 .have:=H5.get 0
  rw [<-he2,<-hb]
  exact this
theorem okp (hok:OkL l) (hln:l.length<=1000000):∀n:Nat,n<=100000->∀m,m<=n->Okp s l m
 |0,_=>λm hm=>by
  have:m=0:=by omega
  subst this
  exact ⟨λpb st w x st' he=>(by unfold exprQ at he;cases he),λpb st w x st' he=>(by unfold conjQ at he;cases he),λpb st w x st' he=>(by unfold seqQ at he;cases he),λpb st w x st' he=>(by unfold itemQ at he;cases he),λpb st w x st' he=>(by unfold atomQ at he;cases he),λpb st w x st' he=>(by unfold kidsQ at he;cases he)⟩
 |n+1,hn=>λm hm=>by
  have ih:=okp hok hln n (by omega)
  rcases Nat.lt_or_ge m (n+1) with h|h
  .exact ih m (by omega)
  have:m=n+1:=by omega
  subst this
  exact ⟨λpb st w x st' he hi H=>expr_step hok hln (by omega) ih pb st w x st' he hi H,λpb st w x st' he hi H=>conj_step hok hln (by omega) ih pb st w x st' he hi H,λpb st w x st' he hi H=>seq_step hok hln (by omega) ih pb st w x st' he hi H,λpb st w x st' he hi H=>item_step hok hln (ih n (Nat.le_refl _)) pb st w x st' he hi H,λpb st w x st' he hi H=>atom_step hok hln (ih n (Nat.le_refl _)) pb st w x st' he hi H,λpb st w x st' he hi H=>kids_step hok hln (by omega) ih pb st w x st' he hi H⟩
end
theorem _root_.Go.W.LH.perm {M:Nat->Prop} {w0 w:World} {L L' D:List En} (H:LH M w0 w L D) (h:L.Perm L'):LH M w0 w L' D:=
 ⟨H.fr,λe he=>H.own e (h.mem_iff.2 he),H.rd,λe he=>H.new e (h.mem_iff.2 he),(h.flatMap_right (·.fp)).nodup_iff.1 H.nd,λe he b hb e' he'=>H.dj e he b hb e' (h.mem_iff.2 he')⟩
theorem tokQ_end (s:BL):∀(f i:Nat),s.length<f+i->∃init,tokQ s f i=init++[⟨[],s.length,0,0,0⟩]/\init.length+i<=max i s.length
 |0,i,h=>⟨[],rfl,by simp;omega⟩
 |f+1,i,h=>by
  unfold tokQ
  split
  .exact ⟨[],rfl,by simp;omega⟩
  .split
   .obtain ⟨init,h1,h2⟩:=tokQ_end s f (i+1) (by omega)
    exact ⟨init,h1,by omega⟩
   .simp only
    have hr:=rangeAt_le s i
    have hw:=runQ_le s i s.length 1 (by omega)
    generalize rangeAtQ s i=g at hr
    generalize runQ s i s.length 1=e at hw
    have hn:1<=(if g.n=0 then e else g.n)/\i+(if g.n=0 then e else g.n)<=s.length:=by split<;>omega
    generalize (if g.n=0 then e else g.n)=n at hn
    obtain ⟨init,h1,h2⟩:=tokQ_end s f (i+n) (by omega)
    exact ⟨_::init,by rw [h1];rfl,by simp only [qlC];omega⟩
theorem toks_ok (s:BL):OkL (toksQ s)/\(toksQ s).length<=s.length+1:=by
 obtain ⟨init,h1,h2⟩:=tokQ_end s (s.length+1) 0 (by omega)
 have e:toksQ s=init++[⟨[],s.length,0,0,0⟩]:=h1
 rw [e]
 have hl:(init++[(⟨[],s.length,0,0,0⟩:TokQ)]).length=init.length+1:=by simp
 have ht:tokAt (init++[(⟨[],s.length,0,0,0⟩:TokQ)]) init.length=⟨[],s.length,0,0,0⟩:=by
  unfold tokAt
  simp [List.getD_eq_getElem?_getD]
 refine ⟨⟨by omega,?_,?_⟩,by omega⟩
 .rw [hl,Nat.add_sub_cancel,ht]
 .rw [hl,Nat.add_sub_cancel,ht]
def RetP (w:World) (x:Rx) (a:Nat) (e:Int) (r:Ending) (w':World):Prop:=∃t:Rt,r=.returned (.tuple #[t.v,.i (a:Int),.i e])/\t.rx=x/\t.P w'/\∀b∈t.fp,w.heap.size<=b
theorem c_rParse (s:ByteArray) (hs:s.size<=100000) (x:Rx) (a:Nat) (e:Int) (he:parseQ (bl s)=some (x,a,e)) (w:World):Calls Tryz.prog n_enthymemeref04_Parse #[.string s] w λr w'=>RetP w x a e r w'/\Fr0 w w':=by
 have hl:(bl s).length=s.size:=bl_len s
 obtain ⟨hok,hlen⟩:=toks_ok (bl s)
 unfold parseQ at he
 refine enthymemeref04_Parse.okT _ w _ ((lh0 [] (by simp)).newg λb2 w1 H1=>sel_dec (λhb=>H1.locg λw2 H2=>?_) (λhb=>H1.callr (c_Tokens s hs w1) ?_))
 .rw [if_pos (by omega)] at he
  simp only [Option.some.injEq,Prod.mk.injEq] at he
  obtain ⟨rfl,rfl,rfl⟩:=he
  exact ⟨⟨noT,rfl,rfl,no_P _,λb hb=>(no_fp' hb).elim⟩,H2.fr⟩
 rw [if_neg (by omega)] at he
 generalize toksQ (bl s)=l at he hok hlen
 dsimp only at he
 rintro _ w6 ⟨tk,rfl,ho,hf⟩ _ F6
 have H6:=F6.rd (enT tk l) ho.rdn (rdn_fp hf)
 cases hx:exprQ l 1000 (0,false) with
 |none=>rw [hx] at he;cases he
 |some y=>
  obtain ⟨r0,st0⟩:=y
  rw [hx] at he
  dsimp only at he
  refine ⟨tk,rfl,H6.nw λw7 _ H7=>?_⟩
  have H7:LH F0 w w7 (enR w6.heap.size tk (0,false)::[.g b2]) [enT tk l]:=H7.perm (List.Perm.swap _ _ _)
  refine H7.callUF ((okp hok (by omega) 1000 (by omega) 1000 (Nat.le_refl _)).expr w6.heap.size (0,false) w7 r0 st0 hx hok.1 H7.rd0) ?_
  rintro _ w8 ⟨⟨u,rfl,hu,pu,fu⟩,hl3⟩ _ F8
  have H8:=F8 (.tree u) pu λb hb=>fu b (mem_nub.1 hb)
  refine ⟨_,_,_,u.s,rfl,H8.newg λb6 w9 H9=>H9.locg λw10 H10=>?_⟩
  have H10:LH F0 w w10 (enR w6.heap.size tk st0::[.g b2,.g b6]) [enT tk l,.tree u]:=H10
  refine H10.callUF (c_need H10.rd0 hl3 (by omega) []) ?_
  have hn1:=needQ_lt hok hl3 [] (by decide)
  rintro _ w11 rfl H11 _
  generalize needQ l [] st0=st1 at he hn1 H11
  refine ⟨rfl,st1.2,H11.ld 0 2,sel_intro (λhb2=>H11.locg λw15 H15=>?_) (λhb2=>?_)⟩
  .rw [if_pos hb2] at he
   simp only [Option.some.injEq,Prod.mk.injEq] at he
   obtain ⟨rfl,rfl,rfl⟩:=he
   have hn:=tks_n (H15.getD 0:RdN _ _ _ _)
   refine ⟨tk,H15.ld 0 0,(st1.1:Int),H15.ld 0 1,by omega,by omega,tok_at (H15.getD 0) hn1 λp hp c=>⟨((tokAt l st1.1).at_:Int),?_,H15.locg λw19 H19=>⟨?_,H19.ld 0 1,H19.ld 0 0,⟨noT,rfl,rfl,no_P _,λb hb=>(no_fp' hb).elim⟩,H19.fr⟩⟩⟩
   .rw [Int.toNat_natCast];exact c.c1
   .rw [Int.toNat_natCast]
    have:=tok_at (H19.getD 0) hn1 (K:=λq=>∃q',tk.a=some q'/\q=q'/\TkCells w19 q' st1.1 (tokAt l st1.1)) (λq hq hc=>⟨q,hq,rfl,hc⟩)
    rw [hp] at this
    obtain ⟨q,hq,rfl,hc⟩:=this
    exact hc.c1
  .rw [if_neg (by rw [hb2];simp)] at he
   have pu2:u.P w11:=H11.getD 1
   have hsz':r0.sz=u.sz:=by rw [<-hu,Rt.rx_sz]
   by_cases hsz:u.sz<=1000000
   .rw [if_neg (by omega)] at he
    refine H11.callg (c_Nodes u w11 hsz pu2) ?_
    rintro _ w20 rfl H20
    refine ⟨_,rfl,sel_dec (λh64=>H20.locg λw24 H24=>?_) (λh64=>H20.locg λw24 H24=>?_)⟩
    .rw [if_pos (by omega)] at he
     simp only [Option.some.injEq,Prod.mk.injEq] at he
     obtain ⟨rfl,rfl,rfl⟩:=he
     exact ⟨⟨noT,rfl,rfl,no_P _,λb hb=>(no_fp' hb).elim⟩,H24.fr⟩
    .rw [if_neg (by omega)] at he
     simp only [Option.some.injEq,Prod.mk.injEq] at he
     obtain ⟨rfl,rfl,rfl⟩:=he
     exact ⟨⟨u,rfl,hu,H24.getD 1,λb hb=>Nat.le_trans H7.fr.size (fu b hb)⟩,H24.fr⟩
   .rw [if_pos (by omega)] at he
    cases he
theorem ba_app (a b:BL):ba a++ba b=ba (a++b):=by
 apply ByteArray.ext
 rw [ByteArray.data_append]
 simp [ba]
theorem blk_rd {w:World} {b n:Nat} {cs:List Value} {T:TypeId} (h:w.heap[b]? =some (.cells cs.toArray T (0,0))) (hn:n=cs.length):Rd w ⟨some (at0 b),n,n⟩ cs:=
 rd_in (s:=⟨some (at0 b),n,n⟩) hn (Nat.le_refl _) (λh=>by cases h) λi v hi=>⟨at0 b,rfl,cellAt (p:=at0 b) h rfl (by simpa using hi)⟩
theorem c_rlow (c:UInt8) (w:World):Calls Tryz.prog n_enthymemeref04_low #[.int .u8 (c.toNat:Int)] w λr w'=>r=.returned (.bool (loQ c))/\Fr0 w w':=by
 refine enthymemeref04_low.ok _ w _ (sel_dec (λh=>⟨?_,Fr.refl _ _⟩) (λh=>⟨?_,Fr.refl _ _⟩))
 .unfold loQ
  rw [decide_eq_true (show 97<=c.toNat by omega),Bool.true_and,show decide ((c.toNat:Int)<=122)=decide (c.toNat<=122) from decide_eq_decide.2 (by omega)]
 .unfold loQ
  rw [decide_eq_false (show ¬97<=c.toNat by omega),Bool.false_and]
theorem c_rByte (c:UInt8) (w:World):Calls Tryz.prog n_enthymemeref04_Byte #[.int .u8 (c.toNat:Int)] w λr w'=>r=.returned (.string (ba (byteTx c)))/\Fr0 w w':=by
 have hc:=c.toNat_lt
 have H:LH F0 w w [] []:=lh0 [] (by simp)
 refine enthymemeref04_Byte.ok _ w _ (H.call (c_rplain c w) ?_)
 rintro _ w1 rfl H1
 refine ⟨_,rfl,sel_intro (λhp=>?_) (λhp=>?_)⟩
 .refine H1.nwx (λw2 _ H2 hb=>?_)
  have e39:((39:UInt8).toNat:Int)=39:=rfl
  have hB:Bytes w2 ⟨some (at0 w1.heap.size),3,3⟩ [39,c,39]:=blk_rd (T:=ty_uint8) hb rfl
  have hcv:=bytes_str hB
  refine ⟨ba [39,c,39],hcv,?_,H2.fr⟩
  unfold byteTx;rw [if_pos hp]
 .have e1:IntKind.wrap .i64 (c.toNat:Int)=(c.toNat:Int):=IntWalk.i64_in _ (by omega)
  have e2:IntKind.wrap .i64 (Int.tdiv (c.toNat:Int) 16)=((c.toNat / 16:Nat):Int):=by
   rw [Int.tdiv_eq_ediv_of_nonneg (by omega),IntWalk.i64_in _ (by omega)];omega
  have e3:Int.tmod (c.toNat:Int) 16=((c.toNat%16:Nat):Int):=by
   rw [Int.tmod_eq_emod_of_nonneg (by omega)];omega
  rw [e1,e2,e3]
  refine H1.call (c_rdigit (c.toNat / 16) (by omega) w1) ?_
  rintro _ w2 rfl H2
  refine ⟨_,rfl,H2.call (c_rdigit (c.toNat%16) (by omega) w2) ?_⟩
  rintro _ w3 rfl H3
  refine ⟨_,rfl,H3.nwx (λw4 _ H4 hb=>?_)⟩
  have hB:Bytes w4 ⟨some (at0 w3.heap.size),4,4⟩ [92,120,digQ (c.toNat / 16),digQ (c.toNat%16)]:=blk_rd (T:=ty_uint8) hb rfl
  have hcv:=bytes_str hB
  refine ⟨ba [92,120,digQ (c.toNat / 16),digQ (c.toNat%16)],hcv,?_,H4.fr⟩
  unfold byteTx;rw [if_neg (by rw [hp];simp)]
def sumT (ts:List BL):Nat:=(ts.map λt=>t.length+2).sum
theorem paren_len (lv:Nat) (a:Rx) (t:BL):(parenQ lv a t).length<=t.length+2/\t.length<=(parenQ lv a t).length:=by
 unfold parenQ
 split
 .simp;omega
 .simp
theorem join_len (k:Int):∀(ts:List BL) (out:BL),(joinTx k out ts).length<=out.length+sumT ts/\out.length<=(joinTx k out ts).length
 |[],out=>by simp [joinTx,sumT]
 |t::ts,out=>by
  unfold joinTx
  have ih:=join_len k ts ((if k=3/\loQ (lastQ out)=true/\loQ (gQ t 0)=true then out++[32] else out)++signQ k++t)
  have h1:(signQ k).length<=1:=by unfold signQ;split<;>(try split)<;>simp
  have h3:k=3->(signQ k).length=0:=λh=>by unfold signQ;rw [if_pos h];rfl
  have h2:((if k=3/\loQ (lastQ out)=true/\loQ (gQ t 0)=true then out++[32] else out):BL).length<=out.length+2 - (signQ k).length/\out.length<=((if k=3/\loQ (lastQ out)=true/\loQ (gQ t 0)=true then out++[32] else out):BL).length:=by
   split
   .rename_i h
    rw [h3 h.1]
    simp
   .omega
  simp only [qlA] at ih
  have hs:sumT (t::ts)=t.length+2+sumT ts:=by simp [sumT]
  omega
mutual
theorem wr_len:∀x:Rx,(wrQ x).length+4<=18 *x.sz
 |.mk k lo hi l=>by
  have hb:∀c,(byteTx c).length<=4:=λc=>by unfold byteTx;split<;>simp
  have h3:=wrs_len 3 l
  have h4:=wrs_len 4 l
  have h0:=wrs_len 0 l
  have hn:(nameQ k).length=4:=by unfold nameQ;split<;>(try split)<;>rfl
  have hd:∀lv,(hdTx (wrsQ lv l)).length<=sumT (wrsQ lv l):=λlv=>by
   cases wrsQ lv l with
   |nil=>simp [hdTx]
   |cons t ts=>simp [hdTx,sumT];omega
  have d3:=hd 3
  have d4:=hd 4
  have d0:=hd 0
  have hlo:=hb lo
  have hhi:=hb hi
  unfold Rx.sz
  unfold wrQ
  split
  .simp;omega
  .split
   .simp;omega
   .split
    .split
     .omega
     .simp only [qlC,qlA,qlN];omega
    .split
     .simp only [qlC];omega
     .split
      .simp only [qlA,qlC,qlN];omega
      .split
       .simp only [qlA,qlC,qlN];omega
       .have hw:=wrs_len (bindsQ (.mk k lo hi l)+1) l
        cases hh:wrsQ (bindsQ (.mk k lo hi l)+1) l with
        |nil=>show 0+4<=_;omega
        |cons t ts=>
         rw [hh] at hw
         have:=(join_len k ts t).1
         simp only [sumT,List.map_cons,List.sum_cons] at hw
         simp only [sumT] at this
         show (joinTx k t ts).length+4<=_
         omega
theorem wrs_len (lv:Nat):∀l:List Rx,sumT (wrsQ lv l)<=18 *Rx.szs l
 |[]=>by simp [wrsQ,sumT]
 |a::l=>by
  have h1:=wr_len a
  have h2:=wrs_len lv l
  have h3:=(paren_len lv a (wrQ a)).1
  unfold wrsQ Rx.szs
  simp only [sumT,List.map_cons,List.sum_cons] at h2 ⊢
  omega
end
theorem okW_parts {k:Int} {lo hi:UInt8} {l:List Rx} (h:okW (.mk k lo hi l)=true):0<=k/\k<=7/\(k=6\/k=7->l.length=1)/\okWs l=true:=by
 unfold okW at h
 simp only [Bool.and_eq_true,decide_eq_true_eq,Bool.or_eq_true] at h
 exact ⟨h.1.1.1,h.1.1.2,λhk=>by omega,h.2⟩
theorem okWs_mem:∀{l:List Rx} {a:Rx},okWs l=true->a∈l->okW a=true
 |b::l,a,h,ha=>by
  unfold okWs at h
  rw [Bool.and_eq_true] at h
  rcases qmC.1 ha with rfl|ha
  .exact h.1
  .exact okWs_mem h.2 ha
theorem wr_pos:∀x:Rx,okW x=true->0<(wrQ x).length
 |.mk k lo hi l=>λh=>by
  obtain ⟨h1,h2,h3,h4⟩:=okW_parts h
  have hb:∀c,0<(byteTx c).length:=λc=>by unfold byteTx;split<;>simp
  unfold wrQ
  split
  .simp
  .split
   .simp
   .split
    .split
     .exact hb lo
     .simp
    .split
     .simp
     .split
      .simp
      .split
       .simp only [qlA,qlC];omega
       .rename_i h5
        match l,h4,h5 with
        |[],_,h5=>simp at h5
        |a::m,h4,h5=>
         have:=wr_pos a (okWs_mem h4 (by simp))
         unfold wrsQ
         show 0<(joinTx _ _ _).length
         have hj:=(join_len k (wrsQ (bindsQ (.mk k lo hi (a::m))+1) m) (parenQ (bindsQ (.mk k lo hi (a::m))+1) a (wrQ a))).2
         have hp:=(paren_len (bindsQ (.mk k lo hi (a::m))+1) a (wrQ a)).2
         omega
theorem c_rbinds (x:Rt) (w:World) (h0:0<=x.k) (h7:x.k<=7) (px:x.P w):Calls Tryz.prog n_enthymemeref04_binds #[x.v] w λr w'=>r=.returned (.i (bindsQ x.rx:Int))/\Fr0 w w':=by
 have nr:=Rt.rows_n px.parts.1
 have hl:(Rt.rxs x.l).length=x.l.length:=by rw [Rt.rxs_map,List.length_map]
 have eb:bindsQ x.rx=if x.k=6 then 3 else if x.k<3\/x.k=7\/x.l.length<2 then 4 else if x.k=3 then 2 else if x.k=4 then 0 else 1:=by
  rw [Rt.rx_parts]
  unfold bindsQ
  dsimp only
  rw [hl]
 rw [eb]
 have four:∀w',Fr0 w w'->x.k≠6->(x.k<3\/x.k=7\/x.l.length<2)->enthymemeref04_binds.S0T w' λr w'=>r=.returned (.i ((if x.k=6 then 3 else if x.k<3\/x.k=7\/x.l.length<2 then 4 else if x.k=3 then 2 else if x.k=4 then 0 else 1:Nat):Int))/\Fr0 w w':=λw' f h6 h=>⟨by rw [if_neg h6,if_pos h];rfl,f⟩
 refine enthymemeref04_binds.okT _ _ _ _ w _ ((lhT px).newg λb w1 H1=>sel_eq (λh6=>⟨by rw [if_pos h6];rfl,H1.fr⟩) (λh6=>sel_dec (λh3=>four w1 H1.fr h6 (.inl h3)) (λh3=>sel_eq (λh7'=>four w1 H1.fr h6 (.inr (.inl h7'))) (λh7'=>sel_dec (λh2=>four w1 H1.fr h6 (.inr (.inr (by omega)))) (λh2=>?_)))))
 refine H1.nw λw2 _ H2=>?_
 have hk:x.k=3\/x.k=4\/x.k=5:=by omega
 have e:(if x.k=6 then 3 else if x.k<3\/x.k=7\/x.l.length<2 then 4 else if x.k=3 then 2 else if x.k=4 then 0 else 1:Nat)=if x.k=3 then 2 else if x.k=4 then 0 else 1:=by
  rw [if_neg h6,if_neg (by omega)]
 rw [e]
 rcases hk with hk|hk|hk<;>rw [hk]
 .exact ⟨by decide,by decide,optS ⟨2,H2.ld 1 0,rfl,H2.fr⟩⟩
 .exact ⟨by decide,by decide,optS ⟨0,H2.ld 1 1,rfl,H2.fr⟩⟩
 .exact ⟨by decide,by decide,optS ⟨1,H2.ld 1 2,rfl,H2.fr⟩⟩
theorem last_at (t:BL) (h:0<t.length):gQ t (t.length - 1)=lastQ t:=by
 unfold gQ lastQ
 rw [List.getD_eq_getElem?_getD,List.getLastD_eq_getLast?,List.getLast?_eq_getElem?]
theorem szs_drop (l:List Rt) (i:Nat):Rx.szs (Rt.rxs (l.drop i))<=Rt.szs l:=by
 rw [Rt.rxs_sz]
 induction l generalizing i with
 |nil=>simp
 |cons a l ih=>
  cases i with
  |zero=>exact Nat.le_refl _
  |succ i=>have:=ih i;show _<=a.sz+Rt.szs l;exact Nat.le_trans this (by omega)
abbrev WrOk (n:Nat):Prop:=∀(x:Rt) (lv:Nat) (w:World),x.sz<=n->lv<=1000->okW x.rx=true->x.P w->Calls Tryz.prog n_enthymemeref04_Write #[x.v,.i (lv:Int)] w λr w'=>r=.returned (.string (ba (parenQ lv x.rx (wrQ x.rx))))/\Fr0 w w'
theorem c_WriteN:∀n:Nat,n<=1000000->WrOk n
 |0,_=>λx lv w h _ _ _=>absurd h (by have:=Rt.sz_pos x;omega)
 |n+1,hn=>by
  have ih:=c_WriteN n (by omega)
  have core:∀(x:Rt) (lv:Nat) (w:World),x.sz<=n+1->¬bindsQ x.rx<lv->okW x.rx=true->x.P w->Calls Tryz.prog n_enthymemeref04_Write #[x.v,.i (lv:Int)] w λr w'=>r=.returned (.string (ba (wrQ x.rx)))/\Fr0 w w':=by
   intro x lv w h hlv hok px
   have hs:=Rt.sz_parts x
   have hl:=Rt.szs_len x.l
   have nr:=Rt.rows_n px.parts.1
   have hok':=hok
   rw [Rt.rx_parts] at hok'
   obtain ⟨k0,k7,hone,hks⟩:=okW_parts hok'
   have hll:(Rt.rxs x.l).length=x.l.length:=by rw [Rt.rxs_map,List.length_map]
   rw [hll] at hone
   have hkid:∀a∈x.l,okW a.rx=true:=λa ha=>okWs_mem hks (by rw [Rt.rxs_map];exact List.mem_map.2 ⟨a,ha,rfl⟩)
   have hbl:∀a:Rt,a.sz<=1000000->(wrQ a.rx).length<=18000000:=λa ha=>by have:=wr_len a.rx;rw [Rt.rx_sz] at this;omega
   have hpl:∀(a:Rt) (lv:Nat),a.sz<=1000000->(parenQ lv a.rx (wrQ a.rx)).length<=18000002:=λa lv ha=>by have h1:=hbl a ha;have:=(paren_len lv a.rx (wrQ a.rx)).1;omega
   have hbt:∀c,(byteTx c).length<=4:=λc=>by unfold byteTx;split<;>simp
   let R:Post:=λr w'=>r=.returned (.string (ba (wrQ x.rx)))/\Fr0 w w'
   have one:∀(a:Rt) (lv':Nat) (w1:World) (b2:Nat) (K:ByteArray->World->Prop),lv'<=1000->a∈x.l->LH F0 w w1 [.g b2] [.tree x]->(∀w2,LH F0 w w2 [.g b2] [.tree x]->K (ba (parenQ lv' a.rx (wrQ a.rx))) w2)->cf15 [b2] n_enthymemeref04_Write #[.agg #[.i a.k,.int .u8 (a.lo.toNat:Int),.int .u8 (a.hi.toNat:Int),a.s.v],.i (lv':Int)] w1 K:=by
    intro a lv' w1 b2 K hlv' ha H1 hK
    have sza:=Rt.szs_mem ha
    refine H1.callg (ih a lv' w1 (by omega) hlv' (hkid a ha) ((show x.P w1 from H1.getD 0).parts.2.mem ha)) ?_
    rintro _ w2 rfl H2
    exact ⟨_,rfl,hK w2 H2⟩
   refine enthymemeref04_Write.okT _ _ _ _ _ w _ ((lhT px).newg λb2 w1 H1=>?_)
   have H1:LH F0 w w1 [.g b2] [.tree x]:=H1
   refine H1.callg (c_rbinds x w1 k0 k7 (H1.getD 0)) ?_
   rintro _ w2 rfl H2
   have ewr:wrQ x.rx=wrQ (.mk x.k x.lo x.hi (Rt.rxs x.l)):=by rw [Rt.rx_parts]
   refine ⟨_,rfl,sel_false (decide_eq_false (by omega)) (sel_eq (λhk=>⟨?_,H2.fr⟩) (λhk0=>sel_eq (λhk=>⟨?_,H2.fr⟩) (λhk1=>sel_eq (λhk2=>?_) (λhk2=>sel_eq (λhk6=>?_) (λhk6=>sel_eq (λhk7=>?_) (λhk7=>sel_dec (λhl2=>?_) (λhl2=>?_)))))))⟩
   .rw [ewr];unfold wrQ;rw [if_pos hk];rfl
   .rw [ewr];unfold wrQ;rw [if_neg hk0,if_pos hk];rfl
   .have e2:wrQ x.rx=if x.lo=x.hi then byteTx x.lo else 91::(byteTx x.lo++45::(byteTx x.hi++[93])):=by
     rw [ewr];unfold wrQ;rw [if_neg hk0,if_neg hk1,if_pos hk2]
    refine sel_eq (λhlh=>H2.callg (c_rByte x.lo w2) ?_) (λhlh=>H2.locg λw5 H5=>H5.callg (c_rByte x.lo w5) ?_)
    .rintro _ w3 rfl H3
     exact ⟨_,rfl,by rw [e2,if_pos (UInt8.toNat_inj.1 (by omega))],H3.fr⟩
    .rintro _ w6 rfl H6
     have h1:=hbt x.lo
     have h2:=hbt x.hi
     have s0:ByteArray.mk #[91]++ba (byteTx x.lo)++ByteArray.mk #[45]=ba (91::byteTx x.lo++[45]):=by
      show ba [91]++ba (byteTx x.lo)++ba [45]=_
      rw [ba_app,ba_app];rfl
     refine ⟨_,rfl,?_,?_,H6.callg (c_rByte x.hi w6) ?_⟩
     .rw [ba_size];show ¬(((1+_:Nat):Int)>9223372036854775807);omega
     .have:(ByteArray.mk #[91]++ba (byteTx x.lo)).size=1+(byteTx x.lo).length:=by
       show (ba [91]++_).size=_
       rw [ba_app,ba_size];simp;omega
      rw [this];show ¬(((_+1:Nat):Int)>9223372036854775807);omega
     rintro _ w7 rfl H7
     rw [s0]
     have:ba (91::byteTx x.lo++[45]++byteTx x.hi)++ByteArray.mk #[93]=ba (91::byteTx x.lo++[45]++byteTx x.hi++[93]):=by
      show _++ba [93]=_
      rw [ba_app]
     refine ⟨_,rfl,?_,?_,?_,H7.fr⟩
     .rw [ba_size,ba_size];simp only [qlA,qlC,qlN];show ¬(((_:Nat):Int)>9223372036854775807);omega
     .rw [ba_app,ba_size];simp only [qlA,qlC,qlN];show ¬(((_+1:Nat):Int)>9223372036854775807);omega
     .rw [ba_app,this,e2,if_neg (λh=>hlh (by rw [h]))]
      simp
   .have h1:=hone (.inl hk6)
    have e6:wrQ x.rx=33::hdTx (wrsQ 3 (Rt.rxs x.l)):=by
     rw [ewr];unfold wrQ;rw [if_neg hk0,if_neg hk1,if_neg hk2,if_pos hk6]
    match hxl:x.l,h1 with
    |[a],_=>
     have ha:a∈x.l:=by rw [hxl];simp
     have sza:=Rt.szs_mem ha
     refine part_el (show x.P w2 from H2.getD 0) (k:=0) rfl (by rw [hxl];rfl) (one a 3 w2 b2 _ (by omega) ha H2 λw3 H3=>⟨?_,?_,H3.fr⟩)
     .have:=hpl a 3 (by omega)
      rw [ba_size];show ¬(((1+_:Nat):Int)>9223372036854775807);omega
     .have:ByteArray.mk #[33]++ba (parenQ 3 a.rx (wrQ a.rx))=ba (33::parenQ 3 a.rx (wrQ a.rx)):=by
       show ba [33]++_=_
       rw [ba_app];rfl
      rw [this,e6,hxl]
      rfl
   .have h1:=hone (.inr hk7)
    have e7:wrQ x.rx=hdTx (wrsQ 4 (Rt.rxs x.l))++[42]:=by
     rw [ewr];unfold wrQ;rw [if_neg hk0,if_neg hk1,if_neg hk2,if_neg hk6,if_pos hk7]
    match hxl:x.l,h1 with
    |[a],_=>
     have ha:a∈x.l:=by rw [hxl];simp
     have sza:=Rt.szs_mem ha
     refine part_el (show x.P w2 from H2.getD 0) (k:=0) rfl (by rw [hxl];rfl) (one a 4 w2 b2 _ (by omega) ha H2 λw3 H3=>⟨?_,?_,H3.fr⟩)
     .have:=hpl a 4 (by omega)
      rw [ba_size];show ¬(((_+1:Nat):Int)>9223372036854775807);omega
     .have:ba (parenQ 4 a.rx (wrQ a.rx))++ByteArray.mk #[42]=ba (parenQ 4 a.rx (wrQ a.rx)++[42]):=by
       show _++ba [42]=_
       rw [ba_app]
      rw [this,e7,hxl]
      rfl
   .
    have hk:x.k=3\/x.k=4\/x.k=5:=by omega
    have ef:wrQ x.rx=nameQ x.k++(hdTx (wrsQ 0 (Rt.rxs x.l))++[41]):=by
     rw [ewr];unfold wrQ;rw [if_neg hk0,if_neg hk1,if_neg hk2,if_neg hk6,if_neg hk7,if_pos (by rw [hll];omega)]
    have fin:∀(t:BL) (w3:World),t.length<=18000002->hdTx (wrsQ 0 (Rt.rxs x.l))=t->LH F0 w w3 [.g b2] [.tree x]->enthymemeref04_Write.S0T b2 x.k x.lo.toNat x.hi.toNat x.s (ba t) w3 R:=by
     intro t w3 ht he H3
     refine H3.nw λw4 _ H4=>?_
     have key:∀(u:BL),u.length=4->nameQ x.k=u->¬((((ba u).size+(ba t).size:Nat):Int)>IntKind.i64.max)/\¬((((ba u++ba t).size+(ByteArray.mk #[41]).size:Nat):Int)>IntKind.i64.max)/\R (.returned (.string ((ba u++ba t)++(ByteArray.mk #[41])))) w4:=by
      intro u hu hn
      refine ⟨?_,?_,?_,H4.fr⟩
      .rw [ba_size,ba_size];show ¬(((_:Nat):Int)>9223372036854775807);omega
      .rw [ba_app,ba_size];simp only [qlA];show ¬(((_+1:Nat):Int)>9223372036854775807);omega
      .have:ba u++ba t++ByteArray.mk #[41]=ba (u++(t++[41])):=by
        show _++_++ba [41]=_
        rw [ba_app,ba_app];simp
       rw [this,ef,hn,he]
     rcases hk with hk|hk|hk<;>rw [hk]
     .exact ⟨by decide,by decide,optS ⟨ba [99,97,116,40],H4.ld 1 0,key _ rfl (by rw [hk];rfl)⟩⟩
     .exact ⟨by decide,by decide,optS ⟨ba [97,108,116,40],H4.ld 1 1,key _ rfl (by rw [hk];rfl)⟩⟩
     .exact ⟨by decide,by decide,optS ⟨ba [97,108,108,40],H4.ld 1 2,key _ rfl (by rw [hk];rfl)⟩⟩
    refine sel_eq (λh1=>?_) (λh1=>?_)
    .match hxl:x.l with
     |[]=>rw [hxl] at nr;simp at nr;omega
     |_::_::_=>rw [hxl] at nr;simp at nr;omega
     |[a]=>
      have ha:a∈x.l:=by rw [hxl];simp
      have sza:=Rt.szs_mem ha
      refine part_el (show x.P w2 from H2.getD 0) (k:=0) rfl (by rw [hxl];rfl) (one a 0 w2 b2 _ (by omega) ha H2 λw3 H3=>?_)
      exact fin _ w3 (hpl a 0 (by omega)) (by rw [hxl];rfl) H3
    .have:x.l=[]:=List.length_eq_zero_iff.1 (by omega)
     exact fin [] w2 (by simp) (by rw [this];rfl) H2
   .
    have hk:x.k=3\/x.k=4\/x.k=5:=by omega
    match hxl:x.l with
    |[]=>rw [hxl] at nr;simp at nr;omega
    |a::m=>
    have ha:a∈x.l:=by rw [hxl];simp
    have sza:=Rt.szs_mem ha
    have sgl:(signQ x.k).length<=1:=by unfold signQ;split<;>(try split)<;>simp
    have ef:wrQ x.rx=joinTx x.k (parenQ (bindsQ x.rx+1) a.rx (wrQ a.rx)) (wrsQ (bindsQ x.rx+1) (Rt.rxs (x.l.drop 1))):=by
     have e1:wrQ x.rx=jnTx x.k (wrsQ (bindsQ x.rx+1) (Rt.rxs x.l)):=by
      conv=>lhs;rw [ewr];unfold wrQ;rw [if_neg hk0,if_neg hk1,if_neg hk2,if_neg hk6,if_neg hk7,if_neg (by rw [hll];omega)]
      rw [<-Rt.rx_parts]
     rw [e1,hxl]
     rfl
    have hbq:bindsQ x.rx<=4:=by
     rw [Rt.rx_parts];unfold bindsQ;dsimp only;repeat (first |omega|split)
    have loop:∀(d i:Nat) (out:BL) (w3:World),i+d=x.l.length->1<=i->0<out.length->out.length+sumT (wrsQ (bindsQ x.rx+1) (Rt.rxs (x.l.drop i)))<=40000000->wrQ x.rx=joinTx x.k out (wrsQ (bindsQ x.rx+1) (Rt.rxs (x.l.drop i)))->LH F0 w w3 [.g b2] [.tree x]->
      enthymemeref04_Write.L1T b2 x.k x.lo.toNat x.hi.toNat x.s (ba (signQ x.k)) (bindsQ x.rx:Int) (ba out) (i:Int) w3 R:=by
     intro d
     induction d with
     |zero=>
      intro i out w3 hi h1 hout hsum he H3
      refine enthymemeref04_Write.L1T_step _ _ _ _ _ _ _ _ _ _ _ (sel_false (decide_eq_false (by omega)) ⟨?_,H3.fr⟩)
      rw [he,List.drop_of_length_le (by omega)]
      rfl
     |succ d ihd=>
      intro i out w3 hi h1 hout hsum he H3
      have hg:x.l[i]? =some (x.l[i]'(by omega)):=qgE (by omega)
      have hdr:x.l.drop i=(x.l[i]'(by omega))::x.l.drop (i+1):=List.drop_eq_getElem_cons (by omega)
      generalize x.l[i]'(by omega)=c at hg hdr
      have hc:=qmG hg
      have szc:=Rt.szs_mem hc
      rw [hdr] at he hsum
      have hsum:out.length+((parenQ (bindsQ x.rx+1) c.rx (wrQ c.rx)).length+2+sumT (wrsQ (bindsQ x.rx+1) (Rt.rxs (x.l.drop (i+1)))))<=40000000:=by
       have:sumT (wrsQ (bindsQ x.rx+1) (Rt.rxs (c::x.l.drop (i+1))))=(parenQ (bindsQ x.rx+1) c.rx (wrQ c.rx)).length+2+sumT (wrsQ (bindsQ x.rx+1) (Rt.rxs (x.l.drop (i+1)))):=by
        simp [Rt.rxs,wrsQ,sumT]
       omega
      have he:wrQ x.rx=joinTx x.k ((if x.k=3/\loQ (lastQ out)=true/\loQ (gQ (parenQ (bindsQ x.rx+1) c.rx (wrQ c.rx)) 0)=true then out++[32] else out)++signQ x.k++parenQ (bindsQ x.rx+1) c.rx (wrQ c.rx)) (wrsQ (bindsQ x.rx+1) (Rt.rxs (x.l.drop (i+1)))):=by
       rw [he];rfl
      have hcp:0<(parenQ (bindsQ x.rx+1) c.rx (wrQ c.rx)).length:=by
       have h1:=wr_pos c.rx (hkid c hc)
       have:=(paren_len (bindsQ x.rx+1) c.rx (wrQ c.rx)).2
       omega
      have eb1:IntKind.wrap .i64 ((bindsQ x.rx:Int)+1)=((bindsQ x.rx+1:Nat):Int):=i64_next _ (by omega)
      refine enthymemeref04_Write.L1T_step _ _ _ _ _ _ _ _ _ _ _ (sel_true (decide_eq_true (by omega)) (part_el (show x.P w3 from H3.getD 0) rfl hg ?_))
      rw [eb1]
      refine one c (bindsQ x.rx+1) w3 b2 _ (by omega) hc H3 λw4 H4=>?_
      generalize parenQ (bindsQ x.rx+1) c.rx (wrQ c.rx)=t at he hsum hcp
      have go:∀(o:BL) (w5:World),o.length<=out.length+1->out.length<=o.length->o.length+(signQ x.k).length<=out.length+1->wrQ x.rx=joinTx x.k (o++signQ x.k++t) (wrsQ (bindsQ x.rx+1) (Rt.rxs (x.l.drop (i+1))))->LH F0 w w5 [.g b2] [.tree x]->
        enthymemeref04_Write.S2T b2 x.k x.lo.toNat x.hi.toNat x.s (ba (signQ x.k)) (bindsQ x.rx:Int) (ba o) (i:Int) (ba t) w5 R:=by
       intro o w5 ho1 ho2 ho3 heo H5
       refine ⟨?_,?_,?_⟩
       .rw [ba_size,ba_size];show ¬(((_:Nat):Int)>9223372036854775807);omega
       .rw [ba_app,ba_size,ba_size];simp only [qlA];show ¬(((_:Nat):Int)>9223372036854775807);omega
       .show enthymemeref04_Write.L1T _ _ _ _ _ _ _ _ _ _ _
        rw [ba_app,ba_app,i64_next _ (by omega)]
        refine ihd (i+1) (o++signQ x.k++t) w5 (by omega) (by omega) (by simp only [qlA];omega) (by simp only [qlA];omega) heo H5
      have plainGo:∀w5,LH F0 w w5 [.g b2] [.tree x]->¬(x.k=3/\loQ (lastQ out)=true/\loQ (gQ t 0)=true)->enthymemeref04_Write.S2T b2 x.k x.lo.toNat x.hi.toNat x.s (ba (signQ x.k)) (bindsQ x.rx:Int) (ba out) (i:Int) (ba t) w5 R:=λw5 H5 h=>go out w5 (by omega) (by omega) (by omega) (by rw [if_neg h] at he;exact he) H5
      have eo:IntKind.wrap .i64 ((((ba out).size:Nat):Int) - 1)=((out.length - 1:Nat):Int):=by rw [ba_size,IntWalk.i64_in _ (by omega)];omega
      rw [eo]
      refine sel_eq (λhk3=>⟨by omega,lastQ out,?_,H4.callg (c_rlow (lastQ out) w4) ?_⟩) (λhk3=>plainGo w4 H4 (λh=>hk3 h.1))
      .rw [Int.toNat_natCast,sb_at (s:=ba out) (by rw [ba_size];omega),bl_ba,last_at out hout]
      rintro _ w5 rfl H5
      refine ⟨_,rfl,sel_intro (λhlo=>⟨by omega,gQ t 0,?_,H5.callg (c_rlow (gQ t 0) w5) ?_⟩) (λhlo=>plainGo w5 H5 (λh=>by rw [h.2.1] at hlo;cases hlo))⟩
      .rw [show Int.toNat 0=0 from rfl,sb_at (s:=ba t) (by rw [ba_size];omega),bl_ba]
      rintro _ w6 rfl H6
      have s3:(signQ x.k).length=0:=by unfold signQ;rw [if_pos hk3];rfl
      refine ⟨_,rfl,sel_intro (λhlt=>⟨?_,?_⟩) (λhlt=>plainGo w6 H6 (λh=>by rw [h.2.2] at hlt;cases hlt))⟩
      .rw [ba_size];show ¬(((_+1:Nat):Int)>9223372036854775807);omega
      .have e32:ba out++ByteArray.mk #[32]=ba (out++[32]):=by
        show _++ba [32]=_
        rw [ba_app]
       rw [e32]
       refine go (out++[32]) w6 (by simp) (by simp) (by simp;omega) ?_ H6
       rw [if_pos ⟨hk3,hlo,hlt⟩] at he
       exact he
    refine H2.nw λw11 _ H11=>?_
    have H11':LH F0 w w11 [.g b2] [.tree x]:=H11.take 1
    have rest:∀(u:BL),signQ x.k=u->cf1 [b2] n_enthymemeref04_binds #[.agg #[.i x.k,.int .u8 (x.lo.toNat:Int),.int .u8 (x.hi.toNat:Int),x.s.v]] w11 λt90 w12=>(0:Int)<=0/\0<((x.s.n:Nat):Int)/\optP x.s.a λt93_p=>ld4_0 w12 (t93_p.add (Int.toNat 0 *4)) λt94_0 t94_1 t94_2 t94_3=>cf15 [b2] n_enthymemeref04_Write #[.agg #[.i t94_0,.int .u8 t94_1,.int .u8 t94_2,t94_3.v],.i (IntKind.wrap .i64 (t90+1))] w12 λt97 w13=>enthymemeref04_Write.L1T b2 x.k x.lo.toNat x.hi.toNat x.s (ba u) t90 t97 1 w13 R:=by
     intro u hu
     refine H11'.callg (c_rbinds x w11 k0 k7 (H11'.getD 0)) ?_
     rintro _ w12 rfl H12
     refine ⟨_,rfl,part_el (show x.P w12 from H12.getD 0) (k:=0) rfl (by rw [hxl];rfl) ?_⟩
     have eb1:IntKind.wrap .i64 ((bindsQ x.rx:Int)+1)=((bindsQ x.rx+1:Nat):Int):=i64_next _ (by omega)
     rw [eb1]
     refine one a (bindsQ x.rx+1) w12 b2 _ (by omega) ha H12 λw13 H13=>?_
     rw [<-hu]
     refine loop (x.l.length - 1) 1 _ w13 (by omega) (by omega) ?_ ?_ ef H13
     .have h1:=wr_pos a.rx (hkid a ha)
      have:=(paren_len (bindsQ x.rx+1) a.rx (wrQ a.rx)).2
      omega
     .have h1:=hpl a (bindsQ x.rx+1) (by omega)
      have h2:=wrs_len (bindsQ x.rx+1) (Rt.rxs (x.l.drop 1))
      have h3:=szs_drop x.l 1
      omega
    rcases hk with hk|hk|hk
    .exact ⟨by rw [hk];decide,by rw [hk];decide,optS ⟨ba [],by rw [hk];exact H11.ld 1 0,rest _ (by rw [hk];rfl)⟩⟩
    .exact ⟨by rw [hk];decide,by rw [hk];decide,optS ⟨ba [124],by rw [hk];exact H11.ld 1 1,rest _ (by rw [hk];rfl)⟩⟩
    .exact ⟨by rw [hk];decide,by rw [hk];decide,optS ⟨ba [38],by rw [hk];exact H11.ld 1 2,rest _ (by rw [hk];rfl)⟩⟩
  intro x lv w h hlv hok px
  by_cases hb:bindsQ x.rx<lv
  .have hok':=hok
   rw [Rt.rx_parts] at hok'
   obtain ⟨k0,k7,_,_⟩:=okW_parts hok'
   refine enthymemeref04_Write.okT _ _ _ _ _ w _ ((lhT px).newg λb2 w1 H1=>H1.callg (c_rbinds x w1 k0 k7 (H1.getD 0)) ?_)
   rintro _ w2 rfl H2
   refine ⟨_,rfl,sel_true (decide_eq_true (by omega)) (H2.callg (core x 0 w2 h (by omega) hok (H2.getD 0)) ?_)⟩
   rintro _ w3 rfl H3
   have hln:(wrQ x.rx).length<=18000000:=by have:=wr_len x.rx;rw [Rt.rx_sz] at this;omega
   have e:ByteArray.mk #[40]++ba (wrQ x.rx)++ByteArray.mk #[41]=ba (40::(wrQ x.rx++[41])):=by
    show ba [40]++ba (wrQ x.rx)++ba [41]=_
    rw [ba_app,ba_app];simp
   refine ⟨_,rfl,?_,?_,?_,H3.fr⟩
   .rw [ba_size];show ¬(((1+_:Nat):Int)>9223372036854775807);omega
   .have:(ByteArray.mk #[40]++ba (wrQ x.rx)).size=1+(wrQ x.rx).length:=by
     show (ba [40]++_).size=_
     rw [ba_app,ba_size];simp;omega
    rw [this];show ¬(((_+1:Nat):Int)>9223372036854775807);omega
   .rw [e];unfold parenQ;rw [if_pos hb]
  .have:=core x lv w h hb hok px
   have e:parenQ lv x.rx (wrQ x.rx)=wrQ x.rx:=by unfold parenQ;rw [if_neg hb]
   rw [e]
   exact this
theorem c_Write (x:Rt) (lv:Nat) (w:World) (h:x.sz<=1000000) (hlv:lv<=1000) (hok:okW x.rx=true) (px:x.P w):Calls Tryz.prog n_enthymemeref04_Write #[x.v,.i (lv:Int)] w λr w'=>r=.returned (.string (ba (parenQ lv x.rx (wrQ x.rx))))/\Fr0 w w':=c_WriteN 1000000 (Nat.le_refl _) x lv w h hlv hok px
theorem parse_sz {s:BL} {x:Rx} {a:Nat} {e:Int} (h:parseQ s=some (x,a,e)):x.sz<=1000000:=by
 unfold parseQ at h
 split at h
 .simp only [Option.some.injEq,Prod.mk.injEq] at h
  rw [<-h.1];decide
 .dsimp only at h
  split at h
  .split at h
   .simp only [Option.some.injEq,Prod.mk.injEq] at h
    rw [<-h.1];decide
   .split at h
    .cases h
    .split at h
     .simp only [Option.some.injEq,Prod.mk.injEq] at h
      rw [<-h.1];decide
     .simp only [Option.some.injEq,Prod.mk.injEq] at h
      rw [<-h.1];omega
  .cases h
theorem c_Canonical (s:ByteArray) (hs:s.size<=100000) (b:Bool) (hc:canQ (bl s)=some b) (w:World):Calls Tryz.prog n_enthymemeref04_Canonical #[.string s] w λr w'=>r=.returned (.bool b)/\Fr0 w w':=by
 unfold canQ at hc
 cases hp:parseQ (bl s) with
 |none=>rw [hp] at hc;cases hc
 |some y=>
  obtain ⟨x,a,e⟩:=y
  rw [hp] at hc
  dsimp only at hc
  have hsz:=parse_sz hp
  have H:LH F0 w w [] []:=lh0 [] (by simp)
  refine enthymemeref04_Canonical.okT _ w _ (H.callq (c_rParse s hs x a e hp w) ?_)
  rintro _ w1 ⟨t,rfl,ht,pt,ft⟩ _ F1
  have H1:=F1.rd (.tree t) pt λb hb=>ft b (mem_nub.1 hb)
  have szt:t.sz<=1000000:=by rw [<-Rt.rx_sz,ht];exact hsz
  refine ⟨_,_,_,t.s,_,_,rfl,H1.newg λb3 w2 H2=>sel_ne (λhe=>H2.locg λw3 H3=>⟨?_,H3.fr⟩) (λhe=>H2.locg λw3 H3=>?_)⟩
  .rw [if_neg he] at hc
   cases hc;rfl
  rw [if_pos he] at hc
  refine callF0 ((c_refNormal t w3 szt (H3.getD 0)).mono ?_)
  rintro _ w4 ⟨⟨u,rfl,hu,pu,fu⟩,f4⟩
  have H4:=H3.addD (.tree u) f4 pu λb hb=>(fu b (mem_nub.1 hb)).imp id λhb=>.inr ⟨_,qmG (i:=0) rfl,mem_nub.2 hb⟩
  rw [ht] at hu
  refine ⟨f4,_,_,_,u.s,_,rfl,H4.newg λb6 w5 H5=>?_⟩
  rw [ht]
  refine sel_eq (λhn=>H5.locg λw6 H6=>?_) (λhn=>H5.locg λw6 H6=>⟨?_,H6.fr⟩)
  .rw [if_pos hn] at hc
   split at hc
   .rename_i hok
    rw [<-hu] at hok hc
    refine H6.callg (c_Write u 0 w6 (by rw [<-Rt.rx_sz];omega) (by omega) hok.1 (H6.getD 1)) ?_
    rintro _ w7 rfl H7
    refine ⟨_,rfl,?_,H7.fr⟩
    cases hc
    congr 2
    have:=ba_eq (parenQ 0 u.rx (wrQ u.rx)) (bl s)
    rw [ba_bl] at this
    exact this
   .cases hc
  .rw [if_neg hn] at hc
   cases hc;rfl
set_option maxRecDepth 100000
set_option maxHeartbeats 2000000
theorem wpSub {P:Program} {n:Cx} {c:Code} {Q:Exit->Act->World->Prop} {E E':Env} {w:World} (h:∀t v,E'.get? t=some v->E.get? t=some v) (hw:WP P n c Q E' w):WP P n c Q E w:=λa ha=>hw a ⟨ha.defers,ha.size,λt v ht=>ha.get t v (h t v ht)⟩
theorem sub2 {E:Env} {i j:Nat} {a b:Value} (h1:E.get? i=some a) (h2:E.get? j=some b):∀t v,Env.get? [(i,a),(j,b)] t=some v->E.get? t=some v:=by
 intro t v h
 unfold Env.get? at h
 cases hi:Nat.beq i t with
 |true=>
  rw [hi] at h
  have:=Nat.eq_of_beq_eq_true hi
  subst this
  rw [h1];exact h
 |false=>
  rw [hi] at h
  have h:Env.get? [(j,b)] t=some v:=h
  unfold Env.get? at h
  cases hj:Nat.beq j t with
  |true=>
   rw [hj] at h
   have:=Nat.eq_of_beq_eq_true hj
   subst this
   rw [h2];exact h
  |false=>rw [hj] at h;cases h
namespace enthymemeref04_TextI
abbrev T9 (s:Sl) (k:Int) (w:World) (R:Post):Prop:=
 (0:Int)<=(Int.tmod (IntKind.wrap .i64 (Int.tdiv k 216)) 8)/\(Int.tmod (IntKind.wrap .i64 (Int.tdiv k 216)) 8)<((s.n:Nat):Int)/\optP s.a λp=>ld4_0 w (p.add (Int.toNat (Int.tmod (IntKind.wrap .i64 (Int.tdiv k 216)) 8) *4)) λa b c d=>ca2 n_enthymemeref04_simple #[.agg #[.i a,.int .u8 b,.int .u8 c,d.v]] w λe f g i w1=>ca15 n_enthymemeref04_Write #[.agg #[.i e,.int .u8 f,.int .u8 g,i.v],.i 0] w1 λt w2=>R (.returned (.string t)) w2
def K9 (R:Post) (E:Env) (w:World):Prop:=∃(s:Sl) (k:Int),E.get? 9=some s.v/\E.get? 3=some (.i k)/\T9 s k w R
noncomputable def C0:Code:=(Tryz.f59.body).getD .skip
noncomputable def C1:=C0.sn
noncomputable def C2:=C1.sn
noncomputable def C3:=C2.sn
noncomputable def C4:=C3.sn
noncomputable def C5:=C4.sn
noncomputable def C6:=C5.sn
noncomputable def C7:=C6.sn
noncomputable def C8:=C7.sn
noncomputable def C9:=C8.sn
theorem ok (n0:Int) (w:World) (R:Post) (h:ca1 n_enthymemeref01_Around #[.i n0,.i 1048576] w λt11 w1=>ca2 n_enthymemeref04_Everything #[] w1 λt17_0 t17_1 t17_2 t17_3 w2=>nwV w2 (.cells #[.i 2,.int .u8 97,.int .u8 97,.slice none 0 0,.i 2,.int .u8 98,.int .u8 98,.slice none 0 0,.i 2,.int .u8 0,.int .u8 0,.slice none 0 0,.i 2,.int .u8 97,.int .u8 98,.slice none 0 0,.i 1,.int .u8 0,.int .u8 0,.slice none 0 0,.i t17_0,.int .u8 t17_1,.int .u8 t17_2,t17_3.v] ty_enthymemeref04_Regex) λw3=>
 (0:Int)<=(Int.tmod t11 6)/\(Int.tmod t11 6)<((6:Nat):Int)/\optP (some (nb w2)) λt22_p=>ld4_0 w3 (t22_p.add (Int.toNat (Int.tmod t11 6) *4)) λt23_0 t23_1 t23_2 t23_3=>nwV w3 (.cells #[.i 0,.int .u8 0,.int .u8 0,.slice none 0 0] ty_enthymemeref04_Regex) λw4=>
 stW4 w4 (nb w3) (.i t23_0) (.int .u8 t23_1) (.int .u8 t23_2) (t23_3.v) λw8=>(0:Int)<=(Int.tmod (IntKind.wrap .i64 (Int.tdiv t11 6)) 6)/\(Int.tmod (IntKind.wrap .i64 (Int.tdiv t11 6)) 6)<((6:Nat):Int)/\optP (some (nb w2)) λt28_p=>ld4_0 w8 (t28_p.add (Int.toNat (Int.tmod (IntKind.wrap .i64 (Int.tdiv t11 6)) 6) *4)) λt29_0 t29_1 t29_2 t29_3=>nwV w8 (.cells #[.i 0,.int .u8 0,.int .u8 0,.slice none 0 0] ty_enthymemeref04_Regex) λw9=>
 stW4 w9 (nb w8) (.i t29_0) (.int .u8 t29_1) (.int .u8 t29_2) (t29_3.v) λw13=>(0:Int)<=(Int.tmod (IntKind.wrap .i64 (Int.tdiv t11 36)) 6)/\(Int.tmod (IntKind.wrap .i64 (Int.tdiv t11 36)) 6)<((6:Nat):Int)/\optP (some (nb w2)) λt34_p=>ld4_0 w13 (t34_p.add (Int.toNat (Int.tmod (IntKind.wrap .i64 (Int.tdiv t11 36)) 6) *4)) λt35_0 t35_1 t35_2 t35_3=>nwV w13 (.cells #[.i 0,.int .u8 0,.int .u8 0,.slice none 0 0] ty_enthymemeref04_Regex) λw14=>
 stW4 w14 (nb w13) (.i t35_0) (.int .u8 t35_1) (.int .u8 t35_2) (t35_3.v) λw18=>ld4_0 w18 (nb w3) λt36_0 t36_1 t36_2 t36_3=>nwV w18 (.cells #[.i t36_0,.int .u8 t36_1,.int .u8 t36_2,t36_3.v] ty_enthymemeref04_Regex) λw19=>
 nwV w19 (.cells #[.i 0,.int .u8 0,.int .u8 0,.slice none 0 0] ty_enthymemeref04_Regex) λw20=>
 stW4 w20 (nb w19) (.i 7) (.int .u8 0) (.int .u8 0) (.slice (some (nb w18)) 1 1) λw24=>siK Tryz.prog C7 (K9 R) [(8,.pointer (some (nb w19))),(38,.agg #[.i 7,.int .u8 0,.int .u8 0,.slice (some (nb w18)) 1 1]),(37,.slice (some (nb w18)) 1 1),(36,.agg #[.i t36_0,.int .u8 t36_1,.int .u8 t36_2,t36_3.v]),(7,.pointer (some (nb w13))),(35,.agg #[.i t35_0,.int .u8 t35_1,.int .u8 t35_2,t35_3.v]),(34,.pointer (some (t34_p.add (Int.toNat (Int.tmod (IntKind.wrap .i64 (Int.tdiv t11 36)) 6) *4)))),(33,.i (Int.tmod (IntKind.wrap .i64 (Int.tdiv t11 36)) 6)),(32,.i (IntKind.wrap .i64 (Int.tdiv t11 36))),(31,.i t11),(30,.slice (some (nb w2)) 6 6),(6,.pointer (some (nb w8))),(29,.agg #[.i t29_0,.int .u8 t29_1,.int .u8 t29_2,t29_3.v]),(28,.pointer (some (t28_p.add (Int.toNat (Int.tmod (IntKind.wrap .i64 (Int.tdiv t11 6)) 6) *4)))),(27,.i (Int.tmod (IntKind.wrap .i64 (Int.tdiv t11 6)) 6)),(26,.i (IntKind.wrap .i64 (Int.tdiv t11 6))),(25,.i t11),(24,.slice (some (nb w2)) 6 6),(5,.pointer (some (nb w3))),(23,.agg #[.i t23_0,.int .u8 t23_1,.int .u8 t23_2,t23_3.v]),(22,.pointer (some (t22_p.add (Int.toNat (Int.tmod t11 6) *4)))),(21,.i (Int.tmod t11 6)),(20,.i t11),(19,.slice (some (nb w2)) 6 6),(4,.slice (some (nb w2)) 6 6),(18,.slice (some (nb w2)) 6 6),(17,.agg #[.i t17_0,.int .u8 t17_1,.int .u8 t17_2,t17_3.v]),(16,.agg #[.i 1,.int .u8 0,.int .u8 0,.slice none 0 0]),(15,.agg #[.i 2,.int .u8 97,.int .u8 98,.slice none 0 0]),(14,.agg #[.i 2,.int .u8 0,.int .u8 0,.slice none 0 0]),(13,.agg #[.i 2,.int .u8 98,.int .u8 98,.slice none 0 0]),(12,.agg #[.i 2,.int .u8 97,.int .u8 97,.slice none 0 0]),(3,.i t11),(11,.i t11),(10,.i n0),(2,.s0),(0,.i n0)] w24):Calls Tryz.prog n_enthymemeref04_Text #[.i n0] w R:=
 calls_of_WP' (R:=R) (fn:=Tryz.f59) (c:=C0) (args:=[.i n0]) (by kernel_rfl) (by kernel_rfl) (by kernel_rfl) (sr C0 (show (λ(E:Env) (w:World)=>srK Tryz.prog C0 (λE w=>srK Tryz.prog C1 (λE w=>srK Tryz.prog C2 (λE w=>srK Tryz.prog C3 (λE w=>srK Tryz.prog C4 (λE w=>srK Tryz.prog C5 (λE w=>srK Tryz.prog C6 (λE w=>siK Tryz.prog C7 (K9 R) E w) E w) E w) E w) E w) E w) E w) E w) (envOf 0 [.i n0]) w from mp h) λ_ _ hK=>(sr C1 hK λ_ _ hK=>(sr C2 hK λ_ _ hK=>(sr C3 hK λ_ _ hK=>(sr C4 hK λ_ _ hK=>(sr C5 hK λ_ _ hK=>(sr C6 hK λ_ _ hK=>(si C7 (by kernel_rfl) hK λ_ _ hK=>(let ⟨s,k,h9,h3,h⟩:=hK;wpSub (E':=[(9,s.v),(3,.i k)]) (sub2 h9 h3) (sr C8 (show srK Tryz.prog C8 (λE w=>retVC Tryz.prog Tryz.f59 E w (λv=>R (.returned v) w)) [(9,s.v),(3,.i k)] _ from mp h) λ_ _ hK=>(rt C9 λa hA=>retVC_sound hA hK)))))))))))
end enthymemeref04_TextI
inductive SpT where
 |tr (x:Rx)
 |ls (l:List Rx)
def holdT (base:Nat) (w:World) (v:Option Value):SpT->Prop
 |.tr x=>∃t:Rt,v=some t.v/\t.rx=x/\t.P w/\∀b∈t.fp,base<=b
 |.ls l=>∃(s:Sl) (ts:List Rt),v=some s.v/\Rt.rxs ts=l/\(lstT s ts).P w/\∀b∈(lstT s ts).fp,base<=b
theorem holdT.fr0 {base:Nat} {w w':World} {v:Option Value} {sp:SpT} (h:holdT base w v sp) (f:Fr0 w w'):holdT base w' v sp:=by
 cases sp with
 |tr x=>obtain ⟨t,h1,h2,h3,h4⟩:=h;exact ⟨t,h1,h2,h3.fr0 f,h4⟩
 |ls l=>obtain ⟨s,ts,h1,h2,h3,h4⟩:=h;exact ⟨s,ts,h1,h2,h3.fr0 f,h4⟩
def dstT (i:Nat):Nat:=if i=40 then 9 else 39+i
def VarT (base:Nat) (w:World) (E:Env) (t:Nat) (x:Rx):Prop:=∃(b:Nat) (u:Rt),E.get? t=some (.pointer (some (at0 b)))/\w.heap[b]? =some (.cells u.c.toArray ty_enthymemeref04_Regex (0,0))/\u.rx=x/\u.P w/\∀c∈u.fp,base<=c
theorem VarT.fr0 {base:Nat} {w w':World} {E:Env} {t:Nat} {x:Rx} (h:VarT base w E t x) (f:Fr0 w w'):VarT base w' E t x:=by
 obtain ⟨b,u,h1,h2,h3,h4,h5⟩:=h
 exact ⟨b,u,h1,(f.keep b (lt_of_heap h2) id).trans h2,h3,h4.fr0 f,h5⟩
theorem VarT.put {base:Nat} {w:World} {E:Env} {t d:Nat} {v:Value} {x:Rx} (h:VarT base w E t x) (hd:d≠t):VarT base w (E.put (some d) v) t x:=by
 obtain ⟨b,u,h1,h2⟩:=h
 exact ⟨b,u,by rw [get_put_ne hd];exact h1,h2⟩
section
variable (w0:World) (base:Nat) (kk:Int) (Xa Xb Xc Xs:Rx)
def specT:List SpT:=[.tr Xa,
 .tr Xa,
 .tr Xb,
 .ls [Xa,Xb],
 .tr (.mk 3 0 0 [Xa,Xb]),
 .tr Xa,
 .tr Xb,
 .tr Xc,
 .ls [Xa,Xb,Xc],
 .tr (.mk 4 0 0 [Xa,Xb,Xc]),
 .tr Xs,
 .tr Xs,
 .tr Xb,
 .ls [Xs,Xb],
 .tr (.mk 3 0 0 [Xs,Xb]),
 .tr Xa,
 .tr Xb,
 .ls [Xa,Xb],
 .tr (.mk 3 0 0 [Xa,Xb]),
 .ls [(.mk 3 0 0 [Xa,Xb])],
 .tr (.mk 6 0 0 [(.mk 3 0 0 [Xa,Xb])]),
 .tr Xb,
 .tr Xa,
 .tr Xc,
 .ls [Xa,Xc],
 .tr (.mk 4 0 0 [Xa,Xc]),
 .ls [(.mk 4 0 0 [Xa,Xc])],
 .tr (.mk 7 0 0 [(.mk 4 0 0 [Xa,Xc])]),
 .ls [Xb,(.mk 7 0 0 [(.mk 4 0 0 [Xa,Xc])])],
 .tr (.mk 3 0 0 [Xb,(.mk 7 0 0 [(.mk 4 0 0 [Xa,Xc])])]),
 .tr Xb,
 .ls [Xb],
 .tr (.mk 6 0 0 [Xb]),
 .tr Xa,
 .tr everyX,
 .ls [Xa,everyX],
 .tr (.mk 3 0 0 [Xa,everyX]),
 .ls [(.mk 6 0 0 [Xb]),(.mk 3 0 0 [Xa,everyX])],
 .tr (.mk 5 0 0 [(.mk 6 0 0 [Xb]),(.mk 3 0 0 [Xa,everyX])]),
 .ls [Xa,(.mk 3 0 0 [Xa,Xb]),(.mk 4 0 0 [Xa,Xb,Xc]),Xs,(.mk 3 0 0 [Xs,Xb]),(.mk 6 0 0 [(.mk 3 0 0 [Xa,Xb])]),(.mk 3 0 0 [Xb,(.mk 7 0 0 [(.mk 4 0 0 [Xa,Xc])])]),(.mk 5 0 0 [(.mk 6 0 0 [Xb]),(.mk 3 0 0 [Xa,everyX])])],
 .ls [Xa,(.mk 3 0 0 [Xa,Xb]),(.mk 4 0 0 [Xa,Xb,Xc]),Xs,(.mk 3 0 0 [Xs,Xb]),(.mk 6 0 0 [(.mk 3 0 0 [Xa,Xb])]),(.mk 3 0 0 [Xb,(.mk 7 0 0 [(.mk 4 0 0 [Xa,Xc])])]),(.mk 5 0 0 [(.mk 6 0 0 [Xb]),(.mk 3 0 0 [Xa,everyX])])]]
structure JT (L:Nat->Bool) (E:Env) (w:World):Prop where
 fr:Fr0 w0 w
 k:E.get? 3=some (.i kk)
 a:VarT base w E 5 Xa
 b:VarT base w E 6 Xb
 c:VarT base w E 7 Xc
 s:VarT base w E 8 Xs
 all:∀(i:Nat) (sp:SpT),(specT Xa Xb Xc Xs)[i]? =some sp->L i=true->holdT base w (E.get? (dstT i)) sp
variable {w0 base kk Xa Xb Xc Xs}
theorem JT.step {L:Nat->Bool} {E:Env} {w w':World} (J:JT w0 base kk Xa Xb Xc Xs L E w) (f:Fr0 w w') {i d:Nat} (hd:d=dstT i) {v:Value} {sp:SpT} (hs:(specT Xa Xb Xc Xs)[i]? =some sp) (h:holdT base w' (some v) sp):JT w0 base kk Xa Xb Xc Xs (setB L i) (E.put (some d) v) w':=by
 have hn:9<=d:=by rw [hd];unfold dstT;split<;>omega
 refine ⟨J.fr.tr0 f,by rw [get_put_ne (by omega)];exact J.k,(J.a.fr0 f).put (by omega),(J.b.fr0 f).put (by omega),(J.c.fr0 f).put (by omega),(J.s.fr0 f).put (by omega),λj sq hq hL=>?_⟩
 by_cases hj:j=i
 .subst hj
  rw [hs] at hq;cases hq
  rw [<-hd,get_put]
  exact h
 .have hne:d≠dstT j:=by
   rw [hd]
   have h1:i<41:=(List.getElem?_eq_some_iff.1 hs).1
   have h2:j<41:=(List.getElem?_eq_some_iff.1 hq).1
   unfold dstT
   split<;>split<;>omega
  rw [get_put_ne hne]
  refine (J.all j sq hq ?_).fr0 f
  have:Nat.beq j i=false:=by rw [<-Bool.not_eq_true,Nat.beq_eq];exact hj
  simpa [setB,this] using hL
abbrev RowJ (w0:World) (base:Nat) (kk:Int) (Xa Xb Xc Xs:Rx) (i:Nat) (r:Op×Option Nat×TypeId×List Nat):Prop:=RowI Tryz.prog (JT w0 base kk Xa Xb Xc Xs) i r
theorem ld_tree {b:Nat} {u:Rt} {w:World} (hb:w.heap[b]? =some (.cells u.c.toArray ty_enthymemeref04_Regex (0,0))) {K:Value->Prop} (hk:K u.v):ldVC Tryz.prog ty_enthymemeref04_Regex (at0 b) w λv _=>K v:=by
 have c0:=cellAt (p:=at0 b) (i:=0) (v:=.int .i64 u.k) hb rfl rfl
 have c1:=cellAt (p:=at0 b) (i:=1) (v:=.int .u8 (u.lo.toNat:Int)) hb rfl rfl
 have c2:=cellAt (p:=at0 b) (i:=2) (v:=.int .u8 (u.hi.toNat:Int)) hb rfl rfl
 have c3:=cellAt (p:=at0 b) (i:=3) (v:=u.s.v) hb rfl rfl
 have e:(ldVC Tryz.prog ty_enthymemeref04_Regex (at0 b) w λv _=>K v)=(∃n0:Int,∃n1:Int,∃n2:Int,∃n3:Sl,w.cell? ((at0 b).add 0)=some (.int .i64 n0)/\w.cell? ((at0 b).add 1)=some (.int .u8 n1)/\w.cell? ((at0 b).add 2)=some (.int .u8 n2)/\w.cell? ((at0 b).add 3)=some n3.v/\K (.agg #[.int .i64 n0,.int .u8 n1,.int .u8 n2,n3.v])):=by kernel_rfl
 rw [e]
 exact ⟨_,_,_,u.s,c0,c1,c2,c3,hk⟩
theorem row_ld {ty:TypeId} {ds:List Nat} {t:Nat} {x:Rx} (i d:Nat) (hd:d=dstT i) (hs:(specT Xa Xb Xc Xs)[i]? =some (.tr x)) (hv:∀L E w,JT w0 base kk Xa Xb Xc Xs L E w->VarT base w E t x):RowJ w0 base kk Xa Xb Xc Xs i (.load ty_enthymemeref04_Regex (.tmp t),some d,ty,ds):=by
 intro L E w o ho hdst ht hi hdep J
 obtain ⟨b,u,h1,h2,h3,h4,h5⟩:=hv L E w J
 refine st_ld ho h1 (ld_tree h2 ?_)
 rw [hdst]
 exact J.step (Fr.refl _ _) hd hs ⟨u,rfl,h3,h4,h5⟩
theorem row_lda {ty:TypeId} {ds:List Nat} (i d:Nat) (hs:(specT Xa Xb Xc Xs)[i]? =some (.tr Xa)) (hd:d=dstT i:=by rfl):RowJ w0 base kk Xa Xb Xc Xs i (.load ty_enthymemeref04_Regex (.tmp 5),some d,ty,ds):=row_ld i d hd hs λ_ _ _ J=>J.a
theorem row_ldb {ty:TypeId} {ds:List Nat} (i d:Nat) (hs:(specT Xa Xb Xc Xs)[i]? =some (.tr Xb)) (hd:d=dstT i:=by rfl):RowJ w0 base kk Xa Xb Xc Xs i (.load ty_enthymemeref04_Regex (.tmp 6),some d,ty,ds):=row_ld i d hd hs λ_ _ _ J=>J.b
theorem row_ldc {ty:TypeId} {ds:List Nat} (i d:Nat) (hs:(specT Xa Xb Xc Xs)[i]? =some (.tr Xc)) (hd:d=dstT i:=by rfl):RowJ w0 base kk Xa Xb Xc Xs i (.load ty_enthymemeref04_Regex (.tmp 7),some d,ty,ds):=row_ld i d hd hs λ_ _ _ J=>J.c
theorem row_lds {ty:TypeId} {ds:List Nat} (i d:Nat) (hs:(specT Xa Xb Xc Xs)[i]? =some (.tr Xs)) (hd:d=dstT i:=by rfl):RowJ w0 base kk Xa Xb Xc Xs i (.load ty_enthymemeref04_Regex (.tmp 8),some d,ty,ds):=row_ld i d hd hs λ_ _ _ J=>J.s
theorem run_bs1 (a:Rt) (w:World):(Instr.buildSlice ty_sl_enthymemeref04_Regex 1 #[((0:Nat),a.v)]).run Tryz.prog w=.ok (.slice (some (at0 w.heap.size)) 1 1) (w.alloc (.cells ([a].flatMap Rt.c).toArray ty_enthymemeref04_Regex)):=by kernel_rfl
theorem run_bs2 (a b:Rt) (w:World):(Instr.buildSlice ty_sl_enthymemeref04_Regex 2 #[((0:Nat),a.v),(1,b.v)]).run Tryz.prog w=.ok (.slice (some (at0 w.heap.size)) 2 2) (w.alloc (.cells ([a,b].flatMap Rt.c).toArray ty_enthymemeref04_Regex)):=by kernel_rfl
theorem run_bs3 (a b c:Rt) (w:World):(Instr.buildSlice ty_sl_enthymemeref04_Regex 3 #[((0:Nat),a.v),(1,b.v),(2,c.v)]).run Tryz.prog w=.ok (.slice (some (at0 w.heap.size)) 3 3) (w.alloc (.cells ([a,b,c].flatMap Rt.c).toArray ty_enthymemeref04_Regex)):=by kernel_rfl
theorem run_bs8 (a b c q e g r s:Rt) (w:World):(Instr.buildSlice ty_sl_enthymemeref04_Regex 8 #[((0:Nat),a.v),(1,b.v),(2,c.v),(3,q.v),(4,e.v),(5,g.v),(6,r.v),(7,s.v)]).run Tryz.prog w=.ok (.slice (some (at0 w.heap.size)) 8 8) (w.alloc (.cells ([a,b,c,q,e,g,r,s].flatMap Rt.c).toArray ty_enthymemeref04_Regex)):=by kernel_rfl
theorem st_bs {o:Oper} {T:TypeId} {n:Nat} {parts:Array (Nat×Operand)} {E:Env} {w w':World} {v:Value} {K:Env->World->Prop} (ho:o.op=.buildSlice T n parts) (hc:E.covers o=true) (hr:(Instr.buildSlice T n (parts.map λp=>(p.1,E.ev p.2))).run Tryz.prog w=.ok v w') (h:K (E.put o.dst v) w'):stepI Tryz.prog o E w K:=by
 obtain ⟨dst,op,ty,pos,after,guard⟩:=o
 simp only at ho
 subst ho
 have he:evalVC Tryz.prog ⟨dst,.buildSlice T n parts,ty,pos,after,guard⟩ E w (λv w'=>K (E.put dst v) w'):=by
  unfold evalVC
  rw [hc]
  show AndT true _
  simp only [execOp]
  rw [show (λ(x:Nat×Operand)=>match x with |(i,x)=>(i,E.ev x))=λp=>(p.1,E.ev p.2) from rfl]
  simp [hr]
  exact h
 unfold stepI
 simp only [calm,cond_false]
 unfold effVC
 exact he
theorem ev_tmp {E:Env} {t:Nat} {v:Value} (h:E.get? t=some v):E.ev (.tmp t)=v:=by simp [Env.ev,Env.val,h]
theorem lst_made {w:World} {ts:List Rt} {n:Nat} (hn:n=ts.length) (hm:n<=1000) (hp:Rt.Ps w ts) (hf:∀b∈Rt.fps ts,base<=b) (hb:base<=w.heap.size):
  (lstT ⟨some (at0 w.heap.size),n,n⟩ ts).P (w.alloc (.cells (ts.flatMap Rt.c).toArray ty_enthymemeref04_Regex))/\∀b∈(lstT ⟨some (at0 w.heap.size),n,n⟩ ts).fp,base<=b:=by
 have hrow:=OwnRow.made w ty_enthymemeref04_Regex 4 n (ts.flatMap Rt.c) (by rw [Rt.cs_len,hn]) (by unfold maxLen;omega)
 refine ⟨lst_P.2 ⟨hrow.rdn,hp.fr0 (Fr.alloc _ _ _)⟩,λb hb'=>?_⟩
 rcases lst_fp.1 hb' with h|h
 .exact rdn_fp (λc hc=>by simp only [blkL,qmC,qnM,or_false] at hc;rw [hc];exact hb) b h
 .exact hf b h
theorem JT.base_le {L:Nat->Bool} {E:Env} {w:World} (J:JT w0 base kk Xa Xb Xc Xs L E w) (hb:base<=w0.heap.size):base<=w.heap.size:=Nat.le_trans hb J.fr.size
section
variable (hbase:base<=w0.heap.size)
include hbase
theorem row_bs1 {ty:TypeId} {ds:List Nat} (i d j0:Nat) {t0:Nat} {x0:Rx} (hs:(specT Xa Xb Xc Xs)[i]? =some (.ls [x0])) (h0:(specT Xa Xb Xc Xs)[j0]? =some (.tr x0)) (m0:j0∈ds) (hd:d=dstT i:=by rfl) (e0:t0=dstT j0:=by rfl):RowJ w0 base kk Xa Xb Xc Xs i (.buildSlice ty_sl_enthymemeref04_Regex 1 #[(0,.tmp t0)],some d,ty,ds):=by
 intro L E w o ho hdst ht hi hdep J
 obtain ⟨a,a1,a2,a3,a4⟩:=J.all j0 _ h0 (hdep j0 m0)
 rw [<-e0] at a1
 have hm:=lst_made (base:=base) (w:=w) (ts:=[a]) (n:=1) rfl (by omega) (Rt.ps_of (by simp [a3])) (by simp [Rt.fps];exact a4) (J.base_le hbase)
 refine st_bs (w':=w.alloc (.cells ([a].flatMap Rt.c).toArray ty_enthymemeref04_Regex)) (v:=.slice (some (at0 w.heap.size)) 1 1) ho (by obtain ⟨_,op,_,_,_,_⟩:=o;simp only at ho;subst ho;simp [Env.covers,Op.operands,Env.val,a1]) ?_ ?_
 .rw [show (#[((0:Nat),Operand.tmp t0)].map λp=>(p.1,E.ev p.2))=#[((0:Nat),a.v)] by simp [ev_tmp a1]]
  exact run_bs1 a w
 .rw [hdst]
  exact J.step (Fr.alloc _ _ _) hd hs ⟨⟨some (at0 w.heap.size),1,1⟩,[a],rfl,by simp [Rt.rxs,a2],hm.1,hm.2⟩
theorem row_bs2 {ty:TypeId} {ds:List Nat} (i d j0 j1:Nat) {t0 t1:Nat} {x0 x1:Rx} (hs:(specT Xa Xb Xc Xs)[i]? =some (.ls [x0,x1])) (h0:(specT Xa Xb Xc Xs)[j0]? =some (.tr x0)) (h1:(specT Xa Xb Xc Xs)[j1]? =some (.tr x1)) (m0:j0∈ds) (m1:j1∈ds) (hd:d=dstT i:=by rfl) (e0:t0=dstT j0:=by rfl) (e1:t1=dstT j1:=by rfl):RowJ w0 base kk Xa Xb Xc Xs i (.buildSlice ty_sl_enthymemeref04_Regex 2 #[(0,.tmp t0),(1,.tmp t1)],some d,ty,ds):=by
 intro L E w o ho hdst ht hi hdep J
 obtain ⟨a,a1,a2,a3,a4⟩:=J.all j0 _ h0 (hdep j0 m0)
 obtain ⟨b,b1,b2,b3,b4⟩:=J.all j1 _ h1 (hdep j1 m1)
 rw [<-e0] at a1
 rw [<-e1] at b1
 have hm:=lst_made (base:=base) (w:=w) (ts:=[a,b]) (n:=2) rfl (by omega) (Rt.ps_of (by simp [a3,b3])) (by simp [Rt.fps];exact λc hc=>hc.elim (a4 c) (b4 c)) (J.base_le hbase)
 refine st_bs (w':=w.alloc (.cells ([a,b].flatMap Rt.c).toArray ty_enthymemeref04_Regex)) (v:=.slice (some (at0 w.heap.size)) 2 2) ho (by obtain ⟨_,op,_,_,_,_⟩:=o;simp only at ho;subst ho;simp [Env.covers,Op.operands,Env.val,a1,b1]) ?_ ?_
 .rw [show (#[((0:Nat),Operand.tmp t0),(1,.tmp t1)].map λp=>(p.1,E.ev p.2))=#[((0:Nat),a.v),(1,b.v)] by simp [ev_tmp a1,ev_tmp b1]]
  exact run_bs2 a b w
 .rw [hdst]
  exact J.step (Fr.alloc _ _ _) hd hs ⟨⟨some (at0 w.heap.size),2,2⟩,[a,b],rfl,by simp [Rt.rxs,a2,b2],hm.1,hm.2⟩
theorem row_bs3 {ty:TypeId} {ds:List Nat} (i d j0 j1 j2:Nat) {t0 t1 t2:Nat} {x0 x1 x2:Rx} (hs:(specT Xa Xb Xc Xs)[i]? =some (.ls [x0,x1,x2])) (h0:(specT Xa Xb Xc Xs)[j0]? =some (.tr x0)) (h1:(specT Xa Xb Xc Xs)[j1]? =some (.tr x1)) (h2:(specT Xa Xb Xc Xs)[j2]? =some (.tr x2)) (m0:j0∈ds) (m1:j1∈ds) (m2:j2∈ds) (hd:d=dstT i:=by rfl) (e0:t0=dstT j0:=by rfl) (e1:t1=dstT j1:=by rfl) (e2:t2=dstT j2:=by rfl):RowJ w0 base kk Xa Xb Xc Xs i (.buildSlice ty_sl_enthymemeref04_Regex 3 #[(0,.tmp t0),(1,.tmp t1),(2,.tmp t2)],some d,ty,ds):=by
 intro L E w o ho hdst ht hi hdep J
 obtain ⟨a,a1,a2,a3,a4⟩:=J.all j0 _ h0 (hdep j0 m0)
 obtain ⟨b,b1,b2,b3,b4⟩:=J.all j1 _ h1 (hdep j1 m1)
 obtain ⟨c,c1,c2,c3,c4⟩:=J.all j2 _ h2 (hdep j2 m2)
 rw [<-e0] at a1
 rw [<-e1] at b1
 rw [<-e2] at c1
 have hm:=lst_made (base:=base) (w:=w) (ts:=[a,b,c]) (n:=3) rfl (by omega) (Rt.ps_of (by simp [a3,b3,c3])) (by simp [Rt.fps];exact λz hz=>hz.elim (a4 z) (λhz=>hz.elim (b4 z) (c4 z))) (J.base_le hbase)
 refine st_bs (w':=w.alloc (.cells ([a,b,c].flatMap Rt.c).toArray ty_enthymemeref04_Regex)) (v:=.slice (some (at0 w.heap.size)) 3 3) ho (by obtain ⟨_,op,_,_,_,_⟩:=o;simp only at ho;subst ho;simp [Env.covers,Op.operands,Env.val,a1,b1,c1]) ?_ ?_
 .rw [show (#[((0:Nat),Operand.tmp t0),(1,.tmp t1),(2,.tmp t2)].map λp=>(p.1,E.ev p.2))=#[((0:Nat),a.v),(1,b.v),(2,c.v)] by simp [ev_tmp a1,ev_tmp b1,ev_tmp c1]]
  exact run_bs3 a b c w
 .rw [hdst]
  exact J.step (Fr.alloc _ _ _) hd hs ⟨⟨some (at0 w.heap.size),3,3⟩,[a,b,c],rfl,by simp [Rt.rxs,a2,b2,c2],hm.1,hm.2⟩
theorem row_bs8 {ty:TypeId} {ds:List Nat} (i d j0 j1 j2 j3 j4 j5 j6 j7:Nat) {t0 t1 t2 t3 t4 t5 t6 t7:Nat} {x0 x1 x2 x3 x4 x5 x6 x7:Rx} (hs:(specT Xa Xb Xc Xs)[i]? =some (.ls [x0,x1,x2,x3,x4,x5,x6,x7])) (h0:(specT Xa Xb Xc Xs)[j0]? =some (.tr x0)) (h1:(specT Xa Xb Xc Xs)[j1]? =some (.tr x1)) (h2:(specT Xa Xb Xc Xs)[j2]? =some (.tr x2)) (h3:(specT Xa Xb Xc Xs)[j3]? =some (.tr x3)) (h4:(specT Xa Xb Xc Xs)[j4]? =some (.tr x4)) (h5:(specT Xa Xb Xc Xs)[j5]? =some (.tr x5)) (h6:(specT Xa Xb Xc Xs)[j6]? =some (.tr x6)) (h7:(specT Xa Xb Xc Xs)[j7]? =some (.tr x7)) (m0:j0∈ds) (m1:j1∈ds) (m2:j2∈ds) (m3:j3∈ds) (m4:j4∈ds) (m5:j5∈ds) (m6:j6∈ds) (m7:j7∈ds) (hd:d=dstT i:=by rfl) (e0:t0=dstT j0:=by rfl) (e1:t1=dstT j1:=by rfl) (e2:t2=dstT j2:=by rfl) (e3:t3=dstT j3:=by rfl) (e4:t4=dstT j4:=by rfl) (e5:t5=dstT j5:=by rfl) (e6:t6=dstT j6:=by rfl) (e7:t7=dstT j7:=by rfl):
  RowJ w0 base kk Xa Xb Xc Xs i (.buildSlice ty_sl_enthymemeref04_Regex 8 #[(0,.tmp t0),(1,.tmp t1),(2,.tmp t2),(3,.tmp t3),(4,.tmp t4),(5,.tmp t5),(6,.tmp t6),(7,.tmp t7)],some d,ty,ds):=by
 intro L E w o ho hdst ht hi hdep J
 obtain ⟨a,a1,a2,a3,a4⟩:=J.all j0 _ h0 (hdep j0 m0)
 obtain ⟨b,b1,b2,b3,b4⟩:=J.all j1 _ h1 (hdep j1 m1)
 obtain ⟨c,c1,c2,c3,c4⟩:=J.all j2 _ h2 (hdep j2 m2)
 obtain ⟨q,q1,q2,q3,q4⟩:=J.all j3 _ h3 (hdep j3 m3)
 obtain ⟨e,f1,f2,f3,f4⟩:=J.all j4 _ h4 (hdep j4 m4)
 obtain ⟨g,g1,g2,g3,g4⟩:=J.all j5 _ h5 (hdep j5 m5)
 obtain ⟨r,r1,r2,r3,r4⟩:=J.all j6 _ h6 (hdep j6 m6)
 obtain ⟨s,s1,s2,s3,s4⟩:=J.all j7 _ h7 (hdep j7 m7)
 rw [<-e0] at a1
 rw [<-e1] at b1
 rw [<-e2] at c1
 rw [<-e3] at q1
 rw [<-e4] at f1
 rw [<-e5] at g1
 rw [<-e6] at r1
 rw [<-e7] at s1
 have hm:=lst_made (base:=base) (w:=w) (ts:=[a,b,c,q,e,g,r,s]) (n:=8) rfl (by omega) (Rt.ps_of (by simp [a3,b3,c3,q3,f3,g3,r3,s3])) (by
  intro z hz
  obtain ⟨t,ht,hy⟩:=Rt.fps_iff.1 hz
  clear hz
  simp only [qmC,qnM,or_false] at ht
  rcases ht with rfl|rfl|rfl|rfl|rfl|rfl|rfl|rfl
  .exact a4 z hy
  .exact b4 z hy
  .exact c4 z hy
  .exact q4 z hy
  .exact f4 z hy
  .exact g4 z hy
  .exact r4 z hy
  .exact s4 z hy) (J.base_le hbase)
 refine st_bs (w':=w.alloc (.cells ([a,b,c,q,e,g,r,s].flatMap Rt.c).toArray ty_enthymemeref04_Regex)) (v:=.slice (some (at0 w.heap.size)) 8 8) ho (by obtain ⟨_,op,_,_,_,_⟩:=o;simp only at ho;subst ho;simp [Env.covers,Op.operands,Env.val,a1,b1,c1,q1,f1,g1,r1,s1]) ?_ ?_
 .rw [show (#[((0:Nat),Operand.tmp t0),(1,.tmp t1),(2,.tmp t2),(3,.tmp t3),(4,.tmp t4),(5,.tmp t5),(6,.tmp t6),(7,.tmp t7)].map λp=>(p.1,E.ev p.2))=#[((0:Nat),a.v),(1,b.v),(2,c.v),(3,q.v),(4,e.v),(5,g.v),(6,r.v),(7,s.v)] by simp [ev_tmp a1,ev_tmp b1,ev_tmp c1,ev_tmp q1,ev_tmp f1,ev_tmp g1,ev_tmp r1,ev_tmp s1]]
  exact run_bs8 a b c q e g r s w
 .rw [hdst]
  exact J.step (Fr.alloc _ _ _) hd hs ⟨⟨some (at0 w.heap.size),8,8⟩,[a,b,c,q,e,g,r,s],rfl,by simp [Rt.rxs,a2,b2,c2,q2,f2,g2,r2,s2],hm.1,hm.2⟩
end
theorem st_bd {o:Oper} {k:Int} {t:Nat} {s:Sl} {E:Env} {w:World} {K:Env->World->Prop} (hk:k=3\/k=4\/k=5\/k=6\/k=7) (ho:o.op=.build ty_enthymemeref04_Regex #[(0,.const (.int .i64 k)),(3,.tmp t)]) (ht:E.get? t=some s.v) (h:K (E.put o.dst (.agg #[.i k,.int .u8 0,.int .u8 0,s.v])) w):stepI Tryz.prog o E w K:=by
 obtain ⟨dst,op,ty,pos,after,guard⟩:=o
 simp only at ho
 subst ho
 show pureVC Tryz.prog _ E (λv _=>K (E.put dst v) w)
 have hc:E.covers ⟨dst,.build ty_enthymemeref04_Regex #[(0,.const (.int .i64 k)),(3,.tmp t)],ty,pos,after,guard⟩=true:=by simp [Env.covers,Op.operands,Env.val,ht]
 unfold pureVC
 rw [hc]
 have e:execOp E.ev ⟨dst,.build ty_enthymemeref04_Regex #[(0,.const (.int .i64 k)),(3,.tmp t)],ty,pos,after,guard⟩=execOp (λx=>match x with |.const v=>v|_=>s.v) ⟨dst,.build ty_enthymemeref04_Regex #[(0,.const (.int .i64 k)),(3,.tmp t)],ty,pos,after,guard⟩:=by
  have:E.ev (.tmp t)=s.v:=ev_tmp ht
  have h2:E.ev (.const (.int .i64 k))=.int .i64 k:=by simp [Env.ev,Env.val]
  simp only [execOp,List.map_toArray,List.map_cons,List.map_nil,this,h2]
 rw [e]
 have e2:pureRun Tryz.prog (execOp (λx=>match x with |.const v=>v|_=>s.v) ⟨dst,.build ty_enthymemeref04_Regex #[(0,.const (.int .i64 k)),(3,.tmp t)],ty,pos,after,guard⟩)=some (.value (.agg #[.i k,.int .u8 0,.int .u8 0,s.v])):=by
  kernel_rfl
 rw [e2]
 exact h
theorem row_bd {ty:TypeId} {ds:List Nat} (k:Int) (hk:k=3\/k=4\/k=5\/k=6\/k=7) (i d j:Nat) {t:Nat} {l:List Rx} (hs:(specT Xa Xb Xc Xs)[i]? =some (.tr (.mk k 0 0 l))) (h0:(specT Xa Xb Xc Xs)[j]? =some (.ls l)) (m:j∈ds) (hd:d=dstT i) (e0:t=dstT j):RowJ w0 base kk Xa Xb Xc Xs i (.build ty_enthymemeref04_Regex #[(0,.const (.int .i64 k)),(3,.tmp t)],some d,ty,ds):=by
 intro L E w o ho hdst ht hi hdep J
 obtain ⟨s,ts,a1,a2,a3,a4⟩:=J.all j _ h0 (hdep j m)
 rw [<-e0] at a1
 refine st_bd hk ho a1 ?_
 rw [hdst]
 refine J.step (Fr.refl _ _) hd hs ⟨.mk k 0 0 s ts,rfl,by rw [<-a2];rfl,?_,λb hb=>a4 b ?_⟩
 .have:=lst_P.1 a3
  unfold Rt.P
  exact this
 .unfold Rt.fp at hb
  unfold lstT Rt.fp
  exact hb
theorem row_bd3 {ty:TypeId} {ds:List Nat} (i d j:Nat) {t:Nat} {l:List Rx} (hs:(specT Xa Xb Xc Xs)[i]? =some (.tr (.mk 3 0 0 l))) (h0:(specT Xa Xb Xc Xs)[j]? =some (.ls l)) (m:j∈ds) (hd:d=dstT i:=by rfl) (e0:t=dstT j:=by rfl):RowJ w0 base kk Xa Xb Xc Xs i (.build ty_enthymemeref04_Regex #[(0,.const (.int .i64 3)),(3,.tmp t)],some d,ty,ds):=row_bd 3 (by omega) i d j hs h0 m hd e0
theorem row_bd4 {ty:TypeId} {ds:List Nat} (i d j:Nat) {t:Nat} {l:List Rx} (hs:(specT Xa Xb Xc Xs)[i]? =some (.tr (.mk 4 0 0 l))) (h0:(specT Xa Xb Xc Xs)[j]? =some (.ls l)) (m:j∈ds) (hd:d=dstT i:=by rfl) (e0:t=dstT j:=by rfl):RowJ w0 base kk Xa Xb Xc Xs i (.build ty_enthymemeref04_Regex #[(0,.const (.int .i64 4)),(3,.tmp t)],some d,ty,ds):=row_bd 4 (by omega) i d j hs h0 m hd e0
theorem row_bd5 {ty:TypeId} {ds:List Nat} (i d j:Nat) {t:Nat} {l:List Rx} (hs:(specT Xa Xb Xc Xs)[i]? =some (.tr (.mk 5 0 0 l))) (h0:(specT Xa Xb Xc Xs)[j]? =some (.ls l)) (m:j∈ds) (hd:d=dstT i:=by rfl) (e0:t=dstT j:=by rfl):RowJ w0 base kk Xa Xb Xc Xs i (.build ty_enthymemeref04_Regex #[(0,.const (.int .i64 5)),(3,.tmp t)],some d,ty,ds):=row_bd 5 (by omega) i d j hs h0 m hd e0
theorem row_bd6 {ty:TypeId} {ds:List Nat} (i d j:Nat) {t:Nat} {l:List Rx} (hs:(specT Xa Xb Xc Xs)[i]? =some (.tr (.mk 6 0 0 l))) (h0:(specT Xa Xb Xc Xs)[j]? =some (.ls l)) (m:j∈ds) (hd:d=dstT i:=by rfl) (e0:t=dstT j:=by rfl):RowJ w0 base kk Xa Xb Xc Xs i (.build ty_enthymemeref04_Regex #[(0,.const (.int .i64 6)),(3,.tmp t)],some d,ty,ds):=row_bd 6 (by omega) i d j hs h0 m hd e0
theorem row_bd7 {ty:TypeId} {ds:List Nat} (i d j:Nat) {t:Nat} {l:List Rx} (hs:(specT Xa Xb Xc Xs)[i]? =some (.tr (.mk 7 0 0 l))) (h0:(specT Xa Xb Xc Xs)[j]? =some (.ls l)) (m:j∈ds) (hd:d=dstT i:=by rfl) (e0:t=dstT j:=by rfl):RowJ w0 base kk Xa Xb Xc Xs i (.build ty_enthymemeref04_Regex #[(0,.const (.int .i64 7)),(3,.tmp t)],some d,ty,ds):=row_bd 7 (by omega) i d j hs h0 m hd e0
theorem row_mv {ty:TypeId} {ds:List Nat} (i d j:Nat) {t:Nat} {l:List Rx} (hs:(specT Xa Xb Xc Xs)[i]? =some (.ls l)) (h0:(specT Xa Xb Xc Xs)[j]? =some (.ls l)) (m:j∈ds) (hd:d=dstT i:=by rfl) (e0:t=dstT j:=by rfl):RowJ w0 base kk Xa Xb Xc Xs i (.assign (.tmp t),some d,ty,ds):=by
 intro L E w o ho hdst ht hi hdep J
 obtain ⟨s,ts,a1,a2,a3,a4⟩:=J.all j _ h0 (hdep j m)
 rw [<-e0] at a1
 refine st_mv (.inr ho) a1 ?_
 rw [hdst]
 exact J.step (Fr.refl _ _) hd hs ⟨s,ts,rfl,a2,a3,a4⟩
theorem row_call {ds:List Nat} (hbase:base<=w0.heap.size) (i d:Nat) (hs:(specT Xa Xb Xc Xs)[i]? =some (.tr everyX)) (hd:d=dstT i:=by rfl):RowJ w0 base kk Xa Xb Xc Xs i (.call ⟨.value (.func n_enthymemeref04_Everything),#[],#[]⟩,some d,ty_enthymemeref04_Regex,ds):=by
 intro L E w o ho hdst ht hi hdep J
 obtain ⟨dst,op,ty,pos,after,guard⟩:=o
 simp only at ho hdst ht
 subst ho
 subst hdst
 subst ht
 have hc:E.covers ⟨some d,.call ⟨.value (.func n_enthymemeref04_Everything),#[],#[]⟩,ty_enthymemeref04_Regex,pos,after,guard⟩=true:=by simp [Env.covers,Op.operands,Call.operands,Env.val]
 have hca:callable Tryz.prog n_enthymemeref04_Everything=true:=by kernel_rfl
 have hcm:calm Tryz.prog ⟨some d,.call ⟨.value (.func n_enthymemeref04_Everything),#[],#[]⟩,ty_enthymemeref04_Regex,pos,after,guard⟩=false:=rfl
 unfold stepI
 rw [hcm,cond_false]
 unfold effVC
 dsimp only
 rw [hc,hca]
 simp only [List.map_toArray,List.map_nil,cond_true]
 refine (show callVC Tryz.prog n_enthymemeref04_Everything #[] (zeroOf Tryz.prog ty_enthymemeref04_Regex) w (λv w'=>JT w0 base kk Xa Xb Xc Xs (setB L i) (E.put (some d) v) w') from ?_)
 refine (c_every w).mono ?_
 rintro _ w' ⟨⟨t,rfl,h2,h3,h4⟩,f⟩
 have e:exAny (zeroOf Tryz.prog ty_enthymemeref04_Regex) (λv=>Ending.returned t.v=.returned v/\JT w0 base kk Xa Xb Xc Xs (setB L i) (E.put (some d) v) w')=∃n0:Int,∃n1:Int,∃n2:Int,∃n3:Sl,Ending.returned t.v=.returned (.agg #[.int .i64 n0,.int .u8 n1,.int .u8 n2,n3.v])/\JT w0 base kk Xa Xb Xc Xs (setB L i) (E.put (some d) (.agg #[.int .i64 n0,.int .u8 n1,.int .u8 n2,n3.v])) w':=by kernel_rfl
 rw [e]
 exact ⟨t.k,t.lo.toNat,t.hi.toNat,t.s,rfl,J.step f hd hs ⟨t,rfl,h2,h3,λb hb=>Nat.le_trans (J.base_le hbase) (h4 b hb)⟩⟩
def tabT:List (Op×Option Nat×TypeId×List Nat):=[(.load ty_enthymemeref04_Regex (.tmp 5),some 39,ty_enthymemeref04_Regex,[]),
 (.load ty_enthymemeref04_Regex (.tmp 5),some 40,ty_enthymemeref04_Regex,[]),
 (.load ty_enthymemeref04_Regex (.tmp 6),some 41,ty_enthymemeref04_Regex,[]),
 (.buildSlice ty_sl_enthymemeref04_Regex 2 #[(0,.tmp 40),(1,.tmp 41)],some 42,ty_sl_enthymemeref04_Regex,[1,2]),
 (.build ty_enthymemeref04_Regex #[(0,.const (.int .i64 3)),(3,.tmp 42)],some 43,ty_enthymemeref04_Regex,[3]),
 (.load ty_enthymemeref04_Regex (.tmp 5),some 44,ty_enthymemeref04_Regex,[]),
 (.load ty_enthymemeref04_Regex (.tmp 6),some 45,ty_enthymemeref04_Regex,[]),
 (.load ty_enthymemeref04_Regex (.tmp 7),some 46,ty_enthymemeref04_Regex,[]),
 (.buildSlice ty_sl_enthymemeref04_Regex 3 #[(0,.tmp 44),(1,.tmp 45),(2,.tmp 46)],some 47,ty_sl_enthymemeref04_Regex,[5,6,7]),
 (.build ty_enthymemeref04_Regex #[(0,.const (.int .i64 4)),(3,.tmp 47)],some 48,ty_enthymemeref04_Regex,[8]),
 (.load ty_enthymemeref04_Regex (.tmp 8),some 49,ty_enthymemeref04_Regex,[]),
 (.load ty_enthymemeref04_Regex (.tmp 8),some 50,ty_enthymemeref04_Regex,[]),
 (.load ty_enthymemeref04_Regex (.tmp 6),some 51,ty_enthymemeref04_Regex,[]),
 (.buildSlice ty_sl_enthymemeref04_Regex 2 #[(0,.tmp 50),(1,.tmp 51)],some 52,ty_sl_enthymemeref04_Regex,[11,12]),
 (.build ty_enthymemeref04_Regex #[(0,.const (.int .i64 3)),(3,.tmp 52)],some 53,ty_enthymemeref04_Regex,[13]),
 (.load ty_enthymemeref04_Regex (.tmp 5),some 54,ty_enthymemeref04_Regex,[]),
 (.load ty_enthymemeref04_Regex (.tmp 6),some 55,ty_enthymemeref04_Regex,[]),
 (.buildSlice ty_sl_enthymemeref04_Regex 2 #[(0,.tmp 54),(1,.tmp 55)],some 56,ty_sl_enthymemeref04_Regex,[15,16]),
 (.build ty_enthymemeref04_Regex #[(0,.const (.int .i64 3)),(3,.tmp 56)],some 57,ty_enthymemeref04_Regex,[17]),
 (.buildSlice ty_sl_enthymemeref04_Regex 1 #[(0,.tmp 57)],some 58,ty_sl_enthymemeref04_Regex,[18]),
 (.build ty_enthymemeref04_Regex #[(0,.const (.int .i64 6)),(3,.tmp 58)],some 59,ty_enthymemeref04_Regex,[19]),
 (.load ty_enthymemeref04_Regex (.tmp 6),some 60,ty_enthymemeref04_Regex,[]),
 (.load ty_enthymemeref04_Regex (.tmp 5),some 61,ty_enthymemeref04_Regex,[]),
 (.load ty_enthymemeref04_Regex (.tmp 7),some 62,ty_enthymemeref04_Regex,[]),
 (.buildSlice ty_sl_enthymemeref04_Regex 2 #[(0,.tmp 61),(1,.tmp 62)],some 63,ty_sl_enthymemeref04_Regex,[22,23]),
 (.build ty_enthymemeref04_Regex #[(0,.const (.int .i64 4)),(3,.tmp 63)],some 64,ty_enthymemeref04_Regex,[24]),
 (.buildSlice ty_sl_enthymemeref04_Regex 1 #[(0,.tmp 64)],some 65,ty_sl_enthymemeref04_Regex,[25]),
 (.build ty_enthymemeref04_Regex #[(0,.const (.int .i64 7)),(3,.tmp 65)],some 66,ty_enthymemeref04_Regex,[26]),
 (.buildSlice ty_sl_enthymemeref04_Regex 2 #[(0,.tmp 60),(1,.tmp 66)],some 67,ty_sl_enthymemeref04_Regex,[21,27]),
 (.build ty_enthymemeref04_Regex #[(0,.const (.int .i64 3)),(3,.tmp 67)],some 68,ty_enthymemeref04_Regex,[28]),
 (.load ty_enthymemeref04_Regex (.tmp 6),some 69,ty_enthymemeref04_Regex,[]),
 (.buildSlice ty_sl_enthymemeref04_Regex 1 #[(0,.tmp 69)],some 70,ty_sl_enthymemeref04_Regex,[30]),
 (.build ty_enthymemeref04_Regex #[(0,.const (.int .i64 6)),(3,.tmp 70)],some 71,ty_enthymemeref04_Regex,[31]),
 (.load ty_enthymemeref04_Regex (.tmp 5),some 72,ty_enthymemeref04_Regex,[]),
 (.call ⟨.value (.func n_enthymemeref04_Everything),#[],#[]⟩,some 73,ty_enthymemeref04_Regex,[]),
 (.buildSlice ty_sl_enthymemeref04_Regex 2 #[(0,.tmp 72),(1,.tmp 73)],some 74,ty_sl_enthymemeref04_Regex,[33,34]),
 (.build ty_enthymemeref04_Regex #[(0,.const (.int .i64 3)),(3,.tmp 74)],some 75,ty_enthymemeref04_Regex,[35]),
 (.buildSlice ty_sl_enthymemeref04_Regex 2 #[(0,.tmp 71),(1,.tmp 75)],some 76,ty_sl_enthymemeref04_Regex,[32,36]),
 (.build ty_enthymemeref04_Regex #[(0,.const (.int .i64 5)),(3,.tmp 76)],some 77,ty_enthymemeref04_Regex,[37]),
 (.buildSlice ty_sl_enthymemeref04_Regex 8 #[(0,.tmp 39),(1,.tmp 43),(2,.tmp 48),(3,.tmp 49),(4,.tmp 53),(5,.tmp 59),(6,.tmp 68),(7,.tmp 77)],some 78,ty_sl_enthymemeref04_Regex,[0,4,9,10,14,20,29,38]),
 (.assign (.tmp 78),some 9,ty_sl_enthymemeref04_Regex,[39,34,0,1,2,3,4,5,6,7,8,9,10,11,12,13,14,15,16,17,18,19,20,21,22,23,24,25,26,27,28,29,30,31,32,33,34,35,36,37,38,39])]
theorem rowsT (hbase:base<=w0.heap.size):allI (RowI Tryz.prog (JT w0 base kk Xa Xb Xc Xs)) tabT 0:=
 ⟨(row_lda 0 39 rfl),
  (row_lda 1 40 rfl),
  (row_ldb 2 41 rfl),
  (row_bs2 hbase 3 42 1 2 rfl rfl rfl (by simp) (by simp)),
  (row_bd3 4 43 3 rfl rfl (by simp)),
  (row_lda 5 44 rfl),
  (row_ldb 6 45 rfl),
  (row_ldc 7 46 rfl),
  (row_bs3 hbase 8 47 5 6 7 rfl rfl rfl rfl (by simp) (by simp) (by simp)),
  (row_bd4 9 48 8 rfl rfl (by simp)),
  (row_lds 10 49 rfl),
  (row_lds 11 50 rfl),
  (row_ldb 12 51 rfl),
  (row_bs2 hbase 13 52 11 12 rfl rfl rfl (by simp) (by simp)),
  (row_bd3 14 53 13 rfl rfl (by simp)),
  (row_lda 15 54 rfl),
  (row_ldb 16 55 rfl),
  (row_bs2 hbase 17 56 15 16 rfl rfl rfl (by simp) (by simp)),
  (row_bd3 18 57 17 rfl rfl (by simp)),
  (row_bs1 hbase 19 58 18 rfl rfl (by simp)),
  (row_bd6 20 59 19 rfl rfl (by simp)),
  (row_ldb 21 60 rfl),
  (row_lda 22 61 rfl),
  (row_ldc 23 62 rfl),
  (row_bs2 hbase 24 63 22 23 rfl rfl rfl (by simp) (by simp)),
  (row_bd4 25 64 24 rfl rfl (by simp)),
  (row_bs1 hbase 26 65 25 rfl rfl (by simp)),
  (row_bd7 27 66 26 rfl rfl (by simp)),
  (row_bs2 hbase 28 67 21 27 rfl rfl rfl (by simp) (by simp)),
  (row_bd3 29 68 28 rfl rfl (by simp)),
  (row_ldb 30 69 rfl),
  (row_bs1 hbase 31 70 30 rfl rfl (by simp)),
  (row_bd6 32 71 31 rfl rfl (by simp)),
  (row_lda 33 72 rfl),
  (row_call hbase 34 73 rfl),
  (row_bs2 hbase 35 74 33 34 rfl rfl rfl (by simp) (by simp)),
  (row_bd3 36 75 35 rfl rfl (by simp)),
  (row_bs2 hbase 37 76 32 36 rfl rfl rfl (by simp) (by simp)),
  (row_bd5 38 77 37 rfl rfl (by simp)),
  (row_bs8 hbase 39 78 0 4 9 10 14 20 29 38 rfl rfl rfl rfl rfl rfl rfl rfl rfl (by simp) (by simp) (by simp) (by simp) (by simp) (by simp) (by simp) (by simp)),
  (row_mv 40 9 39 rfl rfl (by simp)),trivial⟩
end
def frmQ (k:Nat):Rx:=formsQ (atomsQ (k%6)) (atomsQ (k / 6%6)) (atomsQ (k / 36%6)) (k / 216%8)
def okText (k:Nat):Bool:=goodR (frmQ k)&&Nat.ble (frmQ k).sz 1000&&okW (normX (frmQ k))&&Nat.ble (normX (frmQ k)).sz 1000
theorem okText_all:(List.range 1728).all okText=true:=by kernel_rfl
theorem frm_mod (k:Nat):frmQ k=frmQ (k%1728):=by
 unfold frmQ
 rw [show k%1728%6=k%6 by omega,show k%1728 / 6%6=k / 6%6 by omega,show k%1728 / 36%6=k / 36%6 by omega,show k%1728 / 216%8=k / 216%8 by omega]
theorem text_ok (k:Nat):goodR (frmQ k)=true/\(frmQ k).sz<=1000/\okW (normX (frmQ k))=true/\(normX (frmQ k)).sz<=1000:=by
 rw [frm_mod]
 have:=qaT.1 okText_all (k%1728) (List.mem_range.2 (Nat.mod_lt _ (by omega)))
 unfold okText at this
 simp only [Bool.and_eq_true] at this
 exact ⟨this.1.1.1,Nat.le_of_ble_eq_true this.1.1.2,this.1.2,Nat.le_of_ble_eq_true this.2⟩
theorem textQ_eq (k:Nat):textQ k=wrQ (normX (frmQ k)):=rfl
theorem textQ_mod (k:Nat):textQ k=textQ (k%1728):=by rw [textQ_eq,textQ_eq,frm_mod]
theorem can_all:(List.range 1728).all (λk=>canQ (textQ k)==some true)=true:=by kernel_rfl
theorem can_text (k:Nat):canQ (textQ k)=some true:=by
 rw [textQ_mod]
 exact eq_of_beq (qaT.1 can_all (k%1728) (List.mem_range.2 (Nat.mod_lt _ (by omega))))
theorem c_around (n m:Int) (w:World) (hm:1<=m) (h:I64 n):Calls Tryz.prog n_enthymemeref01_Around #[.i n,.i m] w λr w'=>r=.returned (.i (aroundI n m))/\Fr0 w w':=(around_any n m w hm h).mono λr w' h=>⟨h.1,h.2▸Fr.refl _ _⟩
def atomsT (ev:Rt):List Rt:=[leafT 2 97 97,leafT 2 98 98,leafT 2 0 0,leafT 2 97 98,leafT 1 0 0,ev]
theorem atoms_at (ev:Rt) (hev:ev.rx=everyX) {i:Nat} (hi:i<6):∃t,(atomsT ev)[i]? =some t/\t.rx=atomsQ i/\(t=ev\/∀w:World,t.P w/\∀b,¬b∈t.fp):=by
 have:i=0\/i=1\/i=2\/i=3\/i=4\/i=5:=by omega
 rcases this with rfl|rfl|rfl|rfl|rfl|rfl
 .exact ⟨_,rfl,rfl,.inr λw=>⟨leaf_P _ _ _ w,λb=>leaf_fp⟩⟩
 .exact ⟨_,rfl,rfl,.inr λw=>⟨leaf_P _ _ _ w,λb=>leaf_fp⟩⟩
 .exact ⟨_,rfl,rfl,.inr λw=>⟨leaf_P _ _ _ w,λb=>leaf_fp⟩⟩
 .exact ⟨_,rfl,rfl,.inr λw=>⟨leaf_P _ _ _ w,λb=>leaf_fp⟩⟩
 .exact ⟨_,rfl,rfl,.inr λw=>⟨leaf_P _ _ _ w,λb=>leaf_fp⟩⟩
 .exact ⟨ev,rfl,hev,.inl rfl⟩
theorem forms_at (a b c:Rx) {i:Nat} (hi:i<8):[a,.mk 3 0 0 [a,b],.mk 4 0 0 [a,b,c],.mk 7 0 0 [a],.mk 3 0 0 [.mk 7 0 0 [a],b],.mk 6 0 0 [.mk 3 0 0 [a,b]],.mk 3 0 0 [b,.mk 7 0 0 [.mk 4 0 0 [a,c]]],.mk 5 0 0 [.mk 6 0 0 [b],.mk 3 0 0 [a,everyX]]][i]? =some (formsQ a b c i):=by
 have:i=0\/i=1\/i=2\/i=3\/i=4\/i=5\/i=6\/i=7:=by omega
 rcases this with rfl|rfl|rfl|rfl|rfl|rfl|rfl|rfl<;>rfl
theorem t_mod (k m:Nat) (hm:0<m):Int.tmod (k:Int) (m:Int)=((k%m:Nat):Int):=by
 rw [Int.tmod_eq_emod_of_nonneg (by omega)];omega
theorem t_div (k m:Nat) (hk:k<=1048576):IntKind.wrap .i64 (Int.tdiv (k:Int) (m:Int))=((k / m:Nat):Int):=by
 have h:Int.tdiv (k:Int) (m:Int)=((k / m:Nat):Int):=by
  rw [Int.tdiv_eq_ediv_of_nonneg (by omega)];rfl
 have h2:k / m<=k:=Nat.div_le_self k m
 rw [h]
 generalize k / m=q at h2
 rw [IntWalk.i64_in _ (by omega)]
section
variable {w w24:World} {R:Post} {K:Nat}
theorem text_end (hK:K<=1048576) {s:Sl} {ts:List Rt} {w':World} (h1:Rt.rxs ts=[atomsQ (K%6),.mk 3 0 0 [atomsQ (K%6),atomsQ (K / 6%6)],.mk 4 0 0 [atomsQ (K%6),atomsQ (K / 6%6),atomsQ (K / 36%6)],.mk 7 0 0 [atomsQ (K%6)],.mk 3 0 0 [.mk 7 0 0 [atomsQ (K%6)],atomsQ (K / 6%6)],.mk 6 0 0 [.mk 3 0 0 [atomsQ (K%6),atomsQ (K / 6%6)]],.mk 3 0 0 [atomsQ (K / 6%6),.mk 7 0 0 [.mk 4 0 0 [atomsQ (K%6),atomsQ (K / 36%6)]]],.mk 5 0 0 [.mk 6 0 0 [atomsQ (K / 6%6)],.mk 3 0 0 [atomsQ (K%6),everyX]]])
  (hp:(lstT s ts).P w') (f:Fr0 w w'):enthymemeref04_TextI.T9 s (K:Int) w' λr w'=>r=.returned (.string (ba (textQ K)))/\Fr0 w w':=by
 have hn:=Rt.rows_n (lst_P.1 hp).1
 have hl:ts.length=8:=by
  have:=congrArg List.length h1
  rw [Rt.rxs_map,List.length_map] at this
  simpa using this
 show (0:Int)<=Int.tmod (IntKind.wrap .i64 (Int.tdiv (K:Int) ((216:Nat):Int))) ((8:Nat):Int)/\Int.tmod (IntKind.wrap .i64 (Int.tdiv (K:Int) ((216:Nat):Int))) ((8:Nat):Int)<((s.n:Nat):Int)/\optP s.a λp=>ld4_0 w' (p.add (Int.toNat (Int.tmod (IntKind.wrap .i64 (Int.tdiv (K:Int) ((216:Nat):Int))) ((8:Nat):Int)) *4)) _
 rw [t_div K 216 hK,t_mod _ 8 (by omega)]
 have hi:K / 216%8<8:=Nat.mod_lt _ (by omega)
 have hg:ts[K / 216%8]? =some (ts[K / 216%8]'(by omega)):=qgE (by omega)
 generalize ts[K / 216%8]'(by omega)=t at hg
 have ht:t.rx=frmQ K:=by
  have h2:=forms_at (atomsQ (K%6)) (atomsQ (K / 6%6)) (atomsQ (K / 36%6)) hi
  rw [<-h1,Rt.rxs_map,List.getElem?_map,hg] at h2
  exact Option.some.inj h2
 obtain ⟨g1,g2,g3,g4⟩:=text_ok K
 rw [<-ht] at g1 g2 g3 g4
 have pt:t.P w':=(lst_P.1 hp).2.get hg
 refine ⟨by omega,by omega,Rt.at' (lst_P.1 hp).1 hg λp hp c=>⟨_,_,_,_,c.c0,c.c1,c.c2,c.c3,(c_simple t w' (by rw [<-Rt.rx_sz];exact g2) g1 pt).mono ?_⟩⟩
 rintro _ w1 ⟨⟨u,rfl,hu,pu,_⟩,f1⟩
 rw [<-hu] at g3 g4
 refine ⟨_,_,_,u.s,rfl,(c_Write u 0 w1 (by rw [<-Rt.rx_sz];omega) (by omega) g3 pu).mono ?_⟩
 rintro _ w2 ⟨rfl,f2⟩
 refine ⟨_,rfl,?_,(f.tr0 f1).tr0 f2⟩
 have e:parenQ 0 u.rx (wrQ u.rx)=wrQ u.rx:=by unfold parenQ;rw [if_neg (by omega)]
 rw [e,hu,ht]
 rfl
end
theorem T9_mono {s:Sl} {k:Int} {w:World} {R R':Post} (h:enthymemeref04_TextI.T9 s k w R) (hr:∀r w',R r w'->R' r w'):enthymemeref04_TextI.T9 s k w R':=
 ⟨h.1,h.2.1,optP_imp h.2.2 λp ⟨a,b,c,d,h0,h1,h2,h3,hc⟩=>⟨a,b,c,d,h0,h1,h2,h3,hc.mono λr w1 ⟨e,f,g,i,he,hw⟩=>⟨e,f,g,i,he,hw.mono λr w2 ⟨t,ht,hR⟩=>⟨t,ht,hr _ _ hR⟩⟩⟩⟩
theorem c_Text (n:Int) (hn:I64 n) (w:World):Calls Tryz.prog n_enthymemeref04_Text #[.i n] w λr w'=>(∃k:Nat,r=.returned (.string (ba (textQ k))))/\Fr0 w w':=by
 have hr:=aroundI_range n 1048576 (by omega)
 obtain ⟨K,hK⟩:∃K:Nat,aroundI n 1048576=(K:Int):=⟨(aroundI n 1048576).toNat,by omega⟩
 have hK2:K<=1048576:=by omega
 have H:LH F0 w w [] []:=lh0 [] (by simp)
 refine enthymemeref04_TextI.ok n w _ (H.call (c_around n 1048576 w (by omega) hn) ?_)
 rintro _ w1 rfl H1
 refine ⟨_,rfl,H1.callq (c_every w1) ?_⟩
 rintro _ w2 ⟨ev,rfl,hev,pev,fev⟩ _ F2
 have H2:=F2.rd (.tree ev) pev λb hb=>fev b (mem_nub.1 hb)
 rw [hK]
 have em:=t_mod K 6 (by omega)
 have ed6:=t_div K 6 hK2
 have ed36:=t_div K 36 hK2
 have em6:=t_mod (K / 6) 6 (by omega)
 have em36:=t_mod (K / 36) 6 (by omega)
 have c6:((6:Nat):Int)=6:=rfl
 have c36:((36:Nat):Int)=36:=rfl
 rw [c6] at em ed6 em6 em36
 rw [c36] at ed36
 rw [em,ed6,ed36,em6,em36]
 obtain ⟨ta,ga,ra,xa⟩:=atoms_at ev hev (i:=K%6) (Nat.mod_lt _ (by omega))
 obtain ⟨tb,gb,rb,xb⟩:=atoms_at ev hev (i:=K / 6%6) (Nat.mod_lt _ (by omega))
 obtain ⟨tc,gc,rc,xc⟩:=atoms_at ev hev (i:=K / 36%6) (Nat.mod_lt _ (by omega))
 have la:K%6<6:=Nat.mod_lt _ (by omega)
 have lb:K / 6%6<6:=Nat.mod_lt _ (by omega)
 have lc:K / 36%6<6:=Nat.mod_lt _ (by omega)
 have P:∀t:Rt,(t=ev\/∀w:World,t.P w/\∀b,¬b∈t.fp)->(∀w':World,ev.P w'->t.P w')/\∀b∈t.fp,w.heap.size<=b:=λt h=>by
  rcases h with rfl|h
  .exact ⟨λ_ h=>h,λb hb=>Nat.le_trans H1.fr.size (fev b hb)⟩
  .exact ⟨λw' _=>(h w').1,λb hb=>((h w).2 b hb).elim⟩
 refine ⟨_,_,_,ev.s,rfl,H2.nwrow (n:=6) (sz:=4) (cs:=(atomsT ev).flatMap Rt.c) rfl (by decide) λw3 H3=>?_⟩
 refine ⟨by omega,by omega,Rt.at' (s:=⟨some (at0 w2.heap.size),6,6⟩) (H3.get 0:OwnRow _ _ _ _ _).rdn ga λp hp c=>?_⟩
 refine ⟨_,_,_,_,c.c0,c.c1,c.c2,c.c3,H3.nw λw4 _ H4=>H4.st4 1 rfl λw8 H8=>?_⟩
 refine ⟨by omega,by omega,Rt.at' (s:=⟨some (at0 w2.heap.size),6,6⟩) (H8.get 0:OwnRow _ _ _ _ _).rdn gb λp hp c=>?_⟩
 refine ⟨_,_,_,_,c.c0,c.c1,c.c2,c.c3,H8.nw λw9 _ H9=>H9.st4 2 rfl λw13 H13=>?_⟩
 refine ⟨by omega,by omega,Rt.at' (s:=⟨some (at0 w2.heap.size),6,6⟩) (H13.get 0:OwnRow _ _ _ _ _).rdn gc λp hp c=>?_⟩
 refine ⟨_,_,_,_,c.c0,c.c1,c.c2,c.c3,H13.nw λw14 _ H14=>H14.st4 3 rfl λw18 H18=>?_⟩
 refine ⟨_,_,_,ta.s,H18.ld 1 0,H18.ld 1 1,H18.ld 1 2,H18.ld 1 3,H18.nwrow (n:=1) (sz:=4) (cs:=[ta].flatMap Rt.c) rfl (by decide) λw19 H19=>H19.nw λw20 _ H20=>H20.st4 5 rfl λw24 H24=>?_⟩
 have pa:=P ta xa
 have pb:=P tb xb
 have pc:=P tc xc
 have ps:(Rt.mk 7 0 0 ⟨some (at0 w18.heap.size),1,1⟩ [ta]).P w24:=by
  unfold Rt.P
  exact ⟨(H24.get 4:OwnRow _ _ _ _ _).rdn,Rt.ps_of (by simp;exact pa.1 w24 (H24.getD 0))⟩
 have fr:Fr0 w w24:=H24.fr
 refine ig_tab tabT (by kernel_rfl) (JT w24 w.heap.size (K:Int) (atomsQ (K%6)) (atomsQ (K / 6%6)) (atomsQ (K / 36%6)) (.mk 7 0 0 [atomsQ (K%6)])) ?_ (rowsT fr.size) ?_
 .refine ⟨Fr.drew _ _,rfl,?_,?_,?_,?_,λi sp hs hL=>by cases hL⟩
  .exact VarT.fr0 (w:=w24) ⟨w3.heap.size,ta,rfl,H24.ob 1,ra,pa.1 w24 (H24.getD 0),pa.2⟩ (Fr.drew _ _)
  .exact VarT.fr0 (w:=w24) ⟨w8.heap.size,tb,rfl,H24.ob 2,rb,pb.1 w24 (H24.getD 0),pb.2⟩ (Fr.drew _ _)
  .exact VarT.fr0 (w:=w24) ⟨w13.heap.size,tc,rfl,H24.ob 3,rc,pc.1 w24 (H24.getD 0),pc.2⟩ (Fr.drew _ _)
  .refine VarT.fr0 (w:=w24) ⟨w19.heap.size,.mk 7 0 0 ⟨some (at0 w18.heap.size),1,1⟩ [ta],rfl,H24.ob 5,?_,ps,one_new (λb hb=>?_) pa.2⟩ (Fr.drew _ _)
   .rw [<-ra];rfl
   .simp only [blkL,qmC,qnM,or_false] at hb
    rw [hb];exact H18.fr.size
 .intro L E w' hL J
  obtain ⟨s,ts,h1,h2,h3,_⟩:=J.all 40 _ rfl (hL 40 (by decide))
  refine ⟨s,(K:Int),h1,J.k,?_⟩
  refine T9_mono (text_end hK2 h2 h3 (fr.tr0 J.fr)) λr w'' h=>⟨⟨K,h.1⟩,h.2⟩
theorem len_all:(List.range 1728).all (λk=>Nat.ble (textQ k).length 64)=true:=by kernel_rfl
theorem text_len (k:Nat):(textQ k).length<=64:=by
 rw [textQ_mod]
 exact Nat.le_of_ble_eq_true (qaT.1 len_all (k%1728) (List.mem_range.2 (Nat.mod_lt _ (by omega))))
end Go.Proofs.YthnoidogkbbkhaaGreatDoor
