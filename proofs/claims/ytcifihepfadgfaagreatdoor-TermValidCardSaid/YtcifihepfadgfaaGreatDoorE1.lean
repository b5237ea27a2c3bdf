import Derived.Test.YtcifihepfadgfaaGreatDoorTP
import Derived.Test.YtcifihepfadgfaaGreatDoorTM
import Derived.Test.YtcifihepfadgfaaGreatDoorVB
import Derived.Test.YtcifihepfadgfaaGreatDoorT1
import Derived.Laws.CopyRow
set_option linter.unusedVariables false
namespace Go.Proofs.YtcifihepfadgfaaGreatDoor
open List renaming mem_cons->cU,not_mem_nil->qnM,mem_of_getElem?->dC,getElem?_eq_getElem->g7,getElem?_eq_some_iff->nP,length_append->qlA,length_drop->qlD,mem_cons_of_mem->qmCM,drop_eq_getElem_cons->qdG,drop_of_length_le->qdO,eq_nil_of_length_eq_zero->UX
open Go Go.W
set_option maxRecDepth 100000
theorem lh2 {w:World} {a b:En} (ha:a.P w) (hb:b.P w):LH F0 w w [] [a,b]:=mf _ (by
 intro e he
 simp only [cU,qnM,or_false] at he
 rcases he with rfl|rfl
 .exact ha
 .exact hb)
def N5 (w:World) (l:List Int) (r:Ending) (w':World):Prop:=∃s:Sl,r=.returned s.v/\aO w' bW 1 s (l.map ia)/\∀b∈bA s,w.heap.size<=b
section
variable {M:Nat->Prop} {w0 w:World} {L D:List En} {bs:List Nat}
theorem _root_.Go.W.LH.NY (H:LH M w0 w L D) (i j:Nat) {e:TypeId} {sz:Nat} {s:Sl} {xs:List Value} {v:Value} {p:Addr} {K:World->Prop} (hi:L[i]? =some (.row e sz s xs)) (hp:s.a=some p) (hj:j<xs.length)
  (hK:∀w',LH M w0 w' (L.set i (.row e sz s (xs.set j v))) D->K w') (jS:∀b∈bs,En.g b∈L:=by simp):bR w (p.add j) v λw1=>kept bs w w1/\K w1:=by
 obtain ⟨q,hq,hqb,x1,x2,x3,x4⟩:=yf (H.get i hi) j hj v
 rw [hp] at hq
 cases hq
 refine ⟨x1,x2,λb hb=>?_,hK _ (H.CK i (.row e sz s (xs.set j v)) hi x4 x3 (λb hb=>.inl hb))⟩
 exact x4.gV b (H.own _ (jS b hb)) λhm=>H.vh hi (jS b hb) hm
end
theorem vB {p:Addr} {K:Addr->Prop} (h:K p):W.aX (some p) K:=h
set_option maxHeartbeats 1000000
def jI (w:World) (p:Addr) (d:Nd):Prop:=∀i v,(Nd.c d)[i]? =some v->w.cell? (p.add i)=some v
theorem jI.st {w w':World} {p:Addr} {d:Nd} (h:jI w p d) (hk:p.block<w.heap.size->w'.heap[p.block]? =w.heap[p.block]?):jI w' p d:=λi v hi=>by
 have hc:=h i v hi
 have hl:=oW hc
 rw [gp] at hl
 unfold World.cell? at hc ⊢
 rw [gp] at hc ⊢
 rw [hk hl];exact hc
theorem jI.lt {w:World} {p:Addr} {d:Nd} (h:jI w p d):p.block<w.heap.size:=by
 have:=oW (h 0 _ rfl)
 rwa [gp] at this
def _root_.Go.W.En.yc (p:Addr) (d:Nd):En:=⟨[p.block],λw=>jI w p d,λw w' h hp=>hp.st (h p.block (by simp)),λw hp b hb=>by simp at hb;subst hb;exact jI.lt hp,by simp⟩
theorem ze {w:World} {b:Nat} {d:Nd} {T:TypeId} (h:w.heap[b]? =some (.cells (Nd.c d).toArray T (0,0))):jI w (bD b) d:=λi v hi=>cellAt (p:=bD b) h rfl (by simpa using hi)
section
variable {w:World} {p:Addr} {d:Nd} (h:jI w p d)
include h
theorem jI.c0:w.cell? (p.add 0)=some (.i d.x.op):=h 0 _ rfl
theorem jI.c1:w.cell? (p.add 1)=some d.ks.v:=h 1 _ rfl
theorem jI.c2:w.cell? (p.add 2)=some (.i d.x.n):=h 2 _ rfl
theorem jI.c3:w.cell? (p.add 3)=some (.i d.x.m):=h 3 _ rfl
theorem jI.c4:w.cell? (p.add 4)=some (.u d.x.u):=h 4 _ rfl
theorem jI.c5:w.cell? (p.add 5)=some (.string d.x.tx):=h 5 _ rfl
theorem jI.s0:w.cell? ((p.add 6).add 0)=some (.i d.x.st.k):=by rw [add_add];exact h 6 _ rfl
theorem jI.s1:w.cell? ((p.add 6).add 1)=some (.i d.x.st.n):=by rw [add_add];exact h 7 _ rfl
theorem jI.s2:w.cell? ((p.add 6).add 2)=some (.i d.x.st.x):=by rw [add_add];exact h 8 _ rfl
end
theorem tz (n:Int) (w:World):Calls Tryz.prog fA #[.i n] w λr w'=>r=.returned (kh (jH n))/\bF w w':=
 term_bv.cT _ w _ ((mf [] (by simp)).bI λb w1 H1=>H1.aN λw2 H2=>⟨rfl,H2.fr⟩)
theorem By (n:Int) (w:World):Calls Tryz.prog lu #[.i n] w λr w'=>r=.returned (kh (mW n))/\bF w w':=
 term_str.cT _ w _ ((mf [] (by simp)).bI λb w1 H1=>H1.aN λw2 H2=>⟨rfl,H2.fr⟩)
theorem uw (s:ir) (w:World):Calls Tryz.prog iZ #[kh s] w λr w'=>r=.returned (.bool (s.k==0))/\bF w w':=
 term_isBV.cT _ _ _ w _ ((mf [] (by simp)).bI λb w1 H1=>⟨rfl,H1.fr⟩)
theorem jq (s:ir) (w:World):Calls Tryz.prog cS #[kh s] w λr w'=>r=.returned (.bool (s.k==1))/\bF w w':=
 term_isStr.cT _ _ _ w _ ((mf [] (by simp)).bI λb w1 H1=>⟨rfl,H1.fr⟩)
theorem wX (s:ir) (w:World):Calls Tryz.prog lq #[kh s] w λr w'=>r=.returned (.bool (kV s))/\bF w w':=
 term_isArray.cT _ _ _ w _ ((mf [] (by simp)).bI λb w1 H1=>aJ (λh=>⟨by unfold kV;rw [h];rfl,H1.fr⟩) (λh=>⟨by unfold kV;rw [beq_eq_false_iff_ne.2 h];rfl,H1.fr⟩))
theorem IQ (x y:ir) (w:World):Calls Tryz.prog o0 #[kh x,kh y] w λr w'=>r=.returned (.bool (decide (x=y)||(x.k==1&&y.k==1)))/\bF w w':=by
 refine term_alike.cT _ _ _ _ _ _ w _ ((mf [] (by simp)).bI λb w1 H1=>H1.bI λb2 w2 H2=>nG (a:=x) (b:=y) (λhe=>⟨by rw [decide_eq_true he];rfl,H2.fr⟩) (λhe=>H2.aL (jq x w2) ?_))
 rintro _ w3 rfl H3
 rw [decide_eq_false he,Bool.false_or]
 refine ⟨_,rfl,aJ (λhk=>H3.aL (jq y w3) ?_) (λhk=>⟨by rw [beq_eq_false_iff_ne.2 hk];rfl,H3.fr⟩)⟩
 rintro _ w4 rfl H4
 exact ⟨_,rfl,by rw [hk];rfl,H4.fr⟩
def Ua (oz ranges:Bool):Int:=if oz=true then (if ranges=true then 0 else 5) else 9
theorem Nt (s:ir) (oz ranges:Bool) (w:World):Calls Tryz.prog aW #[kh s,.bool oz,.bool ranges] w λr w'=>r=ku (s,Ua oz ranges)/\bF w w':=by
 refine term_result.cT _ _ _ _ _ w _ ((mf [] (by simp)).bI λb w1 H1=>H1.bI λb2 w2 H2=>eO (λh=>H2.aN λw3 H3=>⟨by rw [h];rfl,H3.fr⟩) (λh=>eO (λh2=>H2.aN λw3 H3=>⟨by rw [h,h2];rfl,H3.fr⟩) (λh2=>H2.aN λw3 H3=>⟨by rw [h,h2];rfl,H3.fr⟩)))
theorem xJ (s:ir) (w:World):Calls Tryz.prog kP #[kh s] w λr w'=>r=.returned (.int .i64 (lT s))/\bF w w':=by
 refine value_ValidSort.cT _ _ _ w _ ((mf [] (by simp)).bI λb1 w1 H1=>?_)
 have VJ:bN s=true->(Ending.returned (Value.int .i64 0)=.returned (.int .i64 (lT s))/\bF w w1):=λh=>⟨by unfold lT;rw [if_pos h],H1.fr⟩
 have bad:bN s=false->(Ending.returned (Value.int .i64 9)=.returned (.int .i64 (lT s))/\bF w w1):=λh=>⟨by unfold lT;rw [if_neg (by simp [h])],H1.fr⟩
 have plain:∀least:Int,(∀h1:least<=s.n,s.n<=64->s.x=0->bN s=true)->(¬(least<=s.n/\s.n<=64/\s.x=0)->bN s=false)->value_ValidSort.dU b1 s.k s.n s.x least 64 false w1 λr w'=>r=.returned (.int .i64 (lT s))/\bF w w':=by
  intro least h1 h2
  exact aK (λh=>bad (h2 (by omega))) (λh=>aK (λh'=>bad (h2 (by omega))) (λh'=>aM rfl (aS rfl (eB (λh3=>bad (h2 (λhh=>h3 hh.2.2))) (λh3=>VJ (h1 (by omega) (by omega) h3))))))
 have array:∀least:Int,(∀h1:least<=s.n,s.n<=64->1<=s.x->s.x<=16->bN s=true)->(¬(least<=s.n/\s.n<=64/\1<=s.x/\s.x<=16)->bN s=false)->value_ValidSort.dU b1 s.k s.n s.x least 64 true w1 λr w'=>r=.returned (.int .i64 (lT s))/\bF w w':=by
  intro least h1 h2
  exact aK (λh=>bad (h2 (by omega))) (λh=>aK (λh'=>bad (h2 (by omega))) (λh'=>aS rfl (aK (λh3=>bad (h2 (by omega))) (λh3=>aK (λh4=>bad (h2 (by omega))) (λh4=>aM rfl (VJ (h1 (by omega) (by omega) (by omega) (by omega))))))))
 refine aJ (λh0=>plain 1 (λh1 h2 h3=>?_) (λh=>?_)) (λh0=>aJ (λJt=>plain 0 (λh1 h2 h3=>?_) (λh=>?_)) (λJt=>aJ (λQS=>array 1 (λh1 h2 h3 h4=>?_) (λh=>?_)) (λQS=>aJ (λJu=>array 0 (λh1 h2 h3 h4=>?_) (λh=>?_)) (λJu=>bad ?_))))
 .unfold bN;simp [h0,h1,h2,h3]
 .unfold bN;rw [h0];simp;omega
 .unfold bN;simp [Jt,h1,h2,h3]
 .unfold bN;rw [Jt];simp;omega
 .unfold bN;simp [QS,h1,h2,h3,h4]
 .unfold bN;rw [QS];simp;omega
 .unfold bN;simp [Ju,h1,h2,h3,h4]
 .unfold bN;rw [Ju];simp;omega
 .unfold bN;simp [h0,Jt,QS,Ju]
theorem Ul {s:ByteArray} {i:Nat} (h:i<s.size):s[i]? =some (gQ (bl s) i):=by
 have h2:i<(bl s).length:=h
 have e:gQ (bl s) i=(bl s)[i]:=by unfold gQ;rw [List.getD_eq_getElem?_getD,g7 h2];rfl
 rw [e,getElem?_pos s i h]
 rfl
theorem Nr (s:ByteArray) (w:World):Calls Tryz.prog qy #[.string s] w λr w'=>r=.returned (.bool (qf (bl s)))/\bF w w':=by
 have hl:(bl s).length=s.size:=hV s
 have mL:∀(c:UInt8) (m:List UInt8),qf (c::m)=(decide (m.length<=15)&&oE c&&m.all mq):=λ_ _=>rfl
 cases hs:bl s with
 |nil=>
  have h0:s.size=0:=by rw [<-hl,hs];rfl
  exact term_isName.ok s w _ (aS (decide_eq_true (by omega)) ⟨rfl,Fr.refl _ _⟩)
 |cons c m=>
  have hm:s.size=m.length+1:=by rw [<-hl,hs];rfl
  have g0:gQ (bl s) 0=c:=by rw [hs];rfl
  refine term_isName.ok s w _ (aM (decide_eq_false (by omega)) (aK (λh=>⟨?_,Fr.refl _ _⟩) (λh=>?_)))
  .rw [mL,decide_eq_false (by omega)];rfl
  have e0:qf (c::m)=(oE c&&m.all mq):=by rw [mL,decide_eq_true (by omega:m.length<=15),Bool.true_and]
  rw [e0]
  have loop:∀(d i:Nat),i+d=s.size->(oE c&&m.all mq)=(if i=0 then (oE c&&m.all mq) else ((bl s).drop i).all mq)->term_isName.L1 s (i:Int) w λr w'=>r=.returned (.bool (oE c&&m.all mq))/\bF w w':=by
   intro d
   induction d with
   |zero=>
    intro i hi he
    rw [qdO (by omega),if_neg (by omega)] at he
    exact term_isName.lE _ _ _ _ (aM (decide_eq_false (by omega)) ⟨by rw [he];rfl,Fr.refl _ _⟩)
   |succ d ih=>
    intro i hi he
    have hg:=Ul (show i<s.size by omega)
    have hx:(bl s).drop i=gQ (bl s) i::(bl s).drop (i+1):=by
     rw [qdG (by omega:i<(bl s).length)]
     unfold gQ;rw [List.getD_eq_getElem?_getD,g7 (by omega:i<(bl s).length)];rfl
    have go:(if i=0 then oE (gQ (bl s) i) else mq (gQ (bl s) i))=true->term_isName.S5 s (i:Int) w λr w'=>r=.returned (.bool (oE c&&m.all mq))/\bF w w':=λh=>by
     show term_isName.L1 s (IntKind.wrap .i64 ((i:Int)+1)) w _
     rw [aZ _ (by omega)]
     refine ih (i+1) (by omega) ?_
     rw [if_neg (by omega)]
     by_cases h0:i=0
     .subst h0
      rw [if_pos rfl,g0] at h
      rw [h,Bool.true_and]
      rw [hs];rfl
     .rw [if_neg h0] at h he
      rw [he,hx,List.all_cons,h,Bool.true_and]
    have stop:(if i=0 then oE (gQ (bl s) i) else mq (gQ (bl s) i))=false->term_isName.S4 w λr w'=>r=.returned (.bool (oE c&&m.all mq))/\bF w w':=λh=>by
     refine ⟨?_,Fr.refl _ _⟩
     by_cases h0:i=0
     .subst h0
      rw [if_pos rfl,g0] at h
      rw [h,Bool.false_and]
     .rw [if_neg h0] at h he
      rw [he,hx,List.all_cons,h,Bool.false_and]
    generalize gQ (bl s) i=x at hg go stop
    have S3:∀l:Bool,l=oE x->term_isName.S3 s (i:Int) ((x.toNat:Nat):Int) l w λr w'=>r=.returned (.bool (oE c&&m.all mq))/\bF w w':=by
     intro l hl
     refine eO (λhf=>?_) (λht=>go ?_)
     .rw [hf] at hl
      refine aJ (λh0=>stop ?_) (λh0=>?_)
      .rw [if_pos (by omega),<-hl]
      have V5:i≠0:=by omega
      rw [if_neg V5] at go stop
      have nq:mq x=((decide (48<=x.toNat)&&decide (x.toNat<=57))||x==45):=by unfold mq;rw [<-hl,Bool.false_or]
      refine eB (λQT=>aK (λh1=>stop ?_) (λh1=>aK (λh2=>stop ?_) (λh2=>go ?_))) (λQT=>go ?_)
      .rw [nq,decide_eq_false (show ¬48<=x.toNat by omega)]
       have:(x==45)=false:=beq_eq_false_iff_ne.2 λe=>QT (by subst e;rfl)
       rw [this];rfl
      .rw [nq,decide_eq_false (show ¬x.toNat<=57 by omega),Bool.and_false]
       have:(x==45)=false:=beq_eq_false_iff_ne.2 λe=>QT (by subst e;rfl)
       rw [this];rfl
      .rw [nq,decide_eq_true (show 48<=x.toNat by omega),decide_eq_true (show x.toNat<=57 by omega)];rfl
      .have:x=45:=UInt8.toNat_inj.1 (by have:((45:UInt8).toNat:Int)=45:=rfl;omega)
       rw [nq,this];rfl
     .rw [ht] at hl
      split
      .exact hl.symm
      .unfold mq;rw [<-hl];rfl
    have ht:((i:Int)).toNat=i:=Int.toNat_natCast i
    refine term_isName.lE _ _ _ _ (aS (decide_eq_true (by omega)) ⟨by omega,x,by rw [ht];exact hg,aK (λh1=>S3 _ ?_) (λh1=>S3 _ ?_)⟩)
    .unfold oE
     rw [decide_eq_true (show 97<=x.toNat by omega),Bool.true_and]
     exact decide_eq_decide.2 (by omega)
    .unfold oE
     rw [decide_eq_false (show ¬97<=x.toNat by omega),Bool.false_and]
  exact loop s.size 0 (by omega) (by rw [if_pos rfl])
theorem Oy (t:ByteArray):(t.toList==(ByteArray.mk #[]).toList)=decide (t=ba []):=IW _ _
theorem EY {w:World} {p:Addr} {d:Nd} (h:jI w p d):Calls Tryz.prog nW #[.pointer (some p)] w λr w'=>r=.returned (.bool (okF d.x))/\bF w w':=by
 have S1:∀a b c e:Bool,term_fieldsFit.S1 p a b c e w λr w'=>r=.returned (.bool ((a||d.x.n==0)&&(b||d.x.m==0)&&(c||d.x.u==0)&&(e||decide (d.x.tx=ba []))))/\bF w w':=by
  intro a b c e
  cases a<;>cases b<;>cases c<;>cases e
  all_goals repeat (first |refine aM rfl ?_|refine aS rfl ?_|refine ⟨_,h.c2,aJ (λh2=>?_) (λh2=>⟨by rw [beq_eq_false_iff_ne.2 h2];simp,Fr.refl _ _⟩)⟩|refine ⟨_,h.c3,aJ (λh3=>?_) (λh3=>⟨by rw [beq_eq_false_iff_ne.2 h3];simp,Fr.refl _ _⟩)⟩|refine ⟨_,h.c4,aJ (λh4=>?_) (λh4=>⟨by rw [beq_eq_false_iff_ne.2 h4];simp,Fr.refl _ _⟩)⟩|refine ⟨_,h.c5,?_,Fr.refl _ _⟩)
  all_goals first |exact ⟨by simp [*],Fr.refl _ _⟩|(rw [Oy];simp [*])
 have fin:∀a b c e:Bool,a=DL d.x.op->b=(d.x.op==21)->c=(d.x.op==1)->e=DM d.x.op->term_fieldsFit.S1 p a b c e w λr w'=>r=.returned (.bool (okF d.x))/\bF w w':=by
  rintro a b c e rfl rfl rfl rfl
  exact S1 _ _ _ _
 have e0:∀k:Int,d.x.op≠k->(d.x.op==k)=false:=λk hk=>beq_eq_false_iff_ne.2 hk
 have S2:∀e:Bool,e=DM d.x.op->term_fieldsFit.S2 p false false false e d.x.op w λr w'=>r=.returned (.bool (okF d.x))/\bF w w':=by
  intro e he
  refine aJ (λh1=>fin _ _ _ _ ?_ ?_ ?_ he) (λh1=>aJ (λh2=>fin _ _ _ _ ?_ ?_ ?_ he) (λh2=>aJ (λh3=>aS (beq_iff_eq.2 h3) (fin _ _ _ _ ?_ ?_ ?_ he)) (λh3=>aJ (λh4=>aS (beq_iff_eq.2 h4) (fin _ _ _ _ ?_ ?_ ?_ he)) (λh4=>aJ (λh5=>fin _ _ _ _ ?_ ?_ ?_ he) (λh5=>fin _ _ _ _ ?_ ?_ ?_ he)))))
  all_goals first |(rw [‹d.x.op=_›];rfl)|(simp [DL, *])
 refine term_fieldsFit.ok p w _ ⟨_,h.c0,aJ (λh0=>aS (beq_iff_eq.2 h0) (fin _ _ _ _ ?_ ?_ ?_ ?_)) (λh0=>aJ (λh2=>aS (beq_iff_eq.2 h2) (fin _ _ _ _ ?_ ?_ ?_ ?_)) (λh2=>aJ (λh3=>fin _ _ _ _ ?_ ?_ ?_ ?_) (λh3=>S2 _ ?_)))⟩
 all_goals first |(rw [‹d.x.op=_›];rfl)|(unfold DM;simp [*])
def tu (s:ir) (e:Int) (r:Ending):Prop:=∃(t:ir) (e':Int),r=ku (t,e')/\e'=e/\(e=0->t=s)
theorem XM {w:World} {p:Addr} {d:Nd} (h:jI w p d):LH F0 w w [] [.yc p d]:=mf _ (by
 intro e he
 simp only [cU,qnM,or_false] at he
 subst he
 exact h)
def rU (n:Nx) (x y z:ir):Int:=if iL n.op x y z=false then 9 else if uq n x y z=false then 5 else if n.op=33/\Ai n.tx=false then 2 else 0
theorem PD {n:Nx} {x y z t:ir} {oz ranges:Bool} (n7:n.op≠33) (h1:oz=iL n.op x y z) (h2:oz=true->ranges=uq n x y z) (h3:oz=true->ranges=true->t=qP n x y z):tu (qP n x y z) (rU n x y z) (ku (t,Ua oz ranges)):=by
 refine ⟨t,_,rfl,?_,λh=>?_⟩
 .unfold Ua rU
  rw [<-h1]
  cases oz with
  |false=>rfl
  |true=>
   rw [<-h2 rfl]
   cases ranges with
   |false=>rfl
   |true=>simp [n7]
 .unfold rU at h
  rw [<-h1] at h
  cases oz with
  |false=>simp at h
  |true=>
   rw [<-h2 rfl] at h
   cases ranges with
   |false=>simp at h
   |true=>exact h3 rfl rfl
section
variable {M:Nat->Prop} {w0 w:World} {L D:List En} {bs Fe:List Nat}
theorem gO (H:LH F0 w0 w L D) {n:Nx} {x y z:ir} (t:ir) (oz ranges:Bool) (n7:n.op≠33) (h1:oz=iL n.op x y z) (h2:oz=true->ranges=uq n x y z) (h3:oz=true->ranges=true->t=qP n x y z) (jS:∀b∈bs,En.g b∈L:=by simp):
  fC Fe Tryz.prog aW #[kh t,.bool oz,.bool ranges] w λr w5=>∃a b c e:Int,r=.returned (.tuple #[.agg #[.i a,.i b,.i c],.i e])/\loc bs w5 λw6=>tu (qP n x y z) (rU n x y z) (.returned (.tuple #[.agg #[.i a,.i b,.i c],.i e]))/\bF w0 w6:=by
 refine H.aL (Nt t oz ranges w) ?_
 rintro _ w1 rfl H1
 exact ⟨_,_,_,_,rfl,H1.aN (λw2 H2=>⟨PD n7 h1 h2 h3,H2.fr⟩) jS⟩
end
def Qr (s:ir):Prop:=0<=s.n/\s.n<=64
theorem Kk {s:ir} (h:bN s=true):Qr s:=⟨(mF h).1,(mF h).2.1⟩
theorem MI:Qr ow:=⟨by decide,by decide⟩
theorem Un {w:World} {p:Addr} {d:Nd} {x y z:ir} (h:jI w p d) (h4:4<=d.x.op) (h23:d.x.op<=23) (hx:Qr x) (hy:Qr y) (hn:nO d.x.n) (hm:nO d.x.m):
  Calls Tryz.prog nA #[.pointer (some p),kh x,kh y,kh z] w λr w'=>tu (qP d.x x y z) (rU d.x x y z) r/\bF w w':=by
 refine term_sortOfBits.cT _ _ _ _ _ _ _ _ _ _ w _ ((XM h).bI λb5 w1 H1=>H1.bI λb6 w2 H2=>H2.bI λb7 w3 H3=>H3.bI λb8 w4 H4=>?_)
 obtain ⟨⟨op,kids,n,m,u,tx,st⟩,O9⟩:=d
 have C:∀{w5:World} {L:List En},LH F0 w w5 L [.yc p ⟨⟨op,kids,n,m,u,tx,st⟩,O9⟩]->jI w5 p ⟨⟨op,kids,n,m,u,tx,st⟩,O9⟩:=λH=>H.getD 0
 simp only at h4 h23 hn hm
 refine ⟨op,(C H4).c0,?_⟩
 obtain ⟨Ml,UR⟩:=hx
 obtain ⟨TL,Rn⟩:=hy
 obtain ⟨A9,UP⟩:=hn
 obtain ⟨TF,V3⟩:=hm
 have two:∀(c:Bool),c=true->c=true:=λ_ h=>h
 rcases wK (by omega) (by omega:op<=34) with rfl|rfl|rfl|rfl|rfl|rfl|rfl|rfl|rfl|rfl|rfl|rfl|rfl|rfl|rfl|rfl|rfl|rfl|rfl|rfl|rfl|rfl|rfl|rfl|rfl|rfl|rfl|rfl|rfl|rfl|rfl|rfl|rfl|rfl|rfl
 iterate 4 omega
 rotate_left 20
 iterate 11 omega
 all_goals repeat (first |refine aM rfl ?_|refine aS rfl ?_)
 iterate 2
  .refine H4.aN λw5 H5=>H5.aL (uw x w5) ?_
   rintro _ w6 rfl H6
   exact ⟨_,rfl,gO H6 x _ true (by simp) rfl (λ_=>rfl) (λ_ _=>rfl)⟩
 iterate 10
  .refine H4.aN λw5 H5=>H5.aL (uw x w5) ?_
   rintro _ w6 rfl H6
   refine ⟨_,rfl,aJ (λhk=>?_) (λhk=>?_)⟩
   .refine gO H6 x _ true (by simp) ?_ (λ_=>rfl) (λ_ _=>rfl)
    rw [nH]
    show _=(x.k==0&&decide (x=y))
    rw [hk];rfl
   .refine gO H6 x _ true (by simp) ?_ (λ_=>rfl) (λ_ _=>rfl)
    show _=(x.k==0&&decide (x=y))
    rw [beq_eq_false_iff_ne.2 hk];rfl
 iterate 2
  .refine H4.aN λw5 H5=>H5.aL (tz 1 w5) ?_
   rintro _ w6 rfl H6
   refine ⟨_,_,_,rfl,H6.aL (uw x w6) ?_⟩
   rintro _ w7 rfl H7
   refine ⟨_,rfl,aJ (λhk=>?_) (λhk=>?_)⟩
   .refine gO H7 (jH 1) _ true (by simp) ?_ (λ_=>rfl) (λ_ _=>rfl)
    rw [nH]
    show _=(x.k==0&&decide (x=y))
    rw [hk];rfl
   .refine gO H7 (jH 1) _ true (by simp) ?_ (λ_=>rfl) (λ_ _=>rfl)
    show _=(x.k==0&&decide (x=y))
    rw [beq_eq_false_iff_ne.2 hk];rfl
 .refine H4.aN λw5 H5=>H5.aL (tz 1 w5) ?_
  rintro _ w6 rfl H6
  refine ⟨_,_,_,rfl,H6.aL (IQ x y w6) ?_⟩
  rintro _ w7 rfl H7
  exact ⟨_,rfl,gO H7 (jH 1) _ true (by simp) rfl (λ_=>rfl) (λ_ _=>rfl)⟩
 .refine H4.bI λpo w5 H5=>H5.aN λw6 H6=>H6.aL (jq y w6) ?_
  rintro _ w7 rfl H7
  have S4:∀(t:ir) (w8:World),((decide (y=z)||(y.k==1&&z.k==1))=true->t=if y.k=1 then mW (if y.n<z.n then z.n else y.n) else y)->LH F0 w w8 [.g b5,.g b6,.g b7,.g b8,.g po] [.yc p ⟨⟨19,kids,n,m,u,tx,st⟩,O9⟩]->term_sortOfBits.pj b5 x.k x.n x.x b6 y.k y.n y.x b7 z.k z.n z.x b8 0 0 0 po t.k t.n t.x w8 λr w'=>tu (qP ⟨19,kids,n,m,u,tx,st⟩ x y z) (rU ⟨19,kids,n,m,u,tx,st⟩ x y z) r/\bF w w':=by
   intro t w8 ht H8
   refine H8.aN λw9 H9=>H9.aL (tz 1 w9) ?_
   rintro _ pT rfl mg
   have fe:iL 19 x y z=(decide (x=jH 1)&&(decide (y=z)||(y.k==1&&z.k==1))):=rfl
   refine ⟨_,_,_,rfl,nG (a:=x) (b:=jH 1) (λhe=>mg.aL (IQ y z pT) ?_) (λhe=>?_)⟩
   .rintro _ rQ rfl qn
    refine ⟨_,rfl,gO qn t _ true (by simp) ?_ (λ_=>rfl) (λh _=>ht h)⟩
    show _=iL 19 x y z
    rw [fe,decide_eq_true he];rfl
   .refine gO mg t _ true (by simp) ?_ (λ_=>rfl) (λh _=>by cases h)
    show _=iL 19 x y z
    rw [fe,decide_eq_false he];rfl
  have yes:∀t:ir,y.k=1->z.k=1->t=mW (if y.n<z.n then z.n else y.n)->((decide (y=z)||(y.k==1&&z.k==1))=true->t=if y.k=1 then mW (if y.n<z.n then z.n else y.n) else y):=λt h1 _ h3 _=>by rw [if_pos h1,h3]
  refine ⟨_,rfl,aJ (λhk=>H7.aL (jq z w7) ?_) (λhk=>S4 y w7 (λ_=>by rw [if_neg hk]) H7)⟩
  rintro _ w8 rfl H8
  refine ⟨_,rfl,aJ (λsG=>H8.aL (By _ w8) ?_) (λsG=>S4 y w8 (λhf=>?_) H8)⟩
  .rintro _ w9 rfl H9
   exact ⟨_,_,_,rfl,H9.aN λpT mg=>S4 (mW (if y.n<z.n then z.n else y.n)) pT (yes _ hk sG rfl) mg⟩
  .rw [beq_eq_false_iff_ne.2 sG,Bool.and_false,Bool.or_false] at hf
   have:=of_decide_eq_true hf
   exact absurd (by rw [<-this];exact hk) sG
 .have e1:IntKind.wrap .i64 (x.n+y.n)=x.n+y.n:=IntWalk.i64_in _ (by omega)
  have fe:iL 20 x y z=(x.k==0&&y.k==0):=rfl
  refine H4.aN λw5 H5=>?_
  rw [e1]
  refine H5.aL (tz _ w5) ?_
  rintro _ w6 rfl H6
  refine ⟨_,_,_,rfl,H6.aL (uw x w6) ?_⟩
  rintro _ w7 rfl H7
  refine ⟨_,rfl,aJ (λhk=>H7.aL (uw y w7) ?_) (λhk=>?_)⟩
  .rintro _ w8 rfl H8
   refine ⟨_,rfl,gO H8 (jH (x.n+y.n)) _ _ (by simp) ?_ (λ_=>rfl) (λ_ _=>rfl)⟩
   show _=iL 20 x y z
   rw [fe,hk];rfl
  .refine gO H7 (jH (x.n+y.n)) _ _ (by simp) ?_ (λh=>by cases h) (λh _=>by cases h)
   show _=iL 20 x y z
   rw [fe,beq_eq_false_iff_ne.2 hk];rfl
 .have hr:uq ⟨21,kids,n,m,u,tx,st⟩ x y z=(decide (0<=m)&&decide (m<=n)&&decide (n<x.n)):=rfl
  refine H4.aN λw5 H5=>⟨_,(C H5).c2,_,(C H5).c3,_,(C H5).c3,H5.aL (tz _ w5) ?_⟩
  rintro _ w6 rfl H6
  refine ⟨_,_,_,rfl,(C H6).c3,H6.aL (uw x w6) ?_⟩
  rintro _ w7 rfl H7
  refine ⟨_,rfl,(C H7).c3,aK (λg1=>⟨_,(C H7).c3,_,(C H7).c2,aK (λg2=>⟨_,(C H7).c2,gO H7 (jH _) _ _ (by simp) rfl (λ_=>?_) (λ_ g3=>?_)⟩) (λg2=>gO H7 (jH _) _ _ (by simp) rfl (λ_=>?_) (λ_ h=>by cases h))⟩) (λg1=>gO H7 (jH _) _ _ (by simp) rfl (λ_=>?_) (λ_ h=>by cases h))⟩
  .rw [hr,decide_eq_true (show 0<=m from g1),decide_eq_true (show m<=n from g2)];rfl
  .have g1:0<=m:=g1
   have g2:m<=n:=g2
   have g3:n<x.n:=of_decide_eq_true g3
   show jH (IntKind.wrap .i64 (IntKind.wrap .i64 (n - m)+1))=jH (n - m+1)
   rw [IntWalk.i64_in (n - m) (by omega),IntWalk.i64_in _ (by omega)]
  .rw [hr,decide_eq_false (show ¬m<=n from g2),Bool.and_false];rfl
  .rw [hr,decide_eq_false (show ¬0<=m from g1)];rfl
 iterate 2
  .have Xq:IntKind.wrap .i64 (64 - x.n)=64 - x.n:=IntWalk.i64_in _ (by omega)
   refine H4.aN λw5 H5=>⟨_,(C H5).c2,_,(C H5).c2,H5.aL (tz _ w5) ?_⟩
   rintro _ w6 rfl H6
   refine ⟨_,_,_,rfl,(C H6).c2,H6.aL (uw x w6) ?_⟩
   rintro _ w7 rfl H7
   refine ⟨_,rfl,(C H7).c2,aK (λg1=>⟨_,(C H7).c2,gO H7 (jH _) _ _ (by simp) rfl (λ_=>?_) (λ_ g3=>?_)⟩) (λg1=>gO H7 (jH _) _ _ (by simp) rfl (λ_=>?_) (λ_ h=>by cases h))⟩
   .show _=(decide (1<=n)&&decide (n<=64 - x.n))
    rw [Xq,decide_eq_true (show 1<=n from g1)];rfl
   .have g1:1<=n:=g1
    rw [Xq] at g3
    have g3:n<=64 - x.n:=of_decide_eq_true g3
    show jH (IntKind.wrap .i64 (x.n+n))=jH (x.n+n)
    rw [IntWalk.i64_in _ (by omega)]
   .show _=(decide (1<=n)&&decide (n<=64 - x.n))
    rw [decide_eq_false (show ¬1<=n from g1)];rfl
theorem Kc {x y z:ir} (ha:kV x=true):iL 25 x y z=(decide (y=jH x.x)&&(if x.k=3 then z.k==1&&decide (z.n<=x.n) else decide (z=nh x))):=by
 show (kV x&&decide (y=jH x.x)&&(decide (z=nh x)||(x.k==3&&z.k==1&&decide (z.n<=x.n))))=_
 rw [ha,Bool.true_and]
 congr 1
 by_cases h3:x.k=3
 .rw [if_pos h3,h3]
  have he:nh x=mW x.n:=by unfold nh;rw [if_neg (by omega)]
  rw [he]
  by_cases hz:z=mW x.n
  .subst hz
   simp [mW]
  .rw [decide_eq_false hz];rfl
 .rw [if_neg h3,beq_eq_false_iff_ne.2 h3]
  simp
theorem Np {w:World} {p:Addr} {d:Nd} {x y z:ir} (h:jI w p d) (h4:24<=d.x.op) (h26:d.x.op<=26):
  Calls Tryz.prog l4 #[.pointer (some p),kh x,kh y,kh z] w λr w'=>tu (qP d.x x y z) (rU d.x x y z) r/\bF w w':=by
 refine term_sortOfArrays.cT _ _ _ _ _ _ _ _ _ _ w _ ((XM h).bI λb5 w1 H1=>H1.bI λb6 w2 H2=>H2.bI λb7 w3 H3=>H3.bI λb8 w4 H4=>?_)
 have C:∀{w5:World} {L:List En},LH F0 w w5 L [.yc p d]->jI w5 p d:=λH=>H.getD 0
 refine ⟨_,(C H4).c0,aJ (λho=>H4.aN λw5 H5=>H5.aL (tz x.x w5) ?_) (λho=>H4.aL (tz x.n w4) ?_)⟩
 .rintro _ w6 rfl H6
  refine ⟨_,_,_,rfl,H6.aL (wX x w6) ?_⟩
  rintro _ w7 rfl H7
  have fe:iL d.x.op x y z=(kV x&&decide (x=y)):=by rw [ho];rfl
  have fr:uq d.x x y z=true:=by unfold uq;rw [ho];rfl
  have fs:qP d.x x y z=jH x.x:=by unfold qP;rw [ho];rfl
  refine ⟨_,rfl,bB (λhk=>?_) (λhk=>?_)⟩
  .refine gO H7 (jH x.x) _ true (by omega) ?_ (λ_=>fr.symm) (λ_ _=>fs.symm)
   rw [fe,nH,hk];rfl
  .refine gO H7 (jH x.x) _ true (by omega) ?_ (λ_=>fr.symm) (λ_ _=>fs.symm)
   rw [fe,hk];rfl
 rintro _ w6 rfl H6
 have fr:uq d.x x y z=true:=by unfold uq;rw [if_neg (by omega),if_neg (by omega),if_neg (by omega),if_neg (by omega),if_neg (by omega)]
 have S1:∀(t:ir) (po:Nat) (f:Bool) (w7:World),f=(kV x&&decide (y=jH x.x))->(kV x=true->t=nh x)->LH F0 w w7 [.g b5,.g b6,.g b7,.g b8,.g po] [.yc p d]->term_sortOfArrays.fY p b5 x.k x.n x.x b7 z.k z.n z.x b8 0 0 0 po t.k t.n t.x f w7 λr w'=>tu (qP d.x x y z) (rU d.x x y z) r/\bF w w':=by
  intro t po f w7 hf ht H7
  refine ⟨_,(C H7).c0,aJ (λYP=>?_) (λYP=>?_)⟩
  .refine gO H7 t f true (by omega) ?_ (λ_=>fr.symm) (λhh _=>?_)
   .rw [hf,YP];rfl
   .rw [hf] at hh
    simp only [Bool.and_eq_true] at hh
    rw [ht hh.1]
    unfold qP;rw [YP];rfl
  have UK:d.x.op=25:=by omega
  have fs:qP d.x x y z=x:=by unfold qP;rw [UK];rfl
  have ff:f=false->iL d.x.op x y z=false:=λh=>by
   rw [UK]
   show (kV x&&decide (y=jH x.x)&&(decide (z=nh x)||(x.k==3&&z.k==1&&decide (z.n<=x.n))))=_
   rw [<-hf,h];rfl
  have ft:f=true->kV x=true/\iL d.x.op x y z=(if x.k=3 then z.k==1&&decide (z.n<=x.n) else decide (z=nh x)):=λh=>by
   rw [h] at hf
   have hf:=hf.symm
   simp only [Bool.and_eq_true] at hf
   refine ⟨hf.1,?_⟩
   rw [UK,Kc hf.1,hf.2,Bool.true_and]
  refine aJ (λhk=>bB (λOT=>H7.aN λw8 H8=>H8.aL (jq z w8) ?_) (λZl=>H7.aN λw8 H8=>gO H8 x _ true (by omega) (ff Zl).symm (λ_=>fr.symm) (λ_ _=>fs.symm))) (λhk=>bB (λOT=>H7.aN λw8 H8=>gO H8 x _ true (by omega) ?_ (λ_=>fr.symm) (λ_ _=>fs.symm)) (λZl=>H7.aN λw8 H8=>gO H8 x _ true (by omega) (ff Zl).symm (λ_=>fr.symm) (λ_ _=>fs.symm)))
  .rintro _ w9 rfl H9
   have:=(ft OT).2
   rw [if_pos hk] at this
   refine ⟨_,rfl,aJ (λhz=>gO H9 x _ true (by omega) ?_ (λ_=>fr.symm) (λ_ _=>fs.symm)) (λhz=>gO H9 x _ true (by omega) ?_ (λ_=>fr.symm) (λ_ _=>fs.symm))⟩
   .rw [this,hz];rfl
   .rw [this,beq_eq_false_iff_ne.2 hz];rfl
  .have h2:=ft OT
   rw [if_neg hk] at h2
   rw [h2.2,nH,ht h2.1]
 have S0:∀(t:ir) (po:Nat) (w7:World),(kV x=true->t=nh x)->LH F0 w w7 [.g b5,.g b6,.g b7,.g b8,.g po] [.yc p d]->term_sortOfArrays.dU p b5 x.k x.n x.x b6 y.k y.n y.x b7 z.k z.n z.x b8 0 0 0 po t.k t.n t.x w7 λr w'=>tu (qP d.x x y z) (rU d.x x y z) r/\bF w w':=by
  intro t po w7 ht H7
  refine H7.aN λw8 H8=>H8.aL (wX x w8) ?_
  rintro _ w9 rfl H9
  refine ⟨_,rfl,bB (λhk=>H9.aL (tz x.x w9) ?_) (λhk=>S1 t po false w9 (by rw [hk];rfl) ht H9)⟩
  rintro _ pT rfl mg
  exact ⟨_,_,_,rfl,S1 t po _ pT (by rw [hk];exact nH y (jH x.x)) ht mg⟩
 refine ⟨_,_,_,rfl,H6.bI λpo w7 H7=>aJ (λhk=>H7.aN λw8 H8=>H8.aL (By x.n w8) ?_) (λhk=>H7.aN λw8 H8=>S0 (jH x.n) po w8 (λha=>?_) H8)⟩
 .rintro _ w9 rfl H9
  exact ⟨_,_,_,rfl,H9.aN λpT mg=>S0 (mW x.n) po pT (λ_=>by unfold nh;rw [if_neg (by omega)]) mg⟩
 .unfold kV at ha
  simp only [Bool.or_eq_true,beq_iff_eq] at ha
  unfold nh
  rw [if_pos (by omega)]
def Fs (t:ByteArray):Prop:=∀w,Calls Tryz.prog mC #[.string t] w λr w'=>r=.returned (.bool (Ai t))/\bF w w'
theorem Ke {w:World} {p:Addr} {d:Nd} {x y z:ir} (h:jI w p d) (h27:27<=d.x.op) (HQ:d.x.op<=34) (hx:Qr x) (hy:Qr y) (hz:Qr z) (hN:d.x.op=33->Fs d.x.tx):
  Calls Tryz.prog lr #[.pointer (some p),kh x,kh y,kh z] w λr w'=>tu (qP d.x x y z) (rU d.x x y z) r/\bF w w':=by
 refine term_sortOfStrings.cT _ _ _ _ _ _ _ _ _ _ w _ ((XM h).bI λb5 w1 H1=>H1.bI λb6 w2 H2=>H2.bI λb7 w3 H3=>H3.bI λb8 w4 H4=>?_)
 obtain ⟨⟨op,kids,n,m,u,tx,st⟩,O9⟩:=d
 have C:∀{w5:World} {L:List En},LH F0 w w5 L [.yc p ⟨⟨op,kids,n,m,u,tx,st⟩,O9⟩]->jI w5 p ⟨⟨op,kids,n,m,u,tx,st⟩,O9⟩:=λH=>H.getD 0
 simp only at h27 HQ hN
 refine ⟨op,(C H4).c0,?_⟩
 obtain ⟨Ml,UR⟩:=hx
 obtain ⟨TL,Rn⟩:=hy
 obtain ⟨NU,Mm⟩:=hz
 have Zz:op=27\/op=28\/op=29\/op=30\/op=31\/op=32\/op=33\/op=34:=by omega
 rcases Zz with rfl|rfl|rfl|rfl|rfl|rfl|rfl|rfl
 all_goals repeat (first |refine aM rfl ?_|refine aS rfl ?_)
 .refine H4.aN λw5 H5=>H5.aL (tz 7 w5) ?_
  rintro _ w6 rfl H6
  refine ⟨_,_,_,rfl,H6.aL (jq x w6) ?_⟩
  rintro _ w7 rfl H7
  exact ⟨_,rfl,gO H7 (jH 7) _ true (by simp) rfl (λ_=>rfl) (λ_ _=>rfl)⟩
 .have hr:uq ⟨28,kids,n,m,u,tx,st⟩ x y z=(decide (0<=n)&&decide (n<=63)):=rfl
  refine H4.aN λw5 H5=>⟨_,(C H5).c2,H5.aL (tz 8 w5) ?_⟩
  rintro _ w6 rfl H6
  refine ⟨_,_,_,rfl,(C H6).c2,H6.aL (jq x w6) ?_⟩
  rintro _ w7 rfl H7
  refine ⟨_,rfl,(C H7).c2,aK (λg1=>⟨_,(C H7).c2,gO H7 (jH 8) _ _ (by simp) rfl (λ_=>?_) (λ_ _=>rfl)⟩) (λg1=>gO H7 (jH 8) _ _ (by simp) rfl (λ_=>?_) (λ_ h=>by cases h))⟩
  .rw [hr,decide_eq_true (show 0<=n from g1),Bool.true_and]
   exact decide_eq_decide.2 (by show n<64↔n<=63;omega)
  .rw [hr,decide_eq_false (show ¬0<=n from g1)];rfl
 .have e1:IntKind.wrap .i64 (x.n+y.n)=x.n+y.n:=IntWalk.i64_in _ (by omega)
  have fe:iL 29 x y z=(x.k==1&&y.k==1):=rfl
  refine H4.aN λw5 H5=>?_
  rw [e1]
  refine H5.aL (By _ w5) ?_
  rintro _ w6 rfl H6
  refine ⟨_,_,_,rfl,H6.aL (jq x w6) ?_⟩
  rintro _ w7 rfl H7
  refine ⟨_,rfl,aJ (λhk=>H7.aL (jq y w7) ?_) (λhk=>?_)⟩
  .rintro _ w8 rfl H8
   refine ⟨_,rfl,gO H8 (mW (x.n+y.n)) _ _ (by simp) ?_ (λ_=>rfl) (λ_ _=>rfl)⟩
   show _=iL 29 x y z
   rw [fe,hk];rfl
  .refine gO H7 (mW (x.n+y.n)) _ _ (by simp) ?_ (λh=>by cases h) (λh _=>by cases h)
   show _=iL 29 x y z
   rw [fe,beq_eq_false_iff_ne.2 hk];rfl
 .have fe:iL 30 x y z=(x.k==1&&decide (y=jH 7)&&decide (z=jH 7)):=rfl
  refine H4.aN λw5 H5=>H5.aL (jq x w5) ?_
  rintro _ w6 rfl H6
  refine ⟨_,rfl,aJ (λhk=>H6.aL (tz 7 w6) ?_) (λhk=>gO H6 x _ true (by simp) ?_ (λ_=>rfl) (λ_ _=>rfl))⟩
  .rintro _ w7 rfl H7
   refine ⟨_,_,_,rfl,nG (a:=y) (b:=jH 7) (λhe=>H7.aL (tz 7 w7) ?_) (λhe=>gO H7 x _ true (by simp) ?_ (λ_=>rfl) (λ_ _=>rfl))⟩
   .rintro _ w8 rfl H8
    refine ⟨_,_,_,rfl,gO H8 x _ true (by simp) ?_ (λ_=>rfl) (λ_ _=>rfl)⟩
    show _=iL 30 x y z
    rw [fe,hk,decide_eq_true he]
    exact nH z (jH 7)
   .show _=iL 30 x y z
    rw [fe,decide_eq_false he,Bool.and_false];rfl
  .show _=iL 30 x y z
   rw [fe,beq_eq_false_iff_ne.2 hk];rfl
 .have fe:iL 31 x y z=(x.k==1&&y.k==1):=rfl
  refine H4.aN λw5 H5=>H5.aL (tz 7 w5) ?_
  rintro _ w6 rfl H6
  refine ⟨_,_,_,rfl,H6.aL (jq x w6) ?_⟩
  rintro _ w7 rfl H7
  refine ⟨_,rfl,aJ (λhk=>H7.aL (jq y w7) ?_) (λhk=>?_)⟩
  .rintro _ w8 rfl H8
   refine ⟨_,rfl,gO H8 (jH 7) _ true (by simp) ?_ (λ_=>rfl) (λ_ _=>rfl)⟩
   show _=iL 31 x y z
   rw [fe,hk];rfl
  .refine gO H7 (jH 7) _ true (by simp) ?_ (λ_=>rfl) (λ_ _=>rfl)
   show _=iL 31 x y z
   rw [fe,beq_eq_false_iff_ne.2 hk];rfl
 .have e1:IntKind.wrap .i64 (x.n+z.n)=x.n+z.n:=IntWalk.i64_in _ (by omega)
  have fe:iL 32 x y z=(x.k==1&&y.k==1&&z.k==1):=rfl
  refine H4.aN λw5 H5=>?_
  rw [e1]
  refine H5.aL (By _ w5) ?_
  rintro _ w6 rfl H6
  refine ⟨_,_,_,rfl,H6.aL (jq x w6) ?_⟩
  rintro _ w7 rfl H7
  have no:∀{w8:World} {L:List En} {bs Fe:List Nat},LH F0 w w8 L [.yc p ⟨⟨32,kids,n,m,u,tx,st⟩,O9⟩]->(∀b∈bs,En.g b∈L)->iL 32 x y z=false->fC Fe Tryz.prog aW #[kh (mW (x.n+z.n)),.bool false,.bool (decide (x.n+z.n<=64))] w8 λr w5=>∃a b c e:Int,r=.returned (.tuple #[.agg #[.i a,.i b,.i c],.i e])/\loc bs w5 λw6=>tu (qP ⟨32,kids,n,m,u,tx,st⟩ x y z) (rU ⟨32,kids,n,m,u,tx,st⟩ x y z) (.returned (.tuple #[.agg #[.i a,.i b,.i c],.i e]))/\bF w w6:=λH8 hb hf=>gO H8 _ _ _ (by simp) hf.symm (λh=>by cases h) (λh _=>by cases h) hb
  refine ⟨_,rfl,aJ (λhk=>H7.aL (jq y w7) ?_) (λhk=>no H7 (by simp) ?_)⟩
  .rintro _ w8 rfl H8
   refine ⟨_,rfl,aJ (λsG=>H8.aL (jq z w8) ?_) (λsG=>no H8 (by simp) ?_)⟩
   .rintro _ w9 rfl H9
    refine ⟨_,rfl,gO H9 (mW (x.n+z.n)) _ _ (by simp) ?_ (λ_=>rfl) (λ_ _=>rfl)⟩
    show _=iL 32 x y z
    rw [fe,hk,sG];rfl
   .rw [fe,beq_eq_false_iff_ne.2 sG,Bool.and_false];rfl
  .rw [fe,beq_eq_false_iff_ne.2 hk];rfl
 .have fe:iL 33 x y z=(x.k==1):=rfl
  have fr:uq ⟨33,kids,n,m,u,tx,st⟩ x y z=true:=rfl
  refine H4.aL (jq x w4) ?_
  rintro _ w5 rfl H5
  refine ⟨_,rfl,eO (λhk=>H5.aN λw6 H6=>⟨⟨x,9,rfl,?_,λh=>?_⟩,H6.fr⟩) (λhk=>⟨tx,(C H5).c5,H5.aL (hN rfl w5) ?_⟩)⟩
  .unfold rU
   rw [show iL (33:Int) x y z=false from hk];rfl
  .unfold rU at h
   rw [show iL (33:Int) x y z=false from hk] at h
   cases h
  .rintro _ w6 rfl H6
   have he:rU ⟨33,kids,n,m,u,tx,st⟩ x y z=if Ai tx=false then 2 else 0:=by
    unfold rU
    rw [show iL (33:Int) x y z=true from hk,fr]
    simp
   refine ⟨_,rfl,eO (λhc=>H6.aN λw7 H7=>⟨⟨x,2,rfl,?_,λh=>?_⟩,H7.fr⟩) (λhc=>H6.aL (tz 1 w6) ?_)⟩
   .rw [he,if_pos hc]
   .rw [he,if_pos hc] at h
    cases h
   .rintro _ w7 rfl H7
    exact ⟨_,_,_,rfl,H7.aN λw8 H8=>⟨⟨jH 1,0,rfl,by rw [he,if_neg (by rw [hc];simp)],λ_=>rfl⟩,H8.fr⟩⟩
 .refine H4.aN λw5 H5=>H5.aL (By 1 w5) ?_
  rintro _ w6 rfl H6
  refine ⟨_,_,_,rfl,H6.aL (tz 8 w6) ?_⟩
  rintro _ w7 rfl H7
  exact ⟨_,_,_,rfl,gO H7 (mW 1) _ true (by simp) (nH x (jH 8)) (λ_=>rfl) (λ_ _=>rfl)⟩
theorem LN (u n:Int) (h0:0<=u) (h1:0<=n) (h2:n<64):((Int.fdiv u (2^(min (Int.toNat n) (IntKind.bits .u64)))) !=0)=decide (2^n.toNat<=u):=by
 have e:min (Int.toNat n) (IntKind.bits .u64)=n.toNat:=by show min n.toNat 64=_;omega
 rw [e]
 have hp:(0:Int)<2^n.toNat:=Int.pow_pos (by decide)
 generalize (2:Int)^n.toNat=q at hp
 have hd:=Int.fdiv_eq_ediv_of_nonneg u (by omega:0<=q)
 rw [hd]
 by_cases hq:q<=u
 .rw [decide_eq_true hq]
  have:1<=u / q:=by rw [Int.le_ediv_iff_mul_le hp];omega
  simp only [bne_iff_ne,ne_eq]
  omega
 .rw [decide_eq_false hq]
  rw [Int.ediv_eq_zero_of_lt h0 (by omega)]
  rfl
theorem Uo {w:World} {p:Addr} {d:Nd} (g:List Nx) (h:jI w p d) (h1:1<=d.x.op) (h3:d.x.op<=3) (hu:0<=d.x.u):
  Calls Tryz.prog nB #[.pointer (some p)] w λr w'=>tu (dM g d.x).1 (dM g d.x).2 r/\bF w w':=by
 refine term_sortOfLeaf.cT _ w _ ((XM h).bI λb2 w1 H1=>?_)
 have C:∀{w5:World} {L:List En},LH F0 w w5 L [.yc p d]->jI w5 p d:=λH=>H.getD 0
 have er:∀(t:ir) (e:Int) (w5:World),e≠0->(dM g d.x)=(ow,e)->LH F0 w w5 [.g b2] [.yc p d]->loc [b2] w5 λw6=>tu (dM g d.x).1 (dM g d.x).2 (.returned (.tuple #[.agg #[.i t.k,.i t.n,.i t.x],.i e]))/\bF w w6:=λt e w5 h0 he H5=>H5.aN λw6 H6=>⟨⟨t,e,rfl,by rw [he],λh=>by rw [he] at h;exact absurd h h0⟩,H6.fr⟩
 have ok:∀(t:ir) (w5:World),(dM g d.x)=(t,0)->LH F0 w w5 [.g b2] [.yc p d]->loc [b2] w5 λw6=>tu (dM g d.x).1 (dM g d.x).2 (.returned (.tuple #[.agg #[.i t.k,.i t.n,.i t.x],.i 0]))/\bF w w6:=λt w5 he H5=>H5.aN λw6 H6=>⟨⟨t,0,rfl,by rw [he],λ_=>by rw [he]⟩,H6.fr⟩
 refine ⟨_,(C H1).c0,aJ (λh2=>?_) (λh2=>?_)⟩
 .refine ⟨_,(C H1).c5,aK (λhs=>⟨_,_,_,(C H1).s0,(C H1).s1,(C H1).s2,er d.x.st 5 w1 (by decide) ?_ H1⟩) (λhs=>⟨_,(C H1).c5,H1.aL (By _ w1) ?_⟩)⟩
  .unfold dM;rw [if_pos h2,if_pos (by omega)]
  .rintro _ w2 rfl H2
   refine ⟨_,_,_,rfl,ok (mW d.x.tx.size) w2 ?_ H2⟩
   unfold dM;rw [if_pos h2,if_neg (by omega)]
 have l1:dM g d.x=if bN d.x.st=false then (ow,9) else
   if d.x.op=1/\d.x.st.k≠0\/d.x.op=3/\kV d.x.st=false then (ow,9) else
   if d.x.op=1/\Od d.x.u d.x.st.n=true then (ow,5) else (d.x.st,0):=by
  unfold dM;rw [if_neg h2,if_neg (λh=>by omega)]
  have:¬(d.x.op=0/\zO g d.x=true):=λh=>by omega
  simp only [this,if_false]
 refine ⟨_,_,_,(C H1).s0,(C H1).s1,(C H1).s2,H1.aL (xJ d.x.st w1) ?_⟩
 rintro _ w2 rfl H2
 refine ⟨_,rfl,zt (λhv=>⟨_,_,_,(C H2).s0,(C H2).s1,(C H2).s2,?_⟩) (λhv=>?_)⟩
 .have:lT d.x.st=9:=by unfold lT;rw [hv];rfl
  rw [this]
  exact er d.x.st 9 w2 (by decide) (by rw [l1,if_pos hv]) H2
 rw [if_neg (by rw [hv];simp)] at l1
 refine ⟨_,(C H2).c0,aJ (λh3=>⟨_,_,_,(C H2).s0,(C H2).s1,(C H2).s2,H2.aL (wX d.x.st w2) ?_⟩) (λJu=>?_)⟩
 .rintro _ w3 rfl H3
  refine ⟨_,rfl,eO (λha=>⟨_,_,_,(C H3).s0,(C H3).s1,(C H3).s2,er d.x.st 9 w3 (by decide) ?_ H3⟩) (λha=>⟨_,_,_,(C H3).s0,(C H3).s1,(C H3).s2,ok d.x.st w3 ?_ H3⟩)⟩
  .rw [l1,if_pos (.inr ⟨h3,ha⟩)]
  .rw [l1,if_neg (by rintro (h|h);omega;rw [ha] at h;cases h.2),if_neg (by rintro ⟨h,_⟩;omega)]
 have h1:d.x.op=1:=by omega
 refine ⟨_,(C H2).s0,eB (λhk=>⟨_,_,_,(C H2).s0,(C H2).s1,(C H2).s2,er d.x.st 9 w2 (by decide) ?_ H2⟩) (λhk=>H2.aN λw3 H3=>?_)⟩
 .rw [l1,if_pos (.inl ⟨h1,hk⟩)]
 rw [if_neg (by rintro (h|h);exact h.2 hk;omega)] at l1
 obtain ⟨v1,v2,_⟩:=qU hv hk
 have S0:dM g d.x=(d.x.st,0)->term_sortOfLeaf.dU p b2 0 0 0 w3 λr w'=>tu (dM g d.x).1 (dM g d.x).2 r/\bF w w':=λhe=>⟨_,_,_,(C H3).s0,(C H3).s1,(C H3).s2,ok d.x.st w3 he H3⟩
 refine ⟨_,(C H3).s1,aK (λFg=>⟨_,(C H3).c4,_,(C H3).s1,by omega,?_⟩) (λFg=>S0 ?_)⟩
 .rw [LN _ _ hu (by omega) Fg]
  refine aK (λhb=>⟨_,_,_,(C H3).s0,(C H3).s1,(C H3).s2,er d.x.st 5 w3 (by decide) ?_ H3⟩) (λhb=>S0 ?_)
  .rw [l1,if_pos ⟨h1,by unfold Od;rw [decide_eq_true Fg,decide_eq_true hb];rfl⟩]
  .rw [l1,if_neg]
   rintro ⟨_,hh⟩
   unfold Od at hh
   rw [decide_eq_false hb,Bool.and_false] at hh
   cases hh
 .rw [l1,if_neg]
  rintro ⟨_,hh⟩
  unfold Od at hh
  rw [decide_eq_false Fg] at hh
  cases hh
def sL (g:List Nx) (t:ByteArray):Ending:=match rB g t with
 |some s=>.returned (.tuple #[kh s,.bool true])
 |none=>.returned (.tuple #[kh ow,.bool false])
theorem W9 {w:World} {p:Addr} {d:Nd} {D:List En} (g:List Nx) (lk:Fv) (H:LH F0 w w [] (.yc p d::D)) (hc:fD Tryz.prog lk.n=true) (hl:∀w':World,(∀e∈D,e.P w')->Calls Tryz.prog lk.n (lk.bs++#[.string d.x.tx]++lk.cs) w' λr rC=>r=sL g d.x.tx/\bF w' rC) (h0:d.x.op=0):
  Calls Tryz.prog nX #[.pointer (some p),lk.v] w λr w'=>tu (dM g d.x).1 (dM g d.x).2 r/\bF w w':=by
 have C:∀{w5:World} {L:List En},LH F0 w w5 L (.yc p d::D)->jI w5 p d:=λH=>H.getD 0
 have l1:dM g d.x=if qf (bl d.x.tx)=false then (ow,6) else if bN d.x.st=false then (ow,9) else if zO g d.x=true then (ow,8) else (d.x.st,0):=by
  unfold dM
  rw [if_neg (by omega)]
  simp [h0]
 have fin:∀(e:Int) (w5:World) (L:List En) (i:Nat) (b:Nat) (c0 c1 c2:Value),LH F0 w w5 L (.yc p d::D)->L[i]? =some (.c b [c0,c1,c2] aR)->dM g d.x=(if e=0 then d.x.st else ow,e)->GY w5 (bD b) (.i d.x.st.k) (.i d.x.st.n) (.i d.x.st.x) λw6=>dD w6 (bD b) λa0 a1 a2=>tu (dM g d.x).1 (dM g d.x).2 (.returned (.tuple #[.agg #[.i a0,.i a1,.i a2],.i e]))/\bF w w6:=by
  intro e w5 L i b c0 c1 c2 H5 hi he
  refine H5.lO i hi λw6 H6=>?_
  have Zq:(L.set i (.c b [Value.i d.x.st.k,.i d.x.st.n,.i d.x.st.x] aR))[i]? =some (.c b [Value.i d.x.st.k,.i d.x.st.n,.i d.x.st.x] aR):=by
   rw [List.getElem?_set_self (nP.1 hi).1]
  refine ⟨_,_,_,H6.ld i 0 Zq,H6.ld i 1 Zq,H6.ld i 2 Zq,⟨d.x.st,e,rfl,by rw [he],λh=>?_⟩,H6.fr⟩
  rw [he] at h ⊢
  rw [if_pos h]
 refine term_sortOfVar.ok p lk w _ (H.nw λw1 _ H1=>⟨_,(C H1).c5,H1.call (Nr d.x.tx w1) ?_⟩)
 rintro _ w2 rfl H2
 refine ⟨_,rfl,eO (λhn=>⟨_,_,_,(C H2).s0,(C H2).s1,(C H2).s2,fin 6 w2 _ 0 _ _ _ _ H2 rfl (by rw [l1,if_pos hn];rfl)⟩) (λhn=>⟨_,_,_,(C H2).s0,(C H2).s1,(C H2).s2,H2.call (xJ d.x.st w2) ?_⟩)⟩
 rw [if_neg (by rw [hn];simp)] at l1
 rintro _ w3 rfl H3
 refine ⟨_,rfl,zt (λhv=>⟨_,_,_,(C H3).s0,(C H3).s1,(C H3).s2,?_⟩) (λhv=>⟨_,(C H3).c5,?_⟩)⟩
 .have:lT d.x.st=9:=by unfold lT;rw [hv];rfl
  rw [this]
  exact fin 9 w3 _ 0 _ _ _ _ H3 rfl (by rw [l1,if_pos hv];rfl)
 rw [if_neg (by rw [hv];simp)] at l1
 rw [hc]
 refine (show hO true _ from ?_)
 refine H3.call (hl w3 (λe he=>H3.rd e (qmCM _ he))) ?_
 rintro _ w4 rfl H4
 have S0:∀(w5:World) (L:List En) (c0 c1 c2:Value),LH F0 w w5 L (.yc p d::D)->L[0]? =some (.c w.heap.size [c0,c1,c2] aR)->zO g d.x=false->term_sortOfVar.S0 p (bD w.heap.size) w5 λr w'=>tu (dM g d.x).1 (dM g d.x).2 r/\bF w w':=λw5 L c0 c1 c2 H5 hi ht=>⟨_,_,_,(C H5).s0,(C H5).s1,(C H5).s2,fin 0 w5 L 0 _ c0 c1 c2 H5 hi (by rw [l1,if_neg (by rw [ht];simp)];rfl)⟩
 unfold zO at l1 S0
 unfold sL
 cases hs:rB g d.x.tx with
 |none=>
  rw [hs] at l1 S0
  refine ⟨ow.k,ow.n,ow.x,false,rfl,H4.nw λw5 _ H5=>H5.lO 1 rfl λw8 H8=>H8.dr λw9 H9=>aM rfl ?_⟩
  exact S0 w9 _ _ _ _ H9 rfl rfl
 |some t=>
  rw [hs] at l1 S0
  refine ⟨t.k,t.n,t.x,true,rfl,H4.nw λw5 _ H5=>H5.lO 1 rfl λw8 H8=>H8.dr λw9 H9=>aS rfl ⟨_,_,_,H9.ld 1 0,H9.ld 1 1,H9.ld 1 2,_,_,_,(C H9).s0,(C H9).s1,(C H9).s2,sU (a:=t) (b:=d.x.st) (λiq=>⟨_,_,_,(C H9).s0,(C H9).s1,(C H9).s2,fin 8 w9 _ 0 _ _ _ _ H9 rfl ?_⟩) (λheq=>S0 w9 _ _ _ _ H9 rfl ?_)⟩⟩
  .rw [l1,if_pos (by simp [iq])];rfl
  .simp [heq]
def Wo:List Int:=[0,0,0,0,1,1,2,2,2,2,2,2,2,2,2,2,2,2,2,3,2,1,1,1,2,3,2,1,1,2,3,2,3,1,1]
abbrev qc:En:=.rd ⟨some (bD 0),35,35⟩ (Wo.map ia)
theorem Wp {op:Int} (h0:0<=op) (h1:op<=34):Wo[op.toNat]? =some (eH op):=by
 rcases wK h0 h1 with rfl|rfl|rfl|rfl|rfl|rfl|rfl|rfl|rfl|rfl|rfl|rfl|rfl|rfl|rfl|rfl|rfl|rfl|rfl|rfl|rfl|rfl|rfl|rfl|rfl|rfl|rfl|rfl|rfl|rfl|rfl|rfl|rfl|rfl|rfl<;>rfl
section
variable {M:Nat->Prop} {w0 w:World} {L D:List En} {bs:List Nat}
theorem _root_.Go.W.LH.PY (H:LH M w0 w L D) (i a c:Nat) {b:Nat} {vs:List Value} {T:TypeId} {v:Value} {K:World->Prop} (hi:L[i]? =some (.c b vs T)) (hK:∀w',LH M w0 w' (L.set i (.c b (vs.set (a+c) v) T)) D->K w') (hj:a+c<vs.length:=by simp [o9]) (jS:∀b∈bs,En.g b∈L:=by simp):
  bR w (((bD b).add a).add c) v λw1=>kept bs w w1/\K w1:=by
 rw [add_add]
 obtain ⟨x1,x2,x3,x4⟩:=IE (H.ob i hi) (a+c) (by simpa using hj) v
 obtain ⟨_,_,h3⟩:=H.set (v:=v) i (a+c) hi hj
 refine ⟨x1,x2,λb' eC=>?_,hK _ h3⟩
 refine x4.gV b' (H.own _ (jS b' eC)) λe=>?_
 have:=nU H hi (Hu w b vs T) (jS b' eC)
 exact this (by rw [e];exact FH.2 rfl)
theorem _root_.Go.W.LH.Nj (H:LH M w0 w L D) (i a:Nat) {b:Nat} {vs:List Value} {T:TypeId} {v:Value} {K:World->Prop} (hi:L[i]? =some (.c b vs T)) (hK:∀w',LH M w0 w' (L.set i (.c b (vs.set a v) T)) D->K w') (hj:a<vs.length:=by simp [o9]) (jS:∀b∈bs,En.g b∈L:=by simp):
  bR w ((bD b).add a) v λw1=>kept bs w w1/\K w1:=by
 have:=H.PY (v:=v) (K:=K) i a 0 hi hK hj jS
 rwa [tR] at this
end
theorem Nf {g:List Nx} {n:Nx} (h:(eH n.op==(n.kids.length:Int)&&n.kids.all (jt g)&&okF n)=true) (h4:¬n.op<=3):eU g n=if rU n (kC g n 0) (kC g n 1) (kC g n 2)≠0 then (ow,rU n (kC g n 0) (kC g n 1) (kC g n 2)) else (qP n (kC g n 0) (kC g n 1) (kC g n 2),0):=by
 unfold eU rU
 rw [h,if_neg (by simp),if_neg h4]
 generalize iL n.op (kC g n 0) (kC g n 1) (kC g n 2)=a
 generalize uq n (kC g n 0) (kC g n 1) (kC g n 2)=b
 cases a
 .rfl
 .cases b
  .rfl
  .by_cases hc:n.op=33/\Ai n.tx=false
   .simp [hc]
   .simp [hc]
theorem Mx {g:List Nx} {n:Nx} (h:(dM g n).2≠0):dM g n=(ow,(dM g n).2):=by
 unfold dM at h ⊢
 split
 .split
  .rfl
  .rename_i h2 Fg
   rw [if_pos h2,if_neg Fg] at h
   exact absurd rfl h
 .rename_i h2
  rw [if_neg h2] at h
  split
  .rfl
  .rename_i h3
   rw [if_neg h3] at h
   split
   .rfl
   .rename_i h4
    rw [if_neg h4] at h
    split
    .rfl
    .rename_i h5
     rw [if_neg h5] at h
     split
     .rfl
     .rename_i h6
      rw [if_neg h6] at h
      split
      .rfl
      .rename_i h7
       rw [if_neg h7] at h
       exact absurd rfl h
structure Hj (d:Nx):Prop where
 kl:d.kids.length<=1000000000
 n:nO d.n
 m:nO d.m
 u:0<=d.u
 tx:d.op=33->Fs d.tx
abbrev Vu (a b c:ir):List Value:=o9 a++o9 b++o9 c
def NC (g:List Nx) (n:Nx) (i j:Nat):ir:=if j<i then kC g n j else ow
theorem Mv {g:List Nx} {n:Nx} {j:Nat} (h:n.kids.length<=j):kC g n j=ow:=by
 unfold kC
 rw [List.getElem?_eq_none h]
theorem Pa {l:List Nd} {n:Nx} {i:Nat} {k:Int} {e:Nd} (hk:n.kids[i]? =some k) (he:l[k.toNat]? =some e):kC (xs l) n i=e.x.st:=by
 unfold kC
 rw [hk]
 dsimp only
 rw [uz he]
theorem O' {g:List Nx} {n:Nx} (hv:∀d∈g,bN d.st=true) (j:Nat):Qr (kC g n j):=by
 unfold kC
 split
 .split
  .rename_i hd
   exact Kk (hv _ (dC hd))
  .exact MI
 .exact MI
theorem EZ {w:World} {s:Sl} {l:List Nd} {d:Nd} {D:List En} (lk:Fv) (H:LH F0 w w [] (.gr s l::fF d::qc::D)) (hc:fD Tryz.prog lk.n=true)
  (hl:∀w':World,(∀e∈D,e.P w')->Calls Tryz.prog lk.n (lk.bs++#[.string d.x.tx]++lk.cs) w' λr rC=>r=sL (xs l) d.x.tx/\bF w' rC) (ho:Hj d.x) (A8:l.length<=1000000000) (hv:∀e∈xs l,bN e.st=true):
  Calls Tryz.prog oc #[s.v,d.v,lk.v] w λr w'=>r=ku (eU (xs l) d.x)/\bF w w':=by
 have hn:=qq (cQ.1 (H.getD 0))
 have nN:(xs l).length=l.length:=by simp [xs]
 have V0:d.ks.n=d.x.kids.length:=fB.len (H.getD 1)
 have TB:=ho.kl
 refine term_sortOf.cT s _ _ _ _ _ _ _ _ _ lk w _ (H.nw λw1 _ H1=>H1.bI λb6 w2 H2=>H2.aN λw3 H3=>?_)
 have N:∀{w5:World} {L:List En},LH F0 w w5 (.c w.heap.size d.c aE::L) (.gr s l::fF d::qc::D)->jI w5 (bD w.heap.size) d:=λH=>ze (H.ob 0)
 have H3:LH F0 w w3 [.c w.heap.size d.c aE,.g b6] (.gr s l::fF d::qc::D):=H3
 have fail:(eH d.x.op==(d.x.kids.length:Int)&&d.x.kids.all (jt (xs l))&&okF d.x)=false->∀{w5:World} {L:List En} {bs:List Nat},LH F0 w w5 L (.gr s l::fF d::qc::D)->(∀b∈bs,En.g b∈L)->loc bs w5 λw6=>(λr w'=>r=ku (eU (xs l) d.x)/\bF w w') (.returned (.tuple #[.agg #[.i 0,.i 0,.i 0],.i 1])) w6:=λhf _ _ _ H5 hb=>H5.aN (λw6 H6=>⟨by unfold eU;rw [if_pos hf];rfl,H6.fr⟩) hb
 have kN:∀op:Int,op<0\/34<op->eH op=-1:=λop h=>by unfold eH;rw [if_pos h]
 refine ⟨_,(N H3).c0,aK (λh0=>fail ?_ H3 (by simp)) (λh0=>⟨_,(N H3).c0,aK (λh35=>fail ?_ H3 (by simp)) (λh35=>⟨_,(N H3).c1,_,(N H3).c0,by omega,by show d.x.op<35;omega,eH d.x.op,?_,eB (λiq=>fail ?_ H3 (by simp)) (λheq=>?_)⟩)⟩)⟩
 .rw [kN _ (.inl h0),beq_eq_false_iff_ne.2 (by omega)];rfl
 .rw [kN _ (.inr (by omega)),beq_eq_false_iff_ne.2 (by omega)];rfl
 .have hk:fB w3 ⟨some (bD 0),35,35⟩ Wo:=H3.getD 2
  exact (show W.aX (some (bD 0)) λp=>w3.cell? (p.add (Int.toNat d.x.op *1))=some (.int .i64 (eH d.x.op)) from hk.cell (Wp (by omega) (by omega)) rfl λp _ hc=>hc)
 .rw [beq_eq_false_iff_ne.2 (by omega)];rfl
 have hkc:(eH d.x.op==(d.x.kids.length:Int))=true:=by rw [beq_iff_eq];omega
 have Gh:d.x.kids.length<=3:=by
  have:eH d.x.op<=3:=by unfold eH;repeat' split<;>omega
  omega
 refine H3.nw λw4 _ H4=>⟨_,(N H4).c1,?_⟩
 have loop:∀(m i:Nat) (w5:World),i+m=d.x.kids.length->d.x.kids.all (jt (xs l))=(d.x.kids.drop i).all (jt (xs l))->LH F0 w w5 [.c w.heap.size d.c aE,.g b6,.c w3.heap.size (Vu (NC (xs l) d.x i 0) (NC (xs l) d.x i 1) (NC (xs l) d.x i 2)) mu] (.gr s l::fF d::qc::D)->
   term_sortOf.l6 s lk (bD w.heap.size) b6 0 0 0 (bD w3.heap.size) ((d.ks.n:Nat):Int) (i:Int) w5 λr w'=>r=ku (eU (xs l) d.x)/\bF w w':=by
  intro m
  induction m with
  |zero=>
   intro i w5 hi hall H5
   rw [qdO (by omega)] at hall
   have e0:∀j,NC (xs l) d.x i j=kC (xs l) d.x j:=λj=>by
    unfold NC
    split
    .rfl
    .exact (Mv (by omega)).symm
   rw [e0,e0,e0] at H5
   refine term_sortOf.dI _ _ _ _ _ _ _ _ _ _ _ _ (aM (decide_eq_false (by omega)) (H5.aL (EY (N H5)) ?_))
   rintro _ w6 rfl H6
   refine ⟨_,rfl,eO (λhf=>fail (by rw [hf,Bool.and_false]) H6 (by simp)) (λhf=>H6.bI λQJ w7 H7=>?_)⟩
   have Q7:(eH d.x.op==(d.x.kids.length:Int)&&d.x.kids.all (jt (xs l))&&okF d.x)=true:=by rw [hkc,hall,hf];rfl
   have H7:LH F0 w w7 [.c w.heap.size d.c aE,.g b6,.c w3.heap.size (Vu (kC (xs l) d.x 0) (kC (xs l) d.x 1) (kC (xs l) d.x 2)) mu,.g QJ] (.gr s l::fF d::qc::D):=H7
   have fin:∀(T:ir) (E:Int) (t:ir) (e:Int) (w8:World),eU (xs l) d.x=(if E≠0 then (ow,E) else (T,0))->e=E->(E=0->t=T)->LH F0 w w8 [.c w.heap.size d.c aE,.g b6,.c w3.heap.size (Vu (kC (xs l) d.x 0) (kC (xs l) d.x 1) (kC (xs l) d.x 2)) mu,.g QJ] (.gr s l::fF d::qc::D)->
     loc [b6,QJ] w8 λw9=>term_sortOf.hU b6 0 0 0 QJ t.k t.n t.x e w9 λr w'=>r=ku (eU (xs l) d.x)/\bF w w':=by
    intro T E t e w8 hs he ht H8
    subst he
    refine H8.aN λw9 H9=>eB (λiq=>H9.aN λpT mg=>⟨by rw [hs,if_pos iq];rfl,mg.fr⟩) (λh0=>H9.aN λpT mg=>⟨?_,mg.fr⟩)
    rw [hs,if_neg (by omega),ht h0]
   have Rs:d.x.op<=3->eU (xs l) d.x=(if (dM (xs l) d.x).2≠0 then (ow,(dM (xs l) d.x).2) else ((dM (xs l) d.x).1,0)):=λh3=>by
    unfold eU
    rw [Q7,if_neg (by simp),if_pos h3]
    split
    .rename_i iq;exact Mx iq
    .rename_i heq
     rw [Decidable.not_not] at heq
     rw [<-heq]
   have D8:=λj=>O' (n:=d.x) hv j
   refine ⟨_,(N H7).c0,aJ (λho0=>?_) (λho0=>⟨_,(N H7).c0,aK (λXD=>?_) (λXD=>⟨_,(N H7).c0,aK (λV9=>?_) (λV9=>⟨_,(N H7).c0,aK (λV'=>?_) (λV'=>?_)⟩)⟩)⟩)⟩
   .have Hv:LH F0 w7 w7 [] (.yc (bD w.heap.size) d::D):=mf _ (by
     intro e he
     rcases cU.1 he with rfl|he
     .exact N H7
     .exact H7.rd e (qmCM _ (qmCM _ (qmCM _ he))))
    refine H7.aL (W9 (xs l) lk Hv hc hl ho0) ?_
    rintro _ w8 ⟨t,e,rfl,he,ht⟩ H8
    exact ⟨_,_,_,_,rfl,fin _ _ t e w8 (Rs (by omega)) he ht H8⟩
   .refine H7.aL (Uo (xs l) (N H7) (by omega) XD ho.u) ?_
    rintro _ w8 ⟨t,e,rfl,he,ht⟩ H8
    exact ⟨_,_,_,_,rfl,fin _ _ t e w8 (Rs XD) he ht H8⟩
   all_goals
    have rest:=Nf Q7 (by omega)
    have ld:∀(a c:Nat) (v:Value),(Vu (kC (xs l) d.x 0) (kC (xs l) d.x 1) (kC (xs l) d.x 2))[a+c]? =some v->w7.cell? (((bD w3.heap.size).add a).add c)=some v:=λa c v hv=>by rw [add_add];exact H7.ld 2 (a+c) rfl hv
    refine ⟨by omega,by decide,(kC (xs l) d.x 0).k,(kC (xs l) d.x 0).n,(kC (xs l) d.x 0).x,ld 0 0 _ rfl,ld 0 1 _ rfl,ld 0 2 _ rfl,by omega,by decide,(kC (xs l) d.x 1).k,(kC (xs l) d.x 1).n,(kC (xs l) d.x 1).x,ld 3 0 _ rfl,ld 3 1 _ rfl,ld 3 2 _ rfl,by omega,by decide,(kC (xs l) d.x 2).k,(kC (xs l) d.x 2).n,(kC (xs l) d.x 2).x,ld 6 0 _ rfl,ld 6 1 _ rfl,ld 6 2 _ rfl,?_⟩
   .refine H7.aL (Un (N H7) (by omega) V9 (D8 0) (D8 1) ho.n ho.m) ?_
    rintro _ w8 ⟨t,e,rfl,he,ht⟩ H8
    exact ⟨_,_,_,_,rfl,fin _ _ t e w8 rest he ht H8⟩
   .refine H7.aL (Np (N H7) (by omega) V') ?_
    rintro _ w8 ⟨t,e,rfl,he,ht⟩ H8
    exact ⟨_,_,_,_,rfl,fin _ _ t e w8 rest he ht H8⟩
   .refine H7.aL (Ke (N H7) (by omega) (by omega) (D8 0) (D8 1) (D8 2) ho.tx) ?_
    rintro _ w8 ⟨t,e,rfl,he,ht⟩ H8
    exact ⟨_,_,_,_,rfl,fin _ _ t e w8 rest he ht H8⟩
  |succ m ih=>
   intro i w5 hi hall H5
   have hg:d.x.kids[i]? =some (d.x.kids[i]'(by omega)):=g7 (by omega)
   rw [qdG (by omega:i<d.x.kids.length),List.all_cons] at hall
   generalize d.x.kids[i]'(by omega)=x at hg hall
   have bad:jt (xs l) x=false->term_sortOf.eY b6 0 0 0 w5 λr w'=>r=ku (eU (xs l) d.x)/\bF w w':=λhx=>fail (by rw [hall,hx];simp) H5 (by simp)
   refine term_sortOf.dI _ _ _ _ _ _ _ _ _ _ _ _ (aS (decide_eq_true (by omega)) ⟨_,(N H5).c1,by omega,by omega,(show fB w5 d.ks d.x.kids from H5.getD 1).cell hg (by omega) λp hp Jy=>⟨x,Jy,aK (λh1=>bad ?_) (λh1=>aK (λh2=>bad ?_) (λh2=>?_))⟩⟩)
   .unfold jt;rw [decide_eq_false (by omega)];rfl
   .unfold jt;rw [decide_eq_false (show ¬x<((xs l).length:Int) by rw [nN];omega)];simp
   have Ao:l[x.toNat]? =some (l[x.toNat]'(by omega)):=g7 (by omega)
   generalize l[x.toNat]'(by omega)=e at Ao
   have sH:=Pa hg Ao
   refine jM (cQ.1 (H5.getD 0)) (i:=x.toNat) (by omega) Ao λq hq c=>⟨_,_,_,c.s0,c.s1,c.s2,by omega,by show (i:Int)<3;omega,?_⟩
   have VN:d.x.kids.all (jt (xs l))=(d.x.kids.drop (i+1)).all (jt (xs l)):=by
    rw [hall]
    unfold jt
    rw [decide_eq_true (show 0<=x by omega),decide_eq_true (show x<((xs l).length:Int) by rw [nN];omega)]
    rfl
   have yh:∀w6,LH F0 w w6 [.c w.heap.size d.c aE,.g b6,.c w3.heap.size (Vu (NC (xs l) d.x (i+1) 0) (NC (xs l) d.x (i+1) 1) (NC (xs l) d.x (i+1) 2)) mu] (.gr s l::fF d::qc::D)->term_sortOf.l6 s lk (bD w.heap.size) b6 0 0 0 (bD w3.heap.size) ((d.ks.n:Nat):Int) (IntKind.wrap .i64 ((i:Int)+1)) w6 λr w'=>r=ku (eU (xs l) d.x)/\bF w w':=λw6 H6=>by
    rw [aZ _ (by omega)]
    exact ih (i+1) w6 (by omega) VN H6
   have hi3:i=0\/i=1\/i=2:=by omega
   have up:∀j,NC (xs l) d.x (i+1) j=if j=i then e.x.st else NC (xs l) d.x i j:=λj=>by
    unfold NC
    by_cases hj:j=i
    .rw [if_pos hj,if_pos (by omega),hj,sH]
    .rw [if_neg hj]
     by_cases VX:j<i
     .rw [if_pos VX,if_pos (by omega)]
     .rw [if_neg VX,if_neg (by omega)]
   rw [up 0,up 1,up 2] at yh
   rcases hi3 with rfl|rfl|rfl
   .exact H5.Nj 2 0 rfl λw6 H6=>H6.PY 2 0 1 rfl λw7 H7=>H7.PY 2 0 2 rfl λw8 H8=>yh w8 H8
   .exact H5.Nj 2 3 rfl λw6 H6=>H6.PY 2 3 1 rfl λw7 H7=>H7.PY 2 3 2 rfl λw8 H8=>yh w8 H8
   .exact H5.Nj 2 6 rfl λw6 H6=>H6.PY 2 6 1 rfl λw7 H7=>H7.PY 2 6 2 rfl λw8 H8=>yh w8 H8
 exact loop d.x.kids.length 0 w4 (by omega) (by simp) H4
theorem Ns {w:World} {s:Sl} {l:List Nd} {b:Nat} (t:ByteArray) (h:GP w s l) (hb:w.heap[b]? =some (.cells [s.v].toArray gS (0,0))) (hl:l.length<=1000000000):
  Calls Tryz.prog mB #[.string t,.pointer (some (bD b))] w λr w'=>r=sL (xs l) t/\bF w w':=by
 have hn:=qq h
 have H:LH F0 w w [] [.gr s l,.c b [s.v] gS]:=mf _ (by
  intro e he
  simp only [cU,qnM,or_false] at he
  rcases he with rfl|rfl
  .exact cQ.2 h
  .exact hb)
 have loop:∀(m i:Nat) (b3:Nat) (w1:World),i+m=l.length->rB (xs l) t=rB ((xs l).drop i) t->LH F0 w w1 [.g b3] [.gr s l,.c b [s.v] gS]->term_SortOf_1.dY t (bD b) b3 0 0 0 ((s.n:Nat):Int) (i:Int) w1 λr w'=>r=sL (xs l) t/\bF w w':=by
  intro m
  induction m with
  |zero=>
   intro i b3 w1 hi he H1
   rw [qdO (by simp [xs];omega)] at he
   exact term_SortOf_1.aY _ _ _ _ _ _ _ _ _ _ (aM (decide_eq_false (by omega)) (H1.aN λw2 H2=>⟨by unfold sL;rw [he];rfl,H2.fr⟩))
  |succ m ih=>
   intro i b3 w1 hi he H1
   have hg:l[i]? =some (l[i]'(by omega)):=g7 (by omega)
   have hx:(xs l).drop i=(l[i]'(by omega)).x::(xs l).drop (i+1):=by
    rw [qdG (by simp [xs];omega:i<(xs l).length)]
    simp [xs]
   rw [hx] at he
   generalize l[i]'(by omega)=e at hg he
   have jd:rB (xs l) t=if e.x.op=0/\e.x.tx=t then some e.x.st else rB ((xs l).drop (i+1)) t:=he
   have S1:¬(e.x.op=0/\e.x.tx=t)->term_SortOf_1.fY t (bD b) b3 0 0 0 ((s.n:Nat):Int) (i:Int) w1 λr w'=>r=sL (xs l) t/\bF w w':=λiq=>by
    show term_SortOf_1.dY t (bD b) b3 0 0 0 ((s.n:Nat):Int) (IntKind.wrap .i64 ((i:Int)+1)) w1 _
    rw [aZ _ (by omega)]
    exact ih (i+1) b3 w1 (by omega) (by rw [jd,if_neg iq]) H1
   refine term_SortOf_1.aY _ _ _ _ _ _ _ _ _ _ (aS (decide_eq_true (by omega)) ⟨s,H1.tH 1 0,jM (cQ.1 (H1.getD 0)) rfl hg λp hp c=>⟨_,c.c0,aJ (λh0=>⟨s,H1.tH 1 0,jM (cQ.1 (H1.getD 0)) rfl hg λp2 ZB c2=>⟨_,c2.c5,GS (λht=>⟨s,H1.tH 1 0,jM (cQ.1 (H1.getD 0)) rfl hg λp3 hp3 c3=>⟨_,_,_,c3.s0,c3.s1,c3.s2,H1.aN λw2 H2=>⟨?_,H2.fr⟩⟩⟩) (λht=>S1 λh=>ht h.2)⟩⟩) (λh0=>S1 λh=>h0 h.1)⟩⟩)
   unfold sL
   rw [jd,if_pos ⟨h0,ht⟩]
 exact term_SortOf_1.cT t _ w _ (H.bI λb3 w1 H1=>⟨s,H1.tH 1 0,loop l.length 0 b3 w1 (by omega) (by simp) H1⟩)
theorem zJ {w:World} {s:Sl} {l:List Nd} {d:Nd} (h:GP w s l) (hd:d.P w) (hk:qc.P w) (ho:Hj d.x) (A8:l.length<=1000000000) (hv:∀e∈xs l,bN e.st=true):
  Calls Tryz.prog mn #[.agg #[s.v],d.v] w λr w'=>r=ku (eU (xs l) d.x)/\bF w w':=by
 have H:LH F0 w w [] [.gr s l,fF d,qc]:=mf _ (by
  intro e he
  simp only [cU,qnM,or_false] at he
  rcases he with rfl|rfl|rfl
  .exact cQ.2 h
  .exact hd
  .exact hk)
 refine term_SortOf.cT _ _ _ _ _ _ _ _ _ _ w _ (H.nw λw1 _ H1=>H1.bI λb3 w2 H2=>H2.bI λb4 w3 H3=>⟨s,H3.ld 0 0,?_⟩)
 have Hs:LH F0 w3 w3 [] [.gr s l,fF d,qc,.gr s l,.c w.heap.size [s.v] gS]:=mf _ (by
  intro e he
  simp only [cU,qnM,or_false] at he
  rcases he with rfl|rfl|rfl|rfl|rfl
  .exact H3.getD 0
  .exact H3.getD 1
  .exact H3.getD 2
  .exact H3.getD 0
  .exact H3.get 0)
 refine H3.aL (EZ (D:=[.gr s l,.c w.heap.size [s.v] gS]) ⟨mB,#[],#[.pointer (some (bD w.heap.size))]⟩ Hs (by kernel_rfl) (λw' As=>?_) ho A8 hv) ?_
 .exact Ns d.x.tx (cQ.1 (As (.gr s l) (by simp))) (As (.c w.heap.size [s.v] gS) (by simp)) A8
 .rintro _ w4 rfl H4
  exact ⟨_,_,_,_,rfl,H4.aN λw5 H5=>⟨rfl,H5.fr⟩⟩
theorem Ay {P:Program} {t ty e:TypeId} {z:Value} {sz bytes:Nat} (el:iK P t e z sz bytes) {w:World} (g Tb YG:Nat) (cur:Array Value) (T:TypeId) {src:Sl} {cs:List Value}
  (hg:w.heap[g]? =some (.cells cur T (0,0))) (hr:jJ sz w src cs) (hn:src.n<=Tb) (ri:cs.length<=cur.size) (h1:∀v∈cs,v.oneCell'=true):
  (Builtin.copy_ #[t,t] ty #[.slice (some ⟨g,0,none⟩) Tb YG,src.v]).run P w=.ok (.int .i64 (src.n:Int)) (w.setRow g (cs++cur.toList.drop cs.length).toArray):=by
 obtain ⟨sa,sn,sc⟩:=src
 obtain ⟨inf,hi,hz,me,HR⟩:=info_parts el.hi
 simp only at hn
 obtain ⟨hlen,Mb,qM,Ca⟩:=hr
 simp only at hlen qM Ca
 have Zt:Nat.min sn Tb=sn:=Nat.min_eq_left hn
 have Fi:=run_storeCells_at (P:=P) g 0 T cs 0 cur w hg (by simpa using ri) h1
 cases sa with
 |none=>
  obtain ⟨e1,e2⟩:=qM rfl
  subst e1
  have hc:cs=[]:=UX (by omega)
  subst hc
  have Wf:w.setRow g (([]:List Value)++cur.toList.drop 0).toArray=w:=by
   rw [List.nil_append,List.drop_zero,Array.toArray_toList]
   exact setRow_self w g cur T (0,0) hg
  rw [List.length_nil,Wf]
  simp [Builtin.copy_,run_underlying el.ht,Builtin.lenOf,Builtin.firstCells,sizeOf,typeInfo,hi,me,storeCells,goInt]
 |some a=>
  have hl:=run_loadCells_list (P:=P) w a cs (λj v hj=>by
   obtain ⟨p,hp,hc⟩:=Ca j v hj
   cases hp
   exact hc)
  rw [hlen] at hl
  simp only [Nat.zero_add,List.take_zero,List.nil_append] at Fi
  simp [Builtin.copy_,run_underlying el.ht,Builtin.lenOf,Builtin.firstCells,sizeOf,typeInfo,hi,me,Zt,hl,Fi,goInt]
theorem LB {P:Program} {t ty e:TypeId} {z:Value} {sz bytes:Nat} (el:iK P t e z sz bytes) {w:World} {s src:Sl} {vs cs:List Value} (h:aO w e sz s vs) (ha:s.a≠none) (hr:jJ sz w src cs) (hn:src.n<=s.n) (h1:∀v∈cs,v.oneCell'=true):
  ∃w',(Builtin.copy_ #[t,t] ty #[s.v,src.v]).run P w=.ok (.int .i64 (src.n:Int)) w'/\aO w' e sz s (cs++vs.drop cs.length)/\Fr (·∈bA s) w w':=by
 have hl:=h.len
 have HU:=hr.1
 rcases h.cases with ⟨rfl,rfl⟩|⟨g,cur,xq,hg,g1,g2,g3,g4⟩
 .exact absurd rfl ha
 .obtain ⟨sa,sn,sc⟩:=s
  simp only at xq hn hl g1 g2 g3 g4
  subst xq
  have e1:src.n *sz<=sn *sz:=Nat.mul_le_mul_right _ hn
  have e2:sn *sz<=sc *sz:=Nat.mul_le_mul_right _ g1
  have ri:cs.length<=cur.size:=by omega
  refine ⟨_,Ay el g sn sc cur e hg hr hn ri h1,?_,?_⟩
  .refine ⟨?_,.inr ⟨g,sc,(cs++cur.toList.drop cs.length).toArray,rfl,Nat.zero_le _,setRow_heap w g cur _ e _ hg,g1,g2,?_,?_⟩⟩
   .simp only [qlA,qlD]
    omega
   .simp only [List.size_toArray,qlA,qlD,Array.length_toList]
    omega
   .rw [List.take_append,List.take_of_length_le (by omega:cs.length<=sn *sz),List.take_drop,<-g4,List.drop_take]
    congr 2
    rw [show cs.length+(sn *sz - cs.length)=sn *sz by omega,List.drop_take]
  .rw [Bv hg]
   exact (Fr.put w g _).mono λx _ e=>by simp [bA,e]
section
variable {M:Nat->Prop} {w0 w:World} {L D:List En} {bs:List Nat}
theorem _root_.Go.W.LH.cpk (H:LH M w0 w L D) (i:Nat) {P:Program} {t ty e:TypeId} {z:Value} {sz bytes:Nat} (el:iK P t e z sz bytes) {s src:Sl} {vs cs:List Value} {K:Int->World->Prop} (hi:L[i]? =some (.row e sz s vs)) (ha:s.a≠none) (hr:jJ sz w src cs) (hn:src.n<=s.n) (h1:∀v∈cs,v.oneCell'=true)
  (hK:∀w',LH M w0 w' (L.set i (.row e sz s (cs++vs.drop cs.length))) D->K (src.n:Int) w') (jS:∀b∈bs,En.g b∈L:=by simp):
  ∃(k:Int) (w':World),(Builtin.copy_ #[t,t] ty #[s.v,src.v]).run P w=.ok (.i k) w'/\kept bs w w'/\K k w':=by
 obtain ⟨w',r1,r2,r3⟩:=LB (ty:=ty) el (H.get i hi) ha hr hn h1
 exact ⟨_,w',r1,λb hb=>r3.gV b (H.own _ (jS b hb)) λhm=>H.vh hi (jS b hb) hm,hK w' (H.CK i (.row e sz s (cs++vs.drop cs.length)) hi r3 r2 (λb hb=>.inl hb))⟩
end
theorem PT {w:World} {s t:Sl} {a b:List Int} (ha:fB w s a) (hb:fB w t b) (hl:a.length<=1000000000000):Calls Tryz.prog iO #[s.v,t.v] w λr w'=>r=.returned (.bool (decide (a=b)))/\bF w w':=by
 have hn:=fB.len ha
 have hm:=fB.len hb
 refine slices_Equal_sl_int_int.ok s t w _ (eB (λiq=>⟨by rw [decide_eq_false];intro e;subst e;omega,Fr.refl _ _⟩) (λheq=>?_))
 have loop:∀(m i:Nat) (w1:World),i+m=a.length->(a=b↔a.drop i=b.drop i)->LH F0 w w1 [] [.rd s (a.map ia),.rd t (b.map ia)]->slices_Equal_sl_int_int.L0 s t ((s.n:Nat):Int) (i:Int) w1 λr w'=>r=.returned (.bool (decide (a=b)))/\bF w w':=by
  intro m
  induction m with
  |zero=>
   intro i w1 hi he H
   rw [qdO (by omega),qdO (by omega)] at he
   exact slices_Equal_sl_int_int.cO _ _ _ _ _ _ (aM (decide_eq_false (by omega)) ⟨by rw [decide_eq_true (he.2 rfl)],H.fr⟩)
  |succ m ih=>
   intro i w1 hi he H
   have ga:a[i]? =some (a[i]'(by omega)):=g7 (by omega)
   have gb:b[i]? =some (b[i]'(by omega)):=g7 (by omega)
   rw [qdG (by omega:i<a.length),qdG (by omega:i<b.length),List.cons.injEq] at he
   generalize a[i]'(by omega)=x at ga he
   generalize b[i]'(by omega)=y at gb he
   refine slices_Equal_sl_int_int.cO _ _ _ _ _ _ (aS (decide_eq_true (by omega)) (H.dr λw2 H2=>⟨by omega,by omega,(show fB w2 s a from H2.getD 0).cell ga (by omega) λp hp hc=>⟨x,hc,by omega,by omega,(show fB w2 t b from H2.getD 1).cell gb (by omega) λq hq hd=>⟨y,hd,eB (λiq=>⟨?_,H2.fr⟩) (λTv=>?_)⟩⟩⟩))
   .rw [decide_eq_false]
    intro e
    exact iq (he.1 e).1
   .rw [aZ _ (by omega)]
    exact ih (i+1) w2 (by omega) (he.trans ⟨λh=>h.2,λh=>⟨Tv,h⟩⟩) H2
 exact loop a.length 0 w (by omega) (by simp) (lh2 (a:=.rd s (a.map ia)) (b:=.rd t (b.map ia)) ha hb)
theorem PR {w:World} {s:Sl} {l:List Int} (h:fB w s l) (hl:l.length<=1000000000000):Calls Tryz.prog iN #[s.v] w λr w'=>N5 w l r w'/\bF w w':=by
 have hn:=fB.len h
 refine slices_Clone_sl_int_int.ok s w _ (bB (λha=>⟨⟨⟨none,0,0⟩,rfl,?_,λb hb=>by cases hb⟩,Fr.refl _ _⟩) (λha=>?_))
 .have h0:s.a=none:=by simpa using ha
  have:=(h.2.2.1 h0).1
  obtain rfl:l=[]:=UX (by omega)
  exact aO.nil w bW 1
 .have H:LH F0 w w [] [.rd s (l.map ia)]:=mf _ (by
   intro e he
   simp only [cU,qnM,or_false] at he
   subst he
   exact h)
  refine H.gZ (n:=0) (sz:=1) (cs:=[]) rfl (by decide) λw1 H1=>?_
  have hs:fB w1 s l:=H1.getD 0
  refine H1.ap 0 uY (s:=⟨some (bD w.heap.size),0,0⟩) (src:=s) rfl hs.2.2 (by simp;omega) (D6 _) (by show (0+s.n) *8<=_;omega) (λs' w2 H2 _ _=>⟨⟨s',rfl,H2.get 0,λb hb=>(H2.new _ (dC (i:=0) rfl) b hb).resolve_right id⟩,H2.fr⟩)
theorem Ma {w:World} {s:Sl} {l:List Nd} (h:GP w s l) {i:Nat} {d:Nd} (hi:l[i]? =some d) {K:Addr->Prop} {X:Int} (hX:X=(i:Int)) (hk:∀p,s.a=some p->jI w (p.add (Int.toNat X *9)) d->K p):(0:Int)<=X/\X<((s.n:Nat):Int)/\aX s.a K:=by
 have hn:=qq h
 have hl:=(nP.1 hi).1
 subst hX
 exact ⟨by omega,by omega,oB.elem (f:=Nd.c) (sz:=9) Nd.uP (by omega) h.1.2.2 hi λp hp hc=>hk p hp hc⟩
theorem G7 {w:World} {p q:Addr} {a b:Nd} (ha:jI w p a) (hb:jI w q b) (ka:a.P w) (kb:b.P w) (hl:a.x.kids.length<=1000000000):Calls Tryz.prog oK #[.pointer (some p),.pointer (some q)] w λr w'=>r=.returned (.bool (decide (a.x=b.x)))/\bF w w':=by
 have H:LH F0 w w [] [.yc p a,.yc q b,fF a,fF b]:=mf _ (by
  intro e he
  simp only [cU,qnM,or_false] at he
  rcases he with rfl|rfl|rfl|rfl
  .exact ha
  .exact hb
  .exact ka
  .exact kb)
 have A:∀{w5:World} {L:List En},LH F0 w w5 L [.yc p a,.yc q b,fF a,fF b]->jI w5 p a:=λH=>H.getD 0
 have B:∀{w5:World} {L:List En},LH F0 w w5 L [.yc p a,.yc q b,fF a,fF b]->jI w5 q b:=λH=>H.getD 1
 obtain ⟨⟨op,ks,n,m,u,tx,st⟩,sl⟩:=a
 obtain ⟨⟨T1,US,n',m',u',Us,dJ⟩,xG⟩:=b
 have no:∀{w1:World},bF w w1->(⟨op,ks,n,m,u,tx,st⟩:Nx)≠⟨T1,US,n',m',u',Us,dJ⟩->(Ending.returned (.bool false)=.returned (.bool (decide ((⟨op,ks,n,m,u,tx,st⟩:Nx)=⟨T1,US,n',m',u',Us,dJ⟩)))/\bF w w1):=λf h=>⟨by rw [decide_eq_false h],f⟩
 refine term_sameNode.ok p q w _ (H.dr λw1 H1=>⟨op,(A H1).c0,T1,(B H1).c0,aJ (λh1=>?_) (λh1=>no H1.fr (λh=>h1 (congrArg Nx.op h)))⟩)
 refine ⟨n,(A H1).c2,n',(B H1).c2,aJ (λh2=>?_) (λh2=>no H1.fr (λh=>h2 (congrArg Nx.n h)))⟩
 refine ⟨m,(A H1).c3,m',(B H1).c3,aJ (λh3=>?_) (λh3=>no H1.fr (λh=>h3 (congrArg Nx.m h)))⟩
 refine ⟨u,(A H1).c4,u',(B H1).c4,aJ (λh4=>?_) (λh4=>no H1.fr (λh=>h4 (congrArg Nx.u h)))⟩
 refine ⟨st.k,st.n,st.x,(A H1).s0,(A H1).s1,(A H1).s2,dJ.k,dJ.n,dJ.x,(B H1).s0,(B H1).s1,(B H1).s2,nG (a:=st) (b:=dJ) (λh5=>?_) (λh5=>no H1.fr (λh=>h5 (congrArg Nx.st h)))⟩
 refine ⟨sl,(A H1).c1,xG,(B H1).c1,H1.call (PT (H1.getD 2) (H1.getD 3) (by simp only at hl ⊢;omega)) ?_⟩
 rintro _ w2 rfl H2
 refine ⟨_,rfl,(B H2).c3,(A H2).c3,(B H2).c2,(A H2).c2,(B H2).c0,(A H2).c0,aK (λh6=>⟨tx,(A H2).c5,Us,(B H2).c5,?_,H2.fr⟩) (λh6=>no H2.fr (λh=>h6 (congrArg Nx.kids h)))⟩
 rw [IW]
 simp only at h6
 subst h1 h2 h3 h4 h5 h6
 simp
theorem Nu {w:World} {s:Sl} {l:List Nd} {p:Addr} {d:Nd} (h:GP w s l) (hp:jI w p d) (hd:d.P w) (hl:l.length<=1000000000) (Fh:∀e∈l,e.x.kids.length<=1000000000):
  Calls Tryz.prog qz #[.agg #[s.v],.pointer (some p)] w λr w'=>r=.returned (.i (Pw (mU d.x (xs l) 0)))/\bF w w':=by
 have hn:=qq h
 have H:LH F0 w w [] [.gr s l,.yc p d,fF d]:=mf _ (by
  intro e he
  simp only [cU,qnM,or_false] at he
  rcases he with rfl|rfl|rfl
  .exact cQ.2 h
  .exact hp
  .exact hd)
 have loop:∀(m i:Nat) (b2:Nat) (w1:World),i+m=l.length->mU d.x ((xs l).drop i) i=mU d.x (xs l) 0->LH F0 w w1 [.g b2] [.gr s l,.yc p d,fF d]->term_search.dY p b2 s ((s.n:Nat):Int) (i:Int) w1 λr w'=>r=.returned (.i (Pw (mU d.x (xs l) 0)))/\bF w w':=by
  intro m
  induction m with
  |zero=>
   intro i b2 w1 hi he H1
   rw [qdO (by simp [xs];omega)] at he
   exact term_search.aY _ _ _ _ _ _ _ (aM (decide_eq_false (by omega)) ⟨by rw [<-he];rfl,H1.fr⟩)
  |succ m ih=>
   intro i b2 w1 hi he H1
   have hg:l[i]? =some (l[i]'(by omega)):=g7 (by omega)
   have hx:(xs l).drop i=(l[i]'(by omega)).x::(xs l).drop (i+1):=by
    rw [qdG (by simp [xs];omega:i<(xs l).length)]
    simp [xs]
   rw [hx] at he
   generalize l[i]'(by omega)=a at hg he
   have G1:GP w1 s l:=cQ.1 (H1.getD 0)
   refine term_search.aY _ _ _ _ _ _ _ (aS (decide_eq_true (by omega)) (Ma G1 hg rfl λq hq ha=>H1.aL (G7 ha (H1.getD 1) (G1.2 a (dC hg)) (H1.getD 2) (Fh a (dC hg))) ?_))
   rintro _ w2 rfl H2
   have jd:(if a.x=d.x then some i else mU d.x ((xs l).drop (i+1)) (i+1))=mU d.x (xs l) 0:=he
   refine ⟨_,rfl,aK (λhs=>⟨?_,H2.fr⟩) (λhs=>?_)⟩
   .rw [if_pos hs] at jd
    rw [<-jd];rfl
   .rw [if_neg hs] at jd
    rw [aZ _ (by omega)]
    exact ih (i+1) b2 w2 (by omega) jd H2
 exact term_search.cT s p w _ (H.bI λb2 w1 H1=>loop l.length 0 b2 w1 (by omega) (by simp) H1)
section
variable {M:Nat->Prop} {w0 w:World} {L D:List En} {bs:List Nat}
theorem IF {A Z:List Value} {k j:Nat} {v:Value} (hA:A.length=k):(A++Z).set (k+j) v=A++Z.set j v:=by
 subst hA
 rw [List.set_append,if_neg (by omega)]
 congr 2
 omega
theorem _root_.Go.W.LH.aaa (H:LH M w0 w L D) (i k:Nat) {s:Sl} {A Z:List Value} {p:Addr} {e:Nd} {K:World->Prop} (hi:L[i]? =some (.row aE 9 s (A++Z))) (hp:s.a=some p) (hA:A.length=k *9) (hZ:Z.length=9)
  (hK:∀w',LH M w0 w' (L.set i (.row aE 9 s (A++e.c))) D->K w') (jS:∀b∈bs,En.g b∈L:=by simp):
  bR w (p.add (k *9)) (.i e.x.op) λw1=>kept bs w w1/\bR w1 ((p.add (k *9)).add 1) e.ks.v λw2=>kept bs w1 w2/\bR w2 ((p.add (k *9)).add 2) (.i e.x.n) λw3=>kept bs w2 w3/\bR w3 ((p.add (k *9)).add 3) (.i e.x.m) λw4=>kept bs w3 w4/\bR w4 ((p.add (k *9)).add 4) (.u e.x.u) λw5=>kept bs w4 w5/\
   bR w5 ((p.add (k *9)).add 5) (.string e.x.tx) λw6=>kept bs w5 w6/\bR w6 ((p.add (k *9)).add 6) (.i e.x.st.k) λw7=>kept bs w6 w7/\bR w7 ((p.add (k *9)).add 7) (.i e.x.st.n) λw8=>kept bs w7 w8/\bR w8 ((p.add (k *9)).add 8) (.i e.x.st.x) λw9=>kept bs w8 w9/\K w9:=by
 have NQ:=(nP.1 hi).1
 have wD:∀{vs:List Value} {b:Nat},En.g b∈L->En.g b∈L.set i (.row aE 9 s vs):=by
  intro vs b hb
  obtain ⟨j,hj⟩:=List.mem_iff_getElem?.1 hb
  by_cases xP:i=j
  .subst xP
   rw [hi] at hj
   have e1:En.row aE 9 s (A++Z)=En.g b:=Option.some.inj hj
   exfalso
   have e2:(En.row aE 9 s (A++Z)).P=(En.g b).P:=by rw [e1]
   have f1:(En.row aE 9 s (A++Z)).fp=(En.g b).fp:=by rw [e1]
   have Jx:(En.g b).P ({w with heap:=Array.replicate (b+1) (.map #[] 0)}):=by show b<_;simp
   rw [<-e2] at Jx
   have hx:b∈bA s:=by
    show b∈(En.row aE 9 s (A++Z)).fp
    rw [f1];simp [En.g]
   obtain ⟨cs,f,hc⟩:=(aO.row (show aO ({w with heap:=Array.replicate (b+1) (.map #[] 0)}) aE 9 s (A++Z) from Jx)).Uu b hx
   simp at hc
  .exact dC (i:=j) (by rw [List.getElem?_set_ne xP];exact hj)
 match Z,hZ with
 |[z0,z1,z2,z3,z4,z5,z6,z7,z8],_=>
  have len:∀{vs:List Value},vs.length=9->∀c,c<9->k *9+c<(A++vs).length:=λh c hc=>by rw [qlA,hA,h];omega
  have yh:∀{w':World} {L':List En} {vs:List Value} (c:Nat) (v:Value) {K':World->Prop},L'=L.set i (.row aE 9 s (A++vs))->vs.length=9->c<9->LH M w0 w' L' D->(∀rC,LH M w0 rC (L.set i (.row aE 9 s (A++vs.set c v))) D->K' rC)->bR w' ((p.add (k *9)).add c) v λw1=>kept bs w' w1/\K' w1:=by
   rintro w' _ vs c v K' rfl ZP hc H' hk
   refine H'.zD (bs:=bs) i (k *9) c (by rw [List.getElem?_set_self NQ]) hp (len ZP c hc) (λrC N3=>hk rC ?_) (λb hb=>wD (jS b hb))
   rw [List.set_set,IF hA] at N3
   exact N3
  have e0:L=L.set i (.row aE 9 s (A++[z0,z1,z2,z3,z4,z5,z6,z7,z8])):=by
   apply List.ext_getElem?
   intro j
   rw [List.getElem?_set]
   split
   .rename_i h;subst h;rw [hi]
   .rfl
  have first:=yh (w':=w) (vs:=[z0,z1,z2,z3,z4,z5,z6,z7,z8]) 0 (.i e.x.op) (K':=λw1=>bR w1 ((p.add (k *9)).add 1) e.ks.v λw2=>kept bs w1 w2/\bR w2 ((p.add (k *9)).add 2) (.i e.x.n) λw3=>kept bs w2 w3/\bR w3 ((p.add (k *9)).add 3) (.i e.x.m) λw4=>kept bs w3 w4/\bR w4 ((p.add (k *9)).add 4) (.u e.x.u) λw5=>kept bs w4 w5/\
   bR w5 ((p.add (k *9)).add 5) (.string e.x.tx) λw6=>kept bs w5 w6/\bR w6 ((p.add (k *9)).add 6) (.i e.x.st.k) λw7=>kept bs w6 w7/\bR w7 ((p.add (k *9)).add 7) (.i e.x.st.n) λw8=>kept bs w7 w8/\bR w8 ((p.add (k *9)).add 8) (.i e.x.st.x) λw9=>kept bs w8 w9/\K w9) e0 rfl (by decide) H (λw1 H1=>?_)
  .rw [tR] at first
   exact first
  refine yh (vs:=[.i e.x.op,z1,z2,z3,z4,z5,z6,z7,z8]) 1 e.ks.v rfl rfl (by decide) H1 λw2 H2=>?_
  refine yh (vs:=[.i e.x.op,e.ks.v,z2,z3,z4,z5,z6,z7,z8]) 2 (.i e.x.n) rfl rfl (by decide) H2 λw3 H3=>?_
  refine yh (vs:=[.i e.x.op,e.ks.v,.i e.x.n,z3,z4,z5,z6,z7,z8]) 3 (.i e.x.m) rfl rfl (by decide) H3 λw4 H4=>?_
  refine yh (vs:=[.i e.x.op,e.ks.v,.i e.x.n,.i e.x.m,z4,z5,z6,z7,z8]) 4 (.u e.x.u) rfl rfl (by decide) H4 λw5 H5=>?_
  refine yh (vs:=[.i e.x.op,e.ks.v,.i e.x.n,.i e.x.m,.u e.x.u,z5,z6,z7,z8]) 5 (.string e.x.tx) rfl rfl (by decide) H5 λw6 H6=>?_
  refine yh (vs:=[.i e.x.op,e.ks.v,.i e.x.n,.i e.x.m,.u e.x.u,.string e.x.tx,z6,z7,z8]) 6 (.i e.x.st.k) rfl rfl (by decide) H6 λw7 H7=>?_
  refine yh (vs:=[.i e.x.op,e.ks.v,.i e.x.n,.i e.x.m,.u e.x.u,.string e.x.tx,.i e.x.st.k,z7,z8]) 7 (.i e.x.st.n) rfl rfl (by decide) H7 λw8 H8=>?_
  refine yh (vs:=[.i e.x.op,e.ks.v,.i e.x.n,.i e.x.m,.u e.x.u,.string e.x.tx,.i e.x.st.k,.i e.x.st.n,z8]) 8 (.i e.x.st.x) rfl rfl (by decide) H8 λw9 H9=>?_
  exact hK w9 H9
end
theorem Gt (n:Nat):(madeCells (Value.agg #[.int .i64 0,.slice none 0 0,.int .i64 0,.int .i64 0,.int .u64 0,.string (ByteArray.mk #[]),.int .i64 0,.int .i64 0,.int .i64 0]).cells (n *9)).toList.length=n *9:=by
 simp [madeCells]
theorem No {w:World} {s:Sl} {l:List Nd} {d:Nd} (h:GP w s l) (hd:d.P w) (hk:qc.P w) (ho:Hj d.x) (A8:l.length<=1000000000) (hv:∀e∈xs l,bN e.st=true) (Fh:∀e∈l,e.x.kids.length<=1000000000):
  Calls Tryz.prog pM #[.agg #[s.v],d.v] w λr w'=>(∃s':Sl,r=.returned (.tuple #[.agg #[s'.v],.i (nf (xs l) d.x).2.1,.i (nf (xs l) d.x).2.2])/\GR w (·∈(En.gr s l).fp) (nf (xs l) d.x).1 s' w')/\bF w w':=by
 have hn:=qq h
 have nN:(xs l).length=l.length:=by simp [xs]
 have H:LH F0 w w [] [.gr s l,fF d,qc]:=mf _ (by
  intro e he
  simp only [cU,qnM,or_false] at he
  rcases he with rfl|rfl|rfl
  .exact cQ.2 h
  .exact hd
  .exact hk)
 refine term_Add.cT _ _ _ _ _ _ _ _ _ _ w _ (H.bI λb2 w1 H1=>H1.nw λw2 _ H2=>H2.bI λb4 w3 H3=>?_)
 have H3:LH F0 w w3 [.g b2,.c w1.heap.size d.c aE,.g b4] [.gr s l,fF d,qc]:=H3
 refine ⟨d.x.op,d.ks,d.x.n,d.x.m,d.x.u,d.x.tx,d.x.st.k,d.x.st.n,d.x.st.x,H3.ld 1 0,H3.ld 1 1,H3.ld 1 2,H3.ld 1 3,H3.ld 1 4,H3.ld 1 5,H3.ld 1 6,H3.ld 1 7,H3.ld 1 8,?_⟩
 refine H3.aL (zJ (cQ.1 (H3.getD 0)) (H3.getD 1) (H3.getD 2) ho A8 hv) ?_
 rintro _ w4 rfl H4
 refine ⟨_,_,_,_,rfl,H4.bI λb7 w5 H5=>eB (λh0=>H5.aN λw6 H6=>⟨⟨⟨none,0,0⟩,?_,?_⟩,H6.fr⟩) (λh0=>H5.aN λw6 H6=>?_)⟩
 .unfold nf;rw [if_pos h0]
 .unfold nf;rw [if_pos h0];exact GR.nil _ _ _
 have ha:nf (xs l) d.x=match mU (jb d.x (eU (xs l) d.x).1) (xs l) 0 with
   |some i=>(xs l,(i:Int),0)
   |none=>if 4096<=(xs l).length then ([],0,4) else (xs l++[jb d.x (eU (xs l) d.x).1],((xs l).length:Int),0):=by
  unfold nf;rw [if_neg (by omega)]
  try rfl
 generalize (eU (xs l) d.x).1=sr at *
 refine H6.Nj 1 6 rfl (λw7 H7=>H7.PY 1 6 1 rfl (λw8 H8=>H8.PY 1 6 2 rfl (λw9 H9=>?_) (by simp [Nd.c])) (by simp [Nd.c])) (by simp [Nd.c])
 let e:Nd:=⟨jb d.x sr,d.ks⟩
 have H9:LH F0 w w9 [.g b2,.c w1.heap.size e.c aE,.g b4,.g b7] [.gr s l,fF d,qc]:=H9
 refine H9.aL (Nu (d:=e) (cQ.1 (H9.getD 0)) (ze (H9.ob 1)) (H9.getD 1) A8 Fh) ?_
 rintro _ pT rfl mg
 refine ⟨_,rfl,?_⟩
 have he:e.x=jb d.x sr:=rfl
 rw [he]
 cases hi:mU (jb d.x sr) (xs l) 0 with
 |some i=>
  rw [hi] at ha
  rw [ha]
  exact aS (decide_eq_true (Int.natCast_nonneg i)) (mg.aN λrQ qn=>⟨⟨s,rfl,⟨l,rfl,cQ.1 (qn.getD 0),λb hb=>.inl hb⟩⟩,qn.fr⟩)
 |none=>
  rw [hi] at ha
  dsimp only at ha
  refine aM (by decide) (aK (λh4=>mg.aN λrQ qn=>⟨⟨⟨none,0,0⟩,?_,?_⟩,qn.fr⟩) (λh4=>?_))
  .rw [ha,if_pos (by omega)]
  .rw [ha,if_pos (by omega)];exact GR.nil _ _ _
  rw [if_neg (by omega)] at ha
  rw [ha]
  refine ⟨d.ks,mg.ld 1 1,mg.ss (PR (show fB pT d.ks d.x.kids from mg.getD 1) (by have:=ho.kl;omega)) ?_⟩
  rintro _ rQ ⟨ck,rfl,hck,fck⟩ _ F11
  have qn:=F11.rd (.rd ck (d.x.kids.map ia)) (rn hck) (Bp fck)
  refine ⟨_,rfl,qn.Nj 1 1 rfl (λqW pV=>?_) (by simp [Nd.c])⟩
  let e2:Nd:=⟨jb d.x sr,ck⟩
  have pV:LH F0 w qW [.g b2,.c w1.heap.size e2.c aE,.g b4,.g b7] [.gr s l,fF d,qc,fF e2]:=pV
  have e1:IntKind.wrap .i64 (((s.n:Nat):Int)+1)=((l.length+1:Nat):Int):=by rw [IntWalk.i64_in _ (by omega),hn];rfl
  rw [e1]
  obtain ⟨uF,r1,r2,r3⟩:=Bj gR qW (l.length+1) (by omega)
  have rG:=pV.WJ r3 r2 (by intro b hb;simp [bA] at hb;omega)
  have kp:∀b∈[b2,b4,b7],uF.heap[b]? =qW.heap[b]?:=λb hb=>by
   have hg:En.g b∈[En.g b2,.c w1.heap.size e2.c aE,.g b4,.g b7]:=by
    simp only [cU,qnM,or_false] at hb ⊢
    rcases hb with rfl|rfl|rfl<;>simp
   exact r3.gV b (pV.own _ hg) id
  refine ⟨⟨some (bD qW.heap.size),l.length+1,l.length+1⟩,uF,r1,kp,?_⟩
  generalize Ca:(madeCells (Value.agg #[.int .i64 0,.slice none 0 0,.int .i64 0,.int .i64 0,.int .u64 0,.string (ByteArray.mk #[]),.int .i64 0,.int .i64 0,.int .i64 0]).cells ((l.length+1) *9)).toList=Ac at rG
  have hold:Ac.length=(l.length+1) *9:=by rw [<-Ca];exact Gt _
  have hlc:=Nd.gH l
  refine rG.cpk 4 gR rfl (by simp) (show jJ 9 uF s (l.flatMap Nd.c) from (cQ.1 (rG.getD 0)).1) (by simp only;omega) nC (λCV qD=>?_)
  have hz:(Ac.drop (l.flatMap Nd.c).length).length=9:=by rw [qlD];omega
  generalize Ac.drop (l.flatMap Nd.c).length=Z at hz qD
  refine ⟨_,_,_,_,_,_,_,_,_,qD.ld 1 0,qD.ld 1 1,qD.ld 1 2,qD.ld 1 3,qD.ld 1 4,qD.ld 1 5,qD.ld 1 6,qD.ld 1 7,qD.ld 1 8,by omega,by simp only;omega,vB ?_⟩
  rw [hn,Int.toNat_natCast]
  refine qD.aaa (e:=e2) 4 l.length rfl rfl hlc hz (λAz vS=>?_)
  refine vS.aN λKl yl=>⟨⟨_,by rw [nN],⟨l++[e2],by simp [xs,e2],⟨?_,λa xq=>?_⟩,λb hb=>?_⟩⟩,yl.fr⟩
  .have:aO Kl aE 9 ⟨some (bD qW.heap.size),l.length+1,l.length+1⟩ (l.flatMap Nd.c++e2.c):=yl.get 4
   have:=this.iQ
   simpa using this
  .rcases List.mem_append.1 xq with xq|xq
   .exact (cQ.1 (yl.getD 0)).2 a xq
   .simp only [cU,qnM,or_false] at xq
    subst xq
    exact yl.getD 3
  .rcases sF.1 hb with hb|⟨a,xq,hb⟩
   .right
    have A4:b∈(En.row aE 9 ⟨some (bD qW.heap.size),l.length+1,l.length+1⟩ (l.flatMap Nd.c++e2.c)).fp:=by
     have:b∈(if (l++[e2]).flatMap Nd.c=[] then [] else bA ⟨some (bD qW.heap.size),l.length+1,l.length+1⟩):=hb
     split at this
     .cases this
     .exact this
    exact (yl.new _ (dC (i:=4) rfl) b A4).resolve_right id
   .rcases List.mem_append.1 xq with xq|xq
    .exact .inl (sF.2 (.inr ⟨a,xq,hb⟩))
    .simp only [cU,qnM,or_false] at xq
     subst xq
     exact .inr (Nat.le_trans mg.fr.size (Bp fck b hb))
end Go.Proofs.YtcifihepfadgfaaGreatDoor
