import Derived.Test.YtcifihepfadgfaaGreatDoorTP
import Derived.Test.YtcifihepfadgfaaGreatDoorTM
import Derived.Test.YtcifihepfadgfaaGreatDoorVB
import Derived.Test.YtcifihepfadgfaaGreatDoorT1
import Derived.Laws.CopyRow
set_option linter.unusedVariables false
namespace Go.Proofs.YtcifihepfadgfaaGreatDoor
open List renaming mem_cons->cU,not_mem_nil->qnM,mem_of_getElem?->cZ,getElem?_eq_getElem->gW,getElem?_eq_some_iff->oN,length_append->qlA,length_drop->qlD,mem_cons_of_mem->qmCM,drop_eq_getElem_cons->qdG,drop_of_length_le->qdO,eq_nil_of_length_eq_zero->Va
open Go Go.W
set_option maxRecDepth 100000
theorem lh2 {w:World} {a b:En} (ha:a.P w) (hb:b.P w):LH F0 w w [] [a,b]:=mu _ (by
 intro e he
 simp only [cU,qnM,or_false] at he
 rcases he with rfl|rfl
 .exact ha
 .exact hb)
def Oc (w:World) (l:List Int) (r:Ending) (w':World):Prop:=∃s:Sl,r=.returned s.v/\aP w' bW 1 s (l.map jm)/\∀b∈bC s,w.heap.size<=b
section
variable {M:Nat->Prop} {w0 w:World} {L D:List En} {bs:List Nat}
theorem _root_.Go.W.LH.N7 (H:LH M w0 w L D) (i j:Nat) {e:TypeId} {sz:Nat} {s:Sl} {xs:List Value} {v:Value} {p:Addr} {K:World->Prop} (hi:L[i]? =some (.row e sz s xs)) (hp:s.a=some p) (hj:j<xs.length)
  (hK:∀w',LH M w0 w' (L.set i (.row e sz s (xs.set j v))) D->K w') (jf:∀b∈bs,En.g b∈L:=by simp):bX w (p.add j) v λw1=>kept bs w w1/\K w1:=by
 obtain ⟨q,hq,hqb,x1,x2,x3,x4⟩:=Co (H.get i hi) j hj v
 rw [hp] at hq
 cases hq
 refine ⟨x1,x2,λb hb=>?_,hK _ (H.CZ i (.row e sz s (xs.set j v)) hi x4 x3 (λb hb=>.inl hb))⟩
 exact x4.gV b (H.own _ (jf b hb)) λhm=>H.vd hi (jf b hb) hm
end
theorem yc {p:Addr} {K:Addr->Prop} (h:K p):W.aX (some p) K:=h
set_option maxHeartbeats 1000000
def jL (w:World) (p:Addr) (d:Nd):Prop:=∀i v,(Nd.c d)[i]? =some v->w.cell? (p.add i)=some v
theorem jL.st {w w':World} {p:Addr} {d:Nd} (h:jL w p d) (hk:p.block<w.heap.size->w'.heap[p.block]? =w.heap[p.block]?):jL w' p d:=λi v hi=>by
 have hc:=h i v hi
 have hl:=oY hc
 rw [gF] at hl
 unfold World.cell? at hc ⊢
 rw [gF] at hc ⊢
 rw [hk hl];exact hc
theorem jL.lt {w:World} {p:Addr} {d:Nd} (h:jL w p d):p.block<w.heap.size:=by
 have:=oY (h 0 _ rfl)
 rwa [gF] at this
def _root_.Go.W.En.ya (p:Addr) (d:Nd):En:=⟨[p.block],λw=>jL w p d,λw w' h hp=>hp.st (h p.block (by simp)),λw hp b hb=>by simp at hb;subst hb;exact jL.lt hp,by simp⟩
theorem zf {w:World} {b:Nat} {d:Nd} {T:TypeId} (h:w.heap[b]? =some (.cells (Nd.c d).toArray T (0,0))):jL w (bF b) d:=λi v hi=>cellAt (p:=bF b) h rfl (by simpa using hi)
section
variable {w:World} {p:Addr} {d:Nd} (h:jL w p d)
include h
theorem jL.c0:w.cell? (p.add 0)=some (.i d.x.op):=h 0 _ rfl
theorem jL.c1:w.cell? (p.add 1)=some d.ks.v:=h 1 _ rfl
theorem jL.c2:w.cell? (p.add 2)=some (.i d.x.n):=h 2 _ rfl
theorem jL.c3:w.cell? (p.add 3)=some (.i d.x.m):=h 3 _ rfl
theorem jL.c4:w.cell? (p.add 4)=some (.u d.x.u):=h 4 _ rfl
theorem jL.c5:w.cell? (p.add 5)=some (.string d.x.tx):=h 5 _ rfl
theorem jL.s0:w.cell? ((p.add 6).add 0)=some (.i d.x.st.k):=by rw [add_add];exact h 6 _ rfl
theorem jL.s1:w.cell? ((p.add 6).add 1)=some (.i d.x.st.n):=by rw [add_add];exact h 7 _ rfl
theorem jL.s2:w.cell? ((p.add 6).add 2)=some (.i d.x.st.x):=by rw [add_add];exact h 8 _ rfl
end
theorem tw (n:Int) (w:World):Calls Tryz.prog fA #[.i n] w λr w'=>r=.returned (kj (jJ n))/\bI w w':=
 term_bv.cV _ w _ ((mu [] (by simp)).bJ λb w1 H1=>H1.aK λw2 H2=>⟨rfl,H2.fr⟩)
theorem Bw (n:Int) (w:World):Calls Tryz.prog lD #[.i n] w λr w'=>r=.returned (kj (mZ n))/\bI w w':=
 term_str.cV _ w _ ((mu [] (by simp)).bJ λb w1 H1=>H1.aK λw2 H2=>⟨rfl,H2.fr⟩)
theorem uu (s:ik) (w:World):Calls Tryz.prog iZ #[kj s] w λr w'=>r=.returned (.bool (s.k==0))/\bI w w':=
 term_isBV.cV _ _ _ w _ ((mu [] (by simp)).bJ λb w1 H1=>⟨rfl,H1.fr⟩)
theorem ju (s:ik) (w:World):Calls Tryz.prog cT #[kj s] w λr w'=>r=.returned (.bool (s.k==1))/\bI w w':=
 term_isStr.cV _ _ _ w _ ((mu [] (by simp)).bJ λb w1 H1=>⟨rfl,H1.fr⟩)
theorem wQ (s:ik) (w:World):Calls Tryz.prog lB #[kj s] w λr w'=>r=.returned (.bool (kZ s))/\bI w w':=
 term_isArray.cV _ _ _ w _ ((mu [] (by simp)).bJ λb w1 H1=>aH (λh=>⟨by unfold kZ;rw [h];rfl,H1.fr⟩) (λh=>⟨by unfold kZ;rw [beq_eq_false_iff_ne.2 h];rfl,H1.fr⟩))
theorem IX (x y:ik) (w:World):Calls Tryz.prog o7 #[kj x,kj y] w λr w'=>r=.returned (.bool (decide (x=y)||(x.k==1&&y.k==1)))/\bI w w':=by
 refine term_alike.cV _ _ _ _ _ _ w _ ((mu [] (by simp)).bJ λb w1 H1=>H1.bJ λb2 w2 H2=>nG (a:=x) (b:=y) (λhe=>⟨by rw [decide_eq_true he];rfl,H2.fr⟩) (λhe=>H2.aJ (ju x w2) ?_))
 rintro _ w3 rfl H3
 rw [decide_eq_false he,Bool.false_or]
 refine ⟨_,rfl,aH (λhk=>H3.aJ (ju y w3) ?_) (λhk=>⟨by rw [beq_eq_false_iff_ne.2 hk];rfl,H3.fr⟩)⟩
 rintro _ w4 rfl H4
 exact ⟨_,rfl,by rw [hk];rfl,H4.fr⟩
def Ug (ou ranges:Bool):Int:=if ou=true then (if ranges=true then 0 else 5) else 9
theorem NG (s:ik) (ou ranges:Bool) (w:World):Calls Tryz.prog aV #[kj s,.bool ou,.bool ranges] w λr w'=>r=ky (s,Ug ou ranges)/\bI w w':=by
 refine term_result.cV _ _ _ _ _ w _ ((mu [] (by simp)).bJ λb w1 H1=>H1.bJ λb2 w2 H2=>eQ (λh=>H2.aK λw3 H3=>⟨by rw [h];rfl,H3.fr⟩) (λh=>eQ (λh2=>H2.aK λw3 H3=>⟨by rw [h,h2];rfl,H3.fr⟩) (λh2=>H2.aK λw3 H3=>⟨by rw [h,h2];rfl,H3.fr⟩)))
theorem xE (s:ik) (w:World):Calls Tryz.prog kR #[kj s] w λr w'=>r=.returned (.int .i64 (lS s))/\bI w w':=by
 refine value_ValidSort.cV _ _ _ w _ ((mu [] (by simp)).bJ λb1 w1 H1=>?_)
 have VU:bO s=true->(Ending.returned (Value.int .i64 0)=.returned (.int .i64 (lS s))/\bI w w1):=λh=>⟨by unfold lS;rw [if_pos h],H1.fr⟩
 have bad:bO s=false->(Ending.returned (Value.int .i64 9)=.returned (.int .i64 (lS s))/\bI w w1):=λh=>⟨by unfold lS;rw [if_neg (by simp [h])],H1.fr⟩
 have plain:∀least:Int,(∀h1:least<=s.n,s.n<=64->s.x=0->bO s=true)->(¬(least<=s.n/\s.n<=64/\s.x=0)->bO s=false)->value_ValidSort.dV b1 s.k s.n s.x least 64 false w1 λr w'=>r=.returned (.int .i64 (lS s))/\bI w w':=by
  intro least h1 h2
  exact aM (λh=>bad (h2 (by omega))) (λh=>aM (λh'=>bad (h2 (by omega))) (λh'=>aL rfl (aQ rfl (eB (λh3=>bad (h2 (λhh=>h3 hh.2.2))) (λh3=>VU (h1 (by omega) (by omega) h3))))))
 have array:∀least:Int,(∀h1:least<=s.n,s.n<=64->1<=s.x->s.x<=16->bO s=true)->(¬(least<=s.n/\s.n<=64/\1<=s.x/\s.x<=16)->bO s=false)->value_ValidSort.dV b1 s.k s.n s.x least 64 true w1 λr w'=>r=.returned (.int .i64 (lS s))/\bI w w':=by
  intro least h1 h2
  exact aM (λh=>bad (h2 (by omega))) (λh=>aM (λh'=>bad (h2 (by omega))) (λh'=>aQ rfl (aM (λh3=>bad (h2 (by omega))) (λh3=>aM (λh4=>bad (h2 (by omega))) (λh4=>aL rfl (VU (h1 (by omega) (by omega) (by omega) (by omega))))))))
 refine aH (λh0=>plain 1 (λh1 h2 h3=>?_) (λh=>?_)) (λh0=>aH (λJy=>plain 0 (λh1 h2 h3=>?_) (λh=>?_)) (λJy=>aH (λQ8=>array 1 (λh1 h2 h3 h4=>?_) (λh=>?_)) (λQ8=>aH (λJz=>array 0 (λh1 h2 h3 h4=>?_) (λh=>?_)) (λJz=>bad ?_))))
 .unfold bO;simp [h0,h1,h2,h3]
 .unfold bO;rw [h0];simp;omega
 .unfold bO;simp [Jy,h1,h2,h3]
 .unfold bO;rw [Jy];simp;omega
 .unfold bO;simp [Q8,h1,h2,h3,h4]
 .unfold bO;rw [Q8];simp;omega
 .unfold bO;simp [Jz,h1,h2,h3,h4]
 .unfold bO;rw [Jz];simp;omega
 .unfold bO;simp [h0,Jy,Q8,Jz]
theorem Ut {s:ByteArray} {i:Nat} (h:i<s.size):s[i]? =some (gQ (bl s) i):=by
 have h2:i<(bl s).length:=h
 have e:gQ (bl s) i=(bl s)[i]:=by unfold gQ;rw [List.getD_eq_getElem?_getD,gW h2];rfl
 rw [e,getElem?_pos s i h]
 rfl
theorem NC (s:ByteArray) (w:World):Calls Tryz.prog qv #[.string s] w λr w'=>r=.returned (.bool (qc (bl s)))/\bI w w':=by
 have hl:(bl s).length=s.size:=iK s
 have mL:∀(c:UInt8) (m:List UInt8),qc (c::m)=(decide (m.length<=15)&&oC c&&m.all ml):=λ_ _=>rfl
 cases hs:bl s with
 |nil=>
  have h0:s.size=0:=by rw [<-hl,hs];rfl
  exact term_isName.ok s w _ (aQ (decide_eq_true (by omega)) ⟨rfl,Fr.refl _ _⟩)
 |cons c m=>
  have hm:s.size=m.length+1:=by rw [<-hl,hs];rfl
  have g0:gQ (bl s) 0=c:=by rw [hs];rfl
  refine term_isName.ok s w _ (aL (decide_eq_false (by omega)) (aM (λh=>⟨?_,Fr.refl _ _⟩) (λh=>?_)))
  .rw [mL,decide_eq_false (by omega)];rfl
  have e0:qc (c::m)=(oC c&&m.all ml):=by rw [mL,decide_eq_true (by omega:m.length<=15),Bool.true_and]
  rw [e0]
  have loop:∀(d i:Nat),i+d=s.size->(oC c&&m.all ml)=(if i=0 then (oC c&&m.all ml) else ((bl s).drop i).all ml)->term_isName.L1 s (i:Int) w λr w'=>r=.returned (.bool (oC c&&m.all ml))/\bI w w':=by
   intro d
   induction d with
   |zero=>
    intro i hi he
    rw [qdO (by omega),if_neg (by omega)] at he
    exact term_isName.nY _ _ _ _ (aL (decide_eq_false (by omega)) ⟨by rw [he];rfl,Fr.refl _ _⟩)
   |succ d ih=>
    intro i hi he
    have hg:=Ut (show i<s.size by omega)
    have hx:(bl s).drop i=gQ (bl s) i::(bl s).drop (i+1):=by
     rw [qdG (by omega:i<(bl s).length)]
     unfold gQ;rw [List.getD_eq_getElem?_getD,gW (by omega:i<(bl s).length)];rfl
    have go:(if i=0 then oC (gQ (bl s) i) else ml (gQ (bl s) i))=true->term_isName.S5 s (i:Int) w λr w'=>r=.returned (.bool (oC c&&m.all ml))/\bI w w':=λh=>by
     show term_isName.L1 s (IntKind.wrap .i64 ((i:Int)+1)) w _
     rw [aY _ (by omega)]
     refine ih (i+1) (by omega) ?_
     rw [if_neg (by omega)]
     by_cases h0:i=0
     .subst h0
      rw [if_pos rfl,g0] at h
      rw [h,Bool.true_and]
      rw [hs];rfl
     .rw [if_neg h0] at h he
      rw [he,hx,List.all_cons,h,Bool.true_and]
    have stop:(if i=0 then oC (gQ (bl s) i) else ml (gQ (bl s) i))=false->term_isName.S4 w λr w'=>r=.returned (.bool (oC c&&m.all ml))/\bI w w':=λh=>by
     refine ⟨?_,Fr.refl _ _⟩
     by_cases h0:i=0
     .subst h0
      rw [if_pos rfl,g0] at h
      rw [h,Bool.false_and]
     .rw [if_neg h0] at h he
      rw [he,hx,List.all_cons,h,Bool.false_and]
    generalize gQ (bl s) i=x at hg go stop
    have S3:∀l:Bool,l=oC x->term_isName.S3 s (i:Int) ((x.toNat:Nat):Int) l w λr w'=>r=.returned (.bool (oC c&&m.all ml))/\bI w w':=by
     intro l hl
     refine eQ (λhf=>?_) (λht=>go ?_)
     .rw [hf] at hl
      refine aH (λh0=>stop ?_) (λh0=>?_)
      .rw [if_pos (by omega),<-hl]
      have Wc:i≠0:=by omega
      rw [if_neg Wc] at go stop
      have nq:ml x=((decide (48<=x.toNat)&&decide (x.toNat<=57))||x==45):=by unfold ml;rw [<-hl,Bool.false_or]
      refine eB (λQ9=>aM (λh1=>stop ?_) (λh1=>aM (λh2=>stop ?_) (λh2=>go ?_))) (λQ9=>go ?_)
      .rw [nq,decide_eq_false (show ¬48<=x.toNat by omega)]
       have:(x==45)=false:=beq_eq_false_iff_ne.2 λe=>Q9 (by subst e;rfl)
       rw [this];rfl
      .rw [nq,decide_eq_false (show ¬x.toNat<=57 by omega),Bool.and_false]
       have:(x==45)=false:=beq_eq_false_iff_ne.2 λe=>Q9 (by subst e;rfl)
       rw [this];rfl
      .rw [nq,decide_eq_true (show 48<=x.toNat by omega),decide_eq_true (show x.toNat<=57 by omega)];rfl
      .have:x=45:=UInt8.toNat_inj.1 (by have:((45:UInt8).toNat:Int)=45:=rfl;omega)
       rw [nq,this];rfl
     .rw [ht] at hl
      split
      .exact hl.symm
      .unfold ml;rw [<-hl];rfl
    have ht:((i:Int)).toNat=i:=Int.toNat_natCast i
    refine term_isName.nY _ _ _ _ (aQ (decide_eq_true (by omega)) ⟨by omega,x,by rw [ht];exact hg,aM (λh1=>S3 _ ?_) (λh1=>S3 _ ?_)⟩)
    .unfold oC
     rw [decide_eq_true (show 97<=x.toNat by omega),Bool.true_and]
     exact decide_eq_decide.2 (by omega)
    .unfold oC
     rw [decide_eq_false (show ¬97<=x.toNat by omega),Bool.false_and]
  exact loop s.size 0 (by omega) (by rw [if_pos rfl])
theorem OG (t:ByteArray):(t.toList==(ByteArray.mk #[]).toList)=decide (t=ba []):=I3 _ _
theorem E4 {w:World} {p:Addr} {d:Nd} (h:jL w p d):Calls Tryz.prog nT #[.pointer (some p)] w λr w'=>r=.returned (.bool (okF d.x))/\bI w w':=by
 have S1:∀a b c e:Bool,term_fieldsFit.S1 p a b c e w λr w'=>r=.returned (.bool ((a||d.x.n==0)&&(b||d.x.m==0)&&(c||d.x.u==0)&&(e||decide (d.x.tx=ba []))))/\bI w w':=by
  intro a b c e
  cases a<;>cases b<;>cases c<;>cases e
  all_goals repeat (first |refine aL rfl ?_|refine aQ rfl ?_|refine ⟨_,h.c2,aH (λh2=>?_) (λh2=>⟨by rw [beq_eq_false_iff_ne.2 h2];simp,Fr.refl _ _⟩)⟩|refine ⟨_,h.c3,aH (λh3=>?_) (λh3=>⟨by rw [beq_eq_false_iff_ne.2 h3];simp,Fr.refl _ _⟩)⟩|refine ⟨_,h.c4,aH (λh4=>?_) (λh4=>⟨by rw [beq_eq_false_iff_ne.2 h4];simp,Fr.refl _ _⟩)⟩|refine ⟨_,h.c5,?_,Fr.refl _ _⟩)
  all_goals first |exact ⟨by simp [*],Fr.refl _ _⟩|(rw [OG];simp [*])
 have fin:∀a b c e:Bool,a=DT d.x.op->b=(d.x.op==21)->c=(d.x.op==1)->e=DU d.x.op->term_fieldsFit.S1 p a b c e w λr w'=>r=.returned (.bool (okF d.x))/\bI w w':=by
  rintro a b c e rfl rfl rfl rfl
  exact S1 _ _ _ _
 have e0:∀k:Int,d.x.op≠k->(d.x.op==k)=false:=λk hk=>beq_eq_false_iff_ne.2 hk
 have S2:∀e:Bool,e=DU d.x.op->term_fieldsFit.S2 p false false false e d.x.op w λr w'=>r=.returned (.bool (okF d.x))/\bI w w':=by
  intro e he
  refine aH (λh1=>fin _ _ _ _ ?_ ?_ ?_ he) (λh1=>aH (λh2=>fin _ _ _ _ ?_ ?_ ?_ he) (λh2=>aH (λh3=>aQ (beq_iff_eq.2 h3) (fin _ _ _ _ ?_ ?_ ?_ he)) (λh3=>aH (λh4=>aQ (beq_iff_eq.2 h4) (fin _ _ _ _ ?_ ?_ ?_ he)) (λh4=>aH (λh5=>fin _ _ _ _ ?_ ?_ ?_ he) (λh5=>fin _ _ _ _ ?_ ?_ ?_ he)))))
  all_goals first |(rw [‹d.x.op=_›];rfl)|(simp [DT, *])
 refine term_fieldsFit.ok p w _ ⟨_,h.c0,aH (λh0=>aQ (beq_iff_eq.2 h0) (fin _ _ _ _ ?_ ?_ ?_ ?_)) (λh0=>aH (λh2=>aQ (beq_iff_eq.2 h2) (fin _ _ _ _ ?_ ?_ ?_ ?_)) (λh2=>aH (λh3=>fin _ _ _ _ ?_ ?_ ?_ ?_) (λh3=>S2 _ ?_)))⟩
 all_goals first |(rw [‹d.x.op=_›];rfl)|(unfold DU;simp [*])
def tt (s:ik) (e:Int) (r:Ending):Prop:=∃(t:ik) (e':Int),r=ky (t,e')/\e'=e/\(e=0->t=s)
theorem XV {w:World} {p:Addr} {d:Nd} (h:jL w p d):LH F0 w w [] [.ya p d]:=mu _ (by
 intro e he
 simp only [cU,qnM,or_false] at he
 subst he
 exact h)
def rS (n:Nx) (x y z:ik):Int:=if iM n.op x y z=false then 9 else if uo n x y z=false then 5 else if n.op=33/\Ah n.tx=false then 2 else 0
theorem PM {n:Nx} {x y z t:ik} {ou ranges:Bool} (nZ:n.op≠33) (h1:ou=iM n.op x y z) (h2:ou=true->ranges=uo n x y z) (h3:ou=true->ranges=true->t=qO n x y z):tt (qO n x y z) (rS n x y z) (ky (t,Ug ou ranges)):=by
 refine ⟨t,_,rfl,?_,λh=>?_⟩
 .unfold Ug rS
  rw [<-h1]
  cases ou with
  |false=>rfl
  |true=>
   rw [<-h2 rfl]
   cases ranges with
   |false=>rfl
   |true=>simp [nZ]
 .unfold rS at h
  rw [<-h1] at h
  cases ou with
  |false=>simp at h
  |true=>
   rw [<-h2 rfl] at h
   cases ranges with
   |false=>simp at h
   |true=>exact h3 rfl rfl
section
variable {M:Nat->Prop} {w0 w:World} {L D:List En} {bs Fq:List Nat}
theorem gL (H:LH F0 w0 w L D) {n:Nx} {x y z:ik} (t:ik) (ou ranges:Bool) (nZ:n.op≠33) (h1:ou=iM n.op x y z) (h2:ou=true->ranges=uo n x y z) (h3:ou=true->ranges=true->t=qO n x y z) (jf:∀b∈bs,En.g b∈L:=by simp):
  fV Fq Tryz.prog aV #[kj t,.bool ou,.bool ranges] w λr w5=>∃a b c e:Int,r=.returned (.tuple #[.agg #[.i a,.i b,.i c],.i e])/\loc bs w5 λw6=>tt (qO n x y z) (rS n x y z) (.returned (.tuple #[.agg #[.i a,.i b,.i c],.i e]))/\bI w0 w6:=by
 refine H.aJ (NG t ou ranges w) ?_
 rintro _ w1 rfl H1
 exact ⟨_,_,_,_,rfl,H1.aK (λw2 H2=>⟨PM nZ h1 h2 h3,H2.fr⟩) jf⟩
end
def QC (s:ik):Prop:=0<=s.n/\s.n<=64
theorem Kp {s:ik} (h:bO s=true):QC s:=⟨(mD h).1,(mD h).2.1⟩
theorem MR:QC oy:=⟨by decide,by decide⟩
theorem Uv {w:World} {p:Addr} {d:Nd} {x y z:ik} (h:jL w p d) (h4:4<=d.x.op) (h23:d.x.op<=23) (hx:QC x) (hy:QC y) (hn:ow d.x.n) (hm:ow d.x.m):
  Calls Tryz.prog nB #[.pointer (some p),kj x,kj y,kj z] w λr w'=>tt (qO d.x x y z) (rS d.x x y z) r/\bI w w':=by
 refine term_sortOfBits.cV _ _ _ _ _ _ _ _ _ _ w _ ((XV h).bJ λb5 w1 H1=>H1.bJ λb6 w2 H2=>H2.bJ λb7 w3 H3=>H3.bJ λb8 w4 H4=>?_)
 obtain ⟨⟨op,kids,n,m,u,tx,st⟩,Pg⟩:=d
 have C:∀{w5:World} {L:List En},LH F0 w w5 L [.ya p ⟨⟨op,kids,n,m,u,tx,st⟩,Pg⟩]->jL w5 p ⟨⟨op,kids,n,m,u,tx,st⟩,Pg⟩:=λH=>H.getD 0
 simp only at h4 h23 hn hm
 refine ⟨op,(C H4).c0,?_⟩
 obtain ⟨Mt,U5⟩:=hx
 obtain ⟨TR,Ry⟩:=hy
 obtain ⟨CV,XJ⟩:=hn
 obtain ⟨Rn,U2⟩:=hm
 have two:∀(c:Bool),c=true->c=true:=λ_ h=>h
 rcases wE (by omega) (by omega:op<=34) with rfl|rfl|rfl|rfl|rfl|rfl|rfl|rfl|rfl|rfl|rfl|rfl|rfl|rfl|rfl|rfl|rfl|rfl|rfl|rfl|rfl|rfl|rfl|rfl|rfl|rfl|rfl|rfl|rfl|rfl|rfl|rfl|rfl|rfl|rfl
 iterate 4 omega
 rotate_left 20
 iterate 11 omega
 all_goals repeat (first |refine aL rfl ?_|refine aQ rfl ?_)
 iterate 2
  .refine H4.aK λw5 H5=>H5.aJ (uu x w5) ?_
   rintro _ w6 rfl H6
   exact ⟨_,rfl,gL H6 x _ true (by simp) rfl (λ_=>rfl) (λ_ _=>rfl)⟩
 iterate 10
  .refine H4.aK λw5 H5=>H5.aJ (uu x w5) ?_
   rintro _ w6 rfl H6
   refine ⟨_,rfl,aH (λhk=>?_) (λhk=>?_)⟩
   .refine gL H6 x _ true (by simp) ?_ (λ_=>rfl) (λ_ _=>rfl)
    rw [nH]
    show _=(x.k==0&&decide (x=y))
    rw [hk];rfl
   .refine gL H6 x _ true (by simp) ?_ (λ_=>rfl) (λ_ _=>rfl)
    show _=(x.k==0&&decide (x=y))
    rw [beq_eq_false_iff_ne.2 hk];rfl
 iterate 2
  .refine H4.aK λw5 H5=>H5.aJ (tw 1 w5) ?_
   rintro _ w6 rfl H6
   refine ⟨_,_,_,rfl,H6.aJ (uu x w6) ?_⟩
   rintro _ w7 rfl H7
   refine ⟨_,rfl,aH (λhk=>?_) (λhk=>?_)⟩
   .refine gL H7 (jJ 1) _ true (by simp) ?_ (λ_=>rfl) (λ_ _=>rfl)
    rw [nH]
    show _=(x.k==0&&decide (x=y))
    rw [hk];rfl
   .refine gL H7 (jJ 1) _ true (by simp) ?_ (λ_=>rfl) (λ_ _=>rfl)
    show _=(x.k==0&&decide (x=y))
    rw [beq_eq_false_iff_ne.2 hk];rfl
 .refine H4.aK λw5 H5=>H5.aJ (tw 1 w5) ?_
  rintro _ w6 rfl H6
  refine ⟨_,_,_,rfl,H6.aJ (IX x y w6) ?_⟩
  rintro _ w7 rfl H7
  exact ⟨_,rfl,gL H7 (jJ 1) _ true (by simp) rfl (λ_=>rfl) (λ_ _=>rfl)⟩
 .refine H4.bJ λpo w5 H5=>H5.aK λw6 H6=>H6.aJ (ju y w6) ?_
  rintro _ w7 rfl H7
  have S4:∀(t:ik) (w8:World),((decide (y=z)||(y.k==1&&z.k==1))=true->t=if y.k=1 then mZ (if y.n<z.n then z.n else y.n) else y)->LH F0 w w8 [.g b5,.g b6,.g b7,.g b8,.g po] [.ya p ⟨⟨19,kids,n,m,u,tx,st⟩,Pg⟩]->term_sortOfBits.ox b5 x.k x.n x.x b6 y.k y.n y.x b7 z.k z.n z.x b8 0 0 0 po t.k t.n t.x w8 λr w'=>tt (qO ⟨19,kids,n,m,u,tx,st⟩ x y z) (rS ⟨19,kids,n,m,u,tx,st⟩ x y z) r/\bI w w':=by
   intro t w8 ht H8
   refine H8.aK λw9 H9=>H9.aJ (tw 1 w9) ?_
   rintro _ pR rfl m8
   have fe:iM 19 x y z=(decide (x=jJ 1)&&(decide (y=z)||(y.k==1&&z.k==1))):=rfl
   refine ⟨_,_,_,rfl,nG (a:=x) (b:=jJ 1) (λhe=>m8.aJ (IX y z pR) ?_) (λhe=>?_)⟩
   .rintro _ rO rfl qB
    refine ⟨_,rfl,gL qB t _ true (by simp) ?_ (λ_=>rfl) (λh _=>ht h)⟩
    show _=iM 19 x y z
    rw [fe,decide_eq_true he];rfl
   .refine gL m8 t _ true (by simp) ?_ (λ_=>rfl) (λh _=>by cases h)
    show _=iM 19 x y z
    rw [fe,decide_eq_false he];rfl
  have yes:∀t:ik,y.k=1->z.k=1->t=mZ (if y.n<z.n then z.n else y.n)->((decide (y=z)||(y.k==1&&z.k==1))=true->t=if y.k=1 then mZ (if y.n<z.n then z.n else y.n) else y):=λt h1 _ h3 _=>by rw [if_pos h1,h3]
  refine ⟨_,rfl,aH (λhk=>H7.aJ (ju z w7) ?_) (λhk=>S4 y w7 (λ_=>by rw [if_neg hk]) H7)⟩
  rintro _ w8 rfl H8
  refine ⟨_,rfl,aH (λsE=>H8.aJ (Bw _ w8) ?_) (λsE=>S4 y w8 (λhf=>?_) H8)⟩
  .rintro _ w9 rfl H9
   exact ⟨_,_,_,rfl,H9.aK λpR m8=>S4 (mZ (if y.n<z.n then z.n else y.n)) pR (yes _ hk sE rfl) m8⟩
  .rw [beq_eq_false_iff_ne.2 sE,Bool.and_false,Bool.or_false] at hf
   have:=of_decide_eq_true hf
   exact absurd (by rw [<-this];exact hk) sE
 .have e1:IntKind.wrap .i64 (x.n+y.n)=x.n+y.n:=IntWalk.i64_in _ (by omega)
  have fe:iM 20 x y z=(x.k==0&&y.k==0):=rfl
  refine H4.aK λw5 H5=>?_
  rw [e1]
  refine H5.aJ (tw _ w5) ?_
  rintro _ w6 rfl H6
  refine ⟨_,_,_,rfl,H6.aJ (uu x w6) ?_⟩
  rintro _ w7 rfl H7
  refine ⟨_,rfl,aH (λhk=>H7.aJ (uu y w7) ?_) (λhk=>?_)⟩
  .rintro _ w8 rfl H8
   refine ⟨_,rfl,gL H8 (jJ (x.n+y.n)) _ _ (by simp) ?_ (λ_=>rfl) (λ_ _=>rfl)⟩
   show _=iM 20 x y z
   rw [fe,hk];rfl
  .refine gL H7 (jJ (x.n+y.n)) _ _ (by simp) ?_ (λh=>by cases h) (λh _=>by cases h)
   show _=iM 20 x y z
   rw [fe,beq_eq_false_iff_ne.2 hk];rfl
 .have hr:uo ⟨21,kids,n,m,u,tx,st⟩ x y z=(decide (0<=m)&&decide (m<=n)&&decide (n<x.n)):=rfl
  refine H4.aK λw5 H5=>⟨_,(C H5).c2,_,(C H5).c3,_,(C H5).c3,H5.aJ (tw _ w5) ?_⟩
  rintro _ w6 rfl H6
  refine ⟨_,_,_,rfl,(C H6).c3,H6.aJ (uu x w6) ?_⟩
  rintro _ w7 rfl H7
  refine ⟨_,rfl,(C H7).c3,aM (λg1=>⟨_,(C H7).c3,_,(C H7).c2,aM (λg2=>⟨_,(C H7).c2,gL H7 (jJ _) _ _ (by simp) rfl (λ_=>?_) (λ_ g3=>?_)⟩) (λg2=>gL H7 (jJ _) _ _ (by simp) rfl (λ_=>?_) (λ_ h=>by cases h))⟩) (λg1=>gL H7 (jJ _) _ _ (by simp) rfl (λ_=>?_) (λ_ h=>by cases h))⟩
  .rw [hr,decide_eq_true (show 0<=m from g1),decide_eq_true (show m<=n from g2)];rfl
  .have g1:0<=m:=g1
   have g2:m<=n:=g2
   have g3:n<x.n:=of_decide_eq_true g3
   show jJ (IntKind.wrap .i64 (IntKind.wrap .i64 (n - m)+1))=jJ (n - m+1)
   rw [IntWalk.i64_in (n - m) (by omega),IntWalk.i64_in _ (by omega)]
  .rw [hr,decide_eq_false (show ¬m<=n from g2),Bool.and_false];rfl
  .rw [hr,decide_eq_false (show ¬0<=m from g1)];rfl
 iterate 2
  .have Xz:IntKind.wrap .i64 (64 - x.n)=64 - x.n:=IntWalk.i64_in _ (by omega)
   refine H4.aK λw5 H5=>⟨_,(C H5).c2,_,(C H5).c2,H5.aJ (tw _ w5) ?_⟩
   rintro _ w6 rfl H6
   refine ⟨_,_,_,rfl,(C H6).c2,H6.aJ (uu x w6) ?_⟩
   rintro _ w7 rfl H7
   refine ⟨_,rfl,(C H7).c2,aM (λg1=>⟨_,(C H7).c2,gL H7 (jJ _) _ _ (by simp) rfl (λ_=>?_) (λ_ g3=>?_)⟩) (λg1=>gL H7 (jJ _) _ _ (by simp) rfl (λ_=>?_) (λ_ h=>by cases h))⟩
   .show _=(decide (1<=n)&&decide (n<=64 - x.n))
    rw [Xz,decide_eq_true (show 1<=n from g1)];rfl
   .have g1:1<=n:=g1
    rw [Xz] at g3
    have g3:n<=64 - x.n:=of_decide_eq_true g3
    show jJ (IntKind.wrap .i64 (x.n+n))=jJ (x.n+n)
    rw [IntWalk.i64_in _ (by omega)]
   .show _=(decide (1<=n)&&decide (n<=64 - x.n))
    rw [decide_eq_false (show ¬1<=n from g1)];rfl
theorem Kg {x y z:ik} (ha:kZ x=true):iM 25 x y z=(decide (y=jJ x.x)&&(if x.k=3 then z.k==1&&decide (z.n<=x.n) else decide (z=ni x))):=by
 show (kZ x&&decide (y=jJ x.x)&&(decide (z=ni x)||(x.k==3&&z.k==1&&decide (z.n<=x.n))))=_
 rw [ha,Bool.true_and]
 congr 1
 by_cases h3:x.k=3
 .rw [if_pos h3,h3]
  have he:ni x=mZ x.n:=by unfold ni;rw [if_neg (by omega)]
  rw [he]
  by_cases hz:z=mZ x.n
  .subst hz
   simp [mZ]
  .rw [decide_eq_false hz];rfl
 .rw [if_neg h3,beq_eq_false_iff_ne.2 h3]
  simp
theorem NA {w:World} {p:Addr} {d:Nd} {x y z:ik} (h:jL w p d) (h4:24<=d.x.op) (h26:d.x.op<=26):
  Calls Tryz.prog lZ #[.pointer (some p),kj x,kj y,kj z] w λr w'=>tt (qO d.x x y z) (rS d.x x y z) r/\bI w w':=by
 refine term_sortOfArrays.cV _ _ _ _ _ _ _ _ _ _ w _ ((XV h).bJ λb5 w1 H1=>H1.bJ λb6 w2 H2=>H2.bJ λb7 w3 H3=>H3.bJ λb8 w4 H4=>?_)
 have C:∀{w5:World} {L:List En},LH F0 w w5 L [.ya p d]->jL w5 p d:=λH=>H.getD 0
 refine ⟨_,(C H4).c0,aH (λho=>H4.aK λw5 H5=>H5.aJ (tw x.x w5) ?_) (λho=>H4.aJ (tw x.n w4) ?_)⟩
 .rintro _ w6 rfl H6
  refine ⟨_,_,_,rfl,H6.aJ (wQ x w6) ?_⟩
  rintro _ w7 rfl H7
  have fe:iM d.x.op x y z=(kZ x&&decide (x=y)):=by rw [ho];rfl
  have fr:uo d.x x y z=true:=by unfold uo;rw [ho];rfl
  have fs:qO d.x x y z=jJ x.x:=by unfold qO;rw [ho];rfl
  refine ⟨_,rfl,aZ (λhk=>?_) (λhk=>?_)⟩
  .refine gL H7 (jJ x.x) _ true (by omega) ?_ (λ_=>fr.symm) (λ_ _=>fs.symm)
   rw [fe,nH,hk];rfl
  .refine gL H7 (jJ x.x) _ true (by omega) ?_ (λ_=>fr.symm) (λ_ _=>fs.symm)
   rw [fe,hk];rfl
 rintro _ w6 rfl H6
 have fr:uo d.x x y z=true:=by unfold uo;rw [if_neg (by omega),if_neg (by omega),if_neg (by omega),if_neg (by omega),if_neg (by omega)]
 have S1:∀(t:ik) (po:Nat) (f:Bool) (w7:World),f=(kZ x&&decide (y=jJ x.x))->(kZ x=true->t=ni x)->LH F0 w w7 [.g b5,.g b6,.g b7,.g b8,.g po] [.ya p d]->term_sortOfArrays.fY p b5 x.k x.n x.x b7 z.k z.n z.x b8 0 0 0 po t.k t.n t.x f w7 λr w'=>tt (qO d.x x y z) (rS d.x x y z) r/\bI w w':=by
  intro t po f w7 hf ht H7
  refine ⟨_,(C H7).c0,aH (λYS=>?_) (λYS=>?_)⟩
  .refine gL H7 t f true (by omega) ?_ (λ_=>fr.symm) (λhh _=>?_)
   .rw [hf,YS];rfl
   .rw [hf] at hh
    simp only [Bool.and_eq_true] at hh
    rw [ht hh.1]
    unfold qO;rw [YS];rfl
  have UW:d.x.op=25:=by omega
  have fs:qO d.x x y z=x:=by unfold qO;rw [UW];rfl
  have ff:f=false->iM d.x.op x y z=false:=λh=>by
   rw [UW]
   show (kZ x&&decide (y=jJ x.x)&&(decide (z=ni x)||(x.k==3&&z.k==1&&decide (z.n<=x.n))))=_
   rw [<-hf,h];rfl
  have ft:f=true->kZ x=true/\iM d.x.op x y z=(if x.k=3 then z.k==1&&decide (z.n<=x.n) else decide (z=ni x)):=λh=>by
   rw [h] at hf
   have hf:=hf.symm
   simp only [Bool.and_eq_true] at hf
   refine ⟨hf.1,?_⟩
   rw [UW,Kg hf.1,hf.2,Bool.true_and]
  refine aH (λhk=>aZ (λO1=>H7.aK λw8 H8=>H8.aJ (ju z w8) ?_) (λZn=>H7.aK λw8 H8=>gL H8 x _ true (by omega) (ff Zn).symm (λ_=>fr.symm) (λ_ _=>fs.symm))) (λhk=>aZ (λO1=>H7.aK λw8 H8=>gL H8 x _ true (by omega) ?_ (λ_=>fr.symm) (λ_ _=>fs.symm)) (λZn=>H7.aK λw8 H8=>gL H8 x _ true (by omega) (ff Zn).symm (λ_=>fr.symm) (λ_ _=>fs.symm)))
  .rintro _ w9 rfl H9
   have:=(ft O1).2
   rw [if_pos hk] at this
   refine ⟨_,rfl,aH (λhz=>gL H9 x _ true (by omega) ?_ (λ_=>fr.symm) (λ_ _=>fs.symm)) (λhz=>gL H9 x _ true (by omega) ?_ (λ_=>fr.symm) (λ_ _=>fs.symm))⟩
   .rw [this,hz];rfl
   .rw [this,beq_eq_false_iff_ne.2 hz];rfl
  .have h2:=ft O1
   rw [if_neg hk] at h2
   rw [h2.2,nH,ht h2.1]
 have S0:∀(t:ik) (po:Nat) (w7:World),(kZ x=true->t=ni x)->LH F0 w w7 [.g b5,.g b6,.g b7,.g b8,.g po] [.ya p d]->term_sortOfArrays.dV p b5 x.k x.n x.x b6 y.k y.n y.x b7 z.k z.n z.x b8 0 0 0 po t.k t.n t.x w7 λr w'=>tt (qO d.x x y z) (rS d.x x y z) r/\bI w w':=by
  intro t po w7 ht H7
  refine H7.aK λw8 H8=>H8.aJ (wQ x w8) ?_
  rintro _ w9 rfl H9
  refine ⟨_,rfl,aZ (λhk=>H9.aJ (tw x.x w9) ?_) (λhk=>S1 t po false w9 (by rw [hk];rfl) ht H9)⟩
  rintro _ pR rfl m8
  exact ⟨_,_,_,rfl,S1 t po _ pR (by rw [hk];exact nH y (jJ x.x)) ht m8⟩
 refine ⟨_,_,_,rfl,H6.bJ λpo w7 H7=>aH (λhk=>H7.aK λw8 H8=>H8.aJ (Bw x.n w8) ?_) (λhk=>H7.aK λw8 H8=>S0 (jJ x.n) po w8 (λha=>?_) H8)⟩
 .rintro _ w9 rfl H9
  exact ⟨_,_,_,rfl,H9.aK λpR m8=>S0 (mZ x.n) po pR (λ_=>by unfold ni;rw [if_neg (by omega)]) m8⟩
 .unfold kZ at ha
  simp only [Bool.or_eq_true,beq_iff_eq] at ha
  unfold ni
  rw [if_pos (by omega)]
def FE (t:ByteArray):Prop:=∀w,Calls Tryz.prog mz #[.string t] w λr w'=>r=.returned (.bool (Ah t))/\bI w w'
theorem Kj {w:World} {p:Addr} {d:Nd} {x y z:ik} (h:jL w p d) (h27:27<=d.x.op) (HW:d.x.op<=34) (hx:QC x) (hy:QC y) (hz:QC z) (hN:d.x.op=33->FE d.x.tx):
  Calls Tryz.prog lC #[.pointer (some p),kj x,kj y,kj z] w λr w'=>tt (qO d.x x y z) (rS d.x x y z) r/\bI w w':=by
 refine term_sortOfStrings.cV _ _ _ _ _ _ _ _ _ _ w _ ((XV h).bJ λb5 w1 H1=>H1.bJ λb6 w2 H2=>H2.bJ λb7 w3 H3=>H3.bJ λb8 w4 H4=>?_)
 obtain ⟨⟨op,kids,n,m,u,tx,st⟩,Pg⟩:=d
 have C:∀{w5:World} {L:List En},LH F0 w w5 L [.ya p ⟨⟨op,kids,n,m,u,tx,st⟩,Pg⟩]->jL w5 p ⟨⟨op,kids,n,m,u,tx,st⟩,Pg⟩:=λH=>H.getD 0
 simp only at h27 HW hN
 refine ⟨op,(C H4).c0,?_⟩
 obtain ⟨Mt,U5⟩:=hx
 obtain ⟨TR,Ry⟩:=hy
 obtain ⟨N3,Mu⟩:=hz
 have ZE:op=27\/op=28\/op=29\/op=30\/op=31\/op=32\/op=33\/op=34:=by omega
 rcases ZE with rfl|rfl|rfl|rfl|rfl|rfl|rfl|rfl
 all_goals repeat (first |refine aL rfl ?_|refine aQ rfl ?_)
 .refine H4.aK λw5 H5=>H5.aJ (tw 7 w5) ?_
  rintro _ w6 rfl H6
  refine ⟨_,_,_,rfl,H6.aJ (ju x w6) ?_⟩
  rintro _ w7 rfl H7
  exact ⟨_,rfl,gL H7 (jJ 7) _ true (by simp) rfl (λ_=>rfl) (λ_ _=>rfl)⟩
 .have hr:uo ⟨28,kids,n,m,u,tx,st⟩ x y z=(decide (0<=n)&&decide (n<=63)):=rfl
  refine H4.aK λw5 H5=>⟨_,(C H5).c2,H5.aJ (tw 8 w5) ?_⟩
  rintro _ w6 rfl H6
  refine ⟨_,_,_,rfl,(C H6).c2,H6.aJ (ju x w6) ?_⟩
  rintro _ w7 rfl H7
  refine ⟨_,rfl,(C H7).c2,aM (λg1=>⟨_,(C H7).c2,gL H7 (jJ 8) _ _ (by simp) rfl (λ_=>?_) (λ_ _=>rfl)⟩) (λg1=>gL H7 (jJ 8) _ _ (by simp) rfl (λ_=>?_) (λ_ h=>by cases h))⟩
  .rw [hr,decide_eq_true (show 0<=n from g1),Bool.true_and]
   exact decide_eq_decide.2 (by show n<64↔n<=63;omega)
  .rw [hr,decide_eq_false (show ¬0<=n from g1)];rfl
 .have e1:IntKind.wrap .i64 (x.n+y.n)=x.n+y.n:=IntWalk.i64_in _ (by omega)
  have fe:iM 29 x y z=(x.k==1&&y.k==1):=rfl
  refine H4.aK λw5 H5=>?_
  rw [e1]
  refine H5.aJ (Bw _ w5) ?_
  rintro _ w6 rfl H6
  refine ⟨_,_,_,rfl,H6.aJ (ju x w6) ?_⟩
  rintro _ w7 rfl H7
  refine ⟨_,rfl,aH (λhk=>H7.aJ (ju y w7) ?_) (λhk=>?_)⟩
  .rintro _ w8 rfl H8
   refine ⟨_,rfl,gL H8 (mZ (x.n+y.n)) _ _ (by simp) ?_ (λ_=>rfl) (λ_ _=>rfl)⟩
   show _=iM 29 x y z
   rw [fe,hk];rfl
  .refine gL H7 (mZ (x.n+y.n)) _ _ (by simp) ?_ (λh=>by cases h) (λh _=>by cases h)
   show _=iM 29 x y z
   rw [fe,beq_eq_false_iff_ne.2 hk];rfl
 .have fe:iM 30 x y z=(x.k==1&&decide (y=jJ 7)&&decide (z=jJ 7)):=rfl
  refine H4.aK λw5 H5=>H5.aJ (ju x w5) ?_
  rintro _ w6 rfl H6
  refine ⟨_,rfl,aH (λhk=>H6.aJ (tw 7 w6) ?_) (λhk=>gL H6 x _ true (by simp) ?_ (λ_=>rfl) (λ_ _=>rfl))⟩
  .rintro _ w7 rfl H7
   refine ⟨_,_,_,rfl,nG (a:=y) (b:=jJ 7) (λhe=>H7.aJ (tw 7 w7) ?_) (λhe=>gL H7 x _ true (by simp) ?_ (λ_=>rfl) (λ_ _=>rfl))⟩
   .rintro _ w8 rfl H8
    refine ⟨_,_,_,rfl,gL H8 x _ true (by simp) ?_ (λ_=>rfl) (λ_ _=>rfl)⟩
    show _=iM 30 x y z
    rw [fe,hk,decide_eq_true he]
    exact nH z (jJ 7)
   .show _=iM 30 x y z
    rw [fe,decide_eq_false he,Bool.and_false];rfl
  .show _=iM 30 x y z
   rw [fe,beq_eq_false_iff_ne.2 hk];rfl
 .have fe:iM 31 x y z=(x.k==1&&y.k==1):=rfl
  refine H4.aK λw5 H5=>H5.aJ (tw 7 w5) ?_
  rintro _ w6 rfl H6
  refine ⟨_,_,_,rfl,H6.aJ (ju x w6) ?_⟩
  rintro _ w7 rfl H7
  refine ⟨_,rfl,aH (λhk=>H7.aJ (ju y w7) ?_) (λhk=>?_)⟩
  .rintro _ w8 rfl H8
   refine ⟨_,rfl,gL H8 (jJ 7) _ true (by simp) ?_ (λ_=>rfl) (λ_ _=>rfl)⟩
   show _=iM 31 x y z
   rw [fe,hk];rfl
  .refine gL H7 (jJ 7) _ true (by simp) ?_ (λ_=>rfl) (λ_ _=>rfl)
   show _=iM 31 x y z
   rw [fe,beq_eq_false_iff_ne.2 hk];rfl
 .have e1:IntKind.wrap .i64 (x.n+z.n)=x.n+z.n:=IntWalk.i64_in _ (by omega)
  have fe:iM 32 x y z=(x.k==1&&y.k==1&&z.k==1):=rfl
  refine H4.aK λw5 H5=>?_
  rw [e1]
  refine H5.aJ (Bw _ w5) ?_
  rintro _ w6 rfl H6
  refine ⟨_,_,_,rfl,H6.aJ (ju x w6) ?_⟩
  rintro _ w7 rfl H7
  have no:∀{w8:World} {L:List En} {bs Fq:List Nat},LH F0 w w8 L [.ya p ⟨⟨32,kids,n,m,u,tx,st⟩,Pg⟩]->(∀b∈bs,En.g b∈L)->iM 32 x y z=false->fV Fq Tryz.prog aV #[kj (mZ (x.n+z.n)),.bool false,.bool (decide (x.n+z.n<=64))] w8 λr w5=>∃a b c e:Int,r=.returned (.tuple #[.agg #[.i a,.i b,.i c],.i e])/\loc bs w5 λw6=>tt (qO ⟨32,kids,n,m,u,tx,st⟩ x y z) (rS ⟨32,kids,n,m,u,tx,st⟩ x y z) (.returned (.tuple #[.agg #[.i a,.i b,.i c],.i e]))/\bI w w6:=λH8 hb hf=>gL H8 _ _ _ (by simp) hf.symm (λh=>by cases h) (λh _=>by cases h) hb
  refine ⟨_,rfl,aH (λhk=>H7.aJ (ju y w7) ?_) (λhk=>no H7 (by simp) ?_)⟩
  .rintro _ w8 rfl H8
   refine ⟨_,rfl,aH (λsE=>H8.aJ (ju z w8) ?_) (λsE=>no H8 (by simp) ?_)⟩
   .rintro _ w9 rfl H9
    refine ⟨_,rfl,gL H9 (mZ (x.n+z.n)) _ _ (by simp) ?_ (λ_=>rfl) (λ_ _=>rfl)⟩
    show _=iM 32 x y z
    rw [fe,hk,sE];rfl
   .rw [fe,beq_eq_false_iff_ne.2 sE,Bool.and_false];rfl
  .rw [fe,beq_eq_false_iff_ne.2 hk];rfl
 .have fe:iM 33 x y z=(x.k==1):=rfl
  have fr:uo ⟨33,kids,n,m,u,tx,st⟩ x y z=true:=rfl
  refine H4.aJ (ju x w4) ?_
  rintro _ w5 rfl H5
  refine ⟨_,rfl,eQ (λhk=>H5.aK λw6 H6=>⟨⟨x,9,rfl,?_,λh=>?_⟩,H6.fr⟩) (λhk=>⟨tx,(C H5).c5,H5.aJ (hN rfl w5) ?_⟩)⟩
  .unfold rS
   rw [show iM (33:Int) x y z=false from hk];rfl
  .unfold rS at h
   rw [show iM (33:Int) x y z=false from hk] at h
   cases h
  .rintro _ w6 rfl H6
   have he:rS ⟨33,kids,n,m,u,tx,st⟩ x y z=if Ah tx=false then 2 else 0:=by
    unfold rS
    rw [show iM (33:Int) x y z=true from hk,fr]
    simp
   refine ⟨_,rfl,eQ (λhc=>H6.aK λw7 H7=>⟨⟨x,2,rfl,?_,λh=>?_⟩,H7.fr⟩) (λhc=>H6.aJ (tw 1 w6) ?_)⟩
   .rw [he,if_pos hc]
   .rw [he,if_pos hc] at h
    cases h
   .rintro _ w7 rfl H7
    exact ⟨_,_,_,rfl,H7.aK λw8 H8=>⟨⟨jJ 1,0,rfl,by rw [he,if_neg (by rw [hc];simp)],λ_=>rfl⟩,H8.fr⟩⟩
 .refine H4.aK λw5 H5=>H5.aJ (Bw 1 w5) ?_
  rintro _ w6 rfl H6
  refine ⟨_,_,_,rfl,H6.aJ (tw 8 w6) ?_⟩
  rintro _ w7 rfl H7
  exact ⟨_,_,_,rfl,gL H7 (mZ 1) _ true (by simp) (nH x (jJ 8)) (λ_=>rfl) (λ_ _=>rfl)⟩
theorem LV (u n:Int) (h0:0<=u) (h1:0<=n) (h2:n<64):((Int.fdiv u (2^(min (Int.toNat n) (IntKind.bits .u64)))) !=0)=decide (2^n.toNat<=u):=by
 have e:min (Int.toNat n) (IntKind.bits .u64)=n.toNat:=by show min n.toNat 64=_;omega
 rw [e]
 have hp:(0:Int)<2^n.toNat:=Int.pow_pos (by decide)
 generalize (2:Int)^n.toNat=q at hp
 have hd:=Int.fdiv_eq_ediv_of_nonneg u (by omega:0<=q)
 rw [hd]
 by_cases hq:q<=u
 .rw [decide_eq_true hq]
  have:1<=u / q:=by rw [Int.le_ediv_iff_mul_le hp];omega
  simp only [bne_iff_ne,ne_eq]
  omega
 .rw [decide_eq_false hq]
  rw [Int.ediv_eq_zero_of_lt h0 (by omega)]
  rfl
theorem Uw {w:World} {p:Addr} {d:Nd} (g:List Nx) (h:jL w p d) (h1:1<=d.x.op) (h3:d.x.op<=3) (hu:0<=d.x.u):
  Calls Tryz.prog nC #[.pointer (some p)] w λr w'=>tt (cX g d.x).1 (cX g d.x).2 r/\bI w w':=by
 refine term_sortOfLeaf.cV _ w _ ((XV h).bJ λb2 w1 H1=>?_)
 have C:∀{w5:World} {L:List En},LH F0 w w5 L [.ya p d]->jL w5 p d:=λH=>H.getD 0
 have er:∀(t:ik) (e:Int) (w5:World),e≠0->(cX g d.x)=(oy,e)->LH F0 w w5 [.g b2] [.ya p d]->loc [b2] w5 λw6=>tt (cX g d.x).1 (cX g d.x).2 (.returned (.tuple #[.agg #[.i t.k,.i t.n,.i t.x],.i e]))/\bI w w6:=λt e w5 h0 he H5=>H5.aK λw6 H6=>⟨⟨t,e,rfl,by rw [he],λh=>by rw [he] at h;exact absurd h h0⟩,H6.fr⟩
 have ok:∀(t:ik) (w5:World),(cX g d.x)=(t,0)->LH F0 w w5 [.g b2] [.ya p d]->loc [b2] w5 λw6=>tt (cX g d.x).1 (cX g d.x).2 (.returned (.tuple #[.agg #[.i t.k,.i t.n,.i t.x],.i 0]))/\bI w w6:=λt w5 he H5=>H5.aK λw6 H6=>⟨⟨t,0,rfl,by rw [he],λ_=>by rw [he]⟩,H6.fr⟩
 refine ⟨_,(C H1).c0,aH (λh2=>?_) (λh2=>?_)⟩
 .refine ⟨_,(C H1).c5,aM (λhs=>⟨_,_,_,(C H1).s0,(C H1).s1,(C H1).s2,er d.x.st 5 w1 (by decide) ?_ H1⟩) (λhs=>⟨_,(C H1).c5,H1.aJ (Bw _ w1) ?_⟩)⟩
  .unfold cX;rw [if_pos h2,if_pos (by omega)]
  .rintro _ w2 rfl H2
   refine ⟨_,_,_,rfl,ok (mZ d.x.tx.size) w2 ?_ H2⟩
   unfold cX;rw [if_pos h2,if_neg (by omega)]
 have l1:cX g d.x=if bO d.x.st=false then (oy,9) else
   if d.x.op=1/\d.x.st.k≠0\/d.x.op=3/\kZ d.x.st=false then (oy,9) else
   if d.x.op=1/\Ol d.x.u d.x.st.n=true then (oy,5) else (d.x.st,0):=by
  unfold cX;rw [if_neg h2,if_neg (λh=>by omega)]
  have:¬(d.x.op=0/\rN g d.x=true):=λh=>by omega
  simp only [this,if_false]
 refine ⟨_,_,_,(C H1).s0,(C H1).s1,(C H1).s2,H1.aJ (xE d.x.st w1) ?_⟩
 rintro _ w2 rfl H2
 refine ⟨_,rfl,zu (λhv=>⟨_,_,_,(C H2).s0,(C H2).s1,(C H2).s2,?_⟩) (λhv=>?_)⟩
 .have:lS d.x.st=9:=by unfold lS;rw [hv];rfl
  rw [this]
  exact er d.x.st 9 w2 (by decide) (by rw [l1,if_pos hv]) H2
 rw [if_neg (by rw [hv];simp)] at l1
 refine ⟨_,(C H2).c0,aH (λh3=>⟨_,_,_,(C H2).s0,(C H2).s1,(C H2).s2,H2.aJ (wQ d.x.st w2) ?_⟩) (λJz=>?_)⟩
 .rintro _ w3 rfl H3
  refine ⟨_,rfl,eQ (λha=>⟨_,_,_,(C H3).s0,(C H3).s1,(C H3).s2,er d.x.st 9 w3 (by decide) ?_ H3⟩) (λha=>⟨_,_,_,(C H3).s0,(C H3).s1,(C H3).s2,ok d.x.st w3 ?_ H3⟩)⟩
  .rw [l1,if_pos (.inr ⟨h3,ha⟩)]
  .rw [l1,if_neg (by rintro (h|h);omega;rw [ha] at h;cases h.2),if_neg (by rintro ⟨h,_⟩;omega)]
 have h1:d.x.op=1:=by omega
 refine ⟨_,(C H2).s0,eB (λhk=>⟨_,_,_,(C H2).s0,(C H2).s1,(C H2).s2,er d.x.st 9 w2 (by decide) ?_ H2⟩) (λhk=>H2.aK λw3 H3=>?_)⟩
 .rw [l1,if_pos (.inl ⟨h1,hk⟩)]
 rw [if_neg (by rintro (h|h);exact h.2 hk;omega)] at l1
 obtain ⟨v1,v2,_⟩:=qT hv hk
 have S0:cX g d.x=(d.x.st,0)->term_sortOfLeaf.dV p b2 0 0 0 w3 λr w'=>tt (cX g d.x).1 (cX g d.x).2 r/\bI w w':=λhe=>⟨_,_,_,(C H3).s0,(C H3).s1,(C H3).s2,ok d.x.st w3 he H3⟩
 refine ⟨_,(C H3).s1,aM (λFt=>⟨_,(C H3).c4,_,(C H3).s1,by omega,?_⟩) (λFt=>S0 ?_)⟩
 .rw [LV _ _ hu (by omega) Ft]
  refine aM (λhb=>⟨_,_,_,(C H3).s0,(C H3).s1,(C H3).s2,er d.x.st 5 w3 (by decide) ?_ H3⟩) (λhb=>S0 ?_)
  .rw [l1,if_pos ⟨h1,by unfold Ol;rw [decide_eq_true Ft,decide_eq_true hb];rfl⟩]
  .rw [l1,if_neg]
   rintro ⟨_,hh⟩
   unfold Ol at hh
   rw [decide_eq_false hb,Bool.and_false] at hh
   cases hh
 .rw [l1,if_neg]
  rintro ⟨_,hh⟩
  unfold Ol at hh
  rw [decide_eq_false Ft] at hh
  cases hh
def sJ (g:List Nx) (t:ByteArray):Ending:=match nW g t with
 |some s=>.returned (.tuple #[kj s,.bool true])
 |none=>.returned (.tuple #[kj oy,.bool false])
theorem Xl {w:World} {p:Addr} {d:Nd} {D:List En} (g:List Nx) (lk:Fv) (H:LH F0 w w [] (.ya p d::D)) (hc:fC Tryz.prog lk.n=true) (hl:∀w':World,(∀e∈D,e.P w')->Calls Tryz.prog lk.n (lk.bs++#[.string d.x.tx]++lk.cs) w' λr tq=>r=sJ g d.x.tx/\bI w' tq) (h0:d.x.op=0):
  Calls Tryz.prog nU #[.pointer (some p),lk.v] w λr w'=>tt (cX g d.x).1 (cX g d.x).2 r/\bI w w':=by
 have C:∀{w5:World} {L:List En},LH F0 w w5 L (.ya p d::D)->jL w5 p d:=λH=>H.getD 0
 have l1:cX g d.x=if qc (bl d.x.tx)=false then (oy,6) else if bO d.x.st=false then (oy,9) else if rN g d.x=true then (oy,8) else (d.x.st,0):=by
  unfold cX
  rw [if_neg (by omega)]
  simp [h0]
 have fin:∀(e:Int) (w5:World) (L:List En) (i:Nat) (b:Nat) (c0 c1 c2:Value),LH F0 w w5 L (.ya p d::D)->L[i]? =some (.c b [c0,c1,c2] aR)->cX g d.x=(if e=0 then d.x.st else oy,e)->Hc w5 (bF b) (.i d.x.st.k) (.i d.x.st.n) (.i d.x.st.x) λw6=>dK w6 (bF b) λa0 a1 a2=>tt (cX g d.x).1 (cX g d.x).2 (.returned (.tuple #[.agg #[.i a0,.i a1,.i a2],.i e]))/\bI w w6:=by
  intro e w5 L i b c0 c1 c2 H5 hi he
  refine H5.lO i hi λw6 H6=>?_
  have Zt:(L.set i (.c b [Value.i d.x.st.k,.i d.x.st.n,.i d.x.st.x] aR))[i]? =some (.c b [Value.i d.x.st.k,.i d.x.st.n,.i d.x.st.x] aR):=by
   rw [List.getElem?_set_self (oN.1 hi).1]
  refine ⟨_,_,_,H6.ld i 0 Zt,H6.ld i 1 Zt,H6.ld i 2 Zt,⟨d.x.st,e,rfl,by rw [he],λh=>?_⟩,H6.fr⟩
  rw [he] at h ⊢
  rw [if_pos h]
 refine term_sortOfVar.ok p lk w _ (H.nw λw1 _ H1=>⟨_,(C H1).c5,H1.call (NC d.x.tx w1) ?_⟩)
 rintro _ w2 rfl H2
 refine ⟨_,rfl,eQ (λhn=>⟨_,_,_,(C H2).s0,(C H2).s1,(C H2).s2,fin 6 w2 _ 0 _ _ _ _ H2 rfl (by rw [l1,if_pos hn];rfl)⟩) (λhn=>⟨_,_,_,(C H2).s0,(C H2).s1,(C H2).s2,H2.call (xE d.x.st w2) ?_⟩)⟩
 rw [if_neg (by rw [hn];simp)] at l1
 rintro _ w3 rfl H3
 refine ⟨_,rfl,zu (λhv=>⟨_,_,_,(C H3).s0,(C H3).s1,(C H3).s2,?_⟩) (λhv=>⟨_,(C H3).c5,?_⟩)⟩
 .have:lS d.x.st=9:=by unfold lS;rw [hv];rfl
  rw [this]
  exact fin 9 w3 _ 0 _ _ _ _ H3 rfl (by rw [l1,if_pos hv];rfl)
 rw [if_neg (by rw [hv];simp)] at l1
 rw [hc]
 refine (show hG true _ from ?_)
 refine H3.call (hl w3 (λe he=>H3.rd e (qmCM _ he))) ?_
 rintro _ w4 rfl H4
 have S0:∀(w5:World) (L:List En) (c0 c1 c2:Value),LH F0 w w5 L (.ya p d::D)->L[0]? =some (.c w.heap.size [c0,c1,c2] aR)->rN g d.x=false->term_sortOfVar.S0 p (bF w.heap.size) w5 λr w'=>tt (cX g d.x).1 (cX g d.x).2 r/\bI w w':=λw5 L c0 c1 c2 H5 hi ht=>⟨_,_,_,(C H5).s0,(C H5).s1,(C H5).s2,fin 0 w5 L 0 _ c0 c1 c2 H5 hi (by rw [l1,if_neg (by rw [ht];simp)];rfl)⟩
 unfold rN at l1 S0
 unfold sJ
 cases hs:nW g d.x.tx with
 |none=>
  rw [hs] at l1 S0
  refine ⟨oy.k,oy.n,oy.x,false,rfl,H4.nw λw5 _ H5=>H5.lO 1 rfl λw8 H8=>H8.dr λw9 H9=>aL rfl ?_⟩
  exact S0 w9 _ _ _ _ H9 rfl rfl
 |some t=>
  rw [hs] at l1 S0
  refine ⟨t.k,t.n,t.x,true,rfl,H4.nw λw5 _ H5=>H5.lO 1 rfl λw8 H8=>H8.dr λw9 H9=>aQ rfl ⟨_,_,_,H9.ld 1 0,H9.ld 1 1,H9.ld 1 2,_,_,_,(C H9).s0,(C H9).s1,(C H9).s2,vG (a:=t) (b:=d.x.st) (λhM=>⟨_,_,_,(C H9).s0,(C H9).s1,(C H9).s2,fin 8 w9 _ 0 _ _ _ _ H9 rfl ?_⟩) (λheq=>S0 w9 _ _ _ _ H9 rfl ?_)⟩⟩
  .rw [l1,if_pos (by simp [hM])];rfl
  .simp [heq]
def Ww:List Int:=[0,0,0,0,1,1,2,2,2,2,2,2,2,2,2,2,2,2,2,3,2,1,1,1,2,3,2,1,1,2,3,2,3,1,1]
abbrev vV:En:=.rd ⟨some (bF 0),35,35⟩ (Ww.map jm)
theorem Wx {op:Int} (h0:0<=op) (h1:op<=34):Ww[op.toNat]? =some (eK op):=by
 rcases wE h0 h1 with rfl|rfl|rfl|rfl|rfl|rfl|rfl|rfl|rfl|rfl|rfl|rfl|rfl|rfl|rfl|rfl|rfl|rfl|rfl|rfl|rfl|rfl|rfl|rfl|rfl|rfl|rfl|rfl|rfl|rfl|rfl|rfl|rfl|rfl|rfl<;>rfl
section
variable {M:Nat->Prop} {w0 w:World} {L D:List En} {bs:List Nat}
theorem _root_.Go.W.LH.Qh (H:LH M w0 w L D) (i a c:Nat) {b:Nat} {vs:List Value} {T:TypeId} {v:Value} {K:World->Prop} (hi:L[i]? =some (.c b vs T)) (hK:∀w',LH M w0 w' (L.set i (.c b (vs.set (a+c) v) T)) D->K w') (hj:a+c<vs.length:=by simp [pf]) (jf:∀b∈bs,En.g b∈L:=by simp):
  bX w (((bF b).add a).add c) v λw1=>kept bs w w1/\K w1:=by
 rw [add_add]
 obtain ⟨x1,x2,x3,x4⟩:=IK (H.ob i hi) (a+c) (by simpa using hj) v
 obtain ⟨_,_,h3⟩:=H.set (v:=v) i (a+c) hi hj
 refine ⟨x1,x2,λb' eD=>?_,hK _ h3⟩
 refine x4.gV b' (H.own _ (jf b' eD)) λe=>?_
 have:=pw H hi (HC w b vs T) (jf b' eD)
 exact this (by rw [e];exact FT.2 rfl)
theorem _root_.Go.W.LH.Nu (H:LH M w0 w L D) (i a:Nat) {b:Nat} {vs:List Value} {T:TypeId} {v:Value} {K:World->Prop} (hi:L[i]? =some (.c b vs T)) (hK:∀w',LH M w0 w' (L.set i (.c b (vs.set a v) T)) D->K w') (hj:a<vs.length:=by simp [pf]) (jf:∀b∈bs,En.g b∈L:=by simp):
  bX w ((bF b).add a) v λw1=>kept bs w w1/\K w1:=by
 have:=H.Qh (v:=v) (K:=K) i a 0 hi hK hj jf
 rwa [uH] at this
end
theorem Np {g:List Nx} {n:Nx} (h:(eK n.op==(n.kids.length:Int)&&n.kids.all (ic g)&&okF n)=true) (h4:¬n.op<=3):eI g n=if rS n (kn g n 0) (kn g n 1) (kn g n 2)≠0 then (oy,rS n (kn g n 0) (kn g n 1) (kn g n 2)) else (qO n (kn g n 0) (kn g n 1) (kn g n 2),0):=by
 unfold eI rS
 rw [h,if_neg (by simp),if_neg h4]
 generalize iM n.op (kn g n 0) (kn g n 1) (kn g n 2)=a
 generalize uo n (kn g n 0) (kn g n 1) (kn g n 2)=b
 cases a
 .rfl
 .cases b
  .rfl
  .by_cases hc:n.op=33/\Ah n.tx=false
   .simp [hc]
   .simp [hc]
theorem MG {g:List Nx} {n:Nx} (h:(cX g n).2≠0):cX g n=(oy,(cX g n).2):=by
 unfold cX at h ⊢
 split
 .split
  .rfl
  .rename_i h2 Ft
   rw [if_pos h2,if_neg Ft] at h
   exact absurd rfl h
 .rename_i h2
  rw [if_neg h2] at h
  split
  .rfl
  .rename_i h3
   rw [if_neg h3] at h
   split
   .rfl
   .rename_i h4
    rw [if_neg h4] at h
    split
    .rfl
    .rename_i h5
     rw [if_neg h5] at h
     split
     .rfl
     .rename_i h6
      rw [if_neg h6] at h
      split
      .rfl
      .rename_i h7
       rw [if_neg h7] at h
       exact absurd rfl h
structure Hp (d:Nx):Prop where
 kl:d.kids.length<=1000000000
 n:ow d.n
 m:ow d.m
 u:0<=d.u
 tx:d.op=33->FE d.tx
abbrev VG (a b c:ik):List Value:=pf a++pf b++pf c
def NP (g:List Nx) (n:Nx) (i j:Nat):ik:=if j<i then kn g n j else oy
theorem ME {g:List Nx} {n:Nx} {j:Nat} (h:n.kids.length<=j):kn g n j=oy:=by
 unfold kn
 rw [List.getElem?_eq_none h]
theorem Pj {l:List Nd} {n:Nx} {i:Nat} {k:Int} {e:Nd} (hk:n.kids[i]? =some k) (he:l[k.toNat]? =some e):kn (xs l) n i=e.x.st:=by
 unfold kn
 rw [hk]
 dsimp only
 rw [s5 he]
theorem Ph {g:List Nx} {n:Nx} (hv:∀d∈g,bO d.st=true) (j:Nat):QC (kn g n j):=by
 unfold kn
 split
 .split
  .rename_i hd
   exact Kp (hv _ (cZ hd))
  .exact MR
 .exact MR
theorem E5 {w:World} {s:Sl} {l:List Nd} {d:Nd} {D:List En} (lk:Fv) (H:LH F0 w w [] (.gr s l::gv d::vV::D)) (hc:fC Tryz.prog lk.n=true)
  (hl:∀w':World,(∀e∈D,e.P w')->Calls Tryz.prog lk.n (lk.bs++#[.string d.x.tx]++lk.cs) w' λr tq=>r=sJ (xs l) d.x.tx/\bI w' tq) (ho:Hp d.x) (xM:l.length<=1000000000) (hv:∀e∈xs l,bO e.st=true):
  Calls Tryz.prog n9 #[s.v,d.v,lk.v] w λr w'=>r=ky (eI (xs l) d.x)/\bI w w':=by
 have hn:=mX (cH.1 (H.getD 0))
 have nR:(xs l).length=l.length:=by simp [xs]
 have Wa:d.ks.n=d.x.kids.length:=fB.len (H.getD 1)
 have Mr:=ho.kl
 refine term_sortOf.cV s _ _ _ _ _ _ _ _ _ lk w _ (H.nw λw1 _ H1=>H1.bJ λb6 w2 H2=>H2.aK λw3 H3=>?_)
 have N:∀{w5:World} {L:List En},LH F0 w w5 (.c w.heap.size d.c aG::L) (.gr s l::gv d::vV::D)->jL w5 (bF w.heap.size) d:=λH=>zf (H.ob 0)
 have H3:LH F0 w w3 [.c w.heap.size d.c aG,.g b6] (.gr s l::gv d::vV::D):=H3
 have fail:(eK d.x.op==(d.x.kids.length:Int)&&d.x.kids.all (ic (xs l))&&okF d.x)=false->∀{w5:World} {L:List En} {bs:List Nat},LH F0 w w5 L (.gr s l::gv d::vV::D)->(∀b∈bs,En.g b∈L)->loc bs w5 λw6=>(λr w'=>r=ky (eI (xs l) d.x)/\bI w w') (.returned (.tuple #[.agg #[.i 0,.i 0,.i 0],.i 1])) w6:=λhf _ _ _ H5 hb=>H5.aK (λw6 H6=>⟨by unfold eI;rw [if_pos hf];rfl,H6.fr⟩) hb
 have kN:∀op:Int,op<0\/34<op->eK op=-1:=λop h=>by unfold eK;rw [if_pos h]
 refine ⟨_,(N H3).c0,aM (λh0=>fail ?_ H3 (by simp)) (λh0=>⟨_,(N H3).c0,aM (λh35=>fail ?_ H3 (by simp)) (λh35=>⟨_,(N H3).c1,_,(N H3).c0,by omega,by show d.x.op<35;omega,eK d.x.op,?_,eB (λhM=>fail ?_ H3 (by simp)) (λheq=>?_)⟩)⟩)⟩
 .rw [kN _ (.inl h0),beq_eq_false_iff_ne.2 (by omega)];rfl
 .rw [kN _ (.inr (by omega)),beq_eq_false_iff_ne.2 (by omega)];rfl
 .have hk:fB w3 ⟨some (bF 0),35,35⟩ Ww:=H3.getD 2
  exact (show W.aX (some (bF 0)) λp=>w3.cell? (p.add (Int.toNat d.x.op *1))=some (.int .i64 (eK d.x.op)) from hk.cell (Wx (by omega) (by omega)) rfl λp _ hc=>hc)
 .rw [beq_eq_false_iff_ne.2 (by omega)];rfl
 have hkc:(eK d.x.op==(d.x.kids.length:Int))=true:=by rw [beq_iff_eq];omega
 have Gr:d.x.kids.length<=3:=by
  have:eK d.x.op<=3:=by unfold eK;repeat' split<;>omega
  omega
 refine H3.nw λw4 _ H4=>⟨_,(N H4).c1,?_⟩
 have loop:∀(m i:Nat) (w5:World),i+m=d.x.kids.length->d.x.kids.all (ic (xs l))=(d.x.kids.drop i).all (ic (xs l))->LH F0 w w5 [.c w.heap.size d.c aG,.g b6,.c w3.heap.size (VG (NP (xs l) d.x i 0) (NP (xs l) d.x i 1) (NP (xs l) d.x i 2)) mn] (.gr s l::gv d::vV::D)->
   term_sortOf.l4 s lk (bF w.heap.size) b6 0 0 0 (bF w3.heap.size) ((d.ks.n:Nat):Int) (i:Int) w5 λr w'=>r=ky (eI (xs l) d.x)/\bI w w':=by
  intro m
  induction m with
  |zero=>
   intro i w5 hi hall H5
   rw [qdO (by omega)] at hall
   have e0:∀j,NP (xs l) d.x i j=kn (xs l) d.x j:=λj=>by
    unfold NP
    split
    .rfl
    .exact (ME (by omega)).symm
   rw [e0,e0,e0] at H5
   refine term_sortOf.dJ _ _ _ _ _ _ _ _ _ _ _ _ (aL (decide_eq_false (by omega)) (H5.aJ (E4 (N H5)) ?_))
   rintro _ w6 rfl H6
   refine ⟨_,rfl,eQ (λhf=>fail (by rw [hf,Bool.and_false]) H6 (by simp)) (λhf=>H6.bJ λKx w7 H7=>?_)⟩
   have Rg:(eK d.x.op==(d.x.kids.length:Int)&&d.x.kids.all (ic (xs l))&&okF d.x)=true:=by rw [hkc,hall,hf];rfl
   have H7:LH F0 w w7 [.c w.heap.size d.c aG,.g b6,.c w3.heap.size (VG (kn (xs l) d.x 0) (kn (xs l) d.x 1) (kn (xs l) d.x 2)) mn,.g Kx] (.gr s l::gv d::vV::D):=H7
   have fin:∀(T:ik) (E:Int) (t:ik) (e:Int) (w8:World),eI (xs l) d.x=(if E≠0 then (oy,E) else (T,0))->e=E->(E=0->t=T)->LH F0 w w8 [.c w.heap.size d.c aG,.g b6,.c w3.heap.size (VG (kn (xs l) d.x 0) (kn (xs l) d.x 1) (kn (xs l) d.x 2)) mn,.g Kx] (.gr s l::gv d::vV::D)->
     loc [b6,Kx] w8 λw9=>term_sortOf.gO b6 0 0 0 Kx t.k t.n t.x e w9 λr w'=>r=ky (eI (xs l) d.x)/\bI w w':=by
    intro T E t e w8 hs he ht H8
    subst he
    refine H8.aK λw9 H9=>eB (λhM=>H9.aK λpR m8=>⟨by rw [hs,if_pos hM];rfl,m8.fr⟩) (λh0=>H9.aK λpR m8=>⟨?_,m8.fr⟩)
    rw [hs,if_neg (by omega),ht h0]
   have RD:d.x.op<=3->eI (xs l) d.x=(if (cX (xs l) d.x).2≠0 then (oy,(cX (xs l) d.x).2) else ((cX (xs l) d.x).1,0)):=λh3=>by
    unfold eI
    rw [Rg,if_neg (by simp),if_pos h3]
    split
    .rename_i hM;exact MG hM
    .rename_i heq
     rw [Decidable.not_not] at heq
     rw [<-heq]
   have Eg:=λj=>Ph (n:=d.x) hv j
   refine ⟨_,(N H7).c0,aH (λho0=>?_) (λho0=>⟨_,(N H7).c0,aM (λXM=>?_) (λXM=>⟨_,(N H7).c0,aM (λWf=>?_) (λWf=>⟨_,(N H7).c0,aM (λWg=>?_) (λWg=>?_)⟩)⟩)⟩)⟩
   .have Hv:LH F0 w7 w7 [] (.ya (bF w.heap.size) d::D):=mu _ (by
     intro e he
     rcases cU.1 he with rfl|he
     .exact N H7
     .exact H7.rd e (qmCM _ (qmCM _ (qmCM _ he))))
    refine H7.aJ (Xl (xs l) lk Hv hc hl ho0) ?_
    rintro _ w8 ⟨t,e,rfl,he,ht⟩ H8
    exact ⟨_,_,_,_,rfl,fin _ _ t e w8 (RD (by omega)) he ht H8⟩
   .refine H7.aJ (Uw (xs l) (N H7) (by omega) XM ho.u) ?_
    rintro _ w8 ⟨t,e,rfl,he,ht⟩ H8
    exact ⟨_,_,_,_,rfl,fin _ _ t e w8 (RD XM) he ht H8⟩
   all_goals
    have rest:=Np Rg (by omega)
    have ld:∀(a c:Nat) (v:Value),(VG (kn (xs l) d.x 0) (kn (xs l) d.x 1) (kn (xs l) d.x 2))[a+c]? =some v->w7.cell? (((bF w3.heap.size).add a).add c)=some v:=λa c v hv=>by rw [add_add];exact H7.ld 2 (a+c) rfl hv
    refine ⟨by omega,by decide,(kn (xs l) d.x 0).k,(kn (xs l) d.x 0).n,(kn (xs l) d.x 0).x,ld 0 0 _ rfl,ld 0 1 _ rfl,ld 0 2 _ rfl,by omega,by decide,(kn (xs l) d.x 1).k,(kn (xs l) d.x 1).n,(kn (xs l) d.x 1).x,ld 3 0 _ rfl,ld 3 1 _ rfl,ld 3 2 _ rfl,by omega,by decide,(kn (xs l) d.x 2).k,(kn (xs l) d.x 2).n,(kn (xs l) d.x 2).x,ld 6 0 _ rfl,ld 6 1 _ rfl,ld 6 2 _ rfl,?_⟩
   .refine H7.aJ (Uv (N H7) (by omega) Wf (Eg 0) (Eg 1) ho.n ho.m) ?_
    rintro _ w8 ⟨t,e,rfl,he,ht⟩ H8
    exact ⟨_,_,_,_,rfl,fin _ _ t e w8 rest he ht H8⟩
   .refine H7.aJ (NA (N H7) (by omega) Wg) ?_
    rintro _ w8 ⟨t,e,rfl,he,ht⟩ H8
    exact ⟨_,_,_,_,rfl,fin _ _ t e w8 rest he ht H8⟩
   .refine H7.aJ (Kj (N H7) (by omega) (by omega) (Eg 0) (Eg 1) (Eg 2) ho.tx) ?_
    rintro _ w8 ⟨t,e,rfl,he,ht⟩ H8
    exact ⟨_,_,_,_,rfl,fin _ _ t e w8 rest he ht H8⟩
  |succ m ih=>
   intro i w5 hi hall H5
   have hg:d.x.kids[i]? =some (d.x.kids[i]'(by omega)):=gW (by omega)
   rw [qdG (by omega:i<d.x.kids.length),List.all_cons] at hall
   generalize d.x.kids[i]'(by omega)=x at hg hall
   have bad:ic (xs l) x=false->term_sortOf.eY b6 0 0 0 w5 λr w'=>r=ky (eI (xs l) d.x)/\bI w w':=λhx=>fail (by rw [hall,hx];simp) H5 (by simp)
   refine term_sortOf.dJ _ _ _ _ _ _ _ _ _ _ _ _ (aQ (decide_eq_true (by omega)) ⟨_,(N H5).c1,by omega,by omega,(show fB w5 d.ks d.x.kids from H5.getD 1).cell hg (by omega) λp hp JC=>⟨x,JC,aM (λh1=>bad ?_) (λh1=>aM (λh2=>bad ?_) (λh2=>?_))⟩⟩)
   .unfold ic;rw [decide_eq_false (by omega)];rfl
   .unfold ic;rw [decide_eq_false (show ¬x<((xs l).length:Int) by rw [nR];omega)];simp
   have Ao:l[x.toNat]? =some (l[x.toNat]'(by omega)):=gW (by omega)
   generalize l[x.toNat]'(by omega)=e at Ao
   have sF:=Pj hg Ao
   refine kO (cH.1 (H5.getD 0)) (i:=x.toNat) (by omega) Ao λq hq c=>⟨_,_,_,c.s0,c.s1,c.s2,by omega,by show (i:Int)<3;omega,?_⟩
   have VY:d.x.kids.all (ic (xs l))=(d.x.kids.drop (i+1)).all (ic (xs l)):=by
    rw [hall]
    unfold ic
    rw [decide_eq_true (show 0<=x by omega),decide_eq_true (show x<((xs l).length:Int) by rw [nR];omega)]
    rfl
   have IS:∀w6,LH F0 w w6 [.c w.heap.size d.c aG,.g b6,.c w3.heap.size (VG (NP (xs l) d.x (i+1) 0) (NP (xs l) d.x (i+1) 1) (NP (xs l) d.x (i+1) 2)) mn] (.gr s l::gv d::vV::D)->term_sortOf.l4 s lk (bF w.heap.size) b6 0 0 0 (bF w3.heap.size) ((d.ks.n:Nat):Int) (IntKind.wrap .i64 ((i:Int)+1)) w6 λr w'=>r=ky (eI (xs l) d.x)/\bI w w':=λw6 H6=>by
    rw [aY _ (by omega)]
    exact ih (i+1) w6 (by omega) VY H6
   have hi3:i=0\/i=1\/i=2:=by omega
   have up:∀j,NP (xs l) d.x (i+1) j=if j=i then e.x.st else NP (xs l) d.x i j:=λj=>by
    unfold NP
    by_cases hj:j=i
    .rw [if_pos hj,if_pos (by omega),hj,sF]
    .rw [if_neg hj]
     by_cases V8:j<i
     .rw [if_pos V8,if_pos (by omega)]
     .rw [if_neg V8,if_neg (by omega)]
   rw [up 0,up 1,up 2] at IS
   rcases hi3 with rfl|rfl|rfl
   .exact H5.Nu 2 0 rfl λw6 H6=>H6.Qh 2 0 1 rfl λw7 H7=>H7.Qh 2 0 2 rfl λw8 H8=>IS w8 H8
   .exact H5.Nu 2 3 rfl λw6 H6=>H6.Qh 2 3 1 rfl λw7 H7=>H7.Qh 2 3 2 rfl λw8 H8=>IS w8 H8
   .exact H5.Nu 2 6 rfl λw6 H6=>H6.Qh 2 6 1 rfl λw7 H7=>H7.Qh 2 6 2 rfl λw8 H8=>IS w8 H8
 exact loop d.x.kids.length 0 w4 (by omega) (by simp) H4
theorem ND {w:World} {s:Sl} {l:List Nd} {b:Nat} (t:ByteArray) (h:GP w s l) (hb:w.heap[b]? =some (.cells [s.v].toArray aW (0,0))) (hl:l.length<=1000000000):
  Calls Tryz.prog my #[.string t,.pointer (some (bF b))] w λr w'=>r=sJ (xs l) t/\bI w w':=by
 have hn:=mX h
 have H:LH F0 w w [] [.gr s l,.c b [s.v] aW]:=mu _ (by
  intro e he
  simp only [cU,qnM,or_false] at he
  rcases he with rfl|rfl
  .exact cH.2 h
  .exact hb)
 have loop:∀(m i:Nat) (b3:Nat) (w1:World),i+m=l.length->nW (xs l) t=nW ((xs l).drop i) t->LH F0 w w1 [.g b3] [.gr s l,.c b [s.v] aW]->term_SortOf_1.eH t (bF b) b3 0 0 0 ((s.n:Nat):Int) (i:Int) w1 λr w'=>r=sJ (xs l) t/\bI w w':=by
  intro m
  induction m with
  |zero=>
   intro i b3 w1 hi he H1
   rw [qdO (by simp [xs];omega)] at he
   exact term_SortOf_1.bA _ _ _ _ _ _ _ _ _ _ (aL (decide_eq_false (by omega)) (H1.aK λw2 H2=>⟨by unfold sJ;rw [he];rfl,H2.fr⟩))
  |succ m ih=>
   intro i b3 w1 hi he H1
   have hg:l[i]? =some (l[i]'(by omega)):=gW (by omega)
   have hx:(xs l).drop i=(l[i]'(by omega)).x::(xs l).drop (i+1):=by
    rw [qdG (by simp [xs];omega:i<(xs l).length)]
    simp [xs]
   rw [hx] at he
   generalize l[i]'(by omega)=e at hg he
   have jc:nW (xs l) t=if e.x.op=0/\e.x.tx=t then some e.x.st else nW ((xs l).drop (i+1)) t:=he
   have S1:¬(e.x.op=0/\e.x.tx=t)->term_SortOf_1.fY t (bF b) b3 0 0 0 ((s.n:Nat):Int) (i:Int) w1 λr w'=>r=sJ (xs l) t/\bI w w':=λhM=>by
    show term_SortOf_1.eH t (bF b) b3 0 0 0 ((s.n:Nat):Int) (IntKind.wrap .i64 ((i:Int)+1)) w1 _
    rw [aY _ (by omega)]
    exact ih (i+1) b3 w1 (by omega) (by rw [jc,if_neg hM]) H1
   refine term_SortOf_1.bA _ _ _ _ _ _ _ _ _ _ (aQ (decide_eq_true (by omega)) ⟨s,H1.tG 1 0,kO (cH.1 (H1.getD 0)) rfl hg λp hp c=>⟨_,c.c0,aH (λh0=>⟨s,H1.tG 1 0,kO (cH.1 (H1.getD 0)) rfl hg λp2 ZH c2=>⟨_,c2.c5,G6 (λht=>⟨s,H1.tG 1 0,kO (cH.1 (H1.getD 0)) rfl hg λp3 hp3 c3=>⟨_,_,_,c3.s0,c3.s1,c3.s2,H1.aK λw2 H2=>⟨?_,H2.fr⟩⟩⟩) (λht=>S1 λh=>ht h.2)⟩⟩) (λh0=>S1 λh=>h0 h.1)⟩⟩)
   unfold sJ
   rw [jc,if_pos ⟨h0,ht⟩]
 exact term_SortOf_1.cV t _ w _ (H.bJ λb3 w1 H1=>⟨s,H1.tG 1 0,loop l.length 0 b3 w1 (by omega) (by simp) H1⟩)
theorem zL {w:World} {s:Sl} {l:List Nd} {d:Nd} (h:GP w s l) (hd:d.P w) (hk:vV.P w) (ho:Hp d.x) (xM:l.length<=1000000000) (hv:∀e∈xs l,bO e.st=true):
  Calls Tryz.prog mj #[.agg #[s.v],d.v] w λr w'=>r=ky (eI (xs l) d.x)/\bI w w':=by
 have H:LH F0 w w [] [.gr s l,gv d,vV]:=mu _ (by
  intro e he
  simp only [cU,qnM,or_false] at he
  rcases he with rfl|rfl|rfl
  .exact cH.2 h
  .exact hd
  .exact hk)
 refine term_SortOf.cV _ _ _ _ _ _ _ _ _ _ w _ (H.nw λw1 _ H1=>H1.bJ λb3 w2 H2=>H2.bJ λb4 w3 H3=>⟨s,H3.ld 0 0,?_⟩)
 have Hs:LH F0 w3 w3 [] [.gr s l,gv d,vV,.gr s l,.c w.heap.size [s.v] aW]:=mu _ (by
  intro e he
  simp only [cU,qnM,or_false] at he
  rcases he with rfl|rfl|rfl|rfl|rfl
  .exact H3.getD 0
  .exact H3.getD 1
  .exact H3.getD 2
  .exact H3.getD 0
  .exact H3.get 0)
 refine H3.aJ (E5 (D:=[.gr s l,.c w.heap.size [s.v] aW]) ⟨my,#[],#[.pointer (some (bF w.heap.size))]⟩ Hs (by kernel_rfl) (λw' As=>?_) ho xM hv) ?_
 .exact ND d.x.tx (cH.1 (As (.gr s l) (by simp))) (As (.c w.heap.size [s.v] aW) (by simp)) xM
 .rintro _ w4 rfl H4
  exact ⟨_,_,_,_,rfl,H4.aK λw5 H5=>⟨rfl,H5.fr⟩⟩
theorem Ay {P:Program} {t ty e:TypeId} {z:Value} {sz bytes:Nat} (el:iJ P t e z sz bytes) {w:World} (g Tj YJ:Nat) (cur:Array Value) (T:TypeId) {src:Sl} {cs:List Value}
  (hg:w.heap[g]? =some (.cells cur T (0,0))) (hr:jO sz w src cs) (hn:src.n<=Tj) (rh:cs.length<=cur.size) (h1:∀v∈cs,v.oneCell'=true):
  (Builtin.copy_ #[t,t] ty #[.slice (some ⟨g,0,none⟩) Tj YJ,src.v]).run P w=.ok (.int .i64 (src.n:Int)) (w.setRow g (cs++cur.toList.drop cs.length).toArray):=by
 obtain ⟨sa,sn,sc⟩:=src
 obtain ⟨inf,hi,hz,l8,HX⟩:=info_parts el.hi
 simp only at hn
 obtain ⟨hlen,TD,qK,Ca⟩:=hr
 simp only at hlen qK Ca
 have Zw:Nat.min sn Tj=sn:=Nat.min_eq_left hn
 have Fw:=run_storeCells_at (P:=P) g 0 T cs 0 cur w hg (by simpa using rh) h1
 cases sa with
 |none=>
  obtain ⟨e1,e2⟩:=qK rfl
  subst e1
  have hc:cs=[]:=Va (by omega)
  subst hc
  have Wm:w.setRow g (([]:List Value)++cur.toList.drop 0).toArray=w:=by
   rw [List.nil_append,List.drop_zero,Array.toArray_toList]
   exact setRow_self w g cur T (0,0) hg
  rw [List.length_nil,Wm]
  simp [Builtin.copy_,run_underlying el.ht,Builtin.lenOf,Builtin.firstCells,sizeOf,typeInfo,hi,l8,storeCells,goInt]
 |some a=>
  have hl:=run_loadCells_list (P:=P) w a cs (λj v hj=>by
   obtain ⟨p,hp,hc⟩:=Ca j v hj
   cases hp
   exact hc)
  rw [hlen] at hl
  simp only [Nat.zero_add,List.take_zero,List.nil_append] at Fw
  simp [Builtin.copy_,run_underlying el.ht,Builtin.lenOf,Builtin.firstCells,sizeOf,typeInfo,hi,l8,Zw,hl,Fw,goInt]
theorem LK {P:Program} {t ty e:TypeId} {z:Value} {sz bytes:Nat} (el:iJ P t e z sz bytes) {w:World} {s src:Sl} {vs cs:List Value} (h:aP w e sz s vs) (ha:s.a≠none) (hr:jO sz w src cs) (hn:src.n<=s.n) (h1:∀v∈cs,v.oneCell'=true):
  ∃w',(Builtin.copy_ #[t,t] ty #[s.v,src.v]).run P w=.ok (.int .i64 (src.n:Int)) w'/\aP w' e sz s (cs++vs.drop cs.length)/\Fr (·∈bC s) w w':=by
 have hl:=h.len
 have HY:=hr.1
 rcases h.cases with ⟨rfl,rfl⟩|⟨g,cur,xi,hg,g1,g2,g3,g4⟩
 .exact absurd rfl ha
 .obtain ⟨sa,sn,sc⟩:=s
  simp only at xi hn hl g1 g2 g3 g4
  subst xi
  have e1:src.n *sz<=sn *sz:=Nat.mul_le_mul_right _ hn
  have e2:sn *sz<=sc *sz:=Nat.mul_le_mul_right _ g1
  have rh:cs.length<=cur.size:=by omega
  refine ⟨_,Ay el g sn sc cur e hg hr hn rh h1,?_,?_⟩
  .refine ⟨?_,.inr ⟨g,sc,(cs++cur.toList.drop cs.length).toArray,rfl,Nat.zero_le _,setRow_heap w g cur _ e _ hg,g1,g2,?_,?_⟩⟩
   .simp only [qlA,qlD]
    omega
   .simp only [List.size_toArray,qlA,qlD,Array.length_toList]
    omega
   .rw [List.take_append,List.take_of_length_le (by omega:cs.length<=sn *sz),List.take_drop,<-g4,List.drop_take]
    congr 2
    rw [show cs.length+(sn *sz - cs.length)=sn *sz by omega,List.drop_take]
  .rw [Bs hg]
   exact (Fr.put w g _).mono λx _ e=>by simp [bC,e]
section
variable {M:Nat->Prop} {w0 w:World} {L D:List En} {bs:List Nat}
theorem _root_.Go.W.LH.cpk (H:LH M w0 w L D) (i:Nat) {P:Program} {t ty e:TypeId} {z:Value} {sz bytes:Nat} (el:iJ P t e z sz bytes) {s src:Sl} {vs cs:List Value} {K:Int->World->Prop} (hi:L[i]? =some (.row e sz s vs)) (ha:s.a≠none) (hr:jO sz w src cs) (hn:src.n<=s.n) (h1:∀v∈cs,v.oneCell'=true)
  (hK:∀w',LH M w0 w' (L.set i (.row e sz s (cs++vs.drop cs.length))) D->K (src.n:Int) w') (jf:∀b∈bs,En.g b∈L:=by simp):
  ∃(k:Int) (w':World),(Builtin.copy_ #[t,t] ty #[s.v,src.v]).run P w=.ok (.i k) w'/\kept bs w w'/\K k w':=by
 obtain ⟨w',r1,r2,r3⟩:=LK (ty:=ty) el (H.get i hi) ha hr hn h1
 exact ⟨_,w',r1,λb hb=>r3.gV b (H.own _ (jf b hb)) λhm=>H.vd hi (jf b hb) hm,hK w' (H.CZ i (.row e sz s (cs++vs.drop cs.length)) hi r3 r2 (λb hb=>.inl hb))⟩
end
theorem Qa {w:World} {s t:Sl} {a b:List Int} (ha:fB w s a) (hb:fB w t b) (hl:a.length<=1000000000000):Calls Tryz.prog iP #[s.v,t.v] w λr w'=>r=.returned (.bool (decide (a=b)))/\bI w w':=by
 have hn:=fB.len ha
 have hm:=fB.len hb
 refine slices_Equal_sl_int_int.ok s t w _ (eB (λhM=>⟨by rw [decide_eq_false];intro e;subst e;omega,Fr.refl _ _⟩) (λheq=>?_))
 have loop:∀(m i:Nat) (w1:World),i+m=a.length->(a=b↔a.drop i=b.drop i)->LH F0 w w1 [] [.rd s (a.map jm),.rd t (b.map jm)]->slices_Equal_sl_int_int.L0 s t ((s.n:Nat):Int) (i:Int) w1 λr w'=>r=.returned (.bool (decide (a=b)))/\bI w w':=by
  intro m
  induction m with
  |zero=>
   intro i w1 hi he H
   rw [qdO (by omega),qdO (by omega)] at he
   exact slices_Equal_sl_int_int.cF _ _ _ _ _ _ (aL (decide_eq_false (by omega)) ⟨by rw [decide_eq_true (he.2 rfl)],H.fr⟩)
  |succ m ih=>
   intro i w1 hi he H
   have ga:a[i]? =some (a[i]'(by omega)):=gW (by omega)
   have gb:b[i]? =some (b[i]'(by omega)):=gW (by omega)
   rw [qdG (by omega:i<a.length),qdG (by omega:i<b.length),List.cons.injEq] at he
   generalize a[i]'(by omega)=x at ga he
   generalize b[i]'(by omega)=y at gb he
   refine slices_Equal_sl_int_int.cF _ _ _ _ _ _ (aQ (decide_eq_true (by omega)) (H.dr λw2 H2=>⟨by omega,by omega,(show fB w2 s a from H2.getD 0).cell ga (by omega) λp hp hc=>⟨x,hc,by omega,by omega,(show fB w2 t b from H2.getD 1).cell gb (by omega) λq hq hd=>⟨y,hd,eB (λhM=>⟨?_,H2.fr⟩) (λTE=>?_)⟩⟩⟩))
   .rw [decide_eq_false]
    intro e
    exact hM (he.1 e).1
   .rw [aY _ (by omega)]
    exact ih (i+1) w2 (by omega) (he.trans ⟨λh=>h.2,λh=>⟨TE,h⟩⟩) H2
 exact loop a.length 0 w (by omega) (by simp) (lh2 (a:=.rd s (a.map jm)) (b:=.rd t (b.map jm)) ha hb)
theorem P9 {w:World} {s:Sl} {l:List Int} (h:fB w s l) (hl:l.length<=1000000000000):Calls Tryz.prog iO #[s.v] w λr w'=>Oc w l r w'/\bI w w':=by
 have hn:=fB.len h
 refine slices_Clone_sl_int_int.ok s w _ (aZ (λha=>⟨⟨⟨none,0,0⟩,rfl,?_,λb hb=>by cases hb⟩,Fr.refl _ _⟩) (λha=>?_))
 .have h0:s.a=none:=by simpa using ha
  have:=(h.2.2.1 h0).1
  obtain rfl:l=[]:=Va (by omega)
  exact aP.nil w bW 1
 .have H:LH F0 w w [] [.rd s (l.map jm)]:=mu _ (by
   intro e he
   simp only [cU,qnM,or_false] at he
   subst he
   exact h)
  refine H.iH (n:=0) (sz:=1) (cs:=[]) rfl (by decide) λw1 H1=>?_
  have hs:fB w1 s l:=H1.getD 0
  refine H1.ap 0 uW (s:=⟨some (bF w.heap.size),0,0⟩) (src:=s) rfl hs.2.2 (by simp;omega) (Ee _) (by show (0+s.n) *8<=_;omega) (λs' w2 H2 _ _=>⟨⟨s',rfl,H2.get 0,λb hb=>(H2.new _ (cZ (i:=0) rfl) b hb).resolve_right id⟩,H2.fr⟩)
theorem Ty {w:World} {s:Sl} {l:List Nd} (h:GP w s l) {i:Nat} {d:Nd} (hi:l[i]? =some d) {K:Addr->Prop} {X:Int} (hX:X=(i:Int)) (hk:∀p,s.a=some p->jL w (p.add (Int.toNat X *9)) d->K p):(0:Int)<=X/\X<((s.n:Nat):Int)/\aX s.a K:=by
 have hn:=mX h
 have hl:=(oN.1 hi).1
 subst hX
 exact ⟨by omega,by omega,oz.elem (f:=Nd.c) (sz:=9) Nd.xd (by omega) h.1.2.2 hi λp hp hc=>hk p hp hc⟩
theorem Hg {w:World} {p q:Addr} {a b:Nd} (ha:jL w p a) (hb:jL w q b) (ka:a.P w) (kb:b.P w) (hl:a.x.kids.length<=1000000000):Calls Tryz.prog oI #[.pointer (some p),.pointer (some q)] w λr w'=>r=.returned (.bool (decide (a.x=b.x)))/\bI w w':=by
 have H:LH F0 w w [] [.ya p a,.ya q b,gv a,gv b]:=mu _ (by
  intro e he
  simp only [cU,qnM,or_false] at he
  rcases he with rfl|rfl|rfl|rfl
  .exact ha
  .exact hb
  .exact ka
  .exact kb)
 have A:∀{w5:World} {L:List En},LH F0 w w5 L [.ya p a,.ya q b,gv a,gv b]->jL w5 p a:=λH=>H.getD 0
 have B:∀{w5:World} {L:List En},LH F0 w w5 L [.ya p a,.ya q b,gv a,gv b]->jL w5 q b:=λH=>H.getD 1
 obtain ⟨⟨op,ks,n,m,u,tx,st⟩,sl⟩:=a
 obtain ⟨⟨T7,U7,n',m',u',UA,dL⟩,xB⟩:=b
 have no:∀{w1:World},bI w w1->(⟨op,ks,n,m,u,tx,st⟩:Nx)≠⟨T7,U7,n',m',u',UA,dL⟩->(Ending.returned (.bool false)=.returned (.bool (decide ((⟨op,ks,n,m,u,tx,st⟩:Nx)=⟨T7,U7,n',m',u',UA,dL⟩)))/\bI w w1):=λf h=>⟨by rw [decide_eq_false h],f⟩
 refine term_sameNode.ok p q w _ (H.dr λw1 H1=>⟨op,(A H1).c0,T7,(B H1).c0,aH (λh1=>?_) (λh1=>no H1.fr (λh=>h1 (congrArg Nx.op h)))⟩)
 refine ⟨n,(A H1).c2,n',(B H1).c2,aH (λh2=>?_) (λh2=>no H1.fr (λh=>h2 (congrArg Nx.n h)))⟩
 refine ⟨m,(A H1).c3,m',(B H1).c3,aH (λh3=>?_) (λh3=>no H1.fr (λh=>h3 (congrArg Nx.m h)))⟩
 refine ⟨u,(A H1).c4,u',(B H1).c4,aH (λh4=>?_) (λh4=>no H1.fr (λh=>h4 (congrArg Nx.u h)))⟩
 refine ⟨st.k,st.n,st.x,(A H1).s0,(A H1).s1,(A H1).s2,dL.k,dL.n,dL.x,(B H1).s0,(B H1).s1,(B H1).s2,nG (a:=st) (b:=dL) (λh5=>?_) (λh5=>no H1.fr (λh=>h5 (congrArg Nx.st h)))⟩
 refine ⟨sl,(A H1).c1,xB,(B H1).c1,H1.call (Qa (H1.getD 2) (H1.getD 3) (by simp only at hl ⊢;omega)) ?_⟩
 rintro _ w2 rfl H2
 refine ⟨_,rfl,(B H2).c3,(A H2).c3,(B H2).c2,(A H2).c2,(B H2).c0,(A H2).c0,aM (λh6=>⟨tx,(A H2).c5,UA,(B H2).c5,?_,H2.fr⟩) (λh6=>no H2.fr (λh=>h6 (congrArg Nx.kids h)))⟩
 rw [I3]
 simp only at h6
 subst h1 h2 h3 h4 h5 h6
 simp
theorem NH {w:World} {s:Sl} {l:List Nd} {p:Addr} {d:Nd} (h:GP w s l) (hp:jL w p d) (hd:d.P w) (hl:l.length<=1000000000) (Cb:∀e∈l,e.x.kids.length<=1000000000):
  Calls Tryz.prog qw #[.agg #[s.v],.pointer (some p)] w λr w'=>r=.returned (.i (PF (mg d.x (xs l) 0)))/\bI w w':=by
 have hn:=mX h
 have H:LH F0 w w [] [.gr s l,.ya p d,gv d]:=mu _ (by
  intro e he
  simp only [cU,qnM,or_false] at he
  rcases he with rfl|rfl|rfl
  .exact cH.2 h
  .exact hp
  .exact hd)
 have loop:∀(m i:Nat) (b2:Nat) (w1:World),i+m=l.length->mg d.x ((xs l).drop i) i=mg d.x (xs l) 0->LH F0 w w1 [.g b2] [.gr s l,.ya p d,gv d]->term_search.eH p b2 s ((s.n:Nat):Int) (i:Int) w1 λr w'=>r=.returned (.i (PF (mg d.x (xs l) 0)))/\bI w w':=by
  intro m
  induction m with
  |zero=>
   intro i b2 w1 hi he H1
   rw [qdO (by simp [xs];omega)] at he
   exact term_search.bA _ _ _ _ _ _ _ (aL (decide_eq_false (by omega)) ⟨by rw [<-he];rfl,H1.fr⟩)
  |succ m ih=>
   intro i b2 w1 hi he H1
   have hg:l[i]? =some (l[i]'(by omega)):=gW (by omega)
   have hx:(xs l).drop i=(l[i]'(by omega)).x::(xs l).drop (i+1):=by
    rw [qdG (by simp [xs];omega:i<(xs l).length)]
    simp [xs]
   rw [hx] at he
   generalize l[i]'(by omega)=a at hg he
   have G1:GP w1 s l:=cH.1 (H1.getD 0)
   refine term_search.bA _ _ _ _ _ _ _ (aQ (decide_eq_true (by omega)) (Ty G1 hg rfl λq hq ha=>H1.aJ (Hg ha (H1.getD 1) (G1.2 a (cZ hg)) (H1.getD 2) (Cb a (cZ hg))) ?_))
   rintro _ w2 rfl H2
   have jc:(if a.x=d.x then some i else mg d.x ((xs l).drop (i+1)) (i+1))=mg d.x (xs l) 0:=he
   refine ⟨_,rfl,aM (λhs=>⟨?_,H2.fr⟩) (λhs=>?_)⟩
   .rw [if_pos hs] at jc
    rw [<-jc];rfl
   .rw [if_neg hs] at jc
    rw [aY _ (by omega)]
    exact ih (i+1) b2 w2 (by omega) jc H2
 exact term_search.cV s p w _ (H.bJ λb2 w1 H1=>loop l.length 0 b2 w1 (by omega) (by simp) H1)
section
variable {M:Nat->Prop} {w0 w:World} {L D:List En} {bs:List Nat}
theorem Qb {A Z:List Value} {k j:Nat} {v:Value} (hA:A.length=k):(A++Z).set (k+j) v=A++Z.set j v:=by
 subst hA
 rw [List.set_append,if_neg (by omega)]
 congr 2
 omega
theorem _root_.Go.W.LH.aaa (H:LH M w0 w L D) (i k:Nat) {s:Sl} {A Z:List Value} {p:Addr} {e:Nd} {K:World->Prop} (hi:L[i]? =some (.row aG 9 s (A++Z))) (hp:s.a=some p) (hA:A.length=k *9) (hZ:Z.length=9)
  (hK:∀w',LH M w0 w' (L.set i (.row aG 9 s (A++e.c))) D->K w') (jf:∀b∈bs,En.g b∈L:=by simp):
  bX w (p.add (k *9)) (.i e.x.op) λw1=>kept bs w w1/\bX w1 ((p.add (k *9)).add 1) e.ks.v λw2=>kept bs w1 w2/\bX w2 ((p.add (k *9)).add 2) (.i e.x.n) λw3=>kept bs w2 w3/\bX w3 ((p.add (k *9)).add 3) (.i e.x.m) λw4=>kept bs w3 w4/\bX w4 ((p.add (k *9)).add 4) (.u e.x.u) λw5=>kept bs w4 w5/\
   bX w5 ((p.add (k *9)).add 5) (.string e.x.tx) λw6=>kept bs w5 w6/\bX w6 ((p.add (k *9)).add 6) (.i e.x.st.k) λw7=>kept bs w6 w7/\bX w7 ((p.add (k *9)).add 7) (.i e.x.st.n) λw8=>kept bs w7 w8/\bX w8 ((p.add (k *9)).add 8) (.i e.x.st.x) λw9=>kept bs w8 w9/\K w9:=by
 have Rk:=(oN.1 hi).1
 have wx:∀{vs:List Value} {b:Nat},En.g b∈L->En.g b∈L.set i (.row aG 9 s vs):=by
  intro vs b hb
  obtain ⟨j,hj⟩:=List.mem_iff_getElem?.1 hb
  by_cases xL:i=j
  .subst xL
   rw [hi] at hj
   have e1:En.row aG 9 s (A++Z)=En.g b:=Option.some.inj hj
   exfalso
   have e2:(En.row aG 9 s (A++Z)).P=(En.g b).P:=by rw [e1]
   have f1:(En.row aG 9 s (A++Z)).fp=(En.g b).fp:=by rw [e1]
   have JB:(En.g b).P ({w with heap:=Array.replicate (b+1) (.map #[] 0)}):=by show b<_;simp
   rw [<-e2] at JB
   have hx:b∈bC s:=by
    show b∈(En.row aG 9 s (A++Z)).fp
    rw [f1];simp [En.g]
   obtain ⟨cs,f,hc⟩:=(aP.row (show aP ({w with heap:=Array.replicate (b+1) (.map #[] 0)}) aG 9 s (A++Z) from JB)).UC b hx
   simp at hc
  .exact cZ (i:=j) (by rw [List.getElem?_set_ne xL];exact hj)
 match Z,hZ with
 |[z0,z1,z2,z3,z4,z5,z6,z7,z8],_=>
  have len:∀{vs:List Value},vs.length=9->∀c,c<9->k *9+c<(A++vs).length:=λh c hc=>by rw [qlA,hA,h];omega
  have IS:∀{w':World} {L':List En} {vs:List Value} (c:Nat) (v:Value) {K':World->Prop},L'=L.set i (.row aG 9 s (A++vs))->vs.length=9->c<9->LH M w0 w' L' D->(∀tq,LH M w0 tq (L.set i (.row aG 9 s (A++vs.set c v))) D->K' tq)->bX w' ((p.add (k *9)).add c) v λw1=>kept bs w' w1/\K' w1:=by
   rintro w' _ vs c v K' rfl hvs hc H' hk
   refine H'.Bv (bs:=bs) i (k *9) c (by rw [List.getElem?_set_self Rk]) hp (len hvs c hc) (λtq UO=>hk tq ?_) (λb hb=>wx (jf b hb))
   rw [List.set_set,Qb hA] at UO
   exact UO
  have e0:L=L.set i (.row aG 9 s (A++[z0,z1,z2,z3,z4,z5,z6,z7,z8])):=by
   apply List.ext_getElem?
   intro j
   rw [List.getElem?_set]
   split
   .rename_i h;subst h;rw [hi]
   .rfl
  have first:=IS (w':=w) (vs:=[z0,z1,z2,z3,z4,z5,z6,z7,z8]) 0 (.i e.x.op) (K':=λw1=>bX w1 ((p.add (k *9)).add 1) e.ks.v λw2=>kept bs w1 w2/\bX w2 ((p.add (k *9)).add 2) (.i e.x.n) λw3=>kept bs w2 w3/\bX w3 ((p.add (k *9)).add 3) (.i e.x.m) λw4=>kept bs w3 w4/\bX w4 ((p.add (k *9)).add 4) (.u e.x.u) λw5=>kept bs w4 w5/\
   bX w5 ((p.add (k *9)).add 5) (.string e.x.tx) λw6=>kept bs w5 w6/\bX w6 ((p.add (k *9)).add 6) (.i e.x.st.k) λw7=>kept bs w6 w7/\bX w7 ((p.add (k *9)).add 7) (.i e.x.st.n) λw8=>kept bs w7 w8/\bX w8 ((p.add (k *9)).add 8) (.i e.x.st.x) λw9=>kept bs w8 w9/\K w9) e0 rfl (by decide) H (λw1 H1=>?_)
  .rw [uH] at first
   exact first
  refine IS (vs:=[.i e.x.op,z1,z2,z3,z4,z5,z6,z7,z8]) 1 e.ks.v rfl rfl (by decide) H1 λw2 H2=>?_
  refine IS (vs:=[.i e.x.op,e.ks.v,z2,z3,z4,z5,z6,z7,z8]) 2 (.i e.x.n) rfl rfl (by decide) H2 λw3 H3=>?_
  refine IS (vs:=[.i e.x.op,e.ks.v,.i e.x.n,z3,z4,z5,z6,z7,z8]) 3 (.i e.x.m) rfl rfl (by decide) H3 λw4 H4=>?_
  refine IS (vs:=[.i e.x.op,e.ks.v,.i e.x.n,.i e.x.m,z4,z5,z6,z7,z8]) 4 (.u e.x.u) rfl rfl (by decide) H4 λw5 H5=>?_
  refine IS (vs:=[.i e.x.op,e.ks.v,.i e.x.n,.i e.x.m,.u e.x.u,z5,z6,z7,z8]) 5 (.string e.x.tx) rfl rfl (by decide) H5 λw6 H6=>?_
  refine IS (vs:=[.i e.x.op,e.ks.v,.i e.x.n,.i e.x.m,.u e.x.u,.string e.x.tx,z6,z7,z8]) 6 (.i e.x.st.k) rfl rfl (by decide) H6 λw7 H7=>?_
  refine IS (vs:=[.i e.x.op,e.ks.v,.i e.x.n,.i e.x.m,.u e.x.u,.string e.x.tx,.i e.x.st.k,z7,z8]) 7 (.i e.x.st.n) rfl rfl (by decide) H7 λw8 H8=>?_
  refine IS (vs:=[.i e.x.op,e.ks.v,.i e.x.n,.i e.x.m,.u e.x.u,.string e.x.tx,.i e.x.st.k,.i e.x.st.n,z8]) 8 (.i e.x.st.x) rfl rfl (by decide) H8 λw9 H9=>?_
  exact hK w9 H9
end
theorem GC (n:Nat):(madeCells (Value.agg #[.int .i64 0,.slice none 0 0,.int .i64 0,.int .i64 0,.int .u64 0,.string (ByteArray.mk #[]),.int .i64 0,.int .i64 0,.int .i64 0]).cells (n *9)).toList.length=n *9:=by
 simp [madeCells]
theorem E3 {w:World} {s:Sl} {l:List Nd} {d:Nd} (h:GP w s l) (hd:d.P w) (hk:vV.P w) (ho:Hp d.x) (xM:l.length<=1000000000) (hv:∀e∈xs l,bO e.st=true) (Cb:∀e∈l,e.x.kids.length<=1000000000):
  Calls Tryz.prog fN #[.agg #[s.v],d.v] w λr w'=>(∃s':Sl,r=.returned (.tuple #[.agg #[s'.v],.i (jM (xs l) d.x).2.1,.i (jM (xs l) d.x).2.2])/\GR w (·∈(En.gr s l).fp) (jM (xs l) d.x).1 s' w')/\bI w w':=by
 have hn:=mX h
 have nR:(xs l).length=l.length:=by simp [xs]
 have H:LH F0 w w [] [.gr s l,gv d,vV]:=mu _ (by
  intro e he
  simp only [cU,qnM,or_false] at he
  rcases he with rfl|rfl|rfl
  .exact cH.2 h
  .exact hd
  .exact hk)
 refine term_Add.cV _ _ _ _ _ _ _ _ _ _ w _ (H.bJ λb2 w1 H1=>H1.nw λw2 _ H2=>H2.bJ λb4 w3 H3=>?_)
 have H3:LH F0 w w3 [.g b2,.c w1.heap.size d.c aG,.g b4] [.gr s l,gv d,vV]:=H3
 refine ⟨d.x.op,d.ks,d.x.n,d.x.m,d.x.u,d.x.tx,d.x.st.k,d.x.st.n,d.x.st.x,H3.ld 1 0,H3.ld 1 1,H3.ld 1 2,H3.ld 1 3,H3.ld 1 4,H3.ld 1 5,H3.ld 1 6,H3.ld 1 7,H3.ld 1 8,?_⟩
 refine H3.aJ (zL (cH.1 (H3.getD 0)) (H3.getD 1) (H3.getD 2) ho xM hv) ?_
 rintro _ w4 rfl H4
 refine ⟨_,_,_,_,rfl,H4.bJ λb7 w5 H5=>eB (λh0=>H5.aK λw6 H6=>⟨⟨⟨none,0,0⟩,?_,?_⟩,H6.fr⟩) (λh0=>H5.aK λw6 H6=>?_)⟩
 .unfold jM;rw [if_pos h0]
 .unfold jM;rw [if_pos h0];exact GR.nil _ _ _
 have ha:jM (xs l) d.x=match mg (ie d.x (eI (xs l) d.x).1) (xs l) 0 with
   |some i=>(xs l,(i:Int),0)
   |none=>if 4096<=(xs l).length then ([],0,4) else (xs l++[ie d.x (eI (xs l) d.x).1],((xs l).length:Int),0):=by
  unfold jM;rw [if_neg (by omega)]
  try rfl
 generalize (eI (xs l) d.x).1=sr at *
 refine H6.Nu 1 6 rfl (λw7 H7=>H7.Qh 1 6 1 rfl (λw8 H8=>H8.Qh 1 6 2 rfl (λw9 H9=>?_) (by simp [Nd.c])) (by simp [Nd.c])) (by simp [Nd.c])
 let e:Nd:=⟨ie d.x sr,d.ks⟩
 have H9:LH F0 w w9 [.g b2,.c w1.heap.size e.c aG,.g b4,.g b7] [.gr s l,gv d,vV]:=H9
 refine H9.aJ (NH (d:=e) (cH.1 (H9.getD 0)) (zf (H9.ob 1)) (H9.getD 1) xM Cb) ?_
 rintro _ pR rfl m8
 refine ⟨_,rfl,?_⟩
 have he:e.x=ie d.x sr:=rfl
 rw [he]
 cases hi:mg (ie d.x sr) (xs l) 0 with
 |some i=>
  rw [hi] at ha
  rw [ha]
  exact aQ (decide_eq_true (Int.natCast_nonneg i)) (m8.aK λrO qB=>⟨⟨s,rfl,⟨l,rfl,cH.1 (qB.getD 0),λb hb=>.inl hb⟩⟩,qB.fr⟩)
 |none=>
  rw [hi] at ha
  dsimp only at ha
  refine aL (by decide) (aM (λh4=>m8.aK λrO qB=>⟨⟨⟨none,0,0⟩,?_,?_⟩,qB.fr⟩) (λh4=>?_))
  .rw [ha,if_pos (by omega)]
  .rw [ha,if_pos (by omega)];exact GR.nil _ _ _
  rw [if_neg (by omega)] at ha
  rw [ha]
  refine ⟨d.ks,m8.ld 1 1,m8.sh (P9 (show fB pR d.ks d.x.kids from m8.getD 1) (by have:=ho.kl;omega)) ?_⟩
  rintro _ rO ⟨ck,rfl,hck,fck⟩ _ F11
  have qB:=F11.rd (.rd ck (d.x.kids.map jm)) (rp hck) (Bm fck)
  refine ⟨_,rfl,qB.Nu 1 1 rfl (λqV qW=>?_) (by simp [Nd.c])⟩
  let e2:Nd:=⟨ie d.x sr,ck⟩
  have qW:LH F0 w qV [.g b2,.c w1.heap.size e2.c aG,.g b4,.g b7] [.gr s l,gv d,vV,gv e2]:=qW
  have e1:IntKind.wrap .i64 (((s.n:Nat):Int)+1)=((l.length+1:Nat):Int):=by rw [IntWalk.i64_in _ (by omega),hn];rfl
  rw [e1]
  obtain ⟨uD,r1,r2,r3⟩:=JV nh qV (l.length+1) (by omega)
  have ux:=qW.WT r3 r2 (by intro b hb;simp [bC] at hb;omega)
  have kp:∀b∈[b2,b4,b7],uD.heap[b]? =qV.heap[b]?:=λb hb=>by
   have hg:En.g b∈[En.g b2,.c w1.heap.size e2.c aG,.g b4,.g b7]:=by
    simp only [cU,qnM,or_false] at hb ⊢
    rcases hb with rfl|rfl|rfl<;>simp
   exact r3.gV b (qW.own _ hg) id
  refine ⟨⟨some (bF qV.heap.size),l.length+1,l.length+1⟩,uD,r1,kp,?_⟩
  generalize Ca:(madeCells (Value.agg #[.int .i64 0,.slice none 0 0,.int .i64 0,.int .i64 0,.int .u64 0,.string (ByteArray.mk #[]),.int .i64 0,.int .i64 0,.int .i64 0]).cells ((l.length+1) *9)).toList=Aa at ux
  have hold:Aa.length=(l.length+1) *9:=by rw [<-Ca];exact GC _
  have hlc:=Nd.iL l
  refine ux.cpk 4 nh rfl (by simp) (show jO 9 uD s (l.flatMap Nd.c) from (cH.1 (ux.getD 0)).1) (by simp only;omega) sL (λC' uy=>?_)
  have hz:(Aa.drop (l.flatMap Nd.c).length).length=9:=by rw [qlD];omega
  generalize Aa.drop (l.flatMap Nd.c).length=Z at hz uy
  refine ⟨_,_,_,_,_,_,_,_,_,uy.ld 1 0,uy.ld 1 1,uy.ld 1 2,uy.ld 1 3,uy.ld 1 4,uy.ld 1 5,uy.ld 1 6,uy.ld 1 7,uy.ld 1 8,by omega,by simp only;omega,yc ?_⟩
  rw [hn,Int.toNat_natCast]
  refine uy.aaa (e:=e2) 4 l.length rfl rfl hlc hz (λAz BD=>?_)
  refine BD.aK λKq Da=>⟨⟨_,by rw [nR],⟨l++[e2],by simp [xs,e2],⟨?_,λa xi=>?_⟩,λb hb=>?_⟩⟩,Da.fr⟩
  .have:aP Kq aG 9 ⟨some (bF qV.heap.size),l.length+1,l.length+1⟩ (l.flatMap Nd.c++e2.c):=Da.get 4
   have:=this.jh
   simpa using this
  .rcases List.mem_append.1 xi with xi|xi
   .exact (cH.1 (Da.getD 0)).2 a xi
   .simp only [cU,qnM,or_false] at xi
    subst xi
    exact Da.getD 3
  .rcases tC.1 hb with hb|⟨a,xi,hb⟩
   .right
    have yU:b∈(En.row aG 9 ⟨some (bF qV.heap.size),l.length+1,l.length+1⟩ (l.flatMap Nd.c++e2.c)).fp:=by
     have:b∈(if (l++[e2]).flatMap Nd.c=[] then [] else bC ⟨some (bF qV.heap.size),l.length+1,l.length+1⟩):=hb
     split at this
     .cases this
     .exact this
    exact (Da.new _ (cZ (i:=4) rfl) b yU).resolve_right id
   .rcases List.mem_append.1 xi with xi|xi
    .exact .inl (tC.2 (.inr ⟨a,xi,hb⟩))
    .simp only [cU,qnM,or_false] at xi
     subst xi
     exact .inr (Nat.le_trans m8.fr.size (Bm fck b hb))
end Go.Proofs.YtcifihepfadgfaaGreatDoor
