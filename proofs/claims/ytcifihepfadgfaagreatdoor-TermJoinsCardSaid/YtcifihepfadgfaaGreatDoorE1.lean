import Derived.Test.YtcifihepfadgfaaGreatDoorTP
import Derived.Test.YtcifihepfadgfaaGreatDoorTM
import Derived.Test.YtcifihepfadgfaaGreatDoorVB
import Derived.Test.YtcifihepfadgfaaGreatDoorT1
import Derived.Laws.CopyRow
set_option linter.unusedVariables false
namespace Go.Proofs.YtcifihepfadgfaaGreatDoor
open List renaming mem_cons->cS,not_mem_nil->fF,mem_of_getElem?->cR,getElem?_eq_getElem->g8,getElem?_eq_some_iff->ov,length_append->qq,length_drop->Tg,mem_cons_of_mem->lr,drop_eq_getElem_cons->sC,drop_of_length_le->sP,eq_nil_of_length_eq_zero->Wr
open Go Go.W
set_option maxRecDepth 100000
theorem lh2 {w:World} {a b:En} (ha:a.P w) (hb:b.P w):LH F0 w w [] [a,b]:=mu _ (by
 intro e he
 simp only [cS,fF,or_false] at he
 rcases he with rfl|rfl
 .exact ha
 .exact hb)
def Pd (w:World) (l:List Int) (r:Ending) (w':World):Prop:=∃s:Sl,r=.returned s.v/\aO w' bP 1 s (l.map eI)/\∀b∈aZ s,w.heap.size<=b
section
variable {M:Nat->Prop} {w0 w:World} {L D:List En} {bs:List Nat}
theorem _root_.Go.W.LH.LQ (H:LH M w0 w L D) (i j:Nat) {e:TypeId} {sz:Nat} {s:Sl} {xs:List Value} {v:Value} {p:Addr} {K:World->Prop} (hi:L[i]? =some (.row e sz s xs)) (hp:s.a=some p) (hj:j<xs.length)
  (hK:∀w',LH M w0 w' (L.set i (.row e sz s (xs.set j v))) D->K w') (ke:∀b∈bs,En.g b∈L:=by simp):bT w (p.add j) v λw1=>kept bs w w1/\K w1:=by
 obtain ⟨q,hq,hqb,x1,x2,x3,x4⟩:=Dz (H.get i hi) j hj v
 rw [hp] at hq
 cases hq
 refine ⟨x1,x2,λb hb=>?_,hK _ (H.D2 i (.row e sz s (xs.set j v)) hi x4 x3 (λb hb=>.inl hb))⟩
 exact x4.gY b (H.own _ (ke b hb)) λhm=>H.vZ hi (ke b hb) hm
end
theorem ub {p:Addr} {K:Addr->Prop} (h:K p):W.aW (some p) K:=h
set_option maxHeartbeats 1000000
def jV (w:World) (p:Addr) (d:Nd):Prop:=∀i v,(Nd.c d)[i]? =some v->w.cell? (p.add i)=some v
theorem jV.st {w w':World} {p:Addr} {d:Nd} (h:jV w p d) (hk:p.block<w.heap.size->w'.heap[p.block]? =w.heap[p.block]?):jV w' p d:=λi v hi=>by
 have hc:=h i v hi
 have hl:=pP hc
 rw [gP] at hl
 unfold World.cell? at hc ⊢
 rw [gP] at hc ⊢
 rw [hk hl];exact hc
theorem jV.lt {w:World} {p:Addr} {d:Nd} (h:jV w p d):p.block<w.heap.size:=by
 have:=pP (h 0 _ rfl)
 rwa [gP] at this
def _root_.Go.W.En.yW (p:Addr) (d:Nd):En:=⟨[p.block],λw=>jV w p d,λw w' h hp=>hp.st (h p.block (by simp)),λw hp b hb=>by simp at hb;subst hb;exact jV.lt hp,by simp⟩
theorem xE {w:World} {b:Nat} {d:Nd} {T:TypeId} (h:w.heap[b]? =some (.cells (Nd.c d).toArray T (0,0))):jV w (bD b) d:=λi v hi=>cellAt (p:=bD b) h rfl (by simpa using hi)
section
variable {w:World} {p:Addr} {d:Nd} (h:jV w p d)
include h
theorem jV.c0:w.cell? (p.add 0)=some (.i d.x.op):=h 0 _ rfl
theorem jV.c1:w.cell? (p.add 1)=some d.ks.v:=h 1 _ rfl
theorem jV.c2:w.cell? (p.add 2)=some (.i d.x.n):=h 2 _ rfl
theorem jV.c3:w.cell? (p.add 3)=some (.i d.x.m):=h 3 _ rfl
theorem jV.c4:w.cell? (p.add 4)=some (.u d.x.u):=h 4 _ rfl
theorem jV.c5:w.cell? (p.add 5)=some (.string d.x.tx):=h 5 _ rfl
theorem jV.s0:w.cell? ((p.add 6).add 0)=some (.i d.x.st.k):=by rw [add_add];exact h 6 _ rfl
theorem jV.s1:w.cell? ((p.add 6).add 1)=some (.i d.x.st.n):=by rw [add_add];exact h 7 _ rfl
theorem jV.s2:w.cell? ((p.add 6).add 2)=some (.i d.x.st.x):=by rw [add_add];exact h 8 _ rfl
end
theorem ur (n:Int) (w:World):Calls Tryz.prog fJ #[.i n] w λr w'=>r=.returned (kA (jG n))/\bG w w':=
 term_bv.cU _ w _ ((mu [] (by simp)).bF λb w1 H1=>H1.aL λw2 H2=>⟨rfl,H2.fr⟩)
theorem Cs (n:Int) (w:World):Calls Tryz.prog lT #[.i n] w λr w'=>r=.returned (kA (nI n))/\bG w w':=
 term_str.cU _ w _ ((mu [] (by simp)).bF λb w1 H1=>H1.aL λw2 H2=>⟨rfl,H2.fr⟩)
theorem vm (s:iw) (w:World):Calls Tryz.prog jo #[kA s] w λr w'=>r=.returned (.bool (s.k==0))/\bG w w':=
 term_isBV.cU _ _ _ w _ ((mu [] (by simp)).bF λb w1 H1=>⟨rfl,H1.fr⟩)
theorem jF (s:iw) (w:World):Calls Tryz.prog cV #[kA s] w λr w'=>r=.returned (.bool (s.k==1))/\bG w w':=
 term_isStr.cU _ _ _ w _ ((mu [] (by simp)).bF λb w1 H1=>⟨rfl,H1.fr⟩)
theorem xU (s:iw) (w:World):Calls Tryz.prog lQ #[kA s] w λr w'=>r=.returned (.bool (lD s))/\bG w w':=
 term_isArray.cU _ _ _ w _ ((mu [] (by simp)).bF λb w1 H1=>aJ (λh=>⟨by unfold lD;rw [h];rfl,H1.fr⟩) (λh=>⟨by unfold lD;rw [beq_eq_false_iff_ne.2 h];rfl,H1.fr⟩))
theorem J3 (x y:iw) (w:World):Calls Tryz.prog pU #[kA x,kA y] w λr w'=>r=.returned (.bool (decide (x=y)||(x.k==1&&y.k==1)))/\bG w w':=by
 refine term_alike.cU _ _ _ _ _ _ w _ ((mu [] (by simp)).bF λb w1 H1=>H1.bF λb2 w2 H2=>oc (a:=x) (b:=y) (λhe=>⟨by rw [decide_eq_true he];rfl,H2.fr⟩) (λhe=>H2.aK (jF x w2) ?_))
 rintro _ w3 rfl H3
 rw [decide_eq_false he,Bool.false_or]
 refine ⟨_,rfl,aJ (λhk=>H3.aK (jF y w3) ?_) (λhk=>⟨by rw [beq_eq_false_iff_ne.2 hk];rfl,H3.fr⟩)⟩
 rintro _ w4 rfl H4
 exact ⟨_,rfl,by rw [hk];rfl,H4.fr⟩
def Vy (o0 ranges:Bool):Int:=if o0=true then (if ranges=true then 0 else 5) else 9
theorem OJ (s:iw) (o0 ranges:Bool) (w:World):Calls Tryz.prog aV #[kA s,.bool o0,.bool ranges] w λr w'=>r=kH (s,Vy o0 ranges)/\bG w w':=by
 refine term_result.cU _ _ _ _ _ w _ ((mu [] (by simp)).bF λb w1 H1=>H1.bF λb2 w2 H2=>eT (λh=>H2.aL λw3 H3=>⟨by rw [h];rfl,H3.fr⟩) (λh=>eT (λh2=>H2.aL λw3 H3=>⟨by rw [h,h2];rfl,H3.fr⟩) (λh2=>H2.aL λw3 H3=>⟨by rw [h,h2];rfl,H3.fr⟩)))
theorem yz (s:iw) (w:World):Calls Tryz.prog kY #[kA s] w λr w'=>r=.returned (.int .i64 (mn s))/\bG w w':=by
 refine value_ValidSort.cU _ _ _ w _ ((mu [] (by simp)).bF λb1 w1 H1=>?_)
 have Xj:bN s=true->(Ending.returned (Value.int .i64 0)=.returned (.int .i64 (mn s))/\bG w w1):=λh=>⟨by unfold mn;rw [if_pos h],H1.fr⟩
 have bad:bN s=false->(Ending.returned (Value.int .i64 9)=.returned (.int .i64 (mn s))/\bG w w1):=λh=>⟨by unfold mn;rw [if_neg (by simp [h])],H1.fr⟩
 have plain:∀least:Int,(∀h1:least<=s.n,s.n<=64->s.x=0->bN s=true)->(¬(least<=s.n/\s.n<=64/\s.x=0)->bN s=false)->value_ValidSort.dV b1 s.k s.n s.x least 64 false w1 λr w'=>r=.returned (.int .i64 (mn s))/\bG w w':=by
  intro least h1 h2
  exact aN (λh=>bad (h2 (by omega))) (λh=>aN (λh'=>bad (h2 (by omega))) (λh'=>aI rfl (aQ rfl (dX (λh3=>bad (h2 (λhh=>h3 hh.2.2))) (λh3=>Xj (h1 (by omega) (by omega) h3))))))
 have array:∀least:Int,(∀h1:least<=s.n,s.n<=64->1<=s.x->s.x<=16->bN s=true)->(¬(least<=s.n/\s.n<=64/\1<=s.x/\s.x<=16)->bN s=false)->value_ValidSort.dV b1 s.k s.n s.x least 64 true w1 λr w'=>r=.returned (.int .i64 (mn s))/\bG w w':=by
  intro least h1 h2
  exact aN (λh=>bad (h2 (by omega))) (λh=>aN (λh'=>bad (h2 (by omega))) (λh'=>aQ rfl (aN (λh3=>bad (h2 (by omega))) (λh3=>aN (λh4=>bad (h2 (by omega))) (λh4=>aI rfl (Xj (h1 (by omega) (by omega) (by omega) (by omega))))))))
 refine aJ (λh0=>plain 1 (λh1 h2 h3=>?_) (λh=>?_)) (λh0=>aJ (λKB=>plain 0 (λh1 h2 h3=>?_) (λh=>?_)) (λKB=>aJ (λSj=>array 1 (λh1 h2 h3 h4=>?_) (λh=>?_)) (λSj=>aJ (λKC=>array 0 (λh1 h2 h3 h4=>?_) (λh=>?_)) (λKC=>bad ?_))))
 .unfold bN;simp [h0,h1,h2,h3]
 .unfold bN;rw [h0];simp;omega
 .unfold bN;simp [KB,h1,h2,h3]
 .unfold bN;rw [KB];simp;omega
 .unfold bN;simp [Sj,h1,h2,h3,h4]
 .unfold bN;rw [Sj];simp;omega
 .unfold bN;simp [KC,h1,h2,h3,h4]
 .unfold bN;rw [KC];simp;omega
 .unfold bN;simp [h0,KB,Sj,KC]
theorem VI {s:ByteArray} {i:Nat} (h:i<s.size):s[i]? =some (gQ (bl s) i):=by
 have h2:i<(bl s).length:=h
 have e:gQ (bl s) i=(bl s)[i]:=by unfold gQ;rw [List.getD_eq_getElem?_getD,g8 h2];rfl
 rw [e,getElem?_pos s i h]
 rfl
theorem OH (s:ByteArray) (w:World):Calls Tryz.prog q6 #[.string s] w λr w'=>r=.returned (.bool (qK (bl s)))/\bG w w':=by
 have hl:(bl s).length=s.size:=iS s
 have np:∀(c:UInt8) (m:List UInt8),qK (c::m)=(decide (m.length<=15)&&pf c&&m.all mS):=λ_ _=>rfl
 cases hs:bl s with
 |nil=>
  have h0:s.size=0:=by rw [<-hl,hs];rfl
  exact term_isName.ok s w _ (aQ (decide_eq_true (by omega)) ⟨rfl,Fr.refl _ _⟩)
 |cons c m=>
  have hm:s.size=m.length+1:=by rw [<-hl,hs];rfl
  have g0:gQ (bl s) 0=c:=by rw [hs];rfl
  refine term_isName.ok s w _ (aI (decide_eq_false (by omega)) (aN (λh=>⟨?_,Fr.refl _ _⟩) (λh=>?_)))
  .rw [np,decide_eq_false (by omega)];rfl
  have e0:qK (c::m)=(pf c&&m.all mS):=by rw [np,decide_eq_true (by omega:m.length<=15),Bool.true_and]
  rw [e0]
  have loop:∀(d i:Nat),i+d=s.size->(pf c&&m.all mS)=(if i=0 then (pf c&&m.all mS) else ((bl s).drop i).all mS)->term_isName.L1 s (i:Int) w λr w'=>r=.returned (.bool (pf c&&m.all mS))/\bG w w':=by
   intro d
   induction d with
   |zero=>
    intro i hi he
    rw [sP (by omega),if_neg (by omega)] at he
    exact term_isName.oI _ _ _ _ (aI (decide_eq_false (by omega)) ⟨by rw [he];rfl,Fr.refl _ _⟩)
   |succ d ih=>
    intro i hi he
    have hg:=VI (show i<s.size by omega)
    have hx:(bl s).drop i=gQ (bl s) i::(bl s).drop (i+1):=by
     rw [sC (by omega:i<(bl s).length)]
     unfold gQ;rw [List.getD_eq_getElem?_getD,g8 (by omega:i<(bl s).length)];rfl
    have go:(if i=0 then pf (gQ (bl s) i) else mS (gQ (bl s) i))=true->term_isName.S5 s (i:Int) w λr w'=>r=.returned (.bool (pf c&&m.all mS))/\bG w w':=λh=>by
     show term_isName.L1 s (IntKind.wrap .i64 ((i:Int)+1)) w _
     rw [aX _ (by omega)]
     refine ih (i+1) (by omega) ?_
     rw [if_neg (by omega)]
     by_cases h0:i=0
     .subst h0
      rw [if_pos rfl,g0] at h
      rw [h,Bool.true_and]
      rw [hs];rfl
     .rw [if_neg h0] at h he
      rw [he,hx,List.all_cons,h,Bool.true_and]
    have stop:(if i=0 then pf (gQ (bl s) i) else mS (gQ (bl s) i))=false->term_isName.S4 w λr w'=>r=.returned (.bool (pf c&&m.all mS))/\bG w w':=λh=>by
     refine ⟨?_,Fr.refl _ _⟩
     by_cases h0:i=0
     .subst h0
      rw [if_pos rfl,g0] at h
      rw [h,Bool.false_and]
     .rw [if_neg h0] at h he
      rw [he,hx,List.all_cons,h,Bool.false_and]
    generalize gQ (bl s) i=x at hg go stop
    have S3:∀l:Bool,l=pf x->term_isName.S3 s (i:Int) ((x.toNat:Nat):Int) l w λr w'=>r=.returned (.bool (pf c&&m.all mS))/\bG w w':=by
     intro l hl
     refine eT (λhf=>?_) (λht=>go ?_)
     .rw [hf] at hl
      refine aJ (λh0=>stop ?_) (λh0=>?_)
      .rw [if_pos (by omega),<-hl]
      have XD:i≠0:=by omega
      rw [if_neg XD] at go stop
      have nq:mS x=((decide (48<=x.toNat)&&decide (x.toNat<=57))||x==45):=by unfold mS;rw [<-hl,Bool.false_or]
      refine dX (λSk=>aN (λh1=>stop ?_) (λh1=>aN (λh2=>stop ?_) (λh2=>go ?_))) (λSk=>go ?_)
      .rw [nq,decide_eq_false (show ¬48<=x.toNat by omega)]
       have:(x==45)=false:=beq_eq_false_iff_ne.2 λe=>Sk (by subst e;rfl)
       rw [this];rfl
      .rw [nq,decide_eq_false (show ¬x.toNat<=57 by omega),Bool.and_false]
       have:(x==45)=false:=beq_eq_false_iff_ne.2 λe=>Sk (by subst e;rfl)
       rw [this];rfl
      .rw [nq,decide_eq_true (show 48<=x.toNat by omega),decide_eq_true (show x.toNat<=57 by omega)];rfl
      .have:x=45:=UInt8.toNat_inj.1 (by have:((45:UInt8).toNat:Int)=45:=rfl;omega)
       rw [nq,this];rfl
     .rw [ht] at hl
      split
      .exact hl.symm
      .unfold mS;rw [<-hl];rfl
    have ht:((i:Int)).toNat=i:=Int.toNat_natCast i
    refine term_isName.oI _ _ _ _ (aQ (decide_eq_true (by omega)) ⟨by omega,x,by rw [ht];exact hg,aN (λh1=>S3 _ ?_) (λh1=>S3 _ ?_)⟩)
    .unfold pf
     rw [decide_eq_true (show 97<=x.toNat by omega),Bool.true_and]
     exact decide_eq_decide.2 (by omega)
    .unfold pf
     rw [decide_eq_false (show ¬97<=x.toNat by omega),Bool.false_and]
  exact loop s.size 0 (by omega) (by rw [if_pos rfl])
theorem PG (t:ByteArray):(t.toList==(ByteArray.mk #[]).toList)=decide (t=ba []):=J7 _ _
theorem Gk {w:World} {p:Addr} {d:Nd} (h:jV w p d):Calls Tryz.prog oD #[.pointer (some p)] w λr w'=>r=.returned (.bool (okF d.x))/\bG w w':=by
 have S1:∀a b c e:Bool,term_fieldsFit.S1 p a b c e w λr w'=>r=.returned (.bool ((a||d.x.n==0)&&(b||d.x.m==0)&&(c||d.x.u==0)&&(e||decide (d.x.tx=ba []))))/\bG w w':=by
  intro a b c e
  cases a<;>cases b<;>cases c<;>cases e
  all_goals repeat (first |refine aI rfl ?_|refine aQ rfl ?_|refine ⟨_,h.c2,aJ (λh2=>?_) (λh2=>⟨by rw [beq_eq_false_iff_ne.2 h2];simp,Fr.refl _ _⟩)⟩|refine ⟨_,h.c3,aJ (λh3=>?_) (λh3=>⟨by rw [beq_eq_false_iff_ne.2 h3];simp,Fr.refl _ _⟩)⟩|refine ⟨_,h.c4,aJ (λh4=>?_) (λh4=>⟨by rw [beq_eq_false_iff_ne.2 h4];simp,Fr.refl _ _⟩)⟩|refine ⟨_,h.c5,?_,Fr.refl _ _⟩)
  all_goals first |exact ⟨by simp [*],Fr.refl _ _⟩|(rw [PG];simp [*])
 have fin:∀a b c e:Bool,a=EO d.x.op->b=(d.x.op==21)->c=(d.x.op==1)->e=EP d.x.op->term_fieldsFit.S1 p a b c e w λr w'=>r=.returned (.bool (okF d.x))/\bG w w':=by
  rintro a b c e rfl rfl rfl rfl
  exact S1 _ _ _ _
 have e0:∀k:Int,d.x.op≠k->(d.x.op==k)=false:=λk hk=>beq_eq_false_iff_ne.2 hk
 have S2:∀e:Bool,e=EP d.x.op->term_fieldsFit.S2 p false false false e d.x.op w λr w'=>r=.returned (.bool (okF d.x))/\bG w w':=by
  intro e he
  refine aJ (λh1=>fin _ _ _ _ ?_ ?_ ?_ he) (λh1=>aJ (λh2=>fin _ _ _ _ ?_ ?_ ?_ he) (λh2=>aJ (λh3=>aQ (beq_iff_eq.2 h3) (fin _ _ _ _ ?_ ?_ ?_ he)) (λh3=>aJ (λh4=>aQ (beq_iff_eq.2 h4) (fin _ _ _ _ ?_ ?_ ?_ he)) (λh4=>aJ (λh5=>fin _ _ _ _ ?_ ?_ ?_ he) (λh5=>fin _ _ _ _ ?_ ?_ ?_ he)))))
  all_goals first |(rw [‹d.x.op=_›];rfl)|(simp [EO, *])
 refine term_fieldsFit.ok p w _ ⟨_,h.c0,aJ (λh0=>aQ (beq_iff_eq.2 h0) (fin _ _ _ _ ?_ ?_ ?_ ?_)) (λh0=>aJ (λh2=>aQ (beq_iff_eq.2 h2) (fin _ _ _ _ ?_ ?_ ?_ ?_)) (λh2=>aJ (λh3=>fin _ _ _ _ ?_ ?_ ?_ ?_) (λh3=>S2 _ ?_)))⟩
 all_goals first |(rw [‹d.x.op=_›];rfl)|(unfold EP;simp [*])
def ui (s:iw) (e:Int) (r:Ending):Prop:=∃(t:iw) (e':Int),r=kH (t,e')/\e'=e/\(e=0->t=s)
theorem Zg {w:World} {p:Addr} {d:Nd} (h:jV w p d):LH F0 w w [] [.yW p d]:=mu _ (by
 intro e he
 simp only [cS,fF,or_false] at he
 subst he
 exact h)
def sL (n:Nx) (x y z:iw):Int:=if iU n.op x y z=false then 9 else if vj n x y z=false then 5 else if n.op=33/\A0 n.tx=false then 2 else 0
theorem Q8 {n:Nx} {x y z t:iw} {o0 ranges:Bool} (oJ:n.op≠33) (h1:o0=iU n.op x y z) (h2:o0=true->ranges=vj n x y z) (h3:o0=true->ranges=true->t=rB n x y z):ui (rB n x y z) (sL n x y z) (kH (t,Vy o0 ranges)):=by
 refine ⟨t,_,rfl,?_,λh=>?_⟩
 .unfold Vy sL
  rw [<-h1]
  cases o0 with
  |false=>rfl
  |true=>
   rw [<-h2 rfl]
   cases ranges with
   |false=>rfl
   |true=>simp [oJ]
 .unfold sL at h
  rw [<-h1] at h
  cases o0 with
  |false=>simp at h
  |true=>
   rw [<-h2 rfl] at h
   cases ranges with
   |false=>simp at h
   |true=>exact h3 rfl rfl
section
variable {M:Nat->Prop} {w0 w:World} {L D:List En} {bs GH:List Nat}
theorem gW (H:LH F0 w0 w L D) {n:Nx} {x y z:iw} (t:iw) (o0 ranges:Bool) (oJ:n.op≠33) (h1:o0=iU n.op x y z) (h2:o0=true->ranges=vj n x y z) (h3:o0=true->ranges=true->t=rB n x y z) (ke:∀b∈bs,En.g b∈L:=by simp):
  fE GH Tryz.prog aV #[kA t,.bool o0,.bool ranges] w λr w5=>∃a b c e:Int,r=.returned (.tuple #[.agg #[.i a,.i b,.i c],.i e])/\loc bs w5 λw6=>ui (rB n x y z) (sL n x y z) (.returned (.tuple #[.agg #[.i a,.i b,.i c],.i e]))/\bG w0 w6:=by
 refine H.aK (OJ t o0 ranges w) ?_
 rintro _ w1 rfl H1
 exact ⟨_,_,_,_,rfl,H1.aL (λw2 H2=>⟨Q8 oJ h1 h2 h3,H2.fr⟩) ke⟩
end
def RR (s:iw):Prop:=0<=s.n/\s.n<=64
theorem Lw {s:iw} (h:bN s=true):RR s:=⟨(nc h).1,(nc h).2.1⟩
theorem NT:RR o4:=⟨by decide,by decide⟩
theorem VL {w:World} {p:Addr} {d:Nd} {x y z:iw} (h:jV w p d) (h4:4<=d.x.op) (h23:d.x.op<=23) (hx:RR x) (hy:RR y) (hn:oo d.x.n) (hm:oo d.x.m):
  Calls Tryz.prog nY #[.pointer (some p),kA x,kA y,kA z] w λr w'=>ui (rB d.x x y z) (sL d.x x y z) r/\bG w w':=by
 refine term_sortOfBits.cU _ _ _ _ _ _ _ _ _ _ w _ ((Zg h).bF λb5 w1 H1=>H1.bF λb6 w2 H2=>H2.bF λb7 w3 H3=>H3.bF λb8 w4 H4=>?_)
 obtain ⟨⟨op,kids,n,m,u,tx,st⟩,Qx⟩:=d
 have C:∀{w5:World} {L:List En},LH F0 w w5 L [.yW p ⟨⟨op,kids,n,m,u,tx,st⟩,Qx⟩]->jV w5 p ⟨⟨op,kids,n,m,u,tx,st⟩,Qx⟩:=λH=>H.getD 0
 simp only at h4 h23 hn hm
 refine ⟨op,(C H4).c0,?_⟩
 obtain ⟨Ns,Wl⟩:=hx
 obtain ⟨U7,SO⟩:=hy
 obtain ⟨DY,Y6⟩:=hn
 obtain ⟨SD,Wk⟩:=hm
 have two:∀(c:Bool),c=true->c=true:=λ_ h=>h
 rcases xH (by omega) (by omega:op<=34) with rfl|rfl|rfl|rfl|rfl|rfl|rfl|rfl|rfl|rfl|rfl|rfl|rfl|rfl|rfl|rfl|rfl|rfl|rfl|rfl|rfl|rfl|rfl|rfl|rfl|rfl|rfl|rfl|rfl|rfl|rfl|rfl|rfl|rfl|rfl
 iterate 4 omega
 rotate_left 20
 iterate 11 omega
 all_goals repeat (first |refine aI rfl ?_|refine aQ rfl ?_)
 iterate 2
  .refine H4.aL λw5 H5=>H5.aK (vm x w5) ?_
   rintro _ w6 rfl H6
   exact ⟨_,rfl,gW H6 x _ true (by simp) rfl (λ_=>rfl) (λ_ _=>rfl)⟩
 iterate 10
  .refine H4.aL λw5 H5=>H5.aK (vm x w5) ?_
   rintro _ w6 rfl H6
   refine ⟨_,rfl,aJ (λhk=>?_) (λhk=>?_)⟩
   .refine gW H6 x _ true (by simp) ?_ (λ_=>rfl) (λ_ _=>rfl)
    rw [od]
    show _=(x.k==0&&decide (x=y))
    rw [hk];rfl
   .refine gW H6 x _ true (by simp) ?_ (λ_=>rfl) (λ_ _=>rfl)
    show _=(x.k==0&&decide (x=y))
    rw [beq_eq_false_iff_ne.2 hk];rfl
 iterate 2
  .refine H4.aL λw5 H5=>H5.aK (ur 1 w5) ?_
   rintro _ w6 rfl H6
   refine ⟨_,_,_,rfl,H6.aK (vm x w6) ?_⟩
   rintro _ w7 rfl H7
   refine ⟨_,rfl,aJ (λhk=>?_) (λhk=>?_)⟩
   .refine gW H7 (jG 1) _ true (by simp) ?_ (λ_=>rfl) (λ_ _=>rfl)
    rw [od]
    show _=(x.k==0&&decide (x=y))
    rw [hk];rfl
   .refine gW H7 (jG 1) _ true (by simp) ?_ (λ_=>rfl) (λ_ _=>rfl)
    show _=(x.k==0&&decide (x=y))
    rw [beq_eq_false_iff_ne.2 hk];rfl
 .refine H4.aL λw5 H5=>H5.aK (ur 1 w5) ?_
  rintro _ w6 rfl H6
  refine ⟨_,_,_,rfl,H6.aK (J3 x y w6) ?_⟩
  rintro _ w7 rfl H7
  exact ⟨_,rfl,gW H7 (jG 1) _ true (by simp) rfl (λ_=>rfl) (λ_ _=>rfl)⟩
 .refine H4.bF λpH w5 H5=>H5.aL λw6 H6=>H6.aK (jF y w6) ?_
  rintro _ w7 rfl H7
  have S4:∀(t:iw) (w8:World),((decide (y=z)||(y.k==1&&z.k==1))=true->t=if y.k=1 then nI (if y.n<z.n then z.n else y.n) else y)->LH F0 w w8 [.g b5,.g b6,.g b7,.g b8,.g pH] [.yW p ⟨⟨19,kids,n,m,u,tx,st⟩,Qx⟩]->term_sortOfBits.qb b5 x.k x.n x.x b6 y.k y.n y.x b7 z.k z.n z.x b8 0 0 0 pH t.k t.n t.x w8 λr w'=>ui (rB ⟨19,kids,n,m,u,tx,st⟩ x y z) (sL ⟨19,kids,n,m,u,tx,st⟩ x y z) r/\bG w w':=by
   intro t w8 ht H8
   refine H8.aL λw9 H9=>H9.aK (ur 1 w9) ?_
   rintro _ pE rfl mJ
   have fe:iU 19 x y z=(decide (x=jG 1)&&(decide (y=z)||(y.k==1&&z.k==1))):=rfl
   refine ⟨_,_,_,rfl,oc (a:=x) (b:=jG 1) (λhe=>mJ.aK (J3 y z pE) ?_) (λhe=>?_)⟩
   .rintro _ sj rfl qR
    refine ⟨_,rfl,gW qR t _ true (by simp) ?_ (λ_=>rfl) (λh _=>ht h)⟩
    show _=iU 19 x y z
    rw [fe,decide_eq_true he];rfl
   .refine gW mJ t _ true (by simp) ?_ (λ_=>rfl) (λh _=>by cases h)
    show _=iU 19 x y z
    rw [fe,decide_eq_false he];rfl
  have yes:∀t:iw,y.k=1->z.k=1->t=nI (if y.n<z.n then z.n else y.n)->((decide (y=z)||(y.k==1&&z.k==1))=true->t=if y.k=1 then nI (if y.n<z.n then z.n else y.n) else y):=λt h1 _ h3 _=>by rw [if_pos h1,h3]
  refine ⟨_,rfl,aJ (λhk=>H7.aK (jF z w7) ?_) (λhk=>S4 y w7 (λ_=>by rw [if_neg hk]) H7)⟩
  rintro _ w8 rfl H8
  refine ⟨_,rfl,aJ (λsM=>H8.aK (Cs _ w8) ?_) (λsM=>S4 y w8 (λhf=>?_) H8)⟩
  .rintro _ w9 rfl H9
   exact ⟨_,_,_,rfl,H9.aL λpE mJ=>S4 (nI (if y.n<z.n then z.n else y.n)) pE (yes _ hk sM rfl) mJ⟩
  .rw [beq_eq_false_iff_ne.2 sM,Bool.and_false,Bool.or_false] at hf
   have:=of_decide_eq_true hf
   exact absurd (by rw [<-this];exact hk) sM
 .have e1:IntKind.wrap .i64 (x.n+y.n)=x.n+y.n:=IntWalk.i64_in _ (by omega)
  have fe:iU 20 x y z=(x.k==0&&y.k==0):=rfl
  refine H4.aL λw5 H5=>?_
  rw [e1]
  refine H5.aK (ur _ w5) ?_
  rintro _ w6 rfl H6
  refine ⟨_,_,_,rfl,H6.aK (vm x w6) ?_⟩
  rintro _ w7 rfl H7
  refine ⟨_,rfl,aJ (λhk=>H7.aK (vm y w7) ?_) (λhk=>?_)⟩
  .rintro _ w8 rfl H8
   refine ⟨_,rfl,gW H8 (jG (x.n+y.n)) _ _ (by simp) ?_ (λ_=>rfl) (λ_ _=>rfl)⟩
   show _=iU 20 x y z
   rw [fe,hk];rfl
  .refine gW H7 (jG (x.n+y.n)) _ _ (by simp) ?_ (λh=>by cases h) (λh _=>by cases h)
   show _=iU 20 x y z
   rw [fe,beq_eq_false_iff_ne.2 hk];rfl
 .have hr:vj ⟨21,kids,n,m,u,tx,st⟩ x y z=(decide (0<=m)&&decide (m<=n)&&decide (n<x.n)):=rfl
  refine H4.aL λw5 H5=>⟨_,(C H5).c2,_,(C H5).c3,_,(C H5).c3,H5.aK (ur _ w5) ?_⟩
  rintro _ w6 rfl H6
  refine ⟨_,_,_,rfl,(C H6).c3,H6.aK (vm x w6) ?_⟩
  rintro _ w7 rfl H7
  refine ⟨_,rfl,(C H7).c3,aN (λg1=>⟨_,(C H7).c3,_,(C H7).c2,aN (λg2=>⟨_,(C H7).c2,gW H7 (jG _) _ _ (by simp) rfl (λ_=>?_) (λ_ g3=>?_)⟩) (λg2=>gW H7 (jG _) _ _ (by simp) rfl (λ_=>?_) (λ_ h=>by cases h))⟩) (λg1=>gW H7 (jG _) _ _ (by simp) rfl (λ_=>?_) (λ_ h=>by cases h))⟩
  .rw [hr,decide_eq_true (show 0<=m from g1),decide_eq_true (show m<=n from g2)];rfl
  .have g1:0<=m:=g1
   have g2:m<=n:=g2
   have g3:n<x.n:=of_decide_eq_true g3
   show jG (IntKind.wrap .i64 (IntKind.wrap .i64 (n - m)+1))=jG (n - m+1)
   rw [IntWalk.i64_in (n - m) (by omega),IntWalk.i64_in _ (by omega)]
  .rw [hr,decide_eq_false (show ¬m<=n from g2),Bool.and_false];rfl
  .rw [hr,decide_eq_false (show ¬0<=m from g1)];rfl
 iterate 2
  .have YV:IntKind.wrap .i64 (64 - x.n)=64 - x.n:=IntWalk.i64_in _ (by omega)
   refine H4.aL λw5 H5=>⟨_,(C H5).c2,_,(C H5).c2,H5.aK (ur _ w5) ?_⟩
   rintro _ w6 rfl H6
   refine ⟨_,_,_,rfl,(C H6).c2,H6.aK (vm x w6) ?_⟩
   rintro _ w7 rfl H7
   refine ⟨_,rfl,(C H7).c2,aN (λg1=>⟨_,(C H7).c2,gW H7 (jG _) _ _ (by simp) rfl (λ_=>?_) (λ_ g3=>?_)⟩) (λg1=>gW H7 (jG _) _ _ (by simp) rfl (λ_=>?_) (λ_ h=>by cases h))⟩
   .show _=(decide (1<=n)&&decide (n<=64 - x.n))
    rw [YV,decide_eq_true (show 1<=n from g1)];rfl
   .have g1:1<=n:=g1
    rw [YV] at g3
    have g3:n<=64 - x.n:=of_decide_eq_true g3
    show jG (IntKind.wrap .i64 (x.n+n))=jG (x.n+n)
    rw [IntWalk.i64_in _ (by omega)]
   .show _=(decide (1<=n)&&decide (n<=64 - x.n))
    rw [decide_eq_false (show ¬1<=n from g1)];rfl
theorem Lo {x y z:iw} (ha:lD x=true):iU 25 x y z=(decide (y=jG x.x)&&(if x.k=3 then z.k==1&&decide (z.n<=x.n) else decide (z=nP x))):=by
 show (lD x&&decide (y=jG x.x)&&(decide (z=nP x)||(x.k==3&&z.k==1&&decide (z.n<=x.n))))=_
 rw [ha,Bool.true_and]
 congr 1
 by_cases h3:x.k=3
 .rw [if_pos h3,h3]
  have he:nP x=nI x.n:=by unfold nP;rw [if_neg (by omega)]
  rw [he]
  by_cases hz:z=nI x.n
  .subst hz
   simp [nI]
  .rw [decide_eq_false hz];rfl
 .rw [if_neg h3,beq_eq_false_iff_ne.2 h3]
  simp
theorem OF {w:World} {p:Addr} {d:Nd} {x y z:iw} (h:jV w p d) (h4:24<=d.x.op) (h26:d.x.op<=26):
  Calls Tryz.prog mB #[.pointer (some p),kA x,kA y,kA z] w λr w'=>ui (rB d.x x y z) (sL d.x x y z) r/\bG w w':=by
 refine term_sortOfArrays.cU _ _ _ _ _ _ _ _ _ _ w _ ((Zg h).bF λb5 w1 H1=>H1.bF λb6 w2 H2=>H2.bF λb7 w3 H3=>H3.bF λb8 w4 H4=>?_)
 have C:∀{w5:World} {L:List En},LH F0 w w5 L [.yW p d]->jV w5 p d:=λH=>H.getD 0
 refine ⟨_,(C H4).c0,aJ (λho=>H4.aL λw5 H5=>H5.aK (ur x.x w5) ?_) (λho=>H4.aK (ur x.n w4) ?_)⟩
 .rintro _ w6 rfl H6
  refine ⟨_,_,_,rfl,H6.aK (xU x w6) ?_⟩
  rintro _ w7 rfl H7
  have fe:iU d.x.op x y z=(lD x&&decide (x=y)):=by rw [ho];rfl
  have fr:vj d.x x y z=true:=by unfold vj;rw [ho];rfl
  have fs:rB d.x x y z=jG x.x:=by unfold rB;rw [ho];rfl
  refine ⟨_,rfl,bA (λhk=>?_) (λhk=>?_)⟩
  .refine gW H7 (jG x.x) _ true (by omega) ?_ (λ_=>fr.symm) (λ_ _=>fs.symm)
   rw [fe,od,hk];rfl
  .refine gW H7 (jG x.x) _ true (by omega) ?_ (λ_=>fr.symm) (λ_ _=>fs.symm)
   rw [fe,hk];rfl
 rintro _ w6 rfl H6
 have fr:vj d.x x y z=true:=by unfold vj;rw [if_neg (by omega),if_neg (by omega),if_neg (by omega),if_neg (by omega),if_neg (by omega)]
 have S1:∀(t:iw) (pH:Nat) (f:Bool) (w7:World),f=(lD x&&decide (y=jG x.x))->(lD x=true->t=nP x)->LH F0 w w7 [.g b5,.g b6,.g b7,.g b8,.g pH] [.yW p d]->term_sortOfArrays.gm p b5 x.k x.n x.x b7 z.k z.n z.x b8 0 0 0 pH t.k t.n t.x f w7 λr w'=>ui (rB d.x x y z) (sL d.x x y z) r/\bG w w':=by
  intro t pH f w7 hf ht H7
  refine ⟨_,(C H7).c0,aJ (λh24=>?_) (λh24=>?_)⟩
  .refine gW H7 t f true (by omega) ?_ (λ_=>fr.symm) (λhh _=>?_)
   .rw [hf,h24];rfl
   .rw [hf] at hh
    simp only [Bool.and_eq_true] at hh
    rw [ht hh.1]
    unfold rB;rw [h24];rfl
  have Wc:d.x.op=25:=by omega
  have fs:rB d.x x y z=x:=by unfold rB;rw [Wc];rfl
  have ff:f=false->iU d.x.op x y z=false:=λh=>by
   rw [Wc]
   show (lD x&&decide (y=jG x.x)&&(decide (z=nP x)||(x.k==3&&z.k==1&&decide (z.n<=x.n))))=_
   rw [<-hf,h];rfl
  have ft:f=true->lD x=true/\iU d.x.op x y z=(if x.k=3 then z.k==1&&decide (z.n<=x.n) else decide (z=nP x)):=λh=>by
   rw [h] at hf
   have hf:=hf.symm
   simp only [Bool.and_eq_true] at hf
   refine ⟨hf.1,?_⟩
   rw [Wc,Lo hf.1,hf.2,Bool.true_and]
  refine aJ (λhk=>bA (λQd=>H7.aL λw8 H8=>H8.aK (jF z w8) ?_) (λhff=>H7.aL λw8 H8=>gW H8 x _ true (by omega) (ff hff).symm (λ_=>fr.symm) (λ_ _=>fs.symm))) (λhk=>bA (λQd=>H7.aL λw8 H8=>gW H8 x _ true (by omega) ?_ (λ_=>fr.symm) (λ_ _=>fs.symm)) (λhff=>H7.aL λw8 H8=>gW H8 x _ true (by omega) (ff hff).symm (λ_=>fr.symm) (λ_ _=>fs.symm)))
  .rintro _ w9 rfl H9
   have:=(ft Qd).2
   rw [if_pos hk] at this
   refine ⟨_,rfl,aJ (λhz=>gW H9 x _ true (by omega) ?_ (λ_=>fr.symm) (λ_ _=>fs.symm)) (λhz=>gW H9 x _ true (by omega) ?_ (λ_=>fr.symm) (λ_ _=>fs.symm))⟩
   .rw [this,hz];rfl
   .rw [this,beq_eq_false_iff_ne.2 hz];rfl
  .have h2:=ft Qd
   rw [if_neg hk] at h2
   rw [h2.2,od,ht h2.1]
 have S0:∀(t:iw) (pH:Nat) (w7:World),(lD x=true->t=nP x)->LH F0 w w7 [.g b5,.g b6,.g b7,.g b8,.g pH] [.yW p d]->term_sortOfArrays.dV p b5 x.k x.n x.x b6 y.k y.n y.x b7 z.k z.n z.x b8 0 0 0 pH t.k t.n t.x w7 λr w'=>ui (rB d.x x y z) (sL d.x x y z) r/\bG w w':=by
  intro t pH w7 ht H7
  refine H7.aL λw8 H8=>H8.aK (xU x w8) ?_
  rintro _ w9 rfl H9
  refine ⟨_,rfl,bA (λhk=>H9.aK (ur x.x w9) ?_) (λhk=>S1 t pH false w9 (by rw [hk];rfl) ht H9)⟩
  rintro _ pE rfl mJ
  exact ⟨_,_,_,rfl,S1 t pH _ pE (by rw [hk];exact od y (jG x.x)) ht mJ⟩
 refine ⟨_,_,_,rfl,H6.bF λpH w7 H7=>aJ (λhk=>H7.aL λw8 H8=>H8.aK (Cs x.n w8) ?_) (λhk=>H7.aL λw8 H8=>S0 (jG x.n) pH w8 (λha=>?_) H8)⟩
 .rintro _ w9 rfl H9
  exact ⟨_,_,_,rfl,H9.aL λpE mJ=>S0 (nI x.n) pH pE (λ_=>by unfold nP;rw [if_neg (by omega)]) mJ⟩
 .unfold lD at ha
  simp only [Bool.or_eq_true,beq_iff_eq] at ha
  unfold nP
  rw [if_pos (by omega)]
def GX (t:ByteArray):Prop:=∀w,Calls Tryz.prog mZ #[.string t] w λr w'=>r=.returned (.bool (A0 t))/\bG w w'
theorem Lq {w:World} {p:Addr} {d:Nd} {x y z:iw} (h:jV w p d) (h27:27<=d.x.op) (Jd:d.x.op<=34) (hx:RR x) (hy:RR y) (hz:RR z) (hN:d.x.op=33->GX d.x.tx):
  Calls Tryz.prog lS #[.pointer (some p),kA x,kA y,kA z] w λr w'=>ui (rB d.x x y z) (sL d.x x y z) r/\bG w w':=by
 refine term_sortOfStrings.cU _ _ _ _ _ _ _ _ _ _ w _ ((Zg h).bF λb5 w1 H1=>H1.bF λb6 w2 H2=>H2.bF λb7 w3 H3=>H3.bF λb8 w4 H4=>?_)
 obtain ⟨⟨op,kids,n,m,u,tx,st⟩,Qx⟩:=d
 have C:∀{w5:World} {L:List En},LH F0 w w5 L [.yW p ⟨⟨op,kids,n,m,u,tx,st⟩,Qx⟩]->jV w5 p ⟨⟨op,kids,n,m,u,tx,st⟩,Qx⟩:=λH=>H.getD 0
 simp only at h27 Jd hN
 refine ⟨op,(C H4).c0,?_⟩
 obtain ⟨Ns,Wl⟩:=hx
 obtain ⟨U7,SO⟩:=hy
 obtain ⟨O4,Nt⟩:=hz
 have aaz:op=27\/op=28\/op=29\/op=30\/op=31\/op=32\/op=33\/op=34:=by omega
 rcases aaz with rfl|rfl|rfl|rfl|rfl|rfl|rfl|rfl
 all_goals repeat (first |refine aI rfl ?_|refine aQ rfl ?_)
 .refine H4.aL λw5 H5=>H5.aK (ur 7 w5) ?_
  rintro _ w6 rfl H6
  refine ⟨_,_,_,rfl,H6.aK (jF x w6) ?_⟩
  rintro _ w7 rfl H7
  exact ⟨_,rfl,gW H7 (jG 7) _ true (by simp) rfl (λ_=>rfl) (λ_ _=>rfl)⟩
 .have hr:vj ⟨28,kids,n,m,u,tx,st⟩ x y z=(decide (0<=n)&&decide (n<=63)):=rfl
  refine H4.aL λw5 H5=>⟨_,(C H5).c2,H5.aK (ur 8 w5) ?_⟩
  rintro _ w6 rfl H6
  refine ⟨_,_,_,rfl,(C H6).c2,H6.aK (jF x w6) ?_⟩
  rintro _ w7 rfl H7
  refine ⟨_,rfl,(C H7).c2,aN (λg1=>⟨_,(C H7).c2,gW H7 (jG 8) _ _ (by simp) rfl (λ_=>?_) (λ_ _=>rfl)⟩) (λg1=>gW H7 (jG 8) _ _ (by simp) rfl (λ_=>?_) (λ_ h=>by cases h))⟩
  .rw [hr,decide_eq_true (show 0<=n from g1),Bool.true_and]
   exact decide_eq_decide.2 (by show n<64↔n<=63;omega)
  .rw [hr,decide_eq_false (show ¬0<=n from g1)];rfl
 .have e1:IntKind.wrap .i64 (x.n+y.n)=x.n+y.n:=IntWalk.i64_in _ (by omega)
  have fe:iU 29 x y z=(x.k==1&&y.k==1):=rfl
  refine H4.aL λw5 H5=>?_
  rw [e1]
  refine H5.aK (Cs _ w5) ?_
  rintro _ w6 rfl H6
  refine ⟨_,_,_,rfl,H6.aK (jF x w6) ?_⟩
  rintro _ w7 rfl H7
  refine ⟨_,rfl,aJ (λhk=>H7.aK (jF y w7) ?_) (λhk=>?_)⟩
  .rintro _ w8 rfl H8
   refine ⟨_,rfl,gW H8 (nI (x.n+y.n)) _ _ (by simp) ?_ (λ_=>rfl) (λ_ _=>rfl)⟩
   show _=iU 29 x y z
   rw [fe,hk];rfl
  .refine gW H7 (nI (x.n+y.n)) _ _ (by simp) ?_ (λh=>by cases h) (λh _=>by cases h)
   show _=iU 29 x y z
   rw [fe,beq_eq_false_iff_ne.2 hk];rfl
 .have fe:iU 30 x y z=(x.k==1&&decide (y=jG 7)&&decide (z=jG 7)):=rfl
  refine H4.aL λw5 H5=>H5.aK (jF x w5) ?_
  rintro _ w6 rfl H6
  refine ⟨_,rfl,aJ (λhk=>H6.aK (ur 7 w6) ?_) (λhk=>gW H6 x _ true (by simp) ?_ (λ_=>rfl) (λ_ _=>rfl))⟩
  .rintro _ w7 rfl H7
   refine ⟨_,_,_,rfl,oc (a:=y) (b:=jG 7) (λhe=>H7.aK (ur 7 w7) ?_) (λhe=>gW H7 x _ true (by simp) ?_ (λ_=>rfl) (λ_ _=>rfl))⟩
   .rintro _ w8 rfl H8
    refine ⟨_,_,_,rfl,gW H8 x _ true (by simp) ?_ (λ_=>rfl) (λ_ _=>rfl)⟩
    show _=iU 30 x y z
    rw [fe,hk,decide_eq_true he]
    exact od z (jG 7)
   .show _=iU 30 x y z
    rw [fe,decide_eq_false he,Bool.and_false];rfl
  .show _=iU 30 x y z
   rw [fe,beq_eq_false_iff_ne.2 hk];rfl
 .have fe:iU 31 x y z=(x.k==1&&y.k==1):=rfl
  refine H4.aL λw5 H5=>H5.aK (ur 7 w5) ?_
  rintro _ w6 rfl H6
  refine ⟨_,_,_,rfl,H6.aK (jF x w6) ?_⟩
  rintro _ w7 rfl H7
  refine ⟨_,rfl,aJ (λhk=>H7.aK (jF y w7) ?_) (λhk=>?_)⟩
  .rintro _ w8 rfl H8
   refine ⟨_,rfl,gW H8 (jG 7) _ true (by simp) ?_ (λ_=>rfl) (λ_ _=>rfl)⟩
   show _=iU 31 x y z
   rw [fe,hk];rfl
  .refine gW H7 (jG 7) _ true (by simp) ?_ (λ_=>rfl) (λ_ _=>rfl)
   show _=iU 31 x y z
   rw [fe,beq_eq_false_iff_ne.2 hk];rfl
 .have e1:IntKind.wrap .i64 (x.n+z.n)=x.n+z.n:=IntWalk.i64_in _ (by omega)
  have fe:iU 32 x y z=(x.k==1&&y.k==1&&z.k==1):=rfl
  refine H4.aL λw5 H5=>?_
  rw [e1]
  refine H5.aK (Cs _ w5) ?_
  rintro _ w6 rfl H6
  refine ⟨_,_,_,rfl,H6.aK (jF x w6) ?_⟩
  rintro _ w7 rfl H7
  have no:∀{w8:World} {L:List En} {bs GH:List Nat},LH F0 w w8 L [.yW p ⟨⟨32,kids,n,m,u,tx,st⟩,Qx⟩]->(∀b∈bs,En.g b∈L)->iU 32 x y z=false->fE GH Tryz.prog aV #[kA (nI (x.n+z.n)),.bool false,.bool (decide (x.n+z.n<=64))] w8 λr w5=>∃a b c e:Int,r=.returned (.tuple #[.agg #[.i a,.i b,.i c],.i e])/\loc bs w5 λw6=>ui (rB ⟨32,kids,n,m,u,tx,st⟩ x y z) (sL ⟨32,kids,n,m,u,tx,st⟩ x y z) (.returned (.tuple #[.agg #[.i a,.i b,.i c],.i e]))/\bG w w6:=λH8 hb hf=>gW H8 _ _ _ (by simp) hf.symm (λh=>by cases h) (λh _=>by cases h) hb
  refine ⟨_,rfl,aJ (λhk=>H7.aK (jF y w7) ?_) (λhk=>no H7 (by simp) ?_)⟩
  .rintro _ w8 rfl H8
   refine ⟨_,rfl,aJ (λsM=>H8.aK (jF z w8) ?_) (λsM=>no H8 (by simp) ?_)⟩
   .rintro _ w9 rfl H9
    refine ⟨_,rfl,gW H9 (nI (x.n+z.n)) _ _ (by simp) ?_ (λ_=>rfl) (λ_ _=>rfl)⟩
    show _=iU 32 x y z
    rw [fe,hk,sM];rfl
   .rw [fe,beq_eq_false_iff_ne.2 sM,Bool.and_false];rfl
  .rw [fe,beq_eq_false_iff_ne.2 hk];rfl
 .have fe:iU 33 x y z=(x.k==1):=rfl
  have fr:vj ⟨33,kids,n,m,u,tx,st⟩ x y z=true:=rfl
  refine H4.aK (jF x w4) ?_
  rintro _ w5 rfl H5
  refine ⟨_,rfl,eT (λhk=>H5.aL λw6 H6=>⟨⟨x,9,rfl,?_,λh=>?_⟩,H6.fr⟩) (λhk=>⟨tx,(C H5).c5,H5.aK (hN rfl w5) ?_⟩)⟩
  .unfold sL
   rw [show iU (33:Int) x y z=false from hk];rfl
  .unfold sL at h
   rw [show iU (33:Int) x y z=false from hk] at h
   cases h
  .rintro _ w6 rfl H6
   have he:sL ⟨33,kids,n,m,u,tx,st⟩ x y z=if A0 tx=false then 2 else 0:=by
    unfold sL
    rw [show iU (33:Int) x y z=true from hk,fr]
    simp
   refine ⟨_,rfl,eT (λhc=>H6.aL λw7 H7=>⟨⟨x,2,rfl,?_,λh=>?_⟩,H7.fr⟩) (λhc=>H6.aK (ur 1 w6) ?_)⟩
   .rw [he,if_pos hc]
   .rw [he,if_pos hc] at h
    cases h
   .rintro _ w7 rfl H7
    exact ⟨_,_,_,rfl,H7.aL λw8 H8=>⟨⟨jG 1,0,rfl,by rw [he,if_neg (by rw [hc];simp)],λ_=>rfl⟩,H8.fr⟩⟩
 .refine H4.aL λw5 H5=>H5.aK (Cs 1 w5) ?_
  rintro _ w6 rfl H6
  refine ⟨_,_,_,rfl,H6.aK (ur 8 w6) ?_⟩
  rintro _ w7 rfl H7
  exact ⟨_,_,_,rfl,gW H7 (nI 1) _ true (by simp) (od x (jG 8)) (λ_=>rfl) (λ_ _=>rfl)⟩
theorem M0 (u n:Int) (h0:0<=u) (h1:0<=n) (h2:n<64):((Int.fdiv u (2^(min (Int.toNat n) (IntKind.bits .u64)))) !=0)=decide (2^n.toNat<=u):=by
 have e:min (Int.toNat n) (IntKind.bits .u64)=n.toNat:=by show min n.toNat 64=_;omega
 rw [e]
 have hp:(0:Int)<2^n.toNat:=Int.pow_pos (by decide)
 generalize (2:Int)^n.toNat=q at hp
 have hd:=Int.fdiv_eq_ediv_of_nonneg u (by omega:0<=q)
 rw [hd]
 by_cases hq:q<=u
 .rw [decide_eq_true hq]
  have:1<=u / q:=by rw [Int.le_ediv_iff_mul_le hp];omega
  simp only [bne_iff_ne,ne_eq]
  omega
 .rw [decide_eq_false hq]
  rw [Int.ediv_eq_zero_of_lt h0 (by omega)]
  rfl
theorem VN {w:World} {p:Addr} {d:Nd} (g:List Nx) (h:jV w p d) (h1:1<=d.x.op) (h3:d.x.op<=3) (hu:0<=d.x.u):
  Calls Tryz.prog nZ #[.pointer (some p)] w λr w'=>ui (cY g d.x).1 (cY g d.x).2 r/\bG w w':=by
 refine term_sortOfLeaf.cU _ w _ ((Zg h).bF λb2 w1 H1=>?_)
 have C:∀{w5:World} {L:List En},LH F0 w w5 L [.yW p d]->jV w5 p d:=λH=>H.getD 0
 have er:∀(t:iw) (e:Int) (w5:World),e≠0->(cY g d.x)=(o4,e)->LH F0 w w5 [.g b2] [.yW p d]->loc [b2] w5 λw6=>ui (cY g d.x).1 (cY g d.x).2 (.returned (.tuple #[.agg #[.i t.k,.i t.n,.i t.x],.i e]))/\bG w w6:=λt e w5 h0 he H5=>H5.aL λw6 H6=>⟨⟨t,e,rfl,by rw [he],λh=>by rw [he] at h;exact absurd h h0⟩,H6.fr⟩
 have ok:∀(t:iw) (w5:World),(cY g d.x)=(t,0)->LH F0 w w5 [.g b2] [.yW p d]->loc [b2] w5 λw6=>ui (cY g d.x).1 (cY g d.x).2 (.returned (.tuple #[.agg #[.i t.k,.i t.n,.i t.x],.i 0]))/\bG w w6:=λt w5 he H5=>H5.aL λw6 H6=>⟨⟨t,0,rfl,by rw [he],λ_=>by rw [he]⟩,H6.fr⟩
 refine ⟨_,(C H1).c0,aJ (λh2=>?_) (λh2=>?_)⟩
 .refine ⟨_,(C H1).c5,aN (λhs=>⟨_,_,_,(C H1).s0,(C H1).s1,(C H1).s2,er d.x.st 5 w1 (by decide) ?_ H1⟩) (λhs=>⟨_,(C H1).c5,H1.aK (Cs _ w1) ?_⟩)⟩
  .unfold cY;rw [if_pos h2,if_pos (by omega)]
  .rintro _ w2 rfl H2
   refine ⟨_,_,_,rfl,ok (nI d.x.tx.size) w2 ?_ H2⟩
   unfold cY;rw [if_pos h2,if_neg (by omega)]
 have l1:cY g d.x=if bN d.x.st=false then (o4,9) else
   if d.x.op=1/\d.x.st.k≠0\/d.x.op=3/\lD d.x.st=false then (o4,9) else
   if d.x.op=1/\Pm d.x.u d.x.st.n=true then (o4,5) else (d.x.st,0):=by
  unfold cY;rw [if_neg h2,if_neg (λh=>by omega)]
  have:¬(d.x.op=0/\sH g d.x=true):=λh=>by omega
  simp only [this,if_false]
 refine ⟨_,_,_,(C H1).s0,(C H1).s1,(C H1).s2,H1.aK (yz d.x.st w1) ?_⟩
 rintro _ w2 rfl H2
 refine ⟨_,rfl,Ap (λhv=>⟨_,_,_,(C H2).s0,(C H2).s1,(C H2).s2,?_⟩) (λhv=>?_)⟩
 .have:mn d.x.st=9:=by unfold mn;rw [hv];rfl
  rw [this]
  exact er d.x.st 9 w2 (by decide) (by rw [l1,if_pos hv]) H2
 rw [if_neg (by rw [hv];simp)] at l1
 refine ⟨_,(C H2).c0,aJ (λh3=>⟨_,_,_,(C H2).s0,(C H2).s1,(C H2).s2,H2.aK (xU d.x.st w2) ?_⟩) (λKC=>?_)⟩
 .rintro _ w3 rfl H3
  refine ⟨_,rfl,eT (λha=>⟨_,_,_,(C H3).s0,(C H3).s1,(C H3).s2,er d.x.st 9 w3 (by decide) ?_ H3⟩) (λha=>⟨_,_,_,(C H3).s0,(C H3).s1,(C H3).s2,ok d.x.st w3 ?_ H3⟩)⟩
  .rw [l1,if_pos (.inr ⟨h3,ha⟩)]
  .rw [l1,if_neg (by rintro (h|h);omega;rw [ha] at h;cases h.2),if_neg (by rintro ⟨h,_⟩;omega)]
 have h1:d.x.op=1:=by omega
 refine ⟨_,(C H2).s0,dX (λhk=>⟨_,_,_,(C H2).s0,(C H2).s1,(C H2).s2,er d.x.st 9 w2 (by decide) ?_ H2⟩) (λhk=>H2.aL λw3 H3=>?_)⟩
 .rw [l1,if_pos (.inl ⟨h1,hk⟩)]
 rw [if_neg (by rintro (h|h);exact h.2 hk;omega)] at l1
 obtain ⟨v1,v2,_⟩:=rH hv hk
 have S0:cY g d.x=(d.x.st,0)->term_sortOfLeaf.dV p b2 0 0 0 w3 λr w'=>ui (cY g d.x).1 (cY g d.x).2 r/\bG w w':=λhe=>⟨_,_,_,(C H3).s0,(C H3).s1,(C H3).s2,ok d.x.st w3 he H3⟩
 refine ⟨_,(C H3).s1,aN (λGJ=>⟨_,(C H3).c4,_,(C H3).s1,by omega,?_⟩) (λGJ=>S0 ?_)⟩
 .rw [M0 _ _ hu (by omega) GJ]
  refine aN (λhb=>⟨_,_,_,(C H3).s0,(C H3).s1,(C H3).s2,er d.x.st 5 w3 (by decide) ?_ H3⟩) (λhb=>S0 ?_)
  .rw [l1,if_pos ⟨h1,by unfold Pm;rw [decide_eq_true GJ,decide_eq_true hb];rfl⟩]
  .rw [l1,if_neg]
   rintro ⟨_,hh⟩
   unfold Pm at hh
   rw [decide_eq_false hb,Bool.and_false] at hh
   cases hh
 .rw [l1,if_neg]
  rintro ⟨_,hh⟩
  unfold Pm at hh
  rw [decide_eq_false GJ] at hh
  cases hh
def tv (g:List Nx) (t:ByteArray):Ending:=match oG g t with
 |some s=>.returned (.tuple #[kA s,.bool true])
 |none=>.returned (.tuple #[kA o4,.bool false])
theorem YG {w:World} {p:Addr} {d:Nd} {D:List En} (g:List Nx) (lk:Fv) (H:LH F0 w w [] (.yW p d::D)) (hc:fK Tryz.prog lk.n=true) (hl:∀w':World,(∀e∈D,e.P w')->Calls Tryz.prog lk.n (lk.bs++#[.string d.x.tx]++lk.cs) w' λr uh=>r=tv g d.x.tx/\bG w' uh) (h0:d.x.op=0):
  Calls Tryz.prog oE #[.pointer (some p),lk.v] w λr w'=>ui (cY g d.x).1 (cY g d.x).2 r/\bG w w':=by
 have C:∀{w5:World} {L:List En},LH F0 w w5 L (.yW p d::D)->jV w5 p d:=λH=>H.getD 0
 have l1:cY g d.x=if qK (bl d.x.tx)=false then (o4,6) else if bN d.x.st=false then (o4,9) else if sH g d.x=true then (o4,8) else (d.x.st,0):=by
  unfold cY
  rw [if_neg (by omega)]
  simp [h0]
 have fin:∀(e:Int) (w5:World) (L:List En) (i:Nat) (b:Nat) (c0 c1 c2:Value),LH F0 w w5 L (.yW p d::D)->L[i]? =some (.c b [c0,c1,c2] aS)->cY g d.x=(if e=0 then d.x.st else o4,e)->Iw w5 (bD b) (.i d.x.st.k) (.i d.x.st.n) (.i d.x.st.x) λw6=>dN w6 (bD b) λa0 a1 a2=>ui (cY g d.x).1 (cY g d.x).2 (.returned (.tuple #[.agg #[.i a0,.i a1,.i a2],.i e]))/\bG w w6:=by
  intro e w5 L i b c0 c1 c2 H5 hi he
  refine H5.mj i hi λw6 H6=>?_
  have hi6:(L.set i (.c b [Value.i d.x.st.k,.i d.x.st.n,.i d.x.st.x] aS))[i]? =some (.c b [Value.i d.x.st.k,.i d.x.st.n,.i d.x.st.x] aS):=by
   rw [List.getElem?_set_self (ov.1 hi).1]
  refine ⟨_,_,_,H6.ld i 0 hi6,H6.ld i 1 hi6,H6.ld i 2 hi6,⟨d.x.st,e,rfl,by rw [he],λh=>?_⟩,H6.fr⟩
  rw [he] at h ⊢
  rw [if_pos h]
 refine term_sortOfVar.ok p lk w _ (H.nw λw1 _ H1=>⟨_,(C H1).c5,H1.call (OH d.x.tx w1) ?_⟩)
 rintro _ w2 rfl H2
 refine ⟨_,rfl,eT (λhn=>⟨_,_,_,(C H2).s0,(C H2).s1,(C H2).s2,fin 6 w2 _ 0 _ _ _ _ H2 rfl (by rw [l1,if_pos hn];rfl)⟩) (λhn=>⟨_,_,_,(C H2).s0,(C H2).s1,(C H2).s2,H2.call (yz d.x.st w2) ?_⟩)⟩
 rw [if_neg (by rw [hn];simp)] at l1
 rintro _ w3 rfl H3
 refine ⟨_,rfl,Ap (λhv=>⟨_,_,_,(C H3).s0,(C H3).s1,(C H3).s2,?_⟩) (λhv=>⟨_,(C H3).c5,?_⟩)⟩
 .have:mn d.x.st=9:=by unfold mn;rw [hv];rfl
  rw [this]
  exact fin 9 w3 _ 0 _ _ _ _ H3 rfl (by rw [l1,if_pos hv];rfl)
 rw [if_neg (by rw [hv];simp)] at l1
 rw [hc]
 refine (show hU true _ from ?_)
 refine H3.call (hl w3 (λe he=>H3.rd e (lr _ he))) ?_
 rintro _ w4 rfl H4
 have S0:∀(w5:World) (L:List En) (c0 c1 c2:Value),LH F0 w w5 L (.yW p d::D)->L[0]? =some (.c w.heap.size [c0,c1,c2] aS)->sH g d.x=false->term_sortOfVar.S0 p (bD w.heap.size) w5 λr w'=>ui (cY g d.x).1 (cY g d.x).2 r/\bG w w':=λw5 L c0 c1 c2 H5 hi ht=>⟨_,_,_,(C H5).s0,(C H5).s1,(C H5).s2,fin 0 w5 L 0 _ c0 c1 c2 H5 hi (by rw [l1,if_neg (by rw [ht];simp)];rfl)⟩
 unfold sH at l1 S0
 unfold tv
 cases hs:oG g d.x.tx with
 |none=>
  rw [hs] at l1 S0
  refine ⟨o4.k,o4.n,o4.x,false,rfl,H4.nw λw5 _ H5=>H5.mj 1 rfl λw8 H8=>H8.dr λw9 H9=>aI rfl ?_⟩
  exact S0 w9 _ _ _ _ H9 rfl rfl
 |some t=>
  rw [hs] at l1 S0
  refine ⟨t.k,t.n,t.x,true,rfl,H4.nw λw5 _ H5=>H5.mj 1 rfl λw8 H8=>H8.dr λw9 H9=>aQ rfl ⟨_,_,_,H9.ld 1 0,H9.ld 1 1,H9.ld 1 2,_,_,_,(C H9).s0,(C H9).s1,(C H9).s2,Aq (a:=t) (b:=d.x.st) (λie=>⟨_,_,_,(C H9).s0,(C H9).s1,(C H9).s2,fin 8 w9 _ 0 _ _ _ _ H9 rfl ?_⟩) (λheq=>S0 w9 _ _ _ _ H9 rfl ?_)⟩⟩
  .rw [l1,if_pos (by simp [ie])];rfl
  .simp [heq]
def XW:List Int:=[0,0,0,0,1,1,2,2,2,2,2,2,2,2,2,2,2,2,2,3,2,1,1,1,2,3,2,1,1,2,3,2,3,1,1]
abbrev pK:En:=.rd ⟨some (bD 0),35,35⟩ (XW.map eI)
theorem XX {op:Int} (h0:0<=op) (h1:op<=34):XW[op.toNat]? =some (eP op):=by
 rcases xH h0 h1 with rfl|rfl|rfl|rfl|rfl|rfl|rfl|rfl|rfl|rfl|rfl|rfl|rfl|rfl|rfl|rfl|rfl|rfl|rfl|rfl|rfl|rfl|rfl|rfl|rfl|rfl|rfl|rfl|rfl|rfl|rfl|rfl|rfl|rfl|rfl<;>rfl
section
variable {M:Nat->Prop} {w0 w:World} {L D:List En} {bs:List Nat}
theorem _root_.Go.W.LH.Oy (H:LH M w0 w L D) (i a c:Nat) {b:Nat} {vs:List Value} {T:TypeId} {v:Value} {K:World->Prop} (hi:L[i]? =some (.c b vs T)) (hK:∀w',LH M w0 w' (L.set i (.c b (vs.set (a+c) v) T)) D->K w') (hj:a+c<vs.length:=by simp [pY]) (ke:∀b∈bs,En.g b∈L:=by simp):
  bT w (((bD b).add a).add c) v λw1=>kept bs w w1/\K w1:=by
 rw [add_add]
 obtain ⟨x1,x2,x3,x4⟩:=JR (H.ob i hi) (a+c) (by simpa using hj) v
 obtain ⟨_,_,h3⟩:=H.set (v:=v) i (a+c) hi hj
 refine ⟨x1,x2,λb' eG=>?_,hK _ h3⟩
 refine x4.gY b' (H.own _ (ke b' eG)) λe=>?_
 have:=oB H hi (IU w b vs T) (ke b' eG)
 exact this (by rw [e];exact Hg.2 rfl)
theorem _root_.Go.W.LH.Ln (H:LH M w0 w L D) (i a:Nat) {b:Nat} {vs:List Value} {T:TypeId} {v:Value} {K:World->Prop} (hi:L[i]? =some (.c b vs T)) (hK:∀w',LH M w0 w' (L.set i (.c b (vs.set a v) T)) D->K w') (hj:a<vs.length:=by simp [pY]) (ke:∀b∈bs,En.g b∈L:=by simp):
  bT w ((bD b).add a) v λw1=>kept bs w w1/\K w1:=by
 have:=H.Oy (v:=v) (K:=K) i a 0 hi hK hj ke
 rwa [uN] at this
end
theorem Ot {g:List Nx} {n:Nx} (h:(eP n.op==(n.kids.length:Int)&&n.kids.all (iu g)&&okF n)=true) (h4:¬n.op<=3):dI g n=if sL n (kC g n 0) (kC g n 1) (kC g n 2)≠0 then (o4,sL n (kC g n 0) (kC g n 1) (kC g n 2)) else (rB n (kC g n 0) (kC g n 1) (kC g n 2),0):=by
 unfold dI sL
 rw [h,if_neg (by simp),if_neg h4]
 generalize iU n.op (kC g n 0) (kC g n 1) (kC g n 2)=a
 generalize vj n (kC g n 0) (kC g n 1) (kC g n 2)=b
 cases a
 .rfl
 .cases b
  .rfl
  .by_cases hc:n.op=33/\A0 n.tx=false
   .simp [hc]
   .simp [hc]
theorem NG {g:List Nx} {n:Nx} (h:(cY g n).2≠0):cY g n=(o4,(cY g n).2):=by
 unfold cY at h ⊢
 split
 .split
  .rfl
  .rename_i h2 GJ
   rw [if_pos h2,if_neg GJ] at h
   exact absurd rfl h
 .rename_i h2
  rw [if_neg h2] at h
  split
  .rfl
  .rename_i h3
   rw [if_neg h3] at h
   split
   .rfl
   .rename_i h4
    rw [if_neg h4] at h
    split
    .rfl
    .rename_i h5
     rw [if_neg h5] at h
     split
     .rfl
     .rename_i h6
      rw [if_neg h6] at h
      split
      .rfl
      .rename_i h7
       rw [if_neg h7] at h
       exact absurd rfl h
structure LD (d:Nx):Prop where
 kl:d.kids.length<=1000000000
 n:oo d.n
 m:oo d.m
 u:0<=d.u
 tx:d.op=33->GX d.tx
abbrev W2 (a b c:iw):List Value:=pY a++pY b++pY c
def OQ (g:List Nx) (n:Nx) (i j:Nat):iw:=if j<i then kC g n j else o4
theorem NC {g:List Nx} {n:Nx} {j:Nat} (h:n.kids.length<=j):kC g n j=o4:=by
 unfold kC
 rw [List.getElem?_eq_none h]
theorem Qz {l:List Nd} {n:Nx} {i:Nat} {k:Int} {e:Nd} (hk:n.kids[i]? =some k) (he:l[k.toNat]? =some e):kC (xs l) n i=e.x.st:=by
 unfold kC
 rw [hk]
 dsimp only
 rw [sv he]
theorem Qy {g:List Nx} {n:Nx} (hv:∀d∈g,bN d.st=true) (j:Nat):RR (kC g n j):=by
 unfold kC
 split
 .split
  .rename_i hd
   exact Lw (hv _ (cR hd))
  .exact NT
 .exact NT
theorem Gm {w:World} {s:Sl} {l:List Nd} {d:Nd} {D:List En} (lk:Fv) (H:LH F0 w w [] (.gr s l::dG d::pK::D)) (hc:fK Tryz.prog lk.n=true)
  (hl:∀w':World,(∀e∈D,e.P w')->Calls Tryz.prog lk.n (lk.bs++#[.string d.x.tx]++lk.cs) w' λr uh=>r=tv (xs l) d.x.tx/\bG w' uh) (ho:LD d.x) (zJ:l.length<=1000000000) (hv:∀e∈xs l,bN e.st=true):
  Calls Tryz.prog oN #[s.v,d.v,lk.v] w λr w'=>r=kH (dI (xs l) d.x)/\bG w w':=by
 have hn:=oT (cE.1 (H.getD 0))
 have nT:(xs l).length=l.length:=by simp [xs]
 have SB:d.ks.n=d.x.kids.length:=cX.len (H.getD 1)
 have Qh:=ho.kl
 refine term_sortOf.cU s _ _ _ _ _ _ _ _ _ lk w _ (H.nw λw1 _ H1=>H1.bF λb6 w2 H2=>H2.aL λw3 H3=>?_)
 have N:∀{w5:World} {L:List En},LH F0 w w5 (.c w.heap.size d.c aE::L) (.gr s l::dG d::pK::D)->jV w5 (bD w.heap.size) d:=λH=>xE (H.ob 0)
 have H3:LH F0 w w3 [.c w.heap.size d.c aE,.g b6] (.gr s l::dG d::pK::D):=H3
 have fail:(eP d.x.op==(d.x.kids.length:Int)&&d.x.kids.all (iu (xs l))&&okF d.x)=false->∀{w5:World} {L:List En} {bs:List Nat},LH F0 w w5 L (.gr s l::dG d::pK::D)->(∀b∈bs,En.g b∈L)->loc bs w5 λw6=>(λr w'=>r=kH (dI (xs l) d.x)/\bG w w') (.returned (.tuple #[.agg #[.i 0,.i 0,.i 0],.i 1])) w6:=λhf _ _ _ H5 hb=>H5.aL (λw6 H6=>⟨by unfold dI;rw [if_pos hf];rfl,H6.fr⟩) hb
 have kN:∀op:Int,op<0\/34<op->eP op=-1:=λop h=>by unfold eP;rw [if_pos h]
 refine ⟨_,(N H3).c0,aN (λh0=>fail ?_ H3 (by simp)) (λh0=>⟨_,(N H3).c0,aN (λh35=>fail ?_ H3 (by simp)) (λh35=>⟨_,(N H3).c1,_,(N H3).c0,by omega,by show d.x.op<35;omega,eP d.x.op,?_,dX (λie=>fail ?_ H3 (by simp)) (λheq=>?_)⟩)⟩)⟩
 .rw [kN _ (.inl h0),beq_eq_false_iff_ne.2 (by omega)];rfl
 .rw [kN _ (.inr (by omega)),beq_eq_false_iff_ne.2 (by omega)];rfl
 .have hk:cX w3 ⟨some (bD 0),35,35⟩ XW:=H3.getD 2
  exact (show W.aW (some (bD 0)) λp=>w3.cell? (p.add (Int.toNat d.x.op *1))=some (.int .i64 (eP d.x.op)) from hk.cell (XX (by omega) (by omega)) rfl λp _ hc=>hc)
 .rw [beq_eq_false_iff_ne.2 (by omega)];rfl
 have hkc:(eP d.x.op==(d.x.kids.length:Int))=true:=by rw [beq_iff_eq];omega
 have HH:d.x.kids.length<=3:=by
  have:eP d.x.op<=3:=by unfold eP;repeat' split<;>omega
  omega
 refine H3.nw λw4 _ H4=>⟨_,(N H4).c1,?_⟩
 have loop:∀(m i:Nat) (w5:World),i+m=d.x.kids.length->d.x.kids.all (iu (xs l))=(d.x.kids.drop i).all (iu (xs l))->LH F0 w w5 [.c w.heap.size d.c aE,.g b6,.c w3.heap.size (W2 (OQ (xs l) d.x i 0) (OQ (xs l) d.x i 1) (OQ (xs l) d.x i 2)) mU] (.gr s l::dG d::pK::D)->
   term_sortOf.mD s lk (bD w.heap.size) b6 0 0 0 (bD w3.heap.size) ((d.ks.n:Nat):Int) (i:Int) w5 λr w'=>r=kH (dI (xs l) d.x)/\bG w w':=by
  intro m
  induction m with
  |zero=>
   intro i w5 hi hall H5
   rw [sP (by omega)] at hall
   have e0:∀j,OQ (xs l) d.x i j=kC (xs l) d.x j:=λj=>by
    unfold OQ
    split
    .rfl
    .exact (NC (by omega)).symm
   rw [e0,e0,e0] at H5
   refine term_sortOf.dM _ _ _ _ _ _ _ _ _ _ _ _ (aI (decide_eq_false (by omega)) (H5.aK (Gk (N H5)) ?_))
   rintro _ w6 rfl H6
   refine ⟨_,rfl,eT (λhf=>fail (by rw [hf,Bool.and_false]) H6 (by simp)) (λhf=>H6.bF λR9 w7 H7=>?_)⟩
   have Sw:(eP d.x.op==(d.x.kids.length:Int)&&d.x.kids.all (iu (xs l))&&okF d.x)=true:=by rw [hkc,hall,hf];rfl
   have H7:LH F0 w w7 [.c w.heap.size d.c aE,.g b6,.c w3.heap.size (W2 (kC (xs l) d.x 0) (kC (xs l) d.x 1) (kC (xs l) d.x 2)) mU,.g R9] (.gr s l::dG d::pK::D):=H7
   have fin:∀(T:iw) (E:Int) (t:iw) (e:Int) (w8:World),dI (xs l) d.x=(if E≠0 then (o4,E) else (T,0))->e=E->(E=0->t=T)->LH F0 w w8 [.c w.heap.size d.c aE,.g b6,.c w3.heap.size (W2 (kC (xs l) d.x 0) (kC (xs l) d.x 1) (kC (xs l) d.x 2)) mU,.g R9] (.gr s l::dG d::pK::D)->
     loc [b6,R9] w8 λw9=>term_sortOf.ic b6 0 0 0 R9 t.k t.n t.x e w9 λr w'=>r=kH (dI (xs l) d.x)/\bG w w':=by
    intro T E t e w8 hs he ht H8
    subst he
    refine H8.aL λw9 H9=>dX (λie=>H9.aL λpE mJ=>⟨by rw [hs,if_pos ie];rfl,mJ.fr⟩) (λh0=>H9.aL λpE mJ=>⟨?_,mJ.fr⟩)
    rw [hs,if_neg (by omega),ht h0]
   have SU:d.x.op<=3->dI (xs l) d.x=(if (cY (xs l) d.x).2≠0 then (o4,(cY (xs l) d.x).2) else ((cY (xs l) d.x).1,0)):=λh3=>by
    unfold dI
    rw [Sw,if_neg (by simp),if_pos h3]
    split
    .rename_i ie;exact NG ie
    .rename_i heq
     rw [Decidable.not_not] at heq
     rw [<-heq]
   have Fe:=λj=>Qy (n:=d.x) hv j
   refine ⟨_,(N H7).c0,aJ (λho0=>?_) (λho0=>⟨_,(N H7).c0,aN (λY9=>?_) (λY9=>⟨_,(N H7).c0,aN (λXG=>?_) (λXG=>⟨_,(N H7).c0,aN (λXH=>?_) (λXH=>?_)⟩)⟩)⟩)⟩
   .have Hv:LH F0 w7 w7 [] (.yW (bD w.heap.size) d::D):=mu _ (by
     intro e he
     rcases cS.1 he with rfl|he
     .exact N H7
     .exact H7.rd e (lr _ (lr _ (lr _ he))))
    refine H7.aK (YG (xs l) lk Hv hc hl ho0) ?_
    rintro _ w8 ⟨t,e,rfl,he,ht⟩ H8
    exact ⟨_,_,_,_,rfl,fin _ _ t e w8 (SU (by omega)) he ht H8⟩
   .refine H7.aK (VN (xs l) (N H7) (by omega) Y9 ho.u) ?_
    rintro _ w8 ⟨t,e,rfl,he,ht⟩ H8
    exact ⟨_,_,_,_,rfl,fin _ _ t e w8 (SU Y9) he ht H8⟩
   all_goals
    have rest:=Ot Sw (by omega)
    have ld:∀(a c:Nat) (v:Value),(W2 (kC (xs l) d.x 0) (kC (xs l) d.x 1) (kC (xs l) d.x 2))[a+c]? =some v->w7.cell? (((bD w3.heap.size).add a).add c)=some v:=λa c v hv=>by rw [add_add];exact H7.ld 2 (a+c) rfl hv
    refine ⟨by omega,by decide,(kC (xs l) d.x 0).k,(kC (xs l) d.x 0).n,(kC (xs l) d.x 0).x,ld 0 0 _ rfl,ld 0 1 _ rfl,ld 0 2 _ rfl,by omega,by decide,(kC (xs l) d.x 1).k,(kC (xs l) d.x 1).n,(kC (xs l) d.x 1).x,ld 3 0 _ rfl,ld 3 1 _ rfl,ld 3 2 _ rfl,by omega,by decide,(kC (xs l) d.x 2).k,(kC (xs l) d.x 2).n,(kC (xs l) d.x 2).x,ld 6 0 _ rfl,ld 6 1 _ rfl,ld 6 2 _ rfl,?_⟩
   .refine H7.aK (VL (N H7) (by omega) XG (Fe 0) (Fe 1) ho.n ho.m) ?_
    rintro _ w8 ⟨t,e,rfl,he,ht⟩ H8
    exact ⟨_,_,_,_,rfl,fin _ _ t e w8 rest he ht H8⟩
   .refine H7.aK (OF (N H7) (by omega) XH) ?_
    rintro _ w8 ⟨t,e,rfl,he,ht⟩ H8
    exact ⟨_,_,_,_,rfl,fin _ _ t e w8 rest he ht H8⟩
   .refine H7.aK (Lq (N H7) (by omega) (by omega) (Fe 0) (Fe 1) (Fe 2) ho.tx) ?_
    rintro _ w8 ⟨t,e,rfl,he,ht⟩ H8
    exact ⟨_,_,_,_,rfl,fin _ _ t e w8 rest he ht H8⟩
  |succ m ih=>
   intro i w5 hi hall H5
   have hg:d.x.kids[i]? =some (d.x.kids[i]'(by omega)):=g8 (by omega)
   rw [sC (by omega:i<d.x.kids.length),List.all_cons] at hall
   generalize d.x.kids[i]'(by omega)=x at hg hall
   have bad:iu (xs l) x=false->term_sortOf.fB b6 0 0 0 w5 λr w'=>r=kH (dI (xs l) d.x)/\bG w w':=λhx=>fail (by rw [hall,hx];simp) H5 (by simp)
   refine term_sortOf.dM _ _ _ _ _ _ _ _ _ _ _ _ (aQ (decide_eq_true (by omega)) ⟨_,(N H5).c1,by omega,by omega,(show cX w5 d.ks d.x.kids from H5.getD 1).cell hg (by omega) λp hp KG=>⟨x,KG,aN (λh1=>bad ?_) (λh1=>aN (λh2=>bad ?_) (λh2=>?_))⟩⟩)
   .unfold iu;rw [decide_eq_false (by omega)];rfl
   .unfold iu;rw [decide_eq_false (show ¬x<((xs l).length:Int) by rw [nT];omega)];simp
   have A7:l[x.toNat]? =some (l[x.toNat]'(by omega)):=g8 (by omega)
   generalize l[x.toNat]'(by omega)=e at A7
   have sQ:=Qz hg A7
   refine kD (cE.1 (H5.getD 0)) (i:=x.toNat) (by omega) A7 λq hq c=>⟨_,_,_,c.s0,c.s1,c.s2,by omega,by show (i:Int)<3;omega,?_⟩
   have Xn:d.x.kids.all (iu (xs l))=(d.x.kids.drop (i+1)).all (iu (xs l)):=by
    rw [hall]
    unfold iu
    rw [decide_eq_true (show 0<=x by omega),decide_eq_true (show x<((xs l).length:Int) by rw [nT];omega)]
    rfl
   have JY:∀w6,LH F0 w w6 [.c w.heap.size d.c aE,.g b6,.c w3.heap.size (W2 (OQ (xs l) d.x (i+1) 0) (OQ (xs l) d.x (i+1) 1) (OQ (xs l) d.x (i+1) 2)) mU] (.gr s l::dG d::pK::D)->term_sortOf.mD s lk (bD w.heap.size) b6 0 0 0 (bD w3.heap.size) ((d.ks.n:Nat):Int) (IntKind.wrap .i64 ((i:Int)+1)) w6 λr w'=>r=kH (dI (xs l) d.x)/\bG w w':=λw6 H6=>by
    rw [aX _ (by omega)]
    exact ih (i+1) w6 (by omega) Xn H6
   have hi3:i=0\/i=1\/i=2:=by omega
   have up:∀j,OQ (xs l) d.x (i+1) j=if j=i then e.x.st else OQ (xs l) d.x i j:=λj=>by
    unfold OQ
    by_cases hj:j=i
    .rw [if_pos hj,if_pos (by omega),hj,sQ]
    .rw [if_neg hj]
     by_cases Xy:j<i
     .rw [if_pos Xy,if_pos (by omega)]
     .rw [if_neg Xy,if_neg (by omega)]
   rw [up 0,up 1,up 2] at JY
   rcases hi3 with rfl|rfl|rfl
   .exact H5.Ln 2 0 rfl λw6 H6=>H6.Oy 2 0 1 rfl λw7 H7=>H7.Oy 2 0 2 rfl λw8 H8=>JY w8 H8
   .exact H5.Ln 2 3 rfl λw6 H6=>H6.Oy 2 3 1 rfl λw7 H7=>H7.Oy 2 3 2 rfl λw8 H8=>JY w8 H8
   .exact H5.Ln 2 6 rfl λw6 H6=>H6.Oy 2 6 1 rfl λw7 H7=>H7.Oy 2 6 2 rfl λw8 H8=>JY w8 H8
 exact loop d.x.kids.length 0 w4 (by omega) (by simp) H4
theorem OI {w:World} {s:Sl} {l:List Nd} {b:Nat} (t:ByteArray) (h:GP w s l) (hb:w.heap[b]? =some (.cells [s.v].toArray eZ (0,0))) (hl:l.length<=1000000000):
  Calls Tryz.prog mY #[.string t,.pointer (some (bD b))] w λr w'=>r=tv (xs l) t/\bG w w':=by
 have hn:=oT h
 have H:LH F0 w w [] [.gr s l,.c b [s.v] eZ]:=mu _ (by
  intro e he
  simp only [cS,fF,or_false] at he
  rcases he with rfl|rfl
  .exact cE.2 h
  .exact hb)
 have loop:∀(m i:Nat) (b3:Nat) (w1:World),i+m=l.length->oG (xs l) t=oG ((xs l).drop i) t->LH F0 w w1 [.g b3] [.gr s l,.c b [s.v] eZ]->term_SortOf_1.eE t (bD b) b3 0 0 0 ((s.n:Nat):Int) (i:Int) w1 λr w'=>r=tv (xs l) t/\bG w w':=by
  intro m
  induction m with
  |zero=>
   intro i b3 w1 hi he H1
   rw [sP (by simp [xs];omega)] at he
   exact term_SortOf_1.aY _ _ _ _ _ _ _ _ _ _ (aI (decide_eq_false (by omega)) (H1.aL λw2 H2=>⟨by unfold tv;rw [he];rfl,H2.fr⟩))
  |succ m ih=>
   intro i b3 w1 hi he H1
   have hg:l[i]? =some (l[i]'(by omega)):=g8 (by omega)
   have hx:(xs l).drop i=(l[i]'(by omega)).x::(xs l).drop (i+1):=by
    rw [sC (by simp [xs];omega:i<(xs l).length)]
    simp [xs]
   rw [hx] at he
   generalize l[i]'(by omega)=e at hg he
   have jt:oG (xs l) t=if e.x.op=0/\e.x.tx=t then some e.x.st else oG ((xs l).drop (i+1)) t:=he
   have S1:¬(e.x.op=0/\e.x.tx=t)->term_SortOf_1.gm t (bD b) b3 0 0 0 ((s.n:Nat):Int) (i:Int) w1 λr w'=>r=tv (xs l) t/\bG w w':=λie=>by
    show term_SortOf_1.eE t (bD b) b3 0 0 0 ((s.n:Nat):Int) (IntKind.wrap .i64 ((i:Int)+1)) w1 _
    rw [aX _ (by omega)]
    exact ih (i+1) b3 w1 (by omega) (by rw [jt,if_neg ie]) H1
   refine term_SortOf_1.aY _ _ _ _ _ _ _ _ _ _ (aQ (decide_eq_true (by omega)) ⟨s,H1.uA 1 0,kD (cE.1 (H1.getD 0)) rfl hg λp hp c=>⟨_,c.c0,aJ (λh0=>⟨s,H1.uA 1 0,kD (cE.1 (H1.getD 0)) rfl hg λp2 hp2 c2=>⟨_,c2.c5,Is (λht=>⟨s,H1.uA 1 0,kD (cE.1 (H1.getD 0)) rfl hg λp3 hp3 c3=>⟨_,_,_,c3.s0,c3.s1,c3.s2,H1.aL λw2 H2=>⟨?_,H2.fr⟩⟩⟩) (λht=>S1 λh=>ht h.2)⟩⟩) (λh0=>S1 λh=>h0 h.1)⟩⟩)
   unfold tv
   rw [jt,if_pos ⟨h0,ht⟩]
 exact term_SortOf_1.cU t _ w _ (H.bF λb3 w1 H1=>⟨s,H1.uA 1 0,loop l.length 0 b3 w1 (by omega) (by simp) H1⟩)
theorem wK {w:World} {s:Sl} {l:List Nd} {d:Nd} (h:GP w s l) (hd:d.P w) (hk:pK.P w) (ho:LD d.x) (zJ:l.length<=1000000000) (hv:∀e∈xs l,bN e.st=true):
  Calls Tryz.prog kL #[.agg #[s.v],d.v] w λr w'=>r=kH (dI (xs l) d.x)/\bG w w':=by
 have H:LH F0 w w [] [.gr s l,dG d,pK]:=mu _ (by
  intro e he
  simp only [cS,fF,or_false] at he
  rcases he with rfl|rfl|rfl
  .exact cE.2 h
  .exact hd
  .exact hk)
 refine term_SortOf.cU _ _ _ _ _ _ _ _ _ _ w _ (H.nw λw1 _ H1=>H1.bF λb3 w2 H2=>H2.bF λb4 w3 H3=>⟨s,H3.ld 0 0,?_⟩)
 have Hs:LH F0 w3 w3 [] [.gr s l,dG d,pK,.gr s l,.c w.heap.size [s.v] eZ]:=mu _ (by
  intro e he
  simp only [cS,fF,or_false] at he
  rcases he with rfl|rfl|rfl|rfl|rfl
  .exact H3.getD 0
  .exact H3.getD 1
  .exact H3.getD 2
  .exact H3.getD 0
  .exact H3.get 0)
 refine H3.aK (Gm (D:=[.gr s l,.c w.heap.size [s.v] eZ]) ⟨mY,#[],#[.pointer (some (bD w.heap.size))]⟩ Hs (by kernel_rfl) (λw' Bc=>?_) ho zJ hv) ?_
 .exact OI d.x.tx (cE.1 (Bc (.gr s l) (by simp))) (Bc (.c w.heap.size [s.v] eZ) (by simp)) zJ
 .rintro _ w4 rfl H4
  exact ⟨_,_,_,_,rfl,H4.aL λw5 H5=>⟨rfl,H5.fr⟩⟩
theorem Bl {P:Program} {t ty e:TypeId} {z:Value} {sz bytes:Nat} (el:iy P t e z sz bytes) {w:World} (g Uv aaa:Nat) (cur:Array Value) (T:TypeId) {src:Sl} {cs:List Value}
  (hg:w.heap[g]? =some (.cells cur T (0,0))) (hr:jU sz w src cs) (hn:src.n<=Uv) (rT:cs.length<=cur.size) (h1:∀v∈cs,v.oneCell'=true):
  (Builtin.copy_ #[t,t] ty #[.slice (some ⟨g,0,none⟩) Uv aaa,src.v]).run P w=.ok (.int .i64 (src.n:Int)) (w.setRow g (cs++cur.toList.drop cs.length).toArray):=by
 obtain ⟨sa,sn,sc⟩:=src
 obtain ⟨inf,hi,hz,mH,Je⟩:=info_parts el.hi
 simp only at hn
 obtain ⟨hlen,KF,rr,Dh⟩:=hr
 simp only at hlen rr Dh
 have aau:Nat.min sn Uv=sn:=Nat.min_eq_left hn
 have GL:=run_storeCells_at (P:=P) g 0 T cs 0 cur w hg (by simpa using rT) h1
 cases sa with
 |none=>
  obtain ⟨e1,e2⟩:=rr rfl
  subst e1
  have hc:cs=[]:=Wr (by omega)
  subst hc
  have XN:w.setRow g (([]:List Value)++cur.toList.drop 0).toArray=w:=by
   rw [List.nil_append,List.drop_zero,Array.toArray_toList]
   exact setRow_self w g cur T (0,0) hg
  rw [List.length_nil,XN]
  simp [Builtin.copy_,run_underlying el.ht,Builtin.lenOf,Builtin.firstCells,sizeOf,typeInfo,hi,mH,storeCells,goInt]
 |some a=>
  have hl:=run_loadCells_list (P:=P) w a cs (λj v hj=>by
   obtain ⟨p,hp,hc⟩:=Dh j v hj
   cases hp
   exact hc)
  rw [hlen] at hl
  simp only [Nat.zero_add,List.take_zero,List.nil_append] at GL
  simp [Builtin.copy_,run_underlying el.ht,Builtin.lenOf,Builtin.firstCells,sizeOf,typeInfo,hi,mH,aau,hl,GL,goInt]
theorem MS {P:Program} {t ty e:TypeId} {z:Value} {sz bytes:Nat} (el:iy P t e z sz bytes) {w:World} {s src:Sl} {vs cs:List Value} (h:aO w e sz s vs) (ha:s.a≠none) (hr:jU sz w src cs) (hn:src.n<=s.n) (h1:∀v∈cs,v.oneCell'=true):
  ∃w',(Builtin.copy_ #[t,t] ty #[s.v,src.v]).run P w=.ok (.int .i64 (src.n:Int)) w'/\aO w' e sz s (cs++vs.drop cs.length)/\Fr (·∈aZ s) w w':=by
 have hl:=h.len
 have Jf:=hr.1
 rcases h.cases with ⟨rfl,rfl⟩|⟨g,cur,yi,hg,g1,g2,g3,g4⟩
 .exact absurd rfl ha
 .obtain ⟨sa,sn,sc⟩:=s
  simp only at yi hn hl g1 g2 g3 g4
  subst yi
  have e1:src.n *sz<=sn *sz:=Nat.mul_le_mul_right _ hn
  have e2:sn *sz<=sc *sz:=Nat.mul_le_mul_right _ g1
  have rT:cs.length<=cur.size:=by omega
  refine ⟨_,Bl el g sn sc cur e hg hr hn rT h1,?_,?_⟩
  .refine ⟨?_,.inr ⟨g,sc,(cs++cur.toList.drop cs.length).toArray,rfl,Nat.zero_le _,setRow_heap w g cur _ e _ hg,g1,g2,?_,?_⟩⟩
   .simp only [qq,Tg]
    omega
   .simp only [List.size_toArray,qq,Tg,Array.length_toList]
    omega
   .rw [List.take_append,List.take_of_length_le (by omega:cs.length<=sn *sz),List.take_drop,<-g4,List.drop_take]
    congr 2
    rw [show cs.length+(sn *sz - cs.length)=sn *sz by omega,List.drop_take]
  .rw [Cn hg]
   exact (Fr.put w g _).mono λx _ e=>by simp [aZ,e]
section
variable {M:Nat->Prop} {w0 w:World} {L D:List En} {bs:List Nat}
theorem _root_.Go.W.LH.cpk (H:LH M w0 w L D) (i:Nat) {P:Program} {t ty e:TypeId} {z:Value} {sz bytes:Nat} (el:iy P t e z sz bytes) {s src:Sl} {vs cs:List Value} {K:Int->World->Prop} (hi:L[i]? =some (.row e sz s vs)) (ha:s.a≠none) (hr:jU sz w src cs) (hn:src.n<=s.n) (h1:∀v∈cs,v.oneCell'=true)
  (hK:∀w',LH M w0 w' (L.set i (.row e sz s (cs++vs.drop cs.length))) D->K (src.n:Int) w') (ke:∀b∈bs,En.g b∈L:=by simp):
  ∃(k:Int) (w':World),(Builtin.copy_ #[t,t] ty #[s.v,src.v]).run P w=.ok (.i k) w'/\kept bs w w'/\K k w':=by
 obtain ⟨w',r1,r2,r3⟩:=MS (ty:=ty) el (H.get i hi) ha hr hn h1
 exact ⟨_,w',r1,λb hb=>r3.gY b (H.own _ (ke b hb)) λhm=>H.vZ hi (ke b hb) hm,hK w' (H.D2 i (.row e sz s (cs++vs.drop cs.length)) hi r3 r2 (λb hb=>.inl hb))⟩
end
theorem Rm {w:World} {s t:Sl} {a b:List Int} (ha:cX w s a) (hb:cX w t b) (hl:a.length<=1000000000000):Calls Tryz.prog iW #[s.v,t.v] w λr w'=>r=.returned (.bool (decide (a=b)))/\bG w w':=by
 have hn:=cX.len ha
 have hm:=cX.len hb
 refine slices_Equal_sl_int_int.ok s t w _ (dX (λie=>⟨by rw [decide_eq_false];intro e;subst e;omega,Fr.refl _ _⟩) (λheq=>?_))
 have loop:∀(m i:Nat) (w1:World),i+m=a.length->(a=b↔a.drop i=b.drop i)->LH F0 w w1 [] [.rd s (a.map eI),.rd t (b.map eI)]->slices_Equal_sl_int_int.L0 s t ((s.n:Nat):Int) (i:Int) w1 λr w'=>r=.returned (.bool (decide (a=b)))/\bG w w':=by
  intro m
  induction m with
  |zero=>
   intro i w1 hi he H
   rw [sP (by omega),sP (by omega)] at he
   exact slices_Equal_sl_int_int.cC _ _ _ _ _ _ (aI (decide_eq_false (by omega)) ⟨by rw [decide_eq_true (he.2 rfl)],H.fr⟩)
  |succ m ih=>
   intro i w1 hi he H
   have ga:a[i]? =some (a[i]'(by omega)):=g8 (by omega)
   have gb:b[i]? =some (b[i]'(by omega)):=g8 (by omega)
   rw [sC (by omega:i<a.length),sC (by omega:i<b.length),List.cons.injEq] at he
   generalize a[i]'(by omega)=x at ga he
   generalize b[i]'(by omega)=y at gb he
   refine slices_Equal_sl_int_int.cC _ _ _ _ _ _ (aQ (decide_eq_true (by omega)) (H.dr λw2 H2=>⟨by omega,by omega,(show cX w2 s a from H2.getD 0).cell ga (by omega) λp hp hc=>⟨x,hc,by omega,by omega,(show cX w2 t b from H2.getD 1).cell gb (by omega) λq hq hd=>⟨y,hd,dX (λie=>⟨?_,H2.fr⟩) (λUR=>?_)⟩⟩⟩))
   .rw [decide_eq_false]
    intro e
    exact ie (he.1 e).1
   .rw [aX _ (by omega)]
    exact ih (i+1) w2 (by omega) (he.trans ⟨λh=>h.2,λh=>⟨UR,h⟩⟩) H2
 exact loop a.length 0 w (by omega) (by simp) (lh2 (a:=.rd s (a.map eI)) (b:=.rd t (b.map eI)) ha hb)
theorem Rl {w:World} {s:Sl} {l:List Int} (h:cX w s l) (hl:l.length<=1000000000000):Calls Tryz.prog iV #[s.v] w λr w'=>Pd w l r w'/\bG w w':=by
 have hn:=cX.len h
 refine slices_Clone_sl_int_int.ok s w _ (bA (λha=>⟨⟨⟨none,0,0⟩,rfl,?_,λb hb=>by cases hb⟩,Fr.refl _ _⟩) (λha=>?_))
 .have h0:s.a=none:=by simpa using ha
  have:=(h.2.2.1 h0).1
  obtain rfl:l=[]:=Wr (by omega)
  exact aO.nil w bP 1
 .have H:LH F0 w w [] [.rd s (l.map eI)]:=mu _ (by
   intro e he
   simp only [cS,fF,or_false] at he
   subst he
   exact h)
  refine H.iQ (n:=0) (sz:=1) (cs:=[]) rfl (by decide) λw1 H1=>?_
  have hs:cX w1 s l:=H1.getD 0
  refine H1.ap 0 pR (s:=⟨some (bD w.heap.size),0,0⟩) (src:=s) rfl hs.2.2 (by simp;omega) (Fa _) (by show (0+s.n) *8<=_;omega) (λs' w2 H2 _ _=>⟨⟨s',rfl,H2.get 0,λb hb=>(H2.new _ (cR (i:=0) rfl) b hb).resolve_right id⟩,H2.fr⟩)
theorem UK {w:World} {s:Sl} {l:List Nd} (h:GP w s l) {i:Nat} {d:Nd} (hi:l[i]? =some d) {K:Addr->Prop} {X:Int} (hX:X=(i:Int)) (hk:∀p,s.a=some p->jV w (p.add (Int.toNat X *9)) d->K p):(0:Int)<=X/\X<((s.n:Nat):Int)/\aW s.a K:=by
 have hn:=oT h
 have hl:=(ov.1 hi).1
 subst hX
 exact ⟨by omega,by omega,o7.elem (f:=Nd.c) (sz:=9) Nd.yc (by omega) h.1.2.2 hi λp hp hc=>hk p hp hc⟩
theorem IA {w:World} {p q:Addr} {a b:Nd} (ha:jV w p a) (hb:jV w q b) (ka:a.P w) (kb:b.P w) (hl:a.x.kids.length<=1000000000):Calls Tryz.prog pw #[.pointer (some p),.pointer (some q)] w λr w'=>r=.returned (.bool (decide (a.x=b.x)))/\bG w w':=by
 have H:LH F0 w w [] [.yW p a,.yW q b,dG a,dG b]:=mu _ (by
  intro e he
  simp only [cS,fF,or_false] at he
  rcases he with rfl|rfl|rfl|rfl
  .exact ha
  .exact hb
  .exact ka
  .exact kb)
 have A:∀{w5:World} {L:List En},LH F0 w w5 L [.yW p a,.yW q b,dG a,dG b]->jV w5 p a:=λH=>H.getD 0
 have B:∀{w5:World} {L:List En},LH F0 w w5 L [.yW p a,.yW q b,dG a,dG b]->jV w5 q b:=λH=>H.getD 1
 obtain ⟨⟨op,ks,n,m,u,tx,st⟩,sl⟩:=a
 obtain ⟨⟨Vm,Wn,n',m',u',VR,dO⟩,yw⟩:=b
 have no:∀{w1:World},bG w w1->(⟨op,ks,n,m,u,tx,st⟩:Nx)≠⟨Vm,Wn,n',m',u',VR,dO⟩->(Ending.returned (.bool false)=.returned (.bool (decide ((⟨op,ks,n,m,u,tx,st⟩:Nx)=⟨Vm,Wn,n',m',u',VR,dO⟩)))/\bG w w1):=λf h=>⟨by rw [decide_eq_false h],f⟩
 refine term_sameNode.ok p q w _ (H.dr λw1 H1=>⟨op,(A H1).c0,Vm,(B H1).c0,aJ (λh1=>?_) (λh1=>no H1.fr (λh=>h1 (congrArg Nx.op h)))⟩)
 refine ⟨n,(A H1).c2,n',(B H1).c2,aJ (λh2=>?_) (λh2=>no H1.fr (λh=>h2 (congrArg Nx.n h)))⟩
 refine ⟨m,(A H1).c3,m',(B H1).c3,aJ (λh3=>?_) (λh3=>no H1.fr (λh=>h3 (congrArg Nx.m h)))⟩
 refine ⟨u,(A H1).c4,u',(B H1).c4,aJ (λh4=>?_) (λh4=>no H1.fr (λh=>h4 (congrArg Nx.u h)))⟩
 refine ⟨st.k,st.n,st.x,(A H1).s0,(A H1).s1,(A H1).s2,dO.k,dO.n,dO.x,(B H1).s0,(B H1).s1,(B H1).s2,oc (a:=st) (b:=dO) (λh5=>?_) (λh5=>no H1.fr (λh=>h5 (congrArg Nx.st h)))⟩
 refine ⟨sl,(A H1).c1,yw,(B H1).c1,H1.call (Rm (H1.getD 2) (H1.getD 3) (by simp only at hl ⊢;omega)) ?_⟩
 rintro _ w2 rfl H2
 refine ⟨_,rfl,(B H2).c3,(A H2).c3,(B H2).c2,(A H2).c2,(B H2).c0,(A H2).c0,aN (λh6=>⟨tx,(A H2).c5,VR,(B H2).c5,?_,H2.fr⟩) (λh6=>no H2.fr (λh=>h6 (congrArg Nx.kids h)))⟩
 rw [J7]
 simp only at h6
 subst h1 h2 h3 h4 h5 h6
 simp
theorem Gl {w:World} {s:Sl} {l:List Nd} {p:Addr} {d:Nd} (h:GP w s l) (hp:jV w p d) (hd:d.P w) (hl:l.length<=1000000000) (A8:∀e∈l,e.x.kids.length<=1000000000):
  Calls Tryz.prog oM #[.agg #[s.v],.pointer (some p)] w λr w'=>r=.returned (.i (QT (l4 d.x (xs l) 0)))/\bG w w':=by
 have hn:=oT h
 have H:LH F0 w w [] [.gr s l,.yW p d,dG d]:=mu _ (by
  intro e he
  simp only [cS,fF,or_false] at he
  rcases he with rfl|rfl|rfl
  .exact cE.2 h
  .exact hp
  .exact hd)
 have loop:∀(m i:Nat) (b2:Nat) (w1:World),i+m=l.length->l4 d.x ((xs l).drop i) i=l4 d.x (xs l) 0->LH F0 w w1 [.g b2] [.gr s l,.yW p d,dG d]->term_search.eE p b2 s ((s.n:Nat):Int) (i:Int) w1 λr w'=>r=.returned (.i (QT (l4 d.x (xs l) 0)))/\bG w w':=by
  intro m
  induction m with
  |zero=>
   intro i b2 w1 hi he H1
   rw [sP (by simp [xs];omega)] at he
   exact term_search.aY _ _ _ _ _ _ _ (aI (decide_eq_false (by omega)) ⟨by rw [<-he];rfl,H1.fr⟩)
  |succ m ih=>
   intro i b2 w1 hi he H1
   have hg:l[i]? =some (l[i]'(by omega)):=g8 (by omega)
   have hx:(xs l).drop i=(l[i]'(by omega)).x::(xs l).drop (i+1):=by
    rw [sC (by simp [xs];omega:i<(xs l).length)]
    simp [xs]
   rw [hx] at he
   generalize l[i]'(by omega)=a at hg he
   have G1:GP w1 s l:=cE.1 (H1.getD 0)
   refine term_search.aY _ _ _ _ _ _ _ (aQ (decide_eq_true (by omega)) (UK G1 hg rfl λq hq ha=>H1.aK (IA ha (H1.getD 1) (G1.2 a (cR hg)) (H1.getD 2) (A8 a (cR hg))) ?_))
   rintro _ w2 rfl H2
   have jt:(if a.x=d.x then some i else l4 d.x ((xs l).drop (i+1)) (i+1))=l4 d.x (xs l) 0:=he
   refine ⟨_,rfl,aN (λhs=>⟨?_,H2.fr⟩) (λhs=>?_)⟩
   .rw [if_pos hs] at jt
    rw [<-jt];rfl
   .rw [if_neg hs] at jt
    rw [aX _ (by omega)]
    exact ih (i+1) b2 w2 (by omega) jt H2
 exact term_search.cU s p w _ (H.bF λb2 w1 H1=>loop l.length 0 b2 w1 (by omega) (by simp) H1)
section
variable {M:Nat->Prop} {w0 w:World} {L D:List En} {bs:List Nat}
theorem Rn {A Z:List Value} {k j:Nat} {v:Value} (hA:A.length=k):(A++Z).set (k+j) v=A++Z.set j v:=by
 subst hA
 rw [List.set_append,if_neg (by omega)]
 congr 2
 omega
theorem _root_.Go.W.LH.aaL (H:LH M w0 w L D) (i k:Nat) {s:Sl} {A Z:List Value} {p:Addr} {e:Nd} {K:World->Prop} (hi:L[i]? =some (.row aE 9 s (A++Z))) (hp:s.a=some p) (hA:A.length=k *9) (hZ:Z.length=9)
  (hK:∀w',LH M w0 w' (L.set i (.row aE 9 s (A++e.c))) D->K w') (ke:∀b∈bs,En.g b∈L:=by simp):
  bT w (p.add (k *9)) (.i e.x.op) λw1=>kept bs w w1/\bT w1 ((p.add (k *9)).add 1) e.ks.v λw2=>kept bs w1 w2/\bT w2 ((p.add (k *9)).add 2) (.i e.x.n) λw3=>kept bs w2 w3/\bT w3 ((p.add (k *9)).add 3) (.i e.x.m) λw4=>kept bs w3 w4/\bT w4 ((p.add (k *9)).add 4) (.u e.x.u) λw5=>kept bs w4 w5/\
   bT w5 ((p.add (k *9)).add 5) (.string e.x.tx) λw6=>kept bs w5 w6/\bT w6 ((p.add (k *9)).add 6) (.i e.x.st.k) λw7=>kept bs w6 w7/\bT w7 ((p.add (k *9)).add 7) (.i e.x.st.n) λw8=>kept bs w7 w8/\bT w8 ((p.add (k *9)).add 8) (.i e.x.st.x) λw9=>kept bs w8 w9/\K w9:=by
 have Qf:=(ov.1 hi).1
 have tj:∀{vs:List Value} {b:Nat},En.g b∈L->En.g b∈L.set i (.row aE 9 s vs):=by
  intro vs b hb
  obtain ⟨j,hj⟩:=List.mem_iff_getElem?.1 hb
  by_cases yG:i=j
  .subst yG
   rw [hi] at hj
   have e1:En.row aE 9 s (A++Z)=En.g b:=Option.some.inj hj
   exfalso
   have e2:(En.row aE 9 s (A++Z)).P=(En.g b).P:=by rw [e1]
   have f1:(En.row aE 9 s (A++Z)).fp=(En.g b).fp:=by rw [e1]
   have KE:(En.g b).P ({w with heap:=Array.replicate (b+1) (.map #[] 0)}):=by show b<_;simp
   rw [<-e2] at KE
   have hx:b∈aZ s:=by
    show b∈(En.row aE 9 s (A++Z)).fp
    rw [f1];simp [En.g]
   obtain ⟨cs,f,hc⟩:=(aO.row (show aO ({w with heap:=Array.replicate (b+1) (.map #[] 0)}) aE 9 s (A++Z) from KE)).VT b hx
   simp at hc
  .exact cR (i:=j) (by rw [List.getElem?_set_ne yG];exact hj)
 match Z,hZ with
 |[z0,z1,z2,z3,z4,z5,z6,z7,z8],_=>
  have len:∀{vs:List Value},vs.length=9->∀c,c<9->k *9+c<(A++vs).length:=λh c hc=>by rw [qq,hA,h];omega
  have JY:∀{w':World} {L':List En} {vs:List Value} (c:Nat) (v:Value) {K':World->Prop},L'=L.set i (.row aE 9 s (A++vs))->vs.length=9->c<9->LH M w0 w' L' D->(∀uh,LH M w0 uh (L.set i (.row aE 9 s (A++vs.set c v))) D->K' uh)->bT w' ((p.add (k *9)).add c) v λw1=>kept bs w' w1/\K' w1:=by
   rintro w' _ vs c v K' rfl hvs hc H' hk
   refine H'.Cr (bs:=bs) i (k *9) c (by rw [List.getElem?_set_self Qf]) hp (len hvs c hc) (λuh V5=>hk uh ?_) (λb hb=>tj (ke b hb))
   rw [List.set_set,Rn hA] at V5
   exact V5
  have e0:L=L.set i (.row aE 9 s (A++[z0,z1,z2,z3,z4,z5,z6,z7,z8])):=by
   apply List.ext_getElem?
   intro j
   rw [List.getElem?_set]
   split
   .rename_i h;subst h;rw [hi]
   .rfl
  have first:=JY (w':=w) (vs:=[z0,z1,z2,z3,z4,z5,z6,z7,z8]) 0 (.i e.x.op) (K':=λw1=>bT w1 ((p.add (k *9)).add 1) e.ks.v λw2=>kept bs w1 w2/\bT w2 ((p.add (k *9)).add 2) (.i e.x.n) λw3=>kept bs w2 w3/\bT w3 ((p.add (k *9)).add 3) (.i e.x.m) λw4=>kept bs w3 w4/\bT w4 ((p.add (k *9)).add 4) (.u e.x.u) λw5=>kept bs w4 w5/\
   bT w5 ((p.add (k *9)).add 5) (.string e.x.tx) λw6=>kept bs w5 w6/\bT w6 ((p.add (k *9)).add 6) (.i e.x.st.k) λw7=>kept bs w6 w7/\bT w7 ((p.add (k *9)).add 7) (.i e.x.st.n) λw8=>kept bs w7 w8/\bT w8 ((p.add (k *9)).add 8) (.i e.x.st.x) λw9=>kept bs w8 w9/\K w9) e0 rfl (by decide) H (λw1 H1=>?_)
  .rw [uN] at first
   exact first
  refine JY (vs:=[.i e.x.op,z1,z2,z3,z4,z5,z6,z7,z8]) 1 e.ks.v rfl rfl (by decide) H1 λw2 H2=>?_
  refine JY (vs:=[.i e.x.op,e.ks.v,z2,z3,z4,z5,z6,z7,z8]) 2 (.i e.x.n) rfl rfl (by decide) H2 λw3 H3=>?_
  refine JY (vs:=[.i e.x.op,e.ks.v,.i e.x.n,z3,z4,z5,z6,z7,z8]) 3 (.i e.x.m) rfl rfl (by decide) H3 λw4 H4=>?_
  refine JY (vs:=[.i e.x.op,e.ks.v,.i e.x.n,.i e.x.m,z4,z5,z6,z7,z8]) 4 (.u e.x.u) rfl rfl (by decide) H4 λw5 H5=>?_
  refine JY (vs:=[.i e.x.op,e.ks.v,.i e.x.n,.i e.x.m,.u e.x.u,z5,z6,z7,z8]) 5 (.string e.x.tx) rfl rfl (by decide) H5 λw6 H6=>?_
  refine JY (vs:=[.i e.x.op,e.ks.v,.i e.x.n,.i e.x.m,.u e.x.u,.string e.x.tx,z6,z7,z8]) 6 (.i e.x.st.k) rfl rfl (by decide) H6 λw7 H7=>?_
  refine JY (vs:=[.i e.x.op,e.ks.v,.i e.x.n,.i e.x.m,.u e.x.u,.string e.x.tx,.i e.x.st.k,z7,z8]) 7 (.i e.x.st.n) rfl rfl (by decide) H7 λw8 H8=>?_
  refine JY (vs:=[.i e.x.op,e.ks.v,.i e.x.n,.i e.x.m,.u e.x.u,.string e.x.tx,.i e.x.st.k,.i e.x.st.n,z8]) 8 (.i e.x.st.x) rfl rfl (by decide) H8 λw9 H9=>?_
  exact hK w9 H9
end
theorem HU (n:Nat):(madeCells (Value.agg #[.int .i64 0,.slice none 0 0,.int .i64 0,.int .i64 0,.int .u64 0,.string (ByteArray.mk #[]),.int .i64 0,.int .i64 0,.int .i64 0]).cells (n *9)).toList.length=n *9:=by
 simp [madeCells]
theorem OD {w:World} {s:Sl} {l:List Nd} {d:Nd} (h:GP w s l) (hd:d.P w) (hk:pK.P w) (ho:LD d.x) (zJ:l.length<=1000000000) (hv:∀e∈xs l,bN e.st=true) (A8:∀e∈l,e.x.kids.length<=1000000000):
  Calls Tryz.prog qo #[.agg #[s.v],d.v] w λr w'=>(∃s':Sl,r=.returned (.tuple #[.agg #[s'.v],.i (eU (xs l) d.x).2.1,.i (eU (xs l) d.x).2.2])/\GR w (·∈(En.gr s l).fp) (eU (xs l) d.x).1 s' w')/\bG w w':=by
 have hn:=oT h
 have nT:(xs l).length=l.length:=by simp [xs]
 have H:LH F0 w w [] [.gr s l,dG d,pK]:=mu _ (by
  intro e he
  simp only [cS,fF,or_false] at he
  rcases he with rfl|rfl|rfl
  .exact cE.2 h
  .exact hd
  .exact hk)
 refine term_Add.cU _ _ _ _ _ _ _ _ _ _ w _ (H.bF λb2 w1 H1=>H1.nw λw2 _ H2=>H2.bF λb4 w3 H3=>?_)
 have H3:LH F0 w w3 [.g b2,.c w1.heap.size d.c aE,.g b4] [.gr s l,dG d,pK]:=H3
 refine ⟨d.x.op,d.ks,d.x.n,d.x.m,d.x.u,d.x.tx,d.x.st.k,d.x.st.n,d.x.st.x,H3.ld 1 0,H3.ld 1 1,H3.ld 1 2,H3.ld 1 3,H3.ld 1 4,H3.ld 1 5,H3.ld 1 6,H3.ld 1 7,H3.ld 1 8,?_⟩
 refine H3.aK (wK (cE.1 (H3.getD 0)) (H3.getD 1) (H3.getD 2) ho zJ hv) ?_
 rintro _ w4 rfl H4
 refine ⟨_,_,_,_,rfl,H4.bF λb7 w5 H5=>dX (λh0=>H5.aL λw6 H6=>⟨⟨⟨none,0,0⟩,?_,?_⟩,H6.fr⟩) (λh0=>H5.aL λw6 H6=>?_)⟩
 .unfold eU;rw [if_pos h0]
 .unfold eU;rw [if_pos h0];exact GR.nil _ _ _
 have ha:eU (xs l) d.x=match l4 (eM d.x (dI (xs l) d.x).1) (xs l) 0 with
   |some i=>(xs l,(i:Int),0)
   |none=>if 4096<=(xs l).length then ([],0,4) else (xs l++[eM d.x (dI (xs l) d.x).1],((xs l).length:Int),0):=by
  unfold eU;rw [if_neg (by omega)]
  try rfl
 generalize (dI (xs l) d.x).1=sr at *
 refine H6.Ln 1 6 rfl (λw7 H7=>H7.Oy 1 6 1 rfl (λw8 H8=>H8.Oy 1 6 2 rfl (λw9 H9=>?_) (by simp [Nd.c])) (by simp [Nd.c])) (by simp [Nd.c])
 let e:Nd:=⟨eM d.x sr,d.ks⟩
 have H9:LH F0 w w9 [.g b2,.c w1.heap.size e.c aE,.g b4,.g b7] [.gr s l,dG d,pK]:=H9
 refine H9.aK (Gl (d:=e) (cE.1 (H9.getD 0)) (xE (H9.ob 1)) (H9.getD 1) zJ A8) ?_
 rintro _ pE rfl mJ
 refine ⟨_,rfl,?_⟩
 have he:e.x=eM d.x sr:=rfl
 rw [he]
 cases hi:l4 (eM d.x sr) (xs l) 0 with
 |some i=>
  rw [hi] at ha
  rw [ha]
  exact aQ (decide_eq_true (Int.natCast_nonneg i)) (mJ.aL λsj qR=>⟨⟨s,rfl,⟨l,rfl,cE.1 (qR.getD 0),λb hb=>.inl hb⟩⟩,qR.fr⟩)
 |none=>
  rw [hi] at ha
  dsimp only at ha
  refine aI (by decide) (aN (λh4=>mJ.aL λsj qR=>⟨⟨⟨none,0,0⟩,?_,?_⟩,qR.fr⟩) (λh4=>?_))
  .rw [ha,if_pos (by omega)]
  .rw [ha,if_pos (by omega)];exact GR.nil _ _ _
  rw [if_neg (by omega)] at ha
  rw [ha]
  refine ⟨d.ks,mJ.ld 1 1,mJ.ri (Rl (show cX pE d.ks d.x.kids from mJ.getD 1) (by have:=ho.kl;omega)) ?_⟩
  rintro _ sj ⟨ck,rfl,hck,fck⟩ _ F11
  have qR:=F11.rd (.rd ck (d.x.kids.map eI)) (kZ hck) (uE fck)
  refine ⟨_,rfl,qR.Ln 1 1 rfl (λrI qS=>?_) (by simp [Nd.c])⟩
  let e2:Nd:=⟨eM d.x sr,ck⟩
  have qS:LH F0 w rI [.g b2,.c w1.heap.size e2.c aE,.g b4,.g b7] [.gr s l,dG d,pK,dG e2]:=qS
  have e1:IntKind.wrap .i64 (((s.n:Nat):Int)+1)=((l.length+1:Nat):Int):=by rw [IntWalk.i64_in _ (by omega),hn];rfl
  rw [e1]
  obtain ⟨uI,r1,r2,r3⟩:=Ca nO rI (l.length+1) (by omega)
  have uu:=qS.Tc r3 r2 (by intro b hb;simp [aZ] at hb;omega)
  have kp:∀b∈[b2,b4,b7],uI.heap[b]? =rI.heap[b]?:=λb hb=>by
   have hg:En.g b∈[En.g b2,.c w1.heap.size e2.c aE,.g b4,.g b7]:=by
    simp only [cS,fF,or_false] at hb ⊢
    rcases hb with rfl|rfl|rfl<;>simp
   exact r3.gY b (qS.own _ hg) id
  refine ⟨⟨some (bD rI.heap.size),l.length+1,l.length+1⟩,uI,r1,kp,?_⟩
  generalize Dh:(madeCells (Value.agg #[.int .i64 0,.slice none 0 0,.int .i64 0,.int .i64 0,.int .u64 0,.string (ByteArray.mk #[]),.int .i64 0,.int .i64 0,.int .i64 0]).cells ((l.length+1) *9)).toList=AT at uu
  have hold:AT.length=(l.length+1) *9:=by rw [<-Dh];exact HU _
  have hlc:=Nd.iT l
  refine uu.cpk 4 nO rfl (by simp) (show jU 9 uI s (l.flatMap Nd.c) from (cE.1 (uu.getD 0)).1) (by simp only;omega) tA (λD3 vp=>?_)
  have hz:(AT.drop (l.flatMap Nd.c).length).length=9:=by rw [Tg];omega
  generalize AT.drop (l.flatMap Nd.c).length=Z at hz vp
  refine ⟨_,_,_,_,_,_,_,_,_,vp.ld 1 0,vp.ld 1 1,vp.ld 1 2,vp.ld 1 3,vp.ld 1 4,vp.ld 1 5,vp.ld 1 6,vp.ld 1 7,vp.ld 1 8,by omega,by simp only;omega,ub ?_⟩
  rw [hn,Int.toNat_natCast]
  refine vp.aaL (e:=e2) 4 l.length rfl rfl hlc hz (λBm Cz=>?_)
  refine Cz.aL λLx D4=>⟨⟨_,by rw [nT],⟨l++[e2],by simp [xs,e2],⟨?_,λa yi=>?_⟩,λb hb=>?_⟩⟩,D4.fr⟩
  .have:aO Lx aE 9 ⟨some (bD rI.heap.size),l.length+1,l.length+1⟩ (l.flatMap Nd.c++e2.c):=D4.get 4
   have:=this.iD
   simpa using this
  .rcases List.mem_append.1 yi with yi|yi
   .exact (cE.1 (D4.getD 0)).2 a yi
   .simp only [cS,fF,or_false] at yi
    subst yi
    exact D4.getD 3
  .rcases rp.1 hb with hb|⟨a,yi,hb⟩
   .right
    have BU:b∈(En.row aE 9 ⟨some (bD rI.heap.size),l.length+1,l.length+1⟩ (l.flatMap Nd.c++e2.c)).fp:=by
     have:b∈(if (l++[e2]).flatMap Nd.c=[] then [] else aZ ⟨some (bD rI.heap.size),l.length+1,l.length+1⟩):=hb
     split at this
     .cases this
     .exact this
    exact (D4.new _ (cR (i:=4) rfl) b BU).resolve_right id
   .rcases List.mem_append.1 yi with yi|yi
    .exact .inl (rp.2 (.inr ⟨a,yi,hb⟩))
    .simp only [cS,fF,or_false] at yi
     subst yi
     exact .inr (Nat.le_trans mJ.fr.size (uE fck b hb))
end Go.Proofs.YtcifihepfadgfaaGreatDoor
