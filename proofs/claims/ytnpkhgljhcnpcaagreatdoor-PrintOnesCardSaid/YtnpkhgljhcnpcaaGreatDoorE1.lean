import Derived.Test.YtnpkhgljhcnpcaaGreatDoorTP
import Derived.Test.YtnpkhgljhcnpcaaGreatDoorTM
import Derived.Test.YtnpkhgljhcnpcaaGreatDoorVB
import Derived.Test.YtnpkhgljhcnpcaaGreatDoorT1
import Derived.Laws.CopyRow
set_option linter.unusedVariables false
set_option linter.defProp false
namespace Go.Proofs.YtnpkhgljhcnpcaaGreatDoor
open Go renaming World->aA,Calls->aH,Value->aD,TypeId->aP
open Go.IntKind renaming wrap->aC
open Go.IntWalk renaming i64_in->aS
open Go.Proofs.Tryz renaming prog->aB
open _root_.Decidable renaming decide->aR
open Go.Ending renaming returned->aJ
open List renaming getElem?_eq_getElem->ie,mem_cons_of_mem->mG
open Go Go.W
def Bc (g:List Nx):Prop:=∀(i:Nat) (d:Nx),g[i]? =some d->∀k∈d.kids,0<=k/\k<(i:Int)
set_option maxRecDepth 100000
def lh2 {w:aA} {a b:En} (ha:a.P w) (hb:b.P w):LH F0 w w [] [a,b]:=og _ (by
 intro e he
 simp only [List.mem_cons,List.not_mem_nil,or_false] at he
 rcases he with rfl|rfl
 .exact ha
 .exact hb)
def TP:jb aB xI Gy (.bool false) 1 1:=⟨by kernel_rfl,by kernel_rfl,rfl,by decide,by decide⟩
section
variable {M:Nat->Prop} {w0 w:aA} {L D:List En} {bs:List Nat}
def _root_.Go.W.LH.OB (H:LH M w0 w L D) (i j:Nat) {e:aP} {sz:Nat} {s:Sl} {xs:List aD} {v:aD} {p:Addr} {K:aA->Prop} (hi:L[i]? =some (.row e sz s xs)) (hp:s.a=some p) (hj:j<xs.length)
  (hK:∀w',LH M w0 w' (L.set i (.row e sz s (xs.set j v))) D->K w') (kS:∀b∈bs,En.g b∈L:=by simp):cY w (p.add j) v λw1=>kept bs w w1/\K w1:=by
 obtain ⟨q,hq,hqb,x1,x2,x3,x4⟩:=Gc (H.get i hi) j hj v
 rw [hp] at hq
 cases hq
 refine ⟨x1,x2,λb hb=>?_,hK _ (H.CX i (.row e sz s (xs.set j v)) hi x4 x3 (λb hb=>.inl hb))⟩
 exact x4.ic b (H.own _ (kS b hb)) λhm=>H.BS hi (kS b hb) hm
end
def sw {p:Addr} {K:Addr->Prop} (h:K p):W.gT (some p) K:=h
abbrev aal (s:Sl) (l:List Bool):En:=.row Gy 1 s (l.map Value.bool)
set_option maxHeartbeats 1000000
def nl (w:aA) (p:Addr) (d:Nd):Prop:=∀i v,(Nd.c d)[i]? =some v->w.cell? (p.add i)=some v
def nl.st {w w':aA} {p:Addr} {d:Nd} (h:nl w p d) (hk:p.block<w.heap.size->w'.heap[p.block]? =w.heap[p.block]?):nl w' p d:=λi v hi=>by
 have hc:=h i v hi
 have hl:=qW hc
 rw [iu] at hl
 unfold World.cell? at hc ⊢
 rw [iu] at hc ⊢
 rw [hk hl];exact hc
def nl.lt {w:aA} {p:Addr} {d:Nd} (h:nl w p d):p.block<w.heap.size:=by
 have:=qW (h 0 _ rfl)
 rwa [iu] at this
def _root_.Go.W.En.JK (p:Addr) (d:Nd):En:=⟨[p.block],λw=>nl w p d,λw w' h hp=>hp.st (h p.block (by simp)),λw hp b hb=>by simp at hb;subst hb;exact nl.lt hp,by simp⟩
def FV {w:aA} {b:Nat} {d:Nd} {T:aP} (h:w.heap[b]? =some (.cells (Nd.c d).toArray T (0,0))):nl w (bO b) d:=λi v hi=>cellAt (p:=bO b) h rfl (by simpa using hi)
section
variable {w:aA} {p:Addr} {d:Nd} (h:nl w p d)
include h
def nl.c0:w.cell? (p.add 0)=some (.i d.x.op):=h 0 _ rfl
def nl.c1:w.cell? (p.add 1)=some d.ks.v:=h 1 _ rfl
def nl.c2:w.cell? (p.add 2)=some (.i d.x.n):=h 2 _ rfl
def nl.c3:w.cell? (p.add 3)=some (.i d.x.m):=h 3 _ rfl
def nl.c4:w.cell? (p.add 4)=some (.u d.x.u):=h 4 _ rfl
def nl.c5:w.cell? (p.add 5)=some (.string d.x.tx):=h 5 _ rfl
def nl.s0:w.cell? ((p.add 6).add 0)=some (.i d.x.st.k):=by rw [add_add];exact h 6 _ rfl
def nl.s1:w.cell? ((p.add 6).add 1)=some (.i d.x.st.n):=by rw [add_add];exact h 7 _ rfl
def nl.s2:w.cell? ((p.add 6).add 2)=some (.i d.x.st.x):=by rw [add_add];exact h 8 _ rfl
end
def wu (n:Int) (w:aA):aH aB gp #[.i n] w λr w'=>r=aJ (kQ (kP n))/\bW w w':=
 term_bv.dQ _ w _ ((og [] (by simp)).cC λb w1 H1=>H1.bH λw2 H2=>⟨rfl,H2.fr⟩)
def EP (n:Int) (w:aA):aH aB m8 #[.i n] w λr w'=>r=aJ (kQ (oM n))/\bW w w':=
 term_str.dQ _ w _ ((og [] (by simp)).cC λb w1 H1=>H1.bH λw2 H2=>⟨rfl,H2.fr⟩)
def xG (s:iQ) (w:aA):aH aB jY #[kQ s] w λr w'=>r=aJ (.bool (s.k==0))/\bW w w':=
 term_isBV.dQ _ _ _ w _ ((og [] (by simp)).cC λb w1 H1=>⟨rfl,H1.fr⟩)
def ky (s:iQ) (w:aA):aH aB dU #[kQ s] w λr w'=>r=aJ (.bool (s.k==1))/\bW w w':=
 term_isStr.dQ _ _ _ w _ ((og [] (by simp)).cC λb w1 H1=>⟨rfl,H1.fr⟩)
def zQ (s:iQ) (w:aA):aH aB mY #[kQ s] w λr w'=>r=aJ (.bool (mJ s))/\bW w w':=
 term_isArray.dQ _ _ _ w _ ((og [] (by simp)).cC λb w1 H1=>aY (λh=>⟨by unfold mJ;rw [h];rfl,H1.fr⟩) (λh=>⟨by unfold mJ;rw [beq_eq_false_iff_ne.2 h];rfl,H1.fr⟩))
def MX (x y:iQ) (w:aA):aH aB q8 #[kQ x,kQ y] w λr w'=>r=aJ (.bool (aR (x=y)||(x.k==1&&y.k==1)))/\bW w w':=by
 refine term_alike.dQ _ _ _ _ _ _ w _ ((og [] (by simp)).cC λb w1 H1=>H1.cC λb2 w2 H2=>qk (a:=x) (b:=y) (λhe=>⟨by rw [aO he];rfl,H2.fr⟩) (λhe=>H2.bC (ky x w2) ?_))
 rintro _ w3 rfl H3
 rw [aK he,Bool.false_or]
 refine ⟨_,rfl,aY (λhk=>H3.bC (ky y w3) ?_) (λhk=>⟨by rw [beq_eq_false_iff_ne.2 hk];rfl,H3.fr⟩)⟩
 rintro _ w4 rfl H4
 exact ⟨_,rfl,by rw [hk];rfl,H4.fr⟩
def Zm (qw ranges:Bool):Int:=if qw=true then (if ranges=true then 0 else 5) else 9
def Sq (s:iQ) (qw ranges:Bool) (w:aA):aH aB bM #[kQ s,.bool qw,.bool ranges] w λr w'=>r=mw (s,Zm qw ranges)/\bW w w':=by
 refine term_result.dQ _ _ _ _ _ w _ ((og [] (by simp)).cC λb w1 H1=>H1.cC λb2 w2 H2=>fP (λh=>H2.bH λw3 H3=>⟨by rw [h];rfl,H3.fr⟩) (λh=>fP (λh2=>H2.bH λw3 H3=>⟨by rw [h,h2];rfl,H3.fr⟩) (λh2=>H2.bH λw3 H3=>⟨by rw [h,h2];rfl,H3.fr⟩)))
def Ay (s:iQ) (w:aA):aH aB mr #[kQ s] w λr w'=>r=aJ (.int .i64 (nR s))/\bW w w':=by
 refine value_ValidSort.dQ _ _ _ w _ ((og [] (by simp)).cC λb1 w1 H1=>?_)
 have aaI:cI s=true->(Ending.returned (Value.int .i64 0)=aJ (.int .i64 (nR s))/\bW w w1):=λh=>⟨by unfold nR;rw [aN h],H1.fr⟩
 have bad:cI s=false->(Ending.returned (Value.int .i64 9)=aJ (.int .i64 (nR s))/\bW w w1):=λh=>⟨by unfold nR;rw [aI (by simp [h])],H1.fr⟩
 have plain:∀least:Int,(∀h1:least<=s.n,s.n<=64->s.x=0->cI s=true)->(¬(least<=s.n/\s.n<=64/\s.x=0)->cI s=false)->value_ValidSort.eX b1 s.k s.n s.x least 64 false w1 λr w'=>r=aJ (.int .i64 (nR s))/\bW w w':=by
  intro least h1 h2
  exact bA (λh=>bad (h2 (by omega))) (λh=>bA (λh'=>bad (h2 (by omega))) (λh'=>aX rfl (bF rfl (gB (λh3=>bad (h2 (λhh=>h3 hh.2.2))) (λh3=>aaI (h1 (by omega) (by omega) h3))))))
 have array:∀least:Int,(∀h1:least<=s.n,s.n<=64->1<=s.x->s.x<=16->cI s=true)->(¬(least<=s.n/\s.n<=64/\1<=s.x/\s.x<=16)->cI s=false)->value_ValidSort.eX b1 s.k s.n s.x least 64 true w1 λr w'=>r=aJ (.int .i64 (nR s))/\bW w w':=by
  intro least h1 h2
  exact bA (λh=>bad (h2 (by omega))) (λh=>bA (λh'=>bad (h2 (by omega))) (λh'=>bF rfl (bA (λh3=>bad (h2 (by omega))) (λh3=>bA (λh4=>bad (h2 (by omega))) (λh4=>aX rfl (aaI (h1 (by omega) (by omega) (by omega) (by omega))))))))
 refine aY (λh0=>plain 1 (λh1 h2 h3=>?_) (λh=>?_)) (λh0=>aY (λNM=>plain 0 (λh1 h2 h3=>?_) (λh=>?_)) (λNM=>aY (λWh=>array 1 (λh1 h2 h3 h4=>?_) (λh=>?_)) (λWh=>aY (λNN=>array 0 (λh1 h2 h3 h4=>?_) (λh=>?_)) (λNN=>bad ?_))))
 .unfold cI;simp [h0,h1,h2,h3]
 .unfold cI;rw [h0];simp;omega
 .unfold cI;simp [NM,h1,h2,h3]
 .unfold cI;rw [NM];simp;omega
 .unfold cI;simp [Wh,h1,h2,h3,h4]
 .unfold cI;rw [Wh];simp;omega
 .unfold cI;simp [NN,h1,h2,h3,h4]
 .unfold cI;rw [NN];simp;omega
 .unfold cI;simp [h0,NM,Wh,NN]
def ZE {s:ByteArray} {i:Nat} (h:i<s.size):s[i]? =some (gQ (bl s) i):=by
 have h2:i<(bl s).length:=h
 have e:gQ (bl s) i=(bl s)[i]:=by unfold gQ;rw [List.getD_eq_getElem?_getD,ie h2];rfl
 rw [e,getElem?_pos s i h]
 rfl
def So (s:ByteArray) (w:aA):aH aB sN #[.string s] w λr w'=>r=aJ (.bool (qq (bl s)))/\bW w w':=by
 have hl:(bl s).length=s.size:=iH s
 have oJ:∀(c:UInt8) (m:List UInt8),qq (c::m)=(aR (m.length<=15)&&qC c&&m.all m9):=λ_ _=>rfl
 cases hs:bl s with
 |nil=>
  have h0:s.size=0:=by rw [<-hl,hs];rfl
  exact term_isName.ok s w _ (bF (aO (by omega)) ⟨rfl,Fr.refl _ _⟩)
 |cons c m=>
  have hm:s.size=m.length+1:=by rw [<-hl,hs];rfl
  have g0:gQ (bl s) 0=c:=by rw [hs];rfl
  refine term_isName.ok s w _ (aX (aK (by omega)) (bA (λh=>⟨?_,Fr.refl _ _⟩) (λh=>?_)))
  .rw [oJ,aK (by omega)];rfl
  have e0:qq (c::m)=(qC c&&m.all m9):=by rw [oJ,aO (by omega:m.length<=15),Bool.true_and]
  rw [e0]
  have loop:∀(d i:Nat),i+d=s.size->(qC c&&m.all m9)=(if i=0 then (qC c&&m.all m9) else ((bl s).drop i).all m9)->term_isName.L1 s (i:Int) w λr w'=>r=aJ (.bool (qC c&&m.all m9))/\bW w w':=by
   intro d
   induction d with
   |zero=>
    intro i hi he
    rw [List.drop_of_length_le (by omega),aI (by omega)] at he
    exact term_isName.nk _ _ _ _ (aX (aK (by omega)) ⟨by rw [he];rfl,Fr.refl _ _⟩)
   |succ d ih=>
    intro i hi he
    have hg:=ZE (show i<s.size by omega)
    have hx:(bl s).drop i=gQ (bl s) i::(bl s).drop (i+1):=by
     rw [List.drop_eq_getElem_cons (by omega:i<(bl s).length)]
     unfold gQ;rw [List.getD_eq_getElem?_getD,ie (by omega:i<(bl s).length)];rfl
    have go:(if i=0 then qC (gQ (bl s) i) else m9 (gQ (bl s) i))=true->term_isName.S5 s (i:Int) w λr w'=>r=aJ (.bool (qC c&&m.all m9))/\bW w w':=λh=>by
     show term_isName.L1 s (aC .i64 ((i:Int)+1)) w _
     rw [bP _ (by omega)]
     refine ih (i+1) (by omega) ?_
     rw [aI (by omega)]
     by_cases h0:i=0
     .subst h0
      rw [aN rfl,g0] at h
      rw [h,Bool.true_and]
      rw [hs];rfl
     .rw [aI h0] at h he
      rw [he,hx,List.all_cons,h,Bool.true_and]
    have stop:(if i=0 then qC (gQ (bl s) i) else m9 (gQ (bl s) i))=false->term_isName.S4 w λr w'=>r=aJ (.bool (qC c&&m.all m9))/\bW w w':=λh=>by
     refine ⟨?_,Fr.refl _ _⟩
     by_cases h0:i=0
     .subst h0
      rw [aN rfl,g0] at h
      rw [h,Bool.false_and]
     .rw [aI h0] at h he
      rw [he,hx,List.all_cons,h,Bool.false_and]
    generalize gQ (bl s) i=x at hg go stop
    have S3:∀l:Bool,l=qC x->term_isName.S3 s (i:Int) ((x.toNat:Nat):Int) l w λr w'=>r=aJ (.bool (qC c&&m.all m9))/\bW w w':=by
     intro l hl
     refine fP (λhf=>?_) (λht=>go ?_)
     .rw [hf] at hl
      refine aY (λh0=>stop ?_) (λh0=>?_)
      .rw [aN (by omega),<-hl]
      have hn0:i≠0:=by omega
      rw [aI hn0] at go stop
      have nq:m9 x=((aR (48<=x.toNat)&&aR (x.toNat<=57))||x==45):=by unfold m9;rw [<-hl,Bool.false_or]
      refine gB (λWi=>bA (λh1=>stop ?_) (λh1=>bA (λh2=>stop ?_) (λh2=>go ?_))) (λWi=>go ?_)
      .rw [nq,aK (show ¬48<=x.toNat by omega)]
       have:(x==45)=false:=beq_eq_false_iff_ne.2 λe=>Wi (by subst e;rfl)
       rw [this];rfl
      .rw [nq,aK (show ¬x.toNat<=57 by omega),Bool.and_false]
       have:(x==45)=false:=beq_eq_false_iff_ne.2 λe=>Wi (by subst e;rfl)
       rw [this];rfl
      .rw [nq,aO (show 48<=x.toNat by omega),aO (show x.toNat<=57 by omega)];rfl
      .have:x=45:=UInt8.toNat_inj.1 (by have:((45:UInt8).toNat:Int)=45:=rfl;omega)
       rw [nq,this];rfl
     .rw [ht] at hl
      split
      .exact hl.symm
      .unfold m9;rw [<-hl];rfl
    have ht:((i:Int)).toNat=i:=Int.toNat_natCast i
    refine term_isName.nk _ _ _ _ (bF (aO (by omega)) ⟨by omega,x,by rw [ht];exact hg,bA (λh1=>S3 _ ?_) (λh1=>S3 _ ?_)⟩)
    .unfold qC
     rw [aO (show 97<=x.toNat by omega),Bool.true_and]
     exact decide_eq_decide.2 (by omega)
    .unfold qC
     rw [aK (show ¬97<=x.toNat by omega),Bool.false_and]
  exact loop s.size 0 (by omega) (by rw [aN rfl])
def TQ (t:ByteArray):(t.toList==(ByteArray.mk #[]).toList)=aR (t=ba []):=M2 _ _
def Jo {w:aA} {p:Addr} {d:Nd} (h:nl w p d):aH aB p9 #[.pointer (some p)] w λr w'=>r=aJ (.bool (okF d.x))/\bW w w':=by
 have S1:∀a b c e:Bool,term_fieldsFit.S1 p a b c e w λr w'=>r=aJ (.bool ((a||d.x.n==0)&&(b||d.x.m==0)&&(c||d.x.u==0)&&(e||aR (d.x.tx=ba []))))/\bW w w':=by
  intro a b c e
  cases a<;>cases b<;>cases c<;>cases e
  all_goals repeat (first |refine aX rfl ?_|refine bF rfl ?_|refine ⟨_,h.c2,aY (λh2=>?_) (λh2=>⟨by rw [beq_eq_false_iff_ne.2 h2];simp,Fr.refl _ _⟩)⟩|refine ⟨_,h.c3,aY (λh3=>?_) (λh3=>⟨by rw [beq_eq_false_iff_ne.2 h3];simp,Fr.refl _ _⟩)⟩|refine ⟨_,h.c4,aY (λh4=>?_) (λh4=>⟨by rw [beq_eq_false_iff_ne.2 h4];simp,Fr.refl _ _⟩)⟩|refine ⟨_,h.c5,?_,Fr.refl _ _⟩)
  all_goals first |exact ⟨by simp [*],Fr.refl _ _⟩|(rw [TQ];simp [*])
 have fin:∀a b c e:Bool,a=xj d.x.op->b=(d.x.op==21)->c=(d.x.op==1)->e=zm d.x.op->term_fieldsFit.S1 p a b c e w λr w'=>r=aJ (.bool (okF d.x))/\bW w w':=by
  rintro a b c e rfl rfl rfl rfl
  exact S1 _ _ _ _
 have e0:∀k:Int,d.x.op≠k->(d.x.op==k)=false:=λk hk=>beq_eq_false_iff_ne.2 hk
 have S2:∀e:Bool,e=zm d.x.op->term_fieldsFit.S2 p false false false e d.x.op w λr w'=>r=aJ (.bool (okF d.x))/\bW w w':=by
  intro e he
  refine aY (λh1=>fin _ _ _ _ ?_ ?_ ?_ he) (λh1=>aY (λh2=>fin _ _ _ _ ?_ ?_ ?_ he) (λh2=>aY (λh3=>bF (beq_iff_eq.2 h3) (fin _ _ _ _ ?_ ?_ ?_ he)) (λh3=>aY (λh4=>bF (beq_iff_eq.2 h4) (fin _ _ _ _ ?_ ?_ ?_ he)) (λh4=>aY (λh5=>fin _ _ _ _ ?_ ?_ ?_ he) (λh5=>fin _ _ _ _ ?_ ?_ ?_ he)))))
  all_goals first |(rw [‹d.x.op=_›];rfl)|(simp [xj, *])
 refine term_fieldsFit.ok p w _ ⟨_,h.c0,aY (λh0=>bF (beq_iff_eq.2 h0) (fin _ _ _ _ ?_ ?_ ?_ ?_)) (λh0=>aY (λh2=>bF (beq_iff_eq.2 h2) (fin _ _ _ _ ?_ ?_ ?_ ?_)) (λh2=>aY (λh3=>fin _ _ _ _ ?_ ?_ ?_ ?_) (λh3=>S2 _ ?_)))⟩
 all_goals first |(rw [‹d.x.op=_›];rfl)|(unfold zm;simp [*])
def wg (s:iQ) (e:Int) (r:Ending):Prop:=∃(t:iQ) (e':Int),r=mw (t,e')/\e'=e/\(e=0->t=s)
def lhP {w:aA} {p:Addr} {d:Nd} (h:nl w p d):LH F0 w w [] [.JK p d]:=og _ (by
 intro e he
 simp only [List.mem_cons,List.not_mem_nil,or_false] at he
 subst he
 exact h)
def uE (n:Nx) (x y z:iQ):Int:=if jK n.op x y z=false then 9 else if uJ n x y z=false then 5 else if n.op=33/\Dx n.tx=false then 2 else 0
def Vb {n:Nx} {x y z t:iQ} {qw ranges:Bool} (ox:n.op≠33) (h1:qw=jK n.op x y z) (h2:qw=true->ranges=uJ n x y z) (h3:qw=true->ranges=true->t=ti n x y z):wg (ti n x y z) (uE n x y z) (mw (t,Zm qw ranges)):=by
 refine ⟨t,_,rfl,?_,λh=>?_⟩
 .unfold Zm uE
  rw [<-h1]
  cases qw with
  |false=>rfl
  |true=>
   rw [<-h2 rfl]
   cases ranges with
   |false=>rfl
   |true=>simp [ox]
 .unfold uE at h
  rw [<-h1] at h
  cases qw with
  |false=>simp at h
  |true=>
   rw [<-h2 rfl] at h
   cases ranges with
   |false=>simp at h
   |true=>exact h3 rfl rfl
section
variable {M:Nat->Prop} {w0 w:aA} {L D:List En} {bs JE:List Nat}
def iE (H:LH F0 w0 w L D) {n:Nx} {x y z:iQ} (t:iQ) (qw ranges:Bool) (ox:n.op≠33) (h1:qw=jK n.op x y z) (h2:qw=true->ranges=uJ n x y z) (h3:qw=true->ranges=true->t=ti n x y z) (kS:∀b∈bs,En.g b∈L:=by simp):
  fZ JE aB bM #[kQ t,.bool qw,.bool ranges] w λr w5=>∃a b c e:Int,r=aJ (.tuple #[.agg #[.i a,.i b,.i c],.i e])/\loc bs w5 λw6=>wg (ti n x y z) (uE n x y z) (aJ (.tuple #[.agg #[.i a,.i b,.i c],.i e]))/\bW w0 w6:=by
 refine H.bC (Sq t qw ranges w) ?_
 rintro _ w1 rfl H1
 exact ⟨_,_,_,_,rfl,H1.bH (λw2 H2=>⟨Vb ox h1 h2 h3,H2.fr⟩) kS⟩
end
def VT (s:iQ):Prop:=0<=s.n/\s.n<=64
def OM {s:iQ} (h:cI s=true):VT s:=⟨(mB h).1,(mB h).2.1⟩
def Ru:VT ru:=⟨by decide,by decide⟩
def ZH {w:aA} {p:Addr} {d:Nd} {x y z:iQ} (h:nl w p d) (h4:4<=d.x.op) (Z4:d.x.op<=23) (hx:VT x) (hy:VT y) (hn:qS d.x.n) (hm:qS d.x.m):
  aH aB pw #[.pointer (some p),kQ x,kQ y,kQ z] w λr w'=>wg (ti d.x x y z) (uE d.x x y z) r/\bW w w':=by
 refine term_sortOfBits.dQ _ _ _ _ _ _ _ _ _ _ w _ ((lhP h).cC λb5 w1 H1=>H1.cC λb6 w2 H2=>H2.cC λb7 w3 H3=>H3.cC λb8 w4 H4=>?_)
 obtain ⟨⟨op,kids,n,m,u,tx,st⟩,UA⟩:=d
 have C:∀{w5:aA} {L:List En},LH F0 w w5 L [.JK p ⟨⟨op,kids,n,m,u,tx,st⟩,UA⟩]->nl w5 p ⟨⟨op,kids,n,m,u,tx,st⟩,UA⟩:=λH=>H.getD 0
 simp only at h4 Z4 hn hm
 refine ⟨op,(C H4).c0,?_⟩
 obtain ⟨AZ,hx2⟩:=hx
 obtain ⟨YO,WE⟩:=hy
 obtain ⟨GJ,hn2⟩:=hn
 obtain ⟨NU,QT⟩:=hm
 have two:∀(c:Bool),c=true->c=true:=λ_ h=>h
 rcases tZ (by omega) (by omega:op<=34) with rfl|rfl|rfl|rfl|rfl|rfl|rfl|rfl|rfl|rfl|rfl|rfl|rfl|rfl|rfl|rfl|rfl|rfl|rfl|rfl|rfl|rfl|rfl|rfl|rfl|rfl|rfl|rfl|rfl|rfl|rfl|rfl|rfl|rfl|rfl
 iterate 4 omega
 rotate_left 20
 iterate 11 omega
 all_goals repeat (first |refine aX rfl ?_|refine bF rfl ?_)
 iterate 2
  .refine H4.bH λw5 H5=>H5.bC (xG x w5) ?_
   rintro _ w6 rfl H6
   exact ⟨_,rfl,iE H6 x _ true (by simp) rfl (λ_=>rfl) (λ_ _=>rfl)⟩
 iterate 10
  .refine H4.bH λw5 H5=>H5.bC (xG x w5) ?_
   rintro _ w6 rfl H6
   refine ⟨_,rfl,aY (λhk=>?_) (λhk=>?_)⟩
   .refine iE H6 x _ true (by simp) ?_ (λ_=>rfl) (λ_ _=>rfl)
    rw [pD]
    show _=(x.k==0&&aR (x=y))
    rw [hk];rfl
   .refine iE H6 x _ true (by simp) ?_ (λ_=>rfl) (λ_ _=>rfl)
    show _=(x.k==0&&aR (x=y))
    rw [beq_eq_false_iff_ne.2 hk];rfl
 iterate 2
  .refine H4.bH λw5 H5=>H5.bC (wu 1 w5) ?_
   rintro _ w6 rfl H6
   refine ⟨_,_,_,rfl,H6.bC (xG x w6) ?_⟩
   rintro _ w7 rfl H7
   refine ⟨_,rfl,aY (λhk=>?_) (λhk=>?_)⟩
   .refine iE H7 (kP 1) _ true (by simp) ?_ (λ_=>rfl) (λ_ _=>rfl)
    rw [pD]
    show _=(x.k==0&&aR (x=y))
    rw [hk];rfl
   .refine iE H7 (kP 1) _ true (by simp) ?_ (λ_=>rfl) (λ_ _=>rfl)
    show _=(x.k==0&&aR (x=y))
    rw [beq_eq_false_iff_ne.2 hk];rfl
 .refine H4.bH λw5 H5=>H5.bC (wu 1 w5) ?_
  rintro _ w6 rfl H6
  refine ⟨_,_,_,rfl,H6.bC (MX x y w6) ?_⟩
  rintro _ w7 rfl H7
  exact ⟨_,rfl,iE H7 (kP 1) _ true (by simp) rfl (λ_=>rfl) (λ_ _=>rfl)⟩
 .refine H4.cC λqU w5 H5=>H5.bH λw6 H6=>H6.bC (ky y w6) ?_
  rintro _ w7 rfl H7
  have S4:∀(t:iQ) (w8:aA),((aR (y=z)||(y.k==1&&z.k==1))=true->t=if y.k=1 then oM (if y.n<z.n then z.n else y.n) else y)->LH F0 w w8 [.g b5,.g b6,.g b7,.g b8,.g qU] [.JK p ⟨⟨19,kids,n,m,u,tx,st⟩,UA⟩]->term_sortOfBits.rm b5 x.k x.n x.x b6 y.k y.n y.x b7 z.k z.n z.x b8 0 0 0 qU t.k t.n t.x w8 λr w'=>wg (ti ⟨19,kids,n,m,u,tx,st⟩ x y z) (uE ⟨19,kids,n,m,u,tx,st⟩ x y z) r/\bW w w':=by
   intro t w8 ht H8
   refine H8.bH λw9 H9=>H9.bC (wu 1 w9) ?_
   rintro _ tB rfl qe
   have fe:jK 19 x y z=(aR (x=kP 1)&&(aR (y=z)||(y.k==1&&z.k==1))):=rfl
   refine ⟨_,_,_,rfl,qk (a:=x) (b:=kP 1) (λhe=>qe.bC (MX y z tB) ?_) (λhe=>?_)⟩
   .rintro _ yY rfl y8
    refine ⟨_,rfl,iE y8 t _ true (by simp) ?_ (λ_=>rfl) (λh _=>ht h)⟩
    show _=jK 19 x y z
    rw [fe,aO he];rfl
   .refine iE qe t _ true (by simp) ?_ (λ_=>rfl) (λh _=>by cases h)
    show _=jK 19 x y z
    rw [fe,aK he];rfl
  have yes:∀t:iQ,y.k=1->z.k=1->t=oM (if y.n<z.n then z.n else y.n)->((aR (y=z)||(y.k==1&&z.k==1))=true->t=if y.k=1 then oM (if y.n<z.n then z.n else y.n) else y):=λt h1 _ h3 _=>by rw [aN h1,h3]
  refine ⟨_,rfl,aY (λhk=>H7.bC (ky z w7) ?_) (λhk=>S4 y w7 (λ_=>by rw [aI hk]) H7)⟩
  rintro _ w8 rfl H8
  refine ⟨_,rfl,aY (λtN=>H8.bC (EP _ w8) ?_) (λtN=>S4 y w8 (λhf=>?_) H8)⟩
  .rintro _ w9 rfl H9
   exact ⟨_,_,_,rfl,H9.bH λtB qe=>S4 (oM (if y.n<z.n then z.n else y.n)) tB (yes _ hk tN rfl) qe⟩
  .rw [beq_eq_false_iff_ne.2 tN,Bool.and_false,Bool.or_false] at hf
   have:=of_decide_eq_true hf
   exact absurd (by rw [<-this];exact hk) tN
 .have e1:aC .i64 (x.n+y.n)=x.n+y.n:=aS _ (by omega)
  have fe:jK 20 x y z=(x.k==0&&y.k==0):=rfl
  refine H4.bH λw5 H5=>?_
  rw [e1]
  refine H5.bC (wu _ w5) ?_
  rintro _ w6 rfl H6
  refine ⟨_,_,_,rfl,H6.bC (xG x w6) ?_⟩
  rintro _ w7 rfl H7
  refine ⟨_,rfl,aY (λhk=>H7.bC (xG y w7) ?_) (λhk=>?_)⟩
  .rintro _ w8 rfl H8
   refine ⟨_,rfl,iE H8 (kP (x.n+y.n)) _ _ (by simp) ?_ (λ_=>rfl) (λ_ _=>rfl)⟩
   show _=jK 20 x y z
   rw [fe,hk];rfl
  .refine iE H7 (kP (x.n+y.n)) _ _ (by simp) ?_ (λh=>by cases h) (λh _=>by cases h)
   show _=jK 20 x y z
   rw [fe,beq_eq_false_iff_ne.2 hk];rfl
 .have hr:uJ ⟨21,kids,n,m,u,tx,st⟩ x y z=(aR (0<=m)&&aR (m<=n)&&aR (n<x.n)):=rfl
  refine H4.bH λw5 H5=>⟨_,(C H5).c2,_,(C H5).c3,_,(C H5).c3,H5.bC (wu _ w5) ?_⟩
  rintro _ w6 rfl H6
  refine ⟨_,_,_,rfl,(C H6).c3,H6.bC (xG x w6) ?_⟩
  rintro _ w7 rfl H7
  refine ⟨_,rfl,(C H7).c3,bA (λg1=>⟨_,(C H7).c3,_,(C H7).c2,bA (λg2=>⟨_,(C H7).c2,iE H7 (kP _) _ _ (by simp) rfl (λ_=>?_) (λ_ g3=>?_)⟩) (λg2=>iE H7 (kP _) _ _ (by simp) rfl (λ_=>?_) (λ_ h=>by cases h))⟩) (λg1=>iE H7 (kP _) _ _ (by simp) rfl (λ_=>?_) (λ_ h=>by cases h))⟩
  .rw [hr,aO (show 0<=m from g1),aO (show m<=n from g2)];rfl
  .have g1:0<=m:=g1
   have g2:m<=n:=g2
   have g3:n<x.n:=of_decide_eq_true g3
   show kP (aC .i64 (aC .i64 (n - m)+1))=kP (n - m+1)
   rw [aS (n - m) (by omega),aS _ (by omega)]
  .rw [hr,aK (show ¬m<=n from g2),Bool.and_false];rfl
  .rw [hr,aK (show ¬0<=m from g1)];rfl
 iterate 2
  .have e64:aC .i64 (64 - x.n)=64 - x.n:=aS _ (by omega)
   refine H4.bH λw5 H5=>⟨_,(C H5).c2,_,(C H5).c2,H5.bC (wu _ w5) ?_⟩
   rintro _ w6 rfl H6
   refine ⟨_,_,_,rfl,(C H6).c2,H6.bC (xG x w6) ?_⟩
   rintro _ w7 rfl H7
   refine ⟨_,rfl,(C H7).c2,bA (λg1=>⟨_,(C H7).c2,iE H7 (kP _) _ _ (by simp) rfl (λ_=>?_) (λ_ g3=>?_)⟩) (λg1=>iE H7 (kP _) _ _ (by simp) rfl (λ_=>?_) (λ_ h=>by cases h))⟩
   .show _=(aR (1<=n)&&aR (n<=64 - x.n))
    rw [e64,aO (show 1<=n from g1)];rfl
   .have g1:1<=n:=g1
    rw [e64] at g3
    have g3:n<=64 - x.n:=of_decide_eq_true g3
    show kP (aC .i64 (x.n+n))=kP (x.n+n)
    rw [aS _ (by omega)]
   .show _=(aR (1<=n)&&aR (n<=64 - x.n))
    rw [aK (show ¬1<=n from g1)];rfl
def OE {x y z:iQ} (ha:mJ x=true):jK 25 x y z=(aR (y=kP x.x)&&(if x.k=3 then z.k==1&&aR (z.n<=x.n) else aR (z=o9 x))):=by
 show (mJ x&&aR (y=kP x.x)&&(aR (z=o9 x)||(x.k==3&&z.k==1&&aR (z.n<=x.n))))=_
 rw [ha,Bool.true_and]
 congr 1
 by_cases h3:x.k=3
 .rw [aN h3,h3]
  have he:o9 x=oM x.n:=by unfold o9;rw [aI (by omega)]
  rw [he]
  by_cases hz:z=oM x.n
  .subst hz
   simp [oM]
  .rw [aK hz];rfl
 .rw [aI h3,beq_eq_false_iff_ne.2 h3]
  simp
def Sm {w:aA} {p:Addr} {d:Nd} {x y z:iQ} (h:nl w p d) (h4:24<=d.x.op) (h26:d.x.op<=26):
  aH aB nX #[.pointer (some p),kQ x,kQ y,kQ z] w λr w'=>wg (ti d.x x y z) (uE d.x x y z) r/\bW w w':=by
 refine term_sortOfArrays.dQ _ _ _ _ _ _ _ _ _ _ w _ ((lhP h).cC λb5 w1 H1=>H1.cC λb6 w2 H2=>H2.cC λb7 w3 H3=>H3.cC λb8 w4 H4=>?_)
 have C:∀{w5:aA} {L:List En},LH F0 w w5 L [.JK p d]->nl w5 p d:=λH=>H.getD 0
 refine ⟨_,(C H4).c0,aY (λho=>H4.bH λw5 H5=>H5.bC (wu x.x w5) ?_) (λho=>H4.bC (wu x.n w4) ?_)⟩
 .rintro _ w6 rfl H6
  refine ⟨_,_,_,rfl,H6.bC (zQ x w6) ?_⟩
  rintro _ w7 rfl H7
  have fe:jK d.x.op x y z=(mJ x&&aR (x=y)):=by rw [ho];rfl
  have fr:uJ d.x x y z=true:=by unfold uJ;rw [ho];rfl
  have fs:ti d.x x y z=kP x.x:=by unfold ti;rw [ho];rfl
  refine ⟨_,rfl,bR (λhk=>?_) (λhk=>?_)⟩
  .refine iE H7 (kP x.x) _ true (by omega) ?_ (λ_=>fr.symm) (λ_ _=>fs.symm)
   rw [fe,pD,hk];rfl
  .refine iE H7 (kP x.x) _ true (by omega) ?_ (λ_=>fr.symm) (λ_ _=>fs.symm)
   rw [fe,hk];rfl
 rintro _ w6 rfl H6
 have fr:uJ d.x x y z=true:=by unfold uJ;rw [aI (by omega),aI (by omega),aI (by omega),aI (by omega),aI (by omega)]
 have S1:∀(t:iQ) (qU:Nat) (f:Bool) (w7:aA),f=(mJ x&&aR (y=kP x.x))->(mJ x=true->t=o9 x)->LH F0 w w7 [.g b5,.g b6,.g b7,.g b8,.g qU] [.JK p d]->term_sortOfArrays.gW p b5 x.k x.n x.x b7 z.k z.n z.x b8 0 0 0 qU t.k t.n t.x f w7 λr w'=>wg (ti d.x x y z) (uE d.x x y z) r/\bW w w':=by
  intro t qU f w7 hf ht H7
  refine ⟨_,(C H7).c0,aY (λh24=>?_) (λh24=>?_)⟩
  .refine iE H7 t f true (by omega) ?_ (λ_=>fr.symm) (λhh _=>?_)
   .rw [hf,h24];rfl
   .rw [hf] at hh
    simp only [Bool.and_eq_true] at hh
    rw [ht hh.1]
    unfold ti;rw [h24];rfl
  have Z5:d.x.op=25:=by omega
  have fs:ti d.x x y z=x:=by unfold ti;rw [Z5];rfl
  have ff:f=false->jK d.x.op x y z=false:=λh=>by
   rw [Z5]
   show (mJ x&&aR (y=kP x.x)&&(aR (z=o9 x)||(x.k==3&&z.k==1&&aR (z.n<=x.n))))=_
   rw [<-hf,h];rfl
  have ft:f=true->mJ x=true/\jK d.x.op x y z=(if x.k=3 then z.k==1&&aR (z.n<=x.n) else aR (z=o9 x)):=λh=>by
   rw [h] at hf
   have hf:=hf.symm
   simp only [Bool.and_eq_true] at hf
   refine ⟨hf.1,?_⟩
   rw [Z5,OE hf.1,hf.2,Bool.true_and]
  refine aY (λhk=>bR (λUd=>H7.bH λw8 H8=>H8.bC (ky z w8) ?_) (λhff=>H7.bH λw8 H8=>iE H8 x _ true (by omega) (ff hff).symm (λ_=>fr.symm) (λ_ _=>fs.symm))) (λhk=>bR (λUd=>H7.bH λw8 H8=>iE H8 x _ true (by omega) ?_ (λ_=>fr.symm) (λ_ _=>fs.symm)) (λhff=>H7.bH λw8 H8=>iE H8 x _ true (by omega) (ff hff).symm (λ_=>fr.symm) (λ_ _=>fs.symm)))
  .rintro _ w9 rfl H9
   have:=(ft Ud).2
   rw [aN hk] at this
   refine ⟨_,rfl,aY (λhz=>iE H9 x _ true (by omega) ?_ (λ_=>fr.symm) (λ_ _=>fs.symm)) (λhz=>iE H9 x _ true (by omega) ?_ (λ_=>fr.symm) (λ_ _=>fs.symm))⟩
   .rw [this,hz];rfl
   .rw [this,beq_eq_false_iff_ne.2 hz];rfl
  .have h2:=ft Ud
   rw [aI hk] at h2
   rw [h2.2,pD,ht h2.1]
 have S0:∀(t:iQ) (qU:Nat) (w7:aA),(mJ x=true->t=o9 x)->LH F0 w w7 [.g b5,.g b6,.g b7,.g b8,.g qU] [.JK p d]->term_sortOfArrays.eX p b5 x.k x.n x.x b6 y.k y.n y.x b7 z.k z.n z.x b8 0 0 0 qU t.k t.n t.x w7 λr w'=>wg (ti d.x x y z) (uE d.x x y z) r/\bW w w':=by
  intro t qU w7 ht H7
  refine H7.bH λw8 H8=>H8.bC (zQ x w8) ?_
  rintro _ w9 rfl H9
  refine ⟨_,rfl,bR (λhk=>H9.bC (wu x.x w9) ?_) (λhk=>S1 t qU false w9 (by rw [hk];rfl) ht H9)⟩
  rintro _ tB rfl qe
  exact ⟨_,_,_,rfl,S1 t qU _ tB (by rw [hk];exact pD y (kP x.x)) ht qe⟩
 refine ⟨_,_,_,rfl,H6.cC λqU w7 H7=>aY (λhk=>H7.bH λw8 H8=>H8.bC (EP x.n w8) ?_) (λhk=>H7.bH λw8 H8=>S0 (kP x.n) qU w8 (λha=>?_) H8)⟩
 .rintro _ w9 rfl H9
  exact ⟨_,_,_,rfl,H9.bH λtB qe=>S0 (oM x.n) qU tB (λ_=>by unfold o9;rw [aI (by omega)]) qe⟩
 .unfold mJ at ha
  simp only [Bool.or_eq_true,beq_iff_eq] at ha
  unfold o9
  rw [aN (by omega)]
def JW (t:ByteArray):Prop:=∀w,aH aB oz #[.string t] w λr w'=>r=aJ (.bool (Dx t))/\bW w w'
def OH {w:aA} {p:Addr} {d:Nd} {x y z:iQ} (h:nl w p d) (h27:27<=d.x.op) (L6:d.x.op<=34) (hx:VT x) (hy:VT y) (hz:VT z) (hN:d.x.op=33->JW d.x.tx):
  aH aB mZ #[.pointer (some p),kQ x,kQ y,kQ z] w λr w'=>wg (ti d.x x y z) (uE d.x x y z) r/\bW w w':=by
 refine term_sortOfStrings.dQ _ _ _ _ _ _ _ _ _ _ w _ ((lhP h).cC λb5 w1 H1=>H1.cC λb6 w2 H2=>H2.cC λb7 w3 H3=>H3.cC λb8 w4 H4=>?_)
 obtain ⟨⟨op,kids,n,m,u,tx,st⟩,UA⟩:=d
 have C:∀{w5:aA} {L:List En},LH F0 w w5 L [.JK p ⟨⟨op,kids,n,m,u,tx,st⟩,UA⟩]->nl w5 p ⟨⟨op,kids,n,m,u,tx,st⟩,UA⟩:=λH=>H.getD 0
 simp only at h27 L6 hN
 refine ⟨op,(C H4).c0,?_⟩
 obtain ⟨AZ,hx2⟩:=hx
 obtain ⟨YO,WE⟩:=hy
 obtain ⟨QV,QW⟩:=hz
 have acJ:op=27\/op=28\/op=29\/op=30\/op=31\/op=32\/op=33\/op=34:=by omega
 rcases acJ with rfl|rfl|rfl|rfl|rfl|rfl|rfl|rfl
 all_goals repeat (first |refine aX rfl ?_|refine bF rfl ?_)
 .refine H4.bH λw5 H5=>H5.bC (wu 7 w5) ?_
  rintro _ w6 rfl H6
  refine ⟨_,_,_,rfl,H6.bC (ky x w6) ?_⟩
  rintro _ w7 rfl H7
  exact ⟨_,rfl,iE H7 (kP 7) _ true (by simp) rfl (λ_=>rfl) (λ_ _=>rfl)⟩
 .have hr:uJ ⟨28,kids,n,m,u,tx,st⟩ x y z=(aR (0<=n)&&aR (n<=63)):=rfl
  refine H4.bH λw5 H5=>⟨_,(C H5).c2,H5.bC (wu 8 w5) ?_⟩
  rintro _ w6 rfl H6
  refine ⟨_,_,_,rfl,(C H6).c2,H6.bC (ky x w6) ?_⟩
  rintro _ w7 rfl H7
  refine ⟨_,rfl,(C H7).c2,bA (λg1=>⟨_,(C H7).c2,iE H7 (kP 8) _ _ (by simp) rfl (λ_=>?_) (λ_ _=>rfl)⟩) (λg1=>iE H7 (kP 8) _ _ (by simp) rfl (λ_=>?_) (λ_ h=>by cases h))⟩
  .rw [hr,aO (show 0<=n from g1),Bool.true_and]
   exact decide_eq_decide.2 (by show n<64↔n<=63;omega)
  .rw [hr,aK (show ¬0<=n from g1)];rfl
 .have e1:aC .i64 (x.n+y.n)=x.n+y.n:=aS _ (by omega)
  have fe:jK 29 x y z=(x.k==1&&y.k==1):=rfl
  refine H4.bH λw5 H5=>?_
  rw [e1]
  refine H5.bC (EP _ w5) ?_
  rintro _ w6 rfl H6
  refine ⟨_,_,_,rfl,H6.bC (ky x w6) ?_⟩
  rintro _ w7 rfl H7
  refine ⟨_,rfl,aY (λhk=>H7.bC (ky y w7) ?_) (λhk=>?_)⟩
  .rintro _ w8 rfl H8
   refine ⟨_,rfl,iE H8 (oM (x.n+y.n)) _ _ (by simp) ?_ (λ_=>rfl) (λ_ _=>rfl)⟩
   show _=jK 29 x y z
   rw [fe,hk];rfl
  .refine iE H7 (oM (x.n+y.n)) _ _ (by simp) ?_ (λh=>by cases h) (λh _=>by cases h)
   show _=jK 29 x y z
   rw [fe,beq_eq_false_iff_ne.2 hk];rfl
 .have fe:jK 30 x y z=(x.k==1&&aR (y=kP 7)&&aR (z=kP 7)):=rfl
  refine H4.bH λw5 H5=>H5.bC (ky x w5) ?_
  rintro _ w6 rfl H6
  refine ⟨_,rfl,aY (λhk=>H6.bC (wu 7 w6) ?_) (λhk=>iE H6 x _ true (by simp) ?_ (λ_=>rfl) (λ_ _=>rfl))⟩
  .rintro _ w7 rfl H7
   refine ⟨_,_,_,rfl,qk (a:=y) (b:=kP 7) (λhe=>H7.bC (wu 7 w7) ?_) (λhe=>iE H7 x _ true (by simp) ?_ (λ_=>rfl) (λ_ _=>rfl))⟩
   .rintro _ w8 rfl H8
    refine ⟨_,_,_,rfl,iE H8 x _ true (by simp) ?_ (λ_=>rfl) (λ_ _=>rfl)⟩
    show _=jK 30 x y z
    rw [fe,hk,aO he]
    exact pD z (kP 7)
   .show _=jK 30 x y z
    rw [fe,aK he,Bool.and_false];rfl
  .show _=jK 30 x y z
   rw [fe,beq_eq_false_iff_ne.2 hk];rfl
 .have fe:jK 31 x y z=(x.k==1&&y.k==1):=rfl
  refine H4.bH λw5 H5=>H5.bC (wu 7 w5) ?_
  rintro _ w6 rfl H6
  refine ⟨_,_,_,rfl,H6.bC (ky x w6) ?_⟩
  rintro _ w7 rfl H7
  refine ⟨_,rfl,aY (λhk=>H7.bC (ky y w7) ?_) (λhk=>?_)⟩
  .rintro _ w8 rfl H8
   refine ⟨_,rfl,iE H8 (kP 7) _ true (by simp) ?_ (λ_=>rfl) (λ_ _=>rfl)⟩
   show _=jK 31 x y z
   rw [fe,hk];rfl
  .refine iE H7 (kP 7) _ true (by simp) ?_ (λ_=>rfl) (λ_ _=>rfl)
   show _=jK 31 x y z
   rw [fe,beq_eq_false_iff_ne.2 hk];rfl
 .have e1:aC .i64 (x.n+z.n)=x.n+z.n:=aS _ (by omega)
  have fe:jK 32 x y z=(x.k==1&&y.k==1&&z.k==1):=rfl
  refine H4.bH λw5 H5=>?_
  rw [e1]
  refine H5.bC (EP _ w5) ?_
  rintro _ w6 rfl H6
  refine ⟨_,_,_,rfl,H6.bC (ky x w6) ?_⟩
  rintro _ w7 rfl H7
  have no:∀{w8:aA} {L:List En} {bs JE:List Nat},LH F0 w w8 L [.JK p ⟨⟨32,kids,n,m,u,tx,st⟩,UA⟩]->(∀b∈bs,En.g b∈L)->jK 32 x y z=false->fZ JE aB bM #[kQ (oM (x.n+z.n)),.bool false,.bool (aR (x.n+z.n<=64))] w8 λr w5=>∃a b c e:Int,r=aJ (.tuple #[.agg #[.i a,.i b,.i c],.i e])/\loc bs w5 λw6=>wg (ti ⟨32,kids,n,m,u,tx,st⟩ x y z) (uE ⟨32,kids,n,m,u,tx,st⟩ x y z) (aJ (.tuple #[.agg #[.i a,.i b,.i c],.i e]))/\bW w w6:=λH8 hb hf=>iE H8 _ _ _ (by simp) hf.symm (λh=>by cases h) (λh _=>by cases h) hb
  refine ⟨_,rfl,aY (λhk=>H7.bC (ky y w7) ?_) (λhk=>no H7 (by simp) ?_)⟩
  .rintro _ w8 rfl H8
   refine ⟨_,rfl,aY (λtN=>H8.bC (ky z w8) ?_) (λtN=>no H8 (by simp) ?_)⟩
   .rintro _ w9 rfl H9
    refine ⟨_,rfl,iE H9 (oM (x.n+z.n)) _ _ (by simp) ?_ (λ_=>rfl) (λ_ _=>rfl)⟩
    show _=jK 32 x y z
    rw [fe,hk,tN];rfl
   .rw [fe,beq_eq_false_iff_ne.2 tN,Bool.and_false];rfl
  .rw [fe,beq_eq_false_iff_ne.2 hk];rfl
 .have fe:jK 33 x y z=(x.k==1):=rfl
  have fr:uJ ⟨33,kids,n,m,u,tx,st⟩ x y z=true:=rfl
  refine H4.bC (ky x w4) ?_
  rintro _ w5 rfl H5
  refine ⟨_,rfl,fP (λhk=>H5.bH λw6 H6=>⟨⟨x,9,rfl,?_,λh=>?_⟩,H6.fr⟩) (λhk=>⟨tx,(C H5).c5,H5.bC (hN rfl w5) ?_⟩)⟩
  .unfold uE
   rw [show jK (33:Int) x y z=false from hk];rfl
  .unfold uE at h
   rw [show jK (33:Int) x y z=false from hk] at h
   cases h
  .rintro _ w6 rfl H6
   have he:uE ⟨33,kids,n,m,u,tx,st⟩ x y z=if Dx tx=false then 2 else 0:=by
    unfold uE
    rw [show jK (33:Int) x y z=true from hk,fr]
    simp
   refine ⟨_,rfl,fP (λhc=>H6.bH λw7 H7=>⟨⟨x,2,rfl,?_,λh=>?_⟩,H7.fr⟩) (λhc=>H6.bC (wu 1 w6) ?_)⟩
   .rw [he,aN hc]
   .rw [he,aN hc] at h
    cases h
   .rintro _ w7 rfl H7
    exact ⟨_,_,_,rfl,H7.bH λw8 H8=>⟨⟨kP 1,0,rfl,by rw [he,aI (by rw [hc];simp)],λ_=>rfl⟩,H8.fr⟩⟩
 .refine H4.bH λw5 H5=>H5.bC (EP 1 w5) ?_
  rintro _ w6 rfl H6
  refine ⟨_,_,_,rfl,H6.bC (wu 8 w6) ?_⟩
  rintro _ w7 rfl H7
  exact ⟨_,_,_,rfl,iE H7 (oM 1) _ true (by simp) (pD x (kP 8)) (λ_=>rfl) (λ_ _=>rfl)⟩
def Qt (u n:Int) (h0:0<=u) (h1:0<=n) (h2:n<64):((Int.fdiv u (2^(min (Int.toNat n) (IntKind.bits .u64)))) !=0)=aR (2^n.toNat<=u):=by
 have e:min (Int.toNat n) (IntKind.bits .u64)=n.toNat:=by show min n.toNat 64=_;omega
 rw [e]
 have hp:(0:Int)<2^n.toNat:=Int.pow_pos (by decide)
 generalize (2:Int)^n.toNat=q at hp
 have hd:=Int.fdiv_eq_ediv_of_nonneg u (by omega:0<=q)
 rw [hd]
 by_cases hq:q<=u
 .rw [aO hq]
  have:1<=u / q:=by rw [Int.le_ediv_iff_mul_le hp];omega
  simp only [bne_iff_ne,ne_eq]
  omega
 .rw [aK hq]
  rw [Int.ediv_eq_zero_of_lt h0 (by omega)]
  rfl
def ZJ {w:aA} {p:Addr} {d:Nd} (g:List Nx) (h:nl w p d) (h1:1<=d.x.op) (h3:d.x.op<=3) (hu:0<=d.x.u):
  aH aB py #[.pointer (some p)] w λr w'=>wg (dH g d.x).1 (dH g d.x).2 r/\bW w w':=by
 refine term_sortOfLeaf.dQ _ w _ ((lhP h).cC λb2 w1 H1=>?_)
 have C:∀{w5:aA} {L:List En},LH F0 w w5 L [.JK p d]->nl w5 p d:=λH=>H.getD 0
 have er:∀(t:iQ) (e:Int) (w5:aA),e≠0->(dH g d.x)=(ru,e)->LH F0 w w5 [.g b2] [.JK p d]->loc [b2] w5 λw6=>wg (dH g d.x).1 (dH g d.x).2 (aJ (.tuple #[.agg #[.i t.k,.i t.n,.i t.x],.i e]))/\bW w w6:=λt e w5 h0 he H5=>H5.bH λw6 H6=>⟨⟨t,e,rfl,by rw [he],λh=>by rw [he] at h;exact absurd h h0⟩,H6.fr⟩
 have ok:∀(t:iQ) (w5:aA),(dH g d.x)=(t,0)->LH F0 w w5 [.g b2] [.JK p d]->loc [b2] w5 λw6=>wg (dH g d.x).1 (dH g d.x).2 (aJ (.tuple #[.agg #[.i t.k,.i t.n,.i t.x],.i 0]))/\bW w w6:=λt w5 he H5=>H5.bH λw6 H6=>⟨⟨t,0,rfl,by rw [he],λ_=>by rw [he]⟩,H6.fr⟩
 refine ⟨_,(C H1).c0,aY (λh2=>?_) (λh2=>?_)⟩
 .refine ⟨_,(C H1).c5,bA (λhs=>⟨_,_,_,(C H1).s0,(C H1).s1,(C H1).s2,er d.x.st 5 w1 (by decide) ?_ H1⟩) (λhs=>⟨_,(C H1).c5,H1.bC (EP _ w1) ?_⟩)⟩
  .unfold dH;rw [aN h2,aN (by omega)]
  .rintro _ w2 rfl H2
   refine ⟨_,_,_,rfl,ok (oM d.x.tx.size) w2 ?_ H2⟩
   unfold dH;rw [aN h2,aI (by omega)]
 have l1:dH g d.x=if cI d.x.st=false then (ru,9) else
   if d.x.op=1/\d.x.st.k≠0\/d.x.op=3/\mJ d.x.st=false then (ru,9) else
   if d.x.op=1/\OU d.x.u d.x.st.n=true then (ru,5) else (d.x.st,0):=by
  unfold dH;rw [aI h2,aI (λh=>by omega)]
  have:¬(d.x.op=0/\pG g d.x=true):=λh=>by omega
  simp only [this,if_false]
 refine ⟨_,_,_,(C H1).s0,(C H1).s1,(C H1).s2,H1.bC (Ay d.x.st w1) ?_⟩
 rintro _ w2 rfl H2
 refine ⟨_,rfl,CD (λhv=>⟨_,_,_,(C H2).s0,(C H2).s1,(C H2).s2,?_⟩) (λhv=>?_)⟩
 .have:nR d.x.st=9:=by unfold nR;rw [hv];rfl
  rw [this]
  exact er d.x.st 9 w2 (by decide) (by rw [l1,aN hv]) H2
 rw [aI (by rw [hv];simp)] at l1
 refine ⟨_,(C H2).c0,aY (λh3=>⟨_,_,_,(C H2).s0,(C H2).s1,(C H2).s2,H2.bC (zQ d.x.st w2) ?_⟩) (λNN=>?_)⟩
 .rintro _ w3 rfl H3
  refine ⟨_,rfl,fP (λha=>⟨_,_,_,(C H3).s0,(C H3).s1,(C H3).s2,er d.x.st 9 w3 (by decide) ?_ H3⟩) (λha=>⟨_,_,_,(C H3).s0,(C H3).s1,(C H3).s2,ok d.x.st w3 ?_ H3⟩)⟩
  .rw [l1,aN (.inr ⟨h3,ha⟩)]
  .rw [l1,aI (by rintro (h|h);omega;rw [ha] at h;cases h.2),aI (by rintro ⟨h,_⟩;omega)]
 have h1:d.x.op=1:=by omega
 refine ⟨_,(C H2).s0,gB (λhk=>⟨_,_,_,(C H2).s0,(C H2).s1,(C H2).s2,er d.x.st 9 w2 (by decide) ?_ H2⟩) (λhk=>H2.bH λw3 H3=>?_)⟩
 .rw [l1,aN (.inl ⟨h1,hk⟩)]
 rw [aI (by rintro (h|h);exact h.2 hk;omega)] at l1
 obtain ⟨v1,v2,_⟩:=tu hv hk
 have S0:dH g d.x=(d.x.st,0)->term_sortOfLeaf.eX p b2 0 0 0 w3 λr w'=>wg (dH g d.x).1 (dH g d.x).2 r/\bW w w':=λhe=>⟨_,_,_,(C H3).s0,(C H3).s1,(C H3).s2,ok d.x.st w3 he H3⟩
 refine ⟨_,(C H3).s1,bA (λEj=>⟨_,(C H3).c4,_,(C H3).s1,by omega,?_⟩) (λEj=>S0 ?_)⟩
 .rw [Qt _ _ hu (by omega) Ej]
  refine bA (λhb=>⟨_,_,_,(C H3).s0,(C H3).s1,(C H3).s2,er d.x.st 5 w3 (by decide) ?_ H3⟩) (λhb=>S0 ?_)
  .rw [l1,aN ⟨h1,by unfold OU;rw [aO Ej,aO hb];rfl⟩]
  .rw [l1,aI]
   rintro ⟨_,hh⟩
   unfold OU at hh
   rw [aK hb,Bool.and_false] at hh
   cases hh
 .rw [l1,aI]
  rintro ⟨_,hh⟩
  unfold OU at hh
  rw [aK Ej] at hh
  cases hh
def Ey (g:List Nx) (t:ByteArray):Ending:=match qL g t with
 |some s=>aJ (.tuple #[kQ s,.bool true])
 |none=>aJ (.tuple #[kQ ru,.bool false])
def abF {w:aA} {p:Addr} {d:Nd} {D:List En} (g:List Nx) (lk:Fv) (H:LH F0 w w [] (.JK p d::D)) (hc:gq aB lk.n=true) (hl:∀w':aA,(∀e∈D,e.P w')->aH aB lk.n (lk.bs++#[.string d.x.tx]++lk.cs) w' λr wP=>r=Ey g d.x.tx/\bW w' wP) (h0:d.x.op=0):
  aH aB qa #[.pointer (some p),lk.v] w λr w'=>wg (dH g d.x).1 (dH g d.x).2 r/\bW w w':=by
 have C:∀{w5:aA} {L:List En},LH F0 w w5 L (.JK p d::D)->nl w5 p d:=λH=>H.getD 0
 have l1:dH g d.x=if qq (bl d.x.tx)=false then (ru,6) else if cI d.x.st=false then (ru,9) else if pG g d.x=true then (ru,8) else (d.x.st,0):=by
  unfold dH
  rw [aI (by omega)]
  simp [h0]
 have fin:∀(e:Int) (w5:aA) (L:List En) (i:Nat) (b:Nat) (c0 c1 c2:aD),LH F0 w w5 L (.JK p d::D)->L[i]? =some (.c b [c0,c1,c2] bI)->dH g d.x=(if e=0 then d.x.st else ru,e)->Le w5 (bO b) (.i d.x.st.k) (.i d.x.st.n) (.i d.x.st.x) λw6=>eS w6 (bO b) λa0 a1 a2=>wg (dH g d.x).1 (dH g d.x).2 (aJ (.tuple #[.agg #[.i a0,.i a1,.i a2],.i e]))/\bW w w6:=by
  intro e w5 L i b c0 c1 c2 H5 hi he
  refine H5.nJ i hi λw6 H6=>?_
  have hi6:(L.set i (.c b [Value.i d.x.st.k,.i d.x.st.n,.i d.x.st.x] bI))[i]? =some (.c b [Value.i d.x.st.k,.i d.x.st.n,.i d.x.st.x] bI):=by
   rw [List.getElem?_set_self (List.getElem?_eq_some_iff.1 hi).1]
  refine ⟨_,_,_,H6.ld i 0 hi6,H6.ld i 1 hi6,H6.ld i 2 hi6,⟨d.x.st,e,rfl,by rw [he],λh=>?_⟩,H6.fr⟩
  rw [he] at h ⊢
  rw [aN h]
 refine term_sortOfVar.ok p lk w _ (H.nw λw1 _ H1=>⟨_,(C H1).c5,H1.call (So d.x.tx w1) ?_⟩)
 rintro _ w2 rfl H2
 refine ⟨_,rfl,fP (λhn=>⟨_,_,_,(C H2).s0,(C H2).s1,(C H2).s2,fin 6 w2 _ 0 _ _ _ _ H2 rfl (by rw [l1,aN hn];rfl)⟩) (λhn=>⟨_,_,_,(C H2).s0,(C H2).s1,(C H2).s2,H2.call (Ay d.x.st w2) ?_⟩)⟩
 rw [aI (by rw [hn];simp)] at l1
 rintro _ w3 rfl H3
 refine ⟨_,rfl,CD (λhv=>⟨_,_,_,(C H3).s0,(C H3).s1,(C H3).s2,?_⟩) (λhv=>⟨_,(C H3).c5,?_⟩)⟩
 .have:nR d.x.st=9:=by unfold nR;rw [hv];rfl
  rw [this]
  exact fin 9 w3 _ 0 _ _ _ _ H3 rfl (by rw [l1,aN hv];rfl)
 rw [aI (by rw [hv];simp)] at l1
 rw [hc]
 refine (show iW true _ from ?_)
 refine H3.call (hl w3 (λe he=>H3.rd e (mG _ he))) ?_
 rintro _ w4 rfl H4
 have S0:∀(w5:aA) (L:List En) (c0 c1 c2:aD),LH F0 w w5 L (.JK p d::D)->L[0]? =some (.c w.heap.size [c0,c1,c2] bI)->pG g d.x=false->term_sortOfVar.S0 p (bO w.heap.size) w5 λr w'=>wg (dH g d.x).1 (dH g d.x).2 r/\bW w w':=λw5 L c0 c1 c2 H5 hi ht=>⟨_,_,_,(C H5).s0,(C H5).s1,(C H5).s2,fin 0 w5 L 0 _ c0 c1 c2 H5 hi (by rw [l1,aI (by rw [ht];simp)];rfl)⟩
 unfold pG at l1 S0
 unfold Ey
 cases hs:qL g d.x.tx with
 |none=>
  rw [hs] at l1 S0
  refine ⟨ru.k,ru.n,ru.x,false,rfl,H4.nw λw5 _ H5=>H5.nJ 1 rfl λw8 H8=>H8.dr λw9 H9=>aX rfl ?_⟩
  exact S0 w9 _ _ _ _ H9 rfl rfl
 |some t=>
  rw [hs] at l1 S0
  refine ⟨t.k,t.n,t.x,true,rfl,H4.nw λw5 _ H5=>H5.nJ 1 rfl λw8 H8=>H8.dr λw9 H9=>bF rfl ⟨_,_,_,H9.ld 1 0,H9.ld 1 1,H9.ld 1 2,_,_,_,(C H9).s0,(C H9).s1,(C H9).s2,yO (a:=t) (b:=d.x.st) (λjx=>⟨_,_,_,(C H9).s0,(C H9).s1,(C H9).s2,fin 8 w9 _ 0 _ _ _ _ H9 rfl ?_⟩) (λheq=>S0 w9 _ _ _ _ H9 rfl ?_)⟩⟩
  .rw [l1,aN (by simp [jx])];rfl
  .simp [heq]
def kcL:List Int:=[0,0,0,0,1,1,2,2,2,2,2,2,2,2,2,2,2,2,2,3,2,1,1,1,2,3,2,1,1,2,3,2,3,1,1]
abbrev rV:En:=.rd ⟨some (bO 0),35,35⟩ (kcL.map l4)
def aa0 {op:Int} (h0:0<=op) (h1:op<=34):kcL[op.toNat]? =some (eO op):=by
 rcases tZ h0 h1 with rfl|rfl|rfl|rfl|rfl|rfl|rfl|rfl|rfl|rfl|rfl|rfl|rfl|rfl|rfl|rfl|rfl|rfl|rfl|rfl|rfl|rfl|rfl|rfl|rfl|rfl|rfl|rfl|rfl|rfl|rfl|rfl|rfl|rfl|rfl<;>rfl
section
variable {M:Nat->Prop} {w0 w:aA} {L D:List En} {bs:List Nat}
def _root_.Go.W.LH.ZC (H:LH M w0 w L D) (i a c:Nat) {b:Nat} {vs:List aD} {T:aP} {v:aD} {K:aA->Prop} (hi:L[i]? =some (.c b vs T)) (hK:∀w',LH M w0 w' (L.set i (.c b (vs.set (a+c) v) T)) D->K w') (hj:a+c<vs.length:=by simp [ri]) (kS:∀b∈bs,En.g b∈L:=by simp):
  cY w (((bO b).add a).add c) v λw1=>kept bs w w1/\K w1:=by
 rw [add_add]
 obtain ⟨x1,x2,x3,x4⟩:=I7 (H.ob i hi) (a+c) (by simpa using hj) v
 obtain ⟨_,_,h3⟩:=H.set (v:=v) i (a+c) hi hj
 refine ⟨x1,x2,λb' fA=>?_,hK _ h3⟩
 refine x4.ic b' (H.own _ (kS b' fA)) λe=>?_
 have:=lW H hi (D1 w b vs T) (kS b' fA)
 exact this (by rw [e];exact J'.2 rfl)
def _root_.Go.W.LH.ZD (H:LH M w0 w L D) (i a:Nat) {b:Nat} {vs:List aD} {T:aP} {v:aD} {K:aA->Prop} (hi:L[i]? =some (.c b vs T)) (hK:∀w',LH M w0 w' (L.set i (.c b (vs.set a v) T)) D->K w') (hj:a<vs.length:=by simp [ri]) (kS:∀b∈bs,En.g b∈L:=by simp):
  cY w ((bO b).add a) v λw1=>kept bs w w1/\K w1:=by
 have:=H.ZC (v:=v) (K:=K) i a 0 hi hK hj kS
 rwa [xS] at this
end
def Sa {g:List Nx} {n:Nx} (h:(eO n.op==(n.kids.length:Int)&&n.kids.all (iJ g)&&okF n)=true) (h4:¬n.op<=3):eF g n=if uE n (jL g n 0) (jL g n 1) (jL g n 2)≠0 then (ru,uE n (jL g n 0) (jL g n 1) (jL g n 2)) else (ti n (jL g n 0) (jL g n 1) (jL g n 2),0):=by
 unfold eF uE
 rw [h,aI (by simp),aI h4]
 generalize jK n.op (jL g n 0) (jL g n 1) (jL g n 2)=a
 generalize uJ n (jL g n 0) (jL g n 1) (jL g n 2)=b
 cases a
 .rfl
 .cases b
  .rfl
  .by_cases hc:n.op=33/\Dx n.tx=false
   .simp [hc]
   .simp [hc]
def Rf {g:List Nx} {n:Nx} (h:(dH g n).2≠0):dH g n=(ru,(dH g n).2):=by
 unfold dH at h ⊢
 split
 .split
  .rfl
  .rename_i h2 Ej
   rw [aN h2,aI Ej] at h
   exact absurd rfl h
 .rename_i h2
  rw [aI h2] at h
  split
  .rfl
  .rename_i h3
   rw [aI h3] at h
   split
   .rfl
   .rename_i h4
    rw [aI h4] at h
    split
    .rfl
    .rename_i h5
     rw [aI h5] at h
     split
     .rfl
     .rename_i h6
      rw [aI h6] at h
      split
      .rfl
      .rename_i h7
       rw [aI h7] at h
       exact absurd rfl h
structure XS (d:Nx):Prop where
 kl:d.kids.length<=1000000000
 n:qS d.n
 m:qS d.m
 u:0<=d.u
 tx:d.op=33->JW d.tx
abbrev cs3 (a b c:iQ):List aD:=ri a++ri b++ri c
def SD (g:List Nx) (n:Nx) (i j:Nat):iQ:=if j<i then jL g n j else ru
def Rb {g:List Nx} {n:Nx} {j:Nat} (h:n.kids.length<=j):jL g n j=ru:=by
 unfold jL
 rw [List.getElem?_eq_none h]
def UC {l:List Nd} {n:Nx} {i:Nat} {k:Int} {e:Nd} (hk:n.kids[i]? =some k) (he:l[k.toNat]? =some e):jL (xs l) n i=e.x.st:=by
 unfold jL
 rw [hk]
 dsimp only
 rw [um he]
def UB {g:List Nx} {n:Nx} (hv:∀d∈g,cI d.st=true) (j:Nat):VT (jL g n j):=by
 unfold jL
 split
 .split
  .rename_i hd
   exact OM (hv _ (List.mem_of_getElem? hd))
  .exact Ru
 .exact Ru
def Sr {w:aA} {s:Sl} {l:List Nd} {d:Nd} {D:List En} (lk:Fv) (H:LH F0 w w [] (.gr s l::fV d::rV::D)) (hc:gq aB lk.n=true)
  (hl:∀w':aA,(∀e∈D,e.P w')->aH aB lk.n (lk.bs++#[.string d.x.tx]++lk.cs) w' λr wP=>r=Ey (xs l) d.x.tx/\bW w' wP) (ho:XS d.x) (Kx:l.length<=1000000000) (hv:∀e∈xs l,cI e.st=true):
  aH aB sO #[s.v,d.v,lk.v] w λr w'=>r=mw (eF (xs l) d.x)/\bW w w':=by
 have hn:=tL (eG.1 (H.getD 0))
 have pQ:(xs l).length=l.length:=by simp [xs]
 have OX:d.ks.n=d.x.kids.length:=hU.len (H.getD 1)
 have NT:=ho.kl
 refine term_sortOf.dQ s _ _ _ _ _ _ _ _ _ lk w _ (H.nw λw1 _ H1=>H1.cC λb6 w2 H2=>H2.bH λw3 H3=>?_)
 have N:∀{w5:aA} {L:List En},LH F0 w w5 (.c w.heap.size d.c bE::L) (.gr s l::fV d::rV::D)->nl w5 (bO w.heap.size) d:=λH=>FV (H.ob 0)
 have H3:LH F0 w w3 [.c w.heap.size d.c bE,.g b6] (.gr s l::fV d::rV::D):=H3
 have fail:(eO d.x.op==(d.x.kids.length:Int)&&d.x.kids.all (iJ (xs l))&&okF d.x)=false->∀{w5:aA} {L:List En} {bs:List Nat},LH F0 w w5 L (.gr s l::fV d::rV::D)->(∀b∈bs,En.g b∈L)->loc bs w5 λw6=>(λr w'=>r=mw (eF (xs l) d.x)/\bW w w') (aJ (.tuple #[.agg #[.i 0,.i 0,.i 0],.i 1])) w6:=λhf _ _ _ H5 hb=>H5.bH (λw6 H6=>⟨by unfold eF;rw [aN hf];rfl,H6.fr⟩) hb
 have kN:∀op:Int,op<0\/34<op->eO op=-1:=λop h=>by unfold eO;rw [aN h]
 refine ⟨_,(N H3).c0,bA (λh0=>fail ?_ H3 (by simp)) (λh0=>⟨_,(N H3).c0,bA (λh35=>fail ?_ H3 (by simp)) (λh35=>⟨_,(N H3).c1,_,(N H3).c0,by omega,by show d.x.op<35;omega,eO d.x.op,?_,gB (λjx=>fail ?_ H3 (by simp)) (λheq=>?_)⟩)⟩)⟩
 .rw [kN _ (.inl h0),beq_eq_false_iff_ne.2 (by omega)];rfl
 .rw [kN _ (.inr (by omega)),beq_eq_false_iff_ne.2 (by omega)];rfl
 .have hk:hU w3 ⟨some (bO 0),35,35⟩ kcL:=H3.getD 2
  exact (show W.gT (some (bO 0)) λp=>w3.cell? (p.add (Int.toNat d.x.op *1))=some (.int .i64 (eO d.x.op)) from hk.cell (aa0 (by omega) (by omega)) rfl λp _ hc=>hc)
 .rw [beq_eq_false_iff_ne.2 (by omega)];rfl
 have hkc:(eO d.x.op==(d.x.kids.length:Int))=true:=by rw [beq_iff_eq];omega
 have Kw:d.x.kids.length<=3:=by
  have:eO d.x.op<=3:=by unfold eO;repeat' split<;>omega
  omega
 refine H3.nw λw4 _ H4=>⟨_,(N H4).c1,?_⟩
 have loop:∀(m i:Nat) (w5:aA),i+m=d.x.kids.length->d.x.kids.all (iJ (xs l))=(d.x.kids.drop i).all (iJ (xs l))->LH F0 w w5 [.c w.heap.size d.c bE,.g b6,.c w3.heap.size (cs3 (SD (xs l) d.x i 0) (SD (xs l) d.x i 1) (SD (xs l) d.x i 2)) ot] (.gr s l::fV d::rV::D)->
   term_sortOf.mC s lk (bO w.heap.size) b6 0 0 0 (bO w3.heap.size) ((d.ks.n:Nat):Int) (i:Int) w5 λr w'=>r=mw (eF (xs l) d.x)/\bW w w':=by
  intro m
  induction m with
  |zero=>
   intro i w5 hi hall H5
   rw [List.drop_of_length_le (by omega)] at hall
   have e0:∀j,SD (xs l) d.x i j=jL (xs l) d.x j:=λj=>by
    unfold SD
    split
    .rfl
    .exact (Rb (by omega)).symm
   rw [e0,e0,e0] at H5
   refine term_sortOf.dR _ _ _ _ _ _ _ _ _ _ _ _ (aX (aK (by omega)) (H5.bC (Jo (N H5)) ?_))
   rintro _ w6 rfl H6
   refine ⟨_,rfl,fP (λhf=>fail (by rw [hf,Bool.and_false]) H6 (by simp)) (λhf=>H6.cC λV8 w7 H7=>?_)⟩
   have Wr:(eO d.x.op==(d.x.kids.length:Int)&&d.x.kids.all (iJ (xs l))&&okF d.x)=true:=by rw [hkc,hall,hf];rfl
   have H7:LH F0 w w7 [.c w.heap.size d.c bE,.g b6,.c w3.heap.size (cs3 (jL (xs l) d.x 0) (jL (xs l) d.x 1) (jL (xs l) d.x 2)) ot,.g V8] (.gr s l::fV d::rV::D):=H7
   have fin:∀(T:iQ) (E:Int) (t:iQ) (e:Int) (w8:aA),eF (xs l) d.x=(if E≠0 then (ru,E) else (T,0))->e=E->(E=0->t=T)->LH F0 w w8 [.c w.heap.size d.c bE,.g b6,.c w3.heap.size (cs3 (jL (xs l) d.x 0) (jL (xs l) d.x 1) (jL (xs l) d.x 2)) ot,.g V8] (.gr s l::fV d::rV::D)->
     loc [b6,V8] w8 λw9=>term_sortOf.ir b6 0 0 0 V8 t.k t.n t.x e w9 λr w'=>r=mw (eF (xs l) d.x)/\bW w w':=by
    intro T E t e w8 hs he ht H8
    subst he
    refine H8.bH λw9 H9=>gB (λjx=>H9.bH λtB qe=>⟨by rw [hs,aN jx];rfl,qe.fr⟩) (λh0=>H9.bH λtB qe=>⟨?_,qe.fr⟩)
    rw [hs,aI (by omega),ht h0]
   have WK:d.x.op<=3->eF (xs l) d.x=(if (dH (xs l) d.x).2≠0 then (ru,(dH (xs l) d.x).2) else ((dH (xs l) d.x).1,0)):=λh3=>by
    unfold eF
    rw [Wr,aI (by simp),aN h3]
    split
    .rename_i jx;exact Rf jx
    .rename_i heq
     rw [Decidable.not_not] at heq
     rw [<-heq]
   have Im:=λj=>UB (n:=d.x) hv j
   refine ⟨_,(N H7).c0,aY (λho0=>?_) (λho0=>⟨_,(N H7).c0,bA (λho3=>?_) (λho3=>⟨_,(N H7).c0,bA (λaaR=>?_) (λaaR=>⟨_,(N H7).c0,bA (λaaS=>?_) (λaaS=>?_)⟩)⟩)⟩)⟩
   .have Hv:LH F0 w7 w7 [] (.JK (bO w.heap.size) d::D):=og _ (by
     intro e he
     rcases List.mem_cons.1 he with rfl|he
     .exact N H7
     .exact H7.rd e (mG _ (mG _ (mG _ he))))
    refine H7.bC (abF (xs l) lk Hv hc hl ho0) ?_
    rintro _ w8 ⟨t,e,rfl,he,ht⟩ H8
    exact ⟨_,_,_,_,rfl,fin _ _ t e w8 (WK (by omega)) he ht H8⟩
   .refine H7.bC (ZJ (xs l) (N H7) (by omega) ho3 ho.u) ?_
    rintro _ w8 ⟨t,e,rfl,he,ht⟩ H8
    exact ⟨_,_,_,_,rfl,fin _ _ t e w8 (WK ho3) he ht H8⟩
   all_goals
    have rest:=Sa Wr (by omega)
    have ld:∀(a c:Nat) (v:aD),(cs3 (jL (xs l) d.x 0) (jL (xs l) d.x 1) (jL (xs l) d.x 2))[a+c]? =some v->w7.cell? (((bO w3.heap.size).add a).add c)=some v:=λa c v hv=>by rw [add_add];exact H7.ld 2 (a+c) rfl hv
    refine ⟨by omega,by decide,(jL (xs l) d.x 0).k,(jL (xs l) d.x 0).n,(jL (xs l) d.x 0).x,ld 0 0 _ rfl,ld 0 1 _ rfl,ld 0 2 _ rfl,by omega,by decide,(jL (xs l) d.x 1).k,(jL (xs l) d.x 1).n,(jL (xs l) d.x 1).x,ld 3 0 _ rfl,ld 3 1 _ rfl,ld 3 2 _ rfl,by omega,by decide,(jL (xs l) d.x 2).k,(jL (xs l) d.x 2).n,(jL (xs l) d.x 2).x,ld 6 0 _ rfl,ld 6 1 _ rfl,ld 6 2 _ rfl,?_⟩
   .refine H7.bC (ZH (N H7) (by omega) aaR (Im 0) (Im 1) ho.n ho.m) ?_
    rintro _ w8 ⟨t,e,rfl,he,ht⟩ H8
    exact ⟨_,_,_,_,rfl,fin _ _ t e w8 rest he ht H8⟩
   .refine H7.bC (Sm (N H7) (by omega) aaS) ?_
    rintro _ w8 ⟨t,e,rfl,he,ht⟩ H8
    exact ⟨_,_,_,_,rfl,fin _ _ t e w8 rest he ht H8⟩
   .refine H7.bC (OH (N H7) (by omega) (by omega) (Im 0) (Im 1) (Im 2) ho.tx) ?_
    rintro _ w8 ⟨t,e,rfl,he,ht⟩ H8
    exact ⟨_,_,_,_,rfl,fin _ _ t e w8 rest he ht H8⟩
  |succ m ih=>
   intro i w5 hi hall H5
   have hg:d.x.kids[i]? =some (d.x.kids[i]'(by omega)):=ie (by omega)
   rw [List.drop_eq_getElem_cons (by omega:i<d.x.kids.length),List.all_cons] at hall
   generalize d.x.kids[i]'(by omega)=x at hg hall
   have bad:iJ (xs l) x=false->term_sortOf.fN b6 0 0 0 w5 λr w'=>r=mw (eF (xs l) d.x)/\bW w w':=λhx=>fail (by rw [hall,hx];simp) H5 (by simp)
   refine term_sortOf.dR _ _ _ _ _ _ _ _ _ _ _ _ (bF (aO (by omega)) ⟨_,(N H5).c1,by omega,by omega,(show hU w5 d.ks d.x.kids from H5.getD 1).cell hg (by omega) λp hp NR=>⟨x,NR,bA (λh1=>bad ?_) (λh1=>bA (λh2=>bad ?_) (λh2=>?_))⟩⟩)
   .unfold iJ;rw [aK (by omega)];rfl
   .unfold iJ;rw [aK (show ¬x<((xs l).length:Int) by rw [pQ];omega)];simp
   have DD:l[x.toNat]? =some (l[x.toNat]'(by omega)):=ie (by omega)
   generalize l[x.toNat]'(by omega)=e at DD
   have wE:=UC hg DD
   refine oc (eG.1 (H5.getD 0)) (i:=x.toNat) (by omega) DD λq hq c=>⟨_,_,_,c.s0,c.s1,c.s2,by omega,by show (i:Int)<3;omega,?_⟩
   have aaJ:d.x.kids.all (iJ (xs l))=(d.x.kids.drop (i+1)).all (iJ (xs l)):=by
    rw [hall]
    unfold iJ
    rw [aO (show 0<=x by omega),aO (show x<((xs l).length:Int) by rw [pQ];omega)]
    rfl
   have stp:∀w6,LH F0 w w6 [.c w.heap.size d.c bE,.g b6,.c w3.heap.size (cs3 (SD (xs l) d.x (i+1) 0) (SD (xs l) d.x (i+1) 1) (SD (xs l) d.x (i+1) 2)) ot] (.gr s l::fV d::rV::D)->term_sortOf.mC s lk (bO w.heap.size) b6 0 0 0 (bO w3.heap.size) ((d.ks.n:Nat):Int) (aC .i64 ((i:Int)+1)) w6 λr w'=>r=mw (eF (xs l) d.x)/\bW w w':=λw6 H6=>by
    rw [bP _ (by omega)]
    exact ih (i+1) w6 (by omega) aaJ H6
   have hi3:i=0\/i=1\/i=2:=by omega
   have up:∀j,SD (xs l) d.x (i+1) j=if j=i then e.x.st else SD (xs l) d.x i j:=λj=>by
    unfold SD
    by_cases hj:j=i
    .rw [aN hj,aN (by omega),hj,wE]
    .rw [aI hj]
     by_cases Uf:j<i
     .rw [aN Uf,aN (by omega)]
     .rw [aI Uf,aI (by omega)]
   rw [up 0,up 1,up 2] at stp
   rcases hi3 with rfl|rfl|rfl
   .exact H5.ZD 2 0 rfl λw6 H6=>H6.ZC 2 0 1 rfl λw7 H7=>H7.ZC 2 0 2 rfl λw8 H8=>stp w8 H8
   .exact H5.ZD 2 3 rfl λw6 H6=>H6.ZC 2 3 1 rfl λw7 H7=>H7.ZC 2 3 2 rfl λw8 H8=>stp w8 H8
   .exact H5.ZD 2 6 rfl λw6 H6=>H6.ZC 2 6 1 rfl λw7 H7=>H7.ZC 2 6 2 rfl λw8 H8=>stp w8 H8
 exact loop d.x.kids.length 0 w4 (by omega) (by simp) H4
end Go.Proofs.YtnpkhgljhcnpcaaGreatDoor
