import Derived.Test.YtcifihepfadgfaaGreatDoorG1
import Derived.Test.YtcifihepfadgfaaGreatDoorW
import Derived.Test.YtcifihepfadgfaaGreatDoorVB
import Derived.Test.YtcifihepfadgfaaGreatDoorT1
import Derived.Test.YtcifihepfadgfaaGreatDoorB
set_option linter.unusedVariables false
namespace Go.Proofs.YtcifihepfadgfaaGreatDoor
open List renaming mem_append->fS,mem_cons->cS,not_mem_nil->fF,mem_of_getElem?->cR,getElem?_eq_getElem->g8,getElem?_eq_some_iff->ov,mem_map->pX,mem_cons_of_mem->lr,drop_eq_getElem_cons->sC,all_eq_true->wD,getElem_mem->QY,drop_of_length_le->sP
open Go Go.W
structure iw where
 k:Int
 n:Int
 x:Int
deriving DecidableEq
structure Nx where
 op:Int
 kids:List Int
 n:Int
 m:Int
 u:Int
 tx:ByteArray
 st:iw
deriving DecidableEq
def o4:iw:=⟨0,0,0⟩
def jG (n:Int):iw:=⟨0,n,0⟩
def nI (n:Int):iw:=⟨1,n,0⟩
def bN (s:iw):Bool:=(s.k==0&&decide (1<=s.n)&&decide (s.n<=64)&&s.x==0)||(s.k==1&&decide (0<=s.n)&&decide (s.n<=64)&&s.x==0)||(s.k==2&&decide (1<=s.n)&&decide (s.n<=64)&&decide (1<=s.x)&&decide (s.x<=16))||(s.k==3&&decide (0<=s.n)&&decide (s.n<=64)&&decide (1<=s.x)&&decide (s.x<=16))
def mn (s:iw):Int:=if bN s then 0 else 9
def lD (s:iw):Bool:=s.k==2||s.k==3
def eP (op:Int):Int:=if op<0\/34<op then -1 else if op<=3 then 0 else if op=4\/op=5\/op=21\/op=22\/op=23\/op=27\/op=28\/op=33\/op=34 then 1 else if op=19\/op=25\/op=30\/op=32 then 3 else 2
def EO (op:Int):Bool:=op==21||op==22||op==23||op==28
def EP (op:Int):Bool:=op==0||op==2||op==33
def okF (n:Nx):Bool:=(EO n.op||n.n==0)&&(n.op==21||n.m==0)&&(n.op==1||n.u==0)&&(EP n.op||decide (n.tx=ba []))
def iu (g:List Nx) (k:Int):Bool:=decide (0<=k)&&decide (k<(g.length:Int))
def pf (c:UInt8):Bool:=decide (97<=c.toNat)&&decide (c.toNat<=122)
def mS (c:UInt8):Bool:=pf c||(decide (48<=c.toNat)&&decide (c.toNat<=57))||c==45
def qK (l:List UInt8):Bool:=match l with
 |[]=>false
 |c::m=>decide (m.length<=15)&&pf c&&m.all mS
def oG:List Nx->ByteArray->Option iw
 |[],_=>none
 |d::g,t=>if d.op=0/\d.tx=t then some d.st else oG g t
def sH (g:List Nx) (n:Nx):Bool:=match oG g n.tx with
 |some s=>!decide (s=n.st)
 |none=>false
def Pm (u:Int) (n:Int):Bool:=decide (n<64)&&decide (2^n.toNat<=u)
def cY (g:List Nx) (n:Nx):iw×Int:=
 if n.op=2 then (if 64<n.tx.size then (o4,5) else (nI n.tx.size,0)) else
 if n.op=0/\qK (bl n.tx)=false then (o4,6) else
 if bN n.st=false then (o4,9) else
 if n.op=1/\n.st.k≠0\/n.op=3/\lD n.st=false then (o4,9) else
 if n.op=1/\Pm n.u n.st.n=true then (o4,5) else
 if n.op=0/\sH g n=true then (o4,8) else (n.st,0)
def nP (s:iw):iw:=if s.k=2 then jG s.n else nI s.n
def iU (op:Int) (x y z:iw):Bool:=
 if op=4\/op=5\/op=21\/op=22\/op=23 then x.k==0 else
 if op=18 then decide (x=y)||(x.k==1&&y.k==1) else
 if op=19 then decide (x=jG 1)&&(decide (y=z)||(y.k==1&&z.k==1)) else
 if op=20 then x.k==0&&y.k==0 else
 if op=24 then lD x&&decide (y=jG x.x) else
 if op=25 then lD x&&decide (y=jG x.x)&&(decide (z=nP x)||(x.k==3&&z.k==1&&decide (z.n<=x.n))) else
 if op=26 then lD x&&decide (x=y) else
 if op=27\/op=28\/op=33 then x.k==1 else
 if op=29\/op=31 then x.k==1&&y.k==1 else
 if op=30 then x.k==1&&decide (y=jG 7)&&decide (z=jG 7) else
 if op=32 then x.k==1&&y.k==1&&z.k==1 else
 if op=34 then decide (x=jG 8) else x.k==0&&decide (x=y)
def rB (n:Nx) (x y z:iw):iw:=
 if n.op=16\/n.op=17\/n.op=18\/n.op=33 then jG 1 else
 if n.op=19 then (if y.k=1 then nI (if y.n<z.n then z.n else y.n) else y) else
 if n.op=20 then jG (x.n+y.n) else
 if n.op=21 then jG (n.n - n.m+1) else
 if n.op=22\/n.op=23 then jG (x.n+n.n) else
 if n.op=24 then nP x else
 if n.op=26 then jG x.x else
 if n.op=27\/n.op=31 then jG 7 else
 if n.op=28 then jG 8 else
 if n.op=29 then nI (x.n+y.n) else
 if n.op=32 then nI (x.n+z.n) else
 if n.op=34 then nI 1 else x
def vj (n:Nx) (x y z:iw):Bool:=
 if n.op=20\/n.op=29 then decide (x.n+y.n<=64) else
 if n.op=21 then decide (0<=n.m)&&decide (n.m<=n.n)&&decide (n.n<x.n) else
 if n.op=22\/n.op=23 then decide (1<=n.n)&&decide (n.n<=64 - x.n) else
 if n.op=28 then decide (0<=n.n)&&decide (n.n<=63) else
 if n.op=32 then decide (x.n+z.n<=64) else true
def kC (g:List Nx) (n:Nx) (i:Nat):iw:=match n.kids[i]? with
 |some k=>match g[k.toNat]? with
  |some d=>d.st
  |none=>o4
 |none=>o4
def A0 (t:ByteArray):Bool:=CV (bl t)==some true
def dI (g:List Nx) (n:Nx):iw×Int:=
 if (eP n.op==(n.kids.length:Int)&&n.kids.all (iu g)&&okF n)=false then (o4,1) else
 if n.op<=3 then cY g n else
 if iU n.op (kC g n 0) (kC g n 1) (kC g n 2)=false then (o4,9) else
 if vj n (kC g n 0) (kC g n 1) (kC g n 2)=false then (o4,5) else
 if n.op=33/\A0 n.tx=false then (o4,2) else (rB n (kC g n 0) (kC g n 1) (kC g n 2),0)
def eM (n:Nx) (s:iw):Nx:={n with st:=s}
def l4 (n:Nx):List Nx->Nat->Option Nat
 |[],_=>none
 |d::g,i=>if d=n then some i else l4 n g (i+1)
def eU (g:List Nx) (n:Nx):List Nx×Int×Int:=
 if (dI g n).2≠0 then ([],0,(dI g n).2) else
 match l4 (eM n (dI g n).1) g 0 with
 |some i=>(g,i,0)
 |none=>if 4096<=g.length then ([],0,4) else (g++[eM n (dI g n).1],g.length,0)
inductive Vg:List Nx->Prop
 |nil:Vg []
 |snoc {g:List Nx} {n:Nx}:Vg g->dI g n=(n.st,0)->n∉g->Vg (g++[n])
structure Nd where
 x:Nx
 ks:Sl
abbrev kA (s:iw):Value:=.agg #[.i s.k,.i s.n,.i s.x]
namespace Nd
def c (d:Nd):List Value:=[.i d.x.op,d.ks.v,.i d.x.n,.i d.x.m,.u d.x.u,.string d.x.tx,.i d.x.st.k,.i d.x.st.n,.i d.x.st.x]
abbrev v (d:Nd):Value:=.agg #[.i d.x.op,d.ks.v,.i d.x.n,.i d.x.m,.u d.x.u,.string d.x.tx,.i d.x.st.k,.i d.x.st.n,.i d.x.st.x]
theorem yc (d:Nd):(c d).length=9:=rfl
theorem iT (l:List Nd):(l.flatMap c).length=l.length *9:=oS c 9 yc l
abbrev P (w:World) (d:Nd):Prop:=cX w d.ks d.x.kids
structure pG (w:World) (p:Addr) (i:Nat) (d:Nd):Prop where
 c0:w.cell? ((p.add (i *9)).add 0)=some (.i d.x.op)
 c1:w.cell? ((p.add (i *9)).add 1)=some d.ks.v
 c2:w.cell? ((p.add (i *9)).add 2)=some (.i d.x.n)
 c3:w.cell? ((p.add (i *9)).add 3)=some (.i d.x.m)
 c4:w.cell? ((p.add (i *9)).add 4)=some (.u d.x.u)
 c5:w.cell? ((p.add (i *9)).add 5)=some (.string d.x.tx)
 c6:w.cell? ((p.add (i *9)).add 6)=some (.i d.x.st.k)
 c7:w.cell? ((p.add (i *9)).add 7)=some (.i d.x.st.n)
 c8:w.cell? ((p.add (i *9)).add 8)=some (.i d.x.st.x)
theorem b0 {w:World} {s:Sl} {l:List Nd} (h:jU 9 w s (l.flatMap c)):s.n=l.length:=by
 have:=h.1
 rw [iT] at this
 omega
theorem at' {w:World} {s:Sl} {l:List Nd} (h:jU 9 w s (l.flatMap c)) {i:Nat} {d:Nd} (hi:l[i]? =some d) {K:Addr->Prop} (hk:∀p,s.a=some p->pG w p i d->K p):aW s.a K:=
 o7.elem (f:=c) (sz:=9) yc (by omega) h.2.2 hi λp hp hc=>hk p hp ⟨hc 0 _ rfl,hc 1 _ rfl,hc 2 _ rfl,hc 3 _ rfl,hc 4 _ rfl,hc 5 _ rfl,hc 6 _ rfl,hc 7 _ rfl,hc 8 _ rfl⟩
theorem again {w:World} {s:Sl} {l:List Nd} (h:jU 9 w s (l.flatMap c)) {i:Nat} {d:Nd} (hi:l[i]? =some d) {p:Addr} (hp:s.a=some p):pG w p i d:=by
 have hk:=at' h hi (K:=λq=>∃q',s.a=some q'/\pG w q' i d) (λq hq hc=>⟨q,hq,hc⟩)
 rw [hp] at hk
 obtain ⟨q,hq,e⟩:=hk
 cases hq
 exact e
end Nd
abbrev xs (l:List Nd):List Nx:=l.map Nd.x
def GP (w:World) (s:Sl) (l:List Nd):Prop:=jU 9 w s (l.flatMap Nd.c)/\∀d∈l,d.P w
abbrev dG (d:Nd):En:=.rd d.ks (d.x.kids.map eI)
def _root_.Go.W.En.gr (s:Sl) (l:List Nd):En:=.all (.iD 9 s (l.flatMap Nd.c)::l.map dG)
theorem cE {w:World} {s:Sl} {l:List Nd}:(En.gr s l).P w↔GP w s l:=by
 constructor
 .exact λh=>⟨h (.iD 9 s (l.flatMap Nd.c)) (by simp),λd hd=>h (dG d) (lr _ (pX.2 ⟨d,hd,rfl⟩))⟩
 .intro h e he
  rcases cS.1 he with rfl|he
  .exact h.1
  .obtain ⟨d,hd,rfl⟩:=pX.1 he
   exact h.2 d hd
theorem rp {s:Sl} {l:List Nd} {b:Nat}:b∈(En.gr s l).fp↔b∈(En.iD 9 s (l.flatMap Nd.c)).fp\/∃d∈l,b∈(dG d).fp:=by
 unfold En.gr En.all
 rw [aH,List.mem_flatMap]
 constructor
 .rintro ⟨e,he,hb⟩
  rcases cS.1 he with rfl|he
  .exact .inl hb
  .obtain ⟨d,hd,rfl⟩:=pX.1 he
   exact .inr ⟨d,hd,hb⟩
 .rintro (hb|⟨d,hd,hb⟩)
  .exact ⟨_,List.mem_cons_self ..,hb⟩
  .exact ⟨_,lr _ (pX.2 ⟨d,hd,rfl⟩),hb⟩
theorem oT {w:World} {s:Sl} {l:List Nd} (h:GP w s l):s.n=l.length:=Nd.b0 h.1
theorem kD {w:World} {s:Sl} {l:List Nd} (h:GP w s l) {i:Nat} {d:Nd} {X:Int} (hX:X=(i:Int)) (hi:l[i]? =some d) {K:Addr->Prop} (hk:∀p,s.a=some p->Nd.pG w p (Int.toNat X) d->K p):(0:Int)<=X/\X<((s.n:Nat):Int)/\aW s.a K:=by
 have hn:=oT h
 have hl:=(ov.1 hi).1
 subst hX
 exact ⟨by omega,by omega,Nd.at' h.1 hi hk⟩
theorem sv {l:List Nd} {i:Nat} {d:Nd} (h:l[i]? =some d):(xs l)[i]? =some d.x:=by simp [xs,h]
namespace Nd
theorem pG.s0 {w:World} {p:Addr} {i:Nat} {d:Nd} (h:pG w p i d):w.cell? (((p.add (i *9)).add 6).add 0)=some (.i d.x.st.k):=by rw [add_add];exact h.c6
theorem pG.s1 {w:World} {p:Addr} {i:Nat} {d:Nd} (h:pG w p i d):w.cell? (((p.add (i *9)).add 6).add 1)=some (.i d.x.st.n):=by rw [add_add];exact h.c7
theorem pG.s2 {w:World} {p:Addr} {i:Nat} {d:Nd} (h:pG w p i d):w.cell? (((p.add (i *9)).add 6).add 2)=some (.i d.x.st.x):=by rw [add_add];exact h.c8
end Nd
theorem v8 {w:World} {s:Sl} {l:List Nd} (h:GP w s l) {i:Nat} {d:Nd} (hi:l[i]? =some d) {p:Addr} (hp:s.a=some p) {X:Int} (hX:X=(i:Int)):Nd.pG w p (Int.toNat X) d:=by
 subst hX
 exact Nd.again h.1 hi hp
def pY (s:iw):List Value:=[.i s.k,.i s.n,.i s.x]
theorem Ga (l:List iw):(l.flatMap pY).length=l.length *3:=oS pY 3 (λ_=>rfl) l
structure G4 (w:World) (p:Addr) (i:Nat) (s:iw):Prop where
 c0:w.cell? ((p.add (i *3)).add 0)=some (.i s.k)
 c1:w.cell? ((p.add (i *3)).add 1)=some (.i s.n)
 c2:w.cell? ((p.add (i *3)).add 2)=some (.i s.x)
theorem VE {w:World} {s:Sl} {l:List iw} (h:jU 3 w s (l.flatMap pY)):s.n=l.length:=by
 have:=h.1
 rw [Ga] at this
 omega
theorem fD {w:World} {s:Sl} {l:List iw} (h:jU 3 w s (l.flatMap pY)) {i:Nat} {x:iw} {X:Int} (hX:X=(i:Int)) (hi:l[i]? =some x) {K:Addr->Prop} (hk:∀p,s.a=some p->G4 w p (Int.toNat X) x->K p):(0:Int)<=X/\X<((s.n:Nat):Int)/\aW s.a K:=by
 have hn:=VE h
 have hl:=(ov.1 hi).1
 subst hX
 exact ⟨by omega,by omega,o7.elem (f:=pY) (sz:=3) (λ_=>rfl) (by omega) h.2.2 hi λp hp hc=>hk p hp ⟨hc 0 _ rfl,hc 1 _ rfl,hc 2 _ rfl⟩⟩
theorem dA {w:World} {s:Sl} {l:List iw} (h:jU 3 w s (l.flatMap pY)) {i:Nat} {x:iw} {X:Int} (hX:X=(i:Int)) (hi:l[i]? =some x) {p:Addr} (hp:s.a=some p):G4 w p (Int.toNat X) x:=by
 have hk:=(fD h hX hi (K:=λq=>∃q',s.a=some q'/\G4 w q' (Int.toNat X) x) (λq hq hc=>⟨q,hq,hc⟩)).2.2
 rw [hp] at hk
 obtain ⟨q,hq,e⟩:=hk
 cases hq
 exact e
theorem od (a b:iw):((a.k==b.k)&&((a.n==b.n)&&((a.x==b.x)&&true)))=decide (a=b):=by
 cases a;cases b
 simp only [iw.mk.injEq,Bool.and_true,Bool.decide_and]
 rfl
theorem J7 (a b:ByteArray):(a.toList==b.toList)=decide (a=b):=by
 rw [ByteArray.toList_eq,ByteArray.toList_eq]
 have h:(a.data.toList=b.data.toList)↔a=b:=⟨λh=>ByteArray.ext (Array.toList_inj.1 h),λh=>by rw [h]⟩
 rw [<-decide_eq_decide.2 h]
 cases hd:decide (a.data.toList=b.data.toList) with
 |true=>rw [of_decide_eq_true hd];simp
 |false=>exact beq_eq_false_iff_ne.2 (of_decide_eq_false hd)
section
variable {A B:Prop}
theorem Is {a b:ByteArray} (h1:a=b->A) (h2:a≠b->B):aG (a.toList==b.toList) A B:=by
 rw [J7];exact aN h1 h2
theorem oc {a b:iw} (h1:a=b->A) (h2:a≠b->B):aG ((a.k==b.k)&&((a.n==b.n)&&((a.x==b.x)&&true))) A B:=by
 rw [od];exact aN h1 h2
theorem Aq {a b:iw} (h1:a≠b->A) (h2:a=b->B):aG (!((a.k==b.k)&&((a.n==b.n)&&((a.x==b.x)&&true)))) A B:=by
 rw [od];exact eT (λh=>h1 (of_decide_eq_false h)) (λh=>h2 (of_decide_eq_true h))
theorem Ap {s:iw} (h1:bN s=false->A) (h2:bN s=true->B):aG (mn s !=0) A B:=by
 unfold mn
 cases h:bN s with
 |true=>exact aI rfl (h2 h)
 |false=>exact aQ rfl (h1 h)
end
set_option maxRecDepth 100000
theorem oq (n:Int) (w:World):Calls Tryz.prog aT #[.i n] w λr w'=>r=.returned (kA (jG n))/\bG w w':=
 enthymemeref07_BV.cU _ w _ ((mu [] (by simp)).bF λb w1 H1=>H1.aL λw2 H2=>⟨rfl,H2.fr⟩)
theorem lY (n:Int) (w:World):Calls Tryz.prog bS #[.i n] w λr w'=>r=.returned (kA (nI n))/\bG w w':=
 enthymemeref07_Strings.cU _ w _ ((mu [] (by simp)).bF λb w1 H1=>H1.aL λw2 H2=>⟨rfl,H2.fr⟩)
theorem xM (s:iw) (w:World):Calls Tryz.prog fM #[kA s] w λr w'=>r=.returned (kA (nP s))/\bG w w':=by
 refine enthymemeref07_Element.cU _ _ _ w _ ((mu [] (by simp)).bF λb w1 H1=>H1.bF λb2 w2 H2=>aJ (λh=>H2.aK (oq s.n w2) ?_) (λh=>H2.aK (lY s.n w2) ?_))
 .rintro _ w3 rfl H3
  exact ⟨_,_,_,rfl,H3.aL λw4 H4=>⟨by unfold nP;rw [if_pos h],H4.fr⟩⟩
 .rintro _ w3 rfl H3
  exact ⟨_,_,_,rfl,H3.aL λw4 H4=>⟨by unfold nP;rw [if_neg h],H4.fr⟩⟩
theorem xH {op:Int} (h1:0<=op) (h2:op<=34):op=0\/op=1\/op=2\/op=3\/op=4\/op=5\/op=6\/op=7\/op=8\/op=9\/op=10\/op=11\/op=12\/op=13\/op=14\/op=15\/op=16\/op=17\/op=18\/op=19\/op=20\/op=21\/op=22\/op=23\/op=24\/op=25\/op=26\/op=27\/op=28\/op=29\/op=30\/op=31\/op=32\/op=33\/op=34:=by omega
theorem Mm (op:Int) (w:World):Calls Tryz.prog iH #[.i op] w λr w'=>r=.returned (.i (eP op))/\bG w w':=by
 refine enthymemeref07_Kids.ok op w _ ?_
 by_cases h1:op<0
 .exact aQ (decide_eq_true h1) ⟨by unfold eP;rw [if_pos (.inl h1)],Fr.refl _ _⟩
 refine aI (decide_eq_false h1) ?_
 by_cases h2:op>34
 .exact aQ (decide_eq_true h2) ⟨by unfold eP;rw [if_pos (.inr h2)],Fr.refl _ _⟩
 refine aI (decide_eq_false h2) ?_
 rcases xH (by omega) (by omega:op<=34) with rfl|rfl|rfl|rfl|rfl|rfl|rfl|rfl|rfl|rfl|rfl|rfl|rfl|rfl|rfl|rfl|rfl|rfl|rfl|rfl|rfl|rfl|rfl|rfl|rfl|rfl|rfl|rfl|rfl|rfl|rfl|rfl|rfl|rfl|rfl<;>exact ⟨rfl,Fr.refl _ _⟩
theorem Jc {s:ByteArray} {i:Nat} (h:i<s.size):s[i]? =some (gQ (bl s) i):=by
 have h2:i<(bl s).length:=h
 have e:gQ (bl s) i=(bl s)[i]:=by unfold gQ;rw [List.getD_eq_getElem?_getD,g8 h2];rfl
 rw [e,getElem?_pos s i h]
 rfl
theorem np (c:UInt8) (m:List UInt8):qK (c::m)=(decide (m.length<=15)&&pf c&&m.all mS):=rfl
theorem Pq (s:ByteArray) (w:World):Calls Tryz.prog kn #[.string s] w λr w'=>r=.returned (.bool (qK (bl s)))/\bG w w':=by
 have hl:(bl s).length=s.size:=iS s
 have no:qK (bl s)=false->(Ending.returned (.bool false)=.returned (.bool (qK (bl s)))/\bG w w):=λh=>⟨by rw [h],Fr.refl _ _⟩
 cases hs:bl s with
 |nil=>
  have h0:s.size=0:=by rw [<-hl,hs];rfl
  exact enthymemeref07_Named.ok s w _ (aQ (decide_eq_true (by omega)) ⟨rfl,Fr.refl _ _⟩)
 |cons c m=>
  have hm:s.size=m.length+1:=by rw [<-hl,hs];rfl
  rw [hs] at no
  have g0:gQ (bl s) 0=c:=by rw [hs];rfl
  have h0:s[Int.toNat 0]? =some c:=by rw [<-g0];exact Jc (by omega)
  refine enthymemeref07_Named.ok s w _ (aI (decide_eq_false (by omega)) (aN (λh=>no ?_) (λh=>⟨by omega,c,h0,aN (λh1=>no ?_) (λh1=>⟨by omega,c,h0,aN (λh2=>no ?_) (λh2=>?_)⟩)⟩)))
  .rw [np,decide_eq_false (by omega)];rfl
  .rw [np];unfold pf;rw [decide_eq_false (show ¬97<=c.toNat by omega)];simp
  .rw [np];unfold pf;rw [decide_eq_false (show ¬c.toNat<=122 by omega)];simp
  have e0:qK (c::m)=m.all mS:=by
   rw [np]
   unfold pf
   rw [decide_eq_true (show m.length<=15 by omega),decide_eq_true (show 97<=c.toNat by omega),decide_eq_true (show c.toNat<=122 by omega)]
   simp
  have e1:qK (c::m)=(bl s).all mS:=by
   rw [e0,hs,List.all_cons]
   unfold mS pf
   rw [decide_eq_true (show 97<=c.toNat by omega),decide_eq_true (show c.toNat<=122 by omega)]
   simp
  rw [e1]
  have loop:∀(d i:Nat),i+d=s.size->(bl s).all mS=((bl s).drop i).all mS->enthymemeref07_Named.L1 s (i:Int) w λr w'=>r=.returned (.bool ((bl s).all mS))/\bG w w':=by
   intro d
   induction d with
   |zero=>
    intro i hi he
    rw [sP (by omega)] at he
    exact enthymemeref07_Named.oI _ _ _ _ (aI (decide_eq_false (by omega)) ⟨by rw [he];rfl,Fr.refl _ _⟩)
   |succ d ih=>
    intro i hi he
    have hg:=Jc (show i<s.size by omega)
    rw [sC (by omega:i<(bl s).length),List.all_cons,show (bl s)[i]'(by omega)=gQ (bl s) i by unfold gQ;rw [List.getD_eq_getElem?_getD,g8 (by omega:i<(bl s).length)];rfl] at he
    generalize gQ (bl s) i=x at hg he
    have go:mS x=true->enthymemeref07_Named.S4 s (i:Int) w λr w'=>r=.returned (.bool ((bl s).all mS))/\bG w w':=λh=>by
     show enthymemeref07_Named.L1 s (IntKind.wrap .i64 ((i:Int)+1)) w _
     rw [aX _ (by omega)]
     exact ih (i+1) (by omega) (by rw [he,h,Bool.true_and])
    have stop:mS x=false->(Ending.returned (.bool false)=.returned (.bool ((bl s).all mS))/\bG w w):=λh=>⟨by rw [he,h,Bool.false_and],Fr.refl _ _⟩
    have dig:pf x=false->∀o:Bool,o=((decide (48<=x.toNat)&&decide (x.toNat<=57))||x==45)->enthymemeref07_Named.S3 s (i:Int) false o w λr w'=>r=.returned (.bool ((bl s).all mS))/\bG w w':=λhx o ho=>by
     refine aQ rfl (eT (λh=>stop ?_) (λh=>go ?_))
     .unfold mS;rw [hx,Bool.false_or,<-ho,h]
     .unfold mS;rw [hx,Bool.false_or,<-ho,h]
    have e45:((((x.toNat:Nat):Int)==45):Bool)=(x==45):=by
     by_cases h:x=45
     .subst h;rfl
     .rw [beq_eq_false_iff_ne.2 h,beq_eq_false_iff_ne]
      intro h2
      exact h (UInt8.toNat_inj.1 (by have:((45:UInt8).toNat:Int)=45:=rfl;omega))
    have ht:((i:Int)).toNat=i:=Int.toNat_natCast i
    have S2:∀l:Bool,l=pf x->enthymemeref07_Named.S2 s (i:Int) l w λr w'=>r=.returned (.bool ((bl s).all mS))/\bG w w':=λl hl=>by
     have fin:∀o:Bool,o=((decide (48<=x.toNat)&&decide (x.toNat<=57))||x==45)->enthymemeref07_Named.S3 s (i:Int) l o w λr w'=>r=.returned (.bool ((bl s).all mS))/\bG w w':=λo ho=>by
      cases hx:pf x with
      |true=>rw [hl,hx];exact aI rfl (go (by unfold mS;rw [hx];rfl))
      |false=>rw [hl,hx];exact dig hx o ho
     refine ⟨by omega,x,by rw [ht];exact hg,aN (λh=>⟨by omega,x,by rw [ht];exact hg,aN (λh'=>fin true ?_) (λh'=>⟨by omega,x,by rw [ht];exact hg,?_⟩)⟩) (λh=>⟨by omega,x,by rw [ht];exact hg,?_⟩)⟩
     .rw [decide_eq_true (show 48<=x.toNat by omega),decide_eq_true (show x.toNat<=57 by omega)];rfl
     .rw [e45];exact fin _ (by rw [decide_eq_false (show ¬x.toNat<=57 by omega)];simp)
     .rw [e45];exact fin _ (by rw [decide_eq_false (show ¬48<=x.toNat by omega)];simp)
    refine enthymemeref07_Named.oI _ _ _ _ (aQ (decide_eq_true (by omega)) ⟨by omega,x,by rw [ht];exact hg,aN (λh=>⟨by omega,x,by rw [ht];exact hg,S2 _ ?_⟩) (λh=>S2 _ ?_)⟩)
    .unfold pf
     rw [decide_eq_true (show 97<=x.toNat by omega),Bool.true_and]
     exact decide_eq_decide.2 (by omega)
    .unfold pf
     rw [decide_eq_false (show ¬97<=x.toNat by omega),Bool.false_and]
  exact loop s.size 0 (by omega) (by simp)
theorem Ae (n lo hi:Int) (w:World):Calls Tryz.prog bZ #[.int .i64 n,.int .i64 lo,.int .i64 hi] w λr w'=>r=.returned (.bool (decide (lo<=n/\n<=hi)))/\bG w w':=by
 refine enthymemeref06_within.ok _ _ _ w _ (aN (λh=>⟨?_,Fr.refl _ _⟩) (λh=>⟨?_,Fr.refl _ _⟩))
 .have:(lo<=n/\n<=hi)↔n<=hi:=⟨λh=>h.2,λh'=>⟨h,h'⟩⟩
  simp only [this]
 .rw [decide_eq_false (by omega)]
theorem FO (s:iw) (w:World):Calls Tryz.prog iA #[kA s] w λr w'=>r=.returned (.int .i64 (mn s))/\bG w w':=by
 refine enthymemeref06_ValidSort.cU _ _ _ w _ ((mu [] (by simp)).bF λb1 w1 H1=>?_)
 have fin:∀{w2:World} {L:List En} (b:Bool),b=bN s->LH F0 w w2 L []->enthymemeref06_ValidSort.dV b w2 λr w'=>r=.returned (.int .i64 (mn s))/\bG w w':=by
  rintro w2 L b rfl H
  refine eT (λh=>⟨?_,H.fr⟩) (λh=>⟨?_,H.fr⟩)
  .unfold mn;rw [if_neg (by simp [h])]
  .unfold mn;rw [if_pos h]
 have plain:∀lo:Int,(bN s=(decide (lo<=s.n/\s.n<=64)&&(s.x==0)))->fE [b1] Tryz.prog bZ #[.int .i64 s.n,.int .i64 lo,.int .i64 64] w1 λr_ w2=>∃t10:Bool,r_=.returned (.bool t10)/\aG t10 (enthymemeref06_ValidSort.dV (s.x==0) w2 λr w'=>r=.returned (.int .i64 (mn s))/\bG w w') (enthymemeref06_ValidSort.dV false w2 λr w'=>r=.returned (.int .i64 (mn s))/\bG w w'):=by
  intro lo hv
  refine H1.aK (Ae _ _ _ w1) ?_
  rintro _ w2 rfl H2
  refine ⟨_,rfl,bA (λh=>fin _ ?_ H2) (λh=>fin _ ?_ H2)⟩
  .rw [hv,h];rfl
  .rw [hv,h];rfl
 have array:∀lo:Int,(bN s=(decide (lo<=s.n/\s.n<=64)&&decide (1<=s.x/\s.x<=16)))->fE [b1] Tryz.prog bZ #[.int .i64 s.n,.int .i64 lo,.int .i64 64] w1 λr_ w2=>∃t10:Bool,r_=.returned (.bool t10)/\aG t10 (fE [b1] Tryz.prog bZ #[.int .i64 s.x,.int .i64 1,.int .i64 16] w2 λr_ w5=>∃t34:Bool,r_=.returned (.bool t34)/\enthymemeref06_ValidSort.dV t34 w5 λr w'=>r=.returned (.int .i64 (mn s))/\bG w w') (enthymemeref06_ValidSort.dV false w2 λr w'=>r=.returned (.int .i64 (mn s))/\bG w w'):=by
  intro lo hv
  refine H1.aK (Ae _ _ _ w1) ?_
  rintro _ w2 rfl H2
  refine ⟨_,rfl,bA (λh=>H2.aK (Ae _ _ _ w2) ?_) (λh=>fin _ ?_ H2)⟩
  .rintro _ w3 rfl H3
   exact ⟨_,rfl,fin _ (by rw [hv,h];rfl) H3⟩
  .rw [hv,h];rfl
 refine aJ (λh0=>plain 1 ?_) (λh0=>aJ (λKB=>plain 0 ?_) (λKB=>aJ (λSj=>array 1 ?_) (λSj=>aJ (λKC=>array 0 ?_) (λKC=>fin _ ?_ H1))))
 .unfold bN;simp [h0]
 .unfold bN;simp [KB]
 .unfold bN;simp [Sj,Bool.and_assoc]
 .unfold bN;simp [KC,Bool.and_assoc]
 .unfold bN;simp [h0,KB,Sj,KC]
abbrev sA (s:Sl) (l:List Nd) (d:Nd):List En:=[.gr s l,dG d]
theorem XZ {w:World} {s:Sl} {l:List Nd} {d:Nd} (h:GP w s l) (hd:d.P w):LH F0 w w [] (sA s l d):=mu _ (by
 intro e he
 simp only [cS,fF,or_false] at he
 rcases he with rfl|rfl
 .exact cE.2 h
 .exact hd)
theorem Po {w:World} {s:Sl} {l:List Int} (h:cX w s l) (hl:l.length<=1000000000000) (n:Int):Calls Tryz.prog lI #[s.v,.i n] w λr w'=>r=.returned (.bool (decide (n∈l)))/\bG w w':=by
 have hn:=cX.len h
 have loop:∀(d i:Nat),i+d=l.length->(n∈l↔n∈l.drop i)->enthymemeref01_Has.L0 s n (i:Int) w λr w'=>r=.returned (.bool (decide (n∈l)))/\bG w w':=by
  intro d
  induction d with
  |zero=>
   intro i hi he
   rw [sP (by omega)] at he
   exact enthymemeref01_Has.cC _ _ _ _ _ (aI (decide_eq_false (by omega)) ⟨by rw [decide_eq_false (λh=>by have:=he.1 h;simp at this)],Fr.refl _ _⟩)
  |succ d ih=>
   intro i hi he
   have hg:l[i]? =some (l[i]'(by omega)):=g8 (by omega)
   rw [sC (by omega:i<l.length),cS] at he
   generalize l[i]'(by omega)=x at hg he
   refine enthymemeref01_Has.cC _ _ _ _ _ (aQ (decide_eq_true (by omega)) ⟨by omega,by omega,h.cell hg (by omega) λp hp hc=>⟨x,hc,aJ (λe=>⟨?_,Fr.refl _ _⟩) (λe=>?_)⟩⟩)
   .rw [decide_eq_true (he.2 (.inl e.symm))]
   .rw [aX _ (by omega)]
    exact ih (i+1) (by omega) (he.trans ⟨λh=>h.resolve_left (λh=>e h.symm),.inr⟩)
 exact enthymemeref01_Has.ok _ _ w _ (loop l.length 0 (by omega) (by simp))
theorem Sc {w:World} {s:Sl} {l:List Int} (h:cX w s l) (hl:l.length<=1000000000000) (n:Int):Calls Tryz.prog jh #[s.v,.i n] w λr w'=>r=.returned (.bool (decide (n∈l)))/\bG w w':=by
 refine enthymemeref07_has.ok _ _ w _ ((Po h hl n).mono ?_)
 rintro _ w1 ⟨rfl,f⟩
 exact ⟨_,rfl,rfl,f⟩
theorem oP {w:World} {b n:Nat} {l:List Int} {T:TypeId} (h:w.heap[b]? =some (.cells (l.map eI).toArray T (0,0))) (hn:n=l.length):cX w ⟨some (bD b),n,n⟩ l:=
 xd h (by simpa using hn)
def lB:Nat:=1000000000
theorem yg (op:Int):(decide (op∈[(21:Int),22,23,28])=EO op)/\(decide (op∈[(0:Int),2,33])=EP op):=by
 constructor
 .unfold EO
  by_cases h1:op=21
  .subst h1;rfl
  by_cases h2:op=22
  .subst h2;rfl
  by_cases h3:op=23
  .subst h3;rfl
  by_cases h4:op=28
  .subst h4;rfl
  simp [h1,h2,h3,h4]
 .unfold EP
  by_cases h1:op=0
  .subst h1;rfl
  by_cases h2:op=2
  .subst h2;rfl
  by_cases h3:op=33
  .subst h3;rfl
  simp [h1,h2,h3]
theorem UA (t:ByteArray):(t.toList==(ByteArray.mk #[]).toList)=decide (t=ba []):=J7 _ _
theorem QR {n:Nx} {A B:Prop} (h:aG (okF n) B A):∀a b:Bool,a=EO n.op->b=EP n.op->
  let T:=aG (!b) (aG (!(n.tx.toList==(ByteArray.mk #[]).toList)) A B) B
  let U:=aG (n.op !=1) (aG (n.u !=0) A T) T
  let M:=aG (n.op !=21) (aG (n.m !=0) A U) U
  aG (!a) (aG (n.n !=0) A M) M:=by
 rintro a b rfl rfl
 dsimp only
 rw [UA]
 unfold okF at h
 have e1:(n.op !=1)= !(n.op==1):=rfl
 have e2:(n.op !=21)= !(n.op==21):=rfl
 have e3:(n.n !=0)= !(n.n==0):=rfl
 have e4:(n.m !=0)= !(n.m==0):=rfl
 have e5:(n.u !=0)= !(n.u==0):=rfl
 rw [e1,e2,e3,e4,e5]
 generalize (n.op==1)=p1 at *
 generalize (n.op==21)=p2 at *
 generalize (n.n==0)=p3 at *
 generalize (n.m==0)=p4 at *
 generalize (n.u==0)=p5 at *
 generalize decide (n.tx=ba [])=p6 at *
 generalize EO n.op=p7 at *
 generalize EP n.op=p8 at *
 cases p1<;>cases p2<;>cases p3<;>cases p4<;>cases p5<;>cases p6<;>cases p7<;>cases p8<;>exact h
def A4 (g:List Nx) (n:Nx):Int:=if (eP n.op==(n.kids.length:Int)&&n.kids.all (iu g)&&okF n)=true then 0 else 1
theorem Mt {w:World} {s:Sl} {l:List Nd} {d:Nd} (h:GP w s l) (hd:d.P w) (hk:d.x.kids.length<=lB):Calls Tryz.prog jM #[s.v,d.v] w λr w'=>r=.returned (.i (A4 (xs l) d.x))/\bG w w':=by
 have hn:=oT h
 have SB:d.ks.n=d.x.kids.length:=cX.len hd
 have nT:(xs l).length=l.length:=by simp [xs]
 unfold lB at hk
 have loop:∀(m i:Nat) (b3:Nat) (w1:World),i+m=d.x.kids.length->(eP d.x.op==(d.x.kids.length:Int))=true->(d.x.kids.all (iu (xs l))=(d.x.kids.drop i).all (iu (xs l)))->LH F0 w w1 [.g b3] (sA s l d)->
   enthymemeref07_fields.eE s b3 d.x.op d.ks d.x.n d.x.m d.x.u d.x.tx d.x.st.k d.x.st.n d.x.st.x (i:Int) w1 λr w'=>r=.returned (.i (A4 (xs l) d.x))/\bG w w':=by
  intro m
  induction m with
  |zero=>
   intro i b3 w1 hi hq he H
   rw [sP (by omega)] at he
   refine enthymemeref07_fields.aY _ _ _ _ _ _ _ _ _ _ _ _ _ _ (aI (decide_eq_false (by omega)) (H.nw λw2 _ H2=>H2.aK (Sc (l:=[21,22,23,28]) (oP (n:=4) (H2.ob 1) rfl) (by decide) d.x.op) ?_))
   rintro _ w3 rfl H3
   refine ⟨_,rfl,H3.nw λw4 _ H4=>H4.aK (Sc (l:=[0,2,33]) (oP (n:=3) (H4.ob 2) rfl) (by decide) d.x.op) ?_⟩
   rintro _ w5 rfl H5
   refine ⟨_,rfl,?_⟩
   have hf:∀b:Bool,okF d.x=b->A4 (xs l) d.x=if b=true then 0 else 1:=λb hb=>by
    unfold A4
    rw [hq,he,hb]
    rfl
   exact QR (n:=d.x) (bA (λh=>⟨by rw [hf _ h];rfl,H5.fr⟩) (λh=>⟨by rw [hf _ h];rfl,H5.fr⟩)) _ _ (yg d.x.op).1 (yg d.x.op).2
  |succ m ih=>
   intro i b3 w1 hi hq he H
   have hg:d.x.kids[i]? =some (d.x.kids[i]'(by omega)):=g8 (by omega)
   rw [sC (by omega:i<d.x.kids.length),List.all_cons] at he
   generalize d.x.kids[i]'(by omega)=x at hg he
   have bad:iu (xs l) x=false->(Ending.returned (.i 1)=.returned (.i (A4 (xs l) d.x))/\bG w w1):=λhx=>⟨by unfold A4;rw [he,hx];simp,H.fr⟩
   have DY:cX w1 d.ks d.x.kids:=H.getD 1
   refine enthymemeref07_fields.aY _ _ _ _ _ _ _ _ _ _ _ _ _ _ (aQ (decide_eq_true (by omega)) ⟨by omega,by omega,DY.cell hg (by omega) λp hp hc=>⟨x,hc,aN (λh1=>bad ?_) (λh1=>⟨by omega,by omega,DY.cell hg (by omega) λp' Ji Wf=>⟨x,Wf,aN (λh2=>bad ?_) (λh2=>?_)⟩⟩)⟩⟩)
   .unfold iu;rw [decide_eq_false (by omega)];rfl
   .unfold iu;rw [decide_eq_false (show ¬x<((xs l).length:Int) by rw [nT];omega)];simp
   .rw [aX _ (by omega)]
    refine ih (i+1) b3 w1 (by omega) hq ?_ H
    rw [he]
    unfold iu
    rw [decide_eq_true (show 0<=x by omega),decide_eq_true (show x<((xs l).length:Int) by rw [nT];omega)]
    rfl
 refine enthymemeref07_fields.cU _ _ _ _ _ _ _ _ _ _ w _ ((XZ h hd).bF λb3 w1 H1=>H1.aL λw2 H2=>H2.aK (Mm d.x.op w2) ?_)
 rintro _ w3 rfl H3
 refine ⟨_,rfl,dX (λie=>⟨?_,H3.fr⟩) (λheq=>?_)⟩
 .unfold A4
  rw [beq_eq_false_iff_ne.2 (by rw [SB] at ie;exact ie)]
  rfl
 .exact loop d.x.kids.length 0 b3 w3 (by omega) (by rw [heq,SB];simp) (by simp) H3
def uL (g:List Nx):Prop:=∀d∈g,d.op=0->∀e∈g,e.op=0->d.tx=e.tx->d.st=e.st
theorem uL.tail {d:Nx} {g:List Nx} (h:uL (d::g)):uL g:=λa ha h1 b hb h2=>h a (lr _ ha) h1 b (lr _ hb) h2
def Lr (n d:Nx):Bool:=decide (d.op=0/\d.tx=n.tx/\d.st≠n.st)
theorem wP {t:ByteArray} {s:iw}:∀{g:List Nx},oG g t=some s->∃d∈g,d.op=0/\d.tx=t/\d.st=s
 |d::g,h=>by
  unfold oG at h
  split at h
  .rename_i hc
   exact ⟨d,by simp,hc.1,hc.2,Option.some.inj h⟩
  .obtain ⟨e,he,h⟩:=wP h
   exact ⟨e,lr _ he,h⟩
theorem Cv {t:ByteArray}:∀{g:List Nx},oG g t=none->∀d∈g,d.op=0->d.tx≠t
 |a::g,h,d,hd,h0,ht=>by
  unfold oG at h
  split at h
  .cases h
  .rename_i hc
   rcases cS.1 hd with rfl|hd
   .exact hc ⟨h0,ht⟩
   .exact Cv h d hd h0 ht
theorem Ct {g:List Nx} (hv:uL g) (n:Nx):sH g n=g.any (Lr n):=by
 unfold sH
 cases h:oG g n.tx with
 |none=>
  symm
  rw [List.any_eq_false]
  intro d hd ht
  have ht:=of_decide_eq_true ht
  exact Cv h d hd ht.1 ht.2.1
 |some s=>
  obtain ⟨d,hd,h0,h1,h2⟩:=wP h
  by_cases hs:s=n.st
  .simp only [hs,decide_true,Bool.not_true]
   symm
   rw [List.any_eq_false]
   intro e he ht
   have ht:=of_decide_eq_true ht
   exact ht.2.2 ((hv e he ht.1 d hd h0 (ht.2.1.trans h1.symm)).trans (h2.trans hs))
  .simp only [hs,decide_false,Bool.not_false]
   symm
   rw [List.any_eq_true]
   exact ⟨d,hd,decide_eq_true ⟨h0,h1,λe=>hs (h2.symm.trans e)⟩⟩
theorem N5 (n:Int) (h0:0<=n) (h1:n<64):IntKind.wrap .u64 (1 *2^(min (Int.toNat n) (IntKind.bits .u64)))=((2^n.toNat:Nat):Int):=by
 have e:min (Int.toNat n) (IntKind.bits .u64)=n.toNat:=by show min n.toNat 64=_;omega
 have hp:(2:Nat)^n.toNat<=2^63:=Nat.pow_le_pow_right (by omega) (by omega)
 rw [e,Int.one_mul,show ((2:Int)^n.toNat)=((2^n.toNat:Nat):Int) from by rw [Int.natCast_pow];rfl]
 generalize (2:Nat)^n.toNat=m at hp
 exact IntWalk.u64_in _ (by omega)
abbrev kH (x:iw×Int):Ending:=.returned (.tuple #[kA x.1,.i x.2])
theorem rH {s:iw} (h:bN s=true) (hk:s.k=0):1<=s.n/\s.n<=64/\s.x=0:=by
 unfold bN at h
 simp [hk] at h
 omega
theorem nc {s:iw} (h:bN s=true):0<=s.n/\s.n<=64/\0<=s.x/\s.x<=16/\0<=s.k/\s.k<=3:=by
 unfold bN at h
 simp at h
 omega
theorem Uo {w:World} {s:Sl} {l:List Nd} {d:Nd} (h:GP w s l) (hd:d.P w) (hl:l.length<=lB) (h0:0<=d.x.op) (h3:d.x.op<=3) (hv:uL (xs l)):Calls Tryz.prog kQ #[s.v,d.v] w λr w'=>r=kH (cY (xs l) d.x)/\bG w w':=by
 have hn:=oT h
 have nT:(xs l).length=l.length:=by simp [xs]
 unfold lB at hl
 have e0:d.x.op=0\/d.x.op=1\/d.x.op=2\/d.x.op=3:=by omega
 refine enthymemeref07_leaf.cU _ _ _ _ _ _ _ _ _ _ w _ ((XZ h hd).bF λb3 w1 H1=>H1.bF λb4 w2 H2=>aJ (λh2=>?_) (λh2=>?_))
 .refine aN (λhs=>H2.aL λw3 H3=>⟨?_,H3.fr⟩) (λhs=>H2.aK (lY _ w2) ?_)
  .unfold cY;rw [if_pos h2,if_pos (by omega)];rfl
  .rintro _ w3 rfl H3
   refine ⟨_,_,_,rfl,H3.aL λw4 H4=>⟨?_,H4.fr⟩⟩
   unfold cY;rw [if_pos h2,if_neg (by omega)]
 have l1:cY (xs l) d.x=if d.x.op=0/\qK (bl d.x.tx)=false then (o4,6) else
   if bN d.x.st=false then (o4,9) else
   if d.x.op=1/\d.x.st.k≠0\/d.x.op=3/\lD d.x.st=false then (o4,9) else
   if d.x.op=1/\Pm d.x.u d.x.st.n=true then (o4,5) else
   if d.x.op=0/\(xs l).any (Lr d.x)=true then (o4,8) else (d.x.st,0):=by
  unfold cY;rw [if_neg h2,Ct hv]
 have S0:∀(nm:Bool) (w3:World),nm=(!decide (d.x.op=0)||qK (bl d.x.tx))->LH F0 w w3 [.g b3,.g b4] (sA s l d)->enthymemeref07_leaf.dV s b3 d.x.op d.ks d.x.n d.x.m d.x.u d.x.tx d.x.st.k d.x.st.n d.x.st.x b4 0 0 0 nm w3 λr w'=>r=kH (cY (xs l) d.x)/\bG w w':=by
  intro nm w3 O0 H3
  refine eT (λhf=>H3.aL λw4 H4=>⟨?_,H4.fr⟩) (λht=>?_)
  .rw [hf] at O0
   have O0:=O0.symm
   simp only [Bool.or_eq_false_iff,Bool.not_eq_false',decide_eq_true_eq] at O0
   rw [l1,if_pos O0];rfl
  have aax:¬(d.x.op=0/\qK (bl d.x.tx)=false):=λhc=>by rw [ht,hc.2,decide_eq_true hc.1] at O0;simp at O0
  rw [if_neg aax] at l1
  refine H3.aK (FO d.x.st w3) ?_
  rintro _ w4 rfl H4
  refine ⟨_,rfl,Ap (λhf=>H4.aL λw5 H5=>⟨?_,H5.fr⟩) (λht=>?_)⟩
  .rw [l1,if_pos hf];unfold mn;rw [hf];rfl
  rw [if_neg (by rw [ht];simp)] at l1
  have loop:∀(m i:Nat) (w5:World),i+m=l.length->cY (xs l) d.x=(if d.x.op=0/\((xs l).drop i).any (Lr d.x)=true then (o4,8) else (d.x.st,0))->LH F0 w w5 [.g b3,.g b4] (sA s l d)->
    enthymemeref07_leaf.CA s b3 d.x.op d.ks d.x.n d.x.m d.x.u d.x.tx d.x.st.k d.x.st.n d.x.st.x b4 0 0 0 (i:Int) w5 λr w'=>r=kH (cY (xs l) d.x)/\bG w w':=by
   intro m
   induction m with
   |zero=>
    intro i w5 hi he H5
    rw [sP (by omega)] at he
    refine enthymemeref07_leaf.nK _ _ _ _ _ _ _ _ _ _ _ _ _ _ _ _ _ _ (aI (decide_eq_false (by omega)) (H5.aL λw6 H6=>⟨?_,H6.fr⟩))
    rw [he,if_neg (by simp)]
   |succ m ih=>
    intro i w5 hi he H5
    have hg:l[i]? =some (l[i]'(by omega)):=g8 (by omega)
    have hx:(xs l).drop i=(l[i]'(by omega)).x::(xs l).drop (i+1):=by
     rw [sC (by omega:i<(xs l).length)]
     simp [xs]
    rw [hx,List.any_cons] at he
    generalize l[i]'(by omega)=e at hg he
    have next:∀w6,LH F0 w w6 [.g b3,.g b4] (sA s l d)->(d.x.op=0->Lr d.x e.x=false)->enthymemeref07_leaf.x9 s b3 d.x.op d.ks d.x.n d.x.m d.x.u d.x.tx d.x.st.k d.x.st.n d.x.st.x b4 0 0 0 (i:Int) w6 λr w'=>r=kH (cY (xs l) d.x)/\bG w w':=by
     intro w6 H6 ht
     show enthymemeref07_leaf.CA s b3 d.x.op d.ks d.x.n d.x.m d.x.u d.x.tx d.x.st.k d.x.st.n d.x.st.x b4 0 0 0 (IntKind.wrap .i64 ((i:Int)+1)) w6 _
     rw [aX _ (by omega)]
     refine ih (i+1) w6 (by omega) ?_ H6
     rw [he]
     by_cases ho:d.x.op=0
     .rw [ht ho,Bool.false_or]
     .rw [if_neg (λh=>ho h.1),if_neg (λh=>ho h.1)]
    have G5:GP w5 s l:=cE.1 (H5.getD 0)
    refine enthymemeref07_leaf.nK _ _ _ _ _ _ _ _ _ _ _ _ _ _ _ _ _ _ (aQ (decide_eq_true (by omega)) (aJ (λho=>?_) (λho=>H5.aL λw6 H6=>next w6 H6 (λh=>absurd h ho))))
    refine kD G5 rfl hg λp hp _=>H5.aL λw6 H6=>?_
    have c6:=v8 (cE.1 (H6.getD 0)) hg hp (rfl:((i:Int))=(i:Int))
    refine ⟨_,c6.c0,aJ (λQo=>?_) (λQo=>next w6 H6 λ_=>decide_eq_false λh=>Qo h.1)⟩
    refine kD (cE.1 (H6.getD 0)) rfl hg λp1 hp1 c61=>⟨_,c61.c5,Is (λht=>?_) (λht=>next w6 H6 λ_=>decide_eq_false λh=>ht h.2.1)⟩
    refine kD (cE.1 (H6.getD 0)) rfl hg λp2 hp2 ZY=>⟨_,_,_,ZY.s0,ZY.s1,ZY.s2,Aq (λhf=>H6.aL λw7 H7=>⟨?_,H7.fr⟩) (λO2=>next w6 H6 λ_=>decide_eq_false λh=>h.2.2 O2)⟩
    rw [he,if_pos ⟨ho,by rw [show Lr d.x e.x=true from decide_eq_true ⟨Qo,ht,hf⟩];rfl⟩]
    rfl
  have S4:∀w5:World,cY (xs l) d.x=(if d.x.op=0/\(xs l).any (Lr d.x)=true then (o4,8) else (d.x.st,0))->LH F0 w w5 [.g b3,.g b4] (sA s l d)->
    enthymemeref07_leaf.qb s b3 d.x.op d.ks d.x.n d.x.m d.x.u d.x.tx d.x.st.k d.x.st.n d.x.st.x b4 0 0 0 w5 λr w'=>r=kH (cY (xs l) d.x)/\bG w w':=λw5 he H5=>loop l.length 0 w5 (by omega) he H5
  have S1:∀(a:Bool) (w5:World),a=lD d.x.st->LH F0 w w5 [.g b3,.g b4] (sA s l d)->enthymemeref07_leaf.gm s b3 d.x.op d.ks d.x.n d.x.m d.x.u d.x.tx d.x.st.k d.x.st.n d.x.st.x b4 0 0 0 a w5 λr w'=>r=kH (cY (xs l) d.x)/\bG w w':=by
   rintro a w5 rfl H5
   have bad:(d.x.op=1/\d.x.st.k≠0\/d.x.op=3/\lD d.x.st=false)->enthymemeref07_leaf.fB b4 0 0 0 w5 λr w'=>r=kH (cY (xs l) d.x)/\bG w w':=λhb=>H5.aL λw6 H6=>⟨by rw [l1,if_pos hb];rfl,H6.fr⟩
   have S3:¬(d.x.op=1/\d.x.st.k≠0\/d.x.op=3/\lD d.x.st=false)->enthymemeref07_leaf.ic s b3 d.x.op d.ks d.x.n d.x.m d.x.u d.x.tx d.x.st.k d.x.st.n d.x.st.x b4 0 0 0 w5 λr w'=>r=kH (cY (xs l) d.x)/\bG w w':=λhb=>by
    rw [if_neg hb] at l1
    refine aJ (λh1=>?_) (λh1=>S4 w5 (by rw [l1,if_neg (λh=>h1 h.1)]) H5)
    have hk:d.x.st.k=0:=by
     rcases Int.decEq d.x.st.k 0 with h|h
     .exact absurd (.inl ⟨h1,h⟩) hb
     .exact h
    obtain ⟨v1,v2,_⟩:=rH ht hk
    have ew:IntKind.wrap .u64 d.x.st.n=d.x.st.n:=IntWalk.u64_in _ (by omega)
    refine aN (λGJ=>⟨by rw [ew];omega,?_⟩) (λGJ=>S4 w5 (by rw [l1,if_neg];rintro ⟨_,hb⟩;unfold Pm at hb;rw [decide_eq_false (by omega)] at hb;cases hb) H5)
    rw [ew,N5 _ (by omega) GJ]
    have hp:((2^d.x.st.n.toNat:Nat):Int)=(2:Int)^d.x.st.n.toNat:=by rw [Int.natCast_pow];rfl
    rw [hp]
    refine aN (λA7=>H5.aL λw6 H6=>⟨?_,H6.fr⟩) (λA7=>S4 w5 ?_ H5)
    .rw [l1,if_pos ⟨h1,by unfold Pm;rw [decide_eq_true GJ,decide_eq_true A7];rfl⟩];rfl
    .rw [l1,if_neg]
     rintro ⟨_,hb⟩
     unfold Pm at hb
     rw [decide_eq_false (by omega:¬(2:Int)^d.x.st.n.toNat<=d.x.u),Bool.and_false] at hb
     cases hb
   have TL:¬(d.x.op=1/\d.x.st.k≠0)->aG (d.x.op==3) (aG (!lD d.x.st) (enthymemeref07_leaf.fB b4 0 0 0 w5 λr w'=>r=kH (cY (xs l) d.x)/\bG w w') (enthymemeref07_leaf.ic s b3 d.x.op d.ks d.x.n d.x.m d.x.u d.x.tx d.x.st.k d.x.st.n d.x.st.x b4 0 0 0 w5 λr w'=>r=kH (cY (xs l) d.x)/\bG w w')) (enthymemeref07_leaf.ic s b3 d.x.op d.ks d.x.n d.x.m d.x.u d.x.tx d.x.st.k d.x.st.n d.x.st.x b4 0 0 0 w5 λr w'=>r=kH (cY (xs l) d.x)/\bG w w'):=λhk=>
    aJ (λh3=>eT (λhf=>bad (.inr ⟨h3,hf⟩)) (λht=>S3 (by rintro (h|h);exact hk h;rw [ht] at h;cases h.2))) (λh3=>S3 (by rintro (h|h);exact hk h;exact h3 h.1))
   exact aJ (λh1=>dX (λhk=>bad (.inl ⟨h1,hk⟩)) (λhk=>TL (λh=>h.2 hk))) (λh1=>TL (λh=>h1 h.1))
  refine aJ (λsM=>S1 true w4 ?_ H4) (λsM=>S1 _ w4 ?_ H4)
  .unfold lD;rw [sM];rfl
  .unfold lD;rw [beq_eq_false_iff_ne.2 sM];rfl
 refine dX (λQo=>S0 true w2 ?_ H2) (λQo=>H2.aK (Pq d.x.tx w2) ?_)
 .rw [decide_eq_false Qo];rfl
 .rintro _ w3 rfl H3
  exact ⟨_,rfl,S0 _ w3 (by rw [decide_eq_true Qo];rfl) H3⟩
theorem wO {s:iw} (h:(s.k=0/\1<=s.n/\s.n<=64/\s.x=0)\/(s.k=1/\0<=s.n/\s.n<=64/\s.x=0)\/(s.k=2/\1<=s.n/\s.n<=64/\1<=s.x/\s.x<=16)\/(s.k=3/\0<=s.n/\s.n<=64/\1<=s.x/\s.x<=16)):bN s=true:=by
 unfold bN
 rcases h with ⟨h1,h2,h3,h4⟩|⟨h1,h2,h3,h4⟩|⟨h1,h2,h3,h4,h5⟩|⟨h1,h2,h3,h4,h5⟩<;>simp [h1,h2,h3,h4]<;>simp [h5]
theorem ug {s:iw}:bN s=true↔(s.k=0/\1<=s.n/\s.n<=64/\s.x=0)\/(s.k=1/\0<=s.n/\s.n<=64/\s.x=0)\/(s.k=2/\1<=s.n/\s.n<=64/\1<=s.x/\s.x<=16)\/(s.k=3/\0<=s.n/\s.n<=64/\1<=s.x/\s.x<=16):=by
 refine ⟨λh=>?_,wO⟩
 unfold bN at h
 simp only [Bool.or_eq_true,Bool.and_eq_true,beq_iff_eq,decide_eq_true_eq] at h
 omega
structure Br (g:List Nx) (n:Nx):Prop where
 kl:eP n.op=(n.kids.length:Int)
 ki:∀k∈n.kids,0<=k/\k<(g.length:Int)
 ok:okF n=true
theorem DK {g:List Nx} {n:Nx} (h:(dI g n).2=0):Br g n:=by
 unfold dI at h
 split at h
 .cases h
 .rename_i hc
  simp only [Bool.and_eq_false_iff,not_or,Bool.not_eq_false,beq_iff_eq] at hc
  refine ⟨hc.1.1,λk hk=>?_,hc.2⟩
  have:=wD.1 hc.1.2 k hk
  unfold iu at this
  simpa using this
theorem Va {g:List Nx} {n:Nx} (hv:∀d∈g,bN d.st=true) (hk:∀k∈n.kids,0<=k/\k<(g.length:Int)) {i:Nat} (hi:i<n.kids.length):bN (kC g n i)=true:=by
 have h1:=hk _ (QY hi)
 unfold kC
 rw [g8 hi]
 dsimp only
 have h2:(n.kids[i]).toNat<g.length:=by omega
 rw [g8 h2]
 exact hv _ (QY h2)
theorem Hn {x:iw} (h:bN x=true) (ha:lD x=true):bN (nP x)=true:=by
 rw [ug] at h
 unfold lD at ha
 simp only [Bool.or_eq_true,beq_iff_eq] at ha
 unfold nP
 refine wO ?_
 split
 .show (0=0/\1<=x.n/\x.n<=64/\0=0)\/_
  left;omega
 .right;left
  show (1:Int)=1/\0<=x.n/\x.n<=64/\(0:Int)=0
  omega
theorem nM {n:Int} (h1:1<=n) (h2:n<=64):bN (jG n)=true:=wO (.inl ⟨rfl,h1,h2,rfl⟩)
theorem rE {n:Int} (h1:0<=n) (h2:n<=64):bN (nI n)=true:=wO (.inr (.inl ⟨rfl,h1,h2,rfl⟩))
theorem Cq {g:List Nx} {n:Nx} (hv:∀d∈g,bN d.st=true) (h:(dI g n).2=0):bN (dI g n).1=true:=by
 have ho:=DK h
 have hk:∀i:Nat,(i:Int)<eP n.op->bN (kC g n i)=true:=λi hi=>Va hv ho.ki (by have:=ho.kl;omega)
 unfold dI at h ⊢
 split at h
 .cases h
 rename_i hc
 rw [if_neg hc]
 split at h
 .rename_i h3
  rw [if_pos h3]
  unfold cY at h ⊢
  split at h
  .rename_i h2
   rw [if_pos h2]
   split at h
   .cases h
   .rename_i GJ
    rw [if_neg GJ]
    exact rE (by omega) (by omega)
  .rename_i h2
   rw [if_neg h2]
   split at h
   .cases h
   rename_i h0
   rw [if_neg h0]
   split at h
   .cases h
   rename_i h1
   rw [if_neg h1]
   split at h
   .cases h
   rename_i h4
   rw [if_neg h4]
   split at h
   .cases h
   rename_i h5
   rw [if_neg h5]
   split at h
   .cases h
   rename_i h6
   rw [if_neg h6]
   simpa using h1
 rename_i h3
 rw [if_neg h3]
 split at h
 .cases h
 rename_i hf
 rw [if_neg hf]
 split at h
 .cases h
 rename_i hr
 rw [if_neg hr]
 split at h
 .cases h
 rename_i Wg
 rw [if_neg Wg]
 simp only [Bool.not_eq_false] at hf hr
 have Jd:n.op<=34:=by
  rcases Int.lt_or_le 34 n.op with h|h
  .have:=ho.kl
   unfold eP at this
   rw [if_pos (.inr h)] at this
   omega
  .exact h
 generalize hx:kC g n 0=x at *
 generalize hy:kC g n 1=y at *
 generalize hz:kC g n 2=z at *
 have vx:bN x=true:=by rw [<-hx];exact hk 0 (by unfold eP;repeat' split<;>omega)
 have SO:2<=eP n.op->bN y=true:=λh=>by rw [<-hy];exact hk 1 (by omega)
 have Nt:eP n.op=3->bN z=true:=λh=>by rw [<-hz];exact hk 2 (by omega)
 obtain ⟨op,kids,nn,m,u,tx,st⟩:=n
 simp only at *
 clear hx hy hz hk ho hc Wg
 rcases xH (by omega) Jd with rfl|rfl|rfl|rfl|rfl|rfl|rfl|rfl|rfl|rfl|rfl|rfl|rfl|rfl|rfl|rfl|rfl|rfl|rfl|rfl|rfl|rfl|rfl|rfl|rfl|rfl|rfl|rfl|rfl|rfl|rfl|rfl|rfl|rfl|rfl
 iterate 4 omega
 all_goals first |(have SO:=SO (by decide))|skip
 all_goals first |(have Nt:=Nt (by decide))|skip
 iterate 12 exact vx
 iterate 3 exact nM (by omega) (by omega)
 .show bN (if y.k=1 then nI (if y.n<z.n then z.n else y.n) else y)=true
  split
  .rename_i hk
   have hf:(decide (x=jG 1)&&(decide (y=z)||(y.k==1&&z.k==1)))=true:=hf
   have h1:=nc SO
   have h2:=nc Nt
   exact rE (by split<;>omega) (by split<;>omega)
  .exact SO
 .have hf:(x.k==0&&y.k==0)=true:=hf
  have hr:decide (x.n+y.n<=64)=true:=hr
  simp only [Bool.and_eq_true,beq_iff_eq] at hf
  have h1:=rH vx hf.1
  have h2:=rH SO hf.2
  exact nM (by omega) (of_decide_eq_true hr)
 .have hf:(x.k==0)=true:=hf
  have hr:(decide (0<=m)&&decide (m<=nn)&&decide (nn<x.n))=true:=hr
  simp only [Bool.and_eq_true,decide_eq_true_eq] at hr
  have h1:=rH vx (eq_of_beq hf)
  show bN (jG (nn - m+1))=true
  exact nM (by omega) (by omega)
 iterate 2
  .have hf:(x.k==0)=true:=hf
   have hr:(decide (1<=nn)&&decide (nn<=64 - x.n))=true:=hr
   simp only [Bool.and_eq_true,decide_eq_true_eq] at hr
   have h1:=rH vx (eq_of_beq hf)
   show bN (jG (x.n+nn))=true
   exact nM (by omega) (by omega)
 .have hf:(lD x&&decide (y=jG x.x))=true:=hf
  simp only [Bool.and_eq_true] at hf
  exact Hn vx hf.1
 .exact vx
 .have hf:(lD x&&decide (x=y))=true:=hf
  simp only [Bool.and_eq_true] at hf
  have h1:=hf.1
  unfold lD at h1
  simp only [Bool.or_eq_true,beq_iff_eq] at h1
  rw [ug] at vx
  exact nM (by omega) (by omega)
 .exact nM (by omega) (by omega)
 .exact nM (by omega) (by omega)
 .have hr:decide (x.n+y.n<=64)=true:=hr
  have h1:=nc vx
  have h2:=nc SO
  exact rE (by omega) (of_decide_eq_true hr)
 .exact vx
 .exact nM (by omega) (by omega)
 .have hr:decide (x.n+z.n<=64)=true:=hr
  have h1:=nc vx
  have h2:=nc Nt
  exact rE (by omega) (of_decide_eq_true hr)
 .exact nM (by omega) (by omega)
 .exact rE (by omega) (by omega)
theorem Vg.val {g:List Nx} (h:Vg g):∀d∈g,bN d.st=true:=by
 induction h with
 |nil=>simp
 |snoc hg hs hn ih=>
  intro d hd
  rcases fS.1 hd with hd|hd
  .exact ih d hd
  .simp only [cS,fF,or_false] at hd
   subst hd
   have:=Cq ih (by rw [hs])
   rwa [hs] at this
theorem var_eq {g g':List Nx} {a b:Nx} (ha:Br g a) (hb:Br g' b) (h0:a.op=0) (v9:b.op=0) (ht:a.tx=b.tx) (hs:a.st=b.st):a=b:=by
 have k0:∀{g:List Nx} {a:Nx},Br g a->a.op=0->a.kids=[]/\a.n=0/\a.m=0/\a.u=0:=by
  intro g a ha h0
  have h1:=ha.kl
  have h2:=ha.ok
  rw [h0] at h1
  unfold okF at h2
  rw [h0] at h2
  refine ⟨List.eq_nil_of_length_eq_zero (by have:eP 0=0:=rfl;omega),?_⟩
  have:EO 0=false:=rfl
  rw [this] at h2
  simp at h2
  exact ⟨h2.1.1.1,h2.1.1.2,h2.1.2⟩
 obtain ⟨a1,a2,a3,a4⟩:=k0 ha h0
 obtain ⟨b1,b2,b3,b4⟩:=k0 hb v9
 cases a;cases b
 simp only at *
 subst h0 v9 ht hs a1 a2 a3 a4 b1 b2 b3 b4
 rfl
theorem Vg.ok {g:List Nx} (h:Vg g):∀i d,g[i]? =some d->dI (g.take i) d=(d.st,0):=by
 induction h with
 |nil=>intro i d hd;simp at hd
 |@snoc g n hg hs hn ih=>
  intro i d hd
  rcases Nat.lt_or_ge i g.length with hi|hi
  .rw [List.getElem?_append_left hi] at hd
   rw [List.take_append_of_le_length (by omega)]
   exact ih i d hd
  .rw [List.getElem?_append_right hi] at hd
   have:i - g.length=0:=by
    have:=(ov.1 hd).1
    simp at this
    omega
   rw [this] at hd
   simp at hd
   subst hd
   rw [show i=g.length by omega,List.take_left]
   exact hs
theorem Vg.sok {g:List Nx} (h:Vg g):∀i d,g[i]? =some d->Br (g.take i) d:=λi d hd=>DK (by rw [h.ok i d hd])
theorem Vg.kids {g:List Nx} (h:Vg g) {i:Nat} {d:Nx} (hd:g[i]? =some d):∀k∈d.kids,0<=k/\k<(i:Int):=λk hk=>by
 have h1:=(h.sok i d hd).ki k hk
 have h2:=(ov.1 hd).1
 rw [List.length_take] at h1
 omega
theorem Vg.vars {g:List Nx} (h:Vg g):uL g:=by
 induction h with
 |nil=>intro d hd;cases hd
 |@snoc g n hg hs hn ih=>
  have one:∀d∈g,d.op=0->n.op=0->d.tx=n.tx->d.st=n.st:=by
   intro d hd h0 v9 ht
   have hso:Br g n:=DK (by rw [hs])
   unfold dI at hs
   split at hs
   .simp at hs
   rw [if_pos (by omega:n.op<=3)] at hs
   unfold cY at hs
   rw [if_neg (by omega)] at hs
   split at hs
   .simp at hs
   split at hs
   .simp at hs
   split at hs
   .simp at hs
   split at hs
   .simp at hs
   split at hs
   .simp at hs
   rename_i h1
   simp only [v9,true_and,Bool.not_eq_true] at h1
   rw [Ct ih,List.any_eq_false] at h1
   rcases decEq d.st n.st with h|h
   .exact absurd (decide_eq_true ⟨h0,ht,h⟩) (h1 d hd)
   .exact h
  intro d hd h0 e he v9 ht
  have hd:=fS.1 hd
  have he:=fS.1 he
  simp only [cS,fF,or_false] at hd he
  rcases hd with hd|hd
  .rcases he with he|he
   .exact ih d hd h0 e he v9 ht
   .rw [he] at ht v9 ⊢
    exact one d hd h0 v9 ht
  .rw [hd] at ht h0 ⊢
   rcases he with he|he
   .exact (one e he v9 h0 ht.symm).symm
   .rw [he]
theorem tm {n:Nx}:∀{g:List Nx} {i:Nat},l4 n g i=none->n∉g
 |[],i,_=>by simp
 |d::g,i,h=>by
  unfold l4 at h
  split at h
  .cases h
  .rename_i hd
   simp only [cS,not_or]
   exact ⟨λe=>hd e.symm,tm h⟩
theorem rv {n:Nx}:∀{g:List Nx} {i k:Nat},l4 n g i=some k->i<=k/\g[k - i]? =some n
 |d::g,i,k,h=>by
  unfold l4 at h
  split at h
  .rename_i hd
   cases h
   simp [hd]
  .have:=rv h
   refine ⟨by omega,?_⟩
   rw [show k - i=(k - (i+1))+1 by omega]
   simpa using this.2
set_option maxHeartbeats 1000000
abbrev Ll (k:Sl) (ks:List iw):En:=.iD 3 k (ks.flatMap pY)
theorem lhS {w:World} {k:Sl} {ks:List iw} (h:jU 3 w k (ks.flatMap pY)):LH F0 w w [] [Ll k ks]:=mu _ (by
 intro e he
 simp only [cS,fF,or_false] at he
 subst he
 exact h)
theorem WO {w:World} {k:Sl} {ks:List iw} {x y z:iw} (op:Int) (h:jU 3 w k (ks.flatMap pY)) (hx:ks[0]? =some x) (hy:2<=eP op->ks[1]? =some y) (hz:eP op=3->ks[2]? =some z) (h4:4<=op) (Jd:op<=34):
  Calls Tryz.prog lM #[.i op,k.v] w λr w'=>r=.returned (.bool (iU op x y z))/\bG w w':=by
 refine enthymemeref07_fit.cU _ _ w _ (fD h (rfl:(0:Int)=((0:Nat):Int)) hx λp0 hp0 c0=>⟨x.k,x.n,x.x,c0.c0,c0.c1,c0.c2,(lhS h).bF λb5 w1 H1=>?_⟩)
 have main:∀(a:Bool) (w2:World),a=lD x->LH F0 w w2 [.g b5] [Ll k ks]->enthymemeref07_fit.dV op k b5 x.k x.n x.x (x.k==0) (x.k==1) a w2 λr w'=>r=.returned (.bool (iU op x y z))/\bG w w':=by
  rintro a w2 ha H2
  have R2:∀{w3:World} {L:List En},LH F0 w w3 L [Ll k ks]->jU 3 w3 k (ks.flatMap pY):=λH=>H.getD 0
  have e1:(1:Int)=((1:Nat):Int):=rfl
  have e2:(2:Int)=((2:Nat):Int):=rfl
  rcases xH (by omega) Jd with rfl|rfl|rfl|rfl|rfl|rfl|rfl|rfl|rfl|rfl|rfl|rfl|rfl|rfl|rfl|rfl|rfl|rfl|rfl|rfl|rfl|rfl|rfl|rfl|rfl|rfl|rfl|rfl|rfl|rfl|rfl|rfl|rfl|rfl|rfl
  iterate 4 omega
  all_goals repeat (first |refine aI rfl ?_|refine aQ rfl ?_)
  all_goals first |(have hy:=hy (by decide))|skip
  all_goals first |(have hz:=hz (by decide))|skip
  iterate 2 exact ⟨rfl,H2.fr⟩
  iterate 12
   .refine aJ (λhk=>?_) (λhk=>H2.aL λw3 H3=>⟨?_,H3.fr⟩)
    .refine fD (R2 H2) e1 hy λp hp _=>H2.aL λw3 H3=>?_
     have c:=dA (R2 H3) e1 hy hp
     refine ⟨_,_,_,c.c0,c.c1,c.c2,?_,H3.fr⟩
     rw [od]
     show _=Ending.returned (.bool (x.k==0&&decide (x=y)))
     rw [hk];rfl
    .show _=Ending.returned (.bool (x.k==0&&decide (x=y)))
     rw [beq_eq_false_iff_ne.2 hk];rfl
  .refine fD (R2 H2) e1 hy λp hp _=>H2.aL λw3 H3=>?_
   have c:=dA (R2 H3) e1 hy hp
   have fe:iU 18 x y z=(decide (x=y)||(x.k==1&&y.k==1)):=rfl
   rw [fe]
   refine ⟨_,_,_,c.c0,c.c1,c.c2,oc (λhe=>⟨by rw [decide_eq_true he];rfl,H3.fr⟩) (λhe=>?_)⟩
   rw [decide_eq_false he,Bool.false_or]
   refine aJ (λhk=>fD (R2 H3) e1 hy λp' _ c'=>⟨_,c'.c0,?_,H3.fr⟩) (λhk=>⟨?_,H3.fr⟩)
   .rw [hk];rfl
   .rw [beq_eq_false_iff_ne.2 hk];rfl
  .refine H2.aL λw3 H3=>H3.aK (oq 1 w3) ?_
   rintro _ w4 rfl H4
   have fe:iU 19 x y z=(decide (x=jG 1)&&(decide (y=z)||(y.k==1&&z.k==1))):=rfl
   rw [fe]
   refine ⟨_,_,_,rfl,oc (b:=jG 1) (λhe=>?_) (λhe=>⟨by rw [decide_eq_false he];rfl,H4.fr⟩)⟩
   rw [decide_eq_true he,Bool.true_and]
   refine fD (R2 H4) e1 hy λp _ c=>⟨_,_,_,c.c0,c.c1,c.c2,fD (R2 H4) e2 hz λq _ d=>⟨_,_,_,d.c0,d.c1,d.c2,oc (λh2=>⟨by rw [decide_eq_true h2];rfl,H4.fr⟩) (λh2=>?_)⟩⟩
   rw [decide_eq_false h2,Bool.false_or]
   refine fD (R2 H4) e1 hy λp' _ c'=>⟨_,c'.c0,aJ (λhk=>fD (R2 H4) e2 hz λq' _ d'=>⟨_,d'.c0,?_,H4.fr⟩) (λhk=>⟨?_,H4.fr⟩)⟩
   .rw [hk];rfl
   .rw [beq_eq_false_iff_ne.2 hk];rfl
  .have fe:iU 20 x y z=(x.k==0&&y.k==0):=rfl
   rw [fe]
   refine aJ (λhk=>fD (R2 H2) e1 hy λp _ c=>⟨_,c.c0,?_,H2.fr⟩) (λhk=>⟨?_,H2.fr⟩)
   .rw [hk];rfl
   .rw [beq_eq_false_iff_ne.2 hk];rfl
  iterate 3 exact ⟨rfl,H2.fr⟩
  .have fe:iU 24 x y z=(lD x&&decide (y=jG x.x)):=rfl
   rw [fe,<-ha]
   refine bA (λht=>?_) (λhf=>H2.aL λw3 H3=>⟨by rw [hf];rfl,H3.fr⟩)
   refine fD (R2 H2) e1 hy λp hp _=>H2.aL λw3 H3=>?_
   have c:=dA (R2 H3) e1 hy hp
   refine ⟨_,_,_,c.c0,c.c1,c.c2,H3.aK (oq x.x w3) ?_⟩
   rintro _ w4 rfl H4
   have d:=dA (R2 H4) e1 hy hp
   refine ⟨_,_,_,rfl,d.c0,d.c1,d.c2,?_,H4.fr⟩
   rw [ht,Bool.true_and]
   exact congrArg (λb=>Ending.returned (.bool b)) (od y (jG x.x))
  .have fe:iU 25 x y z=(lD x&&decide (y=jG x.x)&&(decide (z=nP x)||(x.k==3&&z.k==1&&decide (z.n<=x.n)))):=rfl
   rw [fe,<-ha]
   refine eT (λhf=>H2.aL λw3 H3=>⟨by rw [hf];rfl,H3.fr⟩) (λht=>?_)
   rw [ht,Bool.true_and]
   refine fD (R2 H2) e1 hy λp hp _=>H2.aL λw3 H3=>?_
   have c:=dA (R2 H3) e1 hy hp
   refine ⟨_,_,_,c.c0,c.c1,c.c2,H3.aK (oq x.x w3) ?_⟩
   rintro _ w4 rfl H4
   have d:=dA (R2 H4) e1 hy hp
   refine ⟨_,_,_,rfl,d.c0,d.c1,d.c2,Aq (a:=y) (b:=jG x.x) (λie=>⟨by rw [decide_eq_false ie];rfl,H4.fr⟩) (λheq=>?_)⟩
   rw [decide_eq_true heq,Bool.true_and]
   refine fD (R2 H4) e2 hz λq hq _=>H4.aL λw5 H5=>?_
   have c5:=dA (R2 H5) e2 hz hq
   refine ⟨_,_,_,c5.c0,c5.c1,c5.c2,H5.aK (xM x w5) ?_⟩
   rintro _ w6 rfl H6
   have d6:=dA (R2 H6) e2 hz hq
   refine ⟨_,_,_,rfl,d6.c0,d6.c1,d6.c2,oc (a:=z) (b:=nP x) (λhe=>⟨by rw [decide_eq_true he];rfl,H6.fr⟩) (λie=>?_)⟩
   rw [decide_eq_false ie,Bool.false_or]
   refine aJ (λhk=>fD (R2 H6) e2 hz λq' _ d'=>⟨_,d'.c0,aJ (λO4=>fD (R2 H6) e2 hz λq2 _ d2=>⟨_,d2.c1,?_,H6.fr⟩) (λO4=>⟨?_,H6.fr⟩)⟩) (λhk=>⟨?_,H6.fr⟩)
   .rw [hk,O4];rfl
   .rw [beq_eq_false_iff_ne.2 O4,Bool.and_false];rfl
   .rw [beq_eq_false_iff_ne.2 hk];rfl
  .have fe:iU 26 x y z=(lD x&&decide (x=y)):=rfl
   rw [fe,<-ha]
   refine bA (λht=>?_) (λhf=>H2.aL λw3 H3=>⟨by rw [hf];rfl,H3.fr⟩)
   refine fD (R2 H2) e1 hy λp hp _=>H2.aL λw3 H3=>?_
   have c:=dA (R2 H3) e1 hy hp
   refine ⟨_,_,_,c.c0,c.c1,c.c2,?_,H3.fr⟩
   rw [od,ht];rfl
  iterate 2 exact ⟨rfl,H2.fr⟩
  .have fe:iU 29 x y z=(x.k==1&&y.k==1):=rfl
   rw [fe]
   refine aJ (λhk=>fD (R2 H2) e1 hy λp _ c=>⟨_,c.c0,?_,H2.fr⟩) (λhk=>⟨?_,H2.fr⟩)
   .rw [hk];rfl
   .rw [beq_eq_false_iff_ne.2 hk];rfl
  .have fe:iU 30 x y z=(x.k==1&&decide (y=jG 7)&&decide (z=jG 7)):=rfl
   rw [fe]
   refine aJ (λhk=>?_) (λhk=>H2.aL λw3 H3=>⟨by rw [beq_eq_false_iff_ne.2 hk];rfl,H3.fr⟩)
   rw [hk]
   refine fD (R2 H2) e1 hy λp hp _=>H2.aL λw3 H3=>?_
   have c:=dA (R2 H3) e1 hy hp
   refine ⟨_,_,_,c.c0,c.c1,c.c2,H3.aK (oq 7 w3) ?_⟩
   rintro _ w4 rfl H4
   have d:=dA (R2 H4) e1 hy hp
   refine ⟨_,_,_,rfl,d.c0,d.c1,d.c2,oc (a:=y) (b:=jG 7) (λhe=>?_) (λie=>⟨by rw [decide_eq_false ie];rfl,H4.fr⟩)⟩
   rw [decide_eq_true he]
   refine fD (R2 H4) e2 hz λq hq c4=>⟨_,_,_,c4.c0,c4.c1,c4.c2,H4.aK (oq 7 w4) ?_⟩
   rintro _ w5 rfl H5
   have d5:=dA (R2 H5) e2 hz hq
   exact ⟨_,_,_,rfl,d5.c0,d5.c1,d5.c2,congrArg (λb=>Ending.returned (.bool b)) (od z (jG 7)),H5.fr⟩
  .have fe:iU 31 x y z=(x.k==1&&y.k==1):=rfl
   rw [fe]
   refine aJ (λhk=>fD (R2 H2) e1 hy λp _ c=>⟨_,c.c0,?_,H2.fr⟩) (λhk=>⟨?_,H2.fr⟩)
   .rw [hk];rfl
   .rw [beq_eq_false_iff_ne.2 hk];rfl
  .have fe:iU 32 x y z=(x.k==1&&y.k==1&&z.k==1):=rfl
   rw [fe]
   refine aJ (λhk=>fD (R2 H2) e1 hy λp _ c=>⟨_,c.c0,aJ (λU7=>fD (R2 H2) e2 hz λq _ d=>⟨_,d.c0,?_,H2.fr⟩) (λU7=>⟨?_,H2.fr⟩)⟩) (λhk=>⟨?_,H2.fr⟩)
   .rw [hk,U7];rfl
   .rw [beq_eq_false_iff_ne.2 U7,Bool.and_false];rfl
   .rw [beq_eq_false_iff_ne.2 hk];rfl
  .exact ⟨rfl,H2.fr⟩
  .refine H2.aL λw3 H3=>H3.aK (oq 8 w3) ?_
   rintro _ w4 rfl H4
   exact ⟨_,_,_,rfl,congrArg (λb=>Ending.returned (.bool b)) (od x (jG 8)),H4.fr⟩
 refine aJ (λhk=>H1.aL λw2 H2=>main true w2 ?_ H2) (λhk=>H1.aL λw2 H2=>main _ w2 ?_ H2)
 .unfold lD;rw [hk];rfl
 .unfold lD;rw [beq_eq_false_iff_ne.2 hk];rfl
def T7 (n:Nx) (x y z:iw):Ending->Prop:=λr=>∃(t:iw) (b:Bool),r=.returned (.tuple #[kA t,.bool b])/\b=vj n x y z/\(b=true->t=rB n x y z)
theorem MA {w:World} {k:Sl} {ks:List iw} {x y z:iw} (d:Nd) (h:jU 3 w k (ks.flatMap pY)) (hx:ks[0]? =some x) (hy:2<=eP d.x.op->ks[1]? =some y) (hz:eP d.x.op=3->ks[2]? =some z) (h4:4<=d.x.op) (Jd:d.x.op<=34)
  (vx:bN x=true) (vy:2<=eP d.x.op->bN y=true) (vz:eP d.x.op=3->bN z=true) (hn:oo d.x.n) (hm:oo d.x.m):
  Calls Tryz.prog jN #[d.v,k.v] w λr w'=>T7 d.x x y z r/\bG w w':=by
 obtain ⟨x1,x2,x3,x4,_⟩:=nc vx
 obtain ⟨DY,Y6⟩:=hn
 obtain ⟨SD,Wk⟩:=hm
 refine enthymemeref07_result.cU _ _ _ _ _ _ _ _ _ _ w _ ((lhS h).bF λb2 w1 H1=>H1.bF λb4 w2 H2=>fD (H2.getD 0) (rfl:(0:Int)=((0:Nat):Int)) hx λp0 hp0 c0=>⟨x.k,x.n,x.x,c0.c0,c0.c1,c0.c2,H2.bF λb6 w3 H3=>?_⟩)
 have R2:∀{w3:World} {L:List En},LH F0 w w3 L [Ll k ks]->jU 3 w3 k (ks.flatMap pY):=λH=>H.getD 0
 have e1:(1:Int)=((1:Nat):Int):=rfl
 have e2:(2:Int)=((2:Nat):Int):=rfl
 obtain ⟨⟨op,kids,n,m,u,tx,st⟩,Qx⟩:=d
 simp only at hy hz h4 Jd vy vz DY Y6 SD Wk
 have S1:∀w4:World,op≠16->op≠17->op≠18->op≠33->LH F0 w w4 [.g b2,.g b4,.g b6] [Ll k ks]->enthymemeref07_result.gm k b2 op Qx n m u tx st.k st.n st.x b4 0 0 0 b6 x.k x.n x.x op w4 λr w'=>T7 ⟨op,kids,n,m,u,tx,st⟩ x y z r/\bG w w':=by
  intro w4 n1 n2 n3 n4 H4
  rcases xH (by omega) Jd with rfl|rfl|rfl|rfl|rfl|rfl|rfl|rfl|rfl|rfl|rfl|rfl|rfl|rfl|rfl|rfl|rfl|rfl|rfl|rfl|rfl|rfl|rfl|rfl|rfl|rfl|rfl|rfl|rfl|rfl|rfl|rfl|rfl|rfl|rfl
  iterate 4 omega
  all_goals repeat (first |refine aI rfl ?_|refine aQ rfl ?_)
  all_goals first |(have hy:=hy (by decide))|skip
  all_goals first |(have hz:=hz (by decide))|skip
  all_goals first |(have vy:=nc (vy (by decide)))|skip
  all_goals first |(have vz:=nc (vz (by decide)))|skip
  iterate 12 exact H4.aL λw5 H5=>⟨⟨x,true,rfl,rfl,λ_=>rfl⟩,H5.fr⟩
  iterate 3 omega
  .refine fD (R2 H4) e1 hy λp hp c=>⟨_,c.c0,aJ (λhk=>?_) (λhk=>?_)⟩
   .refine fD (R2 H4) e1 hy λp hp _=>H4.aL λw5 H5=>?_
    have c5:=dA (R2 H5) e1 hy hp
    refine ⟨_,c5.c1,fD (R2 H5) e2 hz λq hq c6=>⟨_,c6.c1,H5.aK (lY _ w5) ?_⟩⟩
    rintro _ w6 rfl H6
    refine ⟨_,_,_,rfl,H6.aL λw7 H7=>⟨⟨_,true,rfl,rfl,λ_=>?_⟩,H7.fr⟩⟩
    show _=if y.k=1 then _ else _
    rw [if_pos hk]
   .refine fD (R2 H4) e1 hy λp hp c'=>⟨_,_,_,c'.c0,c'.c1,c'.c2,H4.aL λw5 H5=>⟨⟨y,true,rfl,rfl,λ_=>?_⟩,H5.fr⟩⟩
    show _=if y.k=1 then _ else _
    rw [if_neg hk]
  .refine fD (R2 H4) e1 hy λp hp _=>H4.aL λw5 H5=>?_
   have c5:=dA (R2 H5) e1 hy hp
   refine ⟨_,c5.c1,fD (R2 H5) e1 hy λq hq _=>?_⟩
   have c6:=dA (R2 H5) e1 hy hq
   refine ⟨_,c6.c1,H5.aK (oq _ w5) ?_⟩
   rintro _ w6 rfl H6
   refine ⟨_,_,_,rfl,(dA (R2 H6) e1 hy hq).c1,H6.aL λw7 H7=>⟨(dA (R2 H7) e1 hy hq).c1,⟨_,_,rfl,?_,λ_=>?_⟩,H7.fr⟩⟩
   .rw [IntWalk.i64_in _ (by omega)];rfl
   .show jG _=jG (x.n+y.n)
    rw [IntWalk.i64_in _ (by omega)]
  .refine H4.aL λw5 H5=>H5.aK (oq _ w5) ?_
   rintro _ w6 rfl H6
   have hr:vj ⟨21,kids,n,m,u,tx,st⟩ x y z=(decide (0<=m)&&decide (m<=n)&&decide (n<x.n)):=rfl
   refine ⟨_,_,_,rfl,aN (λg1=>aN (λg2=>H6.aL λw7 H7=>⟨⟨_,_,rfl,?_,λg3=>?_⟩,H7.fr⟩) (λg2=>H6.aL λw7 H7=>⟨⟨_,false,rfl,?_,λg3=>by cases g3⟩,H7.fr⟩)) (λg1=>H6.aL λw7 H7=>⟨⟨_,false,rfl,?_,λg3=>by cases g3⟩,H7.fr⟩)⟩
   .rw [hr,decide_eq_true (show 0<=m from g1),decide_eq_true g2];rfl
   .have g3:=of_decide_eq_true g3
    show jG _=jG (n - m+1)
    rw [IntWalk.i64_in (n - m) (by omega),IntWalk.i64_in _ (by omega)]
   .rw [hr,decide_eq_false g2,Bool.and_false];rfl
   .rw [hr,decide_eq_false (show ¬0<=m from g1)];rfl
  iterate 2
   .refine H4.aL λw5 H5=>H5.aK (oq _ w5) ?_
    rintro _ w6 rfl H6
    have YV:IntKind.wrap .i64 (64 - x.n)=64 - x.n:=IntWalk.i64_in _ (by omega)
    rw [YV]
    refine ⟨_,_,_,rfl,aN (λg1=>H6.aL λw7 H7=>⟨⟨_,_,rfl,?_,λg3=>?_⟩,H7.fr⟩) (λg1=>H6.aL λw7 H7=>⟨⟨_,false,rfl,?_,λg3=>by cases g3⟩,H7.fr⟩)⟩
    .show _=(decide (1<=n)&&decide (n<=64 - x.n))
     rw [decide_eq_true (show 1<=n from g1)];rfl
    .have g3:=of_decide_eq_true g3
     show jG _=jG (x.n+n)
     rw [IntWalk.i64_in _ (by omega)]
    .show _=(decide (1<=n)&&decide (n<=64 - x.n))
     rw [decide_eq_false (show ¬1<=n from g1)];rfl
  .refine H4.aK (xM x w4) ?_
   rintro _ w5 rfl H5
   exact ⟨_,_,_,rfl,H5.aL λw6 H6=>⟨⟨_,true,rfl,rfl,λ_=>rfl⟩,H6.fr⟩⟩
  .exact H4.aL λw5 H5=>⟨⟨x,true,rfl,rfl,λ_=>rfl⟩,H5.fr⟩
  .refine H4.aK (oq _ w4) ?_
   rintro _ w5 rfl H5
   exact ⟨_,_,_,rfl,H5.aL λw6 H6=>⟨⟨_,true,rfl,rfl,λ_=>rfl⟩,H6.fr⟩⟩
  .refine H4.aK (oq _ w4) ?_
   rintro _ w5 rfl H5
   exact ⟨_,_,_,rfl,H5.aL λw6 H6=>⟨⟨_,true,rfl,rfl,λ_=>rfl⟩,H6.fr⟩⟩
  .refine H4.aL λw5 H5=>H5.aK (oq _ w5) ?_
   rintro _ w6 rfl H6
   refine ⟨_,_,_,rfl,aN (λg1=>H6.aL λw7 H7=>⟨⟨_,_,rfl,?_,λg3=>rfl⟩,H7.fr⟩) (λg1=>H6.aL λw7 H7=>⟨⟨_,false,rfl,?_,λg3=>by cases g3⟩,H7.fr⟩)⟩
   .show _=(decide (0<=n)&&decide (n<=63))
    rw [decide_eq_true (show 0<=n from g1)];rfl
   .show _=(decide (0<=n)&&decide (n<=63))
    rw [decide_eq_false (show ¬0<=n from g1)];rfl
  .refine fD (R2 H4) e1 hy λp hp _=>H4.aL λw5 H5=>?_
   have c5:=dA (R2 H5) e1 hy hp
   refine ⟨_,c5.c1,fD (R2 H5) e1 hy λq hq _=>?_⟩
   have c6:=dA (R2 H5) e1 hy hq
   refine ⟨_,c6.c1,H5.aK (lY _ w5) ?_⟩
   rintro _ w6 rfl H6
   refine ⟨_,_,_,rfl,(dA (R2 H6) e1 hy hq).c1,H6.aL λw7 H7=>⟨(dA (R2 H7) e1 hy hq).c1,⟨_,_,rfl,?_,λ_=>?_⟩,H7.fr⟩⟩
   .rw [IntWalk.i64_in _ (by omega)];rfl
   .show nI _=nI (x.n+y.n)
    rw [IntWalk.i64_in _ (by omega)]
  .exact H4.aL λw5 H5=>⟨⟨x,true,rfl,rfl,λ_=>rfl⟩,H5.fr⟩
  .refine H4.aK (oq _ w4) ?_
   rintro _ w5 rfl H5
   exact ⟨_,_,_,rfl,H5.aL λw6 H6=>⟨⟨_,true,rfl,rfl,λ_=>rfl⟩,H6.fr⟩⟩
  .refine fD (R2 H4) e2 hz λp hp _=>H4.aL λw5 H5=>?_
   have c5:=dA (R2 H5) e2 hz hp
   refine ⟨_,c5.c1,fD (R2 H5) e2 hz λq hq _=>?_⟩
   have c6:=dA (R2 H5) e2 hz hq
   refine ⟨_,c6.c1,H5.aK (lY _ w5) ?_⟩
   rintro _ w6 rfl H6
   refine ⟨_,_,_,rfl,(dA (R2 H6) e2 hz hq).c1,H6.aL λw7 H7=>⟨(dA (R2 H7) e2 hz hq).c1,⟨_,_,rfl,?_,λ_=>?_⟩,H7.fr⟩⟩
   .rw [IntWalk.i64_in _ (by omega)];rfl
   .show nI _=nI (x.n+z.n)
    rw [IntWalk.i64_in _ (by omega)]
  .omega
  .refine H4.aK (lY _ w4) ?_
   rintro _ w5 rfl H5
   exact ⟨_,_,_,rfl,H5.aL λw6 H6=>⟨⟨_,true,rfl,rfl,λ_=>rfl⟩,H6.fr⟩⟩
 have S0:∀w4:World,(op=16\/op=17\/op=18\/op=33)->LH F0 w w4 [.g b2,.g b4,.g b6] [Ll k ks]->enthymemeref07_result.dV b4 0 0 0 w4 λr w'=>T7 ⟨op,kids,n,m,u,tx,st⟩ x y z r/\bG w w':=by
  intro w4 ho H4
  refine H4.aK (oq 1 w4) ?_
  rintro _ w5 rfl H5
  refine ⟨_,_,_,rfl,H5.aL λw6 H6=>⟨⟨_,true,rfl,?_,λ_=>?_⟩,H6.fr⟩⟩
  .rcases ho with rfl|rfl|rfl|rfl<;>rfl
  .rcases ho with rfl|rfl|rfl|rfl<;>rfl
 exact aJ (λh=>aQ (beq_iff_eq.2 h) (H3.aL λw4 H4=>S0 w4 (.inl h) H4)) λh1=>aJ (λh=>aQ (beq_iff_eq.2 h) (H3.aL λw4 H4=>S0 w4 (.inr (.inl h)) H4)) λh2=>aJ (λh=>aQ (beq_iff_eq.2 h) (H3.aL λw4 H4=>S0 w4 (.inr (.inr (.inl h))) H4)) λh3=>aJ (λh=>H3.aL λw4 H4=>S0 w4 (.inr (.inr (.inr h))) H4) λh4'=>H3.aL λw4 H4=>S1 w4 h1 h2 h3 h4' H4
theorem Uz:iy Tryz.prog og aS (.agg #[.int .i64 0,.int .i64 0,.int .i64 0]) 3 24:=⟨by kernel_rfl,by kernel_rfl,rfl,by decide,by decide⟩
def Mb (t:ByteArray):Prop:=t.size<=100000/\∃b,CV (bl t)=some b
theorem Mb.can {t:ByteArray} (h:Mb t):CV (bl t)=some (A0 t):=by
 obtain ⟨b,hb⟩:=h.2
 unfold A0
 rw [hb]
 cases b<;>rfl
structure V7 (d:Nx):Prop where
 kl:d.kids.length<=lB
 n:oo d.n
 m:oo d.m
 tx:d.op=33->Mb d.tx
structure YO (g:List Nx):Prop where
 len:g.length<=lB
 val:∀d∈g,bN d.st=true
 vars:uL g
theorem U' {l:List Nd} {n:Nx} {i:Nat} {k:Int} {e:Nd} (hk:n.kids[i]? =some k) (he:l[k.toNat]? =some e):kC (xs l) n i=e.x.st:=by
 unfold kC
 rw [hk]
 dsimp only
 rw [sv he]
theorem Ij (i:Nat) (f:Nat->iw):((List.range (i+1)).map f).flatMap pY=((List.range i).map f).flatMap pY++pY (f i):=by
 rw [List.range_succ];simp
theorem NB {op:Int} {m:Nat} (h:eP op=(m:Int)) (h0:m≠0):4<=op/\op<=34:=by
 unfold eP at h
 split at h
 .omega
 .split at h
  .omega
  .omega
theorem KW {op:Int} (h:eP op=0):0<=op/\op<=3:=by
 unfold eP at h
 split at h
 .omega
 .split at h
  .omega
  .split at h
   .omega
   .split at h<;>omega
theorem M6 {g:List Nx} {n:Nx} (h:A4 g n=0):(eP n.op==(n.kids.length:Int)&&n.kids.all (iu g)&&okF n)=true:=by
 unfold A4 at h
 split at h
 .assumption
 .omega
theorem KX {g:List Nx} {n:Nx} (hv:∀d∈g,bN d.st=true) (hk:n.kids.all (iu g)=true) {i:Nat} (hi:i<n.kids.length):bN (kC g n i)=true:=by
 have h1:=wD.1 hk _ (QY hi)
 unfold iu at h1
 simp only [Bool.and_eq_true,decide_eq_true_eq] at h1
 unfold kC
 rw [g8 hi]
 dsimp only
 have h2:(n.kids[i]).toNat<g.length:=by omega
 rw [g8 h2]
 exact hv _ (QY h2)
theorem Ef {w:World} {s:Sl} {l:List Nd} {d:Nd} (h:GP w s l) (hd:d.P w) (hg:YO (xs l)) (ho:V7 d.x):
  Calls Tryz.prog hG #[s.v,d.v] w λr w'=>r=kH (dI (xs l) d.x)/\bG w w':=by
 have hn:=oT h
 have nT:(xs l).length=l.length:=by simp [xs]
 have SB:d.ks.n=d.x.kids.length:=cX.len hd
 have hl:=hg.len
 have hk:=ho.kl
 rw [nT] at hl
 refine enthymemeref07_SortOf.cU _ _ _ _ _ _ _ _ _ _ w _ ((XZ h hd).bF λb3 w1 H1=>H1.bF λb4 w2 H2=>H2.aK (Mt (cE.1 (H2.getD 0)) (H2.getD 1) hk) ?_)
 rintro _ w3 rfl H3
 refine ⟨_,rfl,dX (λie=>H3.aL λw4 H4=>⟨?_,H4.fr⟩) (λh0=>?_)⟩
 .unfold dI
  unfold A4 at ie ⊢
  split
  .rename_i hc
   rw [if_pos hc] at ie
   exact absurd rfl ie
  .rename_i hc
   rw [Bool.not_eq_true] at hc
   rw [hc];rfl
 have hf:=M6 h0
 have hf1:eP d.x.op=(d.x.kids.length:Int):=by
  simp only [Bool.and_eq_true] at hf
  exact eq_of_beq hf.1.1
 have Y2:d.x.kids.all (iu (xs l))=true:=by
  simp only [Bool.and_eq_true] at hf
  exact hf.1.2
 have SJ:dI (xs l) d.x=if d.x.op<=3 then cY (xs l) d.x else
   if iU d.x.op (kC (xs l) d.x 0) (kC (xs l) d.x 1) (kC (xs l) d.x 2)=false then (o4,9) else
   if vj d.x (kC (xs l) d.x 0) (kC (xs l) d.x 1) (kC (xs l) d.x 2)=false then (o4,5) else
   if d.x.op=33/\A0 d.x.tx=false then (o4,2) else (rB d.x (kC (xs l) d.x 0) (kC (xs l) d.x 1) (kC (xs l) d.x 2),0):=by
  unfold dI;rw [hf];rfl
 refine aJ (λyV=>?_) (λyV=>?_)
 .have hz:=KW (op:=d.x.op) (by omega)
  refine H3.aK (Uo (cE.1 (H3.getD 0)) (H3.getD 1) hl hz.1 hz.2 hg.vars) ?_
  rintro _ w4 rfl H4
  refine ⟨_,_,_,_,rfl,H4.aL λw5 H5=>⟨?_,H5.fr⟩⟩
  rw [SJ,if_pos hz.2]
 have h4:=NB (op:=d.x.op) hf1 (by omega)
 rw [if_neg (by omega)] at SJ
 unfold lB at hk hl
 have loop:∀(m i:Nat) (k7:Sl) (w4:World),i+m=d.x.kids.length->LH F0 w w4 [.g b3,.g b4,.row aS 3 k7 (((List.range i).map (kC (xs l) d.x)).flatMap pY)] (sA s l d)->
   enthymemeref07_SortOf.eE s b3 d.x.op d.ks d.x.n d.x.m d.x.u d.x.tx d.x.st.k d.x.st.n d.x.st.x b4 0 0 0 k7 (i:Int) w4 λr w'=>r=kH (dI (xs l) d.x)/\bG w w':=by
  intro m
  induction m with
  |zero=>
   intro i k7 w4 hi H4
   have hi:i=d.x.kids.length:=by omega
   subst hi
   have R4:jU 3 w4 k7 (((List.range d.x.kids.length).map (kC (xs l) d.x)).flatMap pY):=(H4.get 2:aO _ _ _ _ _).iD
   have sQ:∀j,j<d.x.kids.length->((List.range d.x.kids.length).map (kC (xs l) d.x))[j]? =some (kC (xs l) d.x j):=λj hj=>by
    rw [List.getElem?_map,List.getElem?_range hj];rfl
   have hvl:∀j,j<d.x.kids.length->bN (kC (xs l) d.x j)=true:=λj hj=>KX hg.val Y2 hj
   refine enthymemeref07_SortOf.aY _ _ _ _ _ _ _ _ _ _ _ _ _ _ _ _ _ _ _ (aI (decide_eq_false (by omega)) (H4.aK (WO d.x.op R4 (sQ 0 (by omega)) (λh2=>sQ 1 (by omega)) (λh3=>sQ 2 (by omega)) h4.1 h4.2) ?_))
   rintro _ w5 rfl H5
   refine ⟨_,rfl,eT (λrT=>H5.aL λw6 H6=>⟨by rw [SJ,if_pos rT];rfl,H6.fr⟩) (λrT=>?_)⟩
   rw [if_neg (by rw [rT];simp)] at SJ
   have R5:jU 3 w5 k7 (((List.range d.x.kids.length).map (kC (xs l) d.x)).flatMap pY):=(H5.get 2:aO _ _ _ _ _).iD
   refine H5.aK (MA d R5 (sQ 0 (by omega)) (λh2=>sQ 1 (by omega)) (λh3=>sQ 2 (by omega)) h4.1 h4.2 (hvl 0 (by omega)) (λh2=>hvl 1 (by omega)) (λh3=>hvl 2 (by omega)) ho.n ho.m) ?_
   rintro _ w6 ⟨t,b,rfl,hb,ht⟩ H6
   refine ⟨_,_,_,_,rfl,H6.bF λpH w7 H7=>eT (λhbf=>H7.aL λw8 H8=>⟨?_,H8.fr⟩) (λzH=>?_)⟩
   .rw [SJ,if_pos (by rw [<-hb,hbf])];rfl
   rw [if_neg (by rw [<-hb,zH];simp)] at SJ
   have ht:=ht zH
   have S1:∀(c:Bool) (w8:World) (L:List En),(d.x.op=33/\A0 d.x.tx=false↔c=false)->En.g b4∈L->En.g pH∈L->LH F0 w w8 L (sA s l d)->enthymemeref07_SortOf.gm b4 0 0 0 pH t.k t.n t.x c w8 λr w'=>r=kH (dI (xs l) d.x)/\bG w w':=by
    intro c w8 L hc m4 m10 H8
    have ke:∀b∈[b4,pH],En.g b∈L:=by
     intro b hb
     simp only [cS,fF,or_false] at hb
     rcases hb with rfl|rfl
     .exact m4
     .exact m10
    refine eT (λhcf=>H8.aL (λw9 H9=>⟨?_,H9.fr⟩) ke) (λhct=>H8.aL (λw9 H9=>⟨?_,H9.fr⟩) ke)
    .rw [SJ,if_pos (hc.2 hcf)];rfl
    .rw [SJ,if_neg (λh=>by rw [hct] at hc;cases hc.1 h),ht]
   refine dX (λoJ=>H7.aL λw8 H8=>S1 true w8 _ ⟨λh=>absurd h.1 oJ,λh=>by cases h⟩ (by simp) (by simp) H8) (λoJ=>H7.aL λw8 H8=>?_)
   have KP:=ho.tx oJ
   refine H8.aK (Ed d.x.tx KP.1 _ KP.can w8) ?_
   rintro _ w9 rfl H9
   exact ⟨_,rfl,S1 _ w9 _ ⟨λh=>h.2,λh=>⟨oJ,h⟩⟩ (by simp) (by simp) H9⟩
  |succ m ih=>
   intro i k7 w4 hi H4
   have A8:d.x.kids[i]? =some (d.x.kids[i]'(by omega)):=g8 (by omega)
   have u0:=wD.1 Y2 _ (cR A8)
   generalize d.x.kids[i]'(by omega)=kx at A8 u0
   unfold iu at u0
   simp only [Bool.and_eq_true,decide_eq_true_eq] at u0
   have A7:l[kx.toNat]? =some (l[kx.toNat]'(by omega)):=g8 (by omega)
   generalize l[kx.toNat]'(by omega)=e at A7
   have DY:cX w4 d.ks d.x.kids:=H4.getD 1
   have iO:=Nd.b0 (show jU 9 w4 s (l.flatMap Nd.c) from (cE.1 (H4.getD 0)).1)
   refine enthymemeref07_SortOf.aY _ _ _ _ _ _ _ _ _ _ _ _ _ _ _ _ _ _ _ (aQ (decide_eq_true (by omega)) ⟨by omega,by omega,DY.cell A8 (by omega) λp hp hc=>⟨kx,hc,kD (cE.1 (H4.getD 0)) (i:=kx.toNat) (by omega) A7 λq hq c=>⟨_,_,_,c.s0,c.s1,c.s2,?_⟩⟩⟩)
   have hlen:k7.n=i:=by
    have:=(H4.get 2:aO _ _ _ _ _).len
    rw [Ga] at this
    simp at this
    omega
   refine H4.uj 2 Uz rfl (λs' w5 H5=>?_) (by omega)
   rw [aX _ (by omega)]
   refine ih (i+1) s' w5 (by omega) ?_
   rw [Ij,U' A8 A7]
   exact H5
 exact loop d.x.kids.length 0 ⟨none,0,0⟩ w3 (by omega) (H3.n7 aS 3)
theorem nO:iy Tryz.prog bB aE (.agg #[.int .i64 0,.slice none 0 0,.int .i64 0,.int .i64 0,.int .u64 0,.string (ByteArray.mk #[]),.int .i64 0,.int .i64 0,.int .i64 0]) 9 96:=⟨by kernel_rfl,by kernel_rfl,rfl,by decide,by decide⟩
theorem tA {l:List Nd}:∀u∈l.flatMap Nd.c,u.oneCell'=true:=by
 intro u hu
 obtain ⟨d,_,hu⟩:=List.mem_flatMap.1 hu
 simp only [Nd.c,cS,fF,or_false] at hu
 rcases hu with rfl|rfl|rfl|rfl|rfl|rfl|rfl|rfl|rfl<;>rfl
theorem vH {w:World} {b n sz:Nat} {cs:List Value} {T:TypeId} (h:w.heap[b]? =some (.cells cs.toArray T (0,0))) (hn:cs.length=n *sz):jU sz w ⟨some (bD b),n,n⟩ cs:=
 ⟨hn,Nat.le_refl _,⟨λh=>(by cases h),λi v hi=>⟨bD b,rfl,cellAt (p:=bD b) h rfl (by simpa using hi)⟩⟩⟩
theorem Mp {w:World} {a b:Nd} (ha:a.P w) (hb:b.P w) (hl:a.x.kids.length<=lB):Calls Tryz.prog iJ #[a.v,b.v] w λr w'=>r=.returned (.bool (decide (a.x=b.x)))/\bG w w':=by
 have H:LH F0 w w [] [dG a,dG b]:=mu _ (by
  intro e he
  simp only [cS,fF,or_false] at he
  rcases he with rfl|rfl
  .exact ha
  .exact hb)
 obtain ⟨⟨op,ks,n,m,u,tx,st⟩,sl⟩:=a
 obtain ⟨⟨Vm,Wn,n',m',u',VR,dO⟩,yw⟩:=b
 have no:∀{w1:World} {L:List En},LH F0 w w1 L [dG ⟨⟨op,ks,n,m,u,tx,st⟩,sl⟩,dG ⟨⟨Vm,Wn,n',m',u',VR,dO⟩,yw⟩]->(⟨op,ks,n,m,u,tx,st⟩:Nx)≠⟨Vm,Wn,n',m',u',VR,dO⟩->(Ending.returned (.bool false)=.returned (.bool (decide ((⟨op,ks,n,m,u,tx,st⟩:Nx)=⟨Vm,Wn,n',m',u',VR,dO⟩)))/\bG w w1):=λH1 h=>⟨by rw [decide_eq_false h],H1.fr⟩
 refine enthymemeref07_Same.cU _ _ _ _ _ _ _ _ _ _ _ _ _ _ _ _ _ _ w _ (H.bF λb2 w1 H1=>H1.bF λb3 w2 H2=>?_)
 refine aJ (λh1=>?_) (λh1=>no H2 (λh=>h1 (congrArg Nx.op h)))
 refine aJ (λh2=>?_) (λh2=>no H2 (λh=>h2 (congrArg Nx.n h)))
 refine aJ (λh3=>?_) (λh3=>no H2 (λh=>h3 (congrArg Nx.m h)))
 refine aJ (λh4=>?_) (λh4=>no H2 (λh=>h4 (congrArg Nx.u h)))
 refine Is (λh5=>?_) (λh5=>no H2 (λh=>h5 (congrArg Nx.tx h)))
 refine oc (a:=st) (b:=dO) (λh6=>?_) (λh6=>no H2 (λh=>h6 (congrArg Nx.st h)))
 refine H2.aK (Cm (H2.getD 0) (H2.getD 1) (by unfold lB at hl;simp only at hl ⊢;omega)) ?_
 rintro _ w3 rfl H3
 refine ⟨_,rfl,?_,H3.fr⟩
 simp only at h1 h2 h3 h4 h5
 subst h1 h2 h3 h4 h5 h6
 simp
theorem va {g:List Nx} {n:Nx} {s:iw} (h:dI g n=(s,0)):dI g (eM n s)=(s,0):=by
 unfold dI at h
 unfold dI
 have e1:(eP (eM n s).op==((eM n s).kids.length:Int)&&(eM n s).kids.all (iu g)&&okF (eM n s))=(eP n.op==(n.kids.length:Int)&&n.kids.all (iu g)&&okF n):=rfl
 rw [e1]
 split at h
 .simp at h
 .rename_i hc
  rw [if_neg hc]
  have e2:(eM n s).op=n.op:=rfl
  rw [e2]
  split at h
  .rename_i h3
   rw [if_pos h3]
   unfold cY at h
   by_cases h2:n.op=2
   .rw [if_pos h2] at h
    unfold cY
    rw [e2,if_pos h2]
    exact h
   .rw [if_neg h2] at h
    have hs:s=n.st:=by
     split at h
     .simp at h
     .split at h
      .simp at h
      .split at h
       .simp at h
       .split at h
        .simp at h
        .split at h
         .simp at h
         .exact (congrArg Prod.fst h).symm
    have:eM n s=n:=by rw [hs];rfl
    rw [this]
    unfold cY
    rw [if_neg h2]
    exact h
  .rename_i h3
   rw [if_neg h3]
   exact h
def rU (g:List Nx) (n:Nx):Option Nat:=l4 (if (dI g n).2=0 then eM n (dI g n).1 else n) g 0
def QT:Option Nat->Int
 |some i=>(i:Int)
 |none=>-1
theorem Pp {w:World} {s:Sl} {l:List Nd} {d:Nd} (h:GP w s l) (hd:d.P w) (hg:YO (xs l)) (ho:V7 d.x) (A8:∀e∈l,e.x.kids.length<=lB):
  Calls Tryz.prog km #[s.v,d.v] w λr w'=>r=.returned (.i (QT (rU (xs l) d.x)))/\bG w w':=by
 have hn:=oT h
 have nT:(xs l).length=l.length:=by simp [xs]
 have hl:=hg.len
 rw [nT] at hl
 unfold lB at hl
 have loop:∀(m i:Nat) (b3:Nat) (w4:World) (e:Nd) (L:List En),e.ks=d.ks->e.x.kids=d.x.kids->i+m=l.length->l4 e.x ((xs l).drop i) i=rU (xs l) d.x->En.g b3∈L->LH F0 w w4 L (sA s l d)->
   enthymemeref07_Index.mD s b3 e.x.op e.ks e.x.n e.x.m e.x.u e.x.tx e.x.st.k e.x.st.n e.x.st.x (i:Int) w4 λr w'=>r=.returned (.i (QT (rU (xs l) d.x)))/\bG w w':=by
  intro m
  induction m with
  |zero=>
   intro i b3 w4 e L hek hex hi he hb H4
   rw [sP (by omega)] at he
   exact enthymemeref07_Index.dM _ _ _ _ _ _ _ _ _ _ _ _ _ _ (aI (decide_eq_false (by omega)) ⟨by rw [<-he];rfl,H4.fr⟩)
  |succ m ih=>
   intro i b3 w4 e L hek hex hi he hb H4
   have UT:l[i]? =some (l[i]'(by omega)):=g8 (by omega)
   have hx:(xs l).drop i=(l[i]'(by omega)).x::(xs l).drop (i+1):=by
    rw [sC (by omega:i<(xs l).length)]
    simp [xs]
   rw [hx] at he
   generalize l[i]'(by omega)=a at UT he
   have ke:∀b∈[b3],En.g b∈L:=by simpa using hb
   refine enthymemeref07_Index.dM _ _ _ _ _ _ _ _ _ _ _ _ _ _ (aQ (decide_eq_true (by omega)) (kD (cE.1 (H4.getD 0)) rfl UT λp hp _=>H4.aL (λw5 H5=>?_) ke))
   have G5:GP w5 s l:=cE.1 (H5.getD 0)
   have c:=v8 G5 UT hp (rfl:((i:Int))=(i:Int))
   have pe:e.P w5:=by
    show cX w5 e.ks e.x.kids
    rw [hek,hex]
    exact H5.getD 1
   refine ⟨_,_,_,_,_,_,_,_,_,c.c0,c.c1,c.c2,c.c3,c.c4,c.c5,c.c6,c.c7,c.c8,H5.aK (Mp (a:=a) (b:=e) (G5.2 a (cR UT)) pe (A8 a (cR UT))) ?_⟩
   rintro _ w6 rfl H6
   have jt:(if a.x=e.x then some i else l4 e.x ((xs l).drop (i+1)) (i+1))=rU (xs l) d.x:=he
   refine ⟨_,rfl,aN (λhs=>⟨?_,H6.fr⟩) (λhs=>?_)⟩
   .rw [if_pos hs] at jt
    rw [<-jt];rfl
   .rw [if_neg hs] at jt
    rw [aX _ (by omega)]
    exact ih (i+1) b3 w6 e L hek hex (by omega) jt hb H6
 refine enthymemeref07_Index.cU _ _ _ _ _ _ _ _ _ _ w _ ((XZ h hd).bF λb3 w1 H1=>H1.aK (Ef (cE.1 (H1.getD 0)) (H1.getD 1) hg ho) ?_)
 rintro _ w2 rfl H2
 refine ⟨_,_,_,_,rfl,H2.bF λb5 w3 H3=>aJ (λh0=>H3.aL λw4 H4=>?_) (λh0=>H3.aL λw4 H4=>?_)⟩
 .exact loop l.length 0 b3 w4 ⟨eM d.x (dI (xs l) d.x).1,d.ks⟩ _ rfl rfl (by omega) (by unfold rU;rw [if_pos h0];rfl) (by simp) H4
 .exact loop l.length 0 b3 w4 d _ rfl rfl (by omega) (by unfold rU;rw [if_neg h0];rfl) (by simp) H4
structure GR (w:World) (B:Nat->Prop) (g:List Nx) (s:Sl) (w':World):Prop where
 ex:∃l':List Nd,xs l'=g/\GP w' s l'/\∀b∈(En.gr s l').fp,B b\/w.heap.size<=b
theorem GR.nil (w:World) (B:Nat->Prop) (w':World):GR w B [] ⟨none,0,0⟩ w':=⟨⟨[],rfl,⟨jU.nil 9 w',by simp⟩,λb hb=>by
 rcases rp.1 hb with h|⟨d,hd,_⟩
 .cases h
 .cases hd⟩⟩
theorem My {w:World} {s:Sl} {l:List Nd} {d:Nd} (h:GP w s l) (hd:d.P w) (hg:YO (xs l)) (ho:V7 d.x) (A8:∀e∈l,e.x.kids.length<=lB):
  Calls Tryz.prog jg #[s.v,d.v] w λr w'=>(∃s':Sl,r=.returned (.tuple #[s'.v,.i (eU (xs l) d.x).2.1,.i (eU (xs l) d.x).2.2])/\GR w (λb=>b∈(En.gr s l).fp\/b∈(dG d).fp) (eU (xs l) d.x).1 s' w')/\bG w w':=by
 have hn:=oT h
 have nT:(xs l).length=l.length:=by simp [xs]
 refine enthymemeref07_Add.cU _ _ _ _ _ _ _ _ _ _ w _ ((XZ h hd).bF λb3 w1 H1=>H1.aK (Ef (cE.1 (H1.getD 0)) (H1.getD 1) hg ho) ?_)
 rintro _ w2 rfl H2
 refine ⟨_,_,_,_,rfl,H2.bF λb7 w3 H3=>dX (λh0=>H3.aL λw4 H4=>⟨⟨⟨none,0,0⟩,?_,?_⟩,H4.fr⟩) (λh0=>H3.aL λw4 H4=>?_)⟩
 .unfold eU;rw [if_pos h0]
 .unfold eU;rw [if_pos h0];exact GR.nil _ _ _
 have hs:dI (xs l) d.x=((dI (xs l) d.x).1,0):=by rw [<-h0]
 have LK:=va hs
 have aat:rU (xs l) (eM d.x (dI (xs l) d.x).1)=l4 (eM d.x (dI (xs l) d.x).1) (xs l) 0:=by
  unfold rU
  rw [LK]
  rfl
 have ha:eU (xs l) d.x=match l4 (eM d.x (dI (xs l) d.x).1) (xs l) 0 with
   |some i=>(xs l,(i:Int),0)
   |none=>if 4096<=(xs l).length then ([],0,4) else (xs l++[eM d.x (dI (xs l) d.x).1],((xs l).length:Int),0):=by
  unfold eU;rw [if_neg (by omega)]
  try rfl
 generalize aa9:(dI (xs l) d.x).1=sr at *
 let e:Nd:=⟨eM d.x sr,d.ks⟩
 have hoe:V7 e.x:=⟨ho.kl,ho.n,ho.m,ho.tx⟩
 refine H4.aK (Pp (d:=e) (cE.1 (H4.getD 0)) (H4.getD 1) hg hoe A8) ?_
 rintro _ w5 rfl H5
 rw [show rU (xs l) e.x=l4 (eM d.x sr) (xs l) 0 from aat]
 refine ⟨_,rfl,?_⟩
 cases hi:l4 (eM d.x sr) (xs l) 0 with
 |some i=>
  rw [hi] at ha
  rw [ha]
  exact aQ (decide_eq_true (Int.natCast_nonneg i)) ⟨⟨s,rfl,⟨l,rfl,cE.1 (H5.getD 0),λb hb=>.inl (.inl hb)⟩⟩,H5.fr⟩
 |none=>
  rw [hi] at ha
  dsimp only at ha
  refine aI (by decide) ?_
  refine aN (λh4=>⟨⟨⟨none,0,0⟩,?_,?_⟩,H5.fr⟩) (λh4=>?_)
  .rw [ha,if_pos (by omega)]
  .rw [ha,if_pos (by omega)];exact GR.nil _ _ _
  rw [if_neg (by omega)] at ha
  rw [ha]
  have R5:∀{w6:World} {L:List En},LH F0 w w6 L (sA s l d)->jU 9 w6 s (l.flatMap Nd.c):=λH=>(cE.1 (H.getD 0)).1
  have fin:∀(s':Sl) (w6:World) (L:List En) (j:Nat),LH F0 w w6 L (sA s l d)->L[j]? =some (.row aE 9 s' (l.flatMap Nd.c++e.c))->
    (∃Wt:Sl,Ending.returned (.tuple #[s'.v,.i ((s.n:Nat):Int),.i 0])=.returned (.tuple #[Wt.v,.i ((xs l).length:Int),.i 0])/\GR w (λb=>b∈(En.gr s l).fp\/b∈(dG d).fp) (xs l++[eM d.x sr]) Wt w6)/\bG w w6:=by
   intro s' w6 L j H6 hj
   have iO:jU 9 w6 s' ((l++[e]).flatMap Nd.c):=by
    have:aO w6 aE 9 s' (l.flatMap Nd.c++e.c):=H6.get j hj
    have:=this.iD
    simpa using this
   refine ⟨⟨s',by rw [nT,hn],⟨l++[e],by simp [xs,e],⟨iO,λa ha=>?_⟩,λb hb=>?_⟩⟩,H6.fr⟩
   .rcases fS.1 ha with ha|ha
    .exact (cE.1 (H6.getD 0)).2 a ha
    .simp only [cS,fF,or_false] at ha
     subst ha
     exact H6.getD 1
   .rcases rp.1 hb with hb|⟨a,ha,hb⟩
    .right
     have BU:b∈(En.row aE 9 s' (l.flatMap Nd.c++e.c)).fp:=by
      have:b∈(if (l++[e]).flatMap Nd.c=[] then [] else aZ s'):=hb
      split at this
      .cases this
      .exact this
     exact (H6.new _ (cR hj) b BU).resolve_right id
    .rcases fS.1 ha with ha|ha
     .exact .inl (.inl (rp.2 (.inr ⟨a,ha,hb⟩)))
     .simp only [cS,fF,or_false] at ha
      subst ha
      exact .inl (.inr hb)
  have Ye:∀u∈e.c,u.oneCell'=true:=λu hu=>tA (l:=[e]) u (by simpa using hu)
  have hl:=hg.len
  rw [nT] at hl
  unfold lB at hl
  refine ⟨H5.aL λw6 H6=>H6.iQ (n:=0) (sz:=9) (cs:=[]) rfl (by decide) λw7 H7=>⟨?_,?_⟩,H5.aL λw6 H6=>H6.nw λw7 _ H7=>H7.iQ (n:=0) (sz:=9) (cs:=[]) rfl (by decide) λw8 H8=>?_⟩
  .refine H7.Kc 2 nO (s:=⟨some (bD w6.heap.size),0,0⟩) (src:=s) rfl (R5 H7) tA (by simp only;omega) (λs1 w8 H8=>?_)
   have wg:=(H8.get 2:aO _ _ _ _ _).len
   rw [List.nil_append,Nd.iT] at wg
   refine H8.uj 2 nO rfl (λs2 w9 H9=>?_) (by omega)
   exact fin s2 w9 _ 2 H9 rfl
  .refine H7.nw λw8 _ H8=>?_
   refine H8.Kc 2 nO (s:=⟨some (bD w6.heap.size),0,0⟩) (src:=s) rfl (R5 H8) tA (by simp only;omega) (λs1 w9 H9=>?_)
   have wg:=(H9.get 2:aO _ _ _ _ _).len
   rw [List.nil_append,Nd.iT] at wg
   refine H9.Kc 2 nO (src:=⟨some (bD w7.heap.size),1,1⟩) rfl (vH (cs:=e.c) (T:=aE) (H9.ob 3) rfl) Ye (by simp only;omega) (λs2 pE mJ=>?_)
   exact fin s2 pE _ 2 mJ rfl
  .refine H8.Kc 3 nO (s:=⟨some (bD w7.heap.size),0,0⟩) (src:=s) rfl (R5 H8) tA (by simp only;omega) (λs1 w9 H9=>?_)
   have wg:=(H9.get 3:aO _ _ _ _ _).len
   rw [List.nil_append,Nd.iT] at wg
   refine H9.Kc 3 nO (src:=⟨some (bD w6.heap.size),1,1⟩) rfl (vH (cs:=e.c) (T:=aE) (H9.ob 2) rfl) Ye (by simp only;omega) (λs2 pE mJ=>?_)
   exact fin s2 pE _ 3 mJ rfl
end Go.Proofs.YtcifihepfadgfaaGreatDoor
