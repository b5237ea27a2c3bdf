import Derived.Test.YtnpkhgljhcnpcaaGreatDoorG1
import Derived.Test.YtnpkhgljhcnpcaaGreatDoorW
import Derived.Test.YtnpkhgljhcnpcaaGreatDoorVB
import Derived.Test.YtnpkhgljhcnpcaaGreatDoorT1
import Derived.Test.YtnpkhgljhcnpcaaGreatDoorB
set_option linter.unusedVariables false
set_option linter.defProp false
namespace Go.Proofs.YtnpkhgljhcnpcaaGreatDoor
open Go renaming World->aA,Calls->aH,Value->aD
open Go.IntKind renaming wrap->aC
open _root_.Int renaming toNat->aF
open _root_.ByteArray renaming mk->aE
open Go.IntWalk renaming i64_in->aS
open Go.Proofs.Tryz renaming prog->aB
open _root_.Decidable renaming decide->aR
open Go.Ending renaming returned->aJ
open List renaming mem_append->gg,mem_cons->dT,not_mem_nil->gL,mem_of_getElem?->dI,getElem?_eq_getElem->ie,getElem?_eq_some_iff->nY,mem_map->pN,mem_cons_of_mem->mG,drop_eq_getElem_cons->Aq,all_eq_true->wo,getElem_mem->U8,drop_of_length_le->Ar
open Go Go.W
structure iQ where
 k:Int
 n:Int
 x:Int
deriving DecidableEq
structure Nx where
 op:Int
 kids:List Int
 n:Int
 m:Int
 u:Int
 tx:ByteArray
 st:iQ
deriving DecidableEq
def ru:iQ:=⟨0,0,0⟩
def kP (n:Int):iQ:=⟨0,n,0⟩
def oM (n:Int):iQ:=⟨1,n,0⟩
def cI (s:iQ):Bool:=(s.k==0&&aR (1<=s.n)&&aR (s.n<=64)&&s.x==0)||(s.k==1&&aR (0<=s.n)&&aR (s.n<=64)&&s.x==0)||(s.k==2&&aR (1<=s.n)&&aR (s.n<=64)&&aR (1<=s.x)&&aR (s.x<=16))||(s.k==3&&aR (0<=s.n)&&aR (s.n<=64)&&aR (1<=s.x)&&aR (s.x<=16))
def nR (s:iQ):Int:=if cI s then 0 else 9
def mJ (s:iQ):Bool:=s.k==2||s.k==3
def eO (op:Int):Int:=if op<0\/34<op then -1 else if op<=3 then 0 else if op=4\/op=5\/op=21\/op=22\/op=23\/op=27\/op=28\/op=33\/op=34 then 1 else if op=19\/op=25\/op=30\/op=32 then 3 else 2
def xj (op:Int):Bool:=op==21||op==22||op==23||op==28
def zm (op:Int):Bool:=op==0||op==2||op==33
def okF (n:Nx):Bool:=(xj n.op||n.n==0)&&(n.op==21||n.m==0)&&(n.op==1||n.u==0)&&(zm n.op||aR (n.tx=ba []))
def iJ (g:List Nx) (k:Int):Bool:=aR (0<=k)&&aR (k<(g.length:Int))
def qC (c:UInt8):Bool:=aR (97<=c.toNat)&&aR (c.toNat<=122)
def m9 (c:UInt8):Bool:=qC c||(aR (48<=c.toNat)&&aR (c.toNat<=57))||c==45
def qq (l:List UInt8):Bool:=match l with
 |[]=>false
 |c::m=>aR (m.length<=15)&&qC c&&m.all m9
def qL:List Nx->ByteArray->Option iQ
 |[],_=>none
 |d::g,t=>if d.op=0/\d.tx=t then some d.st else qL g t
def pG (g:List Nx) (n:Nx):Bool:=match qL g n.tx with
 |some s=>!decide (s=n.st)
 |none=>false
def OU (u:Int) (n:Int):Bool:=aR (n<64)&&aR (2^n.toNat<=u)
def dH (g:List Nx) (n:Nx):iQ×Int:=
 if n.op=2 then (if 64<n.tx.size then (ru,5) else (oM n.tx.size,0)) else
 if n.op=0/\qq (bl n.tx)=false then (ru,6) else
 if cI n.st=false then (ru,9) else
 if n.op=1/\n.st.k≠0\/n.op=3/\mJ n.st=false then (ru,9) else
 if n.op=1/\OU n.u n.st.n=true then (ru,5) else
 if n.op=0/\pG g n=true then (ru,8) else (n.st,0)
def o9 (s:iQ):iQ:=if s.k=2 then kP s.n else oM s.n
def jK (op:Int) (x y z:iQ):Bool:=
 if op=4\/op=5\/op=21\/op=22\/op=23 then x.k==0 else
 if op=18 then aR (x=y)||(x.k==1&&y.k==1) else
 if op=19 then aR (x=kP 1)&&(aR (y=z)||(y.k==1&&z.k==1)) else
 if op=20 then x.k==0&&y.k==0 else
 if op=24 then mJ x&&aR (y=kP x.x) else
 if op=25 then mJ x&&aR (y=kP x.x)&&(aR (z=o9 x)||(x.k==3&&z.k==1&&aR (z.n<=x.n))) else
 if op=26 then mJ x&&aR (x=y) else
 if op=27\/op=28\/op=33 then x.k==1 else
 if op=29\/op=31 then x.k==1&&y.k==1 else
 if op=30 then x.k==1&&aR (y=kP 7)&&aR (z=kP 7) else
 if op=32 then x.k==1&&y.k==1&&z.k==1 else
 if op=34 then aR (x=kP 8) else x.k==0&&aR (x=y)
def ti (n:Nx) (x y z:iQ):iQ:=
 if n.op=16\/n.op=17\/n.op=18\/n.op=33 then kP 1 else
 if n.op=19 then (if y.k=1 then oM (if y.n<z.n then z.n else y.n) else y) else
 if n.op=20 then kP (x.n+y.n) else
 if n.op=21 then kP (n.n - n.m+1) else
 if n.op=22\/n.op=23 then kP (x.n+n.n) else
 if n.op=24 then o9 x else
 if n.op=26 then kP x.x else
 if n.op=27\/n.op=31 then kP 7 else
 if n.op=28 then kP 8 else
 if n.op=29 then oM (x.n+y.n) else
 if n.op=32 then oM (x.n+z.n) else
 if n.op=34 then oM 1 else x
def uJ (n:Nx) (x y z:iQ):Bool:=
 if n.op=20\/n.op=29 then aR (x.n+y.n<=64) else
 if n.op=21 then aR (0<=n.m)&&aR (n.m<=n.n)&&aR (n.n<x.n) else
 if n.op=22\/n.op=23 then aR (1<=n.n)&&aR (n.n<=64 - x.n) else
 if n.op=28 then aR (0<=n.n)&&aR (n.n<=63) else
 if n.op=32 then aR (x.n+z.n<=64) else true
def jL (g:List Nx) (n:Nx) (i:Nat):iQ:=match n.kids[i]? with
 |some k=>match g[k.toNat]? with
  |some d=>d.st
  |none=>ru
 |none=>ru
def Dx (t:ByteArray):Bool:=Fj (bl t)==some true
def eF (g:List Nx) (n:Nx):iQ×Int:=
 if (eO n.op==(n.kids.length:Int)&&n.kids.all (iJ g)&&okF n)=false then (ru,1) else
 if n.op<=3 then dH g n else
 if jK n.op (jL g n 0) (jL g n 1) (jL g n 2)=false then (ru,9) else
 if uJ n (jL g n 0) (jL g n 1) (jL g n 2)=false then (ru,5) else
 if n.op=33/\Dx n.tx=false then (ru,2) else (ti n (jL g n 0) (jL g n 1) (jL g n 2),0)
def gM (n:Nx) (s:iQ):Nx:={n with st:=s}
def qB (n:Nx):List Nx->Nat->Option Nat
 |[],_=>none
 |d::g,i=>if d=n then some i else qB n g (i+1)
def iN (g:List Nx) (n:Nx):List Nx×Int×Int:=
 if (eF g n).2≠0 then ([],0,(eF g n).2) else
 match qB (gM n (eF g n).1) g 0 with
 |some i=>(g,i,0)
 |none=>if 4096<=g.length then ([],0,4) else (g++[gM n (eF g n).1],g.length,0)
inductive Vg:List Nx->Prop
 |nil:Vg []
 |snoc {g:List Nx} {n:Nx}:Vg g->eF g n=(n.st,0)->n∉g->Vg (g++[n])
structure Nd where
 x:Nx
 ks:Sl
abbrev kQ (s:iQ):aD:=.agg #[.i s.k,.i s.n,.i s.x]
namespace Nd
def c (d:Nd):List aD:=[.i d.x.op,d.ks.v,.i d.x.n,.i d.x.m,.u d.x.u,.string d.x.tx,.i d.x.st.k,.i d.x.st.n,.i d.x.st.x]
abbrev v (d:Nd):aD:=.agg #[.i d.x.op,d.ks.v,.i d.x.n,.i d.x.m,.u d.x.u,.string d.x.tx,.i d.x.st.k,.i d.x.st.n,.i d.x.st.x]
def Br (d:Nd):(c d).length=9:=rfl
def kz (l:List Nd):(l.flatMap c).length=l.length *9:=qo c 9 Br l
abbrev P (w:aA) (d:Nd):Prop:=hU w d.ks d.x.kids
structure qM (w:aA) (p:Addr) (i:Nat) (d:Nd):Prop where
 c0:w.cell? ((p.add (i *9)).add 0)=some (.i d.x.op)
 c1:w.cell? ((p.add (i *9)).add 1)=some d.ks.v
 c2:w.cell? ((p.add (i *9)).add 2)=some (.i d.x.n)
 c3:w.cell? ((p.add (i *9)).add 3)=some (.i d.x.m)
 c4:w.cell? ((p.add (i *9)).add 4)=some (.u d.x.u)
 c5:w.cell? ((p.add (i *9)).add 5)=some (.string d.x.tx)
 c6:w.cell? ((p.add (i *9)).add 6)=some (.i d.x.st.k)
 c7:w.cell? ((p.add (i *9)).add 7)=some (.i d.x.st.n)
 c8:w.cell? ((p.add (i *9)).add 8)=some (.i d.x.st.x)
def cX {w:aA} {s:Sl} {l:List Nd} (h:lN 9 w s (l.flatMap c)):s.n=l.length:=by
 have:=h.1
 rw [kz] at this
 omega
def at' {w:aA} {s:Sl} {l:List Nd} (h:lN 9 w s (l.flatMap c)) {i:Nat} {d:Nd} (hi:l[i]? =some d) {K:Addr->Prop} (hk:∀p,s.a=some p->qM w p i d->K p):gT s.a K:=
 qR.elem (f:=c) (sz:=9) Br (by omega) h.2.2 hi λp hp hc=>hk p hp ⟨hc 0 _ rfl,hc 1 _ rfl,hc 2 _ rfl,hc 3 _ rfl,hc 4 _ rfl,hc 5 _ rfl,hc 6 _ rfl,hc 7 _ rfl,hc 8 _ rfl⟩
def again {w:aA} {s:Sl} {l:List Nd} (h:lN 9 w s (l.flatMap c)) {i:Nat} {d:Nd} (hi:l[i]? =some d) {p:Addr} (hp:s.a=some p):qM w p i d:=by
 have hk:=at' h hi (K:=λq=>∃q',s.a=some q'/\qM w q' i d) (λq hq hc=>⟨q,hq,hc⟩)
 rw [hp] at hk
 obtain ⟨q,hq,e⟩:=hk
 cases hq
 exact e
end Nd
abbrev xs (l:List Nd):List Nx:=l.map Nd.x
def GP (w:aA) (s:Sl) (l:List Nd):Prop:=lN 9 w s (l.flatMap Nd.c)/\∀d∈l,d.P w
abbrev fV (d:Nd):En:=.rd d.ks (d.x.kids.map l4)
def _root_.Go.W.En.gr (s:Sl) (l:List Nd):En:=.all (.jG 9 s (l.flatMap Nd.c)::l.map fV)
def eG {w:aA} {s:Sl} {l:List Nd}:(En.gr s l).P w↔GP w s l:=by
 constructor
 .exact λh=>⟨h (.jG 9 s (l.flatMap Nd.c)) (by simp),λd hd=>h (fV d) (mG _ (pN.2 ⟨d,hd,rfl⟩))⟩
 .intro h e he
  rcases dT.1 he with rfl|he
  .exact h.1
  .obtain ⟨d,hd,rfl⟩:=pN.1 he
   exact h.2 d hd
def vj {s:Sl} {l:List Nd} {b:Nat}:b∈(En.gr s l).fp↔b∈(En.jG 9 s (l.flatMap Nd.c)).fp\/∃d∈l,b∈(fV d).fp:=by
 unfold En.gr En.all
 rw [aV,List.mem_flatMap]
 constructor
 .rintro ⟨e,he,hb⟩
  rcases dT.1 he with rfl|he
  .exact .inl hb
  .obtain ⟨d,hd,rfl⟩:=pN.1 he
   exact .inr ⟨d,hd,hb⟩
 .rintro (hb|⟨d,hd,hb⟩)
  .exact ⟨_,List.mem_cons_self ..,hb⟩
  .exact ⟨_,mG _ (pN.2 ⟨d,hd,rfl⟩),hb⟩
def tL {w:aA} {s:Sl} {l:List Nd} (h:GP w s l):s.n=l.length:=Nd.cX h.1
def oc {w:aA} {s:Sl} {l:List Nd} (h:GP w s l) {i:Nat} {d:Nd} {X:Int} (hX:X=(i:Int)) (hi:l[i]? =some d) {K:Addr->Prop} (hk:∀p,s.a=some p->Nd.qM w p (aF X) d->K p):bY s X K:=by
 have hn:=tL h
 have hl:=(nY.1 hi).1
 subst hX
 exact ⟨by omega,by omega,Nd.at' h.1 hi hk⟩
def um {l:List Nd} {i:Nat} {d:Nd} (h:l[i]? =some d):(xs l)[i]? =some d.x:=by simp [xs,h]
namespace Nd
def qM.s0 {w:aA} {p:Addr} {i:Nat} {d:Nd} (h:qM w p i d):w.cell? (((p.add (i *9)).add 6).add 0)=some (.i d.x.st.k):=by rw [add_add];exact h.c6
def qM.s1 {w:aA} {p:Addr} {i:Nat} {d:Nd} (h:qM w p i d):w.cell? (((p.add (i *9)).add 6).add 1)=some (.i d.x.st.n):=by rw [add_add];exact h.c7
def qM.s2 {w:aA} {p:Addr} {i:Nat} {d:Nd} (h:qM w p i d):w.cell? (((p.add (i *9)).add 6).add 2)=some (.i d.x.st.x):=by rw [add_add];exact h.c8
end Nd
def BU {w:aA} {s:Sl} {l:List Nd} (h:GP w s l) {i:Nat} {d:Nd} (hi:l[i]? =some d) {p:Addr} (hp:s.a=some p) {X:Int} (hX:X=(i:Int)):Nd.qM w p (aF X) d:=by
 subst hX
 exact Nd.again h.1 hi hp
def ri (s:iQ):List aD:=[.i s.k,.i s.n,.i s.x]
def Jc (l:List iQ):(l.flatMap ri).length=l.length *3:=qo ri 3 (λ_=>rfl) l
structure JY (w:aA) (p:Addr) (i:Nat) (s:iQ):Prop where
 c0:w.cell? ((p.add (i *3)).add 0)=some (.i s.k)
 c1:w.cell? ((p.add (i *3)).add 1)=some (.i s.n)
 c2:w.cell? ((p.add (i *3)).add 2)=some (.i s.x)
def Zx {w:aA} {s:Sl} {l:List iQ} (h:lN 3 w s (l.flatMap ri)):s.n=l.length:=by
 have:=h.1
 rw [Jc] at this
 omega
def fY {w:aA} {s:Sl} {l:List iQ} (h:lN 3 w s (l.flatMap ri)) {i:Nat} {x:iQ} {X:Int} (hX:X=(i:Int)) (hi:l[i]? =some x) {K:Addr->Prop} (hk:∀p,s.a=some p->JY w p (aF X) x->K p):bY s X K:=by
 have hn:=Zx h
 have hl:=(nY.1 hi).1
 subst hX
 exact ⟨by omega,by omega,qR.elem (f:=ri) (sz:=3) (λ_=>rfl) (by omega) h.2.2 hi λp hp hc=>hk p hp ⟨hc 0 _ rfl,hc 1 _ rfl,hc 2 _ rfl⟩⟩
def eB {w:aA} {s:Sl} {l:List iQ} (h:lN 3 w s (l.flatMap ri)) {i:Nat} {x:iQ} {X:Int} (hX:X=(i:Int)) (hi:l[i]? =some x) {p:Addr} (hp:s.a=some p):JY w p (aF X) x:=by
 have hk:=(fY h hX hi (K:=λq=>∃q',s.a=some q'/\JY w q' (aF X) x) (λq hq hc=>⟨q,hq,hc⟩)).2.2
 rw [hp] at hk
 obtain ⟨q,hq,e⟩:=hk
 cases hq
 exact e
def pD (a b:iQ):((a.k==b.k)&&((a.n==b.n)&&((a.x==b.x)&&true)))=aR (a=b):=by
 cases a;cases b
 simp only [iQ.mk.injEq,Bool.and_true,Bool.decide_and]
 rfl
def M2 (a b:ByteArray):(a.toList==b.toList)=aR (a=b):=by
 rw [ByteArray.toList_eq,ByteArray.toList_eq]
 have h:(a.data.toList=b.data.toList)↔a=b:=⟨λh=>ByteArray.ext (Array.toList_inj.1 h),λh=>by rw [h]⟩
 rw [<-decide_eq_decide.2 h]
 cases hd:aR (a.data.toList=b.data.toList) with
 |true=>rw [of_decide_eq_true hd];simp
 |false=>exact beq_eq_false_iff_ne.2 (of_decide_eq_false hd)
section
variable {A B:Prop}
def La {a b:ByteArray} (h1:a=b->A) (h2:a≠b->B):aW (a.toList==b.toList) A B:=by
 rw [M2];exact bA h1 h2
def qk {a b:iQ} (h1:a=b->A) (h2:a≠b->B):aW ((a.k==b.k)&&((a.n==b.n)&&((a.x==b.x)&&true))) A B:=by
 rw [pD];exact bA h1 h2
def yO {a b:iQ} (h1:a≠b->A) (h2:a=b->B):aW (!((a.k==b.k)&&((a.n==b.n)&&((a.x==b.x)&&true)))) A B:=by
 rw [pD];exact fP (λh=>h1 (of_decide_eq_false h)) (λh=>h2 (of_decide_eq_true h))
def CD {s:iQ} (h1:cI s=false->A) (h2:cI s=true->B):aW (nR s !=0) A B:=by
 unfold nR
 cases h:cI s with
 |true=>exact aX rfl (h2 h)
 |false=>exact bF rfl (h1 h)
end
set_option maxRecDepth 100000
def pU (n:Int) (w:aA):aH aB bL #[.i n] w λr w'=>r=aJ (kQ (kP n))/\bW w w':=
 enthymemeref07_BV.dQ _ w _ ((og [] (by simp)).cC λb w1 H1=>H1.bH λw2 H2=>⟨rfl,H2.fr⟩)
def nt (n:Int) (w:aA):aH aB cP #[.i n] w λr w'=>r=aJ (kQ (oM n))/\bW w w':=
 enthymemeref07_Strings.dQ _ w _ ((og [] (by simp)).cC λb w1 H1=>H1.bH λw2 H2=>⟨rfl,H2.fr⟩)
def zI (s:iQ) (w:aA):aH aB gA #[kQ s] w λr w'=>r=aJ (kQ (o9 s))/\bW w w':=by
 refine enthymemeref07_Element.dQ _ _ _ w _ ((og [] (by simp)).cC λb w1 H1=>H1.cC λb2 w2 H2=>aY (λh=>H2.bC (pU s.n w2) ?_) (λh=>H2.bC (nt s.n w2) ?_))
 .rintro _ w3 rfl H3
  exact ⟨_,_,_,rfl,H3.bH λw4 H4=>⟨by unfold o9;rw [aN h],H4.fr⟩⟩
 .rintro _ w3 rfl H3
  exact ⟨_,_,_,rfl,H3.bH λw4 H4=>⟨by unfold o9;rw [aI h],H4.fr⟩⟩
def tZ {op:Int} (h1:0<=op) (h2:op<=34):op=0\/op=1\/op=2\/op=3\/op=4\/op=5\/op=6\/op=7\/op=8\/op=9\/op=10\/op=11\/op=12\/op=13\/op=14\/op=15\/op=16\/op=17\/op=18\/op=19\/op=20\/op=21\/op=22\/op=23\/op=24\/op=25\/op=26\/op=27\/op=28\/op=29\/op=30\/op=31\/op=32\/op=33\/op=34:=by omega
def PD (op:Int) (w:aA):aH aB jz #[.i op] w λr w'=>r=aJ (.i (eO op))/\bW w w':=by
 refine enthymemeref07_Kids.ok op w _ ?_
 by_cases h1:op<0
 .exact bF (aO h1) ⟨by unfold eO;rw [aN (.inl h1)],Fr.refl _ _⟩
 refine aX (aK h1) ?_
 by_cases h2:op>34
 .exact bF (aO h2) ⟨by unfold eO;rw [aN (.inr h2)],Fr.refl _ _⟩
 refine aX (aK h2) ?_
 rcases tZ (by omega) (by omega:op<=34) with rfl|rfl|rfl|rfl|rfl|rfl|rfl|rfl|rfl|rfl|rfl|rfl|rfl|rfl|rfl|rfl|rfl|rfl|rfl|rfl|rfl|rfl|rfl|rfl|rfl|rfl|rfl|rfl|rfl|rfl|rfl|rfl|rfl|rfl|rfl<;>exact ⟨rfl,Fr.refl _ _⟩
def L4 {s:ByteArray} {i:Nat} (h:i<s.size):s[i]? =some (gQ (bl s) i):=by
 have h2:i<(bl s).length:=h
 have e:gQ (bl s) i=(bl s)[i]:=by unfold gQ;rw [List.getD_eq_getElem?_getD,ie h2];rfl
 rw [e,getElem?_pos s i h]
 rfl
def oJ (c:UInt8) (m:List UInt8):qq (c::m)=(aR (m.length<=15)&&qC c&&m.all m9):=rfl
def Tx (s:ByteArray) (w:aA):aH aB lB #[.string s] w λr w'=>r=aJ (.bool (qq (bl s)))/\bW w w':=by
 have hl:(bl s).length=s.size:=iH s
 have no:qq (bl s)=false->(Ending.returned (.bool false)=aJ (.bool (qq (bl s)))/\bW w w):=λh=>⟨by rw [h],Fr.refl _ _⟩
 cases hs:bl s with
 |nil=>
  have h0:s.size=0:=by rw [<-hl,hs];rfl
  exact enthymemeref07_Named.ok s w _ (bF (aO (by omega)) ⟨rfl,Fr.refl _ _⟩)
 |cons c m=>
  have hm:s.size=m.length+1:=by rw [<-hl,hs];rfl
  rw [hs] at no
  have g0:gQ (bl s) 0=c:=by rw [hs];rfl
  have h0:s[aF 0]? =some c:=by rw [<-g0];exact L4 (by omega)
  refine enthymemeref07_Named.ok s w _ (aX (aK (by omega)) (bA (λh=>no ?_) (λh=>⟨by omega,c,h0,bA (λh1=>no ?_) (λh1=>⟨by omega,c,h0,bA (λh2=>no ?_) (λh2=>?_)⟩)⟩)))
  .rw [oJ,aK (by omega)];rfl
  .rw [oJ];unfold qC;rw [aK (show ¬97<=c.toNat by omega)];simp
  .rw [oJ];unfold qC;rw [aK (show ¬c.toNat<=122 by omega)];simp
  have e0:qq (c::m)=m.all m9:=by
   rw [oJ]
   unfold qC
   rw [aO (show m.length<=15 by omega),aO (show 97<=c.toNat by omega),aO (show c.toNat<=122 by omega)]
   simp
  have e1:qq (c::m)=(bl s).all m9:=by
   rw [e0,hs,List.all_cons]
   unfold m9 qC
   rw [aO (show 97<=c.toNat by omega),aO (show c.toNat<=122 by omega)]
   simp
  rw [e1]
  have loop:∀(d i:Nat),i+d=s.size->(bl s).all m9=((bl s).drop i).all m9->enthymemeref07_Named.L1 s (i:Int) w λr w'=>r=aJ (.bool ((bl s).all m9))/\bW w w':=by
   intro d
   induction d with
   |zero=>
    intro i hi he
    rw [Ar (by omega)] at he
    exact enthymemeref07_Named.nk _ _ _ _ (aX (aK (by omega)) ⟨by rw [he];rfl,Fr.refl _ _⟩)
   |succ d ih=>
    intro i hi he
    have hg:=L4 (show i<s.size by omega)
    rw [Aq (by omega:i<(bl s).length),List.all_cons,show (bl s)[i]'(by omega)=gQ (bl s) i by unfold gQ;rw [List.getD_eq_getElem?_getD,ie (by omega:i<(bl s).length)];rfl] at he
    generalize gQ (bl s) i=x at hg he
    have go:m9 x=true->enthymemeref07_Named.S4 s (i:Int) w λr w'=>r=aJ (.bool ((bl s).all m9))/\bW w w':=λh=>by
     show enthymemeref07_Named.L1 s (aC .i64 ((i:Int)+1)) w _
     rw [bP _ (by omega)]
     exact ih (i+1) (by omega) (by rw [he,h,Bool.true_and])
    have stop:m9 x=false->(Ending.returned (.bool false)=aJ (.bool ((bl s).all m9))/\bW w w):=λh=>⟨by rw [he,h,Bool.false_and],Fr.refl _ _⟩
    have dig:qC x=false->∀o:Bool,o=((aR (48<=x.toNat)&&aR (x.toNat<=57))||x==45)->enthymemeref07_Named.S3 s (i:Int) false o w λr w'=>r=aJ (.bool ((bl s).all m9))/\bW w w':=λhx o ho=>by
     refine bF rfl (fP (λh=>stop ?_) (λh=>go ?_))
     .unfold m9;rw [hx,Bool.false_or,<-ho,h]
     .unfold m9;rw [hx,Bool.false_or,<-ho,h]
    have e45:((((x.toNat:Nat):Int)==45):Bool)=(x==45):=by
     by_cases h:x=45
     .subst h;rfl
     .rw [beq_eq_false_iff_ne.2 h,beq_eq_false_iff_ne]
      intro h2
      exact h (UInt8.toNat_inj.1 (by have:((45:UInt8).toNat:Int)=45:=rfl;omega))
    have ht:((i:Int)).toNat=i:=Int.toNat_natCast i
    have S2:∀l:Bool,l=qC x->enthymemeref07_Named.S2 s (i:Int) l w λr w'=>r=aJ (.bool ((bl s).all m9))/\bW w w':=λl hl=>by
     have fin:∀o:Bool,o=((aR (48<=x.toNat)&&aR (x.toNat<=57))||x==45)->enthymemeref07_Named.S3 s (i:Int) l o w λr w'=>r=aJ (.bool ((bl s).all m9))/\bW w w':=λo ho=>by
      cases hx:qC x with
      |true=>rw [hl,hx];exact aX rfl (go (by unfold m9;rw [hx];rfl))
      |false=>rw [hl,hx];exact dig hx o ho
     refine ⟨by omega,x,by rw [ht];exact hg,bA (λh=>⟨by omega,x,by rw [ht];exact hg,bA (λh'=>fin true ?_) (λh'=>⟨by omega,x,by rw [ht];exact hg,?_⟩)⟩) (λh=>⟨by omega,x,by rw [ht];exact hg,?_⟩)⟩
     .rw [aO (show 48<=x.toNat by omega),aO (show x.toNat<=57 by omega)];rfl
     .rw [e45];exact fin _ (by rw [aK (show ¬x.toNat<=57 by omega)];simp)
     .rw [e45];exact fin _ (by rw [aK (show ¬48<=x.toNat by omega)];simp)
    refine enthymemeref07_Named.nk _ _ _ _ (bF (aO (by omega)) ⟨by omega,x,by rw [ht];exact hg,bA (λh=>⟨by omega,x,by rw [ht];exact hg,S2 _ ?_⟩) (λh=>S2 _ ?_)⟩)
    .unfold qC
     rw [aO (show 97<=x.toNat by omega),Bool.true_and]
     exact decide_eq_decide.2 (by omega)
    .unfold qC
     rw [aK (show ¬97<=x.toNat by omega),Bool.false_and]
  exact loop s.size 0 (by omega) (by simp)
def Cs (n lo hi:Int) (w:aA):aH aB cW #[.int .i64 n,.int .i64 lo,.int .i64 hi] w λr w'=>r=aJ (.bool (aR (lo<=n/\n<=hi)))/\bW w w':=by
 refine enthymemeref06_within.ok _ _ _ w _ (bA (λh=>⟨?_,Fr.refl _ _⟩) (λh=>⟨?_,Fr.refl _ _⟩))
 .have:(lo<=n/\n<=hi)↔n<=hi:=⟨λh=>h.2,λh'=>⟨h,h'⟩⟩
  simp only [this]
 .rw [aK (by omega)]
def IX (s:iQ) (w:aA):aH aB jo #[kQ s] w λr w'=>r=aJ (.int .i64 (nR s))/\bW w w':=by
 refine enthymemeref06_ValidSort.dQ _ _ _ w _ ((og [] (by simp)).cC λb1 w1 H1=>?_)
 have fin:∀{w2:aA} {L:List En} (b:Bool),b=cI s->LH F0 w w2 L []->enthymemeref06_ValidSort.eX b w2 λr w'=>r=aJ (.int .i64 (nR s))/\bW w w':=by
  rintro w2 L b rfl H
  refine fP (λh=>⟨?_,H.fr⟩) (λh=>⟨?_,H.fr⟩)
  .unfold nR;rw [aI (by simp [h])]
  .unfold nR;rw [aN h]
 have plain:∀lo:Int,(cI s=(aR (lo<=s.n/\s.n<=64)&&(s.x==0)))->fZ [b1] aB cW #[.int .i64 s.n,.int .i64 lo,.int .i64 64] w1 λr_ w2=>∃t10:Bool,r_=aJ (.bool t10)/\aW t10 (enthymemeref06_ValidSort.eX (s.x==0) w2 λr w'=>r=aJ (.int .i64 (nR s))/\bW w w') (enthymemeref06_ValidSort.eX false w2 λr w'=>r=aJ (.int .i64 (nR s))/\bW w w'):=by
  intro lo hv
  refine H1.bC (Cs _ _ _ w1) ?_
  rintro _ w2 rfl H2
  refine ⟨_,rfl,bR (λh=>fin _ ?_ H2) (λh=>fin _ ?_ H2)⟩
  .rw [hv,h];rfl
  .rw [hv,h];rfl
 have array:∀lo:Int,(cI s=(aR (lo<=s.n/\s.n<=64)&&aR (1<=s.x/\s.x<=16)))->fZ [b1] aB cW #[.int .i64 s.n,.int .i64 lo,.int .i64 64] w1 λr_ w2=>∃t10:Bool,r_=aJ (.bool t10)/\aW t10 (fZ [b1] aB cW #[.int .i64 s.x,.int .i64 1,.int .i64 16] w2 λr_ w5=>∃t34:Bool,r_=aJ (.bool t34)/\enthymemeref06_ValidSort.eX t34 w5 λr w'=>r=aJ (.int .i64 (nR s))/\bW w w') (enthymemeref06_ValidSort.eX false w2 λr w'=>r=aJ (.int .i64 (nR s))/\bW w w'):=by
  intro lo hv
  refine H1.bC (Cs _ _ _ w1) ?_
  rintro _ w2 rfl H2
  refine ⟨_,rfl,bR (λh=>H2.bC (Cs _ _ _ w2) ?_) (λh=>fin _ ?_ H2)⟩
  .rintro _ w3 rfl H3
   exact ⟨_,rfl,fin _ (by rw [hv,h];rfl) H3⟩
  .rw [hv,h];rfl
 refine aY (λh0=>plain 1 ?_) (λh0=>aY (λNM=>plain 0 ?_) (λNM=>aY (λWh=>array 1 ?_) (λWh=>aY (λNN=>array 0 ?_) (λNN=>fin _ ?_ H1))))
 .unfold cI;simp [h0]
 .unfold cI;simp [NM]
 .unfold cI;simp [Wh,Bool.and_assoc]
 .unfold cI;simp [NN,Bool.and_assoc]
 .unfold cI;simp [h0,NM,Wh,NN]
abbrev uq (s:Sl) (l:List Nd) (d:Nd):List En:=[.gr s l,fV d]
def lhN {w:aA} {s:Sl} {l:List Nd} {d:Nd} (h:GP w s l) (hd:d.P w):LH F0 w w [] (uq s l d):=og _ (by
 intro e he
 simp only [dT,gL,or_false] at he
 rcases he with rfl|rfl
 .exact eG.2 h
 .exact hd)
def Tv {w:aA} {s:Sl} {l:List Int} (h:hU w s l) (hl:l.length<=1000000000000) (n:Int):aH aB mP #[s.v,.i n] w λr w'=>r=aJ (.bool (aR (n∈l)))/\bW w w':=by
 have hn:=hU.len h
 have loop:∀(d i:Nat),i+d=l.length->(n∈l↔n∈l.drop i)->enthymemeref01_Has.L0 s n (i:Int) w λr w'=>r=aJ (.bool (aR (n∈l)))/\bW w w':=by
  intro d
  induction d with
  |zero=>
   intro i hi he
   rw [Ar (by omega)] at he
   exact enthymemeref01_Has.dE _ _ _ _ _ (aX (aK (by omega)) ⟨by rw [aK (λh=>by have:=he.1 h;simp at this)],Fr.refl _ _⟩)
  |succ d ih=>
   intro i hi he
   have hg:l[i]? =some (l[i]'(by omega)):=ie (by omega)
   rw [Aq (by omega:i<l.length),dT] at he
   generalize l[i]'(by omega)=x at hg he
   refine enthymemeref01_Has.dE _ _ _ _ _ (bF (aO (by omega)) ⟨by omega,by omega,h.cell hg (by omega) λp hp hc=>⟨x,hc,aY (λe=>⟨?_,Fr.refl _ _⟩) (λe=>?_)⟩⟩)
   .rw [aO (he.2 (.inl e.symm))]
   .rw [bP _ (by omega)]
    exact ih (i+1) (by omega) (he.trans ⟨λh=>h.resolve_left (λh=>e h.symm),.inr⟩)
 exact enthymemeref01_Has.ok _ _ w _ (loop l.length 0 (by omega) (by simp))
def Wa {w:aA} {s:Sl} {l:List Int} (h:hU w s l) (hl:l.length<=1000000000000) (n:Int):aH aB jU #[s.v,.i n] w λr w'=>r=aJ (.bool (aR (n∈l)))/\bW w w':=by
 refine enthymemeref07_has.ok _ _ w _ ((Tv h hl n).mono ?_)
 rintro _ w1 ⟨rfl,f⟩
 exact ⟨_,rfl,rfl,f⟩
def xY {w:aA} {b n:Nat} {l:List Int} {T:TypeId} (h:w.heap[b]? =some (.cells (l.map l4).toArray T (0,0))) (hn:n=l.length):hU w ⟨some (bO b),n,n⟩ l:=
 zb h (by simpa using hn)
def pO:Nat:=1000000000
def Aa (op:Int):(aR (op∈[(21:Int),22,23,28])=xj op)/\(aR (op∈[(0:Int),2,33])=zm op):=by
 constructor
 .unfold xj
  by_cases h1:op=21
  .subst h1;rfl
  by_cases h2:op=22
  .subst h2;rfl
  by_cases h3:op=23
  .subst h3;rfl
  by_cases h4:op=28
  .subst h4;rfl
  simp [h1,h2,h3,h4]
 .unfold zm
  by_cases h1:op=0
  .subst h1;rfl
  by_cases h2:op=2
  .subst h2;rfl
  by_cases h3:op=33
  .subst h3;rfl
  simp [h1,h2,h3]
def Yj (t:ByteArray):(t.toList==(aE #[]).toList)=aR (t=ba []):=M2 _ _
def UX {n:Nx} {A B:Prop} (h:aW (okF n) B A):∀a b:Bool,a=xj n.op->b=zm n.op->
  let T:=aW (!b) (aW (!(n.tx.toList==(aE #[]).toList)) A B) B
  let U:=aW (n.op !=1) (aW (n.u !=0) A T) T
  let M:=aW (n.op !=21) (aW (n.m !=0) A U) U
  aW (!a) (aW (n.n !=0) A M) M:=by
 rintro a b rfl rfl
 dsimp only
 rw [Yj]
 unfold okF at h
 have e1:(n.op !=1)= !(n.op==1):=rfl
 have e2:(n.op !=21)= !(n.op==21):=rfl
 have e3:(n.n !=0)= !(n.n==0):=rfl
 have e4:(n.m !=0)= !(n.m==0):=rfl
 have e5:(n.u !=0)= !(n.u==0):=rfl
 rw [e1,e2,e3,e4,e5]
 generalize (n.op==1)=p1 at *
 generalize (n.op==21)=p2 at *
 generalize (n.n==0)=p3 at *
 generalize (n.m==0)=p4 at *
 generalize (n.u==0)=p5 at *
 generalize aR (n.tx=ba [])=p6 at *
 generalize xj n.op=p7 at *
 generalize zm n.op=p8 at *
 cases p1<;>cases p2<;>cases p3<;>cases p4<;>cases p5<;>cases p6<;>cases p7<;>cases p8<;>exact h
def DA (g:List Nx) (n:Nx):Int:=if (eO n.op==(n.kids.length:Int)&&n.kids.all (iJ g)&&okF n)=true then 0 else 1
def PL {w:aA} {s:Sl} {l:List Nd} {d:Nd} (h:GP w s l) (hd:d.P w) (hk:d.x.kids.length<=pO):aH aB kF #[s.v,d.v] w λr w'=>r=aJ (.i (DA (xs l) d.x))/\bW w w':=by
 have hn:=tL h
 have OX:d.ks.n=d.x.kids.length:=hU.len hd
 have pQ:(xs l).length=l.length:=by simp [xs]
 unfold pO at hk
 have loop:∀(m i:Nat) (b3:Nat) (w1:aA),i+m=d.x.kids.length->(eO d.x.op==(d.x.kids.length:Int))=true->(d.x.kids.all (iJ (xs l))=(d.x.kids.drop i).all (iJ (xs l)))->LH F0 w w1 [.g b3] (uq s l d)->
   enthymemeref07_fields.fO s b3 d.x.op d.ks d.x.n d.x.m d.x.u d.x.tx d.x.st.k d.x.st.n d.x.st.x (i:Int) w1 λr w'=>r=aJ (.i (DA (xs l) d.x))/\bW w w':=by
  intro m
  induction m with
  |zero=>
   intro i b3 w1 hi hq he H
   rw [Ar (by omega)] at he
   refine enthymemeref07_fields.bT _ _ _ _ _ _ _ _ _ _ _ _ _ _ (aX (aK (by omega)) (H.nw λw2 _ H2=>H2.bC (Wa (l:=[21,22,23,28]) (xY (n:=4) (H2.ob 1) rfl) (by decide) d.x.op) ?_))
   rintro _ w3 rfl H3
   refine ⟨_,rfl,H3.nw λw4 _ H4=>H4.bC (Wa (l:=[0,2,33]) (xY (n:=3) (H4.ob 2) rfl) (by decide) d.x.op) ?_⟩
   rintro _ w5 rfl H5
   refine ⟨_,rfl,?_⟩
   have hf:∀b:Bool,okF d.x=b->DA (xs l) d.x=if b=true then 0 else 1:=λb hb=>by
    unfold DA
    rw [hq,he,hb]
    rfl
   exact UX (n:=d.x) (bR (λh=>⟨by rw [hf _ h];rfl,H5.fr⟩) (λh=>⟨by rw [hf _ h];rfl,H5.fr⟩)) _ _ (Aa d.x.op).1 (Aa d.x.op).2
  |succ m ih=>
   intro i b3 w1 hi hq he H
   have hg:d.x.kids[i]? =some (d.x.kids[i]'(by omega)):=ie (by omega)
   rw [Aq (by omega:i<d.x.kids.length),List.all_cons] at he
   generalize d.x.kids[i]'(by omega)=x at hg he
   have bad:iJ (xs l) x=false->(Ending.returned (.i 1)=aJ (.i (DA (xs l) d.x))/\bW w w1):=λhx=>⟨by unfold DA;rw [he,hx];simp,H.fr⟩
   have GJ:hU w1 d.ks d.x.kids:=H.getD 1
   refine enthymemeref07_fields.bT _ _ _ _ _ _ _ _ _ _ _ _ _ _ (bF (aO (by omega)) ⟨by omega,by omega,GJ.cell hg (by omega) λp hp hc=>⟨x,hc,bA (λh1=>bad ?_) (λh1=>⟨by omega,by omega,GJ.cell hg (by omega) λp' JH Z7=>⟨x,Z7,bA (λh2=>bad ?_) (λh2=>?_)⟩⟩)⟩⟩)
   .unfold iJ;rw [aK (by omega)];rfl
   .unfold iJ;rw [aK (show ¬x<((xs l).length:Int) by rw [pQ];omega)];simp
   .rw [bP _ (by omega)]
    refine ih (i+1) b3 w1 (by omega) hq ?_ H
    rw [he]
    unfold iJ
    rw [aO (show 0<=x by omega),aO (show x<((xs l).length:Int) by rw [pQ];omega)]
    rfl
 refine enthymemeref07_fields.dQ _ _ _ _ _ _ _ _ _ _ w _ ((lhN h hd).cC λb3 w1 H1=>H1.bH λw2 H2=>H2.bC (PD d.x.op w2) ?_)
 rintro _ w3 rfl H3
 refine ⟨_,rfl,gB (λjx=>⟨?_,H3.fr⟩) (λheq=>?_)⟩
 .unfold DA
  rw [beq_eq_false_iff_ne.2 (by rw [OX] at jx;exact jx)]
  rfl
 .exact loop d.x.kids.length 0 b3 w3 (by omega) (by rw [heq,OX];simp) (by simp) H3
def wR (g:List Nx):Prop:=∀d∈g,d.op=0->∀e∈g,e.op=0->d.tx=e.tx->d.st=e.st
def wR.tail {d:Nx} {g:List Nx} (h:wR (d::g)):wR g:=λa ha h1 b hb h2=>h a (mG _ ha) h1 b (mG _ hb) h2
def OI (n d:Nx):Bool:=aR (d.op=0/\d.tx=n.tx/\d.st≠n.st)
def vJ {t:ByteArray} {s:iQ}:∀{g:List Nx},qL g t=some s->∃d∈g,d.op=0/\d.tx=t/\d.st=s
 |d::g,h=>by
  unfold qL at h
  split at h
  .rename_i hc
   exact ⟨d,by simp,hc.1,hc.2,Option.some.inj h⟩
  .obtain ⟨e,he,h⟩:=vJ h
   exact ⟨e,mG _ he,h⟩
def ET {t:ByteArray}:∀{g:List Nx},qL g t=none->∀d∈g,d.op=0->d.tx≠t
 |a::g,h,d,hd,h0,ht=>by
  unfold qL at h
  split at h
  .cases h
  .rename_i hc
   rcases dT.1 hd with rfl|hd
   .exact hc ⟨h0,ht⟩
   .exact ET h d hd h0 ht
def ER {g:List Nx} (hv:wR g) (n:Nx):pG g n=g.any (OI n):=by
 unfold pG
 cases h:qL g n.tx with
 |none=>
  symm
  rw [List.any_eq_false]
  intro d hd ht
  have ht:=of_decide_eq_true ht
  exact ET h d hd ht.1 ht.2.1
 |some s=>
  obtain ⟨d,hd,h0,h1,h2⟩:=vJ h
  by_cases hs:s=n.st
  .simp only [hs,decide_true,Bool.not_true]
   symm
   rw [List.any_eq_false]
   intro e he ht
   have ht:=of_decide_eq_true ht
   exact ht.2.2 ((hv e he ht.1 d hd h0 (ht.2.1.trans h1.symm)).trans (h2.trans hs))
  .simp only [hs,decide_false,Bool.not_false]
   symm
   rw [List.any_eq_true]
   exact ⟨d,hd,aO ⟨h0,h1,λe=>hs (h2.symm.trans e)⟩⟩
def RK (n:Int) (h0:0<=n) (h1:n<64):aC .u64 (1 *2^(min (aF n) (IntKind.bits .u64)))=((2^n.toNat:Nat):Int):=by
 have e:min (aF n) (IntKind.bits .u64)=n.toNat:=by show min n.toNat 64=_;omega
 have hp:(2:Nat)^n.toNat<=2^63:=Nat.pow_le_pow_right (by omega) (by omega)
 rw [e,Int.one_mul,show ((2:Int)^n.toNat)=((2^n.toNat:Nat):Int) from by rw [Int.natCast_pow];rfl]
 generalize (2:Nat)^n.toNat=m at hp
 exact IntWalk.u64_in _ (by omega)
abbrev mw (x:iQ×Int):Ending:=aJ (.tuple #[kQ x.1,.i x.2])
def tu {s:iQ} (h:cI s=true) (hk:s.k=0):1<=s.n/\s.n<=64/\s.x=0:=by
 unfold cI at h
 simp [hk] at h
 omega
def mB {s:iQ} (h:cI s=true):0<=s.n/\s.n<=64/\0<=s.x/\s.x<=16/\0<=s.k/\s.k<=3:=by
 unfold cI at h
 simp at h
 omega
def X8 {w:aA} {s:Sl} {l:List Nd} {d:Nd} (h:GP w s l) (hd:d.P w) (hl:l.length<=pO) (h0:0<=d.x.op) (h3:d.x.op<=3) (hv:wR (xs l)):aH aB l8 #[s.v,d.v] w λr w'=>r=mw (dH (xs l) d.x)/\bW w w':=by
 have hn:=tL h
 have pQ:(xs l).length=l.length:=by simp [xs]
 unfold pO at hl
 have e0:d.x.op=0\/d.x.op=1\/d.x.op=2\/d.x.op=3:=by omega
 refine enthymemeref07_leaf.dQ _ _ _ _ _ _ _ _ _ _ w _ ((lhN h hd).cC λb3 w1 H1=>H1.cC λb4 w2 H2=>aY (λh2=>?_) (λh2=>?_))
 .refine bA (λhs=>H2.bH λw3 H3=>⟨?_,H3.fr⟩) (λhs=>H2.bC (nt _ w2) ?_)
  .unfold dH;rw [aN h2,aN (by omega)];rfl
  .rintro _ w3 rfl H3
   refine ⟨_,_,_,rfl,H3.bH λw4 H4=>⟨?_,H4.fr⟩⟩
   unfold dH;rw [aN h2,aI (by omega)]
 have l1:dH (xs l) d.x=if d.x.op=0/\qq (bl d.x.tx)=false then (ru,6) else
   if cI d.x.st=false then (ru,9) else
   if d.x.op=1/\d.x.st.k≠0\/d.x.op=3/\mJ d.x.st=false then (ru,9) else
   if d.x.op=1/\OU d.x.u d.x.st.n=true then (ru,5) else
   if d.x.op=0/\(xs l).any (OI d.x)=true then (ru,8) else (d.x.st,0):=by
  unfold dH;rw [aI h2,ER hv]
 have S0:∀(nm:Bool) (w3:aA),nm=(!decide (d.x.op=0)||qq (bl d.x.tx))->LH F0 w w3 [.g b3,.g b4] (uq s l d)->enthymemeref07_leaf.eX s b3 d.x.op d.ks d.x.n d.x.m d.x.u d.x.tx d.x.st.k d.x.st.n d.x.st.x b4 0 0 0 nm w3 λr w'=>r=mw (dH (xs l) d.x)/\bW w w':=by
  intro nm w3 SW H3
  refine fP (λhf=>H3.bH λw4 H4=>⟨?_,H4.fr⟩) (λht=>?_)
  .rw [hf] at SW
   have SW:=SW.symm
   simp only [Bool.or_eq_false_iff,Bool.not_eq_false',decide_eq_true_eq] at SW
   rw [l1,aN SW];rfl
  have acH:¬(d.x.op=0/\qq (bl d.x.tx)=false):=λhc=>by rw [ht,hc.2,aO hc.1] at SW;simp at SW
  rw [aI acH] at l1
  refine H3.bC (IX d.x.st w3) ?_
  rintro _ w4 rfl H4
  refine ⟨_,rfl,CD (λhf=>H4.bH λw5 H5=>⟨?_,H5.fr⟩) (λht=>?_)⟩
  .rw [l1,aN hf];unfold nR;rw [hf];rfl
  rw [aI (by rw [ht];simp)] at l1
  have loop:∀(m i:Nat) (w5:aA),i+m=l.length->dH (xs l) d.x=(if d.x.op=0/\((xs l).drop i).any (OI d.x)=true then (ru,8) else (d.x.st,0))->LH F0 w w5 [.g b3,.g b4] (uq s l d)->
    enthymemeref07_leaf.EX s b3 d.x.op d.ks d.x.n d.x.m d.x.u d.x.tx d.x.st.k d.x.st.n d.x.st.x b4 0 0 0 (i:Int) w5 λr w'=>r=mw (dH (xs l) d.x)/\bW w w':=by
   intro m
   induction m with
   |zero=>
    intro i w5 hi he H5
    rw [Ar (by omega)] at he
    refine enthymemeref07_leaf.oY _ _ _ _ _ _ _ _ _ _ _ _ _ _ _ _ _ _ (aX (aK (by omega)) (H5.bH λw6 H6=>⟨?_,H6.fr⟩))
    rw [he,aI (by simp)]
   |succ m ih=>
    intro i w5 hi he H5
    have hg:l[i]? =some (l[i]'(by omega)):=ie (by omega)
    have hx:(xs l).drop i=(l[i]'(by omega)).x::(xs l).drop (i+1):=by
     rw [Aq (by omega:i<(xs l).length)]
     simp [xs]
    rw [hx,List.any_cons] at he
    generalize l[i]'(by omega)=e at hg he
    have next:∀w6,LH F0 w w6 [.g b3,.g b4] (uq s l d)->(d.x.op=0->OI d.x e.x=false)->enthymemeref07_leaf.zY s b3 d.x.op d.ks d.x.n d.x.m d.x.u d.x.tx d.x.st.k d.x.st.n d.x.st.x b4 0 0 0 (i:Int) w6 λr w'=>r=mw (dH (xs l) d.x)/\bW w w':=by
     intro w6 H6 ht
     show enthymemeref07_leaf.EX s b3 d.x.op d.ks d.x.n d.x.m d.x.u d.x.tx d.x.st.k d.x.st.n d.x.st.x b4 0 0 0 (aC .i64 ((i:Int)+1)) w6 _
     rw [bP _ (by omega)]
     refine ih (i+1) w6 (by omega) ?_ H6
     rw [he]
     by_cases ho:d.x.op=0
     .rw [ht ho,Bool.false_or]
     .rw [aI (λh=>ho h.1),aI (λh=>ho h.1)]
    have G5:GP w5 s l:=eG.1 (H5.getD 0)
    refine enthymemeref07_leaf.oY _ _ _ _ _ _ _ _ _ _ _ _ _ _ _ _ _ _ (bF (aO (by omega)) (aY (λho=>?_) (λho=>H5.bH λw6 H6=>next w6 H6 (λh=>absurd h ho))))
    refine oc G5 rfl hg λp hp _=>H5.bH λw6 H6=>?_
    have c6:=BU (eG.1 (H6.getD 0)) hg hp (rfl:((i:Int))=(i:Int))
    refine ⟨_,c6.c0,aY (λUt=>?_) (λUt=>next w6 H6 λ_=>aK λh=>Ut h.1)⟩
    refine oc (eG.1 (H6.getD 0)) rfl hg λp1 hp1 c61=>⟨_,c61.c5,La (λht=>?_) (λht=>next w6 H6 λ_=>aK λh=>ht h.2.1)⟩
    refine oc (eG.1 (H6.getD 0)) rfl hg λp2 hp2 c62=>⟨_,_,_,c62.s0,c62.s1,c62.s2,yO (λhf=>H6.bH λw7 H7=>⟨?_,H7.fr⟩) (λWD=>next w6 H6 λ_=>aK λh=>h.2.2 WD)⟩
    rw [he,aN ⟨ho,by rw [show OI d.x e.x=true from aO ⟨Ut,ht,hf⟩];rfl⟩]
    rfl
  have S4:∀w5:aA,dH (xs l) d.x=(if d.x.op=0/\(xs l).any (OI d.x)=true then (ru,8) else (d.x.st,0))->LH F0 w w5 [.g b3,.g b4] (uq s l d)->
    enthymemeref07_leaf.rm s b3 d.x.op d.ks d.x.n d.x.m d.x.u d.x.tx d.x.st.k d.x.st.n d.x.st.x b4 0 0 0 w5 λr w'=>r=mw (dH (xs l) d.x)/\bW w w':=λw5 he H5=>loop l.length 0 w5 (by omega) he H5
  have S1:∀(a:Bool) (w5:aA),a=mJ d.x.st->LH F0 w w5 [.g b3,.g b4] (uq s l d)->enthymemeref07_leaf.gW s b3 d.x.op d.ks d.x.n d.x.m d.x.u d.x.tx d.x.st.k d.x.st.n d.x.st.x b4 0 0 0 a w5 λr w'=>r=mw (dH (xs l) d.x)/\bW w w':=by
   rintro a w5 rfl H5
   have bad:(d.x.op=1/\d.x.st.k≠0\/d.x.op=3/\mJ d.x.st=false)->enthymemeref07_leaf.fN b4 0 0 0 w5 λr w'=>r=mw (dH (xs l) d.x)/\bW w w':=λhb=>H5.bH λw6 H6=>⟨by rw [l1,aN hb];rfl,H6.fr⟩
   have S3:¬(d.x.op=1/\d.x.st.k≠0\/d.x.op=3/\mJ d.x.st=false)->enthymemeref07_leaf.ir s b3 d.x.op d.ks d.x.n d.x.m d.x.u d.x.tx d.x.st.k d.x.st.n d.x.st.x b4 0 0 0 w5 λr w'=>r=mw (dH (xs l) d.x)/\bW w w':=λhb=>by
    rw [aI hb] at l1
    refine aY (λh1=>?_) (λh1=>S4 w5 (by rw [l1,aI (λh=>h1 h.1)]) H5)
    have hk:d.x.st.k=0:=by
     rcases Int.decEq d.x.st.k 0 with h|h
     .exact absurd (.inl ⟨h1,h⟩) hb
     .exact h
    obtain ⟨v1,v2,_⟩:=tu ht hk
    have ew:aC .u64 d.x.st.n=d.x.st.n:=IntWalk.u64_in _ (by omega)
    refine bA (λEj=>⟨by rw [ew];omega,?_⟩) (λEj=>S4 w5 (by rw [l1,aI];rintro ⟨_,hb⟩;unfold OU at hb;rw [aK (by omega)] at hb;cases hb) H5)
    rw [ew,RK _ (by omega) Ej]
    have hp:((2^d.x.st.n.toNat:Nat):Int)=(2:Int)^d.x.st.n.toNat:=by rw [Int.natCast_pow];rfl
    rw [hp]
    refine bA (λDD=>H5.bH λw6 H6=>⟨?_,H6.fr⟩) (λDD=>S4 w5 ?_ H5)
    .rw [l1,aN ⟨h1,by unfold OU;rw [aO Ej,aO DD];rfl⟩];rfl
    .rw [l1,aI]
     rintro ⟨_,hb⟩
     unfold OU at hb
     rw [aK (by omega:¬(2:Int)^d.x.st.n.toNat<=d.x.u),Bool.and_false] at hb
     cases hb
   have Xv:¬(d.x.op=1/\d.x.st.k≠0)->aW (d.x.op==3) (aW (!mJ d.x.st) (enthymemeref07_leaf.fN b4 0 0 0 w5 λr w'=>r=mw (dH (xs l) d.x)/\bW w w') (enthymemeref07_leaf.ir s b3 d.x.op d.ks d.x.n d.x.m d.x.u d.x.tx d.x.st.k d.x.st.n d.x.st.x b4 0 0 0 w5 λr w'=>r=mw (dH (xs l) d.x)/\bW w w')) (enthymemeref07_leaf.ir s b3 d.x.op d.ks d.x.n d.x.m d.x.u d.x.tx d.x.st.k d.x.st.n d.x.st.x b4 0 0 0 w5 λr w'=>r=mw (dH (xs l) d.x)/\bW w w'):=λhk=>
    aY (λh3=>fP (λhf=>bad (.inr ⟨h3,hf⟩)) (λht=>S3 (by rintro (h|h);exact hk h;rw [ht] at h;cases h.2))) (λh3=>S3 (by rintro (h|h);exact hk h;exact h3 h.1))
   exact aY (λh1=>gB (λhk=>bad (.inl ⟨h1,hk⟩)) (λhk=>Xv (λh=>h.2 hk))) (λh1=>Xv (λh=>h1 h.1))
  refine aY (λtN=>S1 true w4 ?_ H4) (λtN=>S1 _ w4 ?_ H4)
  .unfold mJ;rw [tN];rfl
  .unfold mJ;rw [beq_eq_false_iff_ne.2 tN];rfl
 refine gB (λUt=>S0 true w2 ?_ H2) (λUt=>H2.bC (Tx d.x.tx w2) ?_)
 .rw [aK Ut];rfl
 .rintro _ w3 rfl H3
  exact ⟨_,rfl,S0 _ w3 (by rw [aO Ut];rfl) H3⟩
def yX {s:iQ} (h:(s.k=0/\1<=s.n/\s.n<=64/\s.x=0)\/(s.k=1/\0<=s.n/\s.n<=64/\s.x=0)\/(s.k=2/\1<=s.n/\s.n<=64/\1<=s.x/\s.x<=16)\/(s.k=3/\0<=s.n/\s.n<=64/\1<=s.x/\s.x<=16)):cI s=true:=by
 unfold cI
 rcases h with ⟨h1,h2,h3,h4⟩|⟨h1,h2,h3,h4⟩|⟨h1,h2,h3,h4,h5⟩|⟨h1,h2,h3,h4,h5⟩<;>simp [h1,h2,h3,h4]<;>simp [h5]
def nL {s:iQ}:cI s=true↔(s.k=0/\1<=s.n/\s.n<=64/\s.x=0)\/(s.k=1/\0<=s.n/\s.n<=64/\s.x=0)\/(s.k=2/\1<=s.n/\s.n<=64/\1<=s.x/\s.x<=16)\/(s.k=3/\0<=s.n/\s.n<=64/\1<=s.x/\s.x<=16):=by
 refine ⟨λh=>?_,yX⟩
 unfold cI at h
 simp only [Bool.or_eq_true,Bool.and_eq_true,beq_iff_eq,decide_eq_true_eq] at h
 omega
structure zZ (g:List Nx) (n:Nx):Prop where
 kl:eO n.op=(n.kids.length:Int)
 ki:∀k∈n.kids,0<=k/\k<(g.length:Int)
 ok:okF n=true
def CG {g:List Nx} {n:Nx} (h:(eF g n).2=0):zZ g n:=by
 unfold eF at h
 split at h
 .cases h
 .rename_i hc
  simp only [Bool.and_eq_false_iff,not_or,Bool.not_eq_false,beq_iff_eq] at hc
  refine ⟨hc.1.1,λk hk=>?_,hc.2⟩
  have:=wo.1 hc.1.2 k hk
  unfold iJ at this
  simpa using this
def Rc {g:List Nx} {n:Nx} (hv:∀d∈g,cI d.st=true) (hk:∀k∈n.kids,0<=k/\k<(g.length:Int)) {i:Nat} (hi:i<n.kids.length):cI (jL g n i)=true:=by
 have h1:=hk _ (U8 hi)
 unfold jL
 rw [ie hi]
 dsimp only
 have h2:(n.kids[i]).toNat<g.length:=by omega
 rw [ie h2]
 exact hv _ (U8 h2)
def Kg {x:iQ} (h:cI x=true) (ha:mJ x=true):cI (o9 x)=true:=by
 rw [nL] at h
 unfold mJ at ha
 simp only [Bool.or_eq_true,beq_iff_eq] at ha
 unfold o9
 refine yX ?_
 split
 .show (0=0/\1<=x.n/\x.n<=64/\0=0)\/_
  left;omega
 .right;left
  show (1:Int)=1/\0<=x.n/\x.n<=64/\(0:Int)=0
  omega
def o0 {n:Int} (h1:1<=n) (h2:n<=64):cI (kP n)=true:=yX (.inl ⟨rfl,h1,h2,rfl⟩)
def tn {n:Int} (h1:0<=n) (h2:n<=64):cI (oM n)=true:=yX (.inr (.inl ⟨rfl,h1,h2,rfl⟩))
def EO {g:List Nx} {n:Nx} (hv:∀d∈g,cI d.st=true) (h:(eF g n).2=0):cI (eF g n).1=true:=by
 have ho:=CG h
 have hk:∀i:Nat,(i:Int)<eO n.op->cI (jL g n i)=true:=λi hi=>Rc hv ho.ki (by have:=ho.kl;omega)
 unfold eF at h ⊢
 split at h
 .cases h
 rename_i hc
 rw [aI hc]
 split at h
 .rename_i h3
  rw [aN h3]
  unfold dH at h ⊢
  split at h
  .rename_i h2
   rw [aN h2]
   split at h
   .cases h
   .rename_i Ej
    rw [aI Ej]
    exact tn (by omega) (by omega)
  .rename_i h2
   rw [aI h2]
   split at h
   .cases h
   rename_i h0
   rw [aI h0]
   split at h
   .cases h
   rename_i h1
   rw [aI h1]
   split at h
   .cases h
   rename_i h4
   rw [aI h4]
   split at h
   .cases h
   rename_i h5
   rw [aI h5]
   split at h
   .cases h
   rename_i h6
   rw [aI h6]
   simpa using h1
 rename_i h3
 rw [aI h3]
 split at h
 .cases h
 rename_i hf
 rw [aI hf]
 split at h
 .cases h
 rename_i hr
 rw [aI hr]
 split at h
 .cases h
 rename_i Wk
 rw [aI Wk]
 simp only [Bool.not_eq_false] at hf hr
 have L6:n.op<=34:=by
  rcases Int.lt_or_le 34 n.op with h|h
  .have:=ho.kl
   unfold eO at this
   rw [aN (.inr h)] at this
   omega
  .exact h
 generalize hx:jL g n 0=x at *
 generalize hy:jL g n 1=y at *
 generalize hz:jL g n 2=z at *
 have vx:cI x=true:=by rw [<-hx];exact hk 0 (by unfold eO;repeat' split<;>omega)
 have WE:2<=eO n.op->cI y=true:=λh=>by rw [<-hy];exact hk 1 (by omega)
 have QW:eO n.op=3->cI z=true:=λh=>by rw [<-hz];exact hk 2 (by omega)
 obtain ⟨op,kids,nn,m,u,tx,st⟩:=n
 simp only at *
 clear hx hy hz hk ho hc Wk
 rcases tZ (by omega) L6 with rfl|rfl|rfl|rfl|rfl|rfl|rfl|rfl|rfl|rfl|rfl|rfl|rfl|rfl|rfl|rfl|rfl|rfl|rfl|rfl|rfl|rfl|rfl|rfl|rfl|rfl|rfl|rfl|rfl|rfl|rfl|rfl|rfl|rfl|rfl
 iterate 4 omega
 all_goals first |(have WE:=WE (by decide))|skip
 all_goals first |(have QW:=QW (by decide))|skip
 iterate 12 exact vx
 iterate 3 exact o0 (by omega) (by omega)
 .show cI (if y.k=1 then oM (if y.n<z.n then z.n else y.n) else y)=true
  split
  .rename_i hk
   have hf:(aR (x=kP 1)&&(aR (y=z)||(y.k==1&&z.k==1)))=true:=hf
   have h1:=mB WE
   have h2:=mB QW
   exact tn (by split<;>omega) (by split<;>omega)
  .exact WE
 .have hf:(x.k==0&&y.k==0)=true:=hf
  have hr:aR (x.n+y.n<=64)=true:=hr
  simp only [Bool.and_eq_true,beq_iff_eq] at hf
  have h1:=tu vx hf.1
  have h2:=tu WE hf.2
  exact o0 (by omega) (of_decide_eq_true hr)
 .have hf:(x.k==0)=true:=hf
  have hr:(aR (0<=m)&&aR (m<=nn)&&aR (nn<x.n))=true:=hr
  simp only [Bool.and_eq_true,decide_eq_true_eq] at hr
  have h1:=tu vx (eq_of_beq hf)
  show cI (kP (nn - m+1))=true
  exact o0 (by omega) (by omega)
 iterate 2
  .have hf:(x.k==0)=true:=hf
   have hr:(aR (1<=nn)&&aR (nn<=64 - x.n))=true:=hr
   simp only [Bool.and_eq_true,decide_eq_true_eq] at hr
   have h1:=tu vx (eq_of_beq hf)
   show cI (kP (x.n+nn))=true
   exact o0 (by omega) (by omega)
 .have hf:(mJ x&&aR (y=kP x.x))=true:=hf
  simp only [Bool.and_eq_true] at hf
  exact Kg vx hf.1
 .exact vx
 .have hf:(mJ x&&aR (x=y))=true:=hf
  simp only [Bool.and_eq_true] at hf
  have h1:=hf.1
  unfold mJ at h1
  simp only [Bool.or_eq_true,beq_iff_eq] at h1
  rw [nL] at vx
  exact o0 (by omega) (by omega)
 .exact o0 (by omega) (by omega)
 .exact o0 (by omega) (by omega)
 .have hr:aR (x.n+y.n<=64)=true:=hr
  have h1:=mB vx
  have h2:=mB WE
  exact tn (by omega) (of_decide_eq_true hr)
 .exact vx
 .exact o0 (by omega) (by omega)
 .have hr:aR (x.n+z.n<=64)=true:=hr
  have h1:=mB vx
  have h2:=mB QW
  exact tn (by omega) (of_decide_eq_true hr)
 .exact o0 (by omega) (by omega)
 .exact tn (by omega) (by omega)
def Vg.val {g:List Nx} (h:Vg g):∀d∈g,cI d.st=true:=by
 induction h with
 |nil=>simp
 |snoc hg hs hn ih=>
  intro d hd
  rcases gg.1 hd with hd|hd
  .exact ih d hd
  .simp only [dT,gL,or_false] at hd
   subst hd
   have:=EO ih (by rw [hs])
   rwa [hs] at this
def var_eq {g g':List Nx} {a b:Nx} (ha:zZ g a) (hb:zZ g' b) (h0:a.op=0) (yn:b.op=0) (ht:a.tx=b.tx) (hs:a.st=b.st):a=b:=by
 have k0:∀{g:List Nx} {a:Nx},zZ g a->a.op=0->a.kids=[]/\a.n=0/\a.m=0/\a.u=0:=by
  intro g a ha h0
  have h1:=ha.kl
  have h2:=ha.ok
  rw [h0] at h1
  unfold okF at h2
  rw [h0] at h2
  refine ⟨List.eq_nil_of_length_eq_zero (by have:eO 0=0:=rfl;omega),?_⟩
  have:xj 0=false:=rfl
  rw [this] at h2
  simp at h2
  exact ⟨h2.1.1.1,h2.1.1.2,h2.1.2⟩
 obtain ⟨a1,a2,a3,a4⟩:=k0 ha h0
 obtain ⟨b1,b2,b3,b4⟩:=k0 hb yn
 cases a;cases b
 simp only at *
 subst h0 yn ht hs a1 a2 a3 a4 b1 b2 b3 b4
 rfl
def Vg.ok {g:List Nx} (h:Vg g):∀i d,g[i]? =some d->eF (g.take i) d=(d.st,0):=by
 induction h with
 |nil=>intro i d hd;simp at hd
 |@snoc g n hg hs hn ih=>
  intro i d hd
  rcases Nat.lt_or_ge i g.length with hi|hi
  .rw [List.getElem?_append_left hi] at hd
   rw [List.take_append_of_le_length (by omega)]
   exact ih i d hd
  .rw [List.getElem?_append_right hi] at hd
   have:i - g.length=0:=by
    have:=(nY.1 hd).1
    simp at this
    omega
   rw [this] at hd
   simp at hd
   subst hd
   rw [show i=g.length by omega,List.take_left]
   exact hs
def Vg.O3 {g:List Nx} (h:Vg g):∀i d,g[i]? =some d->zZ (g.take i) d:=λi d hd=>CG (by rw [h.ok i d hd])
def Vg.kids {g:List Nx} (h:Vg g) {i:Nat} {d:Nx} (hd:g[i]? =some d):∀k∈d.kids,0<=k/\k<(i:Int):=λk hk=>by
 have h1:=(h.O3 i d hd).ki k hk
 have h2:=(nY.1 hd).1
 rw [List.length_take] at h1
 omega
def Vg.vars {g:List Nx} (h:Vg g):wR g:=by
 induction h with
 |nil=>intro d hd;cases hd
 |@snoc g n hg hs hn ih=>
  have one:∀d∈g,d.op=0->n.op=0->d.tx=n.tx->d.st=n.st:=by
   intro d hd h0 yn ht
   have hso:zZ g n:=CG (by rw [hs])
   unfold eF at hs
   split at hs
   .simp at hs
   rw [aN (by omega:n.op<=3)] at hs
   unfold dH at hs
   rw [aI (by omega)] at hs
   split at hs
   .simp at hs
   split at hs
   .simp at hs
   split at hs
   .simp at hs
   split at hs
   .simp at hs
   split at hs
   .simp at hs
   rename_i h1
   simp only [yn,true_and,Bool.not_eq_true] at h1
   rw [ER ih,List.any_eq_false] at h1
   rcases decEq d.st n.st with h|h
   .exact absurd (aO ⟨h0,ht,h⟩) (h1 d hd)
   .exact h
  intro d hd h0 e he yn ht
  have hd:=gg.1 hd
  have he:=gg.1 he
  simp only [dT,gL,or_false] at hd he
  rcases hd with hd|hd
  .rcases he with he|he
   .exact ih d hd h0 e he yn ht
   .rw [he] at ht yn ⊢
    exact one d hd h0 yn ht
  .rw [hd] at ht h0 ⊢
   rcases he with he|he
   .exact (one e he yn h0 ht.symm).symm
   .rw [he]
def td {n:Nx}:∀{g:List Nx} {i:Nat},qB n g i=none->n∉g
 |[],i,_=>by simp
 |d::g,i,h=>by
  unfold qB at h
  split at h
  .cases h
  .rename_i hd
   simp only [dT,not_or]
   exact ⟨λe=>hd e.symm,td h⟩
def rF {n:Nx}:∀{g:List Nx} {i k:Nat},qB n g i=some k->i<=k/\g[k - i]? =some n
 |d::g,i,k,h=>by
  unfold qB at h
  split at h
  .rename_i hd
   cases h
   simp [hd]
  .have:=rF h
   refine ⟨by omega,?_⟩
   rw [show k - i=(k - (i+1))+1 by omega]
   simpa using this.2
set_option maxHeartbeats 1000000
abbrev Oz (k:Sl) (ks:List iQ):En:=.jG 3 k (ks.flatMap ri)
def lhS {w:aA} {k:Sl} {ks:List iQ} (h:lN 3 w k (ks.flatMap ri)):LH F0 w w [] [Oz k ks]:=og _ (by
 intro e he
 simp only [dT,gL,or_false] at he
 subst he
 exact h)
def aao {w:aA} {k:Sl} {ks:List iQ} {x y z:iQ} (op:Int) (h:lN 3 w k (ks.flatMap ri)) (hx:ks[0]? =some x) (hy:2<=eO op->ks[1]? =some y) (hz:eO op=3->ks[2]? =some z) (h4:4<=op) (L6:op<=34):
  aH aB mT #[.i op,k.v] w λr w'=>r=aJ (.bool (jK op x y z))/\bW w w':=by
 refine enthymemeref07_fit.dQ _ _ w _ (fY h (rfl:(0:Int)=((0:Nat):Int)) hx λp0 hp0 c0=>⟨x.k,x.n,x.x,c0.c0,c0.c1,c0.c2,(lhS h).cC λb5 w1 H1=>?_⟩)
 have main:∀(a:Bool) (w2:aA),a=mJ x->LH F0 w w2 [.g b5] [Oz k ks]->enthymemeref07_fit.eX op k b5 x.k x.n x.x (x.k==0) (x.k==1) a w2 λr w'=>r=aJ (.bool (jK op x y z))/\bW w w':=by
  rintro a w2 ha H2
  have R2:∀{w3:aA} {L:List En},LH F0 w w3 L [Oz k ks]->lN 3 w3 k (ks.flatMap ri):=λH=>H.getD 0
  have e1:(1:Int)=((1:Nat):Int):=rfl
  have e2:(2:Int)=((2:Nat):Int):=rfl
  rcases tZ (by omega) L6 with rfl|rfl|rfl|rfl|rfl|rfl|rfl|rfl|rfl|rfl|rfl|rfl|rfl|rfl|rfl|rfl|rfl|rfl|rfl|rfl|rfl|rfl|rfl|rfl|rfl|rfl|rfl|rfl|rfl|rfl|rfl|rfl|rfl|rfl|rfl
  iterate 4 omega
  all_goals repeat (first |refine aX rfl ?_|refine bF rfl ?_)
  all_goals first |(have hy:=hy (by decide))|skip
  all_goals first |(have hz:=hz (by decide))|skip
  iterate 2 exact ⟨rfl,H2.fr⟩
  iterate 12
   .refine aY (λhk=>?_) (λhk=>H2.bH λw3 H3=>⟨?_,H3.fr⟩)
    .refine fY (R2 H2) e1 hy λp hp _=>H2.bH λw3 H3=>?_
     have c:=eB (R2 H3) e1 hy hp
     refine ⟨_,_,_,c.c0,c.c1,c.c2,?_,H3.fr⟩
     rw [pD]
     show _=Ending.returned (.bool (x.k==0&&aR (x=y)))
     rw [hk];rfl
    .show _=Ending.returned (.bool (x.k==0&&aR (x=y)))
     rw [beq_eq_false_iff_ne.2 hk];rfl
  .refine fY (R2 H2) e1 hy λp hp _=>H2.bH λw3 H3=>?_
   have c:=eB (R2 H3) e1 hy hp
   have fe:jK 18 x y z=(aR (x=y)||(x.k==1&&y.k==1)):=rfl
   rw [fe]
   refine ⟨_,_,_,c.c0,c.c1,c.c2,qk (λhe=>⟨by rw [aO he];rfl,H3.fr⟩) (λhe=>?_)⟩
   rw [aK he,Bool.false_or]
   refine aY (λhk=>fY (R2 H3) e1 hy λp' _ c'=>⟨_,c'.c0,?_,H3.fr⟩) (λhk=>⟨?_,H3.fr⟩)
   .rw [hk];rfl
   .rw [beq_eq_false_iff_ne.2 hk];rfl
  .refine H2.bH λw3 H3=>H3.bC (pU 1 w3) ?_
   rintro _ w4 rfl H4
   have fe:jK 19 x y z=(aR (x=kP 1)&&(aR (y=z)||(y.k==1&&z.k==1))):=rfl
   rw [fe]
   refine ⟨_,_,_,rfl,qk (b:=kP 1) (λhe=>?_) (λhe=>⟨by rw [aK he];rfl,H4.fr⟩)⟩
   rw [aO he,Bool.true_and]
   refine fY (R2 H4) e1 hy λp _ c=>⟨_,_,_,c.c0,c.c1,c.c2,fY (R2 H4) e2 hz λq _ d=>⟨_,_,_,d.c0,d.c1,d.c2,qk (λh2=>⟨by rw [aO h2];rfl,H4.fr⟩) (λh2=>?_)⟩⟩
   rw [aK h2,Bool.false_or]
   refine fY (R2 H4) e1 hy λp' _ c'=>⟨_,c'.c0,aY (λhk=>fY (R2 H4) e2 hz λq' _ d'=>⟨_,d'.c0,?_,H4.fr⟩) (λhk=>⟨?_,H4.fr⟩)⟩
   .rw [hk];rfl
   .rw [beq_eq_false_iff_ne.2 hk];rfl
  .have fe:jK 20 x y z=(x.k==0&&y.k==0):=rfl
   rw [fe]
   refine aY (λhk=>fY (R2 H2) e1 hy λp _ c=>⟨_,c.c0,?_,H2.fr⟩) (λhk=>⟨?_,H2.fr⟩)
   .rw [hk];rfl
   .rw [beq_eq_false_iff_ne.2 hk];rfl
  iterate 3 exact ⟨rfl,H2.fr⟩
  .have fe:jK 24 x y z=(mJ x&&aR (y=kP x.x)):=rfl
   rw [fe,<-ha]
   refine bR (λht=>?_) (λhf=>H2.bH λw3 H3=>⟨by rw [hf];rfl,H3.fr⟩)
   refine fY (R2 H2) e1 hy λp hp _=>H2.bH λw3 H3=>?_
   have c:=eB (R2 H3) e1 hy hp
   refine ⟨_,_,_,c.c0,c.c1,c.c2,H3.bC (pU x.x w3) ?_⟩
   rintro _ w4 rfl H4
   have d:=eB (R2 H4) e1 hy hp
   refine ⟨_,_,_,rfl,d.c0,d.c1,d.c2,?_,H4.fr⟩
   rw [ht,Bool.true_and]
   exact congrArg (λb=>Ending.returned (.bool b)) (pD y (kP x.x))
  .have fe:jK 25 x y z=(mJ x&&aR (y=kP x.x)&&(aR (z=o9 x)||(x.k==3&&z.k==1&&aR (z.n<=x.n)))):=rfl
   rw [fe,<-ha]
   refine fP (λhf=>H2.bH λw3 H3=>⟨by rw [hf];rfl,H3.fr⟩) (λht=>?_)
   rw [ht,Bool.true_and]
   refine fY (R2 H2) e1 hy λp hp _=>H2.bH λw3 H3=>?_
   have c:=eB (R2 H3) e1 hy hp
   refine ⟨_,_,_,c.c0,c.c1,c.c2,H3.bC (pU x.x w3) ?_⟩
   rintro _ w4 rfl H4
   have d:=eB (R2 H4) e1 hy hp
   refine ⟨_,_,_,rfl,d.c0,d.c1,d.c2,yO (a:=y) (b:=kP x.x) (λjx=>⟨by rw [aK jx];rfl,H4.fr⟩) (λheq=>?_)⟩
   rw [aO heq,Bool.true_and]
   refine fY (R2 H4) e2 hz λq hq _=>H4.bH λw5 H5=>?_
   have c5:=eB (R2 H5) e2 hz hq
   refine ⟨_,_,_,c5.c0,c5.c1,c5.c2,H5.bC (zI x w5) ?_⟩
   rintro _ w6 rfl H6
   have d6:=eB (R2 H6) e2 hz hq
   refine ⟨_,_,_,rfl,d6.c0,d6.c1,d6.c2,qk (a:=z) (b:=o9 x) (λhe=>⟨by rw [aO he];rfl,H6.fr⟩) (λjx=>?_)⟩
   rw [aK jx,Bool.false_or]
   refine aY (λhk=>fY (R2 H6) e2 hz λq' _ d'=>⟨_,d'.c0,aY (λQV=>fY (R2 H6) e2 hz λq2 _ d2=>⟨_,d2.c1,?_,H6.fr⟩) (λQV=>⟨?_,H6.fr⟩)⟩) (λhk=>⟨?_,H6.fr⟩)
   .rw [hk,QV];rfl
   .rw [beq_eq_false_iff_ne.2 QV,Bool.and_false];rfl
   .rw [beq_eq_false_iff_ne.2 hk];rfl
  .have fe:jK 26 x y z=(mJ x&&aR (x=y)):=rfl
   rw [fe,<-ha]
   refine bR (λht=>?_) (λhf=>H2.bH λw3 H3=>⟨by rw [hf];rfl,H3.fr⟩)
   refine fY (R2 H2) e1 hy λp hp _=>H2.bH λw3 H3=>?_
   have c:=eB (R2 H3) e1 hy hp
   refine ⟨_,_,_,c.c0,c.c1,c.c2,?_,H3.fr⟩
   rw [pD,ht];rfl
  iterate 2 exact ⟨rfl,H2.fr⟩
  .have fe:jK 29 x y z=(x.k==1&&y.k==1):=rfl
   rw [fe]
   refine aY (λhk=>fY (R2 H2) e1 hy λp _ c=>⟨_,c.c0,?_,H2.fr⟩) (λhk=>⟨?_,H2.fr⟩)
   .rw [hk];rfl
   .rw [beq_eq_false_iff_ne.2 hk];rfl
  .have fe:jK 30 x y z=(x.k==1&&aR (y=kP 7)&&aR (z=kP 7)):=rfl
   rw [fe]
   refine aY (λhk=>?_) (λhk=>H2.bH λw3 H3=>⟨by rw [beq_eq_false_iff_ne.2 hk];rfl,H3.fr⟩)
   rw [hk]
   refine fY (R2 H2) e1 hy λp hp _=>H2.bH λw3 H3=>?_
   have c:=eB (R2 H3) e1 hy hp
   refine ⟨_,_,_,c.c0,c.c1,c.c2,H3.bC (pU 7 w3) ?_⟩
   rintro _ w4 rfl H4
   have d:=eB (R2 H4) e1 hy hp
   refine ⟨_,_,_,rfl,d.c0,d.c1,d.c2,qk (a:=y) (b:=kP 7) (λhe=>?_) (λjx=>⟨by rw [aK jx];rfl,H4.fr⟩)⟩
   rw [aO he]
   refine fY (R2 H4) e2 hz λq hq c4=>⟨_,_,_,c4.c0,c4.c1,c4.c2,H4.bC (pU 7 w4) ?_⟩
   rintro _ w5 rfl H5
   have d5:=eB (R2 H5) e2 hz hq
   exact ⟨_,_,_,rfl,d5.c0,d5.c1,d5.c2,congrArg (λb=>Ending.returned (.bool b)) (pD z (kP 7)),H5.fr⟩
  .have fe:jK 31 x y z=(x.k==1&&y.k==1):=rfl
   rw [fe]
   refine aY (λhk=>fY (R2 H2) e1 hy λp _ c=>⟨_,c.c0,?_,H2.fr⟩) (λhk=>⟨?_,H2.fr⟩)
   .rw [hk];rfl
   .rw [beq_eq_false_iff_ne.2 hk];rfl
  .have fe:jK 32 x y z=(x.k==1&&y.k==1&&z.k==1):=rfl
   rw [fe]
   refine aY (λhk=>fY (R2 H2) e1 hy λp _ c=>⟨_,c.c0,aY (λYO=>fY (R2 H2) e2 hz λq _ d=>⟨_,d.c0,?_,H2.fr⟩) (λYO=>⟨?_,H2.fr⟩)⟩) (λhk=>⟨?_,H2.fr⟩)
   .rw [hk,YO];rfl
   .rw [beq_eq_false_iff_ne.2 YO,Bool.and_false];rfl
   .rw [beq_eq_false_iff_ne.2 hk];rfl
  .exact ⟨rfl,H2.fr⟩
  .refine H2.bH λw3 H3=>H3.bC (pU 8 w3) ?_
   rintro _ w4 rfl H4
   exact ⟨_,_,_,rfl,congrArg (λb=>Ending.returned (.bool b)) (pD x (kP 8)),H4.fr⟩
 refine aY (λhk=>H1.bH λw2 H2=>main true w2 ?_ H2) (λhk=>H1.bH λw2 H2=>main _ w2 ?_ H2)
 .unfold mJ;rw [hk];rfl
 .unfold mJ;rw [beq_eq_false_iff_ne.2 hk];rfl
def XQ (n:Nx) (x y z:iQ):Ending->Prop:=λr=>∃(t:iQ) (b:Bool),r=aJ (.tuple #[kQ t,.bool b])/\b=uJ n x y z/\(b=true->t=ti n x y z)
def PU {w:aA} {k:Sl} {ks:List iQ} {x y z:iQ} (d:Nd) (h:lN 3 w k (ks.flatMap ri)) (hx:ks[0]? =some x) (hy:2<=eO d.x.op->ks[1]? =some y) (hz:eO d.x.op=3->ks[2]? =some z) (h4:4<=d.x.op) (L6:d.x.op<=34)
  (vx:cI x=true) (vy:2<=eO d.x.op->cI y=true) (vz:eO d.x.op=3->cI z=true) (hn:qS d.x.n) (hm:qS d.x.m):
  aH aB kG #[d.v,k.v] w λr w'=>XQ d.x x y z r/\bW w w':=by
 obtain ⟨x1,x2,x3,x4,_⟩:=mB vx
 obtain ⟨GJ,hn2⟩:=hn
 obtain ⟨NU,QT⟩:=hm
 refine enthymemeref07_result.dQ _ _ _ _ _ _ _ _ _ _ w _ ((lhS h).cC λb2 w1 H1=>H1.cC λb4 w2 H2=>fY (H2.getD 0) (rfl:(0:Int)=((0:Nat):Int)) hx λp0 hp0 c0=>⟨x.k,x.n,x.x,c0.c0,c0.c1,c0.c2,H2.cC λb6 w3 H3=>?_⟩)
 have R2:∀{w3:aA} {L:List En},LH F0 w w3 L [Oz k ks]->lN 3 w3 k (ks.flatMap ri):=λH=>H.getD 0
 have e1:(1:Int)=((1:Nat):Int):=rfl
 have e2:(2:Int)=((2:Nat):Int):=rfl
 obtain ⟨⟨op,kids,n,m,u,tx,st⟩,UA⟩:=d
 simp only at hy hz h4 L6 vy vz GJ hn2 NU QT
 have S1:∀w4:aA,op≠16->op≠17->op≠18->op≠33->LH F0 w w4 [.g b2,.g b4,.g b6] [Oz k ks]->enthymemeref07_result.gW k b2 op UA n m u tx st.k st.n st.x b4 0 0 0 b6 x.k x.n x.x op w4 λr w'=>XQ ⟨op,kids,n,m,u,tx,st⟩ x y z r/\bW w w':=by
  intro w4 n1 n2 n3 n4 H4
  rcases tZ (by omega) L6 with rfl|rfl|rfl|rfl|rfl|rfl|rfl|rfl|rfl|rfl|rfl|rfl|rfl|rfl|rfl|rfl|rfl|rfl|rfl|rfl|rfl|rfl|rfl|rfl|rfl|rfl|rfl|rfl|rfl|rfl|rfl|rfl|rfl|rfl|rfl
  iterate 4 omega
  all_goals repeat (first |refine aX rfl ?_|refine bF rfl ?_)
  all_goals first |(have hy:=hy (by decide))|skip
  all_goals first |(have hz:=hz (by decide))|skip
  all_goals first |(have vy:=mB (vy (by decide)))|skip
  all_goals first |(have vz:=mB (vz (by decide)))|skip
  iterate 12 exact H4.bH λw5 H5=>⟨⟨x,true,rfl,rfl,λ_=>rfl⟩,H5.fr⟩
  iterate 3 omega
  .refine fY (R2 H4) e1 hy λp hp c=>⟨_,c.c0,aY (λhk=>?_) (λhk=>?_)⟩
   .refine fY (R2 H4) e1 hy λp hp _=>H4.bH λw5 H5=>?_
    have c5:=eB (R2 H5) e1 hy hp
    refine ⟨_,c5.c1,fY (R2 H5) e2 hz λq hq c6=>⟨_,c6.c1,H5.bC (nt _ w5) ?_⟩⟩
    rintro _ w6 rfl H6
    refine ⟨_,_,_,rfl,H6.bH λw7 H7=>⟨⟨_,true,rfl,rfl,λ_=>?_⟩,H7.fr⟩⟩
    show _=if y.k=1 then _ else _
    rw [aN hk]
   .refine fY (R2 H4) e1 hy λp hp c'=>⟨_,_,_,c'.c0,c'.c1,c'.c2,H4.bH λw5 H5=>⟨⟨y,true,rfl,rfl,λ_=>?_⟩,H5.fr⟩⟩
    show _=if y.k=1 then _ else _
    rw [aI hk]
  .refine fY (R2 H4) e1 hy λp hp _=>H4.bH λw5 H5=>?_
   have c5:=eB (R2 H5) e1 hy hp
   refine ⟨_,c5.c1,fY (R2 H5) e1 hy λq hq _=>?_⟩
   have c6:=eB (R2 H5) e1 hy hq
   refine ⟨_,c6.c1,H5.bC (pU _ w5) ?_⟩
   rintro _ w6 rfl H6
   refine ⟨_,_,_,rfl,(eB (R2 H6) e1 hy hq).c1,H6.bH λw7 H7=>⟨(eB (R2 H7) e1 hy hq).c1,⟨_,_,rfl,?_,λ_=>?_⟩,H7.fr⟩⟩
   .rw [aS _ (by omega)];rfl
   .show kP _=kP (x.n+y.n)
    rw [aS _ (by omega)]
  .refine H4.bH λw5 H5=>H5.bC (pU _ w5) ?_
   rintro _ w6 rfl H6
   have hr:uJ ⟨21,kids,n,m,u,tx,st⟩ x y z=(aR (0<=m)&&aR (m<=n)&&aR (n<x.n)):=rfl
   refine ⟨_,_,_,rfl,bA (λg1=>bA (λg2=>H6.bH λw7 H7=>⟨⟨_,_,rfl,?_,λg3=>?_⟩,H7.fr⟩) (λg2=>H6.bH λw7 H7=>⟨⟨_,false,rfl,?_,λg3=>by cases g3⟩,H7.fr⟩)) (λg1=>H6.bH λw7 H7=>⟨⟨_,false,rfl,?_,λg3=>by cases g3⟩,H7.fr⟩)⟩
   .rw [hr,aO (show 0<=m from g1),aO g2];rfl
   .have g3:=of_decide_eq_true g3
    show kP _=kP (n - m+1)
    rw [aS (n - m) (by omega),aS _ (by omega)]
   .rw [hr,aK g2,Bool.and_false];rfl
   .rw [hr,aK (show ¬0<=m from g1)];rfl
  iterate 2
   .refine H4.bH λw5 H5=>H5.bC (pU _ w5) ?_
    rintro _ w6 rfl H6
    have e64:aC .i64 (64 - x.n)=64 - x.n:=aS _ (by omega)
    rw [e64]
    refine ⟨_,_,_,rfl,bA (λg1=>H6.bH λw7 H7=>⟨⟨_,_,rfl,?_,λg3=>?_⟩,H7.fr⟩) (λg1=>H6.bH λw7 H7=>⟨⟨_,false,rfl,?_,λg3=>by cases g3⟩,H7.fr⟩)⟩
    .show _=(aR (1<=n)&&aR (n<=64 - x.n))
     rw [aO (show 1<=n from g1)];rfl
    .have g3:=of_decide_eq_true g3
     show kP _=kP (x.n+n)
     rw [aS _ (by omega)]
    .show _=(aR (1<=n)&&aR (n<=64 - x.n))
     rw [aK (show ¬1<=n from g1)];rfl
  .refine H4.bC (zI x w4) ?_
   rintro _ w5 rfl H5
   exact ⟨_,_,_,rfl,H5.bH λw6 H6=>⟨⟨_,true,rfl,rfl,λ_=>rfl⟩,H6.fr⟩⟩
  .exact H4.bH λw5 H5=>⟨⟨x,true,rfl,rfl,λ_=>rfl⟩,H5.fr⟩
  .refine H4.bC (pU _ w4) ?_
   rintro _ w5 rfl H5
   exact ⟨_,_,_,rfl,H5.bH λw6 H6=>⟨⟨_,true,rfl,rfl,λ_=>rfl⟩,H6.fr⟩⟩
  .refine H4.bC (pU _ w4) ?_
   rintro _ w5 rfl H5
   exact ⟨_,_,_,rfl,H5.bH λw6 H6=>⟨⟨_,true,rfl,rfl,λ_=>rfl⟩,H6.fr⟩⟩
  .refine H4.bH λw5 H5=>H5.bC (pU _ w5) ?_
   rintro _ w6 rfl H6
   refine ⟨_,_,_,rfl,bA (λg1=>H6.bH λw7 H7=>⟨⟨_,_,rfl,?_,λg3=>rfl⟩,H7.fr⟩) (λg1=>H6.bH λw7 H7=>⟨⟨_,false,rfl,?_,λg3=>by cases g3⟩,H7.fr⟩)⟩
   .show _=(aR (0<=n)&&aR (n<=63))
    rw [aO (show 0<=n from g1)];rfl
   .show _=(aR (0<=n)&&aR (n<=63))
    rw [aK (show ¬0<=n from g1)];rfl
  .refine fY (R2 H4) e1 hy λp hp _=>H4.bH λw5 H5=>?_
   have c5:=eB (R2 H5) e1 hy hp
   refine ⟨_,c5.c1,fY (R2 H5) e1 hy λq hq _=>?_⟩
   have c6:=eB (R2 H5) e1 hy hq
   refine ⟨_,c6.c1,H5.bC (nt _ w5) ?_⟩
   rintro _ w6 rfl H6
   refine ⟨_,_,_,rfl,(eB (R2 H6) e1 hy hq).c1,H6.bH λw7 H7=>⟨(eB (R2 H7) e1 hy hq).c1,⟨_,_,rfl,?_,λ_=>?_⟩,H7.fr⟩⟩
   .rw [aS _ (by omega)];rfl
   .show oM _=oM (x.n+y.n)
    rw [aS _ (by omega)]
  .exact H4.bH λw5 H5=>⟨⟨x,true,rfl,rfl,λ_=>rfl⟩,H5.fr⟩
  .refine H4.bC (pU _ w4) ?_
   rintro _ w5 rfl H5
   exact ⟨_,_,_,rfl,H5.bH λw6 H6=>⟨⟨_,true,rfl,rfl,λ_=>rfl⟩,H6.fr⟩⟩
  .refine fY (R2 H4) e2 hz λp hp _=>H4.bH λw5 H5=>?_
   have c5:=eB (R2 H5) e2 hz hp
   refine ⟨_,c5.c1,fY (R2 H5) e2 hz λq hq _=>?_⟩
   have c6:=eB (R2 H5) e2 hz hq
   refine ⟨_,c6.c1,H5.bC (nt _ w5) ?_⟩
   rintro _ w6 rfl H6
   refine ⟨_,_,_,rfl,(eB (R2 H6) e2 hz hq).c1,H6.bH λw7 H7=>⟨(eB (R2 H7) e2 hz hq).c1,⟨_,_,rfl,?_,λ_=>?_⟩,H7.fr⟩⟩
   .rw [aS _ (by omega)];rfl
   .show oM _=oM (x.n+z.n)
    rw [aS _ (by omega)]
  .omega
  .refine H4.bC (nt _ w4) ?_
   rintro _ w5 rfl H5
   exact ⟨_,_,_,rfl,H5.bH λw6 H6=>⟨⟨_,true,rfl,rfl,λ_=>rfl⟩,H6.fr⟩⟩
 have S0:∀w4:aA,(op=16\/op=17\/op=18\/op=33)->LH F0 w w4 [.g b2,.g b4,.g b6] [Oz k ks]->enthymemeref07_result.eX b4 0 0 0 w4 λr w'=>XQ ⟨op,kids,n,m,u,tx,st⟩ x y z r/\bW w w':=by
  intro w4 ho H4
  refine H4.bC (pU 1 w4) ?_
  rintro _ w5 rfl H5
  refine ⟨_,_,_,rfl,H5.bH λw6 H6=>⟨⟨_,true,rfl,?_,λ_=>?_⟩,H6.fr⟩⟩
  .rcases ho with rfl|rfl|rfl|rfl<;>rfl
  .rcases ho with rfl|rfl|rfl|rfl<;>rfl
 exact aY (λh=>bF (beq_iff_eq.2 h) (H3.bH λw4 H4=>S0 w4 (.inl h) H4)) λh1=>aY (λh=>bF (beq_iff_eq.2 h) (H3.bH λw4 H4=>S0 w4 (.inr (.inl h)) H4)) λh2=>aY (λh=>bF (beq_iff_eq.2 h) (H3.bH λw4 H4=>S0 w4 (.inr (.inr (.inl h))) H4)) λh3=>aY (λh=>H3.bH λw4 H4=>S0 w4 (.inr (.inr (.inr h))) H4) λh4'=>H3.bH λw4 H4=>S1 w4 h1 h2 h3 h4' H4
def Yi:jb aB pJ bI (.agg #[.int .i64 0,.int .i64 0,.int .i64 0]) 3 24:=⟨by kernel_rfl,by kernel_rfl,rfl,by decide,by decide⟩
def Pn (t:ByteArray):Prop:=t.size<=100000/\∃b,Fj (bl t)=some b
def Pn.can {t:ByteArray} (h:Pn t):Fj (bl t)=some (Dx t):=by
 obtain ⟨b,hb⟩:=h.2
 unfold Dx
 rw [hb]
 cases b<;>rfl
structure ZX (d:Nx):Prop where
 kl:d.kids.length<=pO
 n:qS d.n
 m:qS d.m
 tx:d.op=33->Pn d.tx
structure GOk (g:List Nx):Prop where
 len:g.length<=pO
 val:∀d∈g,cI d.st=true
 vars:wR g
def YS {l:List Nd} {n:Nx} {i:Nat} {k:Int} {e:Nd} (hk:n.kids[i]? =some k) (he:l[k.toNat]? =some e):jL (xs l) n i=e.x.st:=by
 unfold jL
 rw [hk]
 dsimp only
 rw [um he]
def KY (i:Nat) (f:Nat->iQ):((List.range (i+1)).map f).flatMap ri=((List.range i).map f).flatMap ri++ri (f i):=by
 rw [List.range_succ];simp
def Ra {op:Int} {m:Nat} (h:eO op=(m:Int)) (h0:m≠0):4<=op/\op<=34:=by
 unfold eO at h
 split at h
 .omega
 .split at h
  .omega
  .omega
def N5 {op:Int} (h:eO op=0):0<=op/\op<=3:=by
 unfold eO at h
 split at h
 .omega
 .split at h
  .omega
  .split at h
   .omega
   .split at h<;>omega
def Qz {g:List Nx} {n:Nx} (h:DA g n=0):(eO n.op==(n.kids.length:Int)&&n.kids.all (iJ g)&&okF n)=true:=by
 unfold DA at h
 split at h
 .assumption
 .omega
def N6 {g:List Nx} {n:Nx} (hv:∀d∈g,cI d.st=true) (hk:n.kids.all (iJ g)=true) {i:Nat} (hi:i<n.kids.length):cI (jL g n i)=true:=by
 have h1:=wo.1 hk _ (U8 hi)
 unfold iJ at h1
 simp only [Bool.and_eq_true,decide_eq_true_eq] at h1
 unfold jL
 rw [ie hi]
 dsimp only
 have h2:(n.kids[i]).toNat<g.length:=by omega
 rw [ie h2]
 exact hv _ (U8 h2)
def Hc {w:aA} {s:Sl} {l:List Nd} {d:Nd} (h:GP w s l) (hd:d.P w) (hg:GOk (xs l)) (ho:ZX d.x):
  aH aB iS #[s.v,d.v] w λr w'=>r=mw (eF (xs l) d.x)/\bW w w':=by
 have hn:=tL h
 have pQ:(xs l).length=l.length:=by simp [xs]
 have OX:d.ks.n=d.x.kids.length:=hU.len hd
 have hl:=hg.len
 have hk:=ho.kl
 rw [pQ] at hl
 refine enthymemeref07_SortOf.dQ _ _ _ _ _ _ _ _ _ _ w _ ((lhN h hd).cC λb3 w1 H1=>H1.cC λb4 w2 H2=>H2.bC (PL (eG.1 (H2.getD 0)) (H2.getD 1) hk) ?_)
 rintro _ w3 rfl H3
 refine ⟨_,rfl,gB (λjx=>H3.bH λw4 H4=>⟨?_,H4.fr⟩) (λh0=>?_)⟩
 .unfold eF
  unfold DA at jx ⊢
  split
  .rename_i hc
   rw [aN hc] at jx
   exact absurd rfl jx
  .rename_i hc
   rw [Bool.not_eq_true] at hc
   rw [hc];rfl
 have hf:=Qz h0
 have hf1:eO d.x.op=(d.x.kids.length:Int):=by
  simp only [Bool.and_eq_true] at hf
  exact eq_of_beq hf.1.1
 have Z':d.x.kids.all (iJ (xs l))=true:=by
  simp only [Bool.and_eq_true] at hf
  exact hf.1.2
 have SY:eF (xs l) d.x=if d.x.op<=3 then dH (xs l) d.x else
   if jK d.x.op (jL (xs l) d.x 0) (jL (xs l) d.x 1) (jL (xs l) d.x 2)=false then (ru,9) else
   if uJ d.x (jL (xs l) d.x 0) (jL (xs l) d.x 1) (jL (xs l) d.x 2)=false then (ru,5) else
   if d.x.op=33/\Dx d.x.tx=false then (ru,2) else (ti d.x (jL (xs l) d.x 0) (jL (xs l) d.x 1) (jL (xs l) d.x 2),0):=by
  unfold eF;rw [hf];rfl
 refine aY (λvU=>?_) (λvU=>?_)
 .have hz:=N5 (op:=d.x.op) (by omega)
  refine H3.bC (X8 (eG.1 (H3.getD 0)) (H3.getD 1) hl hz.1 hz.2 hg.vars) ?_
  rintro _ w4 rfl H4
  refine ⟨_,_,_,_,rfl,H4.bH λw5 H5=>⟨?_,H5.fr⟩⟩
  rw [SY,aN hz.2]
 have h4:=Ra (op:=d.x.op) hf1 (by omega)
 rw [aI (by omega)] at SY
 unfold pO at hk hl
 have loop:∀(m i:Nat) (k7:Sl) (w4:aA),i+m=d.x.kids.length->LH F0 w w4 [.g b3,.g b4,.row bI 3 k7 (((List.range i).map (jL (xs l) d.x)).flatMap ri)] (uq s l d)->
   enthymemeref07_SortOf.fO s b3 d.x.op d.ks d.x.n d.x.m d.x.u d.x.tx d.x.st.k d.x.st.n d.x.st.x b4 0 0 0 k7 (i:Int) w4 λr w'=>r=mw (eF (xs l) d.x)/\bW w w':=by
  intro m
  induction m with
  |zero=>
   intro i k7 w4 hi H4
   have hi:i=d.x.kids.length:=by omega
   subst hi
   have R4:lN 3 w4 k7 (((List.range d.x.kids.length).map (jL (xs l) d.x)).flatMap ri):=(H4.get 2:bD _ _ _ _ _).jG
   have wE:∀j,j<d.x.kids.length->((List.range d.x.kids.length).map (jL (xs l) d.x))[j]? =some (jL (xs l) d.x j):=λj hj=>by
    rw [List.getElem?_map,List.getElem?_range hj];rfl
   have hvl:∀j,j<d.x.kids.length->cI (jL (xs l) d.x j)=true:=λj hj=>N6 hg.val Z' hj
   refine enthymemeref07_SortOf.bT _ _ _ _ _ _ _ _ _ _ _ _ _ _ _ _ _ _ _ (aX (aK (by omega)) (H4.bC (aao d.x.op R4 (wE 0 (by omega)) (λh2=>wE 1 (by omega)) (λh3=>wE 2 (by omega)) h4.1 h4.2) ?_))
   rintro _ w5 rfl H5
   refine ⟨_,rfl,fP (λxl=>H5.bH λw6 H6=>⟨by rw [SY,aN xl];rfl,H6.fr⟩) (λxl=>?_)⟩
   rw [aI (by rw [xl];simp)] at SY
   have R5:lN 3 w5 k7 (((List.range d.x.kids.length).map (jL (xs l) d.x)).flatMap ri):=(H5.get 2:bD _ _ _ _ _).jG
   refine H5.bC (PU d R5 (wE 0 (by omega)) (λh2=>wE 1 (by omega)) (λh3=>wE 2 (by omega)) h4.1 h4.2 (hvl 0 (by omega)) (λh2=>hvl 1 (by omega)) (λh3=>hvl 2 (by omega)) ho.n ho.m) ?_
   rintro _ w6 ⟨t,b,rfl,hb,ht⟩ H6
   refine ⟨_,_,_,_,rfl,H6.cC λqU w7 H7=>fP (λhbf=>H7.bH λw8 H8=>⟨?_,H8.fr⟩) (λBY=>?_)⟩
   .rw [SY,aN (by rw [<-hb,hbf])];rfl
   rw [aI (by rw [<-hb,BY];simp)] at SY
   have ht:=ht BY
   have S1:∀(c:Bool) (w8:aA) (L:List En),(d.x.op=33/\Dx d.x.tx=false↔c=false)->En.g b4∈L->En.g qU∈L->LH F0 w w8 L (uq s l d)->enthymemeref07_SortOf.gW b4 0 0 0 qU t.k t.n t.x c w8 λr w'=>r=mw (eF (xs l) d.x)/\bW w w':=by
    intro c w8 L hc m4 m10 H8
    have kS:∀b∈[b4,qU],En.g b∈L:=by
     intro b hb
     simp only [dT,gL,or_false] at hb
     rcases hb with rfl|rfl
     .exact m4
     .exact m10
    refine fP (λhcf=>H8.bH (λw9 H9=>⟨?_,H9.fr⟩) kS) (λhct=>H8.bH (λw9 H9=>⟨?_,H9.fr⟩) kS)
    .rw [SY,aN (hc.2 hcf)];rfl
    .rw [SY,aI (λh=>by rw [hct] at hc;cases hc.1 h),ht]
   refine gB (λox=>H7.bH λw8 H8=>S1 true w8 _ ⟨λh=>absurd h.1 ox,λh=>by cases h⟩ (by simp) (by simp) H8) (λox=>H7.bH λw8 H8=>?_)
   have N0:=ho.tx ox
   refine H8.bC (G8 d.x.tx N0.1 _ N0.can w8) ?_
   rintro _ w9 rfl H9
   exact ⟨_,rfl,S1 _ w9 _ ⟨λh=>h.2,λh=>⟨ox,h⟩⟩ (by simp) (by simp) H9⟩
  |succ m ih=>
   intro i k7 w4 hi H4
   have Ma:d.x.kids[i]? =some (d.x.kids[i]'(by omega)):=ie (by omega)
   have vk:=wo.1 Z' _ (dI Ma)
   generalize d.x.kids[i]'(by omega)=kx at Ma vk
   unfold iJ at vk
   simp only [Bool.and_eq_true,decide_eq_true_eq] at vk
   have DD:l[kx.toNat]? =some (l[kx.toNat]'(by omega)):=ie (by omega)
   generalize l[kx.toNat]'(by omega)=e at DD
   have GJ:hU w4 d.ks d.x.kids:=H4.getD 1
   have jc:=Nd.cX (show lN 9 w4 s (l.flatMap Nd.c) from (eG.1 (H4.getD 0)).1)
   refine enthymemeref07_SortOf.bT _ _ _ _ _ _ _ _ _ _ _ _ _ _ _ _ _ _ _ (bF (aO (by omega)) ⟨by omega,by omega,GJ.cell Ma (by omega) λp hp hc=>⟨kx,hc,oc (eG.1 (H4.getD 0)) (i:=kx.toNat) (by omega) DD λq hq c=>⟨_,_,_,c.s0,c.s1,c.s2,?_⟩⟩⟩)
   have hlen:k7.n=i:=by
    have:=(H4.get 2:bD _ _ _ _ _).len
    rw [Jc] at this
    simp at this
    omega
   refine H4.wV 2 Yi rfl (λs' w5 H5=>?_) (by omega)
   rw [bP _ (by omega)]
   refine ih (i+1) s' w5 (by omega) ?_
   rw [KY,YS Ma DD]
   exact H5
 exact loop d.x.kids.length 0 ⟨none,0,0⟩ w3 (by omega) (H3.qb bI 3)
def qY:jb aB cA bE (.agg #[.int .i64 0,.slice none 0 0,.int .i64 0,.int .i64 0,.int .u64 0,.string (aE #[]),.int .i64 0,.int .i64 0,.int .i64 0]) 9 96:=⟨by kernel_rfl,by kernel_rfl,rfl,by decide,by decide⟩
def xr {l:List Nd}:∀u∈l.flatMap Nd.c,u.oneCell'=true:=by
 intro u hu
 obtain ⟨d,_,hu⟩:=List.mem_flatMap.1 hu
 simp only [Nd.c,dT,gL,or_false] at hu
 rcases hu with rfl|rfl|rfl|rfl|rfl|rfl|rfl|rfl|rfl<;>rfl
def r8 {w:aA} {b n sz:Nat} {cs:List aD} {T:TypeId} (h:w.heap[b]? =some (.cells cs.toArray T (0,0))) (hn:cs.length=n *sz):lN sz w ⟨some (bO b),n,n⟩ cs:=
 ⟨hn,Nat.le_refl _,⟨λh=>(by cases h),λi v hi=>⟨bO b,rfl,cellAt (p:=bO b) h rfl (by simpa using hi)⟩⟩⟩
def X2 {w:aA} {a b:Nd} (ha:a.P w) (hb:b.P w) (hl:a.x.kids.length<=pO):aH aB l6 #[a.v,b.v] w λr w'=>r=aJ (.bool (aR (a.x=b.x)))/\bW w w':=by
 have H:LH F0 w w [] [fV a,fV b]:=og _ (by
  intro e he
  simp only [dT,gL,or_false] at he
  rcases he with rfl|rfl
  .exact ha
  .exact hb)
 obtain ⟨⟨op,ks,n,m,u,tx,st⟩,sl⟩:=a
 obtain ⟨⟨op',ks',n',m',u',tx',eU⟩,A7⟩:=b
 have no:∀{w1:aA} {L:List En},LH F0 w w1 L [fV ⟨⟨op,ks,n,m,u,tx,st⟩,sl⟩,fV ⟨⟨op',ks',n',m',u',tx',eU⟩,A7⟩]->(⟨op,ks,n,m,u,tx,st⟩:Nx)≠⟨op',ks',n',m',u',tx',eU⟩->(Ending.returned (.bool false)=aJ (.bool (aR ((⟨op,ks,n,m,u,tx,st⟩:Nx)=⟨op',ks',n',m',u',tx',eU⟩)))/\bW w w1):=λH1 h=>⟨by rw [aK h],H1.fr⟩
 refine enthymemeref07_Same.dQ _ _ _ _ _ _ _ _ _ _ _ _ _ _ _ _ _ _ w _ (H.cC λb2 w1 H1=>H1.cC λb3 w2 H2=>?_)
 refine aY (λh1=>?_) (λh1=>no H2 (λh=>h1 (congrArg Nx.op h)))
 refine aY (λh2=>?_) (λh2=>no H2 (λh=>h2 (congrArg Nx.n h)))
 refine aY (λh3=>?_) (λh3=>no H2 (λh=>h3 (congrArg Nx.m h)))
 refine aY (λh4=>?_) (λh4=>no H2 (λh=>h4 (congrArg Nx.u h)))
 refine La (λh5=>?_) (λh5=>no H2 (λh=>h5 (congrArg Nx.tx h)))
 refine qk (a:=st) (b:=eU) (λh6=>?_) (λh6=>no H2 (λh=>h6 (congrArg Nx.st h)))
 refine H2.bC (Oq (H2.getD 0) (H2.getD 1) (by unfold pO at hl;simp only at hl ⊢;omega)) ?_
 rintro _ w3 rfl H3
 refine ⟨_,rfl,?_,H3.fr⟩
 simp only at h1 h2 h3 h4 h5
 subst h1 h2 h3 h4 h5 h6
 simp
def xp {g:List Nx} {n:Nx} {s:iQ} (h:eF g n=(s,0)):eF g (gM n s)=(s,0):=by
 unfold eF at h
 unfold eF
 have e1:(eO (gM n s).op==((gM n s).kids.length:Int)&&(gM n s).kids.all (iJ g)&&okF (gM n s))=(eO n.op==(n.kids.length:Int)&&n.kids.all (iJ g)&&okF n):=rfl
 rw [e1]
 split at h
 .simp at h
 .rename_i hc
  rw [aI hc]
  have e2:(gM n s).op=n.op:=rfl
  rw [e2]
  split at h
  .rename_i h3
   rw [aN h3]
   unfold dH at h
   by_cases h2:n.op=2
   .rw [aN h2] at h
    unfold dH
    rw [e2,aN h2]
    exact h
   .rw [aI h2] at h
    have hs:s=n.st:=by
     split at h
     .simp at h
     .split at h
      .simp at h
      .split at h
       .simp at h
       .split at h
        .simp at h
        .split at h
         .simp at h
         .exact (congrArg Prod.fst h).symm
    have:gM n s=n:=by rw [hs];rfl
    rw [this]
    unfold dH
    rw [aI h2]
    exact h
  .rename_i h3
   rw [aI h3]
   exact h
def tO (g:List Nx) (n:Nx):Option Nat:=qB (if (eF g n).2=0 then gM n (eF g n).1 else n) g 0
def abf:Option Nat->Int
 |some i=>(i:Int)
 |none=>-1
def Tw {w:aA} {s:Sl} {l:List Nd} {d:Nd} (h:GP w s l) (hd:d.P w) (hg:GOk (xs l)) (ho:ZX d.x) (Ma:∀e∈l,e.x.kids.length<=pO):
  aH aB lu #[s.v,d.v] w λr w'=>r=aJ (.i (abf (tO (xs l) d.x)))/\bW w w':=by
 have hn:=tL h
 have pQ:(xs l).length=l.length:=by simp [xs]
 have hl:=hg.len
 rw [pQ] at hl
 unfold pO at hl
 have loop:∀(m i:Nat) (b3:Nat) (w4:aA) (e:Nd) (L:List En),e.ks=d.ks->e.x.kids=d.x.kids->i+m=l.length->qB e.x ((xs l).drop i) i=tO (xs l) d.x->En.g b3∈L->LH F0 w w4 L (uq s l d)->
   enthymemeref07_Index.mC s b3 e.x.op e.ks e.x.n e.x.m e.x.u e.x.tx e.x.st.k e.x.st.n e.x.st.x (i:Int) w4 λr w'=>r=aJ (.i (abf (tO (xs l) d.x)))/\bW w w':=by
  intro m
  induction m with
  |zero=>
   intro i b3 w4 e L hek hex hi he hb H4
   rw [Ar (by omega)] at he
   exact enthymemeref07_Index.dR _ _ _ _ _ _ _ _ _ _ _ _ _ _ (aX (aK (by omega)) ⟨by rw [<-he];rfl,H4.fr⟩)
  |succ m ih=>
   intro i b3 w4 e L hek hex hi he hb H4
   have Yx:l[i]? =some (l[i]'(by omega)):=ie (by omega)
   have hx:(xs l).drop i=(l[i]'(by omega)).x::(xs l).drop (i+1):=by
    rw [Aq (by omega:i<(xs l).length)]
    simp [xs]
   rw [hx] at he
   generalize l[i]'(by omega)=a at Yx he
   have kS:∀b∈[b3],En.g b∈L:=by simpa using hb
   refine enthymemeref07_Index.dR _ _ _ _ _ _ _ _ _ _ _ _ _ _ (bF (aO (by omega)) (oc (eG.1 (H4.getD 0)) rfl Yx λp hp _=>H4.bH (λw5 H5=>?_) kS))
   have G5:GP w5 s l:=eG.1 (H5.getD 0)
   have c:=BU G5 Yx hp (rfl:((i:Int))=(i:Int))
   have pe:e.P w5:=by
    show hU w5 e.ks e.x.kids
    rw [hek,hex]
    exact H5.getD 1
   refine ⟨_,_,_,_,_,_,_,_,_,c.c0,c.c1,c.c2,c.c3,c.c4,c.c5,c.c6,c.c7,c.c8,H5.bC (X2 (a:=a) (b:=e) (G5.2 a (dI Yx)) pe (Ma a (dI Yx))) ?_⟩
   rintro _ w6 rfl H6
   have kT:(if a.x=e.x then some i else qB e.x ((xs l).drop (i+1)) (i+1))=tO (xs l) d.x:=he
   refine ⟨_,rfl,bA (λhs=>⟨?_,H6.fr⟩) (λhs=>?_)⟩
   .rw [aN hs] at kT
    rw [<-kT];rfl
   .rw [aI hs] at kT
    rw [bP _ (by omega)]
    exact ih (i+1) b3 w6 e L hek hex (by omega) kT hb H6
 refine enthymemeref07_Index.dQ _ _ _ _ _ _ _ _ _ _ w _ ((lhN h hd).cC λb3 w1 H1=>H1.bC (Hc (eG.1 (H1.getD 0)) (H1.getD 1) hg ho) ?_)
 rintro _ w2 rfl H2
 refine ⟨_,_,_,_,rfl,H2.cC λb5 w3 H3=>aY (λh0=>H3.bH λw4 H4=>?_) (λh0=>H3.bH λw4 H4=>?_)⟩
 .exact loop l.length 0 b3 w4 ⟨gM d.x (eF (xs l) d.x).1,d.ks⟩ _ rfl rfl (by omega) (by unfold tO;rw [aN h0];rfl) (by simp) H4
 .exact loop l.length 0 b3 w4 d _ rfl rfl (by omega) (by unfold tO;rw [aI h0];rfl) (by simp) H4
structure GR (w:aA) (B:Nat->Prop) (g:List Nx) (s:Sl) (w':aA):Prop where
 ex:∃l':List Nd,xs l'=g/\GP w' s l'/\∀b∈(En.gr s l').fp,B b\/w.heap.size<=b
def GR.nil (w:aA) (B:Nat->Prop) (w':aA):GR w B [] ⟨none,0,0⟩ w':=⟨⟨[],rfl,⟨lN.nil 9 w',by simp⟩,λb hb=>by
 rcases vj.1 hb with h|⟨d,hd,_⟩
 .cases h
 .cases hd⟩⟩
def X9 {w:aA} {s:Sl} {l:List Nd} {d:Nd} (h:GP w s l) (hd:d.P w) (hg:GOk (xs l)) (ho:ZX d.x) (Ma:∀e∈l,e.x.kids.length<=pO):
  aH aB mS #[s.v,d.v] w λr w'=>(∃s':Sl,r=aJ (.tuple #[s'.v,.i (iN (xs l) d.x).2.1,.i (iN (xs l) d.x).2.2])/\GR w (λb=>b∈(En.gr s l).fp\/b∈(fV d).fp) (iN (xs l) d.x).1 s' w')/\bW w w':=by
 have hn:=tL h
 have pQ:(xs l).length=l.length:=by simp [xs]
 refine enthymemeref07_Add.dQ _ _ _ _ _ _ _ _ _ _ w _ ((lhN h hd).cC λb3 w1 H1=>H1.bC (Hc (eG.1 (H1.getD 0)) (H1.getD 1) hg ho) ?_)
 rintro _ w2 rfl H2
 refine ⟨_,_,_,_,rfl,H2.cC λb7 w3 H3=>gB (λh0=>H3.bH λw4 H4=>⟨⟨⟨none,0,0⟩,?_,?_⟩,H4.fr⟩) (λh0=>H3.bH λw4 H4=>?_)⟩
 .unfold iN;rw [aN h0]
 .unfold iN;rw [aN h0];exact GR.nil _ _ _
 have hs:eF (xs l) d.x=((eF (xs l) d.x).1,0):=by rw [<-h0]
 have JJ:=xp hs
 have acC:tO (xs l) (gM d.x (eF (xs l) d.x).1)=qB (gM d.x (eF (xs l) d.x).1) (xs l) 0:=by
  unfold tO
  rw [JJ]
  rfl
 have ha:iN (xs l) d.x=match qB (gM d.x (eF (xs l) d.x).1) (xs l) 0 with
   |some i=>(xs l,(i:Int),0)
   |none=>if 4096<=(xs l).length then ([],0,4) else (xs l++[gM d.x (eF (xs l) d.x).1],((xs l).length:Int),0):=by
  unfold iN;rw [aI (by omega)]
  try rfl
 generalize adr:(eF (xs l) d.x).1=sr at *
 let e:Nd:=⟨gM d.x sr,d.ks⟩
 have hoe:ZX e.x:=⟨ho.kl,ho.n,ho.m,ho.tx⟩
 refine H4.bC (Tw (d:=e) (eG.1 (H4.getD 0)) (H4.getD 1) hg hoe Ma) ?_
 rintro _ w5 rfl H5
 rw [show tO (xs l) e.x=qB (gM d.x sr) (xs l) 0 from acC]
 refine ⟨_,rfl,?_⟩
 cases hi:qB (gM d.x sr) (xs l) 0 with
 |some i=>
  rw [hi] at ha
  rw [ha]
  exact bF (aO (Int.natCast_nonneg i)) ⟨⟨s,rfl,⟨l,rfl,eG.1 (H5.getD 0),λb hb=>.inl (.inl hb)⟩⟩,H5.fr⟩
 |none=>
  rw [hi] at ha
  dsimp only at ha
  refine aX (by decide) ?_
  refine bA (λh4=>⟨⟨⟨none,0,0⟩,?_,?_⟩,H5.fr⟩) (λh4=>?_)
  .rw [ha,aN (by omega)]
  .rw [ha,aN (by omega)];exact GR.nil _ _ _
  rw [aI (by omega)] at ha
  rw [ha]
  have R5:∀{w6:aA} {L:List En},LH F0 w w6 L (uq s l d)->lN 9 w6 s (l.flatMap Nd.c):=λH=>(eG.1 (H.getD 0)).1
  have fin:∀(s':Sl) (w6:aA) (L:List En) (j:Nat),LH F0 w w6 L (uq s l d)->L[j]? =some (.row bE 9 s' (l.flatMap Nd.c++e.c))->
    (∃s'':Sl,Ending.returned (.tuple #[s'.v,.i ((s.n:Nat):Int),.i 0])=aJ (.tuple #[s''.v,.i ((xs l).length:Int),.i 0])/\GR w (λb=>b∈(En.gr s l).fp\/b∈(fV d).fp) (xs l++[gM d.x sr]) s'' w6)/\bW w w6:=by
   intro s' w6 L j H6 hj
   have jc:lN 9 w6 s' ((l++[e]).flatMap Nd.c):=by
    have:bD w6 bE 9 s' (l.flatMap Nd.c++e.c):=H6.get j hj
    have:=this.jG
    simpa using this
   refine ⟨⟨s',by rw [pQ,hn],⟨l++[e],by simp [xs,e],⟨jc,λa ha=>?_⟩,λb hb=>?_⟩⟩,H6.fr⟩
   .rcases gg.1 ha with ha|ha
    .exact (eG.1 (H6.getD 0)).2 a ha
    .simp only [dT,gL,or_false] at ha
     subst ha
     exact H6.getD 1
   .rcases vj.1 hb with hb|⟨a,ha,hb⟩
    .right
     have Dm:b∈(En.row bE 9 s' (l.flatMap Nd.c++e.c)).fp:=by
      have:b∈(if (l++[e]).flatMap Nd.c=[] then [] else bQ s'):=hb
      split at this
      .cases this
      .exact this
     exact (H6.new _ (dI hj) b Dm).resolve_right id
    .rcases gg.1 ha with ha|ha
     .exact .inl (.inl (vj.2 (.inr ⟨a,ha,hb⟩)))
     .simp only [dT,gL,or_false] at ha
      subst ha
      exact .inl (.inr hb)
  have abe:∀u∈e.c,u.oneCell'=true:=λu hu=>xr (l:=[e]) u (by simpa using hu)
  have hl:=hg.len
  rw [pQ] at hl
  unfold pO at hl
  refine ⟨H5.bH λw6 H6=>H6.ko (n:=0) (sz:=9) (cs:=[]) rfl (by decide) λw7 H7=>⟨?_,?_⟩,H5.bH λw6 H6=>H6.nw λw7 _ H7=>H7.ko (n:=0) (sz:=9) (cs:=[]) rfl (by decide) λw8 H8=>?_⟩
  .refine H7.OT 2 qY (s:=⟨some (bO w6.heap.size),0,0⟩) (src:=s) rfl (R5 H7) xr (by simp only;omega) (λs1 w8 H8=>?_)
   have zq:=(H8.get 2:bD _ _ _ _ _).len
   rw [List.nil_append,Nd.kz] at zq
   refine H8.wV 2 qY rfl (λs2 w9 H9=>?_) (by omega)
   exact fin s2 w9 _ 2 H9 rfl
  .refine H7.nw λw8 _ H8=>?_
   refine H8.OT 2 qY (s:=⟨some (bO w6.heap.size),0,0⟩) (src:=s) rfl (R5 H8) xr (by simp only;omega) (λs1 w9 H9=>?_)
   have zq:=(H9.get 2:bD _ _ _ _ _).len
   rw [List.nil_append,Nd.kz] at zq
   refine H9.OT 2 qY (src:=⟨some (bO w7.heap.size),1,1⟩) rfl (r8 (cs:=e.c) (T:=bE) (H9.ob 3) rfl) abe (by simp only;omega) (λs2 tB qe=>?_)
   exact fin s2 tB _ 2 qe rfl
  .refine H8.OT 3 qY (s:=⟨some (bO w7.heap.size),0,0⟩) (src:=s) rfl (R5 H8) xr (by simp only;omega) (λs1 w9 H9=>?_)
   have zq:=(H9.get 3:bD _ _ _ _ _).len
   rw [List.nil_append,Nd.kz] at zq
   refine H9.OT 3 qY (src:=⟨some (bO w6.heap.size),1,1⟩) rfl (r8 (cs:=e.c) (T:=bE) (H9.ob 2) rfl) abe (by simp only;omega) (λs2 tB qe=>?_)
   exact fin s2 tB _ 3 qe rfl
end Go.Proofs.YtnpkhgljhcnpcaaGreatDoor
