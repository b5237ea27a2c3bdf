import Derived.Test.YtcifihepfadgfaaGreatDoorG1
import Derived.Test.YtcifihepfadgfaaGreatDoorW
import Derived.Test.YtcifihepfadgfaaGreatDoorVB
import Derived.Test.YtcifihepfadgfaaGreatDoorT1
import Derived.Test.YtcifihepfadgfaaGreatDoorB
set_option linter.unusedVariables false
namespace Go.Proofs.YtcifihepfadgfaaGreatDoor
open List renaming mem_append->fW,mem_cons->cU,not_mem_nil->qnM,mem_of_getElem?->dC,getElem?_eq_getElem->g7,getElem?_eq_some_iff->nP,mem_map->o8,mem_cons_of_mem->qmCM,drop_eq_getElem_cons->qdG,all_eq_true->qaT,getElem_mem->qgEM,drop_of_length_le->qdO
open Go Go.W
structure ir where
 k:Int
 n:Int
 x:Int
deriving DecidableEq
structure Nx where
 op:Int
 kids:List Int
 n:Int
 m:Int
 u:Int
 tx:ByteArray
 st:ir
deriving DecidableEq
def ow:ir:=⟨0,0,0⟩
def jH (n:Int):ir:=⟨0,n,0⟩
def mW (n:Int):ir:=⟨1,n,0⟩
def bN (s:ir):Bool:=(s.k==0&&decide (1<=s.n)&&decide (s.n<=64)&&s.x==0)||(s.k==1&&decide (0<=s.n)&&decide (s.n<=64)&&s.x==0)||(s.k==2&&decide (1<=s.n)&&decide (s.n<=64)&&decide (1<=s.x)&&decide (s.x<=16))||(s.k==3&&decide (0<=s.n)&&decide (s.n<=64)&&decide (1<=s.x)&&decide (s.x<=16))
def lT (s:ir):Int:=if bN s then 0 else 9
def kV (s:ir):Bool:=s.k==2||s.k==3
def eH (op:Int):Int:=if op<0\/34<op then -1 else if op<=3 then 0 else if op=4\/op=5\/op=21\/op=22\/op=23\/op=27\/op=28\/op=33\/op=34 then 1 else if op=19\/op=25\/op=30\/op=32 then 3 else 2
def DL (op:Int):Bool:=op==21||op==22||op==23||op==28
def DM (op:Int):Bool:=op==0||op==2||op==33
def okF (n:Nx):Bool:=(DL n.op||n.n==0)&&(n.op==21||n.m==0)&&(n.op==1||n.u==0)&&(DM n.op||decide (n.tx=ba []))
def jt (g:List Nx) (k:Int):Bool:=decide (0<=k)&&decide (k<(g.length:Int))
def oE (c:UInt8):Bool:=decide (97<=c.toNat)&&decide (c.toNat<=122)
def mq (c:UInt8):Bool:=oE c||(decide (48<=c.toNat)&&decide (c.toNat<=57))||c==45
def qf (l:List UInt8):Bool:=match l with
 |[]=>false
 |c::m=>decide (m.length<=15)&&oE c&&m.all mq
def rB:List Nx->ByteArray->Option ir
 |[],_=>none
 |d::g,t=>if d.op=0/\d.tx=t then some d.st else rB g t
def zO (g:List Nx) (n:Nx):Bool:=match rB g n.tx with
 |some s=>!decide (s=n.st)
 |none=>false
def Od (u:Int) (n:Int):Bool:=decide (n<64)&&decide (2^n.toNat<=u)
def dM (g:List Nx) (n:Nx):ir×Int:=
 if n.op=2 then (if 64<n.tx.size then (ow,5) else (mW n.tx.size,0)) else
 if n.op=0/\qf (bl n.tx)=false then (ow,6) else
 if bN n.st=false then (ow,9) else
 if n.op=1/\n.st.k≠0\/n.op=3/\kV n.st=false then (ow,9) else
 if n.op=1/\Od n.u n.st.n=true then (ow,5) else
 if n.op=0/\zO g n=true then (ow,8) else (n.st,0)
def nh (s:ir):ir:=if s.k=2 then jH s.n else mW s.n
def iL (op:Int) (x y z:ir):Bool:=
 if op=4\/op=5\/op=21\/op=22\/op=23 then x.k==0 else
 if op=18 then decide (x=y)||(x.k==1&&y.k==1) else
 if op=19 then decide (x=jH 1)&&(decide (y=z)||(y.k==1&&z.k==1)) else
 if op=20 then x.k==0&&y.k==0 else
 if op=24 then kV x&&decide (y=jH x.x) else
 if op=25 then kV x&&decide (y=jH x.x)&&(decide (z=nh x)||(x.k==3&&z.k==1&&decide (z.n<=x.n))) else
 if op=26 then kV x&&decide (x=y) else
 if op=27\/op=28\/op=33 then x.k==1 else
 if op=29\/op=31 then x.k==1&&y.k==1 else
 if op=30 then x.k==1&&decide (y=jH 7)&&decide (z=jH 7) else
 if op=32 then x.k==1&&y.k==1&&z.k==1 else
 if op=34 then decide (x=jH 8) else x.k==0&&decide (x=y)
def qP (n:Nx) (x y z:ir):ir:=
 if n.op=16\/n.op=17\/n.op=18\/n.op=33 then jH 1 else
 if n.op=19 then (if y.k=1 then mW (if y.n<z.n then z.n else y.n) else y) else
 if n.op=20 then jH (x.n+y.n) else
 if n.op=21 then jH (n.n - n.m+1) else
 if n.op=22\/n.op=23 then jH (x.n+n.n) else
 if n.op=24 then nh x else
 if n.op=26 then jH x.x else
 if n.op=27\/n.op=31 then jH 7 else
 if n.op=28 then jH 8 else
 if n.op=29 then mW (x.n+y.n) else
 if n.op=32 then mW (x.n+z.n) else
 if n.op=34 then mW 1 else x
def uq (n:Nx) (x y z:ir):Bool:=
 if n.op=20\/n.op=29 then decide (x.n+y.n<=64) else
 if n.op=21 then decide (0<=n.m)&&decide (n.m<=n.n)&&decide (n.n<x.n) else
 if n.op=22\/n.op=23 then decide (1<=n.n)&&decide (n.n<=64 - x.n) else
 if n.op=28 then decide (0<=n.n)&&decide (n.n<=63) else
 if n.op=32 then decide (x.n+z.n<=64) else true
def kC (g:List Nx) (n:Nx) (i:Nat):ir:=match n.kids[i]? with
 |some k=>match g[k.toNat]? with
  |some d=>d.st
  |none=>ow
 |none=>ow
def Ai (t:ByteArray):Bool:=BX (bl t)==some true
def eU (g:List Nx) (n:Nx):ir×Int:=
 if (eH n.op==(n.kids.length:Int)&&n.kids.all (jt g)&&okF n)=false then (ow,1) else
 if n.op<=3 then dM g n else
 if iL n.op (kC g n 0) (kC g n 1) (kC g n 2)=false then (ow,9) else
 if uq n (kC g n 0) (kC g n 1) (kC g n 2)=false then (ow,5) else
 if n.op=33/\Ai n.tx=false then (ow,2) else (qP n (kC g n 0) (kC g n 1) (kC g n 2),0)
def jb (n:Nx) (s:ir):Nx:={n with st:=s}
def mU (n:Nx):List Nx->Nat->Option Nat
 |[],_=>none
 |d::g,i=>if d=n then some i else mU n g (i+1)
def nf (g:List Nx) (n:Nx):List Nx×Int×Int:=
 if (eU g n).2≠0 then ([],0,(eU g n).2) else
 match mU (jb n (eU g n).1) g 0 with
 |some i=>(g,i,0)
 |none=>if 4096<=g.length then ([],0,4) else (g++[jb n (eU g n).1],g.length,0)
inductive Vg:List Nx->Prop
 |nil:Vg []
 |snoc {g:List Nx} {n:Nx}:Vg g->eU g n=(n.st,0)->n∉g->Vg (g++[n])
structure Nd where
 x:Nx
 ks:Sl
abbrev kh (s:ir):Value:=.agg #[.i s.k,.i s.n,.i s.x]
namespace Nd
def c (d:Nd):List Value:=[.i d.x.op,d.ks.v,.i d.x.n,.i d.x.m,.u d.x.u,.string d.x.tx,.i d.x.st.k,.i d.x.st.n,.i d.x.st.x]
abbrev v (d:Nd):Value:=.agg #[.i d.x.op,d.ks.v,.i d.x.n,.i d.x.m,.u d.x.u,.string d.x.tx,.i d.x.st.k,.i d.x.st.n,.i d.x.st.x]
theorem uP (d:Nd):(c d).length=9:=rfl
theorem gH (l:List Nd):(l.flatMap c).length=l.length *9:=oq c 9 uP l
abbrev P (w:World) (d:Nd):Prop:=fB w d.ks d.x.kids
structure od (w:World) (p:Addr) (i:Nat) (d:Nd):Prop where
 c0:w.cell? ((p.add (i *9)).add 0)=some (.i d.x.op)
 c1:w.cell? ((p.add (i *9)).add 1)=some d.ks.v
 c2:w.cell? ((p.add (i *9)).add 2)=some (.i d.x.n)
 c3:w.cell? ((p.add (i *9)).add 3)=some (.i d.x.m)
 c4:w.cell? ((p.add (i *9)).add 4)=some (.u d.x.u)
 c5:w.cell? ((p.add (i *9)).add 5)=some (.string d.x.tx)
 c6:w.cell? ((p.add (i *9)).add 6)=some (.i d.x.st.k)
 c7:w.cell? ((p.add (i *9)).add 7)=some (.i d.x.st.n)
 c8:w.cell? ((p.add (i *9)).add 8)=some (.i d.x.st.x)
theorem cB {w:World} {s:Sl} {l:List Nd} (h:jJ 9 w s (l.flatMap c)):s.n=l.length:=by
 have:=h.1
 rw [gH] at this
 omega
theorem at' {w:World} {s:Sl} {l:List Nd} (h:jJ 9 w s (l.flatMap c)) {i:Nat} {d:Nd} (hi:l[i]? =some d) {K:Addr->Prop} (hk:∀p,s.a=some p->od w p i d->K p):aX s.a K:=
 oB.elem (f:=c) (sz:=9) uP (by omega) h.2.2 hi λp hp hc=>hk p hp ⟨hc 0 _ rfl,hc 1 _ rfl,hc 2 _ rfl,hc 3 _ rfl,hc 4 _ rfl,hc 5 _ rfl,hc 6 _ rfl,hc 7 _ rfl,hc 8 _ rfl⟩
theorem again {w:World} {s:Sl} {l:List Nd} (h:jJ 9 w s (l.flatMap c)) {i:Nat} {d:Nd} (hi:l[i]? =some d) {p:Addr} (hp:s.a=some p):od w p i d:=by
 have hk:=at' h hi (K:=λq=>∃q',s.a=some q'/\od w q' i d) (λq hq hc=>⟨q,hq,hc⟩)
 rw [hp] at hk
 obtain ⟨q,hq,e⟩:=hk
 cases hq
 exact e
end Nd
abbrev xs (l:List Nd):List Nx:=l.map Nd.x
def GP (w:World) (s:Sl) (l:List Nd):Prop:=jJ 9 w s (l.flatMap Nd.c)/\∀d∈l,d.P w
abbrev fF (d:Nd):En:=.rd d.ks (d.x.kids.map ia)
def _root_.Go.W.En.gr (s:Sl) (l:List Nd):En:=.all (.iQ 9 s (l.flatMap Nd.c)::l.map fF)
theorem cQ {w:World} {s:Sl} {l:List Nd}:(En.gr s l).P w↔GP w s l:=by
 constructor
 .exact λh=>⟨h (.iQ 9 s (l.flatMap Nd.c)) (by simp),λd hd=>h (fF d) (qmCM _ (o8.2 ⟨d,hd,rfl⟩))⟩
 .intro h e he
  rcases cU.1 he with rfl|he
  .exact h.1
  .obtain ⟨d,hd,rfl⟩:=o8.1 he
   exact h.2 d hd
theorem sF {s:Sl} {l:List Nd} {b:Nat}:b∈(En.gr s l).fp↔b∈(En.iQ 9 s (l.flatMap Nd.c)).fp\/∃d∈l,b∈(fF d).fp:=by
 unfold En.gr En.all
 rw [aI,List.mem_flatMap]
 constructor
 .rintro ⟨e,he,hb⟩
  rcases cU.1 he with rfl|he
  .exact .inl hb
  .obtain ⟨d,hd,rfl⟩:=o8.1 he
   exact .inr ⟨d,hd,hb⟩
 .rintro (hb|⟨d,hd,hb⟩)
  .exact ⟨_,List.mem_cons_self ..,hb⟩
  .exact ⟨_,qmCM _ (o8.2 ⟨d,hd,rfl⟩),hb⟩
theorem qq {w:World} {s:Sl} {l:List Nd} (h:GP w s l):s.n=l.length:=Nd.cB h.1
theorem jM {w:World} {s:Sl} {l:List Nd} (h:GP w s l) {i:Nat} {d:Nd} {X:Int} (hX:X=(i:Int)) (hi:l[i]? =some d) {K:Addr->Prop} (hk:∀p,s.a=some p->Nd.od w p (Int.toNat X) d->K p):(0:Int)<=X/\X<((s.n:Nat):Int)/\aX s.a K:=by
 have hn:=qq h
 have hl:=(nP.1 hi).1
 subst hX
 exact ⟨by omega,by omega,Nd.at' h.1 hi hk⟩
theorem uz {l:List Nd} {i:Nat} {d:Nd} (h:l[i]? =some d):(xs l)[i]? =some d.x:=by simp [xs,h]
namespace Nd
theorem od.s0 {w:World} {p:Addr} {i:Nat} {d:Nd} (h:od w p i d):w.cell? (((p.add (i *9)).add 6).add 0)=some (.i d.x.st.k):=by rw [add_add];exact h.c6
theorem od.s1 {w:World} {p:Addr} {i:Nat} {d:Nd} (h:od w p i d):w.cell? (((p.add (i *9)).add 6).add 1)=some (.i d.x.st.n):=by rw [add_add];exact h.c7
theorem od.s2 {w:World} {p:Addr} {i:Nat} {d:Nd} (h:od w p i d):w.cell? (((p.add (i *9)).add 6).add 2)=some (.i d.x.st.x):=by rw [add_add];exact h.c8
end Nd
theorem pJ {w:World} {s:Sl} {l:List Nd} (h:GP w s l) {i:Nat} {d:Nd} (hi:l[i]? =some d) {p:Addr} (hp:s.a=some p) {X:Int} (hX:X=(i:Int)):Nd.od w p (Int.toNat X) d:=by
 subst hX
 exact Nd.again h.1 hi hp
def o9 (s:ir):List Value:=[.i s.k,.i s.n,.i s.x]
theorem EM (l:List ir):(l.flatMap o9).length=l.length *3:=oq o9 3 (λ_=>rfl) l
structure Fw (w:World) (p:Addr) (i:Nat) (s:ir):Prop where
 c0:w.cell? ((p.add (i *3)).add 0)=some (.i s.k)
 c1:w.cell? ((p.add (i *3)).add 1)=some (.i s.n)
 c2:w.cell? ((p.add (i *3)).add 2)=some (.i s.x)
theorem Ug {w:World} {s:Sl} {l:List ir} (h:jJ 3 w s (l.flatMap o9)):s.n=l.length:=by
 have:=h.1
 rw [EM] at this
 omega
theorem eX {w:World} {s:Sl} {l:List ir} (h:jJ 3 w s (l.flatMap o9)) {i:Nat} {x:ir} {X:Int} (hX:X=(i:Int)) (hi:l[i]? =some x) {K:Addr->Prop} (hk:∀p,s.a=some p->Fw w p (Int.toNat X) x->K p):(0:Int)<=X/\X<((s.n:Nat):Int)/\aX s.a K:=by
 have hn:=Ug h
 have hl:=(nP.1 hi).1
 subst hX
 exact ⟨by omega,by omega,oB.elem (f:=o9) (sz:=3) (λ_=>rfl) (by omega) h.2.2 hi λp hp hc=>hk p hp ⟨hc 0 _ rfl,hc 1 _ rfl,hc 2 _ rfl⟩⟩
theorem cX {w:World} {s:Sl} {l:List ir} (h:jJ 3 w s (l.flatMap o9)) {i:Nat} {x:ir} {X:Int} (hX:X=(i:Int)) (hi:l[i]? =some x) {p:Addr} (hp:s.a=some p):Fw w p (Int.toNat X) x:=by
 have hk:=(eX h hX hi (K:=λq=>∃q',s.a=some q'/\Fw w q' (Int.toNat X) x) (λq hq hc=>⟨q,hq,hc⟩)).2.2
 rw [hp] at hk
 obtain ⟨q,hq,e⟩:=hk
 cases hq
 exact e
theorem nH (a b:ir):((a.k==b.k)&&((a.n==b.n)&&((a.x==b.x)&&true)))=decide (a=b):=by
 cases a;cases b
 simp only [ir.mk.injEq,Bool.and_true,Bool.decide_and]
 rfl
theorem IW (a b:ByteArray):(a.toList==b.toList)=decide (a=b):=by
 rw [ByteArray.toList_eq,ByteArray.toList_eq]
 have h:(a.data.toList=b.data.toList)↔a=b:=⟨λh=>ByteArray.ext (Array.toList_inj.1 h),λh=>by rw [h]⟩
 rw [<-decide_eq_decide.2 h]
 cases hd:decide (a.data.toList=b.data.toList) with
 |true=>rw [of_decide_eq_true hd];simp
 |false=>exact beq_eq_false_iff_ne.2 (of_decide_eq_false hd)
section
variable {A B:Prop}
theorem GS {a b:ByteArray} (h1:a=b->A) (h2:a≠b->B):aH (a.toList==b.toList) A B:=by
 rw [IW];exact aK h1 h2
theorem nG {a b:ir} (h1:a=b->A) (h2:a≠b->B):aH ((a.k==b.k)&&((a.n==b.n)&&((a.x==b.x)&&true))) A B:=by
 rw [nH];exact aK h1 h2
theorem sU {a b:ir} (h1:a≠b->A) (h2:a=b->B):aH (!((a.k==b.k)&&((a.n==b.n)&&((a.x==b.x)&&true)))) A B:=by
 rw [nH];exact eO (λh=>h1 (of_decide_eq_false h)) (λh=>h2 (of_decide_eq_true h))
theorem zt {s:ir} (h1:bN s=false->A) (h2:bN s=true->B):aH (lT s !=0) A B:=by
 unfold lT
 cases h:bN s with
 |true=>exact aM rfl (h2 h)
 |false=>exact aS rfl (h1 h)
end
set_option maxRecDepth 100000
theorem nR (n:Int) (w:World):Calls Tryz.prog aV #[.i n] w λr w'=>r=.returned (kh (jH n))/\bF w w':=
 enthymemeref07_BV.cT _ w _ ((mf [] (by simp)).bI λb w1 H1=>H1.aN λw2 H2=>⟨rfl,H2.fr⟩)
theorem lF (n:Int) (w:World):Calls Tryz.prog bS #[.i n] w λr w'=>r=.returned (kh (mW n))/\bF w w':=
 enthymemeref07_Strings.cT _ w _ ((mf [] (by simp)).bI λb w1 H1=>H1.aN λw2 H2=>⟨rfl,H2.fr⟩)
theorem wP (s:ir) (w:World):Calls Tryz.prog fH #[kh s] w λr w'=>r=.returned (kh (nh s))/\bF w w':=by
 refine enthymemeref07_Element.cT _ _ _ w _ ((mf [] (by simp)).bI λb w1 H1=>H1.bI λb2 w2 H2=>aJ (λh=>H2.aL (nR s.n w2) ?_) (λh=>H2.aL (lF s.n w2) ?_))
 .rintro _ w3 rfl H3
  exact ⟨_,_,_,rfl,H3.aN λw4 H4=>⟨by unfold nh;rw [if_pos h],H4.fr⟩⟩
 .rintro _ w3 rfl H3
  exact ⟨_,_,_,rfl,H3.aN λw4 H4=>⟨by unfold nh;rw [if_neg h],H4.fr⟩⟩
theorem wK {op:Int} (h1:0<=op) (h2:op<=34):op=0\/op=1\/op=2\/op=3\/op=4\/op=5\/op=6\/op=7\/op=8\/op=9\/op=10\/op=11\/op=12\/op=13\/op=14\/op=15\/op=16\/op=17\/op=18\/op=19\/op=20\/op=21\/op=22\/op=23\/op=24\/op=25\/op=26\/op=27\/op=28\/op=29\/op=30\/op=31\/op=32\/op=33\/op=34:=by omega
theorem K5 (op:Int) (w:World):Calls Tryz.prog iC #[.i op] w λr w'=>r=.returned (.i (eH op))/\bF w w':=by
 refine enthymemeref07_Kids.ok op w _ ?_
 by_cases h1:op<0
 .exact aS (decide_eq_true h1) ⟨by unfold eH;rw [if_pos (.inl h1)],Fr.refl _ _⟩
 refine aM (decide_eq_false h1) ?_
 by_cases h2:op>34
 .exact aS (decide_eq_true h2) ⟨by unfold eH;rw [if_pos (.inr h2)],Fr.refl _ _⟩
 refine aM (decide_eq_false h2) ?_
 rcases wK (by omega) (by omega:op<=34) with rfl|rfl|rfl|rfl|rfl|rfl|rfl|rfl|rfl|rfl|rfl|rfl|rfl|rfl|rfl|rfl|rfl|rfl|rfl|rfl|rfl|rfl|rfl|rfl|rfl|rfl|rfl|rfl|rfl|rfl|rfl|rfl|rfl|rfl|rfl<;>exact ⟨rfl,Fr.refl _ _⟩
theorem HP {s:ByteArray} {i:Nat} (h:i<s.size):s[i]? =some (gQ (bl s) i):=by
 have h2:i<(bl s).length:=h
 have e:gQ (bl s) i=(bl s)[i]:=by unfold gQ;rw [List.getD_eq_getElem?_getD,g7 h2];rfl
 rw [e,getElem?_pos s i h]
 rfl
theorem mL (c:UInt8) (m:List UInt8):qf (c::m)=(decide (m.length<=15)&&oE c&&m.all mq):=rfl
theorem Og (s:ByteArray) (w:World):Calls Tryz.prog jX #[.string s] w λr w'=>r=.returned (.bool (qf (bl s)))/\bF w w':=by
 have hl:(bl s).length=s.size:=hV s
 have no:qf (bl s)=false->(Ending.returned (.bool false)=.returned (.bool (qf (bl s)))/\bF w w):=λh=>⟨by rw [h],Fr.refl _ _⟩
 cases hs:bl s with
 |nil=>
  have h0:s.size=0:=by rw [<-hl,hs];rfl
  exact enthymemeref07_Named.ok s w _ (aS (decide_eq_true (by omega)) ⟨rfl,Fr.refl _ _⟩)
 |cons c m=>
  have hm:s.size=m.length+1:=by rw [<-hl,hs];rfl
  rw [hs] at no
  have g0:gQ (bl s) 0=c:=by rw [hs];rfl
  have h0:s[Int.toNat 0]? =some c:=by rw [<-g0];exact HP (by omega)
  refine enthymemeref07_Named.ok s w _ (aM (decide_eq_false (by omega)) (aK (λh=>no ?_) (λh=>⟨by omega,c,h0,aK (λh1=>no ?_) (λh1=>⟨by omega,c,h0,aK (λh2=>no ?_) (λh2=>?_)⟩)⟩)))
  .rw [mL,decide_eq_false (by omega)];rfl
  .rw [mL];unfold oE;rw [decide_eq_false (show ¬97<=c.toNat by omega)];simp
  .rw [mL];unfold oE;rw [decide_eq_false (show ¬c.toNat<=122 by omega)];simp
  have e0:qf (c::m)=m.all mq:=by
   rw [mL]
   unfold oE
   rw [decide_eq_true (show m.length<=15 by omega),decide_eq_true (show 97<=c.toNat by omega),decide_eq_true (show c.toNat<=122 by omega)]
   simp
  have e1:qf (c::m)=(bl s).all mq:=by
   rw [e0,hs,List.all_cons]
   unfold mq oE
   rw [decide_eq_true (show 97<=c.toNat by omega),decide_eq_true (show c.toNat<=122 by omega)]
   simp
  rw [e1]
  have loop:∀(d i:Nat),i+d=s.size->(bl s).all mq=((bl s).drop i).all mq->enthymemeref07_Named.L1 s (i:Int) w λr w'=>r=.returned (.bool ((bl s).all mq))/\bF w w':=by
   intro d
   induction d with
   |zero=>
    intro i hi he
    rw [qdO (by omega)] at he
    exact enthymemeref07_Named.lE _ _ _ _ (aM (decide_eq_false (by omega)) ⟨by rw [he];rfl,Fr.refl _ _⟩)
   |succ d ih=>
    intro i hi he
    have hg:=HP (show i<s.size by omega)
    rw [qdG (by omega:i<(bl s).length),List.all_cons,show (bl s)[i]'(by omega)=gQ (bl s) i by unfold gQ;rw [List.getD_eq_getElem?_getD,g7 (by omega:i<(bl s).length)];rfl] at he
    generalize gQ (bl s) i=x at hg he
    have go:mq x=true->enthymemeref07_Named.S4 s (i:Int) w λr w'=>r=.returned (.bool ((bl s).all mq))/\bF w w':=λh=>by
     show enthymemeref07_Named.L1 s (IntKind.wrap .i64 ((i:Int)+1)) w _
     rw [aZ _ (by omega)]
     exact ih (i+1) (by omega) (by rw [he,h,Bool.true_and])
    have stop:mq x=false->(Ending.returned (.bool false)=.returned (.bool ((bl s).all mq))/\bF w w):=λh=>⟨by rw [he,h,Bool.false_and],Fr.refl _ _⟩
    have dig:oE x=false->∀o:Bool,o=((decide (48<=x.toNat)&&decide (x.toNat<=57))||x==45)->enthymemeref07_Named.S3 s (i:Int) false o w λr w'=>r=.returned (.bool ((bl s).all mq))/\bF w w':=λhx o ho=>by
     refine aS rfl (eO (λh=>stop ?_) (λh=>go ?_))
     .unfold mq;rw [hx,Bool.false_or,<-ho,h]
     .unfold mq;rw [hx,Bool.false_or,<-ho,h]
    have e45:((((x.toNat:Nat):Int)==45):Bool)=(x==45):=by
     by_cases h:x=45
     .subst h;rfl
     .rw [beq_eq_false_iff_ne.2 h,beq_eq_false_iff_ne]
      intro h2
      exact h (UInt8.toNat_inj.1 (by have:((45:UInt8).toNat:Int)=45:=rfl;omega))
    have ht:((i:Int)).toNat=i:=Int.toNat_natCast i
    have S2:∀l:Bool,l=oE x->enthymemeref07_Named.S2 s (i:Int) l w λr w'=>r=.returned (.bool ((bl s).all mq))/\bF w w':=λl hl=>by
     have fin:∀o:Bool,o=((decide (48<=x.toNat)&&decide (x.toNat<=57))||x==45)->enthymemeref07_Named.S3 s (i:Int) l o w λr w'=>r=.returned (.bool ((bl s).all mq))/\bF w w':=λo ho=>by
      cases hx:oE x with
      |true=>rw [hl,hx];exact aM rfl (go (by unfold mq;rw [hx];rfl))
      |false=>rw [hl,hx];exact dig hx o ho
     refine ⟨by omega,x,by rw [ht];exact hg,aK (λh=>⟨by omega,x,by rw [ht];exact hg,aK (λh'=>fin true ?_) (λh'=>⟨by omega,x,by rw [ht];exact hg,?_⟩)⟩) (λh=>⟨by omega,x,by rw [ht];exact hg,?_⟩)⟩
     .rw [decide_eq_true (show 48<=x.toNat by omega),decide_eq_true (show x.toNat<=57 by omega)];rfl
     .rw [e45];exact fin _ (by rw [decide_eq_false (show ¬x.toNat<=57 by omega)];simp)
     .rw [e45];exact fin _ (by rw [decide_eq_false (show ¬48<=x.toNat by omega)];simp)
    refine enthymemeref07_Named.lE _ _ _ _ (aS (decide_eq_true (by omega)) ⟨by omega,x,by rw [ht];exact hg,aK (λh=>⟨by omega,x,by rw [ht];exact hg,S2 _ ?_⟩) (λh=>S2 _ ?_)⟩)
    .unfold oE
     rw [decide_eq_true (show 97<=x.toNat by omega),Bool.true_and]
     exact decide_eq_decide.2 (by omega)
    .unfold oE
     rw [decide_eq_false (show ¬97<=x.toNat by omega),Bool.false_and]
  exact loop s.size 0 (by omega) (by simp)
theorem zj (n lo hi:Int) (w:World):Calls Tryz.prog bY #[.int .i64 n,.int .i64 lo,.int .i64 hi] w λr w'=>r=.returned (.bool (decide (lo<=n/\n<=hi)))/\bF w w':=by
 refine enthymemeref06_within.ok _ _ _ w _ (aK (λh=>⟨?_,Fr.refl _ _⟩) (λh=>⟨?_,Fr.refl _ _⟩))
 .have:(lo<=n/\n<=hi)↔n<=hi:=⟨λh=>h.2,λh'=>⟨h,h'⟩⟩
  simp only [this]
 .rw [decide_eq_false (by omega)]
theorem EC (s:ir) (w:World):Calls Tryz.prog iw #[kh s] w λr w'=>r=.returned (.int .i64 (lT s))/\bF w w':=by
 refine enthymemeref06_ValidSort.cT _ _ _ w _ ((mf [] (by simp)).bI λb1 w1 H1=>?_)
 have fin:∀{w2:World} {L:List En} (b:Bool),b=bN s->LH F0 w w2 L []->enthymemeref06_ValidSort.dU b w2 λr w'=>r=.returned (.int .i64 (lT s))/\bF w w':=by
  rintro w2 L b rfl H
  refine eO (λh=>⟨?_,H.fr⟩) (λh=>⟨?_,H.fr⟩)
  .unfold lT;rw [if_neg (by simp [h])]
  .unfold lT;rw [if_pos h]
 have plain:∀lo:Int,(bN s=(decide (lo<=s.n/\s.n<=64)&&(s.x==0)))->fC [b1] Tryz.prog bY #[.int .i64 s.n,.int .i64 lo,.int .i64 64] w1 λr_ w2=>∃t10:Bool,r_=.returned (.bool t10)/\aH t10 (enthymemeref06_ValidSort.dU (s.x==0) w2 λr w'=>r=.returned (.int .i64 (lT s))/\bF w w') (enthymemeref06_ValidSort.dU false w2 λr w'=>r=.returned (.int .i64 (lT s))/\bF w w'):=by
  intro lo hv
  refine H1.aL (zj _ _ _ w1) ?_
  rintro _ w2 rfl H2
  refine ⟨_,rfl,bB (λh=>fin _ ?_ H2) (λh=>fin _ ?_ H2)⟩
  .rw [hv,h];rfl
  .rw [hv,h];rfl
 have array:∀lo:Int,(bN s=(decide (lo<=s.n/\s.n<=64)&&decide (1<=s.x/\s.x<=16)))->fC [b1] Tryz.prog bY #[.int .i64 s.n,.int .i64 lo,.int .i64 64] w1 λr_ w2=>∃t10:Bool,r_=.returned (.bool t10)/\aH t10 (fC [b1] Tryz.prog bY #[.int .i64 s.x,.int .i64 1,.int .i64 16] w2 λr_ w5=>∃t34:Bool,r_=.returned (.bool t34)/\enthymemeref06_ValidSort.dU t34 w5 λr w'=>r=.returned (.int .i64 (lT s))/\bF w w') (enthymemeref06_ValidSort.dU false w2 λr w'=>r=.returned (.int .i64 (lT s))/\bF w w'):=by
  intro lo hv
  refine H1.aL (zj _ _ _ w1) ?_
  rintro _ w2 rfl H2
  refine ⟨_,rfl,bB (λh=>H2.aL (zj _ _ _ w2) ?_) (λh=>fin _ ?_ H2)⟩
  .rintro _ w3 rfl H3
   exact ⟨_,rfl,fin _ (by rw [hv,h];rfl) H3⟩
  .rw [hv,h];rfl
 refine aJ (λh0=>plain 1 ?_) (λh0=>aJ (λJt=>plain 0 ?_) (λJt=>aJ (λQS=>array 1 ?_) (λQS=>aJ (λJu=>array 0 ?_) (λJu=>fin _ ?_ H1))))
 .unfold bN;simp [h0]
 .unfold bN;simp [Jt]
 .unfold bN;simp [QS,Bool.and_assoc]
 .unfold bN;simp [Ju,Bool.and_assoc]
 .unfold bN;simp [h0,Jt,QS,Ju]
abbrev rJ (s:Sl) (l:List Nd) (d:Nd):List En:=[.gr s l,fF d]
theorem Wr {w:World} {s:Sl} {l:List Nd} {d:Nd} (h:GP w s l) (hd:d.P w):LH F0 w w [] (rJ s l d):=mf _ (by
 intro e he
 simp only [cU,qnM,or_false] at he
 rcases he with rfl|rfl
 .exact cQ.2 h
 .exact hd)
theorem Of {w:World} {s:Sl} {l:List Int} (h:fB w s l) (hl:l.length<=1000000000000) (n:Int):Calls Tryz.prog kZ #[s.v,.i n] w λr w'=>r=.returned (.bool (decide (n∈l)))/\bF w w':=by
 have hn:=fB.len h
 have loop:∀(d i:Nat),i+d=l.length->(n∈l↔n∈l.drop i)->enthymemeref01_Has.L0 s n (i:Int) w λr w'=>r=.returned (.bool (decide (n∈l)))/\bF w w':=by
  intro d
  induction d with
  |zero=>
   intro i hi he
   rw [qdO (by omega)] at he
   exact enthymemeref01_Has.cO _ _ _ _ _ (aM (decide_eq_false (by omega)) ⟨by rw [decide_eq_false (λh=>by have:=he.1 h;simp at this)],Fr.refl _ _⟩)
  |succ d ih=>
   intro i hi he
   have hg:l[i]? =some (l[i]'(by omega)):=g7 (by omega)
   rw [qdG (by omega:i<l.length),cU] at he
   generalize l[i]'(by omega)=x at hg he
   refine enthymemeref01_Has.cO _ _ _ _ _ (aS (decide_eq_true (by omega)) ⟨by omega,by omega,h.cell hg (by omega) λp hp hc=>⟨x,hc,aJ (λe=>⟨?_,Fr.refl _ _⟩) (λe=>?_)⟩⟩)
   .rw [decide_eq_true (he.2 (.inl e.symm))]
   .rw [aZ _ (by omega)]
    exact ih (i+1) (by omega) (he.trans ⟨λh=>h.resolve_left (λh=>e h.symm),.inr⟩)
 exact enthymemeref01_Has.ok _ _ w _ (loop l.length 0 (by omega) (by simp))
theorem QM {w:World} {s:Sl} {l:List Int} (h:fB w s l) (hl:l.length<=1000000000000) (n:Int):Calls Tryz.prog iV #[s.v,.i n] w λr w'=>r=.returned (.bool (decide (n∈l)))/\bF w w':=by
 refine enthymemeref07_has.ok _ _ w _ ((Of h hl n).mono ?_)
 rintro _ w1 ⟨rfl,f⟩
 exact ⟨_,rfl,rfl,f⟩
theorem oh {w:World} {b n:Nat} {l:List Int} {T:TypeId} (h:w.heap[b]? =some (.cells (l.map ia).toArray T (0,0))) (hn:n=l.length):fB w ⟨some (bD b),n,n⟩ l:=
 wc h (by simpa using hn)
def m9:Nat:=1000000000
theorem xp (op:Int):(decide (op∈[(21:Int),22,23,28])=DL op)/\(decide (op∈[(0:Int),2,33])=DM op):=by
 constructor
 .unfold DL
  by_cases h1:op=21
  .subst h1;rfl
  by_cases h2:op=22
  .subst h2;rfl
  by_cases h3:op=23
  .subst h3;rfl
  by_cases h4:op=28
  .subst h4;rfl
  simp [h1,h2,h3,h4]
 .unfold DM
  by_cases h1:op=0
  .subst h1;rfl
  by_cases h2:op=2
  .subst h2;rfl
  by_cases h3:op=33
  .subst h3;rfl
  simp [h1,h2,h3]
theorem Tg (t:ByteArray):(t.toList==(ByteArray.mk #[]).toList)=decide (t=ba []):=IW _ _
theorem Pu {n:Nx} {A B:Prop} (h:aH (okF n) B A):∀a b:Bool,a=DL n.op->b=DM n.op->
  let T:=aH (!b) (aH (!(n.tx.toList==(ByteArray.mk #[]).toList)) A B) B
  let U:=aH (n.op !=1) (aH (n.u !=0) A T) T
  let M:=aH (n.op !=21) (aH (n.m !=0) A U) U
  aH (!a) (aH (n.n !=0) A M) M:=by
 rintro a b rfl rfl
 dsimp only
 rw [Tg]
 unfold okF at h
 have e1:(n.op !=1)= !(n.op==1):=rfl
 have e2:(n.op !=21)= !(n.op==21):=rfl
 have e3:(n.n !=0)= !(n.n==0):=rfl
 have e4:(n.m !=0)= !(n.m==0):=rfl
 have e5:(n.u !=0)= !(n.u==0):=rfl
 rw [e1,e2,e3,e4,e5]
 generalize (n.op==1)=p1 at *
 generalize (n.op==21)=p2 at *
 generalize (n.n==0)=p3 at *
 generalize (n.m==0)=p4 at *
 generalize (n.u==0)=p5 at *
 generalize decide (n.tx=ba [])=p6 at *
 generalize DL n.op=p7 at *
 generalize DM n.op=p8 at *
 cases p1<;>cases p2<;>cases p3<;>cases p4<;>cases p5<;>cases p6<;>cases p7<;>cases p8<;>exact h
def Al (g:List Nx) (n:Nx):Int:=if (eH n.op==(n.kids.length:Int)&&n.kids.all (jt g)&&okF n)=true then 0 else 1
theorem Lb {w:World} {s:Sl} {l:List Nd} {d:Nd} (h:GP w s l) (hd:d.P w) (hk:d.x.kids.length<=m9):Calls Tryz.prog jz #[s.v,d.v] w λr w'=>r=.returned (.i (Al (xs l) d.x))/\bF w w':=by
 have hn:=qq h
 have V0:d.ks.n=d.x.kids.length:=fB.len hd
 have nN:(xs l).length=l.length:=by simp [xs]
 unfold m9 at hk
 have loop:∀(m i:Nat) (b3:Nat) (w1:World),i+m=d.x.kids.length->(eH d.x.op==(d.x.kids.length:Int))=true->(d.x.kids.all (jt (xs l))=(d.x.kids.drop i).all (jt (xs l)))->LH F0 w w1 [.g b3] (rJ s l d)->
   enthymemeref07_fields.dY s b3 d.x.op d.ks d.x.n d.x.m d.x.u d.x.tx d.x.st.k d.x.st.n d.x.st.x (i:Int) w1 λr w'=>r=.returned (.i (Al (xs l) d.x))/\bF w w':=by
  intro m
  induction m with
  |zero=>
   intro i b3 w1 hi hq he H
   rw [qdO (by omega)] at he
   refine enthymemeref07_fields.aY _ _ _ _ _ _ _ _ _ _ _ _ _ _ (aM (decide_eq_false (by omega)) (H.nw λw2 _ H2=>H2.aL (QM (l:=[21,22,23,28]) (oh (n:=4) (H2.ob 1) rfl) (by decide) d.x.op) ?_))
   rintro _ w3 rfl H3
   refine ⟨_,rfl,H3.nw λw4 _ H4=>H4.aL (QM (l:=[0,2,33]) (oh (n:=3) (H4.ob 2) rfl) (by decide) d.x.op) ?_⟩
   rintro _ w5 rfl H5
   refine ⟨_,rfl,?_⟩
   have hf:∀b:Bool,okF d.x=b->Al (xs l) d.x=if b=true then 0 else 1:=λb hb=>by
    unfold Al
    rw [hq,he,hb]
    rfl
   exact Pu (n:=d.x) (bB (λh=>⟨by rw [hf _ h];rfl,H5.fr⟩) (λh=>⟨by rw [hf _ h];rfl,H5.fr⟩)) _ _ (xp d.x.op).1 (xp d.x.op).2
  |succ m ih=>
   intro i b3 w1 hi hq he H
   have hg:d.x.kids[i]? =some (d.x.kids[i]'(by omega)):=g7 (by omega)
   rw [qdG (by omega:i<d.x.kids.length),List.all_cons] at he
   generalize d.x.kids[i]'(by omega)=x at hg he
   have bad:jt (xs l) x=false->(Ending.returned (.i 1)=.returned (.i (Al (xs l) d.x))/\bF w w1):=λhx=>⟨by unfold Al;rw [he,hx];simp,H.fr⟩
   have A9:fB w1 d.ks d.x.kids:=H.getD 1
   refine enthymemeref07_fields.aY _ _ _ _ _ _ _ _ _ _ _ _ _ _ (aS (decide_eq_true (by omega)) ⟨by omega,by omega,A9.cell hg (by omega) λp hp hc=>⟨x,hc,aK (λh1=>bad ?_) (λh1=>⟨by omega,by omega,A9.cell hg (by omega) λp' HX UM=>⟨x,UM,aK (λh2=>bad ?_) (λh2=>?_)⟩⟩)⟩⟩)
   .unfold jt;rw [decide_eq_false (by omega)];rfl
   .unfold jt;rw [decide_eq_false (show ¬x<((xs l).length:Int) by rw [nN];omega)];simp
   .rw [aZ _ (by omega)]
    refine ih (i+1) b3 w1 (by omega) hq ?_ H
    rw [he]
    unfold jt
    rw [decide_eq_true (show 0<=x by omega),decide_eq_true (show x<((xs l).length:Int) by rw [nN];omega)]
    rfl
 refine enthymemeref07_fields.cT _ _ _ _ _ _ _ _ _ _ w _ ((Wr h hd).bI λb3 w1 H1=>H1.aN λw2 H2=>H2.aL (K5 d.x.op w2) ?_)
 rintro _ w3 rfl H3
 refine ⟨_,rfl,eB (λiq=>⟨?_,H3.fr⟩) (λheq=>?_)⟩
 .unfold Al
  rw [beq_eq_false_iff_ne.2 (by rw [V0] at iq;exact iq)]
  rfl
 .exact loop d.x.kids.length 0 b3 w3 (by omega) (by rw [heq,V0];simp) (by simp) H3
def tQ (g:List Nx):Prop:=∀d∈g,d.op=0->∀e∈g,e.op=0->d.tx=e.tx->d.st=e.st
theorem tQ.tail {d:Nx} {g:List Nx} (h:tQ (d::g)):tQ g:=λa ha h1 b hb h2=>h a (qmCM _ ha) h1 b (qmCM _ hb) h2
def Kf (n d:Nx):Bool:=decide (d.op=0/\d.tx=n.tx/\d.st≠n.st)
theorem zQ {t:ByteArray} {s:ir}:∀{g:List Nx},rB g t=some s->∃d∈g,d.op=0/\d.tx=t/\d.st=s
 |d::g,h=>by
  unfold rB at h
  split at h
  .rename_i hc
   exact ⟨d,by simp,hc.1,hc.2,Option.some.inj h⟩
  .obtain ⟨e,he,h⟩:=zQ h
   exact ⟨e,qmCM _ he,h⟩
theorem BB {t:ByteArray}:∀{g:List Nx},rB g t=none->∀d∈g,d.op=0->d.tx≠t
 |a::g,h,d,hd,h0,ht=>by
  unfold rB at h
  split at h
  .cases h
  .rename_i hc
   rcases cU.1 hd with rfl|hd
   .exact hc ⟨h0,ht⟩
   .exact BB h d hd h0 ht
theorem Bz {g:List Nx} (hv:tQ g) (n:Nx):zO g n=g.any (Kf n):=by
 unfold zO
 cases h:rB g n.tx with
 |none=>
  symm
  rw [List.any_eq_false]
  intro d hd ht
  have ht:=of_decide_eq_true ht
  exact BB h d hd ht.1 ht.2.1
 |some s=>
  obtain ⟨d,hd,h0,h1,h2⟩:=zQ h
  by_cases hs:s=n.st
  .simp only [hs,decide_true,Bool.not_true]
   symm
   rw [List.any_eq_false]
   intro e he ht
   have ht:=of_decide_eq_true ht
   exact ht.2.2 ((hv e he ht.1 d hd h0 (ht.2.1.trans h1.symm)).trans (h2.trans hs))
  .simp only [hs,decide_false,Bool.not_false]
   symm
   rw [List.any_eq_true]
   exact ⟨d,hd,decide_eq_true ⟨h0,h1,λe=>hs (h2.symm.trans e)⟩⟩
theorem MT (n:Int) (h0:0<=n) (h1:n<64):IntKind.wrap .u64 (1 *2^(min (Int.toNat n) (IntKind.bits .u64)))=((2^n.toNat:Nat):Int):=by
 have e:min (Int.toNat n) (IntKind.bits .u64)=n.toNat:=by show min n.toNat 64=_;omega
 have hp:(2:Nat)^n.toNat<=2^63:=Nat.pow_le_pow_right (by omega) (by omega)
 rw [e,Int.one_mul,show ((2:Int)^n.toNat)=((2^n.toNat:Nat):Int) from by rw [Int.natCast_pow];rfl]
 generalize (2:Nat)^n.toNat=m at hp
 exact IntWalk.u64_in _ (by omega)
abbrev ku (x:ir×Int):Ending:=.returned (.tuple #[kh x.1,.i x.2])
theorem qU {s:ir} (h:bN s=true) (hk:s.k=0):1<=s.n/\s.n<=64/\s.x=0:=by
 unfold bN at h
 simp [hk] at h
 omega
theorem mF {s:ir} (h:bN s=true):0<=s.n/\s.n<=64/\0<=s.x/\s.x<=16/\0<=s.k/\s.k<=3:=by
 unfold bN at h
 simp at h
 omega
theorem SS {w:World} {s:Sl} {l:List Nd} {d:Nd} (h:GP w s l) (hd:d.P w) (hl:l.length<=m9) (h0:0<=d.x.op) (h3:d.x.op<=3) (hv:tQ (xs l)):Calls Tryz.prog kG #[s.v,d.v] w λr w'=>r=ku (dM (xs l) d.x)/\bF w w':=by
 have hn:=qq h
 have nN:(xs l).length=l.length:=by simp [xs]
 unfold m9 at hl
 have e0:d.x.op=0\/d.x.op=1\/d.x.op=2\/d.x.op=3:=by omega
 refine enthymemeref07_leaf.cT _ _ _ _ _ _ _ _ _ _ w _ ((Wr h hd).bI λb3 w1 H1=>H1.bI λb4 w2 H2=>aJ (λh2=>?_) (λh2=>?_))
 .refine aK (λhs=>H2.aN λw3 H3=>⟨?_,H3.fr⟩) (λhs=>H2.aL (lF _ w2) ?_)
  .unfold dM;rw [if_pos h2,if_pos (by omega)];rfl
  .rintro _ w3 rfl H3
   refine ⟨_,_,_,rfl,H3.aN λw4 H4=>⟨?_,H4.fr⟩⟩
   unfold dM;rw [if_pos h2,if_neg (by omega)]
 have l1:dM (xs l) d.x=if d.x.op=0/\qf (bl d.x.tx)=false then (ow,6) else
   if bN d.x.st=false then (ow,9) else
   if d.x.op=1/\d.x.st.k≠0\/d.x.op=3/\kV d.x.st=false then (ow,9) else
   if d.x.op=1/\Od d.x.u d.x.st.n=true then (ow,5) else
   if d.x.op=0/\(xs l).any (Kf d.x)=true then (ow,8) else (d.x.st,0):=by
  unfold dM;rw [if_neg h2,Bz hv]
 have S0:∀(nm:Bool) (w3:World),nm=(!decide (d.x.op=0)||qf (bl d.x.tx))->LH F0 w w3 [.g b3,.g b4] (rJ s l d)->enthymemeref07_leaf.dU s b3 d.x.op d.ks d.x.n d.x.m d.x.u d.x.tx d.x.st.k d.x.st.n d.x.st.x b4 0 0 0 nm w3 λr w'=>r=ku (dM (xs l) d.x)/\bF w w':=by
  intro nm w3 NS H3
  refine eO (λhf=>H3.aN λw4 H4=>⟨?_,H4.fr⟩) (λht=>?_)
  .rw [hf] at NS
   have NS:=NS.symm
   simp only [Bool.or_eq_false_iff,Bool.not_eq_false',decide_eq_true_eq] at NS
   rw [l1,if_pos NS];rfl
  have Zw:¬(d.x.op=0/\qf (bl d.x.tx)=false):=λhc=>by rw [ht,hc.2,decide_eq_true hc.1] at NS;simp at NS
  rw [if_neg Zw] at l1
  refine H3.aL (EC d.x.st w3) ?_
  rintro _ w4 rfl H4
  refine ⟨_,rfl,zt (λhf=>H4.aN λw5 H5=>⟨?_,H5.fr⟩) (λht=>?_)⟩
  .rw [l1,if_pos hf];unfold lT;rw [hf];rfl
  rw [if_neg (by rw [ht];simp)] at l1
  have loop:∀(m i:Nat) (w5:World),i+m=l.length->dM (xs l) d.x=(if d.x.op=0/\((xs l).drop i).any (Kf d.x)=true then (ow,8) else (d.x.st,0))->LH F0 w w5 [.g b3,.g b4] (rJ s l d)->
    enthymemeref07_leaf.BF s b3 d.x.op d.ks d.x.n d.x.m d.x.u d.x.tx d.x.st.k d.x.st.n d.x.st.x b4 0 0 0 (i:Int) w5 λr w'=>r=ku (dM (xs l) d.x)/\bF w w':=by
   intro m
   induction m with
   |zero=>
    intro i w5 hi he H5
    rw [qdO (by omega)] at he
    refine enthymemeref07_leaf.m8 _ _ _ _ _ _ _ _ _ _ _ _ _ _ _ _ _ _ (aM (decide_eq_false (by omega)) (H5.aN λw6 H6=>⟨?_,H6.fr⟩))
    rw [he,if_neg (by simp)]
   |succ m ih=>
    intro i w5 hi he H5
    have hg:l[i]? =some (l[i]'(by omega)):=g7 (by omega)
    have hx:(xs l).drop i=(l[i]'(by omega)).x::(xs l).drop (i+1):=by
     rw [qdG (by omega:i<(xs l).length)]
     simp [xs]
    rw [hx,List.any_cons] at he
    generalize l[i]'(by omega)=e at hg he
    have next:∀w6,LH F0 w w6 [.g b3,.g b4] (rJ s l d)->(d.x.op=0->Kf d.x e.x=false)->enthymemeref07_leaf.xj s b3 d.x.op d.ks d.x.n d.x.m d.x.u d.x.tx d.x.st.k d.x.st.n d.x.st.x b4 0 0 0 (i:Int) w6 λr w'=>r=ku (dM (xs l) d.x)/\bF w w':=by
     intro w6 H6 ht
     show enthymemeref07_leaf.BF s b3 d.x.op d.ks d.x.n d.x.m d.x.u d.x.tx d.x.st.k d.x.st.n d.x.st.x b4 0 0 0 (IntKind.wrap .i64 ((i:Int)+1)) w6 _
     rw [aZ _ (by omega)]
     refine ih (i+1) w6 (by omega) ?_ H6
     rw [he]
     by_cases ho:d.x.op=0
     .rw [ht ho,Bool.false_or]
     .rw [if_neg (λh=>ho h.1),if_neg (λh=>ho h.1)]
    have G5:GP w5 s l:=cQ.1 (H5.getD 0)
    refine enthymemeref07_leaf.m8 _ _ _ _ _ _ _ _ _ _ _ _ _ _ _ _ _ _ (aS (decide_eq_true (by omega)) (aJ (λho=>?_) (λho=>H5.aN λw6 H6=>next w6 H6 (λh=>absurd h ho))))
    refine jM G5 rfl hg λp hp _=>H5.aN λw6 H6=>?_
    have c6:=pJ (cQ.1 (H6.getD 0)) hg hp (rfl:((i:Int))=(i:Int))
    refine ⟨_,c6.c0,aJ (λO2=>?_) (λO2=>next w6 H6 λ_=>decide_eq_false λh=>O2 h.1)⟩
    refine jM (cQ.1 (H6.getD 0)) rfl hg λp1 hp1 c61=>⟨_,c61.c5,GS (λht=>?_) (λht=>next w6 H6 λ_=>decide_eq_false λh=>ht h.2.1)⟩
    refine jM (cQ.1 (H6.getD 0)) rfl hg λp2 ZB Ys=>⟨_,_,_,Ys.s0,Ys.s1,Ys.s2,sU (λhf=>H6.aN λw7 H7=>⟨?_,H7.fr⟩) (λUQ=>next w6 H6 λ_=>decide_eq_false λh=>h.2.2 UQ)⟩
    rw [he,if_pos ⟨ho,by rw [show Kf d.x e.x=true from decide_eq_true ⟨O2,ht,hf⟩];rfl⟩]
    rfl
  have S4:∀w5:World,dM (xs l) d.x=(if d.x.op=0/\(xs l).any (Kf d.x)=true then (ow,8) else (d.x.st,0))->LH F0 w w5 [.g b3,.g b4] (rJ s l d)->
    enthymemeref07_leaf.pj s b3 d.x.op d.ks d.x.n d.x.m d.x.u d.x.tx d.x.st.k d.x.st.n d.x.st.x b4 0 0 0 w5 λr w'=>r=ku (dM (xs l) d.x)/\bF w w':=λw5 he H5=>loop l.length 0 w5 (by omega) he H5
  have S1:∀(a:Bool) (w5:World),a=kV d.x.st->LH F0 w w5 [.g b3,.g b4] (rJ s l d)->enthymemeref07_leaf.fY s b3 d.x.op d.ks d.x.n d.x.m d.x.u d.x.tx d.x.st.k d.x.st.n d.x.st.x b4 0 0 0 a w5 λr w'=>r=ku (dM (xs l) d.x)/\bF w w':=by
   rintro a w5 rfl H5
   have bad:(d.x.op=1/\d.x.st.k≠0\/d.x.op=3/\kV d.x.st=false)->enthymemeref07_leaf.eY b4 0 0 0 w5 λr w'=>r=ku (dM (xs l) d.x)/\bF w w':=λhb=>H5.aN λw6 H6=>⟨by rw [l1,if_pos hb];rfl,H6.fr⟩
   have S3:¬(d.x.op=1/\d.x.st.k≠0\/d.x.op=3/\kV d.x.st=false)->enthymemeref07_leaf.hU s b3 d.x.op d.ks d.x.n d.x.m d.x.u d.x.tx d.x.st.k d.x.st.n d.x.st.x b4 0 0 0 w5 λr w'=>r=ku (dM (xs l) d.x)/\bF w w':=λhb=>by
    rw [if_neg hb] at l1
    refine aJ (λh1=>?_) (λh1=>S4 w5 (by rw [l1,if_neg (λh=>h1 h.1)]) H5)
    have hk:d.x.st.k=0:=by
     rcases Int.decEq d.x.st.k 0 with h|h
     .exact absurd (.inl ⟨h1,h⟩) hb
     .exact h
    obtain ⟨v1,v2,_⟩:=qU ht hk
    have ew:IntKind.wrap .u64 d.x.st.n=d.x.st.n:=IntWalk.u64_in _ (by omega)
    refine aK (λFg=>⟨by rw [ew];omega,?_⟩) (λFg=>S4 w5 (by rw [l1,if_neg];rintro ⟨_,hb⟩;unfold Od at hb;rw [decide_eq_false (by omega)] at hb;cases hb) H5)
    rw [ew,MT _ (by omega) Fg]
    have hp:((2^d.x.st.n.toNat:Nat):Int)=(2:Int)^d.x.st.n.toNat:=by rw [Int.natCast_pow];rfl
    rw [hp]
    refine aK (λAo=>H5.aN λw6 H6=>⟨?_,H6.fr⟩) (λAo=>S4 w5 ?_ H5)
    .rw [l1,if_pos ⟨h1,by unfold Od;rw [decide_eq_true Fg,decide_eq_true Ao];rfl⟩];rfl
    .rw [l1,if_neg]
     rintro ⟨_,hb⟩
     unfold Od at hb
     rw [decide_eq_false (by omega:¬(2:Int)^d.x.st.n.toNat<=d.x.u),Bool.and_false] at hb
     cases hb
   have R3:¬(d.x.op=1/\d.x.st.k≠0)->aH (d.x.op==3) (aH (!kV d.x.st) (enthymemeref07_leaf.eY b4 0 0 0 w5 λr w'=>r=ku (dM (xs l) d.x)/\bF w w') (enthymemeref07_leaf.hU s b3 d.x.op d.ks d.x.n d.x.m d.x.u d.x.tx d.x.st.k d.x.st.n d.x.st.x b4 0 0 0 w5 λr w'=>r=ku (dM (xs l) d.x)/\bF w w')) (enthymemeref07_leaf.hU s b3 d.x.op d.ks d.x.n d.x.m d.x.u d.x.tx d.x.st.k d.x.st.n d.x.st.x b4 0 0 0 w5 λr w'=>r=ku (dM (xs l) d.x)/\bF w w'):=λhk=>
    aJ (λh3=>eO (λhf=>bad (.inr ⟨h3,hf⟩)) (λht=>S3 (by rintro (h|h);exact hk h;rw [ht] at h;cases h.2))) (λh3=>S3 (by rintro (h|h);exact hk h;exact h3 h.1))
   exact aJ (λh1=>eB (λhk=>bad (.inl ⟨h1,hk⟩)) (λhk=>R3 (λh=>h.2 hk))) (λh1=>R3 (λh=>h1 h.1))
  refine aJ (λsG=>S1 true w4 ?_ H4) (λsG=>S1 _ w4 ?_ H4)
  .unfold kV;rw [sG];rfl
  .unfold kV;rw [beq_eq_false_iff_ne.2 sG];rfl
 refine eB (λO2=>S0 true w2 ?_ H2) (λO2=>H2.aL (Og d.x.tx w2) ?_)
 .rw [decide_eq_false O2];rfl
 .rintro _ w3 rfl H3
  exact ⟨_,rfl,S0 _ w3 (by rw [decide_eq_true O2];rfl) H3⟩
theorem vQ {s:ir} (h:(s.k=0/\1<=s.n/\s.n<=64/\s.x=0)\/(s.k=1/\0<=s.n/\s.n<=64/\s.x=0)\/(s.k=2/\1<=s.n/\s.n<=64/\1<=s.x/\s.x<=16)\/(s.k=3/\0<=s.n/\s.n<=64/\1<=s.x/\s.x<=16)):bN s=true:=by
 unfold bN
 rcases h with ⟨h1,h2,h3,h4⟩|⟨h1,h2,h3,h4⟩|⟨h1,h2,h3,h4,h5⟩|⟨h1,h2,h3,h4,h5⟩<;>simp [h1,h2,h3,h4]<;>simp [h5]
theorem wZ {s:ir}:bN s=true↔(s.k=0/\1<=s.n/\s.n<=64/\s.x=0)\/(s.k=1/\0<=s.n/\s.n<=64/\s.x=0)\/(s.k=2/\1<=s.n/\s.n<=64/\1<=s.x/\s.x<=16)\/(s.k=3/\0<=s.n/\s.n<=64/\1<=s.x/\s.x<=16):=by
 refine ⟨λh=>?_,vQ⟩
 unfold bN at h
 simp only [Bool.or_eq_true,Bool.and_eq_true,beq_iff_eq,decide_eq_true_eq] at h
 omega
structure AF (g:List Nx) (n:Nx):Prop where
 kl:eH n.op=(n.kids.length:Int)
 ki:∀k∈n.kids,0<=k/\k<(g.length:Int)
 ok:okF n=true
theorem GW {g:List Nx} {n:Nx} (h:(eU g n).2=0):AF g n:=by
 unfold eU at h
 split at h
 .cases h
 .rename_i hc
  simp only [Bool.and_eq_false_iff,not_or,Bool.not_eq_false,beq_iff_eq] at hc
  refine ⟨hc.1.1,λk hk=>?_,hc.2⟩
  have:=qaT.1 hc.1.2 k hk
  unfold jt at this
  simpa using this
theorem TP {g:List Nx} {n:Nx} (hv:∀d∈g,bN d.st=true) (hk:∀k∈n.kids,0<=k/\k<(g.length:Int)) {i:Nat} (hi:i<n.kids.length):bN (kC g n i)=true:=by
 have h1:=hk _ (qgEM hi)
 unfold kC
 rw [g7 hi]
 dsimp only
 have h2:(n.kids[i]).toNat<g.length:=by omega
 rw [g7 h2]
 exact hv _ (qgEM h2)
theorem FQ {x:ir} (h:bN x=true) (ha:kV x=true):bN (nh x)=true:=by
 rw [wZ] at h
 unfold kV at ha
 simp only [Bool.or_eq_true,beq_iff_eq] at ha
 unfold nh
 refine vQ ?_
 split
 .show (0=0/\1<=x.n/\x.n<=64/\0=0)\/_
  left;omega
 .right;left
  show (1:Int)=1/\0<=x.n/\x.n<=64/\(0:Int)=0
  omega
theorem ng {n:Int} (h1:1<=n) (h2:n<=64):bN (jH n)=true:=vQ (.inl ⟨rfl,h1,h2,rfl⟩)
theorem qR {n:Int} (h1:0<=n) (h2:n<=64):bN (mW n)=true:=vQ (.inr (.inl ⟨rfl,h1,h2,rfl⟩))
theorem Ka {g:List Nx} {n:Nx} (hv:∀d∈g,bN d.st=true) (h:(eU g n).2=0):bN (eU g n).1=true:=by
 have ho:=GW h
 have hk:∀i:Nat,(i:Int)<eH n.op->bN (kC g n i)=true:=λi hi=>TP hv ho.ki (by have:=ho.kl;omega)
 unfold eU at h ⊢
 split at h
 .cases h
 rename_i hc
 rw [if_neg hc]
 split at h
 .rename_i h3
  rw [if_pos h3]
  unfold dM at h ⊢
  split at h
  .rename_i h2
   rw [if_pos h2]
   split at h
   .cases h
   .rename_i Fg
    rw [if_neg Fg]
    exact qR (by omega) (by omega)
  .rename_i h2
   rw [if_neg h2]
   split at h
   .cases h
   rename_i h0
   rw [if_neg h0]
   split at h
   .cases h
   rename_i h1
   rw [if_neg h1]
   split at h
   .cases h
   rename_i h4
   rw [if_neg h4]
   split at h
   .cases h
   rename_i h5
   rw [if_neg h5]
   split at h
   .cases h
   rename_i h6
   rw [if_neg h6]
   simpa using h1
 rename_i h3
 rw [if_neg h3]
 split at h
 .cases h
 rename_i hf
 rw [if_neg hf]
 split at h
 .cases h
 rename_i hr
 rw [if_neg hr]
 split at h
 .cases h
 rename_i hc2
 rw [if_neg hc2]
 simp only [Bool.not_eq_false] at hf hr
 have HQ:n.op<=34:=by
  rcases Int.lt_or_le 34 n.op with h|h
  .have:=ho.kl
   unfold eH at this
   rw [if_pos (.inr h)] at this
   omega
  .exact h
 generalize hx:kC g n 0=x at *
 generalize hy:kC g n 1=y at *
 generalize hz:kC g n 2=z at *
 have vx:bN x=true:=by rw [<-hx];exact hk 0 (by unfold eH;repeat' split<;>omega)
 have Rn:2<=eH n.op->bN y=true:=λh=>by rw [<-hy];exact hk 1 (by omega)
 have Mm:eH n.op=3->bN z=true:=λh=>by rw [<-hz];exact hk 2 (by omega)
 obtain ⟨op,kids,nn,m,u,tx,st⟩:=n
 simp only at *
 clear hx hy hz hk ho hc hc2
 rcases wK (by omega) HQ with rfl|rfl|rfl|rfl|rfl|rfl|rfl|rfl|rfl|rfl|rfl|rfl|rfl|rfl|rfl|rfl|rfl|rfl|rfl|rfl|rfl|rfl|rfl|rfl|rfl|rfl|rfl|rfl|rfl|rfl|rfl|rfl|rfl|rfl|rfl
 iterate 4 omega
 all_goals first |(have Rn:=Rn (by decide))|skip
 all_goals first |(have Mm:=Mm (by decide))|skip
 iterate 12 exact vx
 iterate 3 exact ng (by omega) (by omega)
 .show bN (if y.k=1 then mW (if y.n<z.n then z.n else y.n) else y)=true
  split
  .rename_i hk
   have hf:(decide (x=jH 1)&&(decide (y=z)||(y.k==1&&z.k==1)))=true:=hf
   have h1:=mF Rn
   have h2:=mF Mm
   exact qR (by split<;>omega) (by split<;>omega)
  .exact Rn
 .have hf:(x.k==0&&y.k==0)=true:=hf
  have hr:decide (x.n+y.n<=64)=true:=hr
  simp only [Bool.and_eq_true,beq_iff_eq] at hf
  have h1:=qU vx hf.1
  have h2:=qU Rn hf.2
  exact ng (by omega) (of_decide_eq_true hr)
 .have hf:(x.k==0)=true:=hf
  have hr:(decide (0<=m)&&decide (m<=nn)&&decide (nn<x.n))=true:=hr
  simp only [Bool.and_eq_true,decide_eq_true_eq] at hr
  have h1:=qU vx (eq_of_beq hf)
  show bN (jH (nn - m+1))=true
  exact ng (by omega) (by omega)
 iterate 2
  .have hf:(x.k==0)=true:=hf
   have hr:(decide (1<=nn)&&decide (nn<=64 - x.n))=true:=hr
   simp only [Bool.and_eq_true,decide_eq_true_eq] at hr
   have h1:=qU vx (eq_of_beq hf)
   show bN (jH (x.n+nn))=true
   exact ng (by omega) (by omega)
 .have hf:(kV x&&decide (y=jH x.x))=true:=hf
  simp only [Bool.and_eq_true] at hf
  exact FQ vx hf.1
 .exact vx
 .have hf:(kV x&&decide (x=y))=true:=hf
  simp only [Bool.and_eq_true] at hf
  have h1:=hf.1
  unfold kV at h1
  simp only [Bool.or_eq_true,beq_iff_eq] at h1
  rw [wZ] at vx
  exact ng (by omega) (by omega)
 .exact ng (by omega) (by omega)
 .exact ng (by omega) (by omega)
 .have hr:decide (x.n+y.n<=64)=true:=hr
  have h1:=mF vx
  have h2:=mF Rn
  exact qR (by omega) (of_decide_eq_true hr)
 .exact vx
 .exact ng (by omega) (by omega)
 .have hr:decide (x.n+z.n<=64)=true:=hr
  have h1:=mF vx
  have h2:=mF Mm
  exact qR (by omega) (of_decide_eq_true hr)
 .exact ng (by omega) (by omega)
 .exact qR (by omega) (by omega)
theorem Vg.val {g:List Nx} (h:Vg g):∀d∈g,bN d.st=true:=by
 induction h with
 |nil=>simp
 |snoc hg hs hn ih=>
  intro d hd
  rcases fW.1 hd with hd|hd
  .exact ih d hd
  .simp only [cU,qnM,or_false] at hd
   subst hd
   have:=Ka ih (by rw [hs])
   rwa [hs] at this
theorem var_eq {g g':List Nx} {a b:Nx} (ha:AF g a) (hb:AF g' b) (h0:a.op=0) (wz:b.op=0) (ht:a.tx=b.tx) (hs:a.st=b.st):a=b:=by
 have k0:∀{g:List Nx} {a:Nx},AF g a->a.op=0->a.kids=[]/\a.n=0/\a.m=0/\a.u=0:=by
  intro g a ha h0
  have h1:=ha.kl
  have h2:=ha.ok
  rw [h0] at h1
  unfold okF at h2
  rw [h0] at h2
  refine ⟨List.eq_nil_of_length_eq_zero (by have:eH 0=0:=rfl;omega),?_⟩
  have:DL 0=false:=rfl
  rw [this] at h2
  simp at h2
  exact ⟨h2.1.1.1,h2.1.1.2,h2.1.2⟩
 obtain ⟨a1,a2,a3,a4⟩:=k0 ha h0
 obtain ⟨b1,b2,b3,b4⟩:=k0 hb wz
 cases a;cases b
 simp only at *
 subst h0 wz ht hs a1 a2 a3 a4 b1 b2 b3 b4
 rfl
theorem Vg.ok {g:List Nx} (h:Vg g):∀i d,g[i]? =some d->eU (g.take i) d=(d.st,0):=by
 induction h with
 |nil=>intro i d hd;simp at hd
 |@snoc g n hg hs hn ih=>
  intro i d hd
  rcases Nat.lt_or_ge i g.length with hi|hi
  .rw [List.getElem?_append_left hi] at hd
   rw [List.take_append_of_le_length (by omega)]
   exact ih i d hd
  .rw [List.getElem?_append_right hi] at hd
   have:i - g.length=0:=by
    have:=(nP.1 hd).1
    simp at this
    omega
   rw [this] at hd
   simp at hd
   subst hd
   rw [show i=g.length by omega,List.take_left]
   exact hs
theorem Vg.sok {g:List Nx} (h:Vg g):∀i d,g[i]? =some d->AF (g.take i) d:=λi d hd=>GW (by rw [h.ok i d hd])
theorem Vg.kids {g:List Nx} (h:Vg g) {i:Nat} {d:Nx} (hd:g[i]? =some d):∀k∈d.kids,0<=k/\k<(i:Int):=λk hk=>by
 have h1:=(h.sok i d hd).ki k hk
 have h2:=(nP.1 hd).1
 rw [List.length_take] at h1
 omega
theorem Vg.vars {g:List Nx} (h:Vg g):tQ g:=by
 induction h with
 |nil=>intro d hd;cases hd
 |@snoc g n hg hs hn ih=>
  have one:∀d∈g,d.op=0->n.op=0->d.tx=n.tx->d.st=n.st:=by
   intro d hd h0 wz ht
   have hso:AF g n:=GW (by rw [hs])
   unfold eU at hs
   split at hs
   .simp at hs
   rw [if_pos (by omega:n.op<=3)] at hs
   unfold dM at hs
   rw [if_neg (by omega)] at hs
   split at hs
   .simp at hs
   split at hs
   .simp at hs
   split at hs
   .simp at hs
   split at hs
   .simp at hs
   split at hs
   .simp at hs
   rename_i h1
   simp only [wz,true_and,Bool.not_eq_true] at h1
   rw [Bz ih,List.any_eq_false] at h1
   rcases decEq d.st n.st with h|h
   .exact absurd (decide_eq_true ⟨h0,ht,h⟩) (h1 d hd)
   .exact h
  intro d hd h0 e he wz ht
  have hd:=fW.1 hd
  have he:=fW.1 he
  simp only [cU,qnM,or_false] at hd he
  rcases hd with hd|hd
  .rcases he with he|he
   .exact ih d hd h0 e he wz ht
   .rw [he] at ht wz ⊢
    exact one d hd h0 wz ht
  .rw [hd] at ht h0 ⊢
   rcases he with he|he
   .exact (one e he wz h0 ht.symm).symm
   .rw [he]
theorem vn {n:Nx}:∀{g:List Nx} {i:Nat},mU n g i=none->n∉g
 |[],i,_=>by simp
 |d::g,i,h=>by
  unfold mU at h
  split at h
  .cases h
  .rename_i hd
   simp only [cU,not_or]
   exact ⟨λe=>hd e.symm,vn h⟩
theorem sI {n:Nx}:∀{g:List Nx} {i k:Nat},mU n g i=some k->i<=k/\g[k - i]? =some n
 |d::g,i,k,h=>by
  unfold mU at h
  split at h
  .rename_i hd
   cases h
   simp [hd]
  .have:=sI h
   refine ⟨by omega,?_⟩
   rw [show k - i=(k - (i+1))+1 by omega]
   simpa using this.2
set_option maxHeartbeats 1000000
abbrev J' (k:Sl) (ks:List ir):En:=.iQ 3 k (ks.flatMap o9)
theorem lhS {w:World} {k:Sl} {ks:List ir} (h:jJ 3 w k (ks.flatMap o9)):LH F0 w w [] [J' k ks]:=mf _ (by
 intro e he
 simp only [cU,qnM,or_false] at he
 subst he
 exact h)
theorem Vj {w:World} {k:Sl} {ks:List ir} {x y z:ir} (op:Int) (h:jJ 3 w k (ks.flatMap o9)) (hx:ks[0]? =some x) (hy:2<=eH op->ks[1]? =some y) (hz:eH op=3->ks[2]? =some z) (h4:4<=op) (HQ:op<=34):
  Calls Tryz.prog lh #[.i op,k.v] w λr w'=>r=.returned (.bool (iL op x y z))/\bF w w':=by
 refine enthymemeref07_fit.cT _ _ w _ (eX h (rfl:(0:Int)=((0:Nat):Int)) hx λp0 ZA c0=>⟨x.k,x.n,x.x,c0.c0,c0.c1,c0.c2,(lhS h).bI λb5 w1 H1=>?_⟩)
 have main:∀(a:Bool) (w2:World),a=kV x->LH F0 w w2 [.g b5] [J' k ks]->enthymemeref07_fit.dU op k b5 x.k x.n x.x (x.k==0) (x.k==1) a w2 λr w'=>r=.returned (.bool (iL op x y z))/\bF w w':=by
  rintro a w2 ha H2
  have R2:∀{w3:World} {L:List En},LH F0 w w3 L [J' k ks]->jJ 3 w3 k (ks.flatMap o9):=λH=>H.getD 0
  have e1:(1:Int)=((1:Nat):Int):=rfl
  have e2:(2:Int)=((2:Nat):Int):=rfl
  rcases wK (by omega) HQ with rfl|rfl|rfl|rfl|rfl|rfl|rfl|rfl|rfl|rfl|rfl|rfl|rfl|rfl|rfl|rfl|rfl|rfl|rfl|rfl|rfl|rfl|rfl|rfl|rfl|rfl|rfl|rfl|rfl|rfl|rfl|rfl|rfl|rfl|rfl
  iterate 4 omega
  all_goals repeat (first |refine aM rfl ?_|refine aS rfl ?_)
  all_goals first |(have hy:=hy (by decide))|skip
  all_goals first |(have hz:=hz (by decide))|skip
  iterate 2 exact ⟨rfl,H2.fr⟩
  iterate 12
   .refine aJ (λhk=>?_) (λhk=>H2.aN λw3 H3=>⟨?_,H3.fr⟩)
    .refine eX (R2 H2) e1 hy λp hp _=>H2.aN λw3 H3=>?_
     have c:=cX (R2 H3) e1 hy hp
     refine ⟨_,_,_,c.c0,c.c1,c.c2,?_,H3.fr⟩
     rw [nH]
     show _=Ending.returned (.bool (x.k==0&&decide (x=y)))
     rw [hk];rfl
    .show _=Ending.returned (.bool (x.k==0&&decide (x=y)))
     rw [beq_eq_false_iff_ne.2 hk];rfl
  .refine eX (R2 H2) e1 hy λp hp _=>H2.aN λw3 H3=>?_
   have c:=cX (R2 H3) e1 hy hp
   have fe:iL 18 x y z=(decide (x=y)||(x.k==1&&y.k==1)):=rfl
   rw [fe]
   refine ⟨_,_,_,c.c0,c.c1,c.c2,nG (λhe=>⟨by rw [decide_eq_true he];rfl,H3.fr⟩) (λhe=>?_)⟩
   rw [decide_eq_false he,Bool.false_or]
   refine aJ (λhk=>eX (R2 H3) e1 hy λp' _ c'=>⟨_,c'.c0,?_,H3.fr⟩) (λhk=>⟨?_,H3.fr⟩)
   .rw [hk];rfl
   .rw [beq_eq_false_iff_ne.2 hk];rfl
  .refine H2.aN λw3 H3=>H3.aL (nR 1 w3) ?_
   rintro _ w4 rfl H4
   have fe:iL 19 x y z=(decide (x=jH 1)&&(decide (y=z)||(y.k==1&&z.k==1))):=rfl
   rw [fe]
   refine ⟨_,_,_,rfl,nG (b:=jH 1) (λhe=>?_) (λhe=>⟨by rw [decide_eq_false he];rfl,H4.fr⟩)⟩
   rw [decide_eq_true he,Bool.true_and]
   refine eX (R2 H4) e1 hy λp _ c=>⟨_,_,_,c.c0,c.c1,c.c2,eX (R2 H4) e2 hz λq _ d=>⟨_,_,_,d.c0,d.c1,d.c2,nG (λh2=>⟨by rw [decide_eq_true h2];rfl,H4.fr⟩) (λh2=>?_)⟩⟩
   rw [decide_eq_false h2,Bool.false_or]
   refine eX (R2 H4) e1 hy λp' _ c'=>⟨_,c'.c0,aJ (λhk=>eX (R2 H4) e2 hz λq' _ d'=>⟨_,d'.c0,?_,H4.fr⟩) (λhk=>⟨?_,H4.fr⟩)⟩
   .rw [hk];rfl
   .rw [beq_eq_false_iff_ne.2 hk];rfl
  .have fe:iL 20 x y z=(x.k==0&&y.k==0):=rfl
   rw [fe]
   refine aJ (λhk=>eX (R2 H2) e1 hy λp _ c=>⟨_,c.c0,?_,H2.fr⟩) (λhk=>⟨?_,H2.fr⟩)
   .rw [hk];rfl
   .rw [beq_eq_false_iff_ne.2 hk];rfl
  iterate 3 exact ⟨rfl,H2.fr⟩
  .have fe:iL 24 x y z=(kV x&&decide (y=jH x.x)):=rfl
   rw [fe,<-ha]
   refine bB (λht=>?_) (λhf=>H2.aN λw3 H3=>⟨by rw [hf];rfl,H3.fr⟩)
   refine eX (R2 H2) e1 hy λp hp _=>H2.aN λw3 H3=>?_
   have c:=cX (R2 H3) e1 hy hp
   refine ⟨_,_,_,c.c0,c.c1,c.c2,H3.aL (nR x.x w3) ?_⟩
   rintro _ w4 rfl H4
   have d:=cX (R2 H4) e1 hy hp
   refine ⟨_,_,_,rfl,d.c0,d.c1,d.c2,?_,H4.fr⟩
   rw [ht,Bool.true_and]
   exact congrArg (λb=>Ending.returned (.bool b)) (nH y (jH x.x))
  .have fe:iL 25 x y z=(kV x&&decide (y=jH x.x)&&(decide (z=nh x)||(x.k==3&&z.k==1&&decide (z.n<=x.n)))):=rfl
   rw [fe,<-ha]
   refine eO (λhf=>H2.aN λw3 H3=>⟨by rw [hf];rfl,H3.fr⟩) (λht=>?_)
   rw [ht,Bool.true_and]
   refine eX (R2 H2) e1 hy λp hp _=>H2.aN λw3 H3=>?_
   have c:=cX (R2 H3) e1 hy hp
   refine ⟨_,_,_,c.c0,c.c1,c.c2,H3.aL (nR x.x w3) ?_⟩
   rintro _ w4 rfl H4
   have d:=cX (R2 H4) e1 hy hp
   refine ⟨_,_,_,rfl,d.c0,d.c1,d.c2,sU (a:=y) (b:=jH x.x) (λiq=>⟨by rw [decide_eq_false iq];rfl,H4.fr⟩) (λheq=>?_)⟩
   rw [decide_eq_true heq,Bool.true_and]
   refine eX (R2 H4) e2 hz λq hq _=>H4.aN λw5 H5=>?_
   have c5:=cX (R2 H5) e2 hz hq
   refine ⟨_,_,_,c5.c0,c5.c1,c5.c2,H5.aL (wP x w5) ?_⟩
   rintro _ w6 rfl H6
   have d6:=cX (R2 H6) e2 hz hq
   refine ⟨_,_,_,rfl,d6.c0,d6.c1,d6.c2,nG (a:=z) (b:=nh x) (λhe=>⟨by rw [decide_eq_true he];rfl,H6.fr⟩) (λiq=>?_)⟩
   rw [decide_eq_false iq,Bool.false_or]
   refine aJ (λhk=>eX (R2 H6) e2 hz λq' _ d'=>⟨_,d'.c0,aJ (λNU=>eX (R2 H6) e2 hz λq2 _ d2=>⟨_,d2.c1,?_,H6.fr⟩) (λNU=>⟨?_,H6.fr⟩)⟩) (λhk=>⟨?_,H6.fr⟩)
   .rw [hk,NU];rfl
   .rw [beq_eq_false_iff_ne.2 NU,Bool.and_false];rfl
   .rw [beq_eq_false_iff_ne.2 hk];rfl
  .have fe:iL 26 x y z=(kV x&&decide (x=y)):=rfl
   rw [fe,<-ha]
   refine bB (λht=>?_) (λhf=>H2.aN λw3 H3=>⟨by rw [hf];rfl,H3.fr⟩)
   refine eX (R2 H2) e1 hy λp hp _=>H2.aN λw3 H3=>?_
   have c:=cX (R2 H3) e1 hy hp
   refine ⟨_,_,_,c.c0,c.c1,c.c2,?_,H3.fr⟩
   rw [nH,ht];rfl
  iterate 2 exact ⟨rfl,H2.fr⟩
  .have fe:iL 29 x y z=(x.k==1&&y.k==1):=rfl
   rw [fe]
   refine aJ (λhk=>eX (R2 H2) e1 hy λp _ c=>⟨_,c.c0,?_,H2.fr⟩) (λhk=>⟨?_,H2.fr⟩)
   .rw [hk];rfl
   .rw [beq_eq_false_iff_ne.2 hk];rfl
  .have fe:iL 30 x y z=(x.k==1&&decide (y=jH 7)&&decide (z=jH 7)):=rfl
   rw [fe]
   refine aJ (λhk=>?_) (λhk=>H2.aN λw3 H3=>⟨by rw [beq_eq_false_iff_ne.2 hk];rfl,H3.fr⟩)
   rw [hk]
   refine eX (R2 H2) e1 hy λp hp _=>H2.aN λw3 H3=>?_
   have c:=cX (R2 H3) e1 hy hp
   refine ⟨_,_,_,c.c0,c.c1,c.c2,H3.aL (nR 7 w3) ?_⟩
   rintro _ w4 rfl H4
   have d:=cX (R2 H4) e1 hy hp
   refine ⟨_,_,_,rfl,d.c0,d.c1,d.c2,nG (a:=y) (b:=jH 7) (λhe=>?_) (λiq=>⟨by rw [decide_eq_false iq];rfl,H4.fr⟩)⟩
   rw [decide_eq_true he]
   refine eX (R2 H4) e2 hz λq hq c4=>⟨_,_,_,c4.c0,c4.c1,c4.c2,H4.aL (nR 7 w4) ?_⟩
   rintro _ w5 rfl H5
   have d5:=cX (R2 H5) e2 hz hq
   exact ⟨_,_,_,rfl,d5.c0,d5.c1,d5.c2,congrArg (λb=>Ending.returned (.bool b)) (nH z (jH 7)),H5.fr⟩
  .have fe:iL 31 x y z=(x.k==1&&y.k==1):=rfl
   rw [fe]
   refine aJ (λhk=>eX (R2 H2) e1 hy λp _ c=>⟨_,c.c0,?_,H2.fr⟩) (λhk=>⟨?_,H2.fr⟩)
   .rw [hk];rfl
   .rw [beq_eq_false_iff_ne.2 hk];rfl
  .have fe:iL 32 x y z=(x.k==1&&y.k==1&&z.k==1):=rfl
   rw [fe]
   refine aJ (λhk=>eX (R2 H2) e1 hy λp _ c=>⟨_,c.c0,aJ (λTL=>eX (R2 H2) e2 hz λq _ d=>⟨_,d.c0,?_,H2.fr⟩) (λTL=>⟨?_,H2.fr⟩)⟩) (λhk=>⟨?_,H2.fr⟩)
   .rw [hk,TL];rfl
   .rw [beq_eq_false_iff_ne.2 TL,Bool.and_false];rfl
   .rw [beq_eq_false_iff_ne.2 hk];rfl
  .exact ⟨rfl,H2.fr⟩
  .refine H2.aN λw3 H3=>H3.aL (nR 8 w3) ?_
   rintro _ w4 rfl H4
   exact ⟨_,_,_,rfl,congrArg (λb=>Ending.returned (.bool b)) (nH x (jH 8)),H4.fr⟩
 refine aJ (λhk=>H1.aN λw2 H2=>main true w2 ?_ H2) (λhk=>H1.aN λw2 H2=>main _ w2 ?_ H2)
 .unfold kV;rw [hk];rfl
 .unfold kV;rw [beq_eq_false_iff_ne.2 hk];rfl
def Su (n:Nx) (x y z:ir):Ending->Prop:=λr=>∃(t:ir) (b:Bool),r=.returned (.tuple #[kh t,.bool b])/\b=uq n x y z/\(b=true->t=qP n x y z)
theorem Li {w:World} {k:Sl} {ks:List ir} {x y z:ir} (d:Nd) (h:jJ 3 w k (ks.flatMap o9)) (hx:ks[0]? =some x) (hy:2<=eH d.x.op->ks[1]? =some y) (hz:eH d.x.op=3->ks[2]? =some z) (h4:4<=d.x.op) (HQ:d.x.op<=34)
  (vx:bN x=true) (vy:2<=eH d.x.op->bN y=true) (vz:eH d.x.op=3->bN z=true) (hn:nO d.x.n) (hm:nO d.x.m):
  Calls Tryz.prog jA #[d.v,k.v] w λr w'=>Su d.x x y z r/\bF w w':=by
 obtain ⟨x1,x2,x3,x4,_⟩:=mF vx
 obtain ⟨A9,UP⟩:=hn
 obtain ⟨TF,V3⟩:=hm
 refine enthymemeref07_result.cT _ _ _ _ _ _ _ _ _ _ w _ ((lhS h).bI λb2 w1 H1=>H1.bI λb4 w2 H2=>eX (H2.getD 0) (rfl:(0:Int)=((0:Nat):Int)) hx λp0 ZA c0=>⟨x.k,x.n,x.x,c0.c0,c0.c1,c0.c2,H2.bI λb6 w3 H3=>?_⟩)
 have R2:∀{w3:World} {L:List En},LH F0 w w3 L [J' k ks]->jJ 3 w3 k (ks.flatMap o9):=λH=>H.getD 0
 have e1:(1:Int)=((1:Nat):Int):=rfl
 have e2:(2:Int)=((2:Nat):Int):=rfl
 obtain ⟨⟨op,kids,n,m,u,tx,st⟩,O9⟩:=d
 simp only at hy hz h4 HQ vy vz A9 UP TF V3
 have S1:∀w4:World,op≠16->op≠17->op≠18->op≠33->LH F0 w w4 [.g b2,.g b4,.g b6] [J' k ks]->enthymemeref07_result.fY k b2 op O9 n m u tx st.k st.n st.x b4 0 0 0 b6 x.k x.n x.x op w4 λr w'=>Su ⟨op,kids,n,m,u,tx,st⟩ x y z r/\bF w w':=by
  intro w4 n1 n2 n3 n4 H4
  rcases wK (by omega) HQ with rfl|rfl|rfl|rfl|rfl|rfl|rfl|rfl|rfl|rfl|rfl|rfl|rfl|rfl|rfl|rfl|rfl|rfl|rfl|rfl|rfl|rfl|rfl|rfl|rfl|rfl|rfl|rfl|rfl|rfl|rfl|rfl|rfl|rfl|rfl
  iterate 4 omega
  all_goals repeat (first |refine aM rfl ?_|refine aS rfl ?_)
  all_goals first |(have hy:=hy (by decide))|skip
  all_goals first |(have hz:=hz (by decide))|skip
  all_goals first |(have vy:=mF (vy (by decide)))|skip
  all_goals first |(have vz:=mF (vz (by decide)))|skip
  iterate 12 exact H4.aN λw5 H5=>⟨⟨x,true,rfl,rfl,λ_=>rfl⟩,H5.fr⟩
  iterate 3 omega
  .refine eX (R2 H4) e1 hy λp hp c=>⟨_,c.c0,aJ (λhk=>?_) (λhk=>?_)⟩
   .refine eX (R2 H4) e1 hy λp hp _=>H4.aN λw5 H5=>?_
    have c5:=cX (R2 H5) e1 hy hp
    refine ⟨_,c5.c1,eX (R2 H5) e2 hz λq hq c6=>⟨_,c6.c1,H5.aL (lF _ w5) ?_⟩⟩
    rintro _ w6 rfl H6
    refine ⟨_,_,_,rfl,H6.aN λw7 H7=>⟨⟨_,true,rfl,rfl,λ_=>?_⟩,H7.fr⟩⟩
    show _=if y.k=1 then _ else _
    rw [if_pos hk]
   .refine eX (R2 H4) e1 hy λp hp c'=>⟨_,_,_,c'.c0,c'.c1,c'.c2,H4.aN λw5 H5=>⟨⟨y,true,rfl,rfl,λ_=>?_⟩,H5.fr⟩⟩
    show _=if y.k=1 then _ else _
    rw [if_neg hk]
  .refine eX (R2 H4) e1 hy λp hp _=>H4.aN λw5 H5=>?_
   have c5:=cX (R2 H5) e1 hy hp
   refine ⟨_,c5.c1,eX (R2 H5) e1 hy λq hq _=>?_⟩
   have c6:=cX (R2 H5) e1 hy hq
   refine ⟨_,c6.c1,H5.aL (nR _ w5) ?_⟩
   rintro _ w6 rfl H6
   refine ⟨_,_,_,rfl,(cX (R2 H6) e1 hy hq).c1,H6.aN λw7 H7=>⟨(cX (R2 H7) e1 hy hq).c1,⟨_,_,rfl,?_,λ_=>?_⟩,H7.fr⟩⟩
   .rw [IntWalk.i64_in _ (by omega)];rfl
   .show jH _=jH (x.n+y.n)
    rw [IntWalk.i64_in _ (by omega)]
  .refine H4.aN λw5 H5=>H5.aL (nR _ w5) ?_
   rintro _ w6 rfl H6
   have hr:uq ⟨21,kids,n,m,u,tx,st⟩ x y z=(decide (0<=m)&&decide (m<=n)&&decide (n<x.n)):=rfl
   refine ⟨_,_,_,rfl,aK (λg1=>aK (λg2=>H6.aN λw7 H7=>⟨⟨_,_,rfl,?_,λg3=>?_⟩,H7.fr⟩) (λg2=>H6.aN λw7 H7=>⟨⟨_,false,rfl,?_,λg3=>by cases g3⟩,H7.fr⟩)) (λg1=>H6.aN λw7 H7=>⟨⟨_,false,rfl,?_,λg3=>by cases g3⟩,H7.fr⟩)⟩
   .rw [hr,decide_eq_true (show 0<=m from g1),decide_eq_true g2];rfl
   .have g3:=of_decide_eq_true g3
    show jH _=jH (n - m+1)
    rw [IntWalk.i64_in (n - m) (by omega),IntWalk.i64_in _ (by omega)]
   .rw [hr,decide_eq_false g2,Bool.and_false];rfl
   .rw [hr,decide_eq_false (show ¬0<=m from g1)];rfl
  iterate 2
   .refine H4.aN λw5 H5=>H5.aL (nR _ w5) ?_
    rintro _ w6 rfl H6
    have Xq:IntKind.wrap .i64 (64 - x.n)=64 - x.n:=IntWalk.i64_in _ (by omega)
    rw [Xq]
    refine ⟨_,_,_,rfl,aK (λg1=>H6.aN λw7 H7=>⟨⟨_,_,rfl,?_,λg3=>?_⟩,H7.fr⟩) (λg1=>H6.aN λw7 H7=>⟨⟨_,false,rfl,?_,λg3=>by cases g3⟩,H7.fr⟩)⟩
    .show _=(decide (1<=n)&&decide (n<=64 - x.n))
     rw [decide_eq_true (show 1<=n from g1)];rfl
    .have g3:=of_decide_eq_true g3
     show jH _=jH (x.n+n)
     rw [IntWalk.i64_in _ (by omega)]
    .show _=(decide (1<=n)&&decide (n<=64 - x.n))
     rw [decide_eq_false (show ¬1<=n from g1)];rfl
  .refine H4.aL (wP x w4) ?_
   rintro _ w5 rfl H5
   exact ⟨_,_,_,rfl,H5.aN λw6 H6=>⟨⟨_,true,rfl,rfl,λ_=>rfl⟩,H6.fr⟩⟩
  .exact H4.aN λw5 H5=>⟨⟨x,true,rfl,rfl,λ_=>rfl⟩,H5.fr⟩
  .refine H4.aL (nR _ w4) ?_
   rintro _ w5 rfl H5
   exact ⟨_,_,_,rfl,H5.aN λw6 H6=>⟨⟨_,true,rfl,rfl,λ_=>rfl⟩,H6.fr⟩⟩
  .refine H4.aL (nR _ w4) ?_
   rintro _ w5 rfl H5
   exact ⟨_,_,_,rfl,H5.aN λw6 H6=>⟨⟨_,true,rfl,rfl,λ_=>rfl⟩,H6.fr⟩⟩
  .refine H4.aN λw5 H5=>H5.aL (nR _ w5) ?_
   rintro _ w6 rfl H6
   refine ⟨_,_,_,rfl,aK (λg1=>H6.aN λw7 H7=>⟨⟨_,_,rfl,?_,λg3=>rfl⟩,H7.fr⟩) (λg1=>H6.aN λw7 H7=>⟨⟨_,false,rfl,?_,λg3=>by cases g3⟩,H7.fr⟩)⟩
   .show _=(decide (0<=n)&&decide (n<=63))
    rw [decide_eq_true (show 0<=n from g1)];rfl
   .show _=(decide (0<=n)&&decide (n<=63))
    rw [decide_eq_false (show ¬0<=n from g1)];rfl
  .refine eX (R2 H4) e1 hy λp hp _=>H4.aN λw5 H5=>?_
   have c5:=cX (R2 H5) e1 hy hp
   refine ⟨_,c5.c1,eX (R2 H5) e1 hy λq hq _=>?_⟩
   have c6:=cX (R2 H5) e1 hy hq
   refine ⟨_,c6.c1,H5.aL (lF _ w5) ?_⟩
   rintro _ w6 rfl H6
   refine ⟨_,_,_,rfl,(cX (R2 H6) e1 hy hq).c1,H6.aN λw7 H7=>⟨(cX (R2 H7) e1 hy hq).c1,⟨_,_,rfl,?_,λ_=>?_⟩,H7.fr⟩⟩
   .rw [IntWalk.i64_in _ (by omega)];rfl
   .show mW _=mW (x.n+y.n)
    rw [IntWalk.i64_in _ (by omega)]
  .exact H4.aN λw5 H5=>⟨⟨x,true,rfl,rfl,λ_=>rfl⟩,H5.fr⟩
  .refine H4.aL (nR _ w4) ?_
   rintro _ w5 rfl H5
   exact ⟨_,_,_,rfl,H5.aN λw6 H6=>⟨⟨_,true,rfl,rfl,λ_=>rfl⟩,H6.fr⟩⟩
  .refine eX (R2 H4) e2 hz λp hp _=>H4.aN λw5 H5=>?_
   have c5:=cX (R2 H5) e2 hz hp
   refine ⟨_,c5.c1,eX (R2 H5) e2 hz λq hq _=>?_⟩
   have c6:=cX (R2 H5) e2 hz hq
   refine ⟨_,c6.c1,H5.aL (lF _ w5) ?_⟩
   rintro _ w6 rfl H6
   refine ⟨_,_,_,rfl,(cX (R2 H6) e2 hz hq).c1,H6.aN λw7 H7=>⟨(cX (R2 H7) e2 hz hq).c1,⟨_,_,rfl,?_,λ_=>?_⟩,H7.fr⟩⟩
   .rw [IntWalk.i64_in _ (by omega)];rfl
   .show mW _=mW (x.n+z.n)
    rw [IntWalk.i64_in _ (by omega)]
  .omega
  .refine H4.aL (lF _ w4) ?_
   rintro _ w5 rfl H5
   exact ⟨_,_,_,rfl,H5.aN λw6 H6=>⟨⟨_,true,rfl,rfl,λ_=>rfl⟩,H6.fr⟩⟩
 have S0:∀w4:World,(op=16\/op=17\/op=18\/op=33)->LH F0 w w4 [.g b2,.g b4,.g b6] [J' k ks]->enthymemeref07_result.dU b4 0 0 0 w4 λr w'=>Su ⟨op,kids,n,m,u,tx,st⟩ x y z r/\bF w w':=by
  intro w4 ho H4
  refine H4.aL (nR 1 w4) ?_
  rintro _ w5 rfl H5
  refine ⟨_,_,_,rfl,H5.aN λw6 H6=>⟨⟨_,true,rfl,?_,λ_=>?_⟩,H6.fr⟩⟩
  .rcases ho with rfl|rfl|rfl|rfl<;>rfl
  .rcases ho with rfl|rfl|rfl|rfl<;>rfl
 exact aJ (λh=>aS (beq_iff_eq.2 h) (H3.aN λw4 H4=>S0 w4 (.inl h) H4)) λh1=>aJ (λh=>aS (beq_iff_eq.2 h) (H3.aN λw4 H4=>S0 w4 (.inr (.inl h)) H4)) λh2=>aJ (λh=>aS (beq_iff_eq.2 h) (H3.aN λw4 H4=>S0 w4 (.inr (.inr (.inl h))) H4)) λh3=>aJ (λh=>H3.aN λw4 H4=>S0 w4 (.inr (.inr (.inr h))) H4) λh4'=>H3.aN λw4 H4=>S1 w4 h1 h2 h3 h4' H4
theorem Tf:iK Tryz.prog nJ aR (.agg #[.int .i64 0,.int .i64 0,.int .i64 0]) 3 24:=⟨by kernel_rfl,by kernel_rfl,rfl,by decide,by decide⟩
def KW (t:ByteArray):Prop:=t.size<=100000/\∃b,BX (bl t)=some b
theorem KW.can {t:ByteArray} (h:KW t):BX (bl t)=some (Ai t):=by
 obtain ⟨b,hb⟩:=h.2
 unfold Ai
 rw [hb]
 cases b<;>rfl
structure QD (d:Nx):Prop where
 kl:d.kids.length<=m9
 n:nO d.n
 m:nO d.m
 tx:d.op=33->KW d.tx
structure U4 (g:List Nx):Prop where
 len:g.length<=m9
 val:∀d∈g,bN d.st=true
 vars:tQ g
theorem TO {l:List Nd} {n:Nx} {i:Nat} {k:Int} {e:Nd} (hk:n.kids[i]? =some k) (he:l[k.toNat]? =some e):kC (xs l) n i=e.x.st:=by
 unfold kC
 rw [hk]
 dsimp only
 rw [uz he]
theorem GI (i:Nat) (f:Nat->ir):((List.range (i+1)).map f).flatMap o9=((List.range i).map f).flatMap o9++o9 (f i):=by
 rw [List.range_succ];simp
theorem Mu {op:Int} {m:Nat} (h:eH op=(m:Int)) (h0:m≠0):4<=op/\op<=34:=by
 unfold eH at h
 split at h
 .omega
 .split at h
  .omega
  .omega
theorem JP {op:Int} (h:eH op=0):0<=op/\op<=3:=by
 unfold eH at h
 split at h
 .omega
 .split at h
  .omega
  .split at h
   .omega
   .split at h<;>omega
theorem LW {g:List Nx} {n:Nx} (h:Al g n=0):(eH n.op==(n.kids.length:Int)&&n.kids.all (jt g)&&okF n)=true:=by
 unfold Al at h
 split at h
 .assumption
 .omega
theorem JQ {g:List Nx} {n:Nx} (hv:∀d∈g,bN d.st=true) (hk:n.kids.all (jt g)=true) {i:Nat} (hi:i<n.kids.length):bN (kC g n i)=true:=by
 have h1:=qaT.1 hk _ (qgEM hi)
 unfold jt at h1
 simp only [Bool.and_eq_true,decide_eq_true_eq] at h1
 unfold kC
 rw [g7 hi]
 dsimp only
 have h2:(n.kids[i]).toNat<g.length:=by omega
 rw [g7 h2]
 exact hv _ (qgEM h2)
theorem uM {w:World} {s:Sl} {l:List Nd} {d:Nd} (h:GP w s l) (hd:d.P w) (hg:U4 (xs l)) (ho:QD d.x):
  Calls Tryz.prog eN #[s.v,d.v] w λr w'=>r=ku (eU (xs l) d.x)/\bF w w':=by
 have hn:=qq h
 have nN:(xs l).length=l.length:=by simp [xs]
 have V0:d.ks.n=d.x.kids.length:=fB.len hd
 have hl:=hg.len
 have hk:=ho.kl
 rw [nN] at hl
 refine enthymemeref07_SortOf.cT _ _ _ _ _ _ _ _ _ _ w _ ((Wr h hd).bI λb3 w1 H1=>H1.bI λb4 w2 H2=>H2.aL (Lb (cQ.1 (H2.getD 0)) (H2.getD 1) hk) ?_)
 rintro _ w3 rfl H3
 refine ⟨_,rfl,eB (λiq=>H3.aN λw4 H4=>⟨?_,H4.fr⟩) (λh0=>?_)⟩
 .unfold eU
  unfold Al at iq ⊢
  split
  .rename_i hc
   rw [if_pos hc] at iq
   exact absurd rfl iq
  .rename_i hc
   rw [Bool.not_eq_true] at hc
   rw [hc];rfl
 have hf:=LW h0
 have hf1:eH d.x.op=(d.x.kids.length:Int):=by
  simp only [Bool.and_eq_true] at hf
  exact eq_of_beq hf.1.1
 have hf2:d.x.kids.all (jt (xs l))=true:=by
  simp only [Bool.and_eq_true] at hf
  exact hf.1.2
 have Ri:eU (xs l) d.x=if d.x.op<=3 then dM (xs l) d.x else
   if iL d.x.op (kC (xs l) d.x 0) (kC (xs l) d.x 1) (kC (xs l) d.x 2)=false then (ow,9) else
   if uq d.x (kC (xs l) d.x 0) (kC (xs l) d.x 1) (kC (xs l) d.x 2)=false then (ow,5) else
   if d.x.op=33/\Ai d.x.tx=false then (ow,2) else (qP d.x (kC (xs l) d.x 0) (kC (xs l) d.x 1) (kC (xs l) d.x 2),0):=by
  unfold eU;rw [hf];rfl
 refine aJ (λAb=>?_) (λAb=>?_)
 .have hz:=JP (op:=d.x.op) (by omega)
  refine H3.aL (SS (cQ.1 (H3.getD 0)) (H3.getD 1) hl hz.1 hz.2 hg.vars) ?_
  rintro _ w4 rfl H4
  refine ⟨_,_,_,_,rfl,H4.aN λw5 H5=>⟨?_,H5.fr⟩⟩
  rw [Ri,if_pos hz.2]
 have h4:=Mu (op:=d.x.op) hf1 (by omega)
 rw [if_neg (by omega)] at Ri
 unfold m9 at hk hl
 have loop:∀(m i:Nat) (k7:Sl) (w4:World),i+m=d.x.kids.length->LH F0 w w4 [.g b3,.g b4,.row aR 3 k7 (((List.range i).map (kC (xs l) d.x)).flatMap o9)] (rJ s l d)->
   enthymemeref07_SortOf.dY s b3 d.x.op d.ks d.x.n d.x.m d.x.u d.x.tx d.x.st.k d.x.st.n d.x.st.x b4 0 0 0 k7 (i:Int) w4 λr w'=>r=ku (eU (xs l) d.x)/\bF w w':=by
  intro m
  induction m with
  |zero=>
   intro i k7 w4 hi H4
   have hi:i=d.x.kids.length:=by omega
   subst hi
   have R4:jJ 3 w4 k7 (((List.range d.x.kids.length).map (kC (xs l) d.x)).flatMap o9):=(H4.get 2:aO _ _ _ _ _).iQ
   have sH:∀j,j<d.x.kids.length->((List.range d.x.kids.length).map (kC (xs l) d.x))[j]? =some (kC (xs l) d.x j):=λj hj=>by
    rw [List.getElem?_map,List.getElem?_range hj];rfl
   have TK:∀j,j<d.x.kids.length->bN (kC (xs l) d.x j)=true:=λj hj=>JQ hg.val hf2 hj
   refine enthymemeref07_SortOf.aY _ _ _ _ _ _ _ _ _ _ _ _ _ _ _ _ _ _ _ (aM (decide_eq_false (by omega)) (H4.aL (Vj d.x.op R4 (sH 0 (by omega)) (λh2=>sH 1 (by omega)) (λh3=>sH 2 (by omega)) h4.1 h4.2) ?_))
   rintro _ w5 rfl H5
   refine ⟨_,rfl,eO (λri=>H5.aN λw6 H6=>⟨by rw [Ri,if_pos ri];rfl,H6.fr⟩) (λri=>?_)⟩
   rw [if_neg (by rw [ri];simp)] at Ri
   have R5:jJ 3 w5 k7 (((List.range d.x.kids.length).map (kC (xs l) d.x)).flatMap o9):=(H5.get 2:aO _ _ _ _ _).iQ
   refine H5.aL (Li d R5 (sH 0 (by omega)) (λh2=>sH 1 (by omega)) (λh3=>sH 2 (by omega)) h4.1 h4.2 (TK 0 (by omega)) (λh2=>TK 1 (by omega)) (λh3=>TK 2 (by omega)) ho.n ho.m) ?_
   rintro _ w6 ⟨t,b,rfl,hb,ht⟩ H6
   refine ⟨_,_,_,_,rfl,H6.bI λpo w7 H7=>eO (λhbf=>H7.aN λw8 H8=>⟨?_,H8.fr⟩) (λyV=>?_)⟩
   .rw [Ri,if_pos (by rw [<-hb,hbf])];rfl
   rw [if_neg (by rw [<-hb,yV];simp)] at Ri
   have ht:=ht yV
   have S1:∀(c:Bool) (w8:World) (L:List En),(d.x.op=33/\Ai d.x.tx=false↔c=false)->En.g b4∈L->En.g po∈L->LH F0 w w8 L (rJ s l d)->enthymemeref07_SortOf.fY b4 0 0 0 po t.k t.n t.x c w8 λr w'=>r=ku (eU (xs l) d.x)/\bF w w':=by
    intro c w8 L hc m4 m10 H8
    have jS:∀b∈[b4,po],En.g b∈L:=by
     intro b hb
     simp only [cU,qnM,or_false] at hb
     rcases hb with rfl|rfl
     .exact m4
     .exact m10
    refine eO (λhcf=>H8.aN (λw9 H9=>⟨?_,H9.fr⟩) jS) (λhct=>H8.aN (λw9 H9=>⟨?_,H9.fr⟩) jS)
    .rw [Ri,if_pos (hc.2 hcf)];rfl
    .rw [Ri,if_neg (λh=>by rw [hct] at hc;cases hc.1 h),ht]
   refine eB (λn7=>H7.aN λw8 H8=>S1 true w8 _ ⟨λh=>absurd h.1 n7,λh=>by cases h⟩ (by simp) (by simp) H8) (λn7=>H7.aN λw8 H8=>?_)
   have JK:=ho.tx n7
   refine H8.aL (Dc d.x.tx JK.1 _ JK.can w8) ?_
   rintro _ w9 rfl H9
   exact ⟨_,rfl,S1 _ w9 _ ⟨λh=>h.2,λh=>⟨n7,h⟩⟩ (by simp) (by simp) H9⟩
  |succ m ih=>
   intro i k7 w4 hi H4
   have Fh:d.x.kids[i]? =some (d.x.kids[i]'(by omega)):=g7 (by omega)
   have vj:=qaT.1 hf2 _ (dC Fh)
   generalize d.x.kids[i]'(by omega)=kx at Fh vj
   unfold jt at vj
   simp only [Bool.and_eq_true,decide_eq_true_eq] at vj
   have Ao:l[kx.toNat]? =some (l[kx.toNat]'(by omega)):=g7 (by omega)
   generalize l[kx.toNat]'(by omega)=e at Ao
   have A9:fB w4 d.ks d.x.kids:=H4.getD 1
   have jK:=Nd.cB (show jJ 9 w4 s (l.flatMap Nd.c) from (cQ.1 (H4.getD 0)).1)
   refine enthymemeref07_SortOf.aY _ _ _ _ _ _ _ _ _ _ _ _ _ _ _ _ _ _ _ (aS (decide_eq_true (by omega)) ⟨by omega,by omega,A9.cell Fh (by omega) λp hp hc=>⟨kx,hc,jM (cQ.1 (H4.getD 0)) (i:=kx.toNat) (by omega) Ao λq hq c=>⟨_,_,_,c.s0,c.s1,c.s2,?_⟩⟩⟩)
   have hlen:k7.n=i:=by
    have:=(H4.get 2:aO _ _ _ _ _).len
    rw [EM] at this
    simp at this
    omega
   refine H4.tS 2 Tf rfl (λs' w5 H5=>?_) (by omega)
   rw [aZ _ (by omega)]
   refine ih (i+1) s' w5 (by omega) ?_
   rw [GI,TO Fh Ao]
   exact H5
 exact loop d.x.kids.length 0 ⟨none,0,0⟩ w3 (by omega) (H3.oL aR 3)
theorem gR:iK Tryz.prog aG aE (.agg #[.int .i64 0,.slice none 0 0,.int .i64 0,.int .i64 0,.int .u64 0,.string (ByteArray.mk #[]),.int .i64 0,.int .i64 0,.int .i64 0]) 9 96:=⟨by kernel_rfl,by kernel_rfl,rfl,by decide,by decide⟩
theorem nC {l:List Nd}:∀u∈l.flatMap Nd.c,u.oneCell'=true:=by
 intro u hu
 obtain ⟨d,_,hu⟩:=List.mem_flatMap.1 hu
 simp only [Nd.c,cU,qnM,or_false] at hu
 rcases hu with rfl|rfl|rfl|rfl|rfl|rfl|rfl|rfl|rfl<;>rfl
theorem td {w:World} {b n sz:Nat} {cs:List Value} {T:TypeId} (h:w.heap[b]? =some (.cells cs.toArray T (0,0))) (hn:cs.length=n *sz):jJ sz w ⟨some (bD b),n,n⟩ cs:=
 ⟨hn,Nat.le_refl _,⟨λh=>(by cases h),λi v hi=>⟨bD b,rfl,cellAt (p:=bD b) h rfl (by simpa using hi)⟩⟩⟩
theorem SM {w:World} {a b:Nd} (ha:a.P w) (hb:b.P w) (hl:a.x.kids.length<=m9):Calls Tryz.prog kF #[a.v,b.v] w λr w'=>r=.returned (.bool (decide (a.x=b.x)))/\bF w w':=by
 have H:LH F0 w w [] [fF a,fF b]:=mf _ (by
  intro e he
  simp only [cU,qnM,or_false] at he
  rcases he with rfl|rfl
  .exact ha
  .exact hb)
 obtain ⟨⟨op,ks,n,m,u,tx,st⟩,sl⟩:=a
 obtain ⟨⟨T1,US,n',m',u',Us,dJ⟩,xG⟩:=b
 have no:∀{w1:World} {L:List En},LH F0 w w1 L [fF ⟨⟨op,ks,n,m,u,tx,st⟩,sl⟩,fF ⟨⟨T1,US,n',m',u',Us,dJ⟩,xG⟩]->(⟨op,ks,n,m,u,tx,st⟩:Nx)≠⟨T1,US,n',m',u',Us,dJ⟩->(Ending.returned (.bool false)=.returned (.bool (decide ((⟨op,ks,n,m,u,tx,st⟩:Nx)=⟨T1,US,n',m',u',Us,dJ⟩)))/\bF w w1):=λH1 h=>⟨by rw [decide_eq_false h],H1.fr⟩
 refine enthymemeref07_Same.cT _ _ _ _ _ _ _ _ _ _ _ _ _ _ _ _ _ _ w _ (H.bI λb2 w1 H1=>H1.bI λb3 w2 H2=>?_)
 refine aJ (λh1=>?_) (λh1=>no H2 (λh=>h1 (congrArg Nx.op h)))
 refine aJ (λh2=>?_) (λh2=>no H2 (λh=>h2 (congrArg Nx.n h)))
 refine aJ (λh3=>?_) (λh3=>no H2 (λh=>h3 (congrArg Nx.m h)))
 refine aJ (λh4=>?_) (λh4=>no H2 (λh=>h4 (congrArg Nx.u h)))
 refine GS (λh5=>?_) (λh5=>no H2 (λh=>h5 (congrArg Nx.tx h)))
 refine nG (a:=st) (b:=dJ) (λh6=>?_) (λh6=>no H2 (λh=>h6 (congrArg Nx.st h)))
 refine H2.aL (J5 (H2.getD 0) (H2.getD 1) (by unfold m9 at hl;simp only at hl ⊢;omega)) ?_
 rintro _ w3 rfl H3
 refine ⟨_,rfl,?_,H3.fr⟩
 simp only at h1 h2 h3 h4 h5
 subst h1 h2 h3 h4 h5 h6
 simp
theorem y7 {g:List Nx} {n:Nx} {s:ir} (h:eU g n=(s,0)):eU g (jb n s)=(s,0):=by
 unfold eU at h
 unfold eU
 have e1:(eH (jb n s).op==((jb n s).kids.length:Int)&&(jb n s).kids.all (jt g)&&okF (jb n s))=(eH n.op==(n.kids.length:Int)&&n.kids.all (jt g)&&okF n):=rfl
 rw [e1]
 split at h
 .simp at h
 .rename_i hc
  rw [if_neg hc]
  have e2:(jb n s).op=n.op:=rfl
  rw [e2]
  split at h
  .rename_i h3
   rw [if_pos h3]
   unfold dM at h
   by_cases h2:n.op=2
   .rw [if_pos h2] at h
    unfold dM
    rw [e2,if_pos h2]
    exact h
   .rw [if_neg h2] at h
    have hs:s=n.st:=by
     split at h
     .simp at h
     .split at h
      .simp at h
      .split at h
       .simp at h
       .split at h
        .simp at h
        .split at h
         .simp at h
         .exact (congrArg Prod.fst h).symm
    have:jb n s=n:=by rw [hs];rfl
    rw [this]
    unfold dM
    rw [if_neg h2]
    exact h
  .rename_i h3
   rw [if_neg h3]
   exact h
def pL (g:List Nx) (n:Nx):Option Nat:=mU (if (eU g n).2=0 then jb n (eU g n).1 else n) g 0
def Pw:Option Nat->Int
 |some i=>(i:Int)
 |none=>-1
theorem Ho {w:World} {s:Sl} {l:List Nd} {d:Nd} (h:GP w s l) (hd:d.P w) (hg:U4 (xs l)) (ho:QD d.x) (Fh:∀e∈l,e.x.kids.length<=m9):
  Calls Tryz.prog ic #[s.v,d.v] w λr w'=>r=.returned (.i (Pw (pL (xs l) d.x)))/\bF w w':=by
 have hn:=qq h
 have nN:(xs l).length=l.length:=by simp [xs]
 have hl:=hg.len
 rw [nN] at hl
 unfold m9 at hl
 have loop:∀(m i:Nat) (b3:Nat) (w4:World) (e:Nd) (L:List En),e.ks=d.ks->e.x.kids=d.x.kids->i+m=l.length->mU e.x ((xs l).drop i) i=pL (xs l) d.x->En.g b3∈L->LH F0 w w4 L (rJ s l d)->
   enthymemeref07_Index.l6 s b3 e.x.op e.ks e.x.n e.x.m e.x.u e.x.tx e.x.st.k e.x.st.n e.x.st.x (i:Int) w4 λr w'=>r=.returned (.i (Pw (pL (xs l) d.x)))/\bF w w':=by
  intro m
  induction m with
  |zero=>
   intro i b3 w4 e L Zh hex hi he hb H4
   rw [qdO (by omega)] at he
   exact enthymemeref07_Index.dI _ _ _ _ _ _ _ _ _ _ _ _ _ _ (aM (decide_eq_false (by omega)) ⟨by rw [<-he];rfl,H4.fr⟩)
  |succ m ih=>
   intro i b3 w4 e L Zh hex hi he hb H4
   have Tx:l[i]? =some (l[i]'(by omega)):=g7 (by omega)
   have hx:(xs l).drop i=(l[i]'(by omega)).x::(xs l).drop (i+1):=by
    rw [qdG (by omega:i<(xs l).length)]
    simp [xs]
   rw [hx] at he
   generalize l[i]'(by omega)=a at Tx he
   have jS:∀b∈[b3],En.g b∈L:=by simpa using hb
   refine enthymemeref07_Index.dI _ _ _ _ _ _ _ _ _ _ _ _ _ _ (aS (decide_eq_true (by omega)) (jM (cQ.1 (H4.getD 0)) rfl Tx λp hp _=>H4.aN (λw5 H5=>?_) jS))
   have G5:GP w5 s l:=cQ.1 (H5.getD 0)
   have c:=pJ G5 Tx hp (rfl:((i:Int))=(i:Int))
   have pe:e.P w5:=by
    show fB w5 e.ks e.x.kids
    rw [Zh,hex]
    exact H5.getD 1
   refine ⟨_,_,_,_,_,_,_,_,_,c.c0,c.c1,c.c2,c.c3,c.c4,c.c5,c.c6,c.c7,c.c8,H5.aL (SM (a:=a) (b:=e) (G5.2 a (dC Tx)) pe (Fh a (dC Tx))) ?_⟩
   rintro _ w6 rfl H6
   have jd:(if a.x=e.x then some i else mU e.x ((xs l).drop (i+1)) (i+1))=pL (xs l) d.x:=he
   refine ⟨_,rfl,aK (λhs=>⟨?_,H6.fr⟩) (λhs=>?_)⟩
   .rw [if_pos hs] at jd
    rw [<-jd];rfl
   .rw [if_neg hs] at jd
    rw [aZ _ (by omega)]
    exact ih (i+1) b3 w6 e L Zh hex (by omega) jd hb H6
 refine enthymemeref07_Index.cT _ _ _ _ _ _ _ _ _ _ w _ ((Wr h hd).bI λb3 w1 H1=>H1.aL (uM (cQ.1 (H1.getD 0)) (H1.getD 1) hg ho) ?_)
 rintro _ w2 rfl H2
 refine ⟨_,_,_,_,rfl,H2.bI λb5 w3 H3=>aJ (λh0=>H3.aN λw4 H4=>?_) (λh0=>H3.aN λw4 H4=>?_)⟩
 .exact loop l.length 0 b3 w4 ⟨jb d.x (eU (xs l) d.x).1,d.ks⟩ _ rfl rfl (by omega) (by unfold pL;rw [if_pos h0];rfl) (by simp) H4
 .exact loop l.length 0 b3 w4 d _ rfl rfl (by omega) (by unfold pL;rw [if_neg h0];rfl) (by simp) H4
structure GR (w:World) (B:Nat->Prop) (g:List Nx) (s:Sl) (w':World):Prop where
 ex:∃l':List Nd,xs l'=g/\GP w' s l'/\∀b∈(En.gr s l').fp,B b\/w.heap.size<=b
theorem GR.nil (w:World) (B:Nat->Prop) (w':World):GR w B [] ⟨none,0,0⟩ w':=⟨⟨[],rfl,⟨jJ.nil 9 w',by simp⟩,λb hb=>by
 rcases sF.1 hb with h|⟨d,hd,_⟩
 .cases h
 .cases hd⟩⟩
theorem SU {w:World} {s:Sl} {l:List Nd} {d:Nd} (h:GP w s l) (hd:d.P w) (hg:U4 (xs l)) (ho:QD d.x) (Fh:∀e∈l,e.x.kids.length<=m9):
  Calls Tryz.prog lg #[s.v,d.v] w λr w'=>(∃s':Sl,r=.returned (.tuple #[s'.v,.i (nf (xs l) d.x).2.1,.i (nf (xs l) d.x).2.2])/\GR w (λb=>b∈(En.gr s l).fp\/b∈(fF d).fp) (nf (xs l) d.x).1 s' w')/\bF w w':=by
 have hn:=qq h
 have nN:(xs l).length=l.length:=by simp [xs]
 refine enthymemeref07_Add.cT _ _ _ _ _ _ _ _ _ _ w _ ((Wr h hd).bI λb3 w1 H1=>H1.aL (uM (cQ.1 (H1.getD 0)) (H1.getD 1) hg ho) ?_)
 rintro _ w2 rfl H2
 refine ⟨_,_,_,_,rfl,H2.bI λb7 w3 H3=>eB (λh0=>H3.aN λw4 H4=>⟨⟨⟨none,0,0⟩,?_,?_⟩,H4.fr⟩) (λh0=>H3.aN λw4 H4=>?_)⟩
 .unfold nf;rw [if_pos h0]
 .unfold nf;rw [if_pos h0];exact GR.nil _ _ _
 have hs:eU (xs l) d.x=((eU (xs l) d.x).1,0):=by rw [<-h0]
 have Kx:=y7 hs
 have Zr:pL (xs l) (jb d.x (eU (xs l) d.x).1)=mU (jb d.x (eU (xs l) d.x).1) (xs l) 0:=by
  unfold pL
  rw [Kx]
  rfl
 have ha:nf (xs l) d.x=match mU (jb d.x (eU (xs l) d.x).1) (xs l) 0 with
   |some i=>(xs l,(i:Int),0)
   |none=>if 4096<=(xs l).length then ([],0,4) else (xs l++[jb d.x (eU (xs l) d.x).1],((xs l).length:Int),0):=by
  unfold nf;rw [if_neg (by omega)]
  try rfl
 generalize aay:(eU (xs l) d.x).1=sr at *
 let e:Nd:=⟨jb d.x sr,d.ks⟩
 have hoe:QD e.x:=⟨ho.kl,ho.n,ho.m,ho.tx⟩
 refine H4.aL (Ho (d:=e) (cQ.1 (H4.getD 0)) (H4.getD 1) hg hoe Fh) ?_
 rintro _ w5 rfl H5
 rw [show pL (xs l) e.x=mU (jb d.x sr) (xs l) 0 from Zr]
 refine ⟨_,rfl,?_⟩
 cases hi:mU (jb d.x sr) (xs l) 0 with
 |some i=>
  rw [hi] at ha
  rw [ha]
  exact aS (decide_eq_true (Int.natCast_nonneg i)) ⟨⟨s,rfl,⟨l,rfl,cQ.1 (H5.getD 0),λb hb=>.inl (.inl hb)⟩⟩,H5.fr⟩
 |none=>
  rw [hi] at ha
  dsimp only at ha
  refine aM (by decide) ?_
  refine aK (λh4=>⟨⟨⟨none,0,0⟩,?_,?_⟩,H5.fr⟩) (λh4=>?_)
  .rw [ha,if_pos (by omega)]
  .rw [ha,if_pos (by omega)];exact GR.nil _ _ _
  rw [if_neg (by omega)] at ha
  rw [ha]
  have R5:∀{w6:World} {L:List En},LH F0 w w6 L (rJ s l d)->jJ 9 w6 s (l.flatMap Nd.c):=λH=>(cQ.1 (H.getD 0)).1
  have fin:∀(s':Sl) (w6:World) (L:List En) (j:Nat),LH F0 w w6 L (rJ s l d)->L[j]? =some (.row aE 9 s' (l.flatMap Nd.c++e.c))->
    (∃UZ:Sl,Ending.returned (.tuple #[s'.v,.i ((s.n:Nat):Int),.i 0])=.returned (.tuple #[UZ.v,.i ((xs l).length:Int),.i 0])/\GR w (λb=>b∈(En.gr s l).fp\/b∈(fF d).fp) (xs l++[jb d.x sr]) UZ w6)/\bF w w6:=by
   intro s' w6 L j H6 hj
   have jK:jJ 9 w6 s' ((l++[e]).flatMap Nd.c):=by
    have:aO w6 aE 9 s' (l.flatMap Nd.c++e.c):=H6.get j hj
    have:=this.iQ
    simpa using this
   refine ⟨⟨s',by rw [nN,hn],⟨l++[e],by simp [xs,e],⟨jK,λa ha=>?_⟩,λb hb=>?_⟩⟩,H6.fr⟩
   .rcases fW.1 ha with ha|ha
    .exact (cQ.1 (H6.getD 0)).2 a ha
    .simp only [cU,qnM,or_false] at ha
     subst ha
     exact H6.getD 1
   .rcases sF.1 hb with hb|⟨a,ha,hb⟩
    .right
     have A4:b∈(En.row aE 9 s' (l.flatMap Nd.c++e.c)).fp:=by
      have:b∈(if (l++[e]).flatMap Nd.c=[] then [] else bA s'):=hb
      split at this
      .cases this
      .exact this
     exact (H6.new _ (dC hj) b A4).resolve_right id
    .rcases fW.1 ha with ha|ha
     .exact .inl (.inl (sF.2 (.inr ⟨a,ha,hb⟩)))
     .simp only [cU,qnM,or_false] at ha
      subst ha
      exact .inl (.inr hb)
  have WG:∀u∈e.c,u.oneCell'=true:=λu hu=>nC (l:=[e]) u (by simpa using hu)
  have hl:=hg.len
  rw [nN] at hl
  unfold m9 at hl
  refine ⟨H5.aN λw6 H6=>H6.gZ (n:=0) (sz:=9) (cs:=[]) rfl (by decide) λw7 H7=>⟨?_,?_⟩,H5.aN λw6 H6=>H6.nw λw7 _ H7=>H7.gZ (n:=0) (sz:=9) (cs:=[]) rfl (by decide) λw8 H8=>?_⟩
  .refine H7.I7 2 gR (s:=⟨some (bD w6.heap.size),0,0⟩) (src:=s) rfl (R5 H7) nC (by simp only;omega) (λs1 w8 H8=>?_)
   have vm:=(H8.get 2:aO _ _ _ _ _).len
   rw [List.nil_append,Nd.gH] at vm
   refine H8.tS 2 gR rfl (λs2 w9 H9=>?_) (by omega)
   exact fin s2 w9 _ 2 H9 rfl
  .refine H7.nw λw8 _ H8=>?_
   refine H8.I7 2 gR (s:=⟨some (bD w6.heap.size),0,0⟩) (src:=s) rfl (R5 H8) nC (by simp only;omega) (λs1 w9 H9=>?_)
   have vm:=(H9.get 2:aO _ _ _ _ _).len
   rw [List.nil_append,Nd.gH] at vm
   refine H9.I7 2 gR (src:=⟨some (bD w7.heap.size),1,1⟩) rfl (td (cs:=e.c) (T:=aE) (H9.ob 3) rfl) WG (by simp only;omega) (λs2 pT mg=>?_)
   exact fin s2 pT _ 2 mg rfl
  .refine H8.I7 3 gR (s:=⟨some (bD w7.heap.size),0,0⟩) (src:=s) rfl (R5 H8) nC (by simp only;omega) (λs1 w9 H9=>?_)
   have vm:=(H9.get 3:aO _ _ _ _ _).len
   rw [List.nil_append,Nd.gH] at vm
   refine H9.I7 3 gR (src:=⟨some (bD w6.heap.size),1,1⟩) rfl (td (cs:=e.c) (T:=aE) (H9.ob 2) rfl) WG (by simp only;omega) (λs2 pT mg=>?_)
   exact fin s2 pT _ 3 mg rfl
end Go.Proofs.YtcifihepfadgfaaGreatDoor
