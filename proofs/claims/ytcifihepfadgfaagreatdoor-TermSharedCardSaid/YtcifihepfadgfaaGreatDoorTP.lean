import Derived.Test.YtcifihepfadgfaaGreatDoorG1
import Derived.Test.YtcifihepfadgfaaGreatDoorW
import Derived.Test.YtcifihepfadgfaaGreatDoorVB
import Derived.Test.YtcifihepfadgfaaGreatDoorT1
import Derived.Test.YtcifihepfadgfaaGreatDoorB
set_option linter.unusedVariables false
namespace Go.Proofs.YtcifihepfadgfaaGreatDoor
open List renaming mem_append->fW,mem_cons->cU,not_mem_nil->qnM,mem_of_getElem?->cZ,getElem?_eq_getElem->gW,getElem?_eq_some_iff->oN,mem_map->oT,mem_cons_of_mem->qmCM,drop_eq_getElem_cons->qdG,all_eq_true->qaT,getElem_mem->qgEM,drop_of_length_le->qdO
open Go Go.W
structure ik where
 k:Int
 n:Int
 x:Int
deriving DecidableEq
structure Nx where
 op:Int
 kids:List Int
 n:Int
 m:Int
 u:Int
 tx:ByteArray
 st:ik
deriving DecidableEq
def oy:ik:=⟨0,0,0⟩
def jJ (n:Int):ik:=⟨0,n,0⟩
def mZ (n:Int):ik:=⟨1,n,0⟩
def bO (s:ik):Bool:=(s.k==0&&decide (1<=s.n)&&decide (s.n<=64)&&s.x==0)||(s.k==1&&decide (0<=s.n)&&decide (s.n<=64)&&s.x==0)||(s.k==2&&decide (1<=s.n)&&decide (s.n<=64)&&decide (1<=s.x)&&decide (s.x<=16))||(s.k==3&&decide (0<=s.n)&&decide (s.n<=64)&&decide (1<=s.x)&&decide (s.x<=16))
def lS (s:ik):Int:=if bO s then 0 else 9
def kZ (s:ik):Bool:=s.k==2||s.k==3
def eK (op:Int):Int:=if op<0\/34<op then -1 else if op<=3 then 0 else if op=4\/op=5\/op=21\/op=22\/op=23\/op=27\/op=28\/op=33\/op=34 then 1 else if op=19\/op=25\/op=30\/op=32 then 3 else 2
def DT (op:Int):Bool:=op==21||op==22||op==23||op==28
def DU (op:Int):Bool:=op==0||op==2||op==33
def okF (n:Nx):Bool:=(DT n.op||n.n==0)&&(n.op==21||n.m==0)&&(n.op==1||n.u==0)&&(DU n.op||decide (n.tx=ba []))
def ic (g:List Nx) (k:Int):Bool:=decide (0<=k)&&decide (k<(g.length:Int))
def oC (c:UInt8):Bool:=decide (97<=c.toNat)&&decide (c.toNat<=122)
def ml (c:UInt8):Bool:=oC c||(decide (48<=c.toNat)&&decide (c.toNat<=57))||c==45
def qc (l:List UInt8):Bool:=match l with
 |[]=>false
 |c::m=>decide (m.length<=15)&&oC c&&m.all ml
def nW:List Nx->ByteArray->Option ik
 |[],_=>none
 |d::g,t=>if d.op=0/\d.tx=t then some d.st else nW g t
def rN (g:List Nx) (n:Nx):Bool:=match nW g n.tx with
 |some s=>!decide (s=n.st)
 |none=>false
def Ol (u:Int) (n:Int):Bool:=decide (n<64)&&decide (2^n.toNat<=u)
def cX (g:List Nx) (n:Nx):ik×Int:=
 if n.op=2 then (if 64<n.tx.size then (oy,5) else (mZ n.tx.size,0)) else
 if n.op=0/\qc (bl n.tx)=false then (oy,6) else
 if bO n.st=false then (oy,9) else
 if n.op=1/\n.st.k≠0\/n.op=3/\kZ n.st=false then (oy,9) else
 if n.op=1/\Ol n.u n.st.n=true then (oy,5) else
 if n.op=0/\rN g n=true then (oy,8) else (n.st,0)
def ni (s:ik):ik:=if s.k=2 then jJ s.n else mZ s.n
def iM (op:Int) (x y z:ik):Bool:=
 if op=4\/op=5\/op=21\/op=22\/op=23 then x.k==0 else
 if op=18 then decide (x=y)||(x.k==1&&y.k==1) else
 if op=19 then decide (x=jJ 1)&&(decide (y=z)||(y.k==1&&z.k==1)) else
 if op=20 then x.k==0&&y.k==0 else
 if op=24 then kZ x&&decide (y=jJ x.x) else
 if op=25 then kZ x&&decide (y=jJ x.x)&&(decide (z=ni x)||(x.k==3&&z.k==1&&decide (z.n<=x.n))) else
 if op=26 then kZ x&&decide (x=y) else
 if op=27\/op=28\/op=33 then x.k==1 else
 if op=29\/op=31 then x.k==1&&y.k==1 else
 if op=30 then x.k==1&&decide (y=jJ 7)&&decide (z=jJ 7) else
 if op=32 then x.k==1&&y.k==1&&z.k==1 else
 if op=34 then decide (x=jJ 8) else x.k==0&&decide (x=y)
def qO (n:Nx) (x y z:ik):ik:=
 if n.op=16\/n.op=17\/n.op=18\/n.op=33 then jJ 1 else
 if n.op=19 then (if y.k=1 then mZ (if y.n<z.n then z.n else y.n) else y) else
 if n.op=20 then jJ (x.n+y.n) else
 if n.op=21 then jJ (n.n - n.m+1) else
 if n.op=22\/n.op=23 then jJ (x.n+n.n) else
 if n.op=24 then ni x else
 if n.op=26 then jJ x.x else
 if n.op=27\/n.op=31 then jJ 7 else
 if n.op=28 then jJ 8 else
 if n.op=29 then mZ (x.n+y.n) else
 if n.op=32 then mZ (x.n+z.n) else
 if n.op=34 then mZ 1 else x
def uo (n:Nx) (x y z:ik):Bool:=
 if n.op=20\/n.op=29 then decide (x.n+y.n<=64) else
 if n.op=21 then decide (0<=n.m)&&decide (n.m<=n.n)&&decide (n.n<x.n) else
 if n.op=22\/n.op=23 then decide (1<=n.n)&&decide (n.n<=64 - x.n) else
 if n.op=28 then decide (0<=n.n)&&decide (n.n<=63) else
 if n.op=32 then decide (x.n+z.n<=64) else true
def kn (g:List Nx) (n:Nx) (i:Nat):ik:=match n.kids[i]? with
 |some k=>match g[k.toNat]? with
  |some d=>d.st
  |none=>oy
 |none=>oy
def Ah (t:ByteArray):Bool:=BZ (bl t)==some true
def eI (g:List Nx) (n:Nx):ik×Int:=
 if (eK n.op==(n.kids.length:Int)&&n.kids.all (ic g)&&okF n)=false then (oy,1) else
 if n.op<=3 then cX g n else
 if iM n.op (kn g n 0) (kn g n 1) (kn g n 2)=false then (oy,9) else
 if uo n (kn g n 0) (kn g n 1) (kn g n 2)=false then (oy,5) else
 if n.op=33/\Ah n.tx=false then (oy,2) else (qO n (kn g n 0) (kn g n 1) (kn g n 2),0)
def ie (n:Nx) (s:ik):Nx:={n with st:=s}
def mg (n:Nx):List Nx->Nat->Option Nat
 |[],_=>none
 |d::g,i=>if d=n then some i else mg n g (i+1)
def jM (g:List Nx) (n:Nx):List Nx×Int×Int:=
 if (eI g n).2≠0 then ([],0,(eI g n).2) else
 match mg (ie n (eI g n).1) g 0 with
 |some i=>(g,i,0)
 |none=>if 4096<=g.length then ([],0,4) else (g++[ie n (eI g n).1],g.length,0)
inductive Vg:List Nx->Prop
 |nil:Vg []
 |snoc {g:List Nx} {n:Nx}:Vg g->eI g n=(n.st,0)->n∉g->Vg (g++[n])
structure Nd where
 x:Nx
 ks:Sl
abbrev kj (s:ik):Value:=.agg #[.i s.k,.i s.n,.i s.x]
namespace Nd
def c (d:Nd):List Value:=[.i d.x.op,d.ks.v,.i d.x.n,.i d.x.m,.u d.x.u,.string d.x.tx,.i d.x.st.k,.i d.x.st.n,.i d.x.st.x]
abbrev v (d:Nd):Value:=.agg #[.i d.x.op,d.ks.v,.i d.x.n,.i d.x.m,.u d.x.u,.string d.x.tx,.i d.x.st.k,.i d.x.st.n,.i d.x.st.x]
theorem xd (d:Nd):(c d).length=9:=rfl
theorem iL (l:List Nd):(l.flatMap c).length=l.length *9:=oh c 9 xd l
abbrev P (w:World) (d:Nd):Prop:=fB w d.ks d.x.kids
structure oQ (w:World) (p:Addr) (i:Nat) (d:Nd):Prop where
 c0:w.cell? ((p.add (i *9)).add 0)=some (.i d.x.op)
 c1:w.cell? ((p.add (i *9)).add 1)=some d.ks.v
 c2:w.cell? ((p.add (i *9)).add 2)=some (.i d.x.n)
 c3:w.cell? ((p.add (i *9)).add 3)=some (.i d.x.m)
 c4:w.cell? ((p.add (i *9)).add 4)=some (.u d.x.u)
 c5:w.cell? ((p.add (i *9)).add 5)=some (.string d.x.tx)
 c6:w.cell? ((p.add (i *9)).add 6)=some (.i d.x.st.k)
 c7:w.cell? ((p.add (i *9)).add 7)=some (.i d.x.st.n)
 c8:w.cell? ((p.add (i *9)).add 8)=some (.i d.x.st.x)
theorem cC {w:World} {s:Sl} {l:List Nd} (h:jO 9 w s (l.flatMap c)):s.n=l.length:=by
 have:=h.1
 rw [iL] at this
 omega
theorem at' {w:World} {s:Sl} {l:List Nd} (h:jO 9 w s (l.flatMap c)) {i:Nat} {d:Nd} (hi:l[i]? =some d) {K:Addr->Prop} (hk:∀p,s.a=some p->oQ w p i d->K p):aX s.a K:=
 oz.elem (f:=c) (sz:=9) xd (by omega) h.2.2 hi λp hp hc=>hk p hp ⟨hc 0 _ rfl,hc 1 _ rfl,hc 2 _ rfl,hc 3 _ rfl,hc 4 _ rfl,hc 5 _ rfl,hc 6 _ rfl,hc 7 _ rfl,hc 8 _ rfl⟩
theorem again {w:World} {s:Sl} {l:List Nd} (h:jO 9 w s (l.flatMap c)) {i:Nat} {d:Nd} (hi:l[i]? =some d) {p:Addr} (hp:s.a=some p):oQ w p i d:=by
 have hk:=at' h hi (K:=λq=>∃q',s.a=some q'/\oQ w q' i d) (λq hq hc=>⟨q,hq,hc⟩)
 rw [hp] at hk
 obtain ⟨q,hq,e⟩:=hk
 cases hq
 exact e
end Nd
abbrev xs (l:List Nd):List Nx:=l.map Nd.x
def GP (w:World) (s:Sl) (l:List Nd):Prop:=jO 9 w s (l.flatMap Nd.c)/\∀d∈l,d.P w
abbrev gv (d:Nd):En:=.rd d.ks (d.x.kids.map jm)
def _root_.Go.W.En.gr (s:Sl) (l:List Nd):En:=.all (.jh 9 s (l.flatMap Nd.c)::l.map gv)
theorem cH {w:World} {s:Sl} {l:List Nd}:(En.gr s l).P w↔GP w s l:=by
 constructor
 .exact λh=>⟨h (.jh 9 s (l.flatMap Nd.c)) (by simp),λd hd=>h (gv d) (qmCM _ (oT.2 ⟨d,hd,rfl⟩))⟩
 .intro h e he
  rcases cU.1 he with rfl|he
  .exact h.1
  .obtain ⟨d,hd,rfl⟩:=oT.1 he
   exact h.2 d hd
theorem tC {s:Sl} {l:List Nd} {b:Nat}:b∈(En.gr s l).fp↔b∈(En.jh 9 s (l.flatMap Nd.c)).fp\/∃d∈l,b∈(gv d).fp:=by
 unfold En.gr En.all
 rw [aI,List.mem_flatMap]
 constructor
 .rintro ⟨e,he,hb⟩
  rcases cU.1 he with rfl|he
  .exact .inl hb
  .obtain ⟨d,hd,rfl⟩:=oT.1 he
   exact .inr ⟨d,hd,hb⟩
 .rintro (hb|⟨d,hd,hb⟩)
  .exact ⟨_,List.mem_cons_self ..,hb⟩
  .exact ⟨_,qmCM _ (oT.2 ⟨d,hd,rfl⟩),hb⟩
theorem mX {w:World} {s:Sl} {l:List Nd} (h:GP w s l):s.n=l.length:=Nd.cC h.1
theorem kO {w:World} {s:Sl} {l:List Nd} (h:GP w s l) {i:Nat} {d:Nd} {X:Int} (hX:X=(i:Int)) (hi:l[i]? =some d) {K:Addr->Prop} (hk:∀p,s.a=some p->Nd.oQ w p (Int.toNat X) d->K p):(0:Int)<=X/\X<((s.n:Nat):Int)/\aX s.a K:=by
 have hn:=mX h
 have hl:=(oN.1 hi).1
 subst hX
 exact ⟨by omega,by omega,Nd.at' h.1 hi hk⟩
theorem s5 {l:List Nd} {i:Nat} {d:Nd} (h:l[i]? =some d):(xs l)[i]? =some d.x:=by simp [xs,h]
namespace Nd
theorem oQ.s0 {w:World} {p:Addr} {i:Nat} {d:Nd} (h:oQ w p i d):w.cell? (((p.add (i *9)).add 6).add 0)=some (.i d.x.st.k):=by rw [add_add];exact h.c6
theorem oQ.s1 {w:World} {p:Addr} {i:Nat} {d:Nd} (h:oQ w p i d):w.cell? (((p.add (i *9)).add 6).add 1)=some (.i d.x.st.n):=by rw [add_add];exact h.c7
theorem oQ.s2 {w:World} {p:Addr} {i:Nat} {d:Nd} (h:oQ w p i d):w.cell? (((p.add (i *9)).add 6).add 2)=some (.i d.x.st.x):=by rw [add_add];exact h.c8
end Nd
theorem sD {w:World} {s:Sl} {l:List Nd} (h:GP w s l) {i:Nat} {d:Nd} (hi:l[i]? =some d) {p:Addr} (hp:s.a=some p) {X:Int} (hX:X=(i:Int)):Nd.oQ w p (Int.toNat X) d:=by
 subst hX
 exact Nd.again h.1 hi hp
def pf (s:ik):List Value:=[.i s.k,.i s.n,.i s.x]
theorem ET (l:List ik):(l.flatMap pf).length=l.length *3:=oh pf 3 (λ_=>rfl) l
structure FH (w:World) (p:Addr) (i:Nat) (s:ik):Prop where
 c0:w.cell? ((p.add (i *3)).add 0)=some (.i s.k)
 c1:w.cell? ((p.add (i *3)).add 1)=some (.i s.n)
 c2:w.cell? ((p.add (i *3)).add 2)=some (.i s.x)
theorem Up {w:World} {s:Sl} {l:List ik} (h:jO 3 w s (l.flatMap pf)):s.n=l.length:=by
 have:=h.1
 rw [ET] at this
 omega
theorem eX {w:World} {s:Sl} {l:List ik} (h:jO 3 w s (l.flatMap pf)) {i:Nat} {x:ik} {X:Int} (hX:X=(i:Int)) (hi:l[i]? =some x) {K:Addr->Prop} (hk:∀p,s.a=some p->FH w p (Int.toNat X) x->K p):(0:Int)<=X/\X<((s.n:Nat):Int)/\aX s.a K:=by
 have hn:=Up h
 have hl:=(oN.1 hi).1
 subst hX
 exact ⟨by omega,by omega,oz.elem (f:=pf) (sz:=3) (λ_=>rfl) (by omega) h.2.2 hi λp hp hc=>hk p hp ⟨hc 0 _ rfl,hc 1 _ rfl,hc 2 _ rfl⟩⟩
theorem c9 {w:World} {s:Sl} {l:List ik} (h:jO 3 w s (l.flatMap pf)) {i:Nat} {x:ik} {X:Int} (hX:X=(i:Int)) (hi:l[i]? =some x) {p:Addr} (hp:s.a=some p):FH w p (Int.toNat X) x:=by
 have hk:=(eX h hX hi (K:=λq=>∃q',s.a=some q'/\FH w q' (Int.toNat X) x) (λq hq hc=>⟨q,hq,hc⟩)).2.2
 rw [hp] at hk
 obtain ⟨q,hq,e⟩:=hk
 cases hq
 exact e
theorem nH (a b:ik):((a.k==b.k)&&((a.n==b.n)&&((a.x==b.x)&&true)))=decide (a=b):=by
 cases a;cases b
 simp only [ik.mk.injEq,Bool.and_true,Bool.decide_and]
 rfl
theorem I3 (a b:ByteArray):(a.toList==b.toList)=decide (a=b):=by
 rw [ByteArray.toList_eq,ByteArray.toList_eq]
 have h:(a.data.toList=b.data.toList)↔a=b:=⟨λh=>ByteArray.ext (Array.toList_inj.1 h),λh=>by rw [h]⟩
 rw [<-decide_eq_decide.2 h]
 cases hd:decide (a.data.toList=b.data.toList) with
 |true=>rw [of_decide_eq_true hd];simp
 |false=>exact beq_eq_false_iff_ne.2 (of_decide_eq_false hd)
section
variable {A B:Prop}
theorem G6 {a b:ByteArray} (h1:a=b->A) (h2:a≠b->B):aF (a.toList==b.toList) A B:=by
 rw [I3];exact aM h1 h2
theorem nG {a b:ik} (h1:a=b->A) (h2:a≠b->B):aF ((a.k==b.k)&&((a.n==b.n)&&((a.x==b.x)&&true))) A B:=by
 rw [nH];exact aM h1 h2
theorem vG {a b:ik} (h1:a≠b->A) (h2:a=b->B):aF (!((a.k==b.k)&&((a.n==b.n)&&((a.x==b.x)&&true)))) A B:=by
 rw [nH];exact eQ (λh=>h1 (of_decide_eq_false h)) (λh=>h2 (of_decide_eq_true h))
theorem zu {s:ik} (h1:bO s=false->A) (h2:bO s=true->B):aF (lS s !=0) A B:=by
 unfold lS
 cases h:bO s with
 |true=>exact aL rfl (h2 h)
 |false=>exact aQ rfl (h1 h)
end
set_option maxRecDepth 100000
theorem nP (n:Int) (w:World):Calls Tryz.prog aU #[.i n] w λr w'=>r=.returned (kj (jJ n))/\bI w w':=
 enthymemeref07_BV.cV _ w _ ((mu [] (by simp)).bJ λb w1 H1=>H1.aK λw2 H2=>⟨rfl,H2.fr⟩)
theorem lG (n:Int) (w:World):Calls Tryz.prog bS #[.i n] w λr w'=>r=.returned (kj (mZ n))/\bI w w':=
 enthymemeref07_Strings.cV _ w _ ((mu [] (by simp)).bJ λb w1 H1=>H1.aK λw2 H2=>⟨rfl,H2.fr⟩)
theorem wJ (s:ik) (w:World):Calls Tryz.prog fF #[kj s] w λr w'=>r=.returned (kj (ni s))/\bI w w':=by
 refine enthymemeref07_Element.cV _ _ _ w _ ((mu [] (by simp)).bJ λb w1 H1=>H1.bJ λb2 w2 H2=>aH (λh=>H2.aJ (nP s.n w2) ?_) (λh=>H2.aJ (lG s.n w2) ?_))
 .rintro _ w3 rfl H3
  exact ⟨_,_,_,rfl,H3.aK λw4 H4=>⟨by unfold ni;rw [if_pos h],H4.fr⟩⟩
 .rintro _ w3 rfl H3
  exact ⟨_,_,_,rfl,H3.aK λw4 H4=>⟨by unfold ni;rw [if_neg h],H4.fr⟩⟩
theorem wE {op:Int} (h1:0<=op) (h2:op<=34):op=0\/op=1\/op=2\/op=3\/op=4\/op=5\/op=6\/op=7\/op=8\/op=9\/op=10\/op=11\/op=12\/op=13\/op=14\/op=15\/op=16\/op=17\/op=18\/op=19\/op=20\/op=21\/op=22\/op=23\/op=24\/op=25\/op=26\/op=27\/op=28\/op=29\/op=30\/op=31\/op=32\/op=33\/op=34:=by omega
theorem Lb (op:Int) (w:World):Calls Tryz.prog iz #[.i op] w λr w'=>r=.returned (.i (eK op))/\bI w w':=by
 refine enthymemeref07_Kids.ok op w _ ?_
 by_cases h1:op<0
 .exact aQ (decide_eq_true h1) ⟨by unfold eK;rw [if_pos (.inl h1)],Fr.refl _ _⟩
 refine aL (decide_eq_false h1) ?_
 by_cases h2:op>34
 .exact aQ (decide_eq_true h2) ⟨by unfold eK;rw [if_pos (.inr h2)],Fr.refl _ _⟩
 refine aL (decide_eq_false h2) ?_
 rcases wE (by omega) (by omega:op<=34) with rfl|rfl|rfl|rfl|rfl|rfl|rfl|rfl|rfl|rfl|rfl|rfl|rfl|rfl|rfl|rfl|rfl|rfl|rfl|rfl|rfl|rfl|rfl|rfl|rfl|rfl|rfl|rfl|rfl|rfl|rfl|rfl|rfl|rfl|rfl<;>exact ⟨rfl,Fr.refl _ _⟩
theorem HV {s:ByteArray} {i:Nat} (h:i<s.size):s[i]? =some (gQ (bl s) i):=by
 have h2:i<(bl s).length:=h
 have e:gQ (bl s) i=(bl s)[i]:=by unfold gQ;rw [List.getD_eq_getElem?_getD,gW h2];rfl
 rw [e,getElem?_pos s i h]
 rfl
theorem mL (c:UInt8) (m:List UInt8):qc (c::m)=(decide (m.length<=15)&&oC c&&m.all ml):=rfl
theorem Oq (s:ByteArray) (w:World):Calls Tryz.prog j8 #[.string s] w λr w'=>r=.returned (.bool (qc (bl s)))/\bI w w':=by
 have hl:(bl s).length=s.size:=iK s
 have no:qc (bl s)=false->(Ending.returned (.bool false)=.returned (.bool (qc (bl s)))/\bI w w):=λh=>⟨by rw [h],Fr.refl _ _⟩
 cases hs:bl s with
 |nil=>
  have h0:s.size=0:=by rw [<-hl,hs];rfl
  exact enthymemeref07_Named.ok s w _ (aQ (decide_eq_true (by omega)) ⟨rfl,Fr.refl _ _⟩)
 |cons c m=>
  have hm:s.size=m.length+1:=by rw [<-hl,hs];rfl
  rw [hs] at no
  have g0:gQ (bl s) 0=c:=by rw [hs];rfl
  have h0:s[Int.toNat 0]? =some c:=by rw [<-g0];exact HV (by omega)
  refine enthymemeref07_Named.ok s w _ (aL (decide_eq_false (by omega)) (aM (λh=>no ?_) (λh=>⟨by omega,c,h0,aM (λh1=>no ?_) (λh1=>⟨by omega,c,h0,aM (λh2=>no ?_) (λh2=>?_)⟩)⟩)))
  .rw [mL,decide_eq_false (by omega)];rfl
  .rw [mL];unfold oC;rw [decide_eq_false (show ¬97<=c.toNat by omega)];simp
  .rw [mL];unfold oC;rw [decide_eq_false (show ¬c.toNat<=122 by omega)];simp
  have e0:qc (c::m)=m.all ml:=by
   rw [mL]
   unfold oC
   rw [decide_eq_true (show m.length<=15 by omega),decide_eq_true (show 97<=c.toNat by omega),decide_eq_true (show c.toNat<=122 by omega)]
   simp
  have e1:qc (c::m)=(bl s).all ml:=by
   rw [e0,hs,List.all_cons]
   unfold ml oC
   rw [decide_eq_true (show 97<=c.toNat by omega),decide_eq_true (show c.toNat<=122 by omega)]
   simp
  rw [e1]
  have loop:∀(d i:Nat),i+d=s.size->(bl s).all ml=((bl s).drop i).all ml->enthymemeref07_Named.L1 s (i:Int) w λr w'=>r=.returned (.bool ((bl s).all ml))/\bI w w':=by
   intro d
   induction d with
   |zero=>
    intro i hi he
    rw [qdO (by omega)] at he
    exact enthymemeref07_Named.nY _ _ _ _ (aL (decide_eq_false (by omega)) ⟨by rw [he];rfl,Fr.refl _ _⟩)
   |succ d ih=>
    intro i hi he
    have hg:=HV (show i<s.size by omega)
    rw [qdG (by omega:i<(bl s).length),List.all_cons,show (bl s)[i]'(by omega)=gQ (bl s) i by unfold gQ;rw [List.getD_eq_getElem?_getD,gW (by omega:i<(bl s).length)];rfl] at he
    generalize gQ (bl s) i=x at hg he
    have go:ml x=true->enthymemeref07_Named.S4 s (i:Int) w λr w'=>r=.returned (.bool ((bl s).all ml))/\bI w w':=λh=>by
     show enthymemeref07_Named.L1 s (IntKind.wrap .i64 ((i:Int)+1)) w _
     rw [aY _ (by omega)]
     exact ih (i+1) (by omega) (by rw [he,h,Bool.true_and])
    have stop:ml x=false->(Ending.returned (.bool false)=.returned (.bool ((bl s).all ml))/\bI w w):=λh=>⟨by rw [he,h,Bool.false_and],Fr.refl _ _⟩
    have dig:oC x=false->∀o:Bool,o=((decide (48<=x.toNat)&&decide (x.toNat<=57))||x==45)->enthymemeref07_Named.S3 s (i:Int) false o w λr w'=>r=.returned (.bool ((bl s).all ml))/\bI w w':=λhx o ho=>by
     refine aQ rfl (eQ (λh=>stop ?_) (λh=>go ?_))
     .unfold ml;rw [hx,Bool.false_or,<-ho,h]
     .unfold ml;rw [hx,Bool.false_or,<-ho,h]
    have e45:((((x.toNat:Nat):Int)==45):Bool)=(x==45):=by
     by_cases h:x=45
     .subst h;rfl
     .rw [beq_eq_false_iff_ne.2 h,beq_eq_false_iff_ne]
      intro h2
      exact h (UInt8.toNat_inj.1 (by have:((45:UInt8).toNat:Int)=45:=rfl;omega))
    have ht:((i:Int)).toNat=i:=Int.toNat_natCast i
    have S2:∀l:Bool,l=oC x->enthymemeref07_Named.S2 s (i:Int) l w λr w'=>r=.returned (.bool ((bl s).all ml))/\bI w w':=λl hl=>by
     have fin:∀o:Bool,o=((decide (48<=x.toNat)&&decide (x.toNat<=57))||x==45)->enthymemeref07_Named.S3 s (i:Int) l o w λr w'=>r=.returned (.bool ((bl s).all ml))/\bI w w':=λo ho=>by
      cases hx:oC x with
      |true=>rw [hl,hx];exact aL rfl (go (by unfold ml;rw [hx];rfl))
      |false=>rw [hl,hx];exact dig hx o ho
     refine ⟨by omega,x,by rw [ht];exact hg,aM (λh=>⟨by omega,x,by rw [ht];exact hg,aM (λh'=>fin true ?_) (λh'=>⟨by omega,x,by rw [ht];exact hg,?_⟩)⟩) (λh=>⟨by omega,x,by rw [ht];exact hg,?_⟩)⟩
     .rw [decide_eq_true (show 48<=x.toNat by omega),decide_eq_true (show x.toNat<=57 by omega)];rfl
     .rw [e45];exact fin _ (by rw [decide_eq_false (show ¬x.toNat<=57 by omega)];simp)
     .rw [e45];exact fin _ (by rw [decide_eq_false (show ¬48<=x.toNat by omega)];simp)
    refine enthymemeref07_Named.nY _ _ _ _ (aQ (decide_eq_true (by omega)) ⟨by omega,x,by rw [ht];exact hg,aM (λh=>⟨by omega,x,by rw [ht];exact hg,S2 _ ?_⟩) (λh=>S2 _ ?_)⟩)
    .unfold oC
     rw [decide_eq_true (show 97<=x.toNat by omega),Bool.true_and]
     exact decide_eq_decide.2 (by omega)
    .unfold oC
     rw [decide_eq_false (show ¬97<=x.toNat by omega),Bool.false_and]
  exact loop s.size 0 (by omega) (by simp)
theorem zk (n lo hi:Int) (w:World):Calls Tryz.prog bZ #[.int .i64 n,.int .i64 lo,.int .i64 hi] w λr w'=>r=.returned (.bool (decide (lo<=n/\n<=hi)))/\bI w w':=by
 refine enthymemeref06_within.ok _ _ _ w _ (aM (λh=>⟨?_,Fr.refl _ _⟩) (λh=>⟨?_,Fr.refl _ _⟩))
 .have:(lo<=n/\n<=hi)↔n<=hi:=⟨λh=>h.2,λh'=>⟨h,h'⟩⟩
  simp only [this]
 .rw [decide_eq_false (by omega)]
theorem EI (s:ik) (w:World):Calls Tryz.prog im #[kj s] w λr w'=>r=.returned (.int .i64 (lS s))/\bI w w':=by
 refine enthymemeref06_ValidSort.cV _ _ _ w _ ((mu [] (by simp)).bJ λb1 w1 H1=>?_)
 have fin:∀{w2:World} {L:List En} (b:Bool),b=bO s->LH F0 w w2 L []->enthymemeref06_ValidSort.dV b w2 λr w'=>r=.returned (.int .i64 (lS s))/\bI w w':=by
  rintro w2 L b rfl H
  refine eQ (λh=>⟨?_,H.fr⟩) (λh=>⟨?_,H.fr⟩)
  .unfold lS;rw [if_neg (by simp [h])]
  .unfold lS;rw [if_pos h]
 have plain:∀lo:Int,(bO s=(decide (lo<=s.n/\s.n<=64)&&(s.x==0)))->fV [b1] Tryz.prog bZ #[.int .i64 s.n,.int .i64 lo,.int .i64 64] w1 λr_ w2=>∃t10:Bool,r_=.returned (.bool t10)/\aF t10 (enthymemeref06_ValidSort.dV (s.x==0) w2 λr w'=>r=.returned (.int .i64 (lS s))/\bI w w') (enthymemeref06_ValidSort.dV false w2 λr w'=>r=.returned (.int .i64 (lS s))/\bI w w'):=by
  intro lo hv
  refine H1.aJ (zk _ _ _ w1) ?_
  rintro _ w2 rfl H2
  refine ⟨_,rfl,aZ (λh=>fin _ ?_ H2) (λh=>fin _ ?_ H2)⟩
  .rw [hv,h];rfl
  .rw [hv,h];rfl
 have array:∀lo:Int,(bO s=(decide (lo<=s.n/\s.n<=64)&&decide (1<=s.x/\s.x<=16)))->fV [b1] Tryz.prog bZ #[.int .i64 s.n,.int .i64 lo,.int .i64 64] w1 λr_ w2=>∃t10:Bool,r_=.returned (.bool t10)/\aF t10 (fV [b1] Tryz.prog bZ #[.int .i64 s.x,.int .i64 1,.int .i64 16] w2 λr_ w5=>∃t34:Bool,r_=.returned (.bool t34)/\enthymemeref06_ValidSort.dV t34 w5 λr w'=>r=.returned (.int .i64 (lS s))/\bI w w') (enthymemeref06_ValidSort.dV false w2 λr w'=>r=.returned (.int .i64 (lS s))/\bI w w'):=by
  intro lo hv
  refine H1.aJ (zk _ _ _ w1) ?_
  rintro _ w2 rfl H2
  refine ⟨_,rfl,aZ (λh=>H2.aJ (zk _ _ _ w2) ?_) (λh=>fin _ ?_ H2)⟩
  .rintro _ w3 rfl H3
   exact ⟨_,rfl,fin _ (by rw [hv,h];rfl) H3⟩
  .rw [hv,h];rfl
 refine aH (λh0=>plain 1 ?_) (λh0=>aH (λJy=>plain 0 ?_) (λJy=>aH (λQ8=>array 1 ?_) (λQ8=>aH (λJz=>array 0 ?_) (λJz=>fin _ ?_ H1))))
 .unfold bO;simp [h0]
 .unfold bO;simp [Jy]
 .unfold bO;simp [Q8,Bool.and_assoc]
 .unfold bO;simp [Jz,Bool.and_assoc]
 .unfold bO;simp [h0,Jy,Q8,Jz]
abbrev rG (s:Sl) (l:List Nd) (d:Nd):List En:=[.gr s l,gv d]
theorem WB {w:World} {s:Sl} {l:List Nd} {d:Nd} (h:GP w s l) (hd:d.P w):LH F0 w w [] (rG s l d):=mu _ (by
 intro e he
 simp only [cU,qnM,or_false] at he
 rcases he with rfl|rfl
 .exact cH.2 h
 .exact hd)
theorem On {w:World} {s:Sl} {l:List Int} (h:fB w s l) (hl:l.length<=1000000000000) (n:Int):Calls Tryz.prog lg #[s.v,.i n] w λr w'=>r=.returned (.bool (decide (n∈l)))/\bI w w':=by
 have hn:=fB.len h
 have loop:∀(d i:Nat),i+d=l.length->(n∈l↔n∈l.drop i)->enthymemeref01_Has.L0 s n (i:Int) w λr w'=>r=.returned (.bool (decide (n∈l)))/\bI w w':=by
  intro d
  induction d with
  |zero=>
   intro i hi he
   rw [qdO (by omega)] at he
   exact enthymemeref01_Has.cF _ _ _ _ _ (aL (decide_eq_false (by omega)) ⟨by rw [decide_eq_false (λh=>by have:=he.1 h;simp at this)],Fr.refl _ _⟩)
  |succ d ih=>
   intro i hi he
   have hg:l[i]? =some (l[i]'(by omega)):=gW (by omega)
   rw [qdG (by omega:i<l.length),cU] at he
   generalize l[i]'(by omega)=x at hg he
   refine enthymemeref01_Has.cF _ _ _ _ _ (aQ (decide_eq_true (by omega)) ⟨by omega,by omega,h.cell hg (by omega) λp hp hc=>⟨x,hc,aH (λe=>⟨?_,Fr.refl _ _⟩) (λe=>?_)⟩⟩)
   .rw [decide_eq_true (he.2 (.inl e.symm))]
   .rw [aY _ (by omega)]
    exact ih (i+1) (by omega) (he.trans ⟨λh=>h.resolve_left (λh=>e h.symm),.inr⟩)
 exact enthymemeref01_Has.ok _ _ w _ (loop l.length 0 (by omega) (by simp))
theorem QV {w:World} {s:Sl} {l:List Int} (h:fB w s l) (hl:l.length<=1000000000000) (n:Int):Calls Tryz.prog iV #[s.v,.i n] w λr w'=>r=.returned (.bool (decide (n∈l)))/\bI w w':=by
 refine enthymemeref07_has.ok _ _ w _ ((On h hl n).mono ?_)
 rintro _ w1 ⟨rfl,f⟩
 exact ⟨_,rfl,rfl,f⟩
theorem od {w:World} {b n:Nat} {l:List Int} {T:TypeId} (h:w.heap[b]? =some (.cells (l.map jm).toArray T (0,0))) (hn:n=l.length):fB w ⟨some (bF b),n,n⟩ l:=
 vY h (by simpa using hn)
def kC:Nat:=1000000000
theorem xh (op:Int):(decide (op∈[(21:Int),22,23,28])=DT op)/\(decide (op∈[(0:Int),2,33])=DU op):=by
 constructor
 .unfold DT
  by_cases h1:op=21
  .subst h1;rfl
  by_cases h2:op=22
  .subst h2;rfl
  by_cases h3:op=23
  .subst h3;rfl
  by_cases h4:op=28
  .subst h4;rfl
  simp [h1,h2,h3,h4]
 .unfold DU
  by_cases h1:op=0
  .subst h1;rfl
  by_cases h2:op=2
  .subst h2;rfl
  by_cases h3:op=33
  .subst h3;rfl
  simp [h1,h2,h3]
theorem Tp (t:ByteArray):(t.toList==(ByteArray.mk #[]).toList)=decide (t=ba []):=I3 _ _
theorem PC {n:Nx} {A B:Prop} (h:aF (okF n) B A):∀a b:Bool,a=DT n.op->b=DU n.op->
  let T:=aF (!b) (aF (!(n.tx.toList==(ByteArray.mk #[]).toList)) A B) B
  let U:=aF (n.op !=1) (aF (n.u !=0) A T) T
  let M:=aF (n.op !=21) (aF (n.m !=0) A U) U
  aF (!a) (aF (n.n !=0) A M) M:=by
 rintro a b rfl rfl
 dsimp only
 rw [Tp]
 unfold okF at h
 have e1:(n.op !=1)= !(n.op==1):=rfl
 have e2:(n.op !=21)= !(n.op==21):=rfl
 have e3:(n.n !=0)= !(n.n==0):=rfl
 have e4:(n.m !=0)= !(n.m==0):=rfl
 have e5:(n.u !=0)= !(n.u==0):=rfl
 rw [e1,e2,e3,e4,e5]
 generalize (n.op==1)=p1 at *
 generalize (n.op==21)=p2 at *
 generalize (n.n==0)=p3 at *
 generalize (n.m==0)=p4 at *
 generalize (n.u==0)=p5 at *
 generalize decide (n.tx=ba [])=p6 at *
 generalize DT n.op=p7 at *
 generalize DU n.op=p8 at *
 cases p1<;>cases p2<;>cases p3<;>cases p4<;>cases p5<;>cases p6<;>cases p7<;>cases p8<;>exact h
def Al (g:List Nx) (n:Nx):Int:=if (eK n.op==(n.kids.length:Int)&&n.kids.all (ic g)&&okF n)=true then 0 else 1
theorem Li {w:World} {s:Sl} {l:List Nd} {d:Nd} (h:GP w s l) (hd:d.P w) (hk:d.x.kids.length<=kC):Calls Tryz.prog jB #[s.v,d.v] w λr w'=>r=.returned (.i (Al (xs l) d.x))/\bI w w':=by
 have hn:=mX h
 have Wa:d.ks.n=d.x.kids.length:=fB.len hd
 have nR:(xs l).length=l.length:=by simp [xs]
 unfold kC at hk
 have loop:∀(m i:Nat) (b3:Nat) (w1:World),i+m=d.x.kids.length->(eK d.x.op==(d.x.kids.length:Int))=true->(d.x.kids.all (ic (xs l))=(d.x.kids.drop i).all (ic (xs l)))->LH F0 w w1 [.g b3] (rG s l d)->
   enthymemeref07_fields.eH s b3 d.x.op d.ks d.x.n d.x.m d.x.u d.x.tx d.x.st.k d.x.st.n d.x.st.x (i:Int) w1 λr w'=>r=.returned (.i (Al (xs l) d.x))/\bI w w':=by
  intro m
  induction m with
  |zero=>
   intro i b3 w1 hi hq he H
   rw [qdO (by omega)] at he
   refine enthymemeref07_fields.bA _ _ _ _ _ _ _ _ _ _ _ _ _ _ (aL (decide_eq_false (by omega)) (H.nw λw2 _ H2=>H2.aJ (QV (l:=[21,22,23,28]) (od (n:=4) (H2.ob 1) rfl) (by decide) d.x.op) ?_))
   rintro _ w3 rfl H3
   refine ⟨_,rfl,H3.nw λw4 _ H4=>H4.aJ (QV (l:=[0,2,33]) (od (n:=3) (H4.ob 2) rfl) (by decide) d.x.op) ?_⟩
   rintro _ w5 rfl H5
   refine ⟨_,rfl,?_⟩
   have hf:∀b:Bool,okF d.x=b->Al (xs l) d.x=if b=true then 0 else 1:=λb hb=>by
    unfold Al
    rw [hq,he,hb]
    rfl
   exact PC (n:=d.x) (aZ (λh=>⟨by rw [hf _ h];rfl,H5.fr⟩) (λh=>⟨by rw [hf _ h];rfl,H5.fr⟩)) _ _ (xh d.x.op).1 (xh d.x.op).2
  |succ m ih=>
   intro i b3 w1 hi hq he H
   have hg:d.x.kids[i]? =some (d.x.kids[i]'(by omega)):=gW (by omega)
   rw [qdG (by omega:i<d.x.kids.length),List.all_cons] at he
   generalize d.x.kids[i]'(by omega)=x at hg he
   have bad:ic (xs l) x=false->(Ending.returned (.i 1)=.returned (.i (Al (xs l) d.x))/\bI w w1):=λhx=>⟨by unfold Al;rw [he,hx];simp,H.fr⟩
   have CV:fB w1 d.ks d.x.kids:=H.getD 1
   refine enthymemeref07_fields.bA _ _ _ _ _ _ _ _ _ _ _ _ _ _ (aQ (decide_eq_true (by omega)) ⟨by omega,by omega,CV.cell hg (by omega) λp hp hc=>⟨x,hc,aM (λh1=>bad ?_) (λh1=>⟨by omega,by omega,CV.cell hg (by omega) λp' Ic UY=>⟨x,UY,aM (λh2=>bad ?_) (λh2=>?_)⟩⟩)⟩⟩)
   .unfold ic;rw [decide_eq_false (by omega)];rfl
   .unfold ic;rw [decide_eq_false (show ¬x<((xs l).length:Int) by rw [nR];omega)];simp
   .rw [aY _ (by omega)]
    refine ih (i+1) b3 w1 (by omega) hq ?_ H
    rw [he]
    unfold ic
    rw [decide_eq_true (show 0<=x by omega),decide_eq_true (show x<((xs l).length:Int) by rw [nR];omega)]
    rfl
 refine enthymemeref07_fields.cV _ _ _ _ _ _ _ _ _ _ w _ ((WB h hd).bJ λb3 w1 H1=>H1.aK λw2 H2=>H2.aJ (Lb d.x.op w2) ?_)
 rintro _ w3 rfl H3
 refine ⟨_,rfl,eB (λhM=>⟨?_,H3.fr⟩) (λheq=>?_)⟩
 .unfold Al
  rw [beq_eq_false_iff_ne.2 (by rw [Wa] at hM;exact hM)]
  rfl
 .exact loop d.x.kids.length 0 b3 w3 (by omega) (by rw [heq,Wa];simp) (by simp) H3
def tP (g:List Nx):Prop:=∀d∈g,d.op=0->∀e∈g,e.op=0->d.tx=e.tx->d.st=e.st
theorem tP.tail {d:Nx} {g:List Nx} (h:tP (d::g)):tP g:=λa ha h1 b hb h2=>h a (qmCM _ ha) h1 b (qmCM _ hb) h2
def Kk (n d:Nx):Bool:=decide (d.op=0/\d.tx=n.tx/\d.st≠n.st)
theorem vO {t:ByteArray} {s:ik}:∀{g:List Nx},nW g t=some s->∃d∈g,d.op=0/\d.tx=t/\d.st=s
 |d::g,h=>by
  unfold nW at h
  split at h
  .rename_i hc
   exact ⟨d,by simp,hc.1,hc.2,Option.some.inj h⟩
  .obtain ⟨e,he,h⟩:=vO h
   exact ⟨e,qmCM _ he,h⟩
theorem Bz {t:ByteArray}:∀{g:List Nx},nW g t=none->∀d∈g,d.op=0->d.tx≠t
 |a::g,h,d,hd,h0,ht=>by
  unfold nW at h
  split at h
  .cases h
  .rename_i hc
   rcases cU.1 hd with rfl|hd
   .exact hc ⟨h0,ht⟩
   .exact Bz h d hd h0 ht
theorem Bx {g:List Nx} (hv:tP g) (n:Nx):rN g n=g.any (Kk n):=by
 unfold rN
 cases h:nW g n.tx with
 |none=>
  symm
  rw [List.any_eq_false]
  intro d hd ht
  have ht:=of_decide_eq_true ht
  exact Bz h d hd ht.1 ht.2.1
 |some s=>
  obtain ⟨d,hd,h0,h1,h2⟩:=vO h
  by_cases hs:s=n.st
  .simp only [hs,decide_true,Bool.not_true]
   symm
   rw [List.any_eq_false]
   intro e he ht
   have ht:=of_decide_eq_true ht
   exact ht.2.2 ((hv e he ht.1 d hd h0 (ht.2.1.trans h1.symm)).trans (h2.trans hs))
  .simp only [hs,decide_false,Bool.not_false]
   symm
   rw [List.any_eq_true]
   exact ⟨d,hd,decide_eq_true ⟨h0,h1,λe=>hs (h2.symm.trans e)⟩⟩
theorem M3 (n:Int) (h0:0<=n) (h1:n<64):IntKind.wrap .u64 (1 *2^(min (Int.toNat n) (IntKind.bits .u64)))=((2^n.toNat:Nat):Int):=by
 have e:min (Int.toNat n) (IntKind.bits .u64)=n.toNat:=by show min n.toNat 64=_;omega
 have hp:(2:Nat)^n.toNat<=2^63:=Nat.pow_le_pow_right (by omega) (by omega)
 rw [e,Int.one_mul,show ((2:Int)^n.toNat)=((2^n.toNat:Nat):Int) from by rw [Int.natCast_pow];rfl]
 generalize (2:Nat)^n.toNat=m at hp
 exact IntWalk.u64_in _ (by omega)
abbrev ky (x:ik×Int):Ending:=.returned (.tuple #[kj x.1,.i x.2])
theorem qT {s:ik} (h:bO s=true) (hk:s.k=0):1<=s.n/\s.n<=64/\s.x=0:=by
 unfold bO at h
 simp [hk] at h
 omega
theorem mD {s:ik} (h:bO s=true):0<=s.n/\s.n<=64/\0<=s.x/\s.x<=16/\0<=s.k/\s.k<=3:=by
 unfold bO at h
 simp at h
 omega
theorem Tb {w:World} {s:Sl} {l:List Nd} {d:Nd} (h:GP w s l) (hd:d.P w) (hl:l.length<=kC) (h0:0<=d.x.op) (h3:d.x.op<=3) (hv:tP (xs l)):Calls Tryz.prog kF #[s.v,d.v] w λr w'=>r=ky (cX (xs l) d.x)/\bI w w':=by
 have hn:=mX h
 have nR:(xs l).length=l.length:=by simp [xs]
 unfold kC at hl
 have e0:d.x.op=0\/d.x.op=1\/d.x.op=2\/d.x.op=3:=by omega
 refine enthymemeref07_leaf.cV _ _ _ _ _ _ _ _ _ _ w _ ((WB h hd).bJ λb3 w1 H1=>H1.bJ λb4 w2 H2=>aH (λh2=>?_) (λh2=>?_))
 .refine aM (λhs=>H2.aK λw3 H3=>⟨?_,H3.fr⟩) (λhs=>H2.aJ (lG _ w2) ?_)
  .unfold cX;rw [if_pos h2,if_pos (by omega)];rfl
  .rintro _ w3 rfl H3
   refine ⟨_,_,_,rfl,H3.aK λw4 H4=>⟨?_,H4.fr⟩⟩
   unfold cX;rw [if_pos h2,if_neg (by omega)]
 have l1:cX (xs l) d.x=if d.x.op=0/\qc (bl d.x.tx)=false then (oy,6) else
   if bO d.x.st=false then (oy,9) else
   if d.x.op=1/\d.x.st.k≠0\/d.x.op=3/\kZ d.x.st=false then (oy,9) else
   if d.x.op=1/\Ol d.x.u d.x.st.n=true then (oy,5) else
   if d.x.op=0/\(xs l).any (Kk d.x)=true then (oy,8) else (d.x.st,0):=by
  unfold cX;rw [if_neg h2,Bx hv]
 have S0:∀(nm:Bool) (w3:World),nm=(!decide (d.x.op=0)||qc (bl d.x.tx))->LH F0 w w3 [.g b3,.g b4] (rG s l d)->enthymemeref07_leaf.dV s b3 d.x.op d.ks d.x.n d.x.m d.x.u d.x.tx d.x.st.k d.x.st.n d.x.st.x b4 0 0 0 nm w3 λr w'=>r=ky (cX (xs l) d.x)/\bI w w':=by
  intro nm w3 N1 H3
  refine eQ (λhf=>H3.aK λw4 H4=>⟨?_,H4.fr⟩) (λht=>?_)
  .rw [hf] at N1
   have N1:=N1.symm
   simp only [Bool.or_eq_false_iff,Bool.not_eq_false',decide_eq_true_eq] at N1
   rw [l1,if_pos N1];rfl
  have ZA:¬(d.x.op=0/\qc (bl d.x.tx)=false):=λhc=>by rw [ht,hc.2,decide_eq_true hc.1] at N1;simp at N1
  rw [if_neg ZA] at l1
  refine H3.aJ (EI d.x.st w3) ?_
  rintro _ w4 rfl H4
  refine ⟨_,rfl,zu (λhf=>H4.aK λw5 H5=>⟨?_,H5.fr⟩) (λht=>?_)⟩
  .rw [l1,if_pos hf];unfold lS;rw [hf];rfl
  rw [if_neg (by rw [ht];simp)] at l1
  have loop:∀(m i:Nat) (w5:World),i+m=l.length->cX (xs l) d.x=(if d.x.op=0/\((xs l).drop i).any (Kk d.x)=true then (oy,8) else (d.x.st,0))->LH F0 w w5 [.g b3,.g b4] (rG s l d)->
    enthymemeref07_leaf.wY s b3 d.x.op d.ks d.x.n d.x.m d.x.u d.x.tx d.x.st.k d.x.st.n d.x.st.x b4 0 0 0 (i:Int) w5 λr w'=>r=ky (cX (xs l) d.x)/\bI w w':=by
   intro m
   induction m with
   |zero=>
    intro i w5 hi he H5
    rw [qdO (by omega)] at he
    refine enthymemeref07_leaf.ko _ _ _ _ _ _ _ _ _ _ _ _ _ _ _ _ _ _ (aL (decide_eq_false (by omega)) (H5.aK λw6 H6=>⟨?_,H6.fr⟩))
    rw [he,if_neg (by simp)]
   |succ m ih=>
    intro i w5 hi he H5
    have hg:l[i]? =some (l[i]'(by omega)):=gW (by omega)
    have hx:(xs l).drop i=(l[i]'(by omega)).x::(xs l).drop (i+1):=by
     rw [qdG (by omega:i<(xs l).length)]
     simp [xs]
    rw [hx,List.any_cons] at he
    generalize l[i]'(by omega)=e at hg he
    have next:∀w6,LH F0 w w6 [.g b3,.g b4] (rG s l d)->(d.x.op=0->Kk d.x e.x=false)->enthymemeref07_leaf.uz s b3 d.x.op d.ks d.x.n d.x.m d.x.u d.x.tx d.x.st.k d.x.st.n d.x.st.x b4 0 0 0 (i:Int) w6 λr w'=>r=ky (cX (xs l) d.x)/\bI w w':=by
     intro w6 H6 ht
     show enthymemeref07_leaf.wY s b3 d.x.op d.ks d.x.n d.x.m d.x.u d.x.tx d.x.st.k d.x.st.n d.x.st.x b4 0 0 0 (IntKind.wrap .i64 ((i:Int)+1)) w6 _
     rw [aY _ (by omega)]
     refine ih (i+1) w6 (by omega) ?_ H6
     rw [he]
     by_cases ho:d.x.op=0
     .rw [ht ho,Bool.false_or]
     .rw [if_neg (λh=>ho h.1),if_neg (λh=>ho h.1)]
    have G5:GP w5 s l:=cH.1 (H5.getD 0)
    refine enthymemeref07_leaf.ko _ _ _ _ _ _ _ _ _ _ _ _ _ _ _ _ _ _ (aQ (decide_eq_true (by omega)) (aH (λho=>?_) (λho=>H5.aK λw6 H6=>next w6 H6 (λh=>absurd h ho))))
    refine kO G5 rfl hg λp hp _=>H5.aK λw6 H6=>?_
    have c6:=sD (cH.1 (H6.getD 0)) hg hp (rfl:((i:Int))=(i:Int))
    refine ⟨_,c6.c0,aH (λO'=>?_) (λO'=>next w6 H6 λ_=>decide_eq_false λh=>O' h.1)⟩
    refine kO (cH.1 (H6.getD 0)) rfl hg λp1 hp1 c61=>⟨_,c61.c5,G6 (λht=>?_) (λht=>next w6 H6 λ_=>decide_eq_false λh=>ht h.2.1)⟩
    refine kO (cH.1 (H6.getD 0)) rfl hg λp2 ZH Yz=>⟨_,_,_,Yz.s0,Yz.s1,Yz.s2,vG (λhf=>H6.aK λw7 H7=>⟨?_,H7.fr⟩) (λU4=>next w6 H6 λ_=>decide_eq_false λh=>h.2.2 U4)⟩
    rw [he,if_pos ⟨ho,by rw [show Kk d.x e.x=true from decide_eq_true ⟨O',ht,hf⟩];rfl⟩]
    rfl
  have S4:∀w5:World,cX (xs l) d.x=(if d.x.op=0/\(xs l).any (Kk d.x)=true then (oy,8) else (d.x.st,0))->LH F0 w w5 [.g b3,.g b4] (rG s l d)->
    enthymemeref07_leaf.ox s b3 d.x.op d.ks d.x.n d.x.m d.x.u d.x.tx d.x.st.k d.x.st.n d.x.st.x b4 0 0 0 w5 λr w'=>r=ky (cX (xs l) d.x)/\bI w w':=λw5 he H5=>loop l.length 0 w5 (by omega) he H5
  have S1:∀(a:Bool) (w5:World),a=kZ d.x.st->LH F0 w w5 [.g b3,.g b4] (rG s l d)->enthymemeref07_leaf.fY s b3 d.x.op d.ks d.x.n d.x.m d.x.u d.x.tx d.x.st.k d.x.st.n d.x.st.x b4 0 0 0 a w5 λr w'=>r=ky (cX (xs l) d.x)/\bI w w':=by
   rintro a w5 rfl H5
   have bad:(d.x.op=1/\d.x.st.k≠0\/d.x.op=3/\kZ d.x.st=false)->enthymemeref07_leaf.eY b4 0 0 0 w5 λr w'=>r=ky (cX (xs l) d.x)/\bI w w':=λhb=>H5.aK λw6 H6=>⟨by rw [l1,if_pos hb];rfl,H6.fr⟩
   have S3:¬(d.x.op=1/\d.x.st.k≠0\/d.x.op=3/\kZ d.x.st=false)->enthymemeref07_leaf.gO s b3 d.x.op d.ks d.x.n d.x.m d.x.u d.x.tx d.x.st.k d.x.st.n d.x.st.x b4 0 0 0 w5 λr w'=>r=ky (cX (xs l) d.x)/\bI w w':=λhb=>by
    rw [if_neg hb] at l1
    refine aH (λh1=>?_) (λh1=>S4 w5 (by rw [l1,if_neg (λh=>h1 h.1)]) H5)
    have hk:d.x.st.k=0:=by
     rcases Int.decEq d.x.st.k 0 with h|h
     .exact absurd (.inl ⟨h1,h⟩) hb
     .exact h
    obtain ⟨v1,v2,_⟩:=qT ht hk
    have ew:IntKind.wrap .u64 d.x.st.n=d.x.st.n:=IntWalk.u64_in _ (by omega)
    refine aM (λFt=>⟨by rw [ew];omega,?_⟩) (λFt=>S4 w5 (by rw [l1,if_neg];rintro ⟨_,hb⟩;unfold Ol at hb;rw [decide_eq_false (by omega)] at hb;cases hb) H5)
    rw [ew,M3 _ (by omega) Ft]
    have hp:((2^d.x.st.n.toNat:Nat):Int)=(2:Int)^d.x.st.n.toNat:=by rw [Int.natCast_pow];rfl
    rw [hp]
    refine aM (λAo=>H5.aK λw6 H6=>⟨?_,H6.fr⟩) (λAo=>S4 w5 ?_ H5)
    .rw [l1,if_pos ⟨h1,by unfold Ol;rw [decide_eq_true Ft,decide_eq_true Ao];rfl⟩];rfl
    .rw [l1,if_neg]
     rintro ⟨_,hb⟩
     unfold Ol at hb
     rw [decide_eq_false (by omega:¬(2:Int)^d.x.st.n.toNat<=d.x.u),Bool.and_false] at hb
     cases hb
   have Se:¬(d.x.op=1/\d.x.st.k≠0)->aF (d.x.op==3) (aF (!kZ d.x.st) (enthymemeref07_leaf.eY b4 0 0 0 w5 λr w'=>r=ky (cX (xs l) d.x)/\bI w w') (enthymemeref07_leaf.gO s b3 d.x.op d.ks d.x.n d.x.m d.x.u d.x.tx d.x.st.k d.x.st.n d.x.st.x b4 0 0 0 w5 λr w'=>r=ky (cX (xs l) d.x)/\bI w w')) (enthymemeref07_leaf.gO s b3 d.x.op d.ks d.x.n d.x.m d.x.u d.x.tx d.x.st.k d.x.st.n d.x.st.x b4 0 0 0 w5 λr w'=>r=ky (cX (xs l) d.x)/\bI w w'):=λhk=>
    aH (λh3=>eQ (λhf=>bad (.inr ⟨h3,hf⟩)) (λht=>S3 (by rintro (h|h);exact hk h;rw [ht] at h;cases h.2))) (λh3=>S3 (by rintro (h|h);exact hk h;exact h3 h.1))
   exact aH (λh1=>eB (λhk=>bad (.inl ⟨h1,hk⟩)) (λhk=>Se (λh=>h.2 hk))) (λh1=>Se (λh=>h1 h.1))
  refine aH (λsE=>S1 true w4 ?_ H4) (λsE=>S1 _ w4 ?_ H4)
  .unfold kZ;rw [sE];rfl
  .unfold kZ;rw [beq_eq_false_iff_ne.2 sE];rfl
 refine eB (λO'=>S0 true w2 ?_ H2) (λO'=>H2.aJ (Oq d.x.tx w2) ?_)
 .rw [decide_eq_false O'];rfl
 .rintro _ w3 rfl H3
  exact ⟨_,rfl,S0 _ w3 (by rw [decide_eq_true O'];rfl) H3⟩
theorem vN {s:ik} (h:(s.k=0/\1<=s.n/\s.n<=64/\s.x=0)\/(s.k=1/\0<=s.n/\s.n<=64/\s.x=0)\/(s.k=2/\1<=s.n/\s.n<=64/\1<=s.x/\s.x<=16)\/(s.k=3/\0<=s.n/\s.n<=64/\1<=s.x/\s.x<=16)):bO s=true:=by
 unfold bO
 rcases h with ⟨h1,h2,h3,h4⟩|⟨h1,h2,h3,h4⟩|⟨h1,h2,h3,h4,h5⟩|⟨h1,h2,h3,h4,h5⟩<;>simp [h1,h2,h3,h4]<;>simp [h5]
theorem wS {s:ik}:bO s=true↔(s.k=0/\1<=s.n/\s.n<=64/\s.x=0)\/(s.k=1/\0<=s.n/\s.n<=64/\s.x=0)\/(s.k=2/\1<=s.n/\s.n<=64/\1<=s.x/\s.x<=16)\/(s.k=3/\0<=s.n/\s.n<=64/\1<=s.x/\s.x<=16):=by
 refine ⟨λh=>?_,vN⟩
 unfold bO at h
 simp only [Bool.or_eq_true,Bool.and_eq_true,beq_iff_eq,decide_eq_true_eq] at h
 omega
structure AF (g:List Nx) (n:Nx):Prop where
 kl:eK n.op=(n.kids.length:Int)
 ki:∀k∈n.kids,0<=k/\k<(g.length:Int)
 ok:okF n=true
theorem CC {g:List Nx} {n:Nx} (h:(eI g n).2=0):AF g n:=by
 unfold eI at h
 split at h
 .cases h
 .rename_i hc
  simp only [Bool.and_eq_false_iff,not_or,Bool.not_eq_false,beq_iff_eq] at hc
  refine ⟨hc.1.1,λk hk=>?_,hc.2⟩
  have:=qaT.1 hc.1.2 k hk
  unfold ic at this
  simpa using this
theorem TW {g:List Nx} {n:Nx} (hv:∀d∈g,bO d.st=true) (hk:∀k∈n.kids,0<=k/\k<(g.length:Int)) {i:Nat} (hi:i<n.kids.length):bO (kn g n i)=true:=by
 have h1:=hk _ (qgEM hi)
 unfold kn
 rw [gW hi]
 dsimp only
 have h2:(n.kids[i]).toNat<g.length:=by omega
 rw [gW h2]
 exact hv _ (qgEM h2)
theorem Gb {x:ik} (h:bO x=true) (ha:kZ x=true):bO (ni x)=true:=by
 rw [wS] at h
 unfold kZ at ha
 simp only [Bool.or_eq_true,beq_iff_eq] at ha
 unfold ni
 refine vN ?_
 split
 .show (0=0/\1<=x.n/\x.n<=64/\0=0)\/_
  left;omega
 .right;left
  show (1:Int)=1/\0<=x.n/\x.n<=64/\(0:Int)=0
  omega
theorem nf {n:Int} (h1:1<=n) (h2:n<=64):bO (jJ n)=true:=vN (.inl ⟨rfl,h1,h2,rfl⟩)
theorem qQ {n:Int} (h1:0<=n) (h2:n<=64):bO (mZ n)=true:=vN (.inr (.inl ⟨rfl,h1,h2,rfl⟩))
theorem Ke {g:List Nx} {n:Nx} (hv:∀d∈g,bO d.st=true) (h:(eI g n).2=0):bO (eI g n).1=true:=by
 have ho:=CC h
 have hk:∀i:Nat,(i:Int)<eK n.op->bO (kn g n i)=true:=λi hi=>TW hv ho.ki (by have:=ho.kl;omega)
 unfold eI at h ⊢
 split at h
 .cases h
 rename_i hc
 rw [if_neg hc]
 split at h
 .rename_i h3
  rw [if_pos h3]
  unfold cX at h ⊢
  split at h
  .rename_i h2
   rw [if_pos h2]
   split at h
   .cases h
   .rename_i Ft
    rw [if_neg Ft]
    exact qQ (by omega) (by omega)
  .rename_i h2
   rw [if_neg h2]
   split at h
   .cases h
   rename_i h0
   rw [if_neg h0]
   split at h
   .cases h
   rename_i h1
   rw [if_neg h1]
   split at h
   .cases h
   rename_i h4
   rw [if_neg h4]
   split at h
   .cases h
   rename_i h5
   rw [if_neg h5]
   split at h
   .cases h
   rename_i h6
   rw [if_neg h6]
   simpa using h1
 rename_i h3
 rw [if_neg h3]
 split at h
 .cases h
 rename_i hf
 rw [if_neg hf]
 split at h
 .cases h
 rename_i hr
 rw [if_neg hr]
 split at h
 .cases h
 rename_i hc2
 rw [if_neg hc2]
 simp only [Bool.not_eq_false] at hf hr
 have HW:n.op<=34:=by
  rcases Int.lt_or_le 34 n.op with h|h
  .have:=ho.kl
   unfold eK at this
   rw [if_pos (.inr h)] at this
   omega
  .exact h
 generalize hx:kn g n 0=x at *
 generalize hy:kn g n 1=y at *
 generalize hz:kn g n 2=z at *
 have vx:bO x=true:=by rw [<-hx];exact hk 0 (by unfold eK;repeat' split<;>omega)
 have Ry:2<=eK n.op->bO y=true:=λh=>by rw [<-hy];exact hk 1 (by omega)
 have Mu:eK n.op=3->bO z=true:=λh=>by rw [<-hz];exact hk 2 (by omega)
 obtain ⟨op,kids,nn,m,u,tx,st⟩:=n
 simp only at *
 clear hx hy hz hk ho hc hc2
 rcases wE (by omega) HW with rfl|rfl|rfl|rfl|rfl|rfl|rfl|rfl|rfl|rfl|rfl|rfl|rfl|rfl|rfl|rfl|rfl|rfl|rfl|rfl|rfl|rfl|rfl|rfl|rfl|rfl|rfl|rfl|rfl|rfl|rfl|rfl|rfl|rfl|rfl
 iterate 4 omega
 all_goals first |(have Ry:=Ry (by decide))|skip
 all_goals first |(have Mu:=Mu (by decide))|skip
 iterate 12 exact vx
 iterate 3 exact nf (by omega) (by omega)
 .show bO (if y.k=1 then mZ (if y.n<z.n then z.n else y.n) else y)=true
  split
  .rename_i hk
   have hf:(decide (x=jJ 1)&&(decide (y=z)||(y.k==1&&z.k==1)))=true:=hf
   have h1:=mD Ry
   have h2:=mD Mu
   exact qQ (by split<;>omega) (by split<;>omega)
  .exact Ry
 .have hf:(x.k==0&&y.k==0)=true:=hf
  have hr:decide (x.n+y.n<=64)=true:=hr
  simp only [Bool.and_eq_true,beq_iff_eq] at hf
  have h1:=qT vx hf.1
  have h2:=qT Ry hf.2
  exact nf (by omega) (of_decide_eq_true hr)
 .have hf:(x.k==0)=true:=hf
  have hr:(decide (0<=m)&&decide (m<=nn)&&decide (nn<x.n))=true:=hr
  simp only [Bool.and_eq_true,decide_eq_true_eq] at hr
  have h1:=qT vx (eq_of_beq hf)
  show bO (jJ (nn - m+1))=true
  exact nf (by omega) (by omega)
 iterate 2
  .have hf:(x.k==0)=true:=hf
   have hr:(decide (1<=nn)&&decide (nn<=64 - x.n))=true:=hr
   simp only [Bool.and_eq_true,decide_eq_true_eq] at hr
   have h1:=qT vx (eq_of_beq hf)
   show bO (jJ (x.n+nn))=true
   exact nf (by omega) (by omega)
 .have hf:(kZ x&&decide (y=jJ x.x))=true:=hf
  simp only [Bool.and_eq_true] at hf
  exact Gb vx hf.1
 .exact vx
 .have hf:(kZ x&&decide (x=y))=true:=hf
  simp only [Bool.and_eq_true] at hf
  have h1:=hf.1
  unfold kZ at h1
  simp only [Bool.or_eq_true,beq_iff_eq] at h1
  rw [wS] at vx
  exact nf (by omega) (by omega)
 .exact nf (by omega) (by omega)
 .exact nf (by omega) (by omega)
 .have hr:decide (x.n+y.n<=64)=true:=hr
  have h1:=mD vx
  have h2:=mD Ry
  exact qQ (by omega) (of_decide_eq_true hr)
 .exact vx
 .exact nf (by omega) (by omega)
 .have hr:decide (x.n+z.n<=64)=true:=hr
  have h1:=mD vx
  have h2:=mD Mu
  exact qQ (by omega) (of_decide_eq_true hr)
 .exact nf (by omega) (by omega)
 .exact qQ (by omega) (by omega)
theorem Vg.val {g:List Nx} (h:Vg g):∀d∈g,bO d.st=true:=by
 induction h with
 |nil=>simp
 |snoc hg hs hn ih=>
  intro d hd
  rcases fW.1 hd with hd|hd
  .exact ih d hd
  .simp only [cU,qnM,or_false] at hd
   subst hd
   have:=Ke ih (by rw [hs])
   rwa [hs] at this
theorem var_eq {g g':List Nx} {a b:Nx} (ha:AF g a) (hb:AF g' b) (h0:a.op=0) (wm:b.op=0) (ht:a.tx=b.tx) (hs:a.st=b.st):a=b:=by
 have k0:∀{g:List Nx} {a:Nx},AF g a->a.op=0->a.kids=[]/\a.n=0/\a.m=0/\a.u=0:=by
  intro g a ha h0
  have h1:=ha.kl
  have h2:=ha.ok
  rw [h0] at h1
  unfold okF at h2
  rw [h0] at h2
  refine ⟨List.eq_nil_of_length_eq_zero (by have:eK 0=0:=rfl;omega),?_⟩
  have:DT 0=false:=rfl
  rw [this] at h2
  simp at h2
  exact ⟨h2.1.1.1,h2.1.1.2,h2.1.2⟩
 obtain ⟨a1,a2,a3,a4⟩:=k0 ha h0
 obtain ⟨b1,b2,b3,b4⟩:=k0 hb wm
 cases a;cases b
 simp only at *
 subst h0 wm ht hs a1 a2 a3 a4 b1 b2 b3 b4
 rfl
theorem Vg.ok {g:List Nx} (h:Vg g):∀i d,g[i]? =some d->eI (g.take i) d=(d.st,0):=by
 induction h with
 |nil=>intro i d hd;simp at hd
 |@snoc g n hg hs hn ih=>
  intro i d hd
  rcases Nat.lt_or_ge i g.length with hi|hi
  .rw [List.getElem?_append_left hi] at hd
   rw [List.take_append_of_le_length (by omega)]
   exact ih i d hd
  .rw [List.getElem?_append_right hi] at hd
   have:i - g.length=0:=by
    have:=(oN.1 hd).1
    simp at this
    omega
   rw [this] at hd
   simp at hd
   subst hd
   rw [show i=g.length by omega,List.take_left]
   exact hs
theorem Vg.sok {g:List Nx} (h:Vg g):∀i d,g[i]? =some d->AF (g.take i) d:=λi d hd=>CC (by rw [h.ok i d hd])
theorem Vg.kids {g:List Nx} (h:Vg g) {i:Nat} {d:Nx} (hd:g[i]? =some d):∀k∈d.kids,0<=k/\k<(i:Int):=λk hk=>by
 have h1:=(h.sok i d hd).ki k hk
 have h2:=(oN.1 hd).1
 rw [List.length_take] at h1
 omega
theorem Vg.vars {g:List Nx} (h:Vg g):tP g:=by
 induction h with
 |nil=>intro d hd;cases hd
 |@snoc g n hg hs hn ih=>
  have one:∀d∈g,d.op=0->n.op=0->d.tx=n.tx->d.st=n.st:=by
   intro d hd h0 wm ht
   have hso:AF g n:=CC (by rw [hs])
   unfold eI at hs
   split at hs
   .simp at hs
   rw [if_pos (by omega:n.op<=3)] at hs
   unfold cX at hs
   rw [if_neg (by omega)] at hs
   split at hs
   .simp at hs
   split at hs
   .simp at hs
   split at hs
   .simp at hs
   split at hs
   .simp at hs
   split at hs
   .simp at hs
   rename_i h1
   simp only [wm,true_and,Bool.not_eq_true] at h1
   rw [Bx ih,List.any_eq_false] at h1
   rcases decEq d.st n.st with h|h
   .exact absurd (decide_eq_true ⟨h0,ht,h⟩) (h1 d hd)
   .exact h
  intro d hd h0 e he wm ht
  have hd:=fW.1 hd
  have he:=fW.1 he
  simp only [cU,qnM,or_false] at hd he
  rcases hd with hd|hd
  .rcases he with he|he
   .exact ih d hd h0 e he wm ht
   .rw [he] at ht wm ⊢
    exact one d hd h0 wm ht
  .rw [hd] at ht h0 ⊢
   rcases he with he|he
   .exact (one e he wm h0 ht.symm).symm
   .rw [he]
theorem yZ {n:Nx}:∀{g:List Nx} {i:Nat},mg n g i=none->n∉g
 |[],i,_=>by simp
 |d::g,i,h=>by
  unfold mg at h
  split at h
  .cases h
  .rename_i hd
   simp only [cU,not_or]
   exact ⟨λe=>hd e.symm,yZ h⟩
theorem sG {n:Nx}:∀{g:List Nx} {i k:Nat},mg n g i=some k->i<=k/\g[k - i]? =some n
 |d::g,i,k,h=>by
  unfold mg at h
  split at h
  .rename_i hd
   cases h
   simp [hd]
  .have:=sG h
   refine ⟨by omega,?_⟩
   rw [show k - i=(k - (i+1))+1 by omega]
   simpa using this.2
set_option maxHeartbeats 1000000
abbrev Kd (k:Sl) (ks:List ik):En:=.jh 3 k (ks.flatMap pf)
theorem lhS {w:World} {k:Sl} {ks:List ik} (h:jO 3 w k (ks.flatMap pf)):LH F0 w w [] [Kd k ks]:=mu _ (by
 intro e he
 simp only [cU,qnM,or_false] at he
 subst he
 exact h)
theorem Vw {w:World} {k:Sl} {ks:List ik} {x y z:ik} (op:Int) (h:jO 3 w k (ks.flatMap pf)) (hx:ks[0]? =some x) (hy:2<=eK op->ks[1]? =some y) (hz:eK op=3->ks[2]? =some z) (h4:4<=op) (HW:op<=34):
  Calls Tryz.prog lq #[.i op,k.v] w λr w'=>r=.returned (.bool (iM op x y z))/\bI w w':=by
 refine enthymemeref07_fit.cV _ _ w _ (eX h (rfl:(0:Int)=((0:Nat):Int)) hx λp0 ZG c0=>⟨x.k,x.n,x.x,c0.c0,c0.c1,c0.c2,(lhS h).bJ λb5 w1 H1=>?_⟩)
 have main:∀(a:Bool) (w2:World),a=kZ x->LH F0 w w2 [.g b5] [Kd k ks]->enthymemeref07_fit.dV op k b5 x.k x.n x.x (x.k==0) (x.k==1) a w2 λr w'=>r=.returned (.bool (iM op x y z))/\bI w w':=by
  rintro a w2 ha H2
  have R2:∀{w3:World} {L:List En},LH F0 w w3 L [Kd k ks]->jO 3 w3 k (ks.flatMap pf):=λH=>H.getD 0
  have e1:(1:Int)=((1:Nat):Int):=rfl
  have e2:(2:Int)=((2:Nat):Int):=rfl
  rcases wE (by omega) HW with rfl|rfl|rfl|rfl|rfl|rfl|rfl|rfl|rfl|rfl|rfl|rfl|rfl|rfl|rfl|rfl|rfl|rfl|rfl|rfl|rfl|rfl|rfl|rfl|rfl|rfl|rfl|rfl|rfl|rfl|rfl|rfl|rfl|rfl|rfl
  iterate 4 omega
  all_goals repeat (first |refine aL rfl ?_|refine aQ rfl ?_)
  all_goals first |(have hy:=hy (by decide))|skip
  all_goals first |(have hz:=hz (by decide))|skip
  iterate 2 exact ⟨rfl,H2.fr⟩
  iterate 12
   .refine aH (λhk=>?_) (λhk=>H2.aK λw3 H3=>⟨?_,H3.fr⟩)
    .refine eX (R2 H2) e1 hy λp hp _=>H2.aK λw3 H3=>?_
     have c:=c9 (R2 H3) e1 hy hp
     refine ⟨_,_,_,c.c0,c.c1,c.c2,?_,H3.fr⟩
     rw [nH]
     show _=Ending.returned (.bool (x.k==0&&decide (x=y)))
     rw [hk];rfl
    .show _=Ending.returned (.bool (x.k==0&&decide (x=y)))
     rw [beq_eq_false_iff_ne.2 hk];rfl
  .refine eX (R2 H2) e1 hy λp hp _=>H2.aK λw3 H3=>?_
   have c:=c9 (R2 H3) e1 hy hp
   have fe:iM 18 x y z=(decide (x=y)||(x.k==1&&y.k==1)):=rfl
   rw [fe]
   refine ⟨_,_,_,c.c0,c.c1,c.c2,nG (λhe=>⟨by rw [decide_eq_true he];rfl,H3.fr⟩) (λhe=>?_)⟩
   rw [decide_eq_false he,Bool.false_or]
   refine aH (λhk=>eX (R2 H3) e1 hy λp' _ c'=>⟨_,c'.c0,?_,H3.fr⟩) (λhk=>⟨?_,H3.fr⟩)
   .rw [hk];rfl
   .rw [beq_eq_false_iff_ne.2 hk];rfl
  .refine H2.aK λw3 H3=>H3.aJ (nP 1 w3) ?_
   rintro _ w4 rfl H4
   have fe:iM 19 x y z=(decide (x=jJ 1)&&(decide (y=z)||(y.k==1&&z.k==1))):=rfl
   rw [fe]
   refine ⟨_,_,_,rfl,nG (b:=jJ 1) (λhe=>?_) (λhe=>⟨by rw [decide_eq_false he];rfl,H4.fr⟩)⟩
   rw [decide_eq_true he,Bool.true_and]
   refine eX (R2 H4) e1 hy λp _ c=>⟨_,_,_,c.c0,c.c1,c.c2,eX (R2 H4) e2 hz λq _ d=>⟨_,_,_,d.c0,d.c1,d.c2,nG (λh2=>⟨by rw [decide_eq_true h2];rfl,H4.fr⟩) (λh2=>?_)⟩⟩
   rw [decide_eq_false h2,Bool.false_or]
   refine eX (R2 H4) e1 hy λp' _ c'=>⟨_,c'.c0,aH (λhk=>eX (R2 H4) e2 hz λq' _ d'=>⟨_,d'.c0,?_,H4.fr⟩) (λhk=>⟨?_,H4.fr⟩)⟩
   .rw [hk];rfl
   .rw [beq_eq_false_iff_ne.2 hk];rfl
  .have fe:iM 20 x y z=(x.k==0&&y.k==0):=rfl
   rw [fe]
   refine aH (λhk=>eX (R2 H2) e1 hy λp _ c=>⟨_,c.c0,?_,H2.fr⟩) (λhk=>⟨?_,H2.fr⟩)
   .rw [hk];rfl
   .rw [beq_eq_false_iff_ne.2 hk];rfl
  iterate 3 exact ⟨rfl,H2.fr⟩
  .have fe:iM 24 x y z=(kZ x&&decide (y=jJ x.x)):=rfl
   rw [fe,<-ha]
   refine aZ (λht=>?_) (λhf=>H2.aK λw3 H3=>⟨by rw [hf];rfl,H3.fr⟩)
   refine eX (R2 H2) e1 hy λp hp _=>H2.aK λw3 H3=>?_
   have c:=c9 (R2 H3) e1 hy hp
   refine ⟨_,_,_,c.c0,c.c1,c.c2,H3.aJ (nP x.x w3) ?_⟩
   rintro _ w4 rfl H4
   have d:=c9 (R2 H4) e1 hy hp
   refine ⟨_,_,_,rfl,d.c0,d.c1,d.c2,?_,H4.fr⟩
   rw [ht,Bool.true_and]
   exact congrArg (λb=>Ending.returned (.bool b)) (nH y (jJ x.x))
  .have fe:iM 25 x y z=(kZ x&&decide (y=jJ x.x)&&(decide (z=ni x)||(x.k==3&&z.k==1&&decide (z.n<=x.n)))):=rfl
   rw [fe,<-ha]
   refine eQ (λhf=>H2.aK λw3 H3=>⟨by rw [hf];rfl,H3.fr⟩) (λht=>?_)
   rw [ht,Bool.true_and]
   refine eX (R2 H2) e1 hy λp hp _=>H2.aK λw3 H3=>?_
   have c:=c9 (R2 H3) e1 hy hp
   refine ⟨_,_,_,c.c0,c.c1,c.c2,H3.aJ (nP x.x w3) ?_⟩
   rintro _ w4 rfl H4
   have d:=c9 (R2 H4) e1 hy hp
   refine ⟨_,_,_,rfl,d.c0,d.c1,d.c2,vG (a:=y) (b:=jJ x.x) (λhM=>⟨by rw [decide_eq_false hM];rfl,H4.fr⟩) (λheq=>?_)⟩
   rw [decide_eq_true heq,Bool.true_and]
   refine eX (R2 H4) e2 hz λq hq _=>H4.aK λw5 H5=>?_
   have c5:=c9 (R2 H5) e2 hz hq
   refine ⟨_,_,_,c5.c0,c5.c1,c5.c2,H5.aJ (wJ x w5) ?_⟩
   rintro _ w6 rfl H6
   have d6:=c9 (R2 H6) e2 hz hq
   refine ⟨_,_,_,rfl,d6.c0,d6.c1,d6.c2,nG (a:=z) (b:=ni x) (λhe=>⟨by rw [decide_eq_true he];rfl,H6.fr⟩) (λhM=>?_)⟩
   rw [decide_eq_false hM,Bool.false_or]
   refine aH (λhk=>eX (R2 H6) e2 hz λq' _ d'=>⟨_,d'.c0,aH (λN3=>eX (R2 H6) e2 hz λq2 _ d2=>⟨_,d2.c1,?_,H6.fr⟩) (λN3=>⟨?_,H6.fr⟩)⟩) (λhk=>⟨?_,H6.fr⟩)
   .rw [hk,N3];rfl
   .rw [beq_eq_false_iff_ne.2 N3,Bool.and_false];rfl
   .rw [beq_eq_false_iff_ne.2 hk];rfl
  .have fe:iM 26 x y z=(kZ x&&decide (x=y)):=rfl
   rw [fe,<-ha]
   refine aZ (λht=>?_) (λhf=>H2.aK λw3 H3=>⟨by rw [hf];rfl,H3.fr⟩)
   refine eX (R2 H2) e1 hy λp hp _=>H2.aK λw3 H3=>?_
   have c:=c9 (R2 H3) e1 hy hp
   refine ⟨_,_,_,c.c0,c.c1,c.c2,?_,H3.fr⟩
   rw [nH,ht];rfl
  iterate 2 exact ⟨rfl,H2.fr⟩
  .have fe:iM 29 x y z=(x.k==1&&y.k==1):=rfl
   rw [fe]
   refine aH (λhk=>eX (R2 H2) e1 hy λp _ c=>⟨_,c.c0,?_,H2.fr⟩) (λhk=>⟨?_,H2.fr⟩)
   .rw [hk];rfl
   .rw [beq_eq_false_iff_ne.2 hk];rfl
  .have fe:iM 30 x y z=(x.k==1&&decide (y=jJ 7)&&decide (z=jJ 7)):=rfl
   rw [fe]
   refine aH (λhk=>?_) (λhk=>H2.aK λw3 H3=>⟨by rw [beq_eq_false_iff_ne.2 hk];rfl,H3.fr⟩)
   rw [hk]
   refine eX (R2 H2) e1 hy λp hp _=>H2.aK λw3 H3=>?_
   have c:=c9 (R2 H3) e1 hy hp
   refine ⟨_,_,_,c.c0,c.c1,c.c2,H3.aJ (nP 7 w3) ?_⟩
   rintro _ w4 rfl H4
   have d:=c9 (R2 H4) e1 hy hp
   refine ⟨_,_,_,rfl,d.c0,d.c1,d.c2,nG (a:=y) (b:=jJ 7) (λhe=>?_) (λhM=>⟨by rw [decide_eq_false hM];rfl,H4.fr⟩)⟩
   rw [decide_eq_true he]
   refine eX (R2 H4) e2 hz λq hq c4=>⟨_,_,_,c4.c0,c4.c1,c4.c2,H4.aJ (nP 7 w4) ?_⟩
   rintro _ w5 rfl H5
   have d5:=c9 (R2 H5) e2 hz hq
   exact ⟨_,_,_,rfl,d5.c0,d5.c1,d5.c2,congrArg (λb=>Ending.returned (.bool b)) (nH z (jJ 7)),H5.fr⟩
  .have fe:iM 31 x y z=(x.k==1&&y.k==1):=rfl
   rw [fe]
   refine aH (λhk=>eX (R2 H2) e1 hy λp _ c=>⟨_,c.c0,?_,H2.fr⟩) (λhk=>⟨?_,H2.fr⟩)
   .rw [hk];rfl
   .rw [beq_eq_false_iff_ne.2 hk];rfl
  .have fe:iM 32 x y z=(x.k==1&&y.k==1&&z.k==1):=rfl
   rw [fe]
   refine aH (λhk=>eX (R2 H2) e1 hy λp _ c=>⟨_,c.c0,aH (λTR=>eX (R2 H2) e2 hz λq _ d=>⟨_,d.c0,?_,H2.fr⟩) (λTR=>⟨?_,H2.fr⟩)⟩) (λhk=>⟨?_,H2.fr⟩)
   .rw [hk,TR];rfl
   .rw [beq_eq_false_iff_ne.2 TR,Bool.and_false];rfl
   .rw [beq_eq_false_iff_ne.2 hk];rfl
  .exact ⟨rfl,H2.fr⟩
  .refine H2.aK λw3 H3=>H3.aJ (nP 8 w3) ?_
   rintro _ w4 rfl H4
   exact ⟨_,_,_,rfl,congrArg (λb=>Ending.returned (.bool b)) (nH x (jJ 8)),H4.fr⟩
 refine aH (λhk=>H1.aK λw2 H2=>main true w2 ?_ H2) (λhk=>H1.aK λw2 H2=>main _ w2 ?_ H2)
 .unfold kZ;rw [hk];rfl
 .unfold kZ;rw [beq_eq_false_iff_ne.2 hk];rfl
def SH (n:Nx) (x y z:ik):Ending->Prop:=λr=>∃(t:ik) (b:Bool),r=.returned (.tuple #[kj t,.bool b])/\b=uo n x y z/\(b=true->t=qO n x y z)
theorem Lo {w:World} {k:Sl} {ks:List ik} {x y z:ik} (d:Nd) (h:jO 3 w k (ks.flatMap pf)) (hx:ks[0]? =some x) (hy:2<=eK d.x.op->ks[1]? =some y) (hz:eK d.x.op=3->ks[2]? =some z) (h4:4<=d.x.op) (HW:d.x.op<=34)
  (vx:bO x=true) (vy:2<=eK d.x.op->bO y=true) (vz:eK d.x.op=3->bO z=true) (hn:ow d.x.n) (hm:ow d.x.m):
  Calls Tryz.prog jC #[d.v,k.v] w λr w'=>SH d.x x y z r/\bI w w':=by
 obtain ⟨x1,x2,x3,x4,_⟩:=mD vx
 obtain ⟨CV,XJ⟩:=hn
 obtain ⟨Rn,U2⟩:=hm
 refine enthymemeref07_result.cV _ _ _ _ _ _ _ _ _ _ w _ ((lhS h).bJ λb2 w1 H1=>H1.bJ λb4 w2 H2=>eX (H2.getD 0) (rfl:(0:Int)=((0:Nat):Int)) hx λp0 ZG c0=>⟨x.k,x.n,x.x,c0.c0,c0.c1,c0.c2,H2.bJ λb6 w3 H3=>?_⟩)
 have R2:∀{w3:World} {L:List En},LH F0 w w3 L [Kd k ks]->jO 3 w3 k (ks.flatMap pf):=λH=>H.getD 0
 have e1:(1:Int)=((1:Nat):Int):=rfl
 have e2:(2:Int)=((2:Nat):Int):=rfl
 obtain ⟨⟨op,kids,n,m,u,tx,st⟩,Pg⟩:=d
 simp only at hy hz h4 HW vy vz CV XJ Rn U2
 have S1:∀w4:World,op≠16->op≠17->op≠18->op≠33->LH F0 w w4 [.g b2,.g b4,.g b6] [Kd k ks]->enthymemeref07_result.fY k b2 op Pg n m u tx st.k st.n st.x b4 0 0 0 b6 x.k x.n x.x op w4 λr w'=>SH ⟨op,kids,n,m,u,tx,st⟩ x y z r/\bI w w':=by
  intro w4 n1 n2 n3 n4 H4
  rcases wE (by omega) HW with rfl|rfl|rfl|rfl|rfl|rfl|rfl|rfl|rfl|rfl|rfl|rfl|rfl|rfl|rfl|rfl|rfl|rfl|rfl|rfl|rfl|rfl|rfl|rfl|rfl|rfl|rfl|rfl|rfl|rfl|rfl|rfl|rfl|rfl|rfl
  iterate 4 omega
  all_goals repeat (first |refine aL rfl ?_|refine aQ rfl ?_)
  all_goals first |(have hy:=hy (by decide))|skip
  all_goals first |(have hz:=hz (by decide))|skip
  all_goals first |(have vy:=mD (vy (by decide)))|skip
  all_goals first |(have vz:=mD (vz (by decide)))|skip
  iterate 12 exact H4.aK λw5 H5=>⟨⟨x,true,rfl,rfl,λ_=>rfl⟩,H5.fr⟩
  iterate 3 omega
  .refine eX (R2 H4) e1 hy λp hp c=>⟨_,c.c0,aH (λhk=>?_) (λhk=>?_)⟩
   .refine eX (R2 H4) e1 hy λp hp _=>H4.aK λw5 H5=>?_
    have c5:=c9 (R2 H5) e1 hy hp
    refine ⟨_,c5.c1,eX (R2 H5) e2 hz λq hq c6=>⟨_,c6.c1,H5.aJ (lG _ w5) ?_⟩⟩
    rintro _ w6 rfl H6
    refine ⟨_,_,_,rfl,H6.aK λw7 H7=>⟨⟨_,true,rfl,rfl,λ_=>?_⟩,H7.fr⟩⟩
    show _=if y.k=1 then _ else _
    rw [if_pos hk]
   .refine eX (R2 H4) e1 hy λp hp c'=>⟨_,_,_,c'.c0,c'.c1,c'.c2,H4.aK λw5 H5=>⟨⟨y,true,rfl,rfl,λ_=>?_⟩,H5.fr⟩⟩
    show _=if y.k=1 then _ else _
    rw [if_neg hk]
  .refine eX (R2 H4) e1 hy λp hp _=>H4.aK λw5 H5=>?_
   have c5:=c9 (R2 H5) e1 hy hp
   refine ⟨_,c5.c1,eX (R2 H5) e1 hy λq hq _=>?_⟩
   have c6:=c9 (R2 H5) e1 hy hq
   refine ⟨_,c6.c1,H5.aJ (nP _ w5) ?_⟩
   rintro _ w6 rfl H6
   refine ⟨_,_,_,rfl,(c9 (R2 H6) e1 hy hq).c1,H6.aK λw7 H7=>⟨(c9 (R2 H7) e1 hy hq).c1,⟨_,_,rfl,?_,λ_=>?_⟩,H7.fr⟩⟩
   .rw [IntWalk.i64_in _ (by omega)];rfl
   .show jJ _=jJ (x.n+y.n)
    rw [IntWalk.i64_in _ (by omega)]
  .refine H4.aK λw5 H5=>H5.aJ (nP _ w5) ?_
   rintro _ w6 rfl H6
   have hr:uo ⟨21,kids,n,m,u,tx,st⟩ x y z=(decide (0<=m)&&decide (m<=n)&&decide (n<x.n)):=rfl
   refine ⟨_,_,_,rfl,aM (λg1=>aM (λg2=>H6.aK λw7 H7=>⟨⟨_,_,rfl,?_,λg3=>?_⟩,H7.fr⟩) (λg2=>H6.aK λw7 H7=>⟨⟨_,false,rfl,?_,λg3=>by cases g3⟩,H7.fr⟩)) (λg1=>H6.aK λw7 H7=>⟨⟨_,false,rfl,?_,λg3=>by cases g3⟩,H7.fr⟩)⟩
   .rw [hr,decide_eq_true (show 0<=m from g1),decide_eq_true g2];rfl
   .have g3:=of_decide_eq_true g3
    show jJ _=jJ (n - m+1)
    rw [IntWalk.i64_in (n - m) (by omega),IntWalk.i64_in _ (by omega)]
   .rw [hr,decide_eq_false g2,Bool.and_false];rfl
   .rw [hr,decide_eq_false (show ¬0<=m from g1)];rfl
  iterate 2
   .refine H4.aK λw5 H5=>H5.aJ (nP _ w5) ?_
    rintro _ w6 rfl H6
    have Xz:IntKind.wrap .i64 (64 - x.n)=64 - x.n:=IntWalk.i64_in _ (by omega)
    rw [Xz]
    refine ⟨_,_,_,rfl,aM (λg1=>H6.aK λw7 H7=>⟨⟨_,_,rfl,?_,λg3=>?_⟩,H7.fr⟩) (λg1=>H6.aK λw7 H7=>⟨⟨_,false,rfl,?_,λg3=>by cases g3⟩,H7.fr⟩)⟩
    .show _=(decide (1<=n)&&decide (n<=64 - x.n))
     rw [decide_eq_true (show 1<=n from g1)];rfl
    .have g3:=of_decide_eq_true g3
     show jJ _=jJ (x.n+n)
     rw [IntWalk.i64_in _ (by omega)]
    .show _=(decide (1<=n)&&decide (n<=64 - x.n))
     rw [decide_eq_false (show ¬1<=n from g1)];rfl
  .refine H4.aJ (wJ x w4) ?_
   rintro _ w5 rfl H5
   exact ⟨_,_,_,rfl,H5.aK λw6 H6=>⟨⟨_,true,rfl,rfl,λ_=>rfl⟩,H6.fr⟩⟩
  .exact H4.aK λw5 H5=>⟨⟨x,true,rfl,rfl,λ_=>rfl⟩,H5.fr⟩
  .refine H4.aJ (nP _ w4) ?_
   rintro _ w5 rfl H5
   exact ⟨_,_,_,rfl,H5.aK λw6 H6=>⟨⟨_,true,rfl,rfl,λ_=>rfl⟩,H6.fr⟩⟩
  .refine H4.aJ (nP _ w4) ?_
   rintro _ w5 rfl H5
   exact ⟨_,_,_,rfl,H5.aK λw6 H6=>⟨⟨_,true,rfl,rfl,λ_=>rfl⟩,H6.fr⟩⟩
  .refine H4.aK λw5 H5=>H5.aJ (nP _ w5) ?_
   rintro _ w6 rfl H6
   refine ⟨_,_,_,rfl,aM (λg1=>H6.aK λw7 H7=>⟨⟨_,_,rfl,?_,λg3=>rfl⟩,H7.fr⟩) (λg1=>H6.aK λw7 H7=>⟨⟨_,false,rfl,?_,λg3=>by cases g3⟩,H7.fr⟩)⟩
   .show _=(decide (0<=n)&&decide (n<=63))
    rw [decide_eq_true (show 0<=n from g1)];rfl
   .show _=(decide (0<=n)&&decide (n<=63))
    rw [decide_eq_false (show ¬0<=n from g1)];rfl
  .refine eX (R2 H4) e1 hy λp hp _=>H4.aK λw5 H5=>?_
   have c5:=c9 (R2 H5) e1 hy hp
   refine ⟨_,c5.c1,eX (R2 H5) e1 hy λq hq _=>?_⟩
   have c6:=c9 (R2 H5) e1 hy hq
   refine ⟨_,c6.c1,H5.aJ (lG _ w5) ?_⟩
   rintro _ w6 rfl H6
   refine ⟨_,_,_,rfl,(c9 (R2 H6) e1 hy hq).c1,H6.aK λw7 H7=>⟨(c9 (R2 H7) e1 hy hq).c1,⟨_,_,rfl,?_,λ_=>?_⟩,H7.fr⟩⟩
   .rw [IntWalk.i64_in _ (by omega)];rfl
   .show mZ _=mZ (x.n+y.n)
    rw [IntWalk.i64_in _ (by omega)]
  .exact H4.aK λw5 H5=>⟨⟨x,true,rfl,rfl,λ_=>rfl⟩,H5.fr⟩
  .refine H4.aJ (nP _ w4) ?_
   rintro _ w5 rfl H5
   exact ⟨_,_,_,rfl,H5.aK λw6 H6=>⟨⟨_,true,rfl,rfl,λ_=>rfl⟩,H6.fr⟩⟩
  .refine eX (R2 H4) e2 hz λp hp _=>H4.aK λw5 H5=>?_
   have c5:=c9 (R2 H5) e2 hz hp
   refine ⟨_,c5.c1,eX (R2 H5) e2 hz λq hq _=>?_⟩
   have c6:=c9 (R2 H5) e2 hz hq
   refine ⟨_,c6.c1,H5.aJ (lG _ w5) ?_⟩
   rintro _ w6 rfl H6
   refine ⟨_,_,_,rfl,(c9 (R2 H6) e2 hz hq).c1,H6.aK λw7 H7=>⟨(c9 (R2 H7) e2 hz hq).c1,⟨_,_,rfl,?_,λ_=>?_⟩,H7.fr⟩⟩
   .rw [IntWalk.i64_in _ (by omega)];rfl
   .show mZ _=mZ (x.n+z.n)
    rw [IntWalk.i64_in _ (by omega)]
  .omega
  .refine H4.aJ (lG _ w4) ?_
   rintro _ w5 rfl H5
   exact ⟨_,_,_,rfl,H5.aK λw6 H6=>⟨⟨_,true,rfl,rfl,λ_=>rfl⟩,H6.fr⟩⟩
 have S0:∀w4:World,(op=16\/op=17\/op=18\/op=33)->LH F0 w w4 [.g b2,.g b4,.g b6] [Kd k ks]->enthymemeref07_result.dV b4 0 0 0 w4 λr w'=>SH ⟨op,kids,n,m,u,tx,st⟩ x y z r/\bI w w':=by
  intro w4 ho H4
  refine H4.aJ (nP 1 w4) ?_
  rintro _ w5 rfl H5
  refine ⟨_,_,_,rfl,H5.aK λw6 H6=>⟨⟨_,true,rfl,?_,λ_=>?_⟩,H6.fr⟩⟩
  .rcases ho with rfl|rfl|rfl|rfl<;>rfl
  .rcases ho with rfl|rfl|rfl|rfl<;>rfl
 exact aH (λh=>aQ (beq_iff_eq.2 h) (H3.aK λw4 H4=>S0 w4 (.inl h) H4)) λh1=>aH (λh=>aQ (beq_iff_eq.2 h) (H3.aK λw4 H4=>S0 w4 (.inr (.inl h)) H4)) λh2=>aH (λh=>aQ (beq_iff_eq.2 h) (H3.aK λw4 H4=>S0 w4 (.inr (.inr (.inl h))) H4)) λh3=>aH (λh=>H3.aK λw4 H4=>S0 w4 (.inr (.inr (.inr h))) H4) λh4'=>H3.aK λw4 H4=>S1 w4 h1 h2 h3 h4' H4
theorem To:iJ Tryz.prog nJ aR (.agg #[.int .i64 0,.int .i64 0,.int .i64 0]) 3 24:=⟨by kernel_rfl,by kernel_rfl,rfl,by decide,by decide⟩
def KZ (t:ByteArray):Prop:=t.size<=100000/\∃b,BZ (bl t)=some b
theorem KZ.can {t:ByteArray} (h:KZ t):BZ (bl t)=some (Ah t):=by
 obtain ⟨b,hb⟩:=h.2
 unfold Ah
 rw [hb]
 cases b<;>rfl
structure UQ (d:Nx):Prop where
 kl:d.kids.length<=kC
 n:ow d.n
 m:ow d.m
 tx:d.op=33->KZ d.tx
structure Xt (g:List Nx):Prop where
 len:g.length<=kC
 val:∀d∈g,bO d.st=true
 vars:tP g
theorem TV {l:List Nd} {n:Nx} {i:Nat} {k:Int} {e:Nd} (hk:n.kids[i]? =some k) (he:l[k.toNat]? =some e):kn (xs l) n i=e.x.st:=by
 unfold kn
 rw [hk]
 dsimp only
 rw [s5 he]
theorem GS (i:Nat) (f:Nat->ik):((List.range (i+1)).map f).flatMap pf=((List.range i).map f).flatMap pf++pf (f i):=by
 rw [List.range_succ];simp
theorem MD {op:Int} {m:Nat} (h:eK op=(m:Int)) (h0:m≠0):4<=op/\op<=34:=by
 unfold eK at h
 split at h
 .omega
 .split at h
  .omega
  .omega
theorem JS {op:Int} (h:eK op=0):0<=op/\op<=3:=by
 unfold eK at h
 split at h
 .omega
 .split at h
  .omega
  .split at h
   .omega
   .split at h<;>omega
theorem L5 {g:List Nx} {n:Nx} (h:Al g n=0):(eK n.op==(n.kids.length:Int)&&n.kids.all (ic g)&&okF n)=true:=by
 unfold Al at h
 split at h
 .assumption
 .omega
theorem JU {g:List Nx} {n:Nx} (hv:∀d∈g,bO d.st=true) (hk:n.kids.all (ic g)=true) {i:Nat} (hi:i<n.kids.length):bO (kn g n i)=true:=by
 have h1:=qaT.1 hk _ (qgEM hi)
 unfold ic at h1
 simp only [Bool.and_eq_true,decide_eq_true_eq] at h1
 unfold kn
 rw [gW hi]
 dsimp only
 have h2:(n.kids[i]).toNat<g.length:=by omega
 rw [gW h2]
 exact hv _ (qgEM h2)
theorem Dl {w:World} {s:Sl} {l:List Nd} {d:Nd} (h:GP w s l) (hd:d.P w) (hg:Xt (xs l)) (ho:UQ d.x):
  Calls Tryz.prog gS #[s.v,d.v] w λr w'=>r=ky (eI (xs l) d.x)/\bI w w':=by
 have hn:=mX h
 have nR:(xs l).length=l.length:=by simp [xs]
 have Wa:d.ks.n=d.x.kids.length:=fB.len hd
 have hl:=hg.len
 have hk:=ho.kl
 rw [nR] at hl
 refine enthymemeref07_SortOf.cV _ _ _ _ _ _ _ _ _ _ w _ ((WB h hd).bJ λb3 w1 H1=>H1.bJ λb4 w2 H2=>H2.aJ (Li (cH.1 (H2.getD 0)) (H2.getD 1) hk) ?_)
 rintro _ w3 rfl H3
 refine ⟨_,rfl,eB (λhM=>H3.aK λw4 H4=>⟨?_,H4.fr⟩) (λh0=>?_)⟩
 .unfold eI
  unfold Al at hM ⊢
  split
  .rename_i hc
   rw [if_pos hc] at hM
   exact absurd rfl hM
  .rename_i hc
   rw [Bool.not_eq_true] at hc
   rw [hc];rfl
 have hf:=L5 h0
 have hf1:eK d.x.op=(d.x.kids.length:Int):=by
  simp only [Bool.and_eq_true] at hf
  exact eq_of_beq hf.1.1
 have XG:d.x.kids.all (ic (xs l))=true:=by
  simp only [Bool.and_eq_true] at hf
  exact hf.1.2
 have Rs:eI (xs l) d.x=if d.x.op<=3 then cX (xs l) d.x else
   if iM d.x.op (kn (xs l) d.x 0) (kn (xs l) d.x 1) (kn (xs l) d.x 2)=false then (oy,9) else
   if uo d.x (kn (xs l) d.x 0) (kn (xs l) d.x 1) (kn (xs l) d.x 2)=false then (oy,5) else
   if d.x.op=33/\Ah d.x.tx=false then (oy,2) else (qO d.x (kn (xs l) d.x 0) (kn (xs l) d.x 1) (kn (xs l) d.x 2),0):=by
  unfold eI;rw [hf];rfl
 refine aH (λz9=>?_) (λz9=>?_)
 .have hz:=JS (op:=d.x.op) (by omega)
  refine H3.aJ (Tb (cH.1 (H3.getD 0)) (H3.getD 1) hl hz.1 hz.2 hg.vars) ?_
  rintro _ w4 rfl H4
  refine ⟨_,_,_,_,rfl,H4.aK λw5 H5=>⟨?_,H5.fr⟩⟩
  rw [Rs,if_pos hz.2]
 have h4:=MD (op:=d.x.op) hf1 (by omega)
 rw [if_neg (by omega)] at Rs
 unfold kC at hk hl
 have loop:∀(m i:Nat) (k7:Sl) (w4:World),i+m=d.x.kids.length->LH F0 w w4 [.g b3,.g b4,.row aR 3 k7 (((List.range i).map (kn (xs l) d.x)).flatMap pf)] (rG s l d)->
   enthymemeref07_SortOf.eH s b3 d.x.op d.ks d.x.n d.x.m d.x.u d.x.tx d.x.st.k d.x.st.n d.x.st.x b4 0 0 0 k7 (i:Int) w4 λr w'=>r=ky (eI (xs l) d.x)/\bI w w':=by
  intro m
  induction m with
  |zero=>
   intro i k7 w4 hi H4
   have hi:i=d.x.kids.length:=by omega
   subst hi
   have R4:jO 3 w4 k7 (((List.range d.x.kids.length).map (kn (xs l) d.x)).flatMap pf):=(H4.get 2:aP _ _ _ _ _).jh
   have sF:∀j,j<d.x.kids.length->((List.range d.x.kids.length).map (kn (xs l) d.x))[j]? =some (kn (xs l) d.x j):=λj hj=>by
    rw [List.getElem?_map,List.getElem?_range hj];rfl
   have Wo:∀j,j<d.x.kids.length->bO (kn (xs l) d.x j)=true:=λj hj=>JU hg.val XG hj
   refine enthymemeref07_SortOf.bA _ _ _ _ _ _ _ _ _ _ _ _ _ _ _ _ _ _ _ (aL (decide_eq_false (by omega)) (H4.aJ (Vw d.x.op R4 (sF 0 (by omega)) (λh2=>sF 1 (by omega)) (λh3=>sF 2 (by omega)) h4.1 h4.2) ?_))
   rintro _ w5 rfl H5
   refine ⟨_,rfl,eQ (λrh=>H5.aK λw6 H6=>⟨by rw [Rs,if_pos rh];rfl,H6.fr⟩) (λrh=>?_)⟩
   rw [if_neg (by rw [rh];simp)] at Rs
   have R5:jO 3 w5 k7 (((List.range d.x.kids.length).map (kn (xs l) d.x)).flatMap pf):=(H5.get 2:aP _ _ _ _ _).jh
   refine H5.aJ (Lo d R5 (sF 0 (by omega)) (λh2=>sF 1 (by omega)) (λh3=>sF 2 (by omega)) h4.1 h4.2 (Wo 0 (by omega)) (λh2=>Wo 1 (by omega)) (λh3=>Wo 2 (by omega)) ho.n ho.m) ?_
   rintro _ w6 ⟨t,b,rfl,hb,ht⟩ H6
   refine ⟨_,_,_,_,rfl,H6.bJ λpo w7 H7=>eQ (λhbf=>H7.aK λw8 H8=>⟨?_,H8.fr⟩) (λyV=>?_)⟩
   .rw [Rs,if_pos (by rw [<-hb,hbf])];rfl
   rw [if_neg (by rw [<-hb,yV];simp)] at Rs
   have ht:=ht yV
   have S1:∀(c:Bool) (w8:World) (L:List En),(d.x.op=33/\Ah d.x.tx=false↔c=false)->En.g b4∈L->En.g po∈L->LH F0 w w8 L (rG s l d)->enthymemeref07_SortOf.fY b4 0 0 0 po t.k t.n t.x c w8 λr w'=>r=ky (eI (xs l) d.x)/\bI w w':=by
    intro c w8 L hc m4 m10 H8
    have jf:∀b∈[b4,po],En.g b∈L:=by
     intro b hb
     simp only [cU,qnM,or_false] at hb
     rcases hb with rfl|rfl
     .exact m4
     .exact m10
    refine eQ (λhcf=>H8.aK (λw9 H9=>⟨?_,H9.fr⟩) jf) (λhct=>H8.aK (λw9 H9=>⟨?_,H9.fr⟩) jf)
    .rw [Rs,if_pos (hc.2 hcf)];rfl
    .rw [Rs,if_neg (λh=>by rw [hct] at hc;cases hc.1 h),ht]
   refine eB (λnZ=>H7.aK λw8 H8=>S1 true w8 _ ⟨λh=>absurd h.1 nZ,λh=>by cases h⟩ (by simp) (by simp) H8) (λnZ=>H7.aK λw8 H8=>?_)
   have JN:=ho.tx nZ
   refine H8.aJ (Dj d.x.tx JN.1 _ JN.can w8) ?_
   rintro _ w9 rfl H9
   exact ⟨_,rfl,S1 _ w9 _ ⟨λh=>h.2,λh=>⟨nZ,h⟩⟩ (by simp) (by simp) H9⟩
  |succ m ih=>
   intro i k7 w4 hi H4
   have Cb:d.x.kids[i]? =some (d.x.kids[i]'(by omega)):=gW (by omega)
   have vf:=qaT.1 XG _ (cZ Cb)
   generalize d.x.kids[i]'(by omega)=kx at Cb vf
   unfold ic at vf
   simp only [Bool.and_eq_true,decide_eq_true_eq] at vf
   have Ao:l[kx.toNat]? =some (l[kx.toNat]'(by omega)):=gW (by omega)
   generalize l[kx.toNat]'(by omega)=e at Ao
   have CV:fB w4 d.ks d.x.kids:=H4.getD 1
   have jN:=Nd.cC (show jO 9 w4 s (l.flatMap Nd.c) from (cH.1 (H4.getD 0)).1)
   refine enthymemeref07_SortOf.bA _ _ _ _ _ _ _ _ _ _ _ _ _ _ _ _ _ _ _ (aQ (decide_eq_true (by omega)) ⟨by omega,by omega,CV.cell Cb (by omega) λp hp hc=>⟨kx,hc,kO (cH.1 (H4.getD 0)) (i:=kx.toNat) (by omega) Ao λq hq c=>⟨_,_,_,c.s0,c.s1,c.s2,?_⟩⟩⟩)
   have hlen:k7.n=i:=by
    have:=(H4.get 2:aP _ _ _ _ _).len
    rw [ET] at this
    simp at this
    omega
   refine H4.tR 2 To rfl (λs' w5 H5=>?_) (by omega)
   rw [aY _ (by omega)]
   refine ih (i+1) s' w5 (by omega) ?_
   rw [GS,TV Cb Ao]
   exact H5
 exact loop d.x.kids.length 0 ⟨none,0,0⟩ w3 (by omega) (H3.oJ aR 3)
theorem nh:iJ Tryz.prog bB aG (.agg #[.int .i64 0,.slice none 0 0,.int .i64 0,.int .i64 0,.int .u64 0,.string (ByteArray.mk #[]),.int .i64 0,.int .i64 0,.int .i64 0]) 9 96:=⟨by kernel_rfl,by kernel_rfl,rfl,by decide,by decide⟩
theorem sL {l:List Nd}:∀u∈l.flatMap Nd.c,u.oneCell'=true:=by
 intro u hu
 obtain ⟨d,_,hu⟩:=List.mem_flatMap.1 hu
 simp only [Nd.c,cU,qnM,or_false] at hu
 rcases hu with rfl|rfl|rfl|rfl|rfl|rfl|rfl|rfl|rfl<;>rfl
theorem xW {w:World} {b n sz:Nat} {cs:List Value} {T:TypeId} (h:w.heap[b]? =some (.cells cs.toArray T (0,0))) (hn:cs.length=n *sz):jO sz w ⟨some (bF b),n,n⟩ cs:=
 ⟨hn,Nat.le_refl _,⟨λh=>(by cases h),λi v hi=>⟨bF b,rfl,cellAt (p:=bF b) h rfl (by simpa using hi)⟩⟩⟩
theorem Le {w:World} {a b:Nd} (ha:a.P w) (hb:b.P w) (hl:a.x.kids.length<=kC):Calls Tryz.prog iB #[a.v,b.v] w λr w'=>r=.returned (.bool (decide (a.x=b.x)))/\bI w w':=by
 have H:LH F0 w w [] [gv a,gv b]:=mu _ (by
  intro e he
  simp only [cU,qnM,or_false] at he
  rcases he with rfl|rfl
  .exact ha
  .exact hb)
 obtain ⟨⟨op,ks,n,m,u,tx,st⟩,sl⟩:=a
 obtain ⟨⟨T7,U7,n',m',u',UA,dL⟩,xB⟩:=b
 have no:∀{w1:World} {L:List En},LH F0 w w1 L [gv ⟨⟨op,ks,n,m,u,tx,st⟩,sl⟩,gv ⟨⟨T7,U7,n',m',u',UA,dL⟩,xB⟩]->(⟨op,ks,n,m,u,tx,st⟩:Nx)≠⟨T7,U7,n',m',u',UA,dL⟩->(Ending.returned (.bool false)=.returned (.bool (decide ((⟨op,ks,n,m,u,tx,st⟩:Nx)=⟨T7,U7,n',m',u',UA,dL⟩)))/\bI w w1):=λH1 h=>⟨by rw [decide_eq_false h],H1.fr⟩
 refine enthymemeref07_Same.cV _ _ _ _ _ _ _ _ _ _ _ _ _ _ _ _ _ _ w _ (H.bJ λb2 w1 H1=>H1.bJ λb3 w2 H2=>?_)
 refine aH (λh1=>?_) (λh1=>no H2 (λh=>h1 (congrArg Nx.op h)))
 refine aH (λh2=>?_) (λh2=>no H2 (λh=>h2 (congrArg Nx.n h)))
 refine aH (λh3=>?_) (λh3=>no H2 (λh=>h3 (congrArg Nx.m h)))
 refine aH (λh4=>?_) (λh4=>no H2 (λh=>h4 (congrArg Nx.u h)))
 refine G6 (λh5=>?_) (λh5=>no H2 (λh=>h5 (congrArg Nx.tx h)))
 refine nG (a:=st) (b:=dL) (λh6=>?_) (λh6=>no H2 (λh=>h6 (congrArg Nx.st h)))
 refine H2.aJ (J9 (H2.getD 0) (H2.getD 1) (by unfold kC at hl;simp only at hl ⊢;omega)) ?_
 rintro _ w3 rfl H3
 refine ⟨_,rfl,?_,H3.fr⟩
 simp only at h1 h2 h3 h4 h5
 subst h1 h2 h3 h4 h5 h6
 simp
theorem y8 {g:List Nx} {n:Nx} {s:ik} (h:eI g n=(s,0)):eI g (ie n s)=(s,0):=by
 unfold eI at h
 unfold eI
 have e1:(eK (ie n s).op==((ie n s).kids.length:Int)&&(ie n s).kids.all (ic g)&&okF (ie n s))=(eK n.op==(n.kids.length:Int)&&n.kids.all (ic g)&&okF n):=rfl
 rw [e1]
 split at h
 .simp at h
 .rename_i hc
  rw [if_neg hc]
  have e2:(ie n s).op=n.op:=rfl
  rw [e2]
  split at h
  .rename_i h3
   rw [if_pos h3]
   unfold cX at h
   by_cases h2:n.op=2
   .rw [if_pos h2] at h
    unfold cX
    rw [e2,if_pos h2]
    exact h
   .rw [if_neg h2] at h
    have hs:s=n.st:=by
     split at h
     .simp at h
     .split at h
      .simp at h
      .split at h
       .simp at h
       .split at h
        .simp at h
        .split at h
         .simp at h
         .exact (congrArg Prod.fst h).symm
    have:ie n s=n:=by rw [hs];rfl
    rw [this]
    unfold cX
    rw [if_neg h2]
    exact h
  .rename_i h3
   rw [if_neg h3]
   exact h
def ri (g:List Nx) (n:Nx):Option Nat:=mg (if (eI g n).2=0 then ie n (eI g n).1 else n) g 0
def PF:Option Nat->Int
 |some i=>(i:Int)
 |none=>-1
theorem Oo {w:World} {s:Sl} {l:List Nd} {d:Nd} (h:GP w s l) (hd:d.P w) (hg:Xt (xs l)) (ho:UQ d.x) (Cb:∀e∈l,e.x.kids.length<=kC):
  Calls Tryz.prog jZ #[s.v,d.v] w λr w'=>r=.returned (.i (PF (ri (xs l) d.x)))/\bI w w':=by
 have hn:=mX h
 have nR:(xs l).length=l.length:=by simp [xs]
 have hl:=hg.len
 rw [nR] at hl
 unfold kC at hl
 have loop:∀(m i:Nat) (b3:Nat) (w4:World) (e:Nd) (L:List En),e.ks=d.ks->e.x.kids=d.x.kids->i+m=l.length->mg e.x ((xs l).drop i) i=ri (xs l) d.x->En.g b3∈L->LH F0 w w4 L (rG s l d)->
   enthymemeref07_Index.l4 s b3 e.x.op e.ks e.x.n e.x.m e.x.u e.x.tx e.x.st.k e.x.st.n e.x.st.x (i:Int) w4 λr w'=>r=.returned (.i (PF (ri (xs l) d.x)))/\bI w w':=by
  intro m
  induction m with
  |zero=>
   intro i b3 w4 e L Zj hex hi he hb H4
   rw [qdO (by omega)] at he
   exact enthymemeref07_Index.dJ _ _ _ _ _ _ _ _ _ _ _ _ _ _ (aL (decide_eq_false (by omega)) ⟨by rw [<-he];rfl,H4.fr⟩)
  |succ m ih=>
   intro i b3 w4 e L Zj hex hi he hb H4
   have TG:l[i]? =some (l[i]'(by omega)):=gW (by omega)
   have hx:(xs l).drop i=(l[i]'(by omega)).x::(xs l).drop (i+1):=by
    rw [qdG (by omega:i<(xs l).length)]
    simp [xs]
   rw [hx] at he
   generalize l[i]'(by omega)=a at TG he
   have jf:∀b∈[b3],En.g b∈L:=by simpa using hb
   refine enthymemeref07_Index.dJ _ _ _ _ _ _ _ _ _ _ _ _ _ _ (aQ (decide_eq_true (by omega)) (kO (cH.1 (H4.getD 0)) rfl TG λp hp _=>H4.aK (λw5 H5=>?_) jf))
   have G5:GP w5 s l:=cH.1 (H5.getD 0)
   have c:=sD G5 TG hp (rfl:((i:Int))=(i:Int))
   have pe:e.P w5:=by
    show fB w5 e.ks e.x.kids
    rw [Zj,hex]
    exact H5.getD 1
   refine ⟨_,_,_,_,_,_,_,_,_,c.c0,c.c1,c.c2,c.c3,c.c4,c.c5,c.c6,c.c7,c.c8,H5.aJ (Le (a:=a) (b:=e) (G5.2 a (cZ TG)) pe (Cb a (cZ TG))) ?_⟩
   rintro _ w6 rfl H6
   have jc:(if a.x=e.x then some i else mg e.x ((xs l).drop (i+1)) (i+1))=ri (xs l) d.x:=he
   refine ⟨_,rfl,aM (λhs=>⟨?_,H6.fr⟩) (λhs=>?_)⟩
   .rw [if_pos hs] at jc
    rw [<-jc];rfl
   .rw [if_neg hs] at jc
    rw [aY _ (by omega)]
    exact ih (i+1) b3 w6 e L Zj hex (by omega) jc hb H6
 refine enthymemeref07_Index.cV _ _ _ _ _ _ _ _ _ _ w _ ((WB h hd).bJ λb3 w1 H1=>H1.aJ (Dl (cH.1 (H1.getD 0)) (H1.getD 1) hg ho) ?_)
 rintro _ w2 rfl H2
 refine ⟨_,_,_,_,rfl,H2.bJ λb5 w3 H3=>aH (λh0=>H3.aK λw4 H4=>?_) (λh0=>H3.aK λw4 H4=>?_)⟩
 .exact loop l.length 0 b3 w4 ⟨ie d.x (eI (xs l) d.x).1,d.ks⟩ _ rfl rfl (by omega) (by unfold ri;rw [if_pos h0];rfl) (by simp) H4
 .exact loop l.length 0 b3 w4 d _ rfl rfl (by omega) (by unfold ri;rw [if_neg h0];rfl) (by simp) H4
structure GR (w:World) (B:Nat->Prop) (g:List Nx) (s:Sl) (w':World):Prop where
 ex:∃l':List Nd,xs l'=g/\GP w' s l'/\∀b∈(En.gr s l').fp,B b\/w.heap.size<=b
theorem GR.nil (w:World) (B:Nat->Prop) (w':World):GR w B [] ⟨none,0,0⟩ w':=⟨⟨[],rfl,⟨jO.nil 9 w',by simp⟩,λb hb=>by
 rcases tC.1 hb with h|⟨d,hd,_⟩
 .cases h
 .cases hd⟩⟩
theorem Tc {w:World} {s:Sl} {l:List Nd} {d:Nd} (h:GP w s l) (hd:d.P w) (hg:Xt (xs l)) (ho:UQ d.x) (Cb:∀e∈l,e.x.kids.length<=kC):
  Calls Tryz.prog ln #[s.v,d.v] w λr w'=>(∃s':Sl,r=.returned (.tuple #[s'.v,.i (jM (xs l) d.x).2.1,.i (jM (xs l) d.x).2.2])/\GR w (λb=>b∈(En.gr s l).fp\/b∈(gv d).fp) (jM (xs l) d.x).1 s' w')/\bI w w':=by
 have hn:=mX h
 have nR:(xs l).length=l.length:=by simp [xs]
 refine enthymemeref07_Add.cV _ _ _ _ _ _ _ _ _ _ w _ ((WB h hd).bJ λb3 w1 H1=>H1.aJ (Dl (cH.1 (H1.getD 0)) (H1.getD 1) hg ho) ?_)
 rintro _ w2 rfl H2
 refine ⟨_,_,_,_,rfl,H2.bJ λb7 w3 H3=>eB (λh0=>H3.aK λw4 H4=>⟨⟨⟨none,0,0⟩,?_,?_⟩,H4.fr⟩) (λh0=>H3.aK λw4 H4=>?_)⟩
 .unfold jM;rw [if_pos h0]
 .unfold jM;rw [if_pos h0];exact GR.nil _ _ _
 have hs:eI (xs l) d.x=((eI (xs l) d.x).1,0):=by rw [<-h0]
 have KB:=y8 hs
 have Zu:ri (xs l) (ie d.x (eI (xs l) d.x).1)=mg (ie d.x (eI (xs l) d.x).1) (xs l) 0:=by
  unfold ri
  rw [KB]
  rfl
 have ha:jM (xs l) d.x=match mg (ie d.x (eI (xs l) d.x).1) (xs l) 0 with
   |some i=>(xs l,(i:Int),0)
   |none=>if 4096<=(xs l).length then ([],0,4) else (xs l++[ie d.x (eI (xs l) d.x).1],((xs l).length:Int),0):=by
  unfold jM;rw [if_neg (by omega)]
  try rfl
 generalize aax:(eI (xs l) d.x).1=sr at *
 let e:Nd:=⟨ie d.x sr,d.ks⟩
 have hoe:UQ e.x:=⟨ho.kl,ho.n,ho.m,ho.tx⟩
 refine H4.aJ (Oo (d:=e) (cH.1 (H4.getD 0)) (H4.getD 1) hg hoe Cb) ?_
 rintro _ w5 rfl H5
 rw [show ri (xs l) e.x=mg (ie d.x sr) (xs l) 0 from Zu]
 refine ⟨_,rfl,?_⟩
 cases hi:mg (ie d.x sr) (xs l) 0 with
 |some i=>
  rw [hi] at ha
  rw [ha]
  exact aQ (decide_eq_true (Int.natCast_nonneg i)) ⟨⟨s,rfl,⟨l,rfl,cH.1 (H5.getD 0),λb hb=>.inl (.inl hb)⟩⟩,H5.fr⟩
 |none=>
  rw [hi] at ha
  dsimp only at ha
  refine aL (by decide) ?_
  refine aM (λh4=>⟨⟨⟨none,0,0⟩,?_,?_⟩,H5.fr⟩) (λh4=>?_)
  .rw [ha,if_pos (by omega)]
  .rw [ha,if_pos (by omega)];exact GR.nil _ _ _
  rw [if_neg (by omega)] at ha
  rw [ha]
  have R5:∀{w6:World} {L:List En},LH F0 w w6 L (rG s l d)->jO 9 w6 s (l.flatMap Nd.c):=λH=>(cH.1 (H.getD 0)).1
  have fin:∀(s':Sl) (w6:World) (L:List En) (j:Nat),LH F0 w w6 L (rG s l d)->L[j]? =some (.row aG 9 s' (l.flatMap Nd.c++e.c))->
    (∃Vc:Sl,Ending.returned (.tuple #[s'.v,.i ((s.n:Nat):Int),.i 0])=.returned (.tuple #[Vc.v,.i ((xs l).length:Int),.i 0])/\GR w (λb=>b∈(En.gr s l).fp\/b∈(gv d).fp) (xs l++[ie d.x sr]) Vc w6)/\bI w w6:=by
   intro s' w6 L j H6 hj
   have jN:jO 9 w6 s' ((l++[e]).flatMap Nd.c):=by
    have:aP w6 aG 9 s' (l.flatMap Nd.c++e.c):=H6.get j hj
    have:=this.jh
    simpa using this
   refine ⟨⟨s',by rw [nR,hn],⟨l++[e],by simp [xs,e],⟨jN,λa ha=>?_⟩,λb hb=>?_⟩⟩,H6.fr⟩
   .rcases fW.1 ha with ha|ha
    .exact (cH.1 (H6.getD 0)).2 a ha
    .simp only [cU,qnM,or_false] at ha
     subst ha
     exact H6.getD 1
   .rcases tC.1 hb with hb|⟨a,ha,hb⟩
    .right
     have yU:b∈(En.row aG 9 s' (l.flatMap Nd.c++e.c)).fp:=by
      have:b∈(if (l++[e]).flatMap Nd.c=[] then [] else bC s'):=hb
      split at this
      .cases this
      .exact this
     exact (H6.new _ (cZ hj) b yU).resolve_right id
    .rcases fW.1 ha with ha|ha
     .exact .inl (.inl (tC.2 (.inr ⟨a,ha,hb⟩)))
     .simp only [cU,qnM,or_false] at ha
      subst ha
      exact .inl (.inr hb)
  have WQ:∀u∈e.c,u.oneCell'=true:=λu hu=>sL (l:=[e]) u (by simpa using hu)
  have hl:=hg.len
  rw [nR] at hl
  unfold kC at hl
  refine ⟨H5.aK λw6 H6=>H6.iH (n:=0) (sz:=9) (cs:=[]) rfl (by decide) λw7 H7=>⟨?_,?_⟩,H5.aK λw6 H6=>H6.nw λw7 _ H7=>H7.iH (n:=0) (sz:=9) (cs:=[]) rfl (by decide) λw8 H8=>?_⟩
  .refine H7.Je 2 nh (s:=⟨some (bF w6.heap.size),0,0⟩) (src:=s) rfl (R5 H7) sL (by simp only;omega) (λs1 w8 H8=>?_)
   have vj:=(H8.get 2:aP _ _ _ _ _).len
   rw [List.nil_append,Nd.iL] at vj
   refine H8.tR 2 nh rfl (λs2 w9 H9=>?_) (by omega)
   exact fin s2 w9 _ 2 H9 rfl
  .refine H7.nw λw8 _ H8=>?_
   refine H8.Je 2 nh (s:=⟨some (bF w6.heap.size),0,0⟩) (src:=s) rfl (R5 H8) sL (by simp only;omega) (λs1 w9 H9=>?_)
   have vj:=(H9.get 2:aP _ _ _ _ _).len
   rw [List.nil_append,Nd.iL] at vj
   refine H9.Je 2 nh (src:=⟨some (bF w7.heap.size),1,1⟩) rfl (xW (cs:=e.c) (T:=aG) (H9.ob 3) rfl) WQ (by simp only;omega) (λs2 pR m8=>?_)
   exact fin s2 pR _ 2 m8 rfl
  .refine H8.Je 3 nh (s:=⟨some (bF w7.heap.size),0,0⟩) (src:=s) rfl (R5 H8) sL (by simp only;omega) (λs1 w9 H9=>?_)
   have vj:=(H9.get 3:aP _ _ _ _ _).len
   rw [List.nil_append,Nd.iL] at vj
   refine H9.Je 3 nh (src:=⟨some (bF w6.heap.size),1,1⟩) rfl (xW (cs:=e.c) (T:=aG) (H9.ob 2) rfl) WQ (by simp only;omega) (λs2 pR m8=>?_)
   exact fin s2 pR _ 3 m8 rfl
end Go.Proofs.YtcifihepfadgfaaGreatDoor
