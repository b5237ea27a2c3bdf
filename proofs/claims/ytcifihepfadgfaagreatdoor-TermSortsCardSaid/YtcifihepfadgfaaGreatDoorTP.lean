import Derived.Test.YtcifihepfadgfaaGreatDoorG1
import Derived.Test.YtcifihepfadgfaaGreatDoorW
import Derived.Test.YtcifihepfadgfaaGreatDoorVB
import Derived.Test.YtcifihepfadgfaaGreatDoorT1
import Derived.Test.YtcifihepfadgfaaGreatDoorB
set_option linter.unusedVariables false
namespace Go.Proofs.YtcifihepfadgfaaGreatDoor
open Go Go.W
structure Srt where
 k:Int
 n:Int
 x:Int
deriving DecidableEq
structure Nx where
 op:Int
 kids:List Int
 n:Int
 m:Int
 u:Int
 tx:ByteArray
 st:Srt
deriving DecidableEq
def noS:Srt:=⟨0,0,0⟩
def bvS (n:Int):Srt:=⟨0,n,0⟩
def strS (n:Int):Srt:=⟨1,n,0⟩
def validS (s:Srt):Bool:=(s.k==0&&decide (1≤s.n)&&decide (s.n≤64)&&s.x==0)||(s.k==1&&decide (0≤s.n)&&decide (s.n≤64)&&s.x==0)||(s.k==2&&decide (1≤s.n)&&decide (s.n≤64)&&decide (1≤s.x)&&decide (s.x≤16))||(s.k==3&&decide (0≤s.n)&&decide (s.n≤64)&&decide (1≤s.x)&&decide (s.x≤16))
def sortE (s:Srt):Int:=if validS s then 0 else 9
def arrS (s:Srt):Bool:=s.k==2||s.k==3
def kidsN (op:Int):Int:=if op<0∨34<op then -1 else if op≤3 then 0 else if op=4∨op=5∨op=21∨op=22∨op=23∨op=27∨op=28∨op=33∨op=34 then 1 else if op=19∨op=25∨op=30∨op=32 then 3 else 2
def hasN (op:Int):Bool:=op==21||op==22||op==23||op==28
def hasT (op:Int):Bool:=op==0||op==2||op==33
def okF (n:Nx):Bool:=(hasN n.op||n.n==0)&&(n.op==21||n.m==0)&&(n.op==1||n.u==0)&&(hasT n.op||decide (n.tx=ba []))
def kidIn (g:List Nx) (k:Int):Bool:=decide (0≤k)&&decide (k<(g.length:Int))
def letQ (c:UInt8):Bool:=decide (97≤c.toNat)&&decide (c.toNat≤122)
def namQ (c:UInt8):Bool:=letQ c||(decide (48≤c.toNat)&&decide (c.toNat≤57))||c==45
def nameB (l:List UInt8):Bool:=match l with
 |[]=>false
 |c::m=>decide (m.length≤15)&&letQ c&&m.all namQ
def varS:List Nx→ByteArray→Option Srt
 |[],_=>none
 |d::g,t=>if d.op=0∧d.tx=t then some d.st else varS g t
def twice (g:List Nx) (n:Nx):Bool:=match varS g n.tx with
 |some s=>!decide (s=n.st)
 |none=>false
def big (u:Int) (n:Int):Bool:=decide (n<64)&&decide (2^n.toNat≤u)
def leafX (g:List Nx) (n:Nx):Srt×Int:=
 if n.op=2 then (if 64<n.tx.size then (noS,5) else (strS n.tx.size,0)) else
 if n.op=0∧nameB (bl n.tx)=false then (noS,6) else
 if validS n.st=false then (noS,9) else
 if n.op=1∧n.st.k≠0∨n.op=3∧arrS n.st=false then (noS,9) else
 if n.op=1∧big n.u n.st.n=true then (noS,5) else
 if n.op=0∧twice g n=true then (noS,8) else (n.st,0)
def elemS (s:Srt):Srt:=if s.k=2 then bvS s.n else strS s.n
def fitX (op:Int) (x y z:Srt):Bool:=
 if op=4∨op=5∨op=21∨op=22∨op=23 then x.k==0 else
 if op=18 then decide (x=y)||(x.k==1&&y.k==1) else
 if op=19 then decide (x=bvS 1)&&(decide (y=z)||(y.k==1&&z.k==1)) else
 if op=20 then x.k==0&&y.k==0 else
 if op=24 then arrS x&&decide (y=bvS x.x) else
 if op=25 then arrS x&&decide (y=bvS x.x)&&(decide (z=elemS x)||(x.k==3&&z.k==1&&decide (z.n≤x.n))) else
 if op=26 then arrS x&&decide (x=y) else
 if op=27∨op=28∨op=33 then x.k==1 else
 if op=29∨op=31 then x.k==1&&y.k==1 else
 if op=30 then x.k==1&&decide (y=bvS 7)&&decide (z=bvS 7) else
 if op=32 then x.k==1&&y.k==1&&z.k==1 else
 if op=34 then decide (x=bvS 8) else x.k==0&&decide (x=y)
def resX (n:Nx) (x y z:Srt):Srt:=
 if n.op=16∨n.op=17∨n.op=18∨n.op=33 then bvS 1 else
 if n.op=19 then (if y.k=1 then strS (if y.n<z.n then z.n else y.n) else y) else
 if n.op=20 then bvS (x.n+y.n) else
 if n.op=21 then bvS (n.n - n.m+1) else
 if n.op=22∨n.op=23 then bvS (x.n+n.n) else
 if n.op=24 then elemS x else
 if n.op=26 then bvS x.x else
 if n.op=27∨n.op=31 then bvS 7 else
 if n.op=28 then bvS 8 else
 if n.op=29 then strS (x.n+y.n) else
 if n.op=32 then strS (x.n+z.n) else
 if n.op=34 then strS 1 else x
def rngX (n:Nx) (x y z:Srt):Bool:=
 if n.op=20∨n.op=29 then decide (x.n+y.n≤64) else
 if n.op=21 then decide (0≤n.m)&&decide (n.m≤n.n)&&decide (n.n<x.n) else
 if n.op=22∨n.op=23 then decide (1≤n.n)&&decide (n.n≤64 - x.n) else
 if n.op=28 then decide (0≤n.n)&&decide (n.n≤63) else
 if n.op=32 then decide (x.n+z.n≤64) else true
def kst (g:List Nx) (n:Nx) (i:Nat):Srt:=match n.kids[i]? with
 |some k=>match g[k.toNat]? with
  |some d=>d.st
  |none=>noS
 |none=>noS
def canX (t:ByteArray):Bool:=canQ (bl t)==some true
def srtX (g:List Nx) (n:Nx):Srt×Int:=
 if (kidsN n.op==(n.kids.length:Int)&&n.kids.all (kidIn g)&&okF n)=false then (noS,1) else
 if n.op≤3 then leafX g n else
 if fitX n.op (kst g n 0) (kst g n 1) (kst g n 2)=false then (noS,9) else
 if rngX n (kst g n 0) (kst g n 1) (kst g n 2)=false then (noS,5) else
 if n.op=33∧canX n.tx=false then (noS,2) else (resX n (kst g n 0) (kst g n 1) (kst g n 2),0)
def withS (n:Nx) (s:Srt):Nx:={n with st:=s}
def idxX (n:Nx):List Nx→Nat→Option Nat
 |[],_=>none
 |d::g,i=>if d=n then some i else idxX n g (i+1)
def addX (g:List Nx) (n:Nx):List Nx×Int×Int:=
 if (srtX g n).2≠0 then ([],0,(srtX g n).2) else
 match idxX (withS n (srtX g n).1) g 0 with
 |some i=>(g,i,0)
 |none=>if 4096≤g.length then ([],0,4) else (g++[withS n (srtX g n).1],g.length,0)
inductive Vg:List Nx→Prop
 |nil:Vg []
 |snoc {g:List Nx} {n:Nx}:Vg g→srtX g n=(n.st,0)→n∉g→Vg (g++[n])
end Go.Proofs.YtcifihepfadgfaaGreatDoor
namespace Go.Proofs.YtcifihepfadgfaaGreatDoor
open Go Go.W
structure Nd where
 x:Nx
 ks:Sl
abbrev srtV (s:Srt):Value:=.agg #[.i s.k,.i s.n,.i s.x]
namespace Nd
def c (d:Nd):List Value:=[.i d.x.op,d.ks.v,.i d.x.n,.i d.x.m,.u d.x.u,.string d.x.tx,.i d.x.st.k,.i d.x.st.n,.i d.x.st.x]
abbrev v (d:Nd):Value:=.agg #[.i d.x.op,d.ks.v,.i d.x.n,.i d.x.m,.u d.x.u,.string d.x.tx,.i d.x.st.k,.i d.x.st.n,.i d.x.st.x]
theorem c_len (d:Nd):(c d).length=9:=rfl
theorem cs_len (l:List Nd):(l.flatMap c).length=l.length *9:=flat_length c 9 c_len l
abbrev P (w:World) (d:Nd):Prop:=Nums w d.ks d.x.kids
structure Cells (w:World) (p:Addr) (i:Nat) (d:Nd):Prop where
 c0:w.cell? ((p.add (i *9)).add 0)=some (.i d.x.op)
 c1:w.cell? ((p.add (i *9)).add 1)=some d.ks.v
 c2:w.cell? ((p.add (i *9)).add 2)=some (.i d.x.n)
 c3:w.cell? ((p.add (i *9)).add 3)=some (.i d.x.m)
 c4:w.cell? ((p.add (i *9)).add 4)=some (.u d.x.u)
 c5:w.cell? ((p.add (i *9)).add 5)=some (.string d.x.tx)
 c6:w.cell? ((p.add (i *9)).add 6)=some (.i d.x.st.k)
 c7:w.cell? ((p.add (i *9)).add 7)=some (.i d.x.st.n)
 c8:w.cell? ((p.add (i *9)).add 8)=some (.i d.x.st.x)
theorem rows_n {w:World} {s:Sl} {l:List Nd} (h:RdN 9 w s (l.flatMap c)):s.n=l.length:=by
 have:=h.1
 rw [cs_len] at this
 omega
theorem at' {w:World} {s:Sl} {l:List Nd} (h:RdN 9 w s (l.flatMap c)) {i:Nat} {d:Nd} (hi:l[i]? =some d) {K:Addr→Prop} (hk:∀p,s.a=some p→Cells w p i d→K p):optP s.a K:=
 CRow.elem (f:=c) (sz:=9) c_len (by omega) h.2.2 hi fun p hp hc=>hk p hp ⟨hc 0 _ rfl,hc 1 _ rfl,hc 2 _ rfl,hc 3 _ rfl,hc 4 _ rfl,hc 5 _ rfl,hc 6 _ rfl,hc 7 _ rfl,hc 8 _ rfl⟩
theorem again {w:World} {s:Sl} {l:List Nd} (h:RdN 9 w s (l.flatMap c)) {i:Nat} {d:Nd} (hi:l[i]? =some d) {p:Addr} (hp:s.a=some p):Cells w p i d:=by
 have hk:=at' h hi (K:=fun q=>∃q',s.a=some q'∧Cells w q' i d) (fun q hq hc=>⟨q,hq,hc⟩)
 rw [hp] at hk
 obtain ⟨q,hq,e⟩:=hk
 cases hq
 exact e
end Nd
abbrev xs (l:List Nd):List Nx:=l.map Nd.x
def GP (w:World) (s:Sl) (l:List Nd):Prop:=RdN 9 w s (l.flatMap Nd.c)∧∀d∈l,d.P w
abbrev kidE (d:Nd):En:=.rd d.ks (d.x.kids.map intV)
def _root_.Go.W.En.gr (s:Sl) (l:List Nd):En:=.all (.rdn 9 s (l.flatMap Nd.c)::l.map kidE)
theorem gr_P {w:World} {s:Sl} {l:List Nd}:(En.gr s l).P w↔GP w s l:=by
 constructor
 ·exact fun h=>⟨h (.rdn 9 s (l.flatMap Nd.c)) (by simp),fun d hd=>h (kidE d) (List.mem_cons_of_mem _ (List.mem_map.2 ⟨d,hd,rfl⟩))⟩
 ·intro h e he
  rcases List.mem_cons.1 he with rfl|he
  ·exact h.1
  ·obtain ⟨d,hd,rfl⟩:=List.mem_map.1 he
   exact h.2 d hd
theorem gr_fp {s:Sl} {l:List Nd} {b:Nat}:b∈(En.gr s l).fp↔b∈(En.rdn 9 s (l.flatMap Nd.c)).fp∨∃d∈l,b∈(kidE d).fp:=by
 unfold En.gr En.all
 rw [mem_nub,List.mem_flatMap]
 constructor
 ·rintro ⟨e,he,hb⟩
  rcases List.mem_cons.1 he with rfl|he
  ·exact .inl hb
  ·obtain ⟨d,hd,rfl⟩:=List.mem_map.1 he
   exact .inr ⟨d,hd,hb⟩
 ·rintro (hb|⟨d,hd,hb⟩)
  ·exact ⟨_,List.mem_cons_self ..,hb⟩
  ·exact ⟨_,List.mem_cons_of_mem _ (List.mem_map.2 ⟨d,hd,rfl⟩),hb⟩
theorem gr_n {w:World} {s:Sl} {l:List Nd} (h:GP w s l):s.n=l.length:=Nd.rows_n h.1
theorem gr_at {w:World} {s:Sl} {l:List Nd} (h:GP w s l) {i:Nat} {d:Nd} {X:Int} (hX:X=(i:Int)) (hi:l[i]? =some d) {K:Addr→Prop} (hk:∀p,s.a=some p→Nd.Cells w p (Int.toNat X) d→K p):(0:Int)≤X∧X<((s.n:Nat):Int)∧optP s.a K:=by
 have hn:=gr_n h
 have hl:=(List.getElem?_eq_some_iff.1 hi).1
 subst hX
 exact ⟨by omega,by omega,Nd.at' h.1 hi hk⟩
theorem xs_get {l:List Nd} {i:Nat} {d:Nd} (h:l[i]? =some d):(xs l)[i]? =some d.x:=by simp [xs,h]
namespace Nd
theorem Cells.s0 {w:World} {p:Addr} {i:Nat} {d:Nd} (h:Cells w p i d):w.cell? (((p.add (i *9)).add 6).add 0)=some (.i d.x.st.k):=by rw [add_add];exact h.c6
theorem Cells.s1 {w:World} {p:Addr} {i:Nat} {d:Nd} (h:Cells w p i d):w.cell? (((p.add (i *9)).add 6).add 1)=some (.i d.x.st.n):=by rw [add_add];exact h.c7
theorem Cells.s2 {w:World} {p:Addr} {i:Nat} {d:Nd} (h:Cells w p i d):w.cell? (((p.add (i *9)).add 6).add 2)=some (.i d.x.st.x):=by rw [add_add];exact h.c8
end Nd
theorem gr_again {w:World} {s:Sl} {l:List Nd} (h:GP w s l) {i:Nat} {d:Nd} (hi:l[i]? =some d) {p:Addr} (hp:s.a=some p) {X:Int} (hX:X=(i:Int)):Nd.Cells w p (Int.toNat X) d:=by
 subst hX
 exact Nd.again h.1 hi hp
def srtC (s:Srt):List Value:=[.i s.k,.i s.n,.i s.x]
theorem srts_len (l:List Srt):(l.flatMap srtC).length=l.length *3:=flat_length srtC 3 (fun _=>rfl) l
structure SCells (w:World) (p:Addr) (i:Nat) (s:Srt):Prop where
 c0:w.cell? ((p.add (i *3)).add 0)=some (.i s.k)
 c1:w.cell? ((p.add (i *3)).add 1)=some (.i s.n)
 c2:w.cell? ((p.add (i *3)).add 2)=some (.i s.x)
theorem srts_n {w:World} {s:Sl} {l:List Srt} (h:RdN 3 w s (l.flatMap srtC)):s.n=l.length:=by
 have:=h.1
 rw [srts_len] at this
 omega
theorem srt_at {w:World} {s:Sl} {l:List Srt} (h:RdN 3 w s (l.flatMap srtC)) {i:Nat} {x:Srt} {X:Int} (hX:X=(i:Int)) (hi:l[i]? =some x) {K:Addr→Prop} (hk:∀p,s.a=some p→SCells w p (Int.toNat X) x→K p):(0:Int)≤X∧X<((s.n:Nat):Int)∧optP s.a K:=by
 have hn:=srts_n h
 have hl:=(List.getElem?_eq_some_iff.1 hi).1
 subst hX
 exact ⟨by omega,by omega,CRow.elem (f:=srtC) (sz:=3) (fun _=>rfl) (by omega) h.2.2 hi fun p hp hc=>hk p hp ⟨hc 0 _ rfl,hc 1 _ rfl,hc 2 _ rfl⟩⟩
theorem srt_again {w:World} {s:Sl} {l:List Srt} (h:RdN 3 w s (l.flatMap srtC)) {i:Nat} {x:Srt} {X:Int} (hX:X=(i:Int)) (hi:l[i]? =some x) {p:Addr} (hp:s.a=some p):SCells w p (Int.toNat X) x:=by
 have hk:=(srt_at h hX hi (K:=fun q=>∃q',s.a=some q'∧SCells w q' (Int.toNat X) x) (fun q hq hc=>⟨q,hq,hc⟩)).2.2
 rw [hp] at hk
 obtain ⟨q,hq,e⟩:=hk
 cases hq
 exact e
theorem srt_eq (a b:Srt):((a.k==b.k)&&((a.n==b.n)&&((a.x==b.x)&&true)))=decide (a=b):=by
 cases a;cases b
 simp only [Srt.mk.injEq,Bool.and_true,Bool.decide_and]
 rfl
theorem tx_eq (a b:ByteArray):(a.toList==b.toList)=decide (a=b):=by
 rw [ByteArray.toList_eq,ByteArray.toList_eq]
 have h:(a.data.toList=b.data.toList)↔a=b:=⟨fun h=>ByteArray.ext (Array.toList_inj.1 h),fun h=>by rw [h]⟩
 rw [←decide_eq_decide.2 h]
 cases hd:decide (a.data.toList=b.data.toList) with
 |true=>rw [of_decide_eq_true hd];simp
 |false=>exact beq_eq_false_iff_ne.2 (of_decide_eq_false hd)
section
variable {A B:Prop}
theorem sel_tx {a b:ByteArray} (h1:a=b→A) (h2:a≠b→B):sel (a.toList==b.toList) A B:=by
 rw [tx_eq];exact sel_dec h1 h2
theorem sel_srt {a b:Srt} (h1:a=b→A) (h2:a≠b→B):sel ((a.k==b.k)&&((a.n==b.n)&&((a.x==b.x)&&true))) A B:=by
 rw [srt_eq];exact sel_dec h1 h2
theorem sel_srtN {a b:Srt} (h1:a≠b→A) (h2:a=b→B):sel (!((a.k==b.k)&&((a.n==b.n)&&((a.x==b.x)&&true)))) A B:=by
 rw [srt_eq];exact sel_not (fun h=>h1 (of_decide_eq_false h)) (fun h=>h2 (of_decide_eq_true h))
theorem sel_srtE {s:Srt} (h1:validS s=false→A) (h2:validS s=true→B):sel (sortE s !=0) A B:=by
 unfold sortE
 cases h:validS s with
 |true=>exact sel_false rfl (h2 h)
 |false=>exact sel_true rfl (h1 h)
end
end Go.Proofs.YtcifihepfadgfaaGreatDoor
set_option maxRecDepth 100000
namespace Go.Proofs.YtcifihepfadgfaaGreatDoor
open Go Go.W
theorem c_BV (n:Int) (w:World):Calls Tryz.prog n_enthymemeref07_BV #[.i n] w fun r w'=>r=.returned (srtV (bvS n))∧Fr0 w w':=
 enthymemeref07_BV.okT _ w _ ((lh0 [] (by simp)).newg fun b w1 H1=>H1.locg fun w2 H2=>⟨rfl,H2.fr⟩)
theorem c_Strings (n:Int) (w:World):Calls Tryz.prog n_enthymemeref07_Strings #[.i n] w fun r w'=>r=.returned (srtV (strS n))∧Fr0 w w':=
 enthymemeref07_Strings.okT _ w _ ((lh0 [] (by simp)).newg fun b w1 H1=>H1.locg fun w2 H2=>⟨rfl,H2.fr⟩)
theorem r_Element (s:Srt) (w:World):Calls Tryz.prog n_enthymemeref07_Element #[srtV s] w fun r w'=>r=.returned (srtV (elemS s))∧Fr0 w w':=by
 refine enthymemeref07_Element.okT _ _ _ w _ ((lh0 [] (by simp)).newg fun b w1 H1=>H1.newg fun b2 w2 H2=>sel_eq (fun h=>H2.callg (c_BV s.n w2) ?_) (fun h=>H2.callg (c_Strings s.n w2) ?_))
 ·rintro _ w3 rfl H3
  exact ⟨_,_,_,rfl,H3.locg fun w4 H4=>⟨by unfold elemS;rw [if_pos h],H4.fr⟩⟩
 ·rintro _ w3 rfl H3
  exact ⟨_,_,_,rfl,H3.locg fun w4 H4=>⟨by unfold elemS;rw [if_neg h],H4.fr⟩⟩
theorem op_all {op:Int} (h1:0≤op) (h2:op≤34):op=0∨op=1∨op=2∨op=3∨op=4∨op=5∨op=6∨op=7∨op=8∨op=9∨op=10∨op=11∨op=12∨op=13∨op=14∨op=15∨op=16∨op=17∨op=18∨op=19∨op=20∨op=21∨op=22∨op=23∨op=24∨op=25∨op=26∨op=27∨op=28∨op=29∨op=30∨op=31∨op=32∨op=33∨op=34:=by omega
theorem c_Kids (op:Int) (w:World):Calls Tryz.prog n_enthymemeref07_Kids #[.i op] w fun r w'=>r=.returned (.i (kidsN op))∧Fr0 w w':=by
 refine enthymemeref07_Kids.ok op w _ ?_
 by_cases h1:op<0
 ·exact sel_true (decide_eq_true h1) ⟨by unfold kidsN;rw [if_pos (.inl h1)],Fr.refl _ _⟩
 refine sel_false (decide_eq_false h1) ?_
 by_cases h2:op>34
 ·exact sel_true (decide_eq_true h2) ⟨by unfold kidsN;rw [if_pos (.inr h2)],Fr.refl _ _⟩
 refine sel_false (decide_eq_false h2) ?_
 rcases op_all (by omega) (by omega:op≤34) with rfl|rfl|rfl|rfl|rfl|rfl|rfl|rfl|rfl|rfl|rfl|rfl|rfl|rfl|rfl|rfl|rfl|rfl|rfl|rfl|rfl|rfl|rfl|rfl|rfl|rfl|rfl|rfl|rfl|rfl|rfl|rfl|rfl|rfl|rfl<;>exact ⟨rfl,Fr.refl _ _⟩
theorem get_str {s:ByteArray} {i:Nat} (h:i<s.size):s[i]? =some (gQ (bl s) i):=by
 have h2:i<(bl s).length:=h
 have e:gQ (bl s) i=(bl s)[i]:=by unfold gQ;rw [List.getD_eq_getElem?_getD,List.getElem?_eq_getElem h2];rfl
 rw [e,getElem?_pos s i h]
 rfl
theorem nameB_cons (c:UInt8) (m:List UInt8):nameB (c::m)=(decide (m.length≤15)&&letQ c&&m.all namQ):=rfl
theorem c_Named (s:ByteArray) (w:World):Calls Tryz.prog n_enthymemeref07_Named #[.string s] w fun r w'=>r=.returned (.bool (nameB (bl s)))∧Fr0 w w':=by
 have hl:(bl s).length=s.size:=bl_len s
 have no:nameB (bl s)=false→(Ending.returned (.bool false)=.returned (.bool (nameB (bl s)))∧Fr0 w w):=fun h=>⟨by rw [h],Fr.refl _ _⟩
 cases hs:bl s with
 |nil=>
  have h0:s.size=0:=by rw [←hl,hs];rfl
  exact enthymemeref07_Named.ok s w _ (sel_true (decide_eq_true (by omega)) ⟨rfl,Fr.refl _ _⟩)
 |cons c m=>
  have hm:s.size=m.length+1:=by rw [←hl,hs];rfl
  rw [hs] at no
  have g0:gQ (bl s) 0=c:=by rw [hs];rfl
  have h0:s[Int.toNat 0]? =some c:=by rw [←g0];exact get_str (by omega)
  refine enthymemeref07_Named.ok s w _ (sel_false (decide_eq_false (by omega)) (sel_dec (fun h=>no ?_) (fun h=>⟨by omega,c,h0,sel_dec (fun h1=>no ?_) (fun h1=>⟨by omega,c,h0,sel_dec (fun h2=>no ?_) (fun h2=>?_)⟩)⟩)))
  ·rw [nameB_cons,decide_eq_false (by omega)];rfl
  ·rw [nameB_cons];unfold letQ;rw [decide_eq_false (show ¬97≤c.toNat by omega)];simp
  ·rw [nameB_cons];unfold letQ;rw [decide_eq_false (show ¬c.toNat≤122 by omega)];simp
  have e0:nameB (c::m)=m.all namQ:=by
   rw [nameB_cons]
   unfold letQ
   rw [decide_eq_true (show m.length≤15 by omega),decide_eq_true (show 97≤c.toNat by omega),decide_eq_true (show c.toNat≤122 by omega)]
   simp
  have e1:nameB (c::m)=(bl s).all namQ:=by
   rw [e0,hs,List.all_cons]
   unfold namQ letQ
   rw [decide_eq_true (show 97≤c.toNat by omega),decide_eq_true (show c.toNat≤122 by omega)]
   simp
  rw [e1]
  have loop:∀(d i:Nat),i+d=s.size→(bl s).all namQ=((bl s).drop i).all namQ→enthymemeref07_Named.L1 s (i:Int) w fun r w'=>r=.returned (.bool ((bl s).all namQ))∧Fr0 w w':=by
   intro d
   induction d with
   |zero=>
    intro i hi he
    rw [List.drop_of_length_le (by omega)] at he
    exact enthymemeref07_Named.L1_step _ _ _ _ (sel_false (decide_eq_false (by omega)) ⟨by rw [he];rfl,Fr.refl _ _⟩)
   |succ d ih=>
    intro i hi he
    have hg:=get_str (show i<s.size by omega)
    rw [List.drop_eq_getElem_cons (by omega:i<(bl s).length),List.all_cons,show (bl s)[i]'(by omega)=gQ (bl s) i by unfold gQ;rw [List.getD_eq_getElem?_getD,List.getElem?_eq_getElem (by omega:i<(bl s).length)];rfl] at he
    generalize gQ (bl s) i=x at hg he
    have go:namQ x=true→enthymemeref07_Named.S4 s (i:Int) w fun r w'=>r=.returned (.bool ((bl s).all namQ))∧Fr0 w w':=fun h=>by
     show enthymemeref07_Named.L1 s (IntKind.wrap .i64 ((i:Int)+1)) w _
     rw [i64_next _ (by omega)]
     exact ih (i+1) (by omega) (by rw [he,h,Bool.true_and])
    have stop:namQ x=false→(Ending.returned (.bool false)=.returned (.bool ((bl s).all namQ))∧Fr0 w w):=fun h=>⟨by rw [he,h,Bool.false_and],Fr.refl _ _⟩
    have dig:letQ x=false→∀o:Bool,o=((decide (48≤x.toNat)&&decide (x.toNat≤57))||x==45)→enthymemeref07_Named.S3 s (i:Int) false o w fun r w'=>r=.returned (.bool ((bl s).all namQ))∧Fr0 w w':=fun hx o ho=>by
     refine sel_true rfl (sel_not (fun h=>stop ?_) (fun h=>go ?_))
     ·unfold namQ;rw [hx,Bool.false_or,←ho,h]
     ·unfold namQ;rw [hx,Bool.false_or,←ho,h]
    have e45:((((x.toNat:Nat):Int)==45):Bool)=(x==45):=by
     by_cases h:x=45
     ·subst h;rfl
     ·rw [beq_eq_false_iff_ne.2 h,beq_eq_false_iff_ne]
      intro h2
      exact h (UInt8.toNat_inj.1 (by have:((45:UInt8).toNat:Int)=45:=rfl;omega))
    have ht:((i:Int)).toNat=i:=Int.toNat_natCast i
    have S2:∀l:Bool,l=letQ x→enthymemeref07_Named.S2 s (i:Int) l w fun r w'=>r=.returned (.bool ((bl s).all namQ))∧Fr0 w w':=fun l hl=>by
     have fin:∀o:Bool,o=((decide (48≤x.toNat)&&decide (x.toNat≤57))||x==45)→enthymemeref07_Named.S3 s (i:Int) l o w fun r w'=>r=.returned (.bool ((bl s).all namQ))∧Fr0 w w':=fun o ho=>by
      cases hx:letQ x with
      |true=>rw [hl,hx];exact sel_false rfl (go (by unfold namQ;rw [hx];rfl))
      |false=>rw [hl,hx];exact dig hx o ho
     refine ⟨by omega,x,by rw [ht];exact hg,sel_dec (fun h=>⟨by omega,x,by rw [ht];exact hg,sel_dec (fun h'=>fin true ?_) (fun h'=>⟨by omega,x,by rw [ht];exact hg,?_⟩)⟩) (fun h=>⟨by omega,x,by rw [ht];exact hg,?_⟩)⟩
     ·rw [decide_eq_true (show 48≤x.toNat by omega),decide_eq_true (show x.toNat≤57 by omega)];rfl
     ·rw [e45];exact fin _ (by rw [decide_eq_false (show ¬x.toNat≤57 by omega)];simp)
     ·rw [e45];exact fin _ (by rw [decide_eq_false (show ¬48≤x.toNat by omega)];simp)
    refine enthymemeref07_Named.L1_step _ _ _ _ (sel_true (decide_eq_true (by omega)) ⟨by omega,x,by rw [ht];exact hg,sel_dec (fun h=>⟨by omega,x,by rw [ht];exact hg,S2 _ ?_⟩) (fun h=>S2 _ ?_)⟩)
    ·unfold letQ
     rw [decide_eq_true (show 97≤x.toNat by omega),Bool.true_and]
     exact decide_eq_decide.2 (by omega)
    ·unfold letQ
     rw [decide_eq_false (show ¬97≤x.toNat by omega),Bool.false_and]
  exact loop s.size 0 (by omega) (by simp)
theorem r_within (n lo hi:Int) (w:World):Calls Tryz.prog n_enthymemeref06_within #[.int .i64 n,.int .i64 lo,.int .i64 hi] w fun r w'=>r=.returned (.bool (decide (lo≤n∧n≤hi)))∧Fr0 w w':=by
 refine enthymemeref06_within.ok _ _ _ w _ (sel_dec (fun h=>⟨?_,Fr.refl _ _⟩) (fun h=>⟨?_,Fr.refl _ _⟩))
 ·have:(lo≤n∧n≤hi)↔n≤hi:=⟨fun h=>h.2,fun h'=>⟨h,h'⟩⟩
  simp only [this]
 ·rw [decide_eq_false (by omega)]
theorem r_ValidSort (s:Srt) (w:World):Calls Tryz.prog n_enthymemeref06_ValidSort #[srtV s] w fun r w'=>r=.returned (.int .i64 (sortE s))∧Fr0 w w':=by
 refine enthymemeref06_ValidSort.okT _ _ _ w _ ((lh0 [] (by simp)).newg fun b1 w1 H1=>?_)
 have fin:∀{w2:World} {L:List En} (b:Bool),b=validS s→LH F0 w w2 L []→enthymemeref06_ValidSort.S0T b w2 fun r w'=>r=.returned (.int .i64 (sortE s))∧Fr0 w w':=by
  rintro w2 L b rfl H
  refine sel_not (fun h=>⟨?_,H.fr⟩) (fun h=>⟨?_,H.fr⟩)
  ·unfold sortE;rw [if_neg (by simp [h])]
  ·unfold sortE;rw [if_pos h]
 have plain:∀lo:Int,(validS s=(decide (lo≤s.n∧s.n≤64)&&(s.x==0)))→callF [b1] Tryz.prog n_enthymemeref06_within #[.int .i64 s.n,.int .i64 lo,.int .i64 64] w1 fun r_ w2=>∃t10:Bool,r_=.returned (.bool t10)∧sel t10 (enthymemeref06_ValidSort.S0T (s.x==0) w2 fun r w'=>r=.returned (.int .i64 (sortE s))∧Fr0 w w') (enthymemeref06_ValidSort.S0T false w2 fun r w'=>r=.returned (.int .i64 (sortE s))∧Fr0 w w'):=by
  intro lo hv
  refine H1.callg (r_within _ _ _ w1) ?_
  rintro _ w2 rfl H2
  refine ⟨_,rfl,sel_intro (fun h=>fin _ ?_ H2) (fun h=>fin _ ?_ H2)⟩
  ·rw [hv,h];rfl
  ·rw [hv,h];rfl
 have array:∀lo:Int,(validS s=(decide (lo≤s.n∧s.n≤64)&&decide (1≤s.x∧s.x≤16)))→callF [b1] Tryz.prog n_enthymemeref06_within #[.int .i64 s.n,.int .i64 lo,.int .i64 64] w1 fun r_ w2=>∃t10:Bool,r_=.returned (.bool t10)∧sel t10 (callF [b1] Tryz.prog n_enthymemeref06_within #[.int .i64 s.x,.int .i64 1,.int .i64 16] w2 fun r_ w5=>∃t34:Bool,r_=.returned (.bool t34)∧enthymemeref06_ValidSort.S0T t34 w5 fun r w'=>r=.returned (.int .i64 (sortE s))∧Fr0 w w') (enthymemeref06_ValidSort.S0T false w2 fun r w'=>r=.returned (.int .i64 (sortE s))∧Fr0 w w'):=by
  intro lo hv
  refine H1.callg (r_within _ _ _ w1) ?_
  rintro _ w2 rfl H2
  refine ⟨_,rfl,sel_intro (fun h=>H2.callg (r_within _ _ _ w2) ?_) (fun h=>fin _ ?_ H2)⟩
  ·rintro _ w3 rfl H3
   exact ⟨_,rfl,fin _ (by rw [hv,h];rfl) H3⟩
  ·rw [hv,h];rfl
 refine sel_eq (fun h0=>plain 1 ?_) (fun h0=>sel_eq (fun h1'=>plain 0 ?_) (fun h1'=>sel_eq (fun h2'=>array 1 ?_) (fun h2'=>sel_eq (fun h3'=>array 0 ?_) (fun h3'=>fin _ ?_ H1))))
 ·unfold validS;simp [h0]
 ·unfold validS;simp [h1']
 ·unfold validS;simp [h2',Bool.and_assoc]
 ·unfold validS;simp [h3',Bool.and_assoc]
 ·unfold validS;simp [h0,h1',h2',h3']
end Go.Proofs.YtcifihepfadgfaaGreatDoor
set_option maxRecDepth 100000
namespace Go.Proofs.YtcifihepfadgfaaGreatDoor
open Go Go.W
abbrev nodeD (s:Sl) (l:List Nd) (d:Nd):List En:=[.gr s l,kidE d]
theorem lhN {w:World} {s:Sl} {l:List Nd} {d:Nd} (h:GP w s l) (hd:d.P w):LH F0 w w [] (nodeD s l d):=lh0 _ (by
 intro e he
 simp only [List.mem_cons,List.not_mem_nil,or_false] at he
 rcases he with rfl|rfl
 ·exact gr_P.2 h
 ·exact hd)
theorem c_Has01 {w:World} {s:Sl} {l:List Int} (h:Nums w s l) (hl:l.length≤1000000000000) (n:Int):Calls Tryz.prog n_enthymemeref01_Has #[s.v,.i n] w fun r w'=>r=.returned (.bool (decide (n∈l)))∧Fr0 w w':=by
 have hn:=Nums.len h
 have loop:∀(d i:Nat),i+d=l.length→(n∈l↔n∈l.drop i)→enthymemeref01_Has.L0 s n (i:Int) w fun r w'=>r=.returned (.bool (decide (n∈l)))∧Fr0 w w':=by
  intro d
  induction d with
  |zero=>
   intro i hi he
   rw [List.drop_of_length_le (by omega)] at he
   exact enthymemeref01_Has.L0_step _ _ _ _ _ (sel_false (decide_eq_false (by omega)) ⟨by rw [decide_eq_false (fun h=>by have:=he.1 h;simp at this)],Fr.refl _ _⟩)
  |succ d ih=>
   intro i hi he
   have hg:l[i]? =some (l[i]'(by omega)):=List.getElem?_eq_getElem (by omega)
   rw [List.drop_eq_getElem_cons (by omega:i<l.length),List.mem_cons] at he
   generalize l[i]'(by omega)=x at hg he
   refine enthymemeref01_Has.L0_step _ _ _ _ _ (sel_true (decide_eq_true (by omega)) ⟨by omega,by omega,h.cell hg (by omega) fun p hp hc=>⟨x,hc,sel_eq (fun e=>⟨?_,Fr.refl _ _⟩) (fun e=>?_)⟩⟩)
   ·rw [decide_eq_true (he.2 (.inl e.symm))]
   ·rw [i64_next _ (by omega)]
    exact ih (i+1) (by omega) (he.trans ⟨fun h=>h.resolve_left (fun h=>e h.symm),.inr⟩)
 exact enthymemeref01_Has.ok _ _ w _ (loop l.length 0 (by omega) (by simp))
theorem c_has {w:World} {s:Sl} {l:List Int} (h:Nums w s l) (hl:l.length≤1000000000000) (n:Int):Calls Tryz.prog n_enthymemeref07_has #[s.v,.i n] w fun r w'=>r=.returned (.bool (decide (n∈l)))∧Fr0 w w':=by
 refine enthymemeref07_has.ok _ _ w _ ((c_Has01 h hl n).mono ?_)
 rintro _ w1 ⟨rfl,f⟩
 exact ⟨_,rfl,rfl,f⟩
theorem blk_nums {w:World} {b n:Nat} {l:List Int} {T:TypeId} (h:w.heap[b]? =some (.cells (l.map intV).toArray T (0,0))) (hn:n=l.length):Nums w ⟨some (at0 b),n,n⟩ l:=
 blk_rd h (by simpa using hn)
def MaxL:Nat:=1000000000
theorem fieldsOk_eq (op:Int):(decide (op∈[(21:Int),22,23,28])=hasN op)∧(decide (op∈[(0:Int),2,33])=hasT op):=by
 constructor
 ·unfold hasN
  by_cases h1:op=21
  ·subst h1;rfl
  by_cases h2:op=22
  ·subst h2;rfl
  by_cases h3:op=23
  ·subst h3;rfl
  by_cases h4:op=28
  ·subst h4;rfl
  simp [h1,h2,h3,h4]
 ·unfold hasT
  by_cases h1:op=0
  ·subst h1;rfl
  by_cases h2:op=2
  ·subst h2;rfl
  by_cases h3:op=33
  ·subst h3;rfl
  simp [h1,h2,h3]
theorem emp_tx (t:ByteArray):(t.toList==(ByteArray.mk #[]).toList)=decide (t=ba []):=tx_eq _ _
theorem okF_sel {n:Nx} {A B:Prop} (h:sel (okF n) B A):∀a b:Bool,a=hasN n.op→b=hasT n.op→
  let T:=sel (!b) (sel (!(n.tx.toList==(ByteArray.mk #[]).toList)) A B) B
  let U:=sel (n.op !=1) (sel (n.u !=0) A T) T
  let M:=sel (n.op !=21) (sel (n.m !=0) A U) U
  sel (!a) (sel (n.n !=0) A M) M:=by
 rintro a b rfl rfl
 dsimp only
 rw [emp_tx]
 unfold okF at h
 have e1:(n.op !=1)= !(n.op==1):=rfl
 have e2:(n.op !=21)= !(n.op==21):=rfl
 have e3:(n.n !=0)= !(n.n==0):=rfl
 have e4:(n.m !=0)= !(n.m==0):=rfl
 have e5:(n.u !=0)= !(n.u==0):=rfl
 rw [e1,e2,e3,e4,e5]
 generalize (n.op==1)=p1 at *
 generalize (n.op==21)=p2 at *
 generalize (n.n==0)=p3 at *
 generalize (n.m==0)=p4 at *
 generalize (n.u==0)=p5 at *
 generalize decide (n.tx=ba [])=p6 at *
 generalize hasN n.op=p7 at *
 generalize hasT n.op=p8 at *
 cases p1<;>cases p2<;>cases p3<;>cases p4<;>cases p5<;>cases p6<;>cases p7<;>cases p8<;>exact h
def fldE (g:List Nx) (n:Nx):Int:=if (kidsN n.op==(n.kids.length:Int)&&n.kids.all (kidIn g)&&okF n)=true then 0 else 1
theorem c_fields {w:World} {s:Sl} {l:List Nd} {d:Nd} (h:GP w s l) (hd:d.P w) (hk:d.x.kids.length≤MaxL):Calls Tryz.prog n_enthymemeref07_fields #[s.v,d.v] w fun r w'=>r=.returned (.i (fldE (xs l) d.x))∧Fr0 w w':=by
 have hn:=gr_n h
 have hkn:d.ks.n=d.x.kids.length:=Nums.len hd
 have hxl:(xs l).length=l.length:=by simp [xs]
 unfold MaxL at hk
 have loop:∀(m i:Nat) (b3:Nat) (w1:World),i+m=d.x.kids.length→(kidsN d.x.op==(d.x.kids.length:Int))=true→(d.x.kids.all (kidIn (xs l))=(d.x.kids.drop i).all (kidIn (xs l)))→LH F0 w w1 [.g b3] (nodeD s l d)→
   enthymemeref07_fields.L0T s b3 d.x.op d.ks d.x.n d.x.m d.x.u d.x.tx d.x.st.k d.x.st.n d.x.st.x (i:Int) w1 fun r w'=>r=.returned (.i (fldE (xs l) d.x))∧Fr0 w w':=by
  intro m
  induction m with
  |zero=>
   intro i b3 w1 hi hq he H
   rw [List.drop_of_length_le (by omega)] at he
   refine enthymemeref07_fields.L0T_step _ _ _ _ _ _ _ _ _ _ _ _ _ _ (sel_false (decide_eq_false (by omega)) (H.nw fun w2 _ H2=>H2.callg (c_has (l:=[21,22,23,28]) (blk_nums (n:=4) (H2.ob 1) rfl) (by decide) d.x.op) ?_))
   rintro _ w3 rfl H3
   refine ⟨_,rfl,H3.nw fun w4 _ H4=>H4.callg (c_has (l:=[0,2,33]) (blk_nums (n:=3) (H4.ob 2) rfl) (by decide) d.x.op) ?_⟩
   rintro _ w5 rfl H5
   refine ⟨_,rfl,?_⟩
   have hf:∀b:Bool,okF d.x=b→fldE (xs l) d.x=if b=true then 0 else 1:=fun b hb=>by
    unfold fldE
    rw [hq,he,hb]
    rfl
   exact okF_sel (n:=d.x) (sel_intro (fun h=>⟨by rw [hf _ h];rfl,H5.fr⟩) (fun h=>⟨by rw [hf _ h];rfl,H5.fr⟩)) _ _ (fieldsOk_eq d.x.op).1 (fieldsOk_eq d.x.op).2
  |succ m ih=>
   intro i b3 w1 hi hq he H
   have hg:d.x.kids[i]? =some (d.x.kids[i]'(by omega)):=List.getElem?_eq_getElem (by omega)
   rw [List.drop_eq_getElem_cons (by omega:i<d.x.kids.length),List.all_cons] at he
   generalize d.x.kids[i]'(by omega)=x at hg he
   have bad:kidIn (xs l) x=false→(Ending.returned (.i 1)=.returned (.i (fldE (xs l) d.x))∧Fr0 w w1):=fun hx=>⟨by unfold fldE;rw [he,hx];simp,H.fr⟩
   have hn1:Nums w1 d.ks d.x.kids:=H.getD 1
   refine enthymemeref07_fields.L0T_step _ _ _ _ _ _ _ _ _ _ _ _ _ _ (sel_true (decide_eq_true (by omega)) ⟨by omega,by omega,hn1.cell hg (by omega) fun p hp hc=>⟨x,hc,sel_dec (fun h1=>bad ?_) (fun h1=>⟨by omega,by omega,hn1.cell hg (by omega) fun p' hp' hc'=>⟨x,hc',sel_dec (fun h2=>bad ?_) (fun h2=>?_)⟩⟩)⟩⟩)
   ·unfold kidIn;rw [decide_eq_false (by omega)];rfl
   ·unfold kidIn;rw [decide_eq_false (show ¬x<((xs l).length:Int) by rw [hxl];omega)];simp
   ·rw [i64_next _ (by omega)]
    refine ih (i+1) b3 w1 (by omega) hq ?_ H
    rw [he]
    unfold kidIn
    rw [decide_eq_true (show 0≤x by omega),decide_eq_true (show x<((xs l).length:Int) by rw [hxl];omega)]
    rfl
 refine enthymemeref07_fields.okT _ _ _ _ _ _ _ _ _ _ w _ ((lhN h hd).newg fun b3 w1 H1=>H1.locg fun w2 H2=>H2.callg (c_Kids d.x.op w2) ?_)
 rintro _ w3 rfl H3
 refine ⟨_,rfl,sel_ne (fun hne=>⟨?_,H3.fr⟩) (fun heq=>?_)⟩
 ·unfold fldE
  rw [beq_eq_false_iff_ne.2 (by rw [hkn] at hne;exact hne)]
  rfl
 ·exact loop d.x.kids.length 0 b3 w3 (by omega) (by rw [heq,hkn];simp) (by simp) H3
end Go.Proofs.YtcifihepfadgfaaGreatDoor
set_option maxRecDepth 100000
namespace Go.Proofs.YtcifihepfadgfaaGreatDoor
open Go Go.W
def VarsOk (g:List Nx):Prop:=∀d∈g,d.op=0→∀e∈g,e.op=0→d.tx=e.tx→d.st=e.st
theorem VarsOk.tail {d:Nx} {g:List Nx} (h:VarsOk (d::g)):VarsOk g:=fun a ha h1 b hb h2=>h a (List.mem_cons_of_mem _ ha) h1 b (List.mem_cons_of_mem _ hb) h2
def twin (n d:Nx):Bool:=decide (d.op=0∧d.tx=n.tx∧d.st≠n.st)
theorem varS_mem {t:ByteArray} {s:Srt}:∀{g:List Nx},varS g t=some s→∃d∈g,d.op=0∧d.tx=t∧d.st=s
 |d::g,h=>by
  unfold varS at h
  split at h
  ·rename_i hc
   exact ⟨d,by simp,hc.1,hc.2,Option.some.inj h⟩
  ·obtain ⟨e,he,h⟩:=varS_mem h
   exact ⟨e,List.mem_cons_of_mem _ he,h⟩
theorem varS_none {t:ByteArray}:∀{g:List Nx},varS g t=none→∀d∈g,d.op=0→d.tx≠t
 |a::g,h,d,hd,h0,ht=>by
  unfold varS at h
  split at h
  ·cases h
  ·rename_i hc
   rcases List.mem_cons.1 hd with rfl|hd
   ·exact hc ⟨h0,ht⟩
   ·exact varS_none h d hd h0 ht
theorem twice_any {g:List Nx} (hv:VarsOk g) (n:Nx):twice g n=g.any (twin n):=by
 unfold twice
 cases h:varS g n.tx with
 |none=>
  symm
  rw [List.any_eq_false]
  intro d hd ht
  have ht:=of_decide_eq_true ht
  exact varS_none h d hd ht.1 ht.2.1
 |some s=>
  obtain ⟨d,hd,h0,h1,h2⟩:=varS_mem h
  by_cases hs:s=n.st
  ·simp only [hs,decide_true,Bool.not_true]
   symm
   rw [List.any_eq_false]
   intro e he ht
   have ht:=of_decide_eq_true ht
   exact ht.2.2 ((hv e he ht.1 d hd h0 (ht.2.1.trans h1.symm)).trans (h2.trans hs))
  ·simp only [hs,decide_false,Bool.not_false]
   symm
   rw [List.any_eq_true]
   exact ⟨d,hd,decide_eq_true ⟨h0,h1,fun e=>hs (h2.symm.trans e)⟩⟩
theorem pow_word (n:Int) (h0:0≤n) (h1:n<64):IntKind.wrap .u64 (1 *2^(min (Int.toNat n) (IntKind.bits .u64)))=((2^n.toNat:Nat):Int):=by
 have e:min (Int.toNat n) (IntKind.bits .u64)=n.toNat:=by show min n.toNat 64=_;omega
 have hp:(2:Nat)^n.toNat≤2^63:=Nat.pow_le_pow_right (by omega) (by omega)
 rw [e,Int.one_mul,show ((2:Int)^n.toNat)=((2^n.toNat:Nat):Int) from by rw [Int.natCast_pow];rfl]
 generalize (2:Nat)^n.toNat=m at hp
 exact IntWalk.u64_in _ (by omega)
abbrev sortR (x:Srt×Int):Ending:=.returned (.tuple #[srtV x.1,.i x.2])
theorem valid_bv {s:Srt} (h:validS s=true) (hk:s.k=0):1≤s.n∧s.n≤64∧s.x=0:=by
 unfold validS at h
 simp [hk] at h
 omega
theorem valid_n {s:Srt} (h:validS s=true):0≤s.n∧s.n≤64∧0≤s.x∧s.x≤16∧0≤s.k∧s.k≤3:=by
 unfold validS at h
 simp at h
 omega
theorem c_leaf {w:World} {s:Sl} {l:List Nd} {d:Nd} (h:GP w s l) (hd:d.P w) (hl:l.length≤MaxL) (h0:0≤d.x.op) (h3:d.x.op≤3) (hv:VarsOk (xs l)):Calls Tryz.prog n_enthymemeref07_leaf #[s.v,d.v] w fun r w'=>r=sortR (leafX (xs l) d.x)∧Fr0 w w':=by
 have hn:=gr_n h
 have hxl:(xs l).length=l.length:=by simp [xs]
 unfold MaxL at hl
 have e0:d.x.op=0∨d.x.op=1∨d.x.op=2∨d.x.op=3:=by omega
 refine enthymemeref07_leaf.okT _ _ _ _ _ _ _ _ _ _ w _ ((lhN h hd).newg fun b3 w1 H1=>H1.newg fun b4 w2 H2=>sel_eq (fun h2=>?_) (fun h2=>?_))
 ·refine sel_dec (fun hs=>H2.locg fun w3 H3=>⟨?_,H3.fr⟩) (fun hs=>H2.callg (c_Strings _ w2) ?_)
  ·unfold leafX;rw [if_pos h2,if_pos (by omega)];rfl
  ·rintro _ w3 rfl H3
   refine ⟨_,_,_,rfl,H3.locg fun w4 H4=>⟨?_,H4.fr⟩⟩
   unfold leafX;rw [if_pos h2,if_neg (by omega)]
 have l1:leafX (xs l) d.x=if d.x.op=0∧nameB (bl d.x.tx)=false then (noS,6) else
   if validS d.x.st=false then (noS,9) else
   if d.x.op=1∧d.x.st.k≠0∨d.x.op=3∧arrS d.x.st=false then (noS,9) else
   if d.x.op=1∧big d.x.u d.x.st.n=true then (noS,5) else
   if d.x.op=0∧(xs l).any (twin d.x)=true then (noS,8) else (d.x.st,0):=by
  unfold leafX;rw [if_neg h2,twice_any hv]
 have S0:∀(nm:Bool) (w3:World),nm=(!decide (d.x.op=0)||nameB (bl d.x.tx))→LH F0 w w3 [.g b3,.g b4] (nodeD s l d)→enthymemeref07_leaf.S0T s b3 d.x.op d.ks d.x.n d.x.m d.x.u d.x.tx d.x.st.k d.x.st.n d.x.st.x b4 0 0 0 nm w3 fun r w'=>r=sortR (leafX (xs l) d.x)∧Fr0 w w':=by
  intro nm w3 hnm H3
  refine sel_not (fun hf=>H3.locg fun w4 H4=>⟨?_,H4.fr⟩) (fun ht=>?_)
  ·rw [hf] at hnm
   have hnm:=hnm.symm
   simp only [Bool.or_eq_false_iff,Bool.not_eq_false',decide_eq_true_eq] at hnm
   rw [l1,if_pos hnm];rfl
  have hnm2:¬(d.x.op=0∧nameB (bl d.x.tx)=false):=fun hc=>by rw [ht,hc.2,decide_eq_true hc.1] at hnm;simp at hnm
  rw [if_neg hnm2] at l1
  refine H3.callg (r_ValidSort d.x.st w3) ?_
  rintro _ w4 rfl H4
  refine ⟨_,rfl,sel_srtE (fun hf=>H4.locg fun w5 H5=>⟨?_,H5.fr⟩) (fun ht=>?_)⟩
  ·rw [l1,if_pos hf];unfold sortE;rw [hf];rfl
  rw [if_neg (by rw [ht];simp)] at l1
  have loop:∀(m i:Nat) (w5:World),i+m=l.length→leafX (xs l) d.x=(if d.x.op=0∧((xs l).drop i).any (twin d.x)=true then (noS,8) else (d.x.st,0))→LH F0 w w5 [.g b3,.g b4] (nodeD s l d)→
    enthymemeref07_leaf.L5T s b3 d.x.op d.ks d.x.n d.x.m d.x.u d.x.tx d.x.st.k d.x.st.n d.x.st.x b4 0 0 0 (i:Int) w5 fun r w'=>r=sortR (leafX (xs l) d.x)∧Fr0 w w':=by
   intro m
   induction m with
   |zero=>
    intro i w5 hi he H5
    rw [List.drop_of_length_le (by omega)] at he
    refine enthymemeref07_leaf.L5T_step _ _ _ _ _ _ _ _ _ _ _ _ _ _ _ _ _ _ (sel_false (decide_eq_false (by omega)) (H5.locg fun w6 H6=>⟨?_,H6.fr⟩))
    rw [he,if_neg (by simp)]
   |succ m ih=>
    intro i w5 hi he H5
    have hg:l[i]? =some (l[i]'(by omega)):=List.getElem?_eq_getElem (by omega)
    have hx:(xs l).drop i=(l[i]'(by omega)).x::(xs l).drop (i+1):=by
     rw [List.drop_eq_getElem_cons (by omega:i<(xs l).length)]
     simp [xs]
    rw [hx,List.any_cons] at he
    generalize l[i]'(by omega)=e at hg he
    have next:∀w6,LH F0 w w6 [.g b3,.g b4] (nodeD s l d)→(d.x.op=0→twin d.x e.x=false)→enthymemeref07_leaf.S6T s b3 d.x.op d.ks d.x.n d.x.m d.x.u d.x.tx d.x.st.k d.x.st.n d.x.st.x b4 0 0 0 (i:Int) w6 fun r w'=>r=sortR (leafX (xs l) d.x)∧Fr0 w w':=by
     intro w6 H6 ht
     show enthymemeref07_leaf.L5T s b3 d.x.op d.ks d.x.n d.x.m d.x.u d.x.tx d.x.st.k d.x.st.n d.x.st.x b4 0 0 0 (IntKind.wrap .i64 ((i:Int)+1)) w6 _
     rw [i64_next _ (by omega)]
     refine ih (i+1) w6 (by omega) ?_ H6
     rw [he]
     by_cases ho:d.x.op=0
     ·rw [ht ho,Bool.false_or]
     ·rw [if_neg (fun h=>ho h.1),if_neg (fun h=>ho h.1)]
    have G5:GP w5 s l:=gr_P.1 (H5.getD 0)
    refine enthymemeref07_leaf.L5T_step _ _ _ _ _ _ _ _ _ _ _ _ _ _ _ _ _ _ (sel_true (decide_eq_true (by omega)) (sel_eq (fun ho=>?_) (fun ho=>H5.locg fun w6 H6=>next w6 H6 (fun h=>absurd h ho))))
    refine gr_at G5 rfl hg fun p hp _=>H5.locg fun w6 H6=>?_
    have c6:=gr_again (gr_P.1 (H6.getD 0)) hg hp (rfl:((i:Int))=(i:Int))
    refine ⟨_,c6.c0,sel_eq (fun hv0=>?_) (fun hv0=>next w6 H6 fun _=>decide_eq_false fun h=>hv0 h.1)⟩
    refine gr_at (gr_P.1 (H6.getD 0)) rfl hg fun p1 hp1 c61=>⟨_,c61.c5,sel_tx (fun ht=>?_) (fun ht=>next w6 H6 fun _=>decide_eq_false fun h=>ht h.2.1)⟩
    refine gr_at (gr_P.1 (H6.getD 0)) rfl hg fun p2 hp2 c62=>⟨_,_,_,c62.s0,c62.s1,c62.s2,sel_srtN (fun hf=>H6.locg fun w7 H7=>⟨?_,H7.fr⟩) (fun ht2=>next w6 H6 fun _=>decide_eq_false fun h=>h.2.2 ht2)⟩
    rw [he,if_pos ⟨ho,by rw [show twin d.x e.x=true from decide_eq_true ⟨hv0,ht,hf⟩];rfl⟩]
    rfl
  have S4:∀w5:World,leafX (xs l) d.x=(if d.x.op=0∧(xs l).any (twin d.x)=true then (noS,8) else (d.x.st,0))→LH F0 w w5 [.g b3,.g b4] (nodeD s l d)→
    enthymemeref07_leaf.S4T s b3 d.x.op d.ks d.x.n d.x.m d.x.u d.x.tx d.x.st.k d.x.st.n d.x.st.x b4 0 0 0 w5 fun r w'=>r=sortR (leafX (xs l) d.x)∧Fr0 w w':=fun w5 he H5=>loop l.length 0 w5 (by omega) he H5
  have S1:∀(a:Bool) (w5:World),a=arrS d.x.st→LH F0 w w5 [.g b3,.g b4] (nodeD s l d)→enthymemeref07_leaf.S1T s b3 d.x.op d.ks d.x.n d.x.m d.x.u d.x.tx d.x.st.k d.x.st.n d.x.st.x b4 0 0 0 a w5 fun r w'=>r=sortR (leafX (xs l) d.x)∧Fr0 w w':=by
   rintro a w5 rfl H5
   have bad:(d.x.op=1∧d.x.st.k≠0∨d.x.op=3∧arrS d.x.st=false)→enthymemeref07_leaf.S2T b4 0 0 0 w5 fun r w'=>r=sortR (leafX (xs l) d.x)∧Fr0 w w':=fun hb=>H5.locg fun w6 H6=>⟨by rw [l1,if_pos hb];rfl,H6.fr⟩
   have S3:¬(d.x.op=1∧d.x.st.k≠0∨d.x.op=3∧arrS d.x.st=false)→enthymemeref07_leaf.S3T s b3 d.x.op d.ks d.x.n d.x.m d.x.u d.x.tx d.x.st.k d.x.st.n d.x.st.x b4 0 0 0 w5 fun r w'=>r=sortR (leafX (xs l) d.x)∧Fr0 w w':=fun hb=>by
    rw [if_neg hb] at l1
    refine sel_eq (fun h1=>?_) (fun h1=>S4 w5 (by rw [l1,if_neg (fun h=>h1 h.1)]) H5)
    have hk:d.x.st.k=0:=by
     rcases Int.decEq d.x.st.k 0 with h|h
     ·exact absurd (.inl ⟨h1,h⟩) hb
     ·exact h
    obtain ⟨v1,v2,_⟩:=valid_bv ht hk
    have ew:IntKind.wrap .u64 d.x.st.n=d.x.st.n:=IntWalk.u64_in _ (by omega)
    refine sel_dec (fun h64=>⟨by rw [ew];omega,?_⟩) (fun h64=>S4 w5 (by rw [l1,if_neg];rintro ⟨_,hb⟩;unfold big at hb;rw [decide_eq_false (by omega)] at hb;cases hb) H5)
    rw [ew,pow_word _ (by omega) h64]
    have hp:((2^d.x.st.n.toNat:Nat):Int)=(2:Int)^d.x.st.n.toNat:=by rw [Int.natCast_pow];rfl
    rw [hp]
    refine sel_dec (fun hge=>H5.locg fun w6 H6=>⟨?_,H6.fr⟩) (fun hge=>S4 w5 ?_ H5)
    ·rw [l1,if_pos ⟨h1,by unfold big;rw [decide_eq_true h64,decide_eq_true hge];rfl⟩];rfl
    ·rw [l1,if_neg]
     rintro ⟨_,hb⟩
     unfold big at hb
     rw [decide_eq_false (by omega:¬(2:Int)^d.x.st.n.toNat≤d.x.u),Bool.and_false] at hb
     cases hb
   have third:¬(d.x.op=1∧d.x.st.k≠0)→sel (d.x.op==3) (sel (!arrS d.x.st) (enthymemeref07_leaf.S2T b4 0 0 0 w5 fun r w'=>r=sortR (leafX (xs l) d.x)∧Fr0 w w') (enthymemeref07_leaf.S3T s b3 d.x.op d.ks d.x.n d.x.m d.x.u d.x.tx d.x.st.k d.x.st.n d.x.st.x b4 0 0 0 w5 fun r w'=>r=sortR (leafX (xs l) d.x)∧Fr0 w w')) (enthymemeref07_leaf.S3T s b3 d.x.op d.ks d.x.n d.x.m d.x.u d.x.tx d.x.st.k d.x.st.n d.x.st.x b4 0 0 0 w5 fun r w'=>r=sortR (leafX (xs l) d.x)∧Fr0 w w'):=fun hk=>
    sel_eq (fun h3=>sel_not (fun hf=>bad (.inr ⟨h3,hf⟩)) (fun ht=>S3 (by rintro (h|h);exact hk h;rw [ht] at h;cases h.2))) (fun h3=>S3 (by rintro (h|h);exact hk h;exact h3 h.1))
   exact sel_eq (fun h1=>sel_ne (fun hk=>bad (.inl ⟨h1,hk⟩)) (fun hk=>third (fun h=>h.2 hk))) (fun h1=>third (fun h=>h1 h.1))
  refine sel_eq (fun hk2=>S1 true w4 ?_ H4) (fun hk2=>S1 _ w4 ?_ H4)
  ·unfold arrS;rw [hk2];rfl
  ·unfold arrS;rw [beq_eq_false_iff_ne.2 hk2];rfl
 refine sel_ne (fun hv0=>S0 true w2 ?_ H2) (fun hv0=>H2.callg (c_Named d.x.tx w2) ?_)
 ·rw [decide_eq_false hv0];rfl
 ·rintro _ w3 rfl H3
  exact ⟨_,rfl,S0 _ w3 (by rw [decide_eq_true hv0];rfl) H3⟩
end Go.Proofs.YtcifihepfadgfaaGreatDoor
set_option maxRecDepth 100000
namespace Go.Proofs.YtcifihepfadgfaaGreatDoor
open Go Go.W
theorem valid_of {s:Srt} (h:(s.k=0∧1≤s.n∧s.n≤64∧s.x=0)∨(s.k=1∧0≤s.n∧s.n≤64∧s.x=0)∨(s.k=2∧1≤s.n∧s.n≤64∧1≤s.x∧s.x≤16)∨(s.k=3∧0≤s.n∧s.n≤64∧1≤s.x∧s.x≤16)):validS s=true:=by
 unfold validS
 rcases h with ⟨h1,h2,h3,h4⟩|⟨h1,h2,h3,h4⟩|⟨h1,h2,h3,h4,h5⟩|⟨h1,h2,h3,h4,h5⟩<;>simp [h1,h2,h3,h4]<;>simp [h5]
theorem valid_iff {s:Srt}:validS s=true↔(s.k=0∧1≤s.n∧s.n≤64∧s.x=0)∨(s.k=1∧0≤s.n∧s.n≤64∧s.x=0)∨(s.k=2∧1≤s.n∧s.n≤64∧1≤s.x∧s.x≤16)∨(s.k=3∧0≤s.n∧s.n≤64∧1≤s.x∧s.x≤16):=by
 refine ⟨fun h=>?_,valid_of⟩
 unfold validS at h
 simp only [Bool.or_eq_true,Bool.and_eq_true,beq_iff_eq,decide_eq_true_eq] at h
 omega
structure SrtOk (g:List Nx) (n:Nx):Prop where
 kl:kidsN n.op=(n.kids.length:Int)
 ki:∀k∈n.kids,0≤k∧k<(g.length:Int)
 ok:okF n=true
theorem srt_ok {g:List Nx} {n:Nx} (h:(srtX g n).2=0):SrtOk g n:=by
 unfold srtX at h
 split at h
 ·cases h
 ·rename_i hc
  simp only [Bool.and_eq_false_iff,not_or,Bool.not_eq_false,beq_iff_eq] at hc
  refine ⟨hc.1.1,fun k hk=>?_,hc.2⟩
  have:=List.all_eq_true.1 hc.1.2 k hk
  unfold kidIn at this
  simpa using this
theorem kst_ok {g:List Nx} {n:Nx} (hv:∀d∈g,validS d.st=true) (hk:∀k∈n.kids,0≤k∧k<(g.length:Int)) {i:Nat} (hi:i<n.kids.length):validS (kst g n i)=true:=by
 have h1:=hk _ (List.getElem_mem hi)
 unfold kst
 rw [List.getElem?_eq_getElem hi]
 dsimp only
 have h2:(n.kids[i]).toNat<g.length:=by omega
 rw [List.getElem?_eq_getElem h2]
 exact hv _ (List.getElem_mem h2)
theorem elem_valid {x:Srt} (h:validS x=true) (ha:arrS x=true):validS (elemS x)=true:=by
 rw [valid_iff] at h
 unfold arrS at ha
 simp only [Bool.or_eq_true,beq_iff_eq] at ha
 unfold elemS
 refine valid_of ?_
 split
 ·show (0=0∧1≤x.n∧x.n≤64∧0=0)∨_
  left;omega
 ·right;left
  show (1:Int)=1∧0≤x.n∧x.n≤64∧(0:Int)=0
  omega
theorem bv_valid {n:Int} (h1:1≤n) (h2:n≤64):validS (bvS n)=true:=valid_of (.inl ⟨rfl,h1,h2,rfl⟩)
theorem str_valid {n:Int} (h1:0≤n) (h2:n≤64):validS (strS n)=true:=valid_of (.inr (.inl ⟨rfl,h1,h2,rfl⟩))
theorem srt_valid {g:List Nx} {n:Nx} (hv:∀d∈g,validS d.st=true) (h:(srtX g n).2=0):validS (srtX g n).1=true:=by
 have ho:=srt_ok h
 have hk:∀i:Nat,(i:Int)<kidsN n.op→validS (kst g n i)=true:=fun i hi=>kst_ok hv ho.ki (by have:=ho.kl;omega)
 unfold srtX at h ⊢
 split at h
 ·cases h
 rename_i hc
 rw [if_neg hc]
 split at h
 ·rename_i h3
  rw [if_pos h3]
  unfold leafX at h ⊢
  split at h
  ·rename_i h2
   rw [if_pos h2]
   split at h
   ·cases h
   ·rename_i h64
    rw [if_neg h64]
    exact str_valid (by omega) (by omega)
  ·rename_i h2
   rw [if_neg h2]
   split at h
   ·cases h
   rename_i h0
   rw [if_neg h0]
   split at h
   ·cases h
   rename_i h1
   rw [if_neg h1]
   split at h
   ·cases h
   rename_i h4
   rw [if_neg h4]
   split at h
   ·cases h
   rename_i h5
   rw [if_neg h5]
   split at h
   ·cases h
   rename_i h6
   rw [if_neg h6]
   simpa using h1
 rename_i h3
 rw [if_neg h3]
 split at h
 ·cases h
 rename_i hf
 rw [if_neg hf]
 split at h
 ·cases h
 rename_i hr
 rw [if_neg hr]
 split at h
 ·cases h
 rename_i hc2
 rw [if_neg hc2]
 simp only [Bool.not_eq_false] at hf hr
 have h34:n.op≤34:=by
  rcases Int.lt_or_le 34 n.op with h|h
  ·have:=ho.kl
   unfold kidsN at this
   rw [if_pos (.inr h)] at this
   omega
  ·exact h
 generalize hx:kst g n 0=x at *
 generalize hy:kst g n 1=y at *
 generalize hz:kst g n 2=z at *
 have vx:validS x=true:=by rw [←hx];exact hk 0 (by unfold kidsN;repeat' split<;>omega)
 have hy2:2≤kidsN n.op→validS y=true:=fun h=>by rw [←hy];exact hk 1 (by omega)
 have hz2:kidsN n.op=3→validS z=true:=fun h=>by rw [←hz];exact hk 2 (by omega)
 obtain ⟨op,kids,nn,m,u,tx,st⟩:=n
 simp only at *
 clear hx hy hz hk ho hc hc2
 rcases op_all (by omega) h34 with rfl|rfl|rfl|rfl|rfl|rfl|rfl|rfl|rfl|rfl|rfl|rfl|rfl|rfl|rfl|rfl|rfl|rfl|rfl|rfl|rfl|rfl|rfl|rfl|rfl|rfl|rfl|rfl|rfl|rfl|rfl|rfl|rfl|rfl|rfl
 iterate 4 omega
 all_goals first |(have hy2:=hy2 (by decide))|skip
 all_goals first |(have hz2:=hz2 (by decide))|skip
 iterate 12 exact vx
 iterate 3 exact bv_valid (by omega) (by omega)
 ·show validS (if y.k=1 then strS (if y.n<z.n then z.n else y.n) else y)=true
  split
  ·rename_i hk
   have hf:(decide (x=bvS 1)&&(decide (y=z)||(y.k==1&&z.k==1)))=true:=hf
   have h1:=valid_n hy2
   have h2:=valid_n hz2
   exact str_valid (by split<;>omega) (by split<;>omega)
  ·exact hy2
 ·have hf:(x.k==0&&y.k==0)=true:=hf
  have hr:decide (x.n+y.n≤64)=true:=hr
  simp only [Bool.and_eq_true,beq_iff_eq] at hf
  have h1:=valid_bv vx hf.1
  have h2:=valid_bv hy2 hf.2
  exact bv_valid (by omega) (of_decide_eq_true hr)
 ·have hf:(x.k==0)=true:=hf
  have hr:(decide (0≤m)&&decide (m≤nn)&&decide (nn<x.n))=true:=hr
  simp only [Bool.and_eq_true,decide_eq_true_eq] at hr
  have h1:=valid_bv vx (eq_of_beq hf)
  show validS (bvS (nn - m+1))=true
  exact bv_valid (by omega) (by omega)
 iterate 2
  ·have hf:(x.k==0)=true:=hf
   have hr:(decide (1≤nn)&&decide (nn≤64 - x.n))=true:=hr
   simp only [Bool.and_eq_true,decide_eq_true_eq] at hr
   have h1:=valid_bv vx (eq_of_beq hf)
   show validS (bvS (x.n+nn))=true
   exact bv_valid (by omega) (by omega)
 ·have hf:(arrS x&&decide (y=bvS x.x))=true:=hf
  simp only [Bool.and_eq_true] at hf
  exact elem_valid vx hf.1
 ·exact vx
 ·have hf:(arrS x&&decide (x=y))=true:=hf
  simp only [Bool.and_eq_true] at hf
  have h1:=hf.1
  unfold arrS at h1
  simp only [Bool.or_eq_true,beq_iff_eq] at h1
  rw [valid_iff] at vx
  exact bv_valid (by omega) (by omega)
 ·exact bv_valid (by omega) (by omega)
 ·exact bv_valid (by omega) (by omega)
 ·have hr:decide (x.n+y.n≤64)=true:=hr
  have h1:=valid_n vx
  have h2:=valid_n hy2
  exact str_valid (by omega) (of_decide_eq_true hr)
 ·exact vx
 ·exact bv_valid (by omega) (by omega)
 ·have hr:decide (x.n+z.n≤64)=true:=hr
  have h1:=valid_n vx
  have h2:=valid_n hz2
  exact str_valid (by omega) (of_decide_eq_true hr)
 ·exact bv_valid (by omega) (by omega)
 ·exact str_valid (by omega) (by omega)
theorem Vg.val {g:List Nx} (h:Vg g):∀d∈g,validS d.st=true:=by
 induction h with
 |nil=>simp
 |snoc hg hs hn ih=>
  intro d hd
  rcases List.mem_append.1 hd with hd|hd
  ·exact ih d hd
  ·simp only [List.mem_cons,List.not_mem_nil,or_false] at hd
   subst hd
   have:=srt_valid ih (by rw [hs])
   rwa [hs] at this
theorem Vg.ok {g:List Nx} (h:Vg g):∀i d,g[i]? =some d→srtX (g.take i) d=(d.st,0):=by
 induction h with
 |nil=>intro i d hd;simp at hd
 |@snoc g n hg hs hn ih=>
  intro i d hd
  rcases Nat.lt_or_ge i g.length with hi|hi
  ·rw [List.getElem?_append_left hi] at hd
   rw [List.take_append_of_le_length (by omega)]
   exact ih i d hd
  ·rw [List.getElem?_append_right hi] at hd
   have:i - g.length=0:=by
    have:=(List.getElem?_eq_some_iff.1 hd).1
    simp at this
    omega
   rw [this] at hd
   simp at hd
   subst hd
   rw [show i=g.length by omega,List.take_left]
   exact hs
theorem Vg.sok {g:List Nx} (h:Vg g):∀i d,g[i]? =some d→SrtOk (g.take i) d:=fun i d hd=>srt_ok (by rw [h.ok i d hd])
theorem Vg.kids {g:List Nx} (h:Vg g) {i:Nat} {d:Nx} (hd:g[i]? =some d):∀k∈d.kids,0≤k∧k<(i:Int):=fun k hk=>by
 have h1:=(h.sok i d hd).ki k hk
 have h2:=(List.getElem?_eq_some_iff.1 hd).1
 rw [List.length_take] at h1
 omega
theorem Vg.vars {g:List Nx} (h:Vg g):VarsOk g:=by
 induction h with
 |nil=>intro d hd;cases hd
 |@snoc g n hg hs hn ih=>
  have one:∀d∈g,d.op=0→n.op=0→d.tx=n.tx→d.st=n.st:=by
   intro d hd h0 h0' ht
   have hso:SrtOk g n:=srt_ok (by rw [hs])
   unfold srtX at hs
   split at hs
   ·simp at hs
   rw [if_pos (by omega:n.op≤3)] at hs
   unfold leafX at hs
   rw [if_neg (by omega)] at hs
   split at hs
   ·simp at hs
   split at hs
   ·simp at hs
   split at hs
   ·simp at hs
   split at hs
   ·simp at hs
   split at hs
   ·simp at hs
   rename_i h1
   simp only [h0',true_and,Bool.not_eq_true] at h1
   rw [twice_any ih,List.any_eq_false] at h1
   rcases decEq d.st n.st with h|h
   ·exact absurd (decide_eq_true ⟨h0,ht,h⟩) (h1 d hd)
   ·exact h
  intro d hd h0 e he h0' ht
  have hd:=List.mem_append.1 hd
  have he:=List.mem_append.1 he
  simp only [List.mem_cons,List.not_mem_nil,or_false] at hd he
  rcases hd with hd|hd
  ·rcases he with he|he
   ·exact ih d hd h0 e he h0' ht
   ·rw [he] at ht h0' ⊢
    exact one d hd h0 h0' ht
  ·rw [hd] at ht h0 ⊢
   rcases he with he|he
   ·exact (one e he h0' h0 ht.symm).symm
   ·rw [he]
theorem idx_none {n:Nx}:∀{g:List Nx} {i:Nat},idxX n g i=none→n∉g
 |[],i,_=>by simp
 |d::g,i,h=>by
  unfold idxX at h
  split at h
  ·cases h
  ·rename_i hd
   simp only [List.mem_cons,not_or]
   exact ⟨fun e=>hd e.symm,idx_none h⟩
theorem idx_some {n:Nx}:∀{g:List Nx} {i k:Nat},idxX n g i=some k→i≤k∧g[k - i]? =some n
 |d::g,i,k,h=>by
  unfold idxX at h
  split at h
  ·rename_i hd
   cases h
   simp [hd]
  ·have:=idx_some h
   refine ⟨by omega,?_⟩
   rw [show k - i=(k - (i+1))+1 by omega]
   simpa using this.2
end Go.Proofs.YtcifihepfadgfaaGreatDoor
set_option maxRecDepth 100000
set_option maxHeartbeats 1000000
namespace Go.Proofs.YtcifihepfadgfaaGreatDoor
open Go Go.W
abbrev srtD (k:Sl) (ks:List Srt):En:=.rdn 3 k (ks.flatMap srtC)
theorem lhS {w:World} {k:Sl} {ks:List Srt} (h:RdN 3 w k (ks.flatMap srtC)):LH F0 w w [] [srtD k ks]:=lh0 _ (by
 intro e he
 simp only [List.mem_cons,List.not_mem_nil,or_false] at he
 subst he
 exact h)
theorem c_fit {w:World} {k:Sl} {ks:List Srt} {x y z:Srt} (op:Int) (h:RdN 3 w k (ks.flatMap srtC)) (hx:ks[0]? =some x) (hy:2≤kidsN op→ks[1]? =some y) (hz:kidsN op=3→ks[2]? =some z) (h4:4≤op) (h34:op≤34):
  Calls Tryz.prog n_enthymemeref07_fit #[.i op,k.v] w fun r w'=>r=.returned (.bool (fitX op x y z))∧Fr0 w w':=by
 refine enthymemeref07_fit.okT _ _ w _ (srt_at h (rfl:(0:Int)=((0:Nat):Int)) hx fun p0 hp0 c0=>⟨x.k,x.n,x.x,c0.c0,c0.c1,c0.c2,(lhS h).newg fun b5 w1 H1=>?_⟩)
 have main:∀(a:Bool) (w2:World),a=arrS x→LH F0 w w2 [.g b5] [srtD k ks]→enthymemeref07_fit.S0T op k b5 x.k x.n x.x (x.k==0) (x.k==1) a w2 fun r w'=>r=.returned (.bool (fitX op x y z))∧Fr0 w w':=by
  rintro a w2 ha H2
  have R2:∀{w3:World} {L:List En},LH F0 w w3 L [srtD k ks]→RdN 3 w3 k (ks.flatMap srtC):=fun H=>H.getD 0
  have e1:(1:Int)=((1:Nat):Int):=rfl
  have e2:(2:Int)=((2:Nat):Int):=rfl
  rcases op_all (by omega) h34 with rfl|rfl|rfl|rfl|rfl|rfl|rfl|rfl|rfl|rfl|rfl|rfl|rfl|rfl|rfl|rfl|rfl|rfl|rfl|rfl|rfl|rfl|rfl|rfl|rfl|rfl|rfl|rfl|rfl|rfl|rfl|rfl|rfl|rfl|rfl
  iterate 4 omega
  all_goals repeat (first |refine sel_false rfl ?_|refine sel_true rfl ?_)
  all_goals first |(have hy:=hy (by decide))|skip
  all_goals first |(have hz:=hz (by decide))|skip
  iterate 2 exact ⟨rfl,H2.fr⟩
  iterate 12
   ·refine sel_eq (fun hk=>?_) (fun hk=>H2.locg fun w3 H3=>⟨?_,H3.fr⟩)
    ·refine srt_at (R2 H2) e1 hy fun p hp _=>H2.locg fun w3 H3=>?_
     have c:=srt_again (R2 H3) e1 hy hp
     refine ⟨_,_,_,c.c0,c.c1,c.c2,?_,H3.fr⟩
     rw [srt_eq]
     show _=Ending.returned (.bool (x.k==0&&decide (x=y)))
     rw [hk];rfl
    ·show _=Ending.returned (.bool (x.k==0&&decide (x=y)))
     rw [beq_eq_false_iff_ne.2 hk];rfl
  ·refine srt_at (R2 H2) e1 hy fun p hp _=>H2.locg fun w3 H3=>?_
   have c:=srt_again (R2 H3) e1 hy hp
   have fe:fitX 18 x y z=(decide (x=y)||(x.k==1&&y.k==1)):=rfl
   rw [fe]
   refine ⟨_,_,_,c.c0,c.c1,c.c2,sel_srt (fun he=>⟨by rw [decide_eq_true he];rfl,H3.fr⟩) (fun he=>?_)⟩
   rw [decide_eq_false he,Bool.false_or]
   refine sel_eq (fun hk=>srt_at (R2 H3) e1 hy fun p' _ c'=>⟨_,c'.c0,?_,H3.fr⟩) (fun hk=>⟨?_,H3.fr⟩)
   ·rw [hk];rfl
   ·rw [beq_eq_false_iff_ne.2 hk];rfl
  ·refine H2.locg fun w3 H3=>H3.callg (c_BV 1 w3) ?_
   rintro _ w4 rfl H4
   have fe:fitX 19 x y z=(decide (x=bvS 1)&&(decide (y=z)||(y.k==1&&z.k==1))):=rfl
   rw [fe]
   refine ⟨_,_,_,rfl,sel_srt (b:=bvS 1) (fun he=>?_) (fun he=>⟨by rw [decide_eq_false he];rfl,H4.fr⟩)⟩
   rw [decide_eq_true he,Bool.true_and]
   refine srt_at (R2 H4) e1 hy fun p _ c=>⟨_,_,_,c.c0,c.c1,c.c2,srt_at (R2 H4) e2 hz fun q _ d=>⟨_,_,_,d.c0,d.c1,d.c2,sel_srt (fun h2=>⟨by rw [decide_eq_true h2];rfl,H4.fr⟩) (fun h2=>?_)⟩⟩
   rw [decide_eq_false h2,Bool.false_or]
   refine srt_at (R2 H4) e1 hy fun p' _ c'=>⟨_,c'.c0,sel_eq (fun hk=>srt_at (R2 H4) e2 hz fun q' _ d'=>⟨_,d'.c0,?_,H4.fr⟩) (fun hk=>⟨?_,H4.fr⟩)⟩
   ·rw [hk];rfl
   ·rw [beq_eq_false_iff_ne.2 hk];rfl
  ·have fe:fitX 20 x y z=(x.k==0&&y.k==0):=rfl
   rw [fe]
   refine sel_eq (fun hk=>srt_at (R2 H2) e1 hy fun p _ c=>⟨_,c.c0,?_,H2.fr⟩) (fun hk=>⟨?_,H2.fr⟩)
   ·rw [hk];rfl
   ·rw [beq_eq_false_iff_ne.2 hk];rfl
  iterate 3 exact ⟨rfl,H2.fr⟩
  ·have fe:fitX 24 x y z=(arrS x&&decide (y=bvS x.x)):=rfl
   rw [fe,←ha]
   refine sel_intro (fun ht=>?_) (fun hf=>H2.locg fun w3 H3=>⟨by rw [hf];rfl,H3.fr⟩)
   refine srt_at (R2 H2) e1 hy fun p hp _=>H2.locg fun w3 H3=>?_
   have c:=srt_again (R2 H3) e1 hy hp
   refine ⟨_,_,_,c.c0,c.c1,c.c2,H3.callg (c_BV x.x w3) ?_⟩
   rintro _ w4 rfl H4
   have d:=srt_again (R2 H4) e1 hy hp
   refine ⟨_,_,_,rfl,d.c0,d.c1,d.c2,?_,H4.fr⟩
   rw [ht,Bool.true_and]
   exact congrArg (fun b=>Ending.returned (.bool b)) (srt_eq y (bvS x.x))
  ·have fe:fitX 25 x y z=(arrS x&&decide (y=bvS x.x)&&(decide (z=elemS x)||(x.k==3&&z.k==1&&decide (z.n≤x.n)))):=rfl
   rw [fe,←ha]
   refine sel_not (fun hf=>H2.locg fun w3 H3=>⟨by rw [hf];rfl,H3.fr⟩) (fun ht=>?_)
   rw [ht,Bool.true_and]
   refine srt_at (R2 H2) e1 hy fun p hp _=>H2.locg fun w3 H3=>?_
   have c:=srt_again (R2 H3) e1 hy hp
   refine ⟨_,_,_,c.c0,c.c1,c.c2,H3.callg (c_BV x.x w3) ?_⟩
   rintro _ w4 rfl H4
   have d:=srt_again (R2 H4) e1 hy hp
   refine ⟨_,_,_,rfl,d.c0,d.c1,d.c2,sel_srtN (a:=y) (b:=bvS x.x) (fun hne=>⟨by rw [decide_eq_false hne];rfl,H4.fr⟩) (fun heq=>?_)⟩
   rw [decide_eq_true heq,Bool.true_and]
   refine srt_at (R2 H4) e2 hz fun q hq _=>H4.locg fun w5 H5=>?_
   have c5:=srt_again (R2 H5) e2 hz hq
   refine ⟨_,_,_,c5.c0,c5.c1,c5.c2,H5.callg (r_Element x w5) ?_⟩
   rintro _ w6 rfl H6
   have d6:=srt_again (R2 H6) e2 hz hq
   refine ⟨_,_,_,rfl,d6.c0,d6.c1,d6.c2,sel_srt (a:=z) (b:=elemS x) (fun he=>⟨by rw [decide_eq_true he];rfl,H6.fr⟩) (fun hne=>?_)⟩
   rw [decide_eq_false hne,Bool.false_or]
   refine sel_eq (fun hk=>srt_at (R2 H6) e2 hz fun q' _ d'=>⟨_,d'.c0,sel_eq (fun hz1=>srt_at (R2 H6) e2 hz fun q2 _ d2=>⟨_,d2.c1,?_,H6.fr⟩) (fun hz1=>⟨?_,H6.fr⟩)⟩) (fun hk=>⟨?_,H6.fr⟩)
   ·rw [hk,hz1];rfl
   ·rw [beq_eq_false_iff_ne.2 hz1,Bool.and_false];rfl
   ·rw [beq_eq_false_iff_ne.2 hk];rfl
  ·have fe:fitX 26 x y z=(arrS x&&decide (x=y)):=rfl
   rw [fe,←ha]
   refine sel_intro (fun ht=>?_) (fun hf=>H2.locg fun w3 H3=>⟨by rw [hf];rfl,H3.fr⟩)
   refine srt_at (R2 H2) e1 hy fun p hp _=>H2.locg fun w3 H3=>?_
   have c:=srt_again (R2 H3) e1 hy hp
   refine ⟨_,_,_,c.c0,c.c1,c.c2,?_,H3.fr⟩
   rw [srt_eq,ht];rfl
  iterate 2 exact ⟨rfl,H2.fr⟩
  ·have fe:fitX 29 x y z=(x.k==1&&y.k==1):=rfl
   rw [fe]
   refine sel_eq (fun hk=>srt_at (R2 H2) e1 hy fun p _ c=>⟨_,c.c0,?_,H2.fr⟩) (fun hk=>⟨?_,H2.fr⟩)
   ·rw [hk];rfl
   ·rw [beq_eq_false_iff_ne.2 hk];rfl
  ·have fe:fitX 30 x y z=(x.k==1&&decide (y=bvS 7)&&decide (z=bvS 7)):=rfl
   rw [fe]
   refine sel_eq (fun hk=>?_) (fun hk=>H2.locg fun w3 H3=>⟨by rw [beq_eq_false_iff_ne.2 hk];rfl,H3.fr⟩)
   rw [hk]
   refine srt_at (R2 H2) e1 hy fun p hp _=>H2.locg fun w3 H3=>?_
   have c:=srt_again (R2 H3) e1 hy hp
   refine ⟨_,_,_,c.c0,c.c1,c.c2,H3.callg (c_BV 7 w3) ?_⟩
   rintro _ w4 rfl H4
   have d:=srt_again (R2 H4) e1 hy hp
   refine ⟨_,_,_,rfl,d.c0,d.c1,d.c2,sel_srt (a:=y) (b:=bvS 7) (fun he=>?_) (fun hne=>⟨by rw [decide_eq_false hne];rfl,H4.fr⟩)⟩
   rw [decide_eq_true he]
   refine srt_at (R2 H4) e2 hz fun q hq c4=>⟨_,_,_,c4.c0,c4.c1,c4.c2,H4.callg (c_BV 7 w4) ?_⟩
   rintro _ w5 rfl H5
   have d5:=srt_again (R2 H5) e2 hz hq
   exact ⟨_,_,_,rfl,d5.c0,d5.c1,d5.c2,congrArg (fun b=>Ending.returned (.bool b)) (srt_eq z (bvS 7)),H5.fr⟩
  ·have fe:fitX 31 x y z=(x.k==1&&y.k==1):=rfl
   rw [fe]
   refine sel_eq (fun hk=>srt_at (R2 H2) e1 hy fun p _ c=>⟨_,c.c0,?_,H2.fr⟩) (fun hk=>⟨?_,H2.fr⟩)
   ·rw [hk];rfl
   ·rw [beq_eq_false_iff_ne.2 hk];rfl
  ·have fe:fitX 32 x y z=(x.k==1&&y.k==1&&z.k==1):=rfl
   rw [fe]
   refine sel_eq (fun hk=>srt_at (R2 H2) e1 hy fun p _ c=>⟨_,c.c0,sel_eq (fun hy1=>srt_at (R2 H2) e2 hz fun q _ d=>⟨_,d.c0,?_,H2.fr⟩) (fun hy1=>⟨?_,H2.fr⟩)⟩) (fun hk=>⟨?_,H2.fr⟩)
   ·rw [hk,hy1];rfl
   ·rw [beq_eq_false_iff_ne.2 hy1,Bool.and_false];rfl
   ·rw [beq_eq_false_iff_ne.2 hk];rfl
  ·exact ⟨rfl,H2.fr⟩
  ·refine H2.locg fun w3 H3=>H3.callg (c_BV 8 w3) ?_
   rintro _ w4 rfl H4
   exact ⟨_,_,_,rfl,congrArg (fun b=>Ending.returned (.bool b)) (srt_eq x (bvS 8)),H4.fr⟩
 refine sel_eq (fun hk=>H1.locg fun w2 H2=>main true w2 ?_ H2) (fun hk=>H1.locg fun w2 H2=>main _ w2 ?_ H2)
 ·unfold arrS;rw [hk];rfl
 ·unfold arrS;rw [beq_eq_false_iff_ne.2 hk];rfl
end Go.Proofs.YtcifihepfadgfaaGreatDoor
set_option maxRecDepth 100000
set_option maxHeartbeats 1000000
namespace Go.Proofs.YtcifihepfadgfaaGreatDoor
open Go Go.W
def ResR (n:Nx) (x y z:Srt):Ending→Prop:=fun r=>∃(t:Srt) (b:Bool),r=.returned (.tuple #[srtV t,.bool b])∧b=rngX n x y z∧(b=true→t=resX n x y z)
theorem c_result {w:World} {k:Sl} {ks:List Srt} {x y z:Srt} (d:Nd) (h:RdN 3 w k (ks.flatMap srtC)) (hx:ks[0]? =some x) (hy:2≤kidsN d.x.op→ks[1]? =some y) (hz:kidsN d.x.op=3→ks[2]? =some z) (h4:4≤d.x.op) (h34:d.x.op≤34)
  (vx:validS x=true) (vy:2≤kidsN d.x.op→validS y=true) (vz:kidsN d.x.op=3→validS z=true) (hn:I64 d.x.n) (hm:I64 d.x.m):
  Calls Tryz.prog n_enthymemeref07_result #[d.v,k.v] w fun r w'=>ResR d.x x y z r∧Fr0 w w':=by
 obtain ⟨x1,x2,x3,x4,_⟩:=valid_n vx
 obtain ⟨hn1,hn2⟩:=hn
 obtain ⟨hm1,hm2⟩:=hm
 refine enthymemeref07_result.okT _ _ _ _ _ _ _ _ _ _ w _ ((lhS h).newg fun b2 w1 H1=>H1.newg fun b4 w2 H2=>srt_at (H2.getD 0) (rfl:(0:Int)=((0:Nat):Int)) hx fun p0 hp0 c0=>⟨x.k,x.n,x.x,c0.c0,c0.c1,c0.c2,H2.newg fun b6 w3 H3=>?_⟩)
 have R2:∀{w3:World} {L:List En},LH F0 w w3 L [srtD k ks]→RdN 3 w3 k (ks.flatMap srtC):=fun H=>H.getD 0
 have e1:(1:Int)=((1:Nat):Int):=rfl
 have e2:(2:Int)=((2:Nat):Int):=rfl
 obtain ⟨⟨op,kids,n,m,u,tx,st⟩,ksl⟩:=d
 simp only at hy hz h4 h34 vy vz hn1 hn2 hm1 hm2
 have S1:∀w4:World,op≠16→op≠17→op≠18→op≠33→LH F0 w w4 [.g b2,.g b4,.g b6] [srtD k ks]→enthymemeref07_result.S1T k b2 op ksl n m u tx st.k st.n st.x b4 0 0 0 b6 x.k x.n x.x op w4 fun r w'=>ResR ⟨op,kids,n,m,u,tx,st⟩ x y z r∧Fr0 w w':=by
  intro w4 n1 n2 n3 n4 H4
  rcases op_all (by omega) h34 with rfl|rfl|rfl|rfl|rfl|rfl|rfl|rfl|rfl|rfl|rfl|rfl|rfl|rfl|rfl|rfl|rfl|rfl|rfl|rfl|rfl|rfl|rfl|rfl|rfl|rfl|rfl|rfl|rfl|rfl|rfl|rfl|rfl|rfl|rfl
  iterate 4 omega
  all_goals repeat (first |refine sel_false rfl ?_|refine sel_true rfl ?_)
  all_goals first |(have hy:=hy (by decide))|skip
  all_goals first |(have hz:=hz (by decide))|skip
  all_goals first |(have vy:=valid_n (vy (by decide)))|skip
  all_goals first |(have vz:=valid_n (vz (by decide)))|skip
  iterate 12 exact H4.locg fun w5 H5=>⟨⟨x,true,rfl,rfl,fun _=>rfl⟩,H5.fr⟩
  iterate 3 omega
  ·refine srt_at (R2 H4) e1 hy fun p hp c=>⟨_,c.c0,sel_eq (fun hk=>?_) (fun hk=>?_)⟩
   ·refine srt_at (R2 H4) e1 hy fun p hp _=>H4.locg fun w5 H5=>?_
    have c5:=srt_again (R2 H5) e1 hy hp
    refine ⟨_,c5.c1,srt_at (R2 H5) e2 hz fun q hq c6=>⟨_,c6.c1,H5.callg (c_Strings _ w5) ?_⟩⟩
    rintro _ w6 rfl H6
    refine ⟨_,_,_,rfl,H6.locg fun w7 H7=>⟨⟨_,true,rfl,rfl,fun _=>?_⟩,H7.fr⟩⟩
    show _=if y.k=1 then _ else _
    rw [if_pos hk]
   ·refine srt_at (R2 H4) e1 hy fun p hp c'=>⟨_,_,_,c'.c0,c'.c1,c'.c2,H4.locg fun w5 H5=>⟨⟨y,true,rfl,rfl,fun _=>?_⟩,H5.fr⟩⟩
    show _=if y.k=1 then _ else _
    rw [if_neg hk]
  ·refine srt_at (R2 H4) e1 hy fun p hp _=>H4.locg fun w5 H5=>?_
   have c5:=srt_again (R2 H5) e1 hy hp
   refine ⟨_,c5.c1,srt_at (R2 H5) e1 hy fun q hq _=>?_⟩
   have c6:=srt_again (R2 H5) e1 hy hq
   refine ⟨_,c6.c1,H5.callg (c_BV _ w5) ?_⟩
   rintro _ w6 rfl H6
   refine ⟨_,_,_,rfl,(srt_again (R2 H6) e1 hy hq).c1,H6.locg fun w7 H7=>⟨(srt_again (R2 H7) e1 hy hq).c1,⟨_,_,rfl,?_,fun _=>?_⟩,H7.fr⟩⟩
   ·rw [IntWalk.i64_in _ (by omega)];rfl
   ·show bvS _=bvS (x.n+y.n)
    rw [IntWalk.i64_in _ (by omega)]
  ·refine H4.locg fun w5 H5=>H5.callg (c_BV _ w5) ?_
   rintro _ w6 rfl H6
   have hr:rngX ⟨21,kids,n,m,u,tx,st⟩ x y z=(decide (0≤m)&&decide (m≤n)&&decide (n<x.n)):=rfl
   refine ⟨_,_,_,rfl,sel_dec (fun g1=>sel_dec (fun g2=>H6.locg fun w7 H7=>⟨⟨_,_,rfl,?_,fun g3=>?_⟩,H7.fr⟩) (fun g2=>H6.locg fun w7 H7=>⟨⟨_,false,rfl,?_,fun g3=>by cases g3⟩,H7.fr⟩)) (fun g1=>H6.locg fun w7 H7=>⟨⟨_,false,rfl,?_,fun g3=>by cases g3⟩,H7.fr⟩)⟩
   ·rw [hr,decide_eq_true (show 0≤m from g1),decide_eq_true g2];rfl
   ·have g3:=of_decide_eq_true g3
    show bvS _=bvS (n - m+1)
    rw [IntWalk.i64_in (n - m) (by omega),IntWalk.i64_in _ (by omega)]
   ·rw [hr,decide_eq_false g2,Bool.and_false];rfl
   ·rw [hr,decide_eq_false (show ¬0≤m from g1)];rfl
  iterate 2
   ·refine H4.locg fun w5 H5=>H5.callg (c_BV _ w5) ?_
    rintro _ w6 rfl H6
    have e64:IntKind.wrap .i64 (64 - x.n)=64 - x.n:=IntWalk.i64_in _ (by omega)
    rw [e64]
    refine ⟨_,_,_,rfl,sel_dec (fun g1=>H6.locg fun w7 H7=>⟨⟨_,_,rfl,?_,fun g3=>?_⟩,H7.fr⟩) (fun g1=>H6.locg fun w7 H7=>⟨⟨_,false,rfl,?_,fun g3=>by cases g3⟩,H7.fr⟩)⟩
    ·show _=(decide (1≤n)&&decide (n≤64 - x.n))
     rw [decide_eq_true (show 1≤n from g1)];rfl
    ·have g3:=of_decide_eq_true g3
     show bvS _=bvS (x.n+n)
     rw [IntWalk.i64_in _ (by omega)]
    ·show _=(decide (1≤n)&&decide (n≤64 - x.n))
     rw [decide_eq_false (show ¬1≤n from g1)];rfl
  ·refine H4.callg (r_Element x w4) ?_
   rintro _ w5 rfl H5
   exact ⟨_,_,_,rfl,H5.locg fun w6 H6=>⟨⟨_,true,rfl,rfl,fun _=>rfl⟩,H6.fr⟩⟩
  ·exact H4.locg fun w5 H5=>⟨⟨x,true,rfl,rfl,fun _=>rfl⟩,H5.fr⟩
  ·refine H4.callg (c_BV _ w4) ?_
   rintro _ w5 rfl H5
   exact ⟨_,_,_,rfl,H5.locg fun w6 H6=>⟨⟨_,true,rfl,rfl,fun _=>rfl⟩,H6.fr⟩⟩
  ·refine H4.callg (c_BV _ w4) ?_
   rintro _ w5 rfl H5
   exact ⟨_,_,_,rfl,H5.locg fun w6 H6=>⟨⟨_,true,rfl,rfl,fun _=>rfl⟩,H6.fr⟩⟩
  ·refine H4.locg fun w5 H5=>H5.callg (c_BV _ w5) ?_
   rintro _ w6 rfl H6
   refine ⟨_,_,_,rfl,sel_dec (fun g1=>H6.locg fun w7 H7=>⟨⟨_,_,rfl,?_,fun g3=>rfl⟩,H7.fr⟩) (fun g1=>H6.locg fun w7 H7=>⟨⟨_,false,rfl,?_,fun g3=>by cases g3⟩,H7.fr⟩)⟩
   ·show _=(decide (0≤n)&&decide (n≤63))
    rw [decide_eq_true (show 0≤n from g1)];rfl
   ·show _=(decide (0≤n)&&decide (n≤63))
    rw [decide_eq_false (show ¬0≤n from g1)];rfl
  ·refine srt_at (R2 H4) e1 hy fun p hp _=>H4.locg fun w5 H5=>?_
   have c5:=srt_again (R2 H5) e1 hy hp
   refine ⟨_,c5.c1,srt_at (R2 H5) e1 hy fun q hq _=>?_⟩
   have c6:=srt_again (R2 H5) e1 hy hq
   refine ⟨_,c6.c1,H5.callg (c_Strings _ w5) ?_⟩
   rintro _ w6 rfl H6
   refine ⟨_,_,_,rfl,(srt_again (R2 H6) e1 hy hq).c1,H6.locg fun w7 H7=>⟨(srt_again (R2 H7) e1 hy hq).c1,⟨_,_,rfl,?_,fun _=>?_⟩,H7.fr⟩⟩
   ·rw [IntWalk.i64_in _ (by omega)];rfl
   ·show strS _=strS (x.n+y.n)
    rw [IntWalk.i64_in _ (by omega)]
  ·exact H4.locg fun w5 H5=>⟨⟨x,true,rfl,rfl,fun _=>rfl⟩,H5.fr⟩
  ·refine H4.callg (c_BV _ w4) ?_
   rintro _ w5 rfl H5
   exact ⟨_,_,_,rfl,H5.locg fun w6 H6=>⟨⟨_,true,rfl,rfl,fun _=>rfl⟩,H6.fr⟩⟩
  ·refine srt_at (R2 H4) e2 hz fun p hp _=>H4.locg fun w5 H5=>?_
   have c5:=srt_again (R2 H5) e2 hz hp
   refine ⟨_,c5.c1,srt_at (R2 H5) e2 hz fun q hq _=>?_⟩
   have c6:=srt_again (R2 H5) e2 hz hq
   refine ⟨_,c6.c1,H5.callg (c_Strings _ w5) ?_⟩
   rintro _ w6 rfl H6
   refine ⟨_,_,_,rfl,(srt_again (R2 H6) e2 hz hq).c1,H6.locg fun w7 H7=>⟨(srt_again (R2 H7) e2 hz hq).c1,⟨_,_,rfl,?_,fun _=>?_⟩,H7.fr⟩⟩
   ·rw [IntWalk.i64_in _ (by omega)];rfl
   ·show strS _=strS (x.n+z.n)
    rw [IntWalk.i64_in _ (by omega)]
  ·omega
  ·refine H4.callg (c_Strings _ w4) ?_
   rintro _ w5 rfl H5
   exact ⟨_,_,_,rfl,H5.locg fun w6 H6=>⟨⟨_,true,rfl,rfl,fun _=>rfl⟩,H6.fr⟩⟩
 have S0:∀w4:World,(op=16∨op=17∨op=18∨op=33)→LH F0 w w4 [.g b2,.g b4,.g b6] [srtD k ks]→enthymemeref07_result.S0T b4 0 0 0 w4 fun r w'=>ResR ⟨op,kids,n,m,u,tx,st⟩ x y z r∧Fr0 w w':=by
  intro w4 ho H4
  refine H4.callg (c_BV 1 w4) ?_
  rintro _ w5 rfl H5
  refine ⟨_,_,_,rfl,H5.locg fun w6 H6=>⟨⟨_,true,rfl,?_,fun _=>?_⟩,H6.fr⟩⟩
  ·rcases ho with rfl|rfl|rfl|rfl<;>rfl
  ·rcases ho with rfl|rfl|rfl|rfl<;>rfl
 exact sel_eq (fun h=>sel_true (beq_iff_eq.2 h) (H3.locg fun w4 H4=>S0 w4 (.inl h) H4)) fun h1=>sel_eq (fun h=>sel_true (beq_iff_eq.2 h) (H3.locg fun w4 H4=>S0 w4 (.inr (.inl h)) H4)) fun h2=>sel_eq (fun h=>sel_true (beq_iff_eq.2 h) (H3.locg fun w4 H4=>S0 w4 (.inr (.inr (.inl h))) H4)) fun h3=>sel_eq (fun h=>H3.locg fun w4 H4=>S0 w4 (.inr (.inr (.inr h))) H4) fun h4'=>H3.locg fun w4 H4=>S1 w4 h1 h2 h3 h4' H4
end Go.Proofs.YtcifihepfadgfaaGreatDoor
set_option maxRecDepth 100000
set_option maxHeartbeats 1000000
namespace Go.Proofs.YtcifihepfadgfaaGreatDoor
open Go Go.W
theorem el_srt:ElemOk Tryz.prog ty_sl_api_Sort ty_api_Sort (.agg #[.int .i64 0,.int .i64 0,.int .i64 0]) 3 24:=⟨by kernel_rfl,by kernel_rfl,rfl,by decide,by decide⟩
def TxOk (t:ByteArray):Prop:=t.size≤100000∧∃b,canQ (bl t)=some b
theorem TxOk.can {t:ByteArray} (h:TxOk t):canQ (bl t)=some (canX t):=by
 obtain ⟨b,hb⟩:=h.2
 unfold canX
 rw [hb]
 cases b<;>rfl
structure NOk (d:Nx):Prop where
 kl:d.kids.length≤MaxL
 n:I64 d.n
 m:I64 d.m
 tx:d.op=33→TxOk d.tx
structure GOk (g:List Nx):Prop where
 len:g.length≤MaxL
 val:∀d∈g,validS d.st=true
 vars:VarsOk g
theorem kst_at {l:List Nd} {n:Nx} {i:Nat} {k:Int} {e:Nd} (hk:n.kids[i]? =some k) (he:l[k.toNat]? =some e):kst (xs l) n i=e.x.st:=by
 unfold kst
 rw [hk]
 dsimp only
 rw [xs_get he]
theorem range_snoc (i:Nat) (f:Nat→Srt):((List.range (i+1)).map f).flatMap srtC=((List.range i).map f).flatMap srtC++srtC (f i):=by
 rw [List.range_succ];simp
theorem kids_len {op:Int} {m:Nat} (h:kidsN op=(m:Int)) (h0:m≠0):4≤op∧op≤34:=by
 unfold kidsN at h
 split at h
 ·omega
 ·split at h
  ·omega
  ·omega
theorem kids_zero {op:Int} (h:kidsN op=0):0≤op∧op≤3:=by
 unfold kidsN at h
 split at h
 ·omega
 ·split at h
  ·omega
  ·split at h
   ·omega
   ·split at h<;>omega
theorem fld_zero {g:List Nx} {n:Nx} (h:fldE g n=0):(kidsN n.op==(n.kids.length:Int)&&n.kids.all (kidIn g)&&okF n)=true:=by
 unfold fldE at h
 split at h
 ·assumption
 ·omega
theorem kst_valid {g:List Nx} {n:Nx} (hv:∀d∈g,validS d.st=true) (hk:n.kids.all (kidIn g)=true) {i:Nat} (hi:i<n.kids.length):validS (kst g n i)=true:=by
 have h1:=List.all_eq_true.1 hk _ (List.getElem_mem hi)
 unfold kidIn at h1
 simp only [Bool.and_eq_true,decide_eq_true_eq] at h1
 unfold kst
 rw [List.getElem?_eq_getElem hi]
 dsimp only
 have h2:(n.kids[i]).toNat<g.length:=by omega
 rw [List.getElem?_eq_getElem h2]
 exact hv _ (List.getElem_mem h2)
theorem c_SortOf {w:World} {s:Sl} {l:List Nd} {d:Nd} (h:GP w s l) (hd:d.P w) (hg:GOk (xs l)) (ho:NOk d.x):
  Calls Tryz.prog n_enthymemeref07_SortOf #[s.v,d.v] w fun r w'=>r=sortR (srtX (xs l) d.x)∧Fr0 w w':=by
 have hn:=gr_n h
 have hxl:(xs l).length=l.length:=by simp [xs]
 have hkn:d.ks.n=d.x.kids.length:=Nums.len hd
 have hl:=hg.len
 have hk:=ho.kl
 rw [hxl] at hl
 refine enthymemeref07_SortOf.okT _ _ _ _ _ _ _ _ _ _ w _ ((lhN h hd).newg fun b3 w1 H1=>H1.newg fun b4 w2 H2=>H2.callg (c_fields (gr_P.1 (H2.getD 0)) (H2.getD 1) hk) ?_)
 rintro _ w3 rfl H3
 refine ⟨_,rfl,sel_ne (fun hne=>H3.locg fun w4 H4=>⟨?_,H4.fr⟩) (fun h0=>?_)⟩
 ·unfold srtX
  unfold fldE at hne ⊢
  split
  ·rename_i hc
   rw [if_pos hc] at hne
   exact absurd rfl hne
  ·rename_i hc
   rw [Bool.not_eq_true] at hc
   rw [hc];rfl
 have hf:=fld_zero h0
 have hf1:kidsN d.x.op=(d.x.kids.length:Int):=by
  simp only [Bool.and_eq_true] at hf
  exact eq_of_beq hf.1.1
 have hf2:d.x.kids.all (kidIn (xs l))=true:=by
  simp only [Bool.and_eq_true] at hf
  exact hf.1.2
 have hs0:srtX (xs l) d.x=if d.x.op≤3 then leafX (xs l) d.x else
   if fitX d.x.op (kst (xs l) d.x 0) (kst (xs l) d.x 1) (kst (xs l) d.x 2)=false then (noS,9) else
   if rngX d.x (kst (xs l) d.x 0) (kst (xs l) d.x 1) (kst (xs l) d.x 2)=false then (noS,5) else
   if d.x.op=33∧canX d.x.tx=false then (noS,2) else (resX d.x (kst (xs l) d.x 0) (kst (xs l) d.x 1) (kst (xs l) d.x 2),0):=by
  unfold srtX;rw [hf];rfl
 refine sel_eq (fun hk0=>?_) (fun hk0=>?_)
 ·have hz:=kids_zero (op:=d.x.op) (by omega)
  refine H3.callg (c_leaf (gr_P.1 (H3.getD 0)) (H3.getD 1) hl hz.1 hz.2 hg.vars) ?_
  rintro _ w4 rfl H4
  refine ⟨_,_,_,_,rfl,H4.locg fun w5 H5=>⟨?_,H5.fr⟩⟩
  rw [hs0,if_pos hz.2]
 have h4:=kids_len (op:=d.x.op) hf1 (by omega)
 rw [if_neg (by omega)] at hs0
 unfold MaxL at hk hl
 have loop:∀(m i:Nat) (k7:Sl) (w4:World),i+m=d.x.kids.length→LH F0 w w4 [.g b3,.g b4,.row ty_api_Sort 3 k7 (((List.range i).map (kst (xs l) d.x)).flatMap srtC)] (nodeD s l d)→
   enthymemeref07_SortOf.L0T s b3 d.x.op d.ks d.x.n d.x.m d.x.u d.x.tx d.x.st.k d.x.st.n d.x.st.x b4 0 0 0 k7 (i:Int) w4 fun r w'=>r=sortR (srtX (xs l) d.x)∧Fr0 w w':=by
  intro m
  induction m with
  |zero=>
   intro i k7 w4 hi H4
   have hi:i=d.x.kids.length:=by omega
   subst hi
   have R4:RdN 3 w4 k7 (((List.range d.x.kids.length).map (kst (xs l) d.x)).flatMap srtC):=(H4.get 2:OwnRow _ _ _ _ _).rdn
   have hks:∀j,j<d.x.kids.length→((List.range d.x.kids.length).map (kst (xs l) d.x))[j]? =some (kst (xs l) d.x j):=fun j hj=>by
    rw [List.getElem?_map,List.getElem?_range hj];rfl
   have hvl:∀j,j<d.x.kids.length→validS (kst (xs l) d.x j)=true:=fun j hj=>kst_valid hg.val hf2 hj
   refine enthymemeref07_SortOf.L0T_step _ _ _ _ _ _ _ _ _ _ _ _ _ _ _ _ _ _ _ (sel_false (decide_eq_false (by omega)) (H4.callg (c_fit d.x.op R4 (hks 0 (by omega)) (fun h2=>hks 1 (by omega)) (fun h3=>hks 2 (by omega)) h4.1 h4.2) ?_))
   rintro _ w5 rfl H5
   refine ⟨_,rfl,sel_not (fun hfit=>H5.locg fun w6 H6=>⟨by rw [hs0,if_pos hfit];rfl,H6.fr⟩) (fun hfit=>?_)⟩
   rw [if_neg (by rw [hfit];simp)] at hs0
   have R5:RdN 3 w5 k7 (((List.range d.x.kids.length).map (kst (xs l) d.x)).flatMap srtC):=(H5.get 2:OwnRow _ _ _ _ _).rdn
   refine H5.callg (c_result d R5 (hks 0 (by omega)) (fun h2=>hks 1 (by omega)) (fun h3=>hks 2 (by omega)) h4.1 h4.2 (hvl 0 (by omega)) (fun h2=>hvl 1 (by omega)) (fun h3=>hvl 2 (by omega)) ho.n ho.m) ?_
   rintro _ w6 ⟨t,b,rfl,hb,ht⟩ H6
   refine ⟨_,_,_,_,rfl,H6.newg fun b10 w7 H7=>sel_not (fun hbf=>H7.locg fun w8 H8=>⟨?_,H8.fr⟩) (fun hbt=>?_)⟩
   ·rw [hs0,if_pos (by rw [←hb,hbf])];rfl
   rw [if_neg (by rw [←hb,hbt];simp)] at hs0
   have ht:=ht hbt
   have S1:∀(c:Bool) (w8:World) (L:List En),(d.x.op=33∧canX d.x.tx=false↔c=false)→En.g b4∈L→En.g b10∈L→LH F0 w w8 L (nodeD s l d)→enthymemeref07_SortOf.S1T b4 0 0 0 b10 t.k t.n t.x c w8 fun r w'=>r=sortR (srtX (xs l) d.x)∧Fr0 w w':=by
    intro c w8 L hc m4 m10 H8
    have hbs:∀b∈[b4,b10],En.g b∈L:=by
     intro b hb
     simp only [List.mem_cons,List.not_mem_nil,or_false] at hb
     rcases hb with rfl|rfl
     ·exact m4
     ·exact m10
    refine sel_not (fun hcf=>H8.locg (fun w9 H9=>⟨?_,H9.fr⟩) hbs) (fun hct=>H8.locg (fun w9 H9=>⟨?_,H9.fr⟩) hbs)
    ·rw [hs0,if_pos (hc.2 hcf)];rfl
    ·rw [hs0,if_neg (fun h=>by rw [hct] at hc;cases hc.1 h),ht]
   refine sel_ne (fun h33=>H7.locg fun w8 H8=>S1 true w8 _ ⟨fun h=>absurd h.1 h33,fun h=>by cases h⟩ (by simp) (by simp) H8) (fun h33=>H7.locg fun w8 H8=>?_)
   have htx:=ho.tx h33
   refine H8.callg (c_Canonical d.x.tx htx.1 _ htx.can w8) ?_
   rintro _ w9 rfl H9
   exact ⟨_,rfl,S1 _ w9 _ ⟨fun h=>h.2,fun h=>⟨h33,h⟩⟩ (by simp) (by simp) H9⟩
  |succ m ih=>
   intro i k7 w4 hi H4
   have hgk:d.x.kids[i]? =some (d.x.kids[i]'(by omega)):=List.getElem?_eq_getElem (by omega)
   have hin:=List.all_eq_true.1 hf2 _ (List.mem_of_getElem? hgk)
   generalize d.x.kids[i]'(by omega)=kx at hgk hin
   unfold kidIn at hin
   simp only [Bool.and_eq_true,decide_eq_true_eq] at hin
   have hge:l[kx.toNat]? =some (l[kx.toNat]'(by omega)):=List.getElem?_eq_getElem (by omega)
   generalize l[kx.toNat]'(by omega)=e at hge
   have hn1:Nums w4 d.ks d.x.kids:=H4.getD 1
   have hrow:=Nd.rows_n (show RdN 9 w4 s (l.flatMap Nd.c) from (gr_P.1 (H4.getD 0)).1)
   refine enthymemeref07_SortOf.L0T_step _ _ _ _ _ _ _ _ _ _ _ _ _ _ _ _ _ _ _ (sel_true (decide_eq_true (by omega)) ⟨by omega,by omega,hn1.cell hgk (by omega) fun p hp hc=>⟨kx,hc,gr_at (gr_P.1 (H4.getD 0)) (i:=kx.toNat) (by omega) hge fun q hq c=>⟨_,_,_,c.s0,c.s1,c.s2,?_⟩⟩⟩)
   have hlen:k7.n=i:=by
    have:=(H4.get 2:OwnRow _ _ _ _ _).len
    rw [srts_len] at this
    simp at this
    omega
   refine H4.ap1T 2 el_srt rfl (fun s' w5 H5=>?_) (by omega)
   rw [i64_next _ (by omega)]
   refine ih (i+1) s' w5 (by omega) ?_
   rw [range_snoc,kst_at hgk hge]
   exact H5
 exact loop d.x.kids.length 0 ⟨none,0,0⟩ w3 (by omega) (H3.nilrow ty_api_Sort 3)
end Go.Proofs.YtcifihepfadgfaaGreatDoor
set_option maxRecDepth 100000
set_option maxHeartbeats 1000000
namespace Go.Proofs.YtcifihepfadgfaaGreatDoor
open Go Go.W
theorem el_node:ElemOk Tryz.prog ty_sl_api_Node ty_api_Node (.agg #[.int .i64 0,.slice none 0 0,.int .i64 0,.int .i64 0,.int .u64 0,.string (ByteArray.mk #[]),.int .i64 0,.int .i64 0,.int .i64 0]) 9 96:=⟨by kernel_rfl,by kernel_rfl,rfl,by decide,by decide⟩
theorem nd_one {l:List Nd}:∀u∈l.flatMap Nd.c,u.oneCell'=true:=by
 intro u hu
 obtain ⟨d,_,hu⟩:=List.mem_flatMap.1 hu
 simp only [Nd.c,List.mem_cons,List.not_mem_nil,or_false] at hu
 rcases hu with rfl|rfl|rfl|rfl|rfl|rfl|rfl|rfl|rfl<;>rfl
theorem blk_rdn {w:World} {b n sz:Nat} {cs:List Value} {T:TypeId} (h:w.heap[b]? =some (.cells cs.toArray T (0,0))) (hn:cs.length=n *sz):RdN sz w ⟨some (at0 b),n,n⟩ cs:=
 ⟨hn,Nat.le_refl _,⟨fun h=>(by cases h),fun i v hi=>⟨at0 b,rfl,cellAt (p:=at0 b) h rfl (by simpa using hi)⟩⟩⟩
theorem c_Same {w:World} {a b:Nd} (ha:a.P w) (hb:b.P w) (hl:a.x.kids.length≤MaxL):Calls Tryz.prog n_enthymemeref07_Same #[a.v,b.v] w fun r w'=>r=.returned (.bool (decide (a.x=b.x)))∧Fr0 w w':=by
 have H:LH F0 w w [] [kidE a,kidE b]:=lh0 _ (by
  intro e he
  simp only [List.mem_cons,List.not_mem_nil,or_false] at he
  rcases he with rfl|rfl
  ·exact ha
  ·exact hb)
 obtain ⟨⟨op,ks,n,m,u,tx,st⟩,sl⟩:=a
 obtain ⟨⟨op',ks',n',m',u',tx',st'⟩,sl'⟩:=b
 have no:∀{w1:World} {L:List En},LH F0 w w1 L [kidE ⟨⟨op,ks,n,m,u,tx,st⟩,sl⟩,kidE ⟨⟨op',ks',n',m',u',tx',st'⟩,sl'⟩]→(⟨op,ks,n,m,u,tx,st⟩:Nx)≠⟨op',ks',n',m',u',tx',st'⟩→(Ending.returned (.bool false)=.returned (.bool (decide ((⟨op,ks,n,m,u,tx,st⟩:Nx)=⟨op',ks',n',m',u',tx',st'⟩)))∧Fr0 w w1):=fun H1 h=>⟨by rw [decide_eq_false h],H1.fr⟩
 refine enthymemeref07_Same.okT _ _ _ _ _ _ _ _ _ _ _ _ _ _ _ _ _ _ w _ (H.newg fun b2 w1 H1=>H1.newg fun b3 w2 H2=>?_)
 refine sel_eq (fun h1=>?_) (fun h1=>no H2 (fun h=>h1 (congrArg Nx.op h)))
 refine sel_eq (fun h2=>?_) (fun h2=>no H2 (fun h=>h2 (congrArg Nx.n h)))
 refine sel_eq (fun h3=>?_) (fun h3=>no H2 (fun h=>h3 (congrArg Nx.m h)))
 refine sel_eq (fun h4=>?_) (fun h4=>no H2 (fun h=>h4 (congrArg Nx.u h)))
 refine sel_tx (fun h5=>?_) (fun h5=>no H2 (fun h=>h5 (congrArg Nx.tx h)))
 refine sel_srt (a:=st) (b:=st') (fun h6=>?_) (fun h6=>no H2 (fun h=>h6 (congrArg Nx.st h)))
 refine H2.callg (same_ints (H2.getD 0) (H2.getD 1) (by unfold MaxL at hl;simp only at hl ⊢;omega)) ?_
 rintro _ w3 rfl H3
 refine ⟨_,rfl,?_,H3.fr⟩
 simp only at h1 h2 h3 h4 h5
 subst h1 h2 h3 h4 h5 h6
 simp
theorem leaf_withS {g:List Nx} {n:Nx} {s:Srt} (h:srtX g n=(s,0)):srtX g (withS n s)=(s,0):=by
 unfold srtX at h
 unfold srtX
 have e1:(kidsN (withS n s).op==((withS n s).kids.length:Int)&&(withS n s).kids.all (kidIn g)&&okF (withS n s))=(kidsN n.op==(n.kids.length:Int)&&n.kids.all (kidIn g)&&okF n):=rfl
 rw [e1]
 split at h
 ·simp at h
 ·rename_i hc
  rw [if_neg hc]
  have e2:(withS n s).op=n.op:=rfl
  rw [e2]
  split at h
  ·rename_i h3
   rw [if_pos h3]
   unfold leafX at h
   by_cases h2:n.op=2
   ·rw [if_pos h2] at h
    unfold leafX
    rw [e2,if_pos h2]
    exact h
   ·rw [if_neg h2] at h
    have hs:s=n.st:=by
     split at h
     ·simp at h
     ·split at h
      ·simp at h
      ·split at h
       ·simp at h
       ·split at h
        ·simp at h
        ·split at h
         ·simp at h
         ·exact (congrArg Prod.fst h).symm
    have:withS n s=n:=by rw [hs];rfl
    rw [this]
    unfold leafX
    rw [if_neg h2]
    exact h
  ·rename_i h3
   rw [if_neg h3]
   exact h
def indexX (g:List Nx) (n:Nx):Option Nat:=idxX (if (srtX g n).2=0 then withS n (srtX g n).1 else n) g 0
def optI:Option Nat→Int
 |some i=>(i:Int)
 |none=>-1
theorem c_Index {w:World} {s:Sl} {l:List Nd} {d:Nd} (h:GP w s l) (hd:d.P w) (hg:GOk (xs l)) (ho:NOk d.x) (hgk:∀e∈l,e.x.kids.length≤MaxL):
  Calls Tryz.prog n_enthymemeref07_Index #[s.v,d.v] w fun r w'=>r=.returned (.i (optI (indexX (xs l) d.x)))∧Fr0 w w':=by
 have hn:=gr_n h
 have hxl:(xs l).length=l.length:=by simp [xs]
 have hl:=hg.len
 rw [hxl] at hl
 unfold MaxL at hl
 have loop:∀(m i:Nat) (b3:Nat) (w4:World) (e:Nd) (L:List En),e.ks=d.ks→e.x.kids=d.x.kids→i+m=l.length→idxX e.x ((xs l).drop i) i=indexX (xs l) d.x→En.g b3∈L→LH F0 w w4 L (nodeD s l d)→
   enthymemeref07_Index.L1T s b3 e.x.op e.ks e.x.n e.x.m e.x.u e.x.tx e.x.st.k e.x.st.n e.x.st.x (i:Int) w4 fun r w'=>r=.returned (.i (optI (indexX (xs l) d.x)))∧Fr0 w w':=by
  intro m
  induction m with
  |zero=>
   intro i b3 w4 e L hek hex hi he hb H4
   rw [List.drop_of_length_le (by omega)] at he
   exact enthymemeref07_Index.L1T_step _ _ _ _ _ _ _ _ _ _ _ _ _ _ (sel_false (decide_eq_false (by omega)) ⟨by rw [←he];rfl,H4.fr⟩)
  |succ m ih=>
   intro i b3 w4 e L hek hex hi he hb H4
   have hg1:l[i]? =some (l[i]'(by omega)):=List.getElem?_eq_getElem (by omega)
   have hx:(xs l).drop i=(l[i]'(by omega)).x::(xs l).drop (i+1):=by
    rw [List.drop_eq_getElem_cons (by omega:i<(xs l).length)]
    simp [xs]
   rw [hx] at he
   generalize l[i]'(by omega)=a at hg1 he
   have hbs:∀b∈[b3],En.g b∈L:=by simpa using hb
   refine enthymemeref07_Index.L1T_step _ _ _ _ _ _ _ _ _ _ _ _ _ _ (sel_true (decide_eq_true (by omega)) (gr_at (gr_P.1 (H4.getD 0)) rfl hg1 fun p hp _=>H4.locg (fun w5 H5=>?_) hbs))
   have G5:GP w5 s l:=gr_P.1 (H5.getD 0)
   have c:=gr_again G5 hg1 hp (rfl:((i:Int))=(i:Int))
   have pe:e.P w5:=by
    show Nums w5 e.ks e.x.kids
    rw [hek,hex]
    exact H5.getD 1
   refine ⟨_,_,_,_,_,_,_,_,_,c.c0,c.c1,c.c2,c.c3,c.c4,c.c5,c.c6,c.c7,c.c8,H5.callg (c_Same (a:=a) (b:=e) (G5.2 a (List.mem_of_getElem? hg1)) pe (hgk a (List.mem_of_getElem? hg1))) ?_⟩
   rintro _ w6 rfl H6
   have he2:(if a.x=e.x then some i else idxX e.x ((xs l).drop (i+1)) (i+1))=indexX (xs l) d.x:=he
   refine ⟨_,rfl,sel_dec (fun hs=>⟨?_,H6.fr⟩) (fun hs=>?_)⟩
   ·rw [if_pos hs] at he2
    rw [←he2];rfl
   ·rw [if_neg hs] at he2
    rw [i64_next _ (by omega)]
    exact ih (i+1) b3 w6 e L hek hex (by omega) he2 hb H6
 refine enthymemeref07_Index.okT _ _ _ _ _ _ _ _ _ _ w _ ((lhN h hd).newg fun b3 w1 H1=>H1.callg (c_SortOf (gr_P.1 (H1.getD 0)) (H1.getD 1) hg ho) ?_)
 rintro _ w2 rfl H2
 refine ⟨_,_,_,_,rfl,H2.newg fun b5 w3 H3=>sel_eq (fun h0=>H3.locg fun w4 H4=>?_) (fun h0=>H3.locg fun w4 H4=>?_)⟩
 ·exact loop l.length 0 b3 w4 ⟨withS d.x (srtX (xs l) d.x).1,d.ks⟩ _ rfl rfl (by omega) (by unfold indexX;rw [if_pos h0];rfl) (by simp) H4
 ·exact loop l.length 0 b3 w4 d _ rfl rfl (by omega) (by unfold indexX;rw [if_neg h0];rfl) (by simp) H4
structure GR (w:World) (B:Nat→Prop) (g:List Nx) (s:Sl) (w':World):Prop where
 ex:∃l':List Nd,xs l'=g∧GP w' s l'∧∀b∈(En.gr s l').fp,B b∨w.heap.size≤b
theorem GR.nil (w:World) (B:Nat→Prop) (w':World):GR w B [] ⟨none,0,0⟩ w':=⟨⟨[],rfl,⟨RdN.nil 9 w',by simp⟩,fun b hb=>by
 rcases gr_fp.1 hb with h|⟨d,hd,_⟩
 ·cases h
 ·cases hd⟩⟩
theorem idx_lt {n:Nx}:∀{g:List Nx} {i k:Nat},idxX n g i=some k→i≤k∧k<i+g.length
 |d::g,i,k,h=>by
  unfold idxX at h
  split at h
  ·cases h
   simp
  ·have:=idx_lt h
   simp only [List.length_cons]
   omega
theorem c_rAdd {w:World} {s:Sl} {l:List Nd} {d:Nd} (h:GP w s l) (hd:d.P w) (hg:GOk (xs l)) (ho:NOk d.x) (hgk:∀e∈l,e.x.kids.length≤MaxL):
  Calls Tryz.prog n_enthymemeref07_Add #[s.v,d.v] w fun r w'=>(∃s':Sl,r=.returned (.tuple #[s'.v,.i (addX (xs l) d.x).2.1,.i (addX (xs l) d.x).2.2])∧GR w (fun b=>b∈(En.gr s l).fp∨b∈(kidE d).fp) (addX (xs l) d.x).1 s' w')∧Fr0 w w':=by
 have hn:=gr_n h
 have hxl:(xs l).length=l.length:=by simp [xs]
 refine enthymemeref07_Add.okT _ _ _ _ _ _ _ _ _ _ w _ ((lhN h hd).newg fun b3 w1 H1=>H1.callg (c_SortOf (gr_P.1 (H1.getD 0)) (H1.getD 1) hg ho) ?_)
 rintro _ w2 rfl H2
 refine ⟨_,_,_,_,rfl,H2.newg fun b7 w3 H3=>sel_ne (fun h0=>H3.locg fun w4 H4=>⟨⟨⟨none,0,0⟩,?_,?_⟩,H4.fr⟩) (fun h0=>H3.locg fun w4 H4=>?_)⟩
 ·unfold addX;rw [if_pos h0]
 ·unfold addX;rw [if_pos h0];exact GR.nil _ _ _
 have hs:srtX (xs l) d.x=((srtX (xs l) d.x).1,0):=by rw [←h0]
 have hs2:=leaf_withS hs
 have hidx:indexX (xs l) (withS d.x (srtX (xs l) d.x).1)=idxX (withS d.x (srtX (xs l) d.x).1) (xs l) 0:=by
  unfold indexX
  rw [hs2]
  rfl
 have ha:addX (xs l) d.x=match idxX (withS d.x (srtX (xs l) d.x).1) (xs l) 0 with
   |some i=>(xs l,(i:Int),0)
   |none=>if 4096≤(xs l).length then ([],0,4) else (xs l++[withS d.x (srtX (xs l) d.x).1],((xs l).length:Int),0):=by
  unfold addX;rw [if_neg (by omega)]
  try rfl
 generalize hsrt:(srtX (xs l) d.x).1=sr at *
 let e:Nd:=⟨withS d.x sr,d.ks⟩
 have hoe:NOk e.x:=⟨ho.kl,ho.n,ho.m,ho.tx⟩
 refine H4.callg (c_Index (d:=e) (gr_P.1 (H4.getD 0)) (H4.getD 1) hg hoe hgk) ?_
 rintro _ w5 rfl H5
 rw [show indexX (xs l) e.x=idxX (withS d.x sr) (xs l) 0 from hidx]
 refine ⟨_,rfl,?_⟩
 cases hi:idxX (withS d.x sr) (xs l) 0 with
 |some i=>
  rw [hi] at ha
  rw [ha]
  exact sel_true (decide_eq_true (Int.natCast_nonneg i)) ⟨⟨s,rfl,⟨l,rfl,gr_P.1 (H5.getD 0),fun b hb=>.inl (.inl hb)⟩⟩,H5.fr⟩
 |none=>
  rw [hi] at ha
  dsimp only at ha
  refine sel_false (by decide) ?_
  refine sel_dec (fun h4=>⟨⟨⟨none,0,0⟩,?_,?_⟩,H5.fr⟩) (fun h4=>?_)
  ·rw [ha,if_pos (by omega)]
  ·rw [ha,if_pos (by omega)];exact GR.nil _ _ _
  rw [if_neg (by omega)] at ha
  rw [ha]
  have R5:∀{w6:World} {L:List En},LH F0 w w6 L (nodeD s l d)→RdN 9 w6 s (l.flatMap Nd.c):=fun H=>(gr_P.1 (H.getD 0)).1
  have fin:∀(s':Sl) (w6:World) (L:List En) (j:Nat),LH F0 w w6 L (nodeD s l d)→L[j]? =some (.row ty_api_Node 9 s' (l.flatMap Nd.c++e.c))→
    (∃s'':Sl,Ending.returned (.tuple #[s'.v,.i ((s.n:Nat):Int),.i 0])=.returned (.tuple #[s''.v,.i ((xs l).length:Int),.i 0])∧GR w (fun b=>b∈(En.gr s l).fp∨b∈(kidE d).fp) (xs l++[withS d.x sr]) s'' w6)∧Fr0 w w6:=by
   intro s' w6 L j H6 hj
   have hrow:RdN 9 w6 s' ((l++[e]).flatMap Nd.c):=by
    have:OwnRow w6 ty_api_Node 9 s' (l.flatMap Nd.c++e.c):=H6.get j hj
    have:=this.rdn
    simpa using this
   refine ⟨⟨s',by rw [hxl,hn],⟨l++[e],by simp [xs,e],⟨hrow,fun a ha=>?_⟩,fun b hb=>?_⟩⟩,H6.fr⟩
   ·rcases List.mem_append.1 ha with ha|ha
    ·exact (gr_P.1 (H6.getD 0)).2 a ha
    ·simp only [List.mem_cons,List.not_mem_nil,or_false] at ha
     subst ha
     exact H6.getD 1
   ·rcases gr_fp.1 hb with hb|⟨a,ha,hb⟩
    ·right
     have hb2:b∈(En.row ty_api_Node 9 s' (l.flatMap Nd.c++e.c)).fp:=by
      have:b∈(if (l++[e]).flatMap Nd.c=[] then [] else blkL s'):=hb
      split at this
      ·cases this
      ·exact this
     exact (H6.new _ (List.mem_of_getElem? hj) b hb2).resolve_right id
    ·rcases List.mem_append.1 ha with ha|ha
     ·exact .inl (.inl (gr_fp.2 (.inr ⟨a,ha,hb⟩)))
     ·simp only [List.mem_cons,List.not_mem_nil,or_false] at ha
      subst ha
      exact .inl (.inr hb)
  have oneE:∀u∈e.c,u.oneCell'=true:=fun u hu=>nd_one (l:=[e]) u (by simpa using hu)
  have hl:=hg.len
  rw [hxl] at hl
  unfold MaxL at hl
  refine ⟨H5.locg fun w6 H6=>H6.nwrow (n:=0) (sz:=9) (cs:=[]) rfl (by decide) fun w7 H7=>⟨?_,?_⟩,H5.locg fun w6 H6=>H6.nw fun w7 _ H7=>H7.nwrow (n:=0) (sz:=9) (cs:=[]) rfl (by decide) fun w8 H8=>?_⟩
  ·refine H7.apT 2 el_node (s:=⟨some (at0 w6.heap.size),0,0⟩) (src:=s) rfl (R5 H7) nd_one (by simp only;omega) (fun s1 w8 H8=>?_)
   have hs1:=(H8.get 2:OwnRow _ _ _ _ _).len
   rw [List.nil_append,Nd.cs_len] at hs1
   refine H8.ap1T 2 el_node rfl (fun s2 w9 H9=>?_) (by omega)
   exact fin s2 w9 _ 2 H9 rfl
  ·refine H7.nw fun w8 _ H8=>?_
   refine H8.apT 2 el_node (s:=⟨some (at0 w6.heap.size),0,0⟩) (src:=s) rfl (R5 H8) nd_one (by simp only;omega) (fun s1 w9 H9=>?_)
   have hs1:=(H9.get 2:OwnRow _ _ _ _ _).len
   rw [List.nil_append,Nd.cs_len] at hs1
   refine H9.apT 2 el_node (src:=⟨some (at0 w7.heap.size),1,1⟩) rfl (blk_rdn (cs:=e.c) (T:=ty_api_Node) (H9.ob 3) rfl) oneE (by simp only;omega) (fun s2 w10 H10=>?_)
   exact fin s2 w10 _ 2 H10 rfl
  ·refine H8.apT 3 el_node (s:=⟨some (at0 w7.heap.size),0,0⟩) (src:=s) rfl (R5 H8) nd_one (by simp only;omega) (fun s1 w9 H9=>?_)
   have hs1:=(H9.get 3:OwnRow _ _ _ _ _).len
   rw [List.nil_append,Nd.cs_len] at hs1
   refine H9.apT 3 el_node (src:=⟨some (at0 w6.heap.size),1,1⟩) rfl (blk_rdn (cs:=e.c) (T:=ty_api_Node) (H9.ob 2) rfl) oneE (by simp only;omega) (fun s2 w10 H10=>?_)
   exact fin s2 w10 _ 3 H10 rfl
end Go.Proofs.YtcifihepfadgfaaGreatDoor
