import Derived.Test.YthnoidogkbbkhaaGreatDoorG1
import Derived.Test.YthnoidogkbbkhaaGreatDoorW
import Derived.Test.YthnoidogkbbkhaaGreatDoorVB
import Derived.Test.YthnoidogkbbkhaaGreatDoorT1
import Derived.Test.YthnoidogkbbkhaaGreatDoorB
set_option linter.unusedVariables false
namespace Go.Proofs.YthnoidogkbbkhaaGreatDoor
open List renaming mem_append->qmA,mem_cons->qmC,not_mem_nil->qnM,mem_of_getElem?->qmG,getElem?_eq_getElem->qgE,getElem?_eq_some_iff->qgS,mem_map->qmM,mem_cons_of_mem->qmCM,drop_eq_getElem_cons->qdG,all_eq_true->qaT,nil_append->qnA0,getElem_mem->qgEM,drop_of_length_le->qdO
open Go Go.W
structure Srt where
 k:Int
 n:Int
 x:Int
deriving DecidableEq
structure Nx where
 op:Int
 kids:List Int
 n:Int
 m:Int
 u:Int
 tx:ByteArray
 st:Srt
deriving DecidableEq
def noS:Srt:=⟨0,0,0⟩
def bvS (n:Int):Srt:=⟨0,n,0⟩
def strS (n:Int):Srt:=⟨1,n,0⟩
def validS (s:Srt):Bool:=(s.k==0&&decide (1<=s.n)&&decide (s.n<=64)&&s.x==0)||(s.k==1&&decide (0<=s.n)&&decide (s.n<=64)&&s.x==0)||(s.k==2&&decide (1<=s.n)&&decide (s.n<=64)&&decide (1<=s.x)&&decide (s.x<=16))||(s.k==3&&decide (0<=s.n)&&decide (s.n<=64)&&decide (1<=s.x)&&decide (s.x<=16))
def sortE (s:Srt):Int:=if validS s then 0 else 9
def arrS (s:Srt):Bool:=s.k==2||s.k==3
def kidsN (op:Int):Int:=if op<0\/34<op then -1 else if op<=3 then 0 else if op=4\/op=5\/op=21\/op=22\/op=23\/op=27\/op=28\/op=33\/op=34 then 1 else if op=19\/op=25\/op=30\/op=32 then 3 else 2
def hasN (op:Int):Bool:=op==21||op==22||op==23||op==28
def hasT (op:Int):Bool:=op==0||op==2||op==33
def okF (n:Nx):Bool:=(hasN n.op||n.n==0)&&(n.op==21||n.m==0)&&(n.op==1||n.u==0)&&(hasT n.op||decide (n.tx=ba []))
def kidIn (g:List Nx) (k:Int):Bool:=decide (0<=k)&&decide (k<(g.length:Int))
def letQ (c:UInt8):Bool:=decide (97<=c.toNat)&&decide (c.toNat<=122)
def namQ (c:UInt8):Bool:=letQ c||(decide (48<=c.toNat)&&decide (c.toNat<=57))||c==45
def nameB (l:List UInt8):Bool:=match l with
 |[]=>false
 |c::m=>decide (m.length<=15)&&letQ c&&m.all namQ
def varS:List Nx->ByteArray->Option Srt
 |[],_=>none
 |d::g,t=>if d.op=0/\d.tx=t then some d.st else varS g t
def twice (g:List Nx) (n:Nx):Bool:=match varS g n.tx with
 |some s=>!decide (s=n.st)
 |none=>false
def big (u:Int) (n:Int):Bool:=decide (n<64)&&decide (2^n.toNat<=u)
def leafX (g:List Nx) (n:Nx):Srt×Int:=
 if n.op=2 then (if 64<n.tx.size then (noS,5) else (strS n.tx.size,0)) else
 if n.op=0/\nameB (bl n.tx)=false then (noS,6) else
 if validS n.st=false then (noS,9) else
 if n.op=1/\n.st.k≠0\/n.op=3/\arrS n.st=false then (noS,9) else
 if n.op=1/\big n.u n.st.n=true then (noS,5) else
 if n.op=0/\twice g n=true then (noS,8) else (n.st,0)
def elemS (s:Srt):Srt:=if s.k=2 then bvS s.n else strS s.n
def fitX (op:Int) (x y z:Srt):Bool:=
 if op=4\/op=5\/op=21\/op=22\/op=23 then x.k==0 else
 if op=18 then decide (x=y)||(x.k==1&&y.k==1) else
 if op=19 then decide (x=bvS 1)&&(decide (y=z)||(y.k==1&&z.k==1)) else
 if op=20 then x.k==0&&y.k==0 else
 if op=24 then arrS x&&decide (y=bvS x.x) else
 if op=25 then arrS x&&decide (y=bvS x.x)&&(decide (z=elemS x)||(x.k==3&&z.k==1&&decide (z.n<=x.n))) else
 if op=26 then arrS x&&decide (x=y) else
 if op=27\/op=28\/op=33 then x.k==1 else
 if op=29\/op=31 then x.k==1&&y.k==1 else
 if op=30 then x.k==1&&decide (y=bvS 7)&&decide (z=bvS 7) else
 if op=32 then x.k==1&&y.k==1&&z.k==1 else
 if op=34 then decide (x=bvS 8) else x.k==0&&decide (x=y)
def resX (n:Nx) (x y z:Srt):Srt:=
 if n.op=16\/n.op=17\/n.op=18\/n.op=33 then bvS 1 else
 if n.op=19 then (if y.k=1 then strS (if y.n<z.n then z.n else y.n) else y) else
 if n.op=20 then bvS (x.n+y.n) else
 if n.op=21 then bvS (n.n - n.m+1) else
 if n.op=22\/n.op=23 then bvS (x.n+n.n) else
 if n.op=24 then elemS x else
 if n.op=26 then bvS x.x else
 if n.op=27\/n.op=31 then bvS 7 else
 if n.op=28 then bvS 8 else
 if n.op=29 then strS (x.n+y.n) else
 if n.op=32 then strS (x.n+z.n) else
 if n.op=34 then strS 1 else x
def rngX (n:Nx) (x y z:Srt):Bool:=
 if n.op=20\/n.op=29 then decide (x.n+y.n<=64) else
 if n.op=21 then decide (0<=n.m)&&decide (n.m<=n.n)&&decide (n.n<x.n) else
 if n.op=22\/n.op=23 then decide (1<=n.n)&&decide (n.n<=64 - x.n) else
 if n.op=28 then decide (0<=n.n)&&decide (n.n<=63) else
 if n.op=32 then decide (x.n+z.n<=64) else true
def kst (g:List Nx) (n:Nx) (i:Nat):Srt:=match n.kids[i]? with
 |some k=>match g[k.toNat]? with
  |some d=>d.st
  |none=>noS
 |none=>noS
def canX (t:ByteArray):Bool:=canQ (bl t)==some true
def srtX (g:List Nx) (n:Nx):Srt×Int:=
 if (kidsN n.op==(n.kids.length:Int)&&n.kids.all (kidIn g)&&okF n)=false then (noS,1) else
 if n.op<=3 then leafX g n else
 if fitX n.op (kst g n 0) (kst g n 1) (kst g n 2)=false then (noS,9) else
 if rngX n (kst g n 0) (kst g n 1) (kst g n 2)=false then (noS,5) else
 if n.op=33/\canX n.tx=false then (noS,2) else (resX n (kst g n 0) (kst g n 1) (kst g n 2),0)
def withS (n:Nx) (s:Srt):Nx:={n with st:=s}
def idxX (n:Nx):List Nx->Nat->Option Nat
 |[],_=>none
 |d::g,i=>if d=n then some i else idxX n g (i+1)
def addX (g:List Nx) (n:Nx):List Nx×Int×Int:=
 if (srtX g n).2≠0 then ([],0,(srtX g n).2) else
 match idxX (withS n (srtX g n).1) g 0 with
 |some i=>(g,i,0)
 |none=>if 4096<=g.length then ([],0,4) else (g++[withS n (srtX g n).1],g.length,0)
inductive Vg:List Nx->Prop
 |nil:Vg []
 |snoc {g:List Nx} {n:Nx}:Vg g->srtX g n=(n.st,0)->n∉g->Vg (g++[n])
structure Nd where
 x:Nx
 ks:Sl
abbrev srtV (s:Srt):Value:=.agg #[.i s.k,.i s.n,.i s.x]
namespace Nd
def c (d:Nd):List Value:=[.i d.x.op,d.ks.v,.i d.x.n,.i d.x.m,.u d.x.u,.string d.x.tx,.i d.x.st.k,.i d.x.st.n,.i d.x.st.x]
abbrev v (d:Nd):Value:=.agg #[.i d.x.op,d.ks.v,.i d.x.n,.i d.x.m,.u d.x.u,.string d.x.tx,.i d.x.st.k,.i d.x.st.n,.i d.x.st.x]
theorem c_len (d:Nd):(c d).length=9:=rfl
theorem cs_len (l:List Nd):(l.flatMap c).length=l.length *9:=flat_length c 9 c_len l
abbrev P (w:World) (d:Nd):Prop:=Nums w d.ks d.x.kids
structure Cells (w:World) (p:Addr) (i:Nat) (d:Nd):Prop where
 c0:w.cell? ((p.add (i *9)).add 0)=some (.i d.x.op)
 c1:w.cell? ((p.add (i *9)).add 1)=some d.ks.v
 c2:w.cell? ((p.add (i *9)).add 2)=some (.i d.x.n)
 c3:w.cell? ((p.add (i *9)).add 3)=some (.i d.x.m)
 c4:w.cell? ((p.add (i *9)).add 4)=some (.u d.x.u)
 c5:w.cell? ((p.add (i *9)).add 5)=some (.string d.x.tx)
 c6:w.cell? ((p.add (i *9)).add 6)=some (.i d.x.st.k)
 c7:w.cell? ((p.add (i *9)).add 7)=some (.i d.x.st.n)
 c8:w.cell? ((p.add (i *9)).add 8)=some (.i d.x.st.x)
theorem rows_n {w:World} {s:Sl} {l:List Nd} (h:RdN 9 w s (l.flatMap c)):s.n=l.length:=by
 have:=h.1
 rw [cs_len] at this
 omega
theorem at' {w:World} {s:Sl} {l:List Nd} (h:RdN 9 w s (l.flatMap c)) {i:Nat} {d:Nd} (hi:l[i]? =some d) {K:Addr->Prop} (hk:∀p,s.a=some p->Cells w p i d->K p):optP s.a K:=
 CRow.elem (f:=c) (sz:=9) c_len (by omega) h.2.2 hi λp hp hc=>hk p hp ⟨hc 0 _ rfl,hc 1 _ rfl,hc 2 _ rfl,hc 3 _ rfl,hc 4 _ rfl,hc 5 _ rfl,hc 6 _ rfl,hc 7 _ rfl,hc 8 _ rfl⟩
theorem again {w:World} {s:Sl} {l:List Nd} (h:RdN 9 w s (l.flatMap c)) {i:Nat} {d:Nd} (hi:l[i]? =some d) {p:Addr} (hp:s.a=some p):Cells w p i d:=by
 have hk:=at' h hi (K:=λq=>∃q',s.a=some q'/\Cells w q' i d) (λq hq hc=>⟨q,hq,hc⟩)
 rw [hp] at hk
 obtain ⟨q,hq,e⟩:=hk
 cases hq
 exact e
end Nd
abbrev xs (l:List Nd):List Nx:=l.map Nd.x
def GP (w:World) (s:Sl) (l:List Nd):Prop:=RdN 9 w s (l.flatMap Nd.c)/\∀d∈l,d.P w
abbrev kidE (d:Nd):En:=.rd d.ks (d.x.kids.map intV)
def _root_.Go.W.En.gr (s:Sl) (l:List Nd):En:=.all (.rdn 9 s (l.flatMap Nd.c)::l.map kidE)
theorem gr_P {w:World} {s:Sl} {l:List Nd}:(En.gr s l).P w↔GP w s l:=by
 constructor
 .exact λh=>⟨h (.rdn 9 s (l.flatMap Nd.c)) (by simp),λd hd=>h (kidE d) (qmCM _ (qmM.2 ⟨d,hd,rfl⟩))⟩
 .intro h e he
  rcases qmC.1 he with rfl|he
  .exact h.1
  .obtain ⟨d,hd,rfl⟩:=qmM.1 he
   exact h.2 d hd
theorem gr_fp {s:Sl} {l:List Nd} {b:Nat}:b∈(En.gr s l).fp↔b∈(En.rdn 9 s (l.flatMap Nd.c)).fp\/∃d∈l,b∈(kidE d).fp:=by
 unfold En.gr En.all
 rw [mem_nub,List.mem_flatMap]
 constructor
 .rintro ⟨e,he,hb⟩
  rcases qmC.1 he with rfl|he
  .exact .inl hb
  .obtain ⟨d,hd,rfl⟩:=qmM.1 he
   exact .inr ⟨d,hd,hb⟩
 .rintro (hb|⟨d,hd,hb⟩)
  .exact ⟨_,List.mem_cons_self ..,hb⟩
  .exact ⟨_,qmCM _ (qmM.2 ⟨d,hd,rfl⟩),hb⟩
theorem gr_n {w:World} {s:Sl} {l:List Nd} (h:GP w s l):s.n=l.length:=Nd.rows_n h.1
theorem gr_at {w:World} {s:Sl} {l:List Nd} (h:GP w s l) {i:Nat} {d:Nd} {X:Int} (hX:X=(i:Int)) (hi:l[i]? =some d) {K:Addr->Prop} (hk:∀p,s.a=some p->Nd.Cells w p (Int.toNat X) d->K p):(0:Int)<=X/\X<((s.n:Nat):Int)/\optP s.a K:=by
 have hn:=gr_n h
 have hl:=(qgS.1 hi).1
 subst hX
 exact ⟨by omega,by omega,Nd.at' h.1 hi hk⟩
theorem xs_get {l:List Nd} {i:Nat} {d:Nd} (h:l[i]? =some d):(xs l)[i]? =some d.x:=by simp [xs,h]
namespace Nd
theorem Cells.s0 {w:World} {p:Addr} {i:Nat} {d:Nd} (h:Cells w p i d):w.cell? (((p.add (i *9)).add 6).add 0)=some (.i d.x.st.k):=by rw [add_add];exact h.c6
theorem Cells.s1 {w:World} {p:Addr} {i:Nat} {d:Nd} (h:Cells w p i d):w.cell? (((p.add (i *9)).add 6).add 1)=some (.i d.x.st.n):=by rw [add_add];exact h.c7
theorem Cells.s2 {w:World} {p:Addr} {i:Nat} {d:Nd} (h:Cells w p i d):w.cell? (((p.add (i *9)).add 6).add 2)=some (.i d.x.st.x):=by rw [add_add];exact h.c8
end Nd
theorem gr_again {w:World} {s:Sl} {l:List Nd} (h:GP w s l) {i:Nat} {d:Nd} (hi:l[i]? =some d) {p:Addr} (hp:s.a=some p) {X:Int} (hX:X=(i:Int)):Nd.Cells w p (Int.toNat X) d:=by
 subst hX
 exact Nd.again h.1 hi hp
def srtC (s:Srt):List Value:=[.i s.k,.i s.n,.i s.x]
theorem srts_len (l:List Srt):(l.flatMap srtC).length=l.length *3:=flat_length srtC 3 (λ_=>rfl) l
structure SCells (w:World) (p:Addr) (i:Nat) (s:Srt):Prop where
 c0:w.cell? ((p.add (i *3)).add 0)=some (.i s.k)
 c1:w.cell? ((p.add (i *3)).add 1)=some (.i s.n)
 c2:w.cell? ((p.add (i *3)).add 2)=some (.i s.x)
theorem srts_n {w:World} {s:Sl} {l:List Srt} (h:RdN 3 w s (l.flatMap srtC)):s.n=l.length:=by
 have:=h.1
 rw [srts_len] at this
 omega
theorem srt_at {w:World} {s:Sl} {l:List Srt} (h:RdN 3 w s (l.flatMap srtC)) {i:Nat} {x:Srt} {X:Int} (hX:X=(i:Int)) (hi:l[i]? =some x) {K:Addr->Prop} (hk:∀p,s.a=some p->SCells w p (Int.toNat X) x->K p):(0:Int)<=X/\X<((s.n:Nat):Int)/\optP s.a K:=by
 have hn:=srts_n h
 have hl:=(qgS.1 hi).1
 subst hX
 exact ⟨by omega,by omega,CRow.elem (f:=srtC) (sz:=3) (λ_=>rfl) (by omega) h.2.2 hi λp hp hc=>hk p hp ⟨hc 0 _ rfl,hc 1 _ rfl,hc 2 _ rfl⟩⟩
theorem srt_again {w:World} {s:Sl} {l:List Srt} (h:RdN 3 w s (l.flatMap srtC)) {i:Nat} {x:Srt} {X:Int} (hX:X=(i:Int)) (hi:l[i]? =some x) {p:Addr} (hp:s.a=some p):SCells w p (Int.toNat X) x:=by
 have hk:=(srt_at h hX hi (K:=λq=>∃q',s.a=some q'/\SCells w q' (Int.toNat X) x) (λq hq hc=>⟨q,hq,hc⟩)).2.2
 rw [hp] at hk
 obtain ⟨q,hq,e⟩:=hk
 cases hq
 exact e
theorem srt_eq (a b:Srt):((a.k==b.k)&&((a.n==b.n)&&((a.x==b.x)&&true)))=decide (a=b):=by
 cases a;cases b
 simp only [Srt.mk.injEq,Bool.and_true,Bool.decide_and]
 rfl
theorem tx_eq (a b:ByteArray):(a.toList==b.toList)=decide (a=b):=by
 rw [ByteArray.toList_eq,ByteArray.toList_eq]
 have h:(a.data.toList=b.data.toList)↔a=b:=⟨λh=>ByteArray.ext (Array.toList_inj.1 h),λh=>by rw [h]⟩
 rw [<-decide_eq_decide.2 h]
 cases hd:decide (a.data.toList=b.data.toList) with
 |true=>rw [of_decide_eq_true hd];simp
 |false=>exact beq_eq_false_iff_ne.2 (of_decide_eq_false hd)
section
variable {A B:Prop}
theorem sel_tx {a b:ByteArray} (h1:a=b->A) (h2:a≠b->B):sel (a.toList==b.toList) A B:=by
 rw [tx_eq];exact sel_dec h1 h2
theorem sel_srt {a b:Srt} (h1:a=b->A) (h2:a≠b->B):sel ((a.k==b.k)&&((a.n==b.n)&&((a.x==b.x)&&true))) A B:=by
 rw [srt_eq];exact sel_dec h1 h2
theorem sel_srtN {a b:Srt} (h1:a≠b->A) (h2:a=b->B):sel (!((a.k==b.k)&&((a.n==b.n)&&((a.x==b.x)&&true)))) A B:=by
 rw [srt_eq];exact sel_not (λh=>h1 (of_decide_eq_false h)) (λh=>h2 (of_decide_eq_true h))
theorem sel_srtE {s:Srt} (h1:validS s=false->A) (h2:validS s=true->B):sel (sortE s !=0) A B:=by
 unfold sortE
 cases h:validS s with
 |true=>exact sel_false rfl (h2 h)
 |false=>exact sel_true rfl (h1 h)
end
set_option maxRecDepth 100000
theorem c_BV (n:Int) (w:World):Calls Tryz.prog n_enthymemeref07_BV #[.i n] w λr w'=>r=.returned (srtV (bvS n))/\Fr0 w w':=
 enthymemeref07_BV.okT _ w _ ((lh0 [] (by simp)).newg λb w1 H1=>H1.locg λw2 H2=>⟨rfl,H2.fr⟩)
theorem c_Strings (n:Int) (w:World):Calls Tryz.prog n_enthymemeref07_Strings #[.i n] w λr w'=>r=.returned (srtV (strS n))/\Fr0 w w':=
 enthymemeref07_Strings.okT _ w _ ((lh0 [] (by simp)).newg λb w1 H1=>H1.locg λw2 H2=>⟨rfl,H2.fr⟩)
theorem r_Element (s:Srt) (w:World):Calls Tryz.prog n_enthymemeref07_Element #[srtV s] w λr w'=>r=.returned (srtV (elemS s))/\Fr0 w w':=by
 refine enthymemeref07_Element.okT _ _ _ w _ ((lh0 [] (by simp)).newg λb w1 H1=>H1.newg λb2 w2 H2=>sel_eq (λh=>H2.callg (c_BV s.n w2) ?_) (λh=>H2.callg (c_Strings s.n w2) ?_))
 .rintro _ w3 rfl H3
  exact ⟨_,_,_,rfl,H3.locg λw4 H4=>⟨by unfold elemS;rw [if_pos h],H4.fr⟩⟩
 .rintro _ w3 rfl H3
  exact ⟨_,_,_,rfl,H3.locg λw4 H4=>⟨by unfold elemS;rw [if_neg h],H4.fr⟩⟩
theorem op_all {op:Int} (h1:0<=op) (h2:op<=34):op=0\/op=1\/op=2\/op=3\/op=4\/op=5\/op=6\/op=7\/op=8\/op=9\/op=10\/op=11\/op=12\/op=13\/op=14\/op=15\/op=16\/op=17\/op=18\/op=19\/op=20\/op=21\/op=22\/op=23\/op=24\/op=25\/op=26\/op=27\/op=28\/op=29\/op=30\/op=31\/op=32\/op=33\/op=34:=by omega
theorem c_Kids (op:Int) (w:World):Calls Tryz.prog n_enthymemeref07_Kids #[.i op] w λr w'=>r=.returned (.i (kidsN op))/\Fr0 w w':=by
 refine enthymemeref07_Kids.ok op w _ ?_
 by_cases h1:op<0
 .exact sel_true (decide_eq_true h1) ⟨by unfold kidsN;rw [if_pos (.inl h1)],Fr.refl _ _⟩
 refine sel_false (decide_eq_false h1) ?_
 by_cases h2:op>34
 .exact sel_true (decide_eq_true h2) ⟨by unfold kidsN;rw [if_pos (.inr h2)],Fr.refl _ _⟩
 refine sel_false (decide_eq_false h2) ?_
 rcases op_all (by omega) (by omega:op<=34) with rfl|rfl|rfl|rfl|rfl|rfl|rfl|rfl|rfl|rfl|rfl|rfl|rfl|rfl|rfl|rfl|rfl|rfl|rfl|rfl|rfl|rfl|rfl|rfl|rfl|rfl|rfl|rfl|rfl|rfl|rfl|rfl|rfl|rfl|rfl<;>exact ⟨rfl,Fr.refl _ _⟩
theorem get_str {s:ByteArray} {i:Nat} (h:i<s.size):s[i]? =some (gQ (bl s) i):=by
 have h2:i<(bl s).length:=h
 have e:gQ (bl s) i=(bl s)[i]:=by unfold gQ;rw [List.getD_eq_getElem?_getD,qgE h2];rfl
 rw [e,getElem?_pos s i h]
 rfl
theorem nameB_cons (c:UInt8) (m:List UInt8):nameB (c::m)=(decide (m.length<=15)&&letQ c&&m.all namQ):=rfl
theorem c_Named (s:ByteArray) (w:World):Calls Tryz.prog n_enthymemeref07_Named #[.string s] w λr w'=>r=.returned (.bool (nameB (bl s)))/\Fr0 w w':=by
 have hl:(bl s).length=s.size:=bl_len s
 have no:nameB (bl s)=false->(Ending.returned (.bool false)=.returned (.bool (nameB (bl s)))/\Fr0 w w):=λh=>⟨by rw [h],Fr.refl _ _⟩
 cases hs:bl s with
 |nil=>
  have h0:s.size=0:=by rw [<-hl,hs];rfl
  exact enthymemeref07_Named.ok s w _ (sel_true (decide_eq_true (by omega)) ⟨rfl,Fr.refl _ _⟩)
 |cons c m=>
  have hm:s.size=m.length+1:=by rw [<-hl,hs];rfl
  rw [hs] at no
  have g0:gQ (bl s) 0=c:=by rw [hs];rfl
  have h0:s[Int.toNat 0]? =some c:=by rw [<-g0];exact get_str (by omega)
  refine enthymemeref07_Named.ok s w _ (sel_false (decide_eq_false (by omega)) (sel_dec (λh=>no ?_) (λh=>⟨by omega,c,h0,sel_dec (λh1=>no ?_) (λh1=>⟨by omega,c,h0,sel_dec (λh2=>no ?_) (λh2=>?_)⟩)⟩)))
  .rw [nameB_cons,decide_eq_false (by omega)];rfl
  .rw [nameB_cons];unfold letQ;rw [decide_eq_false (show ¬97<=c.toNat by omega)];simp
  .rw [nameB_cons];unfold letQ;rw [decide_eq_false (show ¬c.toNat<=122 by omega)];simp
  have e0:nameB (c::m)=m.all namQ:=by
   rw [nameB_cons]
   unfold letQ
   rw [decide_eq_true (show m.length<=15 by omega),decide_eq_true (show 97<=c.toNat by omega),decide_eq_true (show c.toNat<=122 by omega)]
   simp
  have e1:nameB (c::m)=(bl s).all namQ:=by
   rw [e0,hs,List.all_cons]
   unfold namQ letQ
   rw [decide_eq_true (show 97<=c.toNat by omega),decide_eq_true (show c.toNat<=122 by omega)]
   simp
  rw [e1]
  have loop:∀(d i:Nat),i+d=s.size->(bl s).all namQ=((bl s).drop i).all namQ->enthymemeref07_Named.L1 s (i:Int) w λr w'=>r=.returned (.bool ((bl s).all namQ))/\Fr0 w w':=by
   intro d
   induction d with
   |zero=>
    intro i hi he
    rw [qdO (by omega)] at he
    exact enthymemeref07_Named.L1_step _ _ _ _ (sel_false (decide_eq_false (by omega)) ⟨by rw [he];rfl,Fr.refl _ _⟩)
   |succ d ih=>
    intro i hi he
    have hg:=get_str (show i<s.size by omega)
    rw [qdG (by omega:i<(bl s).length),List.all_cons,show (bl s)[i]'(by omega)=gQ (bl s) i by unfold gQ;rw [List.getD_eq_getElem?_getD,qgE (by omega:i<(bl s).length)];rfl] at he
    generalize gQ (bl s) i=x at hg he
    have go:namQ x=true->enthymemeref07_Named.S4 s (i:Int) w λr w'=>r=.returned (.bool ((bl s).all namQ))/\Fr0 w w':=λh=>by
     show enthymemeref07_Named.L1 s (IntKind.wrap .i64 ((i:Int)+1)) w _
     rw [i64_next _ (by omega)]
     exact ih (i+1) (by omega) (by rw [he,h,Bool.true_and])
    have stop:namQ x=false->(Ending.returned (.bool false)=.returned (.bool ((bl s).all namQ))/\Fr0 w w):=λh=>⟨by rw [he,h,Bool.false_and],Fr.refl _ _⟩
    have dig:letQ x=false->∀o:Bool,o=((decide (48<=x.toNat)&&decide (x.toNat<=57))||x==45)->enthymemeref07_Named.S3 s (i:Int) false o w λr w'=>r=.returned (.bool ((bl s).all namQ))/\Fr0 w w':=λhx o ho=>by
     refine sel_true rfl (sel_not (λh=>stop ?_) (λh=>go ?_))
     .unfold namQ;rw [hx,Bool.false_or,<-ho,h]
     .unfold namQ;rw [hx,Bool.false_or,<-ho,h]
    have e45:((((x.toNat:Nat):Int)==45):Bool)=(x==45):=by
     by_cases h:x=45
     .subst h;rfl
     .rw [beq_eq_false_iff_ne.2 h,beq_eq_false_iff_ne]
      intro h2
      exact h (UInt8.toNat_inj.1 (by have:((45:UInt8).toNat:Int)=45:=rfl;omega))
    have ht:((i:Int)).toNat=i:=Int.toNat_natCast i
    have S2:∀l:Bool,l=letQ x->enthymemeref07_Named.S2 s (i:Int) l w λr w'=>r=.returned (.bool ((bl s).all namQ))/\Fr0 w w':=λl hl=>by
     have fin:∀o:Bool,o=((decide (48<=x.toNat)&&decide (x.toNat<=57))||x==45)->enthymemeref07_Named.S3 s (i:Int) l o w λr w'=>r=.returned (.bool ((bl s).all namQ))/\Fr0 w w':=λo ho=>by
      cases hx:letQ x with
      |true=>rw [hl,hx];exact sel_false rfl (go (by unfold namQ;rw [hx];rfl))
      |false=>rw [hl,hx];exact dig hx o ho
     refine ⟨by omega,x,by rw [ht];exact hg,sel_dec (λh=>⟨by omega,x,by rw [ht];exact hg,sel_dec (λh'=>fin true ?_) (λh'=>⟨by omega,x,by rw [ht];exact hg,?_⟩)⟩) (λh=>⟨by omega,x,by rw [ht];exact hg,?_⟩)⟩
     .rw [decide_eq_true (show 48<=x.toNat by omega),decide_eq_true (show x.toNat<=57 by omega)];rfl
     .rw [e45];exact fin _ (by rw [decide_eq_false (show ¬x.toNat<=57 by omega)];simp)
     .rw [e45];exact fin _ (by rw [decide_eq_false (show ¬48<=x.toNat by omega)];simp)
    refine enthymemeref07_Named.L1_step _ _ _ _ (sel_true (decide_eq_true (by omega)) ⟨by omega,x,by rw [ht];exact hg,sel_dec (λh=>⟨by omega,x,by rw [ht];exact hg,S2 _ ?_⟩) (λh=>S2 _ ?_)⟩)
    .unfold letQ
     rw [decide_eq_true (show 97<=x.toNat by omega),Bool.true_and]
     exact decide_eq_decide.2 (by omega)
    .unfold letQ
     rw [decide_eq_false (show ¬97<=x.toNat by omega),Bool.false_and]
  exact loop s.size 0 (by omega) (by simp)
theorem r_within (n lo hi:Int) (w:World):Calls Tryz.prog n_enthymemeref06_within #[.int .i64 n,.int .i64 lo,.int .i64 hi] w λr w'=>r=.returned (.bool (decide (lo<=n/\n<=hi)))/\Fr0 w w':=by
 refine enthymemeref06_within.ok _ _ _ w _ (sel_dec (λh=>⟨?_,Fr.refl _ _⟩) (λh=>⟨?_,Fr.refl _ _⟩))
 .have:(lo<=n/\n<=hi)↔n<=hi:=⟨λh=>h.2,λh'=>⟨h,h'⟩⟩
  simp only [this]
 .rw [decide_eq_false (by omega)]
theorem r_ValidSort (s:Srt) (w:World):Calls Tryz.prog n_enthymemeref06_ValidSort #[srtV s] w λr w'=>r=.returned (.int .i64 (sortE s))/\Fr0 w w':=by
 refine enthymemeref06_ValidSort.okT _ _ _ w _ ((lh0 [] (by simp)).newg λb1 w1 H1=>?_)
 have fin:∀{w2:World} {L:List En} (b:Bool),b=validS s->LH F0 w w2 L []->enthymemeref06_ValidSort.S0T b w2 λr w'=>r=.returned (.int .i64 (sortE s))/\Fr0 w w':=by
  rintro w2 L b rfl H
  refine sel_not (λh=>⟨?_,H.fr⟩) (λh=>⟨?_,H.fr⟩)
  .unfold sortE;rw [if_neg (by simp [h])]
  .unfold sortE;rw [if_pos h]
 have plain:∀lo:Int,(validS s=(decide (lo<=s.n/\s.n<=64)&&(s.x==0)))->callF [b1] Tryz.prog n_enthymemeref06_within #[.int .i64 s.n,.int .i64 lo,.int .i64 64] w1 λr_ w2=>∃t10:Bool,r_=.returned (.bool t10)/\sel t10 (enthymemeref06_ValidSort.S0T (s.x==0) w2 λr w'=>r=.returned (.int .i64 (sortE s))/\Fr0 w w') (enthymemeref06_ValidSort.S0T false w2 λr w'=>r=.returned (.int .i64 (sortE s))/\Fr0 w w'):=by
  intro lo hv
  refine H1.callg (r_within _ _ _ w1) ?_
  rintro _ w2 rfl H2
  refine ⟨_,rfl,sel_intro (λh=>fin _ ?_ H2) (λh=>fin _ ?_ H2)⟩
  .rw [hv,h];rfl
  .rw [hv,h];rfl
 have array:∀lo:Int,(validS s=(decide (lo<=s.n/\s.n<=64)&&decide (1<=s.x/\s.x<=16)))->callF [b1] Tryz.prog n_enthymemeref06_within #[.int .i64 s.n,.int .i64 lo,.int .i64 64] w1 λr_ w2=>∃t10:Bool,r_=.returned (.bool t10)/\sel t10 (callF [b1] Tryz.prog n_enthymemeref06_within #[.int .i64 s.x,.int .i64 1,.int .i64 16] w2 λr_ w5=>∃t34:Bool,r_=.returned (.bool t34)/\enthymemeref06_ValidSort.S0T t34 w5 λr w'=>r=.returned (.int .i64 (sortE s))/\Fr0 w w') (enthymemeref06_ValidSort.S0T false w2 λr w'=>r=.returned (.int .i64 (sortE s))/\Fr0 w w'):=by
  intro lo hv
  refine H1.callg (r_within _ _ _ w1) ?_
  rintro _ w2 rfl H2
  refine ⟨_,rfl,sel_intro (λh=>H2.callg (r_within _ _ _ w2) ?_) (λh=>fin _ ?_ H2)⟩
  .rintro _ w3 rfl H3
   exact ⟨_,rfl,fin _ (by rw [hv,h];rfl) H3⟩
  .rw [hv,h];rfl
 refine sel_eq (λh0=>plain 1 ?_) (λh0=>sel_eq (λh1'=>plain 0 ?_) (λh1'=>sel_eq (λh2'=>array 1 ?_) (λh2'=>sel_eq (λh3'=>array 0 ?_) (λh3'=>fin _ ?_ H1))))
 .unfold validS;simp [h0]
 .unfold validS;simp [h1']
 .unfold validS;simp [h2',Bool.and_assoc]
 .unfold validS;simp [h3',Bool.and_assoc]
 .unfold validS;simp [h0,h1',h2',h3']
abbrev nodeD (s:Sl) (l:List Nd) (d:Nd):List En:=[.gr s l,kidE d]
theorem lhN {w:World} {s:Sl} {l:List Nd} {d:Nd} (h:GP w s l) (hd:d.P w):LH F0 w w [] (nodeD s l d):=lh0 _ (by
 intro e he
 simp only [qmC,qnM,or_false] at he
 rcases he with rfl|rfl
 .exact gr_P.2 h
 .exact hd)
theorem c_Has01 {w:World} {s:Sl} {l:List Int} (h:Nums w s l) (hl:l.length<=1000000000000) (n:Int):Calls Tryz.prog n_enthymemeref01_Has #[s.v,.i n] w λr w'=>r=.returned (.bool (decide (n∈l)))/\Fr0 w w':=by
 have hn:=Nums.len h
 have loop:∀(d i:Nat),i+d=l.length->(n∈l↔n∈l.drop i)->enthymemeref01_Has.L0 s n (i:Int) w λr w'=>r=.returned (.bool (decide (n∈l)))/\Fr0 w w':=by
  intro d
  induction d with
  |zero=>
   intro i hi he
   rw [qdO (by omega)] at he
   exact enthymemeref01_Has.L0_step _ _ _ _ _ (sel_false (decide_eq_false (by omega)) ⟨by rw [decide_eq_false (λh=>by have:=he.1 h;simp at this)],Fr.refl _ _⟩)
  |succ d ih=>
   intro i hi he
   have hg:l[i]? =some (l[i]'(by omega)):=qgE (by omega)
   rw [qdG (by omega:i<l.length),qmC] at he
   generalize l[i]'(by omega)=x at hg he
   refine enthymemeref01_Has.L0_step _ _ _ _ _ (sel_true (decide_eq_true (by omega)) ⟨by omega,by omega,h.cell hg (by omega) λp hp hc=>⟨x,hc,sel_eq (λe=>⟨?_,Fr.refl _ _⟩) (λe=>?_)⟩⟩)
   .rw [decide_eq_true (he.2 (.inl e.symm))]
   .rw [i64_next _ (by omega)]
    exact ih (i+1) (by omega) (he.trans ⟨λh=>h.resolve_left (λh=>e h.symm),.inr⟩)
 exact enthymemeref01_Has.ok _ _ w _ (loop l.length 0 (by omega) (by simp))
theorem c_has {w:World} {s:Sl} {l:List Int} (h:Nums w s l) (hl:l.length<=1000000000000) (n:Int):Calls Tryz.prog n_enthymemeref07_has #[s.v,.i n] w λr w'=>r=.returned (.bool (decide (n∈l)))/\Fr0 w w':=by
 refine enthymemeref07_has.ok _ _ w _ ((c_Has01 h hl n).mono ?_)
 rintro _ w1 ⟨rfl,f⟩
 exact ⟨_,rfl,rfl,f⟩
theorem blk_nums {w:World} {b n:Nat} {l:List Int} {T:TypeId} (h:w.heap[b]? =some (.cells (l.map intV).toArray T (0,0))) (hn:n=l.length):Nums w ⟨some (at0 b),n,n⟩ l:=
 blk_rd h (by simpa using hn)
def MaxL:Nat:=1000000000
theorem fieldsOk_eq (op:Int):(decide (op∈[(21:Int),22,23,28])=hasN op)/\(decide (op∈[(0:Int),2,33])=hasT op):=by
 constructor
 .unfold hasN
  by_cases h1:op=21
  .subst h1;rfl
  by_cases h2:op=22
  .subst h2;rfl
  by_cases h3:op=23
  .subst h3;rfl
  by_cases h4:op=28
  .subst h4;rfl
  simp [h1,h2,h3,h4]
 .unfold hasT
  by_cases h1:op=0
  .subst h1;rfl
  by_cases h2:op=2
  .subst h2;rfl
  by_cases h3:op=33
  .subst h3;rfl
  simp [h1,h2,h3]
theorem emp_tx (t:ByteArray):(t.toList==(ByteArray.mk #[]).toList)=decide (t=ba []):=tx_eq _ _
theorem okF_sel {n:Nx} {A B:Prop} (h:sel (okF n) B A):∀a b:Bool,a=hasN n.op->b=hasT n.op->
  let T:=sel (!b) (sel (!(n.tx.toList==(ByteArray.mk #[]).toList)) A B) B
  let U:=sel (n.op !=1) (sel (n.u !=0) A T) T
  let M:=sel (n.op !=21) (sel (n.m !=0) A U) U
  sel (!a) (sel (n.n !=0) A M) M:=by
 rintro a b rfl rfl
 dsimp only
 rw [emp_tx]
 unfold okF at h
 have e1:(n.op !=1)= !(n.op==1):=rfl
 have e2:(n.op !=21)= !(n.op==21):=rfl
 have e3:(n.n !=0)= !(n.n==0):=rfl
 have e4:(n.m !=0)= !(n.m==0):=rfl
 have e5:(n.u !=0)= !(n.u==0):=rfl
 rw [e1,e2,e3,e4,e5]
 generalize (n.op==1)=p1 at *
 generalize (n.op==21)=p2 at *
 generalize (n.n==0)=p3 at *
 generalize (n.m==0)=p4 at *
 generalize (n.u==0)=p5 at *
 generalize decide (n.tx=ba [])=p6 at *
 generalize hasN n.op=p7 at *
 generalize hasT n.op=p8 at *
 cases p1<;>cases p2<;>cases p3<;>cases p4<;>cases p5<;>cases p6<;>cases p7<;>cases p8<;>exact h
def fldE (g:List Nx) (n:Nx):Int:=if (kidsN n.op==(n.kids.length:Int)&&n.kids.all (kidIn g)&&okF n)=true then 0 else 1
theorem c_fields {w:World} {s:Sl} {l:List Nd} {d:Nd} (h:GP w s l) (hd:d.P w) (hk:d.x.kids.length<=MaxL):Calls Tryz.prog n_enthymemeref07_fields #[s.v,d.v] w λr w'=>r=.returned (.i (fldE (xs l) d.x))/\Fr0 w w':=by
 have hn:=gr_n h
 have hkn:d.ks.n=d.x.kids.length:=Nums.len hd
 have hxl:(xs l).length=l.length:=by simp [xs]
 unfold MaxL at hk
 have loop:∀(m i:Nat) (b3:Nat) (w1:World),i+m=d.x.kids.length->(kidsN d.x.op==(d.x.kids.length:Int))=true->(d.x.kids.all (kidIn (xs l))=(d.x.kids.drop i).all (kidIn (xs l)))->LH F0 w w1 [.g b3] (nodeD s l d)->
   enthymemeref07_fields.L0T s b3 d.x.op d.ks d.x.n d.x.m d.x.u d.x.tx d.x.st.k d.x.st.n d.x.st.x (i:Int) w1 λr w'=>r=.returned (.i (fldE (xs l) d.x))/\Fr0 w w':=by
  intro m
  induction m with
  |zero=>
   intro i b3 w1 hi hq he H
   rw [qdO (by omega)] at he
   refine enthymemeref07_fields.L0T_step _ _ _ _ _ _ _ _ _ _ _ _ _ _ (sel_false (decide_eq_false (by omega)) (H.nw λw2 _ H2=>H2.callg (c_has (l:=[21,22,23,28]) (blk_nums (n:=4) (H2.ob 1) rfl) (by decide) d.x.op) ?_))
   rintro _ w3 rfl H3
   refine ⟨_,rfl,H3.nw λw4 _ H4=>H4.callg (c_has (l:=[0,2,33]) (blk_nums (n:=3) (H4.ob 2) rfl) (by decide) d.x.op) ?_⟩
   rintro _ w5 rfl H5
   refine ⟨_,rfl,?_⟩
   have hf:∀b:Bool,okF d.x=b->fldE (xs l) d.x=if b=true then 0 else 1:=λb hb=>by
    unfold fldE
    rw [hq,he,hb]
    rfl
   exact okF_sel (n:=d.x) (sel_intro (λh=>⟨by rw [hf _ h];rfl,H5.fr⟩) (λh=>⟨by rw [hf _ h];rfl,H5.fr⟩)) _ _ (fieldsOk_eq d.x.op).1 (fieldsOk_eq d.x.op).2
  |succ m ih=>
   intro i b3 w1 hi hq he H
   have hg:d.x.kids[i]? =some (d.x.kids[i]'(by omega)):=qgE (by omega)
   rw [qdG (by omega:i<d.x.kids.length),List.all_cons] at he
   generalize d.x.kids[i]'(by omega)=x at hg he
   have bad:kidIn (xs l) x=false->(Ending.returned (.i 1)=.returned (.i (fldE (xs l) d.x))/\Fr0 w w1):=λhx=>⟨by unfold fldE;rw [he,hx];simp,H.fr⟩
   have hn1:Nums w1 d.ks d.x.kids:=H.getD 1
   refine enthymemeref07_fields.L0T_step _ _ _ _ _ _ _ _ _ _ _ _ _ _ (sel_true (decide_eq_true (by omega)) ⟨by omega,by omega,hn1.cell hg (by omega) λp hp hc=>⟨x,hc,sel_dec (λh1=>bad ?_) (λh1=>⟨by omega,by omega,hn1.cell hg (by omega) λp' hp' hc'=>⟨x,hc',sel_dec (λh2=>bad ?_) (λh2=>?_)⟩⟩)⟩⟩)
   .unfold kidIn;rw [decide_eq_false (by omega)];rfl
   .unfold kidIn;rw [decide_eq_false (show ¬x<((xs l).length:Int) by rw [hxl];omega)];simp
   .rw [i64_next _ (by omega)]
    refine ih (i+1) b3 w1 (by omega) hq ?_ H
    rw [he]
    unfold kidIn
    rw [decide_eq_true (show 0<=x by omega),decide_eq_true (show x<((xs l).length:Int) by rw [hxl];omega)]
    rfl
 refine enthymemeref07_fields.okT _ _ _ _ _ _ _ _ _ _ w _ ((lhN h hd).newg λb3 w1 H1=>H1.locg λw2 H2=>H2.callg (c_Kids d.x.op w2) ?_)
 rintro _ w3 rfl H3
 refine ⟨_,rfl,sel_ne (λhne=>⟨?_,H3.fr⟩) (λheq=>?_)⟩
 .unfold fldE
  rw [beq_eq_false_iff_ne.2 (by rw [hkn] at hne;exact hne)]
  rfl
 .exact loop d.x.kids.length 0 b3 w3 (by omega) (by rw [heq,hkn];simp) (by simp) H3
def VarsOk (g:List Nx):Prop:=∀d∈g,d.op=0->∀e∈g,e.op=0->d.tx=e.tx->d.st=e.st
theorem VarsOk.tail {d:Nx} {g:List Nx} (h:VarsOk (d::g)):VarsOk g:=λa ha h1 b hb h2=>h a (qmCM _ ha) h1 b (qmCM _ hb) h2
def twin (n d:Nx):Bool:=decide (d.op=0/\d.tx=n.tx/\d.st≠n.st)
theorem varS_mem {t:ByteArray} {s:Srt}:∀{g:List Nx},varS g t=some s->∃d∈g,d.op=0/\d.tx=t/\d.st=s
 |d::g,h=>by
  unfold varS at h
  split at h
  .rename_i hc
   exact ⟨d,by simp,hc.1,hc.2,Option.some.inj h⟩
  .obtain ⟨e,he,h⟩:=varS_mem h
   exact ⟨e,qmCM _ he,h⟩
theorem varS_none {t:ByteArray}:∀{g:List Nx},varS g t=none->∀d∈g,d.op=0->d.tx≠t
 |a::g,h,d,hd,h0,ht=>by
  unfold varS at h
  split at h
  .cases h
  .rename_i hc
   rcases qmC.1 hd with rfl|hd
   .exact hc ⟨h0,ht⟩
   .exact varS_none h d hd h0 ht
theorem twice_any {g:List Nx} (hv:VarsOk g) (n:Nx):twice g n=g.any (twin n):=by
 unfold twice
 cases h:varS g n.tx with
 |none=>
  symm
  rw [List.any_eq_false]
  intro d hd ht
  have ht:=of_decide_eq_true ht
  exact varS_none h d hd ht.1 ht.2.1
 |some s=>
  obtain ⟨d,hd,h0,h1,h2⟩:=varS_mem h
  by_cases hs:s=n.st
  .simp only [hs,decide_true,Bool.not_true]
   symm
   rw [List.any_eq_false]
   intro e he ht
   have ht:=of_decide_eq_true ht
   exact ht.2.2 ((hv e he ht.1 d hd h0 (ht.2.1.trans h1.symm)).trans (h2.trans hs))
  .simp only [hs,decide_false,Bool.not_false]
   symm
   rw [List.any_eq_true]
   exact ⟨d,hd,decide_eq_true ⟨h0,h1,λe=>hs (h2.symm.trans e)⟩⟩
theorem pow_word (n:Int) (h0:0<=n) (h1:n<64):IntKind.wrap .u64 (1 *2^(min (Int.toNat n) (IntKind.bits .u64)))=((2^n.toNat:Nat):Int):=by
 have e:min (Int.toNat n) (IntKind.bits .u64)=n.toNat:=by show min n.toNat 64=_;omega
 have hp:(2:Nat)^n.toNat<=2^63:=Nat.pow_le_pow_right (by omega) (by omega)
 rw [e,Int.one_mul,show ((2:Int)^n.toNat)=((2^n.toNat:Nat):Int) from by rw [Int.natCast_pow];rfl]
 generalize (2:Nat)^n.toNat=m at hp
 exact IntWalk.u64_in _ (by omega)
abbrev sortR (x:Srt×Int):Ending:=.returned (.tuple #[srtV x.1,.i x.2])
theorem valid_bv {s:Srt} (h:validS s=true) (hk:s.k=0):1<=s.n/\s.n<=64/\s.x=0:=by
 unfold validS at h
 simp [hk] at h
 omega
theorem valid_n {s:Srt} (h:validS s=true):0<=s.n/\s.n<=64/\0<=s.x/\s.x<=16/\0<=s.k/\s.k<=3:=by
 unfold validS at h
 simp at h
 omega
theorem c_leaf {w:World} {s:Sl} {l:List Nd} {d:Nd} (h:GP w s l) (hd:d.P w) (hl:l.length<=MaxL) (h0:0<=d.x.op) (h3:d.x.op<=3) (hv:VarsOk (xs l)):Calls Tryz.prog n_enthymemeref07_leaf #[s.v,d.v] w λr w'=>r=sortR (leafX (xs l) d.x)/\Fr0 w w':=by
 have hn:=gr_n h
 have hxl:(xs l).length=l.length:=by simp [xs]
 unfold MaxL at hl
 have e0:d.x.op=0\/d.x.op=1\/d.x.op=2\/d.x.op=3:=by omega
 refine enthymemeref07_leaf.okT _ _ _ _ _ _ _ _ _ _ w _ ((lhN h hd).newg λb3 w1 H1=>H1.newg λb4 w2 H2=>sel_eq (λh2=>?_) (λh2=>?_))
 .refine sel_dec (λhs=>H2.locg λw3 H3=>⟨?_,H3.fr⟩) (λhs=>H2.callg (c_Strings _ w2) ?_)
  .unfold leafX;rw [if_pos h2,if_pos (by omega)];rfl
  .rintro _ w3 rfl H3
   refine ⟨_,_,_,rfl,H3.locg λw4 H4=>⟨?_,H4.fr⟩⟩
   unfold leafX;rw [if_pos h2,if_neg (by omega)]
 have l1:leafX (xs l) d.x=if d.x.op=0/\nameB (bl d.x.tx)=false then (noS,6) else
   if validS d.x.st=false then (noS,9) else
   if d.x.op=1/\d.x.st.k≠0\/d.x.op=3/\arrS d.x.st=false then (noS,9) else
   if d.x.op=1/\big d.x.u d.x.st.n=true then (noS,5) else
   if d.x.op=0/\(xs l).any (twin d.x)=true then (noS,8) else (d.x.st,0):=by
  unfold leafX;rw [if_neg h2,twice_any hv]
 have S0:∀(nm:Bool) (w3:World),nm=(!decide (d.x.op=0)||nameB (bl d.x.tx))->LH F0 w w3 [.g b3,.g b4] (nodeD s l d)->enthymemeref07_leaf.S0T s b3 d.x.op d.ks d.x.n d.x.m d.x.u d.x.tx d.x.st.k d.x.st.n d.x.st.x b4 0 0 0 nm w3 λr w'=>r=sortR (leafX (xs l) d.x)/\Fr0 w w':=by
  intro nm w3 hnm H3
  refine sel_not (λhf=>H3.locg λw4 H4=>⟨?_,H4.fr⟩) (λht=>?_)
  .rw [hf] at hnm
   have hnm:=hnm.symm
   simp only [Bool.or_eq_false_iff,Bool.not_eq_false',decide_eq_true_eq] at hnm
   rw [l1,if_pos hnm];rfl
  have hnm2:¬(d.x.op=0/\nameB (bl d.x.tx)=false):=λhc=>by rw [ht,hc.2,decide_eq_true hc.1] at hnm;simp at hnm
  rw [if_neg hnm2] at l1
  refine H3.callg (r_ValidSort d.x.st w3) ?_
  rintro _ w4 rfl H4
  refine ⟨_,rfl,sel_srtE (λhf=>H4.locg λw5 H5=>⟨?_,H5.fr⟩) (λht=>?_)⟩
  .rw [l1,if_pos hf];unfold sortE;rw [hf];rfl
  rw [if_neg (by rw [ht];simp)] at l1
  have loop:∀(m i:Nat) (w5:World),i+m=l.length->leafX (xs l) d.x=(if d.x.op=0/\((xs l).drop i).any (twin d.x)=true then (noS,8) else (d.x.st,0))->LH F0 w w5 [.g b3,.g b4] (nodeD s l d)->
    enthymemeref07_leaf.L5T s b3 d.x.op d.ks d.x.n d.x.m d.x.u d.x.tx d.x.st.k d.x.st.n d.x.st.x b4 0 0 0 (i:Int) w5 λr w'=>r=sortR (leafX (xs l) d.x)/\Fr0 w w':=by
   intro m
   induction m with
   |zero=>
    intro i w5 hi he H5
    rw [qdO (by omega)] at he
    refine enthymemeref07_leaf.L5T_step _ _ _ _ _ _ _ _ _ _ _ _ _ _ _ _ _ _ (sel_false (decide_eq_false (by omega)) (H5.locg λw6 H6=>⟨?_,H6.fr⟩))
    rw [he,if_neg (by simp)]
   |succ m ih=>
    intro i w5 hi he H5
    have hg:l[i]? =some (l[i]'(by omega)):=qgE (by omega)
    have hx:(xs l).drop i=(l[i]'(by omega)).x::(xs l).drop (i+1):=by
     rw [qdG (by omega:i<(xs l).length)]
     simp [xs]
    rw [hx,List.any_cons] at he
    generalize l[i]'(by omega)=e at hg he
    have next:∀w6,LH F0 w w6 [.g b3,.g b4] (nodeD s l d)->(d.x.op=0->twin d.x e.x=false)->enthymemeref07_leaf.S6T s b3 d.x.op d.ks d.x.n d.x.m d.x.u d.x.tx d.x.st.k d.x.st.n d.x.st.x b4 0 0 0 (i:Int) w6 λr w'=>r=sortR (leafX (xs l) d.x)/\Fr0 w w':=by
     intro w6 H6 ht
     show enthymemeref07_leaf.L5T s b3 d.x.op d.ks d.x.n d.x.m d.x.u d.x.tx d.x.st.k d.x.st.n d.x.st.x b4 0 0 0 (IntKind.wrap .i64 ((i:Int)+1)) w6 _
     rw [i64_next _ (by omega)]
     refine ih (i+1) w6 (by omega) ?_ H6
     rw [he]
     by_cases ho:d.x.op=0
     .rw [ht ho,Bool.false_or]
     .rw [if_neg (λh=>ho h.1),if_neg (λh=>ho h.1)]
    have G5:GP w5 s l:=gr_P.1 (H5.getD 0)
    refine enthymemeref07_leaf.L5T_step _ _ _ _ _ _ _ _ _ _ _ _ _ _ _ _ _ _ (sel_true (decide_eq_true (by omega)) (sel_eq (λho=>?_) (λho=>H5.locg λw6 H6=>next w6 H6 (λh=>absurd h ho))))
    refine gr_at G5 rfl hg λp hp _=>H5.locg λw6 H6=>?_
    have c6:=gr_again (gr_P.1 (H6.getD 0)) hg hp (rfl:((i:Int))=(i:Int))
    refine ⟨_,c6.c0,sel_eq (λhv0=>?_) (λhv0=>next w6 H6 λ_=>decide_eq_false λh=>hv0 h.1)⟩
    refine gr_at (gr_P.1 (H6.getD 0)) rfl hg λp1 hp1 c61=>⟨_,c61.c5,sel_tx (λht=>?_) (λht=>next w6 H6 λ_=>decide_eq_false λh=>ht h.2.1)⟩
    refine gr_at (gr_P.1 (H6.getD 0)) rfl hg λp2 hp2 c62=>⟨_,_,_,c62.s0,c62.s1,c62.s2,sel_srtN (λhf=>H6.locg λw7 H7=>⟨?_,H7.fr⟩) (λht2=>next w6 H6 λ_=>decide_eq_false λh=>h.2.2 ht2)⟩
    rw [he,if_pos ⟨ho,by rw [show twin d.x e.x=true from decide_eq_true ⟨hv0,ht,hf⟩];rfl⟩]
    rfl
  have S4:∀w5:World,leafX (xs l) d.x=(if d.x.op=0/\(xs l).any (twin d.x)=true then (noS,8) else (d.x.st,0))->LH F0 w w5 [.g b3,.g b4] (nodeD s l d)->
    enthymemeref07_leaf.S4T s b3 d.x.op d.ks d.x.n d.x.m d.x.u d.x.tx d.x.st.k d.x.st.n d.x.st.x b4 0 0 0 w5 λr w'=>r=sortR (leafX (xs l) d.x)/\Fr0 w w':=λw5 he H5=>loop l.length 0 w5 (by omega) he H5
  have S1:∀(a:Bool) (w5:World),a=arrS d.x.st->LH F0 w w5 [.g b3,.g b4] (nodeD s l d)->enthymemeref07_leaf.S1T s b3 d.x.op d.ks d.x.n d.x.m d.x.u d.x.tx d.x.st.k d.x.st.n d.x.st.x b4 0 0 0 a w5 λr w'=>r=sortR (leafX (xs l) d.x)/\Fr0 w w':=by
   rintro a w5 rfl H5
   have bad:(d.x.op=1/\d.x.st.k≠0\/d.x.op=3/\arrS d.x.st=false)->enthymemeref07_leaf.S2T b4 0 0 0 w5 λr w'=>r=sortR (leafX (xs l) d.x)/\Fr0 w w':=λhb=>H5.locg λw6 H6=>⟨by rw [l1,if_pos hb];rfl,H6.fr⟩
   have S3:¬(d.x.op=1/\d.x.st.k≠0\/d.x.op=3/\arrS d.x.st=false)->enthymemeref07_leaf.S3T s b3 d.x.op d.ks d.x.n d.x.m d.x.u d.x.tx d.x.st.k d.x.st.n d.x.st.x b4 0 0 0 w5 λr w'=>r=sortR (leafX (xs l) d.x)/\Fr0 w w':=λhb=>by
    rw [if_neg hb] at l1
    refine sel_eq (λh1=>?_) (λh1=>S4 w5 (by rw [l1,if_neg (λh=>h1 h.1)]) H5)
    have hk:d.x.st.k=0:=by
     rcases Int.decEq d.x.st.k 0 with h|h
     .exact absurd (.inl ⟨h1,h⟩) hb
     .exact h
    obtain ⟨v1,v2,_⟩:=valid_bv ht hk
    have ew:IntKind.wrap .u64 d.x.st.n=d.x.st.n:=IntWalk.u64_in _ (by omega)
    refine sel_dec (λh64=>⟨by rw [ew];omega,?_⟩) (λh64=>S4 w5 (by rw [l1,if_neg];rintro ⟨_,hb⟩;unfold big at hb;rw [decide_eq_false (by omega)] at hb;cases hb) H5)
    rw [ew,pow_word _ (by omega) h64]
    have hp:((2^d.x.st.n.toNat:Nat):Int)=(2:Int)^d.x.st.n.toNat:=by rw [Int.natCast_pow];rfl
    rw [hp]
    refine sel_dec (λhge=>H5.locg λw6 H6=>⟨?_,H6.fr⟩) (λhge=>S4 w5 ?_ H5)
    .rw [l1,if_pos ⟨h1,by unfold big;rw [decide_eq_true h64,decide_eq_true hge];rfl⟩];rfl
    .rw [l1,if_neg]
     rintro ⟨_,hb⟩
     unfold big at hb
     rw [decide_eq_false (by omega:¬(2:Int)^d.x.st.n.toNat<=d.x.u),Bool.and_false] at hb
     cases hb
   have third:¬(d.x.op=1/\d.x.st.k≠0)->sel (d.x.op==3) (sel (!arrS d.x.st) (enthymemeref07_leaf.S2T b4 0 0 0 w5 λr w'=>r=sortR (leafX (xs l) d.x)/\Fr0 w w') (enthymemeref07_leaf.S3T s b3 d.x.op d.ks d.x.n d.x.m d.x.u d.x.tx d.x.st.k d.x.st.n d.x.st.x b4 0 0 0 w5 λr w'=>r=sortR (leafX (xs l) d.x)/\Fr0 w w')) (enthymemeref07_leaf.S3T s b3 d.x.op d.ks d.x.n d.x.m d.x.u d.x.tx d.x.st.k d.x.st.n d.x.st.x b4 0 0 0 w5 λr w'=>r=sortR (leafX (xs l) d.x)/\Fr0 w w'):=λhk=>
    sel_eq (λh3=>sel_not (λhf=>bad (.inr ⟨h3,hf⟩)) (λht=>S3 (by rintro (h|h);exact hk h;rw [ht] at h;cases h.2))) (λh3=>S3 (by rintro (h|h);exact hk h;exact h3 h.1))
   exact sel_eq (λh1=>sel_ne (λhk=>bad (.inl ⟨h1,hk⟩)) (λhk=>third (λh=>h.2 hk))) (λh1=>third (λh=>h1 h.1))
  refine sel_eq (λhk2=>S1 true w4 ?_ H4) (λhk2=>S1 _ w4 ?_ H4)
  .unfold arrS;rw [hk2];rfl
  .unfold arrS;rw [beq_eq_false_iff_ne.2 hk2];rfl
 refine sel_ne (λhv0=>S0 true w2 ?_ H2) (λhv0=>H2.callg (c_Named d.x.tx w2) ?_)
 .rw [decide_eq_false hv0];rfl
 .rintro _ w3 rfl H3
  exact ⟨_,rfl,S0 _ w3 (by rw [decide_eq_true hv0];rfl) H3⟩
theorem valid_of {s:Srt} (h:(s.k=0/\1<=s.n/\s.n<=64/\s.x=0)\/(s.k=1/\0<=s.n/\s.n<=64/\s.x=0)\/(s.k=2/\1<=s.n/\s.n<=64/\1<=s.x/\s.x<=16)\/(s.k=3/\0<=s.n/\s.n<=64/\1<=s.x/\s.x<=16)):validS s=true:=by
 unfold validS
 rcases h with ⟨h1,h2,h3,h4⟩|⟨h1,h2,h3,h4⟩|⟨h1,h2,h3,h4,h5⟩|⟨h1,h2,h3,h4,h5⟩<;>simp [h1,h2,h3,h4]<;>simp [h5]
theorem valid_iff {s:Srt}:validS s=true↔(s.k=0/\1<=s.n/\s.n<=64/\s.x=0)\/(s.k=1/\0<=s.n/\s.n<=64/\s.x=0)\/(s.k=2/\1<=s.n/\s.n<=64/\1<=s.x/\s.x<=16)\/(s.k=3/\0<=s.n/\s.n<=64/\1<=s.x/\s.x<=16):=by
 refine ⟨λh=>?_,valid_of⟩
 unfold validS at h
 simp only [Bool.or_eq_true,Bool.and_eq_true,beq_iff_eq,decide_eq_true_eq] at h
 omega
structure SrtOk (g:List Nx) (n:Nx):Prop where
 kl:kidsN n.op=(n.kids.length:Int)
 ki:∀k∈n.kids,0<=k/\k<(g.length:Int)
 ok:okF n=true
theorem srt_ok {g:List Nx} {n:Nx} (h:(srtX g n).2=0):SrtOk g n:=by
 unfold srtX at h
 split at h
 .cases h
 .rename_i hc
  simp only [Bool.and_eq_false_iff,not_or,Bool.not_eq_false,beq_iff_eq] at hc
  refine ⟨hc.1.1,λk hk=>?_,hc.2⟩
  have:=qaT.1 hc.1.2 k hk
  unfold kidIn at this
  simpa using this
theorem kst_ok {g:List Nx} {n:Nx} (hv:∀d∈g,validS d.st=true) (hk:∀k∈n.kids,0<=k/\k<(g.length:Int)) {i:Nat} (hi:i<n.kids.length):validS (kst g n i)=true:=by
 have h1:=hk _ (qgEM hi)
 unfold kst
 rw [qgE hi]
 dsimp only
 have h2:(n.kids[i]).toNat<g.length:=by omega
 rw [qgE h2]
 exact hv _ (qgEM h2)
theorem elem_valid {x:Srt} (h:validS x=true) (ha:arrS x=true):validS (elemS x)=true:=by
 rw [valid_iff] at h
 unfold arrS at ha
 simp only [Bool.or_eq_true,beq_iff_eq] at ha
 unfold elemS
 refine valid_of ?_
 split
 .show (0=0/\1<=x.n/\x.n<=64/\0=0)\/_
  left;omega
 .right;left
  show (1:Int)=1/\0<=x.n/\x.n<=64/\(0:Int)=0
  omega
theorem bv_valid {n:Int} (h1:1<=n) (h2:n<=64):validS (bvS n)=true:=valid_of (.inl ⟨rfl,h1,h2,rfl⟩)
theorem str_valid {n:Int} (h1:0<=n) (h2:n<=64):validS (strS n)=true:=valid_of (.inr (.inl ⟨rfl,h1,h2,rfl⟩))
theorem srt_valid {g:List Nx} {n:Nx} (hv:∀d∈g,validS d.st=true) (h:(srtX g n).2=0):validS (srtX g n).1=true:=by
 have ho:=srt_ok h
 have hk:∀i:Nat,(i:Int)<kidsN n.op->validS (kst g n i)=true:=λi hi=>kst_ok hv ho.ki (by have:=ho.kl;omega)
 unfold srtX at h ⊢
 split at h
 .cases h
 rename_i hc
 rw [if_neg hc]
 split at h
 .rename_i h3
  rw [if_pos h3]
  unfold leafX at h ⊢
  split at h
  .rename_i h2
   rw [if_pos h2]
   split at h
   .cases h
   .rename_i h64
    rw [if_neg h64]
    exact str_valid (by omega) (by omega)
  .rename_i h2
   rw [if_neg h2]
   split at h
   .cases h
   rename_i h0
   rw [if_neg h0]
   split at h
   .cases h
   rename_i h1
   rw [if_neg h1]
   split at h
   .cases h
   rename_i h4
   rw [if_neg h4]
   split at h
   .cases h
   rename_i h5
   rw [if_neg h5]
   split at h
   .cases h
   rename_i h6
   rw [if_neg h6]
   simpa using h1
 rename_i h3
 rw [if_neg h3]
 split at h
 .cases h
 rename_i hf
 rw [if_neg hf]
 split at h
 .cases h
 rename_i hr
 rw [if_neg hr]
 split at h
 .cases h
 rename_i hc2
 rw [if_neg hc2]
 simp only [Bool.not_eq_false] at hf hr
 have h34:n.op<=34:=by
  rcases Int.lt_or_le 34 n.op with h|h
  .have:=ho.kl
   unfold kidsN at this
   rw [if_pos (.inr h)] at this
   omega
  .exact h
 generalize hx:kst g n 0=x at *
 generalize hy:kst g n 1=y at *
 generalize hz:kst g n 2=z at *
 have vx:validS x=true:=by rw [<-hx];exact hk 0 (by unfold kidsN;repeat' split<;>omega)
 have hy2:2<=kidsN n.op->validS y=true:=λh=>by rw [<-hy];exact hk 1 (by omega)
 have hz2:kidsN n.op=3->validS z=true:=λh=>by rw [<-hz];exact hk 2 (by omega)
 obtain ⟨op,kids,nn,m,u,tx,st⟩:=n
 simp only at *
 clear hx hy hz hk ho hc hc2
 rcases op_all (by omega) h34 with rfl|rfl|rfl|rfl|rfl|rfl|rfl|rfl|rfl|rfl|rfl|rfl|rfl|rfl|rfl|rfl|rfl|rfl|rfl|rfl|rfl|rfl|rfl|rfl|rfl|rfl|rfl|rfl|rfl|rfl|rfl|rfl|rfl|rfl|rfl
 iterate 4 omega
 all_goals first |(have hy2:=hy2 (by decide))|skip
 all_goals first |(have hz2:=hz2 (by decide))|skip
 iterate 12 exact vx
 iterate 3 exact bv_valid (by omega) (by omega)
 .show validS (if y.k=1 then strS (if y.n<z.n then z.n else y.n) else y)=true
  split
  .rename_i hk
   have hf:(decide (x=bvS 1)&&(decide (y=z)||(y.k==1&&z.k==1)))=true:=hf
   have h1:=valid_n hy2
   have h2:=valid_n hz2
   exact str_valid (by split<;>omega) (by split<;>omega)
  .exact hy2
 .have hf:(x.k==0&&y.k==0)=true:=hf
  have hr:decide (x.n+y.n<=64)=true:=hr
  simp only [Bool.and_eq_true,beq_iff_eq] at hf
  have h1:=valid_bv vx hf.1
  have h2:=valid_bv hy2 hf.2
  exact bv_valid (by omega) (of_decide_eq_true hr)
 .have hf:(x.k==0)=true:=hf
  have hr:(decide (0<=m)&&decide (m<=nn)&&decide (nn<x.n))=true:=hr
  simp only [Bool.and_eq_true,decide_eq_true_eq] at hr
  have h1:=valid_bv vx (eq_of_beq hf)
  show validS (bvS (nn - m+1))=true
  exact bv_valid (by omega) (by omega)
 iterate 2
  .have hf:(x.k==0)=true:=hf
   have hr:(decide (1<=nn)&&decide (nn<=64 - x.n))=true:=hr
   simp only [Bool.and_eq_true,decide_eq_true_eq] at hr
   have h1:=valid_bv vx (eq_of_beq hf)
   show validS (bvS (x.n+nn))=true
   exact bv_valid (by omega) (by omega)
 .have hf:(arrS x&&decide (y=bvS x.x))=true:=hf
  simp only [Bool.and_eq_true] at hf
  exact elem_valid vx hf.1
 .exact vx
 .have hf:(arrS x&&decide (x=y))=true:=hf
  simp only [Bool.and_eq_true] at hf
  have h1:=hf.1
  unfold arrS at h1
  simp only [Bool.or_eq_true,beq_iff_eq] at h1
  rw [valid_iff] at vx
  exact bv_valid (by omega) (by omega)
 .exact bv_valid (by omega) (by omega)
 .exact bv_valid (by omega) (by omega)
 .have hr:decide (x.n+y.n<=64)=true:=hr
  have h1:=valid_n vx
  have h2:=valid_n hy2
  exact str_valid (by omega) (of_decide_eq_true hr)
 .exact vx
 .exact bv_valid (by omega) (by omega)
 .have hr:decide (x.n+z.n<=64)=true:=hr
  have h1:=valid_n vx
  have h2:=valid_n hz2
  exact str_valid (by omega) (of_decide_eq_true hr)
 .exact bv_valid (by omega) (by omega)
 .exact str_valid (by omega) (by omega)
theorem Vg.val {g:List Nx} (h:Vg g):∀d∈g,validS d.st=true:=by
 induction h with
 |nil=>simp
 |snoc hg hs hn ih=>
  intro d hd
  rcases qmA.1 hd with hd|hd
  .exact ih d hd
  .simp only [qmC,qnM,or_false] at hd
   subst hd
   have:=srt_valid ih (by rw [hs])
   rwa [hs] at this
theorem Vg.ok {g:List Nx} (h:Vg g):∀i d,g[i]? =some d->srtX (g.take i) d=(d.st,0):=by
 induction h with
 |nil=>intro i d hd;simp at hd
 |@snoc g n hg hs hn ih=>
  intro i d hd
  rcases Nat.lt_or_ge i g.length with hi|hi
  .rw [List.getElem?_append_left hi] at hd
   rw [List.take_append_of_le_length (by omega)]
   exact ih i d hd
  .rw [List.getElem?_append_right hi] at hd
   have:i - g.length=0:=by
    have:=(qgS.1 hd).1
    simp at this
    omega
   rw [this] at hd
   simp at hd
   subst hd
   rw [show i=g.length by omega,List.take_left]
   exact hs
theorem Vg.sok {g:List Nx} (h:Vg g):∀i d,g[i]? =some d->SrtOk (g.take i) d:=λi d hd=>srt_ok (by rw [h.ok i d hd])
theorem Vg.kids {g:List Nx} (h:Vg g) {i:Nat} {d:Nx} (hd:g[i]? =some d):∀k∈d.kids,0<=k/\k<(i:Int):=λk hk=>by
 have h1:=(h.sok i d hd).ki k hk
 have h2:=(qgS.1 hd).1
 rw [List.length_take] at h1
 omega
theorem Vg.vars {g:List Nx} (h:Vg g):VarsOk g:=by
 induction h with
 |nil=>intro d hd;cases hd
 |@snoc g n hg hs hn ih=>
  have one:∀d∈g,d.op=0->n.op=0->d.tx=n.tx->d.st=n.st:=by
   intro d hd h0 h0' ht
   have hso:SrtOk g n:=srt_ok (by rw [hs])
   unfold srtX at hs
   split at hs
   .simp at hs
   rw [if_pos (by omega:n.op<=3)] at hs
   unfold leafX at hs
   rw [if_neg (by omega)] at hs
   split at hs
   .simp at hs
   split at hs
   .simp at hs
   split at hs
   .simp at hs
   split at hs
   .simp at hs
   split at hs
   .simp at hs
   rename_i h1
   simp only [h0',true_and,Bool.not_eq_true] at h1
   rw [twice_any ih,List.any_eq_false] at h1
   rcases decEq d.st n.st with h|h
   .exact absurd (decide_eq_true ⟨h0,ht,h⟩) (h1 d hd)
   .exact h
  intro d hd h0 e he h0' ht
  have hd:=qmA.1 hd
  have he:=qmA.1 he
  simp only [qmC,qnM,or_false] at hd he
  rcases hd with hd|hd
  .rcases he with he|he
   .exact ih d hd h0 e he h0' ht
   .rw [he] at ht h0' ⊢
    exact one d hd h0 h0' ht
  .rw [hd] at ht h0 ⊢
   rcases he with he|he
   .exact (one e he h0' h0 ht.symm).symm
   .rw [he]
theorem idx_none {n:Nx}:∀{g:List Nx} {i:Nat},idxX n g i=none->n∉g
 |[],i,_=>by simp
 |d::g,i,h=>by
  unfold idxX at h
  split at h
  .cases h
  .rename_i hd
   simp only [qmC,not_or]
   exact ⟨λe=>hd e.symm,idx_none h⟩
theorem idx_some {n:Nx}:∀{g:List Nx} {i k:Nat},idxX n g i=some k->i<=k/\g[k - i]? =some n
 |d::g,i,k,h=>by
  unfold idxX at h
  split at h
  .rename_i hd
   cases h
   simp [hd]
  .have:=idx_some h
   refine ⟨by omega,?_⟩
   rw [show k - i=(k - (i+1))+1 by omega]
   simpa using this.2
set_option maxHeartbeats 1000000
abbrev srtD (k:Sl) (ks:List Srt):En:=.rdn 3 k (ks.flatMap srtC)
theorem lhS {w:World} {k:Sl} {ks:List Srt} (h:RdN 3 w k (ks.flatMap srtC)):LH F0 w w [] [srtD k ks]:=lh0 _ (by
 intro e he
 simp only [qmC,qnM,or_false] at he
 subst he
 exact h)
theorem c_fit {w:World} {k:Sl} {ks:List Srt} {x y z:Srt} (op:Int) (h:RdN 3 w k (ks.flatMap srtC)) (hx:ks[0]? =some x) (hy:2<=kidsN op->ks[1]? =some y) (hz:kidsN op=3->ks[2]? =some z) (h4:4<=op) (h34:op<=34):
  Calls Tryz.prog n_enthymemeref07_fit #[.i op,k.v] w λr w'=>r=.returned (.bool (fitX op x y z))/\Fr0 w w':=by
 refine enthymemeref07_fit.okT _ _ w _ (srt_at h (rfl:(0:Int)=((0:Nat):Int)) hx λp0 hp0 c0=>⟨x.k,x.n,x.x,c0.c0,c0.c1,c0.c2,(lhS h).newg λb5 w1 H1=>?_⟩)
 have main:∀(a:Bool) (w2:World),a=arrS x->LH F0 w w2 [.g b5] [srtD k ks]->enthymemeref07_fit.S0T op k b5 x.k x.n x.x (x.k==0) (x.k==1) a w2 λr w'=>r=.returned (.bool (fitX op x y z))/\Fr0 w w':=by
  rintro a w2 ha H2
  have R2:∀{w3:World} {L:List En},LH F0 w w3 L [srtD k ks]->RdN 3 w3 k (ks.flatMap srtC):=λH=>H.getD 0
  have e1:(1:Int)=((1:Nat):Int):=rfl
  have e2:(2:Int)=((2:Nat):Int):=rfl
  rcases op_all (by omega) h34 with rfl|rfl|rfl|rfl|rfl|rfl|rfl|rfl|rfl|rfl|rfl|rfl|rfl|rfl|rfl|rfl|rfl|rfl|rfl|rfl|rfl|rfl|rfl|rfl|rfl|rfl|rfl|rfl|rfl|rfl|rfl|rfl|rfl|rfl|rfl
  iterate 4 omega
  all_goals repeat (first |refine sel_false rfl ?_|refine sel_true rfl ?_)
  all_goals first |(have hy:=hy (by decide))|skip
  all_goals first |(have hz:=hz (by decide))|skip
  iterate 2 exact ⟨rfl,H2.fr⟩
  iterate 12
   .refine sel_eq (λhk=>?_) (λhk=>H2.locg λw3 H3=>⟨?_,H3.fr⟩)
    .refine srt_at (R2 H2) e1 hy λp hp _=>H2.locg λw3 H3=>?_
     have c:=srt_again (R2 H3) e1 hy hp
     refine ⟨_,_,_,c.c0,c.c1,c.c2,?_,H3.fr⟩
     rw [srt_eq]
     show _=Ending.returned (.bool (x.k==0&&decide (x=y)))
     rw [hk];rfl
    .show _=Ending.returned (.bool (x.k==0&&decide (x=y)))
     rw [beq_eq_false_iff_ne.2 hk];rfl
  .refine srt_at (R2 H2) e1 hy λp hp _=>H2.locg λw3 H3=>?_
   have c:=srt_again (R2 H3) e1 hy hp
   have fe:fitX 18 x y z=(decide (x=y)||(x.k==1&&y.k==1)):=rfl
   rw [fe]
   refine ⟨_,_,_,c.c0,c.c1,c.c2,sel_srt (λhe=>⟨by rw [decide_eq_true he];rfl,H3.fr⟩) (λhe=>?_)⟩
   rw [decide_eq_false he,Bool.false_or]
   refine sel_eq (λhk=>srt_at (R2 H3) e1 hy λp' _ c'=>⟨_,c'.c0,?_,H3.fr⟩) (λhk=>⟨?_,H3.fr⟩)
   .rw [hk];rfl
   .rw [beq_eq_false_iff_ne.2 hk];rfl
  .refine H2.locg λw3 H3=>H3.callg (c_BV 1 w3) ?_
   rintro _ w4 rfl H4
   have fe:fitX 19 x y z=(decide (x=bvS 1)&&(decide (y=z)||(y.k==1&&z.k==1))):=rfl
   rw [fe]
   refine ⟨_,_,_,rfl,sel_srt (b:=bvS 1) (λhe=>?_) (λhe=>⟨by rw [decide_eq_false he];rfl,H4.fr⟩)⟩
   rw [decide_eq_true he,Bool.true_and]
   refine srt_at (R2 H4) e1 hy λp _ c=>⟨_,_,_,c.c0,c.c1,c.c2,srt_at (R2 H4) e2 hz λq _ d=>⟨_,_,_,d.c0,d.c1,d.c2,sel_srt (λh2=>⟨by rw [decide_eq_true h2];rfl,H4.fr⟩) (λh2=>?_)⟩⟩
   rw [decide_eq_false h2,Bool.false_or]
   refine srt_at (R2 H4) e1 hy λp' _ c'=>⟨_,c'.c0,sel_eq (λhk=>srt_at (R2 H4) e2 hz λq' _ d'=>⟨_,d'.c0,?_,H4.fr⟩) (λhk=>⟨?_,H4.fr⟩)⟩
   .rw [hk];rfl
   .rw [beq_eq_false_iff_ne.2 hk];rfl
  .have fe:fitX 20 x y z=(x.k==0&&y.k==0):=rfl
   rw [fe]
   refine sel_eq (λhk=>srt_at (R2 H2) e1 hy λp _ c=>⟨_,c.c0,?_,H2.fr⟩) (λhk=>⟨?_,H2.fr⟩)
   .rw [hk];rfl
   .rw [beq_eq_false_iff_ne.2 hk];rfl
  iterate 3 exact ⟨rfl,H2.fr⟩
  .have fe:fitX 24 x y z=(arrS x&&decide (y=bvS x.x)):=rfl
   rw [fe,<-ha]
   refine sel_intro (λht=>?_) (λhf=>H2.locg λw3 H3=>⟨by rw [hf];rfl,H3.fr⟩)
   refine srt_at (R2 H2) e1 hy λp hp _=>H2.locg λw3 H3=>?_
   have c:=srt_again (R2 H3) e1 hy hp
   refine ⟨_,_,_,c.c0,c.c1,c.c2,H3.callg (c_BV x.x w3) ?_⟩
   rintro _ w4 rfl H4
   have d:=srt_again (R2 H4) e1 hy hp
   refine ⟨_,_,_,rfl,d.c0,d.c1,d.c2,?_,H4.fr⟩
   rw [ht,Bool.true_and]
   exact congrArg (λb=>Ending.returned (.bool b)) (srt_eq y (bvS x.x))
  .have fe:fitX 25 x y z=(arrS x&&decide (y=bvS x.x)&&(decide (z=elemS x)||(x.k==3&&z.k==1&&decide (z.n<=x.n)))):=rfl
   rw [fe,<-ha]
   refine sel_not (λhf=>H2.locg λw3 H3=>⟨by rw [hf];rfl,H3.fr⟩) (λht=>?_)
   rw [ht,Bool.true_and]
   refine srt_at (R2 H2) e1 hy λp hp _=>H2.locg λw3 H3=>?_
   have c:=srt_again (R2 H3) e1 hy hp
   refine ⟨_,_,_,c.c0,c.c1,c.c2,H3.callg (c_BV x.x w3) ?_⟩
   rintro _ w4 rfl H4
   have d:=srt_again (R2 H4) e1 hy hp
   refine ⟨_,_,_,rfl,d.c0,d.c1,d.c2,sel_srtN (a:=y) (b:=bvS x.x) (λhne=>⟨by rw [decide_eq_false hne];rfl,H4.fr⟩) (λheq=>?_)⟩
   rw [decide_eq_true heq,Bool.true_and]
   refine srt_at (R2 H4) e2 hz λq hq _=>H4.locg λw5 H5=>?_
   have c5:=srt_again (R2 H5) e2 hz hq
   refine ⟨_,_,_,c5.c0,c5.c1,c5.c2,H5.callg (r_Element x w5) ?_⟩
   rintro _ w6 rfl H6
   have d6:=srt_again (R2 H6) e2 hz hq
   refine ⟨_,_,_,rfl,d6.c0,d6.c1,d6.c2,sel_srt (a:=z) (b:=elemS x) (λhe=>⟨by rw [decide_eq_true he];rfl,H6.fr⟩) (λhne=>?_)⟩
   rw [decide_eq_false hne,Bool.false_or]
   refine sel_eq (λhk=>srt_at (R2 H6) e2 hz λq' _ d'=>⟨_,d'.c0,sel_eq (λhz1=>srt_at (R2 H6) e2 hz λq2 _ d2=>⟨_,d2.c1,?_,H6.fr⟩) (λhz1=>⟨?_,H6.fr⟩)⟩) (λhk=>⟨?_,H6.fr⟩)
   .rw [hk,hz1];rfl
   .rw [beq_eq_false_iff_ne.2 hz1,Bool.and_false];rfl
   .rw [beq_eq_false_iff_ne.2 hk];rfl
  .have fe:fitX 26 x y z=(arrS x&&decide (x=y)):=rfl
   rw [fe,<-ha]
   refine sel_intro (λht=>?_) (λhf=>H2.locg λw3 H3=>⟨by rw [hf];rfl,H3.fr⟩)
   refine srt_at (R2 H2) e1 hy λp hp _=>H2.locg λw3 H3=>?_
   have c:=srt_again (R2 H3) e1 hy hp
   refine ⟨_,_,_,c.c0,c.c1,c.c2,?_,H3.fr⟩
   rw [srt_eq,ht];rfl
  iterate 2 exact ⟨rfl,H2.fr⟩
  .have fe:fitX 29 x y z=(x.k==1&&y.k==1):=rfl
   rw [fe]
   refine sel_eq (λhk=>srt_at (R2 H2) e1 hy λp _ c=>⟨_,c.c0,?_,H2.fr⟩) (λhk=>⟨?_,H2.fr⟩)
   .rw [hk];rfl
   .rw [beq_eq_false_iff_ne.2 hk];rfl
  .have fe:fitX 30 x y z=(x.k==1&&decide (y=bvS 7)&&decide (z=bvS 7)):=rfl
   rw [fe]
   refine sel_eq (λhk=>?_) (λhk=>H2.locg λw3 H3=>⟨by rw [beq_eq_false_iff_ne.2 hk];rfl,H3.fr⟩)
   rw [hk]
   refine srt_at (R2 H2) e1 hy λp hp _=>H2.locg λw3 H3=>?_
   have c:=srt_again (R2 H3) e1 hy hp
   refine ⟨_,_,_,c.c0,c.c1,c.c2,H3.callg (c_BV 7 w3) ?_⟩
   rintro _ w4 rfl H4
   have d:=srt_again (R2 H4) e1 hy hp
   refine ⟨_,_,_,rfl,d.c0,d.c1,d.c2,sel_srt (a:=y) (b:=bvS 7) (λhe=>?_) (λhne=>⟨by rw [decide_eq_false hne];rfl,H4.fr⟩)⟩
   rw [decide_eq_true he]
   refine srt_at (R2 H4) e2 hz λq hq c4=>⟨_,_,_,c4.c0,c4.c1,c4.c2,H4.callg (c_BV 7 w4) ?_⟩
   rintro _ w5 rfl H5
   have d5:=srt_again (R2 H5) e2 hz hq
   exact ⟨_,_,_,rfl,d5.c0,d5.c1,d5.c2,congrArg (λb=>Ending.returned (.bool b)) (srt_eq z (bvS 7)),H5.fr⟩
  .have fe:fitX 31 x y z=(x.k==1&&y.k==1):=rfl
   rw [fe]
   refine sel_eq (λhk=>srt_at (R2 H2) e1 hy λp _ c=>⟨_,c.c0,?_,H2.fr⟩) (λhk=>⟨?_,H2.fr⟩)
   .rw [hk];rfl
   .rw [beq_eq_false_iff_ne.2 hk];rfl
  .have fe:fitX 32 x y z=(x.k==1&&y.k==1&&z.k==1):=rfl
   rw [fe]
   refine sel_eq (λhk=>srt_at (R2 H2) e1 hy λp _ c=>⟨_,c.c0,sel_eq (λhy1=>srt_at (R2 H2) e2 hz λq _ d=>⟨_,d.c0,?_,H2.fr⟩) (λhy1=>⟨?_,H2.fr⟩)⟩) (λhk=>⟨?_,H2.fr⟩)
   .rw [hk,hy1];rfl
   .rw [beq_eq_false_iff_ne.2 hy1,Bool.and_false];rfl
   .rw [beq_eq_false_iff_ne.2 hk];rfl
  .exact ⟨rfl,H2.fr⟩
  .refine H2.locg λw3 H3=>H3.callg (c_BV 8 w3) ?_
   rintro _ w4 rfl H4
   exact ⟨_,_,_,rfl,congrArg (λb=>Ending.returned (.bool b)) (srt_eq x (bvS 8)),H4.fr⟩
 refine sel_eq (λhk=>H1.locg λw2 H2=>main true w2 ?_ H2) (λhk=>H1.locg λw2 H2=>main _ w2 ?_ H2)
 .unfold arrS;rw [hk];rfl
 .unfold arrS;rw [beq_eq_false_iff_ne.2 hk];rfl
def ResR (n:Nx) (x y z:Srt):Ending->Prop:=λr=>∃(t:Srt) (b:Bool),r=.returned (.tuple #[srtV t,.bool b])/\b=rngX n x y z/\(b=true->t=resX n x y z)
theorem c_result {w:World} {k:Sl} {ks:List Srt} {x y z:Srt} (d:Nd) (h:RdN 3 w k (ks.flatMap srtC)) (hx:ks[0]? =some x) (hy:2<=kidsN d.x.op->ks[1]? =some y) (hz:kidsN d.x.op=3->ks[2]? =some z) (h4:4<=d.x.op) (h34:d.x.op<=34)
  (vx:validS x=true) (vy:2<=kidsN d.x.op->validS y=true) (vz:kidsN d.x.op=3->validS z=true) (hn:I64 d.x.n) (hm:I64 d.x.m):
  Calls Tryz.prog n_enthymemeref07_result #[d.v,k.v] w λr w'=>ResR d.x x y z r/\Fr0 w w':=by
 obtain ⟨x1,x2,x3,x4,_⟩:=valid_n vx
 obtain ⟨hn1,hn2⟩:=hn
 obtain ⟨hm1,hm2⟩:=hm
 refine enthymemeref07_result.okT _ _ _ _ _ _ _ _ _ _ w _ ((lhS h).newg λb2 w1 H1=>H1.newg λb4 w2 H2=>srt_at (H2.getD 0) (rfl:(0:Int)=((0:Nat):Int)) hx λp0 hp0 c0=>⟨x.k,x.n,x.x,c0.c0,c0.c1,c0.c2,H2.newg λb6 w3 H3=>?_⟩)
 have R2:∀{w3:World} {L:List En},LH F0 w w3 L [srtD k ks]->RdN 3 w3 k (ks.flatMap srtC):=λH=>H.getD 0
 have e1:(1:Int)=((1:Nat):Int):=rfl
 have e2:(2:Int)=((2:Nat):Int):=rfl
 obtain ⟨⟨op,kids,n,m,u,tx,st⟩,ksl⟩:=d
 simp only at hy hz h4 h34 vy vz hn1 hn2 hm1 hm2
 have S1:∀w4:World,op≠16->op≠17->op≠18->op≠33->LH F0 w w4 [.g b2,.g b4,.g b6] [srtD k ks]->enthymemeref07_result.S1T k b2 op ksl n m u tx st.k st.n st.x b4 0 0 0 b6 x.k x.n x.x op w4 λr w'=>ResR ⟨op,kids,n,m,u,tx,st⟩ x y z r/\Fr0 w w':=by
  intro w4 n1 n2 n3 n4 H4
  rcases op_all (by omega) h34 with rfl|rfl|rfl|rfl|rfl|rfl|rfl|rfl|rfl|rfl|rfl|rfl|rfl|rfl|rfl|rfl|rfl|rfl|rfl|rfl|rfl|rfl|rfl|rfl|rfl|rfl|rfl|rfl|rfl|rfl|rfl|rfl|rfl|rfl|rfl
  iterate 4 omega
  all_goals repeat (first |refine sel_false rfl ?_|refine sel_true rfl ?_)
  all_goals first |(have hy:=hy (by decide))|skip
  all_goals first |(have hz:=hz (by decide))|skip
  all_goals first |(have vy:=valid_n (vy (by decide)))|skip
  all_goals first |(have vz:=valid_n (vz (by decide)))|skip
  iterate 12 exact H4.locg λw5 H5=>⟨⟨x,true,rfl,rfl,λ_=>rfl⟩,H5.fr⟩
  iterate 3 omega
  .refine srt_at (R2 H4) e1 hy λp hp c=>⟨_,c.c0,sel_eq (λhk=>?_) (λhk=>?_)⟩
   .refine srt_at (R2 H4) e1 hy λp hp _=>H4.locg λw5 H5=>?_
    have c5:=srt_again (R2 H5) e1 hy hp
    refine ⟨_,c5.c1,srt_at (R2 H5) e2 hz λq hq c6=>⟨_,c6.c1,H5.callg (c_Strings _ w5) ?_⟩⟩
    rintro _ w6 rfl H6
    refine ⟨_,_,_,rfl,H6.locg λw7 H7=>⟨⟨_,true,rfl,rfl,λ_=>?_⟩,H7.fr⟩⟩
    show _=if y.k=1 then _ else _
    rw [if_pos hk]
   .refine srt_at (R2 H4) e1 hy λp hp c'=>⟨_,_,_,c'.c0,c'.c1,c'.c2,H4.locg λw5 H5=>⟨⟨y,true,rfl,rfl,λ_=>?_⟩,H5.fr⟩⟩
    show _=if y.k=1 then _ else _
    rw [if_neg hk]
  .refine srt_at (R2 H4) e1 hy λp hp _=>H4.locg λw5 H5=>?_
   have c5:=srt_again (R2 H5) e1 hy hp
   refine ⟨_,c5.c1,srt_at (R2 H5) e1 hy λq hq _=>?_⟩
   have c6:=srt_again (R2 H5) e1 hy hq
   refine ⟨_,c6.c1,H5.callg (c_BV _ w5) ?_⟩
   rintro _ w6 rfl H6
   refine ⟨_,_,_,rfl,(srt_again (R2 H6) e1 hy hq).c1,H6.locg λw7 H7=>⟨(srt_again (R2 H7) e1 hy hq).c1,⟨_,_,rfl,?_,λ_=>?_⟩,H7.fr⟩⟩
   .rw [IntWalk.i64_in _ (by omega)];rfl
   .show bvS _=bvS (x.n+y.n)
    rw [IntWalk.i64_in _ (by omega)]
  .refine H4.locg λw5 H5=>H5.callg (c_BV _ w5) ?_
   rintro _ w6 rfl H6
   have hr:rngX ⟨21,kids,n,m,u,tx,st⟩ x y z=(decide (0<=m)&&decide (m<=n)&&decide (n<x.n)):=rfl
   refine ⟨_,_,_,rfl,sel_dec (λg1=>sel_dec (λg2=>H6.locg λw7 H7=>⟨⟨_,_,rfl,?_,λg3=>?_⟩,H7.fr⟩) (λg2=>H6.locg λw7 H7=>⟨⟨_,false,rfl,?_,λg3=>by cases g3⟩,H7.fr⟩)) (λg1=>H6.locg λw7 H7=>⟨⟨_,false,rfl,?_,λg3=>by cases g3⟩,H7.fr⟩)⟩
   .rw [hr,decide_eq_true (show 0<=m from g1),decide_eq_true g2];rfl
   .have g3:=of_decide_eq_true g3
    show bvS _=bvS (n - m+1)
    rw [IntWalk.i64_in (n - m) (by omega),IntWalk.i64_in _ (by omega)]
   .rw [hr,decide_eq_false g2,Bool.and_false];rfl
   .rw [hr,decide_eq_false (show ¬0<=m from g1)];rfl
  iterate 2
   .refine H4.locg λw5 H5=>H5.callg (c_BV _ w5) ?_
    rintro _ w6 rfl H6
    have e64:IntKind.wrap .i64 (64 - x.n)=64 - x.n:=IntWalk.i64_in _ (by omega)
    rw [e64]
    refine ⟨_,_,_,rfl,sel_dec (λg1=>H6.locg λw7 H7=>⟨⟨_,_,rfl,?_,λg3=>?_⟩,H7.fr⟩) (λg1=>H6.locg λw7 H7=>⟨⟨_,false,rfl,?_,λg3=>by cases g3⟩,H7.fr⟩)⟩
    .show _=(decide (1<=n)&&decide (n<=64 - x.n))
     rw [decide_eq_true (show 1<=n from g1)];rfl
    .have g3:=of_decide_eq_true g3
     show bvS _=bvS (x.n+n)
     rw [IntWalk.i64_in _ (by omega)]
    .show _=(decide (1<=n)&&decide (n<=64 - x.n))
     rw [decide_eq_false (show ¬1<=n from g1)];rfl
  .refine H4.callg (r_Element x w4) ?_
   rintro _ w5 rfl H5
   exact ⟨_,_,_,rfl,H5.locg λw6 H6=>⟨⟨_,true,rfl,rfl,λ_=>rfl⟩,H6.fr⟩⟩
  .exact H4.locg λw5 H5=>⟨⟨x,true,rfl,rfl,λ_=>rfl⟩,H5.fr⟩
  .refine H4.callg (c_BV _ w4) ?_
   rintro _ w5 rfl H5
   exact ⟨_,_,_,rfl,H5.locg λw6 H6=>⟨⟨_,true,rfl,rfl,λ_=>rfl⟩,H6.fr⟩⟩
  .refine H4.callg (c_BV _ w4) ?_
   rintro _ w5 rfl H5
   exact ⟨_,_,_,rfl,H5.locg λw6 H6=>⟨⟨_,true,rfl,rfl,λ_=>rfl⟩,H6.fr⟩⟩
  .refine H4.locg λw5 H5=>H5.callg (c_BV _ w5) ?_
   rintro _ w6 rfl H6
   refine ⟨_,_,_,rfl,sel_dec (λg1=>H6.locg λw7 H7=>⟨⟨_,_,rfl,?_,λg3=>rfl⟩,H7.fr⟩) (λg1=>H6.locg λw7 H7=>⟨⟨_,false,rfl,?_,λg3=>by cases g3⟩,H7.fr⟩)⟩
   .show _=(decide (0<=n)&&decide (n<=63))
    rw [decide_eq_true (show 0<=n from g1)];rfl
   .show _=(decide (0<=n)&&decide (n<=63))
    rw [decide_eq_false (show ¬0<=n from g1)];rfl
  .refine srt_at (R2 H4) e1 hy λp hp _=>H4.locg λw5 H5=>?_
   have c5:=srt_again (R2 H5) e1 hy hp
   refine ⟨_,c5.c1,srt_at (R2 H5) e1 hy λq hq _=>?_⟩
   have c6:=srt_again (R2 H5) e1 hy hq
   refine ⟨_,c6.c1,H5.callg (c_Strings _ w5) ?_⟩
   rintro _ w6 rfl H6
   refine ⟨_,_,_,rfl,(srt_again (R2 H6) e1 hy hq).c1,H6.locg λw7 H7=>⟨(srt_again (R2 H7) e1 hy hq).c1,⟨_,_,rfl,?_,λ_=>?_⟩,H7.fr⟩⟩
   .rw [IntWalk.i64_in _ (by omega)];rfl
   .show strS _=strS (x.n+y.n)
    rw [IntWalk.i64_in _ (by omega)]
  .exact H4.locg λw5 H5=>⟨⟨x,true,rfl,rfl,λ_=>rfl⟩,H5.fr⟩
  .refine H4.callg (c_BV _ w4) ?_
   rintro _ w5 rfl H5
   exact ⟨_,_,_,rfl,H5.locg λw6 H6=>⟨⟨_,true,rfl,rfl,λ_=>rfl⟩,H6.fr⟩⟩
  .refine srt_at (R2 H4) e2 hz λp hp _=>H4.locg λw5 H5=>?_
   have c5:=srt_again (R2 H5) e2 hz hp
   refine ⟨_,c5.c1,srt_at (R2 H5) e2 hz λq hq _=>?_⟩
   have c6:=srt_again (R2 H5) e2 hz hq
   refine ⟨_,c6.c1,H5.callg (c_Strings _ w5) ?_⟩
   rintro _ w6 rfl H6
   refine ⟨_,_,_,rfl,(srt_again (R2 H6) e2 hz hq).c1,H6.locg λw7 H7=>⟨(srt_again (R2 H7) e2 hz hq).c1,⟨_,_,rfl,?_,λ_=>?_⟩,H7.fr⟩⟩
   .rw [IntWalk.i64_in _ (by omega)];rfl
   .show strS _=strS (x.n+z.n)
    rw [IntWalk.i64_in _ (by omega)]
  .omega
  .refine H4.callg (c_Strings _ w4) ?_
   rintro _ w5 rfl H5
   exact ⟨_,_,_,rfl,H5.locg λw6 H6=>⟨⟨_,true,rfl,rfl,λ_=>rfl⟩,H6.fr⟩⟩
 have S0:∀w4:World,(op=16\/op=17\/op=18\/op=33)->LH F0 w w4 [.g b2,.g b4,.g b6] [srtD k ks]->enthymemeref07_result.S0T b4 0 0 0 w4 λr w'=>ResR ⟨op,kids,n,m,u,tx,st⟩ x y z r/\Fr0 w w':=by
  intro w4 ho H4
  refine H4.callg (c_BV 1 w4) ?_
  rintro _ w5 rfl H5
  refine ⟨_,_,_,rfl,H5.locg λw6 H6=>⟨⟨_,true,rfl,?_,λ_=>?_⟩,H6.fr⟩⟩
  .rcases ho with rfl|rfl|rfl|rfl<;>rfl
  .rcases ho with rfl|rfl|rfl|rfl<;>rfl
 exact sel_eq (λh=>sel_true (beq_iff_eq.2 h) (H3.locg λw4 H4=>S0 w4 (.inl h) H4)) λh1=>sel_eq (λh=>sel_true (beq_iff_eq.2 h) (H3.locg λw4 H4=>S0 w4 (.inr (.inl h)) H4)) λh2=>sel_eq (λh=>sel_true (beq_iff_eq.2 h) (H3.locg λw4 H4=>S0 w4 (.inr (.inr (.inl h))) H4)) λh3=>sel_eq (λh=>H3.locg λw4 H4=>S0 w4 (.inr (.inr (.inr h))) H4) λh4'=>H3.locg λw4 H4=>S1 w4 h1 h2 h3 h4' H4
theorem el_srt:ElemOk Tryz.prog ty_sl_api_Sort ty_api_Sort (.agg #[.int .i64 0,.int .i64 0,.int .i64 0]) 3 24:=⟨by kernel_rfl,by kernel_rfl,rfl,by decide,by decide⟩
def TxOk (t:ByteArray):Prop:=t.size<=100000/\∃b,canQ (bl t)=some b
theorem TxOk.can {t:ByteArray} (h:TxOk t):canQ (bl t)=some (canX t):=by
 obtain ⟨b,hb⟩:=h.2
 unfold canX
 rw [hb]
 cases b<;>rfl
structure NOk (d:Nx):Prop where
 kl:d.kids.length<=MaxL
 n:I64 d.n
 m:I64 d.m
 tx:d.op=33->TxOk d.tx
structure GOk (g:List Nx):Prop where
 len:g.length<=MaxL
 val:∀d∈g,validS d.st=true
 vars:VarsOk g
theorem kst_at {l:List Nd} {n:Nx} {i:Nat} {k:Int} {e:Nd} (hk:n.kids[i]? =some k) (he:l[k.toNat]? =some e):kst (xs l) n i=e.x.st:=by
 unfold kst
 rw [hk]
 dsimp only
 rw [xs_get he]
theorem range_snoc (i:Nat) (f:Nat->Srt):((List.range (i+1)).map f).flatMap srtC=((List.range i).map f).flatMap srtC++srtC (f i):=by
 rw [List.range_succ];simp
theorem kids_len {op:Int} {m:Nat} (h:kidsN op=(m:Int)) (h0:m≠0):4<=op/\op<=34:=by
 unfold kidsN at h
 split at h
 .omega
 .split at h
  .omega
  .omega
theorem kids_zero {op:Int} (h:kidsN op=0):0<=op/\op<=3:=by
 unfold kidsN at h
 split at h
 .omega
 .split at h
  .omega
  .split at h
   .omega
   .split at h<;>omega
theorem fld_zero {g:List Nx} {n:Nx} (h:fldE g n=0):(kidsN n.op==(n.kids.length:Int)&&n.kids.all (kidIn g)&&okF n)=true:=by
 unfold fldE at h
 split at h
 .assumption
 .omega
theorem kst_valid {g:List Nx} {n:Nx} (hv:∀d∈g,validS d.st=true) (hk:n.kids.all (kidIn g)=true) {i:Nat} (hi:i<n.kids.length):validS (kst g n i)=true:=by
 have h1:=qaT.1 hk _ (qgEM hi)
 unfold kidIn at h1
 simp only [Bool.and_eq_true,decide_eq_true_eq] at h1
 unfold kst
 rw [qgE hi]
 dsimp only
 have h2:(n.kids[i]).toNat<g.length:=by omega
 rw [qgE h2]
 exact hv _ (qgEM h2)
theorem c_SortOf {w:World} {s:Sl} {l:List Nd} {d:Nd} (h:GP w s l) (hd:d.P w) (hg:GOk (xs l)) (ho:NOk d.x):
  Calls Tryz.prog n_enthymemeref07_SortOf #[s.v,d.v] w λr w'=>r=sortR (srtX (xs l) d.x)/\Fr0 w w':=by
 have hn:=gr_n h
 have hxl:(xs l).length=l.length:=by simp [xs]
 have hkn:d.ks.n=d.x.kids.length:=Nums.len hd
 have hl:=hg.len
 have hk:=ho.kl
 rw [hxl] at hl
 refine enthymemeref07_SortOf.okT _ _ _ _ _ _ _ _ _ _ w _ ((lhN h hd).newg λb3 w1 H1=>H1.newg λb4 w2 H2=>H2.callg (c_fields (gr_P.1 (H2.getD 0)) (H2.getD 1) hk) ?_)
 rintro _ w3 rfl H3
 refine ⟨_,rfl,sel_ne (λhne=>H3.locg λw4 H4=>⟨?_,H4.fr⟩) (λh0=>?_)⟩
 .unfold srtX
  unfold fldE at hne ⊢
  split
  .rename_i hc
   rw [if_pos hc] at hne
   exact absurd rfl hne
  .rename_i hc
   rw [Bool.not_eq_true] at hc
   rw [hc];rfl
 have hf:=fld_zero h0
 have hf1:kidsN d.x.op=(d.x.kids.length:Int):=by
  simp only [Bool.and_eq_true] at hf
  exact eq_of_beq hf.1.1
 have hf2:d.x.kids.all (kidIn (xs l))=true:=by
  simp only [Bool.and_eq_true] at hf
  exact hf.1.2
 have hs0:srtX (xs l) d.x=if d.x.op<=3 then leafX (xs l) d.x else
   if fitX d.x.op (kst (xs l) d.x 0) (kst (xs l) d.x 1) (kst (xs l) d.x 2)=false then (noS,9) else
   if rngX d.x (kst (xs l) d.x 0) (kst (xs l) d.x 1) (kst (xs l) d.x 2)=false then (noS,5) else
   if d.x.op=33/\canX d.x.tx=false then (noS,2) else (resX d.x (kst (xs l) d.x 0) (kst (xs l) d.x 1) (kst (xs l) d.x 2),0):=by
  unfold srtX;rw [hf];rfl
 refine sel_eq (λhk0=>?_) (λhk0=>?_)
 .have hz:=kids_zero (op:=d.x.op) (by omega)
  refine H3.callg (c_leaf (gr_P.1 (H3.getD 0)) (H3.getD 1) hl hz.1 hz.2 hg.vars) ?_
  rintro _ w4 rfl H4
  refine ⟨_,_,_,_,rfl,H4.locg λw5 H5=>⟨?_,H5.fr⟩⟩
  rw [hs0,if_pos hz.2]
 have h4:=kids_len (op:=d.x.op) hf1 (by omega)
 rw [if_neg (by omega)] at hs0
 unfold MaxL at hk hl
 have loop:∀(m i:Nat) (k7:Sl) (w4:World),i+m=d.x.kids.length->LH F0 w w4 [.g b3,.g b4,.row ty_api_Sort 3 k7 (((List.range i).map (kst (xs l) d.x)).flatMap srtC)] (nodeD s l d)->
   enthymemeref07_SortOf.L0T s b3 d.x.op d.ks d.x.n d.x.m d.x.u d.x.tx d.x.st.k d.x.st.n d.x.st.x b4 0 0 0 k7 (i:Int) w4 λr w'=>r=sortR (srtX (xs l) d.x)/\Fr0 w w':=by
  intro m
  induction m with
  |zero=>
   intro i k7 w4 hi H4
   have hi:i=d.x.kids.length:=by omega
   subst hi
   have R4:RdN 3 w4 k7 (((List.range d.x.kids.length).map (kst (xs l) d.x)).flatMap srtC):=(H4.get 2:OwnRow _ _ _ _ _).rdn
   have hks:∀j,j<d.x.kids.length->((List.range d.x.kids.length).map (kst (xs l) d.x))[j]? =some (kst (xs l) d.x j):=λj hj=>by
    rw [List.getElem?_map,List.getElem?_range hj];rfl
   have hvl:∀j,j<d.x.kids.length->validS (kst (xs l) d.x j)=true:=λj hj=>kst_valid hg.val hf2 hj
   refine enthymemeref07_SortOf.L0T_step _ _ _ _ _ _ _ _ _ _ _ _ _ _ _ _ _ _ _ (sel_false (decide_eq_false (by omega)) (H4.callg (c_fit d.x.op R4 (hks 0 (by omega)) (λh2=>hks 1 (by omega)) (λh3=>hks 2 (by omega)) h4.1 h4.2) ?_))
   rintro _ w5 rfl H5
   refine ⟨_,rfl,sel_not (λhfit=>H5.locg λw6 H6=>⟨by rw [hs0,if_pos hfit];rfl,H6.fr⟩) (λhfit=>?_)⟩
   rw [if_neg (by rw [hfit];simp)] at hs0
   have R5:RdN 3 w5 k7 (((List.range d.x.kids.length).map (kst (xs l) d.x)).flatMap srtC):=(H5.get 2:OwnRow _ _ _ _ _).rdn
   refine H5.callg (c_result d R5 (hks 0 (by omega)) (λh2=>hks 1 (by omega)) (λh3=>hks 2 (by omega)) h4.1 h4.2 (hvl 0 (by omega)) (λh2=>hvl 1 (by omega)) (λh3=>hvl 2 (by omega)) ho.n ho.m) ?_
   rintro _ w6 ⟨t,b,rfl,hb,ht⟩ H6
   refine ⟨_,_,_,_,rfl,H6.newg λb10 w7 H7=>sel_not (λhbf=>H7.locg λw8 H8=>⟨?_,H8.fr⟩) (λhbt=>?_)⟩
   .rw [hs0,if_pos (by rw [<-hb,hbf])];rfl
   rw [if_neg (by rw [<-hb,hbt];simp)] at hs0
   have ht:=ht hbt
   have S1:∀(c:Bool) (w8:World) (L:List En),(d.x.op=33/\canX d.x.tx=false↔c=false)->En.g b4∈L->En.g b10∈L->LH F0 w w8 L (nodeD s l d)->enthymemeref07_SortOf.S1T b4 0 0 0 b10 t.k t.n t.x c w8 λr w'=>r=sortR (srtX (xs l) d.x)/\Fr0 w w':=by
    intro c w8 L hc m4 m10 H8
    have hbs:∀b∈[b4,b10],En.g b∈L:=by
     intro b hb
     simp only [qmC,qnM,or_false] at hb
     rcases hb with rfl|rfl
     .exact m4
     .exact m10
    refine sel_not (λhcf=>H8.locg (λw9 H9=>⟨?_,H9.fr⟩) hbs) (λhct=>H8.locg (λw9 H9=>⟨?_,H9.fr⟩) hbs)
    .rw [hs0,if_pos (hc.2 hcf)];rfl
    .rw [hs0,if_neg (λh=>by rw [hct] at hc;cases hc.1 h),ht]
   refine sel_ne (λh33=>H7.locg λw8 H8=>S1 true w8 _ ⟨λh=>absurd h.1 h33,λh=>by cases h⟩ (by simp) (by simp) H8) (λh33=>H7.locg λw8 H8=>?_)
   have htx:=ho.tx h33
   refine H8.callg (c_Canonical d.x.tx htx.1 _ htx.can w8) ?_
   rintro _ w9 rfl H9
   exact ⟨_,rfl,S1 _ w9 _ ⟨λh=>h.2,λh=>⟨h33,h⟩⟩ (by simp) (by simp) H9⟩
  |succ m ih=>
   intro i k7 w4 hi H4
   have hgk:d.x.kids[i]? =some (d.x.kids[i]'(by omega)):=qgE (by omega)
   have hin:=qaT.1 hf2 _ (qmG hgk)
   generalize d.x.kids[i]'(by omega)=kx at hgk hin
   unfold kidIn at hin
   simp only [Bool.and_eq_true,decide_eq_true_eq] at hin
   have hge:l[kx.toNat]? =some (l[kx.toNat]'(by omega)):=qgE (by omega)
   generalize l[kx.toNat]'(by omega)=e at hge
   have hn1:Nums w4 d.ks d.x.kids:=H4.getD 1
   have hrow:=Nd.rows_n (show RdN 9 w4 s (l.flatMap Nd.c) from (gr_P.1 (H4.getD 0)).1)
   refine enthymemeref07_SortOf.L0T_step _ _ _ _ _ _ _ _ _ _ _ _ _ _ _ _ _ _ _ (sel_true (decide_eq_true (by omega)) ⟨by omega,by omega,hn1.cell hgk (by omega) λp hp hc=>⟨kx,hc,gr_at (gr_P.1 (H4.getD 0)) (i:=kx.toNat) (by omega) hge λq hq c=>⟨_,_,_,c.s0,c.s1,c.s2,?_⟩⟩⟩)
   have hlen:k7.n=i:=by
    have:=(H4.get 2:OwnRow _ _ _ _ _).len
    rw [srts_len] at this
    simp at this
    omega
   refine H4.ap1T 2 el_srt rfl (λs' w5 H5=>?_) (by omega)
   rw [i64_next _ (by omega)]
   refine ih (i+1) s' w5 (by omega) ?_
   rw [range_snoc,kst_at hgk hge]
   exact H5
 exact loop d.x.kids.length 0 ⟨none,0,0⟩ w3 (by omega) (H3.nilrow ty_api_Sort 3)
theorem el_node:ElemOk Tryz.prog ty_sl_api_Node ty_api_Node (.agg #[.int .i64 0,.slice none 0 0,.int .i64 0,.int .i64 0,.int .u64 0,.string (ByteArray.mk #[]),.int .i64 0,.int .i64 0,.int .i64 0]) 9 96:=⟨by kernel_rfl,by kernel_rfl,rfl,by decide,by decide⟩
theorem nd_one {l:List Nd}:∀u∈l.flatMap Nd.c,u.oneCell'=true:=by
 intro u hu
 obtain ⟨d,_,hu⟩:=List.mem_flatMap.1 hu
 simp only [Nd.c,qmC,qnM,or_false] at hu
 rcases hu with rfl|rfl|rfl|rfl|rfl|rfl|rfl|rfl|rfl<;>rfl
theorem blk_rdn {w:World} {b n sz:Nat} {cs:List Value} {T:TypeId} (h:w.heap[b]? =some (.cells cs.toArray T (0,0))) (hn:cs.length=n *sz):RdN sz w ⟨some (at0 b),n,n⟩ cs:=
 ⟨hn,Nat.le_refl _,⟨λh=>(by cases h),λi v hi=>⟨at0 b,rfl,cellAt (p:=at0 b) h rfl (by simpa using hi)⟩⟩⟩
theorem c_Same {w:World} {a b:Nd} (ha:a.P w) (hb:b.P w) (hl:a.x.kids.length<=MaxL):Calls Tryz.prog n_enthymemeref07_Same #[a.v,b.v] w λr w'=>r=.returned (.bool (decide (a.x=b.x)))/\Fr0 w w':=by
 have H:LH F0 w w [] [kidE a,kidE b]:=lh0 _ (by
  intro e he
  simp only [qmC,qnM,or_false] at he
  rcases he with rfl|rfl
  .exact ha
  .exact hb)
 obtain ⟨⟨op,ks,n,m,u,tx,st⟩,sl⟩:=a
 obtain ⟨⟨op',ks',n',m',u',tx',st'⟩,sl'⟩:=b
 have no:∀{w1:World} {L:List En},LH F0 w w1 L [kidE ⟨⟨op,ks,n,m,u,tx,st⟩,sl⟩,kidE ⟨⟨op',ks',n',m',u',tx',st'⟩,sl'⟩]->(⟨op,ks,n,m,u,tx,st⟩:Nx)≠⟨op',ks',n',m',u',tx',st'⟩->(Ending.returned (.bool false)=.returned (.bool (decide ((⟨op,ks,n,m,u,tx,st⟩:Nx)=⟨op',ks',n',m',u',tx',st'⟩)))/\Fr0 w w1):=λH1 h=>⟨by rw [decide_eq_false h],H1.fr⟩
 refine enthymemeref07_Same.okT _ _ _ _ _ _ _ _ _ _ _ _ _ _ _ _ _ _ w _ (H.newg λb2 w1 H1=>H1.newg λb3 w2 H2=>?_)
 refine sel_eq (λh1=>?_) (λh1=>no H2 (λh=>h1 (congrArg Nx.op h)))
 refine sel_eq (λh2=>?_) (λh2=>no H2 (λh=>h2 (congrArg Nx.n h)))
 refine sel_eq (λh3=>?_) (λh3=>no H2 (λh=>h3 (congrArg Nx.m h)))
 refine sel_eq (λh4=>?_) (λh4=>no H2 (λh=>h4 (congrArg Nx.u h)))
 refine sel_tx (λh5=>?_) (λh5=>no H2 (λh=>h5 (congrArg Nx.tx h)))
 refine sel_srt (a:=st) (b:=st') (λh6=>?_) (λh6=>no H2 (λh=>h6 (congrArg Nx.st h)))
 refine H2.callg (same_ints (H2.getD 0) (H2.getD 1) (by unfold MaxL at hl;simp only at hl ⊢;omega)) ?_
 rintro _ w3 rfl H3
 refine ⟨_,rfl,?_,H3.fr⟩
 simp only at h1 h2 h3 h4 h5
 subst h1 h2 h3 h4 h5 h6
 simp
theorem leaf_withS {g:List Nx} {n:Nx} {s:Srt} (h:srtX g n=(s,0)):srtX g (withS n s)=(s,0):=by
 unfold srtX at h
 unfold srtX
 have e1:(kidsN (withS n s).op==((withS n s).kids.length:Int)&&(withS n s).kids.all (kidIn g)&&okF (withS n s))=(kidsN n.op==(n.kids.length:Int)&&n.kids.all (kidIn g)&&okF n):=rfl
 rw [e1]
 split at h
 .simp at h
 .rename_i hc
  rw [if_neg hc]
  have e2:(withS n s).op=n.op:=rfl
  rw [e2]
  split at h
  .rename_i h3
   rw [if_pos h3]
   unfold leafX at h
   by_cases h2:n.op=2
   .rw [if_pos h2] at h
    unfold leafX
    rw [e2,if_pos h2]
    exact h
   .rw [if_neg h2] at h
    have hs:s=n.st:=by
     split at h
     .simp at h
     .split at h
      .simp at h
      .split at h
       .simp at h
       .split at h
        .simp at h
        .split at h
         .simp at h
         .exact (congrArg Prod.fst h).symm
    have:withS n s=n:=by rw [hs];rfl
    rw [this]
    unfold leafX
    rw [if_neg h2]
    exact h
  .rename_i h3
   rw [if_neg h3]
   exact h
def indexX (g:List Nx) (n:Nx):Option Nat:=idxX (if (srtX g n).2=0 then withS n (srtX g n).1 else n) g 0
def optI:Option Nat->Int
 |some i=>(i:Int)
 |none=>-1
theorem c_Index {w:World} {s:Sl} {l:List Nd} {d:Nd} (h:GP w s l) (hd:d.P w) (hg:GOk (xs l)) (ho:NOk d.x) (hgk:∀e∈l,e.x.kids.length<=MaxL):
  Calls Tryz.prog n_enthymemeref07_Index #[s.v,d.v] w λr w'=>r=.returned (.i (optI (indexX (xs l) d.x)))/\Fr0 w w':=by
 have hn:=gr_n h
 have hxl:(xs l).length=l.length:=by simp [xs]
 have hl:=hg.len
 rw [hxl] at hl
 unfold MaxL at hl
 have loop:∀(m i:Nat) (b3:Nat) (w4:World) (e:Nd) (L:List En),e.ks=d.ks->e.x.kids=d.x.kids->i+m=l.length->idxX e.x ((xs l).drop i) i=indexX (xs l) d.x->En.g b3∈L->LH F0 w w4 L (nodeD s l d)->
   enthymemeref07_Index.L1T s b3 e.x.op e.ks e.x.n e.x.m e.x.u e.x.tx e.x.st.k e.x.st.n e.x.st.x (i:Int) w4 λr w'=>r=.returned (.i (optI (indexX (xs l) d.x)))/\Fr0 w w':=by
  intro m
  induction m with
  |zero=>
   intro i b3 w4 e L hek hex hi he hb H4
   rw [qdO (by omega)] at he
   exact enthymemeref07_Index.L1T_step _ _ _ _ _ _ _ _ _ _ _ _ _ _ (sel_false (decide_eq_false (by omega)) ⟨by rw [<-he];rfl,H4.fr⟩)
  |succ m ih=>
   intro i b3 w4 e L hek hex hi he hb H4
   have hg1:l[i]? =some (l[i]'(by omega)):=qgE (by omega)
   have hx:(xs l).drop i=(l[i]'(by omega)).x::(xs l).drop (i+1):=by
    rw [qdG (by omega:i<(xs l).length)]
    simp [xs]
   rw [hx] at he
   generalize l[i]'(by omega)=a at hg1 he
   have hbs:∀b∈[b3],En.g b∈L:=by simpa using hb
   refine enthymemeref07_Index.L1T_step _ _ _ _ _ _ _ _ _ _ _ _ _ _ (sel_true (decide_eq_true (by omega)) (gr_at (gr_P.1 (H4.getD 0)) rfl hg1 λp hp _=>H4.locg (λw5 H5=>?_) hbs))
   have G5:GP w5 s l:=gr_P.1 (H5.getD 0)
   have c:=gr_again G5 hg1 hp (rfl:((i:Int))=(i:Int))
   have pe:e.P w5:=by
    show Nums w5 e.ks e.x.kids
    rw [hek,hex]
    exact H5.getD 1
   refine ⟨_,_,_,_,_,_,_,_,_,c.c0,c.c1,c.c2,c.c3,c.c4,c.c5,c.c6,c.c7,c.c8,H5.callg (c_Same (a:=a) (b:=e) (G5.2 a (qmG hg1)) pe (hgk a (qmG hg1))) ?_⟩
   rintro _ w6 rfl H6
   have he2:(if a.x=e.x then some i else idxX e.x ((xs l).drop (i+1)) (i+1))=indexX (xs l) d.x:=he
   refine ⟨_,rfl,sel_dec (λhs=>⟨?_,H6.fr⟩) (λhs=>?_)⟩
   .rw [if_pos hs] at he2
    rw [<-he2];rfl
   .rw [if_neg hs] at he2
    rw [i64_next _ (by omega)]
    exact ih (i+1) b3 w6 e L hek hex (by omega) he2 hb H6
 refine enthymemeref07_Index.okT _ _ _ _ _ _ _ _ _ _ w _ ((lhN h hd).newg λb3 w1 H1=>H1.callg (c_SortOf (gr_P.1 (H1.getD 0)) (H1.getD 1) hg ho) ?_)
 rintro _ w2 rfl H2
 refine ⟨_,_,_,_,rfl,H2.newg λb5 w3 H3=>sel_eq (λh0=>H3.locg λw4 H4=>?_) (λh0=>H3.locg λw4 H4=>?_)⟩
 .exact loop l.length 0 b3 w4 ⟨withS d.x (srtX (xs l) d.x).1,d.ks⟩ _ rfl rfl (by omega) (by unfold indexX;rw [if_pos h0];rfl) (by simp) H4
 .exact loop l.length 0 b3 w4 d _ rfl rfl (by omega) (by unfold indexX;rw [if_neg h0];rfl) (by simp) H4
structure GR (w:World) (B:Nat->Prop) (g:List Nx) (s:Sl) (w':World):Prop where
 ex:∃l':List Nd,xs l'=g/\GP w' s l'/\∀b∈(En.gr s l').fp,B b\/w.heap.size<=b
theorem GR.nil (w:World) (B:Nat->Prop) (w':World):GR w B [] ⟨none,0,0⟩ w':=⟨⟨[],rfl,⟨RdN.nil 9 w',by simp⟩,λb hb=>by
 rcases gr_fp.1 hb with h|⟨d,hd,_⟩
 .cases h
 .cases hd⟩⟩
theorem c_rAdd {w:World} {s:Sl} {l:List Nd} {d:Nd} (h:GP w s l) (hd:d.P w) (hg:GOk (xs l)) (ho:NOk d.x) (hgk:∀e∈l,e.x.kids.length<=MaxL):
  Calls Tryz.prog n_enthymemeref07_Add #[s.v,d.v] w λr w'=>(∃s':Sl,r=.returned (.tuple #[s'.v,.i (addX (xs l) d.x).2.1,.i (addX (xs l) d.x).2.2])/\GR w (λb=>b∈(En.gr s l).fp\/b∈(kidE d).fp) (addX (xs l) d.x).1 s' w')/\Fr0 w w':=by
 have hn:=gr_n h
 have hxl:(xs l).length=l.length:=by simp [xs]
 refine enthymemeref07_Add.okT _ _ _ _ _ _ _ _ _ _ w _ ((lhN h hd).newg λb3 w1 H1=>H1.callg (c_SortOf (gr_P.1 (H1.getD 0)) (H1.getD 1) hg ho) ?_)
 rintro _ w2 rfl H2
 refine ⟨_,_,_,_,rfl,H2.newg λb7 w3 H3=>sel_ne (λh0=>H3.locg λw4 H4=>⟨⟨⟨none,0,0⟩,?_,?_⟩,H4.fr⟩) (λh0=>H3.locg λw4 H4=>?_)⟩
 .unfold addX;rw [if_pos h0]
 .unfold addX;rw [if_pos h0];exact GR.nil _ _ _
 have hs:srtX (xs l) d.x=((srtX (xs l) d.x).1,0):=by rw [<-h0]
 have hs2:=leaf_withS hs
 have hidx:indexX (xs l) (withS d.x (srtX (xs l) d.x).1)=idxX (withS d.x (srtX (xs l) d.x).1) (xs l) 0:=by
  unfold indexX
  rw [hs2]
  rfl
 have ha:addX (xs l) d.x=match idxX (withS d.x (srtX (xs l) d.x).1) (xs l) 0 with
   |some i=>(xs l,(i:Int),0)
   |none=>if 4096<=(xs l).length then ([],0,4) else (xs l++[withS d.x (srtX (xs l) d.x).1],((xs l).length:Int),0):=by
  unfold addX;rw [if_neg (by omega)]
  try rfl
 generalize hsrt:(srtX (xs l) d.x).1=sr at *
 let e:Nd:=⟨withS d.x sr,d.ks⟩
 have hoe:NOk e.x:=⟨ho.kl,ho.n,ho.m,ho.tx⟩
 refine H4.callg (c_Index (d:=e) (gr_P.1 (H4.getD 0)) (H4.getD 1) hg hoe hgk) ?_
 rintro _ w5 rfl H5
 rw [show indexX (xs l) e.x=idxX (withS d.x sr) (xs l) 0 from hidx]
 refine ⟨_,rfl,?_⟩
 cases hi:idxX (withS d.x sr) (xs l) 0 with
 |some i=>
  rw [hi] at ha
  rw [ha]
  exact sel_true (decide_eq_true (Int.natCast_nonneg i)) ⟨⟨s,rfl,⟨l,rfl,gr_P.1 (H5.getD 0),λb hb=>.inl (.inl hb)⟩⟩,H5.fr⟩
 |none=>
  rw [hi] at ha
  dsimp only at ha
  refine sel_false (by decide) ?_
  refine sel_dec (λh4=>⟨⟨⟨none,0,0⟩,?_,?_⟩,H5.fr⟩) (λh4=>?_)
  .rw [ha,if_pos (by omega)]
  .rw [ha,if_pos (by omega)];exact GR.nil _ _ _
  rw [if_neg (by omega)] at ha
  rw [ha]
  have R5:∀{w6:World} {L:List En},LH F0 w w6 L (nodeD s l d)->RdN 9 w6 s (l.flatMap Nd.c):=λH=>(gr_P.1 (H.getD 0)).1
  have fin:∀(s':Sl) (w6:World) (L:List En) (j:Nat),LH F0 w w6 L (nodeD s l d)->L[j]? =some (.row ty_api_Node 9 s' (l.flatMap Nd.c++e.c))->
    (∃s'':Sl,Ending.returned (.tuple #[s'.v,.i ((s.n:Nat):Int),.i 0])=.returned (.tuple #[s''.v,.i ((xs l).length:Int),.i 0])/\GR w (λb=>b∈(En.gr s l).fp\/b∈(kidE d).fp) (xs l++[withS d.x sr]) s'' w6)/\Fr0 w w6:=by
   intro s' w6 L j H6 hj
   have hrow:RdN 9 w6 s' ((l++[e]).flatMap Nd.c):=by
    have:OwnRow w6 ty_api_Node 9 s' (l.flatMap Nd.c++e.c):=H6.get j hj
    have:=this.rdn
    simpa using this
   refine ⟨⟨s',by rw [hxl,hn],⟨l++[e],by simp [xs,e],⟨hrow,λa ha=>?_⟩,λb hb=>?_⟩⟩,H6.fr⟩
   .rcases qmA.1 ha with ha|ha
    .exact (gr_P.1 (H6.getD 0)).2 a ha
    .simp only [qmC,qnM,or_false] at ha
     subst ha
     exact H6.getD 1
   .rcases gr_fp.1 hb with hb|⟨a,ha,hb⟩
    .right
     have hb2:b∈(En.row ty_api_Node 9 s' (l.flatMap Nd.c++e.c)).fp:=by
      have:b∈(if (l++[e]).flatMap Nd.c=[] then [] else blkL s'):=hb
      split at this
      .cases this
      .exact this
     exact (H6.new _ (qmG hj) b hb2).resolve_right id
    .rcases qmA.1 ha with ha|ha
     .exact .inl (.inl (gr_fp.2 (.inr ⟨a,ha,hb⟩)))
     .simp only [qmC,qnM,or_false] at ha
      subst ha
      exact .inl (.inr hb)
  have oneE:∀u∈e.c,u.oneCell'=true:=λu hu=>nd_one (l:=[e]) u (by simpa using hu)
  have hl:=hg.len
  rw [hxl] at hl
  unfold MaxL at hl
  refine ⟨H5.locg λw6 H6=>H6.nwrow (n:=0) (sz:=9) (cs:=[]) rfl (by decide) λw7 H7=>⟨?_,?_⟩,H5.locg λw6 H6=>H6.nw λw7 _ H7=>H7.nwrow (n:=0) (sz:=9) (cs:=[]) rfl (by decide) λw8 H8=>?_⟩
  .refine H7.apT 2 el_node (s:=⟨some (at0 w6.heap.size),0,0⟩) (src:=s) rfl (R5 H7) nd_one (by simp only;omega) (λs1 w8 H8=>?_)
   have hs1:=(H8.get 2:OwnRow _ _ _ _ _).len
   rw [qnA0,Nd.cs_len] at hs1
   refine H8.ap1T 2 el_node rfl (λs2 w9 H9=>?_) (by omega)
   exact fin s2 w9 _ 2 H9 rfl
  .refine H7.nw λw8 _ H8=>?_
   refine H8.apT 2 el_node (s:=⟨some (at0 w6.heap.size),0,0⟩) (src:=s) rfl (R5 H8) nd_one (by simp only;omega) (λs1 w9 H9=>?_)
   have hs1:=(H9.get 2:OwnRow _ _ _ _ _).len
   rw [qnA0,Nd.cs_len] at hs1
   refine H9.apT 2 el_node (src:=⟨some (at0 w7.heap.size),1,1⟩) rfl (blk_rdn (cs:=e.c) (T:=ty_api_Node) (H9.ob 3) rfl) oneE (by simp only;omega) (λs2 w10 H10=>?_)
   exact fin s2 w10 _ 2 H10 rfl
  .refine H8.apT 3 el_node (s:=⟨some (at0 w7.heap.size),0,0⟩) (src:=s) rfl (R5 H8) nd_one (by simp only;omega) (λs1 w9 H9=>?_)
   have hs1:=(H9.get 3:OwnRow _ _ _ _ _).len
   rw [qnA0,Nd.cs_len] at hs1
   refine H9.apT 3 el_node (src:=⟨some (at0 w6.heap.size),1,1⟩) rfl (blk_rdn (cs:=e.c) (T:=ty_api_Node) (H9.ob 2) rfl) oneE (by simp only;omega) (λs2 w10 H10=>?_)
   exact fin s2 w10 _ 3 H10 rfl
theorem n_around (n m:Int) (w:World) (hm:1<=m) (h:I64 n):Calls Tryz.prog n_enthymemeref01_Around #[.i n,.i m] w λr w'=>r=.returned (.i (aroundI n m))/\Fr0 w w':=(around_any n m w hm h).mono λr w' h=>⟨h.1,h.2▸Fr.refl _ _⟩
def varX (t:List UInt8) (s:Srt):Nx:=⟨0,[],0,0,0,ba t,s⟩
def varD (t:List UInt8) (s:Srt):Nd:=⟨varX t s,⟨none,0,0⟩⟩
def start0:List Nd:=[varD [97] (bvS 2),varD [98] (bvS 2),varD [99] (bvS 1),varD [100] (bvS 3)]
def start1:List Nd:=[varD [109] ⟨2,2,1⟩,varD [110] ⟨2,2,1⟩]
def start2:List Nd:=[varD [115] (strS 2),varD [116] (strS 1),varD [105] (bvS 7),varD [122] ⟨3,1,1⟩]
def startD (kind:Int):List Nd:=start0++(if kind>0 then start1 else [])++(if kind>1 then start2 else [])
def vgB (l:List Nx):Bool:=(List.range l.length).all λi=>match l[i]? with
 |some n=>decide (srtX (l.take i) n=(n.st,0))&&decide (n∉l.take i)
 |none=>false
theorem vg_of {l:List Nx} (h:vgB l=true):Vg l:=by
 have main:∀i,i<=l.length->Vg (l.take i):=by
  intro i
  induction i with
  |zero=>intro _;rw [List.take_zero];exact .nil
  |succ i ih=>
   intro hi
   have h1:=qaT.1 h i (List.mem_range.2 (by omega))
   have hg:l[i]? =some (l[i]'(by omega)):=qgE (by omega)
   rw [hg] at h1
   dsimp only at h1
   rw [List.take_add_one,hg]
   simp only [Bool.and_eq_true,decide_eq_true_eq] at h1
   exact .snoc (ih (by omega)) h1.1 h1.2
 have:=main l.length (Nat.le_refl _)
 rwa [List.take_length] at this
theorem start_vg (kind:Int):Vg (xs (startD kind)):=by
 unfold startD
 split
 .split
  .exact vg_of (by kernel_rfl)
  .exact vg_of (by kernel_rfl)
 .split
  .exact vg_of (by kernel_rfl)
  .exact vg_of (by kernel_rfl)
structure MdN (d:Nx):Prop where
 op1:-1<=d.op
 op2:d.op<=34
 kl:d.kids.length<=3
 n:0<=d.n/\d.n<=100
 m:0<=d.m/\d.m<=100
 u:0<=d.u/\d.u<=1000
 tx:d.op≠33->d.tx.size<=16
 re:d.op=33->∃k,d.tx=ba (textQ k)
structure MdG (g:List Nx):Prop where
 vg:Vg g
 nd:∀d∈g,MdN d
theorem start_md (kind:Int):MdG (xs (startD kind)):=by
 refine ⟨start_vg kind,λd hd=>?_⟩
 have h:∃t s,d=varX t s/\t.length<=16:=by
  have h1:d∈xs (start0++start1++start2):=by
   obtain ⟨a,ha,rfl⟩:=qmM.1 hd
   refine qmM.2 ⟨a,?_,rfl⟩
   unfold startD at ha
   rcases qmA.1 ha with ha|ha
   .rcases qmA.1 ha with ha|ha
    .simp [ha]
    .split at ha
     .simp [ha]
     .cases ha
   .split at ha
    .simp [ha]
    .cases ha
  simp only [xs,start0,start1,start2,varD,List.cons_append,qnA0,List.map_cons,List.map_nil,qmC,qnM,or_false] at h1
  rcases h1 with rfl|rfl|rfl|rfl|rfl|rfl|rfl|rfl|rfl|rfl<;>exact ⟨_,_,rfl,by decide⟩
 obtain ⟨t,s,rfl,ht⟩:=h
 exact ⟨by show (-1:Int)<=0;omega,by show (0:Int)<=34;omega,by simp [varX],by simp [varX],by simp [varX],by simp [varX],λ_=>by show (ba t).size<=16;rw [ba_size];exact ht,λh=>by cases h⟩
theorem startD_kids {kind:Int}:∀d∈startD kind,d.x.kids=[]/\d.ks=⟨none,0,0⟩:=by
 intro d hd
 have h1:d∈start0++start1++start2:=by
  unfold startD at hd
  rcases qmA.1 hd with ha|ha
  .rcases qmA.1 ha with ha|ha
   .simp [ha]
   .split at ha
    .simp [ha]
    .cases ha
  .split at ha
   .simp [ha]
   .cases ha
 simp only [start0,start1,start2,varD,varX,List.cons_append,qnA0,qmC,qnM,or_false] at h1
 rcases h1 with rfl|rfl|rfl|rfl|rfl|rfl|rfl|rfl|rfl|rfl<;>exact ⟨rfl,rfl⟩
theorem start_gp {kind:Int} {w w0:World} {s:Sl} (h:RdN 9 w s ((startD kind).flatMap Nd.c)) (hf:∀b∈blkL s,w0.heap.size<=b):GR w0 F0 (xs (startD kind)) s w:=by
 refine ⟨startD kind,rfl,⟨h,λd hd=>?_⟩,λb hb=>.inr ?_⟩
 .obtain ⟨h1,h2⟩:=startD_kids d hd
  show Nums w d.ks d.x.kids
  rw [h1,h2]
  exact Rd.nil w
 .rcases gr_fp.1 hb with hb|⟨d,hd,hb⟩
  .exact rdn_fp hf b hb
  .obtain ⟨h1,h2⟩:=startD_kids d hd
   unfold kidE at hb
   rw [h1] at hb
   cases hb
theorem start_len (kind:Int):1<=(startD kind).length/\(startD kind).length<=10:=by
 unfold startD
 split<;>split<;>decide
theorem c_start (kind:Int) (w:World):Calls Tryz.prog n_enthymemeref07_start #[.i kind] w λr w'=>(∃s:Sl,r=.returned s.v/\GR w F0 (xs (startD kind)) s w')/\Fr0 w w':=by
 refine enthymemeref07_start.ok kind w _ ((lh0 [] (by simp)).call (c_BV 2 w) ?_)
 rintro _ w1 rfl H1
 refine ⟨_,_,_,rfl,H1.call (c_BV 2 w1) ?_⟩
 rintro _ w2 rfl H2
 refine ⟨_,_,_,rfl,H2.call (c_BV 1 w2) ?_⟩
 rintro _ w3 rfl H3
 refine ⟨_,_,_,rfl,H3.call (c_BV 3 w3) ?_⟩
 rintro _ w4 rfl H4
 refine ⟨_,_,_,rfl,H4.nwrow (n:=4) (sz:=9) (cs:=start0.flatMap Nd.c) rfl (by decide) λw5 H5=>?_⟩
 have fin:∀(l:Sl) (w6:World) (L:List En) (j:Nat),LH F0 w w6 L []->L[j]? =some (.row ty_api_Node 9 l ((startD kind).flatMap Nd.c))->(∃s:Sl,Ending.returned l.v=.returned s.v/\GR w F0 (xs (startD kind)) s w6)/\Fr0 w w6:=λl w6 L j H6 hj=>
  ⟨⟨l,rfl,start_gp (H6.get j hj:OwnRow _ _ _ _ _).rdn λb hb=>(H6.new _ (qmG hj) b hb).resolve_right id⟩,H6.fr⟩
 have S0:∀(l:Sl) (w6:World) (L:List En) (j:Nat) (ds:List Nd),LH F0 w w6 L []->ds.length<=6->startD kind=ds++(if kind>1 then start2 else [])->L[j]? =some (.row ty_api_Node 9 l (ds.flatMap Nd.c))->enthymemeref07_start.S0 kind l w6 λr w'=>(∃s:Sl,r=.returned s.v/\GR w F0 (xs (startD kind)) s w')/\Fr0 w w':=by
  intro l w6 L j ds H6 hds he hj
  refine sel_dec (λh1=>?_) (λh1=>?_)
  .rw [if_pos h1] at he
   refine H6.call (c_Strings 2 w6) ?_
   rintro _ w7 rfl H7
   refine ⟨_,_,_,rfl,H7.call (c_Strings 1 w7) ?_⟩
   rintro _ w8 rfl H8
   refine ⟨_,_,_,rfl,H8.call (c_BV 7 w8) ?_⟩
   rintro _ w9 rfl H9
   refine ⟨_,_,_,rfl,H9.nwrow (n:=4) (sz:=9) (cs:=start2.flatMap Nd.c) rfl (by decide) λw10 H10=>?_⟩
   have hj2:(L++[En.row ty_api_Node 9 ⟨some (at0 w9.heap.size),4,4⟩ (start2.flatMap Nd.c)])[j]? =some (.row ty_api_Node 9 l (ds.flatMap Nd.c)):=by
    rw [List.getElem?_append_left (qgS.1 hj).1];exact hj
   have hlast:(L++[En.row ty_api_Node 9 ⟨some (at0 w9.heap.size),4,4⟩ (start2.flatMap Nd.c)])[L.length]? =some (.row ty_api_Node 9 ⟨some (at0 w9.heap.size),4,4⟩ (start2.flatMap Nd.c)):=by simp
   have hn:l.n=ds.length:=by
    have:=(H10.get j hj2:OwnRow _ _ _ _ _).len
    rw [Nd.cs_len] at this
    omega
   have hsrc:RdN 9 w10 ⟨some (at0 w9.heap.size),4,4⟩ (start2.flatMap Nd.c):=(H10.get L.length hlast:OwnRow _ _ _ _ _).rdn
   refine H10.ap j el_node (src:=⟨some (at0 w9.heap.size),4,4⟩) hj2 hsrc.2.2 hsrc.1 nd_one (by simp only;omega) (λs' w11 H11 _ _=>?_)
   refine fin s' w11 _ j H11 ?_
   rw [List.getElem?_set_self (by simp;have:=(qgS.1 hj).1;omega),he,List.flatMap_append]
  .rw [if_neg h1,List.append_nil] at he
   rw [<-he] at hj
   exact fin l w6 L j H6 hj
 refine sel_dec (λh0=>H5.nwrow (n:=2) (sz:=9) (cs:=start1.flatMap Nd.c) rfl (by decide) λw6 H6=>?_) (λh0=>?_)
 .have hsrc:RdN 9 w6 ⟨some (at0 w5.heap.size),2,2⟩ (start1.flatMap Nd.c):=(H6.get 1:OwnRow _ _ _ _ _).rdn
  refine H6.ap 0 el_node (s:=⟨some (at0 w4.heap.size),4,4⟩) (src:=⟨some (at0 w5.heap.size),2,2⟩) rfl hsrc.2.2 hsrc.1 nd_one (by show (4+2) *96<=_;omega) (λs' w7 H7 _ _=>?_)
  refine S0 s' w7 _ 0 (start0++start1) H7 (by decide) ?_ ?_
  .unfold startD;rw [if_pos h0]
  .rw [List.flatMap_append];rfl
 .refine S0 ⟨some (at0 w4.heap.size),4,4⟩ w5 _ 0 start0 H5 (by decide) ?_ rfl
  unfold startD;rw [if_neg h0,List.append_nil]
theorem c_within07 (kind:Int) (s:Srt) (w:World):Calls Tryz.prog n_enthymemeref07_within #[.i kind,srtV s] w λr w'=>(∃b:Bool,r=.returned (.bool b))/\Fr0 w w':=
 enthymemeref07_within.okT _ _ _ _ w _ ((lh0 [] (by simp)).newg λb w1 H1=>sel_eq (λh=>⟨⟨_,rfl⟩,H1.fr⟩) (λh=>sel_dec (λh=>sel_eq (λh=>⟨⟨_,rfl⟩,H1.fr⟩) (λh=>⟨⟨_,rfl⟩,H1.fr⟩)) (λh=>⟨⟨_,rfl⟩,H1.fr⟩)))
theorem c_size {w:World} {s:Sl} {l:List Nd} (h:GP w s l) (hk:∀(i:Nat) (d:Nd),l[i]? =some d->d.x.kids.length<=1000000/\∀k∈d.x.kids,0<=k/\k<(i:Int)):∀(n i:Nat),i<n->i<l.length->∀w1,Fr0 w w1->Calls Tryz.prog n_enthymemeref07_size #[s.v,.i (i:Int)] w1 λr w'=>(∃z:Int,r=.returned (.i z))/\Fr0 w w'
 |0,i,hi,_,_,_=>absurd hi (by omega)
 |n+1,i,hi,hl,w1,f1=>by
  have G:∀{w2:World},Fr0 w w2->GP w2 s l:=λf=>⟨h.1.fr0 f,λd hd=>(kidE d).st w _ (λb hb hlt=>f.keep b hlt id) (h.2 d hd)⟩
  have hg:l[i]? =some (l[i]'hl):=qgE hl
  generalize l[i]'hl=d at hg
  obtain ⟨k1,k2⟩:=hk i d hg
  have loop:∀(m j:Nat) (z:Int) (w2:World),j+m=d.x.kids.length->Fr0 w w2->enthymemeref07_size.L0 s (i:Int) z (j:Int) w2 λr w'=>(∃z:Int,r=.returned (.i z))/\Fr0 w w':=by
   intro m
   induction m with
   |zero=>
    intro j z w2 hj f2
    have hn:d.ks.n=d.x.kids.length:=Nums.len ((G f2).2 d (qmG hg))
    exact enthymemeref07_size.L0_step _ _ _ _ _ _ (gr_at (G f2) rfl hg λp hp c=>⟨_,c.c1,sel_false (decide_eq_false (by omega)) ⟨⟨_,rfl⟩,f2⟩⟩)
   |succ m ih=>
    intro j z w2 hj f2
    have hd2:Nums w2 d.ks d.x.kids:=(G f2).2 d (qmG hg)
    have hn:=Nums.len hd2
    have hgk:d.x.kids[j]? =some (d.x.kids[j]'(by omega)):=qgE (by omega)
    generalize d.x.kids[j]'(by omega)=k at hgk
    have hkk:=k2 k (qmG hgk)
    refine enthymemeref07_size.L0_step _ _ _ _ _ _ (gr_at (G f2) rfl hg λp hp c=>⟨_,c.c1,sel_true (decide_eq_true (by omega)) (gr_at (G f2) rfl hg λp' hp' c'=>⟨_,c'.c1,by omega,by omega,hd2.cell hgk (by omega) λq hq hc=>⟨k,hc,?_⟩⟩)⟩)
    have ek:k=((k.toNat:Nat):Int):=by omega
    rw [ek]
    refine (c_size h hk n k.toNat (by omega) (by omega) w2 f2).mono ?_
    rintro _ w3 ⟨⟨z3,rfl⟩,f3⟩
    refine ⟨_,rfl,?_⟩
    show enthymemeref07_size.L0 s (i:Int) _ (IntKind.wrap .i64 ((j:Int)+1)) w3 _
    rw [i64_next _ (by omega)]
    exact ih (j+1) _ w3 (by omega) f3
  exact enthymemeref07_size.ok _ _ w1 _ (loop d.x.kids.length 0 1 w1 (by omega) f1)
theorem lhG {w:World} {s:Sl} {l:List Nd} (h:GP w s l):LH F0 w w [] [.gr s l]:=lh0 _ (by
 intro e he
 simp only [qmC,qnM,or_false] at he
 subst he
 exact gr_P.2 h)
abbrev numR (s:Sl) (l:List Int):En:=.row ty_int 1 s (l.map intV)
theorem num_own {w:World} {s:Sl} {l:List Int} (h:OwnRow w ty_int 1 s (l.map intV)):Nums w s l:=h.rd1
theorem num_len {w:World} {s:Sl} {l:List Int} (h:OwnRow w ty_int 1 s (l.map intV)):s.n=l.length:=by
 have:=h.len
 simp at this
 omega
theorem c_Like {w:World} {s:Sl} {l:List Nd} (h:GP w s l) (t:Srt) (n:Int) (hn:I64 n) (hl:l.length<=MaxL):
  Calls Tryz.prog n_enthymemeref07_Like #[s.v,srtV t,.i n] w λr w'=>(∃z:Int,r=.returned (.i z)/\-1<=z/\z<(l.length:Int))/\Fr0 w w':=by
 have hs:=gr_n h
 unfold MaxL at hl
 have loop:∀(m i:Nat) (l7:Sl) (ks:List Int) (b4:Nat) (w1:World),i+m=l.length->ks.length<=i->(∀k∈ks,0<=k/\k<(l.length:Int))->LH F0 w w1 [.g b4,numR l7 ks] [.gr s l]->
   enthymemeref07_Like.L0T s n b4 t.k t.n t.x l7 (i:Int) w1 λr w'=>(∃z:Int,r=.returned (.i z)/\-1<=z/\z<(l.length:Int))/\Fr0 w w':=by
  intro m
  induction m with
  |zero=>
   intro i l7 ks b4 w1 hi hki hks H
   have hlen:=num_len (H.get 1)
   refine enthymemeref07_Like.L0T_step _ _ _ _ _ _ _ _ _ _ (sel_false (decide_eq_false (by omega)) (sel_eq (λh0=>⟨⟨_,rfl,by omega,by omega⟩,H.fr⟩) (λh0=>H.callg (n_around n _ w1 (by omega) hn) ?_)))
   have hr:=aroundI_range n ((l7.n:Nat):Int) (by omega)
   generalize aroundI n ((l7.n:Nat):Int)=z at hr
   rintro _ w2 rfl H2
   obtain ⟨j,rfl⟩:∃j:Nat,z=(j:Int):=⟨z.toNat,by omega⟩
   have hg:ks[j]? =some (ks[j]'(by omega)):=qgE (by omega)
   have hk:=hks _ (qmG hg)
   exact ⟨_,rfl,by omega,by omega,(num_own (H2.get 1)).cell hg (by omega) λp hp hc=>⟨_,hc,⟨⟨_,rfl,by omega,by omega⟩,H2.fr⟩⟩⟩
  |succ m ih=>
   intro i l7 ks b4 w1 hi hki hks H
   have hg:l[i]? =some (l[i]'(by omega)):=qgE (by omega)
   generalize l[i]'(by omega)=d at hg
   have hlen:=num_len (H.get 1)
   refine enthymemeref07_Like.L0T_step _ _ _ _ _ _ _ _ _ _ (sel_true (decide_eq_true (by omega)) (gr_at (gr_P.1 (H.getD 0)) rfl hg λp hp _=>H.locg λw2 H2=>?_))
   have c:=gr_again (gr_P.1 (H2.getD 0)) hg hp (rfl:((i:Int))=(i:Int))
   refine ⟨_,_,_,c.s0,c.s1,c.s2,sel_srt (a:=d.x.st) (b:=t) (λhe=>?_) (λhe=>?_)⟩
   .refine H2.ap1T 1 el_ints rfl (λs' w3 H3=>?_) (by omega)
    show enthymemeref07_Like.L0T s n b4 t.k t.n t.x s' (IntKind.wrap .i64 ((i:Int)+1)) w3 _
    rw [i64_next _ (by omega)]
    refine ih (i+1) s' (ks++[(i:Int)]) b4 w3 (by omega) (by simp;omega) (λk hk=>?_) (by rw [numR,List.map_append];exact H3)
    rcases qmA.1 hk with hk|hk
    .exact hks k hk
    .simp only [qmC,qnM,or_false] at hk
     omega
   .show enthymemeref07_Like.L0T s n b4 t.k t.n t.x l7 (IntKind.wrap .i64 ((i:Int)+1)) w2 _
    rw [i64_next _ (by omega)]
    exact ih (i+1) l7 ks b4 w2 (by omega) (by omega) hks H2
 exact enthymemeref07_Like.okT _ _ _ _ _ w _ ((lhG h).newg λb4 w1 H1=>loop l.length 0 ⟨none,0,0⟩ [] b4 w1 (by omega) (by simp) (by simp) (H1.nilrow ty_int 1))
theorem c_wanted {w:World} {s:Sl} {l:List Nd} (h:GP w s l) (op:Int) (x:Nat) (kid n:Int) (hx:x<l.length) (hn:I64 n):
  Calls Tryz.prog n_enthymemeref07_wanted #[s.v,.i op,.i (x:Int),.i kid,.i n] w λr w'=>(∃t:Srt,r=.returned (srtV t))/\Fr0 w w':=by
 have hs:=gr_n h
 have hg:l[x]? =some (l[x]'hx):=qgE hx
 generalize l[x]'hx=d at hg
 refine enthymemeref07_wanted.okT _ _ _ _ _ w _ ((lhG h).newg λb10 w1 H1=>gr_at (gr_P.1 (H1.getD 0)) rfl hg λp hp c=>⟨_,_,_,c.s0,c.s1,c.s2,H1.newg λb11 w2 H2=>?_⟩)
 have ret:∀(a b c:Int) (w3:World) (bs:List Nat),(∀b∈bs,En.g b∈[En.g b10,.g b11])->LH F0 w w3 [.g b10,.g b11] [.gr s l]->loc bs w3 λw9=>(∃t:Srt,Ending.returned (.agg #[.i a,.i b,.i c])=.returned (srtV t))/\Fr0 w w9:=λa b c w3 bs hb H3=>H3.locg (λw9 H9=>⟨⟨⟨a,b,c⟩,rfl⟩,H9.fr⟩) hb
 have S0:∀w3,LH F0 w w3 [.g b10,.g b11] [.gr s l]->enthymemeref07_wanted.S0T n b10 0 0 0 w3 λr w'=>(∃t:Srt,r=.returned (srtV t))/\Fr0 w w':=by
  intro w3 H3
  refine H3.callg (n_around n 3 w3 (by omega) hn) ?_
  rintro _ w4 rfl H4
  refine ⟨_,rfl,H4.callg (c_Strings _ w4) ?_⟩
  rintro _ w5 rfl H5
  exact ⟨_,_,_,rfl,ret _ _ _ w5 _ (by simp) H5⟩
 refine sel_eq (λh1=>H2.locg λw3 H3=>H3.callg (n_around n _ w3 (by omega) hn) ?_) (λh1=>sel_eq (λh2=>H2.locg λw3 H3=>H3.callg (n_around n 3 w3 (by omega) hn) ?_) (λh2=>sel_eq (λh3=>H2.locg λw3 H3=>H3.callg (c_BV _ w3) ?_) (λh3=>sel_eq (λh4=>sel_eq (λh5=>H2.locg λw3 H3=>H3.callg (c_BV _ w3) ?_) (λh5=>H2.locg λw3 H3=>H3.callg (r_Element d.x.st w3) ?_)) (λh4=>sel_eq (λh6=>H2.locg λw3 H3=>H3.callg (c_BV _ w3) ?_) (λh6=>sel_eq (λh7=>sel_true (beq_iff_eq.2 h7) (H2.locg λw3 H3=>S0 w3 H3)) (λh7=>sel_eq (λh8=>sel_true (beq_iff_eq.2 h8) (H2.locg λw3 H3=>S0 w3 H3)) (λh8=>sel_eq (λh9=>H2.locg λw3 H3=>S0 w3 H3) (λh9=>H2.locg λw3 H3=>ret _ _ _ w3 _ (by simp) H3))))))))
 .have hr:=aroundI_range n ((s.n:Nat):Int) (by omega)
  generalize aroundI n ((s.n:Nat):Int)=z at hr
  rintro _ w4 rfl H4
  obtain ⟨j,rfl⟩:∃j:Nat,z=(j:Int):=⟨z.toNat,by omega⟩
  have hg2:l[j]? =some (l[j]'(by omega)):=qgE (by omega)
  exact ⟨_,rfl,gr_at (gr_P.1 (H4.getD 0)) rfl hg2 λq hq c'=>⟨_,_,_,c'.s0,c'.s1,c'.s2,ret _ _ _ w4 _ (by simp) H4⟩⟩
 .rintro _ w4 rfl H4
  refine ⟨_,rfl,H4.callg (c_BV _ w4) ?_⟩
  rintro _ w5 rfl H5
  exact ⟨_,_,_,rfl,ret _ _ _ w5 _ (by simp) H5⟩
 .rintro _ w4 rfl H4
  exact ⟨_,_,_,rfl,ret _ _ _ w4 _ (by simp) H4⟩
 .rintro _ w4 rfl H4
  exact ⟨_,_,_,rfl,ret _ _ _ w4 _ (by simp) H4⟩
 .rintro _ w4 rfl H4
  exact ⟨_,_,_,rfl,ret _ _ _ w4 _ (by simp) H4⟩
 .rintro _ w4 rfl H4
  exact ⟨_,_,_,rfl,ret _ _ _ w4 _ (by simp) H4⟩
theorem wrI (x:Int):I64 (IntKind.wrap .i64 x):=by rw [IntKind.wrap_i64];omega
structure MdV (d:Nx):Prop extends MdN d where
 nv:d.op≠0
def NodeR (w:World) (r:Ending) (w':World):Prop:=∃d:Nd,r=.returned d.v/\MdV d.x/\d.P w'/\∀b∈blkL d.ks,w.heap.size<=b
theorem md_kids {op n m u:Int} {tx:ByteArray} {st:Srt} {ks:List Int} (h:MdV ⟨op,[],n,m,u,tx,st⟩) (hk:ks.length<=3):MdV ⟨op,ks,n,m,u,tx,st⟩:=⟨⟨h.op1,h.op2,hk,h.n,h.m,h.u,h.tx,h.re⟩,h.nv⟩
theorem kidsN_range (op:Int):-1<=kidsN op/\kidsN op<=3:=by unfold kidsN;repeat' split<;>omega
section
variable {w:World} {s:Sl} {l:List Nd} {n1 m2 k3:Int} {b8 b10:Nat}
theorem node_loop (hm:I64 m2) (hk:I64 k3) (hl:l.length<=MaxL) {op n m u:Int} {tx:ByteArray} {st:Srt} (hd:MdV ⟨op,[],n,m,u,tx,st⟩) (many:Nat) (hmany:many<=3) (x:Int) (hx1:-1<=x) (hx2:x<(l.length:Int)):
  ∀(d i:Nat) (sl:Sl) (ks:List Int) (w1:World),i+d=many->ks.length=i->(∀k∈ks,0<=k/\k<(l.length:Int))->LH F0 w w1 [.g b8,.g b10,numR sl ks] [.gr s l]->
   enthymemeref07_node.L5T s m2 k3 b8 0 ⟨none,0,0⟩ 0 0 0 (ByteArray.mk #[]) 0 0 0 b10 op sl n m u tx st.k st.n st.x x (many:Int) (i:Int) w1 λr w'=>NodeR w r w'/\Fr0 w w':=by
 intro d
 unfold MaxL at hl
 induction d with
 |zero=>
  intro i sl ks w1 hi hlen hks H
  refine enthymemeref07_node.L5T_step _ _ _ _ _ _ _ _ _ _ _ _ _ _ _ _ _ _ _ _ _ _ _ _ _ _ _ _ (sel_false (decide_eq_false (by omega)) (H.locg λw2 H2=>⟨⟨⟨⟨op,ks,n,m,u,tx,st⟩,sl⟩,rfl,md_kids hd (by omega),num_own (H2.get 2),λb hb=>(H2.new _ (qmG (i:=2) rfl) b hb).resolve_right id⟩,H2.fr⟩))
 |succ d ih=>
  intro i sl ks w1 hi hlen hks H
  have S7:∀(kid:Int) (w2:World) (L:List En),-1<=kid->kid<(l.length:Int)->LH F0 w w2 [.g b8,.g b10,numR sl ks] [.gr s l]->enthymemeref07_node.S7T s m2 k3 b8 0 ⟨none,0,0⟩ 0 0 0 (ByteArray.mk #[]) 0 0 0 b10 op sl n m u tx st.k st.n st.x x (many:Int) (i:Int) kid w2 λr w'=>NodeR w r w'/\Fr0 w w':=by
   intro kid w2 L h1 h2 H2
   refine sel_dec (λh0=>H2.locg λw3 H3=>⟨⟨⟨⟨-1,[],0,0,0,ba [],noS⟩,⟨none,0,0⟩⟩,rfl,⟨⟨by decide,by decide,by decide,by decide,by decide,by decide,λ_=>by decide,λh=>by cases h⟩,by decide⟩,Rd.nil w3,λb hb=>by cases hb⟩,H3.fr⟩) (λh0=>?_)
   refine H2.ap1T 2 el_ints rfl (λs' w3 H3=>?_) (by have:=num_len (H2.get 2);omega)
   have H3':LH F0 w w3 [.g b8,.g b10,numR s' (ks++[kid])] [.gr s l]:=by rw [numR,List.map_append];exact H3
   refine H3'.locg λw4 H4=>?_
   rw [i64_next _ (by omega)]
   refine ih (i+1) s' (ks++[kid]) w4 (by omega) (by simp [hlen]) (λk hk=>?_) H4
   rcases qmA.1 hk with hk|hk
   .exact hks k hk
   .simp only [qmC,qnM,or_false] at hk
    omega
  refine enthymemeref07_node.L5T_step _ _ _ _ _ _ _ _ _ _ _ _ _ _ _ _ _ _ _ _ _ _ _ _ _ _ _ _ (sel_true (decide_eq_true (by omega)) (sel_dec (λhi0=>sel_dec (λhx0=>?_) (λhx0=>S7 x w1 [] hx1 hx2 H)) (λhi0=>S7 x w1 [] hx1 hx2 H)))
  obtain ⟨xn,rfl⟩:∃xn:Nat,x=(xn:Int):=⟨x.toNat,by omega⟩
  refine H.callg (c_wanted (gr_P.1 (H.getD 0)) op xn (i:Int) m2 (by omega) hm) ?_
  rintro _ w2 ⟨t,rfl⟩ H2
  refine ⟨_,_,_,rfl,H2.newg λb16 w3 H3=>?_⟩
  have S6:∀(t:Srt) (w4:World),LH F0 w w4 [.g b8,.g b10,numR sl ks,.g b16] [.gr s l]->enthymemeref07_node.S6T s m2 k3 b8 0 ⟨none,0,0⟩ 0 0 0 (ByteArray.mk #[]) 0 0 0 b10 op sl n m u tx st.k st.n st.x (xn:Int) (many:Int) (i:Int) b16 t.k t.n t.x w4 λr w'=>NodeR w r w'/\Fr0 w w':=by
   intro t w4 H4
   have e5:IntKind.wrap .i64 (5 *(i:Int))=5 *(i:Int):=IntWalk.i64_in _ (by omega)
   have e6:IntKind.wrap .i64 (1+5 *(i:Int))=1+5 *(i:Int):=IntWalk.i64_in _ (by omega)
   refine ⟨by rw [e5,e6];omega,H4.locg λw5 H5=>H5.callg (c_Like (gr_P.1 (H5.getD 0)) t _ (wrI _) (by unfold MaxL;exact hl)) ?_⟩
   rintro _ w6 ⟨z,rfl,hz1,hz2⟩ H6
   exact ⟨_,rfl,S7 z w6 [] hz1 hz2 (H6.take 3)⟩
  refine sel_eq (λho=>sel_eq (λh2=>?_) (λh2=>H3.locg λw4 H4=>S6 t w4 H4)) (λho=>H3.locg λw4 H4=>S6 t w4 H4)
  have hn:=num_len (H3.get 2)
  have hg:ks[1]? =some (ks[1]'(by omega)):=qgE (by omega)
  have hk1:=hks _ (qmG hg)
  generalize ks[1]'(by omega)=kk at hg hk1
  refine ⟨by omega,by omega,(num_own (H3.get 2)).cell hg (j:=Int.toNat 1 *1) rfl λp hp _=>H3.locg λw4 H4=>?_⟩
  have hge:l[kk.toNat]? =some (l[kk.toNat]'(by omega)):=qgE (by omega)
  generalize l[kk.toNat]'(by omega)=e at hge
  have hc:w4.cell? (p.add (Int.toNat 1 *1))=some (.int .i64 kk):=by
   have:=(num_own (H4.get 2)).cell hg (j:=Int.toNat 1 *1) rfl (K:=λq=>∃q',sl.a=some q'/\w4.cell? (q'.add (Int.toNat 1 *1))=some (.int .i64 kk)) (λq hq hc=>⟨q,hq,hc⟩)
   rw [hp] at this
   obtain ⟨q,hq,hc⟩:=this
   cases hq
   exact hc
  exact ⟨kk,hc,gr_at (gr_P.1 (H4.getD 0)) (i:=kk.toNat) (by omega) hge λq hq c=>⟨_,_,_,c.s0,c.s1,c.s2,H4.locg λw5 H5=>S6 e.x.st w5 H5⟩⟩
theorem node_rest (hn:I64 n1) (hm:I64 m2) (hk:I64 k3) (hl:l.length<=MaxL) {op n m u:Int} {tx:ByteArray} {st:Srt} (hd:MdV ⟨op,[],n,m,u,tx,st⟩) (x:Int) (hx1:0<=x) (hx2:x<(l.length:Int)) (w1:World) (H:LH F0 w w1 [.g b8,.g b10] [.gr s l]):
  enthymemeref07_node.S2T s n1 m2 k3 b8 0 ⟨none,0,0⟩ 0 0 0 (ByteArray.mk #[]) 0 0 0 b10 op ⟨none,0,0⟩ n m u tx st.k st.n st.x x w1 λr w'=>NodeR w r w'/\Fr0 w w':=by
 refine H.callg (c_Kids op w1) ?_
 rintro _ w2 rfl H2
 have hr:=kidsN_range op
 have S4:∀(x:Int) (w3:World),-1<=x->x<(l.length:Int)->LH F0 w w3 [.g b8,.g b10] [.gr s l]->enthymemeref07_node.S4T s m2 k3 b8 0 ⟨none,0,0⟩ 0 0 0 (ByteArray.mk #[]) 0 0 0 b10 op ⟨none,0,0⟩ n m u tx st.k st.n st.x x (kidsN op) w3 λr w'=>NodeR w r w'/\Fr0 w w':=by
  intro x w3 h1 h2 H3
  have H4:=H3.nilrow ty_int 1
  by_cases h0:kidsN op<0
  .refine enthymemeref07_node.L5T_step _ _ _ _ _ _ _ _ _ _ _ _ _ _ _ _ _ _ _ _ _ _ _ _ _ _ _ _ (sel_false (decide_eq_false (by omega)) (H4.locg λw2 H2=>⟨⟨⟨⟨op,[],n,m,u,tx,st⟩,⟨none,0,0⟩⟩,rfl,hd,Rd.nil w2,λb hb=>by cases hb⟩,H2.fr⟩))
  .have e:kidsN op=(((kidsN op).toNat:Nat):Int):=by omega
   show enthymemeref07_node.L5T _ _ _ _ _ _ _ _ _ _ _ _ _ _ _ _ _ _ _ _ _ _ _ _ (kidsN op) 0 _ _
   rw [e]
   exact node_loop hm hk hl hd (kidsN op).toNat (by omega) x h1 h2 (kidsN op).toNat 0 ⟨none,0,0⟩ [] w3 (by omega) rfl (by simp) H4
 have S3:∀(x:Int) (w3:World),-1<=x->x<(l.length:Int)->LH F0 w w3 [.g b8,.g b10] [.gr s l]->enthymemeref07_node.S3T s n1 m2 k3 b8 0 ⟨none,0,0⟩ 0 0 0 (ByteArray.mk #[]) 0 0 0 b10 op ⟨none,0,0⟩ n m u tx st.k st.n st.x x (kidsN op) w3 λr w'=>NodeR w r w'/\Fr0 w w':=by
  intro x w3 h1 h2 H3
  refine sel_eq (λho=>H3.callg (c_BV 8 w3) ?_) (λho=>S4 x w3 h1 h2 H3)
  rintro _ w4 rfl H4
  refine ⟨_,_,_,rfl,H4.callg (c_Like (gr_P.1 (H4.getD 0)) (bvS 8) _ (wrI _) hl) ?_⟩
  rintro _ w5 ⟨z,rfl,hz1,hz2⟩ H5
  exact ⟨_,rfl,S4 z w5 hz1 hz2 H5⟩
 refine ⟨_,rfl,sel_eq (λho=>H2.callg (c_BV 1 w2) ?_) (λho=>S3 x w2 (by omega) hx2 H2)⟩
 rintro _ w4 rfl H4
 refine ⟨_,_,_,rfl,H4.callg (c_Like (gr_P.1 (H4.getD 0)) (bvS 1) _ (wrI _) hl) ?_⟩
 rintro _ w5 ⟨z,rfl,hz1,hz2⟩ H5
 exact ⟨_,rfl,S3 z w5 hz1 hz2 H5⟩
end
def opsL:List Int:=[4,5,6,7,8,9,10,11,12,13,14,15,16,17,18,19,20,21,22,23,24,25,26,27,28,29,30,31,32,33,34,1,2,3,18,18,16,6,24,25]
theorem ops_range {i:Nat} {op:Int} (h:opsL[i]? =some op):1<=op/\op<=34:=by
 have h1:(opsL.all λx=>decide (1<=x)&&decide (x<=34))=true:=by decide
 have:=qaT.1 h1 op (qmG h)
 simpa using this
def txtsL:List ByteArray:=[ba [],ba [97],ba [97,98],ba [98],ba [0],ba [97,97]]
theorem txts_size {i:Nat} {t:ByteArray} (h:txtsL[i]? =some t):t.size<=16:=by
 have h1:(txtsL.all λx=>decide (x.size<=16))=true:=by decide
 have:=qaT.1 h1 t (qmG h)
 simpa using this
theorem c_node {w:World} {s:Sl} {l:List Nd} (h:GP w s l) (hl0:1<=l.length) (hl:l.length<=MaxL) (hv:∀d∈l,validS d.x.st=true) (n1 m2 k3:Int) (hn:I64 n1) (hm:I64 m2) (hk:I64 k3):
  Calls Tryz.prog n_enthymemeref07_node #[s.v,.i n1,.i m2,.i k3] w λr w'=>NodeR w r w'/\Fr0 w w':=by
 have hs:=gr_n h
 refine enthymemeref07_node.okT _ _ _ _ w _ ((lhG h).newg λb8 w1 H1=>H1.nw λw2 _ H2=>H2.callg (n_around n1 40 w2 (by omega) hn) ?_)
 have hr:=aroundI_range n1 40 (by omega)
 generalize aroundI n1 40=z at hr
 rintro _ w3 rfl H3
 obtain ⟨j,rfl⟩:∃j:Nat,z=(j:Int):=⟨z.toNat,by omega⟩
 have hgo:opsL[j]? =some (opsL[j]'(by show j<40;omega)):=qgE _
 have hop:=ops_range hgo
 generalize opsL[j]'(by show j<40;omega)=op at hgo hop
 have hrow:Nums w3 ⟨some (at0 w1.heap.size),40,40⟩ opsL:=blk_nums (T:=ty_int) (H3.ob 1) rfl
 refine ⟨_,rfl,by omega,by show (j:Int)<40;omega,hrow.cell hgo (by omega) λp hp hc=>⟨op,hc,H3.newg λb10 w4 H4=>H4.locg λw5 H5=>H5.callg (n_around _ _ w5 (by omega) (wrI _)) ?_⟩⟩
 have hrx:=aroundI_range (IntKind.wrap .i64 (Int.tdiv n1 64)) ((s.n:Nat):Int) (by omega)
 generalize aroundI (IntKind.wrap .i64 (Int.tdiv n1 64)) ((s.n:Nat):Int)=x at hrx
 rintro _ w6 rfl H6
 have R:∀{n m u:Int} {tx:ByteArray} {st:Srt} {w7:World},MdV ⟨op,[],n,m,u,tx,st⟩->LH F0 w w7 [.g b8,.g b10] [.gr s l]->enthymemeref07_node.S2T s n1 m2 k3 b8 0 ⟨none,0,0⟩ 0 0 0 (ByteArray.mk #[]) 0 0 0 b10 op ⟨none,0,0⟩ n m u tx st.k st.n st.x x w7 λr w'=>NodeR w r w'/\Fr0 w w':=λhd H7=>node_rest hn hm hk hl hd x (by omega) (by omega) _ H7
 have H6:LH F0 w w6 [.g b8,.g b10] [.gr s l]:=H6.sieve [true,false,true]
 have em:ByteArray.mk #[]=ba []:=rfl
 have base:∀{n m u:Int} {tx:ByteArray} {st:Srt},0<=n/\n<=100->0<=m/\m<=100->0<=u/\u<=1000->(op≠33->tx.size<=16)->(op=33->∃k,tx=ba (textQ k))->MdV ⟨op,[],n,m,u,tx,st⟩:=λh1 h2 h3 h4 h5=>⟨⟨by show -1<=op;omega,hop.2,by simp,h1,h2,h3,h4,h5⟩,by show op≠0;omega⟩
 have zz:(0:Int)<=0/\(0:Int)<=100:=by decide
 have z2:(0:Int)<=0/\(0:Int)<=1000:=by decide
 refine ⟨_,rfl,sel_eq (λh1=>?_) (λh1=>sel_eq (λh2=>?_) (λh2=>sel_eq (λh3=>?_) (λh3=>sel_eq (λh4=>?_) (λh4=>?_))))⟩
 .refine H6.callg (n_around m2 3 w6 (by omega) hm) ?_
  have hr3:=aroundI_range m2 3 (by omega)
  generalize aroundI m2 3=v at hr3
  rintro _ w7 rfl H7
  refine ⟨_,rfl,?_⟩
  have S1:∀(wv:Int),1<=wv->wv<=7->enthymemeref07_node.S1T s n1 m2 k3 b8 0 ⟨none,0,0⟩ 0 0 0 (ByteArray.mk #[]) 0 0 0 b10 op ⟨none,0,0⟩ 0 0 0 (ByteArray.mk #[]) 0 0 0 x wv w7 λr w'=>NodeR w r w'/\Fr0 w w':=by
   intro wv h5 h6
   refine H7.callg (c_BV wv w7) ?_
   rintro _ w8 rfl H8
   have hc:∃c:Nat,(if 3<wv then (3:Int) else wv)=(c:Int)/\1<=c/\c<=3:=⟨(if 3<wv then (3:Int) else wv).toNat,by split<;>omega,by split<;>omega,by split<;>omega⟩
   obtain ⟨c,hc,c1,c2⟩:=hc
   rw [hc]
   have ec:IntKind.wrap .u64 (c:Int)=(c:Int):=IntWalk.u64_in _ (by omega)
   rw [ec]
   have ep:∃q:Int,IntKind.wrap .i64 (1 *2^min (Int.toNat (c:Int)) (IntKind.bits .i64))=q/\1<=q/\q<=8:=by
    have:c=1\/c=2\/c=3:=by omega
    rcases this with rfl|rfl|rfl
    .exact ⟨2,by decide,by decide,by decide⟩
    .exact ⟨4,by decide,by decide,by decide⟩
    .exact ⟨8,by decide,by decide,by decide⟩
   obtain ⟨q,eq,q1,q2⟩:=ep
   rw [eq]
   refine ⟨_,_,_,rfl,by omega,H8.locg λw9 H9=>H9.callg (n_around k3 q w9 (by omega) hk) ?_⟩
   have hrq:=aroundI_range k3 q (by omega)
   generalize aroundI k3 q=a at hrq
   rintro _ w10 rfl H10
   have ea:IntKind.wrap .u64 a=a:=IntWalk.u64_in _ (by omega)
   refine ⟨_,rfl,H10.locg λw11 H11=>?_⟩
   rw [ea]
   exact R (st:=bvS wv) (base zz zz (by omega) (λ_=>by decide) (λh=>by omega)) H11
  have e1:IntKind.wrap .i64 (1+v)=1+v:=IntWalk.i64_in _ (by omega)
  show enthymemeref07_node.S0T s n1 m2 k3 b8 0 ⟨none,0,0⟩ 0 0 0 _ 0 0 0 b10 op ⟨none,0,0⟩ 0 0 0 _ 0 0 0 x (IntKind.wrap .i64 (1+v)) w7 _
  rw [e1]
  exact sel_eq (λ_=>S1 7 (by decide) (by decide)) (λ_=>S1 _ (by omega) (by omega))
 .refine H6.nw λw7 _ H7=>H7.callg (n_around m2 6 w7 (by omega) hm) ?_
  have hr6:=aroundI_range m2 6 (by omega)
  generalize aroundI m2 6=v at hr6
  rintro _ w8 rfl H8
  obtain ⟨i,rfl⟩:∃i:Nat,v=(i:Int):=⟨v.toNat,by omega⟩
  have hgt:txtsL[i]? =some (txtsL[i]'(by show i<6;omega)):=qgE _
  have hts:=txts_size hgt
  generalize txtsL[i]'(by show i<6;omega)=t at hgt hts
  have hrow:Rd w8 ⟨some (at0 w6.heap.size),6,6⟩ (txtsL.map Value.string):=blk_rd (T:=ty_string) (H8.ob 2) rfl
  refine ⟨_,rfl,by omega,by show (i:Int)<6;omega,Rd.get hrow (i:=i) (v:=.string t) (by simp [hgt]) (by omega) λp hp hc=>⟨t,hc,H8.locg λw9 H9=>?_⟩⟩
  exact R (st:=noS) (base zz zz z2 (λ_=>hts) (λh=>by omega)) (H9.take 2)
 .refine H6.nw λw7 _ H7=>H7.callg (n_around m2 2 w7 (by omega) hm) ?_
  have hr2:=aroundI_range m2 2 (by omega)
  generalize aroundI m2 2=v at hr2
  rintro _ w8 rfl H8
  obtain ⟨i,rfl⟩:∃i:Nat,v=(i:Int):=⟨v.toNat,by omega⟩
  have hgt:([⟨2,2,1⟩,⟨3,1,1⟩]:List Srt)[i]? =some (([⟨2,2,1⟩,⟨3,1,1⟩]:List Srt)[i]'(by show i<2;omega)):=qgE _
  generalize ([⟨2,2,1⟩,⟨3,1,1⟩]:List Srt)[i]'(by show i<2;omega)=t at hgt
  have hrow:RdN 3 w8 ⟨some (at0 w6.heap.size),2,2⟩ (([⟨2,2,1⟩,⟨3,1,1⟩]:List Srt).flatMap srtC):=blk_rdn (T:=ty_api_Sort) (H8.ob 2) rfl
  obtain ⟨g1,g2,g3⟩:=srt_at hrow rfl hgt (K:=λp=>ld3_2 w8 (p.add (Int.toNat (i:Int) *3)) λa b c=>loc [b8,b10] w8 λw9=>enthymemeref07_node.S2T s n1 m2 k3 b8 0 ⟨none,0,0⟩ 0 0 0 (ByteArray.mk #[]) 0 0 0 b10 op ⟨none,0,0⟩ 0 0 0 (ByteArray.mk #[]) a b c x w9 λr w'=>NodeR w r w'/\Fr0 w w') (λp hp c=>⟨_,_,_,c.c0,c.c1,c.c2,H8.locg λw9 H9=>R (st:=t) (base zz zz z2 (λ_=>by decide) (λh=>by omega)) (H9.take 2)⟩)
  exact ⟨_,rfl,g1,g2,g3⟩
 .obtain ⟨xn,rfl⟩:∃xn:Nat,x=(xn:Int):=⟨x.toNat,by omega⟩
  have hg:l[xn]? =some (l[xn]'(by omega)):=qgE (by omega)
  generalize l[xn]'(by omega)=e at hg
  have hve:=valid_n (hv e (qmG hg))
  refine gr_at (gr_P.1 (H6.getD 0)) rfl hg λp hp c=>⟨_,c.s1,H6.callg (n_around m2 _ w6 (by split<;>omega) hm) ?_⟩
  have hr7:=aroundI_range m2 (if 1<e.x.st.n then e.x.st.n else 1) (by split<;>omega)
  generalize aroundI m2 (if 1<e.x.st.n then e.x.st.n else 1)=a at hr7
  have ha:a<64:=by
   have:=hr7.2
   split at this<;>omega
  rintro _ w7 rfl H7
  have e1:IntKind.wrap .i64 (a+1)=a+1:=IntWalk.i64_in _ (by omega)
  refine ⟨_,rfl,H7.locg λw8 H8=>H8.callg (n_around k3 _ w8 (by rw [e1];omega) hk) ?_⟩
  rw [e1]
  have hr8:=aroundI_range k3 (a+1) (by omega)
  generalize aroundI k3 (a+1)=b at hr8
  rintro _ w9 rfl H9
  exact ⟨_,rfl,H9.locg λw10 H10=>R (st:=noS) (base (by omega) (by omega) z2 (λ_=>by decide) (λh=>by omega)) H10⟩
 have S8:op≠33->enthymemeref07_node.S8T s n1 m2 k3 b8 0 ⟨none,0,0⟩ 0 0 0 (ByteArray.mk #[]) 0 0 0 b10 op ⟨none,0,0⟩ 0 0 0 (ByteArray.mk #[]) 0 0 0 x w6 λr w'=>NodeR w r w'/\Fr0 w w':=by
  intro h33
  refine H6.callg (n_around m2 2 w6 (by omega) hm) ?_
  have hr2:=aroundI_range m2 2 (by omega)
  generalize aroundI m2 2=v at hr2
  rintro _ w7 rfl H7
  have e1:IntKind.wrap .i64 (1+v)=1+v:=IntWalk.i64_in _ (by omega)
  refine ⟨_,rfl,H7.locg λw8 H8=>?_⟩
  rw [e1]
  exact R (st:=noS) (base (by omega) zz z2 (λ_=>by decide) (λh=>absurd h h33)) H8
 refine sel_eq (λh5=>sel_true (beq_iff_eq.2 h5) (S8 (by omega))) (λh5=>sel_eq (λh6=>S8 (by omega)) (λh6=>sel_eq (λh7=>?_) (λh7=>sel_eq (λh8=>H6.callg (c_Text m2 hm w6) ?_) (λh8=>R (st:=noS) (base zz zz z2 (λ_=>by decide) (λh=>absurd h h8)) H6))))
 .refine H6.callg (n_around m2 3 w6 (by omega) hm) ?_
  have hr2:=aroundI_range m2 3 (by omega)
  generalize aroundI m2 3=v at hr2
  rintro _ w7 rfl H7
  exact ⟨_,rfl,H7.locg λw8 H8=>R (st:=noS) (base (by omega) zz z2 (λ_=>by decide) (λh=>by omega)) H8⟩
 .rintro _ w7 ⟨k,rfl⟩ H7
  exact ⟨_,rfl,H7.locg λw8 H8=>R (st:=noS) (base zz zz z2 (λh=>absurd h8 h) (λ_=>⟨k,rfl⟩)) H8⟩
theorem MdN.ok {d:Nx} (h:MdN d):NOk d:=by
 refine ⟨by have:=h.kl;unfold MaxL;omega,?_,?_,λh33=>?_⟩
 .have:=h.n
  exact ⟨by omega,by omega⟩
 .have:=h.m
  exact ⟨by omega,by omega⟩
 .obtain ⟨k,hk⟩:=h.re h33
  rw [hk]
  refine ⟨?_,true,can_text k⟩
  rw [ba_size]
  have:=text_len k
  omega
theorem MdG.ok {g:List Nx} (h:MdG g) (hl:g.length<=MaxL):GOk g:=⟨hl,h.vg.val,h.vg.vars⟩
theorem add_len (g:List Nx) (n:Nx):(addX g n).1.length<=g.length+1:=by
 unfold addX
 split
 .simp
 .split
  .simp
  .split
   .simp
   .simp
theorem add_ok {g:List Nx} {n:Nx} (h:(addX g n).2.2=0):(srtX g n).2=0/\∃k:Nat,(addX g n).2.1=(k:Int)/\(addX g n).1[k]? =some (withS n (srtX g n).1)/\((addX g n).1=g\/(withS n (srtX g n).1∉g/\(addX g n).1=g++[withS n (srtX g n).1]/\k=g.length)):=by
 unfold addX at h ⊢
 split at h
 .rename_i h0
  exact absurd h h0
 rename_i h0
 have h0:(srtX g n).2=0:=by omega
 refine ⟨h0,?_⟩
 rw [if_neg (by omega)]
 cases hi:idxX (withS n (srtX g n).1) g 0 with
 |some i=>
  have:=idx_some hi
  rw [Nat.sub_zero] at this
  exact ⟨i,rfl,this.2,.inl rfl⟩
 |none=>
  rw [hi] at h
  dsimp only at h ⊢
  split at h
  .cases h
  .rename_i h4
   rw [if_neg h4]
   exact ⟨g.length,rfl,by simp,.inr ⟨idx_none hi,rfl,rfl⟩⟩
theorem add_vg {g:List Nx} {n:Nx} (hg:Vg g) (h:(addX g n).2.2=0):Vg (addX g n).1:=by
 obtain ⟨h0,k,_,_,h3⟩:=add_ok h
 rcases h3 with h3|⟨h4,h5,_⟩
 .rw [h3];exact hg
 .rw [h5]
  exact .snoc hg (leaf_withS (by rw [<-h0])) h4
theorem add_md {g:List Nx} {n:Nx} (hg:MdG g) (hn:MdN n) (h:(addX g n).2.2=0):MdG (addX g n).1:=by
 refine ⟨add_vg hg.vg h,λd hd=>?_⟩
 obtain ⟨h0,k,_,_,h3⟩:=add_ok h
 rcases h3 with h3|⟨h4,h5,_⟩
 .rw [h3] at hd;exact hg.nd d hd
 .rw [h5] at hd
  rcases qmA.1 hd with hd|hd
  .exact hg.nd d hd
  .simp only [qmC,qnM,or_false] at hd
   subst hd
   exact ⟨hn.op1,hn.op2,hn.kl,hn.n,hn.m,hn.u,hn.tx,hn.re⟩
theorem MdG.kl {l:List Nd} (h:MdG (xs l)):∀e∈l,e.x.kids.length<=MaxL:=λe he=>by
 have:=(h.nd e.x (qmM.2 ⟨e,he,rfl⟩)).kl
 unfold MaxL
 omega
def MadeV (w:World) (kind:Int) (most:Nat) (r:Ending) (w':World):Prop:=∃(s:Sl) (l:List Nd),r=.returned s.v/\MdG (xs l)/\1<=l.length/\l.length<=10+most/\GP w' s l/\(∀b∈(En.gr s l).fp,w.heap.size<=b)/\∀d∈xs l,d.op=0->d∈xs (startD kind)
theorem add_vars {g:List Nx} {n e:Nx} (hn:n.op≠0) (he:e∈(addX g n).1) (h0:e.op=0):e∈g:=by
 unfold addX at he
 split at he
 .cases he
 .split at he
  .exact he
  .split at he
   .cases he
   .rcases qmA.1 he with he|he
    .exact he
    .rw [List.mem_singleton.1 he] at h0
     exact absurd h0 hn
def MadeR (w:World) (most:Nat) (r:Ending) (w':World):Prop:=∃(s:Sl) (l:List Nd),r=.returned s.v/\MdG (xs l)/\1<=l.length/\l.length<=10+most/\GP w' s l/\∀b∈(En.gr s l).fp,w.heap.size<=b
theorem c_MadeV {w:World} {ls:Sl} {ns:List Int} (hr:Nums w ls ns) (hns:∀x∈ns,I64 x) (hnl:ns.length<=9223372036854775807) (kind:Int) (most:Nat) (hm:most<=1000):
  Calls Tryz.prog n_enthymemeref07_Made #[ls.v,.i kind,.i (most:Int)] w λr w'=>MadeV w kind most r w'/\Fr0 w w':=by
 have hn:=Nums.len hr
 have loop:∀(m i:Nat) (gs:Sl) (l:List Nd) (w1:World),i+m=most->MdG (xs l)->(∀d∈xs l,d.op=0->d∈xs (startD kind))->1<=l.length->l.length<=10+i->(∀b∈(En.gr gs l).fp,w.heap.size<=b)->LH F0 w w1 [] [.rd ls (ns.map intV),.gr gs l]->
   enthymemeref07_Made.L0T ls kind (most:Int) gs ((3 *i:Nat):Int) w1 λr w'=>MadeV w kind most r w'/\Fr0 w w':=by
  intro m
  have e3:IntKind.wrap .i64 (3 *(most:Int))=3 *(most:Int):=IntWalk.i64_in _ (by omega)
  induction m with
  |zero=>
   intro i gs l w1 hi hg hv h1 h2 hf H
   have fin:enthymemeref07_Made.S3T gs w1 λr w'=>MadeV w kind most r w'/\Fr0 w w':=⟨⟨gs,l,rfl,hg,h1,by omega,gr_P.1 (H.getD 1),hf,hv⟩,H.fr⟩
   exact enthymemeref07_Made.L0T_step _ _ _ _ _ _ _ (sel_dec (λ_=>sel_false (decide_eq_false (by rw [e3];omega)) fin) (λ_=>fin))
  |succ m ih=>
   intro i gs l w1 hi hg hv h1 h2 hf H
   have fin:enthymemeref07_Made.S3T gs w1 λr w'=>MadeV w kind most r w'/\Fr0 w w':=⟨⟨gs,l,rfl,hg,h1,by omega,gr_P.1 (H.getD 1),hf,hv⟩,H.fr⟩
   have w1':IntKind.wrap .i64 (((3 *i:Nat):Int)+1)=((3 *i+1:Nat):Int):=IntWalk.i64_in _ (by omega)
   have w2':IntKind.wrap .i64 (((3 *i:Nat):Int)+2)=((3 *i+2:Nat):Int):=IntWalk.i64_in _ (by omega)
   have w3':IntKind.wrap .i64 (((3 *i:Nat):Int)+3)=((3 *(i+1):Nat):Int):=IntWalk.i64_in _ (by omega)
   have next:∀(gs':Sl) (l':List Nd) (w5:World),MdG (xs l')->(∀d∈xs l',d.op=0->d∈xs (startD kind))->1<=l'.length->l'.length<=10+(i+1)->(∀b∈(En.gr gs' l').fp,w.heap.size<=b)->LH F0 w w5 [] [.rd ls (ns.map intV),.gr gs' l']->enthymemeref07_Made.S2T ls kind (most:Int) gs' ((3 *i:Nat):Int) w5 λr w'=>MadeV w kind most r w'/\Fr0 w w':=by
    intro gs' l' w5 g1 gv g2 g3 g4 H5
    show enthymemeref07_Made.L0T ls kind (most:Int) gs' (IntKind.wrap .i64 (((3 *i:Nat):Int)+3)) w5 _
    rw [w3']
    exact ih (i+1) gs' l' w5 (by omega) g1 gv g2 g3 g4 H5
   have S1:∀(b9:Nat) (d:Nd) (w3:World) (L:List En),En.g b9∈L->MdV d.x->d.P w3->(∀b∈blkL d.ks,w.heap.size<=b)->LH F0 w w3 L [.rd ls (ns.map intV),.gr gs l,kidE d]->enthymemeref07_Made.S1T ls kind (most:Int) gs ((3 *i:Nat):Int) b9 d.x.op d.ks d.x.n d.x.m d.x.u d.x.tx d.x.st.k d.x.st.n d.x.st.x w3 λr w'=>MadeV w kind most r w'/\Fr0 w w':=by
    intro b9 d w3 L hb9 hd pd fd H3
    have hxl:(xs l).length=l.length:=by simp [xs]
    have H3:LH F0 w w3 [] [.rd ls (ns.map intV),.gr gs l,kidE d]:=H3.take 0
    refine callF0 ((c_rAdd (gr_P.1 (H3.getD 1)) pd (hg.ok (by rw [hxl];unfold MaxL;omega)) hd.toMdN.ok hg.kl).mono ?_)
    rintro _ w4 ⟨⟨s',rfl,⟨l',hl',G',F'⟩⟩,f4⟩
    have hnew:∀b∈(En.gr s' l').fp,w.heap.size<=b:=λb hb=>by
     rcases F' b hb with (h|h)|h
     .exact hf b h
     .exact rd_fp fd b h
     .exact Nat.le_trans H3.fr.size h
    have H4:=H3.fr0 f4
    have H4':LH F0 w w4 [] [.rd ls (ns.map intV),.gr s' l']:=(H3.addD (.gr s' l') f4 (gr_P.2 G') (λb hb=>by
     rcases F' b hb with (h|h)|h
     .exact .inr (.inr ⟨_,qmG (i:=1) rfl,h⟩)
     .exact .inr (.inr ⟨_,qmG (i:=2) rfl,h⟩)
     .exact .inl h)).forget _ (by simp)
    have Hold:∀{w6:World},LH F0 w w6 [] [.rd ls (ns.map intV),.gr gs l,kidE d]->LH F0 w w6 [] [.rd ls (ns.map intV),.gr gs l]:=λH=>H.forget _ (by simp)
    refine ⟨f4,_,_,_,rfl,sel_eq (λh0=>?_) (λh0=>next gs l w4 hg hv h1 (by omega) hf (Hold H4))⟩
    obtain ⟨_,k,hk1,hk2,_⟩:=add_ok h0
    have hmd:MdG (xs l'):=by rw [hl'];exact add_md hg hd.toMdN h0
    have hvd:∀e∈xs l',e.op=0->e∈xs (startD kind):=λe he h=>by
     rw [hl'] at he
     exact hv e (add_vars hd.nv he h) h
    have hll:l'.length<=10+(i+1):=by
     have:=add_len (xs l) d.x
     rw [<-hl'] at this
     simp only [xs,List.length_map] at this
     omega
    rw [<-hl'] at hk2
    have hkl:k<l'.length:=by
     have:=(qgS.1 hk2).1
     simpa [xs] using this
    have hge:l'[k]? =some (l'[k]'hkl):=qgE hkl
    generalize l'[k]'hkl=e at hge
    rw [hk1]
    refine gr_at (gr_P.1 (H4'.getD 1)) rfl hge λp hp c=>⟨_,_,_,c.s0,c.s1,c.s2,?_⟩
    refine callF0 ((c_within07 kind e.x.st w4).mono ?_)
    rintro _ w5 ⟨⟨b,rfl⟩,f5⟩
    have H5:=H4'.fr0 f5
    have H5o:=Hold (H4.fr0 f5)
    refine ⟨f5,_,rfl,sel_intro (λ_=>?_) (λ_=>next gs l w5 hg hv h1 (by omega) hf H5o)⟩
    refine gr_at (gr_P.1 (H5.getD 1)) rfl hge λp' hp' c'=>⟨_,c'.s1,sel_dec (λ_=>?_) (λ_=>next gs l w5 hg hv h1 (by omega) hf H5o)⟩
    have hkids:∀(i:Nat) (d:Nd),l'[i]? =some d->d.x.kids.length<=1000000/\∀k∈d.x.kids,0<=k/\k<(i:Int):=λi d hd=>by
     have hd':=xs_get hd
     have:=(hmd.nd d.x (qmG hd')).kl
     exact ⟨by omega,hmd.vg.kids hd'⟩
    refine callF0 ((c_size (gr_P.1 (H5.getD 1)) hkids (k+1) k (by omega) hkl w5 (Fr.refl _ _)).mono ?_)
    rintro _ w6 ⟨⟨z,rfl⟩,f6⟩
    have f6:Fr0 w5 w6:=f6
    exact ⟨f6,_,rfl,sel_dec (λ_=>next s' l' w6 hmd hvd (by omega) hll hnew (H5.fr0 f6)) (λ_=>next gs l w6 hg hv h1 (by omega) hf (H5o.fr0 f6))⟩
   refine enthymemeref07_Made.L0T_step _ _ _ _ _ _ _ ?_
   rw [w1',w2',e3]
   refine sel_dec (λhlt=>sel_true (decide_eq_true (by omega)) (H.dr λw2 H2=>?_)) (λ_=>fin)
   have h2n:Nums w2 ls ns:=H2.getD 0
   have g0:ns[3 *i]? =some (ns[3 *i]'(by omega)):=qgE (by omega)
   have g1:ns[3 *i+1]? =some (ns[3 *i+1]'(by omega)):=qgE (by omega)
   have g2:ns[3 *i+2]? =some (ns[3 *i+2]'(by omega)):=qgE (by omega)
   generalize ns[3 *i]'(by omega)=x0 at g0
   generalize ns[3 *i+1]'(by omega)=x1 at g1
   generalize ns[3 *i+2]'(by omega)=x2 at g2
   refine ⟨by omega,by omega,h2n.cell g0 (by omega) λp0 hp0 c0=>⟨x0,c0,by omega,by omega,h2n.cell g1 (by omega) λp1 hp1 c1=>⟨x1,c1,by omega,by omega,h2n.cell g2 (by omega) λp2 hp2 c2=>⟨x2,c2,?_,?_⟩⟩⟩⟩
   .have N:=c_node (gr_P.1 (H2.getD 1)) h1 (by unfold MaxL;omega) (λd hd=>hg.vg.val d.x (qmM.2 ⟨d,hd,rfl⟩)) x0 x1 x2 (hns _ (qmG g0)) (hns _ (qmG g1)) (hns _ (qmG g2))
    refine H2.callq N ?_
    rintro _ w3 ⟨d,rfl,hd,pd,fd⟩ _ F3
    have H3:=F3.rd (kidE d) pd (rd_fp fd)
    refine ⟨_,_,_,_,_,_,_,_,_,rfl,H3.newg λb9 w4 H4=>H4.locg λw5 H5=>?_⟩
    exact S1 b9 d w5 _ (by simp) hd (H5.getD 2) (λb hb=>Nat.le_trans H2.fr.size (fd b hb)) H5
   .refine H2.newg λb9 w3 H3=>?_
    have h3n:Nums w3 ls ns:=H3.getD 0
    have again:∀{j:Nat} {x:Int} {p:Addr} {X:Nat},ns[j]? =some x->ls.a=some p->X=j *1->w3.cell? (p.add X)=some (.int .i64 x):=by
     intro j x p X hg hp hX
     have:=h3n.cell hg hX (K:=λq=>∃q',ls.a=some q'/\w3.cell? (q'.add X)=some (.int .i64 x)) (λq hq hc=>⟨q,hq,hc⟩)
     rw [hp] at this
     obtain ⟨q,hq,hc⟩:=this
     cases hq
     exact hc
    have N:=c_node (gr_P.1 (H3.getD 1)) h1 (by unfold MaxL;omega) (λd hd=>hg.vg.val d.x (qmM.2 ⟨d,hd,rfl⟩)) x0 x1 x2 (hns _ (qmG g0)) (hns _ (qmG g1)) (hns _ (qmG g2))
    refine ⟨again g2 hp2 (by omega),again g1 hp1 (by omega),again g0 hp0 (by omega),H3.callr N ?_⟩
    rintro _ w4 ⟨d,rfl,hd,pd,fd⟩ _ F4
    have H4:=F4.rd (kidE d) pd (rd_fp fd)
    refine ⟨_,_,_,_,_,_,_,_,_,rfl,H4.locg λw5 H5=>?_⟩
    exact S1 b9 d w5 _ (by simp) hd (H5.getD 2) (λb hb=>Nat.le_trans H3.fr.size (fd b hb)) H5
 refine enthymemeref07_Made.okT _ _ _ w _ ((c_start kind w).mono ?_)
 rintro _ w1 ⟨⟨s,rfl,⟨l,hl,G,F⟩⟩,f1⟩
 have hlen:=start_len kind
 have hl2:l.length=(startD kind).length:=by
  have:=congrArg List.length hl
  simpa [xs] using this
 have hnew:∀b∈(En.gr s l).fp,w.heap.size<=b:=λb hb=>(F b hb).resolve_left id
 have H:LH F0 w w [] [.rd ls (ns.map intV)]:=lh0 _ (by
  intro e he
  simp only [qmC,qnM,or_false] at he
  subst he
  exact hr)
 have H1:=H.addD (.gr s l) f1 (gr_P.2 G) (λb hb=>.inl (hnew b hb))
 exact ⟨s,rfl,loop most 0 s l w1 (by omega) (by rw [hl];exact start_md kind) (λd hd _=>hl▸hd) (by omega) (by omega) hnew H1⟩
theorem c_Made {w:World} {ls:Sl} {ns:List Int} (hr:Nums w ls ns) (hns:∀x∈ns,I64 x) (hnl:ns.length<=9223372036854775807) (kind:Int) (most:Nat) (hm:most<=1000):
  Calls Tryz.prog n_enthymemeref07_Made #[ls.v,.i kind,.i (most:Int)] w λr w'=>MadeR w most r w'/\Fr0 w w':=
 (c_MadeV hr hns hnl kind most hm).mono λ_ _ ⟨⟨s,l,h1,h2,h3,h4,h5,h6,_⟩,f⟩=>⟨⟨s,l,h1,h2,h3,h4,h5,h6⟩,f⟩
end Go.Proofs.YthnoidogkbbkhaaGreatDoor
