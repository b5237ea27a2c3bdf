import Derived.Test.YtcifihepfadgfaaGreatDoorTP
import Derived.Test.YtcifihepfadgfaaGreatDoorT1
set_option linter.unusedVariables false
set_option maxRecDepth 100000
set_option maxHeartbeats 1000000
namespace Go.Proofs.YtcifihepfadgfaaGreatDoor
open List renaming mem_append->fW,mem_cons->cU,not_mem_nil->qnM,mem_of_getElem?->dC,getElem?_eq_getElem->g7,getElem?_eq_some_iff->nP,mem_map->o8,all_eq_true->qaT
open Go Go.W
theorem fG (n m:Int) (w:World) (hm:1<=m) (h:nO n):Calls Tryz.prog aT #[.i n,.i m] w λr w'=>r=.returned (.i (dF n m))/\bF w w':=(yn n m w hm h).mono λr w' h=>⟨h.1,h.2▸Fr.refl _ _⟩
def G9 (t:List UInt8) (s:ir):Nx:=⟨0,[],0,0,0,ba t,s⟩
def xV (t:List UInt8) (s:ir):Nd:=⟨G9 t s,⟨none,0,0⟩⟩
def sY:List Nd:=[xV [97] (jH 2),xV [98] (jH 2),xV [99] (jH 1),xV [100] (jH 3)]
def sZ:List Nd:=[xV [109] ⟨2,2,1⟩,xV [110] ⟨2,2,1⟩]
def pQ:List Nd:=[xV [115] (mW 2),xV [116] (mW 1),xV [105] (jH 7),xV [122] ⟨3,1,1⟩]
def jF (kind:Int):List Nd:=sY++(if kind>0 then sZ else [])++(if kind>1 then pQ else [])
def vgB (l:List Nx):Bool:=(List.range l.length).all λi=>match l[i]? with
 |some n=>decide (eU (l.take i) n=(n.st,0))&&decide (n∉l.take i)
 |none=>false
theorem IY {l:List Nx} (h:vgB l=true):Vg l:=by
 have main:∀i,i<=l.length->Vg (l.take i):=by
  intro i
  induction i with
  |zero=>intro _;rw [List.take_zero];exact .nil
  |succ i ih=>
   intro hi
   have h1:=qaT.1 h i (List.mem_range.2 (by omega))
   have hg:l[i]? =some (l[i]'(by omega)):=g7 (by omega)
   rw [hg] at h1
   dsimp only at h1
   rw [List.take_add_one,hg]
   simp only [Bool.and_eq_true,decide_eq_true_eq] at h1
   exact .snoc (ih (by omega)) h1.1 h1.2
 have:=main l.length (Nat.le_refl _)
 rwa [List.take_length] at this
theorem Ni (kind:Int):Vg (xs (jF kind)):=by
 unfold jF
 split
 .split
  .exact IY (by kernel_rfl)
  .exact IY (by kernel_rfl)
 .split
  .exact IY (by kernel_rfl)
  .exact IY (by kernel_rfl)
structure Hh (d:Nx):Prop where
 Z7:-1<=d.op
 Z8:d.op<=34
 kl:d.kids.length<=3
 n:0<=d.n/\d.n<=100
 m:0<=d.m/\d.m<=100
 u:0<=d.u/\d.u<=1000
 tx:d.op≠33->d.tx.size<=16
 re:d.op=33->∃k,d.tx=ba (qm k)
structure I5 (g:List Nx):Prop where
 vg:Vg g
 nd:∀d∈g,Hh d
theorem Nh (kind:Int):I5 (xs (jF kind)):=by
 refine ⟨Ni kind,λd hd=>?_⟩
 have h:∃t s,d=G9 t s/\t.length<=16:=by
  have h1:d∈xs (sY++sZ++pQ):=by
   obtain ⟨a,ha,rfl⟩:=o8.1 hd
   refine o8.2 ⟨a,?_,rfl⟩
   unfold jF at ha
   rcases fW.1 ha with ha|ha
   .rcases fW.1 ha with ha|ha
    .simp [ha]
    .split at ha
     .simp [ha]
     .cases ha
   .split at ha
    .simp [ha]
    .cases ha
  simp only [xs,sY,sZ,pQ,xV,List.cons_append,List.nil_append,List.map_cons,List.map_nil,cU,qnM,or_false] at h1
  rcases h1 with rfl|rfl|rfl|rfl|rfl|rfl|rfl|rfl|rfl|rfl<;>exact ⟨_,_,rfl,by decide⟩
 obtain ⟨t,s,rfl,ht⟩:=h
 exact ⟨by show (-1:Int)<=0;omega,by show (0:Int)<=34;omega,by simp [G9],by simp [G9],by simp [G9],by simp [G9],λ_=>by show (ba t).size<=16;rw [cD];exact ht,λh=>by cases h⟩
theorem xH {kind:Int}:∀d∈jF kind,d.x.kids=[]/\d.ks=⟨none,0,0⟩:=by
 intro d hd
 have h1:d∈sY++sZ++pQ:=by
  unfold jF at hd
  rcases fW.1 hd with ha|ha
  .rcases fW.1 ha with ha|ha
   .simp [ha]
   .split at ha
    .simp [ha]
    .cases ha
  .split at ha
   .simp [ha]
   .cases ha
 simp only [sY,sZ,pQ,xV,G9,List.cons_append,List.nil_append,cU,qnM,or_false] at h1
 rcases h1 with rfl|rfl|rfl|rfl|rfl|rfl|rfl|rfl|rfl|rfl<;>exact ⟨rfl,rfl⟩
theorem Ng {kind:Int} {w w0:World} {s:Sl} (h:jJ 9 w s ((jF kind).flatMap Nd.c)) (hf:∀b∈bA s,w0.heap.size<=b):GR w0 F0 (xs (jF kind)) s w:=by
 refine ⟨jF kind,rfl,⟨h,λd hd=>?_⟩,λb hb=>.inr ?_⟩
 .obtain ⟨h1,h2⟩:=xH d hd
  show fB w d.ks d.x.kids
  rw [h1,h2]
  exact Rd.nil w
 .rcases sF.1 hb with hb|⟨d,hd,hb⟩
  .exact Cq hf b hb
  .obtain ⟨h1,h2⟩:=xH d hd
   unfold fF at hb
   rw [h1] at hb
   cases hb
theorem Kb (kind:Int):1<=(jF kind).length/\(jF kind).length<=10:=by
 unfold jF
 split<;>split<;>decide
theorem Oo (kind:Int) (w:World):Calls Tryz.prog jZ #[.i kind] w λr w'=>(∃s:Sl,r=.returned s.v/\GR w F0 (xs (jF kind)) s w')/\bF w w':=by
 refine enthymemeref07_start.ok kind w _ ((mf [] (by simp)).call (nR 2 w) ?_)
 rintro _ w1 rfl H1
 refine ⟨_,_,_,rfl,H1.call (nR 2 w1) ?_⟩
 rintro _ w2 rfl H2
 refine ⟨_,_,_,rfl,H2.call (nR 1 w2) ?_⟩
 rintro _ w3 rfl H3
 refine ⟨_,_,_,rfl,H3.call (nR 3 w3) ?_⟩
 rintro _ w4 rfl H4
 refine ⟨_,_,_,rfl,H4.gZ (n:=4) (sz:=9) (cs:=sY.flatMap Nd.c) rfl (by decide) λw5 H5=>?_⟩
 have fin:∀(l:Sl) (w6:World) (L:List En) (j:Nat),LH F0 w w6 L []->L[j]? =some (.row aE 9 l ((jF kind).flatMap Nd.c))->(∃s:Sl,Ending.returned l.v=.returned s.v/\GR w F0 (xs (jF kind)) s w6)/\bF w w6:=λl w6 L j H6 hj=>
  ⟨⟨l,rfl,Ng (H6.get j hj:aO _ _ _ _ _).iQ λb hb=>(H6.new _ (dC hj) b hb).resolve_right id⟩,H6.fr⟩
 have S0:∀(l:Sl) (w6:World) (L:List En) (j:Nat) (ds:List Nd),LH F0 w w6 L []->ds.length<=6->jF kind=ds++(if kind>1 then pQ else [])->L[j]? =some (.row aE 9 l (ds.flatMap Nd.c))->enthymemeref07_start.S0 kind l w6 λr w'=>(∃s:Sl,r=.returned s.v/\GR w F0 (xs (jF kind)) s w')/\bF w w':=by
  intro l w6 L j ds H6 hds he hj
  refine aK (λh1=>?_) (λh1=>?_)
  .rw [if_pos h1] at he
   refine H6.call (lF 2 w6) ?_
   rintro _ w7 rfl H7
   refine ⟨_,_,_,rfl,H7.call (lF 1 w7) ?_⟩
   rintro _ w8 rfl H8
   refine ⟨_,_,_,rfl,H8.call (nR 7 w8) ?_⟩
   rintro _ w9 rfl H9
   refine ⟨_,_,_,rfl,H9.gZ (n:=4) (sz:=9) (cs:=pQ.flatMap Nd.c) rfl (by decide) λpT mg=>?_⟩
   have VX:(L++[En.row aE 9 ⟨some (bD w9.heap.size),4,4⟩ (pQ.flatMap Nd.c)])[j]? =some (.row aE 9 l (ds.flatMap Nd.c)):=by
    rw [List.getElem?_append_left (nP.1 hj).1];exact hj
   have V2:(L++[En.row aE 9 ⟨some (bD w9.heap.size),4,4⟩ (pQ.flatMap Nd.c)])[L.length]? =some (.row aE 9 ⟨some (bD w9.heap.size),4,4⟩ (pQ.flatMap Nd.c)):=by simp
   have hn:l.n=ds.length:=by
    have:=(mg.get j VX:aO _ _ _ _ _).len
    rw [Nd.gH] at this
    omega
   have D0:jJ 9 pT ⟨some (bD w9.heap.size),4,4⟩ (pQ.flatMap Nd.c):=(mg.get L.length V2:aO _ _ _ _ _).iQ
   refine mg.ap j gR (src:=⟨some (bD w9.heap.size),4,4⟩) VX D0.2.2 D0.1 nC (by simp only;omega) (λs' rQ qn _ _=>?_)
   refine fin s' rQ _ j qn ?_
   rw [List.getElem?_set_self (by simp;have:=(nP.1 hj).1;omega),he,List.flatMap_append]
  .rw [if_neg h1,List.append_nil] at he
   rw [<-he] at hj
   exact fin l w6 L j H6 hj
 refine aK (λh0=>H5.gZ (n:=2) (sz:=9) (cs:=sZ.flatMap Nd.c) rfl (by decide) λw6 H6=>?_) (λh0=>?_)
 .have D0:jJ 9 w6 ⟨some (bD w5.heap.size),2,2⟩ (sZ.flatMap Nd.c):=(H6.get 1:aO _ _ _ _ _).iQ
  refine H6.ap 0 gR (s:=⟨some (bD w4.heap.size),4,4⟩) (src:=⟨some (bD w5.heap.size),2,2⟩) rfl D0.2.2 D0.1 nC (by show (4+2) *96<=_;omega) (λs' w7 H7 _ _=>?_)
  refine S0 s' w7 _ 0 (sY++sZ) H7 (by decide) ?_ ?_
  .unfold jF;rw [if_pos h0]
  .rw [List.flatMap_append];rfl
 .refine S0 ⟨some (bD w4.heap.size),4,4⟩ w5 _ 0 sY H5 (by decide) ?_ rfl
  unfold jF;rw [if_neg h0,List.append_nil]
theorem FL (kind:Int) (s:ir) (w:World):Calls Tryz.prog jC #[.i kind,kh s] w λr w'=>(∃b:Bool,r=.returned (.bool b))/\bF w w':=
 enthymemeref07_within.cT _ _ _ _ w _ ((mf [] (by simp)).bI λb w1 H1=>aJ (λh=>⟨⟨_,rfl⟩,H1.fr⟩) (λh=>aK (λh=>aJ (λh=>⟨⟨_,rfl⟩,H1.fr⟩) (λh=>⟨⟨_,rfl⟩,H1.fr⟩)) (λh=>⟨⟨_,rfl⟩,H1.fr⟩)))
theorem Ll {w:World} {s:Sl} {l:List Nd} (h:GP w s l) (hk:∀(i:Nat) (d:Nd),l[i]? =some d->d.x.kids.length<=1000000/\∀k∈d.x.kids,0<=k/\k<(i:Int)):∀(n i:Nat),i<n->i<l.length->∀w1,bF w w1->Calls Tryz.prog iE #[s.v,.i (i:Int)] w1 λr w'=>(∃z:Int,r=.returned (.i z))/\bF w w'
 |0,i,hi,_,_,_=>absurd hi (by omega)
 |n+1,i,hi,hl,w1,f1=>by
  have G:∀{w2:World},bF w w2->GP w2 s l:=λf=>⟨h.1.ot f,λd hd=>(fF d).st w _ (λb hb lC=>f.gV b lC id) (h.2 d hd)⟩
  have hg:l[i]? =some (l[i]'hl):=g7 hl
  generalize l[i]'hl=d at hg
  obtain ⟨k1,k2⟩:=hk i d hg
  have loop:∀(m j:Nat) (z:Int) (w2:World),j+m=d.x.kids.length->bF w w2->enthymemeref07_size.L0 s (i:Int) z (j:Int) w2 λr w'=>(∃z:Int,r=.returned (.i z))/\bF w w':=by
   intro m
   induction m with
   |zero=>
    intro j z w2 hj f2
    have hn:d.ks.n=d.x.kids.length:=fB.len ((G f2).2 d (dC hg))
    exact enthymemeref07_size.cO _ _ _ _ _ _ (jM (G f2) rfl hg λp hp c=>⟨_,c.c1,aM (decide_eq_false (by omega)) ⟨⟨_,rfl⟩,f2⟩⟩)
   |succ m ih=>
    intro j z w2 hj f2
    have hd2:fB w2 d.ks d.x.kids:=(G f2).2 d (dC hg)
    have hn:=fB.len hd2
    have Fh:d.x.kids[j]? =some (d.x.kids[j]'(by omega)):=g7 (by omega)
    generalize d.x.kids[j]'(by omega)=k at Fh
    have Tz:=k2 k (dC Fh)
    refine enthymemeref07_size.cO _ _ _ _ _ _ (jM (G f2) rfl hg λp hp c=>⟨_,c.c1,aS (decide_eq_true (by omega)) (jM (G f2) rfl hg λp' HX c'=>⟨_,c'.c1,by omega,by omega,hd2.cell Fh (by omega) λq hq hc=>⟨k,hc,?_⟩⟩)⟩)
    have ek:k=((k.toNat:Nat):Int):=by omega
    rw [ek]
    refine (Ll h hk n k.toNat (by omega) (by omega) w2 f2).mono ?_
    rintro _ w3 ⟨⟨z3,rfl⟩,f3⟩
    refine ⟨_,rfl,?_⟩
    show enthymemeref07_size.L0 s (i:Int) _ (IntKind.wrap .i64 ((j:Int)+1)) w3 _
    rw [aZ _ (by omega)]
    exact ih (j+1) _ w3 (by omega) f3
  exact enthymemeref07_size.ok _ _ w1 _ (loop d.x.kids.length 0 1 w1 (by omega) f1)
theorem ZZ {w:World} {s:Sl} {l:List Nd} (h:GP w s l):LH F0 w w [] [.gr s l]:=mf _ (by
 intro e he
 simp only [cU,qnM,or_false] at he
 subst he
 exact cQ.2 h)
abbrev uh (s:Sl) (l:List Int):En:=.row bW 1 s (l.map ia)
theorem rn {w:World} {s:Sl} {l:List Int} (h:aO w bW 1 s (l.map ia)):fB w s l:=h.rd1
theorem rm {w:World} {s:Sl} {l:List Int} (h:aO w bW 1 s (l.map ia)):s.n=l.length:=by
 have:=h.len
 simp at this
 omega
theorem FE {w:World} {s:Sl} {l:List Nd} (h:GP w s l) (t:ir) (n:Int) (hn:nO n) (hl:l.length<=m9):
  Calls Tryz.prog gF #[s.v,kh t,.i n] w λr w'=>(∃z:Int,r=.returned (.i z)/\-1<=z/\z<(l.length:Int))/\bF w w':=by
 have hs:=qq h
 unfold m9 at hl
 have loop:∀(m i:Nat) (l7:Sl) (ks:List Int) (b4:Nat) (w1:World),i+m=l.length->ks.length<=i->(∀k∈ks,0<=k/\k<(l.length:Int))->LH F0 w w1 [.g b4,uh l7 ks] [.gr s l]->
   enthymemeref07_Like.dY s n b4 t.k t.n t.x l7 (i:Int) w1 λr w'=>(∃z:Int,r=.returned (.i z)/\-1<=z/\z<(l.length:Int))/\bF w w':=by
  intro m
  induction m with
  |zero=>
   intro i l7 ks b4 w1 hi OV sH H
   have hlen:=rm (H.get 1)
   refine enthymemeref07_Like.aY _ _ _ _ _ _ _ _ _ _ (aM (decide_eq_false (by omega)) (aJ (λh0=>⟨⟨_,rfl,by omega,by omega⟩,H.fr⟩) (λh0=>H.aL (fG n _ w1 (by omega) hn) ?_)))
   have hr:=cI n ((l7.n:Nat):Int) (by omega)
   generalize dF n ((l7.n:Nat):Int)=z at hr
   rintro _ w2 rfl H2
   obtain ⟨j,rfl⟩:∃j:Nat,z=(j:Int):=⟨z.toNat,by omega⟩
   have hg:ks[j]? =some (ks[j]'(by omega)):=g7 (by omega)
   have hk:=sH _ (dC hg)
   exact ⟨_,rfl,by omega,by omega,(rn (H2.get 1)).cell hg (by omega) λp hp hc=>⟨_,hc,⟨⟨_,rfl,by omega,by omega⟩,H2.fr⟩⟩⟩
  |succ m ih=>
   intro i l7 ks b4 w1 hi OV sH H
   have hg:l[i]? =some (l[i]'(by omega)):=g7 (by omega)
   generalize l[i]'(by omega)=d at hg
   have hlen:=rm (H.get 1)
   refine enthymemeref07_Like.aY _ _ _ _ _ _ _ _ _ _ (aS (decide_eq_true (by omega)) (jM (cQ.1 (H.getD 0)) rfl hg λp hp _=>H.aN λw2 H2=>?_))
   have c:=pJ (cQ.1 (H2.getD 0)) hg hp (rfl:((i:Int))=(i:Int))
   refine ⟨_,_,_,c.s0,c.s1,c.s2,nG (a:=d.x.st) (b:=t) (λhe=>?_) (λhe=>?_)⟩
   .refine H2.tS 1 uY rfl (λs' w3 H3=>?_) (by omega)
    show enthymemeref07_Like.dY s n b4 t.k t.n t.x s' (IntKind.wrap .i64 ((i:Int)+1)) w3 _
    rw [aZ _ (by omega)]
    refine ih (i+1) s' (ks++[(i:Int)]) b4 w3 (by omega) (by simp;omega) (λk hk=>?_) (by rw [uh,List.map_append];exact H3)
    rcases fW.1 hk with hk|hk
    .exact sH k hk
    .simp only [cU,qnM,or_false] at hk
     omega
   .show enthymemeref07_Like.dY s n b4 t.k t.n t.x l7 (IntKind.wrap .i64 ((i:Int)+1)) w2 _
    rw [aZ _ (by omega)]
    exact ih (i+1) l7 ks b4 w2 (by omega) (by omega) sH H2
 exact enthymemeref07_Like.cT _ _ _ _ _ w _ ((ZZ h).bI λb4 w1 H1=>loop l.length 0 ⟨none,0,0⟩ [] b4 w1 (by omega) (by simp) (by simp) (H1.oL bW 1))
theorem Lm {w:World} {s:Sl} {l:List Nd} (h:GP w s l) (op:Int) (x:Nat) (Rp n:Int) (hx:x<l.length) (hn:nO n):
  Calls Tryz.prog jB #[s.v,.i op,.i (x:Int),.i Rp,.i n] w λr w'=>(∃t:ir,r=.returned (kh t))/\bF w w':=by
 have hs:=qq h
 have hg:l[x]? =some (l[x]'hx):=g7 hx
 generalize l[x]'hx=d at hg
 refine enthymemeref07_wanted.cT _ _ _ _ _ w _ ((ZZ h).bI λpo w1 H1=>jM (cQ.1 (H1.getD 0)) rfl hg λp hp c=>⟨_,_,_,c.s0,c.s1,c.s2,H1.bI λQJ w2 H2=>?_⟩)
 have ret:∀(a b c:Int) (w3:World) (bs:List Nat),(∀b∈bs,En.g b∈[En.g po,.g QJ])->LH F0 w w3 [.g po,.g QJ] [.gr s l]->loc bs w3 λw9=>(∃t:ir,Ending.returned (.agg #[.i a,.i b,.i c])=.returned (kh t))/\bF w w9:=λa b c w3 bs hb H3=>H3.aN (λw9 H9=>⟨⟨⟨a,b,c⟩,rfl⟩,H9.fr⟩) hb
 have S0:∀w3,LH F0 w w3 [.g po,.g QJ] [.gr s l]->enthymemeref07_wanted.dU n po 0 0 0 w3 λr w'=>(∃t:ir,r=.returned (kh t))/\bF w w':=by
  intro w3 H3
  refine H3.aL (fG n 3 w3 (by omega) hn) ?_
  rintro _ w4 rfl H4
  refine ⟨_,rfl,H4.aL (lF _ w4) ?_⟩
  rintro _ w5 rfl H5
  exact ⟨_,_,_,rfl,ret _ _ _ w5 _ (by simp) H5⟩
 refine aJ (λh1=>H2.aN λw3 H3=>H3.aL (fG n _ w3 (by omega) hn) ?_) (λh1=>aJ (λh2=>H2.aN λw3 H3=>H3.aL (fG n 3 w3 (by omega) hn) ?_) (λh2=>aJ (λh3=>H2.aN λw3 H3=>H3.aL (nR _ w3) ?_) (λh3=>aJ (λh4=>aJ (λh5=>H2.aN λw3 H3=>H3.aL (nR _ w3) ?_) (λh5=>H2.aN λw3 H3=>H3.aL (wP d.x.st w3) ?_)) (λh4=>aJ (λh6=>H2.aN λw3 H3=>H3.aL (nR _ w3) ?_) (λh6=>aJ (λh7=>aS (beq_iff_eq.2 h7) (H2.aN λw3 H3=>S0 w3 H3)) (λh7=>aJ (λh8=>aS (beq_iff_eq.2 h8) (H2.aN λw3 H3=>S0 w3 H3)) (λh8=>aJ (λh9=>H2.aN λw3 H3=>S0 w3 H3) (λh9=>H2.aN λw3 H3=>ret _ _ _ w3 _ (by simp) H3))))))))
 .have hr:=cI n ((s.n:Nat):Int) (by omega)
  generalize dF n ((s.n:Nat):Int)=z at hr
  rintro _ w4 rfl H4
  obtain ⟨j,rfl⟩:∃j:Nat,z=(j:Int):=⟨z.toNat,by omega⟩
  have An:l[j]? =some (l[j]'(by omega)):=g7 (by omega)
  exact ⟨_,rfl,jM (cQ.1 (H4.getD 0)) rfl An λq hq c'=>⟨_,_,_,c'.s0,c'.s1,c'.s2,ret _ _ _ w4 _ (by simp) H4⟩⟩
 .rintro _ w4 rfl H4
  refine ⟨_,rfl,H4.aL (nR _ w4) ?_⟩
  rintro _ w5 rfl H5
  exact ⟨_,_,_,rfl,ret _ _ _ w5 _ (by simp) H5⟩
 .rintro _ w4 rfl H4
  exact ⟨_,_,_,rfl,ret _ _ _ w4 _ (by simp) H4⟩
 .rintro _ w4 rfl H4
  exact ⟨_,_,_,rfl,ret _ _ _ w4 _ (by simp) H4⟩
 .rintro _ w4 rfl H4
  exact ⟨_,_,_,rfl,ret _ _ _ w4 _ (by simp) H4⟩
 .rintro _ w4 rfl H4
  exact ⟨_,_,_,rfl,ret _ _ _ w4 _ (by simp) H4⟩
theorem X1 (x:Int):nO (IntKind.wrap .i64 x):=by rw [IntKind.wrap_i64];omega
def r9 (w:World) (r:Ending) (w':World):Prop:=∃d:Nd,r=.returned d.v/\Hh d.x/\d.P w'/\∀b∈bA d.ks,w.heap.size<=b
theorem Pj {op n m u:Int} {tx:ByteArray} {st:ir} {ks:List Int} (h:Hh ⟨op,[],n,m,u,tx,st⟩) (hk:ks.length<=3):Hh ⟨op,ks,n,m,u,tx,st⟩:=⟨h.Z7,h.Z8,hk,h.n,h.m,h.u,h.tx,h.re⟩
theorem D9 (op:Int):-1<=eH op/\eH op<=3:=by unfold eH;repeat' split<;>omega
section
variable {w:World} {s:Sl} {l:List Nd} {n1 m2 k3:Int} {b8 po:Nat}
theorem JV (hm:nO m2) (hk:nO k3) (hl:l.length<=m9) {op n m u:Int} {tx:ByteArray} {st:ir} (hd:Hh ⟨op,[],n,m,u,tx,st⟩) (many:Nat) (aas:many<=3) (x:Int) (Ml:-1<=x) (UR:x<(l.length:Int)):
  ∀(d i:Nat) (sl:Sl) (ks:List Int) (w1:World),i+d=many->ks.length=i->(∀k∈ks,0<=k/\k<(l.length:Int))->LH F0 w w1 [.g b8,.g po,uh sl ks] [.gr s l]->
   bL.BF s m2 k3 b8 0 ⟨none,0,0⟩ 0 0 0 (ByteArray.mk #[]) 0 0 0 po op sl n m u tx st.k st.n st.x x (many:Int) (i:Int) w1 λr w'=>r9 w r w'/\bF w w':=by
 intro d
 unfold m9 at hl
 induction d with
 |zero=>
  intro i sl ks w1 hi hlen sH H
  refine bL.m8 _ _ _ _ _ _ _ _ _ _ _ _ _ _ _ _ _ _ _ _ _ _ _ _ _ _ _ _ (aM (decide_eq_false (by omega)) (H.aN λw2 H2=>⟨⟨⟨⟨op,ks,n,m,u,tx,st⟩,sl⟩,rfl,Pj hd (by omega),rn (H2.get 2),λb hb=>(H2.new _ (dC (i:=2) rfl) b hb).resolve_right id⟩,H2.fr⟩))
 |succ d ih=>
  intro i sl ks w1 hi hlen sH H
  have S7:∀(Rp:Int) (w2:World) (L:List En),-1<=Rp->Rp<(l.length:Int)->LH F0 w w2 [.g b8,.g po,uh sl ks] [.gr s l]->bL.Hi s m2 k3 b8 0 ⟨none,0,0⟩ 0 0 0 (ByteArray.mk #[]) 0 0 0 po op sl n m u tx st.k st.n st.x x (many:Int) (i:Int) Rp w2 λr w'=>r9 w r w'/\bF w w':=by
   intro Rp w2 L h1 h2 H2
   refine aK (λh0=>H2.aN λw3 H3=>⟨⟨⟨⟨-1,[],0,0,0,ba [],ow⟩,⟨none,0,0⟩⟩,rfl,⟨by decide,by decide,by decide,by decide,by decide,by decide,λ_=>by decide,λh=>by cases h⟩,Rd.nil w3,λb hb=>by cases hb⟩,H3.fr⟩) (λh0=>?_)
   refine H2.tS 2 uY rfl (λs' w3 H3=>?_) (by have:=rm (H2.get 2);omega)
   have X9:LH F0 w w3 [.g b8,.g po,uh s' (ks++[Rp])] [.gr s l]:=by rw [uh,List.map_append];exact H3
   refine X9.aN λw4 H4=>?_
   rw [aZ _ (by omega)]
   refine ih (i+1) s' (ks++[Rp]) w4 (by omega) (by simp [hlen]) (λk hk=>?_) H4
   rcases fW.1 hk with hk|hk
   .exact sH k hk
   .simp only [cU,qnM,or_false] at hk
    omega
  refine bL.m8 _ _ _ _ _ _ _ _ _ _ _ _ _ _ _ _ _ _ _ _ _ _ _ _ _ _ _ _ (aS (decide_eq_true (by omega)) (aK (λVV=>aK (λhx0=>?_) (λhx0=>S7 x w1 [] Ml UR H)) (λVV=>S7 x w1 [] Ml UR H)))
  obtain ⟨xn,rfl⟩:∃xn:Nat,x=(xn:Int):=⟨x.toNat,by omega⟩
  refine H.aL (Lm (cQ.1 (H.getD 0)) op xn (i:Int) m2 (by omega) hm) ?_
  rintro _ w2 ⟨t,rfl⟩ H2
  refine ⟨_,_,_,rfl,H2.bI λb16 w3 H3=>?_⟩
  have S6:∀(t:ir) (w4:World),LH F0 w w4 [.g b8,.g po,uh sl ks,.g b16] [.gr s l]->bL.xj s m2 k3 b8 0 ⟨none,0,0⟩ 0 0 0 (ByteArray.mk #[]) 0 0 0 po op sl n m u tx st.k st.n st.x (xn:Int) (many:Int) (i:Int) b16 t.k t.n t.x w4 λr w'=>r9 w r w'/\bF w w':=by
   intro t w4 H4
   have e5:IntKind.wrap .i64 (5 *(i:Int))=5 *(i:Int):=IntWalk.i64_in _ (by omega)
   have e6:IntKind.wrap .i64 (1+5 *(i:Int))=1+5 *(i:Int):=IntWalk.i64_in _ (by omega)
   refine ⟨by rw [e5,e6];omega,H4.aN λw5 H5=>H5.aL (FE (cQ.1 (H5.getD 0)) t _ (X1 _) (by unfold m9;exact hl)) ?_⟩
   rintro _ w6 ⟨z,rfl,NU,Mm⟩ H6
   exact ⟨_,rfl,S7 z w6 [] NU Mm (H6.take 3)⟩
  refine aJ (λho=>aJ (λh2=>?_) (λh2=>H3.aN λw4 H4=>S6 t w4 H4)) (λho=>H3.aN λw4 H4=>S6 t w4 H4)
  have hn:=rm (H3.get 2)
  have hg:ks[1]? =some (ks[1]'(by omega)):=g7 (by omega)
  have DT:=sH _ (dC hg)
  generalize ks[1]'(by omega)=kk at hg DT
  refine ⟨by omega,by omega,(rn (H3.get 2)).cell hg (j:=Int.toNat 1 *1) rfl λp hp _=>H3.aN λw4 H4=>?_⟩
  have Ao:l[kk.toNat]? =some (l[kk.toNat]'(by omega)):=g7 (by omega)
  generalize l[kk.toNat]'(by omega)=e at Ao
  have hc:w4.cell? (p.add (Int.toNat 1 *1))=some (.int .i64 kk):=by
   have:=(rn (H4.get 2)).cell hg (j:=Int.toNat 1 *1) rfl (K:=λq=>∃q',sl.a=some q'/\w4.cell? (q'.add (Int.toNat 1 *1))=some (.int .i64 kk)) (λq hq hc=>⟨q,hq,hc⟩)
   rw [hp] at this
   obtain ⟨q,hq,hc⟩:=this
   cases hq
   exact hc
  exact ⟨kk,hc,jM (cQ.1 (H4.getD 0)) (i:=kk.toNat) (by omega) Ao λq hq c=>⟨_,_,_,c.s0,c.s1,c.s2,H4.aN λw5 H5=>S6 e.x.st w5 H5⟩⟩
theorem JW (hn:nO n1) (hm:nO m2) (hk:nO k3) (hl:l.length<=m9) {op n m u:Int} {tx:ByteArray} {st:ir} (hd:Hh ⟨op,[],n,m,u,tx,st⟩) (x:Int) (Ml:0<=x) (UR:x<(l.length:Int)) (w1:World) (H:LH F0 w w1 [.g b8,.g po] [.gr s l]):
  bL.eY s n1 m2 k3 b8 0 ⟨none,0,0⟩ 0 0 0 (ByteArray.mk #[]) 0 0 0 po op ⟨none,0,0⟩ n m u tx st.k st.n st.x x w1 λr w'=>r9 w r w'/\bF w w':=by
 refine H.aL (K5 op w1) ?_
 rintro _ w2 rfl H2
 have hr:=D9 op
 have S4:∀(x:Int) (w3:World),-1<=x->x<(l.length:Int)->LH F0 w w3 [.g b8,.g po] [.gr s l]->bL.pj s m2 k3 b8 0 ⟨none,0,0⟩ 0 0 0 (ByteArray.mk #[]) 0 0 0 po op ⟨none,0,0⟩ n m u tx st.k st.n st.x x (eH op) w3 λr w'=>r9 w r w'/\bF w w':=by
  intro x w3 h1 h2 H3
  have H4:=H3.oL bW 1
  by_cases h0:eH op<0
  .refine bL.m8 _ _ _ _ _ _ _ _ _ _ _ _ _ _ _ _ _ _ _ _ _ _ _ _ _ _ _ _ (aM (decide_eq_false (by omega)) (H4.aN λw2 H2=>⟨⟨⟨⟨op,[],n,m,u,tx,st⟩,⟨none,0,0⟩⟩,rfl,hd,Rd.nil w2,λb hb=>by cases hb⟩,H2.fr⟩))
  .have e:eH op=(((eH op).toNat:Nat):Int):=by omega
   show bL.BF _ _ _ _ _ _ _ _ _ _ _ _ _ _ _ _ _ _ _ _ _ _ _ _ (eH op) 0 _ _
   rw [e]
   exact JV hm hk hl hd (eH op).toNat (by omega) x h1 h2 (eH op).toNat 0 ⟨none,0,0⟩ [] w3 (by omega) rfl (by simp) H4
 have S3:∀(x:Int) (w3:World),-1<=x->x<(l.length:Int)->LH F0 w w3 [.g b8,.g po] [.gr s l]->bL.hU s n1 m2 k3 b8 0 ⟨none,0,0⟩ 0 0 0 (ByteArray.mk #[]) 0 0 0 po op ⟨none,0,0⟩ n m u tx st.k st.n st.x x (eH op) w3 λr w'=>r9 w r w'/\bF w w':=by
  intro x w3 h1 h2 H3
  refine aJ (λho=>H3.aL (nR 8 w3) ?_) (λho=>S4 x w3 h1 h2 H3)
  rintro _ w4 rfl H4
  refine ⟨_,_,_,rfl,H4.aL (FE (cQ.1 (H4.getD 0)) (jH 8) _ (X1 _) hl) ?_⟩
  rintro _ w5 ⟨z,rfl,NU,Mm⟩ H5
  exact ⟨_,rfl,S4 z w5 NU Mm H5⟩
 refine ⟨_,rfl,aJ (λho=>H2.aL (nR 1 w2) ?_) (λho=>S3 x w2 (by omega) UR H2)⟩
 rintro _ w4 rfl H4
 refine ⟨_,_,_,rfl,H4.aL (FE (cQ.1 (H4.getD 0)) (jH 1) _ (X1 _) hl) ?_⟩
 rintro _ w5 ⟨z,rfl,NU,Mm⟩ H5
 exact ⟨_,rfl,S3 z w5 NU Mm H5⟩
end
def opsL:List Int:=[4,5,6,7,8,9,10,11,12,13,14,15,16,17,18,19,20,21,22,23,24,25,26,27,28,29,30,31,32,33,34,1,2,3,18,18,16,6,24,25]
theorem JX {i:Nat} {op:Int} (h:opsL[i]? =some op):1<=op/\op<=34:=by
 have h1:(opsL.all λx=>decide (1<=x)&&decide (x<=34))=true:=by decide
 have:=qaT.1 h1 op (dC h)
 simpa using this
def BA:List ByteArray:=[ba [],ba [97],ba [97,98],ba [98],ba [0],ba [97,97]]
theorem Kg {i:Nat} {t:ByteArray} (h:BA[i]? =some t):t.size<=16:=by
 have h1:(BA.all λx=>decide (x.size<=16))=true:=by decide
 have:=qaT.1 h1 t (dC h)
 simpa using this
theorem Ld {w:World} {s:Sl} {l:List Nd} (h:GP w s l) (hl0:1<=l.length) (hl:l.length<=m9) (hv:∀d∈l,bN d.x.st=true) (n1 m2 k3:Int) (hn:nO n1) (hm:nO m2) (hk:nO k3):
  Calls Tryz.prog iD #[s.v,.i n1,.i m2,.i k3] w λr w'=>r9 w r w'/\bF w w':=by
 have hs:=qq h
 refine bL.cT _ _ _ _ w _ ((ZZ h).bI λb8 w1 H1=>H1.nw λw2 _ H2=>H2.aL (fG n1 40 w2 (by omega) hn) ?_)
 have hr:=cI n1 40 (by omega)
 generalize dF n1 40=z at hr
 rintro _ w3 rfl H3
 obtain ⟨j,rfl⟩:∃j:Nat,z=(j:Int):=⟨z.toNat,by omega⟩
 have Ty:opsL[j]? =some (opsL[j]'(by show j<40;omega)):=g7 _
 have eJ:=JX Ty
 generalize opsL[j]'(by show j<40;omega)=op at Ty eJ
 have jK:fB w3 ⟨some (bD w1.heap.size),40,40⟩ opsL:=oh (T:=bW) (H3.ob 1) rfl
 refine ⟨_,rfl,by omega,by show (j:Int)<40;omega,jK.cell Ty (by omega) λp hp hc=>⟨op,hc,H3.bI λpo w4 H4=>H4.aN λw5 H5=>H5.aL (fG _ _ w5 (by omega) (X1 _)) ?_⟩⟩
 have hrx:=cI (IntKind.wrap .i64 (Int.tdiv n1 64)) ((s.n:Nat):Int) (by omega)
 generalize dF (IntKind.wrap .i64 (Int.tdiv n1 64)) ((s.n:Nat):Int)=x at hrx
 rintro _ w6 rfl H6
 have R:∀{n m u:Int} {tx:ByteArray} {st:ir} {w7:World},Hh ⟨op,[],n,m,u,tx,st⟩->LH F0 w w7 [.g b8,.g po] [.gr s l]->bL.eY s n1 m2 k3 b8 0 ⟨none,0,0⟩ 0 0 0 (ByteArray.mk #[]) 0 0 0 po op ⟨none,0,0⟩ n m u tx st.k st.n st.x x w7 λr w'=>r9 w r w'/\bF w w':=λhd H7=>JW hn hm hk hl hd x (by omega) (by omega) _ H7
 have H6:LH F0 w w6 [.g b8,.g po] [.gr s l]:=H6.sV [true,false,true]
 have em:ByteArray.mk #[]=ba []:=rfl
 have base:∀{n m u:Int} {tx:ByteArray} {st:ir},0<=n/\n<=100->0<=m/\m<=100->0<=u/\u<=1000->(op≠33->tx.size<=16)->(op=33->∃k,tx=ba (qm k))->Hh ⟨op,[],n,m,u,tx,st⟩:=λh1 h2 h3 h4 h5=>⟨by show -1<=op;omega,eJ.2,by simp,h1,h2,h3,h4,h5⟩
 have zz:(0:Int)<=0/\(0:Int)<=100:=by decide
 have z2:(0:Int)<=0/\(0:Int)<=1000:=by decide
 refine ⟨_,rfl,aJ (λh1=>?_) (λh1=>aJ (λh2=>?_) (λh2=>aJ (λh3=>?_) (λh3=>aJ (λh4=>?_) (λh4=>?_))))⟩
 .refine H6.aL (fG m2 3 w6 (by omega) hm) ?_
  have ZH:=cI m2 3 (by omega)
  generalize dF m2 3=v at ZH
  rintro _ w7 rfl H7
  refine ⟨_,rfl,?_⟩
  have S1:∀(wv:Int),1<=wv->wv<=7->bL.fY s n1 m2 k3 b8 0 ⟨none,0,0⟩ 0 0 0 (ByteArray.mk #[]) 0 0 0 po op ⟨none,0,0⟩ 0 0 0 (ByteArray.mk #[]) 0 0 0 x wv w7 λr w'=>r9 w r w'/\bF w w':=by
   intro wv h5 h6
   refine H7.aL (nR wv w7) ?_
   rintro _ w8 rfl H8
   have hc:∃c:Nat,(if 3<wv then (3:Int) else wv)=(c:Int)/\1<=c/\c<=3:=⟨(if 3<wv then (3:Int) else wv).toNat,by split<;>omega,by split<;>omega,by split<;>omega⟩
   obtain ⟨c,hc,c1,c2⟩:=hc
   rw [hc]
   have ec:IntKind.wrap .u64 (c:Int)=(c:Int):=IntWalk.u64_in _ (by omega)
   rw [ec]
   have ep:∃q:Int,IntKind.wrap .i64 (1 *2^min (Int.toNat (c:Int)) (IntKind.bits .i64))=q/\1<=q/\q<=8:=by
    have:c=1\/c=2\/c=3:=by omega
    rcases this with rfl|rfl|rfl
    .exact ⟨2,by decide,by decide,by decide⟩
    .exact ⟨4,by decide,by decide,by decide⟩
    .exact ⟨8,by decide,by decide,by decide⟩
   obtain ⟨q,eq,q1,q2⟩:=ep
   rw [eq]
   refine ⟨_,_,_,rfl,by omega,H8.aN λw9 H9=>H9.aL (fG k3 q w9 (by omega) hk) ?_⟩
   have hrq:=cI k3 q (by omega)
   generalize dF k3 q=a at hrq
   rintro _ pT rfl mg
   have ea:IntKind.wrap .u64 a=a:=IntWalk.u64_in _ (by omega)
   refine ⟨_,rfl,mg.aN λrQ qn=>?_⟩
   rw [ea]
   exact R (st:=jH wv) (base zz zz (by omega) (λ_=>by decide) (λh=>by omega)) qn
  have e1:IntKind.wrap .i64 (1+v)=1+v:=IntWalk.i64_in _ (by omega)
  show bL.dU s n1 m2 k3 b8 0 ⟨none,0,0⟩ 0 0 0 _ 0 0 0 po op ⟨none,0,0⟩ 0 0 0 _ 0 0 0 x (IntKind.wrap .i64 (1+v)) w7 _
  rw [e1]
  exact aJ (λ_=>S1 7 (by decide) (by decide)) (λ_=>S1 _ (by omega) (by omega))
 .refine H6.nw λw7 _ H7=>H7.aL (fG m2 6 w7 (by omega) hm) ?_
  have hr6:=cI m2 6 (by omega)
  generalize dF m2 6=v at hr6
  rintro _ w8 rfl H8
  obtain ⟨i,rfl⟩:∃i:Nat,v=(i:Int):=⟨v.toNat,by omega⟩
  have Q8:BA[i]? =some (BA[i]'(by show i<6;omega)):=g7 _
  have Fj:=Kg Q8
  generalize BA[i]'(by show i<6;omega)=t at Q8 Fj
  have jK:Rd w8 ⟨some (bD w6.heap.size),6,6⟩ (BA.map Value.string):=wc (T:=cF) (H8.ob 2) rfl
  refine ⟨_,rfl,by omega,by show (i:Int)<6;omega,Rd.get jK (i:=i) (v:=.string t) (by simp [Q8]) (by omega) λp hp hc=>⟨t,hc,H8.aN λw9 H9=>?_⟩⟩
  exact R (st:=ow) (base zz zz z2 (λ_=>Fj) (λh=>by omega)) (H9.take 2)
 .refine H6.nw λw7 _ H7=>H7.aL (fG m2 2 w7 (by omega) hm) ?_
  have DY:=cI m2 2 (by omega)
  generalize dF m2 2=v at DY
  rintro _ w8 rfl H8
  obtain ⟨i,rfl⟩:∃i:Nat,v=(i:Int):=⟨v.toNat,by omega⟩
  have Q8:([⟨2,2,1⟩,⟨3,1,1⟩]:List ir)[i]? =some (([⟨2,2,1⟩,⟨3,1,1⟩]:List ir)[i]'(by show i<2;omega)):=g7 _
  generalize ([⟨2,2,1⟩,⟨3,1,1⟩]:List ir)[i]'(by show i<2;omega)=t at Q8
  have jK:jJ 3 w8 ⟨some (bD w6.heap.size),2,2⟩ (([⟨2,2,1⟩,⟨3,1,1⟩]:List ir).flatMap o9):=td (T:=aR) (H8.ob 2) rfl
  obtain ⟨g1,g2,g3⟩:=eX jK rfl Q8 (K:=λp=>dD w8 (p.add (Int.toNat (i:Int) *3)) λa b c=>loc [b8,po] w8 λw9=>bL.eY s n1 m2 k3 b8 0 ⟨none,0,0⟩ 0 0 0 (ByteArray.mk #[]) 0 0 0 po op ⟨none,0,0⟩ 0 0 0 (ByteArray.mk #[]) a b c x w9 λr w'=>r9 w r w'/\bF w w') (λp hp c=>⟨_,_,_,c.c0,c.c1,c.c2,H8.aN λw9 H9=>R (st:=t) (base zz zz z2 (λ_=>by decide) (λh=>by omega)) (H9.take 2)⟩)
  exact ⟨_,rfl,g1,g2,g3⟩
 .obtain ⟨xn,rfl⟩:∃xn:Nat,x=(xn:Int):=⟨x.toNat,by omega⟩
  have hg:l[xn]? =some (l[xn]'(by omega)):=g7 (by omega)
  generalize l[xn]'(by omega)=e at hg
  have hve:=mF (hv e (dC hg))
  refine jM (cQ.1 (H6.getD 0)) rfl hg λp hp c=>⟨_,c.s1,H6.aL (fG m2 _ w6 (by split<;>omega) hm) ?_⟩
  have hr7:=cI m2 (if 1<e.x.st.n then e.x.st.n else 1) (by split<;>omega)
  generalize dF m2 (if 1<e.x.st.n then e.x.st.n else 1)=a at hr7
  have ha:a<64:=by
   have:=hr7.2
   split at this<;>omega
  rintro _ w7 rfl H7
  have e1:IntKind.wrap .i64 (a+1)=a+1:=IntWalk.i64_in _ (by omega)
  refine ⟨_,rfl,H7.aN λw8 H8=>H8.aL (fG k3 _ w8 (by rw [e1];omega) hk) ?_⟩
  rw [e1]
  have hr8:=cI k3 (a+1) (by omega)
  generalize dF k3 (a+1)=b at hr8
  rintro _ w9 rfl H9
  exact ⟨_,rfl,H9.aN λpT mg=>R (st:=ow) (base (by omega) (by omega) z2 (λ_=>by decide) (λh=>by omega)) mg⟩
 have S8:op≠33->bL.QI s n1 m2 k3 b8 0 ⟨none,0,0⟩ 0 0 0 (ByteArray.mk #[]) 0 0 0 po op ⟨none,0,0⟩ 0 0 0 (ByteArray.mk #[]) 0 0 0 x w6 λr w'=>r9 w r w'/\bF w w':=by
  intro n7
  refine H6.aL (fG m2 2 w6 (by omega) hm) ?_
  have DY:=cI m2 2 (by omega)
  generalize dF m2 2=v at DY
  rintro _ w7 rfl H7
  have e1:IntKind.wrap .i64 (1+v)=1+v:=IntWalk.i64_in _ (by omega)
  refine ⟨_,rfl,H7.aN λw8 H8=>?_⟩
  rw [e1]
  exact R (st:=ow) (base (by omega) zz z2 (λ_=>by decide) (λh=>absurd h n7)) H8
 refine aJ (λh5=>aS (beq_iff_eq.2 h5) (S8 (by omega))) (λh5=>aJ (λh6=>S8 (by omega)) (λh6=>aJ (λh7=>?_) (λh7=>aJ (λh8=>H6.aL (SN m2 hm w6) ?_) (λh8=>R (st:=ow) (base zz zz z2 (λ_=>by decide) (λh=>absurd h h8)) H6))))
 .refine H6.aL (fG m2 3 w6 (by omega) hm) ?_
  have DY:=cI m2 3 (by omega)
  generalize dF m2 3=v at DY
  rintro _ w7 rfl H7
  exact ⟨_,rfl,H7.aN λw8 H8=>R (st:=ow) (base (by omega) zz z2 (λ_=>by decide) (λh=>by omega)) H8⟩
 .rintro _ w7 ⟨k,rfl⟩ H7
  exact ⟨_,rfl,H7.aN λw8 H8=>R (st:=ow) (base zz zz z2 (λh=>absurd h8 h) (λ_=>⟨k,rfl⟩)) H8⟩
theorem Hh.ok {d:Nx} (h:Hh d):QD d:=by
 refine ⟨by have:=h.kl;unfold m9;omega,?_,?_,λn7=>?_⟩
 .have:=h.n
  exact ⟨by omega,by omega⟩
 .have:=h.m
  exact ⟨by omega,by omega⟩
 .obtain ⟨k,hk⟩:=h.re n7
  rw [hk]
  refine ⟨?_,true,Lq k⟩
  rw [cD]
  have:=E1 k
  omega
theorem I5.ok {g:List Nx} (h:I5 g) (hl:g.length<=m9):U4 g:=⟨hl,h.vg.val,h.vg.vars⟩
theorem N9 (g:List Nx) (n:Nx):(nf g n).1.length<=g.length+1:=by
 unfold nf
 split
 .simp
 .split
  .simp
  .split
   .simp
   .simp
theorem Fy {g:List Nx} {n:Nx} (h:(nf g n).2.2=0):(eU g n).2=0/\∃k:Nat,(nf g n).2.1=(k:Int)/\(nf g n).1[k]? =some (jb n (eU g n).1)/\((nf g n).1=g\/(jb n (eU g n).1∉g/\(nf g n).1=g++[jb n (eU g n).1]/\k=g.length)):=by
 unfold nf at h ⊢
 split at h
 .rename_i h0
  exact absurd h h0
 rename_i h0
 have h0:(eU g n).2=0:=by omega
 refine ⟨h0,?_⟩
 rw [if_neg (by omega)]
 cases hi:mU (jb n (eU g n).1) g 0 with
 |some i=>
  have:=sI hi
  rw [Nat.sub_zero] at this
  exact ⟨i,rfl,this.2,.inl rfl⟩
 |none=>
  rw [hi] at h
  dsimp only at h ⊢
  split at h
  .cases h
  .rename_i h4
   rw [if_neg h4]
   exact ⟨g.length,rfl,by simp,.inr ⟨vn hi,rfl,rfl⟩⟩
theorem SB {g:List Nx} {n:Nx} (hg:Vg g) (h:(nf g n).2.2=0):Vg (nf g n).1:=by
 obtain ⟨h0,k,_,_,h3⟩:=Fy h
 rcases h3 with h3|⟨h4,h5,_⟩
 .rw [h3];exact hg
 .rw [h5]
  exact .snoc hg (y7 (by rw [<-h0])) h4
theorem Sz {g:List Nx} {n:Nx} (hg:I5 g) (hn:Hh n) (h:(nf g n).2.2=0):I5 (nf g n).1:=by
 refine ⟨SB hg.vg h,λd hd=>?_⟩
 obtain ⟨h0,k,_,_,h3⟩:=Fy h
 rcases h3 with h3|⟨h4,h5,_⟩
 .rw [h3] at hd;exact hg.nd d hd
 .rw [h5] at hd
  rcases fW.1 hd with hd|hd
  .exact hg.nd d hd
  .simp only [cU,qnM,or_false] at hd
   subst hd
   exact ⟨hn.Z7,hn.Z8,hn.kl,hn.n,hn.m,hn.u,hn.tx,hn.re⟩
theorem I5.kl {l:List Nd} (h:I5 (xs l)):∀e∈l,e.x.kids.length<=m9:=λe he=>by
 have:=(h.nd e.x (o8.2 ⟨e,he,rfl⟩)).kl
 unfold m9
 omega
def AD (w:World) (rY:Nat) (r:Ending) (w':World):Prop:=∃(s:Sl) (l:List Nd),r=.returned s.v/\I5 (xs l)/\1<=l.length/\l.length<=10+rY/\GP w' s l/\∀b∈(En.gr s l).fp,w.heap.size<=b
theorem SK {w:World} {ls:Sl} {ns:List Int} (hr:fB w ls ns) (OY:∀x∈ns,nO x) (hnl:ns.length<=9223372036854775807) (kind:Int) (rY:Nat) (hm:rY<=1000):
  Calls Tryz.prog kE #[ls.v,.i kind,.i (rY:Int)] w λr w'=>AD w rY r w'/\bF w w':=by
 have hn:=fB.len hr
 have loop:∀(m i:Nat) (gs:Sl) (l:List Nd) (w1:World),i+m=rY->I5 (xs l)->1<=l.length->l.length<=10+i->(∀b∈(En.gr gs l).fp,w.heap.size<=b)->LH F0 w w1 [] [.rd ls (ns.map ia),.gr gs l]->
   enthymemeref07_Made.dY ls kind (rY:Int) gs ((3 *i:Nat):Int) w1 λr w'=>AD w rY r w'/\bF w w':=by
  intro m
  have e3:IntKind.wrap .i64 (3 *(rY:Int))=3 *(rY:Int):=IntWalk.i64_in _ (by omega)
  induction m with
  |zero=>
   intro i gs l w1 hi hg h1 h2 hf H
   have fin:enthymemeref07_Made.hU gs w1 λr w'=>AD w rY r w'/\bF w w':=⟨⟨gs,l,rfl,hg,h1,by omega,cQ.1 (H.getD 1),hf⟩,H.fr⟩
   exact enthymemeref07_Made.aY _ _ _ _ _ _ _ (aK (λ_=>aM (decide_eq_false (by rw [e3];omega)) fin) (λ_=>fin))
  |succ m ih=>
   intro i gs l w1 hi hg h1 h2 hf H
   have fin:enthymemeref07_Made.hU gs w1 λr w'=>AD w rY r w'/\bF w w':=⟨⟨gs,l,rfl,hg,h1,by omega,cQ.1 (H.getD 1),hf⟩,H.fr⟩
   have w1':IntKind.wrap .i64 (((3 *i:Nat):Int)+1)=((3 *i+1:Nat):Int):=IntWalk.i64_in _ (by omega)
   have w2':IntKind.wrap .i64 (((3 *i:Nat):Int)+2)=((3 *i+2:Nat):Int):=IntWalk.i64_in _ (by omega)
   have w3':IntKind.wrap .i64 (((3 *i:Nat):Int)+3)=((3 *(i+1):Nat):Int):=IntWalk.i64_in _ (by omega)
   have next:∀(UJ:Sl) (l':List Nd) (w5:World),I5 (xs l')->1<=l'.length->l'.length<=10+(i+1)->(∀b∈(En.gr UJ l').fp,w.heap.size<=b)->LH F0 w w5 [] [.rd ls (ns.map ia),.gr UJ l']->enthymemeref07_Made.eY ls kind (rY:Int) UJ ((3 *i:Nat):Int) w5 λr w'=>AD w rY r w'/\bF w w':=by
    intro UJ l' w5 g1 g2 g3 g4 H5
    show enthymemeref07_Made.dY ls kind (rY:Int) UJ (IntKind.wrap .i64 (((3 *i:Nat):Int)+3)) w5 _
    rw [w3']
    exact ih (i+1) UJ l' w5 (by omega) g1 g2 g3 g4 H5
   have S1:∀(b9:Nat) (d:Nd) (w3:World) (L:List En),En.g b9∈L->Hh d.x->d.P w3->(∀b∈bA d.ks,w.heap.size<=b)->LH F0 w w3 L [.rd ls (ns.map ia),.gr gs l,fF d]->enthymemeref07_Made.fY ls kind (rY:Int) gs ((3 *i:Nat):Int) b9 d.x.op d.ks d.x.n d.x.m d.x.u d.x.tx d.x.st.k d.x.st.n d.x.st.x w3 λr w'=>AD w rY r w'/\bF w w':=by
    intro b9 d w3 L hb9 hd pd fd H3
    have nN:(xs l).length=l.length:=by simp [xs]
    have H3:LH F0 w w3 [] [.rd ls (ns.map ia),.gr gs l,fF d]:=H3.take 0
    refine nS ((SU (cQ.1 (H3.getD 1)) pd (hg.ok (by rw [nN];unfold m9;omega)) hd.ok hg.kl).mono ?_)
    rintro _ w4 ⟨⟨s',rfl,⟨l',Mk,G',F'⟩⟩,f4⟩
    have rW:∀b∈(En.gr s' l').fp,w.heap.size<=b:=λb hb=>by
     rcases F' b hb with (h|h)|h
     .exact hf b h
     .exact Bp fd b h
     .exact Nat.le_trans H3.fr.size h
    have H4:=H3.ot f4
    have H4':LH F0 w w4 [] [.rd ls (ns.map ia),.gr s' l']:=(H3.oe (.gr s' l') f4 (cQ.2 G') (λb hb=>by
     rcases F' b hb with (h|h)|h
     .exact .inr (.inr ⟨_,dC (i:=1) rfl,h⟩)
     .exact .inr (.inr ⟨_,dC (i:=2) rfl,h⟩)
     .exact .inl h)).forget _ (by simp)
    have U6:∀{w6:World},LH F0 w w6 [] [.rd ls (ns.map ia),.gr gs l,fF d]->LH F0 w w6 [] [.rd ls (ns.map ia),.gr gs l]:=λH=>H.forget _ (by simp)
    refine ⟨f4,_,_,_,rfl,aJ (λh0=>?_) (λh0=>next gs l w4 hg h1 (by omega) hf (U6 H4))⟩
    obtain ⟨_,k,DT,sG,_⟩:=Fy h0
    have V4:I5 (xs l'):=by rw [Mk];exact Sz hg hd h0
    have A8:l'.length<=10+(i+1):=by
     have:=N9 (xs l) d.x
     rw [<-Mk] at this
     simp only [xs,List.length_map] at this
     omega
    rw [<-Mk] at sG
    have TB:k<l'.length:=by
     have:=(nP.1 sG).1
     simpa [xs] using this
    have Ao:l'[k]? =some (l'[k]'TB):=g7 TB
    generalize l'[k]'TB=e at Ao
    rw [DT]
    refine jM (cQ.1 (H4'.getD 1)) rfl Ao λp hp c=>⟨_,_,_,c.s0,c.s1,c.s2,?_⟩
    refine nS ((FL kind e.x.st w4).mono ?_)
    rintro _ w5 ⟨⟨b,rfl⟩,f5⟩
    have H5:=H4'.ot f5
    have Ya:=U6 (H4.ot f5)
    refine ⟨f5,_,rfl,bB (λ_=>?_) (λ_=>next gs l w5 hg h1 (by omega) hf Ya)⟩
    refine jM (cQ.1 (H5.getD 1)) rfl Ao λp' HX c'=>⟨_,c'.s1,aK (λ_=>?_) (λ_=>next gs l w5 hg h1 (by omega) hf Ya)⟩
    have Mj:∀(i:Nat) (d:Nd),l'[i]? =some d->d.x.kids.length<=1000000/\∀k∈d.x.kids,0<=k/\k<(i:Int):=λi d hd=>by
     have QV:=uz hd
     have:=(V4.nd d.x (dC QV)).kl
     exact ⟨by omega,V4.vg.kids QV⟩
    refine nS ((Ll (cQ.1 (H5.getD 1)) Mj (k+1) k (by omega) TB w5 (Fr.refl _ _)).mono ?_)
    rintro _ w6 ⟨⟨z,rfl⟩,f6⟩
    have f6:bF w5 w6:=f6
    exact ⟨f6,_,rfl,aK (λ_=>next s' l' w6 V4 (by omega) A8 rW (H5.ot f6)) (λ_=>next gs l w6 hg h1 (by omega) hf (Ya.ot f6))⟩
   refine enthymemeref07_Made.aY _ _ _ _ _ _ _ ?_
   rw [w1',w2',e3]
   refine aK (λlC=>aS (decide_eq_true (by omega)) (H.dr λw2 H2=>?_)) (λ_=>fin)
   have YQ:fB w2 ls ns:=H2.getD 0
   have g0:ns[3 *i]? =some (ns[3 *i]'(by omega)):=g7 (by omega)
   have g1:ns[3 *i+1]? =some (ns[3 *i+1]'(by omega)):=g7 (by omega)
   have g2:ns[3 *i+2]? =some (ns[3 *i+2]'(by omega)):=g7 (by omega)
   generalize ns[3 *i]'(by omega)=x0 at g0
   generalize ns[3 *i+1]'(by omega)=x1 at g1
   generalize ns[3 *i+2]'(by omega)=x2 at g2
   refine ⟨by omega,by omega,YQ.cell g0 (by omega) λp0 ZA c0=>⟨x0,c0,by omega,by omega,YQ.cell g1 (by omega) λp1 hp1 c1=>⟨x1,c1,by omega,by omega,YQ.cell g2 (by omega) λp2 ZB c2=>⟨x2,c2,?_,?_⟩⟩⟩⟩
   .have N:=Ld (cQ.1 (H2.getD 1)) h1 (by unfold m9;omega) (λd hd=>hg.vg.val d.x (o8.2 ⟨d,hd,rfl⟩)) x0 x1 x2 (OY _ (dC g0)) (OY _ (dC g1)) (OY _ (dC g2))
    refine H2.Dm N ?_
    rintro _ w3 ⟨d,rfl,hd,pd,fd⟩ _ F3
    have H3:=F3.rd (fF d) pd (Bp fd)
    refine ⟨_,_,_,_,_,_,_,_,_,rfl,H3.bI λb9 w4 H4=>H4.aN λw5 H5=>?_⟩
    exact S1 b9 d w5 _ (by simp) hd (H5.getD 2) (λb hb=>Nat.le_trans H2.fr.size (fd b hb)) H5
   .refine H2.bI λb9 w3 H3=>?_
    have h3n:fB w3 ls ns:=H3.getD 0
    have again:∀{j:Nat} {x:Int} {p:Addr} {X:Nat},ns[j]? =some x->ls.a=some p->X=j *1->w3.cell? (p.add X)=some (.int .i64 x):=by
     intro j x p X hg hp hX
     have:=h3n.cell hg hX (K:=λq=>∃q',ls.a=some q'/\w3.cell? (q'.add X)=some (.int .i64 x)) (λq hq hc=>⟨q,hq,hc⟩)
     rw [hp] at this
     obtain ⟨q,hq,hc⟩:=this
     cases hq
     exact hc
    have N:=Ld (cQ.1 (H3.getD 1)) h1 (by unfold m9;omega) (λd hd=>hg.vg.val d.x (o8.2 ⟨d,hd,rfl⟩)) x0 x1 x2 (OY _ (dC g0)) (OY _ (dC g1)) (OY _ (dC g2))
    refine ⟨again g2 ZB (by omega),again g1 hp1 (by omega),again g0 ZA (by omega),H3.ss N ?_⟩
    rintro _ w4 ⟨d,rfl,hd,pd,fd⟩ _ F4
    have H4:=F4.rd (fF d) pd (Bp fd)
    refine ⟨_,_,_,_,_,_,_,_,_,rfl,H4.aN λw5 H5=>?_⟩
    exact S1 b9 d w5 _ (by simp) hd (H5.getD 2) (λb hb=>Nat.le_trans H3.fr.size (fd b hb)) H5
 refine enthymemeref07_Made.cT _ _ _ w _ ((Oo kind w).mono ?_)
 rintro _ w1 ⟨⟨s,rfl,⟨l,hl,G,F⟩⟩,f1⟩
 have hlen:=Kb kind
 have TC:l.length=(jF kind).length:=by
  have:=congrArg List.length hl
  simpa [xs] using this
 have rW:∀b∈(En.gr s l).fp,w.heap.size<=b:=λb hb=>(F b hb).resolve_left id
 have H:LH F0 w w [] [.rd ls (ns.map ia)]:=mf _ (by
  intro e he
  simp only [cU,qnM,or_false] at he
  subst he
  exact hr)
 have H1:=H.oe (.gr s l) f1 (cQ.2 G) (λb hb=>.inl (rW b hb))
 exact ⟨s,rfl,loop rY 0 s l w1 (by omega) (by rw [hl];exact Nh kind) (by omega) (by omega) rW H1⟩
end Go.Proofs.YtcifihepfadgfaaGreatDoor
