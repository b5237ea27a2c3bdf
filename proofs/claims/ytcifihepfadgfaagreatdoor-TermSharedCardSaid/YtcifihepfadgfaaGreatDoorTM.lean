import Derived.Test.YtcifihepfadgfaaGreatDoorTP
import Derived.Test.YtcifihepfadgfaaGreatDoorT1
set_option linter.unusedVariables false
set_option maxRecDepth 100000
set_option maxHeartbeats 1000000
namespace Go.Proofs.YtcifihepfadgfaaGreatDoor
open List renaming mem_append->fW,mem_cons->cU,not_mem_nil->qnM,mem_of_getElem?->cZ,getElem?_eq_getElem->gW,getElem?_eq_some_iff->oN,mem_map->oT,all_eq_true->qaT
open Go Go.W
theorem fE (n m:Int) (w:World) (hm:1<=m) (h:ow n):Calls Tryz.prog aS #[.i n,.i m] w λr w'=>r=.returned (.i (dG n m))/\bI w w':=(yj n m w hm h).mono λr w' h=>⟨h.1,h.2▸Fr.refl _ _⟩
def Hi (t:List UInt8) (s:ik):Nx:=⟨0,[],0,0,0,ba t,s⟩
def xS (t:List UInt8) (s:ik):Nd:=⟨Hi t s,⟨none,0,0⟩⟩
def sV:List Nd:=[xS [97] (jJ 2),xS [98] (jJ 2),xS [99] (jJ 1),xS [100] (jJ 3)]
def sW:List Nd:=[xS [109] ⟨2,2,1⟩,xS [110] ⟨2,2,1⟩]
def pO:List Nd:=[xS [115] (mZ 2),xS [116] (mZ 1),xS [105] (jJ 7),xS [122] ⟨3,1,1⟩]
def jH (kind:Int):List Nd:=sV++(if kind>0 then sW else [])++(if kind>1 then pO else [])
def vgB (l:List Nx):Bool:=(List.range l.length).all λi=>match l[i]? with
 |some n=>decide (eI (l.take i) n=(n.st,0))&&decide (n∉l.take i)
 |none=>false
theorem I5 {l:List Nx} (h:vgB l=true):Vg l:=by
 have main:∀i,i<=l.length->Vg (l.take i):=by
  intro i
  induction i with
  |zero=>intro _;rw [List.take_zero];exact .nil
  |succ i ih=>
   intro hi
   have h1:=qaT.1 h i (List.mem_range.2 (by omega))
   have hg:l[i]? =some (l[i]'(by omega)):=gW (by omega)
   rw [hg] at h1
   dsimp only at h1
   rw [List.take_add_one,hg]
   simp only [Bool.and_eq_true,decide_eq_true_eq] at h1
   exact .snoc (ih (by omega)) h1.1 h1.2
 have:=main l.length (Nat.le_refl _)
 rwa [List.take_length] at this
theorem Nt (kind:Int):Vg (xs (jH kind)):=by
 unfold jH
 split
 .split
  .exact I5 (by kernel_rfl)
  .exact I5 (by kernel_rfl)
 .split
  .exact I5 (by kernel_rfl)
  .exact I5 (by kernel_rfl)
structure CR (d:Nx):Prop where
 op1:-1<=d.op
 op2:d.op<=34
 kl:d.kids.length<=3
 n:0<=d.n/\d.n<=100
 m:0<=d.m/\d.m<=100
 u:0<=d.u/\d.u<=1000
 tx:d.op≠33->d.tx.size<=16
 re:d.op=33->∃k,d.tx=ba (qj k)
structure xH (g:List Nx):Prop where
 vg:Vg g
 nd:∀d∈g,CR d
theorem Ns (kind:Int):xH (xs (jH kind)):=by
 refine ⟨Nt kind,λd hd=>?_⟩
 have h:∃t s,d=Hi t s/\t.length<=16:=by
  have h1:d∈xs (sV++sW++pO):=by
   obtain ⟨a,ha,rfl⟩:=oT.1 hd
   refine oT.2 ⟨a,?_,rfl⟩
   unfold jH at ha
   rcases fW.1 ha with ha|ha
   .rcases fW.1 ha with ha|ha
    .simp [ha]
    .split at ha
     .simp [ha]
     .cases ha
   .split at ha
    .simp [ha]
    .cases ha
  simp only [xs,sV,sW,pO,xS,List.cons_append,List.nil_append,List.map_cons,List.map_nil,cU,qnM,or_false] at h1
  rcases h1 with rfl|rfl|rfl|rfl|rfl|rfl|rfl|rfl|rfl|rfl<;>exact ⟨_,_,rfl,by decide⟩
 obtain ⟨t,s,rfl,ht⟩:=h
 exact ⟨by show (-1:Int)<=0;omega,by show (0:Int)<=34;omega,by simp [Hi],by simp [Hi],by simp [Hi],by simp [Hi],λ_=>by show (ba t).size<=16;rw [cE];exact ht,λh=>by cases h⟩
theorem xC {kind:Int}:∀d∈jH kind,d.x.kids=[]/\d.ks=⟨none,0,0⟩:=by
 intro d hd
 have h1:d∈sV++sW++pO:=by
  unfold jH at hd
  rcases fW.1 hd with ha|ha
  .rcases fW.1 ha with ha|ha
   .simp [ha]
   .split at ha
    .simp [ha]
    .cases ha
  .split at ha
   .simp [ha]
   .cases ha
 simp only [sV,sW,pO,xS,Hi,List.cons_append,List.nil_append,cU,qnM,or_false] at h1
 rcases h1 with rfl|rfl|rfl|rfl|rfl|rfl|rfl|rfl|rfl|rfl<;>exact ⟨rfl,rfl⟩
theorem Nr {kind:Int} {w w0:World} {s:Sl} (h:jO 9 w s ((jH kind).flatMap Nd.c)) (hf:∀b∈bC s,w0.heap.size<=b):GR w0 F0 (xs (jH kind)) s w:=by
 refine ⟨jH kind,rfl,⟨h,λd hd=>?_⟩,λb hb=>.inr ?_⟩
 .obtain ⟨h1,h2⟩:=xC d hd
  show fB w d.ks d.x.kids
  rw [h1,h2]
  exact Rd.nil w
 .rcases tC.1 hb with hb|⟨d,hd,hb⟩
  .exact Cq hf b hb
  .obtain ⟨h1,h2⟩:=xC d hd
   unfold gv at hb
   rw [h1] at hb
   cases hb
theorem Kf (kind:Int):1<=(jH kind).length/\(jH kind).length<=10:=by
 unfold jH
 split<;>split<;>decide
theorem OA (kind:Int) (w:World):Calls Tryz.prog j9 #[.i kind] w λr w'=>(∃s:Sl,r=.returned s.v/\GR w F0 (xs (jH kind)) s w')/\bI w w':=by
 refine enthymemeref07_start.ok kind w _ ((mu [] (by simp)).call (nP 2 w) ?_)
 rintro _ w1 rfl H1
 refine ⟨_,_,_,rfl,H1.call (nP 2 w1) ?_⟩
 rintro _ w2 rfl H2
 refine ⟨_,_,_,rfl,H2.call (nP 1 w2) ?_⟩
 rintro _ w3 rfl H3
 refine ⟨_,_,_,rfl,H3.call (nP 3 w3) ?_⟩
 rintro _ w4 rfl H4
 refine ⟨_,_,_,rfl,H4.iH (n:=4) (sz:=9) (cs:=sV.flatMap Nd.c) rfl (by decide) λw5 H5=>?_⟩
 have fin:∀(l:Sl) (w6:World) (L:List En) (j:Nat),LH F0 w w6 L []->L[j]? =some (.row aG 9 l ((jH kind).flatMap Nd.c))->(∃s:Sl,Ending.returned l.v=.returned s.v/\GR w F0 (xs (jH kind)) s w6)/\bI w w6:=λl w6 L j H6 hj=>
  ⟨⟨l,rfl,Nr (H6.get j hj:aP _ _ _ _ _).jh λb hb=>(H6.new _ (cZ hj) b hb).resolve_right id⟩,H6.fr⟩
 have S0:∀(l:Sl) (w6:World) (L:List En) (j:Nat) (ds:List Nd),LH F0 w w6 L []->ds.length<=6->jH kind=ds++(if kind>1 then pO else [])->L[j]? =some (.row aG 9 l (ds.flatMap Nd.c))->enthymemeref07_start.S0 kind l w6 λr w'=>(∃s:Sl,r=.returned s.v/\GR w F0 (xs (jH kind)) s w')/\bI w w':=by
  intro l w6 L j ds H6 hds he hj
  refine aM (λh1=>?_) (λh1=>?_)
  .rw [if_pos h1] at he
   refine H6.call (lG 2 w6) ?_
   rintro _ w7 rfl H7
   refine ⟨_,_,_,rfl,H7.call (lG 1 w7) ?_⟩
   rintro _ w8 rfl H8
   refine ⟨_,_,_,rfl,H8.call (nP 7 w8) ?_⟩
   rintro _ w9 rfl H9
   refine ⟨_,_,_,rfl,H9.iH (n:=4) (sz:=9) (cs:=pO.flatMap Nd.c) rfl (by decide) λpR m8=>?_⟩
   have V8:(L++[En.row aG 9 ⟨some (bF w9.heap.size),4,4⟩ (pO.flatMap Nd.c)])[j]? =some (.row aG 9 l (ds.flatMap Nd.c)):=by
    rw [List.getElem?_append_left (oN.1 hj).1];exact hj
   have Rl:(L++[En.row aG 9 ⟨some (bF w9.heap.size),4,4⟩ (pO.flatMap Nd.c)])[L.length]? =some (.row aG 9 ⟨some (bF w9.heap.size),4,4⟩ (pO.flatMap Nd.c)):=by simp
   have hn:l.n=ds.length:=by
    have:=(m8.get j V8:aP _ _ _ _ _).len
    rw [Nd.iL] at this
    omega
   have D8:jO 9 pR ⟨some (bF w9.heap.size),4,4⟩ (pO.flatMap Nd.c):=(m8.get L.length Rl:aP _ _ _ _ _).jh
   refine m8.ap j nh (src:=⟨some (bF w9.heap.size),4,4⟩) V8 D8.2.2 D8.1 sL (by simp only;omega) (λs' rO qB _ _=>?_)
   refine fin s' rO _ j qB ?_
   rw [List.getElem?_set_self (by simp;have:=(oN.1 hj).1;omega),he,List.flatMap_append]
  .rw [if_neg h1,List.append_nil] at he
   rw [<-he] at hj
   exact fin l w6 L j H6 hj
 refine aM (λh0=>H5.iH (n:=2) (sz:=9) (cs:=sW.flatMap Nd.c) rfl (by decide) λw6 H6=>?_) (λh0=>?_)
 .have D8:jO 9 w6 ⟨some (bF w5.heap.size),2,2⟩ (sW.flatMap Nd.c):=(H6.get 1:aP _ _ _ _ _).jh
  refine H6.ap 0 nh (s:=⟨some (bF w4.heap.size),4,4⟩) (src:=⟨some (bF w5.heap.size),2,2⟩) rfl D8.2.2 D8.1 sL (by show (4+2) *96<=_;omega) (λs' w7 H7 _ _=>?_)
  refine S0 s' w7 _ 0 (sV++sW) H7 (by decide) ?_ ?_
  .unfold jH;rw [if_pos h0]
  .rw [List.flatMap_append];rfl
 .refine S0 ⟨some (bF w4.heap.size),4,4⟩ w5 _ 0 sV H5 (by decide) ?_ rfl
  unfold jH;rw [if_neg h0,List.append_nil]
theorem FY (kind:Int) (s:ik) (w:World):Calls Tryz.prog jE #[.i kind,kj s] w λr w'=>(∃b:Bool,r=.returned (.bool b))/\bI w w':=
 enthymemeref07_within.cV _ _ _ _ w _ ((mu [] (by simp)).bJ λb w1 H1=>aH (λh=>⟨⟨_,rfl⟩,H1.fr⟩) (λh=>aM (λh=>aH (λh=>⟨⟨_,rfl⟩,H1.fr⟩) (λh=>⟨⟨_,rfl⟩,H1.fr⟩)) (λh=>⟨⟨_,rfl⟩,H1.fr⟩)))
theorem Lr {w:World} {s:Sl} {l:List Nd} (h:GP w s l) (hk:∀(i:Nat) (d:Nd),l[i]? =some d->d.x.kids.length<=1000000/\∀k∈d.x.kids,0<=k/\k<(i:Int)):∀(n i:Nat),i<n->i<l.length->∀w1,bI w w1->Calls Tryz.prog iD #[s.v,.i (i:Int)] w1 λr w'=>(∃z:Int,r=.returned (.i z))/\bI w w'
 |0,i,hi,_,_,_=>absurd hi (by omega)
 |n+1,i,hi,hl,w1,f1=>by
  have G:∀{w2:World},bI w w2->GP w2 s l:=λf=>⟨h.1.oR f,λd hd=>(gv d).st w _ (λb hb l6=>f.gV b l6 id) (h.2 d hd)⟩
  have hg:l[i]? =some (l[i]'hl):=gW hl
  generalize l[i]'hl=d at hg
  obtain ⟨k1,k2⟩:=hk i d hg
  have loop:∀(m j:Nat) (z:Int) (w2:World),j+m=d.x.kids.length->bI w w2->enthymemeref07_size.L0 s (i:Int) z (j:Int) w2 λr w'=>(∃z:Int,r=.returned (.i z))/\bI w w':=by
   intro m
   induction m with
   |zero=>
    intro j z w2 hj f2
    have hn:d.ks.n=d.x.kids.length:=fB.len ((G f2).2 d (cZ hg))
    exact enthymemeref07_size.cF _ _ _ _ _ _ (kO (G f2) rfl hg λp hp c=>⟨_,c.c1,aL (decide_eq_false (by omega)) ⟨⟨_,rfl⟩,f2⟩⟩)
   |succ m ih=>
    intro j z w2 hj f2
    have hd2:fB w2 d.ks d.x.kids:=(G f2).2 d (cZ hg)
    have hn:=fB.len hd2
    have Cb:d.x.kids[j]? =some (d.x.kids[j]'(by omega)):=gW (by omega)
    generalize d.x.kids[j]'(by omega)=k at Cb
    have TH:=k2 k (cZ Cb)
    refine enthymemeref07_size.cF _ _ _ _ _ _ (kO (G f2) rfl hg λp hp c=>⟨_,c.c1,aQ (decide_eq_true (by omega)) (kO (G f2) rfl hg λp' Ic c'=>⟨_,c'.c1,by omega,by omega,hd2.cell Cb (by omega) λq hq hc=>⟨k,hc,?_⟩⟩)⟩)
    have ek:k=((k.toNat:Nat):Int):=by omega
    rw [ek]
    refine (Lr h hk n k.toNat (by omega) (by omega) w2 f2).mono ?_
    rintro _ w3 ⟨⟨z3,rfl⟩,f3⟩
    refine ⟨_,rfl,?_⟩
    show enthymemeref07_size.L0 s (i:Int) _ (IntKind.wrap .i64 ((j:Int)+1)) w3 _
    rw [aY _ (by omega)]
    exact ih (j+1) _ w3 (by omega) f3
  exact enthymemeref07_size.ok _ _ w1 _ (loop d.x.kids.length 0 1 w1 (by omega) f1)
theorem Z4 {w:World} {s:Sl} {l:List Nd} (h:GP w s l):LH F0 w w [] [.gr s l]:=mu _ (by
 intro e he
 simp only [cU,qnM,or_false] at he
 subst he
 exact cH.2 h)
abbrev ug (s:Sl) (l:List Int):En:=.row bW 1 s (l.map jm)
theorem rp {w:World} {s:Sl} {l:List Int} (h:aP w bW 1 s (l.map jm)):fB w s l:=h.rd1
theorem rn {w:World} {s:Sl} {l:List Int} (h:aP w bW 1 s (l.map jm)):s.n=l.length:=by
 have:=h.len
 simp at this
 omega
theorem FP {w:World} {s:Sl} {l:List Nd} (h:GP w s l) (t:ik) (n:Int) (hn:ow n) (hl:l.length<=kC):
  Calls Tryz.prog gE #[s.v,kj t,.i n] w λr w'=>(∃z:Int,r=.returned (.i z)/\-1<=z/\z<(l.length:Int))/\bI w w':=by
 have hs:=mX h
 unfold kC at hl
 have loop:∀(m i:Nat) (l7:Sl) (ks:List Int) (b4:Nat) (w1:World),i+m=l.length->ks.length<=i->(∀k∈ks,0<=k/\k<(l.length:Int))->LH F0 w w1 [.g b4,ug l7 ks] [.gr s l]->
   enthymemeref07_Like.eH s n b4 t.k t.n t.x l7 (i:Int) w1 λr w'=>(∃z:Int,r=.returned (.i z)/\-1<=z/\z<(l.length:Int))/\bI w w':=by
  intro m
  induction m with
  |zero=>
   intro i l7 ks b4 w1 hi O3 sF H
   have hlen:=rn (H.get 1)
   refine enthymemeref07_Like.bA _ _ _ _ _ _ _ _ _ _ (aL (decide_eq_false (by omega)) (aH (λh0=>⟨⟨_,rfl,by omega,by omega⟩,H.fr⟩) (λh0=>H.aJ (fE n _ w1 (by omega) hn) ?_)))
   have hr:=cR n ((l7.n:Nat):Int) (by omega)
   generalize dG n ((l7.n:Nat):Int)=z at hr
   rintro _ w2 rfl H2
   obtain ⟨j,rfl⟩:∃j:Nat,z=(j:Int):=⟨z.toNat,by omega⟩
   have hg:ks[j]? =some (ks[j]'(by omega)):=gW (by omega)
   have hk:=sF _ (cZ hg)
   exact ⟨_,rfl,by omega,by omega,(rp (H2.get 1)).cell hg (by omega) λp hp hc=>⟨_,hc,⟨⟨_,rfl,by omega,by omega⟩,H2.fr⟩⟩⟩
  |succ m ih=>
   intro i l7 ks b4 w1 hi O3 sF H
   have hg:l[i]? =some (l[i]'(by omega)):=gW (by omega)
   generalize l[i]'(by omega)=d at hg
   have hlen:=rn (H.get 1)
   refine enthymemeref07_Like.bA _ _ _ _ _ _ _ _ _ _ (aQ (decide_eq_true (by omega)) (kO (cH.1 (H.getD 0)) rfl hg λp hp _=>H.aK λw2 H2=>?_))
   have c:=sD (cH.1 (H2.getD 0)) hg hp (rfl:((i:Int))=(i:Int))
   refine ⟨_,_,_,c.s0,c.s1,c.s2,nG (a:=d.x.st) (b:=t) (λhe=>?_) (λhe=>?_)⟩
   .refine H2.tR 1 uW rfl (λs' w3 H3=>?_) (by omega)
    show enthymemeref07_Like.eH s n b4 t.k t.n t.x s' (IntKind.wrap .i64 ((i:Int)+1)) w3 _
    rw [aY _ (by omega)]
    refine ih (i+1) s' (ks++[(i:Int)]) b4 w3 (by omega) (by simp;omega) (λk hk=>?_) (by rw [ug,List.map_append];exact H3)
    rcases fW.1 hk with hk|hk
    .exact sF k hk
    .simp only [cU,qnM,or_false] at hk
     omega
   .show enthymemeref07_Like.eH s n b4 t.k t.n t.x l7 (IntKind.wrap .i64 ((i:Int)+1)) w2 _
    rw [aY _ (by omega)]
    exact ih (i+1) l7 ks b4 w2 (by omega) (by omega) sF H2
 exact enthymemeref07_Like.cV _ _ _ _ _ w _ ((Z4 h).bJ λb4 w1 H1=>loop l.length 0 ⟨none,0,0⟩ [] b4 w1 (by omega) (by simp) (by simp) (H1.oJ bW 1))
theorem Ls {w:World} {s:Sl} {l:List Nd} (h:GP w s l) (op:Int) (x:Nat) (RA n:Int) (hx:x<l.length) (hn:ow n):
  Calls Tryz.prog jD #[s.v,.i op,.i (x:Int),.i RA,.i n] w λr w'=>(∃t:ik,r=.returned (kj t))/\bI w w':=by
 have hs:=mX h
 have hg:l[x]? =some (l[x]'hx):=gW hx
 generalize l[x]'hx=d at hg
 refine enthymemeref07_wanted.cV _ _ _ _ _ w _ ((Z4 h).bJ λpo w1 H1=>kO (cH.1 (H1.getD 0)) rfl hg λp hp c=>⟨_,_,_,c.s0,c.s1,c.s2,H1.bJ λKx w2 H2=>?_⟩)
 have ret:∀(a b c:Int) (w3:World) (bs:List Nat),(∀b∈bs,En.g b∈[En.g po,.g Kx])->LH F0 w w3 [.g po,.g Kx] [.gr s l]->loc bs w3 λw9=>(∃t:ik,Ending.returned (.agg #[.i a,.i b,.i c])=.returned (kj t))/\bI w w9:=λa b c w3 bs hb H3=>H3.aK (λw9 H9=>⟨⟨⟨a,b,c⟩,rfl⟩,H9.fr⟩) hb
 have S0:∀w3,LH F0 w w3 [.g po,.g Kx] [.gr s l]->enthymemeref07_wanted.dV n po 0 0 0 w3 λr w'=>(∃t:ik,r=.returned (kj t))/\bI w w':=by
  intro w3 H3
  refine H3.aJ (fE n 3 w3 (by omega) hn) ?_
  rintro _ w4 rfl H4
  refine ⟨_,rfl,H4.aJ (lG _ w4) ?_⟩
  rintro _ w5 rfl H5
  exact ⟨_,_,_,rfl,ret _ _ _ w5 _ (by simp) H5⟩
 refine aH (λh1=>H2.aK λw3 H3=>H3.aJ (fE n _ w3 (by omega) hn) ?_) (λh1=>aH (λh2=>H2.aK λw3 H3=>H3.aJ (fE n 3 w3 (by omega) hn) ?_) (λh2=>aH (λh3=>H2.aK λw3 H3=>H3.aJ (nP _ w3) ?_) (λh3=>aH (λh4=>aH (λh5=>H2.aK λw3 H3=>H3.aJ (nP _ w3) ?_) (λh5=>H2.aK λw3 H3=>H3.aJ (wJ d.x.st w3) ?_)) (λh4=>aH (λh6=>H2.aK λw3 H3=>H3.aJ (nP _ w3) ?_) (λh6=>aH (λh7=>aQ (beq_iff_eq.2 h7) (H2.aK λw3 H3=>S0 w3 H3)) (λh7=>aH (λh8=>aQ (beq_iff_eq.2 h8) (H2.aK λw3 H3=>S0 w3 H3)) (λh8=>aH (λh9=>H2.aK λw3 H3=>S0 w3 H3) (λh9=>H2.aK λw3 H3=>ret _ _ _ w3 _ (by simp) H3))))))))
 .have hr:=cR n ((s.n:Nat):Int) (by omega)
  generalize dG n ((s.n:Nat):Int)=z at hr
  rintro _ w4 rfl H4
  obtain ⟨j,rfl⟩:∃j:Nat,z=(j:Int):=⟨z.toNat,by omega⟩
  have An:l[j]? =some (l[j]'(by omega)):=gW (by omega)
  exact ⟨_,rfl,kO (cH.1 (H4.getD 0)) rfl An λq hq c'=>⟨_,_,_,c'.s0,c'.s1,c'.s2,ret _ _ _ w4 _ (by simp) H4⟩⟩
 .rintro _ w4 rfl H4
  refine ⟨_,rfl,H4.aJ (nP _ w4) ?_⟩
  rintro _ w5 rfl H5
  exact ⟨_,_,_,rfl,ret _ _ _ w5 _ (by simp) H5⟩
 .rintro _ w4 rfl H4
  exact ⟨_,_,_,rfl,ret _ _ _ w4 _ (by simp) H4⟩
 .rintro _ w4 rfl H4
  exact ⟨_,_,_,rfl,ret _ _ _ w4 _ (by simp) H4⟩
 .rintro _ w4 rfl H4
  exact ⟨_,_,_,rfl,ret _ _ _ w4 _ (by simp) H4⟩
 .rintro _ w4 rfl H4
  exact ⟨_,_,_,rfl,ret _ _ _ w4 _ (by simp) H4⟩
theorem X9 (x:Int):ow (IntKind.wrap .i64 x):=by rw [IntKind.wrap_i64];omega
def r7 (w:World) (r:Ending) (w':World):Prop:=∃d:Nd,r=.returned d.v/\CR d.x/\d.P w'/\∀b∈bC d.ks,w.heap.size<=b
theorem Pr {op n m u:Int} {tx:ByteArray} {st:ik} {ks:List Int} (h:CR ⟨op,[],n,m,u,tx,st⟩) (hk:ks.length<=3):CR ⟨op,ks,n,m,u,tx,st⟩:=⟨h.op1,h.op2,hk,h.n,h.m,h.u,h.tx,h.re⟩
theorem Eh (op:Int):-1<=eK op/\eK op<=3:=by unfold eK;repeat' split<;>omega
section
variable {w:World} {s:Sl} {l:List Nd} {n1 m2 k3:Int} {b8 po:Nat}
theorem JZ (hm:ow m2) (hk:ow k3) (hl:l.length<=kC) {op n m u:Int} {tx:ByteArray} {st:ik} (hd:CR ⟨op,[],n,m,u,tx,st⟩) (many:Nat) (aar:many<=3) (x:Int) (Mt:-1<=x) (U5:x<(l.length:Int)):
  ∀(d i:Nat) (sl:Sl) (ks:List Int) (w1:World),i+d=many->ks.length=i->(∀k∈ks,0<=k/\k<(l.length:Int))->LH F0 w w1 [.g b8,.g po,ug sl ks] [.gr s l]->
   bM.wY s m2 k3 b8 0 ⟨none,0,0⟩ 0 0 0 (ByteArray.mk #[]) 0 0 0 po op sl n m u tx st.k st.n st.x x (many:Int) (i:Int) w1 λr w'=>r7 w r w'/\bI w w':=by
 intro d
 unfold kC at hl
 induction d with
 |zero=>
  intro i sl ks w1 hi hlen sF H
  refine bM.ko _ _ _ _ _ _ _ _ _ _ _ _ _ _ _ _ _ _ _ _ _ _ _ _ _ _ _ _ (aL (decide_eq_false (by omega)) (H.aK λw2 H2=>⟨⟨⟨⟨op,ks,n,m,u,tx,st⟩,sl⟩,rfl,Pr hd (by omega),rp (H2.get 2),λb hb=>(H2.new _ (cZ (i:=2) rfl) b hb).resolve_right id⟩,H2.fr⟩))
 |succ d ih=>
  intro i sl ks w1 hi hlen sF H
  have S7:∀(RA:Int) (w2:World) (L:List En),-1<=RA->RA<(l.length:Int)->LH F0 w w2 [.g b8,.g po,ug sl ks] [.gr s l]->bM.CS s m2 k3 b8 0 ⟨none,0,0⟩ 0 0 0 (ByteArray.mk #[]) 0 0 0 po op sl n m u tx st.k st.n st.x x (many:Int) (i:Int) RA w2 λr w'=>r7 w r w'/\bI w w':=by
   intro RA w2 L h1 h2 H2
   refine aM (λh0=>H2.aK λw3 H3=>⟨⟨⟨⟨-1,[],0,0,0,ba [],oy⟩,⟨none,0,0⟩⟩,rfl,⟨by decide,by decide,by decide,by decide,by decide,by decide,λ_=>by decide,λh=>by cases h⟩,Rd.nil w3,λb hb=>by cases hb⟩,H3.fr⟩) (λh0=>?_)
   refine H2.tR 2 uW rfl (λs' w3 H3=>?_) (by have:=rn (H2.get 2);omega)
   have Yh:LH F0 w w3 [.g b8,.g po,ug s' (ks++[RA])] [.gr s l]:=by rw [ug,List.map_append];exact H3
   refine Yh.aK λw4 H4=>?_
   rw [aY _ (by omega)]
   refine ih (i+1) s' (ks++[RA]) w4 (by omega) (by simp [hlen]) (λk hk=>?_) H4
   rcases fW.1 hk with hk|hk
   .exact sF k hk
   .simp only [cU,qnM,or_false] at hk
    omega
  refine bM.ko _ _ _ _ _ _ _ _ _ _ _ _ _ _ _ _ _ _ _ _ _ _ _ _ _ _ _ _ (aQ (decide_eq_true (by omega)) (aM (λV6=>aM (λhx0=>?_) (λhx0=>S7 x w1 [] Mt U5 H)) (λV6=>S7 x w1 [] Mt U5 H)))
  obtain ⟨xn,rfl⟩:∃xn:Nat,x=(xn:Int):=⟨x.toNat,by omega⟩
  refine H.aJ (Ls (cH.1 (H.getD 0)) op xn (i:Int) m2 (by omega) hm) ?_
  rintro _ w2 ⟨t,rfl⟩ H2
  refine ⟨_,_,_,rfl,H2.bJ λb16 w3 H3=>?_⟩
  have S6:∀(t:ik) (w4:World),LH F0 w w4 [.g b8,.g po,ug sl ks,.g b16] [.gr s l]->bM.uz s m2 k3 b8 0 ⟨none,0,0⟩ 0 0 0 (ByteArray.mk #[]) 0 0 0 po op sl n m u tx st.k st.n st.x (xn:Int) (many:Int) (i:Int) b16 t.k t.n t.x w4 λr w'=>r7 w r w'/\bI w w':=by
   intro t w4 H4
   have e5:IntKind.wrap .i64 (5 *(i:Int))=5 *(i:Int):=IntWalk.i64_in _ (by omega)
   have e6:IntKind.wrap .i64 (1+5 *(i:Int))=1+5 *(i:Int):=IntWalk.i64_in _ (by omega)
   refine ⟨by rw [e5,e6];omega,H4.aK λw5 H5=>H5.aJ (FP (cH.1 (H5.getD 0)) t _ (X9 _) (by unfold kC;exact hl)) ?_⟩
   rintro _ w6 ⟨z,rfl,N3,Mu⟩ H6
   exact ⟨_,rfl,S7 z w6 [] N3 Mu (H6.take 3)⟩
  refine aH (λho=>aH (λh2=>?_) (λh2=>H3.aK λw4 H4=>S6 t w4 H4)) (λho=>H3.aK λw4 H4=>S6 t w4 H4)
  have hn:=rn (H3.get 2)
  have hg:ks[1]? =some (ks[1]'(by omega)):=gW (by omega)
  have D1:=sF _ (cZ hg)
  generalize ks[1]'(by omega)=kk at hg D1
  refine ⟨by omega,by omega,(rp (H3.get 2)).cell hg (j:=Int.toNat 1 *1) rfl λp hp _=>H3.aK λw4 H4=>?_⟩
  have Ao:l[kk.toNat]? =some (l[kk.toNat]'(by omega)):=gW (by omega)
  generalize l[kk.toNat]'(by omega)=e at Ao
  have hc:w4.cell? (p.add (Int.toNat 1 *1))=some (.int .i64 kk):=by
   have:=(rp (H4.get 2)).cell hg (j:=Int.toNat 1 *1) rfl (K:=λq=>∃q',sl.a=some q'/\w4.cell? (q'.add (Int.toNat 1 *1))=some (.int .i64 kk)) (λq hq hc=>⟨q,hq,hc⟩)
   rw [hp] at this
   obtain ⟨q,hq,hc⟩:=this
   cases hq
   exact hc
  exact ⟨kk,hc,kO (cH.1 (H4.getD 0)) (i:=kk.toNat) (by omega) Ao λq hq c=>⟨_,_,_,c.s0,c.s1,c.s2,H4.aK λw5 H5=>S6 e.x.st w5 H5⟩⟩
theorem J0 (hn:ow n1) (hm:ow m2) (hk:ow k3) (hl:l.length<=kC) {op n m u:Int} {tx:ByteArray} {st:ik} (hd:CR ⟨op,[],n,m,u,tx,st⟩) (x:Int) (Mt:0<=x) (U5:x<(l.length:Int)) (w1:World) (H:LH F0 w w1 [.g b8,.g po] [.gr s l]):
  bM.eY s n1 m2 k3 b8 0 ⟨none,0,0⟩ 0 0 0 (ByteArray.mk #[]) 0 0 0 po op ⟨none,0,0⟩ n m u tx st.k st.n st.x x w1 λr w'=>r7 w r w'/\bI w w':=by
 refine H.aJ (Lb op w1) ?_
 rintro _ w2 rfl H2
 have hr:=Eh op
 have S4:∀(x:Int) (w3:World),-1<=x->x<(l.length:Int)->LH F0 w w3 [.g b8,.g po] [.gr s l]->bM.ox s m2 k3 b8 0 ⟨none,0,0⟩ 0 0 0 (ByteArray.mk #[]) 0 0 0 po op ⟨none,0,0⟩ n m u tx st.k st.n st.x x (eK op) w3 λr w'=>r7 w r w'/\bI w w':=by
  intro x w3 h1 h2 H3
  have H4:=H3.oJ bW 1
  by_cases h0:eK op<0
  .refine bM.ko _ _ _ _ _ _ _ _ _ _ _ _ _ _ _ _ _ _ _ _ _ _ _ _ _ _ _ _ (aL (decide_eq_false (by omega)) (H4.aK λw2 H2=>⟨⟨⟨⟨op,[],n,m,u,tx,st⟩,⟨none,0,0⟩⟩,rfl,hd,Rd.nil w2,λb hb=>by cases hb⟩,H2.fr⟩))
  .have e:eK op=(((eK op).toNat:Nat):Int):=by omega
   show bM.wY _ _ _ _ _ _ _ _ _ _ _ _ _ _ _ _ _ _ _ _ _ _ _ _ (eK op) 0 _ _
   rw [e]
   exact JZ hm hk hl hd (eK op).toNat (by omega) x h1 h2 (eK op).toNat 0 ⟨none,0,0⟩ [] w3 (by omega) rfl (by simp) H4
 have S3:∀(x:Int) (w3:World),-1<=x->x<(l.length:Int)->LH F0 w w3 [.g b8,.g po] [.gr s l]->bM.gO s n1 m2 k3 b8 0 ⟨none,0,0⟩ 0 0 0 (ByteArray.mk #[]) 0 0 0 po op ⟨none,0,0⟩ n m u tx st.k st.n st.x x (eK op) w3 λr w'=>r7 w r w'/\bI w w':=by
  intro x w3 h1 h2 H3
  refine aH (λho=>H3.aJ (nP 8 w3) ?_) (λho=>S4 x w3 h1 h2 H3)
  rintro _ w4 rfl H4
  refine ⟨_,_,_,rfl,H4.aJ (FP (cH.1 (H4.getD 0)) (jJ 8) _ (X9 _) hl) ?_⟩
  rintro _ w5 ⟨z,rfl,N3,Mu⟩ H5
  exact ⟨_,rfl,S4 z w5 N3 Mu H5⟩
 refine ⟨_,rfl,aH (λho=>H2.aJ (nP 1 w2) ?_) (λho=>S3 x w2 (by omega) U5 H2)⟩
 rintro _ w4 rfl H4
 refine ⟨_,_,_,rfl,H4.aJ (FP (cH.1 (H4.getD 0)) (jJ 1) _ (X9 _) hl) ?_⟩
 rintro _ w5 ⟨z,rfl,N3,Mu⟩ H5
 exact ⟨_,rfl,S3 z w5 N3 Mu H5⟩
end
def opsL:List Int:=[4,5,6,7,8,9,10,11,12,13,14,15,16,17,18,19,20,21,22,23,24,25,26,27,28,29,30,31,32,33,34,1,2,3,18,18,16,6,24,25]
theorem J1 {i:Nat} {op:Int} (h:opsL[i]? =some op):1<=op/\op<=34:=by
 have h1:(opsL.all λx=>decide (1<=x)&&decide (x<=34))=true:=by decide
 have:=qaT.1 h1 op (cZ h)
 simpa using this
def By:List ByteArray:=[ba [],ba [97],ba [97,98],ba [98],ba [0],ba [97,97]]
theorem Kl {i:Nat} {t:ByteArray} (h:By[i]? =some t):t.size<=16:=by
 have h1:(By.all λx=>decide (x.size<=16))=true:=by decide
 have:=qaT.1 h1 t (cZ h)
 simpa using this
theorem Lk {w:World} {s:Sl} {l:List Nd} (h:GP w s l) (hl0:1<=l.length) (hl:l.length<=kC) (hv:∀d∈l,bO d.x.st=true) (n1 m2 k3:Int) (hn:ow n1) (hm:ow m2) (hk:ow k3):
  Calls Tryz.prog iC #[s.v,.i n1,.i m2,.i k3] w λr w'=>r7 w r w'/\bI w w':=by
 have hs:=mX h
 refine bM.cV _ _ _ _ w _ ((Z4 h).bJ λb8 w1 H1=>H1.nw λw2 _ H2=>H2.aJ (fE n1 40 w2 (by omega) hn) ?_)
 have hr:=cR n1 40 (by omega)
 generalize dG n1 40=z at hr
 rintro _ w3 rfl H3
 obtain ⟨j,rfl⟩:∃j:Nat,z=(j:Int):=⟨z.toNat,by omega⟩
 have Zr:opsL[j]? =some (opsL[j]'(by show j<40;omega)):=gW _
 have eN:=J1 Zr
 generalize opsL[j]'(by show j<40;omega)=op at Zr eN
 have jN:fB w3 ⟨some (bF w1.heap.size),40,40⟩ opsL:=od (T:=bW) (H3.ob 1) rfl
 refine ⟨_,rfl,by omega,by show (j:Int)<40;omega,jN.cell Zr (by omega) λp hp hc=>⟨op,hc,H3.bJ λpo w4 H4=>H4.aK λw5 H5=>H5.aJ (fE _ _ w5 (by omega) (X9 _)) ?_⟩⟩
 have hrx:=cR (IntKind.wrap .i64 (Int.tdiv n1 64)) ((s.n:Nat):Int) (by omega)
 generalize dG (IntKind.wrap .i64 (Int.tdiv n1 64)) ((s.n:Nat):Int)=x at hrx
 rintro _ w6 rfl H6
 have R:∀{n m u:Int} {tx:ByteArray} {st:ik} {w7:World},CR ⟨op,[],n,m,u,tx,st⟩->LH F0 w w7 [.g b8,.g po] [.gr s l]->bM.eY s n1 m2 k3 b8 0 ⟨none,0,0⟩ 0 0 0 (ByteArray.mk #[]) 0 0 0 po op ⟨none,0,0⟩ n m u tx st.k st.n st.x x w7 λr w'=>r7 w r w'/\bI w w':=λhd H7=>J0 hn hm hk hl hd x (by omega) (by omega) _ H7
 have H6:LH F0 w w6 [.g b8,.g po] [.gr s l]:=H6.sS [true,false,true]
 have em:ByteArray.mk #[]=ba []:=rfl
 have base:∀{n m u:Int} {tx:ByteArray} {st:ik},0<=n/\n<=100->0<=m/\m<=100->0<=u/\u<=1000->(op≠33->tx.size<=16)->(op=33->∃k,tx=ba (qj k))->CR ⟨op,[],n,m,u,tx,st⟩:=λh1 h2 h3 h4 h5=>⟨by show -1<=op;omega,eN.2,by simp,h1,h2,h3,h4,h5⟩
 have zz:(0:Int)<=0/\(0:Int)<=100:=by decide
 have z2:(0:Int)<=0/\(0:Int)<=1000:=by decide
 refine ⟨_,rfl,aH (λh1=>?_) (λh1=>aH (λh2=>?_) (λh2=>aH (λh3=>?_) (λh3=>aH (λh4=>?_) (λh4=>?_))))⟩
 .refine H6.aJ (fE m2 3 w6 (by omega) hm) ?_
  have ZN:=cR m2 3 (by omega)
  generalize dG m2 3=v at ZN
  rintro _ w7 rfl H7
  refine ⟨_,rfl,?_⟩
  have S1:∀(wv:Int),1<=wv->wv<=7->bM.fY s n1 m2 k3 b8 0 ⟨none,0,0⟩ 0 0 0 (ByteArray.mk #[]) 0 0 0 po op ⟨none,0,0⟩ 0 0 0 (ByteArray.mk #[]) 0 0 0 x wv w7 λr w'=>r7 w r w'/\bI w w':=by
   intro wv h5 h6
   refine H7.aJ (nP wv w7) ?_
   rintro _ w8 rfl H8
   have hc:∃c:Nat,(if 3<wv then (3:Int) else wv)=(c:Int)/\1<=c/\c<=3:=⟨(if 3<wv then (3:Int) else wv).toNat,by split<;>omega,by split<;>omega,by split<;>omega⟩
   obtain ⟨c,hc,c1,c2⟩:=hc
   rw [hc]
   have ec:IntKind.wrap .u64 (c:Int)=(c:Int):=IntWalk.u64_in _ (by omega)
   rw [ec]
   have ep:∃q:Int,IntKind.wrap .i64 (1 *2^min (Int.toNat (c:Int)) (IntKind.bits .i64))=q/\1<=q/\q<=8:=by
    have:c=1\/c=2\/c=3:=by omega
    rcases this with rfl|rfl|rfl
    .exact ⟨2,by decide,by decide,by decide⟩
    .exact ⟨4,by decide,by decide,by decide⟩
    .exact ⟨8,by decide,by decide,by decide⟩
   obtain ⟨q,eq,q1,q2⟩:=ep
   rw [eq]
   refine ⟨_,_,_,rfl,by omega,H8.aK λw9 H9=>H9.aJ (fE k3 q w9 (by omega) hk) ?_⟩
   have hrq:=cR k3 q (by omega)
   generalize dG k3 q=a at hrq
   rintro _ pR rfl m8
   have ea:IntKind.wrap .u64 a=a:=IntWalk.u64_in _ (by omega)
   refine ⟨_,rfl,m8.aK λrO qB=>?_⟩
   rw [ea]
   exact R (st:=jJ wv) (base zz zz (by omega) (λ_=>by decide) (λh=>by omega)) qB
  have e1:IntKind.wrap .i64 (1+v)=1+v:=IntWalk.i64_in _ (by omega)
  show bM.dV s n1 m2 k3 b8 0 ⟨none,0,0⟩ 0 0 0 _ 0 0 0 po op ⟨none,0,0⟩ 0 0 0 _ 0 0 0 x (IntKind.wrap .i64 (1+v)) w7 _
  rw [e1]
  exact aH (λ_=>S1 7 (by decide) (by decide)) (λ_=>S1 _ (by omega) (by omega))
 .refine H6.nw λw7 _ H7=>H7.aJ (fE m2 6 w7 (by omega) hm) ?_
  have hr6:=cR m2 6 (by omega)
  generalize dG m2 6=v at hr6
  rintro _ w8 rfl H8
  obtain ⟨i,rfl⟩:∃i:Nat,v=(i:Int):=⟨v.toNat,by omega⟩
  have Rh:By[i]? =some (By[i]'(by show i<6;omega)):=gW _
  have Fy:=Kl Rh
  generalize By[i]'(by show i<6;omega)=t at Rh Fy
  have jN:Rd w8 ⟨some (bF w6.heap.size),6,6⟩ (By.map Value.string):=vY (T:=cI) (H8.ob 2) rfl
  refine ⟨_,rfl,by omega,by show (i:Int)<6;omega,Rd.get jN (i:=i) (v:=.string t) (by simp [Rh]) (by omega) λp hp hc=>⟨t,hc,H8.aK λw9 H9=>?_⟩⟩
  exact R (st:=oy) (base zz zz z2 (λ_=>Fy) (λh=>by omega)) (H9.take 2)
 .refine H6.nw λw7 _ H7=>H7.aJ (fE m2 2 w7 (by omega) hm) ?_
  have D6:=cR m2 2 (by omega)
  generalize dG m2 2=v at D6
  rintro _ w8 rfl H8
  obtain ⟨i,rfl⟩:∃i:Nat,v=(i:Int):=⟨v.toNat,by omega⟩
  have Rh:([⟨2,2,1⟩,⟨3,1,1⟩]:List ik)[i]? =some (([⟨2,2,1⟩,⟨3,1,1⟩]:List ik)[i]'(by show i<2;omega)):=gW _
  generalize ([⟨2,2,1⟩,⟨3,1,1⟩]:List ik)[i]'(by show i<2;omega)=t at Rh
  have jN:jO 3 w8 ⟨some (bF w6.heap.size),2,2⟩ (([⟨2,2,1⟩,⟨3,1,1⟩]:List ik).flatMap pf):=xW (T:=aR) (H8.ob 2) rfl
  obtain ⟨g1,g2,g3⟩:=eX jN rfl Rh (K:=λp=>dK w8 (p.add (Int.toNat (i:Int) *3)) λa b c=>loc [b8,po] w8 λw9=>bM.eY s n1 m2 k3 b8 0 ⟨none,0,0⟩ 0 0 0 (ByteArray.mk #[]) 0 0 0 po op ⟨none,0,0⟩ 0 0 0 (ByteArray.mk #[]) a b c x w9 λr w'=>r7 w r w'/\bI w w') (λp hp c=>⟨_,_,_,c.c0,c.c1,c.c2,H8.aK λw9 H9=>R (st:=t) (base zz zz z2 (λ_=>by decide) (λh=>by omega)) (H9.take 2)⟩)
  exact ⟨_,rfl,g1,g2,g3⟩
 .obtain ⟨xn,rfl⟩:∃xn:Nat,x=(xn:Int):=⟨x.toNat,by omega⟩
  have hg:l[xn]? =some (l[xn]'(by omega)):=gW (by omega)
  generalize l[xn]'(by omega)=e at hg
  have hve:=mD (hv e (cZ hg))
  refine kO (cH.1 (H6.getD 0)) rfl hg λp hp c=>⟨_,c.s1,H6.aJ (fE m2 _ w6 (by split<;>omega) hm) ?_⟩
  have hr7:=cR m2 (if 1<e.x.st.n then e.x.st.n else 1) (by split<;>omega)
  generalize dG m2 (if 1<e.x.st.n then e.x.st.n else 1)=a at hr7
  have ha:a<64:=by
   have:=hr7.2
   split at this<;>omega
  rintro _ w7 rfl H7
  have e1:IntKind.wrap .i64 (a+1)=a+1:=IntWalk.i64_in _ (by omega)
  refine ⟨_,rfl,H7.aK λw8 H8=>H8.aJ (fE k3 _ w8 (by rw [e1];omega) hk) ?_⟩
  rw [e1]
  have hr8:=cR k3 (a+1) (by omega)
  generalize dG k3 (a+1)=b at hr8
  rintro _ w9 rfl H9
  exact ⟨_,rfl,H9.aK λpR m8=>R (st:=oy) (base (by omega) (by omega) z2 (λ_=>by decide) (λh=>by omega)) m8⟩
 have S8:op≠33->bM.Ku s n1 m2 k3 b8 0 ⟨none,0,0⟩ 0 0 0 (ByteArray.mk #[]) 0 0 0 po op ⟨none,0,0⟩ 0 0 0 (ByteArray.mk #[]) 0 0 0 x w6 λr w'=>r7 w r w'/\bI w w':=by
  intro nZ
  refine H6.aJ (fE m2 2 w6 (by omega) hm) ?_
  have D6:=cR m2 2 (by omega)
  generalize dG m2 2=v at D6
  rintro _ w7 rfl H7
  have e1:IntKind.wrap .i64 (1+v)=1+v:=IntWalk.i64_in _ (by omega)
  refine ⟨_,rfl,H7.aK λw8 H8=>?_⟩
  rw [e1]
  exact R (st:=oy) (base (by omega) zz z2 (λ_=>by decide) (λh=>absurd h nZ)) H8
 refine aH (λh5=>aQ (beq_iff_eq.2 h5) (S8 (by omega))) (λh5=>aH (λh6=>S8 (by omega)) (λh6=>aH (λh7=>?_) (λh7=>aH (λh8=>H6.aJ (SV m2 hm w6) ?_) (λh8=>R (st:=oy) (base zz zz z2 (λ_=>by decide) (λh=>absurd h h8)) H6))))
 .refine H6.aJ (fE m2 3 w6 (by omega) hm) ?_
  have D6:=cR m2 3 (by omega)
  generalize dG m2 3=v at D6
  rintro _ w7 rfl H7
  exact ⟨_,rfl,H7.aK λw8 H8=>R (st:=oy) (base (by omega) zz z2 (λ_=>by decide) (λh=>by omega)) H8⟩
 .rintro _ w7 ⟨k,rfl⟩ H7
  exact ⟨_,rfl,H7.aK λw8 H8=>R (st:=oy) (base zz zz z2 (λh=>absurd h8 h) (λ_=>⟨k,rfl⟩)) H8⟩
theorem CR.ok {d:Nx} (h:CR d):UQ d:=by
 refine ⟨by have:=h.kl;unfold kC;omega,?_,?_,λnZ=>?_⟩
 .have:=h.n
  exact ⟨by omega,by omega⟩
 .have:=h.m
  exact ⟨by omega,by omega⟩
 .obtain ⟨k,hk⟩:=h.re nZ
  rw [hk]
  refine ⟨?_,true,Lx k⟩
  rw [cE]
  have:=E7 k
  omega
theorem xH.ok {g:List Nx} (h:xH g) (hl:g.length<=kC):Xt g:=⟨hl,h.vg.val,h.vg.vars⟩
theorem BH (g:List Nx) (n:Nx):(jM g n).1.length<=g.length+1:=by
 unfold jM
 split
 .simp
 .split
  .simp
  .split
   .simp
   .simp
theorem BI {g:List Nx} {n:Nx} (h:(jM g n).2.2=0):(eI g n).2=0/\∃k:Nat,(jM g n).2.1=(k:Int)/\(jM g n).1[k]? =some (ie n (eI g n).1)/\((jM g n).1=g\/(ie n (eI g n).1∉g/\(jM g n).1=g++[ie n (eI g n).1]/\k=g.length)):=by
 unfold jM at h ⊢
 split at h
 .rename_i h0
  exact absurd h h0
 rename_i h0
 have h0:(eI g n).2=0:=by omega
 refine ⟨h0,?_⟩
 rw [if_neg (by omega)]
 cases hi:mg (ie n (eI g n).1) g 0 with
 |some i=>
  have:=sG hi
  rw [Nat.sub_zero] at this
  exact ⟨i,rfl,this.2,.inl rfl⟩
 |none=>
  rw [hi] at h
  dsimp only at h ⊢
  split at h
  .cases h
  .rename_i h4
   rw [if_neg h4]
   exact ⟨g.length,rfl,by simp,.inr ⟨yZ hi,rfl,rfl⟩⟩
theorem SM {g:List Nx} {n:Nx} (hg:Vg g) (h:(jM g n).2.2=0):Vg (jM g n).1:=by
 obtain ⟨h0,k,_,_,h3⟩:=BI h
 rcases h3 with h3|⟨h4,h5,_⟩
 .rw [h3];exact hg
 .rw [h5]
  exact .snoc hg (y8 (by rw [<-h0])) h4
theorem K3 {g:List Nx} {n:Nx} (hg:xH g) (hn:CR n) (h:(jM g n).2.2=0):xH (jM g n).1:=by
 refine ⟨SM hg.vg h,λd hd=>?_⟩
 obtain ⟨h0,k,_,_,h3⟩:=BI h
 rcases h3 with h3|⟨h4,h5,_⟩
 .rw [h3] at hd;exact hg.nd d hd
 .rw [h5] at hd
  rcases fW.1 hd with hd|hd
  .exact hg.nd d hd
  .simp only [cU,qnM,or_false] at hd
   subst hd
   exact ⟨hn.op1,hn.op2,hn.kl,hn.n,hn.m,hn.u,hn.tx,hn.re⟩
theorem xH.kl {l:List Nd} (h:xH (xs l)):∀e∈l,e.x.kids.length<=kC:=λe he=>by
 have:=(h.nd e.x (oT.2 ⟨e,he,rfl⟩)).kl
 unfold kC
 omega
def AD (w:World) (rV:Nat) (r:Ending) (w':World):Prop:=∃(s:Sl) (l:List Nd),r=.returned s.v/\xH (xs l)/\1<=l.length/\l.length<=10+rV/\GP w' s l/\∀b∈(En.gr s l).fp,w.heap.size<=b
theorem Lc {w:World} {ls:Sl} {ns:List Int} (hr:fB w ls ns) (O6:∀x∈ns,ow x) (hnl:ns.length<=9223372036854775807) (kind:Int) (rV:Nat) (hm:rV<=1000):
  Calls Tryz.prog iA #[ls.v,.i kind,.i (rV:Int)] w λr w'=>AD w rV r w'/\bI w w':=by
 have hn:=fB.len hr
 have loop:∀(m i:Nat) (gs:Sl) (l:List Nd) (w1:World),i+m=rV->xH (xs l)->1<=l.length->l.length<=10+i->(∀b∈(En.gr gs l).fp,w.heap.size<=b)->LH F0 w w1 [] [.rd ls (ns.map jm),.gr gs l]->
   enthymemeref07_Made.eH ls kind (rV:Int) gs ((3 *i:Nat):Int) w1 λr w'=>AD w rV r w'/\bI w w':=by
  intro m
  have e3:IntKind.wrap .i64 (3 *(rV:Int))=3 *(rV:Int):=IntWalk.i64_in _ (by omega)
  induction m with
  |zero=>
   intro i gs l w1 hi hg h1 h2 hf H
   have fin:enthymemeref07_Made.gO gs w1 λr w'=>AD w rV r w'/\bI w w':=⟨⟨gs,l,rfl,hg,h1,by omega,cH.1 (H.getD 1),hf⟩,H.fr⟩
   exact enthymemeref07_Made.bA _ _ _ _ _ _ _ (aM (λ_=>aL (decide_eq_false (by rw [e3];omega)) fin) (λ_=>fin))
  |succ m ih=>
   intro i gs l w1 hi hg h1 h2 hf H
   have fin:enthymemeref07_Made.gO gs w1 λr w'=>AD w rV r w'/\bI w w':=⟨⟨gs,l,rfl,hg,h1,by omega,cH.1 (H.getD 1),hf⟩,H.fr⟩
   have w1':IntKind.wrap .i64 (((3 *i:Nat):Int)+1)=((3 *i+1:Nat):Int):=IntWalk.i64_in _ (by omega)
   have w2':IntKind.wrap .i64 (((3 *i:Nat):Int)+2)=((3 *i+2:Nat):Int):=IntWalk.i64_in _ (by omega)
   have w3':IntKind.wrap .i64 (((3 *i:Nat):Int)+3)=((3 *(i+1):Nat):Int):=IntWalk.i64_in _ (by omega)
   have next:∀(UU:Sl) (l':List Nd) (w5:World),xH (xs l')->1<=l'.length->l'.length<=10+(i+1)->(∀b∈(En.gr UU l').fp,w.heap.size<=b)->LH F0 w w5 [] [.rd ls (ns.map jm),.gr UU l']->enthymemeref07_Made.eY ls kind (rV:Int) UU ((3 *i:Nat):Int) w5 λr w'=>AD w rV r w'/\bI w w':=by
    intro UU l' w5 g1 g2 g3 g4 H5
    show enthymemeref07_Made.eH ls kind (rV:Int) UU (IntKind.wrap .i64 (((3 *i:Nat):Int)+3)) w5 _
    rw [w3']
    exact ih (i+1) UU l' w5 (by omega) g1 g2 g3 g4 H5
   have S1:∀(b9:Nat) (d:Nd) (w3:World) (L:List En),En.g b9∈L->CR d.x->d.P w3->(∀b∈bC d.ks,w.heap.size<=b)->LH F0 w w3 L [.rd ls (ns.map jm),.gr gs l,gv d]->enthymemeref07_Made.fY ls kind (rV:Int) gs ((3 *i:Nat):Int) b9 d.x.op d.ks d.x.n d.x.m d.x.u d.x.tx d.x.st.k d.x.st.n d.x.st.x w3 λr w'=>AD w rV r w'/\bI w w':=by
    intro b9 d w3 L hb9 hd pd fd H3
    have nR:(xs l).length=l.length:=by simp [xs]
    have H3:LH F0 w w3 [] [.rd ls (ns.map jm),.gr gs l,gv d]:=H3.take 0
    refine ng ((Tc (cH.1 (H3.getD 1)) pd (hg.ok (by rw [nR];unfold kC;omega)) hd.ok hg.kl).mono ?_)
    rintro _ w4 ⟨⟨s',rfl,⟨l',Ms,G',F'⟩⟩,f4⟩
    have qn:∀b∈(En.gr s' l').fp,w.heap.size<=b:=λb hb=>by
     rcases F' b hb with (h|h)|h
     .exact hf b h
     .exact Bm fd b h
     .exact Nat.le_trans H3.fr.size h
    have H4:=H3.oR f4
    have H4':LH F0 w w4 [] [.rd ls (ns.map jm),.gr s' l']:=(H3.mE (.gr s' l') f4 (cH.2 G') (λb hb=>by
     rcases F' b hb with (h|h)|h
     .exact .inr (.inr ⟨_,cZ (i:=1) rfl,h⟩)
     .exact .inr (.inr ⟨_,cZ (i:=2) rfl,h⟩)
     .exact .inl h)).forget _ (by simp)
    have Vi:∀{w6:World},LH F0 w w6 [] [.rd ls (ns.map jm),.gr gs l,gv d]->LH F0 w w6 [] [.rd ls (ns.map jm),.gr gs l]:=λH=>H.forget _ (by simp)
    refine ⟨f4,_,_,_,rfl,aH (λh0=>?_) (λh0=>next gs l w4 hg h1 (by omega) hf (Vi H4))⟩
    obtain ⟨_,k,D1,sE,_⟩:=BI h0
    have A8:xH (xs l'):=by rw [Ms];exact K3 hg hd h0
    have xM:l'.length<=10+(i+1):=by
     have:=BH (xs l) d.x
     rw [<-Ms] at this
     simp only [xs,List.length_map] at this
     omega
    rw [<-Ms] at sE
    have Mr:k<l'.length:=by
     have:=(oN.1 sE).1
     simpa [xs] using this
    have Ao:l'[k]? =some (l'[k]'Mr):=gW Mr
    generalize l'[k]'Mr=e at Ao
    rw [D1]
    refine kO (cH.1 (H4'.getD 1)) rfl Ao λp hp c=>⟨_,_,_,c.s0,c.s1,c.s2,?_⟩
    refine ng ((FY kind e.x.st w4).mono ?_)
    rintro _ w5 ⟨⟨b,rfl⟩,f5⟩
    have H5:=H4'.oR f5
    have Yi:=Vi (H4.oR f5)
    refine ⟨f5,_,rfl,aZ (λ_=>?_) (λ_=>next gs l w5 hg h1 (by omega) hf Yi)⟩
    refine kO (cH.1 (H5.getD 1)) rfl Ao λp' Ic c'=>⟨_,c'.s1,aM (λ_=>?_) (λ_=>next gs l w5 hg h1 (by omega) hf Yi)⟩
    have Mq:∀(i:Nat) (d:Nd),l'[i]? =some d->d.x.kids.length<=1000000/\∀k∈d.x.kids,0<=k/\k<(i:Int):=λi d hd=>by
     have UZ:=s5 hd
     have:=(A8.nd d.x (cZ UZ)).kl
     exact ⟨by omega,A8.vg.kids UZ⟩
    refine ng ((Lr (cH.1 (H5.getD 1)) Mq (k+1) k (by omega) Mr w5 (Fr.refl _ _)).mono ?_)
    rintro _ w6 ⟨⟨z,rfl⟩,f6⟩
    have f6:bI w5 w6:=f6
    exact ⟨f6,_,rfl,aM (λ_=>next s' l' w6 A8 (by omega) xM qn (H5.oR f6)) (λ_=>next gs l w6 hg h1 (by omega) hf (Yi.oR f6))⟩
   refine enthymemeref07_Made.bA _ _ _ _ _ _ _ ?_
   rw [w1',w2',e3]
   refine aM (λl6=>aQ (decide_eq_true (by omega)) (H.dr λw2 H2=>?_)) (λ_=>fin)
   have YT:fB w2 ls ns:=H2.getD 0
   have g0:ns[3 *i]? =some (ns[3 *i]'(by omega)):=gW (by omega)
   have g1:ns[3 *i+1]? =some (ns[3 *i+1]'(by omega)):=gW (by omega)
   have g2:ns[3 *i+2]? =some (ns[3 *i+2]'(by omega)):=gW (by omega)
   generalize ns[3 *i]'(by omega)=x0 at g0
   generalize ns[3 *i+1]'(by omega)=x1 at g1
   generalize ns[3 *i+2]'(by omega)=x2 at g2
   refine ⟨by omega,by omega,YT.cell g0 (by omega) λp0 ZG c0=>⟨x0,c0,by omega,by omega,YT.cell g1 (by omega) λp1 hp1 c1=>⟨x1,c1,by omega,by omega,YT.cell g2 (by omega) λp2 ZH c2=>⟨x2,c2,?_,?_⟩⟩⟩⟩
   .have N:=Lk (cH.1 (H2.getD 1)) h1 (by unfold kC;omega) (λd hd=>hg.vg.val d.x (oT.2 ⟨d,hd,rfl⟩)) x0 x1 x2 (O6 _ (cZ g0)) (O6 _ (cZ g1)) (O6 _ (cZ g2))
    refine H2.Dv N ?_
    rintro _ w3 ⟨d,rfl,hd,pd,fd⟩ _ F3
    have H3:=F3.rd (gv d) pd (Bm fd)
    refine ⟨_,_,_,_,_,_,_,_,_,rfl,H3.bJ λb9 w4 H4=>H4.aK λw5 H5=>?_⟩
    exact S1 b9 d w5 _ (by simp) hd (H5.getD 2) (λb hb=>Nat.le_trans H2.fr.size (fd b hb)) H5
   .refine H2.bJ λb9 w3 H3=>?_
    have h3n:fB w3 ls ns:=H3.getD 0
    have again:∀{j:Nat} {x:Int} {p:Addr} {X:Nat},ns[j]? =some x->ls.a=some p->X=j *1->w3.cell? (p.add X)=some (.int .i64 x):=by
     intro j x p X hg hp hX
     have:=h3n.cell hg hX (K:=λq=>∃q',ls.a=some q'/\w3.cell? (q'.add X)=some (.int .i64 x)) (λq hq hc=>⟨q,hq,hc⟩)
     rw [hp] at this
     obtain ⟨q,hq,hc⟩:=this
     cases hq
     exact hc
    have N:=Lk (cH.1 (H3.getD 1)) h1 (by unfold kC;omega) (λd hd=>hg.vg.val d.x (oT.2 ⟨d,hd,rfl⟩)) x0 x1 x2 (O6 _ (cZ g0)) (O6 _ (cZ g1)) (O6 _ (cZ g2))
    refine ⟨again g2 ZH (by omega),again g1 hp1 (by omega),again g0 ZG (by omega),H3.sh N ?_⟩
    rintro _ w4 ⟨d,rfl,hd,pd,fd⟩ _ F4
    have H4:=F4.rd (gv d) pd (Bm fd)
    refine ⟨_,_,_,_,_,_,_,_,_,rfl,H4.aK λw5 H5=>?_⟩
    exact S1 b9 d w5 _ (by simp) hd (H5.getD 2) (λb hb=>Nat.le_trans H3.fr.size (fd b hb)) H5
 refine enthymemeref07_Made.cV _ _ _ w _ ((OA kind w).mono ?_)
 rintro _ w1 ⟨⟨s,rfl,⟨l,hl,G,F⟩⟩,f1⟩
 have hlen:=Kf kind
 have TJ:l.length=(jH kind).length:=by
  have:=congrArg List.length hl
  simpa [xs] using this
 have qn:∀b∈(En.gr s l).fp,w.heap.size<=b:=λb hb=>(F b hb).resolve_left id
 have H:LH F0 w w [] [.rd ls (ns.map jm)]:=mu _ (by
  intro e he
  simp only [cU,qnM,or_false] at he
  subst he
  exact hr)
 have H1:=H.mE (.gr s l) f1 (cH.2 G) (λb hb=>.inl (qn b hb))
 exact ⟨s,rfl,loop rV 0 s l w1 (by omega) (by rw [hl];exact Ns kind) (by omega) (by omega) qn H1⟩
end Go.Proofs.YtcifihepfadgfaaGreatDoor
