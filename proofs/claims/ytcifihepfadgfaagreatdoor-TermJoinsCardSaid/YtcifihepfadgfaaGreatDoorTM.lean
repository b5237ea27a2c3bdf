import Derived.Test.YtcifihepfadgfaaGreatDoorTP
import Derived.Test.YtcifihepfadgfaaGreatDoorT1
set_option linter.unusedVariables false
set_option maxRecDepth 100000
set_option maxHeartbeats 1000000
namespace Go.Proofs.YtcifihepfadgfaaGreatDoor
open List renaming mem_append->fS,mem_cons->cS,not_mem_nil->fF,mem_of_getElem?->cR,getElem?_eq_getElem->g8,getElem?_eq_some_iff->ov,mem_map->pX,all_eq_true->wD
open Go Go.W
theorem eX (n m:Int) (w:World) (hm:1<=m) (h:oo n):Calls Tryz.prog aR #[.i n,.i m] w λr w'=>r=.returned (.i (dB n m))/\bG w w':=(y7 n m w hm h).mono λr w' h=>⟨h.1,h.2▸Fr.refl _ _⟩
def AJ (t:List UInt8) (s:iw):Nx:=⟨0,[],0,0,0,ba t,s⟩
def tQ (t:List UInt8) (s:iw):Nd:=⟨AJ t s,⟨none,0,0⟩⟩
def tM:List Nd:=[tQ [97] (jG 2),tQ [98] (jG 2),tQ [99] (jG 1),tQ [100] (jG 3)]
def tO:List Nd:=[tQ [109] ⟨2,2,1⟩,tQ [110] ⟨2,2,1⟩]
def qv:List Nd:=[tQ [115] (nI 2),tQ [116] (nI 1),tQ [105] (jG 7),tQ [122] ⟨3,1,1⟩]
def jS (kind:Int):List Nd:=tM++(if kind>0 then tO else [])++(if kind>1 then qv else [])
def vgB (l:List Nx):Bool:=(List.range l.length).all λi=>match l[i]? with
 |some n=>decide (dI (l.take i) n=(n.st,0))&&decide (n∉l.take i)
 |none=>false
theorem Gv {l:List Nx} (h:vgB l=true):Vg l:=by
 have main:∀i,i<=l.length->Vg (l.take i):=by
  intro i
  induction i with
  |zero=>intro _;rw [List.take_zero];exact .nil
  |succ i ih=>
   intro hi
   have h1:=wD.1 h i (List.mem_range.2 (by omega))
   have hg:l[i]? =some (l[i]'(by omega)):=g8 (by omega)
   rw [hg] at h1
   dsimp only at h1
   rw [List.take_add_one,hg]
   simp only [Bool.and_eq_true,decide_eq_true_eq] at h1
   exact .snoc (ih (by omega)) h1.1 h1.2
 have:=main l.length (Nat.le_refl _)
 rwa [List.take_length] at this
theorem Ox (kind:Int):Vg (xs (jS kind)):=by
 unfold jS
 split
 .split
  .exact Gv (by kernel_rfl)
  .exact Gv (by kernel_rfl)
 .split
  .exact Gv (by kernel_rfl)
  .exact Gv (by kernel_rfl)
structure yC (d:Nx):Prop where
 Zk:-1<=d.op
 Zl:d.op<=34
 kl:d.kids.length<=3
 n:0<=d.n/\d.n<=100
 m:0<=d.m/\d.m<=100
 u:0<=d.u/\d.u<=1000
 tx:d.op≠33->d.tx.size<=16
 re:d.op=33->∃k,d.tx=ba (qQ k)
structure tT (g:List Nx):Prop where
 vg:Vg g
 nd:∀d∈g,yC d
theorem Ov (kind:Int):tT (xs (jS kind)):=by
 refine ⟨Ox kind,λd hd=>?_⟩
 have h:∃t s,d=AJ t s/\t.length<=16:=by
  have h1:d∈xs (tM++tO++qv):=by
   obtain ⟨a,ha,rfl⟩:=pX.1 hd
   refine pX.2 ⟨a,?_,rfl⟩
   unfold jS at ha
   rcases fS.1 ha with ha|ha
   .rcases fS.1 ha with ha|ha
    .simp [ha]
    .split at ha
     .simp [ha]
     .cases ha
   .split at ha
    .simp [ha]
    .cases ha
  simp only [xs,tM,tO,qv,tQ,List.cons_append,List.nil_append,List.map_cons,List.map_nil,cS,fF,or_false] at h1
  rcases h1 with rfl|rfl|rfl|rfl|rfl|rfl|rfl|rfl|rfl|rfl<;>exact ⟨_,_,rfl,by decide⟩
 obtain ⟨t,s,rfl,ht⟩:=h
 exact ⟨by show (-1:Int)<=0;omega,by show (0:Int)<=34;omega,by simp [AJ],by simp [AJ],by simp [AJ],by simp [AJ],λ_=>by show (ba t).size<=16;rw [cD];exact ht,λh=>by cases h⟩
theorem yx {kind:Int}:∀d∈jS kind,d.x.kids=[]/\d.ks=⟨none,0,0⟩:=by
 intro d hd
 have h1:d∈tM++tO++qv:=by
  unfold jS at hd
  rcases fS.1 hd with ha|ha
  .rcases fS.1 ha with ha|ha
   .simp [ha]
   .split at ha
    .simp [ha]
    .cases ha
  .split at ha
   .simp [ha]
   .cases ha
 simp only [tM,tO,qv,tQ,AJ,List.cons_append,List.nil_append,cS,fF,or_false] at h1
 rcases h1 with rfl|rfl|rfl|rfl|rfl|rfl|rfl|rfl|rfl|rfl<;>exact ⟨rfl,rfl⟩
theorem Ou {kind:Int} {w w0:World} {s:Sl} (h:jU 9 w s ((jS kind).flatMap Nd.c)) (hf:∀b∈aZ s,w0.heap.size<=b):GR w0 F0 (xs (jS kind)) s w:=by
 refine ⟨jS kind,rfl,⟨h,λd hd=>?_⟩,λb hb=>.inr ?_⟩
 .obtain ⟨h1,h2⟩:=yx d hd
  show cX w d.ks d.x.kids
  rw [h1,h2]
  exact Rd.nil w
 .rcases rp.1 hb with hb|⟨d,hd,hb⟩
  .exact Ah hf b hb
  .obtain ⟨h1,h2⟩:=yx d hd
   unfold dG at hb
   rw [h1] at hb
   cases hb
theorem Lm (kind:Int):1<=(jS kind).length/\(jS kind).length<=10:=by
 unfold jS
 split<;>split<;>decide
theorem Pz (kind:Int) (w:World):Calls Tryz.prog ko #[.i kind] w λr w'=>(∃s:Sl,r=.returned s.v/\GR w F0 (xs (jS kind)) s w')/\bG w w':=by
 refine enthymemeref07_start.ok kind w _ ((mu [] (by simp)).call (oq 2 w) ?_)
 rintro _ w1 rfl H1
 refine ⟨_,_,_,rfl,H1.call (oq 2 w1) ?_⟩
 rintro _ w2 rfl H2
 refine ⟨_,_,_,rfl,H2.call (oq 1 w2) ?_⟩
 rintro _ w3 rfl H3
 refine ⟨_,_,_,rfl,H3.call (oq 3 w3) ?_⟩
 rintro _ w4 rfl H4
 refine ⟨_,_,_,rfl,H4.iQ (n:=4) (sz:=9) (cs:=tM.flatMap Nd.c) rfl (by decide) λw5 H5=>?_⟩
 have fin:∀(l:Sl) (w6:World) (L:List En) (j:Nat),LH F0 w w6 L []->L[j]? =some (.row aE 9 l ((jS kind).flatMap Nd.c))->(∃s:Sl,Ending.returned l.v=.returned s.v/\GR w F0 (xs (jS kind)) s w6)/\bG w w6:=λl w6 L j H6 hj=>
  ⟨⟨l,rfl,Ou (H6.get j hj:aO _ _ _ _ _).iD λb hb=>(H6.new _ (cR hj) b hb).resolve_right id⟩,H6.fr⟩
 have S0:∀(l:Sl) (w6:World) (L:List En) (j:Nat) (ds:List Nd),LH F0 w w6 L []->ds.length<=6->jS kind=ds++(if kind>1 then qv else [])->L[j]? =some (.row aE 9 l (ds.flatMap Nd.c))->enthymemeref07_start.S0 kind l w6 λr w'=>(∃s:Sl,r=.returned s.v/\GR w F0 (xs (jS kind)) s w')/\bG w w':=by
  intro l w6 L j ds H6 hds he hj
  refine aN (λh1=>?_) (λh1=>?_)
  .rw [if_pos h1] at he
   refine H6.call (lY 2 w6) ?_
   rintro _ w7 rfl H7
   refine ⟨_,_,_,rfl,H7.call (lY 1 w7) ?_⟩
   rintro _ w8 rfl H8
   refine ⟨_,_,_,rfl,H8.call (oq 7 w8) ?_⟩
   rintro _ w9 rfl H9
   refine ⟨_,_,_,rfl,H9.iQ (n:=4) (sz:=9) (cs:=qv.flatMap Nd.c) rfl (by decide) λpE mJ=>?_⟩
   have Xy:(L++[En.row aE 9 ⟨some (bD w9.heap.size),4,4⟩ (qv.flatMap Nd.c)])[j]? =some (.row aE 9 l (ds.flatMap Nd.c)):=by
    rw [List.getElem?_append_left (ov.1 hj).1];exact hj
   have XC:(L++[En.row aE 9 ⟨some (bD w9.heap.size),4,4⟩ (qv.flatMap Nd.c)])[L.length]? =some (.row aE 9 ⟨some (bD w9.heap.size),4,4⟩ (qv.flatMap Nd.c)):=by simp
   have hn:l.n=ds.length:=by
    have:=(mJ.get j Xy:aO _ _ _ _ _).len
    rw [Nd.iT] at this
    omega
   have E3:jU 9 pE ⟨some (bD w9.heap.size),4,4⟩ (qv.flatMap Nd.c):=(mJ.get L.length XC:aO _ _ _ _ _).iD
   refine mJ.ap j nO (src:=⟨some (bD w9.heap.size),4,4⟩) Xy E3.2.2 E3.1 tA (by simp only;omega) (λs' sj qR _ _=>?_)
   refine fin s' sj _ j qR ?_
   rw [List.getElem?_set_self (by simp;have:=(ov.1 hj).1;omega),he,List.flatMap_append]
  .rw [if_neg h1,List.append_nil] at he
   rw [<-he] at hj
   exact fin l w6 L j H6 hj
 refine aN (λh0=>H5.iQ (n:=2) (sz:=9) (cs:=tO.flatMap Nd.c) rfl (by decide) λw6 H6=>?_) (λh0=>?_)
 .have E3:jU 9 w6 ⟨some (bD w5.heap.size),2,2⟩ (tO.flatMap Nd.c):=(H6.get 1:aO _ _ _ _ _).iD
  refine H6.ap 0 nO (s:=⟨some (bD w4.heap.size),4,4⟩) (src:=⟨some (bD w5.heap.size),2,2⟩) rfl E3.2.2 E3.1 tA (by show (4+2) *96<=_;omega) (λs' w7 H7 _ _=>?_)
  refine S0 s' w7 _ 0 (tM++tO) H7 (by decide) ?_ ?_
  .unfold jS;rw [if_pos h0]
  .rw [List.flatMap_append];rfl
 .refine S0 ⟨some (bD w4.heap.size),4,4⟩ w5 _ 0 tM H5 (by decide) ?_ rfl
  unfold jS;rw [if_neg h0,List.append_nil]
theorem Hj (kind:Int) (s:iw) (w:World):Calls Tryz.prog jP #[.i kind,kA s] w λr w'=>(∃b:Bool,r=.returned (.bool b))/\bG w w':=
 enthymemeref07_within.cU _ _ _ _ w _ ((mu [] (by simp)).bF λb w1 H1=>aJ (λh=>⟨⟨_,rfl⟩,H1.fr⟩) (λh=>aN (λh=>aJ (λh=>⟨⟨_,rfl⟩,H1.fr⟩) (λh=>⟨⟨_,rfl⟩,H1.fr⟩)) (λh=>⟨⟨_,rfl⟩,H1.fr⟩)))
theorem MD {w:World} {s:Sl} {l:List Nd} (h:GP w s l) (hk:∀(i:Nat) (d:Nd),l[i]? =some d->d.x.kids.length<=1000000/\∀k∈d.x.kids,0<=k/\k<(i:Int)):∀(n i:Nat),i<n->i<l.length->∀w1,bG w w1->Calls Tryz.prog iL #[s.v,.i (i:Int)] w1 λr w'=>(∃z:Int,r=.returned (.i z))/\bG w w'
 |0,i,hi,_,_,_=>absurd hi (by omega)
 |n+1,i,hi,hl,w1,f1=>by
  have G:∀{w2:World},bG w w2->GP w2 s l:=λf=>⟨h.1.pI f,λd hd=>(dG d).st w _ (λb hb lV=>f.gY b lV id) (h.2 d hd)⟩
  have hg:l[i]? =some (l[i]'hl):=g8 hl
  generalize l[i]'hl=d at hg
  obtain ⟨k1,k2⟩:=hk i d hg
  have loop:∀(m j:Nat) (z:Int) (w2:World),j+m=d.x.kids.length->bG w w2->enthymemeref07_size.L0 s (i:Int) z (j:Int) w2 λr w'=>(∃z:Int,r=.returned (.i z))/\bG w w':=by
   intro m
   induction m with
   |zero=>
    intro j z w2 hj f2
    have hn:d.ks.n=d.x.kids.length:=cX.len ((G f2).2 d (cR hg))
    exact enthymemeref07_size.cC _ _ _ _ _ _ (kD (G f2) rfl hg λp hp c=>⟨_,c.c1,aI (decide_eq_false (by omega)) ⟨⟨_,rfl⟩,f2⟩⟩)
   |succ m ih=>
    intro j z w2 hj f2
    have hd2:cX w2 d.ks d.x.kids:=(G f2).2 d (cR hg)
    have hn:=cX.len hd2
    have A8:d.x.kids[j]? =some (d.x.kids[j]'(by omega)):=g8 (by omega)
    generalize d.x.kids[j]'(by omega)=k at A8
    have UU:=k2 k (cR A8)
    refine enthymemeref07_size.cC _ _ _ _ _ _ (kD (G f2) rfl hg λp hp c=>⟨_,c.c1,aQ (decide_eq_true (by omega)) (kD (G f2) rfl hg λp' Ji c'=>⟨_,c'.c1,by omega,by omega,hd2.cell A8 (by omega) λq hq hc=>⟨k,hc,?_⟩⟩)⟩)
    have ek:k=((k.toNat:Nat):Int):=by omega
    rw [ek]
    refine (MD h hk n k.toNat (by omega) (by omega) w2 f2).mono ?_
    rintro _ w3 ⟨⟨z3,rfl⟩,f3⟩
    refine ⟨_,rfl,?_⟩
    show enthymemeref07_size.L0 s (i:Int) _ (IntKind.wrap .i64 ((j:Int)+1)) w3 _
    rw [aX _ (by omega)]
    exact ih (j+1) _ w3 (by omega) f3
  exact enthymemeref07_size.ok _ _ w1 _ (loop d.x.kids.length 0 1 w1 (by omega) f1)
theorem lhG {w:World} {s:Sl} {l:List Nd} (h:GP w s l):LH F0 w w [] [.gr s l]:=mu _ (by
 intro e he
 simp only [cS,fF,or_false] at he
 subst he
 exact cE.2 h)
abbrev oW (s:Sl) (l:List Int):En:=.row bP 1 s (l.map eI)
theorem kZ {w:World} {s:Sl} {l:List Int} (h:aO w bP 1 s (l.map eI)):cX w s l:=h.rd1
theorem n9 {w:World} {s:Sl} {l:List Int} (h:aO w bP 1 s (l.map eI)):s.n=l.length:=by
 have:=h.len
 simp at this
 omega
theorem Hd {w:World} {s:Sl} {l:List Nd} (h:GP w s l) (t:iw) (n:Int) (hn:oo n) (hl:l.length<=lB):
  Calls Tryz.prog gO #[s.v,kA t,.i n] w λr w'=>(∃z:Int,r=.returned (.i z)/\-1<=z/\z<(l.length:Int))/\bG w w':=by
 have hs:=oT h
 unfold lB at hl
 have loop:∀(m i:Nat) (l7:Sl) (ks:List Int) (b4:Nat) (w1:World),i+m=l.length->ks.length<=i->(∀k∈ks,0<=k/\k<(l.length:Int))->LH F0 w w1 [.g b4,oW l7 ks] [.gr s l]->
   enthymemeref07_Like.eE s n b4 t.k t.n t.x l7 (i:Int) w1 λr w'=>(∃z:Int,r=.returned (.i z)/\-1<=z/\z<(l.length:Int))/\bG w w':=by
  intro m
  induction m with
  |zero=>
   intro i l7 ks b4 w1 hi Qg sQ H
   have hlen:=n9 (H.get 1)
   refine enthymemeref07_Like.aY _ _ _ _ _ _ _ _ _ _ (aI (decide_eq_false (by omega)) (aJ (λh0=>⟨⟨_,rfl,by omega,by omega⟩,H.fr⟩) (λh0=>H.aK (eX n _ w1 (by omega) hn) ?_)))
   have hr:=cH n ((l7.n:Nat):Int) (by omega)
   generalize dB n ((l7.n:Nat):Int)=z at hr
   rintro _ w2 rfl H2
   obtain ⟨j,rfl⟩:∃j:Nat,z=(j:Int):=⟨z.toNat,by omega⟩
   have hg:ks[j]? =some (ks[j]'(by omega)):=g8 (by omega)
   have hk:=sQ _ (cR hg)
   exact ⟨_,rfl,by omega,by omega,(kZ (H2.get 1)).cell hg (by omega) λp hp hc=>⟨_,hc,⟨⟨_,rfl,by omega,by omega⟩,H2.fr⟩⟩⟩
  |succ m ih=>
   intro i l7 ks b4 w1 hi Qg sQ H
   have hg:l[i]? =some (l[i]'(by omega)):=g8 (by omega)
   generalize l[i]'(by omega)=d at hg
   have hlen:=n9 (H.get 1)
   refine enthymemeref07_Like.aY _ _ _ _ _ _ _ _ _ _ (aQ (decide_eq_true (by omega)) (kD (cE.1 (H.getD 0)) rfl hg λp hp _=>H.aL λw2 H2=>?_))
   have c:=v8 (cE.1 (H2.getD 0)) hg hp (rfl:((i:Int))=(i:Int))
   refine ⟨_,_,_,c.s0,c.s1,c.s2,oc (a:=d.x.st) (b:=t) (λhe=>?_) (λhe=>?_)⟩
   .refine H2.uj 1 pR rfl (λs' w3 H3=>?_) (by omega)
    show enthymemeref07_Like.eE s n b4 t.k t.n t.x s' (IntKind.wrap .i64 ((i:Int)+1)) w3 _
    rw [aX _ (by omega)]
    refine ih (i+1) s' (ks++[(i:Int)]) b4 w3 (by omega) (by simp;omega) (λk hk=>?_) (by rw [oW,List.map_append];exact H3)
    rcases fS.1 hk with hk|hk
    .exact sQ k hk
    .simp only [cS,fF,or_false] at hk
     omega
   .show enthymemeref07_Like.eE s n b4 t.k t.n t.x l7 (IntKind.wrap .i64 ((i:Int)+1)) w2 _
    rw [aX _ (by omega)]
    exact ih (i+1) l7 ks b4 w2 (by omega) (by omega) sQ H2
 exact enthymemeref07_Like.cU _ _ _ _ _ w _ ((lhG h).bF λb4 w1 H1=>loop l.length 0 ⟨none,0,0⟩ [] b4 w1 (by omega) (by simp) (by simp) (H1.n7 bP 1))
theorem ME {w:World} {s:Sl} {l:List Nd} (h:GP w s l) (op:Int) (x:Nat) (SQ n:Int) (hx:x<l.length) (hn:oo n):
  Calls Tryz.prog jO #[s.v,.i op,.i (x:Int),.i SQ,.i n] w λr w'=>(∃t:iw,r=.returned (kA t))/\bG w w':=by
 have hs:=oT h
 have hg:l[x]? =some (l[x]'hx):=g8 hx
 generalize l[x]'hx=d at hg
 refine enthymemeref07_wanted.cU _ _ _ _ _ w _ ((lhG h).bF λpH w1 H1=>kD (cE.1 (H1.getD 0)) rfl hg λp hp c=>⟨_,_,_,c.s0,c.s1,c.s2,H1.bF λR9 w2 H2=>?_⟩)
 have ret:∀(a b c:Int) (w3:World) (bs:List Nat),(∀b∈bs,En.g b∈[En.g pH,.g R9])->LH F0 w w3 [.g pH,.g R9] [.gr s l]->loc bs w3 λw9=>(∃t:iw,Ending.returned (.agg #[.i a,.i b,.i c])=.returned (kA t))/\bG w w9:=λa b c w3 bs hb H3=>H3.aL (λw9 H9=>⟨⟨⟨a,b,c⟩,rfl⟩,H9.fr⟩) hb
 have S0:∀w3,LH F0 w w3 [.g pH,.g R9] [.gr s l]->enthymemeref07_wanted.dV n pH 0 0 0 w3 λr w'=>(∃t:iw,r=.returned (kA t))/\bG w w':=by
  intro w3 H3
  refine H3.aK (eX n 3 w3 (by omega) hn) ?_
  rintro _ w4 rfl H4
  refine ⟨_,rfl,H4.aK (lY _ w4) ?_⟩
  rintro _ w5 rfl H5
  exact ⟨_,_,_,rfl,ret _ _ _ w5 _ (by simp) H5⟩
 refine aJ (λh1=>H2.aL λw3 H3=>H3.aK (eX n _ w3 (by omega) hn) ?_) (λh1=>aJ (λh2=>H2.aL λw3 H3=>H3.aK (eX n 3 w3 (by omega) hn) ?_) (λh2=>aJ (λh3=>H2.aL λw3 H3=>H3.aK (oq _ w3) ?_) (λh3=>aJ (λh4=>aJ (λh5=>H2.aL λw3 H3=>H3.aK (oq _ w3) ?_) (λh5=>H2.aL λw3 H3=>H3.aK (xM d.x.st w3) ?_)) (λh4=>aJ (λh6=>H2.aL λw3 H3=>H3.aK (oq _ w3) ?_) (λh6=>aJ (λh7=>aQ (beq_iff_eq.2 h7) (H2.aL λw3 H3=>S0 w3 H3)) (λh7=>aJ (λh8=>aQ (beq_iff_eq.2 h8) (H2.aL λw3 H3=>S0 w3 H3)) (λh8=>aJ (λh9=>H2.aL λw3 H3=>S0 w3 H3) (λh9=>H2.aL λw3 H3=>ret _ _ _ w3 _ (by simp) H3))))))))
 .have hr:=cH n ((s.n:Nat):Int) (by omega)
  generalize dB n ((s.n:Nat):Int)=z at hr
  rintro _ w4 rfl H4
  obtain ⟨j,rfl⟩:∃j:Nat,z=(j:Int):=⟨z.toNat,by omega⟩
  have A6:l[j]? =some (l[j]'(by omega)):=g8 (by omega)
  exact ⟨_,rfl,kD (cE.1 (H4.getD 0)) rfl A6 λq hq c'=>⟨_,_,_,c'.s0,c'.s1,c'.s2,ret _ _ _ w4 _ (by simp) H4⟩⟩
 .rintro _ w4 rfl H4
  refine ⟨_,rfl,H4.aK (oq _ w4) ?_⟩
  rintro _ w5 rfl H5
  exact ⟨_,_,_,rfl,ret _ _ _ w5 _ (by simp) H5⟩
 .rintro _ w4 rfl H4
  exact ⟨_,_,_,rfl,ret _ _ _ w4 _ (by simp) H4⟩
 .rintro _ w4 rfl H4
  exact ⟨_,_,_,rfl,ret _ _ _ w4 _ (by simp) H4⟩
 .rintro _ w4 rfl H4
  exact ⟨_,_,_,rfl,ret _ _ _ w4 _ (by simp) H4⟩
 .rintro _ w4 rfl H4
  exact ⟨_,_,_,rfl,ret _ _ _ w4 _ (by simp) H4⟩
theorem Zx (x:Int):oo (IntKind.wrap .i64 x):=by rw [IntKind.wrap_i64];omega
def sU (w:World) (r:Ending) (w':World):Prop:=∃d:Nd,r=.returned d.v/\yC d.x/\d.P w'/\∀b∈aZ d.ks,w.heap.size<=b
theorem QH {op n m u:Int} {tx:ByteArray} {st:iw} {ks:List Int} (h:yC ⟨op,[],n,m,u,tx,st⟩) (hk:ks.length<=3):yC ⟨op,ks,n,m,u,tx,st⟩:=⟨h.Zk,h.Zl,hk,h.n,h.m,h.u,h.tx,h.re⟩
theorem Ff (op:Int):-1<=eP op/\eP op<=3:=by unfold eP;repeat' split<;>omega
section
variable {w:World} {s:Sl} {l:List Nd} {n1 m2 k3:Int} {b8 pH:Nat}
theorem K4 (hm:oo m2) (hk:oo k3) (hl:l.length<=lB) {op n m u:Int} {tx:ByteArray} {st:iw} (hd:yC ⟨op,[],n,m,u,tx,st⟩) (many:Nat) (aa3:many<=3) (x:Int) (Ns:-1<=x) (Wl:x<(l.length:Int)):
  ∀(d i:Nat) (sl:Sl) (ks:List Int) (w1:World),i+d=many->ks.length=i->(∀k∈ks,0<=k/\k<(l.length:Int))->LH F0 w w1 [.g b8,.g pH,oW sl ks] [.gr s l]->
   bM.CA s m2 k3 b8 0 ⟨none,0,0⟩ 0 0 0 (ByteArray.mk #[]) 0 0 0 pH op sl n m u tx st.k st.n st.x x (many:Int) (i:Int) w1 λr w'=>sU w r w'/\bG w w':=by
 intro d
 unfold lB at hl
 induction d with
 |zero=>
  intro i sl ks w1 hi hlen sQ H
  refine bM.nK _ _ _ _ _ _ _ _ _ _ _ _ _ _ _ _ _ _ _ _ _ _ _ _ _ _ _ _ (aI (decide_eq_false (by omega)) (H.aL λw2 H2=>⟨⟨⟨⟨op,ks,n,m,u,tx,st⟩,sl⟩,rfl,QH hd (by omega),kZ (H2.get 2),λb hb=>(H2.new _ (cR (i:=2) rfl) b hb).resolve_right id⟩,H2.fr⟩))
 |succ d ih=>
  intro i sl ks w1 hi hlen sQ H
  have S7:∀(SQ:Int) (w2:World) (L:List En),-1<=SQ->SQ<(l.length:Int)->LH F0 w w2 [.g b8,.g pH,oW sl ks] [.gr s l]->bM.II s m2 k3 b8 0 ⟨none,0,0⟩ 0 0 0 (ByteArray.mk #[]) 0 0 0 pH op sl n m u tx st.k st.n st.x x (many:Int) (i:Int) SQ w2 λr w'=>sU w r w'/\bG w w':=by
   intro SQ w2 L h1 h2 H2
   refine aN (λh0=>H2.aL λw3 H3=>⟨⟨⟨⟨-1,[],0,0,0,ba [],o4⟩,⟨none,0,0⟩⟩,rfl,⟨by decide,by decide,by decide,by decide,by decide,by decide,λ_=>by decide,λh=>by cases h⟩,Rd.nil w3,λb hb=>by cases hb⟩,H3.fr⟩) (λh0=>?_)
   refine H2.uj 2 pR rfl (λs' w3 H3=>?_) (by have:=n9 (H2.get 2);omega)
   have ZF:LH F0 w w3 [.g b8,.g pH,oW s' (ks++[SQ])] [.gr s l]:=by rw [oW,List.map_append];exact H3
   refine ZF.aL λw4 H4=>?_
   rw [aX _ (by omega)]
   refine ih (i+1) s' (ks++[SQ]) w4 (by omega) (by simp [hlen]) (λk hk=>?_) H4
   rcases fS.1 hk with hk|hk
   .exact sQ k hk
   .simp only [cS,fF,or_false] at hk
    omega
  refine bM.nK _ _ _ _ _ _ _ _ _ _ _ _ _ _ _ _ _ _ _ _ _ _ _ _ _ _ _ _ (aQ (decide_eq_true (by omega)) (aN (λXw=>aN (λhx0=>?_) (λhx0=>S7 x w1 [] Ns Wl H)) (λXw=>S7 x w1 [] Ns Wl H)))
  obtain ⟨xn,rfl⟩:∃xn:Nat,x=(xn:Int):=⟨x.toNat,by omega⟩
  refine H.aK (ME (cE.1 (H.getD 0)) op xn (i:Int) m2 (by omega) hm) ?_
  rintro _ w2 ⟨t,rfl⟩ H2
  refine ⟨_,_,_,rfl,H2.bF λb16 w3 H3=>?_⟩
  have S6:∀(t:iw) (w4:World),LH F0 w w4 [.g b8,.g pH,oW sl ks,.g b16] [.gr s l]->bM.x9 s m2 k3 b8 0 ⟨none,0,0⟩ 0 0 0 (ByteArray.mk #[]) 0 0 0 pH op sl n m u tx st.k st.n st.x (xn:Int) (many:Int) (i:Int) b16 t.k t.n t.x w4 λr w'=>sU w r w'/\bG w w':=by
   intro t w4 H4
   have e5:IntKind.wrap .i64 (5 *(i:Int))=5 *(i:Int):=IntWalk.i64_in _ (by omega)
   have e6:IntKind.wrap .i64 (1+5 *(i:Int))=1+5 *(i:Int):=IntWalk.i64_in _ (by omega)
   refine ⟨by rw [e5,e6];omega,H4.aL λw5 H5=>H5.aK (Hd (cE.1 (H5.getD 0)) t _ (Zx _) (by unfold lB;exact hl)) ?_⟩
   rintro _ w6 ⟨z,rfl,O4,Nt⟩ H6
   exact ⟨_,rfl,S7 z w6 [] O4 Nt (H6.take 3)⟩
  refine aJ (λho=>aJ (λh2=>?_) (λh2=>H3.aL λw4 H4=>S6 t w4 H4)) (λho=>H3.aL λw4 H4=>S6 t w4 H4)
  have hn:=n9 (H3.get 2)
  have hg:ks[1]? =some (ks[1]'(by omega)):=g8 (by omega)
  have Di:=sQ _ (cR hg)
  generalize ks[1]'(by omega)=kk at hg Di
  refine ⟨by omega,by omega,(kZ (H3.get 2)).cell hg (j:=Int.toNat 1 *1) rfl λp hp _=>H3.aL λw4 H4=>?_⟩
  have A7:l[kk.toNat]? =some (l[kk.toNat]'(by omega)):=g8 (by omega)
  generalize l[kk.toNat]'(by omega)=e at A7
  have hc:w4.cell? (p.add (Int.toNat 1 *1))=some (.int .i64 kk):=by
   have:=(kZ (H4.get 2)).cell hg (j:=Int.toNat 1 *1) rfl (K:=λq=>∃q',sl.a=some q'/\w4.cell? (q'.add (Int.toNat 1 *1))=some (.int .i64 kk)) (λq hq hc=>⟨q,hq,hc⟩)
   rw [hp] at this
   obtain ⟨q,hq,hc⟩:=this
   cases hq
   exact hc
  exact ⟨kk,hc,kD (cE.1 (H4.getD 0)) (i:=kk.toNat) (by omega) A7 λq hq c=>⟨_,_,_,c.s0,c.s1,c.s2,H4.aL λw5 H5=>S6 e.x.st w5 H5⟩⟩
theorem K5 (hn:oo n1) (hm:oo m2) (hk:oo k3) (hl:l.length<=lB) {op n m u:Int} {tx:ByteArray} {st:iw} (hd:yC ⟨op,[],n,m,u,tx,st⟩) (x:Int) (Ns:0<=x) (Wl:x<(l.length:Int)) (w1:World) (H:LH F0 w w1 [.g b8,.g pH] [.gr s l]):
  bM.fB s n1 m2 k3 b8 0 ⟨none,0,0⟩ 0 0 0 (ByteArray.mk #[]) 0 0 0 pH op ⟨none,0,0⟩ n m u tx st.k st.n st.x x w1 λr w'=>sU w r w'/\bG w w':=by
 refine H.aK (Mm op w1) ?_
 rintro _ w2 rfl H2
 have hr:=Ff op
 have S4:∀(x:Int) (w3:World),-1<=x->x<(l.length:Int)->LH F0 w w3 [.g b8,.g pH] [.gr s l]->bM.qb s m2 k3 b8 0 ⟨none,0,0⟩ 0 0 0 (ByteArray.mk #[]) 0 0 0 pH op ⟨none,0,0⟩ n m u tx st.k st.n st.x x (eP op) w3 λr w'=>sU w r w'/\bG w w':=by
  intro x w3 h1 h2 H3
  have H4:=H3.n7 bP 1
  by_cases h0:eP op<0
  .refine bM.nK _ _ _ _ _ _ _ _ _ _ _ _ _ _ _ _ _ _ _ _ _ _ _ _ _ _ _ _ (aI (decide_eq_false (by omega)) (H4.aL λw2 H2=>⟨⟨⟨⟨op,[],n,m,u,tx,st⟩,⟨none,0,0⟩⟩,rfl,hd,Rd.nil w2,λb hb=>by cases hb⟩,H2.fr⟩))
  .have e:eP op=(((eP op).toNat:Nat):Int):=by omega
   show bM.CA _ _ _ _ _ _ _ _ _ _ _ _ _ _ _ _ _ _ _ _ _ _ _ _ (eP op) 0 _ _
   rw [e]
   exact K4 hm hk hl hd (eP op).toNat (by omega) x h1 h2 (eP op).toNat 0 ⟨none,0,0⟩ [] w3 (by omega) rfl (by simp) H4
 have S3:∀(x:Int) (w3:World),-1<=x->x<(l.length:Int)->LH F0 w w3 [.g b8,.g pH] [.gr s l]->bM.ic s n1 m2 k3 b8 0 ⟨none,0,0⟩ 0 0 0 (ByteArray.mk #[]) 0 0 0 pH op ⟨none,0,0⟩ n m u tx st.k st.n st.x x (eP op) w3 λr w'=>sU w r w'/\bG w w':=by
  intro x w3 h1 h2 H3
  refine aJ (λho=>H3.aK (oq 8 w3) ?_) (λho=>S4 x w3 h1 h2 H3)
  rintro _ w4 rfl H4
  refine ⟨_,_,_,rfl,H4.aK (Hd (cE.1 (H4.getD 0)) (jG 8) _ (Zx _) hl) ?_⟩
  rintro _ w5 ⟨z,rfl,O4,Nt⟩ H5
  exact ⟨_,rfl,S4 z w5 O4 Nt H5⟩
 refine ⟨_,rfl,aJ (λho=>H2.aK (oq 1 w2) ?_) (λho=>S3 x w2 (by omega) Wl H2)⟩
 rintro _ w4 rfl H4
 refine ⟨_,_,_,rfl,H4.aK (Hd (cE.1 (H4.getD 0)) (jG 1) _ (Zx _) hl) ?_⟩
 rintro _ w5 ⟨z,rfl,O4,Nt⟩ H5
 exact ⟨_,rfl,S3 z w5 O4 Nt H5⟩
end
def opsL:List Int:=[4,5,6,7,8,9,10,11,12,13,14,15,16,17,18,19,20,21,22,23,24,25,26,27,28,29,30,31,32,33,34,1,2,3,18,18,16,6,24,25]
theorem K6 {i:Nat} {op:Int} (h:opsL[i]? =some op):1<=op/\op<=34:=by
 have h1:(opsL.all λx=>decide (1<=x)&&decide (x<=34))=true:=by decide
 have:=wD.1 h1 op (cR h)
 simpa using this
def Cu:List ByteArray:=[ba [],ba [97],ba [97,98],ba [98],ba [0],ba [97,97]]
theorem Ls {i:Nat} {t:ByteArray} (h:Cu[i]? =some t):t.size<=16:=by
 have h1:(Cu.all λx=>decide (x.size<=16))=true:=by decide
 have:=wD.1 h1 t (cR h)
 simpa using this
theorem Mv {w:World} {s:Sl} {l:List Nd} (h:GP w s l) (hl0:1<=l.length) (hl:l.length<=lB) (hv:∀d∈l,bN d.x.st=true) (n1 m2 k3:Int) (hn:oo n1) (hm:oo m2) (hk:oo k3):
  Calls Tryz.prog iK #[s.v,.i n1,.i m2,.i k3] w λr w'=>sU w r w'/\bG w w':=by
 have hs:=oT h
 refine bM.cU _ _ _ _ w _ ((lhG h).bF λb8 w1 H1=>H1.nw λw2 _ H2=>H2.aK (eX n1 40 w2 (by omega) hn) ?_)
 have hr:=cH n1 40 (by omega)
 generalize dB n1 40=z at hr
 rintro _ w3 rfl H3
 obtain ⟨j,rfl⟩:∃j:Nat,z=(j:Int):=⟨z.toNat,by omega⟩
 have hgo:opsL[j]? =some (opsL[j]'(by show j<40;omega)):=g8 _
 have eH:=K6 hgo
 generalize opsL[j]'(by show j<40;omega)=op at hgo eH
 have iO:cX w3 ⟨some (bD w1.heap.size),40,40⟩ opsL:=oP (T:=bP) (H3.ob 1) rfl
 refine ⟨_,rfl,by omega,by show (j:Int)<40;omega,iO.cell hgo (by omega) λp hp hc=>⟨op,hc,H3.bF λpH w4 H4=>H4.aL λw5 H5=>H5.aK (eX _ _ w5 (by omega) (Zx _)) ?_⟩⟩
 have hrx:=cH (IntKind.wrap .i64 (Int.tdiv n1 64)) ((s.n:Nat):Int) (by omega)
 generalize dB (IntKind.wrap .i64 (Int.tdiv n1 64)) ((s.n:Nat):Int)=x at hrx
 rintro _ w6 rfl H6
 have R:∀{n m u:Int} {tx:ByteArray} {st:iw} {w7:World},yC ⟨op,[],n,m,u,tx,st⟩->LH F0 w w7 [.g b8,.g pH] [.gr s l]->bM.fB s n1 m2 k3 b8 0 ⟨none,0,0⟩ 0 0 0 (ByteArray.mk #[]) 0 0 0 pH op ⟨none,0,0⟩ n m u tx st.k st.n st.x x w7 λr w'=>sU w r w'/\bG w w':=λhd H7=>K5 hn hm hk hl hd x (by omega) (by omega) _ H7
 have H6:LH F0 w w6 [.g b8,.g pH] [.gr s l]:=H6.tJ [true,false,true]
 have em:ByteArray.mk #[]=ba []:=rfl
 have base:∀{n m u:Int} {tx:ByteArray} {st:iw},0<=n/\n<=100->0<=m/\m<=100->0<=u/\u<=1000->(op≠33->tx.size<=16)->(op=33->∃k,tx=ba (qQ k))->yC ⟨op,[],n,m,u,tx,st⟩:=λh1 h2 h3 h4 h5=>⟨by show -1<=op;omega,eH.2,by simp,h1,h2,h3,h4,h5⟩
 have zz:(0:Int)<=0/\(0:Int)<=100:=by decide
 have z2:(0:Int)<=0/\(0:Int)<=1000:=by decide
 refine ⟨_,rfl,aJ (λh1=>?_) (λh1=>aJ (λh2=>?_) (λh2=>aJ (λh3=>?_) (λh3=>aJ (λh4=>?_) (λh4=>?_))))⟩
 .refine H6.aK (eX m2 3 w6 (by omega) hm) ?_
  have hr3:=cH m2 3 (by omega)
  generalize dB m2 3=v at hr3
  rintro _ w7 rfl H7
  refine ⟨_,rfl,?_⟩
  have S1:∀(wv:Int),1<=wv->wv<=7->bM.gm s n1 m2 k3 b8 0 ⟨none,0,0⟩ 0 0 0 (ByteArray.mk #[]) 0 0 0 pH op ⟨none,0,0⟩ 0 0 0 (ByteArray.mk #[]) 0 0 0 x wv w7 λr w'=>sU w r w'/\bG w w':=by
   intro wv h5 h6
   refine H7.aK (oq wv w7) ?_
   rintro _ w8 rfl H8
   have hc:∃c:Nat,(if 3<wv then (3:Int) else wv)=(c:Int)/\1<=c/\c<=3:=⟨(if 3<wv then (3:Int) else wv).toNat,by split<;>omega,by split<;>omega,by split<;>omega⟩
   obtain ⟨c,hc,c1,c2⟩:=hc
   rw [hc]
   have ec:IntKind.wrap .u64 (c:Int)=(c:Int):=IntWalk.u64_in _ (by omega)
   rw [ec]
   have ep:∃q:Int,IntKind.wrap .i64 (1 *2^min (Int.toNat (c:Int)) (IntKind.bits .i64))=q/\1<=q/\q<=8:=by
    have:c=1\/c=2\/c=3:=by omega
    rcases this with rfl|rfl|rfl
    .exact ⟨2,by decide,by decide,by decide⟩
    .exact ⟨4,by decide,by decide,by decide⟩
    .exact ⟨8,by decide,by decide,by decide⟩
   obtain ⟨q,eq,q1,q2⟩:=ep
   rw [eq]
   refine ⟨_,_,_,rfl,by omega,H8.aL λw9 H9=>H9.aK (eX k3 q w9 (by omega) hk) ?_⟩
   have hrq:=cH k3 q (by omega)
   generalize dB k3 q=a at hrq
   rintro _ pE rfl mJ
   have ea:IntKind.wrap .u64 a=a:=IntWalk.u64_in _ (by omega)
   refine ⟨_,rfl,mJ.aL λsj qR=>?_⟩
   rw [ea]
   exact R (st:=jG wv) (base zz zz (by omega) (λ_=>by decide) (λh=>by omega)) qR
  have e1:IntKind.wrap .i64 (1+v)=1+v:=IntWalk.i64_in _ (by omega)
  show bM.dV s n1 m2 k3 b8 0 ⟨none,0,0⟩ 0 0 0 _ 0 0 0 pH op ⟨none,0,0⟩ 0 0 0 _ 0 0 0 x (IntKind.wrap .i64 (1+v)) w7 _
  rw [e1]
  exact aJ (λ_=>S1 7 (by decide) (by decide)) (λ_=>S1 _ (by omega) (by omega))
 .refine H6.nw λw7 _ H7=>H7.aK (eX m2 6 w7 (by omega) hm) ?_
  have hr6:=cH m2 6 (by omega)
  generalize dB m2 6=v at hr6
  rintro _ w8 rfl H8
  obtain ⟨i,rfl⟩:∃i:Nat,v=(i:Int):=⟨v.toNat,by omega⟩
  have Sx:Cu[i]? =some (Cu[i]'(by show i<6;omega)):=g8 _
  have zL:=Ls Sx
  generalize Cu[i]'(by show i<6;omega)=t at Sx zL
  have iO:Rd w8 ⟨some (bD w6.heap.size),6,6⟩ (Cu.map Value.string):=xd (T:=cJ) (H8.ob 2) rfl
  refine ⟨_,rfl,by omega,by show (i:Int)<6;omega,Rd.get iO (i:=i) (v:=.string t) (by simp [Sx]) (by omega) λp hp hc=>⟨t,hc,H8.aL λw9 H9=>?_⟩⟩
  exact R (st:=o4) (base zz zz z2 (λ_=>zL) (λh=>by omega)) (H9.take 2)
 .refine H6.nw λw7 _ H7=>H7.aK (eX m2 2 w7 (by omega) hm) ?_
  have Dl:=cH m2 2 (by omega)
  generalize dB m2 2=v at Dl
  rintro _ w8 rfl H8
  obtain ⟨i,rfl⟩:∃i:Nat,v=(i:Int):=⟨v.toNat,by omega⟩
  have Sx:([⟨2,2,1⟩,⟨3,1,1⟩]:List iw)[i]? =some (([⟨2,2,1⟩,⟨3,1,1⟩]:List iw)[i]'(by show i<2;omega)):=g8 _
  generalize ([⟨2,2,1⟩,⟨3,1,1⟩]:List iw)[i]'(by show i<2;omega)=t at Sx
  have iO:jU 3 w8 ⟨some (bD w6.heap.size),2,2⟩ (([⟨2,2,1⟩,⟨3,1,1⟩]:List iw).flatMap pY):=vH (T:=aS) (H8.ob 2) rfl
  obtain ⟨g1,g2,g3⟩:=fD iO rfl Sx (K:=λp=>dN w8 (p.add (Int.toNat (i:Int) *3)) λa b c=>loc [b8,pH] w8 λw9=>bM.fB s n1 m2 k3 b8 0 ⟨none,0,0⟩ 0 0 0 (ByteArray.mk #[]) 0 0 0 pH op ⟨none,0,0⟩ 0 0 0 (ByteArray.mk #[]) a b c x w9 λr w'=>sU w r w'/\bG w w') (λp hp c=>⟨_,_,_,c.c0,c.c1,c.c2,H8.aL λw9 H9=>R (st:=t) (base zz zz z2 (λ_=>by decide) (λh=>by omega)) (H9.take 2)⟩)
  exact ⟨_,rfl,g1,g2,g3⟩
 .obtain ⟨xn,rfl⟩:∃xn:Nat,x=(xn:Int):=⟨x.toNat,by omega⟩
  have hg:l[xn]? =some (l[xn]'(by omega)):=g8 (by omega)
  generalize l[xn]'(by omega)=e at hg
  have hve:=nc (hv e (cR hg))
  refine kD (cE.1 (H6.getD 0)) rfl hg λp hp c=>⟨_,c.s1,H6.aK (eX m2 _ w6 (by split<;>omega) hm) ?_⟩
  have hr7:=cH m2 (if 1<e.x.st.n then e.x.st.n else 1) (by split<;>omega)
  generalize dB m2 (if 1<e.x.st.n then e.x.st.n else 1)=a at hr7
  have ha:a<64:=by
   have:=hr7.2
   split at this<;>omega
  rintro _ w7 rfl H7
  have e1:IntKind.wrap .i64 (a+1)=a+1:=IntWalk.i64_in _ (by omega)
  refine ⟨_,rfl,H7.aL λw8 H8=>H8.aK (eX k3 _ w8 (by rw [e1];omega) hk) ?_⟩
  rw [e1]
  have hr8:=cH k3 (a+1) (by omega)
  generalize dB k3 (a+1)=b at hr8
  rintro _ w9 rfl H9
  exact ⟨_,rfl,H9.aL λpE mJ=>R (st:=o4) (base (by omega) (by omega) z2 (λ_=>by decide) (λh=>by omega)) mJ⟩
 have S8:op≠33->bM.R8 s n1 m2 k3 b8 0 ⟨none,0,0⟩ 0 0 0 (ByteArray.mk #[]) 0 0 0 pH op ⟨none,0,0⟩ 0 0 0 (ByteArray.mk #[]) 0 0 0 x w6 λr w'=>sU w r w'/\bG w w':=by
  intro oJ
  refine H6.aK (eX m2 2 w6 (by omega) hm) ?_
  have Dl:=cH m2 2 (by omega)
  generalize dB m2 2=v at Dl
  rintro _ w7 rfl H7
  have e1:IntKind.wrap .i64 (1+v)=1+v:=IntWalk.i64_in _ (by omega)
  refine ⟨_,rfl,H7.aL λw8 H8=>?_⟩
  rw [e1]
  exact R (st:=o4) (base (by omega) zz z2 (λ_=>by decide) (λh=>absurd h oJ)) H8
 refine aJ (λh5=>aQ (beq_iff_eq.2 h5) (S8 (by omega))) (λh5=>aJ (λh6=>S8 (by omega)) (λh6=>aJ (λh7=>?_) (λh7=>aJ (λh8=>H6.aK (Uj m2 hm w6) ?_) (λh8=>R (st:=o4) (base zz zz z2 (λ_=>by decide) (λh=>absurd h h8)) H6))))
 .refine H6.aK (eX m2 3 w6 (by omega) hm) ?_
  have Dl:=cH m2 3 (by omega)
  generalize dB m2 3=v at Dl
  rintro _ w7 rfl H7
  exact ⟨_,rfl,H7.aL λw8 H8=>R (st:=o4) (base (by omega) zz z2 (λ_=>by decide) (λh=>by omega)) H8⟩
 .rintro _ w7 ⟨k,rfl⟩ H7
  exact ⟨_,rfl,H7.aL λw8 H8=>R (st:=o4) (base zz zz z2 (λh=>absurd h8 h) (λ_=>⟨k,rfl⟩)) H8⟩
theorem yC.ok {d:Nx} (h:yC d):V7 d:=by
 refine ⟨by have:=h.kl;unfold lB;omega,?_,?_,λoJ=>?_⟩
 .have:=h.n
  exact ⟨by omega,by omega⟩
 .have:=h.m
  exact ⟨by omega,by omega⟩
 .obtain ⟨k,hk⟩:=h.re oJ
  rw [hk]
  refine ⟨?_,true,MI k⟩
  rw [cD]
  have:=Gp k
  omega
theorem tT.ok {g:List Nx} (h:tT g) (hl:g.length<=lB):YO g:=⟨hl,h.vg.val,h.vg.vars⟩
theorem vD (g:List Nx) (n:Nx):(eU g n).1.length<=g.length+1:=by
 unfold eU
 split
 .simp
 .split
  .simp
  .split
   .simp
   .simp
theorem uO {g:List Nx} {n:Nx} (h:(eU g n).2.2=0):(dI g n).2=0/\∃k:Nat,(eU g n).2.1=(k:Int)/\(eU g n).1[k]? =some (eM n (dI g n).1)/\((eU g n).1=g\/(eM n (dI g n).1∉g/\(eU g n).1=g++[eM n (dI g n).1]/\k=g.length)):=by
 unfold eU at h ⊢
 split at h
 .rename_i h0
  exact absurd h h0
 rename_i h0
 have h0:(dI g n).2=0:=by omega
 refine ⟨h0,?_⟩
 rw [if_neg (by omega)]
 cases hi:l4 (eM n (dI g n).1) g 0 with
 |some i=>
  have:=rv hi
  rw [Nat.sub_zero] at this
  exact ⟨i,rfl,this.2,.inl rfl⟩
 |none=>
  rw [hi] at h
  dsimp only at h ⊢
  split at h
  .cases h
  .rename_i h4
   rw [if_neg h4]
   exact ⟨g.length,rfl,by simp,.inr ⟨tm hi,rfl,rfl⟩⟩
theorem Ub {g:List Nx} {n:Nx} (hg:Vg g) (h:(eU g n).2.2=0):Vg (eU g n).1:=by
 obtain ⟨h0,k,_,_,h3⟩:=uO h
 rcases h3 with h3|⟨h4,h5,_⟩
 .rw [h3];exact hg
 .rw [h5]
  exact .snoc hg (va (by rw [<-h0])) h4
theorem wY {g:List Nx} {n:Nx} (hg:tT g) (hn:yC n) (h:(eU g n).2.2=0):tT (eU g n).1:=by
 refine ⟨Ub hg.vg h,λd hd=>?_⟩
 obtain ⟨h0,k,_,_,h3⟩:=uO h
 rcases h3 with h3|⟨h4,h5,_⟩
 .rw [h3] at hd;exact hg.nd d hd
 .rw [h5] at hd
  rcases fS.1 hd with hd|hd
  .exact hg.nd d hd
  .simp only [cS,fF,or_false] at hd
   subst hd
   exact ⟨hn.Zk,hn.Zl,hn.kl,hn.n,hn.m,hn.u,hn.tx,hn.re⟩
theorem tT.kl {l:List Nd} (h:tT (xs l)):∀e∈l,e.x.kids.length<=lB:=λe he=>by
 have:=(h.nd e.x (pX.2 ⟨e,he,rfl⟩)).kl
 unfold lB
 omega
def Bp (w:World) (ou:Nat) (r:Ending) (w':World):Prop:=∃(s:Sl) (l:List Nd),r=.returned s.v/\tT (xs l)/\1<=l.length/\l.length<=10+ou/\GP w' s l/\∀b∈(En.gr s l).fp,w.heap.size<=b
theorem Mn {w:World} {ls:Sl} {ns:List Int} (hr:cX w ls ns) (Qk:∀x∈ns,oo x) (hnl:ns.length<=9223372036854775807) (kind:Int) (ou:Nat) (hm:ou<=1000):
  Calls Tryz.prog iI #[ls.v,.i kind,.i (ou:Int)] w λr w'=>Bp w ou r w'/\bG w w':=by
 have hn:=cX.len hr
 have loop:∀(m i:Nat) (gs:Sl) (l:List Nd) (w1:World),i+m=ou->tT (xs l)->1<=l.length->l.length<=10+i->(∀b∈(En.gr gs l).fp,w.heap.size<=b)->LH F0 w w1 [] [.rd ls (ns.map eI),.gr gs l]->
   enthymemeref07_Made.eE ls kind (ou:Int) gs ((3 *i:Nat):Int) w1 λr w'=>Bp w ou r w'/\bG w w':=by
  intro m
  have e3:IntKind.wrap .i64 (3 *(ou:Int))=3 *(ou:Int):=IntWalk.i64_in _ (by omega)
  induction m with
  |zero=>
   intro i gs l w1 hi hg h1 h2 hf H
   have fin:enthymemeref07_Made.ic gs w1 λr w'=>Bp w ou r w'/\bG w w':=⟨⟨gs,l,rfl,hg,h1,by omega,cE.1 (H.getD 1),hf⟩,H.fr⟩
   exact enthymemeref07_Made.aY _ _ _ _ _ _ _ (aN (λ_=>aI (decide_eq_false (by rw [e3];omega)) fin) (λ_=>fin))
  |succ m ih=>
   intro i gs l w1 hi hg h1 h2 hf H
   have fin:enthymemeref07_Made.ic gs w1 λr w'=>Bp w ou r w'/\bG w w':=⟨⟨gs,l,rfl,hg,h1,by omega,cE.1 (H.getD 1),hf⟩,H.fr⟩
   have w1':IntKind.wrap .i64 (((3 *i:Nat):Int)+1)=((3 *i+1:Nat):Int):=IntWalk.i64_in _ (by omega)
   have w2':IntKind.wrap .i64 (((3 *i:Nat):Int)+2)=((3 *i+2:Nat):Int):=IntWalk.i64_in _ (by omega)
   have w3':IntKind.wrap .i64 (((3 *i:Nat):Int)+3)=((3 *(i+1):Nat):Int):=IntWalk.i64_in _ (by omega)
   have next:∀(Wb:Sl) (l':List Nd) (w5:World),tT (xs l')->1<=l'.length->l'.length<=10+(i+1)->(∀b∈(En.gr Wb l').fp,w.heap.size<=b)->LH F0 w w5 [] [.rd ls (ns.map eI),.gr Wb l']->enthymemeref07_Made.fB ls kind (ou:Int) Wb ((3 *i:Nat):Int) w5 λr w'=>Bp w ou r w'/\bG w w':=by
    intro Wb l' w5 g1 g2 g3 g4 H5
    show enthymemeref07_Made.eE ls kind (ou:Int) Wb (IntKind.wrap .i64 (((3 *i:Nat):Int)+3)) w5 _
    rw [w3']
    exact ih (i+1) Wb l' w5 (by omega) g1 g2 g3 g4 H5
   have S1:∀(b9:Nat) (d:Nd) (w3:World) (L:List En),En.g b9∈L->yC d.x->d.P w3->(∀b∈aZ d.ks,w.heap.size<=b)->LH F0 w w3 L [.rd ls (ns.map eI),.gr gs l,dG d]->enthymemeref07_Made.gm ls kind (ou:Int) gs ((3 *i:Nat):Int) b9 d.x.op d.ks d.x.n d.x.m d.x.u d.x.tx d.x.st.k d.x.st.n d.x.st.x w3 λr w'=>Bp w ou r w'/\bG w w':=by
    intro b9 d w3 L hb9 hd pd fd H3
    have nT:(xs l).length=l.length:=by simp [xs]
    have H3:LH F0 w w3 [] [.rd ls (ns.map eI),.gr gs l,dG d]:=H3.take 0
    refine nN ((My (cE.1 (H3.getD 1)) pd (hg.ok (by rw [nT];unfold lB;omega)) hd.ok hg.kl).mono ?_)
    rintro _ w4 ⟨⟨s',rfl,⟨l',Nr,G',F'⟩⟩,f4⟩
    have qB:∀b∈(En.gr s' l').fp,w.heap.size<=b:=λb hb=>by
     rcases F' b hb with (h|h)|h
     .exact hf b h
     .exact uE fd b h
     .exact Nat.le_trans H3.fr.size h
    have H4:=H3.pI f4
    have H4':LH F0 w w4 [] [.rd ls (ns.map eI),.gr s' l']:=(H3.nf (.gr s' l') f4 (cE.2 G') (λb hb=>by
     rcases F' b hb with (h|h)|h
     .exact .inr (.inr ⟨_,cR (i:=1) rfl,h⟩)
     .exact .inr (.inr ⟨_,cR (i:=2) rfl,h⟩)
     .exact .inl h)).forget _ (by simp)
    have Wy:∀{w6:World},LH F0 w w6 [] [.rd ls (ns.map eI),.gr gs l,dG d]->LH F0 w w6 [] [.rd ls (ns.map eI),.gr gs l]:=λH=>H.forget _ (by simp)
    refine ⟨f4,_,_,_,rfl,aJ (λh0=>?_) (λh0=>next gs l w4 hg h1 (by omega) hf (Wy H4))⟩
    obtain ⟨_,k,Di,sM,_⟩:=uO h0
    have Qi:tT (xs l'):=by rw [Nr];exact wY hg hd h0
    have zJ:l'.length<=10+(i+1):=by
     have:=vD (xs l) d.x
     rw [<-Nr] at this
     simp only [xs,List.length_map] at this
     omega
    rw [<-Nr] at sM
    have Qh:k<l'.length:=by
     have:=(ov.1 sM).1
     simpa [xs] using this
    have A7:l'[k]? =some (l'[k]'Qh):=g8 Qh
    generalize l'[k]'Qh=e at A7
    rw [Di]
    refine kD (cE.1 (H4'.getD 1)) rfl A7 λp hp c=>⟨_,_,_,c.s0,c.s1,c.s2,?_⟩
    refine nN ((Hj kind e.x.st w4).mono ?_)
    rintro _ w5 ⟨⟨b,rfl⟩,f5⟩
    have H5:=H4'.pI f5
    have ZG:=Wy (H4.pI f5)
    refine ⟨f5,_,rfl,bA (λ_=>?_) (λ_=>next gs l w5 hg h1 (by omega) hf ZG)⟩
    refine kD (cE.1 (H5.getD 1)) rfl A7 λp' Ji c'=>⟨_,c'.s1,aN (λ_=>?_) (λ_=>next gs l w5 hg h1 (by omega) hf ZG)⟩
    have Nq:∀(i:Nat) (d:Nd),l'[i]? =some d->d.x.kids.length<=1000000/\∀k∈d.x.kids,0<=k/\k<(i:Int):=λi d hd=>by
     have Sn:=sv hd
     have:=(Qi.nd d.x (cR Sn)).kl
     exact ⟨by omega,Qi.vg.kids Sn⟩
    refine nN ((MD (cE.1 (H5.getD 1)) Nq (k+1) k (by omega) Qh w5 (Fr.refl _ _)).mono ?_)
    rintro _ w6 ⟨⟨z,rfl⟩,f6⟩
    have f6:bG w5 w6:=f6
    exact ⟨f6,_,rfl,aN (λ_=>next s' l' w6 Qi (by omega) zJ qB (H5.pI f6)) (λ_=>next gs l w6 hg h1 (by omega) hf (ZG.pI f6))⟩
   refine enthymemeref07_Made.aY _ _ _ _ _ _ _ ?_
   rw [w1',w2',e3]
   refine aN (λlV=>aQ (decide_eq_true (by omega)) (H.dr λw2 H2=>?_)) (λ_=>fin)
   have h2n:cX w2 ls ns:=H2.getD 0
   have g0:ns[3 *i]? =some (ns[3 *i]'(by omega)):=g8 (by omega)
   have g1:ns[3 *i+1]? =some (ns[3 *i+1]'(by omega)):=g8 (by omega)
   have g2:ns[3 *i+2]? =some (ns[3 *i+2]'(by omega)):=g8 (by omega)
   generalize ns[3 *i]'(by omega)=x0 at g0
   generalize ns[3 *i+1]'(by omega)=x1 at g1
   generalize ns[3 *i+2]'(by omega)=x2 at g2
   refine ⟨by omega,by omega,h2n.cell g0 (by omega) λp0 hp0 c0=>⟨x0,c0,by omega,by omega,h2n.cell g1 (by omega) λp1 hp1 c1=>⟨x1,c1,by omega,by omega,h2n.cell g2 (by omega) λp2 hp2 c2=>⟨x2,c2,?_,?_⟩⟩⟩⟩
   .have N:=Mv (cE.1 (H2.getD 1)) h1 (by unfold lB;omega) (λd hd=>hg.vg.val d.x (pX.2 ⟨d,hd,rfl⟩)) x0 x1 x2 (Qk _ (cR g0)) (Qk _ (cR g1)) (Qk _ (cR g2))
    refine H2.BG N ?_
    rintro _ w3 ⟨d,rfl,hd,pd,fd⟩ _ F3
    have H3:=F3.rd (dG d) pd (uE fd)
    refine ⟨_,_,_,_,_,_,_,_,_,rfl,H3.bF λb9 w4 H4=>H4.aL λw5 H5=>?_⟩
    exact S1 b9 d w5 _ (by simp) hd (H5.getD 2) (λb hb=>Nat.le_trans H2.fr.size (fd b hb)) H5
   .refine H2.bF λb9 w3 H3=>?_
    have h3n:cX w3 ls ns:=H3.getD 0
    have again:∀{j:Nat} {x:Int} {p:Addr} {X:Nat},ns[j]? =some x->ls.a=some p->X=j *1->w3.cell? (p.add X)=some (.int .i64 x):=by
     intro j x p X hg hp hX
     have:=h3n.cell hg hX (K:=λq=>∃q',ls.a=some q'/\w3.cell? (q'.add X)=some (.int .i64 x)) (λq hq hc=>⟨q,hq,hc⟩)
     rw [hp] at this
     obtain ⟨q,hq,hc⟩:=this
     cases hq
     exact hc
    have N:=Mv (cE.1 (H3.getD 1)) h1 (by unfold lB;omega) (λd hd=>hg.vg.val d.x (pX.2 ⟨d,hd,rfl⟩)) x0 x1 x2 (Qk _ (cR g0)) (Qk _ (cR g1)) (Qk _ (cR g2))
    refine ⟨again g2 hp2 (by omega),again g1 hp1 (by omega),again g0 hp0 (by omega),H3.ri N ?_⟩
    rintro _ w4 ⟨d,rfl,hd,pd,fd⟩ _ F4
    have H4:=F4.rd (dG d) pd (uE fd)
    refine ⟨_,_,_,_,_,_,_,_,_,rfl,H4.aL λw5 H5=>?_⟩
    exact S1 b9 d w5 _ (by simp) hd (H5.getD 2) (λb hb=>Nat.le_trans H3.fr.size (fd b hb)) H5
 refine enthymemeref07_Made.cU _ _ _ w _ ((Pz kind w).mono ?_)
 rintro _ w1 ⟨⟨s,rfl,⟨l,hl,G,F⟩⟩,f1⟩
 have hlen:=Lm kind
 have UX:l.length=(jS kind).length:=by
  have:=congrArg List.length hl
  simpa [xs] using this
 have qB:∀b∈(En.gr s l).fp,w.heap.size<=b:=λb hb=>(F b hb).resolve_left id
 have H:LH F0 w w [] [.rd ls (ns.map eI)]:=mu _ (by
  intro e he
  simp only [cS,fF,or_false] at he
  subst he
  exact hr)
 have H1:=H.nf (.gr s l) f1 (cE.2 G) (λb hb=>.inl (qB b hb))
 exact ⟨s,rfl,loop ou 0 s l w1 (by omega) (by rw [hl];exact Ov kind) (by omega) (by omega) qB H1⟩
end Go.Proofs.YtcifihepfadgfaaGreatDoor
