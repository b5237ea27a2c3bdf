import Derived.Test.YtnpkhgljhcnpcaaGreatDoorTP
import Derived.Test.YtnpkhgljhcnpcaaGreatDoorT1
set_option linter.unusedVariables false
set_option maxRecDepth 100000
set_option maxHeartbeats 1000000
set_option linter.defProp false
namespace Go.Proofs.YtnpkhgljhcnpcaaGreatDoor
open Go renaming World->aA,Calls->aH
open Go.IntKind renaming wrap->aC
open _root_.Int renaming toNat->aF
open _root_.ByteArray renaming mk->aE
open Go.IntWalk renaming i64_in->aS
open Go.Proofs.Tryz renaming prog->aB
open _root_.Decidable renaming decide->aR
open Go.Ending renaming returned->aJ
open List renaming mem_append->gg,mem_cons->dT,not_mem_nil->gL,mem_of_getElem?->dI,getElem?_eq_getElem->ie,getElem?_eq_some_iff->nY,mem_map->pN,all_eq_true->wo
open Go Go.W
def jk (n m:Int) (w:aA) (hm:1<=m) (h:qS n):aH aB bN #[.i n,.i m] w λr w'=>r=aJ (.i (gX n m))/\bW w w':=(Bg n m w hm h).mono λr w' h=>⟨h.1,h.2▸Fr.refl _ _⟩
def Li (t:List UInt8) (s:iQ):Nx:=⟨0,[],0,0,0,ba t,s⟩
def AN (t:List UInt8) (s:iQ):Nd:=⟨Li t s,⟨none,0,0⟩⟩
def rK:List Nd:=[AN [97] (kP 2),AN [98] (kP 2),AN [99] (kP 1),AN [100] (kP 3)]
def rL:List Nd:=[AN [109] ⟨2,2,1⟩,AN [110] ⟨2,2,1⟩]
def pE:List Nd:=[AN [115] (oM 2),AN [116] (oM 1),AN [105] (kP 7),AN [122] ⟨3,1,1⟩]
def gU (kind:Int):List Nd:=rK++(if kind>0 then rL else [])++(if kind>1 then pE else [])
def vgB (l:List Nx):Bool:=(List.range l.length).all λi=>match l[i]? with
 |some n=>aR (eF (l.take i) n=(n.st,0))&&aR (n∉l.take i)
 |none=>false
def M6 {l:List Nx} (h:vgB l=true):Vg l:=by
 have main:∀i,i<=l.length->Vg (l.take i):=by
  intro i
  induction i with
  |zero=>intro _;rw [List.take_zero];exact .nil
  |succ i ih=>
   intro hi
   have h1:=wo.1 h i (List.mem_range.2 (by omega))
   have hg:l[i]? =some (l[i]'(by omega)):=ie (by omega)
   rw [hg] at h1
   dsimp only at h1
   rw [List.take_add_one,hg]
   simp only [Bool.and_eq_true,decide_eq_true_eq] at h1
   exact .snoc (ih (by omega)) h1.1 h1.2
 have:=main l.length (Nat.le_refl _)
 rwa [List.take_length] at this
def Sf (kind:Int):Vg (xs (gU kind)):=by
 unfold gU
 split
 .split
  .exact M6 (by kernel_rfl)
  .exact M6 (by kernel_rfl)
 .split
  .exact M6 (by kernel_rfl)
  .exact M6 (by kernel_rfl)
structure MdN (d:Nx):Prop where
 op1:-1<=d.op
 op2:d.op<=34
 kl:d.kids.length<=3
 n:0<=d.n/\d.n<=100
 m:0<=d.m/\d.m<=100
 u:0<=d.u/\d.u<=1000
 tx:d.op≠33->d.tx.size<=16
 re:d.op=33->∃k,d.tx=ba (sC k)
structure wh (g:List Nx):Prop where
 vg:Vg g
 nd:∀d∈g,MdN d
def Se (kind:Int):wh (xs (gU kind)):=by
 refine ⟨Sf kind,λd hd=>?_⟩
 have h:∃t s,d=Li t s/\t.length<=16:=by
  have h1:d∈xs (rK++rL++pE):=by
   obtain ⟨a,ha,rfl⟩:=pN.1 hd
   refine pN.2 ⟨a,?_,rfl⟩
   unfold gU at ha
   rcases gg.1 ha with ha|ha
   .rcases gg.1 ha with ha|ha
    .simp [ha]
    .split at ha
     .simp [ha]
     .cases ha
   .split at ha
    .simp [ha]
    .cases ha
  simp only [xs,rK,rL,pE,AN,List.cons_append,List.nil_append,List.map_cons,List.map_nil,dT,gL,or_false] at h1
  rcases h1 with rfl|rfl|rfl|rfl|rfl|rfl|rfl|rfl|rfl|rfl<;>exact ⟨_,_,rfl,by decide⟩
 obtain ⟨t,s,rfl,ht⟩:=h
 exact ⟨by show (-1:Int)<=0;omega,by show (0:Int)<=34;omega,by simp [Li],by simp [Li],by simp [Li],by simp [Li],λ_=>by show (ba t).size<=16;rw [cN];exact ht,λh=>by cases h⟩
def Aw {kind:Int}:∀d∈gU kind,d.x.kids=[]/\d.ks=⟨none,0,0⟩:=by
 intro d hd
 have h1:d∈rK++rL++pE:=by
  unfold gU at hd
  rcases gg.1 hd with ha|ha
  .rcases gg.1 ha with ha|ha
   .simp [ha]
   .split at ha
    .simp [ha]
    .cases ha
  .split at ha
   .simp [ha]
   .cases ha
 simp only [rK,rL,pE,AN,Li,List.cons_append,List.nil_append,dT,gL,or_false] at h1
 rcases h1 with rfl|rfl|rfl|rfl|rfl|rfl|rfl|rfl|rfl|rfl<;>exact ⟨rfl,rfl⟩
def Sd {kind:Int} {w w0:aA} {s:Sl} (h:lN 9 w s ((gU kind).flatMap Nd.c)) (hf:∀b∈bQ s,w0.heap.size<=b):GR w0 F0 (xs (gU kind)) s w:=by
 refine ⟨gU kind,rfl,⟨h,λd hd=>?_⟩,λb hb=>.inr ?_⟩
 .obtain ⟨h1,h2⟩:=Aw d hd
  show hU w d.ks d.x.kids
  rw [h1,h2]
  exact Rd.nil w
 .rcases vj.1 hb with hb|⟨d,hd,hb⟩
  .exact Gf hf b hb
  .obtain ⟨h1,h2⟩:=Aw d hd
   unfold fV at hb
   rw [h1] at hb
   cases hb
def OC (kind:Int):1<=(gU kind).length/\(gU kind).length<=10:=by
 unfold gU
 split<;>split<;>decide
def TD (kind:Int) (w:aA):aH aB lC #[.i kind] w λr w'=>(∃s:Sl,r=aJ s.v/\GR w F0 (xs (gU kind)) s w')/\bW w w':=by
 refine enthymemeref07_start.ok kind w _ ((og [] (by simp)).call (pU 2 w) ?_)
 rintro _ w1 rfl H1
 refine ⟨_,_,_,rfl,H1.call (pU 2 w1) ?_⟩
 rintro _ w2 rfl H2
 refine ⟨_,_,_,rfl,H2.call (pU 1 w2) ?_⟩
 rintro _ w3 rfl H3
 refine ⟨_,_,_,rfl,H3.call (pU 3 w3) ?_⟩
 rintro _ w4 rfl H4
 refine ⟨_,_,_,rfl,H4.ko (n:=4) (sz:=9) (cs:=rK.flatMap Nd.c) rfl (by decide) λw5 H5=>?_⟩
 have fin:∀(l:Sl) (w6:aA) (L:List En) (j:Nat),LH F0 w w6 L []->L[j]? =some (.row bE 9 l ((gU kind).flatMap Nd.c))->(∃s:Sl,Ending.returned l.v=aJ s.v/\GR w F0 (xs (gU kind)) s w6)/\bW w w6:=λl w6 L j H6 hj=>
  ⟨⟨l,rfl,Sd (H6.get j hj:bD _ _ _ _ _).jG λb hb=>(H6.new _ (dI hj) b hb).resolve_right id⟩,H6.fr⟩
 have S0:∀(l:Sl) (w6:aA) (L:List En) (j:Nat) (ds:List Nd),LH F0 w w6 L []->ds.length<=6->gU kind=ds++(if kind>1 then pE else [])->L[j]? =some (.row bE 9 l (ds.flatMap Nd.c))->enthymemeref07_start.S0 kind l w6 λr w'=>(∃s:Sl,r=aJ s.v/\GR w F0 (xs (gU kind)) s w')/\bW w w':=by
  intro l w6 L j ds H6 hds he hj
  refine bA (λh1=>?_) (λh1=>?_)
  .rw [aN h1] at he
   refine H6.call (nt 2 w6) ?_
   rintro _ w7 rfl H7
   refine ⟨_,_,_,rfl,H7.call (nt 1 w7) ?_⟩
   rintro _ w8 rfl H8
   refine ⟨_,_,_,rfl,H8.call (pU 7 w8) ?_⟩
   rintro _ w9 rfl H9
   refine ⟨_,_,_,rfl,H9.ko (n:=4) (sz:=9) (cs:=pE.flatMap Nd.c) rfl (by decide) λtB qe=>?_⟩
   have Uf:(L++[En.row bE 9 ⟨some (bO w9.heap.size),4,4⟩ (pE.flatMap Nd.c)])[j]? =some (.row bE 9 l (ds.flatMap Nd.c)):=by
    rw [List.getElem?_append_left (nY.1 hj).1];exact hj
   have aaO:(L++[En.row bE 9 ⟨some (bO w9.heap.size),4,4⟩ (pE.flatMap Nd.c)])[L.length]? =some (.row bE 9 ⟨some (bO w9.heap.size),4,4⟩ (pE.flatMap Nd.c)):=by simp
   have hn:l.n=ds.length:=by
    have:=(qe.get j Uf:bD _ _ _ _ _).len
    rw [Nd.kz] at this
    omega
   have Ie:lN 9 tB ⟨some (bO w9.heap.size),4,4⟩ (pE.flatMap Nd.c):=(qe.get L.length aaO:bD _ _ _ _ _).jG
   refine qe.ap j qY (src:=⟨some (bO w9.heap.size),4,4⟩) Uf Ie.2.2 Ie.1 xr (by simp only;omega) (λs' yY y8 _ _=>?_)
   refine fin s' yY _ j y8 ?_
   rw [List.getElem?_set_self (by simp;have:=(nY.1 hj).1;omega),he,List.flatMap_append]
  .rw [aI h1,List.append_nil] at he
   rw [<-he] at hj
   exact fin l w6 L j H6 hj
 refine bA (λh0=>H5.ko (n:=2) (sz:=9) (cs:=rL.flatMap Nd.c) rfl (by decide) λw6 H6=>?_) (λh0=>?_)
 .have Ie:lN 9 w6 ⟨some (bO w5.heap.size),2,2⟩ (rL.flatMap Nd.c):=(H6.get 1:bD _ _ _ _ _).jG
  refine H6.ap 0 qY (s:=⟨some (bO w4.heap.size),4,4⟩) (src:=⟨some (bO w5.heap.size),2,2⟩) rfl Ie.2.2 Ie.1 xr (by show (4+2) *96<=_;omega) (λs' w7 H7 _ _=>?_)
  refine S0 s' w7 _ 0 (rK++rL) H7 (by decide) ?_ ?_
  .unfold gU;rw [aN h0]
  .rw [List.flatMap_append];rfl
 .refine S0 ⟨some (bO w4.heap.size),4,4⟩ w5 _ 0 rK H5 (by decide) ?_ rfl
  unfold gU;rw [aI h0,List.append_nil]
def Kc (kind:Int) (s:iQ) (w:aA):aH aB kI #[.i kind,kQ s] w λr w'=>(∃b:Bool,r=aJ (.bool b))/\bW w w':=
 enthymemeref07_within.dQ _ _ _ _ w _ ((og [] (by simp)).cC λb w1 H1=>aY (λh=>⟨⟨_,rfl⟩,H1.fr⟩) (λh=>bA (λh=>aY (λh=>⟨⟨_,rfl⟩,H1.fr⟩) (λh=>⟨⟨_,rfl⟩,H1.fr⟩)) (λh=>⟨⟨_,rfl⟩,H1.fr⟩)))
def PX {w:aA} {s:Sl} {l:List Nd} (h:GP w s l) (hk:∀(i:Nat) (d:Nd),l[i]? =some d->d.x.kids.length<=1000000/\∀k∈d.x.kids,0<=k/\k<(i:Int)):∀(n i:Nat),i<n->i<l.length->∀w1,bW w w1->aH aB jB #[s.v,.i (i:Int)] w1 λr w'=>(∃z:Int,r=aJ (.i z))/\bW w w'
 |0,i,hi,_,_,_=>absurd hi (by omega)
 |n+1,i,hi,hl,w1,f1=>by
  have G:∀{w2:aA},bW w w2->GP w2 s l:=λf=>⟨h.1.qx f,λd hd=>(fV d).st w _ (λb hb jO=>f.ic b jO id) (h.2 d hd)⟩
  have hg:l[i]? =some (l[i]'hl):=ie hl
  generalize l[i]'hl=d at hg
  obtain ⟨k1,k2⟩:=hk i d hg
  have loop:∀(m j:Nat) (z:Int) (w2:aA),j+m=d.x.kids.length->bW w w2->enthymemeref07_size.L0 s (i:Int) z (j:Int) w2 λr w'=>(∃z:Int,r=aJ (.i z))/\bW w w':=by
   intro m
   induction m with
   |zero=>
    intro j z w2 hj f2
    have hn:d.ks.n=d.x.kids.length:=hU.len ((G f2).2 d (dI hg))
    exact enthymemeref07_size.dE _ _ _ _ _ _ (oc (G f2) rfl hg λp hp c=>⟨_,c.c1,aX (aK (by omega)) ⟨⟨_,rfl⟩,f2⟩⟩)
   |succ m ih=>
    intro j z w2 hj f2
    have hd2:hU w2 d.ks d.x.kids:=(G f2).2 d (dI hg)
    have hn:=hU.len hd2
    have Ma:d.x.kids[j]? =some (d.x.kids[j]'(by omega)):=ie (by omega)
    generalize d.x.kids[j]'(by omega)=k at Ma
    have YA:=k2 k (dI Ma)
    refine enthymemeref07_size.dE _ _ _ _ _ _ (oc (G f2) rfl hg λp hp c=>⟨_,c.c1,bF (aO (by omega)) (oc (G f2) rfl hg λp' JH c'=>⟨_,c'.c1,by omega,by omega,hd2.cell Ma (by omega) λq hq hc=>⟨k,hc,?_⟩⟩)⟩)
    have ek:k=((k.toNat:Nat):Int):=by omega
    rw [ek]
    refine (PX h hk n k.toNat (by omega) (by omega) w2 f2).mono ?_
    rintro _ w3 ⟨⟨z3,rfl⟩,f3⟩
    refine ⟨_,rfl,?_⟩
    show enthymemeref07_size.L0 s (i:Int) _ (aC .i64 ((j:Int)+1)) w3 _
    rw [bP _ (by omega)]
    exact ih (j+1) _ w3 (by omega) f3
  exact enthymemeref07_size.ok _ _ w1 _ (loop d.x.kids.length 0 1 w1 (by omega) f1)
def lhG {w:aA} {s:Sl} {l:List Nd} (h:GP w s l):LH F0 w w [] [.gr s l]:=og _ (by
 intro e he
 simp only [dT,gL,or_false] at he
 subst he
 exact eG.2 h)
abbrev zA (s:Sl) (l:List Int):En:=.row cT 1 s (l.map l4)
def sv {w:aA} {s:Sl} {l:List Int} (h:bD w cT 1 s (l.map l4)):hU w s l:=h.rd1
def vV {w:aA} {s:Sl} {l:List Int} (h:bD w cT 1 s (l.map l4)):s.n=l.length:=by
 have:=h.len
 simp at this
 omega
def J6 {w:aA} {s:Sl} {l:List Nd} (h:GP w s l) (t:iQ) (n:Int) (hn:qS n) (hl:l.length<=pO):
  aH aB im #[s.v,kQ t,.i n] w λr w'=>(∃z:Int,r=aJ (.i z)/\-1<=z/\z<(l.length:Int))/\bW w w':=by
 have hs:=tL h
 unfold pO at hl
 have loop:∀(m i:Nat) (l7:Sl) (ks:List Int) (b4:Nat) (w1:aA),i+m=l.length->ks.length<=i->(∀k∈ks,0<=k/\k<(l.length:Int))->LH F0 w w1 [.g b4,zA l7 ks] [.gr s l]->
   enthymemeref07_Like.fO s n b4 t.k t.n t.x l7 (i:Int) w1 λr w'=>(∃z:Int,r=aJ (.i z)/\-1<=z/\z<(l.length:Int))/\bW w w':=by
  intro m
  induction m with
  |zero=>
   intro i l7 ks b4 w1 hi Ug wE H
   have hlen:=vV (H.get 1)
   refine enthymemeref07_Like.bT _ _ _ _ _ _ _ _ _ _ (aX (aK (by omega)) (aY (λh0=>⟨⟨_,rfl,by omega,by omega⟩,H.fr⟩) (λh0=>H.bC (jk n _ w1 (by omega) hn) ?_)))
   have hr:=fC n ((l7.n:Nat):Int) (by omega)
   generalize gX n ((l7.n:Nat):Int)=z at hr
   rintro _ w2 rfl H2
   obtain ⟨j,rfl⟩:∃j:Nat,z=(j:Int):=⟨z.toNat,by omega⟩
   have hg:ks[j]? =some (ks[j]'(by omega)):=ie (by omega)
   have hk:=wE _ (dI hg)
   exact ⟨_,rfl,by omega,by omega,(sv (H2.get 1)).cell hg (by omega) λp hp hc=>⟨_,hc,⟨⟨_,rfl,by omega,by omega⟩,H2.fr⟩⟩⟩
  |succ m ih=>
   intro i l7 ks b4 w1 hi Ug wE H
   have hg:l[i]? =some (l[i]'(by omega)):=ie (by omega)
   generalize l[i]'(by omega)=d at hg
   have hlen:=vV (H.get 1)
   refine enthymemeref07_Like.bT _ _ _ _ _ _ _ _ _ _ (bF (aO (by omega)) (oc (eG.1 (H.getD 0)) rfl hg λp hp _=>H.bH λw2 H2=>?_))
   have c:=BU (eG.1 (H2.getD 0)) hg hp (rfl:((i:Int))=(i:Int))
   refine ⟨_,_,_,c.s0,c.s1,c.s2,qk (a:=d.x.st) (b:=t) (λhe=>?_) (λhe=>?_)⟩
   .refine H2.wV 1 vR rfl (λs' w3 H3=>?_) (by omega)
    show enthymemeref07_Like.fO s n b4 t.k t.n t.x s' (aC .i64 ((i:Int)+1)) w3 _
    rw [bP _ (by omega)]
    refine ih (i+1) s' (ks++[(i:Int)]) b4 w3 (by omega) (by simp;omega) (λk hk=>?_) (by rw [zA,List.map_append];exact H3)
    rcases gg.1 hk with hk|hk
    .exact wE k hk
    .simp only [dT,gL,or_false] at hk
     omega
   .show enthymemeref07_Like.fO s n b4 t.k t.n t.x l7 (aC .i64 ((i:Int)+1)) w2 _
    rw [bP _ (by omega)]
    exact ih (i+1) l7 ks b4 w2 (by omega) (by omega) wE H2
 exact enthymemeref07_Like.dQ _ _ _ _ _ w _ ((lhG h).cC λb4 w1 H1=>loop l.length 0 ⟨none,0,0⟩ [] b4 w1 (by omega) (by simp) (by simp) (H1.qb cT 1))
def PY {w:aA} {s:Sl} {l:List Nd} (h:GP w s l) (op:Int) (x:Nat) (WH n:Int) (hx:x<l.length) (hn:qS n):
  aH aB kH #[s.v,.i op,.i (x:Int),.i WH,.i n] w λr w'=>(∃t:iQ,r=aJ (kQ t))/\bW w w':=by
 have hs:=tL h
 have hg:l[x]? =some (l[x]'hx):=ie hx
 generalize l[x]'hx=d at hg
 refine enthymemeref07_wanted.dQ _ _ _ _ _ w _ ((lhG h).cC λqU w1 H1=>oc (eG.1 (H1.getD 0)) rfl hg λp hp c=>⟨_,_,_,c.s0,c.s1,c.s2,H1.cC λV8 w2 H2=>?_⟩)
 have ret:∀(a b c:Int) (w3:aA) (bs:List Nat),(∀b∈bs,En.g b∈[En.g qU,.g V8])->LH F0 w w3 [.g qU,.g V8] [.gr s l]->loc bs w3 λw9=>(∃t:iQ,Ending.returned (.agg #[.i a,.i b,.i c])=aJ (kQ t))/\bW w w9:=λa b c w3 bs hb H3=>H3.bH (λw9 H9=>⟨⟨⟨a,b,c⟩,rfl⟩,H9.fr⟩) hb
 have S0:∀w3,LH F0 w w3 [.g qU,.g V8] [.gr s l]->enthymemeref07_wanted.eX n qU 0 0 0 w3 λr w'=>(∃t:iQ,r=aJ (kQ t))/\bW w w':=by
  intro w3 H3
  refine H3.bC (jk n 3 w3 (by omega) hn) ?_
  rintro _ w4 rfl H4
  refine ⟨_,rfl,H4.bC (nt _ w4) ?_⟩
  rintro _ w5 rfl H5
  exact ⟨_,_,_,rfl,ret _ _ _ w5 _ (by simp) H5⟩
 refine aY (λh1=>H2.bH λw3 H3=>H3.bC (jk n _ w3 (by omega) hn) ?_) (λh1=>aY (λh2=>H2.bH λw3 H3=>H3.bC (jk n 3 w3 (by omega) hn) ?_) (λh2=>aY (λh3=>H2.bH λw3 H3=>H3.bC (pU _ w3) ?_) (λh3=>aY (λh4=>aY (λh5=>H2.bH λw3 H3=>H3.bC (pU _ w3) ?_) (λh5=>H2.bH λw3 H3=>H3.bC (zI d.x.st w3) ?_)) (λh4=>aY (λh6=>H2.bH λw3 H3=>H3.bC (pU _ w3) ?_) (λh6=>aY (λh7=>bF (beq_iff_eq.2 h7) (H2.bH λw3 H3=>S0 w3 H3)) (λh7=>aY (λh8=>bF (beq_iff_eq.2 h8) (H2.bH λw3 H3=>S0 w3 H3)) (λh8=>aY (λh9=>H2.bH λw3 H3=>S0 w3 H3) (λh9=>H2.bH λw3 H3=>ret _ _ _ w3 _ (by simp) H3))))))))
 .have hr:=fC n ((s.n:Nat):Int) (by omega)
  generalize gX n ((s.n:Nat):Int)=z at hr
  rintro _ w4 rfl H4
  obtain ⟨j,rfl⟩:∃j:Nat,z=(j:Int):=⟨z.toNat,by omega⟩
  have Ad:l[j]? =some (l[j]'(by omega)):=ie (by omega)
  exact ⟨_,rfl,oc (eG.1 (H4.getD 0)) rfl Ad λq hq c'=>⟨_,_,_,c'.s0,c'.s1,c'.s2,ret _ _ _ w4 _ (by simp) H4⟩⟩
 .rintro _ w4 rfl H4
  refine ⟨_,rfl,H4.bC (pU _ w4) ?_⟩
  rintro _ w5 rfl H5
  exact ⟨_,_,_,rfl,ret _ _ _ w5 _ (by simp) H5⟩
 .rintro _ w4 rfl H4
  exact ⟨_,_,_,rfl,ret _ _ _ w4 _ (by simp) H4⟩
 .rintro _ w4 rfl H4
  exact ⟨_,_,_,rfl,ret _ _ _ w4 _ (by simp) H4⟩
 .rintro _ w4 rfl H4
  exact ⟨_,_,_,rfl,ret _ _ _ w4 _ (by simp) H4⟩
 .rintro _ w4 rfl H4
  exact ⟨_,_,_,rfl,ret _ _ _ w4 _ (by simp) H4⟩
def wrI (x:Int):qS (aC .i64 x):=by rw [IntKind.wrap_i64];omega
structure MdV (d:Nx):Prop extends MdN d where
 nv:d.op≠0
def uR (w:aA) (r:Ending) (w':aA):Prop:=∃d:Nd,r=aJ d.v/\MdV d.x/\d.P w'/\∀b∈bQ d.ks,w.heap.size<=b
def UM {op n m u:Int} {tx:ByteArray} {st:iQ} {ks:List Int} (h:MdV ⟨op,[],n,m,u,tx,st⟩) (hk:ks.length<=3):MdV ⟨op,ks,n,m,u,tx,st⟩:=⟨⟨h.op1,h.op2,hk,h.n,h.m,h.u,h.tx,h.re⟩,h.nv⟩
def Af (op:Int):-1<=eO op/\eO op<=3:=by unfold eO;repeat' split<;>omega
section
variable {w:aA} {s:Sl} {l:List Nd} {n1 m2 k3:Int} {b8 qU:Nat}
def Oa (hm:qS m2) (hk:qS k3) (hl:l.length<=pO) {op n m u:Int} {tx:ByteArray} {st:iQ} (hd:MdV ⟨op,[],n,m,u,tx,st⟩) (many:Nat) (adl:many<=3) (x:Int) (AZ:-1<=x) (hx2:x<(l.length:Int)):
  ∀(d i:Nat) (sl:Sl) (ks:List Int) (w1:aA),i+d=many->ks.length=i->(∀k∈ks,0<=k/\k<(l.length:Int))->LH F0 w w1 [.g b8,.g qU,zA sl ks] [.gr s l]->
   cH.EX s m2 k3 b8 0 ⟨none,0,0⟩ 0 0 0 (aE #[]) 0 0 0 qU op sl n m u tx st.k st.n st.x x (many:Int) (i:Int) w1 λr w'=>uR w r w'/\bW w w':=by
 intro d
 unfold pO at hl
 induction d with
 |zero=>
  intro i sl ks w1 hi hlen wE H
  refine cH.oY _ _ _ _ _ _ _ _ _ _ _ _ _ _ _ _ _ _ _ _ _ _ _ _ _ _ _ _ (aX (aK (by omega)) (H.bH λw2 H2=>⟨⟨⟨⟨op,ks,n,m,u,tx,st⟩,sl⟩,rfl,UM hd (by omega),sv (H2.get 2),λb hb=>(H2.new _ (dI (i:=2) rfl) b hb).resolve_right id⟩,H2.fr⟩))
 |succ d ih=>
  intro i sl ks w1 hi hlen wE H
  have S7:∀(WH:Int) (w2:aA) (L:List En),-1<=WH->WH<(l.length:Int)->LH F0 w w2 [.g b8,.g qU,zA sl ks] [.gr s l]->cH.Lp s m2 k3 b8 0 ⟨none,0,0⟩ 0 0 0 (aE #[]) 0 0 0 qU op sl n m u tx st.k st.n st.x x (many:Int) (i:Int) WH w2 λr w'=>uR w r w'/\bW w w':=by
   intro WH w2 L h1 h2 H2
   refine bA (λh0=>H2.bH λw3 H3=>⟨⟨⟨⟨-1,[],0,0,0,ba [],ru⟩,⟨none,0,0⟩⟩,rfl,⟨⟨by decide,by decide,by decide,by decide,by decide,by decide,λ_=>by decide,λh=>by cases h⟩,by decide⟩,Rd.nil w3,λb hb=>by cases hb⟩,H3.fr⟩) (λh0=>?_)
   refine H2.wV 2 vR rfl (λs' w3 H3=>?_) (by have:=vV (H2.get 2);omega)
   have H3':LH F0 w w3 [.g b8,.g qU,zA s' (ks++[WH])] [.gr s l]:=by rw [zA,List.map_append];exact H3
   refine H3'.bH λw4 H4=>?_
   rw [bP _ (by omega)]
   refine ih (i+1) s' (ks++[WH]) w4 (by omega) (by simp [hlen]) (λk hk=>?_) H4
   rcases gg.1 hk with hk|hk
   .exact wE k hk
   .simp only [dT,gL,or_false] at hk
    omega
  refine cH.oY _ _ _ _ _ _ _ _ _ _ _ _ _ _ _ _ _ _ _ _ _ _ _ _ _ _ _ _ (bF (aO (by omega)) (bA (λYy=>bA (λhx0=>?_) (λhx0=>S7 x w1 [] AZ hx2 H)) (λYy=>S7 x w1 [] AZ hx2 H)))
  obtain ⟨xn,rfl⟩:∃xn:Nat,x=(xn:Int):=⟨x.toNat,by omega⟩
  refine H.bC (PY (eG.1 (H.getD 0)) op xn (i:Int) m2 (by omega) hm) ?_
  rintro _ w2 ⟨t,rfl⟩ H2
  refine ⟨_,_,_,rfl,H2.cC λb16 w3 H3=>?_⟩
  have S6:∀(t:iQ) (w4:aA),LH F0 w w4 [.g b8,.g qU,zA sl ks,.g b16] [.gr s l]->cH.zY s m2 k3 b8 0 ⟨none,0,0⟩ 0 0 0 (aE #[]) 0 0 0 qU op sl n m u tx st.k st.n st.x (xn:Int) (many:Int) (i:Int) b16 t.k t.n t.x w4 λr w'=>uR w r w'/\bW w w':=by
   intro t w4 H4
   have e5:aC .i64 (5 *(i:Int))=5 *(i:Int):=aS _ (by omega)
   have e6:aC .i64 (1+5 *(i:Int))=1+5 *(i:Int):=aS _ (by omega)
   refine ⟨by rw [e5,e6];omega,H4.bH λw5 H5=>H5.bC (J6 (eG.1 (H5.getD 0)) t _ (wrI _) (by unfold pO;exact hl)) ?_⟩
   rintro _ w6 ⟨z,rfl,QV,QW⟩ H6
   exact ⟨_,rfl,S7 z w6 [] QV QW (H6.take 3)⟩
  refine aY (λho=>aY (λh2=>?_) (λh2=>H3.bH λw4 H4=>S6 t w4 H4)) (λho=>H3.bH λw4 H4=>S6 t w4 H4)
  have hn:=vV (H3.get 2)
  have hg:ks[1]? =some (ks[1]'(by omega)):=ie (by omega)
  have HW:=wE _ (dI hg)
  generalize ks[1]'(by omega)=kk at hg HW
  refine ⟨by omega,by omega,(sv (H3.get 2)).cell hg (j:=aF 1 *1) rfl λp hp _=>H3.bH λw4 H4=>?_⟩
  have DD:l[kk.toNat]? =some (l[kk.toNat]'(by omega)):=ie (by omega)
  generalize l[kk.toNat]'(by omega)=e at DD
  have hc:w4.cell? (p.add (aF 1 *1))=some (.int .i64 kk):=by
   have:=(sv (H4.get 2)).cell hg (j:=aF 1 *1) rfl (K:=λq=>∃q',sl.a=some q'/\w4.cell? (q'.add (aF 1 *1))=some (.int .i64 kk)) (λq hq hc=>⟨q,hq,hc⟩)
   rw [hp] at this
   obtain ⟨q,hq,hc⟩:=this
   cases hq
   exact hc
  exact ⟨kk,hc,oc (eG.1 (H4.getD 0)) (i:=kk.toNat) (by omega) DD λq hq c=>⟨_,_,_,c.s0,c.s1,c.s2,H4.bH λw5 H5=>S6 e.x.st w5 H5⟩⟩
def Ob (hn:qS n1) (hm:qS m2) (hk:qS k3) (hl:l.length<=pO) {op n m u:Int} {tx:ByteArray} {st:iQ} (hd:MdV ⟨op,[],n,m,u,tx,st⟩) (x:Int) (AZ:0<=x) (hx2:x<(l.length:Int)) (w1:aA) (H:LH F0 w w1 [.g b8,.g qU] [.gr s l]):
  cH.fN s n1 m2 k3 b8 0 ⟨none,0,0⟩ 0 0 0 (aE #[]) 0 0 0 qU op ⟨none,0,0⟩ n m u tx st.k st.n st.x x w1 λr w'=>uR w r w'/\bW w w':=by
 refine H.bC (PD op w1) ?_
 rintro _ w2 rfl H2
 have hr:=Af op
 have S4:∀(x:Int) (w3:aA),-1<=x->x<(l.length:Int)->LH F0 w w3 [.g b8,.g qU] [.gr s l]->cH.rm s m2 k3 b8 0 ⟨none,0,0⟩ 0 0 0 (aE #[]) 0 0 0 qU op ⟨none,0,0⟩ n m u tx st.k st.n st.x x (eO op) w3 λr w'=>uR w r w'/\bW w w':=by
  intro x w3 h1 h2 H3
  have H4:=H3.qb cT 1
  by_cases h0:eO op<0
  .refine cH.oY _ _ _ _ _ _ _ _ _ _ _ _ _ _ _ _ _ _ _ _ _ _ _ _ _ _ _ _ (aX (aK (by omega)) (H4.bH λw2 H2=>⟨⟨⟨⟨op,[],n,m,u,tx,st⟩,⟨none,0,0⟩⟩,rfl,hd,Rd.nil w2,λb hb=>by cases hb⟩,H2.fr⟩))
  .have e:eO op=(((eO op).toNat:Nat):Int):=by omega
   show cH.EX _ _ _ _ _ _ _ _ _ _ _ _ _ _ _ _ _ _ _ _ _ _ _ _ (eO op) 0 _ _
   rw [e]
   exact Oa hm hk hl hd (eO op).toNat (by omega) x h1 h2 (eO op).toNat 0 ⟨none,0,0⟩ [] w3 (by omega) rfl (by simp) H4
 have S3:∀(x:Int) (w3:aA),-1<=x->x<(l.length:Int)->LH F0 w w3 [.g b8,.g qU] [.gr s l]->cH.ir s n1 m2 k3 b8 0 ⟨none,0,0⟩ 0 0 0 (aE #[]) 0 0 0 qU op ⟨none,0,0⟩ n m u tx st.k st.n st.x x (eO op) w3 λr w'=>uR w r w'/\bW w w':=by
  intro x w3 h1 h2 H3
  refine aY (λho=>H3.bC (pU 8 w3) ?_) (λho=>S4 x w3 h1 h2 H3)
  rintro _ w4 rfl H4
  refine ⟨_,_,_,rfl,H4.bC (J6 (eG.1 (H4.getD 0)) (kP 8) _ (wrI _) hl) ?_⟩
  rintro _ w5 ⟨z,rfl,QV,QW⟩ H5
  exact ⟨_,rfl,S4 z w5 QV QW H5⟩
 refine ⟨_,rfl,aY (λho=>H2.bC (pU 1 w2) ?_) (λho=>S3 x w2 (by omega) hx2 H2)⟩
 rintro _ w4 rfl H4
 refine ⟨_,_,_,rfl,H4.bC (J6 (eG.1 (H4.getD 0)) (kP 1) _ (wrI _) hl) ?_⟩
 rintro _ w5 ⟨z,rfl,QV,QW⟩ H5
 exact ⟨_,rfl,S3 z w5 QV QW H5⟩
end
def opsL:List Int:=[4,5,6,7,8,9,10,11,12,13,14,15,16,17,18,19,20,21,22,23,24,25,26,27,28,29,30,31,32,33,34,1,2,3,18,18,16,6,24,25]
def Oe {i:Nat} {op:Int} (h:opsL[i]? =some op):1<=op/\op<=34:=by
 have h1:(opsL.all λx=>aR (1<=x)&&aR (x<=34))=true:=by decide
 have:=wo.1 h1 op (dI h)
 simpa using this
def ES:List ByteArray:=[ba [],ba [97],ba [97,98],ba [98],ba [0],ba [97,97]]
def OJ {i:Nat} {t:ByteArray} (h:ES[i]? =some t):t.size<=16:=by
 have h1:(ES.all λx=>aR (x.size<=16))=true:=by decide
 have:=wo.1 h1 t (dI h)
 simpa using this
def PO {w:aA} {s:Sl} {l:List Nd} (h:GP w s l) (hl0:1<=l.length) (hl:l.length<=pO) (hv:∀d∈l,cI d.x.st=true) (n1 m2 k3:Int) (hn:qS n1) (hm:qS m2) (hk:qS k3):
  aH aB jA #[s.v,.i n1,.i m2,.i k3] w λr w'=>uR w r w'/\bW w w':=by
 have hs:=tL h
 refine cH.dQ _ _ _ _ w _ ((lhG h).cC λb8 w1 H1=>H1.nw λw2 _ H2=>H2.bC (jk n1 40 w2 (by omega) hn) ?_)
 have hr:=fC n1 40 (by omega)
 generalize gX n1 40=z at hr
 rintro _ w3 rfl H3
 obtain ⟨j,rfl⟩:∃j:Nat,z=(j:Int):=⟨z.toNat,by omega⟩
 have hgo:opsL[j]? =some (opsL[j]'(by show j<40;omega)):=ie _
 have fB:=Oe hgo
 generalize opsL[j]'(by show j<40;omega)=op at hgo fB
 have jc:hU w3 ⟨some (bO w1.heap.size),40,40⟩ opsL:=xY (T:=cT) (H3.ob 1) rfl
 refine ⟨_,rfl,by omega,by show (j:Int)<40;omega,jc.cell hgo (by omega) λp hp hc=>⟨op,hc,H3.cC λqU w4 H4=>H4.bH λw5 H5=>H5.bC (jk _ _ w5 (by omega) (wrI _)) ?_⟩⟩
 have hrx:=fC (aC .i64 (Int.tdiv n1 64)) ((s.n:Nat):Int) (by omega)
 generalize gX (aC .i64 (Int.tdiv n1 64)) ((s.n:Nat):Int)=x at hrx
 rintro _ w6 rfl H6
 have R:∀{n m u:Int} {tx:ByteArray} {st:iQ} {w7:aA},MdV ⟨op,[],n,m,u,tx,st⟩->LH F0 w w7 [.g b8,.g qU] [.gr s l]->cH.fN s n1 m2 k3 b8 0 ⟨none,0,0⟩ 0 0 0 (aE #[]) 0 0 0 qU op ⟨none,0,0⟩ n m u tx st.k st.n st.x x w7 λr w'=>uR w r w'/\bW w w':=λhd H7=>Ob hn hm hk hl hd x (by omega) (by omega) _ H7
 have H6:LH F0 w w6 [.g b8,.g qU] [.gr s l]:=H6.vE [true,false,true]
 have em:aE #[]=ba []:=rfl
 have base:∀{n m u:Int} {tx:ByteArray} {st:iQ},0<=n/\n<=100->0<=m/\m<=100->0<=u/\u<=1000->(op≠33->tx.size<=16)->(op=33->∃k,tx=ba (sC k))->MdV ⟨op,[],n,m,u,tx,st⟩:=λh1 h2 h3 h4 h5=>⟨⟨by show -1<=op;omega,fB.2,by simp,h1,h2,h3,h4,h5⟩,by show op≠0;omega⟩
 have zz:(0:Int)<=0/\(0:Int)<=100:=by decide
 have z2:(0:Int)<=0/\(0:Int)<=1000:=by decide
 refine ⟨_,rfl,aY (λh1=>?_) (λh1=>aY (λh2=>?_) (λh2=>aY (λh3=>?_) (λh3=>aY (λh4=>?_) (λh4=>?_))))⟩
 .refine H6.bC (jk m2 3 w6 (by omega) hm) ?_
  have hr3:=fC m2 3 (by omega)
  generalize gX m2 3=v at hr3
  rintro _ w7 rfl H7
  refine ⟨_,rfl,?_⟩
  have S1:∀(wv:Int),1<=wv->wv<=7->cH.gW s n1 m2 k3 b8 0 ⟨none,0,0⟩ 0 0 0 (aE #[]) 0 0 0 qU op ⟨none,0,0⟩ 0 0 0 (aE #[]) 0 0 0 x wv w7 λr w'=>uR w r w'/\bW w w':=by
   intro wv h5 h6
   refine H7.bC (pU wv w7) ?_
   rintro _ w8 rfl H8
   have hc:∃c:Nat,(if 3<wv then (3:Int) else wv)=(c:Int)/\1<=c/\c<=3:=⟨(if 3<wv then (3:Int) else wv).toNat,by split<;>omega,by split<;>omega,by split<;>omega⟩
   obtain ⟨c,hc,c1,c2⟩:=hc
   rw [hc]
   have ec:aC .u64 (c:Int)=(c:Int):=IntWalk.u64_in _ (by omega)
   rw [ec]
   have ep:∃q:Int,aC .i64 (1 *2^min (aF (c:Int)) (IntKind.bits .i64))=q/\1<=q/\q<=8:=by
    have:c=1\/c=2\/c=3:=by omega
    rcases this with rfl|rfl|rfl
    .exact ⟨2,by decide,by decide,by decide⟩
    .exact ⟨4,by decide,by decide,by decide⟩
    .exact ⟨8,by decide,by decide,by decide⟩
   obtain ⟨q,eq,q1,q2⟩:=ep
   rw [eq]
   refine ⟨_,_,_,rfl,by omega,H8.bH λw9 H9=>H9.bC (jk k3 q w9 (by omega) hk) ?_⟩
   have hrq:=fC k3 q (by omega)
   generalize gX k3 q=a at hrq
   rintro _ tB rfl qe
   have ea:aC .u64 a=a:=IntWalk.u64_in _ (by omega)
   refine ⟨_,rfl,qe.bH λyY y8=>?_⟩
   rw [ea]
   exact R (st:=kP wv) (base zz zz (by omega) (λ_=>by decide) (λh=>by omega)) y8
  have e1:aC .i64 (1+v)=1+v:=aS _ (by omega)
  show cH.eX s n1 m2 k3 b8 0 ⟨none,0,0⟩ 0 0 0 _ 0 0 0 qU op ⟨none,0,0⟩ 0 0 0 _ 0 0 0 x (aC .i64 (1+v)) w7 _
  rw [e1]
  exact aY (λ_=>S1 7 (by decide) (by decide)) (λ_=>S1 _ (by omega) (by omega))
 .refine H6.nw λw7 _ H7=>H7.bC (jk m2 6 w7 (by omega) hm) ?_
  have hr6:=fC m2 6 (by omega)
  generalize gX m2 6=v at hr6
  rintro _ w8 rfl H8
  obtain ⟨i,rfl⟩:∃i:Nat,v=(i:Int):=⟨v.toNat,by omega⟩
  have Ws:ES[i]? =some (ES[i]'(by show i<6;omega)):=ie _
  have Dp:=OJ Ws
  generalize ES[i]'(by show i<6;omega)=t at Ws Dp
  have jc:Rd w8 ⟨some (bO w6.heap.size),6,6⟩ (ES.map Value.string):=zb (T:=cG) (H8.ob 2) rfl
  refine ⟨_,rfl,by omega,by show (i:Int)<6;omega,Rd.get jc (i:=i) (v:=.string t) (by simp [Ws]) (by omega) λp hp hc=>⟨t,hc,H8.bH λw9 H9=>?_⟩⟩
  exact R (st:=ru) (base zz zz z2 (λ_=>Dp) (λh=>by omega)) (H9.take 2)
 .refine H6.nw λw7 _ H7=>H7.bC (jk m2 2 w7 (by omega) hm) ?_
  have FI:=fC m2 2 (by omega)
  generalize gX m2 2=v at FI
  rintro _ w8 rfl H8
  obtain ⟨i,rfl⟩:∃i:Nat,v=(i:Int):=⟨v.toNat,by omega⟩
  have Ws:([⟨2,2,1⟩,⟨3,1,1⟩]:List iQ)[i]? =some (([⟨2,2,1⟩,⟨3,1,1⟩]:List iQ)[i]'(by show i<2;omega)):=ie _
  generalize ([⟨2,2,1⟩,⟨3,1,1⟩]:List iQ)[i]'(by show i<2;omega)=t at Ws
  have jc:lN 3 w8 ⟨some (bO w6.heap.size),2,2⟩ (([⟨2,2,1⟩,⟨3,1,1⟩]:List iQ).flatMap ri):=r8 (T:=bI) (H8.ob 2) rfl
  obtain ⟨g1,g2,g3⟩:=fY jc rfl Ws (K:=λp=>eS w8 (p.add (aF (i:Int) *3)) λa b c=>loc [b8,qU] w8 λw9=>cH.fN s n1 m2 k3 b8 0 ⟨none,0,0⟩ 0 0 0 (aE #[]) 0 0 0 qU op ⟨none,0,0⟩ 0 0 0 (aE #[]) a b c x w9 λr w'=>uR w r w'/\bW w w') (λp hp c=>⟨_,_,_,c.c0,c.c1,c.c2,H8.bH λw9 H9=>R (st:=t) (base zz zz z2 (λ_=>by decide) (λh=>by omega)) (H9.take 2)⟩)
  exact ⟨_,rfl,g1,g2,g3⟩
 .obtain ⟨xn,rfl⟩:∃xn:Nat,x=(xn:Int):=⟨x.toNat,by omega⟩
  have hg:l[xn]? =some (l[xn]'(by omega)):=ie (by omega)
  generalize l[xn]'(by omega)=e at hg
  have hve:=mB (hv e (dI hg))
  refine oc (eG.1 (H6.getD 0)) rfl hg λp hp c=>⟨_,c.s1,H6.bC (jk m2 _ w6 (by split<;>omega) hm) ?_⟩
  have hr7:=fC m2 (if 1<e.x.st.n then e.x.st.n else 1) (by split<;>omega)
  generalize gX m2 (if 1<e.x.st.n then e.x.st.n else 1)=a at hr7
  have ha:a<64:=by
   have:=hr7.2
   split at this<;>omega
  rintro _ w7 rfl H7
  have e1:aC .i64 (a+1)=a+1:=aS _ (by omega)
  refine ⟨_,rfl,H7.bH λw8 H8=>H8.bC (jk k3 _ w8 (by rw [e1];omega) hk) ?_⟩
  rw [e1]
  have hr8:=fC k3 (a+1) (by omega)
  generalize gX k3 (a+1)=b at hr8
  rintro _ w9 rfl H9
  exact ⟨_,rfl,H9.bH λtB qe=>R (st:=ru) (base (by omega) (by omega) z2 (λ_=>by decide) (λh=>by omega)) qe⟩
 have S8:op≠33->cH.V7 s n1 m2 k3 b8 0 ⟨none,0,0⟩ 0 0 0 (aE #[]) 0 0 0 qU op ⟨none,0,0⟩ 0 0 0 (aE #[]) 0 0 0 x w6 λr w'=>uR w r w'/\bW w w':=by
  intro ox
  refine H6.bC (jk m2 2 w6 (by omega) hm) ?_
  have FI:=fC m2 2 (by omega)
  generalize gX m2 2=v at FI
  rintro _ w7 rfl H7
  have e1:aC .i64 (1+v)=1+v:=aS _ (by omega)
  refine ⟨_,rfl,H7.bH λw8 H8=>?_⟩
  rw [e1]
  exact R (st:=ru) (base (by omega) zz z2 (λ_=>by decide) (λh=>absurd h ox)) H8
 refine aY (λh5=>bF (beq_iff_eq.2 h5) (S8 (by omega))) (λh5=>aY (λh6=>S8 (by omega)) (λh6=>aY (λh7=>?_) (λh7=>aY (λh8=>H6.bC (X3 m2 hm w6) ?_) (λh8=>R (st:=ru) (base zz zz z2 (λ_=>by decide) (λh=>absurd h h8)) H6))))
 .refine H6.bC (jk m2 3 w6 (by omega) hm) ?_
  have FI:=fC m2 3 (by omega)
  generalize gX m2 3=v at FI
  rintro _ w7 rfl H7
  exact ⟨_,rfl,H7.bH λw8 H8=>R (st:=ru) (base (by omega) zz z2 (λ_=>by decide) (λh=>by omega)) H8⟩
 .rintro _ w7 ⟨k,rfl⟩ H7
  exact ⟨_,rfl,H7.bH λw8 H8=>R (st:=ru) (base zz zz z2 (λh=>absurd h8 h) (λ_=>⟨k,rfl⟩)) H8⟩
def MdN.ok {d:Nx} (h:MdN d):ZX d:=by
 refine ⟨by have:=h.kl;unfold pO;omega,?_,?_,λox=>?_⟩
 .have:=h.n
  exact ⟨by omega,by omega⟩
 .have:=h.m
  exact ⟨by omega,by omega⟩
 .obtain ⟨k,hk⟩:=h.re ox
  rw [hk]
  refine ⟨?_,true,Qa k⟩
  rw [cN]
  have:=CR k
  omega
def wh.ok {g:List Nx} (h:wh g) (hl:g.length<=pO):GOk g:=⟨hl,h.vg.val,h.vg.vars⟩
def xT (g:List Nx) (n:Nx):(iN g n).1.length<=g.length+1:=by
 unfold iN
 split
 .simp
 .split
  .simp
  .split
   .simp
   .simp
def wU {g:List Nx} {n:Nx} (h:(iN g n).2.2=0):(eF g n).2=0/\∃k:Nat,(iN g n).2.1=(k:Int)/\(iN g n).1[k]? =some (gM n (eF g n).1)/\((iN g n).1=g\/(gM n (eF g n).1∉g/\(iN g n).1=g++[gM n (eF g n).1]/\k=g.length)):=by
 unfold iN at h ⊢
 split at h
 .rename_i h0
  exact absurd h h0
 rename_i h0
 have h0:(eF g n).2=0:=by omega
 refine ⟨h0,?_⟩
 rw [aI (by omega)]
 cases hi:qB (gM n (eF g n).1) g 0 with
 |some i=>
  have:=rF hi
  rw [Nat.sub_zero] at this
  exact ⟨i,rfl,this.2,.inl rfl⟩
 |none=>
  rw [hi] at h
  dsimp only at h ⊢
  split at h
  .cases h
  .rename_i h4
   rw [aI h4]
   exact ⟨g.length,rfl,by simp,.inr ⟨td hi,rfl,rfl⟩⟩
def XU {g:List Nx} {n:Nx} (hg:Vg g) (h:(iN g n).2.2=0):Vg (iN g n).1:=by
 obtain ⟨h0,k,_,_,h3⟩:=wU h
 rcases h3 with h3|⟨h4,h5,_⟩
 .rw [h3];exact hg
 .rw [h5]
  exact .snoc hg (xp (by rw [<-h0])) h4
def Bd {g:List Nx} {n:Nx} (hg:wh g) (hn:MdN n) (h:(iN g n).2.2=0):wh (iN g n).1:=by
 refine ⟨XU hg.vg h,λd hd=>?_⟩
 obtain ⟨h0,k,_,_,h3⟩:=wU h
 rcases h3 with h3|⟨h4,h5,_⟩
 .rw [h3] at hd;exact hg.nd d hd
 .rw [h5] at hd
  rcases gg.1 hd with hd|hd
  .exact hg.nd d hd
  .simp only [dT,gL,or_false] at hd
   subst hd
   exact ⟨hn.op1,hn.op2,hn.kl,hn.n,hn.m,hn.u,hn.tx,hn.re⟩
def wh.kl {l:List Nd} (h:wh (xs l)):∀e∈l,e.x.kids.length<=pO:=λe he=>by
 have:=(h.nd e.x (pN.2 ⟨e,he,rfl⟩)).kl
 unfold pO
 omega
def DP (w:aA) (kind:Int) (uG:Nat) (r:Ending) (w':aA):Prop:=∃(s:Sl) (l:List Nd),r=aJ s.v/\wh (xs l)/\1<=l.length/\l.length<=10+uG/\GP w' s l/\(∀b∈(En.gr s l).fp,w.heap.size<=b)/\∀d∈xs l,d.op=0->d∈xs (gU kind)
def Pq {g:List Nx} {n e:Nx} (hn:n.op≠0) (he:e∈(iN g n).1) (h0:e.op=0):e∈g:=by
 unfold iN at he
 split at he
 .cases he
 .split at he
  .exact he
  .split at he
   .cases he
   .rcases gg.1 he with he|he
    .exact he
    .rw [List.mem_singleton.1 he] at h0
     exact absurd h0 hn
def Fb {w:aA} {ls:Sl} {ns:List Int} (hr:hU w ls ns) (Uk:∀x∈ns,qS x) (hnl:ns.length<=9223372036854775807) (kind:Int) (uG:Nat) (hm:uG<=1000):
  aH aB iq #[ls.v,.i kind,.i (uG:Int)] w λr w'=>DP w kind uG r w'/\bW w w':=by
 have hn:=hU.len hr
 have loop:∀(m i:Nat) (gs:Sl) (l:List Nd) (w1:aA),i+m=uG->wh (xs l)->(∀d∈xs l,d.op=0->d∈xs (gU kind))->1<=l.length->l.length<=10+i->(∀b∈(En.gr gs l).fp,w.heap.size<=b)->LH F0 w w1 [] [.rd ls (ns.map l4),.gr gs l]->
   enthymemeref07_Made.fO ls kind (uG:Int) gs ((3 *i:Nat):Int) w1 λr w'=>DP w kind uG r w'/\bW w w':=by
  intro m
  have e3:aC .i64 (3 *(uG:Int))=3 *(uG:Int):=aS _ (by omega)
  induction m with
  |zero=>
   intro i gs l w1 hi hg hv h1 h2 hf H
   have fin:enthymemeref07_Made.ir gs w1 λr w'=>DP w kind uG r w'/\bW w w':=⟨⟨gs,l,rfl,hg,h1,by omega,eG.1 (H.getD 1),hf,hv⟩,H.fr⟩
   exact enthymemeref07_Made.bT _ _ _ _ _ _ _ (bA (λ_=>aX (aK (by rw [e3];omega)) fin) (λ_=>fin))
  |succ m ih=>
   intro i gs l w1 hi hg hv h1 h2 hf H
   have fin:enthymemeref07_Made.ir gs w1 λr w'=>DP w kind uG r w'/\bW w w':=⟨⟨gs,l,rfl,hg,h1,by omega,eG.1 (H.getD 1),hf,hv⟩,H.fr⟩
   have w1':aC .i64 (((3 *i:Nat):Int)+1)=((3 *i+1:Nat):Int):=aS _ (by omega)
   have w2':aC .i64 (((3 *i:Nat):Int)+2)=((3 *i+2:Nat):Int):=aS _ (by omega)
   have w3':aC .i64 (((3 *i:Nat):Int)+3)=((3 *(i+1):Nat):Int):=aS _ (by omega)
   have next:∀(Z3:Sl) (l':List Nd) (w5:aA),wh (xs l')->(∀d∈xs l',d.op=0->d∈xs (gU kind))->1<=l'.length->l'.length<=10+(i+1)->(∀b∈(En.gr Z3 l').fp,w.heap.size<=b)->LH F0 w w5 [] [.rd ls (ns.map l4),.gr Z3 l']->enthymemeref07_Made.fN ls kind (uG:Int) Z3 ((3 *i:Nat):Int) w5 λr w'=>DP w kind uG r w'/\bW w w':=by
    intro Z3 l' w5 g1 gv g2 g3 g4 H5
    show enthymemeref07_Made.fO ls kind (uG:Int) Z3 (aC .i64 (((3 *i:Nat):Int)+3)) w5 _
    rw [w3']
    exact ih (i+1) Z3 l' w5 (by omega) g1 gv g2 g3 g4 H5
   have S1:∀(b9:Nat) (d:Nd) (w3:aA) (L:List En),En.g b9∈L->MdV d.x->d.P w3->(∀b∈bQ d.ks,w.heap.size<=b)->LH F0 w w3 L [.rd ls (ns.map l4),.gr gs l,fV d]->enthymemeref07_Made.gW ls kind (uG:Int) gs ((3 *i:Nat):Int) b9 d.x.op d.ks d.x.n d.x.m d.x.u d.x.tx d.x.st.k d.x.st.n d.x.st.x w3 λr w'=>DP w kind uG r w'/\bW w w':=by
    intro b9 d w3 L hb9 hd pd fd H3
    have pQ:(xs l).length=l.length:=by simp [xs]
    have H3:LH F0 w w3 [] [.rd ls (ns.map l4),.gr gs l,fV d]:=H3.take 0
    refine o7 ((X9 (eG.1 (H3.getD 1)) pd (hg.ok (by rw [pQ];unfold pO;omega)) hd.toMdN.ok hg.kl).mono ?_)
    rintro _ w4 ⟨⟨s',rfl,⟨l',OY,G',F'⟩⟩,f4⟩
    have q5:∀b∈(En.gr s' l').fp,w.heap.size<=b:=λb hb=>by
     rcases F' b hb with (h|h)|h
     .exact hf b h
     .exact IY fd b h
     .exact Nat.le_trans H3.fr.size h
    have H4:=H3.qx f4
    have H4':LH F0 w w4 [] [.rd ls (ns.map l4),.gr s' l']:=(H3.pS (.gr s' l') f4 (eG.2 G') (λb hb=>by
     rcases F' b hb with (h|h)|h
     .exact .inr (.inr ⟨_,dI (i:=1) rfl,h⟩)
     .exact .inr (.inr ⟨_,dI (i:=2) rfl,h⟩)
     .exact .inl h)).forget _ (by simp)
    have aac:∀{w6:aA},LH F0 w w6 [] [.rd ls (ns.map l4),.gr gs l,fV d]->LH F0 w w6 [] [.rd ls (ns.map l4),.gr gs l]:=λH=>H.forget _ (by simp)
    refine ⟨f4,_,_,_,rfl,aY (λh0=>?_) (λh0=>next gs l w4 hg hv h1 (by omega) hf (aac H4))⟩
    obtain ⟨_,k,HW,tN,_⟩:=wU h0
    have Ww:wh (xs l'):=by rw [OY];exact Bd hg hd.toMdN h0
    have hvd:∀e∈xs l',e.op=0->e∈xs (gU kind):=λe he h=>by
     rw [OY] at he
     exact hv e (Pq hd.nv he h) h
    have Kx:l'.length<=10+(i+1):=by
     have:=xT (xs l) d.x
     rw [<-OY] at this
     simp only [xs,List.length_map] at this
     omega
    rw [<-OY] at tN
    have NT:k<l'.length:=by
     have:=(nY.1 tN).1
     simpa [xs] using this
    have DD:l'[k]? =some (l'[k]'NT):=ie NT
    generalize l'[k]'NT=e at DD
    rw [HW]
    refine oc (eG.1 (H4'.getD 1)) rfl DD λp hp c=>⟨_,_,_,c.s0,c.s1,c.s2,?_⟩
    refine o7 ((Kc kind e.x.st w4).mono ?_)
    rintro _ w5 ⟨⟨b,rfl⟩,f5⟩
    have H5:=H4'.qx f5
    have H5o:=aac (H4.qx f5)
    refine ⟨f5,_,rfl,bR (λ_=>?_) (λ_=>next gs l w5 hg hv h1 (by omega) hf H5o)⟩
    refine oc (eG.1 (H5.getD 1)) rfl DD λp' JH c'=>⟨_,c'.s1,bA (λ_=>?_) (λ_=>next gs l w5 hg hv h1 (by omega) hf H5o)⟩
    have HX:∀(i:Nat) (d:Nd),l'[i]? =some d->d.x.kids.length<=1000000/\∀k∈d.x.kids,0<=k/\k<(i:Int):=λi d hd=>by
     have Z8:=um hd
     have:=(Ww.nd d.x (dI Z8)).kl
     exact ⟨by omega,Ww.vg.kids Z8⟩
    refine o7 ((PX (eG.1 (H5.getD 1)) HX (k+1) k (by omega) NT w5 (Fr.refl _ _)).mono ?_)
    rintro _ w6 ⟨⟨z,rfl⟩,f6⟩
    have f6:bW w5 w6:=f6
    exact ⟨f6,_,rfl,bA (λ_=>next s' l' w6 Ww hvd (by omega) Kx q5 (H5.qx f6)) (λ_=>next gs l w6 hg hv h1 (by omega) hf (H5o.qx f6))⟩
   refine enthymemeref07_Made.bT _ _ _ _ _ _ _ ?_
   rw [w1',w2',e3]
   refine bA (λjO=>bF (aO (by omega)) (H.dr λw2 H2=>?_)) (λ_=>fin)
   have h2n:hU w2 ls ns:=H2.getD 0
   have g0:ns[3 *i]? =some (ns[3 *i]'(by omega)):=ie (by omega)
   have g1:ns[3 *i+1]? =some (ns[3 *i+1]'(by omega)):=ie (by omega)
   have g2:ns[3 *i+2]? =some (ns[3 *i+2]'(by omega)):=ie (by omega)
   generalize ns[3 *i]'(by omega)=x0 at g0
   generalize ns[3 *i+1]'(by omega)=x1 at g1
   generalize ns[3 *i+2]'(by omega)=x2 at g2
   refine ⟨by omega,by omega,h2n.cell g0 (by omega) λp0 hp0 c0=>⟨x0,c0,by omega,by omega,h2n.cell g1 (by omega) λp1 hp1 c1=>⟨x1,c1,by omega,by omega,h2n.cell g2 (by omega) λp2 hp2 c2=>⟨x2,c2,?_,?_⟩⟩⟩⟩
   .have N:=PO (eG.1 (H2.getD 1)) h1 (by unfold pO;omega) (λd hd=>hg.vg.val d.x (pN.2 ⟨d,hd,rfl⟩)) x0 x1 x2 (Uk _ (dI g0)) (Uk _ (dI g1)) (Uk _ (dI g2))
    refine H2.LJ N ?_
    rintro _ w3 ⟨d,rfl,hd,pd,fd⟩ _ F3
    have H3:=F3.rd (fV d) pd (IY fd)
    refine ⟨_,_,_,_,_,_,_,_,_,rfl,H3.cC λb9 w4 H4=>H4.bH λw5 H5=>?_⟩
    exact S1 b9 d w5 _ (by simp) hd (H5.getD 2) (λb hb=>Nat.le_trans H2.fr.size (fd b hb)) H5
   .refine H2.cC λb9 w3 H3=>?_
    have h3n:hU w3 ls ns:=H3.getD 0
    have again:∀{j:Nat} {x:Int} {p:Addr} {X:Nat},ns[j]? =some x->ls.a=some p->X=j *1->w3.cell? (p.add X)=some (.int .i64 x):=by
     intro j x p X hg hp hX
     have:=h3n.cell hg hX (K:=λq=>∃q',ls.a=some q'/\w3.cell? (q'.add X)=some (.int .i64 x)) (λq hq hc=>⟨q,hq,hc⟩)
     rw [hp] at this
     obtain ⟨q,hq,hc⟩:=this
     cases hq
     exact hc
    have N:=PO (eG.1 (H3.getD 1)) h1 (by unfold pO;omega) (λd hd=>hg.vg.val d.x (pN.2 ⟨d,hd,rfl⟩)) x0 x1 x2 (Uk _ (dI g0)) (Uk _ (dI g1)) (Uk _ (dI g2))
    refine ⟨again g2 hp2 (by omega),again g1 hp1 (by omega),again g0 hp0 (by omega),H3.rC N ?_⟩
    rintro _ w4 ⟨d,rfl,hd,pd,fd⟩ _ F4
    have H4:=F4.rd (fV d) pd (IY fd)
    refine ⟨_,_,_,_,_,_,_,_,_,rfl,H4.bH λw5 H5=>?_⟩
    exact S1 b9 d w5 _ (by simp) hd (H5.getD 2) (λb hb=>Nat.le_trans H3.fr.size (fd b hb)) H5
 refine enthymemeref07_Made.dQ _ _ _ w _ ((TD kind w).mono ?_)
 rintro _ w1 ⟨⟨s,rfl,⟨l,hl,G,F⟩⟩,f1⟩
 have hlen:=OC kind
 have YC:l.length=(gU kind).length:=by
  have:=congrArg List.length hl
  simpa [xs] using this
 have q5:∀b∈(En.gr s l).fp,w.heap.size<=b:=λb hb=>(F b hb).resolve_left id
 have H:LH F0 w w [] [.rd ls (ns.map l4)]:=og _ (by
  intro e he
  simp only [dT,gL,or_false] at he
  subst he
  exact hr)
 have H1:=H.pS (.gr s l) f1 (eG.2 G) (λb hb=>.inl (q5 b hb))
 exact ⟨s,rfl,loop uG 0 s l w1 (by omega) (by rw [hl];exact Se kind) (λd hd _=>hl▸hd) (by omega) (by omega) q5 H1⟩
end Go.Proofs.YtnpkhgljhcnpcaaGreatDoor
