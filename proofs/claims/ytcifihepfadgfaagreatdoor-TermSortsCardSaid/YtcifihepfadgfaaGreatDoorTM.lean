import Derived.Test.YtcifihepfadgfaaGreatDoorTP
import Derived.Test.YtcifihepfadgfaaGreatDoorT1
set_option linter.unusedVariables false
set_option maxRecDepth 100000
set_option maxHeartbeats 1000000
namespace Go.Proofs.YtcifihepfadgfaaGreatDoor
open Go Go.W
theorem n_around (n m:Int) (w:World) (hm:1≤m) (h:I64 n):Calls Tryz.prog n_enthymemeref01_Around #[.i n,.i m] w fun r w'=>r=.returned (.i (aroundI n m))∧Fr0 w w':=(around_any n m w hm h).mono fun r w' h=>⟨h.1,h.2▸Fr.refl _ _⟩
def varX (t:List UInt8) (s:Srt):Nx:=⟨0,[],0,0,0,ba t,s⟩
def varD (t:List UInt8) (s:Srt):Nd:=⟨varX t s,⟨none,0,0⟩⟩
def start0:List Nd:=[varD [97] (bvS 2),varD [98] (bvS 2),varD [99] (bvS 1),varD [100] (bvS 3)]
def start1:List Nd:=[varD [109] ⟨2,2,1⟩,varD [110] ⟨2,2,1⟩]
def start2:List Nd:=[varD [115] (strS 2),varD [116] (strS 1),varD [105] (bvS 7),varD [122] ⟨3,1,1⟩]
def startD (kind:Int):List Nd:=start0++(if kind>0 then start1 else [])++(if kind>1 then start2 else [])
def vgB (l:List Nx):Bool:=(List.range l.length).all fun i=>match l[i]? with
 |some n=>decide (srtX (l.take i) n=(n.st,0))&&decide (n∉l.take i)
 |none=>false
theorem vg_of {l:List Nx} (h:vgB l=true):Vg l:=by
 have main:∀i,i≤l.length→Vg (l.take i):=by
  intro i
  induction i with
  |zero=>intro _;rw [List.take_zero];exact .nil
  |succ i ih=>
   intro hi
   have h1:=List.all_eq_true.1 h i (List.mem_range.2 (by omega))
   have hg:l[i]? =some (l[i]'(by omega)):=List.getElem?_eq_getElem (by omega)
   rw [hg] at h1
   dsimp only at h1
   rw [List.take_add_one,hg]
   simp only [Bool.and_eq_true,decide_eq_true_eq] at h1
   exact .snoc (ih (by omega)) h1.1 h1.2
 have:=main l.length (Nat.le_refl _)
 rwa [List.take_length] at this
theorem start_vg (kind:Int):Vg (xs (startD kind)):=by
 unfold startD
 split
 ·split
  ·exact vg_of (by kernel_rfl)
  ·exact vg_of (by kernel_rfl)
 ·split
  ·exact vg_of (by kernel_rfl)
  ·exact vg_of (by kernel_rfl)
structure MdN (d:Nx):Prop where
 op1:-1≤d.op
 op2:d.op≤34
 kl:d.kids.length≤3
 n:0≤d.n∧d.n≤100
 m:0≤d.m∧d.m≤100
 u:0≤d.u∧d.u≤1000
 tx:d.op≠33→d.tx.size≤16
 re:d.op=33→∃k,d.tx=ba (textQ k)
structure MdG (g:List Nx):Prop where
 vg:Vg g
 nd:∀d∈g,MdN d
theorem start_md (kind:Int):MdG (xs (startD kind)):=by
 refine ⟨start_vg kind,fun d hd=>?_⟩
 have h:∃t s,d=varX t s∧t.length≤16:=by
  have h1:d∈xs (start0++start1++start2):=by
   obtain ⟨a,ha,rfl⟩:=List.mem_map.1 hd
   refine List.mem_map.2 ⟨a,?_,rfl⟩
   unfold startD at ha
   rcases List.mem_append.1 ha with ha|ha
   ·rcases List.mem_append.1 ha with ha|ha
    ·simp [ha]
    ·split at ha
     ·simp [ha]
     ·cases ha
   ·split at ha
    ·simp [ha]
    ·cases ha
  simp only [xs,start0,start1,start2,varD,List.cons_append,List.nil_append,List.map_cons,List.map_nil,List.mem_cons,List.not_mem_nil,or_false] at h1
  rcases h1 with rfl|rfl|rfl|rfl|rfl|rfl|rfl|rfl|rfl|rfl<;>exact ⟨_,_,rfl,by decide⟩
 obtain ⟨t,s,rfl,ht⟩:=h
 exact ⟨by show (-1:Int)≤0;omega,by show (0:Int)≤34;omega,by simp [varX],by simp [varX],by simp [varX],by simp [varX],fun _=>by show (ba t).size≤16;rw [ba_size];exact ht,fun h=>by cases h⟩
theorem startD_kids {kind:Int}:∀d∈startD kind,d.x.kids=[]∧d.ks=⟨none,0,0⟩:=by
 intro d hd
 have h1:d∈start0++start1++start2:=by
  unfold startD at hd
  rcases List.mem_append.1 hd with ha|ha
  ·rcases List.mem_append.1 ha with ha|ha
   ·simp [ha]
   ·split at ha
    ·simp [ha]
    ·cases ha
  ·split at ha
   ·simp [ha]
   ·cases ha
 simp only [start0,start1,start2,varD,varX,List.cons_append,List.nil_append,List.mem_cons,List.not_mem_nil,or_false] at h1
 rcases h1 with rfl|rfl|rfl|rfl|rfl|rfl|rfl|rfl|rfl|rfl<;>exact ⟨rfl,rfl⟩
theorem start_gp {kind:Int} {w w0:World} {s:Sl} (h:RdN 9 w s ((startD kind).flatMap Nd.c)) (hf:∀b∈blkL s,w0.heap.size≤b):GR w0 F0 (xs (startD kind)) s w:=by
 refine ⟨startD kind,rfl,⟨h,fun d hd=>?_⟩,fun b hb=>.inr ?_⟩
 ·obtain ⟨h1,h2⟩:=startD_kids d hd
  show Nums w d.ks d.x.kids
  rw [h1,h2]
  exact Rd.nil w
 ·rcases gr_fp.1 hb with hb|⟨d,hd,hb⟩
  ·exact rdn_fp hf b hb
  ·obtain ⟨h1,h2⟩:=startD_kids d hd
   unfold kidE at hb
   rw [h1] at hb
   cases hb
theorem start_len (kind:Int):1≤(startD kind).length∧(startD kind).length≤10:=by
 unfold startD
 split<;>split<;>decide
theorem c_start (kind:Int) (w:World):Calls Tryz.prog n_enthymemeref07_start #[.i kind] w fun r w'=>(∃s:Sl,r=.returned s.v∧GR w F0 (xs (startD kind)) s w')∧Fr0 w w':=by
 refine enthymemeref07_start.ok kind w _ ((lh0 [] (by simp)).call (c_BV 2 w) ?_)
 rintro _ w1 rfl H1
 refine ⟨_,_,_,rfl,H1.call (c_BV 2 w1) ?_⟩
 rintro _ w2 rfl H2
 refine ⟨_,_,_,rfl,H2.call (c_BV 1 w2) ?_⟩
 rintro _ w3 rfl H3
 refine ⟨_,_,_,rfl,H3.call (c_BV 3 w3) ?_⟩
 rintro _ w4 rfl H4
 refine ⟨_,_,_,rfl,H4.nwrow (n:=4) (sz:=9) (cs:=start0.flatMap Nd.c) rfl (by decide) fun w5 H5=>?_⟩
 have fin:∀(l:Sl) (w6:World) (L:List En) (j:Nat),LH F0 w w6 L []→L[j]? =some (.row ty_api_Node 9 l ((startD kind).flatMap Nd.c))→(∃s:Sl,Ending.returned l.v=.returned s.v∧GR w F0 (xs (startD kind)) s w6)∧Fr0 w w6:=fun l w6 L j H6 hj=>
  ⟨⟨l,rfl,start_gp (H6.get j hj:OwnRow _ _ _ _ _).rdn fun b hb=>(H6.new _ (List.mem_of_getElem? hj) b hb).resolve_right id⟩,H6.fr⟩
 have S0:∀(l:Sl) (w6:World) (L:List En) (j:Nat) (ds:List Nd),LH F0 w w6 L []→ds.length≤6→startD kind=ds++(if kind>1 then start2 else [])→L[j]? =some (.row ty_api_Node 9 l (ds.flatMap Nd.c))→enthymemeref07_start.S0 kind l w6 fun r w'=>(∃s:Sl,r=.returned s.v∧GR w F0 (xs (startD kind)) s w')∧Fr0 w w':=by
  intro l w6 L j ds H6 hds he hj
  refine sel_dec (fun h1=>?_) (fun h1=>?_)
  ·rw [if_pos h1] at he
   refine H6.call (c_Strings 2 w6) ?_
   rintro _ w7 rfl H7
   refine ⟨_,_,_,rfl,H7.call (c_Strings 1 w7) ?_⟩
   rintro _ w8 rfl H8
   refine ⟨_,_,_,rfl,H8.call (c_BV 7 w8) ?_⟩
   rintro _ w9 rfl H9
   refine ⟨_,_,_,rfl,H9.nwrow (n:=4) (sz:=9) (cs:=start2.flatMap Nd.c) rfl (by decide) fun w10 H10=>?_⟩
   have hj2:(L++[En.row ty_api_Node 9 ⟨some (at0 w9.heap.size),4,4⟩ (start2.flatMap Nd.c)])[j]? =some (.row ty_api_Node 9 l (ds.flatMap Nd.c)):=by
    rw [List.getElem?_append_left (List.getElem?_eq_some_iff.1 hj).1];exact hj
   have hlast:(L++[En.row ty_api_Node 9 ⟨some (at0 w9.heap.size),4,4⟩ (start2.flatMap Nd.c)])[L.length]? =some (.row ty_api_Node 9 ⟨some (at0 w9.heap.size),4,4⟩ (start2.flatMap Nd.c)):=by simp
   have hn:l.n=ds.length:=by
    have:=(H10.get j hj2:OwnRow _ _ _ _ _).len
    rw [Nd.cs_len] at this
    omega
   have hsrc:RdN 9 w10 ⟨some (at0 w9.heap.size),4,4⟩ (start2.flatMap Nd.c):=(H10.get L.length hlast:OwnRow _ _ _ _ _).rdn
   refine H10.ap j el_node (src:=⟨some (at0 w9.heap.size),4,4⟩) hj2 hsrc.2.2 hsrc.1 nd_one (by simp only;omega) (fun s' w11 H11 _ _=>?_)
   refine fin s' w11 _ j H11 ?_
   rw [List.getElem?_set_self (by simp;have:=(List.getElem?_eq_some_iff.1 hj).1;omega),he,List.flatMap_append]
  ·rw [if_neg h1,List.append_nil] at he
   rw [←he] at hj
   exact fin l w6 L j H6 hj
 refine sel_dec (fun h0=>H5.nwrow (n:=2) (sz:=9) (cs:=start1.flatMap Nd.c) rfl (by decide) fun w6 H6=>?_) (fun h0=>?_)
 ·have hsrc:RdN 9 w6 ⟨some (at0 w5.heap.size),2,2⟩ (start1.flatMap Nd.c):=(H6.get 1:OwnRow _ _ _ _ _).rdn
  refine H6.ap 0 el_node (s:=⟨some (at0 w4.heap.size),4,4⟩) (src:=⟨some (at0 w5.heap.size),2,2⟩) rfl hsrc.2.2 hsrc.1 nd_one (by show (4+2) *96≤_;omega) (fun s' w7 H7 _ _=>?_)
  refine S0 s' w7 _ 0 (start0++start1) H7 (by decide) ?_ ?_
  ·unfold startD;rw [if_pos h0]
  ·rw [List.flatMap_append];rfl
 ·refine S0 ⟨some (at0 w4.heap.size),4,4⟩ w5 _ 0 start0 H5 (by decide) ?_ rfl
  unfold startD;rw [if_neg h0,List.append_nil]
theorem c_within07 (kind:Int) (s:Srt) (w:World):Calls Tryz.prog n_enthymemeref07_within #[.i kind,srtV s] w fun r w'=>(∃b:Bool,r=.returned (.bool b))∧Fr0 w w':=
 enthymemeref07_within.okT _ _ _ _ w _ ((lh0 [] (by simp)).newg fun b w1 H1=>sel_eq (fun h=>⟨⟨_,rfl⟩,H1.fr⟩) (fun h=>sel_dec (fun h=>sel_eq (fun h=>⟨⟨_,rfl⟩,H1.fr⟩) (fun h=>⟨⟨_,rfl⟩,H1.fr⟩)) (fun h=>⟨⟨_,rfl⟩,H1.fr⟩)))
theorem c_size {w:World} {s:Sl} {l:List Nd} (h:GP w s l) (hk:∀(i:Nat) (d:Nd),l[i]? =some d→d.x.kids.length≤1000000∧∀k∈d.x.kids,0≤k∧k<(i:Int)):∀(n i:Nat),i<n→i<l.length→∀w1,Fr0 w w1→Calls Tryz.prog n_enthymemeref07_size #[s.v,.i (i:Int)] w1 fun r w'=>(∃z:Int,r=.returned (.i z))∧Fr0 w w'
 |0,i,hi,_,_,_=>absurd hi (by omega)
 |n+1,i,hi,hl,w1,f1=>by
  have G:∀{w2:World},Fr0 w w2→GP w2 s l:=fun f=>⟨h.1.fr0 f,fun d hd=>(kidE d).st w _ (fun b hb hlt=>f.keep b hlt id) (h.2 d hd)⟩
  have hg:l[i]? =some (l[i]'hl):=List.getElem?_eq_getElem hl
  generalize l[i]'hl=d at hg
  obtain ⟨k1,k2⟩:=hk i d hg
  have loop:∀(m j:Nat) (z:Int) (w2:World),j+m=d.x.kids.length→Fr0 w w2→enthymemeref07_size.L0 s (i:Int) z (j:Int) w2 fun r w'=>(∃z:Int,r=.returned (.i z))∧Fr0 w w':=by
   intro m
   induction m with
   |zero=>
    intro j z w2 hj f2
    have hn:d.ks.n=d.x.kids.length:=Nums.len ((G f2).2 d (List.mem_of_getElem? hg))
    exact enthymemeref07_size.L0_step _ _ _ _ _ _ (gr_at (G f2) rfl hg fun p hp c=>⟨_,c.c1,sel_false (decide_eq_false (by omega)) ⟨⟨_,rfl⟩,f2⟩⟩)
   |succ m ih=>
    intro j z w2 hj f2
    have hd2:Nums w2 d.ks d.x.kids:=(G f2).2 d (List.mem_of_getElem? hg)
    have hn:=Nums.len hd2
    have hgk:d.x.kids[j]? =some (d.x.kids[j]'(by omega)):=List.getElem?_eq_getElem (by omega)
    generalize d.x.kids[j]'(by omega)=k at hgk
    have hkk:=k2 k (List.mem_of_getElem? hgk)
    refine enthymemeref07_size.L0_step _ _ _ _ _ _ (gr_at (G f2) rfl hg fun p hp c=>⟨_,c.c1,sel_true (decide_eq_true (by omega)) (gr_at (G f2) rfl hg fun p' hp' c'=>⟨_,c'.c1,by omega,by omega,hd2.cell hgk (by omega) fun q hq hc=>⟨k,hc,?_⟩⟩)⟩)
    have ek:k=((k.toNat:Nat):Int):=by omega
    rw [ek]
    refine (c_size h hk n k.toNat (by omega) (by omega) w2 f2).mono ?_
    rintro _ w3 ⟨⟨z3,rfl⟩,f3⟩
    refine ⟨_,rfl,?_⟩
    show enthymemeref07_size.L0 s (i:Int) _ (IntKind.wrap .i64 ((j:Int)+1)) w3 _
    rw [i64_next _ (by omega)]
    exact ih (j+1) _ w3 (by omega) f3
  exact enthymemeref07_size.ok _ _ w1 _ (loop d.x.kids.length 0 1 w1 (by omega) f1)
end Go.Proofs.YtcifihepfadgfaaGreatDoor
set_option maxRecDepth 100000
set_option maxHeartbeats 1000000
namespace Go.Proofs.YtcifihepfadgfaaGreatDoor
open Go Go.W
theorem lhG {w:World} {s:Sl} {l:List Nd} (h:GP w s l):LH F0 w w [] [.gr s l]:=lh0 _ (by
 intro e he
 simp only [List.mem_cons,List.not_mem_nil,or_false] at he
 subst he
 exact gr_P.2 h)
abbrev numR (s:Sl) (l:List Int):En:=.row ty_int 1 s (l.map intV)
theorem num_own {w:World} {s:Sl} {l:List Int} (h:OwnRow w ty_int 1 s (l.map intV)):Nums w s l:=h.rd1
theorem num_len {w:World} {s:Sl} {l:List Int} (h:OwnRow w ty_int 1 s (l.map intV)):s.n=l.length:=by
 have:=h.len
 simp at this
 omega
theorem c_Like {w:World} {s:Sl} {l:List Nd} (h:GP w s l) (t:Srt) (n:Int) (hn:I64 n) (hl:l.length≤MaxL):
  Calls Tryz.prog n_enthymemeref07_Like #[s.v,srtV t,.i n] w fun r w'=>(∃z:Int,r=.returned (.i z)∧-1≤z∧z<(l.length:Int))∧Fr0 w w':=by
 have hs:=gr_n h
 unfold MaxL at hl
 have loop:∀(m i:Nat) (l7:Sl) (ks:List Int) (b4:Nat) (w1:World),i+m=l.length→ks.length≤i→(∀k∈ks,0≤k∧k<(l.length:Int))→LH F0 w w1 [.g b4,numR l7 ks] [.gr s l]→
   enthymemeref07_Like.L0T s n b4 t.k t.n t.x l7 (i:Int) w1 fun r w'=>(∃z:Int,r=.returned (.i z)∧-1≤z∧z<(l.length:Int))∧Fr0 w w':=by
  intro m
  induction m with
  |zero=>
   intro i l7 ks b4 w1 hi hki hks H
   have hlen:=num_len (H.get 1)
   refine enthymemeref07_Like.L0T_step _ _ _ _ _ _ _ _ _ _ (sel_false (decide_eq_false (by omega)) (sel_eq (fun h0=>⟨⟨_,rfl,by omega,by omega⟩,H.fr⟩) (fun h0=>H.callg (n_around n _ w1 (by omega) hn) ?_)))
   have hr:=aroundI_range n ((l7.n:Nat):Int) (by omega)
   generalize aroundI n ((l7.n:Nat):Int)=z at hr
   rintro _ w2 rfl H2
   obtain ⟨j,rfl⟩:∃j:Nat,z=(j:Int):=⟨z.toNat,by omega⟩
   have hg:ks[j]? =some (ks[j]'(by omega)):=List.getElem?_eq_getElem (by omega)
   have hk:=hks _ (List.mem_of_getElem? hg)
   exact ⟨_,rfl,by omega,by omega,(num_own (H2.get 1)).cell hg (by omega) fun p hp hc=>⟨_,hc,⟨⟨_,rfl,by omega,by omega⟩,H2.fr⟩⟩⟩
  |succ m ih=>
   intro i l7 ks b4 w1 hi hki hks H
   have hg:l[i]? =some (l[i]'(by omega)):=List.getElem?_eq_getElem (by omega)
   generalize l[i]'(by omega)=d at hg
   have hlen:=num_len (H.get 1)
   refine enthymemeref07_Like.L0T_step _ _ _ _ _ _ _ _ _ _ (sel_true (decide_eq_true (by omega)) (gr_at (gr_P.1 (H.getD 0)) rfl hg fun p hp _=>H.locg fun w2 H2=>?_))
   have c:=gr_again (gr_P.1 (H2.getD 0)) hg hp (rfl:((i:Int))=(i:Int))
   refine ⟨_,_,_,c.s0,c.s1,c.s2,sel_srt (a:=d.x.st) (b:=t) (fun he=>?_) (fun he=>?_)⟩
   ·refine H2.ap1T 1 el_ints rfl (fun s' w3 H3=>?_) (by omega)
    show enthymemeref07_Like.L0T s n b4 t.k t.n t.x s' (IntKind.wrap .i64 ((i:Int)+1)) w3 _
    rw [i64_next _ (by omega)]
    refine ih (i+1) s' (ks++[(i:Int)]) b4 w3 (by omega) (by simp;omega) (fun k hk=>?_) (by rw [numR,List.map_append];exact H3)
    rcases List.mem_append.1 hk with hk|hk
    ·exact hks k hk
    ·simp only [List.mem_cons,List.not_mem_nil,or_false] at hk
     omega
   ·show enthymemeref07_Like.L0T s n b4 t.k t.n t.x l7 (IntKind.wrap .i64 ((i:Int)+1)) w2 _
    rw [i64_next _ (by omega)]
    exact ih (i+1) l7 ks b4 w2 (by omega) (by omega) hks H2
 exact enthymemeref07_Like.okT _ _ _ _ _ w _ ((lhG h).newg fun b4 w1 H1=>loop l.length 0 ⟨none,0,0⟩ [] b4 w1 (by omega) (by simp) (by simp) (H1.nilrow ty_int 1))
theorem c_wanted {w:World} {s:Sl} {l:List Nd} (h:GP w s l) (op:Int) (x:Nat) (kid n:Int) (hx:x<l.length) (hn:I64 n):
  Calls Tryz.prog n_enthymemeref07_wanted #[s.v,.i op,.i (x:Int),.i kid,.i n] w fun r w'=>(∃t:Srt,r=.returned (srtV t))∧Fr0 w w':=by
 have hs:=gr_n h
 have hg:l[x]? =some (l[x]'hx):=List.getElem?_eq_getElem hx
 generalize l[x]'hx=d at hg
 refine enthymemeref07_wanted.okT _ _ _ _ _ w _ ((lhG h).newg fun b10 w1 H1=>gr_at (gr_P.1 (H1.getD 0)) rfl hg fun p hp c=>⟨_,_,_,c.s0,c.s1,c.s2,H1.newg fun b11 w2 H2=>?_⟩)
 have ret:∀(a b c:Int) (w3:World) (bs:List Nat),(∀b∈bs,En.g b∈[En.g b10,.g b11])→LH F0 w w3 [.g b10,.g b11] [.gr s l]→loc bs w3 fun w9=>(∃t:Srt,Ending.returned (.agg #[.i a,.i b,.i c])=.returned (srtV t))∧Fr0 w w9:=fun a b c w3 bs hb H3=>H3.locg (fun w9 H9=>⟨⟨⟨a,b,c⟩,rfl⟩,H9.fr⟩) hb
 have S0:∀w3,LH F0 w w3 [.g b10,.g b11] [.gr s l]→enthymemeref07_wanted.S0T n b10 0 0 0 w3 fun r w'=>(∃t:Srt,r=.returned (srtV t))∧Fr0 w w':=by
  intro w3 H3
  refine H3.callg (n_around n 3 w3 (by omega) hn) ?_
  rintro _ w4 rfl H4
  refine ⟨_,rfl,H4.callg (c_Strings _ w4) ?_⟩
  rintro _ w5 rfl H5
  exact ⟨_,_,_,rfl,ret _ _ _ w5 _ (by simp) H5⟩
 refine sel_eq (fun h1=>H2.locg fun w3 H3=>H3.callg (n_around n _ w3 (by omega) hn) ?_) (fun h1=>sel_eq (fun h2=>H2.locg fun w3 H3=>H3.callg (n_around n 3 w3 (by omega) hn) ?_) (fun h2=>sel_eq (fun h3=>H2.locg fun w3 H3=>H3.callg (c_BV _ w3) ?_) (fun h3=>sel_eq (fun h4=>sel_eq (fun h5=>H2.locg fun w3 H3=>H3.callg (c_BV _ w3) ?_) (fun h5=>H2.locg fun w3 H3=>H3.callg (r_Element d.x.st w3) ?_)) (fun h4=>sel_eq (fun h6=>H2.locg fun w3 H3=>H3.callg (c_BV _ w3) ?_) (fun h6=>sel_eq (fun h7=>sel_true (beq_iff_eq.2 h7) (H2.locg fun w3 H3=>S0 w3 H3)) (fun h7=>sel_eq (fun h8=>sel_true (beq_iff_eq.2 h8) (H2.locg fun w3 H3=>S0 w3 H3)) (fun h8=>sel_eq (fun h9=>H2.locg fun w3 H3=>S0 w3 H3) (fun h9=>H2.locg fun w3 H3=>ret _ _ _ w3 _ (by simp) H3))))))))
 ·have hr:=aroundI_range n ((s.n:Nat):Int) (by omega)
  generalize aroundI n ((s.n:Nat):Int)=z at hr
  rintro _ w4 rfl H4
  obtain ⟨j,rfl⟩:∃j:Nat,z=(j:Int):=⟨z.toNat,by omega⟩
  have hg2:l[j]? =some (l[j]'(by omega)):=List.getElem?_eq_getElem (by omega)
  exact ⟨_,rfl,gr_at (gr_P.1 (H4.getD 0)) rfl hg2 fun q hq c'=>⟨_,_,_,c'.s0,c'.s1,c'.s2,ret _ _ _ w4 _ (by simp) H4⟩⟩
 ·rintro _ w4 rfl H4
  refine ⟨_,rfl,H4.callg (c_BV _ w4) ?_⟩
  rintro _ w5 rfl H5
  exact ⟨_,_,_,rfl,ret _ _ _ w5 _ (by simp) H5⟩
 ·rintro _ w4 rfl H4
  exact ⟨_,_,_,rfl,ret _ _ _ w4 _ (by simp) H4⟩
 ·rintro _ w4 rfl H4
  exact ⟨_,_,_,rfl,ret _ _ _ w4 _ (by simp) H4⟩
 ·rintro _ w4 rfl H4
  exact ⟨_,_,_,rfl,ret _ _ _ w4 _ (by simp) H4⟩
 ·rintro _ w4 rfl H4
  exact ⟨_,_,_,rfl,ret _ _ _ w4 _ (by simp) H4⟩
end Go.Proofs.YtcifihepfadgfaaGreatDoor
set_option maxRecDepth 100000
set_option maxHeartbeats 1000000
namespace Go.Proofs.YtcifihepfadgfaaGreatDoor
open Go Go.W
theorem wrI (x:Int):I64 (IntKind.wrap .i64 x):=by rw [IntKind.wrap_i64];omega
def NodeR (w:World) (r:Ending) (w':World):Prop:=∃d:Nd,r=.returned d.v∧MdN d.x∧d.P w'∧∀b∈blkL d.ks,w.heap.size≤b
theorem md_kids {op n m u:Int} {tx:ByteArray} {st:Srt} {ks:List Int} (h:MdN ⟨op,[],n,m,u,tx,st⟩) (hk:ks.length≤3):MdN ⟨op,ks,n,m,u,tx,st⟩:=⟨h.op1,h.op2,hk,h.n,h.m,h.u,h.tx,h.re⟩
theorem kidsN_range (op:Int):-1≤kidsN op∧kidsN op≤3:=by unfold kidsN;repeat' split<;>omega
section
variable {w:World} {s:Sl} {l:List Nd} {n1 m2 k3:Int} {b8 b10:Nat}
theorem node_loop (hm:I64 m2) (hk:I64 k3) (hl:l.length≤MaxL) {op n m u:Int} {tx:ByteArray} {st:Srt} (hd:MdN ⟨op,[],n,m,u,tx,st⟩) (many:Nat) (hmany:many≤3) (x:Int) (hx1:-1≤x) (hx2:x<(l.length:Int)):
  ∀(d i:Nat) (sl:Sl) (ks:List Int) (w1:World),i+d=many→ks.length=i→(∀k∈ks,0≤k∧k<(l.length:Int))→LH F0 w w1 [.g b8,.g b10,numR sl ks] [.gr s l]→
   enthymemeref07_node.L5T s m2 k3 b8 0 ⟨none,0,0⟩ 0 0 0 (ByteArray.mk #[]) 0 0 0 b10 op sl n m u tx st.k st.n st.x x (many:Int) (i:Int) w1 fun r w'=>NodeR w r w'∧Fr0 w w':=by
 intro d
 unfold MaxL at hl
 induction d with
 |zero=>
  intro i sl ks w1 hi hlen hks H
  refine enthymemeref07_node.L5T_step _ _ _ _ _ _ _ _ _ _ _ _ _ _ _ _ _ _ _ _ _ _ _ _ _ _ _ _ (sel_false (decide_eq_false (by omega)) (H.locg fun w2 H2=>⟨⟨⟨⟨op,ks,n,m,u,tx,st⟩,sl⟩,rfl,md_kids hd (by omega),num_own (H2.get 2),fun b hb=>(H2.new _ (List.mem_of_getElem? (i:=2) rfl) b hb).resolve_right id⟩,H2.fr⟩))
 |succ d ih=>
  intro i sl ks w1 hi hlen hks H
  have S7:∀(kid:Int) (w2:World) (L:List En),-1≤kid→kid<(l.length:Int)→LH F0 w w2 [.g b8,.g b10,numR sl ks] [.gr s l]→enthymemeref07_node.S7T s m2 k3 b8 0 ⟨none,0,0⟩ 0 0 0 (ByteArray.mk #[]) 0 0 0 b10 op sl n m u tx st.k st.n st.x x (many:Int) (i:Int) kid w2 fun r w'=>NodeR w r w'∧Fr0 w w':=by
   intro kid w2 L h1 h2 H2
   refine sel_dec (fun h0=>H2.locg fun w3 H3=>⟨⟨⟨⟨-1,[],0,0,0,ba [],noS⟩,⟨none,0,0⟩⟩,rfl,⟨by decide,by decide,by decide,by decide,by decide,by decide,fun _=>by decide,fun h=>by cases h⟩,Rd.nil w3,fun b hb=>by cases hb⟩,H3.fr⟩) (fun h0=>?_)
   refine H2.ap1T 2 el_ints rfl (fun s' w3 H3=>?_) (by have:=num_len (H2.get 2);omega)
   have H3':LH F0 w w3 [.g b8,.g b10,numR s' (ks++[kid])] [.gr s l]:=by rw [numR,List.map_append];exact H3
   refine H3'.locg fun w4 H4=>?_
   rw [i64_next _ (by omega)]
   refine ih (i+1) s' (ks++[kid]) w4 (by omega) (by simp [hlen]) (fun k hk=>?_) H4
   rcases List.mem_append.1 hk with hk|hk
   ·exact hks k hk
   ·simp only [List.mem_cons,List.not_mem_nil,or_false] at hk
    omega
  refine enthymemeref07_node.L5T_step _ _ _ _ _ _ _ _ _ _ _ _ _ _ _ _ _ _ _ _ _ _ _ _ _ _ _ _ (sel_true (decide_eq_true (by omega)) (sel_dec (fun hi0=>sel_dec (fun hx0=>?_) (fun hx0=>S7 x w1 [] hx1 hx2 H)) (fun hi0=>S7 x w1 [] hx1 hx2 H)))
  obtain ⟨xn,rfl⟩:∃xn:Nat,x=(xn:Int):=⟨x.toNat,by omega⟩
  refine H.callg (c_wanted (gr_P.1 (H.getD 0)) op xn (i:Int) m2 (by omega) hm) ?_
  rintro _ w2 ⟨t,rfl⟩ H2
  refine ⟨_,_,_,rfl,H2.newg fun b16 w3 H3=>?_⟩
  have S6:∀(t:Srt) (w4:World),LH F0 w w4 [.g b8,.g b10,numR sl ks,.g b16] [.gr s l]→enthymemeref07_node.S6T s m2 k3 b8 0 ⟨none,0,0⟩ 0 0 0 (ByteArray.mk #[]) 0 0 0 b10 op sl n m u tx st.k st.n st.x (xn:Int) (many:Int) (i:Int) b16 t.k t.n t.x w4 fun r w'=>NodeR w r w'∧Fr0 w w':=by
   intro t w4 H4
   have e5:IntKind.wrap .i64 (5 *(i:Int))=5 *(i:Int):=IntWalk.i64_in _ (by omega)
   have e6:IntKind.wrap .i64 (1+5 *(i:Int))=1+5 *(i:Int):=IntWalk.i64_in _ (by omega)
   refine ⟨by rw [e5,e6];omega,H4.locg fun w5 H5=>H5.callg (c_Like (gr_P.1 (H5.getD 0)) t _ (wrI _) (by unfold MaxL;exact hl)) ?_⟩
   rintro _ w6 ⟨z,rfl,hz1,hz2⟩ H6
   exact ⟨_,rfl,S7 z w6 [] hz1 hz2 (H6.take 3)⟩
  refine sel_eq (fun ho=>sel_eq (fun h2=>?_) (fun h2=>H3.locg fun w4 H4=>S6 t w4 H4)) (fun ho=>H3.locg fun w4 H4=>S6 t w4 H4)
  have hn:=num_len (H3.get 2)
  have hg:ks[1]? =some (ks[1]'(by omega)):=List.getElem?_eq_getElem (by omega)
  have hk1:=hks _ (List.mem_of_getElem? hg)
  generalize ks[1]'(by omega)=kk at hg hk1
  refine ⟨by omega,by omega,(num_own (H3.get 2)).cell hg (j:=Int.toNat 1 *1) rfl fun p hp _=>H3.locg fun w4 H4=>?_⟩
  have hge:l[kk.toNat]? =some (l[kk.toNat]'(by omega)):=List.getElem?_eq_getElem (by omega)
  generalize l[kk.toNat]'(by omega)=e at hge
  have hc:w4.cell? (p.add (Int.toNat 1 *1))=some (.int .i64 kk):=by
   have:=(num_own (H4.get 2)).cell hg (j:=Int.toNat 1 *1) rfl (K:=fun q=>∃q',sl.a=some q'∧w4.cell? (q'.add (Int.toNat 1 *1))=some (.int .i64 kk)) (fun q hq hc=>⟨q,hq,hc⟩)
   rw [hp] at this
   obtain ⟨q,hq,hc⟩:=this
   cases hq
   exact hc
  exact ⟨kk,hc,gr_at (gr_P.1 (H4.getD 0)) (i:=kk.toNat) (by omega) hge fun q hq c=>⟨_,_,_,c.s0,c.s1,c.s2,H4.locg fun w5 H5=>S6 e.x.st w5 H5⟩⟩
theorem node_rest (hn:I64 n1) (hm:I64 m2) (hk:I64 k3) (hl:l.length≤MaxL) {op n m u:Int} {tx:ByteArray} {st:Srt} (hd:MdN ⟨op,[],n,m,u,tx,st⟩) (x:Int) (hx1:0≤x) (hx2:x<(l.length:Int)) (w1:World) (H:LH F0 w w1 [.g b8,.g b10] [.gr s l]):
  enthymemeref07_node.S2T s n1 m2 k3 b8 0 ⟨none,0,0⟩ 0 0 0 (ByteArray.mk #[]) 0 0 0 b10 op ⟨none,0,0⟩ n m u tx st.k st.n st.x x w1 fun r w'=>NodeR w r w'∧Fr0 w w':=by
 refine H.callg (c_Kids op w1) ?_
 rintro _ w2 rfl H2
 have hr:=kidsN_range op
 have S4:∀(x:Int) (w3:World),-1≤x→x<(l.length:Int)→LH F0 w w3 [.g b8,.g b10] [.gr s l]→enthymemeref07_node.S4T s m2 k3 b8 0 ⟨none,0,0⟩ 0 0 0 (ByteArray.mk #[]) 0 0 0 b10 op ⟨none,0,0⟩ n m u tx st.k st.n st.x x (kidsN op) w3 fun r w'=>NodeR w r w'∧Fr0 w w':=by
  intro x w3 h1 h2 H3
  have H4:=H3.nilrow ty_int 1
  by_cases h0:kidsN op<0
  ·refine enthymemeref07_node.L5T_step _ _ _ _ _ _ _ _ _ _ _ _ _ _ _ _ _ _ _ _ _ _ _ _ _ _ _ _ (sel_false (decide_eq_false (by omega)) (H4.locg fun w2 H2=>⟨⟨⟨⟨op,[],n,m,u,tx,st⟩,⟨none,0,0⟩⟩,rfl,hd,Rd.nil w2,fun b hb=>by cases hb⟩,H2.fr⟩))
  ·have e:kidsN op=(((kidsN op).toNat:Nat):Int):=by omega
   show enthymemeref07_node.L5T _ _ _ _ _ _ _ _ _ _ _ _ _ _ _ _ _ _ _ _ _ _ _ _ (kidsN op) 0 _ _
   rw [e]
   exact node_loop hm hk hl hd (kidsN op).toNat (by omega) x h1 h2 (kidsN op).toNat 0 ⟨none,0,0⟩ [] w3 (by omega) rfl (by simp) H4
 have S3:∀(x:Int) (w3:World),-1≤x→x<(l.length:Int)→LH F0 w w3 [.g b8,.g b10] [.gr s l]→enthymemeref07_node.S3T s n1 m2 k3 b8 0 ⟨none,0,0⟩ 0 0 0 (ByteArray.mk #[]) 0 0 0 b10 op ⟨none,0,0⟩ n m u tx st.k st.n st.x x (kidsN op) w3 fun r w'=>NodeR w r w'∧Fr0 w w':=by
  intro x w3 h1 h2 H3
  refine sel_eq (fun ho=>H3.callg (c_BV 8 w3) ?_) (fun ho=>S4 x w3 h1 h2 H3)
  rintro _ w4 rfl H4
  refine ⟨_,_,_,rfl,H4.callg (c_Like (gr_P.1 (H4.getD 0)) (bvS 8) _ (wrI _) hl) ?_⟩
  rintro _ w5 ⟨z,rfl,hz1,hz2⟩ H5
  exact ⟨_,rfl,S4 z w5 hz1 hz2 H5⟩
 refine ⟨_,rfl,sel_eq (fun ho=>H2.callg (c_BV 1 w2) ?_) (fun ho=>S3 x w2 (by omega) hx2 H2)⟩
 rintro _ w4 rfl H4
 refine ⟨_,_,_,rfl,H4.callg (c_Like (gr_P.1 (H4.getD 0)) (bvS 1) _ (wrI _) hl) ?_⟩
 rintro _ w5 ⟨z,rfl,hz1,hz2⟩ H5
 exact ⟨_,rfl,S3 z w5 hz1 hz2 H5⟩
end
def opsL:List Int:=[4,5,6,7,8,9,10,11,12,13,14,15,16,17,18,19,20,21,22,23,24,25,26,27,28,29,30,31,32,33,34,1,2,3,18,18,16,6,24,25]
theorem ops_range {i:Nat} {op:Int} (h:opsL[i]? =some op):1≤op∧op≤34:=by
 have h1:(opsL.all fun x=>decide (1≤x)&&decide (x≤34))=true:=by decide
 have:=List.all_eq_true.1 h1 op (List.mem_of_getElem? h)
 simpa using this
def txtsL:List ByteArray:=[ba [],ba [97],ba [97,98],ba [98],ba [0],ba [97,97]]
theorem txts_size {i:Nat} {t:ByteArray} (h:txtsL[i]? =some t):t.size≤16:=by
 have h1:(txtsL.all fun x=>decide (x.size≤16))=true:=by decide
 have:=List.all_eq_true.1 h1 t (List.mem_of_getElem? h)
 simpa using this
theorem c_node {w:World} {s:Sl} {l:List Nd} (h:GP w s l) (hl0:1≤l.length) (hl:l.length≤MaxL) (hv:∀d∈l,validS d.x.st=true) (n1 m2 k3:Int) (hn:I64 n1) (hm:I64 m2) (hk:I64 k3):
  Calls Tryz.prog n_enthymemeref07_node #[s.v,.i n1,.i m2,.i k3] w fun r w'=>NodeR w r w'∧Fr0 w w':=by
 have hs:=gr_n h
 refine enthymemeref07_node.okT _ _ _ _ w _ ((lhG h).newg fun b8 w1 H1=>H1.nw fun w2 _ H2=>H2.callg (n_around n1 40 w2 (by omega) hn) ?_)
 have hr:=aroundI_range n1 40 (by omega)
 generalize aroundI n1 40=z at hr
 rintro _ w3 rfl H3
 obtain ⟨j,rfl⟩:∃j:Nat,z=(j:Int):=⟨z.toNat,by omega⟩
 have hgo:opsL[j]? =some (opsL[j]'(by show j<40;omega)):=List.getElem?_eq_getElem _
 have hop:=ops_range hgo
 generalize opsL[j]'(by show j<40;omega)=op at hgo hop
 have hrow:Nums w3 ⟨some (at0 w1.heap.size),40,40⟩ opsL:=blk_nums (T:=ty_int) (H3.ob 1) rfl
 refine ⟨_,rfl,by omega,by show (j:Int)<40;omega,hrow.cell hgo (by omega) fun p hp hc=>⟨op,hc,H3.newg fun b10 w4 H4=>H4.locg fun w5 H5=>H5.callg (n_around _ _ w5 (by omega) (wrI _)) ?_⟩⟩
 have hrx:=aroundI_range (IntKind.wrap .i64 (Int.tdiv n1 64)) ((s.n:Nat):Int) (by omega)
 generalize aroundI (IntKind.wrap .i64 (Int.tdiv n1 64)) ((s.n:Nat):Int)=x at hrx
 rintro _ w6 rfl H6
 have R:∀{n m u:Int} {tx:ByteArray} {st:Srt} {w7:World},MdN ⟨op,[],n,m,u,tx,st⟩→LH F0 w w7 [.g b8,.g b10] [.gr s l]→enthymemeref07_node.S2T s n1 m2 k3 b8 0 ⟨none,0,0⟩ 0 0 0 (ByteArray.mk #[]) 0 0 0 b10 op ⟨none,0,0⟩ n m u tx st.k st.n st.x x w7 fun r w'=>NodeR w r w'∧Fr0 w w':=fun hd H7=>node_rest hn hm hk hl hd x (by omega) (by omega) _ H7
 have H6:LH F0 w w6 [.g b8,.g b10] [.gr s l]:=H6.sieve [true,false,true]
 have em:ByteArray.mk #[]=ba []:=rfl
 have base:∀{n m u:Int} {tx:ByteArray} {st:Srt},0≤n∧n≤100→0≤m∧m≤100→0≤u∧u≤1000→(op≠33→tx.size≤16)→(op=33→∃k,tx=ba (textQ k))→MdN ⟨op,[],n,m,u,tx,st⟩:=fun h1 h2 h3 h4 h5=>⟨by show -1≤op;omega,hop.2,by simp,h1,h2,h3,h4,h5⟩
 have zz:(0:Int)≤0∧(0:Int)≤100:=by decide
 have z2:(0:Int)≤0∧(0:Int)≤1000:=by decide
 refine ⟨_,rfl,sel_eq (fun h1=>?_) (fun h1=>sel_eq (fun h2=>?_) (fun h2=>sel_eq (fun h3=>?_) (fun h3=>sel_eq (fun h4=>?_) (fun h4=>?_))))⟩
 ·refine H6.callg (n_around m2 3 w6 (by omega) hm) ?_
  have hr3:=aroundI_range m2 3 (by omega)
  generalize aroundI m2 3=v at hr3
  rintro _ w7 rfl H7
  refine ⟨_,rfl,?_⟩
  have S1:∀(wv:Int),1≤wv→wv≤7→enthymemeref07_node.S1T s n1 m2 k3 b8 0 ⟨none,0,0⟩ 0 0 0 (ByteArray.mk #[]) 0 0 0 b10 op ⟨none,0,0⟩ 0 0 0 (ByteArray.mk #[]) 0 0 0 x wv w7 fun r w'=>NodeR w r w'∧Fr0 w w':=by
   intro wv h5 h6
   refine H7.callg (c_BV wv w7) ?_
   rintro _ w8 rfl H8
   have hc:∃c:Nat,(if 3<wv then (3:Int) else wv)=(c:Int)∧1≤c∧c≤3:=⟨(if 3<wv then (3:Int) else wv).toNat,by split<;>omega,by split<;>omega,by split<;>omega⟩
   obtain ⟨c,hc,c1,c2⟩:=hc
   rw [hc]
   have ec:IntKind.wrap .u64 (c:Int)=(c:Int):=IntWalk.u64_in _ (by omega)
   rw [ec]
   have ep:∃q:Int,IntKind.wrap .i64 (1 *2^min (Int.toNat (c:Int)) (IntKind.bits .i64))=q∧1≤q∧q≤8:=by
    have:c=1∨c=2∨c=3:=by omega
    rcases this with rfl|rfl|rfl
    ·exact ⟨2,by decide,by decide,by decide⟩
    ·exact ⟨4,by decide,by decide,by decide⟩
    ·exact ⟨8,by decide,by decide,by decide⟩
   obtain ⟨q,eq,q1,q2⟩:=ep
   rw [eq]
   refine ⟨_,_,_,rfl,by omega,H8.locg fun w9 H9=>H9.callg (n_around k3 q w9 (by omega) hk) ?_⟩
   have hrq:=aroundI_range k3 q (by omega)
   generalize aroundI k3 q=a at hrq
   rintro _ w10 rfl H10
   have ea:IntKind.wrap .u64 a=a:=IntWalk.u64_in _ (by omega)
   refine ⟨_,rfl,H10.locg fun w11 H11=>?_⟩
   rw [ea]
   exact R (st:=bvS wv) (base zz zz (by omega) (fun _=>by decide) (fun h=>by omega)) H11
  have e1:IntKind.wrap .i64 (1+v)=1+v:=IntWalk.i64_in _ (by omega)
  show enthymemeref07_node.S0T s n1 m2 k3 b8 0 ⟨none,0,0⟩ 0 0 0 _ 0 0 0 b10 op ⟨none,0,0⟩ 0 0 0 _ 0 0 0 x (IntKind.wrap .i64 (1+v)) w7 _
  rw [e1]
  exact sel_eq (fun _=>S1 7 (by decide) (by decide)) (fun _=>S1 _ (by omega) (by omega))
 ·refine H6.nw fun w7 _ H7=>H7.callg (n_around m2 6 w7 (by omega) hm) ?_
  have hr6:=aroundI_range m2 6 (by omega)
  generalize aroundI m2 6=v at hr6
  rintro _ w8 rfl H8
  obtain ⟨i,rfl⟩:∃i:Nat,v=(i:Int):=⟨v.toNat,by omega⟩
  have hgt:txtsL[i]? =some (txtsL[i]'(by show i<6;omega)):=List.getElem?_eq_getElem _
  have hts:=txts_size hgt
  generalize txtsL[i]'(by show i<6;omega)=t at hgt hts
  have hrow:Rd w8 ⟨some (at0 w6.heap.size),6,6⟩ (txtsL.map Value.string):=blk_rd (T:=ty_string) (H8.ob 2) rfl
  refine ⟨_,rfl,by omega,by show (i:Int)<6;omega,Rd.get hrow (i:=i) (v:=.string t) (by simp [hgt]) (by omega) fun p hp hc=>⟨t,hc,H8.locg fun w9 H9=>?_⟩⟩
  exact R (st:=noS) (base zz zz z2 (fun _=>hts) (fun h=>by omega)) (H9.take 2)
 ·refine H6.nw fun w7 _ H7=>H7.callg (n_around m2 2 w7 (by omega) hm) ?_
  have hr2:=aroundI_range m2 2 (by omega)
  generalize aroundI m2 2=v at hr2
  rintro _ w8 rfl H8
  obtain ⟨i,rfl⟩:∃i:Nat,v=(i:Int):=⟨v.toNat,by omega⟩
  have hgt:([⟨2,2,1⟩,⟨3,1,1⟩]:List Srt)[i]? =some (([⟨2,2,1⟩,⟨3,1,1⟩]:List Srt)[i]'(by show i<2;omega)):=List.getElem?_eq_getElem _
  generalize ([⟨2,2,1⟩,⟨3,1,1⟩]:List Srt)[i]'(by show i<2;omega)=t at hgt
  have hrow:RdN 3 w8 ⟨some (at0 w6.heap.size),2,2⟩ (([⟨2,2,1⟩,⟨3,1,1⟩]:List Srt).flatMap srtC):=blk_rdn (T:=ty_api_Sort) (H8.ob 2) rfl
  obtain ⟨g1,g2,g3⟩:=srt_at hrow rfl hgt (K:=fun p=>ld3_2 w8 (p.add (Int.toNat (i:Int) *3)) fun a b c=>loc [b8,b10] w8 fun w9=>enthymemeref07_node.S2T s n1 m2 k3 b8 0 ⟨none,0,0⟩ 0 0 0 (ByteArray.mk #[]) 0 0 0 b10 op ⟨none,0,0⟩ 0 0 0 (ByteArray.mk #[]) a b c x w9 fun r w'=>NodeR w r w'∧Fr0 w w') (fun p hp c=>⟨_,_,_,c.c0,c.c1,c.c2,H8.locg fun w9 H9=>R (st:=t) (base zz zz z2 (fun _=>by decide) (fun h=>by omega)) (H9.take 2)⟩)
  exact ⟨_,rfl,g1,g2,g3⟩
 ·obtain ⟨xn,rfl⟩:∃xn:Nat,x=(xn:Int):=⟨x.toNat,by omega⟩
  have hg:l[xn]? =some (l[xn]'(by omega)):=List.getElem?_eq_getElem (by omega)
  generalize l[xn]'(by omega)=e at hg
  have hve:=valid_n (hv e (List.mem_of_getElem? hg))
  refine gr_at (gr_P.1 (H6.getD 0)) rfl hg fun p hp c=>⟨_,c.s1,H6.callg (n_around m2 _ w6 (by split<;>omega) hm) ?_⟩
  have hr7:=aroundI_range m2 (if 1<e.x.st.n then e.x.st.n else 1) (by split<;>omega)
  generalize aroundI m2 (if 1<e.x.st.n then e.x.st.n else 1)=a at hr7
  have ha:a<64:=by
   have:=hr7.2
   split at this<;>omega
  rintro _ w7 rfl H7
  have e1:IntKind.wrap .i64 (a+1)=a+1:=IntWalk.i64_in _ (by omega)
  refine ⟨_,rfl,H7.locg fun w8 H8=>H8.callg (n_around k3 _ w8 (by rw [e1];omega) hk) ?_⟩
  rw [e1]
  have hr8:=aroundI_range k3 (a+1) (by omega)
  generalize aroundI k3 (a+1)=b at hr8
  rintro _ w9 rfl H9
  exact ⟨_,rfl,H9.locg fun w10 H10=>R (st:=noS) (base (by omega) (by omega) z2 (fun _=>by decide) (fun h=>by omega)) H10⟩
 have S8:op≠33→enthymemeref07_node.S8T s n1 m2 k3 b8 0 ⟨none,0,0⟩ 0 0 0 (ByteArray.mk #[]) 0 0 0 b10 op ⟨none,0,0⟩ 0 0 0 (ByteArray.mk #[]) 0 0 0 x w6 fun r w'=>NodeR w r w'∧Fr0 w w':=by
  intro h33
  refine H6.callg (n_around m2 2 w6 (by omega) hm) ?_
  have hr2:=aroundI_range m2 2 (by omega)
  generalize aroundI m2 2=v at hr2
  rintro _ w7 rfl H7
  have e1:IntKind.wrap .i64 (1+v)=1+v:=IntWalk.i64_in _ (by omega)
  refine ⟨_,rfl,H7.locg fun w8 H8=>?_⟩
  rw [e1]
  exact R (st:=noS) (base (by omega) zz z2 (fun _=>by decide) (fun h=>absurd h h33)) H8
 refine sel_eq (fun h5=>sel_true (beq_iff_eq.2 h5) (S8 (by omega))) (fun h5=>sel_eq (fun h6=>S8 (by omega)) (fun h6=>sel_eq (fun h7=>?_) (fun h7=>sel_eq (fun h8=>H6.callg (c_Text m2 hm w6) ?_) (fun h8=>R (st:=noS) (base zz zz z2 (fun _=>by decide) (fun h=>absurd h h8)) H6))))
 ·refine H6.callg (n_around m2 3 w6 (by omega) hm) ?_
  have hr2:=aroundI_range m2 3 (by omega)
  generalize aroundI m2 3=v at hr2
  rintro _ w7 rfl H7
  exact ⟨_,rfl,H7.locg fun w8 H8=>R (st:=noS) (base (by omega) zz z2 (fun _=>by decide) (fun h=>by omega)) H8⟩
 ·rintro _ w7 ⟨k,rfl⟩ H7
  exact ⟨_,rfl,H7.locg fun w8 H8=>R (st:=noS) (base zz zz z2 (fun h=>absurd h8 h) (fun _=>⟨k,rfl⟩)) H8⟩
end Go.Proofs.YtcifihepfadgfaaGreatDoor
set_option maxRecDepth 100000
set_option maxHeartbeats 1000000
namespace Go.Proofs.YtcifihepfadgfaaGreatDoor
open Go Go.W
theorem MdN.ok {d:Nx} (h:MdN d):NOk d:=by
 refine ⟨by have:=h.kl;unfold MaxL;omega,?_,?_,fun h33=>?_⟩
 ·have:=h.n
  exact ⟨by omega,by omega⟩
 ·have:=h.m
  exact ⟨by omega,by omega⟩
 ·obtain ⟨k,hk⟩:=h.re h33
  rw [hk]
  refine ⟨?_,true,can_text k⟩
  rw [ba_size]
  have:=text_len k
  omega
theorem MdG.ok {g:List Nx} (h:MdG g) (hl:g.length≤MaxL):GOk g:=⟨hl,h.vg.val,h.vg.vars⟩
theorem add_len (g:List Nx) (n:Nx):(addX g n).1.length≤g.length+1:=by
 unfold addX
 split
 ·simp
 ·split
  ·simp
  ·split
   ·simp
   ·simp
theorem add_ok {g:List Nx} {n:Nx} (h:(addX g n).2.2=0):(srtX g n).2=0∧∃k:Nat,(addX g n).2.1=(k:Int)∧(addX g n).1[k]? =some (withS n (srtX g n).1)∧((addX g n).1=g∨(withS n (srtX g n).1∉g∧(addX g n).1=g++[withS n (srtX g n).1]∧k=g.length)):=by
 unfold addX at h ⊢
 split at h
 ·rename_i h0
  exact absurd h h0
 rename_i h0
 have h0:(srtX g n).2=0:=by omega
 refine ⟨h0,?_⟩
 rw [if_neg (by omega)]
 cases hi:idxX (withS n (srtX g n).1) g 0 with
 |some i=>
  have:=idx_some hi
  rw [Nat.sub_zero] at this
  exact ⟨i,rfl,this.2,.inl rfl⟩
 |none=>
  rw [hi] at h
  dsimp only at h ⊢
  split at h
  ·cases h
  ·rename_i h4
   rw [if_neg h4]
   exact ⟨g.length,rfl,by simp,.inr ⟨idx_none hi,rfl,rfl⟩⟩
theorem add_vg {g:List Nx} {n:Nx} (hg:Vg g) (h:(addX g n).2.2=0):Vg (addX g n).1:=by
 obtain ⟨h0,k,_,_,h3⟩:=add_ok h
 rcases h3 with h3|⟨h4,h5,_⟩
 ·rw [h3];exact hg
 ·rw [h5]
  exact .snoc hg (leaf_withS (by rw [←h0])) h4
theorem add_md {g:List Nx} {n:Nx} (hg:MdG g) (hn:MdN n) (h:(addX g n).2.2=0):MdG (addX g n).1:=by
 refine ⟨add_vg hg.vg h,fun d hd=>?_⟩
 obtain ⟨h0,k,_,_,h3⟩:=add_ok h
 rcases h3 with h3|⟨h4,h5,_⟩
 ·rw [h3] at hd;exact hg.nd d hd
 ·rw [h5] at hd
  rcases List.mem_append.1 hd with hd|hd
  ·exact hg.nd d hd
  ·simp only [List.mem_cons,List.not_mem_nil,or_false] at hd
   subst hd
   exact ⟨hn.op1,hn.op2,hn.kl,hn.n,hn.m,hn.u,hn.tx,hn.re⟩
theorem MdG.kl {l:List Nd} (h:MdG (xs l)):∀e∈l,e.x.kids.length≤MaxL:=fun e he=>by
 have:=(h.nd e.x (List.mem_map.2 ⟨e,he,rfl⟩)).kl
 unfold MaxL
 omega
def MadeR (w:World) (most:Nat) (r:Ending) (w':World):Prop:=∃(s:Sl) (l:List Nd),r=.returned s.v∧MdG (xs l)∧1≤l.length∧l.length≤10+most∧GP w' s l∧∀b∈(En.gr s l).fp,w.heap.size≤b
theorem c_Made {w:World} {ls:Sl} {ns:List Int} (hr:Nums w ls ns) (hns:∀x∈ns,I64 x) (hnl:ns.length≤9223372036854775807) (kind:Int) (most:Nat) (hm:most≤1000):
  Calls Tryz.prog n_enthymemeref07_Made #[ls.v,.i kind,.i (most:Int)] w fun r w'=>MadeR w most r w'∧Fr0 w w':=by
 have hn:=Nums.len hr
 have loop:∀(m i:Nat) (gs:Sl) (l:List Nd) (w1:World),i+m=most→MdG (xs l)→1≤l.length→l.length≤10+i→(∀b∈(En.gr gs l).fp,w.heap.size≤b)→LH F0 w w1 [] [.rd ls (ns.map intV),.gr gs l]→
   enthymemeref07_Made.L0T ls kind (most:Int) gs ((3 *i:Nat):Int) w1 fun r w'=>MadeR w most r w'∧Fr0 w w':=by
  intro m
  have e3:IntKind.wrap .i64 (3 *(most:Int))=3 *(most:Int):=IntWalk.i64_in _ (by omega)
  induction m with
  |zero=>
   intro i gs l w1 hi hg h1 h2 hf H
   have fin:enthymemeref07_Made.S3T gs w1 fun r w'=>MadeR w most r w'∧Fr0 w w':=⟨⟨gs,l,rfl,hg,h1,by omega,gr_P.1 (H.getD 1),hf⟩,H.fr⟩
   exact enthymemeref07_Made.L0T_step _ _ _ _ _ _ _ (sel_dec (fun _=>sel_false (decide_eq_false (by rw [e3];omega)) fin) (fun _=>fin))
  |succ m ih=>
   intro i gs l w1 hi hg h1 h2 hf H
   have fin:enthymemeref07_Made.S3T gs w1 fun r w'=>MadeR w most r w'∧Fr0 w w':=⟨⟨gs,l,rfl,hg,h1,by omega,gr_P.1 (H.getD 1),hf⟩,H.fr⟩
   have w1':IntKind.wrap .i64 (((3 *i:Nat):Int)+1)=((3 *i+1:Nat):Int):=IntWalk.i64_in _ (by omega)
   have w2':IntKind.wrap .i64 (((3 *i:Nat):Int)+2)=((3 *i+2:Nat):Int):=IntWalk.i64_in _ (by omega)
   have w3':IntKind.wrap .i64 (((3 *i:Nat):Int)+3)=((3 *(i+1):Nat):Int):=IntWalk.i64_in _ (by omega)
   have next:∀(gs':Sl) (l':List Nd) (w5:World),MdG (xs l')→1≤l'.length→l'.length≤10+(i+1)→(∀b∈(En.gr gs' l').fp,w.heap.size≤b)→LH F0 w w5 [] [.rd ls (ns.map intV),.gr gs' l']→enthymemeref07_Made.S2T ls kind (most:Int) gs' ((3 *i:Nat):Int) w5 fun r w'=>MadeR w most r w'∧Fr0 w w':=by
    intro gs' l' w5 g1 g2 g3 g4 H5
    show enthymemeref07_Made.L0T ls kind (most:Int) gs' (IntKind.wrap .i64 (((3 *i:Nat):Int)+3)) w5 _
    rw [w3']
    exact ih (i+1) gs' l' w5 (by omega) g1 g2 g3 g4 H5
   have S1:∀(b9:Nat) (d:Nd) (w3:World) (L:List En),En.g b9∈L→MdN d.x→d.P w3→(∀b∈blkL d.ks,w.heap.size≤b)→LH F0 w w3 L [.rd ls (ns.map intV),.gr gs l,kidE d]→enthymemeref07_Made.S1T ls kind (most:Int) gs ((3 *i:Nat):Int) b9 d.x.op d.ks d.x.n d.x.m d.x.u d.x.tx d.x.st.k d.x.st.n d.x.st.x w3 fun r w'=>MadeR w most r w'∧Fr0 w w':=by
    intro b9 d w3 L hb9 hd pd fd H3
    have hxl:(xs l).length=l.length:=by simp [xs]
    have H3:LH F0 w w3 [] [.rd ls (ns.map intV),.gr gs l,kidE d]:=H3.take 0
    refine callF0 ((c_rAdd (gr_P.1 (H3.getD 1)) pd (hg.ok (by rw [hxl];unfold MaxL;omega)) hd.ok hg.kl).mono ?_)
    rintro _ w4 ⟨⟨s',rfl,⟨l',hl',G',F'⟩⟩,f4⟩
    have hnew:∀b∈(En.gr s' l').fp,w.heap.size≤b:=fun b hb=>by
     rcases F' b hb with (h|h)|h
     ·exact hf b h
     ·exact rd_fp fd b h
     ·exact Nat.le_trans H3.fr.size h
    have H4:=H3.fr0 f4
    have H4':LH F0 w w4 [] [.rd ls (ns.map intV),.gr s' l']:=(H3.addD (.gr s' l') f4 (gr_P.2 G') (fun b hb=>by
     rcases F' b hb with (h|h)|h
     ·exact .inr (.inr ⟨_,List.mem_of_getElem? (i:=1) rfl,h⟩)
     ·exact .inr (.inr ⟨_,List.mem_of_getElem? (i:=2) rfl,h⟩)
     ·exact .inl h)).forget _ (by simp)
    have Hold:∀{w6:World},LH F0 w w6 [] [.rd ls (ns.map intV),.gr gs l,kidE d]→LH F0 w w6 [] [.rd ls (ns.map intV),.gr gs l]:=fun H=>H.forget _ (by simp)
    refine ⟨f4,_,_,_,rfl,sel_eq (fun h0=>?_) (fun h0=>next gs l w4 hg h1 (by omega) hf (Hold H4))⟩
    obtain ⟨_,k,hk1,hk2,_⟩:=add_ok h0
    have hmd:MdG (xs l'):=by rw [hl'];exact add_md hg hd h0
    have hll:l'.length≤10+(i+1):=by
     have:=add_len (xs l) d.x
     rw [←hl'] at this
     simp only [xs,List.length_map] at this
     omega
    rw [←hl'] at hk2
    have hkl:k<l'.length:=by
     have:=(List.getElem?_eq_some_iff.1 hk2).1
     simpa [xs] using this
    have hge:l'[k]? =some (l'[k]'hkl):=List.getElem?_eq_getElem hkl
    generalize l'[k]'hkl=e at hge
    rw [hk1]
    refine gr_at (gr_P.1 (H4'.getD 1)) rfl hge fun p hp c=>⟨_,_,_,c.s0,c.s1,c.s2,?_⟩
    refine callF0 ((c_within07 kind e.x.st w4).mono ?_)
    rintro _ w5 ⟨⟨b,rfl⟩,f5⟩
    have H5:=H4'.fr0 f5
    have H5o:=Hold (H4.fr0 f5)
    refine ⟨f5,_,rfl,sel_intro (fun _=>?_) (fun _=>next gs l w5 hg h1 (by omega) hf H5o)⟩
    refine gr_at (gr_P.1 (H5.getD 1)) rfl hge fun p' hp' c'=>⟨_,c'.s1,sel_dec (fun _=>?_) (fun _=>next gs l w5 hg h1 (by omega) hf H5o)⟩
    have hkids:∀(i:Nat) (d:Nd),l'[i]? =some d→d.x.kids.length≤1000000∧∀k∈d.x.kids,0≤k∧k<(i:Int):=fun i d hd=>by
     have hd':=xs_get hd
     have:=(hmd.nd d.x (List.mem_of_getElem? hd')).kl
     exact ⟨by omega,hmd.vg.kids hd'⟩
    refine callF0 ((c_size (gr_P.1 (H5.getD 1)) hkids (k+1) k (by omega) hkl w5 (Fr.refl _ _)).mono ?_)
    rintro _ w6 ⟨⟨z,rfl⟩,f6⟩
    have f6:Fr0 w5 w6:=f6
    exact ⟨f6,_,rfl,sel_dec (fun _=>next s' l' w6 hmd (by omega) hll hnew (H5.fr0 f6)) (fun _=>next gs l w6 hg h1 (by omega) hf (H5o.fr0 f6))⟩
   refine enthymemeref07_Made.L0T_step _ _ _ _ _ _ _ ?_
   rw [w1',w2',e3]
   refine sel_dec (fun hlt=>sel_true (decide_eq_true (by omega)) (H.dr fun w2 H2=>?_)) (fun _=>fin)
   have h2n:Nums w2 ls ns:=H2.getD 0
   have g0:ns[3 *i]? =some (ns[3 *i]'(by omega)):=List.getElem?_eq_getElem (by omega)
   have g1:ns[3 *i+1]? =some (ns[3 *i+1]'(by omega)):=List.getElem?_eq_getElem (by omega)
   have g2:ns[3 *i+2]? =some (ns[3 *i+2]'(by omega)):=List.getElem?_eq_getElem (by omega)
   generalize ns[3 *i]'(by omega)=x0 at g0
   generalize ns[3 *i+1]'(by omega)=x1 at g1
   generalize ns[3 *i+2]'(by omega)=x2 at g2
   refine ⟨by omega,by omega,h2n.cell g0 (by omega) fun p0 hp0 c0=>⟨x0,c0,by omega,by omega,h2n.cell g1 (by omega) fun p1 hp1 c1=>⟨x1,c1,by omega,by omega,h2n.cell g2 (by omega) fun p2 hp2 c2=>⟨x2,c2,?_,?_⟩⟩⟩⟩
   ·have N:=c_node (gr_P.1 (H2.getD 1)) h1 (by unfold MaxL;omega) (fun d hd=>hg.vg.val d.x (List.mem_map.2 ⟨d,hd,rfl⟩)) x0 x1 x2 (hns _ (List.mem_of_getElem? g0)) (hns _ (List.mem_of_getElem? g1)) (hns _ (List.mem_of_getElem? g2))
    refine H2.callq N ?_
    rintro _ w3 ⟨d,rfl,hd,pd,fd⟩ _ F3
    have H3:=F3.rd (kidE d) pd (rd_fp fd)
    refine ⟨_,_,_,_,_,_,_,_,_,rfl,H3.newg fun b9 w4 H4=>H4.locg fun w5 H5=>?_⟩
    exact S1 b9 d w5 _ (by simp) hd (H5.getD 2) (fun b hb=>Nat.le_trans H2.fr.size (fd b hb)) H5
   ·refine H2.newg fun b9 w3 H3=>?_
    have h3n:Nums w3 ls ns:=H3.getD 0
    have again:∀{j:Nat} {x:Int} {p:Addr} {X:Nat},ns[j]? =some x→ls.a=some p→X=j *1→w3.cell? (p.add X)=some (.int .i64 x):=by
     intro j x p X hg hp hX
     have:=h3n.cell hg hX (K:=fun q=>∃q',ls.a=some q'∧w3.cell? (q'.add X)=some (.int .i64 x)) (fun q hq hc=>⟨q,hq,hc⟩)
     rw [hp] at this
     obtain ⟨q,hq,hc⟩:=this
     cases hq
     exact hc
    have N:=c_node (gr_P.1 (H3.getD 1)) h1 (by unfold MaxL;omega) (fun d hd=>hg.vg.val d.x (List.mem_map.2 ⟨d,hd,rfl⟩)) x0 x1 x2 (hns _ (List.mem_of_getElem? g0)) (hns _ (List.mem_of_getElem? g1)) (hns _ (List.mem_of_getElem? g2))
    refine ⟨again g2 hp2 (by omega),again g1 hp1 (by omega),again g0 hp0 (by omega),H3.callr N ?_⟩
    rintro _ w4 ⟨d,rfl,hd,pd,fd⟩ _ F4
    have H4:=F4.rd (kidE d) pd (rd_fp fd)
    refine ⟨_,_,_,_,_,_,_,_,_,rfl,H4.locg fun w5 H5=>?_⟩
    exact S1 b9 d w5 _ (by simp) hd (H5.getD 2) (fun b hb=>Nat.le_trans H3.fr.size (fd b hb)) H5
 refine enthymemeref07_Made.okT _ _ _ w _ ((c_start kind w).mono ?_)
 rintro _ w1 ⟨⟨s,rfl,⟨l,hl,G,F⟩⟩,f1⟩
 have hlen:=start_len kind
 have hl2:l.length=(startD kind).length:=by
  have:=congrArg List.length hl
  simpa [xs] using this
 have hnew:∀b∈(En.gr s l).fp,w.heap.size≤b:=fun b hb=>(F b hb).resolve_left id
 have H:LH F0 w w [] [.rd ls (ns.map intV)]:=lh0 _ (by
  intro e he
  simp only [List.mem_cons,List.not_mem_nil,or_false] at he
  subst he
  exact hr)
 have H1:=H.addD (.gr s l) f1 (gr_P.2 G) (fun b hb=>.inl (hnew b hb))
 exact ⟨s,rfl,loop most 0 s l w1 (by omega) (by rw [hl];exact start_md kind) (by omega) (by omega) hnew H1⟩
end Go.Proofs.YtcifihepfadgfaaGreatDoor
