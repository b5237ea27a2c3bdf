import Derived.Test.YthnoidogkbbkhaaGreatDoorB
import Derived.Test.YthnoidogkbbkhaaGreatDoorV
set_option linter.unusedVariables false
namespace Go.Proofs.YthnoidogkbbkhaaGreatDoor
open List renaming mem_append->qmA,mem_cons->qmC,not_mem_nil->qnM,mem_of_getElem?->qmG,mem_append_left->qmL,mem_flatMap->qmF,length_take->qlT,flatMap_cons->qfC,mem_cons_of_mem->qmCM,mem_cons_self->qmCS,take_append_drop->qtAD,take_of_length_le->qtOL
open Go Go.W
def cmpI (a b:Int):Int:=if a<b then -1 else if b<a then 1 else 0
def orI:List Int->Int
 |[]=>0
 |c::l=>if c≠0 then c else orI l
theorem or_row {w:World} {s:Sl} {l:List Int} (h:Nums w s l) (hl:l.length<=1000000):Calls Tryz.prog n_cmp_Or_int #[s.v] w λr w'=>r=.returned (.int .i64 (orI l))/\Fr0 w w':=by
 refine cmp_Or_int.ok _ w _ ?_
 have hn:=Nums.len h
 have loop:∀(d i:Nat),i+d=l.length->orI (l.drop i)=orI l->cmp_Or_int.L0 0 s ((s.n:Nat):Int) (i:Int) w λr w'=>r=.returned (.int .i64 (orI l))/\Fr0 w w':=by
  intro d
  induction d with
  |zero=>
   intro i hi he
   rw [List.drop_of_length_le (by omega)] at he
   exact cmp_Or_int.L0_step _ _ _ _ _ _ (sel_false (decide_eq_false (by omega)) ⟨by rw [<-he];rfl,Fr.refl _ _⟩)
  |succ d ih=>
   intro i hi he
   have hg:l[i]? =some (l[i]'(by omega)):=List.getElem?_eq_getElem (by omega)
   rw [List.drop_eq_getElem_cons (by omega)] at he
   generalize l[i]'(by omega)=c at hg he
   refine cmp_Or_int.L0_step _ _ _ _ _ _ (sel_true (decide_eq_true (by omega)) ⟨by omega,by omega,Nums.cell h hg (by simp) λp _ hp=>⟨c,hp,sel_ne (λhc=>?_) (λhc=>?_)⟩⟩)
   .refine ⟨?_,Fr.refl _ _⟩
    rw [<-he];unfold orI;rw [if_pos hc]
   .rw [i64_next _ (by omega)]
    refine ih (i+1) (by omega) ?_
    rw [<-he]
    conv=>rhs;unfold orI
    rw [if_neg (by simpa using hc)]
 exact loop l.length 0 (by omega) (by simp)
theorem nums_new (w:World) (l:List Int) (n:Nat) (hn:n=l.length):Nums (w.alloc (.cells (l.map intV).toArray ty_int)) ⟨some (at0 w.heap.size),n,n⟩ l:=
 ⟨by simp [hn],Nat.le_refl _,(Row.made w ty_int n n (l.map intV)).crow⟩
section
variable {M:Nat->Prop} {w0 w:World} {L D:List En} {bs:List Nat}
theorem _root_.Go.W.LH.or (H:LH M w0 w L D) {l:List Int} {n:Nat} {K:Post} (hn:n=l.length) (hl:l.length<=1000000) (hk:∀w',LH M w0 w' L D->K (.returned (.int .i64 (orI l))) w'):
  nwV w (.cells (l.map intV).toArray ty_int) λw1=>callF bs Tryz.prog n_cmp_Or_int #[.slice (some (Addr.mk w.heap.size 0 none)) n n] w1 K:=
 (H.fr0 (Fr.alloc _ _ _)).callg (or_row (s:=⟨some (at0 w.heap.size),n,n⟩) (nums_new w l n hn) hl) λ_ w' hr H'=>hr▸hk w' H'
end
mutual
def cmpR:Rx->Rx->Int
 |.mk k lo hi l,b=>if orI [cmpI k b.k,cmpI lo.toNat b.lo.toNat,cmpI hi.toNat b.hi.toNat]≠0 then orI [cmpI k b.k,cmpI lo.toNat b.lo.toNat,cmpI hi.toNat b.hi.toNat] else cmpL l b.l
def cmpL:List Rx->List Rx->Int
 |[],[]=>0
 |[],_::_=>-1
 |_::_,[]=>1
 |a::l,b::m=>if cmpR a b≠0 then cmpR a b else cmpL l m
end
theorem lhT {w:World} {t:Rt} (h:t.P w):LH F0 w w [] [.tree t]:=lh0 _ (by
 intro e he
 simp only [qmC,qnM,or_false] at he
 subst he
 exact h)
def RetT (w:World) (x:Rx) (r:Ending) (w':World):Prop:=∃t:Rt,r=.returned t.v/\t.rx=x/\t.P w'/\∀b∈t.fp,w.heap.size<=b
section
variable {M:Nat->Prop} {w0 w:World} {L D:List En} {bs:List Nat}
theorem _root_.Go.W.LH.snocT (H:LH M w0 w L D) (i j:Nat) {ts:List Rt} {t:Rt} (hi:D[i]? =some (.trees ts):=by rfl) (hj:D[j]? =some (.tree t):=by rfl):LH M w0 w L (D++[.trees (ts++[t])]):=by
 refine H.addD _ (Fr.refl _ _) (Rt.ps_of λt' ht=>?_) λb hb=>.inr (.inr ?_)
 .rcases qmA.1 ht with ht|ht
  .exact Rt.Ps.mem (H.getD i hi) ht
  .simp at ht;subst ht;exact H.getD j hj
 .obtain ⟨t',ht,hb'⟩:=Rt.fps_iff.1 (mem_nub.1 hb)
  rcases qmA.1 ht with ht|ht
  .exact ⟨_,qmG hi,mem_nub.2 (Rt.fps_iff.2 ⟨t',ht,hb'⟩)⟩
  .simp at ht
   rw [ht] at hb'
   exact ⟨_,qmG hj,mem_nub.2 hb'⟩
theorem rdn_own {e:TypeId} {s:Sl} {vs:List Value} {b:Nat} (h:b∈(En.rdn 4 s vs).fp):b∈(En.row e 4 s vs).fp:=by
 have:b∈(if vs=[] then [] else blkL s):=h
 split at this
 .cases this
 .exact this
theorem _root_.Go.W.LH.rowT (H:LH M w0 w L D) (i j:Nat) {e:TypeId} {s:Sl} {ts:List Rt} (k:Int) (lo hi:UInt8) (hi':L[i]? =some (.row e 4 s (ts.flatMap Rt.c)):=by rfl) (hj:D[j]? =some (.trees ts):=by rfl):LH M w0 w (L.eraseIdx i) (D++[Rt.row s ts]++[.tree (.mk k lo hi s ts)]):=by
 have H1:=H.freeze i (Rt.row s ts) hi' (OwnRow.rdn (H.get i hi')) λb hb=>rdn_own hb
 refine H1.addD _ (Fr.refl _ _) ?_ λb hb=>.inr (.inr ?_)
 .show Rt.P w _
  unfold Rt.P
  exact ⟨OwnRow.rdn (H.get i hi'),H.getD j hj⟩
 .have hb':=mem_nub.1 hb
  unfold Rt.fp at hb'
  rcases qmA.1 hb' with hb'|hb'
  .exact ⟨_,List.mem_append_right _ (by simp),hb'⟩
  .exact ⟨_,qmL _ (qmG hj),mem_nub.2 hb'⟩
end
theorem c_one (l:List Rt):∀u∈l.flatMap Rt.c,u.oneCell'=true:=λu hu=>by
 obtain ⟨e,_,h⟩:=qmF.1 hu
 simp only [Rt.c,qmC,qnM,or_false] at h
 rcases h with rfl|rfl|rfl|rfl<;>rfl
theorem cs_snoc (l:List Rt) (t:Rt):(l++[t]).flatMap Rt.c=l.flatMap Rt.c++t.c:=by simp
theorem rxs_app (l m:List Rt):Rt.rxs (l++m)=Rt.rxs l++Rt.rxs m:=by simp [Rt.rxs_map]
theorem szs_app:∀(l m:List Rt),Rt.szs (l++m)=Rt.szs l+Rt.szs m
 |[],m=>by simp [Rt.szs]
 |t::l,m=>by
  show t.sz+Rt.szs (l++m)=t.sz+Rt.szs l+Rt.szs m
  rw [szs_app l m]
  omega
theorem szs_take_le (l:List Rt) (i:Nat):Rt.szs (l.take i)<=Rt.szs l:=by
 have:=szs_app (l.take i) (l.drop i)
 rw [qtAD] at this
 omega
mutual
def goodR:Rx->Bool
 |.mk k lo hi l=>!(k !=2&&(lo !=0||hi !=0))&&(if k=0\/k=1 then l.isEmpty else if k=2 then l.isEmpty&&decide (lo.toNat<=hi.toNat) else if k=3\/k=4\/k=5 then goodL l else if k=6\/k=7 then l.length==1&&goodL l else false)
def goodL:List Rx->Bool
 |[]=>true
 |t::l=>goodR t&&goodL l
end
def validR (x:Rx):Int:=if 64<x.sz then 4 else if goodR x then 0 else 1
def noR:Rx:=.mk 0 0 0 []
def limE (x:Rx):Int:=if 64<x.sz then 4 else 0
def limR (x:Rx):Rx:=if 64<x.sz then noR else x
theorem no_tree (w:World):(Rt.mk 0 0 0 ⟨none,0,0⟩ []).P w:=by
 unfold Rt.P Rt.Ps
 exact ⟨RdN.nil 4 w,trivial⟩
theorem no_fp {b:Nat} (h:b∈(Rt.mk 0 0 0 ⟨none,0,0⟩ []).fp):False:=by
 unfold Rt.fp Rt.fps at h
 simp [En.rdn] at h
theorem addz (g k:Nat):(⟨g,0,none⟩:Addr).add k=⟨g,k,none⟩:=by
 unfold Addr.add
 split<;>simp_all
abbrev enU (b:Nat) (u:Rt):En:=.c b u.c ty_regex_Regex
section
variable {M:Nat->Prop} {w0 w:World} {L D:List En} {bs:List Nat}
theorem _root_.Go.W.LH.off (H:LH M w0 w L D) (i j:Nat) {e:TypeId} {sz:Nat} {s:Sl} {xs:List Value} {d:En} (hi:L[i]? =some (.row e sz s xs):=by rfl) (hj:D[j]? =some d:=by rfl):∀x∈blkL s,x∉d.fp:=λx hx hd=>
 H.dj d (qmG hj) x hd _ (qmG hi) hx
end
end Go.Proofs.YthnoidogkbbkhaaGreatDoor
namespace Go.Proofs.YthnoidogkbbkhaaGreatDoor
open List renaming mem_append->qmA,mem_cons->qmC,not_mem_nil->qnM,mem_of_getElem?->qmG,mem_append_left->qmL,mem_flatMap->qmF,length_take->qlT,flatMap_cons->qfC,mem_cons_of_mem->qmCM,mem_cons_self->qmCS,take_append_drop->qtAD,take_of_length_le->qtOL
open Go Go.W
def openT (x k:Rt):List Rt:=if k.k=x.k then k.l else [k]
def keepU (u:Rt) (t:Rt):Bool:=!(cmpR t.rx u.rx==0)
def flatT (x u:Rt):List Rt:=(x.l.flatMap (openT x)).filter (keepU u)
structure Sub (x:Rt) (l:List Rt):Prop where
 P:∀w:World,x.P w->∀t∈l,t.P w
 fp:∀t∈l,∀b∈t.fp,b∈x.fp
theorem Sub.part {x:Rt} {t:Rt} (h:t∈x.l):Sub x [t]:=⟨λw px t' ht=>by
  simp at ht;subst ht;exact px.parts.2.mem h,λt' ht b hb=>by
  simp at ht;subst ht;exact Rt.fp_parts.2 (.inr (Rt.fps_iff.2 ⟨_,h,hb⟩))⟩
theorem Sub.open {x k:Rt} (h:k∈x.l):Sub x (openT x k):=by
 unfold openT
 split
 .exact ⟨λw px t ht=>((px.parts.2.mem h).parts.2).mem ht,λt ht b hb=>Rt.fp_parts.2 (.inr (Rt.fps_iff.2 ⟨k,h,Rt.fp_parts.2 (.inr (Rt.fps_iff.2 ⟨t,ht,hb⟩))⟩))⟩
 .exact .part h
theorem Sub.flat {x:Rt} {l:List Rt} (h:∀k∈l,k∈x.l):Sub x (l.flatMap (openT x)):=⟨λw px t ht=>by
  obtain ⟨k,hk,ht⟩:=qmF.1 ht
  exact (Sub.open (h k hk)).P w px t ht,λt ht=>by
  obtain ⟨k,hk,ht⟩:=qmF.1 ht
  exact (Sub.open (h k hk)).fp t ht⟩
theorem Sub.sub {x:Rt} {l m:List Rt} (h:Sub x l) (hs:∀t∈m,t∈l):Sub x m:=⟨λw px t ht=>h.P w px t (hs t ht),λt ht=>h.fp t (hs t ht)⟩
theorem Sub.Ps {x:Rt} {l:List Rt} (h:Sub x l) {w:World} (px:x.P w):Rt.Ps w l:=Rt.ps_of (h.P w px)
theorem Sub.fps {x:Rt} {l:List Rt} (h:Sub x l) {b:Nat} (hb:b∈Rt.fps l):b∈x.fp:=by
 obtain ⟨t,ht,hb⟩:=Rt.fps_iff.1 hb
 exact h.fp t ht b hb
theorem Sub.flatT (x u:Rt):Sub x (flatT x u):=(Sub.flat (λ_ h=>h)).sub λ_ h=>(List.mem_filter.1 h).1
theorem szs_open (x:Rt):∀l:List Rt,Rt.szs (l.flatMap (openT x))<=Rt.szs l
 |[]=>Nat.le_refl _
 |k::l=>by
  have h1:Rt.szs (openT x k)<=k.sz:=by
   unfold openT
   split
   .rw [Rt.sz_parts k];omega
   .simp [Rt.szs]
  rw [qfC,szs_app]
  have:=szs_open x l
  show _<=k.sz+Rt.szs l
  omega
theorem cmpI_neg (a b:Int):cmpI b a=-cmpI a b:=by
 have s:∀a b:Int,(cmpI a b=-1/\a<b)\/(cmpI a b=1/\b<a)\/(cmpI a b=0/\a=b):=λa b=>by
  unfold cmpI
  split
  .exact .inl ⟨rfl,by omega⟩
  .split
   .exact .inr (.inl ⟨rfl,by omega⟩)
   .exact .inr (.inr ⟨rfl,by omega⟩)
 rcases s a b with h1|h1|h1<;>rcases s b a with h2|h2|h2<;>omega
theorem orI_neg (c d:Int) (l m:List Int) (h:d=-c) (hl:orI m=-orI l):orI (d::m)=-orI (c::l):=by
 show (if d≠0 then d else orI m)=-(if c≠0 then c else orI l)
 split
 .rw [if_pos (by omega)];exact h
 .rw [if_neg (by omega)];exact hl
theorem orI_one (c:Int):orI [c]=c:=by
 show (if c≠0 then c else 0)=c
 split<;>omega
theorem cmpR_eq (k:Int) (lo hi:UInt8) (l:List Rx) (b:Rx):cmpR (.mk k lo hi l) b=orI [cmpI k b.k,cmpI lo.toNat b.lo.toNat,cmpI hi.toNat b.hi.toNat,cmpL l b.l]:=by
 unfold cmpR
 generalize cmpI k b.k=c0
 generalize cmpI lo.toNat b.lo.toNat=c1
 generalize cmpI hi.toNat b.hi.toNat=c2
 generalize cmpL l b.l=c3
 simp only [orI]
 by_cases h0:c0=0
 .by_cases h1:c1=0
  .by_cases h2:c2=0
   .by_cases h3:c3=0<;>simp [h0,h1,h2,h3]
   .simp [h0,h1,h2]
  .simp [h0,h1]
 .simp [h0]
mutual
theorem cmpR_neg:∀a b:Rx,cmpR b a=-cmpR a b
 |.mk k lo hi l,.mk k' lo' hi' l'=>by
  rw [cmpR_eq,cmpR_eq]
  exact orI_neg _ _ _ _ (cmpI_neg _ _) (orI_neg _ _ _ _ (cmpI_neg _ _) (orI_neg _ _ _ _ (cmpI_neg _ _) (by rw [orI_one,orI_one];exact cmpL_neg l l')))
theorem cmpL_neg:∀a b:List Rx,cmpL b a=-cmpL a b
 |[],[]=>by unfold cmpL;rfl
 |[],_::_=>by unfold cmpL;rfl
 |_::_,[]=>by unfold cmpL;rfl
 |x::l,y::m=>by
  have h1:=cmpR_neg x y
  have h2:=cmpL_neg l m
  show (if cmpR y x≠0 then cmpR y x else cmpL m l)=-(if cmpR x y≠0 then cmpR x y else cmpL l m)
  split
  .rw [if_pos (by omega)];exact h1
  .rw [if_neg (by omega)];exact h2
end
structure Tri (x y z:Int):Prop where
 le:x<=0->y<=0->z<=0
 lt:x<0->y<=0->z<0
 lt':x<=0->y<0->z<0
 eq:x=0->y=0->z=0
theorem cmpI_tri (a b c:Int):Tri (cmpI a b) (cmpI b c) (cmpI a c):=by
 have s:∀a b:Int,(cmpI a b=-1/\a<b)\/(cmpI a b=1/\b<a)\/(cmpI a b=0/\a=b):=λa b=>by
  unfold cmpI
  split
  .exact .inl ⟨rfl,by omega⟩
  .split
   .exact .inr (.inl ⟨rfl,by omega⟩)
   .exact .inr (.inr ⟨rfl,by omega⟩)
 rcases s a b with h1|h1|h1<;>rcases s b c with h2|h2|h2<;>rcases s a c with h3|h3|h3<;>constructor<;>omega
theorem tri_or {x y z x' y' z':Int} (h:Tri x y z) (h':Tri x' y' z'):Tri (if x≠0 then x else x') (if y≠0 then y else y') (if z≠0 then z else z'):=by
 obtain ⟨a1,a2,a3,a4⟩:=h
 obtain ⟨b1,b2,b3,b4⟩:=h'
 by_cases hx:x=0
 .by_cases hy:y=0
  .have hz:=a4 hx hy
   rw [if_neg (by omega),if_neg (by omega),if_neg (by omega)]
   exact ⟨b1,b2,b3,b4⟩
  .rw [if_neg (by omega:¬x≠0),if_pos hy]
   constructor
   .intro h1 h2;have:=a3 (by omega) (by omega);rw [if_pos (by omega)];omega
   .intro h1 h2;have:=a3 (by omega) (by omega);rw [if_pos (by omega)];omega
   .intro h1 h2;have:=a3 (by omega) (by omega);rw [if_pos (by omega)];omega
   .intro h1 h2;omega
 .rw [if_pos hx]
  by_cases hy:y=0
  .rw [if_neg (by omega:¬y≠0)]
   constructor
   .intro h1 h2;have:=a2 (by omega) (by omega);rw [if_pos (by omega)];omega
   .intro h1 h2;have:=a2 (by omega) (by omega);rw [if_pos (by omega)];omega
   .intro h1 h2;have:=a2 (by omega) (by omega);rw [if_pos (by omega)];omega
   .intro h1 h2;omega
  .rw [if_pos hy]
   constructor
   .intro h1 h2;have:=a2 (by omega) (by omega);rw [if_pos (by omega)];omega
   .intro h1 h2;have:=a2 (by omega) (by omega);rw [if_pos (by omega)];omega
   .intro h1 h2;have:=a2 (by omega) (by omega);rw [if_pos (by omega)];omega
   .intro h1 h2;omega
mutual
theorem cmpR_tri:∀a b c:Rx,Tri (cmpR a b) (cmpR b c) (cmpR a c)
 |.mk k lo hi l,.mk k' lo' hi' l',.mk k2 lo2 hi2 l2=>by
  rw [cmpR_eq,cmpR_eq,cmpR_eq]
  have:=cmpL_tri l l' l2
  exact tri_or (cmpI_tri _ _ _) (tri_or (cmpI_tri _ _ _) (tri_or (cmpI_tri _ _ _) (by
   show Tri (orI [cmpL l l']) (orI [cmpL l' l2]) (orI [cmpL l l2])
   rw [orI_one,orI_one,orI_one]
   exact this)))
theorem cmpL_tri:∀a b c:List Rx,Tri (cmpL a b) (cmpL b c) (cmpL a c)
 |[],[],[]=>by unfold cmpL;constructor<;>omega
 |[],[],_::_=>by unfold cmpL;constructor<;>omega
 |[],_::_,[]=>by unfold cmpL;constructor<;>omega
 |_::_,[],[]=>by unfold cmpL;constructor<;>omega
 |_::_,[],_::_=>by
  have e1:∀(x:Rx) (l:List Rx),cmpL (x::l) []=1:=λ_ _=>rfl
  have e2:∀(x:Rx) (l:List Rx),cmpL [] (x::l)=-1:=λ_ _=>rfl
  rw [e1,e2]
  constructor<;>omega
 |[],y::m,z::n=>by
  have e2:∀(x:Rx) (l:List Rx),cmpL [] (x::l)=-1:=λ_ _=>rfl
  rw [e2,e2]
  constructor<;>omega
 |x::l,y::m,[]=>by
  have e1:∀(x:Rx) (l:List Rx),cmpL (x::l) []=1:=λ_ _=>rfl
  rw [e1,e1]
  constructor<;>omega
 |x::l,y::m,z::n=>tri_or (cmpR_tri x y z) (cmpL_tri l m n)
end
def insX (x:Rx):List Rx->List Rx
 |[]=>[x]
 |y::p=>if cmpR x y<0 then y::insX x p else x::y::p
def sortX (l:List Rx):List Rx:=(l.foldl (λp x=>insX x p) []).reverse
def compGoX (p:Rx):List Rx->List Rx
 |[]=>[]
 |x::l=>if cmpR x p==0 then compGoX x l else x::compGoX x l
def compX:List Rx->List Rx
 |[]=>[]
 |a::l=>a::compGoX a l
theorem cmpI_zero {a b:Int} (h:cmpI a b=0):a=b:=by
 unfold cmpI at h
 split at h
 .cases h
 .split at h
  .cases h
  .omega
theorem orI_zero:∀{l:List Int},orI l=0->∀x∈l,x=0
 |[],_=>λx hx=>by cases hx
 |a::l,h=>by
  unfold orI at h
  split at h
  .rename_i hne;exact absurd h hne
  .rename_i he
   have he:a=0:=by simpa using he
   intro x hx
   rcases qmC.1 hx with rfl|hx
   .exact he
   .exact orI_zero h x hx
theorem u8_ntI {a b:UInt8} (h:(a.toNat:Int)=b.toNat):a=b:=UInt8.toNat_inj.1 (by omega)
mutual
theorem cmp_eq:∀a b:Rx,cmpR a b=0->a=b
 |.mk k lo hi l,.mk k' lo' hi' l',h=>by
  rw [cmpR_eq] at h
  have h:=orI_zero h
  have h1:=cmpI_zero (h _ (qmCS ..))
  have h2:=u8_ntI (cmpI_zero (h _ (qmCM _ (qmCS ..))))
  have h3:=u8_ntI (cmpI_zero (h _ (qmCM _ (qmCM _ (qmCS ..)))))
  have h4:=cmps_eq l l' (h _ (qmCM _ (qmCM _ (qmCM _ (qmCS ..)))))
  simp only [Rx.k,Rx.lo,Rx.hi] at h1 h2 h3
  rw [h1,h2,h3,h4]
theorem cmps_eq:∀l m:List Rx,cmpL l m=0->l=m
 |[],[],_=>rfl
 |[],_::_,h=>by unfold cmpL at h;cases h
 |_::_,[],h=>by unfold cmpL at h;cases h
 |a::l,b::m,h=>by
  unfold cmpL at h
  split at h
  .rename_i hne;exact absurd h hne
  .rename_i he
   rw [cmp_eq a b (by simpa using he),cmps_eq l m h]
end
theorem cmp_self (a:Rx):cmpR a a=0:=by have:=cmpR_neg a a;omega
theorem cmp_iff {a b:Rx}:(cmpR a b==0)=true↔a=b:=⟨λh=>cmp_eq a b (eq_of_beq h),λh=>by subst h;rw [cmp_self];rfl⟩
theorem cmp_iff0 {a b:Rx}:cmpR a b=0↔a=b:=⟨cmp_eq a b,λh=>by subst h;exact cmp_self a⟩
theorem cmp_ne {a b:Rx}:(!(cmpR a b==0))=true↔a≠b:=by rw [Bool.not_eq_true',<-Bool.not_eq_true,not_congr cmp_iff]
abbrev Inc (l:List Rx):Prop:=l.Pairwise λa b=>cmpR a b<0
abbrev Asc (l:List Rx):Prop:=l.Pairwise λa b=>cmpR a b<=0
theorem Inc.nodup {l:List Rx} (h:Inc l):l.Nodup:=List.nodup_iff_pairwise_ne.2 (h.imp λ{a b} hab e=>by subst e;rw [cmp_self] at hab;omega)
theorem Inc.asc {l:List Rx} (h:Inc l):Asc l:=h.imp λ{a b} hab=>by omega
theorem asc_unique {l m:List Rx} (hl:Asc l) (hm:Asc m) (h:l.Perm m):l=m:=List.Perm.eq_of_pairwise (λa b _ _ h1 h2=>cmp_eq a b (by have:=cmpR_neg a b;omega)) hl hm h
theorem inc_unique {l m:List Rx} (hl:Inc l) (hm:Inc m) (h:∀t,t∈l↔t∈m):l=m:=asc_unique hl.asc hm.asc ((List.perm_ext_iff_of_nodup hl.nodup hm.nodup).2 h)
theorem insX_perm (x:Rx):∀p:List Rx,(insX x p).Perm (x::p)
 |[]=>.refl _
 |y::p=>by
  unfold insX
  split
  .exact ((insX_perm x p).cons y).trans (.swap x y p)
  .exact .refl _
theorem insX_desc (x:Rx):∀{p:List Rx},p.Pairwise (λa b=>cmpR b a<=0)->(insX x p).Pairwise λa b=>cmpR b a<=0
 |[],_=>by unfold insX;simp
 |y::p,h=>by
  have hp:=List.pairwise_cons.1 h
  unfold insX
  split
  .rename_i hxy
   refine List.pairwise_cons.2 ⟨λt ht=>?_,insX_desc x hp.2⟩
   rcases qmC.1 ((insX_perm x p).mem_iff.1 ht) with rfl|ht
   .omega
   .exact hp.1 t ht
  .rename_i hxy
   have hyx:cmpR y x<=0:=by have:=cmpR_neg x y;omega
   refine List.pairwise_cons.2 ⟨λt ht=>?_,h⟩
   rcases qmC.1 ht with rfl|ht
   .exact hyx
   .exact (cmpR_tri t y x).le (hp.1 t ht) hyx
theorem sortX_perm (l:List Rx):(sortX l).Perm l:=by
 have:∀(l p:List Rx),(l.foldl (λp x=>insX x p) p).Perm (l++p):=by
  intro l
  induction l with
  |nil=>intro p;exact .refl _
  |cons a l ih=>
   intro p
   rw [List.foldl_cons]
   exact (ih _).trans (((insX_perm a p).append_left l).trans List.perm_middle)
 unfold sortX
 have h:=this l []
 rw [List.append_nil] at h
 exact (List.reverse_perm _).trans h
theorem sortX_asc (l:List Rx):Asc (sortX l):=by
 have:∀(l p:List Rx),p.Pairwise (λa b=>cmpR b a<=0)->(l.foldl (λp x=>insX x p) p).Pairwise λa b=>cmpR b a<=0:=by
  intro l
  induction l with
  |nil=>intro p h;exact h
  |cons a l ih=>intro p h;exact ih _ (insX_desc a h)
 unfold sortX
 exact List.pairwise_reverse.2 (this l [] .nil)
theorem compGoX_mem {t:Rx}:∀{l:List Rx} {p:Rx},(t=p\/t∈compGoX p l)↔(t=p\/t∈l)
 |[],p=>by unfold compGoX;simp
 |x::l,p=>by
  unfold compGoX
  split
  .rename_i h
   have e:x=p:=cmp_iff.1 h
   subst e
   rw [compGoX_mem,qmC]
   constructor
   .rintro (h|h)<;>simp [h]
   .rintro (h|h|h)<;>simp [h]
  .rw [qmC,qmC]
   have:=compGoX_mem (t:=t) (l:=l) (p:=x)
   constructor
   .rintro (h|h)
    .exact .inl h
    .exact .inr (this.1 h)
   .rintro (h|h)
    .exact .inl h
    .exact .inr (this.2 h)
theorem compGoX_inc:∀{l:List Rx} {p:Rx},Asc (p::l)->Inc (p::compGoX p l)
 |[],p,_=>by unfold compGoX;simp
 |x::l,p,h=>by
  obtain ⟨h1,h2⟩:=List.pairwise_cons.1 h
  unfold compGoX
  split
  .rename_i hx
   have e:x=p:=cmp_iff.1 hx
   subst e
   exact compGoX_inc h2
  .rename_i hx
   have hlt:cmpR p x<0:=by
    have h3:=h1 x (by simp)
    have h4:=cmpR_neg x p
    have h5:cmpR x p≠0:=λe=>hx (by rw [e];rfl)
    omega
   have hi:=compGoX_inc h2
   refine List.pairwise_cons.2 ⟨λt ht=>?_,hi⟩
   rcases qmC.1 ht with rfl|ht
   .exact hlt
   .exact (cmpR_tri p x t).lt hlt (by have:=(List.pairwise_cons.1 hi).1 t ht;omega)
theorem compX_inc {l:List Rx} (h:Asc l):Inc (compX l):=by
 cases l with
 |nil=>exact .nil
 |cons a l=>exact compGoX_inc h
theorem compX_mem {t:Rx} {l:List Rx}:t∈compX l↔t∈l:=by
 cases l with
 |nil=>exact Iff.rfl
 |cons a l=>show t∈a::compGoX a l↔_;rw [qmC,qmC];exact compGoX_mem
def setX (l:List Rx):List Rx:=compX (sortX l)
theorem setX_inc (l:List Rx):Inc (setX l):=compX_inc (sortX_asc l)
theorem setX_mem {t:Rx} {l:List Rx}:t∈setX l↔t∈l:=by unfold setX;rw [compX_mem,(sortX_perm l).mem_iff]
def putX (r:Rx):List Rx->List Rx
 |[]=>[r]
 |y::p=>if cmpR y r<0 then y::putX r p else if cmpR y r=0 then y::p else r::y::p
theorem putX_mem {t r:Rx}:∀{p:List Rx},t∈putX r p↔t=r\/t∈p
 |[]=>by unfold putX;simp
 |y::p=>by
  unfold putX
  split
  .rw [qmC,putX_mem,qmC]
   constructor
   .rintro (h|h|h)<;>simp [h]
   .rintro (h|h|h)<;>simp [h]
  .split
   .rename_i he
    have e:=cmp_eq y r he
    subst e
    simp
   .simp
theorem putX_inc {r:Rx}:∀{p:List Rx},Inc p->Inc (putX r p)
 |[],_=>by unfold putX;simp
 |y::p,h=>by
  obtain ⟨h1,h2⟩:=List.pairwise_cons.1 h
  unfold putX
  split
  .rename_i hy
   refine List.pairwise_cons.2 ⟨λt ht=>?_,putX_inc h2⟩
   rcases putX_mem.1 ht with rfl|ht
   .exact hy
   .exact h1 t ht
  .split
   .exact h
   .rename_i hy hne
    have hr:cmpR r y<0:=by have:=cmpR_neg r y;omega
    refine List.pairwise_cons.2 ⟨λt ht=>?_,h⟩
    rcases qmC.1 ht with rfl|ht
    .exact hr
    .exact (cmpR_tri r y t).lt hr (by have:=h1 t ht;omega)
def outX (k:Int):List Rx->List Rx->List Rx
 |out,[]=>out
 |out,t::l=>outX k (if k=3 then out++[t] else putX t out) l
theorem outX_cat:∀(l out:List Rx),outX 3 out l=out++l
 |[],out=>by unfold outX;simp
 |t::l,out=>by unfold outX;rw [outX_cat l,if_pos rfl];simp
theorem outX_inc {k:Int} (hk:k≠3):∀(l:List Rx) {out:List Rx},Inc out->Inc (outX k out l)
 |[],_,h=>h
 |t::l,out,h=>by unfold outX;rw [if_neg hk];exact outX_inc hk l (putX_inc h)
theorem outX_mem {k:Int} (hk:k≠3) {t:Rx}:∀(l:List Rx) {out:List Rx},t∈outX k out l↔t∈out\/t∈l
 |[],out=>by unfold outX;simp
 |a::l,out=>by
  unfold outX
  rw [if_neg hk,outX_mem hk l,putX_mem,qmC]
  constructor
  .rintro ((h|h)|h)<;>simp [h]
  .rintro (h|h|h)<;>simp [h]
theorem outX_eq (k:Int) (l:List Rx):outX k [] l=if k=3 then l else setX l:=by
 split
 .rename_i h;subst h;rw [outX_cat];rfl
 .rename_i h
  exact inc_unique (outX_inc h l .nil) (setX_inc l) λt=>by rw [outX_mem h,setX_mem];simp
def ms (μ:Rx->Nat):List Rx->Nat
 |[]=>0
 |a::l=>μ a+ms μ l
section
variable {μ:Rx->Nat}
theorem ms_app:∀l m:List Rx,ms μ (l++m)=ms μ l+ms μ m
 |[],m=>by simp [ms]
 |a::l,m=>by show μ a+ms μ (l++m)=μ a+ms μ l+ms μ m;rw [ms_app l m];omega
theorem ms_perm {l m:List Rx} (h:l.Perm m):ms μ l=ms μ m:=by
 induction h with
 |nil=>rfl
 |cons x _ ih=>show μ x+_=μ x+_;rw [ih]
 |swap x y l=>show μ y+(μ x+_)=μ x+(μ y+_);omega
 |trans _ _ h1 h2=>rw [h1,h2]
end
mutual
def lvX:Rx->Nat|.mk _ _ _ l=>max 1 (lvsX l)
def lvsX:List Rx->Nat
 |[]=>0
 |a::l=>lvX a+lvsX l
end
theorem lvs_ms:∀l:List Rx,lvsX l=ms lvX l
 |[]=>rfl
 |a::l=>by unfold lvsX;rw [lvs_ms l];rfl
theorem lv_mk (k:Int) (lo hi:UInt8) (l:List Rx):lvX (.mk k lo hi l)=max 1 (ms lvX l):=by unfold lvX;rw [lvs_ms]
mutual
def fewR (N:Nat):Rx->Prop|.mk k _ _ l=>fewRs N l/\(k=4\/k=5->ms lvX l<=N)
def fewRs (N:Nat):List Rx->Prop
 |[]=>True
 |a::l=>fewR N a/\fewRs N l
end
mutual
theorem few_lv {N:Nat}:∀x:Rx,lvX x<=N->fewR N x
 |.mk k lo hi l,h=>by
  rw [lv_mk] at h
  unfold fewR
  exact ⟨few_lvs l (by omega),λ_=>by omega⟩
theorem few_lvs {N:Nat}:∀l:List Rx,ms lvX l<=N->fewRs N l
 |[],_=>by unfold fewRs;trivial
 |a::l,h=>by
  have h:lvX a+ms lvX l<=N:=h
  unfold fewRs
  exact ⟨few_lv a (by omega),few_lvs l (by omega)⟩
end
end Go.Proofs.YthnoidogkbbkhaaGreatDoor
namespace Go.Proofs.YthnoidogkbbkhaaGreatDoor
open List renaming mem_append->qmA,mem_cons->qmC,not_mem_nil->qnM,mem_of_getElem?->qmG,mem_append_left->qmL,mem_flatMap->qmF,length_take->qlT,flatMap_cons->qfC,mem_cons_of_mem->qmCM,mem_cons_self->qmCS,take_append_drop->qtAD,take_of_length_le->qtOL
open Go Go.W
theorem cut_flat (l:List Rt) (i:Nat):(l.flatMap Rt.c).take (i *4)=(l.take i).flatMap Rt.c:=by
 have hl:=Rt.cs_len (l.take i)
 by_cases h:i<=l.length
 .conv=>lhs;rw [<-qtAD i l,List.flatMap_append]
  rw [List.take_append_of_le_length (by rw [hl,qlT];omega),qtOL (by rw [hl,qlT];omega)]
 .rw [qtOL (by rw [Rt.cs_len];omega),qtOL (l:=l) (by omega)]
theorem drop_flat (l:List Rt) (i:Nat) (h:i<=l.length):(l.flatMap Rt.c).drop (i *4)=(l.drop i).flatMap Rt.c:=by
 have hl:=Rt.cs_len (l.take i)
 rw [qlT,Nat.min_eq_left h] at hl
 conv=>lhs;rw [<-qtAD i l,List.flatMap_append]
 rw [List.drop_append_of_le_length (by omega),List.drop_of_length_le (by omega),List.nil_append]
def flatX (k:Int) (l:List Rx) (u:Rx):List Rx:=(l.flatMap λc=>if c.k=k then c.l else [c]).filter λt=>!(cmpR t u==0)
def fewX (k:Int) (u:Rx):List Rx->Rx
 |[]=>u
 |[a]=>a
 |l=>.mk k 0 0 l
def joinX (k:Int) (l:List Rx) (u z:Rx):Rx:=if (flatX k l u).any (λt=>cmpR t z==0) then z else fewX k u (if k=3 then flatX k l u else compX (sortX (flatX k l u)))
def pcX (k:Int) (l:List Rx):Nat:=(l.flatMap λc=>if c.k=k then c.l else [c]).length
def emptyX:Rx:=.mk 1 0 0 []
def everyX:Rx:=.mk 6 0 0 [noR]
def starX (lo hi:UInt8) (l:List Rx):Rx:=match l with
 |[]=>noR
 |c::l'=>if c.k=0\/c.k=1 then emptyX else if c.k=7\/cmpR c everyX=0 then c else .mk 7 lo hi (c::l')
def notX (lo hi:UInt8) (l:List Rx):Rx:=match l with
 |[]=>noR
 |c::l'=>if c.k=6 then (match c.l with |[]=>noR|d::_=>d) else .mk 6 lo hi (c::l')
def formX:Rx->Rx
 |.mk k lo hi l=>if k=3 then joinX 3 l emptyX noR else if k=4 then joinX 4 l noR everyX else if k=5 then joinX 5 l everyX noR else if k=6 then notX lo hi l else if k=7 then starX lo hi l else .mk k lo hi l
def formOk:Rx->Bool
 |.mk k _ _ l=>decide (0<=k)&&decide (k<8)&&(match l with
  |[]=>k !=6&&k !=7
  |c::_=>!(k==6&&c.k==6&&c.l.isEmpty))
theorem rx_k (t:Rt):t.rx.k=t.k:=by rw [Rt.rx_parts];rfl
theorem rx_l (t:Rt):t.rx.l=t.l.map Rt.rx:=by rw [Rt.rx_parts,<-Rt.rxs_map];rfl
theorem flat_rx (x u:Rt):(flatT x u).map Rt.rx=flatX x.k (Rt.rxs x.l) u.rx:=by
 unfold flatT flatX
 rw [Rt.rxs_map]
 generalize x.l=l
 induction l with
 |nil=>rfl
 |cons a l ih=>
  rw [List.map_cons,qfC,qfC,List.filter_append,List.filter_append,List.map_append,ih]
  congr 1
  have e:(openT x a).map Rt.rx=if a.rx.k=x.k then a.rx.l else [a.rx]:=by
   unfold openT
   rw [rx_k,rx_l]
   split<;>simp
  rw [<-e,List.filter_map]
  rfl
def RetF (old:List Nat) (w:World) (x:Rx) (r:Ending) (w':World):Prop:=∃t:Rt,r=.returned t.v/\t.rx=x/\t.P w'/\∀b∈t.fp,w.heap.size<=b\/b∈old
theorem part_el {w:World} {x t:Rt} (px:x.P w) {k:Nat} {X:Int} {K:Int->Int->Int->Sl->Prop} (hX:X=(k:Int)) (hg:x.l[k]? =some t) (h:K t.k t.lo.toNat t.hi.toNat t.s):
  (0:Int)<=X/\X<((x.s.n:Nat):Int)/\optP x.s.a λp=>∃a b c:Int,∃d:Sl,w.cell? ((p.add (Int.toNat X *4)).add 0)=some (.i a)/\w.cell? ((p.add (Int.toNat X *4)).add 1)=some (.int .u8 b)/\w.cell? ((p.add (Int.toNat X *4)).add 2)=some (.int .u8 c)/\w.cell? ((p.add (Int.toNat X *4)).add 3)=some d.v/\K a b c d:=by
 subst hX
 have hn:=Rt.rows_n px.parts.1
 have hk:=(List.getElem?_eq_some_iff.1 hg).1
 exact ⟨by omega,by omega,Rt.at' px.parts.1 hg λp hp c=>⟨_,_,_,_,c.c0,c.c1,c.c2,c.c3,h⟩⟩
structure Fm where
 m:Nat
 es:Array MapEntry
 clock:Nat
 ms:List (Int×Value)
 cs:List (Nat×Rt)
 s:Sl
def noT:Rt:=.mk 0 0 0 ⟨none,0,0⟩ []
def emptyT:Rt:=.mk 1 0 0 ⟨none,0,0⟩ []
def Fm.ev (F:Fm):Rt:=.mk 6 0 0 F.s [noT]
def joinF (a b:Nat):Value:=.func (.func n_regex_forms_2_1) #[] #[.pointer (some (at0 a)),.pointer (some (at0 b))]
def selfF:Value:=.func (.func n_regex_forms_1) #[] #[]
def GoodE (cs:List (Nat×Rt)) (ev:Rt) (k:Int) (v:Value):Prop:=
 ((k=0\/k=1\/k=2)/\v=selfF)\/(∃u z a b,((k=3/\u=emptyT/\z=noT)\/(k=4/\u=noT/\z=ev)\/(k=5/\u=ev/\z=noT))/\v=joinF a b/\(a,u)∈cs/\(b,z)∈cs)\/
 (k=6/\v=.func (.func n_regex_forms_3) #[] #[])\/∃a b,k=7/\v=.func (.func n_regex_forms_4) #[] #[.pointer (some (at0 a)),.pointer (some (at0 b))]/\(a,emptyT)∈cs/\(b,ev)∈cs
section
variable {F:Fm} {w:World}
theorem no_P (w:World):noT.P w:=no_tree w
theorem empty_P (w:World):emptyT.P w:=by
 unfold emptyT Rt.P Rt.Ps
 exact ⟨RdN.nil 4 w,trivial⟩
theorem no_fp' {b:Nat} (h:b∈noT.fp):False:=no_fp h
theorem empty_fp {b:Nat} (h:b∈emptyT.fp):False:=by
 unfold emptyT Rt.fp Rt.fps at h
 simp [En.rdn] at h
theorem RetF.sub {old old':List Nat} {x:Rx} {r:Ending} {w':World} (h:RetF old w x r w') (hs:∀b∈old,b∈old'):RetF old' w x r w':=by
 obtain ⟨t,h1,h2,h3,h4⟩:=h
 exact ⟨t,h1,h2,h3,λb hb=>(h4 b hb).imp id (hs b)⟩
end
set_option maxRecDepth 100000
theorem setB_ne {L:Nat->Bool} {i j:Nat} (h:j≠i):setB L i j=L j:=by
 have:Nat.beq j i=false:=by rw [<-Bool.not_eq_true,Nat.beq_eq];exact h
 simp [setB,this]
theorem setB_eq {L:Nat->Bool} {i:Nat}:setB L i i=true:=by simp [setB]
abbrev ptr (b:Nat):Value:=.pointer (some (at0 b))
abbrev twoF:Value:=.func (.func n_regex_forms_2) #[] #[]
abbrev starF (a b:Nat):Value:=.func (.func n_regex_forms_4) #[] #[ptr a,ptr b]
abbrev evT (s:Sl):Rt:=.mk 6 0 0 s [noT]
def fmT (b1 b2 b4:Nat) (ev:Rt):List (Nat×Nat×Value):=[(0,1,ptr b1),(0,2,ptr b2),(0,3,ptr b4),(0,4,selfF),(0,5,twoF),(2,12,selfF),(4,13,selfF),(6,14,selfF),(8,15,twoF),(9,16,emptyT.v),(10,17,noT.v),(13,19,twoF),(14,20,noT.v),(15,21,ev.v),(18,23,twoF),(19,24,ev.v),(20,25,noT.v),(24,27,starF b2 b4)]
def insT:List (Nat×Int):=[(2,0),(4,1),(6,2),(11,3),(16,4),(21,5),(22,6),(24,7)]
def joinT3 (ev:Rt):List (Nat×Nat×Rt×Rt):=[(10,18,emptyT,noT),(15,22,noT,ev),(20,26,ev,noT)]
def Joined (ev:Rt) (cs:List (Nat×Rt)) (L:Nat->Bool) (E:Env):Prop:=∀q∈joinT3 ev,L q.1=true->∃a b,E.get? q.2.1=some (joinF a b)/\(a,q.2.2.1)∈cs/\(b,q.2.2.2)∈cs
def MapSt (ev:Rt) (cs:List (Nat×Rt)) (L:Nat->Bool) (E:Env) (mp:List En):Prop:=(L 0=false/\mp=[]/\(∀q∈insT,L q.1=false)/\L 25=false/\L 26=false)\/
 (L 0=true/\∃(m:Nat) (es:Array MapEntry) (clock:Nat) (ms:List (Int×Value)),mp=[.ob m (.map es clock)]/\E.get? 11=some (.map (some m))/\MapIs .i64 es ms/\(∀k v,mget ms k=some v->GoodE cs ev k v)/\(∀q∈insT,(mget ms q.2).isSome=L q.1)/\
  (L 25=true->E.get? 28=some (.map (some m)))/\(L 26=true->E.get? 0=some (.map (some m))))
abbrev fmBase (b1 b2 b4:Nat) (s:Sl):List En:=[enU b1 noT,enU b2 emptyT,.row ty_regex_Regex 4 s noT.c,enU b4 (evT s)]
structure FJ (w0:World) (b1 b2 b4:Nat) (s:Sl) (L:Nat->Bool) (E:Env) (w:World):Prop where
 st:Held0 (fmT b1 b2 b4 (evT s)) L E
 hp:∃(mp X:List En) (cs:List (Nat×Rt)),LH F0 w0 w (mp++(fmBase b1 b2 b4 s++X)) []/\(∀p∈cs,enU p.1 p.2∈fmBase b1 b2 b4 s++X)/\(b2,emptyT)∈cs/\(b4,evT s)∈cs/\Joined (evT s) cs L E/\MapSt (evT s) cs L E mp
theorem GoodE.mono {cs cs':List (Nat×Rt)} {ev:Rt} {k:Int} {v:Value} (h:GoodE cs ev k v) (hs:∀p∈cs,p∈cs'):GoodE cs' ev k v:=by
 rcases h with h|⟨u,z,a,b,h1,h2,h3,h4⟩|h|⟨a,b,h1,h2,h3,h4⟩
 .exact .inl h
 .exact .inr (.inl ⟨u,z,a,b,h1,h2,hs _ h3,hs _ h4⟩)
 .exact .inr (.inr (.inl h))
 .exact .inr (.inr (.inr ⟨a,b,h1,h2,hs _ h3,hs _ h4⟩))
section
variable {w0 w:World} {b1 b2 b4:Nat} {s:Sl} {L:Nat->Bool} {E:Env}
theorem MapSt.keep {ev:Rt} {cs cs':List (Nat×Rt)} {mp:List En} (h:MapSt ev cs L E mp) (hs:∀p∈cs,p∈cs') (i d:Nat) (v:Value) (hi:∀j∈[0,25,26,2,4,6,11,16,21,22,24],j≠i) (hd:∀t∈[11,28,0],d≠t):MapSt ev cs' (setB L i) (E.put (some d) v) mp:=by
 have hn:∀q∈insT,setB L i q.1=L q.1:=λq hq=>setB_ne (hi _ (by simp only [insT,qmC,qnM,or_false] at hq;rcases hq with rfl|rfl|rfl|rfl|rfl|rfl|rfl|rfl<;>simp))
 have n0:setB L i 0=L 0:=setB_ne (hi 0 (by simp))
 have n25:setB L i 25=L 25:=setB_ne (hi 25 (by simp))
 have n26:setB L i 26=L 26:=setB_ne (hi 26 (by simp))
 rcases h with ⟨h0,h1,h2,h3,h4⟩|⟨h0,m,es,clock,ms,h1,h2,h3,h4,h5,h6,h7⟩
 .exact .inl ⟨by rw [n0,h0],h1,λq hq=>by rw [hn q hq,h2 q hq],by rw [n25,h3],by rw [n26,h4]⟩
 .refine .inr ⟨by rw [n0,h0],m,es,clock,ms,h1,?_,h3,λk v hk=>(h4 k v hk).mono hs,λq hq=>by rw [hn q hq,h5 q hq],λh=>?_,λh=>?_⟩
  .rw [get_put_ne (hd 11 (by simp)),h2]
  .rw [get_put_ne (hd 28 (by simp)),h6 (n25▸h)]
  .rw [get_put_ne (hd 0 (by simp)),h7 (n26▸h)]
theorem FJ.call (h:FJ w0 b1 b2 b4 s L E w) (i d:Nat) (u z:Rt) (hq0:(i,d,u,z)∈joinT3 (evT s)):Calls Tryz.prog n_regex_forms_2 #[u.v,z.v] w λe w'=>∃v,e=.returned v/\FJ w0 b1 b2 b4 s (setB L i) (E.put (some d) v) w':=by
 obtain ⟨mp,X,cs,H,hc,hm,hev,hj,hms⟩:=h.hp
 have hid:(i=10/\d=18)\/(i=15/\d=22)\/(i=20/\d=26):=by
  simp only [joinT3,qmC,qnM,or_false,Prod.mk.injEq] at hq0
  omega
 refine regex_forms_2.ok _ _ _ _ _ _ _ _ w _ (H.nw λw1 hs1 H1=>H1.nw λw2 hs2 H2=>⟨joinF w.heap.size w1.heap.size,rfl,h.st.pass ?_ ?_,mp,X++[enU w.heap.size u,enU w1.heap.size z],(w.heap.size,u)::(w1.heap.size,z)::cs,?_,?_,by simp [hm],by simp [hev],λq hq hL=>?_,hms.keep (λp hp=>by simp [hp]) i d _ ?_ ?_⟩)
 .intro q hq
  simp only [fmT,qmC,qnM,or_false] at hq
  rcases hq with rfl|rfl|rfl|rfl|rfl|rfl|rfl|rfl|rfl|rfl|rfl|rfl|rfl|rfl|rfl|rfl|rfl|rfl<;>simp only<;>omega
 .intro q hq he
  have he:d=q.2.1:=Option.some.inj he
  simp only [fmT,qmC,qnM,or_false] at hq
  rcases hq with rfl|rfl|rfl|rfl|rfl|rfl|rfl|rfl|rfl|rfl|rfl|rfl|rfl|rfl|rfl|rfl|rfl|rfl<;>simp only at he<;>omega
 .have e:mp++(fmBase b1 b2 b4 s++(X++[enU w.heap.size u,enU w1.heap.size z]))=mp++(fmBase b1 b2 b4 s++X)++[enU w.heap.size u]++[enU w1.heap.size z]:=by simp
  rw [e]
  exact H2
 .intro p hp
  rcases qmC.1 hp with rfl|hp
  .simp
  rcases qmC.1 hp with rfl|hp
  .simp
  rw [<-List.append_assoc]
  exact qmL _ (hc p hp)
 .by_cases hqi:q.1=i
  .have:q=(i,d,u,z):=by
    simp only [joinT3,qmC,qnM,or_false,Prod.mk.injEq] at hq0
    simp only [joinT3,qmC,qnM,or_false] at hq
    rcases hq with rfl|rfl|rfl<;>simp only at hqi<;>rcases hq0 with ⟨rfl,rfl,rfl,rfl⟩|⟨rfl,rfl,rfl,rfl⟩|⟨rfl,rfl,rfl,rfl⟩<;>first |rfl|(exact absurd hqi (by decide))
   subst this
   exact ⟨_,_,get_put,by simp,by simp⟩
  .have hne:d≠q.2.1:=by
    simp only [joinT3,qmC,qnM,or_false] at hq
    rcases hq with rfl|rfl|rfl<;>simp only at hqi ⊢<;>omega
   obtain ⟨a,b,h1,h2,h3⟩:=hj q hq (by rwa [setB_ne hqi] at hL)
   exact ⟨a,b,by rw [get_put_ne hne,h1],by simp [h2],by simp [h3]⟩
 .intro j hj'
  simp only [qmC,qnM,or_false] at hj'
  omega
 .intro j hj'
  simp only [qmC,qnM,or_false] at hj'
  omega
theorem FJ.ld (h:FJ w0 b1 b2 b4 s L E w) {u:Rt} {b:Nat} (hu:enU b u∈fmBase b1 b2 b4 s) {K:Value->Prop} (hk:K u.v):ldVC Tryz.prog ty_regex_Regex (at0 b) w λv _=>K v:=by
 obtain ⟨mp,X,cs,H,_⟩:=h.hp
 have hb:w.heap[b]? =some (.cells u.c.toArray ty_regex_Regex (0,0)):=H.own (enU b u) (List.mem_append_right _ (qmL _ hu))
 have c0:=cellAt (p:=at0 b) (i:=0) (v:=.int .i64 u.k) hb rfl rfl
 have c1:=cellAt (p:=at0 b) (i:=1) (v:=.int .u8 (u.lo.toNat:Int)) hb rfl rfl
 have c2:=cellAt (p:=at0 b) (i:=2) (v:=.int .u8 (u.hi.toNat:Int)) hb rfl rfl
 have c3:=cellAt (p:=at0 b) (i:=3) (v:=u.s.v) hb rfl rfl
 have e:(ldVC Tryz.prog ty_regex_Regex (at0 b) w λv _=>K v)=(∃n0:Int,∃n1:Int,∃n2:Int,∃n3:Sl,w.cell? ((at0 b).add 0)=some (.int .i64 n0)/\w.cell? ((at0 b).add 1)=some (.int .u8 n1)/\w.cell? ((at0 b).add 2)=some (.int .u8 n2)/\w.cell? ((at0 b).add 3)=some n3.v/\K (.agg #[.int .i64 n0,.int .u8 n1,.int .u8 n2,n3.v])):=by kernel_rfl
 rw [e]
 exact ⟨_,_,_,u.s,c0,c1,c2,c3,hk⟩
end
mutual
def normX:Rx->Rx|.mk k lo hi l=>formX (.mk k lo hi (normXs l))
def normXs:List Rx->List Rx
 |[]=>[]
 |a::l=>normX a::normXs l
end
def fewOk (N:Nat):Rx->Bool|.mk k _ _ l=>decide (k=4\/k=5->pcX k l<=N)
def okForm (N:Nat) (y:Rx):Bool:=formOk y&&decide (y.sz<=1000000)&&fewOk N y
theorem normXs_map:∀l:List Rx,normXs l=l.map normX
 |[]=>rfl
 |a::l=>by unfold normXs;rw [normXs_map l];rfl
theorem no_trees {M:Nat->Prop} {w0 w:World} {L D:List En} (H:LH M w0 w L D):LH M w0 w L (D++[.trees []]):=
 H.addD (.trees []) (Fr.refl _ _) (by show Rt.Ps w [];unfold Rt.Ps;trivial) (λb hb=>by
  have:=mem_nub.1 hb
  unfold Rt.fps at this
  cases this)
theorem fps_snoc {acc:List Rt} {t:Rt} {Q:Nat->Prop} (h:∀b∈Rt.fps acc,Q b) (ht:∀b∈t.fp,Q b):∀b∈Rt.fps (acc++[t]),Q b:=by
 intro b hb
 obtain ⟨u,hu,hb'⟩:=Rt.fps_iff.1 hb
 rcases qmA.1 hu with hu|hu
 .exact h b (Rt.fps_iff.2 ⟨u,hu,hb'⟩)
 .simp at hu
  rw [hu] at hb'
  exact ht b hb'
section
variable {M:Nat->Prop} {w0 w:World} {L D:List En} {bs:List Nat}
theorem _root_.Go.W.LH.callt (H:LH M w0 w L D) {P:Program} {g:FuncId} {args:Array Value} {K:Post} {old:List Nat} {x:Rx} (hc:Calls P g args w λr w'=>RetF old w x r w'/\Fr0 w w') (hold:∀b∈old,∃g∈D,b∈g.fp)
  (hk:∀(t:Rt) (w':World),t.rx=x->LH M w0 w' L (D++[.tree t])->(∀b∈t.fp,w.heap.size<=b\/b∈old)->K (.returned t.v) w'):callF bs P g args w K:=
 callF0 (hc.mono λr w' ⟨⟨t,h1,h2,h3,h4⟩,f⟩=>⟨f,by
  subst h1
  exact hk t w' h2 (H.addD (.tree t) f h3 λb hb=>(h4 b (mem_nub.1 hb)).imp id λh=>.inr (hold b h)) h4⟩)
end
end Go.Proofs.YthnoidogkbbkhaaGreatDoor
