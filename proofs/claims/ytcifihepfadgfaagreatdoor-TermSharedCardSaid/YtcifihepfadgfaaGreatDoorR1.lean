import Derived.Test.YtcifihepfadgfaaGreatDoorB
import Derived.Test.YtcifihepfadgfaaGreatDoorV
set_option linter.unusedVariables false
namespace Go.Proofs.YtcifihepfadgfaaGreatDoor
open List renaming mem_append->fW,mem_cons->cU,not_mem_nil->qnM,mem_of_getElem?->cZ,getElem?_eq_getElem->gW,getElem?_eq_some_iff->oN,mem_append_left->qmL,mem_append_right->qmR,mem_flatMap->mY,mem_map->oT,length_append->qlA,append_assoc->qaA,length_take->qlT,flatMap_append->qfA,flatMap_cons->qfC,mem_cons_of_mem->qmCM,mem_cons_self->qmCS,length_set->qlS,take_append_drop->qtAD,drop_eq_getElem_cons->qdG,append_nil->qaN,take_add_one->qtO,map_cons->qmpC,drop_drop->qdD,getElem?_drop->qgD,getElem?_set_self->qgSS,drop_of_length_le->qdO,take_of_length_le->qtOL,length_reverse->qlRv
open Go Go.W
def gC (a b:Int):Int:=if a<b then -1 else if b<a then 1 else 0
def sN:List Int->Int
 |[]=>0
 |c::l=>if c≠0 then c else sN l
theorem Vx (a b:Int) (w:World):Calls Tryz.prog nt #[.int .i64 a,.int .i64 b] w λr w'=>r=.returned (.int .i64 (gC a b))/\bI w w':=by
 refine cmp_Compare_int.ok _ _ w _ (cmp_isNaN_int.ok _ _ _ ⟨_,rfl,cmp_isNaN_int.ok _ _ _ ⟨_,rfl,?_⟩⟩)
 have e1:(a !=a)=false:=by simp
 have e2:(b !=b)=false:=by simp
 rw [e1,e2]
 refine aL rfl (aL rfl (aM (λh=>⟨?_,Fr.refl _ _⟩) (λh=>aM (λh2=>⟨?_,Fr.refl _ _⟩) (λh2=>⟨?_,Fr.refl _ _⟩))))
 .unfold gC;rw [if_pos h]
 .unfold gC;rw [if_neg h,if_pos h2]
 .unfold gC;rw [if_neg h,if_neg h2]
theorem VA (a b:Int) (w:World):Calls Tryz.prog jV #[.int .u8 a,.int .u8 b] w λr w'=>r=.returned (.int .i64 (gC a b))/\bI w w':=by
 refine cmp_Compare_byte.ok _ _ w _ (cmp_isNaN_byte.ok _ _ _ ⟨_,rfl,cmp_isNaN_byte.ok _ _ _ ⟨_,rfl,?_⟩⟩)
 have e1:(a !=a)=false:=by simp
 have e2:(b !=b)=false:=by simp
 rw [e1,e2]
 refine aL rfl (aL rfl (aM (λh=>⟨?_,Fr.refl _ _⟩) (λh=>aM (λh2=>⟨?_,Fr.refl _ _⟩) (λh2=>⟨?_,Fr.refl _ _⟩))))
 .unfold gC;rw [if_pos h]
 .unfold gC;rw [if_neg h,if_pos h2]
 .unfold gC;rw [if_neg h,if_neg h2]
theorem T8 {w:World} {s:Sl} {l:List Int} (h:fB w s l) (hl:l.length<=1000000):Calls Tryz.prog o4 #[s.v] w λr w'=>r=.returned (.int .i64 (sN l))/\bI w w':=by
 refine cmp_Or_int.ok _ w _ ?_
 have hn:=fB.len h
 have loop:∀(d i:Nat),i+d=l.length->sN (l.drop i)=sN l->cmp_Or_int.L0 0 s ((s.n:Nat):Int) (i:Int) w λr w'=>r=.returned (.int .i64 (sN l))/\bI w w':=by
  intro d
  induction d with
  |zero=>
   intro i hi he
   rw [qdO (by omega)] at he
   exact cmp_Or_int.cF _ _ _ _ _ _ (aL (decide_eq_false (by omega)) ⟨by rw [<-he];rfl,Fr.refl _ _⟩)
  |succ d ih=>
   intro i hi he
   have hg:l[i]? =some (l[i]'(by omega)):=gW (by omega)
   rw [qdG (by omega)] at he
   generalize l[i]'(by omega)=c at hg he
   refine cmp_Or_int.cF _ _ _ _ _ _ (aQ (decide_eq_true (by omega)) ⟨by omega,by omega,fB.cell h hg (by simp) λp _ hp=>⟨c,hp,eB (λhc=>?_) (λhc=>?_)⟩⟩)
   .refine ⟨?_,Fr.refl _ _⟩
    rw [<-he];unfold sN;rw [if_pos hc]
   .rw [aY _ (by omega)]
    refine ih (i+1) (by omega) ?_
    rw [<-he]
    conv=>rhs;unfold sN
    rw [if_neg (by simpa using hc)]
 exact loop l.length 0 (by omega) (by simp)
theorem MT (w:World) (l:List Int) (n:Nat) (hn:n=l.length):fB (w.alloc (.cells (l.map jm).toArray bW)) ⟨some (bF w.heap.size),n,n⟩ l:=
 ⟨by simp [hn],Nat.le_refl _,(Row.made w bW n n (l.map jm)).LL⟩
section
variable {M:Nat->Prop} {w0 w:World} {L D:List En} {bs:List Nat}
theorem _root_.Go.W.LH.or (H:LH M w0 w L D) {l:List Int} {n:Nat} {K:aD} (hn:n=l.length) (hl:l.length<=1000000) (hk:∀w',LH M w0 w' L D->K (.returned (.int .i64 (sN l))) w'):
  fJ w (.cells (l.map jm).toArray bW) λw1=>fV bs Tryz.prog o4 #[.slice (some (Addr.mk w.heap.size 0 none)) n n] w1 K:=
 (H.oR (Fr.alloc _ _ _)).aJ (T8 (s:=⟨some (bF w.heap.size),n,n⟩) (MT w l n hn) hl) λ_ w' hr H'=>hr▸hk w' H'
end
mutual
def cQ:Rx->Rx->Int
 |.mk k lo hi l,b=>if sN [gC k b.k,gC lo.toNat b.lo.toNat,gC hi.toNat b.hi.toNat]≠0 then sN [gC k b.k,gC lo.toNat b.lo.toNat,gC hi.toNat b.hi.toNat] else cmpL l b.l
def cmpL:List Rx->List Rx->Int
 |[],[]=>0
 |[],_::_=>-1
 |_::_,[]=>1
 |a::l,b::m=>if cQ a b≠0 then cQ a b else cmpL l m
end
abbrev QF (n:Nat):Prop:=∀(a b:Rt) (w:World),a.sz<=n->a.P w->b.P w->Calls Tryz.prog aT #[a.v,b.v] w λr w'=>r=.returned (.int .i64 (cQ a.rx b.rx))/\bI w w'
theorem Af (n:Nat) (hn:n<=1000000) (ih:QF n) (la lb:List Rt) (sa sb:Sl) (w:World) (ha:jO 4 w sa (la.flatMap Rt.c)) (hb:jO 4 w sb (lb.flatMap Rt.c)) (pa:Rt.Ps w la) (pb:Rt.Ps w lb) (hs:Rt.fK la<=n):
  Calls Tryz.prog bP #[sa.v,sb.v,.func (.func aT) #[] #[]] w λr w'=>r=.returned (.int .i64 (cmpL (Rt.bU la) (Rt.bU lb)))/\bI w w':=by
 have na:=Rt.cC ha
 have nb:=Rt.cC hb
 have hl:=Rt.eZ la
 have loop:∀(d i:Nat) (w1:World),i+d=la.length->i<=lb.length->cmpL (Rt.bU (la.drop i)) (Rt.bU (lb.drop i))=cmpL (Rt.bU la) (Rt.bU lb)->LH F0 w w1 [] [Rt.row sa la,Rt.row sb lb,.trees la,.trees lb]->
   slices_CompareFunc_sl_regex_Regex_sl_regex_Regex_regex_Regex_regex_Regex.eH sa sb sa ((sa.n:Nat):Int) (i:Int) w1 λr w'=>r=.returned (.int .i64 (cmpL (Rt.bU la) (Rt.bU lb)))/\bI w w':=by
  intro d
  induction d with
  |zero=>
   intro i w1 hi U1 he H
   rw [qdO (by omega)] at he
   refine slices_CompareFunc_sl_regex_Regex_sl_regex_Regex_regex_Regex_regex_Regex.bA _ _ _ _ _ _ _ (aL (decide_eq_false (by omega)) (aM (λh=>⟨?_,H.fr⟩) (λh=>⟨?_,H.fr⟩)))
   .rw [qdG (by omega)] at he
    rw [<-he];rfl
   .rw [qdO (by omega)] at he
    rw [<-he];rfl
  |succ d pT=>
   intro i w1 hi U1 he H
   have hg:la[i]? =some (la[i]'(by omega)):=gW (by omega)
   rw [qdG (by omega)] at he
   generalize la[i]'(by omega)=a at hg he
   refine slices_CompareFunc_sl_regex_Regex_sl_regex_Regex_regex_Regex_regex_Regex.bA _ _ _ _ _ _ _ (aQ (decide_eq_true (by omega)) ⟨by omega,by omega,?_⟩)
   refine Rt.at' (H.getD 0) hg λp hp c=>⟨_,_,_,_,c.c0,c.c1,c.c2,c.c3,H.bJ λb8 w2 H2=>aM (λAo=>H2.aK λw3 H3=>⟨?_,H3.fr⟩) (λl6=>⟨by omega,by omega,?_⟩)⟩
   .have aat:((sb.n:Nat):Int)<=(i:Int):=Ao
    rw [qdO (by omega:lb.length<=i)] at he
    rw [<-he];rfl
   .have aau:¬((sb.n:Nat):Int)<=(i:Int):=l6
    have Rf:lb[i]? =some (lb[i]'(by omega)):=gW (by omega)
    rw [qdG (by omega:i<lb.length)] at he
    generalize lb[i]'(by omega)=b at Rf he
    refine Rt.at' (H2.getD 1) Rf λq hq _=>H2.aK λw3 H3=>?_
    have c:=Rt.again (H3.getD 1) Rf hq
    refine ⟨_,_,_,_,c.c0,c.c1,c.c2,c.c3,H3.bJ λb9 w4 H4=>H4.aK λw5 H5=>?_⟩
    have CF:=Rt.dM (cZ hg)
    refine H5.aJ (ih a b w5 (by omega) (Rt.Ps.get (H5.getD 2) hg) (Rt.Ps.get (H5.getD 3) Rf)) ?_
    rintro _ w6 rfl H6
    have e2:cmpL (Rt.bU (a::la.drop (i+1))) (Rt.bU (b::lb.drop (i+1)))=if cQ a.rx b.rx≠0 then cQ a.rx b.rx else cmpL (Rt.bU (la.drop (i+1))) (Rt.bU (lb.drop (i+1))):=rfl
    rw [e2] at he
    refine ⟨_,rfl,eB (λhc=>⟨?_,H6.fr⟩) (λhc=>?_)⟩
    .rw [if_pos hc] at he
     rw [he]
    .rw [if_neg (by simpa using hc)] at he
     rw [aY _ (by omega)]
     exact pT (i+1) w6 (by omega) (by omega) he (H6.take 0)
 exact slices_CompareFunc_sl_regex_Regex_sl_regex_Regex_regex_Regex_regex_Regex.cV _ _ w _ (loop la.length 0 w (by omega) (by omega) (by simp) (mu _ (by
  intro e he
  simp only [cU,qnM,or_false] at he
  rcases he with rfl|rfl|rfl|rfl
  .exact ha
  .exact hb
  .exact pa
  .exact pb)))
theorem yt:∀n:Nat,n<=1000000->QF n
 |0,_=>λa b w h _ _=>absurd h (by have:=Rt.oP a;omega)
 |n+1,hn=>λa b w h pa pb=>by
  have ih:=yt n (by omega)
  have hs:=Rt.gm a
  have ha:=pa.parts
  have hb:=pb.parts
  refine regex_Compare.cV _ _ _ _ _ _ _ _ w _ ((mu [.tree a,.tree b] (by
   intro e he
   simp only [cU,qnM,or_false] at he
   rcases he with rfl|rfl
   .exact pa
   .exact pb)).bJ λb2 w1 H1=>H1.bJ λb3 w2 H2=>H2.aK λw3 H3=>H3.aJ (Vx _ _ w3) ?_)
  rintro _ w4 rfl H4
  refine ⟨_,rfl,H4.aJ (VA _ _ w4) ?_⟩
  rintro _ w5 rfl H5
  refine ⟨_,rfl,H5.aJ (VA _ _ w5) ?_⟩
  rintro _ w6 rfl H6
  refine ⟨_,rfl,H6.or (l:=[gC a.k b.k,gC a.lo.toNat b.lo.toNat,gC a.hi.toNat b.hi.toNat]) rfl (by simp) λw7 H7=>?_⟩
  have e:cQ a.rx b.rx=if sN [gC a.k b.k,gC a.lo.toNat b.lo.toNat,gC a.hi.toNat b.hi.toNat]≠0 then sN [gC a.k b.k,gC a.lo.toNat b.lo.toNat,gC a.hi.toNat b.hi.toNat] else cmpL (Rt.bU a.l) (Rt.bU b.l):=by
   rw [Rt.dC a,Rt.dC b];unfold cQ;rfl
  refine ⟨_,rfl,eB (λhc=>⟨?_,H7.fr⟩) (λhc=>?_)⟩
  .rw [e,if_pos hc]
  .have pa7:a.P w7:=H7.getD 0
   have pb7:b.P w7:=H7.getD 1
   refine H7.aJ (Af n (by omega) ih a.l b.l a.s b.s w7 pa7.parts.1 pb7.parts.1 pa7.parts.2 pb7.parts.2 (by omega)) ?_
   rintro _ w8 rfl H8
   refine ⟨_,rfl,?_,H8.fr⟩
   rw [e,if_neg (by simpa using hc)]
theorem AM (a b:Rt) (w:World) (h:a.sz<=1000000) (pa:a.P w) (pb:b.P w):Calls Tryz.prog aT #[a.v,b.v] w λr w'=>r=.returned (.int .i64 (cQ a.rx b.rx))/\bI w w':=yt 1000000 (Nat.le_refl _) a b w h pa pb
theorem uN (a b:Rt) (w:World) (h:a.sz<=1000000) (pa:a.P w) (pb:b.P w):Calls Tryz.prog eF #[a.v,b.v] w λr w'=>r=.returned (.bool (cQ a.rx b.rx==0))/\bI w w':=by
 refine regex_equal.cV _ _ _ _ _ _ _ _ w _ ((mu [.tree a,.tree b] (by
  intro e he
  simp only [cU,qnM,or_false] at he
  rcases he with rfl|rfl
  .exact pa
  .exact pb)).bJ λb2 w1 H1=>H1.bJ λb3 w2 H2=>H2.aJ (AM a b w2 h (H2.getD 0) (H2.getD 1)) ?_)
 rintro _ w3 rfl H3
 exact ⟨_,rfl,rfl,H3.fr⟩
theorem za {w:World} {t:Rt} (h:t.P w):LH F0 w w [] [.tree t]:=mu _ (by
 intro e he
 simp only [cU,qnM,or_false] at he
 subst he
 exact h)
def oA (w:World) (x:Rx) (r:Ending) (w':World):Prop:=∃t:Rt,r=.returned t.v/\t.rx=x/\t.P w'/\∀b∈t.fp,w.heap.size<=b
section
variable {M:Nat->Prop} {w0 w:World} {L D:List En} {bs:List Nat}
theorem _root_.Go.W.LH.zv (H:LH M w0 w L D) (i j:Nat) {ts:List Rt} {t:Rt} (hi:D[i]? =some (.trees ts):=by rfl) (hj:D[j]? =some (.tree t):=by rfl):LH M w0 w L (D++[.trees (ts++[t])]):=by
 refine H.mE _ (Fr.refl _ _) (Rt.oq λt' ht=>?_) λb hb=>.inr (.inr ?_)
 .rcases fW.1 ht with ht|ht
  .exact Rt.Ps.mem (H.getD i hi) ht
  .simp at ht;subst ht;exact H.getD j hj
 .obtain ⟨t',ht,eD⟩:=Rt.bD.1 (aI.1 hb)
  rcases fW.1 ht with ht|ht
  .exact ⟨_,cZ hi,aI.2 (Rt.bD.2 ⟨t',ht,eD⟩)⟩
  .simp at ht
   rw [ht] at eD
   exact ⟨_,cZ hj,aI.2 eD⟩
theorem fQ {e:TypeId} {s:Sl} {vs:List Value} {b:Nat} (h:b∈(En.jh 4 s vs).fp):b∈(En.row e 4 s vs).fp:=by
 have:b∈(if vs=[] then [] else bC s):=h
 split at this
 .cases this
 .exact this
theorem _root_.Go.W.LH.GZ (H:LH M w0 w L D) (i j:Nat) {e:TypeId} {s:Sl} {ts:List Rt} (k:Int) (lo hi:UInt8) (vT:L[i]? =some (.row e 4 s (ts.flatMap Rt.c)):=by rfl) (hj:D[j]? =some (.trees ts):=by rfl):LH M w0 w (L.eraseIdx i) (D++[Rt.row s ts]++[.tree (.mk k lo hi s ts)]):=by
 have H1:=H.freeze i (Rt.row s ts) vT (aP.jh (H.get i vT)) λb hb=>fQ hb
 refine H1.mE _ (Fr.refl _ _) ?_ λb hb=>.inr (.inr ?_)
 .show Rt.P w _
  unfold Rt.P
  exact ⟨aP.jh (H.get i vT),H.getD j hj⟩
 .have eD:=aI.1 hb
  unfold Rt.fp at eD
  rcases fW.1 eD with eD|eD
  .exact ⟨_,qmR _ (by simp),eD⟩
  .exact ⟨_,qmL _ (cZ hj),aI.2 eD⟩
end
theorem AQ (l:List Rt):∀u∈l.flatMap Rt.c,u.oneCell'=true:=λu hu=>by
 obtain ⟨e,_,h⟩:=mY.1 hu
 simp only [Rt.c,cU,qnM,or_false] at h
 rcases h with rfl|rfl|rfl|rfl<;>rfl
theorem yJ:iJ Tryz.prog aE aB (.agg #[.int .i64 0,.int .u8 0,.int .u8 0,.slice none 0 0]) 4 40:=⟨by kernel_rfl,by kernel_rfl,rfl,by decide,by decide⟩
theorem mq (l:List Rt) (t:Rt):(l++[t]).flatMap Rt.c=l.flatMap Rt.c++t.c:=by simp
theorem kh (l m:List Rt):Rt.bU (l++m)=Rt.bU l++Rt.bU m:=by simp [Rt.eW]
theorem tm:∀(l m:List Rt),Rt.fK (l++m)=Rt.fK l+Rt.fK m
 |[],m=>by simp [Rt.fK]
 |t::l,m=>by
  show t.sz+Rt.fK (l++m)=t.sz+Rt.fK l+Rt.fK m
  rw [tm l m]
  omega
theorem qi (l:List Rt) (i:Nat):Rt.fK (l.take i)<=Rt.fK l:=by
 have:=tm (l.take i) (l.drop i)
 rw [qtAD] at this
 omega
abbrev Yd (n:Nat):Prop:=∀(t:Rt) (x:Nat) (w:World),t.sz<=n->x<=1000000->t.P w->Calls Tryz.prog kQ #[t.v,.int .i64 (x:Int)] w λr w'=>r=.returned (.int .i64 (max ((x:Int) - t.sz) (-1)))/\bI w w'
theorem uM:∀n:Nat,n<=1000000->Yd n
 |0,_=>λt x w h _ _=>absurd h (by have:=Rt.oP t;omega)
 |n+1,hn=>λt x w h hx pt=>by
  have ih:=uM n (by omega)
  have hs:=Rt.gm t
  have hl:=Rt.eZ t.l
  have loop:∀(d i:Nat) (y:Int) (b2:Nat) (w1:World),i+d=t.l.length->-1<=y->y<=1000000->max (y - Rt.fK (t.l.drop i)) (-1)=max ((x:Int) - t.sz) (-1)->LH F0 w w1 [.g b2] [.tree t]->
    regex_countdown.l4 y b2 t.k t.lo.toNat t.hi.toNat t.s (i:Int) w1 λr w'=>r=.returned (.int .i64 (max ((x:Int) - t.sz) (-1)))/\bI w w':=by
   intro d
   induction d with
   |zero=>
    intro i y b2 w1 hi hy TR he H
    have nr:=Rt.cC (show t.P w1 from H.getD 0).parts.1
    rw [qdO (by omega)] at he
    refine regex_countdown.dJ _ _ _ _ _ _ _ _ _ (aL (decide_eq_false (by omega)) ⟨?_,H.fr⟩)
    rw [<-he]
    congr 2
    simp only [Rt.fK]
    omega
   |succ d pT=>
    intro i y b2 w1 hi hy TR he H
    have nr:=Rt.cC (show t.P w1 from H.getD 0).parts.1
    have hg:t.l[i]? =some (t.l[i]'(by omega)):=gW (by omega)
    rw [qdG (by omega)] at he
    generalize t.l[i]'(by omega)=a at hg he
    have CF:=Rt.dM (cZ hg)
    unfold Rt.fK at he
    refine regex_countdown.dJ _ _ _ _ _ _ _ _ _ (aQ (decide_eq_true (by omega)) (aM (λZX=>⟨by omega,by omega,?_⟩) (λZX=>⟨?_,H.fr⟩)))
    .have J2:t.P w1:=H.getD 0
     refine Rt.at' J2.parts.1 hg λp hp c=>⟨_,_,_,_,c.c0,c.c1,c.c2,c.c3,?_⟩
     have Wr:0<=y:=ZX
     obtain ⟨m,rfl⟩:=Int.eq_ofNat_of_zero_le Wr
     refine H.aJ (ih a m w1 (by omega) (by omega) (J2.parts.2.get hg)) ?_
     rintro _ w2 rfl H2
     refine ⟨_,rfl,?_⟩
     rw [aY _ (by omega)]
     refine pT (i+1) _ b2 w2 (by omega) (by omega) (by omega) ?_ H2
     rw [<-he]
     omega
    .have Wr:¬0<=y:=ZX
     rw [<-he]
     have:y=-1:=by omega
     subst this
     congr 2
     omega
  have e:IntKind.wrap .i64 ((x:Int) - 1)=(x:Int) - 1:=IntWalk.i64_in _ (by omega)
  refine regex_countdown.cV _ _ _ _ _ w _ ((za pt).bJ λb2 w1 H1=>?_)
  rw [e]
  refine loop t.l.length 0 _ b2 w1 (by omega) (by omega) (by omega) ?_ H1
  rw [List.drop_zero,hs]
  omega
theorem tU (t:Rt) (w:World) (h:t.sz<=1000000) (pt:t.P w):Calls Tryz.prog jG #[t.v] w λr w'=>r=.returned (.bool (decide (64<t.sz)))/\bI w w':=by
 refine regex_tooLarge.cV _ _ _ _ w _ ((za pt).bJ λb1 w1 H1=>H1.aJ (uM 1000000 (Nat.le_refl _) t 64 w1 h (by omega) (H1.getD 0)) ?_)
 rintro _ w2 rfl H2
 refine ⟨_,rfl,?_,H2.fr⟩
 congr 2
 exact decide_eq_decide.2 (by omega)
mutual
def dT:Rx->Bool
 |.mk k lo hi l=>!(k !=2&&(lo !=0||hi !=0))&&(if k=0\/k=1 then l.isEmpty else if k=2 then l.isEmpty&&decide (lo.toNat<=hi.toNat) else if k=3\/k=4\/k=5 then gw l else if k=6\/k=7 then l.length==1&&gw l else false)
def gw:List Rx->Bool
 |[]=>true
 |t::l=>dT t&&gw l
end
abbrev Ym (n:Nat):Prop:=∀(t:Rt) (w:World),t.sz<=n->t.P w->Calls Tryz.prog nv #[t.v] w λr w'=>r=.returned (.bool (dT t.rx))/\bI w w'
theorem B1 (l:List Rt):(Rt.bU l).isEmpty=(((l.length:Nat):Int)==0):=by
 rw [Rt.eW]
 cases l with
 |nil=>rfl
 |cons a l=>
  simp
  omega
theorem AR:∀n:Nat,n<=1000000->Ym n
 |0,_=>λt w h _=>absurd h (by have:=Rt.oP t;omega)
 |n+1,hn=>λt w h pt=>by
  have ih:=AR n (by omega)
  have hs:=Rt.gm t
  have hl:=Rt.eZ t.l
  have nr:=Rt.cC pt.parts.1
  have loop:∀(b:Bool),dT t.rx=(b&&gw (Rt.bU t.l))->b=true->∀(d i:Nat) (w1:World),i+d=t.l.length->gw (Rt.bU (t.l.drop i))=gw (Rt.bU t.l)->LH F0 w w1 [] [.tree t]->
    regex_proper.wY t.s ((t.s.n:Nat):Int) (i:Int) w1 λr w'=>r=.returned (.bool (dT t.rx))/\bI w w':=by
   intro b hb yV d
   subst yV
   rw [Bool.true_and] at hb
   induction d with
   |zero=>
    intro i w1 hi he H
    rw [qdO (by omega)] at he
    refine regex_proper.ko _ _ _ _ _ (aL (decide_eq_false (by omega)) ⟨?_,H.fr⟩)
    rw [hb,<-he];rfl
   |succ d pT=>
    intro i w1 hi he H
    have hg:t.l[i]? =some (t.l[i]'(by omega)):=gW (by omega)
    rw [qdG (by omega)] at he
    generalize t.l[i]'(by omega)=a at hg he
    have CF:=Rt.dM (cZ hg)
    have mI:(dT a.rx&&gw (Rt.bU (t.l.drop (i+1))))=gw (Rt.bU t.l):=he
    have J2:t.P w1:=H.getD 0
    refine regex_proper.ko _ _ _ _ _ (aQ (decide_eq_true (by omega)) ⟨by omega,by omega,?_⟩)
    refine Rt.at' J2.parts.1 hg λp hp c=>⟨_,_,_,_,c.c0,c.c1,c.c2,c.c3,H.bJ λb4 w2 H2=>H2.aK λw3 H3=>H3.aJ (ih a w3 (by omega) ((show t.P w3 from H3.getD 0).parts.2.get hg)) ?_⟩
    rintro _ w4 rfl H4
    refine ⟨_,rfl,eQ (λhf=>⟨?_,H4.fr⟩) (λht=>?_)⟩
    .rw [hb,<-mI,hf];rfl
    .rw [aY _ (by omega)]
     rw [ht,Bool.true_and] at mI
     exact pT (i+1) w4 (by omega) mI (H4.take 0)
  have er:=Rt.dC t
  have nz:∀x:UInt8,(((x.toNat:Nat):Int) !=0)=(x !=0):=λx=>by
   by_cases hx:x=0
   .subst hx;rfl
   .have h1:(x !=0)=true:=by simpa using hx
    rw [h1]
    have:x.toNat≠0:=λh0=>hx (UInt8.toNat_inj.1 (by simpa using h0))
    simp
    omega
  refine regex_proper.cV _ _ _ _ w _ ((za pt).bJ λb1 w1 H1=>?_)
  have out:∀b:Bool,dT t.rx=b->(Ending.returned (.bool b)=.returned (.bool (dT t.rx))/\bI w w1):=λb hb=>⟨by rw [hb],H1.fr⟩
  have s4:dT t.rx=gw (Rt.bU t.l)->regex_proper.ox b1 t.k t.lo.toNat t.hi.toNat t.s w1 λr w'=>r=.returned (.bool (dT t.rx))/\bI w w':=λhb=>loop true (by rw [hb];rfl) rfl t.l.length 0 w1 (by omega) (by simp) (H1.take 0)
  have s1:(t.k !=2&&(t.lo !=0||t.hi !=0))=false->regex_proper.fY b1 t.k t.lo.toNat t.hi.toNat t.s w1 λr w'=>r=.returned (.bool (dT t.rx))/\bI w w':=by
   intro h0
   have eg:dT t.rx=(if t.k=0\/t.k=1 then (Rt.bU t.l).isEmpty else if t.k=2 then (Rt.bU t.l).isEmpty&&decide (t.lo.toNat<=t.hi.toNat) else if t.k=3\/t.k=4\/t.k=5 then gw (Rt.bU t.l) else if t.k=6\/t.k=7 then (Rt.bU t.l).length==1&&gw (Rt.bU t.l) else false):=by
    rw [er]
    unfold dT
    rw [h0];rfl
   have s2:t.k=0\/t.k=1->regex_proper.eY b1 t.k t.lo.toNat t.hi.toNat t.s w1 λr w'=>r=.returned (.bool (dT t.rx))/\bI w w':=λhk=>out _ (by rw [eg,if_pos hk,B1,nr])
   have s7:t.k=6\/t.k=7->regex_proper.CS b1 t.k t.lo.toNat t.hi.toNat t.s w1 λr w'=>r=.returned (.bool (dT t.rx))/\bI w w':=λhk=>by
    have e7:dT t.rx=((Rt.bU t.l).length==1&&gw (Rt.bU t.l)):=by rw [eg,if_neg (by omega),if_neg (by omega),if_neg (by omega),if_pos hk]
    have el:(Rt.bU t.l).length=t.s.n:=by rw [Rt.eW];simp [nr]
    refine eB (λh1=>out false ?_) (λh1=>s4 ?_)
    .rw [e7,el]
     have:(t.s.n==1)=false:=by simp;omega
     rw [this];rfl
    .rw [e7,el]
     have:(t.s.n==1)=true:=by simp;omega
     rw [this];rfl
   have s6:t.k≠0->t.k≠1->t.k≠2->t.k≠3->t.k≠4->t.k≠5->regex_proper.uz b1 t.k t.lo.toNat t.hi.toNat t.s t.k w1 λr w'=>r=.returned (.bool (dT t.rx))/\bI w w':=λk0 k1 k2 k3 k4 k5=>
    aH (λhk=>aQ (by simp [hk]) (s7 (.inl hk))) (λk6=>aH (λhk=>s7 (.inr hk)) (λk7=>out false (by rw [eg,if_neg (by omega),if_neg (by omega),if_neg (by omega),if_neg (by omega)])))
   have e4:t.k=3\/t.k=4\/t.k=5->dT t.rx=gw (Rt.bU t.l):=λhk=>by rw [eg,if_neg (by omega),if_neg (by omega),if_pos hk]
   have s3:t.k≠0->t.k≠1->regex_proper.gO b1 t.k t.lo.toNat t.hi.toNat t.s t.k w1 λr w'=>r=.returned (.bool (dT t.rx))/\bI w w':=λk0 k1=>
    aH (λhk=>by
     have e2:dT t.rx=((Rt.bU t.l).isEmpty&&decide (t.lo.toNat<=t.hi.toNat)):=by rw [eg,if_neg (by omega),if_pos hk]
     refine aZ (λhn=>out _ ?_) (λhn=>out false ?_)
     .rw [e2,B1,<-nr,hn,Bool.true_and]
      exact decide_eq_decide.2 (by omega)
     .rw [e2,B1,<-nr,hn];rfl)
    (λk2=>aH (λhk=>aQ (by simp [hk]) (s4 (e4 (.inl hk)))) (λk3=>aH (λhk=>aQ (by simp [hk]) (s4 (e4 (.inr (.inl hk))))) (λk4=>aH (λhk=>s4 (e4 (.inr (.inr hk)))) (λk5=>s6 k0 k1 k2 k3 k4 k5))))
   exact aH (λhk=>aQ (by simp [hk]) (s2 (.inl hk))) (λk0=>aH (λhk=>s2 (.inr hk)) (λk1=>s3 k0 k1))
  have bad:(t.k !=2&&(t.lo !=0||t.hi !=0))=true->dT t.rx=false:=λhb=>by
   rw [er]
   unfold dT
   rw [hb];rfl
  refine aZ (λh2=>aZ (λrT=>out false (bad ?_)) (λrT=>aZ (λO2=>out false (bad ?_)) (λO2=>s1 ?_))) (λh2=>s1 ?_)
  .rw [h2,<-nz,rT];rfl
  .rw [h2,<-nz t.hi,O2];simp
  .rw [<-nz,<-nz,rT,O2];simp
  .rw [h2];rfl
def mP (x:Rx):Int:=if 64<x.sz then 4 else if dT x then 0 else 1
theorem Hw (t:Rt) (w:World) (h:t.sz<=1000000) (pt:t.P w):Calls Tryz.prog n7 #[t.v] w λr w'=>r=.returned (.int .i64 (mP t.rx))/\bI w w':=by
 refine regex_Valid.cV _ _ _ _ w _ ((za pt).bJ λb1 w1 H1=>H1.aJ (tU t w1 h (H1.getD 0)) ?_)
 rintro _ w2 rfl H2
 refine ⟨_,rfl,aM (λhl=>⟨?_,H2.fr⟩) (λhl=>H2.aJ (AR 1000000 (Nat.le_refl _) t w2 h (H2.getD 0)) ?_)⟩
 .unfold mP;rw [Rt.g9,if_pos hl]
 rintro _ w3 rfl H3
 refine ⟨_,rfl,eQ (λhg=>⟨?_,H3.fr⟩) (λhg=>⟨?_,H3.fr⟩)⟩
 .unfold mP;rw [Rt.g9,if_neg hl,hg];rfl
 .unfold mP;rw [Rt.g9,if_neg hl,hg];rfl
abbrev Ye (n:Nat):Prop:=∀(t:Rt) (w:World),t.sz<=n->t.P w->Calls Tryz.prog mi #[t.v] w λr w'=>oA w t.rx r w'/\bI w w'
theorem Dn:∀n:Nat,n<=1000000->Ye n
 |0,_=>λt w h _=>absurd h (by have:=Rt.oP t;omega)
 |n+1,hn=>λt w h pt=>by
  have ih:=Dn n (by omega)
  have hs:=Rt.gm t
  have hl:=Rt.eZ t.l
  have nr:=Rt.cC pt.parts.1
  have loop:∀(d i:Nat) (ks:List Rt) (sl:Sl) (b1 b2:Nat) (w1:World),i+d=t.l.length->ks.length=i->Rt.bU ks=Rt.bU (t.l.take i)->(∀b∈Rt.gK ks,w.heap.size<=b)->LH F0 w w1 [.g b1,.g b2,.row aB 4 sl (ks.flatMap Rt.c)] [.tree t,.trees ks]->
    regex_clone.eH b1 t.k t.lo.toNat t.hi.toNat t.s b2 0 0 0 ⟨none,0,0⟩ sl t.s ((t.s.n:Nat):Int) (i:Int) w1 λr w'=>oA w t.rx r w'/\bI w w':=by
   intro d
   induction d with
   |zero=>
    intro i ks sl b1 b2 w1 hi hk he hf H
    refine regex_clone.bA _ _ _ _ _ _ _ _ _ _ _ _ _ _ _ _ (aL (decide_eq_false (by omega)) (H.aK λw2 H2=>⟨⟨.mk t.k t.lo t.hi sl ks,rfl,?_,?_,λb hb=>?_⟩,H2.fr⟩))
    .rw [Rt.dC t]
     unfold Rt.rx
     rw [he,qtOL (by omega)]
    .unfold Rt.P
     exact ⟨aP.jh (H2.get 2),H2.getD 1⟩
    .unfold Rt.fp at hb
     rcases fW.1 hb with hb|hb
     .exact (H2.new _ (cZ (i:=2) rfl) b (fQ hb)).resolve_right id
     .exact hf b hb
   |succ d pT=>
    intro i ks sl b1 b2 w1 hi hk he hf H
    have hg:t.l[i]? =some (t.l[i]'(by omega)):=gW (by omega)
    generalize t.l[i]'(by omega)=a at hg
    have CF:=Rt.dM (cZ hg)
    have J2:t.P w1:=H.getD 0
    refine regex_clone.bA _ _ _ _ _ _ _ _ _ _ _ _ _ _ _ _ (aQ (decide_eq_true (by omega)) ⟨by omega,by omega,?_⟩)
    refine Rt.at' J2.parts.1 hg λp hp c=>⟨_,_,_,_,c.c0,c.c1,c.c2,c.c3,H.bJ λb5 w2 H2=>H2.aK λw3 H3=>H3.sh (ih a w3 (by omega) ((show t.P w3 from H3.getD 0).parts.2.get hg)) ?_⟩
    rintro _ w4 ⟨u,rfl,hu,pu,fu⟩ _ F4
    have H4:=F4.rd (.tree u) pu λb hb=>fu b (aI.1 hb)
    have wu:=Rt.cC (H4.get 2:aP _ _ _ _ _).jh
    refine ⟨_,_,_,_,rfl,H4.tR 2 yJ rfl (λs' w5 H5=>?_) (by omega)⟩
    have H6:=(H5.zv 1 2).take 3
    rw [aY _ (by omega)]
    refine pT (i+1) (ks++[u]) s' b1 b2 w5 (by omega) (by simp [hk]) ?_ ?_ ?_
    .rw [kh,he,qtO,hg,kh]
     simp [Rt.bU,hu]
    .intro b hb
     obtain ⟨t',ht,eD⟩:=Rt.bD.1 hb
     rcases fW.1 ht with ht|ht
     .exact hf b (Rt.bD.2 ⟨t',ht,eD⟩)
     .simp at ht
      rw [ht] at eD
      exact Nat.le_trans H3.fr.size (fu b eD)
    .rw [mq]
     exact H6.forget _ (by simp)
  refine regex_clone.cV _ _ _ _ w _ ((za pt).bJ λb1 w1 H1=>H1.bJ λb2 w2 H2=>?_)
  have H3:=H2.oJ aB 4
  have H4:=H3.mE (.trees []) (Fr.refl _ _) (by show Rt.Ps w2 [];unfold Rt.Ps;trivial) (λb hb=>by
   have:=aI.1 hb
   unfold Rt.gK at this
   cases this)
  exact loop t.l.length 0 [] ⟨none,0,0⟩ b1 b2 w2 (by omega) rfl rfl (λb hb=>by unfold Rt.gK at hb;cases hb) H4
theorem Ou (t:Rt) (w:World) (h:t.sz<=1000000) (pt:t.P w):Calls Tryz.prog mi #[t.v] w λr w'=>oA w t.rx r w'/\bI w w':=Dn 1000000 (Nat.le_refl _) t w h pt
def wC:Rx:=.mk 0 0 0 []
def Ej (x:Rx):Int:=if 64<x.sz then 4 else 0
def Ek (x:Rx):Rx:=if 64<x.sz then wC else x
def QQ (w:World) (x:Rx) (c:Int) (r:Ending) (w':World):Prop:=∃t:Rt,r=.returned (.tuple #[t.v,.int .i64 c])/\t.rx=x/\t.P w'/\∀b∈t.fp,w.heap.size<=b
theorem Ip (w:World):(Rt.mk 0 0 0 ⟨none,0,0⟩ []).P w:=by
 unfold Rt.P Rt.Ps
 exact ⟨jO.nil 4 w,trivial⟩
theorem RG {b:Nat} (h:b∈(Rt.mk 0 0 0 ⟨none,0,0⟩ []).fp):False:=by
 unfold Rt.fp Rt.gK at h
 simp [En.jh] at h
theorem Jj (t:Rt) (w:World) (h:t.sz<=1000000) (pt:t.P w):Calls Tryz.prog oG #[t.v] w λr w'=>QQ w (Ek t.rx) (Ej t.rx) r w'/\bI w w':=by
 refine regex_limited.cV _ _ _ _ w _ ((za pt).bJ λb1 w1 H1=>H1.bJ λb2 w2 H2=>H2.aJ (tU t w2 h (H2.getD 0)) ?_)
 rintro _ w3 rfl H3
 refine ⟨_,rfl,aM (λhl=>H3.aK λw4 H4=>⟨⟨.mk 0 0 0 ⟨none,0,0⟩ [],?_,?_,Ip _,λb hb=>(RG hb).elim⟩,H4.fr⟩) (λhl=>H3.sh (Ou t w3 h (H3.getD 0)) ?_)⟩
 .unfold Ej;rw [Rt.g9,if_pos hl];rfl
 .unfold Ek;rw [Rt.g9,if_pos hl];rfl
 rintro _ w4 ⟨u,rfl,hu,pu,fu⟩ _ F4
 have H4:=F4.rd (.tree u) pu λb hb=>fu b (aI.1 hb)
 refine ⟨_,_,_,_,rfl,H4.aK λw5 H5=>⟨⟨u,?_,?_,H5.getD 1,λb hb=>Nat.le_trans H3.fr.size (fu b hb)⟩,H5.fr⟩⟩
 .unfold Ej;rw [Rt.g9,if_neg hl]
 .unfold Ek;rw [Rt.g9,if_neg hl,hu]
theorem Bs {w:World} {g:Nat} {cur:Array Value} {t:TypeId} (hg:w.heap[g]? =some (.cells cur t (0,0))) (vs:Array Value):w.setRow g vs=w.putObj g (.cells vs t (0,0)):=by
 unfold World.setRow World.putObj
 congr 1
 apply Array.ext_getElem?
 intro i
 rw [Array.getElem?_modify,Array.getElem?_setIfInBounds]
 by_cases hi:g=i
 .subst hi
  have:=gg hg
  simp [this,(Array.getElem?_eq_some_iff.1 hg).2]
 .simp [hi]
theorem Vn (g k:Nat):(⟨g,0,none⟩:Addr).add k=⟨g,k,none⟩:=by
 unfold Addr.add
 split<;>simp_all
theorem HK {P:Program} {t ty e:TypeId} {z:Value} {sz bytes:Nat} (el:iJ P t e z sz bytes) (h1:∀u∈z.cells.toList,u.oneCell'=true) (hzs:z.cells.size=sz) {w:World} {s:Sl} {vs:List Value} (h:aP w e sz s vs) (l:Nat) (hl:l<=s.n):
  ∃w',(Builtin.clear_ #[t] ty #[.slice (if s.c=l then s.a else s.a.map (·.add (l *sz))) (s.n - l) (s.c - l)]).run P w=.ok (.tuple #[]) w'/\
   aP w' e sz ⟨if s.c=0 then s.a else s.a.map (·.add (0 *sz)),l - 0,s.c - 0⟩ (vs.take (l *sz))/\Fr (·∈bC s) w w':=by
 have hlen:=h.len
 obtain ⟨sa,sn,sc⟩:=s
 simp only at hl hlen
 have Aq:∀q:Option Addr,(if sc=0 then q else q.map (·.add (0 *sz)))=q:=λq=>by
  split
  .rfl
  .cases q with
   |none=>rfl
   |some p=>rw [Nat.zero_mul,Option.map_some,uH]
 rw [Aq,Nat.sub_zero,Nat.sub_zero]
 have VI:∀(w':World) (g:Nat) (xK:Array Value),sa=some ⟨g,0,none⟩->sn<=sc->sc<=maxLen->w'.heap[g]? =some (.cells xK e (0,0))->xK.size=sc *sz->xK.toList.take (l *sz)=vs.take (l *sz)->aP w' e sz ⟨sa,l,sc⟩ (vs.take (l *sz)):=by
  intro w' g xK ha O6 hc hg l8 ht
  subst ha
  have e1:l *sz<=sn *sz:=Nat.mul_le_mul_right _ hl
  refine ⟨by rw [qlT,hlen,Nat.min_eq_left e1],.inr ⟨g,sc,xK,rfl,Nat.zero_le _,hg,by show l<=sc;omega,hc,l8,ht⟩⟩
 rcases h.cases with ⟨hs,rfl⟩|⟨g,cur,ha,hg,Jy,h2,h3,h4⟩
 .cases hs
  have:l=0:=by omega
  subst this
  refine ⟨w,?_,?_,Fr.refl _ _⟩
  .simp [Builtin.clear_,run_underlying el.ht]
  .simpa using aP.nil w e sz
 .simp only at ha Jy h2 h3 h4
  subst ha
  have e1:l *sz<=sn *sz:=Nat.mul_le_mul_right _ hl
  have e2:sn *sz<=sc *sz:=Nat.mul_le_mul_right _ Jy
  have ht0:cur.toList.take (l *sz)=vs.take (l *sz):=by rw [<-h4,List.take_take,Nat.min_eq_left e1]
  by_cases hn:sn - l=0
  .refine ⟨w,?_,VI w g cur rfl Jy h2 hg h3 ht0,Fr.refl _ _⟩
   rw [hn]
   by_cases HY:sc=l
   .simp [Builtin.clear_,run_underlying el.ht,HY]
   .simp [Builtin.clear_,run_underlying el.ht,HY]
  .have HY:sc≠l:=by omega
   obtain ⟨inf,hi,hz,l8,HX⟩:=info_parts el.hi
   have hzv:(zeroValue e).run P w=.ok z w:=by simp [zeroValue,typeInfo,hi,hz]
   have hlz:(Builtin.zeroCells z.cells (sn - l)).toList.length=(sn - l) *sz:=by simp [Builtin.zeroCells,hzs]
   have Cc:∀v∈(Builtin.zeroCells z.cells (sn - l)).toList,v.oneCell'=true:=by
    intro v hv
    unfold Builtin.zeroCells at hv
    rw [Array.toList_map,oT] at hv
    obtain ⟨j,hj,rfl⟩:=hv
    by_cases h0:0<z.cells.size
    .have l6:j%z.cells.size<z.cells.size:=Nat.mod_lt _ h0
     rw [getElem!_pos z.cells _ l6]
     exact h1 _ (by simp)
    .have h00:z.cells.size=0:=by omega
     simp [h00] at hj
   have hle:(sn - l) *sz=sn *sz - l *sz:=Nat.sub_mul _ _ _
   have rh:l *sz+0+(Builtin.zeroCells z.cells (sn - l)).toList.length<=cur.size:=by
    rw [hlz,h3]
    omega
   have lI:=run_storeCells_at (P:=P) g (l *sz) e (Builtin.zeroCells z.cells (sn - l)).toList 0 cur w hg rh Cc
   refine ⟨_,?_,VI _ g (cur.toList.take (l *sz+0)++(Builtin.zeroCells z.cells (sn - l)).toList++cur.toList.drop (l *sz+0+(Builtin.zeroCells z.cells (sn - l)).toList.length)).toArray rfl Jy h2 (setRow_heap w g cur _ e _ hg) ?_ ?_,?_⟩
   .obtain ⟨m,hm⟩:∃m,sn - l=m+1:=⟨sn - l - 1,by omega⟩
    have Y8:(⟨g,0,none⟩:Addr).add (l *sz)=⟨g,l *sz,none⟩:=Vn g (l *sz)
    rw [hm] at lI ⊢
    simp [Builtin.clear_,run_underlying el.ht,HY,Y8,hzv,lI]
   .simp only [List.size_toArray,qlA,qlT,List.length_drop,hlz,Array.length_toList,h3]
    generalize (sn - l) *sz=x at *
    generalize sn *sz=y at *
    generalize sc *sz=u at *
    generalize l *sz=v at *
    omega
   .simp only [qaA,Nat.add_zero]
    rw [List.take_append_of_le_length (by
     rw [qlT,Array.length_toList,h3]
     exact Nat.le_min.2 ⟨Nat.le_refl _,Nat.le_trans e1 e2⟩),List.take_take,Nat.min_self]
    exact ht0
   .rw [Bs hg]
    exact (Fr.put w g _).mono λx _ e=>by simp [bC,e]
theorem Sw:∀u∈(Value.agg #[.int .i64 0,.int .u8 0,.int .u8 0,.slice none 0 0]).cells.toList,u.oneCell'=true:=by
 intro u hu
 simp only [Value.cells,cU,qnM,or_false] at hu
 rcases hu with rfl|rfl|rfl|rfl<;>rfl
theorem Jv {l:List Rt} {k:Nat} {t:Rt} (hk:k<l.length):((((l.flatMap Rt.c).set (k *4+0) (.int .i64 t.k)).set (k *4+1) (.int .u8 (t.lo.toNat:Int))).set (k *4+2) (.int .u8 (t.hi.toNat:Int))).set (k *4+3) t.s.v=(l.set k t).flatMap Rt.c:=by
 induction l generalizing k with
 |nil=>simp at hk
 |cons a l ih=>
  cases k with
  |zero=>simp [Rt.c]
  |succ k=>
   have JE:k<l.length:=by simpa using hk
   have e:∀j,(k+1) *4+j=(k *4+j)+4:=λj=>by omega
   rw [e 0,e 1,e 2,e 3,qfC,List.set_cons_succ,qfC,<-ih JE]
   simp [Rt.c]
section
variable {M:Nat->Prop} {w0 w:World} {L D:List En} {bs:List Nat}
theorem _root_.Go.W.LH.W7 (H:LH M w0 w L D) (i k:Nat) {s:Sl} {ts:List Rt} {t:Rt} {p:Addr} {K:World->Prop} (hi:L[i]? =some (.row aB 4 s (ts.flatMap Rt.c))) (hp:s.a=some p) (hk:k<ts.length)
  (hK:∀w',LH M w0 w' (L.set i (.row aB 4 s ((ts.set k t).flatMap Rt.c))) D->K w') (jf:∀b∈bs,En.g b∈L:=by simp):
  bX w (p.add (k *4)) (.int .i64 t.k) λw1=>kept bs w w1/\bX w1 ((p.add (k *4)).add 1) (.int .u8 (t.lo.toNat:Int)) λw2=>kept bs w1 w2/\bX w2 ((p.add (k *4)).add 2) (.int .u8 (t.hi.toNat:Int)) λw3=>kept bs w2 w3/\bX w3 ((p.add (k *4)).add 3) t.s.v λw4=>kept bs w3 w4/\K w4:=by
 have hlen:(ts.flatMap Rt.c).length=ts.length *4:=Rt.iL ts
 have Rk:=(oN.1 hi).1
 have Mz:∀{e:En} {b:Nat},(∀(w1:World) (b':Nat),¬e.P ({w1 with heap:=Array.replicate (b'+1) (.map #[] 0)}:World))->En.g b∈L->En.g b∈L.set i e:=by
  intro e b hM hb
  obtain ⟨j,hj⟩:=List.mem_iff_getElem?.1 hb
  by_cases xL:i=j
  .subst xL
   rw [hi] at hj
   exfalso
   have e1:En.row aB 4 s (ts.flatMap Rt.c)=En.g b:=Option.some.inj hj
   have JB:(En.g b).P ({w with heap:=Array.replicate (b+1) (.map #[] 0)}):=by show b<_;simp
   rw [<-e1] at JB
   by_cases hs:bC s=[]
   .have:s.a=none:=by unfold bC at hs;split at hs<;>simp_all
    rw [hp] at this;cases this
   .obtain ⟨x,hx⟩:=List.exists_mem_of_ne_nil _ hs
    obtain ⟨cs,f,hc⟩:=(aP.row (show aP ({w with heap:=Array.replicate (b+1) (.map #[] 0)}) aB 4 s _ from JB)).UC x hx
    rw [Array.getElem?_replicate] at hc
    split at hc<;>cases hc
  .refine cZ (i:=j) ?_
   rw [List.getElem?_set_ne xL]
   exact hj
 have wx:∀(vs:List Value) (w1:World) (b':Nat),¬(En.row aB 4 s vs).P ({w1 with heap:=Array.replicate (b'+1) (.map #[] 0)}:World):=by
  intro vs w1 b' h0
  have hx:p.block∈bC s:=by simp [bC,hp]
  obtain ⟨cs,f,hc⟩:=(aP.row (show aP ({w1 with heap:=Array.replicate (b'+1) (.map #[] 0)}) aB 4 s vs from h0)).UC _ hx
  rw [Array.getElem?_replicate] at hc
  split at hc<;>cases hc
 have g1:=H.Bv (bs:=bs) i (k *4) 0 (v:=.int .i64 t.k) (p:=p) (K:=λw1=>bX w1 ((p.add (k *4)).add 1) (.int .u8 (t.lo.toNat:Int)) λw2=>kept bs w1 w2/\bX w2 ((p.add (k *4)).add 2) (.int .u8 (t.hi.toNat:Int)) λw3=>kept bs w2 w3/\bX w3 ((p.add (k *4)).add 3) t.s.v λw4=>kept bs w3 w4/\K w4) hi hp (by rw [hlen];omega) (λw1 H1=>?_) jf
 .rw [uH] at g1
  exact g1
 refine H1.Bv (bs:=bs) i (k *4) 1 (by rw [qgSS Rk]) hp (by rw [qlS,hlen];omega) (λw2 H2=>?_) (λb hb=>Mz (wx _) (jf b hb))
 rw [List.set_set] at H2
 refine H2.Bv (bs:=bs) i (k *4) 2 (by rw [qgSS Rk]) hp (by simp only [qlS,hlen];omega) (λw3 H3=>?_) (λb hb=>Mz (wx _) (jf b hb))
 rw [List.set_set] at H3
 refine H3.Bv (bs:=bs) i (k *4) 3 (by rw [qgSS Rk]) hp (by simp only [qlS,hlen];omega) (λw4 H4=>?_) (λb hb=>Mz (wx _) (jf b hb))
 rw [List.set_set,Jv hk] at H4
 exact hK w4 H4
theorem _root_.Go.W.LH.aab (H:LH M w0 w L D) (i k:Nat) {s:Sl} {ts:List Rt} {t:Rt} {p:Addr} {K:World->Prop} (hi:L[i]? =some (.row aB 4 s (ts.flatMap Rt.c))) (hp:s.a=some p) (hk:k<ts.length)
  (hK:∀w',LH M w0 w' (L.set i (.row aB 4 s ((ts.set k t).flatMap Rt.c))) D->K w'):
  bX w (p.add (k *4)) (.int .i64 t.k) λw1=>bX w1 ((p.add (k *4)).add 1) (.int .u8 (t.lo.toNat:Int)) λw2=>bX w2 ((p.add (k *4)).add 2) (.int .u8 (t.hi.toNat:Int)) λw3=>bX w3 ((p.add (k *4)).add 3) t.s.v K:=by
 have h:=H.W7 (bs:=[]) (K:=K) i k hi hp hk hK (by simp)
 exact ⟨h.1,h.2.1,h.2.2.2.1,h.2.2.2.2.1,h.2.2.2.2.2.2.1,h.2.2.2.2.2.2.2.1,h.2.2.2.2.2.2.2.2.2.1,h.2.2.2.2.2.2.2.2.2.2.1,h.2.2.2.2.2.2.2.2.2.2.2.2⟩
end
theorem GL {w:World} {s:Sl} {l:List Rt} (h:aP w aB 4 s (l.flatMap Rt.c)) {i:Nat} {t:Rt} (hi:l[i]? =some t) {K:Addr->Prop} (hk:∀p,s.a=some p->Rt.oQ w p i t->K p):aX s.a K:=Rt.at' h.jh hi hk
section
variable {M:Nat->Prop} {w0 w:World} {L D:List En}
theorem _root_.Go.W.LH.el (H:LH M w0 w L D) (i k:Nat) {s:Sl} {ts:List Rt} {t:Rt} {X:Int} {K:Int->Int->Int->Sl->Prop} (hX:X=(k:Int)) (hg:ts[k]? =some t) (h:K t.k t.lo.toNat t.hi.toNat t.s) (hi:L[i]? =some (.row aB 4 s (ts.flatMap Rt.c)):=by rfl):
  (0:Int)<=X/\X<((s.n:Nat):Int)/\aX s.a λp=>∃a b c:Int,∃d:Sl,w.cell? ((p.add (Int.toNat X *4)).add 0)=some (.i a)/\w.cell? ((p.add (Int.toNat X *4)).add 1)=some (.int .u8 b)/\w.cell? ((p.add (Int.toNat X *4)).add 2)=some (.int .u8 c)/\w.cell? ((p.add (Int.toNat X *4)).add 3)=some d.v/\K a b c d:=by
 subst hX
 have ho:aP w aB 4 s (ts.flatMap Rt.c):=H.get i hi
 have hn:=Rt.cC ho.jh
 have hk:=(oN.1 hg).1
 exact ⟨by omega,by omega,GL ho hg λp hp c=>⟨_,_,_,_,c.c0,c.c1,c.c2,c.c3,h⟩⟩
theorem _root_.Go.W.LH.Tn (H:LH M w0 w L D) (i k:Nat) {s:Sl} {ts:List Rt} {t:Rt} {X:Int} {K:World->Prop} (hX:X=(k:Int)) (hk:k<ts.length) (hK:∀w',LH M w0 w' (L.set i (.row aB 4 s ((ts.set k t).flatMap Rt.c))) D->K w') (hi:L[i]? =some (.row aB 4 s (ts.flatMap Rt.c)):=by rfl):
  (0:Int)<=X/\X<((s.n:Nat):Int)/\aX s.a λp=>bX w (p.add (Int.toNat X *4)) (.i t.k) λw1=>bX w1 ((p.add (Int.toNat X *4)).add 1) (.int .u8 (t.lo.toNat:Int)) λw2=>bX w2 ((p.add (Int.toNat X *4)).add 2) (.int .u8 (t.hi.toNat:Int)) λw3=>bX w3 ((p.add (Int.toNat X *4)).add 3) t.s.v K:=by
 subst hX
 have ho:aP w aB 4 s (ts.flatMap Rt.c):=H.get i hi
 have hn:=Rt.cC ho.jh
 have hg:ts[k]? =some ts[k]:=gW hk
 exact ⟨by omega,by omega,GL ho hg λp hp c=>H.aab i k hi hp hk hK⟩
end
theorem yY {j:Nat} (h1:1<=j) (h2:j<=1000000000):IntKind.wrap .i64 ((j:Int) - 1)=((j - 1:Nat):Int):=by
 rw [IntWalk.i64_in _ (by omega)]
 omega
end Go.Proofs.YtcifihepfadgfaaGreatDoor
namespace Go.Proofs.YtcifihepfadgfaaGreatDoor
open List renaming mem_append->fW,mem_cons->cU,not_mem_nil->qnM,mem_of_getElem?->cZ,getElem?_eq_getElem->gW,getElem?_eq_some_iff->oN,mem_append_left->qmL,mem_append_right->qmR,mem_flatMap->mY,mem_map->oT,length_append->qlA,append_assoc->qaA,length_take->qlT,flatMap_append->qfA,flatMap_cons->qfC,mem_cons_of_mem->qmCM,mem_cons_self->qmCS,length_set->qlS,take_append_drop->qtAD,drop_eq_getElem_cons->qdG,append_nil->qaN,take_add_one->qtO,map_cons->qmpC,drop_drop->qdD,getElem?_drop->qgD,getElem?_set_self->qgSS,drop_of_length_le->qdO,take_of_length_le->qtOL,length_reverse->qlRv
open Go Go.W
abbrev rR (b:Nat) (u:Rt):En:=.c b u.c aB
theorem lhU {w:World} {k u:Rt} {b:Nat} (pk:k.P w) (pu:u.P w) (hb:w.heap[b]? =some (.cells u.c.toArray aB (0,0))):LH F0 w w [] [.tree k,.tree u,rR b u]:=mu _ (by
 intro e he
 simp only [cU,qnM,or_false] at he
 rcases he with rfl|rfl|rfl
 .exact pk
 .exact pu
 .exact hb)
theorem Hy (k u:Rt) (b:Nat) (w:World) (h:k.sz<=1000000) (pk:k.P w) (pu:u.P w) (hb:w.heap[b]? =some (.cells u.c.toArray aB (0,0))):Calls Tryz.prog gk #[k.v,.pointer (some (bF b))] w λr w'=>r=.returned (.bool (cQ k.rx u.rx==0))/\bI w w':=by
 refine regex_flat_1.cV _ _ _ _ _ w _ ((lhU pk pu hb).bJ λb2 w1 H1=>⟨_,_,_,u.s,H1.tG 2 0,H1.tG 2 1,H1.tG 2 2,H1.tG 2 3,H1.aJ (uN k u w1 h (H1.getD 0) (H1.getD 1)) ?_⟩)
 rintro _ w2 rfl H2
 exact ⟨_,rfl,rfl,H2.fr⟩
theorem FR (k u:Rt) (b:Nat) (w:World) (h:k.sz<=1000000) (pk:k.P w) (pu:u.P w) (hb:w.heap[b]? =some (.cells u.c.toArray aB (0,0))):Calls Tryz.prog jq #[k.v,.pointer (some (bF b))] w λr w'=>r=.returned (.bool (cQ k.rx u.rx==0))/\bI w w':=by
 refine regex_forms_2_1_1.cV _ _ _ _ _ w _ ((lhU pk pu hb).bJ λb2 w1 H1=>⟨_,_,_,u.s,H1.tG 2 0,H1.tG 2 1,H1.tG 2 2,H1.tG 2 3,H1.aJ (uN k u w1 h (H1.getD 0) (H1.getD 1)) ?_⟩)
 rintro _ w2 rfl H2
 exact ⟨_,rfl,rfl,H2.fr⟩
theorem Lj (k:Rt) (w:World) (pk:k.P w):Calls Tryz.prog kq #[k.v] w λr w'=>r=.returned k.v/\bI w w':=by
 refine regex_forms_1.cV _ _ _ _ w _ ((za pk).bJ λb1 w1 H1=>H1.bJ λb2 w2 H2=>H2.aK λw3 H3=>⟨rfl,H3.fr⟩)
def xN (q:Rt->Bool):List Rt->Nat->Int
 |[],_=>-1
 |a::l,i=>if q a then (i:Int) else xN q l (i+1)
theorem Ec (q:Rt->Bool):∀(l:List Rt) (i:Nat),decide (xN q l i>=0)=l.any q
 |[],i=>rfl
 |a::l,i=>by
  unfold xN
  rw [List.any_cons]
  cases hq:q a with
  |true=>simp
  |false=>simpa using Ec q l (i+1)
theorem wZ (s:Sl) (l:List Rt) (f:Fv) (q:Rt->Bool) (D:List En) (w:World) (hl:l.length<=1000000) (hr:jO 4 w s (l.flatMap Rt.c)) (hD:∀e∈D,e.P w) (hc:fC Tryz.prog f.n=true)
  (hf:∀w' t,t∈l->LH F0 w w' [] (Rt.row s l::D)->Calls Tryz.prog f.n (f.bs++#[t.v]++f.cs) w' λr tq=>r=.returned (.bool (q t))/\bI w' tq):
  Calls Tryz.prog cK #[s.v,f.v] w λr w'=>r=.returned (.int .i64 (xN q l 0))/\bI w w':=by
 have nr:=Rt.cC hr
 have loop:∀(d i:Nat) (w1:World),i+d=l.length->xN q (l.drop i) i=xN q l 0->LH F0 w w1 [] (Rt.row s l::D)->slices_IndexFunc_sl_regex_Regex_regex_Regex.L0 s f ((s.n:Nat):Int) (i:Int) w1 λr w'=>r=.returned (.int .i64 (xN q l 0))/\bI w w':=by
  intro d
  induction d with
  |zero=>
   intro i w1 hi he H
   rw [qdO (by omega)] at he
   exact slices_IndexFunc_sl_regex_Regex_regex_Regex.cF _ _ _ _ _ _ (aL (decide_eq_false (by omega)) ⟨by rw [<-he];rfl,H.fr⟩)
  |succ d pT=>
   intro i w1 hi he H
   have hg:l[i]? =some (l[i]'(by omega)):=gW (by omega)
   rw [qdG (by omega:i<l.length)] at he
   generalize l[i]'(by omega)=x at hg he
   refine slices_IndexFunc_sl_regex_Regex_regex_Regex.cF _ _ _ _ _ _ (aQ (decide_eq_true (by omega)) ⟨by omega,by omega,Rt.at' (H.getD 0) hg λp hp c=>⟨x.k,x.lo.toNat,x.hi.toNat,x.s,c.c0,c.c1,c.c2,c.c3,?_⟩⟩)
   rw [hc]
   refine (show hG true _ from ?_)
   refine H.call (hf w1 x (cZ hg) H) ?_
   rintro _ w2 rfl H2
   have he:(if q x then (i:Int) else xN q (l.drop (i+1)) (i+1))=xN q l 0:=he
   refine ⟨_,rfl,aZ (λhq=>⟨?_,H2.fr⟩) (λhq=>?_)⟩
   .rw [if_pos hq] at he
    rw [he]
   .rw [if_neg (by rw [hq];simp)] at he
    rw [aY _ (by omega)]
    exact pT (i+1) w2 (by omega) he H2
 refine slices_IndexFunc_sl_regex_Regex_regex_Regex.ok _ _ w _ (loop l.length 0 w (by omega) (by simp) (mu _ (λe he=>?_)))
 rcases cU.1 he with rfl|he
 .exact hr
 .exact hD e he
theorem yu (s:Sl) (l:List Rt) (f:Fv) (q:Rt->Bool) (D:List En) (w:World) (hl:l.length<=1000000) (hr:jO 4 w s (l.flatMap Rt.c)) (hD:∀e∈D,e.P w) (hc:fC Tryz.prog f.n=true)
  (hf:∀w' t,t∈l->LH F0 w w' [] (Rt.row s l::D)->Calls Tryz.prog f.n (f.bs++#[t.v]++f.cs) w' λr tq=>r=.returned (.bool (q t))/\bI w' tq):
  Calls Tryz.prog cW #[s.v,f.v] w λr w'=>r=.returned (.bool (l.any q))/\bI w w':=by
 refine slices_ContainsFunc_sl_regex_Regex_regex_Regex.ok _ _ w _ ((wZ s l f q D w hl hr hD hc hf).mono ?_)
 rintro _ w1 ⟨rfl,f1⟩
 refine ⟨_,rfl,?_,f1⟩
 rw [Ec]
theorem A9 (q:Rt->Bool):∀(l:List Rt) (k:Nat),(xN q l k=-1/\∀t∈l,q t=false)\/∃m a,l[m]? =some a/\q a=true/\xN q l k=((k+m:Nat):Int)/\∀t∈l.take m,q t=false
 |[],k=>.inl ⟨rfl,by simp⟩
 |a::l,k=>by
  unfold xN
  cases hq:q a with
  |true=>exact .inr ⟨0,a,rfl,hq,by simp,by simp⟩
  |false=>
   rcases A9 q l (k+1) with ⟨h1,h2⟩|⟨m,x,h1,h2,h3,h4⟩
   .exact .inl ⟨by simpa using h1,by simpa [hq] using h2⟩
   .refine .inr ⟨m+1,x,by simpa using h1,h2,?_,?_⟩
    .simp only [h3,Bool.false_eq_true,if_false]
     omega
    .simp only [List.take_succ_cons,cU,forall_eq_or_imp]
     exact ⟨hq,h4⟩
section
variable {M:Nat->Prop} {w0 w:World} {L D:List En} {bs:List Nat}
theorem _root_.Go.W.LH.Lu (H:LH M w0 w L D) (i:Nat) {P:Program} {g:FuncId} {args:Array Value} {A K:aD} {e:TypeId} {sz:Nat} {s:Sl} {xs:List Value} (hi:L[i]? =some (.row e sz s xs))
  (hc:Calls P g args w λr w'=>A r w'/\Fr (·∈bC s) w w') (hk:∀r w',A r w'->(∀e':En,e'.P w'->(∀b∈e'.fp,b∈bC s\/w.heap.size<=b)->LH M w0 w' (L.set i e') D)->K r w') (jf:∀b∈bs,En.g b∈L:=by simp):fV bs P g args w K:=
 ⟨(·∈bC s),λb hb=>H.vd hi (jf b hb),hc.mono λr w' ⟨ha,f⟩=>⟨f,hk r w' ha λe' he hf=>H.CZ i e' hi f he hf⟩⟩
theorem _root_.Go.W.LH.off (H:LH M w0 w L D) (i j:Nat) {e:TypeId} {sz:Nat} {s:Sl} {xs:List Value} {d:En} (hi:L[i]? =some (.row e sz s xs):=by rfl) (hj:D[j]? =some d:=by rfl):∀x∈bC s,x∉d.fp:=λx hx hd=>
 H.dj d (cZ hj) x hd _ (cZ hi) hx
end
def KY (s:Sl) (l:List Rt) (r:Ending) (w w':World):Prop:=∃s':Sl,r=.returned s'.v/\aP w' aB 4 s' (l.flatMap Rt.c)/\∀x∈bC s',x∈bC s
theorem Z5 {w:World} {s:Sl} {l:List Rt} (D:List En) (ho:aP w aB 4 s (l.flatMap Rt.c)) (h:∀e∈D,e.P w/\∀x∈bC s,x∉e.fp):LH (·∈bC s) w w [.row aB 4 s (l.flatMap Rt.c)] D:=
 LH.zD _ _ (by
  intro e he
  simp only [cU,qnM,or_false] at he
  subst he
  exact ⟨ho,λb hb=>hb⟩) (by
  simp only [qfC,List.flatMap_nil,qaN]
  exact (En.row aB 4 s (l.flatMap Rt.c)).nd) (λe he=>⟨(h e he).1,λb hb e' mI=>by
  simp only [cU,qnM,or_false] at mI
  subst mI
  exact λhx=>(h e he).2 b hx hb⟩)
theorem tL {α:Type} {l:List α} {i:Nat} {a:α} (h:i<l.length):(l.set i a).take (i+1)=l.take i++[a]:=by
 rw [qtO,qgSS h,List.take_set_of_le (Nat.le_refl _)]
 rfl
theorem BR (s:Sl) (l:List Rt) (u:Rt) (b:Nat) (w:World) (hl:Rt.fK l<=1000000) (ho:aP w aB 4 s (l.flatMap Rt.c)) (pl:Rt.Ps w l) (pu:u.P w) (hb:w.heap[b]? =some (.cells u.c.toArray aB (0,0)))
  (hd:∀x∈bC s,x∉Rt.gK l/\x∉u.fp/\x≠b):
  Calls Tryz.prog dF #[s.v,.func (.func gk) #[] #[.pointer (some (bF b))]] w λr w'=>KY s (l.filter λt=>!(cQ t.rx u.rx==0)) r w w'/\Fr (·∈bC s) w w':=by
 have nr:=Rt.cC ho.jh
 have ll:=Rt.eZ l
 have kt:∀t∈l,t.sz<=1000000:=λt ht=>Nat.le_trans (Rt.dM ht) hl
 have H:LH (·∈bC s) w w [.row aB 4 s (l.flatMap Rt.c)] [.trees l,.tree u,rR b u]:=Z5 _ ho (by
  intro e he
  simp only [cU,qnM,or_false] at he
  rcases he with rfl|rfl|rfl
  .exact ⟨pl,λx hx hm=>(hd x hx).1 (aI.1 hm)⟩
  .exact ⟨pu,λx hx hm=>(hd x hx).2.1 (aI.1 hm)⟩
  .exact ⟨hb,λx hx hm=>(hd x hx).2.2 (by simpa [rR,En.c,En.ob] using hm)⟩)
 have loop:∀(d i j:Nat) (cur:List Rt) (w1:World),j+d=l.length->i<j->cur.length=l.length->cur.drop j=l.drop j->cur.take i=(l.take j).filter (λt=>!(cQ t.rx u.rx==0))->LH (·∈bC s) w w1 [.row aB 4 s (cur.flatMap Rt.c)] [.trees l,.tree u,rR b u]->
   slices_DeleteFunc_sl_regex_Regex_regex_Regex.eH s (bF b) (i:Int) (j:Int) w1 λr w'=>KY s (l.filter λt=>!(cQ t.rx u.rx==0)) r w w'/\Fr (·∈bC s) w w':=by
  intro d
  induction d with
  |zero=>
   intro i j cur w1 hj xL hc CT N2 H1
   refine slices_DeleteFunc_sl_regex_Regex_regex_Regex.bA _ _ _ _ _ _ (aL (decide_eq_false (by omega)) ⟨by omega,by omega,?_⟩)
   have TD:=(H1.get 0:aP _ _ _ _ _).cap
   obtain ⟨w2,h1,h2,h3⟩:=HK (ty:=Km) yJ Sw rfl (H1.get 0) i (by omega)
   refine ⟨w2,h1,by omega,by omega,⟨⟨if s.c=0 then s.a else s.a.map (·.add (0 *4)),i - 0,s.c - 0⟩,rfl,?_,λx hx=>?_⟩,H1.fr.trans h3 λx _ h=>h⟩
   .have e:(cur.flatMap Rt.c).take (i *4)=(l.filter λt=>!(cQ t.rx u.rx==0)).flatMap Rt.c:=by
     have e1:(cur.flatMap Rt.c).take (i *4)=(cur.take i).flatMap Rt.c:=by
      have:=Rt.iL (cur.take i)
      conv=>lhs;rw [<-qtAD i cur,qfA]
      rw [List.take_append_of_le_length (by rw [this,qlT];omega),qtOL (by rw [this,qlT];omega)]
     rw [e1,N2,qtOL (by omega)]
    rw [<-e]
    exact h2
   .simp only [bC] at hx ⊢
    split at hx
    .rename_i p hp
     split at hp
     .rw [hp];exact hx
     .cases Aq:s.a with
      |none=>rw [Aq] at hp;cases hp
      |some q=>
       rw [Aq] at hp
       simp only [Option.map_some,Option.some.injEq] at hp
       subst hp
       rw [gF] at hx
       exact hx
    .cases hx
  |succ d pT=>
   intro i j cur w1 hj xL hc CT N2 H1
   have hg:l[j]? =some (l[j]'(by omega)):=gW (by omega)
   generalize U6:l[j]'(by omega)=a at hg
   have XH:cur[j]? =some a:=by
    have:(cur.drop j)[0]? =(l.drop j)[0]?:=by rw [CT]
    simpa [qgD,hg] using this
   have ha:=cZ hg
   have Ro:l.take (j+1)=l.take j++[a]:=by rw [qtO,hg];rfl
   refine slices_DeleteFunc_sl_regex_Regex_regex_Regex.bA _ _ _ _ _ _ (aQ (decide_eq_true (by omega)) ⟨by omega,by omega,GL (H1.get 0) XH λp hp c=>⟨a.k,a.lo.toNat,a.hi.toNat,a.s,c.c0,c.c1,c.c2,c.c3,?_⟩⟩)
   refine H1.bJ (λb7 w2 H2=>H2.aK λw3 H3=>?_)
   refine H3.aJ (Hy a u b w3 (kt a ha) ((show Rt.Ps w3 l from H3.getD 0).mem ha) (H3.getD 1) (H3.getD 2)) ?_
   rintro _ w4 rfl H4
   refine ⟨_,rfl,eQ (λhf=>⟨by omega,by omega,?_⟩) (λht=>?_)⟩
   .rw [hp]
    refine (show aX (some p) _ from ?_)
    refine H4.W7 0 i (t:=a) (ts:=cur) rfl hp (by omega) (λw5 H5=>?_)
    show slices_DeleteFunc_sl_regex_Regex_regex_Regex.eH _ _ _ _ _ _
    rw [aY _ (by omega),aY _ (by omega)]
    refine pT (i+1) (j+1) (cur.set i a) w5 (by omega) (by omega) (by simpa using hc) ?_ ?_ (H5.take 1)
    .rw [List.drop_set_of_lt (by omega),<-qdD,CT,qdD]
    .rw [tL (by omega),N2,Ro,List.filter_append]
     simp [hf]
   .show slices_DeleteFunc_sl_regex_Regex_regex_Regex.eH _ _ _ _ _ _
    rw [aY _ (by omega)]
    refine pT i (j+1) cur w4 (by omega) (by omega) hc ?_ ?_ (H4.take 1)
    .rw [<-qdD,CT,qdD]
    .rw [N2,Ro,List.filter_append]
     simp [ht]
 refine slices_DeleteFunc_sl_regex_Regex_regex_Regex.cV _ _ w _ ?_
 have hI:=wZ s l ⟨gk,#[],#[.pointer (some (bF b))]⟩ (λt=>cQ t.rx u.rx==0) [.trees l,.tree u,rR b u] w (by omega) ho.jh (H.rd) (by kernel_rfl) (λw' t ht H'=>Hy t u b w' (kt t ht) ((show Rt.Ps w' l from H'.getD 1).mem ht) (H'.getD 2) (H'.getD 3))
 refine H.call hI ?_
 rintro _ w1 rfl H1
 rcases A9 (λt=>cQ t.rx u.rx==0) l 0 with ⟨h1,h2⟩|⟨m,a,h1,h2,h3,h4⟩
 .refine ⟨_,rfl,aQ (by rw [h1];rfl) ⟨⟨s,rfl,?_,λx hx=>hx⟩,H1.fr⟩⟩
  rw [List.filter_eq_self.2 (λt ht=>by rw [h2 t ht];rfl)]
  exact H1.get 0
 .have hm:m<l.length:=(oN.1 h1).1
  refine ⟨_,rfl,aL (by rw [h3];exact beq_eq_false_iff_ne.2 (by omega)) ?_⟩
  rw [h3,Nat.zero_add,aY _ (by omega)]
  refine loop (l.length - (m+1)) m (m+1) l w1 (by omega) (by omega) rfl rfl ?_ H1
  rw [qtO,h1,List.filter_append,List.filter_eq_self.2 (λt ht=>by rw [h4 t ht];rfl)]
  simp only [Option.toList_some,List.filter_cons,h2]
  simp
def iI (x k:Rt):List Rt:=if k.k=x.k then k.l else [k]
def MA (u:Rt) (t:Rt):Bool:=!(cQ t.rx u.rx==0)
def kM (x u:Rt):List Rt:=(x.l.flatMap (iI x)).filter (MA u)
structure Sub (x:Rt) (l:List Rt):Prop where
 P:∀w:World,x.P w->∀t∈l,t.P w
 fp:∀t∈l,∀b∈t.fp,b∈x.fp
theorem Sub.part {x:Rt} {t:Rt} (h:t∈x.l):Sub x [t]:=⟨λw px t' ht=>by
  simp at ht;subst ht;exact px.parts.2.mem h,λt' ht b hb=>by
  simp at ht;subst ht;exact Rt.eJ.2 (.inr (Rt.bD.2 ⟨_,h,hb⟩))⟩
theorem Sub.open {x k:Rt} (h:k∈x.l):Sub x (iI x k):=by
 unfold iI
 split
 .exact ⟨λw px t ht=>((px.parts.2.mem h).parts.2).mem ht,λt ht b hb=>Rt.eJ.2 (.inr (Rt.bD.2 ⟨k,h,Rt.eJ.2 (.inr (Rt.bD.2 ⟨t,ht,hb⟩))⟩))⟩
 .exact .part h
theorem Sub.flat {x:Rt} {l:List Rt} (h:∀k∈l,k∈x.l):Sub x (l.flatMap (iI x)):=⟨λw px t ht=>by
  obtain ⟨k,hk,ht⟩:=mY.1 ht
  exact (Sub.open (h k hk)).P w px t ht,λt ht=>by
  obtain ⟨k,hk,ht⟩:=mY.1 ht
  exact (Sub.open (h k hk)).fp t ht⟩
theorem Sub.sub {x:Rt} {l m:List Rt} (h:Sub x l) (hs:∀t∈m,t∈l):Sub x m:=⟨λw px t ht=>h.P w px t (hs t ht),λt ht=>h.fp t (hs t ht)⟩
theorem Sub.Ps {x:Rt} {l:List Rt} (h:Sub x l) {w:World} (px:x.P w):Rt.Ps w l:=Rt.oq (h.P w px)
theorem Sub.gK {x:Rt} {l:List Rt} (h:Sub x l) {b:Nat} (hb:b∈Rt.gK l):b∈x.fp:=by
 obtain ⟨t,ht,hb⟩:=Rt.bD.1 hb
 exact h.fp t ht b hb
theorem Sub.kM (x u:Rt):Sub x (kM x u):=(Sub.flat (λ_ h=>h)).sub λ_ h=>(List.mem_filter.1 h).1
theorem qR (x:Rt):∀l:List Rt,Rt.fK (l.flatMap (iI x))<=Rt.fK l
 |[]=>Nat.le_refl _
 |k::l=>by
  have h1:Rt.fK (iI x k)<=k.sz:=by
   unfold iI
   split
   .rw [Rt.gm k];omega
   .simp [Rt.fK]
  rw [qfC,tm]
  have:=qR x l
  show _<=k.sz+Rt.fK l
  omega
theorem zG (q:Rt->Bool):∀l:List Rt,Rt.fK (l.filter q)<=Rt.fK l
 |[]=>Nat.le_refl _
 |k::l=>by
  have:=zG q l
  rw [List.filter_cons]
  split
  .unfold Rt.fK;omega
  .show _<=k.sz+Rt.fK l;omega
theorem Ki (x u:Rt):Rt.fK (kM x u)+1<=x.sz:=by
 have h1:=zG (MA u) (x.l.flatMap (iI x))
 have h2:=qR x x.l
 rw [Rt.gm x]
 unfold kM
 omega
def SJ (w:World) (l:List Rt) (r:Ending) (w':World):Prop:=∃s':Sl,r=.returned s'.v/\aP w' aB 4 s' (l.flatMap Rt.c)/\∀x∈bC s',w.heap.size<=x
theorem SY (x u:Rt) (w:World) (h:x.sz<=1000000) (px:x.P w) (pu:u.P w):Calls Tryz.prog rl #[x.v,u.v] w λr w'=>SJ w (kM x u) r w'/\bI w w':=by
 have hs:=Rt.gm x
 have hl:=Rt.eZ x.l
 have nr:=Rt.cC px.parts.1
 have loop:∀(d i:Nat) (acc:List Rt) (sl:Sl) (b2 bu:Nat) (w1:World),i+d=x.l.length->acc=(x.l.take i).flatMap (iI x)->LH F0 w w1 [.g b2,.c bu u.c aB,.row aB 4 sl (acc.flatMap Rt.c)] [.tree x,.tree u]->
   regex_flat.eH b2 x.k x.lo.toNat x.hi.toNat x.s (bF bu) sl x.s ((x.s.n:Nat):Int) (i:Int) w1 λr w'=>SJ w (kM x u) r w'/\bI w w':=by
  intro d
  induction d with
  |zero=>
   intro i acc sl b2 bu w1 hi ha H
   have Gm:Sub x acc:=by rw [ha];exact Sub.flat λk hk=>List.mem_of_mem_take hk
   have l8:Rt.fK acc<=Rt.fK x.l:=by
    rw [ha,qtOL (by omega)]
    exact qR x x.l
   refine regex_flat.bA _ _ _ _ _ _ _ _ _ _ _ _ (aL (decide_eq_false (by omega)) ?_)
   refine H.Lu 2 rfl (BR sl acc u bu w1 (by omega) (H.get 2) (Gm.Ps (H.getD 0)) (H.getD 1) (H.ob 1) (λy hy=>⟨λhm=>H.off 2 0 rfl rfl y hy (aI.2 (Gm.gK hm)),λhm=>H.off 2 1 rfl rfl y hy (aI.2 hm),λhm=>?_⟩)) ?_
   .exact oZ H.nd (i:=2) rfl (j:=1) rfl (by omega) y hy (by simp [En.c,En.ob,hm])
   rintro _ w2 ⟨s',rfl,ho,hb⟩ hH
   have H2:=hH (.row aB 4 s' ((acc.filter (MA u)).flatMap Rt.c)) ho λb eD=>.inl (hb b eD)
   refine ⟨s',rfl,⟨s',rfl,?_,λb eD=>(H2.new _ (cZ (i:=2) rfl) b eD).resolve_right id⟩,H2.fr⟩
   rw [ha,qtOL (by omega)] at ho
   exact ho
  |succ d pT=>
   intro i acc sl b2 bu w1 hi ha H
   have hg:x.l[i]? =some (x.l[i]'(by omega)):=gW (by omega)
   generalize x.l[i]'(by omega)=a at hg
   have hm:=cZ hg
   have J2:x.P w1:=H.getD 0
   have CF:=Rt.dM hm
   have l8:Rt.fK acc<=Rt.fK x.l:=by
    have h1:=qR x (x.l.take i)
    have h2:=qi x.l i
    rw [ha];omega
   have ZC:acc++iI x a=(x.l.take (i+1)).flatMap (iI x):=by rw [qtO,hg,qfA,ha];simp
   have uf:=Rt.cC (H.get 2:aP _ _ _ _ _).jh
   have Ib:=Rt.eZ acc
   have tail:∀(s':Sl) (w':World),LH F0 w w' [.g b2,.c bu u.c aB,.row aB 4 s' ((acc++iI x a).flatMap Rt.c)] [.tree x,.tree u]->regex_flat.fY b2 x.k x.lo.toNat x.hi.toNat x.s (bF bu) s' x.s ((x.s.n:Nat):Int) (i:Int) w' λr w'=>SJ w (kM x u) r w'/\bI w w':=by
    intro s' w' H'
    show regex_flat.eH _ _ _ _ _ _ _ _ _ _ _ _
    rw [aY _ (by omega)]
    exact pT (i+1) _ s' b2 bu w' (by omega) ZC H'
   refine regex_flat.bA _ _ _ _ _ _ _ _ _ _ _ _ (aQ (decide_eq_true (by omega)) ⟨by omega,by omega,Rt.at' J2.parts.1 hg λp hp c=>⟨_,_,_,_,c.c0,c.c1,c.c2,c.c3,?_⟩⟩)
   refine H.bJ λb7 w2 H2=>aH (λhk=>H2.aK λw3 H3=>?_) (λhk=>H2.aK λw3 H3=>?_)
   .have pa:a.P w3:=(show x.P w3 from H3.getD 0).parts.2.mem hm
    have na:=Rt.cC pa.parts.1
    have Ib:=Rt.eZ a.l
    have Aq:=Rt.gm a
    refine H3.Je 2 yJ (xs:=acc.flatMap Rt.c) (src:=a.s) (news:=a.l.flatMap Rt.c) rfl pa.parts.1 (AQ _) (by omega) (λs' w4 H4=>?_)
    refine tail s' w4 ?_
    have e:iI x a=a.l:=if_pos hk
    rw [e,qfA]
    exact H4.take 3
   .refine H3.tR 2 yJ (xs:=acc.flatMap Rt.c) rfl (λs' w4 H4=>?_) (by omega)
    refine tail s' w4 ?_
    have e:iI x a=[a]:=if_neg hk
    rw [e,mq]
    exact H4.take 3
 refine regex_flat.cV _ _ _ _ _ _ _ _ w _ ((mu [.tree x,.tree u] (by
  intro e he
  simp only [cU,qnM,or_false] at he
  rcases he with rfl|rfl
  .exact px
  .exact pu)).bJ λb2 w1 H1=>H1.nw λw2 _ H2=>?_)
 exact loop x.l.length 0 [] ⟨none,0,0⟩ b2 w1.heap.size w2 (by omega) rfl (H2.oJ aB 4)
theorem yE (a b:Int):gC b a=-gC a b:=by
 have s:∀a b:Int,(gC a b=-1/\a<b)\/(gC a b=1/\b<a)\/(gC a b=0/\a=b):=λa b=>by
  unfold gC
  split
  .exact .inl ⟨rfl,by omega⟩
  .split
   .exact .inr (.inl ⟨rfl,by omega⟩)
   .exact .inr (.inr ⟨rfl,by omega⟩)
 rcases s a b with h1|h1|h1<;>rcases s b a with h2|h2|h2<;>omega
theorem Cn (c d:Int) (l m:List Int) (h:d=-c) (hl:sN m=-sN l):sN (d::m)=-sN (c::l):=by
 show (if d≠0 then d else sN m)=-(if c≠0 then c else sN l)
 split
 .rw [if_pos (by omega)];exact h
 .rw [if_neg (by omega)];exact hl
theorem vw (c:Int):sN [c]=c:=by
 show (if c≠0 then c else 0)=c
 split<;>omega
theorem s9 (k:Int) (lo hi:UInt8) (l:List Rx) (b:Rx):cQ (.mk k lo hi l) b=sN [gC k b.k,gC lo.toNat b.lo.toNat,gC hi.toNat b.hi.toNat,cmpL l b.l]:=by
 unfold cQ
 generalize gC k b.k=c0
 generalize gC lo.toNat b.lo.toNat=c1
 generalize gC hi.toNat b.hi.toNat=c2
 generalize cmpL l b.l=c3
 simp only [sN]
 by_cases h0:c0=0
 .by_cases h1:c1=0
  .by_cases h2:c2=0
   .by_cases h3:c3=0<;>simp [h0,h1,h2,h3]
   .simp [h0,h1,h2]
  .simp [h0,h1]
 .simp [h0]
mutual
theorem qE:∀a b:Rx,cQ b a=-cQ a b
 |.mk k lo hi l,.mk k' uC vT l'=>by
  rw [s9,s9]
  exact Cn _ _ _ _ (yE _ _) (Cn _ _ _ _ (yE _ _) (Cn _ _ _ _ (yE _ _) (by rw [vw,vw];exact DC l l')))
theorem DC:∀a b:List Rx,cmpL b a=-cmpL a b
 |[],[]=>by unfold cmpL;rfl
 |[],_::_=>by unfold cmpL;rfl
 |_::_,[]=>by unfold cmpL;rfl
 |x::l,y::m=>by
  have h1:=qE x y
  have h2:=DC l m
  show (if cQ y x≠0 then cQ y x else cmpL m l)=-(if cQ x y≠0 then cQ x y else cmpL l m)
  split
  .rw [if_pos (by omega)];exact h1
  .rw [if_neg (by omega)];exact h2
end
structure SK (x y z:Int):Prop where
 le:x<=0->y<=0->z<=0
 lt:x<0->y<=0->z<0
 lt':x<=0->y<0->z<0
 eq:x=0->y=0->z=0
theorem yF (a b c:Int):SK (gC a b) (gC b c) (gC a c):=by
 have s:∀a b:Int,(gC a b=-1/\a<b)\/(gC a b=1/\b<a)\/(gC a b=0/\a=b):=λa b=>by
  unfold gC
  split
  .exact .inl ⟨rfl,by omega⟩
  .split
   .exact .inr (.inl ⟨rfl,by omega⟩)
   .exact .inr (.inr ⟨rfl,by omega⟩)
 rcases s a b with h1|h1|h1<;>rcases s b c with h2|h2|h2<;>rcases s a c with h3|h3|h3<;>constructor<;>omega
theorem CJ {x y z x' y' z':Int} (h:SK x y z) (h':SK x' y' z'):SK (if x≠0 then x else x') (if y≠0 then y else y') (if z≠0 then z else z'):=by
 obtain ⟨a1,a2,a3,a4⟩:=h
 obtain ⟨b1,b2,b3,b4⟩:=h'
 by_cases hx:x=0
 .by_cases hy:y=0
  .have hz:=a4 hx hy
   rw [if_neg (by omega),if_neg (by omega),if_neg (by omega)]
   exact ⟨b1,b2,b3,b4⟩
  .rw [if_neg (by omega:¬x≠0),if_pos hy]
   constructor
   .intro h1 h2;have:=a3 (by omega) (by omega);rw [if_pos (by omega)];omega
   .intro h1 h2;have:=a3 (by omega) (by omega);rw [if_pos (by omega)];omega
   .intro h1 h2;have:=a3 (by omega) (by omega);rw [if_pos (by omega)];omega
   .intro h1 h2;omega
 .rw [if_pos hx]
  by_cases hy:y=0
  .rw [if_neg (by omega:¬y≠0)]
   constructor
   .intro h1 h2;have:=a2 (by omega) (by omega);rw [if_pos (by omega)];omega
   .intro h1 h2;have:=a2 (by omega) (by omega);rw [if_pos (by omega)];omega
   .intro h1 h2;have:=a2 (by omega) (by omega);rw [if_pos (by omega)];omega
   .intro h1 h2;omega
  .rw [if_pos hy]
   constructor
   .intro h1 h2;have:=a2 (by omega) (by omega);rw [if_pos (by omega)];omega
   .intro h1 h2;have:=a2 (by omega) (by omega);rw [if_pos (by omega)];omega
   .intro h1 h2;have:=a2 (by omega) (by omega);rw [if_pos (by omega)];omega
   .intro h1 h2;omega
mutual
theorem uS:∀a b c:Rx,SK (cQ a b) (cQ b c) (cQ a c)
 |.mk k lo hi l,.mk k' uC vT l',.mk k2 lo2 Fu l2=>by
  rw [s9,s9,s9]
  have:=DD l l' l2
  exact CJ (yF _ _ _) (CJ (yF _ _ _) (CJ (yF _ _ _) (by
   show SK (sN [cmpL l l']) (sN [cmpL l' l2]) (sN [cmpL l l2])
   rw [vw,vw,vw]
   exact this)))
theorem DD:∀a b c:List Rx,SK (cmpL a b) (cmpL b c) (cmpL a c)
 |[],[],[]=>by unfold cmpL;constructor<;>omega
 |[],[],_::_=>by unfold cmpL;constructor<;>omega
 |[],_::_,[]=>by unfold cmpL;constructor<;>omega
 |_::_,[],[]=>by unfold cmpL;constructor<;>omega
 |_::_,[],_::_=>by
  have e1:∀(x:Rx) (l:List Rx),cmpL (x::l) []=1:=λ_ _=>rfl
  have e2:∀(x:Rx) (l:List Rx),cmpL [] (x::l)=-1:=λ_ _=>rfl
  rw [e1,e2]
  constructor<;>omega
 |[],y::m,z::n=>by
  have e2:∀(x:Rx) (l:List Rx),cmpL [] (x::l)=-1:=λ_ _=>rfl
  rw [e2,e2]
  constructor<;>omega
 |x::l,y::m,[]=>by
  have e1:∀(x:Rx) (l:List Rx),cmpL (x::l) []=1:=λ_ _=>rfl
  rw [e1,e1]
  constructor<;>omega
 |x::l,y::m,z::n=>CJ (uS x y z) (DD l m n)
end
def xO (x:Rx):List Rx->List Rx
 |[]=>[x]
 |y::p=>if cQ x y<0 then y::xO x p else x::y::p
def qh (l:List Rx):List Rx:=(l.foldl (λp x=>xO x p) []).reverse
def kI (p:Rx):List Rx->List Rx
 |[]=>[]
 |x::l=>if cQ x p==0 then kI x l else x::kI x l
def yH:List Rx->List Rx
 |[]=>[]
 |a::l=>a::kI a l
theorem wa {a b:Int} (h:gC a b=0):a=b:=by
 unfold gC at h
 split at h
 .cases h
 .split at h
  .cases h
  .omega
theorem Ey:∀{l:List Int},sN l=0->∀x∈l,x=0
 |[],_=>λx hx=>by cases hx
 |a::l,h=>by
  unfold sN at h
  split at h
  .rename_i hM;exact absurd h hM
  .rename_i he
   have he:a=0:=by simpa using he
   intro x hx
   rcases cU.1 hx with rfl|hx
   .exact he
   .exact Ey h x hx
theorem NM {a b:UInt8} (h:(a.toNat:Int)=b.toNat):a=b:=UInt8.toNat_inj.1 (by omega)
mutual
theorem cmp_eq:∀a b:Rx,cQ a b=0->a=b
 |.mk k lo hi l,.mk k' uC vT l',h=>by
  rw [s9] at h
  have h:=Ey h
  have h1:=wa (h _ (qmCS ..))
  have h2:=NM (wa (h _ (qmCM _ (qmCS ..))))
  have h3:=NM (wa (h _ (qmCM _ (qmCM _ (qmCS ..)))))
  have h4:=HF l l' (h _ (qmCM _ (qmCM _ (qmCM _ (qmCS ..)))))
  simp only [Rx.k,Rx.lo,Rx.hi] at h1 h2 h3
  rw [h1,h2,h3,h4]
theorem HF:∀l m:List Rx,cmpL l m=0->l=m
 |[],[],_=>rfl
 |[],_::_,h=>by unfold cmpL at h;cases h
 |_::_,[],h=>by unfold cmpL at h;cases h
 |a::l,b::m,h=>by
  unfold cmpL at h
  split at h
  .rename_i hM;exact absurd h hM
  .rename_i he
   rw [cmp_eq a b (by simpa using he),HF l m h]
end
theorem yG (a:Rx):cQ a a=0:=by have:=qE a a;omega
theorem qX {a b:Rx}:(cQ a b==0)=true↔a=b:=⟨λh=>cmp_eq a b (eq_of_beq h),λh=>by subst h;rw [yG];rfl⟩
theorem sm {a b:Rx}:cQ a b=0↔a=b:=⟨cmp_eq a b,λh=>by subst h;exact yG a⟩
theorem LG {a b:Rx}:(!(cQ a b==0))=true↔a≠b:=by rw [Bool.not_eq_true',<-Bool.not_eq_true,not_congr qX]
abbrev Fj (l:List Rx):Prop:=l.Pairwise λa b=>cQ a b<0
abbrev N8 (l:List Rx):Prop:=l.Pairwise λa b=>cQ a b<=0
theorem Fj.nodup {l:List Rx} (h:Fj l):l.Nodup:=List.nodup_iff_pairwise_ne.2 (h.imp λ{a b} Gl e=>by subst e;rw [yG] at Gl;omega)
theorem Fj.asc {l:List Rx} (h:Fj l):N8 l:=h.imp λ{a b} Gl=>by omega
theorem yl {l m:List Rx} (hl:N8 l) (hm:N8 m) (h:l.Perm m):l=m:=List.Perm.eq_of_pairwise (λa b _ _ h1 h2=>cmp_eq a b (by have:=qE a b;omega)) hl hm h
theorem Gy {l m:List Rx} (hl:Fj l) (hm:Fj m) (h:∀t,t∈l↔t∈m):l=m:=yl hl.asc hm.asc ((List.perm_ext_iff_of_nodup hl.nodup hm.nodup).2 h)
theorem wy (x:Rx):∀p:List Rx,(xO x p).Perm (x::p)
 |[]=>.refl _
 |y::p=>by
  unfold xO
  split
  .exact ((wy x p).cons y).trans (.swap x y p)
  .exact .refl _
theorem Bb (x:Rx):∀{p:List Rx},p.Pairwise (λa b=>cQ b a<=0)->(xO x p).Pairwise λa b=>cQ b a<=0
 |[],_=>by unfold xO;simp
 |y::p,h=>by
  have hp:=List.pairwise_cons.1 h
  unfold xO
  split
  .rename_i Wq
   refine List.pairwise_cons.2 ⟨λt ht=>?_,Bb x hp.2⟩
   rcases cU.1 ((wy x p).mem_iff.1 ht) with rfl|ht
   .omega
   .exact hp.1 t ht
  .rename_i Wq
   have hyx:cQ y x<=0:=by have:=qE x y;omega
   refine List.pairwise_cons.2 ⟨λt ht=>?_,h⟩
   rcases cU.1 ht with rfl|ht
   .exact hyx
   .exact (uS t y x).le (hp.1 t ht) hyx
theorem ur (l:List Rx):(qh l).Perm l:=by
 have:∀(l p:List Rx),(l.foldl (λp x=>xO x p) p).Perm (l++p):=by
  intro l
  induction l with
  |nil=>intro p;exact .refl _
  |cons a l ih=>
   intro p
   rw [List.foldl_cons]
   exact (ih _).trans (((wy a p).append_left l).trans List.perm_middle)
 unfold qh
 have h:=this l []
 rw [qaN] at h
 exact (List.reverse_perm _).trans h
theorem wO (l:List Rx):N8 (qh l):=by
 have:∀(l p:List Rx),p.Pairwise (λa b=>cQ b a<=0)->(l.foldl (λp x=>xO x p) p).Pairwise λa b=>cQ b a<=0:=by
  intro l
  induction l with
  |nil=>intro p h;exact h
  |cons a l ih=>intro p h;exact ih _ (Bb a h)
 unfold qh
 exact List.pairwise_reverse.2 (this l [] .nil)
theorem No {l m:List Rx} (h:N8 m) (hp:m.Perm l):m=qh l:=yl h (wO l) (hp.trans (ur l).symm)
theorem su {t:Rx}:∀{l:List Rx} {p:Rx},(t=p\/t∈kI p l)↔(t=p\/t∈l)
 |[],p=>by unfold kI;simp
 |x::l,p=>by
  unfold kI
  split
  .rename_i h
   have e:x=p:=qX.1 h
   subst e
   rw [su,cU]
   constructor
   .rintro (h|h)<;>simp [h]
   .rintro (h|h|h)<;>simp [h]
  .rw [cU,cU]
   have:=su (t:=t) (l:=l) (p:=x)
   constructor
   .rintro (h|h)
    .exact .inl h
    .exact .inr (this.1 h)
   .rintro (h|h)
    .exact .inl h
    .exact .inr (this.2 h)
theorem ss:∀{l:List Rx} {p:Rx},N8 (p::l)->Fj (p::kI p l)
 |[],p,_=>by unfold kI;simp
 |x::l,p,h=>by
  obtain ⟨h1,h2⟩:=List.pairwise_cons.1 h
  unfold kI
  split
  .rename_i hx
   have e:x=p:=qX.1 hx
   subst e
   exact ss h2
  .rename_i hx
   have l6:cQ p x<0:=by
    have h3:=h1 x (by simp)
    have h4:=qE x p
    have h5:cQ x p≠0:=λe=>hx (by rw [e];rfl)
    omega
   have hi:=ss h2
   refine List.pairwise_cons.2 ⟨λt ht=>?_,hi⟩
   rcases cU.1 ht with rfl|ht
   .exact l6
   .exact (uS p x t).lt l6 (by have:=(List.pairwise_cons.1 hi).1 t ht;omega)
theorem Jn {l:List Rx} (h:N8 l):Fj (yH l):=by
 cases l with
 |nil=>exact .nil
 |cons a l=>exact ss h
theorem Jo {t:Rx} {l:List Rx}:t∈yH l↔t∈l:=by
 cases l with
 |nil=>exact Iff.rfl
 |cons a l=>show t∈a::kI a l↔_;rw [cU,cU];exact su
def J' (l:List Rx):List Rx:=yH (qh l)
theorem EM (l:List Rx):Fj (J' l):=Jn (wO l)
theorem EN {t:Rx} {l:List Rx}:t∈J' l↔t∈l:=by unfold J';rw [Jo,(ur l).mem_iff]
def wI (r:Rx):List Rx->List Rx
 |[]=>[r]
 |y::p=>if cQ y r<0 then y::wI r p else if cQ y r=0 then y::p else r::y::p
theorem zj {t r:Rx}:∀{p:List Rx},t∈wI r p↔t=r\/t∈p
 |[]=>by unfold wI;simp
 |y::p=>by
  unfold wI
  split
  .rw [cU,zj,cU]
   constructor
   .rintro (h|h|h)<;>simp [h]
   .rintro (h|h|h)<;>simp [h]
  .split
   .rename_i he
    have e:=cmp_eq y r he
    subst e
    simp
   .simp
theorem EG {r:Rx}:∀{p:List Rx},Fj p->Fj (wI r p)
 |[],_=>by unfold wI;simp
 |y::p,h=>by
  obtain ⟨h1,h2⟩:=List.pairwise_cons.1 h
  unfold wI
  split
  .rename_i hy
   refine List.pairwise_cons.2 ⟨λt ht=>?_,EG h2⟩
   rcases zj.1 ht with rfl|ht
   .exact hy
   .exact h1 t ht
  .split
   .exact h
   .rename_i hy hM
    have hr:cQ r y<0:=by have:=qE r y;omega
    refine List.pairwise_cons.2 ⟨λt ht=>?_,h⟩
    rcases cU.1 ht with rfl|ht
    .exact hr
    .exact (uS r y t).lt hr (by have:=h1 t ht;omega)
def pV (k:Int):List Rx->List Rx->List Rx
 |out,[]=>out
 |out,t::l=>pV k (if k=3 then out++[t] else wI t out) l
theorem Ez:∀(l out:List Rx),pV 3 out l=out++l
 |[],out=>by unfold pV;simp
 |t::l,out=>by unfold pV;rw [Ez l,if_pos rfl];simp
theorem EA {k:Int} (hk:k≠3):∀(l:List Rx) {out:List Rx},Fj out->Fj (pV k out l)
 |[],_,h=>h
 |t::l,out,h=>by unfold pV;rw [if_neg hk];exact EA hk l (EG h)
theorem EB {k:Int} (hk:k≠3) {t:Rx}:∀(l:List Rx) {out:List Rx},t∈pV k out l↔t∈out\/t∈l
 |[],out=>by unfold pV;simp
 |a::l,out=>by
  unfold pV
  rw [if_neg hk,EB hk l,zj,cU]
  constructor
  .rintro ((h|h)|h)<;>simp [h]
  .rintro (h|h|h)<;>simp [h]
theorem PH (k:Int) (l:List Rx):pV k [] l=if k=3 then l else J' l:=by
 split
 .rename_i h;subst h;rw [Ez];rfl
 .rename_i h
  exact Gy (EA h l .nil) (EM l) λt=>by rw [EB h,EN];simp
def ms (μ:Rx->Nat):List Rx->Nat
 |[]=>0
 |a::l=>μ a+ms μ l
section
variable {μ:Rx->Nat}
theorem MN:∀l m:List Rx,ms μ (l++m)=ms μ l+ms μ m
 |[],m=>by simp [ms]
 |a::l,m=>by show μ a+ms μ (l++m)=μ a+ms μ l+ms μ m;rw [MN l m];omega
theorem Pw {l m:List Rx} (h:l.Perm m):ms μ l=ms μ m:=by
 induction h with
 |nil=>rfl
 |cons x _ ih=>show μ x+_=μ x+_;rw [ih]
 |swap x y l=>show μ y+(μ x+_)=μ x+(μ y+_);omega
 |trans _ _ h1 h2=>rw [h1,h2]
end
mutual
def qp:Rx->Nat|.mk _ _ _ l=>max 1 (Pq l)
def Pq:List Rx->Nat
 |[]=>0
 |a::l=>qp a+Pq l
end
theorem ML:∀l:List Rx,Pq l=ms qp l
 |[]=>rfl
 |a::l=>by unfold Pq;rw [ML l];rfl
theorem xl (k:Int) (lo hi:UInt8) (l:List Rx):qp (.mk k lo hi l)=max 1 (ms qp l):=by unfold qp;rw [ML]
mutual
def B6 (N:Nat):Rx->Prop|.mk k _ _ l=>yN N l/\(k=4\/k=5->ms qp l<=N)
def yN (N:Nat):List Rx->Prop
 |[]=>True
 |a::l=>B6 N a/\yN N l
end
mutual
theorem Ge {N:Nat}:∀x:Rx,qp x<=N->B6 N x
 |.mk k lo hi l,h=>by
  rw [xl] at h
  unfold B6
  exact ⟨HO l (by omega),λ_=>by omega⟩
theorem HO {N:Nat}:∀l:List Rx,ms qp l<=N->yN N l
 |[],_=>by unfold yN;trivial
 |a::l,h=>by
  have h:qp a+ms qp l<=N:=h
  unfold yN
  exact ⟨Ge a (by omega),HO l (by omega)⟩
end
end Go.Proofs.YtcifihepfadgfaaGreatDoor
namespace Go.Proofs.YtcifihepfadgfaaGreatDoor
open List renaming mem_append->fW,mem_cons->cU,not_mem_nil->qnM,mem_of_getElem?->cZ,getElem?_eq_getElem->gW,getElem?_eq_some_iff->oN,mem_append_left->qmL,mem_append_right->qmR,mem_flatMap->mY,mem_map->oT,length_append->qlA,append_assoc->qaA,length_take->qlT,flatMap_append->qfA,flatMap_cons->qfC,mem_cons_of_mem->qmCM,mem_cons_self->qmCS,length_set->qlS,take_append_drop->qtAD,drop_eq_getElem_cons->qdG,append_nil->qaN,take_add_one->qtO,map_cons->qmpC,drop_drop->qdD,getElem?_drop->qgD,getElem?_set_self->qgSS,drop_of_length_le->qdO,take_of_length_le->qtOL,length_reverse->qlRv
open Go Go.W
def qo (x:Rt):List Rt->List Rt
 |[]=>[x]
 |y::p=>if cQ x.rx y.rx<0 then y::qo x p else x::y::p
def jR (l:List Rt):List Rt:=(l.foldl (λp x=>qo x p) []).reverse
theorem y0 (x:Rt):∀p,(qo x p).length=p.length+1
 |[]=>rfl
 |y::p=>by
  unfold qo
  split
  .simp [y0 x p]
  .simp
theorem G8 (l:List Rt) (x:Rt):jR (l++[x])=(qo x (jR l).reverse).reverse:=by
 unfold jR
 rw [List.foldl_append,List.reverse_reverse]
 rfl
theorem Ed {x t:Rt}:∀{p:List Rt},t∈qo x p↔t=x\/t∈p
 |[]=>by unfold qo;simp
 |y::p=>by
  unfold qo
  split
  .rw [cU,Ed,cU]
   constructor
   .rintro (h|h|h)<;>simp [h]
   .rintro (h|h|h)<;>simp [h]
  .simp
theorem Kc {t:Rt} {l:List Rt}:t∈jR l↔t∈l:=by
 have:∀(l p:List Rt),t∈l.foldl (λp x=>qo x p) p↔t∈l\/t∈p:=by
  intro l
  induction l with
  |nil=>intro p;simp
  |cons a l ih=>
   intro p
   rw [List.foldl_cons,ih,Ed,cU]
   constructor
   .rintro (h|h|h)<;>simp [h]
   .rintro ((h|h)|h)<;>simp [h]
 unfold jR
 rw [List.mem_reverse,this]
 simp
theorem Bu (l:List Rt):(jR l).length=l.length:=by
 have:∀(l p:List Rt),(l.foldl (λp x=>qo x p) p).length=l.length+p.length:=by
  intro l
  induction l with
  |nil=>intro p;simp
  |cons a l ih=>
   intro p
   rw [List.foldl_cons,ih,y0,List.length_cons]
   omega
 unfold jR
 rw [qlRv,this]
 rfl
theorem My (x:Rt):∀p:List Rt,(qo x p).map Rt.rx=xO x.rx (p.map Rt.rx)
 |[]=>rfl
 |y::p=>by
  unfold qo
  rw [qmpC]
  unfold xO
  split
  .rw [qmpC,My x p]
  .rfl
theorem Qe (l:List Rt):(jR l).map Rt.rx=qh (l.map Rt.rx):=by
 have:∀(l p:List Rt),(l.foldl (λp x=>qo x p) p).map Rt.rx=(l.map Rt.rx).foldl (λp x=>xO x p) (p.map Rt.rx):=by
  intro l
  induction l with
  |nil=>intro p;rfl
  |cons a l ih=>
   intro p
   rw [List.foldl_cons,ih,My]
   rfl
 unfold jR qh
 rw [List.map_reverse,this]
 rfl
theorem Ba (x:Rt):∀p:List Rt,(qo x p).Perm (x::p)
 |[]=>.refl _
 |y::p=>by
  unfold qo
  split
  .exact ((Ba x p).cons y).trans (.swap x y p)
  .exact .refl _
theorem G7 (l:List Rt):(jR l).Perm l:=by
 have:∀(l p:List Rt),(l.foldl (λp x=>qo x p) p).Perm (l++p):=by
  intro l
  induction l with
  |nil=>intro p;exact .refl _
  |cons a l ih=>
   intro p
   rw [List.foldl_cons]
   exact (ih _).trans (((Ba a p).append_left l).trans List.perm_middle)
 unfold jR
 have h:=this l []
 rw [qaN] at h
 exact (List.reverse_perm _).trans h
theorem Kb (l:List Rt):N8 ((jR l).map Rt.rx):=by rw [Qe];exact wO _
theorem Nz {l m:List Rt} (h:l.Perm m):Rt.fK l=Rt.fK m:=by
 induction h with
 |nil=>rfl
 |cons x _ ih=>show x.sz+_=x.sz+_;rw [ih]
 |swap x y l=>show y.sz+(x.sz+_)=x.sz+(y.sz+_);omega
 |trans _ _ h1 h2=>rw [h1,h2]
theorem Qk {α:Type} (A B:List α) (y x:α) (j:Nat) (hj:j=A.length+1):((A++y::x::B).set j y).set (j - 1) x=A++x::y::B:=by
 subst hj
 rw [List.set_append_right _ _ (by omega),Nat.add_sub_cancel,List.set_append_right _ _ (by omega)]
 simp
theorem Dq (s:Sl) (l:List Rt) (w:World) (hl:Rt.fK l<=1000000) (ho:aP w aB 4 s (l.flatMap Rt.c)) (pl:Rt.Ps w l) (hd:∀x∈bC s,x∉Rt.gK l) (A X Z:List Rt) (he:l=A++X++Z) (b:Nat) (hb:b=A.length+X.length):
  Calls Tryz.prog dZ #[s.v,.i (A.length:Int),.i (b:Int),.func (.func aT) #[] #[]] w λr w'=>(r=.returned (.tuple #[])/\aP w' aB 4 s ((A++jR X++Z).flatMap Rt.c))/\Fr (·∈bC s) w w':=by
 have ll:=Rt.eZ l
 have lX:A.length+X.length+Z.length=l.length:=by rw [he];simp [Nat.add_assoc]
 have H:LH (·∈bC s) w w [.row aB 4 s (l.flatMap Rt.c)] [.trees l]:=Z5 _ ho (by
  intro e he
  simp only [cU,qnM,or_false] at he
  subst he
  exact ⟨pl,λx hx hm=>hd x hx (aI.1 hm)⟩)
 have kt:∀t∈l,t.sz<=1000000:=λt ht=>Nat.le_trans (Rt.dM ht) hl
 have mA:∀t∈X,t∈l:=λt ht=>by rw [he];simp [ht]
 let R:aD:=λr w'=>(r=.returned (.tuple #[])/\aP w' aB 4 s ((A++jR X++Z).flatMap Rt.c))/\Fr (·∈bC s) w w'
 have outer:∀(d i:Nat) (w1:World),A.length+i+d=b->LH (·∈bC s) w w1 [.row aB 4 s ((A++jR (X.take i)++(X.drop i++Z)).flatMap Rt.c)] [.trees l]->
   slices_insertionSortCmpFunc_regex_Regex.L0 s (A.length:Int) (b:Int) ((A.length+i:Nat):Int) w1 R:=by
  intro d
  induction d with
  |zero=>
   intro i w1 hi H1
   refine slices_insertionSortCmpFunc_regex_Regex.cF _ _ _ _ _ _ (aL (decide_eq_false (by omega)) ⟨⟨rfl,?_⟩,H1.fr⟩)
   have:=H1.get 0
   rw [qtOL (by omega),qdO (by omega),List.nil_append] at this
   exact this
  |succ d pT=>
   intro i w1 hi H1
   refine slices_insertionSortCmpFunc_regex_Regex.cF _ _ _ _ _ _ (aQ (decide_eq_true (by omega)) ?_)
   have hg:X[i]? =some (X[i]'(by omega)):=gW (by omega)
   have CT:=qdG (l:=X) (i:=i) (by omega)
   generalize X[i]'(by omega)=x at hg CT
   have hS:jR (X.take (i+1))=(qo x (jR (X.take i)).reverse).reverse:=by rw [qtO,hg,Option.toList_some,G8]
   have hx:x∈l:=mA x (cZ hg)
   have next:∀(w2:World),LH (·∈bC s) w w2 [.row aB 4 s ((A++jR (X.take (i+1))++(X.drop (i+1)++Z)).flatMap Rt.c)] [.trees l]->slices_insertionSortCmpFunc_regex_Regex.S2 s (A.length:Int) (b:Int) ((A.length+i:Nat):Int) w2 R:=by
    intro w2 H2
    show slices_insertionSortCmpFunc_regex_Regex.L0 _ _ _ _ _ _
    rw [aY _ (by omega)]
    exact pT (i+1) w2 (by omega) H2
   have inner:∀(p:Nat) (P Q:List Rt) (w2:World),P.length=p->(qo x P.reverse).reverse++Q=jR (X.take (i+1))->(∀t∈P,t∈l)->LH (·∈bC s) w w2 [.row aB 4 s ((A++P++x::(Q++(X.drop (i+1)++Z))).flatMap Rt.c)] [.trees l]->
     slices_insertionSortCmpFunc_regex_Regex.L1 s (A.length:Int) (b:Int) ((A.length+i:Nat):Int) ((A.length+p:Nat):Int) w2 R:=by
    intro p
    induction p with
    |zero=>
     intro P Q w2 hp hq hP H2
     have:P=[]:=List.length_eq_zero_iff.1 hp
     subst this
     refine slices_insertionSortCmpFunc_regex_Regex.nY _ _ _ _ _ _ _ (H2.dr λw3 H3=>aL (decide_eq_false (by omega)) (next w3 ?_))
     have JI:x::Q=jR (X.take (i+1)):=hq
     rw [<-JI]
     simpa using H3
    |succ p ihp=>
     intro P Q w2 hp hq hP H2
     obtain ⟨P',y,rfl⟩:∃P' y,P=P'++[y]:=⟨P.dropLast,P.getLast (λh=>by rw [h] at hp;cases hp),(List.dropLast_concat_getLast _).symm⟩
     have Ic:P'.length=p:=by simpa using hp
     have hy:y∈l:=hP y (by simp)
     have eA:A++(P'++[y])++x::(Q++(X.drop (i+1)++Z))=(A++P')++y::x::(Q++(X.drop (i+1)++Z)):=by simp
     rw [eA] at H2
     have lA:(A++P').length=A.length+p:=by simp [Ic]
     have gy:((A++P')++y::x::(Q++(X.drop (i+1)++Z)))[A.length+p]? =some y:=by rw [<-lA,List.getElem?_append_right (Nat.le_refl _)];simp
     have gx:((A++P')++y::x::(Q++(X.drop (i+1)++Z)))[A.length+(p+1)]? =some x:=by rw [<-Nat.add_assoc,<-lA,List.getElem?_append_right (Nat.le_succ _)];simp
     have hlen:((A++P')++y::x::(Q++(X.drop (i+1)++Z))).length<=1000000:=by
      have h1:=congrArg List.length hq
      rw [Bu,qlA,qlRv,y0,qlRv] at h1
      simp only [qlA,List.length_cons,qlT,List.length_drop,List.length_nil] at h1 ⊢
      omega
     have Gq:=(oN.1 gx).1
     have e1:IntKind.wrap .i64 (((A.length+(p+1):Nat):Int) - 1)=((A.length+p:Nat):Int):=by rw [yY (by omega) (by omega)];rfl
     have e2:qo x (P'++[y]).reverse=if cQ x.rx y.rx<0 then y::qo x P'.reverse else x::y::P'.reverse:=by rw [List.reverse_append];rfl
     refine slices_insertionSortCmpFunc_regex_Regex.nY _ _ _ _ _ _ _ (H2.dr λw3 H3=>aQ (decide_eq_true (by omega)) ?_)
     refine H3.el 0 (A.length+(p+1)) rfl gx (H3.el 0 (A.length+p) e1 gy ?_)
     refine H3.call (AM x y w3 (kt x hx) ((show Rt.Ps w3 l from H3.getD 0).mem hx) ((show Rt.Ps w3 l from H3.getD 0).mem hy)) ?_
     rintro _ w4 rfl H4
     refine ⟨_,rfl,aM (λhc=>H4.dr λw5 H5=>?_) (λhc=>next w4 ?_)⟩
     .refine H5.el 0 (A.length+p) e1 gy (H5.el 0 (A.length+(p+1)) rfl gx (H5.Tn 0 (A.length+(p+1)) (t:=y) rfl Gq λw6 H6=>?_))
      refine H6.Tn 0 (A.length+p) (t:=x) (ts:=((A++P')++y::x::(Q++(X.drop (i+1)++Z))).set (A.length+(p+1)) y) e1 (by rw [qlS];omega) λw7 H7=>?_
      rw [e1]
      rw [if_pos hc] at e2
      refine ihp P' (y::Q) w7 Ic ?_ (λt ht=>hP t (by simp [ht])) ?_
      .rw [<-hq,e2]
       simp
      .have e3:=Qk (A++P') (Q++(X.drop (i+1)++Z)) y x (A.length+(p+1)) (by rw [lA];rfl)
       rw [show A.length+(p+1) - 1=A.length+p by omega] at e3
       have H8:LH (·∈bC s) w w7 [.row aB 4 s (((((A++P')++y::x::(Q++(X.drop (i+1)++Z))).set (A.length+(p+1)) y).set (A.length+p) x).flatMap Rt.c)] [.trees l]:=H7
       rw [e3] at H8
       exact H8
     .rw [if_neg hc] at e2
      rw [<-hq,e2]
      simpa using H4
   have V6:(jR (X.take i)).length=i:=by rw [Bu,qlT];omega
   refine inner i (jR (X.take i)) [] w1 V6 ?_ (λt ht=>mA t (List.mem_of_mem_take (Kc.1 ht))) ?_
   .rw [qaN,hS]
   .rw [CT] at H1
    simpa using H1
 refine slices_insertionSortCmpFunc_regex_Regex.ok _ _ _ w _ ?_
 show slices_insertionSortCmpFunc_regex_Regex.L0 _ _ _ _ _ R
 rw [aY _ (by omega)]
 cases X with
 |nil=>
  refine slices_insertionSortCmpFunc_regex_Regex.cF _ _ _ _ _ _ (aL (decide_eq_false (by simp at hb;omega)) ⟨⟨rfl,?_⟩,Fr.refl _ _⟩)
  have:=H.get 0
  rw [he] at this
  exact this
 |cons a X=>
  refine outer (b - (A.length+1)) 1 w (by simp at hb;omega) ?_
  rw [show l.flatMap Rt.c=(A++jR ((a::X).take 1)++((a::X).drop 1++Z)).flatMap Rt.c from by rw [he];simp [jR,qo]] at H
  exact H
theorem Ux {t:ByteArray} {m:Nat} {K:UInt8->Prop} (h:Nat.beq t.size 256=true) (hm:m<256) (hk:∀b,K b):∃b:UInt8,t[m]? =some b/\K b:=by
 rw [Nat.beq_eq] at h
 exact ⟨t[m]'(by omega),getElem?_pos t m (by omega),hk _⟩
theorem Vu (x:Int) (w:World):Calls Tryz.prog oF #[.u x] w λr w'=>(∃t:Int,r=.returned (.i t))/\bI w w':=by
 have s2:∀(x n:Int),math_bits_Len64.S2 x n w λr w'=>(∃t:Int,r=.returned (.i t))/\bI w w':=by
  intro x n
  have h0:0<=IntKind.wrap .u8 x/\IntKind.wrap .u8 x<256:=by
   rw [IntKind.wrap_u8]
   omega
  obtain ⟨m,hm⟩:=Int.eq_ofNat_of_zero_le h0.1
  refine ⟨h0.1,?_⟩
  have l6:m<256:=by omega
  refine Ux (by kernel_rfl) (by rw [hm];exact l6) λb=>⟨⟨_,rfl⟩,Fr.refl _ _⟩
 have s1:∀(x n:Int),math_bits_Len64.S1 x n w λr w'=>(∃t:Int,r=.returned (.i t))/\bI w w':=λx n=>aM (λ_=>s2 _ _) (λ_=>s2 _ _)
 have s0:∀(x n:Int),math_bits_Len64.S0 x n w λr w'=>(∃t:Int,r=.returned (.i t))/\bI w w':=λx n=>aM (λ_=>s1 _ _) (λ_=>s1 _ _)
 refine math_bits_Len.ok _ w _ ((math_bits_Len64.ok _ w _ (aM (λ_=>s0 _ _) (λ_=>s0 _ _))).mono ?_)
 rintro _ w1 ⟨⟨t,rfl⟩,f⟩
 exact ⟨t,rfl,⟨t,rfl⟩,f⟩
def vW (n:Nat):Prop:=∀(s:Sl) (l:List Rt) (w:World),l.length<=n->Rt.fK l<=1000000->aP w aB 4 s (l.flatMap Rt.c)->Rt.Ps w l->(∀x∈bC s,x∉Rt.gK l)->
 Calls Tryz.prog dQ #[s.v,.func (.func aT) #[] #[]] w λr w'=>(∃m:List Rt,r=.returned (.tuple #[])/\m.Perm l/\N8 (m.map Rt.rx)/\aP w' aB 4 s (m.flatMap Rt.c))/\Fr (·∈bC s) w w'
def jU (p:Rt):List Rt->List Rt
 |[]=>[]
 |x::l=>if cQ x.rx p.rx==0 then jU x l else x::jU x l
def qG:List Rt->List Rt
 |[]=>[]
 |a::l=>a::jU a l
theorem DF (l:List Rt) (i:Nat):(l.flatMap Rt.c).take (i *4)=(l.take i).flatMap Rt.c:=by
 have hl:=Rt.iL (l.take i)
 by_cases h:i<=l.length
 .conv=>lhs;rw [<-qtAD i l,qfA]
  rw [List.take_append_of_le_length (by rw [hl,qlT];omega),qtOL (by rw [hl,qlT];omega)]
 .rw [qtOL (by rw [Rt.iL];omega),qtOL (l:=l) (by omega)]
theorem AW (l:List Rt) (i:Nat) (h:i<=l.length):(l.flatMap Rt.c).drop (i *4)=(l.drop i).flatMap Rt.c:=by
 have hl:=Rt.iL (l.take i)
 rw [qlT,Nat.min_eq_left h] at hl
 conv=>lhs;rw [<-qtAD i l,qfA]
 rw [List.drop_append_of_le_length (by omega),qdO (by omega),List.nil_append]
theorem OF {w:World} {s:Sl} {l m:List Rt} (ho:aP w aB 4 s (l.flatMap Rt.c)) (i:Nat) (hi:i<=l.length) (hm:l.take i=m) {K:World->Prop} {R:aD} {w0:World} (hf:Fr (·∈bC s) w0 w)
  (hR:∀r w',KY s m r w0 w'->Fr (·∈bC s) w0 w'->R r w'):
  (0:Int)<=(i:Int)/\(i:Int)<=((s.n:Nat):Int)/\∃(w7:World),Sem.run Tryz.prog (Builtin.clear_ #[aE] Km #[.slice (if s.c=(Int.toNat (i:Int)) then s.a else s.a.map (·.add ((Int.toNat (i:Int)) *4))) (s.n - (Int.toNat (i:Int))) (s.c - (Int.toNat (i:Int)))]) w=.ok (.tuple #[]) w7/\
   (0:Int)<=(i:Int)/\(i:Int)<=((s.c:Nat):Int)/\R (.returned (.slice (if s.c=0 then s.a else s.a.map (·.add (0 *4))) ((Int.toNat (i:Int)) - 0) (s.c - 0))) w7:=by
 have nr:=Rt.cC ho.jh
 have TD:=ho.cap
 obtain ⟨w2,h1,h2,h3⟩:=HK (ty:=Km) yJ Sw rfl ho i (by omega)
 refine ⟨by omega,by omega,w2,h1,by omega,by omega,hR _ _ ⟨⟨if s.c=0 then s.a else s.a.map (·.add (0 *4)),i - 0,s.c - 0⟩,rfl,?_,λx hx=>?_⟩ (hf.trans h3 λx _ h=>h)⟩
 .rw [<-hm,<-DF]
  exact h2
 .simp only [bC] at hx ⊢
  split at hx
  .rename_i p hp
   split at hp
   .rw [hp];exact hx
   .cases Aq:s.a with
    |none=>rw [Aq] at hp;cases hp
    |some q=>
     rw [Aq] at hp
     simp only [Option.map_some,Option.some.injEq] at hp
     subst hp
     rw [gF] at hx
     exact hx
  .cases hx
section
variable {M:Nat->Prop} {w0 w:World} {L D:List En}
theorem _root_.Go.W.LH.YP (H:LH M w0 w L D) (i k b:Nat) {s:Sl} {ts:List Rt} {t:Rt} {X:Int} {K:Int->Int->Int->Sl->Prop} (hX:X=(k:Int)) (hg:ts[b+k]? =some t) (h:K t.k t.lo.toNat t.hi.toNat t.s) (hi:L[i]? =some (.row aB 4 s (ts.flatMap Rt.c)):=by rfl):
  (0:Int)<=X/\X<((s.n - b:Nat):Int)/\aX (if s.c=b then s.a else s.a.map (·.add (b *4))) λp=>∃a b c:Int,∃d:Sl,w.cell? ((p.add (Int.toNat X *4)).add 0)=some (.i a)/\w.cell? ((p.add (Int.toNat X *4)).add 1)=some (.int .u8 b)/\w.cell? ((p.add (Int.toNat X *4)).add 2)=some (.int .u8 c)/\w.cell? ((p.add (Int.toNat X *4)).add 3)=some d.v/\K a b c d:=by
 subst hX
 have ho:aP w aB 4 s (ts.flatMap Rt.c):=H.get i hi
 have hn:=Rt.cC ho.jh
 have hk:=(oN.1 hg).1
 have hr:=ho.jh.sub b s.n (by omega) (Nat.le_refl _)
 rw [qtOL (by rw [Rt.iL];omega),AW _ _ (by omega)] at hr
 refine ⟨by omega,by omega,Rt.at' (s:=zF 4 s b s.n) hr (i:=k) (t:=t) (by rw [qgD];exact hg) λp hp c=>⟨_,_,_,_,c.c0,c.c1,c.c2,c.c3,h⟩⟩
end
theorem Ae (s:Sl) (l:List Rt) (w:World) (hl:Rt.fK l<=1000000) (ho:aP w aB 4 s (l.flatMap Rt.c)) (pl:Rt.Ps w l) (hd:∀x∈bC s,x∉Rt.gK l):
  Calls Tryz.prog dB #[s.v,.func (.func eF) #[] #[]] w λr w'=>KY s (qG l) r w w'/\Fr (·∈bC s) w w':=by
 have nr:=Rt.cC ho.jh
 have ll:=Rt.eZ l
 have kt:∀t∈l,t.sz<=1000000:=λt ht=>Nat.le_trans (Rt.dM ht) hl
 have H:LH (·∈bC s) w w [.row aB 4 s (l.flatMap Rt.c)] [.trees l]:=Z5 _ ho (by
  intro e he
  simp only [cU,qnM,or_false] at he
  subst he
  exact ⟨pl,λx hx hm=>hd x hx (aI.1 hm)⟩)
 let R:aD:=λr w'=>KY s (qG l) r w w'/\Fr (·∈bC s) w w'
 have WG:∀(d k b m:Nat) (cur:List Rt) (p:Rt) (w1:World),b+m+d=l.length->1<=m->1<=b->k<b+m->cur.length=l.length->cur.drop (b+m - 1)=l.drop (b+m - 1)->l[b+m - 1]? =some p->cur.take k++jU p (l.drop (b+m))=qG l->
   LH (·∈bC s) w w1 [.row aB 4 s (cur.flatMap Rt.c)] [.trees l]->
   slices_CompactFunc_sl_regex_Regex_regex_Regex.L2 s (k:Int) ⟨(if s.c=b then s.a else s.a.map (·.add (b *4))),(s.n - b),(s.c - b)⟩ (m:Int) w1 R:=by
  intro d
  induction d with
  |zero=>
   intro k b m cur p w1 hb hm Kz hk hc CT hp hq H1
   refine slices_CompactFunc_sl_regex_Regex_regex_Regex.Hn _ _ _ _ _ _ (aL (decide_eq_false ?_) ?_)
   .show ¬(m:Int)<((s.n - b:Nat):Int)
    omega
   rw [qdO (by omega)] at hq
   have JI:cur.take k=qG l:=by rw [<-hq];simp [jU]
   exact OF (K:=λ_=>True) (H1.get 0) k (by omega) JI H1.fr λr w' h1 h2=>⟨h1,h2⟩
  |succ d pT=>
   intro k b m cur p w1 hb hm Kz hk hc CT hp hq H1
   have hg:l[b+m]? =some (l[b+m]'(by omega)):=gW (by omega)
   have ve:=qdG (l:=l) (i:=b+m) (by omega)
   generalize l[b+m]'(by omega)=x at hg ve
   have XH:cur[b+m]? =some x:=by
    have:(cur.drop (b+m - 1))[1]? =(l.drop (b+m - 1))[1]?:=by rw [CT]
    rw [qgD,qgD,show b+m - 1+1=b+m by omega] at this
    rw [this];exact hg
   have hgp:cur[b+(m - 1)]? =some p:=by
    have:(cur.drop (b+m - 1))[0]? =(l.drop (b+m - 1))[0]?:=by rw [CT]
    rw [qgD,qgD,Nat.add_zero] at this
    rw [show b+(m - 1)=b+m - 1 by omega,this];exact hp
   have V3:cur.drop (b+m)=l.drop (b+m):=by
    have:(cur.drop (b+m - 1)).drop 1=(l.drop (b+m - 1)).drop 1:=by rw [CT]
    rw [qdD,qdD,show b+m - 1+1=b+m by omega] at this
    exact this
   have mx:=cZ hg
   have mp:=cZ hp
   have e1:IntKind.wrap .i64 ((m:Int) - 1)=((m - 1:Nat):Int):=yY hm (by omega)
   rw [ve] at hq
   have eg:jU p (x::l.drop (b+m+1))=if cQ x.rx p.rx==0 then jU x (l.drop (b+m+1)) else x::jU x (l.drop (b+m+1)):=rfl
   rw [eg] at hq
   have next:∀(k':Nat) (xK:List Rt) (w2:World),k'<b+(m+1)->xK.length=l.length->xK.drop (b+m)=l.drop (b+m)->xK.take k'++jU x (l.drop (b+m+1))=qG l->LH (·∈bC s) w w2 [.row aB 4 s (xK.flatMap Rt.c)] [.trees l]->
     slices_CompactFunc_sl_regex_Regex_regex_Regex.S3 s (k':Int) ⟨(if s.c=b then s.a else s.a.map (·.add (b *4))),(s.n - b),(s.c - b)⟩ (m:Int) w2 R:=by
    intro k' xK w2 h1 h2 h3 h4 H2
    show slices_CompactFunc_sl_regex_Regex_regex_Regex.L2 _ _ _ _ _ _
    rw [aY _ (by omega)]
    exact pT k' b (m+1) xK x w2 (by omega) (by omega) Kz h1 h2 (by rw [show b+(m+1) - 1=b+m by omega];exact h3) (by rw [show b+(m+1) - 1=b+m by omega];exact hg) (by rw [show b+(m+1)=b+m+1 by omega];exact h4) H2
   refine slices_CompactFunc_sl_regex_Regex_regex_Regex.Hn _ _ _ _ _ _ (aQ (decide_eq_true ?_) (H1.dr λw2 H2=>?_))
   .show (m:Int)<((s.n - b:Nat):Int)
    omega
   refine H2.YP 0 m b rfl XH (H2.YP 0 (m - 1) b e1 hgp ?_)
   refine H2.call (uN x p w2 (kt x mx) ((show Rt.Ps w2 l from H2.getD 0).mem mx) ((show Rt.Ps w2 l from H2.getD 0).mem mp)) ?_
   rintro _ w3 rfl H3
   refine ⟨_,rfl,eQ (λhf=>?_) (λht=>?_)⟩
   .refine H3.YP 0 m b rfl XH (H3.Tn 0 k (t:=x) (ts:=cur) rfl (by omega) λw4 H4=>?_)
    rw [if_neg (by rw [hf];simp)] at hq
    rw [aY _ (by omega)]
    refine next (k+1) (cur.set k x) w4 (by omega) (by simpa using hc) ?_ ?_ H4
    .rw [List.drop_set_of_lt (by omega)];exact V3
    .rw [tL (by omega),qaA]
     exact hq
   .rw [if_pos ht] at hq
    exact next k cur w3 (by omega) hc V3 hq H3
 have loop:∀(d k:Nat) (p:Rt) (w1:World),k+d=l.length->1<=k->l[k - 1]? =some p->l.take k++jU p (l.drop k)=qG l->LH (·∈bC s) w w1 [.row aB 4 s (l.flatMap Rt.c)] [.trees l]->
   slices_CompactFunc_sl_regex_Regex_regex_Regex.L0 s (k:Int) w1 R:=by
  intro d
  induction d with
  |zero=>
   intro k p w1 hk h1 hp hq H1
   refine slices_CompactFunc_sl_regex_Regex_regex_Regex.cF _ _ _ _ (aL (decide_eq_false (by omega)) ⟨⟨s,rfl,?_,λx hx=>hx⟩,H1.fr⟩)
   rw [qdO (by omega),qtOL (by omega)] at hq
   have JI:l=qG l:=by rw [<-hq];simp [jU]
   rw [<-JI]
   exact H1.get 0
  |succ d pT=>
   intro k p w1 hk h1 hp hq H1
   have hg:l[k]? =some (l[k]'(by omega)):=gW (by omega)
   have ve:=qdG (l:=l) (i:=k) (by omega)
   generalize l[k]'(by omega)=x at hg ve
   have mx:=cZ hg
   have mp:=cZ hp
   have e1:IntKind.wrap .i64 ((k:Int) - 1)=((k - 1:Nat):Int):=yY h1 (by omega)
   rw [ve] at hq
   have eg:jU p (x::l.drop (k+1))=if cQ x.rx p.rx==0 then jU x (l.drop (k+1)) else x::jU x (l.drop (k+1)):=rfl
   rw [eg] at hq
   refine slices_CompactFunc_sl_regex_Regex_regex_Regex.cF _ _ _ _ (aQ (decide_eq_true (by omega)) (H1.dr λw2 H2=>?_))
   refine H2.el 0 k rfl hg (H2.el 0 (k - 1) e1 hp ?_)
   refine H2.call (uN x p w2 (kt x mx) ((show Rt.Ps w2 l from H2.getD 0).mem mx) ((show Rt.Ps w2 l from H2.getD 0).mem mp)) ?_
   rintro _ w3 rfl H3
   refine ⟨_,rfl,aZ (λht=>⟨by omega,by omega,?_⟩) (λhf=>?_)⟩
   .rw [if_pos ht] at hq
    show slices_CompactFunc_sl_regex_Regex_regex_Regex.L2 _ _ _ _ _ _
    exact WG d k k 1 l x w3 (by omega) (by omega) h1 (by omega) rfl rfl (by rw [Nat.add_sub_cancel];exact hg) hq H3
   .rw [if_neg (by rw [hf];simp)] at hq
    rw [aY _ (by omega)]
    refine pT (k+1) x w3 (by omega) (by omega) (by rw [Nat.add_sub_cancel];exact hg) ?_ H3
    rw [qtO,hg,qaA]
    exact hq
 refine slices_CompactFunc_sl_regex_Regex_regex_Regex.ok _ w _ (aM (λh2=>⟨⟨s,rfl,?_,λx hx=>hx⟩,H.fr⟩) (λh2=>?_))
 .have e:qG l=l:=by
   cases l with
   |nil=>rfl
   |cons a l=>
    cases l with
    |nil=>rfl
    |cons b l=>simp at nr;omega
  rw [e]
  exact ho
 .have hg:l[0]? =some (l[0]'(by omega)):=gW (by omega)
  have ve:=qdG (l:=l) (i:=0) (by omega)
  generalize l[0]'(by omega)=x at hg ve
  refine loop (l.length - 1) 1 x w (by omega) (by omega) hg ?_ H
  rw [List.drop_zero] at ve
  rw [ve]
  rfl
def lP (k:Int) (l:List Rx) (u:Rx):List Rx:=(l.flatMap λc=>if c.k=k then c.l else [c]).filter λt=>!(cQ t u==0)
def Jt (k:Int) (u:Rx):List Rx->Rx
 |[]=>u
 |[a]=>a
 |l=>.mk k 0 0 l
def lf (k:Int) (l:List Rx) (u z:Rx):Rx:=if (lP k l u).any (λt=>cQ t z==0) then z else Jt k u (if k=3 then lP k l u else yH (qh (lP k l u)))
def U9 (k:Int) (l:List Rx):Nat:=(l.flatMap λc=>if c.k=k then c.l else [c]).length
def ql:Rx:=.mk 1 0 0 []
def fD:Rx:=.mk 6 0 0 [wC]
def qP (lo hi:UInt8) (l:List Rx):Rx:=match l with
 |[]=>wC
 |c::l'=>if c.k=0\/c.k=1 then ql else if c.k=7\/cQ c fD=0 then c else .mk 7 lo hi (c::l')
def Ex (lo hi:UInt8) (l:List Rx):Rx:=match l with
 |[]=>wC
 |c::l'=>if c.k=6 then (match c.l with |[]=>wC|d::_=>d) else .mk 6 lo hi (c::l')
def mS:Rx->Rx
 |.mk k lo hi l=>if k=3 then lf 3 l ql wC else if k=4 then lf 4 l wC fD else if k=5 then lf 5 l fD wC else if k=6 then Ex lo hi l else if k=7 then qP lo hi l else .mk k lo hi l
def nj:Rx->Bool
 |.mk k _ _ l=>decide (0<=k)&&decide (k<8)&&(match l with
  |[]=>k !=6&&k !=7
  |c::_=>!(k==6&&c.k==6&&c.l.isEmpty))
theorem wL (t:Rt):t.rx.k=t.k:=by rw [Rt.dC];rfl
theorem Ni (t:Rt):t.rx.l=t.l.map Rt.rx:=by rw [Rt.dC,<-Rt.eW];rfl
theorem vc (x u:Rt):(kM x u).map Rt.rx=lP x.k (Rt.bU x.l) u.rx:=by
 unfold kM lP
 rw [Rt.eW]
 generalize x.l=l
 induction l with
 |nil=>rfl
 |cons a l ih=>
  rw [qmpC,qfC,qfC,List.filter_append,List.filter_append,List.map_append,ih]
  congr 1
  have e:(iI x a).map Rt.rx=if a.rx.k=x.k then a.rx.l else [a.rx]:=by
   unfold iI
   rw [wL,Ni]
   split<;>simp
  rw [<-e,List.filter_map]
  rfl
theorem wc:∀(l:List Rt) (p:Rt),(jU p l).map Rt.rx=kI p.rx (l.map Rt.rx)
 |[],p=>rfl
 |x::l,p=>by
  unfold jU
  rw [qmpC]
  unfold kI
  split
  .exact wc l x
  .rw [qmpC,wc l x]
theorem OD (l:List Rt):(qG l).map Rt.rx=yH (l.map Rt.rx):=by
 cases l with
 |nil=>rfl
 |cons a l=>show a.rx::(jU a l).map Rt.rx=_;rw [wc];rfl
theorem tW {t:Rt}:∀{l:List Rt} {p:Rt},t∈jU p l->t∈l
 |[],p,h=>h
 |x::l,p,h=>by
  unfold jU at h
  split at h
  .exact qmCM _ (tW h)
  .rcases cU.1 h with rfl|h
   .simp
   .exact qmCM _ (tW h)
theorem LI {t:Rt} {l:List Rt} (h:t∈qG l):t∈l:=by
 cases l with
 |nil=>exact h
 |cons a l=>
  rcases cU.1 h with rfl|h
  .simp
  .exact qmCM _ (tW h)
theorem SN (l:List Rt) (z:Rt):l.any (λt=>cQ t.rx z.rx==0)=(l.map Rt.rx).any λt=>cQ t z.rx==0:=by
 rw [List.any_map];rfl
def oV (Aa:List Nat) (w:World) (x:Rx) (r:Ending) (w':World):Prop:=∃t:Rt,r=.returned t.v/\t.rx=x/\t.P w'/\∀b∈t.fp,w.heap.size<=b\/b∈Aa
theorem Ta {N:Nat} (hS:vW N) (hN:N<=1000000) (x u z:Rt) (bu bz:Nat) (w:World) (h:x.k≠3->U9 x.k (Rt.bU x.l)<=N) (hx:x.sz<=1000000) (px:x.P w) (pu:u.P w) (pz:z.P w) (hu:w.heap[bu]? =some (.cells u.c.toArray aB (0,0))) (hz:w.heap[bz]? =some (.cells z.c.toArray aB (0,0))):
  Calls Tryz.prog iW #[x.v,.pointer (some (bF bu)),.pointer (some (bF bz))] w λr w'=>oV (x.fp++(u.fp++z.fp)) w (lf x.k (Rt.bU x.l) u.rx z.rx) r w'/\bI w w':=by
 have H0:LH F0 w w [] [.tree x,.tree u,.tree z,rR bu u,rR bz z]:=mu _ (by
  intro e he
  simp only [cU,qnM,or_false] at he
  rcases he with rfl|rfl|rfl|rfl|rfl
  .exact px
  .exact pu
  .exact pz
  .exact hu
  .exact hz)
 have rU:=Sub.kM x u
 have Zo:=Ki x u
 have hfl:=Rt.eZ (kM x u)
 have kt:∀t∈kM x u,t.sz<=1000000:=λt ht=>by have:=Rt.dM ht;omega
 have hpc:(kM x u).length<=U9 x.k (Rt.bU x.l):=by
  have h1:=congrArg List.length (vc x u)
  rw [List.length_map] at h1
  rw [h1]
  exact List.length_filter_le ..
 refine regex_forms_2_1.cV _ _ _ _ _ _ w _ (H0.bJ λb3 w1 H1=>H1.bJ λb4 w2 H2=>⟨_,_,_,u.s,H2.tG 3 0,H2.tG 3 1,H2.tG 3 2,H2.tG 3 3,H2.sh (SY x u w2 hx (H2.getD 0) (H2.getD 1)) ?_⟩)
 rintro _ w3 ⟨s1,rfl,o1,n1⟩ H3 F3
 have H4:=F3.own (.row aB 4 s1 ((kM x u).flatMap Rt.c)) o1 n1
 have hps:∀w':World,x.P w'->Rt.Ps w' (kM x u):=λw' h=>rU.Ps h
 refine ⟨s1,rfl,H4.aJ (yu s1 (kM x u) ⟨jq,#[],#[.pointer (some (bF bz))]⟩ (λt=>cQ t.rx z.rx==0) [.tree x,.tree z,rR bz z] w3 (by omega) (H4.get 2:aP _ _ _ _ _).jh (by
  intro e he
  simp only [cU,qnM,or_false] at he
  rcases he with rfl|rfl|rfl
  .exact H4.getD 0
  .exact H4.getD 2
  .exact H4.getD 4) (by kernel_rfl) (λw' t ht H'=>FR t z bz w' (kt t ht) ((hps w' (H'.getD 1)).mem ht) (H'.getD 2) (H'.getD 3))) ?_⟩
 rintro _ w4 rfl H5
 have ea:(kM x u).any (λt=>cQ t.rx z.rx==0)=(lP x.k (Rt.bU x.l) u.rx).any λt=>cQ t z.rx==0:=by rw [SN,vc]
 refine ⟨_,rfl,aZ (λht=>⟨_,_,_,z.s,H5.tG 4 0,H5.tG 4 1,H5.tG 4 2,H5.tG 4 3,H5.aK λw8 H8=>⟨⟨z,rfl,?_,H8.getD 2,λb hb=>.inr (by simp [hb])⟩,H8.fr⟩⟩) (λhf=>?_)⟩
 .have np:=ea▸ht
  unfold lf
  rw [if_pos np]
 have hf':=ea▸hf
 have fin:∀(s':Sl) (ks:List Rt) (w':World),(∀t∈ks,t∈kM x u)->ks.map Rt.rx=(if x.k=3 then lP x.k (Rt.bU x.l) u.rx else yH (qh (lP x.k (Rt.bU x.l) u.rx)))->LH F0 w w' [.g b3,.g b4,.row aB 4 s' (ks.flatMap Rt.c)] [.tree x,.tree u,.tree z,rR bu u,rR bz z]->
   regex_forms_2_1.dV (bF bu) b3 x.k x.lo.toNat x.hi.toNat x.s b4 0 0 0 ⟨none,0,0⟩ s' w' λr w'=>oV (x.fp++(u.fp++z.fp)) w (lf x.k (Rt.bU x.l) u.rx z.rx) r w'/\bI w w':=by
  intro s' ks w' hk he H
  have sF:Sub x ks:=rU.sub hk
  have nr:=Rt.cC (H.get 2:aP _ _ _ _ _).jh
  have ej:lf x.k (Rt.bU x.l) u.rx z.rx=Jt x.k u.rx (ks.map Rt.rx):=by
   unfold lf
   rw [if_neg (by rw [hf'];simp),he]
  refine aH (λh0=>⟨_,_,_,u.s,H.tG 3 0,H.tG 3 1,H.tG 3 2,H.tG 3 3,H.aK λw8 H8=>⟨⟨u,rfl,?_,H8.getD 1,λb hb=>.inr (by simp [hb])⟩,H8.fr⟩⟩) (λh0=>aH (λh1=>?_) (λh1=>H.aK λw8 H8=>⟨⟨.mk x.k 0 0 s' ks,rfl,?_,?_,λb hb=>?_⟩,H8.fr⟩))
  .have:ks=[]:=List.length_eq_zero_iff.1 (by omega)
   rw [ej,this];rfl
  .obtain ⟨a,rfl⟩:=List.length_eq_one_iff.1 (show ks.length=1 by omega)
   refine H.el 2 0 rfl (t:=a) rfl (H.aK λw8 H8=>⟨⟨a,rfl,?_,sF.P _ (H8.getD 0) a (by simp),λb hb=>.inr (by simp [sF.fp a (by simp) b hb])⟩,H8.fr⟩)
   rw [ej];rfl
  .rw [ej]
   unfold Rt.rx
   rw [Rt.eW]
   cases ks with
   |nil=>simp at nr;omega
   |cons a ks=>
    cases ks with
    |nil=>simp at nr;omega
    |cons b ks=>rfl
  .unfold Rt.P
   exact ⟨(H8.get 2:aP _ _ _ _ _).jh,sF.Ps (H8.getD 0)⟩
  .unfold Rt.fp at hb
   rcases fW.1 hb with hb|hb
   .exact .inl ((H8.new _ (cZ (i:=2) rfl) b (fQ hb)).resolve_right id)
   .exact .inr (by simp [sF.gK hb])
 have eo:∀w':World,LH F0 w w' [.g b3,.g b4,.row aB 4 s1 ((kM x u).flatMap Rt.c)] [.tree x,.tree u,.tree z,rR bu u,rR bz z]->∀y∈bC s1,y∉Rt.gK (kM x u):=λw' H' y hy hm=>H'.off 2 0 rfl rfl y hy (aI.2 (rU.gK hm))
 refine eB (λhk=>?_) (λhk=>fin s1 (kM x u) w4 (λ_ h=>h) (by rw [if_pos hk,vc]) H5)
 refine H5.Lu 2 rfl (hS s1 (kM x u) w4 (by have:=h hk;omega) (by omega) (H5.get 2) (hps w4 (H5.getD 0)) (eo w4 H5)) ?_
 rintro _ w5 ⟨m,rfl,Rn,U2,o5⟩ hH
 have H6:LH F0 w w5 [.g b3,.g b4,.row aB 4 s1 (m.flatMap Rt.c)] [.tree x,.tree u,.tree z,rR bu u,rR bz z]:=hH (.row aB 4 s1 (m.flatMap Rt.c)) o5 λb hb=>.inl hb
 have Rw:Sub x m:=rU.sub λt ht=>Rn.mem_iff.1 ht
 refine ⟨rfl,H6.Lu 2 rfl (Ae s1 m w5 (by rw [Nz Rn];omega) (H6.get 2) (Rw.Ps (H6.getD 0)) (λy hy hm=>H6.off 2 0 rfl rfl y hy (aI.2 (Rw.gK hm)))) ?_⟩
 rintro _ w6 ⟨s2,rfl,o6,n6⟩ hH2
 have H7:LH F0 w w6 [.g b3,.g b4,.row aB 4 s2 ((qG m).flatMap Rt.c)] [.tree x,.tree u,.tree z,rR bu u,rR bz z]:=hH2 (.row aB 4 s2 ((qG m).flatMap Rt.c)) o6 λb hb=>.inl (n6 b hb)
 have O9:m.map Rt.rx=qh ((kM x u).map Rt.rx):=No U2 (Rn.map _)
 exact ⟨s2,rfl,fin s2 (qG m) w6 (λt ht=>Rn.mem_iff.1 (LI ht)) (by rw [if_neg hk,OD,O9,vc]) H7⟩
theorem jt {w:World} {x t:Rt} (px:x.P w) {k:Nat} {X:Int} {K:Int->Int->Int->Sl->Prop} (hX:X=(k:Int)) (hg:x.l[k]? =some t) (h:K t.k t.lo.toNat t.hi.toNat t.s):
  (0:Int)<=X/\X<((x.s.n:Nat):Int)/\aX x.s.a λp=>∃a b c:Int,∃d:Sl,w.cell? ((p.add (Int.toNat X *4)).add 0)=some (.i a)/\w.cell? ((p.add (Int.toNat X *4)).add 1)=some (.int .u8 b)/\w.cell? ((p.add (Int.toNat X *4)).add 2)=some (.int .u8 c)/\w.cell? ((p.add (Int.toNat X *4)).add 3)=some d.v/\K a b c d:=by
 subst hX
 have hn:=Rt.cC px.parts.1
 have hk:=(oN.1 hg).1
 exact ⟨by omega,by omega,Rt.at' px.parts.1 hg λp hp c=>⟨_,_,_,_,c.c0,c.c1,c.c2,c.c3,h⟩⟩
theorem Vy (x:Rt) (w:World) (px:x.P w) (hk:x.k=6) (ho:nj x.rx=true):Calls Tryz.prog iR #[x.v] w λr w'=>oV x.fp w (Ex x.lo x.hi (Rt.bU x.l)) r w'/\bI w w':=by
 have nr:=Rt.cC px.parts.1
 rw [Rt.dC] at ho
 cases hl:x.l with
 |nil=>rw [hl,hk] at ho;simp [nj,Rt.bU] at ho
 |cons c l'=>
  have hg:x.l[0]? =some c:=by rw [hl];rfl
  have mc:c∈x.l:=cZ hg
  have e1:Rt.bU (c::l')=c.rx::Rt.bU l':=rfl
  refine regex_forms_3.cV _ _ _ _ w _ ((za px).bJ λb1 w1 H1=>H1.bJ λb2 w2 H2=>?_)
  have PJ:x.P w2:=H2.getD 0
  have n2:0<x.s.n:=by rw [hl] at nr;simp at nr;omega
  refine ⟨by omega,by omega,Rt.at' PJ.parts.1 hg λp hp cc=>⟨c.k,cc.c0,aH (λh6=>?_) (λh6=>H2.aK λpR m8=>⟨⟨x,rfl,?_,m8.getD 0,λb hb=>.inr hb⟩,m8.fr⟩)⟩⟩
  .refine ⟨by omega,by omega,Rt.at' PJ.parts.1 hg λp hp cc=>⟨c.s,cc.c3,?_⟩⟩
   cases HY:c.l with
   |nil=>
    rw [hl,e1] at ho
    have e2:c.rx.l.isEmpty=true:=by rw [Ni,HY];rfl
    simp [nj,hk,wL,h6,e2] at ho
   |cons d l2=>
    have NZ:c.l[0]? =some d:=by rw [HY];rfl
    refine jt (PJ.parts.2.mem mc) rfl NZ (H2.aK λw6 H6=>⟨⟨d,rfl,?_,((show x.P w6 from H6.getD 0).parts.2.mem mc).parts.2.mem (cZ NZ),λb hb=>.inr (Rt.eJ.2 (.inr (Rt.bD.2 ⟨c,mc,Rt.eJ.2 (.inr (Rt.bD.2 ⟨d,cZ NZ,hb⟩))⟩)))⟩,H6.fr⟩)
    rw [e1]
    show d.rx=if c.rx.k=6 then _ else _
    rw [if_pos (by rw [wL,h6]),Ni,HY];rfl
  .rw [e1]
   show x.rx=if c.rx.k=6 then _ else _
   rw [if_neg (by rw [wL];exact h6),Rt.dC,hk,hl,e1]
theorem Td (x m v:Rt) (bm bv:Nat) (w:World) (hx:x.sz<=1000000) (px:x.P w) (pm:m.P w) (pv:v.P w) (hm:w.heap[bm]? =some (.cells m.c.toArray aB (0,0))) (hv:w.heap[bv]? =some (.cells v.c.toArray aB (0,0))) (em:m.rx=ql) (ev:v.rx=fD) (hk:x.k=7) (ho:nj x.rx=true):
  Calls Tryz.prog iS #[x.v,.pointer (some (bF bm)),.pointer (some (bF bv))] w λr w'=>oV (x.fp++(m.fp++v.fp)) w (qP x.lo x.hi (Rt.bU x.l)) r w'/\bI w w':=by
 have nr:=Rt.cC px.parts.1
 rw [Rt.dC] at ho
 cases hl:x.l with
 |nil=>rw [hl,hk] at ho;simp [nj,Rt.bU] at ho
 |cons c l'=>
  have hg:x.l[0]? =some c:=by rw [hl];rfl
  have mc:c∈x.l:=cZ hg
  have e1:Rt.bU (c::l')=c.rx::Rt.bU l':=rfl
  have H0:LH F0 w w [] [.tree x,.tree m,.tree v,rR bm m,rR bv v]:=mu _ (by
   intro e he
   simp only [cU,qnM,or_false] at he
   rcases he with rfl|rfl|rfl|rfl|rfl
   .exact px
   .exact pm
   .exact pv
   .exact hm
   .exact hv)
  refine regex_forms_4.cV _ _ _ _ _ _ w _ (H0.bJ λb3 w1 H1=>H1.bJ λb4 w2 H2=>?_)
  have n2:0<x.s.n:=by rw [hl] at nr;simp at nr;omega
  have sc:c.sz<=1000000:=by have:=Rt.dM mc;have:=Rt.gm x;omega
  have fc:∀b∈c.fp,b∈x.fp:=λb hb=>Rt.eJ.2 (.inr (Rt.bD.2 ⟨c,mc,hb⟩))
  refine jt (show x.P w2 from H2.getD 0) rfl hg (H2.bJ λb5 w3 H3=>?_)
  have isE:c.k=0\/c.k=1->∀w':World,LH F0 w w' [.g b3,.g b4,.g b5] [.tree x,.tree m,.tree v,rR bm m,rR bv v]->regex_forms_4.dV (bF bm) b4 0 0 0 ⟨none,0,0⟩ w' λr w'=>oV (x.fp++(m.fp++v.fp)) w (qP x.lo x.hi (Rt.bU (c::l'))) r w'/\bI w w':=λhc w' H=>
   ⟨_,_,_,m.s,H.tG 3 0,H.tG 3 1,H.tG 3 2,H.tG 3 3,H.aK λw4 H4=>⟨⟨m,rfl,by
    rw [em,e1]
    show _=if c.rx.k=0\/c.rx.k=1 then _ else _
    rw [wL,if_pos hc],H4.getD 1,λb hb=>.inr (by simp [hb])⟩,H4.fr⟩⟩
  have isC:¬(c.k=0\/c.k=1)->(c.k=7\/cQ c.rx fD=0)->∀w':World,LH F0 w w' [.g b3,.g b4,.g b5] [.tree x,.tree m,.tree v,rR bm m,rR bv v]->regex_forms_4.fY b4 0 0 0 ⟨none,0,0⟩ b5 c.k c.lo.toNat c.hi.toNat c.s w' λr w'=>oV (x.fp++(m.fp++v.fp)) w (qP x.lo x.hi (Rt.bU (c::l'))) r w'/\bI w w':=λhn hc w' H=>
   H.aK λw4 H4=>⟨⟨c,rfl,by
    rw [e1]
    show _=if c.rx.k=0\/c.rx.k=1 then _ else if c.rx.k=7\/cQ c.rx fD=0 then _ else _
    rw [wL,if_neg hn,if_pos hc],(show x.P w4 from H4.getD 0).parts.2.mem mc,λb hb=>.inr (by simp [fc b hb])⟩,H4.fr⟩
  refine aH (λh0=>H3.aK λw4 H4=>isE (.inl h0) w4 H4) (λh0=>aH (λh1=>H3.aK λw4 H4=>isE (.inr h1) w4 H4) (λh1=>aH (λh7=>H3.aK λw4 H4=>isC (by omega) (.inl h7) w4 H4) (λh7=>H3.aK λw4 H4=>⟨_,_,_,v.s,H4.tG 4 0,H4.tG 4 1,H4.tG 4 2,H4.tG 4 3,?_⟩)))
  refine H4.aJ (uN c v w4 sc ((show x.P w4 from H4.getD 0).parts.2.mem mc) (H4.getD 2)) ?_
  rintro _ w5 rfl H5
  rw [ev]
  refine ⟨_,rfl,aH (λhc=>isC (by omega) (.inr hc) w5 H5) (λhc=>H5.aK λw6 H6=>⟨⟨x,rfl,?_,H6.getD 0,λb hb=>.inr (by simp [hb])⟩,H6.fr⟩)⟩
  rw [e1]
  show x.rx=if c.rx.k=0\/c.rx.k=1 then _ else if c.rx.k=7\/cQ c.rx fD=0 then _ else _
  rw [wL,if_neg (by omega),if_neg (by
   rintro (h|h)
   .exact h7 h
   .exact hc h),Rt.dC,hk,hl,e1]
structure Fm where
 m:Nat
 es:Array MapEntry
 clock:Nat
 ms:List (Int×Value)
 cs:List (Nat×Rt)
 s:Sl
def mB:Rt:=.mk 0 0 0 ⟨none,0,0⟩ []
def gG:Rt:=.mk 1 0 0 ⟨none,0,0⟩ []
def Fm.ev (F:Fm):Rt:=.mk 6 0 0 F.s [mB]
def _root_.Go.W.En.fm (F:Fm):En:=.all (.ob F.m (.map F.es F.clock)::.tree F.ev::F.cs.map λp=>rR p.1 p.2)
def Be (a b:Nat):Value:=.func (.func iW) #[] #[.pointer (some (bF a)),.pointer (some (bF b))]
def nN:Value:=.func (.func kq) #[] #[]
def AB (cs:List (Nat×Rt)) (ev:Rt) (k:Int) (v:Value):Prop:=
 ((k=0\/k=1\/k=2)/\v=nN)\/(∃u z a b,((k=3/\u=gG/\z=mB)\/(k=4/\u=mB/\z=ev)\/(k=5/\u=ev/\z=mB))/\v=Be a b/\(a,u)∈cs/\(b,z)∈cs)\/
 (k=6/\v=.func (.func iR) #[] #[])\/∃a b,k=7/\v=.func (.func iS) #[] #[.pointer (some (bF a)),.pointer (some (bF b))]/\(a,gG)∈cs/\(b,ev)∈cs
structure Fm.Ok (F:Fm):Prop where
 ms:AE .i64 F.es F.ms
 all:∀k:Int,0<=k->k<8->∃v,wB F.ms k=some v/\AB F.cs F.ev k v
section
variable {F:Fm} {w:World}
theorem Tu (h:(En.fm F).P w):w.heap[F.m]? =some (.map F.es F.clock):=h (.ob F.m (.map F.es F.clock)) (by simp)
theorem L6 (h:(En.fm F).P w):F.ev.P w:=h (.tree F.ev) (by simp)
theorem x8 (h:(En.fm F).P w) {a:Nat} {u:Rt} (hu:(a,u)∈F.cs):w.heap[a]? =some (.cells u.c.toArray aB (0,0)):=h (rR a u) (qmCM _ (qmCM _ (oT.2 ⟨(a,u),hu,rfl⟩)))
theorem L7 {b:Nat} (h:b∈F.ev.fp):b∈(En.fm F).fp:=aI.2 (mY.2 ⟨.tree F.ev,by simp,aI.2 h⟩)
theorem vp (w:World):mB.P w:=Ip w
theorem xY (w:World):gG.P w:=by
 unfold gG Rt.P Rt.Ps
 exact ⟨jO.nil 4 w,trivial⟩
theorem nD {b:Nat} (h:b∈mB.fp):False:=RG h
theorem uZ {b:Nat} (h:b∈gG.fp):False:=by
 unfold gG Rt.fp Rt.gK at h
 simp [En.jh] at h
theorem oV.sub {Aa WO:List Nat} {x:Rx} {r:Ending} {w':World} (h:oV Aa w x r w') (hs:∀b∈Aa,b∈WO):oV WO w x r w':=by
 obtain ⟨t,h1,h2,h3,h4⟩:=h
 exact ⟨t,h1,h2,h3,λb hb=>(h4 b hb).imp id (hs b)⟩
theorem RF:KU Tryz.prog aN bW bG .i64 .nilFunc:=⟨by kernel_rfl,by kernel_rfl,by kernel_rfl⟩
end
theorem El {P:Program} {T kt et:TypeId} {kd:IntKind} {z:Value} (mo:KU P T kt et kd z) {w:World} {mb:Nat} {es:Array MapEntry} {clock:Nat} {ms:List (Int×Value)}
  (hm:w.heap[mb]? =some (.map es clock)) (vU:AE kd es ms) (k:Int):(Instr.lookup T (.map (some mb)) (.int kd k) false).run P w=.ok ((wB ms k).getD z) w:=by
 have hf:=sy (k:=k) (i:=0) vU
 have hg:(getObj mb).run P w=.ok (.map es clock) w:=by simp [getObj,Sem.run,hm]
 have An:=Eo (ms:=ms) (k:=k) (i:=0)
 unfold Instr.lookup Instr.findKey
 simp only [Sem.run_bind,run_underlying mo.hT,Result.andThen_ok,hg,Sem.run_pure,uQ mo.hk,run_underlying mo.hk,hf]
 cases hr:((ms.findIdx? λp=>p.1==k).bind λj=>(ms[j]?).map λp=>(0+j,p.2)) with
 |none=>rw [hr] at An;simp [<-An,tM mo.hz]
 |some q=>rw [hr] at An;simp [<-An]
theorem Ox {N:Nat} (hS:vW N) (hN:N<=1000000) {F:Fm} (hF:F.Ok) {w:World} (h:(En.fm F).P w) (k:Int) (h0:0<=k) (h8:k<8):
  ∃f:Fv,(Instr.lookup aN (.map (some F.m)) (.i k) false).run Tryz.prog w=.ok f.v w/\fC Tryz.prog f.n=true/\∀(x:Rt) (w':World),(En.fm F).P w'->x.P w'->x.k=k->(x.k=4\/x.k=5->U9 x.k (Rt.bU x.l)<=N)->x.sz<=1000000->nj x.rx=true->
   Calls Tryz.prog f.n (f.bs++#[x.v]++f.cs) w' λr tq=>oV (x.fp++(En.fm F).fp) w' (mS x.rx) r tq/\bI w' tq:=by
 have mo:=RF
 obtain ⟨v,hv,hg⟩:=hF.all k h0 h8
 have hl:=El mo (Tu h) hF.ms k
 rw [hv,Option.getD_some] at hl
 have fx:∀x:Rt,mS x.rx=if x.k=3 then lf 3 (Rt.bU x.l) ql wC else if x.k=4 then lf 4 (Rt.bU x.l) wC fD else if x.k=5 then lf 5 (Rt.bU x.l) fD wC else if x.k=6 then Ex x.lo x.hi (Rt.bU x.l) else if x.k=7 then qP x.lo x.hi (Rt.bU x.l) else x.rx:=λx=>by
  rw [Rt.dC];rfl
 rcases hg with ⟨hk,rfl⟩|⟨u,z',a,b,hk,rfl,ha,hb⟩|⟨rfl,rfl⟩|⟨a,b,rfl,rfl,ha,hb⟩
 .refine ⟨⟨kq,#[],#[]⟩,hl,by kernel_rfl,λx w' DP px JO XP Mt Wp=>((Lj x w' px).mono ?_)⟩
  rintro _ w2 ⟨rfl,f⟩
  refine ⟨⟨x,rfl,?_,px.oR f,λb hb=>.inr (by simp [hb])⟩,f⟩
  rw [fx,if_neg (by omega),if_neg (by omega),if_neg (by omega),if_neg (by omega),if_neg (by omega)]
 .refine ⟨⟨iW,#[],#[.pointer (some (bF a)),.pointer (some (bF b))]⟩,hl,by kernel_rfl,λx w' DP px JO XP Mt Wp=>?_⟩
  have pu:u.P w':=by
   rcases hk with ⟨_,rfl,_⟩|⟨_,rfl,_⟩|⟨_,rfl,_⟩
   .exact xY w'
   .exact vp w'
   .exact L6 DP
  have pz:z'.P w':=by
   rcases hk with ⟨_,_,rfl⟩|⟨_,_,rfl⟩|⟨_,_,rfl⟩
   .exact vp w'
   .exact L6 DP
   .exact vp w'
  refine (Ta hS hN x u z' a b w' (λh3=>XP (by rcases hk with ⟨rfl,_⟩|⟨rfl,_⟩|⟨rfl,_⟩<;>omega)) Mt px pu pz (x8 DP ha) (x8 DP hb)).mono ?_
  rintro r w2 ⟨hr,f⟩
  refine ⟨?_,f⟩
  have e:mS x.rx=lf x.k (Rt.bU x.l) u.rx z'.rx:=by
   rw [fx]
   rcases hk with ⟨rfl,rfl,rfl⟩|⟨rfl,rfl,rfl⟩|⟨rfl,rfl,rfl⟩
   .rw [if_pos JO,JO];rfl
   .rw [if_neg (by omega),if_pos JO,JO];rfl
   .rw [if_neg (by omega),if_neg (by omega),if_pos JO,JO];rfl
  rw [e]
  refine hr.sub λc hc=>?_
  rcases fW.1 hc with hc|hc
  .simp [hc]
  .rcases fW.1 hc with hc|hc
   .rcases hk with ⟨_,rfl,_⟩|⟨_,rfl,_⟩|⟨_,rfl,_⟩
    .exact (uZ hc).elim
    .exact (nD hc).elim
    .exact qmR _ (L7 hc)
   .rcases hk with ⟨_,_,rfl⟩|⟨_,_,rfl⟩|⟨_,_,rfl⟩
    .exact (nD hc).elim
    .exact qmR _ (L7 hc)
    .exact (nD hc).elim
 .refine ⟨⟨iR,#[],#[]⟩,hl,by kernel_rfl,λx w' DP px JO XP Mt Wp=>((Vy x w' px JO Wp).mono ?_)⟩
  rintro r w2 ⟨hr,f⟩
  refine ⟨?_,f⟩
  rw [fx,if_neg (by omega),if_neg (by omega),if_neg (by omega),if_pos JO]
  exact hr.sub λc hc=>by simp [hc]
 .refine ⟨⟨iS,#[],#[.pointer (some (bF a)),.pointer (some (bF b))]⟩,hl,by kernel_rfl,λx w' DP px JO XP Mt Wp=>((Td x gG F.ev a b w' Mt px (xY w') (L6 DP) (x8 DP ha) (x8 DP hb) rfl rfl JO Wp).mono ?_)⟩
  rintro r w2 ⟨hr,f⟩
  refine ⟨?_,f⟩
  rw [fx,if_neg (by omega),if_neg (by omega),if_neg (by omega),if_neg (by omega),if_pos JO]
  refine hr.sub λc hc=>?_
  rcases fW.1 hc with hc|hc
  .simp [hc]
  .rcases fW.1 hc with hc|hc
   .exact (uZ hc).elim
   .exact qmR _ (L7 hc)
section
variable {s:Sl} {l:List Rt} {bs:Nat}
end
theorem Uu {α:Type} {ts:List α} {i j:Nat} {a b:α} (hi:ts[i]? =some a) (hj:ts[j]? =some b) (q:Nat):((ts.set i b).set j a)[q]? =if q=j then some a else if q=i then some b else ts[q]?:=by
 have h1:=(oN.1 hi).1
 have h2:=(oN.1 hj).1
 rw [List.getElem?_set,qlS,List.getElem?_set]
 by_cases e:q=j
 .subst e;simp [h2]
 .rw [if_neg (show ¬j=q from λh=>e h.symm),if_neg e]
  by_cases e2:q=i
  .subst e2;simp [h1]
  .rw [if_neg (show ¬i=q from λh=>e2 h.symm),if_neg e2]
theorem Qj {α:Type} {ts:List α} {i j:Nat} {a b:α} (hi:ts[i]? =some a) (hj:ts[j]? =some b):((ts.set i b).set j a).Perm ts:=by
 obtain ⟨h1,rfl⟩:=oN.1 hi
 obtain ⟨h2,rfl⟩:=oN.1 hj
 exact List.set_set_perm h1 h2
abbrev Xw (pv x:Rt):Prop:=cQ x.rx pv.rx<0
structure SE (l ts:List Rt) (pv:Rt) (i j:Nat):Prop where
 perm:ts.Perm l
 z:ts[0]? =some pv
 i1:1<=i
 ij:i<=j+1
 jn:j<ts.length
 lo:∀(q:Nat) x,1<=q->q<i->ts[q]? =some x->Xw pv x
 hi:∀(q:Nat) x,j<q->ts[q]? =some x->¬Xw pv x
theorem SE.swap {l ts:List Rt} {pv x y:Rt} {i j:Nat} (I:SE l ts pv i j) (hx:ts[i]? =some x) (hy:ts[j]? =some y) (h:i<j) (lx:¬Xw pv x) (ly:Xw pv y):SE l ((ts.set i y).set j x) pv (i+1) (j - 1):=by
 have g:=Uu hx hy
 have h1:=I.i1
 have hj:=I.jn
 refine ⟨(Qj hx hy).trans I.perm,?_,by omega,by omega,by simp only [qlS];omega,λq z ZI hq hz=>?_,λq z hq hz=>?_⟩
 .rw [g,if_neg (by omega),if_neg (by omega)];exact I.z
 .rw [g,if_neg (by omega)] at hz
  split at hz
  .cases hz;exact ly
  .exact I.lo q z ZI (by omega) hz
 .rw [g] at hz
  split at hz
  .cases hz;exact lx
  .rw [if_neg (by omega)] at hz
   exact I.hi q z (by omega) hz
theorem M2 {s:Sl} {l:List Rt} {w:World} (hl:Rt.fK l<=1000000) (ho:aP w aB 4 s (l.flatMap Rt.c)) (pl:Rt.Ps w l) (hd:∀x∈bC s,x∉Rt.gK l) (A X Z:List Rt) (he:l=A++X++Z) (hX:X.length<=12) (a b:Int) (ha:a=(A.length:Int)) (hb:b=((A.length+X.length:Nat):Int)) (lim:Int) (wb wp:Bool) {R:aD}
  (hR:∀w',aP w' aB 4 s ((A++jR X++Z).flatMap Rt.c)->Fr (·∈bC s) w w'->R (.returned (.tuple #[])) w'):slices_pdqsortCmpFunc_regex_Regex.L0 s a b lim wb wp w R:=by
 have ll:=Rt.eZ l
 have lX:A.length+X.length+Z.length=l.length:=by rw [he];simp [Nat.add_assoc]
 subst ha hb
 refine slices_pdqsortCmpFunc_regex_Regex.cF _ _ _ _ _ _ _ _ (aQ (decide_eq_true ?_) ?_)
 .rw [IntWalk.i64_in _ (by omega)]
  omega
 refine (Dq s l w hl ho pl hd A X Z he _ rfl).mono ?_
 rintro _ w2 ⟨⟨rfl,h2⟩,f2⟩
 exact ⟨rfl,hR w2 h2 f2⟩
set_option maxRecDepth 100000
theorem Ob {M:Nat->Prop} {w0 w:World} {L L' D:List En} (H:LH M w0 w L D) (h:L.Perm L'):LH M w0 w L' D:=
 ⟨H.fr,λe he=>H.own e (h.mem_iff.2 he),H.rd,λe he=>H.new e (h.mem_iff.2 he),(h.flatMap_right (·.fp)).nodup_iff.1 H.nd,λe he b hb e' mI=>H.dj e he b hb e' (h.mem_iff.2 mI)⟩
theorem fR {L:Nat->Bool} {i j:Nat} (h:j≠i):ji L i j=L j:=by
 have:Nat.beq j i=false:=by rw [<-Bool.not_eq_true,Nat.beq_eq];exact h
 simp [ji,this]
theorem IJ {L:Nat->Bool} {i:Nat}:ji L i i=true:=by simp [ji]
theorem J5 {P:Program} {fn:Func} {E:Env} {w:World} {K:Value->Prop} {t:Nat} {v:Value} (hr:fn.results.toList=[.tmp t]) (ht:E.get? t=some v) (h:K v):rJ P fn E w K:=by
 unfold rJ
 rw [hr]
 unfold zn
 rw [ht]
 exact h
def HQ:List (Op×Option Nat×TypeId×List Nat):=[
 (.makeMap aN none,some 11,aN,[]),
 (.move (.tmp 4),some 12,bG,[]),
 (.insert aN (.tmp 11) (.const (.int .i64 0)) (.tmp 12),none,Km,[0,1]),
 (.move (.tmp 4),some 13,bG,[]),
 (.insert aN (.tmp 11) (.const (.int .i64 1)) (.tmp 13),none,Km,[0,3]),
 (.move (.tmp 4),some 14,bG,[]),
 (.insert aN (.tmp 11) (.const (.int .i64 2)) (.tmp 14),none,Km,[0,5]),
 (.move (.tmp 5),some 15,cD,[]),
 (.load aB (.tmp 2),some 16,aB,[]),
 (.load aB (.tmp 1),some 17,aB,[]),
 (.call ⟨.value (.tmp 15),#[.tmp 16,.tmp 17],#[aB,aB]⟩,some 18,bG,[7,8,9]),
 (.insert aN (.tmp 11) (.const (.int .i64 3)) (.tmp 18),none,Km,[0,10]),
 (.move (.tmp 5),some 19,cD,[]),
 (.load aB (.tmp 1),some 20,aB,[]),
 (.load aB (.tmp 3),some 21,aB,[]),
 (.call ⟨.value (.tmp 19),#[.tmp 20,.tmp 21],#[aB,aB]⟩,some 22,bG,[12,13,14,10]),
 (.insert aN (.tmp 11) (.const (.int .i64 4)) (.tmp 22),none,Km,[0,15]),
 (.move (.tmp 5),some 23,cD,[]),
 (.load aB (.tmp 3),some 24,aB,[]),
 (.load aB (.tmp 1),some 25,aB,[]),
 (.call ⟨.value (.tmp 23),#[.tmp 24,.tmp 25],#[aB,aB]⟩,some 26,bG,[17,18,19,15]),
 (.insert aN (.tmp 11) (.const (.int .i64 5)) (.tmp 26),none,Km,[0,20]),
 (.insert aN (.tmp 11) (.const (.int .i64 6)) (.func iR),none,Km,[0]),
 (.makeFunc (.func iS) #[] #[.tmp 2,.tmp 3],some 27,bG,[]),
 (.insert aN (.tmp 11) (.const (.int .i64 7)) (.tmp 27),none,Km,[0,23]),
 (.move (.tmp 11),some 28,aN,[0,1,2,3,4,5,6,7,8,9,10,11,12,13,14,15,16,17,18,19,20,21,22,23,24]),
 (.assign (.tmp 28),some 0,aN,[25,20,0,1,2,3,4,5,6,7,8,9,10,11,12,13,14,15,16,17,18,19,20,21,22,23,24,25])]
abbrev ptr (b:Nat):Value:=.pointer (some (bF b))
abbrev vK:Value:=.func (.func mw) #[] #[]
abbrev IP (a b:Nat):Value:=.func (.func iS) #[] #[ptr a,ptr b]
abbrev vR (s:Sl):Rt:=.mk 6 0 0 s [mB]
def l5 (b1 b2 b4:Nat) (ev:Rt):List (Nat×Nat×Value):=[(0,1,ptr b1),(0,2,ptr b2),(0,3,ptr b4),(0,4,nN),(0,5,vK),(2,12,nN),(4,13,nN),(6,14,nN),(8,15,vK),(9,16,gG.v),(10,17,mB.v),(13,19,vK),(14,20,mB.v),(15,21,ev.v),(18,23,vK),(19,24,ev.v),(20,25,mB.v),(24,27,IP b2 b4)]
def lJ:List (Nat×Int):=[(2,0),(4,1),(6,2),(11,3),(16,4),(21,5),(22,6),(24,7)]
def jx (ev:Rt):List (Nat×Nat×Rt×Rt):=[(10,18,gG,mB),(15,22,mB,ev),(20,26,ev,mB)]
def Joined (ev:Rt) (cs:List (Nat×Rt)) (L:Nat->Bool) (E:Env):Prop:=∀q∈jx ev,L q.1=true->∃a b,E.get? q.2.1=some (Be a b)/\(a,q.2.2.1)∈cs/\(b,q.2.2.2)∈cs
def Ho (ev:Rt) (cs:List (Nat×Rt)) (L:Nat->Bool) (E:Env) (mp:List En):Prop:=(L 0=false/\mp=[]/\(∀q∈lJ,L q.1=false)/\L 25=false/\L 26=false)\/
 (L 0=true/\∃(m:Nat) (es:Array MapEntry) (clock:Nat) (ms:List (Int×Value)),mp=[.ob m (.map es clock)]/\E.get? 11=some (.map (some m))/\AE .i64 es ms/\(∀k v,wB ms k=some v->AB cs ev k v)/\(∀q∈lJ,(wB ms q.2).isSome=L q.1)/\
  (L 25=true->E.get? 28=some (.map (some m)))/\(L 26=true->E.get? 0=some (.map (some m))))
abbrev sB (b1 b2 b4:Nat) (s:Sl):List En:=[rR b1 mB,rR b2 gG,.row aB 4 s mB.c,rR b4 (vR s)]
structure FJ (w0:World) (b1 b2 b4:Nat) (s:Sl) (L:Nat->Bool) (E:Env) (w:World):Prop where
 st:uE (l5 b1 b2 b4 (vR s)) L E
 hp:∃(mp X:List En) (cs:List (Nat×Rt)),LH F0 w0 w (mp++(sB b1 b2 b4 s++X)) []/\(∀p∈cs,rR p.1 p.2∈sB b1 b2 b4 s++X)/\(b2,gG)∈cs/\(b4,vR s)∈cs/\Joined (vR s) cs L E/\Ho (vR s) cs L E mp
theorem AB.mono {cs US:List (Nat×Rt)} {ev:Rt} {k:Int} {v:Value} (h:AB cs ev k v) (hs:∀p∈cs,p∈US):AB US ev k v:=by
 rcases h with h|⟨u,z,a,b,h1,h2,h3,h4⟩|h|⟨a,b,h1,h2,h3,h4⟩
 .exact .inl h
 .exact .inr (.inl ⟨u,z,a,b,h1,h2,hs _ h3,hs _ h4⟩)
 .exact .inr (.inr (.inl h))
 .exact .inr (.inr (.inr ⟨a,b,h1,h2,hs _ h3,hs _ h4⟩))
theorem Bi (ms:List (Int×Value)) (k k':Int) (v:Value):wB (ms++[(k,v)]) k'=(wB ms k').or (if k=k' then some v else none):=by
 unfold wB
 rw [List.find?_append]
 cases h:ms.find? (λp=>p.1==k') with
 |some p=>rfl
 |none=>
  by_cases hk:k=k'
  .simp [hk]
  .simp [hk]
section
variable {w0 w:World} {b1 b2 b4:Nat} {s:Sl} {L:Nat->Bool} {E:Env}
theorem Ho.gV {ev:Rt} {cs US:List (Nat×Rt)} {mp:List En} (h:Ho ev cs L E mp) (hs:∀p∈cs,p∈US) (i d:Nat) (v:Value) (hi:∀j∈[0,25,26,2,4,6,11,16,21,22,24],j≠i) (hd:∀t∈[11,28,0],d≠t):Ho ev US (ji L i) (E.put (some d) v) mp:=by
 have hn:∀q∈lJ,ji L i q.1=L q.1:=λq hq=>fR (hi _ (by simp only [lJ,cU,qnM,or_false] at hq;rcases hq with rfl|rfl|rfl|rfl|rfl|rfl|rfl|rfl<;>simp))
 have n0:ji L i 0=L 0:=fR (hi 0 (by simp))
 have n25:ji L i 25=L 25:=fR (hi 25 (by simp))
 have n26:ji L i 26=L 26:=fR (hi 26 (by simp))
 rcases h with ⟨h0,h1,h2,h3,h4⟩|⟨h0,m,es,clock,ms,h1,h2,h3,h4,h5,h6,h7⟩
 .exact .inl ⟨by rw [n0,h0],h1,λq hq=>by rw [hn q hq,h2 q hq],by rw [n25,h3],by rw [n26,h4]⟩
 .refine .inr ⟨by rw [n0,h0],m,es,clock,ms,h1,?_,h3,λk v hk=>(h4 k v hk).mono hs,λq hq=>by rw [hn q hq,h5 q hq],λh=>?_,λh=>?_⟩
  .rw [eS (hd 11 (by simp)),h2]
  .rw [eS (hd 28 (by simp)),h6 (n25▸h)]
  .rw [eS (hd 0 (by simp)),h7 (n26▸h)]
theorem FJ.stat (h:FJ w0 b1 b2 b4 s L E w) (i d:Nat) (v:Value) (h1:∀q∈l5 b1 b2 b4 (vR s),q.1=i+1->q=(i+1,d,v)) (h2:∀q∈l5 b1 b2 b4 (vR s),q.2.1=d->q.1=i+1)
  (hi:∀j∈[0,25,26,2,4,6,11,16,21,22,24],j≠i) (vT:∀j∈[10,15,20],j≠i) (hd:∀t∈[11,28,0],d≠t) (UZ:∀t∈[18,22,26],d≠t):FJ w0 b1 b2 b4 s (ji L i) (E.put (some d) v) w:=by
 obtain ⟨mp,X,cs,H,hc,hm,hv,hj,vU⟩:=h.hp
 refine ⟨h.st.fill h1 h2,mp,X,cs,H,hc,hm,hv,λq hq hL=>?_,vU.gV (λ_ h=>h) i d v hi hd⟩
 have e:ji L i q.1=L q.1/\d≠q.2.1:=by
  simp only [jx,cU,qnM,or_false] at hq
  rcases hq with rfl|rfl|rfl
  .exact ⟨fR (vT 10 (by simp)),UZ 18 (by simp)⟩
  .exact ⟨fR (vT 15 (by simp)),UZ 22 (by simp)⟩
  .exact ⟨fR (vT 20 (by simp)),UZ 26 (by simp)⟩
 rw [eS e.2]
 exact hj q hq (e.1▸hL)
theorem FJ.ins (h:FJ w0 b1 b2 b4 s L E w) (i:Nat) (k:Int) (v:Value) (Rj:(i,k)∈lJ) (h0:L 0=true) (hi:L i=false) (hv:∀cs,(b2,gG)∈cs->(b4,vR s)∈cs->Joined (vR s) cs L E->AB cs (vR s) k v):
  ∃m,E.get? 11=some (.map (some m))/\∃w',(Instr.mapUpdate aN (.map (some m)) (.i k) v).run Tryz.prog w=.ok () w'/\FJ w0 b1 b2 b4 s (ji L i) (E.put none undef) w':=by
 obtain ⟨mp,X,cs,H,hc,hm,uB,hj,vU⟩:=h.hp
 rcases vU with ⟨wm,_⟩|⟨_,m,es,clock,ms,rfl,h2,h3,h4,h5,h6,h7⟩
 .rw [h0] at wm;cases wm
 have wx:wB ms k=none:=by
  have:=h5 _ Rj
  rw [hi] at this
  simpa using this
 obtain ⟨w',HL,r1,r2,r3,r4,r5⟩:=Au RF (H.ob (b:=m) 0 rfl) h3 k v wx
 refine ⟨m,h2,w',r1,h.st.pass ?_ (λ_ _=>by simp),[.ob m (.map HL (clock+1))],X,cs,H.CZ 0 (.ob m (.map HL (clock+1))) rfl (r4.mono λx _ e=>by simp [En.ob,e]) r2 (λb hb=>.inl hb),hc,hm,uB,λq hq hL=>?_,.inr ⟨?_,m,HL,clock+1,ms++[(k,v)],rfl,h2,r3,λk' v' JE=>?_,λq hq=>?_,λh=>?_,λh=>?_⟩⟩
 .intro q hq
  simp only [lJ,cU,qnM,or_false,Prod.mk.injEq] at Rj
  simp only [l5,cU,qnM,or_false] at hq
  rcases hq with rfl|rfl|rfl|rfl|rfl|rfl|rfl|rfl|rfl|rfl|rfl|rfl|rfl|rfl|rfl|rfl|rfl|rfl<;>simp only<;>omega
 .have e:ji L i q.1=L q.1:=fR (by
   simp only [lJ,cU,qnM,or_false,Prod.mk.injEq] at Rj
   simp only [jx,cU,qnM,or_false] at hq
   rcases hq with rfl|rfl|rfl<;>simp only<;>omega)
  exact hj q hq (e▸hL)
 .rw [fR (by
   simp only [lJ,cU,qnM,or_false,Prod.mk.injEq] at Rj
   omega),h0]
 .rw [Bi] at JE
  by_cases TH:k=k'
  .subst TH
   rw [wx] at JE
   simp at JE
   subst JE
   exact hv cs hm uB hj
  .rw [if_neg TH] at JE
   simp at JE
   exact h4 k' v' JE
 .rw [Bi]
  by_cases O8:q.1=i
  .have:q.2=k:=by
    simp only [lJ,cU,qnM,or_false,Prod.mk.injEq] at Rj
    simp only [lJ,cU,qnM,or_false] at hq
    rcases hq with rfl|rfl|rfl|rfl|rfl|rfl|rfl|rfl<;>simp only at O8 ⊢<;>omega
   rw [O8,IJ,this,wx,if_pos rfl];rfl
  .have:k≠q.2:=by
    simp only [lJ,cU,qnM,or_false,Prod.mk.injEq] at Rj
    simp only [lJ,cU,qnM,or_false] at hq
    rcases hq with rfl|rfl|rfl|rfl|rfl|rfl|rfl|rfl<;>simp only at O8 ⊢<;>omega
   rw [fR O8,if_neg this,<-h5 q hq]
   simp
 .exact h6 (by rwa [fR (by
   simp only [lJ,cU,qnM,or_false,Prod.mk.injEq] at Rj
   omega)] at h)
 .exact h7 (by rwa [fR (by
   simp only [lJ,cU,qnM,or_false,Prod.mk.injEq] at Rj
   omega)] at h)
theorem FJ.call (h:FJ w0 b1 b2 b4 s L E w) (i d:Nat) (u z:Rt) (JJ:(i,d,u,z)∈jx (vR s)):Calls Tryz.prog mw #[u.v,z.v] w λe w'=>∃v,e=.returned v/\FJ w0 b1 b2 b4 s (ji L i) (E.put (some d) v) w':=by
 obtain ⟨mp,X,cs,H,hc,hm,uB,hj,vU⟩:=h.hp
 have hid:(i=10/\d=18)\/(i=15/\d=22)\/(i=20/\d=26):=by
  simp only [jx,cU,qnM,or_false,Prod.mk.injEq] at JJ
  omega
 refine regex_forms_2.ok _ _ _ _ _ _ _ _ w _ (H.nw λw1 vj H1=>H1.nw λw2 KB H2=>⟨Be w.heap.size w1.heap.size,rfl,h.st.pass ?_ ?_,mp,X++[rR w.heap.size u,rR w1.heap.size z],(w.heap.size,u)::(w1.heap.size,z)::cs,?_,?_,by simp [hm],by simp [uB],λq hq hL=>?_,vU.gV (λp hp=>by simp [hp]) i d _ ?_ ?_⟩)
 .intro q hq
  simp only [l5,cU,qnM,or_false] at hq
  rcases hq with rfl|rfl|rfl|rfl|rfl|rfl|rfl|rfl|rfl|rfl|rfl|rfl|rfl|rfl|rfl|rfl|rfl|rfl<;>simp only<;>omega
 .intro q hq he
  have he:d=q.2.1:=Option.some.inj he
  simp only [l5,cU,qnM,or_false] at hq
  rcases hq with rfl|rfl|rfl|rfl|rfl|rfl|rfl|rfl|rfl|rfl|rfl|rfl|rfl|rfl|rfl|rfl|rfl|rfl<;>simp only at he<;>omega
 .have e:mp++(sB b1 b2 b4 s++(X++[rR w.heap.size u,rR w1.heap.size z]))=mp++(sB b1 b2 b4 s++X)++[rR w.heap.size u]++[rR w1.heap.size z]:=by simp
  rw [e]
  exact H2
 .intro p hp
  rcases cU.1 hp with rfl|hp
  .simp
  rcases cU.1 hp with rfl|hp
  .simp
  rw [<-qaA]
  exact qmL _ (hc p hp)
 .by_cases O8:q.1=i
  .have:q=(i,d,u,z):=by
    simp only [jx,cU,qnM,or_false,Prod.mk.injEq] at JJ
    simp only [jx,cU,qnM,or_false] at hq
    rcases hq with rfl|rfl|rfl<;>simp only at O8<;>rcases JJ with ⟨rfl,rfl,rfl,rfl⟩|⟨rfl,rfl,rfl,rfl⟩|⟨rfl,rfl,rfl,rfl⟩<;>first |rfl|(exact absurd O8 (by decide))
   subst this
   exact ⟨_,_,te,by simp,by simp⟩
  .have hM:d≠q.2.1:=by
    simp only [jx,cU,qnM,or_false] at hq
    rcases hq with rfl|rfl|rfl<;>simp only at O8 ⊢<;>omega
   obtain ⟨a,b,h1,h2,h3⟩:=hj q hq (by rwa [fR O8] at hL)
   exact ⟨a,b,by rw [eS hM,h1],by simp [h2],by simp [h3]⟩
 .intro j Zv
  simp only [cU,qnM,or_false] at Zv
  omega
 .intro j Zv
  simp only [cU,qnM,or_false] at Zv
  omega
theorem FJ.mk0 (h:FJ w0 b1 b2 b4 s L E w) (h0:L 0=false):FJ w0 b1 b2 b4 s (ji L 0) (E.put (some 11) (.map (some w.heap.size))) (w.alloc (.map #[] 0)):=by
 obtain ⟨mp,X,cs,H,hc,hm,uB,hj,vU⟩:=h.hp
 rcases vU with ⟨_,rfl,h2,h3,h4⟩|⟨wm,_⟩
 .refine ⟨h.st.pass ?_ ?_,[.ob w.heap.size (.map #[] 0)],X,cs,Ob (H.alloc (.map #[] 0)) ?_,hc,hm,uB,λq hq hL=>?_,.inr ⟨IJ,w.heap.size,#[],0,[],rfl,te,rfl,λk v hk=>by simp [wB] at hk,λq hq=>?_,λh=>?_,λh=>?_⟩⟩
  .intro q hq
   simp only [l5,cU,qnM,or_false] at hq
   rcases hq with rfl|rfl|rfl|rfl|rfl|rfl|rfl|rfl|rfl|rfl|rfl|rfl|rfl|rfl|rfl|rfl|rfl|rfl<;>simp
  .intro q hq he
   have he:11=q.2.1:=Option.some.inj he
   simp only [l5,cU,qnM,or_false] at hq
   rcases hq with rfl|rfl|rfl|rfl|rfl|rfl|rfl|rfl|rfl|rfl|rfl|rfl|rfl|rfl|rfl|rfl|rfl|rfl<;>simp at he
  .exact List.perm_append_comm
  .have e:ji L 0 q.1=L q.1/\11≠q.2.1:=by
    simp only [jx,cU,qnM,or_false] at hq
    rcases hq with rfl|rfl|rfl<;>exact ⟨fR (by simp),by simp⟩
   rw [eS e.2]
   exact hj q hq (e.1▸hL)
  .rw [fR (by
    simp only [lJ,cU,qnM,or_false] at hq
    rcases hq with rfl|rfl|rfl|rfl|rfl|rfl|rfl|rfl<;>decide),h2 q hq]
   simp [wB]
  .rw [fR (by decide),h3] at h;cases h
  .rw [fR (by decide),h4] at h;cases h
 .rw [h0] at wm;cases wm
theorem FJ.m25 (h:FJ w0 b1 b2 b4 s L E w) (h0:L 0=true):∃m,E.get? 11=some (.map (some m))/\FJ w0 b1 b2 b4 s (ji L 25) (E.put (some 28) (.map (some m))) w:=by
 obtain ⟨mp,X,cs,H,hc,hm,uB,hj,vU⟩:=h.hp
 rcases vU with ⟨wm,_⟩|⟨_,m,es,clock,ms,rfl,h2,h3,h4,h5,h6,h7⟩
 .rw [h0] at wm;cases wm
 refine ⟨m,h2,h.st.pass ?_ ?_,[.ob m (.map es clock)],X,cs,H,hc,hm,uB,λq hq hL=>?_,.inr ⟨by rw [fR (by decide),h0],m,es,clock,ms,rfl,by rw [eS (by decide),h2],h3,h4,λq hq=>?_,λ_=>te,λh=>?_⟩⟩
 .intro q hq
  simp only [l5,cU,qnM,or_false] at hq
  rcases hq with rfl|rfl|rfl|rfl|rfl|rfl|rfl|rfl|rfl|rfl|rfl|rfl|rfl|rfl|rfl|rfl|rfl|rfl<;>simp
 .intro q hq he
  have he:28=q.2.1:=Option.some.inj he
  simp only [l5,cU,qnM,or_false] at hq
  rcases hq with rfl|rfl|rfl|rfl|rfl|rfl|rfl|rfl|rfl|rfl|rfl|rfl|rfl|rfl|rfl|rfl|rfl|rfl<;>simp at he
 .have e:ji L 25 q.1=L q.1/\28≠q.2.1:=by
   simp only [jx,cU,qnM,or_false] at hq
   rcases hq with rfl|rfl|rfl<;>exact ⟨fR (by simp),by simp⟩
  rw [eS e.2]
  exact hj q hq (e.1▸hL)
 .rw [fR (by
   simp only [lJ,cU,qnM,or_false] at hq
   rcases hq with rfl|rfl|rfl|rfl|rfl|rfl|rfl|rfl<;>decide),h5 q hq]
 .rw [eS (by decide)]
  exact h7 (by rwa [fR (by decide)] at h)
theorem FJ.m26 (h:FJ w0 b1 b2 b4 s L E w) (h0:L 0=true) (UW:L 25=true):∃m,E.get? 28=some (.map (some m))/\FJ w0 b1 b2 b4 s (ji L 26) (E.put (some 0) (.map (some m))) w:=by
 obtain ⟨mp,X,cs,H,hc,hm,uB,hj,vU⟩:=h.hp
 rcases vU with ⟨wm,_⟩|⟨_,m,es,clock,ms,rfl,h2,h3,h4,h5,h6,h7⟩
 .rw [h0] at wm;cases wm
 refine ⟨m,h6 UW,h.st.pass ?_ ?_,[.ob m (.map es clock)],X,cs,H,hc,hm,uB,λq hq hL=>?_,.inr ⟨by rw [fR (by decide),h0],m,es,clock,ms,rfl,by rw [eS (by decide),h2],h3,h4,λq hq=>?_,λh=>?_,λ_=>te⟩⟩
 .intro q hq
  simp only [l5,cU,qnM,or_false] at hq
  rcases hq with rfl|rfl|rfl|rfl|rfl|rfl|rfl|rfl|rfl|rfl|rfl|rfl|rfl|rfl|rfl|rfl|rfl|rfl<;>simp
 .intro q hq he
  have he:0=q.2.1:=Option.some.inj he
  simp only [l5,cU,qnM,or_false] at hq
  rcases hq with rfl|rfl|rfl|rfl|rfl|rfl|rfl|rfl|rfl|rfl|rfl|rfl|rfl|rfl|rfl|rfl|rfl|rfl<;>simp at he
 .have e:ji L 26 q.1=L q.1/\0≠q.2.1:=by
   simp only [jx,cU,qnM,or_false] at hq
   rcases hq with rfl|rfl|rfl<;>exact ⟨fR (by simp),by simp⟩
  rw [eS e.2]
  exact hj q hq (e.1▸hL)
 .rw [fR (by
   simp only [lJ,cU,qnM,or_false] at hq
   rcases hq with rfl|rfl|rfl|rfl|rfl|rfl|rfl|rfl<;>decide),h5 q hq]
 .rw [eS (by decide)]
  exact h6 UW
theorem FJ.ld (h:FJ w0 b1 b2 b4 s L E w) {u:Rt} {b:Nat} (hu:rR b u∈sB b1 b2 b4 s) {K:Value->Prop} (hk:K u.v):At Tryz.prog aB (bF b) w λv _=>K v:=by
 obtain ⟨mp,X,cs,H,_⟩:=h.hp
 have hb:w.heap[b]? =some (.cells u.c.toArray aB (0,0)):=H.own (rR b u) (qmR _ (qmL _ hu))
 have c0:=cellAt (p:=bF b) (i:=0) (v:=.int .i64 u.k) hb rfl rfl
 have c1:=cellAt (p:=bF b) (i:=1) (v:=.int .u8 (u.lo.toNat:Int)) hb rfl rfl
 have c2:=cellAt (p:=bF b) (i:=2) (v:=.int .u8 (u.hi.toNat:Int)) hb rfl rfl
 have c3:=cellAt (p:=bF b) (i:=3) (v:=u.s.v) hb rfl rfl
 have e:(At Tryz.prog aB (bF b) w λv _=>K v)=(∃n0:Int,∃n1:Int,∃n2:Int,∃n3:Sl,w.cell? ((bF b).add 0)=some (.int .i64 n0)/\w.cell? ((bF b).add 1)=some (.int .u8 n1)/\w.cell? ((bF b).add 2)=some (.int .u8 n2)/\w.cell? ((bF b).add 3)=some n3.v/\K (.agg #[.int .i64 n0,.int .u8 n1,.int .u8 n2,n3.v])):=by kernel_rfl
 rw [e]
 exact ⟨_,_,_,u.s,c0,c1,c2,c3,hk⟩
end
theorem OL (w:World) (b1 b2 b4:Nat) (s:Sl):allI (Od Tryz.prog (FJ w b1 b2 b4 s)) HQ 0:=
 ⟨λL E w' o ho hd ht hi dU hJ=>Us ho (by rw [hd];exact hJ.mk0 hi),
  λL E w' o ho hd ht hi dU hJ=>vH (.inl ho) (hJ.st.get (i:=0) (d:=4) (v:=nN) (by simp [l5]) rfl) (by rw [hd];exact hJ.stat 1 12 (nN) (by simp [l5]) (by simp [l5]) (by simp) (by simp) (by simp) (by simp)),
  λL E w' o ho hd ht hi dU hJ=>by
   obtain ⟨m,Gj,w2,hr,vS⟩:=hJ.ins 2 0 (nN) (by simp [lJ]) (dU 0 (by simp)) hi (λcs h1 h2 h3=>.inl ⟨.inl rfl,rfl⟩)
   exact sU ho Gj rfl (hJ.st.get (i:=2) (d:=12) (v:=nN) (by simp [l5]) (dU 1 (by simp))) ⟨w2,hr,by rw [hd];exact vS⟩,
  λL E w' o ho hd ht hi dU hJ=>vH (.inl ho) (hJ.st.get (i:=0) (d:=4) (v:=nN) (by simp [l5]) rfl) (by rw [hd];exact hJ.stat 3 13 (nN) (by simp [l5]) (by simp [l5]) (by simp) (by simp) (by simp) (by simp)),
  λL E w' o ho hd ht hi dU hJ=>by
   obtain ⟨m,Gj,w2,hr,vS⟩:=hJ.ins 4 1 (nN) (by simp [lJ]) (dU 0 (by simp)) hi (λcs h1 h2 h3=>.inl ⟨.inr (.inl rfl),rfl⟩)
   exact sU ho Gj rfl (hJ.st.get (i:=4) (d:=13) (v:=nN) (by simp [l5]) (dU 3 (by simp))) ⟨w2,hr,by rw [hd];exact vS⟩,
  λL E w' o ho hd ht hi dU hJ=>vH (.inl ho) (hJ.st.get (i:=0) (d:=4) (v:=nN) (by simp [l5]) rfl) (by rw [hd];exact hJ.stat 5 14 (nN) (by simp [l5]) (by simp [l5]) (by simp) (by simp) (by simp) (by simp)),
  λL E w' o ho hd ht hi dU hJ=>by
   obtain ⟨m,Gj,w2,hr,vS⟩:=hJ.ins 6 2 (nN) (by simp [lJ]) (dU 0 (by simp)) hi (λcs h1 h2 h3=>.inl ⟨.inr (.inr rfl),rfl⟩)
   exact sU ho Gj rfl (hJ.st.get (i:=6) (d:=14) (v:=nN) (by simp [l5]) (dU 5 (by simp))) ⟨w2,hr,by rw [hd];exact vS⟩,
  λL E w' o ho hd ht hi dU hJ=>vH (.inl ho) (hJ.st.get (i:=0) (d:=5) (v:=vK) (by simp [l5]) rfl) (by rw [hd];exact hJ.stat 7 15 (vK) (by simp [l5]) (by simp [l5]) (by simp) (by simp) (by simp) (by simp)),
  λL E w' o ho hd ht hi dU hJ=>zB ho (hJ.st.get (i:=0) (d:=2) (v:=ptr b2) (by simp [l5]) rfl) (hJ.ld (u:=gG) (b:=b2) (cZ (i:=1) rfl) (K:=λv=>FJ w b1 b2 b4 s (ji L 8) (E.put o.dst v) w') (by rw [hd];exact hJ.stat 8 16 ((gG).v) (by simp [l5]) (by simp [l5]) (by simp) (by simp) (by simp) (by simp))),
  λL E w' o ho hd ht hi dU hJ=>zB ho (hJ.st.get (i:=0) (d:=1) (v:=ptr b1) (by simp [l5]) rfl) (hJ.ld (u:=mB) (b:=b1) (cZ (i:=0) rfl) (K:=λv=>FJ w b1 b2 b4 s (ji L 9) (E.put o.dst v) w') (by rw [hd];exact hJ.stat 9 17 ((mB).v) (by simp [l5]) (by simp [l5]) (by simp) (by simp) (by simp) (by simp))),
  λL E w' o ho hd ht hi dU hJ=>by
   refine zA ho (hJ.st.get (i:=8) (d:=15) (v:=vK) (by simp [l5]) (dU 7 (by simp))) (hJ.st.get (i:=9) (d:=16) (v:=(gG).v) (by simp [l5]) (dU 8 (by simp))) (hJ.st.get (i:=10) (d:=17) (v:=(mB).v) (by simp [l5]) (dU 9 (by simp))) (by kernel_rfl) ((hJ.call 10 18 (gG) (mB) (by simp [jx])).mono ?_)
   rintro e w2 ⟨v,he,vS⟩
   rw [ht,show zeroOf Tryz.prog bG=.nilFunc from by kernel_rfl]
   exact ⟨v,he,by rw [hd];exact vS⟩,
  λL E w' o ho hd ht hi dU hJ=>by
   obtain ⟨mp,X,cs,H,hc,hm,uB,hj,vU⟩:=hJ.hp
   obtain ⟨a,b,Q7,_,_⟩:=hj (10,18,gG,mB) (by simp [jx]) (dU 10 (by simp))
   obtain ⟨m,Gj,w2,hr,vS⟩:=hJ.ins 11 3 (Be a b) (by simp [lJ]) (dU 0 (by simp)) hi (λcs h1 h2 h3=>by
    obtain ⟨a',b',h',ha,hb⟩:=h3 (10,18,gG,mB) (by simp [jx]) (dU 10 (by simp))
    exact .inr (.inl ⟨gG,mB,a',b',.inl ⟨rfl,rfl,rfl⟩,Option.some.inj (Q7.symm.trans h'),ha,hb⟩))
   exact sU ho Gj rfl Q7 ⟨w2,hr,by rw [hd];exact vS⟩,
  λL E w' o ho hd ht hi dU hJ=>vH (.inl ho) (hJ.st.get (i:=0) (d:=5) (v:=vK) (by simp [l5]) rfl) (by rw [hd];exact hJ.stat 12 19 (vK) (by simp [l5]) (by simp [l5]) (by simp) (by simp) (by simp) (by simp)),
  λL E w' o ho hd ht hi dU hJ=>zB ho (hJ.st.get (i:=0) (d:=1) (v:=ptr b1) (by simp [l5]) rfl) (hJ.ld (u:=mB) (b:=b1) (cZ (i:=0) rfl) (K:=λv=>FJ w b1 b2 b4 s (ji L 13) (E.put o.dst v) w') (by rw [hd];exact hJ.stat 13 20 ((mB).v) (by simp [l5]) (by simp [l5]) (by simp) (by simp) (by simp) (by simp))),
  λL E w' o ho hd ht hi dU hJ=>zB ho (hJ.st.get (i:=0) (d:=3) (v:=ptr b4) (by simp [l5]) rfl) (hJ.ld (u:=vR s) (b:=b4) (cZ (i:=3) rfl) (K:=λv=>FJ w b1 b2 b4 s (ji L 14) (E.put o.dst v) w') (by rw [hd];exact hJ.stat 14 21 ((vR s).v) (by simp [l5]) (by simp [l5]) (by simp) (by simp) (by simp) (by simp))),
  λL E w' o ho hd ht hi dU hJ=>by
   refine zA ho (hJ.st.get (i:=13) (d:=19) (v:=vK) (by simp [l5]) (dU 12 (by simp))) (hJ.st.get (i:=14) (d:=20) (v:=(mB).v) (by simp [l5]) (dU 13 (by simp))) (hJ.st.get (i:=15) (d:=21) (v:=(vR s).v) (by simp [l5]) (dU 14 (by simp))) (by kernel_rfl) ((hJ.call 15 22 (mB) (vR s) (by simp [jx])).mono ?_)
   rintro e w2 ⟨v,he,vS⟩
   rw [ht,show zeroOf Tryz.prog bG=.nilFunc from by kernel_rfl]
   exact ⟨v,he,by rw [hd];exact vS⟩,
  λL E w' o ho hd ht hi dU hJ=>by
   obtain ⟨mp,X,cs,H,hc,hm,uB,hj,vU⟩:=hJ.hp
   obtain ⟨a,b,Q7,_,_⟩:=hj (15,22,mB,vR s) (by simp [jx]) (dU 15 (by simp))
   obtain ⟨m,Gj,w2,hr,vS⟩:=hJ.ins 16 4 (Be a b) (by simp [lJ]) (dU 0 (by simp)) hi (λcs h1 h2 h3=>by
    obtain ⟨a',b',h',ha,hb⟩:=h3 (15,22,mB,vR s) (by simp [jx]) (dU 15 (by simp))
    exact .inr (.inl ⟨mB,vR s,a',b',.inr (.inl ⟨rfl,rfl,rfl⟩),Option.some.inj (Q7.symm.trans h'),ha,hb⟩))
   exact sU ho Gj rfl Q7 ⟨w2,hr,by rw [hd];exact vS⟩,
  λL E w' o ho hd ht hi dU hJ=>vH (.inl ho) (hJ.st.get (i:=0) (d:=5) (v:=vK) (by simp [l5]) rfl) (by rw [hd];exact hJ.stat 17 23 (vK) (by simp [l5]) (by simp [l5]) (by simp) (by simp) (by simp) (by simp)),
  λL E w' o ho hd ht hi dU hJ=>zB ho (hJ.st.get (i:=0) (d:=3) (v:=ptr b4) (by simp [l5]) rfl) (hJ.ld (u:=vR s) (b:=b4) (cZ (i:=3) rfl) (K:=λv=>FJ w b1 b2 b4 s (ji L 18) (E.put o.dst v) w') (by rw [hd];exact hJ.stat 18 24 ((vR s).v) (by simp [l5]) (by simp [l5]) (by simp) (by simp) (by simp) (by simp))),
  λL E w' o ho hd ht hi dU hJ=>zB ho (hJ.st.get (i:=0) (d:=1) (v:=ptr b1) (by simp [l5]) rfl) (hJ.ld (u:=mB) (b:=b1) (cZ (i:=0) rfl) (K:=λv=>FJ w b1 b2 b4 s (ji L 19) (E.put o.dst v) w') (by rw [hd];exact hJ.stat 19 25 ((mB).v) (by simp [l5]) (by simp [l5]) (by simp) (by simp) (by simp) (by simp))),
  λL E w' o ho hd ht hi dU hJ=>by
   refine zA ho (hJ.st.get (i:=18) (d:=23) (v:=vK) (by simp [l5]) (dU 17 (by simp))) (hJ.st.get (i:=19) (d:=24) (v:=(vR s).v) (by simp [l5]) (dU 18 (by simp))) (hJ.st.get (i:=20) (d:=25) (v:=(mB).v) (by simp [l5]) (dU 19 (by simp))) (by kernel_rfl) ((hJ.call 20 26 (vR s) (mB) (by simp [jx])).mono ?_)
   rintro e w2 ⟨v,he,vS⟩
   rw [ht,show zeroOf Tryz.prog bG=.nilFunc from by kernel_rfl]
   exact ⟨v,he,by rw [hd];exact vS⟩,
  λL E w' o ho hd ht hi dU hJ=>by
   obtain ⟨mp,X,cs,H,hc,hm,uB,hj,vU⟩:=hJ.hp
   obtain ⟨a,b,Q7,_,_⟩:=hj (20,26,vR s,mB) (by simp [jx]) (dU 20 (by simp))
   obtain ⟨m,Gj,w2,hr,vS⟩:=hJ.ins 21 5 (Be a b) (by simp [lJ]) (dU 0 (by simp)) hi (λcs h1 h2 h3=>by
    obtain ⟨a',b',h',ha,hb⟩:=h3 (20,26,vR s,mB) (by simp [jx]) (dU 20 (by simp))
    exact .inr (.inl ⟨vR s,mB,a',b',.inr (.inr ⟨rfl,rfl,rfl⟩),Option.some.inj (Q7.symm.trans h'),ha,hb⟩))
   exact sU ho Gj rfl Q7 ⟨w2,hr,by rw [hd];exact vS⟩,
  λL E w' o ho hd ht hi dU hJ=>by
   obtain ⟨m,Gj,w2,hr,vS⟩:=hJ.ins 22 6 (.func (.func iR) #[] #[]) (by simp [lJ]) (dU 0 (by simp)) hi (λcs h1 h2 h3=>.inr (.inr (.inl ⟨rfl,rfl⟩)))
   exact sU ho Gj rfl rfl ⟨w2,hr,by rw [hd];exact vS⟩,
  λL E w' o ho hd ht hi dU hJ=>Ur ho (hJ.st.get (i:=0) (d:=2) (v:=ptr b2) (by simp [l5]) rfl) (hJ.st.get (i:=0) (d:=3) (v:=ptr b4) (by simp [l5]) rfl) (by rw [hd];exact hJ.stat 23 27 (IP b2 b4) (by simp [l5]) (by simp [l5]) (by simp) (by simp) (by simp) (by simp)),
  λL E w' o ho hd ht hi dU hJ=>by
   obtain ⟨m,Gj,w2,hr,vS⟩:=hJ.ins 24 7 (IP b2 b4) (by simp [lJ]) (dU 0 (by simp)) hi (λcs h1 h2 h3=>.inr (.inr (.inr ⟨b2,b4,rfl,rfl,h1,h2⟩)))
   exact sU ho Gj rfl (hJ.st.get (i:=24) (d:=27) (v:=IP b2 b4) (by simp [l5]) (dU 23 (by simp))) ⟨w2,hr,by rw [hd];exact vS⟩,
  λL E w' o ho hd ht hi dU hJ=>by
   obtain ⟨m,h,vS⟩:=hJ.m25 (dU 0 (by simp))
   exact vH (.inl ho) h (by rw [hd];exact vS),
  λL E w' o ho hd ht hi dU hJ=>by
   obtain ⟨m,h,vS⟩:=hJ.m26 (dU 0 (by simp)) (dU 25 (by simp))
   exact vH (.inr ho) h (by rw [hd];exact vS),trivial⟩
theorem L8 {w w1:World} {b1 b2 b4:Nat} {s:Sl} {E:Env} (H:LH F0 w w1 (sB b1 b2 b4 s) []) (h1:E.get? 1=some (ptr b1)) (h2:E.get? 2=some (ptr b2)) (h3:E.get? 3=some (ptr b4)) (h4:E.get? 4=some nN) (h5:E.get? 5=some vK):FJ w b1 b2 b4 s (λ_=>false) E w1.drew:=by
 refine ⟨λq hq hc=>?_,[],[],[(b2,gG),(b4,vR s)],by simpa using H.drew,?_,by simp,by simp,λq hq hL=>(by cases hL),.inl ⟨rfl,rfl,λ_ _=>rfl,rfl,rfl⟩⟩
 .simp only [l5,cU,qnM,or_false] at hq
  rcases hq with rfl|rfl|rfl|rfl|rfl|rfl|rfl|rfl|rfl|rfl|rfl|rfl|rfl|rfl|rfl|rfl|rfl|rfl<;>first |exact h1|exact h2|exact h3|exact h4|exact h5|cases hc
 .intro p hp
  simp only [cU,qnM,or_false] at hp
  rcases hp with rfl|rfl<;>simp
theorem Tt {w w1:World} {b1 b2 b4:Nat} {s:Sl} {L:Nat->Bool} {E:Env} (hL:∀i,i<HQ.length->L i=true) (hJ:FJ w b1 b2 b4 s L E w1):∃F:Fm,E.get? 0=some (.map (some F.m))/\F.Ok/\(En.fm F).P w1/\(∀b∈(En.fm F).fp,w.heap.size<=b)/\bI w w1:=by
 have hlen:HQ.length=27:=rfl
 obtain ⟨mp,X,cs,H,hc,hm,uB,hj,vU⟩:=hJ.hp
 rcases vU with ⟨wm,_⟩|⟨_,m,es,clock,ms,rfl,h2,h3,h4,h5,h6,h7⟩
 .rw [hL 0 (by omega)] at wm;cases wm
 have mem:∀p∈cs,rR p.1 p.2∈[En.ob m (.map es clock)]++(sB b1 b2 b4 s++X):=λp hp=>qmR _ (hc p hp)
 have jN:aP w1 aB 4 s mB.c:=H.get (e:=.row aB 4 s mB.c) 3 rfl
 refine ⟨⟨m,es,clock,ms,cs,s⟩,h7 (hL 26 (by omega)),⟨h3,λk h0 h8=>?_⟩,λe he=>?_,λb hb=>?_,H.fr⟩
 .have vf:∃i,(i,k)∈lJ/\i<27:=by
   have:k=0\/k=1\/k=2\/k=3\/k=4\/k=5\/k=6\/k=7:=by omega
   rcases this with rfl|rfl|rfl|rfl|rfl|rfl|rfl|rfl
   .exact ⟨2,by simp [lJ],by omega⟩
   .exact ⟨4,by simp [lJ],by omega⟩
   .exact ⟨6,by simp [lJ],by omega⟩
   .exact ⟨11,by simp [lJ],by omega⟩
   .exact ⟨16,by simp [lJ],by omega⟩
   .exact ⟨21,by simp [lJ],by omega⟩
   .exact ⟨22,by simp [lJ],by omega⟩
   .exact ⟨24,by simp [lJ],by omega⟩
  obtain ⟨i,hi,l6⟩:=vf
  have Rv:=h5 _ hi
  rw [hL i (by omega)] at Rv
  obtain ⟨v,hv⟩:=Option.isSome_iff_exists.1 Rv
  exact ⟨v,hv,h4 k v hv⟩
 .rcases cU.1 he with rfl|he
  .exact H.own _ (by simp)
  rcases cU.1 he with rfl|he
  .show Rt.P w1 (vR s)
   unfold Rt.P Rt.Ps Rt.Ps
   exact ⟨jN.jh,vp w1,trivial⟩
  .obtain ⟨p,hp,rfl⟩:=oT.1 he
   exact H.own _ (mem p hp)
 .obtain ⟨e,he,rf⟩:=mY.1 (aI.1 hb)
  rcases cU.1 he with rfl|he
  .exact (H.new _ (cZ (i:=0) rfl) b rf).resolve_right id
  rcases cU.1 he with rfl|he
  .have eD:b∈(vR s).fp:=aI.1 rf
   unfold Rt.fp at eD
   rcases fW.1 eD with eD|eD
   .exact (H.new _ (cZ (i:=3) rfl) b (fQ eD)).resolve_right id
   .obtain ⟨t,ht,yV⟩:=Rt.bD.1 eD
    simp at ht
    subst ht
    exact (nD yV).elim
  .obtain ⟨p,hp,rfl⟩:=oT.1 he
   exact (H.new _ (mem p hp) b rf).resolve_right id
theorem Oy (w:World):Calls Tryz.prog qu #[] w λr w'=>(∃F:Fm,r=.returned (.map (some F.m))/\F.Ok/\(En.fm F).P w'/\∀b∈(En.fm F).fp,w.heap.size<=b)/\bI w w':=by
 refine regex_forms.ok w _ ((mu [] (by simp)).nw λw1 _ H1=>H1.nw λw2 _ H2=>H2.CD 0 rfl λw6 H6=>H6.CD 1 rfl λpR m8=>⟨0,0,0,⟨none,0,0⟩,m8.ld 0 0,m8.ld 0 1,m8.ld 0 2,m8.ld 0 3,m8.iH (n:=1) (sz:=4) (cs:=mB.c) rfl (by decide) λrO qB=>qB.nw λqV _ qW=>qW.CD 3 rfl λKq Da=>?_⟩)
 have HB:LH F0 w Kq (sB w.heap.size w1.heap.size rO.heap.size ⟨some (bF pR.heap.size),1,1⟩) []:=Da
 refine Mx HQ (by kernel_rfl) (FJ w w.heap.size w1.heap.size rO.heap.size ⟨some (bF pR.heap.size),1,1⟩) (L8 HB rfl rfl rfl rfl rfl) (OL _ _ _ _ _) λL E w2 hL hJ=>?_
 obtain ⟨F,h0,h1,h2,h3,h4⟩:=Tt hL hJ
 exact J5 (by kernel_rfl) h0 ⟨⟨F,rfl,h1,h2,h3⟩,h4⟩
section
variable {M:Nat->Prop} {w0 w:World} {L D:List En}
theorem _root_.Go.W.LH.Yw (H:LH M w0 w L D) (i:Nat) {P:Program} {t ty e:TypeId} {z:Value} {sz bytes:Nat} (el:iJ P t e z sz bytes) {T:TypeId} {s:Sl} {xs:List Value} {news:Array Value} {A:World->Prop} {K:Sl->World->Prop}
  (hi:L[i]? =some (.row e sz s xs)) (hA:∀w',LH M w0 w' L D->A w') (hK:∀s' w',LH M w0 w' (L.set i (.row e sz s' (xs++news.toList))) D->K s' w') (hb:(s.n+1) *bytes<=140737488355328) (hl:news.size=sz:=by rfl) (h1:∀u∈news.toList,u.oneCell'=true:=by simp [Value.oneCell']):
  fJ w (.cells news T) λw1=>A w1/\∃s' w',(Builtin.append_ #[t,t] ty #[s.v,.slice (some (Addr.mk w.heap.size 0 none)) 1 1]).run P w1=.ok s'.v w'/\K s' w':=
 ⟨hA _ (H.oR (Fr.alloc _ _ _)),H.Yv i el hi (λs' w' h _ _=>hK s' w' h) hb hl h1⟩
end
mutual
def gl:Rx->Rx|.mk k lo hi l=>mS (.mk k lo hi (fU l))
def fU:List Rx->List Rx
 |[]=>[]
 |a::l=>gl a::fU l
end
def VP (N:Nat):Rx->Bool|.mk k _ _ l=>decide (k=4\/k=5->U9 k l<=N)
def uh (N:Nat) (y:Rx):Bool:=nj y&&decide (y.sz<=1000000)&&VP N y
mutual
def DM (N:Nat):Rx->Bool|.mk k lo hi l=>yO N l&&uh N (.mk k lo hi (fU l))
def yO (N:Nat):List Rx->Bool
 |[]=>true
 |a::l=>DM N a&&yO N l
end
theorem A0 {N:Nat}:∀{l:List Rx} {a:Rx},yO N l=true->a∈l->DM N a=true
 |b::l,a,h,ha=>by
  unfold yO at h
  rw [Bool.and_eq_true] at h
  rcases cU.1 ha with rfl|ha
  .exact h.1
  .exact A0 h.2 ha
theorem mM:∀l:List Rx,fU l=l.map gl
 |[]=>rfl
 |a::l=>by unfold fU;rw [mM l];rfl
theorem Ew {M:Nat->Prop} {w0 w:World} {L D:List En} (H:LH M w0 w L D):LH M w0 w L (D++[.trees []]):=
 H.mE (.trees []) (Fr.refl _ _) (by show Rt.Ps w [];unfold Rt.Ps;trivial) (λb hb=>by
  have:=aI.1 hb
  unfold Rt.gK at this
  cases this)
theorem qI {acc:List Rt} {t:Rt} {Q:Nat->Prop} (h:∀b∈Rt.gK acc,Q b) (ht:∀b∈t.fp,Q b):∀b∈Rt.gK (acc++[t]),Q b:=by
 intro b hb
 obtain ⟨u,hu,eD⟩:=Rt.bD.1 hb
 rcases fW.1 hu with hu|hu
 .exact h b (Rt.bD.2 ⟨u,hu,eD⟩)
 .simp at hu
  rw [hu] at eD
  exact ht b eD
abbrev Yk (N:Nat) (F:Fm) (n:Nat):Prop:=∀(x:Rt) (w:World),x.sz<=n->DM N x.rx=true->(En.fm F).P w->x.P w->Calls Tryz.prog lu #[.map (some F.m),x.v] w λr w'=>oV (x.fp++(En.fm F).fp) w (gl x.rx) r w'/\bI w w'
theorem AP {N:Nat} (hS:vW N) (hN:N+1<=1000000) {F:Fm} (hF:F.Ok):∀n:Nat,n<=1000000->Yk N F n
 |0,_=>λx w h _ _ _=>absurd h (by have:=Rt.oP x;omega)
 |n+1,hn=>λx w h rh pF px=>by
  have ih:=AP hS hN hF n (by omega)
  have hs:=Rt.gm x
  have hl:=Rt.eZ x.l
  have nr:=Rt.cC px.parts.1
  have Mp:yO N (Rt.bU x.l)=true/\uh N (.mk x.k x.lo x.hi (fU (Rt.bU x.l)))=true:=by
   rw [Rt.dC] at rh
   unfold DM at rh
   rwa [Bool.and_eq_true] at rh
  have V':0<=x.k/\x.k<8:=by
   have:=Mp.2
   unfold uh nj at this
   simp only [Bool.and_eq_true,decide_eq_true_eq] at this
   exact this.1.1.1
  have loop:∀(d i:Nat) (acc:List Rt) (sl:Sl) (br bt bn:Nat) (w1:World),i+d=x.l.length->Rt.bU acc=fU (Rt.bU (x.l.take i))->(∀b∈Rt.gK acc,w.heap.size<=b\/b∈x.fp++(En.fm F).fp)->
    LH F0 w w1 [.c br x.c aB,.c bt [.int .i64 0,.int .u8 0,.int .u8 0,.slice none 0 0] aB,.c bn [.int .i64 x.k,.int .u8 (x.lo.toNat:Int),.int .u8 (x.hi.toNat:Int),sl.v] aB,.row aB 4 sl (acc.flatMap Rt.c)] [.tree x,.fm F,.trees acc]->
    regex_normal.L0 (some F.m) (bF br) (bF bt) (bF bn) x.s ((x.s.n:Nat):Int) (i:Int) w1 λr w'=>oV (x.fp++(En.fm F).fp) w (gl x.rx) r w'/\bI w w':=by
   intro d
   induction d with
   |zero=>
    intro i acc sl br bt bn w1 hi he hf H
    rw [qtOL (by omega)] at he
    obtain ⟨f,f1,f2,f3⟩:=Ox hS (by omega) hF (H.getD 1) x.k V'.1 V'.2
    have qn:∀b∈(Rt.row sl acc).fp,w.heap.size<=b:=λb hb=>(H.new _ (cZ (i:=3) rfl) b (fQ hb)).resolve_right id
    have H':LH F0 w w1 [.c br x.c aB,.c bt [.int .i64 0,.int .u8 0,.int .u8 0,.slice none 0 0] aB,.c bn [.int .i64 x.k,.int .u8 (x.lo.toNat:Int),.int .u8 (x.hi.toNat:Int),sl.v] aB] [.tree x,.fm F,.trees acc,Rt.row sl acc,.tree (.mk x.k x.lo x.hi sl acc)]:=H.GZ 3 2 x.k x.lo x.hi
    have px':(Rt.mk x.k x.lo x.hi sl acc).P w1:=H'.getD 4
    have UT:(Rt.mk x.k x.lo x.hi sl acc).rx=.mk x.k x.lo x.hi (fU (Rt.bU x.l)):=by
     unfold Rt.rx
     rw [he]
    have dN:=Mp.2
    unfold uh at dN
    simp only [Bool.and_eq_true,decide_eq_true_eq] at dN
    have l8:(Rt.mk x.k x.lo x.hi sl acc).sz<=1000000:=by
     have h1:=Rt.g9 (Rt.mk x.k x.lo x.hi sl acc)
     rw [UT] at h1
     rw [<-h1];exact dN.1.2
    have Mo:x.k=4\/x.k=5->U9 x.k (Rt.bU acc)<=N:=λhk=>by rw [he];exact of_decide_eq_true dN.2 hk
    have YQ:gl x.rx=mS (Rt.mk x.k x.lo x.hi sl acc).rx:=by
     rw [UT,Rt.dC]
     unfold gl
     rfl
    refine regex_normal.cF _ _ _ _ _ _ _ _ _ (aL (decide_eq_false (by omega)) ⟨x.k,H.ld 0 0,f,f1,_,_,_,sl,H.ld 2 0,H.ld 2 1,H.ld 2 2,H.ld 2 3,?_⟩)
    rw [f2]
    refine (show hG true _ from ?_)
    refine (f3 (.mk x.k x.lo x.hi sl acc) w1 (H.getD 1) px' rfl Mo l8 (by rw [UT];exact dN.1.1)).mono ?_
    rintro _ w2 ⟨⟨t,rfl,ht,pt,ft⟩,f4⟩
    have H3:=H'.mE (.tree t) f4 pt (λb hb=>by
     rcases ft b (aI.1 hb) with hb|hb
     .exact .inl hb
     .rcases fW.1 hb with hb|hb
      .exact .inr (.inr ⟨_,cZ (i:=4) rfl,aI.2 hb⟩)
      .exact .inr (.inr ⟨_,cZ (i:=1) rfl,hb⟩))
    refine ⟨_,_,_,t.s,rfl,H3.CD 1 rfl λw3 H4=>⟨_,_,_,t.s,H4.ld 1 0,H4.ld 1 1,H4.ld 1 2,H4.ld 1 3,⟨t,rfl,by rw [YQ];exact ht,H4.getD 5,λb hb=>?_⟩,H4.fr⟩⟩
    rcases ft b hb with hb|hb
    .exact .inl (Nat.le_trans H.fr.size hb)
    .rcases fW.1 hb with hb|hb
     .unfold Rt.fp at hb
      rcases fW.1 hb with hb|hb
      .exact .inl (qn b hb)
      .exact hf b hb
     .exact .inr (qmR _ hb)
   |succ d pT=>
    intro i acc sl br bt bn w1 hi he hf H
    have hg:x.l[i]? =some (x.l[i]'(by omega)):=gW (by omega)
    generalize x.l[i]'(by omega)=a at hg
    have ma:=cZ hg
    have CF:=Rt.dM ma
    have fa:DM N a.rx=true:=A0 Mp.1 (by rw [Rt.eW];exact oT.2 ⟨a,ma,rfl⟩)
    have VR:∀b∈a.fp,b∈x.fp:=λb hb=>Rt.eJ.2 (.inr (Rt.bD.2 ⟨a,ma,hb⟩))
    refine regex_normal.cF _ _ _ _ _ _ _ _ _ (aQ (decide_eq_true (by omega)) (jt (show x.P w1 from H.getD 0) rfl hg (H.nw λw8 _ H8=>H8.CD 4 rfl λqV qW=>qW.dr λuD ux=>⟨sl,ux.ld 2 3,a.k,a.lo.toNat,a.hi.toNat,a.s,ux.ld 4 0,ux.ld 4 1,ux.ld 4 2,ux.ld 4 3,?_⟩)))
    refine (ih a uD (by omega) fa (ux.getD 1) ((show x.P uD from ux.getD 0).parts.2.mem ma)).mono ?_
    rintro _ C' ⟨⟨t,rfl,ht,pt,ft⟩,f4⟩
    have uy:=ux.mE (.tree t) f4 pt (λb hb=>by
     rcases ft b (aI.1 hb) with hb|hb
     .exact .inl hb
     .rcases fW.1 hb with hb|hb
      .exact .inr (.inr ⟨_,cZ (i:=0) rfl,aI.2 (VR b hb)⟩)
      .exact .inr (.inr ⟨_,cZ (i:=1) rfl,hb⟩))
    have Z2:acc.length=i:=by
     have h1:=congrArg List.length he
     rw [Rt.eW,mM,Rt.eW] at h1
     simp only [List.length_map,qlT] at h1
     omega
    have uf:=Rt.cC (uy.get 3:aP _ _ _ _ _).jh
    refine ⟨_,_,_,t.s,rfl,uy.ld 2 3,uy.Yw 3 yJ (xs:=acc.flatMap Rt.c) rfl (λw' H'=>H'.ld 2 3) (λs' Kq Da=>Da.st 2 3 rfl λKr wX=>?_) (by omega)⟩
    rw [aY _ (by omega)]
    have Fi:=(wX.zv 2 3).take 4
    refine pT (i+1) (acc++[t]) s' br bt bn Kr (by omega) ?_ (qI hf λb hb=>?_) ?_
    .rw [kh,he,qtO,hg,Option.toList_some,kh,mM,mM,List.map_append]
     show _++[t.rx]=_
     rw [ht];rfl
    .rcases ft b hb with hb|hb
     .exact .inl (Nat.le_trans ux.fr.size hb)
     .rcases fW.1 hb with hb|hb
      .exact .inr (qmL _ (VR b hb))
      .exact .inr (qmR _ hb)
    .rw [mq]
     exact Fi.forget _ (by simp)
  refine regex_normal.ok _ _ _ _ _ w _ ((mu [.tree x,.fm F] (by
   intro e he
   simp only [cU,qnM,or_false] at he
   rcases he with rfl|rfl
   .exact px
   .exact pF)).nw λw1 _ H1=>H1.nw λw2 _ H2=>⟨x.k,H2.ld 0 0,x.lo.toNat,H2.ld 0 1,x.hi.toNat,H2.ld 0 2,H2.nw λw3 _ H3=>H3.CD 2 rfl λw7 H7=>⟨x.s,H7.ld 0 3,?_⟩⟩)
  exact loop x.l.length 0 [] ⟨none,0,0⟩ _ _ _ w7 (by omega) rfl (λb hb=>by unfold Rt.gK at hb;cases hb) (Ew (H7.oJ aB 4))
theorem Ll {N:Nat} (hS:vW N) (hN:N+1<=1000000) {F:Fm} (hF:F.Ok) (x:Rt) (w:World) (h:x.sz<=1000000) (rh:DM N x.rx=true) (pF:(En.fm F).P w) (px:x.P w):Calls Tryz.prog lu #[.map (some F.m),x.v] w λr w'=>oV (x.fp++(En.fm F).fp) w (gl x.rx) r w'/\bI w w':=
 AP hS hN hF 1000000 (Nat.le_refl _) x w h rh pF px
section
variable {M:Nat->Prop} {w0 w:World} {L D:List En} {bs:List Nat}
theorem _root_.Go.W.LH.yD (H:LH M w0 w L D) {P:Program} {g:FuncId} {args:Array Value} {K:aD} {Aa:List Nat} {x:Rx} (hc:Calls P g args w λr w'=>oV Aa w x r w'/\bI w w') (hold:∀b∈Aa,∃g∈D,b∈g.fp)
  (hk:∀(t:Rt) (w':World),t.rx=x->LH M w0 w' L (D++[.tree t])->(∀b∈t.fp,w.heap.size<=b\/b∈Aa)->K (.returned t.v) w'):fV bs P g args w K:=
 ng (hc.mono λr w' ⟨⟨t,h1,h2,h3,h4⟩,f⟩=>⟨f,by
  subst h1
  exact hk t w' h2 (H.mE (.tree t) f h3 λb hb=>(h4 b (aI.1 hb)).imp id λh=>.inr (hold b h)) h4⟩)
end
end Go.Proofs.YtcifihepfadgfaaGreatDoor
