import Derived.Test.YtcifihepfadgfaaGreatDoorB
import Derived.Test.YtcifihepfadgfaaGreatDoorV
set_option linter.unusedVariables false
namespace Go.Proofs.YtcifihepfadgfaaGreatDoor
open List renaming mem_append->fW,mem_cons->cU,not_mem_nil->qnM,mem_of_getElem?->dC,getElem?_eq_getElem->g7,getElem?_eq_some_iff->nP,mem_append_left->qmL,mem_append_right->qmR,mem_flatMap->mV,mem_map->o8,length_append->qlA,append_assoc->qaA,length_take->qlT,flatMap_append->qfA,flatMap_cons->qfC,mem_cons_of_mem->qmCM,mem_cons_self->qmCS,length_set->qlS,take_append_drop->qtAD,drop_eq_getElem_cons->qdG,append_nil->qaN,take_add_one->qtO,map_cons->qmpC,drop_drop->qdD,getElem?_drop->qgD,getElem?_set_self->qgSS,drop_of_length_le->qdO,take_of_length_le->qtOL,length_reverse->qlRv
open Go Go.W
def gD (a b:Int):Int:=if a<b then -1 else if b<a then 1 else 0
def sP:List Int->Int
 |[]=>0
 |c::l=>if c≠0 then c else sP l
theorem Vk (a b:Int) (w:World):Calls Tryz.prog np #[.int .i64 a,.int .i64 b] w λr w'=>r=.returned (.int .i64 (gD a b))/\bF w w':=by
 refine cmp_Compare_int.ok _ _ w _ (cmp_isNaN_int.ok _ _ _ ⟨_,rfl,cmp_isNaN_int.ok _ _ _ ⟨_,rfl,?_⟩⟩)
 have e1:(a !=a)=false:=by simp
 have e2:(b !=b)=false:=by simp
 rw [e1,e2]
 refine aM rfl (aM rfl (aK (λh=>⟨?_,Fr.refl _ _⟩) (λh=>aK (λh2=>⟨?_,Fr.refl _ _⟩) (λh2=>⟨?_,Fr.refl _ _⟩))))
 .unfold gD;rw [if_pos h]
 .unfold gD;rw [if_neg h,if_pos h2]
 .unfold gD;rw [if_neg h,if_neg h2]
theorem Vn (a b:Int) (w:World):Calls Tryz.prog jT #[.int .u8 a,.int .u8 b] w λr w'=>r=.returned (.int .i64 (gD a b))/\bF w w':=by
 refine cmp_Compare_byte.ok _ _ w _ (cmp_isNaN_byte.ok _ _ _ ⟨_,rfl,cmp_isNaN_byte.ok _ _ _ ⟨_,rfl,?_⟩⟩)
 have e1:(a !=a)=false:=by simp
 have e2:(b !=b)=false:=by simp
 rw [e1,e2]
 refine aM rfl (aM rfl (aK (λh=>⟨?_,Fr.refl _ _⟩) (λh=>aK (λh2=>⟨?_,Fr.refl _ _⟩) (λh2=>⟨?_,Fr.refl _ _⟩))))
 .unfold gD;rw [if_pos h]
 .unfold gD;rw [if_neg h,if_pos h2]
 .unfold gD;rw [if_neg h,if_neg h2]
theorem T2 {w:World} {s:Sl} {l:List Int} (h:fB w s l) (hl:l.length<=1000000):Calls Tryz.prog oZ #[s.v] w λr w'=>r=.returned (.int .i64 (sP l))/\bF w w':=by
 refine cmp_Or_int.ok _ w _ ?_
 have hn:=fB.len h
 have loop:∀(d i:Nat),i+d=l.length->sP (l.drop i)=sP l->cmp_Or_int.L0 0 s ((s.n:Nat):Int) (i:Int) w λr w'=>r=.returned (.int .i64 (sP l))/\bF w w':=by
  intro d
  induction d with
  |zero=>
   intro i hi he
   rw [qdO (by omega)] at he
   exact cmp_Or_int.cO _ _ _ _ _ _ (aM (decide_eq_false (by omega)) ⟨by rw [<-he];rfl,Fr.refl _ _⟩)
  |succ d ih=>
   intro i hi he
   have hg:l[i]? =some (l[i]'(by omega)):=g7 (by omega)
   rw [qdG (by omega)] at he
   generalize l[i]'(by omega)=c at hg he
   refine cmp_Or_int.cO _ _ _ _ _ _ (aS (decide_eq_true (by omega)) ⟨by omega,by omega,fB.cell h hg (by simp) λp _ hp=>⟨c,hp,eB (λhc=>?_) (λhc=>?_)⟩⟩)
   .refine ⟨?_,Fr.refl _ _⟩
    rw [<-he];unfold sP;rw [if_pos hc]
   .rw [aZ _ (by omega)]
    refine ih (i+1) (by omega) ?_
    rw [<-he]
    conv=>rhs;unfold sP
    rw [if_neg (by simpa using hc)]
 exact loop l.length 0 (by omega) (by simp)
theorem MK (w:World) (l:List Int) (n:Nat) (hn:n=l.length):fB (w.alloc (.cells (l.map ia).toArray bW)) ⟨some (bD w.heap.size),n,n⟩ l:=
 ⟨by simp [hn],Nat.le_refl _,(Row.made w bW n n (l.map ia)).LD⟩
section
variable {M:Nat->Prop} {w0 w:World} {L D:List En} {bs:List Nat}
theorem _root_.Go.W.LH.or (H:LH M w0 w L D) {l:List Int} {n:Nat} {K:aD} (hn:n=l.length) (hl:l.length<=1000000) (hk:∀w',LH M w0 w' L D->K (.returned (.int .i64 (sP l))) w'):
  eV w (.cells (l.map ia).toArray bW) λw1=>fC bs Tryz.prog oZ #[.slice (some (Addr.mk w.heap.size 0 none)) n n] w1 K:=
 (H.ot (Fr.alloc _ _ _)).aL (T2 (s:=⟨some (bD w.heap.size),n,n⟩) (MK w l n hn) hl) λ_ w' hr H'=>hr▸hk w' H'
end
mutual
def cP:Rx->Rx->Int
 |.mk k lo hi l,b=>if sP [gD k b.k,gD lo.toNat b.lo.toNat,gD hi.toNat b.hi.toNat]≠0 then sP [gD k b.k,gD lo.toNat b.lo.toNat,gD hi.toNat b.hi.toNat] else cmpL l b.l
def cmpL:List Rx->List Rx->Int
 |[],[]=>0
 |[],_::_=>-1
 |_::_,[]=>1
 |a::l,b::m=>if cP a b≠0 then cP a b else cmpL l m
end
abbrev Qu (n:Nat):Prop:=∀(a b:Rt) (w:World),a.sz<=n->a.P w->b.P w->Calls Tryz.prog aU #[a.v,b.v] w λr w'=>r=.returned (.int .i64 (cP a.rx b.rx))/\bF w w'
theorem Ah (n:Nat) (hn:n<=1000000) (ih:Qu n) (la lb:List Rt) (sa sb:Sl) (w:World) (ha:jJ 4 w sa (la.flatMap Rt.c)) (hb:jJ 4 w sb (lb.flatMap Rt.c)) (pa:Rt.Ps w la) (pb:Rt.Ps w lb) (hs:Rt.fL la<=n):
  Calls Tryz.prog bO #[sa.v,sb.v,.func (.func aU) #[] #[]] w λr w'=>r=.returned (.int .i64 (cmpL (Rt.bU la) (Rt.bU lb)))/\bF w w':=by
 have na:=Rt.cB ha
 have nb:=Rt.cB hb
 have hl:=Rt.eZ la
 have loop:∀(d i:Nat) (w1:World),i+d=la.length->i<=lb.length->cmpL (Rt.bU (la.drop i)) (Rt.bU (lb.drop i))=cmpL (Rt.bU la) (Rt.bU lb)->LH F0 w w1 [] [Rt.row sa la,Rt.row sb lb,.trees la,.trees lb]->
   slices_CompareFunc_sl_regex_Regex_sl_regex_Regex_regex_Regex_regex_Regex.dY sa sb sa ((sa.n:Nat):Int) (i:Int) w1 λr w'=>r=.returned (.int .i64 (cmpL (Rt.bU la) (Rt.bU lb)))/\bF w w':=by
  intro d
  induction d with
  |zero=>
   intro i w1 hi UO he H
   rw [qdO (by omega)] at he
   refine slices_CompareFunc_sl_regex_Regex_sl_regex_Regex_regex_Regex_regex_Regex.aY _ _ _ _ _ _ _ (aM (decide_eq_false (by omega)) (aK (λh=>⟨?_,H.fr⟩) (λh=>⟨?_,H.fr⟩)))
   .rw [qdG (by omega)] at he
    rw [<-he];rfl
   .rw [qdO (by omega)] at he
    rw [<-he];rfl
  |succ d pW=>
   intro i w1 hi UO he H
   have hg:la[i]? =some (la[i]'(by omega)):=g7 (by omega)
   rw [qdG (by omega)] at he
   generalize la[i]'(by omega)=a at hg he
   refine slices_CompareFunc_sl_regex_Regex_sl_regex_Regex_regex_Regex_regex_Regex.aY _ _ _ _ _ _ _ (aS (decide_eq_true (by omega)) ⟨by omega,by omega,?_⟩)
   refine Rt.at' (H.getD 0) hg λp hp c=>⟨_,_,_,_,c.c0,c.c1,c.c2,c.c3,H.bI λb8 w2 H2=>aK (λAo=>H2.aN λw3 H3=>⟨?_,H3.fr⟩) (λlC=>⟨by omega,by omega,?_⟩)⟩
   .have aau:((sb.n:Nat):Int)<=(i:Int):=Ao
    rw [qdO (by omega:lb.length<=i)] at he
    rw [<-he];rfl
   .have aav:¬((sb.n:Nat):Int)<=(i:Int):=lC
    have QZ:lb[i]? =some (lb[i]'(by omega)):=g7 (by omega)
    rw [qdG (by omega:i<lb.length)] at he
    generalize lb[i]'(by omega)=b at QZ he
    refine Rt.at' (H2.getD 1) QZ λq hq _=>H2.aN λw3 H3=>?_
    have c:=Rt.again (H3.getD 1) QZ hq
    refine ⟨_,_,_,_,c.c0,c.c1,c.c2,c.c3,H3.bI λb9 w4 H4=>H4.aN λw5 H5=>?_⟩
    have CE:=Rt.dK (dC hg)
    refine H5.aL (ih a b w5 (by omega) (Rt.Ps.get (H5.getD 2) hg) (Rt.Ps.get (H5.getD 3) QZ)) ?_
    rintro _ w6 rfl H6
    have e2:cmpL (Rt.bU (a::la.drop (i+1))) (Rt.bU (b::lb.drop (i+1)))=if cP a.rx b.rx≠0 then cP a.rx b.rx else cmpL (Rt.bU (la.drop (i+1))) (Rt.bU (lb.drop (i+1))):=rfl
    rw [e2] at he
    refine ⟨_,rfl,eB (λhc=>⟨?_,H6.fr⟩) (λhc=>?_)⟩
    .rw [if_pos hc] at he
     rw [he]
    .rw [if_neg (by simpa using hc)] at he
     rw [aZ _ (by omega)]
     exact pW (i+1) w6 (by omega) (by omega) he (H6.take 0)
 exact slices_CompareFunc_sl_regex_Regex_sl_regex_Regex_regex_Regex_regex_Regex.cT _ _ w _ (loop la.length 0 w (by omega) (by omega) (by simp) (mf _ (by
  intro e he
  simp only [cU,qnM,or_false] at he
  rcases he with rfl|rfl|rfl|rfl
  .exact ha
  .exact hb
  .exact pa
  .exact pb)))
theorem yw:∀n:Nat,n<=1000000->Qu n
 |0,_=>λa b w h _ _=>absurd h (by have:=Rt.oQ a;omega)
 |n+1,hn=>λa b w h pa pb=>by
  have ih:=yw n (by omega)
  have hs:=Rt.gm a
  have ha:=pa.parts
  have hb:=pb.parts
  refine regex_Compare.cT _ _ _ _ _ _ _ _ w _ ((mf [.tree a,.tree b] (by
   intro e he
   simp only [cU,qnM,or_false] at he
   rcases he with rfl|rfl
   .exact pa
   .exact pb)).bI λb2 w1 H1=>H1.bI λb3 w2 H2=>H2.aN λw3 H3=>H3.aL (Vk _ _ w3) ?_)
  rintro _ w4 rfl H4
  refine ⟨_,rfl,H4.aL (Vn _ _ w4) ?_⟩
  rintro _ w5 rfl H5
  refine ⟨_,rfl,H5.aL (Vn _ _ w5) ?_⟩
  rintro _ w6 rfl H6
  refine ⟨_,rfl,H6.or (l:=[gD a.k b.k,gD a.lo.toNat b.lo.toNat,gD a.hi.toNat b.hi.toNat]) rfl (by simp) λw7 H7=>?_⟩
  have e:cP a.rx b.rx=if sP [gD a.k b.k,gD a.lo.toNat b.lo.toNat,gD a.hi.toNat b.hi.toNat]≠0 then sP [gD a.k b.k,gD a.lo.toNat b.lo.toNat,gD a.hi.toNat b.hi.toNat] else cmpL (Rt.bU a.l) (Rt.bU b.l):=by
   rw [Rt.c9 a,Rt.c9 b];unfold cP;rfl
  refine ⟨_,rfl,eB (λhc=>⟨?_,H7.fr⟩) (λhc=>?_)⟩
  .rw [e,if_pos hc]
  .have pa7:a.P w7:=H7.getD 0
   have pb7:b.P w7:=H7.getD 1
   refine H7.aL (Ah n (by omega) ih a.l b.l a.s b.s w7 pa7.parts.1 pb7.parts.1 pa7.parts.2 pb7.parts.2 (by omega)) ?_
   rintro _ w8 rfl H8
   refine ⟨_,rfl,?_,H8.fr⟩
   rw [e,if_neg (by simpa using hc)]
theorem AM (a b:Rt) (w:World) (h:a.sz<=1000000) (pa:a.P w) (pb:b.P w):Calls Tryz.prog aU #[a.v,b.v] w λr w'=>r=.returned (.int .i64 (cP a.rx b.rx))/\bF w w':=yw 1000000 (Nat.le_refl _) a b w h pa pb
theorem uO (a b:Rt) (w:World) (h:a.sz<=1000000) (pa:a.P w) (pb:b.P w):Calls Tryz.prog eE #[a.v,b.v] w λr w'=>r=.returned (.bool (cP a.rx b.rx==0))/\bF w w':=by
 refine regex_equal.cT _ _ _ _ _ _ _ _ w _ ((mf [.tree a,.tree b] (by
  intro e he
  simp only [cU,qnM,or_false] at he
  rcases he with rfl|rfl
  .exact pa
  .exact pb)).bI λb2 w1 H1=>H1.bI λb3 w2 H2=>H2.aL (AM a b w2 h (H2.getD 0) (H2.getD 1)) ?_)
 rintro _ w3 rfl H3
 exact ⟨_,rfl,rfl,H3.fr⟩
theorem y9 {w:World} {t:Rt} (h:t.P w):LH F0 w w [] [.tree t]:=mf _ (by
 intro e he
 simp only [cU,qnM,or_false] at he
 subst he
 exact h)
def oC (w:World) (x:Rx) (r:Ending) (w':World):Prop:=∃t:Rt,r=.returned t.v/\t.rx=x/\t.P w'/\∀b∈t.fp,w.heap.size<=b
section
variable {M:Nat->Prop} {w0 w:World} {L D:List En} {bs:List Nat}
theorem _root_.Go.W.LH.zu (H:LH M w0 w L D) (i j:Nat) {ts:List Rt} {t:Rt} (hi:D[i]? =some (.trees ts):=by rfl) (hj:D[j]? =some (.tree t):=by rfl):LH M w0 w L (D++[.trees (ts++[t])]):=by
 refine H.oe _ (Fr.refl _ _) (Rt.ox λt' ht=>?_) λb hb=>.inr (.inr ?_)
 .rcases fW.1 ht with ht|ht
  .exact Rt.Ps.mem (H.getD i hi) ht
  .simp at ht;subst ht;exact H.getD j hj
 .obtain ⟨t',ht,eC⟩:=Rt.bC.1 (aI.1 hb)
  rcases fW.1 ht with ht|ht
  .exact ⟨_,dC hi,aI.2 (Rt.bC.2 ⟨t',ht,eC⟩)⟩
  .simp at ht
   rw [ht] at eC
   exact ⟨_,dC hj,aI.2 eC⟩
theorem fQ {e:TypeId} {s:Sl} {vs:List Value} {b:Nat} (h:b∈(En.iQ 4 s vs).fp):b∈(En.row e 4 s vs).fp:=by
 have:b∈(if vs=[] then [] else bA s):=h
 split at this
 .cases this
 .exact this
theorem _root_.Go.W.LH.GO (H:LH M w0 w L D) (i j:Nat) {e:TypeId} {s:Sl} {ts:List Rt} (k:Int) (lo hi:UInt8) (vX:L[i]? =some (.row e 4 s (ts.flatMap Rt.c)):=by rfl) (hj:D[j]? =some (.trees ts):=by rfl):LH M w0 w (L.eraseIdx i) (D++[Rt.row s ts]++[.tree (.mk k lo hi s ts)]):=by
 have H1:=H.freeze i (Rt.row s ts) vX (aO.iQ (H.get i vX)) λb hb=>fQ hb
 refine H1.oe _ (Fr.refl _ _) ?_ λb hb=>.inr (.inr ?_)
 .show Rt.P w _
  unfold Rt.P
  exact ⟨aO.iQ (H.get i vX),H.getD j hj⟩
 .have eC:=aI.1 hb
  unfold Rt.fp at eC
  rcases fW.1 eC with eC|eC
  .exact ⟨_,qmR _ (by simp),eC⟩
  .exact ⟨_,qmL _ (dC hj),aI.2 eC⟩
end
theorem AQ (l:List Rt):∀u∈l.flatMap Rt.c,u.oneCell'=true:=λu hu=>by
 obtain ⟨e,_,h⟩:=mV.1 hu
 simp only [Rt.c,cU,qnM,or_false] at h
 rcases h with rfl|rfl|rfl|rfl<;>rfl
theorem yL:iK Tryz.prog aF aB (.agg #[.int .i64 0,.int .u8 0,.int .u8 0,.slice none 0 0]) 4 40:=⟨by kernel_rfl,by kernel_rfl,rfl,by decide,by decide⟩
theorem mw (l:List Rt) (t:Rt):(l++[t]).flatMap Rt.c=l.flatMap Rt.c++t.c:=by simp
theorem kg (l m:List Rt):Rt.bU (l++m)=Rt.bU l++Rt.bU m:=by simp [Rt.eW]
theorem tt:∀(l m:List Rt),Rt.fL (l++m)=Rt.fL l+Rt.fL m
 |[],m=>by simp [Rt.fL]
 |t::l,m=>by
  show t.sz+Rt.fL (l++m)=t.sz+Rt.fL l+Rt.fL m
  rw [tt l m]
  omega
theorem ql (l:List Rt) (i:Nat):Rt.fL (l.take i)<=Rt.fL l:=by
 have:=tt (l.take i) (l.drop i)
 rw [qtAD] at this
 omega
abbrev X5 (n:Nat):Prop:=∀(t:Rt) (x:Nat) (w:World),t.sz<=n->x<=1000000->t.P w->Calls Tryz.prog kO #[t.v,.int .i64 (x:Int)] w λr w'=>r=.returned (.int .i64 (max ((x:Int) - t.sz) (-1)))/\bF w w'
theorem uN:∀n:Nat,n<=1000000->X5 n
 |0,_=>λt x w h _ _=>absurd h (by have:=Rt.oQ t;omega)
 |n+1,hn=>λt x w h hx pt=>by
  have ih:=uN n (by omega)
  have hs:=Rt.gm t
  have hl:=Rt.eZ t.l
  have loop:∀(d i:Nat) (y:Int) (b2:Nat) (w1:World),i+d=t.l.length->-1<=y->y<=1000000->max (y - Rt.fL (t.l.drop i)) (-1)=max ((x:Int) - t.sz) (-1)->LH F0 w w1 [.g b2] [.tree t]->
    regex_countdown.l6 y b2 t.k t.lo.toNat t.hi.toNat t.s (i:Int) w1 λr w'=>r=.returned (.int .i64 (max ((x:Int) - t.sz) (-1)))/\bF w w':=by
   intro d
   induction d with
   |zero=>
    intro i y b2 w1 hi hy TL he H
    have nr:=Rt.cB (show t.P w1 from H.getD 0).parts.1
    rw [qdO (by omega)] at he
    refine regex_countdown.dI _ _ _ _ _ _ _ _ _ (aM (decide_eq_false (by omega)) ⟨?_,H.fr⟩)
    rw [<-he]
    congr 2
    simp only [Rt.fL]
    omega
   |succ d pW=>
    intro i y b2 w1 hi hy TL he H
    have nr:=Rt.cB (show t.P w1 from H.getD 0).parts.1
    have hg:t.l[i]? =some (t.l[i]'(by omega)):=g7 (by omega)
    rw [qdG (by omega)] at he
    generalize t.l[i]'(by omega)=a at hg he
    have CE:=Rt.dK (dC hg)
    unfold Rt.fL at he
    refine regex_countdown.dI _ _ _ _ _ _ _ _ _ (aS (decide_eq_true (by omega)) (aK (λZS=>⟨by omega,by omega,?_⟩) (λZS=>⟨?_,H.fr⟩)))
    .have JY:t.P w1:=H.getD 0
     refine Rt.at' JY.parts.1 hg λp hp c=>⟨_,_,_,_,c.c0,c.c1,c.c2,c.c3,?_⟩
     have Wj:0<=y:=ZS
     obtain ⟨m,rfl⟩:=Int.eq_ofNat_of_zero_le Wj
     refine H.aL (ih a m w1 (by omega) (by omega) (JY.parts.2.get hg)) ?_
     rintro _ w2 rfl H2
     refine ⟨_,rfl,?_⟩
     rw [aZ _ (by omega)]
     refine pW (i+1) _ b2 w2 (by omega) (by omega) (by omega) ?_ H2
     rw [<-he]
     omega
    .have Wj:¬0<=y:=ZS
     rw [<-he]
     have:y=-1:=by omega
     subst this
     congr 2
     omega
  have e:IntKind.wrap .i64 ((x:Int) - 1)=(x:Int) - 1:=IntWalk.i64_in _ (by omega)
  refine regex_countdown.cT _ _ _ _ _ w _ ((y9 pt).bI λb2 w1 H1=>?_)
  rw [e]
  refine loop t.l.length 0 _ b2 w1 (by omega) (by omega) (by omega) ?_ H1
  rw [List.drop_zero,hs]
  omega
theorem tV (t:Rt) (w:World) (h:t.sz<=1000000) (pt:t.P w):Calls Tryz.prog jE #[t.v] w λr w'=>r=.returned (.bool (decide (64<t.sz)))/\bF w w':=by
 refine regex_tooLarge.cT _ _ _ _ w _ ((y9 pt).bI λb1 w1 H1=>H1.aL (uN 1000000 (Nat.le_refl _) t 64 w1 h (by omega) (H1.getD 0)) ?_)
 rintro _ w2 rfl H2
 refine ⟨_,rfl,?_,H2.fr⟩
 congr 2
 exact decide_eq_decide.2 (by omega)
mutual
def dS:Rx->Bool
 |.mk k lo hi l=>!(k !=2&&(lo !=0||hi !=0))&&(if k=0\/k=1 then l.isEmpty else if k=2 then l.isEmpty&&decide (lo.toNat<=hi.toNat) else if k=3\/k=4\/k=5 then gA l else if k=6\/k=7 then l.length==1&&gA l else false)
def gA:List Rx->Bool
 |[]=>true
 |t::l=>dS t&&gA l
end
abbrev Yf (n:Nat):Prop:=∀(t:Rt) (w:World),t.sz<=n->t.P w->Calls Tryz.prog nu #[t.v] w λr w'=>r=.returned (.bool (dS t.rx))/\bF w w'
theorem BZ (l:List Rt):(Rt.bU l).isEmpty=(((l.length:Nat):Int)==0):=by
 rw [Rt.eW]
 cases l with
 |nil=>rfl
 |cons a l=>
  simp
  omega
theorem AR:∀n:Nat,n<=1000000->Yf n
 |0,_=>λt w h _=>absurd h (by have:=Rt.oQ t;omega)
 |n+1,hn=>λt w h pt=>by
  have ih:=AR n (by omega)
  have hs:=Rt.gm t
  have hl:=Rt.eZ t.l
  have nr:=Rt.cB pt.parts.1
  have loop:∀(b:Bool),dS t.rx=(b&&gA (Rt.bU t.l))->b=true->∀(d i:Nat) (w1:World),i+d=t.l.length->gA (Rt.bU (t.l.drop i))=gA (Rt.bU t.l)->LH F0 w w1 [] [.tree t]->
    regex_proper.BF t.s ((t.s.n:Nat):Int) (i:Int) w1 λr w'=>r=.returned (.bool (dS t.rx))/\bF w w':=by
   intro b hb yV d
   subst yV
   rw [Bool.true_and] at hb
   induction d with
   |zero=>
    intro i w1 hi he H
    rw [qdO (by omega)] at he
    refine regex_proper.m8 _ _ _ _ _ (aM (decide_eq_false (by omega)) ⟨?_,H.fr⟩)
    rw [hb,<-he];rfl
   |succ d pW=>
    intro i w1 hi he H
    have hg:t.l[i]? =some (t.l[i]'(by omega)):=g7 (by omega)
    rw [qdG (by omega)] at he
    generalize t.l[i]'(by omega)=a at hg he
    have CE:=Rt.dK (dC hg)
    have mJ:(dS a.rx&&gA (Rt.bU (t.l.drop (i+1))))=gA (Rt.bU t.l):=he
    have JY:t.P w1:=H.getD 0
    refine regex_proper.m8 _ _ _ _ _ (aS (decide_eq_true (by omega)) ⟨by omega,by omega,?_⟩)
    refine Rt.at' JY.parts.1 hg λp hp c=>⟨_,_,_,_,c.c0,c.c1,c.c2,c.c3,H.bI λb4 w2 H2=>H2.aN λw3 H3=>H3.aL (ih a w3 (by omega) ((show t.P w3 from H3.getD 0).parts.2.get hg)) ?_⟩
    rintro _ w4 rfl H4
    refine ⟨_,rfl,eO (λhf=>⟨?_,H4.fr⟩) (λht=>?_)⟩
    .rw [hb,<-mJ,hf];rfl
    .rw [aZ _ (by omega)]
     rw [ht,Bool.true_and] at mJ
     exact pW (i+1) w4 (by omega) mJ (H4.take 0)
  have er:=Rt.c9 t
  have nz:∀x:UInt8,(((x.toNat:Nat):Int) !=0)=(x !=0):=λx=>by
   by_cases hx:x=0
   .subst hx;rfl
   .have h1:(x !=0)=true:=by simpa using hx
    rw [h1]
    have:x.toNat≠0:=λh0=>hx (UInt8.toNat_inj.1 (by simpa using h0))
    simp
    omega
  refine regex_proper.cT _ _ _ _ w _ ((y9 pt).bI λb1 w1 H1=>?_)
  have out:∀b:Bool,dS t.rx=b->(Ending.returned (.bool b)=.returned (.bool (dS t.rx))/\bF w w1):=λb hb=>⟨by rw [hb],H1.fr⟩
  have s4:dS t.rx=gA (Rt.bU t.l)->regex_proper.pj b1 t.k t.lo.toNat t.hi.toNat t.s w1 λr w'=>r=.returned (.bool (dS t.rx))/\bF w w':=λhb=>loop true (by rw [hb];rfl) rfl t.l.length 0 w1 (by omega) (by simp) (H1.take 0)
  have s1:(t.k !=2&&(t.lo !=0||t.hi !=0))=false->regex_proper.fY b1 t.k t.lo.toNat t.hi.toNat t.s w1 λr w'=>r=.returned (.bool (dS t.rx))/\bF w w':=by
   intro h0
   have eg:dS t.rx=(if t.k=0\/t.k=1 then (Rt.bU t.l).isEmpty else if t.k=2 then (Rt.bU t.l).isEmpty&&decide (t.lo.toNat<=t.hi.toNat) else if t.k=3\/t.k=4\/t.k=5 then gA (Rt.bU t.l) else if t.k=6\/t.k=7 then (Rt.bU t.l).length==1&&gA (Rt.bU t.l) else false):=by
    rw [er]
    unfold dS
    rw [h0];rfl
   have s2:t.k=0\/t.k=1->regex_proper.eY b1 t.k t.lo.toNat t.hi.toNat t.s w1 λr w'=>r=.returned (.bool (dS t.rx))/\bF w w':=λhk=>out _ (by rw [eg,if_pos hk,BZ,nr])
   have s7:t.k=6\/t.k=7->regex_proper.Hi b1 t.k t.lo.toNat t.hi.toNat t.s w1 λr w'=>r=.returned (.bool (dS t.rx))/\bF w w':=λhk=>by
    have e7:dS t.rx=((Rt.bU t.l).length==1&&gA (Rt.bU t.l)):=by rw [eg,if_neg (by omega),if_neg (by omega),if_neg (by omega),if_pos hk]
    have el:(Rt.bU t.l).length=t.s.n:=by rw [Rt.eW];simp [nr]
    refine eB (λh1=>out false ?_) (λh1=>s4 ?_)
    .rw [e7,el]
     have:(t.s.n==1)=false:=by simp;omega
     rw [this];rfl
    .rw [e7,el]
     have:(t.s.n==1)=true:=by simp;omega
     rw [this];rfl
   have s6:t.k≠0->t.k≠1->t.k≠2->t.k≠3->t.k≠4->t.k≠5->regex_proper.xj b1 t.k t.lo.toNat t.hi.toNat t.s t.k w1 λr w'=>r=.returned (.bool (dS t.rx))/\bF w w':=λk0 k1 k2 k3 k4 k5=>
    aJ (λhk=>aS (by simp [hk]) (s7 (.inl hk))) (λk6=>aJ (λhk=>s7 (.inr hk)) (λk7=>out false (by rw [eg,if_neg (by omega),if_neg (by omega),if_neg (by omega),if_neg (by omega)])))
   have e4:t.k=3\/t.k=4\/t.k=5->dS t.rx=gA (Rt.bU t.l):=λhk=>by rw [eg,if_neg (by omega),if_neg (by omega),if_pos hk]
   have s3:t.k≠0->t.k≠1->regex_proper.hU b1 t.k t.lo.toNat t.hi.toNat t.s t.k w1 λr w'=>r=.returned (.bool (dS t.rx))/\bF w w':=λk0 k1=>
    aJ (λhk=>by
     have e2:dS t.rx=((Rt.bU t.l).isEmpty&&decide (t.lo.toNat<=t.hi.toNat)):=by rw [eg,if_neg (by omega),if_pos hk]
     refine bB (λhn=>out _ ?_) (λhn=>out false ?_)
     .rw [e2,BZ,<-nr,hn,Bool.true_and]
      exact decide_eq_decide.2 (by omega)
     .rw [e2,BZ,<-nr,hn];rfl)
    (λk2=>aJ (λhk=>aS (by simp [hk]) (s4 (e4 (.inl hk)))) (λk3=>aJ (λhk=>aS (by simp [hk]) (s4 (e4 (.inr (.inl hk))))) (λk4=>aJ (λhk=>s4 (e4 (.inr (.inr hk)))) (λk5=>s6 k0 k1 k2 k3 k4 k5))))
   exact aJ (λhk=>aS (by simp [hk]) (s2 (.inl hk))) (λk0=>aJ (λhk=>s2 (.inr hk)) (λk1=>s3 k0 k1))
  have bad:(t.k !=2&&(t.lo !=0||t.hi !=0))=true->dS t.rx=false:=λhb=>by
   rw [er]
   unfold dS
   rw [hb];rfl
  refine bB (λh2=>bB (λrV=>out false (bad ?_)) (λrV=>bB (λOU=>out false (bad ?_)) (λOU=>s1 ?_))) (λh2=>s1 ?_)
  .rw [h2,<-nz,rV];rfl
  .rw [h2,<-nz t.hi,OU];simp
  .rw [<-nz,<-nz,rV,OU];simp
  .rw [h2];rfl
def mP (x:Rx):Int:=if 64<x.sz then 4 else if dS x then 0 else 1
theorem Hp (t:Rt) (w:World) (h:t.sz<=1000000) (pt:t.P w):Calls Tryz.prog n8 #[t.v] w λr w'=>r=.returned (.int .i64 (mP t.rx))/\bF w w':=by
 refine regex_Valid.cT _ _ _ _ w _ ((y9 pt).bI λb1 w1 H1=>H1.aL (tV t w1 h (H1.getD 0)) ?_)
 rintro _ w2 rfl H2
 refine ⟨_,rfl,aK (λhl=>⟨?_,H2.fr⟩) (λhl=>H2.aL (AR 1000000 (Nat.le_refl _) t w2 h (H2.getD 0)) ?_)⟩
 .unfold mP;rw [Rt.hM,if_pos hl]
 rintro _ w3 rfl H3
 refine ⟨_,rfl,eO (λhg=>⟨?_,H3.fr⟩) (λhg=>⟨?_,H3.fr⟩)⟩
 .unfold mP;rw [Rt.hM,if_neg hl,hg];rfl
 .unfold mP;rw [Rt.hM,if_neg hl,hg];rfl
abbrev X6 (n:Nat):Prop:=∀(t:Rt) (w:World),t.sz<=n->t.P w->Calls Tryz.prog mm #[t.v] w λr w'=>oC w t.rx r w'/\bF w w'
theorem Df:∀n:Nat,n<=1000000->X6 n
 |0,_=>λt w h _=>absurd h (by have:=Rt.oQ t;omega)
 |n+1,hn=>λt w h pt=>by
  have ih:=Df n (by omega)
  have hs:=Rt.gm t
  have hl:=Rt.eZ t.l
  have nr:=Rt.cB pt.parts.1
  have loop:∀(d i:Nat) (ks:List Rt) (sl:Sl) (b1 b2:Nat) (w1:World),i+d=t.l.length->ks.length=i->Rt.bU ks=Rt.bU (t.l.take i)->(∀b∈Rt.gN ks,w.heap.size<=b)->LH F0 w w1 [.g b1,.g b2,.row aB 4 sl (ks.flatMap Rt.c)] [.tree t,.trees ks]->
    regex_clone.dY b1 t.k t.lo.toNat t.hi.toNat t.s b2 0 0 0 ⟨none,0,0⟩ sl t.s ((t.s.n:Nat):Int) (i:Int) w1 λr w'=>oC w t.rx r w'/\bF w w':=by
   intro d
   induction d with
   |zero=>
    intro i ks sl b1 b2 w1 hi hk he hf H
    refine regex_clone.aY _ _ _ _ _ _ _ _ _ _ _ _ _ _ _ _ (aM (decide_eq_false (by omega)) (H.aN λw2 H2=>⟨⟨.mk t.k t.lo t.hi sl ks,rfl,?_,?_,λb hb=>?_⟩,H2.fr⟩))
    .rw [Rt.c9 t]
     unfold Rt.rx
     rw [he,qtOL (by omega)]
    .unfold Rt.P
     exact ⟨aO.iQ (H2.get 2),H2.getD 1⟩
    .unfold Rt.fp at hb
     rcases fW.1 hb with hb|hb
     .exact (H2.new _ (dC (i:=2) rfl) b (fQ hb)).resolve_right id
     .exact hf b hb
   |succ d pW=>
    intro i ks sl b1 b2 w1 hi hk he hf H
    have hg:t.l[i]? =some (t.l[i]'(by omega)):=g7 (by omega)
    generalize t.l[i]'(by omega)=a at hg
    have CE:=Rt.dK (dC hg)
    have JY:t.P w1:=H.getD 0
    refine regex_clone.aY _ _ _ _ _ _ _ _ _ _ _ _ _ _ _ _ (aS (decide_eq_true (by omega)) ⟨by omega,by omega,?_⟩)
    refine Rt.at' JY.parts.1 hg λp hp c=>⟨_,_,_,_,c.c0,c.c1,c.c2,c.c3,H.bI λb5 w2 H2=>H2.aN λw3 H3=>H3.ss (ih a w3 (by omega) ((show t.P w3 from H3.getD 0).parts.2.get hg)) ?_⟩
    rintro _ w4 ⟨u,rfl,hu,pu,fu⟩ _ F4
    have H4:=F4.rd (.tree u) pu λb hb=>fu b (aI.1 hb)
    have wC:=Rt.cB (H4.get 2:aO _ _ _ _ _).iQ
    refine ⟨_,_,_,_,rfl,H4.tS 2 yL rfl (λs' w5 H5=>?_) (by omega)⟩
    have H6:=(H5.zu 1 2).take 3
    rw [aZ _ (by omega)]
    refine pW (i+1) (ks++[u]) s' b1 b2 w5 (by omega) (by simp [hk]) ?_ ?_ ?_
    .rw [kg,he,qtO,hg,kg]
     simp [Rt.bU,hu]
    .intro b hb
     obtain ⟨t',ht,eC⟩:=Rt.bC.1 hb
     rcases fW.1 ht with ht|ht
     .exact hf b (Rt.bC.2 ⟨t',ht,eC⟩)
     .simp at ht
      rw [ht] at eC
      exact Nat.le_trans H3.fr.size (fu b eC)
    .rw [mw]
     exact H6.forget _ (by simp)
  refine regex_clone.cT _ _ _ _ w _ ((y9 pt).bI λb1 w1 H1=>H1.bI λb2 w2 H2=>?_)
  have H3:=H2.oL aB 4
  have H4:=H3.oe (.trees []) (Fr.refl _ _) (by show Rt.Ps w2 [];unfold Rt.Ps;trivial) (λb hb=>by
   have:=aI.1 hb
   unfold Rt.gN at this
   cases this)
  exact loop t.l.length 0 [] ⟨none,0,0⟩ b1 b2 w2 (by omega) rfl rfl (λb hb=>by unfold Rt.gN at hb;cases hb) H4
theorem Oi (t:Rt) (w:World) (h:t.sz<=1000000) (pt:t.P w):Calls Tryz.prog mm #[t.v] w λr w'=>oC w t.rx r w'/\bF w w':=Df 1000000 (Nat.le_refl _) t w h pt
def wI:Rx:=.mk 0 0 0 []
def Eb (x:Rx):Int:=if 64<x.sz then 4 else 0
def Ec (x:Rx):Rx:=if 64<x.sz then wI else x
def QG (w:World) (x:Rx) (c:Int) (r:Ending) (w':World):Prop:=∃t:Rt,r=.returned (.tuple #[t.v,.int .i64 c])/\t.rx=x/\t.P w'/\∀b∈t.fp,w.heap.size<=b
theorem Ik (w:World):(Rt.mk 0 0 0 ⟨none,0,0⟩ []).P w:=by
 unfold Rt.P Rt.Ps
 exact ⟨jJ.nil 4 w,trivial⟩
theorem Rw {b:Nat} (h:b∈(Rt.mk 0 0 0 ⟨none,0,0⟩ []).fp):False:=by
 unfold Rt.fp Rt.gN at h
 simp [En.iQ] at h
theorem Jd (t:Rt) (w:World) (h:t.sz<=1000000) (pt:t.P w):Calls Tryz.prog oI #[t.v] w λr w'=>QG w (Ec t.rx) (Eb t.rx) r w'/\bF w w':=by
 refine regex_limited.cT _ _ _ _ w _ ((y9 pt).bI λb1 w1 H1=>H1.bI λb2 w2 H2=>H2.aL (tV t w2 h (H2.getD 0)) ?_)
 rintro _ w3 rfl H3
 refine ⟨_,rfl,aK (λhl=>H3.aN λw4 H4=>⟨⟨.mk 0 0 0 ⟨none,0,0⟩ [],?_,?_,Ik _,λb hb=>(Rw hb).elim⟩,H4.fr⟩) (λhl=>H3.ss (Oi t w3 h (H3.getD 0)) ?_)⟩
 .unfold Eb;rw [Rt.hM,if_pos hl];rfl
 .unfold Ec;rw [Rt.hM,if_pos hl];rfl
 rintro _ w4 ⟨u,rfl,hu,pu,fu⟩ _ F4
 have H4:=F4.rd (.tree u) pu λb hb=>fu b (aI.1 hb)
 refine ⟨_,_,_,_,rfl,H4.aN λw5 H5=>⟨⟨u,?_,?_,H5.getD 1,λb hb=>Nat.le_trans H3.fr.size (fu b hb)⟩,H5.fr⟩⟩
 .unfold Eb;rw [Rt.hM,if_neg hl]
 .unfold Ec;rw [Rt.hM,if_neg hl,hu]
theorem Bv {w:World} {g:Nat} {cur:Array Value} {t:TypeId} (hg:w.heap[g]? =some (.cells cur t (0,0))) (vs:Array Value):w.setRow g vs=w.putObj g (.cells vs t (0,0)):=by
 unfold World.setRow World.putObj
 congr 1
 apply Array.ext_getElem?
 intro i
 rw [Array.getElem?_modify,Array.getElem?_setIfInBounds]
 by_cases hi:g=i
 .subst hi
  have:=gg hg
  simp [this,(Array.getElem?_eq_some_iff.1 hg).2]
 .simp [hi]
theorem Va (g k:Nat):(⟨g,0,none⟩:Addr).add k=⟨g,k,none⟩:=by
 unfold Addr.add
 split<;>simp_all
theorem HE {P:Program} {t ty e:TypeId} {z:Value} {sz bytes:Nat} (el:iK P t e z sz bytes) (h1:∀u∈z.cells.toList,u.oneCell'=true) (hzs:z.cells.size=sz) {w:World} {s:Sl} {vs:List Value} (h:aO w e sz s vs) (l:Nat) (hl:l<=s.n):
  ∃w',(Builtin.clear_ #[t] ty #[.slice (if s.c=l then s.a else s.a.map (·.add (l *sz))) (s.n - l) (s.c - l)]).run P w=.ok (.tuple #[]) w'/\
   aO w' e sz ⟨if s.c=0 then s.a else s.a.map (·.add (0 *sz)),l - 0,s.c - 0⟩ (vs.take (l *sz))/\Fr (·∈bA s) w w':=by
 have hlen:=h.len
 obtain ⟨sa,sn,sc⟩:=s
 simp only at hl hlen
 have Aq:∀q:Option Addr,(if sc=0 then q else q.map (·.add (0 *sz)))=q:=λq=>by
  split
  .rfl
  .cases q with
   |none=>rfl
   |some p=>rw [Nat.zero_mul,Option.map_some,tR]
 rw [Aq,Nat.sub_zero,Nat.sub_zero]
 have Vw:∀(w':World) (g:Nat) (xO:Array Value),sa=some ⟨g,0,none⟩->sn<=sc->sc<=maxLen->w'.heap[g]? =some (.cells xO e (0,0))->xO.size=sc *sz->xO.toList.take (l *sz)=vs.take (l *sz)->aO w' e sz ⟨sa,l,sc⟩ (vs.take (l *sz)):=by
  intro w' g xO ha OY hc hg me ht
  subst ha
  have e1:l *sz<=sn *sz:=Nat.mul_le_mul_right _ hl
  refine ⟨by rw [qlT,hlen,Nat.min_eq_left e1],.inr ⟨g,sc,xO,rfl,Nat.zero_le _,hg,by show l<=sc;omega,hc,me,ht⟩⟩
 rcases h.cases with ⟨hs,rfl⟩|⟨g,cur,ha,hg,Jt,h2,h3,h4⟩
 .cases hs
  have:l=0:=by omega
  subst this
  refine ⟨w,?_,?_,Fr.refl _ _⟩
  .simp [Builtin.clear_,run_underlying el.ht]
  .simpa using aO.nil w e sz
 .simp only at ha Jt h2 h3 h4
  subst ha
  have e1:l *sz<=sn *sz:=Nat.mul_le_mul_right _ hl
  have e2:sn *sz<=sc *sz:=Nat.mul_le_mul_right _ Jt
  have ht0:cur.toList.take (l *sz)=vs.take (l *sz):=by rw [<-h4,List.take_take,Nat.min_eq_left e1]
  by_cases hn:sn - l=0
  .refine ⟨w,?_,Vw w g cur rfl Jt h2 hg h3 ht0,Fr.refl _ _⟩
   rw [hn]
   by_cases HU:sc=l
   .simp [Builtin.clear_,run_underlying el.ht,HU]
   .simp [Builtin.clear_,run_underlying el.ht,HU]
  .have HU:sc≠l:=by omega
   obtain ⟨inf,hi,hz,me,HR⟩:=info_parts el.hi
   have hzv:(zeroValue e).run P w=.ok z w:=by simp [zeroValue,typeInfo,hi,hz]
   have hlz:(Builtin.zeroCells z.cells (sn - l)).toList.length=(sn - l) *sz:=by simp [Builtin.zeroCells,hzs]
   have Cc:∀v∈(Builtin.zeroCells z.cells (sn - l)).toList,v.oneCell'=true:=by
    intro v hv
    unfold Builtin.zeroCells at hv
    rw [Array.toList_map,o8] at hv
    obtain ⟨j,hj,rfl⟩:=hv
    by_cases h0:0<z.cells.size
    .have lC:j%z.cells.size<z.cells.size:=Nat.mod_lt _ h0
     rw [getElem!_pos z.cells _ lC]
     exact h1 _ (by simp)
    .have h00:z.cells.size=0:=by omega
     simp [h00] at hj
   have hle:(sn - l) *sz=sn *sz - l *sz:=Nat.sub_mul _ _ _
   have ri:l *sz+0+(Builtin.zeroCells z.cells (sn - l)).toList.length<=cur.size:=by
    rw [hlz,h3]
    omega
   have lH:=run_storeCells_at (P:=P) g (l *sz) e (Builtin.zeroCells z.cells (sn - l)).toList 0 cur w hg ri Cc
   refine ⟨_,?_,Vw _ g (cur.toList.take (l *sz+0)++(Builtin.zeroCells z.cells (sn - l)).toList++cur.toList.drop (l *sz+0+(Builtin.zeroCells z.cells (sn - l)).toList.length)).toArray rfl Jt h2 (setRow_heap w g cur _ e _ hg) ?_ ?_,?_⟩
   .obtain ⟨m,hm⟩:∃m,sn - l=m+1:=⟨sn - l - 1,by omega⟩
    have Y5:(⟨g,0,none⟩:Addr).add (l *sz)=⟨g,l *sz,none⟩:=Va g (l *sz)
    rw [hm] at lH ⊢
    simp [Builtin.clear_,run_underlying el.ht,HU,Y5,hzv,lH]
   .simp only [List.size_toArray,qlA,qlT,List.length_drop,hlz,Array.length_toList,h3]
    generalize (sn - l) *sz=x at *
    generalize sn *sz=y at *
    generalize sc *sz=u at *
    generalize l *sz=v at *
    omega
   .simp only [qaA,Nat.add_zero]
    rw [List.take_append_of_le_length (by
     rw [qlT,Array.length_toList,h3]
     exact Nat.le_min.2 ⟨Nat.le_refl _,Nat.le_trans e1 e2⟩),List.take_take,Nat.min_self]
    exact ht0
   .rw [Bv hg]
    exact (Fr.put w g _).mono λx _ e=>by simp [bA,e]
theorem Si:∀u∈(Value.agg #[.int .i64 0,.int .u8 0,.int .u8 0,.slice none 0 0]).cells.toList,u.oneCell'=true:=by
 intro u hu
 simp only [Value.cells,cU,qnM,or_false] at hu
 rcases hu with rfl|rfl|rfl|rfl<;>rfl
theorem Jq {l:List Rt} {k:Nat} {t:Rt} (hk:k<l.length):((((l.flatMap Rt.c).set (k *4+0) (.int .i64 t.k)).set (k *4+1) (.int .u8 (t.lo.toNat:Int))).set (k *4+2) (.int .u8 (t.hi.toNat:Int))).set (k *4+3) t.s.v=(l.set k t).flatMap Rt.c:=by
 induction l generalizing k with
 |nil=>simp at hk
 |cons a l ih=>
  cases k with
  |zero=>simp [Rt.c]
  |succ k=>
   have JB:k<l.length:=by simpa using hk
   have e:∀j,(k+1) *4+j=(k *4+j)+4:=λj=>by omega
   rw [e 0,e 1,e 2,e 3,qfC,List.set_cons_succ,qfC,<-ih JB]
   simp [Rt.c]
section
variable {M:Nat->Prop} {w0 w:World} {L D:List En} {bs:List Nat}
theorem _root_.Go.W.LH.WX (H:LH M w0 w L D) (i k:Nat) {s:Sl} {ts:List Rt} {t:Rt} {p:Addr} {K:World->Prop} (hi:L[i]? =some (.row aB 4 s (ts.flatMap Rt.c))) (hp:s.a=some p) (hk:k<ts.length)
  (hK:∀w',LH M w0 w' (L.set i (.row aB 4 s ((ts.set k t).flatMap Rt.c))) D->K w') (jS:∀b∈bs,En.g b∈L:=by simp):
  bR w (p.add (k *4)) (.int .i64 t.k) λw1=>kept bs w w1/\bR w1 ((p.add (k *4)).add 1) (.int .u8 (t.lo.toNat:Int)) λw2=>kept bs w1 w2/\bR w2 ((p.add (k *4)).add 2) (.int .u8 (t.hi.toNat:Int)) λw3=>kept bs w2 w3/\bR w3 ((p.add (k *4)).add 3) t.s.v λw4=>kept bs w3 w4/\K w4:=by
 have hlen:(ts.flatMap Rt.c).length=ts.length *4:=Rt.gH ts
 have NQ:=(nP.1 hi).1
 have Mq:∀{e:En} {b:Nat},(∀(w1:World) (b':Nat),¬e.P ({w1 with heap:=Array.replicate (b'+1) (.map #[] 0)}:World))->En.g b∈L->En.g b∈L.set i e:=by
  intro e b iq hb
  obtain ⟨j,hj⟩:=List.mem_iff_getElem?.1 hb
  by_cases xP:i=j
  .subst xP
   rw [hi] at hj
   exfalso
   have e1:En.row aB 4 s (ts.flatMap Rt.c)=En.g b:=Option.some.inj hj
   have Jx:(En.g b).P ({w with heap:=Array.replicate (b+1) (.map #[] 0)}):=by show b<_;simp
   rw [<-e1] at Jx
   by_cases hs:bA s=[]
   .have:s.a=none:=by unfold bA at hs;split at hs<;>simp_all
    rw [hp] at this;cases this
   .obtain ⟨x,hx⟩:=List.exists_mem_of_ne_nil _ hs
    obtain ⟨cs,f,hc⟩:=(aO.row (show aO ({w with heap:=Array.replicate (b+1) (.map #[] 0)}) aB 4 s _ from Jx)).Uu x hx
    rw [Array.getElem?_replicate] at hc
    split at hc<;>cases hc
  .refine dC (i:=j) ?_
   rw [List.getElem?_set_ne xP]
   exact hj
 have wD:∀(vs:List Value) (w1:World) (b':Nat),¬(En.row aB 4 s vs).P ({w1 with heap:=Array.replicate (b'+1) (.map #[] 0)}:World):=by
  intro vs w1 b' h0
  have hx:p.block∈bA s:=by simp [bA,hp]
  obtain ⟨cs,f,hc⟩:=(aO.row (show aO ({w1 with heap:=Array.replicate (b'+1) (.map #[] 0)}) aB 4 s vs from h0)).Uu _ hx
  rw [Array.getElem?_replicate] at hc
  split at hc<;>cases hc
 have g1:=H.zD (bs:=bs) i (k *4) 0 (v:=.int .i64 t.k) (p:=p) (K:=λw1=>bR w1 ((p.add (k *4)).add 1) (.int .u8 (t.lo.toNat:Int)) λw2=>kept bs w1 w2/\bR w2 ((p.add (k *4)).add 2) (.int .u8 (t.hi.toNat:Int)) λw3=>kept bs w2 w3/\bR w3 ((p.add (k *4)).add 3) t.s.v λw4=>kept bs w3 w4/\K w4) hi hp (by rw [hlen];omega) (λw1 H1=>?_) jS
 .rw [tR] at g1
  exact g1
 refine H1.zD (bs:=bs) i (k *4) 1 (by rw [qgSS NQ]) hp (by rw [qlS,hlen];omega) (λw2 H2=>?_) (λb hb=>Mq (wD _) (jS b hb))
 rw [List.set_set] at H2
 refine H2.zD (bs:=bs) i (k *4) 2 (by rw [qgSS NQ]) hp (by simp only [qlS,hlen];omega) (λw3 H3=>?_) (λb hb=>Mq (wD _) (jS b hb))
 rw [List.set_set] at H3
 refine H3.zD (bs:=bs) i (k *4) 3 (by rw [qgSS NQ]) hp (by simp only [qlS,hlen];omega) (λw4 H4=>?_) (λb hb=>Mq (wD _) (jS b hb))
 rw [List.set_set,Jq hk] at H4
 exact hK w4 H4
theorem _root_.Go.W.LH.aac (H:LH M w0 w L D) (i k:Nat) {s:Sl} {ts:List Rt} {t:Rt} {p:Addr} {K:World->Prop} (hi:L[i]? =some (.row aB 4 s (ts.flatMap Rt.c))) (hp:s.a=some p) (hk:k<ts.length)
  (hK:∀w',LH M w0 w' (L.set i (.row aB 4 s ((ts.set k t).flatMap Rt.c))) D->K w'):
  bR w (p.add (k *4)) (.int .i64 t.k) λw1=>bR w1 ((p.add (k *4)).add 1) (.int .u8 (t.lo.toNat:Int)) λw2=>bR w2 ((p.add (k *4)).add 2) (.int .u8 (t.hi.toNat:Int)) λw3=>bR w3 ((p.add (k *4)).add 3) t.s.v K:=by
 have h:=H.WX (bs:=[]) (K:=K) i k hi hp hk hK (by simp)
 exact ⟨h.1,h.2.1,h.2.2.2.1,h.2.2.2.2.1,h.2.2.2.2.2.2.1,h.2.2.2.2.2.2.2.1,h.2.2.2.2.2.2.2.2.2.1,h.2.2.2.2.2.2.2.2.2.2.1,h.2.2.2.2.2.2.2.2.2.2.2.2⟩
end
theorem GC {w:World} {s:Sl} {l:List Rt} (h:aO w aB 4 s (l.flatMap Rt.c)) {i:Nat} {t:Rt} (hi:l[i]? =some t) {K:Addr->Prop} (hk:∀p,s.a=some p->Rt.od w p i t->K p):aX s.a K:=Rt.at' h.iQ hi hk
section
variable {M:Nat->Prop} {w0 w:World} {L D:List En}
theorem _root_.Go.W.LH.el (H:LH M w0 w L D) (i k:Nat) {s:Sl} {ts:List Rt} {t:Rt} {X:Int} {K:Int->Int->Int->Sl->Prop} (hX:X=(k:Int)) (hg:ts[k]? =some t) (h:K t.k t.lo.toNat t.hi.toNat t.s) (hi:L[i]? =some (.row aB 4 s (ts.flatMap Rt.c)):=by rfl):
  (0:Int)<=X/\X<((s.n:Nat):Int)/\aX s.a λp=>∃a b c:Int,∃d:Sl,w.cell? ((p.add (Int.toNat X *4)).add 0)=some (.i a)/\w.cell? ((p.add (Int.toNat X *4)).add 1)=some (.int .u8 b)/\w.cell? ((p.add (Int.toNat X *4)).add 2)=some (.int .u8 c)/\w.cell? ((p.add (Int.toNat X *4)).add 3)=some d.v/\K a b c d:=by
 subst hX
 have ho:aO w aB 4 s (ts.flatMap Rt.c):=H.get i hi
 have hn:=Rt.cB ho.iQ
 have hk:=(nP.1 hg).1
 exact ⟨by omega,by omega,GC ho hg λp hp c=>⟨_,_,_,_,c.c0,c.c1,c.c2,c.c3,h⟩⟩
theorem _root_.Go.W.LH.Te (H:LH M w0 w L D) (i k:Nat) {s:Sl} {ts:List Rt} {t:Rt} {X:Int} {K:World->Prop} (hX:X=(k:Int)) (hk:k<ts.length) (hK:∀w',LH M w0 w' (L.set i (.row aB 4 s ((ts.set k t).flatMap Rt.c))) D->K w') (hi:L[i]? =some (.row aB 4 s (ts.flatMap Rt.c)):=by rfl):
  (0:Int)<=X/\X<((s.n:Nat):Int)/\aX s.a λp=>bR w (p.add (Int.toNat X *4)) (.i t.k) λw1=>bR w1 ((p.add (Int.toNat X *4)).add 1) (.int .u8 (t.lo.toNat:Int)) λw2=>bR w2 ((p.add (Int.toNat X *4)).add 2) (.int .u8 (t.hi.toNat:Int)) λw3=>bR w3 ((p.add (Int.toNat X *4)).add 3) t.s.v K:=by
 subst hX
 have ho:aO w aB 4 s (ts.flatMap Rt.c):=H.get i hi
 have hn:=Rt.cB ho.iQ
 have hg:ts[k]? =some ts[k]:=g7 hk
 exact ⟨by omega,by omega,GC ho hg λp hp c=>H.aac i k hi hp hk hK⟩
end
theorem yY {j:Nat} (h1:1<=j) (h2:j<=1000000000):IntKind.wrap .i64 ((j:Int) - 1)=((j - 1:Nat):Int):=by
 rw [IntWalk.i64_in _ (by omega)]
 omega
end Go.Proofs.YtcifihepfadgfaaGreatDoor
namespace Go.Proofs.YtcifihepfadgfaaGreatDoor
open List renaming mem_append->fW,mem_cons->cU,not_mem_nil->qnM,mem_of_getElem?->dC,getElem?_eq_getElem->g7,getElem?_eq_some_iff->nP,mem_append_left->qmL,mem_append_right->qmR,mem_flatMap->mV,mem_map->o8,length_append->qlA,append_assoc->qaA,length_take->qlT,flatMap_append->qfA,flatMap_cons->qfC,mem_cons_of_mem->qmCM,mem_cons_self->qmCS,length_set->qlS,take_append_drop->qtAD,drop_eq_getElem_cons->qdG,append_nil->qaN,take_add_one->qtO,map_cons->qmpC,drop_drop->qdD,getElem?_drop->qgD,getElem?_set_self->qgSS,drop_of_length_le->qdO,take_of_length_le->qtOL,length_reverse->qlRv
open Go Go.W
abbrev rT (b:Nat) (u:Rt):En:=.c b u.c aB
theorem lhU {w:World} {k u:Rt} {b:Nat} (pk:k.P w) (pu:u.P w) (hb:w.heap[b]? =some (.cells u.c.toArray aB (0,0))):LH F0 w w [] [.tree k,.tree u,rT b u]:=mf _ (by
 intro e he
 simp only [cU,qnM,or_false] at he
 rcases he with rfl|rfl|rfl
 .exact pk
 .exact pu
 .exact hb)
theorem Hr (k u:Rt) (b:Nat) (w:World) (h:k.sz<=1000000) (pk:k.P w) (pu:u.P w) (hb:w.heap[b]? =some (.cells u.c.toArray aB (0,0))):Calls Tryz.prog gk #[k.v,.pointer (some (bD b))] w λr w'=>r=.returned (.bool (cP k.rx u.rx==0))/\bF w w':=by
 refine regex_flat_1.cT _ _ _ _ _ w _ ((lhU pk pu hb).bI λb2 w1 H1=>⟨_,_,_,u.s,H1.tH 2 0,H1.tH 2 1,H1.tH 2 2,H1.tH 2 3,H1.aL (uO k u w1 h (H1.getD 0) (H1.getD 1)) ?_⟩)
 rintro _ w2 rfl H2
 exact ⟨_,rfl,rfl,H2.fr⟩
theorem FG (k u:Rt) (b:Nat) (w:World) (h:k.sz<=1000000) (pk:k.P w) (pu:u.P w) (hb:w.heap[b]? =some (.cells u.c.toArray aB (0,0))):Calls Tryz.prog jl #[k.v,.pointer (some (bD b))] w λr w'=>r=.returned (.bool (cP k.rx u.rx==0))/\bF w w':=by
 refine regex_forms_2_1_1.cT _ _ _ _ _ w _ ((lhU pk pu hb).bI λb2 w1 H1=>⟨_,_,_,u.s,H1.tH 2 0,H1.tH 2 1,H1.tH 2 2,H1.tH 2 3,H1.aL (uO k u w1 h (H1.getD 0) (H1.getD 1)) ?_⟩)
 rintro _ w2 rfl H2
 exact ⟨_,rfl,rfl,H2.fr⟩
theorem Lc (k:Rt) (w:World) (pk:k.P w):Calls Tryz.prog ko #[k.v] w λr w'=>r=.returned k.v/\bF w w':=by
 refine regex_forms_1.cT _ _ _ _ w _ ((y9 pk).bI λb1 w1 H1=>H1.bI λb2 w2 H2=>H2.aN λw3 H3=>⟨rfl,H3.fr⟩)
def xQ (q:Rt->Bool):List Rt->Nat->Int
 |[],_=>-1
 |a::l,i=>if q a then (i:Int) else xQ q l (i+1)
theorem D4 (q:Rt->Bool):∀(l:List Rt) (i:Nat),decide (xQ q l i>=0)=l.any q
 |[],i=>rfl
 |a::l,i=>by
  unfold xQ
  rw [List.any_cons]
  cases hq:q a with
  |true=>simp
  |false=>simpa using D4 q l (i+1)
theorem xk (s:Sl) (l:List Rt) (f:Fv) (q:Rt->Bool) (D:List En) (w:World) (hl:l.length<=1000000) (hr:jJ 4 w s (l.flatMap Rt.c)) (hD:∀e∈D,e.P w) (hc:fD Tryz.prog f.n=true)
  (hf:∀w' t,t∈l->LH F0 w w' [] (Rt.row s l::D)->Calls Tryz.prog f.n (f.bs++#[t.v]++f.cs) w' λr rC=>r=.returned (.bool (q t))/\bF w' rC):
  Calls Tryz.prog cH #[s.v,f.v] w λr w'=>r=.returned (.int .i64 (xQ q l 0))/\bF w w':=by
 have nr:=Rt.cB hr
 have loop:∀(d i:Nat) (w1:World),i+d=l.length->xQ q (l.drop i) i=xQ q l 0->LH F0 w w1 [] (Rt.row s l::D)->slices_IndexFunc_sl_regex_Regex_regex_Regex.L0 s f ((s.n:Nat):Int) (i:Int) w1 λr w'=>r=.returned (.int .i64 (xQ q l 0))/\bF w w':=by
  intro d
  induction d with
  |zero=>
   intro i w1 hi he H
   rw [qdO (by omega)] at he
   exact slices_IndexFunc_sl_regex_Regex_regex_Regex.cO _ _ _ _ _ _ (aM (decide_eq_false (by omega)) ⟨by rw [<-he];rfl,H.fr⟩)
  |succ d pW=>
   intro i w1 hi he H
   have hg:l[i]? =some (l[i]'(by omega)):=g7 (by omega)
   rw [qdG (by omega:i<l.length)] at he
   generalize l[i]'(by omega)=x at hg he
   refine slices_IndexFunc_sl_regex_Regex_regex_Regex.cO _ _ _ _ _ _ (aS (decide_eq_true (by omega)) ⟨by omega,by omega,Rt.at' (H.getD 0) hg λp hp c=>⟨x.k,x.lo.toNat,x.hi.toNat,x.s,c.c0,c.c1,c.c2,c.c3,?_⟩⟩)
   rw [hc]
   refine (show hO true _ from ?_)
   refine H.call (hf w1 x (dC hg) H) ?_
   rintro _ w2 rfl H2
   have he:(if q x then (i:Int) else xQ q (l.drop (i+1)) (i+1))=xQ q l 0:=he
   refine ⟨_,rfl,bB (λhq=>⟨?_,H2.fr⟩) (λhq=>?_)⟩
   .rw [if_pos hq] at he
    rw [he]
   .rw [if_neg (by rw [hq];simp)] at he
    rw [aZ _ (by omega)]
    exact pW (i+1) w2 (by omega) he H2
 refine slices_IndexFunc_sl_regex_Regex_regex_Regex.ok _ _ w _ (loop l.length 0 w (by omega) (by simp) (mf _ (λe he=>?_)))
 rcases cU.1 he with rfl|he
 .exact hr
 .exact hD e he
theorem yx (s:Sl) (l:List Rt) (f:Fv) (q:Rt->Bool) (D:List En) (w:World) (hl:l.length<=1000000) (hr:jJ 4 w s (l.flatMap Rt.c)) (hD:∀e∈D,e.P w) (hc:fD Tryz.prog f.n=true)
  (hf:∀w' t,t∈l->LH F0 w w' [] (Rt.row s l::D)->Calls Tryz.prog f.n (f.bs++#[t.v]++f.cs) w' λr rC=>r=.returned (.bool (q t))/\bF w' rC):
  Calls Tryz.prog cV #[s.v,f.v] w λr w'=>r=.returned (.bool (l.any q))/\bF w w':=by
 refine slices_ContainsFunc_sl_regex_Regex_regex_Regex.ok _ _ w _ ((xk s l f q D w hl hr hD hc hf).mono ?_)
 rintro _ w1 ⟨rfl,f1⟩
 refine ⟨_,rfl,?_,f1⟩
 rw [D4]
theorem Ba (q:Rt->Bool):∀(l:List Rt) (k:Nat),(xQ q l k=-1/\∀t∈l,q t=false)\/∃m a,l[m]? =some a/\q a=true/\xQ q l k=((k+m:Nat):Int)/\∀t∈l.take m,q t=false
 |[],k=>.inl ⟨rfl,by simp⟩
 |a::l,k=>by
  unfold xQ
  cases hq:q a with
  |true=>exact .inr ⟨0,a,rfl,hq,by simp,by simp⟩
  |false=>
   rcases Ba q l (k+1) with ⟨h1,h2⟩|⟨m,x,h1,h2,h3,h4⟩
   .exact .inl ⟨by simpa using h1,by simpa [hq] using h2⟩
   .refine .inr ⟨m+1,x,by simpa using h1,h2,?_,?_⟩
    .simp only [h3,Bool.false_eq_true,if_false]
     omega
    .simp only [List.take_succ_cons,cU,forall_eq_or_imp]
     exact ⟨hq,h4⟩
section
variable {M:Nat->Prop} {w0 w:World} {L D:List En} {bs:List Nat}
theorem _root_.Go.W.LH.Lo (H:LH M w0 w L D) (i:Nat) {P:Program} {g:FuncId} {args:Array Value} {A K:aD} {e:TypeId} {sz:Nat} {s:Sl} {xs:List Value} (hi:L[i]? =some (.row e sz s xs))
  (hc:Calls P g args w λr w'=>A r w'/\Fr (·∈bA s) w w') (hk:∀r w',A r w'->(∀e':En,e'.P w'->(∀b∈e'.fp,b∈bA s\/w.heap.size<=b)->LH M w0 w' (L.set i e') D)->K r w') (jS:∀b∈bs,En.g b∈L:=by simp):fC bs P g args w K:=
 ⟨(·∈bA s),λb hb=>H.vh hi (jS b hb),hc.mono λr w' ⟨ha,f⟩=>⟨f,hk r w' ha λe' he hf=>H.CK i e' hi f he hf⟩⟩
theorem _root_.Go.W.LH.off (H:LH M w0 w L D) (i j:Nat) {e:TypeId} {sz:Nat} {s:Sl} {xs:List Value} {d:En} (hi:L[i]? =some (.row e sz s xs):=by rfl) (hj:D[j]? =some d:=by rfl):∀x∈bA s,x∉d.fp:=λx hx hd=>
 H.dj d (dC hj) x hd _ (dC hi) hx
end
def KV (s:Sl) (l:List Rt) (r:Ending) (w w':World):Prop:=∃s':Sl,r=.returned s'.v/\aO w' aB 4 s' (l.flatMap Rt.c)/\∀x∈bA s',x∈bA s
theorem Z0 {w:World} {s:Sl} {l:List Rt} (D:List En) (ho:aO w aB 4 s (l.flatMap Rt.c)) (h:∀e∈D,e.P w/\∀x∈bA s,x∉e.fp):LH (·∈bA s) w w [.row aB 4 s (l.flatMap Rt.c)] D:=
 LH.zB _ _ (by
  intro e he
  simp only [cU,qnM,or_false] at he
  subst he
  exact ⟨ho,λb hb=>hb⟩) (by
  simp only [qfC,List.flatMap_nil,qaN]
  exact (En.row aB 4 s (l.flatMap Rt.c)).nd) (λe he=>⟨(h e he).1,λb hb e' mJ=>by
  simp only [cU,qnM,or_false] at mJ
  subst mJ
  exact λhx=>(h e he).2 b hx hb⟩)
theorem tM {α:Type} {l:List α} {i:Nat} {a:α} (h:i<l.length):(l.set i a).take (i+1)=l.take i++[a]:=by
 rw [qtO,qgSS h,List.take_set_of_le (Nat.le_refl _)]
 rfl
theorem BQ (s:Sl) (l:List Rt) (u:Rt) (b:Nat) (w:World) (hl:Rt.fL l<=1000000) (ho:aO w aB 4 s (l.flatMap Rt.c)) (pl:Rt.Ps w l) (pu:u.P w) (hb:w.heap[b]? =some (.cells u.c.toArray aB (0,0)))
  (hd:∀x∈bA s,x∉Rt.gN l/\x∉u.fp/\x≠b):
  Calls Tryz.prog dE #[s.v,.func (.func gk) #[] #[.pointer (some (bD b))]] w λr w'=>KV s (l.filter λt=>!(cP t.rx u.rx==0)) r w w'/\Fr (·∈bA s) w w':=by
 have nr:=Rt.cB ho.iQ
 have ll:=Rt.eZ l
 have kt:∀t∈l,t.sz<=1000000:=λt ht=>Nat.le_trans (Rt.dK ht) hl
 have H:LH (·∈bA s) w w [.row aB 4 s (l.flatMap Rt.c)] [.trees l,.tree u,rT b u]:=Z0 _ ho (by
  intro e he
  simp only [cU,qnM,or_false] at he
  rcases he with rfl|rfl|rfl
  .exact ⟨pl,λx hx hm=>(hd x hx).1 (aI.1 hm)⟩
  .exact ⟨pu,λx hx hm=>(hd x hx).2.1 (aI.1 hm)⟩
  .exact ⟨hb,λx hx hm=>(hd x hx).2.2 (by simpa [rT,En.c,En.ob] using hm)⟩)
 have loop:∀(d i j:Nat) (cur:List Rt) (w1:World),j+d=l.length->i<j->cur.length=l.length->cur.drop j=l.drop j->cur.take i=(l.take j).filter (λt=>!(cP t.rx u.rx==0))->LH (·∈bA s) w w1 [.row aB 4 s (cur.flatMap Rt.c)] [.trees l,.tree u,rT b u]->
   slices_DeleteFunc_sl_regex_Regex_regex_Regex.dY s (bD b) (i:Int) (j:Int) w1 λr w'=>KV s (l.filter λt=>!(cP t.rx u.rx==0)) r w w'/\Fr (·∈bA s) w w':=by
  intro d
  induction d with
  |zero=>
   intro i j cur w1 hj xP hc CP NT H1
   refine slices_DeleteFunc_sl_regex_Regex_regex_Regex.aY _ _ _ _ _ _ (aM (decide_eq_false (by omega)) ⟨by omega,by omega,?_⟩)
   have Mb:=(H1.get 0:aO _ _ _ _ _).cap
   obtain ⟨w2,h1,h2,h3⟩:=HE (ty:=Ki) yL Si rfl (H1.get 0) i (by omega)
   refine ⟨w2,h1,by omega,by omega,⟨⟨if s.c=0 then s.a else s.a.map (·.add (0 *4)),i - 0,s.c - 0⟩,rfl,?_,λx hx=>?_⟩,H1.fr.trans h3 λx _ h=>h⟩
   .have e:(cur.flatMap Rt.c).take (i *4)=(l.filter λt=>!(cP t.rx u.rx==0)).flatMap Rt.c:=by
     have e1:(cur.flatMap Rt.c).take (i *4)=(cur.take i).flatMap Rt.c:=by
      have:=Rt.gH (cur.take i)
      conv=>lhs;rw [<-qtAD i cur,qfA]
      rw [List.take_append_of_le_length (by rw [this,qlT];omega),qtOL (by rw [this,qlT];omega)]
     rw [e1,NT,qtOL (by omega)]
    rw [<-e]
    exact h2
   .simp only [bA] at hx ⊢
    split at hx
    .rename_i p hp
     split at hp
     .rw [hp];exact hx
     .cases Aq:s.a with
      |none=>rw [Aq] at hp;cases hp
      |some q=>
       rw [Aq] at hp
       simp only [Option.map_some,Option.some.injEq] at hp
       subst hp
       rw [gp] at hx
       exact hx
    .cases hx
  |succ d pW=>
   intro i j cur w1 hj xP hc CP NT H1
   have hg:l[j]? =some (l[j]'(by omega)):=g7 (by omega)
   generalize hxe:l[j]'(by omega)=a at hg
   have Xz:cur[j]? =some a:=by
    have:(cur.drop j)[0]? =(l.drop j)[0]?:=by rw [CP]
    simpa [qgD,hg] using this
   have ha:=dC hg
   have Rc:l.take (j+1)=l.take j++[a]:=by rw [qtO,hg];rfl
   refine slices_DeleteFunc_sl_regex_Regex_regex_Regex.aY _ _ _ _ _ _ (aS (decide_eq_true (by omega)) ⟨by omega,by omega,GC (H1.get 0) Xz λp hp c=>⟨a.k,a.lo.toNat,a.hi.toNat,a.s,c.c0,c.c1,c.c2,c.c3,?_⟩⟩)
   refine H1.bI (λb7 w2 H2=>H2.aN λw3 H3=>?_)
   refine H3.aL (Hr a u b w3 (kt a ha) ((show Rt.Ps w3 l from H3.getD 0).mem ha) (H3.getD 1) (H3.getD 2)) ?_
   rintro _ w4 rfl H4
   refine ⟨_,rfl,eO (λhf=>⟨by omega,by omega,?_⟩) (λht=>?_)⟩
   .rw [hp]
    refine (show aX (some p) _ from ?_)
    refine H4.WX 0 i (t:=a) (ts:=cur) rfl hp (by omega) (λw5 H5=>?_)
    show slices_DeleteFunc_sl_regex_Regex_regex_Regex.dY _ _ _ _ _ _
    rw [aZ _ (by omega),aZ _ (by omega)]
    refine pW (i+1) (j+1) (cur.set i a) w5 (by omega) (by omega) (by simpa using hc) ?_ ?_ (H5.take 1)
    .rw [List.drop_set_of_lt (by omega),<-qdD,CP,qdD]
    .rw [tM (by omega),NT,Rc,List.filter_append]
     simp [hf]
   .show slices_DeleteFunc_sl_regex_Regex_regex_Regex.dY _ _ _ _ _ _
    rw [aZ _ (by omega)]
    refine pW i (j+1) cur w4 (by omega) (by omega) hc ?_ ?_ (H4.take 1)
    .rw [<-qdD,CP,qdD]
    .rw [NT,Rc,List.filter_append]
     simp [ht]
 refine slices_DeleteFunc_sl_regex_Regex_regex_Regex.cT _ _ w _ ?_
 have hI:=xk s l ⟨gk,#[],#[.pointer (some (bD b))]⟩ (λt=>cP t.rx u.rx==0) [.trees l,.tree u,rT b u] w (by omega) ho.iQ (H.rd) (by kernel_rfl) (λw' t ht H'=>Hr t u b w' (kt t ht) ((show Rt.Ps w' l from H'.getD 1).mem ht) (H'.getD 2) (H'.getD 3))
 refine H.call hI ?_
 rintro _ w1 rfl H1
 rcases Ba (λt=>cP t.rx u.rx==0) l 0 with ⟨h1,h2⟩|⟨m,a,h1,h2,h3,h4⟩
 .refine ⟨_,rfl,aS (by rw [h1];rfl) ⟨⟨s,rfl,?_,λx hx=>hx⟩,H1.fr⟩⟩
  rw [List.filter_eq_self.2 (λt ht=>by rw [h2 t ht];rfl)]
  exact H1.get 0
 .have hm:m<l.length:=(nP.1 h1).1
  refine ⟨_,rfl,aM (by rw [h3];exact beq_eq_false_iff_ne.2 (by omega)) ?_⟩
  rw [h3,Nat.zero_add,aZ _ (by omega)]
  refine loop (l.length - (m+1)) m (m+1) l w1 (by omega) (by omega) rfl rfl ?_ H1
  rw [qtO,h1,List.filter_append,List.filter_eq_self.2 (λt ht=>by rw [h4 t ht];rfl)]
  simp only [Option.toList_some,List.filter_cons,h2]
  simp
def iJ (x k:Rt):List Rt:=if k.k=x.k then k.l else [k]
def Mr (u:Rt) (t:Rt):Bool:=!(cP t.rx u.rx==0)
def kM (x u:Rt):List Rt:=(x.l.flatMap (iJ x)).filter (Mr u)
structure Sub (x:Rt) (l:List Rt):Prop where
 P:∀w:World,x.P w->∀t∈l,t.P w
 fp:∀t∈l,∀b∈t.fp,b∈x.fp
theorem Sub.part {x:Rt} {t:Rt} (h:t∈x.l):Sub x [t]:=⟨λw px t' ht=>by
  simp at ht;subst ht;exact px.parts.2.mem h,λt' ht b hb=>by
  simp at ht;subst ht;exact Rt.eG.2 (.inr (Rt.bC.2 ⟨_,h,hb⟩))⟩
theorem Sub.open {x k:Rt} (h:k∈x.l):Sub x (iJ x k):=by
 unfold iJ
 split
 .exact ⟨λw px t ht=>((px.parts.2.mem h).parts.2).mem ht,λt ht b hb=>Rt.eG.2 (.inr (Rt.bC.2 ⟨k,h,Rt.eG.2 (.inr (Rt.bC.2 ⟨t,ht,hb⟩))⟩))⟩
 .exact .part h
theorem Sub.flat {x:Rt} {l:List Rt} (h:∀k∈l,k∈x.l):Sub x (l.flatMap (iJ x)):=⟨λw px t ht=>by
  obtain ⟨k,hk,ht⟩:=mV.1 ht
  exact (Sub.open (h k hk)).P w px t ht,λt ht=>by
  obtain ⟨k,hk,ht⟩:=mV.1 ht
  exact (Sub.open (h k hk)).fp t ht⟩
theorem Sub.sub {x:Rt} {l m:List Rt} (h:Sub x l) (hs:∀t∈m,t∈l):Sub x m:=⟨λw px t ht=>h.P w px t (hs t ht),λt ht=>h.fp t (hs t ht)⟩
theorem Sub.Ps {x:Rt} {l:List Rt} (h:Sub x l) {w:World} (px:x.P w):Rt.Ps w l:=Rt.ox (h.P w px)
theorem Sub.gN {x:Rt} {l:List Rt} (h:Sub x l) {b:Nat} (hb:b∈Rt.gN l):b∈x.fp:=by
 obtain ⟨t,ht,hb⟩:=Rt.bC.1 hb
 exact h.fp t ht b hb
theorem Sub.kM (x u:Rt):Sub x (kM x u):=(Sub.flat (λ_ h=>h)).sub λ_ h=>(List.mem_filter.1 h).1
theorem qS (x:Rt):∀l:List Rt,Rt.fL (l.flatMap (iJ x))<=Rt.fL l
 |[]=>Nat.le_refl _
 |k::l=>by
  have h1:Rt.fL (iJ x k)<=k.sz:=by
   unfold iJ
   split
   .rw [Rt.gm k];omega
   .simp [Rt.fL]
  rw [qfC,tt]
  have:=qS x l
  show _<=k.sz+Rt.fL l
  omega
theorem zE (q:Rt->Bool):∀l:List Rt,Rt.fL (l.filter q)<=Rt.fL l
 |[]=>Nat.le_refl _
 |k::l=>by
  have:=zE q l
  rw [List.filter_cons]
  split
  .unfold Rt.fL;omega
  .show _<=k.sz+Rt.fL l;omega
theorem Kd (x u:Rt):Rt.fL (kM x u)+1<=x.sz:=by
 have h1:=zE (Mr u) (x.l.flatMap (iJ x))
 have h2:=qS x x.l
 rw [Rt.gm x]
 unfold kM
 omega
def Sx (w:World) (l:List Rt) (r:Ending) (w':World):Prop:=∃s':Sl,r=.returned s'.v/\aO w' aB 4 s' (l.flatMap Rt.c)/\∀x∈bA s',w.heap.size<=x
theorem SP (x u:Rt) (w:World) (h:x.sz<=1000000) (px:x.P w) (pu:u.P w):Calls Tryz.prog rl #[x.v,u.v] w λr w'=>Sx w (kM x u) r w'/\bF w w':=by
 have hs:=Rt.gm x
 have hl:=Rt.eZ x.l
 have nr:=Rt.cB px.parts.1
 have loop:∀(d i:Nat) (acc:List Rt) (sl:Sl) (b2 bu:Nat) (w1:World),i+d=x.l.length->acc=(x.l.take i).flatMap (iJ x)->LH F0 w w1 [.g b2,.c bu u.c aB,.row aB 4 sl (acc.flatMap Rt.c)] [.tree x,.tree u]->
   regex_flat.dY b2 x.k x.lo.toNat x.hi.toNat x.s (bD bu) sl x.s ((x.s.n:Nat):Int) (i:Int) w1 λr w'=>Sx w (kM x u) r w'/\bF w w':=by
  intro d
  induction d with
  |zero=>
   intro i acc sl b2 bu w1 hi ha H
   have Gd:Sub x acc:=by rw [ha];exact Sub.flat λk hk=>List.mem_of_mem_take hk
   have me:Rt.fL acc<=Rt.fL x.l:=by
    rw [ha,qtOL (by omega)]
    exact qS x x.l
   refine regex_flat.aY _ _ _ _ _ _ _ _ _ _ _ _ (aM (decide_eq_false (by omega)) ?_)
   refine H.Lo 2 rfl (BQ sl acc u bu w1 (by omega) (H.get 2) (Gd.Ps (H.getD 0)) (H.getD 1) (H.ob 1) (λy hy=>⟨λhm=>H.off 2 0 rfl rfl y hy (aI.2 (Gd.gN hm)),λhm=>H.off 2 1 rfl rfl y hy (aI.2 hm),λhm=>?_⟩)) ?_
   .exact oX H.nd (i:=2) rfl (j:=1) rfl (by omega) y hy (by simp [En.c,En.ob,hm])
   rintro _ w2 ⟨s',rfl,ho,hb⟩ hH
   have H2:=hH (.row aB 4 s' ((acc.filter (Mr u)).flatMap Rt.c)) ho λb eC=>.inl (hb b eC)
   refine ⟨s',rfl,⟨s',rfl,?_,λb eC=>(H2.new _ (dC (i:=2) rfl) b eC).resolve_right id⟩,H2.fr⟩
   rw [ha,qtOL (by omega)] at ho
   exact ho
  |succ d pW=>
   intro i acc sl b2 bu w1 hi ha H
   have hg:x.l[i]? =some (x.l[i]'(by omega)):=g7 (by omega)
   generalize x.l[i]'(by omega)=a at hg
   have hm:=dC hg
   have JY:x.P w1:=H.getD 0
   have CE:=Rt.dK hm
   have me:Rt.fL acc<=Rt.fL x.l:=by
    have h1:=qS x (x.l.take i)
    have h2:=ql x.l i
    rw [ha];omega
   have Zy:acc++iJ x a=(x.l.take (i+1)).flatMap (iJ x):=by rw [qtO,hg,qfA,ha];simp
   have ug:=Rt.cB (H.get 2:aO _ _ _ _ _).iQ
   have HW:=Rt.eZ acc
   have tail:∀(s':Sl) (w':World),LH F0 w w' [.g b2,.c bu u.c aB,.row aB 4 s' ((acc++iJ x a).flatMap Rt.c)] [.tree x,.tree u]->regex_flat.fY b2 x.k x.lo.toNat x.hi.toNat x.s (bD bu) s' x.s ((x.s.n:Nat):Int) (i:Int) w' λr w'=>Sx w (kM x u) r w'/\bF w w':=by
    intro s' w' H'
    show regex_flat.dY _ _ _ _ _ _ _ _ _ _ _ _
    rw [aZ _ (by omega)]
    exact pW (i+1) _ s' b2 bu w' (by omega) Zy H'
   refine regex_flat.aY _ _ _ _ _ _ _ _ _ _ _ _ (aS (decide_eq_true (by omega)) ⟨by omega,by omega,Rt.at' JY.parts.1 hg λp hp c=>⟨_,_,_,_,c.c0,c.c1,c.c2,c.c3,?_⟩⟩)
   refine H.bI λb7 w2 H2=>aJ (λhk=>H2.aN λw3 H3=>?_) (λhk=>H2.aN λw3 H3=>?_)
   .have pa:a.P w3:=(show x.P w3 from H3.getD 0).parts.2.mem hm
    have na:=Rt.cB pa.parts.1
    have HW:=Rt.eZ a.l
    have Aq:=Rt.gm a
    refine H3.I7 2 yL (xs:=acc.flatMap Rt.c) (src:=a.s) (news:=a.l.flatMap Rt.c) rfl pa.parts.1 (AQ _) (by omega) (λs' w4 H4=>?_)
    refine tail s' w4 ?_
    have e:iJ x a=a.l:=if_pos hk
    rw [e,qfA]
    exact H4.take 3
   .refine H3.tS 2 yL (xs:=acc.flatMap Rt.c) rfl (λs' w4 H4=>?_) (by omega)
    refine tail s' w4 ?_
    have e:iJ x a=[a]:=if_neg hk
    rw [e,mw]
    exact H4.take 3
 refine regex_flat.cT _ _ _ _ _ _ _ _ w _ ((mf [.tree x,.tree u] (by
  intro e he
  simp only [cU,qnM,or_false] at he
  rcases he with rfl|rfl
  .exact px
  .exact pu)).bI λb2 w1 H1=>H1.nw λw2 _ H2=>?_)
 exact loop x.l.length 0 [] ⟨none,0,0⟩ b2 w1.heap.size w2 (by omega) rfl (H2.oL aB 4)
theorem yH (a b:Int):gD b a=-gD a b:=by
 have s:∀a b:Int,(gD a b=-1/\a<b)\/(gD a b=1/\b<a)\/(gD a b=0/\a=b):=λa b=>by
  unfold gD
  split
  .exact .inl ⟨rfl,by omega⟩
  .split
   .exact .inr (.inl ⟨rfl,by omega⟩)
   .exact .inr (.inr ⟨rfl,by omega⟩)
 rcases s a b with h1|h1|h1<;>rcases s b a with h2|h2|h2<;>omega
theorem Co (c d:Int) (l m:List Int) (h:d=-c) (hl:sP m=-sP l):sP (d::m)=-sP (c::l):=by
 show (if d≠0 then d else sP m)=-(if c≠0 then c else sP l)
 split
 .rw [if_pos (by omega)];exact h
 .rw [if_neg (by omega)];exact hl
theorem vD (c:Int):sP [c]=c:=by
 show (if c≠0 then c else 0)=c
 split<;>omega
theorem tf (k:Int) (lo hi:UInt8) (l:List Rx) (b:Rx):cP (.mk k lo hi l) b=sP [gD k b.k,gD lo.toNat b.lo.toNat,gD hi.toNat b.hi.toNat,cmpL l b.l]:=by
 unfold cP
 generalize gD k b.k=c0
 generalize gD lo.toNat b.lo.toNat=c1
 generalize gD hi.toNat b.hi.toNat=c2
 generalize cmpL l b.l=c3
 simp only [sP]
 by_cases h0:c0=0
 .by_cases h1:c1=0
  .by_cases h2:c2=0
   .by_cases h3:c3=0<;>simp [h0,h1,h2,h3]
   .simp [h0,h1,h2]
  .simp [h0,h1]
 .simp [h0]
mutual
theorem qG:∀a b:Rx,cP b a=-cP a b
 |.mk k lo hi l,.mk k' uE vX l'=>by
  rw [tf,tf]
  exact Co _ _ _ _ (yH _ _) (Co _ _ _ _ (yH _ _) (Co _ _ _ _ (yH _ _) (by rw [vD,vD];exact Du l l')))
theorem Du:∀a b:List Rx,cmpL b a=-cmpL a b
 |[],[]=>by unfold cmpL;rfl
 |[],_::_=>by unfold cmpL;rfl
 |_::_,[]=>by unfold cmpL;rfl
 |x::l,y::m=>by
  have h1:=qG x y
  have h2:=Du l m
  show (if cP y x≠0 then cP y x else cmpL m l)=-(if cP x y≠0 then cP x y else cmpL l m)
  split
  .rw [if_pos (by omega)];exact h1
  .rw [if_neg (by omega)];exact h2
end
structure Sy (x y z:Int):Prop where
 le:x<=0->y<=0->z<=0
 lt:x<0->y<=0->z<0
 lt':x<=0->y<0->z<0
 eq:x=0->y=0->z=0
theorem yI (a b c:Int):Sy (gD a b) (gD b c) (gD a c):=by
 have s:∀a b:Int,(gD a b=-1/\a<b)\/(gD a b=1/\b<a)\/(gD a b=0/\a=b):=λa b=>by
  unfold gD
  split
  .exact .inl ⟨rfl,by omega⟩
  .split
   .exact .inr (.inl ⟨rfl,by omega⟩)
   .exact .inr (.inr ⟨rfl,by omega⟩)
 rcases s a b with h1|h1|h1<;>rcases s b c with h2|h2|h2<;>rcases s a c with h3|h3|h3<;>constructor<;>omega
theorem CI {x y z x' y' z':Int} (h:Sy x y z) (h':Sy x' y' z'):Sy (if x≠0 then x else x') (if y≠0 then y else y') (if z≠0 then z else z'):=by
 obtain ⟨a1,a2,a3,a4⟩:=h
 obtain ⟨b1,b2,b3,b4⟩:=h'
 by_cases hx:x=0
 .by_cases hy:y=0
  .have hz:=a4 hx hy
   rw [if_neg (by omega),if_neg (by omega),if_neg (by omega)]
   exact ⟨b1,b2,b3,b4⟩
  .rw [if_neg (by omega:¬x≠0),if_pos hy]
   constructor
   .intro h1 h2;have:=a3 (by omega) (by omega);rw [if_pos (by omega)];omega
   .intro h1 h2;have:=a3 (by omega) (by omega);rw [if_pos (by omega)];omega
   .intro h1 h2;have:=a3 (by omega) (by omega);rw [if_pos (by omega)];omega
   .intro h1 h2;omega
 .rw [if_pos hx]
  by_cases hy:y=0
  .rw [if_neg (by omega:¬y≠0)]
   constructor
   .intro h1 h2;have:=a2 (by omega) (by omega);rw [if_pos (by omega)];omega
   .intro h1 h2;have:=a2 (by omega) (by omega);rw [if_pos (by omega)];omega
   .intro h1 h2;have:=a2 (by omega) (by omega);rw [if_pos (by omega)];omega
   .intro h1 h2;omega
  .rw [if_pos hy]
   constructor
   .intro h1 h2;have:=a2 (by omega) (by omega);rw [if_pos (by omega)];omega
   .intro h1 h2;have:=a2 (by omega) (by omega);rw [if_pos (by omega)];omega
   .intro h1 h2;have:=a2 (by omega) (by omega);rw [if_pos (by omega)];omega
   .intro h1 h2;omega
mutual
theorem uU:∀a b c:Rx,Sy (cP a b) (cP b c) (cP a c)
 |.mk k lo hi l,.mk k' uE vX l',.mk k2 lo2 Cb l2=>by
  rw [tf,tf,tf]
  have:=Dv l l' l2
  exact CI (yI _ _ _) (CI (yI _ _ _) (CI (yI _ _ _) (by
   show Sy (sP [cmpL l l']) (sP [cmpL l' l2]) (sP [cmpL l l2])
   rw [vD,vD,vD]
   exact this)))
theorem Dv:∀a b c:List Rx,Sy (cmpL a b) (cmpL b c) (cmpL a c)
 |[],[],[]=>by unfold cmpL;constructor<;>omega
 |[],[],_::_=>by unfold cmpL;constructor<;>omega
 |[],_::_,[]=>by unfold cmpL;constructor<;>omega
 |_::_,[],[]=>by unfold cmpL;constructor<;>omega
 |_::_,[],_::_=>by
  have e1:∀(x:Rx) (l:List Rx),cmpL (x::l) []=1:=λ_ _=>rfl
  have e2:∀(x:Rx) (l:List Rx),cmpL [] (x::l)=-1:=λ_ _=>rfl
  rw [e1,e2]
  constructor<;>omega
 |[],y::m,z::n=>by
  have e2:∀(x:Rx) (l:List Rx),cmpL [] (x::l)=-1:=λ_ _=>rfl
  rw [e2,e2]
  constructor<;>omega
 |x::l,y::m,[]=>by
  have e1:∀(x:Rx) (l:List Rx),cmpL (x::l) []=1:=λ_ _=>rfl
  rw [e1,e1]
  constructor<;>omega
 |x::l,y::m,z::n=>CI (uU x y z) (Dv l m n)
end
def xR (x:Rx):List Rx->List Rx
 |[]=>[x]
 |y::p=>if cP x y<0 then y::xR x p else x::y::p
def qk (l:List Rx):List Rx:=(l.foldl (λp x=>xR x p) []).reverse
def kJ (p:Rx):List Rx->List Rx
 |[]=>[]
 |x::l=>if cP x p==0 then kJ x l else x::kJ x l
def yK:List Rx->List Rx
 |[]=>[]
 |a::l=>a::kJ a l
theorem wi {a b:Int} (h:gD a b=0):a=b:=by
 unfold gD at h
 split at h
 .cases h
 .split at h
  .cases h
  .omega
theorem Es:∀{l:List Int},sP l=0->∀x∈l,x=0
 |[],_=>λx hx=>by cases hx
 |a::l,h=>by
  unfold sP at h
  split at h
  .rename_i iq;exact absurd h iq
  .rename_i he
   have he:a=0:=by simpa using he
   intro x hx
   rcases cU.1 hx with rfl|hx
   .exact he
   .exact Es h x hx
theorem Nz {a b:UInt8} (h:(a.toNat:Int)=b.toNat):a=b:=UInt8.toNat_inj.1 (by omega)
mutual
theorem cmp_eq:∀a b:Rx,cP a b=0->a=b
 |.mk k lo hi l,.mk k' uE vX l',h=>by
  rw [tf] at h
  have h:=Es h
  have h1:=wi (h _ (qmCS ..))
  have h2:=Nz (wi (h _ (qmCM _ (qmCS ..))))
  have h3:=Nz (wi (h _ (qmCM _ (qmCM _ (qmCS ..)))))
  have h4:=Hz l l' (h _ (qmCM _ (qmCM _ (qmCM _ (qmCS ..)))))
  simp only [Rx.k,Rx.lo,Rx.hi] at h1 h2 h3
  rw [h1,h2,h3,h4]
theorem Hz:∀l m:List Rx,cmpL l m=0->l=m
 |[],[],_=>rfl
 |[],_::_,h=>by unfold cmpL at h;cases h
 |_::_,[],h=>by unfold cmpL at h;cases h
 |a::l,b::m,h=>by
  unfold cmpL at h
  split at h
  .rename_i iq;exact absurd h iq
  .rename_i he
   rw [cmp_eq a b (by simpa using he),Hz l m h]
end
theorem yJ (a:Rx):cP a a=0:=by have:=qG a a;omega
theorem qX {a b:Rx}:(cP a b==0)=true↔a=b:=⟨λh=>cmp_eq a b (eq_of_beq h),λh=>by subst h;rw [yJ];rfl⟩
theorem sv {a b:Rx}:cP a b=0↔a=b:=⟨cmp_eq a b,λh=>by subst h;exact yJ a⟩
theorem Ly {a b:Rx}:(!(cP a b==0))=true↔a≠b:=by rw [Bool.not_eq_true',<-Bool.not_eq_true,not_congr qX]
abbrev Fb (l:List Rx):Prop:=l.Pairwise λa b=>cP a b<0
abbrev NZ (l:List Rx):Prop:=l.Pairwise λa b=>cP a b<=0
theorem Fb.nodup {l:List Rx} (h:Fb l):l.Nodup:=List.nodup_iff_pairwise_ne.2 (h.imp λ{a b} Jw e=>by subst e;rw [yJ] at Jw;omega)
theorem Fb.asc {l:List Rx} (h:Fb l):NZ l:=h.imp λ{a b} Jw=>by omega
theorem yp {l m:List Rx} (hl:NZ l) (hm:NZ m) (h:l.Perm m):l=m:=List.Perm.eq_of_pairwise (λa b _ _ h1 h2=>cmp_eq a b (by have:=qG a b;omega)) hl hm h
theorem Gp {l m:List Rx} (hl:Fb l) (hm:Fb m) (h:∀t,t∈l↔t∈m):l=m:=yp hl.asc hm.asc ((List.perm_ext_iff_of_nodup hl.nodup hm.nodup).2 h)
theorem wE (x:Rx):∀p:List Rx,(xR x p).Perm (x::p)
 |[]=>.refl _
 |y::p=>by
  unfold xR
  split
  .exact ((wE x p).cons y).trans (.swap x y p)
  .exact .refl _
theorem Bc (x:Rx):∀{p:List Rx},p.Pairwise (λa b=>cP b a<=0)->(xR x p).Pairwise λa b=>cP b a<=0
 |[],_=>by unfold xR;simp
 |y::p,h=>by
  have hp:=List.pairwise_cons.1 h
  unfold xR
  split
  .rename_i Wi
   refine List.pairwise_cons.2 ⟨λt ht=>?_,Bc x hp.2⟩
   rcases cU.1 ((wE x p).mem_iff.1 ht) with rfl|ht
   .omega
   .exact hp.1 t ht
  .rename_i Wi
   have hyx:cP y x<=0:=by have:=qG x y;omega
   refine List.pairwise_cons.2 ⟨λt ht=>?_,h⟩
   rcases cU.1 ht with rfl|ht
   .exact hyx
   .exact (uU t y x).le (hp.1 t ht) hyx
theorem uu (l:List Rx):(qk l).Perm l:=by
 have:∀(l p:List Rx),(l.foldl (λp x=>xR x p) p).Perm (l++p):=by
  intro l
  induction l with
  |nil=>intro p;exact .refl _
  |cons a l ih=>
   intro p
   rw [List.foldl_cons]
   exact (ih _).trans (((wE a p).append_left l).trans List.perm_middle)
 unfold qk
 have h:=this l []
 rw [qaN] at h
 exact (List.reverse_perm _).trans h
theorem wV (l:List Rx):NZ (qk l):=by
 have:∀(l p:List Rx),p.Pairwise (λa b=>cP b a<=0)->(l.foldl (λp x=>xR x p) p).Pairwise λa b=>cP b a<=0:=by
  intro l
  induction l with
  |nil=>intro p h;exact h
  |cons a l ih=>intro p h;exact ih _ (Bc a h)
 unfold qk
 exact List.pairwise_reverse.2 (this l [] .nil)
theorem Nc {l m:List Rx} (h:NZ m) (hp:m.Perm l):m=qk l:=yp h (wV l) (hp.trans (uu l).symm)
theorem sy {t:Rx}:∀{l:List Rx} {p:Rx},(t=p\/t∈kJ p l)↔(t=p\/t∈l)
 |[],p=>by unfold kJ;simp
 |x::l,p=>by
  unfold kJ
  split
  .rename_i h
   have e:x=p:=qX.1 h
   subst e
   rw [sy,cU]
   constructor
   .rintro (h|h)<;>simp [h]
   .rintro (h|h|h)<;>simp [h]
  .rw [cU,cU]
   have:=sy (t:=t) (l:=l) (p:=x)
   constructor
   .rintro (h|h)
    .exact .inl h
    .exact .inr (this.1 h)
   .rintro (h|h)
    .exact .inl h
    .exact .inr (this.2 h)
theorem sw:∀{l:List Rx} {p:Rx},NZ (p::l)->Fb (p::kJ p l)
 |[],p,_=>by unfold kJ;simp
 |x::l,p,h=>by
  obtain ⟨h1,h2⟩:=List.pairwise_cons.1 h
  unfold kJ
  split
  .rename_i hx
   have e:x=p:=qX.1 hx
   subst e
   exact sw h2
  .rename_i hx
   have lC:cP p x<0:=by
    have h3:=h1 x (by simp)
    have h4:=qG x p
    have h5:cP x p≠0:=λe=>hx (by rw [e];rfl)
    omega
   have hi:=sw h2
   refine List.pairwise_cons.2 ⟨λt ht=>?_,hi⟩
   rcases cU.1 ht with rfl|ht
   .exact lC
   .exact (uU p x t).lt lC (by have:=(List.pairwise_cons.1 hi).1 t ht;omega)
theorem Jh {l:List Rx} (h:NZ l):Fb (yK l):=by
 cases l with
 |nil=>exact .nil
 |cons a l=>exact sw h
theorem Ji {t:Rx} {l:List Rx}:t∈yK l↔t∈l:=by
 cases l with
 |nil=>exact Iff.rfl
 |cons a l=>show t∈a::kJ a l↔_;rw [cU,cU];exact sy
def J6 (l:List Rx):List Rx:=yK (qk l)
theorem EG (l:List Rx):Fb (J6 l):=Jh (wV l)
theorem EH {t:Rx} {l:List Rx}:t∈J6 l↔t∈l:=by unfold J6;rw [Ji,(uu l).mem_iff]
def wO (r:Rx):List Rx->List Rx
 |[]=>[r]
 |y::p=>if cP y r<0 then y::wO r p else if cP y r=0 then y::p else r::y::p
theorem zi {t r:Rx}:∀{p:List Rx},t∈wO r p↔t=r\/t∈p
 |[]=>by unfold wO;simp
 |y::p=>by
  unfold wO
  split
  .rw [cU,zi,cU]
   constructor
   .rintro (h|h|h)<;>simp [h]
   .rintro (h|h|h)<;>simp [h]
  .split
   .rename_i he
    have e:=cmp_eq y r he
    subst e
    simp
   .simp
theorem EA {r:Rx}:∀{p:List Rx},Fb p->Fb (wO r p)
 |[],_=>by unfold wO;simp
 |y::p,h=>by
  obtain ⟨h1,h2⟩:=List.pairwise_cons.1 h
  unfold wO
  split
  .rename_i hy
   refine List.pairwise_cons.2 ⟨λt ht=>?_,EA h2⟩
   rcases zi.1 ht with rfl|ht
   .exact hy
   .exact h1 t ht
  .split
   .exact h
   .rename_i hy iq
    have hr:cP r y<0:=by have:=qG r y;omega
    refine List.pairwise_cons.2 ⟨λt ht=>?_,h⟩
    rcases cU.1 ht with rfl|ht
    .exact hr
    .exact (uU r y t).lt hr (by have:=h1 t ht;omega)
def pY (k:Int):List Rx->List Rx->List Rx
 |out,[]=>out
 |out,t::l=>pY k (if k=3 then out++[t] else wO t out) l
theorem Et:∀(l out:List Rx),pY 3 out l=out++l
 |[],out=>by unfold pY;simp
 |t::l,out=>by unfold pY;rw [Et l,if_pos rfl];simp
theorem Eu {k:Int} (hk:k≠3):∀(l:List Rx) {out:List Rx},Fb out->Fb (pY k out l)
 |[],_,h=>h
 |t::l,out,h=>by unfold pY;rw [if_neg hk];exact Eu hk l (EA h)
theorem Ev {k:Int} (hk:k≠3) {t:Rx}:∀(l:List Rx) {out:List Rx},t∈pY k out l↔t∈out\/t∈l
 |[],out=>by unfold pY;simp
 |a::l,out=>by
  unfold pY
  rw [if_neg hk,Ev hk l,zi,cU]
  constructor
  .rintro ((h|h)|h)<;>simp [h]
  .rintro (h|h|h)<;>simp [h]
theorem Py (k:Int) (l:List Rx):pY k [] l=if k=3 then l else J6 l:=by
 split
 .rename_i h;subst h;rw [Et];rfl
 .rename_i h
  exact Gp (Eu h l .nil) (EG l) λt=>by rw [Ev h,EH];simp
def ms (μ:Rx->Nat):List Rx->Nat
 |[]=>0
 |a::l=>μ a+ms μ l
section
variable {μ:Rx->Nat}
theorem ME:∀l m:List Rx,ms μ (l++m)=ms μ l+ms μ m
 |[],m=>by simp [ms]
 |a::l,m=>by show μ a+ms μ (l++m)=μ a+ms μ l+ms μ m;rw [ME l m];omega
theorem Pm {l m:List Rx} (h:l.Perm m):ms μ l=ms μ m:=by
 induction h with
 |nil=>rfl
 |cons x _ ih=>show μ x+_=μ x+_;rw [ih]
 |swap x y l=>show μ y+(μ x+_)=μ x+(μ y+_);omega
 |trans _ _ h1 h2=>rw [h1,h2]
end
mutual
def qu:Rx->Nat|.mk _ _ _ l=>max 1 (Ph l)
def Ph:List Rx->Nat
 |[]=>0
 |a::l=>qu a+Ph l
end
theorem MC:∀l:List Rx,Ph l=ms qu l
 |[]=>rfl
 |a::l=>by unfold Ph;rw [MC l];rfl
theorem xw (k:Int) (lo hi:UInt8) (l:List Rx):qu (.mk k lo hi l)=max 1 (ms qu l):=by unfold qu;rw [MC]
mutual
def B5 (N:Nat):Rx->Prop|.mk k _ _ l=>yQ N l/\(k=4\/k=5->ms qu l<=N)
def yQ (N:Nat):List Rx->Prop
 |[]=>True
 |a::l=>B5 N a/\yQ N l
end
mutual
theorem FU {N:Nat}:∀x:Rx,qu x<=N->B5 N x
 |.mk k lo hi l,h=>by
  rw [xw] at h
  unfold B5
  exact ⟨HK l (by omega),λ_=>by omega⟩
theorem HK {N:Nat}:∀l:List Rx,ms qu l<=N->yQ N l
 |[],_=>by unfold yQ;trivial
 |a::l,h=>by
  have h:qu a+ms qu l<=N:=h
  unfold yQ
  exact ⟨FU a (by omega),HK l (by omega)⟩
end
end Go.Proofs.YtcifihepfadgfaaGreatDoor
namespace Go.Proofs.YtcifihepfadgfaaGreatDoor
open List renaming mem_append->fW,mem_cons->cU,not_mem_nil->qnM,mem_of_getElem?->dC,getElem?_eq_getElem->g7,getElem?_eq_some_iff->nP,mem_append_left->qmL,mem_append_right->qmR,mem_flatMap->mV,mem_map->o8,length_append->qlA,append_assoc->qaA,length_take->qlT,flatMap_append->qfA,flatMap_cons->qfC,mem_cons_of_mem->qmCM,mem_cons_self->qmCS,length_set->qlS,take_append_drop->qtAD,drop_eq_getElem_cons->qdG,append_nil->qaN,take_add_one->qtO,map_cons->qmpC,drop_drop->qdD,getElem?_drop->qgD,getElem?_set_self->qgSS,drop_of_length_le->qdO,take_of_length_le->qtOL,length_reverse->qlRv
open Go Go.W
def qt (x:Rt):List Rt->List Rt
 |[]=>[x]
 |y::p=>if cP x.rx y.rx<0 then y::qt x p else x::y::p
def jO (l:List Rt):List Rt:=(l.foldl (λp x=>qt x p) []).reverse
theorem yZ (x:Rt):∀p,(qt x p).length=p.length+1
 |[]=>rfl
 |y::p=>by
  unfold qt
  split
  .simp [yZ x p]
  .simp
theorem GV (l:List Rt) (x:Rt):jO (l++[x])=(qt x (jO l).reverse).reverse:=by
 unfold jO
 rw [List.foldl_append,List.reverse_reverse]
 rfl
theorem D5 {x t:Rt}:∀{p:List Rt},t∈qt x p↔t=x\/t∈p
 |[]=>by unfold qt;simp
 |y::p=>by
  unfold qt
  split
  .rw [cU,D5,cU]
   constructor
   .rintro (h|h|h)<;>simp [h]
   .rintro (h|h|h)<;>simp [h]
  .simp
theorem J9 {t:Rt} {l:List Rt}:t∈jO l↔t∈l:=by
 have:∀(l p:List Rt),t∈l.foldl (λp x=>qt x p) p↔t∈l\/t∈p:=by
  intro l
  induction l with
  |nil=>intro p;simp
  |cons a l ih=>
   intro p
   rw [List.foldl_cons,ih,D5,cU]
   constructor
   .rintro (h|h|h)<;>simp [h]
   .rintro ((h|h)|h)<;>simp [h]
 unfold jO
 rw [List.mem_reverse,this]
 simp
theorem Bx (l:List Rt):(jO l).length=l.length:=by
 have:∀(l p:List Rt),(l.foldl (λp x=>qt x p) p).length=l.length+p.length:=by
  intro l
  induction l with
  |nil=>intro p;simp
  |cons a l ih=>
   intro p
   rw [List.foldl_cons,ih,yZ,List.length_cons]
   omega
 unfold jO
 rw [qlRv,this]
 rfl
theorem Mp (x:Rt):∀p:List Rt,(qt x p).map Rt.rx=xR x.rx (p.map Rt.rx)
 |[]=>rfl
 |y::p=>by
  unfold qt
  rw [qmpC]
  unfold xR
  split
  .rw [qmpC,Mp x p]
  .rfl
theorem PW (l:List Rt):(jO l).map Rt.rx=qk (l.map Rt.rx):=by
 have:∀(l p:List Rt),(l.foldl (λp x=>qt x p) p).map Rt.rx=(l.map Rt.rx).foldl (λp x=>xR x p) (p.map Rt.rx):=by
  intro l
  induction l with
  |nil=>intro p;rfl
  |cons a l ih=>
   intro p
   rw [List.foldl_cons,ih,Mp]
   rfl
 unfold jO qk
 rw [List.map_reverse,this]
 rfl
theorem Bb (x:Rt):∀p:List Rt,(qt x p).Perm (x::p)
 |[]=>.refl _
 |y::p=>by
  unfold qt
  split
  .exact ((Bb x p).cons y).trans (.swap x y p)
  .exact .refl _
theorem GU (l:List Rt):(jO l).Perm l:=by
 have:∀(l p:List Rt),(l.foldl (λp x=>qt x p) p).Perm (l++p):=by
  intro l
  induction l with
  |nil=>intro p;exact .refl _
  |cons a l ih=>
   intro p
   rw [List.foldl_cons]
   exact (ih _).trans (((Bb a p).append_left l).trans List.perm_middle)
 unfold jO
 have h:=this l []
 rw [qaN] at h
 exact (List.reverse_perm _).trans h
theorem J8 (l:List Rt):NZ ((jO l).map Rt.rx):=by rw [PW];exact wV _
theorem Nn {l m:List Rt} (h:l.Perm m):Rt.fL l=Rt.fL m:=by
 induction h with
 |nil=>rfl
 |cons x _ ih=>show x.sz+_=x.sz+_;rw [ih]
 |swap x y l=>show y.sz+(x.sz+_)=x.sz+(y.sz+_);omega
 |trans _ _ h1 h2=>rw [h1,h2]
theorem P9 {α:Type} (A B:List α) (y x:α) (j:Nat) (hj:j=A.length+1):((A++y::x::B).set j y).set (j - 1) x=A++x::y::B:=by
 subst hj
 rw [List.set_append_right _ _ (by omega),Nat.add_sub_cancel,List.set_append_right _ _ (by omega)]
 simp
theorem Dh (s:Sl) (l:List Rt) (w:World) (hl:Rt.fL l<=1000000) (ho:aO w aB 4 s (l.flatMap Rt.c)) (pl:Rt.Ps w l) (hd:∀x∈bA s,x∉Rt.gN l) (A X Z:List Rt) (he:l=A++X++Z) (b:Nat) (hb:b=A.length+X.length):
  Calls Tryz.prog dZ #[s.v,.i (A.length:Int),.i (b:Int),.func (.func aU) #[] #[]] w λr w'=>(r=.returned (.tuple #[])/\aO w' aB 4 s ((A++jO X++Z).flatMap Rt.c))/\Fr (·∈bA s) w w':=by
 have ll:=Rt.eZ l
 have lX:A.length+X.length+Z.length=l.length:=by rw [he];simp [Nat.add_assoc]
 have H:LH (·∈bA s) w w [.row aB 4 s (l.flatMap Rt.c)] [.trees l]:=Z0 _ ho (by
  intro e he
  simp only [cU,qnM,or_false] at he
  subst he
  exact ⟨pl,λx hx hm=>hd x hx (aI.1 hm)⟩)
 have kt:∀t∈l,t.sz<=1000000:=λt ht=>Nat.le_trans (Rt.dK ht) hl
 have mA:∀t∈X,t∈l:=λt ht=>by rw [he];simp [ht]
 let R:aD:=λr w'=>(r=.returned (.tuple #[])/\aO w' aB 4 s ((A++jO X++Z).flatMap Rt.c))/\Fr (·∈bA s) w w'
 have outer:∀(d i:Nat) (w1:World),A.length+i+d=b->LH (·∈bA s) w w1 [.row aB 4 s ((A++jO (X.take i)++(X.drop i++Z)).flatMap Rt.c)] [.trees l]->
   slices_insertionSortCmpFunc_regex_Regex.L0 s (A.length:Int) (b:Int) ((A.length+i:Nat):Int) w1 R:=by
  intro d
  induction d with
  |zero=>
   intro i w1 hi H1
   refine slices_insertionSortCmpFunc_regex_Regex.cO _ _ _ _ _ _ (aM (decide_eq_false (by omega)) ⟨⟨rfl,?_⟩,H1.fr⟩)
   have:=H1.get 0
   rw [qtOL (by omega),qdO (by omega),List.nil_append] at this
   exact this
  |succ d pW=>
   intro i w1 hi H1
   refine slices_insertionSortCmpFunc_regex_Regex.cO _ _ _ _ _ _ (aS (decide_eq_true (by omega)) ?_)
   have hg:X[i]? =some (X[i]'(by omega)):=g7 (by omega)
   have CP:=qdG (l:=X) (i:=i) (by omega)
   generalize X[i]'(by omega)=x at hg CP
   have hS:jO (X.take (i+1))=(qt x (jO (X.take i)).reverse).reverse:=by rw [qtO,hg,Option.toList_some,GV]
   have hx:x∈l:=mA x (dC hg)
   have next:∀(w2:World),LH (·∈bA s) w w2 [.row aB 4 s ((A++jO (X.take (i+1))++(X.drop (i+1)++Z)).flatMap Rt.c)] [.trees l]->slices_insertionSortCmpFunc_regex_Regex.S2 s (A.length:Int) (b:Int) ((A.length+i:Nat):Int) w2 R:=by
    intro w2 H2
    show slices_insertionSortCmpFunc_regex_Regex.L0 _ _ _ _ _ _
    rw [aZ _ (by omega)]
    exact pW (i+1) w2 (by omega) H2
   have inner:∀(p:Nat) (P Q:List Rt) (w2:World),P.length=p->(qt x P.reverse).reverse++Q=jO (X.take (i+1))->(∀t∈P,t∈l)->LH (·∈bA s) w w2 [.row aB 4 s ((A++P++x::(Q++(X.drop (i+1)++Z))).flatMap Rt.c)] [.trees l]->
     slices_insertionSortCmpFunc_regex_Regex.L1 s (A.length:Int) (b:Int) ((A.length+i:Nat):Int) ((A.length+p:Nat):Int) w2 R:=by
    intro p
    induction p with
    |zero=>
     intro P Q w2 hp hq hP H2
     have:P=[]:=List.length_eq_zero_iff.1 hp
     subst this
     refine slices_insertionSortCmpFunc_regex_Regex.lE _ _ _ _ _ _ _ (H2.dr λw3 H3=>aM (decide_eq_false (by omega)) (next w3 ?_))
     have JF:x::Q=jO (X.take (i+1)):=hq
     rw [<-JF]
     simpa using H3
    |succ p ihp=>
     intro P Q w2 hp hq hP H2
     obtain ⟨P',y,rfl⟩:∃P' y,P=P'++[y]:=⟨P.dropLast,P.getLast (λh=>by rw [h] at hp;cases hp),(List.dropLast_concat_getLast _).symm⟩
     have HX:P'.length=p:=by simpa using hp
     have hy:y∈l:=hP y (by simp)
     have eA:A++(P'++[y])++x::(Q++(X.drop (i+1)++Z))=(A++P')++y::x::(Q++(X.drop (i+1)++Z)):=by simp
     rw [eA] at H2
     have lA:(A++P').length=A.length+p:=by simp [HX]
     have gy:((A++P')++y::x::(Q++(X.drop (i+1)++Z)))[A.length+p]? =some y:=by rw [<-lA,List.getElem?_append_right (Nat.le_refl _)];simp
     have gx:((A++P')++y::x::(Q++(X.drop (i+1)++Z)))[A.length+(p+1)]? =some x:=by rw [<-Nat.add_assoc,<-lA,List.getElem?_append_right (Nat.le_succ _)];simp
     have hlen:((A++P')++y::x::(Q++(X.drop (i+1)++Z))).length<=1000000:=by
      have h1:=congrArg List.length hq
      rw [Bx,qlA,qlRv,yZ,qlRv] at h1
      simp only [qlA,List.length_cons,qlT,List.length_drop,List.length_nil] at h1 ⊢
      omega
     have Gg:=(nP.1 gx).1
     have e1:IntKind.wrap .i64 (((A.length+(p+1):Nat):Int) - 1)=((A.length+p:Nat):Int):=by rw [yY (by omega) (by omega)];rfl
     have e2:qt x (P'++[y]).reverse=if cP x.rx y.rx<0 then y::qt x P'.reverse else x::y::P'.reverse:=by rw [List.reverse_append];rfl
     refine slices_insertionSortCmpFunc_regex_Regex.lE _ _ _ _ _ _ _ (H2.dr λw3 H3=>aS (decide_eq_true (by omega)) ?_)
     refine H3.el 0 (A.length+(p+1)) rfl gx (H3.el 0 (A.length+p) e1 gy ?_)
     refine H3.call (AM x y w3 (kt x hx) ((show Rt.Ps w3 l from H3.getD 0).mem hx) ((show Rt.Ps w3 l from H3.getD 0).mem hy)) ?_
     rintro _ w4 rfl H4
     refine ⟨_,rfl,aK (λhc=>H4.dr λw5 H5=>?_) (λhc=>next w4 ?_)⟩
     .refine H5.el 0 (A.length+p) e1 gy (H5.el 0 (A.length+(p+1)) rfl gx (H5.Te 0 (A.length+(p+1)) (t:=y) rfl Gg λw6 H6=>?_))
      refine H6.Te 0 (A.length+p) (t:=x) (ts:=((A++P')++y::x::(Q++(X.drop (i+1)++Z))).set (A.length+(p+1)) y) e1 (by rw [qlS];omega) λw7 H7=>?_
      rw [e1]
      rw [if_pos hc] at e2
      refine ihp P' (y::Q) w7 HX ?_ (λt ht=>hP t (by simp [ht])) ?_
      .rw [<-hq,e2]
       simp
      .have e3:=P9 (A++P') (Q++(X.drop (i+1)++Z)) y x (A.length+(p+1)) (by rw [lA];rfl)
       rw [show A.length+(p+1) - 1=A.length+p by omega] at e3
       have H8:LH (·∈bA s) w w7 [.row aB 4 s (((((A++P')++y::x::(Q++(X.drop (i+1)++Z))).set (A.length+(p+1)) y).set (A.length+p) x).flatMap Rt.c)] [.trees l]:=H7
       rw [e3] at H8
       exact H8
     .rw [if_neg hc] at e2
      rw [<-hq,e2]
      simpa using H4
   have VV:(jO (X.take i)).length=i:=by rw [Bx,qlT];omega
   refine inner i (jO (X.take i)) [] w1 VV ?_ (λt ht=>mA t (List.mem_of_mem_take (J9.1 ht))) ?_
   .rw [qaN,hS]
   .rw [CP] at H1
    simpa using H1
 refine slices_insertionSortCmpFunc_regex_Regex.ok _ _ _ w _ ?_
 show slices_insertionSortCmpFunc_regex_Regex.L0 _ _ _ _ _ R
 rw [aZ _ (by omega)]
 cases X with
 |nil=>
  refine slices_insertionSortCmpFunc_regex_Regex.cO _ _ _ _ _ _ (aM (decide_eq_false (by simp at hb;omega)) ⟨⟨rfl,?_⟩,Fr.refl _ _⟩)
  have:=H.get 0
  rw [he] at this
  exact this
 |cons a X=>
  refine outer (b - (A.length+1)) 1 w (by simp at hb;omega) ?_
  rw [show l.flatMap Rt.c=(A++jO ((a::X).take 1)++((a::X).drop 1++Z)).flatMap Rt.c from by rw [he];simp [jO,qt]] at H
  exact H
theorem Up {t:ByteArray} {m:Nat} {K:UInt8->Prop} (h:Nat.beq t.size 256=true) (hm:m<256) (hk:∀b,K b):∃b:UInt8,t[m]? =some b/\K b:=by
 rw [Nat.beq_eq] at h
 exact ⟨t[m]'(by omega),getElem?_pos t m (by omega),hk _⟩
theorem Vh (x:Int) (w:World):Calls Tryz.prog oH #[.u x] w λr w'=>(∃t:Int,r=.returned (.i t))/\bF w w':=by
 have s2:∀(x n:Int),math_bits_Len64.S2 x n w λr w'=>(∃t:Int,r=.returned (.i t))/\bF w w':=by
  intro x n
  have h0:0<=IntKind.wrap .u8 x/\IntKind.wrap .u8 x<256:=by
   rw [IntKind.wrap_u8]
   omega
  obtain ⟨m,hm⟩:=Int.eq_ofNat_of_zero_le h0.1
  refine ⟨h0.1,?_⟩
  have lC:m<256:=by omega
  refine Up (by kernel_rfl) (by rw [hm];exact lC) λb=>⟨⟨_,rfl⟩,Fr.refl _ _⟩
 have s1:∀(x n:Int),math_bits_Len64.S1 x n w λr w'=>(∃t:Int,r=.returned (.i t))/\bF w w':=λx n=>aK (λ_=>s2 _ _) (λ_=>s2 _ _)
 have s0:∀(x n:Int),math_bits_Len64.S0 x n w λr w'=>(∃t:Int,r=.returned (.i t))/\bF w w':=λx n=>aK (λ_=>s1 _ _) (λ_=>s1 _ _)
 refine math_bits_Len.ok _ w _ ((math_bits_Len64.ok _ w _ (aK (λ_=>s0 _ _) (λ_=>s0 _ _))).mono ?_)
 rintro _ w1 ⟨⟨t,rfl⟩,f⟩
 exact ⟨t,rfl,⟨t,rfl⟩,f⟩
def vZ (n:Nat):Prop:=∀(s:Sl) (l:List Rt) (w:World),l.length<=n->Rt.fL l<=1000000->aO w aB 4 s (l.flatMap Rt.c)->Rt.Ps w l->(∀x∈bA s,x∉Rt.gN l)->
 Calls Tryz.prog dN #[s.v,.func (.func aU) #[] #[]] w λr w'=>(∃m:List Rt,r=.returned (.tuple #[])/\m.Perm l/\NZ (m.map Rt.rx)/\aO w' aB 4 s (m.flatMap Rt.c))/\Fr (·∈bA s) w w'
def jR (p:Rt):List Rt->List Rt
 |[]=>[]
 |x::l=>if cP x.rx p.rx==0 then jR x l else x::jR x l
def qI:List Rt->List Rt
 |[]=>[]
 |a::l=>a::jR a l
theorem Dx (l:List Rt) (i:Nat):(l.flatMap Rt.c).take (i *4)=(l.take i).flatMap Rt.c:=by
 have hl:=Rt.gH (l.take i)
 by_cases h:i<=l.length
 .conv=>lhs;rw [<-qtAD i l,qfA]
  rw [List.take_append_of_le_length (by rw [hl,qlT];omega),qtOL (by rw [hl,qlT];omega)]
 .rw [qtOL (by rw [Rt.gH];omega),qtOL (l:=l) (by omega)]
theorem AW (l:List Rt) (i:Nat) (h:i<=l.length):(l.flatMap Rt.c).drop (i *4)=(l.drop i).flatMap Rt.c:=by
 have hl:=Rt.gH (l.take i)
 rw [qlT,Nat.min_eq_left h] at hl
 conv=>lhs;rw [<-qtAD i l,qfA]
 rw [List.drop_append_of_le_length (by omega),qdO (by omega),List.nil_append]
theorem Ox {w:World} {s:Sl} {l m:List Rt} (ho:aO w aB 4 s (l.flatMap Rt.c)) (i:Nat) (hi:i<=l.length) (hm:l.take i=m) {K:World->Prop} {R:aD} {w0:World} (hf:Fr (·∈bA s) w0 w)
  (hR:∀r w',KV s m r w0 w'->Fr (·∈bA s) w0 w'->R r w'):
  (0:Int)<=(i:Int)/\(i:Int)<=((s.n:Nat):Int)/\∃(w7:World),Sem.run Tryz.prog (Builtin.clear_ #[aF] Ki #[.slice (if s.c=(Int.toNat (i:Int)) then s.a else s.a.map (·.add ((Int.toNat (i:Int)) *4))) (s.n - (Int.toNat (i:Int))) (s.c - (Int.toNat (i:Int)))]) w=.ok (.tuple #[]) w7/\
   (0:Int)<=(i:Int)/\(i:Int)<=((s.c:Nat):Int)/\R (.returned (.slice (if s.c=0 then s.a else s.a.map (·.add (0 *4))) ((Int.toNat (i:Int)) - 0) (s.c - 0))) w7:=by
 have nr:=Rt.cB ho.iQ
 have Mb:=ho.cap
 obtain ⟨w2,h1,h2,h3⟩:=HE (ty:=Ki) yL Si rfl ho i (by omega)
 refine ⟨by omega,by omega,w2,h1,by omega,by omega,hR _ _ ⟨⟨if s.c=0 then s.a else s.a.map (·.add (0 *4)),i - 0,s.c - 0⟩,rfl,?_,λx hx=>?_⟩ (hf.trans h3 λx _ h=>h)⟩
 .rw [<-hm,<-Dx]
  exact h2
 .simp only [bA] at hx ⊢
  split at hx
  .rename_i p hp
   split at hp
   .rw [hp];exact hx
   .cases Aq:s.a with
    |none=>rw [Aq] at hp;cases hp
    |some q=>
     rw [Aq] at hp
     simp only [Option.map_some,Option.some.injEq] at hp
     subst hp
     rw [gp] at hx
     exact hx
  .cases hx
section
variable {M:Nat->Prop} {w0 w:World} {L D:List En}
theorem _root_.Go.W.LH.YM (H:LH M w0 w L D) (i k b:Nat) {s:Sl} {ts:List Rt} {t:Rt} {X:Int} {K:Int->Int->Int->Sl->Prop} (hX:X=(k:Int)) (hg:ts[b+k]? =some t) (h:K t.k t.lo.toNat t.hi.toNat t.s) (hi:L[i]? =some (.row aB 4 s (ts.flatMap Rt.c)):=by rfl):
  (0:Int)<=X/\X<((s.n - b:Nat):Int)/\aX (if s.c=b then s.a else s.a.map (·.add (b *4))) λp=>∃a b c:Int,∃d:Sl,w.cell? ((p.add (Int.toNat X *4)).add 0)=some (.i a)/\w.cell? ((p.add (Int.toNat X *4)).add 1)=some (.int .u8 b)/\w.cell? ((p.add (Int.toNat X *4)).add 2)=some (.int .u8 c)/\w.cell? ((p.add (Int.toNat X *4)).add 3)=some d.v/\K a b c d:=by
 subst hX
 have ho:aO w aB 4 s (ts.flatMap Rt.c):=H.get i hi
 have hn:=Rt.cB ho.iQ
 have hk:=(nP.1 hg).1
 have hr:=ho.iQ.sub b s.n (by omega) (Nat.le_refl _)
 rw [qtOL (by rw [Rt.gH];omega),AW _ _ (by omega)] at hr
 refine ⟨by omega,by omega,Rt.at' (s:=uv 4 s b s.n) hr (i:=k) (t:=t) (by rw [qgD];exact hg) λp hp c=>⟨_,_,_,_,c.c0,c.c1,c.c2,c.c3,h⟩⟩
end
theorem Af (s:Sl) (l:List Rt) (w:World) (hl:Rt.fL l<=1000000) (ho:aO w aB 4 s (l.flatMap Rt.c)) (pl:Rt.Ps w l) (hd:∀x∈bA s,x∉Rt.gN l):
  Calls Tryz.prog cZ #[s.v,.func (.func eE) #[] #[]] w λr w'=>KV s (qI l) r w w'/\Fr (·∈bA s) w w':=by
 have nr:=Rt.cB ho.iQ
 have ll:=Rt.eZ l
 have kt:∀t∈l,t.sz<=1000000:=λt ht=>Nat.le_trans (Rt.dK ht) hl
 have H:LH (·∈bA s) w w [.row aB 4 s (l.flatMap Rt.c)] [.trees l]:=Z0 _ ho (by
  intro e he
  simp only [cU,qnM,or_false] at he
  subst he
  exact ⟨pl,λx hx hm=>hd x hx (aI.1 hm)⟩)
 let R:aD:=λr w'=>KV s (qI l) r w w'/\Fr (·∈bA s) w w'
 have Wv:∀(d k b m:Nat) (cur:List Rt) (p:Rt) (w1:World),b+m+d=l.length->1<=m->1<=b->k<b+m->cur.length=l.length->cur.drop (b+m - 1)=l.drop (b+m - 1)->l[b+m - 1]? =some p->cur.take k++jR p (l.drop (b+m))=qI l->
   LH (·∈bA s) w w1 [.row aB 4 s (cur.flatMap Rt.c)] [.trees l]->
   slices_CompactFunc_sl_regex_Regex_regex_Regex.L2 s (k:Int) ⟨(if s.c=b then s.a else s.a.map (·.add (b *4))),(s.n - b),(s.c - b)⟩ (m:Int) w1 R:=by
  intro d
  induction d with
  |zero=>
   intro k b m cur p w1 hb hm Ku hk hc CP hp hq H1
   refine slices_CompactFunc_sl_regex_Regex_regex_Regex.Hf _ _ _ _ _ _ (aM (decide_eq_false ?_) ?_)
   .show ¬(m:Int)<((s.n - b:Nat):Int)
    omega
   rw [qdO (by omega)] at hq
   have JF:cur.take k=qI l:=by rw [<-hq];simp [jR]
   exact Ox (K:=λ_=>True) (H1.get 0) k (by omega) JF H1.fr λr w' h1 h2=>⟨h1,h2⟩
  |succ d pW=>
   intro k b m cur p w1 hb hm Ku hk hc CP hp hq H1
   have hg:l[b+m]? =some (l[b+m]'(by omega)):=g7 (by omega)
   have vi:=qdG (l:=l) (i:=b+m) (by omega)
   generalize l[b+m]'(by omega)=x at hg vi
   have Xz:cur[b+m]? =some x:=by
    have:(cur.drop (b+m - 1))[1]? =(l.drop (b+m - 1))[1]?:=by rw [CP]
    rw [qgD,qgD,show b+m - 1+1=b+m by omega] at this
    rw [this];exact hg
   have hgp:cur[b+(m - 1)]? =some p:=by
    have:(cur.drop (b+m - 1))[0]? =(l.drop (b+m - 1))[0]?:=by rw [CP]
    rw [qgD,qgD,Nat.add_zero] at this
    rw [show b+(m - 1)=b+m - 1 by omega,this];exact hp
   have VS:cur.drop (b+m)=l.drop (b+m):=by
    have:(cur.drop (b+m - 1)).drop 1=(l.drop (b+m - 1)).drop 1:=by rw [CP]
    rw [qdD,qdD,show b+m - 1+1=b+m by omega] at this
    exact this
   have mx:=dC hg
   have mp:=dC hp
   have e1:IntKind.wrap .i64 ((m:Int) - 1)=((m - 1:Nat):Int):=yY hm (by omega)
   rw [vi] at hq
   have eg:jR p (x::l.drop (b+m+1))=if cP x.rx p.rx==0 then jR x (l.drop (b+m+1)) else x::jR x (l.drop (b+m+1)):=rfl
   rw [eg] at hq
   have next:∀(k':Nat) (xO:List Rt) (w2:World),k'<b+(m+1)->xO.length=l.length->xO.drop (b+m)=l.drop (b+m)->xO.take k'++jR x (l.drop (b+m+1))=qI l->LH (·∈bA s) w w2 [.row aB 4 s (xO.flatMap Rt.c)] [.trees l]->
     slices_CompactFunc_sl_regex_Regex_regex_Regex.S3 s (k':Int) ⟨(if s.c=b then s.a else s.a.map (·.add (b *4))),(s.n - b),(s.c - b)⟩ (m:Int) w2 R:=by
    intro k' xO w2 h1 h2 h3 h4 H2
    show slices_CompactFunc_sl_regex_Regex_regex_Regex.L2 _ _ _ _ _ _
    rw [aZ _ (by omega)]
    exact pW k' b (m+1) xO x w2 (by omega) (by omega) Ku h1 h2 (by rw [show b+(m+1) - 1=b+m by omega];exact h3) (by rw [show b+(m+1) - 1=b+m by omega];exact hg) (by rw [show b+(m+1)=b+m+1 by omega];exact h4) H2
   refine slices_CompactFunc_sl_regex_Regex_regex_Regex.Hf _ _ _ _ _ _ (aS (decide_eq_true ?_) (H1.dr λw2 H2=>?_))
   .show (m:Int)<((s.n - b:Nat):Int)
    omega
   refine H2.YM 0 m b rfl Xz (H2.YM 0 (m - 1) b e1 hgp ?_)
   refine H2.call (uO x p w2 (kt x mx) ((show Rt.Ps w2 l from H2.getD 0).mem mx) ((show Rt.Ps w2 l from H2.getD 0).mem mp)) ?_
   rintro _ w3 rfl H3
   refine ⟨_,rfl,eO (λhf=>?_) (λht=>?_)⟩
   .refine H3.YM 0 m b rfl Xz (H3.Te 0 k (t:=x) (ts:=cur) rfl (by omega) λw4 H4=>?_)
    rw [if_neg (by rw [hf];simp)] at hq
    rw [aZ _ (by omega)]
    refine next (k+1) (cur.set k x) w4 (by omega) (by simpa using hc) ?_ ?_ H4
    .rw [List.drop_set_of_lt (by omega)];exact VS
    .rw [tM (by omega),qaA]
     exact hq
   .rw [if_pos ht] at hq
    exact next k cur w3 (by omega) hc VS hq H3
 have loop:∀(d k:Nat) (p:Rt) (w1:World),k+d=l.length->1<=k->l[k - 1]? =some p->l.take k++jR p (l.drop k)=qI l->LH (·∈bA s) w w1 [.row aB 4 s (l.flatMap Rt.c)] [.trees l]->
   slices_CompactFunc_sl_regex_Regex_regex_Regex.L0 s (k:Int) w1 R:=by
  intro d
  induction d with
  |zero=>
   intro k p w1 hk h1 hp hq H1
   refine slices_CompactFunc_sl_regex_Regex_regex_Regex.cO _ _ _ _ (aM (decide_eq_false (by omega)) ⟨⟨s,rfl,?_,λx hx=>hx⟩,H1.fr⟩)
   rw [qdO (by omega),qtOL (by omega)] at hq
   have JF:l=qI l:=by rw [<-hq];simp [jR]
   rw [<-JF]
   exact H1.get 0
  |succ d pW=>
   intro k p w1 hk h1 hp hq H1
   have hg:l[k]? =some (l[k]'(by omega)):=g7 (by omega)
   have vi:=qdG (l:=l) (i:=k) (by omega)
   generalize l[k]'(by omega)=x at hg vi
   have mx:=dC hg
   have mp:=dC hp
   have e1:IntKind.wrap .i64 ((k:Int) - 1)=((k - 1:Nat):Int):=yY h1 (by omega)
   rw [vi] at hq
   have eg:jR p (x::l.drop (k+1))=if cP x.rx p.rx==0 then jR x (l.drop (k+1)) else x::jR x (l.drop (k+1)):=rfl
   rw [eg] at hq
   refine slices_CompactFunc_sl_regex_Regex_regex_Regex.cO _ _ _ _ (aS (decide_eq_true (by omega)) (H1.dr λw2 H2=>?_))
   refine H2.el 0 k rfl hg (H2.el 0 (k - 1) e1 hp ?_)
   refine H2.call (uO x p w2 (kt x mx) ((show Rt.Ps w2 l from H2.getD 0).mem mx) ((show Rt.Ps w2 l from H2.getD 0).mem mp)) ?_
   rintro _ w3 rfl H3
   refine ⟨_,rfl,bB (λht=>⟨by omega,by omega,?_⟩) (λhf=>?_)⟩
   .rw [if_pos ht] at hq
    show slices_CompactFunc_sl_regex_Regex_regex_Regex.L2 _ _ _ _ _ _
    exact Wv d k k 1 l x w3 (by omega) (by omega) h1 (by omega) rfl rfl (by rw [Nat.add_sub_cancel];exact hg) hq H3
   .rw [if_neg (by rw [hf];simp)] at hq
    rw [aZ _ (by omega)]
    refine pW (k+1) x w3 (by omega) (by omega) (by rw [Nat.add_sub_cancel];exact hg) ?_ H3
    rw [qtO,hg,qaA]
    exact hq
 refine slices_CompactFunc_sl_regex_Regex_regex_Regex.ok _ w _ (aK (λh2=>⟨⟨s,rfl,?_,λx hx=>hx⟩,H.fr⟩) (λh2=>?_))
 .have e:qI l=l:=by
   cases l with
   |nil=>rfl
   |cons a l=>
    cases l with
    |nil=>rfl
    |cons b l=>simp at nr;omega
  rw [e]
  exact ho
 .have hg:l[0]? =some (l[0]'(by omega)):=g7 (by omega)
  have vi:=qdG (l:=l) (i:=0) (by omega)
  generalize l[0]'(by omega)=x at hg vi
  refine loop (l.length - 1) 1 x w (by omega) (by omega) hg ?_ H
  rw [List.drop_zero] at vi
  rw [vi]
  rfl
def lP (k:Int) (l:List Rx) (u:Rx):List Rx:=(l.flatMap λc=>if c.k=k then c.l else [c]).filter λt=>!(cP t u==0)
def Jo (k:Int) (u:Rx):List Rx->Rx
 |[]=>u
 |[a]=>a
 |l=>.mk k 0 0 l
def kX (k:Int) (l:List Rx) (u z:Rx):Rx:=if (lP k l u).any (λt=>cP t z==0) then z else Jo k u (if k=3 then lP k l u else yK (qk (lP k l u)))
def UU (k:Int) (l:List Rx):Nat:=(l.flatMap λc=>if c.k=k then c.l else [c]).length
def qp:Rx:=.mk 1 0 0 []
def fE:Rx:=.mk 6 0 0 [wI]
def qQ (lo hi:UInt8) (l:List Rx):Rx:=match l with
 |[]=>wI
 |c::l'=>if c.k=0\/c.k=1 then qp else if c.k=7\/cP c fE=0 then c else .mk 7 lo hi (c::l')
def Er (lo hi:UInt8) (l:List Rx):Rx:=match l with
 |[]=>wI
 |c::l'=>if c.k=6 then (match c.l with |[]=>wI|d::_=>d) else .mk 6 lo hi (c::l')
def mS:Rx->Rx
 |.mk k lo hi l=>if k=3 then kX 3 l qp wI else if k=4 then kX 4 l wI fE else if k=5 then kX 5 l fE wI else if k=6 then Er lo hi l else if k=7 then qQ lo hi l else .mk k lo hi l
def ni:Rx->Bool
 |.mk k _ _ l=>decide (0<=k)&&decide (k<8)&&(match l with
  |[]=>k !=6&&k !=7
  |c::_=>!(k==6&&c.k==6&&c.l.isEmpty))
theorem wR (t:Rt):t.rx.k=t.k:=by rw [Rt.c9];rfl
theorem M6 (t:Rt):t.rx.l=t.l.map Rt.rx:=by rw [Rt.c9,<-Rt.eW];rfl
theorem vf (x u:Rt):(kM x u).map Rt.rx=lP x.k (Rt.bU x.l) u.rx:=by
 unfold kM lP
 rw [Rt.eW]
 generalize x.l=l
 induction l with
 |nil=>rfl
 |cons a l ih=>
  rw [qmpC,qfC,qfC,List.filter_append,List.filter_append,List.map_append,ih]
  congr 1
  have e:(iJ x a).map Rt.rx=if a.rx.k=x.k then a.rx.l else [a.rx]:=by
   unfold iJ
   rw [wR,M6]
   split<;>simp
  rw [<-e,List.filter_map]
  rfl
theorem wj:∀(l:List Rt) (p:Rt),(jR p l).map Rt.rx=kJ p.rx (l.map Rt.rx)
 |[],p=>rfl
 |x::l,p=>by
  unfold jR
  rw [qmpC]
  unfold kJ
  split
  .exact wj l x
  .rw [qmpC,wj l x]
theorem Ou (l:List Rt):(qI l).map Rt.rx=yK (l.map Rt.rx):=by
 cases l with
 |nil=>rfl
 |cons a l=>show a.rx::(jR a l).map Rt.rx=_;rw [wj];rfl
theorem tY {t:Rt}:∀{l:List Rt} {p:Rt},t∈jR p l->t∈l
 |[],p,h=>h
 |x::l,p,h=>by
  unfold jR at h
  split at h
  .exact qmCM _ (tY h)
  .rcases cU.1 h with rfl|h
   .simp
   .exact qmCM _ (tY h)
theorem Lz {t:Rt} {l:List Rt} (h:t∈qI l):t∈l:=by
 cases l with
 |nil=>exact h
 |cons a l=>
  rcases cU.1 h with rfl|h
  .simp
  .exact qmCM _ (tY h)
theorem SC (l:List Rt) (z:Rt):l.any (λt=>cP t.rx z.rx==0)=(l.map Rt.rx).any λt=>cP t z.rx==0:=by
 rw [List.any_map];rfl
def oT (Ac:List Nat) (w:World) (x:Rx) (r:Ending) (w':World):Prop:=∃t:Rt,r=.returned t.v/\t.rx=x/\t.P w'/\∀b∈t.fp,w.heap.size<=b\/b∈Ac
theorem SR {N:Nat} (hS:vZ N) (hN:N<=1000000) (x u z:Rt) (bu bz:Nat) (w:World) (h:x.k≠3->UU x.k (Rt.bU x.l)<=N) (hx:x.sz<=1000000) (px:x.P w) (pu:u.P w) (pz:z.P w) (hu:w.heap[bu]? =some (.cells u.c.toArray aB (0,0))) (hz:w.heap[bz]? =some (.cells z.c.toArray aB (0,0))):
  Calls Tryz.prog iW #[x.v,.pointer (some (bD bu)),.pointer (some (bD bz))] w λr w'=>oT (x.fp++(u.fp++z.fp)) w (kX x.k (Rt.bU x.l) u.rx z.rx) r w'/\bF w w':=by
 have H0:LH F0 w w [] [.tree x,.tree u,.tree z,rT bu u,rT bz z]:=mf _ (by
  intro e he
  simp only [cU,qnM,or_false] at he
  rcases he with rfl|rfl|rfl|rfl|rfl
  .exact px
  .exact pu
  .exact pz
  .exact hu
  .exact hz)
 have rX:=Sub.kM x u
 have Zm:=Kd x u
 have hfl:=Rt.eZ (kM x u)
 have kt:∀t∈kM x u,t.sz<=1000000:=λt ht=>by have:=Rt.dK ht;omega
 have hpc:(kM x u).length<=UU x.k (Rt.bU x.l):=by
  have h1:=congrArg List.length (vf x u)
  rw [List.length_map] at h1
  rw [h1]
  exact List.length_filter_le ..
 refine regex_forms_2_1.cT _ _ _ _ _ _ w _ (H0.bI λb3 w1 H1=>H1.bI λb4 w2 H2=>⟨_,_,_,u.s,H2.tH 3 0,H2.tH 3 1,H2.tH 3 2,H2.tH 3 3,H2.ss (SP x u w2 hx (H2.getD 0) (H2.getD 1)) ?_⟩)
 rintro _ w3 ⟨s1,rfl,o1,n1⟩ H3 F3
 have H4:=F3.own (.row aB 4 s1 ((kM x u).flatMap Rt.c)) o1 n1
 have hps:∀w':World,x.P w'->Rt.Ps w' (kM x u):=λw' h=>rX.Ps h
 refine ⟨s1,rfl,H4.aL (yx s1 (kM x u) ⟨jl,#[],#[.pointer (some (bD bz))]⟩ (λt=>cP t.rx z.rx==0) [.tree x,.tree z,rT bz z] w3 (by omega) (H4.get 2:aO _ _ _ _ _).iQ (by
  intro e he
  simp only [cU,qnM,or_false] at he
  rcases he with rfl|rfl|rfl
  .exact H4.getD 0
  .exact H4.getD 2
  .exact H4.getD 4) (by kernel_rfl) (λw' t ht H'=>FG t z bz w' (kt t ht) ((hps w' (H'.getD 1)).mem ht) (H'.getD 2) (H'.getD 3))) ?_⟩
 rintro _ w4 rfl H5
 have ea:(kM x u).any (λt=>cP t.rx z.rx==0)=(lP x.k (Rt.bU x.l) u.rx).any λt=>cP t z.rx==0:=by rw [SC,vf]
 refine ⟨_,rfl,bB (λht=>⟨_,_,_,z.s,H5.tH 4 0,H5.tH 4 1,H5.tH 4 2,H5.tH 4 3,H5.aN λw8 H8=>⟨⟨z,rfl,?_,H8.getD 2,λb hb=>.inr (by simp [hb])⟩,H8.fr⟩⟩) (λhf=>?_)⟩
 .have nl:=ea▸ht
  unfold kX
  rw [if_pos nl]
 have hf':=ea▸hf
 have fin:∀(s':Sl) (ks:List Rt) (w':World),(∀t∈ks,t∈kM x u)->ks.map Rt.rx=(if x.k=3 then lP x.k (Rt.bU x.l) u.rx else yK (qk (lP x.k (Rt.bU x.l) u.rx)))->LH F0 w w' [.g b3,.g b4,.row aB 4 s' (ks.flatMap Rt.c)] [.tree x,.tree u,.tree z,rT bu u,rT bz z]->
   regex_forms_2_1.dU (bD bu) b3 x.k x.lo.toNat x.hi.toNat x.s b4 0 0 0 ⟨none,0,0⟩ s' w' λr w'=>oT (x.fp++(u.fp++z.fp)) w (kX x.k (Rt.bU x.l) u.rx z.rx) r w'/\bF w w':=by
  intro s' ks w' hk he H
  have sH:Sub x ks:=rX.sub hk
  have nr:=Rt.cB (H.get 2:aO _ _ _ _ _).iQ
  have ej:kX x.k (Rt.bU x.l) u.rx z.rx=Jo x.k u.rx (ks.map Rt.rx):=by
   unfold kX
   rw [if_neg (by rw [hf'];simp),he]
  refine aJ (λh0=>⟨_,_,_,u.s,H.tH 3 0,H.tH 3 1,H.tH 3 2,H.tH 3 3,H.aN λw8 H8=>⟨⟨u,rfl,?_,H8.getD 1,λb hb=>.inr (by simp [hb])⟩,H8.fr⟩⟩) (λh0=>aJ (λh1=>?_) (λh1=>H.aN λw8 H8=>⟨⟨.mk x.k 0 0 s' ks,rfl,?_,?_,λb hb=>?_⟩,H8.fr⟩))
  .have:ks=[]:=List.length_eq_zero_iff.1 (by omega)
   rw [ej,this];rfl
  .obtain ⟨a,rfl⟩:=List.length_eq_one_iff.1 (show ks.length=1 by omega)
   refine H.el 2 0 rfl (t:=a) rfl (H.aN λw8 H8=>⟨⟨a,rfl,?_,sH.P _ (H8.getD 0) a (by simp),λb hb=>.inr (by simp [sH.fp a (by simp) b hb])⟩,H8.fr⟩)
   rw [ej];rfl
  .rw [ej]
   unfold Rt.rx
   rw [Rt.eW]
   cases ks with
   |nil=>simp at nr;omega
   |cons a ks=>
    cases ks with
    |nil=>simp at nr;omega
    |cons b ks=>rfl
  .unfold Rt.P
   exact ⟨(H8.get 2:aO _ _ _ _ _).iQ,sH.Ps (H8.getD 0)⟩
  .unfold Rt.fp at hb
   rcases fW.1 hb with hb|hb
   .exact .inl ((H8.new _ (dC (i:=2) rfl) b (fQ hb)).resolve_right id)
   .exact .inr (by simp [sH.gN hb])
 have eo:∀w':World,LH F0 w w' [.g b3,.g b4,.row aB 4 s1 ((kM x u).flatMap Rt.c)] [.tree x,.tree u,.tree z,rT bu u,rT bz z]->∀y∈bA s1,y∉Rt.gN (kM x u):=λw' H' y hy hm=>H'.off 2 0 rfl rfl y hy (aI.2 (rX.gN hm))
 refine eB (λhk=>?_) (λhk=>fin s1 (kM x u) w4 (λ_ h=>h) (by rw [if_pos hk,vf]) H5)
 refine H5.Lo 2 rfl (hS s1 (kM x u) w4 (by have:=h hk;omega) (by omega) (H5.get 2) (hps w4 (H5.getD 0)) (eo w4 H5)) ?_
 rintro _ w5 ⟨m,rfl,TF,V3,o5⟩ hH
 have H6:LH F0 w w5 [.g b3,.g b4,.row aB 4 s1 (m.flatMap Rt.c)] [.tree x,.tree u,.tree z,rT bu u,rT bz z]:=hH (.row aB 4 s1 (m.flatMap Rt.c)) o5 λb hb=>.inl hb
 have Rm:Sub x m:=rX.sub λt ht=>TF.mem_iff.1 ht
 refine ⟨rfl,H6.Lo 2 rfl (Af s1 m w5 (by rw [Nn TF];omega) (H6.get 2) (Rm.Ps (H6.getD 0)) (λy hy hm=>H6.off 2 0 rfl rfl y hy (aI.2 (Rm.gN hm)))) ?_⟩
 rintro _ w6 ⟨s2,rfl,o6,n6⟩ hH2
 have H7:LH F0 w w6 [.g b3,.g b4,.row aB 4 s2 ((qI m).flatMap Rt.c)] [.tree x,.tree u,.tree z,rT bu u,rT bz z]:=hH2 (.row aB 4 s2 ((qI m).flatMap Rt.c)) o6 λb hb=>.inl (n6 b hb)
 have O1:m.map Rt.rx=qk ((kM x u).map Rt.rx):=Nc V3 (TF.map _)
 exact ⟨s2,rfl,fin s2 (qI m) w6 (λt ht=>TF.mem_iff.1 (Lz ht)) (by rw [if_neg hk,Ou,O1,vf]) H7⟩
theorem jo {w:World} {x t:Rt} (px:x.P w) {k:Nat} {X:Int} {K:Int->Int->Int->Sl->Prop} (hX:X=(k:Int)) (hg:x.l[k]? =some t) (h:K t.k t.lo.toNat t.hi.toNat t.s):
  (0:Int)<=X/\X<((x.s.n:Nat):Int)/\aX x.s.a λp=>∃a b c:Int,∃d:Sl,w.cell? ((p.add (Int.toNat X *4)).add 0)=some (.i a)/\w.cell? ((p.add (Int.toNat X *4)).add 1)=some (.int .u8 b)/\w.cell? ((p.add (Int.toNat X *4)).add 2)=some (.int .u8 c)/\w.cell? ((p.add (Int.toNat X *4)).add 3)=some d.v/\K a b c d:=by
 subst hX
 have hn:=Rt.cB px.parts.1
 have hk:=(nP.1 hg).1
 exact ⟨by omega,by omega,Rt.at' px.parts.1 hg λp hp c=>⟨_,_,_,_,c.c0,c.c1,c.c2,c.c3,h⟩⟩
theorem Vl (x:Rt) (w:World) (px:x.P w) (hk:x.k=6) (ho:ni x.rx=true):Calls Tryz.prog iR #[x.v] w λr w'=>oT x.fp w (Er x.lo x.hi (Rt.bU x.l)) r w'/\bF w w':=by
 have nr:=Rt.cB px.parts.1
 rw [Rt.c9] at ho
 cases hl:x.l with
 |nil=>rw [hl,hk] at ho;simp [ni,Rt.bU] at ho
 |cons c l'=>
  have hg:x.l[0]? =some c:=by rw [hl];rfl
  have mc:c∈x.l:=dC hg
  have e1:Rt.bU (c::l')=c.rx::Rt.bU l':=rfl
  refine regex_forms_3.cT _ _ _ _ w _ ((y9 px).bI λb1 w1 H1=>H1.bI λb2 w2 H2=>?_)
  have PA:x.P w2:=H2.getD 0
  have n2:0<x.s.n:=by rw [hl] at nr;simp at nr;omega
  refine ⟨by omega,by omega,Rt.at' PA.parts.1 hg λp hp cc=>⟨c.k,cc.c0,aJ (λh6=>?_) (λh6=>H2.aN λpT mg=>⟨⟨x,rfl,?_,mg.getD 0,λb hb=>.inr hb⟩,mg.fr⟩)⟩⟩
  .refine ⟨by omega,by omega,Rt.at' PA.parts.1 hg λp hp cc=>⟨c.s,cc.c3,?_⟩⟩
   cases HU:c.l with
   |nil=>
    rw [hl,e1] at ho
    have e2:c.rx.l.isEmpty=true:=by rw [M6,HU];rfl
    simp [ni,hk,wR,h6,e2] at ho
   |cons d l2=>
    have JA:c.l[0]? =some d:=by rw [HU];rfl
    refine jo (PA.parts.2.mem mc) rfl JA (H2.aN λw6 H6=>⟨⟨d,rfl,?_,((show x.P w6 from H6.getD 0).parts.2.mem mc).parts.2.mem (dC JA),λb hb=>.inr (Rt.eG.2 (.inr (Rt.bC.2 ⟨c,mc,Rt.eG.2 (.inr (Rt.bC.2 ⟨d,dC JA,hb⟩))⟩)))⟩,H6.fr⟩)
    rw [e1]
    show d.rx=if c.rx.k=6 then _ else _
    rw [if_pos (by rw [wR,h6]),M6,HU];rfl
  .rw [e1]
   show x.rx=if c.rx.k=6 then _ else _
   rw [if_neg (by rw [wR];exact h6),Rt.c9,hk,hl,e1]
theorem SV (x m v:Rt) (bm bv:Nat) (w:World) (hx:x.sz<=1000000) (px:x.P w) (pm:m.P w) (pv:v.P w) (hm:w.heap[bm]? =some (.cells m.c.toArray aB (0,0))) (hv:w.heap[bv]? =some (.cells v.c.toArray aB (0,0))) (em:m.rx=qp) (ev:v.rx=fE) (hk:x.k=7) (ho:ni x.rx=true):
  Calls Tryz.prog iS #[x.v,.pointer (some (bD bm)),.pointer (some (bD bv))] w λr w'=>oT (x.fp++(m.fp++v.fp)) w (qQ x.lo x.hi (Rt.bU x.l)) r w'/\bF w w':=by
 have nr:=Rt.cB px.parts.1
 rw [Rt.c9] at ho
 cases hl:x.l with
 |nil=>rw [hl,hk] at ho;simp [ni,Rt.bU] at ho
 |cons c l'=>
  have hg:x.l[0]? =some c:=by rw [hl];rfl
  have mc:c∈x.l:=dC hg
  have e1:Rt.bU (c::l')=c.rx::Rt.bU l':=rfl
  have H0:LH F0 w w [] [.tree x,.tree m,.tree v,rT bm m,rT bv v]:=mf _ (by
   intro e he
   simp only [cU,qnM,or_false] at he
   rcases he with rfl|rfl|rfl|rfl|rfl
   .exact px
   .exact pm
   .exact pv
   .exact hm
   .exact hv)
  refine regex_forms_4.cT _ _ _ _ _ _ w _ (H0.bI λb3 w1 H1=>H1.bI λb4 w2 H2=>?_)
  have n2:0<x.s.n:=by rw [hl] at nr;simp at nr;omega
  have sc:c.sz<=1000000:=by have:=Rt.dK mc;have:=Rt.gm x;omega
  have fc:∀b∈c.fp,b∈x.fp:=λb hb=>Rt.eG.2 (.inr (Rt.bC.2 ⟨c,mc,hb⟩))
  refine jo (show x.P w2 from H2.getD 0) rfl hg (H2.bI λb5 w3 H3=>?_)
  have isE:c.k=0\/c.k=1->∀w':World,LH F0 w w' [.g b3,.g b4,.g b5] [.tree x,.tree m,.tree v,rT bm m,rT bv v]->regex_forms_4.dU (bD bm) b4 0 0 0 ⟨none,0,0⟩ w' λr w'=>oT (x.fp++(m.fp++v.fp)) w (qQ x.lo x.hi (Rt.bU (c::l'))) r w'/\bF w w':=λhc w' H=>
   ⟨_,_,_,m.s,H.tH 3 0,H.tH 3 1,H.tH 3 2,H.tH 3 3,H.aN λw4 H4=>⟨⟨m,rfl,by
    rw [em,e1]
    show _=if c.rx.k=0\/c.rx.k=1 then _ else _
    rw [wR,if_pos hc],H4.getD 1,λb hb=>.inr (by simp [hb])⟩,H4.fr⟩⟩
  have isC:¬(c.k=0\/c.k=1)->(c.k=7\/cP c.rx fE=0)->∀w':World,LH F0 w w' [.g b3,.g b4,.g b5] [.tree x,.tree m,.tree v,rT bm m,rT bv v]->regex_forms_4.fY b4 0 0 0 ⟨none,0,0⟩ b5 c.k c.lo.toNat c.hi.toNat c.s w' λr w'=>oT (x.fp++(m.fp++v.fp)) w (qQ x.lo x.hi (Rt.bU (c::l'))) r w'/\bF w w':=λhn hc w' H=>
   H.aN λw4 H4=>⟨⟨c,rfl,by
    rw [e1]
    show _=if c.rx.k=0\/c.rx.k=1 then _ else if c.rx.k=7\/cP c.rx fE=0 then _ else _
    rw [wR,if_neg hn,if_pos hc],(show x.P w4 from H4.getD 0).parts.2.mem mc,λb hb=>.inr (by simp [fc b hb])⟩,H4.fr⟩
  refine aJ (λh0=>H3.aN λw4 H4=>isE (.inl h0) w4 H4) (λh0=>aJ (λh1=>H3.aN λw4 H4=>isE (.inr h1) w4 H4) (λh1=>aJ (λh7=>H3.aN λw4 H4=>isC (by omega) (.inl h7) w4 H4) (λh7=>H3.aN λw4 H4=>⟨_,_,_,v.s,H4.tH 4 0,H4.tH 4 1,H4.tH 4 2,H4.tH 4 3,?_⟩)))
  refine H4.aL (uO c v w4 sc ((show x.P w4 from H4.getD 0).parts.2.mem mc) (H4.getD 2)) ?_
  rintro _ w5 rfl H5
  rw [ev]
  refine ⟨_,rfl,aJ (λhc=>isC (by omega) (.inr hc) w5 H5) (λhc=>H5.aN λw6 H6=>⟨⟨x,rfl,?_,H6.getD 0,λb hb=>.inr (by simp [hb])⟩,H6.fr⟩)⟩
  rw [e1]
  show x.rx=if c.rx.k=0\/c.rx.k=1 then _ else if c.rx.k=7\/cP c.rx fE=0 then _ else _
  rw [wR,if_neg (by omega),if_neg (by
   rintro (h|h)
   .exact h7 h
   .exact hc h),Rt.c9,hk,hl,e1]
structure Fm where
 m:Nat
 es:Array MapEntry
 clock:Nat
 ms:List (Int×Value)
 cs:List (Nat×Rt)
 s:Sl
def mD:Rt:=.mk 0 0 0 ⟨none,0,0⟩ []
def gI:Rt:=.mk 1 0 0 ⟨none,0,0⟩ []
def Fm.ev (F:Fm):Rt:=.mk 6 0 0 F.s [mD]
def _root_.Go.W.En.fm (F:Fm):En:=.all (.ob F.m (.map F.es F.clock)::.tree F.ev::F.cs.map λp=>rT p.1 p.2)
def Bf (a b:Nat):Value:=.func (.func iW) #[] #[.pointer (some (bD a)),.pointer (some (bD b))]
def nQ:Value:=.func (.func ko) #[] #[]
def AB (cs:List (Nat×Rt)) (ev:Rt) (k:Int) (v:Value):Prop:=
 ((k=0\/k=1\/k=2)/\v=nQ)\/(∃u z a b,((k=3/\u=gI/\z=mD)\/(k=4/\u=mD/\z=ev)\/(k=5/\u=ev/\z=mD))/\v=Bf a b/\(a,u)∈cs/\(b,z)∈cs)\/
 (k=6/\v=.func (.func iR) #[] #[])\/∃a b,k=7/\v=.func (.func iS) #[] #[.pointer (some (bD a)),.pointer (some (bD b))]/\(a,gI)∈cs/\(b,ev)∈cs
structure Fm.Ok (F:Fm):Prop where
 ms:AE .i64 F.es F.ms
 all:∀k:Int,0<=k->k<8->∃v,wH F.ms k=some v/\AB F.cs F.ev k v
section
variable {F:Fm} {w:World}
theorem Tl (h:(En.fm F).P w):w.heap[F.m]? =some (.map F.es F.clock):=h (.ob F.m (.map F.es F.clock)) (by simp)
theorem LX (h:(En.fm F).P w):F.ev.P w:=h (.tree F.ev) (by simp)
theorem yb (h:(En.fm F).P w) {a:Nat} {u:Rt} (hu:(a,u)∈F.cs):w.heap[a]? =some (.cells u.c.toArray aB (0,0)):=h (rT a u) (qmCM _ (qmCM _ (o8.2 ⟨(a,u),hu,rfl⟩)))
theorem LY {b:Nat} (h:b∈F.ev.fp):b∈(En.fm F).fp:=aI.2 (mV.2 ⟨.tree F.ev,by simp,aI.2 h⟩)
theorem vu (w:World):mD.P w:=Ik w
theorem x9 (w:World):gI.P w:=by
 unfold gI Rt.P Rt.Ps
 exact ⟨jJ.nil 4 w,trivial⟩
theorem nD {b:Nat} (h:b∈mD.fp):False:=Rw h
theorem u0 {b:Nat} (h:b∈gI.fp):False:=by
 unfold gI Rt.fp Rt.gN at h
 simp [En.iQ] at h
theorem oT.sub {Ac WE:List Nat} {x:Rx} {r:Ending} {w':World} (h:oT Ac w x r w') (hs:∀b∈Ac,b∈WE):oT WE w x r w':=by
 obtain ⟨t,h1,h2,h3,h4⟩:=h
 exact ⟨t,h1,h2,h3,λb hb=>(h4 b hb).imp id (hs b)⟩
theorem Rv:KP Tryz.prog aQ bW bE .i64 .nilFunc:=⟨by kernel_rfl,by kernel_rfl,by kernel_rfl⟩
end
theorem Ed {P:Program} {T kt et:TypeId} {kd:IntKind} {z:Value} (mo:KP P T kt et kd z) {w:World} {mb:Nat} {es:Array MapEntry} {clock:Nat} {ms:List (Int×Value)}
  (hm:w.heap[mb]? =some (.map es clock)) (vY:AE kd es ms) (k:Int):(Instr.lookup T (.map (some mb)) (.int kd k) false).run P w=.ok ((wH ms k).getD z) w:=by
 have hf:=sB (k:=k) (i:=0) vY
 have hg:(getObj mb).run P w=.ok (.map es clock) w:=by simp [getObj,Sem.run,hm]
 have An:=Ef (ms:=ms) (k:=k) (i:=0)
 unfold Instr.lookup Instr.findKey
 simp only [Sem.run_bind,run_underlying mo.hT,Result.andThen_ok,hg,Sem.run_pure,uS mo.hk,run_underlying mo.hk,hf]
 cases hr:((ms.findIdx? λp=>p.1==k).bind λj=>(ms[j]?).map λp=>(0+j,p.2)) with
 |none=>rw [hr] at An;simp [<-An,tO mo.hz]
 |some q=>rw [hr] at An;simp [<-An]
theorem Ol {N:Nat} (hS:vZ N) (hN:N<=1000000) {F:Fm} (hF:F.Ok) {w:World} (h:(En.fm F).P w) (k:Int) (h0:0<=k) (h8:k<8):
  ∃f:Fv,(Instr.lookup aQ (.map (some F.m)) (.i k) false).run Tryz.prog w=.ok f.v w/\fD Tryz.prog f.n=true/\∀(x:Rt) (w':World),(En.fm F).P w'->x.P w'->x.k=k->(x.k=4\/x.k=5->UU x.k (Rt.bU x.l)<=N)->x.sz<=1000000->ni x.rx=true->
   Calls Tryz.prog f.n (f.bs++#[x.v]++f.cs) w' λr rC=>oT (x.fp++(En.fm F).fp) w' (mS x.rx) r rC/\bF w' rC:=by
 have mo:=Rv
 obtain ⟨v,hv,hg⟩:=hF.all k h0 h8
 have hl:=Ed mo (Tl h) hF.ms k
 rw [hv,Option.getD_some] at hl
 have fx:∀x:Rt,mS x.rx=if x.k=3 then kX 3 (Rt.bU x.l) qp wI else if x.k=4 then kX 4 (Rt.bU x.l) wI fE else if x.k=5 then kX 5 (Rt.bU x.l) fE wI else if x.k=6 then Er x.lo x.hi (Rt.bU x.l) else if x.k=7 then qQ x.lo x.hi (Rt.bU x.l) else x.rx:=λx=>by
  rw [Rt.c9];rfl
 rcases hg with ⟨hk,rfl⟩|⟨u,z',a,b,hk,rfl,ha,hb⟩|⟨rfl,rfl⟩|⟨a,b,rfl,rfl,ha,hb⟩
 .refine ⟨⟨ko,#[],#[]⟩,hl,by kernel_rfl,λx w' DH px JL XG Ml Wh=>((Lc x w' px).mono ?_)⟩
  rintro _ w2 ⟨rfl,f⟩
  refine ⟨⟨x,rfl,?_,px.ot f,λb hb=>.inr (by simp [hb])⟩,f⟩
  rw [fx,if_neg (by omega),if_neg (by omega),if_neg (by omega),if_neg (by omega),if_neg (by omega)]
 .refine ⟨⟨iW,#[],#[.pointer (some (bD a)),.pointer (some (bD b))]⟩,hl,by kernel_rfl,λx w' DH px JL XG Ml Wh=>?_⟩
  have pu:u.P w':=by
   rcases hk with ⟨_,rfl,_⟩|⟨_,rfl,_⟩|⟨_,rfl,_⟩
   .exact x9 w'
   .exact vu w'
   .exact LX DH
  have pz:z'.P w':=by
   rcases hk with ⟨_,_,rfl⟩|⟨_,_,rfl⟩|⟨_,_,rfl⟩
   .exact vu w'
   .exact LX DH
   .exact vu w'
  refine (SR hS hN x u z' a b w' (λh3=>XG (by rcases hk with ⟨rfl,_⟩|⟨rfl,_⟩|⟨rfl,_⟩<;>omega)) Ml px pu pz (yb DH ha) (yb DH hb)).mono ?_
  rintro r w2 ⟨hr,f⟩
  refine ⟨?_,f⟩
  have e:mS x.rx=kX x.k (Rt.bU x.l) u.rx z'.rx:=by
   rw [fx]
   rcases hk with ⟨rfl,rfl,rfl⟩|⟨rfl,rfl,rfl⟩|⟨rfl,rfl,rfl⟩
   .rw [if_pos JL,JL];rfl
   .rw [if_neg (by omega),if_pos JL,JL];rfl
   .rw [if_neg (by omega),if_neg (by omega),if_pos JL,JL];rfl
  rw [e]
  refine hr.sub λc hc=>?_
  rcases fW.1 hc with hc|hc
  .simp [hc]
  .rcases fW.1 hc with hc|hc
   .rcases hk with ⟨_,rfl,_⟩|⟨_,rfl,_⟩|⟨_,rfl,_⟩
    .exact (u0 hc).elim
    .exact (nD hc).elim
    .exact qmR _ (LY hc)
   .rcases hk with ⟨_,_,rfl⟩|⟨_,_,rfl⟩|⟨_,_,rfl⟩
    .exact (nD hc).elim
    .exact qmR _ (LY hc)
    .exact (nD hc).elim
 .refine ⟨⟨iR,#[],#[]⟩,hl,by kernel_rfl,λx w' DH px JL XG Ml Wh=>((Vl x w' px JL Wh).mono ?_)⟩
  rintro r w2 ⟨hr,f⟩
  refine ⟨?_,f⟩
  rw [fx,if_neg (by omega),if_neg (by omega),if_neg (by omega),if_pos JL]
  exact hr.sub λc hc=>by simp [hc]
 .refine ⟨⟨iS,#[],#[.pointer (some (bD a)),.pointer (some (bD b))]⟩,hl,by kernel_rfl,λx w' DH px JL XG Ml Wh=>((SV x gI F.ev a b w' Ml px (x9 w') (LX DH) (yb DH ha) (yb DH hb) rfl rfl JL Wh).mono ?_)⟩
  rintro r w2 ⟨hr,f⟩
  refine ⟨?_,f⟩
  rw [fx,if_neg (by omega),if_neg (by omega),if_neg (by omega),if_neg (by omega),if_pos JL]
  refine hr.sub λc hc=>?_
  rcases fW.1 hc with hc|hc
  .simp [hc]
  .rcases fW.1 hc with hc|hc
   .exact (u0 hc).elim
   .exact qmR _ (LY hc)
section
variable {s:Sl} {l:List Rt} {bs:Nat}
end
theorem Um {α:Type} {ts:List α} {i j:Nat} {a b:α} (hi:ts[i]? =some a) (hj:ts[j]? =some b) (q:Nat):((ts.set i b).set j a)[q]? =if q=j then some a else if q=i then some b else ts[q]?:=by
 have h1:=(nP.1 hi).1
 have h2:=(nP.1 hj).1
 rw [List.getElem?_set,qlS,List.getElem?_set]
 by_cases e:q=j
 .subst e;simp [h2]
 .rw [if_neg (show ¬j=q from λh=>e h.symm),if_neg e]
  by_cases e2:q=i
  .subst e2;simp [h1]
  .rw [if_neg (show ¬i=q from λh=>e2 h.symm),if_neg e2]
theorem P8 {α:Type} {ts:List α} {i j:Nat} {a b:α} (hi:ts[i]? =some a) (hj:ts[j]? =some b):((ts.set i b).set j a).Perm ts:=by
 obtain ⟨h1,rfl⟩:=nP.1 hi
 obtain ⟨h2,rfl⟩:=nP.1 hj
 exact List.set_set_perm h1 h2
abbrev Xl (pv x:Rt):Prop:=cP x.rx pv.rx<0
structure Sq (l ts:List Rt) (pv:Rt) (i j:Nat):Prop where
 perm:ts.Perm l
 z:ts[0]? =some pv
 i1:1<=i
 ij:i<=j+1
 jn:j<ts.length
 lo:∀(q:Nat) x,1<=q->q<i->ts[q]? =some x->Xl pv x
 hi:∀(q:Nat) x,j<q->ts[q]? =some x->¬Xl pv x
theorem Sq.swap {l ts:List Rt} {pv x y:Rt} {i j:Nat} (I:Sq l ts pv i j) (hx:ts[i]? =some x) (hy:ts[j]? =some y) (h:i<j) (lx:¬Xl pv x) (ly:Xl pv y):Sq l ((ts.set i y).set j x) pv (i+1) (j - 1):=by
 have g:=Um hx hy
 have h1:=I.i1
 have hj:=I.jn
 refine ⟨(P8 hx hy).trans I.perm,?_,by omega,by omega,by simp only [qlS];omega,λq z ZC hq hz=>?_,λq z hq hz=>?_⟩
 .rw [g,if_neg (by omega),if_neg (by omega)];exact I.z
 .rw [g,if_neg (by omega)] at hz
  split at hz
  .cases hz;exact ly
  .exact I.lo q z ZC (by omega) hz
 .rw [g] at hz
  split at hz
  .cases hz;exact lx
  .rw [if_neg (by omega)] at hz
   exact I.hi q z (by omega) hz
theorem MS {s:Sl} {l:List Rt} {w:World} (hl:Rt.fL l<=1000000) (ho:aO w aB 4 s (l.flatMap Rt.c)) (pl:Rt.Ps w l) (hd:∀x∈bA s,x∉Rt.gN l) (A X Z:List Rt) (he:l=A++X++Z) (hX:X.length<=12) (a b:Int) (ha:a=(A.length:Int)) (hb:b=((A.length+X.length:Nat):Int)) (lim:Int) (wb wp:Bool) {R:aD}
  (hR:∀w',aO w' aB 4 s ((A++jO X++Z).flatMap Rt.c)->Fr (·∈bA s) w w'->R (.returned (.tuple #[])) w'):slices_pdqsortCmpFunc_regex_Regex.L0 s a b lim wb wp w R:=by
 have ll:=Rt.eZ l
 have lX:A.length+X.length+Z.length=l.length:=by rw [he];simp [Nat.add_assoc]
 subst ha hb
 refine slices_pdqsortCmpFunc_regex_Regex.cO _ _ _ _ _ _ _ _ (aS (decide_eq_true ?_) ?_)
 .rw [IntWalk.i64_in _ (by omega)]
  omega
 refine (Dh s l w hl ho pl hd A X Z he _ rfl).mono ?_
 rintro _ w2 ⟨⟨rfl,h2⟩,f2⟩
 exact ⟨rfl,hR w2 h2 f2⟩
set_option maxRecDepth 100000
theorem N4 {M:Nat->Prop} {w0 w:World} {L L' D:List En} (H:LH M w0 w L D) (h:L.Perm L'):LH M w0 w L' D:=
 ⟨H.fr,λe he=>H.own e (h.mem_iff.2 he),H.rd,λe he=>H.new e (h.mem_iff.2 he),(h.flatMap_right (·.fp)).nodup_iff.1 H.nd,λe he b hb e' mJ=>H.dj e he b hb e' (h.mem_iff.2 mJ)⟩
theorem fR {L:Nat->Bool} {i j:Nat} (h:j≠i):jg L i j=L j:=by
 have:Nat.beq j i=false:=by rw [<-Bool.not_eq_true,Nat.beq_eq];exact h
 simp [jg,this]
theorem ID {L:Nat->Bool} {i:Nat}:jg L i i=true:=by simp [jg]
theorem J1 {P:Program} {fn:Func} {E:Env} {w:World} {K:Value->Prop} {t:Nat} {v:Value} (hr:fn.results.toList=[.tmp t]) (ht:E.get? t=some v) (h:K v):rM P fn E w K:=by
 unfold rM
 rw [hr]
 unfold zm
 rw [ht]
 exact h
def HM:List (Op×Option Nat×TypeId×List Nat):=[
 (.makeMap aQ none,some 11,aQ,[]),
 (.move (.tmp 4),some 12,bE,[]),
 (.insert aQ (.tmp 11) (.const (.int .i64 0)) (.tmp 12),none,Ki,[0,1]),
 (.move (.tmp 4),some 13,bE,[]),
 (.insert aQ (.tmp 11) (.const (.int .i64 1)) (.tmp 13),none,Ki,[0,3]),
 (.move (.tmp 4),some 14,bE,[]),
 (.insert aQ (.tmp 11) (.const (.int .i64 2)) (.tmp 14),none,Ki,[0,5]),
 (.move (.tmp 5),some 15,cC,[]),
 (.load aB (.tmp 2),some 16,aB,[]),
 (.load aB (.tmp 1),some 17,aB,[]),
 (.call ⟨.value (.tmp 15),#[.tmp 16,.tmp 17],#[aB,aB]⟩,some 18,bE,[7,8,9]),
 (.insert aQ (.tmp 11) (.const (.int .i64 3)) (.tmp 18),none,Ki,[0,10]),
 (.move (.tmp 5),some 19,cC,[]),
 (.load aB (.tmp 1),some 20,aB,[]),
 (.load aB (.tmp 3),some 21,aB,[]),
 (.call ⟨.value (.tmp 19),#[.tmp 20,.tmp 21],#[aB,aB]⟩,some 22,bE,[12,13,14,10]),
 (.insert aQ (.tmp 11) (.const (.int .i64 4)) (.tmp 22),none,Ki,[0,15]),
 (.move (.tmp 5),some 23,cC,[]),
 (.load aB (.tmp 3),some 24,aB,[]),
 (.load aB (.tmp 1),some 25,aB,[]),
 (.call ⟨.value (.tmp 23),#[.tmp 24,.tmp 25],#[aB,aB]⟩,some 26,bE,[17,18,19,15]),
 (.insert aQ (.tmp 11) (.const (.int .i64 5)) (.tmp 26),none,Ki,[0,20]),
 (.insert aQ (.tmp 11) (.const (.int .i64 6)) (.func iR),none,Ki,[0]),
 (.makeFunc (.func iS) #[] #[.tmp 2,.tmp 3],some 27,bE,[]),
 (.insert aQ (.tmp 11) (.const (.int .i64 7)) (.tmp 27),none,Ki,[0,23]),
 (.move (.tmp 11),some 28,aQ,[0,1,2,3,4,5,6,7,8,9,10,11,12,13,14,15,16,17,18,19,20,21,22,23,24]),
 (.assign (.tmp 28),some 0,aQ,[25,20,0,1,2,3,4,5,6,7,8,9,10,11,12,13,14,15,16,17,18,19,20,21,22,23,24,25])]
abbrev ptr (b:Nat):Value:=.pointer (some (bD b))
abbrev vN:Value:=.func (.func mz) #[] #[]
abbrev IJ (a b:Nat):Value:=.func (.func iS) #[] #[ptr a,ptr b]
abbrev vV (s:Sl):Rt:=.mk 6 0 0 s [mD]
def l9 (b1 b2 b4:Nat) (ev:Rt):List (Nat×Nat×Value):=[(0,1,ptr b1),(0,2,ptr b2),(0,3,ptr b4),(0,4,nQ),(0,5,vN),(2,12,nQ),(4,13,nQ),(6,14,nQ),(8,15,vN),(9,16,gI.v),(10,17,mD.v),(13,19,vN),(14,20,mD.v),(15,21,ev.v),(18,23,vN),(19,24,ev.v),(20,25,mD.v),(24,27,IJ b2 b4)]
def lI:List (Nat×Int):=[(2,0),(4,1),(6,2),(11,3),(16,4),(21,5),(22,6),(24,7)]
def jr (ev:Rt):List (Nat×Nat×Rt×Rt):=[(10,18,gI,mD),(15,22,mD,ev),(20,26,ev,mD)]
def Joined (ev:Rt) (cs:List (Nat×Rt)) (L:Nat->Bool) (E:Env):Prop:=∀q∈jr ev,L q.1=true->∃a b,E.get? q.2.1=some (Bf a b)/\(a,q.2.2.1)∈cs/\(b,q.2.2.2)∈cs
def Hg (ev:Rt) (cs:List (Nat×Rt)) (L:Nat->Bool) (E:Env) (mp:List En):Prop:=(L 0=false/\mp=[]/\(∀q∈lI,L q.1=false)/\L 25=false/\L 26=false)\/
 (L 0=true/\∃(m:Nat) (es:Array MapEntry) (clock:Nat) (ms:List (Int×Value)),mp=[.ob m (.map es clock)]/\E.get? 11=some (.map (some m))/\AE .i64 es ms/\(∀k v,wH ms k=some v->AB cs ev k v)/\(∀q∈lI,(wH ms q.2).isSome=L q.1)/\
  (L 25=true->E.get? 28=some (.map (some m)))/\(L 26=true->E.get? 0=some (.map (some m))))
abbrev sD (b1 b2 b4:Nat) (s:Sl):List En:=[rT b1 mD,rT b2 gI,.row aB 4 s mD.c,rT b4 (vV s)]
structure FJ (w0:World) (b1 b2 b4:Nat) (s:Sl) (L:Nat->Bool) (E:Env) (w:World):Prop where
 st:uG (l9 b1 b2 b4 (vV s)) L E
 hp:∃(mp X:List En) (cs:List (Nat×Rt)),LH F0 w0 w (mp++(sD b1 b2 b4 s++X)) []/\(∀p∈cs,rT p.1 p.2∈sD b1 b2 b4 s++X)/\(b2,gI)∈cs/\(b4,vV s)∈cs/\Joined (vV s) cs L E/\Hg (vV s) cs L E mp
theorem AB.mono {cs UH:List (Nat×Rt)} {ev:Rt} {k:Int} {v:Value} (h:AB cs ev k v) (hs:∀p∈cs,p∈UH):AB UH ev k v:=by
 rcases h with h|⟨u,z,a,b,h1,h2,h3,h4⟩|h|⟨a,b,h1,h2,h3,h4⟩
 .exact .inl h
 .exact .inr (.inl ⟨u,z,a,b,h1,h2,hs _ h3,hs _ h4⟩)
 .exact .inr (.inr (.inl h))
 .exact .inr (.inr (.inr ⟨a,b,h1,h2,hs _ h3,hs _ h4⟩))
theorem Bk (ms:List (Int×Value)) (k k':Int) (v:Value):wH (ms++[(k,v)]) k'=(wH ms k').or (if k=k' then some v else none):=by
 unfold wH
 rw [List.find?_append]
 cases h:ms.find? (λp=>p.1==k') with
 |some p=>rfl
 |none=>
  by_cases hk:k=k'
  .simp [hk]
  .simp [hk]
section
variable {w0 w:World} {b1 b2 b4:Nat} {s:Sl} {L:Nat->Bool} {E:Env}
theorem Hg.gV {ev:Rt} {cs UH:List (Nat×Rt)} {mp:List En} (h:Hg ev cs L E mp) (hs:∀p∈cs,p∈UH) (i d:Nat) (v:Value) (hi:∀j∈[0,25,26,2,4,6,11,16,21,22,24],j≠i) (hd:∀t∈[11,28,0],d≠t):Hg ev UH (jg L i) (E.put (some d) v) mp:=by
 have hn:∀q∈lI,jg L i q.1=L q.1:=λq hq=>fR (hi _ (by simp only [lI,cU,qnM,or_false] at hq;rcases hq with rfl|rfl|rfl|rfl|rfl|rfl|rfl|rfl<;>simp))
 have n0:jg L i 0=L 0:=fR (hi 0 (by simp))
 have n25:jg L i 25=L 25:=fR (hi 25 (by simp))
 have n26:jg L i 26=L 26:=fR (hi 26 (by simp))
 rcases h with ⟨h0,h1,h2,h3,h4⟩|⟨h0,m,es,clock,ms,h1,h2,h3,h4,h5,h6,h7⟩
 .exact .inl ⟨by rw [n0,h0],h1,λq hq=>by rw [hn q hq,h2 q hq],by rw [n25,h3],by rw [n26,h4]⟩
 .refine .inr ⟨by rw [n0,h0],m,es,clock,ms,h1,?_,h3,λk v hk=>(h4 k v hk).mono hs,λq hq=>by rw [hn q hq,h5 q hq],λh=>?_,λh=>?_⟩
  .rw [eQ (hd 11 (by simp)),h2]
  .rw [eQ (hd 28 (by simp)),h6 (n25▸h)]
  .rw [eQ (hd 0 (by simp)),h7 (n26▸h)]
theorem FJ.stat (h:FJ w0 b1 b2 b4 s L E w) (i d:Nat) (v:Value) (h1:∀q∈l9 b1 b2 b4 (vV s),q.1=i+1->q=(i+1,d,v)) (h2:∀q∈l9 b1 b2 b4 (vV s),q.2.1=d->q.1=i+1)
  (hi:∀j∈[0,25,26,2,4,6,11,16,21,22,24],j≠i) (vX:∀j∈[10,15,20],j≠i) (hd:∀t∈[11,28,0],d≠t) (QV:∀t∈[18,22,26],d≠t):FJ w0 b1 b2 b4 s (jg L i) (E.put (some d) v) w:=by
 obtain ⟨mp,X,cs,H,hc,hm,hv,hj,vY⟩:=h.hp
 refine ⟨h.st.fill h1 h2,mp,X,cs,H,hc,hm,hv,λq hq hL=>?_,vY.gV (λ_ h=>h) i d v hi hd⟩
 have e:jg L i q.1=L q.1/\d≠q.2.1:=by
  simp only [jr,cU,qnM,or_false] at hq
  rcases hq with rfl|rfl|rfl
  .exact ⟨fR (vX 10 (by simp)),QV 18 (by simp)⟩
  .exact ⟨fR (vX 15 (by simp)),QV 22 (by simp)⟩
  .exact ⟨fR (vX 20 (by simp)),QV 26 (by simp)⟩
 rw [eQ e.2]
 exact hj q hq (e.1▸hL)
theorem FJ.ins (h:FJ w0 b1 b2 b4 s L E w) (i:Nat) (k:Int) (v:Value) (Ra:(i,k)∈lI) (h0:L 0=true) (hi:L i=false) (hv:∀cs,(b2,gI)∈cs->(b4,vV s)∈cs->Joined (vV s) cs L E->AB cs (vV s) k v):
  ∃m,E.get? 11=some (.map (some m))/\∃w',(Instr.mapUpdate aQ (.map (some m)) (.i k) v).run Tryz.prog w=.ok () w'/\FJ w0 b1 b2 b4 s (jg L i) (E.put none undef) w':=by
 obtain ⟨mp,X,cs,H,hc,hm,uD,hj,vY⟩:=h.hp
 rcases vY with ⟨wz,_⟩|⟨_,m,es,clock,ms,rfl,h2,h3,h4,h5,h6,h7⟩
 .rw [h0] at wz;cases wz
 have wD:wH ms k=none:=by
  have:=h5 _ Ra
  rw [hi] at this
  simpa using this
 obtain ⟨w',HF,r1,r2,r3,r4,r5⟩:=Au Rv (H.ob (b:=m) 0 rfl) h3 k v wD
 refine ⟨m,h2,w',r1,h.st.pass ?_ (λ_ _=>by simp),[.ob m (.map HF (clock+1))],X,cs,H.CK 0 (.ob m (.map HF (clock+1))) rfl (r4.mono λx _ e=>by simp [En.ob,e]) r2 (λb hb=>.inl hb),hc,hm,uD,λq hq hL=>?_,.inr ⟨?_,m,HF,clock+1,ms++[(k,v)],rfl,h2,r3,λk' v' JB=>?_,λq hq=>?_,λh=>?_,λh=>?_⟩⟩
 .intro q hq
  simp only [lI,cU,qnM,or_false,Prod.mk.injEq] at Ra
  simp only [l9,cU,qnM,or_false] at hq
  rcases hq with rfl|rfl|rfl|rfl|rfl|rfl|rfl|rfl|rfl|rfl|rfl|rfl|rfl|rfl|rfl|rfl|rfl|rfl<;>simp only<;>omega
 .have e:jg L i q.1=L q.1:=fR (by
   simp only [lI,cU,qnM,or_false,Prod.mk.injEq] at Ra
   simp only [jr,cU,qnM,or_false] at hq
   rcases hq with rfl|rfl|rfl<;>simp only<;>omega)
  exact hj q hq (e▸hL)
 .rw [fR (by
   simp only [lI,cU,qnM,or_false,Prod.mk.injEq] at Ra
   omega),h0]
 .rw [Bk] at JB
  by_cases Tz:k=k'
  .subst Tz
   rw [wD] at JB
   simp at JB
   subst JB
   exact hv cs hm uD hj
  .rw [if_neg Tz] at JB
   simp at JB
   exact h4 k' v' JB
 .rw [Bk]
  by_cases O0:q.1=i
  .have:q.2=k:=by
    simp only [lI,cU,qnM,or_false,Prod.mk.injEq] at Ra
    simp only [lI,cU,qnM,or_false] at hq
    rcases hq with rfl|rfl|rfl|rfl|rfl|rfl|rfl|rfl<;>simp only at O0 ⊢<;>omega
   rw [O0,ID,this,wD,if_pos rfl];rfl
  .have:k≠q.2:=by
    simp only [lI,cU,qnM,or_false,Prod.mk.injEq] at Ra
    simp only [lI,cU,qnM,or_false] at hq
    rcases hq with rfl|rfl|rfl|rfl|rfl|rfl|rfl|rfl<;>simp only at O0 ⊢<;>omega
   rw [fR O0,if_neg this,<-h5 q hq]
   simp
 .exact h6 (by rwa [fR (by
   simp only [lI,cU,qnM,or_false,Prod.mk.injEq] at Ra
   omega)] at h)
 .exact h7 (by rwa [fR (by
   simp only [lI,cU,qnM,or_false,Prod.mk.injEq] at Ra
   omega)] at h)
theorem FJ.call (h:FJ w0 b1 b2 b4 s L E w) (i d:Nat) (u z:Rt) (JG:(i,d,u,z)∈jr (vV s)):Calls Tryz.prog mz #[u.v,z.v] w λe w'=>∃v,e=.returned v/\FJ w0 b1 b2 b4 s (jg L i) (E.put (some d) v) w':=by
 obtain ⟨mp,X,cs,H,hc,hm,uD,hj,vY⟩:=h.hp
 have hid:(i=10/\d=18)\/(i=15/\d=22)\/(i=20/\d=26):=by
  simp only [jr,cU,qnM,or_false,Prod.mk.injEq] at JG
  omega
 refine regex_forms_2.ok _ _ _ _ _ _ _ _ w _ (H.nw λw1 vm H1=>H1.nw λw2 Kx H2=>⟨Bf w.heap.size w1.heap.size,rfl,h.st.pass ?_ ?_,mp,X++[rT w.heap.size u,rT w1.heap.size z],(w.heap.size,u)::(w1.heap.size,z)::cs,?_,?_,by simp [hm],by simp [uD],λq hq hL=>?_,vY.gV (λp hp=>by simp [hp]) i d _ ?_ ?_⟩)
 .intro q hq
  simp only [l9,cU,qnM,or_false] at hq
  rcases hq with rfl|rfl|rfl|rfl|rfl|rfl|rfl|rfl|rfl|rfl|rfl|rfl|rfl|rfl|rfl|rfl|rfl|rfl<;>simp only<;>omega
 .intro q hq he
  have he:d=q.2.1:=Option.some.inj he
  simp only [l9,cU,qnM,or_false] at hq
  rcases hq with rfl|rfl|rfl|rfl|rfl|rfl|rfl|rfl|rfl|rfl|rfl|rfl|rfl|rfl|rfl|rfl|rfl|rfl<;>simp only at he<;>omega
 .have e:mp++(sD b1 b2 b4 s++(X++[rT w.heap.size u,rT w1.heap.size z]))=mp++(sD b1 b2 b4 s++X)++[rT w.heap.size u]++[rT w1.heap.size z]:=by simp
  rw [e]
  exact H2
 .intro p hp
  rcases cU.1 hp with rfl|hp
  .simp
  rcases cU.1 hp with rfl|hp
  .simp
  rw [<-qaA]
  exact qmL _ (hc p hp)
 .by_cases O0:q.1=i
  .have:q=(i,d,u,z):=by
    simp only [jr,cU,qnM,or_false,Prod.mk.injEq] at JG
    simp only [jr,cU,qnM,or_false] at hq
    rcases hq with rfl|rfl|rfl<;>simp only at O0<;>rcases JG with ⟨rfl,rfl,rfl,rfl⟩|⟨rfl,rfl,rfl,rfl⟩|⟨rfl,rfl,rfl,rfl⟩<;>first |rfl|(exact absurd O0 (by decide))
   subst this
   exact ⟨_,_,th,by simp,by simp⟩
  .have iq:d≠q.2.1:=by
    simp only [jr,cU,qnM,or_false] at hq
    rcases hq with rfl|rfl|rfl<;>simp only at O0 ⊢<;>omega
   obtain ⟨a,b,h1,h2,h3⟩:=hj q hq (by rwa [fR O0] at hL)
   exact ⟨a,b,by rw [eQ iq,h1],by simp [h2],by simp [h3]⟩
 .intro j Zs
  simp only [cU,qnM,or_false] at Zs
  omega
 .intro j Zs
  simp only [cU,qnM,or_false] at Zs
  omega
theorem FJ.mk0 (h:FJ w0 b1 b2 b4 s L E w) (h0:L 0=false):FJ w0 b1 b2 b4 s (jg L 0) (E.put (some 11) (.map (some w.heap.size))) (w.alloc (.map #[] 0)):=by
 obtain ⟨mp,X,cs,H,hc,hm,uD,hj,vY⟩:=h.hp
 rcases vY with ⟨_,rfl,h2,h3,h4⟩|⟨wz,_⟩
 .refine ⟨h.st.pass ?_ ?_,[.ob w.heap.size (.map #[] 0)],X,cs,N4 (H.alloc (.map #[] 0)) ?_,hc,hm,uD,λq hq hL=>?_,.inr ⟨ID,w.heap.size,#[],0,[],rfl,th,rfl,λk v hk=>by simp [wH] at hk,λq hq=>?_,λh=>?_,λh=>?_⟩⟩
  .intro q hq
   simp only [l9,cU,qnM,or_false] at hq
   rcases hq with rfl|rfl|rfl|rfl|rfl|rfl|rfl|rfl|rfl|rfl|rfl|rfl|rfl|rfl|rfl|rfl|rfl|rfl<;>simp
  .intro q hq he
   have he:11=q.2.1:=Option.some.inj he
   simp only [l9,cU,qnM,or_false] at hq
   rcases hq with rfl|rfl|rfl|rfl|rfl|rfl|rfl|rfl|rfl|rfl|rfl|rfl|rfl|rfl|rfl|rfl|rfl|rfl<;>simp at he
  .exact List.perm_append_comm
  .have e:jg L 0 q.1=L q.1/\11≠q.2.1:=by
    simp only [jr,cU,qnM,or_false] at hq
    rcases hq with rfl|rfl|rfl<;>exact ⟨fR (by simp),by simp⟩
   rw [eQ e.2]
   exact hj q hq (e.1▸hL)
  .rw [fR (by
    simp only [lI,cU,qnM,or_false] at hq
    rcases hq with rfl|rfl|rfl|rfl|rfl|rfl|rfl|rfl<;>decide),h2 q hq]
   simp [wH]
  .rw [fR (by decide),h3] at h;cases h
  .rw [fR (by decide),h4] at h;cases h
 .rw [h0] at wz;cases wz
theorem FJ.m25 (h:FJ w0 b1 b2 b4 s L E w) (h0:L 0=true):∃m,E.get? 11=some (.map (some m))/\FJ w0 b1 b2 b4 s (jg L 25) (E.put (some 28) (.map (some m))) w:=by
 obtain ⟨mp,X,cs,H,hc,hm,uD,hj,vY⟩:=h.hp
 rcases vY with ⟨wz,_⟩|⟨_,m,es,clock,ms,rfl,h2,h3,h4,h5,h6,h7⟩
 .rw [h0] at wz;cases wz
 refine ⟨m,h2,h.st.pass ?_ ?_,[.ob m (.map es clock)],X,cs,H,hc,hm,uD,λq hq hL=>?_,.inr ⟨by rw [fR (by decide),h0],m,es,clock,ms,rfl,by rw [eQ (by decide),h2],h3,h4,λq hq=>?_,λ_=>th,λh=>?_⟩⟩
 .intro q hq
  simp only [l9,cU,qnM,or_false] at hq
  rcases hq with rfl|rfl|rfl|rfl|rfl|rfl|rfl|rfl|rfl|rfl|rfl|rfl|rfl|rfl|rfl|rfl|rfl|rfl<;>simp
 .intro q hq he
  have he:28=q.2.1:=Option.some.inj he
  simp only [l9,cU,qnM,or_false] at hq
  rcases hq with rfl|rfl|rfl|rfl|rfl|rfl|rfl|rfl|rfl|rfl|rfl|rfl|rfl|rfl|rfl|rfl|rfl|rfl<;>simp at he
 .have e:jg L 25 q.1=L q.1/\28≠q.2.1:=by
   simp only [jr,cU,qnM,or_false] at hq
   rcases hq with rfl|rfl|rfl<;>exact ⟨fR (by simp),by simp⟩
  rw [eQ e.2]
  exact hj q hq (e.1▸hL)
 .rw [fR (by
   simp only [lI,cU,qnM,or_false] at hq
   rcases hq with rfl|rfl|rfl|rfl|rfl|rfl|rfl|rfl<;>decide),h5 q hq]
 .rw [eQ (by decide)]
  exact h7 (by rwa [fR (by decide)] at h)
theorem FJ.m26 (h:FJ w0 b1 b2 b4 s L E w) (h0:L 0=true) (UK:L 25=true):∃m,E.get? 28=some (.map (some m))/\FJ w0 b1 b2 b4 s (jg L 26) (E.put (some 0) (.map (some m))) w:=by
 obtain ⟨mp,X,cs,H,hc,hm,uD,hj,vY⟩:=h.hp
 rcases vY with ⟨wz,_⟩|⟨_,m,es,clock,ms,rfl,h2,h3,h4,h5,h6,h7⟩
 .rw [h0] at wz;cases wz
 refine ⟨m,h6 UK,h.st.pass ?_ ?_,[.ob m (.map es clock)],X,cs,H,hc,hm,uD,λq hq hL=>?_,.inr ⟨by rw [fR (by decide),h0],m,es,clock,ms,rfl,by rw [eQ (by decide),h2],h3,h4,λq hq=>?_,λh=>?_,λ_=>th⟩⟩
 .intro q hq
  simp only [l9,cU,qnM,or_false] at hq
  rcases hq with rfl|rfl|rfl|rfl|rfl|rfl|rfl|rfl|rfl|rfl|rfl|rfl|rfl|rfl|rfl|rfl|rfl|rfl<;>simp
 .intro q hq he
  have he:0=q.2.1:=Option.some.inj he
  simp only [l9,cU,qnM,or_false] at hq
  rcases hq with rfl|rfl|rfl|rfl|rfl|rfl|rfl|rfl|rfl|rfl|rfl|rfl|rfl|rfl|rfl|rfl|rfl|rfl<;>simp at he
 .have e:jg L 26 q.1=L q.1/\0≠q.2.1:=by
   simp only [jr,cU,qnM,or_false] at hq
   rcases hq with rfl|rfl|rfl<;>exact ⟨fR (by simp),by simp⟩
  rw [eQ e.2]
  exact hj q hq (e.1▸hL)
 .rw [fR (by
   simp only [lI,cU,qnM,or_false] at hq
   rcases hq with rfl|rfl|rfl|rfl|rfl|rfl|rfl|rfl<;>decide),h5 q hq]
 .rw [eQ (by decide)]
  exact h6 UK
theorem FJ.ld (h:FJ w0 b1 b2 b4 s L E w) {u:Rt} {b:Nat} (hu:rT b u∈sD b1 b2 b4 s) {K:Value->Prop} (hk:K u.v):At Tryz.prog aB (bD b) w λv _=>K v:=by
 obtain ⟨mp,X,cs,H,_⟩:=h.hp
 have hb:w.heap[b]? =some (.cells u.c.toArray aB (0,0)):=H.own (rT b u) (qmR _ (qmL _ hu))
 have c0:=cellAt (p:=bD b) (i:=0) (v:=.int .i64 u.k) hb rfl rfl
 have c1:=cellAt (p:=bD b) (i:=1) (v:=.int .u8 (u.lo.toNat:Int)) hb rfl rfl
 have c2:=cellAt (p:=bD b) (i:=2) (v:=.int .u8 (u.hi.toNat:Int)) hb rfl rfl
 have c3:=cellAt (p:=bD b) (i:=3) (v:=u.s.v) hb rfl rfl
 have e:(At Tryz.prog aB (bD b) w λv _=>K v)=(∃n0:Int,∃n1:Int,∃n2:Int,∃n3:Sl,w.cell? ((bD b).add 0)=some (.int .i64 n0)/\w.cell? ((bD b).add 1)=some (.int .u8 n1)/\w.cell? ((bD b).add 2)=some (.int .u8 n2)/\w.cell? ((bD b).add 3)=some n3.v/\K (.agg #[.int .i64 n0,.int .u8 n1,.int .u8 n2,n3.v])):=by kernel_rfl
 rw [e]
 exact ⟨_,_,_,u.s,c0,c1,c2,c3,hk⟩
end
theorem OD (w:World) (b1 b2 b4:Nat) (s:Sl):allI (N6 Tryz.prog (FJ w b1 b2 b4 s)) HM 0:=
 ⟨λL E w' o ho hd ht hi dT hJ=>Uk ho (by rw [hd];exact hJ.mk0 hi),
  λL E w' o ho hd ht hi dT hJ=>vK (.inl ho) (hJ.st.get (i:=0) (d:=4) (v:=nQ) (by simp [l9]) rfl) (by rw [hd];exact hJ.stat 1 12 (nQ) (by simp [l9]) (by simp [l9]) (by simp) (by simp) (by simp) (by simp)),
  λL E w' o ho hd ht hi dT hJ=>by
   obtain ⟨m,Gb,w2,hr,vW⟩:=hJ.ins 2 0 (nQ) (by simp [lI]) (dT 0 (by simp)) hi (λcs h1 h2 h3=>.inl ⟨.inl rfl,rfl⟩)
   exact sX ho Gb rfl (hJ.st.get (i:=2) (d:=12) (v:=nQ) (by simp [l9]) (dT 1 (by simp))) ⟨w2,hr,by rw [hd];exact vW⟩,
  λL E w' o ho hd ht hi dT hJ=>vK (.inl ho) (hJ.st.get (i:=0) (d:=4) (v:=nQ) (by simp [l9]) rfl) (by rw [hd];exact hJ.stat 3 13 (nQ) (by simp [l9]) (by simp [l9]) (by simp) (by simp) (by simp) (by simp)),
  λL E w' o ho hd ht hi dT hJ=>by
   obtain ⟨m,Gb,w2,hr,vW⟩:=hJ.ins 4 1 (nQ) (by simp [lI]) (dT 0 (by simp)) hi (λcs h1 h2 h3=>.inl ⟨.inr (.inl rfl),rfl⟩)
   exact sX ho Gb rfl (hJ.st.get (i:=4) (d:=13) (v:=nQ) (by simp [l9]) (dT 3 (by simp))) ⟨w2,hr,by rw [hd];exact vW⟩,
  λL E w' o ho hd ht hi dT hJ=>vK (.inl ho) (hJ.st.get (i:=0) (d:=4) (v:=nQ) (by simp [l9]) rfl) (by rw [hd];exact hJ.stat 5 14 (nQ) (by simp [l9]) (by simp [l9]) (by simp) (by simp) (by simp) (by simp)),
  λL E w' o ho hd ht hi dT hJ=>by
   obtain ⟨m,Gb,w2,hr,vW⟩:=hJ.ins 6 2 (nQ) (by simp [lI]) (dT 0 (by simp)) hi (λcs h1 h2 h3=>.inl ⟨.inr (.inr rfl),rfl⟩)
   exact sX ho Gb rfl (hJ.st.get (i:=6) (d:=14) (v:=nQ) (by simp [l9]) (dT 5 (by simp))) ⟨w2,hr,by rw [hd];exact vW⟩,
  λL E w' o ho hd ht hi dT hJ=>vK (.inl ho) (hJ.st.get (i:=0) (d:=5) (v:=vN) (by simp [l9]) rfl) (by rw [hd];exact hJ.stat 7 15 (vN) (by simp [l9]) (by simp [l9]) (by simp) (by simp) (by simp) (by simp)),
  λL E w' o ho hd ht hi dT hJ=>zy ho (hJ.st.get (i:=0) (d:=2) (v:=ptr b2) (by simp [l9]) rfl) (hJ.ld (u:=gI) (b:=b2) (dC (i:=1) rfl) (K:=λv=>FJ w b1 b2 b4 s (jg L 8) (E.put o.dst v) w') (by rw [hd];exact hJ.stat 8 16 ((gI).v) (by simp [l9]) (by simp [l9]) (by simp) (by simp) (by simp) (by simp))),
  λL E w' o ho hd ht hi dT hJ=>zy ho (hJ.st.get (i:=0) (d:=1) (v:=ptr b1) (by simp [l9]) rfl) (hJ.ld (u:=mD) (b:=b1) (dC (i:=0) rfl) (K:=λv=>FJ w b1 b2 b4 s (jg L 9) (E.put o.dst v) w') (by rw [hd];exact hJ.stat 9 17 ((mD).v) (by simp [l9]) (by simp [l9]) (by simp) (by simp) (by simp) (by simp))),
  λL E w' o ho hd ht hi dT hJ=>by
   refine zx ho (hJ.st.get (i:=8) (d:=15) (v:=vN) (by simp [l9]) (dT 7 (by simp))) (hJ.st.get (i:=9) (d:=16) (v:=(gI).v) (by simp [l9]) (dT 8 (by simp))) (hJ.st.get (i:=10) (d:=17) (v:=(mD).v) (by simp [l9]) (dT 9 (by simp))) (by kernel_rfl) ((hJ.call 10 18 (gI) (mD) (by simp [jr])).mono ?_)
   rintro e w2 ⟨v,he,vW⟩
   rw [ht,show zeroOf Tryz.prog bE=.nilFunc from by kernel_rfl]
   exact ⟨v,he,by rw [hd];exact vW⟩,
  λL E w' o ho hd ht hi dT hJ=>by
   obtain ⟨mp,X,cs,H,hc,hm,uD,hj,vY⟩:=hJ.hp
   obtain ⟨a,b,QR,_,_⟩:=hj (10,18,gI,mD) (by simp [jr]) (dT 10 (by simp))
   obtain ⟨m,Gb,w2,hr,vW⟩:=hJ.ins 11 3 (Bf a b) (by simp [lI]) (dT 0 (by simp)) hi (λcs h1 h2 h3=>by
    obtain ⟨a',b',h',ha,hb⟩:=h3 (10,18,gI,mD) (by simp [jr]) (dT 10 (by simp))
    exact .inr (.inl ⟨gI,mD,a',b',.inl ⟨rfl,rfl,rfl⟩,Option.some.inj (QR.symm.trans h'),ha,hb⟩))
   exact sX ho Gb rfl QR ⟨w2,hr,by rw [hd];exact vW⟩,
  λL E w' o ho hd ht hi dT hJ=>vK (.inl ho) (hJ.st.get (i:=0) (d:=5) (v:=vN) (by simp [l9]) rfl) (by rw [hd];exact hJ.stat 12 19 (vN) (by simp [l9]) (by simp [l9]) (by simp) (by simp) (by simp) (by simp)),
  λL E w' o ho hd ht hi dT hJ=>zy ho (hJ.st.get (i:=0) (d:=1) (v:=ptr b1) (by simp [l9]) rfl) (hJ.ld (u:=mD) (b:=b1) (dC (i:=0) rfl) (K:=λv=>FJ w b1 b2 b4 s (jg L 13) (E.put o.dst v) w') (by rw [hd];exact hJ.stat 13 20 ((mD).v) (by simp [l9]) (by simp [l9]) (by simp) (by simp) (by simp) (by simp))),
  λL E w' o ho hd ht hi dT hJ=>zy ho (hJ.st.get (i:=0) (d:=3) (v:=ptr b4) (by simp [l9]) rfl) (hJ.ld (u:=vV s) (b:=b4) (dC (i:=3) rfl) (K:=λv=>FJ w b1 b2 b4 s (jg L 14) (E.put o.dst v) w') (by rw [hd];exact hJ.stat 14 21 ((vV s).v) (by simp [l9]) (by simp [l9]) (by simp) (by simp) (by simp) (by simp))),
  λL E w' o ho hd ht hi dT hJ=>by
   refine zx ho (hJ.st.get (i:=13) (d:=19) (v:=vN) (by simp [l9]) (dT 12 (by simp))) (hJ.st.get (i:=14) (d:=20) (v:=(mD).v) (by simp [l9]) (dT 13 (by simp))) (hJ.st.get (i:=15) (d:=21) (v:=(vV s).v) (by simp [l9]) (dT 14 (by simp))) (by kernel_rfl) ((hJ.call 15 22 (mD) (vV s) (by simp [jr])).mono ?_)
   rintro e w2 ⟨v,he,vW⟩
   rw [ht,show zeroOf Tryz.prog bE=.nilFunc from by kernel_rfl]
   exact ⟨v,he,by rw [hd];exact vW⟩,
  λL E w' o ho hd ht hi dT hJ=>by
   obtain ⟨mp,X,cs,H,hc,hm,uD,hj,vY⟩:=hJ.hp
   obtain ⟨a,b,QR,_,_⟩:=hj (15,22,mD,vV s) (by simp [jr]) (dT 15 (by simp))
   obtain ⟨m,Gb,w2,hr,vW⟩:=hJ.ins 16 4 (Bf a b) (by simp [lI]) (dT 0 (by simp)) hi (λcs h1 h2 h3=>by
    obtain ⟨a',b',h',ha,hb⟩:=h3 (15,22,mD,vV s) (by simp [jr]) (dT 15 (by simp))
    exact .inr (.inl ⟨mD,vV s,a',b',.inr (.inl ⟨rfl,rfl,rfl⟩),Option.some.inj (QR.symm.trans h'),ha,hb⟩))
   exact sX ho Gb rfl QR ⟨w2,hr,by rw [hd];exact vW⟩,
  λL E w' o ho hd ht hi dT hJ=>vK (.inl ho) (hJ.st.get (i:=0) (d:=5) (v:=vN) (by simp [l9]) rfl) (by rw [hd];exact hJ.stat 17 23 (vN) (by simp [l9]) (by simp [l9]) (by simp) (by simp) (by simp) (by simp)),
  λL E w' o ho hd ht hi dT hJ=>zy ho (hJ.st.get (i:=0) (d:=3) (v:=ptr b4) (by simp [l9]) rfl) (hJ.ld (u:=vV s) (b:=b4) (dC (i:=3) rfl) (K:=λv=>FJ w b1 b2 b4 s (jg L 18) (E.put o.dst v) w') (by rw [hd];exact hJ.stat 18 24 ((vV s).v) (by simp [l9]) (by simp [l9]) (by simp) (by simp) (by simp) (by simp))),
  λL E w' o ho hd ht hi dT hJ=>zy ho (hJ.st.get (i:=0) (d:=1) (v:=ptr b1) (by simp [l9]) rfl) (hJ.ld (u:=mD) (b:=b1) (dC (i:=0) rfl) (K:=λv=>FJ w b1 b2 b4 s (jg L 19) (E.put o.dst v) w') (by rw [hd];exact hJ.stat 19 25 ((mD).v) (by simp [l9]) (by simp [l9]) (by simp) (by simp) (by simp) (by simp))),
  λL E w' o ho hd ht hi dT hJ=>by
   refine zx ho (hJ.st.get (i:=18) (d:=23) (v:=vN) (by simp [l9]) (dT 17 (by simp))) (hJ.st.get (i:=19) (d:=24) (v:=(vV s).v) (by simp [l9]) (dT 18 (by simp))) (hJ.st.get (i:=20) (d:=25) (v:=(mD).v) (by simp [l9]) (dT 19 (by simp))) (by kernel_rfl) ((hJ.call 20 26 (vV s) (mD) (by simp [jr])).mono ?_)
   rintro e w2 ⟨v,he,vW⟩
   rw [ht,show zeroOf Tryz.prog bE=.nilFunc from by kernel_rfl]
   exact ⟨v,he,by rw [hd];exact vW⟩,
  λL E w' o ho hd ht hi dT hJ=>by
   obtain ⟨mp,X,cs,H,hc,hm,uD,hj,vY⟩:=hJ.hp
   obtain ⟨a,b,QR,_,_⟩:=hj (20,26,vV s,mD) (by simp [jr]) (dT 20 (by simp))
   obtain ⟨m,Gb,w2,hr,vW⟩:=hJ.ins 21 5 (Bf a b) (by simp [lI]) (dT 0 (by simp)) hi (λcs h1 h2 h3=>by
    obtain ⟨a',b',h',ha,hb⟩:=h3 (20,26,vV s,mD) (by simp [jr]) (dT 20 (by simp))
    exact .inr (.inl ⟨vV s,mD,a',b',.inr (.inr ⟨rfl,rfl,rfl⟩),Option.some.inj (QR.symm.trans h'),ha,hb⟩))
   exact sX ho Gb rfl QR ⟨w2,hr,by rw [hd];exact vW⟩,
  λL E w' o ho hd ht hi dT hJ=>by
   obtain ⟨m,Gb,w2,hr,vW⟩:=hJ.ins 22 6 (.func (.func iR) #[] #[]) (by simp [lI]) (dT 0 (by simp)) hi (λcs h1 h2 h3=>.inr (.inr (.inl ⟨rfl,rfl⟩)))
   exact sX ho Gb rfl rfl ⟨w2,hr,by rw [hd];exact vW⟩,
  λL E w' o ho hd ht hi dT hJ=>Uj ho (hJ.st.get (i:=0) (d:=2) (v:=ptr b2) (by simp [l9]) rfl) (hJ.st.get (i:=0) (d:=3) (v:=ptr b4) (by simp [l9]) rfl) (by rw [hd];exact hJ.stat 23 27 (IJ b2 b4) (by simp [l9]) (by simp [l9]) (by simp) (by simp) (by simp) (by simp)),
  λL E w' o ho hd ht hi dT hJ=>by
   obtain ⟨m,Gb,w2,hr,vW⟩:=hJ.ins 24 7 (IJ b2 b4) (by simp [lI]) (dT 0 (by simp)) hi (λcs h1 h2 h3=>.inr (.inr (.inr ⟨b2,b4,rfl,rfl,h1,h2⟩)))
   exact sX ho Gb rfl (hJ.st.get (i:=24) (d:=27) (v:=IJ b2 b4) (by simp [l9]) (dT 23 (by simp))) ⟨w2,hr,by rw [hd];exact vW⟩,
  λL E w' o ho hd ht hi dT hJ=>by
   obtain ⟨m,h,vW⟩:=hJ.m25 (dT 0 (by simp))
   exact vK (.inl ho) h (by rw [hd];exact vW),
  λL E w' o ho hd ht hi dT hJ=>by
   obtain ⟨m,h,vW⟩:=hJ.m26 (dT 0 (by simp)) (dT 25 (by simp))
   exact vK (.inr ho) h (by rw [hd];exact vW),trivial⟩
theorem LZ {w w1:World} {b1 b2 b4:Nat} {s:Sl} {E:Env} (H:LH F0 w w1 (sD b1 b2 b4 s) []) (h1:E.get? 1=some (ptr b1)) (h2:E.get? 2=some (ptr b2)) (h3:E.get? 3=some (ptr b4)) (h4:E.get? 4=some nQ) (h5:E.get? 5=some vN):FJ w b1 b2 b4 s (λ_=>false) E w1.drew:=by
 refine ⟨λq hq hc=>?_,[],[],[(b2,gI),(b4,vV s)],by simpa using H.drew,?_,by simp,by simp,λq hq hL=>(by cases hL),.inl ⟨rfl,rfl,λ_ _=>rfl,rfl,rfl⟩⟩
 .simp only [l9,cU,qnM,or_false] at hq
  rcases hq with rfl|rfl|rfl|rfl|rfl|rfl|rfl|rfl|rfl|rfl|rfl|rfl|rfl|rfl|rfl|rfl|rfl|rfl<;>first |exact h1|exact h2|exact h3|exact h4|exact h5|cases hc
 .intro p hp
  simp only [cU,qnM,or_false] at hp
  rcases hp with rfl|rfl<;>simp
theorem Tj {w w1:World} {b1 b2 b4:Nat} {s:Sl} {L:Nat->Bool} {E:Env} (hL:∀i,i<HM.length->L i=true) (hJ:FJ w b1 b2 b4 s L E w1):∃F:Fm,E.get? 0=some (.map (some F.m))/\F.Ok/\(En.fm F).P w1/\(∀b∈(En.fm F).fp,w.heap.size<=b)/\bF w w1:=by
 have hlen:HM.length=27:=rfl
 obtain ⟨mp,X,cs,H,hc,hm,uD,hj,vY⟩:=hJ.hp
 rcases vY with ⟨wz,_⟩|⟨_,m,es,clock,ms,rfl,h2,h3,h4,h5,h6,h7⟩
 .rw [hL 0 (by omega)] at wz;cases wz
 have mem:∀p∈cs,rT p.1 p.2∈[En.ob m (.map es clock)]++(sD b1 b2 b4 s++X):=λp hp=>qmR _ (hc p hp)
 have jK:aO w1 aB 4 s mD.c:=H.get (e:=.row aB 4 s mD.c) 3 rfl
 refine ⟨⟨m,es,clock,ms,cs,s⟩,h7 (hL 26 (by omega)),⟨h3,λk h0 h8=>?_⟩,λe he=>?_,λb hb=>?_,H.fr⟩
 .have vj:∃i,(i,k)∈lI/\i<27:=by
   have:k=0\/k=1\/k=2\/k=3\/k=4\/k=5\/k=6\/k=7:=by omega
   rcases this with rfl|rfl|rfl|rfl|rfl|rfl|rfl|rfl
   .exact ⟨2,by simp [lI],by omega⟩
   .exact ⟨4,by simp [lI],by omega⟩
   .exact ⟨6,by simp [lI],by omega⟩
   .exact ⟨11,by simp [lI],by omega⟩
   .exact ⟨16,by simp [lI],by omega⟩
   .exact ⟨21,by simp [lI],by omega⟩
   .exact ⟨22,by simp [lI],by omega⟩
   .exact ⟨24,by simp [lI],by omega⟩
  obtain ⟨i,hi,lC⟩:=vj
  have Rl:=h5 _ hi
  rw [hL i (by omega)] at Rl
  obtain ⟨v,hv⟩:=Option.isSome_iff_exists.1 Rl
  exact ⟨v,hv,h4 k v hv⟩
 .rcases cU.1 he with rfl|he
  .exact H.own _ (by simp)
  rcases cU.1 he with rfl|he
  .show Rt.P w1 (vV s)
   unfold Rt.P Rt.Ps Rt.Ps
   exact ⟨jK.iQ,vu w1,trivial⟩
  .obtain ⟨p,hp,rfl⟩:=o8.1 he
   exact H.own _ (mem p hp)
 .obtain ⟨e,he,rh⟩:=mV.1 (aI.1 hb)
  rcases cU.1 he with rfl|he
  .exact (H.new _ (dC (i:=0) rfl) b rh).resolve_right id
  rcases cU.1 he with rfl|he
  .have eC:b∈(vV s).fp:=aI.1 rh
   unfold Rt.fp at eC
   rcases fW.1 eC with eC|eC
   .exact (H.new _ (dC (i:=3) rfl) b (fQ eC)).resolve_right id
   .obtain ⟨t,ht,yV⟩:=Rt.bC.1 eC
    simp at ht
    subst ht
    exact (nD yV).elim
  .obtain ⟨p,hp,rfl⟩:=o8.1 he
   exact (H.new _ (mem p hp) b rh).resolve_right id
theorem Om (w:World):Calls Tryz.prog qx #[] w λr w'=>(∃F:Fm,r=.returned (.map (some F.m))/\F.Ok/\(En.fm F).P w'/\∀b∈(En.fm F).fp,w.heap.size<=b)/\bF w w':=by
 refine regex_forms.ok w _ ((mf [] (by simp)).nw λw1 _ H1=>H1.nw λw2 _ H2=>H2.CC 0 rfl λw6 H6=>H6.CC 1 rfl λpT mg=>⟨0,0,0,⟨none,0,0⟩,mg.ld 0 0,mg.ld 0 1,mg.ld 0 2,mg.ld 0 3,mg.gZ (n:=1) (sz:=4) (cs:=mD.c) rfl (by decide) λrQ qn=>qn.nw λqW _ pV=>pV.CC 3 rfl λKl yl=>?_⟩)
 have HB:LH F0 w Kl (sD w.heap.size w1.heap.size rQ.heap.size ⟨some (bD pT.heap.size),1,1⟩) []:=yl
 refine Mo HM (by kernel_rfl) (FJ w w.heap.size w1.heap.size rQ.heap.size ⟨some (bD pT.heap.size),1,1⟩) (LZ HB rfl rfl rfl rfl rfl) (OD _ _ _ _ _) λL E w2 hL hJ=>?_
 obtain ⟨F,h0,h1,h2,h3,h4⟩:=Tj hL hJ
 exact J1 (by kernel_rfl) h0 ⟨⟨F,rfl,h1,h2,h3⟩,h4⟩
section
variable {M:Nat->Prop} {w0 w:World} {L D:List En}
theorem _root_.Go.W.LH.Yp (H:LH M w0 w L D) (i:Nat) {P:Program} {t ty e:TypeId} {z:Value} {sz bytes:Nat} (el:iK P t e z sz bytes) {T:TypeId} {s:Sl} {xs:List Value} {news:Array Value} {A:World->Prop} {K:Sl->World->Prop}
  (hi:L[i]? =some (.row e sz s xs)) (hA:∀w',LH M w0 w' L D->A w') (hK:∀s' w',LH M w0 w' (L.set i (.row e sz s' (xs++news.toList))) D->K s' w') (hb:(s.n+1) *bytes<=140737488355328) (hl:news.size=sz:=by rfl) (h1:∀u∈news.toList,u.oneCell'=true:=by simp [Value.oneCell']):
  eV w (.cells news T) λw1=>A w1/\∃s' w',(Builtin.append_ #[t,t] ty #[s.v,.slice (some (Addr.mk w.heap.size 0 none)) 1 1]).run P w1=.ok s'.v w'/\K s' w':=
 ⟨hA _ (H.ot (Fr.alloc _ _ _)),H.Xn i el hi (λs' w' h _ _=>hK s' w' h) hb hl h1⟩
end
mutual
def gl:Rx->Rx|.mk k lo hi l=>mS (.mk k lo hi (fV l))
def fV:List Rx->List Rx
 |[]=>[]
 |a::l=>gl a::fV l
end
def VE (N:Nat):Rx->Bool|.mk k _ _ l=>decide (k=4\/k=5->UU k l<=N)
def ui (N:Nat) (y:Rx):Bool:=ni y&&decide (y.sz<=1000000)&&VE N y
mutual
def DE (N:Nat):Rx->Bool|.mk k lo hi l=>yR N l&&ui N (.mk k lo hi (fV l))
def yR (N:Nat):List Rx->Bool
 |[]=>true
 |a::l=>DE N a&&yR N l
end
theorem AZ {N:Nat}:∀{l:List Rx} {a:Rx},yR N l=true->a∈l->DE N a=true
 |b::l,a,h,ha=>by
  unfold yR at h
  rw [Bool.and_eq_true] at h
  rcases cU.1 ha with rfl|ha
  .exact h.1
  .exact AZ h.2 ha
theorem mM:∀l:List Rx,fV l=l.map gl
 |[]=>rfl
 |a::l=>by unfold fV;rw [mM l];rfl
theorem Em {M:Nat->Prop} {w0 w:World} {L D:List En} (H:LH M w0 w L D):LH M w0 w L (D++[.trees []]):=
 H.oe (.trees []) (Fr.refl _ _) (by show Rt.Ps w [];unfold Rt.Ps;trivial) (λb hb=>by
  have:=aI.1 hb
  unfold Rt.gN at this
  cases this)
theorem qK {acc:List Rt} {t:Rt} {Q:Nat->Prop} (h:∀b∈Rt.gN acc,Q b) (ht:∀b∈t.fp,Q b):∀b∈Rt.gN (acc++[t]),Q b:=by
 intro b hb
 obtain ⟨u,hu,eC⟩:=Rt.bC.1 hb
 rcases fW.1 hu with hu|hu
 .exact h b (Rt.bC.2 ⟨u,hu,eC⟩)
 .simp at hu
  rw [hu] at eC
  exact ht b eC
abbrev Yc (N:Nat) (F:Fm) (n:Nat):Prop:=∀(x:Rt) (w:World),x.sz<=n->DE N x.rx=true->(En.fm F).P w->x.P w->Calls Tryz.prog ln #[.map (some F.m),x.v] w λr w'=>oT (x.fp++(En.fm F).fp) w (gl x.rx) r w'/\bF w w'
theorem AP {N:Nat} (hS:vZ N) (hN:N+1<=1000000) {F:Fm} (hF:F.Ok):∀n:Nat,n<=1000000->Yc N F n
 |0,_=>λx w h _ _ _=>absurd h (by have:=Rt.oQ x;omega)
 |n+1,hn=>λx w h ri pF px=>by
  have ih:=AP hS hN hF n (by omega)
  have hs:=Rt.gm x
  have hl:=Rt.eZ x.l
  have nr:=Rt.cB px.parts.1
  have Mi:yR N (Rt.bU x.l)=true/\ui N (.mk x.k x.lo x.hi (fV (Rt.bU x.l)))=true:=by
   rw [Rt.c9] at ri
   unfold DE at ri
   rwa [Bool.and_eq_true] at ri
  have VZ:0<=x.k/\x.k<8:=by
   have:=Mi.2
   unfold ui ni at this
   simp only [Bool.and_eq_true,decide_eq_true_eq] at this
   exact this.1.1.1
  have loop:∀(d i:Nat) (acc:List Rt) (sl:Sl) (br bt bn:Nat) (w1:World),i+d=x.l.length->Rt.bU acc=fV (Rt.bU (x.l.take i))->(∀b∈Rt.gN acc,w.heap.size<=b\/b∈x.fp++(En.fm F).fp)->
    LH F0 w w1 [.c br x.c aB,.c bt [.int .i64 0,.int .u8 0,.int .u8 0,.slice none 0 0] aB,.c bn [.int .i64 x.k,.int .u8 (x.lo.toNat:Int),.int .u8 (x.hi.toNat:Int),sl.v] aB,.row aB 4 sl (acc.flatMap Rt.c)] [.tree x,.fm F,.trees acc]->
    regex_normal.L0 (some F.m) (bD br) (bD bt) (bD bn) x.s ((x.s.n:Nat):Int) (i:Int) w1 λr w'=>oT (x.fp++(En.fm F).fp) w (gl x.rx) r w'/\bF w w':=by
   intro d
   induction d with
   |zero=>
    intro i acc sl br bt bn w1 hi he hf H
    rw [qtOL (by omega)] at he
    obtain ⟨f,f1,f2,f3⟩:=Ol hS (by omega) hF (H.getD 1) x.k VZ.1 VZ.2
    have rW:∀b∈(Rt.row sl acc).fp,w.heap.size<=b:=λb hb=>(H.new _ (dC (i:=3) rfl) b (fQ hb)).resolve_right id
    have H':LH F0 w w1 [.c br x.c aB,.c bt [.int .i64 0,.int .u8 0,.int .u8 0,.slice none 0 0] aB,.c bn [.int .i64 x.k,.int .u8 (x.lo.toNat:Int),.int .u8 (x.hi.toNat:Int),sl.v] aB] [.tree x,.fm F,.trees acc,Rt.row sl acc,.tree (.mk x.k x.lo x.hi sl acc)]:=H.GO 3 2 x.k x.lo x.hi
    have px':(Rt.mk x.k x.lo x.hi sl acc).P w1:=H'.getD 4
    have UI:(Rt.mk x.k x.lo x.hi sl acc).rx=.mk x.k x.lo x.hi (fV (Rt.bU x.l)):=by
     unfold Rt.rx
     rw [he]
    have dP:=Mi.2
    unfold ui at dP
    simp only [Bool.and_eq_true,decide_eq_true_eq] at dP
    have me:(Rt.mk x.k x.lo x.hi sl acc).sz<=1000000:=by
     have h1:=Rt.hM (Rt.mk x.k x.lo x.hi sl acc)
     rw [UI] at h1
     rw [<-h1];exact dP.1.2
    have Mh:x.k=4\/x.k=5->UU x.k (Rt.bU acc)<=N:=λhk=>by rw [he];exact of_decide_eq_true dP.2 hk
    have YN:gl x.rx=mS (Rt.mk x.k x.lo x.hi sl acc).rx:=by
     rw [UI,Rt.c9]
     unfold gl
     rfl
    refine regex_normal.cO _ _ _ _ _ _ _ _ _ (aM (decide_eq_false (by omega)) ⟨x.k,H.ld 0 0,f,f1,_,_,_,sl,H.ld 2 0,H.ld 2 1,H.ld 2 2,H.ld 2 3,?_⟩)
    rw [f2]
    refine (show hO true _ from ?_)
    refine (f3 (.mk x.k x.lo x.hi sl acc) w1 (H.getD 1) px' rfl Mh me (by rw [UI];exact dP.1.1)).mono ?_
    rintro _ w2 ⟨⟨t,rfl,ht,pt,ft⟩,f4⟩
    have H3:=H'.oe (.tree t) f4 pt (λb hb=>by
     rcases ft b (aI.1 hb) with hb|hb
     .exact .inl hb
     .rcases fW.1 hb with hb|hb
      .exact .inr (.inr ⟨_,dC (i:=4) rfl,aI.2 hb⟩)
      .exact .inr (.inr ⟨_,dC (i:=1) rfl,hb⟩))
    refine ⟨_,_,_,t.s,rfl,H3.CC 1 rfl λw3 H4=>⟨_,_,_,t.s,H4.ld 1 0,H4.ld 1 1,H4.ld 1 2,H4.ld 1 3,⟨t,rfl,by rw [YN];exact ht,H4.getD 5,λb hb=>?_⟩,H4.fr⟩⟩
    rcases ft b hb with hb|hb
    .exact .inl (Nat.le_trans H.fr.size hb)
    .rcases fW.1 hb with hb|hb
     .unfold Rt.fp at hb
      rcases fW.1 hb with hb|hb
      .exact .inl (rW b hb)
      .exact hf b hb
     .exact .inr (qmR _ hb)
   |succ d pW=>
    intro i acc sl br bt bn w1 hi he hf H
    have hg:x.l[i]? =some (x.l[i]'(by omega)):=g7 (by omega)
    generalize x.l[i]'(by omega)=a at hg
    have ma:=dC hg
    have CE:=Rt.dK ma
    have fa:DE N a.rx=true:=AZ Mi.1 (by rw [Rt.eW];exact o8.2 ⟨a,ma,rfl⟩)
    have VG:∀b∈a.fp,b∈x.fp:=λb hb=>Rt.eG.2 (.inr (Rt.bC.2 ⟨a,ma,hb⟩))
    refine regex_normal.cO _ _ _ _ _ _ _ _ _ (aS (decide_eq_true (by omega)) (jo (show x.P w1 from H.getD 0) rfl hg (H.nw λw8 _ H8=>H8.CC 4 rfl λqW pV=>pV.dr λuF rG=>⟨sl,rG.ld 2 3,a.k,a.lo.toNat,a.hi.toNat,a.s,rG.ld 4 0,rG.ld 4 1,rG.ld 4 2,rG.ld 4 3,?_⟩)))
    refine (ih a uF (by omega) fa (rG.getD 1) ((show x.P uF from rG.getD 0).parts.2.mem ma)).mono ?_
    rintro _ CV ⟨⟨t,rfl,ht,pt,ft⟩,f4⟩
    have qD:=rG.oe (.tree t) f4 pt (λb hb=>by
     rcases ft b (aI.1 hb) with hb|hb
     .exact .inl hb
     .rcases fW.1 hb with hb|hb
      .exact .inr (.inr ⟨_,dC (i:=0) rfl,aI.2 (VG b hb)⟩)
      .exact .inr (.inr ⟨_,dC (i:=1) rfl,hb⟩))
    have ZX:acc.length=i:=by
     have h1:=congrArg List.length he
     rw [Rt.eW,mM,Rt.eW] at h1
     simp only [List.length_map,qlT] at h1
     omega
    have ug:=Rt.cB (qD.get 3:aO _ _ _ _ _).iQ
    refine ⟨_,_,_,t.s,rfl,qD.ld 2 3,qD.Yp 3 yL (xs:=acc.flatMap Rt.c) rfl (λw' H'=>H'.ld 2 3) (λs' Kl yl=>yl.st 2 3 rfl λKm xi=>?_) (by omega)⟩
    rw [aZ _ (by omega)]
    have Fa:=(xi.zu 2 3).take 4
    refine pW (i+1) (acc++[t]) s' br bt bn Km (by omega) ?_ (qK hf λb hb=>?_) ?_
    .rw [kg,he,qtO,hg,Option.toList_some,kg,mM,mM,List.map_append]
     show _++[t.rx]=_
     rw [ht];rfl
    .rcases ft b hb with hb|hb
     .exact .inl (Nat.le_trans rG.fr.size hb)
     .rcases fW.1 hb with hb|hb
      .exact .inr (qmL _ (VG b hb))
      .exact .inr (qmR _ hb)
    .rw [mw]
     exact Fa.forget _ (by simp)
  refine regex_normal.ok _ _ _ _ _ w _ ((mf [.tree x,.fm F] (by
   intro e he
   simp only [cU,qnM,or_false] at he
   rcases he with rfl|rfl
   .exact px
   .exact pF)).nw λw1 _ H1=>H1.nw λw2 _ H2=>⟨x.k,H2.ld 0 0,x.lo.toNat,H2.ld 0 1,x.hi.toNat,H2.ld 0 2,H2.nw λw3 _ H3=>H3.CC 2 rfl λw7 H7=>⟨x.s,H7.ld 0 3,?_⟩⟩)
  exact loop x.l.length 0 [] ⟨none,0,0⟩ _ _ _ w7 (by omega) rfl (λb hb=>by unfold Rt.gN at hb;cases hb) (Em (H7.oL aB 4))
theorem Le {N:Nat} (hS:vZ N) (hN:N+1<=1000000) {F:Fm} (hF:F.Ok) (x:Rt) (w:World) (h:x.sz<=1000000) (ri:DE N x.rx=true) (pF:(En.fm F).P w) (px:x.P w):Calls Tryz.prog ln #[.map (some F.m),x.v] w λr w'=>oT (x.fp++(En.fm F).fp) w (gl x.rx) r w'/\bF w w':=
 AP hS hN hF 1000000 (Nat.le_refl _) x w h ri pF px
section
variable {M:Nat->Prop} {w0 w:World} {L D:List En} {bs:List Nat}
theorem _root_.Go.W.LH.yG (H:LH M w0 w L D) {P:Program} {g:FuncId} {args:Array Value} {K:aD} {Ac:List Nat} {x:Rx} (hc:Calls P g args w λr w'=>oT Ac w x r w'/\bF w w') (hold:∀b∈Ac,∃g∈D,b∈g.fp)
  (hk:∀(t:Rt) (w':World),t.rx=x->LH M w0 w' L (D++[.tree t])->(∀b∈t.fp,w.heap.size<=b\/b∈Ac)->K (.returned t.v) w'):fC bs P g args w K:=
 nS (hc.mono λr w' ⟨⟨t,h1,h2,h3,h4⟩,f⟩=>⟨f,by
  subst h1
  exact hk t w' h2 (H.oe (.tree t) f h3 λb hb=>(h4 b (aI.1 hb)).imp id λh=>.inr (hold b h)) h4⟩)
end
end Go.Proofs.YtcifihepfadgfaaGreatDoor
