import Derived.Test.YtcifihepfadgfaaGreatDoorB
import Derived.Test.YtcifihepfadgfaaGreatDoorV
set_option linter.unusedVariables false
namespace Go.Proofs.YtcifihepfadgfaaGreatDoor
open List renaming mem_append->fS,mem_cons->cS,not_mem_nil->fF,mem_of_getElem?->cR,getElem?_eq_getElem->g8,getElem?_eq_some_iff->ov,mem_append_left->qf,mem_append_right->uD,mem_flatMap->mI,mem_map->pX,length_append->qq,append_assoc->AU,length_take->Cg,flatMap_append->r8,flatMap_cons->vw,mem_cons_of_mem->lr,mem_cons_self->Bi,length_set->Th,take_append_drop->Lb,drop_eq_getElem_cons->sC,append_nil->Cf,take_add_one->GN,map_cons->Ig,drop_drop->Te,getElem?_drop->Tf,getElem?_set_self->tD,drop_of_length_le->sP,take_of_length_le->rA,length_reverse->N9
open Go Go.W
def gM (a b:Int):Int:=if a<b then -1 else if b<a then 1 else 0
def tC:List Int->Int
 |[]=>0
 |c::l=>if c≠0 then c else tC l
theorem WQ (a b:Int) (w:World):Calls Tryz.prog nU #[.int .i64 a,.int .i64 b] w λr w'=>r=.returned (.int .i64 (gM a b))/\bG w w':=by
 refine cmp_Compare_int.ok _ _ w _ (cmp_isNaN_int.ok _ _ _ ⟨_,rfl,cmp_isNaN_int.ok _ _ _ ⟨_,rfl,?_⟩⟩)
 have e1:(a !=a)=false:=by simp
 have e2:(b !=b)=false:=by simp
 rw [e1,e2]
 refine aI rfl (aI rfl (aN (λh=>⟨?_,Fr.refl _ _⟩) (λh=>aN (λh2=>⟨?_,Fr.refl _ _⟩) (λh2=>⟨?_,Fr.refl _ _⟩))))
 .unfold gM;rw [if_pos h]
 .unfold gM;rw [if_neg h,if_pos h2]
 .unfold gM;rw [if_neg h,if_neg h2]
theorem WT (a b:Int) (w:World):Calls Tryz.prog kf #[.int .u8 a,.int .u8 b] w λr w'=>r=.returned (.int .i64 (gM a b))/\bG w w':=by
 refine cmp_Compare_byte.ok _ _ w _ (cmp_isNaN_byte.ok _ _ _ ⟨_,rfl,cmp_isNaN_byte.ok _ _ _ ⟨_,rfl,?_⟩⟩)
 have e1:(a !=a)=false:=by simp
 have e2:(b !=b)=false:=by simp
 rw [e1,e2]
 refine aI rfl (aI rfl (aN (λh=>⟨?_,Fr.refl _ _⟩) (λh=>aN (λh2=>⟨?_,Fr.refl _ _⟩) (λh2=>⟨?_,Fr.refl _ _⟩))))
 .unfold gM;rw [if_pos h]
 .unfold gM;rw [if_neg h,if_pos h2]
 .unfold gM;rw [if_neg h,if_neg h2]
theorem Vn {w:World} {s:Sl} {l:List Int} (h:cX w s l) (hl:l.length<=1000000):Calls Tryz.prog pT #[s.v] w λr w'=>r=.returned (.int .i64 (tC l))/\bG w w':=by
 refine cmp_Or_int.ok _ w _ ?_
 have hn:=cX.len h
 have loop:∀(d i:Nat),i+d=l.length->tC (l.drop i)=tC l->cmp_Or_int.L0 0 s ((s.n:Nat):Int) (i:Int) w λr w'=>r=.returned (.int .i64 (tC l))/\bG w w':=by
  intro d
  induction d with
  |zero=>
   intro i hi he
   rw [sP (by omega)] at he
   exact cmp_Or_int.cC _ _ _ _ _ _ (aI (decide_eq_false (by omega)) ⟨by rw [<-he];rfl,Fr.refl _ _⟩)
  |succ d ih=>
   intro i hi he
   have hg:l[i]? =some (l[i]'(by omega)):=g8 (by omega)
   rw [sC (by omega)] at he
   generalize l[i]'(by omega)=c at hg he
   refine cmp_Or_int.cC _ _ _ _ _ _ (aQ (decide_eq_true (by omega)) ⟨by omega,by omega,cX.cell h hg (by simp) λp _ hp=>⟨c,hp,dX (λhc=>?_) (λhc=>?_)⟩⟩)
   .refine ⟨?_,Fr.refl _ _⟩
    rw [<-he];unfold tC;rw [if_pos hc]
   .rw [aX _ (by omega)]
    refine ih (i+1) (by omega) ?_
    rw [<-he]
    conv=>rhs;unfold tC
    rw [if_neg (by simpa using hc)]
 exact loop l.length 0 (by omega) (by simp)
theorem NV (w:World) (l:List Int) (n:Nat) (hn:n=l.length):cX (w.alloc (.cells (l.map eI).toArray bP)) ⟨some (bD w.heap.size),n,n⟩ l:=
 ⟨by simp [hn],Nat.le_refl _,(Row.made w bP n n (l.map eI)).MT⟩
section
variable {M:Nat->Prop} {w0 w:World} {L D:List En} {bs:List Nat}
theorem _root_.Go.W.LH.or (H:LH M w0 w L D) {l:List Int} {n:Nat} {K:aD} (hn:n=l.length) (hl:l.length<=1000000) (hk:∀w',LH M w0 w' L D->K (.returned (.int .i64 (tC l))) w'):
  fH w (.cells (l.map eI).toArray bP) λw1=>fE bs Tryz.prog pT #[.slice (some (Addr.mk w.heap.size 0 none)) n n] w1 K:=
 (H.pI (Fr.alloc _ _ _)).aK (Vn (s:=⟨some (bD w.heap.size),n,n⟩) (NV w l n hn) hl) λ_ w' hr H'=>hr▸hk w' H'
end
mutual
def cQ:Rx->Rx->Int
 |.mk k lo hi l,b=>if tC [gM k b.k,gM lo.toNat b.lo.toNat,gM hi.toNat b.hi.toNat]≠0 then tC [gM k b.k,gM lo.toNat b.lo.toNat,gM hi.toNat b.hi.toNat] else cmpL l b.l
def cmpL:List Rx->List Rx->Int
 |[],[]=>0
 |[],_::_=>-1
 |_::_,[]=>1
 |a::l,b::m=>if cQ a b≠0 then cQ a b else cmpL l m
end
abbrev RU (n:Nat):Prop:=∀(a b:Rt) (w:World),a.sz<=n->a.P w->b.P w->Calls Tryz.prog aU #[a.v,b.v] w λr w'=>r=.returned (.int .i64 (cQ a.rx b.rx))/\bG w w'
theorem AZ (n:Nat) (hn:n<=1000000) (ih:RU n) (la lb:List Rt) (sa sb:Sl) (w:World) (ha:jU 4 w sa (la.flatMap Rt.c)) (hb:jU 4 w sb (lb.flatMap Rt.c)) (pa:Rt.Ps w la) (pb:Rt.Ps w lb) (hs:Rt.fQ la<=n):
  Calls Tryz.prog bO #[sa.v,sb.v,.func (.func aU) #[] #[]] w λr w'=>r=.returned (.int .i64 (cmpL (Rt.bV la) (Rt.bV lb)))/\bG w w':=by
 have na:=Rt.b0 ha
 have nb:=Rt.b0 hb
 have hl:=Rt.fG la
 have loop:∀(d i:Nat) (w1:World),i+d=la.length->i<=lb.length->cmpL (Rt.bV (la.drop i)) (Rt.bV (lb.drop i))=cmpL (Rt.bV la) (Rt.bV lb)->LH F0 w w1 [] [Rt.row sa la,Rt.row sb lb,.trees la,.trees lb]->
   slices_CompareFunc_sl_regex_Regex_sl_regex_Regex_regex_Regex_regex_Regex.eE sa sb sa ((sa.n:Nat):Int) (i:Int) w1 λr w'=>r=.returned (.int .i64 (cmpL (Rt.bV la) (Rt.bV lb)))/\bG w w':=by
  intro d
  induction d with
  |zero=>
   intro i w1 hi Wj he H
   rw [sP (by omega)] at he
   refine slices_CompareFunc_sl_regex_Regex_sl_regex_Regex_regex_Regex_regex_Regex.aY _ _ _ _ _ _ _ (aI (decide_eq_false (by omega)) (aN (λh=>⟨?_,H.fr⟩) (λh=>⟨?_,H.fr⟩)))
   .rw [sC (by omega)] at he
    rw [<-he];rfl
   .rw [sP (by omega)] at he
    rw [<-he];rfl
  |succ d qz=>
   intro i w1 hi Wj he H
   have hg:la[i]? =some (la[i]'(by omega)):=g8 (by omega)
   rw [sC (by omega)] at he
   generalize la[i]'(by omega)=a at hg he
   refine slices_CompareFunc_sl_regex_Regex_sl_regex_Regex_regex_Regex_regex_Regex.aY _ _ _ _ _ _ _ (aQ (decide_eq_true (by omega)) ⟨by omega,by omega,?_⟩)
   refine Rt.at' (H.getD 0) hg λp hp c=>⟨_,_,_,_,c.c0,c.c1,c.c2,c.c3,H.bF λb8 w2 H2=>aN (λA7=>H2.aL λw3 H3=>⟨?_,H3.fr⟩) (λlV=>⟨by omega,by omega,?_⟩)⟩
   .have aa5:((sb.n:Nat):Int)<=(i:Int):=A7
    rw [sP (by omega:lb.length<=i)] at he
    rw [<-he];rfl
   .have aa6:¬((sb.n:Nat):Int)<=(i:Int):=lV
    have Su:lb[i]? =some (lb[i]'(by omega)):=g8 (by omega)
    rw [sC (by omega:i<lb.length)] at he
    generalize lb[i]'(by omega)=b at Su he
    refine Rt.at' (H2.getD 1) Su λq hq _=>H2.aL λw3 H3=>?_
    have c:=Rt.again (H3.getD 1) Su hq
    refine ⟨_,_,_,_,c.c0,c.c1,c.c2,c.c3,H3.bF λb9 w4 H4=>H4.aL λw5 H5=>?_⟩
    have DN:=Rt.dQ (cR hg)
    refine H5.aK (ih a b w5 (by omega) (Rt.Ps.get (H5.getD 2) hg) (Rt.Ps.get (H5.getD 3) Su)) ?_
    rintro _ w6 rfl H6
    have e2:cmpL (Rt.bV (a::la.drop (i+1))) (Rt.bV (b::lb.drop (i+1)))=if cQ a.rx b.rx≠0 then cQ a.rx b.rx else cmpL (Rt.bV (la.drop (i+1))) (Rt.bV (lb.drop (i+1))):=rfl
    rw [e2] at he
    refine ⟨_,rfl,dX (λhc=>⟨?_,H6.fr⟩) (λhc=>?_)⟩
    .rw [if_pos hc] at he
     rw [he]
    .rw [if_neg (by simpa using hc)] at he
     rw [aX _ (by omega)]
     exact qz (i+1) w6 (by omega) (by omega) he (H6.take 0)
 exact slices_CompareFunc_sl_regex_Regex_sl_regex_Regex_regex_Regex_regex_Regex.cU _ _ w _ (loop la.length 0 w (by omega) (by omega) (by simp) (mu _ (by
  intro e he
  simp only [cS,fF,or_false] at he
  rcases he with rfl|rfl|rfl|rfl
  .exact ha
  .exact hb
  .exact pa
  .exact pb)))
theorem zf:∀n:Nat,n<=1000000->RU n
 |0,_=>λa b w h _ _=>absurd h (by have:=Rt.pD a;omega)
 |n+1,hn=>λa b w h pa pb=>by
  have ih:=zf n (by omega)
  have hs:=Rt.gE a
  have ha:=pa.parts
  have hb:=pb.parts
  refine regex_Compare.cU _ _ _ _ _ _ _ _ w _ ((mu [.tree a,.tree b] (by
   intro e he
   simp only [cS,fF,or_false] at he
   rcases he with rfl|rfl
   .exact pa
   .exact pb)).bF λb2 w1 H1=>H1.bF λb3 w2 H2=>H2.aL λw3 H3=>H3.aK (WQ _ _ w3) ?_)
  rintro _ w4 rfl H4
  refine ⟨_,rfl,H4.aK (WT _ _ w4) ?_⟩
  rintro _ w5 rfl H5
  refine ⟨_,rfl,H5.aK (WT _ _ w5) ?_⟩
  rintro _ w6 rfl H6
  refine ⟨_,rfl,H6.or (l:=[gM a.k b.k,gM a.lo.toNat b.lo.toNat,gM a.hi.toNat b.hi.toNat]) rfl (by simp) λw7 H7=>?_⟩
  have e:cQ a.rx b.rx=if tC [gM a.k b.k,gM a.lo.toNat b.lo.toNat,gM a.hi.toNat b.hi.toNat]≠0 then tC [gM a.k b.k,gM a.lo.toNat b.lo.toNat,gM a.hi.toNat b.hi.toNat] else cmpL (Rt.bV a.l) (Rt.bV b.l):=by
   rw [Rt.dE a,Rt.dE b];unfold cQ;rfl
  refine ⟨_,rfl,dX (λhc=>⟨?_,H7.fr⟩) (λhc=>?_)⟩
  .rw [e,if_pos hc]
  .have pa7:a.P w7:=H7.getD 0
   have pb7:b.P w7:=H7.getD 1
   refine H7.aK (AZ n (by omega) ih a.l b.l a.s b.s w7 pa7.parts.1 pb7.parts.1 pa7.parts.2 pb7.parts.2 (by omega)) ?_
   rintro _ w8 rfl H8
   refine ⟨_,rfl,?_,H8.fr⟩
   rw [e,if_neg (by simpa using hc)]
theorem By (a b:Rt) (w:World) (h:a.sz<=1000000) (pa:a.P w) (pb:b.P w):Calls Tryz.prog aU #[a.v,b.v] w λr w'=>r=.returned (.int .i64 (cQ a.rx b.rx))/\bG w w':=zf 1000000 (Nat.le_refl _) a b w h pa pb
theorem vJ (a b:Rt) (w:World) (h:a.sz<=1000000) (pa:a.P w) (pb:b.P w):Calls Tryz.prog eK #[a.v,b.v] w λr w'=>r=.returned (.bool (cQ a.rx b.rx==0))/\bG w w':=by
 refine regex_equal.cU _ _ _ _ _ _ _ _ w _ ((mu [.tree a,.tree b] (by
  intro e he
  simp only [cS,fF,or_false] at he
  rcases he with rfl|rfl
  .exact pa
  .exact pb)).bF λb2 w1 H1=>H1.bF λb3 w2 H2=>H2.aK (By a b w2 h (H2.getD 0) (H2.getD 1)) ?_)
 rintro _ w3 rfl H3
 exact ⟨_,rfl,rfl,H3.fr⟩
theorem zV {w:World} {t:Rt} (h:t.P w):LH F0 w w [] [.tree t]:=mu _ (by
 intro e he
 simp only [cS,fF,or_false] at he
 subst he
 exact h)
def o8 (w:World) (x:Rx) (r:Ending) (w':World):Prop:=∃t:Rt,r=.returned t.v/\t.rx=x/\t.P w'/\∀b∈t.fp,w.heap.size<=b
section
variable {M:Nat->Prop} {w0 w:World} {L D:List En} {bs:List Nat}
theorem _root_.Go.W.LH.Ar (H:LH M w0 w L D) (i j:Nat) {ts:List Rt} {t:Rt} (hi:D[i]? =some (.trees ts):=by rfl) (hj:D[j]? =some (.tree t):=by rfl):LH M w0 w L (D++[.trees (ts++[t])]):=by
 refine H.nf _ (Fr.refl _ _) (Rt.oX λt' ht=>?_) λb hb=>.inr (.inr ?_)
 .rcases fS.1 ht with ht|ht
  .exact Rt.Ps.mem (H.getD i hi) ht
  .simp at ht;subst ht;exact H.getD j hj
 .obtain ⟨t',ht,eG⟩:=Rt.bC.1 (aH.1 hb)
  rcases fS.1 ht with ht|ht
  .exact ⟨_,cR hi,aH.2 (Rt.bC.2 ⟨t',ht,eG⟩)⟩
  .simp at ht
   rw [ht] at eG
   exact ⟨_,cR hj,aH.2 eG⟩
theorem fY {e:TypeId} {s:Sl} {vs:List Value} {b:Nat} (h:b∈(En.iD 4 s vs).fp):b∈(En.row e 4 s vs).fp:=by
 have:b∈(if vs=[] then [] else aZ s):=h
 split at this
 .cases this
 .exact this
theorem _root_.Go.W.LH.Iq (H:LH M w0 w L D) (i j:Nat) {e:TypeId} {s:Sl} {ts:List Rt} (k:Int) (lo hi:UInt8) (wV:L[i]? =some (.row e 4 s (ts.flatMap Rt.c)):=by rfl) (hj:D[j]? =some (.trees ts):=by rfl):LH M w0 w (L.eraseIdx i) (D++[Rt.row s ts]++[.tree (.mk k lo hi s ts)]):=by
 have H1:=H.freeze i (Rt.row s ts) wV (aO.iD (H.get i wV)) λb hb=>fY hb
 refine H1.nf _ (Fr.refl _ _) ?_ λb hb=>.inr (.inr ?_)
 .show Rt.P w _
  unfold Rt.P
  exact ⟨aO.iD (H.get i wV),H.getD j hj⟩
 .have eG:=aH.1 hb
  unfold Rt.fp at eG
  rcases fS.1 eG with eG|eG
  .exact ⟨_,uD _ (by simp),eG⟩
  .exact ⟨_,qf _ (cR hj),aH.2 eG⟩
end
theorem BC (l:List Rt):∀u∈l.flatMap Rt.c,u.oneCell'=true:=λu hu=>by
 obtain ⟨e,_,h⟩:=mI.1 hu
 simp only [Rt.c,cS,fF,or_false] at h
 rcases h with rfl|rfl|rfl|rfl<;>rfl
theorem zv:iy Tryz.prog aF aB (.agg #[.int .i64 0,.int .u8 0,.int .u8 0,.slice none 0 0]) 4 40:=⟨by kernel_rfl,by kernel_rfl,rfl,by decide,by decide⟩
theorem mV (l:List Rt) (t:Rt):(l++[t]).flatMap Rt.c=l.flatMap Rt.c++t.c:=by simp
theorem kz (l m:List Rt):Rt.bV (l++m)=Rt.bV l++Rt.bV m:=by simp [Rt.fC]
theorem uf:∀(l m:List Rt),Rt.fQ (l++m)=Rt.fQ l+Rt.fQ m
 |[],m=>by simp [Rt.fQ]
 |t::l,m=>by
  show t.sz+Rt.fQ (l++m)=t.sz+Rt.fQ l+Rt.fQ m
  rw [uf l m]
  omega
theorem qP (l:List Rt) (i:Nat):Rt.fQ (l.take i)<=Rt.fQ l:=by
 have:=uf (l.take i) (l.drop i)
 rw [Lb] at this
 omega
abbrev ZB (n:Nat):Prop:=∀(t:Rt) (x:Nat) (w:World),t.sz<=n->x<=1000000->t.P w->Calls Tryz.prog kX #[t.v,.int .i64 (x:Int)] w λr w'=>r=.returned (.int .i64 (max ((x:Int) - t.sz) (-1)))/\bG w w'
theorem vI:∀n:Nat,n<=1000000->ZB n
 |0,_=>λt x w h _ _=>absurd h (by have:=Rt.pD t;omega)
 |n+1,hn=>λt x w h hx pt=>by
  have ih:=vI n (by omega)
  have hs:=Rt.gE t
  have hl:=Rt.fG t.l
  have loop:∀(d i:Nat) (y:Int) (b2:Nat) (w1:World),i+d=t.l.length->-1<=y->y<=1000000->max (y - Rt.fQ (t.l.drop i)) (-1)=max ((x:Int) - t.sz) (-1)->LH F0 w w1 [.g b2] [.tree t]->
    regex_countdown.mD y b2 t.k t.lo.toNat t.hi.toNat t.s (i:Int) w1 λr w'=>r=.returned (.int .i64 (max ((x:Int) - t.sz) (-1)))/\bG w w':=by
   intro d
   induction d with
   |zero=>
    intro i y b2 w1 hi hy U7 he H
    have nr:=Rt.b0 (show t.P w1 from H.getD 0).parts.1
    rw [sP (by omega)] at he
    refine regex_countdown.dM _ _ _ _ _ _ _ _ _ (aI (decide_eq_false (by omega)) ⟨?_,H.fr⟩)
    rw [<-he]
    congr 2
    simp only [Rt.fQ]
    omega
   |succ d qz=>
    intro i y b2 w1 hi hy U7 he H
    have nr:=Rt.b0 (show t.P w1 from H.getD 0).parts.1
    have hg:t.l[i]? =some (t.l[i]'(by omega)):=g8 (by omega)
    rw [sC (by omega)] at he
    generalize t.l[i]'(by omega)=a at hg he
    have DN:=Rt.dQ (cR hg)
    unfold Rt.fQ at he
    refine regex_countdown.dM _ _ _ _ _ _ _ _ _ (aQ (decide_eq_true (by omega)) (aN (λhy0=>⟨by omega,by omega,?_⟩) (λhy0=>⟨?_,H.fr⟩)))
    .have K7:t.P w1:=H.getD 0
     refine Rt.at' K7.parts.1 hg λp hp c=>⟨_,_,_,_,c.c0,c.c1,c.c2,c.c3,?_⟩
     have XR:0<=y:=hy0
     obtain ⟨m,rfl⟩:=Int.eq_ofNat_of_zero_le XR
     refine H.aK (ih a m w1 (by omega) (by omega) (K7.parts.2.get hg)) ?_
     rintro _ w2 rfl H2
     refine ⟨_,rfl,?_⟩
     rw [aX _ (by omega)]
     refine qz (i+1) _ b2 w2 (by omega) (by omega) (by omega) ?_ H2
     rw [<-he]
     omega
    .have XR:¬0<=y:=hy0
     rw [<-he]
     have:y=-1:=by omega
     subst this
     congr 2
     omega
  have e:IntKind.wrap .i64 ((x:Int) - 1)=(x:Int) - 1:=IntWalk.i64_in _ (by omega)
  refine regex_countdown.cU _ _ _ _ _ w _ ((zV pt).bF λb2 w1 H1=>?_)
  rw [e]
  refine loop t.l.length 0 _ b2 w1 (by omega) (by omega) (by omega) ?_ H1
  rw [List.drop_zero,hs]
  omega
theorem uR (t:Rt) (w:World) (h:t.sz<=1000000) (pt:t.P w):Calls Tryz.prog jR #[t.v] w λr w'=>r=.returned (.bool (decide (64<t.sz)))/\bG w w':=by
 refine regex_tooLarge.cU _ _ _ _ w _ ((zV pt).bF λb1 w1 H1=>H1.aK (vI 1000000 (Nat.le_refl _) t 64 w1 h (by omega) (H1.getD 0)) ?_)
 rintro _ w2 rfl H2
 refine ⟨_,rfl,?_,H2.fr⟩
 congr 2
 exact decide_eq_decide.2 (by omega)
mutual
def dY:Rx->Bool
 |.mk k lo hi l=>!(k !=2&&(lo !=0||hi !=0))&&(if k=0\/k=1 then l.isEmpty else if k=2 then l.isEmpty&&decide (lo.toNat<=hi.toNat) else if k=3\/k=4\/k=5 then gH l else if k=6\/k=7 then l.length==1&&gH l else false)
def gH:List Rx->Bool
 |[]=>true
 |t::l=>dY t&&gH l
end
abbrev ZK (n:Nat):Prop:=∀(t:Rt) (w:World),t.sz<=n->t.P w->Calls Tryz.prog nW #[t.v] w λr w'=>r=.returned (.bool (dY t.rx))/\bG w w'
theorem CX (l:List Rt):(Rt.bV l).isEmpty=(((l.length:Nat):Int)==0):=by
 rw [Rt.fC]
 cases l with
 |nil=>rfl
 |cons a l=>
  simp
  omega
theorem BD:∀n:Nat,n<=1000000->ZK n
 |0,_=>λt w h _=>absurd h (by have:=Rt.pD t;omega)
 |n+1,hn=>λt w h pt=>by
  have ih:=BD n (by omega)
  have hs:=Rt.gE t
  have hl:=Rt.fG t.l
  have nr:=Rt.b0 pt.parts.1
  have loop:∀(b:Bool),dY t.rx=(b&&gH (Rt.bV t.l))->b=true->∀(d i:Nat) (w1:World),i+d=t.l.length->gH (Rt.bV (t.l.drop i))=gH (Rt.bV t.l)->LH F0 w w1 [] [.tree t]->
    regex_proper.CA t.s ((t.s.n:Nat):Int) (i:Int) w1 λr w'=>r=.returned (.bool (dY t.rx))/\bG w w':=by
   intro b hb zH d
   subst zH
   rw [Bool.true_and] at hb
   induction d with
   |zero=>
    intro i w1 hi he H
    rw [sP (by omega)] at he
    refine regex_proper.nK _ _ _ _ _ (aI (decide_eq_false (by omega)) ⟨?_,H.fr⟩)
    rw [hb,<-he];rfl
   |succ d qz=>
    intro i w1 hi he H
    have hg:t.l[i]? =some (t.l[i]'(by omega)):=g8 (by omega)
    rw [sC (by omega)] at he
    generalize t.l[i]'(by omega)=a at hg he
    have DN:=Rt.dQ (cR hg)
    have mG:(dY a.rx&&gH (Rt.bV (t.l.drop (i+1))))=gH (Rt.bV t.l):=he
    have K7:t.P w1:=H.getD 0
    refine regex_proper.nK _ _ _ _ _ (aQ (decide_eq_true (by omega)) ⟨by omega,by omega,?_⟩)
    refine Rt.at' K7.parts.1 hg λp hp c=>⟨_,_,_,_,c.c0,c.c1,c.c2,c.c3,H.bF λb4 w2 H2=>H2.aL λw3 H3=>H3.aK (ih a w3 (by omega) ((show t.P w3 from H3.getD 0).parts.2.get hg)) ?_⟩
    rintro _ w4 rfl H4
    refine ⟨_,rfl,eT (λhf=>⟨?_,H4.fr⟩) (λht=>?_)⟩
    .rw [hb,<-mG,hf];rfl
    .rw [aX _ (by omega)]
     rw [ht,Bool.true_and] at mG
     exact qz (i+1) w4 (by omega) mG (H4.take 0)
  have er:=Rt.dE t
  have nz:∀x:UInt8,(((x.toNat:Nat):Int) !=0)=(x !=0):=λx=>by
   by_cases hx:x=0
   .subst hx;rfl
   .have h1:(x !=0)=true:=by simpa using hx
    rw [h1]
    have:x.toNat≠0:=λh0=>hx (UInt8.toNat_inj.1 (by simpa using h0))
    simp
    omega
  refine regex_proper.cU _ _ _ _ w _ ((zV pt).bF λb1 w1 H1=>?_)
  have out:∀b:Bool,dY t.rx=b->(Ending.returned (.bool b)=.returned (.bool (dY t.rx))/\bG w w1):=λb hb=>⟨by rw [hb],H1.fr⟩
  have s4:dY t.rx=gH (Rt.bV t.l)->regex_proper.qb b1 t.k t.lo.toNat t.hi.toNat t.s w1 λr w'=>r=.returned (.bool (dY t.rx))/\bG w w':=λhb=>loop true (by rw [hb];rfl) rfl t.l.length 0 w1 (by omega) (by simp) (H1.take 0)
  have s1:(t.k !=2&&(t.lo !=0||t.hi !=0))=false->regex_proper.gm b1 t.k t.lo.toNat t.hi.toNat t.s w1 λr w'=>r=.returned (.bool (dY t.rx))/\bG w w':=by
   intro h0
   have eg:dY t.rx=(if t.k=0\/t.k=1 then (Rt.bV t.l).isEmpty else if t.k=2 then (Rt.bV t.l).isEmpty&&decide (t.lo.toNat<=t.hi.toNat) else if t.k=3\/t.k=4\/t.k=5 then gH (Rt.bV t.l) else if t.k=6\/t.k=7 then (Rt.bV t.l).length==1&&gH (Rt.bV t.l) else false):=by
    rw [er]
    unfold dY
    rw [h0];rfl
   have s2:t.k=0\/t.k=1->regex_proper.fB b1 t.k t.lo.toNat t.hi.toNat t.s w1 λr w'=>r=.returned (.bool (dY t.rx))/\bG w w':=λhk=>out _ (by rw [eg,if_pos hk,CX,nr])
   have s7:t.k=6\/t.k=7->regex_proper.II b1 t.k t.lo.toNat t.hi.toNat t.s w1 λr w'=>r=.returned (.bool (dY t.rx))/\bG w w':=λhk=>by
    have e7:dY t.rx=((Rt.bV t.l).length==1&&gH (Rt.bV t.l)):=by rw [eg,if_neg (by omega),if_neg (by omega),if_neg (by omega),if_pos hk]
    have el:(Rt.bV t.l).length=t.s.n:=by rw [Rt.fC];simp [nr]
    refine dX (λh1=>out false ?_) (λh1=>s4 ?_)
    .rw [e7,el]
     have:(t.s.n==1)=false:=by simp;omega
     rw [this];rfl
    .rw [e7,el]
     have:(t.s.n==1)=true:=by simp;omega
     rw [this];rfl
   have s6:t.k≠0->t.k≠1->t.k≠2->t.k≠3->t.k≠4->t.k≠5->regex_proper.x9 b1 t.k t.lo.toNat t.hi.toNat t.s t.k w1 λr w'=>r=.returned (.bool (dY t.rx))/\bG w w':=λk0 k1 k2 k3 k4 k5=>
    aJ (λhk=>aQ (by simp [hk]) (s7 (.inl hk))) (λk6=>aJ (λhk=>s7 (.inr hk)) (λk7=>out false (by rw [eg,if_neg (by omega),if_neg (by omega),if_neg (by omega),if_neg (by omega)])))
   have e4:t.k=3\/t.k=4\/t.k=5->dY t.rx=gH (Rt.bV t.l):=λhk=>by rw [eg,if_neg (by omega),if_neg (by omega),if_pos hk]
   have s3:t.k≠0->t.k≠1->regex_proper.ic b1 t.k t.lo.toNat t.hi.toNat t.s t.k w1 λr w'=>r=.returned (.bool (dY t.rx))/\bG w w':=λk0 k1=>
    aJ (λhk=>by
     have e2:dY t.rx=((Rt.bV t.l).isEmpty&&decide (t.lo.toNat<=t.hi.toNat)):=by rw [eg,if_neg (by omega),if_pos hk]
     refine bA (λhn=>out _ ?_) (λhn=>out false ?_)
     .rw [e2,CX,<-nr,hn,Bool.true_and]
      exact decide_eq_decide.2 (by omega)
     .rw [e2,CX,<-nr,hn];rfl)
    (λk2=>aJ (λhk=>aQ (by simp [hk]) (s4 (e4 (.inl hk)))) (λk3=>aJ (λhk=>aQ (by simp [hk]) (s4 (e4 (.inr (.inl hk))))) (λk4=>aJ (λhk=>s4 (e4 (.inr (.inr hk)))) (λk5=>s6 k0 k1 k2 k3 k4 k5))))
   exact aJ (λhk=>aQ (by simp [hk]) (s2 (.inl hk))) (λk0=>aJ (λhk=>s2 (.inr hk)) (λk1=>s3 k0 k1))
  have bad:(t.k !=2&&(t.lo !=0||t.hi !=0))=true->dY t.rx=false:=λhb=>by
   rw [er]
   unfold dY
   rw [hb];rfl
  refine bA (λh2=>bA (λsN=>out false (bad ?_)) (λsN=>bA (λQe=>out false (bad ?_)) (λQe=>s1 ?_))) (λh2=>s1 ?_)
  .rw [h2,<-nz,sN];rfl
  .rw [h2,<-nz t.hi,Qe];simp
  .rw [<-nz,<-nz,sN,Qe];simp
  .rw [h2];rfl
def nB (x:Rx):Int:=if 64<x.sz then 4 else if dY x then 0 else 1
theorem IP (t:Rt) (w:World) (h:t.sz<=1000000) (pt:t.P w):Calls Tryz.prog oK #[t.v] w λr w'=>r=.returned (.int .i64 (nB t.rx))/\bG w w':=by
 refine regex_Valid.cU _ _ _ _ w _ ((zV pt).bF λb1 w1 H1=>H1.aK (uR t w1 h (H1.getD 0)) ?_)
 rintro _ w2 rfl H2
 refine ⟨_,rfl,aN (λhl=>⟨?_,H2.fr⟩) (λhl=>H2.aK (BD 1000000 (Nat.le_refl _) t w2 h (H2.getD 0)) ?_)⟩
 .unfold nB;rw [Rt.ib,if_pos hl]
 rintro _ w3 rfl H3
 refine ⟨_,rfl,eT (λhg=>⟨?_,H3.fr⟩) (λhg=>⟨?_,H3.fr⟩)⟩
 .unfold nB;rw [Rt.ib,if_neg hl,hg];rfl
 .unfold nB;rw [Rt.ib,if_neg hl,hg];rfl
abbrev ZC (n:Nat):Prop:=∀(t:Rt) (w:World),t.sz<=n->t.P w->Calls Tryz.prog mR #[t.v] w λr w'=>o8 w t.rx r w'/\bG w w'
theorem Eh:∀n:Nat,n<=1000000->ZC n
 |0,_=>λt w h _=>absurd h (by have:=Rt.pD t;omega)
 |n+1,hn=>λt w h pt=>by
  have ih:=Eh n (by omega)
  have hs:=Rt.gE t
  have hl:=Rt.fG t.l
  have nr:=Rt.b0 pt.parts.1
  have loop:∀(d i:Nat) (ks:List Rt) (sl:Sl) (b1 b2:Nat) (w1:World),i+d=t.l.length->ks.length=i->Rt.bV ks=Rt.bV (t.l.take i)->(∀b∈Rt.gV ks,w.heap.size<=b)->LH F0 w w1 [.g b1,.g b2,.row aB 4 sl (ks.flatMap Rt.c)] [.tree t,.trees ks]->
    regex_clone.eE b1 t.k t.lo.toNat t.hi.toNat t.s b2 0 0 0 ⟨none,0,0⟩ sl t.s ((t.s.n:Nat):Int) (i:Int) w1 λr w'=>o8 w t.rx r w'/\bG w w':=by
   intro d
   induction d with
   |zero=>
    intro i ks sl b1 b2 w1 hi hk he hf H
    refine regex_clone.aY _ _ _ _ _ _ _ _ _ _ _ _ _ _ _ _ (aI (decide_eq_false (by omega)) (H.aL λw2 H2=>⟨⟨.mk t.k t.lo t.hi sl ks,rfl,?_,?_,λb hb=>?_⟩,H2.fr⟩))
    .rw [Rt.dE t]
     unfold Rt.rx
     rw [he,rA (by omega)]
    .unfold Rt.P
     exact ⟨aO.iD (H2.get 2),H2.getD 1⟩
    .unfold Rt.fp at hb
     rcases fS.1 hb with hb|hb
     .exact (H2.new _ (cR (i:=2) rfl) b (fY hb)).resolve_right id
     .exact hf b hb
   |succ d qz=>
    intro i ks sl b1 b2 w1 hi hk he hf H
    have hg:t.l[i]? =some (t.l[i]'(by omega)):=g8 (by omega)
    generalize t.l[i]'(by omega)=a at hg
    have DN:=Rt.dQ (cR hg)
    have K7:t.P w1:=H.getD 0
    refine regex_clone.aY _ _ _ _ _ _ _ _ _ _ _ _ _ _ _ _ (aQ (decide_eq_true (by omega)) ⟨by omega,by omega,?_⟩)
    refine Rt.at' K7.parts.1 hg λp hp c=>⟨_,_,_,_,c.c0,c.c1,c.c2,c.c3,H.bF λb5 w2 H2=>H2.aL λw3 H3=>H3.ri (ih a w3 (by omega) ((show t.P w3 from H3.getD 0).parts.2.get hg)) ?_⟩
    rintro _ w4 ⟨u,rfl,hu,pu,fu⟩ _ F4
    have H4:=F4.rd (.tree u) pu λb hb=>fu b (aH.1 hb)
    have xw:=Rt.b0 (H4.get 2:aO _ _ _ _ _).iD
    refine ⟨_,_,_,_,rfl,H4.uj 2 zv rfl (λs' w5 H5=>?_) (by omega)⟩
    have H6:=(H5.Ar 1 2).take 3
    rw [aX _ (by omega)]
    refine qz (i+1) (ks++[u]) s' b1 b2 w5 (by omega) (by simp [hk]) ?_ ?_ ?_
    .rw [kz,he,GN,hg,kz]
     simp [Rt.bV,hu]
    .intro b hb
     obtain ⟨t',ht,eG⟩:=Rt.bC.1 hb
     rcases fS.1 ht with ht|ht
     .exact hf b (Rt.bC.2 ⟨t',ht,eG⟩)
     .simp at ht
      rw [ht] at eG
      exact Nat.le_trans H3.fr.size (fu b eG)
    .rw [mV]
     exact H6.forget _ (by simp)
  refine regex_clone.cU _ _ _ _ w _ ((zV pt).bF λb1 w1 H1=>H1.bF λb2 w2 H2=>?_)
  have H3:=H2.n7 aB 4
  have H4:=H3.nf (.trees []) (Fr.refl _ _) (by show Rt.Ps w2 [];unfold Rt.Ps;trivial) (λb hb=>by
   have:=aH.1 hb
   unfold Rt.gV at this
   cases this)
  exact loop t.l.length 0 [] ⟨none,0,0⟩ b1 b2 w2 (by omega) rfl rfl (λb hb=>by unfold Rt.gV at hb;cases hb) H4
theorem Pt (t:Rt) (w:World) (h:t.sz<=1000000) (pt:t.P w):Calls Tryz.prog mR #[t.v] w λr w'=>o8 w t.rx r w'/\bG w w':=Eh 1000000 (Nat.le_refl _) t w h pt
def xF:Rx:=.mk 0 0 0 []
def Fh (x:Rx):Int:=if 64<x.sz then 4 else 0
def Fi (x:Rx):Rx:=if 64<x.sz then xF else x
def R6 (w:World) (x:Rx) (c:Int) (r:Ending) (w':World):Prop:=∃t:Rt,r=.returned (.tuple #[t.v,.int .i64 c])/\t.rx=x/\t.P w'/\∀b∈t.fp,w.heap.size<=b
theorem Jv (w:World):(Rt.mk 0 0 0 ⟨none,0,0⟩ []).P w:=by
 unfold Rt.P Rt.Ps
 exact ⟨jU.nil 4 w,trivial⟩
theorem SY {b:Nat} (h:b∈(Rt.mk 0 0 0 ⟨none,0,0⟩ []).fp):False:=by
 unfold Rt.fp Rt.gV at h
 simp [En.iD] at h
theorem Ki (t:Rt) (w:World) (h:t.sz<=1000000) (pt:t.P w):Calls Tryz.prog po #[t.v] w λr w'=>R6 w (Fi t.rx) (Fh t.rx) r w'/\bG w w':=by
 refine regex_limited.cU _ _ _ _ w _ ((zV pt).bF λb1 w1 H1=>H1.bF λb2 w2 H2=>H2.aK (uR t w2 h (H2.getD 0)) ?_)
 rintro _ w3 rfl H3
 refine ⟨_,rfl,aN (λhl=>H3.aL λw4 H4=>⟨⟨.mk 0 0 0 ⟨none,0,0⟩ [],?_,?_,Jv _,λb hb=>(SY hb).elim⟩,H4.fr⟩) (λhl=>H3.ri (Pt t w3 h (H3.getD 0)) ?_)⟩
 .unfold Fh;rw [Rt.ib,if_pos hl];rfl
 .unfold Fi;rw [Rt.ib,if_pos hl];rfl
 rintro _ w4 ⟨u,rfl,hu,pu,fu⟩ _ F4
 have H4:=F4.rd (.tree u) pu λb hb=>fu b (aH.1 hb)
 refine ⟨_,_,_,_,rfl,H4.aL λw5 H5=>⟨⟨u,?_,?_,H5.getD 1,λb hb=>Nat.le_trans H3.fr.size (fu b hb)⟩,H5.fr⟩⟩
 .unfold Fh;rw [Rt.ib,if_neg hl]
 .unfold Fi;rw [Rt.ib,if_neg hl,hu]
theorem Cn {w:World} {g:Nat} {cur:Array Value} {t:TypeId} (hg:w.heap[g]? =some (.cells cur t (0,0))) (vs:Array Value):w.setRow g vs=w.putObj g (.cells vs t (0,0)):=by
 unfold World.setRow World.putObj
 congr 1
 apply Array.ext_getElem?
 intro i
 rw [Array.getElem?_modify,Array.getElem?_setIfInBounds]
 by_cases hi:g=i
 .subst hi
  have:=gq hg
  simp [this,(Array.getElem?_eq_some_iff.1 hg).2]
 .simp [hi]
theorem WE (g k:Nat):(⟨g,0,none⟩:Addr).add k=⟨g,k,none⟩:=by
 unfold Addr.add
 split<;>simp_all
theorem I0 {P:Program} {t ty e:TypeId} {z:Value} {sz bytes:Nat} (el:iy P t e z sz bytes) (h1:∀u∈z.cells.toList,u.oneCell'=true) (hzs:z.cells.size=sz) {w:World} {s:Sl} {vs:List Value} (h:aO w e sz s vs) (l:Nat) (hl:l<=s.n):
  ∃w',(Builtin.clear_ #[t] ty #[.slice (if s.c=l then s.a else s.a.map (·.add (l *sz))) (s.n - l) (s.c - l)]).run P w=.ok (.tuple #[]) w'/\
   aO w' e sz ⟨if s.c=0 then s.a else s.a.map (·.add (0 *sz)),l - 0,s.c - 0⟩ (vs.take (l *sz))/\Fr (·∈aZ s) w w':=by
 have hlen:=h.len
 obtain ⟨sa,sn,sc⟩:=s
 simp only at hl hlen
 have Ba:∀q:Option Addr,(if sc=0 then q else q.map (·.add (0 *sz)))=q:=λq=>by
  split
  .rfl
  .cases q with
   |none=>rfl
   |some p=>rw [Nat.zero_mul,Option.map_some,uN]
 rw [Ba,Nat.sub_zero,Nat.sub_zero]
 have W4:∀(w':World) (g:Nat) (yF:Array Value),sa=some ⟨g,0,none⟩->sn<=sc->sc<=maxLen->w'.heap[g]? =some (.cells yF e (0,0))->yF.size=sc *sz->yF.toList.take (l *sz)=vs.take (l *sz)->aO w' e sz ⟨sa,l,sc⟩ (vs.take (l *sz)):=by
  intro w' g yF ha Qk hc hg mH ht
  subst ha
  have e1:l *sz<=sn *sz:=Nat.mul_le_mul_right _ hl
  refine ⟨by rw [Cg,hlen,Nat.min_eq_left e1],.inr ⟨g,sc,yF,rfl,Nat.zero_le _,hg,by show l<=sc;omega,hc,mH,ht⟩⟩
 rcases h.cases with ⟨hs,rfl⟩|⟨g,cur,ha,hg,KB,h2,h3,h4⟩
 .cases hs
  have:l=0:=by omega
  subst this
  refine ⟨w,?_,?_,Fr.refl _ _⟩
  .simp [Builtin.clear_,run_underlying el.ht]
  .simpa using aO.nil w e sz
 .simp only at ha KB h2 h3 h4
  subst ha
  have e1:l *sz<=sn *sz:=Nat.mul_le_mul_right _ hl
  have e2:sn *sz<=sc *sz:=Nat.mul_le_mul_right _ KB
  have ht0:cur.toList.take (l *sz)=vs.take (l *sz):=by rw [<-h4,List.take_take,Nat.min_eq_left e1]
  by_cases hn:sn - l=0
  .refine ⟨w,?_,W4 w g cur rfl KB h2 hg h3 ht0,Fr.refl _ _⟩
   rw [hn]
   by_cases Jf:sc=l
   .simp [Builtin.clear_,run_underlying el.ht,Jf]
   .simp [Builtin.clear_,run_underlying el.ht,Jf]
  .have Jf:sc≠l:=by omega
   obtain ⟨inf,hi,hz,mH,Je⟩:=info_parts el.hi
   have hzv:(zeroValue e).run P w=.ok z w:=by simp [zeroValue,typeInfo,hi,hz]
   have hlz:(Builtin.zeroCells z.cells (sn - l)).toList.length=(sn - l) *sz:=by simp [Builtin.zeroCells,hzs]
   have Dj:∀v∈(Builtin.zeroCells z.cells (sn - l)).toList,v.oneCell'=true:=by
    intro v hv
    unfold Builtin.zeroCells at hv
    rw [Array.toList_map,pX] at hv
    obtain ⟨j,hj,rfl⟩:=hv
    by_cases h0:0<z.cells.size
    .have lV:j%z.cells.size<z.cells.size:=Nat.mod_lt _ h0
     rw [getElem!_pos z.cells _ lV]
     exact h1 _ (by simp)
    .have h00:z.cells.size=0:=by omega
     simp [h00] at hj
   have hle:(sn - l) *sz=sn *sz - l *sz:=Nat.sub_mul _ _ _
   have rT:l *sz+0+(Builtin.zeroCells z.cells (sn - l)).toList.length<=cur.size:=by
    rw [hlz,h3]
    omega
   have l0:=run_storeCells_at (P:=P) g (l *sz) e (Builtin.zeroCells z.cells (sn - l)).toList 0 cur w hg rT Dj
   refine ⟨_,?_,W4 _ g (cur.toList.take (l *sz+0)++(Builtin.zeroCells z.cells (sn - l)).toList++cur.toList.drop (l *sz+0+(Builtin.zeroCells z.cells (sn - l)).toList.length)).toArray rfl KB h2 (setRow_heap w g cur _ e _ hg) ?_ ?_,?_⟩
   .obtain ⟨m,hm⟩:∃m,sn - l=m+1:=⟨sn - l - 1,by omega⟩
    have aal:(⟨g,0,none⟩:Addr).add (l *sz)=⟨g,l *sz,none⟩:=WE g (l *sz)
    rw [hm] at l0 ⊢
    simp [Builtin.clear_,run_underlying el.ht,Jf,aal,hzv,l0]
   .simp only [List.size_toArray,qq,Cg,List.length_drop,hlz,Array.length_toList,h3]
    generalize (sn - l) *sz=x at *
    generalize sn *sz=y at *
    generalize sc *sz=u at *
    generalize l *sz=v at *
    omega
   .simp only [AU,Nat.add_zero]
    rw [List.take_append_of_le_length (by
     rw [Cg,Array.length_toList,h3]
     exact Nat.le_min.2 ⟨Nat.le_refl _,Nat.le_trans e1 e2⟩),List.take_take,Nat.min_self]
    exact ht0
   .rw [Cn hg]
    exact (Fr.put w g _).mono λx _ e=>by simp [aZ,e]
theorem TY:∀u∈(Value.agg #[.int .i64 0,.int .u8 0,.int .u8 0,.slice none 0 0]).cells.toList,u.oneCell'=true:=by
 intro u hu
 simp only [Value.cells,cS,fF,or_false] at hu
 rcases hu with rfl|rfl|rfl|rfl<;>rfl
theorem Ky {l:List Rt} {k:Nat} {t:Rt} (hk:k<l.length):((((l.flatMap Rt.c).set (k *4+0) (.int .i64 t.k)).set (k *4+1) (.int .u8 (t.lo.toNat:Int))).set (k *4+2) (.int .u8 (t.hi.toNat:Int))).set (k *4+3) t.s.v=(l.set k t).flatMap Rt.c:=by
 induction l generalizing k with
 |nil=>simp at hk
 |cons a l ih=>
  cases k with
  |zero=>simp [Rt.c]
  |succ k=>
   have EX:k<l.length:=by simpa using hk
   have e:∀j,(k+1) *4+j=(k *4+j)+4:=λj=>by omega
   rw [e 0,e 1,e 2,e 3,vw,List.set_cons_succ,vw,<-ih EX]
   simp [Rt.c]
section
variable {M:Nat->Prop} {w0 w:World} {L D:List En} {bs:List Nat}
theorem _root_.Go.W.LH.Yv (H:LH M w0 w L D) (i k:Nat) {s:Sl} {ts:List Rt} {t:Rt} {p:Addr} {K:World->Prop} (hi:L[i]? =some (.row aB 4 s (ts.flatMap Rt.c))) (hp:s.a=some p) (hk:k<ts.length)
  (hK:∀w',LH M w0 w' (L.set i (.row aB 4 s ((ts.set k t).flatMap Rt.c))) D->K w') (ke:∀b∈bs,En.g b∈L:=by simp):
  bT w (p.add (k *4)) (.int .i64 t.k) λw1=>kept bs w w1/\bT w1 ((p.add (k *4)).add 1) (.int .u8 (t.lo.toNat:Int)) λw2=>kept bs w1 w2/\bT w2 ((p.add (k *4)).add 2) (.int .u8 (t.hi.toNat:Int)) λw3=>kept bs w2 w3/\bT w3 ((p.add (k *4)).add 3) t.s.v λw4=>kept bs w3 w4/\K w4:=by
 have hlen:(ts.flatMap Rt.c).length=ts.length *4:=Rt.iT ts
 have Qf:=(ov.1 hi).1
 have Nw:∀{e:En} {b:Nat},(∀(w1:World) (b':Nat),¬e.P ({w1 with heap:=Array.replicate (b'+1) (.map #[] 0)}:World))->En.g b∈L->En.g b∈L.set i e:=by
  intro e b ie hb
  obtain ⟨j,hj⟩:=List.mem_iff_getElem?.1 hb
  by_cases yG:i=j
  .subst yG
   rw [hi] at hj
   exfalso
   have e1:En.row aB 4 s (ts.flatMap Rt.c)=En.g b:=Option.some.inj hj
   have KE:(En.g b).P ({w with heap:=Array.replicate (b+1) (.map #[] 0)}):=by show b<_;simp
   rw [<-e1] at KE
   by_cases hs:aZ s=[]
   .have:s.a=none:=by unfold aZ at hs;split at hs<;>simp_all
    rw [hp] at this;cases this
   .obtain ⟨x,hx⟩:=List.exists_mem_of_ne_nil _ hs
    obtain ⟨cs,f,hc⟩:=(aO.row (show aO ({w with heap:=Array.replicate (b+1) (.map #[] 0)}) aB 4 s _ from KE)).VT x hx
    rw [Array.getElem?_replicate] at hc
    split at hc<;>cases hc
  .refine cR (i:=j) ?_
   rw [List.getElem?_set_ne yG]
   exact hj
 have tj:∀(vs:List Value) (w1:World) (b':Nat),¬(En.row aB 4 s vs).P ({w1 with heap:=Array.replicate (b'+1) (.map #[] 0)}:World):=by
  intro vs w1 b' h0
  have hx:p.block∈aZ s:=by simp [aZ,hp]
  obtain ⟨cs,f,hc⟩:=(aO.row (show aO ({w1 with heap:=Array.replicate (b'+1) (.map #[] 0)}) aB 4 s vs from h0)).VT _ hx
  rw [Array.getElem?_replicate] at hc
  split at hc<;>cases hc
 have g1:=H.Cr (bs:=bs) i (k *4) 0 (v:=.int .i64 t.k) (p:=p) (K:=λw1=>bT w1 ((p.add (k *4)).add 1) (.int .u8 (t.lo.toNat:Int)) λw2=>kept bs w1 w2/\bT w2 ((p.add (k *4)).add 2) (.int .u8 (t.hi.toNat:Int)) λw3=>kept bs w2 w3/\bT w3 ((p.add (k *4)).add 3) t.s.v λw4=>kept bs w3 w4/\K w4) hi hp (by rw [hlen];omega) (λw1 H1=>?_) ke
 .rw [uN] at g1
  exact g1
 refine H1.Cr (bs:=bs) i (k *4) 1 (by rw [tD Qf]) hp (by rw [Th,hlen];omega) (λw2 H2=>?_) (λb hb=>Nw (tj _) (ke b hb))
 rw [List.set_set] at H2
 refine H2.Cr (bs:=bs) i (k *4) 2 (by rw [tD Qf]) hp (by simp only [Th,hlen];omega) (λw3 H3=>?_) (λb hb=>Nw (tj _) (ke b hb))
 rw [List.set_set] at H3
 refine H3.Cr (bs:=bs) i (k *4) 3 (by rw [tD Qf]) hp (by simp only [Th,hlen];omega) (λw4 H4=>?_) (λb hb=>Nw (tj _) (ke b hb))
 rw [List.set_set,Ky hk] at H4
 exact hK w4 H4
theorem _root_.Go.W.LH.aaM (H:LH M w0 w L D) (i k:Nat) {s:Sl} {ts:List Rt} {t:Rt} {p:Addr} {K:World->Prop} (hi:L[i]? =some (.row aB 4 s (ts.flatMap Rt.c))) (hp:s.a=some p) (hk:k<ts.length)
  (hK:∀w',LH M w0 w' (L.set i (.row aB 4 s ((ts.set k t).flatMap Rt.c))) D->K w'):
  bT w (p.add (k *4)) (.int .i64 t.k) λw1=>bT w1 ((p.add (k *4)).add 1) (.int .u8 (t.lo.toNat:Int)) λw2=>bT w2 ((p.add (k *4)).add 2) (.int .u8 (t.hi.toNat:Int)) λw3=>bT w3 ((p.add (k *4)).add 3) t.s.v K:=by
 have h:=H.Yv (bs:=[]) (K:=K) i k hi hp hk hK (by simp)
 exact ⟨h.1,h.2.1,h.2.2.2.1,h.2.2.2.2.1,h.2.2.2.2.2.2.1,h.2.2.2.2.2.2.2.1,h.2.2.2.2.2.2.2.2.2.1,h.2.2.2.2.2.2.2.2.2.2.1,h.2.2.2.2.2.2.2.2.2.2.2.2⟩
end
theorem Ic {w:World} {s:Sl} {l:List Rt} (h:aO w aB 4 s (l.flatMap Rt.c)) {i:Nat} {t:Rt} (hi:l[i]? =some t) {K:Addr->Prop} (hk:∀p,s.a=some p->Rt.pG w p i t->K p):aW s.a K:=Rt.at' h.iD hi hk
section
variable {M:Nat->Prop} {w0 w:World} {L D:List En}
theorem _root_.Go.W.LH.el (H:LH M w0 w L D) (i k:Nat) {s:Sl} {ts:List Rt} {t:Rt} {X:Int} {K:Int->Int->Int->Sl->Prop} (hX:X=(k:Int)) (hg:ts[k]? =some t) (h:K t.k t.lo.toNat t.hi.toNat t.s) (hi:L[i]? =some (.row aB 4 s (ts.flatMap Rt.c)):=by rfl):
  (0:Int)<=X/\X<((s.n:Nat):Int)/\aW s.a λp=>∃a b c:Int,∃d:Sl,w.cell? ((p.add (Int.toNat X *4)).add 0)=some (.i a)/\w.cell? ((p.add (Int.toNat X *4)).add 1)=some (.int .u8 b)/\w.cell? ((p.add (Int.toNat X *4)).add 2)=some (.int .u8 c)/\w.cell? ((p.add (Int.toNat X *4)).add 3)=some d.v/\K a b c d:=by
 subst hX
 have ho:aO w aB 4 s (ts.flatMap Rt.c):=H.get i hi
 have hn:=Rt.b0 ho.iD
 have hk:=(ov.1 hg).1
 exact ⟨by omega,by omega,Ic ho hg λp hp c=>⟨_,_,_,_,c.c0,c.c1,c.c2,c.c3,h⟩⟩
theorem _root_.Go.W.LH.Uy (H:LH M w0 w L D) (i k:Nat) {s:Sl} {ts:List Rt} {t:Rt} {X:Int} {K:World->Prop} (hX:X=(k:Int)) (hk:k<ts.length) (hK:∀w',LH M w0 w' (L.set i (.row aB 4 s ((ts.set k t).flatMap Rt.c))) D->K w') (hi:L[i]? =some (.row aB 4 s (ts.flatMap Rt.c)):=by rfl):
  (0:Int)<=X/\X<((s.n:Nat):Int)/\aW s.a λp=>bT w (p.add (Int.toNat X *4)) (.i t.k) λw1=>bT w1 ((p.add (Int.toNat X *4)).add 1) (.int .u8 (t.lo.toNat:Int)) λw2=>bT w2 ((p.add (Int.toNat X *4)).add 2) (.int .u8 (t.hi.toNat:Int)) λw3=>bT w3 ((p.add (Int.toNat X *4)).add 3) t.s.v K:=by
 subst hX
 have ho:aO w aB 4 s (ts.flatMap Rt.c):=H.get i hi
 have hn:=Rt.b0 ho.iD
 have hg:ts[k]? =some ts[k]:=g8 hk
 exact ⟨by omega,by omega,Ic ho hg λp hp c=>H.aaM i k hi hp hk hK⟩
end
theorem zM {j:Nat} (h1:1<=j) (h2:j<=1000000000):IntKind.wrap .i64 ((j:Int) - 1)=((j - 1:Nat):Int):=by
 rw [IntWalk.i64_in _ (by omega)]
 omega
end Go.Proofs.YtcifihepfadgfaaGreatDoor
namespace Go.Proofs.YtcifihepfadgfaaGreatDoor
open List renaming mem_append->fS,mem_cons->cS,not_mem_nil->fF,mem_of_getElem?->cR,getElem?_eq_getElem->g8,getElem?_eq_some_iff->ov,mem_append_left->qf,mem_append_right->uD,mem_flatMap->mI,mem_map->pX,length_append->qq,append_assoc->AU,length_take->Cg,flatMap_append->r8,flatMap_cons->vw,mem_cons_of_mem->lr,mem_cons_self->Bi,length_set->Th,take_append_drop->Lb,drop_eq_getElem_cons->sC,append_nil->Cf,take_add_one->GN,map_cons->Ig,drop_drop->Te,getElem?_drop->Tf,getElem?_set_self->tD,drop_of_length_le->sP,take_of_length_le->rA,length_reverse->N9
open Go Go.W
abbrev sK (b:Nat) (u:Rt):En:=.c b u.c aB
theorem lhU {w:World} {k u:Rt} {b:Nat} (pk:k.P w) (pu:u.P w) (hb:w.heap[b]? =some (.cells u.c.toArray aB (0,0))):LH F0 w w [] [.tree k,.tree u,sK b u]:=mu _ (by
 intro e he
 simp only [cS,fF,or_false] at he
 rcases he with rfl|rfl|rfl
 .exact pk
 .exact pu
 .exact hb)
theorem IS (k u:Rt) (b:Nat) (w:World) (h:k.sz<=1000000) (pk:k.P w) (pu:u.P w) (hb:w.heap[b]? =some (.cells u.c.toArray aB (0,0))):Calls Tryz.prog gC #[k.v,.pointer (some (bD b))] w λr w'=>r=.returned (.bool (cQ k.rx u.rx==0))/\bG w w':=by
 refine regex_flat_1.cU _ _ _ _ _ w _ ((lhU pk pu hb).bF λb2 w1 H1=>⟨_,_,_,u.s,H1.uA 2 0,H1.uA 2 1,H1.uA 2 2,H1.uA 2 3,H1.aK (vJ k u w1 h (H1.getD 0) (H1.getD 1)) ?_⟩)
 rintro _ w2 rfl H2
 exact ⟨_,rfl,rfl,H2.fr⟩
theorem Hf (k u:Rt) (b:Nat) (w:World) (h:k.sz<=1000000) (pk:k.P w) (pu:u.P w) (hb:w.heap[b]? =some (.cells u.c.toArray aB (0,0))):Calls Tryz.prog jC #[k.v,.pointer (some (bD b))] w λr w'=>r=.returned (.bool (cQ k.rx u.rx==0))/\bG w w':=by
 refine regex_forms_2_1_1.cU _ _ _ _ _ w _ ((lhU pk pu hb).bF λb2 w1 H1=>⟨_,_,_,u.s,H1.uA 2 0,H1.uA 2 1,H1.uA 2 2,H1.uA 2 3,H1.aK (vJ k u w1 h (H1.getD 0) (H1.getD 1)) ?_⟩)
 rintro _ w2 rfl H2
 exact ⟨_,rfl,rfl,H2.fr⟩
theorem Mu (k:Rt) (w:World) (pk:k.P w):Calls Tryz.prog kE #[k.v] w λr w'=>r=.returned k.v/\bG w w':=by
 refine regex_forms_1.cU _ _ _ _ w _ ((zV pk).bF λb1 w1 H1=>H1.bF λb2 w2 H2=>H2.aL λw3 H3=>⟨rfl,H3.fr⟩)
def yH (q:Rt->Bool):List Rt->Nat->Int
 |[],_=>-1
 |a::l,i=>if q a then (i:Int) else yH q l (i+1)
theorem E8 (q:Rt->Bool):∀(l:List Rt) (i:Nat),decide (yH q l i>=0)=l.any q
 |[],i=>rfl
 |a::l,i=>by
  unfold yH
  rw [List.any_cons]
  cases hq:q a with
  |true=>simp
  |false=>simpa using E8 q l (i+1)
theorem ya (s:Sl) (l:List Rt) (f:Fv) (q:Rt->Bool) (D:List En) (w:World) (hl:l.length<=1000000) (hr:jU 4 w s (l.flatMap Rt.c)) (hD:∀e∈D,e.P w) (hc:fK Tryz.prog f.n=true)
  (hf:∀w' t,t∈l->LH F0 w w' [] (Rt.row s l::D)->Calls Tryz.prog f.n (f.bs++#[t.v]++f.cs) w' λr uh=>r=.returned (.bool (q t))/\bG w' uh):
  Calls Tryz.prog cK #[s.v,f.v] w λr w'=>r=.returned (.int .i64 (yH q l 0))/\bG w w':=by
 have nr:=Rt.b0 hr
 have loop:∀(d i:Nat) (w1:World),i+d=l.length->yH q (l.drop i) i=yH q l 0->LH F0 w w1 [] (Rt.row s l::D)->slices_IndexFunc_sl_regex_Regex_regex_Regex.L0 s f ((s.n:Nat):Int) (i:Int) w1 λr w'=>r=.returned (.int .i64 (yH q l 0))/\bG w w':=by
  intro d
  induction d with
  |zero=>
   intro i w1 hi he H
   rw [sP (by omega)] at he
   exact slices_IndexFunc_sl_regex_Regex_regex_Regex.cC _ _ _ _ _ _ (aI (decide_eq_false (by omega)) ⟨by rw [<-he];rfl,H.fr⟩)
  |succ d qz=>
   intro i w1 hi he H
   have hg:l[i]? =some (l[i]'(by omega)):=g8 (by omega)
   rw [sC (by omega:i<l.length)] at he
   generalize l[i]'(by omega)=x at hg he
   refine slices_IndexFunc_sl_regex_Regex_regex_Regex.cC _ _ _ _ _ _ (aQ (decide_eq_true (by omega)) ⟨by omega,by omega,Rt.at' (H.getD 0) hg λp hp c=>⟨x.k,x.lo.toNat,x.hi.toNat,x.s,c.c0,c.c1,c.c2,c.c3,?_⟩⟩)
   rw [hc]
   refine (show hU true _ from ?_)
   refine H.call (hf w1 x (cR hg) H) ?_
   rintro _ w2 rfl H2
   have he:(if q x then (i:Int) else yH q (l.drop (i+1)) (i+1))=yH q l 0:=he
   refine ⟨_,rfl,bA (λhq=>⟨?_,H2.fr⟩) (λhq=>?_)⟩
   .rw [if_pos hq] at he
    rw [he]
   .rw [if_neg (by rw [hq];simp)] at he
    rw [aX _ (by omega)]
    exact qz (i+1) w2 (by omega) he H2
 refine slices_IndexFunc_sl_regex_Regex_regex_Regex.ok _ _ w _ (loop l.length 0 w (by omega) (by simp) (mu _ (λe he=>?_)))
 rcases cS.1 he with rfl|he
 .exact hr
 .exact hD e he
theorem zg (s:Sl) (l:List Rt) (f:Fv) (q:Rt->Bool) (D:List En) (w:World) (hl:l.length<=1000000) (hr:jU 4 w s (l.flatMap Rt.c)) (hD:∀e∈D,e.P w) (hc:fK Tryz.prog f.n=true)
  (hf:∀w' t,t∈l->LH F0 w w' [] (Rt.row s l::D)->Calls Tryz.prog f.n (f.bs++#[t.v]++f.cs) w' λr uh=>r=.returned (.bool (q t))/\bG w' uh):
  Calls Tryz.prog cZ #[s.v,f.v] w λr w'=>r=.returned (.bool (l.any q))/\bG w w':=by
 refine slices_ContainsFunc_sl_regex_Regex_regex_Regex.ok _ _ w _ ((ya s l f q D w hl hr hD hc hf).mono ?_)
 rintro _ w1 ⟨rfl,f1⟩
 refine ⟨_,rfl,?_,f1⟩
 rw [E8]
theorem BY (q:Rt->Bool):∀(l:List Rt) (k:Nat),(yH q l k=-1/\∀t∈l,q t=false)\/∃m a,l[m]? =some a/\q a=true/\yH q l k=((k+m:Nat):Int)/\∀t∈l.take m,q t=false
 |[],k=>.inl ⟨rfl,by simp⟩
 |a::l,k=>by
  unfold yH
  cases hq:q a with
  |true=>exact .inr ⟨0,a,rfl,hq,by simp,by simp⟩
  |false=>
   rcases BY q l (k+1) with ⟨h1,h2⟩|⟨m,x,h1,h2,h3,h4⟩
   .exact .inl ⟨by simpa using h1,by simpa [hq] using h2⟩
   .refine .inr ⟨m+1,x,by simpa using h1,h2,?_,?_⟩
    .simp only [h3,Bool.false_eq_true,if_false]
     omega
    .simp only [List.take_succ_cons,cS,forall_eq_or_imp]
     exact ⟨hq,h4⟩
section
variable {M:Nat->Prop} {w0 w:World} {L D:List En} {bs:List Nat}
theorem _root_.Go.W.LH.MG (H:LH M w0 w L D) (i:Nat) {P:Program} {g:FuncId} {args:Array Value} {A K:aD} {e:TypeId} {sz:Nat} {s:Sl} {xs:List Value} (hi:L[i]? =some (.row e sz s xs))
  (hc:Calls P g args w λr w'=>A r w'/\Fr (·∈aZ s) w w') (hk:∀r w',A r w'->(∀e':En,e'.P w'->(∀b∈e'.fp,b∈aZ s\/w.heap.size<=b)->LH M w0 w' (L.set i e') D)->K r w') (ke:∀b∈bs,En.g b∈L:=by simp):fE bs P g args w K:=
 ⟨(·∈aZ s),λb hb=>H.vZ hi (ke b hb),hc.mono λr w' ⟨ha,f⟩=>⟨f,hk r w' ha λe' he hf=>H.D2 i e' hi f he hf⟩⟩
theorem _root_.Go.W.LH.off (H:LH M w0 w L D) (i j:Nat) {e:TypeId} {sz:Nat} {s:Sl} {xs:List Value} {d:En} (hi:L[i]? =some (.row e sz s xs):=by rfl) (hj:D[j]? =some d:=by rfl):∀x∈aZ s,x∉d.fp:=λx hx hd=>
 H.dj d (cR hj) x hd _ (cR hi) hx
end
def Ma (s:Sl) (l:List Rt) (r:Ending) (w w':World):Prop:=∃s':Sl,r=.returned s'.v/\aO w' aB 4 s' (l.flatMap Rt.c)/\∀x∈aZ s',x∈aZ s
theorem lhR {w:World} {s:Sl} {l:List Rt} (D:List En) (ho:aO w aB 4 s (l.flatMap Rt.c)) (h:∀e∈D,e.P w/\∀x∈aZ s,x∉e.fp):LH (·∈aZ s) w w [.row aB 4 s (l.flatMap Rt.c)] D:=
 LH.xS _ _ (by
  intro e he
  simp only [cS,fF,or_false] at he
  subst he
  exact ⟨ho,λb hb=>hb⟩) (by
  simp only [vw,List.flatMap_nil,Cf]
  exact (En.row aB 4 s (l.flatMap Rt.c)).nd) (λe he=>⟨(h e he).1,λb hb e' mG=>by
  simp only [cS,fF,or_false] at mG
  subst mG
  exact λhx=>(h e he).2 b hx hb⟩)
theorem uH {α:Type} {l:List α} {i:Nat} {a:α} (h:i<l.length):(l.set i a).take (i+1)=l.take i++[a]:=by
 rw [GN,tD h,List.take_set_of_le (Nat.le_refl _)]
 rfl
theorem CO (s:Sl) (l:List Rt) (u:Rt) (b:Nat) (w:World) (hl:Rt.fQ l<=1000000) (ho:aO w aB 4 s (l.flatMap Rt.c)) (pl:Rt.Ps w l) (pu:u.P w) (hb:w.heap[b]? =some (.cells u.c.toArray aB (0,0)))
  (hd:∀x∈aZ s,x∉Rt.gV l/\x∉u.fp/\x≠b):
  Calls Tryz.prog dH #[s.v,.func (.func gC) #[] #[.pointer (some (bD b))]] w λr w'=>Ma s (l.filter λt=>!(cQ t.rx u.rx==0)) r w w'/\Fr (·∈aZ s) w w':=by
 have nr:=Rt.b0 ho.iD
 have ll:=Rt.fG l
 have kt:∀t∈l,t.sz<=1000000:=λt ht=>Nat.le_trans (Rt.dQ ht) hl
 have H:LH (·∈aZ s) w w [.row aB 4 s (l.flatMap Rt.c)] [.trees l,.tree u,sK b u]:=lhR _ ho (by
  intro e he
  simp only [cS,fF,or_false] at he
  rcases he with rfl|rfl|rfl
  .exact ⟨pl,λx hx hm=>(hd x hx).1 (aH.1 hm)⟩
  .exact ⟨pu,λx hx hm=>(hd x hx).2.1 (aH.1 hm)⟩
  .exact ⟨hb,λx hx hm=>(hd x hx).2.2 (by simpa [sK,En.c,En.ob] using hm)⟩)
 have loop:∀(d i j:Nat) (cur:List Rt) (w1:World),j+d=l.length->i<j->cur.length=l.length->cur.drop j=l.drop j->cur.take i=(l.take j).filter (λt=>!(cQ t.rx u.rx==0))->LH (·∈aZ s) w w1 [.row aB 4 s (cur.flatMap Rt.c)] [.trees l,.tree u,sK b u]->
   slices_DeleteFunc_sl_regex_Regex_regex_Regex.eE s (bD b) (i:Int) (j:Int) w1 λr w'=>Ma s (l.filter λt=>!(cQ t.rx u.rx==0)) r w w'/\Fr (·∈aZ s) w w':=by
  intro d
  induction d with
  |zero=>
   intro i j cur w1 hj yG hc yU O3 H1
   refine slices_DeleteFunc_sl_regex_Regex_regex_Regex.aY _ _ _ _ _ _ (aI (decide_eq_false (by omega)) ⟨by omega,by omega,?_⟩)
   have KF:=(H1.get 0:aO _ _ _ _ _).cap
   obtain ⟨w2,h1,h2,h3⟩:=I0 (ty:=Lt) zv TY rfl (H1.get 0) i (by omega)
   refine ⟨w2,h1,by omega,by omega,⟨⟨if s.c=0 then s.a else s.a.map (·.add (0 *4)),i - 0,s.c - 0⟩,rfl,?_,λx hx=>?_⟩,H1.fr.trans h3 λx _ h=>h⟩
   .have e:(cur.flatMap Rt.c).take (i *4)=(l.filter λt=>!(cQ t.rx u.rx==0)).flatMap Rt.c:=by
     have e1:(cur.flatMap Rt.c).take (i *4)=(cur.take i).flatMap Rt.c:=by
      have:=Rt.iT (cur.take i)
      conv=>lhs;rw [<-Lb i cur,r8]
      rw [List.take_append_of_le_length (by rw [this,Cg];omega),rA (by rw [this,Cg];omega)]
     rw [e1,O3,rA (by omega)]
    rw [<-e]
    exact h2
   .simp only [aZ] at hx ⊢
    split at hx
    .rename_i p hp
     split at hp
     .rw [hp];exact hx
     .cases Ba:s.a with
      |none=>rw [Ba] at hp;cases hp
      |some q=>
       rw [Ba] at hp
       simp only [Option.map_some,Option.some.injEq] at hp
       subst hp
       rw [gP] at hx
       exact hx
    .cases hx
  |succ d qz=>
   intro i j cur w1 hj yG hc yU O3 H1
   have hg:l[j]? =some (l[j]'(by omega)):=g8 (by omega)
   generalize hxe:l[j]'(by omega)=a at hg
   have Y3:cur[j]? =some a:=by
    have:(cur.drop j)[0]? =(l.drop j)[0]?:=by rw [yU]
    simpa [Tf,hg] using this
   have ha:=cR hg
   have SE:l.take (j+1)=l.take j++[a]:=by rw [GN,hg];rfl
   refine slices_DeleteFunc_sl_regex_Regex_regex_Regex.aY _ _ _ _ _ _ (aQ (decide_eq_true (by omega)) ⟨by omega,by omega,Ic (H1.get 0) Y3 λp hp c=>⟨a.k,a.lo.toNat,a.hi.toNat,a.s,c.c0,c.c1,c.c2,c.c3,?_⟩⟩)
   refine H1.bF (λb7 w2 H2=>H2.aL λw3 H3=>?_)
   refine H3.aK (IS a u b w3 (kt a ha) ((show Rt.Ps w3 l from H3.getD 0).mem ha) (H3.getD 1) (H3.getD 2)) ?_
   rintro _ w4 rfl H4
   refine ⟨_,rfl,eT (λhf=>⟨by omega,by omega,?_⟩) (λht=>?_)⟩
   .rw [hp]
    refine (show aW (some p) _ from ?_)
    refine H4.Yv 0 i (t:=a) (ts:=cur) rfl hp (by omega) (λw5 H5=>?_)
    show slices_DeleteFunc_sl_regex_Regex_regex_Regex.eE _ _ _ _ _ _
    rw [aX _ (by omega),aX _ (by omega)]
    refine qz (i+1) (j+1) (cur.set i a) w5 (by omega) (by omega) (by simpa using hc) ?_ ?_ (H5.take 1)
    .rw [List.drop_set_of_lt (by omega),<-Te,yU,Te]
    .rw [uH (by omega),O3,SE,List.filter_append]
     simp [hf]
   .show slices_DeleteFunc_sl_regex_Regex_regex_Regex.eE _ _ _ _ _ _
    rw [aX _ (by omega)]
    refine qz i (j+1) cur w4 (by omega) (by omega) hc ?_ ?_ (H4.take 1)
    .rw [<-Te,yU,Te]
    .rw [O3,SE,List.filter_append]
     simp [ht]
 refine slices_DeleteFunc_sl_regex_Regex_regex_Regex.cU _ _ w _ ?_
 have hI:=ya s l ⟨gC,#[],#[.pointer (some (bD b))]⟩ (λt=>cQ t.rx u.rx==0) [.trees l,.tree u,sK b u] w (by omega) ho.iD (H.rd) (by kernel_rfl) (λw' t ht H'=>IS t u b w' (kt t ht) ((show Rt.Ps w' l from H'.getD 1).mem ht) (H'.getD 2) (H'.getD 3))
 refine H.call hI ?_
 rintro _ w1 rfl H1
 rcases BY (λt=>cQ t.rx u.rx==0) l 0 with ⟨h1,h2⟩|⟨m,a,h1,h2,h3,h4⟩
 .refine ⟨_,rfl,aQ (by rw [h1];rfl) ⟨⟨s,rfl,?_,λx hx=>hx⟩,H1.fr⟩⟩
  rw [List.filter_eq_self.2 (λt ht=>by rw [h2 t ht];rfl)]
  exact H1.get 0
 .have hm:m<l.length:=(ov.1 h1).1
  refine ⟨_,rfl,aI (by rw [h3];exact beq_eq_false_iff_ne.2 (by omega)) ?_⟩
  rw [h3,Nat.zero_add,aX _ (by omega)]
  refine loop (l.length - (m+1)) m (m+1) l w1 (by omega) (by omega) rfl rfl ?_ H1
  rw [GN,h1,List.filter_append,List.filter_eq_self.2 (λt ht=>by rw [h4 t ht];rfl)]
  simp only [Option.toList_some,List.filter_cons,h2]
  simp
def iR (x k:Rt):List Rt:=if k.k=x.k then k.l else [k]
def Ny (u:Rt) (t:Rt):Bool:=!(cQ t.rx u.rx==0)
def kW (x u:Rt):List Rt:=(x.l.flatMap (iR x)).filter (Ny u)
structure Sub (x:Rt) (l:List Rt):Prop where
 P:∀w:World,x.P w->∀t∈l,t.P w
 fp:∀t∈l,∀b∈t.fp,b∈x.fp
theorem Sub.part {x:Rt} {t:Rt} (h:t∈x.l):Sub x [t]:=⟨λw px t' ht=>by
  simp at ht;subst ht;exact px.parts.2.mem h,λt' ht b hb=>by
  simp at ht;subst ht;exact Rt.eO.2 (.inr (Rt.bC.2 ⟨_,h,hb⟩))⟩
theorem Sub.open {x k:Rt} (h:k∈x.l):Sub x (iR x k):=by
 unfold iR
 split
 .exact ⟨λw px t ht=>((px.parts.2.mem h).parts.2).mem ht,λt ht b hb=>Rt.eO.2 (.inr (Rt.bC.2 ⟨k,h,Rt.eO.2 (.inr (Rt.bC.2 ⟨t,ht,hb⟩))⟩))⟩
 .exact .part h
theorem Sub.flat {x:Rt} {l:List Rt} (h:∀k∈l,k∈x.l):Sub x (l.flatMap (iR x)):=⟨λw px t ht=>by
  obtain ⟨k,hk,ht⟩:=mI.1 ht
  exact (Sub.open (h k hk)).P w px t ht,λt ht=>by
  obtain ⟨k,hk,ht⟩:=mI.1 ht
  exact (Sub.open (h k hk)).fp t ht⟩
theorem Sub.sub {x:Rt} {l m:List Rt} (h:Sub x l) (hs:∀t∈m,t∈l):Sub x m:=⟨λw px t ht=>h.P w px t (hs t ht),λt ht=>h.fp t (hs t ht)⟩
theorem Sub.Ps {x:Rt} {l:List Rt} (h:Sub x l) {w:World} (px:x.P w):Rt.Ps w l:=Rt.oX (h.P w px)
theorem Sub.gV {x:Rt} {l:List Rt} (h:Sub x l) {b:Nat} (hb:b∈Rt.gV l):b∈x.fp:=by
 obtain ⟨t,ht,hb⟩:=Rt.bC.1 hb
 exact h.fp t ht b hb
theorem Sub.kW (x u:Rt):Sub x (kW x u):=(Sub.flat (λ_ h=>h)).sub λ_ h=>(List.mem_filter.1 h).1
theorem rF (x:Rt):∀l:List Rt,Rt.fQ (l.flatMap (iR x))<=Rt.fQ l
 |[]=>Nat.le_refl _
 |k::l=>by
  have h1:Rt.fQ (iR x k)<=k.sz:=by
   unfold iR
   split
   .rw [Rt.gE k];omega
   .simp [Rt.fQ]
  rw [vw,uf]
  have:=rF x l
  show _<=k.sz+Rt.fQ l
  omega
theorem Az (q:Rt->Bool):∀l:List Rt,Rt.fQ (l.filter q)<=Rt.fQ l
 |[]=>Nat.le_refl _
 |k::l=>by
  have:=Az q l
  rw [List.filter_cons]
  split
  .unfold Rt.fQ;omega
  .show _<=k.sz+Rt.fQ l;omega
theorem Lp (x u:Rt):Rt.fQ (kW x u)+1<=x.sz:=by
 have h1:=Az (Ny u) (x.l.flatMap (iR x))
 have h2:=rF x x.l
 rw [Rt.gE x]
 unfold kW
 omega
def T8 (w:World) (l:List Rt) (r:Ending) (w':World):Prop:=∃s':Sl,r=.returned s'.v/\aO w' aB 4 s' (l.flatMap Rt.c)/\∀x∈aZ s',w.heap.size<=x
theorem Ul (x u:Rt) (w:World) (h:x.sz<=1000000) (px:x.P w) (pu:u.P w):Calls Tryz.prog rX #[x.v,u.v] w λr w'=>T8 w (kW x u) r w'/\bG w w':=by
 have hs:=Rt.gE x
 have hl:=Rt.fG x.l
 have nr:=Rt.b0 px.parts.1
 have loop:∀(d i:Nat) (acc:List Rt) (sl:Sl) (b2 bu:Nat) (w1:World),i+d=x.l.length->acc=(x.l.take i).flatMap (iR x)->LH F0 w w1 [.g b2,.c bu u.c aB,.row aB 4 sl (acc.flatMap Rt.c)] [.tree x,.tree u]->
   regex_flat.eE b2 x.k x.lo.toNat x.hi.toNat x.s (bD bu) sl x.s ((x.s.n:Nat):Int) (i:Int) w1 λr w'=>T8 w (kW x u) r w'/\bG w w':=by
  intro d
  induction d with
  |zero=>
   intro i acc sl b2 bu w1 hi ha H
   have HC:Sub x acc:=by rw [ha];exact Sub.flat λk hk=>List.mem_of_mem_take hk
   have mH:Rt.fQ acc<=Rt.fQ x.l:=by
    rw [ha,rA (by omega)]
    exact rF x x.l
   refine regex_flat.aY _ _ _ _ _ _ _ _ _ _ _ _ (aI (decide_eq_false (by omega)) ?_)
   refine H.MG 2 rfl (CO sl acc u bu w1 (by omega) (H.get 2) (HC.Ps (H.getD 0)) (H.getD 1) (H.ob 1) (λy hy=>⟨λhm=>H.off 2 0 rfl rfl y hy (aH.2 (HC.gV hm)),λhm=>H.off 2 1 rfl rfl y hy (aH.2 hm),λhm=>?_⟩)) ?_
   .exact pQ H.nd (i:=2) rfl (j:=1) rfl (by omega) y hy (by simp [En.c,En.ob,hm])
   rintro _ w2 ⟨s',rfl,ho,hb⟩ hH
   have H2:=hH (.row aB 4 s' ((acc.filter (Ny u)).flatMap Rt.c)) ho λb eG=>.inl (hb b eG)
   refine ⟨s',rfl,⟨s',rfl,?_,λb eG=>(H2.new _ (cR (i:=2) rfl) b eG).resolve_right id⟩,H2.fr⟩
   rw [ha,rA (by omega)] at ho
   exact ho
  |succ d qz=>
   intro i acc sl b2 bu w1 hi ha H
   have hg:x.l[i]? =some (x.l[i]'(by omega)):=g8 (by omega)
   generalize x.l[i]'(by omega)=a at hg
   have hm:=cR hg
   have K7:x.P w1:=H.getD 0
   have DN:=Rt.dQ hm
   have mH:Rt.fQ acc<=Rt.fQ x.l:=by
    have h1:=rF x (x.l.take i)
    have h2:=qP x.l i
    rw [ha];omega
   have hnx:acc++iR x a=(x.l.take (i+1)).flatMap (iR x):=by rw [GN,hg,r8,ha];simp
   have vb:=Rt.b0 (H.get 2:aO _ _ _ _ _).iD
   have Jh:=Rt.fG acc
   have tail:∀(s':Sl) (w':World),LH F0 w w' [.g b2,.c bu u.c aB,.row aB 4 s' ((acc++iR x a).flatMap Rt.c)] [.tree x,.tree u]->regex_flat.gm b2 x.k x.lo.toNat x.hi.toNat x.s (bD bu) s' x.s ((x.s.n:Nat):Int) (i:Int) w' λr w'=>T8 w (kW x u) r w'/\bG w w':=by
    intro s' w' H'
    show regex_flat.eE _ _ _ _ _ _ _ _ _ _ _ _
    rw [aX _ (by omega)]
    exact qz (i+1) _ s' b2 bu w' (by omega) hnx H'
   refine regex_flat.aY _ _ _ _ _ _ _ _ _ _ _ _ (aQ (decide_eq_true (by omega)) ⟨by omega,by omega,Rt.at' K7.parts.1 hg λp hp c=>⟨_,_,_,_,c.c0,c.c1,c.c2,c.c3,?_⟩⟩)
   refine H.bF λb7 w2 H2=>aJ (λhk=>H2.aL λw3 H3=>?_) (λhk=>H2.aL λw3 H3=>?_)
   .have pa:a.P w3:=(show x.P w3 from H3.getD 0).parts.2.mem hm
    have na:=Rt.b0 pa.parts.1
    have Jh:=Rt.fG a.l
    have Ba:=Rt.gE a
    refine H3.Kc 2 zv (xs:=acc.flatMap Rt.c) (src:=a.s) (news:=a.l.flatMap Rt.c) rfl pa.parts.1 (BC _) (by omega) (λs' w4 H4=>?_)
    refine tail s' w4 ?_
    have e:iR x a=a.l:=if_pos hk
    rw [e,r8]
    exact H4.take 3
   .refine H3.uj 2 zv (xs:=acc.flatMap Rt.c) rfl (λs' w4 H4=>?_) (by omega)
    refine tail s' w4 ?_
    have e:iR x a=[a]:=if_neg hk
    rw [e,mV]
    exact H4.take 3
 refine regex_flat.cU _ _ _ _ _ _ _ _ w _ ((mu [.tree x,.tree u] (by
  intro e he
  simp only [cS,fF,or_false] at he
  rcases he with rfl|rfl
  .exact px
  .exact pu)).bF λb2 w1 H1=>H1.nw λw2 _ H2=>?_)
 exact loop x.l.length 0 [] ⟨none,0,0⟩ b2 w1.heap.size w2 (by omega) rfl (H2.n7 aB 4)
theorem zq (a b:Int):gM b a=-gM a b:=by
 have s:∀a b:Int,(gM a b=-1/\a<b)\/(gM a b=1/\b<a)\/(gM a b=0/\a=b):=λa b=>by
  unfold gM
  split
  .exact .inl ⟨rfl,by omega⟩
  .split
   .exact .inr (.inl ⟨rfl,by omega⟩)
   .exact .inr (.inr ⟨rfl,by omega⟩)
 rcases s a b with h1|h1|h1<;>rcases s b a with h2|h2|h2<;>omega
theorem Dy (c d:Int) (l m:List Int) (h:d=-c) (hl:tC m=-tC l):tC (d::m)=-tC (c::l):=by
 show (if d≠0 then d else tC m)=-(if c≠0 then c else tC l)
 split
 .rw [if_pos (by omega)];exact h
 .rw [if_neg (by omega)];exact hl
theorem wz (c:Int):tC [c]=c:=by
 show (if c≠0 then c else 0)=c
 split<;>omega
theorem tV (k:Int) (lo hi:UInt8) (l:List Rx) (b:Rx):cQ (.mk k lo hi l) b=tC [gM k b.k,gM lo.toNat b.lo.toNat,gM hi.toNat b.hi.toNat,cmpL l b.l]:=by
 unfold cQ
 generalize gM k b.k=c0
 generalize gM lo.toNat b.lo.toNat=c1
 generalize gM hi.toNat b.hi.toNat=c2
 generalize cmpL l b.l=c3
 simp only [tC]
 by_cases h0:c0=0
 .by_cases h1:c1=0
  .by_cases h2:c2=0
   .by_cases h3:c3=0<;>simp [h0,h1,h2,h3]
   .simp [h0,h1,h2]
  .simp [h0,h1]
 .simp [h0]
mutual
theorem rj:∀a b:Rx,cQ b a=-cQ a b
 |.mk k lo hi l,.mk k' vu wV l'=>by
  rw [tV,tV]
  exact Dy _ _ _ _ (zq _ _) (Dy _ _ _ _ (zq _ _) (Dy _ _ _ _ (zq _ _) (by rw [wz,wz];exact Ey l l')))
theorem Ey:∀a b:List Rx,cmpL b a=-cmpL a b
 |[],[]=>by unfold cmpL;rfl
 |[],_::_=>by unfold cmpL;rfl
 |_::_,[]=>by unfold cmpL;rfl
 |x::l,y::m=>by
  have h1:=rj x y
  have h2:=Ey l m
  show (if cQ y x≠0 then cQ y x else cmpL m l)=-(if cQ x y≠0 then cQ x y else cmpL l m)
  split
  .rw [if_pos (by omega)];exact h1
  .rw [if_neg (by omega)];exact h2
end
structure T' (x y z:Int):Prop where
 le:x<=0->y<=0->z<=0
 lt:x<0->y<=0->z<0
 lt':x<=0->y<0->z<0
 eq:x=0->y=0->z=0
theorem zr (a b c:Int):T' (gM a b) (gM b c) (gM a c):=by
 have s:∀a b:Int,(gM a b=-1/\a<b)\/(gM a b=1/\b<a)\/(gM a b=0/\a=b):=λa b=>by
  unfold gM
  split
  .exact .inl ⟨rfl,by omega⟩
  .split
   .exact .inr (.inl ⟨rfl,by omega⟩)
   .exact .inr (.inr ⟨rfl,by omega⟩)
 rcases s a b with h1|h1|h1<;>rcases s b c with h2|h2|h2<;>rcases s a c with h3|h3|h3<;>constructor<;>omega
theorem DQ {x y z x' y' z':Int} (h:T' x y z) (h':T' x' y' z'):T' (if x≠0 then x else x') (if y≠0 then y else y') (if z≠0 then z else z'):=by
 obtain ⟨a1,a2,a3,a4⟩:=h
 obtain ⟨b1,b2,b3,b4⟩:=h'
 by_cases hx:x=0
 .by_cases hy:y=0
  .have hz:=a4 hx hy
   rw [if_neg (by omega),if_neg (by omega),if_neg (by omega)]
   exact ⟨b1,b2,b3,b4⟩
  .rw [if_neg (by omega:¬x≠0),if_pos hy]
   constructor
   .intro h1 h2;have:=a3 (by omega) (by omega);rw [if_pos (by omega)];omega
   .intro h1 h2;have:=a3 (by omega) (by omega);rw [if_pos (by omega)];omega
   .intro h1 h2;have:=a3 (by omega) (by omega);rw [if_pos (by omega)];omega
   .intro h1 h2;omega
 .rw [if_pos hx]
  by_cases hy:y=0
  .rw [if_neg (by omega:¬y≠0)]
   constructor
   .intro h1 h2;have:=a2 (by omega) (by omega);rw [if_pos (by omega)];omega
   .intro h1 h2;have:=a2 (by omega) (by omega);rw [if_pos (by omega)];omega
   .intro h1 h2;have:=a2 (by omega) (by omega);rw [if_pos (by omega)];omega
   .intro h1 h2;omega
  .rw [if_pos hy]
   constructor
   .intro h1 h2;have:=a2 (by omega) (by omega);rw [if_pos (by omega)];omega
   .intro h1 h2;have:=a2 (by omega) (by omega);rw [if_pos (by omega)];omega
   .intro h1 h2;have:=a2 (by omega) (by omega);rw [if_pos (by omega)];omega
   .intro h1 h2;omega
mutual
theorem vO:∀a b c:Rx,T' (cQ a b) (cQ b c) (cQ a c)
 |.mk k lo hi l,.mk k' vu wV l',.mk k2 lo2 GK l2=>by
  rw [tV,tV,tV]
  have:=Ez l l' l2
  exact DQ (zr _ _ _) (DQ (zr _ _ _) (DQ (zr _ _ _) (by
   show T' (tC [cmpL l l']) (tC [cmpL l' l2]) (tC [cmpL l l2])
   rw [wz,wz,wz]
   exact this)))
theorem Ez:∀a b c:List Rx,T' (cmpL a b) (cmpL b c) (cmpL a c)
 |[],[],[]=>by unfold cmpL;constructor<;>omega
 |[],[],_::_=>by unfold cmpL;constructor<;>omega
 |[],_::_,[]=>by unfold cmpL;constructor<;>omega
 |_::_,[],[]=>by unfold cmpL;constructor<;>omega
 |_::_,[],_::_=>by
  have e1:∀(x:Rx) (l:List Rx),cmpL (x::l) []=1:=λ_ _=>rfl
  have e2:∀(x:Rx) (l:List Rx),cmpL [] (x::l)=-1:=λ_ _=>rfl
  rw [e1,e2]
  constructor<;>omega
 |[],y::m,z::n=>by
  have e2:∀(x:Rx) (l:List Rx),cmpL [] (x::l)=-1:=λ_ _=>rfl
  rw [e2,e2]
  constructor<;>omega
 |x::l,y::m,[]=>by
  have e1:∀(x:Rx) (l:List Rx),cmpL (x::l) []=1:=λ_ _=>rfl
  rw [e1,e1]
  constructor<;>omega
 |x::l,y::m,z::n=>DQ (vO x y z) (Ez l m n)
end
def yI (x:Rx):List Rx->List Rx
 |[]=>[x]
 |y::p=>if cQ x y<0 then y::yI x p else x::y::p
def qO (l:List Rx):List Rx:=(l.foldl (λp x=>yI x p) []).reverse
def kT (p:Rx):List Rx->List Rx
 |[]=>[]
 |x::l=>if cQ x p==0 then kT x l else x::kT x l
def zu:List Rx->List Rx
 |[]=>[]
 |a::l=>a::kT a l
theorem xh {a b:Int} (h:gM a b=0):a=b:=by
 unfold gM at h
 split at h
 .cases h
 .split at h
  .cases h
  .omega
theorem FC:∀{l:List Int},tC l=0->∀x∈l,x=0
 |[],_=>λx hx=>by cases hx
 |a::l,h=>by
  unfold tC at h
  split at h
  .rename_i ie;exact absurd h ie
  .rename_i he
   have he:a=0:=by simpa using he
   intro x hx
   rcases cS.1 hx with rfl|hx
   .exact he
   .exact FC h x hx
theorem ON {a b:UInt8} (h:(a.toNat:Int)=b.toNat):a=b:=UInt8.toNat_inj.1 (by omega)
mutual
theorem cmp_eq:∀a b:Rx,cQ a b=0->a=b
 |.mk k lo hi l,.mk k' vu wV l',h=>by
  rw [tV] at h
  have h:=FC h
  have h1:=xh (h _ (Bi ..))
  have h2:=ON (xh (h _ (lr _ (Bi ..))))
  have h3:=ON (xh (h _ (lr _ (lr _ (Bi ..)))))
  have h4:=IX l l' (h _ (lr _ (lr _ (lr _ (Bi ..)))))
  simp only [Rx.k,Rx.lo,Rx.hi] at h1 h2 h3
  rw [h1,h2,h3,h4]
theorem IX:∀l m:List Rx,cmpL l m=0->l=m
 |[],[],_=>rfl
 |[],_::_,h=>by unfold cmpL at h;cases h
 |_::_,[],h=>by unfold cmpL at h;cases h
 |a::l,b::m,h=>by
  unfold cmpL at h
  split at h
  .rename_i ie;exact absurd h ie
  .rename_i he
   rw [cmp_eq a b (by simpa using he),IX l m h]
end
theorem zt (a:Rx):cQ a a=0:=by have:=rj a a;omega
theorem rL {a b:Rx}:(cQ a b==0)=true↔a=b:=⟨λh=>cmp_eq a b (eq_of_beq h),λh=>by subst h;rw [zt];rfl⟩
theorem s8 {a b:Rx}:cQ a b=0↔a=b:=⟨cmp_eq a b,λh=>by subst h;exact zt a⟩
theorem MP {a b:Rx}:(!(cQ a b==0))=true↔a≠b:=by rw [Bool.not_eq_true',<-Bool.not_eq_true,not_congr rL]
abbrev GF (l:List Rx):Prop:=l.Pairwise λa b=>cQ a b<0
abbrev O8 (l:List Rx):Prop:=l.Pairwise λa b=>cQ a b<=0
theorem GF.nodup {l:List Rx} (h:GF l):l.Nodup:=List.nodup_iff_pairwise_ne.2 (h.imp λ{a b} Hz e=>by subst e;rw [zt] at Hz;omega)
theorem GF.asc {l:List Rx} (h:GF l):O8 l:=h.imp λ{a b} Hz=>by omega
theorem y9 {l m:List Rx} (hl:O8 l) (hm:O8 m) (h:l.Perm m):l=m:=List.Perm.eq_of_pairwise (λa b _ _ h1 h2=>cmp_eq a b (by have:=rj a b;omega)) hl hm h
theorem HO {l m:List Rx} (hl:GF l) (hm:GF m) (h:∀t,t∈l↔t∈m):l=m:=y9 hl.asc hm.asc ((List.perm_ext_iff_of_nodup hl.nodup hm.nodup).2 h)
theorem xA (x:Rx):∀p:List Rx,(yI x p).Perm (x::p)
 |[]=>.refl _
 |y::p=>by
  unfold yI
  split
  .exact ((xA x p).cons y).trans (.swap x y p)
  .exact .refl _
theorem B0 (x:Rx):∀{p:List Rx},p.Pairwise (λa b=>cQ b a<=0)->(yI x p).Pairwise λa b=>cQ b a<=0
 |[],_=>by unfold yI;simp
 |y::p,h=>by
  have hp:=List.pairwise_cons.1 h
  unfold yI
  split
  .rename_i XQ
   refine List.pairwise_cons.2 ⟨λt ht=>?_,B0 x hp.2⟩
   rcases cS.1 ((xA x p).mem_iff.1 ht) with rfl|ht
   .omega
   .exact hp.1 t ht
  .rename_i XQ
   have hyx:cQ y x<=0:=by have:=rj x y;omega
   refine List.pairwise_cons.2 ⟨λt ht=>?_,h⟩
   rcases cS.1 ht with rfl|ht
   .exact hyx
   .exact (vO t y x).le (hp.1 t ht) hyx
theorem vl (l:List Rx):(qO l).Perm l:=by
 have:∀(l p:List Rx),(l.foldl (λp x=>yI x p) p).Perm (l++p):=by
  intro l
  induction l with
  |nil=>intro p;exact .refl _
  |cons a l ih=>
   intro p
   rw [List.foldl_cons]
   exact (ih _).trans (((xA a p).append_left l).trans List.perm_middle)
 unfold qO
 have h:=this l []
 rw [Cf] at h
 exact (List.reverse_perm _).trans h
theorem xR (l:List Rx):O8 (qO l):=by
 have:∀(l p:List Rx),p.Pairwise (λa b=>cQ b a<=0)->(l.foldl (λp x=>yI x p) p).Pairwise λa b=>cQ b a<=0:=by
  intro l
  induction l with
  |nil=>intro p h;exact h
  |cons a l ih=>intro p h;exact ih _ (B0 a h)
 unfold qO
 exact List.pairwise_reverse.2 (this l [] .nil)
theorem Oq {l m:List Rx} (h:O8 m) (hp:m.Perm l):m=qO l:=y9 h (xR l) (hp.trans (vl l).symm)
theorem td {t:Rx}:∀{l:List Rx} {p:Rx},(t=p\/t∈kT p l)↔(t=p\/t∈l)
 |[],p=>by unfold kT;simp
 |x::l,p=>by
  unfold kT
  split
  .rename_i h
   have e:x=p:=rL.1 h
   subst e
   rw [td,cS]
   constructor
   .rintro (h|h)<;>simp [h]
   .rintro (h|h|h)<;>simp [h]
  .rw [cS,cS]
   have:=td (t:=t) (l:=l) (p:=x)
   constructor
   .rintro (h|h)
    .exact .inl h
    .exact .inr (this.1 h)
   .rintro (h|h)
    .exact .inl h
    .exact .inr (this.2 h)
theorem s9:∀{l:List Rx} {p:Rx},O8 (p::l)->GF (p::kT p l)
 |[],p,_=>by unfold kT;simp
 |x::l,p,h=>by
  obtain ⟨h1,h2⟩:=List.pairwise_cons.1 h
  unfold kT
  split
  .rename_i hx
   have e:x=p:=rL.1 hx
   subst e
   exact s9 h2
  .rename_i hx
   have lV:cQ p x<0:=by
    have h3:=h1 x (by simp)
    have h4:=rj x p
    have h5:cQ x p≠0:=λe=>hx (by rw [e];rfl)
    omega
   have hi:=s9 h2
   refine List.pairwise_cons.2 ⟨λt ht=>?_,hi⟩
   rcases cS.1 ht with rfl|ht
   .exact lV
   .exact (vO p x t).lt lV (by have:=(List.pairwise_cons.1 hi).1 t ht;omega)
theorem Ko {l:List Rx} (h:O8 l):GF (zu l):=by
 cases l with
 |nil=>exact .nil
 |cons a l=>exact s9 h
theorem Kp {t:Rx} {l:List Rx}:t∈zu l↔t∈l:=by
 cases l with
 |nil=>exact Iff.rfl
 |cons a l=>show t∈a::kT a l↔_;rw [cS,cS];exact td
def Lh (l:List Rx):List Rx:=zu (qO l)
theorem FT (l:List Rx):GF (Lh l):=Ko (xR l)
theorem FU {t:Rx} {l:List Rx}:t∈Lh l↔t∈l:=by unfold Lh;rw [Kp,(vl l).mem_iff]
def xL (r:Rx):List Rx->List Rx
 |[]=>[r]
 |y::p=>if cQ y r<0 then y::xL r p else if cQ y r=0 then y::p else r::y::p
theorem Ad {t r:Rx}:∀{p:List Rx},t∈xL r p↔t=r\/t∈p
 |[]=>by unfold xL;simp
 |y::p=>by
  unfold xL
  split
  .rw [cS,Ad,cS]
   constructor
   .rintro (h|h|h)<;>simp [h]
   .rintro (h|h|h)<;>simp [h]
  .split
   .rename_i he
    have e:=cmp_eq y r he
    subst e
    simp
   .simp
theorem FL {r:Rx}:∀{p:List Rx},GF p->GF (xL r p)
 |[],_=>by unfold xL;simp
 |y::p,h=>by
  obtain ⟨h1,h2⟩:=List.pairwise_cons.1 h
  unfold xL
  split
  .rename_i hy
   refine List.pairwise_cons.2 ⟨λt ht=>?_,FL h2⟩
   rcases Ad.1 ht with rfl|ht
   .exact hy
   .exact h1 t ht
  .split
   .exact h
   .rename_i hy ie
    have hr:cQ r y<0:=by have:=rj r y;omega
    refine List.pairwise_cons.2 ⟨λt ht=>?_,h⟩
    rcases cS.1 ht with rfl|ht
    .exact hr
    .exact (vO r y t).lt hr (by have:=h1 t ht;omega)
def qC (k:Int):List Rx->List Rx->List Rx
 |out,[]=>out
 |out,t::l=>qC k (if k=3 then out++[t] else xL t out) l
theorem FD:∀(l out:List Rx),qC 3 out l=out++l
 |[],out=>by unfold qC;simp
 |t::l,out=>by unfold qC;rw [FD l,if_pos rfl];simp
theorem FE {k:Int} (hk:k≠3):∀(l:List Rx) {out:List Rx},GF out->GF (qC k out l)
 |[],_,h=>h
 |t::l,out,h=>by unfold qC;rw [if_neg hk];exact FE hk l (FL h)
theorem FF {k:Int} (hk:k≠3) {t:Rx}:∀(l:List Rx) {out:List Rx},t∈qC k out l↔t∈out\/t∈l
 |[],out=>by unfold qC;simp
 |a::l,out=>by
  unfold qC
  rw [if_neg hk,FF hk l,Ad,cS]
  constructor
  .rintro ((h|h)|h)<;>simp [h]
  .rintro (h|h|h)<;>simp [h]
theorem QV (k:Int) (l:List Rx):qC k [] l=if k=3 then l else Lh l:=by
 split
 .rename_i h;subst h;rw [FD];rfl
 .rename_i h
  exact HO (FE h l .nil) (FT l) λt=>by rw [FF h,FU];simp
def ms (μ:Rx->Nat):List Rx->Nat
 |[]=>0
 |a::l=>μ a+ms μ l
section
variable {μ:Rx->Nat}
theorem NN:∀l m:List Rx,ms μ (l++m)=ms μ l+ms μ m
 |[],m=>by simp [ms]
 |a::l,m=>by show μ a+ms μ (l++m)=μ a+ms μ l+ms μ m;rw [NN l m];omega
theorem QL {l m:List Rx} (h:l.Perm m):ms μ l=ms μ m:=by
 induction h with
 |nil=>rfl
 |cons x _ ih=>show μ x+_=μ x+_;rw [ih]
 |swap x y l=>show μ y+(μ x+_)=μ x+(μ y+_);omega
 |trans _ _ h1 h2=>rw [h1,h2]
end
mutual
def qX:Rx->Nat|.mk _ _ _ l=>max 1 (QG l)
def QG:List Rx->Nat
 |[]=>0
 |a::l=>qX a+QG l
end
theorem NL:∀l:List Rx,QG l=ms qX l
 |[]=>rfl
 |a::l=>by unfold QG;rw [NL l];rfl
theorem yl (k:Int) (lo hi:UInt8) (l:List Rx):qX (.mk k lo hi l)=max 1 (ms qX l):=by unfold qX;rw [NL]
mutual
def Db (N:Nat):Rx->Prop|.mk k _ _ l=>zA N l/\(k=4\/k=5->ms qX l<=N)
def zA (N:Nat):List Rx->Prop
 |[]=>True
 |a::l=>Db N a/\zA N l
end
mutual
theorem Hq {N:Nat}:∀x:Rx,qX x<=N->Db N x
 |.mk k lo hi l,h=>by
  rw [yl] at h
  unfold Db
  exact ⟨I7 l (by omega),λ_=>by omega⟩
theorem I7 {N:Nat}:∀l:List Rx,ms qX l<=N->zA N l
 |[],_=>by unfold zA;trivial
 |a::l,h=>by
  have h:qX a+ms qX l<=N:=h
  unfold zA
  exact ⟨Hq a (by omega),I7 l (by omega)⟩
end
end Go.Proofs.YtcifihepfadgfaaGreatDoor
namespace Go.Proofs.YtcifihepfadgfaaGreatDoor
open List renaming mem_append->fS,mem_cons->cS,not_mem_nil->fF,mem_of_getElem?->cR,getElem?_eq_getElem->g8,getElem?_eq_some_iff->ov,mem_append_left->qf,mem_append_right->uD,mem_flatMap->mI,mem_map->pX,length_append->qq,append_assoc->AU,length_take->Cg,flatMap_append->r8,flatMap_cons->vw,mem_cons_of_mem->lr,mem_cons_self->Bi,length_set->Th,take_append_drop->Lb,drop_eq_getElem_cons->sC,append_nil->Cf,take_add_one->GN,map_cons->Ig,drop_drop->Te,getElem?_drop->Tf,getElem?_set_self->tD,drop_of_length_le->sP,take_of_length_le->rA,length_reverse->N9
open Go Go.W
def qW (x:Rt):List Rt->List Rt
 |[]=>[x]
 |y::p=>if cQ x.rx y.rx<0 then y::qW x p else x::y::p
def jZ (l:List Rt):List Rt:=(l.foldl (λp x=>qW x p) []).reverse
theorem zN (x:Rt):∀p,(qW x p).length=p.length+1
 |[]=>rfl
 |y::p=>by
  unfold qW
  split
  .simp [zN x p]
  .simp
theorem Iu (l:List Rt) (x:Rt):jZ (l++[x])=(qW x (jZ l).reverse).reverse:=by
 unfold jZ
 rw [List.foldl_append,List.reverse_reverse]
 rfl
theorem E9 {x t:Rt}:∀{p:List Rt},t∈qW x p↔t=x\/t∈p
 |[]=>by unfold qW;simp
 |y::p=>by
  unfold qW
  split
  .rw [cS,E9,cS]
   constructor
   .rintro (h|h|h)<;>simp [h]
   .rintro (h|h|h)<;>simp [h]
  .simp
theorem Lk {t:Rt} {l:List Rt}:t∈jZ l↔t∈l:=by
 have:∀(l p:List Rt),t∈l.foldl (λp x=>qW x p) p↔t∈l\/t∈p:=by
  intro l
  induction l with
  |nil=>intro p;simp
  |cons a l ih=>
   intro p
   rw [List.foldl_cons,ih,E9,cS]
   constructor
   .rintro (h|h|h)<;>simp [h]
   .rintro ((h|h)|h)<;>simp [h]
 unfold jZ
 rw [List.mem_reverse,this]
 simp
theorem Cp (l:List Rt):(jZ l).length=l.length:=by
 have:∀(l p:List Rt),(l.foldl (λp x=>qW x p) p).length=l.length+p.length:=by
  intro l
  induction l with
  |nil=>intro p;simp
  |cons a l ih=>
   intro p
   rw [List.foldl_cons,ih,zN,List.length_cons]
   omega
 unfold jZ
 rw [N9,this]
 rfl
theorem Nv (x:Rt):∀p:List Rt,(qW x p).map Rt.rx=yI x.rx (p.map Rt.rx)
 |[]=>rfl
 |y::p=>by
  unfold qW
  rw [Ig]
  unfold yI
  split
  .rw [Ig,Nv x p]
  .rfl
theorem Rq (l:List Rt):(jZ l).map Rt.rx=qO (l.map Rt.rx):=by
 have:∀(l p:List Rt),(l.foldl (λp x=>qW x p) p).map Rt.rx=(l.map Rt.rx).foldl (λp x=>yI x p) (p.map Rt.rx):=by
  intro l
  induction l with
  |nil=>intro p;rfl
  |cons a l ih=>
   intro p
   rw [List.foldl_cons,ih,Nv]
   rfl
 unfold jZ qO
 rw [List.map_reverse,this]
 rfl
theorem BZ (x:Rt):∀p:List Rt,(qW x p).Perm (x::p)
 |[]=>.refl _
 |y::p=>by
  unfold qW
  split
  .exact ((BZ x p).cons y).trans (.swap x y p)
  .exact .refl _
theorem It (l:List Rt):(jZ l).Perm l:=by
 have:∀(l p:List Rt),(l.foldl (λp x=>qW x p) p).Perm (l++p):=by
  intro l
  induction l with
  |nil=>intro p;exact .refl _
  |cons a l ih=>
   intro p
   rw [List.foldl_cons]
   exact (ih _).trans (((BZ a p).append_left l).trans List.perm_middle)
 unfold jZ
 have h:=this l []
 rw [Cf] at h
 exact (List.reverse_perm _).trans h
theorem Lj (l:List Rt):O8 ((jZ l).map Rt.rx):=by rw [Rq];exact xR _
theorem OC {l m:List Rt} (h:l.Perm m):Rt.fQ l=Rt.fQ m:=by
 induction h with
 |nil=>rfl
 |cons x _ ih=>show x.sz+_=x.sz+_;rw [ih]
 |swap x y l=>show y.sz+(x.sz+_)=x.sz+(y.sz+_);omega
 |trans _ _ h1 h2=>rw [h1,h2]
theorem Rv {α:Type} (A B:List α) (y x:α) (j:Nat) (hj:j=A.length+1):((A++y::x::B).set j y).set (j - 1) x=A++x::y::B:=by
 subst hj
 rw [List.set_append_right _ _ (by omega),Nat.add_sub_cancel,List.set_append_right _ _ (by omega)]
 simp
theorem Ej (s:Sl) (l:List Rt) (w:World) (hl:Rt.fQ l<=1000000) (ho:aO w aB 4 s (l.flatMap Rt.c)) (pl:Rt.Ps w l) (hd:∀x∈aZ s,x∉Rt.gV l) (A X Z:List Rt) (he:l=A++X++Z) (b:Nat) (hb:b=A.length+X.length):
  Calls Tryz.prog eF #[s.v,.i (A.length:Int),.i (b:Int),.func (.func aU) #[] #[]] w λr w'=>(r=.returned (.tuple #[])/\aO w' aB 4 s ((A++jZ X++Z).flatMap Rt.c))/\Fr (·∈aZ s) w w':=by
 have ll:=Rt.fG l
 have lX:A.length+X.length+Z.length=l.length:=by rw [he];simp [Nat.add_assoc]
 have H:LH (·∈aZ s) w w [.row aB 4 s (l.flatMap Rt.c)] [.trees l]:=lhR _ ho (by
  intro e he
  simp only [cS,fF,or_false] at he
  subst he
  exact ⟨pl,λx hx hm=>hd x hx (aH.1 hm)⟩)
 have kt:∀t∈l,t.sz<=1000000:=λt ht=>Nat.le_trans (Rt.dQ ht) hl
 have mA:∀t∈X,t∈l:=λt ht=>by rw [he];simp [ht]
 let R:aD:=λr w'=>(r=.returned (.tuple #[])/\aO w' aB 4 s ((A++jZ X++Z).flatMap Rt.c))/\Fr (·∈aZ s) w w'
 have outer:∀(d i:Nat) (w1:World),A.length+i+d=b->LH (·∈aZ s) w w1 [.row aB 4 s ((A++jZ (X.take i)++(X.drop i++Z)).flatMap Rt.c)] [.trees l]->
   slices_insertionSortCmpFunc_regex_Regex.L0 s (A.length:Int) (b:Int) ((A.length+i:Nat):Int) w1 R:=by
  intro d
  induction d with
  |zero=>
   intro i w1 hi H1
   refine slices_insertionSortCmpFunc_regex_Regex.cC _ _ _ _ _ _ (aI (decide_eq_false (by omega)) ⟨⟨rfl,?_⟩,H1.fr⟩)
   have:=H1.get 0
   rw [rA (by omega),sP (by omega),List.nil_append] at this
   exact this
  |succ d qz=>
   intro i w1 hi H1
   refine slices_insertionSortCmpFunc_regex_Regex.cC _ _ _ _ _ _ (aQ (decide_eq_true (by omega)) ?_)
   have hg:X[i]? =some (X[i]'(by omega)):=g8 (by omega)
   have yU:=sC (l:=X) (i:=i) (by omega)
   generalize X[i]'(by omega)=x at hg yU
   have hS:jZ (X.take (i+1))=(qW x (jZ (X.take i)).reverse).reverse:=by rw [GN,hg,Option.toList_some,Iu]
   have hx:x∈l:=mA x (cR hg)
   have next:∀(w2:World),LH (·∈aZ s) w w2 [.row aB 4 s ((A++jZ (X.take (i+1))++(X.drop (i+1)++Z)).flatMap Rt.c)] [.trees l]->slices_insertionSortCmpFunc_regex_Regex.S2 s (A.length:Int) (b:Int) ((A.length+i:Nat):Int) w2 R:=by
    intro w2 H2
    show slices_insertionSortCmpFunc_regex_Regex.L0 _ _ _ _ _ _
    rw [aX _ (by omega)]
    exact qz (i+1) w2 (by omega) H2
   have inner:∀(p:Nat) (P Q:List Rt) (w2:World),P.length=p->(qW x P.reverse).reverse++Q=jZ (X.take (i+1))->(∀t∈P,t∈l)->LH (·∈aZ s) w w2 [.row aB 4 s ((A++P++x::(Q++(X.drop (i+1)++Z))).flatMap Rt.c)] [.trees l]->
     slices_insertionSortCmpFunc_regex_Regex.L1 s (A.length:Int) (b:Int) ((A.length+i:Nat):Int) ((A.length+p:Nat):Int) w2 R:=by
    intro p
    induction p with
    |zero=>
     intro P Q w2 hp hq hP H2
     have:P=[]:=List.length_eq_zero_iff.1 hp
     subst this
     refine slices_insertionSortCmpFunc_regex_Regex.oI _ _ _ _ _ _ _ (H2.dr λw3 H3=>aI (decide_eq_false (by omega)) (next w3 ?_))
     have KK:x::Q=jZ (X.take (i+1)):=hq
     rw [<-KK]
     simpa using H3
    |succ p ihp=>
     intro P Q w2 hp hq hP H2
     obtain ⟨P',y,rfl⟩:∃P' y,P=P'++[y]:=⟨P.dropLast,P.getLast (λh=>by rw [h] at hp;cases hp),(List.dropLast_concat_getLast _).symm⟩
     have Ji:P'.length=p:=by simpa using hp
     have hy:y∈l:=hP y (by simp)
     have eA:A++(P'++[y])++x::(Q++(X.drop (i+1)++Z))=(A++P')++y::x::(Q++(X.drop (i+1)++Z)):=by simp
     rw [eA] at H2
     have lA:(A++P').length=A.length+p:=by simp [Ji]
     have gy:((A++P')++y::x::(Q++(X.drop (i+1)++Z)))[A.length+p]? =some y:=by rw [<-lA,List.getElem?_append_right (Nat.le_refl _)];simp
     have gx:((A++P')++y::x::(Q++(X.drop (i+1)++Z)))[A.length+(p+1)]? =some x:=by rw [<-Nat.add_assoc,<-lA,List.getElem?_append_right (Nat.le_succ _)];simp
     have hlen:((A++P')++y::x::(Q++(X.drop (i+1)++Z))).length<=1000000:=by
      have h1:=congrArg List.length hq
      rw [Cp,qq,N9,zN,N9] at h1
      simp only [qq,List.length_cons,Cg,List.length_drop,List.length_nil] at h1 ⊢
      omega
     have HF:=(ov.1 gx).1
     have e1:IntKind.wrap .i64 (((A.length+(p+1):Nat):Int) - 1)=((A.length+p:Nat):Int):=by rw [zM (by omega) (by omega)];rfl
     have e2:qW x (P'++[y]).reverse=if cQ x.rx y.rx<0 then y::qW x P'.reverse else x::y::P'.reverse:=by rw [List.reverse_append];rfl
     refine slices_insertionSortCmpFunc_regex_Regex.oI _ _ _ _ _ _ _ (H2.dr λw3 H3=>aQ (decide_eq_true (by omega)) ?_)
     refine H3.el 0 (A.length+(p+1)) rfl gx (H3.el 0 (A.length+p) e1 gy ?_)
     refine H3.call (By x y w3 (kt x hx) ((show Rt.Ps w3 l from H3.getD 0).mem hx) ((show Rt.Ps w3 l from H3.getD 0).mem hy)) ?_
     rintro _ w4 rfl H4
     refine ⟨_,rfl,aN (λhc=>H4.dr λw5 H5=>?_) (λhc=>next w4 ?_)⟩
     .refine H5.el 0 (A.length+p) e1 gy (H5.el 0 (A.length+(p+1)) rfl gx (H5.Uy 0 (A.length+(p+1)) (t:=y) rfl HF λw6 H6=>?_))
      refine H6.Uy 0 (A.length+p) (t:=x) (ts:=((A++P')++y::x::(Q++(X.drop (i+1)++Z))).set (A.length+(p+1)) y) e1 (by rw [Th];omega) λw7 H7=>?_
      rw [e1]
      rw [if_pos hc] at e2
      refine ihp P' (y::Q) w7 Ji ?_ (λt ht=>hP t (by simp [ht])) ?_
      .rw [<-hq,e2]
       simp
      .have e3:=Rv (A++P') (Q++(X.drop (i+1)++Z)) y x (A.length+(p+1)) (by rw [lA];rfl)
       rw [show A.length+(p+1) - 1=A.length+p by omega] at e3
       have H8:LH (·∈aZ s) w w7 [.row aB 4 s (((((A++P')++y::x::(Q++(X.drop (i+1)++Z))).set (A.length+(p+1)) y).set (A.length+p) x).flatMap Rt.c)] [.trees l]:=H7
       rw [e3] at H8
       exact H8
     .rw [if_neg hc] at e2
      rw [<-hq,e2]
      simpa using H4
   have Xw:(jZ (X.take i)).length=i:=by rw [Cp,Cg];omega
   refine inner i (jZ (X.take i)) [] w1 Xw ?_ (λt ht=>mA t (List.mem_of_mem_take (Lk.1 ht))) ?_
   .rw [Cf,hS]
   .rw [yU] at H1
    simpa using H1
 refine slices_insertionSortCmpFunc_regex_Regex.ok _ _ _ w _ ?_
 show slices_insertionSortCmpFunc_regex_Regex.L0 _ _ _ _ _ R
 rw [aX _ (by omega)]
 cases X with
 |nil=>
  refine slices_insertionSortCmpFunc_regex_Regex.cC _ _ _ _ _ _ (aI (decide_eq_false (by simp at hb;omega)) ⟨⟨rfl,?_⟩,Fr.refl _ _⟩)
  have:=H.get 0
  rw [he] at this
  exact this
 |cons a X=>
  refine outer (b - (A.length+1)) 1 w (by simp at hb;omega) ?_
  rw [show l.flatMap Rt.c=(A++jZ ((a::X).take 1)++((a::X).drop 1++Z)).flatMap Rt.c from by rw [he];simp [jZ,qW]] at H
  exact H
theorem VO {t:ByteArray} {m:Nat} {K:UInt8->Prop} (h:Nat.beq t.size 256=true) (hm:m<256) (hk:∀b,K b):∃b:UInt8,t[m]? =some b/\K b:=by
 rw [Nat.beq_eq] at h
 exact ⟨t[m]'(by omega),getElem?_pos t m (by omega),hk _⟩
theorem WM (x:Int) (w:World):Calls Tryz.prog pn #[.u x] w λr w'=>(∃t:Int,r=.returned (.i t))/\bG w w':=by
 have s2:∀(x n:Int),math_bits_Len64.S2 x n w λr w'=>(∃t:Int,r=.returned (.i t))/\bG w w':=by
  intro x n
  have h0:0<=IntKind.wrap .u8 x/\IntKind.wrap .u8 x<256:=by
   rw [IntKind.wrap_u8]
   omega
  obtain ⟨m,hm⟩:=Int.eq_ofNat_of_zero_le h0.1
  refine ⟨h0.1,?_⟩
  have lV:m<256:=by omega
  refine VO (by kernel_rfl) (by rw [hm];exact lV) λb=>⟨⟨_,rfl⟩,Fr.refl _ _⟩
 have s1:∀(x n:Int),math_bits_Len64.S1 x n w λr w'=>(∃t:Int,r=.returned (.i t))/\bG w w':=λx n=>aN (λ_=>s2 _ _) (λ_=>s2 _ _)
 have s0:∀(x n:Int),math_bits_Len64.S0 x n w λr w'=>(∃t:Int,r=.returned (.i t))/\bG w w':=λx n=>aN (λ_=>s1 _ _) (λ_=>s1 _ _)
 refine math_bits_Len.ok _ w _ ((math_bits_Len64.ok _ w _ (aN (λ_=>s0 _ _) (λ_=>s0 _ _))).mono ?_)
 rintro _ w1 ⟨⟨t,rfl⟩,f⟩
 exact ⟨t,rfl,⟨t,rfl⟩,f⟩
def wX (n:Nat):Prop:=∀(s:Sl) (l:List Rt) (w:World),l.length<=n->Rt.fQ l<=1000000->aO w aB 4 s (l.flatMap Rt.c)->Rt.Ps w l->(∀x∈aZ s,x∉Rt.gV l)->
 Calls Tryz.prog dT #[s.v,.func (.func aU) #[] #[]] w λr w'=>(∃m:List Rt,r=.returned (.tuple #[])/\m.Perm l/\O8 (m.map Rt.rx)/\aO w' aB 4 s (m.flatMap Rt.c))/\Fr (·∈aZ s) w w'
def kc (p:Rt):List Rt->List Rt
 |[]=>[]
 |x::l=>if cQ x.rx p.rx==0 then kc x l else x::kc x l
def rl:List Rt->List Rt
 |[]=>[]
 |a::l=>a::kc a l
theorem EB (l:List Rt) (i:Nat):(l.flatMap Rt.c).take (i *4)=(l.take i).flatMap Rt.c:=by
 have hl:=Rt.iT (l.take i)
 by_cases h:i<=l.length
 .conv=>lhs;rw [<-Lb i l,r8]
  rw [List.take_append_of_le_length (by rw [hl,Cg];omega),rA (by rw [hl,Cg];omega)]
 .rw [rA (by rw [Rt.iT];omega),rA (l:=l) (by omega)]
theorem BM (l:List Rt) (i:Nat) (h:i<=l.length):(l.flatMap Rt.c).drop (i *4)=(l.drop i).flatMap Rt.c:=by
 have hl:=Rt.iT (l.take i)
 rw [Cg,Nat.min_eq_left h] at hl
 conv=>lhs;rw [<-Lb i l,r8]
 rw [List.drop_append_of_le_length (by omega),sP (by omega),List.nil_append]
theorem PF {w:World} {s:Sl} {l m:List Rt} (ho:aO w aB 4 s (l.flatMap Rt.c)) (i:Nat) (hi:i<=l.length) (hm:l.take i=m) {K:World->Prop} {R:aD} {w0:World} (hf:Fr (·∈aZ s) w0 w)
  (hR:∀r w',Ma s m r w0 w'->Fr (·∈aZ s) w0 w'->R r w'):
  (0:Int)<=(i:Int)/\(i:Int)<=((s.n:Nat):Int)/\∃(w7:World),Sem.run Tryz.prog (Builtin.clear_ #[aF] Lt #[.slice (if s.c=(Int.toNat (i:Int)) then s.a else s.a.map (·.add ((Int.toNat (i:Int)) *4))) (s.n - (Int.toNat (i:Int))) (s.c - (Int.toNat (i:Int)))]) w=.ok (.tuple #[]) w7/\
   (0:Int)<=(i:Int)/\(i:Int)<=((s.c:Nat):Int)/\R (.returned (.slice (if s.c=0 then s.a else s.a.map (·.add (0 *4))) ((Int.toNat (i:Int)) - 0) (s.c - 0))) w7:=by
 have nr:=Rt.b0 ho.iD
 have KF:=ho.cap
 obtain ⟨w2,h1,h2,h3⟩:=I0 (ty:=Lt) zv TY rfl ho i (by omega)
 refine ⟨by omega,by omega,w2,h1,by omega,by omega,hR _ _ ⟨⟨if s.c=0 then s.a else s.a.map (·.add (0 *4)),i - 0,s.c - 0⟩,rfl,?_,λx hx=>?_⟩ (hf.trans h3 λx _ h=>h)⟩
 .rw [<-hm,<-EB]
  exact h2
 .simp only [aZ] at hx ⊢
  split at hx
  .rename_i p hp
   split at hp
   .rw [hp];exact hx
   .cases Ba:s.a with
    |none=>rw [Ba] at hp;cases hp
    |some q=>
     rw [Ba] at hp
     simp only [Option.map_some,Option.some.injEq] at hp
     subst hp
     rw [gP] at hx
     exact hx
  .cases hx
section
variable {M:Nat->Prop} {w0 w:World} {L D:List En}
theorem _root_.Go.W.LH.els (H:LH M w0 w L D) (i k b:Nat) {s:Sl} {ts:List Rt} {t:Rt} {X:Int} {K:Int->Int->Int->Sl->Prop} (hX:X=(k:Int)) (hg:ts[b+k]? =some t) (h:K t.k t.lo.toNat t.hi.toNat t.s) (hi:L[i]? =some (.row aB 4 s (ts.flatMap Rt.c)):=by rfl):
  (0:Int)<=X/\X<((s.n - b:Nat):Int)/\aW (if s.c=b then s.a else s.a.map (·.add (b *4))) λp=>∃a b c:Int,∃d:Sl,w.cell? ((p.add (Int.toNat X *4)).add 0)=some (.i a)/\w.cell? ((p.add (Int.toNat X *4)).add 1)=some (.int .u8 b)/\w.cell? ((p.add (Int.toNat X *4)).add 2)=some (.int .u8 c)/\w.cell? ((p.add (Int.toNat X *4)).add 3)=some d.v/\K a b c d:=by
 subst hX
 have ho:aO w aB 4 s (ts.flatMap Rt.c):=H.get i hi
 have hn:=Rt.b0 ho.iD
 have hk:=(ov.1 hg).1
 have hr:=ho.iD.sub b s.n (by omega) (Nat.le_refl _)
 rw [rA (by rw [Rt.iT];omega),BM _ _ (by omega)] at hr
 refine ⟨by omega,by omega,Rt.at' (s:=Ay 4 s b s.n) hr (i:=k) (t:=t) (by rw [Tf];exact hg) λp hp c=>⟨_,_,_,_,c.c0,c.c1,c.c2,c.c3,h⟩⟩
end
theorem AY (s:Sl) (l:List Rt) (w:World) (hl:Rt.fQ l<=1000000) (ho:aO w aB 4 s (l.flatMap Rt.c)) (pl:Rt.Ps w l) (hd:∀x∈aZ s,x∉Rt.gV l):
  Calls Tryz.prog dD #[s.v,.func (.func eK) #[] #[]] w λr w'=>Ma s (rl l) r w w'/\Fr (·∈aZ s) w w':=by
 have nr:=Rt.b0 ho.iD
 have ll:=Rt.fG l
 have kt:∀t∈l,t.sz<=1000000:=λt ht=>Nat.le_trans (Rt.dQ ht) hl
 have H:LH (·∈aZ s) w w [.row aB 4 s (l.flatMap Rt.c)] [.trees l]:=lhR _ ho (by
  intro e he
  simp only [cS,fF,or_false] at he
  subst he
  exact ⟨pl,λx hx hm=>hd x hx (aH.1 hm)⟩)
 let R:aD:=λr w'=>Ma s (rl l) r w w'/\Fr (·∈aZ s) w w'
 have X3:∀(d k b m:Nat) (cur:List Rt) (p:Rt) (w1:World),b+m+d=l.length->1<=m->1<=b->k<b+m->cur.length=l.length->cur.drop (b+m - 1)=l.drop (b+m - 1)->l[b+m - 1]? =some p->cur.take k++kc p (l.drop (b+m))=rl l->
   LH (·∈aZ s) w w1 [.row aB 4 s (cur.flatMap Rt.c)] [.trees l]->
   slices_CompactFunc_sl_regex_Regex_regex_Regex.L2 s (k:Int) ⟨(if s.c=b then s.a else s.a.map (·.add (b *4))),(s.n - b),(s.c - b)⟩ (m:Int) w1 R:=by
  intro d
  induction d with
  |zero=>
   intro k b m cur p w1 hb hm LG hk hc yU hp hq H1
   refine slices_CompactFunc_sl_regex_Regex_regex_Regex.IG _ _ _ _ _ _ (aI (decide_eq_false ?_) ?_)
   .show ¬(m:Int)<((s.n - b:Nat):Int)
    omega
   rw [sP (by omega)] at hq
   have KK:cur.take k=rl l:=by rw [<-hq];simp [kc]
   exact PF (K:=λ_=>True) (H1.get 0) k (by omega) KK H1.fr λr w' h1 h2=>⟨h1,h2⟩
  |succ d qz=>
   intro k b m cur p w1 hb hm LG hk hc yU hp hq H1
   have hg:l[b+m]? =some (l[b+m]'(by omega)):=g8 (by omega)
   have wa:=sC (l:=l) (i:=b+m) (by omega)
   generalize l[b+m]'(by omega)=x at hg wa
   have Y3:cur[b+m]? =some x:=by
    have:(cur.drop (b+m - 1))[1]? =(l.drop (b+m - 1))[1]?:=by rw [yU]
    rw [Tf,Tf,show b+m - 1+1=b+m by omega] at this
    rw [this];exact hg
   have hgp:cur[b+(m - 1)]? =some p:=by
    have:(cur.drop (b+m - 1))[0]? =(l.drop (b+m - 1))[0]?:=by rw [yU]
    rw [Tf,Tf,Nat.add_zero] at this
    rw [show b+(m - 1)=b+m - 1 by omega,this];exact hp
   have Xt:cur.drop (b+m)=l.drop (b+m):=by
    have:(cur.drop (b+m - 1)).drop 1=(l.drop (b+m - 1)).drop 1:=by rw [yU]
    rw [Te,Te,show b+m - 1+1=b+m by omega] at this
    exact this
   have mx:=cR hg
   have mp:=cR hp
   have e1:IntKind.wrap .i64 ((m:Int) - 1)=((m - 1:Nat):Int):=zM hm (by omega)
   rw [wa] at hq
   have eg:kc p (x::l.drop (b+m+1))=if cQ x.rx p.rx==0 then kc x (l.drop (b+m+1)) else x::kc x (l.drop (b+m+1)):=rfl
   rw [eg] at hq
   have next:∀(k':Nat) (yF:List Rt) (w2:World),k'<b+(m+1)->yF.length=l.length->yF.drop (b+m)=l.drop (b+m)->yF.take k'++kc x (l.drop (b+m+1))=rl l->LH (·∈aZ s) w w2 [.row aB 4 s (yF.flatMap Rt.c)] [.trees l]->
     slices_CompactFunc_sl_regex_Regex_regex_Regex.S3 s (k':Int) ⟨(if s.c=b then s.a else s.a.map (·.add (b *4))),(s.n - b),(s.c - b)⟩ (m:Int) w2 R:=by
    intro k' yF w2 h1 h2 h3 h4 H2
    show slices_CompactFunc_sl_regex_Regex_regex_Regex.L2 _ _ _ _ _ _
    rw [aX _ (by omega)]
    exact qz k' b (m+1) yF x w2 (by omega) (by omega) LG h1 h2 (by rw [show b+(m+1) - 1=b+m by omega];exact h3) (by rw [show b+(m+1) - 1=b+m by omega];exact hg) (by rw [show b+(m+1)=b+m+1 by omega];exact h4) H2
   refine slices_CompactFunc_sl_regex_Regex_regex_Regex.IG _ _ _ _ _ _ (aQ (decide_eq_true ?_) (H1.dr λw2 H2=>?_))
   .show (m:Int)<((s.n - b:Nat):Int)
    omega
   refine H2.els 0 m b rfl Y3 (H2.els 0 (m - 1) b e1 hgp ?_)
   refine H2.call (vJ x p w2 (kt x mx) ((show Rt.Ps w2 l from H2.getD 0).mem mx) ((show Rt.Ps w2 l from H2.getD 0).mem mp)) ?_
   rintro _ w3 rfl H3
   refine ⟨_,rfl,eT (λhf=>?_) (λht=>?_)⟩
   .refine H3.els 0 m b rfl Y3 (H3.Uy 0 k (t:=x) (ts:=cur) rfl (by omega) λw4 H4=>?_)
    rw [if_neg (by rw [hf];simp)] at hq
    rw [aX _ (by omega)]
    refine next (k+1) (cur.set k x) w4 (by omega) (by simpa using hc) ?_ ?_ H4
    .rw [List.drop_set_of_lt (by omega)];exact Xt
    .rw [uH (by omega),AU]
     exact hq
   .rw [if_pos ht] at hq
    exact next k cur w3 (by omega) hc Xt hq H3
 have loop:∀(d k:Nat) (p:Rt) (w1:World),k+d=l.length->1<=k->l[k - 1]? =some p->l.take k++kc p (l.drop k)=rl l->LH (·∈aZ s) w w1 [.row aB 4 s (l.flatMap Rt.c)] [.trees l]->
   slices_CompactFunc_sl_regex_Regex_regex_Regex.L0 s (k:Int) w1 R:=by
  intro d
  induction d with
  |zero=>
   intro k p w1 hk h1 hp hq H1
   refine slices_CompactFunc_sl_regex_Regex_regex_Regex.cC _ _ _ _ (aI (decide_eq_false (by omega)) ⟨⟨s,rfl,?_,λx hx=>hx⟩,H1.fr⟩)
   rw [sP (by omega),rA (by omega)] at hq
   have KK:l=rl l:=by rw [<-hq];simp [kc]
   rw [<-KK]
   exact H1.get 0
  |succ d qz=>
   intro k p w1 hk h1 hp hq H1
   have hg:l[k]? =some (l[k]'(by omega)):=g8 (by omega)
   have wa:=sC (l:=l) (i:=k) (by omega)
   generalize l[k]'(by omega)=x at hg wa
   have mx:=cR hg
   have mp:=cR hp
   have e1:IntKind.wrap .i64 ((k:Int) - 1)=((k - 1:Nat):Int):=zM h1 (by omega)
   rw [wa] at hq
   have eg:kc p (x::l.drop (k+1))=if cQ x.rx p.rx==0 then kc x (l.drop (k+1)) else x::kc x (l.drop (k+1)):=rfl
   rw [eg] at hq
   refine slices_CompactFunc_sl_regex_Regex_regex_Regex.cC _ _ _ _ (aQ (decide_eq_true (by omega)) (H1.dr λw2 H2=>?_))
   refine H2.el 0 k rfl hg (H2.el 0 (k - 1) e1 hp ?_)
   refine H2.call (vJ x p w2 (kt x mx) ((show Rt.Ps w2 l from H2.getD 0).mem mx) ((show Rt.Ps w2 l from H2.getD 0).mem mp)) ?_
   rintro _ w3 rfl H3
   refine ⟨_,rfl,bA (λht=>⟨by omega,by omega,?_⟩) (λhf=>?_)⟩
   .rw [if_pos ht] at hq
    show slices_CompactFunc_sl_regex_Regex_regex_Regex.L2 _ _ _ _ _ _
    exact X3 d k k 1 l x w3 (by omega) (by omega) h1 (by omega) rfl rfl (by rw [Nat.add_sub_cancel];exact hg) hq H3
   .rw [if_neg (by rw [hf];simp)] at hq
    rw [aX _ (by omega)]
    refine qz (k+1) x w3 (by omega) (by omega) (by rw [Nat.add_sub_cancel];exact hg) ?_ H3
    rw [GN,hg,AU]
    exact hq
 refine slices_CompactFunc_sl_regex_Regex_regex_Regex.ok _ w _ (aN (λh2=>⟨⟨s,rfl,?_,λx hx=>hx⟩,H.fr⟩) (λh2=>?_))
 .have e:rl l=l:=by
   cases l with
   |nil=>rfl
   |cons a l=>
    cases l with
    |nil=>rfl
    |cons b l=>simp at nr;omega
  rw [e]
  exact ho
 .have hg:l[0]? =some (l[0]'(by omega)):=g8 (by omega)
  have wa:=sC (l:=l) (i:=0) (by omega)
  generalize l[0]'(by omega)=x at hg wa
  refine loop (l.length - 1) 1 x w (by omega) (by omega) hg ?_ H
  rw [List.drop_zero] at wa
  rw [wa]
  rfl
def mm (k:Int) (l:List Rx) (u:Rx):List Rx:=(l.flatMap λc=>if c.k=k then c.l else [c]).filter λt=>!(cQ t u==0)
def Kw (k:Int) (u:Rx):List Rx->Rx
 |[]=>u
 |[a]=>a
 |l=>.mk k 0 0 l
def lG (k:Int) (l:List Rx) (u z:Rx):Rx:=if (mm k l u).any (λt=>cQ t z==0) then z else Kw k u (if k=3 then mm k l u else zu (qO (mm k l u)))
def Wp (k:Int) (l:List Rx):Nat:=(l.flatMap λc=>if c.k=k then c.l else [c]).length
def qU:Rx:=.mk 1 0 0 []
def fL:Rx:=.mk 6 0 0 [xF]
def rD (lo hi:UInt8) (l:List Rx):Rx:=match l with
 |[]=>xF
 |c::l'=>if c.k=0\/c.k=1 then qU else if c.k=7\/cQ c fL=0 then c else .mk 7 lo hi (c::l')
def FB (lo hi:UInt8) (l:List Rx):Rx:=match l with
 |[]=>xF
 |c::l'=>if c.k=6 then (match c.l with |[]=>xF|d::_=>d) else .mk 6 lo hi (c::l')
def nE:Rx->Rx
 |.mk k lo hi l=>if k=3 then lG 3 l qU xF else if k=4 then lG 4 l xF fL else if k=5 then lG 5 l fL xF else if k=6 then FB lo hi l else if k=7 then rD lo hi l else .mk k lo hi l
def nQ:Rx->Bool
 |.mk k _ _ l=>decide (0<=k)&&decide (k<8)&&(match l with
  |[]=>k !=6&&k !=7
  |c::_=>!(k==6&&c.k==6&&c.l.isEmpty))
theorem xO (t:Rt):t.rx.k=t.k:=by rw [Rt.dE];rfl
theorem Oi (t:Rt):t.rx.l=t.l.map Rt.rx:=by rw [Rt.dE,<-Rt.fC];rfl
theorem vY (x u:Rt):(kW x u).map Rt.rx=mm x.k (Rt.bV x.l) u.rx:=by
 unfold kW mm
 rw [Rt.fC]
 generalize x.l=l
 induction l with
 |nil=>rfl
 |cons a l ih=>
  rw [Ig,vw,vw,List.filter_append,List.filter_append,List.map_append,ih]
  congr 1
  have e:(iR x a).map Rt.rx=if a.rx.k=x.k then a.rx.l else [a.rx]:=by
   unfold iR
   rw [xO,Oi]
   split<;>simp
  rw [<-e,List.filter_map]
  rfl
theorem xi:∀(l:List Rt) (p:Rt),(kc p l).map Rt.rx=kT p.rx (l.map Rt.rx)
 |[],p=>rfl
 |x::l,p=>by
  unfold kc
  rw [Ig]
  unfold kT
  split
  .exact xi l x
  .rw [Ig,xi l x]
theorem PC (l:List Rt):(rl l).map Rt.rx=zu (l.map Rt.rx):=by
 cases l with
 |nil=>rfl
 |cons a l=>show a.rx::(kc a l).map Rt.rx=_;rw [xi];rfl
theorem uT {t:Rt}:∀{l:List Rt} {p:Rt},t∈kc p l->t∈l
 |[],p,h=>h
 |x::l,p,h=>by
  unfold kc at h
  split at h
  .exact lr _ (uT h)
  .rcases cS.1 h with rfl|h
   .simp
   .exact lr _ (uT h)
theorem MQ {t:Rt} {l:List Rt} (h:t∈rl l):t∈l:=by
 cases l with
 |nil=>exact h
 |cons a l=>
  rcases cS.1 h with rfl|h
  .simp
  .exact lr _ (uT h)
theorem Uc (l:List Rt) (z:Rt):l.any (λt=>cQ t.rx z.rx==0)=(l.map Rt.rx).any λt=>cQ t z.rx==0:=by
 rw [List.any_map];rfl
def pM (AT:List Nat) (w:World) (x:Rx) (r:Ending) (w':World):Prop:=∃t:Rt,r=.returned t.v/\t.rx=x/\t.P w'/\∀b∈t.fp,w.heap.size<=b\/b∈AT
theorem Un {N:Nat} (hS:wX N) (hN:N<=1000000) (x u z:Rt) (bu bz:Nat) (w:World) (h:x.k≠3->Wp x.k (Rt.bV x.l)<=N) (hx:x.sz<=1000000) (px:x.P w) (pu:u.P w) (pz:z.P w) (hu:w.heap[bu]? =some (.cells u.c.toArray aB (0,0))) (hz:w.heap[bz]? =some (.cells z.c.toArray aB (0,0))):
  Calls Tryz.prog ji #[x.v,.pointer (some (bD bu)),.pointer (some (bD bz))] w λr w'=>pM (x.fp++(u.fp++z.fp)) w (lG x.k (Rt.bV x.l) u.rx z.rx) r w'/\bG w w':=by
 have H0:LH F0 w w [] [.tree x,.tree u,.tree z,sK bu u,sK bz z]:=mu _ (by
  intro e he
  simp only [cS,fF,or_false] at he
  rcases he with rfl|rfl|rfl|rfl|rfl
  .exact px
  .exact pu
  .exact pz
  .exact hu
  .exact hz)
 have ru:=Sub.kW x u
 have hfs:=Lp x u
 have hfl:=Rt.fG (kW x u)
 have kt:∀t∈kW x u,t.sz<=1000000:=λt ht=>by have:=Rt.dQ ht;omega
 have hpc:(kW x u).length<=Wp x.k (Rt.bV x.l):=by
  have h1:=congrArg List.length (vY x u)
  rw [List.length_map] at h1
  rw [h1]
  exact List.length_filter_le ..
 refine regex_forms_2_1.cU _ _ _ _ _ _ w _ (H0.bF λb3 w1 H1=>H1.bF λb4 w2 H2=>⟨_,_,_,u.s,H2.uA 3 0,H2.uA 3 1,H2.uA 3 2,H2.uA 3 3,H2.ri (Ul x u w2 hx (H2.getD 0) (H2.getD 1)) ?_⟩)
 rintro _ w3 ⟨s1,rfl,o1,n1⟩ H3 F3
 have H4:=F3.own (.row aB 4 s1 ((kW x u).flatMap Rt.c)) o1 n1
 have hps:∀w':World,x.P w'->Rt.Ps w' (kW x u):=λw' h=>ru.Ps h
 refine ⟨s1,rfl,H4.aK (zg s1 (kW x u) ⟨jC,#[],#[.pointer (some (bD bz))]⟩ (λt=>cQ t.rx z.rx==0) [.tree x,.tree z,sK bz z] w3 (by omega) (H4.get 2:aO _ _ _ _ _).iD (by
  intro e he
  simp only [cS,fF,or_false] at he
  rcases he with rfl|rfl|rfl
  .exact H4.getD 0
  .exact H4.getD 2
  .exact H4.getD 4) (by kernel_rfl) (λw' t ht H'=>Hf t z bz w' (kt t ht) ((hps w' (H'.getD 1)).mem ht) (H'.getD 2) (H'.getD 3))) ?_⟩
 rintro _ w4 rfl H5
 have ea:(kW x u).any (λt=>cQ t.rx z.rx==0)=(mm x.k (Rt.bV x.l) u.rx).any λt=>cQ t z.rx==0:=by rw [Uc,vY]
 refine ⟨_,rfl,bA (λht=>⟨_,_,_,z.s,H5.uA 4 0,H5.uA 4 1,H5.uA 4 2,H5.uA 4 3,H5.aL λw8 H8=>⟨⟨z,rfl,?_,H8.getD 2,λb hb=>.inr (by simp [hb])⟩,H8.fr⟩⟩) (λhf=>?_)⟩
 .have nS:=ea▸ht
  unfold lG
  rw [if_pos nS]
 have hf':=ea▸hf
 have fin:∀(s':Sl) (ks:List Rt) (w':World),(∀t∈ks,t∈kW x u)->ks.map Rt.rx=(if x.k=3 then mm x.k (Rt.bV x.l) u.rx else zu (qO (mm x.k (Rt.bV x.l) u.rx)))->LH F0 w w' [.g b3,.g b4,.row aB 4 s' (ks.flatMap Rt.c)] [.tree x,.tree u,.tree z,sK bu u,sK bz z]->
   regex_forms_2_1.dV (bD bu) b3 x.k x.lo.toNat x.hi.toNat x.s b4 0 0 0 ⟨none,0,0⟩ s' w' λr w'=>pM (x.fp++(u.fp++z.fp)) w (lG x.k (Rt.bV x.l) u.rx z.rx) r w'/\bG w w':=by
  intro s' ks w' hk he H
  have sQ:Sub x ks:=ru.sub hk
  have nr:=Rt.b0 (H.get 2:aO _ _ _ _ _).iD
  have ej:lG x.k (Rt.bV x.l) u.rx z.rx=Kw x.k u.rx (ks.map Rt.rx):=by
   unfold lG
   rw [if_neg (by rw [hf'];simp),he]
  refine aJ (λh0=>⟨_,_,_,u.s,H.uA 3 0,H.uA 3 1,H.uA 3 2,H.uA 3 3,H.aL λw8 H8=>⟨⟨u,rfl,?_,H8.getD 1,λb hb=>.inr (by simp [hb])⟩,H8.fr⟩⟩) (λh0=>aJ (λh1=>?_) (λh1=>H.aL λw8 H8=>⟨⟨.mk x.k 0 0 s' ks,rfl,?_,?_,λb hb=>?_⟩,H8.fr⟩))
  .have:ks=[]:=List.length_eq_zero_iff.1 (by omega)
   rw [ej,this];rfl
  .obtain ⟨a,rfl⟩:=List.length_eq_one_iff.1 (show ks.length=1 by omega)
   refine H.el 2 0 rfl (t:=a) rfl (H.aL λw8 H8=>⟨⟨a,rfl,?_,sQ.P _ (H8.getD 0) a (by simp),λb hb=>.inr (by simp [sQ.fp a (by simp) b hb])⟩,H8.fr⟩)
   rw [ej];rfl
  .rw [ej]
   unfold Rt.rx
   rw [Rt.fC]
   cases ks with
   |nil=>simp at nr;omega
   |cons a ks=>
    cases ks with
    |nil=>simp at nr;omega
    |cons b ks=>rfl
  .unfold Rt.P
   exact ⟨(H8.get 2:aO _ _ _ _ _).iD,sQ.Ps (H8.getD 0)⟩
  .unfold Rt.fp at hb
   rcases fS.1 hb with hb|hb
   .exact .inl ((H8.new _ (cR (i:=2) rfl) b (fY hb)).resolve_right id)
   .exact .inr (by simp [sQ.gV hb])
 have eo:∀w':World,LH F0 w w' [.g b3,.g b4,.row aB 4 s1 ((kW x u).flatMap Rt.c)] [.tree x,.tree u,.tree z,sK bu u,sK bz z]->∀y∈aZ s1,y∉Rt.gV (kW x u):=λw' H' y hy hm=>H'.off 2 0 rfl rfl y hy (aH.2 (ru.gV hm))
 refine dX (λhk=>?_) (λhk=>fin s1 (kW x u) w4 (λ_ h=>h) (by rw [if_pos hk,vY]) H5)
 refine H5.MG 2 rfl (hS s1 (kW x u) w4 (by have:=h hk;omega) (by omega) (H5.get 2) (hps w4 (H5.getD 0)) (eo w4 H5)) ?_
 rintro _ w5 ⟨m,rfl,SD,Wk,o5⟩ hH
 have H6:LH F0 w w5 [.g b3,.g b4,.row aB 4 s1 (m.flatMap Rt.c)] [.tree x,.tree u,.tree z,sK bu u,sK bz z]:=hH (.row aB 4 s1 (m.flatMap Rt.c)) o5 λb hb=>.inl hb
 have SN:Sub x m:=ru.sub λt ht=>SD.mem_iff.1 ht
 refine ⟨rfl,H6.MG 2 rfl (AY s1 m w5 (by rw [OC SD];omega) (H6.get 2) (SN.Ps (H6.getD 0)) (λy hy hm=>H6.off 2 0 rfl rfl y hy (aH.2 (SN.gV hm)))) ?_⟩
 rintro _ w6 ⟨s2,rfl,o6,n6⟩ hH2
 have H7:LH F0 w w6 [.g b3,.g b4,.row aB 4 s2 ((rl m).flatMap Rt.c)] [.tree x,.tree u,.tree z,sK bu u,sK bz z]:=hH2 (.row aB 4 s2 ((rl m).flatMap Rt.c)) o6 λb hb=>.inl (n6 b hb)
 have Qn:m.map Rt.rx=qO ((kW x u).map Rt.rx):=Oq Wk (SD.map _)
 exact ⟨s2,rfl,fin s2 (rl m) w6 (λt ht=>SD.mem_iff.1 (MQ ht)) (by rw [if_neg hk,PC,Qn,vY]) H7⟩
theorem jE {w:World} {x t:Rt} (px:x.P w) {k:Nat} {X:Int} {K:Int->Int->Int->Sl->Prop} (hX:X=(k:Int)) (hg:x.l[k]? =some t) (h:K t.k t.lo.toNat t.hi.toNat t.s):
  (0:Int)<=X/\X<((x.s.n:Nat):Int)/\aW x.s.a λp=>∃a b c:Int,∃d:Sl,w.cell? ((p.add (Int.toNat X *4)).add 0)=some (.i a)/\w.cell? ((p.add (Int.toNat X *4)).add 1)=some (.int .u8 b)/\w.cell? ((p.add (Int.toNat X *4)).add 2)=some (.int .u8 c)/\w.cell? ((p.add (Int.toNat X *4)).add 3)=some d.v/\K a b c d:=by
 subst hX
 have hn:=Rt.b0 px.parts.1
 have hk:=(ov.1 hg).1
 exact ⟨by omega,by omega,Rt.at' px.parts.1 hg λp hp c=>⟨_,_,_,_,c.c0,c.c1,c.c2,c.c3,h⟩⟩
theorem WR (x:Rt) (w:World) (px:x.P w) (hk:x.k=6) (ho:nQ x.rx=true):Calls Tryz.prog ja #[x.v] w λr w'=>pM x.fp w (FB x.lo x.hi (Rt.bV x.l)) r w'/\bG w w':=by
 have nr:=Rt.b0 px.parts.1
 rw [Rt.dE] at ho
 cases hl:x.l with
 |nil=>rw [hl,hk] at ho;simp [nQ,Rt.bV] at ho
 |cons c l'=>
  have hg:x.l[0]? =some c:=by rw [hl];rfl
  have mc:c∈x.l:=cR hg
  have e1:Rt.bV (c::l')=c.rx::Rt.bV l':=rfl
  refine regex_forms_3.cU _ _ _ _ w _ ((zV px).bF λb1 w1 H1=>H1.bF λb2 w2 H2=>?_)
  have QX:x.P w2:=H2.getD 0
  have n2:0<x.s.n:=by rw [hl] at nr;simp at nr;omega
  refine ⟨by omega,by omega,Rt.at' QX.parts.1 hg λp hp cc=>⟨c.k,cc.c0,aJ (λh6=>?_) (λh6=>H2.aL λpE mJ=>⟨⟨x,rfl,?_,mJ.getD 0,λb hb=>.inr hb⟩,mJ.fr⟩)⟩⟩
  .refine ⟨by omega,by omega,Rt.at' QX.parts.1 hg λp hp cc=>⟨c.s,cc.c3,?_⟩⟩
   cases Jf:c.l with
   |nil=>
    rw [hl,e1] at ho
    have e2:c.rx.l.isEmpty=true:=by rw [Oi,Jf];rfl
    simp [nQ,hk,xO,h6,e2] at ho
   |cons d l2=>
    have OY:c.l[0]? =some d:=by rw [Jf];rfl
    refine jE (QX.parts.2.mem mc) rfl OY (H2.aL λw6 H6=>⟨⟨d,rfl,?_,((show x.P w6 from H6.getD 0).parts.2.mem mc).parts.2.mem (cR OY),λb hb=>.inr (Rt.eO.2 (.inr (Rt.bC.2 ⟨c,mc,Rt.eO.2 (.inr (Rt.bC.2 ⟨d,cR OY,hb⟩))⟩)))⟩,H6.fr⟩)
    rw [e1]
    show d.rx=if c.rx.k=6 then _ else _
    rw [if_pos (by rw [xO,h6]),Oi,Jf];rfl
  .rw [e1]
   show x.rx=if c.rx.k=6 then _ else _
   rw [if_neg (by rw [xO];exact h6),Rt.dE,hk,hl,e1]
theorem Up (x m v:Rt) (bm bv:Nat) (w:World) (hx:x.sz<=1000000) (px:x.P w) (pm:m.P w) (pv:v.P w) (hm:w.heap[bm]? =some (.cells m.c.toArray aB (0,0))) (hv:w.heap[bv]? =some (.cells v.c.toArray aB (0,0))) (em:m.rx=qU) (ev:v.rx=fL) (hk:x.k=7) (ho:nQ x.rx=true):
  Calls Tryz.prog jb #[x.v,.pointer (some (bD bm)),.pointer (some (bD bv))] w λr w'=>pM (x.fp++(m.fp++v.fp)) w (rD x.lo x.hi (Rt.bV x.l)) r w'/\bG w w':=by
 have nr:=Rt.b0 px.parts.1
 rw [Rt.dE] at ho
 cases hl:x.l with
 |nil=>rw [hl,hk] at ho;simp [nQ,Rt.bV] at ho
 |cons c l'=>
  have hg:x.l[0]? =some c:=by rw [hl];rfl
  have mc:c∈x.l:=cR hg
  have e1:Rt.bV (c::l')=c.rx::Rt.bV l':=rfl
  have H0:LH F0 w w [] [.tree x,.tree m,.tree v,sK bm m,sK bv v]:=mu _ (by
   intro e he
   simp only [cS,fF,or_false] at he
   rcases he with rfl|rfl|rfl|rfl|rfl
   .exact px
   .exact pm
   .exact pv
   .exact hm
   .exact hv)
  refine regex_forms_4.cU _ _ _ _ _ _ w _ (H0.bF λb3 w1 H1=>H1.bF λb4 w2 H2=>?_)
  have n2:0<x.s.n:=by rw [hl] at nr;simp at nr;omega
  have sc:c.sz<=1000000:=by have:=Rt.dQ mc;have:=Rt.gE x;omega
  have fc:∀b∈c.fp,b∈x.fp:=λb hb=>Rt.eO.2 (.inr (Rt.bC.2 ⟨c,mc,hb⟩))
  refine jE (show x.P w2 from H2.getD 0) rfl hg (H2.bF λb5 w3 H3=>?_)
  have isE:c.k=0\/c.k=1->∀w':World,LH F0 w w' [.g b3,.g b4,.g b5] [.tree x,.tree m,.tree v,sK bm m,sK bv v]->regex_forms_4.dV (bD bm) b4 0 0 0 ⟨none,0,0⟩ w' λr w'=>pM (x.fp++(m.fp++v.fp)) w (rD x.lo x.hi (Rt.bV (c::l'))) r w'/\bG w w':=λhc w' H=>
   ⟨_,_,_,m.s,H.uA 3 0,H.uA 3 1,H.uA 3 2,H.uA 3 3,H.aL λw4 H4=>⟨⟨m,rfl,by
    rw [em,e1]
    show _=if c.rx.k=0\/c.rx.k=1 then _ else _
    rw [xO,if_pos hc],H4.getD 1,λb hb=>.inr (by simp [hb])⟩,H4.fr⟩⟩
  have isC:¬(c.k=0\/c.k=1)->(c.k=7\/cQ c.rx fL=0)->∀w':World,LH F0 w w' [.g b3,.g b4,.g b5] [.tree x,.tree m,.tree v,sK bm m,sK bv v]->regex_forms_4.gm b4 0 0 0 ⟨none,0,0⟩ b5 c.k c.lo.toNat c.hi.toNat c.s w' λr w'=>pM (x.fp++(m.fp++v.fp)) w (rD x.lo x.hi (Rt.bV (c::l'))) r w'/\bG w w':=λhn hc w' H=>
   H.aL λw4 H4=>⟨⟨c,rfl,by
    rw [e1]
    show _=if c.rx.k=0\/c.rx.k=1 then _ else if c.rx.k=7\/cQ c.rx fL=0 then _ else _
    rw [xO,if_neg hn,if_pos hc],(show x.P w4 from H4.getD 0).parts.2.mem mc,λb hb=>.inr (by simp [fc b hb])⟩,H4.fr⟩
  refine aJ (λh0=>H3.aL λw4 H4=>isE (.inl h0) w4 H4) (λh0=>aJ (λh1=>H3.aL λw4 H4=>isE (.inr h1) w4 H4) (λh1=>aJ (λh7=>H3.aL λw4 H4=>isC (by omega) (.inl h7) w4 H4) (λh7=>H3.aL λw4 H4=>⟨_,_,_,v.s,H4.uA 4 0,H4.uA 4 1,H4.uA 4 2,H4.uA 4 3,?_⟩)))
  refine H4.aK (vJ c v w4 sc ((show x.P w4 from H4.getD 0).parts.2.mem mc) (H4.getD 2)) ?_
  rintro _ w5 rfl H5
  rw [ev]
  refine ⟨_,rfl,aJ (λhc=>isC (by omega) (.inr hc) w5 H5) (λhc=>H5.aL λw6 H6=>⟨⟨x,rfl,?_,H6.getD 0,λb hb=>.inr (by simp [hb])⟩,H6.fr⟩)⟩
  rw [e1]
  show x.rx=if c.rx.k=0\/c.rx.k=1 then _ else if c.rx.k=7\/cQ c.rx fL=0 then _ else _
  rw [xO,if_neg (by omega),if_neg (by
   rintro (h|h)
   .exact h7 h
   .exact hc h),Rt.dE,hk,hl,e1]
structure Fm where
 m:Nat
 es:Array MapEntry
 clock:Nat
 ms:List (Int×Value)
 cs:List (Nat×Rt)
 s:Sl
def m8:Rt:=.mk 0 0 0 ⟨none,0,0⟩ []
def gR:Rt:=.mk 1 0 0 ⟨none,0,0⟩ []
def Fm.ev (F:Fm):Rt:=.mk 6 0 0 F.s [m8]
def _root_.Go.W.En.fm (F:Fm):En:=.all (.ob F.m (.map F.es F.clock)::.tree F.ev::F.cs.map λp=>sK p.1 p.2)
def B3 (a b:Nat):Value:=.func (.func ji) #[] #[.pointer (some (bD a)),.pointer (some (bD b))]
def ow:Value:=.func (.func kE) #[] #[]
def Bo (cs:List (Nat×Rt)) (ev:Rt) (k:Int) (v:Value):Prop:=
 ((k=0\/k=1\/k=2)/\v=ow)\/(∃u z a b,((k=3/\u=gR/\z=m8)\/(k=4/\u=m8/\z=ev)\/(k=5/\u=ev/\z=m8))/\v=B3 a b/\(a,u)∈cs/\(b,z)∈cs)\/
 (k=6/\v=.func (.func ja) #[] #[])\/∃a b,k=7/\v=.func (.func jb) #[] #[.pointer (some (bD a)),.pointer (some (bD b))]/\(a,gR)∈cs/\(b,ev)∈cs
structure Fm.Ok (F:Fm):Prop where
 ms:Bq .i64 F.es F.ms
 all:∀k:Int,0<=k->k<8->∃v,xD F.ms k=some v/\Bo F.cs F.ev k v
section
variable {F:Fm} {w:World}
theorem UE (h:(En.fm F).P w):w.heap[F.m]? =some (.map F.es F.clock):=h (.ob F.m (.map F.es F.clock)) (by simp)
theorem M7 (h:(En.fm F).P w):F.ev.P w:=h (.tree F.ev) (by simp)
theorem yT (h:(En.fm F).P w) {a:Nat} {u:Rt} (hu:(a,u)∈F.cs):w.heap[a]? =some (.cells u.c.toArray aB (0,0)):=h (sK a u) (lr _ (lr _ (pX.2 ⟨(a,u),hu,rfl⟩)))
theorem M8 {b:Nat} (h:b∈F.ev.fp):b∈(En.fm F).fp:=aH.2 (mI.2 ⟨.tree F.ev,by simp,aH.2 h⟩)
theorem wo (w:World):m8.P w:=Jv w
theorem yR (w:World):gR.P w:=by
 unfold gR Rt.P Rt.Ps
 exact ⟨jU.nil 4 w,trivial⟩
theorem n8 {b:Nat} (h:b∈m8.fp):False:=SY h
theorem vT {b:Nat} (h:b∈gR.fp):False:=by
 unfold gR Rt.fp Rt.gV at h
 simp [En.iD] at h
theorem pM.sub {AT Yd:List Nat} {x:Rx} {r:Ending} {w':World} (h:pM AT w x r w') (hs:∀b∈AT,b∈Yd):pM Yd w x r w':=by
 obtain ⟨t,h1,h2,h3,h4⟩:=h
 exact ⟨t,h1,h2,h3,λb hb=>(h4 b hb).imp id (hs b)⟩
theorem SW:L6 Tryz.prog aP bP bI .i64 .nilFunc:=⟨by kernel_rfl,by kernel_rfl,by kernel_rfl⟩
end
theorem Fj {P:Program} {T kt et:TypeId} {kd:IntKind} {z:Value} (mo:L6 P T kt et kd z) {w:World} {mb:Nat} {es:Array MapEntry} {clock:Nat} {ms:List (Int×Value)}
  (hm:w.heap[mb]? =some (.map es clock)) (wW:Bq kd es ms) (k:Int):(Instr.lookup T (.map (some mb)) (.int kd k) false).run P w=.ok ((xD ms k).getD z) w:=by
 have hf:=tf (k:=k) (i:=0) wW
 have hg:(getObj mb).run P w=.ok (.map es clock) w:=by simp [getObj,Sem.run,hm]
 have A6:=Fl (ms:=ms) (k:=k) (i:=0)
 unfold Instr.lookup Instr.findKey
 simp only [Sem.run_bind,run_underlying mo.hT,Result.andThen_ok,hg,Sem.run_pure,vM mo.hk,run_underlying mo.hk,hf]
 cases hr:((ms.findIdx? λp=>p.1==k).bind λj=>(ms[j]?).map λp=>(0+j,p.2)) with
 |none=>rw [hr] at A6;simp [<-A6,uJ mo.hz]
 |some q=>rw [hr] at A6;simp [<-A6]
theorem Pv {N:Nat} (hS:wX N) (hN:N<=1000000) {F:Fm} (hF:F.Ok) {w:World} (h:(En.fm F).P w) (k:Int) (h0:0<=k) (h8:k<8):
  ∃f:Fv,(Instr.lookup aP (.map (some F.m)) (.i k) false).run Tryz.prog w=.ok f.v w/\fK Tryz.prog f.n=true/\∀(x:Rt) (w':World),(En.fm F).P w'->x.P w'->x.k=k->(x.k=4\/x.k=5->Wp x.k (Rt.bV x.l)<=N)->x.sz<=1000000->nQ x.rx=true->
   Calls Tryz.prog f.n (f.bs++#[x.v]++f.cs) w' λr uh=>pM (x.fp++(En.fm F).fp) w' (nE x.rx) r uh/\bG w' uh:=by
 have mo:=SW
 obtain ⟨v,hv,hg⟩:=hF.all k h0 h8
 have hl:=Fj mo (UE h) hF.ms k
 rw [hv,Option.getD_some] at hl
 have fx:∀x:Rt,nE x.rx=if x.k=3 then lG 3 (Rt.bV x.l) qU xF else if x.k=4 then lG 4 (Rt.bV x.l) xF fL else if x.k=5 then lG 5 (Rt.bV x.l) fL xF else if x.k=6 then FB x.lo x.hi (Rt.bV x.l) else if x.k=7 then rD x.lo x.hi (Rt.bV x.l) else x.rx:=λx=>by
  rw [Rt.dE];rfl
 rcases hg with ⟨hk,rfl⟩|⟨u,z',a,b,hk,rfl,ha,hb⟩|⟨rfl,rfl⟩|⟨a,b,rfl,rfl,ha,hb⟩
 .refine ⟨⟨kE,#[],#[]⟩,hl,by kernel_rfl,λx w' EM px KR Za Ns XP=>((Mu x w' px).mono ?_)⟩
  rintro _ w2 ⟨rfl,f⟩
  refine ⟨⟨x,rfl,?_,px.pI f,λb hb=>.inr (by simp [hb])⟩,f⟩
  rw [fx,if_neg (by omega),if_neg (by omega),if_neg (by omega),if_neg (by omega),if_neg (by omega)]
 .refine ⟨⟨ji,#[],#[.pointer (some (bD a)),.pointer (some (bD b))]⟩,hl,by kernel_rfl,λx w' EM px KR Za Ns XP=>?_⟩
  have pu:u.P w':=by
   rcases hk with ⟨_,rfl,_⟩|⟨_,rfl,_⟩|⟨_,rfl,_⟩
   .exact yR w'
   .exact wo w'
   .exact M7 EM
  have pz:z'.P w':=by
   rcases hk with ⟨_,_,rfl⟩|⟨_,_,rfl⟩|⟨_,_,rfl⟩
   .exact wo w'
   .exact M7 EM
   .exact wo w'
  refine (Un hS hN x u z' a b w' (λh3=>Za (by rcases hk with ⟨rfl,_⟩|⟨rfl,_⟩|⟨rfl,_⟩<;>omega)) Ns px pu pz (yT EM ha) (yT EM hb)).mono ?_
  rintro r w2 ⟨hr,f⟩
  refine ⟨?_,f⟩
  have e:nE x.rx=lG x.k (Rt.bV x.l) u.rx z'.rx:=by
   rw [fx]
   rcases hk with ⟨rfl,rfl,rfl⟩|⟨rfl,rfl,rfl⟩|⟨rfl,rfl,rfl⟩
   .rw [if_pos KR,KR];rfl
   .rw [if_neg (by omega),if_pos KR,KR];rfl
   .rw [if_neg (by omega),if_neg (by omega),if_pos KR,KR];rfl
  rw [e]
  refine hr.sub λc hc=>?_
  rcases fS.1 hc with hc|hc
  .simp [hc]
  .rcases fS.1 hc with hc|hc
   .rcases hk with ⟨_,rfl,_⟩|⟨_,rfl,_⟩|⟨_,rfl,_⟩
    .exact (vT hc).elim
    .exact (n8 hc).elim
    .exact uD _ (M8 hc)
   .rcases hk with ⟨_,_,rfl⟩|⟨_,_,rfl⟩|⟨_,_,rfl⟩
    .exact (n8 hc).elim
    .exact uD _ (M8 hc)
    .exact (n8 hc).elim
 .refine ⟨⟨ja,#[],#[]⟩,hl,by kernel_rfl,λx w' EM px KR Za Ns XP=>((WR x w' px KR XP).mono ?_)⟩
  rintro r w2 ⟨hr,f⟩
  refine ⟨?_,f⟩
  rw [fx,if_neg (by omega),if_neg (by omega),if_neg (by omega),if_pos KR]
  exact hr.sub λc hc=>by simp [hc]
 .refine ⟨⟨jb,#[],#[.pointer (some (bD a)),.pointer (some (bD b))]⟩,hl,by kernel_rfl,λx w' EM px KR Za Ns XP=>((Up x gR F.ev a b w' Ns px (yR w') (M7 EM) (yT EM ha) (yT EM hb) rfl rfl KR XP).mono ?_)⟩
  rintro r w2 ⟨hr,f⟩
  refine ⟨?_,f⟩
  rw [fx,if_neg (by omega),if_neg (by omega),if_neg (by omega),if_neg (by omega),if_pos KR]
  refine hr.sub λc hc=>?_
  rcases fS.1 hc with hc|hc
  .simp [hc]
  .rcases fS.1 hc with hc|hc
   .exact (vT hc).elim
   .exact uD _ (M8 hc)
section
variable {s:Sl} {l:List Rt} {bs:Nat}
end
theorem VJ {α:Type} {ts:List α} {i j:Nat} {a b:α} (hi:ts[i]? =some a) (hj:ts[j]? =some b) (q:Nat):((ts.set i b).set j a)[q]? =if q=j then some a else if q=i then some b else ts[q]?:=by
 have h1:=(ov.1 hi).1
 have h2:=(ov.1 hj).1
 rw [List.getElem?_set,Th,List.getElem?_set]
 by_cases e:q=j
 .subst e;simp [h2]
 .rw [if_neg (show ¬j=q from λh=>e h.symm),if_neg e]
  by_cases e2:q=i
  .subst e2;simp [h1]
  .rw [if_neg (show ¬i=q from λh=>e2 h.symm),if_neg e2]
theorem Ru {α:Type} {ts:List α} {i j:Nat} {a b:α} (hi:ts[i]? =some a) (hj:ts[j]? =some b):((ts.set i b).set j a).Perm ts:=by
 obtain ⟨h1,rfl⟩:=ov.1 hi
 obtain ⟨h2,rfl⟩:=ov.1 hj
 exact List.set_set_perm h1 h2
abbrev YR (pv x:Rt):Prop:=cQ x.rx pv.rx<0
structure T5 (l ts:List Rt) (pv:Rt) (i j:Nat):Prop where
 perm:ts.Perm l
 z:ts[0]? =some pv
 i1:1<=i
 ij:i<=j+1
 jn:j<ts.length
 lo:∀(q:Nat) x,1<=q->q<i->ts[q]? =some x->YR pv x
 hi:∀(q:Nat) x,j<q->ts[q]? =some x->¬YR pv x
theorem T5.swap {l ts:List Rt} {pv x y:Rt} {i j:Nat} (I:T5 l ts pv i j) (hx:ts[i]? =some x) (hy:ts[j]? =some y) (h:i<j) (lx:¬YR pv x) (ly:YR pv y):T5 l ((ts.set i y).set j x) pv (i+1) (j - 1):=by
 have g:=VJ hx hy
 have h1:=I.i1
 have hj:=I.jn
 refine ⟨(Ru hx hy).trans I.perm,?_,by omega,by omega,by simp only [Th];omega,λq z hq1 hq hz=>?_,λq z hq hz=>?_⟩
 .rw [g,if_neg (by omega),if_neg (by omega)];exact I.z
 .rw [g,if_neg (by omega)] at hz
  split at hz
  .cases hz;exact ly
  .exact I.lo q z hq1 (by omega) hz
 .rw [g] at hz
  split at hz
  .cases hz;exact lx
  .rw [if_neg (by omega)] at hz
   exact I.hi q z (by omega) hz
theorem N4 {s:Sl} {l:List Rt} {w:World} (hl:Rt.fQ l<=1000000) (ho:aO w aB 4 s (l.flatMap Rt.c)) (pl:Rt.Ps w l) (hd:∀x∈aZ s,x∉Rt.gV l) (A X Z:List Rt) (he:l=A++X++Z) (hX:X.length<=12) (a b:Int) (ha:a=(A.length:Int)) (hb:b=((A.length+X.length:Nat):Int)) (lim:Int) (wb wp:Bool) {R:aD}
  (hR:∀w',aO w' aB 4 s ((A++jZ X++Z).flatMap Rt.c)->Fr (·∈aZ s) w w'->R (.returned (.tuple #[])) w'):slices_pdqsortCmpFunc_regex_Regex.L0 s a b lim wb wp w R:=by
 have ll:=Rt.fG l
 have lX:A.length+X.length+Z.length=l.length:=by rw [he];simp [Nat.add_assoc]
 subst ha hb
 refine slices_pdqsortCmpFunc_regex_Regex.cC _ _ _ _ _ _ _ _ (aQ (decide_eq_true ?_) ?_)
 .rw [IntWalk.i64_in _ (by omega)]
  omega
 refine (Ej s l w hl ho pl hd A X Z he _ rfl).mono ?_
 rintro _ w2 ⟨⟨rfl,h2⟩,f2⟩
 exact ⟨rfl,hR w2 h2 f2⟩
set_option maxRecDepth 100000
theorem Pc {M:Nat->Prop} {w0 w:World} {L L' D:List En} (H:LH M w0 w L D) (h:L.Perm L'):LH M w0 w L' D:=
 ⟨H.fr,λe he=>H.own e (h.mem_iff.2 he),H.rd,λe he=>H.new e (h.mem_iff.2 he),(h.flatMap_right (·.fp)).nodup_iff.1 H.nd,λe he b hb e' mG=>H.dj e he b hb e' (h.mem_iff.2 mG)⟩
theorem fZ {L:Nat->Bool} {i j:Nat} (h:j≠i):jy L i j=L j:=by
 have:Nat.beq j i=false:=by rw [<-Bool.not_eq_true,Nat.beq_eq];exact h
 simp [jy,this]
theorem JQ {L:Nat->Bool} {i:Nat}:jy L i i=true:=by simp [jy]
theorem Ld {P:Program} {fn:Func} {E:Env} {w:World} {K:Value->Prop} {t:Nat} {v:Value} (hr:fn.results.toList=[.tmp t]) (ht:E.get? t=some v) (h:K v):rC P fn E w K:=by
 unfold rC
 rw [hr]
 unfold Aj
 rw [ht]
 exact h
def I9:List (Op×Option Nat×TypeId×List Nat):=[
 (.makeMap aP none,some 11,aP,[]),
 (.move (.tmp 4),some 12,bI,[]),
 (.insert aP (.tmp 11) (.const (.int .i64 0)) (.tmp 12),none,Lt,[0,1]),
 (.move (.tmp 4),some 13,bI,[]),
 (.insert aP (.tmp 11) (.const (.int .i64 1)) (.tmp 13),none,Lt,[0,3]),
 (.move (.tmp 4),some 14,bI,[]),
 (.insert aP (.tmp 11) (.const (.int .i64 2)) (.tmp 14),none,Lt,[0,5]),
 (.move (.tmp 5),some 15,cF,[]),
 (.load aB (.tmp 2),some 16,aB,[]),
 (.load aB (.tmp 1),some 17,aB,[]),
 (.call ⟨.value (.tmp 15),#[.tmp 16,.tmp 17],#[aB,aB]⟩,some 18,bI,[7,8,9]),
 (.insert aP (.tmp 11) (.const (.int .i64 3)) (.tmp 18),none,Lt,[0,10]),
 (.move (.tmp 5),some 19,cF,[]),
 (.load aB (.tmp 1),some 20,aB,[]),
 (.load aB (.tmp 3),some 21,aB,[]),
 (.call ⟨.value (.tmp 19),#[.tmp 20,.tmp 21],#[aB,aB]⟩,some 22,bI,[12,13,14,10]),
 (.insert aP (.tmp 11) (.const (.int .i64 4)) (.tmp 22),none,Lt,[0,15]),
 (.move (.tmp 5),some 23,cF,[]),
 (.load aB (.tmp 3),some 24,aB,[]),
 (.load aB (.tmp 1),some 25,aB,[]),
 (.call ⟨.value (.tmp 23),#[.tmp 24,.tmp 25],#[aB,aB]⟩,some 26,bI,[17,18,19,15]),
 (.insert aP (.tmp 11) (.const (.int .i64 5)) (.tmp 26),none,Lt,[0,20]),
 (.insert aP (.tmp 11) (.const (.int .i64 6)) (.func ja),none,Lt,[0]),
 (.makeFunc (.func jb) #[] #[.tmp 2,.tmp 3],some 27,bI,[]),
 (.insert aP (.tmp 11) (.const (.int .i64 7)) (.tmp 27),none,Lt,[0,23]),
 (.move (.tmp 11),some 28,aP,[0,1,2,3,4,5,6,7,8,9,10,11,12,13,14,15,16,17,18,19,20,21,22,23,24]),
 (.assign (.tmp 28),some 0,aP,[25,20,0,1,2,3,4,5,6,7,8,9,10,11,12,13,14,15,16,17,18,19,20,21,22,23,24,25])]
abbrev ptr (b:Nat):Value:=.pointer (some (bD b))
abbrev wL:Value:=.func (.func mX) #[] #[]
abbrev JW (a b:Nat):Value:=.func (.func jb) #[] #[ptr a,ptr b]
abbrev wS (s:Sl):Rt:=.mk 6 0 0 s [m8]
def mF (b1 b2 b4:Nat) (ev:Rt):List (Nat×Nat×Value):=[(0,1,ptr b1),(0,2,ptr b2),(0,3,ptr b4),(0,4,ow),(0,5,wL),(2,12,ow),(4,13,ow),(6,14,ow),(8,15,wL),(9,16,gR.v),(10,17,m8.v),(13,19,wL),(14,20,m8.v),(15,21,ev.v),(18,23,wL),(19,24,ev.v),(20,25,m8.v),(24,27,JW b2 b4)]
def l5:List (Nat×Int):=[(2,0),(4,1),(6,2),(11,3),(16,4),(21,5),(22,6),(24,7)]
def jI (ev:Rt):List (Nat×Nat×Rt×Rt):=[(10,18,gR,m8),(15,22,m8,ev),(20,26,ev,m8)]
def Joined (ev:Rt) (cs:List (Nat×Rt)) (L:Nat->Bool) (E:Env):Prop:=∀q∈jI ev,L q.1=true->∃a b,E.get? q.2.1=some (B3 a b)/\(a,q.2.2.1)∈cs/\(b,q.2.2.2)∈cs
def IH (ev:Rt) (cs:List (Nat×Rt)) (L:Nat->Bool) (E:Env) (mp:List En):Prop:=(L 0=false/\mp=[]/\(∀q∈l5,L q.1=false)/\L 25=false/\L 26=false)\/
 (L 0=true/\∃(m:Nat) (es:Array MapEntry) (clock:Nat) (ms:List (Int×Value)),mp=[.ob m (.map es clock)]/\E.get? 11=some (.map (some m))/\Bq .i64 es ms/\(∀k v,xD ms k=some v->Bo cs ev k v)/\(∀q∈l5,(xD ms q.2).isSome=L q.1)/\
  (L 25=true->E.get? 28=some (.map (some m)))/\(L 26=true->E.get? 0=some (.map (some m))))
abbrev th (b1 b2 b4:Nat) (s:Sl):List En:=[sK b1 m8,sK b2 gR,.row aB 4 s m8.c,sK b4 (wS s)]
structure FJ (w0:World) (b1 b2 b4:Nat) (s:Sl) (L:Nat->Bool) (E:Env) (w:World):Prop where
 st:vA (mF b1 b2 b4 (wS s)) L E
 hp:∃(mp X:List En) (cs:List (Nat×Rt)),LH F0 w0 w (mp++(th b1 b2 b4 s++X)) []/\(∀p∈cs,sK p.1 p.2∈th b1 b2 b4 s++X)/\(b2,gR)∈cs/\(b4,wS s)∈cs/\Joined (wS s) cs L E/\IH (wS s) cs L E mp
theorem Bo.mono {cs V':List (Nat×Rt)} {ev:Rt} {k:Int} {v:Value} (h:Bo cs ev k v) (hs:∀p∈cs,p∈V'):Bo V' ev k v:=by
 rcases h with h|⟨u,z,a,b,h1,h2,h3,h4⟩|h|⟨a,b,h1,h2,h3,h4⟩
 .exact .inl h
 .exact .inr (.inl ⟨u,z,a,b,h1,h2,hs _ h3,hs _ h4⟩)
 .exact .inr (.inr (.inl h))
 .exact .inr (.inr (.inr ⟨a,b,h1,h2,hs _ h3,hs _ h4⟩))
theorem Cb (ms:List (Int×Value)) (k k':Int) (v:Value):xD (ms++[(k,v)]) k'=(xD ms k').or (if k=k' then some v else none):=by
 unfold xD
 rw [List.find?_append]
 cases h:ms.find? (λp=>p.1==k') with
 |some p=>rfl
 |none=>
  by_cases hk:k=k'
  .simp [hk]
  .simp [hk]
section
variable {w0 w:World} {b1 b2 b4:Nat} {s:Sl} {L:Nat->Bool} {E:Env}
theorem IH.gY {ev:Rt} {cs V':List (Nat×Rt)} {mp:List En} (h:IH ev cs L E mp) (hs:∀p∈cs,p∈V') (i d:Nat) (v:Value) (hi:∀j∈[0,25,26,2,4,6,11,16,21,22,24],j≠i) (hd:∀t∈[11,28,0],d≠t):IH ev V' (jy L i) (E.put (some d) v) mp:=by
 have hn:∀q∈l5,jy L i q.1=L q.1:=λq hq=>fZ (hi _ (by simp only [l5,cS,fF,or_false] at hq;rcases hq with rfl|rfl|rfl|rfl|rfl|rfl|rfl|rfl<;>simp))
 have n0:jy L i 0=L 0:=fZ (hi 0 (by simp))
 have n25:jy L i 25=L 25:=fZ (hi 25 (by simp))
 have n26:jy L i 26=L 26:=fZ (hi 26 (by simp))
 rcases h with ⟨h0,h1,h2,h3,h4⟩|⟨h0,m,es,clock,ms,h1,h2,h3,h4,h5,h6,h7⟩
 .exact .inl ⟨by rw [n0,h0],h1,λq hq=>by rw [hn q hq,h2 q hq],by rw [n25,h3],by rw [n26,h4]⟩
 .refine .inr ⟨by rw [n0,h0],m,es,clock,ms,h1,?_,h3,λk v hk=>(h4 k v hk).mono hs,λq hq=>by rw [hn q hq,h5 q hq],λh=>?_,λh=>?_⟩
  .rw [eW (hd 11 (by simp)),h2]
  .rw [eW (hd 28 (by simp)),h6 (n25▸h)]
  .rw [eW (hd 0 (by simp)),h7 (n26▸h)]
theorem FJ.stat (h:FJ w0 b1 b2 b4 s L E w) (i d:Nat) (v:Value) (h1:∀q∈mF b1 b2 b4 (wS s),q.1=i+1->q=(i+1,d,v)) (h2:∀q∈mF b1 b2 b4 (wS s),q.2.1=d->q.1=i+1)
  (hi:∀j∈[0,25,26,2,4,6,11,16,21,22,24],j≠i) (wV:∀j∈[10,15,20],j≠i) (hd:∀t∈[11,28,0],d≠t) (Sn:∀t∈[18,22,26],d≠t):FJ w0 b1 b2 b4 s (jy L i) (E.put (some d) v) w:=by
 obtain ⟨mp,X,cs,H,hc,hm,hv,hj,wW⟩:=h.hp
 refine ⟨h.st.fill h1 h2,mp,X,cs,H,hc,hm,hv,λq hq hL=>?_,wW.gY (λ_ h=>h) i d v hi hd⟩
 have e:jy L i q.1=L q.1/\d≠q.2.1:=by
  simp only [jI,cS,fF,or_false] at hq
  rcases hq with rfl|rfl|rfl
  .exact ⟨fZ (wV 10 (by simp)),Sn 18 (by simp)⟩
  .exact ⟨fZ (wV 15 (by simp)),Sn 22 (by simp)⟩
  .exact ⟨fZ (wV 20 (by simp)),Sn 26 (by simp)⟩
 rw [eW e.2]
 exact hj q hq (e.1▸hL)
theorem FJ.ins (h:FJ w0 b1 b2 b4 s L E w) (i:Nat) (k:Int) (v:Value) (Sz:(i,k)∈l5) (h0:L 0=true) (hi:L i=false) (hv:∀cs,(b2,gR)∈cs->(b4,wS s)∈cs->Joined (wS s) cs L E->Bo cs (wS s) k v):
  ∃m,E.get? 11=some (.map (some m))/\∃w',(Instr.mapUpdate aP (.map (some m)) (.i k) v).run Tryz.prog w=.ok () w'/\FJ w0 b1 b2 b4 s (jy L i) (E.put none undef) w':=by
 obtain ⟨mp,X,cs,H,hc,hm,vt,hj,wW⟩:=h.hp
 rcases wW with ⟨v9,_⟩|⟨_,m,es,clock,ms,rfl,h2,h3,h4,h5,h6,h7⟩
 .rw [h0] at v9;cases v9
 have tj:xD ms k=none:=by
  have:=h5 _ Sz
  rw [hi] at this
  simpa using this
 obtain ⟨w',I4,r1,r2,r3,r4,r5⟩:=Bf SW (H.ob (b:=m) 0 rfl) h3 k v tj
 refine ⟨m,h2,w',r1,h.st.pass ?_ (λ_ _=>by simp),[.ob m (.map I4 (clock+1))],X,cs,H.D2 0 (.ob m (.map I4 (clock+1))) rfl (r4.mono λx _ e=>by simp [En.ob,e]) r2 (λb hb=>.inl hb),hc,hm,vt,λq hq hL=>?_,.inr ⟨?_,m,I4,clock+1,ms++[(k,v)],rfl,h2,r3,λk' v' EX=>?_,λq hq=>?_,λh=>?_,λh=>?_⟩⟩
 .intro q hq
  simp only [l5,cS,fF,or_false,Prod.mk.injEq] at Sz
  simp only [mF,cS,fF,or_false] at hq
  rcases hq with rfl|rfl|rfl|rfl|rfl|rfl|rfl|rfl|rfl|rfl|rfl|rfl|rfl|rfl|rfl|rfl|rfl|rfl<;>simp only<;>omega
 .have e:jy L i q.1=L q.1:=fZ (by
   simp only [l5,cS,fF,or_false,Prod.mk.injEq] at Sz
   simp only [jI,cS,fF,or_false] at hq
   rcases hq with rfl|rfl|rfl<;>simp only<;>omega)
  exact hj q hq (e▸hL)
 .rw [fZ (by
   simp only [l5,cS,fF,or_false,Prod.mk.injEq] at Sz
   omega),h0]
 .rw [Cb] at EX
  by_cases UU:k=k'
  .subst UU
   rw [tj] at EX
   simp at EX
   subst EX
   exact hv cs hm vt hj
  .rw [if_neg UU] at EX
   simp at EX
   exact h4 k' v' EX
 .rw [Cb]
  by_cases Qm:q.1=i
  .have:q.2=k:=by
    simp only [l5,cS,fF,or_false,Prod.mk.injEq] at Sz
    simp only [l5,cS,fF,or_false] at hq
    rcases hq with rfl|rfl|rfl|rfl|rfl|rfl|rfl|rfl<;>simp only at Qm ⊢<;>omega
   rw [Qm,JQ,this,tj,if_pos rfl];rfl
  .have:k≠q.2:=by
    simp only [l5,cS,fF,or_false,Prod.mk.injEq] at Sz
    simp only [l5,cS,fF,or_false] at hq
    rcases hq with rfl|rfl|rfl|rfl|rfl|rfl|rfl|rfl<;>simp only at Qm ⊢<;>omega
   rw [fZ Qm,if_neg this,<-h5 q hq]
   simp
 .exact h6 (by rwa [fZ (by
   simp only [l5,cS,fF,or_false,Prod.mk.injEq] at Sz
   omega)] at h)
 .exact h7 (by rwa [fZ (by
   simp only [l5,cS,fF,or_false,Prod.mk.injEq] at Sz
   omega)] at h)
theorem FJ.call (h:FJ w0 b1 b2 b4 s L E w) (i d:Nat) (u z:Rt) (KL:(i,d,u,z)∈jI (wS s)):Calls Tryz.prog mX #[u.v,z.v] w λe w'=>∃v,e=.returned v/\FJ w0 b1 b2 b4 s (jy L i) (E.put (some d) v) w':=by
 obtain ⟨mp,X,cs,H,hc,hm,vt,hj,wW⟩:=h.hp
 have hid:(i=10/\d=18)\/(i=15/\d=22)\/(i=20/\d=26):=by
  simp only [jI,cS,fF,or_false,Prod.mk.injEq] at KL
  omega
 refine regex_forms_2.ok _ _ _ _ _ _ _ _ w _ (H.nw λw1 wg H1=>H1.nw λw2 LK H2=>⟨B3 w.heap.size w1.heap.size,rfl,h.st.pass ?_ ?_,mp,X++[sK w.heap.size u,sK w1.heap.size z],(w.heap.size,u)::(w1.heap.size,z)::cs,?_,?_,by simp [hm],by simp [vt],λq hq hL=>?_,wW.gY (λp hp=>by simp [hp]) i d _ ?_ ?_⟩)
 .intro q hq
  simp only [mF,cS,fF,or_false] at hq
  rcases hq with rfl|rfl|rfl|rfl|rfl|rfl|rfl|rfl|rfl|rfl|rfl|rfl|rfl|rfl|rfl|rfl|rfl|rfl<;>simp only<;>omega
 .intro q hq he
  have he:d=q.2.1:=Option.some.inj he
  simp only [mF,cS,fF,or_false] at hq
  rcases hq with rfl|rfl|rfl|rfl|rfl|rfl|rfl|rfl|rfl|rfl|rfl|rfl|rfl|rfl|rfl|rfl|rfl|rfl<;>simp only at he<;>omega
 .have e:mp++(th b1 b2 b4 s++(X++[sK w.heap.size u,sK w1.heap.size z]))=mp++(th b1 b2 b4 s++X)++[sK w.heap.size u]++[sK w1.heap.size z]:=by simp
  rw [e]
  exact H2
 .intro p hp
  rcases cS.1 hp with rfl|hp
  .simp
  rcases cS.1 hp with rfl|hp
  .simp
  rw [<-AU]
  exact qf _ (hc p hp)
 .by_cases Qm:q.1=i
  .have:q=(i,d,u,z):=by
    simp only [jI,cS,fF,or_false,Prod.mk.injEq] at KL
    simp only [jI,cS,fF,or_false] at hq
    rcases hq with rfl|rfl|rfl<;>simp only at Qm<;>rcases KL with ⟨rfl,rfl,rfl,rfl⟩|⟨rfl,rfl,rfl,rfl⟩|⟨rfl,rfl,rfl,rfl⟩<;>first |rfl|(exact absurd Qm (by decide))
   subst this
   exact ⟨_,_,tY,by simp,by simp⟩
  .have ie:d≠q.2.1:=by
    simp only [jI,cS,fF,or_false] at hq
    rcases hq with rfl|rfl|rfl<;>simp only at Qm ⊢<;>omega
   obtain ⟨a,b,h1,h2,h3⟩:=hj q hq (by rwa [fZ Qm] at hL)
   exact ⟨a,b,by rw [eW ie,h1],by simp [h2],by simp [h3]⟩
 .intro j Y4
  simp only [cS,fF,or_false] at Y4
  omega
 .intro j Y4
  simp only [cS,fF,or_false] at Y4
  omega
theorem FJ.mk0 (h:FJ w0 b1 b2 b4 s L E w) (h0:L 0=false):FJ w0 b1 b2 b4 s (jy L 0) (E.put (some 11) (.map (some w.heap.size))) (w.alloc (.map #[] 0)):=by
 obtain ⟨mp,X,cs,H,hc,hm,vt,hj,wW⟩:=h.hp
 rcases wW with ⟨_,rfl,h2,h3,h4⟩|⟨v9,_⟩
 .refine ⟨h.st.pass ?_ ?_,[.ob w.heap.size (.map #[] 0)],X,cs,Pc (H.alloc (.map #[] 0)) ?_,hc,hm,vt,λq hq hL=>?_,.inr ⟨JQ,w.heap.size,#[],0,[],rfl,tY,rfl,λk v hk=>by simp [xD] at hk,λq hq=>?_,λh=>?_,λh=>?_⟩⟩
  .intro q hq
   simp only [mF,cS,fF,or_false] at hq
   rcases hq with rfl|rfl|rfl|rfl|rfl|rfl|rfl|rfl|rfl|rfl|rfl|rfl|rfl|rfl|rfl|rfl|rfl|rfl<;>simp
  .intro q hq he
   have he:11=q.2.1:=Option.some.inj he
   simp only [mF,cS,fF,or_false] at hq
   rcases hq with rfl|rfl|rfl|rfl|rfl|rfl|rfl|rfl|rfl|rfl|rfl|rfl|rfl|rfl|rfl|rfl|rfl|rfl<;>simp at he
  .exact List.perm_append_comm
  .have e:jy L 0 q.1=L q.1/\11≠q.2.1:=by
    simp only [jI,cS,fF,or_false] at hq
    rcases hq with rfl|rfl|rfl<;>exact ⟨fZ (by simp),by simp⟩
   rw [eW e.2]
   exact hj q hq (e.1▸hL)
  .rw [fZ (by
    simp only [l5,cS,fF,or_false] at hq
    rcases hq with rfl|rfl|rfl|rfl|rfl|rfl|rfl|rfl<;>decide),h2 q hq]
   simp [xD]
  .rw [fZ (by decide),h3] at h;cases h
  .rw [fZ (by decide),h4] at h;cases h
 .rw [h0] at v9;cases v9
theorem FJ.m25 (h:FJ w0 b1 b2 b4 s L E w) (h0:L 0=true):∃m,E.get? 11=some (.map (some m))/\FJ w0 b1 b2 b4 s (jy L 25) (E.put (some 28) (.map (some m))) w:=by
 obtain ⟨mp,X,cs,H,hc,hm,vt,hj,wW⟩:=h.hp
 rcases wW with ⟨v9,_⟩|⟨_,m,es,clock,ms,rfl,h2,h3,h4,h5,h6,h7⟩
 .rw [h0] at v9;cases v9
 refine ⟨m,h2,h.st.pass ?_ ?_,[.ob m (.map es clock)],X,cs,H,hc,hm,vt,λq hq hL=>?_,.inr ⟨by rw [fZ (by decide),h0],m,es,clock,ms,rfl,by rw [eW (by decide),h2],h3,h4,λq hq=>?_,λ_=>tY,λh=>?_⟩⟩
 .intro q hq
  simp only [mF,cS,fF,or_false] at hq
  rcases hq with rfl|rfl|rfl|rfl|rfl|rfl|rfl|rfl|rfl|rfl|rfl|rfl|rfl|rfl|rfl|rfl|rfl|rfl<;>simp
 .intro q hq he
  have he:28=q.2.1:=Option.some.inj he
  simp only [mF,cS,fF,or_false] at hq
  rcases hq with rfl|rfl|rfl|rfl|rfl|rfl|rfl|rfl|rfl|rfl|rfl|rfl|rfl|rfl|rfl|rfl|rfl|rfl<;>simp at he
 .have e:jy L 25 q.1=L q.1/\28≠q.2.1:=by
   simp only [jI,cS,fF,or_false] at hq
   rcases hq with rfl|rfl|rfl<;>exact ⟨fZ (by simp),by simp⟩
  rw [eW e.2]
  exact hj q hq (e.1▸hL)
 .rw [fZ (by
   simp only [l5,cS,fF,or_false] at hq
   rcases hq with rfl|rfl|rfl|rfl|rfl|rfl|rfl|rfl<;>decide),h5 q hq]
 .rw [eW (by decide)]
  exact h7 (by rwa [fZ (by decide)] at h)
theorem FJ.m26 (h:FJ w0 b1 b2 b4 s L E w) (h0:L 0=true) (Wc:L 25=true):∃m,E.get? 28=some (.map (some m))/\FJ w0 b1 b2 b4 s (jy L 26) (E.put (some 0) (.map (some m))) w:=by
 obtain ⟨mp,X,cs,H,hc,hm,vt,hj,wW⟩:=h.hp
 rcases wW with ⟨v9,_⟩|⟨_,m,es,clock,ms,rfl,h2,h3,h4,h5,h6,h7⟩
 .rw [h0] at v9;cases v9
 refine ⟨m,h6 Wc,h.st.pass ?_ ?_,[.ob m (.map es clock)],X,cs,H,hc,hm,vt,λq hq hL=>?_,.inr ⟨by rw [fZ (by decide),h0],m,es,clock,ms,rfl,by rw [eW (by decide),h2],h3,h4,λq hq=>?_,λh=>?_,λ_=>tY⟩⟩
 .intro q hq
  simp only [mF,cS,fF,or_false] at hq
  rcases hq with rfl|rfl|rfl|rfl|rfl|rfl|rfl|rfl|rfl|rfl|rfl|rfl|rfl|rfl|rfl|rfl|rfl|rfl<;>simp
 .intro q hq he
  have he:0=q.2.1:=Option.some.inj he
  simp only [mF,cS,fF,or_false] at hq
  rcases hq with rfl|rfl|rfl|rfl|rfl|rfl|rfl|rfl|rfl|rfl|rfl|rfl|rfl|rfl|rfl|rfl|rfl|rfl<;>simp at he
 .have e:jy L 26 q.1=L q.1/\0≠q.2.1:=by
   simp only [jI,cS,fF,or_false] at hq
   rcases hq with rfl|rfl|rfl<;>exact ⟨fZ (by simp),by simp⟩
  rw [eW e.2]
  exact hj q hq (e.1▸hL)
 .rw [fZ (by
   simp only [l5,cS,fF,or_false] at hq
   rcases hq with rfl|rfl|rfl|rfl|rfl|rfl|rfl|rfl<;>decide),h5 q hq]
 .rw [eW (by decide)]
  exact h6 Wc
theorem FJ.ld (h:FJ w0 b1 b2 b4 s L E w) {u:Rt} {b:Nat} (hu:sK b u∈th b1 b2 b4 s) {K:Value->Prop} (hk:K u.v):Bd Tryz.prog aB (bD b) w λv _=>K v:=by
 obtain ⟨mp,X,cs,H,_⟩:=h.hp
 have hb:w.heap[b]? =some (.cells u.c.toArray aB (0,0)):=H.own (sK b u) (uD _ (qf _ hu))
 have c0:=cellAt (p:=bD b) (i:=0) (v:=.int .i64 u.k) hb rfl rfl
 have c1:=cellAt (p:=bD b) (i:=1) (v:=.int .u8 (u.lo.toNat:Int)) hb rfl rfl
 have c2:=cellAt (p:=bD b) (i:=2) (v:=.int .u8 (u.hi.toNat:Int)) hb rfl rfl
 have c3:=cellAt (p:=bD b) (i:=3) (v:=u.s.v) hb rfl rfl
 have e:(Bd Tryz.prog aB (bD b) w λv _=>K v)=(∃n0:Int,∃n1:Int,∃n2:Int,∃n3:Sl,w.cell? ((bD b).add 0)=some (.int .i64 n0)/\w.cell? ((bD b).add 1)=some (.int .u8 n1)/\w.cell? ((bD b).add 2)=some (.int .u8 n2)/\w.cell? ((bD b).add 3)=some n3.v/\K (.agg #[.int .i64 n0,.int .u8 n1,.int .u8 n2,n3.v])):=by kernel_rfl
 rw [e]
 exact ⟨_,_,_,u.s,c0,c1,c2,c3,hk⟩
end
theorem PM (w:World) (b1 b2 b4:Nat) (s:Sl):allI (Pe Tryz.prog (FJ w b1 b2 b4 s)) I9 0:=
 ⟨λL E w' o ho hd ht hi dZ hJ=>VH ho (by rw [hd];exact hJ.mk0 hi),
  λL E w' o ho hd ht hi dZ hJ=>wH (.inl ho) (hJ.st.get (i:=0) (d:=4) (v:=ow) (by simp [mF]) rfl) (by rw [hd];exact hJ.stat 1 12 (ow) (by simp [mF]) (by simp [mF]) (by simp) (by simp) (by simp) (by simp)),
  λL E w' o ho hd ht hi dZ hJ=>by
   obtain ⟨m,Hx,w2,hr,wU⟩:=hJ.ins 2 0 (ow) (by simp [l5]) (dZ 0 (by simp)) hi (λcs h1 h2 h3=>.inl ⟨.inl rfl,rfl⟩)
   exact tL ho Hx rfl (hJ.st.get (i:=2) (d:=12) (v:=ow) (by simp [mF]) (dZ 1 (by simp))) ⟨w2,hr,by rw [hd];exact wU⟩,
  λL E w' o ho hd ht hi dZ hJ=>wH (.inl ho) (hJ.st.get (i:=0) (d:=4) (v:=ow) (by simp [mF]) rfl) (by rw [hd];exact hJ.stat 3 13 (ow) (by simp [mF]) (by simp [mF]) (by simp) (by simp) (by simp) (by simp)),
  λL E w' o ho hd ht hi dZ hJ=>by
   obtain ⟨m,Hx,w2,hr,wU⟩:=hJ.ins 4 1 (ow) (by simp [l5]) (dZ 0 (by simp)) hi (λcs h1 h2 h3=>.inl ⟨.inr (.inl rfl),rfl⟩)
   exact tL ho Hx rfl (hJ.st.get (i:=4) (d:=13) (v:=ow) (by simp [mF]) (dZ 3 (by simp))) ⟨w2,hr,by rw [hd];exact wU⟩,
  λL E w' o ho hd ht hi dZ hJ=>wH (.inl ho) (hJ.st.get (i:=0) (d:=4) (v:=ow) (by simp [mF]) rfl) (by rw [hd];exact hJ.stat 5 14 (ow) (by simp [mF]) (by simp [mF]) (by simp) (by simp) (by simp) (by simp)),
  λL E w' o ho hd ht hi dZ hJ=>by
   obtain ⟨m,Hx,w2,hr,wU⟩:=hJ.ins 6 2 (ow) (by simp [l5]) (dZ 0 (by simp)) hi (λcs h1 h2 h3=>.inl ⟨.inr (.inr rfl),rfl⟩)
   exact tL ho Hx rfl (hJ.st.get (i:=6) (d:=14) (v:=ow) (by simp [mF]) (dZ 5 (by simp))) ⟨w2,hr,by rw [hd];exact wU⟩,
  λL E w' o ho hd ht hi dZ hJ=>wH (.inl ho) (hJ.st.get (i:=0) (d:=5) (v:=wL) (by simp [mF]) rfl) (by rw [hd];exact hJ.stat 7 15 (wL) (by simp [mF]) (by simp [mF]) (by simp) (by simp) (by simp) (by simp)),
  λL E w' o ho hd ht hi dZ hJ=>Av ho (hJ.st.get (i:=0) (d:=2) (v:=ptr b2) (by simp [mF]) rfl) (hJ.ld (u:=gR) (b:=b2) (cR (i:=1) rfl) (K:=λv=>FJ w b1 b2 b4 s (jy L 8) (E.put o.dst v) w') (by rw [hd];exact hJ.stat 8 16 ((gR).v) (by simp [mF]) (by simp [mF]) (by simp) (by simp) (by simp) (by simp))),
  λL E w' o ho hd ht hi dZ hJ=>Av ho (hJ.st.get (i:=0) (d:=1) (v:=ptr b1) (by simp [mF]) rfl) (hJ.ld (u:=m8) (b:=b1) (cR (i:=0) rfl) (K:=λv=>FJ w b1 b2 b4 s (jy L 9) (E.put o.dst v) w') (by rw [hd];exact hJ.stat 9 17 ((m8).v) (by simp [mF]) (by simp [mF]) (by simp) (by simp) (by simp) (by simp))),
  λL E w' o ho hd ht hi dZ hJ=>by
   refine Au ho (hJ.st.get (i:=8) (d:=15) (v:=wL) (by simp [mF]) (dZ 7 (by simp))) (hJ.st.get (i:=9) (d:=16) (v:=(gR).v) (by simp [mF]) (dZ 8 (by simp))) (hJ.st.get (i:=10) (d:=17) (v:=(m8).v) (by simp [mF]) (dZ 9 (by simp))) (by kernel_rfl) ((hJ.call 10 18 (gR) (m8) (by simp [jI])).mono ?_)
   rintro e w2 ⟨v,he,wU⟩
   rw [ht,show zeroOf Tryz.prog bI=.nilFunc from by kernel_rfl]
   exact ⟨v,he,by rw [hd];exact wU⟩,
  λL E w' o ho hd ht hi dZ hJ=>by
   obtain ⟨mp,X,cs,H,hc,hm,vt,hj,wW⟩:=hJ.hp
   obtain ⟨a,b,Si,_,_⟩:=hj (10,18,gR,m8) (by simp [jI]) (dZ 10 (by simp))
   obtain ⟨m,Hx,w2,hr,wU⟩:=hJ.ins 11 3 (B3 a b) (by simp [l5]) (dZ 0 (by simp)) hi (λcs h1 h2 h3=>by
    obtain ⟨a',b',h',ha,hb⟩:=h3 (10,18,gR,m8) (by simp [jI]) (dZ 10 (by simp))
    exact .inr (.inl ⟨gR,m8,a',b',.inl ⟨rfl,rfl,rfl⟩,Option.some.inj (Si.symm.trans h'),ha,hb⟩))
   exact tL ho Hx rfl Si ⟨w2,hr,by rw [hd];exact wU⟩,
  λL E w' o ho hd ht hi dZ hJ=>wH (.inl ho) (hJ.st.get (i:=0) (d:=5) (v:=wL) (by simp [mF]) rfl) (by rw [hd];exact hJ.stat 12 19 (wL) (by simp [mF]) (by simp [mF]) (by simp) (by simp) (by simp) (by simp)),
  λL E w' o ho hd ht hi dZ hJ=>Av ho (hJ.st.get (i:=0) (d:=1) (v:=ptr b1) (by simp [mF]) rfl) (hJ.ld (u:=m8) (b:=b1) (cR (i:=0) rfl) (K:=λv=>FJ w b1 b2 b4 s (jy L 13) (E.put o.dst v) w') (by rw [hd];exact hJ.stat 13 20 ((m8).v) (by simp [mF]) (by simp [mF]) (by simp) (by simp) (by simp) (by simp))),
  λL E w' o ho hd ht hi dZ hJ=>Av ho (hJ.st.get (i:=0) (d:=3) (v:=ptr b4) (by simp [mF]) rfl) (hJ.ld (u:=wS s) (b:=b4) (cR (i:=3) rfl) (K:=λv=>FJ w b1 b2 b4 s (jy L 14) (E.put o.dst v) w') (by rw [hd];exact hJ.stat 14 21 ((wS s).v) (by simp [mF]) (by simp [mF]) (by simp) (by simp) (by simp) (by simp))),
  λL E w' o ho hd ht hi dZ hJ=>by
   refine Au ho (hJ.st.get (i:=13) (d:=19) (v:=wL) (by simp [mF]) (dZ 12 (by simp))) (hJ.st.get (i:=14) (d:=20) (v:=(m8).v) (by simp [mF]) (dZ 13 (by simp))) (hJ.st.get (i:=15) (d:=21) (v:=(wS s).v) (by simp [mF]) (dZ 14 (by simp))) (by kernel_rfl) ((hJ.call 15 22 (m8) (wS s) (by simp [jI])).mono ?_)
   rintro e w2 ⟨v,he,wU⟩
   rw [ht,show zeroOf Tryz.prog bI=.nilFunc from by kernel_rfl]
   exact ⟨v,he,by rw [hd];exact wU⟩,
  λL E w' o ho hd ht hi dZ hJ=>by
   obtain ⟨mp,X,cs,H,hc,hm,vt,hj,wW⟩:=hJ.hp
   obtain ⟨a,b,Si,_,_⟩:=hj (15,22,m8,wS s) (by simp [jI]) (dZ 15 (by simp))
   obtain ⟨m,Hx,w2,hr,wU⟩:=hJ.ins 16 4 (B3 a b) (by simp [l5]) (dZ 0 (by simp)) hi (λcs h1 h2 h3=>by
    obtain ⟨a',b',h',ha,hb⟩:=h3 (15,22,m8,wS s) (by simp [jI]) (dZ 15 (by simp))
    exact .inr (.inl ⟨m8,wS s,a',b',.inr (.inl ⟨rfl,rfl,rfl⟩),Option.some.inj (Si.symm.trans h'),ha,hb⟩))
   exact tL ho Hx rfl Si ⟨w2,hr,by rw [hd];exact wU⟩,
  λL E w' o ho hd ht hi dZ hJ=>wH (.inl ho) (hJ.st.get (i:=0) (d:=5) (v:=wL) (by simp [mF]) rfl) (by rw [hd];exact hJ.stat 17 23 (wL) (by simp [mF]) (by simp [mF]) (by simp) (by simp) (by simp) (by simp)),
  λL E w' o ho hd ht hi dZ hJ=>Av ho (hJ.st.get (i:=0) (d:=3) (v:=ptr b4) (by simp [mF]) rfl) (hJ.ld (u:=wS s) (b:=b4) (cR (i:=3) rfl) (K:=λv=>FJ w b1 b2 b4 s (jy L 18) (E.put o.dst v) w') (by rw [hd];exact hJ.stat 18 24 ((wS s).v) (by simp [mF]) (by simp [mF]) (by simp) (by simp) (by simp) (by simp))),
  λL E w' o ho hd ht hi dZ hJ=>Av ho (hJ.st.get (i:=0) (d:=1) (v:=ptr b1) (by simp [mF]) rfl) (hJ.ld (u:=m8) (b:=b1) (cR (i:=0) rfl) (K:=λv=>FJ w b1 b2 b4 s (jy L 19) (E.put o.dst v) w') (by rw [hd];exact hJ.stat 19 25 ((m8).v) (by simp [mF]) (by simp [mF]) (by simp) (by simp) (by simp) (by simp))),
  λL E w' o ho hd ht hi dZ hJ=>by
   refine Au ho (hJ.st.get (i:=18) (d:=23) (v:=wL) (by simp [mF]) (dZ 17 (by simp))) (hJ.st.get (i:=19) (d:=24) (v:=(wS s).v) (by simp [mF]) (dZ 18 (by simp))) (hJ.st.get (i:=20) (d:=25) (v:=(m8).v) (by simp [mF]) (dZ 19 (by simp))) (by kernel_rfl) ((hJ.call 20 26 (wS s) (m8) (by simp [jI])).mono ?_)
   rintro e w2 ⟨v,he,wU⟩
   rw [ht,show zeroOf Tryz.prog bI=.nilFunc from by kernel_rfl]
   exact ⟨v,he,by rw [hd];exact wU⟩,
  λL E w' o ho hd ht hi dZ hJ=>by
   obtain ⟨mp,X,cs,H,hc,hm,vt,hj,wW⟩:=hJ.hp
   obtain ⟨a,b,Si,_,_⟩:=hj (20,26,wS s,m8) (by simp [jI]) (dZ 20 (by simp))
   obtain ⟨m,Hx,w2,hr,wU⟩:=hJ.ins 21 5 (B3 a b) (by simp [l5]) (dZ 0 (by simp)) hi (λcs h1 h2 h3=>by
    obtain ⟨a',b',h',ha,hb⟩:=h3 (20,26,wS s,m8) (by simp [jI]) (dZ 20 (by simp))
    exact .inr (.inl ⟨wS s,m8,a',b',.inr (.inr ⟨rfl,rfl,rfl⟩),Option.some.inj (Si.symm.trans h'),ha,hb⟩))
   exact tL ho Hx rfl Si ⟨w2,hr,by rw [hd];exact wU⟩,
  λL E w' o ho hd ht hi dZ hJ=>by
   obtain ⟨m,Hx,w2,hr,wU⟩:=hJ.ins 22 6 (.func (.func ja) #[] #[]) (by simp [l5]) (dZ 0 (by simp)) hi (λcs h1 h2 h3=>.inr (.inr (.inl ⟨rfl,rfl⟩)))
   exact tL ho Hx rfl rfl ⟨w2,hr,by rw [hd];exact wU⟩,
  λL E w' o ho hd ht hi dZ hJ=>VG ho (hJ.st.get (i:=0) (d:=2) (v:=ptr b2) (by simp [mF]) rfl) (hJ.st.get (i:=0) (d:=3) (v:=ptr b4) (by simp [mF]) rfl) (by rw [hd];exact hJ.stat 23 27 (JW b2 b4) (by simp [mF]) (by simp [mF]) (by simp) (by simp) (by simp) (by simp)),
  λL E w' o ho hd ht hi dZ hJ=>by
   obtain ⟨m,Hx,w2,hr,wU⟩:=hJ.ins 24 7 (JW b2 b4) (by simp [l5]) (dZ 0 (by simp)) hi (λcs h1 h2 h3=>.inr (.inr (.inr ⟨b2,b4,rfl,rfl,h1,h2⟩)))
   exact tL ho Hx rfl (hJ.st.get (i:=24) (d:=27) (v:=JW b2 b4) (by simp [mF]) (dZ 23 (by simp))) ⟨w2,hr,by rw [hd];exact wU⟩,
  λL E w' o ho hd ht hi dZ hJ=>by
   obtain ⟨m,h,wU⟩:=hJ.m25 (dZ 0 (by simp))
   exact wH (.inl ho) h (by rw [hd];exact wU),
  λL E w' o ho hd ht hi dZ hJ=>by
   obtain ⟨m,h,wU⟩:=hJ.m26 (dZ 0 (by simp)) (dZ 25 (by simp))
   exact wH (.inr ho) h (by rw [hd];exact wU),trivial⟩
theorem M9 {w w1:World} {b1 b2 b4:Nat} {s:Sl} {E:Env} (H:LH F0 w w1 (th b1 b2 b4 s) []) (h1:E.get? 1=some (ptr b1)) (h2:E.get? 2=some (ptr b2)) (h3:E.get? 3=some (ptr b4)) (h4:E.get? 4=some ow) (h5:E.get? 5=some wL):FJ w b1 b2 b4 s (λ_=>false) E w1.drew:=by
 refine ⟨λq hq hc=>?_,[],[],[(b2,gR),(b4,wS s)],by simpa using H.drew,?_,by simp,by simp,λq hq hL=>(by cases hL),.inl ⟨rfl,rfl,λ_ _=>rfl,rfl,rfl⟩⟩
 .simp only [mF,cS,fF,or_false] at hq
  rcases hq with rfl|rfl|rfl|rfl|rfl|rfl|rfl|rfl|rfl|rfl|rfl|rfl|rfl|rfl|rfl|rfl|rfl|rfl<;>first |exact h1|exact h2|exact h3|exact h4|exact h5|cases hc
 .intro p hp
  simp only [cS,fF,or_false] at hp
  rcases hp with rfl|rfl<;>simp
theorem UD {w w1:World} {b1 b2 b4:Nat} {s:Sl} {L:Nat->Bool} {E:Env} (hL:∀i,i<I9.length->L i=true) (hJ:FJ w b1 b2 b4 s L E w1):∃F:Fm,E.get? 0=some (.map (some F.m))/\F.Ok/\(En.fm F).P w1/\(∀b∈(En.fm F).fp,w.heap.size<=b)/\bG w w1:=by
 have hlen:I9.length=27:=rfl
 obtain ⟨mp,X,cs,H,hc,hm,vt,hj,wW⟩:=hJ.hp
 rcases wW with ⟨v9,_⟩|⟨_,m,es,clock,ms,rfl,h2,h3,h4,h5,h6,h7⟩
 .rw [hL 0 (by omega)] at v9;cases v9
 have mem:∀p∈cs,sK p.1 p.2∈[En.ob m (.map es clock)]++(th b1 b2 b4 s++X):=λp hp=>uD _ (hc p hp)
 have iO:aO w1 aB 4 s m8.c:=H.get (e:=.row aB 4 s m8.c) 3 rfl
 refine ⟨⟨m,es,clock,ms,cs,s⟩,h7 (hL 26 (by omega)),⟨h3,λk h0 h8=>?_⟩,λe he=>?_,λb hb=>?_,H.fr⟩
 .have u0:∃i,(i,k)∈l5/\i<27:=by
   have:k=0\/k=1\/k=2\/k=3\/k=4\/k=5\/k=6\/k=7:=by omega
   rcases this with rfl|rfl|rfl|rfl|rfl|rfl|rfl|rfl
   .exact ⟨2,by simp [l5],by omega⟩
   .exact ⟨4,by simp [l5],by omega⟩
   .exact ⟨6,by simp [l5],by omega⟩
   .exact ⟨11,by simp [l5],by omega⟩
   .exact ⟨16,by simp [l5],by omega⟩
   .exact ⟨21,by simp [l5],by omega⟩
   .exact ⟨22,by simp [l5],by omega⟩
   .exact ⟨24,by simp [l5],by omega⟩
  obtain ⟨i,hi,lV⟩:=u0
  have SM:=h5 _ hi
  rw [hL i (by omega)] at SM
  obtain ⟨v,hv⟩:=Option.isSome_iff_exists.1 SM
  exact ⟨v,hv,h4 k v hv⟩
 .rcases cS.1 he with rfl|he
  .exact H.own _ (by simp)
  rcases cS.1 he with rfl|he
  .show Rt.P w1 (wS s)
   unfold Rt.P Rt.Ps Rt.Ps
   exact ⟨iO.iD,wo w1,trivial⟩
  .obtain ⟨p,hp,rfl⟩:=pX.1 he
   exact H.own _ (mem p hp)
 .obtain ⟨e,he,rS⟩:=mI.1 (aH.1 hb)
  rcases cS.1 he with rfl|he
  .exact (H.new _ (cR (i:=0) rfl) b rS).resolve_right id
  rcases cS.1 he with rfl|he
  .have eG:b∈(wS s).fp:=aH.1 rS
   unfold Rt.fp at eG
   rcases fS.1 eG with eG|eG
   .exact (H.new _ (cR (i:=3) rfl) b (fY eG)).resolve_right id
   .obtain ⟨t,ht,zH⟩:=Rt.bC.1 eG
    simp at ht
    subst ht
    exact (n8 zH).elim
  .obtain ⟨p,hp,rfl⟩:=pX.1 he
   exact (H.new _ (mem p hp) b rS).resolve_right id
theorem Pw (w:World):Calls Tryz.prog q0 #[] w λr w'=>(∃F:Fm,r=.returned (.map (some F.m))/\F.Ok/\(En.fm F).P w'/\∀b∈(En.fm F).fp,w.heap.size<=b)/\bG w w':=by
 refine regex_forms.ok w _ ((mu [] (by simp)).nw λw1 _ H1=>H1.nw λw2 _ H2=>H2.DL 0 rfl λw6 H6=>H6.DL 1 rfl λpE mJ=>⟨0,0,0,⟨none,0,0⟩,mJ.ld 0 0,mJ.ld 0 1,mJ.ld 0 2,mJ.ld 0 3,mJ.iQ (n:=1) (sz:=4) (cs:=m8.c) rfl (by decide) λsj qR=>qR.nw λrI _ qS=>qS.DL 3 rfl λLx D4=>?_⟩)
 have HB:LH F0 w Lx (th w.heap.size w1.heap.size sj.heap.size ⟨some (bD pE.heap.size),1,1⟩) []:=D4
 refine Nu I9 (by kernel_rfl) (FJ w w.heap.size w1.heap.size sj.heap.size ⟨some (bD pE.heap.size),1,1⟩) (M9 HB rfl rfl rfl rfl rfl) (PM _ _ _ _ _) λL E w2 hL hJ=>?_
 obtain ⟨F,h0,h1,h2,h3,h4⟩:=UD hL hJ
 exact Ld (by kernel_rfl) h0 ⟨⟨F,rfl,h1,h2,h3⟩,h4⟩
section
variable {M:Nat->Prop} {w0 w:World} {L D:List En}
theorem _root_.Go.W.LH.ZU (H:LH M w0 w L D) (i:Nat) {P:Program} {t ty e:TypeId} {z:Value} {sz bytes:Nat} (el:iy P t e z sz bytes) {T:TypeId} {s:Sl} {xs:List Value} {news:Array Value} {A:World->Prop} {K:Sl->World->Prop}
  (hi:L[i]? =some (.row e sz s xs)) (hA:∀w',LH M w0 w' L D->A w') (hK:∀s' w',LH M w0 w' (L.set i (.row e sz s' (xs++news.toList))) D->K s' w') (hb:(s.n+1) *bytes<=140737488355328) (hl:news.size=sz:=by rfl) (h1:∀u∈news.toList,u.oneCell'=true:=by simp [Value.oneCell']):
  fH w (.cells news T) λw1=>A w1/\∃s' w',(Builtin.append_ #[t,t] ty #[s.v,.slice (some (Addr.mk w.heap.size 0 none)) 1 1]).run P w1=.ok s'.v w'/\K s' w':=
 ⟨hA _ (H.pI (Fr.alloc _ _ _)),H.YT i el hi (λs' w' h _ _=>hK s' w' h) hb hl h1⟩
end
mutual
def gD:Rx->Rx|.mk k lo hi l=>nE (.mk k lo hi (gj l))
def gj:List Rx->List Rx
 |[]=>[]
 |a::l=>gD a::gj l
end
def Xe (N:Nat):Rx->Bool|.mk k _ _ l=>decide (k=4\/k=5->Wp k l<=N)
def vc (N:Nat) (y:Rx):Bool:=nQ y&&decide (y.sz<=1000000)&&Xe N y
mutual
def EJ (N:Nat):Rx->Bool|.mk k lo hi l=>zB N l&&vc N (.mk k lo hi (gj l))
def zB (N:Nat):List Rx->Bool
 |[]=>true
 |a::l=>EJ N a&&zB N l
end
theorem BP {N:Nat}:∀{l:List Rx} {a:Rx},zB N l=true->a∈l->EJ N a=true
 |b::l,a,h,ha=>by
  unfold zB at h
  rw [Bool.and_eq_true] at h
  rcases cS.1 ha with rfl|ha
  .exact h.1
  .exact BP h.2 ha
theorem nu:∀l:List Rx,gj l=l.map gD
 |[]=>rfl
 |a::l=>by unfold gj;rw [nu l];rfl
theorem FA {M:Nat->Prop} {w0 w:World} {L D:List En} (H:LH M w0 w L D):LH M w0 w L (D++[.trees []]):=
 H.nf (.trees []) (Fr.refl _ _) (by show Rt.Ps w [];unfold Rt.Ps;trivial) (λb hb=>by
  have:=aH.1 hb
  unfold Rt.gV at this
  cases this)
theorem rn {acc:List Rt} {t:Rt} {Q:Nat->Prop} (h:∀b∈Rt.gV acc,Q b) (ht:∀b∈t.fp,Q b):∀b∈Rt.gV (acc++[t]),Q b:=by
 intro b hb
 obtain ⟨u,hu,eG⟩:=Rt.bC.1 hb
 rcases fS.1 hu with hu|hu
 .exact h b (Rt.bC.2 ⟨u,hu,eG⟩)
 .simp at hu
  rw [hu] at eG
  exact ht b eG
abbrev ZI (N:Nat) (F:Fm) (n:Nat):Prop:=∀(x:Rt) (w:World),x.sz<=n->EJ N x.rx=true->(En.fm F).P w->x.P w->Calls Tryz.prog lO #[.map (some F.m),x.v] w λr w'=>pM (x.fp++(En.fm F).fp) w (gD x.rx) r w'/\bG w w'
theorem BB {N:Nat} (hS:wX N) (hN:N+1<=1000000) {F:Fm} (hF:F.Ok):∀n:Nat,n<=1000000->ZI N F n
 |0,_=>λx w h _ _ _=>absurd h (by have:=Rt.pD x;omega)
 |n+1,hn=>λx w h rT pF px=>by
  have ih:=BB hS hN hF n (by omega)
  have hs:=Rt.gE x
  have hl:=Rt.fG x.l
  have nr:=Rt.b0 px.parts.1
  have Np:zB N (Rt.bV x.l)=true/\vc N (.mk x.k x.lo x.hi (gj (Rt.bV x.l)))=true:=by
   rw [Rt.dE] at rT
   unfold EJ at rT
   rwa [Bool.and_eq_true] at rT
  have XA:0<=x.k/\x.k<8:=by
   have:=Np.2
   unfold vc nQ at this
   simp only [Bool.and_eq_true,decide_eq_true_eq] at this
   exact this.1.1.1
  have loop:∀(d i:Nat) (acc:List Rt) (sl:Sl) (br bt bn:Nat) (w1:World),i+d=x.l.length->Rt.bV acc=gj (Rt.bV (x.l.take i))->(∀b∈Rt.gV acc,w.heap.size<=b\/b∈x.fp++(En.fm F).fp)->
    LH F0 w w1 [.c br x.c aB,.c bt [.int .i64 0,.int .u8 0,.int .u8 0,.slice none 0 0] aB,.c bn [.int .i64 x.k,.int .u8 (x.lo.toNat:Int),.int .u8 (x.hi.toNat:Int),sl.v] aB,.row aB 4 sl (acc.flatMap Rt.c)] [.tree x,.fm F,.trees acc]->
    regex_normal.L0 (some F.m) (bD br) (bD bt) (bD bn) x.s ((x.s.n:Nat):Int) (i:Int) w1 λr w'=>pM (x.fp++(En.fm F).fp) w (gD x.rx) r w'/\bG w w':=by
   intro d
   induction d with
   |zero=>
    intro i acc sl br bt bn w1 hi he hf H
    rw [rA (by omega)] at he
    obtain ⟨f,f1,f2,f3⟩:=Pv hS (by omega) hF (H.getD 1) x.k XA.1 XA.2
    have qB:∀b∈(Rt.row sl acc).fp,w.heap.size<=b:=λb hb=>(H.new _ (cR (i:=3) rfl) b (fY hb)).resolve_right id
    have H':LH F0 w w1 [.c br x.c aB,.c bt [.int .i64 0,.int .u8 0,.int .u8 0,.slice none 0 0] aB,.c bn [.int .i64 x.k,.int .u8 (x.lo.toNat:Int),.int .u8 (x.hi.toNat:Int),sl.v] aB] [.tree x,.fm F,.trees acc,Rt.row sl acc,.tree (.mk x.k x.lo x.hi sl acc)]:=H.Iq 3 2 x.k x.lo x.hi
    have px':(Rt.mk x.k x.lo x.hi sl acc).P w1:=H'.getD 4
    have Wa:(Rt.mk x.k x.lo x.hi sl acc).rx=.mk x.k x.lo x.hi (gj (Rt.bV x.l)):=by
     unfold Rt.rx
     rw [he]
    have dP:=Np.2
    unfold vc at dP
    simp only [Bool.and_eq_true,decide_eq_true_eq] at dP
    have mH:(Rt.mk x.k x.lo x.hi sl acc).sz<=1000000:=by
     have h1:=Rt.ib (Rt.mk x.k x.lo x.hi sl acc)
     rw [Wa] at h1
     rw [<-h1];exact dP.1.2
    have No:x.k=4\/x.k=5->Wp x.k (Rt.bV acc)<=N:=λhk=>by rw [he];exact of_decide_eq_true dP.2 hk
    have enx:gD x.rx=nE (Rt.mk x.k x.lo x.hi sl acc).rx:=by
     rw [Wa,Rt.dE]
     unfold gD
     rfl
    refine regex_normal.cC _ _ _ _ _ _ _ _ _ (aI (decide_eq_false (by omega)) ⟨x.k,H.ld 0 0,f,f1,_,_,_,sl,H.ld 2 0,H.ld 2 1,H.ld 2 2,H.ld 2 3,?_⟩)
    rw [f2]
    refine (show hU true _ from ?_)
    refine (f3 (.mk x.k x.lo x.hi sl acc) w1 (H.getD 1) px' rfl No mH (by rw [Wa];exact dP.1.1)).mono ?_
    rintro _ w2 ⟨⟨t,rfl,ht,pt,ft⟩,f4⟩
    have H3:=H'.nf (.tree t) f4 pt (λb hb=>by
     rcases ft b (aH.1 hb) with hb|hb
     .exact .inl hb
     .rcases fS.1 hb with hb|hb
      .exact .inr (.inr ⟨_,cR (i:=4) rfl,aH.2 hb⟩)
      .exact .inr (.inr ⟨_,cR (i:=1) rfl,hb⟩))
    refine ⟨_,_,_,t.s,rfl,H3.DL 1 rfl λw3 H4=>⟨_,_,_,t.s,H4.ld 1 0,H4.ld 1 1,H4.ld 1 2,H4.ld 1 3,⟨t,rfl,by rw [enx];exact ht,H4.getD 5,λb hb=>?_⟩,H4.fr⟩⟩
    rcases ft b hb with hb|hb
    .exact .inl (Nat.le_trans H.fr.size hb)
    .rcases fS.1 hb with hb|hb
     .unfold Rt.fp at hb
      rcases fS.1 hb with hb|hb
      .exact .inl (qB b hb)
      .exact hf b hb
     .exact .inr (uD _ hb)
   |succ d qz=>
    intro i acc sl br bt bn w1 hi he hf H
    have hg:x.l[i]? =some (x.l[i]'(by omega)):=g8 (by omega)
    generalize x.l[i]'(by omega)=a at hg
    have ma:=cR hg
    have DN:=Rt.dQ ma
    have fa:EJ N a.rx=true:=BP Np.1 (by rw [Rt.fC];exact pX.2 ⟨a,ma,rfl⟩)
    have Xg:∀b∈a.fp,b∈x.fp:=λb hb=>Rt.eO.2 (.inr (Rt.bC.2 ⟨a,ma,hb⟩))
    refine regex_normal.cC _ _ _ _ _ _ _ _ _ (aQ (decide_eq_true (by omega)) (jE (show x.P w1 from H.getD 0) rfl hg (H.nw λw8 _ H8=>H8.DL 4 rfl λrI qS=>qS.dr λuI uu=>⟨sl,uu.ld 2 3,a.k,a.lo.toNat,a.hi.toNat,a.s,uu.ld 4 0,uu.ld 4 1,uu.ld 4 2,uu.ld 4 3,?_⟩)))
    refine (ih a uI (by omega) fa (uu.getD 1) ((show x.P uI from uu.getD 0).parts.2.mem ma)).mono ?_
    rintro _ D3 ⟨⟨t,rfl,ht,pt,ft⟩,f4⟩
    have vp:=uu.nf (.tree t) f4 pt (λb hb=>by
     rcases ft b (aH.1 hb) with hb|hb
     .exact .inl hb
     .rcases fS.1 hb with hb|hb
      .exact .inr (.inr ⟨_,cR (i:=0) rfl,aH.2 (Xg b hb)⟩)
      .exact .inr (.inr ⟨_,cR (i:=1) rfl,hb⟩))
    have aaI:acc.length=i:=by
     have h1:=congrArg List.length he
     rw [Rt.fC,nu,Rt.fC] at h1
     simp only [List.length_map,Cg] at h1
     omega
    have vb:=Rt.b0 (vp.get 3:aO _ _ _ _ _).iD
    refine ⟨_,_,_,t.s,rfl,vp.ld 2 3,vp.ZU 3 zv (xs:=acc.flatMap Rt.c) rfl (λw' H'=>H'.ld 2 3) (λs' Lx D4=>D4.st 2 3 rfl λLy xZ=>?_) (by omega)⟩
    rw [aX _ (by omega)]
    have GD:=(xZ.Ar 2 3).take 4
    refine qz (i+1) (acc++[t]) s' br bt bn Ly (by omega) ?_ (rn hf λb hb=>?_) ?_
    .rw [kz,he,GN,hg,Option.toList_some,kz,nu,nu,List.map_append]
     show _++[t.rx]=_
     rw [ht];rfl
    .rcases ft b hb with hb|hb
     .exact .inl (Nat.le_trans uu.fr.size hb)
     .rcases fS.1 hb with hb|hb
      .exact .inr (qf _ (Xg b hb))
      .exact .inr (uD _ hb)
    .rw [mV]
     exact GD.forget _ (by simp)
  refine regex_normal.ok _ _ _ _ _ w _ ((mu [.tree x,.fm F] (by
   intro e he
   simp only [cS,fF,or_false] at he
   rcases he with rfl|rfl
   .exact px
   .exact pF)).nw λw1 _ H1=>H1.nw λw2 _ H2=>⟨x.k,H2.ld 0 0,x.lo.toNat,H2.ld 0 1,x.hi.toNat,H2.ld 0 2,H2.nw λw3 _ H3=>H3.DL 2 rfl λw7 H7=>⟨x.s,H7.ld 0 3,?_⟩⟩)
  exact loop x.l.length 0 [] ⟨none,0,0⟩ _ _ _ w7 (by omega) rfl (λb hb=>by unfold Rt.gV at hb;cases hb) (FA (H7.n7 aB 4))
theorem Mw {N:Nat} (hS:wX N) (hN:N+1<=1000000) {F:Fm} (hF:F.Ok) (x:Rt) (w:World) (h:x.sz<=1000000) (rT:EJ N x.rx=true) (pF:(En.fm F).P w) (px:x.P w):Calls Tryz.prog lO #[.map (some F.m),x.v] w λr w'=>pM (x.fp++(En.fm F).fp) w (gD x.rx) r w'/\bG w w':=
 BB hS hN hF 1000000 (Nat.le_refl _) x w h rT pF px
section
variable {M:Nat->Prop} {w0 w:World} {L D:List En} {bs:List Nat}
theorem _root_.Go.W.LH.zp (H:LH M w0 w L D) {P:Program} {g:FuncId} {args:Array Value} {K:aD} {AT:List Nat} {x:Rx} (hc:Calls P g args w λr w'=>pM AT w x r w'/\bG w w') (hold:∀b∈AT,∃g∈D,b∈g.fp)
  (hk:∀(t:Rt) (w':World),t.rx=x->LH M w0 w' L (D++[.tree t])->(∀b∈t.fp,w.heap.size<=b\/b∈AT)->K (.returned t.v) w'):fE bs P g args w K:=
 nN (hc.mono λr w' ⟨⟨t,h1,h2,h3,h4⟩,f⟩=>⟨f,by
  subst h1
  exact hk t w' h2 (H.nf (.tree t) f h3 λb hb=>(h4 b (aH.1 hb)).imp id λh=>.inr (hold b h)) h4⟩)
end
end Go.Proofs.YtcifihepfadgfaaGreatDoor
