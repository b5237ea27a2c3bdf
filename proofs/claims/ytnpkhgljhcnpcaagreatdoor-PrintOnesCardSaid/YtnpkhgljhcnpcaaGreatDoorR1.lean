import Derived.Test.YtnpkhgljhcnpcaaGreatDoorB
import Derived.Test.YtnpkhgljhcnpcaaGreatDoorV
set_option linter.unusedVariables false
set_option linter.defProp false
namespace Go.Proofs.YtnpkhgljhcnpcaaGreatDoor
open Go renaming World->aA,Calls->aH,Program->aQ,Value->aD,TypeId->aP,Ending->cD
open Go.IntKind renaming wrap->aC
open _root_.Int renaming toNat->aF
open Go.IntWalk renaming i64_in->aS
open Go.Proofs.Tryz renaming prog->aB
open _root_.Decidable renaming decide->aR
open Go.Ending renaming returned->aJ
open List renaming mem_append->gg,mem_cons->dT,not_mem_nil->gL,mem_of_getElem?->dI,getElem?_eq_getElem->ie,getElem?_eq_some_iff->nY,mem_append_left->qy,mem_append_right->wL,mem_flatMap->nG,mem_map->pN,length_append->nE,append_assoc->tA,length_take->A5,flatMap_append->rS,flatMap_cons->rT,mem_cons_of_mem->mG,mem_cons_self->DL,length_set->WY,take_append_drop->Oi,drop_eq_getElem_cons->Aq,append_nil->uL,take_add_one->EE,map_cons->AK,drop_drop->WW,getElem?_drop->WX,getElem?_set_self->vw,drop_of_length_le->Ar,take_of_length_le->th,length_reverse->RP
open Go Go.W
def ik (a b:Int):Int:=if a<b then -1 else if b<a then 1 else 0
def vu:List Int->Int
 |[]=>0
 |c::l=>if c≠0 then c else vu l
def aap (a b:Int) (w:aA):aH aB pn #[.int .i64 a,.int .i64 b] w λr w'=>r=aJ (.int .i64 (ik a b))/\bW w w':=by
 refine cmp_Compare_int.ok _ _ w _ (cmp_isNaN_int.ok _ _ _ ⟨_,rfl,cmp_isNaN_int.ok _ _ _ ⟨_,rfl,?_⟩⟩)
 have e1:(a !=a)=false:=by simp
 have e2:(b !=b)=false:=by simp
 rw [e1,e2]
 refine aX rfl (aX rfl (bA (λh=>⟨?_,Fr.refl _ _⟩) (λh=>bA (λh2=>⟨?_,Fr.refl _ _⟩) (λh2=>⟨?_,Fr.refl _ _⟩))))
 .unfold ik;rw [aN h]
 .unfold ik;rw [aI h,aN h2]
 .unfold ik;rw [aI h,aI h2]
def aat (a b:Int) (w:aA):aH aB k8 #[.int .u8 a,.int .u8 b] w λr w'=>r=aJ (.int .i64 (ik a b))/\bW w w':=by
 refine cmp_Compare_byte.ok _ _ w _ (cmp_isNaN_byte.ok _ _ _ ⟨_,rfl,cmp_isNaN_byte.ok _ _ _ ⟨_,rfl,?_⟩⟩)
 have e1:(a !=a)=false:=by simp
 have e2:(b !=b)=false:=by simp
 rw [e1,e2]
 refine aX rfl (aX rfl (bA (λh=>⟨?_,Fr.refl _ _⟩) (λh=>bA (λh2=>⟨?_,Fr.refl _ _⟩) (λh2=>⟨?_,Fr.refl _ _⟩))))
 .unfold ik;rw [aN h]
 .unfold ik;rw [aI h,aN h2]
 .unfold ik;rw [aI h,aI h2]
def Y8 {w:aA} {s:Sl} {l:List Int} (h:hU w s l) (hl:l.length<=1000000):aH aB q6 #[s.v] w λr w'=>r=aJ (.int .i64 (vu l))/\bW w w':=by
 refine cmp_Or_int.ok _ w _ ?_
 have hn:=hU.len h
 have loop:∀(d i:Nat),i+d=l.length->vu (l.drop i)=vu l->cmp_Or_int.L0 0 s ((s.n:Nat):Int) (i:Int) w λr w'=>r=aJ (.int .i64 (vu l))/\bW w w':=by
  intro d
  induction d with
  |zero=>
   intro i hi he
   rw [Ar (by omega)] at he
   exact cmp_Or_int.dE _ _ _ _ _ _ (aX (aK (by omega)) ⟨by rw [<-he];rfl,Fr.refl _ _⟩)
  |succ d ih=>
   intro i hi he
   have hg:l[i]? =some (l[i]'(by omega)):=ie (by omega)
   rw [Aq (by omega)] at he
   generalize l[i]'(by omega)=c at hg he
   refine cmp_Or_int.dE _ _ _ _ _ _ (bF (aO (by omega)) ⟨by omega,by omega,hU.cell h hg (by simp) λp _ hp=>⟨c,hp,gB (λhc=>?_) (λhc=>?_)⟩⟩)
   .refine ⟨?_,Fr.refl _ _⟩
    rw [<-he];unfold vu;rw [aN hc]
   .rw [bP _ (by omega)]
    refine ih (i+1) (by omega) ?_
    rw [<-he]
    conv=>rhs;unfold vu
    rw [aI (by simpa using hc)]
 exact loop l.length 0 (by omega) (by simp)
def Ry (w:aA) (l:List Int) (n:Nat) (hn:n=l.length):hU (w.alloc (.cells (l.map l4).toArray cT)) ⟨some (bO w.heap.size),n,n⟩ l:=
 ⟨by simp [hn],Nat.le_refl _,(Row.made w cT n n (l.map l4)).Ql⟩
section
variable {M:Nat->Prop} {w0 w:aA} {L D:List En} {bs:List Nat}
def _root_.Go.W.LH.or (H:LH M w0 w L D) {l:List Int} {n:Nat} {K:aT} (hn:n=l.length) (hl:l.length<=1000000) (hk:∀w',LH M w0 w' L D->K (aJ (.int .i64 (vu l))) w'):
  gi w (.cells (l.map l4).toArray cT) λw1=>fZ bs aB q6 #[.slice (some (Addr.mk w.heap.size 0 none)) n n] w1 K:=
 (H.qx (Fr.alloc _ _ _)).bC (Y8 (s:=⟨some (bO w.heap.size),n,n⟩) (Ry w l n hn) hl) λ_ w' hr H'=>hr▸hk w' H'
end
mutual
def dO:Rx->Rx->Int
 |.mk k lo hi l,b=>if vu [ik k b.k,ik lo.toNat b.lo.toNat,ik hi.toNat b.hi.toNat]≠0 then vu [ik k b.k,ik lo.toNat b.lo.toNat,ik hi.toNat b.hi.toNat] else cmpL l b.l
def cmpL:List Rx->List Rx->Int
 |[],[]=>0
 |[],_::_=>-1
 |_::_,[]=>1
 |a::l,b::m=>if dO a b≠0 then dO a b else cmpL l m
end
abbrev VX (n:Nat):Prop:=∀(a b:Rt) (w:aA),a.sz<=n->a.P w->b.P w->aH aB bK #[a.v,b.v] w λr w'=>r=aJ (.int .i64 (dO a.rx b.rx))/\bW w w'
def Du (n:Nat) (hn:n<=1000000) (ih:VX n) (la lb:List Rt) (sa sb:Sl) (w:aA) (ha:lN 4 w sa (la.flatMap Rt.c)) (hb:lN 4 w sb (lb.flatMap Rt.c)) (pa:Rt.Ps w la) (pb:Rt.Ps w lb) (hs:Rt.gF la<=n):
  aH aB cK #[sa.v,sb.v,.func (.func bK) #[] #[]] w λr w'=>r=aJ (.int .i64 (cmpL (Rt.cR la) (Rt.cR lb)))/\bW w w':=by
 have na:=Rt.cX ha
 have nb:=Rt.cX hb
 have hl:=Rt.gj la
 have loop:∀(d i:Nat) (w1:aA),i+d=la.length->i<=lb.length->cmpL (Rt.cR (la.drop i)) (Rt.cR (lb.drop i))=cmpL (Rt.cR la) (Rt.cR lb)->LH F0 w w1 [] [Rt.row sa la,Rt.row sb lb,.trees la,.trees lb]->
   slices_CompareFunc_sl_regex_Regex_sl_regex_Regex_regex_Regex_regex_Regex.fO sa sb sa ((sa.n:Nat):Int) (i:Int) w1 λr w'=>r=aJ (.int .i64 (cmpL (Rt.cR la) (Rt.cR lb)))/\bW w w':=by
  intro d
  induction d with
  |zero=>
   intro i w1 hi hib he H
   rw [Ar (by omega)] at he
   refine slices_CompareFunc_sl_regex_Regex_sl_regex_Regex_regex_Regex_regex_Regex.bT _ _ _ _ _ _ _ (aX (aK (by omega)) (bA (λh=>⟨?_,H.fr⟩) (λh=>⟨?_,H.fr⟩)))
   .rw [Aq (by omega)] at he
    rw [<-he];rfl
   .rw [Ar (by omega)] at he
    rw [<-he];rfl
  |succ d rR=>
   intro i w1 hi hib he H
   have hg:la[i]? =some (la[i]'(by omega)):=ie (by omega)
   rw [Aq (by omega)] at he
   generalize la[i]'(by omega)=a at hg he
   refine slices_CompareFunc_sl_regex_Regex_sl_regex_Regex_regex_Regex_regex_Regex.bT _ _ _ _ _ _ _ (bF (aO (by omega)) ⟨by omega,by omega,?_⟩)
   refine Rt.at' (H.getD 0) hg λp hp c=>⟨_,_,_,_,c.c0,c.c1,c.c2,c.c3,H.cC λb8 w2 H2=>bA (λDD=>H2.bH λw3 H3=>⟨?_,H3.fr⟩) (λjO=>⟨by omega,by omega,?_⟩)⟩
   .have adn:((sb.n:Nat):Int)<=(i:Int):=DD
    rw [Ar (by omega:lb.length<=i)] at he
    rw [<-he];rfl
   .have ado:¬((sb.n:Nat):Int)<=(i:Int):=jO
    have Wq:lb[i]? =some (lb[i]'(by omega)):=ie (by omega)
    rw [Aq (by omega:i<lb.length)] at he
    generalize lb[i]'(by omega)=b at Wq he
    refine Rt.at' (H2.getD 1) Wq λq hq _=>H2.bH λw3 H3=>?_
    have c:=Rt.again (H3.getD 1) Wq hq
    refine ⟨_,_,_,_,c.c0,c.c1,c.c2,c.c3,H3.cC λb9 w4 H4=>H4.bH λw5 H5=>?_⟩
    have Gu:=Rt.eM (dI hg)
    refine H5.bC (ih a b w5 (by omega) (Rt.Ps.get (H5.getD 2) hg) (Rt.Ps.get (H5.getD 3) Wq)) ?_
    rintro _ w6 rfl H6
    have e2:cmpL (Rt.cR (a::la.drop (i+1))) (Rt.cR (b::lb.drop (i+1)))=if dO a.rx b.rx≠0 then dO a.rx b.rx else cmpL (Rt.cR (la.drop (i+1))) (Rt.cR (lb.drop (i+1))):=rfl
    rw [e2] at he
    refine ⟨_,rfl,gB (λhc=>⟨?_,H6.fr⟩) (λhc=>?_)⟩
    .rw [aN hc] at he
     rw [he]
    .rw [aI (by simpa using hc)] at he
     rw [bP _ (by omega)]
     exact rR (i+1) w6 (by omega) (by omega) he (H6.take 0)
 exact slices_CompareFunc_sl_regex_Regex_sl_regex_Regex_regex_Regex_regex_Regex.dQ _ _ w _ (loop la.length 0 w (by omega) (by omega) (by simp) (og _ (by
  intro e he
  simp only [dT,gL,or_false] at he
  rcases he with rfl|rfl|rfl|rfl
  .exact ha
  .exact hb
  .exact pa
  .exact pb)))
def Bo:∀n:Nat,n<=1000000->VX n
 |0,_=>λa b w h _ _=>absurd h (by have:=Rt.nZ a;omega)
 |n+1,hn=>λa b w h pa pb=>by
  have ih:=Bo n (by omega)
  have hs:=Rt.hM a
  have ha:=pa.parts
  have hb:=pb.parts
  refine regex_Compare.dQ _ _ _ _ _ _ _ _ w _ ((og [.tree a,.tree b] (by
   intro e he
   simp only [dT,gL,or_false] at he
   rcases he with rfl|rfl
   .exact pa
   .exact pb)).cC λb2 w1 H1=>H1.cC λb3 w2 H2=>H2.bH λw3 H3=>H3.bC (aap _ _ w3) ?_)
  rintro _ w4 rfl H4
  refine ⟨_,rfl,H4.bC (aat _ _ w4) ?_⟩
  rintro _ w5 rfl H5
  refine ⟨_,rfl,H5.bC (aat _ _ w5) ?_⟩
  rintro _ w6 rfl H6
  refine ⟨_,rfl,H6.or (l:=[ik a.k b.k,ik a.lo.toNat b.lo.toNat,ik a.hi.toNat b.hi.toNat]) rfl (by simp) λw7 H7=>?_⟩
  have e:dO a.rx b.rx=if vu [ik a.k b.k,ik a.lo.toNat b.lo.toNat,ik a.hi.toNat b.hi.toNat]≠0 then vu [ik a.k b.k,ik a.lo.toNat b.lo.toNat,ik a.hi.toNat b.hi.toNat] else cmpL (Rt.cR a.l) (Rt.cR b.l):=by
   rw [Rt.eE a,Rt.eE b];unfold dO;rfl
  refine ⟨_,rfl,gB (λhc=>⟨?_,H7.fr⟩) (λhc=>?_)⟩
  .rw [e,aN hc]
  .have pa7:a.P w7:=H7.getD 0
   have pb7:b.P w7:=H7.getD 1
   refine H7.bC (Du n (by omega) ih a.l b.l a.s b.s w7 pa7.parts.1 pb7.parts.1 pa7.parts.2 pb7.parts.2 (by omega)) ?_
   rintro _ w8 rfl H8
   refine ⟨_,rfl,?_,H8.fr⟩
   rw [e,aI (by simpa using hc)]
def DX (a b:Rt) (w:aA) (h:a.sz<=1000000) (pa:a.P w) (pb:b.P w):aH aB bK #[a.v,b.v] w λr w'=>r=aJ (.int .i64 (dO a.rx b.rx))/\bW w w':=Bo 1000000 (Nat.le_refl _) a b w h pa pb
def x8 (a b:Rt) (w:aA) (h:a.sz<=1000000) (pa:a.P w) (pb:b.P w):aH aB fE #[a.v,b.v] w λr w'=>r=aJ (.bool (dO a.rx b.rx==0))/\bW w w':=by
 refine regex_equal.dQ _ _ _ _ _ _ _ _ w _ ((og [.tree a,.tree b] (by
  intro e he
  simp only [dT,gL,or_false] at he
  rcases he with rfl|rfl
  .exact pa
  .exact pb)).cC λb2 w1 H1=>H1.cC λb3 w2 H2=>H2.bC (DX a b w2 h (H2.getD 0) (H2.getD 1)) ?_)
 rintro _ w3 rfl H3
 exact ⟨_,rfl,rfl,H3.fr⟩
def Cc {w:aA} {t:Rt} (h:t.P w):LH F0 w w [] [.tree t]:=og _ (by
 intro e he
 simp only [dT,gL,or_false] at he
 subst he
 exact h)
def qz (w:aA) (x:Rx) (r:cD) (w':aA):Prop:=∃t:Rt,r=aJ t.v/\t.rx=x/\t.P w'/\∀b∈t.fp,w.heap.size<=b
section
variable {M:Nat->Prop} {w0 w:aA} {L D:List En} {bs:List Nat}
def _root_.Go.W.LH.CF (H:LH M w0 w L D) (i j:Nat) {ts:List Rt} {t:Rt} (hi:D[i]? =some (.trees ts):=by rfl) (hj:D[j]? =some (.tree t):=by rfl):LH M w0 w L (D++[.trees (ts++[t])]):=by
 refine H.pS _ (Fr.refl _ _) (Rt.qu λt' ht=>?_) λb hb=>.inr (.inr ?_)
 .rcases gg.1 ht with ht|ht
  .exact Rt.Ps.mem (H.getD i hi) ht
  .simp at ht;subst ht;exact H.getD j hj
 .obtain ⟨t',ht,fA⟩:=Rt.bU.1 (aV.1 hb)
  rcases gg.1 ht with ht|ht
  .exact ⟨_,dI hi,aV.2 (Rt.bU.2 ⟨t',ht,fA⟩)⟩
  .simp at ht
   rw [ht] at fA
   exact ⟨_,dI hj,aV.2 fA⟩
def gP {e:aP} {s:Sl} {vs:List aD} {b:Nat} (h:b∈(En.jG 4 s vs).fp):b∈(En.row e 4 s vs).fp:=by
 have:b∈(if vs=[] then [] else bQ s):=h
 split at this
 .cases this
 .exact this
def _root_.Go.W.LH.K7 (H:LH M w0 w L D) (i j:Nat) {e:aP} {s:Sl} {ts:List Rt} (k:Int) (lo hi:UInt8) (y6:L[i]? =some (.row e 4 s (ts.flatMap Rt.c)):=by rfl) (hj:D[j]? =some (.trees ts):=by rfl):LH M w0 w (L.eraseIdx i) (D++[Rt.row s ts]++[.tree (.mk k lo hi s ts)]):=by
 have H1:=H.freeze i (Rt.row s ts) y6 (bD.jG (H.get i y6)) λb hb=>gP hb
 refine H1.pS _ (Fr.refl _ _) ?_ λb hb=>.inr (.inr ?_)
 .show Rt.P w _
  unfold Rt.P
  exact ⟨bD.jG (H.get i y6),H.getD j hj⟩
 .have fA:=aV.1 hb
  unfold Rt.fp at fA
  rcases gg.1 fA with fA|fA
  .exact ⟨_,wL _ (by simp),fA⟩
  .exact ⟨_,qy _ (dI hj),aV.2 fA⟩
end
def D2 (l:List Rt):∀u∈l.flatMap Rt.c,u.oneCell'=true:=λu hu=>by
 obtain ⟨e,_,h⟩:=nG.1 hu
 simp only [Rt.c,dT,gL,or_false] at h
 rcases h with rfl|rfl|rfl|rfl<;>rfl
def BG:jb aB aU aL (.agg #[.int .i64 0,.int .u8 0,.int .u8 0,.slice none 0 0]) 4 40:=⟨by kernel_rfl,by kernel_rfl,rfl,by decide,by decide⟩
def ou (l:List Rt) (t:Rt):(l++[t]).flatMap Rt.c=l.flatMap Rt.c++t.c:=by simp
def lJ (l m:List Rt):Rt.cR (l++m)=Rt.cR l++Rt.cR m:=by simp [Rt.fX]
def we:∀(l m:List Rt),Rt.gF (l++m)=Rt.gF l+Rt.gF m
 |[],m=>by simp [Rt.gF]
 |t::l,m=>by
  show t.sz+Rt.gF (l++m)=t.sz+Rt.gF l+Rt.gF m
  rw [we l m]
  omega
def sB (l:List Rt) (i:Nat):Rt.gF (l.take i)<=Rt.gF l:=by
 have:=we (l.take i) (l.drop i)
 rw [Oi] at this
 omega
abbrev abR (n:Nat):Prop:=∀(t:Rt) (x:Nat) (w:aA),t.sz<=n->x<=1000000->t.P w->aH aB mn #[t.v,.int .i64 (x:Int)] w λr w'=>r=aJ (.int .i64 (max ((x:Int) - t.sz) (-1)))/\bW w w'
def xZ:∀n:Nat,n<=1000000->abR n
 |0,_=>λt x w h _ _=>absurd h (by have:=Rt.nZ t;omega)
 |n+1,hn=>λt x w h hx pt=>by
  have ih:=xZ n (by omega)
  have hs:=Rt.hM t
  have hl:=Rt.gj t.l
  have loop:∀(d i:Nat) (y:Int) (b2:Nat) (w1:aA),i+d=t.l.length->-1<=y->y<=1000000->max (y - Rt.gF (t.l.drop i)) (-1)=max ((x:Int) - t.sz) (-1)->LH F0 w w1 [.g b2] [.tree t]->
    regex_countdown.mC y b2 t.k t.lo.toNat t.hi.toNat t.s (i:Int) w1 λr w'=>r=aJ (.int .i64 (max ((x:Int) - t.sz) (-1)))/\bW w w':=by
   intro d
   induction d with
   |zero=>
    intro i y b2 w1 hi hy YO he H
    have nr:=Rt.cX (show t.P w1 from H.getD 0).parts.1
    rw [Ar (by omega)] at he
    refine regex_countdown.dR _ _ _ _ _ _ _ _ _ (aX (aK (by omega)) ⟨?_,H.fr⟩)
    rw [<-he]
    congr 2
    simp only [Rt.gF]
    omega
   |succ d rR=>
    intro i y b2 w1 hi hy YO he H
    have nr:=Rt.cX (show t.P w1 from H.getD 0).parts.1
    have hg:t.l[i]? =some (t.l[i]'(by omega)):=ie (by omega)
    rw [Aq (by omega)] at he
    generalize t.l[i]'(by omega)=a at hg he
    have Gu:=Rt.eM (dI hg)
    unfold Rt.gF at he
    refine regex_countdown.dR _ _ _ _ _ _ _ _ _ (bF (aO (by omega)) (bA (λhy0=>⟨by omega,by omega,?_⟩) (λhy0=>⟨?_,H.fr⟩)))
    .have Of:t.P w1:=H.getD 0
     refine Rt.at' Of.parts.1 hg λp hp c=>⟨_,_,_,_,c.c0,c.c1,c.c2,c.c3,?_⟩
     have aaW:0<=y:=hy0
     obtain ⟨m,rfl⟩:=Int.eq_ofNat_of_zero_le aaW
     refine H.bC (ih a m w1 (by omega) (by omega) (Of.parts.2.get hg)) ?_
     rintro _ w2 rfl H2
     refine ⟨_,rfl,?_⟩
     rw [bP _ (by omega)]
     refine rR (i+1) _ b2 w2 (by omega) (by omega) (by omega) ?_ H2
     rw [<-he]
     omega
    .have aaW:¬0<=y:=hy0
     rw [<-he]
     have:y=-1:=by omega
     subst this
     congr 2
     omega
  have e:aC .i64 ((x:Int) - 1)=(x:Int) - 1:=aS _ (by omega)
  refine regex_countdown.dQ _ _ _ _ _ w _ ((Cc pt).cC λb2 w1 H1=>?_)
  rw [e]
  refine loop t.l.length 0 _ b2 w1 (by omega) (by omega) (by omega) ?_ H1
  rw [List.drop_zero,hs]
  omega
def wY (t:Rt) (w:aA) (h:t.sz<=1000000) (pt:t.P w):aH aB kL #[t.v] w λr w'=>r=aJ (.bool (aR (64<t.sz)))/\bW w w':=by
 refine regex_tooLarge.dQ _ _ _ _ w _ ((Cc pt).cC λb1 w1 H1=>H1.bC (xZ 1000000 (Nat.le_refl _) t 64 w1 h (by omega) (H1.getD 0)) ?_)
 rintro _ w2 rfl H2
 refine ⟨_,rfl,?_,H2.fr⟩
 congr 2
 exact decide_eq_decide.2 (by omega)
mutual
def eV:Rx->Bool
 |.mk k lo hi l=>!(k !=2&&(lo !=0||hi !=0))&&(if k=0\/k=1 then l.isEmpty else if k=2 then l.isEmpty&&aR (lo.toNat<=hi.toNat) else if k=3\/k=4\/k=5 then hZ l else if k=6\/k=7 then l.length==1&&hZ l else false)
def hZ:List Rx->Bool
 |[]=>true
 |t::l=>eV t&&hZ l
end
abbrev abX (n:Nat):Prop:=∀(t:Rt) (w:aA),t.sz<=n->t.P w->aH aB pq #[t.v] w λr w'=>r=aJ (.bool (eV t.rx))/\bW w w'
def Fp (l:List Rt):(Rt.cR l).isEmpty=(((l.length:Nat):Int)==0):=by
 rw [Rt.fX]
 cases l with
 |nil=>rfl
 |cons a l=>
  simp
  omega
def D3:∀n:Nat,n<=1000000->abX n
 |0,_=>λt w h _=>absurd h (by have:=Rt.nZ t;omega)
 |n+1,hn=>λt w h pt=>by
  have ih:=D3 n (by omega)
  have hs:=Rt.hM t
  have hl:=Rt.gj t.l
  have nr:=Rt.cX pt.parts.1
  have loop:∀(b:Bool),eV t.rx=(b&&hZ (Rt.cR t.l))->b=true->∀(d i:Nat) (w1:aA),i+d=t.l.length->hZ (Rt.cR (t.l.drop i))=hZ (Rt.cR t.l)->LH F0 w w1 [] [.tree t]->
    regex_proper.EX t.s ((t.s.n:Nat):Int) (i:Int) w1 λr w'=>r=aJ (.bool (eV t.rx))/\bW w w':=by
   intro b hb BY d
   subst BY
   rw [Bool.true_and] at hb
   induction d with
   |zero=>
    intro i w1 hi he H
    rw [Ar (by omega)] at he
    refine regex_proper.oY _ _ _ _ _ (aX (aK (by omega)) ⟨?_,H.fr⟩)
    rw [hb,<-he];rfl
   |succ d rR=>
    intro i w1 hi he H
    have hg:t.l[i]? =some (t.l[i]'(by omega)):=ie (by omega)
    rw [Aq (by omega)] at he
    generalize t.l[i]'(by omega)=a at hg he
    have Gu:=Rt.eM (dI hg)
    have lM:(eV a.rx&&hZ (Rt.cR (t.l.drop (i+1))))=hZ (Rt.cR t.l):=he
    have Of:t.P w1:=H.getD 0
    refine regex_proper.oY _ _ _ _ _ (bF (aO (by omega)) ⟨by omega,by omega,?_⟩)
    refine Rt.at' Of.parts.1 hg λp hp c=>⟨_,_,_,_,c.c0,c.c1,c.c2,c.c3,H.cC λb4 w2 H2=>H2.bH λw3 H3=>H3.bC (ih a w3 (by omega) ((show t.P w3 from H3.getD 0).parts.2.get hg)) ?_⟩
    rintro _ w4 rfl H4
    refine ⟨_,rfl,fP (λhf=>⟨?_,H4.fr⟩) (λht=>?_)⟩
    .rw [hb,<-lM,hf];rfl
    .rw [bP _ (by omega)]
     rw [ht,Bool.true_and] at lM
     exact rR (i+1) w4 (by omega) lM (H4.take 0)
  have er:=Rt.eE t
  have nz:∀x:UInt8,(((x.toNat:Nat):Int) !=0)=(x !=0):=λx=>by
   by_cases hx:x=0
   .subst hx;rfl
   .have h1:(x !=0)=true:=by simpa using hx
    rw [h1]
    have:x.toNat≠0:=λh0=>hx (UInt8.toNat_inj.1 (by simpa using h0))
    simp
    omega
  refine regex_proper.dQ _ _ _ _ w _ ((Cc pt).cC λb1 w1 H1=>?_)
  have out:∀b:Bool,eV t.rx=b->(Ending.returned (.bool b)=aJ (.bool (eV t.rx))/\bW w w1):=λb hb=>⟨by rw [hb],H1.fr⟩
  have s4:eV t.rx=hZ (Rt.cR t.l)->regex_proper.rm b1 t.k t.lo.toNat t.hi.toNat t.s w1 λr w'=>r=aJ (.bool (eV t.rx))/\bW w w':=λhb=>loop true (by rw [hb];rfl) rfl t.l.length 0 w1 (by omega) (by simp) (H1.take 0)
  have s1:(t.k !=2&&(t.lo !=0||t.hi !=0))=false->regex_proper.gW b1 t.k t.lo.toNat t.hi.toNat t.s w1 λr w'=>r=aJ (.bool (eV t.rx))/\bW w w':=by
   intro h0
   have eg:eV t.rx=(if t.k=0\/t.k=1 then (Rt.cR t.l).isEmpty else if t.k=2 then (Rt.cR t.l).isEmpty&&aR (t.lo.toNat<=t.hi.toNat) else if t.k=3\/t.k=4\/t.k=5 then hZ (Rt.cR t.l) else if t.k=6\/t.k=7 then (Rt.cR t.l).length==1&&hZ (Rt.cR t.l) else false):=by
    rw [er]
    unfold eV
    rw [h0];rfl
   have s2:t.k=0\/t.k=1->regex_proper.fN b1 t.k t.lo.toNat t.hi.toNat t.s w1 λr w'=>r=aJ (.bool (eV t.rx))/\bW w w':=λhk=>out _ (by rw [eg,aN hk,Fp,nr])
   have s7:t.k=6\/t.k=7->regex_proper.Lp b1 t.k t.lo.toNat t.hi.toNat t.s w1 λr w'=>r=aJ (.bool (eV t.rx))/\bW w w':=λhk=>by
    have e7:eV t.rx=((Rt.cR t.l).length==1&&hZ (Rt.cR t.l)):=by rw [eg,aI (by omega),aI (by omega),aI (by omega),aN hk]
    have el:(Rt.cR t.l).length=t.s.n:=by rw [Rt.fX];simp [nr]
    refine gB (λh1=>out false ?_) (λh1=>s4 ?_)
    .rw [e7,el]
     have:(t.s.n==1)=false:=by simp;omega
     rw [this];rfl
    .rw [e7,el]
     have:(t.s.n==1)=true:=by simp;omega
     rw [this];rfl
   have s6:t.k≠0->t.k≠1->t.k≠2->t.k≠3->t.k≠4->t.k≠5->regex_proper.zY b1 t.k t.lo.toNat t.hi.toNat t.s t.k w1 λr w'=>r=aJ (.bool (eV t.rx))/\bW w w':=λk0 k1 k2 k3 k4 k5=>
    aY (λhk=>bF (by simp [hk]) (s7 (.inl hk))) (λk6=>aY (λhk=>s7 (.inr hk)) (λk7=>out false (by rw [eg,aI (by omega),aI (by omega),aI (by omega),aI (by omega)])))
   have e4:t.k=3\/t.k=4\/t.k=5->eV t.rx=hZ (Rt.cR t.l):=λhk=>by rw [eg,aI (by omega),aI (by omega),aN hk]
   have s3:t.k≠0->t.k≠1->regex_proper.ir b1 t.k t.lo.toNat t.hi.toNat t.s t.k w1 λr w'=>r=aJ (.bool (eV t.rx))/\bW w w':=λk0 k1=>
    aY (λhk=>by
     have e2:eV t.rx=((Rt.cR t.l).isEmpty&&aR (t.lo.toNat<=t.hi.toNat)):=by rw [eg,aI (by omega),aN hk]
     refine bR (λhn=>out _ ?_) (λhn=>out false ?_)
     .rw [e2,Fp,<-nr,hn,Bool.true_and]
      exact decide_eq_decide.2 (by omega)
     .rw [e2,Fp,<-nr,hn];rfl)
    (λk2=>aY (λhk=>bF (by simp [hk]) (s4 (e4 (.inl hk)))) (λk3=>aY (λhk=>bF (by simp [hk]) (s4 (e4 (.inr (.inl hk))))) (λk4=>aY (λhk=>s4 (e4 (.inr (.inr hk)))) (λk5=>s6 k0 k1 k2 k3 k4 k5))))
   exact aY (λhk=>bF (by simp [hk]) (s2 (.inl hk))) (λk0=>aY (λhk=>s2 (.inr hk)) (λk1=>s3 k0 k1))
  have bad:(t.k !=2&&(t.lo !=0||t.hi !=0))=true->eV t.rx=false:=λhb=>by
   rw [er]
   unfold eV
   rw [hb];rfl
  refine bR (λh2=>bR (λuF=>out false (bad ?_)) (λuF=>bR (λUe=>out false (bad ?_)) (λUe=>s1 ?_))) (λh2=>s1 ?_)
  .rw [h2,<-nz,uF];rfl
  .rw [h2,<-nz t.hi,Ue];simp
  .rw [<-nz,<-nz,uF,Ue];simp
  .rw [h2];rfl
def oO (x:Rx):Int:=if 64<x.sz then 4 else if eV x then 0 else 1
def LA (t:Rt) (w:aA) (h:t.sz<=1000000) (pt:t.P w):aH aB qi #[t.v] w λr w'=>r=aJ (.int .i64 (oO t.rx))/\bW w w':=by
 refine regex_Valid.dQ _ _ _ _ w _ ((Cc pt).cC λb1 w1 H1=>H1.bC (wY t w1 h (H1.getD 0)) ?_)
 rintro _ w2 rfl H2
 refine ⟨_,rfl,bA (λhl=>⟨?_,H2.fr⟩) (λhl=>H2.bC (D3 1000000 (Nat.le_refl _) t w2 h (H2.getD 0)) ?_)⟩
 .unfold oO;rw [Rt.ja,aN hl]
 rintro _ w3 rfl H3
 refine ⟨_,rfl,fP (λhg=>⟨?_,H3.fr⟩) (λhg=>⟨?_,H3.fr⟩)⟩
 .unfold oO;rw [Rt.ja,aI hl,hg];rfl
 .unfold oO;rw [Rt.ja,aI hl,hg];rfl
abbrev abS (n:Nat):Prop:=∀(t:Rt) (w:aA),t.sz<=n->t.P w->aH aB om #[t.v] w λr w'=>qz w t.rx r w'/\bW w w'
def He:∀n:Nat,n<=1000000->abS n
 |0,_=>λt w h _=>absurd h (by have:=Rt.nZ t;omega)
 |n+1,hn=>λt w h pt=>by
  have ih:=He n (by omega)
  have hs:=Rt.hM t
  have hl:=Rt.gj t.l
  have nr:=Rt.cX pt.parts.1
  have loop:∀(d i:Nat) (ks:List Rt) (sl:Sl) (b1 b2:Nat) (w1:aA),i+d=t.l.length->ks.length=i->Rt.cR ks=Rt.cR (t.l.take i)->(∀b∈Rt.iD ks,w.heap.size<=b)->LH F0 w w1 [.g b1,.g b2,.row aL 4 sl (ks.flatMap Rt.c)] [.tree t,.trees ks]->
    regex_clone.fO b1 t.k t.lo.toNat t.hi.toNat t.s b2 0 0 0 ⟨none,0,0⟩ sl t.s ((t.s.n:Nat):Int) (i:Int) w1 λr w'=>qz w t.rx r w'/\bW w w':=by
   intro d
   induction d with
   |zero=>
    intro i ks sl b1 b2 w1 hi hk he hf H
    refine regex_clone.bT _ _ _ _ _ _ _ _ _ _ _ _ _ _ _ _ (aX (aK (by omega)) (H.bH λw2 H2=>⟨⟨.mk t.k t.lo t.hi sl ks,rfl,?_,?_,λb hb=>?_⟩,H2.fr⟩))
    .rw [Rt.eE t]
     unfold Rt.rx
     rw [he,th (by omega)]
    .unfold Rt.P
     exact ⟨bD.jG (H2.get 2),H2.getD 1⟩
    .unfold Rt.fp at hb
     rcases gg.1 hb with hb|hb
     .exact (H2.new _ (dI (i:=2) rfl) b (gP hb)).resolve_right id
     .exact hf b hb
   |succ d rR=>
    intro i ks sl b1 b2 w1 hi hk he hf H
    have hg:t.l[i]? =some (t.l[i]'(by omega)):=ie (by omega)
    generalize t.l[i]'(by omega)=a at hg
    have Gu:=Rt.eM (dI hg)
    have Of:t.P w1:=H.getD 0
    refine regex_clone.bT _ _ _ _ _ _ _ _ _ _ _ _ _ _ _ _ (bF (aO (by omega)) ⟨by omega,by omega,?_⟩)
    refine Rt.at' Of.parts.1 hg λp hp c=>⟨_,_,_,_,c.c0,c.c1,c.c2,c.c3,H.cC λb5 w2 H2=>H2.bH λw3 H3=>H3.rC (ih a w3 (by omega) ((show t.P w3 from H3.getD 0).parts.2.get hg)) ?_⟩
    rintro _ w4 ⟨u,rfl,hu,pu,fu⟩ _ F4
    have H4:=F4.rd (.tree u) pu λb hb=>fu b (aV.1 hb)
    have zp:=Rt.cX (H4.get 2:bD _ _ _ _ _).jG
    refine ⟨_,_,_,_,rfl,H4.wV 2 BG rfl (λs' w5 H5=>?_) (by omega)⟩
    have H6:=(H5.CF 1 2).take 3
    rw [bP _ (by omega)]
    refine rR (i+1) (ks++[u]) s' b1 b2 w5 (by omega) (by simp [hk]) ?_ ?_ ?_
    .rw [lJ,he,EE,hg,lJ]
     simp [Rt.cR,hu]
    .intro b hb
     obtain ⟨t',ht,fA⟩:=Rt.bU.1 hb
     rcases gg.1 ht with ht|ht
     .exact hf b (Rt.bU.2 ⟨t',ht,fA⟩)
     .simp at ht
      rw [ht] at fA
      exact Nat.le_trans H3.fr.size (fu b fA)
    .rw [ou]
     exact H6.forget _ (by simp)
  refine regex_clone.dQ _ _ _ _ w _ ((Cc pt).cC λb1 w1 H1=>H1.cC λb2 w2 H2=>?_)
  have H3:=H2.qb aL 4
  have H4:=H3.pS (.trees []) (Fr.refl _ _) (by show Rt.Ps w2 [];unfold Rt.Ps;trivial) (λb hb=>by
   have:=aV.1 hb
   unfold Rt.iD at this
   cases this)
  exact loop t.l.length 0 [] ⟨none,0,0⟩ b1 b2 w2 (by omega) rfl rfl (λb hb=>by unfold Rt.iD at hb;cases hb) H4
def Tz (t:Rt) (w:aA) (h:t.sz<=1000000) (pt:t.P w):aH aB om #[t.v] w λr w'=>qz w t.rx r w'/\bW w w':=He 1000000 (Nat.le_refl _) t w h pt
def zx:Rx:=.mk 0 0 0 []
def Ip (x:Rx):Int:=if 64<x.sz then 4 else 0
def Iq (x:Rx):Rx:=if 64<x.sz then zx else x
def V5 (w:aA) (x:Rx) (c:Int) (r:cD) (w':aA):Prop:=∃t:Rt,r=aJ (.tuple #[t.v,.int .i64 c])/\t.rx=x/\t.P w'/\∀b∈t.fp,w.heap.size<=b
def Mv (w:aA):(Rt.mk 0 0 0 ⟨none,0,0⟩ []).P w:=by
 unfold Rt.P Rt.Ps
 exact ⟨lN.nil 4 w,trivial⟩
def WN {b:Nat} (h:b∈(Rt.mk 0 0 0 ⟨none,0,0⟩ []).fp):False:=by
 unfold Rt.fp Rt.iD at h
 simp [En.jG] at h
def Nq (t:Rt) (w:aA) (h:t.sz<=1000000) (pt:t.P w):aH aB qG #[t.v] w λr w'=>V5 w (Iq t.rx) (Ip t.rx) r w'/\bW w w':=by
 refine regex_limited.dQ _ _ _ _ w _ ((Cc pt).cC λb1 w1 H1=>H1.cC λb2 w2 H2=>H2.bC (wY t w2 h (H2.getD 0)) ?_)
 rintro _ w3 rfl H3
 refine ⟨_,rfl,bA (λhl=>H3.bH λw4 H4=>⟨⟨.mk 0 0 0 ⟨none,0,0⟩ [],?_,?_,Mv _,λb hb=>(WN hb).elim⟩,H4.fr⟩) (λhl=>H3.rC (Tz t w3 h (H3.getD 0)) ?_)⟩
 .unfold Ip;rw [Rt.ja,aN hl];rfl
 .unfold Iq;rw [Rt.ja,aN hl];rfl
 rintro _ w4 ⟨u,rfl,hu,pu,fu⟩ _ F4
 have H4:=F4.rd (.tree u) pu λb hb=>fu b (aV.1 hb)
 refine ⟨_,_,_,_,rfl,H4.bH λw5 H5=>⟨⟨u,?_,?_,H5.getD 1,λb hb=>Nat.le_trans H3.fr.size (fu b hb)⟩,H5.fr⟩⟩
 .unfold Ip;rw [Rt.ja,aI hl]
 .unfold Iq;rw [Rt.ja,aI hl,hu]
def Ot {w:aA} {g:Nat} {cur:Array aD} {t:aP} (hg:w.heap[g]? =some (.cells cur t (0,0))) (vs:Array aD):w.setRow g vs=w.putObj g (.cells vs t (0,0)):=by
 unfold World.setRow World.putObj
 congr 1
 apply Array.ext_getElem?
 intro i
 rw [Array.getElem?_modify,Array.getElem?_setIfInBounds]
 by_cases hi:g=i
 .subst hi
  have:=gh hg
  simp [this,(Array.getElem?_eq_some_iff.1 hg).2]
 .simp [hi]
def aag (g k:Nat):(⟨g,0,none⟩:Addr).add k=⟨g,k,none⟩:=by
 unfold Addr.add
 split<;>simp_all
def LQ {P:aQ} {t ty e:aP} {z:aD} {sz bytes:Nat} (el:jb P t e z sz bytes) (h1:∀u∈z.cells.toList,u.oneCell'=true) (hzs:z.cells.size=sz) {w:aA} {s:Sl} {vs:List aD} (h:bD w e sz s vs) (l:Nat) (hl:l<=s.n):
  ∃w',(Builtin.clear_ #[t] ty #[.slice (if s.c=l then s.a else s.a.map (·.add (l *sz))) (s.n - l) (s.c - l)]).run P w=.ok (.tuple #[]) w'/\
   bD w' e sz ⟨if s.c=0 then s.a else s.a.map (·.add (0 *sz)),l - 0,s.c - 0⟩ (vs.take (l *sz))/\Fr (·∈bQ s) w w':=by
 have hlen:=h.len
 obtain ⟨sa,sn,sc⟩:=s
 simp only at hl hlen
 have B1:∀q:Option Addr,(if sc=0 then q else q.map (·.add (0 *sz)))=q:=λq=>by
  split
  .rfl
  .cases q with
   |none=>rfl
   |some p=>rw [Nat.zero_mul,Option.map_some,xS]
 rw [B1,Nat.sub_zero,Nat.sub_zero]
 have aaB:∀(w':aA) (g:Nat) (AF:Array aD),sa=some ⟨g,0,none⟩->sn<=sc->sc<=maxLen->w'.heap[g]? =some (.cells AF e (0,0))->AF.size=sc *sz->AF.toList.take (l *sz)=vs.take (l *sz)->bD w' e sz ⟨sa,l,sc⟩ (vs.take (l *sz)):=by
  intro w' g AF ha Uk hc hg ni ht
  subst ha
  have e1:l *sz<=sn *sz:=Nat.mul_le_mul_right _ hl
  refine ⟨by rw [A5,hlen,Nat.min_eq_left e1],.inr ⟨g,sc,AF,rfl,Nat.zero_le _,hg,by show l<=sc;omega,hc,ni,ht⟩⟩
 rcases h.cases with ⟨hs,rfl⟩|⟨g,cur,ha,hg,NM,h2,h3,h4⟩
 .cases hs
  have:l=0:=by omega
  subst this
  refine ⟨w,?_,?_,Fr.refl _ _⟩
  .simp [Builtin.clear_,run_underlying el.ht]
  .simpa using bD.nil w e sz
 .simp only at ha NM h2 h3 h4
  subst ha
  have e1:l *sz<=sn *sz:=Nat.mul_le_mul_right _ hl
  have e2:sn *sz<=sc *sz:=Nat.mul_le_mul_right _ NM
  have ht0:cur.toList.take (l *sz)=vs.take (l *sz):=by rw [<-h4,List.take_take,Nat.min_eq_left e1]
  by_cases hn:sn - l=0
  .refine ⟨w,?_,aaB w g cur rfl NM h2 hg h3 ht0,Fr.refl _ _⟩
   rw [hn]
   by_cases L8:sc=l
   .simp [Builtin.clear_,run_underlying el.ht,L8]
   .simp [Builtin.clear_,run_underlying el.ht,L8]
  .have L8:sc≠l:=by omega
   obtain ⟨inf,hi,hz,ni,Ks⟩:=info_parts el.hi
   have hzv:(zeroValue e).run P w=.ok z w:=by simp [zeroValue,typeInfo,hi,hz]
   have hlz:(Builtin.zeroCells z.cells (sn - l)).toList.length=(sn - l) *sz:=by simp [Builtin.zeroCells,hzs]
   have FF:∀v∈(Builtin.zeroCells z.cells (sn - l)).toList,v.oneCell'=true:=by
    intro v hv
    unfold Builtin.zeroCells at hv
    rw [Array.toList_map,pN] at hv
    obtain ⟨j,hj,rfl⟩:=hv
    by_cases h0:0<z.cells.size
    .have jO:j%z.cells.size<z.cells.size:=Nat.mod_lt _ h0
     rw [getElem!_pos z.cells _ jO]
     exact h1 _ (by simp)
    .have h00:z.cells.size=0:=by omega
     simp [h00] at hj
   have hle:(sn - l) *sz=sn *sz - l *sz:=Nat.sub_mul _ _ _
   have xl:l *sz+0+(Builtin.zeroCells z.cells (sn - l)).toList.length<=cur.size:=by
    rw [hlz,h3]
    omega
   have mE:=run_storeCells_at (P:=P) g (l *sz) e (Builtin.zeroCells z.cells (sn - l)).toList 0 cur w hg xl FF
   refine ⟨_,?_,aaB _ g (cur.toList.take (l *sz+0)++(Builtin.zeroCells z.cells (sn - l)).toList++cur.toList.drop (l *sz+0+(Builtin.zeroCells z.cells (sn - l)).toList.length)).toArray rfl NM h2 (setRow_heap w g cur _ e _ hg) ?_ ?_,?_⟩
   .obtain ⟨m,hm⟩:∃m,sn - l=m+1:=⟨sn - l - 1,by omega⟩
    have acq:(⟨g,0,none⟩:Addr).add (l *sz)=⟨g,l *sz,none⟩:=aag g (l *sz)
    rw [hm] at mE ⊢
    simp [Builtin.clear_,run_underlying el.ht,L8,acq,hzv,mE]
   .simp only [List.size_toArray,nE,A5,List.length_drop,hlz,Array.length_toList,h3]
    generalize (sn - l) *sz=x at *
    generalize sn *sz=y at *
    generalize sc *sz=u at *
    generalize l *sz=v at *
    omega
   .simp only [tA,Nat.add_zero]
    rw [List.take_append_of_le_length (by
     rw [A5,Array.length_toList,h3]
     exact Nat.le_min.2 ⟨Nat.le_refl _,Nat.le_trans e1 e2⟩),List.take_take,Nat.min_self]
    exact ht0
   .rw [Ot hg]
    exact (Fr.put w g _).mono λx _ e=>by simp [bQ,e]
def XI:∀u∈(Value.agg #[.int .i64 0,.int .u8 0,.int .u8 0,.slice none 0 0]).cells.toList,u.oneCell'=true:=by
 intro u hu
 simp only [Value.cells,dT,gL,or_false] at hu
 rcases hu with rfl|rfl|rfl|rfl<;>rfl
def NI {l:List Rt} {k:Nat} {t:Rt} (hk:k<l.length):((((l.flatMap Rt.c).set (k *4+0) (.int .i64 t.k)).set (k *4+1) (.int .u8 (t.lo.toNat:Int))).set (k *4+2) (.int .u8 (t.hi.toNat:Int))).set (k *4+3) t.s.v=(l.set k t).flatMap Rt.c:=by
 induction l generalizing k with
 |nil=>simp at hk
 |cons a l ih=>
  cases k with
  |zero=>simp [Rt.c]
  |succ k=>
   have xM:k<l.length:=by simpa using hk
   have e:∀j,(k+1) *4+j=(k *4+j)+4:=λj=>by omega
   rw [e 0,e 1,e 2,e 3,rT,List.set_cons_succ,rT,<-ih xM]
   simp [Rt.c]
section
variable {M:Nat->Prop} {w0 w:aA} {L D:List En} {bs:List Nat}
def _root_.Go.W.LH.abu (H:LH M w0 w L D) (i k:Nat) {s:Sl} {ts:List Rt} {t:Rt} {p:Addr} {K:aA->Prop} (hi:L[i]? =some (.row aL 4 s (ts.flatMap Rt.c))) (hp:s.a=some p) (hk:k<ts.length)
  (hK:∀w',LH M w0 w' (L.set i (.row aL 4 s ((ts.set k t).flatMap Rt.c))) D->K w') (kS:∀b∈bs,En.g b∈L:=by simp):
  cY w (p.add (k *4)) (.int .i64 t.k) λw1=>kept bs w w1/\cY w1 ((p.add (k *4)).add 1) (.int .u8 (t.lo.toNat:Int)) λw2=>kept bs w1 w2/\cY w2 ((p.add (k *4)).add 2) (.int .u8 (t.hi.toNat:Int)) λw3=>kept bs w2 w3/\cY w3 ((p.add (k *4)).add 3) t.s.v λw4=>kept bs w3 w4/\K w4:=by
 have hlen:(ts.flatMap Rt.c).length=ts.length *4:=Rt.kz ts
 have Yz:=(nY.1 hi).1
 have QY:∀{e:En} {b:Nat},(∀(w1:aA) (b':Nat),¬e.P ({w1 with heap:=Array.replicate (b'+1) (.map #[] 0)}:aA))->En.g b∈L->En.g b∈L.set i e:=by
  intro e b jx hb
  obtain ⟨j,hj⟩:=List.mem_iff_getElem?.1 hb
  by_cases Dn:i=j
  .subst Dn
   rw [hi] at hj
   exfalso
   have e1:En.row aL 4 s (ts.flatMap Rt.c)=En.g b:=Option.some.inj hj
   have SR:(En.g b).P ({w with heap:=Array.replicate (b+1) (.map #[] 0)}):=by show b<_;simp
   rw [<-e1] at SR
   by_cases hs:bQ s=[]
   .have:s.a=none:=by unfold bQ at hs;split at hs<;>simp_all
    rw [hp] at this;cases this
   .obtain ⟨x,hx⟩:=List.exists_mem_of_ne_nil _ hs
    obtain ⟨cs,f,hc⟩:=(bD.row (show bD ({w with heap:=Array.replicate (b+1) (.map #[] 0)}) aL 4 s _ from SR)).typ x hx
    rw [Array.getElem?_replicate] at hc
    split at hc<;>cases hc
  .refine dI (i:=j) ?_
   rw [List.getElem?_set_ne Dn]
   exact hj
 have tz:∀(vs:List aD) (w1:aA) (b':Nat),¬(En.row aL 4 s vs).P ({w1 with heap:=Array.replicate (b'+1) (.map #[] 0)}:aA):=by
  intro vs w1 b' h0
  have hx:p.block∈bQ s:=by simp [bQ,hp]
  obtain ⟨cs,f,hc⟩:=(bD.row (show bD ({w1 with heap:=Array.replicate (b'+1) (.map #[] 0)}) aL 4 s vs from h0)).typ _ hx
  rw [Array.getElem?_replicate] at hc
  split at hc<;>cases hc
 have g1:=H.Jf (bs:=bs) i (k *4) 0 (v:=.int .i64 t.k) (p:=p) (K:=λw1=>cY w1 ((p.add (k *4)).add 1) (.int .u8 (t.lo.toNat:Int)) λw2=>kept bs w1 w2/\cY w2 ((p.add (k *4)).add 2) (.int .u8 (t.hi.toNat:Int)) λw3=>kept bs w2 w3/\cY w3 ((p.add (k *4)).add 3) t.s.v λw4=>kept bs w3 w4/\K w4) hi hp (by rw [hlen];omega) (λw1 H1=>?_) kS
 .rw [xS] at g1
  exact g1
 refine H1.Jf (bs:=bs) i (k *4) 1 (by rw [vw Yz]) hp (by rw [WY,hlen];omega) (λw2 H2=>?_) (λb hb=>QY (tz _) (kS b hb))
 rw [List.set_set] at H2
 refine H2.Jf (bs:=bs) i (k *4) 2 (by rw [vw Yz]) hp (by simp only [WY,hlen];omega) (λw3 H3=>?_) (λb hb=>QY (tz _) (kS b hb))
 rw [List.set_set] at H3
 refine H3.Jf (bs:=bs) i (k *4) 3 (by rw [vw Yz]) hp (by simp only [WY,hlen];omega) (λw4 H4=>?_) (λb hb=>QY (tz _) (kS b hb))
 rw [List.set_set,NI hk] at H4
 exact hK w4 H4
def _root_.Go.W.LH.ac3 (H:LH M w0 w L D) (i k:Nat) {s:Sl} {ts:List Rt} {t:Rt} {p:Addr} {K:aA->Prop} (hi:L[i]? =some (.row aL 4 s (ts.flatMap Rt.c))) (hp:s.a=some p) (hk:k<ts.length)
  (hK:∀w',LH M w0 w' (L.set i (.row aL 4 s ((ts.set k t).flatMap Rt.c))) D->K w'):
  cY w (p.add (k *4)) (.int .i64 t.k) λw1=>cY w1 ((p.add (k *4)).add 1) (.int .u8 (t.lo.toNat:Int)) λw2=>cY w2 ((p.add (k *4)).add 2) (.int .u8 (t.hi.toNat:Int)) λw3=>cY w3 ((p.add (k *4)).add 3) t.s.v K:=by
 have h:=H.abu (bs:=[]) (K:=K) i k hi hp hk hK (by simp)
 exact ⟨h.1,h.2.1,h.2.2.2.1,h.2.2.2.2.1,h.2.2.2.2.2.2.1,h.2.2.2.2.2.2.2.1,h.2.2.2.2.2.2.2.2.2.1,h.2.2.2.2.2.2.2.2.2.2.1,h.2.2.2.2.2.2.2.2.2.2.2.2⟩
end
def KP {w:aA} {s:Sl} {l:List Rt} (h:bD w aL 4 s (l.flatMap Rt.c)) {i:Nat} {t:Rt} (hi:l[i]? =some t) {K:Addr->Prop} (hk:∀p,s.a=some p->Rt.qM w p i t->K p):gT s.a K:=Rt.at' h.jG hi hk
section
variable {M:Nat->Prop} {w0 w:aA} {L D:List En}
def _root_.Go.W.LH.el (H:LH M w0 w L D) (i k:Nat) {s:Sl} {ts:List Rt} {t:Rt} {X:Int} {K:Int->Int->Int->Sl->Prop} (hX:X=(k:Int)) (hg:ts[k]? =some t) (h:K t.k t.lo.toNat t.hi.toNat t.s) (hi:L[i]? =some (.row aL 4 s (ts.flatMap Rt.c)):=by rfl):
  bY s X λp=>∃a b c:Int,∃d:Sl,w.cell? ((p.add (aF X *4)).add 0)=some (.i a)/\w.cell? ((p.add (aF X *4)).add 1)=some (.int .u8 b)/\w.cell? ((p.add (aF X *4)).add 2)=some (.int .u8 c)/\w.cell? ((p.add (aF X *4)).add 3)=some d.v/\K a b c d:=by
 subst hX
 have ho:bD w aL 4 s (ts.flatMap Rt.c):=H.get i hi
 have hn:=Rt.cX ho.jG
 have hk:=(nY.1 hg).1
 exact ⟨by omega,by omega,KP ho hg λp hp c=>⟨_,_,_,_,c.c0,c.c1,c.c2,c.c3,h⟩⟩
def _root_.Go.W.LH.Yh (H:LH M w0 w L D) (i k:Nat) {s:Sl} {ts:List Rt} {t:Rt} {X:Int} {K:aA->Prop} (hX:X=(k:Int)) (hk:k<ts.length) (hK:∀w',LH M w0 w' (L.set i (.row aL 4 s ((ts.set k t).flatMap Rt.c))) D->K w') (hi:L[i]? =some (.row aL 4 s (ts.flatMap Rt.c)):=by rfl):
  bY s X λp=>cY w (p.add (aF X *4)) (.i t.k) λw1=>cY w1 ((p.add (aF X *4)).add 1) (.int .u8 (t.lo.toNat:Int)) λw2=>cY w2 ((p.add (aF X *4)).add 2) (.int .u8 (t.hi.toNat:Int)) λw3=>cY w3 ((p.add (aF X *4)).add 3) t.s.v K:=by
 subst hX
 have ho:bD w aL 4 s (ts.flatMap Rt.c):=H.get i hi
 have hn:=Rt.cX ho.jG
 have hg:ts[k]? =some ts[k]:=ie hk
 exact ⟨by omega,by omega,KP ho hg λp hp c=>H.ac3 i k hi hp hk hK⟩
end
def B2 {j:Nat} (h1:1<=j) (h2:j<=1000000000):aC .i64 ((j:Int) - 1)=((j - 1:Nat):Int):=by
 rw [aS _ (by omega)]
 omega
end Go.Proofs.YtnpkhgljhcnpcaaGreatDoor
namespace Go.Proofs.YtnpkhgljhcnpcaaGreatDoor
open Go renaming World->aA,Calls->aH,Program->aQ,Value->aD,TypeId->aP,Ending->cD
open Go.IntKind renaming wrap->aC
open _root_.Int renaming toNat->aF
open Go.IntWalk renaming i64_in->aS
open Go.Proofs.Tryz renaming prog->aB
open _root_.Decidable renaming decide->aR
open Go.Ending renaming returned->aJ
open List renaming mem_append->gg,mem_cons->dT,not_mem_nil->gL,mem_of_getElem?->dI,getElem?_eq_getElem->ie,getElem?_eq_some_iff->nY,mem_append_left->qy,mem_append_right->wL,mem_flatMap->nG,mem_map->pN,length_append->nE,append_assoc->tA,length_take->A5,flatMap_append->rS,flatMap_cons->rT,mem_cons_of_mem->mG,mem_cons_self->DL,length_set->WY,take_append_drop->Oi,drop_eq_getElem_cons->Aq,append_nil->uL,take_add_one->EE,map_cons->AK,drop_drop->WW,getElem?_drop->WX,getElem?_set_self->vw,drop_of_length_le->Ar,take_of_length_le->th,length_reverse->RP
open Go Go.W
abbrev uD (b:Nat) (u:Rt):En:=.c b u.c aL
def lhU {w:aA} {k u:Rt} {b:Nat} (pk:k.P w) (pu:u.P w) (hb:w.heap[b]? =some (.cells u.c.toArray aL (0,0))):LH F0 w w [] [.tree k,.tree u,uD b u]:=og _ (by
 intro e he
 simp only [dT,gL,or_false] at he
 rcases he with rfl|rfl|rfl
 .exact pk
 .exact pu
 .exact hb)
def LD (k u:Rt) (b:Nat) (w:aA) (h:k.sz<=1000000) (pk:k.P w) (pu:u.P w) (hb:w.heap[b]? =some (.cells u.c.toArray aL (0,0))):aH aB hC #[k.v,.pointer (some (bO b))] w λr w'=>r=aJ (.bool (dO k.rx u.rx==0))/\bW w w':=by
 refine regex_flat_1.dQ _ _ _ _ _ w _ ((lhU pk pu hb).cC λb2 w1 H1=>⟨_,_,_,u.s,H1.y7 2 0,H1.y7 2 1,H1.y7 2 2,H1.y7 2 3,H1.bC (x8 k u w1 h (H1.getD 0) (H1.getD 1)) ?_⟩)
 rintro _ w2 rfl H2
 exact ⟨_,rfl,rfl,H2.fr⟩
def J9 (k u:Rt) (b:Nat) (w:aA) (h:k.sz<=1000000) (pk:k.P w) (pu:u.P w) (hb:w.heap[b]? =some (.cells u.c.toArray aL (0,0))):aH aB kp #[k.v,.pointer (some (bO b))] w λr w'=>r=aJ (.bool (dO k.rx u.rx==0))/\bW w w':=by
 refine regex_forms_2_1_1.dQ _ _ _ _ _ w _ ((lhU pk pu hb).cC λb2 w1 H1=>⟨_,_,_,u.s,H1.y7 2 0,H1.y7 2 1,H1.y7 2 2,H1.y7 2 3,H1.bC (x8 k u w1 h (H1.getD 0) (H1.getD 1)) ?_⟩)
 rintro _ w2 rfl H2
 exact ⟨_,rfl,rfl,H2.fr⟩
def PM (k:Rt) (w:aA) (pk:k.P w):aH aB lQ #[k.v] w λr w'=>r=aJ k.v/\bW w w':=by
 refine regex_forms_1.dQ _ _ _ _ w _ ((Cc pk).cC λb1 w1 H1=>H1.cC λb2 w2 H2=>H2.bH λw3 H3=>⟨rfl,H3.fr⟩)
def AI (q:Rt->Bool):List Rt->Nat->Int
 |[],_=>-1
 |a::l,i=>if q a then (i:Int) else AI q l (i+1)
def Ii (q:Rt->Bool):∀(l:List Rt) (i:Nat),aR (AI q l i>=0)=l.any q
 |[],i=>rfl
 |a::l,i=>by
  unfold AI
  rw [List.any_cons]
  cases hq:q a with
  |true=>simp
  |false=>simpa using Ii q l (i+1)
def z5 (s:Sl) (l:List Rt) (f:Fv) (q:Rt->Bool) (D:List En) (w:aA) (hl:l.length<=1000000) (hr:lN 4 w s (l.flatMap Rt.c)) (hD:∀e∈D,e.P w) (hc:gq aB f.n=true)
  (hf:∀w' t,t∈l->LH F0 w w' [] (Rt.row s l::D)->aH aB f.n (f.bs++#[t.v]++f.cs) w' λr wP=>r=aJ (.bool (q t))/\bW w' wP):
  aH aB dG #[s.v,f.v] w λr w'=>r=aJ (.int .i64 (AI q l 0))/\bW w w':=by
 have nr:=Rt.cX hr
 have loop:∀(d i:Nat) (w1:aA),i+d=l.length->AI q (l.drop i) i=AI q l 0->LH F0 w w1 [] (Rt.row s l::D)->slices_IndexFunc_sl_regex_Regex_regex_Regex.L0 s f ((s.n:Nat):Int) (i:Int) w1 λr w'=>r=aJ (.int .i64 (AI q l 0))/\bW w w':=by
  intro d
  induction d with
  |zero=>
   intro i w1 hi he H
   rw [Ar (by omega)] at he
   exact slices_IndexFunc_sl_regex_Regex_regex_Regex.dE _ _ _ _ _ _ (aX (aK (by omega)) ⟨by rw [<-he];rfl,H.fr⟩)
  |succ d rR=>
   intro i w1 hi he H
   have hg:l[i]? =some (l[i]'(by omega)):=ie (by omega)
   rw [Aq (by omega:i<l.length)] at he
   generalize l[i]'(by omega)=x at hg he
   refine slices_IndexFunc_sl_regex_Regex_regex_Regex.dE _ _ _ _ _ _ (bF (aO (by omega)) ⟨by omega,by omega,Rt.at' (H.getD 0) hg λp hp c=>⟨x.k,x.lo.toNat,x.hi.toNat,x.s,c.c0,c.c1,c.c2,c.c3,?_⟩⟩)
   rw [hc]
   refine (show iW true _ from ?_)
   refine H.call (hf w1 x (dI hg) H) ?_
   rintro _ w2 rfl H2
   have he:(if q x then (i:Int) else AI q (l.drop (i+1)) (i+1))=AI q l 0:=he
   refine ⟨_,rfl,bR (λhq=>⟨?_,H2.fr⟩) (λhq=>?_)⟩
   .rw [aN hq] at he
    rw [he]
   .rw [aI (by rw [hq];simp)] at he
    rw [bP _ (by omega)]
    exact rR (i+1) w2 (by omega) he H2
 refine slices_IndexFunc_sl_regex_Regex_regex_Regex.ok _ _ w _ (loop l.length 0 w (by omega) (by simp) (og _ (λe he=>?_)))
 rcases dT.1 he with rfl|he
 .exact hr
 .exact hD e he
def Bp (s:Sl) (l:List Rt) (f:Fv) (q:Rt->Bool) (D:List En) (w:aA) (hl:l.length<=1000000) (hr:lN 4 w s (l.flatMap Rt.c)) (hD:∀e∈D,e.P w) (hc:gq aB f.n=true)
  (hf:∀w' t,t∈l->LH F0 w w' [] (Rt.row s l::D)->aH aB f.n (f.bs++#[t.v]++f.cs) w' λr wP=>r=aJ (.bool (q t))/\bW w' wP):
  aH aB dY #[s.v,f.v] w λr w'=>r=aJ (.bool (l.any q))/\bW w w':=by
 refine slices_ContainsFunc_sl_regex_Regex_regex_Regex.ok _ _ w _ ((z5 s l f q D w hl hr hD hc hf).mono ?_)
 rintro _ w1 ⟨rfl,f1⟩
 refine ⟨_,rfl,?_,f1⟩
 rw [Ii]
def Em (q:Rt->Bool):∀(l:List Rt) (k:Nat),(AI q l k=-1/\∀t∈l,q t=false)\/∃m a,l[m]? =some a/\q a=true/\AI q l k=((k+m:Nat):Int)/\∀t∈l.take m,q t=false
 |[],k=>.inl ⟨rfl,by simp⟩
 |a::l,k=>by
  unfold AI
  cases hq:q a with
  |true=>exact .inr ⟨0,a,rfl,hq,by simp,by simp⟩
  |false=>
   rcases Em q l (k+1) with ⟨h1,h2⟩|⟨m,x,h1,h2,h3,h4⟩
   .exact .inl ⟨by simpa using h1,by simpa [hq] using h2⟩
   .refine .inr ⟨m+1,x,by simpa using h1,h2,?_,?_⟩
    .simp only [h3,Bool.false_eq_true,if_false]
     omega
    .simp only [List.take_succ_cons,dT,forall_eq_or_imp]
     exact ⟨hq,h4⟩
section
variable {M:Nat->Prop} {w0 w:aA} {L D:List En} {bs:List Nat}
def _root_.Go.W.LH.P8 (H:LH M w0 w L D) (i:Nat) {P:aQ} {g:FuncId} {args:Array aD} {A K:aT} {e:aP} {sz:Nat} {s:Sl} {xs:List aD} (hi:L[i]? =some (.row e sz s xs))
  (hc:aH P g args w λr w'=>A r w'/\Fr (·∈bQ s) w w') (hk:∀r w',A r w'->(∀e':En,e'.P w'->(∀b∈e'.fp,b∈bQ s\/w.heap.size<=b)->LH M w0 w' (L.set i e') D)->K r w') (kS:∀b∈bs,En.g b∈L:=by simp):fZ bs P g args w K:=
 ⟨(·∈bQ s),λb hb=>H.BS hi (kS b hb),hc.mono λr w' ⟨ha,f⟩=>⟨f,hk r w' ha λe' he hf=>H.CX i e' hi f he hf⟩⟩
def _root_.Go.W.LH.off (H:LH M w0 w L D) (i j:Nat) {e:aP} {sz:Nat} {s:Sl} {xs:List aD} {d:En} (hi:L[i]? =some (.row e sz s xs):=by rfl) (hj:D[j]? =some d:=by rfl):∀x∈bQ s,x∉d.fp:=λx hx hd=>
 H.dj d (dI hj) x hd _ (dI hi) hx
end
def Pm (s:Sl) (l:List Rt) (r:cD) (w w':aA):Prop:=∃s':Sl,r=aJ s'.v/\bD w' aL 4 s' (l.flatMap Rt.c)/\∀x∈bQ s',x∈bQ s
def lhR {w:aA} {s:Sl} {l:List Rt} (D:List En) (ho:bD w aL 4 s (l.flatMap Rt.c)) (h:∀e∈D,e.P w/\∀x∈bQ s,x∉e.fp):LH (·∈bQ s) w w [.row aL 4 s (l.flatMap Rt.c)] D:=
 LH.uf _ _ (by
  intro e he
  simp only [dT,gL,or_false] at he
  subst he
  exact ⟨ho,λb hb=>hb⟩) (by
  simp only [rT,List.flatMap_nil,uL]
  exact (En.row aL 4 s (l.flatMap Rt.c)).nd) (λe he=>⟨(h e he).1,λb hb e' lM=>by
  simp only [dT,gL,or_false] at lM
  subst lM
  exact λhx=>(h e he).2 b hx hb⟩)
def wO {α:Type} {l:List α} {i:Nat} {a:α} (h:i<l.length):(l.set i a).take (i+1)=l.take i++[a]:=by
 rw [EE,vw h,List.take_set_of_le (Nat.le_refl _)]
 rfl
def Fa (s:Sl) (l:List Rt) (u:Rt) (b:Nat) (w:aA) (hl:Rt.gF l<=1000000) (ho:bD w aL 4 s (l.flatMap Rt.c)) (pl:Rt.Ps w l) (pu:u.P w) (hb:w.heap[b]? =some (.cells u.c.toArray aL (0,0)))
  (hd:∀x∈bQ s,x∉Rt.iD l/\x∉u.fp/\x≠b):
  aH aB eH #[s.v,.func (.func hC) #[] #[.pointer (some (bO b))]] w λr w'=>Pm s (l.filter λt=>!(dO t.rx u.rx==0)) r w w'/\Fr (·∈bQ s) w w':=by
 have nr:=Rt.cX ho.jG
 have ll:=Rt.gj l
 have kt:∀t∈l,t.sz<=1000000:=λt ht=>Nat.le_trans (Rt.eM ht) hl
 have H:LH (·∈bQ s) w w [.row aL 4 s (l.flatMap Rt.c)] [.trees l,.tree u,uD b u]:=lhR _ ho (by
  intro e he
  simp only [dT,gL,or_false] at he
  rcases he with rfl|rfl|rfl
  .exact ⟨pl,λx hx hm=>(hd x hx).1 (aV.1 hm)⟩
  .exact ⟨pu,λx hx hm=>(hd x hx).2.1 (aV.1 hm)⟩
  .exact ⟨hb,λx hx hm=>(hd x hx).2.2 (by simpa [uD,En.c,En.ob] using hm)⟩)
 have loop:∀(d i j:Nat) (cur:List Rt) (w1:aA),j+d=l.length->i<j->cur.length=l.length->cur.drop j=l.drop j->cur.take i=(l.take j).filter (λt=>!(dO t.rx u.rx==0))->LH (·∈bQ s) w w1 [.row aL 4 s (cur.flatMap Rt.c)] [.trees l,.tree u,uD b u]->
   slices_DeleteFunc_sl_regex_Regex_regex_Regex.fO s (bO b) (i:Int) (j:Int) w1 λr w'=>Pm s (l.filter λt=>!(dO t.rx u.rx==0)) r w w'/\Fr (·∈bQ s) w w':=by
  intro d
  induction d with
  |zero=>
   intro i j cur w1 hj Dn hc DC Ta H1
   refine slices_DeleteFunc_sl_regex_Regex_regex_Regex.bT _ _ _ _ _ _ (aX (aK (by omega)) ⟨by omega,by omega,?_⟩)
   have NQ:=(H1.get 0:bD _ _ _ _ _).cap
   obtain ⟨w2,h1,h2,h3⟩:=LQ (ty:=OK) BG XI rfl (H1.get 0) i (by omega)
   refine ⟨w2,h1,by omega,by omega,⟨⟨if s.c=0 then s.a else s.a.map (·.add (0 *4)),i - 0,s.c - 0⟩,rfl,?_,λx hx=>?_⟩,H1.fr.trans h3 λx _ h=>h⟩
   .have e:(cur.flatMap Rt.c).take (i *4)=(l.filter λt=>!(dO t.rx u.rx==0)).flatMap Rt.c:=by
     have e1:(cur.flatMap Rt.c).take (i *4)=(cur.take i).flatMap Rt.c:=by
      have:=Rt.kz (cur.take i)
      conv=>lhs;rw [<-Oi i cur,rS]
      rw [List.take_append_of_le_length (by rw [this,A5];omega),th (by rw [this,A5];omega)]
     rw [e1,Ta,th (by omega)]
    rw [<-e]
    exact h2
   .simp only [bQ] at hx ⊢
    split at hx
    .rename_i p hp
     split at hp
     .rw [hp];exact hx
     .cases B1:s.a with
      |none=>rw [B1] at hp;cases hp
      |some q=>
       rw [B1] at hp
       simp only [Option.map_some,Option.some.injEq] at hp
       subst hp
       rw [iu] at hx
       exact hx
    .cases hx
  |succ d rR=>
   intro i j cur w1 hj Dn hc DC Ta H1
   have hg:l[j]? =some (l[j]'(by omega)):=ie (by omega)
   generalize hxe:l[j]'(by omega)=a at hg
   have hgc:cur[j]? =some a:=by
    have:(cur.drop j)[0]? =(l.drop j)[0]?:=by rw [DC]
    simpa [WX,hg] using this
   have ha:=dI hg
   have Wx:l.take (j+1)=l.take j++[a]:=by rw [EE,hg];rfl
   refine slices_DeleteFunc_sl_regex_Regex_regex_Regex.bT _ _ _ _ _ _ (bF (aO (by omega)) ⟨by omega,by omega,KP (H1.get 0) hgc λp hp c=>⟨a.k,a.lo.toNat,a.hi.toNat,a.s,c.c0,c.c1,c.c2,c.c3,?_⟩⟩)
   refine H1.cC (λb7 w2 H2=>H2.bH λw3 H3=>?_)
   refine H3.bC (LD a u b w3 (kt a ha) ((show Rt.Ps w3 l from H3.getD 0).mem ha) (H3.getD 1) (H3.getD 2)) ?_
   rintro _ w4 rfl H4
   refine ⟨_,rfl,fP (λhf=>⟨by omega,by omega,?_⟩) (λht=>?_)⟩
   .rw [hp]
    refine (show gT (some p) _ from ?_)
    refine H4.abu 0 i (t:=a) (ts:=cur) rfl hp (by omega) (λw5 H5=>?_)
    show slices_DeleteFunc_sl_regex_Regex_regex_Regex.fO _ _ _ _ _ _
    rw [bP _ (by omega),bP _ (by omega)]
    refine rR (i+1) (j+1) (cur.set i a) w5 (by omega) (by omega) (by simpa using hc) ?_ ?_ (H5.take 1)
    .rw [List.drop_set_of_lt (by omega),<-WW,DC,WW]
    .rw [wO (by omega),Ta,Wx,List.filter_append]
     simp [hf]
   .show slices_DeleteFunc_sl_regex_Regex_regex_Regex.fO _ _ _ _ _ _
    rw [bP _ (by omega)]
    refine rR i (j+1) cur w4 (by omega) (by omega) hc ?_ ?_ (H4.take 1)
    .rw [<-WW,DC,WW]
    .rw [Ta,Wx,List.filter_append]
     simp [ht]
 refine slices_DeleteFunc_sl_regex_Regex_regex_Regex.dQ _ _ w _ ?_
 have hI:=z5 s l ⟨hC,#[],#[.pointer (some (bO b))]⟩ (λt=>dO t.rx u.rx==0) [.trees l,.tree u,uD b u] w (by omega) ho.jG (H.rd) (by kernel_rfl) (λw' t ht H'=>LD t u b w' (kt t ht) ((show Rt.Ps w' l from H'.getD 1).mem ht) (H'.getD 2) (H'.getD 3))
 refine H.call hI ?_
 rintro _ w1 rfl H1
 rcases Em (λt=>dO t.rx u.rx==0) l 0 with ⟨h1,h2⟩|⟨m,a,h1,h2,h3,h4⟩
 .refine ⟨_,rfl,bF (by rw [h1];rfl) ⟨⟨s,rfl,?_,λx hx=>hx⟩,H1.fr⟩⟩
  rw [List.filter_eq_self.2 (λt ht=>by rw [h2 t ht];rfl)]
  exact H1.get 0
 .have hm:m<l.length:=(nY.1 h1).1
  refine ⟨_,rfl,aX (by rw [h3];exact beq_eq_false_iff_ne.2 (by omega)) ?_⟩
  rw [h3,Nat.zero_add,bP _ (by omega)]
  refine loop (l.length - (m+1)) m (m+1) l w1 (by omega) (by omega) rfl rfl ?_ H1
  rw [EE,h1,List.filter_append,List.filter_eq_self.2 (λt ht=>by rw [h4 t ht];rfl)]
  simp only [Option.toList_some,List.filter_cons,h2]
  simp
def jI (x k:Rt):List Rt:=if k.k=x.k then k.l else [k]
def QZ (u:Rt) (t:Rt):Bool:=!(dO t.rx u.rx==0)
def ml (x u:Rt):List Rt:=(x.l.flatMap (jI x)).filter (QZ u)
structure Sub (x:Rt) (l:List Rt):Prop where
 P:∀w:aA,x.P w->∀t∈l,t.P w
 fp:∀t∈l,∀b∈t.fp,b∈x.fp
def Sub.part {x:Rt} {t:Rt} (h:t∈x.l):Sub x [t]:=⟨λw px t' ht=>by
  simp at ht;subst ht;exact px.parts.2.mem h,λt' ht b hb=>by
  simp at ht;subst ht;exact Rt.fJ.2 (.inr (Rt.bU.2 ⟨_,h,hb⟩))⟩
def Sub.open {x k:Rt} (h:k∈x.l):Sub x (jI x k):=by
 unfold jI
 split
 .exact ⟨λw px t ht=>((px.parts.2.mem h).parts.2).mem ht,λt ht b hb=>Rt.fJ.2 (.inr (Rt.bU.2 ⟨k,h,Rt.fJ.2 (.inr (Rt.bU.2 ⟨t,ht,hb⟩))⟩))⟩
 .exact .part h
def Sub.flat {x:Rt} {l:List Rt} (h:∀k∈l,k∈x.l):Sub x (l.flatMap (jI x)):=⟨λw px t ht=>by
  obtain ⟨k,hk,ht⟩:=nG.1 ht
  exact (Sub.open (h k hk)).P w px t ht,λt ht=>by
  obtain ⟨k,hk,ht⟩:=nG.1 ht
  exact (Sub.open (h k hk)).fp t ht⟩
def Sub.sub {x:Rt} {l m:List Rt} (h:Sub x l) (hs:∀t∈m,t∈l):Sub x m:=⟨λw px t ht=>h.P w px t (hs t ht),λt ht=>h.fp t (hs t ht)⟩
def Sub.Ps {x:Rt} {l:List Rt} (h:Sub x l) {w:aA} (px:x.P w):Rt.Ps w l:=Rt.qu (h.P w px)
def Sub.iD {x:Rt} {l:List Rt} (h:Sub x l) {b:Nat} (hb:b∈Rt.iD l):b∈x.fp:=by
 obtain ⟨t,ht,hb⟩:=Rt.bU.1 hb
 exact h.fp t ht b hb
def Sub.ml (x u:Rt):Sub x (ml x u):=(Sub.flat (λ_ h=>h)).sub λ_ h=>(List.mem_filter.1 h).1
def tq (x:Rt):∀l:List Rt,Rt.gF (l.flatMap (jI x))<=Rt.gF l
 |[]=>Nat.le_refl _
 |k::l=>by
  have h1:Rt.gF (jI x k)<=k.sz:=by
   unfold jI
   split
   .rw [Rt.hM k];omega
   .simp [Rt.gF]
  rw [rT,we]
  have:=tq x l
  show _<=k.sz+Rt.gF l
  omega
def CM (q:Rt->Bool):∀l:List Rt,Rt.gF (l.filter q)<=Rt.gF l
 |[]=>Nat.le_refl _
 |k::l=>by
  have:=CM q l
  rw [List.filter_cons]
  split
  .unfold Rt.gF;omega
  .show _<=k.sz+Rt.gF l;omega
def OG (x u:Rt):Rt.gF (ml x u)+1<=x.sz:=by
 have h1:=CM (QZ u) (x.l.flatMap (jI x))
 have h2:=tq x x.l
 rw [Rt.hM x]
 unfold ml
 omega
def XR (w:aA) (l:List Rt) (r:cD) (w':aA):Prop:=∃s':Sl,r=aJ s'.v/\bD w' aL 4 s' (l.flatMap Rt.c)/\∀x∈bQ s',w.heap.size<=x
def X5 (x u:Rt) (w:aA) (h:x.sz<=1000000) (px:x.P w) (pu:u.P w):aH aB tU #[x.v,u.v] w λr w'=>XR w (ml x u) r w'/\bW w w':=by
 have hs:=Rt.hM x
 have hl:=Rt.gj x.l
 have nr:=Rt.cX px.parts.1
 have loop:∀(d i:Nat) (acc:List Rt) (sl:Sl) (b2 bu:Nat) (w1:aA),i+d=x.l.length->acc=(x.l.take i).flatMap (jI x)->LH F0 w w1 [.g b2,.c bu u.c aL,.row aL 4 sl (acc.flatMap Rt.c)] [.tree x,.tree u]->
   regex_flat.fO b2 x.k x.lo.toNat x.hi.toNat x.s (bO bu) sl x.s ((x.s.n:Nat):Int) (i:Int) w1 λr w'=>XR w (ml x u) r w'/\bW w w':=by
  intro d
  induction d with
  |zero=>
   intro i acc sl b2 bu w1 hi ha H
   have Kr:Sub x acc:=by rw [ha];exact Sub.flat λk hk=>List.mem_of_mem_take hk
   have ni:Rt.gF acc<=Rt.gF x.l:=by
    rw [ha,th (by omega)]
    exact tq x x.l
   refine regex_flat.bT _ _ _ _ _ _ _ _ _ _ _ _ (aX (aK (by omega)) ?_)
   refine H.P8 2 rfl (Fa sl acc u bu w1 (by omega) (H.get 2) (Kr.Ps (H.getD 0)) (H.getD 1) (H.ob 1) (λy hy=>⟨λhm=>H.off 2 0 rfl rfl y hy (aV.2 (Kr.iD hm)),λhm=>H.off 2 1 rfl rfl y hy (aV.2 hm),λhm=>?_⟩)) ?_
   .exact qX H.nd (i:=2) rfl (j:=1) rfl (by omega) y hy (by simp [En.c,En.ob,hm])
   rintro _ w2 ⟨s',rfl,ho,hb⟩ hH
   have H2:=hH (.row aL 4 s' ((acc.filter (QZ u)).flatMap Rt.c)) ho λb fA=>.inl (hb b fA)
   refine ⟨s',rfl,⟨s',rfl,?_,λb fA=>(H2.new _ (dI (i:=2) rfl) b fA).resolve_right id⟩,H2.fr⟩
   rw [ha,th (by omega)] at ho
   exact ho
  |succ d rR=>
   intro i acc sl b2 bu w1 hi ha H
   have hg:x.l[i]? =some (x.l[i]'(by omega)):=ie (by omega)
   generalize x.l[i]'(by omega)=a at hg
   have hm:=dI hg
   have Of:x.P w1:=H.getD 0
   have Gu:=Rt.eM hm
   have ni:Rt.gF acc<=Rt.gF x.l:=by
    have h1:=tq x (x.l.take i)
    have h2:=sB x.l i
    rw [ha];omega
   have hnx:acc++jI x a=(x.l.take (i+1)).flatMap (jI x):=by rw [EE,hg,rS,ha];simp
   have xu:=Rt.cX (H.get 2:bD _ _ _ _ _).jG
   have Mb:=Rt.gj acc
   have tail:∀(s':Sl) (w':aA),LH F0 w w' [.g b2,.c bu u.c aL,.row aL 4 s' ((acc++jI x a).flatMap Rt.c)] [.tree x,.tree u]->regex_flat.gW b2 x.k x.lo.toNat x.hi.toNat x.s (bO bu) s' x.s ((x.s.n:Nat):Int) (i:Int) w' λr w'=>XR w (ml x u) r w'/\bW w w':=by
    intro s' w' H'
    show regex_flat.fO _ _ _ _ _ _ _ _ _ _ _ _
    rw [bP _ (by omega)]
    exact rR (i+1) _ s' b2 bu w' (by omega) hnx H'
   refine regex_flat.bT _ _ _ _ _ _ _ _ _ _ _ _ (bF (aO (by omega)) ⟨by omega,by omega,Rt.at' Of.parts.1 hg λp hp c=>⟨_,_,_,_,c.c0,c.c1,c.c2,c.c3,?_⟩⟩)
   refine H.cC λb7 w2 H2=>aY (λhk=>H2.bH λw3 H3=>?_) (λhk=>H2.bH λw3 H3=>?_)
   .have pa:a.P w3:=(show x.P w3 from H3.getD 0).parts.2.mem hm
    have na:=Rt.cX pa.parts.1
    have Mb:=Rt.gj a.l
    have B1:=Rt.hM a
    refine H3.OT 2 BG (xs:=acc.flatMap Rt.c) (src:=a.s) (news:=a.l.flatMap Rt.c) rfl pa.parts.1 (D2 _) (by omega) (λs' w4 H4=>?_)
    refine tail s' w4 ?_
    have e:jI x a=a.l:=aN hk
    rw [e,rS]
    exact H4.take 3
   .refine H3.wV 2 BG (xs:=acc.flatMap Rt.c) rfl (λs' w4 H4=>?_) (by omega)
    refine tail s' w4 ?_
    have e:jI x a=[a]:=aI hk
    rw [e,ou]
    exact H4.take 3
 refine regex_flat.dQ _ _ _ _ _ _ _ _ w _ ((og [.tree x,.tree u] (by
  intro e he
  simp only [dT,gL,or_false] at he
  rcases he with rfl|rfl
  .exact px
  .exact pu)).cC λb2 w1 H1=>H1.nw λw2 _ H2=>?_)
 exact loop x.l.length 0 [] ⟨none,0,0⟩ b2 w1.heap.size w2 (by omega) rfl (H2.qb aL 4)
def BA (a b:Int):ik b a=-ik a b:=by
 have s:∀a b:Int,(ik a b=-1/\a<b)\/(ik a b=1/\b<a)\/(ik a b=0/\a=b):=λa b=>by
  unfold ik
  split
  .exact .inl ⟨rfl,by omega⟩
  .split
   .exact .inr (.inl ⟨rfl,by omega⟩)
   .exact .inr (.inr ⟨rfl,by omega⟩)
 rcases s a b with h1|h1|h1<;>rcases s b a with h2|h2|h2<;>omega
def Gb (c d:Int) (l m:List Int) (h:d=-c) (hl:vu m=-vu l):vu (d::m)=-vu (c::l):=by
 show (if d≠0 then d else vu m)=-(if c≠0 then c else vu l)
 split
 .rw [aN (by omega)];exact h
 .rw [aI (by omega)];exact hl
def yE (c:Int):vu [c]=c:=by
 show (if c≠0 then c else 0)=c
 split<;>omega
def vP (k:Int) (lo hi:UInt8) (l:List Rx) (b:Rx):dO (.mk k lo hi l) b=vu [ik k b.k,ik lo.toNat b.lo.toNat,ik hi.toNat b.hi.toNat,cmpL l b.l]:=by
 unfold dO
 generalize ik k b.k=c0
 generalize ik lo.toNat b.lo.toNat=c1
 generalize ik hi.toNat b.hi.toNat=c2
 generalize cmpL l b.l=c3
 simp only [vu]
 by_cases h0:c0=0
 .by_cases h1:c1=0
  .by_cases h2:c2=0
   .by_cases h3:c3=0<;>simp [h0,h1,h2,h3]
   .simp [h0,h1,h2]
  .simp [h0,h1]
 .simp [h0]
mutual
def sX:∀a b:Rx,dO b a=-dO a b
 |.mk k lo hi l,.mk k' xN y6 l'=>by
  rw [vP,vP]
  exact Gb _ _ _ _ (BA _ _) (Gb _ _ _ _ (BA _ _) (Gb _ _ _ _ (BA _ _) (by rw [yE,yE];exact Hu l l')))
def Hu:∀a b:List Rx,cmpL b a=-cmpL a b
 |[],[]=>by unfold cmpL;rfl
 |[],_::_=>by unfold cmpL;rfl
 |_::_,[]=>by unfold cmpL;rfl
 |x::l,y::m=>by
  have h1:=sX x y
  have h2:=Hu l m
  show (if dO y x≠0 then dO y x else cmpL m l)=-(if dO x y≠0 then dO x y else cmpL l m)
  split
  .rw [aN (by omega)];exact h1
  .rw [aI (by omega)];exact h2
end
structure XT (x y z:Int):Prop where
 le:x<=0->y<=0->z<=0
 lt:x<0->y<=0->z<0
 lt':x<=0->y<0->z<0
 eq:x=0->y=0->z=0
def BB (a b c:Int):XT (ik a b) (ik b c) (ik a c):=by
 have s:∀a b:Int,(ik a b=-1/\a<b)\/(ik a b=1/\b<a)\/(ik a b=0/\a=b):=λa b=>by
  unfold ik
  split
  .exact .inl ⟨rfl,by omega⟩
  .split
   .exact .inr (.inl ⟨rfl,by omega⟩)
   .exact .inr (.inr ⟨rfl,by omega⟩)
 rcases s a b with h1|h1|h1<;>rcases s b c with h2|h2|h2<;>rcases s a c with h3|h3|h3<;>constructor<;>omega
def Gw {x y z x' y' z':Int} (h:XT x y z) (h':XT x' y' z'):XT (if x≠0 then x else x') (if y≠0 then y else y') (if z≠0 then z else z'):=by
 obtain ⟨a1,a2,a3,a4⟩:=h
 obtain ⟨b1,b2,b3,b4⟩:=h'
 by_cases hx:x=0
 .by_cases hy:y=0
  .have hz:=a4 hx hy
   rw [aI (by omega),aI (by omega),aI (by omega)]
   exact ⟨b1,b2,b3,b4⟩
  .rw [aI (by omega:¬x≠0),aN hy]
   constructor
   .intro h1 h2;have:=a3 (by omega) (by omega);rw [aN (by omega)];omega
   .intro h1 h2;have:=a3 (by omega) (by omega);rw [aN (by omega)];omega
   .intro h1 h2;have:=a3 (by omega) (by omega);rw [aN (by omega)];omega
   .intro h1 h2;omega
 .rw [aN hx]
  by_cases hy:y=0
  .rw [aI (by omega:¬y≠0)]
   constructor
   .intro h1 h2;have:=a2 (by omega) (by omega);rw [aN (by omega)];omega
   .intro h1 h2;have:=a2 (by omega) (by omega);rw [aN (by omega)];omega
   .intro h1 h2;have:=a2 (by omega) (by omega);rw [aN (by omega)];omega
   .intro h1 h2;omega
  .rw [aN hy]
   constructor
   .intro h1 h2;have:=a2 (by omega) (by omega);rw [aN (by omega)];omega
   .intro h1 h2;have:=a2 (by omega) (by omega);rw [aN (by omega)];omega
   .intro h1 h2;have:=a2 (by omega) (by omega);rw [aN (by omega)];omega
   .intro h1 h2;omega
mutual
def yc:∀a b c:Rx,XT (dO a b) (dO b c) (dO a c)
 |.mk k lo hi l,.mk k' xN y6 l',.mk k2 lo2 JG l2=>by
  rw [vP,vP,vP]
  have:=Hw l l' l2
  exact Gw (BB _ _ _) (Gw (BB _ _ _) (Gw (BB _ _ _) (by
   show XT (vu [cmpL l l']) (vu [cmpL l' l2]) (vu [cmpL l l2])
   rw [yE,yE,yE]
   exact this)))
def Hw:∀a b c:List Rx,XT (cmpL a b) (cmpL b c) (cmpL a c)
 |[],[],[]=>by unfold cmpL;constructor<;>omega
 |[],[],_::_=>by unfold cmpL;constructor<;>omega
 |[],_::_,[]=>by unfold cmpL;constructor<;>omega
 |_::_,[],[]=>by unfold cmpL;constructor<;>omega
 |_::_,[],_::_=>by
  have e1:∀(x:Rx) (l:List Rx),cmpL (x::l) []=1:=λ_ _=>rfl
  have e2:∀(x:Rx) (l:List Rx),cmpL [] (x::l)=-1:=λ_ _=>rfl
  rw [e1,e2]
  constructor<;>omega
 |[],y::m,z::n=>by
  have e2:∀(x:Rx) (l:List Rx),cmpL [] (x::l)=-1:=λ_ _=>rfl
  rw [e2,e2]
  constructor<;>omega
 |x::l,y::m,[]=>by
  have e1:∀(x:Rx) (l:List Rx),cmpL (x::l) []=1:=λ_ _=>rfl
  rw [e1,e1]
  constructor<;>omega
 |x::l,y::m,z::n=>Gw (yc x y z) (Hw l m n)
end
def AJ (x:Rx):List Rx->List Rx
 |[]=>[x]
 |y::p=>if dO x y<0 then y::AJ x p else x::y::p
def sA (l:List Rx):List Rx:=(l.foldl (λp x=>AJ x p) []).reverse
def mf (p:Rx):List Rx->List Rx
 |[]=>[]
 |x::l=>if dO x p==0 then mf x l else x::mf x l
def BD:List Rx->List Rx
 |[]=>[]
 |a::l=>a::mf a l
def zf {a b:Int} (h:ik a b=0):a=b:=by
 unfold ik at h
 split at h
 .cases h
 .split at h
  .cases h
  .omega
def IH:∀{l:List Int},vu l=0->∀x∈l,x=0
 |[],_=>λx hx=>by cases hx
 |a::l,h=>by
  unfold vu at h
  split at h
  .rename_i jx;exact absurd h jx
  .rename_i he
   have he:a=0:=by simpa using he
   intro x hx
   rcases dT.1 hx with rfl|hx
   .exact he
   .exact IH h x hx
def Sz {a b:UInt8} (h:(a.toNat:Int)=b.toNat):a=b:=UInt8.toNat_inj.1 (by omega)
mutual
def cmp_eq:∀a b:Rx,dO a b=0->a=b
 |.mk k lo hi l,.mk k' xN y6 l',h=>by
  rw [vP] at h
  have h:=IH h
  have h1:=zf (h _ (DL ..))
  have h2:=Sz (zf (h _ (mG _ (DL ..))))
  have h3:=Sz (zf (h _ (mG _ (mG _ (DL ..)))))
  have h4:=LM l l' (h _ (mG _ (mG _ (mG _ (DL ..)))))
  simp only [Rx.k,Rx.lo,Rx.hi] at h1 h2 h3
  rw [h1,h2,h3,h4]
def LM:∀l m:List Rx,cmpL l m=0->l=m
 |[],[],_=>rfl
 |[],_::_,h=>by unfold cmpL at h;cases h
 |_::_,[],h=>by unfold cmpL at h;cases h
 |a::l,b::m,h=>by
  unfold cmpL at h
  split at h
  .rename_i jx;exact absurd h jx
  .rename_i he
   rw [cmp_eq a b (by simpa using he),LM l m h]
end
def BC (a:Rx):dO a a=0:=by have:=sX a a;omega
def tE {a b:Rx}:(dO a b==0)=true↔a=b:=⟨λh=>cmp_eq a b (eq_of_beq h),λh=>by subst h;rw [BC];rfl⟩
def u0 {a b:Rx}:dO a b=0↔a=b:=⟨cmp_eq a b,λh=>by subst h;exact BC a⟩
def Qi {a b:Rx}:(!(dO a b==0))=true↔a≠b:=by rw [Bool.not_eq_true',<-Bool.not_eq_true,not_congr tE]
abbrev JC (l:List Rx):Prop:=l.Pairwise λa b=>dO a b<0
abbrev Tg (l:List Rx):Prop:=l.Pairwise λa b=>dO a b<=0
def JC.nodup {l:List Rx} (h:JC l):l.Nodup:=List.nodup_iff_pairwise_ne.2 (h.imp λ{a b} NP e=>by subst e;rw [BC] at NP;omega)
def JC.asc {l:List Rx} (h:JC l):Tg l:=h.imp λ{a b} NP=>by omega
def Bj {l m:List Rx} (hl:Tg l) (hm:Tg m) (h:l.Perm m):l=m:=List.Perm.eq_of_pairwise (λa b _ _ h1 h2=>cmp_eq a b (by have:=sX a b;omega)) hl hm h
def KD {l m:List Rx} (hl:JC l) (hm:JC m) (h:∀t,t∈l↔t∈m):l=m:=Bj hl.asc hm.asc ((List.perm_ext_iff_of_nodup hl.nodup hm.nodup).2 h)
def zr (x:Rx):∀p:List Rx,(AJ x p).Perm (x::p)
 |[]=>.refl _
 |y::p=>by
  unfold AJ
  split
  .exact ((zr x p).cons y).trans (.swap x y p)
  .exact .refl _
def Ep (x:Rx):∀{p:List Rx},p.Pairwise (λa b=>dO b a<=0)->(AJ x p).Pairwise λa b=>dO b a<=0
 |[],_=>by unfold AJ;simp
 |y::p,h=>by
  have hp:=List.pairwise_cons.1 h
  unfold AJ
  split
  .rename_i hxy
   refine List.pairwise_cons.2 ⟨λt ht=>?_,Ep x hp.2⟩
   rcases dT.1 ((zr x p).mem_iff.1 ht) with rfl|ht
   .omega
   .exact hp.1 t ht
  .rename_i hxy
   have hyx:dO y x<=0:=by have:=sX x y;omega
   refine List.pairwise_cons.2 ⟨λt ht=>?_,h⟩
   rcases dT.1 ht with rfl|ht
   .exact hyx
   .exact (yc t y x).le (hp.1 t ht) hyx
def xF (l:List Rx):(sA l).Perm l:=by
 have:∀(l p:List Rx),(l.foldl (λp x=>AJ x p) p).Perm (l++p):=by
  intro l
  induction l with
  |nil=>intro p;exact .refl _
  |cons a l ih=>
   intro p
   rw [List.foldl_cons]
   exact (ih _).trans (((zr a p).append_left l).trans List.perm_middle)
 unfold sA
 have h:=this l []
 rw [uL] at h
 exact (List.reverse_perm _).trans h
def zN (l:List Rx):Tg (sA l):=by
 have:∀(l p:List Rx),p.Pairwise (λa b=>dO b a<=0)->(l.foldl (λp x=>AJ x p) p).Pairwise λa b=>dO b a<=0:=by
  intro l
  induction l with
  |nil=>intro p h;exact h
  |cons a l ih=>intro p h;exact ih _ (Ep a h)
 unfold sA
 exact List.pairwise_reverse.2 (this l [] .nil)
def R9 {l m:List Rx} (h:Tg m) (hp:m.Perm l):m=sA l:=Bj h (zN l) (hp.trans (xF l).symm)
def u9 {t:Rx}:∀{l:List Rx} {p:Rx},(t=p\/t∈mf p l)↔(t=p\/t∈l)
 |[],p=>by unfold mf;simp
 |x::l,p=>by
  unfold mf
  split
  .rename_i h
   have e:x=p:=tE.1 h
   subst e
   rw [u9,dT]
   constructor
   .rintro (h|h)<;>simp [h]
   .rintro (h|h|h)<;>simp [h]
  .rw [dT,dT]
   have:=u9 (t:=t) (l:=l) (p:=x)
   constructor
   .rintro (h|h)
    .exact .inl h
    .exact .inr (this.1 h)
   .rintro (h|h)
    .exact .inl h
    .exact .inr (this.2 h)
def u7:∀{l:List Rx} {p:Rx},Tg (p::l)->JC (p::mf p l)
 |[],p,_=>by unfold mf;simp
 |x::l,p,h=>by
  obtain ⟨h1,h2⟩:=List.pairwise_cons.1 h
  unfold mf
  split
  .rename_i hx
   have e:x=p:=tE.1 hx
   subst e
   exact u7 h2
  .rename_i hx
   have jO:dO p x<0:=by
    have h3:=h1 x (by simp)
    have h4:=sX x p
    have h5:dO x p≠0:=λe=>hx (by rw [e];rfl)
    omega
   have hi:=u7 h2
   refine List.pairwise_cons.2 ⟨λt ht=>?_,hi⟩
   rcases dT.1 ht with rfl|ht
   .exact jO
   .exact (yc p x t).lt jO (by have:=(List.pairwise_cons.1 hi).1 t ht;omega)
def Nw {l:List Rx} (h:Tg l):JC (BD l):=by
 cases l with
 |nil=>exact .nil
 |cons a l=>exact u7 h
def Ny {t:Rx} {l:List Rx}:t∈BD l↔t∈l:=by
 cases l with
 |nil=>exact Iff.rfl
 |cons a l=>show t∈a::mf a l↔_;rw [dT,dT];exact u9
def Ou (l:List Rx):List Rx:=BD (sA l)
def I5 (l:List Rx):JC (Ou l):=Nw (zN l)
def I6 {t:Rx} {l:List Rx}:t∈Ou l↔t∈l:=by unfold Ou;rw [Ny,(xF l).mem_iff]
def zG (r:Rx):List Rx->List Rx
 |[]=>[r]
 |y::p=>if dO y r<0 then y::zG r p else if dO y r=0 then y::p else r::y::p
def Cp {t r:Rx}:∀{p:List Rx},t∈zG r p↔t=r\/t∈p
 |[]=>by unfold zG;simp
 |y::p=>by
  unfold zG
  split
  .rw [dT,Cp,dT]
   constructor
   .rintro (h|h|h)<;>simp [h]
   .rintro (h|h|h)<;>simp [h]
  .split
   .rename_i he
    have e:=cmp_eq y r he
    subst e
    simp
   .simp
def IT {r:Rx}:∀{p:List Rx},JC p->JC (zG r p)
 |[],_=>by unfold zG;simp
 |y::p,h=>by
  obtain ⟨h1,h2⟩:=List.pairwise_cons.1 h
  unfold zG
  split
  .rename_i hy
   refine List.pairwise_cons.2 ⟨λt ht=>?_,IT h2⟩
   rcases Cp.1 ht with rfl|ht
   .exact hy
   .exact h1 t ht
  .split
   .exact h
   .rename_i hy jx
    have hr:dO r y<0:=by have:=sX r y;omega
    refine List.pairwise_cons.2 ⟨λt ht=>?_,h⟩
    rcases dT.1 ht with rfl|ht
    .exact hr
    .exact (yc r y t).lt hr (by have:=h1 t ht;omega)
def rW (k:Int):List Rx->List Rx->List Rx
 |out,[]=>out
 |out,t::l=>rW k (if k=3 then out++[t] else zG t out) l
def II:∀(l out:List Rx),rW 3 out l=out++l
 |[],out=>by unfold rW;simp
 |t::l,out=>by unfold rW;rw [II l,aN rfl];simp
def IJ {k:Int} (hk:k≠3):∀(l:List Rx) {out:List Rx},JC out->JC (rW k out l)
 |[],_,h=>h
 |t::l,out,h=>by unfold rW;rw [aI hk];exact IJ hk l (IT h)
def IK {k:Int} (hk:k≠3) {t:Rx}:∀(l:List Rx) {out:List Rx},t∈rW k out l↔t∈out\/t∈l
 |[],out=>by unfold rW;simp
 |a::l,out=>by
  unfold rW
  rw [aI hk,IK hk l,Cp,dT]
  constructor
  .rintro ((h|h)|h)<;>simp [h]
  .rintro (h|h|h)<;>simp [h]
def U0 (k:Int) (l:List Rx):rW k [] l=if k=3 then l else Ou l:=by
 split
 .rename_i h;subst h;rw [II];rfl
 .rename_i h
  exact KD (IJ h l .nil) (I5 l) λt=>by rw [IK h,I6];simp
def ms (μ:Rx->Nat):List Rx->Nat
 |[]=>0
 |a::l=>μ a+ms μ l
section
variable {μ:Rx->Nat}
def Rn:∀l m:List Rx,ms μ (l++m)=ms μ l+ms μ m
 |[],m=>by simp [ms]
 |a::l,m=>by show μ a+ms μ (l++m)=μ a+ms μ l+ms μ m;rw [Rn l m];omega
def UP {l m:List Rx} (h:l.Perm m):ms μ l=ms μ m:=by
 induction h with
 |nil=>rfl
 |cons x _ ih=>show μ x+_=μ x+_;rw [ih]
 |swap x y l=>show μ y+(μ x+_)=μ x+(μ y+_);omega
 |trans _ _ h1 h2=>rw [h1,h2]
end
mutual
def sJ:Rx->Nat|.mk _ _ _ l=>max 1 (UK l)
def UK:List Rx->Nat
 |[]=>0
 |a::l=>sJ a+UK l
end
def Rk:∀l:List Rx,UK l=ms sJ l
 |[]=>rfl
 |a::l=>by unfold UK;rw [Rk l];rfl
def Aj (k:Int) (lo hi:UInt8) (l:List Rx):sJ (.mk k lo hi l)=max 1 (ms sJ l):=by unfold sJ;rw [Rk]
mutual
def Fy (N:Nat):Rx->Prop|.mk k _ _ l=>BM N l/\(k=4\/k=5->ms sJ l<=N)
def BM (N:Nat):List Rx->Prop
 |[]=>True
 |a::l=>Fy N a/\BM N l
end
mutual
def Kk {N:Nat}:∀x:Rx,sJ x<=N->Fy N x
 |.mk k lo hi l,h=>by
  rw [Aj] at h
  unfold Fy
  exact ⟨LW l (by omega),λ_=>by omega⟩
def LW {N:Nat}:∀l:List Rx,ms sJ l<=N->BM N l
 |[],_=>by unfold BM;trivial
 |a::l,h=>by
  have h:sJ a+ms sJ l<=N:=h
  unfold BM
  exact ⟨Kk a (by omega),LW l (by omega)⟩
end
end Go.Proofs.YtnpkhgljhcnpcaaGreatDoor
namespace Go.Proofs.YtnpkhgljhcnpcaaGreatDoor
open Go renaming World->aA,Calls->aH,Program->aQ,Value->aD,TypeId->aP,Ending->cD
open Go.IntKind renaming wrap->aC
open _root_.Int renaming toNat->aF
open Go.IntWalk renaming i64_in->aS
open Go.Proofs.Tryz renaming prog->aB
open _root_.Decidable renaming decide->aR
open Go.Ending renaming returned->aJ
open List renaming mem_append->gg,mem_cons->dT,not_mem_nil->gL,mem_of_getElem?->dI,getElem?_eq_getElem->ie,getElem?_eq_some_iff->nY,mem_append_left->qy,mem_append_right->wL,mem_flatMap->nG,mem_map->pN,length_append->nE,append_assoc->tA,length_take->A5,flatMap_append->rS,flatMap_cons->rT,mem_cons_of_mem->mG,mem_cons_self->DL,length_set->WY,take_append_drop->Oi,drop_eq_getElem_cons->Aq,append_nil->uL,take_add_one->EE,map_cons->AK,drop_drop->WW,getElem?_drop->WX,getElem?_set_self->vw,drop_of_length_le->Ar,take_of_length_le->th,length_reverse->RP
open Go Go.W
def sH (x:Rt):List Rt->List Rt
 |[]=>[x]
 |y::p=>if dO x.rx y.rx<0 then y::sH x p else x::y::p
def kW (l:List Rt):List Rt:=(l.foldl (λp x=>sH x p) []).reverse
def B3 (x:Rt):∀p,(sH x p).length=p.length+1
 |[]=>rfl
 |y::p=>by
  unfold sH
  split
  .simp [B3 x p]
  .simp
def Lc (l:List Rt) (x:Rt):kW (l++[x])=(sH x (kW l).reverse).reverse:=by
 unfold kW
 rw [List.foldl_append,List.reverse_reverse]
 rfl
def Ij {x t:Rt}:∀{p:List Rt},t∈sH x p↔t=x\/t∈p
 |[]=>by unfold sH;simp
 |y::p=>by
  unfold sH
  split
  .rw [dT,Ij,dT]
   constructor
   .rintro (h|h|h)<;>simp [h]
   .rintro (h|h|h)<;>simp [h]
  .simp
def Oy {t:Rt} {l:List Rt}:t∈kW l↔t∈l:=by
 have:∀(l p:List Rt),t∈l.foldl (λp x=>sH x p) p↔t∈l\/t∈p:=by
  intro l
  induction l with
  |nil=>intro p;simp
  |cons a l ih=>
   intro p
   rw [List.foldl_cons,ih,Ij,dT]
   constructor
   .rintro (h|h|h)<;>simp [h]
   .rintro ((h|h)|h)<;>simp [h]
 unfold kW
 rw [List.mem_reverse,this]
 simp
def EM (l:List Rt):(kW l).length=l.length:=by
 have:∀(l p:List Rt),(l.foldl (λp x=>sH x p) p).length=l.length+p.length:=by
  intro l
  induction l with
  |nil=>intro p;simp
  |cons a l ih=>
   intro p
   rw [List.foldl_cons,ih,B3,List.length_cons]
   omega
 unfold kW
 rw [RP,this]
 rfl
def QX (x:Rt):∀p:List Rt,(sH x p).map Rt.rx=AJ x.rx (p.map Rt.rx)
 |[]=>rfl
 |y::p=>by
  unfold sH
  rw [AK]
  unfold AJ
  split
  .rw [AK,QX x p]
  .rfl
def Vq (l:List Rt):(kW l).map Rt.rx=sA (l.map Rt.rx):=by
 have:∀(l p:List Rt),(l.foldl (λp x=>sH x p) p).map Rt.rx=(l.map Rt.rx).foldl (λp x=>AJ x p) (p.map Rt.rx):=by
  intro l
  induction l with
  |nil=>intro p;rfl
  |cons a l ih=>
   intro p
   rw [List.foldl_cons,ih,QX]
   rfl
 unfold kW sA
 rw [List.map_reverse,this]
 rfl
def Eo (x:Rt):∀p:List Rt,(sH x p).Perm (x::p)
 |[]=>.refl _
 |y::p=>by
  unfold sH
  split
  .exact ((Eo x p).cons y).trans (.swap x y p)
  .exact .refl _
def Lb (l:List Rt):(kW l).Perm l:=by
 have:∀(l p:List Rt),(l.foldl (λp x=>sH x p) p).Perm (l++p):=by
  intro l
  induction l with
  |nil=>intro p;exact .refl _
  |cons a l ih=>
   intro p
   rw [List.foldl_cons]
   exact (ih _).trans (((Eo a p).append_left l).trans List.perm_middle)
 unfold kW
 have h:=this l []
 rw [uL] at h
 exact (List.reverse_perm _).trans h
def Ox (l:List Rt):Tg ((kW l).map Rt.rx):=by rw [Vq];exact zN _
def Sk {l m:List Rt} (h:l.Perm m):Rt.gF l=Rt.gF m:=by
 induction h with
 |nil=>rfl
 |cons x _ ih=>show x.sz+_=x.sz+_;rw [ih]
 |swap x y l=>show y.sz+(x.sz+_)=x.sz+(y.sz+_);omega
 |trans _ _ h1 h2=>rw [h1,h2]
def Vw {α:Type} (A B:List α) (y x:α) (j:Nat) (hj:j=A.length+1):((A++y::x::B).set j y).set (j - 1) x=A++x::y::B:=by
 subst hj
 rw [List.set_append_right _ _ (by omega),Nat.add_sub_cancel,List.set_append_right _ _ (by omega)]
 simp
def Hg (s:Sl) (l:List Rt) (w:aA) (hl:Rt.gF l<=1000000) (ho:bD w aL 4 s (l.flatMap Rt.c)) (pl:Rt.Ps w l) (hd:∀x∈bQ s,x∉Rt.iD l) (A X Z:List Rt) (he:l=A++X++Z) (b:Nat) (hb:b=A.length+X.length):
  aH aB e8 #[s.v,.i (A.length:Int),.i (b:Int),.func (.func bK) #[] #[]] w λr w'=>(r=aJ (.tuple #[])/\bD w' aL 4 s ((A++kW X++Z).flatMap Rt.c))/\Fr (·∈bQ s) w w':=by
 have ll:=Rt.gj l
 have lX:A.length+X.length+Z.length=l.length:=by rw [he];simp [Nat.add_assoc]
 have H:LH (·∈bQ s) w w [.row aL 4 s (l.flatMap Rt.c)] [.trees l]:=lhR _ ho (by
  intro e he
  simp only [dT,gL,or_false] at he
  subst he
  exact ⟨pl,λx hx hm=>hd x hx (aV.1 hm)⟩)
 have kt:∀t∈l,t.sz<=1000000:=λt ht=>Nat.le_trans (Rt.eM ht) hl
 have mA:∀t∈X,t∈l:=λt ht=>by rw [he];simp [ht]
 let R:aT:=λr w'=>(r=aJ (.tuple #[])/\bD w' aL 4 s ((A++kW X++Z).flatMap Rt.c))/\Fr (·∈bQ s) w w'
 have outer:∀(d i:Nat) (w1:aA),A.length+i+d=b->LH (·∈bQ s) w w1 [.row aL 4 s ((A++kW (X.take i)++(X.drop i++Z)).flatMap Rt.c)] [.trees l]->
   slices_insertionSortCmpFunc_regex_Regex.L0 s (A.length:Int) (b:Int) ((A.length+i:Nat):Int) w1 R:=by
  intro d
  induction d with
  |zero=>
   intro i w1 hi H1
   refine slices_insertionSortCmpFunc_regex_Regex.dE _ _ _ _ _ _ (aX (aK (by omega)) ⟨⟨rfl,?_⟩,H1.fr⟩)
   have:=H1.get 0
   rw [th (by omega),Ar (by omega),List.nil_append] at this
   exact this
  |succ d rR=>
   intro i w1 hi H1
   refine slices_insertionSortCmpFunc_regex_Regex.dE _ _ _ _ _ _ (bF (aO (by omega)) ?_)
   have hg:X[i]? =some (X[i]'(by omega)):=ie (by omega)
   have DC:=Aq (l:=X) (i:=i) (by omega)
   generalize X[i]'(by omega)=x at hg DC
   have hS:kW (X.take (i+1))=(sH x (kW (X.take i)).reverse).reverse:=by rw [EE,hg,Option.toList_some,Lc]
   have hx:x∈l:=mA x (dI hg)
   have next:∀(w2:aA),LH (·∈bQ s) w w2 [.row aL 4 s ((A++kW (X.take (i+1))++(X.drop (i+1)++Z)).flatMap Rt.c)] [.trees l]->slices_insertionSortCmpFunc_regex_Regex.S2 s (A.length:Int) (b:Int) ((A.length+i:Nat):Int) w2 R:=by
    intro w2 H2
    show slices_insertionSortCmpFunc_regex_Regex.L0 _ _ _ _ _ _
    rw [bP _ (by omega)]
    exact rR (i+1) w2 (by omega) H2
   have inner:∀(p:Nat) (P Q:List Rt) (w2:aA),P.length=p->(sH x P.reverse).reverse++Q=kW (X.take (i+1))->(∀t∈P,t∈l)->LH (·∈bQ s) w w2 [.row aL 4 s ((A++P++x::(Q++(X.drop (i+1)++Z))).flatMap Rt.c)] [.trees l]->
     slices_insertionSortCmpFunc_regex_Regex.L1 s (A.length:Int) (b:Int) ((A.length+i:Nat):Int) ((A.length+p:Nat):Int) w2 R:=by
    intro p
    induction p with
    |zero=>
     intro P Q w2 hp hq hP H2
     have:P=[]:=List.length_eq_zero_iff.1 hp
     subst this
     refine slices_insertionSortCmpFunc_regex_Regex.nk _ _ _ _ _ _ _ (H2.dr λw3 H3=>aX (aK (by omega)) (next w3 ?_))
     have NW:x::Q=kW (X.take (i+1)):=hq
     rw [<-NW]
     simpa using H3
    |succ p ihp=>
     intro P Q w2 hp hq hP H2
     obtain ⟨P',y,rfl⟩:∃P' y,P=P'++[y]:=⟨P.dropLast,P.getLast (λh=>by rw [h] at hp;cases hp),(List.dropLast_concat_getLast _).symm⟩
     have JH:P'.length=p:=by simpa using hp
     have hy:y∈l:=hP y (by simp)
     have eA:A++(P'++[y])++x::(Q++(X.drop (i+1)++Z))=(A++P')++y::x::(Q++(X.drop (i+1)++Z)):=by simp
     rw [eA] at H2
     have lA:(A++P').length=A.length+p:=by simp [JH]
     have gy:((A++P')++y::x::(Q++(X.drop (i+1)++Z)))[A.length+p]? =some y:=by rw [<-lA,List.getElem?_append_right (Nat.le_refl _)];simp
     have gx:((A++P')++y::x::(Q++(X.drop (i+1)++Z)))[A.length+(p+1)]? =some x:=by rw [<-Nat.add_assoc,<-lA,List.getElem?_append_right (Nat.le_succ _)];simp
     have hlen:((A++P')++y::x::(Q++(X.drop (i+1)++Z))).length<=1000000:=by
      have h1:=congrArg List.length hq
      rw [EM,nE,RP,B3,RP] at h1
      simp only [nE,List.length_cons,A5,List.length_drop,List.length_nil] at h1 ⊢
      omega
     have Ku:=(nY.1 gx).1
     have e1:aC .i64 (((A.length+(p+1):Nat):Int) - 1)=((A.length+p:Nat):Int):=by rw [B2 (by omega) (by omega)];rfl
     have e2:sH x (P'++[y]).reverse=if dO x.rx y.rx<0 then y::sH x P'.reverse else x::y::P'.reverse:=by rw [List.reverse_append];rfl
     refine slices_insertionSortCmpFunc_regex_Regex.nk _ _ _ _ _ _ _ (H2.dr λw3 H3=>bF (aO (by omega)) ?_)
     refine H3.el 0 (A.length+(p+1)) rfl gx (H3.el 0 (A.length+p) e1 gy ?_)
     refine H3.call (DX x y w3 (kt x hx) ((show Rt.Ps w3 l from H3.getD 0).mem hx) ((show Rt.Ps w3 l from H3.getD 0).mem hy)) ?_
     rintro _ w4 rfl H4
     refine ⟨_,rfl,bA (λhc=>H4.dr λw5 H5=>?_) (λhc=>next w4 ?_)⟩
     .refine H5.el 0 (A.length+p) e1 gy (H5.el 0 (A.length+(p+1)) rfl gx (H5.Yh 0 (A.length+(p+1)) (t:=y) rfl Ku λw6 H6=>?_))
      refine H6.Yh 0 (A.length+p) (t:=x) (ts:=((A++P')++y::x::(Q++(X.drop (i+1)++Z))).set (A.length+(p+1)) y) e1 (by rw [WY];omega) λw7 H7=>?_
      rw [e1]
      rw [aN hc] at e2
      refine ihp P' (y::Q) w7 JH ?_ (λt ht=>hP t (by simp [ht])) ?_
      .rw [<-hq,e2]
       simp
      .have e3:=Vw (A++P') (Q++(X.drop (i+1)++Z)) y x (A.length+(p+1)) (by rw [lA];rfl)
       rw [show A.length+(p+1) - 1=A.length+p by omega] at e3
       have H8:LH (·∈bQ s) w w7 [.row aL 4 s (((((A++P')++y::x::(Q++(X.drop (i+1)++Z))).set (A.length+(p+1)) y).set (A.length+p) x).flatMap Rt.c)] [.trees l]:=H7
       rw [e3] at H8
       exact H8
     .rw [aI hc] at e2
      rw [<-hq,e2]
      simpa using H4
   have Yy:(kW (X.take i)).length=i:=by rw [EM,A5];omega
   refine inner i (kW (X.take i)) [] w1 Yy ?_ (λt ht=>mA t (List.mem_of_mem_take (Oy.1 ht))) ?_
   .rw [uL,hS]
   .rw [DC] at H1
    simpa using H1
 refine slices_insertionSortCmpFunc_regex_Regex.ok _ _ _ w _ ?_
 show slices_insertionSortCmpFunc_regex_Regex.L0 _ _ _ _ _ R
 rw [bP _ (by omega)]
 cases X with
 |nil=>
  refine slices_insertionSortCmpFunc_regex_Regex.dE _ _ _ _ _ _ (aX (aK (by simp at hb;omega)) ⟨⟨rfl,?_⟩,Fr.refl _ _⟩)
  have:=H.get 0
  rw [he] at this
  exact this
 |cons a X=>
  refine outer (b - (A.length+1)) 1 w (by simp at hb;omega) ?_
  rw [show l.flatMap Rt.c=(A++kW ((a::X).take 1)++((a::X).drop 1++Z)).flatMap Rt.c from by rw [he];simp [kW,sH]] at H
  exact H
def ZK {t:ByteArray} {m:Nat} {K:UInt8->Prop} (h:Nat.beq t.size 256=true) (hm:m<256) (hk:∀b,K b):∃b:UInt8,t[m]? =some b/\K b:=by
 rw [Nat.beq_eq] at h
 exact ⟨t[m]'(by omega),getElem?_pos t m (by omega),hk _⟩
def aam (x:Int) (w:aA):aH aB qF #[.u x] w λr w'=>(∃t:Int,r=aJ (.i t))/\bW w w':=by
 have s2:∀(x n:Int),math_bits_Len64.S2 x n w λr w'=>(∃t:Int,r=aJ (.i t))/\bW w w':=by
  intro x n
  have h0:0<=aC .u8 x/\aC .u8 x<256:=by
   rw [IntKind.wrap_u8]
   omega
  obtain ⟨m,hm⟩:=Int.eq_ofNat_of_zero_le h0.1
  refine ⟨h0.1,?_⟩
  have jO:m<256:=by omega
  refine ZK (by kernel_rfl) (by rw [hm];exact jO) λb=>⟨⟨_,rfl⟩,Fr.refl _ _⟩
 have s1:∀(x n:Int),math_bits_Len64.S1 x n w λr w'=>(∃t:Int,r=aJ (.i t))/\bW w w':=λx n=>bA (λ_=>s2 _ _) (λ_=>s2 _ _)
 have s0:∀(x n:Int),math_bits_Len64.S0 x n w λr w'=>(∃t:Int,r=aJ (.i t))/\bW w w':=λx n=>bA (λ_=>s1 _ _) (λ_=>s1 _ _)
 refine math_bits_Len.ok _ w _ ((math_bits_Len64.ok _ w _ (bA (λ_=>s0 _ _) (λ_=>s0 _ _))).mono ?_)
 rintro _ w1 ⟨⟨t,rfl⟩,f⟩
 exact ⟨t,rfl,⟨t,rfl⟩,f⟩
def y9 (n:Nat):Prop:=∀(s:Sl) (l:List Rt) (w:aA),l.length<=n->Rt.gF l<=1000000->bD w aL 4 s (l.flatMap Rt.c)->Rt.Ps w l->(∀x∈bQ s,x∉Rt.iD l)->
 aH aB eQ #[s.v,.func (.func bK) #[] #[]] w λr w'=>(∃m:List Rt,r=aJ (.tuple #[])/\m.Perm l/\Tg (m.map Rt.rx)/\bD w' aL 4 s (m.flatMap Rt.c))/\Fr (·∈bQ s) w w'
def kZ (p:Rt):List Rt->List Rt
 |[]=>[]
 |x::l=>if dO x.rx p.rx==0 then kZ x l else x::kZ x l
def sZ:List Rt->List Rt
 |[]=>[]
 |a::l=>a::kZ a l
def Hy (l:List Rt) (i:Nat):(l.flatMap Rt.c).take (i *4)=(l.take i).flatMap Rt.c:=by
 have hl:=Rt.kz (l.take i)
 by_cases h:i<=l.length
 .conv=>lhs;rw [<-Oi i l,rS]
  rw [List.take_append_of_le_length (by rw [hl,A5];omega),th (by rw [hl,A5];omega)]
 .rw [th (by rw [Rt.kz];omega),th (l:=l) (by omega)]
def D9 (l:List Rt) (i:Nat) (h:i<=l.length):(l.flatMap Rt.c).drop (i *4)=(l.drop i).flatMap Rt.c:=by
 have hl:=Rt.kz (l.take i)
 rw [A5,Nat.min_eq_left h] at hl
 conv=>lhs;rw [<-Oi i l,rS]
 rw [List.drop_append_of_le_length (by omega),Ar (by omega),List.nil_append]
def TN {w:aA} {s:Sl} {l m:List Rt} (ho:bD w aL 4 s (l.flatMap Rt.c)) (i:Nat) (hi:i<=l.length) (hm:l.take i=m) {K:aA->Prop} {R:aT} {w0:aA} (hf:Fr (·∈bQ s) w0 w)
  (hR:∀r w',Pm s m r w0 w'->Fr (·∈bQ s) w0 w'->R r w'):
  (0:Int)<=(i:Int)/\(i:Int)<=((s.n:Nat):Int)/\∃(w7:aA),Sem.run aB (Builtin.clear_ #[aU] OK #[.slice (if s.c=(aF (i:Int)) then s.a else s.a.map (·.add ((aF (i:Int)) *4))) (s.n - (aF (i:Int))) (s.c - (aF (i:Int)))]) w=.ok (.tuple #[]) w7/\
   (0:Int)<=(i:Int)/\(i:Int)<=((s.c:Nat):Int)/\R (aJ (.slice (if s.c=0 then s.a else s.a.map (·.add (0 *4))) ((aF (i:Int)) - 0) (s.c - 0))) w7:=by
 have nr:=Rt.cX ho.jG
 have NQ:=ho.cap
 obtain ⟨w2,h1,h2,h3⟩:=LQ (ty:=OK) BG XI rfl ho i (by omega)
 refine ⟨by omega,by omega,w2,h1,by omega,by omega,hR _ _ ⟨⟨if s.c=0 then s.a else s.a.map (·.add (0 *4)),i - 0,s.c - 0⟩,rfl,?_,λx hx=>?_⟩ (hf.trans h3 λx _ h=>h)⟩
 .rw [<-hm,<-Hy]
  exact h2
 .simp only [bQ] at hx ⊢
  split at hx
  .rename_i p hp
   split at hp
   .rw [hp];exact hx
   .cases B1:s.a with
    |none=>rw [B1] at hp;cases hp
    |some q=>
     rw [B1] at hp
     simp only [Option.map_some,Option.some.injEq] at hp
     subst hp
     rw [iu] at hx
     exact hx
  .cases hx
section
variable {M:Nat->Prop} {w0 w:aA} {L D:List En}
def _root_.Go.W.LH.els (H:LH M w0 w L D) (i k b:Nat) {s:Sl} {ts:List Rt} {t:Rt} {X:Int} {K:Int->Int->Int->Sl->Prop} (hX:X=(k:Int)) (hg:ts[b+k]? =some t) (h:K t.k t.lo.toNat t.hi.toNat t.s) (hi:L[i]? =some (.row aL 4 s (ts.flatMap Rt.c)):=by rfl):
  (0:Int)<=X/\X<((s.n - b:Nat):Int)/\gT (if s.c=b then s.a else s.a.map (·.add (b *4))) λp=>∃a b c:Int,∃d:Sl,w.cell? ((p.add (aF X *4)).add 0)=some (.i a)/\w.cell? ((p.add (aF X *4)).add 1)=some (.int .u8 b)/\w.cell? ((p.add (aF X *4)).add 2)=some (.int .u8 c)/\w.cell? ((p.add (aF X *4)).add 3)=some d.v/\K a b c d:=by
 subst hX
 have ho:bD w aL 4 s (ts.flatMap Rt.c):=H.get i hi
 have hn:=Rt.cX ho.jG
 have hk:=(nY.1 hg).1
 have hr:=ho.jG.sub b s.n (by omega) (Nat.le_refl _)
 rw [th (by rw [Rt.kz];omega),D9 _ _ (by omega)] at hr
 refine ⟨by omega,by omega,Rt.at' (s:=Gt 4 s b s.n) hr (i:=k) (t:=t) (by rw [WX];exact hg) λp hp c=>⟨_,_,_,_,c.c0,c.c1,c.c2,c.c3,h⟩⟩
end
def Dt (s:Sl) (l:List Rt) (w:aA) (hl:Rt.gF l<=1000000) (ho:bD w aL 4 s (l.flatMap Rt.c)) (pl:Rt.Ps w l) (hd:∀x∈bQ s,x∉Rt.iD l):
  aH aB eD #[s.v,.func (.func fE) #[] #[]] w λr w'=>Pm s (sZ l) r w w'/\Fr (·∈bQ s) w w':=by
 have nr:=Rt.cX ho.jG
 have ll:=Rt.gj l
 have kt:∀t∈l,t.sz<=1000000:=λt ht=>Nat.le_trans (Rt.eM ht) hl
 have H:LH (·∈bQ s) w w [.row aL 4 s (l.flatMap Rt.c)] [.trees l]:=lhR _ ho (by
  intro e he
  simp only [dT,gL,or_false] at he
  subst he
  exact ⟨pl,λx hx hm=>hd x hx (aV.1 hm)⟩)
 let R:aT:=λr w'=>Pm s (sZ l) r w w'/\Fr (·∈bQ s) w w'
 have aa5:∀(d k b m:Nat) (cur:List Rt) (p:Rt) (w1:aA),b+m+d=l.length->1<=m->1<=b->k<b+m->cur.length=l.length->cur.drop (b+m - 1)=l.drop (b+m - 1)->l[b+m - 1]? =some p->cur.take k++kZ p (l.drop (b+m))=sZ l->
   LH (·∈bQ s) w w1 [.row aL 4 s (cur.flatMap Rt.c)] [.trees l]->
   slices_CompactFunc_sl_regex_Regex_regex_Regex.L2 s (k:Int) ⟨(if s.c=b then s.a else s.a.map (·.add (b *4))),(s.n - b),(s.c - b)⟩ (m:Int) w1 R:=by
  intro d
  induction d with
  |zero=>
   intro k b m cur p w1 hb hm L7 hk hc DC hp hq H1
   refine slices_CompactFunc_sl_regex_Regex_regex_Regex.xP _ _ _ _ _ _ (aX (aK ?_) ?_)
   .show ¬(m:Int)<((s.n - b:Nat):Int)
    omega
   rw [Ar (by omega)] at hq
   have NW:cur.take k=sZ l:=by rw [<-hq];simp [kZ]
   exact TN (K:=λ_=>True) (H1.get 0) k (by omega) NW H1.fr λr w' h1 h2=>⟨h1,h2⟩
  |succ d rR=>
   intro k b m cur p w1 hb hm L7 hk hc DC hp hq H1
   have hg:l[b+m]? =some (l[b+m]'(by omega)):=ie (by omega)
   have yp:=Aq (l:=l) (i:=b+m) (by omega)
   generalize l[b+m]'(by omega)=x at hg yp
   have hgc:cur[b+m]? =some x:=by
    have:(cur.drop (b+m - 1))[1]? =(l.drop (b+m - 1))[1]?:=by rw [DC]
    rw [WX,WX,show b+m - 1+1=b+m by omega] at this
    rw [this];exact hg
   have hgp:cur[b+(m - 1)]? =some p:=by
    have:(cur.drop (b+m - 1))[0]? =(l.drop (b+m - 1))[0]?:=by rw [DC]
    rw [WX,WX,Nat.add_zero] at this
    rw [show b+(m - 1)=b+m - 1 by omega,this];exact hp
   have aaL:cur.drop (b+m)=l.drop (b+m):=by
    have:(cur.drop (b+m - 1)).drop 1=(l.drop (b+m - 1)).drop 1:=by rw [DC]
    rw [WW,WW,show b+m - 1+1=b+m by omega] at this
    exact this
   have mx:=dI hg
   have mp:=dI hp
   have e1:aC .i64 ((m:Int) - 1)=((m - 1:Nat):Int):=B2 hm (by omega)
   rw [yp] at hq
   have eg:kZ p (x::l.drop (b+m+1))=if dO x.rx p.rx==0 then kZ x (l.drop (b+m+1)) else x::kZ x (l.drop (b+m+1)):=rfl
   rw [eg] at hq
   have next:∀(k':Nat) (AF:List Rt) (w2:aA),k'<b+(m+1)->AF.length=l.length->AF.drop (b+m)=l.drop (b+m)->AF.take k'++kZ x (l.drop (b+m+1))=sZ l->LH (·∈bQ s) w w2 [.row aL 4 s (AF.flatMap Rt.c)] [.trees l]->
     slices_CompactFunc_sl_regex_Regex_regex_Regex.S3 s (k':Int) ⟨(if s.c=b then s.a else s.a.map (·.add (b *4))),(s.n - b),(s.c - b)⟩ (m:Int) w2 R:=by
    intro k' AF w2 h1 h2 h3 h4 H2
    show slices_CompactFunc_sl_regex_Regex_regex_Regex.L2 _ _ _ _ _ _
    rw [bP _ (by omega)]
    exact rR k' b (m+1) AF x w2 (by omega) (by omega) L7 h1 h2 (by rw [show b+(m+1) - 1=b+m by omega];exact h3) (by rw [show b+(m+1) - 1=b+m by omega];exact hg) (by rw [show b+(m+1)=b+m+1 by omega];exact h4) H2
   refine slices_CompactFunc_sl_regex_Regex_regex_Regex.xP _ _ _ _ _ _ (bF (aO ?_) (H1.dr λw2 H2=>?_))
   .show (m:Int)<((s.n - b:Nat):Int)
    omega
   refine H2.els 0 m b rfl hgc (H2.els 0 (m - 1) b e1 hgp ?_)
   refine H2.call (x8 x p w2 (kt x mx) ((show Rt.Ps w2 l from H2.getD 0).mem mx) ((show Rt.Ps w2 l from H2.getD 0).mem mp)) ?_
   rintro _ w3 rfl H3
   refine ⟨_,rfl,fP (λhf=>?_) (λht=>?_)⟩
   .refine H3.els 0 m b rfl hgc (H3.Yh 0 k (t:=x) (ts:=cur) rfl (by omega) λw4 H4=>?_)
    rw [aI (by rw [hf];simp)] at hq
    rw [bP _ (by omega)]
    refine next (k+1) (cur.set k x) w4 (by omega) (by simpa using hc) ?_ ?_ H4
    .rw [List.drop_set_of_lt (by omega)];exact aaL
    .rw [wO (by omega),tA]
     exact hq
   .rw [aN ht] at hq
    exact next k cur w3 (by omega) hc aaL hq H3
 have loop:∀(d k:Nat) (p:Rt) (w1:aA),k+d=l.length->1<=k->l[k - 1]? =some p->l.take k++kZ p (l.drop k)=sZ l->LH (·∈bQ s) w w1 [.row aL 4 s (l.flatMap Rt.c)] [.trees l]->
   slices_CompactFunc_sl_regex_Regex_regex_Regex.L0 s (k:Int) w1 R:=by
  intro d
  induction d with
  |zero=>
   intro k p w1 hk h1 hp hq H1
   refine slices_CompactFunc_sl_regex_Regex_regex_Regex.dE _ _ _ _ (aX (aK (by omega)) ⟨⟨s,rfl,?_,λx hx=>hx⟩,H1.fr⟩)
   rw [Ar (by omega),th (by omega)] at hq
   have NW:l=sZ l:=by rw [<-hq];simp [kZ]
   rw [<-NW]
   exact H1.get 0
  |succ d rR=>
   intro k p w1 hk h1 hp hq H1
   have hg:l[k]? =some (l[k]'(by omega)):=ie (by omega)
   have yp:=Aq (l:=l) (i:=k) (by omega)
   generalize l[k]'(by omega)=x at hg yp
   have mx:=dI hg
   have mp:=dI hp
   have e1:aC .i64 ((k:Int) - 1)=((k - 1:Nat):Int):=B2 h1 (by omega)
   rw [yp] at hq
   have eg:kZ p (x::l.drop (k+1))=if dO x.rx p.rx==0 then kZ x (l.drop (k+1)) else x::kZ x (l.drop (k+1)):=rfl
   rw [eg] at hq
   refine slices_CompactFunc_sl_regex_Regex_regex_Regex.dE _ _ _ _ (bF (aO (by omega)) (H1.dr λw2 H2=>?_))
   refine H2.el 0 k rfl hg (H2.el 0 (k - 1) e1 hp ?_)
   refine H2.call (x8 x p w2 (kt x mx) ((show Rt.Ps w2 l from H2.getD 0).mem mx) ((show Rt.Ps w2 l from H2.getD 0).mem mp)) ?_
   rintro _ w3 rfl H3
   refine ⟨_,rfl,bR (λht=>⟨by omega,by omega,?_⟩) (λhf=>?_)⟩
   .rw [aN ht] at hq
    show slices_CompactFunc_sl_regex_Regex_regex_Regex.L2 _ _ _ _ _ _
    exact aa5 d k k 1 l x w3 (by omega) (by omega) h1 (by omega) rfl rfl (by rw [Nat.add_sub_cancel];exact hg) hq H3
   .rw [aI (by rw [hf];simp)] at hq
    rw [bP _ (by omega)]
    refine rR (k+1) x w3 (by omega) (by omega) (by rw [Nat.add_sub_cancel];exact hg) ?_ H3
    rw [EE,hg,tA]
    exact hq
 refine slices_CompactFunc_sl_regex_Regex_regex_Regex.ok _ w _ (bA (λh2=>⟨⟨s,rfl,?_,λx hx=>hx⟩,H.fr⟩) (λh2=>?_))
 .have e:sZ l=l:=by
   cases l with
   |nil=>rfl
   |cons a l=>
    cases l with
    |nil=>rfl
    |cons b l=>simp at nr;omega
  rw [e]
  exact ho
 .have hg:l[0]? =some (l[0]'(by omega)):=ie (by omega)
  have yp:=Aq (l:=l) (i:=0) (by omega)
  generalize l[0]'(by omega)=x at hg yp
  refine loop (l.length - 1) 1 x w (by omega) (by omega) hg ?_ H
  rw [List.drop_zero] at yp
  rw [yp]
  rfl
def nP (k:Int) (l:List Rx) (u:Rx):List Rx:=(l.flatMap λc=>if c.k=k then c.l else [c]).filter λt=>!(dO t u==0)
def NG (k:Int) (u:Rx):List Rx->Rx
 |[]=>u
 |[a]=>a
 |l=>.mk k 0 0 l
def mN (k:Int) (l:List Rx) (u z:Rx):Rx:=if (nP k l u).any (λt=>dO t z==0) then z else NG k u (if k=3 then nP k l u else BD (sA (nP k l u)))
def pcX (k:Int) (l:List Rx):Nat:=(l.flatMap λc=>if c.k=k then c.l else [c]).length
def sF:Rx:=.mk 1 0 0 []
def gw:Rx:=.mk 6 0 0 [zx]
def tm (lo hi:UInt8) (l:List Rx):Rx:=match l with
 |[]=>zx
 |c::l'=>if c.k=0\/c.k=1 then sF else if c.k=7\/dO c gw=0 then c else .mk 7 lo hi (c::l')
def IF (lo hi:UInt8) (l:List Rx):Rx:=match l with
 |[]=>zx
 |c::l'=>if c.k=6 then (match c.l with |[]=>zx|d::_=>d) else .mk 6 lo hi (c::l')
def oS:Rx->Rx
 |.mk k lo hi l=>if k=3 then mN 3 l sF zx else if k=4 then mN 4 l zx gw else if k=5 then mN 5 l gw zx else if k=6 then IF lo hi l else if k=7 then tm lo hi l else .mk k lo hi l
def pf:Rx->Bool
 |.mk k _ _ l=>aR (0<=k)&&aR (k<8)&&(match l with
  |[]=>k !=6&&k !=7
  |c::_=>!(k==6&&c.k==6&&c.l.isEmpty))
def zK (t:Rt):t.rx.k=t.k:=by rw [Rt.eE];rfl
def R0 (t:Rt):t.rx.l=t.l.map Rt.rx:=by rw [Rt.eE,<-Rt.fX];rfl
def ym (x u:Rt):(ml x u).map Rt.rx=nP x.k (Rt.cR x.l) u.rx:=by
 unfold ml nP
 rw [Rt.fX]
 generalize x.l=l
 induction l with
 |nil=>rfl
 |cons a l ih=>
  rw [AK,rT,rT,List.filter_append,List.filter_append,List.map_append,ih]
  congr 1
  have e:(jI x a).map Rt.rx=if a.rx.k=x.k then a.rx.l else [a.rx]:=by
   unfold jI
   rw [zK,R0]
   split<;>simp
  rw [<-e,List.filter_map]
  rfl
def zg:∀(l:List Rt) (p:Rt),(kZ p l).map Rt.rx=mf p.rx (l.map Rt.rx)
 |[],p=>rfl
 |x::l,p=>by
  unfold kZ
  rw [AK]
  unfold mf
  split
  .exact zg l x
  .rw [AK,zg l x]
def TL (l:List Rt):(sZ l).map Rt.rx=BD (l.map Rt.rx):=by
 cases l with
 |nil=>rfl
 |cons a l=>show a.rx::(kZ a l).map Rt.rx=_;rw [zg];rfl
def xe {t:Rt}:∀{l:List Rt} {p:Rt},t∈kZ p l->t∈l
 |[],p,h=>h
 |x::l,p,h=>by
  unfold kZ at h
  split at h
  .exact mG _ (xe h)
  .rcases dT.1 h with rfl|h
   .simp
   .exact mG _ (xe h)
def Qj {t:Rt} {l:List Rt} (h:t∈sZ l):t∈l:=by
 cases l with
 |nil=>exact h
 |cons a l=>
  rcases dT.1 h with rfl|h
  .simp
  .exact mG _ (xe h)
def XV (l:List Rt) (z:Rt):l.any (λt=>dO t.rx z.rx==0)=(l.map Rt.rx).any λt=>dO t z.rx==0:=by
 rw [List.any_map];rfl
def qT (GL:List Nat) (w:aA) (x:Rx) (r:cD) (w':aA):Prop:=∃t:Rt,r=aJ t.v/\t.rx=x/\t.P w'/\∀b∈t.fp,w.heap.size<=b\/b∈GL
def X7 {N:Nat} (hS:y9 N) (hN:N<=1000000) (x u z:Rt) (bu bz:Nat) (w:aA) (h:x.k≠3->pcX x.k (Rt.cR x.l)<=N) (hx:x.sz<=1000000) (px:x.P w) (pu:u.P w) (pz:z.P w) (hu:w.heap[bu]? =some (.cells u.c.toArray aL (0,0))) (hz:w.heap[bz]? =some (.cells z.c.toArray aL (0,0))):
  aH aB jV #[x.v,.pointer (some (bO bu)),.pointer (some (bO bz))] w λr w'=>qT (x.fp++(u.fp++z.fp)) w (mN x.k (Rt.cR x.l) u.rx z.rx) r w'/\bW w w':=by
 have H0:LH F0 w w [] [.tree x,.tree u,.tree z,uD bu u,uD bz z]:=og _ (by
  intro e he
  simp only [dT,gL,or_false] at he
  rcases he with rfl|rfl|rfl|rfl|rfl
  .exact px
  .exact pu
  .exact pz
  .exact hu
  .exact hz)
 have rU:=Sub.ml x u
 have hfs:=OG x u
 have Wn:=Rt.gj (ml x u)
 have kt:∀t∈ml x u,t.sz<=1000000:=λt ht=>by have:=Rt.eM ht;omega
 have hpc:(ml x u).length<=pcX x.k (Rt.cR x.l):=by
  have h1:=congrArg List.length (ym x u)
  rw [List.length_map] at h1
  rw [h1]
  exact List.length_filter_le ..
 refine regex_forms_2_1.dQ _ _ _ _ _ _ w _ (H0.cC λb3 w1 H1=>H1.cC λb4 w2 H2=>⟨_,_,_,u.s,H2.y7 3 0,H2.y7 3 1,H2.y7 3 2,H2.y7 3 3,H2.rC (X5 x u w2 hx (H2.getD 0) (H2.getD 1)) ?_⟩)
 rintro _ w3 ⟨s1,rfl,o1,n1⟩ H3 F3
 have H4:=F3.own (.row aL 4 s1 ((ml x u).flatMap Rt.c)) o1 n1
 have hps:∀w':aA,x.P w'->Rt.Ps w' (ml x u):=λw' h=>rU.Ps h
 refine ⟨s1,rfl,H4.bC (Bp s1 (ml x u) ⟨kp,#[],#[.pointer (some (bO bz))]⟩ (λt=>dO t.rx z.rx==0) [.tree x,.tree z,uD bz z] w3 (by omega) (H4.get 2:bD _ _ _ _ _).jG (by
  intro e he
  simp only [dT,gL,or_false] at he
  rcases he with rfl|rfl|rfl
  .exact H4.getD 0
  .exact H4.getD 2
  .exact H4.getD 4) (by kernel_rfl) (λw' t ht H'=>J9 t z bz w' (kt t ht) ((hps w' (H'.getD 1)).mem ht) (H'.getD 2) (H'.getD 3))) ?_⟩
 rintro _ w4 rfl H5
 have ea:(ml x u).any (λt=>dO t.rx z.rx==0)=(nP x.k (Rt.cR x.l) u.rx).any λt=>dO t z.rx==0:=by rw [XV,ym]
 refine ⟨_,rfl,bR (λht=>⟨_,_,_,z.s,H5.y7 4 0,H5.y7 4 1,H5.y7 4 2,H5.y7 4 3,H5.bH λw8 H8=>⟨⟨z,rfl,?_,H8.getD 2,λb hb=>.inr (by simp [hb])⟩,H8.fr⟩⟩) (λhf=>?_)⟩
 .have ph:=ea▸ht
  unfold mN
  rw [aN ph]
 have hf':=ea▸hf
 have fin:∀(s':Sl) (ks:List Rt) (w':aA),(∀t∈ks,t∈ml x u)->ks.map Rt.rx=(if x.k=3 then nP x.k (Rt.cR x.l) u.rx else BD (sA (nP x.k (Rt.cR x.l) u.rx)))->LH F0 w w' [.g b3,.g b4,.row aL 4 s' (ks.flatMap Rt.c)] [.tree x,.tree u,.tree z,uD bu u,uD bz z]->
   regex_forms_2_1.eX (bO bu) b3 x.k x.lo.toNat x.hi.toNat x.s b4 0 0 0 ⟨none,0,0⟩ s' w' λr w'=>qT (x.fp++(u.fp++z.fp)) w (mN x.k (Rt.cR x.l) u.rx z.rx) r w'/\bW w w':=by
  intro s' ks w' hk he H
  have wE:Sub x ks:=rU.sub hk
  have nr:=Rt.cX (H.get 2:bD _ _ _ _ _).jG
  have ej:mN x.k (Rt.cR x.l) u.rx z.rx=NG x.k u.rx (ks.map Rt.rx):=by
   unfold mN
   rw [aI (by rw [hf'];simp),he]
  refine aY (λh0=>⟨_,_,_,u.s,H.y7 3 0,H.y7 3 1,H.y7 3 2,H.y7 3 3,H.bH λw8 H8=>⟨⟨u,rfl,?_,H8.getD 1,λb hb=>.inr (by simp [hb])⟩,H8.fr⟩⟩) (λh0=>aY (λh1=>?_) (λh1=>H.bH λw8 H8=>⟨⟨.mk x.k 0 0 s' ks,rfl,?_,?_,λb hb=>?_⟩,H8.fr⟩))
  .have:ks=[]:=List.length_eq_zero_iff.1 (by omega)
   rw [ej,this];rfl
  .obtain ⟨a,rfl⟩:=List.length_eq_one_iff.1 (show ks.length=1 by omega)
   refine H.el 2 0 rfl (t:=a) rfl (H.bH λw8 H8=>⟨⟨a,rfl,?_,wE.P _ (H8.getD 0) a (by simp),λb hb=>.inr (by simp [wE.fp a (by simp) b hb])⟩,H8.fr⟩)
   rw [ej];rfl
  .rw [ej]
   unfold Rt.rx
   rw [Rt.fX]
   cases ks with
   |nil=>simp at nr;omega
   |cons a ks=>
    cases ks with
    |nil=>simp at nr;omega
    |cons b ks=>rfl
  .unfold Rt.P
   exact ⟨(H8.get 2:bD _ _ _ _ _).jG,wE.Ps (H8.getD 0)⟩
  .unfold Rt.fp at hb
   rcases gg.1 hb with hb|hb
   .exact .inl ((H8.new _ (dI (i:=2) rfl) b (gP hb)).resolve_right id)
   .exact .inr (by simp [wE.iD hb])
 have eo:∀w':aA,LH F0 w w' [.g b3,.g b4,.row aL 4 s1 ((ml x u).flatMap Rt.c)] [.tree x,.tree u,.tree z,uD bu u,uD bz z]->∀y∈bQ s1,y∉Rt.iD (ml x u):=λw' H' y hy hm=>H'.off 2 0 rfl rfl y hy (aV.2 (rU.iD hm))
 refine gB (λhk=>?_) (λhk=>fin s1 (ml x u) w4 (λ_ h=>h) (by rw [aN hk,ym]) H5)
 refine H5.P8 2 rfl (hS s1 (ml x u) w4 (by have:=h hk;omega) (by omega) (H5.get 2) (hps w4 (H5.getD 0)) (eo w4 H5)) ?_
 rintro _ w5 ⟨m,rfl,NU,QT,o5⟩ hH
 have H6:LH F0 w w5 [.g b3,.g b4,.row aL 4 s1 (m.flatMap Rt.c)] [.tree x,.tree u,.tree z,uD bu u,uD bz z]:=hH (.row aL 4 s1 (m.flatMap Rt.c)) o5 λb hb=>.inl hb
 have WC:Sub x m:=rU.sub λt ht=>NU.mem_iff.1 ht
 refine ⟨rfl,H6.P8 2 rfl (Dt s1 m w5 (by rw [Sk NU];omega) (H6.get 2) (WC.Ps (H6.getD 0)) (λy hy hm=>H6.off 2 0 rfl rfl y hy (aV.2 (WC.iD hm)))) ?_⟩
 rintro _ w6 ⟨s2,rfl,o6,n6⟩ hH2
 have H7:LH F0 w w6 [.g b3,.g b4,.row aL 4 s2 ((sZ m).flatMap Rt.c)] [.tree x,.tree u,.tree z,uD bu u,uD bz z]:=hH2 (.row aL 4 s2 ((sZ m).flatMap Rt.c)) o6 λb hb=>.inl (n6 b hb)
 have Uq:m.map Rt.rx=sA ((ml x u).map Rt.rx):=R9 QT (NU.map _)
 exact ⟨s2,rfl,fin s2 (sZ m) w6 (λt ht=>NU.mem_iff.1 (Qj ht)) (by rw [aI hk,TL,Uq,ym]) H7⟩
def ku {w:aA} {x t:Rt} (px:x.P w) {k:Nat} {X:Int} {K:Int->Int->Int->Sl->Prop} (hX:X=(k:Int)) (hg:x.l[k]? =some t) (h:K t.k t.lo.toNat t.hi.toNat t.s):
  bY x.s X λp=>∃a b c:Int,∃d:Sl,w.cell? ((p.add (aF X *4)).add 0)=some (.i a)/\w.cell? ((p.add (aF X *4)).add 1)=some (.int .u8 b)/\w.cell? ((p.add (aF X *4)).add 2)=some (.int .u8 c)/\w.cell? ((p.add (aF X *4)).add 3)=some d.v/\K a b c d:=by
 subst hX
 have hn:=Rt.cX px.parts.1
 have hk:=(nY.1 hg).1
 exact ⟨by omega,by omega,Rt.at' px.parts.1 hg λp hp c=>⟨_,_,_,_,c.c0,c.c1,c.c2,c.c3,h⟩⟩
def aar (x:Rt) (w:aA) (px:x.P w) (hk:x.k=6) (ho:pf x.rx=true):aH aB jP #[x.v] w λr w'=>qT x.fp w (IF x.lo x.hi (Rt.cR x.l)) r w'/\bW w w':=by
 have nr:=Rt.cX px.parts.1
 rw [Rt.eE] at ho
 cases hl:x.l with
 |nil=>rw [hl,hk] at ho;simp [pf,Rt.cR] at ho
 |cons c l'=>
  have hg:x.l[0]? =some c:=by rw [hl];rfl
  have mc:c∈x.l:=dI hg
  have e1:Rt.cR (c::l')=c.rx::Rt.cR l':=rfl
  refine regex_forms_3.dQ _ _ _ _ w _ ((Cc px).cC λb1 w1 H1=>H1.cC λb2 w2 H2=>?_)
  have U7:x.P w2:=H2.getD 0
  have n2:0<x.s.n:=by rw [hl] at nr;simp at nr;omega
  refine ⟨by omega,by omega,Rt.at' U7.parts.1 hg λp hp cc=>⟨c.k,cc.c0,aY (λh6=>?_) (λh6=>H2.bH λtB qe=>⟨⟨x,rfl,?_,qe.getD 0,λb hb=>.inr hb⟩,qe.fr⟩)⟩⟩
  .refine ⟨by omega,by omega,Rt.at' U7.parts.1 hg λp hp cc=>⟨c.s,cc.c3,?_⟩⟩
   cases L8:c.l with
   |nil=>
    rw [hl,e1] at ho
    have e2:c.rx.l.isEmpty=true:=by rw [R0,L8];rfl
    simp [pf,hk,zK,h6,e2] at ho
   |cons d l2=>
    have SU:c.l[0]? =some d:=by rw [L8];rfl
    refine ku (U7.parts.2.mem mc) rfl SU (H2.bH λw6 H6=>⟨⟨d,rfl,?_,((show x.P w6 from H6.getD 0).parts.2.mem mc).parts.2.mem (dI SU),λb hb=>.inr (Rt.fJ.2 (.inr (Rt.bU.2 ⟨c,mc,Rt.fJ.2 (.inr (Rt.bU.2 ⟨d,dI SU,hb⟩))⟩)))⟩,H6.fr⟩)
    rw [e1]
    show d.rx=if c.rx.k=6 then _ else _
    rw [aN (by rw [zK,h6]),R0,L8];rfl
  .rw [e1]
   show x.rx=if c.rx.k=6 then _ else _
   rw [aI (by rw [zK];exact h6),Rt.eE,hk,hl,e1]
def Ya (x m v:Rt) (bm bv:Nat) (w:aA) (hx:x.sz<=1000000) (px:x.P w) (pm:m.P w) (pv:v.P w) (hm:w.heap[bm]? =some (.cells m.c.toArray aL (0,0))) (hv:w.heap[bv]? =some (.cells v.c.toArray aL (0,0))) (em:m.rx=sF) (ev:v.rx=gw) (hk:x.k=7) (ho:pf x.rx=true):
  aH aB jQ #[x.v,.pointer (some (bO bm)),.pointer (some (bO bv))] w λr w'=>qT (x.fp++(m.fp++v.fp)) w (tm x.lo x.hi (Rt.cR x.l)) r w'/\bW w w':=by
 have nr:=Rt.cX px.parts.1
 rw [Rt.eE] at ho
 cases hl:x.l with
 |nil=>rw [hl,hk] at ho;simp [pf,Rt.cR] at ho
 |cons c l'=>
  have hg:x.l[0]? =some c:=by rw [hl];rfl
  have mc:c∈x.l:=dI hg
  have e1:Rt.cR (c::l')=c.rx::Rt.cR l':=rfl
  have H0:LH F0 w w [] [.tree x,.tree m,.tree v,uD bm m,uD bv v]:=og _ (by
   intro e he
   simp only [dT,gL,or_false] at he
   rcases he with rfl|rfl|rfl|rfl|rfl
   .exact px
   .exact pm
   .exact pv
   .exact hm
   .exact hv)
  refine regex_forms_4.dQ _ _ _ _ _ _ w _ (H0.cC λb3 w1 H1=>H1.cC λb4 w2 H2=>?_)
  have n2:0<x.s.n:=by rw [hl] at nr;simp at nr;omega
  have sc:c.sz<=1000000:=by have:=Rt.eM mc;have:=Rt.hM x;omega
  have fc:∀b∈c.fp,b∈x.fp:=λb hb=>Rt.fJ.2 (.inr (Rt.bU.2 ⟨c,mc,hb⟩))
  refine ku (show x.P w2 from H2.getD 0) rfl hg (H2.cC λb5 w3 H3=>?_)
  have isE:c.k=0\/c.k=1->∀w':aA,LH F0 w w' [.g b3,.g b4,.g b5] [.tree x,.tree m,.tree v,uD bm m,uD bv v]->regex_forms_4.eX (bO bm) b4 0 0 0 ⟨none,0,0⟩ w' λr w'=>qT (x.fp++(m.fp++v.fp)) w (tm x.lo x.hi (Rt.cR (c::l'))) r w'/\bW w w':=λhc w' H=>
   ⟨_,_,_,m.s,H.y7 3 0,H.y7 3 1,H.y7 3 2,H.y7 3 3,H.bH λw4 H4=>⟨⟨m,rfl,by
    rw [em,e1]
    show _=if c.rx.k=0\/c.rx.k=1 then _ else _
    rw [zK,aN hc],H4.getD 1,λb hb=>.inr (by simp [hb])⟩,H4.fr⟩⟩
  have isC:¬(c.k=0\/c.k=1)->(c.k=7\/dO c.rx gw=0)->∀w':aA,LH F0 w w' [.g b3,.g b4,.g b5] [.tree x,.tree m,.tree v,uD bm m,uD bv v]->regex_forms_4.gW b4 0 0 0 ⟨none,0,0⟩ b5 c.k c.lo.toNat c.hi.toNat c.s w' λr w'=>qT (x.fp++(m.fp++v.fp)) w (tm x.lo x.hi (Rt.cR (c::l'))) r w'/\bW w w':=λhn hc w' H=>
   H.bH λw4 H4=>⟨⟨c,rfl,by
    rw [e1]
    show _=if c.rx.k=0\/c.rx.k=1 then _ else if c.rx.k=7\/dO c.rx gw=0 then _ else _
    rw [zK,aI hn,aN hc],(show x.P w4 from H4.getD 0).parts.2.mem mc,λb hb=>.inr (by simp [fc b hb])⟩,H4.fr⟩
  refine aY (λh0=>H3.bH λw4 H4=>isE (.inl h0) w4 H4) (λh0=>aY (λh1=>H3.bH λw4 H4=>isE (.inr h1) w4 H4) (λh1=>aY (λh7=>H3.bH λw4 H4=>isC (by omega) (.inl h7) w4 H4) (λh7=>H3.bH λw4 H4=>⟨_,_,_,v.s,H4.y7 4 0,H4.y7 4 1,H4.y7 4 2,H4.y7 4 3,?_⟩)))
  refine H4.bC (x8 c v w4 sc ((show x.P w4 from H4.getD 0).parts.2.mem mc) (H4.getD 2)) ?_
  rintro _ w5 rfl H5
  rw [ev]
  refine ⟨_,rfl,aY (λhc=>isC (by omega) (.inr hc) w5 H5) (λhc=>H5.bH λw6 H6=>⟨⟨x,rfl,?_,H6.getD 0,λb hb=>.inr (by simp [hb])⟩,H6.fr⟩)⟩
  rw [e1]
  show x.rx=if c.rx.k=0\/c.rx.k=1 then _ else if c.rx.k=7\/dO c.rx gw=0 then _ else _
  rw [zK,aI (by omega),aI (by
   rintro (h|h)
   .exact h7 h
   .exact hc h),Rt.eE,hk,hl,e1]
structure Fm where
 m:Nat
 es:Array MapEntry
 clock:Nat
 ms:List (Int×aD)
 cs:List (Nat×Rt)
 s:Sl
def oA:Rt:=.mk 0 0 0 ⟨none,0,0⟩ []
def iw:Rt:=.mk 1 0 0 ⟨none,0,0⟩ []
def Fm.ev (F:Fm):Rt:=.mk 6 0 0 F.s [oA]
def _root_.Go.W.En.fm (F:Fm):En:=.all (.ob F.m (.map F.es F.clock)::.tree F.ev::F.cs.map λp=>uD p.1 p.2)
def Eu (a b:Nat):aD:=.func (.func jV) #[] #[.pointer (some (bO a)),.pointer (some (bO b))]
def pR:aD:=.func (.func lQ) #[] #[]
def DO (cs:List (Nat×Rt)) (ev:Rt) (k:Int) (v:aD):Prop:=
 ((k=0\/k=1\/k=2)/\v=pR)\/(∃u z a b,((k=3/\u=iw/\z=oA)\/(k=4/\u=oA/\z=ev)\/(k=5/\u=ev/\z=oA))/\v=Eu a b/\(a,u)∈cs/\(b,z)∈cs)\/
 (k=6/\v=.func (.func jP) #[] #[])\/∃a b,k=7/\v=.func (.func jQ) #[] #[.pointer (some (bO a)),.pointer (some (bO b))]/\(a,iw)∈cs/\(b,ev)∈cs
structure Fm.Ok (F:Fm):Prop where
 ms:sV .i64 F.es F.ms
 all:∀k:Int,0<=k->k<8->∃v,wm F.ms k=some v/\DO F.cs F.ev k v
section
variable {F:Fm} {w:aA}
def Yn (h:(En.fm F).P w):w.heap[F.m]? =some (.map F.es F.clock):=h (.ob F.m (.map F.es F.clock)) (by simp)
def QA (h:(En.fm F).P w):F.ev.P w:=h (.tree F.ev) (by simp)
def AY (h:(En.fm F).P w) {a:Nat} {u:Rt} (hu:(a,u)∈F.cs):w.heap[a]? =some (.cells u.c.toArray aL (0,0)):=h (uD a u) (mG _ (mG _ (pN.2 ⟨(a,u),hu,rfl⟩)))
def QB {b:Nat} (h:b∈F.ev.fp):b∈(En.fm F).fp:=aV.2 (nG.2 ⟨.tree F.ev,by simp,aV.2 h⟩)
def yz (w:aA):oA.P w:=Mv w
def AW (w:aA):iw.P w:=by
 unfold iw Rt.P Rt.Ps
 exact ⟨lN.nil 4 w,trivial⟩
def pA {b:Nat} (h:b∈oA.fp):False:=WN h
def yg {b:Nat} (h:b∈iw.fp):False:=by
 unfold iw Rt.fp Rt.iD at h
 simp [En.jG] at h
def qT.sub {GL abd:List Nat} {x:Rx} {r:cD} {w':aA} (h:qT GL w x r w') (hs:∀b∈GL,b∈abd):qT abd w x r w':=by
 obtain ⟨t,h1,h2,h3,h4⟩:=h
 exact ⟨t,h1,h2,h3,λb hb=>(h4 b hb).imp id (hs b)⟩
def WM:GW aB bG cT bZ .i64 .nilFunc:=⟨by kernel_rfl,by kernel_rfl,by kernel_rfl⟩
end
def Is {P:aQ} {T kt et:aP} {kd:IntKind} {z:aD} (mo:GW P T kt et kd z) {w:aA} {mb:Nat} {es:Array MapEntry} {clock:Nat} {ms:List (Int×aD)}
  (hm:w.heap[mb]? =some (.map es clock)) (wF:sV kd es ms) (k:Int):(Instr.lookup T (.map (some mb)) (.int kd k) false).run P w=.ok ((wm ms k).getD z) w:=by
 have hf:=se (k:=k) (i:=0) wF
 have hg:(getObj mb).run P w=.ok (.map es clock) w:=by simp [getObj,Sem.run,hm]
 have Ad:=Cg (ms:=ms) (k:=k) (i:=0)
 unfold Instr.lookup Instr.findKey
 simp only [Sem.run_bind,run_underlying mo.hT,Result.andThen_ok,hg,Sem.run_pure,tD mo.hk,run_underlying mo.hk,hf]
 cases hr:((ms.findIdx? λp=>p.1==k).bind λj=>(ms[j]?).map λp=>(0+j,p.2)) with
 |none=>rw [hr] at Ad;simp [<-Ad,sT mo.hz]
 |some q=>rw [hr] at Ad;simp [<-Ad]
def TB {N:Nat} (hS:y9 N) (hN:N<=1000000) {F:Fm} (hF:F.Ok) {w:aA} (h:(En.fm F).P w) (k:Int) (h0:0<=k) (h8:k<8):
  ∃f:Fv,(Instr.lookup bG (.map (some F.m)) (.i k) false).run aB w=.ok f.v w/\gq aB f.n=true/\∀(x:Rt) (w':aA),(En.fm F).P w'->x.P w'->x.k=k->(x.k=4\/x.k=5->pcX x.k (Rt.cR x.l)<=N)->x.sz<=1000000->pf x.rx=true->
   aH aB f.n (f.bs++#[x.v]++f.cs) w' λr wP=>qT (x.fp++(En.fm F).fp) w' (oS x.rx) r wP/\bW w' wP:=by
 have mo:=WM
 obtain ⟨v,hv,hg⟩:=hF.all k h0 h8
 have hl:=Is mo (Yn h) hF.ms k
 rw [hv,Option.getD_some] at hl
 have fx:∀x:Rt,oS x.rx=if x.k=3 then mN 3 (Rt.cR x.l) sF zx else if x.k=4 then mN 4 (Rt.cR x.l) zx gw else if x.k=5 then mN 5 (Rt.cR x.l) gw zx else if x.k=6 then IF x.lo x.hi (Rt.cR x.l) else if x.k=7 then tm x.lo x.hi (Rt.cR x.l) else x.rx:=λx=>by
  rw [Rt.eE];rfl
 rcases hg with ⟨hk,rfl⟩|⟨u,z',a,b,hk,rfl,ha,hb⟩|⟨rfl,rfl⟩|⟨a,b,rfl,rfl,ha,hb⟩
 .refine ⟨⟨lQ,#[],#[]⟩,hl,by kernel_rfl,λx w' HM px N1 hxs AZ hxo=>((PM x w' px).mono ?_)⟩
  rintro _ w2 ⟨rfl,f⟩
  refine ⟨⟨x,rfl,?_,px.qx f,λb hb=>.inr (by simp [hb])⟩,f⟩
  rw [fx,aI (by omega),aI (by omega),aI (by omega),aI (by omega),aI (by omega)]
 .refine ⟨⟨jV,#[],#[.pointer (some (bO a)),.pointer (some (bO b))]⟩,hl,by kernel_rfl,λx w' HM px N1 hxs AZ hxo=>?_⟩
  have pu:u.P w':=by
   rcases hk with ⟨_,rfl,_⟩|⟨_,rfl,_⟩|⟨_,rfl,_⟩
   .exact AW w'
   .exact yz w'
   .exact QA HM
  have pz:z'.P w':=by
   rcases hk with ⟨_,_,rfl⟩|⟨_,_,rfl⟩|⟨_,_,rfl⟩
   .exact yz w'
   .exact QA HM
   .exact yz w'
  refine (X7 hS hN x u z' a b w' (λh3=>hxs (by rcases hk with ⟨rfl,_⟩|⟨rfl,_⟩|⟨rfl,_⟩<;>omega)) AZ px pu pz (AY HM ha) (AY HM hb)).mono ?_
  rintro r w2 ⟨hr,f⟩
  refine ⟨?_,f⟩
  have e:oS x.rx=mN x.k (Rt.cR x.l) u.rx z'.rx:=by
   rw [fx]
   rcases hk with ⟨rfl,rfl,rfl⟩|⟨rfl,rfl,rfl⟩|⟨rfl,rfl,rfl⟩
   .rw [aN N1,N1];rfl
   .rw [aI (by omega),aN N1,N1];rfl
   .rw [aI (by omega),aI (by omega),aN N1,N1];rfl
  rw [e]
  refine hr.sub λc hc=>?_
  rcases gg.1 hc with hc|hc
  .simp [hc]
  .rcases gg.1 hc with hc|hc
   .rcases hk with ⟨_,rfl,_⟩|⟨_,rfl,_⟩|⟨_,rfl,_⟩
    .exact (yg hc).elim
    .exact (pA hc).elim
    .exact wL _ (QB hc)
   .rcases hk with ⟨_,_,rfl⟩|⟨_,_,rfl⟩|⟨_,_,rfl⟩
    .exact (pA hc).elim
    .exact wL _ (QB hc)
    .exact (pA hc).elim
 .refine ⟨⟨jP,#[],#[]⟩,hl,by kernel_rfl,λx w' HM px N1 hxs AZ hxo=>((aar x w' px N1 hxo).mono ?_)⟩
  rintro r w2 ⟨hr,f⟩
  refine ⟨?_,f⟩
  rw [fx,aI (by omega),aI (by omega),aI (by omega),aN N1]
  exact hr.sub λc hc=>by simp [hc]
 .refine ⟨⟨jQ,#[],#[.pointer (some (bO a)),.pointer (some (bO b))]⟩,hl,by kernel_rfl,λx w' HM px N1 hxs AZ hxo=>((Ya x iw F.ev a b w' AZ px (AW w') (QA HM) (AY HM ha) (AY HM hb) rfl rfl N1 hxo).mono ?_)⟩
  rintro r w2 ⟨hr,f⟩
  refine ⟨?_,f⟩
  rw [fx,aI (by omega),aI (by omega),aI (by omega),aI (by omega),aN N1]
  refine hr.sub λc hc=>?_
  rcases gg.1 hc with hc|hc
  .simp [hc]
  .rcases gg.1 hc with hc|hc
   .exact (yg hc).elim
   .exact wL _ (QB hc)
section
variable {s:Sl} {l:List Rt} {bs:Nat}
end
def ZF {α:Type} {ts:List α} {i j:Nat} {a b:α} (hi:ts[i]? =some a) (hj:ts[j]? =some b) (q:Nat):((ts.set i b).set j a)[q]? =if q=j then some a else if q=i then some b else ts[q]?:=by
 have h1:=(nY.1 hi).1
 have h2:=(nY.1 hj).1
 rw [List.getElem?_set,WY,List.getElem?_set]
 by_cases e:q=j
 .subst e;simp [h2]
 .rw [aI (show ¬j=q from λh=>e h.symm),aI e]
  by_cases e2:q=i
  .subst e2;simp [h1]
  .rw [aI (show ¬i=q from λh=>e2 h.symm),aI e2]
def Vv {α:Type} {ts:List α} {i j:Nat} {a b:α} (hi:ts[i]? =some a) (hj:ts[j]? =some b):((ts.set i b).set j a).Perm ts:=by
 obtain ⟨h1,rfl⟩:=nY.1 hi
 obtain ⟨h2,rfl⟩:=nY.1 hj
 exact List.set_set_perm h1 h2
abbrev LtP (pv x:Rt):Prop:=dO x.rx pv.rx<0
structure XN (l ts:List Rt) (pv:Rt) (i j:Nat):Prop where
 perm:ts.Perm l
 z:ts[0]? =some pv
 i1:1<=i
 ij:i<=j+1
 jn:j<ts.length
 lo:∀(q:Nat) x,1<=q->q<i->ts[q]? =some x->LtP pv x
 hi:∀(q:Nat) x,j<q->ts[q]? =some x->¬LtP pv x
def XN.swap {l ts:List Rt} {pv x y:Rt} {i j:Nat} (I:XN l ts pv i j) (hx:ts[i]? =some x) (hy:ts[j]? =some y) (h:i<j) (lx:¬LtP pv x) (ly:LtP pv y):XN l ((ts.set i y).set j x) pv (i+1) (j - 1):=by
 have g:=ZF hx hy
 have h1:=I.i1
 have hj:=I.jn
 refine ⟨(Vv hx hy).trans I.perm,?_,by omega,by omega,by simp only [WY];omega,λq z hq1 hq hz=>?_,λq z hq hz=>?_⟩
 .rw [g,aI (by omega),aI (by omega)];exact I.z
 .rw [g,aI (by omega)] at hz
  split at hz
  .cases hz;exact ly
  .exact I.lo q z hq1 (by omega) hz
 .rw [g] at hz
  split at hz
  .cases hz;exact lx
  .rw [aI (by omega)] at hz
   exact I.hi q z (by omega) hz
def RI {s:Sl} {l:List Rt} {w:aA} (hl:Rt.gF l<=1000000) (ho:bD w aL 4 s (l.flatMap Rt.c)) (pl:Rt.Ps w l) (hd:∀x∈bQ s,x∉Rt.iD l) (A X Z:List Rt) (he:l=A++X++Z) (hX:X.length<=12) (a b:Int) (ha:a=(A.length:Int)) (hb:b=((A.length+X.length:Nat):Int)) (lim:Int) (wb wp:Bool) {R:aT}
  (hR:∀w',bD w' aL 4 s ((A++kW X++Z).flatMap Rt.c)->Fr (·∈bQ s) w w'->R (aJ (.tuple #[])) w'):slices_pdqsortCmpFunc_regex_Regex.L0 s a b lim wb wp w R:=by
 have ll:=Rt.gj l
 have lX:A.length+X.length+Z.length=l.length:=by rw [he];simp [Nat.add_assoc]
 subst ha hb
 refine slices_pdqsortCmpFunc_regex_Regex.dE _ _ _ _ _ _ _ _ (bF (aO ?_) ?_)
 .rw [aS _ (by omega)]
  omega
 refine (Hg s l w hl ho pl hd A X Z he _ rfl).mono ?_
 rintro _ w2 ⟨⟨rfl,h2⟩,f2⟩
 exact ⟨rfl,hR w2 h2 f2⟩
set_option maxRecDepth 100000
def EY {M:Nat->Prop} {w0 w:aA} {L L' D:List En} (H:LH M w0 w L D) (h:L.Perm L'):LH M w0 w L' D:=
 ⟨H.fr,λe he=>H.own e (h.mem_iff.2 he),H.rd,λe he=>H.new e (h.mem_iff.2 he),(h.flatMap_right (·.fp)).nodup_iff.1 H.nd,λe he b hb e' lM=>H.dj e he b hb e' (h.mem_iff.2 lM)⟩
def dX {L:Nat->Bool} {i j:Nat} (h:j≠i):iB L i j=L j:=by
 have:Nat.beq j i=false:=by rw [<-Bool.not_eq_true,Nat.beq_eq];exact h
 simp [iB,this]
def yP {L:Nat->Bool} {i:Nat}:iB L i i=true:=by simp [iB]
def Ol {P:aQ} {fn:Func} {E:Env} {w:aA} {K:aD->Prop} {t:Nat} {v:aD} (hr:fn.results.toList=[.tmp t]) (ht:E.get? t=some v) (h:K v):pB P fn E w K:=by
 unfold pB
 rw [hr]
 unfold Cv
 rw [ht]
 exact h
def LY:List (Op×Option Nat×aP×List Nat):=[
 (.makeMap bG none,some 11,bG,[]),
 (.move (.tmp 4),some 12,bZ,[]),
 (.insert bG (.tmp 11) (.const (.int .i64 0)) (.tmp 12),none,OK,[0,1]),
 (.move (.tmp 4),some 13,bZ,[]),
 (.insert bG (.tmp 11) (.const (.int .i64 1)) (.tmp 13),none,OK,[0,3]),
 (.move (.tmp 4),some 14,bZ,[]),
 (.insert bG (.tmp 11) (.const (.int .i64 2)) (.tmp 14),none,OK,[0,5]),
 (.move (.tmp 5),some 15,dB,[]),
 (.load aL (.tmp 2),some 16,aL,[]),
 (.load aL (.tmp 1),some 17,aL,[]),
 (.call ⟨.value (.tmp 15),#[.tmp 16,.tmp 17],#[aL,aL]⟩,some 18,bZ,[7,8,9]),
 (.insert bG (.tmp 11) (.const (.int .i64 3)) (.tmp 18),none,OK,[0,10]),
 (.move (.tmp 5),some 19,dB,[]),
 (.load aL (.tmp 1),some 20,aL,[]),
 (.load aL (.tmp 3),some 21,aL,[]),
 (.call ⟨.value (.tmp 19),#[.tmp 20,.tmp 21],#[aL,aL]⟩,some 22,bZ,[12,13,14,10]),
 (.insert bG (.tmp 11) (.const (.int .i64 4)) (.tmp 22),none,OK,[0,15]),
 (.move (.tmp 5),some 23,dB,[]),
 (.load aL (.tmp 3),some 24,aL,[]),
 (.load aL (.tmp 1),some 25,aL,[]),
 (.call ⟨.value (.tmp 23),#[.tmp 24,.tmp 25],#[aL,aL]⟩,some 26,bZ,[17,18,19,15]),
 (.insert bG (.tmp 11) (.const (.int .i64 5)) (.tmp 26),none,OK,[0,20]),
 (.insert bG (.tmp 11) (.const (.int .i64 6)) (.func jP),none,OK,[0]),
 (.makeFunc (.func jQ) #[] #[.tmp 2,.tmp 3],some 27,bZ,[]),
 (.insert bG (.tmp 11) (.const (.int .i64 7)) (.tmp 27),none,OK,[0,23]),
 (.move (.tmp 11),some 28,bG,[0,1,2,3,4,5,6,7,8,9,10,11,12,13,14,15,16,17,18,19,20,21,22,23,24]),
 (.assign (.tmp 28),some 0,bG,[25,20,0,1,2,3,4,5,6,7,8,9,10,11,12,13,14,15,16,17,18,19,20,21,22,23,24,25])]
abbrev ptr (b:Nat):aD:=.pointer (some (bO b))
abbrev yS:aD:=.func (.func oy) #[] #[]
abbrev MR (a b:Nat):aD:=.func (.func jQ) #[] #[ptr a,ptr b]
abbrev y5 (s:Sl):Rt:=.mk 6 0 0 s [oA]
def n8 (b1 b2 b4:Nat) (ev:Rt):List (Nat×Nat×aD):=[(0,1,ptr b1),(0,2,ptr b2),(0,3,ptr b4),(0,4,pR),(0,5,yS),(2,12,pR),(4,13,pR),(6,14,pR),(8,15,yS),(9,16,iw.v),(10,17,oA.v),(13,19,yS),(14,20,oA.v),(15,21,ev.v),(18,23,yS),(19,24,ev.v),(20,25,oA.v),(24,27,MR b2 b4)]
def nA:List (Nat×Int):=[(2,0),(4,1),(6,2),(11,3),(16,4),(21,5),(22,6),(24,7)]
def kB (ev:Rt):List (Nat×Nat×Rt×Rt):=[(10,18,iw,oA),(15,22,oA,ev),(20,26,ev,oA)]
def Joined (ev:Rt) (cs:List (Nat×Rt)) (L:Nat->Bool) (E:Env):Prop:=∀q∈kB ev,L q.1=true->∃a b,E.get? q.2.1=some (Eu a b)/\(a,q.2.2.1)∈cs/\(b,q.2.2.2)∈cs
def Lo (ev:Rt) (cs:List (Nat×Rt)) (L:Nat->Bool) (E:Env) (mp:List En):Prop:=(L 0=false/\mp=[]/\(∀q∈nA,L q.1=false)/\L 25=false/\L 26=false)\/
 (L 0=true/\∃(m:Nat) (es:Array MapEntry) (clock:Nat) (ms:List (Int×aD)),mp=[.ob m (.map es clock)]/\E.get? 11=some (.map (some m))/\sV .i64 es ms/\(∀k v,wm ms k=some v->DO cs ev k v)/\(∀q∈nA,(wm ms q.2).isSome=L q.1)/\
  (L 25=true->E.get? 28=some (.map (some m)))/\(L 26=true->E.get? 0=some (.map (some m))))
abbrev vf (b1 b2 b4:Nat) (s:Sl):List En:=[uD b1 oA,uD b2 iw,.row aL 4 s oA.c,uD b4 (y5 s)]
structure FJ (w0:aA) (b1 b2 b4:Nat) (s:Sl) (L:Nat->Bool) (E:Env) (w:aA):Prop where
 st:uO (n8 b1 b2 b4 (y5 s)) L E
 hp:∃(mp X:List En) (cs:List (Nat×Rt)),LH F0 w0 w (mp++(vf b1 b2 b4 s++X)) []/\(∀p∈cs,uD p.1 p.2∈vf b1 b2 b4 s++X)/\(b2,iw)∈cs/\(b4,y5 s)∈cs/\Joined (y5 s) cs L E/\Lo (y5 s) cs L E mp
def DO.mono {cs Z0:List (Nat×Rt)} {ev:Rt} {k:Int} {v:aD} (h:DO cs ev k v) (hs:∀p∈cs,p∈Z0):DO Z0 ev k v:=by
 rcases h with h|⟨u,z,a,b,h1,h2,h3,h4⟩|h|⟨a,b,h1,h2,h3,h4⟩
 .exact .inl h
 .exact .inr (.inl ⟨u,z,a,b,h1,h2,hs _ h3,hs _ h4⟩)
 .exact .inr (.inr (.inl h))
 .exact .inr (.inr (.inr ⟨a,b,h1,h2,hs _ h3,hs _ h4⟩))
def EB (ms:List (Int×aD)) (k k':Int) (v:aD):wm (ms++[(k,v)]) k'=(wm ms k').or (if k=k' then some v else none):=by
 unfold wm
 rw [List.find?_append]
 cases h:ms.find? (λp=>p.1==k') with
 |some p=>rfl
 |none=>
  by_cases hk:k=k'
  .simp [hk]
  .simp [hk]
section
variable {w0 w:aA} {b1 b2 b4:Nat} {s:Sl} {L:Nat->Bool} {E:Env}
def Lo.ic {ev:Rt} {cs Z0:List (Nat×Rt)} {mp:List En} (h:Lo ev cs L E mp) (hs:∀p∈cs,p∈Z0) (i d:Nat) (v:aD) (hi:∀j∈[0,25,26,2,4,6,11,16,21,22,24],j≠i) (hd:∀t∈[11,28,0],d≠t):Lo ev Z0 (iB L i) (E.put (some d) v) mp:=by
 have hn:∀q∈nA,iB L i q.1=L q.1:=λq hq=>dX (hi _ (by simp only [nA,dT,gL,or_false] at hq;rcases hq with rfl|rfl|rfl|rfl|rfl|rfl|rfl|rfl<;>simp))
 have n0:iB L i 0=L 0:=dX (hi 0 (by simp))
 have n25:iB L i 25=L 25:=dX (hi 25 (by simp))
 have n26:iB L i 26=L 26:=dX (hi 26 (by simp))
 rcases h with ⟨h0,h1,h2,h3,h4⟩|⟨h0,m,es,clock,ms,h1,h2,h3,h4,h5,h6,h7⟩
 .exact .inl ⟨by rw [n0,h0],h1,λq hq=>by rw [hn q hq,h2 q hq],by rw [n25,h3],by rw [n26,h4]⟩
 .refine .inr ⟨by rw [n0,h0],m,es,clock,ms,h1,?_,h3,λk v hk=>(h4 k v hk).mono hs,λq hq=>by rw [hn q hq,h5 q hq],λh=>?_,λh=>?_⟩
  .rw [dS (hd 11 (by simp)),h2]
  .rw [dS (hd 28 (by simp)),h6 (n25▸h)]
  .rw [dS (hd 0 (by simp)),h7 (n26▸h)]
def FJ.stat (h:FJ w0 b1 b2 b4 s L E w) (i d:Nat) (v:aD) (h1:∀q∈n8 b1 b2 b4 (y5 s),q.1=i+1->q=(i+1,d,v)) (h2:∀q∈n8 b1 b2 b4 (y5 s),q.2.1=d->q.1=i+1)
  (hi:∀j∈[0,25,26,2,4,6,11,16,21,22,24],j≠i) (y6:∀j∈[10,15,20],j≠i) (hd:∀t∈[11,28,0],d≠t) (Z8:∀t∈[18,22,26],d≠t):FJ w0 b1 b2 b4 s (iB L i) (E.put (some d) v) w:=by
 obtain ⟨mp,X,cs,H,hc,hm,hv,hj,wF⟩:=h.hp
 refine ⟨h.st.fill h1 h2,mp,X,cs,H,hc,hm,hv,λq hq hL=>?_,wF.ic (λ_ h=>h) i d v hi hd⟩
 have e:iB L i q.1=L q.1/\d≠q.2.1:=by
  simp only [kB,dT,gL,or_false] at hq
  rcases hq with rfl|rfl|rfl
  .exact ⟨dX (y6 10 (by simp)),Z8 18 (by simp)⟩
  .exact ⟨dX (y6 15 (by simp)),Z8 22 (by simp)⟩
  .exact ⟨dX (y6 20 (by simp)),Z8 26 (by simp)⟩
 rw [dS e.2]
 exact hj q hq (e.1▸hL)
def FJ.ins (h:FJ w0 b1 b2 b4 s L E w) (i:Nat) (k:Int) (v:aD) (Wu:(i,k)∈nA) (h0:L 0=true) (hi:L i=false) (hv:∀cs,(b2,iw)∈cs->(b4,y5 s)∈cs->Joined (y5 s) cs L E->DO cs (y5 s) k v):
  ∃m,E.get? 11=some (.map (some m))/\∃w',(Instr.mapUpdate bG (.map (some m)) (.i k) v).run aB w=.ok () w'/\FJ w0 b1 b2 b4 s (iB L i) (E.put none undef) w':=by
 obtain ⟨mp,X,cs,H,hc,hm,xL,hj,wF⟩:=h.hp
 rcases wF with ⟨yn,_⟩|⟨_,m,es,clock,ms,rfl,h2,h3,h4,h5,h6,h7⟩
 .rw [h0] at yn;cases yn
 have tz:wm ms k=none:=by
  have:=h5 _ Wu
  rw [hi] at this
  simpa using this
 obtain ⟨w',Ec,r1,r2,r3,r4,r5⟩:=wI WM (H.ob (b:=m) 0 rfl) h3 k v tz
 refine ⟨m,h2,w',r1,h.st.pass ?_ (λ_ _=>by simp),[.ob m (.map Ec (clock+1))],X,cs,H.CX 0 (.ob m (.map Ec (clock+1))) rfl (r4.mono λx _ e=>by simp [En.ob,e]) r2 (λb hb=>.inl hb),hc,hm,xL,λq hq hL=>?_,.inr ⟨?_,m,Ec,clock+1,ms++[(k,v)],rfl,h2,r3,λk' v' xM=>?_,λq hq=>?_,λh=>?_,λh=>?_⟩⟩
 .intro q hq
  simp only [nA,dT,gL,or_false,Prod.mk.injEq] at Wu
  simp only [n8,dT,gL,or_false] at hq
  (repeat' rcases hq with rfl|hq)<;>(try subst hq)<;>simp only<;>omega
 .have e:iB L i q.1=L q.1:=dX (by
   simp only [nA,dT,gL,or_false,Prod.mk.injEq] at Wu
   simp only [kB,dT,gL,or_false] at hq
   rcases hq with rfl|rfl|rfl<;>simp only<;>omega)
  exact hj q hq (e▸hL)
 .rw [dX (by
   simp only [nA,dT,gL,or_false,Prod.mk.injEq] at Wu
   omega),h0]
 .rw [EB] at xM
  by_cases YA:k=k'
  .subst YA
   rw [tz] at xM
   simp at xM
   subst xM
   exact hv cs hm xL hj
  .rw [aI YA] at xM
   simp at xM
   exact h4 k' v' xM
 .rw [EB]
  by_cases Uo:q.1=i
  .have:q.2=k:=by
    simp only [nA,dT,gL,or_false,Prod.mk.injEq] at Wu
    simp only [nA,dT,gL,or_false] at hq
    rcases hq with rfl|rfl|rfl|rfl|rfl|rfl|rfl|rfl<;>simp only at Uo ⊢<;>omega
   rw [Uo,yP,this,tz,aN rfl];rfl
  .have:k≠q.2:=by
    simp only [nA,dT,gL,or_false,Prod.mk.injEq] at Wu
    simp only [nA,dT,gL,or_false] at hq
    rcases hq with rfl|rfl|rfl|rfl|rfl|rfl|rfl|rfl<;>simp only at Uo ⊢<;>omega
   rw [dX Uo,aI this,<-h5 q hq]
   simp
 .exact h6 (by rwa [dX (by
   simp only [nA,dT,gL,or_false,Prod.mk.injEq] at Wu
   omega)] at h)
 .exact h7 (by rwa [dX (by
   simp only [nA,dT,gL,or_false,Prod.mk.injEq] at Wu
   omega)] at h)
def FJ.call (h:FJ w0 b1 b2 b4 s L E w) (i d:Nat) (u z:Rt) (Mc:(i,d,u,z)∈kB (y5 s)):aH aB oy #[u.v,z.v] w λe w'=>∃v,e=aJ v/\FJ w0 b1 b2 b4 s (iB L i) (E.put (some d) v) w':=by
 obtain ⟨mp,X,cs,H,hc,hm,xL,hj,wF⟩:=h.hp
 have hid:(i=10/\d=18)\/(i=15/\d=22)\/(i=20/\d=26):=by
  simp only [kB,dT,gL,or_false,Prod.mk.injEq] at Mc
  omega
 refine regex_forms_2.ok _ _ _ _ _ _ _ _ w _ (H.nw λw1 zq H1=>H1.nw λw2 JJ H2=>⟨Eu w.heap.size w1.heap.size,rfl,h.st.pass ?_ ?_,mp,X++[uD w.heap.size u,uD w1.heap.size z],(w.heap.size,u)::(w1.heap.size,z)::cs,?_,?_,by simp [hm],by simp [xL],λq hq hL=>?_,wF.ic (λp hp=>by simp [hp]) i d _ ?_ ?_⟩)
 .intro q hq
  simp only [n8,dT,gL,or_false] at hq
  (repeat' rcases hq with rfl|hq)<;>(try subst hq)<;>simp only<;>omega
 .intro q hq he
  have he:d=q.2.1:=Option.some.inj he
  simp only [n8,dT,gL,or_false] at hq
  (repeat' rcases hq with rfl|hq)<;>(try subst hq)<;>simp only at he<;>omega
 .have e:mp++(vf b1 b2 b4 s++(X++[uD w.heap.size u,uD w1.heap.size z]))=mp++(vf b1 b2 b4 s++X)++[uD w.heap.size u]++[uD w1.heap.size z]:=by simp
  rw [e]
  exact H2
 .intro p hp
  rcases dT.1 hp with rfl|hp
  .simp
  rcases dT.1 hp with rfl|hp
  .simp
  rw [<-tA]
  exact qy _ (hc p hp)
 .by_cases Uo:q.1=i
  .have:q=(i,d,u,z):=by
    simp only [kB,dT,gL,or_false,Prod.mk.injEq] at Mc
    simp only [kB,dT,gL,or_false] at hq
    rcases hq with rfl|rfl|rfl<;>simp only at Uo<;>rcases Mc with ⟨rfl,rfl,rfl,rfl⟩|⟨rfl,rfl,rfl,rfl⟩|⟨rfl,rfl,rfl,rfl⟩<;>first |rfl|(exact absurd Uo (by decide))
   subst this
   exact ⟨_,_,qg,by simp,by simp⟩
  .have jx:d≠q.2.1:=by
    simp only [kB,dT,gL,or_false] at hq
    rcases hq with rfl|rfl|rfl<;>simp only at Uo ⊢<;>omega
   obtain ⟨a,b,h1,h2,h3⟩:=hj q hq (by rwa [dX Uo] at hL)
   exact ⟨a,b,by rw [dS jx,h1],by simp [h2],by simp [h3]⟩
 .intro j SV
  simp only [dT,gL,or_false] at SV
  omega
 .intro j SV
  simp only [dT,gL,or_false] at SV
  omega
def FJ.mk0 (h:FJ w0 b1 b2 b4 s L E w) (h0:L 0=false):FJ w0 b1 b2 b4 s (iB L 0) (E.put (some 11) (.map (some w.heap.size))) (w.alloc (.map #[] 0)):=by
 obtain ⟨mp,X,cs,H,hc,hm,xL,hj,wF⟩:=h.hp
 rcases wF with ⟨_,rfl,h2,h3,h4⟩|⟨yn,_⟩
 .refine ⟨h.st.pass ?_ ?_,[.ob w.heap.size (.map #[] 0)],X,cs,EY (H.alloc (.map #[] 0)) ?_,hc,hm,xL,λq hq hL=>?_,.inr ⟨yP,w.heap.size,#[],0,[],rfl,qg,rfl,λk v hk=>by simp [wm] at hk,λq hq=>?_,λh=>?_,λh=>?_⟩⟩
  .intro q hq
   simp only [n8,dT,gL,or_false] at hq
   (repeat' rcases hq with rfl|hq)<;>(try subst hq)<;>simp
  .intro q hq he
   have he:11=q.2.1:=Option.some.inj he
   simp only [n8,dT,gL,or_false] at hq
   (repeat' rcases hq with rfl|hq)<;>(try subst hq)<;>simp at he
  .exact List.perm_append_comm
  .have e:iB L 0 q.1=L q.1/\11≠q.2.1:=by
    simp only [kB,dT,gL,or_false] at hq
    rcases hq with rfl|rfl|rfl<;>exact ⟨dX (by simp),by simp⟩
   rw [dS e.2]
   exact hj q hq (e.1▸hL)
  .rw [dX (by
    simp only [nA,dT,gL,or_false] at hq
    rcases hq with rfl|rfl|rfl|rfl|rfl|rfl|rfl|rfl<;>decide),h2 q hq]
   simp [wm]
  .rw [dX (by decide),h3] at h;cases h
  .rw [dX (by decide),h4] at h;cases h
 .rw [h0] at yn;cases yn
def FJ.m25 (h:FJ w0 b1 b2 b4 s L E w) (h0:L 0=true):∃m,E.get? 11=some (.map (some m))/\FJ w0 b1 b2 b4 s (iB L 25) (E.put (some 28) (.map (some m))) w:=by
 obtain ⟨mp,X,cs,H,hc,hm,xL,hj,wF⟩:=h.hp
 rcases wF with ⟨yn,_⟩|⟨_,m,es,clock,ms,rfl,h2,h3,h4,h5,h6,h7⟩
 .rw [h0] at yn;cases yn
 refine ⟨m,h2,h.st.pass ?_ ?_,[.ob m (.map es clock)],X,cs,H,hc,hm,xL,λq hq hL=>?_,.inr ⟨by rw [dX (by decide),h0],m,es,clock,ms,rfl,by rw [dS (by decide),h2],h3,h4,λq hq=>?_,λ_=>qg,λh=>?_⟩⟩
 .intro q hq
  simp only [n8,dT,gL,or_false] at hq
  (repeat' rcases hq with rfl|hq)<;>(try subst hq)<;>simp
 .intro q hq he
  have he:28=q.2.1:=Option.some.inj he
  simp only [n8,dT,gL,or_false] at hq
  (repeat' rcases hq with rfl|hq)<;>(try subst hq)<;>simp at he
 .have e:iB L 25 q.1=L q.1/\28≠q.2.1:=by
   simp only [kB,dT,gL,or_false] at hq
   rcases hq with rfl|rfl|rfl<;>exact ⟨dX (by simp),by simp⟩
  rw [dS e.2]
  exact hj q hq (e.1▸hL)
 .rw [dX (by
   simp only [nA,dT,gL,or_false] at hq
   rcases hq with rfl|rfl|rfl|rfl|rfl|rfl|rfl|rfl<;>decide),h5 q hq]
 .rw [dS (by decide)]
  exact h7 (by rwa [dX (by decide)] at h)
def FJ.m26 (h:FJ w0 b1 b2 b4 s L E w) (h0:L 0=true) (Z5:L 25=true):∃m,E.get? 28=some (.map (some m))/\FJ w0 b1 b2 b4 s (iB L 26) (E.put (some 0) (.map (some m))) w:=by
 obtain ⟨mp,X,cs,H,hc,hm,xL,hj,wF⟩:=h.hp
 rcases wF with ⟨yn,_⟩|⟨_,m,es,clock,ms,rfl,h2,h3,h4,h5,h6,h7⟩
 .rw [h0] at yn;cases yn
 refine ⟨m,h6 Z5,h.st.pass ?_ ?_,[.ob m (.map es clock)],X,cs,H,hc,hm,xL,λq hq hL=>?_,.inr ⟨by rw [dX (by decide),h0],m,es,clock,ms,rfl,by rw [dS (by decide),h2],h3,h4,λq hq=>?_,λh=>?_,λ_=>qg⟩⟩
 .intro q hq
  simp only [n8,dT,gL,or_false] at hq
  (repeat' rcases hq with rfl|hq)<;>(try subst hq)<;>simp
 .intro q hq he
  have he:0=q.2.1:=Option.some.inj he
  simp only [n8,dT,gL,or_false] at hq
  (repeat' rcases hq with rfl|hq)<;>(try subst hq)<;>simp at he
 .have e:iB L 26 q.1=L q.1/\0≠q.2.1:=by
   simp only [kB,dT,gL,or_false] at hq
   rcases hq with rfl|rfl|rfl<;>exact ⟨dX (by simp),by simp⟩
  rw [dS e.2]
  exact hj q hq (e.1▸hL)
 .rw [dX (by
   simp only [nA,dT,gL,or_false] at hq
   rcases hq with rfl|rfl|rfl|rfl|rfl|rfl|rfl|rfl<;>decide),h5 q hq]
 .rw [dS (by decide)]
  exact h6 Z5
def FJ.ld (h:FJ w0 b1 b2 b4 s L E w) {u:Rt} {b:Nat} (hu:uD b u∈vf b1 b2 b4 s) {K:aD->Prop} (hk:K u.v):DH aB aL (bO b) w λv _=>K v:=by
 obtain ⟨mp,X,cs,H,_⟩:=h.hp
 have hb:w.heap[b]? =some (.cells u.c.toArray aL (0,0)):=H.own (uD b u) (wL _ (qy _ hu))
 have c0:=cellAt (p:=bO b) (i:=0) (v:=.int .i64 u.k) hb rfl rfl
 have c1:=cellAt (p:=bO b) (i:=1) (v:=.int .u8 (u.lo.toNat:Int)) hb rfl rfl
 have c2:=cellAt (p:=bO b) (i:=2) (v:=.int .u8 (u.hi.toNat:Int)) hb rfl rfl
 have c3:=cellAt (p:=bO b) (i:=3) (v:=u.s.v) hb rfl rfl
 have e:(DH aB aL (bO b) w λv _=>K v)=(∃n0:Int,∃n1:Int,∃n2:Int,∃n3:Sl,w.cell? ((bO b).add 0)=some (.int .i64 n0)/\w.cell? ((bO b).add 1)=some (.int .u8 n1)/\w.cell? ((bO b).add 2)=some (.int .u8 n2)/\w.cell? ((bO b).add 3)=some n3.v/\K (.agg #[.int .i64 n0,.int .u8 n1,.int .u8 n2,n3.v])):=by kernel_rfl
 rw [e]
 exact ⟨_,_,_,u.s,c0,c1,c2,c3,hk⟩
end
def TX (w:aA) (b1 b2 b4:Nat) (s:Sl):allI (Ni aB (FJ w b1 b2 b4 s)) LY 0:=
 ⟨λL E w' o ho hd ht hi eW hJ=>Sc ho (by rw [hd];exact hJ.mk0 hi),
  λL E w' o ho hd ht hi eW hJ=>vH (.inl ho) (hJ.st.get (i:=0) (d:=4) (v:=pR) (by simp [n8]) rfl) (by rw [hd];exact hJ.stat 1 12 (pR) (by simp [n8]) (by simp [n8]) (by simp) (by simp) (by simp) (by simp)),
  λL E w' o ho hd ht hi eW hJ=>by
   obtain ⟨m,Ab,w2,hr,vT⟩:=hJ.ins 2 0 (pR) (by simp [nA]) (eW 0 (by simp)) hi (λcs h1 h2 h3=>.inl ⟨.inl rfl,rfl⟩)
   exact vG ho Ab rfl (hJ.st.get (i:=2) (d:=12) (v:=pR) (by simp [n8]) (eW 1 (by simp))) ⟨w2,hr,by rw [hd];exact vT⟩,
  λL E w' o ho hd ht hi eW hJ=>vH (.inl ho) (hJ.st.get (i:=0) (d:=4) (v:=pR) (by simp [n8]) rfl) (by rw [hd];exact hJ.stat 3 13 (pR) (by simp [n8]) (by simp [n8]) (by simp) (by simp) (by simp) (by simp)),
  λL E w' o ho hd ht hi eW hJ=>by
   obtain ⟨m,Ab,w2,hr,vT⟩:=hJ.ins 4 1 (pR) (by simp [nA]) (eW 0 (by simp)) hi (λcs h1 h2 h3=>.inl ⟨.inr (.inl rfl),rfl⟩)
   exact vG ho Ab rfl (hJ.st.get (i:=4) (d:=13) (v:=pR) (by simp [n8]) (eW 3 (by simp))) ⟨w2,hr,by rw [hd];exact vT⟩,
  λL E w' o ho hd ht hi eW hJ=>vH (.inl ho) (hJ.st.get (i:=0) (d:=4) (v:=pR) (by simp [n8]) rfl) (by rw [hd];exact hJ.stat 5 14 (pR) (by simp [n8]) (by simp [n8]) (by simp) (by simp) (by simp) (by simp)),
  λL E w' o ho hd ht hi eW hJ=>by
   obtain ⟨m,Ab,w2,hr,vT⟩:=hJ.ins 6 2 (pR) (by simp [nA]) (eW 0 (by simp)) hi (λcs h1 h2 h3=>.inl ⟨.inr (.inr rfl),rfl⟩)
   exact vG ho Ab rfl (hJ.st.get (i:=6) (d:=14) (v:=pR) (by simp [n8]) (eW 5 (by simp))) ⟨w2,hr,by rw [hd];exact vT⟩,
  λL E w' o ho hd ht hi eW hJ=>vH (.inl ho) (hJ.st.get (i:=0) (d:=5) (v:=yS) (by simp [n8]) rfl) (by rw [hd];exact hJ.stat 7 15 (yS) (by simp [n8]) (by simp [n8]) (by simp) (by simp) (by simp) (by simp)),
  λL E w' o ho hd ht hi eW hJ=>Av ho (hJ.st.get (i:=0) (d:=2) (v:=ptr b2) (by simp [n8]) rfl) (hJ.ld (u:=iw) (b:=b2) (dI (i:=1) rfl) (K:=λv=>FJ w b1 b2 b4 s (iB L 8) (E.put o.dst v) w') (by rw [hd];exact hJ.stat 8 16 ((iw).v) (by simp [n8]) (by simp [n8]) (by simp) (by simp) (by simp) (by simp))),
  λL E w' o ho hd ht hi eW hJ=>Av ho (hJ.st.get (i:=0) (d:=1) (v:=ptr b1) (by simp [n8]) rfl) (hJ.ld (u:=oA) (b:=b1) (dI (i:=0) rfl) (K:=λv=>FJ w b1 b2 b4 s (iB L 9) (E.put o.dst v) w') (by rw [hd];exact hJ.stat 9 17 ((oA).v) (by simp [n8]) (by simp [n8]) (by simp) (by simp) (by simp) (by simp))),
  λL E w' o ho hd ht hi eW hJ=>by
   refine CJ ho (hJ.st.get (i:=8) (d:=15) (v:=yS) (by simp [n8]) (eW 7 (by simp))) (hJ.st.get (i:=9) (d:=16) (v:=(iw).v) (by simp [n8]) (eW 8 (by simp))) (hJ.st.get (i:=10) (d:=17) (v:=(oA).v) (by simp [n8]) (eW 9 (by simp))) (by kernel_rfl) ((hJ.call 10 18 (iw) (oA) (by simp [kB])).mono ?_)
   rintro e w2 ⟨v,he,vT⟩
   rw [ht,show zeroOf aB bZ=.nilFunc from by kernel_rfl]
   exact ⟨v,he,by rw [hd];exact vT⟩,
  λL E w' o ho hd ht hi eW hJ=>by
   obtain ⟨mp,X,cs,H,hc,hm,xL,hj,wF⟩:=hJ.hp
   obtain ⟨a,b,Wg,_,_⟩:=hj (10,18,iw,oA) (by simp [kB]) (eW 10 (by simp))
   obtain ⟨m,Ab,w2,hr,vT⟩:=hJ.ins 11 3 (Eu a b) (by simp [nA]) (eW 0 (by simp)) hi (λcs h1 h2 h3=>by
    obtain ⟨a',b',h',ha,hb⟩:=h3 (10,18,iw,oA) (by simp [kB]) (eW 10 (by simp))
    exact .inr (.inl ⟨iw,oA,a',b',.inl ⟨rfl,rfl,rfl⟩,Option.some.inj (Wg.symm.trans h'),ha,hb⟩))
   exact vG ho Ab rfl Wg ⟨w2,hr,by rw [hd];exact vT⟩,
  λL E w' o ho hd ht hi eW hJ=>vH (.inl ho) (hJ.st.get (i:=0) (d:=5) (v:=yS) (by simp [n8]) rfl) (by rw [hd];exact hJ.stat 12 19 (yS) (by simp [n8]) (by simp [n8]) (by simp) (by simp) (by simp) (by simp)),
  λL E w' o ho hd ht hi eW hJ=>Av ho (hJ.st.get (i:=0) (d:=1) (v:=ptr b1) (by simp [n8]) rfl) (hJ.ld (u:=oA) (b:=b1) (dI (i:=0) rfl) (K:=λv=>FJ w b1 b2 b4 s (iB L 13) (E.put o.dst v) w') (by rw [hd];exact hJ.stat 13 20 ((oA).v) (by simp [n8]) (by simp [n8]) (by simp) (by simp) (by simp) (by simp))),
  λL E w' o ho hd ht hi eW hJ=>Av ho (hJ.st.get (i:=0) (d:=3) (v:=ptr b4) (by simp [n8]) rfl) (hJ.ld (u:=y5 s) (b:=b4) (dI (i:=3) rfl) (K:=λv=>FJ w b1 b2 b4 s (iB L 14) (E.put o.dst v) w') (by rw [hd];exact hJ.stat 14 21 ((y5 s).v) (by simp [n8]) (by simp [n8]) (by simp) (by simp) (by simp) (by simp))),
  λL E w' o ho hd ht hi eW hJ=>by
   refine CJ ho (hJ.st.get (i:=13) (d:=19) (v:=yS) (by simp [n8]) (eW 12 (by simp))) (hJ.st.get (i:=14) (d:=20) (v:=(oA).v) (by simp [n8]) (eW 13 (by simp))) (hJ.st.get (i:=15) (d:=21) (v:=(y5 s).v) (by simp [n8]) (eW 14 (by simp))) (by kernel_rfl) ((hJ.call 15 22 (oA) (y5 s) (by simp [kB])).mono ?_)
   rintro e w2 ⟨v,he,vT⟩
   rw [ht,show zeroOf aB bZ=.nilFunc from by kernel_rfl]
   exact ⟨v,he,by rw [hd];exact vT⟩,
  λL E w' o ho hd ht hi eW hJ=>by
   obtain ⟨mp,X,cs,H,hc,hm,xL,hj,wF⟩:=hJ.hp
   obtain ⟨a,b,Wg,_,_⟩:=hj (15,22,oA,y5 s) (by simp [kB]) (eW 15 (by simp))
   obtain ⟨m,Ab,w2,hr,vT⟩:=hJ.ins 16 4 (Eu a b) (by simp [nA]) (eW 0 (by simp)) hi (λcs h1 h2 h3=>by
    obtain ⟨a',b',h',ha,hb⟩:=h3 (15,22,oA,y5 s) (by simp [kB]) (eW 15 (by simp))
    exact .inr (.inl ⟨oA,y5 s,a',b',.inr (.inl ⟨rfl,rfl,rfl⟩),Option.some.inj (Wg.symm.trans h'),ha,hb⟩))
   exact vG ho Ab rfl Wg ⟨w2,hr,by rw [hd];exact vT⟩,
  λL E w' o ho hd ht hi eW hJ=>vH (.inl ho) (hJ.st.get (i:=0) (d:=5) (v:=yS) (by simp [n8]) rfl) (by rw [hd];exact hJ.stat 17 23 (yS) (by simp [n8]) (by simp [n8]) (by simp) (by simp) (by simp) (by simp)),
  λL E w' o ho hd ht hi eW hJ=>Av ho (hJ.st.get (i:=0) (d:=3) (v:=ptr b4) (by simp [n8]) rfl) (hJ.ld (u:=y5 s) (b:=b4) (dI (i:=3) rfl) (K:=λv=>FJ w b1 b2 b4 s (iB L 18) (E.put o.dst v) w') (by rw [hd];exact hJ.stat 18 24 ((y5 s).v) (by simp [n8]) (by simp [n8]) (by simp) (by simp) (by simp) (by simp))),
  λL E w' o ho hd ht hi eW hJ=>Av ho (hJ.st.get (i:=0) (d:=1) (v:=ptr b1) (by simp [n8]) rfl) (hJ.ld (u:=oA) (b:=b1) (dI (i:=0) rfl) (K:=λv=>FJ w b1 b2 b4 s (iB L 19) (E.put o.dst v) w') (by rw [hd];exact hJ.stat 19 25 ((oA).v) (by simp [n8]) (by simp [n8]) (by simp) (by simp) (by simp) (by simp))),
  λL E w' o ho hd ht hi eW hJ=>by
   refine CJ ho (hJ.st.get (i:=18) (d:=23) (v:=yS) (by simp [n8]) (eW 17 (by simp))) (hJ.st.get (i:=19) (d:=24) (v:=(y5 s).v) (by simp [n8]) (eW 18 (by simp))) (hJ.st.get (i:=20) (d:=25) (v:=(oA).v) (by simp [n8]) (eW 19 (by simp))) (by kernel_rfl) ((hJ.call 20 26 (y5 s) (oA) (by simp [kB])).mono ?_)
   rintro e w2 ⟨v,he,vT⟩
   rw [ht,show zeroOf aB bZ=.nilFunc from by kernel_rfl]
   exact ⟨v,he,by rw [hd];exact vT⟩,
  λL E w' o ho hd ht hi eW hJ=>by
   obtain ⟨mp,X,cs,H,hc,hm,xL,hj,wF⟩:=hJ.hp
   obtain ⟨a,b,Wg,_,_⟩:=hj (20,26,y5 s,oA) (by simp [kB]) (eW 20 (by simp))
   obtain ⟨m,Ab,w2,hr,vT⟩:=hJ.ins 21 5 (Eu a b) (by simp [nA]) (eW 0 (by simp)) hi (λcs h1 h2 h3=>by
    obtain ⟨a',b',h',ha,hb⟩:=h3 (20,26,y5 s,oA) (by simp [kB]) (eW 20 (by simp))
    exact .inr (.inl ⟨y5 s,oA,a',b',.inr (.inr ⟨rfl,rfl,rfl⟩),Option.some.inj (Wg.symm.trans h'),ha,hb⟩))
   exact vG ho Ab rfl Wg ⟨w2,hr,by rw [hd];exact vT⟩,
  λL E w' o ho hd ht hi eW hJ=>by
   obtain ⟨m,Ab,w2,hr,vT⟩:=hJ.ins 22 6 (.func (.func jP) #[] #[]) (by simp [nA]) (eW 0 (by simp)) hi (λcs h1 h2 h3=>.inr (.inr (.inl ⟨rfl,rfl⟩)))
   exact vG ho Ab rfl rfl ⟨w2,hr,by rw [hd];exact vT⟩,
  λL E w' o ho hd ht hi eW hJ=>ZB ho (hJ.st.get (i:=0) (d:=2) (v:=ptr b2) (by simp [n8]) rfl) (hJ.st.get (i:=0) (d:=3) (v:=ptr b4) (by simp [n8]) rfl) (by rw [hd];exact hJ.stat 23 27 (MR b2 b4) (by simp [n8]) (by simp [n8]) (by simp) (by simp) (by simp) (by simp)),
  λL E w' o ho hd ht hi eW hJ=>by
   obtain ⟨m,Ab,w2,hr,vT⟩:=hJ.ins 24 7 (MR b2 b4) (by simp [nA]) (eW 0 (by simp)) hi (λcs h1 h2 h3=>.inr (.inr (.inr ⟨b2,b4,rfl,rfl,h1,h2⟩)))
   exact vG ho Ab rfl (hJ.st.get (i:=24) (d:=27) (v:=MR b2 b4) (by simp [n8]) (eW 23 (by simp))) ⟨w2,hr,by rw [hd];exact vT⟩,
  λL E w' o ho hd ht hi eW hJ=>by
   obtain ⟨m,h,vT⟩:=hJ.m25 (eW 0 (by simp))
   exact vH (.inl ho) h (by rw [hd];exact vT),
  λL E w' o ho hd ht hi eW hJ=>by
   obtain ⟨m,h,vT⟩:=hJ.m26 (eW 0 (by simp)) (eW 25 (by simp))
   exact vH (.inr ho) h (by rw [hd];exact vT),trivial⟩
def QC {w w1:aA} {b1 b2 b4:Nat} {s:Sl} {E:Env} (H:LH F0 w w1 (vf b1 b2 b4 s) []) (h1:E.get? 1=some (ptr b1)) (h2:E.get? 2=some (ptr b2)) (h3:E.get? 3=some (ptr b4)) (h4:E.get? 4=some pR) (h5:E.get? 5=some yS):FJ w b1 b2 b4 s (λ_=>false) E w1.drew:=by
 refine ⟨λq hq hc=>?_,[],[],[(b2,iw),(b4,y5 s)],by simpa using H.drew,?_,by simp,by simp,λq hq hL=>(by cases hL),.inl ⟨rfl,rfl,λ_ _=>rfl,rfl,rfl⟩⟩
 .simp only [n8,dT,gL,or_false] at hq
  (repeat' rcases hq with rfl|hq)<;>(try subst hq)<;>first |exact h1|exact h2|exact h3|exact h4|exact h5|cases hc
 .intro p hp
  simp only [dT,gL,or_false] at hp
  rcases hp with rfl|rfl<;>simp
def Ym {w w1:aA} {b1 b2 b4:Nat} {s:Sl} {L:Nat->Bool} {E:Env} (hL:∀i,i<LY.length->L i=true) (hJ:FJ w b1 b2 b4 s L E w1):∃F:Fm,E.get? 0=some (.map (some F.m))/\F.Ok/\(En.fm F).P w1/\(∀b∈(En.fm F).fp,w.heap.size<=b)/\bW w w1:=by
 have hlen:LY.length=27:=rfl
 obtain ⟨mp,X,cs,H,hc,hm,xL,hj,wF⟩:=hJ.hp
 rcases wF with ⟨yn,_⟩|⟨_,m,es,clock,ms,rfl,h2,h3,h4,h5,h6,h7⟩
 .rw [hL 0 (by omega)] at yn;cases yn
 have mem:∀p∈cs,uD p.1 p.2∈[En.ob m (.map es clock)]++(vf b1 b2 b4 s++X):=λp hp=>wL _ (hc p hp)
 have jc:bD w1 aL 4 s oA.c:=H.get (e:=.row aL 4 s oA.c) 3 rfl
 refine ⟨⟨m,es,clock,ms,cs,s⟩,h7 (hL 26 (by omega)),⟨h3,λk h0 h8=>?_⟩,λe he=>?_,λb hb=>?_,H.fr⟩
 .have vk:∃i,(i,k)∈nA/\i<27:=by
   have:k=0\/k=1\/k=2\/k=3\/k=4\/k=5\/k=6\/k=7:=by omega
   rcases this with rfl|rfl|rfl|rfl|rfl|rfl|rfl|rfl
   .exact ⟨2,by simp [nA],by omega⟩
   .exact ⟨4,by simp [nA],by omega⟩
   .exact ⟨6,by simp [nA],by omega⟩
   .exact ⟨11,by simp [nA],by omega⟩
   .exact ⟨16,by simp [nA],by omega⟩
   .exact ⟨21,by simp [nA],by omega⟩
   .exact ⟨22,by simp [nA],by omega⟩
   .exact ⟨24,by simp [nA],by omega⟩
  obtain ⟨i,hi,jO⟩:=vk
  have WB:=h5 _ hi
  rw [hL i (by omega)] at WB
  obtain ⟨v,hv⟩:=Option.isSome_iff_exists.1 WB
  exact ⟨v,hv,h4 k v hv⟩
 .rcases dT.1 he with rfl|he
  .exact H.own _ (by simp)
  rcases dT.1 he with rfl|he
  .show Rt.P w1 (y5 s)
   unfold Rt.P Rt.Ps Rt.Ps
   exact ⟨jc.jG,yz w1,trivial⟩
  .obtain ⟨p,hp,rfl⟩:=pN.1 he
   exact H.own _ (mem p hp)
 .obtain ⟨e,he,tM⟩:=nG.1 (aV.1 hb)
  rcases dT.1 he with rfl|he
  .exact (H.new _ (dI (i:=0) rfl) b tM).resolve_right id
  rcases dT.1 he with rfl|he
  .have fA:b∈(y5 s).fp:=aV.1 tM
   unfold Rt.fp at fA
   rcases gg.1 fA with fA|fA
   .exact (H.new _ (dI (i:=3) rfl) b (gP fA)).resolve_right id
   .obtain ⟨t,ht,BY⟩:=Rt.bU.1 fA
    simp at ht
    subst ht
    exact (pA BY).elim
  .obtain ⟨p,hp,rfl⟩:=pN.1 he
   exact (H.new _ (mem p hp) b tM).resolve_right id
def TC (w:aA):aH aB sM #[] w λr w'=>(∃F:Fm,r=aJ (.map (some F.m))/\F.Ok/\(En.fm F).P w'/\∀b∈(En.fm F).fp,w.heap.size<=b)/\bW w w':=by
 refine regex_forms.ok w _ ((og [] (by simp)).nw λw1 _ H1=>H1.nw λw2 _ H2=>H2.Gr 0 rfl λw6 H6=>H6.Gr 1 rfl λtB qe=>⟨0,0,0,⟨none,0,0⟩,qe.ld 0 0,qe.ld 0 1,qe.ld 0 2,qe.ld 0 3,qe.ko (n:=1) (sz:=4) (cs:=oA.c) rfl (by decide) λyY y8=>y8.nw λAO _ Dr=>Dr.Gr 3 rfl λSE O8=>?_⟩)
 have HB:LH F0 w SE (vf w.heap.size w1.heap.size yY.heap.size ⟨some (bO tB.heap.size),1,1⟩) []:=O8
 refine KC LY (by kernel_rfl) (FJ w w.heap.size w1.heap.size yY.heap.size ⟨some (bO tB.heap.size),1,1⟩) (QC HB rfl rfl rfl rfl rfl) (TX _ _ _ _ _) λL E w2 hL hJ=>?_
 obtain ⟨F,h0,h1,h2,h3,h4⟩:=Ym hL hJ
 exact Ol (by kernel_rfl) h0 ⟨⟨F,rfl,h1,h2,h3⟩,h4⟩
section
variable {M:Nat->Prop} {w0 w:aA} {L D:List En}
def _root_.Go.W.LH.ab3 (H:LH M w0 w L D) (i:Nat) {P:aQ} {t ty e:aP} {z:aD} {sz bytes:Nat} (el:jb P t e z sz bytes) {T:aP} {s:Sl} {xs:List aD} {news:Array aD} {A:aA->Prop} {K:Sl->aA->Prop}
  (hi:L[i]? =some (.row e sz s xs)) (hA:∀w',LH M w0 w' L D->A w') (hK:∀s' w',LH M w0 w' (L.set i (.row e sz s' (xs++news.toList))) D->K s' w') (hb:(s.n+1) *bytes<=140737488355328) (hl:news.size=sz:=by rfl) (h1:∀u∈news.toList,u.oneCell'=true:=by simp [Value.oneCell']):
  gi w (.cells news T) λw1=>A w1/\∃s' w',(Builtin.append_ #[t,t] ty #[s.v,.slice (some (Addr.mk w.heap.size 0 none)) 1 1]).run P w1=.ok s'.v w'/\K s' w':=
 ⟨hA _ (H.qx (Fr.alloc _ _ _)),H.XW i el hi (λs' w' h _ _=>hK s' w' h) hb hl h1⟩
end
mutual
def hG:Rx->Rx|.mk k lo hi l=>oS (.mk k lo hi (gS l))
def gS:List Rx->List Rx
 |[]=>[]
 |a::l=>hG a::gS l
end
def aaF (N:Nat):Rx->Bool|.mk k _ _ l=>aR (k=4\/k=5->pcX k l<=N)
def xw (N:Nat) (y:Rx):Bool:=pf y&&aR (y.sz<=1000000)&&aaF N y
mutual
def HJ (N:Nat):Rx->Bool|.mk k lo hi l=>BN N l&&xw N (.mk k lo hi (gS l))
def BN (N:Nat):List Rx->Bool
 |[]=>true
 |a::l=>HJ N a&&BN N l
end
def Ee {N:Nat}:∀{l:List Rx} {a:Rx},BN N l=true->a∈l->HJ N a=true
 |b::l,a,h,ha=>by
  unfold BN at h
  rw [Bool.and_eq_true] at h
  rcases dT.1 ha with rfl|ha
  .exact h.1
  .exact Ee h.2 ha
def oK:∀l:List Rx,gS l=l.map hG
 |[]=>rfl
 |a::l=>by unfold gS;rw [oK l];rfl
def ID {M:Nat->Prop} {w0 w:aA} {L D:List En} (H:LH M w0 w L D):LH M w0 w L (D++[.trees []]):=
 H.pS (.trees []) (Fr.refl _ _) (by show Rt.Ps w [];unfold Rt.Ps;trivial) (λb hb=>by
  have:=aV.1 hb
  unfold Rt.iD at this
  cases this)
def s9 {acc:List Rt} {t:Rt} {Q:Nat->Prop} (h:∀b∈Rt.iD acc,Q b) (ht:∀b∈t.fp,Q b):∀b∈Rt.iD (acc++[t]),Q b:=by
 intro b hb
 obtain ⟨u,hu,fA⟩:=Rt.bU.1 hb
 rcases gg.1 hu with hu|hu
 .exact h b (Rt.bU.2 ⟨u,hu,fA⟩)
 .simp at hu
  rw [hu] at fA
  exact ht b fA
abbrev abV (N:Nat) (F:Fm) (n:Nat):Prop:=∀(x:Rt) (w:aA),x.sz<=n->HJ N x.rx=true->(En.fm F).P w->x.P w->aH aB mV #[.map (some F.m),x.v] w λr w'=>qT (x.fp++(En.fm F).fp) w (hG x.rx) r w'/\bW w w'
def D0 {N:Nat} (hS:y9 N) (hN:N+1<=1000000) {F:Fm} (hF:F.Ok):∀n:Nat,n<=1000000->abV N F n
 |0,_=>λx w h _ _ _=>absurd h (by have:=Rt.nZ x;omega)
 |n+1,hn=>λx w h xl pF px=>by
  have ih:=D0 hS hN hF n (by omega)
  have hs:=Rt.hM x
  have hl:=Rt.gj x.l
  have nr:=Rt.cX px.parts.1
  have QS:BN N (Rt.cR x.l)=true/\xw N (.mk x.k x.lo x.hi (gS (Rt.cR x.l)))=true:=by
   rw [Rt.eE] at xl
   unfold HJ at xl
   rwa [Bool.and_eq_true] at xl
  have hk8:0<=x.k/\x.k<8:=by
   have:=QS.2
   unfold xw pf at this
   simp only [Bool.and_eq_true,decide_eq_true_eq] at this
   exact this.1.1.1
  have loop:∀(d i:Nat) (acc:List Rt) (sl:Sl) (br bt bn:Nat) (w1:aA),i+d=x.l.length->Rt.cR acc=gS (Rt.cR (x.l.take i))->(∀b∈Rt.iD acc,w.heap.size<=b\/b∈x.fp++(En.fm F).fp)->
    LH F0 w w1 [.c br x.c aL,.c bt [.int .i64 0,.int .u8 0,.int .u8 0,.slice none 0 0] aL,.c bn [.int .i64 x.k,.int .u8 (x.lo.toNat:Int),.int .u8 (x.hi.toNat:Int),sl.v] aL,.row aL 4 sl (acc.flatMap Rt.c)] [.tree x,.fm F,.trees acc]->
    regex_normal.L0 (some F.m) (bO br) (bO bt) (bO bn) x.s ((x.s.n:Nat):Int) (i:Int) w1 λr w'=>qT (x.fp++(En.fm F).fp) w (hG x.rx) r w'/\bW w w':=by
   intro d
   induction d with
   |zero=>
    intro i acc sl br bt bn w1 hi he hf H
    rw [th (by omega)] at he
    obtain ⟨f,f1,f2,f3⟩:=TB hS (by omega) hF (H.getD 1) x.k hk8.1 hk8.2
    have q5:∀b∈(Rt.row sl acc).fp,w.heap.size<=b:=λb hb=>(H.new _ (dI (i:=3) rfl) b (gP hb)).resolve_right id
    have H':LH F0 w w1 [.c br x.c aL,.c bt [.int .i64 0,.int .u8 0,.int .u8 0,.slice none 0 0] aL,.c bn [.int .i64 x.k,.int .u8 (x.lo.toNat:Int),.int .u8 (x.hi.toNat:Int),sl.v] aL] [.tree x,.fm F,.trees acc,Rt.row sl acc,.tree (.mk x.k x.lo x.hi sl acc)]:=H.K7 3 2 x.k x.lo x.hi
    have px':(Rt.mk x.k x.lo x.hi sl acc).P w1:=H'.getD 4
    have Z2:(Rt.mk x.k x.lo x.hi sl acc).rx=.mk x.k x.lo x.hi (gS (Rt.cR x.l)):=by
     unfold Rt.rx
     rw [he]
    have eL:=QS.2
    unfold xw at eL
    simp only [Bool.and_eq_true,decide_eq_true_eq] at eL
    have ni:(Rt.mk x.k x.lo x.hi sl acc).sz<=1000000:=by
     have h1:=Rt.ja (Rt.mk x.k x.lo x.hi sl acc)
     rw [Z2] at h1
     rw [<-h1];exact eL.1.2
    have QR:x.k=4\/x.k=5->pcX x.k (Rt.cR acc)<=N:=λhk=>by rw [he];exact of_decide_eq_true eL.2 hk
    have enx:hG x.rx=oS (Rt.mk x.k x.lo x.hi sl acc).rx:=by
     rw [Z2,Rt.eE]
     unfold hG
     rfl
    refine regex_normal.dE _ _ _ _ _ _ _ _ _ (aX (aK (by omega)) ⟨x.k,H.ld 0 0,f,f1,_,_,_,sl,H.ld 2 0,H.ld 2 1,H.ld 2 2,H.ld 2 3,?_⟩)
    rw [f2]
    refine (show iW true _ from ?_)
    refine (f3 (.mk x.k x.lo x.hi sl acc) w1 (H.getD 1) px' rfl QR ni (by rw [Z2];exact eL.1.1)).mono ?_
    rintro _ w2 ⟨⟨t,rfl,ht,pt,ft⟩,f4⟩
    have H3:=H'.pS (.tree t) f4 pt (λb hb=>by
     rcases ft b (aV.1 hb) with hb|hb
     .exact .inl hb
     .rcases gg.1 hb with hb|hb
      .exact .inr (.inr ⟨_,dI (i:=4) rfl,aV.2 hb⟩)
      .exact .inr (.inr ⟨_,dI (i:=1) rfl,hb⟩))
    refine ⟨_,_,_,t.s,rfl,H3.Gr 1 rfl λw3 H4=>⟨_,_,_,t.s,H4.ld 1 0,H4.ld 1 1,H4.ld 1 2,H4.ld 1 3,⟨t,rfl,by rw [enx];exact ht,H4.getD 5,λb hb=>?_⟩,H4.fr⟩⟩
    rcases ft b hb with hb|hb
    .exact .inl (Nat.le_trans H.fr.size hb)
    .rcases gg.1 hb with hb|hb
     .unfold Rt.fp at hb
      rcases gg.1 hb with hb|hb
      .exact .inl (q5 b hb)
      .exact hf b hb
     .exact .inr (wL _ hb)
   |succ d rR=>
    intro i acc sl br bt bn w1 hi he hf H
    have hg:x.l[i]? =some (x.l[i]'(by omega)):=ie (by omega)
    generalize x.l[i]'(by omega)=a at hg
    have ma:=dI hg
    have Gu:=Rt.eM ma
    have fa:HJ N a.rx=true:=Ee QS.1 (by rw [Rt.fX];exact pN.2 ⟨a,ma,rfl⟩)
    have ffp:∀b∈a.fp,b∈x.fp:=λb hb=>Rt.fJ.2 (.inr (Rt.bU.2 ⟨a,ma,hb⟩))
    refine regex_normal.dE _ _ _ _ _ _ _ _ _ (bF (aO (by omega)) (ku (show x.P w1 from H.getD 0) rfl hg (H.nw λw8 _ H8=>H8.Gr 4 rfl λAO Dr=>Dr.dr λDb Di=>⟨sl,Di.ld 2 3,a.k,a.lo.toNat,a.hi.toNat,a.s,Di.ld 4 0,Di.ld 4 1,Di.ld 4 2,Di.ld 4 3,?_⟩)))
    refine (ih a Db (by omega) fa (Di.getD 1) ((show x.P Db from Di.getD 0).parts.2.mem ma)).mono ?_
    rintro _ Lk ⟨⟨t,rfl,ht,pt,ft⟩,f4⟩
    have Ng:=Di.pS (.tree t) f4 pt (λb hb=>by
     rcases ft b (aV.1 hb) with hb|hb
     .exact .inl hb
     .rcases gg.1 hb with hb|hb
      .exact .inr (.inr ⟨_,dI (i:=0) rfl,aV.2 (ffp b hb)⟩)
      .exact .inr (.inr ⟨_,dI (i:=1) rfl,hb⟩))
    have acX:acc.length=i:=by
     have h1:=congrArg List.length he
     rw [Rt.fX,oK,Rt.fX] at h1
     simp only [List.length_map,A5] at h1
     omega
    have xu:=Rt.cX (Ng.get 3:bD _ _ _ _ _).jG
    refine ⟨_,_,_,t.s,rfl,Ng.ld 2 3,Ng.ab3 3 BG (xs:=acc.flatMap Rt.c) rfl (λw' H'=>H'.ld 2 3) (λs' SE O8=>O8.st 2 3 rfl λTe AQ=>?_) (by omega)⟩
    rw [bP _ (by omega)]
    have O9:=(AQ.CF 2 3).take 4
    refine rR (i+1) (acc++[t]) s' br bt bn Te (by omega) ?_ (s9 hf λb hb=>?_) ?_
    .rw [lJ,he,EE,hg,Option.toList_some,lJ,oK,oK,List.map_append]
     show _++[t.rx]=_
     rw [ht];rfl
    .rcases ft b hb with hb|hb
     .exact .inl (Nat.le_trans Di.fr.size hb)
     .rcases gg.1 hb with hb|hb
      .exact .inr (qy _ (ffp b hb))
      .exact .inr (wL _ hb)
    .rw [ou]
     exact O9.forget _ (by simp)
  refine regex_normal.ok _ _ _ _ _ w _ ((og [.tree x,.fm F] (by
   intro e he
   simp only [dT,gL,or_false] at he
   rcases he with rfl|rfl
   .exact px
   .exact pF)).nw λw1 _ H1=>H1.nw λw2 _ H2=>⟨x.k,H2.ld 0 0,x.lo.toNat,H2.ld 0 1,x.hi.toNat,H2.ld 0 2,H2.nw λw3 _ H3=>H3.Gr 2 rfl λw7 H7=>⟨x.s,H7.ld 0 3,?_⟩⟩)
  exact loop x.l.length 0 [] ⟨none,0,0⟩ _ _ _ w7 (by omega) rfl (λb hb=>by unfold Rt.iD at hb;cases hb) (ID (H7.qb aL 4))
def PQ {N:Nat} (hS:y9 N) (hN:N+1<=1000000) {F:Fm} (hF:F.Ok) (x:Rt) (w:aA) (h:x.sz<=1000000) (xl:HJ N x.rx=true) (pF:(En.fm F).P w) (px:x.P w):aH aB mV #[.map (some F.m),x.v] w λr w'=>qT (x.fp++(En.fm F).fp) w (hG x.rx) r w'/\bW w w':=
 D0 hS hN hF 1000000 (Nat.le_refl _) x w h xl pF px
section
variable {M:Nat->Prop} {w0 w:aA} {L D:List En} {bs:List Nat}
def _root_.Go.W.LH.Bz (H:LH M w0 w L D) {P:aQ} {g:FuncId} {args:Array aD} {K:aT} {GL:List Nat} {x:Rx} (hc:aH P g args w λr w'=>qT GL w x r w'/\bW w w') (hold:∀b∈GL,∃g∈D,b∈g.fp)
  (hk:∀(t:Rt) (w':aA),t.rx=x->LH M w0 w' L (D++[.tree t])->(∀b∈t.fp,w.heap.size<=b\/b∈GL)->K (aJ t.v) w'):fZ bs P g args w K:=
 o7 (hc.mono λr w' ⟨⟨t,h1,h2,h3,h4⟩,f⟩=>⟨f,by
  subst h1
  exact hk t w' h2 (H.pS (.tree t) f h3 λb hb=>(h4 b (aV.1 hb)).imp id λh=>.inr (hold b h)) h4⟩)
end
end Go.Proofs.YtnpkhgljhcnpcaaGreatDoor
