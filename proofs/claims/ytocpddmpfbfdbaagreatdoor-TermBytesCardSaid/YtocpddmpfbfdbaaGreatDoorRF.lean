import Derived.Test.YtocpddmpfbfdbaaGreatDoorT4
import Derived.Test.YtocpddmpfbfdbaaGreatDoorW
import Derived.MapKept
import Derived.Test.YtocpddmpfbfdbaaGreatDoorR14
import Derived.Test.YtocpddmpfbfdbaaGreatDoorU
import Derived.Test.YtocpddmpfbfdbaaGreatDoorGN
import Derived.Laws.CopyRow
import Derived.Test.YtocpddmpfbfdbaaGreatDoorNO
set_option linter.unusedVariables false
set_option linter.defProp false
namespace Go.Proofs.YtocpddmpfbfdbaaGreatDoor
open Go renaming World->I,Calls->ai,Program->aM,Value->ae,TypeId->aG,Ending->dA,FuncId->bJ
open Go.IntKind renaming wrap->ab
open _root_.Int renaming toNat->ag,tdiv->cz,tmod->dP,toNat_natCast->dJ
open _root_.ByteArray renaming mk->az
open Go.IntWalk renaming i64_in->a4
open Go.Sem renaming run->a6
open _root_.Bool renaming and_eq_true->bn,not_eq_true->ju
open _root_.Nat renaming le_refl->bB,le_trans->bH,zero_le->dv,beq->cm,mul_le_mul_right->kZ
open _root_.Prod.mk renaming injEq->ee
open _root_.Option.some renaming injEq->eT
open _root_.Array renaming replicate->fy
open Go.Proofs.Tryz renaming prog->U
open _root_.Decidable renaming decide->ah
open Go.Ending renaming returned->V
open List renaming mem_append->a5,mem_cons->aB,not_mem_nil->a1,mem_of_getElem?->aI,getElem?_eq_getElem->bc,getElem?_eq_some_iff->cD,mem_flatMap->ch,mem_map->cQ,length_append->cd,length_cons->fw,length_nil->iP,mem_of_mem_take->mr,append_assoc->cN,length_take->dL,length_drop->iO,flatMap_append->dh,flatMap_cons->cO,mem_iff_getElem?->iQ,length_map->nr,drop_eq_getElem_cons->dq,all_eq_true->f',append_nil->fI,nil_append->hV,cons_append->nq,take_add_one->gC,map_cons->kf,drop_of_length_le->dt,take_of_length_le->e1,eq_nil_of_length_eq_zero->mq
open Go Go.W
def qF (w:I) (rb:Nat) (fp:List Nat) (e:aG) (vs:List ae) (st:RS):aa:=λr c=>∃s:O,r=V s.v/\Ow c e s vs/\dC c rb st fp/\Fr (·=rb) w c/\∀d∈ay s,w.heap.size<=d
def yk {st:RS} {N:Nat} (c:st.bs.length<=N):(eF st).2.bs.length<=N:=by
 unfold eF;split
 .exact c
 .split
  .exact c
  .exact c
  .rename_i e r d;have:=(wb 9 0 _ _ _ rfl d).1;rw [this] at c;simp at c ⊢;omega
def Rk {w0:I} {rb:Nat} {fp:List Nat} (G:∀b∈fp,b<w0.heap.size) (T:rb∈fp) (n:Nat) (bs:List UInt8) (hn:n<=bs.length) (Z:bs.length<=1000000000000) (R:aa)
  (N:∀r K,qF w0 rb fp b' ((bs.take n).map dD) ⟨bs.drop n,0⟩ r K->R r K):
  ∀(d i:Nat),i+d=n->∀(w:I) (l:O),Fr (·=rb) w0 w->dC w rb ⟨bs.drop i,0⟩ fp->eU w l (bs.take i)->(∀h∈ay l,w0.heap.size<=h)->
   se.L0 (aj rb) (aj rb) l (n:Int) (i:Int) w R:=by
 intro d;induction d with
 |zero=>
  intro i Q w l q c y e;obtain rfl:i=n:=by omega
  refine se.b5 _ _ _ _ _ _ _ (a9 (a0 (by omega)) (N _ _ ⟨l,rfl,y,c,q,e⟩))
 |succ d W=>
  intro i Q w l q c y e;have H:i<bs.length:=by omega
  refine se.b5 _ _ _ _ _ _ _ (bd (aW (by omega)) ?_);rw [dq H] at c;refine (SS c).mono ?_;rintro r j ⟨rfl,F,D⟩;have S:=y.fr D λb x Y=>by have:=e b x;have:=G rb T;omega
  refine ⟨_,rfl,?_⟩;have P:j.cell? ((aj rb).add 2)=some (.int .i64 0):=by obtain ⟨s,all,ae,rfl,u,_⟩:=F;exact uA u
  refine ⟨_,P,a9 rfl ?_⟩;have C:Fr (·=rb) w0 j:=q.trans D λ_ _ c=>c;have k:ao j (j.alloc (.cells #[.int .u8 (bs[i].toNat:Int)] b')):=Fr.alloc _ _ _;obtain ⟨A,B,u,L,E,M,_⟩:=vM (ty:=aH) (S.bA k) (CN j bs[i]) (by simp;omega);refine ⟨A,B,u,?_⟩;show se.L0 (aj rb) (aj rb) A (n:Int) (ab .u64 ((i:Int)+1)) B R;rw [show ab .u64 ((i:Int)+1)=((i+1:Nat):Int) from by rw [IntWalk.u64_in _ (by omega)];omega];have ac:=C.size;have ad:=k.size;refine W (i+1) (by omega) B A ((C.cR k).trans E λh J z=>by have:=e h z;omega) ((F.bA k).fr E λb x z=>by have:=e b z;have:=G b x;omega) ?_ λh J=>?_
  .rw [gC,bc H];exact L
  .rcases M h J with c|c
   .exact e h c
   .omega
def Dj {w:I} {rb:Nat} {st:RS} {fp:List Nat} (d:dC w rb st fp):w.cell? ((aj rb).add 2)=some (.int .i64 st.err):=by obtain ⟨s,all,e,rfl,c,_⟩:=d;exact uA c
def Rj {w:I} {rb:Nat} {st:RS} {fp:List Nat} (d:dC w rb st fp):
  ai U Cz #[.pointer (some (aj rb)),.func (.func pD) #[.pointer (some (aj rb))] #[]] w (qF w rb fp b' ((hW st).1.map dD) (hW st).2):=by
 refine se.ok _ _ w _ ((yj d).mono ?_);rintro r u ⟨rfl,j,x⟩;refine ⟨_,rfl,_,Dj j,?_⟩;unfold hW hB;generalize hq:eF st=q at *;obtain ⟨h,c⟩:=q;have Z:=rQ st;have aa:=j.small;rw [hq] at Z;simp only at *;refine bE (λA=>?_) (λA=>?_)
 .have e:c.err≠0:=by simpa using A
  simp only [aq e];exact ⟨⟨none,0,0⟩,rfl,Ow.nil _ _,j,x,by simp [ay]⟩
 .have e:c.err=0:=by simpa using A
  simp only [af (show ¬c.err≠0 by simp [e])];have y:ao u u.drew:=Fr.drew _ _;have W:=j.bA y;obtain ⟨s,all,k,rfl,z,E,L,F,M⟩:=W;have hn:s.n=all.length:=by simpa using E.1
  have hl:c.bs.length=all.length - k:=by rw [<-F];simp
  refine ⟨s,rR z,(k:Int),oz z,?_⟩;have O:ab .u64 (ab .i64 (((s.n:Nat):Int) - (k:Int)))=(c.bs.length:Int):=by rw [a4 _ (by omega),IntWalk.u64_in _ (by omega)];omega
  rw [O];refine bE (λB=>?_) (λB=>?_)
  .have Y:=ef B;simp only [aq (show c.bs.length<h by omega)];obtain ⟨H,J,D,K⟩:=yl z E L M 3;rw [F] at D;rw [aq (show (3:Int)≠0 by decide)];exact ⟨H,J,⟨none,0,0⟩,rfl,Ow.nil _ _,D,x.trans (y.nl.trans K λ_ _ d=>d) λ_ _ d=>d,by simp [ay]⟩
  .have Y:=gS B;simp only [af (show ¬c.bs.length<h by omega),af (show ¬c.err≠0 by simp [e])];obtain ⟨C,P,Q,S⟩:=Bh l1 u.drew .i64 .u64 h (by omega);refine ⟨⟨some ⟨u.drew.heap.size,0,none⟩,0,h⟩,C,P,?_⟩;have G:ao u C:=y.cR S;have T:=j.bA G;have N:c=⟨c.bs,0⟩:=by cases c;simp at e;simp [e]
   refine Rk (w0:=w) (rb:=rb) (fp:=rb::ay s) d.lt d.mem h c.bs (by omega) aa _ (λr w' hr=>hr) h 0 (by omega) C _ (x.cR G) (by rw [List.drop_zero,<-N];exact T) Q ?_;intro ac hx;simp [ay] at hx;have:=x.size;have:=y.size;omega
def Rm {w0:I} {rb:Nat} {fp:List Nat} (P:∀b∈fp,b<w0.heap.size) (ad:rb∈fp) (n:Nat) (hn:n<=1000000000000) (R:aa):
  ∀(d i:Nat),i+d=n->∀(w:I) (l:O) (xs:List Int) (st:RS),xs.length=i->st.err=0->Fr (·=rb) w0 w->dC w rb st fp->qC w l xs->(∀c∈ay l,w0.heap.size<=c)->
   (∀r A,qF w0 rb fp bX ((if (eD d st).2.err≠0 then [] else xs++(eD d st).1).map dp) (eD d st).2 r A->R r A)->
   sh.L0 (aj rb) (aj rb) l (n:Int) (i:Int) w R:=by
 intro d;induction d with
 |zero=>
  intro i Z w l xs st S N C e H k h;obtain rfl:i=n:=by omega
  refine sh.b5 _ _ _ _ _ _ _ (a9 (a0 (by omega)) (h _ _ ⟨l,rfl,?_,e,C,k⟩));simpa [eD,N] using H
 |succ d ih=>
  intro i Z w l xs st S N C e H k h;refine sh.b5 _ _ _ _ _ _ _ (bd (aW (by omega)) ?_);refine (ns e).mono ?_;rintro r B ⟨rfl,E,L⟩;have ac:=H.fr L λb F ae=>by have:=k b F;have:=P rb ad;omega
  have D:Fr (·=rb) w0 B:=C.trans L λ_ _ e=>e;refine ⟨_,rfl,_,Dj E,?_⟩;simp only [eD] at h;generalize bQ st=q at *;obtain ⟨c,u⟩:=q;simp only at *;refine bE (λG=>?_) (λG=>?_)
  .have y:u.err≠0:=by simpa using G
   simp only [aq y] at h;exact h _ _ ⟨⟨none,0,0⟩,rfl,Ow.nil _ _,E,D,by simp [ay]⟩
  .have y:u.err=0:=by simpa using G
   simp only [af (show ¬u.err≠0 by simp [y])] at h;have x:ao B (B.alloc (.cells #[.int .i64 c] bX)):=Fr.alloc _ _ _;obtain ⟨J,K,T,W,M,Y,_⟩:=zr (ty:=eI) (ac.bA x) (one_num B c) (by simp;omega);refine ⟨J,K,T,?_⟩;show sh.L0 (aj rb) (aj rb) J (n:Int) (ab .u64 ((i:Int)+1)) K R;rw [show ab .u64 ((i:Int)+1)=((i+1:Nat):Int) from by rw [IntWalk.u64_in _ (by omega)];omega];have ag:=D.size;have ah:=x.size;refine ih (i+1) (by omega) K J _ u (by simp [S]) y ((D.cR x).trans M λc Q j=>by have:=k c j;omega) ((E.bA x).fr M λb F j=>by have:=k b j;have:=P b F;omega) W (λc Q=>?_) λr A z=>h r A ?_
   .rcases Y c Q with e|e
    .exact k c e
    .omega
   .by_cases j:(eD d u).2.err≠0
    .simp only [aq j] at z ⊢;exact z
    .simp only [af j,cN,List.singleton_append] at z ⊢;exact z
def Rl {w:I} {rb:Nat} {st:RS} {fp:List Nat} (h:dC w rb st fp):
  ai U CA #[.pointer (some (aj rb)),.func (.func jh) #[.pointer (some (aj rb))] #[]] w (qF w rb fp bX ((ga st).1.map dp) (ga st).2):=by
 refine sh.ok _ _ w _ ((yj h).mono ?_);rintro r y ⟨rfl,e,z⟩;refine ⟨_,rfl,_,Dj e,?_⟩;unfold ga hB;generalize hq:eF st=q at *;obtain ⟨d,c⟩:=q;have ac:=rQ st;have ad:=e.small;rw [hq] at ac;simp only at *;refine bE (λC=>?_) (λC=>?_)
 .have x:c.err≠0:=by simpa using C
  simp only [aq x];exact ⟨⟨none,0,0⟩,rfl,Ow.nil _ _,e,z,by simp [ay]⟩
 .have x:c.err=0:=by simpa using C
  simp only [af (show ¬c.err≠0 by simp [x])];have A:ao y y.drew:=Fr.drew _ _;have Z:=e.bA A;obtain ⟨s,all,k,rfl,B,G,O,H,P⟩:=Z;have hn:s.n=all.length:=by simpa using G.1
  have hl:c.bs.length=all.length - k:=by rw [<-H];simp
  refine ⟨s,rR B,(k:Int),oz B,?_⟩;have S:ab .u64 (ab .i64 (((s.n:Nat):Int) - (k:Int)))=(c.bs.length:Int):=by rw [a4 _ (by omega),IntWalk.u64_in _ (by omega)];omega
  rw [S];refine bE (λD=>?_) (λD=>?_)
  .have aa:=ef D;simp only [aq (show c.bs.length<d by omega)];obtain ⟨L,M,F,N⟩:=yl B G O P 3;rw [H] at F;rw [aq (show (3:Int)≠0 by decide)];exact ⟨L,M,⟨none,0,0⟩,rfl,Ow.nil _ _,F,z.trans (A.nl.trans N λ_ _ h=>h) λ_ _ h=>h,by simp [ay]⟩
  .have aa:=gS D;simp only [af (show ¬c.bs.length<d by omega),af (show ¬c.err≠0 by simp [x])];obtain ⟨E,T,W,Y⟩:=Bh qZ y.drew .i64 .u64 d (by omega);refine ⟨⟨some ⟨y.drew.heap.size,0,none⟩,0,d⟩,E,T,?_⟩;have J:ao y E:=A.cR Y;have u:=e.bA J;refine Rm (w0:=w) (rb:=rb) (fp:=rb::ay s) h.lt h.mem d (by omega) _ d 0 (by omega) E _ [] c rfl x (z.cR J) u W ?_ ?_
   .intro ae hx;simp [ay] at hx;have:=z.size;have:=A.size;omega
   .intro r w' K;have Q:(if (eD d c).2.err≠0 then [] else []++(eD d c).1)=(eD d c).1:=by
     by_cases j:(eD d c).2.err≠0
     .rw [aq j];cases d with
      |zero=>rfl
      |succ d=>
       simp only [eD] at j ⊢;by_cases e:(bQ c).2.err≠0
       .simp only [aq e]
       .simp only [af e] at j ⊢;by_cases u:(eD d (bQ c).2).2.err≠0
        .simp only [aq u]
        .simp only [af u] at j;exact absurd j u
     .rw [af j];rfl
    rw [Q] at K;exact K
def SR {w:I} {rb:Nat} {st:RS} {fp:List Nat} (c:dC w rb st fp):
  ai U Cv #[.pointer (some (aj rb))] w (qF w rb fp bX ((ga st).1.map dp) (ga st).2):=by refine Mj.ok _ w _ ((Rl c).mono ?_);rintro r e ⟨s,rfl,d⟩;exact ⟨s,rfl,s,rfl,d⟩
def SU {w:I} {rb:Nat} {st:RS} {fp:List Nat} (c:dC w rb st fp):
  ai U Cw #[.pointer (some (aj rb))] w (sD w rb fp (.string (ba (hW st).1)) (hW st).2):=by refine Mk.ok _ w _ ((Rj c).mono ?_);rintro r k ⟨s,rfl,d,e,h,j⟩;exact ⟨s,rfl,_,lX d.rd,rfl,e,h⟩
def Di (n:Nat) (c:n<18446744073709551616) (r:List UInt8):eF ⟨dF n++r,0⟩=(n,⟨r,0⟩):=by unfold eF;rw [af (by simp),Gk 9 0 n r rfl (by simpa using c) (by omega)]
def nt (n:Int) (c:cp n) (r:List UInt8):bQ ⟨cL n++r,0⟩=(n,⟨r,0⟩):=by unfold bQ cL;rw [Di _ (y6 n c.1 c.2),U5]
def Ju (n:Nat) (c:n<18446744073709551616) (r:List UInt8) (d:n<=r.length):hB ⟨dF n++r,0⟩=(n,⟨r,0⟩):=by unfold hB;rw [Di n c];simp only [];rw [af (by simp),af (by omega)]
def Th (b:List UInt8) (c:b.length<18446744073709551616) (r:List UInt8):hW ⟨hL b++r,0⟩=(b,⟨r,0⟩):=by unfold hW hL;rw [cN,Ju _ c _ (by simp)];simp
def Jx:∀(l:List Int) (r:List UInt8),(∀c∈l,cp c)->eD l.length ⟨l.flatMap cL++r,0⟩=(l,⟨r,0⟩)
 |[],r,_=>rfl
 |c::l,r,d=>by simp only [fw,eD,cO,cN];rw [nt c (d c (by simp)),];simp only [];rw [af (by simp),Jx l r λh e=>d h (by simp [e])];simp
def Gy (n:Nat):1<=(dF n).length:=by
 have:=Pv n;cases c:dF n with
 |nil=>exact absurd c this
 |cons=>simp
def Hn:∀(l:List Int),l.length<=(l.flatMap cL).length
 |[]=>by simp
 |c::l=>by have e:=Gy (zz c);have d:=Hn l;have:(cL c).length=(dF (zz c)).length:=rfl;simp at d ⊢;omega
def Tc (l:List Int) (c:l.length<18446744073709551616) (hi:∀d∈l,cp d) (r:List UInt8):ga ⟨g2 l++r,0⟩=(l,⟨r,0⟩):=by unfold ga g2;rw [cN,Ju _ c _ (by have:=Hn l;simp at this ⊢;omega)];simp only [];rw [af (by simp),Jx l r hi]
def PW {w0 w w':I} {own:List Nat} (F:ao w0 w) (n:∀c∈own,w0.heap.size<=c) (f:Fr (·∈own) w w'):ao w0 w':=F.kU f n
def RH {w0 w:I} {own e:List Nat} (F:ao w0 w) (n:∀c∈own,w0.heap.size<=c) (o:∀c∈e,c∈own\/w.heap.size<=c):∀c∈e,w0.heap.size<=c:=λc h=>by
 rcases o c h with d|d
 .exact n c d
 .exact bH F.size d
def Dh {st:RS} (c:(eF st).2.err=0):st.err=0/\st.bs=dF (eF st).1++(eF st).2.bs:=by
 unfold eF at c ⊢;by_cases d:st.err≠0
 .rw [aq d] at c;exact absurd c d
 .rw [af d] at c ⊢;refine ⟨by simpa using d,?_⟩;cases e:ik 0 st.bs with
  |more=>rw [e] at c;cases c
  |form=>rw [e] at c;cases c
  |ok h r=>exact (wb 9 0 _ _ _ rfl e).1
def ox {st:RS} (c:(bQ st).2.err=0):st.err=0/\st.bs=cL (bQ st).1++(bQ st).2.bs:=by have:=Dh (st:=st) c;unfold bQ cL;simp only [Vw];exact this
def Jt {st:RS} (c:(hB st).2.err=0):st.err=0/\st.bs=dF (hB st).1++(hB st).2.bs/\(hB st).1<=(hB st).2.bs.length:=by
 unfold hB at c ⊢;by_cases d:(eF st).2.err≠0
 .simp only [aq d] at c;exact absurd c d
 .simp only [af d] at c ⊢;by_cases e:(eF st).2.bs.length<(eF st).1
  .simp only [aq e] at c;cases c
  .simp only [af e] at c ⊢;have:=Dh c;exact ⟨this.1,this.2,by omega⟩
def Tg {st:RS} (c:(hW st).2.err=0):st.err=0/\st.bs=hL (hW st).1++(hW st).2.bs:=by
 unfold hW at c ⊢;by_cases d:(hB st).2.err≠0
 .simp only [aq d] at c;exact absurd c d
 .simp only [af d] at c ⊢;obtain ⟨e,h,j⟩:=Jt (st:=st) (by simpa using d);refine ⟨e,?_⟩;unfold hL;rw [dL,Nat.min_eq_left j,cN,List.take_append_drop];exact h
def Jw:∀(n:Nat) (st:RS),(eD n st).2.err=0->st.err=0/\st.bs=(eD n st).1.flatMap cL++(eD n st).2.bs/\(eD n st).1.length=n
 |0,st,c=>⟨c,rfl,rfl⟩
 |n+1,st,c=>by
  simp only [eD] at c ⊢;by_cases e:(bQ st).2.err≠0
  .simp only [aq e] at c;exact absurd c e
  .simp only [af e] at c ⊢;by_cases d:(eD n (bQ st).2).2.err≠0
   .simp only [aq d] at c;exact absurd c d
   .simp only [af d] at c ⊢;obtain ⟨h,j,k⟩:=Jw n _ c;obtain ⟨q,u⟩:=ox (st:=st) h;refine ⟨q,?_,by simp [k]⟩;rw [cO,cN,<-j];exact u
def Tb {st:RS} (c:(ga st).2.err=0):st.err=0/\st.bs=g2 (ga st).1++(ga st).2.bs:=by
 unfold ga at c ⊢;by_cases d:(hB st).2.err≠0
 .simp only [aq d] at c;exact absurd c d
 .simp only [af d] at c ⊢;obtain ⟨j,k,q⟩:=Jt (st:=st) (by simpa using d);obtain ⟨n,e,h⟩:=Jw _ _ c;refine ⟨j,?_⟩;unfold g2;rw [h,cN,<-e];exact k
def Jv (st:RS):(hB st).1<=st.bs.length/\(hB st).2.bs.length<=st.bs.length:=by
 have c:=yk (st:=st) (bB _);unfold hB;by_cases d:(eF st).2.err≠0
 .simp only [aq d];exact ⟨dv _,c⟩
 .simp only [af d];by_cases e:(eF st).2.bs.length<(eF st).1
  .simp only [aq e];exact ⟨dv _,c⟩
  .simp only [af e];exact ⟨by omega,c⟩
def Jy:∀(n:Nat) (st:RS),(eD n st).1.length<=n/\∀d∈(eD n st).1,cp d
 |0,st=>⟨bB _,by simp [eD]⟩
 |n+1,st=>by
  simp only [eD];by_cases h:(bQ st).2.err≠0
  .simp only [aq h];exact ⟨by simp,by simp⟩
  .simp only [af h];by_cases e:(eD n (bQ st).2).2.err≠0
   .simp only [aq e];exact ⟨by simp,by simp⟩
   .simp only [af e];have j:=Jy n (bQ st).2;refine ⟨by simp;exact j.1,λd c=>?_⟩;rcases aB.1 c with rfl|c
    .exact LY _ (rQ st)
    .exact j.2 d c
set_option maxRecDepth 100000
set_option maxHeartbeats 1000000
def df (n:Nx):List UInt8:=cL n.op++(g2 n.kids++(cL n.n++(cL n.m++(dF n.u.toNat++(hL (bl n.tx)++(cL n.st.k++(cL n.st.n++cL n.st.x)))))))
structure fk (x:Nx):Prop where
 op:cp x.op
 ks:∀k∈x.kids,cp k
 kl:x.kids.length<=1000000000
 n:cp x.n
 m:cp x.m
 u:0<=x.u/\x.u<18446744073709551616
 tx:x.tx.size<=1000000000
 sk:cp x.st.k
 sn:cp x.st.n
 sx:cp x.st.x
def RT {n:Nx} (W:fk n):(df n).length<=20000000000:=by have d:=eM _ W.op;have e:=tm _ W.ks;have h:=eM _ W.n;have j:=eM _ W.m;have k:=hl n.u.toNat (by have:=W.u;omega);have q:=eM _ W.sk;have w:=eM _ W.sn;have x:=eM _ W.sx;have y:=hl n.kids.length (by have:=W.kl;omega);have c:=hl (bl n.tx).length (by have:=W.tx;rw [ep];omega);have z:=W.kl;have A:=W.tx;have B:=ep n.tx;unfold df g2 hL;simp only [cd];omega
def nJ {P:aM} {f:bJ} {args:Array ae} {w0 w:I} {d:Nat} {e:List Nat} {bs h:List UInt8} (n:h8 w0 d e bs w) (x:∀own,gz w d bs own->(∀k∈own,k∈e\/w0.heap.size<=k)->ai P f args w (nQ w d own h)) {K:I->Prop} (u:∀c,h8 w0 d e h c->K c):
  ai P f args w λr c=>r=V (.tuple #[])/\K c:=by obtain ⟨own,z,y,j⟩:=n;refine (x own z j).mono ?_;rintro r c ⟨rfl,q⟩;exact ⟨rfl,u c (h8.then y j q)⟩
def Vb {w:I} {h:Nat} {bs:List UInt8} {own:List Nat} (q:gz w h bs own) {s:O} {l:List Int} (d:bS w s l) (x:∀c∈(En.rd s (l.map dp)).fp,c∉own) (hi:∀c∈l,cp c) (y:bs.length+10 *l.length<=1000000000000):
  ai U xW #[.pointer (some (aj h)),s.v] w (nQ w h own (bs++g2 l)):=by
 by_cases j:l=[]
 .subst j;have z:s.n=0:=bS.len d;refine oN.ok _ _ w _ ?_;rw [z];refine (vm q 0 (by omega) (by omega)).mono ?_;rintro r A ⟨rfl,u⟩;refine ⟨rfl,oN.b5 _ _ _ _ _ _ (a9 (by decide) ⟨rfl,?_⟩)⟩;simpa [g2] using u
 .have k:(En.rd s (l.map dp)).fp=ay s:=by show (if l.map dp=[] then [] else ay s)=_;rw [af (by simpa using j)]
  exact Va q d (λc e=>x c (k▸e)) (λc e=>(En.rd s (l.map dp)).lt w d c (k▸e)) hi y
def Lj {w:I} {c:Nat} {bs:List UInt8} {own:List Nat} (S:gz w c bs own) {p:Addr} {d:Nd} (J:dn w p d) (G:d.P w) (L:p.block∉own) (F:∀e∈(cc d).fp,e∉own) (W:fk d.x) (H:bs.length<=100000000000):
  ai U xS #[.pointer (some (aj c)),.pointer (some p)] w (nQ w c own (bs++df d.x)):=by
 have at_:∀{j:List UInt8} {w':I},h8 w c own j w'->dn w' p d:=λ⟨_,_,f,_⟩=>J.st λN=>f.ck _ N L
 have Y:∀{j:List UInt8} {w':I},h8 w c own j w'->bS w' d.ks d.x.kids:=λ⟨_,_,f,_⟩=>(cc d).st w _ (λb M H=>f.ck _ H (F b M)) G;have k1:=eM _ W.op;have k2:=tm _ W.ks;have k3:=eM _ W.n;have k4:=eM _ W.m;have T:d.x.u=((d.x.u.toNat:Nat):Int):=by have:=W.u;omega
 have k5:=hl d.x.u.toNat (by have:=W.u;omega);have k6:=eM _ W.sk;have k7:=eM _ W.sn;have k9:=hl d.x.kids.length (by have:=W.kl;omega);have Z:=hl (bl d.x.tx).length (by have:=W.tx;rw [ep];omega);have m1:=W.kl;have m2:=W.tx;have m3:=ep d.x.tx;have lL:(g2 d.x.kids).length<=10000000010:=by unfold g2;simp only [cd];omega
 have lR:(hL (bl d.x.tx)).length<=1000000010:=by unfold hL;simp only [cd];omega
 refine LJ.ok _ _ w _ ⟨_,J.c0,nJ (h8.refl S) (λo r _=>oL r _ W.op (by omega)) λw1 h=>⟨_,(at_ h).c1,nJ h (λo r Q=>Vb r (Y h) (λe K O=>?_) W.ks (by simp only [cd];omega)) λw2 k=>⟨_,(at_ k).c2,nJ k (λo r _=>oL r _ W.n (by simp only [cd];omega)) λw3 q=>⟨_,(at_ q).c3,nJ q (λo r _=>oL r _ W.m (by simp only [cd];omega)) λw4 y=>⟨_,(at_ y).c4,?_⟩⟩⟩⟩⟩
 .rcases Q e O with E|E
  .exact F e K E
  .have:=(cc d).lt w G e K;omega
 rw [T];refine nJ y (λo r _=>vm r d.x.u.toNat (by have:=W.u;omega) (by simp only [cd];omega)) λw5 z=>⟨_,(at_ z).c5,nJ z (λo r _=>Vd r d.x.tx (by simp only [cd];omega)) λw6 A=>⟨_,(at_ A).s0,nJ A (λo r _=>oL r _ W.sk (by simp only [cd];omega)) λw7 B=>⟨_,(at_ B).s1,nJ B (λo r _=>oL r _ W.sn (by simp only [cd];omega)) λw8 C=>⟨_,(at_ C).s2,nJ C (λo r _=>oL r _ W.sx (by simp only [cd];omega)) λw9 D=>⟨rfl,?_⟩⟩⟩⟩⟩;unfold df;simp only [cN] at D;exact D
def Lh {w:I} {p:Addr} {d:Nd} (h:dn w p d) (e:d.P w) (W:fk d.x):
  ai U xQ #[.pointer (some p)] w λr C=>r=V (.string (ba (df d.x)))/\ao w C:=by refine LB.ok _ w _ ?_;have c:ao w (w.alloc (.cells #[.slice none 0 0] nH)):=Fr.alloc _ _ _;have lt:=RT W;refine (Lj (gz.new w) (h.st λz=>c.ck _ z id) ((cc d).st w _ (λb D y=>c.ck _ y id) e) (by have:=dn.lt h;simp;omega) (λn j=>by have:=(cc d).lt w e n j;simp;omega) W (by simp)).mono ?_;rintro r G ⟨rfl,F,k,q,E⟩;rw [hV] at k;refine ⟨rfl,(Me k (by omega)).mono ?_⟩;rintro r H ⟨s,rfl,B,u,_⟩;refine ⟨s,rfl,_,lX B.rd,rfl,?_⟩;exact (c.trans q λn j A=>by simp at A;omega).cR u
def yO {a b:Nat} (d:a<256) (e:b<256) (c:UInt8.ofNat a=UInt8.ofNat b):a=b:=by have:=congrArg UInt8.toNat c;simp at this;omega
def wk:∀(n m:Nat) (r s:List UInt8),dF n++r=dF m++s->n=m/\r=s:=by
 intro n;induction n using Nat.strongRecOn with
 |_ n j=>
  intro m r s c;by_cases e:n<128<;>by_cases d:m<128
  .rw [kF e,kF d] at c;simp only [nq,hV,List.cons.injEq] at c;exact ⟨yO (by omega) (by omega) c.1,c.2⟩
  .rw [kF e,lk d] at c;simp only [nq,hV,List.cons.injEq] at c;have:=yO (by omega) (by omega) c.1;omega
  .rw [lk e,kF d] at c;simp only [nq,hV,List.cons.injEq] at c;have:=yO (by omega) (by omega) c.1;omega
  .rw [lk e,lk d] at c;simp only [nq,List.cons.injEq] at c;have k:=yO (by omega) (by omega) c.1;have h:=j (n / 128) (by omega) _ _ _ c.2;exact ⟨by omega,h.2⟩
def Vv {a b:Int} (c:zz a=zz b):a=b:=by unfold zz at c;split at c<;>split at c<;>omega
def pg {n m:Int} {r s:List UInt8} (c:cL n++r=cL m++s):n=m/\r=s:=by have:=wk _ _ _ _ c;exact ⟨Vv this.1,this.2⟩
def Hm:∀{a b:List Int} {r s:List UInt8},a.length=b.length->a.flatMap cL++r=b.flatMap cL++s->a=b/\r=s
 |[],[],_,_,_,d=>⟨rfl,d⟩
 |[],_::_,_,_,c,_=>by simp at c
 |_::_,[],_,_,c,_=>by simp at c
 |n::a,q::b,r,s,c,d=>by simp only [cO,cN] at d;obtain ⟨e,h⟩:=pg d;obtain ⟨j,k⟩:=Hm (a:=a) (b:=b) (by simpa using c) h;exact ⟨by rw [e,j],k⟩
def Pt {a b:List Int} {r s:List UInt8} (c:g2 a++r=g2 b++s):a=b/\r=s:=by unfold g2 at c;simp only [cN] at c;obtain ⟨d,e⟩:=wk _ _ _ _ c;exact Hm d e
def Pu {a b:List UInt8} {r s:List UInt8} (c:hL a++r=hL b++s):a=b/\r=s:=by unfold hL at c;simp only [cN] at c;obtain ⟨d,e⟩:=wk _ _ _ _ c;exact List.append_inj e d
def RR {n m:Nx} (Z:0<=n.u) (Y:0<=m.u) (c:df n=df m):n=m:=by
 unfold df at c;obtain ⟨d,c⟩:=pg c;obtain ⟨e,c⟩:=Pt c;obtain ⟨h,c⟩:=pg c;obtain ⟨j,c⟩:=pg c;obtain ⟨A,c⟩:=wk _ _ _ _ c;obtain ⟨k,c⟩:=Pu c;obtain ⟨q,c⟩:=pg c;obtain ⟨w,c⟩:=pg c;have x:=(pg (r:=[]) (s:=[]) (by simpa using c)).1;have y:n.u=m.u:=by omega
 have z:n.tx=m.tx:=by
  have:=congrArg ba k
  rwa [o3,o3] at this
 obtain ⟨B,C,D,E,F,G,⟨H,J,K⟩⟩:=n;obtain ⟨L,M,N,O,P,Q,⟨S,T,W⟩⟩:=m;simp only at d e h j y z q w x;clear A k;subst d e h j y z q w x;rfl
def jM (n:Nx):ByteArray:=ba (df n)
def QF {n m:Nx} (e:0<=n.u) (d:0<=m.u) (c:jM n=jM m):n=m:=by
 refine RR e d ?_;have:=congrArg bl c;unfold jM at this
 rwa [nT,nT] at this
def jA (es:Array MapEntry) (ms:List (ByteArray×ae)):Prop:=es.toList.map (λc=>(c.key,c.val))=ms.map λp=>(Value.string p.1,p.2)
def jn (ms:List (ByteArray×ae)) (k:ByteArray):Option ae:=(ms.find? λp=>ah (p.1=k)).map (·.2)
def Ns (a b:ByteArray):(a==b)=ah (b=a):=by
 cases c:ah (b=a) with
 |true=>rw [ef c];exact (Go.MapKept.bytes_beq _ _).2 rfl
 |false=>
  cases d:(a==b) with
  |false=>rfl
  |true=>exact absurd ((Go.MapKept.bytes_beq _ _).1 d).symm (gS c)
def AG {k:ByteArray}:∀{es:List MapEntry} {ms:List (ByteArray×ae)} {i:Nat},es.map (λe=>(e.key,e.val))=ms.map (λp=>(Value.string p.1,p.2))->
  Instr.findNow .string (.string k) es i=some ((ms.findIdx? λp=>ah (p.1=k)).bind λd=>(ms[d]?).map λp=>(i+d,p.2))
 |[],[],i,_=>rfl
 |[],_::_,_,c=>by simp at c
 |_::_,[],_,c=>by simp at c
 |e::es,p::ms,i,c=>by
  simp only [kf,List.cons.injEq,ee] at c;obtain ⟨⟨n,q⟩,u⟩:=c;have w:=AG (k:=k) (i:=i+1) u;unfold Instr.findNow;simp only [n,Instr.sameNow,Ns];by_cases h:p.1=k
  .have j:ah (p.1=k)=true:=aW h;simp [List.findIdx?_cons,h,q]
  .have j:ah (p.1=k)=false:=a0 h;simp only [w,List.findIdx?_cons,j,Bool.false_eq_true,if_false];congr 1;cases x:ms.findIdx? (λp=>ah (p.1=k)) with
   |none=>simp
   |some d=>simp [Nat.add_assoc,Nat.add_comm 1 d]
def KB {ms:List (ByteArray×ae)} {k:ByteArray} {i:Nat}:(((ms.findIdx? λp=>ah (p.1=k)).bind λc=>(ms[c]?).map λp=>(i+c,p.2)).map (·.2))=jn ms k:=by
 unfold jn;induction ms generalizing i with
 |nil=>rfl
 |cons p ms h=>
  by_cases d:p.1=k
  .simp [List.findIdx?_cons,d]
  .have e:ah (p.1=k)=false:=a0 d;simp only [List.findIdx?_cons,e,Bool.false_eq_true,if_false,List.find?_cons];rw [<-h (i:=i+1)];cases j:ms.findIdx? (λp=>ah (p.1=k)) with
   |none=>simp
   |some c=>simp [Function.comp_def]
structure vD (P:aM) (T kt et:aG) (z:ae):Prop where
 hT:P.underlying T=some (.map kt et)
 hk:P.underlying kt=some .string
 hz:(P.info? et).map (·.zero)=some (some z)
def F2 {P:aM} {c:aG} (d:P.underlying c=some .string) (b:Bool) (k:ByteArray) (w:I):(Instr.checkKey b 10000 c (.string k)).run P w=.ok () w:=by unfold Instr.checkKey;simp [run_underlying d]
def Ig {P:aM} {T A n:aG} {z:ae} (d:vD P T A n z) {w:I} {e:Nat} {es:Array MapEntry} {clock:Nat} {ms:List (ByteArray×ae)}
  (x:w.heap[e]? =some (.map es clock)) (y:jA es ms) (k:ByteArray):
  (Instr.lookup T (.map (some e)) (.string k) true).run P w=.ok (.tuple #[(jn ms k).getD z,.bool (jn ms k).isSome]) w:=by
 have q:=AG (k:=k) (i:=0) y;have u:(getObj e).run P w=.ok (.map es clock) w:=by simp [getObj,a6,x]
 have c:=KB (ms:=ms) (k:=k) (i:=0);unfold Instr.lookup Instr.findKey;simp only [Sem.run_bind,run_underlying d.hT,Result.andThen_ok,u,Sem.run_pure,F2 d.hk,run_underlying d.hk,q];cases h:((ms.findIdx? λp=>ah (p.1=k)).bind λj=>(ms[j]?).map λp=>(0+j,p.2)) with
 |none=>rw [h] at c;simp [<-c,MD d.hz]
 |some B=>rw [h] at c;simp [<-c]
def L7 {P:aM} {T E x:aG} {z:ae} (j:vD P T E x z) {w:I} {c:Nat} {es:Array MapEntry} {clock:Nat} {ms:List (ByteArray×ae)}
  (e:w.heap[c]? =some (.map es clock)) (h:jA es ms) (k:ByteArray) (v:ae) (C:jn ms k=none):
  ∃d n,(Instr.mapUpdate T (.map (some c)) (.string k) v).run P w=.ok () d/\d.heap[c]? =some (.map n (clock+1))/\jA n (ms++[(k,v)])/\Fr (λb=>b=c) w d/\d.heap.size=w.heap.size:=by
 have y:=AG (k:=k) (i:=0) h;have A:(getObj c).run P w=.ok (.map es clock) w:=by simp [getObj,a6,e]
 have q:=KB (ms:=ms) (k:=k) (i:=0);have B:=iK e;have D:((ms.findIdx? λp=>ah (p.1=k)).bind λu=>(ms[u]?).map λp=>(0+u,p.2))=none:=by rw [C] at q;simpa using q
 refine ⟨{w with heap:=w.heap.setIfInBounds c (.map (es.push {key:=.string k,val:=v,born:=clock}) (clock+1))},es.push {key:=.string k,val:=v,born:=clock},?_,by simp [B],?_,Fr.setObj w c _ rfl,by simp⟩
 .unfold Instr.mapUpdate Instr.findKey;simp only [Sem.run_bind,run_underlying j.hT,Result.andThen_ok,A,F2 j.hk,run_underlying j.hk,y,D];simp [setObj,a6,e]
 .unfold jA at h ⊢;simp [h]
def ir:List Nx->Nat->List (ByteArray×ae)
 |[],_=>[]
 |c::g,i=>(jM c,.i (i:Int))::ir g (i+1)
def I9 (n:Nx):∀(g:List Nx) (i:Nat),ir (g++[n]) i=ir g i++[(jM n,.i ((i+g.length:Nat):Int))]
 |[],i=>by simp [ir]
 |c::g,i=>by have:=I9 n g (i+1);simp only [nq,ir,this,fw];rw [show i+1+g.length=i+(g.length+1) by omega]
def C' {n:Nx} (j:0<=n.u):∀{g:List Nx} {i:Nat},(∀c∈g,0<=c.u)->jn (ir g i) (jM n)=(eB n g i).map λk:Nat=>.i (k:Int)
 |[],i,_=>rfl
 |c::g,i,h=>by
  have q:=C' j (g:=g) (i:=i+1) λd w=>h d (by simp [w]);unfold jn at q ⊢;unfold ir eB;by_cases e:c=n
  .subst e;simp
  .have x:¬jM c=jM n:=λd=>e (QF (h c (by simp)) j d);rw [af e,List.find?_cons];simp only [a0 x];exact q
def hE:List Nx->List (ByteArray×ae)
 |[]=>[]
 |c::g=>if c.op=0 then (c.tx,dx c.st)::hE g else hE g
def L' (n:Nx):∀(g:List Nx),hE (g++[n])=hE g++(if n.op=0 then [(n.tx,dx n.st)] else [])
 |[]=>by unfold hE;simp only [hV,hE]
 |c::g=>by have:=L' n g;simp only [nq,hE,this];split<;>simp
def Ep (t:ByteArray):∀(g:List Nx),jn (hE g) t=(hD g t).map dx
 |[]=>rfl
 |j::g=>by
  have h:=Ep t g;unfold jn at h ⊢;unfold hE hD;by_cases c:j.op=0
  .rw [aq c,List.find?_cons];by_cases d:j.tx=t
   .rw [aq ⟨c,d⟩];simp [d]
   .rw [af (λe=>d e.2)];simp only [a0 d];exact h
  .rw [af c,af (λe=>c e.1)];exact h
def gE (ts:List BL):Nat:=(ts.map λt=>t.length+2).sum
def pL (lv:Nat) (a:Rx) (t:BL):(cg lv a t).length<=t.length+2/\t.length<=(cg lv a t).length:=by
 unfold cg;split
 .simp;omega
 .simp
def A6 (k:Int):∀(ts:List BL) (out:BL),(fY k out ts).length<=out.length+gE ts/\out.length<=(fY k out ts).length
 |[],out=>by simp [fY,gE]
 |t::ts,out=>by
  unfold fY;have e:=A6 k ts ((if k=3/\cI (gn out)=true/\cI (gQ t 0)=true then out++[32] else out)++eR k++t);have h:(eR k).length<=1:=by unfold eR;split<;>(try split)<;>simp
  have d:k=3->(eR k).length=0:=λc=>by unfold eR;rw [aq c];rfl
  have j:((if k=3/\cI (gn out)=true/\cI (gQ t 0)=true then out++[32] else out):BL).length<=out.length+2 - (eR k).length/\out.length<=((if k=3/\cI (gn out)=true/\cI (gQ t 0)=true then out++[32] else out):BL).length:=by
   split
   .rename_i c;rw [d c.1];simp
   .omega
  simp only [cd] at e;have n:gE (t::ts)=t.length+2+gE ts:=by simp [gE]
  omega
mutual
def vo:∀u:Rx,(a3 u).length+4<=18 *u.sz
 |.mk c lo h l=>by
  have n:∀k,(bo k).length<=4:=λk=>by unfold bo;split<;>simp
  have B:=ql 3 l;have C:=ql 4 l;have A:=ql 0 l;have F:(om c).length=4:=by unfold om;split<;>(try split)<;>rfl
  have e:∀d,(hv (cG d l)).length<=gE (cG d l):=λd=>by
   cases cG d l with
   |nil=>simp [hv]
   |cons t j=>simp [hv,gE];omega
  have y:=e 3;have z:=e 4;have x:=e 0;have E:=n lo;have D:=n h;unfold Rx.sz;unfold a3;split
  .simp;omega
  .split
   .simp;omega
   .split
    .split
     .omega
     .simp only [fw,cd,iP];omega
    .split
     .simp only [fw];omega
     .split
      .simp only [cd,fw,iP];omega
      .split
       .simp only [cd,fw,iP];omega
       .have q:=ql (bK (.mk c lo h l)+1) l;cases w:cG (bK (.mk c lo h l)+1) l with
        |nil=>show 0+4<=_;omega
        |cons t j=>
         rw [w] at q;have:=(A6 c j t).1;simp only [gE,kf,List.sum_cons] at q;simp only [gE] at this;show (fY c t j).length+4<=_;omega
def ql (lv:Nat):∀l:List Rx,gE (cG lv l)<=18 *Rx.aU l
 |[]=>by simp [cG,gE]
 |a::l=>by have d:=vo a;have c:=ql lv l;have e:=(pL lv a (a3 a)).1;unfold cG Rx.aU;simp only [gE,kf,List.sum_cons] at c ⊢;omega
end
def x5 {k:Int} {lo hi:UInt8} {l:List Rx} (c:hP (.mk k lo hi l)=true):0<=k/\k<=7/\(k=6\/k=7->l.length=1)/\mn l=true:=by unfold hP at c;simp only [bn,decide_eq_true_eq,Bool.or_eq_true] at c;exact ⟨c.1.1.1,c.1.1.2,λd=>by omega,c.2⟩
def x6:∀{l:List Rx} {a:Rx},mn l=true->a∈l->hP a=true
 |b::l,a,c,d=>by
  unfold mn at c;rw [bn] at c;rcases aB.1 d with rfl|d
  .exact c.1
  .exact x6 c.2 d
def y5:∀k:Rx,hP k=true->0<(a3 k).length
 |.mk d lo h l=>λn=>by
  obtain ⟨u,w,x,e⟩:=x5 n;have q:∀j,0<(bo j).length:=λj=>by unfold bo;split<;>simp
  unfold a3;split
  .simp
  .split
   .simp
   .split
    .split
     .exact q lo
     .simp
    .split
     .simp
     .split
      .simp
      .split
       .simp only [cd,fw];omega
       .rename_i c
        match l,e,c with
        |[],_,c=>simp at c
        |a::m,e,c=>
         have:=y5 a (x6 e (by simp));unfold cG;show 0<(fY _ _ _).length;have y:=(A6 d (cG (bK (.mk d lo h (a::m))+1) m) (cg (bK (.mk d lo h (a::m))+1) a (a3 a))).2;have z:=(pL (bK (.mk d lo h (a::m))+1) a (a3 a)).2;omega
def zP (x:J) (w:I) (E:0<=x.k) (F:x.k<=7) (y:x.P w):ai U tM #[x.v] w λr d=>r=V (.i (bK x.rx:Int))/\ao w d:=by
 have G:=J.cj y.parts.1;have D:(J.ax x.l).length=x.l.length:=by rw [J.fh,nr]
 have A:bK x.rx=if x.k=6 then 3 else if x.k<3\/x.k=7\/x.l.length<2 then 4 else if x.k=3 then 2 else if x.k=4 then 0 else 1:=by rw [J.eQ];unfold bK;dsimp only;rw [D]
 rw [A];have four:∀d,ao w d->x.k≠6->(x.k<3\/x.k=7\/x.l.length<2)->Aq.aQ d λr d=>r=V (.i ((if x.k=6 then 3 else if x.k<3\/x.k=7\/x.l.length<2 then 4 else if x.k=3 then 2 else if x.k=4 then 0 else 1:Nat):Int))/\ao w d:=λd f c B=>⟨by rw [af c,aq B];rfl,f⟩;refine Aq.aD _ _ _ _ w _ ((gq y).aL λb n h=>aO (λc=>⟨by rw [aq c];rfl,h.fr⟩) (λc=>aR (λq=>four n h.fr c (.inl q)) (λq=>aO (λu=>four n h.fr c (.inr (.inl u))) (λu=>aR (λC=>four n h.fr c (.inr (.inr (by omega)))) (λC=>?_)))));refine h.nw λH _ e=>?_;have j:x.k=3\/x.k=4\/x.k=5:=by omega
 have z:(if x.k=6 then 3 else if x.k<3\/x.k=7\/x.l.length<2 then 4 else if x.k=3 then 2 else if x.k=4 then 0 else 1:Nat)=if x.k=3 then 2 else if x.k=4 then 0 else 1:=by rw [af c,af (by omega)]
 rw [z];rcases j with j|j|j<;>rw [j]
 .exact ⟨by decide,by decide,jS ⟨2,e.ld 1 0,rfl,e.fr⟩⟩
 .exact ⟨by decide,by decide,jS ⟨0,e.ld 1 1,rfl,e.fr⟩⟩
 .exact ⟨by decide,by decide,jS ⟨1,e.ld 1 2,rfl,e.fr⟩⟩
def H3 (t:BL) (c:0<t.length):gQ t (t.length - 1)=gn t:=by unfold gQ gn;rw [List.getD_eq_getElem?_getD,List.getLastD_eq_getLast?,List.getLast?_eq_getElem?]
def Uz (l:List J) (i:Nat):Rx.aU (J.ax (l.drop i))<=J.aU l:=by
 rw [J.uP];induction l generalizing i with
 |nil=>simp
 |cons a l c=>
  cases i with
  |zero=>exact bB _
  |succ i=>have:=c i;show _<=a.sz+J.aU l;exact bH this (by omega)
abbrev M2 (n:Nat):Prop:=∀(x:J) (lv:Nat) (w:I),x.sz<=n->lv<=1000->hP x.rx=true->x.P w->ai U jg #[x.v,.i (lv:Int)] w λr c=>r=V (.string (ba (cg lv x.rx (a3 x.rx))))/\ao w c
def Fo:∀ad:Nat,ad<=1000000->M2 ad
 |0,_=>λx lv w z _ _ _=>absurd z (by have:=J.kS x;omega)
 |ad+1,hn=>by
  have ih:=Fo ad (by omega);have core:∀(x:J) (lv:Nat) (w:I),x.sz<=ad+1->¬bK x.rx<lv->hP x.rx=true->x.P w->ai U jg #[x.v,.i (lv:Int)] w λr w'=>r=V (.string (ba (a3 x.rx)))/\ao w w':=by
   intro x lv w z a6 Y px;have hs:=J.hC x;have hl:=J.fi x.l;have S:=J.cj px.parts.1;have Z:=Y;rw [J.eQ] at Z;obtain ⟨k0,k7,aC,a2⟩:=x5 Z;have aB:(J.ax x.l).length=x.l.length:=by rw [J.fh,nr]
   rw [aB] at aC;have ay:∀a∈x.l,hP a.rx=true:=λa j=>x6 a2 (by rw [J.fh];exact cQ.2 ⟨a,j,rfl⟩);have aU:∀a:J,a.sz<=1000000->(a3 a.rx).length<=18000000:=λa j=>by have:=vo a.rx;rw [J.ed] at this;omega
   have am:∀(a:J) (lv:Nat),a.sz<=1000000->(cg lv a.rx (a3 a.rx)).length<=18000002:=λa lv j=>by have C:=aU a j;have:=(pL lv a.rx (a3 a.rx)).1;omega
   have aK:∀c,(bo c).length<=4:=λc=>by unfold bo;split<;>simp
   let M:aa:=λr w'=>r=V (.string (ba (a3 x.rx)))/\ao w w'
   have one:∀(a:J) (ac:Nat) (F:I) (h:Nat) (K:ByteArray->I->Prop),ac<=1000->a∈x.l->LH F0 w F [.g h] [.tree x]->(∀A,LH F0 w A [.g h] [.tree x]->K (ba (cg ac a.rx (a3 a.rx))) A)->fT [h] jg #[.agg #[.i a.k,.int .u8 (a.lo.toNat:Int),.int .u8 (a.hi.toNat:Int),a.s.v],.i (ac:Int)] F K:=by intro a ac F h K a7 j E hK;have ap:=J.dV j;refine E.aA (ih a ac F (by omega) a7 (ay a j) ((show x.P F from E.getD 0).parts.2.mem j)) ?_;rintro _ A rfl n;exact ⟨_,rfl,hK A n⟩
   refine ll.aD _ _ _ _ _ w _ ((gq px).aL λh F E=>?_);have E:LH F0 w F [.g h] [.tree x]:=E;refine E.aA (zP x F k0 k7 (E.getD 0)) ?_;rintro _ A rfl n;have L:a3 x.rx=a3 (.mk x.k x.lo x.hi (J.ax x.l)):=by rw [J.eQ]
   refine ⟨_,rfl,a9 (a0 (by omega)) (aO (λe=>⟨?_,n.fr⟩) (λN=>aO (λe=>⟨?_,n.fr⟩) (λT=>aO (λO=>?_) (λO=>aO (λQ=>?_) (λQ=>aO (λW=>?_) (λW=>aR (λa5=>?_) (λa5=>?_)))))))⟩
   .rw [L];unfold a3;rw [aq e];rfl
   .rw [L];unfold a3;rw [af N,aq e];rfl
   .have e2:a3 x.rx=if x.lo=x.hi then bo x.lo else 91::(bo x.lo++45::(bo x.hi++[93])):=by rw [L];unfold a3;rw [af N,af T,aq O]
    refine aO (λaN=>n.aA (zO x.lo A) ?_) (λaN=>n.au λB G=>G.aA (zO x.lo B) ?_)
    .rintro _ y rfl q;exact ⟨_,rfl,by rw [e2,aq (UInt8.toNat_inj.1 (by omega))],q.fr⟩
    .rintro _ w6 rfl H6;have C:=aK x.lo;have h2:=aK x.hi;have s0:az #[91]++ba (bo x.lo)++az #[45]=ba (91::bo x.lo++[45]):=by show ba [91]++ba (bo x.lo)++ba [45]=_;rw [dw,dw];rfl
     refine ⟨_,rfl,?_,?_,H6.aA (zO x.hi w6) ?_⟩
     .rw [cT];show ¬(((1+_:Nat):Int)>9223372036854775807);omega
     .have:(az #[91]++ba (bo x.lo)).size=1+(bo x.lo).length:=by show (ba [91]++_).size=_;rw [dw,cT];simp;omega
      rw [this];show ¬(((_+1:Nat):Int)>9223372036854775807);omega
     rintro _ w7 rfl H7;rw [s0];have:ba (91::bo x.lo++[45]++bo x.hi)++az #[93]=ba (91::bo x.lo++[45]++bo x.hi++[93]):=by show _++ba [93]=_;rw [dw]
     refine ⟨_,rfl,?_,?_,?_,H7.fr⟩
     .rw [cT,cT];simp only [cd,fw,iP];show ¬(((_:Nat):Int)>9223372036854775807);omega
     .rw [dw,cT];simp only [cd,fw,iP];show ¬(((_+1:Nat):Int)>9223372036854775807);omega
     .rw [dw,this,e2,af (λz=>aN (by rw [z]))];simp
   .have C:=aC (.inl Q);have e6:a3 x.rx=33::hv (cG 3 (J.ax x.l)):=by rw [L];unfold a3;rw [af N,af T,af O,aq Q]
    match dW:x.l,C with
    |[a],_=>
     have j:a∈x.l:=by rw [dW];simp
     have ap:=J.dV j;refine hR (show x.P A from n.getD 0) (k:=0) rfl (by rw [dW];rfl) (one a 3 A h _ (by omega) j n λy q=>⟨?_,?_,q.fr⟩)
     .have:=am a 3 (by omega);rw [cT];show ¬(((1+_:Nat):Int)>9223372036854775807);omega
     .have:az #[33]++ba (cg 3 a.rx (a3 a.rx))=ba (33::cg 3 a.rx (a3 a.rx)):=by show ba [33]++_=_;rw [dw];rfl
      rw [this,e6,dW];rfl
   .have C:=aC (.inr W);have e7:a3 x.rx=hv (cG 4 (J.ax x.l))++[42]:=by rw [L];unfold a3;rw [af N,af T,af O,af Q,aq W]
    match dW:x.l,C with
    |[a],_=>
     have j:a∈x.l:=by rw [dW];simp
     have ap:=J.dV j;refine hR (show x.P A from n.getD 0) (k:=0) rfl (by rw [dW];rfl) (one a 4 A h _ (by omega) j n λy q=>⟨?_,?_,q.fr⟩)
     .have:=am a 4 (by omega);rw [cT];show ¬(((_+1:Nat):Int)>9223372036854775807);omega
     .have:ba (cg 4 a.rx (a3 a.rx))++az #[42]=ba (cg 4 a.rx (a3 a.rx)++[42]):=by show _++ba [42]=_;rw [dw]
      rw [this,e7,dW];rfl
   .
    have e:x.k=3\/x.k=4\/x.k=5:=by omega
    have ef:a3 x.rx=om x.k++(hv (cG 0 (J.ax x.l))++[41]):=by rw [L];unfold a3;rw [af N,af T,af O,af Q,af W,aq (by rw [aB];omega)]
    have fin:∀(t:BL) (y:I),t.length<=18000002->hv (cG 0 (J.ax x.l))=t->LH F0 w y [.g h] [.tree x]->ll.aQ h x.k x.lo.toNat x.hi.toNat x.s (ba t) y M:=by
     intro t y ht D q;refine q.nw λw4 _ H=>?_;have key:∀(u:BL),u.length=4->om x.k=u->¬((((ba u).size+(ba t).size:Nat):Int)>IntKind.i64.max)/\¬((((ba u++ba t).size+(az #[41]).size:Nat):Int)>IntKind.i64.max)/\M (V (.string ((ba u++ba t)++(az #[41])))) w4:=by
      intro u hu hn;refine ⟨?_,?_,?_,H.fr⟩
      .rw [cT,cT];show ¬(((_:Nat):Int)>9223372036854775807);omega
      .rw [dw,cT];simp only [cd];show ¬(((_+1:Nat):Int)>9223372036854775807);omega
      .have:ba u++ba t++az #[41]=ba (u++(t++[41])):=by show _++_++ba [41]=_;rw [dw,dw];simp
       rw [this,ef,hn,D]
     rcases e with e|e|e<;>rw [e]
     .exact ⟨by decide,by decide,jS ⟨ba [99,97,116,40],H.ld 1 0,key _ rfl (by rw [e];rfl)⟩⟩
     .exact ⟨by decide,by decide,jS ⟨ba [97,108,116,40],H.ld 1 1,key _ rfl (by rw [e];rfl)⟩⟩
     .exact ⟨by decide,by decide,jS ⟨ba [97,108,108,40],H.ld 1 2,key _ rfl (by rw [e];rfl)⟩⟩
    refine aO (λC=>?_) (λC=>?_)
    .match dW:x.l with
     |[]=>rw [dW] at S;simp at S;omega
     |_::_::_=>rw [dW] at S;simp at S;omega
     |[a]=>
      have j:a∈x.l:=by rw [dW];simp
      have ap:=J.dV j;refine hR (show x.P A from n.getD 0) (k:=0) rfl (by rw [dW];rfl) (one a 0 A h _ (by omega) j n λy q=>?_);exact fin _ y (am a 0 (by omega)) (by rw [dW];rfl) q
    .have:x.l=[]:=List.length_eq_zero_iff.1 (by omega);exact fin [] A (by simp) (by rw [this];rfl) n
   .
    have e:x.k=3\/x.k=4\/x.k=5:=by omega
    match dW:x.l with
    |[]=>rw [dW] at S;simp at S;omega
    |a::m=>
    have j:a∈x.l:=by rw [dW];simp
    have ap:=J.dV j;have bn:(eR x.k).length<=1:=by unfold eR;split<;>(try split)<;>simp
    have ef:a3 x.rx=fY x.k (cg (bK x.rx+1) a.rx (a3 a.rx)) (cG (bK x.rx+1) (J.ax (x.l.drop 1))):=by
     have e1:a3 x.rx=wK x.k (cG (bK x.rx+1) (J.ax x.l)):=by
      conv=>lhs;rw [L];unfold a3;rw [af N,af T,af O,af Q,af W,af (by rw [aB];omega)]
      rw [<-J.eQ]
     rw [e1,dW];rfl
    have bi:bK x.rx<=4:=by rw [J.eQ];unfold bK;dsimp only;repeat (first |omega|split)
    have loop:∀(d i:Nat) (out:BL) (y:I),i+d=x.l.length->1<=i->0<out.length->out.length+gE (cG (bK x.rx+1) (J.ax (x.l.drop i)))<=40000000->a3 x.rx=fY x.k out (cG (bK x.rx+1) (J.ax (x.l.drop i)))->LH F0 w y [.g h] [.tree x]->
      ll.b6 h x.k x.lo.toNat x.hi.toNat x.s (ba (eR x.k)) (bK x.rx:Int) (ba out) (i:Int) y M:=by
     intro d;induction d with
     |zero=>
      intro i out y a1 C aP an D q;refine ll.eV _ _ _ _ _ _ _ _ _ _ _ (a9 (a0 (by omega)) ⟨?_,q.fr⟩);rw [D,dt (by omega)];rfl
     |succ d a8=>
      intro i out y a1 C aP an D q;have hg:x.l[i]? =some (x.l[i]'(by omega)):=bc (by omega);have aM:x.l.drop i=(x.l[i]'(by omega))::x.l.drop (i+1):=dq (by omega);generalize x.l[i]'(by omega)=c at hg aM;have hc:=aI hg;have bp:=J.dV hc;rw [aM] at D an;have an:out.length+((cg (bK x.rx+1) c.rx (a3 c.rx)).length+2+gE (cG (bK x.rx+1) (J.ax (x.l.drop (i+1)))))<=40000000:=by
       have:gE (cG (bK x.rx+1) (J.ax (c::x.l.drop (i+1))))=(cg (bK x.rx+1) c.rx (a3 c.rx)).length+2+gE (cG (bK x.rx+1) (J.ax (x.l.drop (i+1)))):=by simp [J.ax,cG,gE]
       omega
      have D:a3 x.rx=fY x.k ((if x.k=3/\cI (gn out)=true/\cI (gQ (cg (bK x.rx+1) c.rx (a3 c.rx)) 0)=true then out++[32] else out)++eR x.k++cg (bK x.rx+1) c.rx (a3 c.rx)) (cG (bK x.rx+1) (J.ax (x.l.drop (i+1)))):=by rw [D];rfl
      have aX:0<(cg (bK x.rx+1) c.rx (a3 c.rx)).length:=by have C:=y5 c.rx (ay c hc);have:=(pL (bK x.rx+1) c.rx (a3 c.rx)).2;omega
      have av:ab .i64 ((bK x.rx:Int)+1)=((bK x.rx+1:Nat):Int):=bw _ (by omega);refine ll.eV _ _ _ _ _ _ _ _ _ _ _ (bd (aW (by omega)) (hR (show x.P y from q.getD 0) rfl hg ?_));rw [av];refine one c (bK x.rx+1) y h _ (by omega) hc q λw4 H=>?_;generalize cg (bK x.rx+1) c.rx (a3 c.rx)=t at D an aX;have go:∀(o:BL) (B:I),o.length<=out.length+1->out.length<=o.length->o.length+(eR x.k).length<=out.length+1->a3 x.rx=fY x.k (o++eR x.k++t) (cG (bK x.rx+1) (J.ax (x.l.drop (i+1))))->LH F0 w B [.g h] [.tree x]->
        ll.aY h x.k x.lo.toNat x.hi.toNat x.s (ba (eR x.k)) (bK x.rx:Int) (ba o) (i:Int) (ba t) B M:=by
       intro o B bk bl bm aZ G;refine ⟨?_,?_,?_⟩
       .rw [cT,cT];show ¬(((_:Nat):Int)>9223372036854775807);omega
       .rw [dw,cT,cT];simp only [cd];show ¬(((_:Nat):Int)>9223372036854775807);omega
       .show ll.b6 _ _ _ _ _ _ _ _ _ _ _;rw [dw,dw,bw _ (by omega)];refine a8 (i+1) (o++eR x.k++t) B (by omega) (by omega) (by simp only [cd];omega) (by simp only [cd];omega) aZ G
      have aE:∀B,LH F0 w B [.g h] [.tree x]->¬(x.k=3/\cI (gn out)=true/\cI (gQ t 0)=true)->ll.aY h x.k x.lo.toNat x.hi.toNat x.s (ba (eR x.k)) (bK x.rx:Int) (ba out) (i:Int) (ba t) B M:=λB G z=>go out B (by omega) (by omega) (by omega) (by rw [af z] at D;exact D) G;have eo:ab .i64 ((((ba out).size:Nat):Int) - 1)=((out.length - 1:Nat):Int):=by rw [cT,a4 _ (by omega)];omega
      rw [eo];refine aO (λaj=>⟨by omega,gn out,?_,H.aA (FG (gn out) w4) ?_⟩) (λaj=>aE w4 H (λz=>aj z.1))
      .rw [dJ,gg (s:=ba out) (by rw [cT];omega),nT,H3 out aP]
      rintro _ B rfl G;refine ⟨_,rfl,bE (λak=>⟨by omega,gQ t 0,?_,G.aA (FG (gQ t 0) B) ?_⟩) (λak=>aE B G (λz=>by rw [z.2.1] at ak;cases ak))⟩
      .rw [show ag 0=0 from rfl,gg (s:=ba t) (by rw [cT];omega),nT]
      rintro _ w6 rfl H6;have s3:(eR x.k).length=0:=by unfold eR;rw [aq aj];rfl
      refine ⟨_,rfl,bE (λal=>⟨?_,?_⟩) (λal=>aE w6 H6 (λz=>by rw [z.2.2] at al;cases al))⟩
      .rw [cT];show ¬(((_+1:Nat):Int)>9223372036854775807);omega
      .have aT:ba out++az #[32]=ba (out++[32]):=by show _++ba [32]=_;rw [dw]
       rw [aT];refine go (out++[32]) w6 (by simp) (by simp) (by simp;omega) ?_ H6;rw [aq ⟨aj,ak,al⟩] at D;exact D
    refine n.nw λaF _ ah=>?_;have aH:LH F0 w aF [.g h] [.tree x]:=ah.take 1;have rest:∀(u:BL),eR x.k=u->b0 [h] tM #[.agg #[.i x.k,.int .u8 (x.lo.toNat:Int),.int .u8 (x.hi.toNat:Int),x.s.v]] aF λt90 ae=>aw x.s 0 λbb=>aV ae (bb.add (ag 0 *4)) λbe bf bg bh=>fT [h] jg #[.agg #[.i be,.int .u8 bf,.int .u8 bg,bh.v],.i (ab .i64 (t90+1))] ae λt97 aG=>ll.b6 h x.k x.lo.toNat x.hi.toNat x.s (ba u) t90 t97 1 aG M:=by
     intro u hu;refine aH.aA (zP x aF k0 k7 (aH.getD 0)) ?_;rintro _ ae rfl aJ;refine ⟨_,rfl,hR (show x.P ae from aJ.getD 0) (k:=0) rfl (by rw [dW];rfl) ?_⟩;have av:ab .i64 ((bK x.rx:Int)+1)=((bK x.rx+1:Nat):Int):=bw _ (by omega);rw [av];refine one a (bK x.rx+1) ae h _ (by omega) j aJ λaG aS=>?_;rw [<-hu];refine loop (x.l.length - 1) 1 _ aG (by omega) (by omega) ?_ ?_ ef aS
     .have C:=y5 a.rx (ay a j);have:=(pL (bK x.rx+1) a.rx (a3 a.rx)).2;omega
     .have C:=am a (bK x.rx+1) (by omega);have h2:=ql (bK x.rx+1) (J.ax (x.l.drop 1));have h3:=Uz x.l 1;omega
    rcases e with e|e|e
    .exact ⟨by rw [e];decide,by rw [e];decide,jS ⟨ba [],by rw [e];exact ah.ld 1 0,rest _ (by rw [e];rfl)⟩⟩
    .exact ⟨by rw [e];decide,by rw [e];decide,jS ⟨ba [124],by rw [e];exact ah.ld 1 1,rest _ (by rw [e];rfl)⟩⟩
    .exact ⟨by rw [e];decide,by rw [e];decide,jS ⟨ba [38],by rw [e];exact ah.ld 1 2,rest _ (by rw [e];rfl)⟩⟩
  intro x lv w z a6 Y px;by_cases hb:bK x.rx<lv
  .have Z:=Y;rw [J.eQ] at Z;obtain ⟨k0,k7,_,_⟩:=x5 Z;refine ll.aD _ _ _ _ _ w _ ((gq px).aL λh F E=>E.aA (zP x F k0 k7 (E.getD 0)) ?_);rintro _ A rfl n;refine ⟨_,rfl,bd (aW (by omega)) (n.aA (core x 0 A z (by omega) Y (n.getD 0)) ?_)⟩;rintro _ y rfl q;have bj:(a3 x.rx).length<=18000000:=by have:=vo x.rx;rw [J.ed] at this;omega
   have ar:az #[40]++ba (a3 x.rx)++az #[41]=ba (40::(a3 x.rx++[41])):=by show ba [40]++ba (a3 x.rx)++ba [41]=_;rw [dw,dw];simp
   refine ⟨_,rfl,?_,?_,?_,q.fr⟩
   .rw [cT];show ¬(((1+_:Nat):Int)>9223372036854775807);omega
   .have:(az #[40]++ba (a3 x.rx)).size=1+(a3 x.rx).length:=by show (ba [40]++_).size=_;rw [dw,cT];simp;omega
    rw [this];show ¬(((_+1:Nat):Int)>9223372036854775807);omega
   .rw [ar];unfold cg;rw [aq hb]
  .have:=core x lv w z hb Y px;have ar:cg lv x.rx (a3 x.rx)=a3 x.rx:=by unfold cg;rw [af hb]
   rw [ar];exact this
def Fl (x:J) (lv:Nat) (w:I) (c:x.sz<=1000000) (d:lv<=1000) (e:hP x.rx=true) (h:x.P w):ai U jg #[x.v,.i (lv:Int)] w λr j=>r=V (.string (ba (cg lv x.rx (a3 x.rx))))/\ao w j:=Fo 1000000 (bB _) x lv w c d e h
def Su {s:BL} {x:Rx} {a:Nat} {e:Int} (c:ot s=some (x,a,e)):x.sz<=1000000:=by
 unfold ot at c;split at c
 .simp only [eT,ee] at c;rw [<-c.1];decide
 .dsimp only at c;split at c
  .split at c
   .simp only [eT,ee] at c;rw [<-c.1];decide
   .split at c
    .cases c
    .split at c
     .simp only [eT,ee] at c;rw [<-c.1];decide
     .simp only [eT,ee] at c;rw [<-c.1];omega
  .cases c
def NC (s:ByteArray) (O:s.size<=100000) (b:Bool) (c:nV (bl s)=some b) (w:I):ai U Bu #[.string s] w λr W=>r=V (.bool b)/\ao w W:=by
 unfold nV at c;cases k:ot (bl s) with
 |none=>rw [k] at c;cases c
 |some Z=>
  obtain ⟨Y,a,L⟩:=Z;rw [k] at c;dsimp only at c;have P:=Su k;have F:LH F0 w w [] []:=bZ [] (by simp);refine GI.aD _ w _ (F.sP (Oj s O Y a L k w) ?_);rintro _ w1 ⟨t,rfl,u,Q,M⟩ _ E;have G:=E.rd (.tree t) Q λb d=>M b (aT.1 d);have T:t.sz<=1000000:=by rw [<-J.ed,u];exact P
  refine ⟨_,_,_,t.s,_,_,rfl,G.aL λb3 w2 x=>dG (λn=>x.au λC h=>⟨?_,h.fr⟩) (λn=>x.au λC h=>?_)⟩
  .rw [af n] at c;cases c;rfl
  rw [aq n] at c;refine iH ((On t C T (h.getD 0)).mono ?_);rintro _ w4 ⟨⟨e,rfl,B,S,N⟩,z⟩;have H:=h.fo (.tree e) z S λb d=>(N b (aT.1 d)).imp id λd=>.inr ⟨_,aI (i:=0) rfl,aT.2 d⟩;rw [u] at B;refine ⟨z,_,_,_,e.s,_,rfl,H.aL λb6 w5 y=>?_⟩;rw [u];refine aO (λq=>y.au λD j=>?_) (λq=>y.au λD j=>⟨?_,j.fr⟩)
  .rw [aq q] at c;split at c
   .rename_i A;rw [<-B] at A c;refine j.aA (Fl e 0 D (by rw [<-J.ed];omega) (by omega) A.1 (j.getD 1)) ?_;rintro _ w7 rfl K;refine ⟨_,rfl,?_,K.fr⟩;cases c;congr 2;have:=qN (cg 0 e.rx (a3 e.rx)) (bl s);rw [o3] at this;exact this
   .cases c
  .rw [af q] at c;cases c;rfl
abbrev r0 (k:O) (ks:List bq):En:=.bz 3 k (ks.flatMap gi)
def Ib {w:I} {k:O} {ks:List bq} (d:bL 3 w k (ks.flatMap gi)):LH F0 w w [] [r0 k ks]:=bZ _ (by intro e c;simp only [aB,a1,a7] at c;subst c;exact d)
def N2 {w:I} {k:O} {ks:List bq} {x y z:bq} (op:Int) (ad:bL 3 w k (ks.flatMap gi)) (hx:ks[0]? =some x) (q:2<=cM op->ks[1]? =some y) (F:cM op=3->ks[2]? =some z) (h4:4<=op) (af:op<=34):
  ai U BN #[.i op,k.v] w λr w'=>r=V (.bool (c9 op x y z))/\ao w w':=by
 refine Ar.aD _ _ w _ (dY ad (rfl:(0:Int)=((0:Nat):Int)) hx λp0 aj Y=>⟨x.k,x.n,x.x,Y.c0,Y.c1,Y.c2,(Ib ad).aL λb5 w1 H1=>?_⟩);have main:∀(a:Bool) (K:I),a=dR x->LH F0 w K [.g b5] [r0 k ks]->Ar.aQ op k b5 x.k x.n x.x (x.k==0) (x.k==1) a K λr w'=>r=V (.bool (c9 op x y z))/\ao w w':=by
  rintro a K ha c;have j:∀{B:I} {L:List En},LH F0 w B L [r0 k ks]->bL 3 B k (ks.flatMap gi):=λae=>ae.getD 0;have A:(1:Int)=((1:Nat):Int):=rfl;have H:(2:Int)=((2:Nat):Int):=rfl;rcases rK (by omega) af with rfl|rfl|rfl|rfl|rfl|rfl|rfl|rfl|rfl|rfl|rfl|rfl|rfl|rfl|rfl|rfl|rfl|rfl|rfl|rfl|rfl|rfl|rfl|rfl|rfl|rfl|rfl|rfl|rfl|rfl|rfl|rfl|rfl|rfl|rfl
  iterate 4 omega
  all_goals repeat (first |refine a9 rfl ?_|refine bd rfl ?_)
  all_goals first |(have q:=q (by decide))|skip
  all_goals first |(have F:=F (by decide))|skip
  iterate 2 exact ⟨rfl,c.fr⟩
  iterate 12
   .refine aO (λd=>?_) (λd=>c.au λB h=>⟨?_,h.fr⟩)
    .refine dY (j c) A q λp E _=>c.au λB h=>?_;have e:=fP (j h) A q E;refine ⟨_,_,_,e.c0,e.c1,e.c2,?_,h.fr⟩;rw [jW];show _=Ending.returned (.bool (x.k==0&&ah (x=y)));rw [d];rfl
    .show _=Ending.returned (.bool (x.k==0&&ah (x=y)));rw [beq_eq_false_iff_ne.2 d];rfl
  .refine dY (j c) A q λp E _=>c.au λB h=>?_;have e:=fP (j h) A q E;have C:c9 18 x y z=(ah (x=y)||(x.k==1&&y.k==1)):=rfl;rw [C];refine ⟨_,_,_,e.c0,e.c1,e.c2,lF (λG=>⟨by rw [aW G];rfl,h.fr⟩) (λG=>?_)⟩;rw [a0 G,Bool.false_or];refine aO (λd=>dY (j h) A q λp' _ W=>⟨_,W.c0,?_,h.fr⟩) (λd=>⟨?_,h.fr⟩)
   .rw [d];rfl
   .rw [beq_eq_false_iff_ne.2 d];rfl
  .refine c.au λB h=>h.aA (e7 1 B) ?_;rintro _ S rfl u;have C:c9 19 x y z=(ah (x=bI 1)&&(ah (y=z)||(y.k==1&&z.k==1))):=rfl;rw [C];refine ⟨_,_,_,rfl,lF (b:=bI 1) (λG=>?_) (λG=>⟨by rw [a0 G];rfl,u.fr⟩)⟩;rw [aW G,Bool.true_and];refine dY (j u) A q λp _ e=>⟨_,_,_,e.c0,e.c1,e.c2,dY (j u) H F λac _ D=>⟨_,_,_,D.c0,D.c1,D.c2,lF (λh2=>⟨by rw [aW h2];rfl,u.fr⟩) (λh2=>?_)⟩⟩;rw [a0 h2,Bool.false_or];refine dY (j u) A q λp' _ W=>⟨_,W.c0,aO (λd=>dY (j u) H F λq' _ d'=>⟨_,d'.c0,?_,u.fr⟩) (λd=>⟨?_,u.fr⟩)⟩
   .rw [d];rfl
   .rw [beq_eq_false_iff_ne.2 d];rfl
  .have C:c9 20 x y z=(x.k==0&&y.k==0):=rfl;rw [C];refine aO (λd=>dY (j c) A q λp _ e=>⟨_,e.c0,?_,c.fr⟩) (λd=>⟨?_,c.fr⟩)
   .rw [d];rfl
   .rw [beq_eq_false_iff_ne.2 d];rfl
  iterate 3 exact ⟨rfl,c.fr⟩
  .have C:c9 24 x y z=(dR x&&ah (y=bI x.x)):=rfl;rw [C,<-ha];refine bE (λQ=>?_) (λN=>c.au λB h=>⟨by rw [N];rfl,h.fr⟩);refine dY (j c) A q λp E _=>c.au λB h=>?_;have e:=fP (j h) A q E;refine ⟨_,_,_,e.c0,e.c1,e.c2,h.aA (e7 x.x B) ?_⟩;rintro _ S rfl u;have D:=fP (j u) A q E;refine ⟨_,_,_,rfl,D.c0,D.c1,D.c2,?_,u.fr⟩;rw [Q,Bool.true_and];exact congrArg (λb=>Ending.returned (.bool b)) (jW y (bI x.x))
  .have C:c9 25 x y z=(dR x&&ah (y=bI x.x)&&(ah (z=hj x)||(x.k==3&&z.k==1&&ah (z.n<=x.n)))):=rfl;rw [C,<-ha];refine dM (λN=>c.au λB h=>⟨by rw [N];rfl,h.fr⟩) (λQ=>?_);rw [Q,Bool.true_and];refine dY (j c) A q λp E _=>c.au λB h=>?_;have e:=fP (j h) A q E;refine ⟨_,_,_,e.c0,e.c1,e.c2,h.aA (e7 x.x B) ?_⟩;rintro _ S rfl u;have D:=fP (j u) A q E;refine ⟨_,_,_,rfl,D.c0,D.c1,D.c2,uQ (a:=y) (b:=bI x.x) (λP=>⟨by rw [a0 P];rfl,u.fr⟩) (λag=>?_)⟩;rw [aW ag,Bool.true_and];refine dY (j u) H F λac T _=>u.au λw5 M=>?_;have c5:=fP (j M) H F T;refine ⟨_,_,_,c5.c0,c5.c1,c5.c2,M.aA (Df x w5) ?_⟩;rintro _ w6 rfl J;have d6:=fP (j J) H F T;refine ⟨_,_,_,rfl,d6.c0,d6.c1,d6.c2,lF (a:=z) (b:=hj x) (λG=>⟨by rw [aW G];rfl,J.fr⟩) (λP=>?_)⟩;rw [a0 P,Bool.false_or];refine aO (λd=>dY (j J) H F λq' _ d'=>⟨_,d'.c0,aO (λab=>dY (j J) H F λq2 _ d2=>⟨_,d2.c1,?_,J.fr⟩) (λab=>⟨?_,J.fr⟩)⟩) (λd=>⟨?_,J.fr⟩)
   .rw [d,ab];rfl
   .rw [beq_eq_false_iff_ne.2 ab,Bool.and_false];rfl
   .rw [beq_eq_false_iff_ne.2 d];rfl
  .have C:c9 26 x y z=(dR x&&ah (x=y)):=rfl;rw [C,<-ha];refine bE (λQ=>?_) (λN=>c.au λB h=>⟨by rw [N];rfl,h.fr⟩);refine dY (j c) A q λp E _=>c.au λB h=>?_;have e:=fP (j h) A q E;refine ⟨_,_,_,e.c0,e.c1,e.c2,?_,h.fr⟩;rw [jW,Q];rfl
  iterate 2 exact ⟨rfl,c.fr⟩
  .have C:c9 29 x y z=(x.k==1&&y.k==1):=rfl;rw [C];refine aO (λd=>dY (j c) A q λp _ e=>⟨_,e.c0,?_,c.fr⟩) (λd=>⟨?_,c.fr⟩)
   .rw [d];rfl
   .rw [beq_eq_false_iff_ne.2 d];rfl
  .have C:c9 30 x y z=(x.k==1&&ah (y=bI 7)&&ah (z=bI 7)):=rfl;rw [C];refine aO (λd=>?_) (λd=>c.au λB h=>⟨by rw [beq_eq_false_iff_ne.2 d];rfl,h.fr⟩);rw [d];refine dY (j c) A q λp E _=>c.au λB h=>?_;have e:=fP (j h) A q E;refine ⟨_,_,_,e.c0,e.c1,e.c2,h.aA (e7 7 B) ?_⟩;rintro _ S rfl u;have D:=fP (j u) A q E;refine ⟨_,_,_,rfl,D.c0,D.c1,D.c2,lF (a:=y) (b:=bI 7) (λG=>?_) (λP=>⟨by rw [a0 P];rfl,u.fr⟩)⟩;rw [aW G];refine dY (j u) H F λac T Z=>⟨_,_,_,Z.c0,Z.c1,Z.c2,u.aA (e7 7 S) ?_⟩;rintro _ w5 rfl M;have d5:=fP (j M) H F T;exact ⟨_,_,_,rfl,d5.c0,d5.c1,d5.c2,congrArg (λb=>Ending.returned (.bool b)) (jW z (bI 7)),M.fr⟩
  .have C:c9 31 x y z=(x.k==1&&y.k==1):=rfl;rw [C];refine aO (λd=>dY (j c) A q λp _ e=>⟨_,e.c0,?_,c.fr⟩) (λd=>⟨?_,c.fr⟩)
   .rw [d];rfl
   .rw [beq_eq_false_iff_ne.2 d];rfl
  .have C:c9 32 x y z=(x.k==1&&y.k==1&&z.k==1):=rfl;rw [C];refine aO (λd=>dY (j c) A q λp _ e=>⟨_,e.c0,aO (λaa=>dY (j c) H F λac _ D=>⟨_,D.c0,?_,c.fr⟩) (λaa=>⟨?_,c.fr⟩)⟩) (λd=>⟨?_,c.fr⟩)
   .rw [d,aa];rfl
   .rw [beq_eq_false_iff_ne.2 aa,Bool.and_false];rfl
   .rw [beq_eq_false_iff_ne.2 d];rfl
  .exact ⟨rfl,c.fr⟩
  .refine c.au λB h=>h.aA (e7 8 B) ?_;rintro _ S rfl u;exact ⟨_,_,_,rfl,congrArg (λb=>Ending.returned (.bool b)) (jW x (bI 8)),u.fr⟩
 refine aO (λd=>H1.au λK c=>main true K ?_ c) (λd=>H1.au λK c=>main _ K ?_ c)
 .unfold dR;rw [d];rfl
 .unfold dR;rw [beq_eq_false_iff_ne.2 d];rfl
def zj (n:Nx) (x y z:bq):dA->Prop:=λr=>∃(t:bq) (b:Bool),r=V (.tuple #[dx t,.bool b])/\b=jl n x y z/\(b=true->t=g7 n x y z)
def Ot {w:I} {k:O} {ks:List bq} {x y z:bq} (d:Nd) (F:bL 3 w k (ks.flatMap gi)) (hx:ks[0]? =some x) (C:2<=cM d.x.op->ks[1]? =some y) (M:cM d.x.op=3->ks[2]? =some z) (h4:4<=d.x.op) (ae:d.x.op<=34)
  (vx:bT x=true) (vy:2<=cM d.x.op->bT y=true) (vz:cM d.x.op=3->bT z=true) (hn:cp d.x.n) (hm:cp d.x.m):
  ai U BP #[d.v,k.v] w λr Y=>zj d.x x y z r/\ao w Y:=by
 obtain ⟨x1,x2,x3,x4,_⟩:=kW vx;obtain ⟨ap,ar⟩:=hn;obtain ⟨am,an⟩:=hm;refine wt.aD _ _ _ _ _ _ _ _ _ _ w _ ((Ib F).aL λb2 w1 H1=>H1.aL λb4 w2 H2=>dY (H2.getD 0) (rfl:(0:Int)=((0:Nat):Int)) hx λp0 aw ac=>⟨x.k,x.n,x.x,ac.c0,ac.c1,ac.c2,H2.aL λb6 w3 W=>?_⟩);have q:∀{w3:I} {L:List En},LH F0 w w3 L [r0 k ks]->bL 3 w3 k (ks.flatMap gi):=λag=>ag.getD 0;have D:(1:Int)=((1:Nat):Int):=rfl;have T:(2:Int)=((2:Nat):Int):=rfl;obtain ⟨⟨H,kids,B,m,aa,tx,st⟩,av⟩:=d;simp only at C M h4 ae vy vz ap ar am an;have S1:∀u:I,H≠16->H≠17->H≠18->H≠33->LH F0 w u [.g b2,.g b4,.g b6] [r0 k ks]->wt.a2 k b2 H av B m aa tx st.k st.n st.x b4 0 0 0 b6 x.k x.n x.x H u λr Y=>zj ⟨H,kids,B,m,aa,tx,st⟩ x y z r/\ao w Y:=by
  intro u n1 n2 n3 n4 e;rcases rK (by omega) ae with rfl|rfl|rfl|rfl|rfl|rfl|rfl|rfl|rfl|rfl|rfl|rfl|rfl|rfl|rfl|rfl|rfl|rfl|rfl|rfl|rfl|rfl|rfl|rfl|rfl|rfl|rfl|rfl|rfl|rfl|rfl|rfl|rfl|rfl|rfl
  iterate 4 omega
  all_goals repeat (first |refine a9 rfl ?_|refine bd rfl ?_)
  all_goals first |(have C:=C (by decide))|skip
  all_goals first |(have M:=M (by decide))|skip
  all_goals first |(have vy:=kW (vy (by decide)))|skip
  all_goals first |(have vz:=kW (vz (by decide)))|skip
  iterate 12 exact e.au λA c=>⟨⟨x,true,rfl,rfl,λ_=>rfl⟩,c.fr⟩
  iterate 3 omega
  .refine dY (q e) D C λp P aj=>⟨_,aj.c0,aO (λhk=>?_) (λhk=>?_)⟩
   .refine dY (q e) D C λp P _=>e.au λA c=>?_;have Q:=fP (q c) D C P;refine ⟨_,Q.c1,dY (q c) T M λad G S=>⟨_,S.c1,c.aA (mW _ A) ?_⟩⟩;rintro _ J rfl h;refine ⟨_,_,_,rfl,h.au λN j=>⟨⟨_,true,rfl,rfl,λ_=>?_⟩,j.fr⟩⟩;show _=if y.k=1 then _ else _;rw [aq hk]
   .refine dY (q e) D C λp P c'=>⟨_,_,_,c'.c0,c'.c1,c'.c2,e.au λA c=>⟨⟨y,true,rfl,rfl,λ_=>?_⟩,c.fr⟩⟩;show _=if y.k=1 then _ else _;rw [af hk]
  .refine dY (q e) D C λp P _=>e.au λA c=>?_;have Q:=fP (q c) D C P;refine ⟨_,Q.c1,dY (q c) D C λad G _=>?_⟩;have S:=fP (q c) D C G;refine ⟨_,S.c1,c.aA (e7 _ A) ?_⟩;rintro _ J rfl h;refine ⟨_,_,_,rfl,(fP (q h) D C G).c1,h.au λN j=>⟨(fP (q j) D C G).c1,⟨_,_,rfl,?_,λ_=>?_⟩,j.fr⟩⟩
   .rw [a4 _ (by omega)];rfl
   .show bI _=bI (x.n+y.n);rw [a4 _ (by omega)]
  .refine e.au λA c=>c.aA (e7 _ A) ?_;rintro _ J rfl h;have hr:jl ⟨21,kids,B,m,aa,tx,st⟩ x y z=(ah (0<=m)&&ah (m<=B)&&ah (B<x.n)):=rfl;refine ⟨_,_,_,rfl,aR (λK=>aR (λg2=>h.au λN j=>⟨⟨_,_,rfl,?_,λE=>?_⟩,j.fr⟩) (λg2=>h.au λN j=>⟨⟨_,false,rfl,?_,λE=>by cases E⟩,j.fr⟩)) (λK=>h.au λN j=>⟨⟨_,false,rfl,?_,λE=>by cases E⟩,j.fr⟩)⟩
   .rw [hr,aW (show 0<=m from K),aW g2];rfl
   .have E:=ef E;show bI _=bI (B - m+1);rw [a4 (B - m) (by omega),a4 _ (by omega)]
   .rw [hr,a0 g2,Bool.and_false];rfl
   .rw [hr,a0 (show ¬0<=m from K)];rfl
  iterate 2
   .refine e.au λA c=>c.aA (e7 _ A) ?_;rintro _ J rfl h;have ak:ab .i64 (64 - x.n)=64 - x.n:=a4 _ (by omega);rw [ak];refine ⟨_,_,_,rfl,aR (λK=>h.au λN j=>⟨⟨_,_,rfl,?_,λE=>?_⟩,j.fr⟩) (λK=>h.au λN j=>⟨⟨_,false,rfl,?_,λE=>by cases E⟩,j.fr⟩)⟩
    .show _=(ah (1<=B)&&ah (B<=64 - x.n));rw [aW (show 1<=B from K)];rfl
    .have E:=ef E;show bI _=bI (x.n+B);rw [a4 _ (by omega)]
    .show _=(ah (1<=B)&&ah (B<=64 - x.n));rw [a0 (show ¬1<=B from K)];rfl
  .refine e.aA (Df x u) ?_;rintro _ A rfl c;exact ⟨_,_,_,rfl,c.au λJ h=>⟨⟨_,true,rfl,rfl,λ_=>rfl⟩,h.fr⟩⟩
  .exact e.au λA c=>⟨⟨x,true,rfl,rfl,λ_=>rfl⟩,c.fr⟩
  .refine e.aA (e7 _ u) ?_;rintro _ A rfl c;exact ⟨_,_,_,rfl,c.au λJ h=>⟨⟨_,true,rfl,rfl,λ_=>rfl⟩,h.fr⟩⟩
  .refine e.aA (e7 _ u) ?_;rintro _ A rfl c;exact ⟨_,_,_,rfl,c.au λJ h=>⟨⟨_,true,rfl,rfl,λ_=>rfl⟩,h.fr⟩⟩
  .refine e.au λA c=>c.aA (e7 _ A) ?_;rintro _ J rfl h;refine ⟨_,_,_,rfl,aR (λK=>h.au λN j=>⟨⟨_,_,rfl,?_,λE=>rfl⟩,j.fr⟩) (λK=>h.au λN j=>⟨⟨_,false,rfl,?_,λE=>by cases E⟩,j.fr⟩)⟩
   .show _=(ah (0<=B)&&ah (B<=63));rw [aW (show 0<=B from K)];rfl
   .show _=(ah (0<=B)&&ah (B<=63));rw [a0 (show ¬0<=B from K)];rfl
  .refine dY (q e) D C λp P _=>e.au λA c=>?_;have Q:=fP (q c) D C P;refine ⟨_,Q.c1,dY (q c) D C λad G _=>?_⟩;have S:=fP (q c) D C G;refine ⟨_,S.c1,c.aA (mW _ A) ?_⟩;rintro _ J rfl h;refine ⟨_,_,_,rfl,(fP (q h) D C G).c1,h.au λN j=>⟨(fP (q j) D C G).c1,⟨_,_,rfl,?_,λ_=>?_⟩,j.fr⟩⟩
   .rw [a4 _ (by omega)];rfl
   .show eH _=eH (x.n+y.n);rw [a4 _ (by omega)]
  .exact e.au λA c=>⟨⟨x,true,rfl,rfl,λ_=>rfl⟩,c.fr⟩
  .refine e.aA (e7 _ u) ?_;rintro _ A rfl c;exact ⟨_,_,_,rfl,c.au λJ h=>⟨⟨_,true,rfl,rfl,λ_=>rfl⟩,h.fr⟩⟩
  .refine dY (q e) T M λp P _=>e.au λA c=>?_;have Q:=fP (q c) T M P;refine ⟨_,Q.c1,dY (q c) T M λad G _=>?_⟩;have S:=fP (q c) T M G;refine ⟨_,S.c1,c.aA (mW _ A) ?_⟩;rintro _ J rfl h;refine ⟨_,_,_,rfl,(fP (q h) T M G).c1,h.au λN j=>⟨(fP (q j) T M G).c1,⟨_,_,rfl,?_,λ_=>?_⟩,j.fr⟩⟩
   .rw [a4 _ (by omega)];rfl
   .show eH _=eH (x.n+z.n);rw [a4 _ (by omega)]
  .omega
  .refine e.aA (mW _ u) ?_;rintro _ A rfl c;exact ⟨_,_,_,rfl,c.au λJ h=>⟨⟨_,true,rfl,rfl,λ_=>rfl⟩,h.fr⟩⟩
 have Z:∀u:I,(H=16\/H=17\/H=18\/H=33)->LH F0 w u [.g b2,.g b4,.g b6] [r0 k ks]->wt.aQ b4 0 0 0 u λr Y=>zj ⟨H,kids,B,m,aa,tx,st⟩ x y z r/\ao w Y:=by
  intro u ho e;refine e.aA (e7 1 u) ?_;rintro _ A rfl c;refine ⟨_,_,_,rfl,c.au λJ h=>⟨⟨_,true,rfl,?_,λ_=>?_⟩,h.fr⟩⟩
  .rcases ho with rfl|rfl|rfl|rfl<;>rfl
  .rcases ho with rfl|rfl|rfl|rfl<;>rfl
 exact aO (λF=>bd (beq_iff_eq.2 F) (W.au λu e=>Z u (.inl F) e)) λh1=>aO (λF=>bd (beq_iff_eq.2 F) (W.au λu e=>Z u (.inr (.inl F)) e)) λh2=>aO (λF=>bd (beq_iff_eq.2 F) (W.au λu e=>Z u (.inr (.inr (.inl F))) e)) λh3=>aO (λF=>W.au λu e=>Z u (.inr (.inr (.inr F))) e) λal=>W.au λu e=>S1 u h1 h2 h3 al e
def Pk:gy U yL b3 (.agg #[.int .i64 0,.int .i64 0,.int .i64 0]) 3 24:=⟨by kernel_rfl,by kernel_rfl,rfl,by decide,by decide⟩
def vH (t:ByteArray):Prop:=t.size<=100000/\nV (bl t)=some (jG t)
def vH.can {t:ByteArray} (c:vH t):nV (bl t)=some (jG t):=c.2
structure mR (d:Nx):Prop where
 kl:d.kids.length<=dQ
 n:cp d.n
 m:cp d.m
 tx:d.op=33->vH d.tx
structure ss (g:List Nx):Prop where
 len:g.length<=dQ
 val:∀d∈g,bT d.st=true
 vars:vI g
def QN {l:List Nd} {n:Nx} {i:Nat} {k:Int} {e:Nd} (d:n.kids[i]? =some k) (c:l[k.toNat]? =some e):bP (xs l) n i=e.x.st:=by unfold bP;rw [d];dsimp only;rw [nK c]
def S' (i:Nat) (f:Nat->bq):((List.range (i+1)).map f).flatMap gi=((List.range i).map f).flatMap gi++gi (f i):=by rw [List.range_succ];simp
def QI {op:Int} {m:Nat} (c:cM op=(m:Int)) (d:m≠0):4<=op/\op<=34:=by
 unfold cM at c;split at c
 .omega
 .split at c
  .omega
  .omega
def QM {op:Int} (c:cM op=0):0<=op/\op<=3:=by
 unfold cM at c;split at c
 .omega
 .split at c
  .omega
  .split at c
   .omega
   .split at c<;>omega
def PN {g:List Nx} {n:Nx} (c:l5 g n=0):(cM n.op==(n.kids.length:Int)&&n.kids.all (fc g)&&iN n)=true:=by
 unfold l5 at c;split at c
 .assumption
 .omega
def QS {g:List Nx} {n:Nx} (j:∀e∈g,bT e.st=true) (h:n.kids.all (fc g)=true) {i:Nat} (hi:i<n.kids.length):bT (bP g n i)=true:=by
 have c:=f'.1 h _ (List.getElem_mem hi);unfold fc at c;simp only [bn,decide_eq_true_eq] at c;unfold bP;rw [bc hi];dsimp only;have d:(n.kids[i]).toNat<g.length:=by omega
 rw [bc d];exact j _ (List.getElem_mem d)
def vU {w:I} {s:O} {l:List Nd} {d:Nd} (j:GP w s l) (hd:d.P w) (hg:ss (xs l)) (W:mR d.x):
  ai U rA #[s.v,d.v] w λr N=>r=fN (bU (xs l) d.x)/\ao w N:=by
 have hn:=fu j;have ay:(xs l).length=l.length:=by simp [xs]
 have aC:d.ks.n=d.x.kids.length:=bS.len hd;have hl:=hg.len;have hk:=W.kl;rw [ay] at hl;refine q6.aD _ _ _ _ _ _ _ _ _ _ w _ ((tG j hd).aL λah w1 H1=>H1.aL λJ w2 Z=>Z.aA (N1 (be.1 (Z.getD 0)) (Z.getD 1) hk) ?_);rintro _ w3 rfl G;refine ⟨_,rfl,dG (λae=>G.au λy h=>⟨?_,h.fr⟩) (λh0=>?_)⟩
 .unfold bU;unfold l5 at ae ⊢;split
  .rename_i q;rw [aq q] at ae;exact absurd rfl ae
  .rename_i q;rw [ju] at q;rw [q];rfl
 have M:=PN h0;have av:cM d.x.op=(d.x.kids.length:Int):=by simp only [bn] at M;exact eq_of_beq M.1.1
 have al:d.x.kids.all (fc (xs l))=true:=by simp only [bn] at M;exact M.1.2
 have A:bU (xs l) d.x=if d.x.op<=3 then cy (xs l) d.x else
   if c9 d.x.op (bP (xs l) d.x 0) (bP (xs l) d.x 1) (bP (xs l) d.x 2)=false then (cF,9) else
   if jl d.x (bP (xs l) d.x 0) (bP (xs l) d.x 1) (bP (xs l) d.x 2)=false then (cF,5) else
   if d.x.op=33/\jG d.x.tx=false then (cF,2) else (g7 d.x (bP (xs l) d.x 0) (bP (xs l) d.x 1) (bP (xs l) d.x 2),0):=by unfold bU;rw [M];rfl
 refine aO (λaw=>?_) (λaw=>?_)
 .have hz:=QM (op:=d.x.op) (by omega);refine G.aA (Oa (be.1 (G.getD 0)) (G.getD 1) hl hz.1 hz.2 hg.vars) ?_;rintro _ y rfl h;refine ⟨_,_,_,_,rfl,h.au λY D=>⟨?_,D.fr⟩⟩;rw [A,aq hz.2]
 have S:=QI (op:=d.x.op) av (by omega);rw [af (by omega)] at A;unfold dQ at hk hl;have loop:∀(m i:Nat) (E:O) (y:I),i+m=d.x.kids.length->LH F0 w y [.g ah,.g J,.row b3 3 E (((List.range i).map (bP (xs l) d.x)).flatMap gi)] (kM s l d)->
   q6.aP s ah d.x.op d.ks d.x.n d.x.m d.x.u d.x.tx d.x.st.k d.x.st.n d.x.st.x J 0 0 0 E (i:Int) y λr N=>r=fN (bU (xs l) d.x)/\ao w N:=by
  intro m;induction m with
  |zero=>
   intro i E y hi h;have hi:i=d.x.kids.length:=by omega
   subst hi;have R4:bL 3 y E (((List.range d.x.kids.length).map (bP (xs l) d.x)).flatMap gi):=(h.get 2:aS _ _ _ _ _).bz;have F:∀B,B<d.x.kids.length->((List.range d.x.kids.length).map (bP (xs l) d.x))[B]? =some (bP (xs l) d.x B):=λB hj=>by rw [List.getElem?_map,List.getElem?_range hj];rfl
   have ag:∀B,B<d.x.kids.length->bT (bP (xs l) d.x B)=true:=λB hj=>QS hg.val al hj;refine q6.bW _ _ _ _ _ _ _ _ _ _ _ _ _ _ _ _ _ _ _ (a9 (a0 (by omega)) (h.aA (N2 d.x.op R4 (F 0 (by omega)) (λh2=>F 1 (by omega)) (λh3=>F 2 (by omega)) S.1 S.2) ?_));rintro _ Y rfl D;refine ⟨_,rfl,dM (λab=>D.au λw6 H6=>⟨by rw [A,aq ab];rfl,H6.fr⟩) (λab=>?_)⟩;rw [af (by rw [ab];simp)] at A;have R5:bL 3 Y E (((List.range d.x.kids.length).map (bP (xs l) d.x)).flatMap gi):=(D.get 2:aS _ _ _ _ _).bz;refine D.aA (Ot d R5 (F 0 (by omega)) (λh2=>F 1 (by omega)) (λh3=>F 2 (by omega)) S.1 S.2 (ag 0 (by omega)) (λh2=>ag 1 (by omega)) (λh3=>ag 2 (by omega)) W.n W.m) ?_;rintro _ w6 ⟨t,b,rfl,K,ht⟩ H6;refine ⟨_,_,_,_,rfl,H6.aL λaa w7 H7=>dM (λan=>H7.au λC z=>⟨?_,z.fr⟩) (λak=>?_)⟩
   .rw [A,aq (by rw [<-K,an])];rfl
   rw [af (by rw [<-K,ak];simp)] at A;have ht:=ht ak;have S1:∀(c:Bool) (C:I) (L:List En),(d.x.op=33/\jG d.x.tx=false↔c=false)->En.g J∈L->En.g aa∈L->LH F0 w C L (kM s l d)->q6.a2 J 0 0 0 aa t.k t.n t.x c C λr N=>r=fN (bU (xs l) d.x)/\ao w N:=by
    intro c C L q m4 az z;have aj:∀b∈[J,aa],En.g b∈L:=by
     intro b K;simp only [aB,a1,a7] at K;rcases K with rfl|rfl
     .exact m4
     .exact az
    refine dM (λap=>z.au (λw9 H=>⟨?_,H.fr⟩) aj) (λar=>z.au (λw9 H=>⟨?_,H.fr⟩) aj)
    .rw [A,aq (q.2 ap)];rfl
    .rw [A,af (λj=>by rw [ar] at q;cases q.1 j),ht]
   refine dG (λQ=>H7.au λC z=>S1 true C _ ⟨λj=>absurd j.1 Q,λj=>by cases j⟩ (by simp) (by simp) z) (λQ=>H7.au λC z=>?_);have am:=W.tx Q;refine z.aA (NC d.x.tx am.1 _ am.can C) ?_;rintro _ w9 rfl H;exact ⟨_,rfl,S1 _ w9 _ ⟨λj=>j.2,λj=>⟨Q,j⟩⟩ (by simp) (by simp) H⟩
  |succ m ih=>
   intro i E y hi h;have T:d.x.kids[i]? =some (d.x.kids[i]'(by omega)):=bc (by omega);have ad:=f'.1 al _ (aI T);generalize d.x.kids[i]'(by omega)=kx at T ad;unfold fc at ad;simp only [bn,decide_eq_true_eq] at ad;have ac:l[kx.toNat]? =some (l[kx.toNat]'(by omega)):=bc (by omega);generalize l[kx.toNat]'(by omega)=e at ac;have ax:bS y d.ks d.x.kids:=h.getD 1;have aE:=Nd.cj (show bL 9 y s (l.flatMap Nd.c) from (be.1 (h.getD 0)).1);refine q6.bW _ _ _ _ _ _ _ _ _ _ _ _ _ _ _ _ _ _ _ (bd (aW (by omega)) ⟨by omega,by omega,ax.cell T (by omega) λp hp q=>⟨kx,q,fa (be.1 (h.getD 0)) (i:=kx.toNat) (by omega) ac λaF hq c=>⟨_,_,_,c.s0,c.s1,c.s2,?_⟩⟩⟩);have hlen:E.n=i:=by have:=(h.get 2:aS _ _ _ _ _).len;rw [KS] at this;simp at this;omega
   refine h.i5 2 Pk rfl (λs' Y D=>?_) (by omega);rw [bw _ (by omega)];refine ih (i+1) s' Y (by omega) ?_;rw [S',QN T ac];exact D
 exact loop d.x.kids.length 0 ⟨none,0,0⟩ w3 (by omega) (G.jP b3 3)
def kE:gy U dZ bC (.agg #[.int .i64 0,.slice none 0 0,.int .i64 0,.int .i64 0,.int .u64 0,.string (az #[]),.int .i64 0,.int .i64 0,.int .i64 0]) 9 96:=⟨by kernel_rfl,by kernel_rfl,rfl,by decide,by decide⟩
def oo {l:List Nd}:∀e∈l.flatMap Nd.c,e.oneCell'=true:=by intro e d;obtain ⟨h,_,d⟩:=ch.1 d;simp only [Nd.c,aB,a1,a7] at d;rcases d with rfl|rfl|rfl|rfl|rfl|rfl|rfl|rfl|rfl<;>rfl
def vS {w:I} {b n sz:Nat} {cs:List ae} {T:aG} (c:w.heap[b]? =some (.cells cs.toArray T (0,0))) (e:cs.length=n *sz):bL sz w ⟨some (aj b),n,n⟩ cs:=
 ⟨e,bB _,⟨λc=>(by cases c),λi v d=>⟨aj b,rfl,cellAt (p:=aj b) c rfl (by simpa using d)⟩⟩⟩
def Fj {w:I} {a b:Nd} (Y:a.P w) (Z:b.P w) (S:a.x.kids.length<=dQ):ai U xi #[a.v,b.v] w λr w'=>r=V (.bool (ah (a.x=b.x)))/\ao w w':=by
 have T:LH F0 w w [] [cc a,cc b]:=bZ _ (by
  intro ab Q;simp only [aB,a1,a7] at Q;rcases Q with rfl|rfl
  .exact Y
  .exact Z)
 obtain ⟨⟨G,B,E,m,M,J,st⟩,sl⟩:=a;obtain ⟨⟨H,C,F,D,N,K,y⟩,aa⟩:=b;have no:∀{O:I} {L:List En},LH F0 w O L [cc ⟨⟨G,B,E,m,M,J,st⟩,sl⟩,cc ⟨⟨H,C,F,D,N,K,y⟩,aa⟩]->(⟨G,B,E,m,M,J,st⟩:Nx)≠⟨H,C,F,D,N,K,y⟩->(Ending.returned (.bool false)=V (.bool (ah ((⟨G,B,E,m,M,J,st⟩:Nx)=⟨H,C,F,D,N,K,y⟩)))/\ao w O):=λz c=>⟨by rw [a0 c],z.fr⟩;refine G4.aD _ _ _ _ _ _ _ _ _ _ _ _ _ _ _ _ _ _ w _ (T.aL λb2 O z=>z.aL λb3 w2 d=>?_);refine aO (λe=>?_) (λe=>no d (λc=>e (congrArg Nx.op c)));refine aO (λh=>?_) (λh=>no d (λc=>h (congrArg Nx.n c)));refine aO (λj=>?_) (λj=>no d (λc=>j (congrArg Nx.m c)));refine aO (λk=>?_) (λk=>no d (λc=>k (congrArg Nx.u c)));refine DF (λq=>?_) (λq=>no d (λc=>q (congrArg Nx.tx c)));refine lF (a:=st) (b:=y) (λA=>?_) (λA=>no d (λc=>A (congrArg Nx.st c)));refine d.aA (TU (d.getD 0) (d.getD 1) (by unfold dQ at S;simp only at S ⊢;omega)) ?_;rintro _ w3 rfl W;refine ⟨_,rfl,?_,W.fr⟩;simp only at e h j k q;subst e h j k q A;simp
def H' {g:List Nx} {n:Nx} {s:bq} (c:bU g n=(s,0)):bU g (eS n s)=(s,0):=by
 unfold bU at c;unfold bU;have j:(cM (eS n s).op==((eS n s).kids.length:Int)&&(eS n s).kids.all (fc g)&&iN (eS n s))=(cM n.op==(n.kids.length:Int)&&n.kids.all (fc g)&&iN n):=rfl;rw [j];split at c
 .simp at c
 .rename_i k;rw [af k];have h:(eS n s).op=n.op:=rfl;rw [h];split at c
  .rename_i e;rw [aq e];unfold cy at c;by_cases d:n.op=2
   .rw [aq d] at c;unfold cy;rw [h,aq d];exact c
   .rw [af d] at c;have q:s=n.st:=by
     split at c
     .simp at c
     .split at c
      .simp at c
      .split at c
       .simp at c
       .split at c
        .simp at c
        .split at c
         .simp at c
         .exact (congrArg Prod.fst c).symm
    have:eS n s=n:=by rw [q];rfl
    rw [this];unfold cy;rw [af d];exact c
  .rename_i e;rw [af e];exact c
def lr (g:List Nx) (n:Nx):Option Nat:=eB (if (bU g n).2=0 then eS n (bU g n).1 else n) g 0
def x9:Option Nat->Int
 |some i=>(i:Int)
 |none=>-1
def Ff {w:I} {s:O} {l:List Nd} {d:Nd} (S:GP w s l) (hd:d.P w) (T:ss (xs l)) (ho:mR d.x) (aa:∀e∈l,e.x.kids.length<=dQ):
  ai U xf #[s.v,d.v] w λr J=>r=V (.i (x9 (lr (xs l) d.x)))/\ao w J:=by
 have hn:=fu S;have ab:(xs l).length=l.length:=by simp [xs]
 have W:=T.len;rw [ab] at W;unfold dQ at W;have loop:∀(m i:Nat) (c:Nat) (q:I) (e:Nd) (L:List En),e.ks=d.ks->e.x.kids=d.x.kids->i+m=l.length->eB e.x ((xs l).drop i) i=lr (xs l) d.x->En.g c∈L->LH F0 w q L (kM s l d)->
   tf.b6 s c e.x.op e.ks e.x.n e.x.m e.x.u e.x.tx e.x.st.k e.x.st.n e.x.st.x (i:Int) q λr J=>r=V (.i (x9 (lr (xs l) d.x)))/\ao w J:=by
  intro m;induction m with
  |zero=>
   intro i c q e L F G hi y E j;rw [dt (by omega)] at y;exact tf.eV _ _ _ _ _ _ _ _ _ _ _ _ _ _ (a9 (a0 (by omega)) ⟨by rw [<-y];rfl,j.fr⟩)
  |succ m ih=>
   intro i c q e L F G hi y E j;have z:l[i]? =some (l[i]'(by omega)):=bc (by omega);have hx:(xs l).drop i=(l[i]'(by omega)).x::(xs l).drop (i+1):=by rw [dq (by omega:i<(xs l).length)];simp [xs]
   rw [hx] at y;generalize l[i]'(by omega)=a at z y;have Z:∀b∈[c],En.g b∈L:=by simpa using E
   refine tf.eV _ _ _ _ _ _ _ _ _ _ _ _ _ _ (bd (aW (by omega)) (fa (be.1 (j.getD 0)) rfl z λp hp _=>j.au (λK C=>?_) Z));have M:GP K s l:=be.1 (C.getD 0);have h:=rl M z hp (rfl:((i:Int))=(i:Int));have pe:e.P K:=by show bS K e.ks e.x.kids;rw [F,G];exact C.getD 1
   refine ⟨_,_,_,_,_,_,_,_,_,h.c0,h.c1,h.c2,h.c3,h.c4,h.c5,h.c6,h.c7,h.c8,C.aA (Fj (a:=a) (b:=e) (M.2 a (aI z)) pe (aa a (aI z))) ?_⟩;rintro _ w6 rfl Q;have A:(if a.x=e.x then some i else eB e.x ((xs l).drop (i+1)) (i+1))=lr (xs l) d.x:=y;refine ⟨_,rfl,aR (λH=>⟨?_,Q.fr⟩) (λH=>?_)⟩
   .rw [aq H] at A;rw [<-A];rfl
   .rw [af H] at A;rw [bw _ (by omega)];exact ih (i+1) c w6 e L F G (by omega) A E Q
 refine tf.aD _ _ _ _ _ _ _ _ _ _ w _ ((tG S hd).aL λc w1 B=>B.aA (vU (be.1 (B.getD 0)) (B.getD 1) T ho) ?_);rintro _ w2 rfl Y;refine ⟨_,_,_,_,rfl,Y.aL λb5 w3 N=>aO (λD=>N.au λq j=>?_) (λD=>N.au λq j=>?_)⟩
 .exact loop l.length 0 c q ⟨eS d.x (bU (xs l) d.x).1,d.ks⟩ _ rfl rfl (by omega) (by unfold lr;rw [aq D];rfl) (by simp) j
 .exact loop l.length 0 c q d _ rfl rfl (by omega) (by unfold lr;rw [af D];rfl) (by simp) j
structure GR (w:I) (B:Nat->Prop) (g:List Nx) (s:O) (w':I):Prop where
 ex:∃l':List Nd,xs l'=g/\GP w' s l'/\∀b∈(En.gr s l').fp,B b\/w.heap.size<=b
def GR.nil (w:I) (B:Nat->Prop) (w':I):GR w B [] ⟨none,0,0⟩ w':=⟨⟨[],rfl,⟨bL.nil 9 w',by simp⟩,λb d=>by
 rcases j7.1 d with c|⟨h,e,_⟩
 .cases c
 .cases e⟩⟩
def Oh {w:I} {s:O} {l:List Nd} {d:Nd} (Z:GP w s l) (hd:d.P w) (M:ss (xs l)) (D:mR d.x) (ag:∀h∈l,h.x.kids.length<=dQ):
  ai U BG #[s.v,d.v] w λr w'=>(∃s':O,r=V (.tuple #[s'.v,.i (eo (xs l) d.x).2.1,.i (eo (xs l) d.x).2.2])/\GR w (λb=>b∈(En.gr s l).fp\/b∈(cc d).fp) (eo (xs l) d.x).1 s' w')/\ao w w':=by
 have hn:=fu Z;have aa:(xs l).length=l.length:=by simp [xs]
 refine G0.aD _ _ _ _ _ _ _ _ _ _ w _ ((tG Z hd).aL λb3 w1 H=>H.aA (vU (be.1 (H.getD 0)) (H.getD 1) M D) ?_);rintro _ w2 rfl H2;refine ⟨_,_,_,_,rfl,H2.aL λb7 w3 Y=>dG (λG=>Y.au λw4 A=>⟨⟨⟨none,0,0⟩,?_,?_⟩,A.fr⟩) (λG=>Y.au λw4 A=>?_)⟩
 .unfold eo;rw [aq G]
 .unfold eo;rw [aq G];exact GR.nil _ _ _
 have hs:bU (xs l) d.x=((bU (xs l) d.x).1,0):=by rw [<-G]
 have am:=H' hs;have ah:lr (xs l) (eS d.x (bU (xs l) d.x).1)=eB (eS d.x (bU (xs l) d.x).1) (xs l) 0:=by unfold lr;rw [am];rfl
 have e:eo (xs l) d.x=match eB (eS d.x (bU (xs l) d.x).1) (xs l) 0 with
   |some i=>(xs l,(i:Int),0)
   |none=>if 4096<=(xs l).length then ([],0,4) else (xs l++[eS d.x (bU (xs l) d.x).1],((xs l).length:Int),0):=by unfold eo;rw [af (by omega)];try rfl
 generalize an:(bU (xs l) d.x).1=sr at *
 let h:Nd:=⟨eS d.x sr,d.ks⟩
 have ak:mR h.x:=⟨D.kl,D.n,D.m,D.tx⟩;refine A.aA (Ff (d:=h) (be.1 (A.getD 0)) (A.getD 1) M ak ag) ?_;rintro _ w5 rfl B;rw [show lr (xs l) h.x=eB (eS d.x sr) (xs l) 0 from ah];refine ⟨_,rfl,?_⟩;cases hi:eB (eS d.x sr) (xs l) 0 with
 |some i=>
  rw [hi] at e;rw [e];exact bd (aW (Int.natCast_nonneg i)) ⟨⟨s,rfl,⟨l,rfl,be.1 (B.getD 0),λb z=>.inl (.inl z)⟩⟩,B.fr⟩
 |none=>
  rw [hi] at e;dsimp only at e;refine a9 (by decide) ?_;refine aR (λh4=>⟨⟨⟨none,0,0⟩,?_,?_⟩,B.fr⟩) (λh4=>?_)
  .rw [e,aq (by omega)]
  .rw [e,aq (by omega)];exact GR.nil _ _ _
  rw [af (by omega)] at e;rw [e];have K:∀{k:I} {L:List En},LH F0 w k L (kM s l d)->bL 9 k s (l.flatMap Nd.c):=λad=>(be.1 (ad.getD 0)).1;have fin:∀(s':O) (k:I) (L:List En) (j:Nat),LH F0 w k L (kM s l d)->L[j]? =some (.row bC 9 s' (l.flatMap Nd.c++h.c))->
    (∃ac:O,Ending.returned (.tuple #[s'.v,.i ((s.n:Nat):Int),.i 0])=V (.tuple #[ac.v,.i ((xs l).length:Int),.i 0])/\GR w (λb=>b∈(En.gr s l).fp\/b∈(cc d).fp) (xs l++[eS d.x sr]) ac k)/\ao w k:=by
   intro s' k L j q hj;have al:bL 9 k s' ((l++[h]).flatMap Nd.c):=by have:aS k bC 9 s' (l.flatMap Nd.c++h.c):=q.get j hj;have:=this.bz;simpa using this
   refine ⟨⟨s',by rw [aa,hn],⟨l++[h],by simp [xs,h],⟨al,λa e=>?_⟩,λb z=>?_⟩⟩,q.fr⟩
   .rcases a5.1 e with e|e
    .exact (be.1 (q.getD 0)).2 a e
    .simp only [aB,a1,a7] at e;subst e;exact q.getD 1
   .rcases j7.1 z with z|⟨a,e,z⟩
    .right;have ae:b∈(En.row bC 9 s' (l.flatMap Nd.c++h.c)).fp:=by
      have:b∈(if (l++[h]).flatMap Nd.c=[] then [] else ay s'):=z;split at this
      .cases this
      .exact this
     exact (q.new _ (aI hj) b ae).resolve_right id
    .rcases a5.1 e with e|e
     .exact .inl (.inl (j7.2 (.inr ⟨a,e,z⟩)))
     .simp only [aB,a1,a7] at e;subst e;exact .inl (.inr z)
  have ab:∀N∈h.c,N.oneCell'=true:=λN hu=>oo (l:=[h]) N (by simpa using hu);have hl:=M.len;rw [aa] at hl;unfold dQ at hl;refine ⟨B.au λk q=>q.eb (n:=0) (sz:=9) (cs:=[]) rfl (by decide) λS C=>⟨?_,?_⟩,B.au λk q=>q.nw λS _ C=>C.eb (n:=0) (sz:=9) (cs:=[]) rfl (by decide) λw8 y=>?_⟩
  .refine C.j0 2 kE (s:=⟨some (aj k.heap.size),0,0⟩) (src:=s) rfl (K C) oo (by simp only;omega) (λs1 w8 y=>?_);have E:=(y.get 2:aS _ _ _ _ _).len;rw [hV,Nd.gl] at E;refine y.i5 2 kE rfl (λF W u=>?_) (by omega);exact fin F W _ 2 u rfl
  .refine C.nw λw8 _ y=>?_;refine y.j0 2 kE (s:=⟨some (aj k.heap.size),0,0⟩) (src:=s) rfl (K y) oo (by simp only;omega) (λs1 W u=>?_);have E:=(u.get 2:aS _ _ _ _ _).len;rw [hV,Nd.gl] at E;refine u.j0 2 kE (src:=⟨some (aj S.heap.size),1,1⟩) rfl (vS (cs:=h.c) (T:=bC) (u.ob 3) rfl) ab (by simp only;omega) (λF Q J=>?_);exact fin F Q _ 2 J rfl
  .refine y.j0 3 kE (s:=⟨some (aj S.heap.size),0,0⟩) (src:=s) rfl (K y) oo (by simp only;omega) (λs1 W u=>?_);have E:=(u.get 3:aS _ _ _ _ _).len;rw [hV,Nd.gl] at E;refine u.j0 3 kE (src:=⟨some (aj k.heap.size),1,1⟩) rfl (vS (cs:=h.c) (T:=bC) (u.ob 2) rfl) ab (by simp only;omega) (λF Q J=>?_);exact fin F Q _ 3 J rfl
def iL (n m:Int) (w:I) (e:1<=m) (c:cp n):ai U gL #[.i n,.i m] w λr d=>r=V (.i (fS n m))/\ao w d:=(E1 n m w e c).mono λr d c=>⟨c.1,c.2▸Fr.refl _ _⟩
def qj (t:List UInt8) (s:bq):Nx:=⟨0,[],0,0,0,ba t,s⟩
def kX (t:List UInt8) (s:bq):Nd:=⟨qj t s,⟨none,0,0⟩⟩
def oH:List Nd:=[kX [97] (bI 2),kX [98] (bI 2),kX [99] (bI 1),kX [100] (bI 3)]
def oI:List Nd:=[kX [109] ⟨2,2,1⟩,kX [110] ⟨2,2,1⟩]
def lI:List Nd:=[kX [115] (eH 2),kX [116] (eH 1),kX [105] (bI 7),kX [122] ⟨3,1,1⟩]
def gj (kind:Int):List Nd:=oH++(if kind>0 then oI else [])++(if kind>1 then lI else [])
def U9 (l:List Nx):Bool:=(List.range l.length).all λi=>match l[i]? with
 |some c=>ah (bU (l.take i) c=(c.st,0))&&ah (c∉l.take i)
 |none=>false
def yT {l:List Nx} (e:U9 l=true):Vg l:=by
 have main:∀i,i<=l.length->Vg (l.take i):=by
  intro i;induction i with
  |zero=>intro _;rw [List.take_zero];exact .nil
  |succ i h=>
   intro j;have c:=f'.1 e i (List.mem_range.2 (by omega));have d:l[i]? =some (l[i]'(by omega)):=bc (by omega);rw [d] at c;dsimp only at c;rw [gC,d];simp only [bn,decide_eq_true_eq] at c;exact .snoc (h (by omega)) c.1 c.2
 have:=main l.length (bB _)
 rwa [List.take_length] at this
def Uo (kind:Int):Vg (xs (gj kind)):=by
 unfold gj;split
 .split
  .exact yT (by kernel_rfl)
  .exact yT (by kernel_rfl)
 .split
  .exact yT (by kernel_rfl)
  .exact yT (by kernel_rfl)
structure MdN (d:Nx):Prop where
 CQ:-1<=d.op
 CR:d.op<=34
 kl:d.kids.length<=3
 n:0<=d.n/\d.n<=100
 m:0<=d.m/\d.m<=100
 u:0<=d.u/\d.u<=1000
 tx:d.op≠33->d.tx.size<=16
 re:d.op=33->∃k,d.tx=ba (kT k)
structure iD (g:List Nx):Prop where
 vg:Vg g
 nd:∀d∈g,MdN d
def Un (kind:Int):iD (xs (gj kind)):=by
 refine ⟨Uo kind,λe j=>?_⟩;have d:∃t s,e=qj t s/\t.length<=16:=by
  have h:e∈xs (oH++oI++lI):=by
   obtain ⟨a,c,rfl⟩:=cQ.1 j;refine cQ.2 ⟨a,?_,rfl⟩;unfold gj at c;rcases a5.1 c with c|c
   .rcases a5.1 c with c|c
    .simp [c]
    .split at c
     .simp [c]
     .cases c
   .split at c
    .simp [c]
    .cases c
  simp only [xs,oH,oI,lI,kX,nq,hV,kf,List.map_nil,aB,a1,a7] at h;rcases h with rfl|rfl|rfl|rfl|rfl|rfl|rfl|rfl|rfl|rfl<;>exact ⟨_,_,rfl,by decide⟩
 obtain ⟨t,s,rfl,k⟩:=d;exact ⟨by show (-1:Int)<=0;omega,by show (0:Int)<=34;omega,by simp [qj],by simp [qj],by simp [qj],by simp [qj],λ_=>by show (ba t).size<=16;rw [cT];exact k,λd=>by cases d⟩
def K0 {kind:Int}:∀d∈gj kind,d.x.kids=[]/\d.ks=⟨none,0,0⟩:=by
 intro d h;have e:d∈oH++oI++lI:=by
  unfold gj at h;rcases a5.1 h with c|c
  .rcases a5.1 c with c|c
   .simp [c]
   .split at c
    .simp [c]
    .cases c
  .split at c
   .simp [c]
   .cases c
 simp only [oH,oI,lI,kX,qj,nq,hV,aB,a1,a7] at e;rcases e with rfl|rfl|rfl|rfl|rfl|rfl|rfl|rfl|rfl|rfl<;>exact ⟨rfl,rfl⟩
def Ul {kind:Int} {w w0:I} {s:O} (n:bL 9 w s ((gj kind).flatMap Nd.c)) (q:∀b∈ay s,w0.heap.size<=b):GR w0 F0 (xs (gj kind)) s w:=by
 refine ⟨gj kind,rfl,⟨n,λe j=>?_⟩,λb d=>.inr ?_⟩
 .obtain ⟨h,k⟩:=K0 e j;show bS w e.ks e.x.kids;rw [h,k];exact Rd.nil w
 .rcases j7.1 d with d|⟨e,j,d⟩
  .exact uB q b d
  .obtain ⟨h,k⟩:=K0 e j;unfold cc at d;rw [h] at d;cases d
def Um (kind:Int):1<=(gj kind).length/\(gj kind).length<=10:=by unfold gj;split<;>split<;>decide
def Ov (kind:Int) (w:I):ai U BQ #[.i kind] w λr u=>(∃s:O,r=V s.v/\GR w F0 (xs (gj kind)) s u)/\ao w u:=by
 refine As.ok kind w _ ((bZ [] (by simp)).call (e7 2 w) ?_);rintro _ w1 rfl M;refine ⟨_,_,_,rfl,M.call (e7 2 w1) ?_⟩;rintro _ w2 rfl P;refine ⟨_,_,_,rfl,P.call (e7 1 w2) ?_⟩;rintro _ w3 rfl Q;refine ⟨_,_,_,rfl,Q.call (e7 3 w3) ?_⟩;rintro _ K rfl S;refine ⟨_,_,_,rfl,S.eb (n:=4) (sz:=9) (cs:=oH.flatMap Nd.c) rfl (by decide) λE G=>?_⟩;have fin:∀(l:O) (d:I) (L:List En) (j:Nat),LH F0 w d L []->L[j]? =some (.row bC 9 l ((gj kind).flatMap Nd.c))->(∃s:O,Ending.returned l.v=V s.v/\GR w F0 (xs (gj kind)) s d)/\ao w d:=λl d L j e h=>
  ⟨⟨l,rfl,Ul (e.get j h:aS _ _ _ _ _).bz λb Y=>(e.new _ (aI h) b Y).resolve_right id⟩,e.fr⟩
 have H:∀(l:O) (d:I) (L:List En) (j:Nat) (k:List Nd),LH F0 w d L []->k.length<=6->gj kind=k++(if kind>1 then lI else [])->L[j]? =some (.row bC 9 l (k.flatMap Nd.c))->As.S0 kind l d λr u=>(∃s:O,r=V s.v/\GR w F0 (xs (gj kind)) s u)/\ao w u:=by
  intro l d L j k e ac y h;refine aR (λC=>?_) (λC=>?_)
  .rw [aq C] at y;refine e.call (mW 2 d) ?_;rintro _ F rfl A;refine ⟨_,_,_,rfl,A.call (mW 1 F) ?_⟩;rintro _ w8 rfl T;refine ⟨_,_,_,rfl,T.call (e7 7 w8) ?_⟩;rintro _ x rfl W;refine ⟨_,_,_,rfl,W.eb (n:=4) (sz:=9) (cs:=lI.flatMap Nd.c) rfl (by decide) λaa z=>?_⟩;have J:(L++[En.row bC 9 ⟨some (aj x.heap.size),4,4⟩ (lI.flatMap Nd.c)])[j]? =some (.row bC 9 l (k.flatMap Nd.c)):=by rw [List.getElem?_append_left (cD.1 h).1];exact h
   have Z:(L++[En.row bC 9 ⟨some (aj x.heap.size),4,4⟩ (lI.flatMap Nd.c)])[L.length]? =some (.row bC 9 ⟨some (aj x.heap.size),4,4⟩ (lI.flatMap Nd.c)):=by simp
   have hn:l.n=k.length:=by have:=(z.get j J:aS _ _ _ _ _).len;rw [Nd.gl] at this;omega
   have q:bL 9 aa ⟨some (aj x.heap.size),4,4⟩ (lI.flatMap Nd.c):=(z.get L.length Z:aS _ _ _ _ _).bz;refine z.ap j kE (src:=⟨some (aj x.heap.size),4,4⟩) J q.2.2 q.1 oo (by simp only;omega) (λD ab N _ _=>?_);refine fin D ab _ j N ?_;rw [List.getElem?_set_self (by simp;have:=(cD.1 h).1;omega),y,dh]
  .rw [af C,fI] at y;rw [<-y] at h;exact fin l d L j e h
 refine aR (λB=>G.eb (n:=2) (sz:=9) (cs:=oI.flatMap Nd.c) rfl (by decide) λd e=>?_) (λB=>?_)
 .have q:bL 9 d ⟨some (aj E.heap.size),2,2⟩ (oI.flatMap Nd.c):=(e.get 1:aS _ _ _ _ _).bz;refine e.ap 0 kE (s:=⟨some (aj K.heap.size),4,4⟩) (src:=⟨some (aj E.heap.size),2,2⟩) rfl q.2.2 q.1 oo (by show (4+2) *96<=_;omega) (λD F A _ _=>?_);refine H D F _ 0 (oH++oI) A (by decide) ?_ ?_
  .unfold gj;rw [aq B]
  .rw [dh];rfl
 .refine H ⟨some (aj K.heap.size),4,4⟩ E _ 0 oH G (by decide) ?_ rfl;unfold gj;rw [af B,fI]
def OA (kind:Int) (s:bq) (w:I):ai U BS #[.i kind,dx s] w λr e=>(∃b:Bool,r=V (.bool b))/\ao w e:=
 G7.aD _ _ _ _ w _ ((bZ [] (by simp)).aL λb h d=>aO (λc=>⟨⟨_,rfl⟩,d.fr⟩) (λc=>aR (λc=>aO (λc=>⟨⟨_,rfl⟩,d.fr⟩) (λc=>⟨⟨_,rfl⟩,d.fr⟩)) (λc=>⟨⟨_,rfl⟩,d.fr⟩)))
def FL {w:I} {s:O} {l:List Nd} (A:GP w s l) (G:∀(i:Nat) (d:Nd),l[i]? =some d->d.x.kids.length<=1000000/\∀h∈d.x.kids,0<=h/\h<(i:Int)):∀(n i:Nat),i<n->i<l.length->∀u,ao w u->ai U xl #[s.v,.i (i:Int)] u λr D=>(∃z:Int,r=V (.i z))/\ao w D
 |0,i,F,_,_,_=>absurd F (by omega)
 |n+1,i,F,C,u,L=>by
  have q:∀{c:I},ao w c->GP c s l:=λf=>⟨A.1.bA f,λd P=>(cc d).st w _ (λb hb S=>f.ck b S id) (A.2 d P)⟩;have k:l[i]? =some (l[i]'C):=bc C;generalize l[i]'C=d at k;obtain ⟨k1,Z⟩:=G i d k;have loop:∀(m j:Nat) (z:Int) (c:I),j+m=d.x.kids.length->ao w c->q8.L0 s (i:Int) z (j:Int) c λr D=>(∃z:Int,r=V (.i z))/\ao w D:=by
   intro m;induction m with
   |zero=>
    intro j z c Q e;have T:d.ks.n=d.x.kids.length:=bS.len ((q e).2 d (aI k));exact q8.b5 _ _ _ _ _ _ (fa (q e) rfl k λp W y=>⟨_,y.c1,a9 (a0 (by omega)) ⟨⟨_,rfl⟩,e⟩⟩)
   |succ m Y=>
    intro j z c Q e;have E:bS c d.ks d.x.kids:=(q e).2 d (aI k);have T:=bS.len E;have B:d.x.kids[j]? =some (d.x.kids[j]'(by omega)):=bc (by omega);generalize d.x.kids[j]'(by omega)=h at B;have aa:=Z h (aI B);refine q8.b5 _ _ _ _ _ _ (fa (q e) rfl k λp W y=>⟨_,y.c1,bd (aW (by omega)) (fa (q e) rfl k λp' ac J=>⟨_,J.c1,by omega,by omega,E.cell B (by omega) λad hq N=>⟨h,N,?_⟩⟩)⟩);have K:h=((h.toNat:Nat):Int):=by omega
    rw [K];refine (FL A G n h.toNat (by omega) (by omega) c e).mono ?_;rintro _ H ⟨⟨z3,rfl⟩,M⟩;refine ⟨_,rfl,?_⟩;show q8.L0 s (i:Int) _ (ab .i64 ((j:Int)+1)) H _;rw [bw _ (by omega)];exact Y (j+1) _ H (by omega) M
  exact q8.ok _ _ u _ (loop d.x.kids.length 0 1 u (by omega) L)
set_option maxHeartbeats 2000000
def Vl {P:aM} {n:Cx} {c:Code} {Q:Exit->Act->I->Prop} {E E':Env} {w:I} (e:∀t v,E'.get? t=some v->E.get? t=some v) (j:WP P n c Q E' w):WP P n c Q E w:=λa d=>j a ⟨d.defers,d.size,λt v h=>d.get t v (e t v h)⟩
def Uv {E:Env} {i j:Nat} {a b:ae} (h:E.get? i=some a) (k:E.get? j=some b):∀t v,Env.get? [(i,a),(j,b)] t=some v->E.get? t=some v:=by
 intro t v c;unfold Env.get? at c;cases d:cm i t with
 |true=>
  rw [d] at c;have:=Nat.eq_of_beq_eq_true d;subst this;rw [h];exact c
 |false=>
  rw [d] at c;have c:Env.get? [(j,b)] t=some v:=c;unfold Env.get? at c;cases e:cm j t with
  |true=>
   rw [e] at c;have:=Nat.eq_of_beq_eq_true e;subst this;rw [k];exact c
  |false=>rw [e] at c;cases c
namespace s5
abbrev T9 (s:O) (k:Int) (w:I) (R:aa):Prop:=
 (0:Int)<=(dP (ab .i64 (cz k 216)) 8)/\(dP (ab .i64 (cz k 216)) 8)<((s.n:Nat):Int)/\ct s.a λp=>aV w (p.add (ag (dP (ab .i64 (cz k 216)) 8) *4)) λa b c d=>k' pC #[.agg #[.i a,.int .u8 b,.int .u8 c,d.v]] w λe f g i h=>qQ jg #[.agg #[.i e,.int .u8 f,.int .u8 g,i.v],.i 0] h λt j=>R (V (.string t)) j
def K9 (R:aa) (E:Env) (w:I):Prop:=∃(s:O) (k:Int),E.get? 9=some s.v/\E.get? 3=some (.i k)/\T9 s k w R
noncomputable def C0:Code:=(Tryz.f44.body).getD .skip
noncomputable def C1:=C0.sn
noncomputable def C2:=C1.sn
noncomputable def C3:=C2.sn
noncomputable def C4:=C3.sn
noncomputable def C5:=C4.sn
noncomputable def C6:=C5.sn
noncomputable def C7:=C6.sn
noncomputable def C8:=C7.sn
noncomputable def C9:=C8.sn
def ok (h:Int) (w:I) (R:aa) (x:di gL #[.i h,.i 1048576] w λt11 w1=>k' mg #[] w1 λz A B C e=>aN e (.cells #[.i 2,.int .u8 97,.int .u8 97,.slice none 0 0,.i 2,.int .u8 98,.int .u8 98,.slice none 0 0,.i 2,.int .u8 0,.int .u8 0,.slice none 0 0,.i 2,.int .u8 97,.int .u8 98,.slice none 0 0,.i 1,.int .u8 0,.int .u8 0,.slice none 0 0,.i z,.int .u8 A,.int .u8 B,C.v] aF) λn=>
 (0:Int)<=(dP t11 6)/\(dP t11 6)<((6:Nat):Int)/\ct (some (nb e)) λD=>aV n (D.add (ag (dP t11 6) *4)) λF G H J=>aN n (.cells #[.i 0,.int .u8 0,.int .u8 0,.slice none 0 0] aF) λw4=>
 cJ w4 (nb n) (.i F) (.int .u8 G) (.int .u8 H) (J.v) λu=>(0:Int)<=(dP (ab .i64 (cz t11 6)) 6)/\(dP (ab .i64 (cz t11 6)) 6)<((6:Nat):Int)/\ct (some (nb e)) λK=>aV u (K.add (ag (dP (ab .i64 (cz t11 6)) 6) *4)) λL M N O=>aN u (.cells #[.i 0,.int .u8 0,.int .u8 0,.slice none 0 0] aF) λw9=>
 cJ w9 (nb u) (.i L) (.int .u8 M) (.int .u8 N) (O.v) λq=>(0:Int)<=(dP (ab .i64 (cz t11 36)) 6)/\(dP (ab .i64 (cz t11 36)) 6)<((6:Nat):Int)/\ct (some (nb e)) λP=>aV q (P.add (ag (dP (ab .i64 (cz t11 36)) 6) *4)) λQ S T W=>aN q (.cells #[.i 0,.int .u8 0,.int .u8 0,.slice none 0 0] aF) λae=>
 cJ ae (nb q) (.i Q) (.int .u8 S) (.int .u8 T) (W.v) λj=>aV j (nb n) λY Z ac ad=>aN j (.cells #[.i Y,.int .u8 Z,.int .u8 ac,ad.v] aF) λy=>
 aN y (.cells #[.i 0,.int .u8 0,.int .u8 0,.slice none 0 0] aF) λaf=>
 cJ af (nb y) (.i 7) (.int .u8 0) (.int .u8 0) (.slice (some (nb j)) 1 1) λah=>uR U C7 (K9 R) [(8,.pointer (some (nb y))),(38,.agg #[.i 7,.int .u8 0,.int .u8 0,.slice (some (nb j)) 1 1]),(37,.slice (some (nb j)) 1 1),(36,.agg #[.i Y,.int .u8 Z,.int .u8 ac,ad.v]),(7,.pointer (some (nb q))),(35,.agg #[.i Q,.int .u8 S,.int .u8 T,W.v]),(34,.pointer (some (P.add (ag (dP (ab .i64 (cz t11 36)) 6) *4)))),(33,.i (dP (ab .i64 (cz t11 36)) 6)),(32,.i (ab .i64 (cz t11 36))),(31,.i t11),(30,.slice (some (nb e)) 6 6),(6,.pointer (some (nb u))),(29,.agg #[.i L,.int .u8 M,.int .u8 N,O.v]),(28,.pointer (some (K.add (ag (dP (ab .i64 (cz t11 6)) 6) *4)))),(27,.i (dP (ab .i64 (cz t11 6)) 6)),(26,.i (ab .i64 (cz t11 6))),(25,.i t11),(24,.slice (some (nb e)) 6 6),(5,.pointer (some (nb n))),(23,.agg #[.i F,.int .u8 G,.int .u8 H,J.v]),(22,.pointer (some (D.add (ag (dP t11 6) *4)))),(21,.i (dP t11 6)),(20,.i t11),(19,.slice (some (nb e)) 6 6),(4,.slice (some (nb e)) 6 6),(18,.slice (some (nb e)) 6 6),(17,.agg #[.i z,.int .u8 A,.int .u8 B,C.v]),(16,.agg #[.i 1,.int .u8 0,.int .u8 0,.slice none 0 0]),(15,.agg #[.i 2,.int .u8 97,.int .u8 98,.slice none 0 0]),(14,.agg #[.i 2,.int .u8 0,.int .u8 0,.slice none 0 0]),(13,.agg #[.i 2,.int .u8 98,.int .u8 98,.slice none 0 0]),(12,.agg #[.i 2,.int .u8 97,.int .u8 97,.slice none 0 0]),(3,.i t11),(11,.i t11),(10,.i h),(2,.s0),(0,.i h)] ah):ai U Bx #[.i h] w R:=
 sQ (R:=R) (fn:=Tryz.f44) (c:=C0) (args:=[.i h]) (by kernel_rfl) (by kernel_rfl) (by kernel_rfl) (sr C0 (show (λ(E:Env) (w:I)=>dN U C0 (λE w=>dN U C1 (λE w=>dN U C2 (λE w=>dN U C3 (λE w=>dN U C4 (λE w=>dN U C5 (λE w=>dN U C6 (λE w=>uR U C7 (K9 R) E w) E w) E w) E w) E w) E w) E w) E w) (ja 0 [.i h]) w from mp x) λ_ _ d=>(sr C1 d λ_ _ d=>(sr C2 d λ_ _ d=>(sr C3 d λ_ _ d=>(sr C4 d λ_ _ d=>(sr C5 d λ_ _ d=>(sr C6 d λ_ _ d=>(si C7 (by kernel_rfl) d λ_ _ d=>(let ⟨s,k,h9,h3,x⟩:=d;Vl (E':=[(9,s.v),(3,.i k)]) (Uv h9 h3) (sr C8 (show dN U C8 (λE w=>jU U Tryz.f44 E w (λv=>R (V v) w)) [(9,s.v),(3,.i k)] _ from mp x) λ_ _ d=>(rt C9 λa hA=>rU hA d)))))))))))
end s5
inductive sF where
 |tr (x:Rx)
 |ls (l:List Rx)
def tA (base:Nat) (w:I) (v:Option ae):sF->Prop
 |.tr c=>∃t:J,v=some t.v/\t.rx=c/\t.P w/\∀b∈t.fp,base<=b
 |.ls l=>∃(s:O) (ts:List J),v=some s.v/\J.ax ts=l/\(bO s ts).P w/\∀b∈(bO s ts).fp,base<=b
def tA.bA {base:Nat} {w w':I} {v:Option ae} {j:sF} (k:tA base w v j) (f:ao w w'):tA base w' v j:=by
 cases j with
 |tr q=>obtain ⟨t,c,d,e,h⟩:=k;exact ⟨t,c,d,e.bA f,h⟩
 |ls l=>obtain ⟨s,n,c,d,e,h⟩:=k;exact ⟨s,n,c,d,e.bA f,h⟩
def da (i:Nat):Nat:=if i=40 then 9 else 39+i
def i4 (base:Nat) (w:I) (E:Env) (t:Nat) (x:Rx):Prop:=∃(b:Nat) (u:J),E.get? t=some (.pointer (some (aj b)))/\w.heap[b]? =some (.cells u.c.toArray aF (0,0))/\u.rx=x/\u.P w/\∀d∈u.fp,base<=d
def i4.bA {base:Nat} {w w':I} {E:Env} {t:Nat} {x:Rx} (d:i4 base w E t x) (f:ao w w'):i4 base w' E t x:=by obtain ⟨b,n,e,c,h,j,k⟩:=d;exact ⟨b,n,e,(f.ck b (iK c) id).trans c,h,j.bA f,k⟩
def i4.put {base:Nat} {w:I} {E:Env} {t d:Nat} {v:ae} {x:Rx} (c:i4 base w E t x) (j:d≠t):i4 base w (E.put (some d) v) t x:=by obtain ⟨b,k,e,h⟩:=c;exact ⟨b,k,by rw [im j];exact e,h⟩
section
variable (w0:I) (base:Nat) (kk:Int) (Xa Xb Xc Xs:Rx)
def du:List sF:=[.tr Xa,
 .tr Xa,
 .tr Xb,
 .ls [Xa,Xb],
 .tr (.mk 3 0 0 [Xa,Xb]),
 .tr Xa,
 .tr Xb,
 .tr Xc,
 .ls [Xa,Xb,Xc],
 .tr (.mk 4 0 0 [Xa,Xb,Xc]),
 .tr Xs,
 .tr Xs,
 .tr Xb,
 .ls [Xs,Xb],
 .tr (.mk 3 0 0 [Xs,Xb]),
 .tr Xa,
 .tr Xb,
 .ls [Xa,Xb],
 .tr (.mk 3 0 0 [Xa,Xb]),
 .ls [(.mk 3 0 0 [Xa,Xb])],
 .tr (.mk 6 0 0 [(.mk 3 0 0 [Xa,Xb])]),
 .tr Xb,
 .tr Xa,
 .tr Xc,
 .ls [Xa,Xc],
 .tr (.mk 4 0 0 [Xa,Xc]),
 .ls [(.mk 4 0 0 [Xa,Xc])],
 .tr (.mk 7 0 0 [(.mk 4 0 0 [Xa,Xc])]),
 .ls [Xb,(.mk 7 0 0 [(.mk 4 0 0 [Xa,Xc])])],
 .tr (.mk 3 0 0 [Xb,(.mk 7 0 0 [(.mk 4 0 0 [Xa,Xc])])]),
 .tr Xb,
 .ls [Xb],
 .tr (.mk 6 0 0 [Xb]),
 .tr Xa,
 .tr eg,
 .ls [Xa,eg],
 .tr (.mk 3 0 0 [Xa,eg]),
 .ls [(.mk 6 0 0 [Xb]),(.mk 3 0 0 [Xa,eg])],
 .tr (.mk 5 0 0 [(.mk 6 0 0 [Xb]),(.mk 3 0 0 [Xa,eg])]),
 .ls [Xa,(.mk 3 0 0 [Xa,Xb]),(.mk 4 0 0 [Xa,Xb,Xc]),Xs,(.mk 3 0 0 [Xs,Xb]),(.mk 6 0 0 [(.mk 3 0 0 [Xa,Xb])]),(.mk 3 0 0 [Xb,(.mk 7 0 0 [(.mk 4 0 0 [Xa,Xc])])]),(.mk 5 0 0 [(.mk 6 0 0 [Xb]),(.mk 3 0 0 [Xa,eg])])],
 .ls [Xa,(.mk 3 0 0 [Xa,Xb]),(.mk 4 0 0 [Xa,Xb,Xc]),Xs,(.mk 3 0 0 [Xs,Xb]),(.mk 6 0 0 [(.mk 3 0 0 [Xa,Xb])]),(.mk 3 0 0 [Xb,(.mk 7 0 0 [(.mk 4 0 0 [Xa,Xc])])]),(.mk 5 0 0 [(.mk 6 0 0 [Xb]),(.mk 3 0 0 [Xa,eg])])]]
structure JT (L:Nat->Bool) (E:Env) (w:I):Prop where
 fr:ao w0 w
 k:E.get? 3=some (.i kk)
 a:i4 base w E 5 Xa
 b:i4 base w E 6 Xb
 c:i4 base w E 7 Xc
 s:i4 base w E 8 Xs
 all:∀(i:Nat) (sp:sF),(du Xa Xb Xc Xs)[i]? =some sp->L i=true->tA base w (E.get? (da i)) sp
variable {w0 base kk Xa Xb Xc Xs}
def JT.step {L:Nat->Bool} {E:Env} {w w':I} (e:JT w0 base kk Xa Xb Xc Xs L E w) (f:ao w w') {i d:Nat} (n:d=da i) {v:ae} {x:sF} (u:(du Xa Xb Xc Xs)[i]? =some x) (y:tA base w' (some v) x):JT w0 base kk Xa Xb Xc Xs (dc L i) (E.put (some d) v) w':=by
 have D:9<=d:=by rw [n];unfold da;split<;>omega
 refine ⟨e.fr.cR f,by rw [im (by omega)];exact e.k,(e.a.bA f).put (by omega),(e.b.bA f).put (by omega),(e.c.bA f).put (by omega),(e.s.bA f).put (by omega),λh sq j z=>?_⟩;by_cases q:h=i
 .subst q;rw [u] at j;cases j;rw [<-n,rk];exact y
 .have A:d≠da h:=by rw [n];have B:i<41:=(cD.1 u).1;have C:h<41:=(cD.1 j).1;unfold da;split<;>split<;>omega
  rw [im A];refine (e.all h sq j ?_).bA f;have:cm h i=false:=by rw [<-ju,Nat.beq_eq];exact q
  simpa [dc,this] using z
abbrev h7 (w0:I) (base:Nat) (kk:Int) (Xa Xb Xc Xs:Rx) (i:Nat) (r:Op×Option Nat×aG×List Nat):Prop:=vC U (JT w0 base kk Xa Xb Xc Xs) i r
def QT {b:Nat} {u:J} {w:I} (d:w.heap[b]? =some (.cells u.c.toArray aF (0,0))) {K:ae->Prop} (B:K u.v):ma U aF (aj b) w λv _=>K v:=by
 have q:=cellAt (p:=aj b) (i:=0) (v:=.int .i64 u.k) d rfl rfl;have x:=cellAt (p:=aj b) (i:=1) (v:=.int .u8 (u.lo.toNat:Int)) d rfl rfl;have y:=cellAt (p:=aj b) (i:=2) (v:=.int .u8 (u.hi.toNat:Int)) d rfl rfl;have z:=cellAt (p:=aj b) (i:=3) (v:=u.s.v) d rfl rfl;have A:(ma U aF (aj b) w λv _=>K v)=(∃e:Int,∃h:Int,∃j:Int,∃n:O,w.cell? ((aj b).add 0)=some (.int .i64 e)/\w.cell? ((aj b).add 1)=some (.int .u8 h)/\w.cell? ((aj b).add 2)=some (.int .u8 j)/\w.cell? ((aj b).add 3)=some n.v/\K (.agg #[.int .i64 e,.int .u8 h,.int .u8 j,n.v])):=by kernel_rfl
 rw [A];exact ⟨_,_,_,u.s,q,x,y,z,B⟩
def yr {ty:aG} {k:List Nat} {t:Nat} {x:Rx} (i d:Nat) (z:d=da i) (C:(du Xa Xb Xc Xs)[i]? =some (.tr x)) (D:∀h c e,JT w0 base kk Xa Xb Xc Xs h c e->i4 base e c t x):h7 w0 base kk Xa Xb Xc Xs i (.load aF (.tmp t),some d,ty,k):=by intro h c e o B A H G F j;obtain ⟨b,E,n,q,u,w,y⟩:=D h c e j;refine qb B n (QT q ?_);rw [A];exact j.step (Fr.refl _ _) z C ⟨E,rfl,u,w,y⟩
def rW {ty:aG} {e:List Nat} (i d:Nat) (j:(du Xa Xb Xc Xs)[i]? =some (.tr Xa)) (h:d=da i:=by rfl):h7 w0 base kk Xa Xb Xc Xs i (.load aF (.tmp 5),some d,ty,e):=yr i d h j λ_ _ _ c=>c.a
def rX {ty:aG} {e:List Nat} (i d:Nat) (j:(du Xa Xb Xc Xs)[i]? =some (.tr Xb)) (h:d=da i:=by rfl):h7 w0 base kk Xa Xb Xc Xs i (.load aF (.tmp 6),some d,ty,e):=yr i d h j λ_ _ _ c=>c.b
def Kf {ty:aG} {h:List Nat} (i d:Nat) (k:(du Xa Xb Xc Xs)[i]? =some (.tr Xc)) (j:d=da i:=by rfl):h7 w0 base kk Xa Xb Xc Xs i (.load aF (.tmp 7),some d,ty,h):=yr i d j k λ_ _ _ e=>e.c
def Kg {ty:aG} {e:List Nat} (i d:Nat) (j:(du Xa Xb Xc Xs)[i]? =some (.tr Xs)) (h:d=da i:=by rfl):h7 w0 base kk Xa Xb Xc Xs i (.load aF (.tmp 8),some d,ty,e):=yr i d h j λ_ _ _ c=>c.s
def TJ (a:J) (w:I):(Instr.buildSlice bG 1 #[((0:Nat),a.v)]).run U w=.ok (.slice (some (aj w.heap.size)) 1 1) (w.alloc (.cells ([a].flatMap J.c).toArray aF)):=by kernel_rfl
def TK (a b:J) (w:I):(Instr.buildSlice bG 2 #[((0:Nat),a.v),(1,b.v)]).run U w=.ok (.slice (some (aj w.heap.size)) 2 2) (w.alloc (.cells ([a,b].flatMap J.c).toArray aF)):=by kernel_rfl
def TL (a b c:J) (w:I):(Instr.buildSlice bG 3 #[((0:Nat),a.v),(1,b.v),(2,c.v)]).run U w=.ok (.slice (some (aj w.heap.size)) 3 3) (w.alloc (.cells ([a,b,c].flatMap J.c).toArray aF)):=by kernel_rfl
def TM (a b c d e g r s:J) (w:I):(Instr.buildSlice bG 8 #[((0:Nat),a.v),(1,b.v),(2,c.v),(3,d.v),(4,e.v),(5,g.v),(6,r.v),(7,s.v)]).run U w=.ok (.slice (some (aj w.heap.size)) 8 8) (w.alloc (.cells ([a,b,c,d,e,g,r,s].flatMap J.c).toArray aF)):=by kernel_rfl
def yz {o:Oper} {T:aG} {n:Nat} {parts:Array (Nat×Operand)} {E:Env} {w w':I} {v:ae} {K:Env->I->Prop} (c:o.op=.buildSlice T n parts) (e:E.eA o=true) (j:(Instr.buildSlice T n (parts.map λp=>(p.1,E.ev p.2))).run U w=.ok v w') (d:K (E.put o.dst v) w'):ix U o E w K:=by
 obtain ⟨dst,q,k,pos,after,guard⟩:=o;simp only at c;subst c;have h:q' U ⟨dst,.buildSlice T n parts,k,pos,after,guard⟩ E w (λv w'=>K (E.put dst v) w'):=by unfold q';rw [e];show cH true _;simp only [execOp];rw [show (λ(x:Nat×Operand)=>match x with |(i,x)=>(i,E.ev x))=λp=>(p.1,E.ev p.2) from rfl];simp [j];exact d
 unfold ix;simp only [calm,cond_false];unfold gH;exact h
def jc {E:Env} {t:Nat} {v:ae} (c:E.get? t=some v):E.ev (.tmp t)=v:=by simp [Env.ev,Env.val,c]
def wU {w:I} {ts:List J} {n:Nat} (q:n=ts.length) (z:n<=1000) (u:J.Ps w ts) (k:∀b∈J.a' ts,base<=b) (h:base<=w.heap.size):
  (bO ⟨some (aj w.heap.size),n,n⟩ ts).P (w.alloc (.cells (ts.flatMap J.c).toArray aF))/\∀b∈(bO ⟨some (aj w.heap.size),n,n⟩ ts).fp,base<=b:=by
 have x:=aS.made w aF 4 n (ts.flatMap J.c) (by rw [J.gl,q]) (by unfold maxLen;omega);refine ⟨dd.2 ⟨x.bz,u.bA (Fr.alloc _ _ _)⟩,λb j=>?_⟩;rcases kK.1 j with d|d
 .exact uB (λy e=>by simp only [ay,aB,a1,a7] at e;rw [e];exact h) b d
 .exact k b d
def JT.sK {L:Nat->Bool} {E:Env} {w:I} (c:JT w0 base kk Xa Xb Xc Xs L E w) (d:base<=w0.heap.size):base<=w.heap.size:=bH d c.fr.size
section
variable (tq:base<=w0.heap.size)
include tq
def Dx {ty:aG} {x:List Nat} (i d e:Nat) {u:Nat} {z:Rx} (L:(du Xa Xb Xc Xs)[i]? =some (.ls [z])) (F:(du Xa Xb Xc Xs)[e]? =some (.tr z)) (M:e∈x) (G:d=da i:=by rfl) (E:u=da e:=by rfl):h7 w0 base kk Xa Xb Xc Xs i (.buildSlice bG 1 #[(0,.tmp u)],some d,ty,x):=by
 intro N A h o q K P O H j;obtain ⟨a,k,B,C,D⟩:=j.all e _ F (H e M);rw [<-E] at k;have y:=wU (base:=base) (w:=h) (ts:=[a]) (n:=1) rfl (by omega) (J.hS (by simp [C])) (by simp [J.a'];exact D) (j.sK tq);refine yz (w':=h.alloc (.cells ([a].flatMap J.c).toArray aF)) (v:=.slice (some (aj h.heap.size)) 1 1) q (by obtain ⟨_,Q,_,_,_,_⟩:=o;simp only at q;subst q;simp [Env.eA,Op.operands,Env.val,k]) ?_ ?_
 .rw [show (#[((0:Nat),Operand.tmp u)].map λp=>(p.1,A.ev p.2))=#[((0:Nat),a.v)] by simp [jc k]];exact TJ a h
 .rw [K];exact j.step (Fr.alloc _ _ _) G L ⟨⟨some (aj h.heap.size),1,1⟩,[a],rfl,by simp [J.ax,B],y.1,y.2⟩
def pT {ty:aG} {x:List Nat} (i d e h:Nat) {z A:Nat} {E F:Rx} (hs:(du Xa Xb Xc Xs)[i]? =some (.ls [E,F])) (S:(du Xa Xb Xc Xs)[e]? =some (.tr E)) (T:(du Xa Xb Xc Xs)[h]? =some (.tr F)) (m0:e∈x) (m1:h∈x) (Y:d=da i:=by rfl) (P:z=da e:=by rfl) (Q:A=da h:=by rfl):h7 w0 base kk Xa Xb Xc Xs i (.buildSlice bG 2 #[(0,.tmp z),(1,.tmp A)],some d,ty,x):=by
 intro aa G j o y Z ht hi C k;obtain ⟨a,q,H,K,L⟩:=k.all e _ S (C e m0);obtain ⟨b,u,M,N,O⟩:=k.all h _ T (C h m1);rw [<-P] at q;rw [<-Q] at u;have D:=wU (base:=base) (w:=j) (ts:=[a,b]) (n:=2) rfl (by omega) (J.hS (by simp [K,N])) (by simp [J.a'];exact λB W=>W.elim (L B) (O B)) (k.sK tq);refine yz (w':=j.alloc (.cells ([a,b].flatMap J.c).toArray aF)) (v:=.slice (some (aj j.heap.size)) 2 2) y (by obtain ⟨_,op,_,_,_,_⟩:=o;simp only at y;subst y;simp [Env.eA,Op.operands,Env.val,q,u]) ?_ ?_
 .rw [show (#[((0:Nat),Operand.tmp z),(1,.tmp A)].map λp=>(p.1,G.ev p.2))=#[((0:Nat),a.v),(1,b.v)] by simp [jc q,jc u]];exact TK a b j
 .rw [Z];exact k.step (Fr.alloc _ _ _) Y hs ⟨⟨some (aj j.heap.size),2,2⟩,[a,b],rfl,by simp [J.ax,H,M],D.1,D.2⟩
def TC {ty:aG} {x:List Nat} (i d j k q:Nat) {E F t2:Nat} {K L M:Rx} (hs:(du Xa Xb Xc Xs)[i]? =some (.ls [K,L,M])) (h0:(du Xa Xb Xc Xs)[j]? =some (.tr K)) (h1:(du Xa Xb Xc Xs)[k]? =some (.tr L)) (h2:(du Xa Xb Xc Xs)[q]? =some (.tr M)) (m0:j∈x) (m1:k∈x) (m2:q∈x) (hd:d=da i:=by rfl) (e0:E=da j:=by rfl) (e1:F=da k:=by rfl) (e2:t2=da q:=by rfl):h7 w0 base kk Xa Xb Xc Xs i (.buildSlice bG 3 #[(0,.tmp E),(1,.tmp F),(2,.tmp t2)],some d,ty,x):=by
 intro ab N u o C aa ht hi B e;obtain ⟨a,y,O,P,Q⟩:=e.all j _ h0 (B j m0);obtain ⟨b,z,S,T,W⟩:=e.all k _ h1 (B k m1);obtain ⟨h,A,Y,Z,c4⟩:=e.all q _ h2 (B q m2);rw [<-e0] at y;rw [<-e1] at z;rw [<-e2] at A;have H:=wU (base:=base) (w:=u) (ts:=[a,b,h]) (n:=3) rfl (by omega) (J.hS (by simp [P,T,Z])) (by simp [J.a'];exact λG D=>D.elim (Q G) (λD=>D.elim (W G) (c4 G))) (e.sK tq);refine yz (w':=u.alloc (.cells ([a,b,h].flatMap J.c).toArray aF)) (v:=.slice (some (aj u.heap.size)) 3 3) C (by obtain ⟨_,op,_,_,_,_⟩:=o;simp only at C;subst C;simp [Env.eA,Op.operands,Env.val,y,z,A]) ?_ ?_
 .rw [show (#[((0:Nat),Operand.tmp E),(1,.tmp F),(2,.tmp t2)].map λp=>(p.1,N.ev p.2))=#[((0:Nat),a.v),(1,b.v),(2,h.v)] by simp [jc y,jc z,jc A]];exact TL a b h u
 .rw [aa];exact e.step (Fr.alloc _ _ _) hd hs ⟨⟨some (aj u.heap.size),3,3⟩,[a,b,h],rfl,by simp [J.ax,O,S,Y],H.1,H.2⟩
def TD {ty:aG} {h:List Nat} (i d y z A B C D E F:Nat) {Y Z t2 t3 t4 t5 t6 t7:Nat} {x0 x1 x2 x3 x4 x5 x6 x7:Rx} (hs:(du Xa Xb Xc Xs)[i]? =some (.ls [x0,x1,x2,x3,x4,x5,x6,x7])) (h0:(du Xa Xb Xc Xs)[y]? =some (.tr x0)) (h1:(du Xa Xb Xc Xs)[z]? =some (.tr x1)) (h2:(du Xa Xb Xc Xs)[A]? =some (.tr x2)) (h3:(du Xa Xb Xc Xs)[B]? =some (.tr x3)) (h4:(du Xa Xb Xc Xs)[C]? =some (.tr x4)) (h5:(du Xa Xb Xc Xs)[D]? =some (.tr x5)) (h6:(du Xa Xb Xc Xs)[E]? =some (.tr x6)) (ab:(du Xa Xb Xc Xs)[F]? =some (.tr x7)) (m0:y∈h) (m1:z∈h) (m2:A∈h) (m3:B∈h) (m4:C∈h) (m5:D∈h) (m6:E∈h) (m7:F∈h) (hd:d=da i:=by rfl) (e0:Y=da y:=by rfl) (e1:Z=da z:=by rfl) (e2:t2=da A:=by rfl) (e3:t3=da B:=by rfl) (e4:t4=da C:=by rfl) (e5:t5=da D:=by rfl) (e6:t6=da E:=by rfl) (e7:t7=da F:=by rfl):
  h7 w0 base kk Xa Xb Xc Xs i (.buildSlice bG 8 #[(0,.tmp Y),(1,.tmp Z),(2,.tmp t2),(3,.tmp t3),(4,.tmp t4),(5,.tmp t5),(6,.tmp t6),(7,.tmp t7)],some d,ty,h):=by
 intro ad aa H o P ac Q hi j e;obtain ⟨a,K,a2,a3,a4⟩:=e.all y _ h0 (j y m0);obtain ⟨b,L,b2,b3,b4⟩:=e.all z _ h1 (j z m1);obtain ⟨u,M,c2,c3,c4⟩:=e.all A _ h2 (j A m2);obtain ⟨G,S,q2,q3,q4⟩:=e.all B _ h3 (j B m3);obtain ⟨x,N,f2,f3,f4⟩:=e.all C _ h4 (j C m4);obtain ⟨g,O,g2,g3,g4⟩:=e.all D _ h5 (j D m5);obtain ⟨r,T,r2,r3,r4⟩:=e.all E _ h6 (j E m6);obtain ⟨s,W,s2,s3,s4⟩:=e.all F _ ab (j F m7);rw [<-e0] at K;rw [<-e1] at L;rw [<-e2] at M;rw [<-e3] at S;rw [<-e4] at N;rw [<-e5] at O;rw [<-e6] at T;rw [<-e7] at W;have hm:=wU (base:=base) (w:=H) (ts:=[a,b,u,G,x,g,r,s]) (n:=8) rfl (by omega) (J.hS (by simp [a3,b3,c3,q3,f3,g3,r3,s3])) (by
  intro q hz;obtain ⟨t,Q,k⟩:=J.bR.1 hz;clear hz;simp only [aB,a1,a7] at Q;rcases Q with rfl|rfl|rfl|rfl|rfl|rfl|rfl|rfl
  .exact a4 q k
  .exact b4 q k
  .exact c4 q k
  .exact q4 q k
  .exact f4 q k
  .exact g4 q k
  .exact r4 q k
  .exact s4 q k) (e.sK tq)
 refine yz (w':=H.alloc (.cells ([a,b,u,G,x,g,r,s].flatMap J.c).toArray aF)) (v:=.slice (some (aj H.heap.size)) 8 8) P (by obtain ⟨_,op,_,_,_,_⟩:=o;simp only at P;subst P;simp [Env.eA,Op.operands,Env.val,K,L,M,S,N,O,T,W]) ?_ ?_
 .rw [show (#[((0:Nat),Operand.tmp Y),(1,.tmp Z),(2,.tmp t2),(3,.tmp t3),(4,.tmp t4),(5,.tmp t5),(6,.tmp t6),(7,.tmp t7)].map λp=>(p.1,aa.ev p.2))=#[((0:Nat),a.v),(1,b.v),(2,u.v),(3,G.v),(4,x.v),(5,g.v),(6,r.v),(7,s.v)] by simp [jc K,jc L,jc M,jc S,jc N,jc O,jc T,jc W]];exact TM a b u G x g r s H
 .rw [ac];exact e.step (Fr.alloc _ _ _) hd hs ⟨⟨some (aj H.heap.size),8,8⟩,[a,b,u,G,x,g,r,s],rfl,by simp [J.ax,a2,b2,c2,q2,f2,g2,r2,s2],hm.1,hm.2⟩
end
def Uh {o:Oper} {k:Int} {t:Nat} {s:O} {E:Env} {w:I} {K:Env->I->Prop} (y:k=3\/k=4\/k=5\/k=6\/k=7) (e:o.op=.build aF #[(0,.const (.int .i64 k)),(3,.tmp t)]) (h:E.get? t=some s.v) (q:K (E.put o.dst (.agg #[.i k,.int .u8 0,.int .u8 0,s.v])) w):ix U o E w K:=by
 obtain ⟨dst,z,c,pos,after,guard⟩:=o;simp only at e;subst e;show gv U _ E (λv _=>K (E.put dst v) w);have x:E.eA ⟨dst,.build aF #[(0,.const (.int .i64 k)),(3,.tmp t)],c,pos,after,guard⟩=true:=by simp [Env.eA,Op.operands,Env.val,h]
 unfold gv;rw [x];have j:execOp E.ev ⟨dst,.build aF #[(0,.const (.int .i64 k)),(3,.tmp t)],c,pos,after,guard⟩=execOp (λd=>match d with |.const v=>v|_=>s.v) ⟨dst,.build aF #[(0,.const (.int .i64 k)),(3,.tmp t)],c,pos,after,guard⟩:=by
  have:E.ev (.tmp t)=s.v:=jc h;have u:E.ev (.const (.int .i64 k))=.int .i64 k:=by simp [Env.ev,Env.val]
  simp only [execOp,List.map_toArray,kf,List.map_nil,this,u]
 rw [j];have n:pM U (execOp (λd=>match d with |.const v=>v|_=>s.v) ⟨dst,.build aF #[(0,.const (.int .i64 k)),(3,.tmp t)],c,pos,after,guard⟩)=some (.value (.agg #[.i k,.int .u8 0,.int .u8 0,s.v])):=by kernel_rfl
 rw [n];exact q
def uK {ty:aG} {h:List Nat} (k:Int) (C:k=3\/k=4\/k=5\/k=6\/k=7) (i d j:Nat) {t:Nat} {l:List Rx} (E:(du Xa Xb Xc Xs)[i]? =some (.tr (.mk k 0 0 l))) (y:(du Xa Xb Xc Xs)[j]? =some (.ls l)) (m:j∈h) (z:d=da i) (x:t=da j):h7 w0 base kk Xa Xb Xc Xs i (.build aF #[(0,.const (.int .i64 k)),(3,.tmp t)],some d,ty,h):=by
 intro H G M o D B L K A c;obtain ⟨s,F,e,q,u,w⟩:=c.all j _ y (A j m);rw [<-x] at e;refine Uh C D e ?_;rw [B];refine c.step (Fr.refl _ _) z E ⟨.mk k 0 0 s F,rfl,by rw [<-q];rfl,?_,λb n=>w b ?_⟩
 .have:=dd.1 u;unfold J.P;exact this
 .unfold J.fp at n;unfold bO J.fp;exact n
def uL {ty:aG} {c:List Nat} (i d j:Nat) {t:Nat} {l:List Rx} (n:(du Xa Xb Xc Xs)[i]? =some (.tr (.mk 3 0 0 l))) (h:(du Xa Xb Xc Xs)[j]? =some (.ls l)) (m:j∈c) (k:d=da i:=by rfl) (e:t=da j:=by rfl):h7 w0 base kk Xa Xb Xc Xs i (.build aF #[(0,.const (.int .i64 3)),(3,.tmp t)],some d,ty,c):=uK 3 (by omega) i d j n h m k e
def Kd {ty:aG} {c:List Nat} (i d j:Nat) {t:Nat} {l:List Rx} (n:(du Xa Xb Xc Xs)[i]? =some (.tr (.mk 4 0 0 l))) (h:(du Xa Xb Xc Xs)[j]? =some (.ls l)) (m:j∈c) (k:d=da i:=by rfl) (e:t=da j:=by rfl):h7 w0 base kk Xa Xb Xc Xs i (.build aF #[(0,.const (.int .i64 4)),(3,.tmp t)],some d,ty,c):=uK 4 (by omega) i d j n h m k e
def TA {ty:aG} {c:List Nat} (i d j:Nat) {t:Nat} {l:List Rx} (n:(du Xa Xb Xc Xs)[i]? =some (.tr (.mk 5 0 0 l))) (h:(du Xa Xb Xc Xs)[j]? =some (.ls l)) (m:j∈c) (k:d=da i:=by rfl) (e:t=da j:=by rfl):h7 w0 base kk Xa Xb Xc Xs i (.build aF #[(0,.const (.int .i64 5)),(3,.tmp t)],some d,ty,c):=uK 5 (by omega) i d j n h m k e
def Ke {ty:aG} {c:List Nat} (i d j:Nat) {t:Nat} {l:List Rx} (n:(du Xa Xb Xc Xs)[i]? =some (.tr (.mk 6 0 0 l))) (h:(du Xa Xb Xc Xs)[j]? =some (.ls l)) (m:j∈c) (k:d=da i:=by rfl) (e:t=da j:=by rfl):h7 w0 base kk Xa Xb Xc Xs i (.build aF #[(0,.const (.int .i64 6)),(3,.tmp t)],some d,ty,c):=uK 6 (by omega) i d j n h m k e
def TB {ty:aG} {c:List Nat} (i d j:Nat) {t:Nat} {l:List Rx} (n:(du Xa Xb Xc Xs)[i]? =some (.tr (.mk 7 0 0 l))) (h:(du Xa Xb Xc Xs)[j]? =some (.ls l)) (m:j∈c) (k:d=da i:=by rfl) (e:t=da j:=by rfl):h7 w0 base kk Xa Xb Xc Xs i (.build aF #[(0,.const (.int .i64 7)),(3,.tmp t)],some d,ty,c):=uK 7 (by omega) i d j n h m k e
def TF {ty:aG} {h:List Nat} (i d j:Nat) {t:Nat} {l:List Rx} (B:(du Xa Xb Xc Xs)[i]? =some (.ls l)) (w:(du Xa Xb Xc Xs)[j]? =some (.ls l)) (m:j∈h) (x:d=da i:=by rfl) (u:t=da j:=by rfl):h7 w0 base kk Xa Xb Xc Xs i (.assign (.tmp t),some d,ty,h):=by intro E D H o A z G F y c;obtain ⟨s,C,e,k,n,q⟩:=c.all j _ w (y j m);rw [<-u] at e;refine nA (.inr A) e ?_;rw [z];exact c.step (Fr.refl _ _) x B ⟨s,C,rfl,k,n,q⟩
def TE {B:List Nat} (H:base<=w0.heap.size) (i d:Nat) (N:(du Xa Xb Xc Xs)[i]? =some (.tr eg)) (M:d=da i:=by rfl):h7 w0 base kk Xa Xb Xc Xs i (.call ⟨.value (.func mg),#[],#[]⟩,some d,aF,B):=by
 intro h c A o q n u Q P j;obtain ⟨dst,S,T,pos,after,guard⟩:=o;simp only at q n u;subst q;subst n;subst u;have J:c.eA ⟨some d,.call ⟨.value (.func mg),#[],#[]⟩,aF,pos,after,guard⟩=true:=by simp [Env.eA,Op.operands,Call.operands,Env.val]
 have K:gF U mg=true:=by kernel_rfl
 have L:calm U ⟨some d,.call ⟨.value (.func mg),#[],#[]⟩,aF,pos,after,guard⟩=false:=rfl;unfold ix;rw [L,cond_false];unfold gH;dsimp only;rw [J,K];simp only [List.map_toArray,List.map_nil,cond_true];refine (show o' U mg #[] (zeroOf U aF) A (λv e=>JT w0 base kk Xa Xb Xc Xs (dc h i) (c.put (some d) v) e) from ?_);refine (zK A).mono ?_;rintro _ e ⟨⟨t,rfl,D,E,F⟩,f⟩;have C:m3 (zeroOf U aF) (λv=>Ending.returned t.v=V v/\JT w0 base kk Xa Xb Xc Xs (dc h i) (c.put (some d) v) e)=∃w:Int,∃x:Int,∃y:Int,∃z:O,Ending.returned t.v=V (.agg #[.int .i64 w,.int .u8 x,.int .u8 y,z.v])/\JT w0 base kk Xa Xb Xc Xs (dc h i) (c.put (some d) (.agg #[.int .i64 w,.int .u8 x,.int .u8 y,z.v])) e:=by kernel_rfl
 rw [C];exact ⟨t.k,t.lo.toNat,t.hi.toNat,t.s,rfl,j.step f M N ⟨t,rfl,D,E,λb G=>bH (j.sK H) (F b G)⟩⟩
def Ll:List (Op×Option Nat×aG×List Nat):=[(.load aF (.tmp 5),some 39,aF,[]),
 (.load aF (.tmp 5),some 40,aF,[]),
 (.load aF (.tmp 6),some 41,aF,[]),
 (.buildSlice bG 2 #[(0,.tmp 40),(1,.tmp 41)],some 42,bG,[1,2]),
 (.build aF #[(0,.const (.int .i64 3)),(3,.tmp 42)],some 43,aF,[3]),
 (.load aF (.tmp 5),some 44,aF,[]),
 (.load aF (.tmp 6),some 45,aF,[]),
 (.load aF (.tmp 7),some 46,aF,[]),
 (.buildSlice bG 3 #[(0,.tmp 44),(1,.tmp 45),(2,.tmp 46)],some 47,bG,[5,6,7]),
 (.build aF #[(0,.const (.int .i64 4)),(3,.tmp 47)],some 48,aF,[8]),
 (.load aF (.tmp 8),some 49,aF,[]),
 (.load aF (.tmp 8),some 50,aF,[]),
 (.load aF (.tmp 6),some 51,aF,[]),
 (.buildSlice bG 2 #[(0,.tmp 50),(1,.tmp 51)],some 52,bG,[11,12]),
 (.build aF #[(0,.const (.int .i64 3)),(3,.tmp 52)],some 53,aF,[13]),
 (.load aF (.tmp 5),some 54,aF,[]),
 (.load aF (.tmp 6),some 55,aF,[]),
 (.buildSlice bG 2 #[(0,.tmp 54),(1,.tmp 55)],some 56,bG,[15,16]),
 (.build aF #[(0,.const (.int .i64 3)),(3,.tmp 56)],some 57,aF,[17]),
 (.buildSlice bG 1 #[(0,.tmp 57)],some 58,bG,[18]),
 (.build aF #[(0,.const (.int .i64 6)),(3,.tmp 58)],some 59,aF,[19]),
 (.load aF (.tmp 6),some 60,aF,[]),
 (.load aF (.tmp 5),some 61,aF,[]),
 (.load aF (.tmp 7),some 62,aF,[]),
 (.buildSlice bG 2 #[(0,.tmp 61),(1,.tmp 62)],some 63,bG,[22,23]),
 (.build aF #[(0,.const (.int .i64 4)),(3,.tmp 63)],some 64,aF,[24]),
 (.buildSlice bG 1 #[(0,.tmp 64)],some 65,bG,[25]),
 (.build aF #[(0,.const (.int .i64 7)),(3,.tmp 65)],some 66,aF,[26]),
 (.buildSlice bG 2 #[(0,.tmp 60),(1,.tmp 66)],some 67,bG,[21,27]),
 (.build aF #[(0,.const (.int .i64 3)),(3,.tmp 67)],some 68,aF,[28]),
 (.load aF (.tmp 6),some 69,aF,[]),
 (.buildSlice bG 1 #[(0,.tmp 69)],some 70,bG,[30]),
 (.build aF #[(0,.const (.int .i64 6)),(3,.tmp 70)],some 71,aF,[31]),
 (.load aF (.tmp 5),some 72,aF,[]),
 (.call ⟨.value (.func mg),#[],#[]⟩,some 73,aF,[]),
 (.buildSlice bG 2 #[(0,.tmp 72),(1,.tmp 73)],some 74,bG,[33,34]),
 (.build aF #[(0,.const (.int .i64 3)),(3,.tmp 74)],some 75,aF,[35]),
 (.buildSlice bG 2 #[(0,.tmp 71),(1,.tmp 75)],some 76,bG,[32,36]),
 (.build aF #[(0,.const (.int .i64 5)),(3,.tmp 76)],some 77,aF,[37]),
 (.buildSlice bG 8 #[(0,.tmp 39),(1,.tmp 43),(2,.tmp 48),(3,.tmp 49),(4,.tmp 53),(5,.tmp 59),(6,.tmp 68),(7,.tmp 77)],some 78,bG,[0,4,9,10,14,20,29,38]),
 (.assign (.tmp 78),some 9,bG,[39,34,0,1,2,3,4,5,6,7,8,9,10,11,12,13,14,15,16,17,18,19,20,21,22,23,24,25,26,27,28,29,30,31,32,33,34,35,36,37,38,39])]
def TH (c:base<=w0.heap.size):allI (vC U (JT w0 base kk Xa Xb Xc Xs)) Ll 0:=
 ⟨(rW 0 39 rfl),
  (rW 1 40 rfl),
  (rX 2 41 rfl),
  (pT c 3 42 1 2 rfl rfl rfl (by simp) (by simp)),
  (uL 4 43 3 rfl rfl (by simp)),
  (rW 5 44 rfl),
  (rX 6 45 rfl),
  (Kf 7 46 rfl),
  (TC c 8 47 5 6 7 rfl rfl rfl rfl (by simp) (by simp) (by simp)),
  (Kd 9 48 8 rfl rfl (by simp)),
  (Kg 10 49 rfl),
  (Kg 11 50 rfl),
  (rX 12 51 rfl),
  (pT c 13 52 11 12 rfl rfl rfl (by simp) (by simp)),
  (uL 14 53 13 rfl rfl (by simp)),
  (rW 15 54 rfl),
  (rX 16 55 rfl),
  (pT c 17 56 15 16 rfl rfl rfl (by simp) (by simp)),
  (uL 18 57 17 rfl rfl (by simp)),
  (Dx c 19 58 18 rfl rfl (by simp)),
  (Ke 20 59 19 rfl rfl (by simp)),
  (rX 21 60 rfl),
  (rW 22 61 rfl),
  (Kf 23 62 rfl),
  (pT c 24 63 22 23 rfl rfl rfl (by simp) (by simp)),
  (Kd 25 64 24 rfl rfl (by simp)),
  (Dx c 26 65 25 rfl rfl (by simp)),
  (TB 27 66 26 rfl rfl (by simp)),
  (pT c 28 67 21 27 rfl rfl rfl (by simp) (by simp)),
  (uL 29 68 28 rfl rfl (by simp)),
  (rX 30 69 rfl),
  (Dx c 31 70 30 rfl rfl (by simp)),
  (Ke 32 71 31 rfl rfl (by simp)),
  (rW 33 72 rfl),
  (TE c 34 73 rfl),
  (pT c 35 74 33 34 rfl rfl rfl (by simp) (by simp)),
  (uL 36 75 35 rfl rfl (by simp)),
  (pT c 37 76 32 36 rfl rfl rfl (by simp) (by simp)),
  (TA 38 77 37 rfl rfl (by simp)),
  (TD c 39 78 0 4 9 10 14 20 29 38 rfl rfl rfl rfl rfl rfl rfl rfl rfl (by simp) (by simp) (by simp) (by simp) (by simp) (by simp) (by simp) (by simp)),
  (TF 40 9 39 rfl rfl (by simp)),trivial⟩
end
def j6 (k:Nat):Rx:=AK (ey (k%6)) (ey (k / 6%6)) (ey (k / 36%6)) (k / 216%8)
def IQ (k:Nat):Bool:=cq (j6 k)&&Nat.ble (j6 k).sz 1000&&hP (dg (j6 k))&&Nat.ble (dg (j6 k)).sz 1000
def Sd:(List.range 1728).all IQ=true:=by kernel_rfl
def Hq (k:Nat):j6 k=j6 (k%1728):=by unfold j6;rw [show k%1728%6=k%6 by omega,show k%1728 / 6%6=k / 6%6 by omega,show k%1728 / 36%6=k / 36%6 by omega,show k%1728 / 216%8=k / 216%8 by omega]
def US (k:Nat):cq (j6 k)=true/\(j6 k).sz<=1000/\hP (dg (j6 k))=true/\(dg (j6 k)).sz<=1000:=by rw [Hq];have:=f'.1 Sd (k%1728) (List.mem_range.2 (Nat.mod_lt _ (by omega)));unfold IQ at this;simp only [bn] at this;exact ⟨this.1.1.1,Nat.le_of_ble_eq_true this.1.1.2,this.1.2,Nat.le_of_ble_eq_true this.2⟩
def LK (k:Nat):kT k=a3 (dg (j6 k)):=rfl
def LL (k:Nat):kT k=kT (k%1728):=by rw [LK,LK,Hq]
def NU (n m:Int) (w:I) (e:1<=m) (c:cp n):ai U gL #[.i n,.i m] w λr d=>r=V (.i (fS n m))/\ao w d:=(E1 n m w e c).mono λr d c=>⟨c.1,c.2▸Fr.refl _ _⟩
def E4 (c:J):List J:=[lx 2 97 97,lx 2 98 98,lx 2 0 0,lx 2 97 98,lx 1 0 0,c]
def zw (d:J) (e:d.rx=eg) {i:Nat} (hi:i<6):∃t,(E4 d)[i]? =some t/\t.rx=ey i/\(t=d\/∀c:I,t.P c/\∀b,¬b∈t.fp):=by
 have:i=0\/i=1\/i=2\/i=3\/i=4\/i=5:=by omega
 rcases this with rfl|rfl|rfl|rfl|rfl|rfl
 .exact ⟨_,rfl,rfl,.inr λc=>⟨pr _ _ _ c,λb=>pw⟩⟩
 .exact ⟨_,rfl,rfl,.inr λc=>⟨pr _ _ _ c,λb=>pw⟩⟩
 .exact ⟨_,rfl,rfl,.inr λc=>⟨pr _ _ _ c,λb=>pw⟩⟩
 .exact ⟨_,rfl,rfl,.inr λc=>⟨pr _ _ _ c,λb=>pw⟩⟩
 .exact ⟨_,rfl,rfl,.inr λc=>⟨pr _ _ _ c,λb=>pw⟩⟩
 .exact ⟨d,rfl,e,.inl rfl⟩
def PU (a b c:Rx) {i:Nat} (hi:i<8):[a,.mk 3 0 0 [a,b],.mk 4 0 0 [a,b,c],.mk 7 0 0 [a],.mk 3 0 0 [.mk 7 0 0 [a],b],.mk 6 0 0 [.mk 3 0 0 [a,b]],.mk 3 0 0 [b,.mk 7 0 0 [.mk 4 0 0 [a,c]]],.mk 5 0 0 [.mk 6 0 0 [b],.mk 3 0 0 [a,eg]]][i]? =some (AK a b c i):=by
 have:i=0\/i=1\/i=2\/i=3\/i=4\/i=5\/i=6\/i=7:=by omega
 rcases this with rfl|rfl|rfl|rfl|rfl|rfl|rfl|rfl<;>rfl
def yE (k m:Nat) (c:0<m):dP (k:Int) (m:Int)=((k%m:Nat):Int):=by rw [Int.tmod_eq_emod_of_nonneg (by omega)];omega
def D4 (k m:Nat) (e:k<=1048576):ab .i64 (cz (k:Int) (m:Int))=((k / m:Nat):Int):=by
 have c:cz (k:Int) (m:Int)=((k / m:Nat):Int):=by rw [Int.tdiv_eq_ediv_of_nonneg (by omega)];rfl
 have d:k / m<=k:=Nat.div_le_self k m;rw [c];generalize k / m=q at d;rw [a4 _ (by omega)]
section
variable {w Vz:I} {R:aa} {K:Nat}
def UR (E:K<=1048576) {s:O} {ts:List J} {w':I} (x:J.ax ts=[ey (K%6),.mk 3 0 0 [ey (K%6),ey (K / 6%6)],.mk 4 0 0 [ey (K%6),ey (K / 6%6),ey (K / 36%6)],.mk 7 0 0 [ey (K%6)],.mk 3 0 0 [.mk 7 0 0 [ey (K%6)],ey (K / 6%6)],.mk 6 0 0 [.mk 3 0 0 [ey (K%6),ey (K / 6%6)]],.mk 3 0 0 [ey (K / 6%6),.mk 7 0 0 [.mk 4 0 0 [ey (K%6),ey (K / 36%6)]]],.mk 5 0 0 [.mk 6 0 0 [ey (K / 6%6)],.mk 3 0 0 [ey (K%6),eg]]])
  (h:(bO s ts).P w') (f:ao w w'):s5.T9 s (K:Int) w' λr w'=>r=V (.string (ba (kT K)))/\ao w w':=by
 have N:=J.cj (dd.1 h).1;have M:ts.length=8:=by have:=congrArg List.length x;rw [J.fh,nr] at this;simpa using this
 show (0:Int)<=dP (ab .i64 (cz (K:Int) ((216:Nat):Int))) ((8:Nat):Int)/\dP (ab .i64 (cz (K:Int) ((216:Nat):Int))) ((8:Nat):Int)<((s.n:Nat):Int)/\ct s.a λp=>aV w' (p.add (ag (dP (ab .i64 (cz (K:Int) ((216:Nat):Int))) ((8:Nat):Int)) *4)) _;rw [D4 K 216 E,yE _ 8 (by omega)];have F:K / 216%8<8:=Nat.mod_lt _ (by omega);have e:ts[K / 216%8]? =some (ts[K / 216%8]'(by omega)):=bc (by omega);generalize ts[K / 216%8]'(by omega)=t at e;have z:t.rx=j6 K:=by have y:=PU (ey (K%6)) (ey (K / 6%6)) (ey (K / 36%6)) F;rw [<-x,J.fh,List.getElem?_map,e] at y;exact Option.some.inj y
 obtain ⟨k,q,j,u⟩:=US K;rw [<-z] at k q j u;have G:t.P w':=(dd.1 h).2.get e;refine ⟨by omega,by omega,J.cY (dd.1 h).1 e λp h d=>⟨_,_,_,_,d.c0,d.c1,d.c2,d.c3,(FI t w' (by rw [<-J.ed];exact q) k G).mono ?_⟩⟩;rintro _ L ⟨⟨c,rfl,A,H,_⟩,C⟩;rw [<-A] at j u;refine ⟨_,_,_,c.s,rfl,(Fl c 0 L (by rw [<-J.ed];omega) (by omega) j H).mono ?_⟩;rintro _ Q ⟨rfl,D⟩;refine ⟨_,rfl,?_,(f.cR C).cR D⟩;have B:cg 0 c.rx (a3 c.rx)=a3 c.rx:=by unfold cg;rw [af (by omega)]
 rw [B,A,z];rfl
end
def M1 {s:O} {k:Int} {w:I} {R d:aa} (c:s5.T9 s k w R) (C:∀r e,R r e->d r e):s5.T9 s k w d:=
 ⟨c.1,c.2.1,Si c.2.2 λp ⟨a,b,h,j,q,u,x,y,A⟩=>⟨a,b,h,j,q,u,x,y,A.mono λr F ⟨n,f,g,i,B,E⟩=>⟨n,f,g,i,B,E.mono λr G ⟨t,D,z⟩=>⟨t,D,C _ _ z⟩⟩⟩⟩
def NS (n:Int) (hn:cp n) (w:I):ai U Bx #[.i n] w λr x=>(∃ag:Nat,r=V (.string (ba (kT ag))))/\ao w x:=by
 have hr:=jC n 1048576 (by omega);obtain ⟨K,hK⟩:∃K:Nat,fS n 1048576=(K:Int):=⟨(fS n 1048576).toNat,by omega⟩;have D:K<=1048576:=by omega
 have ab:LH F0 w w [] []:=bZ [] (by simp);refine s5.ok n w _ (ab.call (NU n 1048576 w (by omega) hn) ?_);rintro _ w1 rfl H;refine ⟨_,rfl,H.sP (zK w1) ?_⟩;rintro _ G ⟨q,rfl,F,ah,Y⟩ _ F2;have H2:=F2.rd (.tree q) ah λb u=>Y b (aT.1 u);rw [hK];have S:=yE K 6 (by omega);have Q:=D4 K 6 D;have O:=D4 K 36 D;have W:=yE (K / 6) 6 (by omega);have T:=yE (K / 36) 6 (by omega);have c6:((6:Nat):Int)=6:=rfl;have af:((36:Nat):Int)=36:=rfl;rw [c6] at S Q W T;rw [af] at O;rw [S,Q,O,W,T];obtain ⟨z,ga,ra,xa⟩:=zw q F (i:=K%6) (Nat.mod_lt _ (by omega));obtain ⟨tb,gb,rb,xb⟩:=zw q F (i:=K / 6%6) (Nat.mod_lt _ (by omega));obtain ⟨tc,gc,rc,xc⟩:=zw q F (i:=K / 36%6) (Nat.mod_lt _ (by omega));have la:K%6<6:=Nat.mod_lt _ (by omega);have lb:K / 6%6<6:=Nat.mod_lt _ (by omega);have lc:K / 36%6<6:=Nat.mod_lt _ (by omega);have C:∀t:J,(t=q\/∀w:I,t.P w/\∀b,¬b∈t.fp)->(∀x:I,q.P x->t.P x)/\∀b∈t.fp,w.heap.size<=b:=λt j=>by
  rcases j with rfl|j
  .exact ⟨λ_ j=>j,λb u=>bH H.fr.size (Y b u)⟩
  .exact ⟨λx _=>(j x).1,λb u=>((j w).2 b u).elim⟩
 refine ⟨_,_,_,q.s,rfl,H2.eb (n:=6) (sz:=4) (cs:=(E4 q).flatMap J.c) rfl (by decide) λw3 M=>?_⟩;refine ⟨by omega,by omega,J.cY (s:=⟨some (aj G.heap.size),6,6⟩) (M.get 0:aS _ _ _ _ _).bz ga λp hp d=>?_⟩;refine ⟨_,_,_,_,d.c0,d.c1,d.c2,d.c3,M.nw λw4 _ H4=>H4.jq 1 rfl λw8 N=>?_⟩;refine ⟨by omega,by omega,J.cY (s:=⟨some (aj G.heap.size),6,6⟩) (N.get 0:aS _ _ _ _ _).bz gb λp hp d=>?_⟩;refine ⟨_,_,_,_,d.c0,d.c1,d.c2,d.c3,N.nw λw9 _ H9=>H9.jq 2 rfl λak L=>?_⟩;refine ⟨by omega,by omega,J.cY (s:=⟨some (aj G.heap.size),6,6⟩) (L.get 0:aS _ _ _ _ _).bz gc λp hp d=>?_⟩;refine ⟨_,_,_,_,d.c0,d.c1,d.c2,d.c3,L.nw λaq _ ac=>ac.jq 3 rfl λaa y=>?_⟩;refine ⟨_,_,_,z.s,y.ld 1 0,y.ld 1 1,y.ld 1 2,y.ld 1 3,y.eb (n:=1) (sz:=4) (cs:=[z].flatMap J.c) rfl (by decide) λal ad=>ad.nw λar _ ae=>ae.jq 5 rfl λe h=>?_⟩;have A:=C z xa;have pb:=C tb xb;have pc:=C tc xc;have ps:(J.mk 7 0 0 ⟨some (aj aa.heap.size),1,1⟩ [z]).P e:=by unfold J.P;exact ⟨(h.get 4:aS _ _ _ _ _).bz,J.hS (by simp;exact A.1 e (h.getD 0))⟩
 have Z:ao w e:=h.fr;refine HJ Ll (by kernel_rfl) (JT e w.heap.size (K:Int) (ey (K%6)) (ey (K / 6%6)) (ey (K / 36%6)) (.mk 7 0 0 [ey (K%6)])) ?_ (TH Z.size) ?_
 .refine ⟨Fr.drew _ _,rfl,?_,?_,?_,?_,λi sp hs E=>by cases E⟩
  .exact i4.bA (w:=e) ⟨w3.heap.size,z,rfl,h.ob 1,ra,A.1 e (h.getD 0),A.2⟩ (Fr.drew _ _)
  .exact i4.bA (w:=e) ⟨w8.heap.size,tb,rfl,h.ob 2,rb,pb.1 e (h.getD 0),pb.2⟩ (Fr.drew _ _)
  .exact i4.bA (w:=e) ⟨ak.heap.size,tc,rfl,h.ob 3,rc,pc.1 e (h.getD 0),pc.2⟩ (Fr.drew _ _)
  .refine i4.bA (w:=e) ⟨al.heap.size,.mk 7 0 0 ⟨some (aj aa.heap.size),1,1⟩ [z],rfl,h.ob 5,?_,ps,CO (λb u=>?_) A.2⟩ (Fr.drew _ _)
   .rw [<-ra];rfl
   .simp only [ay,aB,a1,a7] at u;rw [u];exact y.fr.size
 .intro an am x E B;obtain ⟨s,ts,h1,h2,h3,_⟩:=B.all 40 _ rfl (E 40 (by decide));refine ⟨s,(K:Int),h1,B.k,?_⟩;refine M1 (UR D h2 h3 (Z.cR B.fr)) λr ap j=>⟨⟨K,j.1⟩,j.2⟩
def Bb {w:I} {s:O} {l:List Nd} (d:GP w s l):LH F0 w w [] [.gr s l]:=bZ _ (by intro e c;simp only [aB,a1,a7] at c;subst c;exact be.2 d)
abbrev pI (s:O) (l:List Int):En:=.row bX 1 s (l.map dp)
def uo {w:I} {s:O} {l:List Int} (c:aS w bX 1 s (l.map dp)):bS w s l:=c.Jr
def x3 {w:I} {s:O} {l:List Int} (c:aS w bX 1 s (l.map dp)):s.n=l.length:=by have:=c.len;simp at this;omega
def zG {w:I} {s:O} {l:List Nd} (G:GP w s l) (t:bq) (n:Int) (Z:cp n) (Y:l.length<=dQ):
  ai U tS #[s.v,dx t,.i n] w λr E=>(∃e:Int,r=V (.i e)/\-1<=e/\e<(l.length:Int))/\ao w E:=by
 have hs:=fu G;unfold dQ at Y;have loop:∀(m i:Nat) (h:O) (ks:List Int) (c:Nat) (u:I),i+m=l.length->ks.length<=i->(∀C∈ks,0<=C/\C<(l.length:Int))->LH F0 w u [.g c,pI h ks] [.gr s l]->
   pj.aP s n c t.k t.n t.x h (i:Int) u λr E=>(∃e:Int,r=V (.i e)/\-1<=e/\e<(l.length:Int))/\ao w E:=by
  intro m;induction m with
  |zero=>
   intro i h ks c u T W B q;have hlen:=x3 (q.get 1);refine pj.bW _ _ _ _ _ _ _ _ _ _ (a9 (a0 (by omega)) (aO (λP=>⟨⟨_,rfl,by omega,by omega⟩,q.fr⟩) (λP=>q.aA (iL n _ u (by omega) Z) ?_)));have hr:=jC n ((h.n:Nat):Int) (by omega);generalize fS n ((h.n:Nat):Int)=e at hr;rintro _ F rfl y;obtain ⟨j,rfl⟩:∃j:Nat,e=(j:Int):=⟨e.toNat,by omega⟩;have z:ks[j]? =some (ks[j]'(by omega)):=bc (by omega);have A:=B _ (aI z);exact ⟨_,rfl,by omega,by omega,(uo (y.get 1)).cell z (by omega) λp H Q=>⟨_,Q,⟨⟨_,rfl,by omega,by omega⟩,y.fr⟩⟩⟩
  |succ m J=>
   intro i h ks c u T W B q;have z:l[i]? =some (l[i]'(by omega)):=bc (by omega);generalize l[i]'(by omega)=d at z;have hlen:=x3 (q.get 1);refine pj.bW _ _ _ _ _ _ _ _ _ _ (bd (aW (by omega)) (fa (be.1 (q.getD 0)) rfl z λp H _=>q.au λF y=>?_));have D:=rl (be.1 (y.getD 0)) z H (rfl:((i:Int))=(i:Int));refine ⟨_,_,_,D.s0,D.s1,D.s2,lF (a:=d.x.st) (b:=t) (λS=>?_) (λS=>?_)⟩
   .refine y.i5 1 qZ rfl (λK L N=>?_) (by omega);show pj.aP s n c t.k t.n t.x K (ab .i64 ((i:Int)+1)) L _;rw [bw _ (by omega)];refine J (i+1) K (ks++[(i:Int)]) c L (by omega) (by simp;omega) (λC A=>?_) (by rw [pI,List.map_append];exact N);rcases a5.1 A with A|A
    .exact B C A
    .simp only [aB,a1,a7] at A;omega
   .show pj.aP s n c t.k t.n t.x h (ab .i64 ((i:Int)+1)) F _;rw [bw _ (by omega)];exact J (i+1) h ks c F (by omega) (by omega) B y
 exact pj.aD _ _ _ _ _ w _ ((Bb G).aL λc u M=>loop l.length 0 ⟨none,0,0⟩ [] c u (by omega) (by simp) (by simp) (M.jP bX 1))
def Oz {w:I} {s:O} {l:List Nd} (J:GP w s l) (op:Int) (x:Nat) (ab n:Int) (E:x<l.length) (D:cp n):
  ai U BR #[s.v,.i op,.i (x:Int),.i ab,.i n] w λr F=>(∃t:bq,r=V (dx t))/\ao w F:=by
 have hs:=fu J;have M:l[x]? =some (l[x]'E):=bc E;generalize l[x]'E=d at M;refine At.aD _ _ _ _ _ w _ ((Bb J).aL λy w1 H=>fa (be.1 (H.getD 0)) rfl M λp hp c=>⟨_,_,_,c.s0,c.s1,c.s2,H.aL λB w2 u=>?_⟩);have ret:∀(a b c:Int) (e:I) (bs:List Nat),(∀b∈bs,En.g b∈[En.g y,.g B])->LH F0 w e [.g y,.g B] [.gr s l]->loc bs e λN=>(∃t:bq,Ending.returned (.agg #[.i a,.i b,.i c])=V (dx t))/\ao w N:=λa b c e bs hb h=>h.au (λN Q=>⟨⟨⟨a,b,c⟩,rfl⟩,Q.fr⟩) hb;have A:∀e,LH F0 w e [.g y,.g B] [.gr s l]->At.aQ n y 0 0 0 e λr F=>(∃t:bq,r=V (dx t))/\ao w F:=by intro e h;refine h.aA (iL n 3 e (by omega) D) ?_;rintro _ q rfl k;refine ⟨_,rfl,k.aA (mW _ q) ?_⟩;rintro _ G rfl z;exact ⟨_,_,_,rfl,ret _ _ _ G _ (by simp) z⟩
 refine aO (λS=>u.au λe h=>h.aA (iL n _ e (by omega) D) ?_) (λS=>aO (λT=>u.au λe h=>h.aA (iL n 3 e (by omega) D) ?_) (λT=>aO (λW=>u.au λe h=>h.aA (e7 _ e) ?_) (λW=>aO (λY=>aO (λZ=>u.au λe h=>h.aA (e7 _ e) ?_) (λZ=>u.au λe h=>h.aA (Df d.x.st e) ?_)) (λY=>aO (λh6=>u.au λe h=>h.aA (e7 _ e) ?_) (λh6=>aO (λK=>bd (beq_iff_eq.2 K) (u.au λe h=>A e h)) (λK=>aO (λL=>bd (beq_iff_eq.2 L) (u.au λe h=>A e h)) (λL=>aO (λh9=>u.au λe h=>A e h) (λh9=>u.au λe h=>ret _ _ _ e _ (by simp) h))))))))
 .have hr:=jC n ((s.n:Nat):Int) (by omega);generalize fS n ((s.n:Nat):Int)=P at hr;rintro _ q rfl k;obtain ⟨j,rfl⟩:∃j:Nat,P=(j:Int):=⟨P.toNat,by omega⟩;have aa:l[j]? =some (l[j]'(by omega)):=bc (by omega);exact ⟨_,rfl,fa (be.1 (k.getD 0)) rfl aa λac hq C=>⟨_,_,_,C.s0,C.s1,C.s2,ret _ _ _ q _ (by simp) k⟩⟩
 .rintro _ q rfl k;refine ⟨_,rfl,k.aA (e7 _ q) ?_⟩;rintro _ G rfl z;exact ⟨_,_,_,rfl,ret _ _ _ G _ (by simp) z⟩
 .rintro _ q rfl k;exact ⟨_,_,_,rfl,ret _ _ _ q _ (by simp) k⟩
 .rintro _ q rfl k;exact ⟨_,_,_,rfl,ret _ _ _ q _ (by simp) k⟩
 .rintro _ q rfl k;exact ⟨_,_,_,rfl,ret _ _ _ q _ (by simp) k⟩
 .rintro _ q rfl k;exact ⟨_,_,_,rfl,ret _ _ _ q _ (by simp) k⟩
def QX {w:I} {a b:En} (d:a.P w) (e:b.P w):LH F0 w w [] [a,b]:=bZ _ (by
 intro h c;simp only [aB,a1,a7] at c;rcases c with rfl|rfl
 .exact d
 .exact e)
def MY (w:I) (l:List Int) (r:dA) (w':I):Prop:=∃s:O,r=V s.v/\aS w' bX 1 s (l.map dp)/\∀b∈ay s,w.heap.size<=b
def TN {P:aM} {t ty e:aG} {z:ae} {sz bytes:Nat} (d:gy P t e z sz bytes) {w:I} (g c D:Nat) (cur:Array ae) (T:aG) {src:O} {cs:List ae}
  (k:w.heap[g]? =some (.cells cur T (0,0))) (L:bL sz w src cs) (x:src.n<=c) (G:cs.length<=cur.size) (F:∀v∈cs,v.oneCell'=true):
  (Builtin.copy_ #[t,t] ty #[.slice (some ⟨g,0,none⟩) c D,src.v]).run P w=.ok (.int .i64 (src.n:Int)) (w.setRow g (cs++cur.toList.drop cs.length).toArray):=by
 obtain ⟨Q,C,sc⟩:=src;obtain ⟨inf,q,Z,B,W⟩:=info_parts d.hi;simp only at x;obtain ⟨hlen,Y,y,j⟩:=L;simp only at hlen y j;have J:Nat.min C c=C:=Nat.min_eq_left x;have A:=run_storeCells_at (P:=P) g 0 T cs 0 cur w k (by simpa using G) F;cases Q with
 |none=>
  obtain ⟨E,S⟩:=y rfl;subst E;have h:cs=[]:=mq (by omega);subst h;have M:w.setRow g (([]:List ae)++cur.toList.drop 0).toArray=w:=by rw [hV,List.drop_zero,Array.toArray_toList];exact setRow_self w g cur T (0,0) k
  rw [iP,M];simp [Builtin.copy_,run_underlying d.ht,Builtin.lenOf,Builtin.firstCells,sizeOf,typeInfo,q,B,storeCells,goInt]
 |some a=>
  have u:=run_loadCells_list (P:=P) w a cs (λN v H=>by obtain ⟨p,K,h⟩:=j N v H;cases K;exact h)
  rw [hlen] at u;simp only [Nat.zero_add,List.take_zero,hV] at A;simp [Builtin.copy_,run_underlying d.ht,Builtin.lenOf,Builtin.firstCells,sizeOf,typeInfo,q,B,J,u,A,goInt]
def O5 {P:aM} {t ty e:aG} {z:ae} {sz bytes:Nat} (C:gy P t e z sz bytes) {w:I} {s src:O} {vs cs:List ae} (y:aS w e sz s vs) (F:s.a≠none) (B:bL sz w src cs) (j:src.n<=s.n) (E:∀v∈cs,v.oneCell'=true):
  ∃q,(Builtin.copy_ #[t,t] ty #[s.v,src.v]).run P w=.ok (.int .i64 (src.n:Int)) q/\aS q e sz s (cs++vs.drop cs.length)/\Fr (·∈ay s) w q:=by
 have H:=y.len;have L:=B.1;rcases y.cases with ⟨rfl,rfl⟩|⟨g,cur,A,h,d,u,D,x⟩
 .exact absurd rfl F
 .obtain ⟨M,c,k⟩:=s;simp only at A j H d u D x;subst A;have J:src.n *sz<=c *sz:=kZ _ j;have K:c *sz<=k *sz:=kZ _ d;have G:cs.length<=cur.size:=by omega
  refine ⟨_,TN C g c k cur e h B j G E,?_,?_⟩
  .refine ⟨?_,.inr ⟨g,k,(cs++cur.toList.drop cs.length).toArray,rfl,dv _,setRow_heap w g cur _ e _ h,d,u,?_,?_⟩⟩
   .simp only [cd,iO];omega
   .simp only [List.size_toArray,cd,iO,Array.length_toList];omega
   .rw [List.take_append,e1 (by omega:cs.length<=c *sz),List.take_drop,<-x,List.drop_take];congr 2;rw [show cs.length+(c *sz - cs.length)=c *sz by omega,List.drop_take]
  .rw [KA h];exact (Fr.put w g _).mono λN _ e=>by simp [ay,e]
section
variable {M:Nat->Prop} {w0 w:I} {L D:List En} {bs:List Nat}
def _root_.Go.W.LH.O6 (H:LH M w0 w L D) (i:Nat) {P:aM} {t ty e:aG} {z:ae} {sz bytes:Nat} (j:gy P t e z sz bytes) {s src:O} {vs cs:List ae} {K:Int->I->Prop} (hi:L[i]? =some (.row e sz s vs)) (x:s.a≠none) (B:bL sz w src cs) (A:src.n<=s.n) (q:∀v∈cs,v.oneCell'=true)
  (u:∀w',LH M w0 w' (L.set i (.row e sz s (cs++vs.drop cs.length))) D->K (src.n:Int) w') (d:∀b∈bs,En.g b∈L:=by simp):
  ∃(k:Int) (w':I),(Builtin.copy_ #[t,t] ty #[s.v,src.v]).run P w=.ok (.i k) w'/\kept bs w w'/\K k w':=by obtain ⟨w',C,E,h⟩:=O5 (ty:=ty) j (H.get i hi) x B A q;exact ⟨_,w',C,λb c=>h.ck b (H.own _ (d b c)) λy=>H.wF hi (d b c) y,u w' (H.g9 i (.row e sz s (cs++vs.drop cs.length)) hi h E (λb c=>.inl c))⟩
end
def TR {w:I} {s t:O} {a b:List Int} (B:bS w s a) (C:bS w t b) (L:a.length<=1000000000000):ai U B8 #[s.v,t.v] w λr q=>r=V (.bool (ah (a=b)))/\ao w q:=by
 have N:=bS.len B;have M:=bS.len C;refine uU.ok s t w _ (dG (λD=>⟨by rw [a0];intro j;subst j;omega,Fr.refl _ _⟩) (λK=>?_));have loop:∀(m i:Nat) (e:I),i+m=a.length->(a=b↔a.drop i=b.drop i)->LH F0 w e [] [.rd s (a.map dp),.rd t (b.map dp)]->uU.L0 s t ((s.n:Nat):Int) (i:Int) e λr q=>r=V (.bool (ah (a=b)))/\ao w q:=by
  intro m;induction m with
  |zero=>
   intro i e H c h;rw [dt (by omega),dt (by omega)] at c;exact uU.b5 _ _ _ _ _ _ (a9 (a0 (by omega)) ⟨by rw [aW (c.2 rfl)],h.fr⟩)
  |succ m J=>
   intro i e H c h;have z:a[i]? =some (a[i]'(by omega)):=bc (by omega);have A:b[i]? =some (b[i]'(by omega)):=bc (by omega);rw [dq (by omega:i<a.length),dq (by omega:i<b.length),List.cons.injEq] at c;generalize a[i]'(by omega)=x at z c;generalize b[i]'(by omega)=y at A c;refine uU.b5 _ _ _ _ _ _ (bd (aW (by omega)) (h.dr λu d=>⟨by omega,by omega,(show bS u s a from d.getD 0).cell z (by omega) λp P E=>⟨x,E,by omega,by omega,(show bS u t b from d.getD 1).cell A (by omega) λS Q F=>⟨y,F,dG (λD=>⟨?_,d.fr⟩) (λG=>?_)⟩⟩⟩))
   .rw [a0];intro j;exact D (c.1 j).1
   .rw [bw _ (by omega)];exact J (i+1) u (by omega) (c.trans ⟨λk=>k.2,λk=>⟨G,k⟩⟩) d
 exact loop a.length 0 w (by omega) (by simp) (QX (a:=.rd s (a.map dp)) (b:=.rd t (b.map dp)) B C)
def TQ {w:I} {s:O} {l:List Int} (d:bS w s l) (C:l.length<=1000000000000):ai U B3 #[s.v] w λr q=>MY w l r q/\ao w q:=by
 have D:=bS.len d;refine KH.ok s w _ (bE (λj=>⟨⟨⟨none,0,0⟩,rfl,?_,λb e=>by cases e⟩,Fr.refl _ _⟩) (λj=>?_))
 .have x:s.a=none:=by simpa using j
  have:=(d.2.2.1 x).1;obtain rfl:l=[]:=mq (by omega);exact aS.nil w bX 1
 .have u:LH F0 w w [] [.rd s (l.map dp)]:=bZ _ (by intro B k;simp only [aB,a1,a7] at k;subst k;exact d)
  refine u.eb (n:=0) (sz:=1) (cs:=[]) rfl (by decide) λA h=>?_;have y:bS A s l:=h.getD 0;refine h.ap 0 qZ (s:=⟨some (aj w.heap.size),0,0⟩) (src:=s) rfl y.2.2 (by simp;omega) (HQ _) (by show (0+s.n) *8<=_;omega) (λz E c _ _=>⟨⟨z,rfl,c.get 0,λb e=>(c.new _ (aI (i:=0) rfl) b e).resolve_right id⟩,c.fr⟩)
def Hx {w:I} {s:O} {l:List Nd} (e:GP w s l) {i:Nat} {d:Nd} (hi:l[i]? =some d) {K:Addr->Prop} {X:Int} (h:X=(i:Int)) (k:∀p,s.a=some p->dn w (p.add (ag X *9)) d->K p):aw s X K:=by have u:=fu e;have q:=(cD.1 hi).1;subst h;exact ⟨by omega,by omega,fB.elem (f:=Nd.c) (sz:=9) Nd.mX (by omega) e.1.2.2 hi λp n j=>k p n j⟩
def UL {w:I} {p q:Addr} {a b:Nd} (ha:dn w p a) (hb:dn w q b) (ka:a.P w) (kb:b.P w) (hl:a.x.kids.length<=1000000000):ai U Cn #[.pointer (some p),.pointer (some q)] w λr w'=>r=V (.bool (ah (a.x=b.x)))/\ao w w':=by
 have z:LH F0 w w [] [.fZ p a,.fZ q b,cc a,cc b]:=bZ _ (by
  intro ac Y;simp only [aB,a1,a7] at Y;rcases Y with rfl|rfl|rfl|rfl
  .exact ha
  .exact hb
  .exact ka
  .exact kb)
 have e:∀{A:I} {L:List En},LH F0 w A L [.fZ p a,.fZ q b,cc a,cc b]->dn A p a:=λz=>z.getD 0;have h:∀{A:I} {L:List En},LH F0 w A L [.fZ p a,.fZ q b,cc a,cc b]->dn A q b:=λz=>z.getD 1;obtain ⟨⟨M,Z,J,m,S,O,st⟩,sl⟩:=a;obtain ⟨⟨N,aa,K,H,T,Q,y⟩,ab⟩:=b;have no:∀{W:I},ao w W->(⟨M,Z,J,m,S,O,st⟩:Nx)≠⟨N,aa,K,H,T,Q,y⟩->(Ending.returned (.bool false)=V (.bool (ah ((⟨M,Z,J,m,S,O,st⟩:Nx)=⟨N,aa,K,H,T,Q,y⟩)))/\ao w W):=λf d=>⟨by rw [a0 d],f⟩;refine LF.ok p q w _ (z.dr λW c=>⟨M,(e c).c0,N,(h c).c0,aO (λC=>?_) (λC=>no c.fr (λd=>C (congrArg Nx.op d)))⟩);refine ⟨J,(e c).c2,K,(h c).c2,aO (λD=>?_) (λD=>no c.fr (λd=>D (congrArg Nx.n d)))⟩;refine ⟨m,(e c).c3,H,(h c).c3,aO (λE=>?_) (λE=>no c.fr (λd=>E (congrArg Nx.m d)))⟩;refine ⟨S,(e c).c4,T,(h c).c4,aO (λF=>?_) (λF=>no c.fr (λd=>F (congrArg Nx.u d)))⟩;refine ⟨st.k,st.n,st.x,(e c).s0,(e c).s1,(e c).s2,y.k,y.n,y.x,(h c).s0,(h c).s1,(h c).s2,lF (a:=st) (b:=y) (λG=>?_) (λG=>no c.fr (λd=>G (congrArg Nx.st d)))⟩;refine ⟨sl,(e c).c1,ab,(h c).c1,c.call (TR (c.getD 2) (c.getD 3) (by simp only at hl ⊢;omega)) ?_⟩;rintro _ w2 rfl j;refine ⟨_,rfl,(h j).c3,(e j).c3,(h j).c2,(e j).c2,(h j).c0,(e j).c0,aR (λB=>⟨O,(e j).c5,Q,(h j).c5,?_,j.fr⟩) (λB=>no j.fr (λd=>B (congrArg Nx.kids d)))⟩;rw [yK];simp only at B;subst C D E F G B;simp
def UM {w:I} {s:O} {l:List Nd} {p:Addr} {d:Nd} (C:GP w s l) (J:dn w p d) (F:d.P w) (N:l.length<=1000000000) (G:∀B∈l,B.x.kids.length<=1000000000):
  ai U Co #[.agg #[s.v],.pointer (some p)] w λr y=>r=V (.i (x9 (eB d.x (xs l) 0)))/\ao w y:=by
 have Q:=fu C;have D:LH F0 w w [] [.gr s l,.fZ p d,cc d]:=bZ _ (by
  intro B c;simp only [aB,a1,a7] at c;rcases c with rfl|rfl|rfl
  .exact be.2 C
  .exact J
  .exact F)
 have loop:∀(m i:Nat) (h:Nat) (j:I),i+m=l.length->eB d.x ((xs l).drop i) i=eB d.x (xs l) 0->LH F0 w j [.g h] [.gr s l,.fZ p d,cc d]->va.aP p h s ((s.n:Nat):Int) (i:Int) j λr y=>r=V (.i (x9 (eB d.x (xs l) 0)))/\ao w y:=by
  intro m;induction m with
  |zero=>
   intro i h j H c e;rw [dt (by simp [xs];omega)] at c;exact va.bW _ _ _ _ _ _ _ (a9 (a0 (by omega)) ⟨by rw [<-c];rfl,e.fr⟩)
  |succ m L=>
   intro i h j H c e;have q:l[i]? =some (l[i]'(by omega)):=bc (by omega);have K:(xs l).drop i=(l[i]'(by omega)).x::(xs l).drop (i+1):=by rw [dq (by simp [xs];omega:i<(xs l).length)];simp [xs]
   rw [K] at c;generalize l[i]'(by omega)=a at q c;have z:GP j s l:=be.1 (e.getD 0);refine va.bW _ _ _ _ _ _ _ (bd (aW (by omega)) (Hx z q rfl λT S E=>e.aA (UL E (e.getD 1) (z.2 a (aI q)) (e.getD 2) (G a (aI q))) ?_));rintro _ M rfl A;have k:(if a.x=d.x then some i else eB d.x ((xs l).drop (i+1)) (i+1))=eB d.x (xs l) 0:=c;refine ⟨_,rfl,aR (λu=>⟨?_,A.fr⟩) (λu=>?_)⟩
   .rw [aq u] at k;rw [<-k];rfl
   .rw [af u] at k;rw [bw _ (by omega)];exact L (i+1) h M (by omega) k A
 exact va.aD s p w _ (D.aL λh j e=>loop l.length 0 h j (by omega) (by simp) e)
section
variable {M:Nat->Prop} {w0 w:I} {L D:List En} {bs:List Nat}
def TZ {A Z:List ae} {k j:Nat} {v:ae} (c:A.length=k):(A++Z).set (k+j) v=A++Z.set j v:=by subst c;rw [List.set_append,af (by omega)];congr 2;omega
def _root_.Go.W.LH.Tz (H:LH M w0 w L D) (i k:Nat) {s:O} {A Z:List ae} {p:Addr} {e:Nd} {K:I->Prop} (hi:L[i]? =some (.row bC 9 s (A++Z))) (hp:s.a=some p) (hA:A.length=k *9) (hZ:Z.length=9)
  (hK:∀w',LH M w0 w' (L.set i (.row bC 9 s (A++e.c))) D->K w') (ag:∀b∈bs,En.g b∈L:=by simp):
  av w (p.add (k *9)) (.i e.x.op) λd=>kept bs w d/\av d ((p.add (k *9)).add 1) e.ks.v λy=>kept bs d y/\av y ((p.add (k *9)).add 2) (.i e.x.n) λz=>kept bs y z/\av z ((p.add (k *9)).add 3) (.i e.x.m) λB=>kept bs z B/\av B ((p.add (k *9)).add 4) (.u e.x.u) λC=>kept bs B C/\
   av C ((p.add (k *9)).add 5) (.string e.x.tx) λE=>kept bs C E/\av E ((p.add (k *9)).add 6) (.i e.x.st.k) λF=>kept bs E F/\av F ((p.add (k *9)).add 7) (.i e.x.st.n) λG=>kept bs F G/\av G ((p.add (k *9)).add 8) (.i e.x.st.x) λN=>kept bs G N/\K N:=by
 have ah:=(cD.1 hi).1;have ai:∀{vs:List ae} {b:Nat},En.g b∈L->En.g b∈L.set i (.row bC 9 s vs):=by
  intro vs b hb;obtain ⟨ab,hj⟩:=iQ.1 hb;by_cases af:i=ab
  .subst af;rw [hi] at hj;have e1:En.row bC 9 s (A++Z)=En.g b:=Option.some.inj hj;exfalso;have e2:(En.row bC 9 s (A++Z)).P=(En.g b).P:=by rw [e1]
   have f1:(En.row bC 9 s (A++Z)).fp=(En.g b).fp:=by rw [e1]
   have ad:(En.g b).P ({w with heap:=fy (b+1) (.map #[] 0)}):=by show b<_;simp
   rw [<-e2] at ad;have hx:b∈ay s:=by show b∈(En.row bC 9 s (A++Z)).fp;rw [f1];simp [En.g]
   obtain ⟨cs,f,T⟩:=(aS.row (show aS ({w with heap:=fy (b+1) (.map #[] 0)}) bC 9 s (A++Z) from ad)).qi b hx;simp at T
  .exact aI (i:=ab) (by rw [List.getElem?_set_ne af];exact hj)
 match Z,hZ with
 |[z0,z1,z2,S,z4,Q,J,q,h],_=>
  have len:∀{vs:List ae},vs.length=9->∀c,c<9->k *9+c<(A++vs).length:=λaa c T=>by rw [cd,hA,aa];omega
  have j:∀{w':I} {L':List En} {vs:List ae} (c:Nat) (v:ae) {K':I->Prop},L'=L.set i (.row bC 9 s (A++vs))->vs.length=9->c<9->LH M w0 w' L' D->(∀Y,LH M w0 Y (L.set i (.row bC 9 s (A++vs.set c v))) D->K' Y)->av w' ((p.add (k *9)).add c) v λd=>kept bs w' d/\K' d:=by rintro w' _ vs c v K' rfl aj T H' hk;refine H'.r3 (bs:=bs) i (k *9) c (by rw [List.getElem?_set_self ah]) hp (len aj c T) (λY ac=>hk Y ?_) (λb hb=>ai (ag b hb));rw [List.set_set,TZ hA] at ac;exact ac
  have e0:L=L.set i (.row bC 9 s (A++[z0,z1,z2,S,z4,Q,J,q,h])):=by
   apply List.ext_getElem?;intro ab;rw [List.getElem?_set];split
   .rename_i aa;subst aa;rw [hi]
   .rfl
  have first:=j (w':=w) (vs:=[z0,z1,z2,S,z4,Q,J,q,h]) 0 (.i e.x.op) (K':=λd=>av d ((p.add (k *9)).add 1) e.ks.v λy=>kept bs d y/\av y ((p.add (k *9)).add 2) (.i e.x.n) λz=>kept bs y z/\av z ((p.add (k *9)).add 3) (.i e.x.m) λB=>kept bs z B/\av B ((p.add (k *9)).add 4) (.u e.x.u) λC=>kept bs B C/\
   av C ((p.add (k *9)).add 5) (.string e.x.tx) λE=>kept bs C E/\av E ((p.add (k *9)).add 6) (.i e.x.st.k) λF=>kept bs E F/\av F ((p.add (k *9)).add 7) (.i e.x.st.n) λG=>kept bs F G/\av G ((p.add (k *9)).add 8) (.i e.x.st.x) λN=>kept bs G N/\K N) e0 rfl (by decide) H (λd H1=>?_)
  .rw [hf] at first
   exact first
  refine j (vs:=[.i e.x.op,z1,z2,S,z4,Q,J,q,h]) 1 e.ks.v rfl rfl (by decide) H1 λy H2=>?_;refine j (vs:=[.i e.x.op,e.ks.v,z2,S,z4,Q,J,q,h]) 2 (.i e.x.n) rfl rfl (by decide) H2 λz H3=>?_;refine j (vs:=[.i e.x.op,e.ks.v,.i e.x.n,S,z4,Q,J,q,h]) 3 (.i e.x.m) rfl rfl (by decide) H3 λB H4=>?_;refine j (vs:=[.i e.x.op,e.ks.v,.i e.x.n,.i e.x.m,z4,Q,J,q,h]) 4 (.u e.x.u) rfl rfl (by decide) H4 λC H5=>?_;refine j (vs:=[.i e.x.op,e.ks.v,.i e.x.n,.i e.x.m,.u e.x.u,Q,J,q,h]) 5 (.string e.x.tx) rfl rfl (by decide) H5 λE H6=>?_;refine j (vs:=[.i e.x.op,e.ks.v,.i e.x.n,.i e.x.m,.u e.x.u,.string e.x.tx,J,q,h]) 6 (.i e.x.st.k) rfl rfl (by decide) H6 λF H7=>?_;refine j (vs:=[.i e.x.op,e.ks.v,.i e.x.n,.i e.x.m,.u e.x.u,.string e.x.tx,.i e.x.st.k,q,h]) 7 (.i e.x.st.n) rfl rfl (by decide) H7 λG H8=>?_;refine j (vs:=[.i e.x.op,e.ks.v,.i e.x.n,.i e.x.m,.u e.x.u,.string e.x.tx,.i e.x.st.k,.i e.x.st.n,h]) 8 (.i e.x.st.x) rfl rfl (by decide) H8 λN H9=>?_;exact hK N H9
end
def Rv (n:Nat):(madeCells (Value.agg #[.int .i64 0,.slice none 0 0,.int .i64 0,.int .i64 0,.int .u64 0,.string (az #[]),.int .i64 0,.int .i64 0,.int .i64 0]).cells (n *9)).toList.length=n *9:=by simp [madeCells]
def D1 {w:I} {s:O} {l:List Nd} {d:Nd} (ad:GP w s l) (hd:d.P w) (hk:c'.P w) (ho:jB d.x) (ae:l.length<=1000000000) (hv:∀A∈xs l,bT A.st=true) (ar:∀A∈l,A.x.kids.length<=1000000000):
  ai U uf #[.agg #[s.v],d.v] w λr w'=>(∃s':O,r=V (.tuple #[.agg #[s'.v],.i (eo (xs l) d.x).2.1,.i (eo (xs l) d.x).2.2])/\GR w (·∈(En.gr s l).fp) (eo (xs l) d.x).1 s' w')/\ao w w':=by
 have hn:=fu ad;have aw:(xs l).length=l.length:=by simp [xs]
 have ak:LH F0 w w [] [.gr s l,cc d,c']:=bZ _ (by
  intro A M;simp only [aB,a1,a7] at M;rcases M with rfl|rfl|rfl
  .exact be.2 ad
  .exact hd
  .exact hk)
 refine Lo.aD _ _ _ _ _ _ _ _ _ _ w _ (ak.aL λH N H1=>H1.nw λw2 _ H2=>H2.aL λJ w3 h=>?_);have h:LH F0 w w3 [.g H,.c N.heap.size d.c bC,.g J] [.gr s l,cc d,c']:=h;refine ⟨d.x.op,d.ks,d.x.n,d.x.m,d.x.u,d.x.tx,d.x.st.k,d.x.st.n,d.x.st.x,h.ld 1 0,h.ld 1 1,h.ld 1 2,h.ld 1 3,h.ld 1 4,h.ld 1 5,h.ld 1 6,h.ld 1 7,h.ld 1 8,?_⟩;refine h.aA (D3 (be.1 (h.getD 0)) (h.getD 1) (h.getD 2) ho ae hv) ?_;rintro _ w4 rfl H4;refine ⟨_,_,_,_,rfl,H4.aL λL w5 Y=>dG (λT=>Y.au λw6 S=>⟨⟨⟨none,0,0⟩,?_,?_⟩,S.fr⟩) (λT=>Y.au λw6 S=>?_)⟩
 .unfold eo;rw [aq T]
 .unfold eo;rw [aq T];exact GR.nil _ _ _
 have B:eo (xs l) d.x=match eB (eS d.x (bU (xs l) d.x).1) (xs l) 0 with
   |some i=>(xs l,(i:Int),0)
   |none=>if 4096<=(xs l).length then ([],0,4) else (xs l++[eS d.x (bU (xs l) d.x).1],((xs l).length:Int),0):=by unfold eo;rw [af (by omega)];try rfl
 generalize (bU (xs l) d.x).1=sr at *;refine S.u2 1 6 rfl (λw7 H7=>H7.nB 1 6 1 rfl (λw8 H8=>H8.nB 1 6 2 rfl (λw9 F=>?_) (by simp [Nd.c])) (by simp [Nd.c])) (by simp [Nd.c])
 let A:Nd:=⟨eS d.x sr,d.ks⟩
 have F:LH F0 w w9 [.g H,.c N.heap.size A.c bC,.g J,.g L] [.gr s l,cc d,c']:=F;refine F.aA (UM (d:=A) (be.1 (F.getD 0)) (uj (F.ob 1)) (F.getD 1) ae ar) ?_;rintro _ ax rfl D;refine ⟨_,rfl,?_⟩;have M:A.x=eS d.x sr:=rfl;rw [M];cases hi:eB (eS d.x sr) (xs l) 0 with
 |some i=>
  rw [hi] at B;rw [B];exact bd (aW (Int.natCast_nonneg i)) (D.au λag E=>⟨⟨s,rfl,⟨l,rfl,be.1 (E.getD 0),λb q=>.inl q⟩⟩,E.fr⟩)
 |none=>
  rw [hi] at B;dsimp only at B;refine a9 (by decide) (aR (λh4=>D.au λag E=>⟨⟨⟨none,0,0⟩,?_,?_⟩,E.fr⟩) (λh4=>?_))
  .rw [B,aq (by omega)]
  .rw [B,aq (by omega)];exact GR.nil _ _ _
  rw [af (by omega)] at B;rw [B];refine ⟨d.ks,D.ld 1 1,D.jF (TQ (show bS ax d.ks d.x.kids from D.getD 1) (by have:=ho.kl;omega)) ?_⟩;rintro _ ag ⟨aa,rfl,ap,ac⟩ _ ah;have E:=ah.rd (.rd aa (d.x.kids.map dp)) (uo ap) (oA ac);refine ⟨_,rfl,E.u2 1 1 rfl (λC K=>?_) (by simp [Nd.c])⟩
  let z:Nd:=⟨eS d.x sr,aa⟩
  have K:LH F0 w C [.g H,.c N.heap.size z.c bC,.g J,.g L] [.gr s l,cc d,c',cc z]:=K;have e1:ab .i64 (((s.n:Nat):Int)+1)=((l.length+1:Nat):Int):=by rw [a4 _ (by omega),hn];rfl
  rw [e1];obtain ⟨W,r1,r2,r3⟩:=Rw kE C (l.length+1) (by omega);have Q:=K.SB r3 r2 (by intro b q;simp [ay] at q;omega);have kp:∀b∈[H,J,L],W.heap[b]? =C.heap[b]?:=λb q=>by
   have hg:En.g b∈[En.g H,.c N.heap.size z.c bC,.g J,.g L]:=by simp only [aB,a1,a7] at q ⊢;rcases q with rfl|rfl|rfl<;>simp
   exact r3.ck b (K.own _ hg) id
  refine ⟨⟨some (aj C.heap.size),l.length+1,l.length+1⟩,W,r1,kp,?_⟩;generalize an:(madeCells (Value.agg #[.int .i64 0,.slice none 0 0,.int .i64 0,.int .i64 0,.int .u64 0,.string (az #[]),.int .i64 0,.int .i64 0,.int .i64 0]).cells ((l.length+1) *9)).toList=CK at Q;have hold:CK.length=(l.length+1) *9:=by rw [<-an];exact Rv _
  have av:=Nd.gl l;refine Q.O6 4 kE rfl (by simp) (show bL 9 W s (l.flatMap Nd.c) from (be.1 (Q.getD 0)).1) (by simp only;omega) oo (λaE y=>?_);have hz:(CK.drop (l.flatMap Nd.c).length).length=9:=by rw [iO];omega
  generalize CK.drop (l.flatMap Nd.c).length=Z at hz y;refine ⟨_,_,_,_,_,_,_,_,_,y.ld 1 0,y.ld 1 1,y.ld 1 2,y.ld 1 3,y.ld 1 4,y.ld 1 5,y.ld 1 6,y.ld 1 7,y.ld 1 8,by omega,by simp only;omega,CS ?_⟩;rw [hn,dJ];refine y.Tz (e:=z) 4 l.length rfl rfl av hz (λaF al=>?_);refine al.au λaC G=>⟨⟨_,by rw [aw],⟨l++[z],by simp [xs,z],⟨?_,λa j=>?_⟩,λb q=>?_⟩⟩,G.fr⟩
  .have:aS aC bC 9 ⟨some (aj C.heap.size),l.length+1,l.length+1⟩ (l.flatMap Nd.c++z.c):=G.get 4;have:=this.bz;simpa using this
  .rcases a5.1 j with j|j
   .exact (be.1 (G.getD 0)).2 a j
   .simp only [aB,a1,a7] at j;subst j;exact G.getD 3
  .rcases j7.1 q with q|⟨a,j,q⟩
   .right;have am:b∈(En.row bC 9 ⟨some (aj C.heap.size),l.length+1,l.length+1⟩ (l.flatMap Nd.c++z.c)).fp:=by
     have:b∈(if (l++[z]).flatMap Nd.c=[] then [] else ay ⟨some (aj C.heap.size),l.length+1,l.length+1⟩):=q;split at this
     .cases this
     .exact this
    exact (G.new _ (aI (i:=4) rfl) b am).resolve_right id
   .rcases a5.1 j with j|j
    .exact .inl (j7.2 (.inr ⟨a,j,q⟩))
    .simp only [aB,a1,a7] at j;subst j;exact .inr (bH D.fr.size (oA ac b q))
abbrev ko (d:Nat) (s:O) (mp mv:Nat) (l:List Nd) (hr:Array MapEntry) (c1:Nat) (g3:Array MapEntry) (c2:Nat):List En:=
 [.c d [s.v,.map (some mp),.map (some mv)] qh,.row bC 9 s (l.flatMap Nd.c),.ob mp (.map hr c1),.ob mv (.map g3 c2)]
def g' (w:I) (c:Nat) (l:List Nd) (own:List Nat):Prop:=∃(s:O) (mp mv:Nat) (hr:Array MapEntry) (c1:Nat) (g3:Array MapEntry) (c2:Nat),own=(ko c s mp mv l hr c1 g3 c2).flatMap (·.fp)/\own.Nodup/\(∀d∈ko c s mp mv l hr c1 g3 c2,d.P w)/\jA hr (ir (xs l) 0)/\jA g3 (hE (xs l))
def qp (w:I) (e:Nat) (own:List Nat) (l:List Nd) (w':I):Prop:=∃c,g' w' e l c/\Fr (·∈own) w w'/\∀d∈c,d∈own\/w.heap.size<=d
def g'.open {w:I} {e:Nat} {l:List Nd} {own:List Nat} (u:g' w e l own) (D:List En) (j:∀c∈D,c.P w/\∀b∈c.fp,b∉own):
  ∃(s:O) (mp mv:Nat) (hr:Array MapEntry) (c1:Nat) (g3:Array MapEntry) (c2:Nat),jA hr (ir (xs l) 0)/\jA g3 (hE (xs l))/\LH (·∈own) w w (ko e s mp mv l hr c1 g3 c2) D:=by
 obtain ⟨s,mp,mv,hr,c1,g3,c2,n,C,z,x,y⟩:=u;have k:∀c∈ko e s mp mv l hr c1 g3 c2,∀b∈c.fp,b∈own:=λc d b h=>by rw [n];exact ch.2 ⟨c,d,h⟩
 exact ⟨s,mp,mv,hr,c1,g3,c2,x,y,LH.u1 _ _ (λc d=>⟨z c d,k c d⟩) (n▸C) (λc d=>⟨(j c d).1,λb h q A B=>(j c d).2 b h (k q A b B)⟩)⟩
def g'.close {w w':I} {c:Nat} {l:List Nd} {own:List Nat} {s:O} {mp mv:Nat} {hr:Array MapEntry} {c1:Nat} {g3:Array MapEntry} {c2:Nat} {D:List En} (H:LH (·∈own) w w' (ko c s mp mv l hr c1 g3 c2) D) (e:jA hr (ir (xs l) 0)) (h:jA g3 (hE (xs l))):qp w c own l w':=
 ⟨_,⟨s,mp,mv,hr,c1,g3,c2,rfl,H.nd,H.own,e,h⟩,H.fr,λq n=>by obtain ⟨d,k,j⟩:=ch.1 n;exact (H.new d k q j).symm⟩
def Ik:vD U Ej dy bX (.int .i64 0):=⟨by kernel_rfl,by kernel_rfl,by kernel_rfl⟩
def Il:vD U Ei dy b3 (.agg #[.int .i64 0,.int .i64 0,.int .i64 0]):=⟨by kernel_rfl,by kernel_rfl,by kernel_rfl⟩
def _root_.Go.W.En.cl (p:Addr) (v:ae):En:=⟨[p.block],λd=>d.cell? p=some v,λd k h c=>by have j:=mY c;unfold World.cell? at c ⊢;rw [h p.block (by simp) j];exact c,λd c b e=>by simp at e;subst e;exact mY c,by simp⟩
def Rn {l:List Nd} (t:ByteArray):∃(a b c:Int) (y:Bool),((jn (hE (xs l)) t).getD (.agg #[.int .i64 0,.int .i64 0,.int .i64 0]))=.agg #[.i a,.i b,.i c]/\(jn (hE (xs l)) t).isSome=y/\ly (xs l) t=V (.tuple #[.agg #[.i a,.i b,.i c],.bool y]):=by
 rw [Ep];unfold ly;cases hD (xs l) t with
 |none=>exact ⟨0,0,0,false,rfl,rfl,rfl⟩
 |some s=>exact ⟨s.k,s.n,s.x,true,rfl,rfl,rfl⟩
def Nn {w:I} {d:Nat} {l:List Nd} {s:O} {mp mv:Nat} {hr:Array MapEntry} {c1:Nat} {g3:Array MapEntry} {c2:Nat} {h:Addr} (A:∀j∈ko d s mp mv l hr c1 g3 c2,j.P w) (B:jA g3 (hE (xs l))) (C:w.cell? h=some (.pointer (some (aj d)))) (t:ByteArray):
  ai U xO #[.string t,.pointer (some h)] w λr D=>r=ly (xs l) t/\ao w D:=by
 have k:LH F0 w w [] (ko d s mp mv l hr c1 g3 c2++[.cl h (.pointer (some (aj d)))]):=bZ _ (by
  intro j c;rcases a5.1 c with c|c
  .exact A j c
  .simp only [aB,a1,a7] at c;subst c;exact C)
 obtain ⟨a,b,u,E,x,y,z⟩:=Rn (l:=l) t;refine Lu.aD t h w _ (k.aL λF H e=>⟨_,e.getD 4,CS ⟨some mv,cellAt (p:=aj d) (e.getD 0) rfl rfl,a,b,u,E,?_,e.aL λG J n=>n.au λK q=>⟨z.symm,q.fr⟩⟩⟩);rw [Ig Il (e.getD 3) B t,x,y]
def Np {w:I} {k:Nat} {l:List Nd} {own:List Nat} {d:Nd} (M:g' w k l own) (S:∀j∈l,j.P w) (O:d.P w) (Q:c'.P w) (W:jB d.x) (T:l.length<=1000000000) (Z:∀j∈xs l,bT j.st=true):
  ai U Cj #[.pointer (some (aj k)),d.v] w λr C=>r=fN (bU (xs l) d.x)/\ao w C:=by
 obtain ⟨s,mp,B,u,n,y,q,_,_,z,_,N⟩:=M;have Y:aS w bC 9 s (l.flatMap Nd.c):=z _ (aI (i:=1) rfl);have E:LH F0 w w [] (ko k s mp B l u n y q++[.gr s l,cc d,c']):=bZ _ (by
  intro j h;rcases a5.1 h with h|h
  .exact z j h
  .simp only [aB,a1,a7] at h;rcases h with rfl|rfl|rfl
   .exact be.2 ⟨Y.bz,S⟩
   .exact O
   .exact Q)
 refine Lt.aD _ _ _ _ _ _ _ _ _ _ w _ (E.nw λw1 _ F=>F.aL λb3 w2 G=>G.aL λb4 w3 H=>H.au λD e=>⟨_,e.jN 0,CS ⟨s,cellAt (p:=aj k) (e.getD 0) rfl rfl,?_⟩⟩);have L:LH F0 D D [] (.gr s l::cc d::c'::(ko k s mp B l u n y q++[.cl (aj w.heap.size) (.pointer (some (aj k)))])):=bZ _ (by
  intro j h;simp only [nq,hV,aB,a1,a7] at h;rcases h with rfl|rfl|rfl|rfl|rfl|rfl|rfl|rfl
  .exact e.getD 4
  .exact e.getD 5
  .exact e.getD 6
  .exact e.getD 0
  .exact e.getD 1
  .exact e.getD 2
  .exact e.getD 3
  .exact e.jN 0)
 refine e.aA (Li ⟨xO,#[],#[.pointer (some (aj w.heap.size))]⟩ L (by kernel_rfl) (λC A=>?_) W T Z) ?_
 .exact Nn (λj h=>A j (List.mem_append_left _ h)) N (A (.cl (aj w.heap.size) (.pointer (some (aj k)))) (by simp)) d.x.tx
 .rintro _ w5 rfl J;exact ⟨_,_,_,_,rfl,J.au λw6 K=>⟨rfl,K.fr⟩⟩
def m5 (g:List Nx) (n:Nx):Int×Bool:=match eB n g 0 with
 |some i=>((i:Int),true)
 |none=>(0,false)
def find_eq {g:List Nx} {n:Nx} (d:0<=n.u) (e:∀c∈g,0<=c.u):(jn (ir g 0) (jM n)).getD (.int .i64 0)=.i (m5 g n).1/\(jn (ir g 0) (jM n)).isSome=(m5 g n).2:=by
 rw [C' d e];unfold m5;cases eB n g 0 with
 |none=>exact ⟨rfl,rfl⟩
 |some i=>exact ⟨rfl,rfl⟩
def Nm {w:I} {e:Nat} {l:List Nd} {own:List Nat} {d:Nd} (E:g' w e l own) (H:d.P w) (W:fk d.x) (J:∀k∈xs l,0<=k.u):
  ai U Ci #[.pointer (some (aj e)),d.v] w λr L=>r=V (.tuple #[.i (m5 (xs l) d.x).1,.bool (m5 (xs l) d.x).2])/\ao w L:=by
 obtain ⟨s,mp,K,C,y,D,z,_,_,G,F,_⟩:=E;have n:LH F0 w w [] (ko e s mp K l C y D z++[cc d]):=bZ _ (by
  intro k c;rcases a5.1 c with c|c
  .exact G k c
  .simp only [aB,a1,a7] at c;subst c;exact H)
 refine Ls.ok _ _ _ _ _ _ _ _ _ _ w _ (n.nw λM _ q=>q.dr λN h=>⟨some mp,cellAt (p:=aj e) (h.getD 0) rfl rfl,h.call (Lh (d:=d) (uj (h.ob 0)) (h.getD 4) W) ?_⟩);rintro _ O rfl j;obtain ⟨A,B⟩:=find_eq W.u.1 J;refine ⟨_,rfl,cellAt (p:=aj e) (j.getD 0) rfl rfl,(m5 (xs l) d.x).1,(m5 (xs l) d.x).2,?_,rfl,j.fr⟩;have:=Ig Ik (j.getD 2) F (jM d.x);rw [A,B] at this;exact this
def E6 {w:I} {y:Nat} {l:List Nd} {own:List Nat} {d:Nd} (ag:g' w y l own) (hd:d.P w) (ah:∀b∈(cc d).fp,b∉own) (W:fk d.x) (hu:∀z∈xs l,0<=z.u) (hl:l.length<=100000) (ak:d.x∉xs l) (am:d.x.op=0->hD (xs l) d.x.tx=none):
  ai U xN #[.pointer (some (aj y)),d.v] w λr S=>r=V (.i (l.length:Int))/\qp w y own (l++[d]) S:=by
 obtain ⟨s,mp,F,ao,K,ae,M,h1,h2,aa⟩:=ag.open [cc d] (by intro z he;simp only [aB,a1,a7] at he;subst he;exact ⟨hd,ah⟩)
 have hn:s.n=l.length:=Nd.cj (show bL 9 w s (l.flatMap Nd.c) from (show aS w bC 9 s (l.flatMap Nd.c) from aa.get 1).bz);have g1:jn (ir (xs l) 0) (jM d.x)=none:=by
  rw [C' W.u.1 hu];cases hi:eB d.x (xs l) 0 with
  |none=>rfl
  |some i=>
   have:=(tB hi).2;exact absurd (aI this) ak
 have ac:xs (l++[d])=xs l++[d.x]:=by simp [xs]
 have p1:ir (xs (l++[d])) 0=ir (xs l) 0++[(jM d.x,.i (l.length:Int))]:=by rw [ac,I9];simp [xs]
 have p2:hE (xs (l++[d]))=hE (xs l)++(if d.x.op=0 then [(d.x.tx,dx d.x.st)] else []):=by rw [ac,L']
 have ab:∀(C:Array MapEntry) (L:Nat) (q:Array MapEntry) (N Q:Nat) (H:I),jA C (ir (xs (l++[d])) 0)->jA q (hE (xs (l++[d])))->LH (·∈own) w H (ko y s mp F l C L q N++[.c Q d.c bC]) [cc d]->
   D7.S0 (aj y) (aj Q) H λr S=>r=V (.i (l.length:Int))/\qp w y own (l++[d]) S:=by
  intro C L q N Q H G q2 J;refine J.dr λY e=>⟨s,e.ld 0 0,?_⟩;refine ⟨d.x.op,d.ks,d.x.n,d.x.m,d.x.u,d.x.tx,d.x.st.k,d.x.st.n,d.x.st.x,e.ld 4 0,e.ld 4 1,e.ld 4 2,e.ld 4 3,e.ld 4 4,e.ld 4 5,e.ld 4 6,e.ld 4 7,e.ld 4 8,e.nw λw3 _ h=>⟨h.ld 0 0,?_⟩⟩;have ad:bL 9 w3 ⟨some (aj Y.heap.size),1,1⟩ ([d].flatMap Nd.c):=by rw [show [d].flatMap Nd.c=d.c by simp];exact vS (T:=bC) (h.ob 5) rfl
  refine h.ap 1 kE (src:=⟨some (aj Y.heap.size),1,1⟩) rfl ad.2.2 ad.1 oo (by simp only;omega) (λs' Z A al _=>A.st 0 0 rfl (λw5 j=>⟨s',j.ld 0 0,?_⟩));refine ⟨?_,g'.close (s:=s') (mp:=mp) (mv:=F) (hr:=C) (c1:=L) (g3:=q) (c2:=N) (D:=[cc d]) ?_ G q2⟩
  .rw [al,a4 _ (by simp only;omega)];simp only;rw [hn];congr 2;omega
  .have:=j.take 4;unfold ko;rw [show (l++[d]).flatMap Nd.c=l.flatMap Nd.c++[d].flatMap Nd.c from dh];exact this
 refine D7.ok _ _ _ _ _ _ _ _ _ _ w _ (aa.nw λH _ J=>J.dr λY e=>⟨some mp,e.ld 0 1,s,e.ld 0 0,e.call (Lh (d:=d) (uj (e.ob 4)) (e.getD 0) W) ?_⟩);rintro _ w3 rfl h;obtain ⟨Z,B,u1,u2,u3,u4,_⟩:=L7 Ik (h.ob 2) h1 (jM d.x) (.i ((s.n:Nat):Int)) g1;have A:=h.g9 2 (.ob mp (.map B (K+1))) rfl (u4.mono λan _ z=>by simp [En.ob,z]) u2 (λb O=>.inl O);have G:jA B (ir (xs (l++[d])) 0):=by rw [p1,<-hn];exact u3
 refine ⟨_,rfl,h.ld 0 0,h.ld 0 1,Z,u1,d.x.op,A.ld 4 0,aO (λE=>?_) (λE=>?_)⟩
 .refine A.dr λw5 j=>⟨some F,j.ld 0 2,d.x.tx,j.ld 4 5,?_⟩;have g2:jn (hE (xs l)) d.x.tx=none:=by rw [Ep,am E];rfl
  obtain ⟨w6,q,v1,v2,v3,v4,_⟩:=L7 Il (j.ob 3) h2 d.x.tx (dx d.x.st) g2;have H6:=j.g9 3 (.ob F (.map q (M+1))) rfl (v4.mono λan _ z=>by simp [En.ob,z]) v2 (λb O=>.inl O);have a:=uj (d:=d) (j.ob 4);refine ⟨d.x.st.k,d.x.st.n,d.x.st.x,a.s0,a.s1,a.s2,w6,v1,ab B (K+1) q (M+1) w.heap.size w6 G ?_ H6⟩;rw [p2,aq E];exact v3
 .refine ab B (K+1) ae M w.heap.size Z G ?_ A;rw [p2,af E,fI];exact h2
def g'.st {w w':I} {d:Nat} {l:List Nd} {own:List Nat} (x:g' w d l own) (k:∀b∈own,b<w.heap.size->w'.heap[b]? =w.heap[b]?):g' w' d l own:=by obtain ⟨s,mp,E,q,j,u,n,h,D,A,y,z⟩:=x;exact ⟨s,mp,E,q,j,u,n,h,D,λc e=>c.st w w' (λb B C=>k b (by rw [h];exact ch.2 ⟨c,e,B⟩) C) (A c e),y,z⟩
def g'.lt {w:I} {e:Nat} {l:List Nd} {own:List Nat} (h:g' w e l own):∀b∈own,b<w.heap.size:=by obtain ⟨s,mp,C,x,q,y,u,n,B,j,z,A⟩:=h;intro b c;rw [n] at c;obtain ⟨d,k,c⟩:=ch.1 c;exact d.lt w (j d k) b c
def _root_.Go.W.En.bu (h:Nat) (own:List Nat) (l:List Nd):En:=⟨jj own,λe=>g' e h l own,λe k j d=>d.st λb c=>j b (aT.2 c),λe d b c=>d.lt b (aT.1 c),nk _⟩
def Nz (w:I) (c:Nat) (own:List Nat) (l:List Nd) (b:Nat):¬(En.bu c own l).P ({w with heap:=fy (b+1) (.map #[] 0)}):=by rintro ⟨s,mp,z,k,h,n,j,y,x,e,q,u⟩;have d:=e _ (aI (i:=0) rfl);exact vX w c _ qh b d
section
variable {M:Nat->Prop} {w0 w:I} {L D:List En} {bs:List Nat}
def _root_.Go.W.LH.Ny (H:LH M w0 w L D) (i:Nat) {c:Nat} {own:List Nat} {l e:List Nd} {w':I} (hi:L[i]? =some (.bu c own l)) (h:qp w c own e w'):∃d,LH M w0 w' (L.set i (.bu c d e)) D/\g' w' c e d:=by obtain ⟨d,r,f,o⟩:=h;exact ⟨d,H.g9 i (.bu c d e) hi (f.mono λn _ k=>aT.2 k) r (λb j=>(o b (aT.1 j)).imp aT.2 id),r⟩
def _root_.Go.W.LH.Fa (H:LH M w0 w L D) (i:Nat) {d:Nat} {own:List Nat} {l j:List Nd} {P:aM} {g:bJ} {args:Array ae} {A:dA->Prop} {K:aa} (hi:L[i]? =some (.bu d own l)) (x:ai P g args w λr c=>A r/\qp w d own j c)
  (y:∀r c e,A r->LH M w0 c (L.set i (.bu d e j)) D->K r c) (u:∀b∈bs,En.g b∈L:=by simp):cU bs P g args w K:=
 ⟨(·∈own),λb q z=>n5 H hi (Nz w d own l) (u b q) (aT.2 z),x.mono λr c ⟨n,h⟩=>by obtain ⟨_,_,f,_⟩:=id h;obtain ⟨e,k,_⟩:=H.Ny i hi h;exact ⟨f,y r c e n k⟩⟩
end
def g'.nil (w:I):qp w (w.heap.size+2) [] [] ((((w.alloc (.map #[] 0)).alloc (.map #[] 0)).alloc (.cells #[.slice none 0 0,.map (some w.heap.size),.map (some (w.heap.size+1))] qh))):=by
 have k:(w.alloc (.map #[] 0)).heap.size=w.heap.size+1:=size_alloc _ _;have u:((w.alloc (.map #[] 0)).alloc (.map #[] 0)).heap.size=w.heap.size+2:=by rw [size_alloc,k]
 have n:(w.alloc (.map #[] 0)).heap[w.heap.size]? =some (.map #[] 0):=gJ w _;have q:=(Fr.alloc F0 (w.alloc (.map #[] 0)) (.map #[] 0)).at n id;have j:=gJ (w.alloc (.map #[] 0)) (.map #[] 0);rw [k] at j;have c:=Fr.alloc F0 ((w.alloc (.map #[] 0)).alloc (.map #[] 0)) (.cells #[.slice none 0 0,.map (some w.heap.size),.map (some (w.heap.size+1))] qh);have e:=gJ ((w.alloc (.map #[] 0)).alloc (.map #[] 0)) (.cells #[.slice none 0 0,.map (some w.heap.size),.map (some (w.heap.size+1))] qh);rw [u] at e;have f:ao w (((w.alloc (.map #[] 0)).alloc (.map #[] 0)).alloc (.cells #[.slice none 0 0,.map (some w.heap.size),.map (some (w.heap.size+1))] qh)):=((Fr.alloc F0 w _).cR (Fr.alloc F0 _ _)).cR c;refine ⟨_,⟨⟨none,0,0⟩,w.heap.size,w.heap.size+1,#[],0,#[],0,rfl,?_,λy h=>?_,rfl,rfl⟩,f.nl,λx d=>?_⟩
 .show ([w.heap.size+2]++([]++([w.heap.size]++([w.heap.size+1]++[])))).Nodup;simp
 .simp only [aB,a1,a7] at h;rcases h with rfl|rfl|rfl|rfl
  .exact e
  .exact aS.nil _ _ _
  .exact c.at q id
  .exact c.at j id
 .have d:x∈[w.heap.size+2]++([]++([w.heap.size]++([w.heap.size+1]++[]))):=d;simp at d;right;omega
def Er {g:List Nx} (h:Vg g):∀i d,g[i]? =some d->d∉g.take i:=by
 induction h with
 |nil=>intro i d c;simp at c
 |@snoc g u n q j k=>
  intro i d c;rcases Nat.lt_or_ge i g.length with e|e
  .rw [List.getElem?_append_left e] at c;rw [List.take_append_of_le_length (by omega)];exact k i d c
  .rw [List.getElem?_append_right e] at c;have:i - g.length=0:=by have:=(cD.1 c).1;simp at this;omega
   rw [this] at c;simp at c;subst c;rw [show i=g.length by omega,List.take_left];exact j
def Ma {g:List Nx} (c:Vg g) {i:Nat} {d:Nx} (e:g[i]? =some d) (q:d.op=0):hD (g.take i) d.tx=none:=by
 cases x:hD (g.take i) d.tx with
 |none=>rfl
 |some s=>
  obtain ⟨j,h,k,n,_⟩:=Eo x;obtain ⟨y,u⟩:=iQ.1 (mr h);have w:=c.vars j (mr h) k d (aI e) q n;have:=var_eq (c.DN y j u) (c.DN i d e) k q n w;exact absurd (this▸h) (Er c i d e)
def No {w:I} {s:O} {l:List Nd} (M:GP w s l) (P:Vg (xs l)) (N:∀c∈xs l,fk c) (hl:l.length<=100000):
  ai U Cm #[.agg #[s.v]] w λr C=>(∃e own,r=V (.pointer (some (aj e)))/\g' C e l own/\∀z∈own,w.heap.size<=z)/\ao w C:=by
 have hn:=fu M;have Q:LH F0 w w [] [.gr s l]:=bZ _ (by intro K B;simp only [aB,a1,a7] at B;subst B;exact be.2 M)
 have loop:∀(m i y e:Nat) (own:List Nat) (h:I),i+m=l.length->LH F0 w h [.g y,.bu e own (l.take i)] [.gr s l]->
   u'.aP (aj e) s ((s.n:Nat):Int) (i:Int) h λr C=>(∃e own,r=V (.pointer (some (aj e)))/\g' C e l own/\∀z∈own,w.heap.size<=z)/\ao w C:=by
  intro m;induction m with
  |zero=>
   intro i y e own h Z q;refine u'.bW _ _ _ _ _ _ (a9 (a0 (by omega)) ⟨⟨e,own,rfl,?_,λz J=>(q.new _ (aI (i:=1) rfl) z (aT.2 J)).resolve_right id⟩,q.fr⟩);have:=q.get 1;rw [e1 (by omega)] at this;exact this
  |succ m ih=>
   intro i y e own h Z q;have A:l[i]? =some (l[i]'(by omega)):=bc (by omega);generalize l[i]'(by omega)=c at A;refine u'.bW _ _ _ _ _ _ (bd (aW (by omega)) (fa (be.1 (q.getD 0)) rfl A λp hp j=>⟨c.x.op,c.ks,c.x.n,c.x.m,c.x.u,c.x.tx,c.x.st.k,c.x.st.n,c.x.st.x,j.c0,j.c1,j.c2,j.c3,j.c4,j.c5,j.c6,j.c7,j.c8,q.aL λb5 w2 E=>E.au λw3 D=>?_⟩));have H:=aI A;have L:=nK A;have F:xs (l.take i)=(xs l).take i:=by simp [xs,List.map_take]
   have W:l.take (i+1)=l.take i++[c]:=by rw [gC,A];rfl
   refine D.Fa 1 rfl (E6 (l:=l.take i) (d:=c) (D.get 1) ((be.1 (D.getD 0)).2 c H) (λb G hm=>D.dj (.gr s l) (by simp) b (j7.2 (.inr ⟨c,H,G⟩)) (.bu e own (l.take i)) (by simp) (aT.2 hm)) (N _ (cQ.2 ⟨c,H,rfl⟩)) (λK B=>(N K (by rw [F] at B;exact mr B)).u.1) (by rw [dL];omega) (by rw [F];exact Er P i c.x L) (λY=>by rw [F];exact Ma P L Y)) ?_;rintro _ w4 aa rfl S;refine ⟨_,rfl,?_⟩;rw [bw _ (by omega)];refine ih (i+1) y e aa w4 (by omega) ?_;rw [W];exact S.take 2
 refine u'.aD s w _ (Q.aL λy h q=>?_);obtain ⟨own,r,f,o⟩:=g'.nil h;have E:=(q.fresh (f.mono λz _ J=>by cases J)).own (.bu (h.heap.size+2) own []) r (λb G=>(o b (aT.1 G)).resolve_left (by simp));have T:((h.alloc (.map #[] 0)).alloc (.map #[] 0)).heap.size=h.heap.size+2:=by rw [size_alloc,size_alloc]
 have:=loop l.length 0 y (h.heap.size+2) own _ (by omega) E;have s1:(h.alloc (.map #[] 0)).heap.size=h.heap.size+1:=size_alloc _ _;rw [<-T,<-s1] at this;exact this
def jt:List Nx->List Nx->Int
 |_,[]=>0
 |g,c::r=>if (bU g c).2≠0 then (bU g c).2 else if (bU g c).1≠c.st then 9 else if c∈g then 8 else jt (g++[c]) r
def yU (g:List Nx) (n:Nx) (r:List Nx):jt g (n::r)=if (bU g n).2≠0 then (bU g n).2 else if (bU g n).1≠n.st then 9 else if n∈g then 8 else jt (g++[n]) r:=rfl
def gR (g:List Nx):Int:=if 4096<g.length then 4 else jt [] g
def PG {g:List Nx} {n:Nx}:(m5 g n).2=ah (n∈g):=by
 unfold m5;cases c:eB n g 0 with
 |none=>exact (a0 (wI c)).symm
 |some i=>exact (aW (aI (tB c).2)).symm
def Le {w:I} {s:O} {l:List Nd} (q:GP w s l) (hk:c'.P w) (D:l.length<=4096->∀c∈l,jB c.x/\fk c.x):
  ai U xL #[.agg #[s.v]] w λr Y=>r=V (.i (gR (xs l)))/\ao w Y:=by
 have hn:=fu q;have ah:(xs l).length=l.length:=by simp [xs]
 have ab:LH F0 w w [] [.gr s l,c']:=bZ _ (by
  intro J E;simp only [aB,a1,a7] at E;rcases E with rfl|rfl
  .exact be.2 q
  .exact hk)
 refine u7.aD s w _ (ab.aL λC F y=>aR (λac=>⟨by unfold gR;rw [aq (by omega)],y.fr⟩) (λac=>?_));have D:=D (by omega);have ae:gR (xs l)=jt [] (xs l):=by unfold gR;rw [af (by omega)]
 rw [ae];have loop:∀(m i C e:Nat) (own:List Nat) (F:I),i+m=l.length->Vg ((xs l).take i)->jt ((xs l).take i) ((xs l).drop i)=jt [] (xs l)->LH F0 w F [.g C,.bu e own (l.take i)] [.gr s l,c']->
   u7.aP (some (aj e)) s ((s.n:Nat):Int) (i:Int) F λr Y=>r=V (.i (jt [] (xs l)))/\ao w Y:=by
  intro m;induction m with
  |zero=>
   intro i C e own F hi W j y;refine u7.bW _ _ _ _ _ _ (a9 (a0 (by omega)) ⟨?_,y.fr⟩);rw [<-j,dt (by omega)];rfl
  |succ m ih=>
   intro i C e own F hi W j y;have L:l[i]? =some (l[i]'(by omega)):=bc (by omega);have hx:(xs l).drop i=(l[i]'(by omega)).x::(xs l).drop (i+1):=by rw [dq (by omega:i<(xs l).length)];simp [xs]
   generalize l[i]'(by omega)=c at L hx;have B:=aI L;have gx:=nK L;have K:xs (l.take i)=(xs l).take i:=by simp [xs,List.map_take]
   have es:l.take (i+1)=l.take i++[c]:=by rw [gC,L];rfl
   have Z:(xs l).take (i+1)=(xs l).take i++[c.x]:=by rw [gC,gx];rfl
   rw [hx,yU] at j;have hu:∀J∈xs (l.take i),0<=J.u:=λJ E=>by obtain ⟨a,ha,rfl⟩:=cQ.1 E;exact (D a (mr ha)).2.u.1
   refine u7.bW _ _ _ _ _ _ (bd (aW (by omega)) (fa (be.1 (y.getD 0)) rfl L λp hp h=>⟨c.x.op,c.ks,c.x.n,c.x.m,c.x.u,c.x.tx,c.x.st.k,c.x.st.n,c.x.st.x,h.c0,h.c1,h.c2,h.c3,h.c4,h.c5,h.c6,h.c7,h.c8,y.aL λb5 w2 Q=>Q.au λw3 G=>?_⟩));refine G.aA (Np (l:=l.take i) (d:=c) (G.get 1) (λJ E=>(be.1 (G.getD 0)).2 J (mr E)) ((be.1 (G.getD 0)).2 c B) (G.getD 1) (D c B).1 (by rw [dL];omega) (by rw [K];exact W.val)) ?_;rintro _ w4 rfl H4;rw [K];refine ⟨_,_,_,_,rfl,H4.aL λb6 w5 S=>dG (λA=>S.au λw6 z=>⟨by rw [<-j,aq A],z.fr⟩) (λA=>uQ (a:=(bU ((xs l).take i) c.x).1) (b:=c.x.st) (λN=>S.au λw6 z=>⟨by rw [<-j,af (λq=>q A),aq N],z.fr⟩) (λN=>S.au λw6 z=>?_))⟩;rw [af (λq=>q A),af (λq=>q N)] at j;refine z.aA (Nm (l:=l.take i) (d:=c) (z.get 1) ((be.1 (z.getD 0)).2 c B) (D c B).2 hu) ?_;rintro _ w7 rfl H;refine ⟨_,_,rfl,?_⟩;rw [PG,K];refine aR (λM=>⟨by rw [<-j,aq M],H.fr⟩) (λM=>?_);rw [af M] at j;have aa:Vg ((xs l).take (i+1)):=by rw [Z];exact .snoc W (by rw [<-N,<-A]) M
   have gt:((xs l).take (i+1))[i]? =some c.x:=by rw [List.getElem?_take,aq (by omega)];exact gx
   have ad:((xs l).take (i+1)).take i=(xs l).take i:=by rw [List.take_take];congr 1;omega
   refine H.Fa 1 rfl (E6 (l:=l.take i) (d:=c) (H.get 1) ((be.1 (H.getD 0)).2 c B) (λb T hm=>H.dj (.gr s l) (by simp) b (j7.2 (.inr ⟨c,B,T⟩)) (.bu e own (l.take i)) (by simp) (aT.2 hm)) (D c B).2 hu (by rw [dL];omega) (by rw [K];exact M) (λA=>by rw [K,<-ad];exact Ma aa gt A)) ?_;rintro _ w8 ag rfl H8;refine ⟨_,rfl,?_⟩;rw [bw _ (by omega)];refine ih (i+1) C e ag w8 (by omega) aa (by rw [Z];exact j) ?_;rw [es];exact H8.take 2
 refine y.jF (No (s:=⟨none,0,0⟩) (l:=[]) ⟨bL.nil 9 F,by simp⟩ .nil (by simp [xs]) (by simp)) ?_;rintro _ w2 ⟨e,own,rfl,r,o⟩ _ F2;have Q:=F2.own (.bu e own []) r (λb T=>o b (aT.1 T));exact ⟨_,rfl,loop l.length 0 C e own w2 (by omega) .nil rfl Q⟩
def _root_.Go.W.En.wr (j:Nat) (bs:List UInt8) (own:List Nat):En:=⟨jj own,λd=>gz d j bs own,λd u q h=>(by obtain ⟨s,rfl,k,e⟩:=h;have n:∀b∈j::ay s,u.heap[b]? =d.heap[b]?:=λb c=>q b (aT.2 c) (gz.lt ⟨s,rfl,k,e⟩ b c);exact ⟨s,rfl,(n j (by simp)).trans k,e.1,e.2.ck λb c _=>n b (by simp [c])⟩),λd h b c=>h.lt b (aT.1 c),nk _⟩
def Vq (d:Nat) (bs:List UInt8) (own:List Nat) (w:I) (b:Nat):¬(En.wr d bs own).P ({w with heap:=fy (b+1) (.map #[] 0)}):=by rintro ⟨s,_,c,_⟩;simp [Array.getElem?_replicate] at c
section
variable {M:Nat->Prop} {w0 w:I} {L D:List En} {bs:List Nat}
def _root_.Go.W.LH.wm (H:LH M w0 w L D) (i:Nat) {c:Nat} {l j:List UInt8} {own:List Nat} {g:bJ} {args:Array ae} {K:aa} (hi:L[i]? =some (.wr c l own)) (n:gz w c l own->ai U g args w (nQ w c own j))
  (q:∀e d,LH M w0 e (L.set i (.wr c j d)) D->K (V (.tuple #[])) e) (k:∀b∈bs,En.g b∈L:=by simp):cU bs U g args w K:=by
 refine ⟨(·∈own),λb h u=>?_,(n (H.get i hi)).mono λr e ⟨x,d,z,f,o⟩=>⟨f,?_⟩⟩
 .exact n5 H hi (Vq c l own w) (k b h) (aT.2 u)
 .subst x;refine q e d (H.g9 i (.wr c j d) hi (f.mono λA _ y=>aT.2 y) z λb h=>?_);exact (o b (aT.1 h)).imp aT.2 id
def _root_.Go.W.LH.RI (H:LH M w0 w L D) {K:I->Prop} (e:∀c,LH M w0 c (L++[.wr w.heap.size [] [w.heap.size]]) D->K c):aN w (.cells #[.slice none 0 0] nH) K:=
 e _ (H.push _ (Fr.alloc _ _ _) (gz.new w) λb d=>by have:=aT.1 d;simp at this;omega)
end
def ho (g:List Nx):List UInt8:=cL g.length++g.flatMap df
def CD {z:Nat}:∀{g:List Nx},(∀c∈g,(df c).length<=z)->(g.flatMap df).length<=z *g.length
 |[],_=>by simp
 |c::g,d=>by have j:=CD (g:=g) λe h=>d e (by simp [h]);have k:=d c (by simp);simp only [cO,cd,fw];rw [Nat.mul_add,Nat.mul_one];omega
def Ez (g:List Nx) (w:I) (r:dA) (w':I):Prop:=∃t:O,r=V (.tuple #[t.v,.i (gR g)])/\(gR g=0->eU w' t (ho g)/\∀b∈ay t,w.heap.size<=b)
def D2 {w:I} {s:O} {l:List Nd} (h:GP w s l) (hk:c'.P w) (y:l.length<=4096->∀d∈l,jB d.x/\fk d.x) (hz:∀d∈xs l,(df d).length<=1000000):
  ai U ug #[.agg #[s.v]] w λr k=>Ez (xs l) w r k/\ao w k:=by
 have M:=fu h;have ae:(xs l).length=l.length:=by simp [xs]
 have W:LH F0 w w [] [.gr s l,c']:=bZ _ (by
  intro H z;simp only [aB,a1,a7] at z;rcases z with rfl|rfl
  .exact be.2 h
  .exact hk)
 refine u6.aD s w _ (W.aL λD w1 B=>B.aA (Le (be.1 (B.getD 0)) (B.getD 1) y) ?_);rintro _ A rfl G;refine ⟨_,rfl,dG (λj=>⟨⟨⟨none,0,0⟩,rfl,λh=>absurd h j⟩,G.fr⟩) (λj=>G.RI λw3 Y=>?_)⟩;have ac:l.length<=4096:=by
  rcases Nat.lt_or_ge 4096 l.length with h|h
  .unfold gR at j;rw [aq (by omega)] at j;cases j
  .exact h
 have y:=y ac;have Q:∀i,(((xs l).take i).flatMap df).length<=4096000000:=λi=>by
  have:=CD (g:=(xs l).take i) λd hd=>hz d (mr hd);rw [dL] at this;have h2:min i (xs l).length<=4096:=by omega
  omega
 have L:cp ((s.n:Nat):Int):=⟨by omega,by omega⟩;have z:=eM _ L;rw [M] at z;refine Y.wm 1 rfl (λr=>oL r _ L (by simp)) λS own C=>?_;have C:LH F0 w S [.g D,.wr A.heap.size (cL ((l.length:Nat):Int)++((xs l).take 0).flatMap df) own] [.gr s l,c']:=by rw [List.take_zero,List.flatMap_nil,fI,<-M];exact C
 have loop:∀(m i:Nat) (own:List Nat) (q:I),i+m=l.length->LH F0 w q [.g D,.wr A.heap.size (cL ((l.length:Nat):Int)++((xs l).take i).flatMap df) own] [.gr s l,c']->
   u6.aP D s (aj A.heap.size) ((s.n:Nat):Int) (i:Int) q λr k=>Ez (xs l) w r k/\ao w k:=by
  intro m;induction m with
  |zero=>
   intro i own q ab e;refine u6.bW _ _ _ _ _ _ _ (a9 (a0 (by omega)) ?_);have ak:gz q A.heap.size (cL ((l.length:Nat):Int)++((xs l).take i).flatMap df) own:=e.get 1;refine iH ((Me ak (by have:=Q i;simp only [cd];omega)).mono ?_);rintro _ T ⟨t,rfl,N,J,hf⟩;rw [e1 (by omega)] at N;refine ⟨J,t,rfl,⟨t,by rw [j],λ_=>⟨?_,λb E=>bH e.fr.size (hf b E)⟩⟩,e.fr.cR J⟩;unfold ho;rw [ae];exact N
  |succ m ih=>
   intro i own q ab e;have u:l[i]? =some (l[i]'(by omega)):=bc (by omega);generalize l[i]'(by omega)=d at u;have F:=aI u;have gx:=nK u;have ex:(xs l).take (i+1)=(xs l).take i++[d.x]:=by rw [gC,gx];rfl
   refine u6.bW _ _ _ _ _ _ _ (bd (aW (by omega)) (Hx (be.1 (e.getD 0)) u rfl λp hp aa=>?_));have K:∀b,b∈(En.gr s l).fp->b∉own:=λb E hm=>e.dj (.gr s l) (by simp) b E _ (aI (i:=1) rfl) (aT.2 hm);have ad:(p.add (ag (i:Int) *9)).block∈(En.gr s l).fp:=by refine j7.2 (.inl ?_);show _∈(if l.flatMap Nd.c=[] then [] else ay s);rw [af (λH=>by have:=congrArg List.length H;rw [Nd.gl] at this;simp at this;omega)];simp [ay,hp,iF]
   refine e.wm 1 rfl (λr=>Lj r aa ((be.1 (e.getD 0)).2 d F) (K _ ad) (λal hx=>K al (j7.2 (.inr ⟨d,F,hx⟩))) (y d F).2 (by have:=Q i;simp only [cd];omega)) λT ah Z=>⟨rfl,?_⟩;rw [bw _ (by omega)];refine ih (i+1) ah T (by omega) ?_;rw [ex,dh,<-cN,cO,List.flatMap_nil,fI];exact Z
 exact ⟨rfl,loop l.length 0 own S (by omega) C⟩
def RV {n:Nx} (W:fk n) (z:n.kids.length<=100) (A:n.tx.size<=1000):(df n).length<=1000000:=by have d:=eM _ W.op;have e:=tm _ W.ks;have h:=eM _ W.n;have j:=eM _ W.m;have k:=hl n.u.toNat (by have:=W.u;omega);have q:=eM _ W.sk;have w:=eM _ W.sn;have x:=eM _ W.sx;have y:=hl n.kids.length (by omega);have c:=hl (bl n.tx).length (by rw [ep];omega);have B:=ep n.tx;unfold df g2 hL;simp only [cd];omega
def Jz:∀(n:Nat) (st:RS),(eD n st).2.bs.length<=st.bs.length
 |0,st=>bB _
 |n+1,st=>by
  have e:(bQ st).2.bs.length<=st.bs.length:=yk (st:=st) (bB _);simp only [eD];by_cases d:(bQ st).2.err≠0
  .simp only [aq d];exact e
  .simp only [af d];have h:=Jz n (bQ st).2;by_cases c:(eD n (bQ st).2).2.err≠0
   .simp only [aq c];omega
   .simp only [af c];omega
def Ti (st:RS):(hW st).1.length<=st.bs.length/\(hW st).2.bs.length<=st.bs.length:=by
 have c:=Jv st;unfold hW;generalize hB st=q at c ⊢;obtain ⟨d,s⟩:=q;dsimp only at c ⊢;split
 .exact ⟨dv _,c.2⟩
 .simp only [dL,iO];omega
def Td (st:RS):(ga st).1.length<=st.bs.length/\(∀h∈(ga st).1,cp h)/\(ga st).2.bs.length<=st.bs.length:=by
 have c:=Jv st;unfold ga;generalize hB st=q at c ⊢;obtain ⟨d,s⟩:=q;dsimp only at c ⊢;split
 .exact ⟨dv _,by simp,c.2⟩
 .have e:=Jy d s;have j:=Jz d s;exact ⟨by omega,e.2,by omega⟩
def oy (st:RS):cp (bQ st).1/\(bQ st).2.bs.length<=st.bs.length:=⟨LY _ (rQ st),yk (st:=st) (bB _)⟩
def eE (st:RS):Nx×RS:=
 let o:=bQ st
 let d:=ga o.2
 let e:=bQ d.2
 let m:=bQ e.2
 let h:=eF m.2
 let t:=hW h.2
 let a:=bQ t.2
 let b:=bQ a.2
 let c:=bQ b.2
 (⟨o.1,d.1,e.1,m.1,(h.1:Int),ba t.1,⟨a.1,b.1,c.1⟩⟩,c.2)
def fL:Nat->RS->List Nx×RS
 |0,st=>([],st)
 |c+1,st=>((eE st).1::(fL c (eE st).2).1,(fL c (eE st).2).2)
def fq (bs:List UInt8):List Nx×Int:=
 if (bQ ⟨bs,0⟩).1<0\/4096<(bQ ⟨bs,0⟩).1 then ([],2) else
 if pN (fL (bQ ⟨bs,0⟩).1.toNat (bQ ⟨bs,0⟩).2).2≠0 then ([],2) else
 if gR (fL (bQ ⟨bs,0⟩).1.toNat (bQ ⟨bs,0⟩).2).1≠0 then ([],2) else ((fL (bQ ⟨bs,0⟩).1.toNat (bQ ⟨bs,0⟩).2).1,0)
def Tf {d:Nx} (W:fk d) (r:List UInt8):eE ⟨df d++r,0⟩=(d,⟨r,0⟩):=by
 obtain ⟨q,c,k,m,w,e,⟨a,b,h⟩⟩:=d;have j:=W.u;have z:=W.tx;have y:=W.kl;dsimp only at j z y;have x:df ⟨q,c,k,m,w,e,⟨a,b,h⟩⟩++r=cL q++(g2 c++(cL k++(cL m++(dF w.toNat++(hL (bl e)++(cL a++(cL b++(cL h++r)))))))):=by unfold df;simp only [cN]
 unfold eE;rw [x];dsimp only;rw [nt _ W.op];dsimp only;rw [Tc c (by omega) W.ks];dsimp only;rw [nt _ W.n];dsimp only;rw [nt _ W.m];dsimp only;rw [Di _ (by omega)];dsimp only;rw [Th (bl e) (by rw [ep];omega)];dsimp only;rw [nt _ W.sk];dsimp only;rw [nt _ W.sn];dsimp only;rw [nt _ W.sx,o3,Int.toNat_of_nonneg j.1]
def JC:∀{g:List Nx} (_:∀c∈g,fk c) (r:List UInt8),fL g.length ⟨g.flatMap df++r,0⟩=(g,⟨r,0⟩)
 |[],_,r=>rfl
 |c::g,W,r=>by rw [cO,cN,fw];unfold fL;rw [Tf (W c (by simp))];dsimp only;rw [JC (λd e=>W d (by simp [e]))]
def O' {g:List Nx} (W:∀d∈g,fk d) (j:g.length<=4096) (h:gR g=0):fq (ho g)=(g,0):=by have e:bQ ⟨ho g,0⟩=((g.length:Int),⟨g.flatMap df,0⟩):=nt _ ⟨by omega,by omega⟩ _;have c:=JC W [];rw [fI] at c;unfold fq;rw [e];dsimp only;rw [dJ,c,af (by omega)];dsimp only;rw [af (by unfold pN;simp),af (by simpa using h)]
def Te {st:RS} (c:(eE st).2.err=0):st.err=0/\st.bs=df (eE st).1++(eE st).2.bs:=by obtain ⟨F,w⟩:=ox c;obtain ⟨E,u⟩:=ox F;obtain ⟨D,q⟩:=ox E;obtain ⟨C,n⟩:=Tg D;obtain ⟨B,k⟩:=Dh C;obtain ⟨A,j⟩:=ox B;obtain ⟨z,h⟩:=ox A;obtain ⟨y,e⟩:=Tb z;obtain ⟨x,d⟩:=ox y;refine ⟨x,?_⟩;rw [d,e,h,j,k,n,q,u,w];unfold df eE;simp only [cN,dJ,nT]
def JB:∀(n:Nat) {st:RS},(fL n st).2.err=0->st.err=0/\st.bs=(fL n st).1.flatMap df++(fL n st).2.bs/\(fL n st).1.length=n
 |0,st,c=>⟨c,rfl,rfl⟩
 |n+1,st,c=>by obtain ⟨d,e,k⟩:=JB n (st:=(eE st).2) c;obtain ⟨h,j⟩:=Te d;refine ⟨h,?_,by show (fL n (eE st).2).1.length+1=n+1;omega⟩;show st.bs=((eE st).1::(fL n (eE st).2).1).flatMap df++(fL n (eE st).2).2.bs;rw [cO,cN,<-e];exact j
def Gl {bs:List UInt8} (d:(fq bs).2=0):ho (fq bs).1=bs/\gR (fq bs).1=0:=by
 unfold fq at d ⊢;split at d
 .cases d
 .rename_i w;rw [af w];split at d
  .cases d
  .rename_i c;rw [af c];split at d
   .cases d
   .rename_i k;rw [af k];have c:pN (fL (bQ ⟨bs,0⟩).1.toNat (bQ ⟨bs,0⟩).2).2=0:=by simpa using c
    unfold pN at c;have n:(fL (bQ ⟨bs,0⟩).1.toNat (bQ ⟨bs,0⟩).2).2.err=0:=by
     split at c
     .rename_i e;exact absurd c e
     .rename_i e;simpa using e
    rw [af (by simpa using n)] at c;have x:(fL (bQ ⟨bs,0⟩).1.toNat (bQ ⟨bs,0⟩).2).2.bs=[]:=by
     split at c
     .cases c
     .rename_i e;exact mq (by omega)
    obtain ⟨q,h,u⟩:=JB _ n;obtain ⟨y,j⟩:=ox (st:=⟨bs,0⟩) q;refine ⟨?_,by simpa using k⟩;rw [x,fI] at h;unfold ho;dsimp only at j ⊢;rw [u,<-h,Int.toNat_of_nonneg (by omega)];exact j.symm
def O9 {bs:List UInt8} (c:(fq bs).2≠0):fq bs=([],2):=by
 unfold fq at c ⊢;split
 .rfl
 .rename_i d;rw [af d] at c;split
  .rfl
  .rename_i e;rw [af e] at c;split
   .rfl
   .rename_i h;rw [af h] at c;exact absurd rfl c
def JA (st:RS) (q:st.bs.length<=1000000):fk (eE st).1/\(eE st).2.bs.length<=st.bs.length/\(eE st).1.kids.length<=st.bs.length/\(eE st).1.tx.size<=st.bs.length:=by have c:=oy st;have d:=Td (bQ st).2;have e:=oy (ga (bQ st).2).2;have h:=oy (bQ (ga (bQ st).2).2).2;have u:=yk (st:=(bQ (bQ (ga (bQ st).2).2).2).2) (bB _);have x:=rQ (bQ (bQ (ga (bQ st).2).2).2).2;have w:=Ti (eF (bQ (bQ (ga (bQ st).2).2).2).2).2;have j:=oy (hW (eF (bQ (bQ (ga (bQ st).2).2).2).2).2).2;have k:=oy (bQ (hW (eF (bQ (bQ (ga (bQ st).2).2).2).2).2).2).2;have n:=oy (bQ (bQ (hW (eF (bQ (bQ (ga (bQ st).2).2).2).2).2).2).2).2;unfold eE;dsimp only;refine ⟨⟨c.1,d.2.1,by dsimp only;omega,e.1,h.1,⟨by dsimp only;omega,by dsimp only;omega⟩,by dsimp only;rw [cT];omega,j.1,k.1,n.1⟩,by omega,by omega,by rw [cT];omega⟩
def JD:∀(n:Nat) (st:RS),st.bs.length<=1000000->∀c∈(fL n st).1,fk c/\c.kids.length<=st.bs.length/\c.tx.size<=st.bs.length
 |0,st,_,c,d=>by cases d
 |n+1,st,q,c,d=>by
  obtain ⟨h,w,j,k⟩:=JA st q;rcases aB.1 d with e|d
  .rw [e];exact ⟨h,j,k⟩
  .obtain ⟨u,x,y⟩:=JD n (eE st).2 (by omega) c d;exact ⟨u,by omega,by omega⟩
def _root_.Go.W.En.kO (rb:Nat) (st:RS) (fp:List Nat):En:=⟨jj fp,λd=>dC d rb st fp,λd w u h=>(by obtain ⟨s,all,q,rfl,j,e,k⟩:=h;have n:∀b∈rb::ay s,w.heap[b]? =d.heap[b]?:=λb c=>u b (aT.2 c) (dC.lt ⟨s,all,q,rfl,j,e,k⟩ b c);exact ⟨s,all,q,rfl,(n rb (by simp)).trans j,⟨e.1,e.2.ck λb c _=>n b (by simp [c])⟩,k⟩),λd h b c=>h.lt b (aT.1 c),nk _⟩
def JH (rb:Nat) (st:RS) (fp:List Nat) (w:I) (b:Nat):¬(En.kO rb st fp).P ({w with heap:=fy (b+1) (.map #[] 0)}):=by rintro ⟨s,all,d,_,c,_⟩;simp [Array.getElem?_replicate] at c
section
variable {M:Nat->Prop} {w0 w:I} {L D:List En} {bs:List Nat}
def _root_.Go.W.LH.rm (H:LH M w0 w L D) (i:Nat) {rb:Nat} {st h:RS} {fp:List Nat} {v:ae} {g:bJ} {args:Array ae} {K:aa} (hi:L[i]? =some (.kO rb st fp)) (k:dC w rb st fp->ai U g args w (sD w rb fp v h))
  (n:∀c,LH M w0 c (L.set i (.kO rb h fp)) D->K (V v) c) (j:∀b∈bs,En.g b∈L:=by simp):cU bs U g args w K:=by
 have e:dC w rb st fp:=H.get i hi;refine ⟨(·=rb),λb d q=>?_,(k e).mono λr c ⟨u,y,f⟩=>⟨f,?_⟩⟩
 .subst q;exact n5 H hi (JH b st fp w) (j b d) (aT.2 e.mem)
 .subst u;exact n c (H.g9 i (.kO rb h fp) hi (f.mono λz _ x=>aT.2 (by rw [x];exact e.mem)) y λb d=>.inl d)
def _root_.Go.W.LH.Tu (H:LH M w0 w L D) (i:Nat) {rb:Nat} {st y:RS} {fp:List Nat} {e:aG} {vs:List ae} {g:bJ} {args:Array ae} {K:aa} (hi:L[i]? =some (.kO rb st fp)) (C:dC w rb st fp->ai U g args w (qF w rb fp e vs y))
  (E:∀s n,LH M w0 n (L.set i (.kO rb y fp)) (D++[.rd s vs])->(∀b∈ay s,w.heap.size<=b)->K (V s.v) n) (B:∀b∈bs,En.g b∈L:=by simp):cU bs U g args w K:=by
 have k:dC w rb st fp:=H.get i hi;refine ⟨(·=rb),λb d F=>?_,(C k).mono λr n ⟨s,J,G,O,f,A⟩=>⟨f,?_⟩⟩
 .subst F;exact n5 H hi (JH b st fp w) (B b d) (aT.2 k.mem)
 .subst J;have h:=H.g9 i (.kO rb y fp) hi (f.mono λT _ N=>aT.2 (by rw [N];exact k.mem)) O λb d=>.inl d;refine E s n ⟨h.fr,h.own,λq c=>?_,h.new,h.nd,λq c b d u z x=>?_⟩ A
  .rcases a5.1 c with c|c
   .exact h.rd q c
   .simp at c;subst c;exact G.rd
  .rcases a5.1 c with c|c
   .exact h.dj q c b d u z x
   .simp at c;subst c;have P:w.heap.size<=b:=by
     have d:b∈(if vs=[] then [] else ay s):=d;split at d
     .cases d
     .exact A b d
    have Q:b<w.heap.size:=by
     obtain ⟨S,j⟩:=iQ.1 z;rw [List.getElem?_set] at j;split at j
     .split at j
      .cases j;exact k.lt b (aT.1 x)
      .cases j
     .exact u.lt w (H.own u (aI j)) b x
    omega
abbrev _root_.Go.W.En.by (s:O) (l:List UInt8):En:=.row b' 1 s (l.map W.dD)
def jk {w:I} {s:O} {l:List UInt8} (c:aS w b' 1 s (l.map W.dD)):eU w s l:=c.I4
def _root_.Go.W.LH.eW (H:LH M w0 w L D) (i:Nat) {ty:aG} {s src:O} {l m:List UInt8} {K:O->I->Prop} (hi:L[i]? =some (.by s l)) (e:Bytes w src m) (u:l.length+m.length<=100000000000000)
  (k:∀d c,LH M w0 c (L.set i (.by d (l++m))) D->K d c) (n:∀b∈bs,En.g b∈L:=by simp):
  ∃d c,(Builtin.append_ #[aH,aH] ty #[s.v,src.v]).run U w=.ok d.v c/\kept bs w c/\K d c:=by
 have q:=(jk (H.get i hi)).1;have h:=e.1;simp only [nr] at q h;refine H.j0 i l1 (ty:=ty) (src:=src) (news:=m.map W.dD) hi ⟨by simp [h],e.2.1,e.2.2⟩ (W.Fc _) (by omega) (λd c j=>k d c ?_) n
 rwa [<-List.map_append] at j
def _root_.Go.W.LH.lf (H:LH M w0 w L D) {g:bJ} {args:Array ae} {l:List UInt8} {K:aa} (d:ai U g args w (kv w l)) (e:∀s c,LH M w0 c L D->so M w0 w c L D->eU c s l->(∀b∈ay s,w.heap.size<=b)->K (V s.v) c):cU bs U g args w K:=
 iH (d.mono λr c ⟨s,k,j,f,h⟩=>⟨f,by subst k;exact e s c (H.bA f) (H.fresh f) j h⟩)
def _root_.Go.W.LH.OJ (H:LH M w0 w L D) {g:bJ} {args:Array ae} {l:List UInt8} {K:aa} (d:ai U g args w (kv w l)) (e:∀s c,LH M w0 c L D->so M w0 w c L D->eU c s l->(∀b∈ay s,w.heap.size<=b)->K (V s.v) c):ai U g args w K:=
 d.mono λr c ⟨s,k,j,f,h⟩=>by subst k;exact e s c (H.bA f) (H.fresh f) j h
def _root_.Go.W.LH.str (H:LH M w0 w L D) (t:ByteArray) {K:O->I->Prop} (k:∀d c,LH M w0 c L D->Bytes c d (bl t)->K d c) (q:∀b∈bs,En.g b∈L:=by simp):
  ∃d c,(Go.convert dy aH (.string t)).run U w=.ok d.v c/\kept bs w c/\K d c:=by obtain ⟨d,c,h,j,e,_⟩:=K6 w t;exact ⟨d,c,h,λb n=>e.ck b (H.own _ (q b n)) id,k d c (H.bA e) j⟩
end
namespace JO
noncomputable abbrev X:Fx:=⟨U,Tryz.f179,[(3,ls [0,1,2,3,4,5,6,7,8])],[]⟩
def ok (c:Int) (w:I) (R:aa) (u:gk xz #[.int .u8 c] w λx d=>Y x (aN d (.cells #[.int .u8 39,.int .u8 c,.int .u8 39] b') λe=>
 ∃n:ByteArray,a6 U (Go.convert aH dy (.slice (some (nb d)) 3 3)) e=.ok (.string n) e/\R (V (.string n)) e) (bY d λq=>(0:Int)<=(Int.fdiv c (2^(4)))/\∃j:UInt8,(az #[48,49,50,51,52,53,54,55,56,57,97,98,99,100,101,102])[ag (Int.fdiv c (2^(4)))]? =some j/\(0:Int)<=(iG .u8 c 15)/\∃k:UInt8,(az #[48,49,50,51,52,53,54,55,56,57,97,98,99,100,101,102])[ag (iG .u8 c 15)]? =some k/\aN q (.cells #[.int .u8 92,.int .u8 120,.int .u8 ((j.toNat:Nat):Int),.int .u8 ((k.toNat:Nat):Int)] b') λh=>
 ∃t15:ByteArray,a6 U (Go.convert aH dy (.slice (some (nb q)) 4 4)) h=.ok (.string t15) h/\R (V (.string t15)) h)):ai U tV #[.int .u8 c] w R:=aE X [] u
end JO
namespace J7
noncomputable abbrev X:Fx:=⟨U,Tryz.f136,[],[2]⟩
def aD (e h j:Int) (k:O) (d:Int) (w:I) (R:aa) (u:aJ [] w λq y=>
 FZ [q] BX #[.agg #[.i e,.int .u8 h,.int .u8 j,k.v]] y λc x n=>Y (ah (x<d)) (¬((((az #[40]).size+c.size:Nat):Int)>IntKind.i64.max)/\¬(((((az #[40])++c).size+(az #[41]).size:Nat):Int)>IntKind.i64.max)/\R (V (.string (((az #[40])++c)++(az #[41])))) n) (R (V (.string c)) n)):ai U nh #[.agg #[.i e,.int .u8 h,.int .u8 j,k.v],.i d] w R:=aE X [] u
end J7
namespace oC
noncomputable abbrev X:Fx:=⟨U,Tryz.f164,[(9,ls [0,1,5,6,2,3,4,7,8,9,10,11])],[1,9]⟩
abbrev P0:Ps:=[(1,.l [.I,.Y,.Y,.s] aK),(5,.v [.st]),(6,.v [.I]),(7,.v [.st]),(79,.v [.s]),(80,.v [.I]),(81,.v [.I])]
def kq (d:Nat) (e h j:Int) (k:O) (q:ByteArray) (c:Int) (n:ByteArray) (t79:O) (t80 t81:Int) (w:I) (R:aa):Prop:=br P0 0 (X.Sem (ak [0,1,1,1,7])) d e h j k q c n t79 t80 t81 w R
noncomputable def hJ:=bD X (ak [0,1,1,1,7]) P0 kq::[]
abbrev bh (e:Nat) (h j k:Int) (n:O) (q:ByteArray) (d:Int) (c t10:ByteArray) (t79:O) (t80 t81:Int) (w:I) (R:aa):Prop:=
 ¬(((c.size+t10.size:Nat):Int)>IntKind.i64.max)/\kq e h j k n q d (c++t10) t79 t80 (ab .i64 (t81+1)) w R
noncomputable def bt:=aC X hJ (ak [3,2,2,2,1,1,7]) [(1,.l [.I,.Y,.Y,.s] aK),(5,.v [.st]),(6,.v [.I]),(7,.v [.st]),(10,.v [.st]),(79,.v [.s]),(80,.v [.I]),(81,.v [.I])] bh::hJ
def sB:∀(e:Nat) (j k n:Int) (q:O) (c:ByteArray) (h:Int) (d:ByteArray) (t79:O) (t80 t81:Int) (w:I) (R:aa) (K:Y (ah (t81<t80)) (aw t79 t81 λC=>aV w (C.add (ag t81 *4)) λD E F G=>aJ [e] w λu H=>
 loc [e,u] H λJ=>fT [e,u] nh #[.agg #[.i D,.int .u8 E,.int .u8 F,G.v],.i (ab .i64 (h+1))] J λt89 x=>Y (ah (t81>0)) (¬(((d.size+c.size:Nat):Int)>IntKind.i64.max)/\Y (j==3) ((0:Int)<=(ab .i64 ((((d++c).size:Nat):Int) - 1))/\∃y:UInt8,(d++c)[ag (ab .i64 ((((d++c).size:Nat):Int) - 1))]? =some y/\bM [e,u] rF #[.int .u8 ((y.toNat:Nat):Int)] x λt104 A=>Y t104 ((0:Int)<=0/\∃z:UInt8,t89[ag 0]? =some z/\bM [e,u] rF #[.int .u8 ((z.toNat:Nat):Int)] A λt109 B=>Y t109 (¬((((d++c).size+(az #[32]).size:Nat):Int)>IntKind.i64.max)/\bh e j k n q c h ((d++c)++(az #[32])) t89 t79 t80 t81 B R) (bh e j k n q c h (d++c) t89 t79 t80 t81 B R)) (bh e j k n q c h (d++c) t89 t79 t80 t81 A R)) (bh e j k n q c h (d++c) t89 t79 t80 t81 x R)) (bh e j k n q c h d t89 t79 t80 t81 x R)) (R (V (.tuple #[.string d,.i h])) w)),kq e j k n q c h d t79 t80 t81 w R:=mp (bF (X:=X) bt (ak [0,1,1,1,7]) P0)
abbrev P2:Ps:=[(1,.l [.I,.Y,.Y,.s] aK),(4,.v [.st]),(5,.v [.st]),(6,.v [.I])]
abbrev a2 (e:Nat) (j k q:Int) (c:O) (d u:ByteArray) (h:Int) (w:I) (R:aa):Prop:=
 Y (((c.n:Nat):Int)==0) (¬(((d.size+(az #[40,41]).size:Nat):Int)>IntKind.i64.max)/\R (V (.tuple #[.string (d++(az #[40,41])),.i 4])) w) (Y (((c.n:Nat):Int)==1) (¬(((d.size+(az #[40]).size:Nat):Int)>IntKind.i64.max)/\aw c 0 λx=>aV w (x.add (ag 0 *4)) λy z A B=>fT [e] nh #[.agg #[.i y,.int .u8 z,.int .u8 A,B.v],.i 0] w λt75 C=>¬((((d++(az #[40])).size+t75.size:Nat):Int)>IntKind.i64.max)/\¬(((((d++(az #[40]))++t75).size+(az #[41]).size:Nat):Int)>IntKind.i64.max)/\R (V (.tuple #[.string (((d++(az #[40]))++t75)++(az #[41])),.i 4])) C) (kq e j k q c u h (az #[]) c ((c.n:Nat):Int) 0 w R))
noncomputable def bg:=aC X bt (ak [4]) P2 a2::bt
abbrev aQ (d:Nat) (c e h:Int) (j:O) (q n:ByteArray) (k:Int) (w:I) (R:aa):Prop:=
 Y (c==4) (a2 d c e h j (az #[97,108,116]) (az #[124]) 0 w R) (Y (c==5) (a2 d c e h j (az #[97,108,108]) (az #[38]) 1 w R) (a2 d c e h j q n k w R))
noncomputable def bf:=aC X bg (ak [3]) P2 aQ::bg
def aD (e h j:Int) (k:O) (w:I) (R:aa) (n:aJ [] w λd c=>
 Y (e==0) (R (V (.tuple #[.string (az #[110,111,110,101]),.i 4])) c) (Y (e==1) (R (V (.tuple #[.string (az #[101,109,112,116,121]),.i 4])) c) (Y (e==2) (Y (h==j) (fT [d] tV #[.int .u8 h] c λt26 F=>R (V (.tuple #[.string t26,.i 4])) F) (loc [d] c λG=>fT [d] tV #[.int .u8 h] G λt29 H=>¬((((az #[91]).size+t29.size:Nat):Int)>IntKind.i64.max)/\¬(((((az #[91])++t29).size+(az #[45]).size:Nat):Int)>IntKind.i64.max)/\fT [d] tV #[.int .u8 j] H λt34 J=>¬((((((az #[91])++t29)++(az #[45])).size+t34.size:Nat):Int)>IntKind.i64.max)/\¬(((((((az #[91])++t29)++(az #[45]))++t34).size+(az #[93]).size:Nat):Int)>IntKind.i64.max)/\R (V (.tuple #[.string (((((az #[91])++t29)++(az #[45]))++t34)++(az #[93])),.i 4])) J)) (Y (e==6) (aw k 0 λq=>aV c (q.add (ag 0 *4)) λu x y z=>fT [d] nh #[.agg #[.i u,.int .u8 x,.int .u8 y,z.v],.i 3] c λt43 K=>¬((((az #[33]).size+t43.size:Nat):Int)>IntKind.i64.max)/\R (V (.tuple #[.string ((az #[33])++t43),.i 3])) K) (Y (e==7) (aw k 0 λA=>aV c (A.add (ag 0 *4)) λB C D E=>fT [d] nh #[.agg #[.i B,.int .u8 C,.int .u8 D,E.v],.i 4] c λt51 L=>¬(((t51.size+(az #[42]).size:Nat):Int)>IntKind.i64.max)/\R (V (.tuple #[.string (t51++(az #[42])),.i 4])) L) (aQ d e h j k (az #[99,97,116]) (az #[]) 2 c R)))))):ai U BX #[.agg #[.i e,.int .u8 h,.int .u8 j,k.v]] w R:=aE X bf n
end oC
namespace JM
noncomputable abbrev X:Fx:=⟨U,Tryz.f123,[],[1]⟩
def aD (c d e:Int) (h:O) (w:I) (R:aa) (q:aJ [] w λj u=>
 b0 [j] xq #[.agg #[.i c,.int .u8 d,.int .u8 e,h.v]] u λk n=>Y (k !=0) (R (V (.tuple #[.s0,.i k])) n) (fT [j] nh #[.agg #[.i c,.int .u8 d,.int .u8 e,h.v],.i 0] n λt11 x=>R (V (.tuple #[.string t11,.i 0])) x)):ai U BW #[.agg #[.i c,.int .u8 d,.int .u8 e,h.v]] w R:=aE X [] q
end JM
namespace Lz
noncomputable abbrev X:Fx:=⟨U,Tryz.f111,[],[3,6]⟩
def aD (e:ByteArray) (w:I) (R:aa) (u:FO BV #[.string e] w λx y z A M B K=>aJ [] K λc n=>
 Y (B !=0) (loc [c] n λj=>R (V (.bool false)) j) (loc [c] n λj=>sR [c] xp #[.agg #[.i x,.int .u8 y,.int .u8 z,A.v]] j λC D E F G L=>aJ [c] L λd q=>
 Y (G !=0) (loc [c,d] q λh=>R (V (.bool false)) h) (loc [c,d] q λh=>FZ [c,d] BW #[.agg #[.i C,.int .u8 D,.int .u8 E,F.v]] h λH J k=>Y (J==0) (R (V (.bool (H.toList==e.toList))) k) (R (V (.bool false)) k)))):ai U xP #[.string e] w R:=aE X [] u
end Lz
end Go.Proofs.YtocpddmpfbfdbaaGreatDoor
