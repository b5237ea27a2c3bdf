import Derived.Test.YthhmdddomhknaaaGreatDoorWB
import Derived.Test.YthhmdddomhknaaaGreatDoorU
import Derived.Laws.StandIn
import Derived.Lib.Bytealg
set_option linter.unusedVariables false
set_option linter.defProp false
set_option maxRecDepth 100000
namespace Go.Proofs.YthhmdddomhknaaaGreatDoor
open Go renaming World->J,Calls->ai,Value->aa,Ending->ch,FuncId->cB,LoopState->jP
open Go.IntKind renaming wrap->aj
open _root_.Int renaming toNat->aV
open Go.IntWalk renaming i64_in->aQ
open Go.Builtin renaming append_->dY
open _root_.Bool renaming and_eq_true->bq
open _root_.Nat renaming le_refl->bm,le_trans->a6
open _root_.UInt8 renaming ofNat->cE
open _root_.Option.some renaming inj->fe
open Go.Proofs.Tryz renaming prog->Y
open _root_.Decidable renaming decide->ak
open Go.Ending renaming returned->ae
open List renaming mem_append->aY,mem_cons->au,not_mem_nil->aO,mem_of_getElem?->aD,getElem?_eq_getElem->a4,getElem?_eq_some_iff->cz,mem_append_left->bK,mem_append_right->dV,mem_flatMap->bS,mem_map->bZ,length_take->gJ,flatMap_append->dt,flatMap_cons->cV,mem_iff_getElem?->g7,nodup_append->gT,take_add_one->eA,map_append->hv,getElem?_set_self->jF,take_of_length_le->fQ
open Go Go.W
def kI:g0 Y dm aN (.agg #[.int .i64 0,.int .u8 0,.int .u8 0,.slice none 0 0]) 4 40:=⟨by kernel_rfl,by kernel_rfl,rfl,by decide,by decide⟩
def A9(w:J):ai Y n5 #[] w λr h=>fJ w eD r h/\ag w h:=by
 refine H0.aB w _ ((bI [] (by simp)).aG λb q j=>j.cN (n:=1) (sz:=4) (cs:=b3.c) rfl (by decide) λy k=>k.ah λx e=>⟨⟨.mk 6 0 0 ⟨some (ab q.heap.size),1,1⟩ [b3],rfl,rfl,?_,λc d=>?_⟩,e.fr⟩)
 .unfold I.P I.Ps I.Ps;exact⟨(e.get 1:aK _ _ _ _ _).bd,j9 x,trivial⟩
 .unfold I.fp I.a8 I.a8 at d;rcases aY.1 d with d|d
  .exact (e.new _ (aD (i:=1) rfl) c (gk d)).resolve_right id
  .rcases aY.1 d with d|d
   .exact (j' d).elim
   grind
def gR(r:I):List I->List I
 |[]=>[r]
 |d::p=>if a5 d.rx r.rx<0 then d::gR r p else if a5 d.rx r.rx=0 then d::p else r::d::p
def Oq(r:I):∀l:List I,(gR r l).map I.rx=kT r.rx (l.map I.rx)
 |[]=>rfl
 |d::p=>by
  unfold gR;rw[List.map_cons];unfold kT;split
  .rw [List.map_cons,Oq r p]
  grind
def y4{t r:I}:∀{p:List I},t∈gR r p->t=r\/t∈p
 |[],d=>by unfold gR at d;grind
 |e::p,d=>by
  unfold gR at d;split at d
  .rcases au.1 d with rfl|d
   .simp
   .rcases y4 d with d|d<;>simp[d]
  grind
def On(r:I):∀l:List I,I.a0 (gR r l)<=r.sz+I.a0 l
 |[]=>by show r.sz+0<=r.sz+0;omega
 |d::p=>by
  unfold gR;split
  .have:=On r p;show d.sz+I.a0 (gR r p)<=r.sz+(d.sz+I.a0 p);omega
  .split
   .omega
   .exact bm _
def Om{r:I}:∀{l:List I} {k:Nat},k<=l.length->(∀h t,h<k->l[h]? =some t->a5 t.rx r.rx<0)->(∀t,l[k]? =some t->¬a5 t.rx r.rx<0)->
  (∀t,l[k]? =some t->a5 t.rx r.rx=0->gR r l=l)/\((∀t,l[k]? =some t->a5 t.rx r.rx≠0)->gR r l=l.take k++r::l.drop k)
 |[],k,q,d,e=>⟨λt x=>by grind,λ_=>by simp[gR]⟩
 |j::p,0,q,d,e=>by
  have:=e j rfl;unfold gR
  grind
 |j::p,k+1,q,d,e=>by
  have z:=d 0 j (by omega) rfl;have A:=Om (r:=r) (l:=p) (k:=k) (by grind) (λh t y w=>d (h+1) t (by omega) (by grind)) (λt w=>e t (by grind));unfold gR
  grind
def OW{w:J}{s:Sl}{l:List I}(h:bx 4 w s (l.flatMap I.c))(a b:Nat)(d:a<=b)(e:b<=l.length):bx 4 w (ov 4 s a b) (((l.take b).drop a).flatMap I.c):=by have j:=I.cr h;have:=h.sub a b d (by omega);rw[Hy,HG _ _ (by grind)]at this;omega
abbrev bF(s:Sl)(l:List I):I:=.mk 0 0 0 s l
def F5(d:List Nat)(w:J)(l:List I)(r:ch)(w':J):Prop:=∃s:Sl,r=ae s.v/\(bF s l).P w'/\∀b∈(bF s l).fp,w.heap.size<=b\/b∈d
def dw{w:J}{s:Sl}{l:List I}:(bF s l).P w↔bx 4 w s (l.flatMap I.c)/\I.Ps w l:=by
 unfold bF I.P
 grind
def lG{s:Sl}{l:List I}{b:Nat}:b∈(bF s l).fp↔b∈(I.row s l).fp\/b∈I.a8 l:=by
 unfold bF I.fp
 grind
def Uj(s:Sl)(l:List I)(r:I)(w:J)(hl:I.a0 l<=100000)(hr:r.sz<=100000)(px:(bF s l).P w)(pr:r.P w):
  ai Y KK #[s.v,r.v] w λS y=>F5 ((bF s l).fp++r.fp) w (gR r l) S y/\ag w y:=by
 have nr:=I.cr (dw.1 px).1;have ll:=I.fv l
 let Z:aH:=λS y=>F5 ((bF s l).fp++r.fp) w (gR r l) S y/\ag w y
 have fin:∀(k:Nat) (sl:Sl) (L:List En) (i:Nat) (e:J),k<=l.length->gR r l=l.take k++r::l.drop k->L[i]? =some (.row aN 4 sl ((l.take k++[r]).flatMap I.c))->LH F0 w e L [.tree (bF s l),.tree r]->
   oU.cM s (k:Int) sl e Z:=by
  intro k sl L i e A O hi j;have an:(bF s l).P e:=j.getD 0;have Q:=OW (dw.1 an).1 k l.length A (bm _);rw[List.take_length]at Q;have al:aK e aN 4 sl ((l.take k++[r]).flatMap I.c):=j.get i hi;have aa:=I.cr al.bd;have ap:(l.take k++[r]).length=k+1:=by grind
  refine⟨by omega,by omega,?_⟩;obtain⟨E,y,G,h2,h3⟩:=j.dc (U:=[]) i (ty:=dm) (K:=λE y=>∃L',L'[i]? =some (.row aN 4 E ((gR r l).flatMap I.c))/\LH F0 w y L' [.tree (bF s l),.tree r]) kI (src:=ov 4 s k l.length) (news:=(l.drop k).flatMap I.c) hi Q (r4 _) (by show(sl.n+(l.length - k)) *40<=_;omega) (λE y H'=>⟨_,by
   grind,H'⟩)
  obtain⟨L',g1,F⟩:=h3;have e1:(aV (k:Int))=k:=rfl;refine⟨E,y,by rw[e1,nr];exact G,⟨E,rfl,dw.2 ⟨(F.get i g1:aK _ _ _ _ _).bd,I.ir λt C=>?_⟩,λb N=>?_⟩,F.fr⟩
  .rcases y4 C with rfl|C
   .exact F.getD 1
   .exact (dw.1 (F.getD 0)).2.mem C
  .rcases lG.1 N with N|N
   .exact .inl ((F.new _ (aD g1) b (gk N)).resolve_right id)
   .obtain ⟨t,C,aj⟩:=I.bJ.1 N;rcases y4 C with rfl|C
    .grind
    .exact .inr (bK _ (lG.2 (.inr (I.bJ.2 ⟨t,C,aj⟩))))
 have s2:∀(k:Nat) (h:Nat) (e:J),k<=l.length->gR r l=l.take k++r::l.drop k->LH F0 w e [.g h] [.tree (bF s l),.tree r]->oU.bV s h r.k r.lo.toNat r.V.toNat r.s (k:Int) e Z:=by
  intro k h e A O j;have ao:s.n<=s.c:=(dw.1 (show(bF s l).P e from j.getD 0)).1.2.1;have af:∀y:J,(bF s l).P y->bx 4 y (ov 4 s 0 k) ((l.take k).flatMap I.c):=λy ae=>OW (dw.1 ae).1 0 k (by omega) A;have e1:(aV (k:Int))=k:=rfl;refine⟨by omega,by omega,j.ah λz q=>?_,j.ah λz q=>?_⟩
  .refine (q.hR aN 4).dc 1 kI (s:=⟨none,0,0⟩) (xs:=[]) (src:=ov 4 s 0 k) (news:=(l.take k).flatMap I.c) rfl (af z (q.getD 0)) (r4 _) (by show(0+(k - 0)) *40<=_;omega) (λE H x=>?_);have x:LH F0 w H [.g h,.row aN 4 E ((l.take k).flatMap I.c)] [.tree (bF s l),.tree r]:=x;have aa:=I.cr (x.get 1:aK _ _ _ _ _).bd;rw[gJ]at aa;refine x.h7 1 kI (xs:=(l.take k).flatMap I.c) rfl (λad w4 M=>?_) (by omega);refine fin k ad _ 1 w4 A O ?_ M;show some _=some _;rw[me];rfl
  .refine q.cN (n:=1) (sz:=4) (cs:=r.c) rfl (by decide) λH x=>?_;refine(x.hR aN 4).dc 2 kI (s:=⟨none,0,0⟩) (xs:=[]) (src:=ov 4 s 0 k) (news:=(l.take k).flatMap I.c) rfl (af H (x.getD 0)) (r4 _) (by show(0+(k - 0)) *40<=_;omega) (λE w4 M=>?_);have M:LH F0 w w4 [.g h,.row aN 4 ⟨some (ab z.heap.size),1,1⟩ r.c,.row aN 4 E ((l.take k).flatMap I.c)] [.tree (bF s l),.tree r]:=M;have aa:=I.cr (M.get 2:aK _ _ _ _ _).bd;rw[gJ]at aa;refine M.dc 2 kI (xs:=(l.take k).flatMap I.c) (src:=⟨some (ab z.heap.size),1,1⟩) (news:=r.c) rfl (M.get 1:aK _ _ _ _ _).bd (λu hu=>r4 [r] u (by grind)) (by grind) (λad w5 H5=>?_);refine fin k ad _ 2 w5 A O ?_ H5
   grind
 have s1:∀(k:Nat) (h:Nat) (e:J),k<=l.length->(∀D t,D<k->l[D]? =some t->a5 t.rx r.rx<0)->(∀t,l[k]? =some t->¬a5 t.rx r.rx<0)->LH F0 w e [.g h] [.tree (bF s l),.tree r]->oU.bM s h r.k r.lo.toNat r.V.toNat r.s (k:Int) e Z:=by
  intro k h e A G h2 j;obtain⟨g1,F⟩:=Om A G h2;refine aF (λak=>?_) (λak=>j.ah λz q=>s2 k h z A (F λt C=>by grind) q);have B:l[k]? =some l[k]:=a4 (by omega);generalize l[k]'(by omega)=t at B;have T:=aD B;refine⟨by omega,by omega,I.dd (dw.1 (show(bF s l).P e from j.getD 0)).1 B λp Q _=>j.ah λz q=>?_⟩;have W:(bF s l).P z:=q.getD 0;have c:=I.again (dw.1 W).1 B Q;refine⟨_,_,_,_,c.c0,c.c1,c.c2,c.c3,q.aw (qh t r z (by have:=I.eh T;omega) ((dw.1 W).2.mem T) (q.getD 1)) ?_⟩;rintro _ H rfl x;refine⟨_,rfl,aL (λh0=>⟨⟨s,rfl,?_,λb N=>.inr ?_⟩,x.fr⟩) (λh0=>s2 k h H A (F λt' ac=>by grind) x)⟩
  .rw [g1 t B h0];exact x.getD 0
  grind
 have loop:∀(d k:Nat) (h:Nat) (e:J),k+d=l.length->(∀D t,D<k->l[D]? =some t->a5 t.rx r.rx<0)->LH F0 w e [.g h] [.tree (bF s l),.tree r]->oU.a2 s h r.k r.lo.toNat r.V.toNat r.s (k:Int) e Z:=by
  intro d;induction d with
  |zero=>
   intro k h e A G j;exact oU.bw _ _ _ _ _ _ _ _ _ (aZ (aW (by omega)) (j.ah λz q=>s1 k h z (by omega) G (λt C=>by grind) q))
  |succ d am=>
   intro k h e A G j;have B:l[k]? =some l[k]:=a4 (by omega);generalize l[k]'(by omega)=t at B;have T:=aD B;refine oU.bw _ _ _ _ _ _ _ _ _ (a1 (aS (by omega)) ⟨by omega,by omega,I.dd (dw.1 (show(bF s l).P e from j.getD 0)).1 B λp Q _=>j.ah λz q=>?_⟩);have W:(bF s l).P z:=q.getD 0;have c:=I.again (dw.1 W).1 B Q;refine⟨_,_,_,_,c.c0,c.c1,c.c2,c.c3,q.aw (qh t r z (by have:=I.eh T;omega) ((dw.1 W).2.mem T) (q.getD 1)) ?_⟩;rintro _ H rfl x;refine⟨_,rfl,aF (λh0=>?_) (λh0=>s1 k h H (by omega) G (λt' ac=>by grind) x)⟩;rw[bb _ (by omega)];refine am (k+1) h H (by omega) (λD t' hq ac=>?_) x;by_cases S:D=k
   .grind
   .exact G D t' (by omega) ac
 exact oU.aB _ _ _ _ _ w _ ((bI [.tree (bF s l),.tree r] (by
  intro S O;simp only[au,aO,aR]at O;rcases O with rfl|rfl
  .exact px
  .exact pr)).aG λh e H1=>loop l.length 0 h e (by omega) (λD t ae=>by omega) H1)
def DG(k:Int)(t:Rx):∀(l out:List Rx),gP k out (l++[t])=if k=3 then gP k out l++[t]else kT t (gP k out l)
 |[],out=>by show gP k (if k=3 then out++[t]else kT t out) []=_;unfold gP;rfl
 |a::l,out=>by show gP k (if k=3 then out++[a]else kT a out) (l++[t])=_;rw[DG k t l];rfl
def abe(x d:I)(w:x.k=3\/x.k=4\/x.k=5)(h:d.rx=eD):∃(j:Nat) (u z:I),aj .i64 (x.k - 3)=(j:Int)/\j<3/\[fi,b3,d][j]? =some u/\[b3,d,b3][j]? =some z/\(u=fi\/u=b3\/u=d)/\(z=b3\/z=d)/\u.rx≠z.rx/\
  hh (.mk x.k 0 0 (I.ao x.l))=gD x.k (I.ao x.l) u.rx z.rx:=by
 rcases w with q|q|q<;>rw[q]
 .exact ⟨0,fi,b3,by decide,by decide,rfl,rfl,.inl rfl,.inl rfl,(by intro e;cases e),rfl⟩
 .exact ⟨1,b3,d,by decide,by decide,rfl,rfl,.inr (.inl rfl),.inr rfl,(by rw[h];intro e;cases e),by rw[h];rfl⟩
 .exact ⟨2,d,b3,by decide,by decide,rfl,rfl,.inr (.inr rfl),.inl rfl,(by rw[h];intro e;cases e),by rw[h];rfl⟩
section
variable {x ev u z:I} {sf:Sl} {w:J} {b4 b8 b9:Nat}
def Zv(hx:x.sz<=10000)(a2:ev.rx=eD)(bc:∀b∈ev.fp,w.heap.size<=b)(hu:u=fi\/u=b3\/u=ev)(ay:z=b3\/z=ev)(aF:u.rx≠z.rx)(au:hh (.mk x.k 0 0 (I.ao x.l))=gD x.k (I.ao x.l) u.rx z.rx){j:J}(H:LH F0 w j [.g b4,.g b8,.g b9] [.tree x,.tree ev,.tree (bF sf (x.l.flatMap (eO x)))]):
  hN.kz x.k b4 0 0 0 ⟨none,0,0⟩ sf b8 u.k u.lo.toNat u.V.toNat u.s b9 z.k z.lo.toNat z.V.toNat z.s ⟨none,0,0⟩ 0 j λr A=>fZ x.fp w (hh (.mk x.k 0 0 (I.ao x.l))) r A/\ag w A:=by
 let R:aH:=λr A=>fZ x.fp w (hh (.mk x.k 0 0 (I.ao x.l))) r A/\ag w A
 have ax:Sub x (x.l.flatMap (eO x)):=Sub.flat λ_ aa=>aa;have aC:I.a0 (x.l.flatMap (eO x))<=I.a0 x.l:=tP x x.l;have aj:((x.l.flatMap (eO x)).map I.rx).filter (λt=>!(a5 t u.rx==0))=gO x.k (I.ao x.l) u.rx:=by rw[<-vt];unfold gg;rw[List.filter_map];rfl
 generalize x.l.flatMap (eO x)=fl at H ax aC aj;have an:=ax;have a7:=I.hW x;have a3:I.a0 fl<=10000:=by omega
 have a9:=I.fv fl;have nr:sf.n=fl.length:=I.cr (dw.1 (show(bF sf fl).P j from H.getD 2)).1;have ap:∀A,ev.P A->u.P A:=λA aa=>by
  rcases hu with rfl|rfl|rfl
  .exact xR A
  .exact j9 A
  omega
 have al:∀A,ev.P A->z.P A:=λA aa=>by
  rcases ay with rfl|rfl
  .exact j9 A
  omega
 have aE:∀b∈u.fp,w.heap.size<=b:=λb e=>by
  rcases hu with rfl|rfl|rfl
  .exact (xS e).elim
  .exact (j' e).elim
  grind
 have az:∀b∈z.fp,w.heap.size<=b:=λb e=>by
  rcases ay with rfl|rfl
  .exact (j' e).elim
  grind
 have ar:∀t∈fl,t.rx=z.rx->hh (.mk x.k 0 0 (I.ao x.l))=z.rx:=λt ht ab=>by rw[au];unfold gD;rw[aq];rw[List.any_eq_true];refine⟨t.rx,?_,qn.2 ab⟩;rw[<-aj,List.mem_filter];exact⟨bZ.2 ⟨t,ht,rfl⟩,Hr.2 (ab▸λaa=>aF aa.symm)⟩
 have aB:(∀t∈fl,t.rx≠z.rx)->hh (.mk x.k 0 0 (I.ao x.l))=sE x.k u.rx (gP x.k [] ((fl.map I.rx).filter λt=>!(a5 t u.rx==0))):=λaa=>by
  rw[au,Yu,aj];unfold gD;rw[af]
  .rfl
  .rw [List.any_eq_true];rintro⟨t,ht,he⟩;rw[<-aj,List.mem_filter]at ht;obtain⟨U,y,rfl⟩:=bZ.1 ht.1;exact aa U y (qn.1 he)
 have fin:∀(h:List I) (q:Sl) (L D:List En) (j:J),(∀t∈fl,t.rx≠z.rx)->h.map I.rx=gP x.k [] ((fl.map I.rx).filter λt=>!(a5 t u.rx==0))->(∀t∈h,t∈fl)->LH F0 w j L (.tree x::.tree ev::D)->(∀b∈[b4,b8,b9],En.g b∈L)->(∀A,LH F0 w A L (.tree x::.tree ev::D)->bx 4 A q (h.flatMap I.c)/\∀b∈(I.row q h).fp,w.heap.size<=b\/b∈x.fp)->
   bh (((q.n:Nat):Int)==0) (loc [b4,b8,b9] j λaT=>R (ae u.v) aT) (bh (((q.n:Nat):Int)==1) (fb q 0 λp=>fM j (p.add (aV 0 *4)) λa b c d=>loc [b4,b8,b9] j λaU=>R (ae (.agg #[.i a,.int .u8 b,.int .u8 c,d.v])) aU) (loc [b4,b8,b9] j λaX=>R (ae (.agg #[.i x.k,.int .u8 0,.int .u8 0,q.v])) aX)):=by
  intro h q L D j T K S H e av;have hr:=av j H;have bf:=I.cr hr.1;have ej:=aB T;rw[<-K]at ej;have ak:Sub x h:=an.sub S;refine aL (λQ=>H.ah (λF B=>⟨⟨u,rfl,?_,ap F (B.getD 1),λb e=>.inl (aE b e)⟩,B.fr⟩) e) (λQ=>aL (λh1=>?_) (λh1=>H.ah (λF B=>⟨⟨.mk x.k 0 0 q h,rfl,?_,?_,λb e=>?_⟩,B.fr⟩) e))
  .have:h=[]:=List.length_eq_zero_iff.1 (by omega);rw[ej,this];rfl
  .obtain ⟨a,rfl⟩:=List.length_eq_one_iff.1 (show h.length=1 by omega);refine⟨by omega,by omega,I.dd hr.1 (i:=0) (t:=a) rfl λp M c=>⟨_,_,_,_,c.c0,c.c1,c.c2,c.c3,H.ah (λF B=>⟨⟨a,rfl,?_,ak.P _ (B.getD 0) a (by simp),λb e=>.inr (ak.fp a (by simp) b e)⟩,B.fr⟩) e⟩⟩;rw[ej];rfl
  .rw [ej];unfold I.rx;rw[I.fu];cases h with
   |nil=>grind
   |cons a ks=>
    cases ks with
    |nil=>grind
    |cons b ks=>rfl
  .unfold I.P;exact⟨(av F B).1,ak.Ps (B.getD 0)⟩
  .unfold I.fp at e;rcases aY.1 e with e|e
   .grind
   .exact .inr (ak.a8 e)
 have aG:x.k=3->∀(d i:Nat) (q:Sl) (h:List I) (j:J),i+d=fl.length->(∀t∈fl.take i,t.rx≠z.rx)->h.map I.rx=gP x.k [] (((fl.take i).map I.rx).filter λt=>!(a5 t u.rx==0))->(∀t∈h,t∈fl)->I.a0 h<=I.a0 (fl.take i)->
   LH F0 w j [.g b4,.g b8,.g b9,.row aN 4 q (h.flatMap I.c)] [.tree x,.tree ev,.tree (bF sf fl)]->hN.kz x.k b4 0 0 0 ⟨none,0,0⟩ sf b8 u.k u.lo.toNat u.V.toNat u.s b9 z.k z.lo.toNat z.V.toNat z.s q (i:Int) j R:=by
  intro hk d;induction d with
  |zero=>
   intro i q h j hi T K S hs H;rw[fQ (by omega)]at T K;refine hN.pW _ _ _ _ _ _ _ _ _ _ _ _ _ _ _ _ _ _ _ _ _ (aZ (aW (by omega)) ?_);exact fin h q _ _ j T K S H (by simp) (λA H'=>⟨(H'.get 3:aK _ _ _ _ _).bd,λb e=>.inl ((H'.new _ (aD (i:=3) rfl) b (gk e)).resolve_right id)⟩)
  |succ d ai=>
   intro i q h j hi T K S hs H;have C:fl[i]? =some fl[i]:=a4 (by omega);generalize fl[i]'(by omega)=t at C;have E:=aD C;have aR:=I.eh E;have ac:fl.take (i+1)=fl.take i++[t]:=by rw[eA,C];rfl
   have aP:I.a0 (fl.take (i+1))=I.a0 (fl.take i)+t.sz:=by rw[ac,tO];rfl
   have aQ:=zy fl (i+1);refine hN.pW _ _ _ _ _ _ _ _ _ _ _ _ _ _ _ _ _ _ _ _ _ (a1 (aS (by omega)) ⟨by omega,by omega,I.dd (dw.1 (show(bF sf fl).P j from H.getD 2)).1 C λp M _=>H.ah λF B=>?_⟩);have p2:(bF sf fl).P F:=B.getD 2;have N:=I.again (dw.1 p2).1 C M;refine⟨_,_,_,_,N.c0,N.c1,N.c2,N.c3,B.aw (qh t z F (by omega) ((dw.1 p2).2.mem E) (al F (B.getD 1))) ?_⟩;rintro _ w3 rfl W;refine⟨_,rfl,aL (λQ=>W.ah λw4 H4=>⟨⟨z,rfl,?_,al w4 (H4.getD 1),λb e=>.inl (az b e)⟩,H4.fr⟩) (λQ=>?_)⟩
   .exact (ar t E (uV.1 Q)).symm
   refine⟨by omega,by omega,I.dd (dw.1 (show(bF sf fl).P w3 from W.getD 2)).1 C λp M _=>W.ah λw5 Z=>?_⟩;have p5:(bF sf fl).P w5:=Z.getD 2;have O:=I.again (dw.1 p5).1 C M;refine⟨_,_,_,_,O.c0,O.c1,O.c2,O.c3,Z.aw (qh t u w5 (by omega) ((dw.1 p5).2.mem E) (ap w5 (Z.getD 1))) ?_⟩;rintro _ w6 rfl G;have ad:∀U∈fl.take (i+1),U.rx≠z.rx:=λU y=>by
    rw[ac]at y;rcases aY.1 y with y|y
    .grind
    .simp at y;subst y;exact λab=>Q (uV.2 ab)
   refine⟨_,rfl,aL (λh1=>?_) (λh1=>a1 (beq_iff_eq.2 hk) ?_)⟩
   .show hN.kz _ _ _ _ _ _ _ _ _ _ _ _ _ _ _ _ _ _ _ _ _;rw[bb _ (by omega)];refine ai (i+1) q h w6 (by omega) ad ?_ S (by omega) G
    grind
   .have ef:((fl.take (i+1)).map I.rx).filter (λt=>!(a5 t u.rx==0))=(((fl.take i).map I.rx).filter λt=>!(a5 t u.rx==0))++[t.rx]:=by grind
    refine⟨by omega,by omega,I.dd (dw.1 (show(bF sf fl).P w6 from G.getD 2)).1 C λp M c=>⟨_,_,_,_,c.c0,c.c1,c.c2,c.c3,?_⟩⟩;have be:=I.cr (G.get 3:aK _ _ _ _ _).bd;have ba:=I.fv h;refine G.h7 3 kI (xs:=h.flatMap I.c) rfl (λs' w7 H7=>?_) (by omega);show hN.kz _ _ _ _ _ _ _ _ _ _ _ _ _ _ _ _ _ _ _ _ _;rw[bb _ (by omega)];refine ai (i+1) s' (h++[t]) w7 (by omega) ad ?_ (λU y=>?_) (by rw[tO];show _+(t.sz+0)<=_;omega) ?_
    .rw [ef,DG,aq hk,hv,K];rfl
    .rcases aY.1 y with y|y
     .grind
     grind
    .rw [me];exact H7
 have aI:x.k≠3->∀(d i:Nat) (q:Sl) (h:List I) (j:J),i+d=fl.length->(∀t∈fl.take i,t.rx≠z.rx)->h.map I.rx=gP x.k [] (((fl.take i).map I.rx).filter λt=>!(a5 t u.rx==0))->(∀t∈h,t∈fl)->I.a0 h<=I.a0 (fl.take i)->(∀b∈(bF q h).fp,w.heap.size<=b\/b∈x.fp)->
   LH F0 w j [.g b4,.g b8,.g b9] [.tree x,.tree ev,.tree (bF sf fl),.tree (bF q h)]->hN.kz x.k b4 0 0 0 ⟨none,0,0⟩ sf b8 u.k u.lo.toNat u.V.toNat u.s b9 z.k z.lo.toNat z.V.toNat z.s q (i:Int) j R:=by
  intro hk d;induction d with
  |zero=>
   intro i q h j hi T K S hs am H;rw[fQ (by omega)]at T K;refine hN.pW _ _ _ _ _ _ _ _ _ _ _ _ _ _ _ _ _ _ _ _ _ (aZ (aW (by omega)) ?_);exact fin h q _ _ j T K S H (by simp) (λA H'=>⟨(dw.1 (show(bF q h).P A from H'.getD 3)).1,λb e=>am b (lG.2 (.inl e))⟩)
  |succ d ai=>
   intro i q h j hi T K S hs am H;have C:fl[i]? =some fl[i]:=a4 (by omega);generalize fl[i]'(by omega)=t at C;have E:=aD C;have aR:=I.eh E;have ac:fl.take (i+1)=fl.take i++[t]:=by rw[eA,C];rfl
   have aP:I.a0 (fl.take (i+1))=I.a0 (fl.take i)+t.sz:=by rw[ac,tO];rfl
   have aQ:=zy fl (i+1);refine hN.pW _ _ _ _ _ _ _ _ _ _ _ _ _ _ _ _ _ _ _ _ _ (a1 (aS (by omega)) ⟨by omega,by omega,I.dd (dw.1 (show(bF sf fl).P j from H.getD 2)).1 C λp M _=>H.ah λF B=>?_⟩);have p2:(bF sf fl).P F:=B.getD 2;have N:=I.again (dw.1 p2).1 C M;refine⟨_,_,_,_,N.c0,N.c1,N.c2,N.c3,B.aw (qh t z F (by omega) ((dw.1 p2).2.mem E) (al F (B.getD 1))) ?_⟩;rintro _ w3 rfl W;refine⟨_,rfl,aL (λQ=>W.ah λw4 H4=>⟨⟨z,rfl,?_,al w4 (H4.getD 1),λb e=>.inl (az b e)⟩,H4.fr⟩) (λQ=>?_)⟩
   .exact (ar t E (uV.1 Q)).symm
   refine⟨by omega,by omega,I.dd (dw.1 (show(bF sf fl).P w3 from W.getD 2)).1 C λp M _=>W.ah λw5 Z=>?_⟩;have p5:(bF sf fl).P w5:=Z.getD 2;have O:=I.again (dw.1 p5).1 C M;refine⟨_,_,_,_,O.c0,O.c1,O.c2,O.c3,Z.aw (qh t u w5 (by omega) ((dw.1 p5).2.mem E) (ap w5 (Z.getD 1))) ?_⟩;rintro _ w6 rfl G;have ad:∀U∈fl.take (i+1),U.rx≠z.rx:=λU y=>by
    rw[ac]at y;rcases aY.1 y with y|y
    .grind
    .simp at y;subst y;exact λab=>Q (uV.2 ab)
   refine⟨_,rfl,aL (λh1=>?_) (λh1=>aZ (by grind) ?_)⟩
   .show hN.kz _ _ _ _ _ _ _ _ _ _ _ _ _ _ _ _ _ _ _ _ _;rw[bb _ (by omega)];refine ai (i+1) q h w6 (by omega) ad ?_ S (by omega) am G
    grind
   .have ef:((fl.take (i+1)).map I.rx).filter (λt=>!(a5 t u.rx==0))=(((fl.take i).map I.rx).filter λt=>!(a5 t u.rx==0))++[t.rx]:=by grind
    refine⟨by omega,by omega,I.dd (dw.1 (show(bF sf fl).P w6 from G.getD 2)).1 C λp M c=>⟨_,_,_,_,c.c0,c.c1,c.c2,c.c3,?_⟩⟩;refine gN ((Uj q h t w6 (by omega) (by omega) (G.getD 3) ((dw.1 (show(bF sf fl).P w6 from G.getD 2)).2.mem E)).mono ?_);rintro _ w7 ⟨⟨s',rfl,aO,aA⟩,f7⟩;refine⟨f7,?_⟩;have aJ:∀b∈(bF s' (gR t h)).fp,w.heap.size<=b\/b∈x.fp:=λb e=>by
     rcases aA b e with e|e
     .exact .inl (a6 G.fr.size e)
     .rcases aY.1 e with e|e
      .grind
      .exact .inr (an.fp t E b e)
    have H8:LH F0 w w7 [.g b4,.g b8,.g b9] [.tree x,.tree ev,.tree (bF sf fl),.tree (bF q h),.tree (bF s' (gR t h))]:=G.gy _ f7 aO λb e=>by
     rcases aA b (aM.1 e)with e|e
     .omega
     .rcases aY.1 e with e|e
      .exact .inr (.inr ⟨_,aD (i:=3) rfl,aM.2 e⟩)
      .exact .inr (.inr ⟨_,aD (i:=0) rfl,aM.2 (an.fp t E b e)⟩)
    refine⟨s',rfl,?_⟩;show hN.kz _ _ _ _ _ _ _ _ _ _ _ _ _ _ _ _ _ _ _ _ _;rw[bb _ (by omega)];refine ai (i+1) s' (gR t h) w7 (by omega) ad ?_ (λU y=>?_) (by have:=On t h;omega) aJ (H8.forget _ (by simp))
    .rw [ef,DG,af hk,Oq,K]
    .rcases y4 y with rfl|y
     .exact E
     grind
 by_cases hk:x.k=3
 .exact aG hk fl.length 0 ⟨none,0,0⟩ [] j (by omega) (by simp) (by simp[gP]) (by simp) (by grind) (H.hR aN 4)
 .refine aI hk fl.length 0 ⟨none,0,0⟩ [] j (by omega) (by simp) (by simp[gP]) (by simp) (by grind) (λb e=>?_) (H.gy (.tree (bF ⟨none,0,0⟩ [])) (Fr.refl _ _) (dw.2 ⟨bx.nil 4 j,by unfold I.Ps;trivial⟩) λb e=>?_)
  .rcases lG.1 e with e|e
   .simp [I.row,En.bd]at e
   .unfold I.a8 at e;cases e
  .rcases lG.1 (aM.1 e)with e|e
   .simp [I.row,En.bd]at e
   .unfold I.a8 at e;cases e
end
def Uq(x:I)(W:3<=x.k/\x.k<=7)(hx:x.sz<=10000)(M:j1 (.mk x.k 0 0 (I.ao x.l))=true)(aA:∀c∈x.l,0<=c.k)(w:J)(px:x.P w):
  ai Y KH #[.i x.k,x.s.v] w λr w'=>fZ x.fp w (hh (.mk x.k 0 0 (I.ao x.l))) r w'/\ag w w':=by
 have nr:=I.cr px.parts.1;have aU:=I.hW x;have aP:=I.fv x.l;refine hN.aB _ _ w _ ((gG px).aG λG F H1=>H1.iZ (A9 F) ?_);rintro _ w2 ⟨j,rfl,aj,aI,au⟩ H2 F2;have H3:LH F0 w w2 [.g G] [.tree x,.tree j]:=F2.rd (.tree j) aI λb h=>au b (aM.1 h);have aH:∀b∈j.fp,w.heap.size<=b:=λb h=>a6 H1.fr.size (au b h);have Z:∀{w':J} {c:I},x.P w'->x.l[0]? =some c->c.P w':=λac e=>ac.parts.2.mem (aD e);have fc:∀{c:I},x.l[0]? =some c->∀b∈c.fp,b∈x.fp:=λe b h=>I.gh.2 (.inr (I.bJ.2 ⟨_,aD e,h⟩));refine⟨_,_,_,j.s,rfl,H3.aG λK w3 D=>aL (λT=>?_) (λT=>aL (λad=>?_) (λad=>D.ah λL B=>?_))⟩
 .
  cases O:x.l with
  |nil=>rw[O,T]at M;simp[j1,I.ao]at M
  |cons c C=>
   have e:x.l[0]? =some c:=by grind
   have n2:0<x.s.n:=by grind
   have e1:I.ao (c::C)=c.rx::I.ao C:=rfl;have ef:hh (.mk x.k 0 0 (I.ao (c::C)))=o' 0 0 (c.rx::I.ao C):=by rw[T];rfl
   rw[ef];refine⟨by omega,by omega,I.dd (show x.P w3 from D.getD 0).parts.1 e λp A _=>D.ah λw5 B=>?_⟩;have N:x.P w5:=B.getD 0;have y:=I.again N.parts.1 e A;refine⟨c.k,y.c0,aL (λae=>⟨by omega,by omega,I.dd N.parts.1 e λp A y=>⟨c.s,y.c3,?_⟩⟩) (λae=>B.ah λz q=>⟨⟨.mk 6 0 0 x.s x.l,rfl,?_,?_,λb h=>.inr ?_⟩,q.fr⟩)⟩
   .cases ap:c.l with
    |nil=>
     rw[O,e1]at M;have e2:c.rx.l.isEmpty=true:=by rw[wt,ap];rfl
     simp[j1,T,kW,ae,e2]at M
    |cons d l2=>
     have ak:c.l[0]? =some d:=by grind
     refine iq (Z N e) rfl ak (B.ah λz q=>⟨⟨d,rfl,?_,(Z (q.getD 0) e).parts.2.mem (aD ak),λb h=>.inr (fc e b (I.gh.2 (.inr (I.bJ.2 ⟨d,aD ak,h⟩))))⟩,q.fr⟩);show d.rx=if c.rx.k=6 then _ else _;rw[aq (by rw[kW,ae]),wt,ap];rfl
   .show Rx.mk 6 0 0 (I.ao x.l)=if c.rx.k=6 then _ else _;rw[af (by rw[kW];omega),O,e1]
   .unfold I.P;exact(show x.P z from q.getD 0).parts
   .unfold I.fp at h;exact I.gh.2 (aY.1 h)
 .
  cases O:x.l with
  |nil=>rw[O,ad]at M;simp[j1,I.ao]at M
  |cons c C=>
   have e:x.l[0]? =some c:=by grind
   have n2:0<x.s.n:=by grind
   have e1:I.ao (c::C)=c.rx::I.ao C:=rfl;have ef:hh (.mk x.k 0 0 (I.ao (c::C)))=kZ 0 0 (c.rx::I.ao C):=by rw[ad];rfl
   rw[ef];have av:kZ 0 0 (c.rx::I.ao C)=if c.k=0\/c.k=1 then mY else if c.k=7\/a5 c.rx eD=0 then c.rx else .mk 7 0 0 (c.rx::I.ao C):=by unfold kZ;simp only[kW]
   have aJ:c.sz<=1000000:=by have:=I.eh (aD e);omega
   have s0:∀(z:J),¬(c.k=0\/c.k=1)->(c.k=7\/a5 c.rx eD=0)->LH F0 w z [.g G,.g K] [.tree x,.tree j]->hN.bn x.s G 0 0 0 ⟨none,0,0⟩ z λr w'=>fZ x.fp w (kZ 0 0 (c.rx::I.ao C)) r w'/\ag w w':=by
    intro z h1 h2 q;refine⟨by omega,by omega,I.dd (show x.P z from q.getD 0).parts.1 e λp A y=>⟨_,_,_,_,y.c0,y.c1,y.c2,y.c3,(q.take 1).ah λw7 E=>⟨⟨c,rfl,?_,Z (E.getD 0) e,λb h=>.inr (fc e b h)⟩,E.fr⟩⟩⟩
    grind
   refine⟨by omega,by omega,I.dd (show x.P w3 from D.getD 0).parts.1 e λp A _=>D.ah λw5 B=>?_⟩;have N:x.P w5:=B.getD 0;have y:=I.again N.parts.1 e A;have aO:0<=c.k:=aA c (aD e);refine⟨c.k,y.c0,aF (λh2=>B.ah λz q=>⟨⟨fi,rfl,?_,xR z,λb h=>(xS h).elim⟩,q.fr⟩) (λh2=>?_)⟩
   .rw [av,aq (by omega)];rfl
   refine⟨by omega,by omega,I.dd N.parts.1 e λp A _=>B.ah λz q=>?_⟩;have al:x.P z:=q.getD 0;have y:=I.again al.parts.1 e A;refine⟨c.k,y.c0,aL (λan=>s0 z (by omega) (.inl an) q) (λan=>⟨by omega,by omega,I.dd al.parts.1 e λp A y=>⟨_,_,_,_,y.c0,y.c1,y.c2,y.c3,q.aw (qh c j z aJ (Z al e) (q.getD 1)) ?_⟩⟩)⟩;rintro _ w7 rfl E;rw[aj];refine⟨_,rfl,aL (λh0=>s0 w7 (by omega) (.inr h0) E) (λh0=>E.ah λw8 S=>⟨⟨.mk 7 0 0 x.s x.l,rfl,?_,?_,λb h=>.inr ?_⟩,S.fr⟩)⟩
   .show Rx.mk 7 0 0 (I.ao x.l)=_
    grind
   .unfold I.P;exact(show x.P w8 from S.getD 0).parts
   .unfold I.fp at h;exact I.gh.2 (aY.1 h)
 .
  have ax:x.k=3\/x.k=4\/x.k=5:=by omega
  obtain⟨aX,u,a7,ew,hj,gu,gz,hu,aE,aC,ay⟩:=abe x j ax aj;have loop:∀(d i:Nat) (acc:List I) (sl:Sl) (F:J),i+d=x.l.length->acc=(x.l.take i).flatMap (eO x)->LH F0 w F [.g G,.g K,.row aN 4 sl (acc.flatMap I.c)] [.tree x,.tree j]->
    hN.cm x.k x.s G 0 0 0 ⟨none,0,0⟩ K j.k j.lo.toNat j.V.toNat j.s sl (i:Int) F λr w'=>fZ x.fp w (hh (.mk x.k 0 0 (I.ao x.l))) r w'/\ag w w':=by
   intro d;induction d with
   |zero=>
    intro i acc sl F hi U H;rw[fQ (by omega)]at U;subst U;have ar:Sub x (x.l.flatMap (eO x)):=Sub.flat λ_ ac=>ac;have Q:=(H.gy (.trees (x.l.flatMap (eO x))) (Fr.refl _ _) (ar.Ps (H.getD 0)) (λb h=>.inr (.inr ⟨_,aD (i:=0) rfl,aM.2 (ar.a8 (aM.1 h))⟩))).q0 2 2 0 0 0;have Q:LH F0 w F [.g G,.g K] [.tree x,.tree j,.tree (bF sl (x.l.flatMap (eO x)))]:=Q.forget _ (by simp);refine hN.dB _ _ _ _ _ _ _ _ _ _ _ _ _ _ _ _ (aZ (aW (by omega)) ?_);refine Q.cN (n:=3) (sz:=4) (cs:=[fi,b3,j].flatMap I.c) rfl (by decide) λw2 H2=>?_;rw[ew];refine⟨by omega,by omega,I.dd (s:=⟨some (ab F.heap.size),3,3⟩) (l:=[fi,b3,j]) (H2.get 2:aK _ _ _ _ _).bd gu λp A c=>⟨_,_,_,_,c.c0,c.c1,c.c2,c.c3,H2.aG λb8 w3 H3=>H3.ah λL D=>D.cN (n:=3) (sz:=4) (cs:=[b3,j,b3].flatMap I.c) rfl (by decide) λw5 B=>⟨by omega,by omega,I.dd (s:=⟨some (ab L.heap.size),3,3⟩) (l:=[b3,j,b3]) (B.get 4:aK _ _ _ _ _).bd gz λp A c=>⟨_,_,_,_,c.c0,c.c1,c.c2,c.c3,B.aG λb9 z q=>q.ah λw7 E=>?_⟩⟩⟩⟩;have S:=((E.freeze 1 (.g K) rfl (E.get 1) λb h=>h).freeze 1 _ rfl (E.get 2) λb h=>h).freeze 2 _ rfl (E.get 4) λb h=>h;exact Zv hx aj aH hu aE aC ay (S.forget _ (by simp))
   |succ d aV=>
    intro i acc sl F hi U H;have e:x.l[i]? =some (x.l[i]'(by omega)):=a4 (by omega);generalize x.l[i]'(by omega)=a at e;have hm:=aD e;have aa:x.P F:=H.getD 0;have a3:=I.eh hm;have aT:I.a0 acc<=I.a0 x.l:=by
     have h1:=tP x (x.l.take i);have h2:=zy x.l i
     grind
    have aQ:acc++eO x a=(x.l.take (i+1)).flatMap (eO x):=by rw[eA,e,dt,U];simp
    have a2:=I.cr (H.get 2:aK _ _ _ _ _).bd;have az:=I.fv acc;have tail:∀(s':Sl) (w':J),LH F0 w w' [.g G,.g K,.row aN 4 s' ((acc++eO x a).flatMap I.c)] [.tree x,.tree j]->hN.bV x.k x.s G 0 0 0 ⟨none,0,0⟩ K j.k j.lo.toNat j.V.toNat j.s s' (i:Int) w' λr w'=>fZ x.fp w (hh (.mk x.k 0 0 (I.ao x.l))) r w'/\ag w w':=by
     intro s' w' Q;show hN.cm _ _ _ _ _ _ _ _ _ _ _ _ _ _ _ _;rw[bb _ (by omega)]
     grind
    refine hN.dB _ _ _ _ _ _ _ _ _ _ _ _ _ _ _ _ (a1 (aS (by omega)) ⟨by omega,by omega,I.dd aa.parts.1 e λp A c=>⟨a.k,c.c0,aL (λW=>?_) (λW=>?_)⟩⟩)
    .have pa:a.P F:=aa.parts.2.mem hm;have na:=I.cr pa.parts.1;have az:=I.fv a.l;have aR:=I.hW a;refine⟨by omega,by omega,I.dd aa.parts.1 e λp A c=>⟨a.s,c.c3,?_⟩⟩;refine H.dc 2 kI (xs:=acc.flatMap I.c) (src:=a.s) (news:=a.l.flatMap I.c) rfl pa.parts.1 (r4 _) (by omega) (λs' L D=>?_);refine tail s' L ?_;have am:eO x a=a.l:=aq W
     grind
    .refine ⟨by omega,by omega,I.dd aa.parts.1 e λp A c=>⟨_,_,_,_,c.c0,c.c1,c.c2,c.c3,?_⟩⟩;refine H.h7 2 kI (xs:=acc.flatMap I.c) rfl (λs' L D=>?_) (by omega);refine tail s' L ?_;have am:eO x a=[a]:=af W;rw[am,me];exact D
  exact loop x.l.length 0 [] ⟨none,0,0⟩ L (by omega) rfl (B.hR aN 4)
def uX(k:Int):Rx:=if k=3 then mY else if k=4 then fq else eD
def zX(k:Int):Rx:=if k=4 then eD else fq
mutual
def NF:Rx->Prop
 |.mk d lo e l=>mO l/\(d≠2->lo=0/\e=0)/\(((d=0\/d=1)/\l=[])\/(d=2/\l=[]/\lo.toNat<=e.toNat)\/
   ((d=3\/d=4\/d=5)/\2<=l.length/\(d≠3->iT l)/\∀t∈l,t.k≠d/\t≠uX d/\t≠zX d)\/
   (d=6/\∃c,l=[c]/\c.k≠6)\/(d=7/\∃c,l=[c]/\c.k≠0/\c.k≠1/\c.k≠7/\c≠eD))
def mO:List Rx->Prop
 |[]=>True
 |a::l=>NF a/\mO l
end
def uv:∀{l:List Rx},mO l↔∀t∈l,NF t
 |[]=>by unfold mO;simp
 |a::l=>by unfold mO;rw[uv];simp
def vU:NF fq:=by unfold fq NF mO;simp
def Dq:NF mY:=by unfold mY NF mO;simp
def Nj:NF eD:=by unfold eD NF mO mO;refine⟨⟨vU,trivial⟩,by simp,.inr (.inr (.inr (.inl ⟨rfl,fq,rfl,by decide⟩)))⟩
def XY(k:Int):NF (uX k):=by
 unfold uX;split
 .exact Dq
 .split
  .exact vU
  .exact Nj
def XZ(k:Int):NF (zX k):=by
 unfold zX;split
 .exact Nj
 .exact vU
def Nk{x:Rx}(h:NF x):∀t∈x.l,NF t:=by cases x;unfold NF at h;exact uv.1 h.1
def XV{x:Rx}{k:Int}(q:k=3\/k=4\/k=5)(h:NF x)(d:x.k=k):2<=x.l.length/\(k≠3->iT x.l)/\∀t∈x.l,t.k≠k/\t≠uX k/\t≠zX k:=by
 cases x with
 |mk e lo j l=>
  have d:e=k:=d;subst d;unfold NF at h;obtain⟨-,-,h|h|h|h|h⟩:=h
  .omega
  .omega
  .exact h.2
  .omega
  .omega
def VD{k:Int}{l:List Rx}{u t:Rx}:t∈gO k l u↔(∃c∈l,if c.k=k then t∈c.l else t=c)/\t≠u:=by
 unfold gO;rw[List.mem_filter,bS,Hr]
 grind
def VE{k:Int}(w:k=3\/k=4\/k=5){l:List Rx}(h:∀c∈l,NF c){t:Rx}(x:t∈gO k l (uX k)):NF t/\t.k≠k/\t≠uX k:=by
 obtain⟨⟨c,e,d⟩,q⟩:=VD.1 x;split at d
 .rename_i j;exact⟨Nk (h c e) t d,((XV w (h c e) j).2.2 t d).1,q⟩
 grind
def lP(k:Int)(l:List Rx):List Rx:=if k=3 then gO k l (uX k)else tB (gO k l (uX k))
def Zr{k:Int}{l:List Rx}{t:Rx}:t∈lP k l↔t∈gO k l (uX k):=by
 unfold lP;split
 .grind
 .exact PW
def Jq(k:Int)(l:List Rx):((gO k l (uX k)).any λt=>a5 t (zX k)==0)=true↔zX k∈gO k l (uX k):=by
 rw[List.any_eq_true];constructor
 .rintro ⟨t,e,d⟩;rw[qn.1 d]at e;exact e
 .exact λd=>⟨_,d,qn.2 rfl⟩
def Js{k:Int}{l:List Rx}(h:zX k∈gO k l (uX k)):gD k l (uX k) (zX k)=zX k:=by unfold gD;rw[aq ((Jq k l).2 h)]
def Jr{k:Int}{l:List Rx}(h:¬zX k∈gO k l (uX k)):gD k l (uX k) (zX k)=sE k (uX k) (lP k l):=by unfold gD;rw[af (λd=>h ((Jq k l).1 d))];rfl
def Wt{k:Int}(w:k=3\/k=4\/k=5){l:List Rx}(h:∀c∈l,NF c):NF (gD k l (uX k) (zX k)):=by
 by_cases x:zX k∈gO k l (uX k)
 .rw [Js x];exact XZ k
 .rw [Jr x];have e:∀t∈lP k l,NF t/\t.k≠k/\t≠uX k/\t≠zX k:=λt d=>by
   have d:=Zr.1 d;obtain⟨y,A,j⟩:=VE w h d
   grind
  have q:k≠3->iT (lP k l):=λj=>by unfold lP;rw[af j];exact PV _
  generalize lP k l=m at e q;unfold sE;split
  .exact XY k
  .grind
  .rename_i z y;unfold NF;refine⟨uv.2 λt d=>(e t d).1,λ_=>⟨rfl,rfl⟩,.inr (.inr (.inl ⟨w,?_,q,λt d=>(e t d).2⟩))⟩;cases m with
   |nil=>grind
   |cons a m=>
    cases m with
    |nil=>grind
    |cons b m=>simp
def B7{k:Int}(d:k=3\/k=4\/k=5)(lo V:UInt8)(l:List Rx):hh (.mk k lo V l)=gD k l (uX k) (zX k):=by rcases d with rfl|rfl|rfl<;>rfl
def Ya{c:Rx}(h:NF c):NF (o' 0 0 [c]):=by
 unfold o';simp only;split
 .rename_i d;split
  .exact vU
  .rename_i e m j;exact Nk h e (by grind)
 .rename_i d;unfold NF;exact⟨uv.2 λt k=>by grind,λ_=>⟨rfl,rfl⟩,.inr (.inr (.inr (.inl ⟨rfl,c,rfl,d⟩)))⟩
def aam{c:Rx}(h:NF c):NF (kZ 0 0 [c]):=by
 unfold kZ;simp only;split
 .exact Dq
 .rename_i d;split
  .exact h
  .rename_i e;unfold NF;exact⟨uv.2 λt j=>by grind,λ_=>⟨rfl,rfl⟩,.inr (.inr (.inr (.inr ⟨rfl,c,rfl,λh=>d (.inl h),λh=>d (.inr h),λh=>e (.inl h),λh=>e (.inr (uV.2 h))⟩)))⟩
def qy{k:Int}{lo V:UInt8}{l:List Rx}(h:cK (.mk k lo V l)=true):dU l=true/\(k≠2->lo=0/\V=0)/\(((k=0\/k=1)/\l=[])\/(k=2/\l=[]/\lo.toNat<=V.toNat)\/(k=3\/k=4\/k=5)\/((k=6\/k=7)/\∃c,l=[c])):=by
 unfold cK at h;rw[bq]at h;obtain⟨q,d⟩:=h;have j:k≠2->lo=0/\V=0:=λe=>by grind
 split at d
 .rename_i e;have:l=[]:=by grind
  subst this;exact⟨rfl,j,.inl ⟨e,rfl⟩⟩
 .split at d
  .rename_i e;simp only[bq,decide_eq_true_eq]at d;have:l=[]:=by grind
   subst this;exact⟨rfl,j,.inr (.inl ⟨e,rfl,d.2⟩)⟩
  .split at d
   .grind
   .split at d
    .rename_i e;simp only[bq]at d;exact⟨d.2,j,.inr (.inr (.inr ⟨e,List.length_eq_one_iff.1 (eq_of_beq d.1)⟩))⟩
    grind
def XX{lo V:UInt8}(h:lo.toNat<=V.toNat):NF (.mk 2 lo V []):=by
 unfold NF mO
 grind
mutual
def Nw:∀k:Rx,cK k=true->NF (dL k)
 |.mk A lo z l,q=>by
  obtain⟨w,e,x⟩:=qy q;have j:=Du l w;unfold dL;rcases x with⟨d,rfl⟩|⟨rfl,rfl,y⟩|d|⟨d,c,rfl⟩
  .obtain ⟨rfl,rfl⟩:=e (by omega);rcases d with rfl|rfl
   .exact vU
   .exact Dq
  .exact XX y
  .rw [B7 d];exact Wt d j
  .obtain ⟨rfl,rfl⟩:=e (by omega);have h:NF (dL c):=j _ (by unfold e0;simp);rcases d with rfl|rfl
   .exact Ya h
   .exact aam h
def Du:∀l:List Rx,dU l=true->∀t∈e0 l,NF t
 |[],_=>λt d=>by unfold e0 at d;cases d
 |a::l,e=>λt d=>by
  unfold dU at e;rw[bq]at e;unfold e0 at d;rcases au.1 d with rfl|d
  .exact Nw a e.1
  .exact Du l e.2 t d
end
section
variable {μ:Rx->Nat}
def Kc(p:Rx->Bool):∀l:List Rx,ms μ (l.filter p)<=ms μ l
 |[]=>bm _
 |a::l=>by
  have d:=Kc p l;rw[List.filter_cons];split
  .show μ a+_<=μ a+_;omega
  .show _<=μ a+_;omega
def vK:∀{l:List Rx} {a:Rx},a∈l->μ a<=ms μ l
 |b::l,a,d=>by
  rcases au.1 d with rfl|d
  .show μ a<=μ a+_;omega
  .have:=vK d;show μ a<=μ b+_;omega
def Kd(h:∀d,1<=μ d):∀l:List Rx,l.length<=ms μ l
 |[]=>bm _
 |a::l=>by have:=Kd h l;have:=h a;show l.length+1<=μ a+ms μ l;omega
def Kb:∀(l:List Rx) (p:Rx),ms μ (jX p l)<=ms μ l
 |[],p=>bm _
 |d::l,p=>by
  have:=Kb l d;unfold jX;split
  .show _<=μ d+ms μ l;omega
  .show μ d+_<=μ d+ms μ l;omega
def XN(l:List Rx):ms μ (tB l)<=ms μ l:=by
 have d:ms μ (qo (kn l))<=ms μ (kn l):=by
  cases kn l with
  |nil=>exact bm _
  |cons a m=>have:=Kb (μ:=μ) m a;show μ a+_<=μ a+_;omega
 rw[<-XM (EL l)];exact d
def CK(h:∀d,ms μ d.l<=μ d)(k:Int):∀l:List Rx,ms μ (l.flatMap λc=>if c.k=k then c.l else[c])<=ms μ l
 |[]=>bm _
 |c::l=>by
  have j:=CK h k l;have e:=h c;rw[cV,Ka];show _<=μ c+ms μ l;split
  .omega
  .show (μ c+0)+_<=_;omega
def Ke(h:∀e,ms μ e.l<=μ e)(k:Int)(l:List Rx):ms μ (lP k l)<=ms μ l:=by
 have d:ms μ (gO k l (uX k))<=ms μ l:=a6 (Kc _ _) (CK h k l);unfold lP;split
 .exact d
 .exact a6 (XN _) d
end
def EZ:∀l:List Rx,Rx.a0 l=ms Rx.sz l
 |[]=>rfl
 |a::l=>by unfold Rx.a0;rw[EZ l];rfl
def ow(k:Int)(lo V:UInt8)(l:List Rx):(Rx.mk k lo V l).sz=1+ms Rx.sz l:=by unfold Rx.sz;rw[EZ]
def QI(x:Rx):ms Rx.sz x.l<=x.sz:=by cases x;rw[ow];simp only[Rx.l];omega
def CF(x:Rx):ms dx x.l<=dx x:=by cases x;rw[qG];simp only[Rx.l];omega
def Xz(x:Rx):1<=dx x:=by cases x;rw[qG];omega
mutual
def CG:∀d:Rx,dx d<=d.sz
 |.mk h lo e l=>by rw[qG,ow];have:=J3 l;omega
def J3:∀l:List Rx,ms dx l<=ms Rx.sz l
 |[]=>bm _
 |a::l=>by have d:=CG a;have e:=J3 l;show dx a+ms dx l<=a.sz+ms Rx.sz l;omega
end
def Jt{k:Int}{l:List Rx}{P:Rx->Prop}(j:P (zX k))(w:P (uX k))(e:∀a,a∈lP k l->P a)(h:P (.mk k 0 0 (lP k l))):P (gD k l (uX k) (zX k)):=by
 by_cases d:zX k∈gO k l (uX k)
 .rw [Js d];exact j
 .rw [Jr d];generalize q:lP k l=m at e h;unfold sE
  grind
def Ry(k:Int):(uX k).sz<=2/\(zX k).sz<=2/\dx (uX k)=1/\dx (zX k)=1:=by
 unfold uX zX;refine⟨?_,?_,?_,?_⟩
 .split
  .decide
  .split<;>decide
 .split<;>decide
 .split
  .decide
  .split<;>decide
 .split<;>decide
def ND{k:Int}{c:Rx}(e:k=6\/k=7){P:Rx->Prop}(h:P fq)(j:P mY)(w:P c)(x:∀d∈c.l,P d)(q:P (.mk k 0 0 [c])):P (hh (.mk k 0 0 [c])):=by
 rcases e with rfl|rfl
 .show P (o' 0 0 [c]);unfold o'
  grind
 .show P (kZ 0 0 [c]);unfold kZ
  grind
mutual
def Ds:∀j:Rx,cK j=true->(dL j).sz<=2 *j.sz
 |.mk e lo w l,y=>by
  obtain⟨z,q,A⟩:=qy y;have h:=yK l z;have D:=ow e lo w l;rw[D];unfold dL;rcases A with⟨d,rfl⟩|⟨rfl,rfl,F⟩|d|⟨d,c,rfl⟩
  .obtain ⟨rfl,rfl⟩:=q (by omega);rcases d with rfl|rfl<;>decide
  .show (Rx.mk 2 lo w []).sz<=_;omega
  .rw [B7 d];have G:=Ke (μ:=Rx.sz) QI e (e0 l);obtain⟨H,I,-,-⟩:=Ry e;refine Jt (P:=λk=>k.sz<=2 *(1+ms Rx.sz l)) (by omega) (by omega) (λa B=>?_) ?_
   .have:=vK (μ:=Rx.sz) B;omega
   .show (Rx.mk e 0 0 _).sz<=_;rw[ow];omega
  .obtain ⟨rfl,rfl⟩:=q (by omega);have x:e0 [c]=[dL c]:=rfl;rw[x]at h ⊢;have h:(dL c).sz+0<=2 *(c.sz+0):=h;show _<=2 *(1+(c.sz+0));refine ND (P:=λk=>k.sz<=2 *(1+(c.sz+0))) d (by show(1:Nat)<=_;omega) (by show(1:Nat)<=_;omega) (by omega) (λE C=>?_) ?_
   .have:=vK (μ:=Rx.sz) C;have:=QI (dL c);omega
   .show (Rx.mk e 0 0 _).sz<=_;rw[ow];simp only[ms];omega
def yK:∀l:List Rx,dU l=true->ms Rx.sz (e0 l)<=2 *ms Rx.sz l
 |[],_=>bm _
 |a::l,d=>by unfold dU at d;rw[bq]at d;have e:=Ds a d.1;have h:=yK l d.2;show(dL a).sz+ms Rx.sz (e0 l)<=2 *(a.sz+ms Rx.sz l);omega
end
mutual
def X9:∀j:Rx,cK j=true->dx (dL j)<=dx j
 |.mk e lo w l,y=>by
  obtain⟨z,q,A⟩:=qy y;have h:=Dt l z;have D:=qG e lo w l;rw[D];unfold dL;rcases A with⟨d,rfl⟩|⟨rfl,rfl,F⟩|d|⟨d,c,rfl⟩
  .obtain ⟨rfl,rfl⟩:=q (by omega);rcases d with rfl|rfl<;>decide
  .show dx (Rx.mk 2 lo w [])<=_;omega
  .rw [B7 d];have G:=Ke (μ:=dx) CF e (e0 l);obtain⟨-,-,H,I⟩:=Ry e;refine Jt (P:=λk=>dx k<=max 1 (ms dx l)) (by omega) (by omega) (λa B=>?_) ?_
   .have:=vK (μ:=dx) B;omega
   .show dx (Rx.mk e 0 0 _)<=_;rw[qG];omega
  .obtain ⟨rfl,rfl⟩:=q (by omega);have x:e0 [c]=[dL c]:=rfl;rw[x]at h ⊢;have h:dx (dL c)+0<=dx c+0:=h;show _<=max 1 (dx c+0);refine ND (P:=λk=>dx k<=max 1 (dx c+0)) d (by show(1:Nat)<=_;omega) (by show(1:Nat)<=_;omega) (by omega) (λE C=>?_) ?_
   .have:=vK (μ:=dx) C;have:=CF (dL c);omega
   .show dx (Rx.mk e 0 0 _)<=_;rw[qG];simp only[ms];omega
def Dt:∀l:List Rx,dU l=true->ms dx (e0 l)<=ms dx l
 |[],_=>bm _
 |a::l,d=>by unfold dU at d;rw[bq]at d;have e:=X9 a d.1;have h:=Dt l d.2;show dx (dL a)+ms dx (e0 l)<=dx a+ms dx l;omega
end
def IN{N:Nat}{k:Int}{lo V:UInt8}{l:List Rx}(h:cK (.mk k lo V l)=true)(D:(Rx.mk k lo V l).sz<=10000)(q:nV N (.mk k lo V l)):qP N (.mk k lo V (e0 l))=true:=by
 obtain⟨d,I,y⟩:=qy h;have Q:=yK l d;have P:=Dt l d;rw[ow]at D;unfold nV at q;unfold qP;rw[bq,bq];refine⟨⟨?_,aS (by rw[ow];omega)⟩,?_⟩
 .unfold j1;rw[bq,bq];refine⟨⟨aS (by omega),aS (by omega)⟩,?_⟩;rcases y with⟨e,rfl⟩|⟨e,rfl,O⟩|e|⟨e,c,rfl⟩
  .grind
  .grind
  .grind
  .show (!(k==6&&(dL c).k==6&&(dL c).l.isEmpty))=true;have A:cK c=true:=by
    unfold dU at d
    grind
   have j:=Nw c A;generalize dL c=G at j;cases G with
   |mk w F C E=>
    by_cases x:w=6
    .unfold NF at j;obtain⟨-,-,h|h|h|⟨_,H,B,_⟩|h⟩:=j
     .omega
     .omega
     .omega
     .rw [B];simp[Rx.l]
     .omega
    .have:(Rx.k (.mk w F C E)==6)=false:=by simpa[Rx.k]using x
     grind
 .show ak (k=4\/k=5->s5 k (e0 l)<=N)=true;refine aS λz=>?_;have K:=Kd Xz ((e0 l).flatMap λc=>if c.k=k then c.l else[c]);have L:=CK (μ:=dx) CF k (e0 l);have M:=q.2 z;show((e0 l).flatMap λc=>if c.k=k then c.l else[c]).length<=N;omega
mutual
def II{N:Nat}:∀d:Rx,cK d=true->d.sz<=10000->nV N d->oW N d=true
 |.mk w lo q l,h,j,e=>by obtain⟨k,-,-⟩:=qy h;unfold oW;rw[IN h j e,Bool.and_true];rw[ow]at j;unfold nV at e;exact IJ l k (by omega) e.1
def IJ{N:Nat}:∀l:List Rx,dU l=true->ms Rx.sz l<=10000->qw N l->qx N l=true
 |[],_,_,_=>rfl
 |a::l,d,h,e=>by unfold dU at d;rw[bq]at d;unfold qw at e;have h:a.sz+ms Rx.sz l<=10000:=h;unfold qx;rw[II a d.1 (by omega) e.1,IJ l d.2 (by omega) e.2];rfl
end
set_option maxRecDepth 100000
set_option maxHeartbeats 2000000
namespace OZ
noncomputable abbrev t0:=az Y Tryz.f157 [(4,ls [1,0,2,3,4,5,6,7])] [1,2]
def aB:=aA t0 CY [.a 4,.I,.Y,.Y,.s]
end OZ
def XW{x:Rx}(h:NF x):0<=x.k:=by cases x;unfold NF at h;simp only[Rx.k];omega
def X'{x:Rx}(h:cK x=true)(d:x.k<3):dL x=x:=by
 cases x with
 |mk j lo y l=>
  have z:j<3:=d;clear d;obtain⟨q,w,e⟩:=qy h;rcases e with⟨d,rfl⟩|⟨rfl,rfl,A⟩|d|⟨d,c,rfl⟩
  .rcases d with rfl|rfl<;>rfl
  .rfl
  .omega
  .omega
abbrev SB(n:Nat):Prop:=∀(x:I) (w:J),x.sz<=n->cK x.rx=true->x.P w->ai Y vM #[x.v] w λr d=>fZ x.fp w (dL x.rx) r d/\ag w d
def G1:∀n:Nat,n<=1000->SB n
 |0,_=>λe w aa _ _=>absurd aa (by have:=I.lS e;omega)
 |n+1,hn=>λe w aa ab px=>by
  have ih:=G1 n (by omega);have hs:=I.hW e;have hl:=I.fv e.l;have nr:=I.cr px.parts.1;refine vh.aB _ _ _ _ w _ ((gG px).aG λD j H1=>H1.aG λE O x=>aF (λhk=>x.ah λQ y=>⟨⟨e,rfl,(X' ab (by rw[kW];exact hk)).symm,y.getD 0,λb h=>.inr h⟩,y.fr⟩) (λhk=>?_));have H:=ab;rw[I.e1]at H;obtain⟨K,aj,ap⟩:=qy H;obtain⟨U,T⟩:=aj (by omega);have ad:dL e.rx=hh (.mk e.k 0 0 (e0 (I.ao e.l))):=by rw[I.e1,U,T];unfold dL;rfl
  have loop:∀(d i:Nat) (acc:List I) (sl:Sl) (j:J),i+d=e.l.length->I.ao acc=e0 (I.ao (e.l.take i))->(∀b∈I.a8 acc,w.heap.size<=b\/b∈e.fp)->
    LH F0 w j [.g D,.g E,.row aN 4 sl (acc.flatMap I.c)] [.tree e,.trees acc]->
    vh.a2 D e.k e.lo.toNat e.V.toNat e.s E 0 0 0 ⟨none,0,0⟩ sl (i:Int) j λr w'=>fZ e.fp w (dL e.rx) r w'/\ag w w':=by
   intro d;induction d with
   |zero=>
    intro i acc sl j hi z G q;rw[fQ (by omega)]at z;have ak:∀b∈(I.row sl acc).fp,w.heap.size<=b:=λb h=>(q.new _ (aD (i:=2) rfl) b (gk h)).resolve_right id;have S:LH F0 w j [.g D,.g E] [.tree e,.trees acc,I.row sl acc,.tree (.mk e.k 0 0 sl acc)]:=q.q0 2 1 e.k 0 0;have W:Rx.mk e.k 0 0 (I.ao acc)=.mk e.k 0 0 (e0 (I.ao e.l)):=by rw[z]
    have am:(Rx.mk e.k e.lo e.V (I.ao e.l)).sz<=10000:=by rw[<-I.e1,I.eB];omega
    have L:=IN (N:=100000) H am (B1 _ (by have ai:∀ac:Rx,dx ac<=ac.sz:=CG;have:=ai (Rx.mk e.k e.lo e.V (I.ao e.l));omega))
    unfold qP at L;rw[bq,bq]at L;have al:(I.mk e.k 0 0 sl acc).sz<=10000:=by have A:=I.eB (I.mk e.k 0 0 sl acc);have h2:=yK (I.ao e.l) K;have h3:=I.wu e.l;rw[EZ]at h3;rw[<-A];show(Rx.mk e.k 0 0 (I.ao acc)).sz<=_;rw[W,ow];omega
    have af:j1 (.mk e.k 0 0 (I.ao acc))=true:=by rw[W];have:=L.1.1;rw[U,T]at this;exact this
    refine vh.bw _ _ _ _ _ _ _ _ _ _ _ _ _ _ (aZ (aW (by omega)) ?_);refine S.ql (Uq (.mk e.k 0 0 sl acc) ⟨by show 3<=e.k;omega,by show e.k<=7;omega⟩ al af (λc hc=>?_) j (S.getD 3)) (λb h=>⟨_,aD (i:=3) rfl,aM.2 h⟩) λt O M x F=>?_
    .have ae:c.rx∈e0 (I.ao e.l):=by rw[<-z,I.fu];exact bZ.2 ⟨c,hc,rfl⟩
     have:=XW (Du (I.ao e.l) K _ ae)
     rwa[kW]at this
    refine⟨_,_,_,t.s,rfl,x.ah λQ y=>⟨⟨t,rfl,?_,y.getD 4,λb h=>?_⟩,y.fr⟩⟩
    .rw [M,ad];show hh (Rx.mk e.k 0 0 (I.ao acc))=_;rw[z]
    .rcases F b h with h|h
     .exact .inl (a6 q.fr.size h)
     .unfold I.fp at h;rcases aY.1 h with h|h
      .exact .inl (ak b h)
      .exact G b h
   |succ d an=>
    intro i acc sl j hi z G q;have B:e.l[i]? =some (e.l[i]'(by omega)):=a4 (by omega);generalize e.l[i]'(by omega)=a at B;have C:=aD B;have au:=I.eh C;have ga:cK a.rx=true:=I0 K (by rw[I.fu];exact bZ.2 ⟨a,C,rfl⟩);have Z:∀b∈a.fp,b∈e.fp:=λb h=>I.gh.2 (.inr (I.bJ.2 ⟨a,C,h⟩));refine vh.bw _ _ _ _ _ _ _ _ _ _ _ _ _ _ (a1 (aS (by omega)) (iq (show e.P j from q.getD 0) rfl B ?_));refine q.ql (ih a j (by omega) ga ((show e.P j from q.getD 0).parts.2.mem C)) (λb h=>⟨_,aD (i:=0) rfl,aM.2 (Z b h)⟩) λt O M x F=>?_;have ar:=I.cr (x.get 2:aK _ _ _ _ _).bd;have aq:acc.length=i:=by have A:=congrArg List.length z;rw[I.fu,qN,I.fu]at A;simp only[List.length_map,gJ]at A;omega
    refine⟨_,_,_,t.s,rfl,x.h7 2 kI (xs:=acc.flatMap I.c) rfl (λs' Q y=>?_) (by omega)⟩;have H4:=(y.q4 1 2).take 3;rw[bb _ (by omega)];refine an (i+1) (acc++[t]) s' Q (by omega) ?_ (sF G λb h=>?_) ?_
    .rw [jH,z,eA,B,Option.toList_some,jH,qN,qN,hv];show _++[t.rx]=_;rw[M];rfl
    .rcases F b h with h|h
     .exact .inl (a6 q.fr.size h)
     .exact .inr (Z b h)
    .rw [me];exact H4.forget _ (by simp)
  exact loop e.l.length 0 [] ⟨none,0,0⟩ O (by omega) rfl (λb h=>by unfold I.a8 at h;cases h) (Ns (x.hR aN 4))
def G0(x:I)(w:J)(h:x.sz<=1000)(e:cK x.rx=true)(j:x.P w):ai Y vM #[x.v] w λr d=>fZ x.fp w (dL x.rx) r d/\ag w d:=G1 1000 (bm _) x w h e j
def iO(x:Rx):Rx:=if jN x=0 then o7 (dL x)else fq
def n8(x:Rx):Int:=if jN x=0 then o6 (dL x)else jN x
def F4(d:List Nat)(w:J)(x:Rx)(c:Int)(r:ch)(w':J):Prop:=∃t:I,r=ae (.tuple #[t.v,.int .i64 c])/\t.rx=x/\t.P w'/\∀b∈t.fp,w.heap.size<=b\/b∈d
def T2(x:I)(w:J)(h:x.sz<=1000000)(A:x.P w):ai Y KE #[x.v] w λr q=>F4 x.fp w (o7 x.rx) (o6 x.rx) r q/\ag w q:=by
 refine H6.aB _ _ _ _ w _ ((gG A).aG λD F y=>y.aG λE B j=>j.aw (A5 x B h (j.getD 0)) ?_);rintro _ G rfl k;refine⟨_,rfl,aF (λz=>k.ah λC d=>⟨⟨b3,?_,?_,j9 _,λb e=>(j' e).elim⟩,d.fr⟩) (λz=>k.ah λC d=>⟨⟨x,?_,?_,d.getD 0,λb e=>.inr e⟩,d.fr⟩)⟩
 .unfold o6;rw[I.eB,aq (by omega)];rfl
 .unfold o7;rw[I.eB,aq (by omega)];rfl
 .unfold o6;rw[I.eB,af (by omega)]
 .unfold o7;rw[I.eB,af (by omega)]
def Uo(x:I)(w:J)(h:x.sz<=1000000)(O:x.P w):ai Y Kx #[x.v] w λr E=>F4 x.fp w (iO x.rx) (n8 x.rx) r E/\ag w E:=by
 refine H2.aB _ _ _ _ w _ ((gG O).aG λU Z G=>G.aG λV S y=>y.aw (Up x S h (y.getD 0)) ?_);rintro _ T rfl j;unfold iO n8;refine⟨_,rfl,di (λD=>j.ah λF e=>⟨⟨b3,?_,?_,j9 _,λb d=>(j' d).elim⟩,e.fr⟩) (λk=>?_)⟩
 .rw [af D];rfl
 .rw [af D];rfl
 obtain⟨C,L⟩:=Fs k;have W:x.sz<=64:=by rw[<-I.eB];exact L
 rw[aq k,aq k];refine j.ql (G0 x T (by omega) C (j.getD 0)) (λb d=>⟨_,aD (i:=0) rfl,aM.2 d⟩) λt F q e K=>?_;have Q:t.sz<=1000000:=by have:=Ds _ C;rw[<-I.eB,q];omega
 refine⟨_,_,_,t.s,rfl,gN ((T2 t F Q (e.getD 1)).mono ?_)⟩;rintro _ w5 ⟨⟨u,rfl,M,N,B⟩,A⟩;have H:=e.gy (.tree u) A N λb d=>(B b (aM.1 d)).imp id λd=>.inr ⟨_,aD (i:=1) rfl,aM.2 d⟩;refine⟨A,_,_,_,u.s,_,rfl,H.ah λw6 z=>⟨⟨u,by rw[q],by rw[M,q],z.getD 2,λb d=>?_⟩,z.fr⟩⟩;rcases B b d with d|d
 .exact .inl (a6 e.fr.size d)
 .exact (K b d).imp (λd=>a6 j.fr.size d) id
def TO{N:Nat}(T:rQ N)(S:N+1<=1000000)(x:I)(w:J)(h:x.sz<=1000000)(U:nV N x.rx)(px:x.P w):ai Y CY #[x.v] w λr F=>F6 w (iO x.rx) (n8 x.rx) r F/\ag w F:=by
 refine OZ.aB _ _ _ _ w _ ((gG px).aG λb1 w1 M=>M.aG λb2 w2 z=>z.aw (GA x w2 h (z.getD 0)) ?_);rintro _ w3 rfl A;unfold iO n8;refine⟨_,rfl,di (λE=>A.ah λG e=>⟨⟨b3,?_,?_,j9 _,λb d=>(j' d).elim⟩,e.fr⟩) (λq=>A.ah λG e=>e.iZ (T6 G) ?_)⟩
 .rw [af E];rfl
 .rw [af E];rfl
 rintro _ w5 ⟨H,rfl,Q,Z,W⟩ _ K;have j:=K.rd (.fm H) Z W;obtain⟨D,hs⟩:=Fs q;rw[aq q,aq q];refine⟨_,rfl,j.ql (Uh T S Q x w5 h (II _ D (by omega) U) (j.getD 1) (j.getD 0)) (λb d=>?_) λt w6 y k _=>?_⟩
 .rcases aY.1 d with d|d
  .exact ⟨_,aD (i:=0) rfl,aM.2 d⟩
  .exact ⟨_,aD (i:=1) rfl,d⟩
 have aa:t.sz<=1000000:=by have:=Ds _ D;rw[<-I.eB,y];omega
 refine⟨_,_,_,t.s,rfl,k.iZ (Ue t w6 aa (k.getD 2)) ?_⟩;rintro _ w7 ⟨u,rfl,V,pu,C⟩ _ L;have O:=L.rd (.tree u) pu λb d=>C b (aM.1 d);exact⟨_,_,_,u.s,_,rfl,O.ah λw8 B=>⟨⟨u,by rw[y],by rw[V,y],B.getD 3,λb d=>a6 k.fr.size (C b d)⟩,B.fr⟩⟩
abbrev BL:=List UInt8
def gQ(s:BL)(i:Nat):UInt8:=s.getD i 0
def ng(c:UInt8):Bool:=ak (32<=c.toNat)&&ak (c.toNat<=126)&&!(c==39)&&!(c==92)
def ey(c:UInt8):Bool:=ak (97<=c.toNat)&&ak (c.toNat<=122)
def ib(n:Nat):UInt8:=cE (if n<10 then 48+n else 87+n)
def ik(c:UInt8):Int:=if 48<=c.toNat/\c.toNat<=57 then(c.toNat:Int) - 48 else if 97<=c.toNat/\c.toNat<=102 then(c.toNat:Int) - 87 else -1
def hf(s:BL)(at_:Nat):UInt8×Nat:=
 if(ak (at_+3<=s.length)&&gQ s at_==39&&gQ s (at_+2)==39&&ng (gQ s (at_+1)))=true then(gQ s (at_+1),3)
 else if(ak (at_+4<=s.length)&&gQ s at_==92&&gQ s (at_+1)==120&&ak (0<=ik (gQ s (at_+2)))&&ak (0<=ik (gQ s (at_+3))))=true then(cE ((16 *ik (gQ s (at_+2))+ik (gQ s (at_+3))).toNat),4)
 else(0,0)
structure dC where
 tx:BL
 at_:Nat
 k:Nat
 lo:UInt8
 V:UInt8
structure AJ where
 k:Nat
 lo:UInt8
 V:UInt8
 n:Nat
def qM:AJ:=⟨0,0,0,0⟩
def jG(s:BL)(i:Nat):AJ:=
 let a:=hf s i
 if 0<a.2 then⟨2,a.1,a.1,a.2⟩else if gQ s i≠91 then qM else
 let b:=hf s (i+1)
 let dash:=i+1+b.2
 if b.2=0\/s.length<=dash\/gQ s dash≠45 then qM else
 let c:=hf s (dash+1)
 let fin:=dash+1+c.2
 if c.2=0\/s.length<=fin\/gQ s fin≠93\/c.1.toNat<b.1.toNat then qM else⟨2,b.1,c.1,fin+1 - i⟩
def nr(s:BL)(i:Nat):Nat->Nat->Nat
 |0,n=>n
 |f+1,n=>if(ey (gQ s i)&&ak (i+n<s.length)&&ey (gQ s (i+n)))=true then nr s i f (n+1)else n
def ox(s:BL):Nat->Nat->List dC
 |0,_=>[⟨[],s.length,0,0,0⟩]
 |f+1,i=>if s.length<=i then[⟨[],s.length,0,0,0⟩]else if gQ s i=32 then ox s f (i+1)else
  let r:=jG s i
  let n:=if r.n=0 then nr s i s.length 1 else r.n
  ⟨(s.take (i+n)).drop i,i,r.k,r.lo,r.V⟩::ox s f (i+n)
def mC(s:BL):List dC:=ox s (s.length+1) 0
abbrev bE:=Nat×Bool
section
variable (l:List dC)
def fw(i:Nat):dC:=l.getD i ⟨[],0,0,0,0⟩
def e2(st:bE):BL:=bif st.2 then[32]else(fw l st.1).tx
def eK(s:BL)(st:bE):Bool×bE:=bif e2 l st==s then(true,bif s.isEmpty then st else(st.1+1,st.2))else(false,st)
def j8(s:BL)(st:bE):bE:=match eK l s st with
 |(true,st)=>st
 |(false,st)=>(st.1,true)
def xw(st:bE):Bool:=!st.2&&!(e2 l st==[])&&!(e2 l st==[41])&&!(e2 l st==[44])&&!(e2 l st==[124])&&!(e2 l st==[38])
def qz(k:Int):List Rx->Rx
 |[a]=>a
 |m=>.mk k 0 0 m
def mG:Nat->BL
 |0=>[110,111,110,101]
 |1=>[101,109,112,116,121]
 |3=>[99,97,116]
 |4=>[97,108,116]
 |5=>[97,108,108]
 |_=>[]
def k4(st:bE):Nat->Nat->Option Nat
 |0,_=>none
 |f+1,d=>bif Nat.beq d 2||!(e2 l st==mG d)then k4 st f (d+1)else some d
mutual
def kK:Nat->bE->Option (Rx×bE)
 |0,_=>none
 |f+1,st=>match nQ f st with
  |some (a,st)=>rU f [a] st
  |none=>none
def rU:Nat->List Rx->bE->Option (Rx×bE)
 |0,_,_=>none
 |f+1,acc,st=>match eK l [124] st with
  |(true,st)=>match nQ f st with
   |some (a,st)=>rU f (acc++[a]) st
   |none=>none
  |(false,st)=>some (qz 4 acc,st)
def nQ:Nat->bE->Option (Rx×bE)
 |0,_=>none
 |f+1,st=>match om f st with
  |some (a,st)=>rX f [a] st
  |none=>none
def rX:Nat->List Rx->bE->Option (Rx×bE)
 |0,_,_=>none
 |f+1,acc,st=>match eK l [38] st with
  |(true,st)=>match om f st with
   |some (a,st)=>rX f (acc++[a]) st
   |none=>none
  |(false,st)=>some (qz 5 acc,st)
def om:Nat->bE->Option (Rx×bE)
 |0,_=>none
 |f+1,st=>match mi f st with
  |some (a,st)=>sM f [a] st
  |none=>none
def sM:Nat->List Rx->bE->Option (Rx×bE)
 |0,_,_=>none
 |f+1,acc,st=>bif xw l st then match mi f st with
   |some (a,st)=>sM f (acc++[a]) st
   |none=>none
  else some (qz 3 acc,st)
def mi:Nat->bE->Option (Rx×bE)
 |0,_=>none
 |f+1,st=>match eK l [33] st with
  |(true,st)=>match mi f st with
   |some (a,st)=>some (.mk 6 0 0 [a],st)
   |none=>none
  |(false,st)=>match qd f st with
   |some (a,st)=>wE f a st
   |none=>none
def wE:Nat->Rx->bE->Option (Rx×bE)
 |0,_,_=>none
 |f+1,a,st=>match eK l [42] st with
  |(true,st)=>wE f (.mk 7 0 0 [a]) st
  |(false,st)=>some (a,st)
def qd:Nat->bE->Option (Rx×bE)
 |0,_=>none
 |f+1,st=>bif !st.2&&Nat.beq (fw l st.1).k 2 then some (.mk 2 (fw l st.1).lo (fw l st.1).V [],(st.1+1,st.2))else match k4 l st 6 0 with
  |some d=>bif Nat.ble d 2 then some (.mk d 0 0 [],(st.1+1,st.2))else match qB f (st.1+1,st.2)with
   |some (m,st)=>some (.mk d 0 0 m,st)
   |none=>none
  |none=>let st:=j8 l [40] st
   bif st.2 then some (fq,st)else match kK f st with
   |some (a,st)=>some (a,j8 l [41] st)
   |none=>none
def qB:Nat->bE->Option (List Rx×bE)
 |0,_=>none
 |f+1,st=>match eK l [41] (j8 l [40] st)with
  |(d,st)=>bif st.2||d then some ([],st)else match kK f st with
   |some (a,st)=>vJ f [a] st
   |none=>none
def vJ:Nat->List Rx->bE->Option (List Rx×bE)
 |0,_,_=>none
 |f+1,acc,st=>match eK l [44] st with
  |(true,st)=>match kK f st with
   |some (a,st)=>vJ f (acc++[a]) st
   |none=>none
  |(false,st)=>some (acc,j8 l [41] st)
end
end
def s4(s:BL):Option (Rx×Nat×Int):=
 if 4096<s.length then some (fq,4096,4)else
 let l:=mC s
 match kK l 1000 (0,false)with
 |some (r,st)=>let st:=j8 l [] st
  if st.2=true then some (fq,(fw l st.1).at_,2)else if 1000000<r.sz then none else if 64<r.sz then some (fq,s.length,4)else some (r,0,0)
 |none=>none
def dD(c:UInt8):BL:=if ng c=true then[39,c,39]else[92,120,ib (c.toNat / 16),ib (c.toNat%16)]
def cJ:Rx->Nat
 |.mk d _ _ l=>if d=6 then 3 else if d<3\/d=7\/l.length<2 then 4 else if d=3 then 2 else if d=4 then 0 else 1
def cL(d:Nat)(a:Rx)(t:BL):BL:=if cJ a<d then 40::(t++[41])else t
def qJ(k:Int):BL:=if k=3 then[99,97,116,40]else if k=4 then[97,108,116,40]else[97,108,108,40]
def gK(k:Int):BL:=if k=3 then[]else if k=4 then[124]else[38]
def j5(t:BL):UInt8:=t.getLastD 0
def i2(k:Int):BL->List BL->BL
 |out,[]=>out
 |out,t::d=>i2 k ((if k=3/\ey (j5 out)=true/\ey (gQ t 0)=true then out++[32]else out)++gK k++t) d
def jy:List BL->BL
 |[]=>[]
 |t::_=>t
def yd(k:Int):List BL->BL
 |[]=>[]
 |t::d=>i2 k t d
mutual
def a9:Rx->BL
 |.mk d lo e l=>if d=0 then[110,111,110,101]else if d=1 then[101,109,112,116,121]else
  if d=2 then(if lo=e then dD lo else 91::(dD lo++45::(dD e++[93])))else
  if d=6 then 33::jy (dn 3 l)else if d=7 then jy (dn 4 l)++[42]else
  if l.length<2 then qJ d++(jy (dn 0 l)++[41])else
  yd d (dn (cJ (.mk d lo e l)+1) l)
def dn(d:Nat):List Rx->List BL
 |[]=>[]
 |a::l=>cL d a (a9 a)::dn d l
end
mutual
def il:Rx->Bool
 |.mk d _ _ l=>ak (0<=d)&&ak (d<=7)&&(ak (d<6)||ak (l.length=1))&&nc l
def nc:List Rx->Bool
 |[]=>true
 |a::l=>il a&&nc l
end
def r5(s:BL):Option Bool:=match s4 s with
 |some (r,_,d)=>if d=0 then(if n8 r=0 then(if il (iO r)=true/\(iO r).sz<=1000 then some (cL 0 (iO r) (a9 (iO r))==s)else none)else some false)else some false
 |none=>none
def zh(a b:UInt8):Rx:=.mk 2 a b []
def eM:Nat->Rx
 |0=>zh 97 97
 |1=>zh 98 98
 |2=>zh 0 0
 |3=>zh 97 98
 |4=>mY
 |_=>eD
def B8(a b c:Rx):Nat->Rx
 |0=>a
 |1=>.mk 3 0 0 [a,b]
 |2=>.mk 4 0 0 [a,b,c]
 |3=>.mk 7 0 0 [a]
 |4=>.mk 3 0 0 [.mk 7 0 0 [a],b]
 |5=>.mk 6 0 0 [.mk 3 0 0 [a,b]]
 |6=>.mk 3 0 0 [b,.mk 7 0 0 [.mk 4 0 0 [a,c]]]
 |_=>.mk 5 0 0 [.mk 6 0 0 [b],.mk 3 0 0 [a,eD]]
def lT(k:Nat):BL:=a9 (dL (B8 (eM (k%6)) (eM (k / 6%6)) (eM (k / 36%6)) (k / 216%8)))
namespace QG
noncomputable abbrev t0:=az Y Tryz.f201 [] []
def ok:=aA t0 MC [.st,.Y]
end QG
namespace Jl
noncomputable abbrev t0:=az Y Tryz.f215 [] []
def ok:=aA t0 Lw [.st,.Y]
end Jl
namespace Pj
noncomputable abbrev t0:=az Y Tryz.f202 [] []
def ok:=aA t0 Mf [.Y]
end Pj
namespace Pe
noncomputable abbrev t0:=az Y Tryz.f216 [] []
def ok:=aA t0 Mc [.Y]
end Pe
namespace zd
noncomputable abbrev t0:=az Y Tryz.f203 [(4,ls [0,1,2,3,5,6,7,8,4,9,10,11])] []
noncomputable abbrev S1:=av t0 [3] []
noncomputable abbrev t1:=ay S1
noncomputable abbrev S0:=av t1 [2] [(0,.v [.st]),(1,.v [.I])]
noncomputable abbrev t2:=ay S0
def ok:=aA t2 LY [.st,.I]
end zd
namespace tt
noncomputable abbrev t0:=az Y Tryz.f176 [] [4]
abbrev P0:Ps:=[(0,.v [.st]),(1,.v [.I]),(4,.l [.Y,.Y,.Y,.st,.I] nA),(7,.v [.I])]
noncomputable def cm:=bf t0 [0,2,1,1,3,2,2] P0
noncomputable abbrev t1:=be cm
noncomputable abbrev bV:=av t1 [2,1,3,2,2] P0
noncomputable abbrev t2:=ay bV
def dB:=bg t2 cm
noncomputable abbrev fK:=av t2 [3] [(1,.v [.I]),(4,.l [.Y,.Y,.Y,.st,.I] nA)]
noncomputable abbrev t3:=ay fK
noncomputable abbrev lg:=av t3 [5,1,5,2,2] [(0,.v [.st]),(1,.v [.I]),(4,.l [.Y,.Y,.Y,.st,.I] nA),(8,.v [.Y]),(10,.v [.b]),(11,.v [.I]),(12,.v [.Y])]
noncomputable abbrev t4:=ay lg
noncomputable abbrev cM:=av t4 [2,1,5,2,2] [(0,.v [.st]),(1,.v [.I]),(4,.l [.Y,.Y,.Y,.st,.I] nA),(8,.v [.Y]),(10,.v [.b]),(11,.v [.I])]
noncomputable abbrev t5:=ay cM
noncomputable abbrev bn:=av t5 [2] [(0,.v [.st]),(1,.v [.I]),(4,.l [.Y,.Y,.Y,.st,.I] nA),(6,.v [.Y])]
noncomputable abbrev t6:=ay bn
def aB:=aA t6 Dh [.st,.I]
end tt
namespace zf
noncomputable def C0:Code:=(Tryz.f175.body).getD .skip
noncomputable def C1:=C0.fs
noncomputable def C2:=C1.sn
noncomputable def C3:=C2.fs
noncomputable def C4:=C3.fs
noncomputable def C5:=C0.sn
abbrev Q0(R:aH):hF:=(Exit.then (fx Y (cx 39) C5 (bodyPost Y Tryz.f175 R)) (bodyPost Y Tryz.f175 R))
abbrev Q1(R:aH):hF:=(Exit.inBlock 0 (Q0 R))
def L0(h:Nat)(e:Addr)(d:Int)(w:J)(R:aH):Prop:=LP Y (cx 39) C4 (Q1 R) [(0,.func (.yield h) #[] #[]),(1,.pointer (some e)),(3,.i d)] w
def oK(E:Env)(w:J)(R:aH):Prop:=W.AU (Env.get? E 0) λh=>W.cw (Env.get? E 1) λe=>W.asInt .i64 (Env.get? E 3) λd=>L0 h e d w R
def rJ:Ax Y 39 oK C4 Q1:=by intro z y C e;obtain⟨D,q,h⟩:=W.SV e;obtain⟨B,w,j⟩:=W.cG h;obtain⟨A,x,k⟩:=W.gM j;intro a d;exact k a (d.cons q (d.cons w (d.cons x d.nil)))
noncomputable def C6:=C4.fs
noncomputable def C7:=C4.sn
noncomputable def C8:=C7.fs
noncomputable def C9:=C8.fs
noncomputable def lX:=C9.sn
noncomputable def jQ:=lX.fs
noncomputable def mH:=C8.sn
noncomputable def nD:=mH.sn
noncomputable def nE:=nD.fs
noncomputable def jR:=nD.sn
noncomputable def jS:=C6.sn
noncomputable def mI:=jS.fs
noncomputable def mJ:=jQ.sn
noncomputable def mK:=lX.sn
noncomputable def kv:=nE.sn
noncomputable def k7:=kv.fs
noncomputable def oI:=kv.sn
noncomputable def ky:=jS.sn
def bC(q:Nat)(k:Addr)(j:Int)(w:J)(R:aH)(h:∃A:ByteArray,w.cell? k=some (.string A)/\
 bh (ak (j<((A.size:Nat):Int))) (∃t10:ByteArray,w.cell? k=some (.string t10)/\
 (0:Int)<=j/\∃z:UInt8,t10[aV j]? =some z/\bh (((z.toNat:Nat):Int)==32) (L0 q k (aj .i64 (j+1)) w R) (∃t17:ByteArray,w.cell? k=some (.string t17)/\
 UA Dh #[.string t17,.i j] w λC D F G H I x=>c9 x (.cells #[.int .u8 0,.int .u8 0,.int .u8 0,.s0,.i 0] nA) λP=>
 Qr P (nb x) (.int .u8 C) (.int .u8 D) (.int .u8 F) (.string G) (.i H) λB=>JG B (nb x) λK L M N O=>ud Y q #[.agg #[.int .u8 K,.int .u8 L,.int .u8 M,.string N,.i O]] B λ(t24:Bool) y=>bh (!t24) (R (ae (.tuple #[])) y) (∃t28:Int,y.cell? ((nb x).add 0)=some (.int .u8 t28)/\
 bh (t28==63) (R (ae (.tuple #[])) y) (L0 q k (aj .i64 (j+I)) y R)))) (∃t35:ByteArray,w.cell? k=some (.string t35)/\
 ud Y q #[.agg #[.int .u8 36,.int .u8 0,.int .u8 0,.s0,.i ((t35.size:Nat):Int)]] w λ(t38:Bool) Q=>R (ae (.tuple #[])) Q)):L0 q k j w R:=
 LP.step (n:=(cx 39)) (c:=C4) (E:=[(0,.func (.yield q) #[] #[]),(1,.pointer (some k)),(3,.i j)]) (w:=w) (sq C4 (sr C6 (show(λ(E:Env) (w:J)=>dJ Y C6 (λE w=>gB (Env.val E (.tmp 9)) (dJ Y C9 (λE w=>gB (Env.val E (.tmp 13)) (dJ Y jQ (λE w=>oK E w R) E w) (dJ Y mH (λE w=>dJ Y nE (λE w=>gB (Env.val E (.tmp 30)) (kV Y Tryz.f175 E w (λv=>R (ae v) w)) (oj Y jR (λE w=>oK E w R) E w)) E w) E w)) E w) (oj Y C5 (λE w=>kV Y Tryz.f175 E w (λv=>R (ae v) w)) E w)) E w) [(0,.func (.yield q) #[] #[]),(1,.pointer (some k)),(3,.i j)] w from mp h) λ_ _ d=>(cn jS d (λd=>(sk mI λa e=>nx e (bk C7 1 (by kernel_rfl) (sq C8 (sr C9 d λ_ _ d=>(cn lX d (λd=>(sr jQ d λ_ _ d=>(xt mJ 1 (by kernel_rfl) λa e=>rJ R _ _ d a e))) (λd=>(sk mK λa e=>nx e (sr mH d λ_ _ d=>(sq nD (sr nE d λ_ _ d=>(cn kv d (λd=>(rt k7 λa e=>wh e d)) (λd=>(sk oI λa e=>nx e (rg jR (by kernel_rfl) d λ_ _ a e d=>rJ R _ _ d a e))))))))))))))) (λd=>(xt ky 0 (by kernel_rfl) λa e=>nx e (rg C5 (by kernel_rfl) d λ_ _ a e d=>wh e d))))))
def ok(e:Nat)(d:Addr)(w:J)(R:aH)(h:L0 e d 0 w R):ai Y qI #[.func (.yield e) #[] #[],.pointer (some d)] w R:=
 uQ (R:=R) (fn:=Tryz.f175) (c:=C0) (args:=[.func (.yield e) #[] #[],.pointer (some d)]) (by kernel_rfl) (by kernel_rfl) (by kernel_rfl) (sq C0 (sr C1 (show(λ(E:Env) (w:J)=>dJ Y C1 (λE w=>oK E w R) E w) (j0 0 [.func (.yield e) #[] #[],.pointer (some d)]) w from mp h) λ_ _ j=>(bk C2 0 (by kernel_rfl) (lp C3 (by kernel_rfl) (rJ R _ _ j)))))
end zf
namespace Pl
noncomputable abbrev t0:=az Y Tryz.f164 [] []
def ok:=aA t0 Mg [.st]
end Pl
namespace Pd
noncomputable abbrev t0:=az Y Tryz.f183 [] [4]
def aB:=aA t0 yC [.I,.s]
end Pd
namespace wc
noncomputable abbrev t0:=az Y Tryz.f182 [(4,(.sq [0,1,2,3,4,5,6,7,8,10,11] (.fork (ls [9,12]) (ls [12,9]))))] [2]
noncomputable def a2:=bf t0 [0,2,1] [(0,.v [.r]),(2,.l [.I,.Y,.Y,.s] aT)]
noncomputable abbrev t1:=be a2
def bw:=bg t1 a2
def aB:=aA t1 L' [.r]
end wc
namespace Pb
noncomputable abbrev t0:=az Y Tryz.f180 [(1,(.sq [0,1,2,3,4,5,6,7,9] (.fork (.sq [8,10,11,12,14,15] (.fork (ls [13,16]) (ls [16,13]))) (.sq [10,8,11,12,14,15] (.fork (ls [13,16]) (ls [16,13]))))))] []
noncomputable abbrev S0:=av t0 [2] [(0,.v [.r])]
noncomputable abbrev t1:=ay S0
def ok:=aA t1 Ma [.r]
end Pb
namespace O'
noncomputable abbrev t0:=az Y Tryz.f181 [(1,(.sq [0,1,2,3,4,5,6,7,9] (.fork (.sq [8,10,11,12,14,15] (.fork (ls [13,16]) (ls [16,13]))) (.sq [10,8,11,12,14,15] (.fork (ls [13,16]) (ls [16,13]))))))] []
noncomputable abbrev S0:=av t0 [2] [(0,.v [.r])]
noncomputable abbrev t1:=ay S0
def ok:=aA t1 L9 [.r]
end O'
namespace Pa
noncomputable abbrev t0:=az Y Tryz.f167 [] [2,3]
def aB:=aA t0 Da [.r]
end Pa
namespace Ej
noncomputable abbrev t0:=az Y Tryz.f166 [(1,ls [0,1,2,3,4,5,6,7,8,9,10,11])] []
def ok:=aA t0 yD [.r]
end Ej
namespace Ph
noncomputable abbrev t0:=az Y Tryz.f177 [] []
def ok:=aA t0 Me [.r,.I,.I]
end Ph
namespace Pf
noncomputable abbrev t0:=az Y Tryz.f204 [(1,ls [0,2,1,3,4,5])] [3]
def aB:=aA t0 Dc [.r,.a 4,.I,.Y,.Y,.s]
end Pf
namespace Pg
noncomputable abbrev t0:=az Y Tryz.f178 [(2,ls [0,1,2,3,4,5,6,7,8,9,10,11,12,13,14])] []
def ok:=aA t0 Dd [.r,.s]
end Pg
namespace Ei
noncomputable abbrev t0:=az Y Tryz.f179 [] [3]
noncomputable abbrev bn:=av t0 [2,1,7,1,1,1,1] []
noncomputable abbrev t1:=ay bn
def aB:=aA t1 Df [.r,.a 5,.Y,.Y,.Y,.st,.I]
end Ei
namespace wg
noncomputable abbrev t0:=az Y Tryz.f165 [(25,(.sq [0,1,2,3,4,6] (.fork (.sq [5,7,8,9,11,12] (.fork (ls [10,13]) (ls [13,10]))) (.sq [7,5,8,9,11,12] (.fork (ls [10,13]) (ls [13,10])))))),(28,ls [0,1,2,3,4,5,6,7,8,9,10,11,12,13,14,15,16,17,18])] [3]
noncomputable abbrev bn:=av t0 [4] []
noncomputable abbrev t1:=ay bn
noncomputable abbrev bM:=av t1 [2,1,7,1,1,1,3] [(0,.v [.r])]
noncomputable abbrev t2:=ay bM
def aB:=aA t2 De [.r,.a 5,.Y,.Y,.Y,.st,.I]
end wg
namespace Eg
noncomputable def C0:Code:=(Tryz.f156.body).getD .skip
noncomputable def C1:=C0.sn
noncomputable def C2:=C1.sn
noncomputable def C3:=C2.sn
noncomputable def C4:=C3.fs
noncomputable def C5:=C4.sn
noncomputable def C6:=C5.fs
noncomputable def C7:=W.Code.SW C6
noncomputable def C8:=W.Code.Tl C6
noncomputable def C9:=C8.fs
noncomputable def lX:=C9.sn
noncomputable def jQ:=lX.fs
abbrev Q0(l_:Nat)(d:Loop)(R:aH):Exit->Act->J->Prop:=(roundPost Y l_ R)
abbrev Q1(l_:Nat)(d:Loop)(R:aH):Exit->Act->J->Prop:=(Exit.inBlock 1 (Q0 l_ d R))
noncomputable def mH:=jQ.fs
noncomputable def nD:=jQ.sn
abbrev S3(l_:Nat)(d:jP->Option Code->Obj)(t2 t3 t4 e:Addr)(w:J)(R:aH):Prop:=
 lr w λh=>∃t23:Int,h.cell? (e.add 4)=some (.i t23)/\
 kY h t2 (.i 0) (.int .u8 0) (.int .u8 0) (.slice none 0 0) λj=>j.cell? (e.add 4)=some (.i t23)/\aP j t3 (.i t23) λk=>
 aP k t4 (.i 2) λq=>
 lL q l_ (d .busy none) (d .done (some .ret)) λx=>R (ae (.bool false)) x
def um(l_:Nat)(d:jP->Option Code->Obj)(E:Env)(w:J)(R:aH):Prop:=W.cw (Env.get? E 2) λe=>W.cw (Env.get? E 3) λh=>W.cw (Env.get? E 4) λj=>W.cw (Env.get? E 6) λk=>S3 l_ d e h j k w R
def As(l_:Nat)(e:Loop)(R:aH)(E:Env)(w:J)(h:um l_ (lo e) E w R):WP Y ⟨32,[],some l_⟩ jQ (Q1 l_ e R) E w:=by obtain⟨H,C,q⟩:=W.cG h;obtain⟨I,D,z⟩:=W.cG q;obtain⟨K,F,A⟩:=W.cG z;obtain⟨L,G,B⟩:=W.cG A;exact λa d=>WP.at (n:=⟨32,[],some l_⟩) (E:=[(2,.pointer (some H)),(3,.pointer (some I)),(4,.pointer (some K)),(6,.pointer (some L))]) (WP.seq (c:=jQ) (x:=mH) (y:=nD) (by kernel_rfl)<|WP.draw (c:=mH) [0,1,2,3,4,5] (λE w=>lL w l_ ((lo e) .busy none) ((lo e) .done (some .ret)) λM=>R (ae (.bool false)) M) (by kernel_rfl) (mp B) λ_ _ a j k=>(WP.ret (c:=nD) (Q:=(Q1 l_ e R)) (by kernel_rfl) λa j=>(show roundPost Y l_ R .ret a _ from Zz (a:=a) (k).1 (k).2)) a j) (d.cons C (d.cons D (d.cons F (d.cons G d.nil))))
noncomputable def nE:=C9.fs
noncomputable def jR:=lX.sn
abbrev S2(l_:Nat)(d:jP->Option Code->Obj)(t2 t3 t4 j e:Addr)(w:J)(R:aH):Prop:=
 JG w e λk q x y z=>G5 De #[.pointer (some j),.agg #[.int .u8 k,.int .u8 q,.int .u8 x,.string y,.i z]] w λt19 h=>bh (!t19) (S3 l_ d t2 t3 t4 e h R) (lL h l_ (d .busy none) (d .ready none) λA=>R (ae (.bool true)) A)
def FY(l_:Nat)(d:jP->Option Code->Obj)(E:Env)(w:J)(R:aH):Prop:=W.cw (Env.get? E 2) λh=>W.cw (Env.get? E 3) λj=>W.cw (Env.get? E 4) λk=>W.cw (Env.get? E 5) λe=>W.cw (Env.get? E 6) λq=>S2 l_ d h j k e q w R
def Se(l_:Nat)(j:Loop)(R:aH)(E:Env)(w:J)(h:FY l_ (lo j) E w R):WP Y ⟨32,[],some l_⟩ C9 (Q1 l_ j R) E w:=by obtain⟨L,D,q⟩:=W.cG h;obtain⟨M,F,z⟩:=W.cG q;obtain⟨N,G,A⟩:=W.cG z;obtain⟨K,H,B⟩:=W.cG A;obtain⟨O,I,C⟩:=W.cG B;exact λa e=>WP.at (n:=⟨32,[],some l_⟩) (E:=[(2,.pointer (some L)),(3,.pointer (some M)),(4,.pointer (some N)),(5,.pointer (some K)),(6,.pointer (some O))]) (WP.seq (c:=C9) (x:=nE) (y:=lX) (by kernel_rfl)<|WP.pn (c:=nE) (λE w=>gB (Env.val E (.tmp 20)) (um l_ (lo j) E w R) (lL w l_ ((lo j) .busy none) ((lo j) .ready none) λP=>R (ae (.bool true)) P)) (by kernel_rfl) (mp C) λ_ _ a k d=>(WP.gB (c:=lX) (x:=jQ) (y:=jR) (o:=.tmp 20) (by kernel_rfl) (λd=>(As l_ j R _ _ d)) (λd=>(WP.skip (c:=jR) (by kernel_rfl) λa k=>Zy (a:=a) (d).1 (d).2)) d) a k) (e.cons D (e.cons F (e.cons G (e.cons H (e.cons I e.nil)))))
abbrev Q2(l_:Nat)(d:Loop)(R:aH):Exit->Act->J->Prop:=(AF Y 32 l_ d C8 (roundPost Y l_ R))
abbrev S1(l_:Nat)(d:jP->Option Code->Obj)(t2 t3 t4 e:Addr)(h j k:Int)(q:ByteArray)(x:Int)(w:J)(R:aH):Prop:=
 c9 w (.cells #[.int .u8 0,.int .u8 0,.int .u8 0,.s0,.i 0] nA) λy=>
 Qr y (nb w) (.int .u8 h) (.int .u8 j) (.int .u8 k) (.string q) (.i x) λz=>lL z l_ (d .ready none) (d .busy none) λA=>S2 l_ d t2 t3 t4 e (nb w) A R
def pS(l_:Nat)(d:jP->Option Code->Obj)(E:Env)(w:J)(R:aH):Prop:=W.cw (Env.get? E 2) λL=>W.cw (Env.get? E 3) λM=>W.cw (Env.get? E 4) λN=>W.cw (Env.get? E 5) λe=>W.asAgg (Env.get? E 17) λy=>W.oQ y λF z=>W.asInt .u8 (some F) λh=>W.oQ z λG A=>W.asInt .u8 (some G) λj=>W.oQ A λH B=>W.asInt .u8 (some H) λk=>W.oQ B λI C=>W.qc (some I) λq=>W.oQ C λK D=>W.asInt .i64 (some K) λx=>W.rZ D<|S1 l_ d L M N e h j k q x w R
def Ar(l_:Nat)(e:Loop)(R:aH)(E:Env)(w:J)(h:pS l_ (lo e) E w R):WP Y ⟨32,[],some l_⟩ C7 (Q2 l_ e R) E w:=by obtain⟨t2,Q,q⟩:=W.cG h;obtain⟨t3,S,G⟩:=W.cG q;obtain⟨t4,T,H⟩:=W.cG G;obtain⟨V,U,I⟩:=W.cG H;obtain⟨ae,P,K⟩:=W.SS I;obtain⟨ak,af,rfl,L⟩:=W.rY K;obtain⟨Z,ex,M⟩:=W.gM L;obtain rfl:=fe ex;obtain⟨al,ag,rfl,N⟩:=W.rY M;obtain⟨aa,ex,O⟩:=W.gM N;obtain rfl:=fe ex;obtain⟨am,ah,rfl,y⟩:=W.rY O;obtain⟨ab,ex,z⟩:=W.gM y;obtain rfl:=fe ex;obtain⟨an,ai,rfl,A⟩:=W.rY z;obtain⟨ac,ex,B⟩:=W.uH A;obtain rfl:=fe ex;obtain⟨ao,aj,rfl,C⟩:=W.rY B;obtain⟨ad,ex,D⟩:=W.gM C;obtain rfl:=fe ex;obtain⟨rfl,F⟩:=W.AT D;exact λa d=>WP.at (n:=⟨32,[],some l_⟩) (E:=[(2,.pointer (some t2)),(3,.pointer (some t3)),(4,.pointer (some t4)),(5,.pointer (some V)),(17,.agg #[.int .u8 Z,.int .u8 aa,.int .u8 ab,.string ac,.i ad])]) (WP.pn (c:=C7) (λE w=>w.heap[l_]? =some (lo e .ready none)/\((λw=>FY l_ (lo e) E w R) (w.putObj l_ (lo e .busy none)))) (by kernel_rfl) (mp F) λ_ _ a k j=>⟨(j).1,(WP.block (c:=C8) (x:=C9) (id:=1) (by kernel_rfl) (Se l_ e R _ _ (j).2)) a k⟩) (d.cons Q (d.cons S (d.cons T (d.cons U (d.cons P d.nil)))))
abbrev z6(l_:Nat)(d:jP->Option Code->Obj)(y:ByteArray)(t2 t3 t4 e z:Addr)(h j k:Int)(q:ByteArray)(x:Int)(w:J)(R:aH):Prop:=
 S1 l_ d t2 t3 t4 e h j k q x w R
def SE(l_:Nat)(d:Loop)(j:ByteArray)(t2 t3 t4 e k:Addr)(q x y:Int)(z:ByteArray)(A:Int)(w:J)(R:aH)(h:z6 l_ (lo d) j t2 t3 t4 e k q x y z A w R):WP Y ⟨32,[],some l_⟩ C7 (AF Y 32 l_ d C8 (roundPost Y l_ R)) (pe [(0,.string j),(2,.pointer (some t2)),(3,.pointer (some t3)),(4,.pointer (some t4)),(5,.pointer (some e)),(16,.func (.func qI) #[] #[.pointer (some k)])] [17] [.agg #[.int .u8 q,.int .u8 x,.int .u8 y,.string z,.i A]]) w:=
 (Ar l_ d R _ _ (mp h))
noncomputable def jS:=C3.sn
noncomputable def mI:=jS.sn
noncomputable def mJ:=mI.fs
noncomputable def mK:=mJ.sn
noncomputable def kv:=mK.fs
noncomputable def k7:=mI.sn
abbrev Q3(R:aH):hF:=(Exit.then (fx Y (cx 32) k7 (bodyPostM Fence.wide 0 Y Tryz.f156 R)) (bodyPostM Fence.wide 0 Y Tryz.f156 R))
noncomputable def oI:=kv.fs
noncomputable def ky:=kv.sn
abbrev S6(j:Nat)(z:ByteArray)(t2 t3 t4:Addr)(w:J)(R:aH):Prop:=
 kY w t2 (.i 0) (.int .u8 0) (.int .u8 0) (.slice none 0 0) λA=>aP A t3 (.i ((z.size:Nat):Int)) λB=>
 aP B t4 (.i 4) λC=>
 lL C j (.deferred (some [])) (.deferred none) λd=>fM d t2 λk q x y=>∃e:Int,d.cell? t3=some (.i e)/\
 ∃h:Int,d.cell? t4=some (.i h)/\
 R (ae (.tuple #[.agg #[.i k,.int .u8 q,.int .u8 x,y.v],.i e,.i h])) d
def pU(d:Nat)(E:Env)(w:J)(R:aH):Prop:=W.qc (Env.get? E 0) λe=>W.cw (Env.get? E 2) λh=>W.cw (Env.get? E 3) λj=>W.cw (Env.get? E 4) λk=>S6 d e h j k w R
def uq(e:Nat)(R:aH)(E:Env)(w:J)(h:pU e E w R):WP Y (marked 32 e) kv (Q3 R) E w:=by obtain⟨H,C,q⟩:=W.uH h;obtain⟨I,D,z⟩:=W.cG q;obtain⟨K,F,A⟩:=W.cG z;obtain⟨L,G,B⟩:=W.cG A;exact λa d=>WP.at (n:=(marked 32 e)) (E:=[(0,.string H),(2,.pointer (some I)),(3,.pointer (some K)),(4,.pointer (some L))]) (WP.seq (c:=kv) (x:=oI) (y:=ky) (by kernel_rfl)<|WP.pn (c:=oI) (λE w=>Ep Y Tryz.f156 E w e R) (by kernel_rfl) (mp B) λ_ _ a j k=>(WP.ret (c:=ky) (by kernel_rfl) λa j=>Er j k) a j) (d.cons C (d.cons D (d.cons F (d.cons G d.nil))))
abbrev Q4(R:aH):hF:=(bodyPostM Fence.wide 0 Y Tryz.f156 R)
noncomputable def ru:=k7.fs
noncomputable def rv:=k7.sn
abbrev S7(j:Nat)(t2 t3 t4 G:Addr)(w:J)(R:aH):Prop:=
 fM w G λz A B C=>kY w t2 (.i z) (.int .u8 A) (.int .u8 B) (C.v) λD=>aP D t3 (.i 0) λE=>
 aP E t4 (.i 0) λF=>
 lL F j (.deferred (some [])) (.deferred none) λd=>fM d t2 λk q x y=>∃e:Int,d.cell? t3=some (.i e)/\
 ∃h:Int,d.cell? t4=some (.i h)/\
 R (ae (.tuple #[.agg #[.i k,.int .u8 q,.int .u8 x,y.v],.i e,.i h])) d
def ur(d:Nat)(E:Env)(w:J)(R:aH):Prop:=W.cw (Env.get? E 2) λe=>W.cw (Env.get? E 3) λh=>W.cw (Env.get? E 4) λj=>W.cw (Env.get? E 7) λk=>S7 d e h j k w R
def Av(e:Nat)(R:aH)(E:Env)(w:J)(h:ur e E w R):WP Y (marked 32 e) k7 (Q4 R) E w:=by obtain⟨H,C,q⟩:=W.cG h;obtain⟨I,D,z⟩:=W.cG q;obtain⟨K,F,A⟩:=W.cG z;obtain⟨L,G,B⟩:=W.cG A;exact λa d=>WP.at (n:=(marked 32 e)) (E:=[(2,.pointer (some H)),(3,.pointer (some I)),(4,.pointer (some K)),(7,.pointer (some L))]) (WP.seq (c:=k7) (x:=ru) (y:=rv) (by kernel_rfl)<|WP.pn (c:=ru) (λE w=>Ep Y Tryz.f156 E w e R) (by kernel_rfl) (mp B) λ_ _ a j k=>(WP.ret (c:=rv) (by kernel_rfl) λa j=>Er j k) a j) (d.cons C (d.cons D (d.cons F (d.cons G d.nil))))
noncomputable def ry:=mJ.fs
noncomputable def rz:=mK.sn
abbrev S5(d:Nat)(j:ByteArray)(t2 t3 t4 h:Addr)(w:J)(R:aH):Prop:=
 fM w h λk q x y=>G5 Di #[.agg #[.i k,.int .u8 q,.int .u8 x,y.v]] w λt27 e=>bh t27 (S6 d j t2 t3 t4 e R) (S7 d t2 t3 t4 h e R)
def uo(d:Nat)(E:Env)(w:J)(R:aH):Prop:=W.qc (Env.get? E 0) λe=>W.cw (Env.get? E 2) λh=>W.cw (Env.get? E 3) λj=>W.cw (Env.get? E 4) λk=>W.cw (Env.get? E 7) λq=>S5 d e h j k q w R
def Au(d:Nat)(R:aH)(E:Env)(w:J)(h:uo d E w R):WP Y (marked 32 d) mJ (Q3 R) E w:=by obtain⟨K,D,q⟩:=W.uH h;obtain⟨L,F,z⟩:=W.cG q;obtain⟨M,G,A⟩:=W.cG z;obtain⟨N,H,B⟩:=W.cG A;obtain⟨O,I,C⟩:=W.cG B;exact λa e=>WP.at (n:=(marked 32 d)) (E:=[(0,.string K),(2,.pointer (some L)),(3,.pointer (some M)),(4,.pointer (some N)),(7,.pointer (some O))]) (WP.seq (c:=mJ) (x:=ry) (y:=mK) (by kernel_rfl)<|WP.pn (c:=ry) (λE w=>gB (Env.val E (.tmp 27)) (pU d E w R) (ur d E w R)) (by kernel_rfl) (mp C) λ_ _ a k j=>(WP.gB (c:=mK) (x:=kv) (y:=rz) (o:=.tmp 27) (by kernel_rfl) (λj=>(uq d R _ _ j)) (λj=>(WP.skip (c:=rz) (by kernel_rfl) λa k=>(Av d R _ _ j) a k)) j) a k) (e.cons D (e.cons F (e.cons G (e.cons H (e.cons I e.nil)))))
noncomputable def rA:=jS.fs
abbrev S4(e:Nat)(j:ByteArray)(t2 t3 t4 h:Addr)(w:J)(R:aH):Prop:=
 UB yD #[.pointer (some h)] w λt24 z=>xF Da #[.pointer t24] z λk q x y d=>c9 d (.cells #[.i 0,.int .u8 0,.int .u8 0,.slice none 0 0] aT) λA=>
 kY A (nb d) (.i k) (.int .u8 q) (.int .u8 x) (y.v) λB=>S5 e j t2 t3 t4 (nb d) B R
def oL(d:Nat)(E:Env)(w:J)(R:aH):Prop:=W.qc (Env.get? E 0) λh=>W.cw (Env.get? E 2) λj=>W.cw (Env.get? E 3) λk=>W.cw (Env.get? E 4) λq=>W.cw (Env.get? E 5) λe=>S4 d h j k q e w R
def pT(e:Nat)(R:aH)(E:Env)(w:J)(h:oL e E w R):WP Y (marked 32 e) jS (Q4 R) E w:=by obtain⟨L,D,q⟩:=W.uH h;obtain⟨M,F,z⟩:=W.cG q;obtain⟨N,G,A⟩:=W.cG z;obtain⟨O,H,B⟩:=W.cG A;obtain⟨K,I,C⟩:=W.cG B;exact λa d=>WP.at (n:=(marked 32 e)) (E:=[(0,.string L),(2,.pointer (some M)),(3,.pointer (some N)),(4,.pointer (some O)),(5,.pointer (some K))]) (WP.seq (c:=jS) (x:=rA) (y:=mI) (by kernel_rfl)<|WP.pn (c:=rA) (λE w=>uo e E w R) (by kernel_rfl) (mp C) λ_ _ a j k=>(WP.seq (c:=mI) (x:=mJ) (y:=k7) (by kernel_rfl) (Au e R _ _ k)) a j) (d.cons D (d.cons F (d.cons G (d.cons H (d.cons I d.nil)))))
abbrev S0(B:ByteArray)(t2 t3 t4 A C:Addr)(w:J)(R:aH):Prop:=
 ∀d:jP->Option Code->Obj,(∀(D E F:Int) (G:ByteArray) (H:Int) (k:J) (q:Bool->J->Prop),k.heap[w.heap.size+1]? =some (d .ready none)->z6 (w.heap.size+1) d B t2 t3 t4 A C D E F G H k (λj O=>∃x:Bool,j=ae (.bool x)/\q x O)->ud Y (w.heap.size+1) #[.agg #[.int .u8 D,.int .u8 E,.int .u8 F,.string G,.i H]] k q)->
 ai Y qI #[.func (.yield (w.heap.size+1)) #[] #[],.pointer (some C)] ((w.alloc (.deferred (some []))).alloc (d .ready none)) λj P=>(∃N,j=ae N)/\xg P (w.heap.size+1) d (λe=>S4 w.heap.size B t2 t3 t4 A e R) (λQ e=>False) (λe=>lL e w.heap.size (.deferred (some [])) (.deferred none) λh=>fM h t2 λI K L M=>∃y:Int,h.cell? t3=some (.i y)/\
 ∃z:Int,h.cell? t4=some (.i z)/\
 R (ae (.tuple #[.agg #[.i I,.int .u8 K,.int .u8 L,M.v],.i y,.i z])) h)
abbrev Q5(R:aH):hF:=(Exit.then (fx Y (cx 32) jS (bodyPostM Fence.wide 0 Y Tryz.f156 R)) (bodyPostM Fence.wide 0 Y Tryz.f156 R))
abbrev Q6(R:aH):hF:=(Exit.inBlock 0 (Q5 R))
def Aq(E:Env)(w:J)(R:aH):Prop:=W.qc (Env.get? E 0) λe=>W.cw (Env.get? E 2) λy=>W.cw (Env.get? E 3) λz=>W.cw (Env.get? E 4) λA=>W.cw (Env.get? E 5) λd=>W.xu qI (Env.get? E 16) λq j=>W.rZ q<|W.oQ j λx k=>W.cw (some x) λh=>W.rZ k<|S0 e y z A d h w R
def Sd:pV Y 32 Aq C6 Q6:=by
 intro x aq D y;obtain⟨B,af,O⟩:=W.uH y;obtain⟨j,ah,Q⟩:=W.cG O;obtain⟨k,ai,S⟩:=W.cG Q;obtain⟨q,aj,T⟩:=W.cG S;obtain⟨A,ak,U⟩:=W.cG T;obtain⟨aw,au,ag,V⟩:=W.SU U;obtain⟨rfl,Z⟩:=W.AT V;obtain⟨ax,av,rfl,aa⟩:=W.rY Z;obtain⟨C,ex,ab⟩:=W.cG aa;obtain rfl:=fe ex;obtain⟨rfl,P⟩:=W.AT ab;exact λa d=>WP.at (n:=(cx 32)) (E:=[(0,.string B),(2,.pointer (some j)),(3,.pointer (some k)),(4,.pointer (some q)),(5,.pointer (some A)),(16,.func (.func qI) #[] #[.pointer (some C)])]) (WP.range (m:=32) (c:=C6) (g:=.tmp 16) (ps:=#[17]) (assign:=C7) (body:=C8) (gf:=qI) (lb:=#[.pointer (some C)]) (λe=>S4 D.heap.size B j k q A e x) (λar e=>False) (λe=>lL e D.heap.size (.deferred (some [])) (.deferred none) λw=>fM w j λam an ao ap=>∃F:Int,w.cell? k=some (.i F)/\
 ∃G:Int,w.cell? q=some (.i G)/\
 x (ae (.tuple #[.agg #[.i am,.int .u8 an,.int .u8 ao,ap.v],.i F,.i G])) w) (by kernel_rfl) rfl (by kernel_rfl)
  (λe h a z=>(pT D.heap.size x _ _ (mp h)) a z)
  (λ_ _ h=>h.elim)
  (λe h a z=>Er z (mp h))
  (λH al=>P (lo H) (λI K L M N w_ K_ ad ac=>aby (args:=[.agg #[.int .u8 I,.int .u8 K,.int .u8 L,.string M,.i N]]) al ad rfl (by kernel_rfl) (λ_ _ y=>y) (SE _ H B j k q A C I K L M N w_ _ ac)))) (d.cons af (d.cons ah (d.cons ai (d.cons aj (d.cons ak (d.cons ag d.nil))))))
noncomputable def pM:=C1.fs
noncomputable def pN:=pM.sn
noncomputable def rB:=pN.fs
noncomputable def z7:=rB.sn
noncomputable def z8:=pN.sn
def ok(e:ByteArray)(w:J)(R:aH)(h:c9 w (.cells #[.i 0,.int .u8 0,.int .u8 0,.slice none 0 0] aT) λj=>
 c9 j (.cells #[.i 0] bN) λk=>
 c9 k (.cells #[.i 0] Rp) λz=>
 bh (ak (((e.size:Nat):Int)>4096)) (kY z (nb w) (.i 0) (.int .u8 0) (.int .u8 0) (.slice none 0 0) λQ=>aP Q (nb j) (.i 4096) λS=>
 aP S (nb k) (.i 4) λq=>
 fM q (nb w) λC D F G=>∃A:Int,q.cell? (nb j)=some (.i A)/\
 ∃B:Int,q.cell? (nb k)=some (.i B)/\
 R (ae (.tuple #[.agg #[.i C,.int .u8 D,.int .u8 F,G.v],.i A,.i B])) q) (c9 z (.cells #[.i (-1),.slice none 0 0,.slice none 0 0,.slice none 0 0,.slice none 0 0,.i 0,.i 0,.int .u8 0,.int .u8 0,.slice none 0 0] hX) λy=>
 c9 y (.cells #[.slice none 0 0,.i 0,.i 0] wR) λN=>
 Qq N (nb y) (.slice (some (nb z)) 1 1) (.i 0) (.i 0) λO=>Uz Mg #[.string e] O λt16 P=>W.xu qI (some t16) λL I=>W.rZ L<|W.oQ I λM K=>W.cw (some M) λH=>W.rZ K<|S0 e (nb w) (nb j) (nb k) (nb y) H P R)):ai Y LU #[.string e] w R:=
 UG (R:=R) (fn:=Tryz.f156) (c:=C0) (args:=[.string e]) (by kernel_rfl) (by kernel_rfl) (by kernel_rfl) (sr C0 (show(λ(E:Env) (w:J)=>dJ Y C0 (λE w=>dJ Y pM (λE w=>gB (Env.val E (.tmp 10)) (dJ Y rB (λE w=>kV Y Tryz.f156 E w (λv=>R (ae v) w)) E w) (dJ Y C2 (λE w=>dJ Y C4 (λE w=>Aq E w R) E w) E w)) E w) E w) (j0 0 [.string e]) w from mp h) λ_ _ d=>(sq C1 (sr pM d λ_ _ d=>(cn pN d (λd=>(sr rB d λ_ _ d=>(rt z7 λa x=>Zs x d))) (λd=>(sk z8 λa x=>nx x (sr C2 d λ_ _ d=>(sq C3 (sr C4 d λ_ _ d=>(bk C5 0 (by kernel_rfl) (Sd R _ _ d)))))))))))
end Eg
abbrev dZ:=Sl×List aa
def _root_.Go.W.En.rows(j:List dZ):En:=⟨jC (j.flatMap λp:dZ=>ax p.1),λk=>(∀p∈j,aK k aT 4 p.1 p.2)/\(j.flatMap λp:dZ=>ax p.1).Nodup,
 λk x q h=>⟨λp e=>(h.1 p e).cb λb d w=>q b (aM.2 (bS.2 ⟨p,e,d⟩)) w,h.2⟩,
 λk h b d=>by obtain⟨p,e,d⟩:=bS.1 (aM.1 d);exact(h.1 p e).lt b d,n9 _⟩
def PB(e:List dZ)(x:e≠[])(w:J)(b:Nat)(d:b∈(En.rows e).fp):¬(En.rows e).P ({w with heap:=Array.replicate (b+1) (.map #[] 0)}):=by
 rintro⟨h,_⟩;obtain⟨p,j,d⟩:=bS.1 (aM.1 d);obtain⟨k,f,q⟩:=(h p j).row.tW b d
 grind
section
variable {M:Nat->Prop} {w0 w:J} {L D:List En} {U:List Nat}
def IZ(H:LH M w0 w L D){i:Nat}{d:List dZ}(V:L[i]? =some (.rows d)){b:Nat}(q:En.g b∈L):b∉(En.rows d).fp:=by
 intro h;obtain⟨y,e⟩:=g7.1 q;by_cases j:i=y
 .subst j;rw[V]at e;have k:En.rows d=En.g b:=fe e;have x:d≠[]:=by rintro rfl;simp[En.rows,jC]at h
  refine PB d x w b h ?_;rw[k];show b<_;simp
 .exact mf H.nd V e j b h (by simp[En.g])
def VF{d:List dZ}{j:Nat}{s s':Sl}{vs x:List aa}(h:d[j]? =some (s,vs))(k:(d.flatMap λp:dZ=>ax p.1).Nodup)(q:(ax s').Nodup)(w:∀e∈ax s',e∈ax s\/e∉d.flatMap λp:dZ=>ax p.1):((d.set j (s',x)).flatMap λp:dZ=>ax p.1).Nodup:=
 Dr (f:=λp:dZ=>ax p.1) h k q w
def Tt(s:Sl):(ax s).Nodup:=by unfold ax;grind
def yt{α:Type}{l:List α}{j:Nat}{a x:α}(h:x∈l.set j a):x=a\/∃i,i≠j/\l[i]? =some x:=by
 obtain⟨i,d⟩:=g7.1 h
 grind
def Pz{d:List dZ}(h:(d.flatMap λp:dZ=>ax p.1).Nodup):∀{i j:Nat} {p e:dZ},d[i]? =some p->d[j]? =some e->i≠j->∀b∈ax p.1,b∉ax e.1:=by
 induction d with
 |nil=>grind
 |cons a l k=>
  rw[cV,gT]at h
  grind
def Ew(H:LH M w0 w L D){w':J}(i j:Nat){d:List dZ}{s s':Sl}{vs A:List aa}(V:L[i]? =some (.rows d))(x:d[j]? =some (s,vs))(f:Fr (λb=>b∈ax s) w w')(I:aK w' aT 4 s' A)(h:∀b∈ax s',b∈ax s\/w.heap.size<=b):
  LH M w0 w' (L.set i (.rows (d.set j (s',A)))) D:=by
 have k:(En.rows d).P w:=H.get i V;have K:∀b∈ax s,b∈(En.rows d).fp:=λb h=>aM.2 (bS.2 ⟨_,aD x,h⟩);have Q:∀b∈d.flatMap (λp:dZ=>ax p.1),b<w.heap.size:=λb h=>(En.rows d).lt w k b (aM.2 h);refine H.gv i _ V (f.mono λz _ y=>K z y) ⟨λp e=>?_,VF x k.2 (Tt _) λz y=>(h z y).imp id λO e=>by grind⟩ λb e=>?_
 .rcases yt e with rfl|⟨N,F,q⟩
  .exact I
  .exact (k.1 p (aD q)).cb λb B G=>f.cb b G λE=>Pz k.2 q x F b B E
 .obtain ⟨p,e,C⟩:=bS.1 (aM.1 e);rcases yt e with rfl|⟨N,_,q⟩
  .grind
  .exact .inl (aM.2 (bS.2 ⟨p,aD q,C⟩))
def _root_.Go.W.LH.xp(H:LH M w0 w L D)(i j:Nat){ty:TypeId}{h:List dZ}{s src:Sl}{vs news:List aa}{K:Sl->J->Prop}(V:L[i]? =some (.rows h))(k:h[j]? =some (s,vs))(y:bx 4 w src news)(F:∀u∈news,u.oneCell'=true)(I:(s.n+src.n) *40<=140737488355328)(G:∀d e,LH M w0 e (L.set i (.rows (h.set j (d,vs++news)))) D->d.n=s.n+src.n->(d.a=none->s.a=none/\src.n=0)->K d e)(bp:∀b∈U,En.g b∈L:=by simp):
  ∃d e,(dY #[iy,iy] ty #[s.v,src.v]).run Y w=.ok d.v e/\kept U w e/\K d e:=by have O:(En.rows h).P w:=H.get i V;obtain⟨d,e,z,A,B,q,C,E⟩:=xr (ty:=ty) qq (O.1 _ (aD k)) y.2.2 y.1 F I;refine⟨d,e,z,λb x=>?_,G d e (Ew H i j V k q A C) B E⟩;refine q.cb b (H.own _ (bp b x)) λN=>?_;exact IZ H V (bp b x) (aM.2 (bS.2 ⟨_,aD k,N⟩))
def _root_.Go.W.LH.zu(H:LH M w0 w L D)(i j a c:Nat){e:List dZ}{s:Sl}{vs:List aa}{v:aa}{p:Addr}{K:J->Prop}(V:L[i]? =some (.rows e))(h:e[j]? =some (s,vs))(E:s.a=some p)(B:a+c<vs.length)(z:∀q,LH M w0 q (L.set i (.rows (e.set j (s,vs.set (a+c) v)))) D->K q)(bp:∀b∈U,En.g b∈L:=by simp):aP w ((p.add a).add c) v λx=>kept U w x/\K x:=by have A:(En.rows e).P w:=H.get i V;obtain⟨O,k,N,F,G,I,y⟩:=yZ (A.1 _ (aD h)) (a+c) B v;rw[E]at k;cases k;rw[add_add];refine⟨F,G,λb d=>?_,z _ (Ew H i j V h y I λb d=>.inl d)⟩;exact y.cb b (H.own _ (bp b d)) λC=>IZ H V (bp b d) (aM.2 (bS.2 ⟨_,aD h,C⟩))
def _root_.Go.W.LH.Ce(H:LH M w0 w L D)(i j:Nat){x:List dZ}{s:Sl}{vs:List aa}(V:L[i]? =some (.rows x))(y:x[j]? =some (s,vs)):LH M w0 w (L.set i (.rows (x.set j (⟨none,0,0⟩,[])))) (D++[.bd 4 s vs]):=by
 have F:(En.rows x).P w:=H.get i V;have h:=Ew H i j V y (Fr.refl _ _) (aK.nil w aT 4) (λb k=>by simp[ax]at k);have O:∀b∈ax s,b∈(En.rows x).fp:=λb k=>aM.2 (bS.2 ⟨_,aD y,k⟩);have S:i<L.length:=(cz.1 V).1;refine⟨h.fr,h.own,λq d=>?_,h.new,h.nd,λq d b k G E z=>?_⟩
 .rcases aY.1 d with d|d
  .exact h.rd q d
  .simp at d;subst d;exact(F.1 _ (aD y)).bd
 .rcases aY.1 d with d|d
  .exact h.dj q d b k G E z
  .simp at d;subst d;have C:b∈ax s:=gk (e:=aT) k;rcases yt E with rfl|⟨Q,A,I⟩
   .obtain ⟨T,N,B⟩:=bS.1 (aM.1 z);rcases yt N with rfl|⟨Q,A,K⟩
    .simp [ax]at B
    .exact Pz F.2 K y A b B C
   .exact mf H.nd V I (λq=>A q.symm) b (O b C) z
end
structure FX where
 k:Int
 ar:Sl×List Rx
 al:List Rx
 an:List Rx
 ca:List Rx
 n:Nat
 la:Rx
structure FM where
 k:Int
 ar:Sl×List I
 al:Sl×List I
 an:Sl×List I
 ca:Sl×List I
 n:Nat
 la:I
def FM.x(f:FM):FX:=⟨f.k,(f.ar.1,I.ao f.ar.2),I.ao f.al.2,I.ao f.an.2,I.ao f.ca.2,f.n,f.la.rx⟩
def FM.c(f:FM):List aa:=[.int .i64 f.k,f.ar.1.v,f.al.1.v,f.an.1.v,f.ca.1.v,.int .i64 (f.n:Int),.int .i64 f.la.k,.int .u8 (f.la.lo.toNat:Int),.int .u8 (f.la.V.toNat:Int),f.la.s.v]
def FM.rows(f:FM):List dZ:=[(f.ar.1,f.ar.2.flatMap I.c),(f.al.1,f.al.2.flatMap I.c),(f.an.1,f.an.2.flatMap I.c),(f.ca.1,f.ca.2.flatMap I.c)]
def FM.O(f:FM):List I:=f.ar.2++f.al.2++f.an.2++f.ca.2++[f.la]
def FM.jq(f:FM):f.c.length=10:=rfl
def oZ(d:List FM):(d.flatMap FM.c).length=d.length *10:=oX FM.c 10 FM.jq d
abbrev SL(rb:Nat)(sl:Sl)(st e:Int)(cs:List aa)(d:List dZ):List En:=[.c rb [sl.v,.int .i64 st,.int .i64 e] wR,.row hX 10 sl cs,.rows d]
def St(w:J)(rb:Nat)(f0:Addr)(lo:List FX)(j:FX)(st e:Int)(own:List Nat)(O:List I):Prop:=
 ∃(sl:Sl) (d:List FM) (f:FM) (p:Addr),d.map FM.x=lo/\f.x=j/\(∀g∈d++[f],∀t∈g.O,t∈O)/\sl.a=some p/\f0=p.add (d.length *10)/\
  own=(SL rb sl st e ((d++[f]).flatMap FM.c) ((d++[f]).flatMap FM.rows)).flatMap (·.fp)/\own.Nodup/\(∀h∈SL rb sl st e ((d++[f]).flatMap FM.c) ((d++[f]).flatMap FM.rows),h.P w)/\I.Ps w O/\∀b∈I.a8 O,b∉own
def h5(w:J)(own:List Nat)(O:List I)(rb:Nat)(f0:Addr)(lo:List FX)(j:FX)(st k:Int)(A:List I->Prop)(w':J):Prop:=∃e d,St w' rb f0 lo j st k e d/\Fr (·∈own) w w'/\(∀h∈e,h∈own\/w.heap.size<=h)/\(∀b∈I.a8 d,b∈I.a8 O\/b∈own\/w.heap.size<=b)/\(∀t∈O,t∈d)/\A d
def h5.then{w y w':J}{own q:List Nat}{O j:List I}{rb:Nat}{f0:Addr}{lo:List FX}{x:FX}{st z:Int}{A:List I->Prop}(e:Fr (·∈own) w y)(H:∀d∈q,d∈own\/w.heap.size<=d)(S:∀b∈I.a8 j,b∈I.a8 O\/b∈own\/w.heap.size<=b)(N:∀t∈O,t∈j)(h:h5 y q j rb f0 lo x st z A w'):h5 w own O rb f0 lo x st z A w':=by
 obtain⟨L,Q,M,D,K,C,P,B⟩:=h;refine⟨L,Q,M,e.trans D λd k F=>(H d F).resolve_right λh=>by omega,λd k=>?_,λb E=>?_,λt G=>P t (N t G),B⟩
 .rcases K d k with h|h
  .grind
  .exact .inr (a6 e.size h)
 .rcases C b E with h|h|h
  .grind
  .grind
  .exact .inr (.inr (a6 e.size h))
def h5.mono{w w':J}{own:List Nat}{O:List I}{rb:Nat}{f0:Addr}{lo:List FX}{d:FX}{st e:Int}{A B:List I->Prop}(h:h5 w own O rb f0 lo d st e A w')(x:∀l,A l->B l):h5 w own O rb f0 lo d st e B w':=by obtain⟨z,E,C,q,y,k,D,j⟩:=h;exact⟨z,E,C,q,y,k,D,x _ j⟩
def St.uI{w:J}{rb:Nat}{sl:Sl}{d:List FM}{f:FM}{O:List I}{st j:Int}{own:List Nat}(x:own=(SL rb sl st j ((d++[f]).flatMap FM.c) ((d++[f]).flatMap FM.rows)).flatMap (·.fp))(y:own.Nodup)(z:∀e∈SL rb sl st j ((d++[f]).flatMap FM.c) ((d++[f]).flatMap FM.rows),e.P w)(A:I.Ps w O)(q:∀b∈I.a8 O,b∉own):
  LH (·∈own) w w (SL rb sl st j ((d++[f]).flatMap FM.c) ((d++[f]).flatMap FM.rows)) [.trees O]:=by
 refine LH.tK _ _ (λe h=>⟨z e h,λb k=>by grind⟩) (x▸y) λe h=>?_;simp only[au,aO,aR]at h;subst h;refine⟨A,λb k B D C=>q b (aM.1 k) ?_⟩
 grind
def St.of{w w':J}{rb:Nat}{f0:Addr}{sl:Sl}{d:List FM}{f:FM}{O e:List I}{st z:Int}{own:List Nat}{p:Addr}{D:List En}{A:List I->Prop}(H:LH (·∈own) w w' (SL rb sl st z ((d++[f]).flatMap FM.c) ((d++[f]).flatMap FM.rows)) D)(i:Nat)(y:D[i]? =some (.trees e))(G:∀g∈d++[f],∀t∈g.O,t∈e)(F:sl.a=some p)(B:f0=p.add (d.length *10))(j:∀b∈I.a8 e,b∈I.a8 O\/b∈own\/w.heap.size<=b)(K:∀t∈O,t∈e)(C:A e):
  h5 w own O rb f0 (d.map FM.x) f.x st z A w':=by
 refine⟨_,e,⟨sl,d,f,p,rfl,rfl,G,F,B,rfl,H.nd,H.own,H.getD i y,λb j E=>?_⟩,H.fr,λM L=>?_,j,K,C⟩
 .obtain ⟨h,q,k⟩:=bS.1 E;exact H.dj _ (aD y) b (aM.2 j) h q k
 .obtain ⟨h,q,k⟩:=bS.1 L;exact(H.new h q M k).symm
section
variable {M:Nat->Prop} {w0 w:J} {L D:List En} {U:List Nat}
def _root_.Go.W.LH.gE(H:LH M w0 w L D)(i:Nat){sl:Sl}{d:List FM}{f:FM}{p:Addr}(V:L[i]? =some (.row hX 10 sl ((d++[f]).flatMap FM.c)))(x:sl.a=some p)(j:Nat){v:aa}(y:f.c[j]? =some v:=by rfl):w.cell? ((p.add (d.length *10)).add j)=some v:=by
 have q:aK w hX 10 sl ((d++[f]).flatMap FM.c):=H.get i V;have k:((d++[f]).flatMap FM.c)[d.length *10+j]? =some v:=by
  rw[dt,List.getElem?_append_right (by rw[oZ];omega),oZ]
  grind
 obtain⟨z,e,h⟩:=q.bd.2.2.2 _ _ k;rw[x]at e;cases e;rw[add_add];exact h
def VP(d:List FM)(f e:FM)(j:Nat)(v:aa)(k:j<10)(h:f.c.set j v=e.c):((d++[f]).flatMap FM.c).set (d.length *10+j) v=(d++[e]).flatMap FM.c:=by
 rw[dt,dt,List.set_append,af (by rw[oZ];omega),oZ]
 grind
def _root_.Go.W.LH.iw(H:LH M w0 w L D)(i:Nat){sl:Sl}{d:List FM}{f:FM}{p:Addr}{K:J->Prop}{v:aa}(h:FM)(j:Nat)(V:L[i]? =some (.row hX 10 sl ((d++[f]).flatMap FM.c)))(A:sl.a=some p)(z:j<10)(y:f.c.set j v=h.c)(x:∀e,LH M w0 e (L.set i (.row hX 10 sl ((d++[h]).flatMap FM.c))) D->K e)(bp:∀b∈U,En.g b∈L:=by simp):aP w ((p.add (d.length *10)).add j) v λq=>kept U w q/\K q:=
 H.ou i (d.length *10) j V A (by rw[oZ];grind) (λe k=>x e (by rw[VP d f h j v z y]at k;exact k)) bp
def ET{w:J}{p:Addr}{v:aa}{K:J->Prop}(h:aP w p v λd=>kept [] w d/\K d):aP w p v K:=aae h λ_ h=>h.2
end
def Eu:∀d:List FM,(d.flatMap FM.rows).length=d.length *4
 |[]=>rfl
 |f::d=>by have:=Eu d;simp only[cV,List.length_append,List.length_cons];have:f.rows.length=4:=rfl;omega
def Ev(d:List FM)(f:FM)(j:Nat)(x:dZ)(e:j<4):((d++[f]).flatMap FM.rows).set (d.length *4+j) x=d.flatMap FM.rows++f.rows.set j x:=by
 have h:=Eu d
 grind
def pw(d:List FM)(f:FM)(j:Nat)(x:dZ)(h:f.rows[j]? =some x):((d++[f]).flatMap FM.rows)[d.length *4+j]? =some x:=by
 have e:=Eu d
 grind
def fN(k:Int)(s:Sl)(O:List I):I:=match O with |[d]=>d|l=>.mk k 0 0 s l
def od(k:Int)(l:List Rx):Rx:=match l with |[d]=>d|l=>.mk k 0 0 l
def Dy(k:Int)(s:Sl)(O:List I):(fN k s O).rx=od k (I.ao O):=by
 match O with
 |[]=>rfl
 |[d]=>rfl
 |d::e::l=>rfl
def Yp{k:Int}{s:Sl}{O:List I}{b:Nat}(h:b∈(fN k s O).fp):b∈(I.row s O).fp\/b∈I.a8 O:=by
 match O,h with
 |[],h=>exact I.gh.1 (show b∈(I.mk k 0 0 s []).fp from h)
 |[x],h=>exact .inr (I.bJ.2 ⟨x,by simp,h⟩)
 |x::d::l,h=>exact I.gh.1 (show b∈(I.mk k 0 0 s (x::d::l)).fp from h)
def Ba(k:Int)(s:Sl)(O:List I)(w:J)(h:bx 4 w s (O.flatMap I.c)):ai Y yC #[.int .i64 k,s.v] w λr A=>r=ae (fN k s O).v/\ag w A:=by
 have x:=I.cr h;refine Pd.aB _ _ w _ ((bI [I.row s O] (by intro D q;simp only[au,aO,aR]at q;subst q;exact h)).aG λC F d=>aL (λy=>⟨by omega,by omega,?_⟩) (λy=>d.ah λB e=>⟨?_,e.fr⟩))
 .have z:O.length=1:=by omega
  obtain⟨j,rfl⟩:=List.length_eq_one_iff.1 z;refine I.dd (d.getD 0) (i:=0) (t:=j) rfl λp E c=>⟨_,_,_,_,c.c0,c.c1,c.c2,c.c3,d.ah λB e=>⟨rfl,e.fr⟩⟩
 .match O,x with
  |[],_=>rfl
  |[j],x=>grind
  |j::G::l,_=>rfl
section
variable {M:Nat->Prop} {w0 w:J} {L D:List En} {U:List Nat}
def _root_.Go.W.LH.node(H:LH M w0 w L D)(i:Nat){O ks:List I}{s:Sl}(k:Int)(lo V:UInt8)(j:D[i]? =some (.trees O))(x:I.row s ks∈D)(q:∀t∈ks,t∈O):LH M w0 w L [.trees (O++[.mk k lo V s ks])]:=by
 have y:I.Ps w O:=H.getD i j;have A:=H.gy (.trees (O++[.mk k lo V s ks])) (Fr.refl _ _) (I.ir λt d=>?_) λb B=>.inr (.inr ?_)
 .exact A.forget _ (by simp)
 .rcases aY.1 d with d|d
  .exact y.mem d
  .simp at d;subst d;unfold I.P;exact⟨H.rd _ x,I.ir λt d=>y.mem (q t d)⟩
 .obtain ⟨t,d,h⟩:=I.bJ.1 (aM.1 B);rcases aY.1 d with d|d
  .exact ⟨_,aD j,aM.2 (I.bJ.2 ⟨t,d,h⟩)⟩
  .simp at d;rw[d]at h;rcases I.gh.1 h with e|e
   .exact ⟨_,x,e⟩
   .obtain ⟨z,E,C⟩:=I.bJ.1 e;exact⟨_,aD j,aM.2 (I.bJ.2 ⟨z,q z E,C⟩)⟩
def _root_.Go.W.LH.Nt(H:LH M w0 w L D)(i:Nat){O ks:List I}{s:Sl}(k:Int)(j:D[i]? =some (.trees O))(h:I.row s ks∈D)(e:∀t∈ks,t∈O):LH M w0 w L [.trees (O++[fN k s ks])]:=by
 match ks,h,e with
 |[],h,e=>exact H.node i k 0 0 j h e
 |q::C::l,h,e=>exact H.node i k 0 0 j h e
 |[q],h,e=>
  have z:I.Ps w O:=H.getD i j;have y:=e q (by simp);have A:=H.gy (.trees (O++[q])) (Fr.refl _ _) (I.ir λt d=>?_) λb B=>.inr (.inr ?_)
  .exact A.forget _ (by simp[fN])
  .rcases aY.1 d with d|d
   .exact z.mem d
   .simp at d;subst d;exact z.mem y
  .obtain ⟨t,d,x⟩:=I.bJ.1 (aM.1 B);rcases aY.1 d with d|d
   .exact ⟨_,aD j,aM.2 (I.bJ.2 ⟨t,d,x⟩)⟩
   .simp at d;rw[d]at x;exact⟨_,aD j,aM.2 (I.bJ.2 ⟨q,y,x⟩)⟩
abbrev z4:List aa:=[.int .i64 0,.int .u8 0,.int .u8 0,.slice none 0 0]
def xq(vs u:List aa)(n j:Nat)(v:aa)(d:vs.length=n):(vs++u).set (n+j) v=vs++u.set j v:=by grind
def _root_.Go.W.LH.td(H:LH M w0 w L D)(i j n:Nat){d:List dZ}{s:Sl}{vs:List aa}{p:Addr}{K:J->Prop}(t:I)(V:L[i]? =some (.rows d))(hj:d[j]? =some (s,vs++z4))(E:s.a=some p)(C:vs.length=n *4)(hK:∀w',LH M w0 w' (L.set i (.rows (d.set j (s,vs++t.c)))) D->K w')(bp:∀b∈U,En.g b∈L):
  aP w (p.add (aV (n:Int) *4)) (.int .i64 t.k) λz=>kept U w z/\aP z ((p.add (aV (n:Int) *4)).add 1) (.int .u8 (t.lo.toNat:Int)) λh=>kept U z h/\aP h ((p.add (aV (n:Int) *4)).add 2) (.int .u8 (t.V.toNat:Int)) λq=>kept U h q/\aP q ((p.add (aV (n:Int) *4)).add 3) t.s.v λA=>kept U q A/\K A:=by
 rw[Int.toNat_natCast];have ah:i<L.length:=(cz.1 V).1;have ai:j<d.length:=(cz.1 hj).1;have N:∀{F:List En} (e:En),F.length=L.length->(F.set i e)[i]? =some e:=λ{F} e hl=>by grind
 have G:∀(B:List dZ) (x:dZ),B.length=d.length->(B.set j x)[j]? =some x:=λB x hl=>by grind
 have O:∀{b:Nat},En.g b∈L->∀(B:List dZ),En.g b∈L.set i (.rows B):=λ{b} y B=>by
  obtain⟨ab,hk⟩:=g7.1 y;by_cases ad:i=ab
  .subst ad;exfalso;rw[V]at hk;have hP:(En.rows d).P w:=H.get i V;have e1:En.rows d=En.g b:=fe hk;have ag:(En.rows d).fp=[b]:=by rw[e1];rfl
   have ac:b∈(En.rows d).fp:=by grind
   have ae:d≠[]:=by grind
   refine PB d ae w b ac ?_;rw[e1];show b<_;simp
  .exact g7.2 ⟨ab,by grind⟩
 have af:=H.zu (U:=U) i j (n *4) 0 (v:=.int .i64 t.k) (K:=λz=>aP z ((p.add (n *4)).add 1) (.int .u8 (t.lo.toNat:Int)) λh=>kept U z h/\aP h ((p.add (n *4)).add 2) (.int .u8 (t.V.toNat:Int)) λq=>kept U h q/\aP q ((p.add (n *4)).add 3) t.s.v λA=>kept U q A/\K A) V hj E (by grind) ?_ bp
 .rw [iW]at af;omega
 intro z Q;rw[xq vs z4 (n *4) 0 _ C]at Q;refine Q.zu (U:=U) i j (n *4) 1 (N _ rfl) (G _ _ rfl) E (by grind) ?_ (λb y=>O (bp b y) _);intro h S;rw[xq vs _ (n *4) 1 _ C,List.set_set,List.set_set]at S;refine S.zu (U:=U) i j (n *4) 2 (N _ rfl) (G _ _ rfl) E (by grind) ?_ (λb y=>O (bp b y) _);intro q T;rw[xq vs _ (n *4) 2 _ C,List.set_set,List.set_set]at T;refine T.zu (U:=U) i j (n *4) 3 (N _ rfl) (G _ _ rfl) E (by grind) ?_ (λb y=>O (bp b y) _);intro A Z;rw[xq vs _ (n *4) 3 _ C,List.set_set,List.set_set]at Z;exact hK A Z
def _root_.Go.W.LH.JH(H:LH M w0 w L D)(i:Nat){sl:Sl}{d:List FM}{f:FM}{p:Addr}(V:L[i]? =some (.row hX 10 sl ((d++[f]).flatMap FM.c)))(e:sl.a=some p):
  w.cell? (((p.add (d.length *10)).add 6).add 0)=some (.int .i64 f.la.k)/\w.cell? (((p.add (d.length *10)).add 6).add 1)=some (.int .u8 (f.la.lo.toNat:Int))/\w.cell? (((p.add (d.length *10)).add 6).add 2)=some (.int .u8 (f.la.V.toNat:Int))/\w.cell? (((p.add (d.length *10)).add 6).add 3)=some f.la.s.v:=by
 refine⟨?_,?_,?_,?_⟩
 .rw [iW];exact H.gE i V e 6
 .rw [add_add];exact H.gE i V e 7
 .rw [add_add];exact H.gE i V e 8
 .rw [add_add];exact H.gE i V e 9
end
def na:Nat->Rx->Rx
 |0,r=>r
 |n+1,r=>na n (.mk 6 0 0 [r])
def kJ(f:FX):FX:=⟨f.k,f.ar,f.al,f.an,f.ca++[na f.n f.la],0,f.la⟩
def GH{w:J}{rb:Nat}{f0:Addr}{lo:List FX}{tp:FX}{st E:Int}{own:List Nat}{O:List I}(h:St w rb f0 lo tp st E own O)(hn:tp.n<=1000000)(hc:tp.ca.length<=1000000):
  ai Y L' #[.pointer (some f0)] w λr w'=>r=ae (.tuple #[])/\h5 w own O rb f0 lo (kJ tp) st E (λ_=>True) w':=by
 obtain⟨sl,d,f,p,rfl,rfl,M,z,rfl,h6,h7,h8,h9,av⟩:=h;have ad:=St.uI h6 h7 h8 h9 av;have aw:f.la∈O:=M f (by simp) _ (by simp[FM.O]);have az:f.ca.2.length<=1000000:=by
  have:f.x.ca.length=f.ca.2.length:=by show(I.ao f.ca.2).length=_;rw[I.fu];simp
  omega
 have loop:∀(m:Nat) (r:I) (C:List I) (q:Nat) (D:J),m<=1000000->(∀t∈O,t∈C)->(∀b∈I.a8 C,b∈I.a8 O\/b∈own\/w.heap.size<=b)->r∈C->na m r.rx=na f.n f.la.rx->
   LH (·∈own) w D (SL rb sl st E ((d++[(⟨f.k,f.ar,f.al,f.an,f.ca,m,f.la⟩:FM)]).flatMap FM.c) ((d++[f]).flatMap FM.rows)++[.g q]) [.trees C]->
   wc.a2 (p.add (d.length *10)) q r.k r.lo.toNat r.V.toNat r.s D λr w'=>r=ae (.tuple #[])/\h5 w own O rb (p.add (d.length *10)) (d.map FM.x) (kJ f.x) st E (λ_=>True) w':=by
  intro m;induction m with
  |zero=>
   intro r C q D _ K Z hr he B;refine wc.bw _ _ _ _ _ _ _ _ ⟨0,B.gE 1 rfl z 5,aZ rfl (B.ah λS F=>⟨_,F.gE 1 rfl z 4,?_⟩)⟩;have am:((d++[f]).flatMap FM.rows)[d.length *4+3]? =some (f.ca.1,f.ca.2.flatMap I.c):=pw d f 3 _ rfl;have nr:f.ca.1.n=f.ca.2.length:=by have hp:(En.rows ((d++[f]).flatMap FM.rows)).P S:=F.get 2;exact I.cr (hp.1 _ (aD am)).bd
   refine F.cN (e:=aT) (sz:=4) (n:=1) (cs:=z4) rfl (by decide) λw3 G=>⟨G.gE 1 rfl z 4,?_⟩;refine G.xp (U:=[q]) 2 (d.length *4+3) (src:=⟨some (ab S.heap.size),1,1⟩) (news:=z4) rfl am (aK.bd (G.get 4)) (by simp[Value.oneCell']) (by grind) (λy w4 T ak aA=>⟨by omega,by grind,?_⟩);obtain⟨ac,hq⟩:∃ac,y.a=some ac:=by
    cases hs:y.a with
    |none=>grind
    |some ac=>grind
   rw[hq];have ag:d.length *4+3<((d++[f]).flatMap FM.rows).length:=by grind
   have W:LH (·∈own) w w4 (SL rb sl st E ((d++[(⟨f.k,f.ar,f.al,f.an,f.ca,0,f.la⟩:FM)]).flatMap FM.c) (((d++[f]).flatMap FM.rows).set (d.length *4+3) (y,f.ca.2.flatMap I.c++z4))++[.g q]) [.trees C]:=T.take 4;have fin:∀{w':J},LH (·∈own) w w' (SL rb sl st E ((d++[(⟨f.k,f.ar,f.al,f.an,(y,f.ca.2++[r]),0,f.la⟩:FM)]).flatMap FM.c) (((d++[f]).flatMap FM.rows).set (d.length *4+3) (y,f.ca.2.flatMap I.c++r.c))++[.g q]) [.trees C]->
     (Ending.returned (.tuple #[])=ae (.tuple #[])/\h5 w own O rb (p.add (d.length *10)) (d.map FM.x) (kJ f.x) st E (λ_=>True) w'):=λ{w'} H'=>by
    refine⟨rfl,?_⟩;have e1:((d++[f]).flatMap FM.rows).set (d.length *4+3) (y,f.ca.2.flatMap I.c++r.c)=(d++[(⟨f.k,f.ar,f.al,f.an,(y,f.ca.2++[r]),0,f.la⟩:FM)]).flatMap FM.rows:=by rw[Ev d f 3 _ (by omega),dt];congr 1;simp[FM.rows]
    rw[e1]at H';have:=St.of (O:=O) (A:=λ_=>True) (f0:=p.add (d.length *10)) (H'.take 3) 0 rfl (λg Q t j=>?_) z rfl Z K trivial
    .have e2:(FM.x ⟨f.k,f.ar,f.al,f.an,(y,f.ca.2++[r]),0,f.la⟩)=kJ f.x:=by
      unfold FM.x kJ;simp only[jH];have:I.ao [r]=[na f.n f.la.rx]:=by rw[<-he];rfl
      grind
     grind
    .rcases aY.1 Q with Q|Q
     .grind
     .simp at Q;subst Q;simp only[FM.O,aY,au,aO,aR]at j;rcases j with(((j|j)|j)|(j|rfl))|rfl
      .exact K t (M f (by simp) t (by simp[FM.O,j]))
      .exact K t (M f (by simp) t (by simp[FM.O,j]))
      .exact K t (M f (by simp) t (by simp[FM.O,j]))
      .exact K t (M f (by simp) t (by simp[FM.O,j]))
      .exact hr
      grind
   refine⟨?_,?_⟩
   .rw [nr];refine W.td (U:=[q]) 2 (d.length *4+3) f.ca.2.length r rfl (jF ag) hq (I.eW _) (λw' H=>?_) (by simp);rw[List.set_set]at H;exact H.iw (U:=[q]) (f:=⟨f.k,f.ar,f.al,f.an,f.ca,0,f.la⟩) 1 ⟨f.k,f.ar,f.al,f.an,(y,f.ca.2++[r]),0,f.la⟩ 4 rfl z (by omega) rfl (λay H7=>fin H7) (by simp)
   .refine W.iw (U:=[q]) (f:=⟨f.k,f.ar,f.al,f.an,f.ca,0,f.la⟩) 1 ⟨f.k,f.ar,f.al,f.an,(y,f.ca.2++[r]),0,f.la⟩ 4 rfl z (by omega) rfl (λw' H=>?_) (by simp);rw[nr];refine LH.td (U:=[q]) (L:=SL rb sl st E ((d++[(⟨f.k,f.ar,f.al,f.an,(y,f.ca.2++[r]),0,f.la⟩:FM)]).flatMap FM.c) (((d++[f]).flatMap FM.rows).set (d.length *4+3) (y,f.ca.2.flatMap I.c++z4))++[.g q]) H 2 (d.length *4+3) f.ca.2.length r rfl (jF ag) hq (I.eW _) (λay H7=>?_) (by simp);rw[List.set_set]at H7
    grind
  |succ m ih=>
   intro r C q D hm K Z hr he B;refine wc.bw _ _ _ _ _ _ _ _ ⟨((m+1:Nat):Int),B.gE 1 rfl z 5,a1 (aS (by omega)) ?_⟩;refine B.cN (e:=aT) (sz:=4) (n:=1) (cs:=r.c) rfl (by decide) λS F=>F.ah (U:=[q]) (λw3 G=>⟨_,G.gE 1 rfl z 5,?_⟩) (by simp);have aq:aj .i64 (((m+1:Nat):Int) - 1)=(m:Int):=by rw[aQ _ (by omega)];omega
   show aP w3 _ (.int .i64 (aj .i64 (((m+1:Nat):Int) - 1))) _;rw[aq];refine G.iw (U:=[q]) (f:=⟨f.k,f.ar,f.al,f.an,f.ca,m+1,f.la⟩) 1 ⟨f.k,f.ar,f.al,f.an,f.ca,m,f.la⟩ 5 rfl z (by omega) rfl (λw4 T=>?_) (by simp);have W:=T.freeze 4 (I.row ⟨some (ab D.heap.size),1,1⟩ [r]) rfl (by show bx 4 w4 _ ([r].flatMap I.c);rw[show[r].flatMap I.c=r.c by simp];exact aK.bd (T.get 4)) (λb N=>gk (e:=aT) (vs:=[r].flatMap I.c) N);have H:=W.node 0 6 0 0 (s:=⟨some (ab D.heap.size),1,1⟩) (ks:=[r]) rfl (by simp) (λt j=>by grind);refine ih (.mk 6 0 0 ⟨some (ab D.heap.size),1,1⟩ [r]) _ q w4 (by omega) (λt j=>by grind) (λb N=>?_) (by simp) he H;obtain⟨t,j,aa⟩:=I.bJ.1 N;rcases aY.1 j with j|j
   .exact Z b (I.bJ.2 ⟨t,j,aa⟩)
   .simp at j;rw[j]at aa;rcases I.gh.1 aa with h|h
    .have:=gk (e:=aT) h;simp[En.row,ax,I.s]at this;subst this;exact .inr (.inr B.fr.size)
    .obtain ⟨t',ap,af⟩:=I.bJ.1 h;simp[I.l]at ap;rw[ap]at af;exact Z b (I.bJ.2 ⟨r,hr,af⟩)
 obtain⟨c0,c1,c2,c3⟩:=ad.JH 1 rfl z;have ak:f.n<=1000000:=hn;refine wc.aB _ w _ ⟨_,_,_,_,c0,c1,c2,c3,ad.aG (λq D B=>B.ah (λS F=>?_) (by simp)) (by simp)⟩;exact loop f.n f.la O q S ak (λ_ h=>h) (λb N=>.inl N) aw rfl F
def FM.aX(f:FM)(j:Nat):Sl×List I:=if j=1 then f.ar else if j=2 then f.al else if j=3 then f.an else f.ca
def FM.put(f:FM)(j:Nat)(x:Sl×List I):FM:=⟨f.k,if j=1 then x else f.ar,if j=2 then x else f.al,if j=3 then x else f.an,if j=4 then x else f.ca,f.n,f.la⟩
def uW{j:Nat}(q:1<=j)(w:j<=4){p:Nat->Prop}(d:p 1)(e:p 2)(h:p 3)(k:p 4):p j:=by grind
def Hu(f:FM){j:Nat}(d:1<=j)(e:j<=4):f.c[j]? =some (f.aX j).1.v:=uW (p:=λj=>f.c[j]? =some (f.aX j).1.v) d e rfl rfl rfl rfl
def r9(f:FM){j:Nat}(d:1<=j)(e:j<=4):f.rows[j - 1]? =some ((f.aX j).1,(f.aX j).2.flatMap I.c):=uW (p:=λj=>f.rows[j - 1]? =some ((f.aX j).1,(f.aX j).2.flatMap I.c)) d e rfl rfl rfl rfl
def v7(f:FM)(x:Sl×List I){j:Nat}(d:1<=j)(e:j<=4):f.c.set j x.1.v=(f.put j x).c:=uW (p:=λj=>f.c.set j x.1.v=(f.put j x).c) d e rfl rfl rfl rfl
def YW(f:FM)(x:Sl×List I){j:Nat}(d:1<=j)(e:j<=4):f.rows.set (j - 1) (x.1,x.2.flatMap I.c)=(f.put j x).rows:=uW (p:=λj=>f.rows.set (j - 1) (x.1,x.2.flatMap I.c)=(f.put j x).rows) d e rfl rfl rfl rfl
def y5(f:FM)(x:Sl×List I){j:Nat}(e:1<=j)(h:j<=4){t:I}(d:t∈(f.put j x).O):t∈f.O\/t∈x.2:=by
 refine uW (p:=λj=>t∈(f.put j x).O->t∈f.O\/t∈x.2) e h ?_ ?_ ?_ ?_ d<;>
 .intro d;simp[FM.put,FM.O]at d ⊢
  grind
def nP(f:FM)(j:Nat){t:I}(d:t∈(f.aX j).2):t∈f.O:=by
 unfold FM.aX at d;unfold FM.O
 grind
def YV(f:FM)(x:Sl×List I){j i:Nat}(e:i≠j)(V:1<=i)(d:i<=4):(f.put j x).aX i=f.aX i:=by
 have:i=1\/i=2\/i=3\/i=4:=by omega
 unfold FM.put FM.aX
 grind
section
variable {w0 w:J} {own:List Nat} {rb:Nat} {sl:Sl} {st wd:Int} {fs:List FM} {f:FM} {O:List I} {p:Addr}
abbrev FS(own:List Nat)(w0 w:J)(rb:Nat)(sl:Sl)(st wd:Int)(fs:List FM)(f:FM)(d:List dZ)(O:List I):Prop:=LH (·∈own) w0 w (SL rb sl st wd ((fs++[f]).flatMap FM.c) d) [.trees O]
def sG(fs:List FM)(f:FM)(x:Sl×List I){j:Nat}(d:1<=j)(e:j<=4):((fs++[f]).flatMap FM.rows).set (fs.length *4+(j - 1)) (x.1,x.2.flatMap I.c)=(fs++[f.put j x]).flatMap FM.rows:=by rw[Ev fs f (j - 1) _ (by omega),YW f x d e,dt];simp
def Oj(H:FS own w0 w rb sl st wd fs f ((fs++[f]).flatMap FM.rows) O)(A:sl.a=some p)(d:Nat)(q:1<=d)(x:d<=4)(t:I)(hb:(f.aX d).2.length<=1000000){E:J}{src:Sl}(B:LH (·∈own) w0 E (SL rb sl st wd ((fs++[f]).flatMap FM.c) ((fs++[f]).flatMap FM.rows)++[.row aT 4 src z4]) [.trees O])(ae:src.n=1){K:J->Prop}(hK:∀e j,FS own w0 j rb sl st wd fs (f.put d (e,(f.aX d).2++[t])) ((fs++[f.put d (e,(f.aX d).2++[t])]).flatMap FM.rows) O->K j):
  ∃(t15:Sl) (y:J),(dY #[iy,iy] iy #[(f.aX d).1.v,src.v]).run Y E=.ok (t15.v) y/\(0:Int)<=(((f.aX d).1.n:Nat):Int)/\(((f.aX d).1.n:Nat):Int)<((t15.n:Nat):Int)/\dM t15.a λh=>((aP y (h.add (aV (((f.aX d).1.n:Nat):Int) *4)) (.int .i64 t.k) λF=>aP F ((h.add (aV (((f.aX d).1.n:Nat):Int) *4)).add 1) (.int .u8 (t.lo.toNat:Int)) λG=>aP G ((h.add (aV (((f.aX d).1.n:Nat):Int) *4)).add 2) (.int .u8 (t.V.toNat:Int)) λM=>aP M ((h.add (aV (((f.aX d).1.n:Nat):Int) *4)).add 3) t.s.v λN=>aP N ((p.add (fs.length *10)).add d) t15.v K)/\
   (aP y ((p.add (fs.length *10)).add d) t15.v λaa=>aP aa (h.add (aV (((f.aX d).1.n:Nat):Int) *4)) (.int .i64 t.k) λF=>aP F ((h.add (aV (((f.aX d).1.n:Nat):Int) *4)).add 1) (.int .u8 (t.lo.toNat:Int)) λG=>aP G ((h.add (aV (((f.aX d).1.n:Nat):Int) *4)).add 2) (.int .u8 (t.V.toNat:Int)) λM=>aP M ((h.add (aV (((f.aX d).1.n:Nat):Int) *4)).add 3) t.s.v K)):=by
 have W:((fs++[f]).flatMap FM.rows)[fs.length *4+(d - 1)]? =some ((f.aX d).1,(f.aX d).2.flatMap I.c):=pw fs f (d - 1) _ (r9 f q x);have nr:(f.aX d).1.n=(f.aX d).2.length:=by have A:(En.rows ((fs++[f]).flatMap FM.rows)).P E:=B.get 2;exact I.cr (A.1 _ (aD W)).bd
 obtain⟨e,y,h1,_,h3⟩:=B.xp (U:=[]) (ty:=iy) 2 (fs.length *4+(d - 1)) (src:=src) (news:=z4) (K:=λe j=>FS own w0 j rb sl st wd fs f (((fs++[f]).flatMap FM.rows).set (fs.length *4+(d - 1)) (e,(f.aX d).2.flatMap I.c++z4)) O/\e.n=(f.aX d).1.n+1/\∃h,e.a=some h) rfl W (aK.bd (B.get 3)) (by simp[Value.oneCell']) (by omega) (λe w4 H4 ab ad=>⟨H4.take 3,by omega,by
  cases hs:e.a with
  |none=>grind
  |some h=>grind⟩) (by simp)
 obtain⟨Q,ac,h,D⟩:=h3;refine⟨e,y,h1,by omega,by omega,?_⟩;rw[D];have T:fs.length *4+(d - 1)<((fs++[f]).flatMap FM.rows).length:=by grind
 have S:∀(f:FM) (t:I) (d:Nat),(f.aX d).2.flatMap I.c++t.c=((f.aX d).2++[t]).flatMap I.c:=λf t d=>by simp
 rw[nr];refine⟨?_,?_⟩
 .have st:=LH.td (U:=[]) (K:=λN=>aP N ((p.add (fs.length *10)).add d) e.v K) Q 2 (fs.length *4+(d - 1)) (f.aX d).2.length t rfl (jF T) D (I.eW _) (λj z=>?_) (by simp)
  .grind
  .rw [List.set_set,S,sG fs f (e,(f.aX d).2++[t]) q x]at z;exact ET (z.iw (U:=[]) (f:=f) 1 (f.put d (e,(f.aX d).2++[t])) d rfl A (by omega) (v7 f (e,(f.aX d).2++[t]) q x) (λZ C=>hK e Z C) (by simp))
 .refine ET (Q.iw (U:=[]) (f:=f) 1 (f.put d (e,(f.aX d).2++[t])) d rfl A (by omega) (v7 f (e,(f.aX d).2++[t]) q x) (λj z=>?_) (by simp));have st:=LH.td (U:=[]) (K:=K) (L:=SL rb sl st wd ((fs++[f.put d (e,(f.aX d).2++[t])]).flatMap FM.c) (((fs++[f]).flatMap FM.rows).set (fs.length *4+(d - 1)) (e,(f.aX d).2.flatMap I.c++z4))) z 2 (fs.length *4+(d - 1)) (f.aX d).2.length t rfl (jF T) D (I.eW _) (λZ C=>?_) (by simp)
  .grind
  .rw [List.set_set,S,sG fs f (e,(f.aX d).2++[t]) q x]at C
   grind
def shift(H:FS own w0 w rb sl st wd fs f ((fs++[f]).flatMap FM.rows) O)(T:sl.a=some p)(k:Int)(d s:Nat)(W:1<=d)(hs:s=d+1)(N:s<=4)(hb:(f.aX d).2.length<=1000000)(ao:∀t∈f.O,t∈O){R:aH}(hK:∀q w',FS own w0 w' rb sl st wd fs ((f.put d (q,(f.aX d).2++[fN k (f.aX s).1 (f.aX s).2])).put s (⟨none,0,0⟩,[])) ((fs++[(f.put d (q,(f.aX d).2++[fN k (f.aX s).1 (f.aX s).2])).put s (⟨none,0,0⟩,[])]).flatMap FM.rows) (O++[fN k (f.aX s).1 (f.aX s).2])->R (ae (.tuple #[])) w'):
  lr w λz=>∃h:Sl,z.cell? ((p.add (fs.length *10)).add d)=some (h.v)/\∃t11:Sl,z.cell? ((p.add (fs.length *10)).add s)=some (t11.v)/\
   ((ai Y yC #[.i k,t11.v] z λr_ K=>∃C:Int,∃D:Int,∃E:Int,∃F:Sl,r_=ae (.agg #[.i C,.int .u8 D,.int .u8 E,F.v])/\
    K.cell? ((p.add (fs.length *10)).add d)=some (h.v)/\c9 K (.cells #[.i 0,.int .u8 0,.int .u8 0,.slice none 0 0] aT) λV=>
    V.cell? ((p.add (fs.length *10)).add d)=some (h.v)/\∃(t15:Sl) (L:J),Sem.run Y (dY #[iy,iy] iy #[h.v,.slice (some (nb K)) 1 1]) V=.ok (t15.v) L/\fb t15 ((h.n:Nat):Int) λj=>((aP L (j.add (aV ((h.n:Nat):Int) *4)) (.i C) λw6=>
    aP w6 ((j.add (aV ((h.n:Nat):Int) *4)).add 1) (.int .u8 D) λw7=>aP w7 ((j.add (aV ((h.n:Nat):Int) *4)).add 2) (.int .u8 E) λw8=>aP w8 ((j.add (aV ((h.n:Nat):Int) *4)).add 3) (F.v) λw9=>
    aP w9 ((p.add (fs.length *10)).add d) (t15.v) λaa=>aP aa ((p.add (fs.length *10)).add s) (.slice none 0 0) λx=>R (ae (.tuple #[])) x)/\
    (aP L ((p.add (fs.length *10)).add d) (t15.v) λac=>aP ac (j.add (aV ((h.n:Nat):Int) *4)) (.i C) λad=>aP ad ((j.add (aV ((h.n:Nat):Int) *4)).add 1) (.int .u8 D) λaf=>
    aP af ((j.add (aV ((h.n:Nat):Int) *4)).add 2) (.int .u8 E) λag=>aP ag ((j.add (aV ((h.n:Nat):Int) *4)).add 3) (F.v) λah=>aP ah ((p.add (fs.length *10)).add s) (.slice none 0 0) λx=>R (ae (.tuple #[])) x)))/\
   (c9 z (.cells #[.i 0,.int .u8 0,.int .u8 0,.slice none 0 0] aT) λaj=>aj.cell? ((p.add (fs.length *10)).add s)=some (t11.v)/\aj.cell? ((p.add (fs.length *10)).add d)=some (h.v)/\
    ai Y yC #[.i k,t11.v] aj λr_ am=>∃C:Int,∃D:Int,∃E:Int,∃F:Sl,r_=ae (.agg #[.i C,.int .u8 D,.int .u8 E,F.v])/\
    am.cell? ((p.add (fs.length *10)).add d)=some (h.v)/\∃(t15:Sl) (L:J),Sem.run Y (dY #[iy,iy] iy #[h.v,.slice (some (nb z)) 1 1]) am=.ok (t15.v) L/\fb t15 ((h.n:Nat):Int) λj=>((aP L (j.add (aV ((h.n:Nat):Int) *4)) (.i C) λw6=>
    aP w6 ((j.add (aV ((h.n:Nat):Int) *4)).add 1) (.int .u8 D) λw7=>aP w7 ((j.add (aV ((h.n:Nat):Int) *4)).add 2) (.int .u8 E) λw8=>aP w8 ((j.add (aV ((h.n:Nat):Int) *4)).add 3) (F.v) λw9=>
    aP w9 ((p.add (fs.length *10)).add d) (t15.v) λaa=>aP aa ((p.add (fs.length *10)).add s) (.slice none 0 0) λx=>R (ae (.tuple #[])) x)/\
    (aP L ((p.add (fs.length *10)).add d) (t15.v) λac=>aP ac (j.add (aV ((h.n:Nat):Int) *4)) (.i C) λad=>aP ad ((j.add (aV ((h.n:Nat):Int) *4)).add 1) (.int .u8 D) λaf=>
    aP af ((j.add (aV ((h.n:Nat):Int) *4)).add 2) (.int .u8 E) λag=>aP ag ((j.add (aV ((h.n:Nat):Int) *4)).add 3) (F.v) λah=>aP ah ((p.add (fs.length *10)).add s) (.slice none 0 0) λx=>R (ae (.tuple #[])) x)))):=by
 subst hs;have M:1<=d+1:=by omega
 have Z:d<=4:=by omega
 have an:((fs++[f]).flatMap FM.rows)[fs.length *4+(d+1 - 1)]? =some ((f.aX (d+1)).1,(f.aX (d+1)).2.flatMap I.c):=pw fs f (d+1 - 1) _ (r9 f M N);have rd:∀{w':J} {G:List En},LH (·∈own) w0 w' (SL rb sl st wd ((fs++[f]).flatMap FM.c) ((fs++[f]).flatMap FM.rows)++G) [.trees O]->bx 4 w' (f.aX (d+1)).1 ((f.aX (d+1)).2.flatMap I.c):=λA=>by have hP:(En.rows ((fs++[f]).flatMap FM.rows)).P _:=A.get 2;exact(hP.1 _ (aD an)).bd
 have fin:∀q w',FS own w0 w' rb sl st wd fs (f.put d (q,(f.aX d).2++[fN k (f.aX (d+1)).1 (f.aX (d+1)).2])) ((fs++[f.put d (q,(f.aX d).2++[fN k (f.aX (d+1)).1 (f.aX (d+1)).2])]).flatMap FM.rows) O->
   aP w' ((p.add (fs.length *10)).add (d+1)) (.slice none 0 0) λx=>R (ae (.tuple #[])) x:=λq w' A=>by
  have hc:(f.put d (q,(f.aX d).2++[fN k (f.aX (d+1)).1 (f.aX (d+1)).2])).aX (d+1)=f.aX (d+1):=YV f _ (by omega) M N;refine ET (A.iw (U:=[]) 1 ((f.put d (q,(f.aX d).2++[fN k (f.aX (d+1)).1 (f.aX (d+1)).2])).put (d+1) (⟨none,0,0⟩,[])) (d+1) rfl T (by omega) (v7 _ (⟨none,0,0⟩,[]) M N) (λx H1=>hK q x ?_) (by simp));have al:=pw fs (f.put d (q,(f.aX d).2++[fN k (f.aX (d+1)).1 (f.aX (d+1)).2])) (d+1 - 1) _ (r9 _ M N);rw[hc]at al;have B:=H1.Ce 2 (fs.length *4+(d+1 - 1)) rfl al;have y:=B.Nt 0 k (s:=(f.aX (d+1)).1) (ks:=(f.aX (d+1)).2) rfl (by simp) λt ht=>ao t (nP f _ ht);have ap:=sG fs (f.put d (q,(f.aX d).2++[fN k (f.aX (d+1)).1 (f.aX (d+1)).2])) (⟨none,0,0⟩,[]) M N
  grind
 have S:∀{w':J} {G:List En},LH (·∈own) w0 w' (SL rb sl st wd ((fs++[f]).flatMap FM.c) ((fs++[f]).flatMap FM.rows)++G) [.trees O]->w'.cell? ((p.add (fs.length *10)).add d)=some ((f.aX d).1.v):=λA=>A.gE 1 rfl T d (Hu f W Z);have ak:∀{w':J} {G:List En},LH (·∈own) w0 w' (SL rb sl st wd ((fs++[f]).flatMap FM.c) ((fs++[f]).flatMap FM.rows)++G) [.trees O]->w'.cell? ((p.add (fs.length *10)).add (d+1))=some ((f.aX (d+1)).1.v):=λA=>A.gE 1 rfl T (d+1) (Hu f M N);refine H.dr λz B=>⟨_,S (G:=[]) B,_,ak (G:=[]) B,?_,B.cN (e:=aT) (sz:=4) (n:=1) (cs:=z4) rfl (by decide) λK y=>⟨ak y,S y,?_⟩⟩
 .refine B.call (Ba k _ _ z (rd (G:=[]) B)) ?_;rintro _ K rfl y;refine⟨_,_,_,_,rfl,S (G:=[]) y,y.cN (e:=aT) (sz:=4) (n:=1) (cs:=z4) rfl (by decide) λV Q=>⟨S Q,?_⟩⟩;exact Oj H T d W Z (fN k (f.aX (d+1)).1 (f.aX (d+1)).2) hb (src:=⟨some (ab K.heap.size),1,1⟩) Q rfl fin
 .refine y.call (Ba k _ _ K (rd y)) ?_;rintro _ V rfl Q;refine⟨_,_,_,_,rfl,S Q,?_⟩;exact Oj H T d W Z (fN k (f.aX (d+1)).1 (f.aX (d+1)).2) hb (src:=⟨some (ab z.heap.size),1,1⟩) Q rfl fin
end
def h6(w:J)(own:List Nat)(O:List I)(rb:Nat)(Q:ch->Addr->List FX->FX->Int->Int->List I->Prop):aH:=λr q=>∃d e j h k,h5 w own O rb d e j h k (Q r d e j h k) q
def jZ(f:FX):FX:=⟨f.k,f.ar,f.al,f.an++[od 3 (kJ f).ca],[],0,f.la⟩
def jY(f:FX):FX:=⟨f.k,f.ar,f.al++[od 5 (jZ f).an],[],[],0,f.la⟩
def BM(f:FX):FX:=⟨f.k,f.ar,[],[],[],0,f.la⟩
def eN(f:FX):Rx:=od 4 (jY f).al
def EI{w0:J}{M:Nat->Prop}{w:J}{own:List Nat}{O y:List I}{k:Int}{s:Sl}{ks:List I}(q:∀b∈I.a8 O,b∈I.a8 y\/b∈own\/w.heap.size<=b)(C:∀b∈ax s,b∈own\/w.heap.size<=b)(B:∀t∈ks,t∈O):∀b∈I.a8 (O++[fN k s ks]),b∈I.a8 y\/b∈own\/w.heap.size<=b:=λb z=>by
 obtain⟨t,d,j⟩:=I.bJ.1 z;rcases aY.1 d with d|d
 .exact q b (I.bJ.2 ⟨t,d,j⟩)
 .simp at d;rw[d]at j;rcases Yp j with h|h
  .exact .inr (C b (gk (e:=aT) h))
  .obtain ⟨x,D,A⟩:=I.bJ.1 h;exact q b (I.bJ.2 ⟨x,B x D,A⟩)
def Py{own:List Nat}{w0 w:J}{rb:Nat}{sl:Sl}{st x:Int}{d:List FM}{f:FM}{O:List I}(H:FS own w0 w rb sl st x d f ((d++[f]).flatMap FM.rows) O){j:Nat}(e:1<=j)(h:j<=4):∀b∈ax (f.aX j).1,b∈own\/w0.heap.size<=b:=λb k=>by have q:=pw d f (j - 1) _ (r9 f e h);exact(H.new (.rows ((d++[f]).flatMap FM.rows)) (by simp) b (aM.2 (bS.2 ⟨_,aD q,k⟩))).symm
def PZ{j:List FM}{f:FM}{O:List I}{k:Int}{d s:Nat}{s':Sl}(q:∀g∈j++[f],∀t∈g.O,t∈O)(w:1<=d)(x:d<=4)(y:1<=s)(z:s<=4):∀g∈j++[(f.put d (s',(f.aX d).2++[fN k (f.aX s).1 (f.aX s).2])).put s (⟨none,0,0⟩,[])],∀t∈g.O,t∈O++[fN k (f.aX s).1 (f.aX s).2]:=by
 intro g h t A;rcases aY.1 h with h|h
 .grind
 .simp at h;subst h;rcases y5 _ _ y z A with e|e
  .rcases y5 _ _ w x e with e|e
   .grind
   .rcases aY.1 e with e|e
    .exact bK _ (q f (by simp) t (nP f d e))
    grind
  grind
def GI{w:J}{rb:Nat}{f0:Addr}{lo:List FX}{d:FX}{st B:Int}{own:List Nat}{O:List I}(h:St w rb f0 lo d st B own O)(hn:d.n<=1000000)(Z:d.ca.length<=1000000)(ha:d.an.length<=1000000):
  ai Y Ma #[.pointer (some f0)] w λr q=>r=ae (.tuple #[])/\h5 w own O rb f0 lo (jZ d) st B (λ_=>True) q:=by
 refine Pb.ok _ w _ ((GH h hn Z).mono ?_);rintro _ w1 ⟨rfl,ag,af,⟨sl,y,f,p,rfl,e,z,D,rfl,L,N,P,Q,K⟩,H,o1,F,t1,_⟩;refine⟨rfl,?_⟩;have C:=St.uI L N P Q K;have S:(f.aX 3).2.length<=1000000:=by
  have G:f.x.an.length=f.an.2.length:=by show(I.ao f.an.2).length=_;rw[I.fu];simp
  have e2:f.x.an=d.an:=by rw[e];rfl
  show f.an.2.length<=_
  grind
 refine shift (R:=λr q=>r=ae (.tuple #[])/\h5 w own O rb (p.add (y.length *10)) (y.map FM.x) (jZ d) st B (λ_=>True) q) C D 3 3 4 (by omega) rfl (by omega) S (λt j=>z f (by simp) t j) λs' q E=>⟨rfl,h5.then H o1 F t1 ?_⟩;have:=St.of (O:=af) (A:=λ_=>True) (f0:=p.add (y.length *10)) E 0 rfl (PZ z (by omega) (by omega) (by omega) (by omega)) D rfl (EI (w0:=w) (M:=F0) (λb W=>.inl W) (Py C (by omega) (by omega)) λt j=>z f (by simp) t (nP f 4 j)) (λt j=>bK _ j) trivial;have G:((f.put 3 (s',(f.aX 3).2++[fN 3 (f.aX 4).1 (f.aX 4).2])).put 4 (⟨none,0,0⟩,[])).x=jZ d:=by
  have hk:f.x.k=d.k:=by rw[e];rfl
  have V:f.x.ar=d.ar:=by rw[e];rfl
  have T:f.x.al=d.al:=by rw[e];rfl
  have U:f.x.an=d.an:=by rw[e];rfl
  have aa:f.x.ca=(kJ d).ca:=by rw[e]
  have ad:f.x.n=0:=by rw[e];rfl
  have ab:f.x.la=d.la:=by rw[e];rfl
  unfold jZ;rw[<-hk,<-V,<-T,<-U,<-aa,<-ab];show FX.mk f.k (f.ar.1,I.ao f.ar.2) (I.ao f.al.2) (I.ao (f.an.2++[fN 3 f.ca.1 f.ca.2])) (I.ao []) f.n f.la.rx=_;have ac:f.n=0:=ad;rw[ac,jH];simp[I.ao,Dy,FM.x]
 grind
def GG{w:J}{rb:Nat}{f0:Addr}{lo:List FX}{d:FX}{st B:Int}{own:List Nat}{O:List I}(h:St w rb f0 lo d st B own O)(hn:d.n<=1000000)(hc:d.ca.length<=1000000)(S:d.an.length<=1000000)(hl:d.al.length<=1000000):
  ai Y L9 #[.pointer (some f0)] w λr q=>r=ae (.tuple #[])/\h5 w own O rb f0 lo (jY d) st B (λ_=>True) q:=by
 refine O'.ok _ w _ ((GI h hn hc S).mono ?_);rintro _ w1 ⟨rfl,ah,ag,⟨sl,y,f,p,rfl,e,z,D,rfl,L,N,P,Q,K⟩,H,o1,F,t1,_⟩;refine⟨rfl,?_⟩;have C:=St.uI L N P Q K;have T:(f.aX 2).2.length<=1000000:=by
  have G:f.x.al.length=f.al.2.length:=by show(I.ao f.al.2).length=_;rw[I.fu];simp
  have e2:f.x.al=d.al:=by rw[e];rfl
  show f.al.2.length<=_
  grind
 refine shift (R:=λr q=>r=ae (.tuple #[])/\h5 w own O rb (p.add (y.length *10)) (y.map FM.x) (jY d) st B (λ_=>True) q) C D 5 2 3 (by omega) rfl (by omega) T (λt j=>z f (by simp) t j) λs' q E=>⟨rfl,h5.then H o1 F t1 ?_⟩;have:=St.of (O:=ag) (A:=λ_=>True) (f0:=p.add (y.length *10)) E 0 rfl (PZ z (by omega) (by omega) (by omega) (by omega)) D rfl (EI (w0:=w) (M:=F0) (λb Z=>.inl Z) (Py C (by omega) (by omega)) λt j=>z f (by simp) t (nP f 3 j)) (λt j=>bK _ j) trivial;have G:((f.put 2 (s',(f.aX 2).2++[fN 5 (f.aX 3).1 (f.aX 3).2])).put 3 (⟨none,0,0⟩,[])).x=jY d:=by
  have hk:f.x.k=d.k:=by rw[e];rfl
  have W:f.x.ar=d.ar:=by rw[e];rfl
  have U:f.x.al=d.al:=by rw[e];rfl
  have V:f.x.an=(jZ d).an:=by rw[e]
  have ab:f.x.ca=[]:=by rw[e];rfl
  have af:f.x.n=0:=by rw[e];rfl
  have ac:f.x.la=d.la:=by rw[e];rfl
  unfold jY;rw[<-hk,<-W,<-U,<-V,<-ac];show FX.mk f.k (f.ar.1,I.ao f.ar.2) (I.ao (f.al.2++[fN 5 f.an.1 f.an.2])) (I.ao []) (I.ao f.ca.2) f.n f.la.rx=_;have ad:f.n=0:=af;have aa:I.ao f.ca.2=[]:=ab;rw[ad,aa,jH];simp[I.ao,Dy,FM.x]
 grind
abbrev SF(M:Nat->Prop)(w0 w:J)(rb:Nat)(sl:Sl)(st e:Int)(d:List FM)(f:FM)(G:List En)(O:List I):Prop:=LH M w0 w (SL rb sl st e ((d++[f]).flatMap FM.c) ((d++[f]).flatMap FM.rows)++G) [.trees O]
section
variable {M:Nat->Prop} {w0 w:J} {U:List Nat} {G:List En} {rb:Nat} {sl:Sl} {st wd:Int} {fs:List FM} {f:FM} {O:List I} {p:Addr}
def ZV(H:SF M w0 w rb sl st wd fs f G O)(j:∀g∈fs++[f],∀t∈g.O,t∈O)(z:sl.a=some p):
  St w rb (p.add (fs.length *10)) (fs.map FM.x) f.x st wd ((SL rb sl st wd ((fs++[f]).flatMap FM.c) ((fs++[f]).flatMap FM.rows)).flatMap (·.fp)) O:=by have h:=H.nd;rw[dt,gT]at h;refine⟨sl,fs,f,p,rfl,rfl,j,z,rfl,rfl,h.1,λd e=>H.own d (bK _ e),H.getD 0,λb k y=>?_⟩;obtain⟨d,e,q⟩:=bS.1 y;exact H.dj (.trees O) (by simp) b (aM.2 k) d (bK _ e) q
def ZU(H:SF M w0 w rb sl st wd fs f G O){w':J}{N:Addr}{Q:List FX}{U:FX}{T V:Int}{L:List Nat}{k:List I}(s:St w' rb N Q U T V L k)(P:Fr (·∈(SL rb sl st wd ((fs++[f]).flatMap FM.c) ((fs++[f]).flatMap FM.rows)).flatMap (·.fp)) w w')(o:∀z∈L,z∈(SL rb sl st wd ((fs++[f]).flatMap FM.c) ((fs++[f]).flatMap FM.rows)).flatMap (·.fp)\/w.heap.size<=z)(h:∀b∈I.a8 k,b∈I.a8 O\/b∈(SL rb sl st wd ((fs++[f]).flatMap FM.c) ((fs++[f]).flatMap FM.rows)).flatMap (·.fp)\/w.heap.size<=b):
  ∃(E:Sl) (j:List FM) (q:FM) (D:Addr),j.map FM.x=Q/\q.x=U/\(∀g∈j++[q],∀t∈g.O,t∈k)/\E.a=some D/\N=D.add (j.length *10)/\(∀b∈I.a8 k,b∈I.a8 O\/w0.heap.size<=b\/M b)/\SF M w0 w' rb E T V j q G k:=by
 obtain⟨E,j,q,D,h1,h2,h3,h4,h5,h6,h7,h8,h9,ae⟩:=s;have K:=H.nd;rw[dt,gT]at K;have S:∀b∈(SL rb sl st wd ((fs++[f]).flatMap FM.c) ((fs++[f]).flatMap FM.rows)).flatMap (·.fp),w0.heap.size<=b\/M b:=λb h=>by obtain⟨e,d,B⟩:=bS.1 h;exact H.new e (bK _ d) b B
 have ad:∀e∈G,∀b∈e.fp,b<w.heap.size:=λe d b h=>e.lt w (H.own e (dV _ d)) b h;have Z:∀e∈G,∀b∈e.fp,b∉(SL rb sl st wd ((fs++[f]).flatMap FM.c) ((fs++[f]).flatMap FM.rows)).flatMap (·.fp):=λe d b h F=>K.2.2 b F b (bS.2 ⟨e,d,h⟩) rfl;have ab:=H.fr.size;have af:∀b∈L,w0.heap.size<=b\/M b:=λb h=>(o b h).elim (S b) λy=>.inl (a6 ab y);refine⟨E,j,q,D,h1,h2,h3,h4,h5,λb A=>?_,H.fr.trans P λz hx F=>(S z F).resolve_left (by omega),λe d=>?_,λe d=>?_,λe d b A=>?_,?_,λe d b A W C B=>?_⟩
 .grind
 .rcases aY.1 d with d|d
  .grind
  .exact e.st w w' (λb h hl=>P.cb b hl (Z e d b h)) (H.own e (dV _ d))
 .simp at d;subst d;exact h9
 .rcases aY.1 d with d|d
  .grind
  .exact H.new e (dV _ d) b A
 .rw [dt,gT];refine⟨h6▸h7,K.2.1,λz hx ag hy ac=>?_⟩;subst ac;obtain⟨e,d,B⟩:=bS.1 hy
  grind
 .simp at d;subst d;have aa:b∈I.a8 k:=aM.1 A;rcases aY.1 C with C|C
  .grind
  .rcases h b aa with y|y|y
   .exact H.dj (.trees O) (by simp) b (aM.2 y) W (dV _ C) B
   .grind
   grind
def _root_.Go.W.LH.lq(H:SF M w0 w rb sl st wd fs f G O)(D:∀g∈fs++[f],∀t∈g.O,t∈O)(T:sl.a=some p){g:cB}{args:Array aa}{K:aH}{Q:ch->Addr->List FX->FX->Int->Int->List I->Prop}(N:∀own,St w rb (p.add (fs.length *10)) (fs.map FM.x) f.x st wd own O->ai Y g args w (h6 w own O rb Q))(P:∀r y (k:Sl) (e:List FM) (h:FM) (j:Addr) (q z:Int) (d:List I),(∀t∈O,t∈d)->(∀g∈e++[h],∀t∈g.O,t∈d)->k.a=some j->(∀b∈I.a8 d,b∈I.a8 O\/w0.heap.size<=b\/M b)->Q r (j.add (e.length *10)) (e.map FM.x) h.x q z d->SF M w0 y rb k q z e h G d->K r y)(bp:∀b∈U,En.g b∈G:=by simp):ee U Y g args w K:=by
 have B:=H.nd;rw[dt,gT]at B;refine⟨(·∈(SL rb sl st wd ((fs++[f]).flatMap FM.c) ((fs++[f]).flatMap FM.rows)).flatMap (·.fp)),λb F S=>?_,(N _ (ZV H D T)).mono ?_⟩
 .exact B.2.2 b S b (bS.2 ⟨_,bp b F,by simp[En.g]⟩) rfl
 .rintro r y ⟨ab,ac,ae,q,z,ad,d,s,A,o,b,t,Z⟩;obtain⟨k,e,h,j,rfl,rfl,E,V,rfl,L,C⟩:=ZU H s A o b;exact⟨A,P r y k e h j q z d t E V L Z C⟩
def _root_.Go.W.LH.xJ(H:SF M w0 w rb sl st wd fs f G O)(B:∀g∈fs++[f],∀t∈g.O,t∈O)(E:sl.a=some p){g:cB}{args:Array aa}{K:aH}{Q:ch->Addr->List FX->FX->Int->Int->List I->Prop}(C:∀own,St w rb (p.add (fs.length *10)) (fs.map FM.x) f.x st wd own O->ai Y g args w (h6 w own O rb Q))(D:∀r k (y:Sl) (e:List FM) (h:FM) (q:Addr) (z A:Int) (d:List I),(∀t∈O,t∈d)->(∀g∈e++[h],∀t∈g.O,t∈d)->y.a=some q->(∀b∈I.a8 d,b∈I.a8 O\/w0.heap.size<=b\/M b)->Q r (q.add (e.length *10)) (e.map FM.x) h.x z A d->SF M w0 k rb y z A e h G d->K r k):ai Y g args w K:=by obtain⟨_,_,j⟩:=H.lq (U:=[]) B E C D (by simp);exact j.mono λr k j=>j.2
end
def Cc(f:FM):f.x.ar.2.length=f.ar.2.length/\f.x.al.length=f.al.2.length/\f.x.an.length=f.an.2.length/\f.x.ca.length=f.ca.2.length:=by refine⟨?_,?_,?_,?_⟩<;>(show(I.ao _).length=_;rw[I.fu];simp)
def xv{w:J}{own:List Nat}{O:List I}{rb:Nat}{f0:Addr}{lo:List FX}{d:FX}{st e:Int}{g:cB}{args:Array aa}(h:ai Y g args w λr j=>r=ae (.tuple #[])/\h5 w own O rb f0 lo d st e (λ_=>True) j):
  ai Y g args w (h6 w own O rb λr k y A z B _=>r=ae (.tuple #[])/\k=f0/\y=lo/\A=d/\z=st/\B=e):=
 h.mono λr j ⟨q,x⟩=>⟨f0,lo,d,st,e,x.mono λ_ _=>⟨q,rfl,rfl,rfl,rfl,rfl⟩⟩
structure Small(f:FX)(n:Nat):Prop where
 n':f.n<=n
 ar:f.ar.2.length<=n
 al:f.al.length<=n
 an:f.an.length<=n
 ca:f.ca.length<=n
def xA{w:J}{rb:Nat}{f0:Addr}{lo:List FX}{D:FX}{st E:Int}{own:List Nat}{O:List I}(h:St w rb f0 lo D st E own O)(C:Small D 1000000):
  ai Y Da #[.pointer (some f0)] w (h6 w own O rb λr ac ap ay au aC az=>ac=f0/\ap=lo/\ay=BM D/\au=st/\aC=E/\∃t∈az,r=ae t.v/\t.rx=eN D):=by
 obtain⟨sl,N,f,p,rfl,rfl,h3,h4,rfl,af,h7,h8,h9,ad⟩:=h;have S:SF (·∈own) w w rb sl st E N f [] O:=by
  have:=St.uI af h7 h8 h9 ad
  grind
 refine Pa.aB _ w _ (S.aG (U:=[]) (λz w1 T=>?_) (by simp));refine(show SF (·∈own) w w1 rb sl st E N f [.g z] O from T).lq (U:=[z]) h3 h4 (λaF s1=>xv (GG s1 C.n' C.ca C.an C.al)) ?_ (by simp);rintro _ L aq e d p2 av aE aA t2 Q G aa ⟨rfl,ag,aj,q,rfl,rfl⟩ B;rw[<-ag,<-aj];have K:((e++[d]).flatMap FM.rows)[e.length *4+(2 - 1)]? =some ((d.aX 2).1,(d.aX 2).2.flatMap I.c):=pw e d 1 _ (r9 d (j:=2) (by omega) (by omega));have am:bx 4 L d.al.1 (d.al.2.flatMap I.c):=by have hP:(En.rows ((e++[d]).flatMap FM.rows)).P L:=B.get 2;exact(hP.1 _ (aD K)).bd
 refine⟨rfl,d.al.1,B.gE 1 rfl G 2,B.aw (Ba 4 _ _ L am) ?_⟩;rintro _ w3 rfl W;refine⟨_,_,_,_,rfl,W.aG (U:=[z]) (λF w4 Z=>Z.ah (U:=[z,F]) (λw5 H5=>?_) (by simp)) (by simp)⟩;refine H5.iw (U:=[z,F]) (f:=d) 1 (d.put 2 (⟨none,0,0⟩,[])) 2 rfl G (by omega) rfl (λw6 H6=>H6.ah (U:=[z,F]) (λw7 H7=>?_) (by simp)) (by simp);have H8:=H7.Ce 2 (e.length *4+(2 - 1)) rfl K;have H9:=H8.Nt 0 4 (s:=d.al.1) (ks:=d.al.2) rfl (by simp[FM.aX]) λt y=>Q d (by simp) t (nP d 2 y);have er:=sG e d (⟨none,0,0⟩,[]) (j:=2) (by omega) (by omega);have e':(([]:List I).flatMap I.c)=[]:=rfl;rw[e']at er;simp only at er;have V:LH (·∈own) w w7 (SL rb aq av aE ((e++[d.put 2 (⟨none,0,0⟩,[])]).flatMap FM.c) ((e++[d.put 2 (⟨none,0,0⟩,[])]).flatMap FM.rows)) [.trees (aA++[fN 4 d.al.1 d.al.2])]:=by rw[<-er];exact H9.take 3
 have ak:∀b∈ax d.al.1,b∈own\/w.heap.size<=b:=λb H=>(B.new (.rows ((e++[d]).flatMap FM.rows)) (by simp) b (aM.2 (bS.2 ⟨_,aD K,H⟩))).symm;have ex:(d.put 2 (⟨none,0,0⟩,[])).x=BM f.x:=by
  have e1:d.k=f.k:=by have:=congrArg FX.k q;exact this
  have e2:(d.ar.1,I.ao d.ar.2)=f.x.ar:=by have:=congrArg FX.ar q;exact this
  have e3:I.ao d.an.2=[]:=by have:=congrArg FX.an q;exact this
  have e4:I.ao d.ca.2=[]:=by have:=congrArg FX.ca q;exact this
  have e5:d.n=0:=by have:=congrArg FX.n q;exact this
  have e6:d.la.rx=f.x.la:=by have:=congrArg FX.la q;exact this
  show FX.mk d.k (d.ar.1,I.ao d.ar.2) (I.ao []) (I.ao d.an.2) (I.ao d.ca.2) d.n d.la.rx=_;rw[e1,e2,e3,e4,e5,e6];rfl
 refine⟨_,_,_,_,_,St.of (O:=O) (f0:=p2.add (e.length *10)) V 0 rfl (λg A t y=>?_) G rfl (EI (w0:=w) (M:=F0) (λb H=>(aa b H).imp id Or.symm) ak λt y=>Q d (by simp) t (nP d 2 y)) (λt y=>bK _ (t2 t y)) ⟨rfl,rfl,ex,rfl,rfl,fN 4 d.al.1 d.al.2,by simp,rfl,?_⟩⟩
 .rcases aY.1 A with A|A
  .grind
  .simp at A;subst A;rcases y5 _ _ (by omega) (by omega) y with h|h
   .grind
   grind
 .rw [Dy];have:=congrArg FX.al q;have ab:I.ao d.al.2=(jY f.x).al:=this;rw[ab];rfl
def oe{p:Addr}{K:Addr->Prop}(h:K p):dM (some p) K:=h
def Vf:g0 Y aba hX (.agg #[.int .i64 0,.slice none 0 0,.slice none 0 0,.slice none 0 0,.slice none 0 0,.int .i64 0,.int .i64 0,.int .u8 0,.int .u8 0,.slice none 0 0]) 10 152:=⟨by kernel_rfl,by kernel_rfl,rfl,by decide,by decide⟩
section
variable {M:Nat->Prop} {w0 w:J} {L D:List En} {U:List Nat} {G:List En} {rb:Nat} {sl:Sl} {st wd:Int} {fs:List FM} {f:FM} {O:List I} {p:Addr}
def _root_.Go.W.LH.tL(H:LH M w0 w L D)(i j:Nat){b:Nat}{vs:List aa}{T:TypeId}{v:aa}{K:J->Prop}(V:L[i]? =some (.c b vs T))(q:∀h,LH M w0 h (L.set i (.c b (vs.set j v) T)) D->K h)(z:j<vs.length)(bp:∀b∈U,En.g b∈L:=by simp):aP w ((ab b).add j) v λk=>kept U w k/\K k:=by
 obtain⟨B,C,E⟩:=H.set (v:=v) i j V z;refine⟨B,C,λd e=>?_,q _ E⟩;have A:d≠b:=by
  rintro rfl;refine nY H V (λn x=>?_) (bp _ e) (by simp[En.ob]);have F:({w with heap:=Array.replicate (n+1) (.map #[] 0)}:J).heap[d]? =some (.cells vs.toArray T (0,0)):=x
  grind
 have y:Fr (·=b) w (w.setCell ((ab b).add j) v):=Fr.set _ _ _ (by rw[iX])
 exact y.cb d (H.own _ (bp _ e)) A
def zo(H:SF M w0 w rb sl st wd fs f G O):sl.n=fs.length+1:=by
 have d:aK w hX 10 sl ((fs++[f]).flatMap FM.c):=H.get 1;have:=d.len;rw[oZ]at this
 grind
def xE(H:SF M w0 w rb sl st wd fs f G O)(h:sl.a=some p)(q:fs.length<=1000000):ai Y yD #[.pointer (some (ab rb))] w λr j=>r=ae (.pointer (some (p.add (fs.length *10))))/\ag w j:=by
 have k:=zo H;have e:aj .i64 (((sl.n:Nat):Int) - 1)=(fs.length:Int):=by rw[aQ _ (by omega)];omega
 have d:SF M w0 w.drew rb sl st wd fs f G O:=H.drew;refine Ej.ok _ w _ (show _ from⟨sl,d.ld 0 0,sl,d.ld 0 0,?_⟩);rw[e,h];exact⟨by omega,by omega,rfl,Fr.drew _ _⟩
def EE(H:SF M w0 w rb sl st wd fs f G O)(k:Int)(lo V:UInt8):SF M w0 w rb sl st wd fs f G (O++[.mk k lo V ⟨none,0,0⟩ []]):=by
 have h:=H.gy (.trees (O++[.mk k lo V ⟨none,0,0⟩ []])) (Fr.refl _ _) (I.ir λt d=>?_) λb j=>.inr (.inr ⟨.trees O,by simp,?_⟩)
 .exact h.forget _ (by simp)
 .rcases aY.1 d with d|d
  .exact I.Ps.mem (H.getD 0) d
  .simp at d;subst d;show I.P w _;unfold I.P I.Ps;exact⟨bx.nil 4 w,trivial⟩
 .obtain ⟨t,d,e⟩:=I.bJ.1 (aM.1 j);rcases aY.1 d with d|d
  .exact aM.2 (I.bJ.2 ⟨t,d,e⟩)
  .simp at d;rw[d]at e;unfold I.fp I.a8 at e;simp[En.bd]at e
def yf{k:Int}{lo V:UInt8}{b:Nat}(h:b∈I.a8 (O++[.mk k lo V ⟨none,0,0⟩ []])):b∈I.a8 O:=by
 obtain⟨t,d,e⟩:=I.bJ.1 h;rcases aY.1 d with d|d
 .exact I.bJ.2 ⟨t,d,e⟩
 .simp at d;rw[d]at e;unfold I.fp I.a8 at e;simp[En.bd]at e
def ZI(H:LH M w0 w L D)(i:Nat){h:List dZ}(V:L[i]? =some (.rows h))(n:Nat):LH M w0 w (L.set i (.rows (h++List.replicate n (⟨none,0,0⟩,[])))) D:=by
 have j:(En.rows h).P w:=H.get i V;have k:(h++List.replicate n ((⟨none,0,0⟩,[]):dZ)).flatMap (λd:dZ=>ax d.1)=h.flatMap λd:dZ=>ax d.1:=by
  rw[dt];have:(List.replicate n ((⟨none,0,0⟩,[]):dZ)).flatMap (λd:dZ=>ax d.1)=[]:=by
   induction n with
   |zero=>rfl
   |succ n x=>rw[List.replicate_succ,cV,x];rfl
  grind
 refine H.gv i _ V (Fr.refl _ _) ⟨λd e=>?_,by rw[k];exact j.2⟩ λb q=>.inl (aM.2 (by have:=aM.1 q;grind));rcases aY.1 e with e|e
 .exact j.1 d e
 .rw [List.eq_of_mem_replicate e];exact aK.nil _ _ _
end
def kQ(k:Int):FX:=⟨k,(⟨none,0,0⟩,[]),[],[],[],0,fq⟩
def iN(k:Int):FM:=⟨k,(⟨none,0,0⟩,[]),(⟨none,0,0⟩,[]),(⟨none,0,0⟩,[]),(⟨none,0,0⟩,[]),0,.mk 0 0 0 ⟨none,0,0⟩ []⟩
def yR{w:J}{rb:Nat}{f0:Addr}{lo:List FX}{e:FX}{st j:Int}{own:List Nat}{O:List I}(h:St w rb f0 lo e st j own O):∃(sl:Sl) (d:List FM) (f:FM) (p:Addr),d.map FM.x=lo/\f.x=e/\(∀g∈d++[f],∀t∈g.O,t∈O)/\sl.a=some p/\f0=p.add (d.length *10)/\SF (·∈own) w w rb sl st j d f [] O:=by
 obtain⟨sl,d,f,p,k,y,z,A,B,C,D,E,F,q⟩:=h;refine⟨sl,d,f,p,k,y,z,A,B,?_⟩;have:=St.uI C D E F q
 grind
def GW{w:J}{rb:Nat}{f0:Addr}{lo:List FX}{B:FX}{st k:Int}{own:List Nat}{O:List I}(h:St w rb f0 lo B st k own O)(hl:lo.length<=1000000)(kind state:Int):
  ai Y Me #[.pointer (some (ab rb)),.int .i64 kind,.int .i64 state] w (h6 w own O rb λr _ Q T S V _=>r=ae (.bool true)/\Q=lo++[B]/\T=kQ kind/\S=state/\V=k):=by
 obtain⟨sl,d,f,p,rfl,rfl,W,Z,rfl,y⟩:=yR h;have hn:=zo y;have aa:d.length<=1000000:=by grind
 refine Ph.ok _ _ _ w _ ⟨sl,y.ld 0 0,y.cN (e:=hX) (sz:=10) (n:=1) (cs:=(iN kind).c) rfl (by decide) λw1 A=>?_⟩;refine A.Gf 1 Vf (src:=⟨some (ab w.heap.size),1,1⟩) (news:=(iN kind).c) rfl (aK.bd (A.get 3)).2.2 rfl (by simp[FM.c,iN,Value.oneCell']) (by grind) λj U D ac ad _=>?_;obtain⟨x,P⟩:∃x,j.a=some x:=by
  cases hs:j.a with
  |none=>grind
  |some x=>grind
 have E:LH (·∈own) w U [.c rb [sl.v,.int .i64 st,.int .i64 k] wR,.row hX 10 j ((d++[f]).flatMap FM.c++(iN kind).c),.rows ((d++[f]).flatMap FM.rows)] [.trees O]:=D.take 3;refine E.st 0 0 rfl (λw3 F=>F.st 0 1 rfl (λC G=>?_));have H:=ZI G 2 rfl 4;have K:SF (·∈own) w C rb j state k (d++[f]) (iN kind) [] O:=by show LH _ _ _ (SL rb j state k ((d++[f]++[iN kind]).flatMap FM.c) ((d++[f]++[iN kind]).flatMap FM.rows)++[]) _;rw[List.append_nil,dt (xs:=d++[f]),dt (xs:=d++[f])];simpa[show(iN kind).rows=[(⟨none,0,0⟩,[]),(⟨none,0,0⟩,[]),(⟨none,0,0⟩,[]),(⟨none,0,0⟩,[])]from rfl]using H
 have L:=EE K 0 0 0;have M:LH (·∈own) w C (SL rb j state k ((d++[f]++[iN kind]).flatMap FM.c) ((d++[f]++[iN kind]).flatMap FM.rows)) [.trees (O++[.mk 0 0 0 ⟨none,0,0⟩ []])]:=L.take 3;refine⟨_,_,_,_,_,St.of (O:=O) (p:=x) (f0:=x.add ((d++[f]).length *10)) M 0 rfl (λg q t z=>?_) P rfl (λb N=>.inl (yf N)) (λt z=>bK _ z) ⟨rfl,?_,rfl,rfl,rfl⟩⟩
 .rcases aY.1 q with q|q
  .grind
  .simp at q;subst q;simp[FM.O,iN]at z
   grind
 .simp
def iF(d:FX)(x:Rx):FX:=⟨d.k,d.ar,d.al,d.an,d.ca,d.n,x⟩
def A7{w:J}{rb:Nat}{f0:Addr}{lo:List FX}{C:FX}{st z:Int}{own:List Nat}{O:List I}(h:St w rb f0 lo C st z own O)(hl:lo.length<=1000000)(t:I)(B:t∈O):
  ai Y Dc #[.pointer (some (ab rb)),t.v] w (h6 w own O rb λr W ac af ad ag _=>r=ae (.bool true)/\W=f0/\ac=lo/\af=iF C t.rx/\ad=3/\ag=z):=by
 obtain⟨sl,d,f,p,rfl,rfl,y,q,rfl,D⟩:=yR h;have aa:d.length<=1000000:=by grind
 refine Pf.aB _ _ _ _ _ w _ (D.aG (U:=[]) (λj w1 E=>E.ah (U:=[j]) (λw2 F=>?_) (by simp)) (by simp));have A:SF (·∈own) w w2 rb sl st z d f [.g j] O:=F;refine A.aw (xE A q aa) ?_;rintro _ w3 rfl G;refine⟨_,rfl,oe ?_⟩;refine G.iw (U:=[j]) (f:=f) 1 ⟨f.k,f.ar,f.al,f.an,f.ca,f.n,.mk t.k f.la.lo f.la.V f.la.s f.la.l⟩ 6 rfl q (by omega) rfl (λw4 H=>?_) (by simp);have Q:((p.add (d.length *10)).add 6).add 1=(p.add (d.length *10)).add 7:=add_add _ 6 1;have S:((p.add (d.length *10)).add 6).add 2=(p.add (d.length *10)).add 8:=add_add _ 6 2;have T:((p.add (d.length *10)).add 6).add 3=(p.add (d.length *10)).add 9:=add_add _ 6 3;rw[Q,S,T];refine H.iw (U:=[j]) (f:=⟨f.k,f.ar,f.al,f.an,f.ca,f.n,.mk t.k f.la.lo f.la.V f.la.s f.la.l⟩) 1 ⟨f.k,f.ar,f.al,f.an,f.ca,f.n,.mk t.k t.lo f.la.V f.la.s f.la.l⟩ 7 rfl q (by omega) rfl (λw5 K=>?_) (by simp);refine K.iw (U:=[j]) (f:=⟨f.k,f.ar,f.al,f.an,f.ca,f.n,.mk t.k t.lo f.la.V f.la.s f.la.l⟩) 1 ⟨f.k,f.ar,f.al,f.an,f.ca,f.n,.mk t.k t.lo t.V f.la.s f.la.l⟩ 8 rfl q (by omega) rfl (λw6 L=>?_) (by simp);refine L.iw (U:=[j]) (f:=⟨f.k,f.ar,f.al,f.an,f.ca,f.n,.mk t.k t.lo t.V f.la.s f.la.l⟩) 1 ⟨f.k,f.ar,f.al,f.an,f.ca,f.n,t⟩ 9 rfl q (by omega) rfl (λw7 M=>?_) (by simp);refine M.tL (U:=[j]) 0 1 rfl (λw8 N=>?_) (by simp) (by simp);have er:(d++[f]).flatMap FM.rows=(d++[(⟨f.k,f.ar,f.al,f.an,f.ca,f.n,t⟩:FM)]).flatMap FM.rows:=by simp[FM.rows]
 have P:LH (·∈own) w w8 (SL rb sl 3 z ((d++[(⟨f.k,f.ar,f.al,f.an,f.ca,f.n,t⟩:FM)]).flatMap FM.c) ((d++[(⟨f.k,f.ar,f.al,f.an,f.ca,f.n,t⟩:FM)]).flatMap FM.rows)) [.trees O]:=by rw[<-er];exact N.take 3
 refine⟨_,_,_,_,_,St.of (O:=O) (f0:=p.add (d.length *10)) P 0 rfl (λg x u e=>?_) q rfl (λb Z=>.inl Z) (λt B=>B) ⟨rfl,rfl,rfl,rfl,rfl,rfl⟩⟩;rcases aY.1 x with x|x
 .grind
 .simp at x;subst x;simp only[FM.O,aY,au,aO,aR]at e;rcases e with(((e|e)|e)|e)|rfl
  .exact y f (by simp) u (by simp[FM.O,e])
  .exact y f (by simp) u (by simp[FM.O,e])
  .exact y f (by simp) u (by simp[FM.O,e])
  .exact y f (by simp) u (by simp[FM.O,e])
  omega
structure Tk where
 k:UInt8
 lo:UInt8
 V:UInt8
 s:List UInt8
 a:Int
abbrev Tk.v(t:Tk):aa:=.agg #[.int .u8 (t.k.toNat:Int),.int .u8 (t.lo.toNat:Int),.int .u8 (t.V.toNat:Int),.string (ba t.s),.int .i64 t.a]
structure SX where
 lo:List FX
 tp:FX
 st:Int
 wd:Int
def zV:List UInt8:=[110,111,110,101]
def zU:List UInt8:=[101,109,112,116,121]
def zS:List UInt8:=[97,108,116]
def zR:List UInt8:=[97,108,108]
def zT:List UInt8:=[99,97,116]
def fD(t:Tk)(s:SX):Option SX:=
 if t.k=33 then some ⟨s.lo,⟨s.tp.k,s.tp.ar,s.tp.al,s.tp.an,s.tp.ca,s.tp.n+1,s.tp.la⟩,0,s.wd⟩
 else if t.k=40 then some ⟨s.lo++[s.tp],kQ (-1),0,s.wd⟩
 else if t.k=114 then some ⟨s.lo,iF s.tp (.mk 2 t.lo t.V []),3,s.wd⟩
 else if t.k=119 then
  if t.s=zV then some ⟨s.lo,iF s.tp (.mk 0 0 0 []),3,s.wd⟩
  else if t.s=zU then some ⟨s.lo,iF s.tp (.mk 1 0 0 []),3,s.wd⟩
  else if t.s=zS then some ⟨s.lo,s.tp,2,4⟩
  else if t.s=zR then some ⟨s.lo,s.tp,2,5⟩
  else if t.s=zT then some ⟨s.lo,s.tp,2,3⟩
  else none
 else none
def xj(o:Option SX):ch->Addr->List FX->FX->Int->Int->List I->Prop:=λr _ lo d st e _=>(o=none/\r=ae (.bool false))\/(o=some ⟨lo,d,st,e⟩/\r=ae (.bool true))
section
variable {w w':J} {own:List Nat} {G:List En} {rb:Nat} {sl:Sl} {st wd:Int} {fs:List FM} {f:FM} {O wQ:List I} {p:Addr}
def g8{Q:ch->Addr->List FX->FX->Int->Int->List I->Prop}{r:ch}(H:SF (·∈own) w w' rb sl st wd fs f G wQ)(e:∀g∈fs++[f],∀t∈g.O,t∈wQ)(j:sl.a=some p)(h:∀b∈I.a8 wQ,b∈I.a8 O\/w.heap.size<=b\/b∈own)(k:∀t∈O,t∈wQ)(q:Q r (p.add (fs.length *10)) (fs.map FM.x) f.x st wd wQ):h6 w own O rb Q r w':=
 ⟨_,_,_,_,_,St.of (O:=O) (f0:=p.add (fs.length *10)) (H.take 3) 0 rfl e j rfl (λb d=>(h b d).imp id Or.symm) k q⟩
end
def aa0(s:List UInt8):(ba s).toList=s:=by rw[ByteArray.toList_eq];rfl
def aa1(a:Array UInt8):(ByteArray.mk a).toList=a.toList:=by rw[ByteArray.toList_eq]
def wF{s:List UInt8}{a:Array UInt8}{A B:Prop}(e:s=a.toList->A)(h:s≠a.toList->B):bh ((ba s).toList==(ByteArray.mk a).toList) A B:=by rw[aa0,aa1];exact bB (λd=>e (by grind)) (λd=>h (by grind))
def jj{x:UInt8}{n:Nat}{A B:Prop}(k:n<256)(h:x=cE n->A)(j:x≠cE n->B):bh (((x.toNat:Nat):Int)==(n:Int)) A B:=by
 have d:∀x:UInt8,x.toNat=n↔x=cE n:=λx=>by rw[<-UInt8.toNat_inj,UInt8.toNat_ofNat'];omega
 exact bB (λe=>h ((d x).1 (by grind))) (λe=>j λq=>by grind)
def Ub{w:J}{rb:Nat}{f0:Addr}{lo:List FX}{Q:FX}{st j:Int}{own:List Nat}{O:List I}(h:St w rb f0 lo Q st j own O)(Z:lo.length<=1000000)(hn:Q.n<=1000000)(t:Tk):
  ai Y Df #[.pointer (some (ab rb)),t.v] w (h6 w own O rb (xj (fD t ⟨lo,Q,st,j⟩))):=by
 obtain⟨sl,d,f,p,rfl,rfl,C,y,rfl,ad⟩:=yR h;have ah:d.length<=1000000:=by grind
 have ay:f.n<=1000000:=hn;have base:∀b∈I.a8 O,b∈I.a8 O\/w.heap.size<=b\/b∈own:=λb hb=>.inl hb;refine Ei.aB _ _ _ _ _ _ w _ (ad.aG (U:=[]) (λe w1 z=>?_) (by simp));have z:SF (·∈own) w w1 rb sl st j d f [.g e] O:=z;have leaf:∀(k:Int) (a b:UInt8) {A:J} {aa S:Int},SF (·∈own) w A rb sl aa S d f [.g e] O->fD t ⟨d.map FM.x,f.x,st,j⟩=some ⟨d.map FM.x,iF f.x (.mk k a b []),3,S⟩->
   ee [e] Y Dc #[.pointer (some (ab rb)),.agg #[.i k,.int .u8 (a.toNat:Int),.int .u8 (b.toNat:Int),.slice none 0 0]] A λr_ w6=>∃t32:Bool,r_=ae (.bool t32)/\h6 w own O rb (xj (fD t ⟨d.map FM.x,f.x,st,j⟩)) (ae (.bool t32)) w6:=by
  intro k a b A aa S q M;have D:=EE q k a b;refine D.lq (U:=[e]) (λg B u E=>bK _ (C g B u E)) y (λak N=>A7 N Z (.mk k a b ⟨none,0,0⟩ []) (by simp)) ?_ (by simp);rintro _ G am ag f3 p3 ao au ap P K L H ⟨rfl,ax,T,W,rfl,rfl⟩ F;refine⟨true,rfl,g8 F K L (λav hx=>?_) (λu E=>P u (bK _ E)) (.inr ⟨?_,rfl⟩)⟩
  .rcases H av hx with h|h
   .exact .inl (yf h)
   grind
  .rw [M,T,W];rfl
 refine jj (n:=33) (by omega) (λhk:t.k=33=>z.aw (xE z y ah) ?_) (λaC:t.k≠33=>jj (n:=40) (by omega) (λhk:t.k=40=>?_) (λaD:t.k≠40=>jj (n:=114) (by omega) (λhk:t.k=114=>?_) (λaz:t.k≠114=>jj (n:=119) (by omega) (λhk:t.k=119=>?_) (λaA:t.k≠119=>?_))))
 .rintro _ A rfl q;refine⟨_,rfl,oe ⟨_,q.gE 1 rfl y 5,oe ?_⟩⟩;have af:aj .i64 ((f.n:Int)+1)=((f.n+1:Nat):Int):=by rw[aQ _ (by omega)];omega
  rw[af];refine q.iw (U:=[e]) (f:=f) 1 ⟨f.k,f.ar,f.al,f.an,f.ca,f.n+1,f.la⟩ 5 rfl y (by omega) rfl (λG D=>?_) (by simp);refine D.tL (U:=[e]) 0 1 rfl (λw4 F=>?_) (by simp) (by simp);have er:(d++[f]).flatMap FM.rows=(d++[(⟨f.k,f.ar,f.al,f.an,f.ca,f.n+1,f.la⟩:FM)]).flatMap FM.rows:=by simp[FM.rows]
  have H5:SF (·∈own) w w4 rb sl 0 j d ⟨f.k,f.ar,f.al,f.an,f.ca,f.n+1,f.la⟩ [.g e] O:=by grind
  refine g8 H5 (λg B u E=>?_) y base (λ_ h=>h) (.inr ⟨?_,rfl⟩)
  .rcases aY.1 B with B|B
   .grind
   .simp at B;subst B;exact C f (by simp) u E
  .unfold fD;rw[aq hk];rfl
 .refine z.lq (U:=[e]) C y (λak N=>GW N Z (-1) 0) ?_ (by simp);rintro _ G am ag f3 p3 ao au ap P K L H ⟨rfl,T,W,rfl,rfl⟩ F;refine⟨true,rfl,g8 F K L H P (.inr ⟨?_,rfl⟩)⟩;unfold fD
  grind
 .exact leaf 2 t.lo t.V z (by unfold fD;grind)
 .refine z.tL (U:=[e]) 0 1 rfl (λA q=>?_) (by simp) (by simp);have q:SF (·∈own) w A rb sl 2 j d f [.g e] O:=q;have ei:fD t ⟨d.map FM.x,f.x,st,j⟩=if t.s=zV then some ⟨d.map FM.x,iF f.x (.mk 0 0 0 []),3,j⟩else if t.s=zU then some ⟨d.map FM.x,iF f.x (.mk 1 0 0 []),3,j⟩else if t.s=zS then some ⟨d.map FM.x,f.x,2,4⟩else if t.s=zR then some ⟨d.map FM.x,f.x,2,5⟩else if t.s=zT then some ⟨d.map FM.x,f.x,2,3⟩else none:=by
   unfold fD
   grind
  have word:∀(k:Int),fD t ⟨d.map FM.x,f.x,st,j⟩=some ⟨d.map FM.x,f.x,2,k⟩->aP A ((ab rb).add 2) (.i k) λac=>kept [e] A ac/\Ei.bn ac (h6 w own O rb (xj (fD t ⟨d.map FM.x,f.x,st,j⟩))):=λk M=>
   q.tL (U:=[e]) 0 2 rfl (λG D=>g8 (show SF (·∈own) w G rb sl 2 k d f [.g e] O from D) C y base (λ_ h=>h) (.inr ⟨M,rfl⟩)) (by simp) (by simp)
  refine wF (λh1:t.s=zV=>leaf 0 0 0 q (by grind)) (λn1:t.s≠zV=>wF (λh1:t.s=zU=>leaf 1 0 0 q (by grind)) (λn2:t.s≠zU=>wF (λh1:t.s=zS=>word 4 (by grind)) (λn3:t.s≠zS=>wF (λh1:t.s=zR=>word 5 (by grind)) (λn4:t.s≠zR=>wF (λh1:t.s=zT=>word 3 (by grind)) (λn5:t.s≠zT=>?_)))));exact g8 q C y base (λ_ h=>h) (.inl ⟨by grind,rfl⟩)
 .exact g8 z C y base (λ_ h=>h) (.inl ⟨by unfold fD;grind,rfl⟩)
def Yv{w:J}{e:TypeId}{sz:Nat}{s:Sl}{xs:List aa}{p:Addr}(h:aK w e sz s xs)(z:s.a=some p)(n:Nat)(d:n<=s.n):aK w e sz ⟨s.a,n,s.c⟩ (xs.take (n *sz)):=by
 have B:=h.len;rcases h.cases with⟨rfl,_⟩|⟨g,cur,x,y,j,k,q,A⟩
 .cases z
 .have C:n *sz<=s.n *sz:=Nat.mul_le_mul_right _ d;refine⟨by grind,.inr ⟨g,s.c,cur,by rw[x],Nat.zero_le _,y,a6 d j,k,q,?_⟩⟩
  grind
section
variable {M:Nat->Prop} {w0 w:J} {L D A:List En} {U:List Nat} {G:List En} {rb:Nat} {O:List I}
def PA(H:LH M w0 w L D)(i:Nat){d j:List dZ}(V:L[i]? =some (.rows (d++j))):LH M w0 w (L.set i (.rows d)) D:=by have e:(En.rows (d++j)).P w:=H.get i V;have h:=e.2;rw[dt,gT]at h;refine H.gv i _ V (Fr.refl _ _) ⟨λx q=>e.1 x (bK _ q),h.1⟩ λb k=>.inl (aM.2 ?_);rw[dt];exact bK _ (aM.1 k)
def W'(H:LH M w0 w (A++G) [.trees O]):LH (·∈A.flatMap (·.fp)) w w A [.trees O]:=by have j:=H.nd;rw[dt,gT]at j;refine LH.tK _ _ (λe d=>⟨H.own e (bK _ d),λb h=>bS.2 ⟨e,d,h⟩⟩) j.1 λe d=>?_;simp only[au,aO,aR]at d;subst d;exact⟨H.getD 0,λb h k x q=>H.dj (.trees O) (by simp) b h k (bK _ x) q⟩
def W7(H:LH M w0 w (A++G) [.trees O]){w':J}{P:Addr}{S:List FX}{V:FX}{U W:Int}{N:List Nat}{k:List I}(s:St w' rb P S V U W N k)(Q:Fr (·∈A.flatMap (·.fp)) w w')(o:∀z∈N,z∈A.flatMap (·.fp)\/w.heap.size<=z)(h:∀b∈I.a8 k,b∈I.a8 O\/b∈A.flatMap (·.fp)\/w.heap.size<=b):
  ∃(F:Sl) (j:List FM) (q:FM) (E:Addr),j.map FM.x=S/\q.x=V/\(∀g∈j++[q],∀t∈g.O,t∈k)/\F.a=some E/\P=E.add (j.length *10)/\(∀b∈I.a8 k,b∈I.a8 O\/w0.heap.size<=b\/M b)/\SF M w0 w' rb F U W j q G k:=by
 obtain⟨F,j,q,E,h1,h2,h3,h4,h5,h6,h7,h8,h9,af⟩:=s;have L:=H.nd;rw[dt,gT]at L;have T:∀b∈A.flatMap (·.fp),w0.heap.size<=b\/M b:=λb h=>by obtain⟨e,d,C⟩:=bS.1 h;exact H.new e (bK _ d) b C
 have ae:∀e∈G,∀b∈e.fp,b<w.heap.size:=λe d b h=>e.lt w (H.own e (dV _ d)) b h;have aa:∀e∈G,∀b∈e.fp,b∉A.flatMap (·.fp):=λe d b h K=>L.2.2 b K b (bS.2 ⟨e,d,h⟩) rfl;have ac:=H.fr.size;have ag:∀b∈N,w0.heap.size<=b\/M b:=λb h=>(o b h).elim (T b) λy=>.inl (a6 ac y);refine⟨F,j,q,E,h1,h2,h3,h4,h5,λb B=>?_,H.fr.trans Q λz hx K=>(T z K).resolve_left (by omega),λe d=>?_,λe d=>?_,λe d b B=>?_,?_,λe d b B Z D C=>?_⟩
 .grind
 .rcases aY.1 d with d|d
  .grind
  .exact e.st w w' (λb h hl=>Q.cb b hl (aa e d b h)) (H.own e (dV _ d))
 .simp at d;subst d;exact h9
 .rcases aY.1 d with d|d
  .grind
  .exact H.new e (dV _ d) b B
 .rw [dt,gT];refine⟨h6▸h7,L.2.1,λz hx ah hy ad=>?_⟩;subst ad;obtain⟨e,d,C⟩:=bS.1 hy
  grind
 .simp at d;subst d;have ab:b∈I.a8 k:=aM.1 B;rcases aY.1 D with D|D
  .grind
  .rcases h b ab with y|y|y
   .exact H.dj (.trees O) (by simp) b (aM.2 y) Z (dV _ D) C
   .grind
   grind
def _root_.Go.W.LH.UZ(H:LH M w0 w (A++G) [.trees O]){g:cB}{args:Array aa}{K:aH}{Q:ch->Addr->List FX->FX->Int->Int->List I->Prop}(E:∀own,LH (·∈own) w w A [.trees O]->ai Y g args w (h6 w own O rb Q))(T:∀r y (k:Sl) (e:List FM) (h:FM) (j:Addr) (q z:Int) (d:List I),(∀t∈O,t∈d)->(∀g∈e++[h],∀t∈g.O,t∈d)->k.a=some j->(∀b∈I.a8 d,b∈I.a8 O\/w0.heap.size<=b\/M b)->Q r (j.add (e.length *10)) (e.map FM.x) h.x q z d->SF M w0 y rb k q z e h G d->K r y)(bp:∀b∈U,En.g b∈G:=by simp):ee U Y g args w K:=by
 have B:=H.nd;rw[dt,gT]at B;refine⟨(·∈A.flatMap (·.fp)),λb D F=>?_,(E _ (W' H)).mono ?_⟩
 .exact B.2.2 b F b (bS.2 ⟨_,bp b D,by simp[En.g]⟩) rfl
 .rintro r y ⟨N,Z,ad,q,z,ab,d,s,C,o,b,t,ac⟩;obtain⟨k,e,h,j,rfl,rfl,P,V,rfl,S,L⟩:=W7 H s C o b
  grind
def W9(H:LH M w0 w L [.trees O])(T:I)(h:T∈O)(k:Int)(lo V:UInt8):LH M w0 w L [.trees (O++[.mk k lo V T.s T.l])]:=by
 have j:I.Ps w O:=H.getD 0;have q:=H.gy (.trees (O++[.mk k lo V T.s T.l])) (Fr.refl _ _) (I.ir λt d=>?_) λb x=>.inr (.inr ⟨.trees O,by simp,?_⟩)
 .exact q.forget _ (by simp)
 .rcases aY.1 d with d|d
  .exact j.mem d
  .simp at d;subst d;unfold I.P;exact(j.mem h).parts
 .obtain ⟨t,d,e⟩:=I.bJ.1 (aM.1 x);rcases aY.1 d with d|d
  .exact aM.2 (I.bJ.2 ⟨t,d,e⟩)
  .simp at d;rw[d]at e;exact aM.2 (I.bJ.2 ⟨T,h,I.gh.2 ((I.gh (t:=.mk k lo V T.s T.l)).1 e)⟩)
def Xf{T:I}(j:T∈O){k:Int}{lo V:UInt8}{b:Nat}(h:b∈I.a8 (O++[.mk k lo V T.s T.l])):b∈I.a8 O:=by
 obtain⟨t,d,e⟩:=I.bJ.1 h;rcases aY.1 d with d|d
 .exact I.bJ.2 ⟨t,d,e⟩
 .simp at d;rw[d]at e;exact I.bJ.2 ⟨T,j,I.gh.2 ((I.gh (t:=.mk k lo V T.s T.l)).1 e)⟩
def W8(H:LH M w0 w L [.trees O])(T:I)(e:T∈O):LH M w0 w L [.trees (O++T.l)]:=by
 have j:I.Ps w O:=H.getD 0;have k:=H.gy (.trees (O++T.l)) (Fr.refl _ _) (I.ir λt d=>?_) λb q=>.inr (.inr ⟨.trees O,by simp,?_⟩)
 .exact k.forget _ (by simp)
 .rcases aY.1 d with d|d
  .exact j.mem d
  .exact (j.mem e).parts.2.mem d
 .obtain ⟨t,d,h⟩:=I.bJ.1 (aM.1 q);rcases aY.1 d with d|d
  .exact aM.2 (I.bJ.2 ⟨t,d,h⟩)
  .exact aM.2 (I.bJ.2 ⟨T,e,I.gh.2 (.inr (I.bJ.2 ⟨t,d,h⟩))⟩)
def WG{T:I}(j:T∈O){b:Nat}(h:b∈I.a8 (O++T.l)):b∈I.a8 O:=by
 obtain⟨t,d,e⟩:=I.bJ.1 h;rcases aY.1 d with d|d
 .exact I.bJ.2 ⟨t,d,e⟩
 .exact I.bJ.2 ⟨T,j,I.gh.2 (.inr (I.bJ.2 ⟨t,d,e⟩))⟩
end
def Uv{w:J}{rb:Nat}{sl:Sl}{p:Addr}{n:Nat}(h:w.cell? ((ab rb).add 0)=some sl.v)(q:sl.n=n+1)(j:sl.a=some p)(x:n<=1000000):ai Y yD #[.pointer (some (ab rb))] w λr k=>r=ae (.pointer (some (p.add (n *10))))/\ag w k:=by
 have e:aj .i64 (((sl.n:Nat):Int) - 1)=(n:Int):=by rw[aQ _ (by omega)];omega
 have d:w.drew.cell? ((ab rb).add 0)=some sl.v:=h;refine Ej.ok _ w _ (show _ from⟨sl,d,sl,d,?_⟩);rw[e,j];exact⟨by omega,by omega,rfl,Fr.drew _ _⟩
def mc(k:Int)(l:List Rx):Rx:=if k<0 then l.headD fq else .mk k 0 0 l
def TZ{w:J}{rb:Nat}{sl:Sl}{st A:Int}{d:List FM}{g f:FM}{O:List I}{p:Addr}{own:List Nat}(H:LH (·∈own) w w [.c rb [sl.v,.int .i64 st,.int .i64 A] wR,.row hX 10 sl (((d++[g])++[f]).flatMap FM.c),.rows ((d++[g]).flatMap FM.rows)] [.trees O])(h3:∀B∈d++[g],∀t∈B.O,t∈O)(h:sl.a=some p)(hl:d.length<=999999)(T:I)(q:T∈O)(hk:0<=f.k\/T.l≠[]):
  ai Y Dd #[.pointer (some (ab rb)),T.s.v] w (h6 w own O rb λr _ ak ar an av _=>r=ae (.bool true)/\ak=d.map FM.x/\ar=iF g.x (mc f.k (I.ao T.l))/\an=3/\av=A):=by
 have hn:sl.n=(d++[g]).length+1:=by
  have z:aK w hX 10 sl (((d++[g])++[f]).flatMap FM.c):=H.get 1;have:=z.len;rw[oZ]at this
  grind
 have ax:1<=sl.c:=by have z:aK w hX 10 sl (((d++[g])++[f]).flatMap FM.c):=H.get 1;have:=z.cap;omega
 refine Pg.ok _ _ w _ (H.call (Uv (H.ld 0 0) hn h (by grind)) ?_);rintro _ w1 rfl Z;refine⟨_,rfl,oe ⟨_,Z.gE 1 rfl h 0,?_⟩⟩;have C:=Z.drew;refine⟨sl,C.ld 0 0,sl,C.ld 0 0,?_⟩;have ac:aj .i64 (((sl.n:Nat):Int) - 1)=(((d++[g]).length:Nat):Int):=by rw[aQ _ (by grind)];omega
 rw[ac];have z:aK w hX 10 sl (((d++[g])++[f]).flatMap FM.c):=H.get 1;have az:=z.cap;refine⟨by omega,by omega,?_⟩;have ev:Value.slice (if sl.c=0 then sl.a else sl.a.map (·.add (0 *10))) ((aV (((d++[g]).length:Nat):Int)) - 0) (sl.c - 0)=(⟨sl.a,(d++[g]).length,sl.c⟩:Sl).v:=by rw[af (by omega),h];show Value.slice (some (p.add 0)) _ _=Value.slice (some p) _ _;rw[iW];simp
 rw[ev];refine C.st 0 0 rfl λj H3=>?_;have ah:aK j hX 10 sl (((d++[g])++[f]).flatMap FM.c):=H3.get 1;have aa:=Yv ah h (d++[g]).length (by omega);have et:(((d++[g])++[f]).flatMap FM.c).take ((d++[g]).length *10)=(d++[g]).flatMap FM.c:=by rw[dt,<-oZ,List.take_left'];rfl
 rw[et]at aa;have H4:=H3.gv 1 (.row hX 10 ⟨sl.a,(d++[g]).length,sl.c⟩ ((d++[g]).flatMap FM.c)) rfl (Fr.refl _ _) aa λb y=>.inl y;have D:SF (·∈own) w j rb ⟨sl.a,(d++[g]).length,sl.c⟩ st A d g [] O:=by grind
 refine bB (λK=>?_) (λK=>?_)
 .have Q:f.k<0:=eH K;have ag:T.l≠[]:=hk.resolve_left (by omega);obtain⟨B,l,hx⟩:=List.exists_cons_of_ne_nil ag;have hr:bx 4 j T.s (T.l.flatMap I.c):=((show I.Ps j O from D.getD 0).mem q).parts.1;have ay:=I.cr hr;refine⟨by omega,by grind,I.dd hr (i:=0) (t:=B) (by grind) λaA hq c=>⟨_,_,_,_,c.c0,c.c1,c.c2,c.c3,?_⟩⟩;have E:=W8 D T q;refine(show SF (·∈own) w j rb ⟨sl.a,(d++[g]).length,sl.c⟩ st A d g [] (O++T.l)from E).xJ (λW S t e=>bK _ (h3 W S t e)) h (λal U=>A7 U (by grind) B (by grind)) ?_;rintro _ w4 am ad f4 p4 ap aw au V L M G ⟨rfl,_,N,P,rfl,rfl⟩ F;refine⟨true,rfl,g8 F L M (λb y=>(G b y).imp (WG q) id) (λt e=>V t (bK _ e)) ⟨rfl,N,?_,rfl,rfl⟩⟩;rw[P,hx];unfold mc;rw[aq Q];rfl
 .have Q:¬f.k<0:=hZ K;have E:=W9 D T q f.k 0 0;refine(show SF (·∈own) w j rb ⟨sl.a,(d++[g]).length,sl.c⟩ st A d g [] (O++[.mk f.k 0 0 T.s T.l])from E).xJ (λW S t e=>bK _ (h3 W S t e)) h (λal U=>A7 U (by grind) (.mk f.k 0 0 T.s T.l) (by simp)) ?_;rintro _ w4 am ad f4 p4 ap aw au V L M G ⟨rfl,_,N,P,rfl,rfl⟩ F;refine⟨true,rfl,g8 F L M (λb y=>(G b y).imp (Xf q) id) (λt e=>V t (bK _ e)) ⟨rfl,N,?_,rfl,rfl⟩⟩;rw[P];unfold mc;rw[af Q];rfl
def ln(s:SX)(l:List Rx):Option SX:=match s.lo.getLast? with
 |none=>none
 |some g=>some ⟨s.lo.dropLast,iF g (mc s.tp.k l),3,s.wd⟩
def Gi(s':Sl)(f:FX):FX:=⟨f.k,(s',f.ar.2++[eN f]),[],[],[],0,f.la⟩
def fC(s':Sl)(t:Tk)(s:SX):Option SX:=
 if s.st=2 then(if t.k=40 then some ⟨s.lo++[s.tp],kQ s.wd,1,s.wd⟩else none)
 else if s.st=1 then(if t.k=41 then ln s []else fD t s)
 else if s.st=0 then fD t s
 else if t.k=42 then some ⟨s.lo,iF s.tp (.mk 7 0 0 [s.tp.la]),s.st,s.wd⟩
 else if t.k=38 then some ⟨s.lo,jZ s.tp,0,s.wd⟩
 else if t.k=124 then some ⟨s.lo,jY s.tp,0,s.wd⟩
 else if t.k=44 then(if s.tp.k<0 then none else some ⟨s.lo,Gi s' s.tp,0,s.wd⟩)
 else if t.k=41 then(if s.lo=[]then none else ln s (s.tp.ar.2++[eN s.tp]))
 else if t.k=36 then(if s.lo=[]then some s else none)
 else fD t ⟨s.lo,kJ s.tp,s.st,s.wd⟩
section
variable {M:Nat->Prop} {w0 w1:J} {U:List Nat} {G:List En} {rb:Nat} {sl:Sl} {st wd:Int} {fs:List FM} {f:FM} {O:List I} {p:Addr}
abbrev FT(M:Nat->Prop)(w0 w:J)(rb:Nat)(sl:Sl)(st wd:Int)(fs:List FM)(f:FM)(d:List dZ)(G:List En)(O:List I):Prop:=LH M w0 w (SL rb sl st wd ((fs++[f]).flatMap FM.c) d++G) [.trees O]
def Oi(H:SF M w0 w1 rb sl st wd fs f G O)(i:Nat){src:Sl}(V:(SL rb sl st wd ((fs++[f]).flatMap FM.c) ((fs++[f]).flatMap FM.rows)++G)[i]? =some (.row aT 4 src z4))(F:sl.a=some p)(d:Nat)(C:1<=d)(D:d<=4)(t:I)(Z:(f.aX d).2.length<=1000000)(ah:src.n=1){K:J->Prop}(hK:∀e q,SF M w0 q rb sl st wd fs (f.put d (e,(f.aX d).2++[t])) G O->K q)(bp:∀b∈U,En.g b∈G:=by simp):
  ∃(t15:Sl) (j:J),(dY #[iy,iy] iy #[(f.aX d).1.v,src.v]).run Y w1=.ok (t15.v) j/\kept U w1 j/\(0:Int)<=(((f.aX d).1.n:Nat):Int)/\(((f.aX d).1.n:Nat):Int)<((t15.n:Nat):Int)/\dM t15.a λh=>
   ((aP j (h.add (aV (((f.aX d).1.n:Nat):Int) *4)) (.int .i64 t.k) λw=>kept U j w/\aP w ((h.add (aV (((f.aX d).1.n:Nat):Int) *4)).add 1) (.int .u8 (t.lo.toNat:Int)) λx=>kept U w x/\aP x ((h.add (aV (((f.aX d).1.n:Nat):Int) *4)).add 2) (.int .u8 (t.V.toNat:Int)) λy=>kept U x y/\aP y ((h.add (aV (((f.aX d).1.n:Nat):Int) *4)).add 3) t.s.v λA=>kept U y A/\aP A ((p.add (fs.length *10)).add d) t15.v λac=>kept U A ac/\K ac)/\
   (aP j ((p.add (fs.length *10)).add d) t15.v λS=>kept U j S/\aP S (h.add (aV (((f.aX d).1.n:Nat):Int) *4)) (.int .i64 t.k) λw=>kept U S w/\aP w ((h.add (aV (((f.aX d).1.n:Nat):Int) *4)).add 1) (.int .u8 (t.lo.toNat:Int)) λx=>kept U w x/\aP x ((h.add (aV (((f.aX d).1.n:Nat):Int) *4)).add 2) (.int .u8 (t.V.toNat:Int)) λy=>kept U x y/\aP y ((h.add (aV (((f.aX d).1.n:Nat):Int) *4)).add 3) t.s.v λA=>kept U y A/\K A)):=by
 have ab:((fs++[f]).flatMap FM.rows)[fs.length *4+(d - 1)]? =some ((f.aX d).1,(f.aX d).2.flatMap I.c):=pw fs f (d - 1) _ (r9 f C D);have nr:(f.aX d).1.n=(f.aX d).2.length:=by have F:(En.rows ((fs++[f]).flatMap FM.rows)).P w1:=H.get 2;exact I.cr (F.1 _ (aD ab)).bd
 have E:∀{L:List En},∀b∈U,En.g b∈L++G:=λb Z=>dV _ (bp b Z);obtain⟨e,j,h1,ad,h3⟩:=H.xp (U:=U) (ty:=iy) 2 (fs.length *4+(d - 1)) (src:=src) (news:=z4) (K:=λe q=>FT M w0 q rb sl st wd fs f (((fs++[f]).flatMap FM.rows).set (fs.length *4+(d - 1)) (e,(f.aX d).2.flatMap I.c++z4)) G O/\e.n=(f.aX d).1.n+1/\∃h,e.a=some h) rfl ab (aK.bd (H.get i V)) (by simp[Value.oneCell']) (by omega) (λe w4 H4 ae ag=>⟨H4,by omega,by
  cases hs:e.a with
  |none=>grind
  |some h=>grind⟩) E
 obtain⟨T,af,h,N⟩:=h3;refine⟨e,j,h1,ad,by omega,by omega,?_⟩;rw[N];have aa:fs.length *4+(d - 1)<((fs++[f]).flatMap FM.rows).length:=by grind
 have W:∀(f:FM) (t:I) (d:Nat),(f.aX d).2.flatMap I.c++t.c=((f.aX d).2++[t]).flatMap I.c:=λf t d=>by simp
 rw[nr];refine⟨?_,?_⟩
 .refine LH.td (U:=U) T 2 (fs.length *4+(d - 1)) (f.aX d).2.length t rfl (jF aa) N (I.eW _) (λq z=>?_) E;have z:FT M w0 q rb sl st wd fs f ((((fs++[f]).flatMap FM.rows).set (fs.length *4+(d - 1)) (e,(f.aX d).2.flatMap I.c++z4)).set (fs.length *4+(d - 1)) (e,(f.aX d).2.flatMap I.c++t.c)) G O:=z;rw[List.set_set,W,sG fs f (e,(f.aX d).2++[t]) C D]at z;exact z.iw (U:=U) (f:=f) 1 (f.put d (e,(f.aX d).2++[t])) d rfl F (by omega) (v7 f (e,(f.aX d).2++[t]) C D) (λQ B=>hK e Q B) E
 .refine T.iw (U:=U) (f:=f) 1 (f.put d (e,(f.aX d).2++[t])) d rfl F (by omega) (v7 f (e,(f.aX d).2++[t]) C D) (λq z=>?_) E;refine LH.td (U:=U) (L:=SL rb sl st wd ((fs++[f.put d (e,(f.aX d).2++[t])]).flatMap FM.c) (((fs++[f]).flatMap FM.rows).set (fs.length *4+(d - 1)) (e,(f.aX d).2.flatMap I.c++z4))++G) z 2 (fs.length *4+(d - 1)) (f.aX d).2.length t rfl (jF aa) N (I.eW _) (λQ B=>?_) E;have B:LH M w0 Q (SL rb sl st wd ((fs++[f.put d (e,(f.aX d).2++[t])]).flatMap FM.c) ((((fs++[f]).flatMap FM.rows).set (fs.length *4+(d - 1)) (e,(f.aX d).2.flatMap I.c++z4)).set (fs.length *4+(d - 1)) (e,(f.aX d).2.flatMap I.c++t.c))++G) [.trees O]:=B;rw[List.set_set,W,sG fs f (e,(f.aX d).2++[t]) C D]at B
  grind
end
def qL{α:Type}(l:List α):l=[]\/∃a d,l=a++[d]:=by
 rcases List.eq_nil_or_concat l with e|⟨a,d,e⟩
 .grind
 grind
def Hj(lo:List FX)(g d:FX)(st e:Int)(l:List Rx):ln ⟨lo++[g],d,st,e⟩ l=some ⟨lo,iF g (mc d.k l),3,e⟩:=by unfold ln;simp
def rF(t:Tk)(S:SX):ch->Addr->List FX->FX->Int->Int->List I->Prop:=λr d lo h st k j=>∃e,xj (fC e t S) r d lo h st k j
def T1{w:J}{rb:Nat}{f0:Addr}{lo:List FX}{tp:FX}{st y:Int}{own:List Nat}{O:List I}(h:St w rb f0 lo tp st y own O)(hl:lo.length<=999999)(hs:Small tp 999999)(h1:st=1->0<=tp.k/\lo≠[])(t:Tk):
  ai Y De #[.pointer (some (ab rb)),t.v] w (h6 w own O rb (rF t ⟨lo,tp,st,y⟩)):=by
 obtain⟨sl,j,f,p,rfl,rfl,N,D,rfl,bu⟩:=yR h;have b6:j.length<=999999:=by grind
 have bQ:f.n<=999999:=hs.n';have ap:Small f.x 1000000:=⟨by have:=hs.n';omega,by have:=hs.ar;omega,by have:=hs.al;omega,by have:=hs.an;omega,by have:=hs.ca;omega⟩;have base:∀b∈I.a8 O,b∈I.a8 O\/w.heap.size<=b\/b∈own:=λb S=>.inl S
 let ak:Sl:=⟨none,0,0⟩
 refine wg.aB _ _ _ _ _ _ w _ (bu.aG (U:=[]) (λq w1 H1=>?_) (by simp));have H1:SF (·∈own) w w1 rb sl st y j f [.g q] O:=H1;refine H1.aw (xE H1 D (by omega)) ?_;rintro _ w2 rfl A;have A:SF (·∈own) w w2 rb sl st y j f [.g q] O:=A;refine⟨_,rfl,st,A.ld 0 1,?_⟩;have item:∀{w2:J} {aC:Sl} {bf bg:Int} {am:List FM} {f2:FM} {ay:List I} {p2:Addr},SF (·∈own) w w2 rb aC bf bg am f2 [.g q] ay->(∀g∈am++[f2],∀t∈g.O,t∈ay)->aC.a=some p2->(∀b∈I.a8 ay,b∈I.a8 O\/w.heap.size<=b\/b∈own)->(∀t∈O,t∈ay)->am.length<=1000000->f2.n<=1000000->
   fC ak t ⟨j.map FM.x,f.x,st,y⟩=fD t ⟨am.map FM.x,f2.x,bf,bg⟩->ee [q] Y Df #[.pointer (some (ab rb)),t.v] w2 λr_ w5=>∃t34:Bool,r_=ae (.bool t34)/\h6 w own O rb (rF t ⟨j.map FM.x,f.x,st,y⟩) (ae (.bool t34)) w5:=by
  intro w2 aC bf bg am f2 ay p2 A a5 a6 a7 a0 bp bR he;refine A.lq (U:=[q]) a5 a6 (λaA s1=>Ub s1 (by grind) bR t) ?_ (by simp);rintro r w3 aa M d p3 av ac L W H B Q bU H4;have S:∀b∈I.a8 L,b∈I.a8 O\/w.heap.size<=b\/b∈own:=λb S=>(Q b S).elim (a7 b) .inr;rcases bU with⟨hn,rfl⟩|⟨bV,rfl⟩
  .exact ⟨false,rfl,g8 H4 H B S (λt ht=>W t (a0 t ht)) ⟨ak,.inl ⟨he.trans hn,rfl⟩⟩⟩
  .exact ⟨true,rfl,g8 H4 H B S (λt ht=>W t (a0 t ht)) ⟨ak,.inr ⟨he.trans bV,rfl⟩⟩⟩
 have close:∀{w2:J} {aC:Sl} {am:List FM} {g2 f2:FM} {ay:List I} {p2:Addr} {s':Sl} (T:I),LH (·∈own) w w2 ([.c rb [aC.v,.int .i64 st,.int .i64 y] wR,.row hX 10 aC (((am++[g2])++[f2]).flatMap FM.c),.rows ((am++[g2]).flatMap FM.rows)]++[.g q]) [.trees ay]->(∀ag∈am++[g2],∀t∈ag.O,t∈ay)->aC.a=some p2->am.length<=999999->T∈ay->(0<=f2.k\/T.l≠[])->(∀b∈I.a8 ay,b∈I.a8 O\/w.heap.size<=b\/b∈own)->(∀t∈O,t∈ay)->
   fC s' t ⟨j.map FM.x,f.x,st,y⟩=some ⟨am.map FM.x,iF g2.x (mc f2.k (I.ao T.l)),3,y⟩->ee [q] Y Dd #[.pointer (some (ab rb)),T.s.v] w2 λr_ w5=>∃t34:Bool,r_=ae (.bool t34)/\h6 w own O rb (rF t ⟨j.map FM.x,f.x,st,y⟩) (ae (.bool t34)) w5:=by
  intro w2 aC am g2 f2 ay p2 s' T A a5 a6 bp hT hk a7 a0 he;refine LH.UZ (rb:=rb) (U:=[q]) A (λaA HA=>TZ HA a5 a6 bp T hT hk) ?_ (by simp);rintro r w3 aa M d p3 av ac L W H B Q ⟨rfl,aj,C,rfl,rfl⟩ H4;refine⟨true,rfl,g8 H4 H B (λb S=>(Q b S).elim (a7 b) .inr) (λt ht=>W t (a0 t ht)) ⟨s',.inr ⟨?_,rfl⟩⟩⟩
  grind
 refine bB (λa9=>?_) (λa9=>?_)
 .have a9:st=2:=eq_of_beq a9;refine jj (n:=40) (by omega) (λhk:t.k=40=>⟨y,A.ld 0 2,?_⟩) (λhk:t.k≠40=>?_)
  .refine A.lq (U:=[q]) N D (λaA s1=>GW s1 (by omega) y 1) ?_ (by simp);rintro _ w3 aa M d p3 av ac L W H B Q ⟨rfl,aj,C,rfl,rfl⟩ H4;refine⟨true,rfl,g8 H4 H B Q W ⟨ak,.inr ⟨?_,rfl⟩⟩⟩;rw[aj,C];unfold fC
   grind
  .refine g8 A N D base (λ_ h=>h) ⟨ak,.inl ⟨?_,rfl⟩⟩;unfold fC
   grind
 have n2:st≠2:=λad=>by grind
 refine bB (λaP=>?_) (λaP=>?_)
 .have aP:st=1:=eq_of_beq aP;obtain⟨bN,b7⟩:=h1 aP;refine jj (n:=41) (by omega) (λhk:t.k=41=>?_) (λhk:t.k≠41=>?_)
  .rcases qL j with rfl|⟨aF,g,rfl⟩
   .grind
   have H3:=EE A 3 0 0;have er:(((aF++[g])++[f]).flatMap FM.rows)=(aF++[g]).flatMap FM.rows++f.rows:=by grind
   have H4:LH (·∈own) w w2 (SL rb sl st y (((aF++[g])++[f]).flatMap FM.c) ((aF++[g]).flatMap FM.rows++f.rows)++[.g q]) [.trees (O++[.mk 3 0 0 ⟨none,0,0⟩ []])]:=by grind
   have H5:=PA H4 2 rfl;refine close (s':=ak) (.mk 3 0 0 ⟨none,0,0⟩ []) H5 (λag hx u z=>bK _ (N ag (bK _ hx) u z)) D (by grind) (by simp) (.inl bN) (λb S=>.inl (yf S)) (λu z=>bK _ z) ?_;unfold fC;refine(af n2).trans ((aq aP).trans ((aq hk).trans ?_));rw[hv];exact Hj _ _ _ _ _ _
  .refine item A N D base (λ_ h=>h) (by omega) (by omega) ?_;unfold fC
   grind
 have n1:st≠1:=λad=>by grind
 refine bB (λba=>?_) (λba=>?_)
 .have ba:st=0:=eq_of_beq ba;refine item A N D base (λ_ h=>h) (by omega) (by omega) ?_;unfold fC
  grind
 have n0:st≠0:=λad=>by grind
 have fe:∀s':Sl,fC s' t ⟨j.map FM.x,f.x,st,y⟩=(if t.k=42 then some ⟨j.map FM.x,iF f.x (.mk 7 0 0 [f.x.la]),st,y⟩
   else if t.k=38 then some ⟨j.map FM.x,jZ f.x,0,y⟩
   else if t.k=124 then some ⟨j.map FM.x,jY f.x,0,y⟩
   else if t.k=44 then(if f.x.k<0 then none else some ⟨j.map FM.x,Gi s' f.x,0,y⟩)
   else if t.k=41 then(if j.map FM.x=[]then none else ln ⟨j.map FM.x,f.x,st,y⟩ (f.x.ar.2++[eN f.x]))
   else if t.k=36 then(if j.map FM.x=[]then some ⟨j.map FM.x,f.x,st,y⟩else none)
   else fD t ⟨j.map FM.x,kJ f.x,st,y⟩):=λs'=>by
  unfold fC
  grind
 refine jj (n:=42) (by omega) (λhk:t.k=42=>?_) (λbe:t.k≠42=>jj (n:=38) (by omega) (λhk:t.k=38=>?_) (λbc:t.k≠38=>jj (n:=124) (by omega) (λhk:t.k=124=>?_) (λbb:t.k≠124=>jj (n:=44) (by omega) (λhk:t.k=44=>?_) (λbY:t.k≠44=>jj (n:=41) (by omega) (λhk:t.k=41=>?_) (λcb:t.k≠41=>jj (n:=36) (by omega) (λhk:t.k=36=>?_) (λb9:t.k≠36=>?_))))))
 .obtain ⟨c0,c1,c2,c3⟩:=A.JH 1 rfl D;refine oe ⟨_,_,_,_,c0,c1,c2,c3,?_⟩;refine A.cN (e:=aT) (sz:=4) (n:=1) (cs:=f.la.c) rfl (by decide) λw7 H7=>oe ?_;have bF:((p.add (j.length *10)).add 6).add 1=(p.add (j.length *10)).add 7:=add_add _ 6 1;have a2:((p.add (j.length *10)).add 6).add 2=(p.add (j.length *10)).add 8:=add_add _ 6 2;have a3:((p.add (j.length *10)).add 6).add 3=(p.add (j.length *10)).add 9:=add_add _ 6 3;rw[bF,a2,a3];refine H7.iw (U:=[q]) (f:=f) 1 ⟨f.k,f.ar,f.al,f.an,f.ca,f.n,.mk 7 f.la.lo f.la.V f.la.s f.la.l⟩ 6 rfl D (by omega) rfl (λw8 H8=>?_) (by simp);refine H8.iw (U:=[q]) (f:=⟨f.k,f.ar,f.al,f.an,f.ca,f.n,.mk 7 f.la.lo f.la.V f.la.s f.la.l⟩) 1 ⟨f.k,f.ar,f.al,f.an,f.ca,f.n,.mk 7 0 f.la.V f.la.s f.la.l⟩ 7 rfl D (by omega) rfl (λw9 H9=>?_) (by simp);refine H9.iw (U:=[q]) (f:=⟨f.k,f.ar,f.al,f.an,f.ca,f.n,.mk 7 0 f.la.V f.la.s f.la.l⟩) 1 ⟨f.k,f.ar,f.al,f.an,f.ca,f.n,.mk 7 0 0 f.la.s f.la.l⟩ 8 rfl D (by omega) rfl (λcc bv=>?_) (by simp);refine bv.iw (U:=[q]) (f:=⟨f.k,f.ar,f.al,f.an,f.ca,f.n,.mk 7 0 0 f.la.s f.la.l⟩) 1 ⟨f.k,f.ar,f.al,f.an,f.ca,f.n,.mk 7 0 0 ⟨some (ab w2.heap.size),1,1⟩ [f.la]⟩ 9 rfl D (by omega) rfl (λbr bh=>?_) (by simp);have bP:f.la∈O:=N f (by simp) _ (by simp[FM.O]);have bw:=bh.freeze 4 (I.row ⟨some (ab w2.heap.size),1,1⟩ [f.la]) rfl (by show bx 4 br _ ([f.la].flatMap I.c);rw[show[f.la].flatMap I.c=f.la.c by simp];exact aK.bd (bh.get 4)) (λb S=>gk (e:=aT) (vs:=[f.la].flatMap I.c) S);have bz:=bw.node 0 7 0 0 (s:=⟨some (ab w2.heap.size),1,1⟩) (ks:=[f.la]) rfl (by simp) (λt ht=>by grind);have er:(j++[f]).flatMap FM.rows=(j++[(⟨f.k,f.ar,f.al,f.an,f.ca,f.n,.mk 7 0 0 ⟨some (ab w2.heap.size),1,1⟩ [f.la]⟩:FM)]).flatMap FM.rows:=by simp[FM.rows]
  have bA:SF (·∈own) w br rb sl st y j ⟨f.k,f.ar,f.al,f.an,f.ca,f.n,.mk 7 0 0 ⟨some (ab w2.heap.size),1,1⟩ [f.la]⟩ [.g q] (O++[.mk 7 0 0 ⟨some (ab w2.heap.size),1,1⟩ [f.la]]):=by show LH _ _ _ (SL rb sl st y _ ((j++[(⟨f.k,f.ar,f.al,f.an,f.ca,f.n,.mk 7 0 0 ⟨some (ab w2.heap.size),1,1⟩ [f.la]⟩:FM)]).flatMap FM.rows)++_) _;rw[<-er];exact bz
  refine g8 bA (λg hg u z=>?_) D (λb S=>?_) (λu z=>bK _ z) ⟨ak,.inr ⟨?_,rfl⟩⟩
  .rcases aY.1 hg with hg|hg
   .grind
   .simp at hg;subst hg;simp only[FM.O,aY,au,aO,aR]at z;rcases z with(((z|z)|z)|z)|rfl
    .exact bK _ (N f (by simp) u (by simp[FM.O,z]))
    .exact bK _ (N f (by simp) u (by simp[FM.O,z]))
    .exact bK _ (N f (by simp) u (by simp[FM.O,z]))
    .exact bK _ (N f (by simp) u (by simp[FM.O,z]))
    .simp
  .obtain ⟨u,z,aH⟩:=I.bJ.1 S;rcases aY.1 z with z|z
   .exact .inl (I.bJ.2 ⟨u,z,aH⟩)
   .simp at z;rw[z]at aH;rcases I.gh.1 aH with aH|aH
    .have:=gk (e:=aT) aH;simp[En.row,ax,I.s]at this;subst this;exact .inr (.inl A.fr.size)
    .obtain ⟨t',az,aU⟩:=I.bJ.1 aH;simp[I.l]at az;rw[az]at aU;exact .inl (I.bJ.2 ⟨f.la,bP,aU⟩)
  .rw [fe,aq hk];rfl
 .refine A.lq (U:=[q]) N D (λaA s1=>xv (GI s1 ap.n' ap.ca ap.an)) ?_ (by simp);rintro _ w3 aa M d p3 av ac L W H B Q ⟨rfl,bn,aj,C,rfl,rfl⟩ H3;refine⟨rfl,H3.tL (U:=[q]) 0 1 rfl (λw4 H4=>?_) (by simp) (by simp)⟩;refine g8 (show SF (·∈own) w w4 rb aa 0 ac M d [.g q] L from H4) H B Q W ⟨ak,.inr ⟨?_,rfl⟩⟩
  grind
 .refine A.lq (U:=[q]) N D (λaA s1=>xv (GG s1 ap.n' ap.ca ap.an ap.al)) ?_ (by simp);rintro _ w3 aa M d p3 av ac L W H B Q ⟨rfl,bn,aj,C,rfl,rfl⟩ H3;refine⟨rfl,H3.tL (U:=[q]) 0 1 rfl (λw4 H4=>?_) (by simp) (by simp)⟩;refine g8 (show SF (·∈own) w w4 rb aa 0 ac M d [.g q] L from H4) H B Q W ⟨ak,.inr ⟨?_,rfl⟩⟩
  grind
 .refine oe ⟨f.k,A.gE 1 rfl D 0,bB (λh0=>?_) (λh0=>?_)⟩
  .refine g8 A N D base (λ_ h=>h) ⟨ak,.inl ⟨?_,rfl⟩⟩;rw[fe,af be,af bc,af bb,aq hk];exact aq (eH h0)
  have fin:∀{w5:J} {aa:Sl} {M:List FM} {d:FM} {p3:Addr} {L:List I} {s':Sl} {u:I} {G:List En},SF (·∈own) w w5 rb aa st y M (d.put 1 (s',(d.aX 1).2++[u])) G L->(∀g∈M++[d],∀t∈g.O,t∈L)->aa.a=some p3->(∀b∈I.a8 L,b∈I.a8 O\/w.heap.size<=b\/b∈own)->(∀t∈O,t∈L)->M.map FM.x=j.map FM.x->d.x=BM f.x->u∈L->u.rx=eN f.x->
    wg.bM (ab rb) w5 (h6 w own O rb (rF t ⟨j.map FM.x,f.x,st,y⟩)):=by
   intro w5 aa M d p3 L s' u G H5 H B bG bX aj C z hx;refine H5.st 0 1 rfl λw6 H6=>?_;refine g8 (show SF (·∈own) w w6 rb aa 0 y M (d.put 1 (s',(d.aX 1).2++[u])) G L from H6) (λg hg v Z=>?_) B bG bX ⟨s',.inr ⟨?_,rfl⟩⟩
   .rcases aY.1 hg with hg|hg
    .grind
    .simp at hg;subst hg;rcases y5 _ _ (by omega) (by omega) Z with h|h
     .grind
     .rcases aY.1 h with h|h
      .exact H d (by simp) v (nP d 1 h)
      grind
   .have e1:d.k=f.k:=by have:=congrArg FX.k C;exact this
    have e2:I.ao d.ar.2=I.ao f.ar.2:=by have:=congrArg (λag:FX=>ag.ar.2) C;exact this
    have e3:I.ao d.al.2=[]:=by have:=congrArg FX.al C;exact this
    have e4:I.ao d.an.2=[]:=by have:=congrArg FX.an C;exact this
    have e5:I.ao d.ca.2=[]:=by have:=congrArg FX.ca C;exact this
    have e6:d.n=0:=by have:=congrArg FX.n C;exact this
    have e7:d.la.rx=f.x.la:=by have:=congrArg FX.la C;exact this
    rw[fe,af be,af bc,af bb,aq hk];refine(af (hZ h0)).trans ?_;show some (SX.mk _ ⟨_,(s',I.ao f.ar.2++[eN f.x]),[],[],[],0,f.x.la⟩ 0 y)=some (SX.mk (M.map FM.x) ⟨d.k,(s',I.ao (d.ar.2++[u])),I.ao d.al.2,I.ao d.an.2,I.ao d.ca.2,d.n,d.la.rx⟩ 0 y);rw[aj,e1,e3,e4,e5,e6,e7,jH,e2];show some (SX.mk _ ⟨_,(s',I.ao f.ar.2++[eN f.x]),[],[],[],0,f.x.la⟩ 0 y)=some (SX.mk _ ⟨_,(s',I.ao f.ar.2++[u.rx]),[],[],[],0,f.x.la⟩ 0 y);rw[hx];rfl
  refine oe (A.ah (U:=[q]) (λbs a4=>⟨f.ar.1,a4.gE 1 rfl D 1,?_,?_⟩) (by simp))
  .refine (show SF (·∈own) w bs rb sl st y j f [.g q] O from a4).lq (U:=[q]) N D (λaA s1=>xA s1 ap) ?_ (by simp);rintro r bt aa M d p3 av ac L W H B Q ⟨aN,aj,C,rfl,rfl,u,z,rfl,hx⟩ aJ;have aL:d.ar.1=f.ar.1:=by have:=congrArg (λag:FX=>ag.ar.1) C;exact this
   refine⟨u.k,u.lo.toNat,u.V.toNat,u.s,rfl,?_⟩;rw[<-aN,<-aL];refine⟨aJ.gE 1 rfl B 1,aJ.cN (e:=aT) (sz:=4) (n:=1) (cs:=z4) rfl (by decide) λbZ bi=>⟨bi.gE 1 rfl B 1,?_⟩⟩;have aV:(d.aX 1).2.length<=1000000:=by have ad:d.x.ar.2.length=d.ar.2.length:=(Cc d).1;rw[C]at ad;have:f.x.ar.2.length<=999999:=hs.ar;show d.ar.2.length<=_;rw[<-ad];show f.x.ar.2.length<=_;omega
   exact Oi (U:=[q]) (K:=λw5=>wg.bM (ab rb) w5 (h6 w own O rb (rF t ⟨j.map FM.x,f.x,av,ac⟩))) (show SF (·∈own) w bZ rb aa av ac M d ([.g q]++[.row aT 4 ⟨some (ab bt.heap.size),1,1⟩ z4]) L from bi) 4 rfl B 1 (by omega) (by omega) u aV rfl (λs' w5 H5=>fin H5 H B Q W aj C z hx) (by simp)
  .refine a4.cN (e:=aT) (sz:=4) (n:=1) (cs:=z4) rfl (by decide) λb0 bj=>⟨bj.gE 1 rfl D 1,?_⟩;refine(show SF (·∈own) w b0 rb sl st y j f ([.g q]++[.row aT 4 ⟨some (ab bs.heap.size),1,1⟩ z4]) O from bj).lq (U:=[q]) N D (λaA s1=>xA s1 ap) ?_ (by simp);rintro r bt aa M d p3 av ac L W H B Q ⟨aN,aj,C,rfl,rfl,u,z,rfl,hx⟩ aJ;have aL:d.ar.1=f.ar.1:=by have:=congrArg (λag:FX=>ag.ar.1) C;exact this
   refine⟨u.k,u.lo.toNat,u.V.toNat,u.s,rfl,?_⟩;rw[<-aN,<-aL];refine⟨aJ.gE 1 rfl B 1,?_⟩;have aV:(d.aX 1).2.length<=1000000:=by have ad:d.x.ar.2.length=d.ar.2.length:=(Cc d).1;rw[C]at ad;have:f.x.ar.2.length<=999999:=hs.ar;show d.ar.2.length<=_;rw[<-ad];show f.x.ar.2.length<=_;omega
   exact Oi (U:=[q]) (K:=λw5=>wg.bM (ab rb) w5 (h6 w own O rb (rF t ⟨j.map FM.x,f.x,av,ac⟩))) aJ 4 rfl B 1 (by omega) (by omega) u aV rfl (λs' w5 H5=>fin H5 H B Q W aj C z hx) (by simp)
 .refine A.ah (U:=[q]) (λb1 aE=>⟨sl,aE.ld 0 0,?_⟩) (by simp);have aE:SF (·∈own) w b1 rb sl st y j f [.g q] O:=aE;have bW:=zo aE;rcases qL j with rfl|⟨aF,g,rfl⟩
  .refine aZ (aW (by grind)) ?_;refine g8 aE N D base (λ_ h=>h) ⟨ak,.inl ⟨?_,rfl⟩⟩
   grind
  .refine a1 (aS (by grind)) (oe ⟨f.ar.1,aE.gE 1 rfl D 1,?_⟩);refine aE.lq (U:=[q]) N D (λaA s1=>xA s1 ap) ?_ (by simp);rintro r b2 aa M d p3 av ac L W H B Q ⟨aN,aj,C,rfl,rfl,u,z,rfl,hx⟩ bk;have aL:d.ar.1=f.ar.1:=by have:=congrArg (λag:FX=>ag.ar.1) C;exact this
   refine⟨u.k,u.lo.toNat,u.V.toNat,u.s,rfl,?_⟩;rw[<-aN,<-aL];refine⟨bk.gE 1 rfl B 1,bk.cN (e:=aT) (sz:=4) (n:=1) (cs:=u.c) rfl (by decide) λb4 aQ=>⟨aQ.gE 1 rfl B 1,?_⟩⟩;have bI:∃E F,M=E++[F]/\E.map FM.x=aF.map FM.x/\F.x=g.x:=by
    rcases qL M with rfl|⟨E,F,rfl⟩
    .grind
    .refine ⟨E,F,rfl,?_⟩;rw[hv,hv]at aj;have:=List.append_inj' aj rfl
     grind
   obtain⟨E,F,rfl,bH,bL⟩:=bI;have bq:(((E++[F])++[d]).flatMap FM.rows)[(E++[F]).length *4+0]? =some (d.ar.1,d.ar.2.flatMap I.c):=pw (E++[F]) d 0 _ rfl;have aV:d.ar.2.length<=999999:=by have ad:d.x.ar.2.length=d.ar.2.length:=(Cc d).1;rw[C]at ad;have:f.x.ar.2.length<=999999:=hs.ar;rw[<-ad];exact this
   have nr:d.ar.1.n=d.ar.2.length:=by have hp:(En.rows (((E++[F])++[d]).flatMap FM.rows)).P b4:=aQ.get 2;exact I.cr (hp.1 _ (aD bq)).bd
   refine aQ.xp (U:=[q]) 2 ((E++[F]).length *4+0) (src:=⟨some (ab b2.heap.size),1,1⟩) (news:=u.c) rfl bq (aK.bd (aQ.get 4)) (by simp[Value.oneCell',I.c]) (by grind) (λs' b5 bl bQ b8=>?_) (by simp);have bo:(E++[F]).length *4+0<(((E++[F])++[d]).flatMap FM.rows).length:=by grind
   have bT:∀b∈ax s',b∈own\/w.heap.size<=b:=λb S=>(bl.new (.rows ((((E++[F])++[d]).flatMap FM.rows).set ((E++[F]).length *4+0) (s',d.ar.2.flatMap I.c++u.c))) (by simp) b (aM.2 (bS.2 ⟨_,aD (jF bo),S⟩))).symm;have bm:=bl.Ce 2 ((E++[F]).length *4+0) rfl (jF bo);have ec:d.ar.2.flatMap I.c++u.c=(d.ar.2++[u]).flatMap I.c:=by simp
   rw[ec]at bm;have bC:=bm.node 0 3 0 0 (s:=s') (ks:=d.ar.2++[u]) rfl (dV _ (List.mem_singleton.2 rfl)) (λv Z=>by
    rcases aY.1 Z with Z|Z
    .exact H d (by simp) v (nP d 1 Z)
    grind)
   have er:(((((E++[F])++[d]).flatMap FM.rows).set ((E++[F]).length *4+0) (s',(d.ar.2++[u]).flatMap I.c)).set ((E++[F]).length *4+0) (⟨none,0,0⟩,[]))=(E++[F]).flatMap FM.rows++d.rows.set 0 (⟨none,0,0⟩,[]):=by rw[List.set_set];exact Ev (E++[F]) d 0 _ (by omega)
   have bD:LH (·∈own) w b5 (SL rb aa av ac (((E++[F])++[d]).flatMap FM.c) ((E++[F]).flatMap FM.rows++d.rows.set 0 (⟨none,0,0⟩,[]))++[.g q]) [.trees (L++[.mk 3 0 0 s' (d.ar.2++[u])])]:=by rw[<-er];exact bC.take 4
   have bE:=PA bD 2 rfl;have bO:d.k=f.k:=by have:=congrArg FX.k C;exact this
   refine close (s':=ak) (.mk 3 0 0 s' (d.ar.2++[u])) bE (λag hx v Z=>bK _ (H ag (bK _ hx) v Z)) B ?_ (by simp) (.inr (by simp[I.l])) ?_ (λv Z=>bK _ (W v Z)) ?_
   .grind
   .intro b S;obtain⟨v,Z,aI⟩:=I.bJ.1 S;rcases aY.1 Z with Z|Z
    .exact Q b (I.bJ.2 ⟨v,Z,aI⟩)
    .simp at Z;rw[Z]at aI;rcases I.gh.1 aI with aI|aI
     .exact .inr (bT b (gk (e:=aT) aI)).symm
     .obtain ⟨t',az,aU⟩:=I.bJ.1 aI;have az:t'∈d.ar.2++[u]:=az;refine Q b (I.bJ.2 ⟨t',?_,aU⟩);rcases aY.1 az with az|az
      .exact H d (by simp) t' (nP d 1 az)
      grind
   .rw [fe,af be,af bc,af bb,af bY,aq hk];refine(af (by simp)).trans ?_;rw[hv];refine(Hj _ _ _ _ _ _).trans ?_;have e2:I.ao d.ar.2=f.x.ar.2:=by have:=congrArg (λag:FX=>ag.ar.2) C;exact this
    rw[bH,bL,bO];show _=some (SX.mk _ (iF g.x (mc f.k (I.ao (d.ar.2++[u])))) 3 ac);rw[jH,e2];show _=some (SX.mk _ (iF g.x (mc f.k (f.x.ar.2++[u.rx]))) 3 ac);rw[hx];rfl
 .refine ⟨sl,A.ld 0 0,?_⟩;have bW:=zo A;rcases qL j with rfl|⟨aF,g,rfl⟩
  .have ad:(((sl.n:Nat):Int)==1)=true:=by grind
   rw[ad];refine g8 A N D base (λ_ h=>h) ⟨ak,.inr ⟨?_,rfl⟩⟩
   grind
  .have ad:(((sl.n:Nat):Int)==1)=false:=by grind
   rw[ad];refine g8 A N D base (λ_ h=>h) ⟨ak,.inl ⟨?_,rfl⟩⟩
   grind
 .refine A.lq (U:=[q]) N D (λaA s1=>xv (GH s1 ap.n' ap.ca)) ?_ (by simp);rintro _ w3 aa M d p3 av ac L W H B Q ⟨rfl,bn,aj,C,rfl,rfl⟩ H3;refine⟨rfl,item H3 H B Q W ?_ ?_ ?_⟩
  .grind
  .have e5:d.n=0:=by have:=congrArg FX.n C;exact this
   omega
  grind
def ZN(s:ByteArray)(c:UInt8)(w:J):Sem.run Y (callFunc CV #[.string s,.int .u8 (c.toNat:Int)]) w=.ok (.value (.int .i64 (Go.Lib.indexByte (bl s) c))) w:=by have d:=run_callFunc_indexByte (P:=Y) (f:=CV) (fn:=(Tryz.prog.funcs[CV]?).getD default) (by kernel_rfl) (by kernel_rfl) (by kernel_rfl) (by kernel_rfl) (by kernel_rfl) #[.string s,.int .u8 (c.toNat:Int)] w;rw[d,Go.Lib.run_indexByteString];show Result.ok _ w=_;congr 4;simp
def EA(s:ByteArray)(c:UInt8)(w:J):ai Y MC #[.string s,.int .u8 (c.toNat:Int)] w λr d=>r=ae (.int .i64 (Go.Lib.indexByte (bl s) c))/\ag w d:=by
 refine QG.ok _ _ w _ ?_;refine(show ai Y Lw #[.string s,.int .u8 (c.toNat:Int)] w λr d=>r=ae (.int .i64 (Go.Lib.indexByte (bl s) c))/\w=d from ?_).mono ?_
 .exact Jl.ok _ _ w _ ⟨_,w,ZN s c w,rfl,rfl⟩
 .rintro r e ⟨rfl,rfl⟩;exact⟨_,rfl,rfl,Fr.refl _ _⟩
def jJ(c:UInt8):Bool:=ak (97<=c.toNat)&&ak (c.toNat<=122)
def s6(c:UInt8):Bool:=ak (32<=c.toNat)&&(ak (c.toNat<=126)&&(!decide (c=39)&&!decide (c=92)))
def xD(c:UInt8)(w:J):ai Y Mf #[.int .u8 (c.toNat:Int)] w λr e=>r=ae (.bool (jJ c))/\ag w e:=by
 refine Pj.ok _ w _ (aF (λd=>⟨?_,Fr.refl _ _⟩) (λd=>⟨?_,Fr.refl _ _⟩))
 .unfold jJ;rw[aS (show 97<=c.toNat by omega),Bool.true_and];rw[show ak ((c.toNat:Int)<=122)=ak (c.toNat<=122)from decide_eq_decide.2 (by omega)]
 .unfold jJ;rw[aW (show ¬97<=c.toNat by omega),Bool.false_and]
def Rs(c:UInt8)(n:Nat)(e:n<256):(((c.toNat:Nat):Int)==(n:Int))=ak (c=cE n):=by
 have d:c.toNat=n↔c=cE n:=by rw[<-UInt8.toNat_inj,UInt8.toNat_ofNat'];omega
 rw[Bool.eq_iff_iff,beq_iff_eq,decide_eq_true_iff,<-d];omega
def GU(c:UInt8)(w:J):ai Y Mc #[.int .u8 (c.toNat:Int)] w λr q=>r=ae (.bool (s6 c))/\ag w q:=by
 have e:(((c.toNat:Nat):Int) !=39)= !decide (c=39):=by have:=Rs c 39 (by omega);show(!(((c.toNat:Nat):Int)==((39:Nat):Int)))=_;rw[this];rfl
 have h:(((c.toNat:Nat):Int) !=92)= !decide (c=92):=by have:=Rs c 92 (by omega);show(!(((c.toNat:Nat):Int)==((92:Nat):Int)))=_;rw[this];rfl
 refine Pe.ok _ w _ ?_;rw[e,h];unfold s6;refine aF (λj=>?_) (λj=>⟨?_,Fr.refl _ _⟩)
 .rw [aS (show 32<=c.toNat by omega),Bool.true_and];refine aF (λk=>?_) (λk=>⟨?_,Fr.refl _ _⟩)
  .rw [aS (show c.toNat<=126 by omega),Bool.true_and];refine bB (λd=>⟨?_,Fr.refl _ _⟩) (λd=>⟨?_,Fr.refl _ _⟩)
   .rw [d,Bool.true_and]
   .rw [d,Bool.false_and]
  .rw [aW (show ¬c.toNat<=126 by omega),Bool.false_and]
 .rw [aW (show ¬32<=c.toNat by omega),Bool.false_and]
def Tq{s:ByteArray}{l:List UInt8}(h:bl s=l)(i:Nat):s[i]? =l[i]?:=by
 subst h;by_cases d:i<s.size
 .rw [getElem?_pos s i d,a4 (by rw[dH];exact d)];rfl
 .rw [getElem?_neg s i d,List.getElem?_eq_none (by rw[dH];omega)]
def kX{s:ByteArray}{i:Nat}(h:i<s.size):s[i]? =some ((bl s).getD i 0):=by
 rw[Tq (s:=s) (l:=bl s) rfl i];have d:i<(bl s).length:=by rw[dH];exact h
 rw[List.getD_eq_getElem?_getD,a4 d];rfl
def o2:List UInt8:=[48,49,50,51,52,53,54,55,56,57,97,98,99,100,101,102]
def Wl(a b:Int):UInt8:=cE (aj .u8 (qe .i64 (aj .i64 (a *2^4)) b)).toNat
def jW(l:List UInt8)(i:Nat):Option (UInt8×Nat):=
 if i+2<l.length/\l.getD i 0=39/\s6 (l.getD (i+1) 0)=true/\l.getD (i+2) 0=39 then some (l.getD (i+1) 0,3)
 else if i+3<l.length/\l.getD i 0=92/\l.getD (i+1) 0=120/\0<=Go.Lib.indexByte o2 (l.getD (i+2) 0)/\0<=Go.Lib.indexByte o2 (l.getD (i+3) 0)then some (Wl (Go.Lib.indexByte o2 (l.getD (i+2) 0)) (Go.Lib.indexByte o2 (l.getD (i+3) 0)),4)
 else none
def BS:Option (UInt8×Nat)->aa
 |none=>.tuple #[.int .u8 0,.int .i64 0,.bool false]
 |some (b,n)=>.tuple #[.int .u8 (b.toNat:Int),.int .i64 (n:Int),.bool true]
def zM{x:UInt8}{n:Nat}{A B:Prop}(h:n<256)(d:x=cE n->A)(e:x≠cE n->B):bh (((x.toNat:Nat):Int)==(n:Int)) A B:=jj h d e
def abv(x:Int):((cE (aj .u8 x).toNat).toNat:Int)=aj .u8 x:=by rw[UInt8.toNat_ofNat',IntKind.wrap_u8];omega
def A8(s:ByteArray)(i:Nat)(V:i<=1000000)(w:J):ai Y LY #[.string s,.int .i64 (i:Int)] w λr d=>r=ae (BS (jW (bl s) i))/\ag w d:=by
 have E:aj .i64 ((i:Int)+1)=((i+1:Nat):Int):=by rw[aQ _ (by omega)];omega
 have F:aj .i64 ((i:Int)+2)=((i+2:Nat):Int):=by rw[aQ _ (by omega)];omega
 have L:aj .i64 ((i:Int)+3)=((i+3:Nat):Int):=by rw[aQ _ (by omega)];omega
 have S:(bl s).length=s.size:=dH s;have k:¬(i+2<(bl s).length/\(bl s).getD i 0=39/\s6 ((bl s).getD (i+1) 0)=true/\(bl s).getD (i+2) 0=39)->∀d,ag w d->zd.S0 s i d (λr d=>r=ae (BS (jW (bl s) i))/\ag w d):=by
  intro G d j;have no:¬(i+3<(bl s).length/\(bl s).getD i 0=92/\(bl s).getD (i+1) 0=120/\0<=Go.Lib.indexByte o2 ((bl s).getD (i+2) 0)/\0<=Go.Lib.indexByte o2 ((bl s).getD (i+3) 0))->∀d,ag w d->zd.S1 d (λr d=>r=ae (BS (jW (bl s) i))/\ag w d):=λP d j=>by refine⟨?_,j⟩;unfold jW;rw[af G,af P];rfl
  show bh _ _ _;rw[L,F,E];refine aF (λO=>⟨by omega,_,kX (i:=i) (by omega),zM (n:=92) (by omega) (λh=>⟨by omega,_,kX (i:=i+1) (by omega),zM (n:=120) (by omega) (λC=>?_) (λC=>no (λe=>C e.2.2.1) d j)⟩) (λh=>no (λe=>h e.2.1) d j)⟩) (λO=>no (λe=>by omega) d j);refine(show LH F0 w d [] []from((LH.start (M:=F0) (w:=w) [] (by simp)).br j)).dr λD I=>⟨by omega,_,kX (i:=i+2) (by omega),by omega,_,kX (i:=i+3) (by omega),I.call (EA _ _ _) ?_⟩;rintro _ T rfl K;refine⟨_,rfl,K.call (EA _ _ _) ?_⟩;rintro _ H rfl x;refine⟨_,rfl,?_⟩;show bh (ak (Go.Lib.indexByte o2 _>=0)) (bh (ak (Go.Lib.indexByte o2 _>=0)) _ _) _;refine aF (λz=>aF (λA=>⟨?_,x.fr⟩) (λA=>no (λe=>A e.2.2.2.2) H x.fr)) (λz=>no (λe=>z e.2.2.2.1) H x.fr);unfold jW;rw[af G,aq ⟨by omega,h,C,z,A⟩];exact congrArg (λQ=>Ending.returned (.tuple #[.int .u8 Q,.int .i64 4,.bool true])) (abv _).symm
 refine zd.ok _ _ w _ ?_;rw[F,E];refine aF (λN=>⟨by omega,_,kX (i:=i) (by omega),zM (n:=39) (by omega) (λh=>⟨by omega,_,kX (i:=i+1) (by omega),(GU _ w).mono ?_⟩) (λh=>k (λe=>h e.2.1) w (Fr.refl _ _))⟩) (λN=>k (λe=>by omega) w (Fr.refl _ _));rintro _ D ⟨rfl,y⟩;refine⟨_,rfl,bB (λq=>⟨by omega,_,kX (i:=i+2) (by omega),zM (n:=39) (by omega) (λB=>⟨by omega,_,kX (i:=i+1) (by omega),?_,y⟩) (λB=>k (λe=>B e.2.2.2) D y)⟩) (λq=>k (λe=>by rw[e.2.2.1]at q;cases q) D y)⟩;unfold jW;rw[aq ⟨by omega,h,q,B⟩];rfl
end Go.Proofs.YthhmdddomhknaaaGreatDoor
