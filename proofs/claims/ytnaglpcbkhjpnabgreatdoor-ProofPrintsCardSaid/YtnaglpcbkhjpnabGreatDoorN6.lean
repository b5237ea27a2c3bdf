import Derived.Test.YtnaglpcbkhjpnabGreatDoorWN
import Derived.Test.YtnaglpcbkhjpnabGreatDoorE3
import Derived.Test.YtnaglpcbkhjpnabGreatDoorR14
import Derived.Test.YtnaglpcbkhjpnabGreatDoorG9
import Derived.Test.YtnaglpcbkhjpnabGreatDoorPN
import Derived.Test.YtnaglpcbkhjpnabGreatDoorU
set_option linter.unusedVariables false
set_option linter.defProp false
set_option maxRecDepth 100000
noncomputable section
namespace Go.Proofs.YtnaglpcbkhjpnabGreatDoor
open Go renaming World->J,Calls->ai,Value->aa,Ending->bW,FuncId->cR
open Go.IntKind renaming wrap->aj
open _root_.Int renaming toNat->a0,tdiv->bQ,toNat_natCast->bB
open _root_.ByteArray renaming mk->bn
open Go.IntWalk renaming i64_in->aQ
open _root_.Bool renaming and_eq_true->bH
open _root_.Nat renaming le_refl->br,le_trans->bb,zero_le->dW
open _root_.BitVec renaming ofInt->e9
open Go.Proofs.Tryz renaming prog->V
open _root_.Decidable renaming decide->av
open Go.Ending renaming returned->ae
open List renaming mem_append->aX,mem_cons->aq,not_mem_nil->aL,mem_of_getElem?->aD,getElem?_eq_getElem->a',getElem?_eq_some_iff->cX,mem_map->bS,length_append->a7,length_cons->bR,getElem?_append_left->Hd,getElem?_append_right->pO,append_assoc->ck,mem_singleton->b0,flatMap_cons->cH,mem_iff_getElem?->hJ,take_append_drop->mU,all_eq_true->ff,getElem?_drop->Bq,getElem?_take->Br
open Go Go.W
def lH(U k:Nat)(w:J):Prop:=w.heap[U]? =some (.cells #[.i (k:Int)] cb (0,0))
def Ke{U k:Nat}{w:J}(h:lH U k w):w.cell? (ab U)=some (.i (k:Int)):=by
 have:=cellAt (p:=ab U) (i:=0) (v:=.i (k:Int)) h rfl rfl
 rwa[jq]at this
abbrev oO(s:Sl)(l:List I):I:=.mk 0 0 0 s l
def Ir{M:Nat->Prop}{t:I}{w Y:J}(h:t.P w)(f:Fr M w Y)(j:∀b∈t.fp,¬M b):t.P Y:=I.cB t (λb d k=>f.cB b k (j b d)) h
section
variable {s:Sl} {l:List I} {U:Nat}
def D0(M:I.a9 l<=1000000)(S:U∉(oO s l).fp)(i j k:Nat)(T:k<=100)(hi:i<l.length)(L:j<l.length){w:J}(K:(oO s l).P w)(y:lH U k w):
  ai V Qy #[s.v,.i (i:Int),.i (j:Int),.pointer (some (ab U)),.func (.func cE) #[] #[]] w λr D=>(∃a b A:Nat,r=ae (.tuple #[.i (a:Int),.i (b:Int)])/\(a=i/\b=j\/a=j/\b=i)/\A<=k+1/\lH U A D)/\Fr (·=U) w D:=by
 have q:l[i]? =some l[i]:=a' hi;have x:l[j]? =some l[j]:=a' L;generalize l[i]=a at q;generalize l[j]=b at x;have N:=aD q;have C:=aD x;have d:af w w.drew:=Fr.drew _ _;have h:=K.bz d;refine U6.ok (jc h rfl x (jc h rfl q ?_));refine(zN b a w.drew (bb (I.eK C) M) (h.parts.2.mem C) (h.parts.2.mem N)).mono ?_;rintro _ O ⟨rfl,f⟩;have B:=lt_of_heap y;have z:lH U k O:=by unfold lH at y ⊢;rw[f.cB U (Nat.lt_of_lt_of_le B d.size) id,d.cB U B id];exact y
 refine⟨_,rfl,aF (λ_=>?_) (λ_=>⟨⟨i,j,k,rfl,.inl ⟨rfl,rfl⟩,Nat.le_succ _,z⟩,(d.dO f).pI⟩)⟩;obtain⟨E,F,Q,G⟩:=vR z 0 ws (.i (((k+1:Nat)):Int));rw[jq]at E F Q G;refine⟨(k:Int),Ke z,E,F,?_⟩;rw[bc _ co];exact⟨⟨j,i,k+1,rfl,.inr ⟨rfl,rfl⟩,br _,by unfold lH;grind⟩,(d.dO f).pI.trans G λW _ H=>H⟩
end
def nN{α:Type}{O:List α}{i j:Nat}{a b:α}(hi:O[i]? =some a)(h:O[j]? =some b)(d:Nat):((O.set i b).set j a)[d]? =if d=j then some a else if d=i then some b else O[d]?:=by grind
def VW{α:Type}{O:List α}{i j:Nat}{a b:α}(hi:O[i]? =some a)(k:O[j]? =some b):((O.set i b).set j a).Perm O:=by obtain⟨d,rfl⟩:=cX.1 hi;obtain⟨h,rfl⟩:=cX.1 k;exact List.set_set_perm d h
abbrev o7(d x:I):Prop:=be x.rx d.rx<0
section
variable {s:Sl} {l:List I} {w:J}
abbrev I5(s:Sl)(l:List I)(w d:J)(O:List I):Prop:=LH (·∈az s) w d [.row aZ 4 s (O.flatMap I.c)] [.trees l]
end
def SU{w:J}{l m:List I}(h:I.Ps w l)(d:m.Perm l):I.Ps w m:=I.jd λt j=>h.mem (d.mem_iff.1 j)
def aaU{l m:List I}(j:m.Perm l){b:Nat}(h:b∈I.bj m):b∈I.bj l:=by obtain⟨t,k,d⟩:=I.b'.1 h;exact I.b'.2 ⟨t,j.mem_iff.1 k,d⟩
def aek{M:Nat->Prop}{l:List I}{w Y:J}(h:I.Ps w l)(f:Fr M w Y)(j:∀b∈I.bj l,¬M b):I.Ps Y l:=I.keeps l (λb d k=>f.cB b k (j b d)) h
set_option maxRecDepth 100000
set_option maxHeartbeats 2000000
namespace U3
def ok:=ay (ax V Tryz.f279 [] []) Qw [.s,.I,.r,.g cE 0 0]
end U3
namespace yU
abbrev P0:Ps:=[(0,.s),(8,.I),(9,.I)]
def L0:=bh (ax V Tryz.f269 [(3,lr 16)] []) [0,1,2] P0
abbrev t1:=bg L0
abbrev S1:=ak t1 [2,1,1,2,2] P0
abbrev t2:=ao S1
def bE:=bm t2 L0
def ok:=ay t2 QC [.s,.I,.I,.g cE 0 0]
end yU
namespace U7
def ok:=ay (ax V Tryz.f278 [(1,lr 10),(2,lr 10),(3,lr 10)] []) QE [.r]
end U7
namespace U5
def ok:=ay (ax V Tryz.f277 [] []) Gy [.I]
end U5
namespace q'
def L1:=bh (ax V Tryz.f267 [(10,lr 20)] []) [0,1,3,1,2] [(0,.s),(1,.I),(8,.I),(9,.r),(10,.U),(11,.I)]
abbrev t1:=bg L1
abbrev P0:Ps:=[(0,.s),(1,.I),(8,.I),(9,.r),(10,.U),(11,.I),(12,.I)]
abbrev S3:=ak t1 [2,2,1,2,3,1,2] P0
abbrev t2:=ao S3
abbrev S2:=ak t2 [1,2,1,2,3,1,2] P0
abbrev t3:=ao S2
def fO:=bm t3 L1
abbrev S0:=ak t3 [1] [(0,.s),(1,.I),(8,.I)]
abbrev t4:=ao S0
def ok:=ay t4 Qt [.s,.I,.I,.g cE 0 0]
end q'
namespace vU
def L0:=bh (ax V Tryz.f276 [(3,lr 22),(5,lr 16),(6,lr 24)] []) [0,1,1] [(0,.s),(2,.I),(3,.I),(4,.v [.g cE 0 0]),(10,.I)]
abbrev t1:=bg L0
abbrev P0:Ps:=[(0,.s),(2,.I),(3,.I),(4,.v [.g cE 0 0]),(10,.I),(11,.I)]
abbrev S2:=ak t1 [3,3,1] P0
abbrev t2:=ao S2
abbrev S1:=ak t2 [1,3,1] P0
abbrev t3:=ao S1
def bE:=bm t3 L0
def ok:=ay t3 QD [.s,.I,.I,.I,.g cE 0 0]
end vU
namespace pT
def L1:=bh (ax V Tryz.f266 [(10,lr 20)] []) [0,1,1,1,3] [(0,.s),(3,.v [.g cE 0 0]),(8,.I),(9,.I),(10,.I),(11,.I)]
abbrev t1:=bg L1
def L2:=bh t1 [0,1,5] [(0,.s),(3,.v [.g cE 0 0]),(8,.I),(9,.I),(12,.I)]
abbrev t2:=bg L2
def j7:=bm t2 L2
def fO:=bm t2 L1
abbrev S0:=ak t2 [3] [(0,.s),(3,.v [.g cE 0 0]),(8,.I),(9,.I),(10,.I)]
abbrev t3:=ao S0
def ok:=ay t3 Qv [.s,.I,.I,.g cE 0 0]
end pT
namespace oU
abbrev P0:Ps:=[(0,.s),(1,.I),(4,.v [.g cE 0 0]),(11,.I),(12,.I)]
def L0:=bh (ax V Tryz.f271 [(1,lr 16),(3,lr 17),(5,lr 16),(8,lr 16)] []) [0,2,3] P0
abbrev t1:=bg L0
def L1:=bh t1 [0,6,3] P0
abbrev t2:=bg L1
def L2:=bh t2 [0,2,1,4,3] P0
abbrev t3:=bg L2
abbrev S4:=ak t3 [5,4,3] P0
abbrev t4:=ao S4
abbrev S3:=ak t4 [2,4,3] P0
abbrev t5:=ao S3
def j7:=bm t5 L2
def fO:=bm t5 L1
def bE:=bm t5 L0
def ok:=ay t5 QB [.s,.I,.I,.I,.g cE 0 0]
end oU
set_option maxHeartbeats 1000000
structure Sq(s:Sl)(l:List I)(w w1:J)(O:List I):Prop where
 H:I5 s l w w1 O
 p:O.Perm l
namespace Sq
variable {s:Sl} {l O:List I} {w w1:J}
def len(h:Sq s l w w1 O):O.length=l.length:=h.p.length_eq
def n(h:Sq s l w w1 O):s.n=l.length:=by have d:=(h.H.get 0:aG w1 aZ 4 s (O.flatMap I.c)).len;rw[qE I.c 4 I.ke]at d;have:=h.len;omega
def dr(h:Sq s l w w1 O){K:J->Prop}(k:∀d,Sq s l w d O->K d):mF w1 K:=h.H.dr λd j=>k d ⟨j,h.p⟩
def fr(h:Sq s l w w1 O):Fr (·∈az s) w w1:=h.H.fr
def cmp(h:Sq s l w w1 O)(T:I.a9 l<=1000000){i j:Nat}{x y:I}{X k:Int}(hi:O[i]? =some x)(z:O[j]? =some y)(P:X=(i:Int))(Q:k=(j:Int)){K:Int->J->Prop}(S:∀d,Sq s l w d O->K (be x.rx y.rx) d):
  fx s X λp=>gC w1 (p.add (a0 X *4)) λC D E F=>fx s k λW=>gC w1 (W.add (a0 k *4)) λG L M N=>r0 cE #[.agg #[.i C,.int .u8 D,.int .u8 E,F.v],.agg #[.i G,.int .u8 L,.int .u8 M,N.v]] w1 K:=by have A:x∈l:=h.p.mem_iff.1 (aD hi);have U:y∈l:=h.p.mem_iff.1 (aD z);have q:I.Ps w1 l:=h.H.getD 0;refine h.H.el 0 i P hi (h.H.el 0 j Q z ?_);refine h.H.call (zN x y w1 (bb (I.eK A) T) (q.mem A) (q.mem U)) ?_;rintro _ d rfl B;exact⟨_,rfl,S d ⟨B,h.p⟩⟩
def swap(h:Sq s l w w1 O){i j:Nat}{x y:I}{X d:Int}(hi:O[i]? =some x)(q:O[j]? =some y)(B:X=(i:Int))(C:d=(j:Int)){K:J->Prop}(U:∀A,Sq s l w A ((O.set j x).set i y)->K A):
  mF w1 λw1=>fx s X λp=>gC w1 (p.add (a0 X *4)) λF G L M=>fx s d λz=>gC w1 (z.add (a0 d *4)) λN P Q S=>
   fx s d λz=>mi w1 (z.add (a0 d *4)) (.i F) (.int .u8 G) (.int .u8 L) (M.v) λY=>fx s X λp=>mi Y (p.add (a0 X *4)) (.i N) (.int .u8 P) (.int .u8 Q) (S.v) K:=by have Z:=(cX.1 hi).1;have T:=(cX.1 q).1;refine h.H.dr λA k=>k.el 0 i B hi (k.el 0 j C q (k.xu 0 j (t:=x) C T λw3 D=>?_));refine D.xu 0 i (t:=y) (O:=O.set j x) B (by rw[List.length_set];omega) λW E=>U W ⟨E,?_⟩;exact(VW q hi).trans h.p
end Sq
def Sg(a b:Nat)(O h:List I):Prop:=h.Perm O/\∀d,d<a\/b<=d->h[d]? =O[d]?
namespace Sg
variable {a b:Nat} {O us vs:List I}
def refl(a b:Nat)(O:List I):Sg a b O O:=⟨.refl _,λ_ _=>rfl⟩
def trans(h:Sg a b O us)(k:Sg a b us vs):Sg a b O vs:=⟨k.1.trans h.1,λj d=>(k.2 j d).trans (h.2 j d)⟩
def wide(h:Sg a b O us){c d:Nat}(k:c<=a)(q:b<=d):Sg c d O us:=⟨h.1,λj w=>h.2 j co⟩
def len(h:Sg a b O us):us.length=O.length:=h.1.length_eq
def swap{i j:Nat}{x y:I}(hi:O[i]? =some x)(d:O[j]? =some y)(h:a<=i/\i<b/\a<=j/\j<b):Sg a b O ((O.set j x).set i y):=
 ⟨VW d hi,λq k=>by rw[nN d hi,ag co,ag co]⟩
def seg(h:Sg a b O us)(x:a<=b)(y:b<=O.length):((us.take b).drop a).Perm ((O.take b).drop a):=by
 have z:=h.len;have q:us.take a=O.take a:=by
  apply List.ext_getElem?;intro j;rw[Br,Br];split
  .exact h.2 j co
  .rfl
 have w:us.drop b=O.drop b:=by apply List.ext_getElem?;intro j;rw[Bq,Bq];exact h.2 _ co
 have e:∀l:List I,l=l.take a++((l.take b).drop a++l.drop b):=λl=>by
  have k:l.take a=(l.take b).take a:=by rw[List.take_take];congr 1;omega
  rw[<-ck,k,mU,mU]
 have d:=h.1;rw[e us,e O,q,w]at d;exact(List.perm_append_right_iff _).1 ((List.perm_append_left_iff _).1 d)
def mem(h:Sg a b O us)(k:a<=b)(q:b<=O.length){j:Nat}{y:I}(x:us[j]? =some y)(B:a<=j)(C:j<b):∃i,a<=i/\i<b/\O[i]? =some y:=by have z:y∈(us.take b).drop a:=aD (i:=j - a) (by rw[Bq,Br,au co,show a+(j - a)=j by omega];exact x);have A:=(h.seg k q).mem_iff.1 z;obtain⟨i,d⟩:=hJ.1 A;have w:=(cX.1 d).1;simp at w;rw[Bq,Br,au co]at d;exact⟨a+i,co,co,d⟩
end Sg
def mx(O:List I)(i j:Nat):Prop:=∀d h,O[i]? =some d->O[j]? =some h->be d.rx h.rx<=0
def j9(a b:Nat)(O:List I):Prop:=∀i d,a<=i->i<d->d<b->mx O i d
def ng(a b:Nat)(O:List I):Prop:=∀d,a<=d->d<b->0<a->mx O (a - 1) d
def sB{x y z:Rx}(d:be x y<=0)(h:be y z<=0):be x z<=0:=(xh x y z).le d h
def qT{x y:Rx}(h:¬be x y<0):be y x<=0:=by have:=kf x y;omega
def ng.sg{a b:Nat}{O j:List I}(h:ng a b O)(k:Sg a b O j)(y:b<=O.length):ng a b j:=by intro F w x q D E d A;obtain⟨i,B,C,z⟩:=k.mem co y A w x;rw[k.2 _ co]at d;exact h i B C q D E d z
def afK{O:List I}(h:j9 0 O.length O):lq (O.map I.rx):=by unfold lq;rw[List.pairwise_map,List.pairwise_iff_getElem];intro i q j d k;exact h i q co k d _ _ (a' j) (a' d)
section
variable {s:Sl} {l O:List I} {w w1:J}
def Sq.lt(h:Sq s l w w1 O)(k:I.a9 l<=1000000):O.length<=1000000/\s.n=O.length:=by have:=I.gh l;have d:=h.n;have j:=h.len;omega
def eH{O:List I}{i:Nat}(h:i<O.length):∃d,O[i]? =some d:=⟨O[i],a' h⟩
def aez(h:Sq s l w w1 O)(F:I.a9 l<=1000000){a b:Nat}(K:a<b)(L:b<=O.length):
  ai V QC #[s.v,.i (a:Int),.i (b:Int),.func (.func cE) #[] #[]] w1 λr q=>r=ae (.tuple #[])/\∃d,Sq s l w q d/\Sg a b O d:=by
 have Q:=(h.lt F).1;have loop:∀(D i j:Nat) (d:List I) (k:J),j - i<D->a<=i->i<=j+1->j<b->Sq s l w k d->Sg a b O d->yU.L0 s (i:Int) (j:Int) k λr q=>r=ae (.tuple #[])/\∃d,Sq s l w q d/\Sg a b O d:=by
  intro D;induction D with
  |zero=>intro i j d k C;omega
  |succ D G=>
   intro i j d k C M N P x g;have hlen:=g.len;refine yU.bE (aF (λE=>?_) (λE=>⟨rfl,d,x,g⟩));obtain⟨T,z⟩:=eH (O:=d) (i:=j) co;obtain⟨S,y⟩:=eH (O:=d) (i:=i) co;refine x.swap z y rfl rfl λH B=>?_;show yU.L0 _ _ _ _ _;have A:aj .i64 ((j:Int) - 1)=((j - 1:Nat):Int):=by rw[aQ _ co];omega
   rw[bc _ co,A];exact G (i+1) (j - 1) _ H co co co co B (g.trans (Sg.swap z y co))
 have e:aj .i64 ((b:Int) - 1)=((b - 1:Nat):Int):=by rw[aQ _ co];omega
 refine yU.ok ?_;rw[e];exact loop (b - 1 - a+1) a (b - 1) O w1 co (br _) co co h (Sg.refl _ _ _)
def Sq.tree(h:Sq s l w w1 O):(oO s O).P w1:=by unfold oO I.P;exact⟨(h.H.get 0:aG w1 aZ 4 s (O.flatMap I.c)).bf,SU (h.H.getD 0) h.p⟩
def Sq.bz(h:Sq s l w w1 O){d:J}(f:af w1 d):Sq s l w d O:=⟨h.H.bz f,h.p⟩
def Ti{U:Nat}(x:I.a9 O<=1000000)(d:U∉(oO s O).fp)(a b c k:Nat)(hk:k<=90)(K:a<O.length)(L:b<O.length)(M:c<O.length){w:J}(q:(oO s O).P w)(N:lH U k w):
  ai V Qx #[s.v,.i (a:Int),.i (b:Int),.i (c:Int),.pointer (some (ab U)),.func (.func cE) #[] #[]] w λr B=>(∃m A:Nat,r=ae (.i (m:Int))/\(m=a\/m=b\/m=c)/\A<=k+3/\lH U A B)/\Fr (·=U) w B:=by have y:∀C∈(oO s O).fp,¬C=U:=λC W e=>d (e▸W);refine U4.ok ((D0 x d a b k co K L q N).mono ?_);rintro _ w1 ⟨⟨D,E,Y,rfl,h1,aa,Q⟩,h⟩;refine⟨_,_,rfl,(D0 x d E c Y co co M (Ir q h y) Q).mono ?_⟩;rintro _ w2 ⟨⟨F,c2,Z,rfl,h2,ac,S⟩,z⟩;refine⟨_,_,rfl,(D0 x d D F Z co co co (Ir (Ir q h y) z y) S).mono ?_⟩;rintro _ w3 ⟨⟨a3,G,k3,rfl,h3,ad,T⟩,H⟩;exact⟨_,_,rfl,⟨G,k3,rfl,co,co,T⟩,(h.trans z λ_ _ j=>j).trans H λ_ _ j=>j⟩
def aey(h:Sq s l w w1 O)(W:I.a9 l<=1000000){a b:Nat}(ah:a+12<b)(hb:b<=O.length):
  ai V Qu #[s.v,.i (a:Int),.i (b:Int),.func (.func cE) #[] #[]] w1 λr A=>∃(p:Nat) (k:Int),r=ae (.tuple #[.i (p:Int),.i k])/\a<=p/\p<b/\Sq s l w A O:=by
 have hl:=(h.lt W).1;have Y:I.a9 O<=1000000:=by rw[If h.p];exact W
 have G:=h.tree;obtain⟨L,hL⟩:∃L,L=b - a:=⟨_,rfl⟩;have eL:aj .i64 ((b:Int) - (a:Int))=(L:Int):=by rw[aQ _ co];omega
 have eq:∀k:Nat,k<=3->aj .i64 ((a:Int)+aj .i64 (aj .i64 (bQ (L:Int) 4) *(k:Int)))=((a+L / 4 *k:Nat):Int):=λk M=>by
  have x:bQ (L:Int) 4=((L / 4:Nat):Int):=rfl;have S:L / 4 *k<=L:=bb (Nat.mul_le_mul_left _ (by omega:k<=4)) (Nat.div_mul_le_self L 4);rw[x,aQ ((L / 4:Nat):Int) co];have C:((L / 4:Nat):Int) *(k:Int)=((L / 4 *k:Nat):Int):=by rw[Int.natCast_mul]
  rw[C,aQ ((L / 4 *k:Nat):Int) co,aQ _ co];omega
 have q1:=eq 1 co;have q2:=eq 2 co;have q3:=eq 3 co;refine BS.ok ?_;have Q:af w1 (w1.alloc (.cells #[.i 0] cb)):=Fr.alloc _ _ _;have T:lH w1.heap.size 0 (w1.alloc (.cells #[.i 0] cb)):=kX w1 _;have H:w1.heap.size∉(oO s O).fp:=λh=>absurd (I.lt _ G _ h) co;have nd:∀P∈(oO s O).fp,¬P=w1.heap.size:=λP U e=>H (e▸U);have fin:∀{d:J} {p k:Nat},a<=p->p<b->lH w1.heap.size k d->af w1 d->BS.S5 (ab w1.heap.size) (p:Int) d λr A=>∃(p:Nat) (k:Int),r=ae (.tuple #[.i (p:Int),.i k])/\a<=p/\p<b/\Sq s l w A O:=λ{d p k} E F y f=>
  ⟨(k:Int),Ke y,bT (λ_=>⟨p,1,rfl,E,F,h.bz f⟩) λ_=>bT (λ_=>⟨p,2,rfl,E,F,h.bz f⟩) λ_=>⟨p,0,rfl,E,F,h.bz f⟩⟩
 have new:∀{d q:J},af w1 d->Fr (·=w1.heap.size) d q->af w1 q:=λf g=>f.trans g λP U e=>by subst e;omega
 rw[eL];show bA (av ((L:Int)>=8)) (bA (av ((L:Int)>=50)) _ _) _;have ac:aj .i64 ((a:Int)+aj .i64 (aj .i64 (bQ (L:Int) 4) *1))=((a+L / 4 *1:Nat):Int):=q1;have ad:aj .i64 ((a:Int)+aj .i64 (aj .i64 (bQ (L:Int) 4) *2))=((a+L / 4 *2:Nat):Int):=q2;have ag:aj .i64 ((a:Int)+aj .i64 (aj .i64 (bQ (L:Int) 4) *3))=((a+L / 4 *3:Nat):Int):=q3;rw[ac,ad,ag];have Z:∀{d:J} {i j k n:Nat},n<=60->a<=i->i<b->a<=j->j<b->a<=k->k<b->lH w1.heap.size n d->af w1 d->BS.S4 s (ab w1.heap.size) (i:Int) (j:Int) (k:Int) d λr A=>∃(p:Nat) (k:Int),r=ae (.tuple #[.i (p:Int),.i k])/\a<=p/\p<b/\Sq s l w A O:=by intro d i j k n hn i1 i2 j1 j2 k1 k2 y f;refine(Ti Y H i j k n co co co co (G.bz f) y).mono ?_;rintro _ q ⟨⟨m,z,rfl,S,M,N⟩,D⟩;exact⟨_,rfl,fin co co N (new f D)⟩
 have B:∀{d:J} {i n:Nat} {K:Int->J->Prop},n<=50->a+1<=i->i+1<b->lH w1.heap.size n d->af w1 d->(∀(m z:Nat) (q:J),a<=m->m<b->z<=n+3->lH w1.heap.size z q->af w1 q->K (m:Int) q)->r0 Qw #[s.v,.i (i:Int),.pointer (some (ab w1.heap.size)),.func (.func cE) #[] #[]] d K:=by
  intro d i n K hn i1 i2 y f hK;have x:aj .i64 ((i:Int) - 1)=((i - 1:Nat):Int):=by rw[aQ _ co];omega
  refine U3.ok ?_;rw[x,bc _ co];refine(Ti Y H (i - 1) i (i+1) n co co co co (G.bz f) y).mono ?_;rintro _ q ⟨⟨m,z,rfl,S,M,N⟩,D⟩;exact⟨_,rfl,_,rfl,hK m z q co co M N (new f D)⟩
 have d1:3<=L / 4:=co
 have d2:L / 4 *4<=L:=Nat.div_mul_le_self L 4;refine aM (aR co) (aF (λaa=>?_) (λaa=>Z co co co co co co co T Q));refine B co co co T Q λm1 k1 d a1 a2 ak c1 g1=>B co co co c1 g1 λm2 k2 q b1 b2 al c2 g2=>B co co co c2 g2 λm3 k3 w4 x C am c3 g3=>Z co a1 a2 b1 b2 x C c3 g3
end
section
variable {s:Sl} {l O:List I} {w w1:J}
def Sq.of(h:Sq s l w w1 O){q:J}{k:List I}(A:aG q aZ 4 s (k.flatMap I.c))(B:k.Perm O)(f:Fr (·∈az s) w1 q):Sq s l w q k:=by
 have x:∀b∈I.bj l,¬b∈az s:=λb j z=>h.H.dj _ (b0.2 rfl) b (aT.2 j) _ (b0.2 rfl) z;refine⟨⟨h.H.fr.trans f λ_ _ h=>h,λe d=>?_,λe d=>?_,λe d=>?_,?_,λe d b j C y=>?_⟩,B.trans h.p⟩
 .cases b0.1 d;exact A
 .cases b0.1 d;exact aek (h.H.getD 0) f x
 .cases b0.1 d;exact h.H.new (.row aZ 4 s (O.flatMap I.c)) (b0.2 rfl)
 .exact h.H.nd
 .cases b0.1 y;exact h.H.dj e d b j (.row aZ 4 s (O.flatMap I.c)) (b0.2 rfl)
def Sq.dj(h:Sq s l w w1 O):∀d∈az s,d∉I.bj O:=λd k j=>
 h.H.dj _ (b0.2 rfl) d (aT.2 (aaU h.p j)) _ (b0.2 rfl) k
def Sg.mid{A X j Z:List I}(h:j.Perm X):Sg A.length (A.length+X.length) (A++X++Z) (A++j++Z):=by
 have k:=h.length_eq;refine⟨(h.append_left A).append_right Z,λq d=>?_⟩;rw[ck,ck];rcases d with d|d
 .rw [Hd d,Hd d]
 .rw [pO co,pO co,pO co,pO co,k]
def afL{A k Z:List I}(h:lq (k.map I.rx)):j9 A.length (A.length+k.length) (A++k++Z):=by
 intro i x y z B C D d j;unfold lq at h;rw[List.pairwise_map,List.pairwise_iff_getElem]at h;rw[ck,pO co,Hd co]at d j;obtain⟨q,d⟩:=cX.1 d;obtain⟨w,j⟩:=cX.1 j;have:=h (i - A.length) (x - A.length) q w co
 rwa[d,j]at this
def aev(h:Sq s l w w1 O)(G:I.a9 l<=1000000){a b:Nat}(M:a<=b)(N:b<=O.length):
  ai V Gx #[s.v,.i (a:Int),.i (b:Int),.func (.func cE) #[] #[]] w1 λr L=>r=ae (.tuple #[])/\∃x,Sq s l w L x/\Sg a b O x/\j9 a b x:=by
 have K:I.a9 O<=1000000:=by rw[If h.p];exact G
 obtain⟨d,y⟩:∃d,d=O.take a:=⟨_,rfl⟩;obtain⟨X,z⟩:∃X,X=(O.take b).drop a:=⟨_,rfl⟩;obtain⟨j,F⟩:∃j,j=O.drop b:=⟨_,rfl⟩;have k:d.length=a:=by rw[y,List.length_take];omega
 have q:d.length+X.length=b:=by rw[k,z,List.length_drop,List.length_take];omega
 have e:O=d++X++j:=by
  have D:d=(O.take b).take a:=by rw[y,List.take_take];congr 1;omega
  rw[D,z,mU,F,mU]
 have c:=Ze s O w1 K (h.H.get 0) (SU (h.H.getD 0) h.p) h.dj d X j e b q.symm;rw[k]at c;refine c.mono ?_;rintro _ P ⟨⟨rfl,E⟩,C⟩;have B:=afF X;have g:Sg a b O (d++gJ X++j):=by have:=Sg.mid (A:=d) (Z:=j) B;rw[<-e,q,k]at this;exact this
 refine⟨rfl,_,h.of E g.1 C,g,?_⟩;have:=afL (A:=d) (Z:=j) (afD X);rw[B.length_eq,q,k]at this;exact this
end
section
variable {s:Sl} {l O us:List I} {w w1 w2:J}
def Sq.base(h:Sq s l w w1 O):Sq s l w1 w1 O:=⟨⟨Fr.refl _ _,h.H.own,h.H.rd,λe j b d=>.inr (by cases b0.1 j;exact d),h.H.nd,h.H.dj⟩,h.p⟩
def Sq.comp(h:Sq s l w w1 O)(k:Sq s l w1 w2 us):Sq s l w w2 us:=⟨⟨h.H.fr.trans k.H.fr λ_ _ h=>h,k.H.own,k.H.rd,λe j b d=>.inr (by cases b0.1 j;exact d),k.H.nd,k.H.dj⟩,k.p⟩
def Sq.E6(h:Sq s l w w1 O){U:Nat}(x:U∉az s)(y:U∉I.bj l)(z:w.heap.size<=U)(f:Fr (·=U) w1 w2):Sq s l w w2 O:=by
 refine⟨⟨h.H.fr.trans f λB A e=>co,λe d=>?_,λe d=>?_,h.H.new,h.H.nd,h.H.dj⟩,h.p⟩
 .refine e.st w1 w2 (λb q k=>f.cB b k λj=>?_) (h.H.own e d);cases b0.1 d;exact x (j▸q)
 .refine e.st w1 w2 (λb q k=>f.cB b k λj=>?_) (h.H.rd e d);cases b0.1 d;exact y (j▸aT.1 q)
end
def agA{t:ByteArray}{m:Nat}{K:UInt8->Prop}(h:(List.range 256).all (λm=>match t[m]? with |some b=>Nat.ble (2^b.toNat) (2 *m)||Nat.beq m 0|none=>false)=true)(q:m<256)(w:0<m)(k:∀b:UInt8,2^b.toNat<=2 *m->K b):∃b:UInt8,t[m]? =some b/\K b:=by
 have:=ff.1 h m (List.mem_range.2 q);split at this
 .rename_i b j;refine⟨b,j,k b ?_⟩;rcases(Bool.or_eq_true _ _).mp this with d|d
  .exact Nat.le_of_ble_eq_true d
  .have:=Nat.eq_of_beq_eq_true d;omega
 .cases this
def YK(x:Nat)(h:0<x)(M:x<4294967296)(w:J):ai V Gf #[.u (x:Int)] w λr B=>∃t:Nat,r=ae (.i (t:Int))/\2^t<=2 *x/\B=w:=by
 let q:aK:=λr B=>∃t:Nat,r=ae (.i (t:Int))/\2^t<=2 *x/\B=w
 have F:∀(y n:Nat),0<y->y<256->n<=100->y *2^n<=x->k2.S2 (y:Int) (n:Int) w q:=by
  intro y n h D H j;have e:aj .u8 (y:Int)=(y:Int):=by rw[IntKind.wrap_u8];omega
  show(0:Int)<=aj .u8 (y:Int)/\_;rw[e];refine⟨co,?_⟩;refine agA (by kernel_rfl) (show y<256 from D) (show 0<y from h) λb G=>?_;have L:=b.toNat_lt;have I:aj .i64 ((n:Int)+aj .i64 (b.toNat:Int))=((n+b.toNat:Nat):Int):=by rw[aQ (b.toNat:Int) co,aQ _ co];omega
  refine⟨n+b.toNat,?_,?_,rfl⟩
  .rw [I]
  .rw [Nat.pow_add]
   calc 2^n *2^b.toNat<=2^n *(2 *y):=Nat.mul_le_mul_left _ G
    _=2 *(y *2^n):=by rw[Nat.mul_comm y,Nat.mul_left_comm]
    _<=2 *x:=Nat.mul_le_mul_left _ j
 have C:∀(y k:Nat),Int.fdiv (y:Int) (k:Int)=((y / k:Nat):Int):=λy k=>by rw[Int.fdiv_eq_ediv_of_nonneg _ co];rfl
 have E:∀(y n:Nat),0<y->y<65536->n<=50->y *2^n<=x->k2.S1 (y:Int) (n:Int) w q:=by
  intro y n h D H j;refine aF (λd=>?_) (λd=>F y n h co co j);have z:aj .i64 ((n:Int)+8)=((n+8:Nat):Int):=by rw[aQ _ co];omega
  have A:Int.fdiv (y:Int) (2^8)=((y / 256:Nat):Int):=C y 256;rw[z,A];refine F (y / 256) (n+8) co co co (bb ?_ j);rw[Nat.pow_add,Nat.mul_comm (2^n),<-Nat.mul_assoc];exact Nat.mul_le_mul_right _ (Nat.div_mul_le_self y 256)
 have K:k2.S0 (x:Int) ((0:Nat):Int) w q:=by
  refine aF (λd=>?_) (λd=>E x 0 h co co co);have z:aj .i64 (((0:Nat):Int)+16)=((16:Nat):Int):=by rw[aQ _ co];rfl
  have A:Int.fdiv (x:Int) (2^16)=((x / 65536:Nat):Int):=C x 65536;rw[z,A];exact E (x / 65536) 16 co co co (Nat.div_mul_le_self x 65536)
 refine F1.ok ((k2.ok (aN (aW co) K)).mono ?_);rintro _ N ⟨t,rfl,d,rfl⟩;exact⟨_,rfl,t,rfl,d,rfl⟩
def Zl(x:Nat)(k:0<x)(A:x<=1000000)(w:J):ai V Gy #[.i (x:Int)] w λr y=>∃m:Nat,r=ae (.u (m:Int))/\0<m/\m<=2 *x/\y=w:=by
 refine U5.ok ?_;have e:aj .u64 (x:Int)=(x:Int):=IntWalk.u64_in _ co;rw[e];refine(YK x k co w).mono ?_;rintro _ B ⟨t,rfl,h,rfl⟩;have z:t<64:=by
  by_cases q:t<64
  .exact q
  .have:2^64<=2^t:=Nat.pow_le_pow_right co co;omega
 have d:min (a0 (t:Int)) (IntKind.bits .u64)=t:=by show min t 64=t;omega
 have j:aj .u64 (1 *2^t)=((2^t:Nat):Int):=by
  have:(1 *2^t:Int)=((2^t:Nat):Int):=by rw[Int.one_mul];exact(Int.natCast_pow 2 t).symm
  rw[this];clear this d;generalize 2^t=p at h ⊢;exact IntWalk.u64_in _ co
 refine⟨_,rfl,co,2^t,?_,Nat.two_pow_pos t,h,rfl⟩;rw[d,j]
def XX(t:Int){m:Nat}(j:0<m)(h:m<4294967296):∃k:Nat,k<m/\kP .u64 t (aj .u64 ((m:Int) - 1))=(k:Int):=by
 have e:aj .u64 ((m:Int) - 1)=((m - 1:Nat):Int):=by rw[IntWalk.u64_in _ co];omega
 rw[e];unfold kP;have d:(e9 (IntKind.bits .u64) t&&& e9 (IntKind.bits .u64) ((m - 1:Nat):Int)).toNat<=m - 1:=by show(e9 64 t&&& e9 64 ((m - 1:Nat):Int)).toNat<=_;rw[BitVec.toNat_and,BitVec.ofInt_natCast,BitVec.toNat_ofNat,Nat.mod_eq_of_lt co];exact Nat.and_le_right
 exact⟨_,co,IntWalk.u64_in _ co⟩
def jw(U:Nat)(u:Int)(w:J):Prop:=w.heap[U]? =some (.cells #[.u u] Ix (0,0))
section
variable {U:Nat} {u v:Int} {w Y:J}
def jw.ld(h:jw U u w):w.cell? (ab U)=some (.u u):=by
 have:=cellAt (p:=ab U) (i:=0) (v:=.u u) h rfl rfl
 rwa[jq]at this
def jw.fr{M:Nat->Prop}(h:jw U u w)(f:Fr M w Y)(d:¬M U):jw U u Y:=by unfold jw at h ⊢;rw[f.cB U (lt_of_heap h) d];exact h
def jw.st(h:jw U u w){K:J->Prop}(x:∀Y,jw U v Y->Fr (·=U) w Y->K Y):aS w (ab U) (.u v) K:=by obtain⟨d,j,k,q⟩:=vR h 0 ws (.u v);rw[jq]at d j k q;exact⟨d,j,x _ (by unfold jw;rw[k];rfl) q⟩
def jw.dr(h:jw U u w):jw U u w.drew:=h.fr (M:=F0) (Fr.drew _ w) id
def ZG(h:jw U u w):ai V QE #[.pointer (some (ab U))] w λr Y=>∃t:Int,r=ae (.u t)/\jw U t Y/\Fr (·=U) w Y:=by refine U7.ok ?_;refine⟨_,h.dr.ld,_,h.dr.ld,h.dr.st λA j x=>⟨_,j.dr.ld,_,j.dr.ld,j.dr.st λB k y=>⟨_,k.dr.ld,_,k.dr.ld,k.dr.st λC q z=>⟨_,q.ld,_,rfl,q,?_⟩⟩⟩⟩;have d:∀w:J,Fr (·=U) w w.drew:=λw=>Fr.drew _ _;have tr:∀{a b c:J},Fr (·=U) a b->Fr (·=U) b c->Fr (·=U) a c:=λf g=>f.trans g λ_ _ h=>h;exact tr (tr (tr (d _) x) (tr (d _) y)) (tr (d _) z)
end
section
variable {s:Sl} {l O:List I} {w w1:J}
def aes(h:Sq s l w w1 O)(hz:I.a9 l<=1000000){a b:Nat}(ah:a<=b)(hb:b<=O.length):
  ai V Qt #[s.v,.i (a:Int),.i (b:Int),.func (.func cE) #[] #[]] w1 λr y=>r=ae (.tuple #[])/\∃d,Sq s l w y d/\Sg a b O d:=by
 have hl:=(h.lt hz).1;obtain⟨L,hL⟩:∃L,L=b - a:=⟨_,rfl⟩;have eL:aj .i64 ((b:Int) - (a:Int))=(L:Int):=by rw[aQ _ co];omega
 refine q'.ok ?_;rw[eL];refine aF (λh8=>?_) (λ_=>⟨rfl,O,h,Sg.refl _ _ _⟩);have U:bQ (L:Int) 4=((L / 4:Nat):Int):=rfl;have W:aj .i64 (aj .i64 (bQ (L:Int) 4) *2)=((L / 4 *2:Nat):Int):=by rw[U,aQ ((L / 4:Nat):Int) co,aQ _ co];omega
 have B:aj .i64 ((a:Int)+aj .i64 (aj .i64 (bQ (L:Int) 4) *2))=((a+L / 4 *2:Nat):Int):=by rw[W,aQ _ co];omega
 obtain⟨c,hc⟩:∃c,c=a+L / 4 *2:=⟨_,rfl⟩;rw[<-hc]at B;have Y:aj .i64 ((c:Int)+1)=((c+1:Nat):Int):=bc _ co;have Z:aj .i64 ((c:Int) - 1)=((c - 1:Nat):Int):=by rw[aQ _ co];omega
 obtain⟨j,Q⟩:∃j,j=w1.heap.size:=⟨_,rfl⟩;have hd:j∉(oO s O).fp:=λq=>absurd (I.lt _ h.tree _ q) co;have z:j∉az s:=λq=>by have:=(En.row aZ 4 s (O.flatMap I.c)).lt w1 (h.H.own _ (b0.2 rfl)) j q;omega
 have E:j∉I.bj l:=λq=>by have:=(En.trees l).lt w1 (h.H.rd _ (b0.2 rfl)) j (aT.2 q);omega
 have G:w.heap.size<=j:=by have:=h.fr.size;omega
 have loop:∀(D idx m:Nat) (u:Int) (d:List I) (x:J),c+2 - idx<D->a<=idx->0<m->m<=2 *L->jw j u x->Sq s l w x d->Sg a b O d->q'.L1 s (a:Int) (L:Int) (ab j) (m:Int) (idx:Int) x λr y=>r=ae (.tuple #[])/\∃d,Sq s l w y d/\Sg a b O d:=by
  intro D;induction D with
  |zero=>intro idx m u d x hD;omega
  |succ D ih=>
   intro idx m u d x hD hi q F hu M g;have hlen:=g.len;refine q'.fO ?_;rw[B,Y];refine aF (λac=>?_) (λac=>⟨rfl,d,M,g⟩);refine(ZG hu).mono ?_;rintro _ A ⟨t,rfl,ag,f3⟩;refine⟨_,rfl,?_⟩;have N:=M.E6 z E G f3;obtain⟨k,hk,ek⟩:=XX t q co;show q'.S2 _ _ _ _ _ _ (aj .i64 (kP .u64 t (aj .u64 ((m:Int) - 1)))) _ _;rw[ek,aQ (k:Int) co];have s3:∀o:Nat,o<L->q'.S3 s (a:Int) (L:Int) (ab j) (m:Int) (idx:Int) (o:Int) A λr y=>r=ae (.tuple #[])/\∃d,Sq s l w y d/\Sg a b O d:=by
    intro o ho;have C:aj .i64 ((a:Int)+(o:Int))=((a+o:Nat):Int):=by rw[aQ _ co];omega
    obtain⟨ak,S⟩:=eH (O:=d) (i:=a+o) co;obtain⟨al,T⟩:=eH (O:=d) (i:=idx) co;refine N.base.swap S T C rfl λw4 P=>?_;show q'.L1 _ _ _ _ _ _ _ _;rw[bc _ co];exact ih (idx+1) m t _ w4 co co q F (ag.fr P.fr z) (N.comp P) (g.trans (Sg.swap S T co))
   refine aF (λaa=>?_) (λaa=>s3 k co);have C:aj .i64 ((k:Int) - (L:Int))=((k - L:Nat):Int):=by rw[aQ _ co];omega
   rw[C];exact s3 (k - L) co
 have f0:Fr (·=j) w1 (w1.alloc (.cells #[.u 0] Ix)):=Fr.alloc _ _ _;have ad:jw j 0 (w1.alloc (.cells #[.u 0] Ix)):=Q▸kX w1 _;rw[B,Z,show nb w1=ab j from Q▸rfl];refine ad.st (K:=λx=>ai V Gy #[.i (L:Int)] x λr_ A=>∃t21:Int,r_=ae (.u t21)/\q'.L1 s (a:Int) (L:Int) (ab j) t21 ((c - 1:Nat):Int) A λr y=>r=ae (.tuple #[])/\∃d,Sq s l w y d/\Sg a b O d) λx af f2=>?_;refine(Zl L co co x).mono ?_;rintro _ A ⟨m,rfl,q,F,rfl⟩;exact⟨_,rfl,loop (c+2+1) (c - 1) m _ O _ co co q F af ((h.E6 z E G f0).E6 z E G f2) (Sg.refl _ _ _)⟩
end
structure zn(O us:List I)(pv:I)(a b i j:Nat):Prop where
 g:Sg a b O us
 z:us[a]? =some pv
 i1:a+1<=i
 ij:i<=j+1
 jb:j<b
 lo:∀(q:Nat) x,a<q->q<i->us[q]? =some x->¬be pv.rx x.rx<0
 hi:∀(q:Nat) x,j<q->q<b->us[q]? =some x->be pv.rx x.rx<0
structure zm(us:List I)(pv:I)(a m b:Nat):Prop where
 z:us[a]? =some pv
 am:a<m
 mb:m<=b
 lo:∀(q:Nat) x,a<q->q<m->us[q]? =some x->¬be pv.rx x.rx<0
 hi:∀(q:Nat) x,m<=q->q<b->us[q]? =some x->be pv.rx x.rx<0
section
variable {s:Sl} {l O:List I} {w w1:J}
def aet(h:Sq s l w w1 O)(hz:I.a9 l<=1000000){a b p:Nat}{E:I}(hb:b<=O.length)(Z:O[p]? =some E)(h1:a<=p)(H:p<b):
  ai V QB #[s.v,.i (a:Int),.i (b:Int),.i (p:Int),.func (.func cE) #[] #[]] w1 λr w'=>∃(m:Nat) (k:List I),r=ae (.i (m:Int))/\Sq s l w w' k/\Sg a b O k/\zm k E a m b:=by
 have hl:=(h.lt hz).1
 let Y:aK:=λr w'=>∃(m:Nat) (k:List I),r=ae (.i (m:Int))/\Sq s l w w' k/\Sg a b O k/\zm k E a m b
 have pr:∀{j:Nat},0<j->j<=1000000->aj .i64 ((j:Int) - 1)=((j - 1:Nat):Int):=λh1 H=>by rw[aQ _ co];omega
 have l0:∀(D i j:Nat) (k:List I) (N:J),j+1 - i<D->zn O k E a b i j->Sq s l w N k->oU.L0 s (a:Int) (i:Int) (j:Int) N Y:=by
  intro D;induction D with
  |zero=>intro i j k N F;omega
  |succ D ih=>
   intro i j k N F d H;have hlen:=d.g.len;have s3:∀(i j:Nat) (C:J),j+1 - i<=D->zn O k E a b i j->(i<=j->∀y,k[i]? =some y->be E.rx y.rx<0)->(i<=j->∀y,k[j]? =some y->¬be E.rx y.rx<0)->Sq s l w C k->oU.S3 s (a:Int) (i:Int) (j:Int) C Y:=by
    intro i j C F d Q fy P;have af:=d.jb;have ac:=d.i1;have al:=d.ij;refine aF (λak=>?_) (λT=>?_)
    .have e:i=j+1:=co
     exact⟨i,k,rfl,P,d.g,d.z,co,co,d.lo,λB y h1 H=>d.hi B y co H⟩
    obtain⟨y,A⟩:=eH (O:=k) (i:=j) co;obtain⟨G,x⟩:=eH (O:=k) (i:=i) co;have lx:=fy co y A;have ly:=Q co G x;have am:i≠j:=λe=>by subst e;rw[A]at x;cases x;exact lx ly
    refine P.swap A x rfl rfl λU K=>?_;show oU.L0 _ _ _ _ _ _;rw[bc _ co,pr co co];have g:=nN x A;refine ih (i+1) (j - 1) _ U co ⟨d.g.trans (Sg.swap A x co),?_,co,co,co,λB ah L M q=>?_,λB ah L M q=>?_⟩ K
    .rw [g,ag co,ag co];exact d.z
    .rw [g,ag co]at q;split at q
     .cases q;exact lx
     .exact d.lo B ah L co q
    .rw [g]at q;split at q
     .cases q;exact ly
     .rw [ag co]at q;exact d.hi B ah co M q
   have l2:∀(e i j:Nat) (C:J),j+1 - i<e->j+1 - i<=D->zn O k E a b i j->(i<=j->∀y,k[i]? =some y->be E.rx y.rx<0)->Sq s l w C k->oU.L2 s (a:Int) (i:Int) (j:Int) C Y:=by
    intro e;induction e with
    |zero=>intro i j C he;omega
    |succ e ad=>
     intro i j C he F d Q P;have af:=d.jb;have ac:=d.i1;have al:=d.ij;refine oU.j7 (P.dr λU K=>aF (λT=>?_) (λak=>s3 i j U F d Q (λT=>co) K));obtain⟨y,A⟩:=eH (O:=k) (i:=j) co;refine K.cmp hz d.z A rfl rfl λW S=>aF (λab=>?_) (λaa=>s3 i j W F d Q (λ_ G x=>by rw[A]at x;cases x;exact aa) S);rw[pr co co];refine ad i (j - 1) W co co ⟨d.g,d.z,ac,co,co,d.lo,λB G L M q=>?_⟩ (λT=>Q co) S;by_cases eq:B=j
     .subst eq;rw[A]at q;cases q;exact ab
     .exact d.hi B G co M q
   have l1:∀(e i j:Nat) (C:J),j+1 - i<e->j+1 - i<=D->zn O k E a b i j->Sq s l w C k->oU.L1 s (a:Int) (i:Int) (j:Int) C Y:=by
    intro e;induction e with
    |zero=>intro i j C he;omega
    |succ e ad=>
     intro i j C he F d P;have af:=d.jb;have ac:=d.i1;have al:=d.ij;refine oU.fO (P.dr λU K=>aF (λT=>?_) (λak=>l2 (j+1 - i+1) i j U co F d (λT=>co) K));obtain⟨y,A⟩:=eH (O:=k) (i:=i) co;refine K.cmp hz d.z A rfl rfl λW S=>eb (λaa=>?_) (λab=>l2 (j+1 - i+1) i j W co F d (λ_ G x=>by rw[A]at x;cases x;exact eT ab) S);rw[bc _ co];refine ad (i+1) j W co co ⟨d.g,d.z,co,co,af,λB G L M q=>?_,d.hi⟩ S;by_cases eq:B=i
     .subst eq;rw[A]at q;cases q;exact iy aa
     .exact d.lo B G L co q
   exact oU.bE (l1 (j+1 - i+1) i j N co co d H)
 obtain⟨G,x⟩:=eH (O:=O) (i:=a) co;refine oU.ok (h.swap Z x rfl rfl λN H=>?_);rw[bc _ co,pr co co];have g:=nN x Z;refine l0 (b - 1+1 - (a+1)+1) (a+1) (b - 1) _ N co ⟨Sg.swap Z x co,?_,co,co,co,λB y L M=>co,λB y L M=>co⟩ H;rw[g];split
 .rename_i e;rw[e,Z]at x;rw[x]
 .rw [au rfl]
end
structure nX(O us:List I)(pv:I)(a b i j:Nat):Prop where
 g:Sg a b O us
 z:us[a]? =some pv
 i1:a+1<=i
 ij:i<=j+1
 jb:j<b
 lo:∀(q:Nat) x,a<q->q<i->us[q]? =some x->o7 pv x
 hi:∀(q:Nat) x,j<q->q<b->us[q]? =some x->¬o7 pv x
structure o2(us:List I)(pv:I)(a m b:Nat):Prop where
 z:us[m]? =some pv
 am:a<=m
 mb:m<b
 lo:∀(q:Nat) x,a<=q->q<m->us[q]? =some x->o7 pv x
 hi:∀(q:Nat) x,m<q->q<b->us[q]? =some x->¬o7 pv x
abbrev my(s:Sl)(l O:List I)(w:J)(h:I)(a b:Nat):aK:=λr j=>∃(m:Nat) (t:Bool) (d:List I),r=ae (.tuple #[.i (m:Int),.bool t])/\Sq s l w j d/\Sg a b O d/\o2 d h a m b
section
variable {s:Sl} {l O:List I} {w w1:J} {a b:Nat} {pv:I}
def nH{j:Nat}(d:0<j)(h:j<=1000000):aj .i64 ((j:Int) - 1)=((j - 1:Nat):Int):=by rw[aQ _ co];omega
def SV(hz:I.a9 l<=1000000)(hl:O.length<=1000000)(hb:b<=O.length){D:Nat}{A B C:Int->Int->J->Prop}(hA:∀(i j:Int) (w:J),(mF w λw1=>bA (av (i<=j)) (fx s i λp=>gC w1 (p.add (a0 i *4)) λQ S T U=>fx s (a:Int) λx=>gC w1 (x.add (a0 (a:Int) *4)) λW Y Z b3=>r0 cE #[.agg #[.i Q,.int .u8 S,.int .u8 T,U.v],.agg #[.i W,.int .u8 Y,.int .u8 Z,b3.v]] w1 λt L=>bA (av (t<0)) (A (aj .i64 (i+1)) j L) (B i j L)) (B i j w1))->A i j w)(hB:∀(i j:Int) (w:J),(mF w λw1=>bA (av (i<=j)) (fx s j λp=>gC w1 (p.add (a0 j *4)) λQ S T U=>fx s (a:Int) λx=>gC w1 (x.add (a0 (a:Int) *4)) λW Y Z b3=>r0 cE #[.agg #[.i Q,.int .u8 S,.int .u8 T,U.v],.agg #[.i W,.int .u8 Y,.int .u8 Z,b3.v]] w1 λt L=>bA (!(av (t<0))) (B i (aj .i64 (j - 1)) L) (C i j L)) (C i j w1))->B i j w)(k:List I)(hC:∀(i j:Nat) (h:J),j+1 - i<=D->nX O k pv a b i j->(i<=j->∀q,k[i]? =some q->¬o7 pv q)->(i<=j->∀q,k[j]? =some q->o7 pv q)->Sq s l w h k->C (i:Int) (j:Int) h):
  ∀(e i j:Nat) (h:J),j+1 - i<e->j+1 - i<=D->nX O k pv a b i j->Sq s l w h k->A (i:Int) (j:Int) h:=by
 have l2:∀(e i j:Nat) (h:J),j+1 - i<e->j+1 - i<=D->nX O k pv a b i j->(i<=j->∀q,k[i]? =some q->¬o7 pv q)->Sq s l w h k->B (i:Int) (j:Int) h:=by
  intro e;induction e with
  |zero=>intro i j h he;omega
  |succ e ad=>
   intro i j h he H d aa h3;have af:=d.jb;have ae:=d.i1;have ah:=d.ij;have hlen:=d.g.len;refine hB _ _ _ (h3.dr λw4 F=>aF (λP=>?_) (λag=>hC i j w4 H d aa (λP=>co) F));obtain⟨q,E⟩:=eH (O:=k) (i:=j) co;refine F.cmp hz E d.z rfl rfl λM G=>eb (λab=>?_) (λac=>hC i j M H d aa (λ_ N K=>by rw[E]at K;cases K;exact eT ac) G);rw[nH co co];refine ad i (j - 1) M co co ⟨d.g,d.z,ae,co,co,d.lo,λx N q1 q2 y=>?_⟩ (λP=>aa co) G;by_cases eq:x=j
   .subst eq;rw[E]at y;cases y;exact iy ab
   .exact d.hi x N co q2 y
 intro e;induction e with
 |zero=>intro i j h he;omega
 |succ e ad=>
  intro i j h he H d h3;have af:=d.jb;have ae:=d.i1;have ah:=d.ij;have hlen:=d.g.len;refine hA _ _ _ (h3.dr λw4 F=>aF (λP=>?_) (λag=>l2 (j+1 - i+1) i j w4 co H d (λP=>co) F));obtain⟨q,E⟩:=eH (O:=k) (i:=i) co;refine F.cmp hz E d.z rfl rfl λM G=>aF (λac=>?_) (λab=>l2 (j+1 - i+1) i j M co H d (λ_ N K=>by rw[E]at K;cases K;exact ab) G);rw[bc _ co];refine ad (i+1) j M co co ⟨d.g,d.z,co,co,af,λx N q1 q2 y=>?_,d.hi⟩ G;by_cases eq:x=i
  .subst eq;rw[E]at y;cases y;exact ac
  .exact d.lo x N q1 co y
def nX.swap{k:List I}{x y:I}{i j:Nat}(E:nX O k pv a b i j)(A:k[j]? =some x)(B:k[i]? =some y)(h:i<j)(F:o7 pv x)(G:¬o7 pv y):nX O ((k.set i x).set j y) pv a b (i+1) (j - 1):=by
 have g:=nN B A;have K:=E.jb;have H:=E.i1;refine⟨E.g.trans (Sg.swap A B co),?_,co,co,co,λq w C D d=>?_,λq w C D d=>?_⟩
 .rw [g,ag co,ag co];exact E.z
 .rw [g,ag co]at d;split at d
  .cases d;exact F
  .exact E.lo q w C co d
 .rw [g]at d;split at d
  .cases d;exact G
  .rw [ag co]at d;exact E.hi q w co D d
def nX.cut{q:List I}{y:I}{i j:Nat}(E:nX O q pv a b i j)(h:j<i)(k:q[j]? =some y):Sg a b O ((q.set j pv).set a y)/\o2 ((q.set j pv).set a y) pv a j b:=by
 have g:=nN k E.z;have C:=E.jb;have D:=E.i1;have F:=E.ij;refine⟨E.g.trans (Sg.swap E.z k co),?_,co,C,λw x A B d=>?_,λw x A B d=>?_⟩
 .rw [g];by_cases e:j=a
  .rw [au e];rw[e,E.z]at k;exact k.symm
  .rw [ag e,au rfl]
 .rw [g]at d;split at d
  .cases d;exact E.lo j y co co k
  .rw [ag co]at d;exact E.lo w x co co d
 .rw [g,ag co,ag co]at d;exact E.hi w x A B d
def aex(h:Sq s l w w1 O)(W:I.a9 l<=1000000){p:Nat}(Y:b<=O.length)(P:O[p]? =some pv)(h1:a<=p)(G:p<b):
  ai V QA #[s.v,.i (a:Int),.i (b:Int),.i (p:Int),.func (.func cE) #[] #[]] w1 (my s l O w pv a b):=by
 have Z:=(h.lt W).1;have l4:∀(D i j:Nat) (y:List I) (d:J),j+1 - i<D->nX O y pv a b i j->Sq s l w d y->jZ.L4 s (a:Int) (i:Int) (j:Int) d (my s l O w pv a b):=by
  intro D;induction D with
  |zero=>intro i j y d U;omega
  |succ D ih=>
   intro i j y d U q G;have hlen:=q.g.len;refine jZ.rL (SV (D:=D) W Z Y (A:=λi j d=>jZ.L5 s (a:Int) i j d (my s l O w pv a b)) (B:=λi j d=>jZ.L6 s (a:Int) i j d (my s l O w pv a b)) (C:=λi j d=>jZ.S7 s (a:Int) i j d (my s l O w pv a b)) (λi j d h=>jZ.Xt h) (λi j d h=>jZ.C' h) y ?_ (j+1 - i+1) i j d co co q G);intro i j w3 U q S T H;have af:=q.jb;have ad:=q.i1;have ae:=q.ij;obtain⟨N,x⟩:=eH (O:=y) (i:=j) co;refine aF (λaa=>?_) (λab=>?_)
   .refine H.swap q.z x rfl rfl λM E=>?_;have c:=q.cut co x;exact⟨j,false,_,rfl,E,c.1,c.2⟩
   obtain⟨F,k⟩:=eH (O:=y) (i:=i) co;have K:=T co N x;have L:=S co F k;have ac:i≠j:=λe=>by subst e;rw[x]at k;cases k;exact L K
   refine H.swap x k rfl rfl λM E=>?_;show jZ.L4 _ _ _ _ _ _;rw[bc _ co,nH co co];exact ih (i+1) (j - 1) _ M co (q.swap x k co K L) E
 obtain⟨F,k⟩:=eH (O:=O) (i:=a) co;refine jZ.ok (h.swap P k rfl rfl λd G=>?_);rw[bc _ co,nH co co];have g:=nN k P;have Q:nX O ((O.set a pv).set p F) pv a b (a+1) (b - 1):=⟨Sg.swap P k co,by
  rw[g];split
  .rename_i e;rw[e,P]at k;rw[k]
  .rw [au rfl],co,co,co,λag N q1 q2=>co,λag N q1 q2=>co⟩
 generalize(O.set a pv).set p F=y at Q G
 have hlen:=Q.g.len;refine SV (D:=b) W Z Y (A:=λi j d=>jZ.L0 s (a:Int) i j d (my s l O w pv a b)) (B:=λi j d=>jZ.L1 s (a:Int) i j d (my s l O w pv a b)) (C:=λi j d=>jZ.S2 s (a:Int) i j d (my s l O w pv a b)) (λi j d h=>jZ.bE h) (λi j d h=>jZ.fO h) y ?_ (b - 1+1 - (a+1)+1) (a+1) (b - 1) d co co Q G;intro i j w3 U q S T H;have af:=q.jb;have ad:=q.i1;have ae:=q.ij;obtain⟨N,x⟩:=eH (O:=y) (i:=j) co;refine aF (λaa=>?_) (λab=>?_)
 .refine H.swap q.z x rfl rfl λM E=>?_;have c:=q.cut co x;exact⟨j,true,_,rfl,E,c.1,c.2⟩
 obtain⟨F,k⟩:=eH (O:=y) (i:=i) co;have K:=T co N x;have L:=S co F k;have ac:i≠j:=λe=>by subst e;rw[x]at k;cases k;exact L K
 refine H.swap x k rfl rfl λM E=>?_;show jZ.L4 _ _ _ _ _ _;rw[bc _ co,nH co co];exact l4 (j - 1+1 - (i+1)+1) (i+1) (j - 1) _ M co (q.swap x k co K L) E
end
set_option maxHeartbeats 400000
def Ad(a b:Nat)(h:List I):Prop:=∀(d:Nat) x y,a<=d->d+1<b->h[d]? =some x->h[d+1]? =some y->be x.rx y.rx<=0
def Ad.H0{a b:Nat}{j:List I}(h:Ad a b j)(F:b<=j.length):j9 a b j:=by
 intro i d D E;induction d with
 |zero=>omega
 |succ d A=>
  intro y B C k z;obtain⟨x,q⟩:=eH (O:=j) (i:=d) co;have w:=h d x C co y q z;by_cases e:i=d
  .subst e;rw[q]at k;cases k;exact w
  .exact sB (A co co B x k q) w
structure tM(us:List I)(a i j:Nat):Prop where
 p:∀(q:Nat) x y,a<=q->q+1<i->q+1≠j->us[q]? =some x->us[q+1]? =some y->be x.rx y.rx<=0
 n:∀x y,a+1<=j->j+1<i->us[j - 1]? =some x->us[j+1]? =some y->be x.rx y.rx<=0
def tM.ad{q:List I}{a i j:Nat}(D:tM q a i j)(h:∀d k,a+1<=j->q[j - 1]? =some d->q[j]? =some k->be d.rx k.rx<=0):Ad a i q:=by
 intro y d k z A w x;by_cases e:y+1=j
 .subst e;exact h d k co w x
 .exact D.p y d k z A e w x
def tM.down{k:List I}{a i j:Nat}(D:tM k a i j){x y:I}(E:a+1<=j)(G:j<i)(z:k[j - 1]? =some x)(F:k[j]? =some y)(H:be y.rx x.rx<0):tM ((k.set j x).set (j - 1) y) a i (j - 1):=by
 have g:=nN F z;refine⟨λA u v C B K d h=>?_,λu v C B d h=>?_⟩
 .rw [g]at d h;by_cases q:A=j - 1
  .rw [au q]at d;rw[ag co,au co]at h;cases d;cases h;omega
  by_cases w:A=j
  .rw [ag q,au w]at d;rw[ag co,ag co]at h;cases d;subst w;exact D.n _ _ E B z h
  .rw [ag q,ag w]at d;rw[ag co,ag co]at h;exact D.p A u v C B co d h
 .rw [g,ag co,ag co]at d;rw[g,ag co,au co]at h;cases h;exact D.p (j - 1 - 1) u x co co co d (by rw[show j - 1 - 1+1=j - 1 by omega];exact z)
section
variable {s:Sl} {l O:List I} {w w1:J} {a b:Nat}
def aew(h:Sq s l w w1 O)(hz:I.a9 l<=1000000)(ac:a<b)(hb:b<=O.length)(af:ng a b O):
  ai V Qz #[s.v,.i (a:Int),.i (b:Int),.func (.func cE) #[] #[]] w1 λr w'=>∃(t:Bool) (d:List I),r=ae (.bool t)/\Sq s l w w' d/\Sg a b O d/\(t=true->j9 a b d):=by
 have hl:=(h.lt hz).1
 let P:aK:=λr w'=>∃(t:Bool) (d:List I),r=ae (.bool t)/\Sq s l w w' d/\Sg a b O d/\(t=true->j9 a b d)
 have l1:∀(D k i:Nat) (d:List I) (Y:J),D+k=5->a<i->i<=b->Ad a i d->Sq s l w Y d->Sg a b O d->jY.L1 s (a:Int) (b:Int) (i:Int) (k:Int) Y P:=by
  intro D;induction D with
  |zero=>
   intro k i d Y hD C E z S g;exact jY.fO (aN (aW co) ⟨false,d,rfl,S,g,λh=>by cases h⟩)
  |succ D ih=>
   intro k i d Y hD C E z S g;refine jY.fO (aM (aR co) ?_);have s7:∀(i:Nat) (d:List I) (q:J),a<i->i<=b->Ad a i d->Sq s l w q d->Sg a b O d->jY.S7 s (a:Int) (b:Int) (i:Int) (k:Int) q P:=by intro i d q C E z A g;show jY.L1 _ _ _ _ _ _ _;rw[bc _ co];exact ih (k+1) i d q co C E z A g
   have l6:∀(e i j:Nat) (d:List I) (q:J),b - j<e->a<i->i<j->j<=b->Ad a i d->Sq s l w q d->Sg a b O d->jY.L6 s (a:Int) (b:Int) (i:Int) (k:Int) (j:Int) q P:=by
    intro e;induction e with
    |zero=>intro i j d q he;omega
    |succ e ab=>
     intro i j d q he C ij jb z A g;have hlen:=g.len;refine jY.C' (aF (λah=>A.dr λT K=>?_) (λ_=>s7 i d q C co z A g));obtain⟨M,y⟩:=eH (O:=d) (i:=j) co;obtain⟨L,x⟩:=eH (O:=d) (i:=j - 1) co;refine K.cmp hz y x rfl (nH co co) λU N=>eb (λal=>s7 i d U C co z N g) (λW=>?_);refine N.swap x y (nH co co) rfl λw6 h6=>?_;rw[bc _ co];have gg:=nN y x;refine ab i (j+1) _ w6 co C co co (λB u v H Q F G=>?_) h6 (g.trans (Sg.swap x y co));rw[gg,ag co,ag co]at F G;exact z B u v H Q F G
   have s5:∀(i:Nat) (d:List I) (q:J),a<i->i<b->Ad a i d->Sq s l w q d->Sg a b O d->jY.S5 s (a:Int) (b:Int) (i:Int) (k:Int) q P:=by intro i d q C E z A g;refine aF (λ_=>?_) (λ_=>s7 i d q C co z A g);rw[bc _ co];exact l6 (b - (i+1)+1) i (i+1) d q co C co co z A g
   have l4:∀(j i:Nat) (d:List I) (q:J),a<=j->j<i->i<b->tM d a i j->Sq s l w q d->Sg a b O d->jY.L4 s (a:Int) (b:Int) (i:Int) (k:Int) (j:Int) q P:=by
    intro j;induction j with
    |zero=>
     intro i d q j1 j2 E Z A g;exact jY.rL (aN (aW co) (s5 i d q co E (Z.ad λL M h=>co) A g))
    |succ j ak=>
     intro i d q j1 j2 E Z A g;have hlen:=g.len;refine jY.rL (aM (aR co) (A.dr λT K=>?_));have ej:aj .i64 (((j+1:Nat):Int) - 1)=(j:Int):=nH co co;obtain⟨M,y⟩:=eH (O:=d) (i:=j+1) co;obtain⟨L,x⟩:=eH (O:=d) (i:=j) co;refine K.cmp hz y x rfl ej λU N=>eb (λaa=>s5 i d U co E (Z.ad λu v _ F G=>?_) N g) (λW=>?_)
     .rw [show j+1 - 1=j from rfl,x]at F;rw[y]at G;cases F;cases G;exact qT (iy aa)
     have W:=eT W;have hj:a+1<=j+1:=by
      by_cases e:a=j+1
      .have:=(af.sg g hb) a (br _) ac co L M (by rw[e];exact x) (by rw[e];exact y);have:=kf L.rx M.rx;omega
      .omega
     refine N.swap x y ej rfl λw6 h6=>?_;rw[ej];exact ak i _ w6 co co E (Z.down hj j2 x y W) h6 (g.trans (Sg.swap x y co))
   have s3:∀(i:Nat) (d:List I) (q:J),a<i->i<=b->Ad a i d->Sq s l w q d->Sg a b O d->jY.S3 s (a:Int) (b:Int) (i:Int) (k:Int) q P:=by
    intro i d q C E z A g;have hlen:=g.len;refine bT (λe=>?_) (λe=>?_)
    .have e:i=b:=by have:=eq_of_beq e;omega
     subst e;exact⟨true,d,rfl,A,g,λ_=>z.H0 co⟩
    have e:i≠b:=λh=>by subst h;simp at e
    refine aF (λ_=>⟨false,d,rfl,A,g,λh=>by cases h⟩) (λ_=>?_);have ei:aj .i64 ((i:Int) - 1)=((i - 1:Nat):Int):=nH co co;obtain⟨M,y⟩:=eH (O:=d) (i:=i) co;obtain⟨L,x⟩:=eH (O:=d) (i:=i - 1) co;refine A.swap x y ei rfl λT K=>?_;have gg:=nN y x;have g2:=g.trans (Sg.swap (a:=a) (b:=b) x y co);have low:∀(B:Nat) u v,a<=B->B+1<i - 1->((d.set i L).set (i - 1) M)[B]? =some u->((d.set i L).set (i - 1) M)[B+1]? =some v->be u.rx v.rx<=0:=λB u v H Q F G=>by rw[gg,ag co,ag co]at F G;exact z B u v H co F G
    refine aF (λS=>?_) (λS=>s5 i _ T C co (λB u v H Q=>?_) K g2)
    .rw [ei];exact l4 (i - 1) i _ T co co co ⟨λB u v H Q q3=>low B u v H co,λu v H Q=>co⟩ K g2
    .rw [aQ _ co]at S;omega
   have l2:∀(e i:Nat) (q:J),b - i<e->a<i->i<=b->Ad a i d->Sq s l w q d->jY.L2 s (a:Int) (b:Int) (i:Int) (k:Int) q P:=by
    intro e;induction e with
    |zero=>intro i q he;omega
    |succ e ab=>
     intro i q he C E z A;have hlen:=g.len;refine jY.j7 (A.dr λT K=>aF (λah=>?_) (λ_=>s3 i d T C E z K g));have ei:aj .i64 ((i:Int) - 1)=((i - 1:Nat):Int):=nH co co;obtain⟨M,y⟩:=eH (O:=d) (i:=i) co;obtain⟨L,x⟩:=eH (O:=d) (i:=i - 1) co;refine K.cmp hz y x rfl ei λU N=>eb (λaa=>?_) (λW=>s3 i d U C E z N g);rw[bc _ co];refine ab (i+1) U co co co (λB u v H Q F G=>?_) N;by_cases eq:B+1=i
     .subst eq;rw[show B+1 - 1=B from rfl,F]at x;rw[G]at y;cases x;cases y;exact qT (iy aa)
     .exact z B u v H co F G
   exact l2 (b - i+1) i Y co C E z S
 refine jY.ok ?_;rw[bc _ co];exact l1 5 0 (a+1) O w1 rfl co co (λB L M H Q=>co) h (Sg.refl _ _ _)
end
def iB(p c:Nat):Prop:=c=2 *p+1\/c=2 *p+2
structure rC(us:List I)(f lo hi r:Nat):Prop where
 p:∀(p c:Nat),lo<=p->iB p c->c<hi->p≠r->mx us (f+c) (f+p)
 n:∀(p c:Nat),lo<=p->iB p r->iB r c->c<hi->mx us (f+c) (f+p)
def rD(d:List I)(f lo hi:Nat):Prop:=∀(p c:Nat),lo<=p->iB p c->c<hi->mx d (f+c) (f+p)
def rC.heap{d:List I}{f lo hi r:Nat}(H:rC d f lo hi r)(h:∀c,iB r c->c<hi->mx d (f+c) (f+r)):rD d f lo hi:=by
 intro p c q j k;by_cases e:p=r
 .subst e;exact h c j k
 .exact H.p p c q j k e
def rC.down{q:List I}{f lo hi r c:Nat}(H:rC q f lo hi r)(N:lo<=r){x y:I}(E:iB r c)(K:c<hi)(z:q[f+c]? =some x)(L:q[f+r]? =some y)(lt:be y.rx x.rx<=0)(M:∀h,iB r h->h<hi->mx q (f+h) (f+c)):rC ((q.set (f+r) x).set (f+c) y) f lo hi c:=by
 have g:=nN L z;have G:=E;unfold iB at E;refine⟨λp h B w k D u v d j=>?_,λp h B w k D u v d j=>?_⟩
 .have C:=w;unfold iB at w;rw[g]at d j;rw[ag co]at j;by_cases e:p=r
  .subst e;rw[au rfl]at j;cases j;by_cases A:h=c
   .subst A;rw[au rfl]at d;cases d;exact lt
   .rw [ag co,ag co]at d;exact M h C k u x d z
  .rw [ag co]at j;by_cases A:h=r
   .subst A;rw[ag co,au rfl]at d;cases d;exact H.n p c B C G K x v z j
   .rw [ag co,ag co]at d;exact H.p p h B C k e u v d j
 .have F:=k;unfold iB at w k;have e:p=r:=co
  subst e;rw[g,ag co,ag co]at d;rw[g,ag co,au rfl]at j;cases j;exact H.p c h co F D co u x d z
section
variable {s:Sl} {l O:List I} {w w1:J}
def Tj(h:Sq s l w w1 O)(P:I.a9 l<=1000000){f lo hi:Nat}(hb:f+hi<=O.length)(H:rC O f lo hi lo)(al:lo<=hi):
  ai V QD #[s.v,.i (lo:Int),.i (hi:Int),.i (f:Int),.func (.func cE) #[] #[]] w1 λr S=>r=ae (.tuple #[])/\∃d,Sq s l w S d/\Sg (f+lo) (f+hi) O d/\rD d f lo hi:=by
 have hl:=(h.lt P).1
 let U:aK:=λr S=>r=ae (.tuple #[])/\∃d,Sq s l w S d/\Sg (f+lo) (f+hi) O d/\rD d f lo hi
 have C:∀{x y:Nat},x+y<=3000000->aj .i64 ((x:Int)+(y:Int))=((x+y:Nat):Int):=λh=>by rw[aQ _ co];omega
 have loop:∀(D r:Nat) (d:List I) (N:J),hi - r<D->lo<=r->r<=1000000->rC d f lo hi r->Sq s l w N d->Sg (f+lo) (f+hi) O d->vU.L0 s (hi:Int) (f:Int) (r:Int) N U:=by
  intro D;induction D with
  |zero=>intro r d N hD;omega
  |succ D ih=>
   intro r d N hD hr ao H Y g;have hlen:=g.len;refine vU.bE ?_;have e1:aj .i64 (aj .i64 (2 *(r:Int))+1)=((2 *r+1:Nat):Int):=by rw[aQ (2 *(r:Int)) co,aQ _ co];omega
   rw[e1];have Q:∀(c:Nat) (F:J),iB r c->c<hi->(∀A,iB r A->A<hi->mx d (f+A) (f+c))->Sq s l w F d->vU.S2 s (hi:Int) (f:Int) (r:Int) (c:Int) F U:=by
    intro c F M E af G;have ag:=M;unfold iB at M;obtain⟨x,q⟩:=eH (O:=d) (i:=f+c) co;obtain⟨y,z⟩:=eH (O:=d) (i:=f+r) co;dsimp only[vU.S2,ak];refine G.dr λT K=>K.cmp P z q (C co) (C co) λw5 Z=>eb (λab=>⟨rfl,d,Z,g,H.heap λA B L u v j k=>?_⟩) (λaa=>?_)
    .rw [z]at k;cases k;exact sB (af A B L u x j q) (qT (iy ab))
    have aa:=eT aa;refine Z.swap q z (C co) (C co) λw6 h6=>?_;exact ih c _ w6 co co co (by have:=H.down hr ag E q z co af;exact this) h6 (g.trans (Sg.swap q z co))
   refine aF (λab=>⟨rfl,d,Y,g,H.heap λc M E=>by unfold iB at M;omega⟩) (λam=>Y.dr λF G=>?_);have e2:aj .i64 (((2 *r+1:Nat):Int)+1)=((2 *r+2:Nat):Int):=bc _ co;rw[e2];refine aF (λan=>?_) (λah=>Q (2 *r+1) F (.inl rfl) co (λA B L=>?_) G)
   .obtain ⟨x,q⟩:=eH (O:=d) (i:=f+(2 *r+1)) co;obtain⟨y,z⟩:=eH (O:=d) (i:=f+(2 *r+1)+1) co;have W:aj .i64 ((f:Int)+((2 *r+1:Nat):Int))=((f+(2 *r+1):Nat):Int):=C co;refine G.cmp P q z W (by rw[W,bc _ co]) λT K=>aF (λE=>?_) (λE=>?_)
    .refine Q (2 *r+2) T (.inr rfl) co (λA B L u v j k=>?_) K;have ac:d[f+(2 *r+1)+1]? =some v:=k;rw[z]at ac;cases ac;rcases B with rfl|rfl
     .rw [q]at j;cases j;omega
     .rw [show f+(2 *r+2)=f+(2 *r+1)+1 from rfl,z]at j;cases j;have:=kf y.rx y.rx;omega
    .refine Q (2 *r+1) T (.inl rfl) co (λA B L u v j k=>?_) K;rw[q]at k;cases k;rcases B with rfl|rfl
     .rw [q]at j;cases j;have:=kf x.rx x.rx;omega
     .rw [show f+(2 *r+2)=f+(2 *r+1)+1 from rfl,z]at j;cases j;exact qT E
   .intro u v j k;rcases B with rfl|rfl
    .rw [j]at k;cases k;have:=kf u.rx u.rx;omega
    .omega
 exact vU.ok (loop (hi - lo+1) lo O w1 co (br _) co H h (Sg.refl _ _ _))
end
def rD.top{j:List I}{f n:Nat}(H:rD j f 0 n)(E:f+n<=j.length):∀(D p:Nat),p<D->p<n->mx j (f+p) f:=by
 intro D;induction D with
 |zero=>intro p h;omega
 |succ D A=>
  intro p C z q B k w;by_cases e:p=0
  .subst e;rw[show f+0=f from rfl,w]at k;cases k;have:=kf q.rx q.rx;omega
  obtain⟨d,F⟩:∃d,d=(p - 1) / 2:=⟨_,rfl⟩;obtain⟨y,x⟩:=eH (O:=j) (i:=f+d) co;exact sB (H d p co (by unfold iB;omega) z q y k x) (A d co co y B x w)
section
variable {s:Sl} {l O:List I} {w w1:J}
def aeu(h:Sq s l w w1 O)(Y:I.a9 l<=1000000){a b:Nat}(ao:a<b)(hb:b<=O.length):
  ai V Qv #[s.v,.i (a:Int),.i (b:Int),.func (.func cE) #[] #[]] w1 λr w'=>r=ae (.tuple #[])/\∃d,Sq s l w w' d/\Sg a b O d/\j9 a b d:=by
 have hl:=(h.lt Y).1;obtain⟨hi,hh⟩:∃hi,hi=b - a:=⟨_,rfl⟩;have eL:aj .i64 ((b:Int) - (a:Int))=(hi:Int):=by rw[aQ _ co];omega
 let R:aK:=λr w'=>r=ae (.tuple #[])/\∃d,Sq s l w w' d/\Sg a b O d/\j9 a b d
 have l2:∀(n:Nat) (d:List I) (x:J),n<=hi->rD d a 0 n->j9 (a+n) b d->(∀p F,p<n->n<=F->F<hi->mx d (a+p) (a+F))->Sq s l w x d->Sg a b O d->pT.L2 s (a:Int) 0 ((n:Int) - 1) x R:=by
  intro n;induction n with
  |zero=>
   intro d x U y st N q g;exact pT.j7 (aN (aW co) ⟨rfl,d,q,g,st⟩)
  |succ n Z=>
   intro d x U y st N q g;have hlen:=g.len;have P:((n+1:Nat):Int) - 1=(n:Int):=co
   have e1:aj .i64 ((a:Int)+(n:Int))=((a+n:Nat):Int):=by rw[aQ _ co];omega
   rw[P];obtain⟨an,L⟩:=eH (O:=d) (i:=a+n) co;obtain⟨ab,K⟩:=eH (O:=d) (i:=a) co;refine pT.j7 (aM (aR co) (q.swap L K e1 rfl λw3 B=>?_));have H:=nN K L;have Q:=g.trans (Sg.swap (a:=a) (b:=b) L K co);have top:=y.top co;obtain⟨vs,ak⟩:∃vs,vs=(d.set a an).set (a+n) ab:=⟨_,rfl⟩;rw[<-ak]at H Q B;have ap:=Q.len;have am:∀p u,p<n->vs[a+p]? =some u->∃E,E<n+1/\d[a+E]? =some u:=λp u W j=>by
    rw[H,ag co]at j;split at j
    .cases j;exact⟨n,co,L⟩
    .exact ⟨p,co,j⟩
   refine(Tj B Y (f:=a) (lo:=0) (hi:=n) co ⟨λp c z D T W u v j k=>?_,λp c z kp=>by unfold iB at kp;omega⟩ (dW _)).mono ?_
   .have al:=D;unfold iB at D;rw[H,ag co,ag co]at j k;exact y p c (dW _) al co u v j k
   rintro _ w4 ⟨rfl,aa,S,A,M⟩;refine⟨rfl,?_⟩;have G:aj .i64 ((n:Int) - 1)=(n:Int) - 1:=aQ _ co;rw[G];refine Z aa w4 co M ?_ ?_ S (Q.trans (A.wide co co))
   .intro i C z q B u v j k;rw[A.2 _ co,H]at j k;rw[ag (show ¬C=a+n by omega),ag co]at k;split at j
    .cases j;exact N 0 (C - a) co co co ab v K (by rw[show a+(C - a)=C by omega];exact k)
    .rw [ag co]at j;exact st i C co q B u v j k
   .intro p F W hq ah u v j k;obtain⟨i,i1,i2,ac⟩:=A.mem co co j co co;rw[show i=a+(i - a)by omega]at ac;obtain⟨E,ad,af⟩:=am (i - a) u co ac;rw[A.2 _ co,H]at k;split at k
    .cases k;exact top (E+1) E co ad u ab af K
    .rw [ag co]at k;exact N E F ad co ah u v af k
 have l1:∀(n:Nat) (d:List I) (x:J),n<=hi->rD d a n hi->Sq s l w x d->Sg a b O d->pT.L1 s (a:Int) 0 (hi:Int) ((n:Int) - 1) x R:=by
  intro n;induction n with
  |zero=>
   intro d x U y q g;refine pT.fO (aN (aW co) ?_);have G:aj .i64 ((hi:Int) - 1)=(hi:Int) - 1:=aQ _ co;rw[G];exact l2 hi d x (br _) y (λi C z q B=>co) (λp F z q B=>co) q g
  |succ n Z=>
   intro d x U y q g;have hlen:=g.len;have P:((n+1:Nat):Int) - 1=(n:Int):=co
   rw[P];refine pT.fO (aM (aR co) ?_);refine(Tj q Y (f:=a) (lo:=n) (hi:=hi) co ⟨λp c z D T W=>y p c co D T,λp c z kp=>by unfold iB at kp;omega⟩ co).mono ?_;rintro _ w4 ⟨rfl,aa,S,A,M⟩;refine⟨rfl,?_⟩;have G:aj .i64 ((n:Int) - 1)=(n:Int) - 1:=aQ _ co;rw[G];exact Z aa w4 co M S (g.trans (A.wide co co))
 refine pT.ok ?_;rw[eL];have e3:aj .i64 (bQ (aj .i64 ((hi:Int) - 1)) 2)=(((hi - 1) / 2+1:Nat):Int) - 1:=by
  have:aj .i64 ((hi:Int) - 1)=((hi - 1:Nat):Int):=by rw[aQ _ co];omega
  rw[this];have e4:bQ ((hi - 1:Nat):Int) 2=(((hi - 1) / 2:Nat):Int):=rfl;rw[e4,aQ _ co];omega
 show pT.L1 _ _ _ _ _ _ _;rw[e3];exact l1 ((hi - 1) / 2+1) O w1 co (λp c z D T=>by unfold iB at D;omega) h (Sg.refl _ _ _)
end
def Out(h j a b:Nat)(k:List I):Prop:=∀i d,h<=i->i<d->d<j->¬(a<=i/\d<b)->mx k i d
def Out.H0{q w a b:Nat}{j:List I}(h:Out q w a b j)(k:j9 a b j):j9 q w j:=λi d y x z=>by
 by_cases e:a<=i/\d<b
 .exact k i d e.1 x e.2
 .exact h i d y x z e
def Out.start(a b:Nat)(k:List I):Out a b a b k:=λi q d _ h j=>absurd ⟨d,h⟩ j
def Out.sg{q w a b:Nat}{x vs:List I}(h:Out q w a b x)(g:Sg a b x vs)(Q:q<=a)(C:a<=b)(S:b<=w)(D:b<=x.length):Out q w a b vs:=by
 intro i d E M F K y z k j;by_cases A:a<=i/\i<b
 .obtain ⟨L,O,P,G⟩:=g.mem C D k A.1 A.2;rw[g.2 d co]at j;exact h L d co co F co y z G j
 rw[g.2 i co]at k;by_cases B:a<=d/\d<b
 .obtain ⟨N,O,P,H⟩:=g.mem C D j B.1 B.2;exact h i N E co co co y z k H
 rw[g.2 d co]at j;exact h i d E M F K y z k j
def Out.cut{B C a b m:Nat}{x:List I}{j:I}(h:Out B C a b x)(c:o2 x j a m b):∀i d,B<=i->i<d->d<C->¬(a<=i/\d<m)->¬(m+1<=i/\d<b)->mx x i d:=by
 intro i d E F G K L y A k q;by_cases e:a<=i/\d<b
 .have lo:i<=m->be y.rx j.rx<=0:=λD=>by
   by_cases w:i=m
   .subst w;rw[c.z]at k;cases k;have:=kf j.rx j.rx;omega
   .exact Int.le_of_lt (c.lo i y e.1 co k)
  have D:m<=d->be j.rx A.rx<=0:=λH=>by
   by_cases w:d=m
   .subst w;rw[c.z]at q;cases q;have:=kf j.rx j.rx;omega
   .exact qT (c.hi d A co e.2 q)
  exact sB (lo co) (D co)
 .exact h i d E F G e y A k q
def o2.low{a b m:Nat}{h:List I}{w:I}(c:o2 h w a m b):ng (m+1) b h:=by intro q y j _ A x d k;rw[show m+1 - 1=m from rfl,c.z]at d;cases d;exact qT (c.hi q x co j k)
def zm.nxt{D E a b m:Nat}{x:List I}{y:I}(c:zm x y a m b)(h:Out D E a b x)(k:∀(j:Nat) d,a<=j->j<b->x[j]? =some d->be y.rx d.rx<=0):Out D E m b x/\ng m b x:=by
 have lo:∀(w:Nat) d,a<=w->w<m->x[w]? =some d->be d.rx y.rx<=0:=λw d F C q=>by
  by_cases e:w=a
  .subst e;rw[c.z]at q;cases q;have:=kf y.rx y.rx;omega
  .exact qT (c.lo w d co C q)
 have L:=c.am;have N:=c.mb;refine⟨λi j G H K M d B q A=>?_,λj F C _ d B q A=>sB (lo (m - 1) d co co q) (k j B co C A)⟩;by_cases e:a<=i/\j<b
 .exact sB (lo i d e.1 co q) (k j B co e.2 A)
 .exact h i j G H K e d B q A
def o2.left{q w a b m:Nat}{x vs:List I}{O:I}(c:o2 vs O a m b)(h:Out q w a b vs)(g:Sg a m vs x)(Q:b<=vs.length)(P:q<=a)(S:b<=w)(st:j9 a m x):Out q w (m+1) b x:=by
 have A:=c.am;have U:=c.mb;intro i d D E F T;by_cases e:a<=i/\d<m
 .exact st i d e.1 E e.2
 intro y z k j;by_cases B:a<=i/\i<m
 .obtain ⟨K,M,N,G⟩:=g.mem A co k B.1 B.2;rw[g.2 d co]at j;exact h.cut c K d co co F co co y z G j
 rw[g.2 i co]at k;by_cases C:a<=d/\d<m
 .obtain ⟨L,M,N,H⟩:=g.mem A co j C.1 C.2;exact h.cut c i L D co co co co y z k H
 rw[g.2 d co]at j;exact h.cut c i d D E F co co y z k j
def o2.right{q w a b m:Nat}{x vs:List I}{N:I}(c:o2 vs N a m b)(h:Out q w a b vs)(g:Sg (m+1) b vs x)(Q:b<=vs.length)(P:q<=a)(S:b<=w)(st:j9 (m+1) b x):Out q w a m x:=by
 have O:=c.am;have U:=c.mb;intro i d C D E T;by_cases e:m+1<=i/\d<b
 .exact st i d e.1 D e.2
 intro y z k j;by_cases A:m+1<=i/\i<b
 .obtain ⟨H,L,M,F⟩:=g.mem co co k A.1 A.2;rw[g.2 d co]at j;exact h.cut c H d co co E co co y z F j
 rw[g.2 i co]at k;by_cases B:m+1<=d/\d<b
 .obtain ⟨K,L,M,G⟩:=g.mem co co j B.1 B.2;exact h.cut c i K C co co co co y z k G
 rw[g.2 d co]at j;exact h.cut c i d C D E co co y z k j
section
variable {s:Sl} {l:List I} {w:J}
abbrev tU(s:Sl)(l O:List I)(w:J)(a b:Nat):aK:=λr h=>r=ae (.tuple #[])/\∃d,Sq s l w h d/\Sg a b O d/\j9 a b d
def pdq(H:I.a9 l<=1000000):∀(D a b q j:Nat) (h:Int) (z A:Bool) (d O:List I) (w2:J),b - a<D->a<=b->b<=j->j<=O.length->q<=a->ng a b d->Out q j a b d->Sq s l w w2 d->Sg q j O d->nK.L0 s (a:Int) (b:Int) h z A w2 (tU s l O w q j):=by
 intro D;induction D with
 |zero=>intro a b q j h z A d O w2 hD;omega
 |succ D ih=>
  intro a b q j h z A d O w2 hD Q y hb C low out h2 g;have hl:=(h2.lt H).1;have hlen:=g.len;have eL:aj .i64 ((b:Int) - (a:Int))=((b - a:Nat):Int):=by rw[aQ _ co];omega
  have fin:∀{d vs:List I} {x:J},Out q j a b d->d.length=O.length->Sg q j O d->Sq s l w x vs->Sg a b d vs->j9 a b vs->tU s l O w q j (ae (.tuple #[])) x:=λout hlen g B E st=>
   ⟨rfl,_,B,g.trans (E.wide C y),(out.sg E C Q y co).H0 st⟩
  have s6:∀(h L:Int) (p:Nat) (d:List I) (x:J),a<=p->p<b->d.length=O.length->ng a b d->Out q j a b d->Sq s l w x d->Sg q j O d->nK.S6 s (a:Int) (b:Int) h L (p:Int) x (tU s l O w q j):=by
   intro h L p d x K M hlen low out B g;obtain⟨pv,hp⟩:=eH (O:=d) (i:=p) co;refine(aex B H co hp K M).mono ?_;rintro _ T ⟨m,t,vs,rfl,F,G,c⟩;have ac:=c.am;have al:=c.mb;have ad:=G.len;have ah:=low.sg G co;have an:=out.sg G C Q y co;have U:=g.trans (G.wide C y);have em:aj .i64 ((m:Int)+1)=((m+1:Nat):Int):=bc _ co;refine⟨_,_,rfl,bT (λ_=>?_) (λ_=>?_)⟩
   .refine (nK.ok (ih a m a m h true true vs vs T co ac (br _) co (br _) (λY Z j2=>ah Y Z co) (Out.start _ _ _) F (Sg.refl _ _ _))).mono ?_;rintro _ w5 ⟨rfl,xs,P,N,st⟩;refine⟨rfl,?_⟩;rw[em];have aq:=N.len;refine ih (m+1) b q j h _ _ xs O w5 co co y hb co ?_ (c.left an N co C y st) P (U.trans (N.wide C co));intro Y Z j2 j0 aa ab S W;rw[N.2 _ co]at S W;exact c.low Y Z j2 j0 aa ab S W
   .show ai _ _ _ _ _;rw[em];refine(nK.ok (ih (m+1) b (m+1) b h true true vs vs T co co (br _) co (br _) c.low (Out.start _ _ _) F (Sg.refl _ _ _))).mono ?_;rintro _ w5 ⟨rfl,xs,P,N,st⟩;refine⟨rfl,?_⟩;have aq:=N.len;refine ih a m q j h _ _ xs O w5 co ac co hb C ?_ (c.right an N co C y st) P (U.trans (N.wide co y));intro Y Z j2 j0 aa ab S W;rw[N.2 _ co]at S W;exact ah Y Z co j0 aa ab S W
  have s5:∀(h L:Int) (z A:Bool) (p:Nat) (d:List I) (x:J),a<=p->p<b->d.length=O.length->ng a b d->Out q j a b d->Sq s l w x d->Sg q j O d->nK.S5 s (a:Int) (b:Int) h z A L (p:Int) x (tU s l O w q j):=by
   intro h L z A p d x K M hlen low out B g;dsimp only[nK.S5,ak];refine B.dr λT F=>aF (λh0=>?_) (λ_=>s6 h L p d T K M hlen low out F g);have af:0<a:=co
   obtain⟨pv,hp⟩:=eH (O:=d) (i:=p) co;obtain⟨aa,S⟩:=eH (O:=d) (i:=a - 1) co;refine F.cmp H S hp (nH af co) rfl λw5 P=>eb (λhc=>?_) (λ_=>s6 h L p d w5 K M hlen low out P g);have ao:=qT (iy hc);refine(aet P H co hp K M).mono ?_;rintro _ w6 ⟨m,vs,rfl,h6,g6,c⟩;have ap:=low.sg g6 co;have ac:=c.am;have al:=c.mb;obtain⟨o7,l7⟩:=c.nxt (out.sg g6 C Q y co) λY ab Z j2 W=>sB ao (ap Y Z j2 af aa ab ((g6.2 _ co).trans S) W);exact⟨_,rfl,ih m b q j h z A vs O w6 co al y hb co l7 o7 h6 (g.trans (g6.wide C y))⟩
  have s4:∀(h L:Int) (z A:Bool) (p:Nat) (k:Int) (d:List I) (x:J),a<=p->p<b->d.length=O.length->ng a b d->Out q j a b d->Sq s l w x d->Sg q j O d->nK.S4 s (a:Int) (b:Int) h z A L (p:Int) k x (tU s l O w q j):=by intro h L z A p k d x K M hlen low out B g;have k5:=s5 h L z A p d x K M hlen low out B g;refine bT (λ_=>bT (λ_=>bT (λ_=>?_) (λ_=>k5)) (λ_=>k5)) (λ_=>k5);refine(aew B H co co low).mono ?_;rintro _ T ⟨t,vs,rfl,F,G,st⟩;have ad:=G.len;exact⟨_,rfl,bT (λht=>fin out hlen g F G (st ht)) (λ_=>s5 h L z A p vs T K M co (low.sg G co) (out.sg G C Q y co) F (g.trans (G.wide C y)))⟩
  have s2:∀(h L:Int) (z A:Bool) (d:List I) (x:J),a+12<b->d.length=O.length->ng a b d->Out q j a b d->Sq s l w x d->Sg q j O d->nK.S2 s (a:Int) (b:Int) h z A L x (tU s l O w q j):=by
   intro h L z A d x ag hlen low out B g;refine(aey B H ag co).mono ?_;rintro _ T ⟨p,k,rfl,K,M,F⟩;refine⟨_,_,rfl,bT (λ_=>?_) (λ_=>s4 h L z A p k d T K M hlen low out F g)⟩;refine(aez F H co co).mono ?_;rintro _ w5 ⟨rfl,vs,P,U⟩;have ad:=U.len;have e1:aj .i64 ((b:Int) - 1)=((b - 1:Nat):Int):=nH co co;have e2:aj .i64 ((p:Int) - (a:Int))=((p - a:Nat):Int):=by rw[aQ _ co];omega
   have e3:aj .i64 (((b - 1:Nat):Int) - ((p - a:Nat):Int))=((b - 1 - (p - a):Nat):Int):=by rw[aQ _ co];omega
   refine⟨rfl,?_⟩;rw[e1,e2,e3];exact s4 h L z A _ 1 vs w5 co co co (low.sg U co) (out.sg U C Q y co) P (g.trans (U.wide C y))
  refine nK.bE ?_;rw[eL];refine aF (λ_=>?_) (λag=>bT (λ_=>?_) (λ_=>eb (λ_=>?_) (λ_=>s2 _ _ _ _ d w2 co hlen low out h2 g)))
  .refine (aev h2 H Q co).mono ?_;rintro _ x ⟨rfl,vs,B,E,st⟩;exact⟨rfl,fin out hlen g B E st⟩
  .refine (aeu h2 H co co).mono ?_;rintro _ x ⟨rfl,vs,B,E,st⟩;exact⟨rfl,fin out hlen g B E st⟩
  .refine (aes h2 H Q co).mono ?_;rintro _ x ⟨rfl,vs,B,E⟩;have ad:=E.len;exact⟨rfl,s2 _ _ _ _ vs x co co (low.sg E co) (out.sg E C Q y co) B (g.trans (E.wide C y))⟩
end
def afC(n:Nat):tY n:=by
 intro s l d L A k E z;have O:=I.cI k.bf;have N:=I.gh l;have q:I5 s l d d l:=AG _ k (by intro e j;simp only[aq,aL,aO]at j;subst j;exact⟨E,λK C B=>z K C (aT.1 B)⟩)
 have y:Sq s l d d l:=⟨q,.refl _⟩;refine U2.ok ((YJ _ d).mono ?_);rintro _ G ⟨⟨t,rfl⟩,f⟩;refine⟨t,rfl,?_⟩;have D:=pdq (s:=s) (l:=l) (w:=d) A (l.length+1) 0 l.length 0 l.length t true true l l G co (dW _) (br _) (br _) (br _) (λM _ _ x=>absurd x co) (Out.start _ _ _) (y.bz f) (Sg.refl _ _ _);rw[show(s.n:Int)=(l.length:Int)by omega];refine(nK.ok D).mono ?_;rintro _ P ⟨rfl,F,h,g,st⟩;exact⟨rfl,⟨F,rfl,g.1,afK (by rw[g.len];exact st),h.H.get 0⟩,h.fr⟩
def wT(d:BL):dX:=⟨d,0,0,0,0⟩
section
variable {l:List dX}
end
mutual
def Ms:∀w:Rx,de w=true->ja w=true
 |.mk q lo x l,j=>by
  unfold de at j;simp only[bH]at j;have d:=j.2;have k:ey l=true->oE l=true:=Mt l;unfold ja;split at d
  .rename_i h;have:l=[]:=by simpa using d
   subst this;have h:q=0\/q=1:=h;unfold oE;rcases h with rfl|rfl<;>decide
  .split at d
   .rename_i h;simp only[bH]at d;have:l=[]:=by simpa using d.1
    subst this;subst h;unfold oE;decide
   .split at d
    .rename_i h;rw[k d];rcases h with rfl|rfl|rfl<;>simp
    .split at d
     .rename_i h;simp only[bH,beq_iff_eq]at d;rw[k d.2];rcases h with rfl|rfl<;>simp[d.1]
     .cases d
def Mt:∀l:List Rx,ey l=true->oE l=true
 |[],_=>rfl
 |a::l,d=>by unfold ey at d;unfold oE;simp only[bH]at d;rw[Ms a d.1,Mt l d.2];rfl
end
abbrev ZW(U:List Nat)(f:cR)(xs:Array aa)(w:J)(K:ByteArray->Int->J->Prop):Prop:=ep U V f xs w λj k=>∃d:ByteArray,∃h:Int,j=ae (.tuple #[.string d,.i h])/\K d h k
def Ju{a b:Nat}(h:¬a<b):Nat.blt a b=false:=by
 cases d:Nat.blt a b with
 |false=>rfl
 |true=>rw[Nat.blt_eq]at d;exact absurd d h
def agt(s:ByteArray)(w:J):ai V GB #[.string s] w λr w'=>r=ae (.bool (lT (bl s)))/\af w w':=by
 have hl:(bl s).length=s.size:=dY s;have W:LH F0 w w [] []:=bK [] ws;refine Wg.aC ((YR s w).mono ?_);rintro r w1 ⟨f1,S⟩;have H1:=W.bz f1;have no:∀(a e:Int),e≠0->lT (bl s)=false->r=ae (.tuple #[.agg #[.int .i64 0,.int .u8 0,.int .u8 0,.slice none 0 0],.int .i64 a,.int .i64 e])->∃(t0 t1 t2:Int) (t3:Sl) (t4 t5:Int),r=ae (.tuple #[.agg #[.i t0,.int .u8 t1,.int .u8 t2,t3.v],.i t4,.i t5])/\yk [] w1 λh M=>bA (t5 !=0) (loc [h] M λD=>(Ending.returned (.bool false)=ae (.bool (lT (bl s)))/\af w D)) (loc [h] M λD=>ZV [h] Gl #[.agg #[.i t0,.int .u8 t1,.int .u8 t2,t3.v]] D λal am an ao ap U=>yk [h] U λG N=>
   bA (ap !=0) (loc [h,G] N λT=>(Ending.returned (.bool false)=ae (.bool (lT (bl s)))/\af w T)) (loc [h,G] N λT=>ZW [h,G] P6 #[.agg #[.i al,.int .u8 am,.int .u8 an,ao.v]] T λaq ar ac=>bA (ar==0) (Ending.returned (.bool (aq.toList==s.toList))=ae (.bool (lT (bl s)))/\af w ac) (Ending.returned (.bool false)=ae (.bool (lT (bl s)))/\af w ac))):=λa e K hn S=>⟨0,0,0,⟨none,0,0⟩,a,e,S,H1.aH λh M O=>dA (λ_=>O.ah λw3 E=>⟨by rw[hn],E.fr⟩) (λz=>absurd z K)⟩
 rcases S with⟨h1,k⟩|⟨h1,res,ak,⟨a,rfl,k⟩|⟨d,rfl,⟨H,k⟩|⟨H,t,k,B,pt,ft⟩⟩⟩
 .refine no _ _ md ?_ k;unfold lT;rw[show Nat.blt 4096 (bl s).length=true from by rw[Nat.blt_eq];omega];rfl
 all_goals have Q:Nat.blt 4096 (bl s).length=false:=Ju co
 all_goals have j:=agG ak
 .have j:Sum.inl a=wa (bl s):=j;refine no _ _ md ?_ k;unfold lT;rw[Q,<-j];rfl
 .have j:Sum.inr (fT d)=wa (bl s):=j;refine no _ _ md ?_ k;unfold lT;rw[Q,<-j];dsimp only[cond_false];rw[LR,show Nat.blt 64 (fj d.tp).sz=true from by rw[Nat.blt_eq];exact H];rfl
 .have j:Sum.inr (fT d)=wa (bl s):=j;have aa:pr 64 (fj d.tp):=EX _ (by have:=FZ (fj d.tp);omega);have A:lT (bl s)=if pG (fj d.tp)=0 then(if kF (jD (fj d.tp))=0 then dh 0 (jD (fj d.tp)) (bo (jD (fj d.tp)))==bl s else false)else false:=by unfold lT;rw[Q,<-j];dsimp only[cond_false];have:Nat.blt 64 (fj d.tp).sz=false:=Ju co;rw[LR,this];rfl
  generalize fj d.tp=x at B aa A H;have ad:=W.gP (.tree t) f1 pt (λb P=>.inl (ft b (aT.1 P)));have av:t.sz<=64:=by rw[<-I.eX,B];exact H
  refine⟨_,_,_,t.s,_,_,k,ad.aH λh M O=>dA (λz=>absurd rfl z) (λ_=>O.ah λw3 E=>?_)⟩;refine E.iF (YQ (afC 64) co t w3 co (by rw[B];exact aa) (E.getD 0)) ?_;rintro _ w4 ⟨u,rfl,C,pu,fu⟩ _ F4;rw[B]at C;rw[B];have H4:=F4.rd (.tree u) pu λb P=>fu b (aT.1 P);refine⟨_,_,_,u.s,_,rfl,H4.aH λG w5 Y=>dA (λL=>Y.ah λD y=>⟨by rw[A,ag L],y.fr⟩) (λK=>Y.ah λD y=>?_)⟩;rw[au K]at A;have ab:u.sz<=1000000:=by
   rw[<-I.eX,C];have:pG x=0:=K;unfold pG at this;unfold jD;split at this
   .rename_i q;rw[au q];unfold qP at this;unfold qQ;split at this
    .cases this
    .rename_i aj;rw[ag aj];omega
   .rename_i q;exact absurd this q
  refine gn (TQ.aC ((hj (y.getD 1)).aH λb1 U Z=>Z.aA (JE u U ab (Z.getD 0)) ?_));rintro _ N rfl F;rw[C];refine⟨_,rfl,dA (λL=>⟨F.fr,_,_,rfl,aP (λz=>absurd z L) (λ_=>⟨by rw[A,ag L],(y.bz F.fr).fr⟩)⟩) (λq=>F.aA (ad6 u 0 N ab co ?_ (F.getD 0)) ?_)⟩
  .exact Ms _ (by rw[C];exact(IC q).1)
  .rintro _ w9 rfl H9;refine⟨_,rfl,H9.fr,_,_,rfl,aM rfl ⟨?_,(y.bz H9.fr).fr⟩⟩;rw[A,au q,C];congr 2;have:=ui (dh 0 (jD x) (bo (jD x))) (bl s);rw[jt]at this;exact this
def RX(t:ByteArray):zu t:=λd=>agt t d
def xf(t:BL):Bool:=(match uu t with
 |some b=>lT t==b
 |none=>false)&&Nat.ble t.length 100
def jx(i:Nat):Bool:=(List.range 108).all (λd=>xf (m4 (108 *i+d)))
def aa5:jx 0=true:=by kernel_rfl
def aa6:jx 1=true:=by kernel_rfl
def abc:jx 2=true:=by kernel_rfl
def abd:jx 3=true:=by kernel_rfl
def abe:jx 4=true:=by kernel_rfl
def abf:jx 5=true:=by kernel_rfl
def abg:jx 6=true:=by kernel_rfl
def abh:jx 7=true:=by kernel_rfl
def abi:jx 8=true:=by kernel_rfl
def abj:jx 9=true:=by kernel_rfl
def aa7:jx 10=true:=by kernel_rfl
def aa8:jx 11=true:=by kernel_rfl
def aa9:jx 12=true:=by kernel_rfl
def aa':jx 13=true:=by kernel_rfl
def aba:jx 14=true:=by kernel_rfl
def abb:jx 15=true:=by kernel_rfl
def aa4:∀i,i<16->jx i=true:=by
 intro i h
 match i,h with
 |0,_=>exact aa5
 |1,_=>exact aa6
 |2,_=>exact abc
 |3,_=>exact abd
 |4,_=>exact abe
 |5,_=>exact abf
 |6,_=>exact abg
 |7,_=>exact abh
 |8,_=>exact abi
 |9,_=>exact abj
 |10,_=>exact aa7
 |11,_=>exact aa8
 |12,_=>exact aa9
 |13,_=>exact aa'
 |14,_=>exact aba
 |15,_=>exact abb
 |n+16,d=>exact absurd d co
def aa3(k:Nat)(h:k<1728):xf (m4 k)=true:=by
 have d:=aa4 (k / 108) co;have j:=ff.1 d (k%108) (List.mem_range.2 (Nat.mod_lt _ co))
 rwa[Nat.div_add_mod]at j
def Me:List BL:=[[],[97],[65],[115,101,118,101,110,116,101,101,110,45,108,101,116,116,101,114,115],[97,45,49],[45],[40],[122,122],[97,98],[98],[0],[97,97],[99],[100],[109],[110],[115],[116],[105],[122]]
def aaJ:Me.all xf=true:=by kernel_rfl
def Df(t:ByteArray):Prop:=bl t∈Me\/∃d,t=ba (m4 d)
def adE{t:ByteArray}(h:Df t):xf (bl t)=true:=by
 rcases h with h|⟨d,rfl⟩
 .exact ff.1 aaJ _ h
 .rw [gm,Wo];exact aa3 (d%1728) (Nat.mod_lt _ co)
def GM{t:ByteArray}(h:Df t):zC t/\zu t/\t.size<=100:=by
 have k:=adE h;unfold xf at k;simp only[bH]at k;obtain⟨d,j⟩:=k;have j:=Nat.le_of_ble_eq_true j;rw[dY]at j;refine⟨⟨co,?_⟩,RX t,j⟩;cases q:uu (bl t)with
 |none=>rw[q]at d;cases d
 |some b=>
  rw[q]at d;have d:=eq_of_beq d;unfold pd;rw[d]
def Cv(x:Int):aY (aj .i64 x):=by rw[IntKind.wrap_i64];omega
structure MdV(d:Nx):Prop extends MdN d where
 nv:d.op≠0
def nh(w:J)(r:bW)(Y:J):Prop:=∃d:Nd,r=ae d.v/\MdV d.x/\d.P Y/\∀b∈az d.ks,w.heap.size<=b
def ac2{op n m u:Int}{d:ByteArray}{st:bC}{ks:List Int}(h:MdV ⟨op,[],n,m,u,d,st⟩)(j:ks.length<=3):MdV ⟨op,ks,n,m,u,d,st⟩:=⟨⟨h.GW,h.GX,j,h.n,h.m,h.u,h.tx,h.re⟩,h.nv⟩
def abX(op:Int):-1<=dm op/\dm op<=3:=by unfold dm;repeat' split<;>omega
section
variable {w:J} {s:Sl} {l:List Nd} {n1 m2 k3:Int} {b8 lF:Nat}
def adt(hm:aY m2)(C:aY k3)(hl:l.length<=fH){op n m u:Int}{G:ByteArray}{st:bC}(hd:MdV ⟨op,[],n,m,u,G,st⟩)(many:Nat)(ao:many<=3)(x:Int)(ab:-1<=x)(ac:x<(l.length:Int)):
  ∀(d i:Nat) (sl:Sl) (ks:List Int) (E:J),i+d=many->ks.length=i->(∀O∈ks,0<=O/\O<(l.length:Int))->LH F0 w E [.g b8,.g lF,sQ sl ks] [.gr s l]->
   jA.lC s m2 k3 b8 0 ⟨none,0,0⟩ 0 0 0 (bn #[]) 0 0 0 lF op sl n m u G st.k st.n st.x x (many:Int) (i:Int) E λr A=>nh w r A/\af w A:=by
 intro d;unfold fH at hl;induction d with
 |zero=>
  intro i sl ks E hi hlen Y B;refine jA.o5 (aN (aW co) (B.ah λH y=>⟨⟨⟨⟨op,ks,n,m,u,G,st⟩,sl⟩,rfl,ac2 hd co,A8 (y.get 2),λb W=>(y.new _ (aD (i:=2) rfl) b W).resolve_right id⟩,y.fr⟩))
 |succ d ih=>
  intro i sl ks E hi hlen Y B;have U:∀(D:Int) (H:J) (L:List En),-1<=D->D<(l.length:Int)->LH F0 w H [.g b8,.g lF,sQ sl ks] [.gr s l]->jA.n3 s m2 k3 b8 0 ⟨none,0,0⟩ 0 0 0 (bn #[]) 0 0 0 lF op sl n m u G st.k st.n st.x x (many:Int) (i:Int) D H λr A=>nh w r A/\af w A:=by
   intro D H L h1 h2 y;refine aF (λh0=>y.ah λQ z=>⟨⟨⟨⟨-1,[],0,0,0,ba [],du⟩,⟨none,0,0⟩⟩,rfl,⟨⟨md,md,md,md,md,md,λ_=>md,λae=>by cases ae⟩,md⟩,Rd.nil Q,λb W=>by cases W⟩,z.fr⟩) (λh0=>?_);refine y.iD 2 iH rfl (λs' Q z=>?_) (by have:=A7 (y.get 2);omega);have ad:LH F0 w Q [.g b8,.g lF,sQ s' (ks++[D])] [.gr s l]:=by rw[sQ,List.map_append];exact z
   refine ad.ah λh q=>?_;rw[bc _ co];refine ih (i+1) s' (ks++[D]) h co (by simp[hlen]) (λO C=>?_) q;rcases aX.1 C with C|C
   .exact Y O C
   .simp only[aq,aL,aO]at C;omega
  refine jA.o5 (aM (aR co) (aF (λag=>aF (λak=>?_) (λak=>U x E [] ab ac B)) (λag=>U x E [] ab ac B)));obtain⟨S,rfl⟩:∃S:Nat,x=(S:Int):=⟨x.toNat,co⟩;refine B.aA (ZD (ch.1 (B.getD 0)) op S (i:Int) m2 co hm) ?_;rintro _ H ⟨t,rfl⟩ y;refine⟨_,_,_,rfl,y.aH λZ Q z=>?_⟩;have T:∀(t:bC) (h:J),LH F0 w h [.g b8,.g lF,sQ sl ks,.g Z] [.gr s l]->jA.jN s m2 k3 b8 0 ⟨none,0,0⟩ 0 0 0 (bn #[]) 0 0 0 lF op sl n m u G st.k st.n st.x (S:Int) (many:Int) (i:Int) Z t.k t.n t.x h λr A=>nh w r A/\af w A:=by intro t h q;have e5:aj .i64 (5 *(i:Int))=5 *(i:Int):=aQ _ co;have e6:aj .i64 (1+5 *(i:Int))=1+5 *(i:Int):=aQ _ co;refine⟨by rw[e5,e6];omega,q.ah λw5 I=>I.aA (DR (ch.1 (I.getD 0)) t _ (Cv _) (by unfold fH;exact hl)) ?_⟩;rintro _ w6 ⟨an,rfl,al,am⟩ H6;exact⟨_,rfl,U an w6 [] al am (H6.take 3)⟩
  refine aP (λho=>aP (λh2=>?_) (λh2=>z.ah λh q=>T t h q)) (λho=>z.ah λh q=>T t h q);have hn:=A7 (z.get 2);have M:ks[1]? =some (ks[1]'co):=a' co;have ai:=Y _ (aD M);generalize ks[1]'co=kk at M ai;refine⟨co,co,(A8 (z.get 2)).cell M (j:=a0 1 *1) rfl λp hp _=>z.ah λh q=>?_⟩;have aa:l[kk.toNat]? =some (l[kk.toNat]'co):=a' co;generalize l[kk.toNat]'co=e at aa;have F:h.cell? (p.add (a0 1 *1))=some (.int .i64 kk):=by have:=(A8 (q.get 2)).cell M (j:=a0 1 *1) rfl (K:=λP=>∃q',sl.a=some q'/\h.cell? (q'.add (a0 1 *1))=some (.int .i64 kk)) (λP N F=>⟨P,N,F⟩);rw[hp]at this;obtain⟨P,N,F⟩:=this;cases N;exact F
  exact⟨kk,F,iM (ch.1 (q.getD 0)) (i:=kk.toNat) co aa λP N c=>⟨_,_,_,c.s0,c.s1,c.s2,q.ah λw5 I=>T e.x.st w5 I⟩⟩
def adu(Z:aY n1)(T:aY m2)(S:aY k3)(E:l.length<=fH){op n m u:Int}{q:ByteArray}{st:bC}(P:MdV ⟨op,[],n,m,u,q,st⟩)(x:Int)(aa:0<=x)(U:x<(l.length:Int))(K:J)(H:LH F0 w K [.g b8,.g lF] [.gr s l]):
  jA.cd s n1 m2 k3 b8 0 ⟨none,0,0⟩ 0 0 0 (bn #[]) 0 0 0 lF op ⟨none,0,0⟩ n m u q st.k st.n st.x x K λr j=>nh w r j/\af w j:=by
 refine H.aA (JA op K) ?_;rintro _ A rfl y;have hr:=abX op;have O:∀(x:Int) (d:J),-1<=x->x<(l.length:Int)->LH F0 w d [.g b8,.g lF] [.gr s l]->jA.hx s m2 k3 b8 0 ⟨none,0,0⟩ 0 0 0 (bn #[]) 0 0 0 lF op ⟨none,0,0⟩ n m u q st.k st.n st.x x (dm op) d λr j=>nh w r j/\af w j:=by
  intro x d C D z;have h:=z.fY cb 1;by_cases Y:dm op<0
  .refine jA.o5 (aN (aW co) (h.ah λA y=>⟨⟨⟨⟨op,[],n,m,u,q,st⟩,⟨none,0,0⟩⟩,rfl,P,Rd.nil A,λb Q=>by cases Q⟩,y.fr⟩))
  .have e:dm op=(((dm op).toNat:Nat):Int):=co
   show jA.lC _ _ _ _ _ _ _ _ _ _ _ _ _ _ _ _ _ _ _ _ _ _ _ _ (dm op) 0 _ _;rw[e];exact adt T S E P (dm op).toNat co x C D (dm op).toNat 0 ⟨none,0,0⟩ [] d co rfl ws h
 have N:∀(x:Int) (d:J),-1<=x->x<(l.length:Int)->LH F0 w d [.g b8,.g lF] [.gr s l]->jA.dc s n1 m2 k3 b8 0 ⟨none,0,0⟩ 0 0 0 (bn #[]) 0 0 0 lF op ⟨none,0,0⟩ n m u q st.k st.n st.x x (dm op) d λr j=>nh w r j/\af w j:=by intro x d C D z;refine aP (λF=>z.aA (fR 8 d) ?_) (λF=>O x d C D z);rintro _ W rfl h;refine⟨_,_,_,rfl,h.aA (DR (ch.1 (h.getD 0)) (bP 8) _ (Cv _) E) ?_⟩;rintro _ L ⟨M,rfl,G,I⟩ B;exact⟨_,rfl,O M L G I B⟩
 refine⟨_,rfl,aP (λF=>y.aA (fR 1 A) ?_) (λF=>N x A co U y)⟩;rintro _ W rfl h;refine⟨_,_,_,rfl,h.aA (DR (ch.1 (h.getD 0)) (bP 1) _ (Cv _) E) ?_⟩;rintro _ L ⟨M,rfl,G,I⟩ B;exact⟨_,rfl,N M L G I B⟩
end
def opsL:List Int:=[4,5,6,7,8,9,10,11,12,13,14,15,16,17,18,19,20,21,22,23,24,25,26,27,28,29,30,31,32,33,34,1,2,3,18,18,16,6,24,25]
def adM{i:Nat}{op:Int}(h:opsL[i]? =some op):1<=op/\op<=34:=by
 have j:(opsL.all λd=>av (1<=d)&&av (d<=34))=true:=md
 have:=ff.1 j op (aD h);simpa using this
def wb:List ByteArray:=[ba [],ba [97],ba [97,98],ba [98],ba [0],ba [97,97]]
def agH{i:Nat}{t:ByteArray}(h:wb[i]? =some t):t.size<=16:=by
 have d:(wb.all λj=>av (j.size<=16))=true:=md
 have:=ff.1 d t (aD h);simpa using this
def JR{w:J}{s:Sl}{l:List Nd}(h:GP w s l)(aF:1<=l.length)(hl:l.length<=fH)(hv:∀ap∈l,cv ap.x.st=true)(C d B:Int)(hn:aY C)(M:aY d)(hk:aY B):
  ai V OZ #[s.v,.i C,.i d,.i B] w λr z=>nh w r z/\af w z:=by
 have hs:=i4 h;refine jA.aC ((FO h).aH λL w1 H1=>H1.nw λw2 _ H2=>H2.aA (ko C 40 w2 co hn) ?_);have hr:=kc C 40 co;generalize hB C 40=an at hr;rintro _ w3 rfl H3;obtain⟨j,rfl⟩:∃j:Nat,an=(j:Int):=⟨an.toNat,co⟩;have ae:opsL[j]? =some (opsL[j]'(by show j<40;omega)):=a' _;have ak:=adM ae;generalize opsL[j]'(by show j<40;omega)=op at ae ak;have ac:bx w3 ⟨some (ab w1.heap.size),40,40⟩ opsL:=DI (T:=cb) (H3.ob 1) rfl;refine⟨_,rfl,co,by show(j:Int)<40;omega,ac.cell ae co λp hp P=>⟨op,P,H3.aH λI w4 H4=>H4.ah λw5 H5=>H5.aA (ko _ _ w5 co (Cv _)) ?_⟩⟩;have ay:=kc (aj .i64 (bQ C 64)) (s.n:Int) co;generalize hB (aj .i64 (bQ C 64)) (s.n:Int)=N at ay;rintro _ G rfl D;have H:∀{n m u:Int} {Y:ByteArray} {st:bC} {A:J},MdV ⟨op,[],n,m,u,Y,st⟩->LH F0 w A [.g L,.g I] [.gr s l]->jA.cd s C d B L 0 ⟨none,0,0⟩ 0 0 0 (bn #[]) 0 0 0 I op ⟨none,0,0⟩ n m u Y st.k st.n st.x N A λr z=>nh w r z/\af w z:=λhd q=>adu hn M hk hl hd N co co _ q;have D:LH F0 w G [.g L,.g I] [.gr s l]:=D.jh [true,false,true];have em:bn #[]=ba []:=rfl;have base:∀{n m u:Int} {Y:ByteArray} {st:bC},0<=n/\n<=100->0<=m/\m<=100->0<=u/\u<=1000->(op≠33->Y.size<=16)->(op=33->∃ag,Y=ba (m4 ag))->MdV ⟨op,[],n,m,u,Y,st⟩:=λh1 h2 h3 h4 h5=>⟨⟨by show -1<=op;omega,ak.2,ws,h1,h2,h3,h4,h5⟩,by show op≠0;omega⟩;have zz:(0:Int)<=0/\(0:Int)<=100:=md
 have S:(0:Int)<=0/\(0:Int)<=1000:=md
 refine⟨_,rfl,aP (λh1=>?_) (λh1=>aP (λh2=>?_) (λh2=>aP (λh3=>?_) (λh3=>aP (λh4=>?_) (λh4=>?_))))⟩
 .refine D.aA (ko d 3 G co M) ?_;have au:=kc d 3 co;generalize hB d 3=v at au;rintro _ A rfl q;refine⟨_,rfl,?_⟩;have S1:∀(F:Int),1<=F->F<=7->jA.b3 s C d B L 0 ⟨none,0,0⟩ 0 0 0 (bn #[]) 0 0 0 I op ⟨none,0,0⟩ 0 0 0 (bn #[]) 0 0 0 N F A λr z=>nh w r z/\af w z:=by
   intro F h5 h6;refine q.aA (fR F A) ?_;rintro _ E rfl y;have P:∃c:Nat,(if 3<F then(3:Int)else F)=(c:Int)/\1<=c/\c<=3:=⟨(if 3<F then(3:Int)else F).toNat,by split<;>omega,by split<;>omega,by split<;>omega⟩;obtain⟨c,P,aB,aE⟩:=P;rw[P];have ec:aj .u64 (c:Int)=(c:Int):=IntWalk.u64_in _ co;rw[ec];have ep:∃Q:Int,aj .i64 (1 *2^min (a0 (c:Int)) (IntKind.bits .i64))=Q/\1<=Q/\Q<=8:=by
    have:c=1\/c=2\/c=3:=co
    rcases this with rfl|rfl|rfl
    .exact ⟨2,md,md,md⟩
    .exact ⟨4,md,md,md⟩
    .exact ⟨8,md,md,md⟩
   obtain⟨Q,eq,q1,q2⟩:=ep;rw[eq];refine⟨_,_,_,rfl,co,y.ah λZ O=>O.aA (ko B Q Z co hk) ?_⟩;have ax:=kc B Q co;generalize hB B Q=a at ax;rintro _ az rfl ad;have ea:aj .u64 a=a:=IntWalk.u64_in _ co;refine⟨_,rfl,ad.ah λaI ao=>?_⟩;rw[ea];exact H (st:=bP F) (base zz zz co (λ_=>md) (λh=>co)) ao
  have U:aj .i64 (1+v)=1+v:=aQ _ co;show jA.bt s C d B L 0 ⟨none,0,0⟩ 0 0 0 _ 0 0 0 I op ⟨none,0,0⟩ 0 0 0 _ 0 0 0 N (aj .i64 (1+v)) A _;rw[U];exact aP (λ_=>S1 7 md md) (λ_=>S1 _ co co)
 .refine D.nw λA _ q=>q.aA (ko d 6 A co M) ?_;have av:=kc d 6 co;generalize hB d 6=v at av;rintro _ E rfl y;obtain⟨i,rfl⟩:∃i:Nat,v=(i:Int):=⟨v.toNat,co⟩;have W:wb[i]? =some (wb[i]'(by show i<6;omega)):=a' _;have am:=agH W;generalize wb[i]'(by show i<6;omega)=t at W am;have ac:Rd E ⟨some (ab G.heap.size),6,6⟩ (wb.map Value.string):=uo (T:=dv) (y.ob 2) rfl;refine⟨_,rfl,co,by show(i:Int)<6;omega,Rd.get ac (i:=i) (v:=.string t) (by simp[W]) co λp hp P=>⟨t,P,y.ah λZ O=>?_⟩⟩;exact H (st:=du) (base zz zz S (λ_=>am) (λh=>co)) (O.take 2)
 .refine D.nw λA _ q=>q.aA (ko d 2 A co M) ?_;have aa:=kc d 2 co;generalize hB d 2=v at aa;rintro _ E rfl y;obtain⟨i,rfl⟩:∃i:Nat,v=(i:Int):=⟨v.toNat,co⟩;have W:([⟨2,2,1⟩,⟨3,1,1⟩]:List bC)[i]? =some (([⟨2,2,1⟩,⟨3,1,1⟩]:List bC)[i]'(by show i<2;omega)):=a' _;generalize([⟨2,2,1⟩,⟨3,1,1⟩]:List bC)[i]'(by show i<2;omega)=t at W;have ac:bN 3 E ⟨some (ab G.heap.size),2,2⟩ (([⟨2,2,1⟩,⟨3,1,1⟩]:List bC).flatMap g1):=w6 (T:=cF) (y.ob 2) rfl;obtain⟨aq,g2,g3⟩:=eQ ac rfl W (K:=λp=>Nm E (p.add (a0 (i:Int) *3)) λa b c=>loc [L,I] E λZ=>jA.cd s C d B L 0 ⟨none,0,0⟩ 0 0 0 (bn #[]) 0 0 0 I op ⟨none,0,0⟩ 0 0 0 (bn #[]) a b c N Z λr z=>nh w r z/\af w z) (λp hp c=>⟨_,_,_,c.c0,c.c1,c.c2,y.ah λZ O=>H (st:=t) (base zz zz S (λ_=>md) (λh=>co)) (O.take 2)⟩);exact⟨_,rfl,aq,g2,g3⟩
 .obtain ⟨xn,rfl⟩:∃xn:Nat,N=(xn:Int):=⟨N.toNat,co⟩;have hg:l[xn]? =some (l[xn]'co):=a' co;generalize l[xn]'co=e at hg;have aG:=m6 (hv e (aD hg));refine iM (ch.1 (D.getD 0)) rfl hg λp hp c=>⟨_,c.s1,D.aA (ko d _ G (by split<;>omega) M) ?_⟩;have al:=kc d (if 1<e.x.st.n then e.x.st.n else 1) (by split<;>omega);generalize hB d (if 1<e.x.st.n then e.x.st.n else 1)=a at al;have ha:a<64:=by have:=al.2;split at this<;>omega
  rintro _ A rfl q;have U:aj .i64 (a+1)=a+1:=aQ _ co;refine⟨_,rfl,q.ah λE y=>y.aA (ko B _ E (by rw[U];omega) hk) ?_⟩;rw[U];have aw:=kc B (a+1) co;generalize hB B (a+1)=b at aw;rintro _ Z rfl O;exact⟨_,rfl,O.ah λaz ad=>H (st:=du) (base co co S (λ_=>md) (λh=>co)) ad⟩
 have S8:op≠33->jA.rQ s C d B L 0 ⟨none,0,0⟩ 0 0 0 (bn #[]) 0 0 0 I op ⟨none,0,0⟩ 0 0 0 (bn #[]) 0 0 0 N G λr z=>nh w r z/\af w z:=by intro ar;refine D.aA (ko d 2 G co M) ?_;have aa:=kc d 2 co;generalize hB d 2=v at aa;rintro _ A rfl q;have U:aj .i64 (1+v)=1+v:=aQ _ co;refine⟨_,rfl,q.ah λE y=>?_⟩;rw[U];exact H (st:=du) (base co zz S (λ_=>md) (λh=>absurd h ar)) y
 refine aP (λh5=>aM (beq_iff_eq.2 h5) (S8 co)) (λh5=>aP (λh6=>S8 co) (λh6=>aP (λh7=>?_) (λh7=>aP (λh8=>D.aA (YY d M G) ?_) (λh8=>H (st:=du) (base zz zz S (λ_=>md) (λh=>absurd h h8)) D))))
 .refine D.aA (ko d 3 G co M) ?_;have aa:=kc d 3 co;generalize hB d 3=v at aa;rintro _ A rfl q;exact⟨_,rfl,q.ah λE y=>H (st:=du) (base co zz S (λ_=>md) (λh=>co)) y⟩
 .rintro _ A ⟨ag,rfl⟩ q;exact⟨_,rfl,q.ah λE y=>H (st:=du) (base zz zz S (λh=>absurd h8 h) (λ_=>⟨ag,rfl⟩)) y⟩
def MdN.ok{d:Nx}(h:MdN d):qo d:=by
 refine⟨by have:=h.kl;unfold fH;omega,?_,?_,λj=>?_⟩
 .have:=h.n;exact⟨co,co⟩
 .have:=h.m;exact⟨co,co⟩
 .exact (GM (.inr (h.re j))).1
def iU.ok{g:List Nx}(h:iU g)(d:g.length<=fH):zp g:=⟨d,h.vg.val,h.vg.vars⟩
def XQ(g:List Nx)(n:Nx):(hR g n).1.length<=g.length+1:=by
 unfold hR;split
 .simp
 .split
  .simp
  .split
   .simp
   .simp
def Ds{g:List Nx}{n:Nx}(h:(hR g n).2.2=0):(cK g n).2=0/\∃k:Nat,(hR g n).2.1=(k:Int)/\(hR g n).1[k]? =some (hv n (cK g n).1)/\((hR g n).1=g\/(hv n (cK g n).1∉g/\(hR g n).1=g++[hv n (cK g n).1]/\k=g.length)):=by
 unfold hR at h ⊢;split at h
 .rename_i d;exact absurd h d
 rename_i d;have d:(cK g n).2=0:=co
 refine⟨d,?_⟩;rw[ag co];cases j:ie (hv n (cK g n).1) g 0 with
 |some i=>
  have:=Aq j;rw[Nat.sub_zero]at this;exact⟨i,rfl,this.2,.inl rfl⟩
 |none=>
  rw[j]at h;dsimp only at h ⊢;split at h
  .cases h
  .rename_i q;rw[ag q];exact⟨g.length,rfl,ws,.inr ⟨Fl j,rfl,rfl⟩⟩
def XT{g:List Nx}{n:Nx}(j:Vg g)(h:(hR g n).2.2=0):Vg (hR g n).1:=by
 obtain⟨k,x,_,_,d⟩:=Ds h;rcases d with d|⟨q,w,_⟩
 .rw [d];exact j
 .rw [w];exact .snoc j (Nr (by rw[<-k])) q
def XR{g:List Nx}{n:Nx}(q:iU g)(j:MdN n)(h:(hR g n).2.2=0):iU (hR g n).1:=by
 refine⟨XT q.vg h,λw d=>?_⟩;obtain⟨y,A,_,_,k⟩:=Ds h;rcases k with k|⟨z,x,_⟩
 .rw [k]at d;exact q.nd w d
 .rw [x]at d;rcases aX.1 d with d|d
  .exact q.nd w d
  .simp only[aq,aL,aO]at d;subst d;exact⟨j.GW,j.GX,j.kl,j.n,j.m,j.u,j.tx,j.re⟩
def iU.kl{l:List Nd}(h:iU (xs l)):∀e∈l,e.x.kids.length<=fH:=λe d=>by have:=(h.nd e.x (bS.2 ⟨e,d,rfl⟩)).kl;unfold fH;omega
def tS(w:J)(kind:Int)(cD:Nat)(r:bW)(Y:J):Prop:=∃(s:Sl) (l:List Nd),r=ae s.v/\iU (xs l)/\1<=l.length/\l.length<=10+cD/\GP Y s l/\(∀b∈(En.gr s l).fp,w.heap.size<=b)/\∀d∈xs l,d.op=0->d∈xs (g2 kind)
def XS{g:List Nx}{n e:Nx}(j:n.op≠0)(d:e∈(hR g n).1)(h:e.op=0):e∈g:=by
 unfold hR at d;split at d
 .cases d
 .split at d
  .exact d
  .split at d
   .cases d
   .rcases aX.1 d with d|d
    .exact d
    .rw [b0.1 d]at h;exact absurd h j
def Xv(w:J)(cD:Nat)(r:bW)(Y:J):Prop:=∃(s:Sl) (l:List Nd),r=ae s.v/\iU (xs l)/\1<=l.length/\l.length<=10+cD/\GP Y s l/\∀b∈(En.gr s l).fp,w.heap.size<=b
def YO{w:J}{ls:Sl}{h:List Int}(hr:bx w ls h)(ab:∀x∈h,aY x)(a1:h.length<=9223372036854775807)(kind:Int)(cD:Nat)(hm:cD<=1000):
  ai V Gc #[ls.v,.i kind,.i (cD:Int)] w λr z=>tS w kind cD r z/\af w z:=by
 have hn:=bx.len hr;have loop:∀(m i:Nat) (y:Sl) (l:List Nd) (S:J),i+m=cD->iU (xs l)->(∀d∈xs l,d.op=0->d∈xs (g2 kind))->1<=l.length->l.length<=10+i->(∀b∈(En.gr y l).fp,w.heap.size<=b)->LH F0 w S [] [.rd ls (h.map a5),.gr y l]->
   oo.a6 ls kind (cD:Int) y ((3 *i:Nat):Int) S λr z=>tS w kind cD r z/\af w z:=by
  intro m;have e3:aj .i64 (3 *(cD:Int))=3 *(cD:Int):=aQ _ co;induction m with
  |zero=>
   intro i y l S hi C Q M h2 O H;have fin:oo.dc y S λr z=>tS w kind cD r z/\af w z:=⟨⟨y,l,rfl,C,M,co,ch.1 (H.getD 1),O,Q⟩,H.fr⟩;exact oo.bD (aF (λ_=>aN (aW (by rw[e3];omega)) fin) (λ_=>fin))
  |succ m ih=>
   intro i y l S hi C Q M h2 O H;have fin:oo.dc y S λr z=>tS w kind cD r z/\af w z:=⟨⟨y,l,rfl,C,M,co,ch.1 (H.getD 1),O,Q⟩,H.fr⟩;have aT:aj .i64 (((3 *i:Nat):Int)+1)=((3 *i+1:Nat):Int):=aQ _ co;have aU:aj .i64 (((3 *i:Nat):Int)+2)=((3 *i+2:Nat):Int):=aQ _ co;have aV:aj .i64 (((3 *i:Nat):Int)+3)=((3 *(i+1):Nat):Int):=aQ _ co;have next:∀(aa:Sl) (q:List Nd) (D:J),iU (xs q)->(∀d∈xs q,d.op=0->d∈xs (g2 kind))->1<=q.length->q.length<=10+(i+1)->(∀b∈(En.gr aa q).fp,w.heap.size<=b)->LH F0 w D [] [.rd ls (h.map a5),.gr aa q]->oo.cd ls kind (cD:Int) aa ((3 *i:Nat):Int) D λr z=>tS w kind cD r z/\af w z:=by intro aa q D W gv Y g3 g4 F;show oo.a6 ls kind (cD:Int) aa (aj .i64 (((3 *i:Nat):Int)+3)) D _;rw[aV];exact ih (i+1) aa q D co W gv Y g3 g4 F
   have S1:∀(T:Nat) (d:Nd) (I:J) (L:List En),En.g T∈L->MdV d.x->d.P I->(∀b∈az d.ks,w.heap.size<=b)->LH F0 w I L [.rd ls (h.map a5),.gr y l,dt d]->oo.b3 ls kind (cD:Int) y ((3 *i:Nat):Int) T d.x.op d.ks d.x.n d.x.m d.x.u d.x.tx d.x.st.k d.x.st.n d.x.st.x I λr z=>tS w kind cD r z/\af w z:=by
    intro T d I L aX A pd U E;have aS:(xs l).length=l.length:=by simp[xs]
    have E:LH F0 w I [] [.rd ls (h.map a5),.gr y l,dt d]:=E.take 0;refine gn ((Zp (ch.1 (E.getD 1)) pd (C.ok (by rw[aS];unfold fH;omega)) A.toMdN.ok C.kl).mono ?_);rintro _ w4 ⟨⟨s',rfl,⟨q,ad,G',F'⟩⟩,f4⟩;have ae:∀b∈(En.gr s' q).fp,w.heap.size<=b:=λb G=>by
     rcases F' b G with(B|B)|B
     .exact O b B
     .exact eP U b B
     .exact bb E.fr.size B
    have Z:=E.bz f4;have ap:LH F0 w w4 [] [.rd ls (h.map a5),.gr s' q]:=(E.gP (.gr s' q) f4 (ch.2 G') (λb G=>by
     rcases F' b G with(B|B)|B
     .exact .inr (.inr ⟨_,aD (i:=1) rfl,B⟩)
     .exact .inr (.inr ⟨_,aD (i:=2) rfl,B⟩)
     .exact .inl B)).forget _ ws
    have ar:∀{w6:J},LH F0 w w6 [] [.rd ls (h.map a5),.gr y l,dt d]->LH F0 w w6 [] [.rd ls (h.map a5),.gr y l]:=λH=>H.forget _ ws;refine⟨f4,_,_,_,rfl,aP (λh0=>?_) (λh0=>next y l w4 C Q M co O (ar Z))⟩;obtain⟨_,N,aA,av,_⟩:=Ds h0;have an:iU (xs q):=by rw[ad];exact XR C A.toMdN h0
    have aK:∀e∈xs q,e.op=0->e∈xs (g2 kind):=λe he B=>by rw[ad]at he;exact Q e (XS A.nv he B) B
    have aE:q.length<=10+(i+1):=by have:=XQ (xs l) d.x;rw[<-ad]at this;simp only[xs,List.length_map]at this;omega
    rw[<-ad]at av;have ac:N<q.length:=by have:=(cX.1 av).1;simpa[xs]using this
    have am:q[N]? =some (q[N]'ac):=a' ac;generalize q[N]'ac=e at am;rw[aA];refine iM (ch.1 (ap.getD 1)) rfl am λp hp c=>⟨_,_,_,c.s0,c.s1,c.s2,?_⟩;refine gn ((ZE kind e.x.st w4).mono ?_);rintro _ D ⟨⟨b,rfl⟩,f5⟩;have F:=ap.bz f5;have ag:=ar (Z.bz f5);refine⟨f5,_,rfl,bT (λ_=>?_) (λ_=>next y l D C Q M co O ag)⟩;refine iM (ch.1 (F.getD 1)) rfl am λp' a2 c'=>⟨_,c'.s1,aF (λ_=>?_) (λ_=>next y l D C Q M co O ag)⟩;have aB:∀(i:Nat) (d:Nd),q[i]? =some d->d.x.kids.length<=1000000/\∀N∈d.x.kids,0<=N/\N<(i:Int):=λi d A=>by have au:=zj A;have:=(an.nd d.x (aD au)).kl;exact⟨co,an.vg.kids au⟩
    refine gn ((J4 (ch.1 (F.getD 1)) aB (N+1) N co ac D (Fr.refl _ _)).mono ?_);rintro _ w6 ⟨⟨a3,rfl⟩,f6⟩;have f6:af D w6:=f6;exact⟨f6,_,rfl,aF (λ_=>next s' q w6 an aK co aE ae (F.bz f6)) (λ_=>next y l w6 C Q M co O (ag.bz f6))⟩
   refine oo.bD ?_;rw[aT,aU,e3];refine aF (λa0=>aM (aR co) (H.dr λw2 H2=>?_)) (λ_=>fin);have al:bx w2 ls h:=H2.getD 0;have g0:h[3 *i]? =some (h[3 *i]'co):=a' co;have W:h[3 *i+1]? =some (h[3 *i+1]'co):=a' co;have Y:h[3 *i+2]? =some (h[3 *i+2]'co):=a' co;generalize h[3 *i]'co=x0 at g0;generalize h[3 *i+1]'co=x1 at W;generalize h[3 *i+2]'co=x2 at Y;refine⟨co,co,al.cell g0 co λp0 aG c0=>⟨x0,c0,co,co,al.cell W co λp1 aI c1=>⟨x1,c1,co,co,al.cell Y co λp2 aJ c2=>⟨x2,c2,?_,?_⟩⟩⟩⟩
   .have ak:=JR (ch.1 (H2.getD 1)) M (by unfold fH;omega) (λd A=>C.vg.val d.x (bS.2 ⟨d,A,rfl⟩)) x0 x1 x2 (ab _ (aD g0)) (ab _ (aD W)) (ab _ (aD Y));refine H2.D8 ak ?_;rintro _ I ⟨d,rfl,A,pd,U⟩ _ F3;have E:=F3.rd (dt d) pd (eP U);refine⟨_,_,_,_,_,_,_,_,_,rfl,E.aH λT w4 Z=>Z.ah λD F=>?_⟩;exact S1 T d D _ ws A (F.getD 2) (λb G=>bb H2.fr.size (U b G)) F
   .refine H2.aH λT I E=>?_;have ay:bx I ls h:=E.getD 0;have again:∀{j:Nat} {x:Int} {p:Addr} {X:Nat},h[j]? =some x->ls.a=some p->X=j *1->I.cell? (p.add X)=some (.int .i64 x):=by intro j x p X C hp hX;have:=ay.cell C hX (K:=λao=>∃q',ls.a=some q'/\I.cell? (q'.add X)=some (.int .i64 x)) (λao hq hc=>⟨ao,hq,hc⟩);rw[hp]at this;obtain⟨ao,hq,hc⟩:=this;cases hq;exact hc
    have ak:=JR (ch.1 (E.getD 1)) M (by unfold fH;omega) (λd A=>C.vg.val d.x (bS.2 ⟨d,A,rfl⟩)) x0 x1 x2 (ab _ (aD g0)) (ab _ (aD W)) (ab _ (aD Y));refine⟨again Y aJ co,again W aI co,again g0 aG co,E.iF ak ?_⟩;rintro _ w4 ⟨d,rfl,A,pd,U⟩ _ F4;have Z:=F4.rd (dt d) pd (eP U);refine⟨_,_,_,_,_,_,_,_,_,rfl,Z.ah λD F=>?_⟩;exact S1 T d D _ ws A (F.getD 2) (λb G=>bb E.fr.size (U b G)) F
 refine oo.aC ((ZA kind w).mono ?_);rintro _ S ⟨⟨s,rfl,⟨l,hl,ax,aw⟩⟩,f1⟩;have hlen:=afY kind;have aZ:l.length=(g2 kind).length:=by have:=congrArg List.length hl;simpa[xs]using this
 have ae:∀b∈(En.gr s l).fp,w.heap.size<=b:=λb G=>(aw b G).resolve_left id;have H:LH F0 w w [] [.rd ls (h.map a5)]:=bK _ (by intro e he;simp only[aq,aL,aO]at he;subst he;exact hr)
 have H1:=H.gP (.gr s l) f1 (ch.2 ax) (λb G=>.inl (ae b G));exact⟨s,rfl,loop cD 0 s l S co (by rw[hl];exact afZ kind) (λd A _=>hl▸A) co co ae H1⟩
def YN{w:J}{ls:Sl}{d:List Int}(D:bx w ls d)(C:∀E∈d,aY E)(B:d.length<=9223372036854775807)(kind:Int)(cD:Nat)(A:cD<=1000):
  ai V Gc #[ls.v,.i kind,.i (cD:Int)] w λr h=>Xv w cD r h/\af w h:=
 (YO D C B kind cD A).mono λ_ _ ⟨⟨s,l,j,k,q,x,y,z,_⟩,f⟩=>⟨⟨s,l,j,k,q,x,y,z⟩,f⟩
structure tZ(c:Nat)(d:Nx):Prop where
 kl:d.kids.length<=c
 n:aY d.n
 m:aY d.m
 u:0<=d.u
 tx:d.op=33->Df d.tx
def MdN.sp{d:Nx}(h:MdN d):tZ 3 d:=⟨h.kl,⟨by have:=h.n;omega,by have:=h.n;omega⟩,⟨by have:=h.m;omega,by have:=h.m;omega⟩,h.u.1,λj=>.inr (h.re j)⟩
def tZ.RV{c:Nat}{d:Nx}(h:tZ c d)(k:c<=100):qo d:=⟨by have:=h.kl;unfold fH;omega,h.n,h.m,λj=>(GM (h.tx j)).1⟩
def tZ.tok{c:Nat}{d:Nx}(h:tZ c d)(k:c<=100):n4 d:=⟨by have:=h.kl;omega,h.n,h.m,h.u,λj=>(GM (h.tx j)).2.1⟩
structure tP(c:Nat)(d:Nx):Prop where
 sp:tZ c d
 wd:fA d
 tl:d.tx.size<=1000
def tP.small{c:Nat}{d:Nx}(h:tP c d)(j:c<=100):(dJ d).length<=1000000:=adr h.wd (by have:=h.sp.kl;omega) h.tl
def iU.gd{g:List Nx}(h:iU g)(H:g.length<=1000):∀j∈g,tP 3 j:=by
 intro j k;have d:=h.nd j k;obtain⟨i,y⟩:=hJ.1 k;have G:=(cX.1 y).1;have q:=h.vg.kids y;have K:=ID.1 (h.vg.val j k);have I:j.tx.size<=100:=by
  by_cases x:j.op=33
  .obtain ⟨w,q⟩:=d.re x;rw[q,bU];have:=Wq w;omega
  .have:=d.tx x;omega
 have A:=d.GW;have B:=d.GX;have C:=d.kl;have D:=d.n;have E:=d.m;have F:=d.u;exact⟨d.sp,⟨⟨co,co⟩,λw z=>by have:=q w z;exact⟨co,co⟩,co,⟨co,co⟩,⟨co,co⟩,⟨co,co⟩,co,⟨co,co⟩,⟨co,co⟩,⟨co,co⟩⟩,co⟩
structure Lx where
 m:Lm
 gl:List Nd
 hy:List Int
 cl:List Int
 ds:List Sp
abbrev Lm.v(x:Lm):aa:=.agg #[x.g.v,x.h.v,x.c.v,x.s.v]
def wJ(w:J)(x:Lx):Prop:=GP w x.m.g x.gl/\bx w x.m.h x.hy/\bx w x.m.c x.cl/\fP w x.m.s x.ds
def cV(x:Lx):En:=.all [.gr x.m.g x.gl,.rd x.m.h (x.hy.map a5),.rd x.m.c (x.cl.map a5),.sp x.m.s x.ds]
def oA{w:J}{x:Lx}:(cV x).P w↔wJ w x:=by
 constructor
 .intro d;exact⟨ch.1 (d (.gr x.m.g x.gl) ws),d (.rd x.m.h (x.hy.map a5)) ws,d (.rd x.m.c (x.cl.map a5)) ws,dM.1 (d (.sp x.m.s x.ds) ws)⟩
 .rintro ⟨k,q,y,z⟩ e j;simp only[aq,aL,aO]at j;rcases j with rfl|rfl|rfl|rfl
  .exact ch.2 k
  .exact q
  .exact y
  .exact dM.2 z
def nY(n:Nat)(l:List Int):Prop:=l.length<=n/\∀d∈l,aY d
def nY.le{n m:Nat}{l:List Int}(h:nY n l)(d:n<=m):nY m l:=⟨bb h.1 d,h.2⟩
structure g8(n:Nat)(s:bO):Prop where
 k:aY s.kind/\aY s.node/\aY s.da
 p:nY n s.params
 l:nY n s.bM
 h:nY n s.hints
 t:s.nm.size<=n
def g8.le{n m:Nat}{s:bO}(h:g8 n s)(d:n<=m):g8 m s:=⟨h.k,h.p.le d,h.l.le d,h.h.le d,bb h.t d⟩
def ly(n:Nat)(l:List Sp):Prop:=l.length<=n/\∀d∈l,g8 n d.x
def ly.le{n m:Nat}{l:List Sp}(h:ly n l)(d:n<=m):ly m l:=⟨bb h.1 d,λj k=>(h.2 j k).le d⟩
structure hQ(n:Nat)(x:Lx):Prop where
 g:x.gl.length<=n/\∀d∈xs x.gl,tP 3 d
 h:nY n x.hy
 c:nY n x.cl
 s:ly n x.ds
def hQ.le{n m:Nat}{x:Lx}(h:hQ n x)(d:n<=m):hQ m x:=⟨⟨bb h.g.1 d,h.g.2⟩,h.h.le d,h.c.le d,h.s.le d⟩
def g8.Vi{d:Sp}(h:g8 100 d.x):mB d:=⟨by have:=h.p.1;omega,by have:=h.l.1;omega,by have:=h.h.1;omega⟩
structure qn(x:Lx):Prop where
 g:∀d∈x.gl,n4 d.x/\fA d.x
 h:x.hy.length<=100000
 c:x.cl.length<=100000
 s:x.ds.length<=100000
 d:∀d∈x.ds,mB d
def i9:List bO->Int->Int
 |[],_=>0
 |s::r,i=>if s.kind=4 then 12 else if fu s i 0≠0 then fu s i 0 else i9 r (i+1)
def acQ{s:bO}{r:List bO}{i:Int}(h:s.kind=4):i9 (s::r) i=12:=by
 conv=>lhs;unfold i9
 rw[au h]
def acR{s:bO}{r:List bO}{i:Int}(h:s.kind≠4)(d:fu s i 0≠0):i9 (s::r) i=fu s i 0:=by
 conv=>lhs;unfold i9
 rw[ag h,au d]
def NM{s:bO}{r:List bO}{i:Int}(h:s.kind≠4)(d:fu s i 0=0):i9 (s::r) i=i9 r (i+1):=by
 conv=>lhs;unfold i9
 rw[ag h,ag co]
def qL(n:Nat)(l:List Int):Bool:=l.all λd=>av (0<=d)&&av (d<(n:Int))
def gW(x:Lx):Int:=if gL (xs x.gl)≠0 then gL (xs x.gl)else if qL x.gl.length x.hy then if gB x.cl≠0 then gB x.cl else i9 (bq x.ds) 0 else 7
section
variable {w0:J} {x:Lx} {E:Int} {D:List En}
def abA{n:Nat}{l:List Int}{i:Nat}{y:Int}(h:l[i]? =some y):qL n (l.drop i)=(av (0<=y)&&av (y<(n:Int))&&qL n (l.drop (i+1))):=by rw[uF h];rfl
def abT{s:Sl}{l:List Sp}(S:l.length<=100000)(N:∀q∈l,mB q)(A:En.sp s l∈D):∀(k i:Nat) (w:J) (L:List En),i+k=l.length->LH F0 w0 w L D->E=i9 ((bq l).drop i) (i:Int)->
  qX.iC s (s.n:Int) (i:Int) w (iW w0 E):=by
 intro k;induction k with
 |zero=>
  intro i w L K j e;have M:=(dM.1 (j.rd _ A)).n;rw[List.drop_of_length_le (by simp;omega)]at e;exact qX.kL (aN (aW co) ⟨by rw[e];rfl,j.fr⟩)
 |succ k O=>
  intro i w L K j e;have G:=dM.1 (j.rd _ A);have M:=G.n;have y:l[i]? =some l[i]:=a' co;generalize l[i]=q at y;have H:=aD y;rw[B0 y]at e;refine qX.kL (aM (aR co) ⟨co,co,G.get y λp h=>?_⟩);rw[bB];refine⟨_,_,_,_,_,_,_,h.c0,h.c1,h.c2,h.c3,h.c4,h.c5,h.c6,j.aH λQ U F=>aP (λx=>F.ah λW I=>⟨by rw[e,acQ x],I.fr⟩) λx=>F.ah λT B=>B.aA (Na (d:=q) (N q H) ((dM.1 (B.rd _ A)).2 q H)) ?_⟩;rintro _ P rfl C;refine⟨_,rfl,dA (λz=>⟨by rw[e,acR x z],C.fr⟩) (λz=>?_)⟩;rw[bc _ co];exact O (i+1) P _ co C (by rw[e,NM x z];rfl)
def abS{b:Nat}(j:qn x)(B:cV x∈D)(K:E=gW x)(W:gL (xs x.gl)=0):∀(k i:Nat) (w:J) (L:List En),i+k=x.hy.length->En.g b∈L->LH F0 w0 w L D->qL x.gl.length x.hy=qL x.gl.length (x.hy.drop i)->
  qX.a6 b x.m.g x.m.h x.m.c x.m.s x.m.h (x.m.h.n:Int) (i:Int) w (iW w0 E):=by
 have Y:=j.h;intro k;induction k with
 |zero=>
  intro i w L S M q e;have z:=oA.1 (q.rd _ B);have H:=bx.len z.2.1;rw[List.drop_of_length_le co]at e;have e:E=if gB x.cl≠0 then gB x.cl else i9 (bq x.ds) 0:=by rw[K];unfold gW;rw[ag co,e];rfl
  refine qX.bD (aN (aW co) (q.aA (M' z.2.2.1 (by have:=j.c;omega)) ?_));rintro _ U rfl G;refine⟨_,rfl,dA (λC=>⟨by rw[e,au C],G.fr⟩) (λC=>?_)⟩;have O:=oA.1 (G.rd _ B);have aa:=O.2.2.2.n;have:=j.s;refine aN (aW co) ?_;have N:=G.iq (.sp x.m.s x.ds::D) λe F=>?_
  .exact abT co j.d (D:=.sp x.m.s x.ds::D) ws x.ds.length 0 U _ co N (by rw[e,ag co];rfl)
  .rcases aq.1 F with rfl|F
   .exact ⟨λA=>A (cV x) B (En.sp x.m.s x.ds) ws,λb j=>⟨cV x,B,bI.2 ⟨_,ws,j⟩⟩⟩
   .exact ⟨λA=>A e F,λb j=>⟨e,F,j⟩⟩
 |succ k T=>
  intro i w L S M q e;have z:=oA.1 (q.rd _ B);have H:=bx.len z.2.1;have Z:=i4 z.1;have I:x.hy[i]? =some x.hy[i]:=a' co;generalize x.hy[i]=y at I;rw[abA I]at e;have bad:¬(0<=y/\y<(x.gl.length:Int))->iW w0 E (ae (.i 7)) w:=λH=>by
   refine⟨?_,q.fr⟩;rw[K];unfold gW;rw[ag co,e];have:(av (0<=y)&&av (y<(x.gl.length:Int)))=false:=by
    cases A:(av (0<=y)&&av (y<(x.gl.length:Int)))with
    |false=>rfl
    |true=>simp only[bH,decide_eq_true_eq]at A;exact absurd A H
   rw[this];rfl
  refine qX.bD (aM (aR co) ⟨co,co,bx.cell z.2.1 I (by rw[bB]) λp _ Q=>⟨y,Q,aF (λC=>bad co) λC=>aF (λP=>bad co) λP=>?_⟩⟩);rw[bc _ co];exact T (i+1) w L co M q (by rw[e,aR co,aR co];rfl)
def ac3{l:List Nd}(h:∀d∈xs l,tP 3 d):∀d∈l,(n4 d.x/\fA d.x)/\qo d.x:=λd j=>by have:=h d.x (bS.2 ⟨d,j,rfl⟩);exact⟨⟨this.sp.tok co,this.wd⟩,this.sp.RV co⟩
def hQ.k(d:hQ 100 x):qn x:=⟨λj q=>(ac3 d.g.2 j q).1,by have:=d.h.1;omega,by have:=d.c.1;omega,by have:=d.s.1;omega,λj q=>(d.s.2 j q).Vi⟩
def abR(q:qn x){w:J}(h:wJ w x)(A:cq.P w):ai V PW #[x.m.v] w (iW w (gW x)):=by
 refine qX.aC ((bK (w:=w) [cV x,cq] (by
  intro e y;simp only[aq,aL,aO]at y;rcases y with rfl|rfl
  .exact oA.2 h
  .exact A)).aH λb C d=>?_)
 have z:=oA.1 (d.rd (cV x) ws);refine d.aA (Ig z.1 (d.rd cq ws) λ_=>q.g) ?_;rintro _ B rfl k;refine⟨_,rfl,dA (λj=>⟨by unfold gW;rw[au j],k.fr⟩) (λj=>?_)⟩;exact abS q ws rfl j x.hy.length 0 B _ co ws k rfl
end
structure lD(s:bO):Prop where
 k:aY s.kind/\aY s.node/\aY s.da
 p:∀x∈s.params,aY x
 l:∀x∈s.bM,aY x
 h:∀x∈s.hints,aY x
def z'(n:Int):1<=(bJ n).length:=Ab _
def oj(l:List Int):l.length+1<=(cY l).length:=by
 have j:=Ab l.length;have d:∀l:List Int,l.length<=(l.flatMap bJ).length:=λl=>by
  induction l with
  |nil=>exact br _
  |cons h l k=>
   have:=z' h;rw[cH,a7,bR];omega
 have:=d l;unfold cY;rw[a7];omega
def po(b:List UInt8):b.length+1<=(dF b).length:=by have d:=Ab b.length;unfold dF;rw[a7];omega
def VA(s:bO):7+s.params.length+s.bM.length+s.hints.length+s.nm.size<=(ej s).length:=by have h:=z' s.kind;have j:=z' s.node;have k:=z' s.da;have q:=oj s.params;have w:=oj s.bM;have x:=oj s.hints;have d:=po (bl s.nm);rw[dY]at d;unfold ej;simp only[a7];omega
def VH(ss:List bO):7 *ss.length<=(ss.flatMap ej).length:=by
 induction ss with
 |nil=>exact br _
 |cons a ss d=>
  have:=VA a;rw[cH,a7,bR];omega
def fL(st:RS):bO×RS:=
 let h:=bd st
 let n:=bd h.2
 let r:=bd n.2
 let p:=c' r.2
 let t:=cA p.2
 let l:=c' t.2
 let d:=c' l.2
 (⟨h.1,n.1,r.1,p.1,ba t.1,l.1,d.1⟩,d.2)
def gw:Nat->RS->List bO×RS
 |0,st=>([],st)
 |n+1,st=>((fL st).1::(gw n (fL st).2).1,(gw n (fL st).2).2)
def ez(size:Nat)(st:RS):Option (List bO)×RS:=
 if(bd st).1<0\/((size / 7:Nat):Int)<(bd st).1 then(none,(bd st).2)else(some (gw (bd st).1.toNat (bd st).2).1,(gw (bd st).1.toNat (bd st).2).2)
def aeM{s:bO}(W:lD s)(x:(ej s).length<=1000000000000)(r:List UInt8):fL ⟨ej s++r,0⟩=(s,⟨r,0⟩):=by
 have w:=VA s;obtain⟨j,n,q,p,t,l,d⟩:=s;dsimp only at w;have e:ej ⟨j,n,q,p,t,l,d⟩++r=bJ j++(bJ n++(bJ q++(cY p++(dF (bl t)++(cY l++(cY d++r)))))):=by unfold ej;simp only[ck]
 unfold fL;rw[e];dsimp only;rw[mc _ W.k.1];dsimp only;rw[mc _ W.k.2.1];dsimp only;rw[mc _ W.k.2.2];dsimp only;rw[vE p co W.p];dsimp only;rw[Bv (bl t) (by rw[dY];omega)];dsimp only;rw[vE l co W.l];dsimp only;rw[vE d co W.h,jt]
def TG:∀{ss:List bO} (_:∀s∈ss,lD s) (_:(ss.flatMap ej).length<=1000000000000) (r:List UInt8),gw ss.length ⟨ss.flatMap ej++r,0⟩=(ss,⟨r,0⟩)
 |[],_,_,r=>rfl
 |s::ss,W,h,r=>by rw[cH,a7]at h;rw[cH,ck,bR];unfold gw;rw[aeM (W s ws) co];dsimp only;rw[TG (λe d=>W e (by simp[d])) co]
def TJ{ss:List bO}(W:∀s∈ss,lD s){size:Nat}(d:(eJ ss).length<=size)(q:size<=1000000000000)(r:List UInt8):ez size ⟨eJ ss++r,0⟩=(some ss,⟨r,0⟩):=by
 have j:=VH ss;have k:(ss.flatMap ej).length<=size:=by unfold eJ at d;rw[a7]at d;omega
 have h:bd ⟨eJ ss++r,0⟩=((ss.length:Int),⟨ss.flatMap ej++r,0⟩):=by unfold eJ;rw[ck];exact mc _ ⟨co,co⟩ _
 unfold ez;rw[h];dsimp only;rw[ag co,bB,TG W co]
def aeL{st:RS}(h:(fL st).2.err=0):st.err=0/\st.U=ej (fL st).1++(fL st).2.U:=by obtain⟨F,y⟩:=vD h;obtain⟨E,x⟩:=vD F;obtain⟨D,w⟩:=Bu E;obtain⟨C,q⟩:=vD D;obtain⟨B,k⟩:=ma C;obtain⟨A,j⟩:=ma B;obtain⟨z,d⟩:=ma A;refine⟨z,?_⟩;rw[d,j,k,q,w,x,y];unfold ej fL;simp only[ck,gm]
def TF:∀(n:Nat) {st:RS},(gw n st).2.err=0->st.err=0/\st.U=(gw n st).1.flatMap ej++(gw n st).2.U/\(gw n st).1.length=n
 |0,st,d=>⟨d,rfl,rfl⟩
 |n+1,st,d=>by obtain⟨h,j,w⟩:=TF n (st:=(fL st).2) d;obtain⟨k,q⟩:=aeL h;refine⟨k,?_,by show(gw n (fL st).2).1.length+1=n+1;omega⟩;show st.U=((fL st).1::(gw n (fL st).2).1).flatMap ej++(gw n (fL st).2).2.U;rw[cH,ck,<-j];exact q
def TI{size:Nat}{st:RS}{ss:List bO}(d:(ez size st).1=some ss)(h:(ez size st).2.err=0):st.err=0/\st.U=eJ ss++(ez size st).2.U:=by
 unfold ez at d h ⊢;split at d
 .cases d
 .rename_i y;rw[ag y]at h ⊢;simp only[Option.some.injEq]at d;obtain⟨j,k,q⟩:=TF _ h;obtain⟨w,x⟩:=ma j;refine⟨w,?_⟩;unfold eJ;rw[ck,<-d,q,<-k,Int.toNat_of_nonneg co];exact x
def aeN(st:RS):lD (fL st).1/\(fL st).2.U.length<=st.U.length/\(fL st).1.params.length<=st.U.length/\(fL st).1.bM.length<=st.U.length/\(fL st).1.hints.length<=st.U.length/\(fL st).1.nm.size<=st.U.length:=by have d:=k' st;have h:=k' (bd st).2;have s3:=k' (bd (bd st).2).2;have j:=vF (bd (bd (bd st).2).2).2;have w:=vG (c' (bd (bd (bd st).2).2).2).2;have k:=vF (cA (c' (bd (bd (bd st).2).2).2).2).2;have q:=vF (c' (cA (c' (bd (bd (bd st).2).2).2).2).2).2;unfold fL;dsimp only;exact⟨⟨⟨d.1,h.1,s3.1⟩,j.2.1,k.2.1,q.2.1⟩,co,co,co,co,by rw[bU];omega⟩
structure qs(n:Nat)(s:bO):Prop where
 i:lD s
 p:s.params.length<=n
 l:s.bM.length<=n
 h:s.hints.length<=n
 t:s.nm.size<=n
def qs.le{n m:Nat}{s:bO}(h:qs n s)(d:n<=m):qs m s:=⟨h.i,bb h.p d,bb h.l d,bb h.h d,bb h.t d⟩
def TH:∀(n:Nat) (st:RS),(∀s∈(gw n st).1,qs st.U.length s)/\(gw n st).2.U.length<=st.U.length/\(gw n st).1.length=n
 |0,st=>⟨λs d=>(by cases d),br _,rfl⟩
 |n+1,st=>by
  obtain⟨j,h,k,q,w,x⟩:=aeN st;obtain⟨y,z,A⟩:=TH n (fL st).2;refine⟨λs d=>?_,bb z h,by show(gw n (fL st).2).1.length+1=n+1;omega⟩;rcases aq.1 d with e|d
  .rw [e];exact⟨j,k,q,w,x⟩
  .exact (y s d).le h
def TK{size:Nat}{st:RS}{ss:List bO}(d:(ez size st).1=some ss):(∀s∈ss,qs st.U.length s)/\ss.length<=size:=by
 unfold ez at d;split at d
 .cases d
 .simp only[Option.some.injEq]at d;obtain⟨h,w,k⟩:=TH (bd st).1.toNat (bd st).2;have q:=(k' st).2;rw[d]at h k;exact⟨λs j=>(h s j).le q,co⟩
structure Lp where
 g:List Nx
 hy:List Int
 cl:List Int
 ss:List bO
def Lp.e:Lp:=⟨[],[],[],[]⟩
def Lx.p(x:Lx):Lp:=⟨xs x.gl,x.hy,x.cl,bq x.ds⟩
def nE(x:Lp):Int:=if gL x.g≠0 then gL x.g else if qL x.g.length x.hy then if gB x.cl≠0 then gB x.cl else i9 x.ss 0 else 7
def ace(x:Lx):gW x=nE x.p:=by
 have:(xs x.gl).length=x.gl.length:=by simp[xs]
 unfold gW nE Lx.p;dsimp only;rw[this]
def dx(x:Lp):List UInt8:=dF (cL x.g)++(cY x.hy++(cY x.cl++eJ x.ss))
def hh(U:List UInt8):Option Lp:=
 let r:=cA ⟨U,0⟩
 if(gp r.1).2≠0 then none else
 let d:=c' r.2
 let c:=c' d.2
 match(ez U.length c.2).1 with
 |some h=>if iP (ez U.length c.2).2=0 then some ⟨(gp r.1).1,d.1,c.1,h⟩else none
 |none=>none
def sE(U:List UInt8):RS:=(c' (c' (cA ⟨U,0⟩).2).2).2
def ach{U:List UInt8}(h:(gp (cA ⟨U,0⟩).1).2≠0):hh U=none:=by unfold hh;dsimp only;rw[au h]
def acj{U:List UInt8}(h:(gp (cA ⟨U,0⟩).1).2=0):hh U=match(ez U.length (sE U)).1 with
  |some d=>if iP (ez U.length (sE U)).2=0 then some ⟨(gp (cA ⟨U,0⟩).1).1,(c' (cA ⟨U,0⟩).2).1,(c' (c' (cA ⟨U,0⟩).2).2).1,d⟩else none
  |none=>none:=by unfold hh sE;dsimp only;rw[ag (λe=>e h)]
structure qm(x:Lp):Prop where
 g:∀d∈x.g,fA d
 n:x.g.length<=4096
 v:gL x.g=0
 h:∀y∈x.hy,aY y
 c:∀y∈x.cl,aY y
 s:∀s∈x.ss,lD s
def aci{x:Lp}(W:qm x)(w:(dx x).length<=1000000000000):hh (dx x)=some x:=by
 obtain⟨g,j,d,k⟩:=x;have e:dx ⟨g,j,d,k⟩=dF (cL g)++(cY j++(cY d++(eJ k++[]))):=by unfold dx;rw[List.append_nil]
 have y:=w;unfold dx at y;simp only[a7]at y;have B:=po (cL g);have C:=oj j;have D:=oj d;unfold hh;generalize q:dx ⟨g,j,d,k⟩=b at w;have A:(eJ k).length<=b.length:=by rw[<-q];unfold dx;simp only[a7];omega
 rw[<-q,e];dsimp only;rw[Bv _ co];dsimp only;rw[KI W.g W.n W.v];dsimp only;rw[ag (λz=>z rfl),vE j co W.h];dsimp only;rw[vE d co W.c];dsimp only;rw[<-e,q,TJ W.s A w];rfl
def To{st:RS}(h:iP st=0):st.err=0/\st.U=[]:=by
 unfold iP at h;split at h
 .rename_i d;exact absurd h d
 .rename_i d;split at h
  .cases h
  .exact ⟨by simpa using d,List.eq_nil_of_length_eq_zero co⟩
def Nu{U:List UInt8}{x:Lp}(h:hh U=some x):(gp (cA ⟨U,0⟩).1).2=0/\x.g=(gp (cA ⟨U,0⟩).1).1/\x.hy=(c' (cA ⟨U,0⟩).2).1/\x.cl=(c' (c' (cA ⟨U,0⟩).2).2).1/\
  (ez U.length (c' (c' (cA ⟨U,0⟩).2).2).2).1=some x.ss/\iP (ez U.length (c' (c' (cA ⟨U,0⟩).2).2).2).2=0:=by
 unfold hh at h;dsimp only at h;split at h
 .cases h
 .rename_i d;split at h
  .rename_i q k;split at h
   .rename_i j;cases h;exact⟨by simpa using d,rfl,rfl,rfl,k,j⟩
   .cases h
  .cases h
def acg{U:List UInt8}{x:Lp}(h:hh U=some x):dx x=U/\gL x.g=0:=by obtain⟨D,j,E,F,G,H⟩:=Nu h;obtain⟨B,C⟩:=To H;obtain⟨k,d⟩:=TI G B;obtain⟨q,w⟩:=vD k;obtain⟨y,z⟩:=vD q;obtain⟨L,A⟩:=Bu (st:=⟨U,0⟩) y;obtain⟨I,K⟩:=aad D;refine⟨?_,by rw[j];exact K⟩;rw[C,List.append_nil]at d;unfold dx;rw[j,E,F,I,<-d,<-w,<-z];exact A.symm
structure nZ(n:Nat)(x:Lp):Prop where
 g:∀d∈x.g,fA d
 hl:x.hy.length<=n
 h:∀y∈x.hy,aY y
 cl:x.cl.length<=n
 c:∀y∈x.cl,aY y
 sl:x.ss.length<=n
 s:∀s∈x.ss,qs n s
def aac{U:List UInt8}(j:U.length<=1000000):∀h∈(gp U).1,fA h:=by
 intro h d;have k:=(k' ⟨U,0⟩).2;have ok:=TE (bd ⟨U,0⟩).1.toNat (bd ⟨U,0⟩).2 (bb k j);unfold gp at d;split at d
 .cases d
 .split at d
  .cases d
  .split at d
   .cases d
   .exact (ok h d).1
def ack{U:List UInt8}{x:Lp}(D:U.length<=1000000)(h:hh U=some x):nZ U.length x:=by obtain⟨B,q,d,j,w,C⟩:=Nu h;have z:=vG ⟨U,0⟩;have A:=vF (cA ⟨U,0⟩).2;have s3:=vF (c' (cA ⟨U,0⟩).2).2;have k:=TK w;dsimp only at z;refine⟨?_,by rw[d];omega,by rw[d];exact A.2.1,by rw[j];omega,by rw[j];exact s3.2.1,k.2,λs y=>(k.1 s y).le co⟩;rw[q];exact aac co
def _root_.Go.W.En.ga(rb:Nat)(st:RS)(fp:List Nat):En:=⟨kp fp,λh=>dn h rb st fp,λh A z k=>(by obtain⟨s,all,y,rfl,q,j,w⟩:=k;have x:∀b∈rb::az s,A.heap[b]? =h.heap[b]?:=λb d=>z b (aT.2 d) (dn.lt ⟨s,all,y,rfl,q,j,w⟩ b d);exact⟨s,all,y,rfl,(x rb ws).trans q,⟨j.1,j.2.cB λb d _=>x b (by simp[d])⟩,w⟩),λh k b d=>k.lt b (aT.1 d),pH _⟩
def Hp(rb:Nat)(st:RS)(fp:List Nat)(w:J)(b:Nat):¬(En.ga rb st fp).P ({w with heap:=Array.replicate (b+1) (.map #[] 0)}):=by rintro⟨s,all,h,_,d,_⟩;simp[Array.getElem?_replicate]at d
section
variable {M:Nat->Prop} {w0 w:J} {L D:List En} {U:List Nat}
def _root_.Go.W.LH.rm(H:LH M w0 w L D)(i:Nat){rb:Nat}{st k:RS}{fp:List Nat}{v:aa}{g:cR}{args:Array aa}{K:aK}(hi:L[i]? =some (.ga rb st fp))(q:dn w rb st fp->ai V g args w (wP w rb fp v k))(x:∀d,LH M w0 d (L.set i (.ga rb k fp)) D->K (ae v) d)(bG:∀b∈U,En.g b∈L:=by simp):ep U V g args w K:=by
 have j:dn w rb st fp:=H.get i hi;refine⟨(·=rb),λb h y=>?_,(q j).mono λr d ⟨z,B,f⟩=>⟨f,?_⟩⟩
 .subst y;exact ou H hi (Hp b st fp w) (bG b h) (aT.2 j.mem)
 .subst z;exact x d (H.g4 i (.ga rb k fp) hi (f.mono λC _ A=>aT.2 (by rw[A];exact j.mem)) B λb h=>.inl h)
def _root_.Go.W.LH.mX(H:LH M w0 w L D)(i:Nat){rb:Nat}{st B:RS}{fp:List Nat}{e:TypeId}{vs:List aa}{g:cR}{args:Array aa}{K:aK}(hi:L[i]? =some (.ga rb st fp))(F:dn w rb st fp->ai V g args w (rO w rb fp e vs B))(G:∀s x,LH M w0 x (L.set i (.ga rb B fp)) (D++[.rd s vs])->(∀b∈az s,w.heap.size<=b)->K (ae s.v) x)(bG:∀b∈U,En.g b∈L:=by simp):ep U V g args w K:=by
 have q:dn w rb st fp:=H.get i hi;refine⟨(·=rb),λb h I=>?_,(F q).mono λr x ⟨s,O,N,Q,f,E⟩=>⟨f,?_⟩⟩
 .subst I;exact ou H hi (Hp b st fp w) (bG b h) (aT.2 q.mem)
 .subst O;have j:=H.g4 i (.ga rb B fp) hi (f.mono λZ _ P=>aT.2 (by rw[P];exact q.mem)) Q λb h=>.inl h;refine G s x ⟨j.fr,j.own,λy d=>?_,j.new,j.nd,λy d b h z C A=>?_⟩ E
  .rcases aX.1 d with d|d
   .exact j.rd y d
   .simp at d;subst d;exact N.rd
  .rcases aX.1 d with d|d
   .exact j.dj y d b h z C A
   .simp at d;subst d;have S:w.heap.size<=b:=by
     have h:b∈(if vs=[]then[]else az s):=h;split at h
     .cases h
     .exact E b h
    have T:b<w.heap.size:=by
     obtain⟨Y,k⟩:=hJ.1 C;rw[List.getElem?_set]at k;split at k
     .split at k
      .cases k;exact q.lt b (aT.1 A)
      .cases k
     .exact z.lt w (H.own z (aD k)) b A
    omega
abbrev _root_.Go.W.En.by(s:Sl)(l:List UInt8):En:=.row cJ 1 s (l.map W.bL)
def qW{w:J}{s:Sl}{l:List UInt8}(h:aG w cJ 1 s (l.map W.bL)):e0 w s l:=h.Bf
def _root_.Go.W.LH.n7(H:LH M w0 w L D)(i:Nat){ty:TypeId}{s src:Sl}{l m:List UInt8}{K:Sl->J->Prop}(hi:L[i]? =some (.by s l))(j:Bytes w src m)(z:l.length+m.length<=100000000000000)(x:∀h d,LH M w0 d (L.set i (.by h (l++m))) D->K h d)(bG:∀b∈U,En.g b∈L:=by simp):
  ∃h d,(Builtin.append_ #[dB,dB] ty #[s.v,src.v]).run V w=.ok h.v d/\kept U w d/\K h d:=by
 have y:=(qW (H.get i hi)).1;have k:=j.1;simp only[List.length_map]at y k;refine H.dp i jz (ty:=ty) (src:=src) (news:=m.map W.bL) hi ⟨by simp[k],j.2.1,j.2.2⟩ (W.zM _) co (λh d q=>x h d ?_) bG
 rwa[<-List.map_append]at q
def _root_.Go.W.LH.Dy(H:LH M w0 w L D)(i:Nat){ty:TypeId}{s src:Sl}{l m:List UInt8}{K:Sl->J->Prop}(hi:L[i]? =some (.by s l))(y:Bytes w src m)(x:l.length+m.length<=100000000000000)(q:∀d h,LH M w0 h (L.set i (.by d (l++m))) D->K d h):
  ∃d h,(Builtin.append_ #[dB,dB] ty #[s.v,src.v]).run V w=.ok d.v h/\K d h:=by obtain⟨d,h,j,_,k⟩:=H.n7 (U:=[]) i (ty:=ty) hi y x q ws;exact⟨d,h,j,k⟩
def _root_.Go.W.LH.jv(H:LH M w0 w L D){g:cR}{args:Array aa}{l:List UInt8}{K:aK}(h:ai V g args w (iV w l))(j:∀s d,LH M w0 d L D->wA M w0 w d L D->e0 d s l->(∀b∈az s,w.heap.size<=b)->K (ae s.v) d):ep U V g args w K:=
 gn (h.mono λr d ⟨s,x,q,f,k⟩=>⟨f,by subst x;exact j s d (H.bz f) (H.fresh f) q k⟩)
def _root_.Go.W.LH.ZK(H:LH M w0 w L D){g:cR}{args:Array aa}{l:List UInt8}{K:aK}(h:ai V g args w (iV w l))(j:∀s d,LH M w0 d L D->wA M w0 w d L D->e0 d s l->(∀b∈az s,w.heap.size<=b)->K (ae s.v) d):ai V g args w K:=
 h.mono λr d ⟨s,x,q,f,k⟩=>by subst x;exact j s d (H.bz f) (H.fresh f) q k
def _root_.Go.W.LH.str(H:LH M w0 w L D)(t:ByteArray){K:Sl->J->Prop}(x:∀h d,LH M w0 d L D->Bytes d h (bl t)->K h d)(bG:∀b∈U,En.g b∈L:=by simp):
  ∃h d,(Go.convert dv dB (.string t)).run V w=.ok h.v d/\kept U w d/\K h d:=by obtain⟨h,d,k,q,j,_⟩:=yX w t;exact⟨h,d,k,λb y=>j.cB b (H.own _ (bG b y)) id,x h d (H.bz j) q⟩
end
def Hi{w:J}{rb:Nat}{st:RS}{fp:List Nat}(h:dn w rb st fp):ai V Ru #[.pointer (some (ab rb))] w (rO w rb fp cJ ((cA st).1.map bL) (cA st).2):=by refine WT.ok ((ND h).mono ?_);rintro r j ⟨s,rfl,d⟩;exact⟨s,rfl,s,rfl,d⟩
def nk(w:J)(rb:Nat)(fp:List Nat)(Q:bW->En->RS->Prop):aK:=λr d=>∃(e:En) (st:RS),Q r e st/\e.P d/\(∀b∈e.fp,w.heap.size<=b)/\dn d rb st fp/\Fr (·∈fp) w d
section
variable {M:Nat->Prop} {w0 w:J} {L D:List En} {U:List Nat}
def _root_.Go.W.LH.yG(H:LH M w0 w L D)(i:Nat){rb:Nat}{st:RS}{fp:List Nat}{Q:bW->En->RS->Prop}{g:cR}{args:Array aa}{K:aK}(hi:L[i]? =some (.ga rb st fp))(G:dn w rb st fp->ai V g args w (nk w rb fp Q))(I:∀r e q x,Q r e q->LH M w0 x (L.set i (.ga rb q fp)) (D++[e])->(∀b∈e.fp,w.heap.size<=b)->K r x)(bG:∀b∈U,En.g b∈L:=by simp):ep U V g args w K:=by
 have E:dn w rb st fp:=H.get i hi;refine⟨(·∈fp),λb j N=>?_,(G E).mono λr x ⟨e,q,P,F,C,S,f⟩=>⟨f,?_⟩⟩
 .exact ou H hi (Hp rb st fp w) (bG b j) (aT.2 N)
 .have h:=H.g4 i (.ga rb q fp) hi (f.mono λab _ O=>aT.2 O) S λb j=>.inl j;refine I r e q x P ⟨h.fr,h.own,λy d=>?_,h.new,h.nd,λy d b j z B A=>?_⟩ C
  .rcases aX.1 d with d|d
   .exact h.rd y d
   .simp at d;subst d;exact F
  .rcases aX.1 d with d|d
   .exact h.dj y d b j z B A
   .simp at d;subst d;have T:=C b j;have Y:b<w.heap.size:=by
     obtain⟨Z,k⟩:=hJ.1 B;rw[List.getElem?_set]at k;split at k
     .split at k
      .cases k;exact E.lt b (aT.1 A)
      .cases k
     .exact z.lt w (H.own z (aD k)) b A
    omega
end
def FP{w:J}{rb:Nat}{st:RS}{fp:List Nat}{D:List En}(h:dn w rb st fp)(k:∀e∈D,e.P w/\∀b∈e.fp,b∉fp):LH (·∈fp) w w [.ga rb st fp] D:=
 ⟨Fr.refl _ _,λe d=>by rw[b0.1 d];exact h,λe d=>(k e d).1,λe d b j=>by
  rw[b0.1 d]at j;exact .inr (aT.1 j),by simp only[cH,List.flatMap_nil,List.append_nil];exact(En.ga rb st fp).nd,λe d b j y x q=>by rw[b0.1 x]at q;exact(k e d).2 b j (aT.1 q)⟩
def NB{w:J}{rb:Nat}{st:RS}{fp:List Nat}(h:dn w rb st fp):LH (·∈fp) w w [.ga rb st fp] []:=FP h λe d=>by cases d
namespace y0
abbrev P0:Ps:=[(2,.l [.s] Cb)]
abbrev bt:=ak (ax V Tryz.f91 [(8,ls [0,1,2,4,6,8,10,12,14,16,18,3,5,7,9,11,13,15,17,19,20,21,22,23,24,25])] [2,6]) [0,1,1,1,3] P0
abbrev t1:=ao bt
def cy:=bh t1 [0,1,1,1,5] [(2,.l [.s] Cb),(4,.p),(6,.l [.s] Cb),(18,.I),(19,.I)]
abbrev t2:=bg cy
abbrev cd:=ak t2 [0,1,1,1,6] P0
abbrev t3:=ao cd
def dH:=bm t3 cy
def aC:=ay t3 QR [.s]
end y0
end Go.Proofs.YtnaglpcbkhjpnabGreatDoor
end
