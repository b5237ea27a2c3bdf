import Derived.Test.YtnaglpcbkhjpnaaGreatDoorWN
import Derived.Test.YtnaglpcbkhjpnaaGreatDoorE3
import Derived.Test.YtnaglpcbkhjpnaaGreatDoorR14
import Derived.Test.YtnaglpcbkhjpnaaGreatDoorG9
import Derived.Test.YtnaglpcbkhjpnaaGreatDoorPN
import Derived.Test.YtnaglpcbkhjpnaaGreatDoorU
set_option linter.unusedVariables false
set_option linter.defProp false
set_option maxRecDepth 100000
namespace Go.Proofs.YtnaglpcbkhjpnaaGreatDoor
open Go renaming World->J,Calls->aj,Value->aa,FuncId->cW
open Go.IntKind renaming wrap->ah
open _root_.Int renaming toNat->a5,tdiv->bS,toNat_natCast->bo
open _root_.ByteArray renaming mk->bh
open Go.IntWalk renaming i64_in->aN
open _root_.Bool renaming and_eq_true->bH
open _root_.Nat renaming le_refl->bm,le_trans->bz,zero_le->dI
open _root_.BitVec renaming ofInt->e3
open Go.Proofs.Tryz renaming prog->V
open _root_.Decidable renaming decide->au
open Go.Ending renaming returned->ae
open List renaming mem_append->aW,mem_cons->aq,not_mem_nil->aL,mem_of_getElem?->aG,getElem?_eq_getElem->a',getElem?_eq_some_iff->cV,mem_map->bK,length_append->a9,length_cons->bI,getElem?_append_left->G4,getElem?_append_right->pA,append_assoc->cN,mem_singleton->bY,flatMap_cons->cU,mem_iff_getElem?->hO,take_append_drop->np,all_eq_true->fa,getElem?_drop->Bf,getElem?_take->Bg
open Go Go.W
def lF(bs k:Nat)(w:J):Prop:=w.heap[bs]? =some (.cells #[.i (k:Int)] b' (0,0))
def JX{bs k:Nat}{w:J}(h:lF bs k w):w.cell? (ab bs)=some (.i (k:Int)):=by
 have:=cellAt (p:=ab bs) (i:=0) (v:=.i (k:Int)) h rfl rfl
 rwa[jg]at this
abbrev oC(s:Sl)(l:List I):I:=.mk 0 0 0 s l
def Ib{M:Nat->Prop}{t:I}{w Y:J}(h:t.P w)(f:Fr M w Y)(j:∀b∈t.fp,¬M b):t.P Y:=I.cC t (λb d k=>f.cC b k (j b d)) h
section
variable {s:Sl} {l:List I} {bs:Nat}
def DP(M:I.a7 l<=1000000)(S:bs∉(oC s l).fp)(i j k:Nat)(T:k<=100)(hi:i<l.length)(L:j<l.length){w:J}(K:(oC s l).P w)(y:lF bs k w):
  aj V P8 #[s.v,.i (i:Int),.i (j:Int),.pointer (some (ab bs)),.func (.func cz) #[] #[]] w λr D=>(∃a b A:Nat,r=ae (.tuple #[.i (a:Int),.i (b:Int)])/\(a=i/\b=j\/a=j/\b=i)/\A<=k+1/\lF bs A D)/\Fr (·=bs) w D:=by
 have q:l[i]? =some l[i]:=a' hi;have x:l[j]? =some l[j]:=a' L;generalize l[i]=a at q;generalize l[j]=b at x;have N:=aG q;have C:=aG x;have d:af w w.drew:=Fr.drew _ _;have h:=K.br d;refine Ui.ok _ _ _ _ w _ (iZ h rfl x (iZ h rfl q ?_));refine(zB b a w.drew (bz (I.eH C) M) (h.parts.2.mem C) (h.parts.2.mem N)).mono ?_;rintro _ O ⟨rfl,f⟩;have B:=lt_of_heap y;have z:lF bs k O:=by unfold lF at y ⊢;rw[f.cC bs (Nat.lt_of_lt_of_le B d.size) id,d.cC bs B id];exact y
 refine⟨_,rfl,aE (λ_=>?_) (λ_=>⟨⟨i,j,k,rfl,.inl ⟨rfl,rfl⟩,Nat.le_succ _,z⟩,(d.dN f).po⟩)⟩;obtain⟨E,F,Q,G⟩:=vI z 0 ws (.i (((k+1:Nat)):Int));rw[jg]at E F Q G;refine⟨(k:Int),JX z,E,F,?_⟩;rw[bb _ co];exact⟨⟨j,i,k+1,rfl,.inr ⟨rfl,rfl⟩,bm _,by unfold lF;grind⟩,(d.dN f).po.trans G λU _ H=>H⟩
end
def nB{α:Type}{U:List α}{i j:Nat}{a b:α}(hi:U[i]? =some a)(h:U[j]? =some b)(d:Nat):((U.set i b).set j a)[d]? =if d=j then some a else if d=i then some b else U[d]?:=by grind
def U6{α:Type}{U:List α}{i j:Nat}{a b:α}(hi:U[i]? =some a)(k:U[j]? =some b):((U.set i b).set j a).Perm U:=by obtain⟨d,rfl⟩:=cV.1 hi;obtain⟨h,rfl⟩:=cV.1 k;exact List.set_set_perm d h
abbrev oU(d x:I):Prop:=bc x.rx d.rx<0
section
variable {s:Sl} {l:List I} {w:J}
abbrev IK(s:Sl)(l:List I)(w d:J)(U:List I):Prop:=LH (·∈ax s) w d [.row aZ 4 s (U.flatMap I.c)] [.trees l]
end
def R9{w:J}{l m:List I}(h:I.Ps w l)(d:m.Perm l):I.Ps w m:=I.i0 λt j=>h.mem (d.mem_iff.1 j)
def ZY{l m:List I}(j:m.Perm l){b:Nat}(h:b∈I.be m):b∈I.be l:=by obtain⟨t,k,d⟩:=I.bZ.1 h;exact I.bZ.2 ⟨t,j.mem_iff.1 k,d⟩
def ac5{M:Nat->Prop}{l:List I}{w Y:J}(h:I.Ps w l)(f:Fr M w Y)(j:∀b∈I.be l,¬M b):I.Ps Y l:=I.keeps l (λb d k=>f.cC b k (j b d)) h
set_option maxRecDepth 100000
set_option maxHeartbeats 2000000
namespace Uf
def ok:=az (ay V Tryz.f268 [] []) P6 [.s,.I,.r,.g cz 0 0]
end Uf
namespace yF
abbrev P0:Ps:=[(0,.v [.s]),(8,.v [.I]),(9,.v [.I])]
noncomputable def L0:=bg (ay V Tryz.f258 [(3,lr 16)] []) [0,1,2] P0
noncomputable abbrev t1:=bf L0
noncomputable abbrev S1:=ak t1 [2,1,1,2,2] P0
noncomputable abbrev t2:=ao S1
def bC:=bj t2 L0
def ok:=az t2 Qb [.s,.I,.I,.g cz 0 0]
end yF
namespace Uj
def ok:=az (ay V Tryz.f267 [(1,lr 10),(2,lr 10),(3,lr 10)] []) Qd [.r]
end Uj
namespace Uh
def ok:=az (ay V Tryz.f266 [] []) Gm [.I]
end Uh
namespace qV
noncomputable def L1:=bg (ay V Tryz.f256 [(10,lr 20)] []) [0,1,3,1,2] [(0,.v [.s]),(1,.v [.I]),(8,.v [.I]),(9,.v [.r]),(10,.v [.U]),(11,.v [.I])]
noncomputable abbrev t1:=bf L1
abbrev P0:Ps:=[(0,.v [.s]),(1,.v [.I]),(8,.v [.I]),(9,.v [.r]),(10,.v [.U]),(11,.v [.I]),(12,.v [.I])]
noncomputable abbrev S3:=ak t1 [2,2,1,2,3,1,2] P0
noncomputable abbrev t2:=ao S3
noncomputable abbrev S2:=ak t2 [1,2,1,2,3,1,2] P0
noncomputable abbrev t3:=ao S2
def fH:=bj t3 L1
noncomputable abbrev S0:=ak t3 [1] [(0,.v [.s]),(1,.v [.I]),(8,.v [.I])]
noncomputable abbrev t4:=ao S0
def ok:=az t4 PX [.s,.I,.I,.g cz 0 0]
end qV
namespace vL
noncomputable def L0:=bg (ay V Tryz.f265 [(3,lr 22),(5,lr 16),(6,lr 24)] []) [0,1,1] [(0,.v [.s]),(2,.v [.I]),(3,.v [.I]),(4,.v [.g cz 0 0]),(10,.v [.I])]
noncomputable abbrev t1:=bf L0
abbrev P0:Ps:=[(0,.v [.s]),(2,.v [.I]),(3,.v [.I]),(4,.v [.g cz 0 0]),(10,.v [.I]),(11,.v [.I])]
noncomputable abbrev S2:=ak t1 [3,3,1] P0
noncomputable abbrev t2:=ao S2
noncomputable abbrev S1:=ak t2 [1,3,1] P0
noncomputable abbrev t3:=ao S1
def bC:=bj t3 L0
def ok:=az t3 Qc [.s,.I,.I,.I,.g cz 0 0]
end vL
namespace pF
noncomputable def L1:=bg (ay V Tryz.f255 [(10,lr 20)] []) [0,1,1,1,3] [(0,.v [.s]),(3,.v [.g cz 0 0]),(8,.v [.I]),(9,.v [.I]),(10,.v [.I]),(11,.v [.I])]
noncomputable abbrev t1:=bf L1
noncomputable def L2:=bg t1 [0,1,5] [(0,.v [.s]),(3,.v [.g cz 0 0]),(8,.v [.I]),(9,.v [.I]),(12,.v [.I])]
noncomputable abbrev t2:=bf L2
def j5:=bj t2 L2
def fH:=bj t2 L1
noncomputable abbrev S0:=ak t2 [3] [(0,.v [.s]),(3,.v [.g cz 0 0]),(8,.v [.I]),(9,.v [.I]),(10,.v [.I])]
noncomputable abbrev t3:=ao S0
def ok:=az t3 PZ [.s,.I,.I,.g cz 0 0]
end pF
namespace oI
abbrev P0:Ps:=[(0,.v [.s]),(1,.v [.I]),(4,.v [.g cz 0 0]),(11,.v [.I]),(12,.v [.I])]
noncomputable def L0:=bg (ay V Tryz.f260 [(1,lr 16),(3,lr 17),(5,lr 16),(8,lr 16)] []) [0,2,3] P0
noncomputable abbrev t1:=bf L0
noncomputable def L1:=bg t1 [0,6,3] P0
noncomputable abbrev t2:=bf L1
noncomputable def L2:=bg t2 [0,2,1,4,3] P0
noncomputable abbrev t3:=bf L2
noncomputable abbrev S4:=ak t3 [5,4,3] P0
noncomputable abbrev t4:=ao S4
noncomputable abbrev S3:=ak t4 [2,4,3] P0
noncomputable abbrev t5:=ao S3
def j5:=bj t5 L2
def fH:=bj t5 L1
def bC:=bj t5 L0
def ok:=az t5 Qa [.s,.I,.I,.I,.g cz 0 0]
end oI
set_option maxHeartbeats 1000000
structure Sq(s:Sl)(l:List I)(w w1:J)(U:List I):Prop where
 H:IK s l w w1 U
 p:U.Perm l
namespace Sq
variable {s:Sl} {l U:List I} {w w1:J}
def len(h:Sq s l w w1 U):U.length=l.length:=h.p.length_eq
def n(h:Sq s l w w1 U):s.n=l.length:=by have d:=(h.H.get 0:aF w1 aZ 4 s (U.flatMap I.c)).len;rw[qn I.c 4 I.ka]at d;have:=h.len;omega
def dr(h:Sq s l w w1 U){K:J->Prop}(k:∀d,Sq s l w d U->K d):mw w1 K:=h.H.dr λd j=>k d ⟨j,h.p⟩
def fr(h:Sq s l w w1 U):Fr (·∈ax s) w w1:=h.H.fr
def cmp(h:Sq s l w w1 U)(S:I.a7 l<=1000000){i j:Nat}{x y:I}{X k:Int}(hi:U[i]? =some x)(z:U[j]? =some y)(O:X=(i:Int))(P:k=(j:Int)){K:Int->J->Prop}(Q:∀d,Sq s l w d U->K (bc x.rx y.rx) d):
  fo s X λp=>gi w1 (p.add (a5 X *4)) λC D E F=>fo s k λW=>gi w1 (W.add (a5 k *4)) λG L M N=>rR cz #[.agg #[.i C,.int .u8 D,.int .u8 E,F.v],.agg #[.i G,.int .u8 L,.int .u8 M,N.v]] w1 K:=by have A:x∈l:=h.p.mem_iff.1 (aG hi);have T:y∈l:=h.p.mem_iff.1 (aG z);have q:I.Ps w1 l:=h.H.getD 0;refine h.H.el 0 i O hi (h.H.el 0 j P z ?_);refine h.H.call (zB x y w1 (bz (I.eH A) S) (q.mem A) (q.mem T)) ?_;rintro _ d rfl B;exact⟨_,rfl,Q d ⟨B,h.p⟩⟩
def swap(h:Sq s l w w1 U){i j:Nat}{x y:I}{X d:Int}(hi:U[i]? =some x)(q:U[j]? =some y)(B:X=(i:Int))(C:d=(j:Int)){K:J->Prop}(T:∀A,Sq s l w A ((U.set j x).set i y)->K A):
  mw w1 λw1=>fo s X λp=>gi w1 (p.add (a5 X *4)) λF G L M=>fo s d λz=>gi w1 (z.add (a5 d *4)) λN O P Q=>
   fo s d λz=>ma w1 (z.add (a5 d *4)) (.i F) (.int .u8 G) (.int .u8 L) (M.v) λY=>fo s X λp=>ma Y (p.add (a5 X *4)) (.i N) (.int .u8 O) (.int .u8 P) (Q.v) K:=by have Z:=(cV.1 hi).1;have S:=(cV.1 q).1;refine h.H.dr λA k=>k.el 0 i B hi (k.el 0 j C q (k.xf 0 j (t:=x) C S λw3 D=>?_));refine D.xf 0 i (t:=y) (U:=U.set j x) B (by rw[List.length_set];omega) λW E=>T W ⟨E,?_⟩;exact(U6 q hi).trans h.p
end Sq
def Sg(a b:Nat)(U h:List I):Prop:=h.Perm U/\∀d,d<a\/b<=d->h[d]? =U[d]?
namespace Sg
variable {a b:Nat} {U us vs:List I}
def refl(a b:Nat)(U:List I):Sg a b U U:=⟨.refl _,λ_ _=>rfl⟩
def trans(h:Sg a b U us)(k:Sg a b us vs):Sg a b U vs:=⟨k.1.trans h.1,λj d=>(k.2 j d).trans (h.2 j d)⟩
def wide(h:Sg a b U us){c d:Nat}(k:c<=a)(q:b<=d):Sg c d U us:=⟨h.1,λj w=>h.2 j co⟩
def len(h:Sg a b U us):us.length=U.length:=h.1.length_eq
def swap{i j:Nat}{x y:I}(hi:U[i]? =some x)(d:U[j]? =some y)(h:a<=i/\i<b/\a<=j/\j<b):Sg a b U ((U.set j x).set i y):=
 ⟨U6 d hi,λq k=>by rw[nB d hi,ag co,ag co]⟩
def seg(h:Sg a b U us)(x:a<=b)(y:b<=U.length):((us.take b).drop a).Perm ((U.take b).drop a):=by
 have z:=h.len;have q:us.take a=U.take a:=by
  apply List.ext_getElem?;intro j;rw[Bg,Bg];split
  .exact h.2 j co
  .rfl
 have w:us.drop b=U.drop b:=by apply List.ext_getElem?;intro j;rw[Bf,Bf];exact h.2 _ co
 have e:∀l:List I,l=l.take a++((l.take b).drop a++l.drop b):=λl=>by
  have k:l.take a=(l.take b).take a:=by rw[List.take_take];congr 1;omega
  rw[<-cN,k,np,np]
 have d:=h.1;rw[e us,e U,q,w]at d;exact(List.perm_append_right_iff _).1 ((List.perm_append_left_iff _).1 d)
def mem(h:Sg a b U us)(k:a<=b)(q:b<=U.length){j:Nat}{y:I}(x:us[j]? =some y)(B:a<=j)(C:j<b):∃i,a<=i/\i<b/\U[i]? =some y:=by have z:y∈(us.take b).drop a:=aG (i:=j - a) (by rw[Bf,Bg,av co,show a+(j - a)=j by omega];exact x);have A:=(h.seg k q).mem_iff.1 z;obtain⟨i,d⟩:=hO.1 A;have w:=(cV.1 d).1;simp at w;rw[Bf,Bg,av co]at d;exact⟨a+i,co,co,d⟩
end Sg
def ml(U:List I)(i j:Nat):Prop:=∀d h,U[i]? =some d->U[j]? =some h->bc d.rx h.rx<=0
def j8(a b:Nat)(U:List I):Prop:=∀i d,a<=i->i<d->d<b->ml U i d
def mY(a b:Nat)(U:List I):Prop:=∀d,a<=d->d<b->0<a->ml U (a - 1) d
def sh{x y z:Rx}(d:bc x y<=0)(h:bc y z<=0):bc x z<=0:=(w3 x y z).le d h
def qD{x y:Rx}(h:¬bc x y<0):bc y x<=0:=by have:=ke x y;omega
def mY.sg{a b:Nat}{U j:List I}(h:mY a b U)(k:Sg a b U j)(y:b<=U.length):mY a b j:=by intro F w x q D E d A;obtain⟨i,B,C,z⟩:=k.mem co y A w x;rw[k.2 _ co]at d;exact h i B C q D E d z
def aeD{U:List I}(h:j8 0 U.length U):ln (U.map I.rx):=by unfold ln;rw[List.pairwise_map,List.pairwise_iff_getElem];intro i q j d k;exact h i q co k d _ _ (a' j) (a' d)
section
variable {s:Sl} {l U:List I} {w w1:J}
def Sq.lt(h:Sq s l w w1 U)(k:I.a7 l<=1000000):U.length<=1000000/\s.n=U.length:=by have:=I.fR l;have d:=h.n;have j:=h.len;omega
def eE{U:List I}{i:Nat}(h:i<U.length):∃d,U[i]? =some d:=⟨U[i],a' h⟩
def adl(h:Sq s l w w1 U)(F:I.a7 l<=1000000){a b:Nat}(K:a<b)(L:b<=U.length):
  aj V Qb #[s.v,.i (a:Int),.i (b:Int),.func (.func cz) #[] #[]] w1 λr q=>r=ae (.tuple #[])/\∃d,Sq s l w q d/\Sg a b U d:=by
 have P:=(h.lt F).1;have loop:∀(D i j:Nat) (d:List I) (k:J),j - i<D->a<=i->i<=j+1->j<b->Sq s l w k d->Sg a b U d->yF.L0 s (i:Int) (j:Int) k λr q=>r=ae (.tuple #[])/\∃d,Sq s l w q d/\Sg a b U d:=by
  intro D;induction D with
  |zero=>intro i j d k C;omega
  |succ D G=>
   intro i j d k C M N O x g;have hlen:=g.len;refine yF.bC _ _ _ _ _ (aE (λE=>?_) (λE=>⟨rfl,d,x,g⟩));obtain⟨S,z⟩:=eE (U:=d) (i:=j) co;obtain⟨Q,y⟩:=eE (U:=d) (i:=i) co;refine x.swap z y rfl rfl λH B=>?_;show yF.L0 _ _ _ _ _;have A:ah .i64 ((j:Int) - 1)=((j - 1:Nat):Int):=by rw[aN _ co];omega
   rw[bb _ co,A];exact G (i+1) (j - 1) _ H co co co co B (g.trans (Sg.swap z y co))
 have e:ah .i64 ((b:Int) - 1)=((b - 1:Nat):Int):=by rw[aN _ co];omega
 refine yF.ok _ _ _ w1 _ ?_;rw[e];exact loop (b - 1 - a+1) a (b - 1) U w1 co (bm _) co co h (Sg.refl _ _ _)
def Sq.tree(h:Sq s l w w1 U):(oC s U).P w1:=by unfold oC I.P;exact⟨(h.H.get 0:aF w1 aZ 4 s (U.flatMap I.c)).bd,R9 (h.H.getD 0) h.p⟩
def Sq.br(h:Sq s l w w1 U){d:J}(f:af w1 d):Sq s l w d U:=⟨h.H.br f,h.p⟩
def Sr{bs:Nat}(x:I.a7 U<=1000000)(d:bs∉(oC s U).fp)(a b c k:Nat)(hk:k<=90)(K:a<U.length)(L:b<U.length)(M:c<U.length){w:J}(q:(oC s U).P w)(N:lF bs k w):
  aj V P7 #[s.v,.i (a:Int),.i (b:Int),.i (c:Int),.pointer (some (ab bs)),.func (.func cz) #[] #[]] w λr B=>(∃m A:Nat,r=ae (.i (m:Int))/\(m=a\/m=b\/m=c)/\A<=k+3/\lF bs A B)/\Fr (·=bs) w B:=by have y:∀C∈(oC s U).fp,¬C=bs:=λC T e=>d (e▸T);refine Ug.ok _ _ _ _ _ w _ ((DP x d a b k co K L q N).mono ?_);rintro _ w1 ⟨⟨D,E,W,rfl,h1,aa,O⟩,h⟩;refine⟨_,_,rfl,(DP x d E c W co co M (Ib q h y) O).mono ?_⟩;rintro _ w2 ⟨⟨F,c2,Y,rfl,h2,ac,Q⟩,z⟩;refine⟨_,_,rfl,(DP x d D F Y co co co (Ib (Ib q h y) z y) Q).mono ?_⟩;rintro _ w3 ⟨⟨a3,G,Z,rfl,h3,ad,S⟩,H⟩;exact⟨_,_,rfl,⟨G,Z,rfl,co,co,S⟩,(h.trans z λ_ _ j=>j).trans H λ_ _ j=>j⟩
def adk(h:Sq s l w w1 U)(W:I.a7 l<=1000000){a b:Nat}(ai:a+12<b)(hb:b<=U.length):
  aj V PY #[s.v,.i (a:Int),.i (b:Int),.func (.func cz) #[] #[]] w1 λr A=>∃(p:Nat) (k:Int),r=ae (.tuple #[.i (p:Int),.i k])/\a<=p/\p<b/\Sq s l w A U:=by
 have hl:=(h.lt W).1;have Y:I.a7 U<=1000000:=by rw[H0 h.p];exact W
 have G:=h.tree;obtain⟨L,hL⟩:∃L,L=b - a:=⟨_,rfl⟩;have eL:ah .i64 ((b:Int) - (a:Int))=(L:Int):=by rw[aN _ co];omega
 have eq:∀k:Nat,k<=3->ah .i64 ((a:Int)+ah .i64 (ah .i64 (bS (L:Int) 4) *(k:Int)))=((a+L / 4 *k:Nat):Int):=λk M=>by
  have x:bS (L:Int) 4=((L / 4:Nat):Int):=rfl;have Q:L / 4 *k<=L:=bz (Nat.mul_le_mul_left _ (by omega:k<=4)) (Nat.div_mul_le_self L 4);rw[x,aN ((L / 4:Nat):Int) co];have C:((L / 4:Nat):Int) *(k:Int)=((L / 4 *k:Nat):Int):=by rw[Int.natCast_mul]
  rw[C,aN ((L / 4 *k:Nat):Int) co,aN _ co];omega
 have q1:=eq 1 co;have q2:=eq 2 co;have q3:=eq 3 co;refine BF.ok _ _ _ w1 _ ?_;have P:af w1 (w1.alloc (.cells #[.i 0] b')):=Fr.alloc _ _ _;have S:lF w1.heap.size 0 (w1.alloc (.cells #[.i 0] b')):=kU w1 _;have H:w1.heap.size∉(oC s U).fp:=λh=>absurd (I.lt _ G _ h) co;have nd:∀O∈(oC s U).fp,¬O=w1.heap.size:=λO T e=>H (e▸T);have fin:∀{d:J} {p k:Nat},a<=p->p<b->lF w1.heap.size k d->af w1 d->BF.S5 (ab w1.heap.size) (p:Int) d λr A=>∃(p:Nat) (k:Int),r=ae (.tuple #[.i (p:Int),.i k])/\a<=p/\p<b/\Sq s l w A U:=λ{d p k} E F y f=>
  ⟨(k:Int),JX y,bP (λ_=>⟨p,1,rfl,E,F,h.br f⟩) λ_=>bP (λ_=>⟨p,2,rfl,E,F,h.br f⟩) λ_=>⟨p,0,rfl,E,F,h.br f⟩⟩
 have new:∀{d q:J},af w1 d->Fr (·=w1.heap.size) d q->af w1 q:=λf g=>f.trans g λO T e=>by subst e;omega
 rw[eL];show bt (au ((L:Int)>=8)) (bt (au ((L:Int)>=50)) _ _) _;have ac:ah .i64 ((a:Int)+ah .i64 (ah .i64 (bS (L:Int) 4) *1))=((a+L / 4 *1:Nat):Int):=q1;have ad:ah .i64 ((a:Int)+ah .i64 (ah .i64 (bS (L:Int) 4) *2))=((a+L / 4 *2:Nat):Int):=q2;have ag:ah .i64 ((a:Int)+ah .i64 (ah .i64 (bS (L:Int) 4) *3))=((a+L / 4 *3:Nat):Int):=q3;rw[ac,ad,ag];have Z:∀{d:J} {i j k n:Nat},n<=60->a<=i->i<b->a<=j->j<b->a<=k->k<b->lF w1.heap.size n d->af w1 d->BF.S4 s (ab w1.heap.size) (i:Int) (j:Int) (k:Int) d λr A=>∃(p:Nat) (k:Int),r=ae (.tuple #[.i (p:Int),.i k])/\a<=p/\p<b/\Sq s l w A U:=by intro d i j k n hn i1 i2 j1 j2 k1 k2 y f;refine(Sr Y H i j k n co co co co (G.br f) y).mono ?_;rintro _ q ⟨⟨m,z,rfl,Q,M,N⟩,D⟩;exact⟨_,rfl,fin co co N (new f D)⟩
 have B:∀{d:J} {i n:Nat} {K:Int->J->Prop},n<=50->a+1<=i->i+1<b->lF w1.heap.size n d->af w1 d->(∀(m z:Nat) (q:J),a<=m->m<b->z<=n+3->lF w1.heap.size z q->af w1 q->K (m:Int) q)->rR P6 #[s.v,.i (i:Int),.pointer (some (ab w1.heap.size)),.func (.func cz) #[] #[]] d K:=by
  intro d i n K hn i1 i2 y f hK;have x:ah .i64 ((i:Int) - 1)=((i - 1:Nat):Int):=by rw[aN _ co];omega
  refine Uf.ok _ _ _ d _ ?_;rw[x,bb _ co];refine(Sr Y H (i - 1) i (i+1) n co co co co (G.br f) y).mono ?_;rintro _ q ⟨⟨m,z,rfl,Q,M,N⟩,D⟩;exact⟨_,rfl,_,rfl,hK m z q co co M N (new f D)⟩
 have d1:3<=L / 4:=co
 have d2:L / 4 *4<=L:=Nat.div_mul_le_self L 4;refine aM (aQ co) (aE (λaa=>?_) (λaa=>Z co co co co co co co S P));refine B co co co S P λm1 k1 d a1 a2 ak c1 g1=>B co co co c1 g1 λm2 k2 q b1 b2 al c2 g2=>B co co co c2 g2 λm3 k3 w4 x C am c3 g3=>Z co a1 a2 b1 b2 x C c3 g3
end
section
variable {s:Sl} {l U:List I} {w w1:J}
def Sq.of(h:Sq s l w w1 U){q:J}{k:List I}(A:aF q aZ 4 s (k.flatMap I.c))(B:k.Perm U)(f:Fr (·∈ax s) w1 q):Sq s l w q k:=by
 have x:∀b∈I.be l,¬b∈ax s:=λb j z=>h.H.dj _ (bY.2 rfl) b (a0.2 j) _ (bY.2 rfl) z;refine⟨⟨h.H.fr.trans f λ_ _ h=>h,λe d=>?_,λe d=>?_,λe d=>?_,?_,λe d b j C y=>?_⟩,B.trans h.p⟩
 .cases bY.1 d;exact A
 .cases bY.1 d;exact ac5 (h.H.getD 0) f x
 .cases bY.1 d;exact h.H.new (.row aZ 4 s (U.flatMap I.c)) (bY.2 rfl)
 .exact h.H.nd
 .cases bY.1 y;exact h.H.dj e d b j (.row aZ 4 s (U.flatMap I.c)) (bY.2 rfl)
def Sq.dj(h:Sq s l w w1 U):∀d∈ax s,d∉I.be U:=λd k j=>
 h.H.dj _ (bY.2 rfl) d (a0.2 (ZY h.p j)) _ (bY.2 rfl) k
def Sg.mid{A X j Z:List I}(h:j.Perm X):Sg A.length (A.length+X.length) (A++X++Z) (A++j++Z):=by
 have k:=h.length_eq;refine⟨(h.append_left A).append_right Z,λq d=>?_⟩;rw[cN,cN];rcases d with d|d
 .rw [G4 d,G4 d]
 .rw [pA co,pA co,pA co,pA co,k]
def aeE{A k Z:List I}(h:ln (k.map I.rx)):j8 A.length (A.length+k.length) (A++k++Z):=by
 intro i x y z B C D d j;unfold ln at h;rw[List.pairwise_map,List.pairwise_iff_getElem]at h;rw[cN,pA co,G4 co]at d j;obtain⟨q,d⟩:=cV.1 d;obtain⟨w,j⟩:=cV.1 j;have:=h (i - A.length) (x - A.length) q w co
 rwa[d,j]at this
def adh(h:Sq s l w w1 U)(G:I.a7 l<=1000000){a b:Nat}(M:a<=b)(N:b<=U.length):
  aj V Gl #[s.v,.i (a:Int),.i (b:Int),.func (.func cz) #[] #[]] w1 λr L=>r=ae (.tuple #[])/\∃x,Sq s l w L x/\Sg a b U x/\j8 a b x:=by
 have K:I.a7 U<=1000000:=by rw[H0 h.p];exact G
 obtain⟨d,y⟩:∃d,d=U.take a:=⟨_,rfl⟩;obtain⟨X,z⟩:∃X,X=(U.take b).drop a:=⟨_,rfl⟩;obtain⟨j,F⟩:∃j,j=U.drop b:=⟨_,rfl⟩;have k:d.length=a:=by rw[y,List.length_take];omega
 have q:d.length+X.length=b:=by rw[k,z,List.length_drop,List.length_take];omega
 have e:U=d++X++j:=by
  have D:d=(U.take b).take a:=by rw[y,List.take_take];congr 1;omega
  rw[D,z,np,F,np]
 have c:=Yj s U w1 K (h.H.get 0) (R9 (h.H.getD 0) h.p) h.dj d X j e b q.symm;rw[k]at c;refine c.mono ?_;rintro _ O ⟨⟨rfl,E⟩,C⟩;have B:=aex X;have g:Sg a b U (d++gu X++j):=by have:=Sg.mid (A:=d) (Z:=j) B;rw[<-e,q,k]at this;exact this
 refine⟨rfl,_,h.of E g.1 C,g,?_⟩;have:=aeE (A:=d) (Z:=j) (aev X);rw[B.length_eq,q,k]at this;exact this
end
section
variable {s:Sl} {l U us:List I} {w w1 w2:J}
def Sq.base(h:Sq s l w w1 U):Sq s l w1 w1 U:=⟨⟨Fr.refl _ _,h.H.own,h.H.rd,λe j b d=>.inr (by cases bY.1 j;exact d),h.H.nd,h.H.dj⟩,h.p⟩
def Sq.comp(h:Sq s l w w1 U)(k:Sq s l w1 w2 us):Sq s l w w2 us:=⟨⟨h.H.fr.trans k.H.fr λ_ _ h=>h,k.H.own,k.H.rd,λe j b d=>.inr (by cases bY.1 j;exact d),k.H.nd,k.H.dj⟩,k.p⟩
def Sq.EU(h:Sq s l w w1 U){bs:Nat}(x:bs∉ax s)(y:bs∉I.be l)(z:w.heap.size<=bs)(f:Fr (·=bs) w1 w2):Sq s l w w2 U:=by
 refine⟨⟨h.H.fr.trans f λB A e=>co,λe d=>?_,λe d=>?_,h.H.new,h.H.nd,h.H.dj⟩,h.p⟩
 .refine e.st w1 w2 (λb q k=>f.cC b k λj=>?_) (h.H.own e d);cases bY.1 d;exact x (j▸q)
 .refine e.st w1 w2 (λb q k=>f.cC b k λj=>?_) (h.H.rd e d);cases bY.1 d;exact y (j▸a0.1 q)
end
def afw{t:ByteArray}{m:Nat}{K:UInt8->Prop}(h:(List.range 256).all (λm=>match t[m]? with |some b=>Nat.ble (2^b.toNat) (2 *m)||Nat.beq m 0|none=>false)=true)(q:m<256)(w:0<m)(k:∀b:UInt8,2^b.toNat<=2 *m->K b):∃b:UInt8,t[m]? =some b/\K b:=by
 have:=fa.1 h m (List.mem_range.2 q);split at this
 .rename_i b j;refine⟨b,j,k b ?_⟩;rcases(Bool.or_eq_true _ _).mp this with d|d
  .exact Nat.le_of_ble_eq_true d
  .have:=Nat.eq_of_beq_eq_true d;omega
 .cases this
def XQ(x:Nat)(h:0<x)(M:x<4294967296)(w:J):aj V F5 #[.u (x:Int)] w λr B=>∃t:Nat,r=ae (.i (t:Int))/\2^t<=2 *x/\B=w:=by
 let j:aJ:=λr B=>∃t:Nat,r=ae (.i (t:Int))/\2^t<=2 *x/\B=w
 have F:∀(y n:Nat),0<y->y<256->n<=100->y *2^n<=x->k1.S2 (y:Int) (n:Int) w j:=by
  intro y n h D H q;have e:ah .u8 (y:Int)=(y:Int):=by rw[IntKind.wrap_u8];omega
  show(0:Int)<=ah .u8 (y:Int)/\_;rw[e];refine⟨co,?_⟩;refine afw (by kernel_rfl) (show y<256 from D) (show 0<y from h) λb G=>?_;have L:=b.toNat_lt;have I:ah .i64 ((n:Int)+ah .i64 (b.toNat:Int))=((n+b.toNat:Nat):Int):=by rw[aN (b.toNat:Int) co,aN _ co];omega
  refine⟨n+b.toNat,?_,?_,rfl⟩
  .rw [I]
  .rw [Nat.pow_add]
   calc 2^n *2^b.toNat<=2^n *(2 *y):=Nat.mul_le_mul_left _ G
    _=2 *(y *2^n):=by rw[Nat.mul_comm y,Nat.mul_left_comm]
    _<=2 *x:=Nat.mul_le_mul_left _ q
 have C:∀(y k:Nat),Int.fdiv (y:Int) (k:Int)=((y / k:Nat):Int):=λy k=>by rw[Int.fdiv_eq_ediv_of_nonneg _ co];rfl
 have E:∀(y n:Nat),0<y->y<65536->n<=50->y *2^n<=x->k1.S1 (y:Int) (n:Int) w j:=by
  intro y n h D H q;refine aE (λd=>?_) (λd=>F y n h co co q);have z:ah .i64 ((n:Int)+8)=((n+8:Nat):Int):=by rw[aN _ co];omega
  have A:Int.fdiv (y:Int) (2^8)=((y / 256:Nat):Int):=C y 256;rw[z,A];refine F (y / 256) (n+8) co co co (bz ?_ q);rw[Nat.pow_add,Nat.mul_comm (2^n),<-Nat.mul_assoc];exact Nat.mul_le_mul_right _ (Nat.div_mul_le_self y 256)
 have K:k1.S0 (x:Int) ((0:Nat):Int) w j:=by
  refine aE (λd=>?_) (λd=>E x 0 h co co co);have z:ah .i64 (((0:Nat):Int)+16)=((16:Nat):Int):=by rw[aN _ co];rfl
  have A:Int.fdiv (x:Int) (2^16)=((x / 65536:Nat):Int):=C x 65536;rw[z,A];exact E (x / 65536) 16 co co co (Nat.div_mul_le_self x 65536)
 refine FK.ok _ w _ ((k1.ok _ w j (aP (aV co) K)).mono ?_);rintro _ N ⟨t,rfl,d,rfl⟩;exact⟨_,rfl,t,rfl,d,rfl⟩
def Yp(x:Nat)(k:0<x)(A:x<=1000000)(w:J):aj V Gm #[.i (x:Int)] w λr y=>∃m:Nat,r=ae (.u (m:Int))/\0<m/\m<=2 *x/\y=w:=by
 refine Uh.ok _ w _ ?_;have e:ah .u64 (x:Int)=(x:Int):=IntWalk.u64_in _ co;rw[e];refine(XQ x k co w).mono ?_;rintro _ B ⟨t,rfl,h,rfl⟩;have z:t<64:=by
  by_cases q:t<64
  .exact q
  .have:2^64<=2^t:=Nat.pow_le_pow_right co co;omega
 have d:min (a5 (t:Int)) (IntKind.bits .u64)=t:=by show min t 64=t;omega
 have j:ah .u64 (1 *2^t)=((2^t:Nat):Int):=by
  have:(1 *2^t:Int)=((2^t:Nat):Int):=by rw[Int.one_mul];exact(Int.natCast_pow 2 t).symm
  rw[this];clear this d;generalize 2^t=p at h ⊢;exact IntWalk.u64_in _ co
 refine⟨_,rfl,co,2^t,?_,Nat.two_pow_pos t,h,rfl⟩;rw[d,j]
def WZ(t:Int){m:Nat}(j:0<m)(h:m<4294967296):∃k:Nat,k<m/\kN .u64 t (ah .u64 ((m:Int) - 1))=(k:Int):=by
 have e:ah .u64 ((m:Int) - 1)=((m - 1:Nat):Int):=by rw[IntWalk.u64_in _ co];omega
 rw[e];unfold kN;have d:(e3 (IntKind.bits .u64) t&&& e3 (IntKind.bits .u64) ((m - 1:Nat):Int)).toNat<=m - 1:=by show(e3 64 t&&& e3 64 ((m - 1:Nat):Int)).toNat<=_;rw[BitVec.toNat_and,BitVec.ofInt_natCast,BitVec.toNat_ofNat,Nat.mod_eq_of_lt co];exact Nat.and_le_right
 exact⟨_,co,IntWalk.u64_in _ co⟩
def jm(bs:Nat)(u:Int)(w:J):Prop:=w.heap[bs]? =some (.cells #[.u u] Ih (0,0))
section
variable {bs:Nat} {u v:Int} {w Y:J}
def jm.ld(h:jm bs u w):w.cell? (ab bs)=some (.u u):=by
 have:=cellAt (p:=ab bs) (i:=0) (v:=.u u) h rfl rfl
 rwa[jg]at this
def jm.fr{M:Nat->Prop}(h:jm bs u w)(f:Fr M w Y)(d:¬M bs):jm bs u Y:=by unfold jm at h ⊢;rw[f.cC bs (lt_of_heap h) d];exact h
def jm.st(h:jm bs u w){K:J->Prop}(x:∀Y,jm bs v Y->Fr (·=bs) w Y->K Y):aS w (ab bs) (.u v) K:=by obtain⟨d,j,k,q⟩:=vI h 0 ws (.u v);rw[jg]at d j k q;exact⟨d,j,x _ (by unfold jm;rw[k];rfl) q⟩
def jm.dr(h:jm bs u w):jm bs u w.drew:=h.fr (M:=F0) (Fr.drew _ w) id
def YK(h:jm bs u w):aj V Qd #[.pointer (some (ab bs))] w λr Y=>∃t:Int,r=ae (.u t)/\jm bs t Y/\Fr (·=bs) w Y:=by refine Uj.ok _ w _ ?_;refine⟨_,h.dr.ld,_,h.dr.ld,h.dr.st λA j x=>⟨_,j.dr.ld,_,j.dr.ld,j.dr.st λB k y=>⟨_,k.dr.ld,_,k.dr.ld,k.dr.st λC q z=>⟨_,q.ld,_,rfl,q,?_⟩⟩⟩⟩;have d:∀w:J,Fr (·=bs) w w.drew:=λw=>Fr.drew _ _;have tr:∀{a b c:J},Fr (·=bs) a b->Fr (·=bs) b c->Fr (·=bs) a c:=λf g=>f.trans g λ_ _ h=>h;exact tr (tr (tr (d _) x) (tr (d _) y)) (tr (d _) z)
end
section
variable {s:Sl} {l U:List I} {w w1:J}
def ade(h:Sq s l w w1 U)(hz:I.a7 l<=1000000){a b:Nat}(ai:a<=b)(hb:b<=U.length):
  aj V PX #[s.v,.i (a:Int),.i (b:Int),.func (.func cz) #[] #[]] w1 λr y=>r=ae (.tuple #[])/\∃d,Sq s l w y d/\Sg a b U d:=by
 have hl:=(h.lt hz).1;obtain⟨L,hL⟩:∃L,L=b - a:=⟨_,rfl⟩;have eL:ah .i64 ((b:Int) - (a:Int))=(L:Int):=by rw[aN _ co];omega
 refine qV.ok _ _ _ w1 _ ?_;rw[eL];refine aE (λh8=>?_) (λ_=>⟨rfl,U,h,Sg.refl _ _ _⟩);have T:bS (L:Int) 4=((L / 4:Nat):Int):=rfl;have W:ah .i64 (ah .i64 (bS (L:Int) 4) *2)=((L / 4 *2:Nat):Int):=by rw[T,aN ((L / 4:Nat):Int) co,aN _ co];omega
 have B:ah .i64 ((a:Int)+ah .i64 (ah .i64 (bS (L:Int) 4) *2))=((a+L / 4 *2:Nat):Int):=by rw[W,aN _ co];omega
 obtain⟨c,hc⟩:∃c,c=a+L / 4 *2:=⟨_,rfl⟩;rw[<-hc]at B;have Y:ah .i64 ((c:Int)+1)=((c+1:Nat):Int):=bb _ co;have Z:ah .i64 ((c:Int) - 1)=((c - 1:Nat):Int):=by rw[aN _ co];omega
 obtain⟨j,P⟩:∃j,j=w1.heap.size:=⟨_,rfl⟩;have hd:j∉(oC s U).fp:=λq=>absurd (I.lt _ h.tree _ q) co;have z:j∉ax s:=λq=>by have:=(En.row aZ 4 s (U.flatMap I.c)).lt w1 (h.H.own _ (bY.2 rfl)) j q;omega
 have E:j∉I.be l:=λq=>by have:=(En.trees l).lt w1 (h.H.rd _ (bY.2 rfl)) j (a0.2 q);omega
 have G:w.heap.size<=j:=by have:=h.fr.size;omega
 have loop:∀(D idx m:Nat) (u:Int) (d:List I) (x:J),c+2 - idx<D->a<=idx->0<m->m<=2 *L->jm j u x->Sq s l w x d->Sg a b U d->qV.L1 s (a:Int) (L:Int) (ab j) (m:Int) (idx:Int) x λr y=>r=ae (.tuple #[])/\∃d,Sq s l w y d/\Sg a b U d:=by
  intro D;induction D with
  |zero=>intro idx m u d x hD;omega
  |succ D ih=>
   intro idx m u d x hD hi q F hu M g;have hlen:=g.len;refine qV.fH _ _ _ _ _ _ _ _ ?_;rw[B,Y];refine aE (λac=>?_) (λac=>⟨rfl,d,M,g⟩);refine(YK hu).mono ?_;rintro _ A ⟨t,rfl,ag,f3⟩;refine⟨_,rfl,?_⟩;have N:=M.EU z E G f3;obtain⟨k,hk,ek⟩:=WZ t q co;show qV.S2 _ _ _ _ _ _ (ah .i64 (kN .u64 t (ah .u64 ((m:Int) - 1)))) _ _;rw[ek,aN (k:Int) co];have s3:∀o:Nat,o<L->qV.S3 s (a:Int) (L:Int) (ab j) (m:Int) (idx:Int) (o:Int) A λr y=>r=ae (.tuple #[])/\∃d,Sq s l w y d/\Sg a b U d:=by
    intro o ho;have C:ah .i64 ((a:Int)+(o:Int))=((a+o:Nat):Int):=by rw[aN _ co];omega
    obtain⟨ak,Q⟩:=eE (U:=d) (i:=a+o) co;obtain⟨al,S⟩:=eE (U:=d) (i:=idx) co;refine N.base.swap Q S C rfl λw4 O=>?_;show qV.L1 _ _ _ _ _ _ _ _;rw[bb _ co];exact ih (idx+1) m t _ w4 co co q F (ag.fr O.fr z) (N.comp O) (g.trans (Sg.swap Q S co))
   refine aE (λaa=>?_) (λaa=>s3 k co);have C:ah .i64 ((k:Int) - (L:Int))=((k - L:Nat):Int):=by rw[aN _ co];omega
   rw[C];exact s3 (k - L) co
 have f0:Fr (·=j) w1 (w1.alloc (.cells #[.u 0] Ih)):=Fr.alloc _ _ _;have ad:jm j 0 (w1.alloc (.cells #[.u 0] Ih)):=P▸kU w1 _;rw[B,Z,show nb w1=ab j from P▸rfl];refine ad.st (K:=λx=>aj V Gm #[.i (L:Int)] x λr_ A=>∃t21:Int,r_=ae (.u t21)/\qV.L1 s (a:Int) (L:Int) (ab j) t21 ((c - 1:Nat):Int) A λr y=>r=ae (.tuple #[])/\∃d,Sq s l w y d/\Sg a b U d) λx af f2=>?_;refine(Yp L co co x).mono ?_;rintro _ A ⟨m,rfl,q,F,rfl⟩;exact⟨_,rfl,loop (c+2+1) (c - 1) m _ U _ co co q F af ((h.EU z E G f0).EU z E G f2) (Sg.refl _ _ _)⟩
end
structure y8(U us:List I)(pv:I)(a b i j:Nat):Prop where
 g:Sg a b U us
 z:us[a]? =some pv
 i1:a+1<=i
 ij:i<=j+1
 jb:j<b
 lo:∀(q:Nat) x,a<q->q<i->us[q]? =some x->¬bc pv.rx x.rx<0
 hi:∀(q:Nat) x,j<q->q<b->us[q]? =some x->bc pv.rx x.rx<0
structure y7(us:List I)(pv:I)(a m b:Nat):Prop where
 z:us[a]? =some pv
 am:a<m
 mb:m<=b
 lo:∀(q:Nat) x,a<q->q<m->us[q]? =some x->¬bc pv.rx x.rx<0
 hi:∀(q:Nat) x,m<=q->q<b->us[q]? =some x->bc pv.rx x.rx<0
section
variable {s:Sl} {l U:List I} {w w1:J}
def adf(h:Sq s l w w1 U)(hz:I.a7 l<=1000000){a b p:Nat}{E:I}(hb:b<=U.length)(Z:U[p]? =some E)(h1:a<=p)(H:p<b):
  aj V Qa #[s.v,.i (a:Int),.i (b:Int),.i (p:Int),.func (.func cz) #[] #[]] w1 λr w'=>∃(m:Nat) (k:List I),r=ae (.i (m:Int))/\Sq s l w w' k/\Sg a b U k/\y7 k E a m b:=by
 have hl:=(h.lt hz).1
 let Y:aJ:=λr w'=>∃(m:Nat) (k:List I),r=ae (.i (m:Int))/\Sq s l w w' k/\Sg a b U k/\y7 k E a m b
 have pr:∀{j:Nat},0<j->j<=1000000->ah .i64 ((j:Int) - 1)=((j - 1:Nat):Int):=λh1 H=>by rw[aN _ co];omega
 have l0:∀(D i j:Nat) (k:List I) (N:J),j+1 - i<D->y8 U k E a b i j->Sq s l w N k->oI.L0 s (a:Int) (i:Int) (j:Int) N Y:=by
  intro D;induction D with
  |zero=>intro i j k N F;omega
  |succ D ih=>
   intro i j k N F d H;have hlen:=d.g.len;have s3:∀(i j:Nat) (C:J),j+1 - i<=D->y8 U k E a b i j->(i<=j->∀y,k[i]? =some y->bc E.rx y.rx<0)->(i<=j->∀y,k[j]? =some y->¬bc E.rx y.rx<0)->Sq s l w C k->oI.S3 s (a:Int) (i:Int) (j:Int) C Y:=by
    intro i j C F d P fy O;have af:=d.jb;have ac:=d.i1;have al:=d.ij;refine aE (λak=>?_) (λS=>?_)
    .have e:i=j+1:=co
     exact⟨i,k,rfl,O,d.g,d.z,co,co,d.lo,λB y h1 H=>d.hi B y co H⟩
    obtain⟨y,A⟩:=eE (U:=k) (i:=j) co;obtain⟨G,x⟩:=eE (U:=k) (i:=i) co;have lx:=fy co y A;have ly:=P co G x;have am:i≠j:=λe=>by subst e;rw[A]at x;cases x;exact lx ly
    refine O.swap A x rfl rfl λT K=>?_;show oI.L0 _ _ _ _ _ _;rw[bb _ co,pr co co];have g:=nB x A;refine ih (i+1) (j - 1) _ T co ⟨d.g.trans (Sg.swap A x co),?_,co,co,co,λB ai L M q=>?_,λB ai L M q=>?_⟩ K
    .rw [g,ag co,ag co];exact d.z
    .rw [g,ag co]at q;split at q
     .cases q;exact lx
     .exact d.lo B ai L co q
    .rw [g]at q;split at q
     .cases q;exact ly
     .rw [ag co]at q;exact d.hi B ai co M q
   have l2:∀(e i j:Nat) (C:J),j+1 - i<e->j+1 - i<=D->y8 U k E a b i j->(i<=j->∀y,k[i]? =some y->bc E.rx y.rx<0)->Sq s l w C k->oI.L2 s (a:Int) (i:Int) (j:Int) C Y:=by
    intro e;induction e with
    |zero=>intro i j C he;omega
    |succ e ad=>
     intro i j C he F d P O;have af:=d.jb;have ac:=d.i1;have al:=d.ij;refine oI.j5 _ _ _ _ _ _ (O.dr λT K=>aE (λS=>?_) (λak=>s3 i j T F d P (λS=>co) K));obtain⟨y,A⟩:=eE (U:=k) (i:=j) co;refine K.cmp hz d.z A rfl rfl λW Q=>aE (λab=>?_) (λaa=>s3 i j W F d P (λ_ G x=>by rw[A]at x;cases x;exact aa) Q);rw[pr co co];refine ad i (j - 1) W co co ⟨d.g,d.z,ac,co,co,d.lo,λB G L M q=>?_⟩ (λS=>P co) Q;by_cases eq:B=j
     .subst eq;rw[A]at q;cases q;exact ab
     .exact d.hi B G co M q
   have l1:∀(e i j:Nat) (C:J),j+1 - i<e->j+1 - i<=D->y8 U k E a b i j->Sq s l w C k->oI.L1 s (a:Int) (i:Int) (j:Int) C Y:=by
    intro e;induction e with
    |zero=>intro i j C he;omega
    |succ e ad=>
     intro i j C he F d O;have af:=d.jb;have ac:=d.i1;have al:=d.ij;refine oI.fH _ _ _ _ _ _ (O.dr λT K=>aE (λS=>?_) (λak=>l2 (j+1 - i+1) i j T co F d (λS=>co) K));obtain⟨y,A⟩:=eE (U:=k) (i:=i) co;refine K.cmp hz d.z A rfl rfl λW Q=>dW (λaa=>?_) (λab=>l2 (j+1 - i+1) i j W co F d (λ_ G x=>by rw[A]at x;cases x;exact eP ab) Q);rw[bb _ co];refine ad (i+1) j W co co ⟨d.g,d.z,co,co,af,λB G L M q=>?_,d.hi⟩ Q;by_cases eq:B=i
     .subst eq;rw[A]at q;cases q;exact il aa
     .exact d.lo B G L co q
   exact oI.bC _ _ _ _ _ _ (l1 (j+1 - i+1) i j N co co d H)
 obtain⟨G,x⟩:=eE (U:=U) (i:=a) co;refine oI.ok _ _ _ _ w1 _ (h.swap Z x rfl rfl λN H=>?_);rw[bb _ co,pr co co];have g:=nB x Z;refine l0 (b - 1+1 - (a+1)+1) (a+1) (b - 1) _ N co ⟨Sg.swap Z x co,?_,co,co,co,λB y L M=>co,λB y L M=>co⟩ H;rw[g];split
 .rename_i e;rw[e,Z]at x;rw[x]
 .rw [av rfl]
end
structure nL(U us:List I)(pv:I)(a b i j:Nat):Prop where
 g:Sg a b U us
 z:us[a]? =some pv
 i1:a+1<=i
 ij:i<=j+1
 jb:j<b
 lo:∀(q:Nat) x,a<q->q<i->us[q]? =some x->oU pv x
 hi:∀(q:Nat) x,j<q->q<b->us[q]? =some x->¬oU pv x
structure oP(us:List I)(pv:I)(a m b:Nat):Prop where
 z:us[m]? =some pv
 am:a<=m
 mb:m<b
 lo:∀(q:Nat) x,a<=q->q<m->us[q]? =some x->oU pv x
 hi:∀(q:Nat) x,m<q->q<b->us[q]? =some x->¬oU pv x
abbrev mm(s:Sl)(l U:List I)(w:J)(h:I)(a b:Nat):aJ:=λr j=>∃(m:Nat) (t:Bool) (d:List I),r=ae (.tuple #[.i (m:Int),.bool t])/\Sq s l w j d/\Sg a b U d/\oP d h a m b
section
variable {s:Sl} {l U:List I} {w w1:J} {a b:Nat} {pv:I}
def nn{j:Nat}(d:0<j)(h:j<=1000000):ah .i64 ((j:Int) - 1)=((j - 1:Nat):Int):=by rw[aN _ co];omega
def R'(hz:I.a7 l<=1000000)(hl:U.length<=1000000)(hb:b<=U.length){D:Nat}{A B C:Int->Int->J->Prop}(hA:∀(i j:Int) (w:J),(mw w λw1=>bt (au (i<=j)) (fo s i λp=>gi w1 (p.add (a5 i *4)) λP Q S T=>fo s (a:Int) λx=>gi w1 (x.add (a5 (a:Int) *4)) λW Y Z b3=>rR cz #[.agg #[.i P,.int .u8 Q,.int .u8 S,T.v],.agg #[.i W,.int .u8 Y,.int .u8 Z,b3.v]] w1 λt L=>bt (au (t<0)) (A (ah .i64 (i+1)) j L) (B i j L)) (B i j w1))->A i j w)(hB:∀(i j:Int) (w:J),(mw w λw1=>bt (au (i<=j)) (fo s j λp=>gi w1 (p.add (a5 j *4)) λP Q S T=>fo s (a:Int) λx=>gi w1 (x.add (a5 (a:Int) *4)) λW Y Z b3=>rR cz #[.agg #[.i P,.int .u8 Q,.int .u8 S,T.v],.agg #[.i W,.int .u8 Y,.int .u8 Z,b3.v]] w1 λt L=>bt (!(au (t<0))) (B i (ah .i64 (j - 1)) L) (C i j L)) (C i j w1))->B i j w)(k:List I)(hC:∀(i j:Nat) (h:J),j+1 - i<=D->nL U k pv a b i j->(i<=j->∀q,k[i]? =some q->¬oU pv q)->(i<=j->∀q,k[j]? =some q->oU pv q)->Sq s l w h k->C (i:Int) (j:Int) h):
  ∀(e i j:Nat) (h:J),j+1 - i<e->j+1 - i<=D->nL U k pv a b i j->Sq s l w h k->A (i:Int) (j:Int) h:=by
 have l2:∀(e i j:Nat) (h:J),j+1 - i<e->j+1 - i<=D->nL U k pv a b i j->(i<=j->∀q,k[i]? =some q->¬oU pv q)->Sq s l w h k->B (i:Int) (j:Int) h:=by
  intro e;induction e with
  |zero=>intro i j h he;omega
  |succ e ac=>
   intro i j h he H d fx h3;have ae:=d.jb;have ad:=d.i1;have ag:=d.ij;have hlen:=d.g.len;refine hB _ _ _ (h3.dr λw4 F=>aE (λO=>?_) (λaf=>hC i j w4 H d fx (λO=>co) F));obtain⟨q,E⟩:=eE (U:=k) (i:=j) co;refine F.cmp hz E d.z rfl rfl λM G=>dW (λaa=>?_) (λab=>hC i j M H d fx (λ_ N K=>by rw[E]at K;cases K;exact eP ab) G);rw[nn co co];refine ac i (j - 1) M co co ⟨d.g,d.z,ad,co,co,d.lo,λx N q1 q2 y=>?_⟩ (λO=>fx co) G;by_cases eq:x=j
   .subst eq;rw[E]at y;cases y;exact il aa
   .exact d.hi x N co q2 y
 intro e;induction e with
 |zero=>intro i j h he;omega
 |succ e ac=>
  intro i j h he H d h3;have ae:=d.jb;have ad:=d.i1;have ag:=d.ij;have hlen:=d.g.len;refine hA _ _ _ (h3.dr λw4 F=>aE (λO=>?_) (λaf=>l2 (j+1 - i+1) i j w4 co H d (λO=>co) F));obtain⟨q,E⟩:=eE (U:=k) (i:=i) co;refine F.cmp hz E d.z rfl rfl λM G=>aE (λab=>?_) (λaa=>l2 (j+1 - i+1) i j M co H d (λ_ N K=>by rw[E]at K;cases K;exact aa) G);rw[bb _ co];refine ac (i+1) j M co co ⟨d.g,d.z,co,co,ae,λx N q1 q2 y=>?_,d.hi⟩ G;by_cases eq:x=i
  .subst eq;rw[E]at y;cases y;exact ab
  .exact d.lo x N q1 co y
def nL.swap{k:List I}{x y:I}{i j:Nat}(E:nL U k pv a b i j)(A:k[j]? =some x)(B:k[i]? =some y)(h:i<j)(F:oU pv x)(G:¬oU pv y):nL U ((k.set i x).set j y) pv a b (i+1) (j - 1):=by
 have g:=nB B A;have K:=E.jb;have H:=E.i1;refine⟨E.g.trans (Sg.swap A B co),?_,co,co,co,λq w C D d=>?_,λq w C D d=>?_⟩
 .rw [g,ag co,ag co];exact E.z
 .rw [g,ag co]at d;split at d
  .cases d;exact F
  .exact E.lo q w C co d
 .rw [g]at d;split at d
  .cases d;exact G
  .rw [ag co]at d;exact E.hi q w co D d
def nL.cut{q:List I}{y:I}{i j:Nat}(E:nL U q pv a b i j)(h:j<i)(k:q[j]? =some y):Sg a b U ((q.set j pv).set a y)/\oP ((q.set j pv).set a y) pv a j b:=by
 have g:=nB k E.z;have C:=E.jb;have D:=E.i1;have F:=E.ij;refine⟨E.g.trans (Sg.swap E.z k co),?_,co,C,λw x A B d=>?_,λw x A B d=>?_⟩
 .rw [g];by_cases e:j=a
  .rw [av e];rw[e,E.z]at k;exact k.symm
  .rw [ag e,av rfl]
 .rw [g]at d;split at d
  .cases d;exact E.lo j y co co k
  .rw [ag co]at d;exact E.lo w x co co d
 .rw [g,ag co,ag co]at d;exact E.hi w x A B d
def adj(h:Sq s l w w1 U)(W:I.a7 l<=1000000){p:Nat}(Y:b<=U.length)(O:U[p]? =some pv)(h1:a<=p)(G:p<b):
  aj V P' #[s.v,.i (a:Int),.i (b:Int),.i (p:Int),.func (.func cz) #[] #[]] w1 (mm s l U w pv a b):=by
 have Z:=(h.lt W).1;have l4:∀(D i j:Nat) (y:List I) (d:J),j+1 - i<D->nL U y pv a b i j->Sq s l w d y->jU.L4 s (a:Int) (i:Int) (j:Int) d (mm s l U w pv a b):=by
  intro D;induction D with
  |zero=>intro i j y d T;omega
  |succ D ih=>
   intro i j y d T q G;have hlen:=q.g.len;refine jU.rC _ _ _ _ _ _ (R' (D:=D) W Z Y (A:=λi j d=>jU.L5 s (a:Int) i j d (mm s l U w pv a b)) (B:=λi j d=>jU.L6 s (a:Int) i j d (mm s l U w pv a b)) (C:=λi j d=>jU.S7 s (a:Int) i j d (mm s l U w pv a b)) (λi j d h=>jU.Wt s (a:Int) i j d (mm s l U w pv a b) h) (λi j d h=>jU.CR s (a:Int) i j d (mm s l U w pv a b) h) y ?_ (j+1 - i+1) i j d co co q G);intro i j w3 T q Q S H;have af:=q.jb;have ad:=q.i1;have ae:=q.ij;obtain⟨N,x⟩:=eE (U:=y) (i:=j) co;refine aE (λaa=>?_) (λab=>?_)
   .refine H.swap q.z x rfl rfl λM E=>?_;have c:=q.cut co x;exact⟨j,false,_,rfl,E,c.1,c.2⟩
   obtain⟨F,k⟩:=eE (U:=y) (i:=i) co;have K:=S co N x;have L:=Q co F k;have ac:i≠j:=λe=>by subst e;rw[x]at k;cases k;exact L K
   refine H.swap x k rfl rfl λM E=>?_;show jU.L4 _ _ _ _ _ _;rw[bb _ co,nn co co];exact ih (i+1) (j - 1) _ M co (q.swap x k co K L) E
 obtain⟨F,k⟩:=eE (U:=U) (i:=a) co;refine jU.ok _ _ _ _ w1 _ (h.swap O k rfl rfl λd G=>?_);rw[bb _ co,nn co co];have g:=nB k O;have P:nL U ((U.set a pv).set p F) pv a b (a+1) (b - 1):=⟨Sg.swap O k co,by
  rw[g];split
  .rename_i e;rw[e,O]at k;rw[k]
  .rw [av rfl],co,co,co,λag N q1 q2=>co,λag N q1 q2=>co⟩
 generalize(U.set a pv).set p F=y at P G
 have hlen:=P.g.len;refine R' (D:=b) W Z Y (A:=λi j d=>jU.L0 s (a:Int) i j d (mm s l U w pv a b)) (B:=λi j d=>jU.L1 s (a:Int) i j d (mm s l U w pv a b)) (C:=λi j d=>jU.S2 s (a:Int) i j d (mm s l U w pv a b)) (λi j d h=>jU.bC s (a:Int) i j d (mm s l U w pv a b) h) (λi j d h=>jU.fH s (a:Int) i j d (mm s l U w pv a b) h) y ?_ (b - 1+1 - (a+1)+1) (a+1) (b - 1) d co co P G;intro i j w3 T q Q S H;have af:=q.jb;have ad:=q.i1;have ae:=q.ij;obtain⟨N,x⟩:=eE (U:=y) (i:=j) co;refine aE (λaa=>?_) (λab=>?_)
 .refine H.swap q.z x rfl rfl λM E=>?_;have c:=q.cut co x;exact⟨j,true,_,rfl,E,c.1,c.2⟩
 obtain⟨F,k⟩:=eE (U:=y) (i:=i) co;have K:=S co N x;have L:=Q co F k;have ac:i≠j:=λe=>by subst e;rw[x]at k;cases k;exact L K
 refine H.swap x k rfl rfl λM E=>?_;show jU.L4 _ _ _ _ _ _;rw[bb _ co,nn co co];exact l4 (j - 1+1 - (i+1)+1) (i+1) (j - 1) _ M co (q.swap x k co K L) E
end
set_option maxHeartbeats 400000
def Ad(a b:Nat)(h:List I):Prop:=∀(d:Nat) x y,a<=d->d+1<b->h[d]? =some x->h[d+1]? =some y->bc x.rx y.rx<=0
def Ad.HK{a b:Nat}{j:List I}(h:Ad a b j)(F:b<=j.length):j8 a b j:=by
 intro i d D E;induction d with
 |zero=>omega
 |succ d A=>
  intro y B C k z;obtain⟨x,q⟩:=eE (U:=j) (i:=d) co;have w:=h d x C co y q z;by_cases e:i=d
  .subst e;rw[q]at k;cases k;exact w
  .exact sh (A co co B x k q) w
structure tF(us:List I)(a i j:Nat):Prop where
 p:∀(q:Nat) x y,a<=q->q+1<i->q+1≠j->us[q]? =some x->us[q+1]? =some y->bc x.rx y.rx<=0
 n:∀x y,a+1<=j->j+1<i->us[j - 1]? =some x->us[j+1]? =some y->bc x.rx y.rx<=0
def tF.ad{q:List I}{a i j:Nat}(D:tF q a i j)(h:∀d k,a+1<=j->q[j - 1]? =some d->q[j]? =some k->bc d.rx k.rx<=0):Ad a i q:=by
 intro y d k z A w x;by_cases e:y+1=j
 .subst e;exact h d k co w x
 .exact D.p y d k z A e w x
def tF.down{k:List I}{a i j:Nat}(D:tF k a i j){x y:I}(E:a+1<=j)(G:j<i)(z:k[j - 1]? =some x)(F:k[j]? =some y)(H:bc y.rx x.rx<0):tF ((k.set j x).set (j - 1) y) a i (j - 1):=by
 have g:=nB F z;refine⟨λA u v C B K d h=>?_,λu v C B d h=>?_⟩
 .rw [g]at d h;by_cases q:A=j - 1
  .rw [av q]at d;rw[ag co,av co]at h;cases d;cases h;omega
  by_cases w:A=j
  .rw [ag q,av w]at d;rw[ag co,ag co]at h;cases d;subst w;exact D.n _ _ E B z h
  .rw [ag q,ag w]at d;rw[ag co,ag co]at h;exact D.p A u v C B co d h
 .rw [g,ag co,ag co]at d;rw[g,ag co,av co]at h;cases h;exact D.p (j - 1 - 1) u x co co co d (by rw[show j - 1 - 1+1=j - 1 by omega];exact z)
section
variable {s:Sl} {l U:List I} {w w1:J} {a b:Nat}
def adi(h:Sq s l w w1 U)(hz:I.a7 l<=1000000)(ac:a<b)(hb:b<=U.length)(af:mY a b U):
  aj V P9 #[s.v,.i (a:Int),.i (b:Int),.func (.func cz) #[] #[]] w1 λr w'=>∃(t:Bool) (d:List I),r=ae (.bool t)/\Sq s l w w' d/\Sg a b U d/\(t=true->j8 a b d):=by
 have hl:=(h.lt hz).1
 let O:aJ:=λr w'=>∃(t:Bool) (d:List I),r=ae (.bool t)/\Sq s l w w' d/\Sg a b U d/\(t=true->j8 a b d)
 have l1:∀(D k i:Nat) (d:List I) (Y:J),D+k=5->a<i->i<=b->Ad a i d->Sq s l w Y d->Sg a b U d->jT.L1 s (a:Int) (b:Int) (i:Int) (k:Int) Y O:=by
  intro D;induction D with
  |zero=>
   intro k i d Y hD C E z Q g;exact jT.fH _ _ _ _ _ _ _ (aP (aV co) ⟨false,d,rfl,Q,g,λh=>by cases h⟩)
  |succ D ih=>
   intro k i d Y hD C E z Q g;refine jT.fH _ _ _ _ _ _ _ (aM (aQ co) ?_);have s7:∀(i:Nat) (d:List I) (q:J),a<i->i<=b->Ad a i d->Sq s l w q d->Sg a b U d->jT.S7 s (a:Int) (b:Int) (i:Int) (k:Int) q O:=by intro i d q C E z A g;show jT.L1 _ _ _ _ _ _ _;rw[bb _ co];exact ih (k+1) i d q co C E z A g
   have l6:∀(e i j:Nat) (d:List I) (q:J),b - j<e->a<i->i<j->j<=b->Ad a i d->Sq s l w q d->Sg a b U d->jT.L6 s (a:Int) (b:Int) (i:Int) (k:Int) (j:Int) q O:=by
    intro e;induction e with
    |zero=>intro i j d q he;omega
    |succ e ab=>
     intro i j d q he C ij jb z A g;have hlen:=g.len;refine jT.CR _ _ _ _ _ _ _ _ (aE (λai=>A.dr λS K=>?_) (λ_=>s7 i d q C co z A g));obtain⟨M,y⟩:=eE (U:=d) (i:=j) co;obtain⟨L,x⟩:=eE (U:=d) (i:=j - 1) co;refine K.cmp hz y x rfl (nn co co) λT N=>dW (λal=>s7 i d T C co z N g) (λW=>?_);refine N.swap x y (nn co co) rfl λw6 h6=>?_;rw[bb _ co];have gg:=nB y x;refine ab i (j+1) _ w6 co C co co (λB u v H P F G=>?_) h6 (g.trans (Sg.swap x y co));rw[gg,ag co,ag co]at F G;exact z B u v H P F G
   have s5:∀(i:Nat) (d:List I) (q:J),a<i->i<b->Ad a i d->Sq s l w q d->Sg a b U d->jT.S5 s (a:Int) (b:Int) (i:Int) (k:Int) q O:=by intro i d q C E z A g;refine aE (λ_=>?_) (λ_=>s7 i d q C co z A g);rw[bb _ co];exact l6 (b - (i+1)+1) i (i+1) d q co C co co z A g
   have l4:∀(j i:Nat) (d:List I) (q:J),a<=j->j<i->i<b->tF d a i j->Sq s l w q d->Sg a b U d->jT.L4 s (a:Int) (b:Int) (i:Int) (k:Int) (j:Int) q O:=by
    intro j;induction j with
    |zero=>
     intro i d q j1 j2 E Z A g;exact jT.rC _ _ _ _ _ _ _ _ (aP (aV co) (s5 i d q co E (Z.ad λL M h=>co) A g))
    |succ j ak=>
     intro i d q j1 j2 E Z A g;have hlen:=g.len;refine jT.rC _ _ _ _ _ _ _ _ (aM (aQ co) (A.dr λS K=>?_));have ej:ah .i64 (((j+1:Nat):Int) - 1)=(j:Int):=nn co co;obtain⟨M,y⟩:=eE (U:=d) (i:=j+1) co;obtain⟨L,x⟩:=eE (U:=d) (i:=j) co;refine K.cmp hz y x rfl ej λT N=>dW (λaa=>s5 i d T co E (Z.ad λu v _ F G=>?_) N g) (λW=>?_)
     .rw [show j+1 - 1=j from rfl,x]at F;rw[y]at G;cases F;cases G;exact qD (il aa)
     have W:=eP W;have hj:a+1<=j+1:=by
      by_cases e:a=j+1
      .have:=(af.sg g hb) a (bm _) ac co L M (by rw[e];exact x) (by rw[e];exact y);have:=ke L.rx M.rx;omega
      .omega
     refine N.swap x y ej rfl λw6 h6=>?_;rw[ej];exact ak i _ w6 co co E (Z.down hj j2 x y W) h6 (g.trans (Sg.swap x y co))
   have s3:∀(i:Nat) (d:List I) (q:J),a<i->i<=b->Ad a i d->Sq s l w q d->Sg a b U d->jT.S3 s (a:Int) (b:Int) (i:Int) (k:Int) q O:=by
    intro i d q C E z A g;have hlen:=g.len;refine bP (λe=>?_) (λe=>?_)
    .have e:i=b:=by have:=eq_of_beq e;omega
     subst e;exact⟨true,d,rfl,A,g,λ_=>z.HK co⟩
    have e:i≠b:=λh=>by subst h;simp at e
    refine aE (λ_=>⟨false,d,rfl,A,g,λh=>by cases h⟩) (λ_=>?_);have ei:ah .i64 ((i:Int) - 1)=((i - 1:Nat):Int):=nn co co;obtain⟨M,y⟩:=eE (U:=d) (i:=i) co;obtain⟨L,x⟩:=eE (U:=d) (i:=i - 1) co;refine A.swap x y ei rfl λS K=>?_;have gg:=nB y x;have g2:=g.trans (Sg.swap (a:=a) (b:=b) x y co);have low:∀(B:Nat) u v,a<=B->B+1<i - 1->((d.set i L).set (i - 1) M)[B]? =some u->((d.set i L).set (i - 1) M)[B+1]? =some v->bc u.rx v.rx<=0:=λB u v H P F G=>by rw[gg,ag co,ag co]at F G;exact z B u v H co F G
    refine aE (λQ=>?_) (λQ=>s5 i _ S C co (λB u v H P=>?_) K g2)
    .rw [ei];exact l4 (i - 1) i _ S co co co ⟨λB u v H P q3=>low B u v H co,λu v H P=>co⟩ K g2
    .rw [aN _ co]at Q;omega
   have l2:∀(e i:Nat) (q:J),b - i<e->a<i->i<=b->Ad a i d->Sq s l w q d->jT.L2 s (a:Int) (b:Int) (i:Int) (k:Int) q O:=by
    intro e;induction e with
    |zero=>intro i q he;omega
    |succ e ab=>
     intro i q he C E z A;have hlen:=g.len;refine jT.j5 _ _ _ _ _ _ _ (A.dr λS K=>aE (λai=>?_) (λ_=>s3 i d S C E z K g));have ei:ah .i64 ((i:Int) - 1)=((i - 1:Nat):Int):=nn co co;obtain⟨M,y⟩:=eE (U:=d) (i:=i) co;obtain⟨L,x⟩:=eE (U:=d) (i:=i - 1) co;refine K.cmp hz y x rfl ei λT N=>dW (λaa=>?_) (λW=>s3 i d T C E z N g);rw[bb _ co];refine ab (i+1) T co co co (λB u v H P F G=>?_) N;by_cases eq:B+1=i
     .subst eq;rw[show B+1 - 1=B from rfl,F]at x;rw[G]at y;cases x;cases y;exact qD (il aa)
     .exact z B u v H co F G
   exact l2 (b - i+1) i Y co C E z Q
 refine jT.ok _ _ _ w1 _ ?_;rw[bb _ co];exact l1 5 0 (a+1) U w1 rfl co co (λB L M H P=>co) h (Sg.refl _ _ _)
end
def iu(p c:Nat):Prop:=c=2 *p+1\/c=2 *p+2
structure rp(us:List I)(f lo hi r:Nat):Prop where
 p:∀(p c:Nat),lo<=p->iu p c->c<hi->p≠r->ml us (f+c) (f+p)
 n:∀(p c:Nat),lo<=p->iu p r->iu r c->c<hi->ml us (f+c) (f+p)
def rq(d:List I)(f lo hi:Nat):Prop:=∀(p c:Nat),lo<=p->iu p c->c<hi->ml d (f+c) (f+p)
def rp.heap{d:List I}{f lo hi r:Nat}(H:rp d f lo hi r)(h:∀c,iu r c->c<hi->ml d (f+c) (f+r)):rq d f lo hi:=by
 intro p c q j k;by_cases e:p=r
 .subst e;exact h c j k
 .exact H.p p c q j k e
def rp.down{q:List I}{f lo hi r c:Nat}(H:rp q f lo hi r)(N:lo<=r){x y:I}(E:iu r c)(K:c<hi)(z:q[f+c]? =some x)(L:q[f+r]? =some y)(lt:bc y.rx x.rx<=0)(M:∀h,iu r h->h<hi->ml q (f+h) (f+c)):rp ((q.set (f+r) x).set (f+c) y) f lo hi c:=by
 have g:=nB L z;have G:=E;unfold iu at E;refine⟨λp h B w k D u v d j=>?_,λp h B w k D u v d j=>?_⟩
 .have C:=w;unfold iu at w;rw[g]at d j;rw[ag co]at j;by_cases e:p=r
  .subst e;rw[av rfl]at j;cases j;by_cases A:h=c
   .subst A;rw[av rfl]at d;cases d;exact lt
   .rw [ag co,ag co]at d;exact M h C k u x d z
  .rw [ag co]at j;by_cases A:h=r
   .subst A;rw[ag co,av rfl]at d;cases d;exact H.n p c B C G K x v z j
   .rw [ag co,ag co]at d;exact H.p p h B C k e u v d j
 .have F:=k;unfold iu at w k;have e:p=r:=co
  subst e;rw[g,ag co,ag co]at d;rw[g,ag co,av rfl]at j;cases j;exact H.p c h co F D co u x d z
section
variable {s:Sl} {l U:List I} {w w1:J}
def Su(h:Sq s l w w1 U)(O:I.a7 l<=1000000){f lo hi:Nat}(hb:f+hi<=U.length)(H:rp U f lo hi lo)(ai:lo<=hi):
  aj V Qc #[s.v,.i (lo:Int),.i (hi:Int),.i (f:Int),.func (.func cz) #[] #[]] w1 λr Q=>r=ae (.tuple #[])/\∃d,Sq s l w Q d/\Sg (f+lo) (f+hi) U d/\rq d f lo hi:=by
 have hl:=(h.lt O).1
 let T:aJ:=λr Q=>r=ae (.tuple #[])/\∃d,Sq s l w Q d/\Sg (f+lo) (f+hi) U d/\rq d f lo hi
 have C:∀{x y:Nat},x+y<=3000000->ah .i64 ((x:Int)+(y:Int))=((x+y:Nat):Int):=λh=>by rw[aN _ co];omega
 have loop:∀(D r:Nat) (d:List I) (N:J),hi - r<D->lo<=r->r<=1000000->rp d f lo hi r->Sq s l w N d->Sg (f+lo) (f+hi) U d->vL.L0 s (hi:Int) (f:Int) (r:Int) N T:=by
  intro D;induction D with
  |zero=>intro r d N hD;omega
  |succ D ih=>
   intro r d N hD hr an H Y g;have hlen:=g.len;refine vL.bC _ _ _ _ _ _ ?_;have e1:ah .i64 (ah .i64 (2 *(r:Int))+1)=((2 *r+1:Nat):Int):=by rw[aN (2 *(r:Int)) co,aN _ co];omega
   rw[e1];have P:∀(c:Nat) (F:J),iu r c->c<hi->(∀A,iu r A->A<hi->ml d (f+A) (f+c))->Sq s l w F d->vL.S2 s (hi:Int) (f:Int) (r:Int) (c:Int) F T:=by
    intro c F M E mx G;have af:=M;unfold iu at M;obtain⟨x,q⟩:=eE (U:=d) (i:=f+c) co;obtain⟨y,z⟩:=eE (U:=d) (i:=f+r) co;dsimp only[vL.S2,ak];refine G.dr λS K=>K.cmp O z q (C co) (C co) λw5 Z=>dW (λab=>⟨rfl,d,Z,g,H.heap λA B L u v j k=>?_⟩) (λaa=>?_)
    .rw [z]at k;cases k;exact sh (mx A B L u x j q) (qD (il ab))
    have aa:=eP aa;refine Z.swap q z (C co) (C co) λw6 h6=>?_;exact ih c _ w6 co co co (by have:=H.down hr af E q z co mx;exact this) h6 (g.trans (Sg.swap q z co))
   refine aE (λab=>⟨rfl,d,Y,g,H.heap λc M E=>by unfold iu at M;omega⟩) (λal=>Y.dr λF G=>?_);have e2:ah .i64 (((2 *r+1:Nat):Int)+1)=((2 *r+2:Nat):Int):=bb _ co;rw[e2];refine aE (λam=>?_) (λag=>P (2 *r+1) F (.inl rfl) co (λA B L=>?_) G)
   .obtain ⟨x,q⟩:=eE (U:=d) (i:=f+(2 *r+1)) co;obtain⟨y,z⟩:=eE (U:=d) (i:=f+(2 *r+1)+1) co;have W:ah .i64 ((f:Int)+((2 *r+1:Nat):Int))=((f+(2 *r+1):Nat):Int):=C co;refine G.cmp O q z W (by rw[W,bb _ co]) λS K=>aE (λE=>?_) (λE=>?_)
    .refine P (2 *r+2) S (.inr rfl) co (λA B L u v j k=>?_) K;have ac:d[f+(2 *r+1)+1]? =some v:=k;rw[z]at ac;cases ac;rcases B with rfl|rfl
     .rw [q]at j;cases j;omega
     .rw [show f+(2 *r+2)=f+(2 *r+1)+1 from rfl,z]at j;cases j;have:=ke y.rx y.rx;omega
    .refine P (2 *r+1) S (.inl rfl) co (λA B L u v j k=>?_) K;rw[q]at k;cases k;rcases B with rfl|rfl
     .rw [q]at j;cases j;have:=ke x.rx x.rx;omega
     .rw [show f+(2 *r+2)=f+(2 *r+1)+1 from rfl,z]at j;cases j;exact qD E
   .intro u v j k;rcases B with rfl|rfl
    .rw [j]at k;cases k;have:=ke u.rx u.rx;omega
    .omega
 exact vL.ok _ _ _ _ w1 _ (loop (hi - lo+1) lo U w1 co (bm _) co H h (Sg.refl _ _ _))
end
def rq.top{j:List I}{f n:Nat}(H:rq j f 0 n)(E:f+n<=j.length):∀(D p:Nat),p<D->p<n->ml j (f+p) f:=by
 intro D;induction D with
 |zero=>intro p h;omega
 |succ D A=>
  intro p C z q B k w;by_cases e:p=0
  .subst e;rw[show f+0=f from rfl,w]at k;cases k;have:=ke q.rx q.rx;omega
  obtain⟨d,F⟩:∃d,d=(p - 1) / 2:=⟨_,rfl⟩;obtain⟨y,x⟩:=eE (U:=j) (i:=f+d) co;exact sh (H d p co (by unfold iu;omega) z q y k x) (A d co co y B x w)
section
variable {s:Sl} {l U:List I} {w w1:J}
def adg(h:Sq s l w w1 U)(Y:I.a7 l<=1000000){a b:Nat}(ao:a<b)(hb:b<=U.length):
  aj V PZ #[s.v,.i (a:Int),.i (b:Int),.func (.func cz) #[] #[]] w1 λr w'=>r=ae (.tuple #[])/\∃d,Sq s l w w' d/\Sg a b U d/\j8 a b d:=by
 have hl:=(h.lt Y).1;obtain⟨hi,hh⟩:∃hi,hi=b - a:=⟨_,rfl⟩;have eL:ah .i64 ((b:Int) - (a:Int))=(hi:Int):=by rw[aN _ co];omega
 let R:aJ:=λr w'=>r=ae (.tuple #[])/\∃d,Sq s l w w' d/\Sg a b U d/\j8 a b d
 have l2:∀(n:Nat) (d:List I) (x:J),n<=hi->rq d a 0 n->j8 (a+n) b d->(∀p F,p<n->n<=F->F<hi->ml d (a+p) (a+F))->Sq s l w x d->Sg a b U d->pF.L2 s (a:Int) 0 ((n:Int) - 1) x R:=by
  intro n;induction n with
  |zero=>
   intro d x T y st N q g;exact pF.j5 _ _ _ _ _ _ (aP (aV co) ⟨rfl,d,q,g,st⟩)
  |succ n Z=>
   intro d x T y st N q g;have hlen:=g.len;have O:((n+1:Nat):Int) - 1=(n:Int):=co
   have e1:ah .i64 ((a:Int)+(n:Int))=((a+n:Nat):Int):=by rw[aN _ co];omega
   rw[O];obtain⟨an,L⟩:=eE (U:=d) (i:=a+n) co;obtain⟨ab,K⟩:=eE (U:=d) (i:=a) co;refine pF.j5 _ _ _ _ _ _ (aM (aQ co) (q.swap L K e1 rfl λw3 B=>?_));have H:=nB K L;have P:=g.trans (Sg.swap (a:=a) (b:=b) L K co);have top:=y.top co;obtain⟨vs,ak⟩:∃vs,vs=(d.set a an).set (a+n) ab:=⟨_,rfl⟩;rw[<-ak]at H P B;have ap:=P.len;have am:∀p u,p<n->vs[a+p]? =some u->∃E,E<n+1/\d[a+E]? =some u:=λp u W j=>by
    rw[H,ag co]at j;split at j
    .cases j;exact⟨n,co,L⟩
    .exact ⟨p,co,j⟩
   refine(Su B Y (f:=a) (lo:=0) (hi:=n) co ⟨λp c z D S W u v j k=>?_,λp c z kp=>by unfold iu at kp;omega⟩ (dI _)).mono ?_
   .have al:=D;unfold iu at D;rw[H,ag co,ag co]at j k;exact y p c (dI _) al co u v j k
   rintro _ w4 ⟨rfl,aa,Q,A,M⟩;refine⟨rfl,?_⟩;have G:ah .i64 ((n:Int) - 1)=(n:Int) - 1:=aN _ co;rw[G];refine Z aa w4 co M ?_ ?_ Q (P.trans (A.wide co co))
   .intro i C z q B u v j k;rw[A.2 _ co,H]at j k;rw[ag (show ¬C=a+n by omega),ag co]at k;split at j
    .cases j;exact N 0 (C - a) co co co ab v K (by rw[show a+(C - a)=C by omega];exact k)
    .rw [ag co]at j;exact st i C co q B u v j k
   .intro p F W hq ai u v j k;obtain⟨i,i1,i2,ac⟩:=A.mem co co j co co;rw[show i=a+(i - a)by omega]at ac;obtain⟨E,ad,af⟩:=am (i - a) u co ac;rw[A.2 _ co,H]at k;split at k
    .cases k;exact top (E+1) E co ad u ab af K
    .rw [ag co]at k;exact N E F ad co ai u v af k
 have l1:∀(n:Nat) (d:List I) (x:J),n<=hi->rq d a n hi->Sq s l w x d->Sg a b U d->pF.L1 s (a:Int) 0 (hi:Int) ((n:Int) - 1) x R:=by
  intro n;induction n with
  |zero=>
   intro d x T y q g;refine pF.fH _ _ _ _ _ _ _ (aP (aV co) ?_);have G:ah .i64 ((hi:Int) - 1)=(hi:Int) - 1:=aN _ co;rw[G];exact l2 hi d x (bm _) y (λi C z q B=>co) (λp F z q B=>co) q g
  |succ n Z=>
   intro d x T y q g;have hlen:=g.len;have O:((n+1:Nat):Int) - 1=(n:Int):=co
   rw[O];refine pF.fH _ _ _ _ _ _ _ (aM (aQ co) ?_);refine(Su q Y (f:=a) (lo:=n) (hi:=hi) co ⟨λp c z D S W=>y p c co D S,λp c z kp=>by unfold iu at kp;omega⟩ co).mono ?_;rintro _ w4 ⟨rfl,aa,Q,A,M⟩;refine⟨rfl,?_⟩;have G:ah .i64 ((n:Int) - 1)=(n:Int) - 1:=aN _ co;rw[G];exact Z aa w4 co M Q (g.trans (A.wide co co))
 refine pF.ok _ _ _ w1 _ ?_;rw[eL];have e3:ah .i64 (bS (ah .i64 ((hi:Int) - 1)) 2)=(((hi - 1) / 2+1:Nat):Int) - 1:=by
  have:ah .i64 ((hi:Int) - 1)=((hi - 1:Nat):Int):=by rw[aN _ co];omega
  rw[this];have e4:bS ((hi - 1:Nat):Int) 2=(((hi - 1) / 2:Nat):Int):=rfl;rw[e4,aN _ co];omega
 show pF.L1 _ _ _ _ _ _ _;rw[e3];exact l1 ((hi - 1) / 2+1) U w1 co (λp c z D S=>by unfold iu at D;omega) h (Sg.refl _ _ _)
end
def Out(h j a b:Nat)(k:List I):Prop:=∀i d,h<=i->i<d->d<j->¬(a<=i/\d<b)->ml k i d
def Out.HK{q w a b:Nat}{j:List I}(h:Out q w a b j)(k:j8 a b j):j8 q w j:=λi d y x z=>by
 by_cases e:a<=i/\d<b
 .exact k i d e.1 x e.2
 .exact h i d y x z e
def Out.start(a b:Nat)(k:List I):Out a b a b k:=λi q d _ h j=>absurd ⟨d,h⟩ j
def Out.sg{q w a b:Nat}{x vs:List I}(h:Out q w a b x)(g:Sg a b x vs)(Q:q<=a)(C:a<=b)(S:b<=w)(D:b<=x.length):Out q w a b vs:=by
 intro i d E M F K y z k j;by_cases A:a<=i/\i<b
 .obtain ⟨L,O,P,G⟩:=g.mem C D k A.1 A.2;rw[g.2 d co]at j;exact h L d co co F co y z G j
 rw[g.2 i co]at k;by_cases B:a<=d/\d<b
 .obtain ⟨N,O,P,H⟩:=g.mem C D j B.1 B.2;exact h i N E co co co y z k H
 rw[g.2 d co]at j;exact h i d E M F K y z k j
def Out.cut{B C a b m:Nat}{x:List I}{j:I}(h:Out B C a b x)(c:oP x j a m b):∀i d,B<=i->i<d->d<C->¬(a<=i/\d<m)->¬(m+1<=i/\d<b)->ml x i d:=by
 intro i d E F G K L y A k q;by_cases e:a<=i/\d<b
 .have lo:i<=m->bc y.rx j.rx<=0:=λD=>by
   by_cases w:i=m
   .subst w;rw[c.z]at k;cases k;have:=ke j.rx j.rx;omega
   .exact Int.le_of_lt (c.lo i y e.1 co k)
  have D:m<=d->bc j.rx A.rx<=0:=λH=>by
   by_cases w:d=m
   .subst w;rw[c.z]at q;cases q;have:=ke j.rx j.rx;omega
   .exact qD (c.hi d A co e.2 q)
  exact sh (lo co) (D co)
 .exact h i d E F G e y A k q
def oP.low{a b m:Nat}{h:List I}{w:I}(c:oP h w a m b):mY (m+1) b h:=by intro q y j _ A x d k;rw[show m+1 - 1=m from rfl,c.z]at d;cases d;exact qD (c.hi q x co j k)
def y7.nxt{D E a b m:Nat}{x:List I}{y:I}(c:y7 x y a m b)(h:Out D E a b x)(k:∀(j:Nat) d,a<=j->j<b->x[j]? =some d->bc y.rx d.rx<=0):Out D E m b x/\mY m b x:=by
 have lo:∀(w:Nat) d,a<=w->w<m->x[w]? =some d->bc d.rx y.rx<=0:=λw d F C q=>by
  by_cases e:w=a
  .subst e;rw[c.z]at q;cases q;have:=ke y.rx y.rx;omega
  .exact qD (c.lo w d co C q)
 have L:=c.am;have N:=c.mb;refine⟨λi j G H K M d B q A=>?_,λj F C _ d B q A=>sh (lo (m - 1) d co co q) (k j B co C A)⟩;by_cases e:a<=i/\j<b
 .exact sh (lo i d e.1 co q) (k j B co e.2 A)
 .exact h i j G H K e d B q A
def oP.left{q w a b m:Nat}{x vs:List I}{O:I}(c:oP vs O a m b)(h:Out q w a b vs)(g:Sg a m vs x)(Q:b<=vs.length)(P:q<=a)(S:b<=w)(st:j8 a m x):Out q w (m+1) b x:=by
 have A:=c.am;have U:=c.mb;intro i d D E F T;by_cases e:a<=i/\d<m
 .exact st i d e.1 E e.2
 intro y z k j;by_cases B:a<=i/\i<m
 .obtain ⟨K,M,N,G⟩:=g.mem A co k B.1 B.2;rw[g.2 d co]at j;exact h.cut c K d co co F co co y z G j
 rw[g.2 i co]at k;by_cases C:a<=d/\d<m
 .obtain ⟨L,M,N,H⟩:=g.mem A co j C.1 C.2;exact h.cut c i L D co co co co y z k H
 rw[g.2 d co]at j;exact h.cut c i d D E F co co y z k j
def oP.right{q w a b m:Nat}{x vs:List I}{N:I}(c:oP vs N a m b)(h:Out q w a b vs)(g:Sg (m+1) b vs x)(Q:b<=vs.length)(P:q<=a)(S:b<=w)(st:j8 (m+1) b x):Out q w a m x:=by
 have O:=c.am;have U:=c.mb;intro i d C D E T;by_cases e:m+1<=i/\d<b
 .exact st i d e.1 D e.2
 intro y z k j;by_cases A:m+1<=i/\i<b
 .obtain ⟨H,L,M,F⟩:=g.mem co co k A.1 A.2;rw[g.2 d co]at j;exact h.cut c H d co co E co co y z F j
 rw[g.2 i co]at k;by_cases B:m+1<=d/\d<b
 .obtain ⟨K,L,M,G⟩:=g.mem co co j B.1 B.2;exact h.cut c i K C co co co co y z k G
 rw[g.2 d co]at j;exact h.cut c i d C D E co co y z k j
section
variable {s:Sl} {l:List I} {w:J}
abbrev tO(s:Sl)(l U:List I)(w:J)(a b:Nat):aJ:=λr h=>r=ae (.tuple #[])/\∃d,Sq s l w h d/\Sg a b U d/\j8 a b d
def pdq(H:I.a7 l<=1000000):∀(D a b q j:Nat) (h:Int) (z A:Bool) (d U:List I) (w2:J),b - a<D->a<=b->b<=j->j<=U.length->q<=a->mY a b d->Out q j a b d->Sq s l w w2 d->Sg q j U d->nu.L0 s (a:Int) (b:Int) h z A w2 (tO s l U w q j):=by
 intro D;induction D with
 |zero=>intro a b q j h z A d U w2 hD;omega
 |succ D ih=>
  intro a b q j h z A d U w2 hD Q y hb C low out h2 g;have hl:=(h2.lt H).1;have hlen:=g.len;have eL:ah .i64 ((b:Int) - (a:Int))=((b - a:Nat):Int):=by rw[aN _ co];omega
  have fin:∀{d vs:List I} {x:J},Out q j a b d->d.length=U.length->Sg q j U d->Sq s l w x vs->Sg a b d vs->j8 a b vs->tO s l U w q j (ae (.tuple #[])) x:=λout hlen g B E st=>
   ⟨rfl,_,B,g.trans (E.wide C y),(out.sg E C Q y co).HK st⟩
  have s6:∀(h L:Int) (p:Nat) (d:List I) (x:J),a<=p->p<b->d.length=U.length->mY a b d->Out q j a b d->Sq s l w x d->Sg q j U d->nu.S6 s (a:Int) (b:Int) h L (p:Int) x (tO s l U w q j):=by
   intro h L p d x K M hlen low out B g;obtain⟨pv,hp⟩:=eE (U:=d) (i:=p) co;refine(adj B H co hp K M).mono ?_;rintro _ N ⟨m,t,vs,rfl,F,G,c⟩;have ac:=c.am;have al:=c.mb;have ad:=G.len;have ai:=low.sg G co;have an:=out.sg G C Q y co;have T:=g.trans (G.wide C y);have em:ah .i64 ((m:Int)+1)=((m+1:Nat):Int):=bb _ co;refine⟨_,_,rfl,bP (λ_=>?_) (λ_=>?_)⟩
   .refine (nu.ok _ _ _ _ N _ (ih a m a m h true true vs vs N co ac (bm _) co (bm _) (λY Z j2=>ai Y Z co) (Out.start _ _ _) F (Sg.refl _ _ _))).mono ?_;rintro _ w5 ⟨rfl,xs,P,O,st⟩;refine⟨rfl,?_⟩;rw[em];have aq:=O.len;refine ih (m+1) b q j h _ _ xs U w5 co co y hb co ?_ (c.left an O co C y st) P (T.trans (O.wide C co));intro Y Z j2 j0 aa ab S W;rw[O.2 _ co]at S W;exact c.low Y Z j2 j0 aa ab S W
   .show aj _ _ _ _ _;rw[em];refine(nu.ok _ _ _ _ N _ (ih (m+1) b (m+1) b h true true vs vs N co co (bm _) co (bm _) c.low (Out.start _ _ _) F (Sg.refl _ _ _))).mono ?_;rintro _ w5 ⟨rfl,xs,P,O,st⟩;refine⟨rfl,?_⟩;have aq:=O.len;refine ih a m q j h _ _ xs U w5 co ac co hb C ?_ (c.right an O co C y st) P (T.trans (O.wide co y));intro Y Z j2 j0 aa ab S W;rw[O.2 _ co]at S W;exact ai Y Z co j0 aa ab S W
  have s5:∀(h L:Int) (z A:Bool) (p:Nat) (d:List I) (x:J),a<=p->p<b->d.length=U.length->mY a b d->Out q j a b d->Sq s l w x d->Sg q j U d->nu.S5 s (a:Int) (b:Int) h z A L (p:Int) x (tO s l U w q j):=by
   intro h L z A p d x K M hlen low out B g;dsimp only[nu.S5,ak];refine B.dr λN F=>aE (λh0=>?_) (λ_=>s6 h L p d N K M hlen low out F g);have af:0<a:=co
   obtain⟨pv,hp⟩:=eE (U:=d) (i:=p) co;obtain⟨aa,S⟩:=eE (U:=d) (i:=a - 1) co;refine F.cmp H S hp (nn af co) rfl λw5 P=>dW (λhc=>?_) (λ_=>s6 h L p d w5 K M hlen low out P g);have ao:=qD (il hc);refine(adf P H co hp K M).mono ?_;rintro _ w6 ⟨m,vs,rfl,h6,g6,c⟩;have ap:=low.sg g6 co;have ac:=c.am;have al:=c.mb;obtain⟨o7,l7⟩:=c.nxt (out.sg g6 C Q y co) λY ab Z j2 W=>sh ao (ap Y Z j2 af aa ab ((g6.2 _ co).trans S) W);exact⟨_,rfl,ih m b q j h z A vs U w6 co al y hb co l7 o7 h6 (g.trans (g6.wide C y))⟩
  have s4:∀(h L:Int) (z A:Bool) (p:Nat) (k:Int) (d:List I) (x:J),a<=p->p<b->d.length=U.length->mY a b d->Out q j a b d->Sq s l w x d->Sg q j U d->nu.S4 s (a:Int) (b:Int) h z A L (p:Int) k x (tO s l U w q j):=by intro h L z A p k d x K M hlen low out B g;have k5:=s5 h L z A p d x K M hlen low out B g;refine bP (λ_=>bP (λ_=>bP (λ_=>?_) (λ_=>k5)) (λ_=>k5)) (λ_=>k5);refine(adi B H co co low).mono ?_;rintro _ N ⟨t,vs,rfl,F,G,st⟩;have ad:=G.len;exact⟨_,rfl,bP (λht=>fin out hlen g F G (st ht)) (λ_=>s5 h L z A p vs N K M co (low.sg G co) (out.sg G C Q y co) F (g.trans (G.wide C y)))⟩
  have s2:∀(h L:Int) (z A:Bool) (d:List I) (x:J),a+12<b->d.length=U.length->mY a b d->Out q j a b d->Sq s l w x d->Sg q j U d->nu.S2 s (a:Int) (b:Int) h z A L x (tO s l U w q j):=by
   intro h L z A d x ag hlen low out B g;refine(adk B H ag co).mono ?_;rintro _ N ⟨p,k,rfl,K,M,F⟩;refine⟨_,_,rfl,bP (λ_=>?_) (λ_=>s4 h L z A p k d N K M hlen low out F g)⟩;refine(adl F H co co).mono ?_;rintro _ w5 ⟨rfl,vs,P,T⟩;have ad:=T.len;have e1:ah .i64 ((b:Int) - 1)=((b - 1:Nat):Int):=nn co co;have e2:ah .i64 ((p:Int) - (a:Int))=((p - a:Nat):Int):=by rw[aN _ co];omega
   have e3:ah .i64 (((b - 1:Nat):Int) - ((p - a:Nat):Int))=((b - 1 - (p - a):Nat):Int):=by rw[aN _ co];omega
   refine⟨rfl,?_⟩;rw[e1,e2,e3];exact s4 h L z A _ 1 vs w5 co co co (low.sg T co) (out.sg T C Q y co) P (g.trans (T.wide C y))
  refine nu.bC _ _ _ _ _ _ _ _ ?_;rw[eL];refine aE (λ_=>?_) (λag=>bP (λ_=>?_) (λ_=>dW (λ_=>?_) (λ_=>s2 _ _ _ _ d w2 co hlen low out h2 g)))
  .refine (adh h2 H Q co).mono ?_;rintro _ x ⟨rfl,vs,B,E,st⟩;exact⟨rfl,fin out hlen g B E st⟩
  .refine (adg h2 H co co).mono ?_;rintro _ x ⟨rfl,vs,B,E,st⟩;exact⟨rfl,fin out hlen g B E st⟩
  .refine (ade h2 H Q co).mono ?_;rintro _ x ⟨rfl,vs,B,E⟩;have ad:=E.len;exact⟨rfl,s2 _ _ _ _ vs x co co (low.sg E co) (out.sg E C Q y co) B (g.trans (E.wide C y))⟩
end
def aeu(n:Nat):tT n:=by
 intro s l d L B k F A;have O:=I.cH k.bd;have N:=I.fR l;have x:IK s l d d l:=As _ k (by intro e j;simp only[aq,aL,aR]at j;subst j;exact⟨F,λK D C=>A K D (a0.1 C)⟩)
 have z:Sq s l d d l:=⟨x,.refl _⟩;refine Ue.ok _ d _ ((XP _ d).mono ?_);rintro _ q ⟨⟨t,rfl⟩,f⟩;refine⟨t,rfl,?_⟩;have E:=pdq (s:=s) (l:=l) (w:=d) B (l.length+1) 0 l.length 0 l.length t true true l l q co (dI _) (bm _) (bm _) (bm _) (λM _ _ y=>absurd y co) (Out.start _ _ _) (z.br f) (Sg.refl _ _ _);rw[show(s.n:Int)=(l.length:Int)by omega];refine(nu.ok _ _ _ _ q _ E).mono ?_;rintro _ P ⟨rfl,G,h,g,st⟩;exact⟨rfl,⟨G,rfl,g.1,aeD (by rw[g.len];exact st),h.H.get 0⟩,h.fr⟩
def wT(d:BL):dP:=⟨d,0,0,0,0⟩
section
variable {l:List dP}
end
mutual
def L9:∀w:Rx,db w=true->iY w=true
 |.mk q lo x l,j=>by
  unfold db at j;simp only[bH]at j;have d:=j.2;have k:eo l=true->oo l=true:=Ma l;unfold iY;split at d
  .rename_i h;have:l=[]:=by simpa using d
   subst this;have h:q=0\/q=1:=h;unfold oo;rcases h with rfl|rfl<;>decide
  .split at d
   .rename_i h;simp only[bH]at d;have:l=[]:=by simpa using d.1
    subst this;subst h;unfold oo;decide
   .split at d
    .rename_i h;rw[k d];rcases h with rfl|rfl|rfl<;>simp
    .split at d
     .rename_i h;simp only[bH,beq_iff_eq]at d;rw[k d.2];rcases h with rfl|rfl<;>simp[d.1]
     .cases d
def Ma:∀l:List Rx,eo l=true->oo l=true
 |[],_=>rfl
 |a::l,d=>by unfold eo at d;unfold oo;simp only[bH]at d;rw[L9 a d.1,Ma l d.2];rfl
end
abbrev Y0(bs:List Nat)(f:cW)(xs:Array aa)(w:J)(K:ByteArray->Int->J->Prop):Prop:=eJ bs V f xs w λj k=>∃d:ByteArray,∃h:Int,j=ae (.tuple #[.string d,.i h])/\K d h k
def Ja{a b:Nat}(h:¬a<b):Nat.blt a b=false:=by
 cases d:Nat.blt a b with
 |false=>rfl
 |true=>rw[Nat.blt_eq]at d;exact absurd d h
def afp(s:ByteArray)(w:J):aj V Gq #[.string s] w λr w'=>r=ae (.bool (lQ (bl s)))/\af w w':=by
 have hl:(bl s).length=s.size:=dQ s;have W:LH F0 w w [] []:=bN [] ws;refine Vp.aD s w _ ((XX s w).mono ?_);rintro r w1 ⟨f1,S⟩;have H1:=W.br f1;have no:∀(a e:Int),e≠0->lQ (bl s)=false->r=ae (.tuple #[.agg #[.int .i64 0,.int .u8 0,.int .u8 0,.slice none 0 0],.int .i64 a,.int .i64 e])->∃(t0 t1 t2:Int) (t3:Sl) (t4 t5:Int),r=ae (.tuple #[.agg #[.i t0,.int .u8 t1,.int .u8 t2,t3.v],.i t4,.i t5])/\x9 [] w1 λh M=>bt (t5 !=0) (loc [h] M λy=>(Ending.returned (.bool false)=ae (.bool (lQ (bl s)))/\af w y)) (loc [h] M λy=>YZ [h] Ga #[.agg #[.i t0,.int .u8 t1,.int .u8 t2,t3.v]] y λal am an ao ap U=>x9 [h] U λG N=>
   bt (ap !=0) (loc [h,G] N λT=>(Ending.returned (.bool false)=ae (.bool (lQ (bl s)))/\af w T)) (loc [h,G] N λT=>Y0 [h,G] Pw #[.agg #[.i al,.int .u8 am,.int .u8 an,ao.v]] T λaq ar ac=>bt (ar==0) (Ending.returned (.bool (aq.toList==s.toList))=ae (.bool (lQ (bl s)))/\af w ac) (Ending.returned (.bool false)=ae (.bool (lQ (bl s)))/\af w ac))):=λa e K hn S=>⟨0,0,0,⟨none,0,0⟩,a,e,S,H1.aK λh M O=>dA (λ_=>O.ai λw3 E=>⟨by rw[hn],E.fr⟩) (λA=>absurd A K)⟩
 rcases S with⟨h1,k⟩|⟨h1,res,ak,⟨a,rfl,k⟩|⟨d,rfl,⟨H,k⟩|⟨H,t,k,C,pt,ft⟩⟩⟩
 .refine no _ _ md ?_ k;unfold lQ;rw[show Nat.blt 4096 (bl s).length=true from by rw[Nat.blt_eq];omega];rfl
 all_goals have Q:Nat.blt 4096 (bl s).length=false:=Ja co
 all_goals have j:=afC ak
 .have j:Sum.inl a=vV (bl s):=j;refine no _ _ md ?_ k;unfold lQ;rw[Q,<-j];rfl
 .have j:Sum.inr (fK d)=vV (bl s):=j;refine no _ _ md ?_ k;unfold lQ;rw[Q,<-j];dsimp only[cond_false];rw[Ls,show Nat.blt 64 (fi d.tp).sz=true from by rw[Nat.blt_eq];exact H];rfl
 .have j:Sum.inr (fK d)=vV (bl s):=j;have aa:o7 64 (fi d.tp):=EL _ (by have:=FI (fi d.tp);omega);have B:lQ (bl s)=if pk (fi d.tp)=0 then(if kB (jw (fi d.tp))=0 then dd 0 (jw (fi d.tp)) (bn (jw (fi d.tp)))==bl s else false)else false:=by unfold lQ;rw[Q,<-j];dsimp only[cond_false];have:Nat.blt 64 (fi d.tp).sz=false:=Ja co;rw[Ls,this];rfl
  generalize fi d.tp=x at C aa B H;have ad:=W.gz (.tree t) f1 pt (λb P=>.inl (ft b (a0.1 P)));have au:t.sz<=64:=by rw[<-I.eU,C];exact H
  refine⟨_,_,_,t.s,_,_,k,ad.aK λh M O=>dA (λA=>absurd rfl A) (λ_=>O.ai λw3 E=>?_)⟩;refine E.kc (XW (aeu 64) co t w3 co (by rw[C];exact aa) (E.getD 0)) ?_;rintro _ w4 ⟨u,rfl,D,pu,fu⟩ _ F4;rw[C]at D;rw[C];have H4:=F4.rd (.tree u) pu λb P=>fu b (a0.1 P);refine⟨_,_,_,u.s,_,rfl,H4.aK λG w5 Y=>dA (λL=>Y.ai λy z=>⟨by rw[B,ag L],z.fr⟩) (λK=>Y.ai λy z=>?_)⟩;rw[av K]at B;have ab:u.sz<=1000000:=by
   rw[<-I.eU,D];have:pk x=0:=K;unfold pk at this;unfold jw;split at this
   .rename_i q;rw[av q];unfold qz at this;unfold qA;split at this
    .cases this
    .rename_i ah;rw[ag ah];omega
   .rename_i q;exact absurd this q
  refine hF (SQ.aD _ _ _ _ y _ ((g4 (z.getD 1)).aK λb1 U Z=>Z.aA (Jl u U ab (Z.getD 0)) ?_));rintro _ N rfl F;rw[D];refine⟨_,rfl,dA (λL=>⟨F.fr,_,_,rfl,aO (λA=>absurd A L) (λ_=>⟨by rw[B,ag L],(z.br F.fr).fr⟩)⟩) (λq=>F.aA (acY u 0 N ab co ?_ (F.getD 0)) ?_)⟩
  .exact L9 _ (by rw[D];exact(Im q).1)
  .rintro _ w9 rfl H9;refine⟨_,rfl,H9.fr,_,_,rfl,aM rfl ⟨?_,(z.br H9.fr).fr⟩⟩;rw[B,av q,D];congr 2;have:=ud (dd 0 (jw x) (bn (jw x))) (bl s);rw[jk]at this;exact this
def Rp(t:ByteArray):zg t:=λd=>afp t d
def wY(t:BL):Bool:=(match uk t with
 |some b=>lQ t==b
 |none=>false)&&Nat.ble t.length 100
def jn(i:Nat):Bool:=(List.range 108).all (λd=>wY (mP (108 *i+d)))
def Z9:jn 0=true:=by kernel_rfl
def Z':jn 1=true:=by kernel_rfl
def aag:jn 2=true:=by kernel_rfl
def aah:jn 3=true:=by kernel_rfl
def aai:jn 4=true:=by kernel_rfl
def aaj:jn 5=true:=by kernel_rfl
def aak:jn 6=true:=by kernel_rfl
def aal:jn 7=true:=by kernel_rfl
def aam:jn 8=true:=by kernel_rfl
def aan:jn 9=true:=by kernel_rfl
def aaa:jn 10=true:=by kernel_rfl
def aab:jn 11=true:=by kernel_rfl
def aac:jn 12=true:=by kernel_rfl
def aad:jn 13=true:=by kernel_rfl
def aae:jn 14=true:=by kernel_rfl
def aaf:jn 15=true:=by kernel_rfl
def Z8:∀i,i<16->jn i=true:=by
 intro i h
 match i,h with
 |0,_=>exact Z9
 |1,_=>exact Z'
 |2,_=>exact aag
 |3,_=>exact aah
 |4,_=>exact aai
 |5,_=>exact aaj
 |6,_=>exact aak
 |7,_=>exact aal
 |8,_=>exact aam
 |9,_=>exact aan
 |10,_=>exact aaa
 |11,_=>exact aab
 |12,_=>exact aac
 |13,_=>exact aad
 |14,_=>exact aae
 |15,_=>exact aaf
 |n+16,d=>exact absurd d co
def Z7(k:Nat)(h:k<1728):wY (mP k)=true:=by
 have d:=Z8 (k / 108) co;have j:=fa.1 d (k%108) (List.mem_range.2 (Nat.mod_lt _ co))
 rwa[Nat.div_add_mod]at j
def LL:List BL:=[[],[97],[65],[115,101,118,101,110,116,101,101,110,45,108,101,116,116,101,114,115],[97,45,49],[45],[40],[122,122],[97,98],[98],[0],[97,97],[99],[100],[109],[110],[115],[116],[105],[122]]
def ZN:LL.all wY=true:=by kernel_rfl
def CX(t:ByteArray):Prop:=bl t∈LL\/∃d,t=ba (mP d)
def acE{t:ByteArray}(h:CX t):wY (bl t)=true:=by
 rcases h with h|⟨d,rfl⟩
 .exact fa.1 ZN _ h
 .rw [gC,Vx];exact Z7 (d%1728) (Nat.mod_lt _ co)
def GA{t:ByteArray}(h:CX t):zn t/\zg t/\t.size<=100:=by
 have k:=acE h;unfold wY at k;simp only[bH]at k;obtain⟨d,j⟩:=k;have j:=Nat.le_of_ble_eq_true j;rw[dQ]at j;refine⟨⟨co,?_⟩,Rp t,j⟩;cases q:uk (bl t)with
 |none=>rw[q]at d;cases d
 |some b=>
  rw[q]at d;have d:=eq_of_beq d;unfold oZ;rw[d]
def Cl(x:Int):aX (ah .i64 x):=by rw[IntKind.wrap_i64];omega
structure MdV(d:Nx):Prop extends MdN d where
 nv:d.op≠0
def mZ(w:J)(r:Ending)(Y:J):Prop:=∃d:Nd,r=ae d.v/\MdV d.x/\d.P Y/\∀b∈ax d.ks,w.heap.size<=b
def ab1{op n m u:Int}{d:ByteArray}{st:bA}{ks:List Int}(h:MdV ⟨op,[],n,m,u,d,st⟩)(j:ks.length<=3):MdV ⟨op,ks,n,m,u,d,st⟩:=⟨⟨h.GI,h.GJ,j,h.n,h.m,h.u,h.tx,h.re⟩,h.nv⟩
def aaY(op:Int):-1<=dk op/\dk op<=3:=by unfold dk;repeat' split<;>omega
section
variable {w:J} {s:Sl} {l:List Nd} {n1 m2 k3:Int} {b8 lB:Nat}
def acs(hm:aX m2)(C:aX k3)(hl:l.length<=fA){op n m u:Int}{G:ByteArray}{st:bA}(hd:MdV ⟨op,[],n,m,u,G,st⟩)(many:Nat)(ao:many<=3)(x:Int)(ab:-1<=x)(ac:x<(l.length:Int)):
  ∀(d i:Nat) (sl:Sl) (ks:List Int) (E:J),i+d=many->ks.length=i->(∀O∈ks,0<=O/\O<(l.length:Int))->LH F0 w E [.g b8,.g lB,sG sl ks] [.gr s l]->
   jq.lA s m2 k3 b8 0 ⟨none,0,0⟩ 0 0 0 (bh #[]) 0 0 0 lB op sl n m u G st.k st.n st.x x (many:Int) (i:Int) E λr A=>mZ w r A/\af w A:=by
 intro d;unfold fA at hl;induction d with
 |zero=>
  intro i sl ks E hi hlen Y B;refine jq.oS _ _ _ _ _ _ _ _ _ _ _ _ _ _ _ _ _ _ _ _ _ _ _ _ _ _ _ _ (aP (aV co) (B.ai λH y=>⟨⟨⟨⟨op,ks,n,m,u,G,st⟩,sl⟩,rfl,ab1 hd co,AX (y.get 2),λb W=>(y.new _ (aG (i:=2) rfl) b W).resolve_right id⟩,y.fr⟩))
 |succ d ih=>
  intro i sl ks E hi hlen Y B;have U:∀(D:Int) (H:J) (L:List En),-1<=D->D<(l.length:Int)->LH F0 w H [.g b8,.g lB,sG sl ks] [.gr s l]->jq.nR s m2 k3 b8 0 ⟨none,0,0⟩ 0 0 0 (bh #[]) 0 0 0 lB op sl n m u G st.k st.n st.x x (many:Int) (i:Int) D H λr A=>mZ w r A/\af w A:=by
   intro D H L h1 h2 y;refine aE (λh0=>y.ai λQ z=>⟨⟨⟨⟨-1,[],0,0,0,ba [],dq⟩,⟨none,0,0⟩⟩,rfl,⟨⟨md,md,md,md,md,md,λ_=>md,λae=>by cases ae⟩,md⟩,Rd.nil Q,λb W=>by cases W⟩,z.fr⟩) (λh0=>?_);refine y.jh 2 iy rfl (λs' Q z=>?_) (by have:=AW (y.get 2);omega);have ad:LH F0 w Q [.g b8,.g lB,sG s' (ks++[D])] [.gr s l]:=by rw[sG,List.map_append];exact z
   refine ad.ai λh q=>?_;rw[bb _ co];refine ih (i+1) s' (ks++[D]) h co (by simp[hlen]) (λO C=>?_) q;rcases aW.1 C with C|C
   .exact Y O C
   .simp only[aq,aL,aR]at C;omega
  refine jq.oS _ _ _ _ _ _ _ _ _ _ _ _ _ _ _ _ _ _ _ _ _ _ _ _ _ _ _ _ (aM (aQ co) (aE (λag=>aE (λak=>?_) (λak=>U x E [] ab ac B)) (λag=>U x E [] ab ac B)));obtain⟨S,rfl⟩:∃S:Nat,x=(S:Int):=⟨x.toNat,co⟩;refine B.aA (YH (ct.1 (B.getD 0)) op S (i:Int) m2 co hm) ?_;rintro _ H ⟨t,rfl⟩ y;refine⟨_,_,_,rfl,y.aK λZ Q z=>?_⟩;have T:∀(t:bA) (h:J),LH F0 w h [.g b8,.g lB,sG sl ks,.g Z] [.gr s l]->jq.hW s m2 k3 b8 0 ⟨none,0,0⟩ 0 0 0 (bh #[]) 0 0 0 lB op sl n m u G st.k st.n st.x (S:Int) (many:Int) (i:Int) Z t.k t.n t.x h λr A=>mZ w r A/\af w A:=by intro t h q;have e5:ah .i64 (5 *(i:Int))=5 *(i:Int):=aN _ co;have e6:ah .i64 (1+5 *(i:Int))=1+5 *(i:Int):=aN _ co;refine⟨by rw[e5,e6];omega,q.ai λw5 I=>I.aA (DC (ct.1 (I.getD 0)) t _ (Cl _) (by unfold fA;exact hl)) ?_⟩;rintro _ w6 ⟨an,rfl,al,am⟩ H6;exact⟨_,rfl,U an w6 [] al am (H6.take 3)⟩
  refine aO (λho=>aO (λh2=>?_) (λh2=>z.ai λh q=>T t h q)) (λho=>z.ai λh q=>T t h q);have hn:=AW (z.get 2);have M:ks[1]? =some (ks[1]'co):=a' co;have aj:=Y _ (aG M);generalize ks[1]'co=kk at M aj;refine⟨co,co,(AX (z.get 2)).cell M (j:=a5 1 *1) rfl λp hp _=>z.ai λh q=>?_⟩;have aa:l[kk.toNat]? =some (l[kk.toNat]'co):=a' co;generalize l[kk.toNat]'co=e at aa;have F:h.cell? (p.add (a5 1 *1))=some (.int .i64 kk):=by have:=(AX (q.get 2)).cell M (j:=a5 1 *1) rfl (K:=λP=>∃q',sl.a=some q'/\h.cell? (q'.add (a5 1 *1))=some (.int .i64 kk)) (λP N F=>⟨P,N,F⟩);rw[hp]at this;obtain⟨P,N,F⟩:=this;cases N;exact F
  exact⟨kk,F,iD (ct.1 (q.getD 0)) (i:=kk.toNat) co aa λP N c=>⟨_,_,_,c.s0,c.s1,c.s2,q.ai λw5 I=>T e.x.st w5 I⟩⟩
def acu(Z:aX n1)(T:aX m2)(S:aX k3)(E:l.length<=fA){op n m u:Int}{q:ByteArray}{st:bA}(P:MdV ⟨op,[],n,m,u,q,st⟩)(x:Int)(aa:0<=x)(U:x<(l.length:Int))(K:J)(H:LH F0 w K [.g b8,.g lB] [.gr s l]):
  jq.cb s n1 m2 k3 b8 0 ⟨none,0,0⟩ 0 0 0 (bh #[]) 0 0 0 lB op ⟨none,0,0⟩ n m u q st.k st.n st.x x K λr j=>mZ w r j/\af w j:=by
 refine H.aA (Jg op K) ?_;rintro _ A rfl y;have hr:=aaY op;have O:∀(x:Int) (d:J),-1<=x->x<(l.length:Int)->LH F0 w d [.g b8,.g lB] [.gr s l]->jq.fU s m2 k3 b8 0 ⟨none,0,0⟩ 0 0 0 (bh #[]) 0 0 0 lB op ⟨none,0,0⟩ n m u q st.k st.n st.x x (dk op) d λr j=>mZ w r j/\af w j:=by
  intro x d C D z;have h:=z.fN b' 1;by_cases Y:dk op<0
  .refine jq.oS _ _ _ _ _ _ _ _ _ _ _ _ _ _ _ _ _ _ _ _ _ _ _ _ _ _ _ _ (aP (aV co) (h.ai λA y=>⟨⟨⟨⟨op,[],n,m,u,q,st⟩,⟨none,0,0⟩⟩,rfl,P,Rd.nil A,λb Q=>by cases Q⟩,y.fr⟩))
  .have e:dk op=(((dk op).toNat:Nat):Int):=co
   show jq.lA _ _ _ _ _ _ _ _ _ _ _ _ _ _ _ _ _ _ _ _ _ _ _ _ (dk op) 0 _ _;rw[e];exact acs T S E P (dk op).toNat co x C D (dk op).toNat 0 ⟨none,0,0⟩ [] d co rfl ws h
 have N:∀(x:Int) (d:J),-1<=x->x<(l.length:Int)->LH F0 w d [.g b8,.g lB] [.gr s l]->jq.cX s n1 m2 k3 b8 0 ⟨none,0,0⟩ 0 0 0 (bh #[]) 0 0 0 lB op ⟨none,0,0⟩ n m u q st.k st.n st.x x (dk op) d λr j=>mZ w r j/\af w j:=by intro x d C D z;refine aO (λF=>z.aA (fI 8 d) ?_) (λF=>O x d C D z);rintro _ W rfl h;refine⟨_,_,_,rfl,h.aA (DC (ct.1 (h.getD 0)) (bM 8) _ (Cl _) E) ?_⟩;rintro _ L ⟨M,rfl,G,I⟩ B;exact⟨_,rfl,O M L G I B⟩
 refine⟨_,rfl,aO (λF=>y.aA (fI 1 A) ?_) (λF=>N x A co U y)⟩;rintro _ W rfl h;refine⟨_,_,_,rfl,h.aA (DC (ct.1 (h.getD 0)) (bM 1) _ (Cl _) E) ?_⟩;rintro _ L ⟨M,rfl,G,I⟩ B;exact⟨_,rfl,N M L G I B⟩
end
def opsL:List Int:=[4,5,6,7,8,9,10,11,12,13,14,15,16,17,18,19,20,21,22,23,24,25,26,27,28,29,30,31,32,33,34,1,2,3,18,18,16,6,24,25]
def acL{i:Nat}{op:Int}(h:opsL[i]? =some op):1<=op/\op<=34:=by
 have j:(opsL.all λd=>au (1<=d)&&au (d<=34))=true:=md
 have:=fa.1 j op (aG h);simpa using this
def vW:List ByteArray:=[ba [],ba [97],ba [97,98],ba [98],ba [0],ba [97,97]]
def afD{i:Nat}{t:ByteArray}(h:vW[i]? =some t):t.size<=16:=by
 have d:(vW.all λj=>au (j.size<=16))=true:=md
 have:=fa.1 d t (aG h);simpa using this
def Jz{w:J}{s:Sl}{l:List Nd}(h:GP w s l)(aC:1<=l.length)(hl:l.length<=fA)(hv:∀ap∈l,cm ap.x.st=true)(C d B:Int)(hn:aX C)(M:aX d)(hk:aX B):
  aj V OH #[s.v,.i C,.i d,.i B] w λr z=>mZ w r z/\af w z:=by
 have hs:=iU h;refine jq.aD _ _ _ _ w _ ((FC h).aK λL w1 H1=>H1.nw λw2 _ H2=>H2.aA (iF C 40 w2 co hn) ?_);have hr:=ji C 40 co;generalize gA C 40=an at hr;rintro _ w3 rfl H3;obtain⟨j,rfl⟩:∃j:Nat,an=(j:Int):=⟨an.toNat,co⟩;have ae:opsL[j]? =some (opsL[j]'(by show j<40;omega)):=a' _;have ak:=acL ae;generalize opsL[j]'(by show j<40;omega)=op at ae ak;have ac:bq w3 ⟨some (ab w1.heap.size),40,40⟩ opsL:=Dw (T:=b') (H3.ob 1) rfl;refine⟨_,rfl,co,by show(j:Int)<40;omega,ac.cell ae co λp hp P=>⟨op,P,H3.aK λI w4 H4=>H4.ai λw5 H5=>H5.aA (iF _ _ w5 co (Cl _)) ?_⟩⟩;have ax:=ji (ah .i64 (bS C 64)) (s.n:Int) co;generalize gA (ah .i64 (bS C 64)) (s.n:Int)=N at ax;rintro _ G rfl D;have H:∀{n m u:Int} {Y:ByteArray} {st:bA} {A:J},MdV ⟨op,[],n,m,u,Y,st⟩->LH F0 w A [.g L,.g I] [.gr s l]->jq.cb s C d B L 0 ⟨none,0,0⟩ 0 0 0 (bh #[]) 0 0 0 I op ⟨none,0,0⟩ n m u Y st.k st.n st.x N A λr z=>mZ w r z/\af w z:=λhd q=>acu hn M hk hl hd N co co _ q;have D:LH F0 w G [.g L,.g I] [.gr s l]:=D.i4 [true,false,true];have em:bh #[]=ba []:=rfl;have base:∀{n m u:Int} {Y:ByteArray} {st:bA},0<=n/\n<=100->0<=m/\m<=100->0<=u/\u<=1000->(op≠33->Y.size<=16)->(op=33->∃ag,Y=ba (mP ag))->MdV ⟨op,[],n,m,u,Y,st⟩:=λh1 h2 h3 h4 h5=>⟨⟨by show -1<=op;omega,ak.2,ws,h1,h2,h3,h4,h5⟩,by show op≠0;omega⟩;have zz:(0:Int)<=0/\(0:Int)<=100:=md
 have S:(0:Int)<=0/\(0:Int)<=1000:=md
 refine⟨_,rfl,aO (λh1=>?_) (λh1=>aO (λh2=>?_) (λh2=>aO (λh3=>?_) (λh3=>aO (λh4=>?_) (λh4=>?_))))⟩
 .refine D.aA (iF d 3 G co M) ?_;have ar:=ji d 3 co;generalize gA d 3=v at ar;rintro _ A rfl q;refine⟨_,rfl,?_⟩;have S1:∀(F:Int),1<=F->F<=7->jq.bW s C d B L 0 ⟨none,0,0⟩ 0 0 0 (bh #[]) 0 0 0 I op ⟨none,0,0⟩ 0 0 0 (bh #[]) 0 0 0 N F A λr z=>mZ w r z/\af w z:=by
   intro F h5 h6;refine q.aA (fI F A) ?_;rintro _ E rfl y;have P:∃c:Nat,(if 3<F then(3:Int)else F)=(c:Int)/\1<=c/\c<=3:=⟨(if 3<F then(3:Int)else F).toNat,by split<;>omega,by split<;>omega,by split<;>omega⟩;obtain⟨c,P,az,aB⟩:=P;rw[P];have ec:ah .u64 (c:Int)=(c:Int):=IntWalk.u64_in _ co;rw[ec];have ep:∃Q:Int,ah .i64 (1 *2^min (a5 (c:Int)) (IntKind.bits .i64))=Q/\1<=Q/\Q<=8:=by
    have:c=1\/c=2\/c=3:=co
    rcases this with rfl|rfl|rfl
    .exact ⟨2,md,md,md⟩
    .exact ⟨4,md,md,md⟩
    .exact ⟨8,md,md,md⟩
   obtain⟨Q,eq,q1,q2⟩:=ep;rw[eq];refine⟨_,_,_,rfl,co,y.ai λZ O=>O.aA (iF B Q Z co hk) ?_⟩;have aw:=ji B Q co;generalize gA B Q=a at aw;rintro _ ay rfl ad;have ea:ah .u64 a=a:=IntWalk.u64_in _ co;refine⟨_,rfl,ad.ai λaF ao=>?_⟩;rw[ea];exact H (st:=bM F) (base zz zz co (λ_=>md) (λh=>co)) ao
  have U:ah .i64 (1+v)=1+v:=aN _ co;show jq.bD s C d B L 0 ⟨none,0,0⟩ 0 0 0 _ 0 0 0 I op ⟨none,0,0⟩ 0 0 0 _ 0 0 0 N (ah .i64 (1+v)) A _;rw[U];exact aO (λ_=>S1 7 md md) (λ_=>S1 _ co co)
 .refine D.nw λA _ q=>q.aA (iF d 6 A co M) ?_;have au:=ji d 6 co;generalize gA d 6=v at au;rintro _ E rfl y;obtain⟨i,rfl⟩:∃i:Nat,v=(i:Int):=⟨v.toNat,co⟩;have W:vW[i]? =some (vW[i]'(by show i<6;omega)):=a' _;have am:=afD W;generalize vW[i]'(by show i<6;omega)=t at W am;have ac:Rd E ⟨some (ab G.heap.size),6,6⟩ (vW.map Value.string):=uh (T:=cY) (y.ob 2) rfl;refine⟨_,rfl,co,by show(i:Int)<6;omega,Rd.get ac (i:=i) (v:=.string t) (by simp[W]) co λp hp P=>⟨t,P,y.ai λZ O=>?_⟩⟩;exact H (st:=dq) (base zz zz S (λ_=>am) (λh=>co)) (O.take 2)
 .refine D.nw λA _ q=>q.aA (iF d 2 A co M) ?_;have aa:=ji d 2 co;generalize gA d 2=v at aa;rintro _ E rfl y;obtain⟨i,rfl⟩:∃i:Nat,v=(i:Int):=⟨v.toNat,co⟩;have W:([⟨2,2,1⟩,⟨3,1,1⟩]:List bA)[i]? =some (([⟨2,2,1⟩,⟨3,1,1⟩]:List bA)[i]'(by show i<2;omega)):=a' _;generalize([⟨2,2,1⟩,⟨3,1,1⟩]:List bA)[i]'(by show i<2;omega)=t at W;have ac:bL 3 E ⟨some (ab G.heap.size),2,2⟩ (([⟨2,2,1⟩,⟨3,1,1⟩]:List bA).flatMap gP):=wP (T:=cA) (y.ob 2) rfl;obtain⟨g1,g2,g3⟩:=eL ac rfl W (K:=λp=>M3 E (p.add (a5 (i:Int) *3)) λa b c=>loc [L,I] E λZ=>jq.cb s C d B L 0 ⟨none,0,0⟩ 0 0 0 (bh #[]) 0 0 0 I op ⟨none,0,0⟩ 0 0 0 (bh #[]) a b c N Z λr z=>mZ w r z/\af w z) (λp hp c=>⟨_,_,_,c.c0,c.c1,c.c2,y.ai λZ O=>H (st:=t) (base zz zz S (λ_=>md) (λh=>co)) (O.take 2)⟩);exact⟨_,rfl,g1,g2,g3⟩
 .obtain ⟨xn,rfl⟩:∃xn:Nat,N=(xn:Int):=⟨N.toNat,co⟩;have hg:l[xn]? =some (l[xn]'co):=a' co;generalize l[xn]'co=e at hg;have aE:=mR (hv e (aG hg));refine iD (ct.1 (D.getD 0)) rfl hg λp hp c=>⟨_,c.s1,D.aA (iF d _ G (by split<;>omega) M) ?_⟩;have al:=ji d (if 1<e.x.st.n then e.x.st.n else 1) (by split<;>omega);generalize gA d (if 1<e.x.st.n then e.x.st.n else 1)=a at al;have ha:a<64:=by have:=al.2;split at this<;>omega
  rintro _ A rfl q;have U:ah .i64 (a+1)=a+1:=aN _ co;refine⟨_,rfl,q.ai λE y=>y.aA (iF B _ E (by rw[U];omega) hk) ?_⟩;rw[U];have av:=ji B (a+1) co;generalize gA B (a+1)=b at av;rintro _ Z rfl O;exact⟨_,rfl,O.ai λay ad=>H (st:=dq) (base co co S (λ_=>md) (λh=>co)) ad⟩
 have S8:op≠33->jq.rH s C d B L 0 ⟨none,0,0⟩ 0 0 0 (bh #[]) 0 0 0 I op ⟨none,0,0⟩ 0 0 0 (bh #[]) 0 0 0 N G λr z=>mZ w r z/\af w z:=by intro aq;refine D.aA (iF d 2 G co M) ?_;have aa:=ji d 2 co;generalize gA d 2=v at aa;rintro _ A rfl q;have U:ah .i64 (1+v)=1+v:=aN _ co;refine⟨_,rfl,q.ai λE y=>?_⟩;rw[U];exact H (st:=dq) (base co zz S (λ_=>md) (λh=>absurd h aq)) y
 refine aO (λh5=>aM (beq_iff_eq.2 h5) (S8 co)) (λh5=>aO (λh6=>S8 co) (λh6=>aO (λh7=>?_) (λh7=>aO (λh8=>D.aA (X4 d M G) ?_) (λh8=>H (st:=dq) (base zz zz S (λ_=>md) (λh=>absurd h h8)) D))))
 .refine D.aA (iF d 3 G co M) ?_;have aa:=ji d 3 co;generalize gA d 3=v at aa;rintro _ A rfl q;exact⟨_,rfl,q.ai λE y=>H (st:=dq) (base co zz S (λ_=>md) (λh=>co)) y⟩
 .rintro _ A ⟨ag,rfl⟩ q;exact⟨_,rfl,q.ai λE y=>H (st:=dq) (base zz zz S (λh=>absurd h8 h) (λ_=>⟨ag,rfl⟩)) y⟩
def MdN.ok{d:Nx}(h:MdN d):p9 d:=by
 refine⟨by have:=h.kl;unfold fA;omega,?_,?_,λj=>?_⟩
 .have:=h.n;exact⟨co,co⟩
 .have:=h.m;exact⟨co,co⟩
 .exact (GA (.inr (h.re j))).1
def iL.ok{g:List Nx}(h:iL g)(d:g.length<=fA):y' g:=⟨d,h.vg.val,h.vg.vars⟩
def WS(g:List Nx)(n:Nx):(hD g n).1.length<=g.length+1:=by
 unfold hD;split
 .simp
 .split
  .simp
  .split
   .simp
   .simp
def Df{g:List Nx}{n:Nx}(h:(hD g n).2.2=0):(cI g n).2=0/\∃k:Nat,(hD g n).2.1=(k:Int)/\(hD g n).1[k]? =some (hc n (cI g n).1)/\((hD g n).1=g\/(hc n (cI g n).1∉g/\(hD g n).1=g++[hc n (cI g n).1]/\k=g.length)):=by
 unfold hD at h ⊢;split at h
 .rename_i d;exact absurd h d
 rename_i d;have d:(cI g n).2=0:=co
 refine⟨d,?_⟩;rw[ag co];cases j:h4 (hc n (cI g n).1) g 0 with
 |some i=>
  have:=Af j;rw[Nat.sub_zero]at this;exact⟨i,rfl,this.2,.inl rfl⟩
 |none=>
  rw[j]at h;dsimp only at h ⊢;split at h
  .cases h
  .rename_i q;rw[ag q];exact⟨g.length,rfl,ws,.inr ⟨E9 j,rfl,rfl⟩⟩
def WV{g:List Nx}{n:Nx}(j:Vg g)(h:(hD g n).2.2=0):Vg (hD g n).1:=by
 obtain⟨k,x,_,_,d⟩:=Df h;rcases d with d|⟨q,w,_⟩
 .rw [d];exact j
 .rw [w];exact .snoc j (M8 (by rw[<-k])) q
def WT{g:List Nx}{n:Nx}(q:iL g)(j:MdN n)(h:(hD g n).2.2=0):iL (hD g n).1:=by
 refine⟨WV q.vg h,λw d=>?_⟩;obtain⟨y,A,_,_,k⟩:=Df h;rcases k with k|⟨z,x,_⟩
 .rw [k]at d;exact q.nd w d
 .rw [x]at d;rcases aW.1 d with d|d
  .exact q.nd w d
  .simp only[aq,aL,aR]at d;subst d;exact⟨j.GI,j.GJ,j.kl,j.n,j.m,j.u,j.tx,j.re⟩
def iL.kl{l:List Nd}(h:iL (xs l)):∀e∈l,e.x.kids.length<=fA:=λe d=>by have:=(h.nd e.x (bK.2 ⟨e,d,rfl⟩)).kl;unfold fA;omega
def tM(w:J)(kind:Int)(cy:Nat)(r:Ending)(Y:J):Prop:=∃(s:Sl) (l:List Nd),r=ae s.v/\iL (xs l)/\1<=l.length/\l.length<=10+cy/\GP Y s l/\(∀b∈(En.gr s l).fp,w.heap.size<=b)/\∀d∈xs l,d.op=0->d∈xs (gR kind)
def WU{g:List Nx}{n e:Nx}(j:n.op≠0)(d:e∈(hD g n).1)(h:e.op=0):e∈g:=by
 unfold hD at d;split at d
 .cases d
 .split at d
  .exact d
  .split at d
   .cases d
   .rcases aW.1 d with d|d
    .exact d
    .rw [bY.1 d]at h;exact absurd h j
def Wv(w:J)(cy:Nat)(r:Ending)(Y:J):Prop:=∃(s:Sl) (l:List Nd),r=ae s.v/\iL (xs l)/\1<=l.length/\l.length<=10+cy/\GP Y s l/\∀b∈(En.gr s l).fp,w.heap.size<=b
def XU{w:J}{ls:Sl}{h:List Int}(hr:bq w ls h)(ab:∀x∈h,aX x)(a2:h.length<=9223372036854775807)(kind:Int)(cy:Nat)(hm:cy<=1000):
  aj V F2 #[ls.v,.i kind,.i (cy:Int)] w λr z=>tM w kind cy r z/\af w z:=by
 have hn:=bq.len hr;have loop:∀(m i:Nat) (y:Sl) (l:List Nd) (S:J),i+m=cy->iL (xs l)->(∀d∈xs l,d.op=0->d∈xs (gR kind))->1<=l.length->l.length<=10+i->(∀b∈(En.gr y l).fp,w.heap.size<=b)->LH F0 w S [] [.rd ls (h.map aY),.gr y l]->
   n9.a8 ls kind (cy:Int) y ((3 *i:Nat):Int) S λr z=>tM w kind cy r z/\af w z:=by
  intro m;have e3:ah .i64 (3 *(cy:Int))=3 *(cy:Int):=aN _ co;induction m with
  |zero=>
   intro i y l S hi C Q M h2 O H;have fin:n9.cX y S λr z=>tM w kind cy r z/\af w z:=⟨⟨y,l,rfl,C,M,co,ct.1 (H.getD 1),O,Q⟩,H.fr⟩;exact n9.bJ _ _ _ _ _ _ _ (aE (λ_=>aP (aV (by rw[e3];omega)) fin) (λ_=>fin))
  |succ m ih=>
   intro i y l S hi C Q M h2 O H;have fin:n9.cX y S λr z=>tM w kind cy r z/\af w z:=⟨⟨y,l,rfl,C,M,co,ct.1 (H.getD 1),O,Q⟩,H.fr⟩;have aT:ah .i64 (((3 *i:Nat):Int)+1)=((3 *i+1:Nat):Int):=aN _ co;have aU:ah .i64 (((3 *i:Nat):Int)+2)=((3 *i+2:Nat):Int):=aN _ co;have aW:ah .i64 (((3 *i:Nat):Int)+3)=((3 *(i+1):Nat):Int):=aN _ co;have next:∀(aa:Sl) (q:List Nd) (D:J),iL (xs q)->(∀d∈xs q,d.op=0->d∈xs (gR kind))->1<=q.length->q.length<=10+(i+1)->(∀b∈(En.gr aa q).fp,w.heap.size<=b)->LH F0 w D [] [.rd ls (h.map aY),.gr aa q]->n9.cb ls kind (cy:Int) aa ((3 *i:Nat):Int) D λr z=>tM w kind cy r z/\af w z:=by intro aa q D W gv Y g3 g4 F;show n9.a8 ls kind (cy:Int) aa (ah .i64 (((3 *i:Nat):Int)+3)) D _;rw[aW];exact ih (i+1) aa q D co W gv Y g3 g4 F
   have S1:∀(T:Nat) (d:Nd) (I:J) (L:List En),En.g T∈L->MdV d.x->d.P I->(∀b∈ax d.ks,w.heap.size<=b)->LH F0 w I L [.rd ls (h.map aY),.gr y l,dp d]->n9.bW ls kind (cy:Int) y ((3 *i:Nat):Int) T d.x.op d.ks d.x.n d.x.m d.x.u d.x.tx d.x.st.k d.x.st.n d.x.st.x I λr z=>tM w kind cy r z/\af w z:=by
    intro T d I L aZ A pd U E;have aS:(xs l).length=l.length:=by simp[xs]
    have E:LH F0 w I [] [.rd ls (h.map aY),.gr y l,dp d]:=E.take 0;refine hF ((Yt (ct.1 (E.getD 1)) pd (C.ok (by rw[aS];unfold fA;omega)) A.toMdN.ok C.kl).mono ?_);rintro _ w4 ⟨⟨s',rfl,⟨q,ad,G',F'⟩⟩,f4⟩;have ae:∀b∈(En.gr s' q).fp,w.heap.size<=b:=λb G=>by
     rcases F' b G with(B|B)|B
     .exact O b B
     .exact gq U b B
     .exact bz E.fr.size B
    have Z:=E.br f4;have ap:LH F0 w w4 [] [.rd ls (h.map aY),.gr s' q]:=(E.gz (.gr s' q) f4 (ct.2 G') (λb G=>by
     rcases F' b G with(B|B)|B
     .exact .inr (.inr ⟨_,aG (i:=1) rfl,B⟩)
     .exact .inr (.inr ⟨_,aG (i:=2) rfl,B⟩)
     .exact .inl B)).forget _ ws
    have ar:∀{w6:J},LH F0 w w6 [] [.rd ls (h.map aY),.gr y l,dp d]->LH F0 w w6 [] [.rd ls (h.map aY),.gr y l]:=λH=>H.forget _ ws;refine⟨f4,_,_,_,rfl,aO (λh0=>?_) (λh0=>next y l w4 C Q M co O (ar Z))⟩;obtain⟨_,N,aA,av,_⟩:=Df h0;have an:iL (xs q):=by rw[ad];exact WT C A.toMdN h0
    have aJ:∀e∈xs q,e.op=0->e∈xs (gR kind):=λe he B=>by rw[ad]at he;exact Q e (WU A.nv he B) B
    have aC:q.length<=10+(i+1):=by have:=WS (xs l) d.x;rw[<-ad]at this;simp only[xs,List.length_map]at this;omega
    rw[<-ad]at av;have ac:N<q.length:=by have:=(cV.1 av).1;simpa[xs]using this
    have am:q[N]? =some (q[N]'ac):=a' ac;generalize q[N]'ac=e at am;rw[aA];refine iD (ct.1 (ap.getD 1)) rfl am λp hp c=>⟨_,_,_,c.s0,c.s1,c.s2,?_⟩;refine hF ((YI kind e.x.st w4).mono ?_);rintro _ D ⟨⟨b,rfl⟩,f5⟩;have F:=ap.br f5;have ag:=ar (Z.br f5);refine⟨f5,_,rfl,bP (λ_=>?_) (λ_=>next y l D C Q M co O ag)⟩;refine iD (ct.1 (F.getD 1)) rfl am λp' a3 c'=>⟨_,c'.s1,aE (λ_=>?_) (λ_=>next y l D C Q M co O ag)⟩;have aB:∀(i:Nat) (d:Nd),q[i]? =some d->d.x.kids.length<=1000000/\∀N∈d.x.kids,0<=N/\N<(i:Int):=λi d A=>by have au:=y4 A;have:=(an.nd d.x (aG au)).kl;exact⟨co,an.vg.kids au⟩
    refine hF ((JL (ct.1 (F.getD 1)) aB (N+1) N co ac D (Fr.refl _ _)).mono ?_);rintro _ w6 ⟨⟨a4,rfl⟩,f6⟩;have f6:af D w6:=f6;exact⟨f6,_,rfl,aE (λ_=>next s' q w6 an aJ co aC ae (F.br f6)) (λ_=>next y l w6 C Q M co O (ag.br f6))⟩
   refine n9.bJ _ _ _ _ _ _ _ ?_;rw[aT,aU,e3];refine aE (λa1=>aM (aQ co) (H.dr λw2 H2=>?_)) (λ_=>fin);have al:bq w2 ls h:=H2.getD 0;have g0:h[3 *i]? =some (h[3 *i]'co):=a' co;have W:h[3 *i+1]? =some (h[3 *i+1]'co):=a' co;have Y:h[3 *i+2]? =some (h[3 *i+2]'co):=a' co;generalize h[3 *i]'co=x0 at g0;generalize h[3 *i+1]'co=x1 at W;generalize h[3 *i+2]'co=x2 at Y;refine⟨co,co,al.cell g0 co λp0 aF c0=>⟨x0,c0,co,co,al.cell W co λp1 aH c1=>⟨x1,c1,co,co,al.cell Y co λp2 aI c2=>⟨x2,c2,?_,?_⟩⟩⟩⟩
   .have ak:=Jz (ct.1 (H2.getD 1)) M (by unfold fA;omega) (λd A=>C.vg.val d.x (bK.2 ⟨d,A,rfl⟩)) x0 x1 x2 (ab _ (aG g0)) (ab _ (aG W)) (ab _ (aG Y));refine H2.zJ ak ?_;rintro _ I ⟨d,rfl,A,pd,U⟩ _ F3;have E:=F3.rd (dp d) pd (gq U);refine⟨_,_,_,_,_,_,_,_,_,rfl,E.aK λT w4 Z=>Z.ai λD F=>?_⟩;exact S1 T d D _ ws A (F.getD 2) (λb G=>bz H2.fr.size (U b G)) F
   .refine H2.aK λT I E=>?_;have az:bq I ls h:=E.getD 0;have again:∀{j:Nat} {x:Int} {p:Addr} {X:Nat},h[j]? =some x->ls.a=some p->X=j *1->I.cell? (p.add X)=some (.int .i64 x):=by intro j x p X C hp hX;have:=az.cell C hX (K:=λao=>∃q',ls.a=some q'/\I.cell? (q'.add X)=some (.int .i64 x)) (λao hq hc=>⟨ao,hq,hc⟩);rw[hp]at this;obtain⟨ao,hq,hc⟩:=this;cases hq;exact hc
    have ak:=Jz (ct.1 (E.getD 1)) M (by unfold fA;omega) (λd A=>C.vg.val d.x (bK.2 ⟨d,A,rfl⟩)) x0 x1 x2 (ab _ (aG g0)) (ab _ (aG W)) (ab _ (aG Y));refine⟨again Y aI co,again W aH co,again g0 aF co,E.kc ak ?_⟩;rintro _ w4 ⟨d,rfl,A,pd,U⟩ _ F4;have Z:=F4.rd (dp d) pd (gq U);refine⟨_,_,_,_,_,_,_,_,_,rfl,Z.ai λD F=>?_⟩;exact S1 T d D _ ws A (F.getD 2) (λb G=>bz E.fr.size (U b G)) F
 refine n9.aD _ _ _ w _ ((YE kind w).mono ?_);rintro _ S ⟨⟨s,rfl,⟨l,hl,ay,aw⟩⟩,f1⟩;have hlen:=aeR kind;have a0:l.length=(gR kind).length:=by have:=congrArg List.length hl;simpa[xs]using this
 have ae:∀b∈(En.gr s l).fp,w.heap.size<=b:=λb G=>(aw b G).resolve_left id;have H:LH F0 w w [] [.rd ls (h.map aY)]:=bN _ (by intro e he;simp only[aq,aL,aR]at he;subst he;exact hr)
 have H1:=H.gz (.gr s l) f1 (ct.2 ay) (λb G=>.inl (ae b G));exact⟨s,rfl,loop cy 0 s l S co (by rw[hl];exact aeS kind) (λd A _=>hl▸A) co co ae H1⟩
def XT{w:J}{ls:Sl}{d:List Int}(D:bq w ls d)(C:∀E∈d,aX E)(B:d.length<=9223372036854775807)(kind:Int)(cy:Nat)(A:cy<=1000):
  aj V F2 #[ls.v,.i kind,.i (cy:Int)] w λr h=>Wv w cy r h/\af w h:=
 (XU D C B kind cy A).mono λ_ _ ⟨⟨s,l,j,k,q,x,y,z,_⟩,f⟩=>⟨⟨s,l,j,k,q,x,y,z⟩,f⟩
structure tU(c:Nat)(d:Nx):Prop where
 kl:d.kids.length<=c
 n:aX d.n
 m:aX d.m
 u:0<=d.u
 tx:d.op=33->CX d.tx
def MdN.sp{d:Nx}(h:MdN d):tU 3 d:=⟨h.kl,⟨by have:=h.n;omega,by have:=h.n;omega⟩,⟨by have:=h.m;omega,by have:=h.m;omega⟩,h.u.1,λj=>.inr (h.re j)⟩
def tU.Rn{c:Nat}{d:Nx}(h:tU c d)(k:c<=100):p9 d:=⟨by have:=h.kl;unfold fA;omega,h.n,h.m,λj=>(GA (h.tx j)).1⟩
def tU.tok{c:Nat}{d:Nx}(h:tU c d)(k:c<=100):nT d:=⟨by have:=h.kl;omega,h.n,h.m,h.u,λj=>(GA (h.tx j)).2.1⟩
structure tI(c:Nat)(d:Nx):Prop where
 sp:tU c d
 wd:fV d
 tl:d.tx.size<=1000
def tI.small{c:Nat}{d:Nx}(h:tI c d)(j:c<=100):(ep d).length<=1000000:=acq h.wd (by have:=h.sp.kl;omega) h.tl
def iL.gd{g:List Nx}(h:iL g)(H:g.length<=1000):∀j∈g,tI 3 j:=by
 intro j k;have d:=h.nd j k;obtain⟨i,y⟩:=hO.1 k;have G:=(cV.1 y).1;have q:=h.vg.kids y;have K:=Io.1 (h.vg.val j k);have I:j.tx.size<=100:=by
  by_cases x:j.op=33
  .obtain ⟨w,q⟩:=d.re x;rw[q,bQ];have:=Vz w;omega
  .have:=d.tx x;omega
 have A:=d.GI;have B:=d.GJ;have C:=d.kl;have D:=d.n;have E:=d.m;have F:=d.u;exact⟨d.sp,⟨⟨co,co⟩,λw z=>by have:=q w z;exact⟨co,co⟩,co,⟨co,co⟩,⟨co,co⟩,⟨co,co⟩,co,⟨co,co⟩,⟨co,co⟩,⟨co,co⟩⟩,co⟩
structure Lx where
 m:Lm
 gl:List Nd
 hy:List Int
 cl:List Int
 ds:List Sp
abbrev Lm.v(x:Lm):aa:=.agg #[x.g.v,x.h.v,x.c.v,x.s.v]
def zc(w:J)(x:Lx):Prop:=GP w x.m.g x.gl/\bq w x.m.h x.hy/\bq w x.m.c x.cl/\fB w x.m.s x.ds
def eb(x:Lx):En:=.all [.gr x.m.g x.gl,.rd x.m.h (x.hy.map aY),.rd x.m.c (x.cl.map aY),.sp x.m.s x.ds]
def pe{w:J}{x:Lx}:(eb x).P w↔zc w x:=by
 constructor
 .intro d;exact⟨ct.1 (d (.gr x.m.g x.gl) ws),d (.rd x.m.h (x.hy.map aY)) ws,d (.rd x.m.c (x.cl.map aY)) ws,eA.1 (d (.sp x.m.s x.ds) ws)⟩
 .rintro ⟨k,q,y,z⟩ e j;simp only[aq,aL,aR]at j;rcases j with rfl|rfl|rfl|rfl
  .exact ct.2 k
  .exact q
  .exact y
  .exact eA.2 z
def nM(n:Nat)(l:List Int):Prop:=l.length<=n/\∀d∈l,aX d
def nM.le{n m:Nat}{l:List Int}(h:nM n l)(d:n<=m):nM m l:=⟨bz h.1 d,h.2⟩
structure fC(n:Nat)(s:bO):Prop where
 k:aX s.kind/\aX s.node/\aX s.df
 p:nM n s.params
 l:nM n s.bR
 h:nM n s.hints
 t:s.nm.size<=n
def fC.le{n m:Nat}{s:bO}(h:fC n s)(d:n<=m):fC m s:=⟨h.k,h.p.le d,h.l.le d,h.h.le d,bz h.t d⟩
def kH(n:Nat)(l:List Sp):Prop:=l.length<=n/\∀d∈l,fC n d.x
def kH.le{n m:Nat}{l:List Sp}(h:kH n l)(d:n<=m):kH m l:=⟨bz h.1 d,λj k=>(h.2 j k).le d⟩
structure hC(n:Nat)(x:Lx):Prop where
 g:x.gl.length<=n/\∀d∈xs x.gl,tI 3 d
 h:nM n x.hy
 c:nM n x.cl
 s:kH n x.ds
def hC.le{n m:Nat}{x:Lx}(h:hC n x)(d:n<=m):hC m x:=⟨⟨bz h.g.1 d,h.g.2⟩,h.h.le d,h.c.le d,h.s.le d⟩
def fC.BI{d:Sp}(h:fC 100 d.x):mq d:=⟨by have:=h.p.1;omega,by have:=h.l.1;omega,by have:=h.h.1;omega⟩
structure rD(x:Lx):Prop where
 g:∀d∈x.gl,nT d.x/\fV d.x
 h:x.hy.length<=100000
 c:x.cl.length<=100000
 s:x.ds.length<=100000
 d:∀d∈x.ds,mq d
def iW:List bO->Int->Int
 |[],_=>0
 |s::r,i=>if s.kind=4 then 12 else if eM s i 0≠0 then eM s i 0 else iW r (i+1)
def abO{s:bO}{r:List bO}{i:Int}(h:s.kind=4):iW (s::r) i=12:=by
 conv=>lhs;unfold iW
 rw[av h]
def abP{s:bO}{r:List bO}{i:Int}(h:s.kind≠4)(d:eM s i 0≠0):iW (s::r) i=eM s i 0:=by
 conv=>lhs;unfold iW
 rw[ag h,av d]
def Ns{s:bO}{r:List bO}{i:Int}(h:s.kind≠4)(d:eM s i 0=0):iW (s::r) i=iW r (i+1):=by
 conv=>lhs;unfold iW
 rw[ag h,ag co]
def qv(n:Nat)(l:List Int):Bool:=l.all λd=>au (0<=d)&&au (d<(n:Int))
def gI(x:Lx):Int:=if hB (xs x.gl)≠0 then hB (xs x.gl)else if qv x.gl.length x.hy then if gh x.cl≠0 then gh x.cl else iW (bx x.ds) 0 else 7
section
variable {w0:J} {x:Lx} {E:Int} {D:List En}
def aaB{n:Nat}{l:List Int}{i:Nat}{y:Int}(h:l[i]? =some y):qv n (l.drop i)=(au (0<=y)&&au (y<(n:Int))&&qv n (l.drop (i+1))):=by rw[uB h];rfl
def aaU{s:Sl}{l:List Sp}(S:l.length<=100000)(N:∀q∈l,mq q)(A:En.sp s l∈D):∀(k i:Nat) (w:J) (L:List En),i+k=l.length->LH F0 w0 w L D->E=iW ((bx l).drop i) (i:Int)->
  qH.iv s (s.n:Int) (i:Int) w (iM w0 E):=by
 intro k;induction k with
 |zero=>
  intro i w L K j e;have M:=(eA.1 (j.rd _ A)).n;rw[List.drop_of_length_le (by simp;omega)]at e;exact qH.kI _ _ _ _ _ (aP (aV co) ⟨by rw[e];rfl,j.fr⟩)
 |succ k O=>
  intro i w L K j e;have G:=eA.1 (j.rd _ A);have M:=G.n;have y:l[i]? =some l[i]:=a' co;generalize l[i]=q at y;have H:=aG y;rw[BQ y]at e;refine qH.kI _ _ _ _ _ (aM (aQ co) ⟨co,co,G.get y λp h=>?_⟩);rw[bo];refine⟨_,_,_,_,_,_,_,h.c0,h.c1,h.c2,h.c3,h.c4,h.c5,h.c6,j.aK λQ U F=>aO (λx=>F.ai λW I=>⟨by rw[e,abO x],I.fr⟩) λx=>F.ai λT B=>B.aA (MU (d:=q) (N q H) ((eA.1 (B.rd _ A)).2 q H)) ?_⟩;rintro _ P rfl C;refine⟨_,rfl,dA (λz=>⟨by rw[e,abP x z],C.fr⟩) (λz=>?_)⟩;rw[bb _ co];exact O (i+1) P _ co C (by rw[e,Ns x z];rfl)
def aaT{b:Nat}(j:rD x)(B:eb x∈D)(K:E=gI x)(W:hB (xs x.gl)=0):∀(k i:Nat) (w:J) (L:List En),i+k=x.hy.length->En.g b∈L->LH F0 w0 w L D->qv x.gl.length x.hy=qv x.gl.length (x.hy.drop i)->
  qH.a8 b x.m.g x.m.h x.m.c x.m.s x.m.h (x.m.h.n:Int) (i:Int) w (iM w0 E):=by
 have Y:=j.h;intro k;induction k with
 |zero=>
  intro i w L S M q e;have z:=pe.1 (q.rd _ B);have H:=bq.len z.2.1;rw[List.drop_of_length_le co]at e;have e:E=if gh x.cl≠0 then gh x.cl else iW (bx x.ds) 0:=by rw[K];unfold gI;rw[ag co,e];rfl
  refine qH.bJ _ _ _ _ _ _ _ _ _ _ (aP (aV co) (q.aA (MT z.2.2.1 (by have:=j.c;omega)) ?_));rintro _ U rfl G;refine⟨_,rfl,dA (λC=>⟨by rw[e,av C],G.fr⟩) (λC=>?_)⟩;have O:=pe.1 (G.rd _ B);have aa:=O.2.2.2.n;have:=j.s;refine aP (aV co) ?_;have N:=G.kZ (.sp x.m.s x.ds::D) λe F=>?_
  .exact aaU co j.d (D:=.sp x.m.s x.ds::D) ws x.ds.length 0 U _ co N (by rw[e,ag co];rfl)
  .rcases aq.1 F with rfl|F
   .exact ⟨λA=>A (eb x) B (En.sp x.m.s x.ds) ws,λb j=>⟨eb x,B,cB.2 ⟨_,ws,j⟩⟩⟩
   .exact ⟨λA=>A e F,λb j=>⟨e,F,j⟩⟩
 |succ k T=>
  intro i w L S M q e;have z:=pe.1 (q.rd _ B);have H:=bq.len z.2.1;have Z:=iU z.1;have I:x.hy[i]? =some x.hy[i]:=a' co;generalize x.hy[i]=y at I;rw[aaB I]at e;have bad:¬(0<=y/\y<(x.gl.length:Int))->iM w0 E (ae (.i 7)) w:=λH=>by
   refine⟨?_,q.fr⟩;rw[K];unfold gI;rw[ag co,e];have:(au (0<=y)&&au (y<(x.gl.length:Int)))=false:=by
    cases A:(au (0<=y)&&au (y<(x.gl.length:Int)))with
    |false=>rfl
    |true=>simp only[bH,decide_eq_true_eq]at A;exact absurd A H
   rw[this];rfl
  refine qH.bJ _ _ _ _ _ _ _ _ _ _ (aM (aQ co) ⟨co,co,bq.cell z.2.1 I (by rw[bo]) λp _ Q=>⟨y,Q,aE (λC=>bad co) λC=>aE (λP=>bad co) λP=>?_⟩⟩);rw[bb _ co];exact T (i+1) w L co M q (by rw[e,aQ co,aQ co];rfl)
def ab2{l:List Nd}(h:∀d∈xs l,tI 3 d):∀d∈l,(nT d.x/\fV d.x)/\p9 d.x:=λd j=>by have:=h d.x (bK.2 ⟨d,j,rfl⟩);exact⟨⟨this.sp.tok co,this.wd⟩,this.sp.Rn co⟩
def hC.k(d:hC 100 x):rD x:=⟨λj q=>(ab2 d.g.2 j q).1,by have:=d.h.1;omega,by have:=d.c.1;omega,by have:=d.s.1;omega,λj q=>(d.s.2 j q).BI⟩
def aaS(q:rD x){w:J}(h:zc w x)(A:cG.P w):aj V Pt #[x.m.v] w (iM w (gI x)):=by
 refine qH.aD _ _ _ _ w _ ((bN (w:=w) [eb x,cG] (by
  intro e y;simp only[aq,aL,aR]at y;rcases y with rfl|rfl
  .exact pe.2 h
  .exact A)).aK λb C d=>?_)
 have z:=pe.1 (d.rd (eb x) ws);refine d.aA (H2 z.1 (d.rd cG ws) λ_=>q.g) ?_;rintro _ B rfl k;refine⟨_,rfl,dA (λj=>⟨by unfold gI;rw[av j],k.fr⟩) (λj=>?_)⟩;exact aaT q ws rfl j x.hy.length 0 B _ co ws k rfl
end
structure nS(s:bO):Prop where
 k:aX s.kind/\aX s.node/\aX s.df
 p:∀x∈s.params,aX x
 l:∀x∈s.bR,aX x
 h:∀x∈s.hints,aX x
def zY(n:Int):1<=(cd n).length:=z1 _
def xh(l:List Int):l.length+1<=(dS l).length:=by
 have j:=z1 l.length;have d:∀l:List Int,l.length<=(l.flatMap cd).length:=λl=>by
  induction l with
  |nil=>exact bm _
  |cons h l k=>
   have:=zY h;rw[cU,a9,bI];omega
 have:=d l;unfold dS;rw[a9];omega
def zZ(b:List UInt8):b.length+1<=(ea b).length:=by have d:=z1 b.length;unfold ea;rw[a9];omega
def UJ(s:bO):7+s.params.length+s.bR.length+s.hints.length+s.nm.size<=(fb s).length:=by have h:=zY s.kind;have j:=zY s.node;have k:=zY s.df;have q:=xh s.params;have w:=xh s.bR;have x:=xh s.hints;have d:=zZ (bl s.nm);rw[dQ]at d;unfold fb;simp only[a9];omega
def ae3(ss:List bO):7 *ss.length<=(ss.flatMap fb).length:=by
 induction ss with
 |nil=>exact bm _
 |cons a ss d=>
  have:=UJ a;rw[cU,a9,bI];omega
def yi(st:RS):bO×RS:=
 let h:=bT st
 let n:=bT h.2
 let r:=bT n.2
 let p:=gp r.2
 let t:=fZ p.2
 let l:=gp t.2
 let d:=gp l.2
 (⟨h.1,n.1,r.1,p.1,ba t.1,l.1,d.1⟩,d.2)
def vx:Nat->RS->List bO×RS
 |0,st=>([],st)
 |n+1,st=>((yi st).1::(vx n (yi st).2).1,(vx n (yi st).2).2)
def sS(size:Nat)(st:RS):Option (List bO)×RS:=
 if(bT st).1<0\/((size / 7:Nat):Int)<(bT st).1 then(none,(bT st).2)else(some (vx (bT st).1.toNat (bT st).2).1,(vx (bT st).1.toNat (bT st).2).2)
def adD{s:bO}(W:nS s)(x:(fb s).length<=1000000000000)(r:List UInt8):yi ⟨fb s++r,0⟩=(s,⟨r,0⟩):=by
 have w:=UJ s;obtain⟨j,n,q,p,t,l,d⟩:=s;dsimp only at w;have e:fb ⟨j,n,q,p,t,l,d⟩++r=cd j++(cd n++(cd q++(dS p++(ea (bl t)++(dS l++(dS d++r)))))):=by unfold fb;simp only[cN]
 unfold yi;rw[e];dsimp only;rw[lV _ W.k.1];dsimp only;rw[lV _ W.k.2.1];dsimp only;rw[lV _ W.k.2.2];dsimp only;rw[vw p co W.p];dsimp only;rw[Bi (bl t) (by rw[dQ];omega)];dsimp only;rw[vw l co W.l];dsimp only;rw[vw d co W.h,jk]
def SH:∀{ss:List bO} (_:∀s∈ss,nS s) (_:(ss.flatMap fb).length<=1000000000000) (r:List UInt8),vx ss.length ⟨ss.flatMap fb++r,0⟩=(ss,⟨r,0⟩)
 |[],_,_,r=>rfl
 |s::ss,W,h,r=>by rw[cU,a9]at h;rw[cU,cN,bI];unfold vx;rw[adD (W s ws) co];dsimp only;rw[SH (λe d=>W e (by simp[d])) co]
def SI{ss:List bO}(W:∀s∈ss,nS s){size:Nat}(d:(g' ss).length<=size)(q:size<=1000000000000)(r:List UInt8):sS size ⟨g' ss++r,0⟩=(some ss,⟨r,0⟩):=by
 have j:=ae3 ss;have k:(ss.flatMap fb).length<=size:=by unfold g' at d;rw[a9]at d;omega
 have h:bT ⟨g' ss++r,0⟩=((ss.length:Int),⟨ss.flatMap fb++r,0⟩):=by unfold g';rw[cN];exact lV _ ⟨co,co⟩ _
 unfold sS;rw[h];dsimp only;rw[ag co,bo,SH W co]
structure Lp where
 g:List Nx
 hy:List Int
 cl:List Int
 ss:List bO
def Lp.e:Lp:=⟨[],[],[],[]⟩
def Lx.p(x:Lx):Lp:=⟨xs x.gl,x.hy,x.cl,bx x.ds⟩
def nh(x:Lp):Int:=if hB x.g≠0 then hB x.g else if qv x.g.length x.hy then if gh x.cl≠0 then gh x.cl else iW x.ss 0 else 7
def abf(x:Lx):gI x=nh x.p:=by
 have:(xs x.gl).length=x.gl.length:=by simp[xs]
 unfold gI nh Lx.p;dsimp only;rw[this]
def e9(x:Lp):List UInt8:=ea (di x.g)++(dS x.hy++(dS x.cl++g' x.ss))
def xQ(bs:List UInt8):Option Lp:=
 let r:=fZ ⟨bs,0⟩
 if(kf r.1).2≠0 then none else
 let d:=gp r.2
 let c:=gp d.2
 match(sS bs.length c.2).1 with
 |some h=>if sQ (sS bs.length c.2).2=0 then some ⟨(kf r.1).1,d.1,c.1,h⟩else none
 |none=>none
structure p0(x:Lp):Prop where
 g:∀d∈x.g,fV d
 n:x.g.length<=4096
 v:hB x.g=0
 h:∀y∈x.hy,aX y
 c:∀y∈x.cl,aX y
 s:∀s∈x.ss,nS s
def abi{x:Lp}(W:p0 x)(w:(e9 x).length<=1000000000000):xQ (e9 x)=some x:=by
 obtain⟨g,j,d,k⟩:=x;have e:e9 ⟨g,j,d,k⟩=ea (di g)++(dS j++(dS d++(g' k++[]))):=by unfold e9;rw[List.append_nil]
 have y:=w;unfold e9 at y;simp only[a9]at y;have B:=zZ (di g);have C:=xh j;have D:=xh d;unfold xQ;generalize q:e9 ⟨g,j,d,k⟩=b at w;have A:(g' k).length<=b.length:=by rw[<-q];unfold e9;simp only[a9];omega
 rw[<-q,e];dsimp only;rw[Bi _ co];dsimp only;rw[Kp W.g W.n W.v];dsimp only;rw[ag (λz=>z rfl),vw j co W.h];dsimp only;rw[vw d co W.c];dsimp only;rw[<-e,q,SI W.s A w];rfl
def _root_.Go.W.En.nr(rb:Nat)(st:RS)(fp:List Nat):En:=⟨kp fp,λh=>ei h rb st fp,λh A z k=>(by obtain⟨s,all,y,rfl,q,j,w⟩:=k;have x:∀b∈rb::ax s,A.heap[b]? =h.heap[b]?:=λb d=>z b (a0.2 d) (ei.lt ⟨s,all,y,rfl,q,j,w⟩ b d);exact⟨s,all,y,rfl,(x rb ws).trans q,⟨j.1,j.2.cC λb d _=>x b (by simp[d])⟩,w⟩),λh k b d=>k.lt b (a0.1 d),pn _⟩
def SM(rb:Nat)(st:RS)(fp:List Nat)(w:J)(b:Nat):¬(En.nr rb st fp).P ({w with heap:=Array.replicate (b+1) (.map #[] 0)}):=by rintro⟨s,all,h,_,d,_⟩;simp[Array.getElem?_replicate]at d
section
variable {M:Nat->Prop} {w0 w:J} {L D:List En} {bs:List Nat}
def _root_.Go.W.LH.rm(H:LH M w0 w L D)(i:Nat){rb:Nat}{st k:RS}{fp:List Nat}{v:aa}{g:cW}{args:Array aa}{K:aJ}(hi:L[i]? =some (.nr rb st fp))(q:ei w rb st fp->aj V g args w (wD w rb fp v k))(x:∀d,LH M w0 d (L.set i (.nr rb k fp)) D->K (ae v) d)(bF:∀b∈bs,En.g b∈L:=by simp):eJ bs V g args w K:=by
 have j:ei w rb st fp:=H.get i hi;refine⟨(·=rb),λb h y=>?_,(q j).mono λr d ⟨z,B,f⟩=>⟨f,?_⟩⟩
 .subst y;exact o' H hi (SM b st fp w) (bF b h) (a0.2 j.mem)
 .subst z;exact x d (H.ha i (.nr rb k fp) hi (f.mono λC _ A=>a0.2 (by rw[A];exact j.mem)) B λb h=>.inl h)
def _root_.Go.W.LH.rms(H:LH M w0 w L D)(i:Nat){rb:Nat}{st B:RS}{fp:List Nat}{e:TypeId}{vs:List aa}{g:cW}{args:Array aa}{K:aJ}(hi:L[i]? =some (.nr rb st fp))(F:ei w rb st fp->aj V g args w (tQ w rb fp e vs B))(G:∀s x,LH M w0 x (L.set i (.nr rb B fp)) (D++[.rd s vs])->(∀b∈ax s,w.heap.size<=b)->K (ae s.v) x)(bF:∀b∈bs,En.g b∈L:=by simp):eJ bs V g args w K:=by
 have q:ei w rb st fp:=H.get i hi;refine⟨(·=rb),λb h I=>?_,(F q).mono λr x ⟨s,O,N,Q,f,E⟩=>⟨f,?_⟩⟩
 .subst I;exact o' H hi (SM b st fp w) (bF b h) (a0.2 q.mem)
 .subst O;have j:=H.ha i (.nr rb B fp) hi (f.mono λY _ P=>a0.2 (by rw[P];exact q.mem)) Q λb h=>.inl h;refine G s x ⟨j.fr,j.own,λy d=>?_,j.new,j.nd,λy d b h z C A=>?_⟩ E
  .rcases aW.1 d with d|d
   .exact j.rd y d
   .simp at d;subst d;exact N.rd
  .rcases aW.1 d with d|d
   .exact j.dj y d b h z C A
   .simp at d;subst d;have S:w.heap.size<=b:=by
     have h:b∈(if vs=[]then[]else ax s):=h;split at h
     .cases h
     .exact E b h
    have T:b<w.heap.size:=by
     obtain⟨U,k⟩:=hO.1 C;rw[List.getElem?_set]at k;split at k
     .split at k
      .cases k;exact q.lt b (a0.1 A)
      .cases k
     .exact z.lt w (H.own z (aG k)) b A
    omega
abbrev _root_.Go.W.En.by(s:Sl)(l:List UInt8):En:=.row cJ 1 s (l.map W.cq)
def qG{w:J}{s:Sl}{l:List UInt8}(h:aF w cJ 1 s (l.map W.cq)):e6 w s l:=h.A5
def _root_.Go.W.LH.nW(H:LH M w0 w L D)(i:Nat){ty:TypeId}{s src:Sl}{l m:List UInt8}{K:Sl->J->Prop}(hi:L[i]? =some (.by s l))(j:Bytes w src m)(z:l.length+m.length<=100000000000000)(x:∀h d,LH M w0 d (L.set i (.by h (l++m))) D->K h d)(bF:∀b∈bs,En.g b∈L:=by simp):
  ∃h d,(Builtin.append_ #[dx,dx] ty #[s.v,src.v]).run V w=.ok h.v d/\kept bs w d/\K h d:=by
 have y:=(qG (H.get i hi)).1;have k:=j.1;simp only[List.length_map]at y k;refine H.dm i jo (ty:=ty) (src:=src) (news:=m.map W.cq) hi ⟨by simp[k],j.2.1,j.2.2⟩ (W.zA _) co (λh d q=>x h d ?_) bF
 rwa[<-List.map_append]at q
def _root_.Go.W.LH.Dm(H:LH M w0 w L D)(i:Nat){ty:TypeId}{s src:Sl}{l m:List UInt8}{K:Sl->J->Prop}(hi:L[i]? =some (.by s l))(y:Bytes w src m)(x:l.length+m.length<=100000000000000)(q:∀d h,LH M w0 h (L.set i (.by d (l++m))) D->K d h):
  ∃d h,(Builtin.append_ #[dx,dx] ty #[s.v,src.v]).run V w=.ok d.v h/\K d h:=by obtain⟨d,h,j,_,k⟩:=H.nW (bs:=[]) i (ty:=ty) hi y x q ws;exact⟨d,h,j,k⟩
def _root_.Go.W.LH.jH(H:LH M w0 w L D){g:cW}{args:Array aa}{l:List UInt8}{K:aJ}(h:aj V g args w (jc w l))(j:∀s d,LH M w0 d L D->wi M w0 w d L D->e6 d s l->(∀b∈ax s,w.heap.size<=b)->K (ae s.v) d):eJ bs V g args w K:=
 hF (h.mono λr d ⟨s,x,q,f,k⟩=>⟨f,by subst x;exact j s d (H.br f) (H.fresh f) q k⟩)
def _root_.Go.W.LH.YO(H:LH M w0 w L D){g:cW}{args:Array aa}{l:List UInt8}{K:aJ}(h:aj V g args w (jc w l))(j:∀s d,LH M w0 d L D->wi M w0 w d L D->e6 d s l->(∀b∈ax s,w.heap.size<=b)->K (ae s.v) d):aj V g args w K:=
 h.mono λr d ⟨s,x,q,f,k⟩=>by subst x;exact j s d (H.br f) (H.fresh f) q k
def _root_.Go.W.LH.str(H:LH M w0 w L D)(t:ByteArray){K:Sl->J->Prop}(x:∀h d,LH M w0 d L D->Bytes d h (bl t)->K h d)(bF:∀b∈bs,En.g b∈L:=by simp):
  ∃h d,(Go.convert cY dx (.string t)).run V w=.ok h.v d/\kept bs w d/\K h d:=by obtain⟨h,d,k,q,j,_⟩:=BR w t;exact⟨h,d,k,λb y=>j.cC b (H.own _ (bF b y)) id,x h d (H.br j) q⟩
end
end Go.Proofs.YtnaglpcbkhjpnaaGreatDoor
