import Derived.Test.YtkbmpalepmakmabGreatDoorN0
import Derived.Test.YtkbmpalepmakmabGreatDoorT1
import Derived.Test.YtkbmpalepmakmabGreatDoorVP
import Derived.Test.YtkbmpalepmakmabGreatDoorW
import Derived.Test.YtkbmpalepmakmabGreatDoorU
import Derived.Laws.StandIn
import Derived.Lib.Bytealg
import Derived.Laws.RangeString
set_option linter.unusedVariables false
set_option linter.defProp false
set_option maxRecDepth 100000
noncomputable section
namespace Go.Proofs.YtkbmpalepmakmabGreatDoor
open Go renaming World->I,Calls->ai,Program->au,Value->V,FuncId->b3,LoopState->eQ
open Go.IntKind renaming wrap->aB
open _root_.Int renaming toNat->a0,toNat_natCast->bR
open _root_.ByteArray renaming mk->a'
open Go.IntWalk renaming i64_in->bo
open _root_.Bool renaming and_eq_true->bd
open _root_.Nat renaming le_refl->bw,le_trans->bB,zero_le->dc,lt_of_lt_of_le->pe
open _root_.UInt8 renaming ofNat->cX
open _root_.Option.some renaming inj->ed
open Go.Proofs.Tryz renaming prog->U
open _root_.Decidable renaming decide->ak
open Go.Ending renaming returned->ad
open List renaming mem_cons->aF,not_mem_nil->aZ,mem_of_getElem?->aD,getElem?_eq_getElem->aY,mem_singleton->cy,length_drop->h',mem_cons_of_mem->cP,drop_eq_getElem_cons->dw,append_nil->cQ,nil_append->lV,cons_append->gE,take_add_one->fJ,drop_drop->lT,drop_of_length_le->dy,take_of_length_le->fV
open Go Go.W
section
variable {s:Sl} {l:List J} {bs:Nat}
end
def abU{s:Sl}{l:List J}{w:I}(q:J.a4 l<=1000000)(x:aK w aS 4 s (l.flatMap J.c))(z:J.Ps w l)(hd:∀D∈aG s,D∉J.bc l)(A X d:List J)(k:l=A++X++d)(F:X.length<=12)(a b:Int)(h:a=(A.length:Int))(j:b=((A.length+X.length:Nat):Int))(y:Int)(B C:Bool){R:aC}(E:∀e,aK e aS 4 s ((A++gm X++d).flatMap J.c)->Fr (·∈aG s) w e->R (ad (.tuple #[])) e):BP.L0 s a b y B C w R:=by
 have H:=J.gn l;have G:A.length+X.length+d.length=l.length:=by grind
 subst h j;refine BP.b' (aR (a5 ?_) ?_)
 .rw [bo _ io];omega
 refine(WX s l w q x z hd A X d k _ rfl).mono ?_
 grind
set_option maxRecDepth 100000
set_option maxHeartbeats 1000000
abbrev XF(bs:List Nat)(f:b3)(xs:Array V)(w:I)(K:ByteArray->Int->I->Prop):Prop:=fF bs U f xs w λh j=>∃d:ByteArray,∃e:Int,h=ad (.tuple #[.string d,.i e])/\K d e j
def TB:mT 12:=by intro s l z j w e y q;have x:=J.cz e.a3;refine Tz.ok ((Wx _ z).mono ?_);rintro _ B ⟨⟨t,rfl⟩,f⟩;refine⟨t,rfl,BP.ok (abU w (e.fr f λ_ _ d=>d) (y.cA f) q [] l [] gs j _ _ rfl (by simp[x]) _ _ _ λA k h=>?_)⟩;exact⟨rfl,⟨gm l,rfl,adw l,adu l,by simpa using k⟩,f.A2.trans h λC _ d=>d⟩
def Je{a b:Nat}(e:¬a<b):Nat.blt a b=false:=by
 cases d:Nat.blt a b with
 |false=>rfl
 |true=>rw[Nat.blt_eq]at d;exact absurd d e
mutual
def EE:∀q:Rx,cO q=true->jl q=true
 |.mk k lo w l,h=>by
  unfold cO at h;simp only[bd]at h;have d:=h.2;have j:dY l=true->oU l=true:=LM l;unfold jl;split at d
  .rename_i e;have:l=[]:=by simpa using d
   subst this;have e:k=0\/k=1:=e;unfold oU;rcases e with rfl|rfl<;>decide
  .split at d
   .rename_i e;simp only[bd]at d;have:l=[]:=by simpa using d.1
    subst this;subst e;unfold oU;decide
   .split at d
    .rename_i e;rw[j d];rcases e with rfl|rfl|rfl<;>simp
    .split at d
     .rename_i e;simp only[bd,beq_iff_eq]at d;rw[j d.2];rcases e with rfl|rfl<;>simp[d.1]
     .cases d
def LM:∀l:List Rx,dY l=true->oU l=true
 |[],_=>rfl
 |a::l,d=>by unfold dY at d;unfold oU;simp only[bd]at d;rw[EE a d.1,LM l d.2];rfl
end
def aej(s:ByteArray)(hf:∀ac,ie (bl s)=.inr ac->jK 12 (cI ac.tp))(w:I):ai U F8 #[.string s] w λr w'=>r=ad (.bool (jS (bl s)))/\af w w':=by
 have hl:(bl s).length=s.size:=cR s;have aa:O F0 w w [] []:=bM [] gs;refine Um.aq ((Jo s w).mono ?_);rintro r w1 ⟨f1,W⟩;have H1:=aa.cA f1;have no:∀(a e:Int),e≠0->jS (bl s)=false->r=ad (.tuple #[.agg #[.int .i64 0,.int .u8 0,.int .u8 0,.slice none 0 0],.int .i64 a,.int .i64 e])->∃(t0 t1 t2:Int) (t3:Sl) (t4 t5:Int),r=ad (.tuple #[.agg #[.i t0,.int .u8 t1,.int .u8 t2,t3.v],.i t4,.i t5])/\vr [] w1 λj M=>bD (t5 !=0) (loc [j] M λD=>(Ending.returned (.bool false)=ad (.bool (jS (bl s)))/\af w D)) (loc [j] M λD=>XE [j] FQ #[.agg #[.i t0,.int .u8 t1,.int .u8 t2,t3.v]] D λap ar ay az aA Z=>vr [j] Z λG N=>
   bD (aA !=0) (loc [j,G] N λY=>(Ending.returned (.bool false)=ad (.bool (jS (bl s)))/\af w Y)) (loc [j,G] N λY=>XF [j,G] OS #[.agg #[.i ap,.int .u8 ar,.int .u8 ay,az.v]] Y λaC aG aj=>bD (aG==0) (Ending.returned (.bool (aC.toList==s.toList))=ad (.bool (jS (bl s)))/\af w aj) (Ending.returned (.bool false)=ad (.bool (jS (bl s)))/\af w aj))):=λa e K hn W=>⟨0,0,0,⟨none,0,0⟩,a,e,W,H1.ax λj M P=>ct (λ_=>P.ae λw3 E=>⟨by rw[hn],E.fr⟩) (λz=>absurd z K)⟩
 rcases W with⟨h1,k⟩|⟨h1,res,ao,⟨a,rfl,k⟩|⟨h,rfl,⟨H,k⟩|⟨H,t,k,B,pt,ft⟩⟩⟩
 .refine no _ _ dl ?_ k;unfold jS;rw[show Nat.blt 4096 (bl s).length=true from by rw[Nat.blt_eq];omega];rfl
 all_goals have S:Nat.blt 4096 (bl s).length=false:=Je io
 all_goals have d:=UF ao
 .have d:Sum.inl a=ie (bl s):=d;refine no _ _ dl ?_ k;unfold jS;rw[S,<-d];rfl
 .have d:Sum.inr (fj h)=ie (bl s):=d;refine no _ _ dl ?_ k;unfold jS;rw[S,<-d];dsimp only[cond_false];rw[uW,show Nat.blt 64 (cI h.tp).sz=true from by rw[Nat.blt_eq];exact H];rfl
 .have d:Sum.inr (fj h)=ie (bl s):=d;have T:=hf _ d.symm;rw[uW]at T;have A:jS (bl s)=if k1 (cI h.tp)=0 then(if iY (gj (cI h.tp))=0 then cK 0 (gj (cI h.tp)) (a9 (gj (cI h.tp)))==bl s else false)else false:=by unfold jS;rw[S,<-d];dsimp only[cond_false];have:Nat.blt 64 (cI h.tp).sz=false:=Je io;rw[uW,this];rfl
  generalize cI h.tp=x at B T A H;have am:=aa.ef (.tree t) f1 pt (λb Q=>.inl (ft b (aW.1 Q)));have aH:t.sz<=64:=by rw[<-J.ez,B];exact H
  refine⟨_,_,_,t.s,_,_,k,am.ax λj M P=>ct (λz=>absurd rfl z) (λ_=>P.ae λw3 E=>?_)⟩;refine E.g9 (Jn TB io t w3 io (by rw[B];exact T) (E.getD 0)) ?_;rintro _ w4 ⟨u,rfl,C,pu,fu⟩ _ F4;rw[B]at C;rw[B];have H4:=F4.rd (.tree u) pu λb Q=>fu b (aW.1 Q);refine⟨_,_,_,u.s,_,rfl,H4.ax λG w5 H5=>ct (λL=>H5.ae λD y=>⟨by rw[A,ab L],y.fr⟩) (λK=>H5.ae λD y=>?_)⟩;rw[ag K]at A;have ah:u.sz<=1000000:=by
   rw[<-J.ez,C];have:k1 x=0:=K;unfold k1 at this;unfold gj;split at this
   .rename_i q;rw[ag q];unfold p' at this;unfold qa;split at this
    .cases this
    .rename_i an;rw[ab an];omega
   .rename_i q;exact absurd this q
  refine kK (G5.aq ((gT (y.getD 1)).ax λb1 Z H7=>H7.av (Dl u Z ah (H7.getD 0)) ?_));rintro _ N rfl F;rw[C];refine⟨_,rfl,ct (λL=>⟨F.fr,_,_,rfl,aw (λz=>absurd z L) (λ_=>⟨by rw[A,ab L],(y.cA F.fr).fr⟩)⟩) (λq=>F.av (QU u 0 N ah io ?_ (F.getD 0)) ?_)⟩
  .exact EE _ (by rw[C];exact(Cc q).1)
  .rintro _ w9 rfl H9;refine⟨_,rfl,H9.fr,_,_,rfl,aR rfl ⟨?_,(y.cA H9.fr).fr⟩⟩;rw[A,ag q,C];congr 2;have:=uu (cK 0 (gj x) (a9 (gj x))) (bl s);rw[j8]at this;exact this
def abk(t:ByteArray)(e:∀d,ie (bl t)=.inr d->jK 12 (cI d.tp)):oq t:=λh=>aej t e h
structure aH where
 p:Nat
 tm:Nat
 g:List Nx
structure PM where
 ps:List (List UInt8×aM)
 b:Nat
 ix:Nat
structure bW where
 T:List aI
 vs:List (List UInt8×Nat)
 ms:List (List UInt8×PM)
 pm:List (List UInt8×Nat)
 kn:Nat
 dp:Nat
inductive PR (α:Type)
 |ok (a:α) (s:aH)
 |er (e:Int) (p:Nat)
def PR.b{α β:Type}(x:PR α)(f:α->aH->PR β):PR β:=match x with
 |.ok a s=>f a s
 |.er d p=>.er d p
def lk{α:Type}:List (List UInt8×α)->List UInt8->Option α
 |[],_=>none
 |(d,v)::l,t=>if d=t then some v else lk l t
def aL(T:List aI)(p:Nat):aI:=T.getD p ⟨6,[],0⟩
def cH(t:aI)(s:aH):aH:=if t.kind=6 then s else{s with p:=s.p+1}
def kA{α:Type}(t:aI):PR α:=.er (if t.kind=6 then 3 else 2) t.a6
def bL(T:List aI)(k:Int)(s:aH):PR aI:=
 if(aL T s.p).kind=k then .ok (aL T s.p) (cH (aL T s.p) s)else kA (aL T s.p)
def dh(base:Nat)(l:List UInt8):Nat:=l.foldl (λn c=>base *n+eS c) 0
def dd(T:List aI)(s:aH):PR Int:=(bL T 4 s).b λt s=>.ok (dh 10 t.text:Int) s
def v3(w:List UInt8):Option Int:=
 if w=[98,118]then some 0 else if w=[115,116,114]then some 1 else if w=[97,114,114]then some 2 else if w=[97,114,115]then some 3 else none
def iA(T:List aI)(s:aH):PR aM:=
 (bL T 0 s).b λt s=>(bL T 2 s).b λe s=>match v3 e.text with
 |none=>kA e
 |some d=>(if d=2\/d=3 then dd T s else .ok 0 s).b λh s=>(dd T s).b λn s=>(bL T 1 s).b λ_ s=>
  if br ⟨d,n,h⟩then .ok ⟨d,n,h⟩ s else .er 9 t.a6
def eu(s:aH)(n:Nx)(t:aI):PR Nat:=
 if(bb s.g n).2.2=0 then .ok (bb s.g n).2.1.toNat {s with g:=(bb s.g n).1}else .er (bb s.g n).2.2 t.a6
def ft(op:Int):Nx:=⟨op,[],0,0,0,ba [],aX⟩
def hE(l:List UInt8):Nx:=
 if l[1]? =some 120 then⟨1,[],0,0,(dh 16 (l.drop 2):Int),ba [],aO (((l.length - 2) *4:Nat):Int)⟩else⟨1,[],0,0,(dh 2 (l.drop 2):Int),ba [],aO ((l.length - 2:Nat):Int)⟩
def fu:List (List UInt8×(Int×Nat)):=[
 ([110,111,116],4,1),([110,101,103],5,1),([97,110,100],6,2),([111,114],7,2),([120,111,114],8,2),
 ([97,100,100],9,2),([109,117,108],10,2),([117,100,105,118],11,2),([117,114,101,109],12,2),([115,104,108],13,2),
 ([108,115,104,114],14,2),([97,115,104,114],15,2),([117,108,116],16,2),([115,108,116],17,2),([101,113],18,2),
 ([105,116,101],19,3),([99,111,110,99,97,116],20,2),([115,101,108,101,99,116],24,2),([115,116,111,114,101],25,3),([100,105,102,102],26,2),
 ([108,101,110],27,1),([99,97,116],29,2),([115,117,98],30,3),([102,105,110,100],31,2),([114,101,112,108,97,99,101],32,3),([99,104,97,114],34,1)]
def TD:List (List UInt8):=[[110,117,109],[122,101,114,111],[101,120,116,114,97,99,116],[122,101,120,116],[115,101,120,116],[98,121,116,101],[105,110]]
def iR(w:List UInt8):Bool:=TD.contains w||(lk fu w).isSome
def g2(t:List UInt8):List UInt8×Int:=if 4096<t.length then([],4)else match ie t with
 |.inl _=>([],2)
 |.inr d=>if 64<(cI d.tp).sz then([],4)else
  if k1 (cI d.tp)=0 then(if iY (gj (cI d.tp))=0 then(cK 0 (gj (cI d.tp)) (a9 (gj (cI d.tp))),0)else([],iY (gj (cI d.tp))))else([],k1 (cI d.tp))
def rs(T:List aI)(s:aH):PR (List UInt8):=(bL T 5 s).b λt s=>if(g2 t.text).2=0 then .ok (g2 t.text).1 s else .er (g2 t.text).2 t.a6
def gy(tm:aH->PR Nat):Nat->aH->PR (List Int)
 |0,s=>.ok [] s
 |n+1,s=>(tm s).b λk s=>(gy tm n s).b λl s=>.ok ((k:Int)::l) s
def h4(T:List aI)(w:List UInt8)(s:aH):PR (Nx×Nat):=
 if w=[110,117,109]then(dd T s).b λu s=>(dd T s).b λn s=>.ok (⟨1,[],0,0,u,ba [],aO n⟩,0) s else
 if w=[122,101,114,111]then(iA T s).b λd s=>.ok (⟨3,[],0,0,0,ba [],d⟩,0) s else
 if w=[101,120,116,114,97,99,116]then(dd T s).b λn s=>(dd T s).b λm s=>.ok (⟨21,[],n,m,0,ba [],aX⟩,1) s else
 if w=[122,101,120,116]then(dd T s).b λn s=>.ok (⟨22,[],n,0,0,ba [],aX⟩,1) s else
 if w=[115,101,120,116]then(dd T s).b λn s=>.ok (⟨23,[],n,0,0,ba [],aX⟩,1) s else
 if w=[98,121,116,101]then(dd T s).b λn s=>.ok (⟨28,[],n,0,0,ba [],aX⟩,1) s else
 if w=[105,110]then(rs T s).b λr s=>.ok (⟨33,[],0,0,0,ba r,aX⟩,1) s else
 .ok (ft ((lk fu w).getD (0,0)).1,((lk fu w).getD (0,0)).2) s
def iT(T:List aI)(tm:aH->PR Nat)(w:List UInt8)(s:aH):PR Nx:=
 (h4 T w s).b λd s=>(gy tm d.2 s).b λe s=>.ok {d.1 with kids:=e} s
def h6(E:bW)(w:List UInt8):Option PM:=match lk E.ms w with
 |some m=>if m.ix<E.kn then some m else none
 |none=>none
def i9:List (List UInt8×aM)->List Int->List (List UInt8×Nat)
 |(p,_)::e,a::d=>(p,a.toNat)::i9 e d
 |_,_=>[]
def hY(tm:bW->aH->PR Nat)(E:bW)(m:PM)(az:List Int)(s:aH):PR Nat:=
 (tm {E with pm:=i9 m.ps az,kn:=m.ix} {s with p:=m.b}).b λn d=>.ok n {d with p:=s.p}
def kZ(tm:bW->aH->PR Nat)(E:bW)(t:aI)(s:aH):PR Nat:=match lk E.pm t.text with
 |some n=>.ok n s
 |none=>match lk E.vs t.text with
  |some n=>.ok n s
  |none=>match h6 E t.text with
   |some m=>if m.ps=[]then hY tm E m [] s else .er 6 t.a6
   |none=>.er 6 t.a6
def k'(g:List Nx):List (List UInt8×aM)->List Int->Bool
 |(_,h)::e,a::d=>ak ((g[a.toNat]?).map (·.st)=some h)&&k' g e d
 |_,_=>true
def pG(tm:bW->aH->PR Nat)(E:bW)(t w:aI)(s:aH):PR Nat:=match h6 E w.text with
 |none=>.er 6 w.a6
 |some m=>(gy (tm E) m.ps.length s).b λd s=>(bL E.T 1 s).b λ_ s=>
  if k' s.g m.ps d then hY tm E m d s else .er 9 t.a6
def me(tm:bW->aH->PR Nat)(E:bW)(t:aI)(s:aH):PR Nat:=
 if 64<=E.dp then .er 4 t.a6 else
 (bL E.T 2 s).b λd s=>
  if iR d.text then(iT E.T (tm {E with dp:=E.dp+1}) d.text s).b λn s=>(bL E.T 1 s).b λ_ s=>eu s n t
  else pG tm {E with dp:=E.dp+1} t d s
def iE(tm:bW->aH->PR Nat)(E:bW)(s:aH):PR Nat:=
 let t:=aL E.T s.p
 if t.kind=1\/t.kind=4\/t.kind=6 then kA t else
 if 65536<=s.tm then .er 4 t.a6 else
 let s:={cH t s with tm:=s.tm+1}
 if t.kind=2 then kZ tm E t s else
 if t.kind=3 then eu s (hE t.text) t else
 if t.kind=5 then eu s ⟨2,[],0,0,0,ba t.text,aX⟩ t else
 me tm E t s
def dE:Nat->bW->aH->PR Nat
 |0,_,_=>.er 1000 0
 |f+1,d,s=>iE (dE f) d s
set_option maxHeartbeats 2000000
namespace T0
def ok:=aA (ay U Tryz.f120 [] []) Pm [.st,.v]
end T0
namespace yM
def L0:=bq (ay U Tryz.f144 [] []) [0,1,1,1,1] [(1,.f),(2,.b),(10,.v [.v])]
abbrev t1:=bp L0
def b':=bE t1 L0
def ok:=aA t1 Pn [.st,.f,.b]
end yM
namespace ML
def ok:=aA (ay U Tryz.f86 [] []) OC [.st,.I]
end ML
namespace MM
def ok:=aA (ay U Tryz.f121 [] []) xW [.i .i32,.r]
end MM
namespace MO
def ok:=aA (ay U Tryz.f122 [] []) OE [.i .i32,.I]
end MO
namespace MR
def ok:=aA (ay U Tryz.f57 [] []) OK [.Y]
end MR
namespace MN
def ok:=aA (ay U Tryz.f58 [] []) OD [.Y,.I]
end MN
namespace As
abbrev P0:Ps:=[]
abbrev S0:=ah (ay U Tryz.f59 [] []) [0,1,1,2,1,1,2] P0
abbrev t1:=aj S0
abbrev P1:Ps:=[(0,.st)]
abbrev S1:=ah t1 [1,1,1,1,2] P1
abbrev t2:=aj S1
abbrev S2:=ah t2 [0,1,1,1,3] P0
abbrev t3:=aj S2
abbrev S4:=ah t3 [6] [(0,.st),(4,.I),(5,.I)]
abbrev t4:=aj S4
abbrev S3:=ah t4 [4] P1
abbrev t5:=aj S3
def ok:=aA t5 OG [.st]
end As
namespace p9
abbrev aV:=ah (ay U Tryz.f85 [(4,lr 5),(7,lr 5),(11,lr 5),(18,lr 5),(20,lr 5)] [6,7,8]) [0,1,1,2,1,1,2] [(1,.I),(6,.l [.I,.I] ju),(8,.l [.I,.I] ju)]
abbrev t1:=aj aV
abbrev bH:=ah t1 [1,1,2,1,4] [(1,.I),(6,.l [.I,.I] ju),(9,.Y)]
abbrev t2:=aj bH
abbrev P0:Ps:=[(0,.st),(1,.I),(6,.l [.I,.I] ju),(7,.l [.I,.I] ju),(8,.l [.I,.I] ju),(10,.I),(11,.I)]
def iI:=bq t2 [0,1,1,1,6] P0
abbrev t3:=bp iI
abbrev fB:=ah t3 [2,2,1,1,6] P0
abbrev t4:=aj fB
def om:=bE t4 iI
abbrev bg:=ah t4 [1,1,4] [(0,.st),(1,.I),(6,.l [.I,.I] ju),(7,.l [.I,.I] ju),(8,.l [.I,.I] ju),(9,.Y)]
abbrev t5:=aj bg
def aq:=aA t5 OH [.st,.I]
end p9
def aay(s:ByteArray)(c:UInt8)(w:I):Sem.run U (callFunc vh #[.string s,.int .u8 (c.toNat:Int)]) w=.ok (.value (.int .i64 (Go.Lib.indexByte (bl s) c))) w:=by have d:=run_callFunc_indexByte (P:=U) (f:=vh) (fn:=(Tryz.prog.funcs[vh]?).getD default) (by kernel_rfl) (by kernel_rfl) (by kernel_rfl) (by kernel_rfl) (by kernel_rfl) #[.string s,.int .u8 (c.toNat:Int)] w;rw[d,Go.Lib.run_indexByteString];show Result.ok _ w=_;congr 4;simp
def AE(s:ByteArray)(c:UInt8)(w:I):ai U F5 #[.string s,.int .u8 (c.toNat:Int)] w λr d=>r=ad (.int .i64 (Go.Lib.indexByte (bl s) c))/\w=d:=by
 refine HJ.ok ?_;refine(show ai U FA #[.string s,.int .u8 (c.toNat:Int)] w λr d=>r=ad (.int .i64 (Go.Lib.indexByte (bl s) c))/\w=d from ?_).mono ?_
 .exact EP.ok ⟨_,w,aay s c w,rfl,rfl⟩
 .rintro r e ⟨rfl,rfl⟩;exact⟨_,rfl,rfl,rfl⟩
def EM:∀(l:List UInt8) (c:UInt8),(0<=Go.Lib.indexByte l c)=(c∈l)
 |[],c=>by simp[Go.Lib.indexByte]
 |b::l,c=>by
  unfold Go.Lib.indexByte;have k:=EM l c;by_cases e:b=c
  .subst e;simp
  .rw [ab (by simpa using e)];have q:=Go.Lib.indexByte_ge l c;have d:(c∈b::l)=(c∈l):=by apply propext;rw[aF];exact⟨λj=>j.resolve_left λd=>e d.symm,.inr⟩
   rw[d,<-k];split
   .rename_i h;have:Go.Lib.indexByte l c=-1:=by simpa using h
    rw[this]
   .rename_i h;have:Go.Lib.indexByte l c≠-1:=by simpa using h
    apply propext;omega
def E5(c:UInt8)(w:I):ai U OK #[.int .u8 (c.toNat:Int)] w λr e=>r=ad (.bool (qc c))/\w=e:=by
 refine MR.ok (bn (λd=>?_) (λd=>?_))
 .have:=e4 d;refine⟨?_,rfl⟩;unfold qc;rw[a5 (show 97<=c.toNat by omega),Bool.true_and];congr 2;exact decide_eq_decide.2 io
 .have:=l4 d;refine⟨?_,rfl⟩;unfold qc;rw[a2 (show ¬97<=c.toNat by omega),Bool.false_and]
def E3(c:UInt8)(base:Nat)(w:I):ai U OD #[.int .u8 (c.toNat:Int),.int .i64 (base:Int)] w λr A=>r=ad (.bool (cJ base c))/\w=A:=by
 refine MN.ok (bn (λq=>?_) (λq=>bn (λk=>?_) (λk=>?_)))
 .have h:base=2:=by have:(base:Int)=2:=(by simpa using q);omega
  subst h;refine bn (λd=>⟨?_,rfl⟩) (λd=>⟨?_,rfl⟩)<;>(congr 2;unfold cJ;rw[Bool.eq_iff_iff];simp at d ⊢;omega)
 .have h:base=16:=by have:(base:Int)=16:=(by simpa using k);omega
  subst h;refine bn (λd=>bn (λx=>⟨?_,rfl⟩) (λx=>bn (λj=>⟨?_,rfl⟩) (λj=>⟨?_,rfl⟩))) (λd=>bn (λj=>⟨?_,rfl⟩) (λj=>⟨?_,rfl⟩))<;>(congr 2;unfold cJ;rw[Bool.eq_iff_iff];simp at *;omega)
 .have z:base≠2:=λe=>by subst e;simp at q
  have y:base≠16:=λe=>by subst e;simp at k
  refine bn (λd=>⟨?_,rfl⟩) (λd=>⟨?_,rfl⟩)<;>(congr 2;unfold cJ;rw[ab z,ab y,Bool.eq_iff_iff];simp at d ⊢;omega)
def ZU(c:UInt8)(base:Nat)(w:I):ai U OE #[.int .i32 (c.toNat:Int),.int .i64 (base:Int)] w λr A=>r=ad (.bool (cJ base c))/\w=A:=by
 refine MO.ok (bn (λq=>?_) (λq=>bn (λk=>?_) (λk=>?_)))
 .have h:base=2:=by have:(base:Int)=2:=(by simpa using q);omega
  subst h;refine bn (λd=>⟨?_,rfl⟩) (λd=>⟨?_,rfl⟩)<;>(congr 2;unfold cJ;rw[Bool.eq_iff_iff];simp at d ⊢;omega)
 .have h:base=16:=by have:(base:Int)=16:=(by simpa using k);omega
  subst h;refine bn (λd=>bn (λx=>⟨?_,rfl⟩) (λx=>bn (λj=>⟨?_,rfl⟩) (λj=>⟨?_,rfl⟩))) (λd=>bn (λj=>⟨?_,rfl⟩) (λj=>⟨?_,rfl⟩))<;>(congr 2;unfold cJ;rw[Bool.eq_iff_iff];simp at *;omega)
 .have z:base≠2:=λe=>by subst e;simp at q
  have y:base≠16:=λe=>by subst e;simp at k
  refine bn (λd=>⟨?_,rfl⟩) (λd=>⟨?_,rfl⟩)<;>(congr 2;unfold cJ;rw[ab z,ab y,Bool.eq_iff_iff];simp at d ⊢;omega)
def CW{b:Bool}{p:Prop}(d:b=true)(e:p):W.cM b p:=by subst d;exact e
def EV(w:I)(s:ByteArray)(i:Nat):af w (w.iter s i):=Fr.alloc _ _ _
def ZT(c:UInt8)(base d:Nat)(w:I)(e:w.cell? (aa d)=some (.int .i64 (base:Int))):ai U xW #[.int .i32 (c.toNat:Int),.pointer (some (aa d))] w λr h=>r=ad (.bool (!(cJ base c)))/\w=h:=by refine MM.ok ⟨_,e,(ZU c base w).mono ?_⟩;rintro r j ⟨rfl,rfl⟩;exact⟨_,rfl,rfl,rfl⟩
def Mu(s:ByteArray)(base:Nat)(w:I)(F:∀c∈bl s,c.toNat<128):ai U OC #[.string s,.int .i64 (base:Int)] w λr k=>r=ad (.bool ((bl s).all (cJ base)))/\af w k:=by
 have J:∀(K:I->Prop),(∀e,af w e->e.heap[w.heap.size]? =some (.cells #[.int .i64 (base:Int)] bz (0,0))->K e)->de w (.cells #[.int .i64 (base:Int)] bz) K:=λK h=>h _ (Fr.alloc _ _ _) (m6 w _);refine ML.ok (J _ λe y D=>?_);have key:∀(d i:Nat),i+d=s.size->((bl s).take i).all (cJ base)=true->yM.L0 ⟨xW,#[],#[.pointer (some (aa w.heap.size))]⟩ true (.pointer (some ⟨e.heap.size,0,none⟩)) (e.iter s i)
   λr k=>(∃t:Int,r=ad (.int .i64 t)/\ak (t<0)=(bl s).all (cJ base))/\af w k:=by
  intro d;induction d with
  |zero=>
   intro i H q;refine yM.b' (.inl ⟨_,run_next_end e s i _ io,⟨_,rfl,?_⟩,y.gp (EV _ _ _)⟩);rw[fV (by rw[cR];omega)]at q;rw[q];rfl
  |succ d L=>
   intro i H q;have A:i<s.size:=io
   have z:i<(bl s).length:=by rw[cR];exact A
   have B:s[i]∈bl s:=by have:(bl s)[i]=s[i]:=rfl;rw[<-this];exact List.getElem_mem z
   have G:=F _ B;refine yM.b' (.inr ⟨_,_,_,run_next_ascii e s i _ A G,?_⟩);have j:(bl s).take (i+1)=(bl s).take i++[s[i]]:=by rw[fJ,aY z];rfl
   refine CW (by kernel_rfl) ((ZT s[i] base w.heap.size (e.iter s (i+1)) ?_).mono ?_)
   .have:=(EV e s (i+1)).at D id;have:=cellAt (p:=aa w.heap.size) (i:=0) this rfl rfl
    rwa[jD]at this
   .rintro r C ⟨rfl,rfl⟩;refine⟨_,rfl,bn (λh=>?_) (λh=>?_)⟩
    .have h:((!cJ base s[i])==true)=true:=h;have x:cJ base s[i]=false:=by simpa using h
     refine⟨⟨_,rfl,?_⟩,y.gp (EV _ _ _)⟩;have:(bl s).all (cJ base)=false:=by
      cases E:(bl s).all (cJ base)with
      |false=>rfl
      |true=>have:=List.all_eq_true.1 E _ B;rw[x]at this;cases this
     rw[this];exact a2 io
    .have h:((!cJ base s[i])==true)=false:=h;have x:cJ base s[i]=true:=by simpa using h
     exact L (i+1) io (by rw[j,List.all_append,q];simp[x])
 have whole:ai U Pm #[.string s,.func (.func xW) #[] #[.pointer (some (aa w.heap.size))]] e λr k=>(∃t:Int,r=ad (.int .i64 t)/\ak (t<0)=(bl s).all (cJ base))/\af w k:=by refine T0.ok ((show ai U Pn #[.string s,(⟨xW,#[],#[.pointer (some (aa w.heap.size))]⟩:W.Fv).v,.bool true] e _ from yM.ok ⟨_,_,run_range_string e _ s tD,key s.size 0 io rfl⟩).mono ?_);rintro r C ⟨⟨t,rfl,j⟩,f⟩;exact⟨t,rfl,⟨t,rfl,j⟩,f⟩
 refine whole.mono ?_;rintro r C ⟨⟨t,rfl,j⟩,f⟩;exact⟨t,rfl,by rw[j],f⟩
def xM{s:ByteArray}{l:List UInt8}(e:bl s=l)(i:Nat):s[i]? =l[i]?:=by
 subst e;by_cases d:i<s.size
 .rw [getElem?_pos s i d,aY (by rw[cR];exact d)];rfl
 .rw [getElem?_neg s i d,List.getElem?_eq_none (by rw[cR];omega)]
def Jd(s:ByteArray)(i j:Nat):bl (s.extract i j)=((bl s).take j).drop i:=by unfold bl;rw[ByteArray.data_extract,Array.toList_extract,List.extract_eq_drop_take']
def ZW(s:ByteArray)(w:I)(h0:bl s≠[])(hw:∀c∈bl s,bV c=true)(aj:s.size<=1000000):ai U OG #[.string s] w λr D=>r=ad (.tuple #[.int .i64 (fH (bl s)).1,.int .i64 (fH (bl s)).2])/\af w D:=by
 obtain⟨c,l,q⟩:∃c l,bl s=c::l:=by
  cases e:bl s with
  |nil=>exact absurd e h0
  |cons c l=>exact⟨c,l,rfl⟩
 have Q:∀j∈bl s,j.toNat<128:=λj y=>by have:=hw j y;unfold bV qc cJ at this;simp at this;omega
 have B:s.size=l.length+1:=by rw[<-cR,q];rfl
 have L:s[0]? =some c:=by rw[xM q];rfl
 refine As.ok ⟨io,c,L,(E5 c w).mono ?_⟩;rintro r J ⟨rfl,rfl⟩;refine⟨_,rfl,bn (λH=>?_) (λH=>?_)⟩
 .refine (AE s 35 w).mono ?_;rintro r J ⟨rfl,rfl⟩;refine⟨_,rfl,bn (λe=>?_) (λe=>?_)⟩
  .have S:(35:UInt8)∈bl s:=by rw[<-EM];exact e4 e
   have A:(bl s).any (λj=>j.toNat==35)=true:=List.any_eq_true.2 ⟨35,S,rfl⟩;rw[q]at A ⊢;unfold fH;simp only[];rw[ag H,ag A];exact⟨rfl,Fr.refl _ _⟩
  .have S:¬(35:UInt8)∈bl s:=by rw[<-EM];have:=l4 e;omega
   have A:¬(bl s).any (λj=>j.toNat==35)=true:=λh=>by obtain⟨j,y,ac⟩:=List.any_eq_true.1 h;have:j=35:=UInt8.toNat_inj.1 (by simpa using ac);exact S (this▸y)
   rw[q]at A ⊢;unfold fH;simp only[];rw[ag H,ab A];refine bn (λe=>?_) (λe=>?_)
   .have:=e4 e;rw[ag (by simp;omega)];exact⟨rfl,Fr.refl _ _⟩
   .have:=l4 e;rw[ab (by simp;omega)];exact⟨rfl,Fr.refl _ _⟩
 .have W:¬qc c=true:=by simpa using H
  refine⟨io,c,L,bn (λG=>?_) (λG=>?_)⟩
  .have ae:c.toNat≠35:=λh=>by rw[h]at G;simp at G
   refine(Mu s 10 w Q).mono ?_;rintro r J ⟨rfl,k⟩;have h:fH (bl s)=if !((bl s).all (cJ 10))||(c.toNat==48&&ak (1<(bl s).length))then(0,2)else if 13<(bl s).length then(0,4)else(4,0):=by
    rw[q];conv=>lhs;unfold fH
    simp only[];rw[ab W,ag ae]
   rw[h];have hlen:(bl s).length=s.size:=cR s;refine⟨_,rfl,bn (λe=>?_) (λe=>?_)⟩
   .rw [e,Bool.true_or,ag rfl];exact⟨rfl,k⟩
   .have h':(!((bl s).all (cJ 10)))=false:=e;rw[h',Bool.false_or];have tail:¬((c.toNat==48&&ak (1<(bl s).length))=true)->As.S1 s J λr D=>r=ad (.tuple #[.int .i64 (if(c.toNat==48&&ak (1<(bl s).length))=true then((0:Int),(2:Int))else if 13<(bl s).length then(0,4)else(4,0)).1,.int .i64 (if(c.toNat==48&&ak (1<(bl s).length))=true then((0:Int),(2:Int))else if 13<(bl s).length then(0,4)else(4,0)).2])/\af w D:=λhz=>by
     rw[ab hz];refine bn (λe=>?_) (λe=>?_)
     .have:=e4 e;rw[ag io];exact⟨rfl,k⟩
     .have:=l4 e;rw[ab io];exact⟨rfl,k⟩
    refine⟨io,c,L,bn (λO=>bn (λM=>?_) (λM=>tail ?_)) (λO=>tail ?_)⟩
    .have Z:(c.toNat==48)=true:=by have:(c.toNat:Int)=48:=(by simpa using O);simp;omega
     have:=e4 M;rw[Z,a5 (show 1<(bl s).length by omega)];exact⟨rfl,k⟩
    .have:=l4 M;simp;omega
    .have:¬(c.toNat:Int)=48:=by simpa using O
     simp;omega
  .have aa:¬c.toNat≠35:=by
    have:(c.toNat:Int)=35:=by simpa using G
    omega
   rw[q]at Q ⊢;have h:fH (c::l)=uV l:=by
    conv=>lhs;unfold fH
    simp only[];rw[ab W,ab aa]
   rw[h];refine bn (λN=>?_) (λN=>?_)
   .have:=e4 N
    match l,B with
    |[],_=>exact⟨rfl,Fr.refl _ _⟩
    |[b],_=>exact⟨rfl,Fr.refl _ _⟩
    |b::d::r,B=>simp at B;omega
   .have:=l4 N;obtain⟨b,d,r,rfl⟩:∃b d r,l=b::d::r:=by
     match l,B with
     |[],e=>simp at e;omega
     |[b],e=>simp at e;omega
     |b::d::r,_=>exact⟨b,d,r,rfl⟩
    unfold uV;simp only[];have E:s[1]? =some b:=by rw[xM q];rfl
    have T:bl (s.extract 2 s.size)=d::r:=by rw[Jd,fV (by rw[cR];omega),q];rfl
    have am:s.size=r.length+3:=by rw[B];rfl
    have fin:∀(base C:Nat),C<=100->As.S4 s (base:Int) (C:Int) w λY D=>Y=ad (.tuple #[.int .i64 (if(d::r).all (cJ base)then(if C<(d::r).length then((0:Int),(4:Int))else(3,0))else(0,2)).1,.int .i64 (if(d::r).all (cJ base)then(if C<(d::r).length then((0:Int),(4:Int))else(3,0))else(0,2)).2])/\af w D:=λbase C ah=>by
     refine⟨io,io,(Mu (s.extract 2 s.size) base w ?_).mono ?_⟩
     .rw [T];exact λj y=>Q j (by simp at y ⊢;rcases y with e|e<;>simp[e])
     .rintro Y J ⟨rfl,k⟩;rw[T];refine⟨_,rfl,bn (λe=>?_) (λe=>?_)⟩
      .have:(d::r).all (cJ base)=false:=by cases P:(d::r).all (cJ base)with
        |false=>rfl
        |true=>rw[P]at e;cases e
       rw[this];exact⟨rfl,k⟩
      .have:(d::r).all (cJ base)=true:=by cases P:(d::r).all (cJ base)with
        |true=>rfl
        |false=>rw[P]at e;cases e
       rw[this,ag rfl];rw[bo _ io];refine bn (λe=>?_) (λe=>?_)
       .have:=e4 e;rw[ag (by simp;omega)];exact⟨rfl,k⟩
       .have:=l4 e;rw[ab (by simp;omega)];exact⟨rfl,k⟩
    refine⟨io,b,E,bn (λx=>⟨io,b,E,bn (λF=>?_) (λF=>⟨io,b,E,?_⟩)⟩) (λx=>⟨io,b,E,?_⟩)⟩
    .have z:¬b.toNat=98:=λh=>by rw[h]at x;simp at x
     have K:¬b.toNat=120:=λh=>by rw[h]at F;simp at F
     rw[ab z,ab K];exact⟨rfl,Fr.refl _ _⟩
    .have z:¬b.toNat=98:=λh=>by rw[h]at x;simp at x
     have K:b.toNat=120:=by
      have:(b.toNat:Int)=120:=by simpa using F
      omega
     rw[ab z,ag K];exact aR (by rw[K];rfl) (fin 16 16 io)
    .have z:b.toNat=98:=by
      have:(b.toNat:Int)=98:=by simpa using x
      omega
     rw[ag z];exact aQ (by rw[z];rfl) (fin 2 64 io)
def J4{P:au}{f:b3}{args:Array V}{w:I}{A:Ending->Prop}(h:ai P f args w λr d=>A r/\w=d):ai P f args w λr d=>A r/\af w d:=h.mono λ_ _ ⟨a,e⟩=>⟨a,e▸Fr.refl _ _⟩
def M4(c:UInt8)(e:cJ 16 c=true):Go.Lib.indexByte [48,49,50,51,52,53,54,55,56,57,97,98,99,100,101,102] c=(eS c:Int)/\eS c<16:=by
 have all:∀d:Fin 256,cJ 16 (cX d.val)=true->Go.Lib.indexByte [48,49,50,51,52,53,54,55,56,57,97,98,99,100,101,102] (cX d.val)=(eS (cX d.val):Int)/\eS (cX d.val)<16:=by decide+kernel
 have:=all ⟨c.toNat,c.toNat_lt⟩;simp only[UInt8.ofNat_toNat]at this;exact this e
def Zq(x y:Nat)(d:x<16)(e:y<16):W.qQ .i64 (aB .i64 ((x:Int) *2^4)) (y:Int)=((16 *x+y:Nat):Int):=by
 have all:∀x y:Fin 16,W.qQ .i64 (aB .i64 ((x.val:Int) *2^4)) (y.val:Int)=((16 *x.val+y.val:Nat):Int):=by decide+kernel
 exact all ⟨x,d⟩ ⟨y,e⟩
def Io(i:Nat)(w:I):IR->aC
 |.ok c u=>λr d=>r=ad (.tuple #[.int .u8 (c.toNat:Int),.int .i64 ((i+u:Nat):Int),.agg #[.int .i64 0,.int .i64 0]])/\af w d
 |.bad a e=>λr d=>(∃h j,r=ad (.tuple #[.int .u8 h,.int .i64 j,.agg #[.int .i64 e,.int .i64 ((i+a:Nat):Int)]]))/\af w d
def Mw(s:ByteArray)(i:Nat)(c:UInt8)(l:List UInt8)(hl:(bl s).drop i=c::l)(aN:s.size<=1000000)(w:I):ai U OH #[.string s,.int .i64 (i:Int)] w (Io i w (ei (c::l))):=by
 have N:s.size=i+l.length+1:=by have:=congrArg List.length hl;rw[h',cR]at this;simp at this;omega
 have get:∀k,s[i+k]? =(c::l)[k]?:=λk=>by rw[xM (l:=bl s) rfl,<-hl,List.getElem?_drop]
 have g0:s[i]? =some c:=get 0;have ac:s[a0 (i:Int)]? =some c:=by rw[bR];exact g0
 have e1:aB .i64 ((i:Int)+1)=((i+1:Nat):Int):=bm i io;have e2:aB .i64 ((i:Int)+2)=((i+2:Nat):Int):=by rw[bo _ io];omega
 have e4:aB .i64 ((i:Int)+4)=((i+4:Nat):Int):=by rw[bo _ io];omega
 refine p9.aq ((O.start (M:=F0) (w:=w) [] gs).ax λD w1 H1=>H1.ax λL w2 H2=>H2.ax λF w3 K=>?_);have K:O F0 w w3 [.g D,.g L,.g F] []:=K;refine⟨io,c,ac,ct (λay=>?_) (λay=>?_)⟩
 .have aK:c.toNat≠92:=io
  have e:ei (c::l)=if c.toNat<32\/126<c.toNat then .bad 0 2 else .ok c 1:=by
   conv=>lhs;unfold ei
   simp only[ag aK]
  rw[e];have bad:c.toNat<32\/126<c.toNat->loc [D,L,F] w3 λH=>p9.aV (i:Int) D 0 0 F 2 (i:Int) H (Io i w (if c.toNat<32\/126<c.toNat then .bad 0 2 else .ok c 1)):=λaj=>by rw[ag aj];exact K.ae λP z=>z.ae λG C=>⟨⟨_,_,rfl⟩,C.fr⟩
  refine⟨io,c,ac,aT (λap=>bad io) (λap=>⟨io,c,ac,aT (λao=>bad io) (λao=>⟨io,c,ac,K.ae λP z=>?_⟩)⟩)⟩;rw[ab io,e1];exact⟨rfl,z.fr⟩
 .have J:¬c.toNat≠92:=io
  rw[e1];cases l with
  |nil=>
   have e:ei [c]=.bad 1 3:=by(conv=>lhs;unfold ei);simp only[ab J]
   rw[e];refine aR (by simp at N;simp[N]) (K.ae λP z=>?_);rw[show s.size=i+1 by simpa using N];exact⟨⟨_,_,rfl⟩,z.fr⟩
  |cons h l2=>
   refine aQ (by simp at N;simp;omega) ⟨io,h,get 1,K.ae λP z=>?_⟩;have two:∀(x:Int),p9.bH (i:Int) D 0 0 x P λr q=>r=ad (.tuple #[.int .u8 x,.int .i64 ((i+2:Nat):Int),.agg #[.int .i64 0,.int .i64 0]])/\af w q:=λx=>z.ae λG C=>by rw[e2];exact⟨rfl,C.fr⟩
   refine ct (λan=>?_) (λan=>?_)
   .have aJ:h.toNat≠120:=io
    have e:ei (c::h::l2)=if h.toNat=34\/h.toNat=92 then .ok h 2 else .bad 0 2:=by
     conv=>lhs;unfold ei
     simp only[ab J,ag aJ]
    rw[e];refine ct (λar=>ct (λaz=>z.ae λG C=>?_) (λaz=>?_)) (λar=>?_)
    .rw [ab io];exact⟨⟨_,_,rfl⟩,C.fr⟩
    .rw [ag (.inr io)];exact two _
    .rw [ag (.inl io)];exact two _
   .have Y:¬h.toNat≠120:=io
    have W:¬(h.toNat=34\/h.toNat=92):=io
    rw[e2];have aa:∀(k:Nat) (Z:Nat) (G:I) (R:aC),k<i+4->i+2<=k->O F0 w G [.g D,.g L,.g F] []->Z<16->
      (s.size=k->∀q,af w q->R (ad (.tuple #[.int .u8 0,.i (i:Int),.agg #[.i 3,.i (s.size:Int)]])) q)->
      (∀x,s[k]? =some x->cJ 16 x=false->∀q,af w q->R (ad (.tuple #[.int .u8 0,.i (i:Int),.agg #[.i 2,.i (i:Int)]])) q)->
      (∀x y,s[k]? =some x->cJ 16 x=true->O F0 w y [.g D,.g L,.g F] []->p9.iI s (i:Int) D 0 0 L 3 (s.size:Int) F 2 (i:Int) ((16 *Z+eS x:Nat):Int) ((k+1:Nat):Int) y R)->k<=s.size->
      p9.iI s (i:Int) D 0 0 L 3 (s.size:Int) F 2 (i:Int) (Z:Int) ((k:Nat):Int) G R:=by
     intro k Z G R hk aL C hb h1 h2 h3 aM;refine p9.om ?_;rw[e4];refine aR (a5 io) (aw (λB=>C.ae λy E=>h1 io y E.fr) (λB=>?_));have aA:k<s.size:=io
     have d:s[k]? =some s[k]:=getElem?_pos s k aA;generalize s[k]=x at d;refine⟨io,x,by rw[bR];exact d,C.av (A:=λr _=>r=ad (.bool (cJ 16 x))) (J4 (E3 x 16 G)) ?_⟩;rintro _ y rfl E;refine⟨_,rfl,eU (λj=>E.ae λH S=>h2 x d j H S.fr) (λj=>⟨io,x,by rw[bR];exact d,E.av (A:=λr _=>r=ad (.int .i64 (Go.Lib.indexByte [48,49,50,51,52,53,54,55,56,57,97,98,99,100,101,102] x))) (J4 (AE _ x y)) ?_⟩)⟩;rintro _ H rfl S;refine⟨_,rfl,?_⟩;obtain⟨aH,ah⟩:=M4 x j;show p9.iI _ _ _ _ _ _ _ _ _ _ _ _ (aB .i64 ((k:Int)+1)) H R;rw[aH,Zq _ _ hb ah,bm k io];exact h3 x H d j S
    cases l2 with
    |nil=>
     have e:ei [c,h]=.bad 2 3:=by
      conv=>lhs;unfold ei
      simp only[ab J,ab W,ab Y]
     rw[e];have B:s.size=i+2:=by simpa using N
     refine aa (i+2) 0 P _ io io z io (λ_ q f=>?_) (λx d=>?_) (λx y d=>?_) io
     .rw [B];exact⟨⟨_,_,rfl⟩,f⟩
     .rw [get 2]at d;simp at d
     .rw [get 2]at d;simp at d
    |cons x l3=>
     have B:s.size=i+l3.length+3:=by simp at N;omega
     refine aa (i+2) 0 P _ io io z io (λaj=>io) (λx' d j q f=>?_) (λx' y d j E=>?_) io
     .rw [get 2]at d;have:x=x':=by simpa using d
      subst this;have aG:¬cJ 16 x=true:=by simp[j]
      have e:ei (c::h::x::l3)=.bad 0 2:=by
       conv=>lhs;unfold ei
       simp only[ab J,ab W,ab Y,ab aG]
      rw[e];exact⟨⟨_,_,rfl⟩,f⟩
     .rw [get 2]at d;have:x=x':=by simpa using d
      subst this;have ah:=(M4 x j).2;rw[show 16 *0+eS x=eS x by omega];cases l3 with
      |nil=>
       have e:ei [c,h,x]=.bad 3 3:=by
        conv=>lhs;unfold ei
        simp only[ab J,ab W,ab Y,ag j]
       rw[e];have B:s.size=i+3:=by simpa using B
       refine aa (i+3) _ y _ io io E ah (λ_ q f=>?_) (λx d=>?_) (λx y d=>?_) io
       .rw [B];exact⟨⟨_,_,rfl⟩,f⟩
       .rw [get 3]at d;simp at d
       .rw [get 3]at d;simp at d
      |cons Q l4=>
       have B:s.size=i+l4.length+4:=by simp at B;omega
       refine aa (i+3) _ y _ io io E ah (λaj=>io) (λy' T am q f=>?_) (λy' H T am S=>?_) io
       .rw [get 3]at T;have:Q=y':=by simpa using T
        subst this;have aI:¬cJ 16 Q=true:=by simp[am]
        have e:ei (c::h::x::Q::l4)=.bad 0 2:=by
         conv=>lhs;unfold ei
         simp only[ab J,ab W,ab Y,ag j,ab aI]
        rw[e];exact⟨⟨_,_,rfl⟩,f⟩
       .rw [get 3]at T;have:Q=y':=by simpa using T
        subst this;have e:ei (c::h::x::Q::l4)=.ok (cX (16 *eS x+eS Q)) 4:=by
         conv=>lhs;unfold ei
         simp only[ab J,ab W,ab Y,ag j,ag am]
        rw[e];refine p9.om ?_;rw[e4];refine aQ (a2 io) (S.ae λw8 H8=>⟨?_,H8.fr⟩);rw[H3,UInt8.toNat_ofNat']
namespace xJ
def a1:=bq (ay U Tryz.f56 [(8,lr 4)] [6,10]) [0,1,1,1,2] [(0,.st),(1,.I),(6,.l [.I,.I] ju),(7,.s)]
abbrev t1:=bp a1
def bS:=bE t1 a1
def aq:=aA t1 OI [.st,.I]
end xJ
namespace MQ
def ok:=aA (ay U Tryz.f35 [] []) OJ [.st]
end MQ
namespace kX
abbrev P0:Ps:=[(0,.r),(1,.r)]
def L0:=bq (ay U Tryz.f53 [] []) [0,1] P0
abbrev t1:=bp L0
def L2:=bq t1 [0,1,1,1,1,2] P0
abbrev t2:=bp L2
def px:=bE t2 L2
abbrev S1:=ah t2 [1,2] P0
abbrev t3:=aj S1
def b':=bE t3 L0
def ok:=aA t3 qf [.r,.r]
end kX
namespace nY
abbrev S1:=ah (ay U Tryz.f55 [(16,lr 4),(24,lr 7),(26,lr 5),(6,lr 5)] []) [5] [(3,.r),(4,.r),(5,.r)]
abbrev t1:=aj S1
abbrev P0:Ps:=[(1,.r),(2,.r),(3,.r),(4,.r),(5,.r)]
def L2:=bq t1 [0,3,7,1,1,1,4] P0
abbrev t2:=bp L2
abbrev S3:=ah t2 [1,4,7,1,1,1,4] P0
abbrev t3:=aj S3
abbrev S5:=ah t3 [5,1,7,1,1,1,4] [(3,.r),(4,.r),(5,.r),(10,.I)]
abbrev t4:=aj S5
abbrev S4:=ah t4 [1,1,7,1,1,1,4] P0
abbrev t5:=aj S4
def px:=bE t5 L2
abbrev S0:=ah t5 [1,1,4] [(1,.r),(2,.r),(3,.r),(4,.r),(5,.r),(6,.Y)]
abbrev t6:=aj S0
def ok:=aA t6 xX [.r,.r,.r]
end nY
namespace MP
def ok:=aA (ay U Tryz.f34 [] []) OF [.f]
end MP
namespace Ar
noncomputable def C0:Code:=(Tryz.f52.body).getD .skip
noncomputable def C1:=C0.fs
noncomputable def C2:=C1.fs
abbrev Q0(R:aC):ly:=(bodyPost U Tryz.f52 R)
abbrev Q1(R:aC):ly:=(Exit.inBlock 0 (Q0 R))
def L0(e:Nat)(d:Addr)(w:I)(R:aC):Prop:=LP U (cx 25) C2 (Q1 R) [(0,.func (.yield e) #[] #[]),(1,.pointer (some d))] w
def qJ(E:Env)(w:I)(R:aC):Prop:=W.zA (Env.get? E 0) λe=>W.b7 (Env.get? E 1) λd=>L0 e d w R
def ua:It U 25 qJ C2 Q1:=by intro q k x e;obtain⟨y,h,h_1⟩:=W.IW e;obtain⟨w,j,h_2⟩:=W.cr h_1;intro a d;exact h_2 a (d.cons h (d.cons j d.nil))
noncomputable def C3:=C2.fs
noncomputable def C4:=C3.sn
noncomputable def C5:=C4.sn
noncomputable def C6:=C5.fs
noncomputable def C7:=C5.sn
def b'(q:Nat)(h:Addr)(w:I)(R:aC)(G:∃j:Fv,w.cell? h=some (j.v)/\
 cM (hy U j.n) (ai U j.n (j.bs++#[]++j.cs) w λH x=>∃A:Int,∃B:ByteArray,∃C:Int,∃D:Int,∃F:Int,H=ad (.tuple #[.agg #[.i A,.string B,.i C],.agg #[.i D,.i F]])/\
 de x (.cells #[.i 0,.s0,.i 0] du) λk=>
 de k (.cells #[.i 0,.i 0] ju) λO=>
 BS O (nb x) (.i A) (.string B) (.i C) λP=>aN P (nb k) (.i D) λQ=>
 aN Q ((nb k).add 1) (.i F) λz=>
 MA z (nb x) λJ K L=>Z3 z (nb k) λM N=>pd U q #[.agg #[.i J,.string K,.i L],.agg #[.i M,.i N]] z λ(t13:Bool) e=>bD (!t13) (R (ad (.tuple #[])) e) (∃t17:Int,e.cell? ((nb k).add 0)=some (.i t17)/\
 bD (t17 !=0) (R (ad (.tuple #[])) e) (∃t22:Int,e.cell? ((nb x).add 0)=some (.i t22)/\
 bD (t22==6) (R (ad (.tuple #[])) e) (L0 q h e R))))):L0 q h w R:=
 LP.step (n:=(cx 25)) (c:=C2) (E:=[(0,.func (.yield q) #[] #[]),(1,.pointer (some h))]) (w:=w) (bk C2 1 (by kernel_rfl) (sr C3 (show(λ(E:Env) (w:I)=>eV U C3 (λE w=>eV U C4 (λE w=>iM (Env.val E (.tmp 24)) (lW U Tryz.f52 E w (λv=>R (ad v) w)) (qJ E w R)) E w) E w) [(0,.func (.yield q) #[] #[]),(1,.pointer (some h))] w from mp G) λ_ _ d=>(sr C4 d λ_ _ d=>(cn C5 d (λd=>(rt C6 λa y=>yv y d)) (λd=>(sk C7 λa y=>ua R _ _ d a y))))))
def ok(e:Nat)(d:Addr)(w:I)(R:aC)(h:L0 e d w R):ai U sU #[.func (.yield e) #[] #[],.pointer (some d)] w R:=
 wW (R:=R) (fn:=Tryz.f52) (c:=C0) (args:=[.func (.yield e) #[] #[],.pointer (some d)]) (by kernel_rfl) (by kernel_rfl) (by kernel_rfl) (bk C0 0 (by kernel_rfl) (lp C1 (by kernel_rfl) (ua R _ _ (show(λ(E:Env) (w:I)=>qJ E w R) (kS 0 [.func (.yield e) #[] #[],.pointer (some d)]) w from mp h))))
end Ar
namespace E9
noncomputable def C0:Code:=(Tryz.f16.body).getD .skip
noncomputable def C1:=C0.sn
noncomputable def C2:=C1.sn
noncomputable def C3:=C2.sn
noncomputable def C4:=C3.fs
noncomputable def C5:=C4.sn
noncomputable def C6:=C5.fs
noncomputable def C7:=W.Code.I2 C6
noncomputable def C8:=W.Code.I9 C6
noncomputable def C9:=C8.fs
noncomputable def kB:=C9.fs
noncomputable def kC:=kB.sn
noncomputable def l5:=kC.fs
abbrev Q0(l_:Nat)(d:Loop)(R:aC):Exit->Act->I->Prop:=(roundPost U l_ R)
noncomputable def nF:=C9.sn
abbrev Q1(l_:Nat)(d:Loop)(R:aC):Exit->Act->I->Prop:=(Exit.then (g5 U ⟨28,[],some l_⟩ nF (Exit.inBlock 1 (Q0 l_ d R))) (Exit.inBlock 1 (Q0 l_ d R)))
noncomputable def ph:=l5.fs
noncomputable def qH:=l5.sn
abbrev S4(l_:Nat)(j:eQ->Option Code->Obj)(t2 t3 t4 d:Addr)(w:I)(R:aC):Prop:=
 uI w λe=>∃t20:Int,e.cell? (d.add 1)=some (.i t20)/\
 ∃t22:Int,e.cell? (d.add 0)=some (.i t22)/\
 aN e t2 (.slice none 0 0) λh=>
 h.cell? (d.add 0)=some (.i t22)/\h.cell? (d.add 1)=some (.i t20)/\aN h t3 (.i t20) λk=>
 k.cell? (d.add 0)=some (.i t22)/\aN k t4 (.i t22) λq=>
 hG q l_ (j .busy none) (j .done (some .ret)) λx=>R (ad (.bool false)) x
def zd(l_:Nat)(e:eQ->Option Code->Obj)(E:Env)(w:I)(R:aC):Prop:=W.b7 (Env.get? E 2) λh=>W.b7 (Env.get? E 3) λj=>W.b7 (Env.get? E 4) λk=>W.b7 (Env.get? E 7) λd=>S4 l_ e h j k d w R
def CD(l_:Nat)(e:Loop)(R:aC)(E:Env)(w:I)(q:zd l_ (lo e) E w R):WP U ⟨28,[],some l_⟩ l5 (Q1 l_ e R) E w:=by obtain⟨F,A,h_1⟩:=W.cr q;obtain⟨G,B,h_2⟩:=W.cr h_1;obtain⟨H,C,h_3⟩:=W.cr h_2;obtain⟨k,D,z⟩:=W.cr h_3;exact λa d=>WP.at (n:=⟨28,[],some l_⟩) (E:=[(2,.pointer (some F)),(3,.pointer (some G)),(4,.pointer (some H)),(7,.pointer (some k))]) (WP.seq (c:=l5) (x:=ph) (y:=qH) (by kernel_rfl)<|WP.draw (c:=ph) [0,1,2,3,4,5,6] (λE w=>hG w l_ ((lo e) .busy none) ((lo e) .done (some .ret)) λJ=>R (ad (.bool false)) J) (by kernel_rfl) (mp z) λ_ _ a h j=>(WP.ret (c:=qH) (Q:=(Q1 l_ e R)) (by kernel_rfl) λa h=>(show roundPost U l_ R .ret a _ from Sy (a:=a) (j).1 (j).2)) a h) (d.cons A (d.cons B (d.cons C (d.cons D d.nil))))
abbrev Q2(l_:Nat)(d:Loop)(R:aC):Exit->Act->I->Prop:=(Exit.inBlock 1 (Q0 l_ d R))
abbrev S5(l_:Nat)(e:eQ->Option Code->Obj)(d x:Addr)(w:I)(R:aC):Prop:=
 ∃t23:Sl,w.cell? d=some (t23.v)/\
 MA w x λj k q=>de w (.cells #[.i j,.string k,.i q] du) λy=>
 ∃(t26:Sl) (h:I),Sem.run U (Builtin.append_ #[rG,rG] rG #[t23.v,.slice (some (nb w)) 1 1]) y=.ok (t26.v) h/\aN h d (t26.v) λz=>
 hG z l_ (e .busy none) (e .ready none) λA=>R (ad (.bool true)) A
def wA(l_:Nat)(e:eQ->Option Code->Obj)(E:Env)(w:I)(R:aC):Prop:=W.b7 (Env.get? E 5) λd=>W.b7 (Env.get? E 6) λh=>S5 l_ e d h w R
def CE(l_:Nat)(d:Loop)(R:aC)(E:Env)(w:I)(j:wA l_ (lo d) E w R):WP U ⟨28,[],some l_⟩ nF (Q2 l_ d R) E w:=by obtain⟨x,k,h_1⟩:=W.cr j;obtain⟨y,q,h_2⟩:=W.cr h_1;exact λa e=>WP.at (n:=⟨28,[],some l_⟩) (E:=[(5,.pointer (some x)),(6,.pointer (some y))]) (WP.mE (c:=nF) (λE w=>hG w l_ ((lo d) .busy none) ((lo d) .ready none) λz=>R (ad (.bool true)) z) (by kernel_rfl) (mp h_2) λ_ _ a A h=>Sx (a:=a) (h).1 (h).2) (e.cons k (e.cons q e.nil))
noncomputable def mP:=kB.fs
noncomputable def pj:=kC.sn
abbrev S3(l_:Nat)(e:eQ->Option Code->Obj)(t2 t3 t4 h j d:Addr)(w:I)(R:aC):Prop:=
 ∃t17:Int,w.cell? (d.add 0)=some (.i t17)/\
 bD (t17 !=0) (S4 l_ e t2 t3 t4 d w R) (S5 l_ e h j w R)
def wz(l_:Nat)(h:eQ->Option Code->Obj)(E:Env)(w:I)(R:aC):Prop:=W.b7 (Env.get? E 2) λj=>W.b7 (Env.get? E 3) λk=>W.b7 (Env.get? E 4) λq=>W.b7 (Env.get? E 5) λe=>W.b7 (Env.get? E 6) λx=>W.b7 (Env.get? E 7) λd=>S3 l_ h j k q e x d w R
def CC(l_:Nat)(e:Loop)(R:aC)(E:Env)(w:I)(q:wz l_ (lo e) E w R):WP U ⟨28,[],some l_⟩ kB (Q1 l_ e R) E w:=by obtain⟨L,C,h_1⟩:=W.cr q;obtain⟨M,D,h_2⟩:=W.cr h_1;obtain⟨N,F,h_3⟩:=W.cr h_2;obtain⟨K,G,z⟩:=W.cr h_3;obtain⟨O,H,A⟩:=W.cr z;obtain⟨k,J,B⟩:=W.cr A;exact λa d=>WP.at (n:=⟨28,[],some l_⟩) (E:=[(2,.pointer (some L)),(3,.pointer (some M)),(4,.pointer (some N)),(5,.pointer (some K)),(6,.pointer (some O)),(7,.pointer (some k))]) (WP.seq (c:=kB) (x:=mP) (y:=kC) (by kernel_rfl)<|WP.mE (c:=mP) (λE w=>iM (Env.val E (.tmp 18)) (zd l_ (lo e) E w R) (wA l_ (lo e) E w R)) (by kernel_rfl) (mp B) λ_ _ a j h=>(WP.iM (c:=kC) (x:=l5) (y:=pj) (o:=.tmp 18) (by kernel_rfl) (λh=>(CD l_ e R _ _ h)) (λh=>(WP.skip (c:=pj) (by kernel_rfl) λa j=>(CE l_ e R _ _ h) a j)) h) a j) (d.cons C (d.cons D (d.cons F (d.cons G (d.cons H (d.cons J d.nil))))))
noncomputable def nG:=C7.sn
abbrev Q3(l_:Nat)(d:Loop)(R:aC):Exit->Act->I->Prop:=(wE U 28 l_ d C8 (roundPost U l_ R))
abbrev S2(l_:Nat)(d:eQ->Option Code->Obj)(t2 t3 t4 e k:Addr)(h j:Int)(w:I)(R:aC):Prop:=
 de w (.cells #[.i 0,.i 0] ju) λq=>
 aN q (nb w) (.i h) λx=>
 aN x ((nb w).add 1) (.i j) λy=>
 hG y l_ (d .ready none) (d .busy none) λz=>S3 l_ d t2 t3 t4 e k (nb w) z R
def wy(l_:Nat)(e:eQ->Option Code->Obj)(E:Env)(w:I)(R:aC):Prop:=W.b7 (Env.get? E 2) λA=>W.b7 (Env.get? E 3) λB=>W.b7 (Env.get? E 4) λC=>W.b7 (Env.get? E 5) λd=>W.b7 (Env.get? E 6) λD=>W.asAgg (Env.get? E 15) λk=>W.jF k λy q=>W.asInt .i64 (some y) λh=>W.jF q λz x=>W.asInt .i64 (some z) λj=>W.l9 x<|S2 l_ e A B C d D h j w R
def CB(l_:Nat)(e:Loop)(R:aC)(E:Env)(w:I)(j:wy l_ (lo e) E w R):WP U ⟨28,[],some l_⟩ nG (Q3 l_ e R) E w:=by obtain⟨S,J,h_1⟩:=W.cr j;obtain⟨T,K,h_2⟩:=W.cr h_1;obtain⟨Y,L,h_3⟩:=W.cr h_2;obtain⟨O,M,A⟩:=W.cr h_3;obtain⟨Z,N,B⟩:=W.cr A;obtain⟨aa,H,C⟩:=W.zy B;obtain⟨ae,ab,rfl,D⟩:=W.lE C;obtain⟨P,ex,F⟩:=W.nP D;obtain rfl:=ed ex;obtain⟨af,ac,rfl,G⟩:=W.lE F;obtain⟨Q,ex,q⟩:=W.nP G;obtain rfl:=ed ex;obtain⟨rfl,z⟩:=W.qO q;exact λa d=>WP.at (n:=⟨28,[],some l_⟩) (E:=[(2,.pointer (some S)),(3,.pointer (some T)),(4,.pointer (some Y)),(5,.pointer (some O)),(6,.pointer (some Z)),(15,.agg #[.i P,.i Q])]) (WP.mE (c:=nG) (λE w=>w.heap[l_]? =some (lo e .ready none)/\((λw=>wz l_ (lo e) E w R) (w.putObj l_ (lo e .busy none)))) (by kernel_rfl) (mp z) λ_ _ a k h=>⟨(h).1,(WP.block (c:=C8) (x:=C9) (id:=1) (by kernel_rfl) (WP.seq (c:=C9) (x:=kB) (y:=nF) (by kernel_rfl) (CC l_ e R _ _ (h).2))) a k⟩) (d.cons J (d.cons K (d.cons L (d.cons M (d.cons N (d.cons H d.nil))))))
noncomputable def po:=C7.fs
abbrev S1(l_:Nat)(e:eQ->Option Code->Obj)(t2 t3 t4 d:Addr)(h:Int)(j:ByteArray)(k q x:Int)(w:I)(R:aC):Prop:=
 de w (.cells #[.i 0,.s0,.i 0] du) λy=>
 BS y (nb w) (.i h) (.string j) (.i k) λz=>S2 l_ e t2 t3 t4 d (nb w) q x z R
def Cz(l_:Nat)(e:eQ->Option Code->Obj)(E:Env)(w:I)(R:aC):Prop:=W.b7 (Env.get? E 2) λM=>W.b7 (Env.get? E 3) λN=>W.b7 (Env.get? E 4) λO=>W.b7 (Env.get? E 5) λd=>W.asAgg (Env.get? E 14) λq=>W.jF q λA x=>W.asInt .i64 (some A) λh=>W.jF x λB y=>W.qP (some B) λj=>W.jF y λC z=>W.asInt .i64 (some C) λk=>W.l9 z<|W.asAgg (Env.get? E 15) λG=>W.jF G λK H=>W.asInt .i64 (some K) λD=>W.jF H λL J=>W.asInt .i64 (some L) λF=>W.l9 J<|S1 l_ e M N O d h j k D F w R
def CA(l_:Nat)(e:Loop)(R:aC)(E:Env)(w:I)(h:Cz l_ (lo e) E w R):WP U ⟨28,[],some l_⟩ C7 (Q3 l_ e R) E w:=by obtain⟨t2,S,h_1⟩:=W.cr h;obtain⟨t3,T,h_2⟩:=W.cr h_1;obtain⟨t4,Y,h_3⟩:=W.cr h_2;obtain⟨l5,Z,J⟩:=W.cr h_3;obtain⟨ag,P,K⟩:=W.zy J;obtain⟨an,ah,rfl,L⟩:=W.lE K;obtain⟨aa,ex,M⟩:=W.nP L;obtain rfl:=ed ex;obtain⟨ao,aj,rfl,N⟩:=W.lE M;obtain⟨ab,ex,O⟩:=W.uq N;obtain rfl:=ed ex;obtain⟨ap,am,rfl,q⟩:=W.lE O;obtain⟨ac,ex,z⟩:=W.nP q;obtain rfl:=ed ex;obtain⟨rfl,A⟩:=W.qO z;obtain⟨aq,Q,B⟩:=W.zy A;obtain⟨aw,ar,rfl,C⟩:=W.lE B;obtain⟨ae,ex,D⟩:=W.nP C;obtain rfl:=ed ex;obtain⟨ax,av,rfl,F⟩:=W.lE D;obtain⟨af,ex,G⟩:=W.nP F;obtain rfl:=ed ex;obtain⟨rfl,H⟩:=W.qO G;exact λa d=>WP.at (n:=⟨28,[],some l_⟩) (E:=[(2,.pointer (some t2)),(3,.pointer (some t3)),(4,.pointer (some t4)),(5,.pointer (some l5)),(14,.agg #[.i aa,.string ab,.i ac]),(15,.agg #[.i ae,.i af])]) (WP.seq (c:=C7) (x:=po) (y:=nG) (by kernel_rfl)<|WP.mE (c:=po) (λE w=>wy l_ (lo e) E w R) (by kernel_rfl) (mp H) λ_ _ a j k=>(CB l_ e R _ _ k) a j) (d.cons S (d.cons T (d.cons Y (d.cons Z (d.cons P (d.cons Q d.nil))))))
abbrev rM(l_:Nat)(e:eQ->Option Code->Obj)(t2 t3 t4 d y:Addr)(h:Int)(j:ByteArray)(k q x:Int)(w:I)(R:aC):Prop:=
 S1 l_ e t2 t3 t4 d h j k q x w R
def CT(l_:Nat)(d:Loop)(t2 t3 t4 e h:Addr)(j:Int)(k:ByteArray)(q x y:Int)(w:I)(R:aC)(z:rM l_ (lo d) t2 t3 t4 e h j k q x y w R):WP U ⟨28,[],some l_⟩ C7 (wE U 28 l_ d C8 (roundPost U l_ R)) (qn [(2,.pointer (some t2)),(3,.pointer (some t3)),(4,.pointer (some t4)),(5,.pointer (some e)),(13,.func (.func sU) #[] #[.pointer (some h)])] [14,15] [.agg #[.i j,.string k,.i q],.agg #[.i x,.i y]]) w:=
 (CA l_ d R _ _ (mp z))
noncomputable def kD:=C3.sn
abbrev Q4(R:aC):ly:=(bodyPostM Fence.wide 0 U Tryz.f16 R)
noncomputable def nH:=kD.fs
noncomputable def rO:=kD.sn
abbrev S6(k:Nat)(t2 t3 t4 q:Addr)(w:I)(R:aC):Prop:=
 ∃t27:Sl,w.cell? q=some (t27.v)/\
 aN w t2 (t27.v) λx=>
 aN x t3 (.i 0) λy=>
 aN y t4 (.i 0) λz=>
 hG z k (.deferred (some [])) (.deferred none) λd=>∃e:Sl,d.cell? t2=some (e.v)/\
 ∃h:Int,d.cell? t3=some (.i h)/\
 ∃j:Int,d.cell? t4=some (.i j)/\
 R (ad (.tuple #[e.v,.i h,.i j])) d
def ze(d:Nat)(E:Env)(w:I)(R:aC):Prop:=W.b7 (Env.get? E 2) λh=>W.b7 (Env.get? E 3) λj=>W.b7 (Env.get? E 4) λk=>W.b7 (Env.get? E 5) λe=>S6 d h j k e w R
def CF(e:Nat)(R:aC)(E:Env)(w:I)(j:ze e E w R):WP U (marked 28 e) kD (Q4 R) E w:=by obtain⟨F,z,h_1⟩:=W.cr j;obtain⟨G,A,h_2⟩:=W.cr h_1;obtain⟨H,B,h_3⟩:=W.cr h_2;obtain⟨D,C,q⟩:=W.cr h_3;exact λa d=>WP.at (n:=(marked 28 e)) (E:=[(2,.pointer (some F)),(3,.pointer (some G)),(4,.pointer (some H)),(5,.pointer (some D))]) (WP.seq (c:=kD) (x:=nH) (y:=rO) (by kernel_rfl)<|WP.mE (c:=nH) (λE w=>Bu U Tryz.f16 E w e R) (by kernel_rfl) (mp q) λ_ _ a h k=>(WP.ret (c:=rO) (by kernel_rfl) λa h=>yw h k) a h) (d.cons z (d.cons A (d.cons B (d.cons C d.nil))))
abbrev S0(t2 t3 t4 y C:Addr)(w:I)(R:aC):Prop:=
 ∀d:eQ->Option Code->Obj,(∀(D:Int) (E:ByteArray) (F G H:Int) (k:I) (q:Bool->I->Prop),k.heap[w.heap.size+1]? =some (d .ready none)->rM (w.heap.size+1) d t2 t3 t4 y C D E F G H k (λj K=>∃x:Bool,j=ad (.bool x)/\q x K)->pd U (w.heap.size+1) #[.agg #[.i D,.string E,.i F],.agg #[.i G,.i H]] k q)->
 ai U sU #[.func (.yield (w.heap.size+1)) #[] #[],.pointer (some C)] ((w.alloc (.deferred (some []))).alloc (d .ready none)) λj L=>(∃J,j=ad J)/\rR L (w.heap.size+1) d (λe=>S6 w.heap.size t2 t3 t4 y e R) (λM e=>False) (λe=>hG e w.heap.size (.deferred (some [])) (.deferred none) λh=>∃z:Sl,h.cell? t2=some (z.v)/\
 ∃A:Int,h.cell? t3=some (.i A)/\
 ∃B:Int,h.cell? t4=some (.i B)/\
 R (ad (.tuple #[z.v,.i A,.i B])) h)
abbrev Q5(R:aC):ly:=(Exit.then (g5 U (cx 28) kD (bodyPostM Fence.wide 0 U Tryz.f16 R)) (bodyPostM Fence.wide 0 U Tryz.f16 R))
abbrev Q6(R:aC):ly:=(Exit.inBlock 0 (Q5 R))
def ub(E:Env)(w:I)(R:aC):Prop:=W.b7 (Env.get? E 2) λx=>W.b7 (Env.get? E 3) λy=>W.b7 (Env.get? E 4) λz=>W.b7 (Env.get? E 5) λd=>W.uo sU (Env.get? E 13) λk h=>W.l9 k<|W.jF h λq j=>W.b7 (some q) λe=>W.l9 j<|S0 x y z d e w R
def Cy:Iq U 28 ub C6 Q6:=by
 intro x aj C y;obtain⟨j,ac,h_1⟩:=W.cr y;obtain⟨k,ae,h_2⟩:=W.cr h_1;obtain⟨q,af,h_3⟩:=W.cr h_2;obtain⟨A,ag,O⟩:=W.cr h_3;obtain⟨ap,an,ab,P⟩:=W.IU O;obtain⟨rfl,Q⟩:=W.qO P;obtain⟨aq,ao,rfl,S⟩:=W.lE Q;obtain⟨B,ex,T⟩:=W.cr S;obtain rfl:=ed ex;obtain⟨rfl,Y⟩:=W.qO T;exact λa d=>WP.at (n:=(cx 28)) (E:=[(2,.pointer (some j)),(3,.pointer (some k)),(4,.pointer (some q)),(5,.pointer (some A)),(13,.func (.func sU) #[] #[.pointer (some B)])]) (WP.range (m:=28) (c:=C6) (g:=.tmp 13) (ps:=#[14,15]) (assign:=C7) (body:=C8) (gf:=sU) (lb:=#[.pointer (some B)]) (λe=>S6 C.heap.size j k q A e x) (λam e=>False) (λe=>hG e C.heap.size (.deferred (some [])) (.deferred none) λw=>∃D:Sl,w.cell? j=some (D.v)/\
 ∃F:Int,w.cell? k=some (.i F)/\
 ∃G:Int,w.cell? q=some (.i G)/\
 x (ad (.tuple #[D.v,.i F,.i G])) w) (by kernel_rfl) rfl (by kernel_rfl)
  (λe h a z=>(CF C.heap.size x _ _ (mp h)) a z)
  (λ_ _ h=>h.elim)
  (λe h a z=>yw z (mp h))
  (λH ah=>Y (lo H) (λJ K L M N w_ K_ aa Z=>Vb (args:=[.agg #[.i J,.string K,.i L],.agg #[.i M,.i N]]) ah aa rfl (by kernel_rfl) (λ_ _ y=>y) (CT _ H j k q A B J K L M N w_ _ Z)))) (d.cons ac (d.cons ae (d.cons af (d.cons ag (d.cons ab d.nil)))))
noncomputable def qI:=C1.fs
noncomputable def tW:=qI.sn
noncomputable def tX:=tW.fs
noncomputable def y9:=tX.sn
noncomputable def y':=tW.sn
def ok(e:ByteArray)(w:I)(R:aC)(B:de w (.cells #[.slice none 0 0] rG) λh=>
 de h (.cells #[.i 0] bz) λj=>
 de j (.cells #[.i 0] hr) λx=>
 bD (ak ((e.size:Int)>65536)) (aN x (nb w) (.slice none 0 0) λJ=>
 aN J (nb h) (.i 65536) λK=>
 aN K (nb j) (.i 4) λk=>
 ∃y:Sl,k.cell? (nb w)=some (y.v)/\
 ∃z:Int,k.cell? (nb h)=some (.i z)/\
 ∃A:Int,k.cell? (nb j)=some (.i A)/\
 R (ad (.tuple #[y.v,.i z,.i A])) k) (de x (.cells #[.slice none 0 0] rG) λL=>
 Dz OJ #[.string e] L λt12 M=>Dz OF #[t12] M λt13 N=>W.uo sU (some t13) λG D=>W.l9 G<|W.jF D λH F=>W.b7 (some H) λC=>W.l9 F<|S0 (nb w) (nb h) (nb j) (nb x) C N R)):ai U OB #[.string e] w R:=
 J1 (R:=R) (fn:=Tryz.f16) (c:=C0) (args:=[.string e]) (by kernel_rfl) (by kernel_rfl) (by kernel_rfl) (sr C0 (show(λ(E:Env) (w:I)=>eV U C0 (λE w=>eV U qI (λE w=>iM (Env.val E (.tmp 10)) (eV U tX (λE w=>lW U Tryz.f16 E w (λv=>R (ad v) w)) E w) (eV U C2 (λE w=>eV U C4 (λE w=>ub E w R) E w) E w)) E w) E w) (kS 0 [.string e]) w from mp B) λ_ _ d=>(sq C1 (sr qI d λ_ _ d=>(cn tW d (λd=>(sr tX d λ_ _ d=>(rt y9 λa q=>Sw q d))) (λd=>(sk y' λa q=>nx q (sr C2 d λ_ _ d=>(sq C3 (sr C4 d λ_ _ d=>(bk C5 0 (by kernel_rfl) (Cy R _ _ d)))))))))))
end E9
def wG(k:Nat)(acc:List UInt8)(w:I):QR->aC
 |.ok t u=>λr d=>r=ad (.tuple #[.string (ba (acc++t)),.int .i64 ((k+u:Nat):Int),.agg #[.int .i64 0,.int .i64 0]])/\af w d
 |.bad a e=>λr d=>(∃h j,r=ad (.tuple #[.string h,.int .i64 j,.agg #[.int .i64 e,.int .i64 ((k+a:Nat):Int)]]))/\af w d
def Ak{l:List UInt8}{d:UInt8}{u:Nat}(e:ei l=.ok d u):1<=u/\u<=l.length:=by
 unfold ei at e;cases l with
 |nil=>cases e
 |cons c l=>
  simp only[]at e;split at e
  .split at e
   .cases e
   .cases e;simp
  .cases l with
   |nil=>cases e
   |cons h l=>
    simp only[]at e;split at e
    .cases e;simp
    .split at e
     .cases e
     .cases l with
      |nil=>cases e
      |cons j l=>
       simp only[]at e;split at e
       .cases l with
        |nil=>cases e
        |cons k l=>
         simp only[]at e;split at e
         .cases e;simp
         .cases e
       .cases e
def Mg{l:List UInt8}{a:Nat}{e:Int}(d:ei l=.bad a e):e=2\/e=3:=by
 unfold ei at d;split at d
 .cases d;simp
 .split at d
  .split at d<;>cases d;simp
  .split at d
   .cases d;simp
   .split at d
    .cases d
    .split at d
     .cases d;simp
     .split at d
      .cases d;simp
      .split at d
       .split at d
        .cases d;simp
        .split at d<;>cases d;simp
       .cases d;simp
def Vv(k:Nat)(acc:List UInt8)(w:I)(d:UInt8)(u:Nat)(q:QR):wG k acc w (q.push d u)=wG (k+u) (acc++[d]) w q:=by cases q<;>simp[wG,QR.push,Nat.add_assoc]
def ZZ(s:ByteArray)(H:s.size<=1000000)(w0:I)(b:Nat):∀(n k:Nat) (l acc:List UInt8) (xs:List V) (text:Sl) (w:I),l.length<n->(bl s).drop k=l->k+l.length=s.size->acc.length<=k->xs=acc.map gb->
  O F0 w0 w [.g b,.row eB 1 text xs] []->xJ.a1 s (k:Int) b 0 0 text w (wG k acc w0 (qu l)):=by
 intro n;induction n with
 |zero=>intro k l acc xs text w G;omega
 |succ n Y=>
  intro k l acc xs text w G q e ha K d;cases l with
  |nil=>
   refine xJ.bS (aQ (a2 (by simp at e;omega)) (d.ae λD x=>⟨⟨a' #[],0,?_⟩,x.fr⟩));simp at e;simp[e]
  |cons c l=>
   have aa:k<s.size:=by simp at e;omega
   have S:s[k]? =some c:=by have:=xM (s:=s) (l:=bl s) rfl k;rw[this,<-List.head?_drop,q];rfl
   have J:aK w eB 1 text (acc.map gb):=K▸d.get 1;have tn:text.n=acc.length:=by have:=aK.len J;simp at this;omega
   refine xJ.bS (aR (a5 io) ⟨io,c,by rw[bR];exact S,aw (λT=>?_) (λT=>?_)⟩)
   .have Q:c.toNat=34:=io
    have C:qu (c::l)=.ok [] 1:=by unfold qu;rw[ag Q]
    rw[C];refine⟨_,r5 (aK.Bp J),d.ae λD x=>⟨?_,x.fr⟩⟩;rw[bm k io,cQ]
   .have Z:c.toNat≠34:=io
    rw[yo c l Z];cases j:ei (c::l)with
    |bad a C=>
     refine d.av (A:=λr _=>∃L M,r=ad (.tuple #[.int .u8 L,.int .i64 M,.agg #[.int .i64 C,.int .i64 ((k+a:Nat):Int)]])) ((Mw s k c l q H w).mono λr D h=>by rw[j]at h;exact h) ?_;rintro _ w1 ⟨L,M,rfl⟩ y;have he:=Mg j;exact⟨_,_,_,_,rfl,y.ax λP w2 z=>ct (λ_=>z.ae λw3 B=>⟨⟨_,_,rfl⟩,B.fr⟩) (λF=>io)⟩
    |ok E u=>
     refine d.av (A:=λr _=>r=ad (.tuple #[.int .u8 (E.toNat:Int),.int .i64 ((k+u:Nat):Int),.agg #[.int .i64 0,.int .i64 0]])) ((Mw s k c l q H w).mono λr D h=>by rw[j]at h;exact h) ?_;rintro _ w1 rfl y;obtain⟨ab,W⟩:=Ak j;refine⟨_,_,_,_,rfl,y.ax λP w2 z=>ct (λF=>absurd rfl F) (λ_=>z.ae λw3 B=>B.jE 1 mg rfl (λt w4 N=>?_) io)⟩;simp only[Vv];exact Y (k+u) ((c::l).drop u) (acc++[E]) _ t w4 (by simp at G ⊢;omega) (by rw[<-q,lT]) (by simp at W e ⊢;omega) (by simp;omega) (by simp[K,gb]) (N.take 2)
def ZY(s:ByteArray)(i:Nat)(c:UInt8)(l:List UInt8)(d:(bl s).drop i=c::l)(h:s.size<=1000000)(w:I):ai U OI #[.string s,.int .i64 (i:Int)] w (wG (i+1) [] w (qu l)):=by
 have hlen:i+(c::l).length=s.size:=by have:=congrArg List.length d;rw[h',cR]at this;simp at this ⊢;omega
 refine xJ.aq ((O.start (M:=F0) (w:=w) [] gs).ax λb j e=>?_);rw[bm i (by simp at hlen;omega)];refine ZZ s h w _ (l.length+1) (i+1) l [] [] ⟨none,0,0⟩ j io ?_ (by simp at hlen ⊢;omega) gs rfl (e.h8 _ _);rw[<-lT,d];rfl
def nO{p:UInt8->Prop}(d:∀e:Fin 256,p (cX e.val))(c:UInt8):p c:=by have:=d ⟨c.toNat,c.toNat_lt⟩;simpa only[UInt8.ofNat_toNat]using this
def adA(c:UInt8):ak (0<=Go.Lib.indexByte [9,10,13,32] c)=lg c:=nO (p:=λc=>ak (0<=Go.Lib.indexByte [9,10,13,32] c)=lg c) (by decide+kernel) c
def YQ(c:UInt8):ak (Go.Lib.indexByte [9,10,13,32,59,40,41,34] c<0)= !m4 c:=nO (p:=λc=>ak (Go.Lib.indexByte [9,10,13,32,59,40,41,34] c<0)= !m4 c) (by decide+kernel) c
def xv{s:ByteArray}{k:Nat}{c:UInt8}{l:List UInt8}(d:(bl s).drop k=c::l):s[k]? =some c/\(bl s).drop (k+1)=l/\k+l.length+1=s.size:=by
 refine⟨?_,by rw[<-lT,d];rfl,?_⟩
 .rw [xM (l:=bl s) rfl,<-List.head?_drop,d];rfl
 .have:=congrArg List.length d;rw[h',cR]at this;simp at this;omega
def Z1(s:ByteArray)(Y:s.size<=1000000)(w0:I)(h bs m:Nat)(R:aC)(E:∀K,O (·=h) w0 K [.c h [.int .i64 (m:Int)] bz] [.c bs [.string s] eH]->R (ad (.tuple #[])) K):∀(n k:Nat) (l:List UInt8) (w:I),l.length<n->(bl s).drop k=l->k<=s.size->
  O (·=h) w0 w [.c h [.int .i64 (k:Int)] bz] [.c bs [.string s] eH]->(k+bt false l=m->kX.L0 (aa h) (aa bs) w R)/\(k+bt true l=m->kX.L2 (aa h) (aa bs) w R):=by
 intro n;induction n with
 |zero=>intro k l w H;omega
 |succ n T=>
  intro k l w H G W d;cases l with
  |nil=>
   have F:¬((k:Int)<(s.size:Int)):=by have:=congrArg List.length G;rw[h',cR]at this;simp at this;omega
   have zero:k=m->kX.L0 (aa h) (aa bs) w R:=λe=>by subst e;exact kX.b' ⟨_,d.cB 0,_,d.gS 0,aQ (a2 F) (E w d)⟩
   exact⟨zero,λe=>kX.px ⟨_,d.cB 0,_,d.gS 0,aQ (a2 F) (zero e)⟩⟩
  |cons c l=>
   obtain⟨N,Q,Z⟩:=xv G;have z:s[a0 (k:Int)]? =some c:=by rw[bR];exact N
   have B:((k:Int)<(s.size:Int)):=io
   have next:∀{x:I},O (·=h) w0 x [.c h [.int .i64 ((k+1:Nat):Int)] bz] [.c bs [.string s] eH]->(k+(1+bt false l)=m->kX.L0 (aa h) (aa bs) x R)/\(k+(1+bt true l)=m->kX.L2 (aa h) (aa bs) x R):=λy=>by
    have:=T (k+1) l _ (by simp at H;omega) Q io y
    rwa[Nat.add_assoc,Nat.add_assoc]at this
   have D:c.toNat≠10->k+(1+bt true l)=m->kX.L2 (aa h) (aa bs) w R:=λq e=>by refine kX.px ⟨_,d.cB 0,_,d.gS 0,aR (a5 B) ⟨_,d.gS 0,_,d.cB 0,io,c,z,ct (λ_=>?_) (λj=>absurd io q)⟩⟩;refine⟨_,d.cB 0,?_⟩;rw[bm k io];exact d.fg 0 rfl λx y=>(next y).2 e
   have C:k+bt false (c::l)=m->kX.L0 (aa h) (aa bs) w R:=λe=>by
    unfold bt at e;have two:(lg c=true->c.toNat≠59->k+(1+bt false l)=m)->(c.toNat=59->k+(1+bt true l)=m)->(lg c=true\/c.toNat=59)->kX.S1 (aa h) (aa bs) w R:=λL M S=>
     ⟨_,d.gS 0,_,d.cB 0,io,c,z,ct (λj=>⟨_,d.cB 0,by
      rw[bm k io];exact d.fg 0 rfl λx y=>(next y).1 (L (S.resolve_right io) io)⟩) (λj=>D io (M io))⟩
    refine kX.b' ⟨_,d.cB 0,_,d.gS 0,aR (a5 B) ⟨_,d.gS 0,_,d.cB 0,io,c,z,aw (λj=>?_) (λj=>?_)⟩⟩
    .have J:¬lg c=true:=by
      unfold lg;have:c.toNat=59:=io
      simp[this]
     rw[ab J,ag io]at e;exact two (λj=>absurd j J) (λ_=>e) (.inr io)
    .refine ⟨_,d.gS 0,_,d.cB 0,io,c,z,(AE _ c w).mono ?_⟩;rintro r x ⟨rfl,rfl⟩;refine⟨_,rfl,?_⟩;show bD (ak (0<=Go.Lib.indexByte [9,10,13,32] c)) _ _;rw[adA];refine bn (λA=>?_) (λA=>?_)
     .rw [ag A]at e;exact two (λ_ _=>e) (λP=>absurd P io) (.inl A)
     .rw [ab (by simp[A]),ab io,Nat.add_zero]at e;subst e;exact E w d
   refine⟨C,λe=>?_⟩;unfold bt at e;by_cases q:c.toNat=10
   .rw [ag q]at e;refine kX.px ⟨_,d.cB 0,_,d.gS 0,aR (a5 B) ⟨_,d.gS 0,_,d.cB 0,io,c,z,ct (λj=>absurd io j) (λ_=>C ?_)⟩⟩;unfold bt;rw[ag (by unfold lg;simp[q])];exact e
   .rw [ab q]at e;exact D q e
def Z0{s:ByteArray}(z:s.size<=1000000){w:I}{d bs k:Nat}(hi:w.heap[d]? =some (.cells #[.int .i64 (k:Int)] bz (0,0)))(e:w.heap[bs]? =some (.cells #[.string s] eH (0,0)))(x:k<=s.size):
  ai U qf #[.pointer (some (aa d)),.pointer (some (aa bs))] w λr h=>r=ad (.tuple #[])/\Fr (·=d) w h/\h.heap[d]? =some (.cells [Value.int .i64 ((k+bt false ((bl s).drop k):Nat):Int)].toArray bz (0,0)):=by
 have y:bs≠d:=λq=>by rw[q,hi]at e;cases e
 refine kX.ok ((Z1 s z w d bs _ _ (λh j=>?_) (((bl s).drop k).length+1) k _ w io rfl x ?_).1 rfl)
 .exact ⟨rfl,j.fr,j.ob 0⟩
 .exact O.o6 _ _ (by simp[En.ob,hi]) (by simp[En.ob]) (by simp[En.ob,e,y])
def RM:∀(n:Nat) (l:List UInt8),l.length<n->∀(a:Nat) (e:Int),qu l=.bad a e->e=2\/e=3
 |0,l,d=>io
 |n+1,[],_=>by intro a e d;unfold qu at d;grind
 |n+1,c::l,y=>by
  intro a e d;by_cases w:c.toNat=34
  .unfold qu at d;grind
  .rw [yo c l w]at d;cases h:ei (c::l)with
   |bad k q=>rw[h]at d;cases d;exact Mg h
   |ok x u=>
    rw[h]at d;simp only at d;cases j:qu ((c::l).drop u)with
    |ok t v=>rw[j]at d;cases d
    |bad k q=>
     rw[j]at d;cases d;have:=(Ak h).1;exact RM n _ (by grind) _ _ j
abbrev zs:V:=.string (a' #[])
abbrev RL(d e h j k a:Nat):List En:=[.c d [.int .i64 (k:Int)] bz,.c e [.int .i64 0,zs,.int .i64 0] du,.c h [.int .i64 0,.int .i64 0] ju,.c j [.int .i64 0,zs,.int .i64 (a:Int)] du]
abbrev RD(bs bk:Nat)(s:ByteArray)(f:V):List En:=[.c bs [.string s] eH,.c bk [f] HY]
def E4{M:Nat->Prop}{w0 w:I}{D:List En}{h j k q:Nat}{x z A B C E:V}{kd a:Int}{t:ByteArray}{R:aC}(H:O M w0 w [.c h [x] bz,.c j [z,A,B] du,.c k [C,E] ju,.c q [.int .i64 kd,.string t,.int .i64 a] du] D)(F:∀e,Fr M w0 e->e.heap[h]? =some (.cells [x].toArray bz (0,0))->R (ad (.tuple #[.agg #[.int .i64 kd,.string t,.int .i64 a],.agg #[.int .i64 0,.int .i64 0]])) e):nY.S1 (aa j) (aa k) (aa q) w R:=
 ⟨_,_,_,H.ld 3 0,H.ld 3 1,H.ld 3 2,H.lh 1 rfl λJ y=>y.j0 2 rfl λG d=>⟨_,_,_,d.ld 1 0,d.ld 1 1,d.ld 1 2,_,_,d.ld 2 0,d.ld 2 1,F G d.fr (d.ob 0)⟩⟩
def zi(e:Nat)(w0:I)(i:Nat):NT->aC
 |.fin=>λr d=>r=ad (.tuple #[.agg #[.int .i64 6,zs,.int .i64 (i:Int)],.agg #[.int .i64 0,.int .i64 0]])/\Fr (·=e) w0 d/\d.heap[e]? =some (.cells [Value.int .i64 (i:Int)].toArray bz (0,0))
 |.tok j t u=>λr d=>r=ad (.tuple #[.agg #[.int .i64 j,.string (ba t),.int .i64 (i:Int)],.agg #[.int .i64 0,.int .i64 0]])/\Fr (·=e) w0 d/\d.heap[e]? =some (.cells [Value.int .i64 ((i+u:Nat):Int)].toArray bz (0,0))
 |.bad a h=>λr d=>(∃k q w,r=ad (.tuple #[.agg #[.int .i64 k,.string q,.int .i64 w],.agg #[.int .i64 h,.int .i64 ((i+a:Nat):Int)]]))/\h≠0/\Fr (·=e) w0 d
def Z2(s:ByteArray)(W:s.size<=1000000)(w0:I)(e bs bk q x y m a:Nat)(f:V)(R:aC)(B:∀D,O (·=e) w0 D (RL e q x y m a) (RD bs bk s f)->nY.S4 (aa e) (aa bs) (aa q) (aa x) (aa y) D R):
  ∀(n k:Nat) (l:List UInt8) (w:I),l.length<n->(bl s).drop k=l->k<=s.size->k+(l.takeWhile bV).length=m->O (·=e) w0 w (RL e q x y k a) (RD bs bk s f)->nY.L2 (aa e) (aa bs) (aa q) (aa x) (aa y) w R:=by
 intro n;induction n with
 |zero=>omega
 |succ n Z=>
  intro k l w T C Q h d;cases l with
  |nil=>
   have L:¬((k:Int)<(s.size:Int)):=by
    have:=congrArg List.length C;rw[h',cR]at this
    grind
   simp at h;subst h;exact nY.px ⟨_,d.cB 0,_,d.gS 0,aQ (a2 L) (B w d)⟩
  |cons c l=>
   obtain⟨H,S,Y⟩:=xv C;have z:s[a0 (k:Int)]? =some c:=by rw[bR];exact H
   have next:bV c=true->nY.S3 (aa e) (aa bs) (aa q) (aa x) (aa y) w R:=λA=>by
    refine⟨_,d.cB 0,?_⟩;rw[bm k io];rw[List.takeWhile_cons,ag A,List.length_cons]at h;refine d.fg 0 rfl λE M=>?_
    grind
   refine nY.px ⟨_,d.cB 0,_,d.gS 0,aR (a5 io) ⟨_,d.gS 0,_,d.cB 0,io,c,z,(E5 c w).mono ?_⟩⟩;rintro r E ⟨rfl,rfl⟩;refine⟨_,rfl,bn (λj=>next (by simp[bV,j])) (λJ=>⟨_,d.gS 0,_,d.cB 0,io,c,z,(E3 c 10 w).mono ?_⟩)⟩;rintro r E ⟨rfl,rfl⟩;refine⟨_,rfl,bn (λj=>next (by simp[bV,j])) (λK=>⟨_,d.gS 0,_,d.cB 0,io,c,z,aw (λj=>next ?_) (λN=>⟨_,d.gS 0,_,d.cB 0,io,c,z,aw (λj=>next ?_) (λP=>?_)⟩)⟩)⟩
   .have:c.toNat=45:=io
    simp[bV,this]
   .have:c.toNat=35:=io
    simp[bV,this]
   .have A:¬bV c=true:=by
     have F:c.toNat≠45:=io
     have G:c.toNat≠35:=io
     simp[bV,J,K,F,G]
    rw[List.takeWhile_cons,ab A]at h;simp at h;subst h;exact B w d
def ZX{s:ByteArray}(ae:s.size<=1000000){w:I}{e bs bk k:Nat}(hi:w.heap[e]? =some (.cells #[.int .i64 (k:Int)] bz (0,0)))(hs:w.heap[bs]? =some (.cells #[.string s] eH (0,0)))(hb:w.heap[bk]? =some (.cells #[.func (.func qf) #[] #[.pointer (some (aa e)),.pointer (some (aa bs))]] HY (0,0)))(hk:k<=s.size):
  ai U xX #[.pointer (some (aa bk)),.pointer (some (aa e)),.pointer (some (aa bs))] w (zi e w (k+bt false ((bl s).drop k)) (gi (((bl s).drop k).drop (bt false ((bl s).drop k))))):=by
 have aG:bs≠e:=λE=>by grind
 have aC:bk≠e:=λE=>by grind
 have H0:O (·=e) w w [.c e [.int .i64 (k:Int)] bz] (RD bs bk s (.func (.func qf) #[] #[.pointer (some (aa e)),.pointer (some (aa bs))])):=
  O.o6 _ _ (by simp[En.ob,hi]) (by simp[En.ob]) (by simp[En.ob,hs,aG,hb,aC])
 refine nY.ok (H0.nw λG s1 H1=>H1.nw λw2 s2 K=>⟨⟨qf,#[],#[.pointer (some (aa e)),.pointer (some (aa bs))]⟩,K.gS 1,CW (by kernel_rfl) ((Z0 ae (K.ob 0) (show w2.heap[bs]? =_ from K.getD 0) hk).mono ?_)⟩);rintro r H ⟨rfl,f3,c3⟩;refine⟨rfl,?_⟩;have z:=K.zM 0 f3 c3;have am:=k7 false ((bl s).drop k);rw[h',cR]at am;rw[lT];generalize ay:k+bt false ((bl s).drop k)=i at z;have az:i<=s.size:=io
 clear ay f3 c3 am;refine⟨_,z.cB 0,_,z.gS 0,aw (λaq=>?_) (λaq=>?_)⟩
 .have:(bl s).drop i=[]:=dy (by rw[cR];omega);rw[this];exact⟨_,z.cB 0,z.lh 1 rfl λw4 N=>N.j0 2 rfl λC q=>⟨_,_,_,q.ld 1 0,q.ld 1 1,q.ld 1 2,_,_,q.ld 2 0,q.ld 2 1,rfl,q.fr,q.ob 0⟩⟩
 .obtain ⟨c,l,F⟩:∃c l,(bl s).drop i=c::l:=by
   cases hd:(bl s).drop i with
   |nil=>have:=congrArg List.length hd;rw[h',cR]at this;grind
   |cons c l=>grind
  obtain⟨gc,aK,aM⟩:=xv F;have ap:s[a0 (i:Int)]? =some c:=by grind
  rw[F];refine⟨_,z.cB 0,z.nw λw4 s4 N=>N.lh 3 rfl λC q=>⟨_,q.gS 0,_,q.cB 0,io,c,ap,?_⟩⟩;have A:O (·=e) w C (RL e w.heap.size G.heap.size H.heap.size i i) (RD bs bk s (.func (.func qf) #[] #[.pointer (some (aa e)),.pointer (some (aa bs))])):=q;clear q N z K H1;have one:∀(kd:Int) (w':I),O (·=e) w w' [.c e [.int .i64 (i:Int)] bz,.c w.heap.size [.int .i64 0,zs,.int .i64 0] du,.c G.heap.size [.int .i64 0,.int .i64 0] ju,.c H.heap.size [.int .i64 kd,zs,.int .i64 (i:Int)] du] (RD bs bk s (.func (.func qf) #[] #[.pointer (some (aa e)),.pointer (some (aa bs))]))->
    ∃t:Int,w'.cell? (aa e)=some (.int .i64 t)/\aN w' (aa e) (.int .i64 (aB .i64 (t+1))) λaf=>nY.S1 (aa w.heap.size) (aa G.heap.size) (aa H.heap.size) af (zi e w i (.tok kd [] 1)):=λkd w' J=>by refine⟨_,J.cB 0,?_⟩;rw[bm i io];exact J.fg 0 rfl λaf Y=>E4 Y λw' L P=>⟨rfl,L,P⟩
  unfold gi;dsimp only;refine aw (λav=>?_) (λav=>aw (λax=>?_) (λax=>aw (λar=>?_) (λar=>?_)))
  .rw [ag io];exact A.st 3 0 rfl λD x=>one 0 D x
  .rw [ab io,ag io];exact A.st 3 0 rfl λD x=>one 1 D x
  .rw [ab io,ab io,ag io];refine⟨_,A.gS 0,_,A.cB 0,(ZY s i c l F ae C).mono ?_⟩;intro r D S;cases hq:qu l with
   |ok t u=>
    rw[hq]at S;obtain⟨rfl,Z⟩:=S;refine⟨_,_,_,_,rfl,(A.cA Z).nw λw7 _ x=>x.j0 4 rfl λw8 B=>⟨_,B.ld 4 0,aQ rfl (B.st 3 0 rfl λM h=>h.st 3 1 rfl λT j=>j.fg 0 rfl λW d=>?_)⟩⟩;exact E4 (d.take 4) λw' L P=>⟨rfl,L,by grind⟩
   |bad a E=>
    rw[hq]at S;obtain⟨⟨y,aU,rfl⟩,Z⟩:=S;have Q:=RM _ l (Nat.lt_succ_self _) _ _ hq;refine⟨_,_,_,_,rfl,(A.cA Z).nw λw7 _ x=>x.j0 4 rfl λw8 B=>⟨_,B.ld 4 0,aR (by grind) (B.dr λM h=>?_)⟩⟩;refine⟨_,_,h.ld 4 0,h.ld 4 1,h.lh 1 rfl λT j=>⟨j.ld 4 0,j.ld 4 1,j.j0 2 rfl λW d=>⟨_,_,_,d.ld 1 0,d.ld 1 1,d.ld 1 2,_,_,d.ld 2 0,d.ld 2 1,⟨_,_,_,by rw[Nat.add_assoc]⟩,io,d.fr⟩⟩⟩
  .rw [ab io,ab io,ab io];have word:hP c=true->nY.L2 (aa e) (aa bs) (aa w.heap.size) (aa G.heap.size) (aa H.heap.size) C (zi e w i (if hP c=true then(match fH ((c::l).takeWhile bV)with
     |(k,E)=>if E≠0 then .bad 0 E else match(c::l).drop ((c::l).takeWhile bV).length with
      |[]=>.tok k ((c::l).takeWhile bV) ((c::l).takeWhile bV).length
      |y::_=>if m4 y then .tok k ((c::l).takeWhile bV) ((c::l).takeWhile bV).length else .bad ((c::l).takeWhile bV).length 2)else .bad 0 2)):=λan=>by
    rw[ag an];have aJ:bV c=true:=by unfold hP at an;unfold bV;grind
    have aO:((c::l).takeWhile bV).length<=l.length+1:=by have:=(List.takeWhile_prefix (p:=bV) (l:=c::l)).length_le;omega
    refine Z2 s ae w e bs bk _ _ _ (i+((c::l).takeWhile bV).length) i _ _ (λD x=>?_) (l.length+2) i (c::l) C gs F az rfl A;have aI:(c::l).take ((c::l).takeWhile bV).length=(c::l).takeWhile bV:=(List.prefix_iff_eq_take.1 (List.takeWhile_prefix bV)).symm;have ac:bl (s.extract i (i+((c::l).takeWhile bV).length))=(c::l).takeWhile bV:=by rw[Jd,List.drop_take,F,Nat.add_sub_cancel_left,aI]
    have aS:∀y∈(c::l).takeWhile bV,bV y=true:=λy hx=>by
     have:=List.all_takeWhile (p:=bV) (l:=c::l)
     grind
    have aL:(c::l).takeWhile bV≠[]:=by rw[List.takeWhile_cons,ag aJ];simp
    have aj:(bl s).drop (i+((c::l).takeWhile bV).length)=(c::l).drop ((c::l).takeWhile bV).length:=by rw[<-lT,F]
    generalize(c::l).takeWhile bV=t at *;refine⟨_,x.gS 0,_,x.ld 3 2,_,x.cB 0,io,io,io,io,?_⟩;rw[bR,bR];refine x.st 3 1 rfl λw7 B=>⟨_,B.ld 3 1,(ZW _ w7 (by grind) (by grind) (by rw[<-cR,ac];omega)).mono ?_⟩;rintro r w8 ⟨rfl,f8⟩;rw[ac];refine⟨_,_,rfl,?_⟩;have h:=B.cA f8;rcases fH t with⟨kd,E⟩;simp only;have ao:s.extract i (i+t.length)=ba t:=(j8 _).symm.trans (congrArg ba ac);have ah:∀{w':I},O (·=e) w w' [.c e [.int .i64 ((i+t.length:Nat):Int)] bz,.c w.heap.size [.int .i64 0,zs,.int .i64 0] du,.c G.heap.size [.int .i64 0,.int .i64 0] ju,.c H.heap.size [.int .i64 0,.string (s.extract i (i+t.length)),.int .i64 (i:Int)] du] (RD bs bk s (.func (.func qf) #[] #[.pointer (some (aa e)),.pointer (some (aa bs))]))->
      nY.S5 (aa w.heap.size) (aa G.heap.size) (aa H.heap.size) kd w' (zi e w i (.tok kd t t.length)):=λJ=>by rw[ao]at J;exact J.st 3 0 rfl λaf Y=>E4 Y λw' L P=>⟨rfl,L,P⟩
    refine ct (λQ=>?_) (λQ=>?_)
    .rw [ag Q];exact h.dr λM h=>⟨_,h.ld 3 2,h.lh 1 rfl λT j=>⟨j.ld 3 2,j.j0 2 rfl λW d=>⟨_,_,_,d.ld 1 0,d.ld 1 1,d.ld 1 2,_,_,d.ld 2 0,d.ld 2 1,⟨_,_,_,rfl⟩,Q,d.fr⟩⟩⟩
    .rw [ab io];refine⟨_,h.cB 0,_,h.gS 0,aT (λaA=>?_) (λaA=>?_)⟩
     .obtain ⟨y,l',hx⟩:∃y l',(bl s).drop (i+t.length)=y::l':=by
       cases hd:(bl s).drop (i+t.length)with
       |nil=>have:=congrArg List.length hd;grind
       |cons c l=>grind
      rw[<-aj,hx];refine⟨_,h.gS 0,_,h.cB 0,io,y,by rw[bR];exact(xv hx).1,(AE _ y w8).mono ?_⟩;rintro r M ⟨rfl,rfl⟩;refine⟨_,rfl,?_⟩;show bD (ak (Go.Lib.indexByte [9,10,13,32,59,40,41,34] y<0)) _ _;rw[YQ];refine eU (λhf=>?_) (λhf=>?_)
      .simp only[hf];exact h.dr λM h=>⟨_,h.cB 0,h.lh 1 rfl λT j=>⟨j.cB 0,j.j0 2 rfl λW d=>⟨_,_,_,d.ld 1 0,d.ld 1 1,d.ld 1 2,_,_,d.ld 2 0,d.ld 2 1,⟨_,_,_,rfl⟩,io,d.fr⟩⟩⟩
      .simp only[hf,if_true];exact ah h
     .have:(bl s).drop (i+t.length)=[]:=dy (by grind);rw[<-aj,this];exact ah h
   refine(E5 c C).mono ?_;rintro r D ⟨rfl,rfl⟩;refine⟨_,rfl,bn (λh1=>word (by simp[hP,h1])) (λh1=>(E3 c 10 C).mono ?_)⟩;rintro r D ⟨rfl,rfl⟩;refine⟨_,rfl,bn (λh2=>word (by simp[hP,h2])) (λh2=>aw (λh3=>word ?_) (λh3=>?_))⟩
   .have:c.toNat=35:=io
    simp[hP,this]
   .have aH:¬hP c=true:=by
     have:c.toNat≠35:=io
     simp[hP,h1,h2,this]
    rw[ab aH];exact A.dr λM h=>⟨_,h.cB 0,h.lh 1 rfl λT j=>⟨j.cB 0,j.j0 2 rfl λW d=>⟨_,_,_,d.ld 1 0,d.ld 1 1,d.ld 1 2,_,_,d.ld 2 0,d.ld 2 1,⟨_,_,_,rfl⟩,io,d.fr⟩⟩⟩
def GQ:∀(n:Nat) (l:List UInt8),l.length<n->∀(t:List UInt8) (u:Nat),qu l=.ok t u->1<=u/\u<=l.length/\t.length<u
 |0,l,d=>io
 |n+1,[],_=>by intro a j d;unfold qu at d;cases d
 |n+1,c::l,y=>by
  intro t u d;by_cases k:c.toNat=34
  .unfold qu at d;grind
  .rw [yo c l k]at d;cases h:ei (c::l)with
   |bad q x=>grind
   |ok w v=>
    rw[h]at d;simp only at d;have z:=Ak h;cases e:qu ((c::l).drop v)with
    |bad a j=>rw[e]at d;cases d
    |ok A B=>
     rw[e]at d;cases d;have:=GQ n _ (by grind) _ _ e
     grind
def Lm{t:List UInt8}{k:Int}(d:fH t=(k,0)):k=2\/k=3\/k=4:=by
 unfold fH at d;split at d
 .cases d
 .split at d
  .grind
  .split at d
   .grind
   .unfold uV at d
    grind
def vt{l:List UInt8}{k:Int}{t:List UInt8}{u:Nat}(d:gi l=.tok k t u):k≠6/\1<=u/\u<=l.length/\t.length<=u:=by
 unfold gi at d;cases l with
 |nil=>cases d
 |cons c l=>
  simp only at d;split at d
  .grind
  .split at d
   .grind
   .split at d
    .split at d
     .rename_i C D j;cases d;have:=GQ _ l (Nat.lt_succ_self _) _ _ j
      grind
     grind
    .split at d
     .rename_i q;have w:bV c=true:=by unfold hP at q;unfold bV;grind
      have A:((c::l).takeWhile bV).length<=(c::l).length:=(List.takeWhile_prefix (p:=bV) (l:=c::l)).length_le;have y:1<=((c::l).takeWhile bV).length:=by rw[List.takeWhile_cons,ag w];simp
      cases h:fH ((c::l).takeWhile bV)with
      |mk B x=>
       rw[h]at d;simp only at d;split at d
       .cases d
       .rename_i e;simp only[ne_eq,Decidable.not_not]at e;subst e;have z:=Lm h
        grind
     grind
def Yk:fO U rG du (.agg #[.int .i64 0,.string (a' #[]),.int .i64 0]) 3 32:=⟨by kernel_rfl,by kernel_rfl,rfl,dl,dl⟩
def wh(t:aI):List V:=[.int .i64 t.kind,.string (ba t.text),.int .i64 (t.a6:Int)]
def l1(l:List aI):List V:=l.flatMap wh
def UC:∀l:List aI,(l1 l).length=3 *l.length
 |[]=>rfl
 |t::l=>by have:=UC l;unfold l1 at this ⊢;rw[List.flatMap_cons,List.length_append,this,List.length_cons];simp[wh];omega
def aeC(l:List aI)(t:aI):l1 (l++[t])=l1 l++wh t:=by simp[l1]
def En.nil:En:=⟨[],λ_=>True,λ_ _ _ d=>d,λ_ _ b e=>by grind,gs⟩
abbrev EL(t2 t3 t4 d q l_ D:Nat)(e h j:V)(sl:Sl)(acc:List aI)(k:En)(o:Obj):List En:=
 [.c t2 [e] rG,.c t3 [h] bz,.c t4 [j] hr,.c d [sl.v] rG,k,.row du 3 sl (l1 acc),.ob D (.deferred (some [])),.ob l_ o]
abbrev ED(bs d bk e:Nat)(s:ByteArray):List En:=
 [.c bs [.string s] eH,.c bk [.func (.func qf) #[] #[.pointer (some (aa d)),.pointer (some (aa bs))]] HY,.c e [.func (.func xX) #[] #[.pointer (some (aa bk)),.pointer (some (aa d)),.pointer (some (aa bs))]] aeK]
def zb(w0:I)(t2 t3 t4 k d l_ D bs bk h:Nat)(s:ByteArray)(q:eQ->Option Code->Obj)(acc:List aI)(w:I):TR->Prop
 |.ok x=>∃sl e,O F0 w0 w (EL t2 t3 t4 k d l_ D (.slice none 0 0) (.int .i64 0) (.int .i64 0) sl (acc++x) e (q .ready none)) (ED bs d bk h s)
 |.bad a j=>j≠0/\∃sl y e,O F0 w0 w (EL t2 t3 t4 k d l_ D (.slice none 0 0) (.int .i64 (a:Int)) (.int .i64 j) sl y e (q .done (some .ret))) (ED bs d bk h s)
def Vl{w0:I}{t2 t3 t4 j d l_ D bs bk e:Nat}{s:ByteArray}{k:eQ->Option Code->Obj}{acc:List aI}{w:I}{t:aI}{q:TR}(h:zb w0 t2 t3 t4 j d l_ D bs bk e s k (acc++[t]) w q):zb w0 t2 t3 t4 j d l_ D bs bk e s k acc w (q.push t):=by
 cases q with
 |ok x=>simpa[zb,TR.push]using h
 |bad a y=>exact h
def ZV(s:ByteArray)(ar:s.size<=1000000)(w0:I)(t2 t3 t4 S h l_ D bs bk P:Nat)(x:Addr)(F:eQ->Option Code->Obj)(hY:∀(ah:Int) (aj:ByteArray) (am an ao:Int) (w_:I) (K_:Bool->I->Prop),w_.heap[l_]? =some (F .ready none)->E9.rM l_ F (aa t2) (aa t3) (aa t4) (aa S) x ah aj am an ao w_ (λr_ G=>∃b_:Bool,r_=ad (.bool b_)/\K_ b_ G)->W.pd U l_ #[.agg #[.int .i64 ah,.string aj,.int .i64 am],.agg #[.int .i64 an,.int .i64 ao]] w_ K_)(R:aC):∀(n k:Nat) (l:List UInt8) (acc:List aI) (sl:Sl) (w:I),l.length<n->(bl s).drop k=l->k<=s.size->acc.length<=k->
  O F0 w0 w (EL t2 t3 t4 S h l_ D (.slice none 0 0) (.int .i64 0) (.int .i64 0) sl acc (.c h [.int .i64 (k:Int)] bz) (F .ready none)) (ED bs h bk P s)->
  (∀E,zb w0 t2 t3 t4 S h l_ D bs bk P s F acc E (ll n k l)->R (ad (.tuple #[])) E)->Ar.L0 l_ (aa P) w R:=by
 intro n;induction n with
 |zero=>omega
 |succ n ih=>
  intro k l acc sl w hn hl hk aJ j hR;have aN:=k7 false l;have aM:l.length=s.size - k:=by rw[<-hl,h',cR]
  have aS:sl.n=acc.length:=by have:=aK.len (j.get 5);rw[UC]at this;omega
  refine Ar.b' _ _ _ _ ⟨⟨xX,#[],#[.pointer (some (aa bk)),.pointer (some (aa h)),.pointer (some (aa bs))]⟩,j.gS 2,CW (by kernel_rfl) ((ZX ar (j.ob 4) (show w.heap[bs]? =_ from j.getD 0) (show w.heap[bk]? =_ from j.getD 1) hk).mono ?_)⟩;intro r G B;rw[hl]at B;have round:∀(kd:Int) (y:List UInt8) (i:Nat) (G:I) (e5:En) (Z:I) (p q:Nat),O F0 w0 Z (EL t2 t3 t4 S h l_ D (.slice none 0 0) (.int .i64 0) (.int .i64 0) sl acc e5 (F .ready none)++[.c p [.int .i64 kd,.string (ba y),.int .i64 (i:Int)] du,.c q [.int .i64 0,.int .i64 0] ju]) (ED bs h bk P s)->
    ∀Y:Bool->I->Prop,(∀C E,O F0 w0 E (EL t2 t3 t4 S h l_ D (.slice none 0 0) (.int .i64 0) (.int .i64 0) C (acc++[⟨kd,y,i⟩]) e5 (F .ready none)++[.c p [.int .i64 kd,.string (ba y),.int .i64 (i:Int)] du,.c q [.int .i64 0,.int .i64 0] ju]) (ED bs h bk P s)->Y true E)->
    W.pd U l_ #[.agg #[.int .i64 kd,.string (ba y),.int .i64 (i:Int)],.agg #[.int .i64 0,.int .i64 0]] Z Y:=by intro kd y i G e5 Z p q H8 Y hK;refine hY _ _ _ _ _ Z Y (H8.ob 7) ?_;refine H8.nw λw9 _ H9=>H9.lh 10 rfl λaw ab=>?_;refine ab.nw λax _ ac=>ac.j0 11 rfl λay ae=>ae.pu 7 rfl λaz e=>⟨_,e.ld 11 0,aQ rfl ?_⟩;refine⟨_,e.cB 3,_,_,_,e.ld 10 0,e.ld 10 1,e.ld 10 2,e.r1 5 Yk rfl (λC aA J _ _=>?_) io⟩;refine J.fg 3 rfl λaG K=>K.pu 7 rfl λag T=>⟨true,rfl,hK C ag ?_⟩;have:=T.take 10;simp only[List.set_cons_succ,List.set_cons_zero,List.take_succ_cons,List.take_zero,gE,lV]at this;simp only[EL,aeC];exact this
  cases A:gi (l.drop (bt false l))with
  |fin=>
   rw[A]at B;obtain⟨rfl,Q,c1⟩:=B;have H:=j.zM 4 Q c1;refine⟨_,_,_,_,_,rfl,H.nw λw2 _ L=>L.nw λw3 _ M=>M.lh 8 rfl λw4 N=>N.j0 9 rfl λw5 d=>⟨_,_,_,d.ld 8 0,d.ld 8 1,d.ld 8 2,_,_,d.ld 9 0,d.ld 9 1,?_⟩⟩;refine round 6 [] _ G _ _ _ _ d _ (λC w6 z=>aQ rfl ⟨_,z.ld 9 0,aQ rfl ⟨_,z.ld 8 0,aR rfl (hR w6 ?_)⟩⟩);unfold ll;simp only[A];exact⟨C,_,z.take 8⟩
  |tok kd y u=>
   rw[A]at B;obtain⟨rfl,Q,c1⟩:=B;have H:=j.zM 4 Q c1;obtain⟨aL,aO,av,_⟩:=vt A;rw[h']at av;refine⟨_,_,_,_,_,rfl,H.nw λw2 _ L=>L.nw λw3 _ M=>M.lh 8 rfl λw4 N=>N.j0 9 rfl λw5 d=>⟨_,_,_,d.ld 8 0,d.ld 8 1,d.ld 8 2,_,_,d.ld 9 0,d.ld 9 1,?_⟩⟩;refine round kd y _ G _ _ _ _ d _ (λC w6 z=>aQ rfl ⟨_,z.ld 9 0,aQ rfl ⟨_,z.ld 8 0,aQ (by grind) ?_⟩⟩);refine ih (k+bt false l+u) ((l.drop (bt false l)).drop u) (acc++[aI.mk kd y (k+bt false l)]) C w6 (by grind) (by rw[<-hl,lT,lT,Nat.add_assoc]) io (by grind) (z.take 8) (λE he=>hR E ?_);unfold ll;simp only[A];exact Vl he
  |bad a af=>
   rw[A]at B;obtain⟨⟨x0,x1,x2,rfl⟩,he,Q⟩:=B;have H:=j.fx 4 En.nil rfl (Q.mono λx _ af=>by simp[En.ob,af]) trivial (by simp[En.nil]);refine⟨_,_,_,_,_,rfl,H.nw λw2 _ L=>L.nw λw3 _ M=>M.lh 8 rfl λw4 N=>N.j0 9 rfl λw5 d=>⟨_,_,_,d.ld 8 0,d.ld 8 1,d.ld 8 2,_,_,d.ld 9 0,d.ld 9 1,?_⟩⟩;refine hY _ _ _ _ _ w5 _ (d.ob 7) ?_;refine d.nw λw9 _ H9=>H9.lh 10 rfl λaw ab=>?_;refine ab.nw λax _ ac=>ac.j0 11 rfl λay ae=>ae.pu 7 rfl λaz e=>⟨_,e.ld 11 0,aR (by grind) ?_⟩;refine e.dr λaA J=>⟨_,J.ld 11 1,_,J.ld 11 0,J.fg 0 rfl λaG K=>⟨K.ld 11 0,K.ld 11 1,K.fg 1 rfl λag T=>⟨T.ld 11 0,T.fg 2 rfl λaT ap=>ap.pu 7 rfl λaH aq=>⟨false,rfl,aR rfl (hR aH ?_)⟩⟩⟩⟩;unfold ll;simp only[A];exact⟨he,sl,acc,En.nil,aq.take 8⟩
def aaz{d:I}{l:Nat}{o:eQ->Option Code->Obj}{N:I->Prop}{X:Nat->I->Prop}{T:I->Prop}(e:hG d l (o .ready none) (o .exhausted none) N):rR d l o N X T:=.inl e
def aaA{d:I}{l:Nat}{o:eQ->Option Code->Obj}{N:I->Prop}{X:Nat->I->Prop}{T:I->Prop}(e:hG d l (o .done (some .ret)) (o .exhausted (some .ret)) T):rR d l o N X T:=.inr (.inr e)
def tokens(l:List UInt8):TR:=if 65536<l.length then .bad 65536 4 else ll (l.length+1) 0 l
def VH(w:I)(q:TR):aC:=λr d=>match q with
 |.ok h=>∃sl:Sl,r=ad (.tuple #[sl.v,.int .i64 0,.int .i64 0])/\aK d du 3 sl (l1 h)/\af w d/\∀b∈aG sl,w.heap.size<=b
 |.bad a e=>r=ad (.tuple #[.slice none 0 0,.int .i64 (a:Int),.int .i64 e])/\e≠0/\af w d
def Mt(s:ByteArray)(af:s.size<=1000000)(w:I):ai U OB #[.string s] w (VH w (tokens (bl s))):=by
 refine E9.ok _ w _ ((O.start (M:=F0) [] gs).nw λw1 _ L=>L.nw λw2 _ S=>S.nw λw3 _ E=>aT (λac=>?_) (λac=>?_))
 .refine E.fg 0 rfl λB y=>y.fg 1 rfl λC z=>z.fg 2 rfl λw6 h=>⟨⟨none,0,0⟩,h.cB 0,_,h.cB 1,_,h.cB 2,?_⟩;unfold tokens;rw[ag (by rw[cR];omega)];exact⟨rfl,io,h.fr⟩
 .unfold tokens;rw[ab (by rw[cR];omega)];refine E.nw λB _ y=>?_;refine MQ.ok (y.nw λC _ z=>z.nw λw6 _ h=>h.fg 5 rfl λK T=>T.nw λw8 _ W=>W.fg 6 rfl λw9 Y=>⟨_,rfl,?_⟩);refine @MP.ok ⟨xX,#[],#[.pointer (some (aa K.heap.size)),.pointer (some (aa C.heap.size)),.pointer (some (aa B.heap.size))]⟩ _ _ (Y.nw λq _ D=>⟨_,rfl,?_⟩);show ∀A:eQ->Option Code->Obj,_;intro A hY;have e1:(q.alloc (.deferred (some []))).heap.size=q.heap.size+1:=size_alloc _ _;have F:=((D.freeze 4 _ rfl (D.get 4) (λb e=>e)));have G:=F.freeze 5 _ rfl (F.get 5) (λb e=>e);have Z:=G.freeze 5 _ rfl (G.get 5) (λb e=>e);have H:=((Z.h8 du 3).alloc (.deferred (some []))).alloc (A .ready none);rw[e1]at H;refine Ar.ok _ _ _ _ (ZV s af w w.heap.size w1.heap.size w2.heap.size w3.heap.size C.heap.size (q.heap.size+1) q.heap.size B.heap.size K.heap.size w9.heap.size _ A hY _ ((bl s).length+1) 0 (bl s) [] ⟨none,0,0⟩ _ io rfl io gs H (λw' k=>⟨⟨_,rfl⟩,?_⟩));cases J:ll ((bl s).length+1) 0 (bl s)with
  |ok an=>
   rw[J]at k;obtain⟨sl,ah,x⟩:=k;refine aaz (x.pu 7 rfl λaj j=>⟨sl,j.cB 3,j.fg 0 rfl λaq N=>N.fg 1 rfl λar P=>P.fg 2 rfl λav Q=>Q.pu 6 rfl λam d=>⟨sl,d.cB 0,_,d.cB 1,_,d.cB 2,?_⟩⟩);exact⟨sl,rfl,d.get 5,d.fr,λb e=>(d.new _ (aD (i:=5) rfl) b e).resolve_right id⟩
  |bad a ap=>
   rw[J]at k;obtain⟨ae,sl,ao,ah,x⟩:=k;refine aaA (x.pu 7 rfl λaj j=>j.pu 6 rfl λam d=>⟨⟨none,0,0⟩,d.cB 0,_,d.cB 1,_,d.cB 2,?_⟩);exact⟨rfl,ae,d.fr⟩
structure fh where
 k:Int
 nm:List UInt8
 st:aM
 nd:Int
 n:Int
deriving DecidableEq
structure bJ where
 s:aH
 vs:List (List UInt8×Nat)
 ms:List (List UInt8×PM)
 cs:List fh
inductive SR
 |ok (x:bJ)
 |er (e:Int) (p:Nat)
def SR.b(x:SR)(f:bJ->SR):SR:=match x with
 |.ok x=>f x
 |.er d p=>.er d p
def PR.s{α:Type}(x:PR α)(y:bJ)(f:α->bJ->SR):SR:=match x with
 |.ok a s=>f a {y with s:=s}
 |.er d p=>.er d p
def gN(T:List aI)(x:bJ):bW:=⟨T,x.vs,x.ms,[],9223372036854775807,0⟩
def u1(E:bW)(s:aH):Nat:=min E.kn E.ms.length *(E.T.length+1)+(E.T.length - s.p)+1
def tJ(T:List aI)(x:bJ):PR Nat:=(dE (u1 (gN T x) x.s) (gN T x) x.s).b λn s=>
 if(s.g[n]?).map (·.st)=some (aO 1)then .ok n s else .er 9 (aL T x.s.p).a6
def vq(T:List aI)(x:bJ):PR aI:=(bL T 2 x.s).b λt s=>if(lk x.vs t.text).isSome||(lk x.ms t.text).isSome then .er 8 t.a6 else .ok t s
def pP(T:List aI)(w:aI)(x:bJ):SR:=(vq T x).s x λt x=>(iA T x.s).s x λd x=>(bL T 1 x.s).s x λ_ x=>(eu x.s ⟨0,[],0,0,0,ba t.text,d⟩ w).s x λn x=>
 .ok {x with vs:=x.vs++[(t.text,n)],cs:=x.cs++[⟨0,t.text,d,n,0⟩]}
def kj(T:List aI):Nat->List (List UInt8×aM)->aH->PR (List (List UInt8×aM))
 |0,_,_=>.er 1000 0
 |f+1,d,s=>
  let t:=aL T s.p
  if t.kind=1 then .ok d (cH t s)else if t.kind≠0 then kA t else
  (bL T 2 (cH t s)).b λp s=>if(lk d p.text).isSome then .er 8 p.a6 else(iA T s).b λe s=>(bL T 1 s).b λ_ s=>kj T f (d++[(p.text,e)]) s
def k8(T:List aI):Nat->Nat->aH->PR Unit
 |0,_,_=>.er 1000 0
 |f+1,d,s=>
  let t:=aL T s.p
  if t.kind=6 then kA t else if t.kind=1/\d=0 then kA t else
  let d:=if t.kind=0 then d+1 else if t.kind=1 then d - 1 else d
  if d=0 then .ok () (cH t s)else k8 T f d (cH t s)
def pQ(T:List aI)(x:bJ):SR:=(bL T 0 x.s).s x λ_ x=>(vq T x).s x λt x=>if iR t.text then .er 6 t.a6 else
 (kj T (T.length+1) [] x.s).s x λh x=>(k8 T (T.length+1) 0 x.s).s x λ_ d=>(bL T 1 d.s).s d λ_ e=>
  .ok {e with ms:=e.ms++[(t.text,⟨h,x.s.p,x.ms.length⟩)]}
def kL(T:List aI)(x:bJ):SR:=(bL T 2 x.s).s x λd x=>
 let fin (c:fh) (x:bJ):SR:=(bL T 1 x.s).s x λ_ x=>.ok {x with cs:=x.cs++[c]}
 if d.text=[100,101,99,108,97,114,101]then pP T d x else
 if d.text=[100,101,102,105,110,101]then pQ T x else
 if d.text=[97,115,115,101,114,116]\/d.text=[101,100,105,116]then
  (bL T 2 x.s).s x λt x=>(tJ T x).s x λn x=>fin ⟨if d.text=[101,100,105,116]then 2 else 1,t.text,aX,n,0⟩ x else
 if d.text=[114,101,116,114,97,99,116]then(bL T 2 x.s).s x λt x=>fin ⟨3,t.text,aX,0,0⟩ x else
 if d.text=[112,117,115,104]then fin ⟨4,[],aX,0,0⟩ x else
 if d.text=[112,111,112]then fin ⟨5,[],aX,0,0⟩ x else
 if d.text=[99,104,101,99,107]then(dd T x.s).s x λn e=>if 1099511627776<n then .er 5 (aL T x.s.p).a6 else fin ⟨6,[],aX,0,n⟩ e else
 .er 2 d.a6
def hM(T:List aI):Nat->bJ->SR
 |0,_=>.er 1000 0
 |f+1,d=>
  let t:=aL T d.s.p
  if t.kind=6 then .ok d else if t.kind=0 then(kL T {d with s:=cH t d.s}).b λd=>hM T f d else .er 2 t.a6
def jT(l:List UInt8):SR:=match tokens l with
 |.bad a e=>.er e a
 |.ok d=>hM d (d.length+1) ⟨⟨0,0,[]⟩,[],[],[]⟩
def i0:List Nx->Nat->List (List UInt8×Nat)
 |[],_=>[]
 |d::g,i=>if d.op=0 then(bl d.tx,i)::i0 g (i+1)else i0 g (i+1)
namespace Zy
def L0:=bq (ay U Tryz.f249 [(7,lr 15),(8,lr 15),(9,lr 15),(10,lr 15),(17,lr 15),(18,lr 15),(23,lr 15)] []) [0,2,1] [(0,.s),(1,.U),(4,.I)]
abbrev t1:=bp L0
abbrev S5:=ah t1 [5,1,1,3,1] [(0,.s),(1,.U),(4,.I),(8,.v [.i .u32]),(9,.v [.i .u32]),(10,.v [.i .u32]),(11,.v [.i .u32])]
abbrev t2:=aj S5
abbrev S4:=ah t2 [4,1,1,3,1] [(0,.s),(1,.U),(4,.I),(6,.v [.i .u32]),(8,.v [.i .u32]),(9,.v [.i .u32])]
abbrev t3:=aj S4
abbrev S3:=ah t3 [3,1,1,3,1] [(0,.s),(1,.U),(4,.I),(6,.v [.i .u32]),(7,.v [.i .u32])]
abbrev t4:=aj S3
abbrev P0:Ps:=[(0,.s),(1,.U),(4,.I),(5,.v [.i .u32])]
abbrev S2:=ah t4 [2,1,1,3,1] P0
abbrev t5:=aj S2
abbrev S1:=ah t5 [1,1,1,3,1] P0
abbrev t6:=aj S1
abbrev P1:Ps:=[(0,.s),(4,.I),(12,.v [.i .u32])]
abbrev CQ:=ah t6 [5] P1
abbrev t7:=aj CQ
abbrev P2:Ps:=[(0,.s),(4,.I),(12,.v [.i .u32]),(16,.v [.i .u32])]
abbrev CP:=ah t7 [2,1,1,1,4] P2
abbrev t8:=aj CP
abbrev wI:=ah t8 [1,1,1,1,4] P2
abbrev t9:=aj wI
abbrev S9:=ah t9 [4] P1
abbrev t10:=aj S9
abbrev S8:=ah t10 [3,1,1,1,3] [(0,.s),(4,.I),(12,.v [.i .u32]),(14,.v [.i .u32]),(15,.v [.i .u32])]
abbrev t11:=aj S8
abbrev P3:Ps:=[(0,.s),(4,.I),(12,.v [.i .u32]),(13,.v [.i .u32])]
abbrev S7:=ah t11 [2,1,1,1,3] P3
abbrev t12:=aj S7
abbrev S6:=ah t12 [1,1,1,1,3] P3
abbrev t13:=aj S6
end Zy
namespace Zw
noncomputable def C0:Code:=(Tryz.f232.body).getD .skip
noncomputable def C1:=C0.sn
noncomputable def C2:=C1.fs
noncomputable def C3:=C2.sn
noncomputable def C4:=C3.fs
noncomputable def C5:=C4.fs
noncomputable def C6:=C5.sn
noncomputable def C7:=C6.fs
noncomputable def C8:=C7.sn
noncomputable def C9:=C6.sn
noncomputable def kB:=C4.sn
noncomputable def kC:=C3.sn
noncomputable def l5:=C1.sn
end Zw
namespace Mb
def ok:=aA (ay U Tryz.f213 [] []) OA [.Y]
end Mb
namespace pX
abbrev P0:Ps:=[(1,.I),(8,.b),(9,.st),(10,.U),(11,.U),(12,.b),(13,.U),(99,.s),(100,.I),(101,.I)]
def L4:=bq (ay U Tryz.f179 [] []) [0,1,1,1,11] P0
abbrev t1:=bp L4
abbrev S5:=ah t1 [3,2,1,1,11] P0
abbrev t2:=aj S5
abbrev wI:=ah t2 [0,1,1,1,7,2,2,2,1,1,11] [(11,.U)]
abbrev t3:=aj wI
abbrev S9:=ah t3 [7,2,2,2,1,1,11] [(1,.I),(8,.b),(9,.st),(10,.U),(11,.U),(12,.b),(13,.U),(17,.U),(99,.s),(100,.I),(101,.I)]
abbrev t4:=aj S9
abbrev P1:Ps:=[(1,.I),(8,.b),(9,.st),(10,.U),(11,.U),(12,.b),(13,.U),(16,.Y),(99,.s),(100,.I),(101,.I)]
abbrev S8:=ah t4 [6,2,2,2,1,1,11] P1
abbrev t5:=aj S8
abbrev S7:=ah t5 [3,2,2,2,1,1,11] P1
abbrev t6:=aj S7
abbrev P2:Ps:=[]
abbrev CQ:=ah t6 [6,2,2,2,2,2,1,1,11] P2
abbrev t7:=aj CQ
abbrev P3:Ps:=[(1,.I),(8,.b),(9,.st),(10,.U),(11,.U),(12,.b),(13,.U),(15,.Y),(99,.s),(100,.I),(101,.I)]
abbrev CP:=ah t7 [4,2,2,2,2,2,1,1,11] P3
abbrev t8:=aj CP
abbrev S6:=ah t8 [2,2,2,2,2,2,1,1,11] P3
abbrev t9:=aj S6
abbrev Vy:=ah t9 [13] [(13,.U)]
abbrev t10:=aj Vy
def Is:=bE t10 L4
abbrev S3:=ah t10 [9] [(0,.st),(1,.I),(8,.b),(9,.st),(10,.U),(11,.U)]
abbrev t11:=aj S3
abbrev S2:=ah t11 [8] [(0,.st),(1,.I),(2,.I),(8,.b),(9,.st),(10,.U)]
abbrev t12:=aj S2
abbrev P4:Ps:=[(0,.st),(1,.I),(2,.I),(8,.b),(9,.st)]
abbrev S1:=ah t12 [6] P4
abbrev t13:=aj S1
abbrev Vz:=ah t13 [0,1,3,1,5] P2
abbrev t14:=aj Vz
abbrev S0:=ah t14 [5] P4
abbrev t15:=aj S0
abbrev P5:Ps:=[(0,.st),(2,.I),(8,.b),(9,.st)]
abbrev VD:=ah t15 [6,2,2,1,3,2,4] P5
abbrev t16:=aj VD
abbrev VC:=ah t16 [4,2,2,1,3,2,4] P5
abbrev t17:=aj VC
abbrev VB:=ah t17 [2,2,2,1,3,2,4] P5
abbrev t18:=aj VB
abbrev VA:=ah t18 [2,2,4] P4
abbrev t19:=aj VA
def ok:=aA t19 aaS [.st,.I,.I]
end pX
namespace Zx
abbrev S7:=ah (ay U Tryz.f153 [] []) [13] [(11,.I)]
abbrev t1:=aj S7
abbrev S6:=ah t1 [11] [(8,.b),(9,.U)]
abbrev t2:=aj S6
abbrev P0:Ps:=[(8,.b),(9,.U),(10,.U)]
abbrev S5:=ah t2 [10] P0
abbrev t3:=aj S5
abbrev S4:=ah t3 [9] P0
abbrev t4:=aj S4
abbrev P1:Ps:=[(2,.I),(8,.b),(9,.U)]
abbrev S3:=ah t4 [8] P1
abbrev t5:=aj S3
abbrev S2:=ah t5 [7] P1
abbrev t6:=aj S2
abbrev S1:=ah t6 [4] [(0,.st),(1,.I),(2,.I),(8,.b)]
abbrev t7:=aj S1
abbrev S8:=ah t7 [1,1,3,1,1,1,3] [(0,.st),(1,.I),(2,.I)]
abbrev t8:=aj S8
abbrev S0:=ah t8 [1,1,3] [(0,.st),(1,.I),(2,.I),(8,.b),(16,.Y)]
abbrev t9:=aj S0
end Zx
namespace u6
abbrev P0:Ps:=[(5,.st),(6,.I),(47,.s),(48,.I),(49,.I)]
def L3:=bq (ay U Tryz.f127 [] []) [0,1,1,1,3,1,1,1,2] P0
abbrev t1:=bp L3
abbrev S5:=ah t1 [3,2,1,1,3,1,1,1,2] P0
abbrev t2:=aj S5
abbrev S4:=ah t2 [2,2,2,2,1,1,3,1,1,1,2] [(5,.st),(6,.I),(8,.Y),(47,.s),(48,.I),(49,.I)]
abbrev t3:=aj S4
abbrev S6:=ah t3 [5,1,1,1,2] [(6,.I)]
abbrev t4:=aj S6
def Ir:=bE t4 L3
abbrev P1:Ps:=[(0,.st),(5,.st)]
abbrev S2:=ah t4 [2,1,1,1,2] P1
abbrev t5:=aj S2
abbrev S1:=ah t5 [1,1,1,1,1,1,1,1,2] P1
abbrev t6:=aj S1
abbrev S0:=ah t6 [0,1,1,1,1,1,1,1,2] P1
abbrev t7:=aj S0
abbrev S7:=ah t7 [3] [(0,.st)]
abbrev t8:=aj S7
def ok:=aA t8 aaR [.st]
end u6
namespace TY
def ok:=aA (ay U Tryz.f94 [] []) Pj [.st]
end TY
namespace TZ
def ok:=aA (ay U Tryz.f150 [] []) Pl [.st,.I,.I]
end TZ
def Dc(l:List UInt8)(i:Nat):(ba l)[i]? =l[i]?:=by
 by_cases d:i<l.length
 .rw [aY d];exact getElem?_pos (ba l) i (by rw[be];exact d)
 .rw [List.getElem?_eq_none io];exact getElem?_neg (ba l) i (by rw[be];omega)
def Gj(b:Nat)(l:List UInt8)(c:UInt8):dh b (l++[c])=b *dh b l+eS c:=by unfold dh;grind
def wg{α:Type}{l:List α}{i:Nat}{c:α}(d:l[i]? =some c):l.take (i+1)=l.take i++[c]:=by rw[fJ,d];rfl
def jz(b:Nat)(l:List UInt8):Prop:=∀c∈l,eS c<b/\(48<=c.toNat/\c.toNat<=57\/97<=c.toNat/\c.toNat<=102/\b=16)
def vJ{b:Nat}(q:2<=b):∀{l:List UInt8},jz b l->∀i,dh b (l.take i)<b^(l.take i).length:=λ{l} h i=>by
 induction i with
 |zero=>simp[dh]
 |succ i d=>
  by_cases e:i<l.length
  .have j:l[i]? =some l[i]:=aY e;rw[wg j,Gj,List.length_append];have:=(h l[i] (List.getElem_mem e)).1;show _<b^((l.take i).length+1);rw[Nat.pow_succ];have k:b *dh b (l.take i)+b<=b *b^(l.take i).length:=by rw[<-Nat.mul_succ];exact Nat.mul_le_mul_left b d
   grind
  .rw [fV io]at d ⊢;exact d
def xF(k:Nat)(w:I):Sem.run U (Af .neq UH (.tmp k) (.const .nilIface) .nilIface .nilIface) w=.ok (.bool false) w:=by kernel_rfl
def LS{c:UInt8}(d:c.toNat<=57):eS c=c.toNat - 48:=by unfold eS;grind
def ac'{l:List UInt8}(L:1<=l.length)(M:l.length<=13)(hd:jz 10 l)(w:I):ai U Pj #[.string (ba l)] w λr j=>r=ad (.tuple #[.i (dh 10 l:Int),.nilIface])/\af w j:=by
 have W:=be l;obtain⟨h,Z,G⟩:∃c m,l=c::m:=by
  cases l with
  |nil=>grind
  |cons c m=>grind
 have O:=hd h (by grind);have x:(ba l)[a0 0]? =some h:=by rw[Dc,G];rfl
 have dec:∀c∈l,48<=c.toNat/\c.toNat<=57:=λc z=>by
  rcases(hd c z).2 with e|⟨_,_,e⟩
  .exact e
  .omega
 have Q:=dec h (by grind);have lt:∀i,dh 10 (l.take i)<10000000000000:=λi=>by have:=vJ dl hd i;have N:10^(l.take i).length<=10^13:=Nat.pow_le_pow_right dl (by grind);omega
 have ne:∀k:Int,(k=45\/k=43)->(h.toNat:Int)≠k:=λk S=>io
 have fin:∀d,af w d->Sem.run U (Af .neq UH (.tmp 11) (.const .nilIface) .nilIface .nilIface) d=.ok (.bool false) d:=λd _=>xF 11 d;refine TY.ok (Calls.mono (R:=λr j=>r=ad (.tuple #[.i (dh 10 l:Int),.nilIface])/\af w j) ?_ ?_)
 .refine u6.ok (aR (a5 io) (aR (a5 io) ⟨io,h,x,aw (λe=>absurd e (ne 45 (.inl rfl))) (λ_=>⟨io,h,x,aw (λe=>absurd e (ne 43 (.inr rfl))) (λ_=>?_)⟩)⟩));obtain⟨a,d,B,y,E,_⟩:=TX w (ba l);rw[j9]at y;have H:=Bytes.len y;refine⟨a,d,B,?_⟩;rw[H];have loop:∀(k i:Nat),i+k=l.length->u6.L3 (ba l) (dh 10 (l.take i):Int) a (l.length:Int) (i:Int) d λr j=>r=ad (.tuple #[.i (dh 10 l:Int),.nilIface])/\af w j:=by
   intro k;induction k with
   |zero=>
    intro i F;rw[fV io];refine u6.Ir (aQ (a2 io) ⟨io,h,x,aw (λe=>absurd e (ne 45 (.inl rfl))) (λ_=>⟨rfl,E⟩)⟩)
   |succ k Y=>
    intro i F;have q:l[i]? =some (l[i]'io):=aY io;generalize l[i]'io=c at q;obtain⟨J,A⟩:=dec c (aD q);have P:=c.toNat_lt;have D:aB .u8 ((c.toNat:Int) - 48)=((c.toNat - 48:Nat):Int):=by rw[IntKind.wrap_u8];omega
    refine u6.Ir (aR (a5 io) ⟨io,io,Bytes.cell y q io λp T z=>⟨_,z,?_⟩⟩);rw[D];refine aQ (a2 io) ?_;have K:dh 10 (l.take (i+1))=10 *dh 10 (l.take i)+(c.toNat - 48):=by rw[wg q,Gj,LS A]
    have l1:=lt i;have l2:=lt (i+1);have C:aB .i64 (aB .i64 ((dh 10 (l.take i):Int) *10)+aB .i64 ((c.toNat - 48:Nat):Int))=(dh 10 (l.take (i+1)):Int):=by rw[bo (_ *10) io,bo ((c.toNat - 48:Nat):Int) io,bo _ io];omega
    show u6.L3 _ (aB .i64 _) _ _ (aB .i64 _) _ _;rw[C,bm _ io]
    grind
  exact loop l.length 0 io
 .rintro _ d ⟨rfl,f⟩;exact⟨_,_,rfl,false,xF _ _,aQ rfl ⟨rfl,f⟩⟩
def aaw:∀c:UInt8,97<=c.toNat->c.toNat<=102->qQ .u8 (c.toNat:Int) 32=(c.toNat:Int):=λc=>(by decide+kernel:∀d:Fin 256,97<=d.val->d.val<=102->qQ .u8 (d.val:Int) 32=(d.val:Int)) ⟨c.toNat,c.toNat_lt⟩
def ade{b:Nat}(hb:b=2\/b=16){l:List UInt8}(h1:1<=l.length)(h2:b^l.length<=18446744073709551616)(hd:jz b l)(w:I):ai U Pl #[.string (ba l),.i (b:Int),.i 64] w λr w'=>r=ad (.tuple #[.u (dh b l:Int),.nilIface])/\af w w':=by
 have hz:=be l;have q:2<=b:=io
 have ah:l.length<=64:=by
  have h3:2^l.length<=b^l.length:=Nat.pow_le_pow_left q _;have Q:2^l.length<=2^64:=io
  exact(Nat.pow_le_pow_iff_right dl).1 Q
 have aa:(ba l).toList≠(a' #[]).toList:=λG=>by have d:=y1 (ba l) (ba []);rw[show(ba l).toList=(ba []).toList from G,beq_self_eq_true]at d;have:ba l=ba []:=e4 d.symm;have:=congrArg ByteArray.size this;rw[be,be,List.length_nil]at this;omega
 refine TZ.ok (Calls.mono (R:=λr w'=>r=ad (.tuple #[.u (dh b l:Int),.nilIface])/\af w w') ?_ ?_)
 .obtain ⟨cut,W,C⟩:∃cut:Nat,(b:Int) *cut=18446744073709551616/\(b=2->cut=9223372036854775808)/\(b=16->cut=1152921504606846976):=by grind
  have W:b *cut=18446744073709551616:=io
  have main:∀e:Int,e=18446744073709551615->pX.S3 (ba l) (b:Int) false (ba l) (cut:Int) e w λr w'=>r=ad (.tuple #[.u (dh b l:Int),.nilIface])/\af w w':=by
   intro e A;obtain⟨a,j,x,z,O,_⟩:=TX w (ba l);rw[j9]at z;have Z:=Bytes.len z;refine⟨a,j,x,?_⟩;rw[Z];have loop:∀(k i:Nat),i+k=l.length->pX.L4 (b:Int) false (ba l) (cut:Int) e false (dh b (l.take i):Int) a (l.length:Int) (i:Int) j λr w'=>r=ad (.tuple #[.u (dh b l:Int),.nilIface])/\af w w':=by
    intro k;induction k with
    |zero=>
     intro i Y;rw[fV io];exact pX.Is (aQ (a2 io) (aQ rfl ⟨rfl,O⟩))
    |succ k ih=>
     intro i Y;have h:l[i]? =some (l[i]'io):=aY io;generalize l[i]'io=c at h;obtain⟨d1,F⟩:=hd c (aD h);have ag:=c.toNat_lt;have D:=vJ q hd i;have ac:=vJ q hd (i+1);have li:(l.take i).length=i:=by grind
     have ab:(l.take (i+1)).length=i+1:=by grind
     rw[li]at D;rw[ab]at ac;have pw:b^(i+1)<=b^l.length:=Nat.pow_le_pow_right io io;have pi:b *b^i=b^(i+1):=by grind
     have am:dh b (l.take i)<cut:=by
      have:b *dh b (l.take i)<b *cut:=by have:=Nat.mul_lt_mul_of_pos_left D (show 0<b by omega);omega
      exact Nat.lt_of_mul_lt_mul_left this
     have N:dh b (l.take (i+1))=b *dh b (l.take i)+eS c:=by rw[wg h,Gj]
     have aj:b *dh b (l.take i)+eS c<18446744073709551616:=io
     have wb:aB .u64 (b:Int)=(b:Int):=by rw[IntKind.wrap_u64];omega
     have an:aB .u8 (b:Int)=(b:Int):=by rw[IntKind.wrap_u8];omega
     have ae:pX.S7 (b:Int) false (ba l) (cut:Int) e false (dh b (l.take i):Int) ((eS c:Nat):Int) a (l.length:Int) (i:Int) j λr w'=>r=ad (.tuple #[.u (dh b l:Int),.nilIface])/\af w w':=by
      have x:aB .u64 ((dh b (l.take i):Int) *aB .u64 (b:Int))=((b *dh b (l.take i):Nat):Int):=by rw[wb,IntKind.wrap_u64,Int.mul_comm];omega
      have J:aB .u64 (((b *dh b (l.take i):Nat):Int)+aB .u64 ((eS c:Nat):Int))=(dh b (l.take (i+1)):Int):=by rw[IntKind.wrap_u64,IntKind.wrap_u64,N];omega
      refine aQ (a2 io) (aQ (a2 io) ?_);show pX.S9 _ _ _ _ _ _ (aB .u64 _) (aB .u64 (aB .u64 _+aB .u64 _)) _ _ _ _ _;rw[x,J];refine aQ (a2 io) (aQ (a2 io) ?_);show pX.L4 _ _ _ _ _ _ _ _ _ (aB .i64 _) _ _;rw[bm _ io]
      grind
     refine pX.Is (aR (a5 io) ⟨io,io,Bytes.cell z h io λp hp T=>⟨_,T,aw (λd=>absurd d io) (λ_=>?_)⟩⟩);rcases F with⟨E,B⟩|⟨E,B,q3⟩
     .have L:aB .u8 ((c.toNat:Int) - 48)=((eS c:Nat):Int):=by rw[IntKind.wrap_u8,LS B];omega
      refine aR (a5 io) (aR (a5 io) ?_)
      grind
     .have hv:eS c=c.toNat - 87:=by unfold eS;grind
      have lo:∀(w':I) {K:aC},K (ad (.int .u8 (c.toNat:Int))) w'->ai U OA #[.int .u8 (c.toNat:Int)] w' K:=λw' K S=>Mb.ok (by rw[aaw c E B];exact S);have L:aB .u8 (aB .u8 ((c.toNat:Int) - 97)+10)=((eS c:Nat):Int):=by rw[IntKind.wrap_u8,IntKind.wrap_u8,hv];omega
      refine aR (a5 io) (aQ (a2 io) (lo _ ⟨_,rfl,aR (a5 io) (lo _ ⟨_,rfl,aR (a5 io) (lo _ ⟨_,rfl,?_⟩)⟩)⟩))
      grind
   exact loop l.length 0 io
  have A:aB .u64 (aB .u64 (1 *2^(min (a0 (aB .u64 64)) (IntKind.bits .u64))) - 1)=18446744073709551615:=dl
  refine pX.ok (bn (λd=>absurd (by grind) aa) (λ_=>aR (a5 io) (aR (a5 io) ?_)));have H:((b:Int)==0)=false:=by grind
  rw[H];refine aQ rfl (aQ dl (aQ dl (aw (λd=>absurd d io) (λ_=>aw (λd=>?_) (λd=>⟨?_,?_⟩)))))
  .have P:b=16:=io
   have:=main _ A;rw[C.2 P]at this;exact⟨dl,this⟩
  .rw [IntKind.wrap_u64];omega
  .have y:b=2:=io
   have:=main _ A;rw[C.1 y,y]at this;have M:aB .u64 (aB .u64 (Int.tdiv 18446744073709551615 (aB .u64 ((2:Nat):Int)))+1)=((9223372036854775808:Nat):Int):=dl
   rw[y,M];exact⟨dl,this⟩
 .rintro _ j ⟨rfl,f⟩;exact⟨_,_,rfl,false,xF _ _,aQ rfl ⟨rfl,f⟩⟩
def nT:fO U aeQ bQ (.agg #[.int .i64 0,.slice none 0 0,.int .i64 0,.int .i64 0,.int .u64 0,.string (a' #[]),.int .i64 0,.int .i64 0,.int .i64 0]) 9 96:=⟨by kernel_rfl,by kernel_rfl,rfl,dl,dl⟩
def ra{l:List Nd}:∀u∈l.flatMap Nd.c,u.oneCell'=true:=by intro u d;obtain⟨e,_,d⟩:=List.mem_flatMap.1 d;simp only[Nd.c,aF,aZ,a7]at d;rcases d with rfl|rfl|rfl|rfl|rfl|rfl|rfl|rfl|rfl<;>rfl
def uw{w:I}{b n sz:Nat}{cs:List V}{T:TypeId}(d:w.heap[b]? =some (.cells cs.toArray T (0,0)))(e:cs.length=n *sz):bh sz w ⟨some (aa b),n,n⟩ cs:=
 ⟨e,bw _,⟨λd=>(by cases d),λi v h=>⟨aa b,rfl,cellAt (p:=aa b) d rfl (by grind)⟩⟩⟩
def Jp{w:I}{a b:Nd}(T:a.P w)(W:b.P w)(Y:a.x.kids.length<=dO):ai U N9 #[a.v,b.v] w λr w'=>r=ad (.bool (ak (a.x=b.x)))/\af w w':=by
 have Q:O F0 w w [] [bZ a,bZ b]:=bM _ (by
  intro aa N;simp only[aF,aZ,a7]at N;rcases N with rfl|rfl
  .exact T
  .exact W)
 obtain⟨⟨op,C,n,m,u,H,st⟩,sl⟩:=a;obtain⟨⟨G,D,F,E,K,J,z⟩,Z⟩:=b;have no:∀{M:I} {L:List En},O F0 w M L [bZ ⟨⟨op,C,n,m,u,H,st⟩,sl⟩,bZ ⟨⟨G,D,F,E,K,J,z⟩,Z⟩]->(⟨op,C,n,m,u,H,st⟩:Nx)≠⟨G,D,F,E,K,J,z⟩->(Ending.returned (.bool false)=ad (.bool (ak ((⟨op,C,n,m,u,H,st⟩:Nx)=⟨G,D,F,E,K,J,z⟩)))/\af w M):=λA d=>⟨by grind,A.fr⟩;refine K3.aq (Q.ax λb2 M A=>A.ax λb3 w2 e=>?_);refine aw (λh=>?_) (λh=>no e (λd=>h (congrArg Nx.op d)));refine aw (λj=>?_) (λj=>no e (λd=>j (congrArg Nx.n d)));refine aw (λk=>?_) (λk=>no e (λd=>k (congrArg Nx.m d)));refine aw (λq=>?_) (λq=>no e (λd=>q (congrArg Nx.u d)));refine BG (λy=>?_) (λy=>no e (λd=>y (congrArg Nx.tx d)));refine nk (a:=st) (b:=z) (λB=>?_) (λB=>no e (λd=>B (congrArg Nx.st d)));refine e.av (adg (e.getD 0) (e.getD 1) (by unfold dO at Y;omega)) ?_;rintro _ w3 rfl S;refine⟨_,rfl,?_,S.fr⟩;simp only at h j k q y;subst h j k q y B;simp
def E8{g:List Nx}{n:Nx}{s:aM}(d:bA g n=(s,0)):bA g (eo n s)=(s,0):=by
 unfold bA at d;unfold bA;have k:(b5 (eo n s).op==((eo n s).kids.length:Int)&&(eo n s).kids.all (dI g)&&fa (eo n s))=(b5 n.op==(n.kids.length:Int)&&n.kids.all (dI g)&&fa n):=rfl;rw[k];split at d
 .grind
 .rename_i q;rw[ab q];have j:(eo n s).op=n.op:=rfl;rw[j];split at d
  .rename_i h;rw[ag h];unfold cb at d;by_cases e:n.op=2
   .rw [ag e]at d;unfold cb;rw[j,ag e];exact d
   .rw [ab e]at d;have w:s=n.st:=by grind
    have:eo n s=n:=by rw[w];rfl
    rw[this];unfold cb
    grind
  .rename_i h;rw[ab h];exact d
def pW(g:List Nx)(n:Nx):Option Nat:=fo (if(bA g n).2=0 then eo n (bA g n).1 else n) g 0
def A':Option Nat->Int
 |some i=>(i:Int)
 |none=>-1
def Ww{w:I}{s:Sl}{l:List Nd}{d:Nd}(J:GP w s l)(hd:d.P w)(N:zc (xs l))(ho:wC d.x)(aa:∀e∈l,e.x.kids.length<=dO):
  ai U N3 #[s.v,d.v] w λr E=>r=ad (.i (A' (pW (xs l) d.x)))/\af w E:=by
 have hn:=gx J;have ac:(xs l).length=l.length:=by grind
 have Q:=N.len;rw[ac]at Q;unfold dO at Q;have loop:∀(m i:Nat) (j:Nat) (q:I) (e:Nd) (L:List En),e.ks=d.ks->e.x.kids=d.x.kids->i+m=l.length->fo e.x ((xs l).drop i) i=pW (xs l) d.x->En.g j∈L->O F0 w q L (ng s l d)->
   xk.cq s j e.x.op e.ks e.x.n e.x.m e.x.u e.x.tx e.x.st.k e.x.st.n e.x.st.x (i:Int) q λr E=>r=ad (.i (A' (pW (xs l) d.x)))/\af w E:=by
  intro m;induction m with
  |zero=>
   intro i j q e L K M hi y Y h;rw[dy io]at y;exact xk.dF (aQ (a2 io) ⟨by rw[<-y];rfl,h.fr⟩)
  |succ m ih=>
   intro i j q e L K M hi y Y h;have z:l[i]? =some (l[i]'io):=aY io;have hx:(xs l).drop i=(l[i]'io).x::(xs l).drop (i+1):=by
    rw[dw (by omega:i<(xs l).length)]
    grind
   rw[hx]at y;generalize l[i]'io=a at z y;have Z:∀b∈[j],En.g b∈L:=by grind
   refine xk.dF (aR (a5 io) (eh (a8.1 (h.getD 0)) rfl z λp hp _=>h.ae (λF B=>?_) Z));have G:GP F s l:=a8.1 (B.getD 0);have c:=xy G z hp (rfl:((i:Int))=(i:Int));have pe:e.P F:=by show bF F e.ks e.x.kids;rw[K,M];exact B.getD 1
   refine⟨_,_,_,_,_,_,_,_,_,c.c0,c.c1,c.c2,c.c3,c.c4,c.c5,c.c6,c.c7,c.c8,B.av (Jp (a:=a) (b:=e) (G.2 a (aD z)) pe (aa a (aD z))) ?_⟩;rintro _ w6 rfl T;have C:(if a.x=e.x then some i else fo e.x ((xs l).drop (i+1)) (i+1))=pW (xs l) d.x:=y;refine⟨_,rfl,aT (λD=>⟨?_,T.fr⟩) (λD=>?_)⟩
   .rw [ag D]at C;rw[<-C];rfl
   .rw [ab D]at C;rw[bm _ io]
    grind
 refine xk.aq ((xK J hd).ax λj w1 A=>A.av (Jq (a8.1 (A.getD 0)) (A.getD 1) N ho) ?_);rintro _ w2 rfl S;refine⟨_,_,_,_,rfl,S.ax λb5 w3 H=>aw (λW=>H.ae λq h=>?_) (λW=>H.ae λq h=>?_)⟩
 .exact loop l.length 0 j q ⟨eo d.x (bA (xs l) d.x).1,d.ks⟩ _ rfl rfl io (by unfold pW;grind) gs h
 .exact loop l.length 0 j q d _ rfl rfl io (by unfold pW;grind) gs h
structure GR(w:I)(B:Nat->Prop)(g:List Nx)(s:Sl)(w':I):Prop where
 ex:∃l':List Nd,xs l'=g/\GP w' s l'/\∀b∈(En.gr s l').fp,B b\/w.heap.size<=b
def GR.nil(w:I)(d:Nat->Prop)(w':I):GR w d [] ⟨none,0,0⟩ w':=⟨⟨[],rfl,⟨bh.nil 9 w',gs⟩,λb h=>by
 rcases q5.1 h with e|⟨j,k,_⟩
 .cases e
 grind⟩⟩
def JJ{w:I}{s:Sl}{l:List Nd}{d:Nd}(Z:GP w s l)(hd:d.P w)(N:zc (xs l))(F:wC d.x)(an:∀h∈l,h.x.kids.length<=dO):
  ai U NZ #[s.v,d.v] w λr w'=>(∃q:Sl,r=ad (.tuple #[q.v,.i (bb (xs l) d.x).2.1,.i (bb (xs l) d.x).2.2])/\GR w (λb=>b∈(En.gr s l).fp\/b∈(bZ d).fp) (bb (xs l) d.x).1 q w')/\af w w':=by
 have hn:=gx Z;have ay:(xs l).length=l.length:=by grind
 refine KY.aq ((xK Z hd).ax λb3 w1 J=>J.av (Jq (a8.1 (J.getD 0)) (J.getD 1) N F) ?_);rintro _ w2 rfl H2;refine⟨_,_,_,_,rfl,H2.ax λb7 w3 Y=>ct (λh0=>Y.ae λw4 C=>⟨⟨⟨none,0,0⟩,?_,?_⟩,C.fr⟩) (λh0=>Y.ae λw4 C=>?_)⟩
 .unfold bb;grind
 .unfold bb;rw[ag h0];exact GR.nil _ _ _
 have hs:bA (xs l) d.x=((bA (xs l) d.x).1,0):=by grind
 have aw:=E8 hs;have ao:pW (xs l) (eo d.x (bA (xs l) d.x).1)=fo (eo d.x (bA (xs l) d.x).1) (xs l) 0:=by unfold pW;rw[aw];rfl
 have e:bb (xs l) d.x=match fo (eo d.x (bA (xs l) d.x).1) (xs l) 0 with
   |some i=>(xs l,(i:Int),0)
   |none=>if 4096<=(xs l).length then([],0,4)else(xs l++[eo d.x (bA (xs l) d.x).1],((xs l).length:Int),0):=by unfold bb;grind
 generalize az:(bA (xs l) d.x).1=sr at *
 let h:Nd:=⟨eo d.x sr,d.ks⟩
 have ap:wC h.x:=⟨F.kl,F.n,F.m,F.tx⟩;refine C.av (Ww (d:=h) (a8.1 (C.getD 0)) (C.getD 1) N ap an) ?_;rintro _ w5 rfl D;rw[show pW (xs l) h.x=fo (eo d.x sr) (xs l) 0 from ao];refine⟨_,rfl,?_⟩;cases hi:fo (eo d.x sr) (xs l) 0 with
 |some i=>
  rw[hi]at e;rw[e];exact aR (a5 (Int.natCast_nonneg i)) ⟨⟨s,rfl,⟨l,rfl,a8.1 (D.getD 0),λb B=>.inl (.inl B)⟩⟩,D.fr⟩
 |none=>
  rw[hi]at e;dsimp only at e;refine aQ dl ?_;refine aT (λh4=>⟨⟨⟨none,0,0⟩,?_,?_⟩,D.fr⟩) (λh4=>?_)
  .grind
  .rw [e,ag io];exact GR.nil _ _ _
  rw[ab io]at e;rw[e];have M:∀{k:I} {L:List En},O F0 w k L (ng s l d)->bh 9 k s (l.flatMap Nd.c):=λaj=>(a8.1 (aj.getD 0)).1;have fin:∀(q:Sl) (k:I) (L:List En) (j:Nat),O F0 w k L (ng s l d)->L[j]? =some (.row bQ 9 q (l.flatMap Nd.c++h.c))->
    (∃ah:Sl,Ending.returned (.tuple #[q.v,.i (s.n:Int),.i 0])=ad (.tuple #[ah.v,.i ((xs l).length:Int),.i 0])/\GR w (λb=>b∈(En.gr s l).fp\/b∈(bZ d).fp) (xs l++[eo d.x sr]) ah k)/\af w k:=by
   intro q k L j y hj;have ar:bh 9 k q ((l++[h]).flatMap Nd.c):=by
    have:aK k bQ 9 q (l.flatMap Nd.c++h.c):=y.get j hj;have:=this.a3
    grind
   refine⟨⟨q,by grind,⟨l++[h],by grind,⟨ar,λa e=>?_⟩,λb B=>?_⟩⟩,y.fr⟩
   .rcases List.mem_append.1 e with e|e
    .exact (a8.1 (y.getD 0)).2 a e
    .simp only[aF,aZ,a7]at e;subst e;exact y.getD 1
   .rcases q5.1 B with B|⟨a,e,B⟩
    .right;have am:b∈(En.row bQ 9 q (l.flatMap Nd.c++h.c)).fp:=by
      have:b∈(if(l++[h]).flatMap Nd.c=[]then[]else aG q):=B;split at this
      .grind
      .exact this
     exact(y.new _ (aD hj) b am).resolve_right id
    .rcases List.mem_append.1 e with e|e
     .exact .inl (.inl (q5.2 (.inr ⟨a,e,B⟩)))
     .simp only[aF,aZ,a7]at e;subst e;exact .inl (.inr B)
  have ac:∀u∈h.c,u.oneCell'=true:=λu hu=>ra (l:=[h]) u (by grind);have hl:=N.len;rw[ay]at hl;unfold dO at hl;refine⟨D.ae λk y=>y.e9 (n:=0) (sz:=9) (cs:=[]) rfl dl λS E=>⟨?_,?_⟩,D.ae λk y=>y.nw λS _ E=>E.e9 (n:=0) (sz:=9) (cs:=[]) rfl dl λw8 A=>?_⟩
  .refine E.eL 2 nT (s:=⟨some (aa k.heap.size),0,0⟩) (src:=s) rfl (M E) ra (by grind) (λs1 w8 A=>?_);have G:=(A.get 2:aK _ _ _ _ _).len;rw[lV,Nd.hB]at G;refine A.jE 2 nT rfl (λH W z=>?_) io;exact fin H W _ 2 z rfl
  .refine E.nw λw8 _ A=>?_;refine A.eL 2 nT (s:=⟨some (aa k.heap.size),0,0⟩) (src:=s) rfl (M A) ra (by grind) (λs1 W z=>?_);have G:=(z.get 2:aK _ _ _ _ _).len;rw[lV,Nd.hB]at G;refine z.eL 2 nT (src:=⟨some (aa S.heap.size),1,1⟩) rfl (uw (cs:=h.c) (T:=bQ) (z.ob 3) rfl) ac (by grind) (λH Q K=>?_);exact fin H Q _ 2 K rfl
  .refine A.eL 3 nT (s:=⟨some (aa S.heap.size),0,0⟩) (src:=s) rfl (M A) ra (by grind) (λs1 W z=>?_);have G:=(z.get 3:aK _ _ _ _ _).len;rw[lV,Nd.hB]at G;refine z.eL 3 nT (src:=⟨some (aa k.heap.size),1,1⟩) rfl (uw (cs:=h.c) (T:=bQ) (z.ob 2) rfl) ac (by grind) (λH Q K=>?_);exact fin H Q _ 3 K rfl
structure hX(T:List aI):Prop where
 e:∃l t,T=l++[t]/\t.kind=6/\∀x∈l,x.kind≠6
 k:∀t∈T,0<=t.kind/\t.kind<=6
 i:∀t∈T,t.kind=4->1<=t.text.length/\t.text.length<=13/\jz 10 t.text
 n:∀t∈T,t.kind=3->∃d,(t.text=35::98::d/\1<=d.length/\d.length<=64/\jz 2 d)\/(t.text=35::120::d/\1<=d.length/\d.length<=16/\jz 16 d)
 l:T.length<=100000
 x:∀t∈T,t.text.length<=65536/\t.a6<=65536
def o9{T:List aI}{p:Nat}(d:p<T.length):aL T p∈T/\T[p]? =some (aL T p):=by
 unfold aL
 grind
def hX.nx{T:List aI}(H:hX T){p:Nat}(h:p<T.length)(j:(aL T p).kind≠6):p+1<T.length:=by
 obtain⟨l,t,d,w,_⟩:=H.e;have k:T.length=l.length+1:=by grind
 by_cases q:p=l.length
 .have:aL T p=t:=by
   unfold aL
   grind
  grind
 .omega
def bK{α β:Type}{x:PR α}{f:α->aH->PR β}{b:β}{s:aH}(d:x.b f=.ok b s):∃a t,x=.ok a t/\f a t=.ok b s:=by
 cases x with
 |ok a t=>exact⟨a,t,rfl,d⟩
 |er e p=>cases d
def qh{T:List aI}{k:Int}{s e:aH}{t:aI}(d:bL T k s=.ok t e):t=aL T s.p/\t.kind=k/\e=cH t s:=by
 unfold bL at d;split at d
 .grind
 .cases d
structure Mv(T:List aI)(s s':aH):Prop where
 p:s.p<s'.p
 l:s'.p<T.length
 t:s'.tm=s.tm
 g:s'.g=s.g
def Mv.tr{T:List aI}{a b c:aH}(e:Mv T a b)(d:Mv T b c):Mv T a c:=⟨by have:=e.p;have:=d.p;omega,d.l,by rw[d.t,e.t],by rw[d.g,e.g]⟩
def rZ{T:List aI}(H:hX T){s:aH}(e:s.p<T.length)(d:(aL T s.p).kind≠6):Mv T s (cH (aL T s.p) s):=by unfold cH;rw[ab d];exact⟨Nat.lt_succ_self _,H.nx e d,rfl,rfl⟩
def eE{T:List aI}(H:hX T){k:Int}{s d:aH}{t:aI}(w:s.p<T.length)(x:k≠6)(e:bL T k s=.ok t d):Mv T s d:=by obtain⟨h,j,q⟩:=qh e;subst q;rw[h]at j ⊢;exact rZ H w io
def lK{T:List aI}(H:hX T){s d:aH}{n:Int}(k:s.p<T.length)(e:dd T s=.ok n d):Mv T s d/\0<=n:=by obtain⟨t,q,h,j⟩:=bK e;cases j;exact⟨eE H k dl h,Int.natCast_nonneg _⟩
def v5{T:List aI}(H:hX T){s y:aH}{z:aM}(L:s.p<T.length)(B:iA T s=.ok z y):Mv T s y/\br z=true:=by
 obtain⟨t,P,C,D⟩:=bK B;obtain⟨S,A,E,h⟩:=bK D;have q:=eE H L dl C;have d:=q.tr (eE H q.l dl E);split at h
 .cases h
 .obtain ⟨W,s3,j,F⟩:=bK h;obtain⟨n,Q,G,J⟩:=bK F;obtain⟨_,M,K,N⟩:=bK J;have w:s3.p<T.length/\(s3=A\/Mv T A s3):=by
   split at j
   .have:=(lK H d.l j).1;exact⟨this.l,.inr this⟩
   .cases j;exact⟨d.l,.inl rfl⟩
  have x:=(lK H w.1 G).1;have k:=x.tr (eE H x.l dl K);have O:Mv T s M:=by
   rcases w.2 with e|e
   .rw [e]at k;exact d.tr k
   .exact (d.tr e).tr k
  grind
def acB{T:List aI}(H:hX T){s e:aH}{r:List UInt8}(k:s.p<T.length)(h:rs T s=.ok r e):Mv T s e:=by
 obtain⟨t,q,j,d⟩:=bK h;split at d
 .cases d;exact eE H k dl j
 grind
structure j4(T:List aI)(s s':aH):Prop where
 l:s'.p<T.length
 p:s.p<=s'.p
 t:s.tm<=s'.tm/\s'.tm<=65536
 g:∃r,s'.g=s.g++r
 v:Vg s'.g
def j4.tr{T:List aI}{a b c:aH}(e:j4 T a b)(d:j4 T b c):j4 T a c:=⟨d.l,bB e.p d.p,⟨bB e.t.1 d.t.1,d.t.2⟩,by
 obtain⟨r,h⟩:=e.g;obtain⟨k,j⟩:=d.g
 grind,d.v⟩
def j4.len{T:List aI}{a b:aH}(d:j4 T a b):a.g.length<=b.g.length:=by
 obtain⟨r,e⟩:=d.g
 grind
def Mv.go{T:List aI}{s e:aH}(d:Mv T s e)(j:s.tm<=65536)(h:Vg s.g):j4 T s e:=⟨d.l,Nat.le_of_lt d.p,by rw[d.t];omega,⟨[],by rw[d.g,cQ]⟩,by rw[d.g];exact h⟩
def RK{n:Nx}:∀{g:List Nx} {i k:Nat},fo n g i=some k->k<i+g.length
 |[],i,k,d=>by cases d
 |e::g,i,k,d=>by
  unfold fo at d;split at d
  .grind
  .have:=RK d
   grind
def wL{T:List aI}{s q:aH}{n:Nx}{t:aI}{k:Nat}(y:Vg s.g)(w:s.p<T.length)(x:s.tm<=65536)(h:eu s n t=.ok k q):j4 T s q/\k<q.g.length:=by
 unfold eu at h;split at h
 .rename_i d;cases h;unfold bb at d ⊢;split at d
  .grind
  .rename_i j;rw[ab j];split at d
   .rename_i i e;try rw[e]
    refine⟨⟨w,bw _,⟨bw _,x⟩,⟨[],(cQ _).symm⟩,y⟩,?_⟩;have:=RK e
    grind
   .rename_i e;try rw[e]
    split at d
    .cases d
    .rename_i z;rw[ab z];refine⟨⟨w,bw _,⟨bw _,x⟩,⟨_,rfl⟩,?_⟩,by grind⟩;have j:(bA s.g n).2=0:=Classical.byContradiction j;exact .snoc y (E8 (by grind)) (Ae e)
 grind
structure e5(E:bW)(g:List Nx):Prop where
 T:hX E.T
 vs:∀q∈E.vs,q.2<g.length
 pm:∀q∈E.pm,q.2<g.length
 ms:∀q∈E.ms,q.2.ix<E.ms.length/\q.2.b<E.T.length/\(q.2.ps.map (·.1)).Nodup/\q.2.ps.length<=100000
def e5.up{E:bW}{g j:List Nx}(d:e5 E g)(k:g.length<=j.length):e5 E j:=⟨d.T,λh e=>pe (d.vs h e) k,λh e=>pe (d.pm h e) k,d.ms⟩
def e5.deep{E:bW}{g:List Nx}(d:e5 E g):e5 {E with dp:=E.dp+1} g:=⟨d.T,d.vs,d.pm,d.ms⟩
def kg{α:Type}:∀{l:List (List UInt8×α)} {t:List UInt8} {v:α},lk l t=some v->(t,v)∈l
 |[],_,_,d=>by cases d
 |(e,v)::l,t,u,d=>by
  unfold lk at d;split at d
  .grind
  .exact cP _ (kg d)
def aaB{E:bW}{w:List UInt8}{m:PM}(d:h6 E w=some m):lk E.ms w=some m/\m.ix<E.kn:=by
 unfold h6 at d
 grind
def lD(E:bW)(tm:aH->PR Nat)(p0:Nat):Prop:=∀s n d,p0<=s.p->s.p<E.T.length->s.tm<=65536->Vg s.g->e5 E s.g->tm s=.ok n d->j4 E.T s d/\s.p<d.p/\n<d.g.length
def An{E:bW}{tm:aH->PR Nat}{p0:Nat}(A:lD E tm p0):∀(k:Nat) (s:aH) (l:List Int) (e:aH),p0<=s.p->s.p<E.T.length->s.tm<=65536->Vg s.g->e5 E s.g->gy tm k s=.ok l e->j4 E.T s e/\l.length=k/\∀h∈l,0<=h/\h<(e.g.length:Int)
 |0,s,l,e,_,q,w,x,_,j=>by cases j;exact⟨⟨q,bw _,⟨bw _,w⟩,⟨[],(cQ _).symm⟩,x⟩,rfl,λh B=>by cases B⟩
 |k+1,s,l,e,D,q,w,x,z,j=>by
  obtain⟨a,C,F,G⟩:=bK j;obtain⟨K,P,H,J⟩:=bK G;cases J;obtain⟨d,N,L⟩:=A s a C D q w x z F;obtain⟨y,O,M⟩:=An A k C K _ io d.l d.t.2 d.v (z.up d.len) H;refine⟨d.tr y,by grind,λh B=>?_⟩;have:=y.len
  grind
def LO{T:List aI}(H:hX T){w:List UInt8}{s y:aH}{z:Nx×Nat}(j:s.p<T.length)(e:h4 T w s=.ok z y):Mv T s y\/y=s:=by
 unfold h4 at e;split at e
 .obtain ⟨u,k,d,h⟩:=bK e;obtain⟨n,A,q,x⟩:=bK h;cases x;have m:=(lK H j d).1;exact .inl (m.tr (lK H m.l q).1)
 split at e
 .obtain ⟨u,k,d,h⟩:=bK e;cases h;exact .inl (v5 H j d).1
 split at e
 .obtain ⟨u,k,d,h⟩:=bK e;obtain⟨n,A,q,x⟩:=bK h;cases x;have m:=(lK H j d).1;exact .inl (m.tr (lK H m.l q).1)
 split at e
 .obtain ⟨u,k,d,h⟩:=bK e;cases h;exact .inl (lK H j d).1
 split at e
 .obtain ⟨u,k,d,h⟩:=bK e;cases h;exact .inl (lK H j d).1
 split at e
 .obtain ⟨u,k,d,h⟩:=bK e;cases h;exact .inl (lK H j d).1
 split at e
 .obtain ⟨u,k,d,h⟩:=bK e;cases h;exact .inl (acB H j d)
 grind
def Qr{E:bW}{tm:aH->PR Nat}{p0:Nat}(k:lD E tm p0){w:List UInt8}{s y:aH}{n:Nx}(A:p0<=s.p)(j:s.p<E.T.length)(q:s.tm<=65536)(x:Vg s.g)(e:e5 E s.g)(z:iT E.T tm w s=.ok n y):j4 E.T s y:=by
 obtain⟨F,H,B,C⟩:=bK z;obtain⟨G,J,h,D⟩:=bK C;cases D;rcases LO e.T j B with m|rfl
 .have d:=m.go q x;exact d.tr (An k _ _ _ _ (by have:=m.p;omega) m.l (by rw[m.t];omega) d.v (e.up d.len) h).1
 .exact (An k _ _ _ _ A j q x e h).1
def Df{g:List Nx}:∀{ps:List (List UInt8×aM)} {az:List Int},(∀h∈az,0<=h/\h<(g.length:Int))->∀e∈i9 ps az,e.2<g.length
 |[],_,_,e,d=>by cases d
 |(p,_)::ps,[],_,e,d=>by cases d
 |(p,_)::ps,a::az,j,e,d=>by
  have d:e∈(p,a.toNat)::i9 ps az:=d;rcases aF.1 d with rfl|d
  .have:=j a List.mem_cons_self;omega
  .exact Df (λh k=>j h (cP _ k)) e d
def Jf{tm:bW->aH->PR Nat}{E:bW}{p0:Nat}(H:∀d,d.T=E.T->d.ms=E.ms->d.kn<E.kn->lD d (tm d) 0){m:PM}{w:List UInt8}(F:h6 E w=some m){az:List Int}{s h:aH}{n:Nat}(G:s.p<E.T.length)(J:s.tm<=65536)(K:Vg s.g)(e:e5 E s.g)(A:∀q∈az,0<=q/\q<(s.g.length:Int))(x:hY tm E m az s=.ok n h):j4 E.T s h/\n<h.g.length/\h.p=s.p:=by obtain⟨D,C⟩:=aaB F;obtain⟨k,L,y,z⟩:=bK x;cases z;have B:=e.ms _ (kg D);obtain⟨j,_,k⟩:=H {E with pm:=i9 m.ps az,kn:=m.ix} rfl rfl C {s with p:=m.b} n L (dc _) B.2.1 J K ⟨e.T,e.vs,Df A,e.ms⟩ y;exact⟨⟨G,bw _,j.t,j.g,j.v⟩,k,rfl⟩
def aev{tm:bW->aH->PR Nat}{E:bW}{s:aH}(O:∀j,j.T=E.T->j.ms=E.ms->j.vs=E.vs->j.kn=E.kn->lD j (tm j) (s.p+1))(N:∀j,j.T=E.T->j.ms=E.ms->j.kn<E.kn->lD j (tm j) 0){n:Nat}{C:aH}(P:s.p<E.T.length)(af:s.tm<=65536)(hv:Vg s.g)(z:e5 E s.g)(d:iE tm E s=.ok n C):j4 E.T s C/\s.p<C.p/\n<C.g.length:=by
 unfold iE at d;dsimp only at d;split at d
 .cases d
 rename_i B;have w:(aL E.T s.p).kind≠6:=λaa=>B (.inr (.inr aa));split at d
 .cases d
 rename_i ae;have W:=rZ z.T P w;obtain⟨x,A⟩:∃x:aH,x={cH (aL E.T s.p) s with tm:=s.tm+1}:=⟨_,rfl⟩;have p1:x.p=s.p+1:=by
  rw[A];unfold cH
  grind
 have g1:x.g=s.g:=by rw[A];exact W.g
 have t1:x.tm=s.tm+1:=by rw[A]
 have e:j4 E.T s x:=⟨by rw[p1];exact z.T.nx P w,io,io,⟨[],by grind⟩,by grind⟩;rw[<-A]at d;clear A W;have H:e5 E x.g:=by grind
 split at d
 .
  unfold kZ at d;split at d
  .rename_i ac B;cases d;exact⟨e,io,H.pm _ (kg B)⟩
  split at d
  .rename_i ac B;cases d;exact⟨e,io,H.vs _ (kg B)⟩
  split at d
  .rename_i m K;split at d
   .obtain ⟨a,b,c⟩:=Jf (p0:=0) N K e.l e.t.2 e.v H (λZ L=>by cases L) d;exact⟨e.tr a,io,b⟩
   grind
  grind
 split at d
 .obtain ⟨a,b⟩:=wL e.v e.l e.t.2 d;exact⟨e.tr a,by have:=a.p;omega,b⟩
 split at d
 .obtain ⟨a,b⟩:=wL e.v e.l e.t.2 d;exact⟨e.tr a,by have:=a.p;omega,b⟩
 unfold me at d;split at d
 .cases d
 obtain⟨ag,Y,h1,y⟩:=bK d;have S:=eE z.T e.l dl h1;have q:=e.tr (S.go e.t.2 e.v);have J:e5 {E with dp:=E.dp+1} Y.g:=(z.up q.len).deep;have Q:s.p+1<=Y.p:=by have:=S.p;omega
 split at y
 .obtain ⟨nd,s3,D,F⟩:=bK y;obtain⟨_,s4,G,w⟩:=bK F;have k:=Qr (E:={E with dp:=E.dp+1}) (O {E with dp:=E.dp+1} rfl rfl rfl rfl) Q q.l q.t.2 q.v J D;have M:=eE z.T k.l dl G;have h:=M.go k.t.2 k.v;obtain⟨a,b⟩:=wL h.v h.l h.t.2 w;refine⟨q.tr (k.tr (h.tr a)),?_,b⟩;have:=k.p;have:=h.p;have:=a.p;omega
 .unfold pG at y;split at y
  .cases y
  rename_i m K;obtain⟨az,s3,D,F⟩:=bK y;obtain⟨_,s4,G,w⟩:=bK F;obtain⟨k,hlen,ab⟩:=An (E:={E with dp:=E.dp+1}) (O {E with dp:=E.dp+1} rfl rfl rfl rfl) _ _ _ _ Q q.l q.t.2 q.v J D;have M:=eE z.T k.l dl G;have h:=M.go k.t.2 k.v;split at w
  .obtain ⟨a,b,c⟩:=Jf (p0:=0) (E:={E with dp:=E.dp+1}) N K h.l h.t.2 h.v ((J.up k.len).up h.len) (λZ L=>by have:=ab Z L;have:=h.len;omega) w;refine⟨q.tr (k.tr (h.tr a)),?_,b⟩;have:=k.p;have:=h.p;omega
  grind
def yR:∀(f:Nat) (E:bW),lD E (dE f E) 0
 |0,E=>λs n h _ _ _ _ _ e=>by cases e
 |f+1,E=>λs n h _ k q w j e=>aev (λd _ _ _ _=>λs n h _=>yR f d s n h (dc _)) (λd _ _ _=>yR f d) k q w j e
namespace Q8
def ok:=aA (ay U Tryz.f36 [] []) ON []
end Q8
namespace vB
def cq:=bq (ay U Tryz.f17 [(1,(.sq [0,1] (.fork (.sq [2] (.fork (ls [3,4,5,6,7]) (ls [4,3,5,6,7]))) (.fork (.sq [3] (.fork (ls [2,4,5,6,7]) (ls [4,2,5,6,7]))) (.sq [4] (.fork (ls [2,3,5,6,7]) (ls [3,2,5,6,7]))))))),(5,lr 12)] [3]) [0,1,1,1,2] [(3,.l [.s] nB),(5,.r),(16,.s),(17,.I),(18,.I)]
abbrev t1:=bp cq
def dF:=bE t1 cq
abbrev aV:=ah t1 [2] [(3,.l [.s] nB),(5,.r)]
abbrev t2:=aj aV
def aq:=aA t2 OM [.s,.a 1,.s]
end vB
namespace Rc
abbrev aV:=ah (ay U Tryz.f90 [] [5]) [0,1,1,1,1,1,1] []
abbrev t1:=aj aV
abbrev bg:=ah t1 [2] [(0,.r),(1,.st)]
abbrev t2:=aj bg
def aq:=aA t2 OO [.r,.st]
end Rc
namespace Ra
def aq:=aA (ay U Tryz.f65 [] [5] (some [])) jP [.r,.I,.a 3,.I,.st,.I]
end Ra
namespace Ri
abbrev aV:=ah (ay U Tryz.f39 [(1,lr 12)] [2,3]) [3] [(2,.l [.I,.st,.I] du),(3,.l [.I,.st,.I] du)]
abbrev t1:=aj aV
def aq:=aA t1 OQ [.r]
end Ri
namespace Rk
abbrev aV:=ah (ay U Tryz.f41 [] [3] (some [jP])) [2] [(0,.r),(3,.l [.I,.st,.I] du)]
abbrev t1:=aj aV
def aq:=aA t1 qg [.r,.a 3,.I,.st,.I]
end Rk
namespace Rg
abbrev aV:=ah (ay U Tryz.f60 [] [4,5] (some [qg])) [3] [(4,.l [.I,.st,.I] du),(5,.l [.I,.st,.I] du)]
abbrev t1:=aj aV
def aq:=aA t1 nc [.r,.I]
end Rg
namespace Rb
abbrev aV:=ah (ay U Tryz.f64 [] [3] (some [nc,jP])) [4] [(4,.I)]
abbrev t1:=aj aV
def aq:=aA t1 q' [.r]
end Rb
namespace yl
abbrev cG:=ah (ay U Tryz.f88 [] [2,3,4,5] (some [qg,nc,q',jP])) [9] [(2,.l [.I,.I,.I] cd),(5,.l [.I,.I,.I] cd)]
abbrev t1:=aj cG
abbrev P0:Ps:=[(0,.r),(2,.l [.I,.I,.I] cd),(3,.l [.I,.st,.I] du),(5,.l [.I,.I,.I] cd)]
abbrev bH:=ah t1 [6] P0
abbrev t2:=aj bH
abbrev bg:=ah t2 [0,1,1,1,5] P0
abbrev t3:=aj bg
abbrev aV:=ah t3 [5] P0
abbrev t4:=aj aV
def aq:=aA t4 xZ [.r]
end yl
namespace GF
abbrev bg:=ah (ay U Tryz.f89 [(1,(.sq [0,1,2,3,4] (.fork (ls [5,6,7,8,9,10,11,12,13]) (ls [10,5,6,7,8,9,11,12,13]))))] [4,5,7] (some [jP])) [3] [(0,.r),(7,.l [.s] nB),(8,.I)]
abbrev t1:=aj bg
abbrev aV:=ah t1 [2] [(0,.r),(5,.l [.I,.st,.I] du),(7,.l [.s] nB),(8,.I),(9,.I)]
abbrev t2:=aj aV
def aq:=aA t2 vi [.r,.a 9,.I,.s,.I,.I,.U,.st,.I,.I,.I,.a 3,.I,.st,.I]
end GF
namespace Rf
abbrev bg:=ah (ay U Tryz.f124 [(1,lr 12),(4,lr 12)] [3,9] (some [jP,AP])) [5] [(0,.r),(9,.l [.s,.I,.I] jv)]
abbrev t1:=aj bg
abbrev aV:=ah t1 [0,1,1,1,4] [(0,.r),(3,.l [.I,.st,.I] du),(9,.l [.s,.I,.I] jv)]
abbrev t2:=aj aV
def aq:=aA t2 FH [.r,.a 3,.I,.st,.I]
end Rf
namespace GH
abbrev bg:=ah (ay U Tryz.f125 [] [3] (some [jP,vi])) [5] [(0,.r),(3,.l [.I,.st,.I] du),(6,.I),(7,.U)]
abbrev t1:=aj bg
abbrev aV:=ah t1 [3] [(0,.r),(3,.l [.I,.st,.I] du),(5,.I),(6,.I)]
abbrev t2:=aj aV
def aq:=aA t2 FK [.r,.a 3,.I,.st,.I]
end GH
namespace Bg
abbrev bH:=ah (ay U Tryz.f180 [] [3,4] (some [nc,jP])) [7] [(7,.st)]
abbrev t1:=aj bH
abbrev bg:=ah t1 [6] [(0,.r),(3,.l [.I,.st,.I] du),(6,.I),(7,.st)]
abbrev t2:=aj bg
abbrev aV:=ah t2 [4] [(0,.r),(3,.l [.I,.st,.I] du),(4,.l [.I,.Y,.Y,.s] aS),(6,.I)]
abbrev t3:=aj aV
def aq:=aA t3 FL [.r]
end Bg
namespace Re
def aq:=aA (ay U Tryz.f148 [(2,lr 13)] [4,6]) OP [.r,.st]
end Re
namespace tf
def cq:=bq (ay U Tryz.f149 [(1,lr 15),(2,(.sq [0,1,2,3,4,6,7,8,9] (.fork (ls [5,10,11,12,13,14,15,16]) (ls [10,5,11,12,13,14,15,16])))),(6,lr 11)] [4,11] (some [sV])) [0,1,1,1,3] [(0,.r),(2,.s),(7,.I),(8,.m),(9,.I),(40,.s),(41,.I),(42,.I)]
abbrev t1:=bp cq
def dF:=bE t1 cq
abbrev aV:=ah t1 [3] [(0,.r),(2,.s),(4,.l [.s,.I,.I] jv),(7,.I),(8,.m),(9,.I)]
abbrev t2:=aj aV
def aq:=aA t2 AP [.r,.a 3,.s,.I,.I,.s]
end tf
namespace qm
def cq:=bq (ay U Tryz.f152 [(14,lr 15)] [4,5,7,12] (some [nc,jP,sV,AP])) [0,1,1,1,4] [(0,.r),(4,.l [.I,.st,.I] du),(7,.l [.s,.I,.I] jv),(9,.s),(30,.I),(31,.I)]
abbrev t1:=bp cq
abbrev P0:Ps:=[(0,.r),(4,.l [.I,.st,.I] du),(7,.l [.s,.I,.I] jv),(9,.s),(43,.s),(44,.I),(45,.I)]
def l6:=bq t1 [0,1,1,1,6] P0
abbrev t2:=bp l6
abbrev cG:=ah t2 [3,2,1,1,6] P0
abbrev t3:=aj cG
def qK:=bE t3 l6
def dF:=bE t3 cq
abbrev aV:=ah t3 [3] [(0,.r),(4,.l [.I,.st,.I] du),(7,.l [.s,.I,.I] jv)]
abbrev t4:=aj aV
def aq:=aA t4 FB [.r,.a 3,.I,.st,.I,.a 3,.I,.st,.I]
end qm
namespace vD
def cq:=bq (ay U Tryz.f151 [(4,lr 17),(32,lr 8)] [4,5] (some [q',xZ,sV,FL])) [0,1,1,1,4] [(0,.r),(4,.l [.I,.s,.I,.I,.U,.st,.I,.I,.I] bQ),(5,.l [.I,.s,.I,.I,.U,.st,.I,.I,.I] bQ),(74,.I),(75,.I)]
abbrev t1:=bp cq
def dF:=bE t1 cq
abbrev aV:=ah t1 [4] [(0,.r),(4,.l [.I,.s,.I,.I,.U,.st,.I,.I,.I] bQ),(5,.l [.I,.s,.I,.I,.U,.st,.I,.I,.I] bQ),(6,.I)]
abbrev t2:=aj aV
def aq:=aA t2 FI [.r,.st]
end vD
namespace GG
abbrev bg:=ah (ay U Tryz.f126 [] [3,6,7] (some [nc,jP,vi,FI,FB])) [6] [(0,.r),(5,.I)]
abbrev t1:=aj bg
abbrev aV:=ah t1 [2] [(0,.r),(3,.l [.I,.st,.I] du)]
abbrev t2:=aj aV
def aq:=aA t2 FD [.r,.a 3,.I,.st,.I]
end GG
namespace Bi
abbrev P0:Ps:=[(0,.r),(3,.l [.I,.st,.I] du)]
abbrev bg:=ah (ay U Tryz.f93 [] [3] (some [qg,jP,vi,FH,FK,FD])) [4] P0
abbrev t1:=aj bg
abbrev aV:=ah t1 [3] P0
abbrev t2:=aj aV
abbrev bH:=ah t2 [2,1,1,1,2] P0
abbrev t3:=aj bH
def aq:=aA t3 sV [.r]
end Bi
namespace Bh
def a1:=bq (ay U Tryz.f19 [] [2] (some [FC,qg])) [0,1] [(0,.r)]
abbrev t1:=bp a1
def bS:=bE t1 a1
def aq:=aA t1 FN [.r]
end Bh
namespace vC
abbrev P0:Ps:=[(0,.r),(3,.l [.I,.st,.I,.I,.I,.I,.I] ky)]
abbrev bH:=ah (ay U Tryz.f40 [(24,lr 12),(29,lr 11)] [2,3,4] (some [qg,nc,FE,FF,FP,q',jP])) [3] P0
abbrev t1:=aj bH
abbrev bg:=ah t1 [2,1,5,1,1,1,2] P0
abbrev t2:=aj bg
abbrev aV:=ah t2 [0,1,5,1,1,1,2] [(0,.r),(2,.l [.I,.st,.I] du),(3,.l [.I,.st,.I,.I,.I,.I,.I] ky)]
abbrev t3:=aj aV
abbrev cG:=ah t3 [6,1,1,1,2] [(0,.r),(2,.l [.I,.st,.I] du),(3,.l [.I,.st,.I,.I,.I,.I,.I] ky),(9,.st)]
abbrev t4:=aj cG
def aq:=aA t4 FC [.r]
end vC
namespace Rj
abbrev aV:=ah (ay U Tryz.f63 [(1,lr 12)] [3] (some [jP,sV])) [4] [(4,.I)]
abbrev t1:=aj aV
def aq:=aA t1 FP [.r]
end Rj
namespace Rh
abbrev bg:=ah (ay U Tryz.f87 [(2,lr 12),(3,lr 13)] [2,3,6] (some [nc,jP])) [5] [(2,.l [.I,.st,.I] du),(3,.l [.I,.st,.I] du)]
abbrev t1:=aj bg
abbrev aV:=ah t1 [0,1,1,1,4] [(0,.r),(2,.l [.I,.st,.I] du),(3,.l [.I,.st,.I] du)]
abbrev t2:=aj aV
def aq:=aA t2 AQ [.r]
end Rh
namespace Q9
def aq:=aA (ay U Tryz.f61 [(6,lr 14)] [3,5] (some [nc,AQ,xZ,vi])) FE [.r,.a 3,.I,.st,.I]
end Q9
namespace Bf
abbrev P0:Ps:=[(0,.r),(1,.r),(2,.m)]
def a1:=bq (ay U Tryz.f91 [(9,lr 11)] [3,4] (some [qg,nc,jP,xZ])) [0,1,1] P0
abbrev t1:=bp a1
abbrev bH:=ah t1 [5,3,1] [(0,.r),(1,.r),(2,.m),(4,.l [.I,.st,.I] du)]
abbrev t2:=aj bH
abbrev bg:=ah t2 [3,3,1] P0
abbrev t3:=aj bg
def bS:=bE t3 a1
def aq:=aA t3 FG [.r,.r]
end Bf
namespace Q'
abbrev aV:=ah (ay U Tryz.f62 [(11,lr 8)] [2] (some [nc,jP,AQ,FG,FO])) [4] [(1,.r),(2,.l [.I,.st,.I] du)]
abbrev t1:=aj aV
def aq:=aA t1 FF [.r]
end Q'
namespace vE
abbrev P0:Ps:=[(0,.r),(2,.I)]
def a1:=bq (ay U Tryz.f92 [] [3] (some [qg])) [0,1,1] P0
abbrev t1:=bp a1
abbrev bg:=ah t1 [2,3,1] P0
abbrev t2:=aj bg
abbrev bH:=ah t2 [1,1,3,1,1,1,1,3,1] P0
abbrev t3:=aj bH
def bS:=bE t3 a1
def aq:=aA t3 FO [.r]
end vE
namespace QZ
def aq:=aA (ay U Tryz.f6 [(8,lr 12)] [2]) xY [.st]
end QZ
def Am:List Int:=[0,0,0,0,1,1,2,2,2,2,2,2,2,2,2,2,2,2,2,3,2,1,1,1,2,3,2,1,1,2,3,2,3,1,1]
abbrev db:En:=.rd ⟨some (aa 0),35,35⟩ (Am.map bC)
def ZG{op:Int}(d:0<=op)(e:op<=34):Am[op.toNat]? =some (b5 op):=by rcases vy d e with rfl|rfl|rfl|rfl|rfl|rfl|rfl|rfl|rfl|rfl|rfl|rfl|rfl|rfl|rfl|rfl|rfl|rfl|rfl|rfl|rfl|rfl|rfl|rfl|rfl|rfl|rfl|rfl|rfl|rfl|rfl|rfl|rfl|rfl|rfl<;>rfl
section
variable {M:Nat->Prop} {w0 w:I} {L D:List En} {bs:List Nat}
def _root_.Go.W.O.qw(H:O M w0 w L D)(i a c:Nat){b:Nat}{vs:List V}{T:TypeId}{v:V}{K:I->Prop}(hi:L[i]? =some (.c b vs T))(y:∀j,O M w0 j (L.set i (.c b (vs.set (a+c) v) T)) D->K j)(z:a+c<vs.length:=by simp[g4])(h:∀b∈bs,En.g b∈L:=by simp):
  aN w (((aa b).add a).add c) v λk=>kept bs w k/\K k:=by rw[add_add];obtain⟨A,B,E,C⟩:=BI (H.ob i hi) (a+c) io v;obtain⟨_,_,x⟩:=H.set (v:=v) i (a+c) hi z;refine⟨A,B,λd e=>?_,y _ x⟩;refine C.cw d (H.own _ (h d e)) λq=>?_;have:=xw H hi (zH w b vs T) (h d e);exact this (by rw[q];exact r7.2 rfl)
def _root_.Go.W.O.ic(H:O M w0 w L D)(i a:Nat){b:Nat}{vs:List V}{T:TypeId}{v:V}{K:I->Prop}(hi:L[i]? =some (.c b vs T))(h:∀d,O M w0 d (L.set i (.c b (vs.set a v) T)) D->K d)(k:a<vs.length:=by simp[g4])(j:∀b∈bs,En.g b∈L:=by simp):
  aN w ((aa b).add a) v λe=>kept bs w e/\K e:=by
 have:=H.qw (v:=v) (K:=K) i a 0 hi h k j
 rwa[jD]at this
end
def adF{g:List Nx}{n:Nx}(d:(b5 n.op==(n.kids.length:Int)&&n.kids.all (dI g)&&fa n)=true)(e:¬n.op<=3):bA g n=if jd n (bf g n 0) (bf g n 1) (bf g n 2)≠0 then(aX,jd n (bf g n 0) (bf g n 1) (bf g n 2))else(gZ n (bf g n 0) (bf g n 1) (bf g n 2),0):=by
 unfold bA jd;rw[d,ab gs,ab e]
 grind
def Z5{g:List Nx}{n:Nx}(d:(cb g n).2≠0):cb g n=(aX,(cb g n).2):=by
 unfold cb at d ⊢
 grind
structure j7(d:Nx):Prop where
 kl:d.kids.length<=1000000000
 n:cF d.n
 m:cF d.m
 u:0<=d.u
 tx:d.op=33->oq d.tx
abbrev w4(a b c:aM):List V:=g4 a++g4 b++g4 c
def od(g:List Nx)(n:Nx)(i j:Nat):aM:=if j<i then bf g n j else aX
def ZR{g:List Nx}{n:Nx}{j:Nat}(d:n.kids.length<=j):bf g n j=aX:=by
 unfold bf
 grind
def ZQ{l:List Nd}{n:Nx}{i:Nat}{k:Int}{e:Nd}(h:n.kids[i]? =some k)(d:l[k.toNat]? =some e):bf (xs l) n i=e.x.st:=by
 unfold bf
 grind
def ZP{g:List Nx}{n:Nx}(h:∀d∈g,br d.st=true)(j:Nat):qG (bf g n j):=by
 unfold bf;split
 .split
  .rename_i e;exact aeX (h _ (aD e))
  .exact Qm
 .exact Qm
def T8{w:I}{s:Sl}{l:List Nd}{d:Nd}{D:List En}(lk:Fv)(H:O F0 w w [] (.gr s l::bZ d::db::D))(hc:hy U lk.n=true)(hl:∀A:I,(∀e∈D,e.P A)->ai U lk.n (lk.bs++#[.string d.x.tx]++lk.cs) A λr aV=>r=n0 (xs l) d.x.tx/\af A aV)(ho:j7 d.x)(a7:l.length<=1000000000)(hv:∀e∈xs l,br e.st=true):
  ai U PI #[s.v,d.v,lk.v] w λr A=>r=gG (bA (xs l) d.x)/\af w A:=by
 have hn:=gx (a8.1 (H.getD 0));have aH:(xs l).length=l.length:=by simp[xs]
 have a6:d.ks.n=d.x.kids.length:=bF.len (H.getD 1);have a4:=ho.kl;refine rB.aq (H.nw λw1 _ H1=>H1.ax λN w2 H2=>H2.ae λQ J=>?_);have y:∀{G:I} {L:List En},O F0 w G (.c w.heap.size d.c bQ::L) (.gr s l::bZ d::db::D)->dG G (aa w.heap.size) d:=λH=>ya (H.ob 0);have J:O F0 w Q [.c w.heap.size d.c bQ,.g N] (.gr s l::bZ d::db::D):=J;have fail:(b5 d.x.op==(d.x.kids.length:Int)&&d.x.kids.all (dI (xs l))&&fa d.x)=false->∀{G:I} {L:List En} {bs:List Nat},O F0 w G L (.gr s l::bZ d::db::D)->(∀b∈bs,En.g b∈L)->loc bs G λM=>(λr A=>r=gG (bA (xs l) d.x)/\af w A) (ad (.tuple #[.agg #[.i 0,.i 0,.i 0],.i 1])) M:=λhf _ _ _ B hb=>B.ae (λM C=>⟨by unfold bA;rw[ag hf];rfl,C.fr⟩) hb;have kN:∀op:Int,op<0\/34<op->b5 op=-1:=λop aJ=>by unfold b5;rw[ag aJ]
 refine⟨_,(y J).c0,aT (λh0=>fail ?_ J gs) (λh0=>⟨_,(y J).c0,aT (λaK=>fail ?_ J gs) (λaK=>⟨_,(y J).c1,_,(y J).c0,io,by show d.x.op<35;omega,b5 d.x.op,?_,ct (λaj=>fail ?_ J gs) (λao=>?_)⟩)⟩)⟩
 .rw [kN _ (.inl h0),beq_eq_false_iff_ne.2 io];rfl
 .rw [kN _ (.inr io),beq_eq_false_iff_ne.2 io];rfl
 .have hk:bF Q ⟨some (aa 0),35,35⟩ Am:=J.getD 2;exact(show W.dJ (some (aa 0)) λp=>Q.cell? (p.add (a0 d.x.op *1))=some (.int .i64 (b5 d.x.op))from hk.cell (ZG io io) rfl λp _ hc=>hc)
 .rw [beq_eq_false_iff_ne.2 io];rfl
 have aS:(b5 d.x.op==(d.x.kids.length:Int))=true:=by rw[beq_iff_eq];omega
 have a3:d.x.kids.length<=3:=by
  have:b5 d.x.op<=3:=by unfold b5;repeat' split<;>omega
  omega
 refine J.nw λa1 _ H4=>⟨_,(y H4).c1,?_⟩;have loop:∀(m i:Nat) (G:I),i+m=d.x.kids.length->d.x.kids.all (dI (xs l))=(d.x.kids.drop i).all (dI (xs l))->O F0 w G [.c w.heap.size d.c bQ,.g N,.c Q.heap.size (w4 (od (xs l) d.x i 0) (od (xs l) d.x i 1) (od (xs l) d.x i 2)) B6] (.gr s l::bZ d::db::D)->
   rB.cq s lk (aa w.heap.size) N 0 0 0 (aa Q.heap.size) (d.ks.n:Int) (i:Int) G λr A=>r=gG (bA (xs l) d.x)/\af w A:=by
  intro m;induction m with
  |zero=>
   intro i G hi Y B;rw[dy io]at Y;have e0:∀F,od (xs l) d.x i F=bf (xs l) d.x F:=λF=>by
    unfold od;split
    .rfl
    .exact (ZR io).symm
   rw[e0,e0,e0]at B;refine rB.dF (aQ (a2 io) (B.av (aeh (y B)) ?_));rintro _ M rfl C;refine⟨_,rfl,eU (λhf=>fail (by rw[hf,Bool.and_false]) C gs) (λhf=>C.ax λah Z h=>?_)⟩;have ay:(b5 d.x.op==(d.x.kids.length:Int)&&d.x.kids.all (dI (xs l))&&fa d.x)=true:=by rw[aS,Y,hf];rfl
   have h:O F0 w Z [.c w.heap.size d.c bQ,.g N,.c Q.heap.size (w4 (bf (xs l) d.x 0) (bf (xs l) d.x 1) (bf (xs l) d.x 2)) B6,.g ah] (.gr s l::bZ d::db::D):=h;have fin:∀(T:aM) (E:Int) (t:aM) (e:Int) (j:I),bA (xs l) d.x=(if E≠0 then(aX,E)else(T,0))->e=E->(E=0->t=T)->O F0 w j [.c w.heap.size d.c bQ,.g N,.c Q.heap.size (w4 (bf (xs l) d.x 0) (bf (xs l) d.x 1) (bf (xs l) d.x 2)) B6,.g ah] (.gr s l::bZ d::db::D)->
     loc [N,ah] j λw9=>rB.cG N 0 0 0 ah t.k t.n t.x e w9 λr A=>r=gG (bA (xs l) d.x)/\af w A:=by intro T E t e j hs z K q;subst z;refine q.ae λw9 H9=>ct (λaj=>H9.ae λaW an=>⟨by rw[hs,ag aj];rfl,an.fr⟩) (λh0=>H9.ae λaW an=>⟨?_,an.fr⟩);rw[hs,ab io,K h0]
   have aI:d.x.op<=3->bA (xs l) d.x=(if(cb (xs l) d.x).2≠0 then(aX,(cb (xs l) d.x).2)else((cb (xs l) d.x).1,0)):=λh3=>by
    unfold bA;rw[ay,ab gs,ag h3];split
    .rename_i aj;exact Z5 aj
    .rename_i ao;rw[Decidable.not_not]at ao;rw[<-ao]
   have ac:=λF=>ZP (n:=d.x) hv F;refine⟨_,(y h).c0,aw (λaA=>?_) (λaA=>⟨_,(y h).c0,aT (λar=>?_) (λar=>⟨_,(y h).c0,aT (λaC=>?_) (λaC=>⟨_,(y h).c0,aT (λaG=>?_) (λaG=>?_)⟩)⟩)⟩)⟩
   .have Hv:O F0 Z Z [] (.gV (aa w.heap.size) d::D):=bM _ (by
     intro e z;rcases aF.1 z with rfl|z
     .exact y h
     .exact h.rd e (cP _ (cP _ (cP _ z))))
    refine h.av (aeq (xs l) lk Hv hc hl aA) ?_;rintro _ j ⟨t,e,rfl,z,K⟩ q;exact⟨_,_,_,_,rfl,fin _ _ t e j (aI io) z K q⟩
   .refine h.av (aek (xs l) (y h) io ar ho.u) ?_;rintro _ j ⟨t,e,rfl,z,K⟩ q;exact⟨_,_,_,_,rfl,fin _ _ t e j (aI ar) z K q⟩
   all_goals
    have rest:=adF ay io;have S:∀(a c:Nat) (v:V),(w4 (bf (xs l) d.x 0) (bf (xs l) d.x 1) (bf (xs l) d.x 2))[a+c]? =some v->Z.cell? (((aa Q.heap.size).add a).add c)=some v:=λa c v hv=>by rw[add_add];exact h.ld 2 (a+c) rfl hv
    refine⟨io,dl,(bf (xs l) d.x 0).k,(bf (xs l) d.x 0).n,(bf (xs l) d.x 0).x,S 0 0 _ rfl,S 0 1 _ rfl,S 0 2 _ rfl,io,dl,(bf (xs l) d.x 1).k,(bf (xs l) d.x 1).n,(bf (xs l) d.x 1).x,S 3 0 _ rfl,S 3 1 _ rfl,S 3 2 _ rfl,io,dl,(bf (xs l) d.x 2).k,(bf (xs l) d.x 2).n,(bf (xs l) d.x 2).x,S 6 0 _ rfl,S 6 1 _ rfl,S 6 2 _ rfl,?_⟩
   .refine h.av (aeg (y h) io aC (ac 0) (ac 1) ho.n ho.m) ?_;rintro _ j ⟨t,e,rfl,z,K⟩ q;exact⟨_,_,_,_,rfl,fin _ _ t e j rest z K q⟩
   .refine h.av (aef (y h) io aG) ?_;rintro _ j ⟨t,e,rfl,z,K⟩ q;exact⟨_,_,_,_,rfl,fin _ _ t e j rest z K q⟩
   .refine h.av (aep (y h) io io (ac 0) (ac 1) (ac 2) ho.tx) ?_;rintro _ j ⟨t,e,rfl,z,K⟩ q;exact⟨_,_,_,_,rfl,fin _ _ t e j rest z K q⟩
  |succ m ih=>
   intro i G hi Y B;have hg:d.x.kids[i]? =some (d.x.kids[i]'io):=aY io;rw[dw (by omega:i<d.x.kids.length),List.all_cons]at Y;generalize d.x.kids[i]'io=x at hg Y;have bad:dI (xs l) x=false->rB.bH N 0 0 0 G λr A=>r=gG (bA (xs l) d.x)/\af w A:=λhx=>fail (by rw[Y,hx];simp) B gs;refine rB.dF (aR (a5 io) ⟨_,(y B).c1,io,io,(show bF G d.ks d.x.kids from B.getD 1).cell hg io λp hp aN=>⟨x,aN,aT (λh1=>bad ?_) (λh1=>aT (λh2=>bad ?_) (λh2=>?_))⟩⟩)
   .unfold dI;rw[a2 io];rfl
   .unfold dI;rw[a2 (show ¬x<((xs l).length:Int)by rw[aH];omega)];simp
   have ap:l[x.toNat]? =some (l[x.toNat]'io):=aY io;generalize l[x.toNat]'io=e at ap;have aU:=ZQ hg ap;refine eh (a8.1 (B.getD 0)) (i:=x.toNat) io ap λa9 hq c=>⟨_,_,_,c.s0,c.s1,c.s2,io,by show(i:Int)<3;omega,?_⟩;have aL:d.x.kids.all (dI (xs l))=(d.x.kids.drop (i+1)).all (dI (xs l)):=by rw[Y];unfold dI;rw[a5 (show 0<=x by omega),a5 (show x<((xs l).length:Int)by rw[aH];omega)];rfl
   have am:∀M,O F0 w M [.c w.heap.size d.c bQ,.g N,.c Q.heap.size (w4 (od (xs l) d.x (i+1) 0) (od (xs l) d.x (i+1) 1) (od (xs l) d.x (i+1) 2)) B6] (.gr s l::bZ d::db::D)->rB.cq s lk (aa w.heap.size) N 0 0 0 (aa Q.heap.size) (d.ks.n:Int) (aB .i64 ((i:Int)+1)) M λr A=>r=gG (bA (xs l) d.x)/\af w A:=λM C=>by rw[bm _ io];exact ih (i+1) M io aL C
   have aO:i=0\/i=1\/i=2:=io
   have up:∀F,od (xs l) d.x (i+1) F=if F=i then e.x.st else od (xs l) d.x i F:=λF=>by
    unfold od;by_cases hj:F=i
    .rw [ag hj,ag io,hj,aU]
    .rw [ab hj];by_cases az:F<i
     .rw [ag az,ag io]
     .rw [ab az,ab io]
   rw[up 0,up 1,up 2]at am;rcases aO with rfl|rfl|rfl
   .exact B.ic 2 0 rfl λM C=>C.qw 2 0 1 rfl λZ h=>h.qw 2 0 2 rfl λj q=>am j q
   .exact B.ic 2 3 rfl λM C=>C.qw 2 3 1 rfl λZ h=>h.qw 2 3 2 rfl λj q=>am j q
   .exact B.ic 2 6 rfl λM C=>C.qw 2 6 1 rfl λZ h=>h.qw 2 6 2 rfl λj q=>am j q
 exact loop d.x.kids.length 0 a1 io gs H4
def ael{w:I}{s:Sl}{l:List Nd}{b:Nat}(t:ByteArray)(q:GP w s l)(H:w.heap[b]? =some (.cells [s.v].toArray nB (0,0)))(N:l.length<=1000000000):
  ai U F6 #[.string t,.pointer (some (aa b))] w λr y=>r=n0 (xs l) t/\af w y:=by
 have P:=gx q;have F:O F0 w w [] [.gr s l,.c b [s.v] nB]:=bM _ (by
  intro k e;simp only[aF,aZ,a7]at e;rcases e with rfl|rfl
  .exact a8.2 q
  .exact H)
 have loop:∀(m i:Nat) (h:Nat) (j:I),i+m=l.length->ih (xs l) t=ih ((xs l).drop i) t->O F0 w j [.g h] [.gr s l,.c b [s.v] nB]->tH.a1 t (aa b) h 0 0 0 (s.n:Int) (i:Int) j λr y=>r=n0 (xs l) t/\af w y:=by
  intro m;induction m with
  |zero=>
   intro i h j J e d;rw[dy (by grind)]at e;exact tH.bS (aQ (a2 io) (d.ae λL A=>⟨by unfold n0;rw[e];rfl,A.fr⟩))
  |succ m Y=>
   intro i h j J e d;have z:l[i]? =some (l[i]'io):=aY io;have K:(xs l).drop i=(l[i]'io).x::(xs l).drop (i+1):=by
    rw[dw (by grind:i<(xs l).length)]
    grind
   rw[K]at e;generalize l[i]'io=k at z e;have M:ih (xs l) t=if k.x.op=0/\k.x.tx=t then some k.x.st else ih ((xs l).drop (i+1)) t:=e;have C:¬(k.x.op=0/\k.x.tx=t)->tH.bg t (aa b) h 0 0 0 (s.n:Int) (i:Int) j λr y=>r=n0 (xs l) t/\af w y:=λQ=>by
    show tH.a1 t (aa b) h 0 0 0 (s.n:Int) (aB .i64 ((i:Int)+1)) j _;rw[bm _ io]
    grind
   refine tH.bS (aR (a5 io) ⟨s,d.dZ 1 0,eh (a8.1 (d.getD 0)) rfl z λp S c=>⟨_,c.c0,aw (λD=>⟨s,d.dZ 1 0,eh (a8.1 (d.getD 0)) rfl z λZ T G=>⟨_,G.c5,BG (λE=>⟨s,d.dZ 1 0,eh (a8.1 (d.getD 0)) rfl z λp3 W B=>⟨_,_,_,B.s0,B.s1,B.s2,d.ae λL A=>⟨?_,A.fr⟩⟩⟩) (λE=>C λq=>E q.2)⟩⟩) (λD=>C λq=>D q.1)⟩⟩);unfold n0
   grind
 exact tH.aq (F.ax λh j d=>⟨s,d.dZ 1 0,loop l.length 0 h j io gs d⟩)
def aee{w:I}{s:Sl}{l:List Nd}{d:Nd}(H:GP w s l)(hd:d.P w)(N:db.P w)(J:j7 d.x)(k:l.length<=1000000000)(K:∀j∈xs l,br j.st=true):
  ai U Pp #[.agg #[s.v],d.v] w λr y=>r=gG (bA (xs l) d.x)/\af w y:=by
 have A:O F0 w w [] [.gr s l,bZ d,db]:=bM _ (by
  intro j h;simp only[aF,aZ,a7]at h;rcases h with rfl|rfl|rfl
  .exact a8.2 H
  .exact hd
  omega)
 refine Ue.aq (A.nw λQ _ B=>B.ax λL S C=>C.ax λM z e=>⟨s,e.ld 0 0,?_⟩);have G:O F0 z z [] [.gr s l,bZ d,db,.gr s l,.c w.heap.size [s.v] nB]:=bM _ (by
  intro j h;simp only[aF,aZ,a7]at h;rcases h with rfl|rfl|rfl|rfl|rfl
  .exact e.getD 0
  .exact e.getD 1
  .exact e.getD 2
  .exact e.getD 0
  .exact e.get 0)
 refine e.av (T8 (D:=[.gr s l,.c w.heap.size [s.v] nB]) ⟨F6,#[],#[.pointer (some (aa w.heap.size))]⟩ G (by kernel_rfl) (λy q=>?_) J k K) ?_
 .exact ael d.x.tx (a8.1 (q (.gr s l) gs)) (q (.c w.heap.size [s.v] nB) gs) k
 .rintro _ T rfl E;exact⟨_,_,_,_,rfl,E.ae λW F=>⟨rfl,F.fr⟩⟩
abbrev Ac(e:Int)(p:Nat):V:=.iface lq (.agg #[.i e,.i (p:Int)])
abbrev je(e:Int)(p:Nat):List PanicEntry:=[{v:=Ac e p,recovered:=false}]
structure RC where
 rb:Nat
 tk:Sl
 cs:Sl
 mo:Nat
 mv:Nat
 mm:Nat
 g:Sl
 pm:Option Nat
 kn:Int
 dp:Nat
abbrev bx(X:RC)(s:aH):En:=.c X.rb [X.tk.v,.i (s.p:Int),X.g.v,X.cs.v,.map (some X.mo),.map (some X.mv),.map (some X.mm),.map X.pm,.i X.kn,.i (X.dp:Int),.i (s.tm:Int)] aeO
def UA(t:aI):(wh t).length=3:=rfl
abbrev mJ(t:aI):V:=.agg #[.i t.kind,.string (ba t.text),.i (t.a6:Int)]
structure CS(w:I)(p:Addr)(t:aI):Prop where
 c0:w.cell? (p.add 0)=some (.i t.kind)
 c1:w.cell? (p.add 1)=some (.string (ba t.text))
 c2:w.cell? (p.add 2)=some (.i (t.a6:Int))
def B2{w:I}{s:Sl}{l:List aI}(h:bh 3 w s (l1 l)){i:Nat}{d:aI}{X:Int}(k:X=(i:Int))(hi:l[i]? =some d){K:Addr->Prop}(q:∀p,s.a=some p->CS w (p.add (a0 X *3)) d->K p):oh s X K:=by have j:=h.1;unfold l1 at j;rw[pV wh 3 UA]at j;have y:=(List.getElem?_eq_some_iff.1 hi).1;subst k;exact⟨io,io,fN.elem (f:=wh) (sz:=3) UA io h.2.2 hi λp x e=>q p x ⟨e 0 _ rfl,e 1 _ rfl,e 2 _ rfl⟩⟩
def HU{w:I}{s:Sl}{l:List aI}(x:bh 3 w s (l1 l)){i:Nat}{d:aI}{X:Int}(y:X=(i:Int))(hi:l[i]? =some d){p:Addr}(A:s.a=some p):CS w (p.add (a0 X *3)) d:=by obtain⟨_,_,j⟩:=B2 x y hi (K:=λh=>∃k,s.a=some k/\CS w (k.add (a0 X *3)) d) (λh e z=>⟨h,e,z⟩);rw[A]at j;obtain⟨h,e,q⟩:=j;cases e;exact q
section
variable {M:Nat->Prop} {w0 w:I} {L D:List En} {bs:List Nat}
def _root_.Go.W.O.abN(H:O M w0 w L D)(i:Nat){e:En}(h:En){P:au}{g:b3}{args:Array V}{A:Ending->Prop}{K:aC}(hi:L[i]? =some e)(x:ai P g args w λr d=>A r/\h.P d/\Fr (·∈e.fp) w d)(y:∀b∈h.fp,b∈e.fp)(z:∀r d,A r->O M w0 d (L.set i h) D->K r d)(q:∀b∈bs,En.g b∈L.eraseIdx i:=by simp):fF bs P g args w K:=
 ⟨(·∈e.fp),λb j B=>xo hi H.nd b B (.g b) (q b j) (by simp[En.g]),x.mono λr d ⟨k,C,f⟩=>⟨f,z r d k (H.fx i h hi f C λb j=>.inl (y b j))⟩⟩
end
section
variable {X:RC} {T:List aI}
def g7(w:I)(rb:Nat)(D:List En):Prop:=∀d∈D,d.P w/\∀e∈d.fp,e≠rb
def kq{w:I}{e:En}{D:List En}{rb:Nat}(j:e.fp=[rb])(z:e.P w)(q:g7 w rb D):O (·∈[rb]) w w [e] D:=
 O.o6 _ _ (λh d=>by
  rw[cy.1 d];exact⟨z,λy k=>j▸k⟩) (by simp[j]) (λh d=>⟨(q h d).1,λy k B A x=>by rw[cy.1 A,j,cy]at x;exact(q h d).2 y k x⟩)
def cV{M:Nat->Prop}{w0 w:I}{L D:List En}(H:O M w0 w L D){i:Nat}{e:En}{rb:Nat}(hi:L[i]? =some e)(j:e.fp=[rb]):g7 w rb D:=λd h=>⟨H.rd d h,λx q k=>H.dj d h x q e (aD hi) (by rw[j,k];simp)⟩
def iJ(X:RC)(w:I){α:Type}(x:PR α)(val:α->V):aC:=λr d=>match x with
 |.ok a s=>r=ad (val a)/\(bx X s).P d/\Fr (·∈[X.rb]) w d
 |.er e p=>r=.panicked (je e p)/\Fr (·∈[X.rb]) w d
def EA{M:Nat->Prop}{w0 w w':I}{L D:List En}(H:O M w0 w L D){i:Nat}{e:En}(hi:L[i]? =some e)(f:Fr (·∈e.fp) w w'):Fr M w0 w':=H.fr.trans f λh j d=>(H.new e (aD hi) h d).resolve_left io
def EZ{M:Nat->Prop}{w0 w w':I}{L D:List En}{bs:List Nat}(H:O M w0 w L D){i:Nat}{e:En}(hi:L[i]? =some e)(f:Fr (·∈e.fp) w w')(h:∀b∈bs,En.g b∈L.eraseIdx i):kept bs w w':=λb d=>
 f.cw b ((En.g b).lt w (H.own (.g b) (List.mem_of_mem_eraseIdx (h b d))) b (by simp[En.g])) λj=>xo (f:=λe:En=>e.fp) hi H.nd b j (.g b) (h b d) (by simp[En.g])
def eZ{M:Nat->Prop}{w0 w:I}{L D:List En}{bs:List Nat}(H:O M w0 w L D)(i:Nat){s:aH}{α:Type}{x:PR α}{val:α->V}{P:au}{f:b3}{args:Array V}{R K:aC}(hi:L[i]? =some (bx X s))(q:ai P f args w (iJ X w x val))(z:∀a e d,x=.ok a e->O M w0 d (L.set i (bx X e)) D->K (ad (val a)) d)(y:∀h p d,x=.er h p->Fr M w0 d->R (.panicked (je h p)) d)(k:∀b∈bs,En.g b∈L.eraseIdx i:=by simp):mX bs P f args R w K:=by
 refine q.mono λr d j=>?_;unfold iJ at j;split at j
 .rename_i a e;obtain⟨rfl,A,f⟩:=j;exact .inr ⟨⟨_,rfl⟩,EZ H hi f k,z a e d rfl (H.fx i (bx X e) hi f A λx B=>.inl B)⟩
 .rename_i h p;obtain⟨rfl,f⟩:=j;exact .inl ⟨_,rfl,y h p d rfl (EA H hi f)⟩
def gw{M:Nat->Prop}{w0 w:I}{L D:List En}{bs:List Nat}(H:O M w0 w L D){P:au}{f:b3}{args:Array V}{c:List PanicEntry}{R K:aC}(h:ai P f args w λr d=>r=.panicked c/\af w d)(j:∀d,Fr M w0 d->R (.panicked c) d):mX bs P f args R w K:=
 h.mono λr d ⟨e,f⟩=>.inl ⟨c,e,j d (H.cA f).fr⟩
def jX(h:Addr)(e:Int)(t:aI)(w:I):ai U jP #[.pointer (some h),.i e,mJ t] w λr j=>r=.panicked (je e t.a6)/\af w j:=
 Ra.aq ((bM (w:=w) [] gs).ax λb k d=>⟨rfl,d.fr⟩)
def rp(e:Addr)(t:aI)(w:I):ai U qg #[.pointer (some e),mJ t] w λr h=>r=.panicked (je (if t.kind=6 then 3 else 2) t.a6)/\af w h:=
 Rk.aq ((bM (w:=w) [] gs).ax λb k j=>aw (λd=>gw j (jX e 3 t k) λh f=>⟨by rw[ag d],f⟩) (λd=>gw j (jX e 2 t k) λh f=>⟨by rw[ab d],f⟩))
structure pA(X:RC)(T:List aI)(D:List En):Prop where
 t:En.a3 3 X.tk (l1 T)∈D
 e:hX T
def yp{w:I}{D:List En}{s:aH}(F:(bx X s).P w)(G:g7 w X.rb D)(y:pA X T D)(z:s.p<T.length):
  ai U OQ #[.pointer (some (aa X.rb))] w λr C=>r=ad (mJ (aL T s.p))/\(bx X (cH (aL T s.p) s)).P C/\Fr (·∈[X.rb]) w C:=by
 have A:=(o9 z).2;have M:=y.e.l;generalize aL T s.p=t at A;refine Ri.aq ((kq rfl F G).ax λK N E=>E.ae λO h=>⟨X.tk,h.ld 0 0,_,h.ld 0 1,B2 (h.rd _ y.t) rfl A λp z c=>⟨t.kind,ba t.text,t.a6,c.c0,c.c1,c.c2,h.ax λL Q d=>?_⟩⟩);have q:=HU (d.rd _ y.t) (X:=(s.p:Int)) rfl A z;refine⟨q.c0,q.c1,q.c2,d.ld 0 1,d.ld 0 0,ct (λx=>d.ae λH j=>⟨_,j.ld 0 1,j.ic 0 1 rfl (λJ k=>k.ae λS B=>⟨rfl,?_,B.fr⟩) gs⟩) (λx=>d.ae λH j=>j.ae λJ k=>⟨rfl,?_,k.fr⟩)⟩
 .have:=B.get 0;rw[bm _ io]at this;unfold cH;rw[ab x];exact this
 .unfold cH;rw[ag x];exact k.get 0
def aaO{M:Nat->Prop}{w0 w:I}{L D:List En}{bs:List Nat}(H:O M w0 w L D)(i:Nat){e h:En}{v:V}{rb:Nat}{P:au}{f:b3}{args:Array V}{K:aC}(hi:L[i]? =some e)(k:e.fp=[rb])(B:h.fp=[rb])(z:ai P f args w λr d=>r=ad v/\h.P d/\Fr (·∈[rb]) w d)(C:∀d,O M w0 d (L.set i h) D->K (ad v) d)(y:∀b∈bs,En.g b∈L.eraseIdx i:=by simp):fF bs P f args w K:=
 H.abN i h (A:=λr=>r=ad v) hi (z.mono λr d ⟨j,E,f⟩=>⟨j,E,by rw[k];exact f⟩) (λF q=>by rw[B]at q;rw[k];exact q) (λr d j x=>j▸C d x) y
def AL{M:Nat->Prop}{w0 w:I}{L D:List En}(H:O M w0 w L D)(i:Nat){e h:En}{v:V}{rb:Nat}{P:au}{f:b3}{args:Array V}{K:aC}(hi:L[i]? =some e)(j:e.fp=[rb])(y:h.fp=[rb])(x:ai P f args w λr d=>r=ad v/\h.P d/\Fr (·∈[rb]) w d)(z:∀d,O M w0 d (L.set i h) D->K (ad v) d):ai P f args w K:=
 x.mono λr d ⟨q,A,f⟩=>q▸z d (H.fx i h hi (by rw[j];exact f) A λB k=>.inl (by rw[y]at k;rw[j];exact k))
def jo{w:I}{D:List En}{s:aH}{k:Int}(d:(bx X s).P w)(z:g7 w X.rb D)(A:pA X T D)(B:s.p<T.length):
  ai U nc #[.pointer (some (aa X.rb)),.i k] w (iJ X w (bL T k s) mJ):=by
 refine Rg.aq ((kq rfl d z).ax λC G e=>aaO e 0 rfl rfl rfl (yp (e.get 0) (cV e (i:=0) rfl rfl) A B) λH y=>⟨_,_,_,rfl,y.ax λE J j=>ct (λd=>j.ae λx h=>gw h (rp _ (aL T s.p) x) λF f=>?_) (λd=>j.ae λx h=>h.ae λK q=>?_)⟩)
 .unfold iJ bL;rw[ab d];exact⟨rfl,f⟩
 .unfold iJ bL;rw[ag d];exact⟨rfl,q.get 0,q.fr⟩
end
def wo(g:List Nx):List Int:=((List.range g.length).filter λi=>match g[i]? with |some d=>ak (d.op=0)|none=>false).map λi:Nat=>(i:Int)
def zf(g:List Nx):Prop:=∀(i:Nat) (d:Nx),g[i]? =some d->∀e∈d.kids,0<=e/\e<(i:Int)
def Vg.sN{g:List Nx}(d:Vg g):zf g:=λ_ _ e=>d.kids e
def jO(n m:Int)(w:I)(h:1<=m)(d:cF n):ai U xS #[.i n,.i m] w λr e=>r=ad (.i (fC n m))/\af w e:=(IP n m w h d).mono λr e d=>⟨d.1,d.2▸Fr.refl _ _⟩
def mM(t:List UInt8)(s:aM):Nx:=⟨0,[],0,0,0,ba t,s⟩
def l3(t:List UInt8)(s:aM):Nd:=⟨mM t s,⟨none,0,0⟩⟩
def fX:List Nd:=[l3 [97] (aO 2),l3 [98] (aO 2),l3 [99] (aO 1),l3 [100] (aO 3)]
def hO:List Nd:=[l3 [109] ⟨2,2,1⟩,l3 [110] ⟨2,2,1⟩]
def iD:List Nd:=[l3 [115] (dt 2),l3 [116] (dt 1),l3 [105] (aO 7),l3 [122] ⟨3,1,1⟩]
def bN(kind:Int):List Nd:=fX++(if kind>0 then hO else[])++(if kind>1 then iD else[])
def vgB(l:List Nx):Bool:=(List.range l.length).all λi=>match l[i]? with
 |some n=>ak (bA (l.take i) n=(n.st,0))&&ak (n∉l.take i)
 |none=>false
def H'{l:List Nx}(h:vgB l=true):Vg l:=by
 have main:∀i,i<=l.length->Vg (l.take i):=by
  intro i;induction i with
  |zero=>intro _;rw[List.take_zero];exact .nil
  |succ i j=>
   intro k;have d:=List.all_eq_true.1 h i (List.mem_range.2 io);have e:l[i]? =some (l[i]'io):=aY io;rw[e]at d;dsimp only at d;rw[fJ,e];simp only[bd,decide_eq_true_eq]at d;exact .snoc (j io) d.1 d.2
 have:=main l.length (bw _)
 grind
def TO(kind:Int):Vg (xs (bN kind)):=by
 unfold bN;split
 .split
  .exact H' (by kernel_rfl)
  .exact H' (by kernel_rfl)
 .split
  .omega
  .exact H' (by kernel_rfl)
def n9:List ByteArray:=[ba [],ba [97],ba [97,98],ba [98],ba [0],ba [97,97]]
structure MdN(d:Nx):Prop where
 QE:-1<=d.op
 QF:d.op<=34
 kl:d.kids.length<=3
 n:0<=d.n/\d.n<=100
 m:0<=d.m/\d.m<=100
 u:0<=d.u/\d.u<=1000
 tx:d.op≠33->d.tx.size<=16
 re:d.op=33->∃k,d.tx=ba (nt k)
 li:d.op=2->d.tx∈n9
structure l7(g:List Nx):Prop where
 vg:Vg g
 nd:∀d∈g,MdN d
def adY(kind:Int):l7 (xs (bN kind)):=by
 refine⟨TO kind,λe k=>?_⟩;have d:∃t s,e=mM t s/\t.length<=16:=by
  have h:e∈xs (fX++hO++iD):=by
   obtain⟨a,j,rfl⟩:=List.mem_map.1 k;refine List.mem_map.2 ⟨a,?_,rfl⟩;unfold bN at j
   grind
  simp only[xs,fX,hO,iD,l3,gE,lV,List.map_cons,List.map_nil,aF,aZ,a7]at h
  grind
 obtain⟨t,s,rfl,q⟩:=d;exact⟨by show(-1:Int)<=0;omega,by show(0:Int)<=34;omega,by simp[mM],by simp[mM],by simp[mM],by simp[mM],λ_=>by show(ba t).size<=16;rw[be];exact q,λd=>(by cases d),λd=>(by cases d)⟩
def HG{kind:Int}:∀d∈bN kind,d.x.kids=[]/\d.ks=⟨none,0,0⟩:=by
 intro d h;have e:d∈fX++hO++iD:=by
  unfold bN at h
  grind
 simp only[fX,hO,iD,l3,mM,gE,lV,aF,aZ,a7]at e;rcases e with rfl|rfl|rfl|rfl|rfl|rfl|rfl|rfl|rfl|rfl<;>exact⟨rfl,rfl⟩
def adX{kind:Int}{w w0:I}{s:Sl}(q:bh 9 w s ((bN kind).flatMap Nd.c))(y:∀b∈aG s,w0.heap.size<=b):GR w0 F0 (xs (bN kind)) s w:=by
 refine⟨bN kind,rfl,⟨q,λe j=>?_⟩,λb d=>.inr ?_⟩
 .obtain ⟨h,k⟩:=HG e j;show bF w e.ks e.x.kids;rw[h,k];exact Rd.nil w
 .rcases q5.1 d with d|⟨e,j,d⟩
  .exact o1 y b d
  .obtain ⟨h,k⟩:=HG e j;unfold bZ at d;rw[h]at d;cases d
def TM(kind:Int):1<=(bN kind).length/\(bN kind).length<=10:=by unfold bN;split<;>split<;>decide
def Xk(kind:Int)(w:I):ai U Ol #[.i kind] w λr q=>(∃s:Sl,r=ad s.v/\GR w F0 (xs (bN kind)) s q)/\af w q:=by
 refine Eb.ok ((bM [] gs).call (fE 2 w) ?_);rintro _ w1 rfl K;refine⟨_,_,_,rfl,K.call (fE 2 w1) ?_⟩;rintro _ w2 rfl N;refine⟨_,_,_,rfl,N.call (fE 1 w2) ?_⟩;rintro _ w3 rfl P;refine⟨_,_,_,rfl,P.call (fE 3 w3) ?_⟩;rintro _ J rfl Q;refine⟨_,_,_,rfl,Q.e9 (n:=4) (sz:=9) (cs:=fX.flatMap Nd.c) rfl dl λC E=>?_⟩;have fin:∀(l:Sl) (d:I) (L:List En) (j:Nat),O F0 w d L []->L[j]? =some (.row bQ 9 l ((bN kind).flatMap Nd.c))->(∃s:Sl,Ending.returned l.v=ad s.v/\GR w F0 (xs (bN kind)) s d)/\af w d:=λl d L j e A=>
  ⟨⟨l,rfl,adX (e.get j A:aK _ _ _ _ _).a3 λb Y=>(e.new _ (aD A) b Y).resolve_right id⟩,e.fr⟩
 have F:∀(l:Sl) (d:I) (L:List En) (j:Nat) (h:List Nd),O F0 w d L []->h.length<=6->bN kind=h++(if kind>1 then iD else[])->L[j]? =some (.row bQ 9 l (h.flatMap Nd.c))->Eb.S0 kind l d λr q=>(∃s:Sl,r=ad s.v/\GR w F0 (xs (bN kind)) s q)/\af w q:=by
  intro l d L j h e ah Z A;refine aT (λG=>?_) (λG=>?_)
  .rw [ag G]at Z;refine e.call (pF 2 d) ?_;rintro _ D rfl z;refine⟨_,_,_,rfl,z.call (pF 1 D) ?_⟩;rintro _ w8 rfl S;refine⟨_,_,_,rfl,S.call (fE 7 w8) ?_⟩;rintro _ x rfl T;refine⟨_,_,_,rfl,T.e9 (n:=4) (sz:=9) (cs:=iD.flatMap Nd.c) rfl dl λac y=>?_⟩;have H:(L++[En.row bQ 9 ⟨some (aa x.heap.size),4,4⟩ (iD.flatMap Nd.c)])[j]? =some (.row bQ 9 l (h.flatMap Nd.c)):=by grind
   have ab:(L++[En.row bQ 9 ⟨some (aa x.heap.size),4,4⟩ (iD.flatMap Nd.c)])[L.length]? =some (.row bQ 9 ⟨some (aa x.heap.size),4,4⟩ (iD.flatMap Nd.c)):=gs
   have hn:l.n=h.length:=by have:=(y.get j H:aK _ _ _ _ _).len;rw[Nd.hB]at this;omega
   have k:bh 9 ac ⟨some (aa x.heap.size),4,4⟩ (iD.flatMap Nd.c):=(y.get L.length ab:aK _ _ _ _ _).a3;refine y.ap j nT (src:=⟨some (aa x.heap.size),4,4⟩) H k.2.2 k.1 ra (by grind) (λB ae M _ _=>?_);refine fin B ae _ j M ?_
   grind
  grind
 refine aT (λW=>E.e9 (n:=2) (sz:=9) (cs:=hO.flatMap Nd.c) rfl dl λd e=>?_) (λW=>?_)
 .have k:bh 9 d ⟨some (aa C.heap.size),2,2⟩ (hO.flatMap Nd.c):=(e.get 1:aK _ _ _ _ _).a3;refine e.ap 0 nT (s:=⟨some (aa J.heap.size),4,4⟩) (src:=⟨some (aa C.heap.size),2,2⟩) rfl k.2.2 k.1 ra (by grind) (λB D z _ _=>?_);refine F B D _ 0 (fX++hO) z dl ?_ ?_
  .unfold bN;grind
  grind
 .refine F ⟨some (aa J.heap.size),4,4⟩ C _ 0 fX E dl ?_ rfl;unfold bN;grind
def Xo(kind:Int)(s:aM)(w:I):ai U On #[.i kind,dg s] w λr h=>(∃b:Bool,r=ad (.bool b))/\af w h:=
 K6.aq ((bM [] gs).ax λb j e=>aw (λd=>⟨⟨_,rfl⟩,e.fr⟩) (λd=>aT (λd=>aw (λd=>⟨⟨_,rfl⟩,e.fr⟩) (λd=>⟨⟨_,rfl⟩,e.fr⟩)) (λd=>⟨⟨_,rfl⟩,e.fr⟩)))
end Go.Proofs.YtkbmpalepmakmabGreatDoor
end
