import Derived.Test.YtjakeaplbkhjmaaGreatDoorN0
import Derived.Test.YtjakeaplbkhjmaaGreatDoorT1
import Derived.Test.YtjakeaplbkhjmaaGreatDoorVP
import Derived.Test.YtjakeaplbkhjmaaGreatDoorW
import Derived.Test.YtjakeaplbkhjmaaGreatDoorU
import Derived.Laws.StandIn
import Derived.Lib.Bytealg
import Derived.Laws.RangeString
set_option linter.unusedVariables false
set_option linter.defProp false
set_option maxRecDepth 100000
noncomputable section
namespace Go.Proofs.YtjakeaplbkhjmaaGreatDoor
open Go renaming World->J,Calls->aj,Program->au,Value->V,FuncId->bX,LoopState->eK
open Go.IntKind renaming wrap->aD
open _root_.Int renaming toNat->aZ,toNat_natCast->bG
open _root_.ByteArray renaming mk->a8
open Go.IntWalk renaming i64_in->br
open _root_.Bool renaming and_eq_true->be
open _root_.Nat renaming le_refl->bm,le_trans->bD,zero_le->di,lt_of_lt_of_le->sT
open _root_.UInt8 renaming ofNat->ei
open _root_.Option.some renaming inj->dZ
open Go.Proofs.Tryz renaming prog->U
open _root_.Decidable renaming decide->ai
open Go.Ending renaming returned->ad
open List renaming mem_append->aK,mem_cons->aF,not_mem_nil->a5,mem_of_getElem?->aA,getElem?_eq_getElem->a0,getElem?_eq_some_iff->cq,length_append->bb,length_cons->bx,mem_singleton->b',length_take->gK,length_drop->dM,mem_cons_of_mem->cJ,drop_eq_getElem_cons->dy,all_eq_true->cY,append_nil->bU,nil_append->uS,cons_append->kE,take_add_one->g5,drop_drop->iF,drop_of_length_le->dw,take_of_length_le->fA
open Go Go.W
section
variable {s:Sl} {l:List I} {bs:Nat}
end
def ZX{s:Sl}{l:List I}{w:J}(q:I.a3 l<=1000000)(x:aL w aV 4 s (l.flatMap I.c))(z:I.Ps w l)(hd:∀D∈aR s,D∉I.bd l)(A X d:List I)(k:l=A++X++d)(F:X.length<=12)(a b:Int)(h:a=(A.length:Int))(j:b=((A.length+X.length:Nat):Int))(y:Int)(B C:Bool){R:aB}(E:∀e,aL e aV 4 s ((A++fY X++d).flatMap I.c)->Fr (·∈aR s) w e->R (ad (.tuple #[])) e):AZ.L0 s a b y B C w R:=by
 have H:=I.ga l;have G:A.length+X.length+d.length=l.length:=by grind
 subst h j;refine AZ.cr (aU (aQ ?_) ?_)
 .rw [br _ io];omega
 refine(U2 s l w q x z hd A X d k _ rfl).mono ?_
 grind
set_option maxRecDepth 100000
set_option maxHeartbeats 1000000
abbrev VG(bs:List Nat)(f:bX)(xs:Array V)(w:J)(K:ByteArray->Int->J->Prop):Prop:=fH bs U f xs w λh j=>∃d:ByteArray,∃e:Int,h=ad (.tuple #[.string d,.i e])/\K d e j
def RS:mn 12:=by intro s l z j w e y q;have x:=I.cw e.a2;refine RQ.ok ((UD _ z).mono ?_);rintro _ B ⟨⟨t,rfl⟩,f⟩;refine⟨t,rfl,AZ.ok (ZX w (e.fr f λ_ _ d=>d) (y.cC f) q [] l [] gs j _ _ rfl (by simp[x]) _ _ _ λA k h=>?_)⟩;exact⟨rfl,⟨fY l,rfl,abA l,aby l,by simpa using k⟩,f.O'.trans h λC _ d=>d⟩
def Ik{a b:Nat}(e:¬a<b):Nat.blt a b=false:=by
 cases d:Nat.blt a b with
 |false=>rfl
 |true=>rw[Nat.blt_eq]at d;exact absurd d e
mutual
def DQ:∀q:Rx,cN q=true->i7 q=true
 |.mk k lo w l,h=>by
  unfold cN at h;simp only[be]at h;have d:=h.2;have j:dT l=true->oh l=true:=KF l;unfold i7;split at d
  .rename_i e;have:l=[]:=by simpa using d
   subst this;have e:k=0\/k=1:=e;unfold oh;rcases e with rfl|rfl<;>decide
  .split at d
   .rename_i e;simp only[be]at d;have:l=[]:=by simpa using d.1
    subst this;subst e;unfold oh;decide
   .split at d
    .rename_i e;rw[j d];rcases e with rfl|rfl|rfl<;>simp
    .split at d
     .rename_i e;simp only[be,beq_iff_eq]at d;rw[j d.2];rcases e with rfl|rfl<;>simp[d.1]
     .cases d
def KF:∀l:List Rx,dT l=true->oh l=true
 |[],_=>rfl
 |a::l,d=>by unfold dT at d;unfold oh;simp only[be]at d;rw[DQ a d.1,KF l d.2];rfl
end
def acn(s:ByteArray)(hf:∀ac,hU (bl s)=.inr ac->jv 12 (cG ac.tp))(w:J):aj U Fh #[.string s] w λr w'=>r=ad (.bool (jC (bl s)))/\ag w w':=by
 have hl:(bl s).length=s.size:=cZ s;have ab:O F0 w w [] []:=bT [] gs;refine Sy.aq ((Iu s w).mono ?_);rintro r w1 ⟨f1,W⟩;have H1:=ab.cC f1;have no:∀(a e:Int),e≠0->jC (bl s)=false->r=ad (.tuple #[.agg #[.int .i64 0,.int .u8 0,.int .u8 0,.slice none 0 0],.int .i64 a,.int .i64 e])->∃(t0 t1 t2:Int) (t3:Sl) (t4 t5:Int),r=ad (.tuple #[.agg #[.i t0,.int .u8 t1,.int .u8 t2,t3.v],.i t4,.i t5])/\uA [] w1 λj M=>bB (t5 !=0) (loc [j] M λD=>(Ending.returned (.bool false)=ad (.bool (jC (bl s)))/\ag w D)) (loc [j] M λD=>VF [j] E2 #[.agg #[.i t0,.int .u8 t1,.int .u8 t2,t3.v]] D λap ar ay az aB Z=>uA [j] Z λG N=>
   bB (aB !=0) (loc [j,G] N λY=>(Ending.returned (.bool false)=ad (.bool (jC (bl s)))/\ag w Y)) (loc [j,G] N λY=>VG [j,G] NK #[.agg #[.i ap,.int .u8 ar,.int .u8 ay,az.v]] Y λaC aG ak=>bB (aG==0) (Ending.returned (.bool (aC.toList==s.toList))=ad (.bool (jC (bl s)))/\ag w ak) (Ending.returned (.bool false)=ad (.bool (jC (bl s)))/\ag w ak))):=λa e K hn W=>⟨0,0,0,⟨none,0,0⟩,a,e,W,H1.ax λj M P=>cz (λ_=>P.ae λw3 E=>⟨by rw[hn],E.fr⟩) (λz=>absurd z K)⟩
 rcases W with⟨h1,k⟩|⟨h1,res,ao,⟨a,rfl,k⟩|⟨h,rfl,⟨H,k⟩|⟨H,t,k,B,pt,ft⟩⟩⟩
 .refine no _ _ dl ?_ k;unfold jC;rw[show Nat.blt 4096 (bl s).length=true from by rw[Nat.blt_eq];omega];rfl
 all_goals have S:Nat.blt 4096 (bl s).length=false:=Ik io
 all_goals have d:=SQ ao
 .have d:Sum.inl a=hU (bl s):=d;refine no _ _ dl ?_ k;unfold jC;rw[S,<-d];rfl
 .have d:Sum.inr (fb h)=hU (bl s):=d;refine no _ _ dl ?_ k;unfold jC;rw[S,<-d];dsimp only[cond_false];rw[tW,show Nat.blt 64 (cG h.tp).sz=true from by rw[Nat.blt_eq];exact H];rfl
 .have d:Sum.inr (fb h)=hU (bl s):=d;have T:=hf _ d.symm;rw[tW]at T;have A:jC (bl s)=if kB (cG h.tp)=0 then(if iL (fW (cG h.tp))=0 then cI 0 (fW (cG h.tp)) (a' (fW (cG h.tp)))==bl s else false)else false:=by unfold jC;rw[S,<-d];dsimp only[cond_false];have:Nat.blt 64 (cG h.tp).sz=false:=Ik io;rw[tW,this];rfl
  generalize cG h.tp=x at B T A H;have am:=ab.ec (.tree t) f1 pt (λb Q=>.inl (ft b (a7.1 Q)));have aH:t.sz<=64:=by rw[<-I.ek,B];exact H
  refine⟨_,_,_,t.s,_,_,k,am.ax λj M P=>cz (λz=>absurd rfl z) (λ_=>P.ae λw3 E=>?_)⟩;refine E.hh (It RS io t w3 io (by rw[B];exact T) (E.getD 0)) ?_;rintro _ w4 ⟨u,rfl,C,pu,fu⟩ _ F4;rw[B]at C;rw[B];have H4:=F4.rd (.tree u) pu λb Q=>fu b (a7.1 Q);refine⟨_,_,_,u.s,_,rfl,H4.ax λG w5 H5=>cz (λL=>H5.ae λD y=>⟨by rw[A,aa L],y.fr⟩) (λK=>H5.ae λD y=>?_)⟩;rw[af K]at A;have ah:u.sz<=1000000:=by
   rw[<-I.ek,C];have:kB x=0:=K;unfold kB at this;unfold fW;split at this
   .rename_i q;rw[af q];unfold o7 at this;unfold o8;split at this
    .cases this
    .rename_i an;rw[aa an];omega
   .rename_i q;exact absurd this q
  refine kf (Gc.aq ((gH (y.getD 1)).ax λb1 Z H7=>H7.av (Cp u Z ah (H7.getD 0)) ?_));rintro _ N rfl F;rw[C];refine⟨_,rfl,cz (λL=>⟨F.fr,_,_,rfl,aw (λz=>absurd z L) (λ_=>⟨by rw[A,aa L],(y.cC F.fr).fr⟩)⟩) (λq=>F.av (Pv u 0 N ah io ?_ (F.getD 0)) ?_)⟩
  .exact DQ _ (by rw[C];exact(Bn q).1)
  .rintro _ w9 rfl H9;refine⟨_,rfl,H9.fr,_,_,rfl,aU rfl ⟨?_,(y.cC H9.fr).fr⟩⟩;rw[A,af q,C];congr 2;have:=tn (cI 0 (fW x) (a' (fW x))) (bl s);rw[kZ]at this;exact this
def Zn(t:ByteArray)(e:∀d,hU (bl t)=.inr d->jv 12 (cG d.tp)):qS t:=λh=>acn t e h
structure aJ where
 p:Nat
 tm:Nat
 g:List Nx
structure PM where
 ps:List (List UInt8×aP)
 b:Nat
 ix:Nat
structure b3 where
 T:List aG
 vs:List (List UInt8×Nat)
 ms:List (List UInt8×PM)
 pm:List (List UInt8×Nat)
 kn:Nat
 dp:Nat
inductive PR (α:Type)
 |ok (a:α) (s:aJ)
 |er (e:Int) (p:Nat)
def PR.b{α β:Type}(x:PR α)(f:α->aJ->PR β):PR β:=match x with
 |.ok a s=>f a s
 |.er d p=>.er d p
def lk{α:Type}:List (List UInt8×α)->List UInt8->Option α
 |[],_=>none
 |(d,v)::l,t=>if d=t then some v else lk l t
def aO(T:List aG)(p:Nat):aG:=T.getD p ⟨6,[],0⟩
def cS(t:aG)(s:aJ):aJ:=if t.kind=6 then s else{s with p:=s.p+1}
def j4{α:Type}(t:aG):PR α:=.er (if t.kind=6 then 3 else 2) t.aT
def bL(T:List aG)(k:Int)(s:aJ):PR aG:=
 if(aO T s.p).kind=k then .ok (aO T s.p) (cS (aO T s.p) s)else j4 (aO T s.p)
def c'(base:Nat)(l:List UInt8):Nat:=l.foldl (λn c=>base *n+eM c) 0
def dg(T:List aG)(s:aJ):PR Int:=(bL T 4 s).b λt s=>.ok (c' 10 t.text:Int) s
def u9(w:List UInt8):Option Int:=
 if w=[98,118]then some 0 else if w=[115,116,114]then some 1 else if w=[97,114,114]then some 2 else if w=[97,114,115]then some 3 else none
def iE(T:List aG)(s:aJ):PR aP:=
 (bL T 0 s).b λt s=>(bL T 2 s).b λe s=>match u9 e.text with
 |none=>j4 e
 |some d=>(if d=2\/d=3 then dg T s else .ok 0 s).b λh s=>(dg T s).b λn s=>(bL T 1 s).b λ_ s=>
  if bw ⟨d,n,h⟩then .ok ⟨d,n,h⟩ s else .er 9 t.aT
def eC(s:aJ)(n:Nx)(t:aG):PR Nat:=
 if(bj s.g n).2.2=0 then .ok (bj s.g n).2.1.toNat {s with g:=(bj s.g n).1}else .er (bj s.g n).2.2 t.aT
def ho(op:Int):Nx:=⟨op,[],0,0,0,ba [],a6⟩
def fg(l:List UInt8):Nx:=
 if l[1]? =some 120 then⟨1,[],0,0,(c' 16 (l.drop 2):Int),ba [],aN (((l.length - 2) *4:Nat):Int)⟩else⟨1,[],0,0,(c' 2 (l.drop 2):Int),ba [],aN ((l.length - 2:Nat):Int)⟩
def fM:List (List UInt8×(Int×Nat)):=[
 ([110,111,116],4,1),([110,101,103],5,1),([97,110,100],6,2),([111,114],7,2),([120,111,114],8,2),
 ([97,100,100],9,2),([109,117,108],10,2),([117,100,105,118],11,2),([117,114,101,109],12,2),([115,104,108],13,2),
 ([108,115,104,114],14,2),([97,115,104,114],15,2),([117,108,116],16,2),([115,108,116],17,2),([101,113],18,2),
 ([105,116,101],19,3),([99,111,110,99,97,116],20,2),([115,101,108,101,99,116],24,2),([115,116,111,114,101],25,3),([100,105,102,102],26,2),
 ([108,101,110],27,1),([99,97,116],29,2),([115,117,98],30,3),([102,105,110,100],31,2),([114,101,112,108,97,99,101],32,3),([99,104,97,114],34,1)]
def RU:List (List UInt8):=[[110,117,109],[122,101,114,111],[101,120,116,114,97,99,116],[122,101,120,116],[115,101,120,116],[98,121,116,101],[105,110]]
def iz(w:List UInt8):Bool:=RU.contains w||(lk fM w).isSome
def hy(t:List UInt8):List UInt8×Int:=if 4096<t.length then([],4)else match hU t with
 |.inl _=>([],2)
 |.inr d=>if 64<(cG d.tp).sz then([],4)else
  if kB (cG d.tp)=0 then(if iL (fW (cG d.tp))=0 then(cI 0 (fW (cG d.tp)) (a' (fW (cG d.tp))),0)else([],iL (fW (cG d.tp))))else([],kB (cG d.tp))
def qB(T:List aG)(s:aJ):PR (List UInt8):=(bL T 5 s).b λt s=>if(hy t.text).2=0 then .ok (hy t.text).1 s else .er (hy t.text).2 t.aT
def gF(tm:aJ->PR Nat):Nat->aJ->PR (List Int)
 |0,s=>.ok [] s
 |n+1,s=>(tm s).b λk s=>(gF tm n s).b λl s=>.ok ((k:Int)::l) s
def iy(T:List aG)(w:List UInt8)(s:aJ):PR (Nx×Nat):=
 if w=[110,117,109]then(dg T s).b λu s=>(dg T s).b λn s=>.ok (⟨1,[],0,0,u,ba [],aN n⟩,0) s else
 if w=[122,101,114,111]then(iE T s).b λd s=>.ok (⟨3,[],0,0,0,ba [],d⟩,0) s else
 if w=[101,120,116,114,97,99,116]then(dg T s).b λn s=>(dg T s).b λm s=>.ok (⟨21,[],n,m,0,ba [],a6⟩,1) s else
 if w=[122,101,120,116]then(dg T s).b λn s=>.ok (⟨22,[],n,0,0,ba [],a6⟩,1) s else
 if w=[115,101,120,116]then(dg T s).b λn s=>.ok (⟨23,[],n,0,0,ba [],a6⟩,1) s else
 if w=[98,121,116,101]then(dg T s).b λn s=>.ok (⟨28,[],n,0,0,ba [],a6⟩,1) s else
 if w=[105,110]then(qB T s).b λr s=>.ok (⟨33,[],0,0,0,ba r,a6⟩,1) s else
 .ok (ho ((lk fM w).getD (0,0)).1,((lk fM w).getD (0,0)).2) s
def iC(T:List aG)(tm:aJ->PR Nat)(w:List UInt8)(s:aJ):PR Nx:=
 (iy T w s).b λd s=>(gF tm d.2 s).b λe s=>.ok {d.1 with kids:=e} s
def iA(E:b3)(w:List UInt8):Option PM:=match lk E.ms w with
 |some m=>if m.ix<E.kn then some m else none
 |none=>none
def iU:List (List UInt8×aP)->List Int->List (List UInt8×Nat)
 |(p,_)::e,a::d=>(p,a.toNat)::iU e d
 |_,_=>[]
def h4(tm:b3->aJ->PR Nat)(E:b3)(m:PM)(az:List Int)(s:aJ):PR Nat:=
 (tm {E with pm:=iU m.ps az,kn:=m.ix} {s with p:=m.b}).b λn d=>.ok n {d with p:=s.p}
def k9(tm:b3->aJ->PR Nat)(E:b3)(t:aG)(s:aJ):PR Nat:=match lk E.pm t.text with
 |some n=>.ok n s
 |none=>match lk E.vs t.text with
  |some n=>.ok n s
  |none=>match iA E t.text with
   |some m=>if m.ps=[]then h4 tm E m [] s else .er 6 t.aT
   |none=>.er 6 t.aT
def kJ(g:List Nx):List (List UInt8×aP)->List Int->Bool
 |(_,h)::e,a::d=>ai ((g[a.toNat]?).map (·.st)=some h)&&kJ g e d
 |_,_=>true
def p9(tm:b3->aJ->PR Nat)(E:b3)(t w:aG)(s:aJ):PR Nat:=match iA E w.text with
 |none=>.er 6 w.aT
 |some m=>(gF (tm E) m.ps.length s).b λd s=>(bL E.T 1 s).b λ_ s=>
  if kJ s.g m.ps d then h4 tm E m d s else .er 9 t.aT
def mz(tm:b3->aJ->PR Nat)(E:b3)(t:aG)(s:aJ):PR Nat:=
 if 64<=E.dp then .er 4 t.aT else
 (bL E.T 2 s).b λd s=>
  if iz d.text then(iC E.T (tm {E with dp:=E.dp+1}) d.text s).b λn s=>(bL E.T 1 s).b λ_ s=>eC s n t
  else p9 tm {E with dp:=E.dp+1} t d s
def jd(tm:b3->aJ->PR Nat)(E:b3)(s:aJ):PR Nat:=
 let t:=aO E.T s.p
 if t.kind=1\/t.kind=4\/t.kind=6 then j4 t else
 if 65536<=s.tm then .er 4 t.aT else
 let s:={cS t s with tm:=s.tm+1}
 if t.kind=2 then k9 tm E t s else
 if t.kind=3 then eC s (fg t.text) t else
 if t.kind=5 then eC s ⟨2,[],0,0,0,ba t.text,a6⟩ t else
 mz tm E t s
def dO:Nat->b3->aJ->PR Nat
 |0,_,_=>.er 1000 0
 |f+1,d,s=>jd (dO f) d s
set_option maxHeartbeats 2000000
namespace Sc
def ok:=aC (ay U Tryz.f72 [] []) Od [.st,.v]
end Sc
namespace xR
def L0:=bu (ay U Tryz.f92 [] []) [0,1,1,1,1] [(1,.f),(2,.b),(10,.v [.v])]
abbrev t1:=bt L0
def cr:=bF t1 L0
def ok:=aC t1 Oe [.st,.f,.b]
end xR
namespace Lz
def ok:=aC (ay U Tryz.f54 [] []) Nr [.st,.I]
end Lz
namespace LA
def ok:=aC (ay U Tryz.f73 [] []) w5 [.i .i32,.r]
end LA
namespace LD
def ok:=aC (ay U Tryz.f74 [] []) Nt [.i .i32,.I]
end LD
namespace LI
def ok:=aC (ay U Tryz.f36 [] []) NA [.Y]
end LI
namespace LB
def ok:=aC (ay U Tryz.f37 [] []) Ns [.Y,.I]
end LB
namespace zp
abbrev P0:Ps:=[]
abbrev S0:=ah (ay U Tryz.f38 [] []) [0,1,1,2,1,1,2] P0
abbrev t1:=ak S0
abbrev P1:Ps:=[(0,.st)]
abbrev S1:=ah t1 [1,1,1,1,2] P1
abbrev t2:=ak S1
abbrev S2:=ah t2 [0,1,1,1,3] P0
abbrev t3:=ak S2
abbrev S4:=ah t3 [6] [(0,.st),(4,.I),(5,.I)]
abbrev t4:=ak S4
abbrev S3:=ah t4 [4] P1
abbrev t5:=ak S3
def ok:=aC t5 Nv [.st]
end zp
namespace o6
abbrev a1:=ah (ay U Tryz.f53 [(4,lr 5),(7,lr 5),(11,lr 5),(18,lr 5),(20,lr 5)] [6,7,8]) [0,1,1,2,1,1,2] [(1,.I),(6,.l [.I,.I] je),(8,.l [.I,.I] je)]
abbrev t1:=ak a1
abbrev bC:=ah t1 [1,1,2,1,4] [(1,.I),(6,.l [.I,.I] je),(9,.Y)]
abbrev t2:=ak bC
abbrev P0:Ps:=[(0,.st),(1,.I),(6,.l [.I,.I] je),(7,.l [.I,.I] je),(8,.l [.I,.I] je),(10,.I),(11,.I)]
def il:=bu t2 [0,1,1,1,6] P0
abbrev t3:=bt il
abbrev ft:=ah t3 [2,2,1,1,6] P0
abbrev t4:=ak ft
def nO:=bF t4 il
abbrev bh:=ah t4 [1,1,4] [(0,.st),(1,.I),(6,.l [.I,.I] je),(7,.l [.I,.I] je),(8,.l [.I,.I] je),(9,.Y)]
abbrev t5:=ak bh
def aq:=aC t5 Nw [.st,.I]
end o6
def Yz(s:ByteArray)(c:UInt8)(w:J):Sem.run U (callFunc ur #[.string s,.int .u8 (c.toNat:Int)]) w=.ok (.value (.int .i64 (Go.Lib.indexByte (bl s) c))) w:=by have d:=run_callFunc_indexByte (P:=U) (f:=ur) (fn:=(Tryz.prog.funcs[ur]?).getD default) (by kernel_rfl) (by kernel_rfl) (by kernel_rfl) (by kernel_rfl) (by kernel_rfl) #[.string s,.int .u8 (c.toNat:Int)] w;rw[d,Go.Lib.run_indexByteString];show Result.ok _ w=_;congr 4;simp
def zA(s:ByteArray)(c:UInt8)(w:J):aj U Ff #[.string s,.int .u8 (c.toNat:Int)] w λr d=>r=ad (.int .i64 (Go.Lib.indexByte (bl s) c))/\w=d:=by
 refine GQ.ok ?_;refine(show aj U EN #[.string s,.int .u8 (c.toNat:Int)] w λr d=>r=ad (.int .i64 (Go.Lib.indexByte (bl s) c))/\w=d from ?_).mono ?_
 .exact D3.ok ⟨_,w,Yz s c w,rfl,rfl⟩
 .rintro r e ⟨rfl,rfl⟩;exact⟨_,rfl,rfl,rfl⟩
def D0:∀(l:List UInt8) (c:UInt8),(0<=Go.Lib.indexByte l c)=(c∈l)
 |[],c=>by simp[Go.Lib.indexByte]
 |b::l,c=>by
  unfold Go.Lib.indexByte;have k:=D0 l c;by_cases e:b=c
  .subst e;simp
  .rw [aa (by simpa using e)];have q:=Go.Lib.indexByte_ge l c;have d:(c∈b::l)=(c∈l):=by apply propext;rw[aF];exact⟨λj=>j.resolve_left λd=>e d.symm,.inr⟩
   rw[d,<-k];split
   .rename_i h;have:Go.Lib.indexByte l c=-1:=by simpa using h
    rw[this]
   .rename_i h;have:Go.Lib.indexByte l c≠-1:=by simpa using h
    apply propext;omega
def Ei(c:UInt8)(w:J):aj U NA #[.int .u8 (c.toNat:Int)] w λr e=>r=ad (.bool (o' c))/\w=e:=by
 refine LI.ok (bq (λd=>?_) (λd=>?_))
 .have:=eQ d;refine⟨?_,rfl⟩;unfold o';rw[aQ (show 97<=c.toNat by omega),Bool.true_and];congr 2;exact decide_eq_decide.2 io
 .have:=lE d;refine⟨?_,rfl⟩;unfold o';rw[aS (show ¬97<=c.toNat by omega),Bool.false_and]
def Eg(c:UInt8)(base:Nat)(w:J):aj U Ns #[.int .u8 (c.toNat:Int),.int .i64 (base:Int)] w λr A=>r=ad (.bool (cH base c))/\w=A:=by
 refine LB.ok (bq (λq=>?_) (λq=>bq (λk=>?_) (λk=>?_)))
 .have h:base=2:=by have:(base:Int)=2:=(by simpa using q);omega
  subst h;refine bq (λd=>⟨?_,rfl⟩) (λd=>⟨?_,rfl⟩)<;>(congr 2;unfold cH;rw[Bool.eq_iff_iff];simp at d ⊢;omega)
 .have h:base=16:=by have:(base:Int)=16:=(by simpa using k);omega
  subst h;refine bq (λd=>bq (λx=>⟨?_,rfl⟩) (λx=>bq (λj=>⟨?_,rfl⟩) (λj=>⟨?_,rfl⟩))) (λd=>bq (λj=>⟨?_,rfl⟩) (λj=>⟨?_,rfl⟩))<;>(congr 2;unfold cH;rw[Bool.eq_iff_iff];simp at *;omega)
 .have z:base≠2:=λe=>by subst e;simp at q
  have y:base≠16:=λe=>by subst e;simp at k
  refine bq (λd=>⟨?_,rfl⟩) (λd=>⟨?_,rfl⟩)<;>(congr 2;unfold cH;rw[aa z,aa y,Bool.eq_iff_iff];simp at d ⊢;omega)
def XT(c:UInt8)(base:Nat)(w:J):aj U Nt #[.int .i32 (c.toNat:Int),.int .i64 (base:Int)] w λr A=>r=ad (.bool (cH base c))/\w=A:=by
 refine LD.ok (bq (λq=>?_) (λq=>bq (λk=>?_) (λk=>?_)))
 .have h:base=2:=by have:(base:Int)=2:=(by simpa using q);omega
  subst h;refine bq (λd=>⟨?_,rfl⟩) (λd=>⟨?_,rfl⟩)<;>(congr 2;unfold cH;rw[Bool.eq_iff_iff];simp at d ⊢;omega)
 .have h:base=16:=by have:(base:Int)=16:=(by simpa using k);omega
  subst h;refine bq (λd=>bq (λx=>⟨?_,rfl⟩) (λx=>bq (λj=>⟨?_,rfl⟩) (λj=>⟨?_,rfl⟩))) (λd=>bq (λj=>⟨?_,rfl⟩) (λj=>⟨?_,rfl⟩))<;>(congr 2;unfold cH;rw[Bool.eq_iff_iff];simp at *;omega)
 .have z:base≠2:=λe=>by subst e;simp at q
  have y:base≠16:=λe=>by subst e;simp at k
  refine bq (λd=>⟨?_,rfl⟩) (λd=>⟨?_,rfl⟩)<;>(congr 2;unfold cH;rw[aa z,aa y,Bool.eq_iff_iff];simp at d ⊢;omega)
def B8{b:Bool}{p:Prop}(d:b=true)(e:p):W.cL b p:=by subst d;exact e
def D8(w:J)(s:ByteArray)(i:Nat):ag w (w.iter s i):=Fr.alloc _ _ _
def XS(c:UInt8)(base d:Nat)(w:J)(e:w.cell? (ab d)=some (.int .i64 (base:Int))):aj U w5 #[.int .i32 (c.toNat:Int),.pointer (some (ab d))] w λr h=>r=ad (.bool (!(cH base c)))/\w=h:=by refine LA.ok ⟨_,e,(XT c base w).mono ?_⟩;rintro r j ⟨rfl,rfl⟩;exact⟨_,rfl,rfl,rfl⟩
def Lh(s:ByteArray)(base:Nat)(w:J)(F:∀c∈bl s,c.toNat<128):aj U Nr #[.string s,.int .i64 (base:Int)] w λr k=>r=ad (.bool ((bl s).all (cH base)))/\ag w k:=by
 have I:∀(K:J->Prop),(∀e,ag w e->e.heap[w.heap.size]? =some (.cells #[.int .i64 (base:Int)] bA (0,0))->K e)->c9 w (.cells #[.int .i64 (base:Int)] bA) K:=λK h=>h _ (Fr.alloc _ _ _) (qj w _);refine Lz.ok (I _ λe y D=>?_);have key:∀(d i:Nat),i+d=s.size->((bl s).take i).all (cH base)=true->xR.L0 ⟨w5,#[],#[.pointer (some (ab w.heap.size))]⟩ true (.pointer (some ⟨e.heap.size,0,none⟩)) (e.iter s i)
   λr k=>(∃t:Int,r=ad (.int .i64 t)/\ai (t<0)=(bl s).all (cH base))/\ag w k:=by
  intro d;induction d with
  |zero=>
   intro i H q;refine xR.cr (.inl ⟨_,run_next_end e s i _ io,⟨_,rfl,?_⟩,y.g' (D8 _ _ _)⟩);rw[fA (by rw[cZ];omega)]at q;rw[q];rfl
  |succ d L=>
   intro i H q;have A:i<s.size:=io
   have z:i<(bl s).length:=by rw[cZ];exact A
   have B:s[i]∈bl s:=by have:(bl s)[i]=s[i]:=rfl;rw[<-this];exact List.getElem_mem z
   have G:=F _ B;refine xR.cr (.inr ⟨_,_,_,run_next_ascii e s i _ A G,?_⟩);have j:(bl s).take (i+1)=(bl s).take i++[s[i]]:=by rw[g5,a0 z];rfl
   refine B8 (by kernel_rfl) ((XS s[i] base w.heap.size (e.iter s (i+1)) ?_).mono ?_)
   .have:=(D8 e s (i+1)).at D id;have:=cellAt (p:=ab w.heap.size) (i:=0) this rfl rfl
    rwa[jm]at this
   .rintro r C ⟨rfl,rfl⟩;refine⟨_,rfl,bq (λh=>?_) (λh=>?_)⟩
    .have h:((!cH base s[i])==true)=true:=h;have x:cH base s[i]=false:=by simpa using h
     refine⟨⟨_,rfl,?_⟩,y.g' (D8 _ _ _)⟩;have:(bl s).all (cH base)=false:=by
      cases E:(bl s).all (cH base)with
      |false=>rfl
      |true=>have:=cY.1 E _ B;rw[x]at this;cases this
     rw[this];exact aS io
    .have h:((!cH base s[i])==true)=false:=h;have x:cH base s[i]=true:=by simpa using h
     exact L (i+1) io (by rw[j,List.all_append,q];simp[x])
 have whole:aj U Od #[.string s,.func (.func w5) #[] #[.pointer (some (ab w.heap.size))]] e λr k=>(∃t:Int,r=ad (.int .i64 t)/\ai (t<0)=(bl s).all (cH base))/\ag w k:=by refine Sc.ok ((show aj U Oe #[.string s,(⟨w5,#[],#[.pointer (some (ab w.heap.size))]⟩:W.Fv).v,.bool true] e _ from xR.ok ⟨_,_,run_range_string e _ s A7,key s.size 0 io rfl⟩).mono ?_);rintro r C ⟨⟨t,rfl,j⟩,f⟩;exact⟨t,rfl,⟨t,rfl,j⟩,f⟩
 refine whole.mono ?_;rintro r C ⟨⟨t,rfl,j⟩,f⟩;exact⟨t,rfl,by rw[j],f⟩
def wS{s:ByteArray}{l:List UInt8}(e:bl s=l)(i:Nat):s[i]? =l[i]?:=by
 subst e;by_cases d:i<s.size
 .rw [getElem?_pos s i d,a0 (by rw[cZ];exact d)];rfl
 .rw [getElem?_neg s i d,List.getElem?_eq_none (by rw[cZ];omega)]
def Ij(s:ByteArray)(i j:Nat):bl (s.extract i j)=((bl s).take j).drop i:=by unfold bl;rw[ByteArray.data_extract,Array.toList_extract,List.extract_eq_drop_take']
def XV(s:ByteArray)(w:J)(h0:bl s≠[])(hw:∀c∈bl s,bO c=true)(ak:s.size<=1000000):aj U Nv #[.string s] w λr D=>r=ad (.tuple #[.int .i64 (fx (bl s)).1,.int .i64 (fx (bl s)).2])/\ag w D:=by
 obtain⟨c,l,q⟩:∃c l,bl s=c::l:=by
  cases e:bl s with
  |nil=>exact absurd e h0
  |cons c l=>exact⟨c,l,rfl⟩
 have Q:∀j∈bl s,j.toNat<128:=λj y=>by have:=hw j y;unfold bO o' cH at this;simp at this;omega
 have B:s.size=l.length+1:=by rw[<-cZ,q];rfl
 have L:s[0]? =some c:=by rw[wS q];rfl
 refine zp.ok ⟨io,c,L,(Ei c w).mono ?_⟩;rintro r I ⟨rfl,rfl⟩;refine⟨_,rfl,bq (λH=>?_) (λH=>?_)⟩
 .refine (zA s 35 w).mono ?_;rintro r I ⟨rfl,rfl⟩;refine⟨_,rfl,bq (λe=>?_) (λe=>?_)⟩
  .have S:(35:UInt8)∈bl s:=by rw[<-D0];exact eQ e
   have A:(bl s).any (λj=>j.toNat==35)=true:=List.any_eq_true.2 ⟨35,S,rfl⟩;rw[q]at A ⊢;unfold fx;simp only[];rw[af H,af A];exact⟨rfl,Fr.refl _ _⟩
  .have S:¬(35:UInt8)∈bl s:=by rw[<-D0];have:=lE e;omega
   have A:¬(bl s).any (λj=>j.toNat==35)=true:=λh=>by obtain⟨j,y,ac⟩:=List.any_eq_true.1 h;have:j=35:=UInt8.toNat_inj.1 (by simpa using ac);exact S (this▸y)
   rw[q]at A ⊢;unfold fx;simp only[];rw[af H,aa A];refine bq (λe=>?_) (λe=>?_)
   .have:=eQ e;rw[af (by simp;omega)];exact⟨rfl,Fr.refl _ _⟩
   .have:=lE e;rw[aa (by simp;omega)];exact⟨rfl,Fr.refl _ _⟩
 .have W:¬o' c=true:=by simpa using H
  refine⟨io,c,L,bq (λG=>?_) (λG=>?_)⟩
  .have ae:c.toNat≠35:=λh=>by rw[h]at G;simp at G
   refine(Lh s 10 w Q).mono ?_;rintro r I ⟨rfl,k⟩;have h:fx (bl s)=if !((bl s).all (cH 10))||(c.toNat==48&&ai (1<(bl s).length))then(0,2)else if 13<(bl s).length then(0,4)else(4,0):=by
    rw[q];conv=>lhs;unfold fx
    simp only[];rw[aa W,af ae]
   rw[h];have hlen:(bl s).length=s.size:=cZ s;refine⟨_,rfl,bq (λe=>?_) (λe=>?_)⟩
   .rw [e,Bool.true_or,af rfl];exact⟨rfl,k⟩
   .have h':(!((bl s).all (cH 10)))=false:=e;rw[h',Bool.false_or];have tail:¬((c.toNat==48&&ai (1<(bl s).length))=true)->zp.S1 s I λr D=>r=ad (.tuple #[.int .i64 (if(c.toNat==48&&ai (1<(bl s).length))=true then((0:Int),(2:Int))else if 13<(bl s).length then(0,4)else(4,0)).1,.int .i64 (if(c.toNat==48&&ai (1<(bl s).length))=true then((0:Int),(2:Int))else if 13<(bl s).length then(0,4)else(4,0)).2])/\ag w D:=λhz=>by
     rw[aa hz];refine bq (λe=>?_) (λe=>?_)
     .have:=eQ e;rw[af io];exact⟨rfl,k⟩
     .have:=lE e;rw[aa io];exact⟨rfl,k⟩
    refine⟨io,c,L,bq (λO=>bq (λM=>?_) (λM=>tail ?_)) (λO=>tail ?_)⟩
    .have Z:(c.toNat==48)=true:=by have:(c.toNat:Int)=48:=(by simpa using O);simp;omega
     have:=eQ M;rw[Z,aQ (show 1<(bl s).length by omega)];exact⟨rfl,k⟩
    .have:=lE M;simp;omega
    .have:¬(c.toNat:Int)=48:=by simpa using O
     simp;omega
  .have ab:¬c.toNat≠35:=by
    have:(c.toNat:Int)=35:=by simpa using G
    omega
   rw[q]at Q ⊢;have h:fx (c::l)=tV l:=by
    conv=>lhs;unfold fx
    simp only[];rw[aa W,aa ab]
   rw[h];refine bq (λN=>?_) (λN=>?_)
   .have:=eQ N
    match l,B with
    |[],_=>exact⟨rfl,Fr.refl _ _⟩
    |[b],_=>exact⟨rfl,Fr.refl _ _⟩
    |b::d::r,B=>simp at B;omega
   .have:=lE N;obtain⟨b,d,r,rfl⟩:∃b d r,l=b::d::r:=by
     match l,B with
     |[],e=>simp at e;omega
     |[b],e=>simp at e;omega
     |b::d::r,_=>exact⟨b,d,r,rfl⟩
    unfold tV;simp only[];have E:s[1]? =some b:=by rw[wS q];rfl
    have T:bl (s.extract 2 s.size)=d::r:=by rw[Ij,fA (by rw[cZ];omega),q];rfl
    have am:s.size=r.length+3:=by rw[B];rfl
    have fin:∀(base C:Nat),C<=100->zp.S4 s (base:Int) (C:Int) w λY D=>Y=ad (.tuple #[.int .i64 (if(d::r).all (cH base)then(if C<(d::r).length then((0:Int),(4:Int))else(3,0))else(0,2)).1,.int .i64 (if(d::r).all (cH base)then(if C<(d::r).length then((0:Int),(4:Int))else(3,0))else(0,2)).2])/\ag w D:=λbase C ah=>by
     refine⟨io,io,(Lh (s.extract 2 s.size) base w ?_).mono ?_⟩
     .rw [T];exact λj y=>Q j (by simp at y ⊢;rcases y with e|e<;>simp[e])
     .rintro Y I ⟨rfl,k⟩;rw[T];refine⟨_,rfl,bq (λe=>?_) (λe=>?_)⟩
      .have:(d::r).all (cH base)=false:=by cases P:(d::r).all (cH base)with
        |false=>rfl
        |true=>rw[P]at e;cases e
       rw[this];exact⟨rfl,k⟩
      .have:(d::r).all (cH base)=true:=by cases P:(d::r).all (cH base)with
        |true=>rfl
        |false=>rw[P]at e;cases e
       rw[this,af rfl];rw[br _ io];refine bq (λe=>?_) (λe=>?_)
       .have:=eQ e;rw[af (by simp;omega)];exact⟨rfl,k⟩
       .have:=lE e;rw[aa (by simp;omega)];exact⟨rfl,k⟩
    refine⟨io,b,E,bq (λx=>⟨io,b,E,bq (λF=>?_) (λF=>⟨io,b,E,?_⟩)⟩) (λx=>⟨io,b,E,?_⟩)⟩
    .have z:¬b.toNat=98:=λh=>by rw[h]at x;simp at x
     have K:¬b.toNat=120:=λh=>by rw[h]at F;simp at F
     rw[aa z,aa K];exact⟨rfl,Fr.refl _ _⟩
    .have z:¬b.toNat=98:=λh=>by rw[h]at x;simp at x
     have K:b.toNat=120:=by
      have:(b.toNat:Int)=120:=by simpa using F
      omega
     rw[aa z,af K];exact aU (by rw[K];rfl) (fin 16 16 io)
    .have z:b.toNat=98:=by
      have:(b.toNat:Int)=98:=by simpa using x
      omega
     rw[af z];exact aW (by rw[z];rfl) (fin 2 64 io)
def Ja{P:au}{f:bX}{args:Array V}{w:J}{A:Ending->Prop}(h:aj P f args w λr d=>A r/\w=d):aj P f args w λr d=>A r/\ag w d:=h.mono λ_ _ ⟨a,e⟩=>⟨a,e▸Fr.refl _ _⟩
def LX(c:UInt8)(e:cH 16 c=true):Go.Lib.indexByte [48,49,50,51,52,53,54,55,56,57,97,98,99,100,101,102] c=(eM c:Int)/\eM c<16:=by
 have all:∀d:Fin 256,cH 16 (ei d.val)=true->Go.Lib.indexByte [48,49,50,51,52,53,54,55,56,57,97,98,99,100,101,102] (ei d.val)=(eM (ei d.val):Int)/\eM (ei d.val)<16:=by decide+kernel
 have:=all ⟨c.toNat,c.toNat_lt⟩;simp only[UInt8.ofNat_toNat]at this;exact this e
def Xn(x y:Nat)(d:x<16)(e:y<16):W.tl .i64 (aD .i64 ((x:Int) *2^4)) (y:Int)=((16 *x+y:Nat):Int):=by
 have all:∀x y:Fin 16,W.tl .i64 (aD .i64 ((x.val:Int) *2^4)) (y.val:Int)=((16 *x.val+y.val:Nat):Int):=by decide+kernel
 exact all ⟨x,d⟩ ⟨y,e⟩
def Ht(i:Nat)(w:J):IR->aB
 |.ok c u=>λr d=>r=ad (.tuple #[.int .u8 (c.toNat:Int),.int .i64 ((i+u:Nat):Int),.agg #[.int .i64 0,.int .i64 0]])/\ag w d
 |.bad a e=>λr d=>(∃h j,r=ad (.tuple #[.int .u8 h,.int .i64 j,.agg #[.int .i64 e,.int .i64 ((i+a:Nat):Int)]]))/\ag w d
def Li(s:ByteArray)(i:Nat)(c:UInt8)(l:List UInt8)(hl:(bl s).drop i=c::l)(aO:s.size<=1000000)(w:J):aj U Nw #[.string s,.int .i64 (i:Int)] w (Ht i w (ee (c::l))):=by
 have N:s.size=i+l.length+1:=by have:=congrArg List.length hl;rw[dM,cZ]at this;simp at this;omega
 have get:∀k,s[i+k]? =(c::l)[k]?:=λk=>by rw[wS (l:=bl s) rfl,<-hl,List.getElem?_drop]
 have g0:s[i]? =some c:=get 0;have ac:s[aZ (i:Int)]? =some c:=by rw[bG];exact g0
 have e1:aD .i64 ((i:Int)+1)=((i+1:Nat):Int):=bp i io;have e2:aD .i64 ((i:Int)+2)=((i+2:Nat):Int):=by rw[br _ io];omega
 have e4:aD .i64 ((i:Int)+4)=((i+4:Nat):Int):=by rw[br _ io];omega
 refine o6.aq ((O.start (M:=F0) (w:=w) [] gs).ax λD w1 H1=>H1.ax λL w2 H2=>H2.ax λF w3 K=>?_);have K:O F0 w w3 [.g D,.g L,.g F] []:=K;refine⟨io,c,ac,cz (λay=>?_) (λay=>?_)⟩
 .have aL:c.toNat≠92:=io
  have e:ee (c::l)=if c.toNat<32\/126<c.toNat then .bad 0 2 else .ok c 1:=by
   conv=>lhs;unfold ee
   simp only[af aL]
  rw[e];have bad:c.toNat<32\/126<c.toNat->loc [D,L,F] w3 λH=>o6.a1 (i:Int) D 0 0 F 2 (i:Int) H (Ht i w (if c.toNat<32\/126<c.toNat then .bad 0 2 else .ok c 1)):=λak=>by rw[af ak];exact K.ae λP z=>z.ae λG C=>⟨⟨_,_,rfl⟩,C.fr⟩
  refine⟨io,c,ac,aY (λap=>bad io) (λap=>⟨io,c,ac,aY (λao=>bad io) (λao=>⟨io,c,ac,K.ae λP z=>?_⟩)⟩)⟩;rw[aa io,e1];exact⟨rfl,z.fr⟩
 .have I:¬c.toNat≠92:=io
  rw[e1];cases l with
  |nil=>
   have e:ee [c]=.bad 1 3:=by(conv=>lhs;unfold ee);simp only[aa I]
   rw[e];refine aU (by simp at N;simp[N]) (K.ae λP z=>?_);rw[show s.size=i+1 by simpa using N];exact⟨⟨_,_,rfl⟩,z.fr⟩
  |cons h l2=>
   refine aW (by simp at N;simp;omega) ⟨io,h,get 1,K.ae λP z=>?_⟩;have two:∀(x:Int),o6.bC (i:Int) D 0 0 x P λr q=>r=ad (.tuple #[.int .u8 x,.int .i64 ((i+2:Nat):Int),.agg #[.int .i64 0,.int .i64 0]])/\ag w q:=λx=>z.ae λG C=>by rw[e2];exact⟨rfl,C.fr⟩
   refine cz (λan=>?_) (λan=>?_)
   .have aJ:h.toNat≠120:=io
    have e:ee (c::h::l2)=if h.toNat=34\/h.toNat=92 then .ok h 2 else .bad 0 2:=by
     conv=>lhs;unfold ee
     simp only[aa I,af aJ]
    rw[e];refine cz (λar=>cz (λaz=>z.ae λG C=>?_) (λaz=>?_)) (λar=>?_)
    .rw [aa io];exact⟨⟨_,_,rfl⟩,C.fr⟩
    .rw [af (.inr io)];exact two _
    .rw [af (.inl io)];exact two _
   .have Y:¬h.toNat≠120:=io
    have W:¬(h.toNat=34\/h.toNat=92):=io
    rw[e2];have ab:∀(k:Nat) (Z:Nat) (G:J) (R:aB),k<i+4->i+2<=k->O F0 w G [.g D,.g L,.g F] []->Z<16->
      (s.size=k->∀q,ag w q->R (ad (.tuple #[.int .u8 0,.i (i:Int),.agg #[.i 3,.i (s.size:Int)]])) q)->
      (∀x,s[k]? =some x->cH 16 x=false->∀q,ag w q->R (ad (.tuple #[.int .u8 0,.i (i:Int),.agg #[.i 2,.i (i:Int)]])) q)->
      (∀x y,s[k]? =some x->cH 16 x=true->O F0 w y [.g D,.g L,.g F] []->o6.il s (i:Int) D 0 0 L 3 (s.size:Int) F 2 (i:Int) ((16 *Z+eM x:Nat):Int) ((k+1:Nat):Int) y R)->k<=s.size->
      o6.il s (i:Int) D 0 0 L 3 (s.size:Int) F 2 (i:Int) (Z:Int) (k:Int) G R:=by
     intro k Z G R hk aM C hb h1 h2 h3 aN;refine o6.nO ?_;rw[e4];refine aU (aQ io) (aw (λB=>C.ae λy E=>h1 io y E.fr) (λB=>?_));have aC:k<s.size:=io
     have d:s[k]? =some s[k]:=getElem?_pos s k aC;generalize s[k]=x at d;refine⟨io,x,by rw[bG];exact d,C.av (A:=λr _=>r=ad (.bool (cH 16 x))) (Ja (Eg x 16 G)) ?_⟩;rintro _ y rfl E;refine⟨_,rfl,eO (λj=>E.ae λH S=>h2 x d j H S.fr) (λj=>⟨io,x,by rw[bG];exact d,E.av (A:=λr _=>r=ad (.int .i64 (Go.Lib.indexByte [48,49,50,51,52,53,54,55,56,57,97,98,99,100,101,102] x))) (Ja (zA _ x y)) ?_⟩)⟩;rintro _ H rfl S;refine⟨_,rfl,?_⟩;obtain⟨aH,ah⟩:=LX x j;show o6.il _ _ _ _ _ _ _ _ _ _ _ _ (aD .i64 ((k:Int)+1)) H R;rw[aH,Xn _ _ hb ah,bp k io];exact h3 x H d j S
    cases l2 with
    |nil=>
     have e:ee [c,h]=.bad 2 3:=by
      conv=>lhs;unfold ee
      simp only[aa I,aa W,aa Y]
     rw[e];have B:s.size=i+2:=by simpa using N
     refine ab (i+2) 0 P _ io io z io (λ_ q f=>?_) (λx d=>?_) (λx y d=>?_) io
     .rw [B];exact⟨⟨_,_,rfl⟩,f⟩
     .rw [get 2]at d;simp at d
     .rw [get 2]at d;simp at d
    |cons x l3=>
     have B:s.size=i+l3.length+3:=by simp at N;omega
     refine ab (i+2) 0 P _ io io z io (λak=>io) (λx' d j q f=>?_) (λx' y d j E=>?_) io
     .rw [get 2]at d;have:x=x':=by simpa using d
      subst this;have aG:¬cH 16 x=true:=by simp[j]
      have e:ee (c::h::x::l3)=.bad 0 2:=by
       conv=>lhs;unfold ee
       simp only[aa I,aa W,aa Y,aa aG]
      rw[e];exact⟨⟨_,_,rfl⟩,f⟩
     .rw [get 2]at d;have:x=x':=by simpa using d
      subst this;have ah:=(LX x j).2;rw[show 16 *0+eM x=eM x by omega];cases l3 with
      |nil=>
       have e:ee [c,h,x]=.bad 3 3:=by
        conv=>lhs;unfold ee
        simp only[aa I,aa W,aa Y,af j]
       rw[e];have B:s.size=i+3:=by simpa using B
       refine ab (i+3) _ y _ io io E ah (λ_ q f=>?_) (λx d=>?_) (λx y d=>?_) io
       .rw [B];exact⟨⟨_,_,rfl⟩,f⟩
       .rw [get 3]at d;simp at d
       .rw [get 3]at d;simp at d
      |cons Q l4=>
       have B:s.size=i+l4.length+4:=by simp at B;omega
       refine ab (i+3) _ y _ io io E ah (λak=>io) (λy' T am q f=>?_) (λy' H T am S=>?_) io
       .rw [get 3]at T;have:Q=y':=by simpa using T
        subst this;have aI:¬cH 16 Q=true:=by simp[am]
        have e:ee (c::h::x::Q::l4)=.bad 0 2:=by
         conv=>lhs;unfold ee
         simp only[aa I,aa W,aa Y,af j,aa aI]
        rw[e];exact⟨⟨_,_,rfl⟩,f⟩
       .rw [get 3]at T;have:Q=y':=by simpa using T
        subst this;have e:ee (c::h::x::Q::l4)=.ok (ei (16 *eM x+eM Q)) 4:=by
         conv=>lhs;unfold ee
         simp only[aa I,aa W,aa Y,af j,af am]
        rw[e];refine o6.nO ?_;rw[e4];refine aW (aS io) (S.ae λw8 H8=>⟨?_,H8.fr⟩);rw[acY,UInt8.toNat_ofNat']
namespace wO
def a4:=bu (ay U Tryz.f35 [(8,lr 4)] [6,10]) [0,1,1,1,2] [(0,.st),(1,.I),(6,.l [.I,.I] je),(7,.s)]
abbrev t1:=bt a4
def bR:=bF t1 a4
def aq:=aC t1 Ny [.st,.I]
end wO
namespace LG
def ok:=aC (ay U Tryz.f17 [] []) Nz [.st]
end LG
namespace kv
abbrev P0:Ps:=[(0,.r),(1,.r)]
def L0:=bu (ay U Tryz.f32 [] []) [0,1] P0
abbrev t1:=bt L0
def L2:=bu t1 [0,1,1,1,1,2] P0
abbrev t2:=bt L2
def oL:=bF t2 L2
abbrev S1:=ah t2 [1,2] P0
abbrev t3:=ak S1
def cr:=bF t3 L0
def ok:=aC t3 pd [.r,.r]
end kv
namespace ny
abbrev S1:=ah (ay U Tryz.f34 [(16,lr 4),(24,lr 7),(26,lr 5),(6,lr 5)] []) [5] [(3,.r),(4,.r),(5,.r)]
abbrev t1:=ak S1
abbrev P0:Ps:=[(1,.r),(2,.r),(3,.r),(4,.r),(5,.r)]
def L2:=bu t1 [0,3,7,1,1,1,4] P0
abbrev t2:=bt L2
abbrev S3:=ah t2 [1,4,7,1,1,1,4] P0
abbrev t3:=ak S3
abbrev S5:=ah t3 [5,1,7,1,1,1,4] [(3,.r),(4,.r),(5,.r),(10,.I)]
abbrev t4:=ak S5
abbrev S4:=ah t4 [1,1,7,1,1,1,4] P0
abbrev t5:=ak S4
def oL:=bF t5 L2
abbrev S0:=ah t5 [1,1,4] [(1,.r),(2,.r),(3,.r),(4,.r),(5,.r),(6,.Y)]
abbrev t6:=ak S0
def ok:=aC t6 zL [.r,.r,.r]
end ny
namespace LF
def ok:=aC (ay U Tryz.f16 [] []) Nu [.f]
end LF
namespace zo
noncomputable def C0:Code:=(Tryz.f31.body).getD .skip
noncomputable def C1:=C0.fs
noncomputable def C2:=C1.fs
abbrev Q0(R:aB):kS:=(bodyPost U Tryz.f31 R)
abbrev Q1(R:aB):kS:=(Exit.inBlock 0 (Q0 R))
def L0(e:Nat)(d:Addr)(w:J)(R:aB):Prop:=LP U (cx 25) C2 (Q1 R) [(0,.func (.yield e) #[] #[]),(1,.pointer (some d))] w
def pR(E:Env)(w:J)(R:aB):Prop:=W.yE (Env.get? E 0) λe=>W.b5 (Env.get? E 1) λd=>L0 e d w R
def s5:Hy U 25 pR C2 Q1:=by intro q k x e;obtain⟨y,h,h_1⟩:=W.H4 e;obtain⟨w,j,h_2⟩:=W.cd h_1;intro a d;exact h_2 a (d.cons h (d.cons j d.nil))
noncomputable def C3:=C2.fs
noncomputable def C4:=C3.sn
noncomputable def C5:=C4.sn
noncomputable def C6:=C5.fs
noncomputable def C7:=C5.sn
def cr(q:Nat)(h:Addr)(w:J)(R:aB)(G:∃j:Fv,w.cell? h=some (j.v)/\
 cL (hg U j.n) (aj U j.n (j.bs++#[]++j.cs) w λH x=>∃A:Int,∃B:ByteArray,∃C:Int,∃D:Int,∃F:Int,H=ad (.tuple #[.agg #[.i A,.string B,.i C],.agg #[.i D,.i F]])/\
 c9 x (.cells #[.i 0,.s0,.i 0] db) λk=>
 c9 k (.cells #[.i 0,.i 0] je) λO=>
 A2 O (nb x) (.i A) (.string B) (.i C) λP=>aM P (nb k) (.i D) λQ=>
 aM Q ((nb k).add 1) (.i F) λz=>
 Ln z (nb x) λI K L=>X3 z (nb k) λM N=>oB U q #[.agg #[.i I,.string K,.i L],.agg #[.i M,.i N]] z λ(t13:Bool) e=>bB (!t13) (R (ad (.tuple #[])) e) (∃t17:Int,e.cell? ((nb k).add 0)=some (.i t17)/\
 bB (t17 !=0) (R (ad (.tuple #[])) e) (∃t22:Int,e.cell? ((nb x).add 0)=some (.i t22)/\
 bB (t22==6) (R (ad (.tuple #[])) e) (L0 q h e R))))):L0 q h w R:=
 LP.step (n:=(cx 25)) (c:=C2) (E:=[(0,.func (.yield q) #[] #[]),(1,.pointer (some h))]) (w:=w) (bk C2 1 (by kernel_rfl) (sr C3 (show(λ(E:Env) (w:J)=>eP U C3 (λE w=>eP U C4 (λE w=>iu (Env.val E (.tmp 24)) (lq U Tryz.f31 E w (λv=>R (ad v) w)) (pR E w R)) E w) E w) [(0,.func (.yield q) #[] #[]),(1,.pointer (some h))] w from mp G) λ_ _ d=>(sr C4 d λ_ _ d=>(cn C5 d (λd=>(rt C6 λa y=>xy y d)) (λd=>(sk C7 λa y=>s5 R _ _ d a y))))))
def ok(e:Nat)(d:Addr)(w:J)(R:aB)(h:L0 e d w R):aj U rQ #[.func (.yield e) #[] #[],.pointer (some d)] w R:=
 vY (R:=R) (fn:=Tryz.f31) (c:=C0) (args:=[.func (.yield e) #[] #[],.pointer (some d)]) (by kernel_rfl) (by kernel_rfl) (by kernel_rfl) (bk C0 0 (by kernel_rfl) (lp C1 (by kernel_rfl) (s5 R _ _ (show(λ(E:Env) (w:J)=>pR E w R) (kp 0 [.func (.yield e) #[] #[],.pointer (some d)]) w from mp h))))
end zo
namespace Ep
noncomputable def C0:Code:=(Tryz.f6.body).getD .skip
noncomputable def C1:=C0.sn
noncomputable def C2:=C1.sn
noncomputable def C3:=C2.sn
noncomputable def C4:=C3.fs
noncomputable def C5:=C4.sn
noncomputable def C6:=C5.fs
noncomputable def C7:=W.Code.H' C6
noncomputable def C8:=W.Code.Ie C6
noncomputable def C9:=C8.fs
noncomputable def j5:=C9.fs
noncomputable def j6:=j5.sn
noncomputable def lF:=j6.fs
abbrev Q0(l_:Nat)(d:Loop)(R:aB):Exit->Act->J->Prop:=(roundPost U l_ R)
noncomputable def m5:=C9.sn
abbrev Q1(l_:Nat)(d:Loop)(R:aB):Exit->Act->J->Prop:=(Exit.then (gT U ⟨28,[],some l_⟩ m5 (Exit.inBlock 1 (Q0 l_ d R))) (Exit.inBlock 1 (Q0 l_ d R)))
noncomputable def oF:=lF.fs
noncomputable def pP:=lF.sn
abbrev S4(l_:Nat)(j:eK->Option Code->Obj)(t2 t3 t4 d:Addr)(w:J)(R:aB):Prop:=
 tI w λe=>∃t20:Int,e.cell? (d.add 1)=some (.i t20)/\
 ∃t22:Int,e.cell? (d.add 0)=some (.i t22)/\
 aM e t2 (.slice none 0 0) λh=>
 h.cell? (d.add 0)=some (.i t22)/\h.cell? (d.add 1)=some (.i t20)/\aM h t3 (.i t20) λk=>
 k.cell? (d.add 0)=some (.i t22)/\aM k t4 (.i t22) λq=>
 hv q l_ (j .busy none) (j .done (some .ret)) λx=>R (ad (.bool false)) x
def yl(l_:Nat)(e:eK->Option Code->Obj)(E:Env)(w:J)(R:aB):Prop:=W.b5 (Env.get? E 2) λh=>W.b5 (Env.get? E 3) λj=>W.b5 (Env.get? E 4) λk=>W.b5 (Env.get? E 7) λd=>S4 l_ e h j k d w R
def BO(l_:Nat)(e:Loop)(R:aB)(E:Env)(w:J)(q:yl l_ (lo e) E w R):WP U ⟨28,[],some l_⟩ lF (Q1 l_ e R) E w:=by obtain⟨F,A,h_1⟩:=W.cd q;obtain⟨G,B,h_2⟩:=W.cd h_1;obtain⟨H,C,h_3⟩:=W.cd h_2;obtain⟨k,D,z⟩:=W.cd h_3;exact λa d=>WP.at (n:=⟨28,[],some l_⟩) (E:=[(2,.pointer (some F)),(3,.pointer (some G)),(4,.pointer (some H)),(7,.pointer (some k))]) (WP.seq (c:=lF) (x:=oF) (y:=pP) (by kernel_rfl)<|WP.draw (c:=oF) [0,1,2,3,4,5,6] (λE w=>hv w l_ ((lo e) .busy none) ((lo e) .done (some .ret)) λI=>R (ad (.bool false)) I) (by kernel_rfl) (mp z) λ_ _ a h j=>(WP.ret (c:=pP) (Q:=(Q1 l_ e R)) (by kernel_rfl) λa h=>(show roundPost U l_ R .ret a _ from Q7 (a:=a) (j).1 (j).2)) a h) (d.cons A (d.cons B (d.cons C (d.cons D d.nil))))
abbrev Q2(l_:Nat)(d:Loop)(R:aB):Exit->Act->J->Prop:=(Exit.inBlock 1 (Q0 l_ d R))
abbrev S5(l_:Nat)(e:eK->Option Code->Obj)(d x:Addr)(w:J)(R:aB):Prop:=
 ∃t23:Sl,w.cell? d=some (t23.v)/\
 Ln w x λj k q=>c9 w (.cells #[.i j,.string k,.i q] db) λy=>
 ∃(t26:Sl) (h:J),Sem.run U (Builtin.append_ #[qL,qL] qL #[t23.v,.slice (some (nb w)) 1 1]) y=.ok (t26.v) h/\aM h d (t26.v) λz=>
 hv z l_ (e .busy none) (e .ready none) λA=>R (ad (.bool true)) A
def vD(l_:Nat)(e:eK->Option Code->Obj)(E:Env)(w:J)(R:aB):Prop:=W.b5 (Env.get? E 5) λd=>W.b5 (Env.get? E 6) λh=>S5 l_ e d h w R
def BP(l_:Nat)(d:Loop)(R:aB)(E:Env)(w:J)(j:vD l_ (lo d) E w R):WP U ⟨28,[],some l_⟩ m5 (Q2 l_ d R) E w:=by obtain⟨x,k,h_1⟩:=W.cd j;obtain⟨y,q,h_2⟩:=W.cd h_1;exact λa e=>WP.at (n:=⟨28,[],some l_⟩) (E:=[(5,.pointer (some x)),(6,.pointer (some y))]) (WP.l3 (c:=m5) (λE w=>hv w l_ ((lo d) .busy none) ((lo d) .ready none) λz=>R (ad (.bool true)) z) (by kernel_rfl) (mp h_2) λ_ _ a A h=>QZ (a:=a) (h).1 (h).2) (e.cons k (e.cons q e.nil))
noncomputable def mh:=j5.fs
noncomputable def oG:=j6.sn
abbrev S3(l_:Nat)(e:eK->Option Code->Obj)(t2 t3 t4 h j d:Addr)(w:J)(R:aB):Prop:=
 ∃t17:Int,w.cell? (d.add 0)=some (.i t17)/\
 bB (t17 !=0) (S4 l_ e t2 t3 t4 d w R) (S5 l_ e h j w R)
def vC(l_:Nat)(h:eK->Option Code->Obj)(E:Env)(w:J)(R:aB):Prop:=W.b5 (Env.get? E 2) λj=>W.b5 (Env.get? E 3) λk=>W.b5 (Env.get? E 4) λq=>W.b5 (Env.get? E 5) λe=>W.b5 (Env.get? E 6) λx=>W.b5 (Env.get? E 7) λd=>S3 l_ h j k q e x d w R
def BN(l_:Nat)(e:Loop)(R:aB)(E:Env)(w:J)(q:vC l_ (lo e) E w R):WP U ⟨28,[],some l_⟩ j5 (Q1 l_ e R) E w:=by obtain⟨L,C,h_1⟩:=W.cd q;obtain⟨M,D,h_2⟩:=W.cd h_1;obtain⟨N,F,h_3⟩:=W.cd h_2;obtain⟨K,G,z⟩:=W.cd h_3;obtain⟨O,H,A⟩:=W.cd z;obtain⟨k,I,B⟩:=W.cd A;exact λa d=>WP.at (n:=⟨28,[],some l_⟩) (E:=[(2,.pointer (some L)),(3,.pointer (some M)),(4,.pointer (some N)),(5,.pointer (some K)),(6,.pointer (some O)),(7,.pointer (some k))]) (WP.seq (c:=j5) (x:=mh) (y:=j6) (by kernel_rfl)<|WP.l3 (c:=mh) (λE w=>iu (Env.val E (.tmp 18)) (yl l_ (lo e) E w R) (vD l_ (lo e) E w R)) (by kernel_rfl) (mp B) λ_ _ a j h=>(WP.iu (c:=j6) (x:=lF) (y:=oG) (o:=.tmp 18) (by kernel_rfl) (λh=>(BO l_ e R _ _ h)) (λh=>(WP.skip (c:=oG) (by kernel_rfl) λa j=>(BP l_ e R _ _ h) a j)) h) a j) (d.cons C (d.cons D (d.cons F (d.cons G (d.cons H (d.cons I d.nil))))))
noncomputable def m6:=C7.sn
abbrev Q3(l_:Nat)(d:Loop)(R:aB):Exit->Act->J->Prop:=(vH U 28 l_ d C8 (roundPost U l_ R))
abbrev S2(l_:Nat)(d:eK->Option Code->Obj)(t2 t3 t4 e k:Addr)(h j:Int)(w:J)(R:aB):Prop:=
 c9 w (.cells #[.i 0,.i 0] je) λq=>
 aM q (nb w) (.i h) λx=>
 aM x ((nb w).add 1) (.i j) λy=>
 hv y l_ (d .ready none) (d .busy none) λz=>S3 l_ d t2 t3 t4 e k (nb w) z R
def vB(l_:Nat)(e:eK->Option Code->Obj)(E:Env)(w:J)(R:aB):Prop:=W.b5 (Env.get? E 2) λA=>W.b5 (Env.get? E 3) λB=>W.b5 (Env.get? E 4) λC=>W.b5 (Env.get? E 5) λd=>W.b5 (Env.get? E 6) λD=>W.asAgg (Env.get? E 15) λk=>W.jo k λy q=>W.asInt .i64 (some y) λh=>W.jo q λz x=>W.asInt .i64 (some z) λj=>W.lI x<|S2 l_ e A B C d D h j w R
def BM(l_:Nat)(e:Loop)(R:aB)(E:Env)(w:J)(j:vB l_ (lo e) E w R):WP U ⟨28,[],some l_⟩ m6 (Q3 l_ e R) E w:=by obtain⟨S,I,h_1⟩:=W.cd j;obtain⟨T,K,h_2⟩:=W.cd h_1;obtain⟨Y,L,h_3⟩:=W.cd h_2;obtain⟨O,M,A⟩:=W.cd h_3;obtain⟨Z,N,B⟩:=W.cd A;obtain⟨aa,H,C⟩:=W.yD B;obtain⟨ae,ab,rfl,D⟩:=W.kY C;obtain⟨P,ex,F⟩:=W.nj D;obtain rfl:=dZ ex;obtain⟨af,ac,rfl,G⟩:=W.kY F;obtain⟨Q,ex,q⟩:=W.nj G;obtain rfl:=dZ ex;obtain⟨rfl,z⟩:=W.pV q;exact λa d=>WP.at (n:=⟨28,[],some l_⟩) (E:=[(2,.pointer (some S)),(3,.pointer (some T)),(4,.pointer (some Y)),(5,.pointer (some O)),(6,.pointer (some Z)),(15,.agg #[.i P,.i Q])]) (WP.l3 (c:=m6) (λE w=>w.heap[l_]? =some (lo e .ready none)/\((λw=>vC l_ (lo e) E w R) (w.putObj l_ (lo e .busy none)))) (by kernel_rfl) (mp z) λ_ _ a k h=>⟨(h).1,(WP.block (c:=C8) (x:=C9) (id:=1) (by kernel_rfl) (WP.seq (c:=C9) (x:=j5) (y:=m5) (by kernel_rfl) (BN l_ e R _ _ (h).2))) a k⟩) (d.cons I (d.cons K (d.cons L (d.cons M (d.cons N (d.cons H d.nil))))))
noncomputable def oH:=C7.fs
abbrev S1(l_:Nat)(e:eK->Option Code->Obj)(t2 t3 t4 d:Addr)(h:Int)(j:ByteArray)(k q x:Int)(w:J)(R:aB):Prop:=
 c9 w (.cells #[.i 0,.s0,.i 0] db) λy=>
 A2 y (nb w) (.i h) (.string j) (.i k) λz=>S2 l_ e t2 t3 t4 d (nb w) q x z R
def BJ(l_:Nat)(e:eK->Option Code->Obj)(E:Env)(w:J)(R:aB):Prop:=W.b5 (Env.get? E 2) λM=>W.b5 (Env.get? E 3) λN=>W.b5 (Env.get? E 4) λO=>W.b5 (Env.get? E 5) λd=>W.asAgg (Env.get? E 14) λq=>W.jo q λA x=>W.asInt .i64 (some A) λh=>W.jo x λB y=>W.pW (some B) λj=>W.jo y λC z=>W.asInt .i64 (some C) λk=>W.lI z<|W.asAgg (Env.get? E 15) λG=>W.jo G λK H=>W.asInt .i64 (some K) λD=>W.jo H λL I=>W.asInt .i64 (some L) λF=>W.lI I<|S1 l_ e M N O d h j k D F w R
def BK(l_:Nat)(e:Loop)(R:aB)(E:Env)(w:J)(h:BJ l_ (lo e) E w R):WP U ⟨28,[],some l_⟩ C7 (Q3 l_ e R) E w:=by obtain⟨t2,S,h_1⟩:=W.cd h;obtain⟨t3,T,h_2⟩:=W.cd h_1;obtain⟨t4,Y,h_3⟩:=W.cd h_2;obtain⟨l5,Z,I⟩:=W.cd h_3;obtain⟨ag,P,K⟩:=W.yD I;obtain⟨an,ah,rfl,L⟩:=W.kY K;obtain⟨aa,ex,M⟩:=W.nj L;obtain rfl:=dZ ex;obtain⟨ao,ak,rfl,N⟩:=W.kY M;obtain⟨ab,ex,O⟩:=W.ti N;obtain rfl:=dZ ex;obtain⟨ap,am,rfl,q⟩:=W.kY O;obtain⟨ac,ex,z⟩:=W.nj q;obtain rfl:=dZ ex;obtain⟨rfl,A⟩:=W.pV z;obtain⟨aq,Q,B⟩:=W.yD A;obtain⟨aw,ar,rfl,C⟩:=W.kY B;obtain⟨ae,ex,D⟩:=W.nj C;obtain rfl:=dZ ex;obtain⟨ax,av,rfl,F⟩:=W.kY D;obtain⟨af,ex,G⟩:=W.nj F;obtain rfl:=dZ ex;obtain⟨rfl,H⟩:=W.pV G;exact λa d=>WP.at (n:=⟨28,[],some l_⟩) (E:=[(2,.pointer (some t2)),(3,.pointer (some t3)),(4,.pointer (some t4)),(5,.pointer (some l5)),(14,.agg #[.i aa,.string ab,.i ac]),(15,.agg #[.i ae,.i af])]) (WP.seq (c:=C7) (x:=oH) (y:=m6) (by kernel_rfl)<|WP.l3 (c:=oH) (λE w=>vB l_ (lo e) E w R) (by kernel_rfl) (mp H) λ_ _ a j k=>(BM l_ e R _ _ k) a j) (d.cons S (d.cons T (d.cons Y (d.cons Z (d.cons P (d.cons Q d.nil))))))
abbrev qN(l_:Nat)(e:eK->Option Code->Obj)(t2 t3 t4 d y:Addr)(h:Int)(j:ByteArray)(k q x:Int)(w:J)(R:aB):Prop:=
 S1 l_ e t2 t3 t4 d h j k q x w R
def B4(l_:Nat)(d:Loop)(t2 t3 t4 e h:Addr)(j:Int)(k:ByteArray)(q x y:Int)(w:J)(R:aB)(z:qN l_ (lo d) t2 t3 t4 e h j k q x y w R):WP U ⟨28,[],some l_⟩ C7 (vH U 28 l_ d C8 (roundPost U l_ R)) (pq [(2,.pointer (some t2)),(3,.pointer (some t3)),(4,.pointer (some t4)),(5,.pointer (some e)),(13,.func (.func rQ) #[] #[.pointer (some h)])] [14,15] [.agg #[.i j,.string k,.i q],.agg #[.i x,.i y]]) w:=
 (BK l_ d R _ _ (mp z))
noncomputable def j7:=C3.sn
abbrev Q4(R:aB):kS:=(bodyPostM Fence.wide 0 U Tryz.f6 R)
noncomputable def m7:=j7.fs
noncomputable def qP:=j7.sn
abbrev S6(k:Nat)(t2 t3 t4 q:Addr)(w:J)(R:aB):Prop:=
 ∃t27:Sl,w.cell? q=some (t27.v)/\
 aM w t2 (t27.v) λx=>
 aM x t3 (.i 0) λy=>
 aM y t4 (.i 0) λz=>
 hv z k (.deferred (some [])) (.deferred none) λd=>∃e:Sl,d.cell? t2=some (e.v)/\
 ∃h:Int,d.cell? t3=some (.i h)/\
 ∃j:Int,d.cell? t4=some (.i j)/\
 R (ad (.tuple #[e.v,.i h,.i j])) d
def ym(d:Nat)(E:Env)(w:J)(R:aB):Prop:=W.b5 (Env.get? E 2) λh=>W.b5 (Env.get? E 3) λj=>W.b5 (Env.get? E 4) λk=>W.b5 (Env.get? E 5) λe=>S6 d h j k e w R
def BQ(e:Nat)(R:aB)(E:Env)(w:J)(j:ym e E w R):WP U (marked 28 e) j7 (Q4 R) E w:=by obtain⟨F,z,h_1⟩:=W.cd j;obtain⟨G,A,h_2⟩:=W.cd h_1;obtain⟨H,B,h_3⟩:=W.cd h_2;obtain⟨D,C,q⟩:=W.cd h_3;exact λa d=>WP.at (n:=(marked 28 e)) (E:=[(2,.pointer (some F)),(3,.pointer (some G)),(4,.pointer (some H)),(5,.pointer (some D))]) (WP.seq (c:=j7) (x:=m7) (y:=qP) (by kernel_rfl)<|WP.l3 (c:=m7) (λE w=>AB U Tryz.f6 E w e R) (by kernel_rfl) (mp q) λ_ _ a h k=>(WP.ret (c:=qP) (by kernel_rfl) λa h=>xz h k) a h) (d.cons z (d.cons A (d.cons B (d.cons C d.nil))))
abbrev S0(t2 t3 t4 y C:Addr)(w:J)(R:aB):Prop:=
 ∀d:eK->Option Code->Obj,(∀(D:Int) (E:ByteArray) (F G H:Int) (k:J) (q:Bool->J->Prop),k.heap[w.heap.size+1]? =some (d .ready none)->qN (w.heap.size+1) d t2 t3 t4 y C D E F G H k (λj K=>∃x:Bool,j=ad (.bool x)/\q x K)->oB U (w.heap.size+1) #[.agg #[.i D,.string E,.i F],.agg #[.i G,.i H]] k q)->
 aj U rQ #[.func (.yield (w.heap.size+1)) #[] #[],.pointer (some C)] ((w.alloc (.deferred (some []))).alloc (d .ready none)) λj L=>(∃I,j=ad I)/\qU L (w.heap.size+1) d (λe=>S6 w.heap.size t2 t3 t4 y e R) (λM e=>False) (λe=>hv e w.heap.size (.deferred (some [])) (.deferred none) λh=>∃z:Sl,h.cell? t2=some (z.v)/\
 ∃A:Int,h.cell? t3=some (.i A)/\
 ∃B:Int,h.cell? t4=some (.i B)/\
 R (ad (.tuple #[z.v,.i A,.i B])) h)
abbrev Q5(R:aB):kS:=(Exit.then (gT U (cx 28) j7 (bodyPostM Fence.wide 0 U Tryz.f6 R)) (bodyPostM Fence.wide 0 U Tryz.f6 R))
abbrev Q6(R:aB):kS:=(Exit.inBlock 0 (Q5 R))
def s6(E:Env)(w:J)(R:aB):Prop:=W.b5 (Env.get? E 2) λx=>W.b5 (Env.get? E 3) λy=>W.b5 (Env.get? E 4) λz=>W.b5 (Env.get? E 5) λd=>W.th rQ (Env.get? E 13) λk h=>W.lI k<|W.jo h λq j=>W.b5 (some q) λe=>W.lI j<|S0 x y z d e w R
def BI:Hv U 28 s6 C6 Q6:=by
 intro x ak C y;obtain⟨j,ac,h_1⟩:=W.cd y;obtain⟨k,ae,h_2⟩:=W.cd h_1;obtain⟨q,af,h_3⟩:=W.cd h_2;obtain⟨A,ag,O⟩:=W.cd h_3;obtain⟨ap,an,ab,P⟩:=W.H2 O;obtain⟨rfl,Q⟩:=W.pV P;obtain⟨aq,ao,rfl,S⟩:=W.kY Q;obtain⟨B,ex,T⟩:=W.cd S;obtain rfl:=dZ ex;obtain⟨rfl,Y⟩:=W.pV T;exact λa d=>WP.at (n:=(cx 28)) (E:=[(2,.pointer (some j)),(3,.pointer (some k)),(4,.pointer (some q)),(5,.pointer (some A)),(13,.func (.func rQ) #[] #[.pointer (some B)])]) (WP.range (m:=28) (c:=C6) (g:=.tmp 13) (ps:=#[14,15]) (assign:=C7) (body:=C8) (gf:=rQ) (lb:=#[.pointer (some B)]) (λe=>S6 C.heap.size j k q A e x) (λam e=>False) (λe=>hv e C.heap.size (.deferred (some [])) (.deferred none) λw=>∃D:Sl,w.cell? j=some (D.v)/\
 ∃F:Int,w.cell? k=some (.i F)/\
 ∃G:Int,w.cell? q=some (.i G)/\
 x (ad (.tuple #[D.v,.i F,.i G])) w) (by kernel_rfl) rfl (by kernel_rfl)
  (λe h a z=>(BQ C.heap.size x _ _ (mp h)) a z)
  (λ_ _ h=>h.elim)
  (λe h a z=>xz z (mp h))
  (λH ah=>Y (lo H) (λI K L M N w_ K_ aa Z=>Tq (args:=[.agg #[.i I,.string K,.i L],.agg #[.i M,.i N]]) ah aa rfl (by kernel_rfl) (λ_ _ y=>y) (B4 _ H j k q A B I K L M N w_ _ Z)))) (d.cons ac (d.cons ae (d.cons af (d.cons ag (d.cons ab d.nil)))))
noncomputable def pQ:=C1.fs
noncomputable def sW:=pQ.sn
noncomputable def sX:=sW.fs
noncomputable def yg:=sX.sn
noncomputable def yh:=sW.sn
def ok(e:ByteArray)(w:J)(R:aB)(B:c9 w (.cells #[.slice none 0 0] qL) λh=>
 c9 h (.cells #[.i 0] bA) λj=>
 c9 j (.cells #[.i 0] ha) λx=>
 bB (ai ((e.size:Int)>65536)) (aM x (nb w) (.slice none 0 0) λI=>
 aM I (nb h) (.i 65536) λK=>
 aM K (nb j) (.i 4) λk=>
 ∃y:Sl,k.cell? (nb w)=some (y.v)/\
 ∃z:Int,k.cell? (nb h)=some (.i z)/\
 ∃A:Int,k.cell? (nb j)=some (.i A)/\
 R (ad (.tuple #[y.v,.i z,.i A])) k) (c9 x (.cells #[.slice none 0 0] qL) λL=>
 CE Nz #[.string e] L λt12 M=>CE Nu #[t12] M λt13 N=>W.th rQ (some t13) λG D=>W.lI G<|W.jo D λH F=>W.b5 (some H) λC=>W.lI F<|S0 (nb w) (nb h) (nb j) (nb x) C N R)):aj U Nq #[.string e] w R:=
 I8 (R:=R) (fn:=Tryz.f6) (c:=C0) (args:=[.string e]) (by kernel_rfl) (by kernel_rfl) (by kernel_rfl) (sr C0 (show(λ(E:Env) (w:J)=>eP U C0 (λE w=>eP U pQ (λE w=>iu (Env.val E (.tmp 10)) (eP U sX (λE w=>lq U Tryz.f6 E w (λv=>R (ad v) w)) E w) (eP U C2 (λE w=>eP U C4 (λE w=>s6 E w R) E w) E w)) E w) E w) (kp 0 [.string e]) w from mp B) λ_ _ d=>(sq C1 (sr pQ d λ_ _ d=>(cn sW d (λd=>(sr sX d λ_ _ d=>(rt yg λa q=>QX q d))) (λd=>(sk yh λa q=>nx q (sr C2 d λ_ _ d=>(sq C3 (sr C4 d λ_ _ d=>(bk C5 0 (by kernel_rfl) (BI R _ _ d)))))))))))
end Ep
def vI(k:Nat)(acc:List UInt8)(w:J):QR->aB
 |.ok t u=>λr d=>r=ad (.tuple #[.string (ba (acc++t)),.int .i64 ((k+u:Nat):Int),.agg #[.int .i64 0,.int .i64 0]])/\ag w d
 |.bad a e=>λr d=>(∃h j,r=ad (.tuple #[.string h,.int .i64 j,.agg #[.int .i64 e,.int .i64 ((k+a:Nat):Int)]]))/\ag w d
def zh{l:List UInt8}{d:UInt8}{u:Nat}(e:ee l=.ok d u):1<=u/\u<=l.length:=by
 unfold ee at e;cases l with
 |nil=>cases e
 |cons c l=>
  simp only[]at e;split at e
  .split at e
   .cases e
   .cases e;simp
  .cases l with
   |nil=>cases e
   |cons h l=>
    simp only[]at e;split at e
    .cases e;simp
    .split at e
     .cases e
     .cases l with
      |nil=>cases e
      |cons j l=>
       simp only[]at e;split at e
       .cases l with
        |nil=>cases e
        |cons k l=>
         simp only[]at e;split at e
         .cases e;simp
         .cases e
       .cases e
def K4{l:List UInt8}{a:Nat}{e:Int}(d:ee l=.bad a e):e=2\/e=3:=by
 unfold ee at d;split at d
 .cases d;simp
 .split at d
  .split at d<;>cases d;simp
  .split at d
   .cases d;simp
   .split at d
    .cases d
    .split at d
     .cases d;simp
     .split at d
      .cases d;simp
      .split at d
       .split at d
        .cases d;simp
        .split at d<;>cases d;simp
       .cases d;simp
def TI(k:Nat)(acc:List UInt8)(w:J)(d:UInt8)(u:Nat)(q:QR):vI k acc w (q.push d u)=vI (k+u) (acc++[d]) w q:=by cases q<;>simp[vI,QR.push,Nat.add_assoc]
def XY(s:ByteArray)(H:s.size<=1000000)(w0:J)(b:Nat):∀(n k:Nat) (l acc:List UInt8) (xs:List V) (text:Sl) (w:J),l.length<n->(bl s).drop k=l->k+l.length=s.size->acc.length<=k->xs=acc.map jR->
  O F0 w0 w [.g b,.row hV 1 text xs] []->wO.a4 s (k:Int) b 0 0 text w (vI k acc w0 (qu l)):=by
 intro n;induction n with
 |zero=>intro k l acc xs text w G;omega
 |succ n Y=>
  intro k l acc xs text w G q e ha K d;cases l with
  |nil=>
   refine wO.bR (aW (aS (by simp at e;omega)) (d.ae λD x=>⟨⟨a8 #[],0,?_⟩,x.fr⟩));simp at e;simp[e]
  |cons c l=>
   have aa:k<s.size:=by simp at e;omega
   have S:s[k]? =some c:=by have:=wS (s:=s) (l:=bl s) rfl k;rw[this,<-List.head?_drop,q];rfl
   have I:aL w hV 1 text (acc.map jR):=K▸d.get 1;have tn:text.n=acc.length:=by have:=aL.len I;simp at this;omega
   refine wO.bR (aU (aQ io) ⟨io,c,by rw[bG];exact S,aw (λT=>?_) (λT=>?_)⟩)
   .have Q:c.toNat=34:=io
    have C:qu (c::l)=.ok [] 1:=by unfold qu;rw[af Q]
    rw[C];refine⟨_,tt (aL.Aw I),d.ae λD x=>⟨?_,x.fr⟩⟩;rw[bp k io,bU]
   .have Z:c.toNat≠34:=io
    rw[xo c l Z];cases j:ee (c::l)with
    |bad a C=>
     refine d.av (A:=λr _=>∃L M,r=ad (.tuple #[.int .u8 L,.int .i64 M,.agg #[.int .i64 C,.int .i64 ((k+a:Nat):Int)]])) ((Li s k c l q H w).mono λr D h=>by rw[j]at h;exact h) ?_;rintro _ w1 ⟨L,M,rfl⟩ y;have he:=K4 j;exact⟨_,_,_,_,rfl,y.ax λP w2 z=>cz (λ_=>z.ae λw3 B=>⟨⟨_,_,rfl⟩,B.fr⟩) (λF=>io)⟩
    |ok E u=>
     refine d.av (A:=λr _=>r=ad (.tuple #[.int .u8 (E.toNat:Int),.int .i64 ((k+u:Nat):Int),.agg #[.int .i64 0,.int .i64 0]])) ((Li s k c l q H w).mono λr D h=>by rw[j]at h;exact h) ?_;rintro _ w1 rfl y;obtain⟨ab,W⟩:=zh j;refine⟨_,_,_,_,rfl,y.ax λP w2 z=>cz (λF=>absurd rfl F) (λ_=>z.ae λw3 B=>B.jn 1 qd rfl (λt w4 N=>?_) io)⟩;simp only[TI];exact Y (k+u) ((c::l).drop u) (acc++[E]) _ t w4 (by simp at G ⊢;omega) (by rw[<-q,iF]) (by simp at W e ⊢;omega) (by simp;omega) (by simp[K,jR]) (N.take 2)
def XX(s:ByteArray)(i:Nat)(c:UInt8)(l:List UInt8)(d:(bl s).drop i=c::l)(h:s.size<=1000000)(w:J):aj U Ny #[.string s,.int .i64 (i:Int)] w (vI (i+1) [] w (qu l)):=by
 have hlen:i+(c::l).length=s.size:=by have:=congrArg List.length d;rw[dM,cZ]at this;simp at this ⊢;omega
 refine wO.aq ((O.start (M:=F0) (w:=w) [] gs).ax λb j e=>?_);rw[bp i (by simp at hlen;omega)];refine XY s h w _ (l.length+1) (i+1) l [] [] ⟨none,0,0⟩ j io ?_ (by simp at hlen ⊢;omega) gs rfl (e.hP _ _);rw[<-iF,d];rfl
def nh{p:UInt8->Prop}(d:∀e:Fin 256,p (ei e.val))(c:UInt8):p c:=by have:=d ⟨c.toNat,c.toNat_lt⟩;simpa only[UInt8.ofNat_toNat]using this
def abG(c:UInt8):ai (0<=Go.Lib.indexByte [9,10,13,32] c)=f' c:=nh (p:=λc=>ai (0<=Go.Lib.indexByte [9,10,13,32] c)=f' c) (by decide+kernel) c
def WL(c:UInt8):ai (Go.Lib.indexByte [9,10,13,32,59,40,41,34] c<0)= !mD c:=nh (p:=λc=>ai (Go.Lib.indexByte [9,10,13,32,59,40,41,34] c<0)= !mD c) (by decide+kernel) c
def wF{s:ByteArray}{k:Nat}{c:UInt8}{l:List UInt8}(d:(bl s).drop k=c::l):s[k]? =some c/\(bl s).drop (k+1)=l/\k+l.length+1=s.size:=by
 refine⟨?_,by rw[<-iF,d];rfl,?_⟩
 .rw [wS (l:=bl s) rfl,<-List.head?_drop,d];rfl
 .have:=congrArg List.length d;rw[dM,cZ]at this;simp at this;omega
def X1(s:ByteArray)(Y:s.size<=1000000)(w0:J)(h bs m:Nat)(R:aB)(E:∀K,O (·=h) w0 K [.c h [.int .i64 (m:Int)] bA] [.c bs [.string s] fD]->R (ad (.tuple #[])) K):∀(n k:Nat) (l:List UInt8) (w:J),l.length<n->(bl s).drop k=l->k<=s.size->
  O (·=h) w0 w [.c h [.int .i64 (k:Int)] bA] [.c bs [.string s] fD]->(k+aH false l=m->kv.L0 (ab h) (ab bs) w R)/\(k+aH true l=m->kv.L2 (ab h) (ab bs) w R):=by
 intro n;induction n with
 |zero=>intro k l w H;omega
 |succ n T=>
  intro k l w H G W d;cases l with
  |nil=>
   have F:¬((k:Int)<(s.size:Int)):=by have:=congrArg List.length G;rw[dM,cZ]at this;simp at this;omega
   have zero:k=m->kv.L0 (ab h) (ab bs) w R:=λe=>by subst e;exact kv.cr ⟨_,d.cA 0,_,d.gG 0,aW (aS F) (E w d)⟩
   exact⟨zero,λe=>kv.oL ⟨_,d.cA 0,_,d.gG 0,aW (aS F) (zero e)⟩⟩
  |cons c l=>
   obtain⟨N,Q,Z⟩:=wF G;have z:s[aZ (k:Int)]? =some c:=by rw[bG];exact N
   have B:((k:Int)<(s.size:Int)):=io
   have next:∀{x:J},O (·=h) w0 x [.c h [.int .i64 ((k+1:Nat):Int)] bA] [.c bs [.string s] fD]->(k+(1+aH false l)=m->kv.L0 (ab h) (ab bs) x R)/\(k+(1+aH true l)=m->kv.L2 (ab h) (ab bs) x R):=λy=>by
    have:=T (k+1) l _ (by simp at H;omega) Q io y
    rwa[Nat.add_assoc,Nat.add_assoc]at this
   have D:c.toNat≠10->k+(1+aH true l)=m->kv.L2 (ab h) (ab bs) w R:=λq e=>by refine kv.oL ⟨_,d.cA 0,_,d.gG 0,aU (aQ B) ⟨_,d.gG 0,_,d.cA 0,io,c,z,cz (λ_=>?_) (λj=>absurd io q)⟩⟩;refine⟨_,d.cA 0,?_⟩;rw[bp k io];exact d.e7 0 rfl λx y=>(next y).2 e
   have C:k+aH false (c::l)=m->kv.L0 (ab h) (ab bs) w R:=λe=>by
    unfold aH at e;have two:(f' c=true->c.toNat≠59->k+(1+aH false l)=m)->(c.toNat=59->k+(1+aH true l)=m)->(f' c=true\/c.toNat=59)->kv.S1 (ab h) (ab bs) w R:=λL M S=>
     ⟨_,d.gG 0,_,d.cA 0,io,c,z,cz (λj=>⟨_,d.cA 0,by
      rw[bp k io];exact d.e7 0 rfl λx y=>(next y).1 (L (S.resolve_right io) io)⟩) (λj=>D io (M io))⟩
    refine kv.cr ⟨_,d.cA 0,_,d.gG 0,aU (aQ B) ⟨_,d.gG 0,_,d.cA 0,io,c,z,aw (λj=>?_) (λj=>?_)⟩⟩
    .have I:¬f' c=true:=by
      unfold f';have:c.toNat=59:=io
      simp[this]
     rw[aa I,af io]at e;exact two (λj=>absurd j I) (λ_=>e) (.inr io)
    .refine ⟨_,d.gG 0,_,d.cA 0,io,c,z,(zA _ c w).mono ?_⟩;rintro r x ⟨rfl,rfl⟩;refine⟨_,rfl,?_⟩;show bB (ai (0<=Go.Lib.indexByte [9,10,13,32] c)) _ _;rw[abG];refine bq (λA=>?_) (λA=>?_)
     .rw [af A]at e;exact two (λ_ _=>e) (λP=>absurd P io) (.inl A)
     .rw [aa (by simp[A]),aa io,Nat.add_zero]at e;subst e;exact E w d
   refine⟨C,λe=>?_⟩;unfold aH at e;by_cases q:c.toNat=10
   .rw [af q]at e;refine kv.oL ⟨_,d.cA 0,_,d.gG 0,aU (aQ B) ⟨_,d.gG 0,_,d.cA 0,io,c,z,cz (λj=>absurd io j) (λ_=>C ?_)⟩⟩;unfold aH;rw[af (by unfold f';simp[q])];exact e
   .rw [aa q]at e;exact D q e
def XZ{s:ByteArray}(z:s.size<=1000000){w:J}{d bs k:Nat}(hi:w.heap[d]? =some (.cells #[.int .i64 (k:Int)] bA (0,0)))(e:w.heap[bs]? =some (.cells #[.string s] fD (0,0)))(x:k<=s.size):
  aj U pd #[.pointer (some (ab d)),.pointer (some (ab bs))] w λr h=>r=ad (.tuple #[])/\Fr (·=d) w h/\h.heap[d]? =some (.cells [Value.int .i64 ((k+aH false ((bl s).drop k):Nat):Int)].toArray bA (0,0)):=by
 have y:bs≠d:=λq=>by rw[q,hi]at e;cases e
 refine kv.ok ((X1 s z w d bs _ _ (λh j=>?_) (((bl s).drop k).length+1) k _ w io rfl x ?_).1 rfl)
 .exact ⟨rfl,j.fr,j.ob 0⟩
 .exact O.pD _ _ (by simp[En.ob,hi]) (by simp[En.ob]) (by simp[En.ob,e,y])
def Qh:∀(n:Nat) (l:List UInt8),l.length<n->∀(a:Nat) (e:Int),qu l=.bad a e->e=2\/e=3
 |0,l,d=>io
 |n+1,[],_=>by intro a e d;unfold qu at d;cases d;simp
 |n+1,c::l,x=>by
  intro a e d;by_cases k:c.toNat=34
  .unfold qu at d;rw[af k]at d;cases d
  .rw [xo c l k]at d;cases h:ee (c::l)with
   |bad q w=>rw[h]at d;cases d;exact K4 h
   |ok y u=>
    rw[h]at d;simp only at d;cases j:qu ((c::l).drop u)with
    |ok t v=>rw[j]at d;cases d
    |bad q w=>
     rw[j]at d;cases d;have:=(zh h).1;exact Qh n _ (by simp at x ⊢;omega) _ _ j
abbrev zs:V:=.string (a8 #[])
abbrev RL(d e h j k a:Nat):List En:=[.c d [.int .i64 (k:Int)] bA,.c e [.int .i64 0,zs,.int .i64 0] db,.c h [.int .i64 0,.int .i64 0] je,.c j [.int .i64 0,zs,.int .i64 (a:Int)] db]
abbrev RD(bs bk:Nat)(s:ByteArray)(f:V):List En:=[.c bs [.string s] fD,.c bk [f] G']
def Eh{M:Nat->Prop}{w0 w:J}{D:List En}{h j k q:Nat}{x z A B C E:V}{kd a:Int}{t:ByteArray}{R:aB}(H:O M w0 w [.c h [x] bA,.c j [z,A,B] db,.c k [C,E] je,.c q [.int .i64 kd,.string t,.int .i64 a] db] D)(F:∀e,Fr M w0 e->e.heap[h]? =some (.cells [x].toArray bA (0,0))->R (ad (.tuple #[.agg #[.int .i64 kd,.string t,.int .i64 a],.agg #[.int .i64 0,.int .i64 0]])) e):ny.S1 (ab j) (ab k) (ab q) w R:=
 ⟨_,_,_,H.ld 3 0,H.ld 3 1,H.ld 3 2,H.kL 1 rfl λI y=>y.jI 2 rfl λG d=>⟨_,_,_,d.ld 1 0,d.ld 1 1,d.ld 1 2,_,_,d.ld 2 0,d.ld 2 1,F G d.fr (d.ob 0)⟩⟩
def yq(e:Nat)(w0:J)(i:Nat):NT->aB
 |.fin=>λr d=>r=ad (.tuple #[.agg #[.int .i64 6,zs,.int .i64 (i:Int)],.agg #[.int .i64 0,.int .i64 0]])/\Fr (·=e) w0 d/\d.heap[e]? =some (.cells [Value.int .i64 (i:Int)].toArray bA (0,0))
 |.tok j t u=>λr d=>r=ad (.tuple #[.agg #[.int .i64 j,.string (ba t),.int .i64 (i:Int)],.agg #[.int .i64 0,.int .i64 0]])/\Fr (·=e) w0 d/\d.heap[e]? =some (.cells [Value.int .i64 ((i+u:Nat):Int)].toArray bA (0,0))
 |.bad a h=>λr d=>(∃k q w,r=ad (.tuple #[.agg #[.int .i64 k,.string q,.int .i64 w],.agg #[.int .i64 h,.int .i64 ((i+a:Nat):Int)]]))/\h≠0/\Fr (·=e) w0 d
def X2(s:ByteArray)(Y:s.size<=1000000)(w0:J)(e bs bk q x y m a:Nat)(f:V)(R:aB)(C:∀F,O (·=e) w0 F (RL e q x y m a) (RD bs bk s f)->ny.S4 (ab e) (ab bs) (ab q) (ab x) (ab y) F R):
  ∀(n k:Nat) (l:List UInt8) (w:J),l.length<n->(bl s).drop k=l->k<=s.size->k+(l.takeWhile bO).length=m->O (·=e) w0 w (RL e q x y k a) (RD bs bk s f)->ny.L2 (ab e) (ab bs) (ab q) (ab x) (ab y) w R:=by
 intro n;induction n with
 |zero=>intro k l w E;omega
 |succ n Q=>
  intro k l w E D W h d;cases l with
  |nil=>
   have N:¬((k:Int)<(s.size:Int)):=by have:=congrArg List.length D;rw[dM,cZ]at this;simp at this;omega
   simp at h;subst h;exact ny.oL ⟨_,d.cA 0,_,d.gG 0,aW (aS N) (C w d)⟩
  |cons c l=>
   obtain⟨K,P,Z⟩:=wF D;have z:s[aZ (k:Int)]? =some c:=by rw[bG];exact K
   have next:bO c=true->ny.S3 (ab e) (ab bs) (ab q) (ab x) (ab y) w R:=λA=>by refine⟨_,d.cA 0,?_⟩;rw[bp k io];rw[List.takeWhile_cons,af A,bx]at h;refine d.e7 0 rfl λB G=>?_;exact Q (k+1) l B (by simp at E;omega) P io io G
   refine ny.oL ⟨_,d.cA 0,_,d.gG 0,aU (aQ io) ⟨_,d.gG 0,_,d.cA 0,io,c,z,(Ei c w).mono ?_⟩⟩;rintro r B ⟨rfl,rfl⟩;refine⟨_,rfl,bq (λj=>next (by simp[bO,j])) (λL=>⟨_,d.gG 0,_,d.cA 0,io,c,z,(Eg c 10 w).mono ?_⟩)⟩;rintro r B ⟨rfl,rfl⟩;refine⟨_,rfl,bq (λj=>next (by simp[bO,j])) (λM=>⟨_,d.gG 0,_,d.cA 0,io,c,z,aw (λj=>next ?_) (λS=>⟨_,d.gG 0,_,d.cA 0,io,c,z,aw (λj=>next ?_) (λT=>?_)⟩)⟩)⟩
   .have:c.toNat=45:=io
    simp[bO,this]
   .have:c.toNat=35:=io
    simp[bO,this]
   .have A:¬bO c=true:=by
     have H:c.toNat≠45:=io
     have I:c.toNat≠35:=io
     simp[bO,L,M,H,I]
    rw[List.takeWhile_cons,aa A]at h;simp at h;subst h;exact C w d
def XW{s:ByteArray}(ah:s.size<=1000000){w:J}{e bs bk k:Nat}(hi:w.heap[e]? =some (.cells #[.int .i64 (k:Int)] bA (0,0)))(hs:w.heap[bs]? =some (.cells #[.string s] fD (0,0)))(hb:w.heap[bk]? =some (.cells #[.func (.func pd) #[] #[.pointer (some (ab e)),.pointer (some (ab bs))]] G' (0,0)))(hk:k<=s.size):
  aj U zL #[.pointer (some (ab bk)),.pointer (some (ab e)),.pointer (some (ab bs))] w (yq e w (k+aH false ((bl s).drop k)) (fV (((bl s).drop k).drop (aH false ((bl s).drop k))))):=by
 have aG:bs≠e:=λC=>by rw[C,hi]at hs;cases hs
 have aC:bk≠e:=λC=>by rw[C,hi]at hb;cases hb
 have H0:O (·=e) w w [.c e [.int .i64 (k:Int)] bA] (RD bs bk s (.func (.func pd) #[] #[.pointer (some (ab e)),.pointer (some (ab bs))])):=
  O.pD _ _ (by simp[En.ob,hi]) (by simp[En.ob]) (by simp[En.ob,hs,aG,hb,aC])
 refine ny.ok (H0.nw λH s1 H1=>H1.nw λw2 s2 L=>⟨⟨pd,#[],#[.pointer (some (ab e)),.pointer (some (ab bs))]⟩,L.gG 1,B8 (by kernel_rfl) ((XZ ah (L.ob 0) (show w2.heap[bs]? =_ from L.getD 0) hk).mono ?_)⟩);rintro r I ⟨rfl,f3,c3⟩;refine⟨rfl,?_⟩;have z:=L.yP 0 f3 c3;have ao:=hC false ((bl s).drop k);rw[dM,cZ]at ao;rw[iF];generalize ay:k+aH false ((bl s).drop k)=i at z;have az:i<=s.size:=io
 clear ay f3 c3 ao;refine⟨_,z.cA 0,_,z.gG 0,aw (λP=>?_) (λP=>?_)⟩
 .have:(bl s).drop i=[]:=dw (by rw[cZ];omega);rw[this];exact⟨_,z.cA 0,z.kL 1 rfl λw4 T=>T.jI 2 rfl λD q=>⟨_,_,_,q.ld 1 0,q.ld 1 1,q.ld 1 2,_,_,q.ld 2 0,q.ld 2 1,rfl,q.fr,q.ob 0⟩⟩
 .obtain ⟨c,l,G⟩:∃c l,(bl s).drop i=c::l:=by
   cases hd:(bl s).drop i with
   |nil=>have:=congrArg List.length hd;rw[dM,cZ]at this;simp at this;omega
   |cons c l=>exact⟨c,l,rfl⟩
  obtain⟨gc,aP,aQ⟩:=wF G;have aq:s[aZ (i:Int)]? =some c:=by rw[bG];exact gc
  rw[G];refine⟨_,z.cA 0,z.nw λw4 s4 T=>T.kL 3 rfl λD q=>⟨_,q.gG 0,_,q.cA 0,io,c,aq,?_⟩⟩;have A:O (·=e) w D (RL e w.heap.size H.heap.size I.heap.size i i) (RD bs bk s (.func (.func pd) #[] #[.pointer (some (ab e)),.pointer (some (ab bs))])):=q;clear q T z L H1;have one:∀(kd:Int) (w':J),O (·=e) w w' [.c e [.int .i64 (i:Int)] bA,.c w.heap.size [.int .i64 0,zs,.int .i64 0] db,.c H.heap.size [.int .i64 0,.int .i64 0] je,.c I.heap.size [.int .i64 kd,zs,.int .i64 (i:Int)] db] (RD bs bk s (.func (.func pd) #[] #[.pointer (some (ab e)),.pointer (some (ab bs))]))->
    ∃t:Int,w'.cell? (ab e)=some (.int .i64 t)/\aM w' (ab e) (.int .i64 (aD .i64 (t+1))) λak=>ny.S1 (ab w.heap.size) (ab H.heap.size) (ab I.heap.size) ak (yq e w i (.tok kd [] 1)):=λkd w' K=>by refine⟨_,K.cA 0,?_⟩;rw[bp i io];exact K.e7 0 rfl λak ag=>Eh ag λw' N M=>⟨rfl,N,M⟩
  unfold fV;dsimp only;refine aw (λav=>?_) (λav=>aw (λax=>?_) (λax=>aw (λar=>?_) (λar=>?_)))
  .rw [af io];exact A.st 3 0 rfl λE x=>one 0 E x
  .rw [aa io,af io];exact A.st 3 0 rfl λE x=>one 1 E x
  .rw [aa io,aa io,af io];refine⟨_,A.gG 0,_,A.cA 0,(XX s i c l G ah D).mono ?_⟩;intro r E W;cases hq:qu l with
   |ok t u=>
    rw[hq]at W;obtain⟨rfl,f6⟩:=W;refine⟨_,_,_,_,rfl,(A.cC f6).nw λw7 _ x=>x.jI 4 rfl λw8 B=>⟨_,B.ld 4 0,aW rfl (B.st 3 0 rfl λS h=>h.st 3 1 rfl λac j=>j.e7 0 rfl λae d=>?_)⟩⟩;exact Eh (d.take 4) λw' N M=>⟨rfl,N,by rw[M,Nat.add_assoc]⟩
   |bad a C=>
    rw[hq]at W;obtain⟨⟨y,aS,rfl⟩,f6⟩:=W;have F:=Qh _ l (Nat.lt_succ_self _) _ _ hq;refine⟨_,_,_,_,rfl,(A.cC f6).nw λw7 _ x=>x.jI 4 rfl λw8 B=>⟨_,B.ld 4 0,aU (by rcases F with rfl|rfl<;>rfl) (B.dr λS h=>?_)⟩⟩;refine⟨_,_,h.ld 4 0,h.ld 4 1,h.kL 1 rfl λac j=>⟨j.ld 4 0,j.ld 4 1,j.jI 2 rfl λae d=>⟨_,_,_,d.ld 1 0,d.ld 1 1,d.ld 1 2,_,_,d.ld 2 0,d.ld 2 1,⟨_,_,_,by rw[Nat.add_assoc]⟩,io,d.fr⟩⟩⟩
  .rw [aa io,aa io,aa io];have word:hF c=true->ny.L2 (ab e) (ab bs) (ab w.heap.size) (ab H.heap.size) (ab I.heap.size) D (yq e w i (if hF c=true then(match fx ((c::l).takeWhile bO)with
     |(k,C)=>if C≠0 then .bad 0 C else match(c::l).drop ((c::l).takeWhile bO).length with
      |[]=>.tok k ((c::l).takeWhile bO) ((c::l).takeWhile bO).length
      |y::_=>if mD y then .tok k ((c::l).takeWhile bO) ((c::l).takeWhile bO).length else .bad ((c::l).takeWhile bO).length 2)else .bad 0 2)):=λY=>by
    rw[af Y];have aN:bO c=true:=by unfold hF at Y;unfold bO;simp at Y ⊢;rcases Y with(P|P)|P<;>simp[P]
    have aR:((c::l).takeWhile bO).length<=l.length+1:=by have:=(List.takeWhile_prefix (p:=bO) (l:=c::l)).length_le;simpa using this
    refine X2 s ah w e bs bk _ _ _ (i+((c::l).takeWhile bO).length) i _ _ (λE x=>?_) (l.length+2) i (c::l) D gs G az rfl A;have aL:(c::l).take ((c::l).takeWhile bO).length=(c::l).takeWhile bO:=(List.prefix_iff_eq_take.1 (List.takeWhile_prefix bO)).symm;have Q:bl (s.extract i (i+((c::l).takeWhile bO).length))=(c::l).takeWhile bO:=by rw[Ij,List.drop_take,G,Nat.add_sub_cancel_left,aL]
    have aO:∀y∈(c::l).takeWhile bO,bO y=true:=λy Z=>by have:=List.all_takeWhile (p:=bO) (l:=c::l);exact cY.1 this y Z
    have aI:(c::l).takeWhile bO≠[]:=by rw[List.takeWhile_cons,af aN];simp
    have an:(bl s).drop (i+((c::l).takeWhile bO).length)=(c::l).drop ((c::l).takeWhile bO).length:=by rw[<-iF,G]
    generalize(c::l).takeWhile bO=t at *;refine⟨_,x.gG 0,_,x.ld 3 2,_,x.cA 0,io,io,io,by rw[bG];omega,?_⟩;rw[bG,bG];refine x.st 3 1 rfl λw7 B=>⟨_,B.ld 3 1,(XV _ w7 (by rw[Q];exact aI) (by rw[Q];exact aO) (by rw[<-cZ,Q];omega)).mono ?_⟩;rintro r w8 ⟨rfl,f8⟩;rw[Q];refine⟨_,_,rfl,?_⟩;have h:=B.cC f8;rcases fx t with⟨kd,C⟩;simp only;have ap:s.extract i (i+t.length)=ba t:=(kZ _).symm.trans (congrArg ba Q);have am:∀{w':J},O (·=e) w w' [.c e [.int .i64 ((i+t.length:Nat):Int)] bA,.c w.heap.size [.int .i64 0,zs,.int .i64 0] db,.c H.heap.size [.int .i64 0,.int .i64 0] je,.c I.heap.size [.int .i64 0,.string (s.extract i (i+t.length)),.int .i64 (i:Int)] db] (RD bs bk s (.func (.func pd) #[] #[.pointer (some (ab e)),.pointer (some (ab bs))]))->
      ny.S5 (ab w.heap.size) (ab H.heap.size) (ab I.heap.size) kd w' (yq e w i (.tok kd t t.length)):=λK=>by rw[ap]at K;exact K.st 3 0 rfl λak ag=>Eh ag λw' N M=>⟨rfl,N,M⟩
    refine cz (λF=>?_) (λF=>?_)
    .rw [af F];exact h.dr λS h=>⟨_,h.ld 3 2,h.kL 1 rfl λac j=>⟨j.ld 3 2,j.jI 2 rfl λae d=>⟨_,_,_,d.ld 1 0,d.ld 1 1,d.ld 1 2,_,_,d.ld 2 0,d.ld 2 1,⟨_,_,_,rfl⟩,F,d.fr⟩⟩⟩
    .rw [aa (by simpa using F)];refine⟨_,h.cA 0,_,h.gG 0,aY (λaB=>?_) (λaB=>?_)⟩
     .obtain ⟨y,l',Z⟩:∃y l',(bl s).drop (i+t.length)=y::l':=by
       cases hd:(bl s).drop (i+t.length)with
       |nil=>have:=congrArg List.length hd;rw[dM,cZ]at this;simp at this;omega
       |cons c l=>exact⟨c,l,rfl⟩
      rw[<-an,Z];refine⟨_,h.gG 0,_,h.cA 0,io,y,by rw[bG];exact(wF Z).1,(zA _ y w8).mono ?_⟩;rintro r S ⟨rfl,rfl⟩;refine⟨_,rfl,?_⟩;show bB (ai (Go.Lib.indexByte [9,10,13,32,59,40,41,34] y<0)) _ _;rw[WL];refine eO (λhf=>?_) (λhf=>?_)
      .simp only[hf];exact h.dr λS h=>⟨_,h.cA 0,h.kL 1 rfl λac j=>⟨j.cA 0,j.jI 2 rfl λae d=>⟨_,_,_,d.ld 1 0,d.ld 1 1,d.ld 1 2,_,_,d.ld 2 0,d.ld 2 1,⟨_,_,_,rfl⟩,io,d.fr⟩⟩⟩
      .simp only[hf,if_true];exact am h
     .have:(bl s).drop (i+t.length)=[]:=dw (by rw[cZ];omega);rw[<-an,this];exact am h
   refine(Ei c D).mono ?_;rintro r E ⟨rfl,rfl⟩;refine⟨_,rfl,bq (λh1=>word (by simp[hF,h1])) (λh1=>(Eg c 10 D).mono ?_)⟩;rintro r E ⟨rfl,rfl⟩;refine⟨_,rfl,bq (λh2=>word (by simp[hF,h2])) (λh2=>aw (λh3=>word ?_) (λh3=>?_))⟩
   .have:c.toNat=35:=io
    simp[hF,this]
   .have aJ:¬hF c=true:=by
     have:c.toNat≠35:=io
     simp[hF,h1,h2,this]
    rw[aa aJ];exact A.dr λS h=>⟨_,h.cA 0,h.kL 1 rfl λac j=>⟨j.cA 0,j.jI 2 rfl λae d=>⟨_,_,_,d.ld 1 0,d.ld 1 1,d.ld 1 2,_,_,d.ld 2 0,d.ld 2 1,⟨_,_,_,rfl⟩,io,d.fr⟩⟩⟩
def F3:∀(n:Nat) (l:List UInt8),l.length<n->∀(t:List UInt8) (u:Nat),qu l=.ok t u->1<=u/\u<=l.length/\t.length<u
 |0,l,d=>io
 |n+1,[],_=>by intro a k d;unfold qu at d;cases d
 |n+1,c::l,q=>by
  intro t u d;by_cases j:c.toNat=34
  .unfold qu at d;rw[af j]at d;cases d;simp
  .rw [xo c l j]at d;cases e:ee (c::l)with
   |bad x z=>rw[e]at d;cases d
   |ok y v=>
    rw[e]at d;simp only at d;have w:=zh e;cases h:qu ((c::l).drop v)with
    |bad a k=>rw[h]at d;cases d
    |ok A B=>
     rw[h]at d;cases d;have:=F3 n _ (by simp at q ⊢;omega) _ _ h;simp at this ⊢ w;omega
def Ki{t:List UInt8}{k:Int}(d:fx t=(k,0)):k=2\/k=3\/k=4:=by
 unfold fx at d;split at d
 .cases d
 .split at d
  .split at d
   .cases d
   .split at d<;>cases d;simp
  .split at d
   .split at d
    .cases d
    .split at d<;>cases d;simp
   .unfold tV at d;split at d
    .split at d
     .split at d
      .split at d<;>cases d;simp
      .cases d
     .split at d
      .split at d
       .split at d<;>cases d;simp
       .cases d
      .cases d
    .cases d
def pf{l:List UInt8}{k:Int}{t:List UInt8}{u:Nat}(d:fV l=.tok k t u):k≠6/\1<=u/\u<=l.length/\t.length<=u:=by
 unfold fV at d;cases l with
 |nil=>cases d
 |cons c l=>
  simp only at d;split at d
  .cases d;simp
  .split at d
   .cases d;simp
   .split at d
    .split at d
     .rename_i C D x;cases d;have:=F3 _ l (Nat.lt_succ_self _) _ _ x;simp;omega
     .cases d
    .split at d
     .rename_i e;have y:bO c=true:=by unfold hF at e;unfold bO;simp at e ⊢;rcases e with(d|d)|d<;>simp[d]
      have q:((c::l).takeWhile bO).length<=(c::l).length:=(List.takeWhile_prefix (p:=bO) (l:=c::l)).length_le;have h:1<=((c::l).takeWhile bO).length:=by rw[List.takeWhile_cons,af y];simp
      cases w:fx ((c::l).takeWhile bO)with
      |mk B z=>
       rw[w]at d;simp only at d;split at d
       .cases d
       .rename_i j;simp only[ne_eq,Decidable.not_not]at j;subst j;have A:=Ki w;split at d
        .cases d;exact⟨io,h,q,bm _⟩
        .split at d
         .cases d;exact⟨io,h,q,bm _⟩
         .cases d
     .cases d
def Wi:fQ U qL db (.agg #[.int .i64 0,.string (a8 #[]),.int .i64 0]) 3 32:=⟨by kernel_rfl,by kernel_rfl,rfl,dl,dl⟩
def sH(t:aG):List V:=[.int .i64 t.kind,.string (ba t.text),.int .i64 (t.aT:Int)]
def gR(l:List aG):List V:=l.flatMap sH
def Bf:∀l:List aG,(gR l).length=3 *l.length
 |[]=>rfl
 |t::l=>by have:=Bf l;unfold gR at this ⊢;rw[List.flatMap_cons,bb,this,bx];simp[sH];omega
def acF(l:List aG)(t:aG):gR (l++[t])=gR l++sH t:=by simp[gR]
def En.nil:En:=⟨[],λ_=>True,λ_ _ _ d=>d,λ_ _ b e=>by simp at e,gs⟩
abbrev EL(t2 t3 t4 d q l_ D:Nat)(e h j:V)(sl:Sl)(acc:List aG)(k:En)(o:Obj):List En:=
 [.c t2 [e] qL,.c t3 [h] bA,.c t4 [j] ha,.c d [sl.v] qL,k,.row db 3 sl (gR acc),.ob D (.deferred (some [])),.ob l_ o]
abbrev ED(bs d bk e:Nat)(s:ByteArray):List En:=
 [.c bs [.string s] fD,.c bk [.func (.func pd) #[] #[.pointer (some (ab d)),.pointer (some (ab bs))]] G',.c e [.func (.func zL) #[] #[.pointer (some (ab bk)),.pointer (some (ab d)),.pointer (some (ab bs))]] acN]
def yj(w0:J)(t2 t3 t4 k d l_ D bs bk h:Nat)(s:ByteArray)(q:eK->Option Code->Obj)(acc:List aG)(w:J):TR->Prop
 |.ok x=>∃sl e,O F0 w0 w (EL t2 t3 t4 k d l_ D (.slice none 0 0) (.int .i64 0) (.int .i64 0) sl (acc++x) e (q .ready none)) (ED bs d bk h s)
 |.bad a j=>j≠0/\∃sl y e,O F0 w0 w (EL t2 t3 t4 k d l_ D (.slice none 0 0) (.int .i64 (a:Int)) (.int .i64 j) sl y e (q .done (some .ret))) (ED bs d bk h s)
def Tz{w0:J}{t2 t3 t4 j d l_ D bs bk e:Nat}{s:ByteArray}{k:eK->Option Code->Obj}{acc:List aG}{w:J}{t:aG}{q:TR}(h:yj w0 t2 t3 t4 j d l_ D bs bk e s k (acc++[t]) w q):yj w0 t2 t3 t4 j d l_ D bs bk e s k acc w (q.push t):=by
 cases q with
 |ok x=>simpa[yj,TR.push]using h
 |bad a y=>exact h
def XU(s:ByteArray)(av:s.size<=1000000)(w0:J)(t2 t3 t4 S h l_ D bs bk P:Nat)(x:Addr)(F:eK->Option Code->Obj)(hY:∀(ah:Int) (ak:ByteArray) (am an ao:Int) (w_:J) (K_:Bool->J->Prop),w_.heap[l_]? =some (F .ready none)->Ep.qN l_ F (ab t2) (ab t3) (ab t4) (ab S) x ah ak am an ao w_ (λr_ G=>∃b_:Bool,r_=ad (.bool b_)/\K_ b_ G)->W.oB U l_ #[.agg #[.int .i64 ah,.string ak,.int .i64 am],.agg #[.int .i64 an,.int .i64 ao]] w_ K_)(R:aB):∀(n k:Nat) (l:List UInt8) (acc:List aG) (sl:Sl) (w:J),l.length<n->(bl s).drop k=l->k<=s.size->acc.length<=k->
  O F0 w0 w (EL t2 t3 t4 S h l_ D (.slice none 0 0) (.int .i64 0) (.int .i64 0) sl acc (.c h [.int .i64 (k:Int)] bA) (F .ready none)) (ED bs h bk P s)->
  (∀E,yj w0 t2 t3 t4 S h l_ D bs bk P s F acc E (kN n k l)->R (ad (.tuple #[])) E)->zo.L0 l_ (ab P) w R:=by
 intro n;induction n with
 |zero=>intro k l acc sl w hn;omega
 |succ n ih=>
  intro k l acc sl w hn hl hk aN j hR;have aP:=hC false l;have aO:l.length=s.size - k:=by rw[<-hl,dM,cZ]
  have aR:sl.n=acc.length:=by have:=aL.len (j.get 5);rw[Bf]at this;omega
  refine zo.cr _ _ _ _ ⟨⟨zL,#[],#[.pointer (some (ab bk)),.pointer (some (ab h)),.pointer (some (ab bs))]⟩,j.gG 2,B8 (by kernel_rfl) ((XW av (j.ob 4) (show w.heap[bs]? =_ from j.getD 0) (show w.heap[bk]? =_ from j.getD 1) hk).mono ?_)⟩;intro r G B;rw[hl]at B;have round:∀(kd:Int) (y:List UInt8) (i:Nat) (G:J) (e5:En) (w8:J) (p q:Nat),O F0 w0 w8 (EL t2 t3 t4 S h l_ D (.slice none 0 0) (.int .i64 0) (.int .i64 0) sl acc e5 (F .ready none)++[.c p [.int .i64 kd,.string (ba y),.int .i64 (i:Int)] db,.c q [.int .i64 0,.int .i64 0] je]) (ED bs h bk P s)->
    ∀Y:Bool->J->Prop,(∀C E,O F0 w0 E (EL t2 t3 t4 S h l_ D (.slice none 0 0) (.int .i64 0) (.int .i64 0) C (acc++[⟨kd,y,i⟩]) e5 (F .ready none)++[.c p [.int .i64 kd,.string (ba y),.int .i64 (i:Int)] db,.c q [.int .i64 0,.int .i64 0] je]) (ED bs h bk P s)->Y true E)->
    W.oB U l_ #[.agg #[.int .i64 kd,.string (ba y),.int .i64 (i:Int)],.agg #[.int .i64 0,.int .i64 0]] w8 Y:=by intro kd y i G e5 w8 p q H8 Y hK;refine hY _ _ _ _ _ w8 Y (H8.ob 7) ?_;refine H8.nw λw9 _ H9=>H9.kL 10 rfl λax aa=>?_;refine aa.nw λay _ ac=>ac.jI 11 rfl λaz ae=>ae.pu 7 rfl λaC e=>⟨_,e.ld 11 0,aW rfl ?_⟩;refine⟨_,e.cA 3,_,_,_,e.ld 10 0,e.ld 10 1,e.ld 10 2,e.q4 5 Wi rfl (λC aI I _ _=>?_) io⟩;refine I.e7 3 rfl λaJ K=>K.pu 7 rfl λag T=>⟨true,rfl,hK C ag ?_⟩;have:=T.take 10;simp only[List.set_cons_succ,List.set_cons_zero,List.take_succ_cons,List.take_zero,kE,uS]at this;simp only[EL,acF];exact this
  cases A:fV (l.drop (aH false l))with
  |fin=>
   rw[A]at B;obtain⟨rfl,Q,c1⟩:=B;have H:=j.yP 4 Q c1;refine⟨_,_,_,_,_,rfl,H.nw λw2 _ L=>L.nw λw3 _ M=>M.kL 8 rfl λw4 N=>N.jI 9 rfl λw5 d=>⟨_,_,_,d.ld 8 0,d.ld 8 1,d.ld 8 2,_,_,d.ld 9 0,d.ld 9 1,?_⟩⟩;refine round 6 [] _ G _ _ _ _ d _ (λC w6 z=>aW rfl ⟨_,z.ld 9 0,aW rfl ⟨_,z.ld 8 0,aU rfl (hR w6 ?_)⟩⟩);unfold kN;simp only[A];exact⟨C,_,z.take 8⟩
  |tok kd y u=>
   rw[A]at B;obtain⟨rfl,Q,c1⟩:=B;have H:=j.yP 4 Q c1;obtain⟨ar,aQ,aw,_⟩:=pf A;rw[dM]at aw;refine⟨_,_,_,_,_,rfl,H.nw λw2 _ L=>L.nw λw3 _ M=>M.kL 8 rfl λw4 N=>N.jI 9 rfl λw5 d=>⟨_,_,_,d.ld 8 0,d.ld 8 1,d.ld 8 2,_,_,d.ld 9 0,d.ld 9 1,?_⟩⟩;refine round kd y _ G _ _ _ _ d _ (λC w6 z=>aW rfl ⟨_,z.ld 9 0,aW rfl ⟨_,z.ld 8 0,aW (by simpa using ar) ?_⟩⟩);refine ih (k+aH false l+u) ((l.drop (aH false l)).drop u) (acc++[aG.mk kd y (k+aH false l)]) C w6 (by simp;omega) (by rw[<-hl,iF,iF,Nat.add_assoc]) io (by simp;omega) (z.take 8) (λE Z=>hR E ?_);unfold kN;simp only[A];exact Tz Z
  |bad a af=>
   rw[A]at B;obtain⟨⟨x0,x1,x2,rfl⟩,Z,Q⟩:=B;have H:=j.gb 4 En.nil rfl (Q.mono λx _ af=>by simp[En.ob,af]) trivial (by simp[En.nil]);refine⟨_,_,_,_,_,rfl,H.nw λw2 _ L=>L.nw λw3 _ M=>M.kL 8 rfl λw4 N=>N.jI 9 rfl λw5 d=>⟨_,_,_,d.ld 8 0,d.ld 8 1,d.ld 8 2,_,_,d.ld 9 0,d.ld 9 1,?_⟩⟩;refine hY _ _ _ _ _ w5 _ (d.ob 7) ?_;refine d.nw λw9 _ H9=>H9.kL 10 rfl λax aa=>?_;refine aa.nw λay _ ac=>ac.jI 11 rfl λaz ae=>ae.pu 7 rfl λaC e=>⟨_,e.ld 11 0,aU (by simpa using Z) ?_⟩;refine e.dr λaI I=>⟨_,I.ld 11 1,_,I.ld 11 0,I.e7 0 rfl λaJ K=>⟨K.ld 11 0,K.ld 11 1,K.e7 1 rfl λag T=>⟨T.ld 11 0,T.e7 2 rfl λaS ap=>ap.pu 7 rfl λaM aq=>⟨false,rfl,aU rfl (hR aM ?_)⟩⟩⟩⟩;unfold kN;simp only[A];exact⟨Z,sl,acc,En.nil,aq.take 8⟩
def YA{d:J}{l:Nat}{o:eK->Option Code->Obj}{N:J->Prop}{X:Nat->J->Prop}{T:J->Prop}(e:hv d l (o .ready none) (o .exhausted none) N):qU d l o N X T:=.inl e
def YB{d:J}{l:Nat}{o:eK->Option Code->Obj}{N:J->Prop}{X:Nat->J->Prop}{T:J->Prop}(e:hv d l (o .done (some .ret)) (o .exhausted (some .ret)) T):qU d l o N X T:=.inr (.inr e)
def tokens(l:List UInt8):TR:=if 65536<l.length then .bad 65536 4 else kN (l.length+1) 0 l
def TX(w:J)(q:TR):aB:=λr d=>match q with
 |.ok h=>∃sl:Sl,r=ad (.tuple #[sl.v,.int .i64 0,.int .i64 0])/\aL d db 3 sl (gR h)/\ag w d/\∀b∈aR sl,w.heap.size<=b
 |.bad a e=>r=ad (.tuple #[.slice none 0 0,.int .i64 (a:Int),.int .i64 e])/\e≠0/\ag w d
def Ef(s:ByteArray)(ae:s.size<=1000000)(w:J):aj U Nq #[.string s] w (TX w (tokens (bl s))):=by
 refine Ep.ok _ w _ ((O.start (M:=F0) [] gs).nw λw1 _ K=>K.nw λw2 _ Q=>Q.nw λw3 _ C=>aY (λab=>?_) (λab=>?_))
 .refine C.e7 0 rfl λH y=>y.e7 1 rfl λI z=>z.e7 2 rfl λw6 h=>⟨⟨none,0,0⟩,h.cA 0,_,h.cA 1,_,h.cA 2,?_⟩;unfold tokens;rw[af (by rw[cZ];omega)];exact⟨rfl,io,h.fr⟩
 .unfold tokens;rw[aa (by rw[cZ];omega)];refine C.nw λH _ y=>?_;refine LG.ok (y.nw λI _ z=>z.nw λw6 _ h=>h.e7 5 rfl λw7 S=>S.nw λw8 _ T=>T.e7 6 rfl λw9 W=>⟨_,rfl,?_⟩);refine @LF.ok ⟨zL,#[],#[.pointer (some ⟨w7.heap.size,0,none⟩),.pointer (some ⟨I.heap.size,0,none⟩),.pointer (some ⟨H.heap.size,0,none⟩)]⟩ _ _ (W.nw λq _ B=>⟨_,rfl,?_⟩);show ∀A:eK->Option Code->Obj,_;intro A hY;have Z:(q.alloc (.deferred (some []))).heap.size=q.heap.size+1:=size_alloc _ _;have D:=((B.freeze 4 _ rfl (B.get 4) (λb e=>e)));have E:=D.freeze 5 _ rfl (D.get 5) (λb e=>e);have Y:=E.freeze 5 _ rfl (E.get 5) (λb e=>e);have F:=((Y.hP db 3).alloc (.deferred (some []))).alloc (A .ready none);rw[Z]at F;refine zo.ok _ _ _ _ (XU s ae w w.heap.size w1.heap.size w2.heap.size w3.heap.size I.heap.size (q.heap.size+1) q.heap.size H.heap.size w7.heap.size w9.heap.size _ A hY _ ((bl s).length+1) 0 (bl s) [] ⟨none,0,0⟩ _ io rfl io gs F (λw' k=>⟨⟨_,rfl⟩,?_⟩));cases G:kN ((bl s).length+1) 0 (bl s)with
  |ok am=>
   rw[G]at k;obtain⟨sl,ag,x⟩:=k;refine YA (x.pu 7 rfl λah j=>⟨sl,j.cA 3,j.e7 0 rfl λap L=>L.e7 1 rfl λaq N=>N.e7 2 rfl λar P=>P.pu 6 rfl λak d=>⟨sl,d.cA 0,_,d.cA 1,_,d.cA 2,?_⟩⟩);exact⟨sl,rfl,d.get 5,d.fr,λb e=>(d.new _ (aA (i:=5) rfl) b e).resolve_right id⟩
  |bad a ao=>
   rw[G]at k;obtain⟨ac,sl,an,ag,x⟩:=k;refine YB (x.pu 7 rfl λah j=>j.pu 6 rfl λak d=>⟨⟨none,0,0⟩,d.cA 0,_,d.cA 1,_,d.cA 2,?_⟩);exact⟨rfl,ac,d.fr⟩
structure fE where
 k:Int
 nm:List UInt8
 st:aP
 nd:Int
 n:Int
deriving DecidableEq
structure bY where
 s:aJ
 vs:List (List UInt8×Nat)
 ms:List (List UInt8×PM)
 cs:List fE
inductive SR
 |ok (x:bY)
 |er (e:Int) (p:Nat)
def SR.b(x:SR)(f:bY->SR):SR:=match x with
 |.ok x=>f x
 |.er d p=>.er d p
def PR.s{α:Type}(x:PR α)(y:bY)(f:α->bY->SR):SR:=match x with
 |.ok a s=>f a {y with s:=s}
 |.er d p=>.er d p
def iZ(T:List aG)(x:bY):b3:=⟨T,x.vs,x.ms,[],9223372036854775807,0⟩
def t'(E:b3)(s:aJ):Nat:=min E.kn E.ms.length *(E.T.length+1)+(E.T.length - s.p)+1
def sI(T:List aG)(x:bY):PR Nat:=(dO (t' (iZ T x) x.s) (iZ T x) x.s).b λn s=>
 if(s.g[n]?).map (·.st)=some (aN 1)then .ok n s else .er 9 (aO T x.s.p).aT
def w9(T:List aG)(x:bY):PR aG:=(bL T 2 x.s).b λt s=>if(lk x.vs t.text).isSome||(lk x.ms t.text).isSome then .er 8 t.aT else .ok t s
def qb(T:List aG)(w:aG)(x:bY):SR:=(w9 T x).s x λt x=>(iE T x.s).s x λd x=>(bL T 1 x.s).s x λ_ x=>(eC x.s ⟨0,[],0,0,0,ba t.text,d⟩ w).s x λn x=>
 .ok {x with vs:=x.vs++[(t.text,n)],cs:=x.cs++[⟨0,t.text,d,n,0⟩]}
def ll(T:List aG):Nat->List (List UInt8×aP)->aJ->PR (List (List UInt8×aP))
 |0,_,_=>.er 1000 0
 |f+1,d,s=>
  let t:=aO T s.p
  if t.kind=1 then .ok d (cS t s)else if t.kind≠0 then j4 t else
  (bL T 2 (cS t s)).b λp s=>if(lk d p.text).isSome then .er 8 p.aT else(iE T s).b λe s=>(bL T 1 s).b λ_ s=>ll T f (d++[(p.text,e)]) s
def l7(T:List aG):Nat->Nat->aJ->PR Unit
 |0,_,_=>.er 1000 0
 |f+1,d,s=>
  let t:=aO T s.p
  if t.kind=6 then j4 t else if t.kind=1/\d=0 then j4 t else
  let d:=if t.kind=0 then d+1 else if t.kind=1 then d - 1 else d
  if d=0 then .ok () (cS t s)else l7 T f d (cS t s)
def qc(T:List aG)(x:bY):SR:=(bL T 0 x.s).s x λ_ x=>(w9 T x).s x λt x=>if iz t.text then .er 6 t.aT else
 (ll T (T.length+1) [] x.s).s x λh x=>(l7 T (T.length+1) 0 x.s).s x λ_ d=>(bL T 1 d.s).s d λ_ e=>
  .ok {e with ms:=e.ms++[(t.text,⟨h,x.s.p,x.ms.length⟩)]}
def lN(T:List aG)(x:bY):SR:=(bL T 2 x.s).s x λd x=>
 let fin (c:fE) (x:bY):SR:=(bL T 1 x.s).s x λ_ x=>.ok {x with cs:=x.cs++[c]}
 if d.text=[100,101,99,108,97,114,101]then qb T d x else
 if d.text=[100,101,102,105,110,101]then qc T x else
 if d.text=[97,115,115,101,114,116]\/d.text=[101,100,105,116]then
  (bL T 2 x.s).s x λt x=>(sI T x).s x λn x=>fin ⟨if d.text=[101,100,105,116]then 2 else 1,t.text,a6,n,0⟩ x else
 if d.text=[114,101,116,114,97,99,116]then(bL T 2 x.s).s x λt x=>fin ⟨3,t.text,a6,0,0⟩ x else
 if d.text=[112,117,115,104]then fin ⟨4,[],a6,0,0⟩ x else
 if d.text=[112,111,112]then fin ⟨5,[],a6,0,0⟩ x else
 if d.text=[99,104,101,99,107]then(dg T x.s).s x λn e=>if 1099511627776<n then .er 5 (aO T x.s.p).aT else fin ⟨6,[],a6,0,n⟩ e else
 .er 2 d.aT
def iH(T:List aG):Nat->bY->SR
 |0,_=>.er 1000 0
 |f+1,d=>
  let t:=aO T d.s.p
  if t.kind=6 then .ok d else if t.kind=0 then(lN T {d with s:=cS t d.s}).b λd=>iH T f d else .er 2 t.aT
def kC(l:List UInt8):SR:=match tokens l with
 |.bad a e=>.er e a
 |.ok d=>iH d (d.length+1) ⟨⟨0,0,[]⟩,[],[],[]⟩
def iM:List Nx->Nat->List (List UInt8×Nat)
 |[],_=>[]
 |d::g,i=>if d.op=0 then(bl d.tx,i)::iM g (i+1)else iM g (i+1)
namespace Xx
def L0:=bu (ay U Tryz.f209 [(7,lr 15),(8,lr 15),(9,lr 15),(10,lr 15),(17,lr 15),(18,lr 15),(23,lr 15)] []) [0,2,1] [(0,.s),(1,.U),(4,.I)]
abbrev t1:=bt L0
abbrev S5:=ah t1 [5,1,1,3,1] [(0,.s),(1,.U),(4,.I),(8,.v [.i .u32]),(9,.v [.i .u32]),(10,.v [.i .u32]),(11,.v [.i .u32])]
abbrev t2:=ak S5
abbrev S4:=ah t2 [4,1,1,3,1] [(0,.s),(1,.U),(4,.I),(6,.v [.i .u32]),(8,.v [.i .u32]),(9,.v [.i .u32])]
abbrev t3:=ak S4
abbrev S3:=ah t3 [3,1,1,3,1] [(0,.s),(1,.U),(4,.I),(6,.v [.i .u32]),(7,.v [.i .u32])]
abbrev t4:=ak S3
abbrev P0:Ps:=[(0,.s),(1,.U),(4,.I),(5,.v [.i .u32])]
abbrev S2:=ah t4 [2,1,1,3,1] P0
abbrev t5:=ak S2
abbrev S1:=ah t5 [1,1,1,3,1] P0
abbrev t6:=ak S1
abbrev P1:Ps:=[(0,.s),(4,.I),(12,.v [.i .u32])]
abbrev B1:=ah t6 [5] P1
abbrev t7:=ak B1
abbrev P2:Ps:=[(0,.s),(4,.I),(12,.v [.i .u32]),(16,.v [.i .u32])]
abbrev B0:=ah t7 [2,1,1,1,4] P2
abbrev t8:=ak B0
abbrev vK:=ah t8 [1,1,1,1,4] P2
abbrev t9:=ak vK
abbrev S9:=ah t9 [4] P1
abbrev t10:=ak S9
abbrev S8:=ah t10 [3,1,1,1,3] [(0,.s),(4,.I),(12,.v [.i .u32]),(14,.v [.i .u32]),(15,.v [.i .u32])]
abbrev t11:=ak S8
abbrev P3:Ps:=[(0,.s),(4,.I),(12,.v [.i .u32]),(13,.v [.i .u32])]
abbrev S7:=ah t11 [2,1,1,1,3] P3
abbrev t12:=ak S7
abbrev S6:=ah t12 [1,1,1,1,3] P3
abbrev t13:=ak S6
end Xx
namespace Xv
noncomputable def C0:Code:=(Tryz.f180.body).getD .skip
noncomputable def C1:=C0.sn
noncomputable def C2:=C1.fs
noncomputable def C3:=C2.sn
noncomputable def C4:=C3.fs
noncomputable def C5:=C4.fs
noncomputable def C6:=C5.sn
noncomputable def C7:=C6.fs
noncomputable def C8:=C7.sn
noncomputable def C9:=C6.sn
noncomputable def j5:=C4.sn
noncomputable def j6:=C3.sn
noncomputable def lF:=C1.sn
end Xv
namespace KY
def ok:=aC (ay U Tryz.f152 [] []) Np [.Y]
end KY
namespace o3
abbrev P0:Ps:=[(1,.I),(8,.b),(9,.st),(10,.U),(11,.U),(12,.b),(13,.U),(99,.s),(100,.I),(101,.I)]
def L4:=bu (ay U Tryz.f137 [] []) [0,1,1,1,11] P0
abbrev t1:=bt L4
abbrev S5:=ah t1 [3,2,1,1,11] P0
abbrev t2:=ak S5
abbrev vK:=ah t2 [0,1,1,1,7,2,2,2,1,1,11] [(11,.U)]
abbrev t3:=ak vK
abbrev S9:=ah t3 [7,2,2,2,1,1,11] [(1,.I),(8,.b),(9,.st),(10,.U),(11,.U),(12,.b),(13,.U),(17,.U),(99,.s),(100,.I),(101,.I)]
abbrev t4:=ak S9
abbrev P1:Ps:=[(1,.I),(8,.b),(9,.st),(10,.U),(11,.U),(12,.b),(13,.U),(16,.Y),(99,.s),(100,.I),(101,.I)]
abbrev S8:=ah t4 [6,2,2,2,1,1,11] P1
abbrev t5:=ak S8
abbrev S7:=ah t5 [3,2,2,2,1,1,11] P1
abbrev t6:=ak S7
abbrev P2:Ps:=[]
abbrev B1:=ah t6 [6,2,2,2,2,2,1,1,11] P2
abbrev t7:=ak B1
abbrev P3:Ps:=[(1,.I),(8,.b),(9,.st),(10,.U),(11,.U),(12,.b),(13,.U),(15,.Y),(99,.s),(100,.I),(101,.I)]
abbrev B0:=ah t7 [4,2,2,2,2,2,1,1,11] P3
abbrev t8:=ak B0
abbrev S6:=ah t8 [2,2,2,2,2,2,1,1,11] P3
abbrev t9:=ak S6
abbrev TM:=ah t9 [13] [(13,.U)]
abbrev t10:=ak TM
def Hx:=bF t10 L4
abbrev S3:=ah t10 [9] [(0,.st),(1,.I),(8,.b),(9,.st),(10,.U),(11,.U)]
abbrev t11:=ak S3
abbrev S2:=ah t11 [8] [(0,.st),(1,.I),(2,.I),(8,.b),(9,.st),(10,.U)]
abbrev t12:=ak S2
abbrev P4:Ps:=[(0,.st),(1,.I),(2,.I),(8,.b),(9,.st)]
abbrev S1:=ah t12 [6] P4
abbrev t13:=ak S1
abbrev TN:=ah t13 [0,1,3,1,5] P2
abbrev t14:=ak TN
abbrev S0:=ah t14 [5] P4
abbrev t15:=ak S0
abbrev P5:Ps:=[(0,.st),(2,.I),(8,.b),(9,.st)]
abbrev TT:=ah t15 [6,2,2,1,3,2,4] P5
abbrev t16:=ak TT
abbrev TQ:=ah t16 [4,2,2,1,3,2,4] P5
abbrev t17:=ak TQ
abbrev TP:=ah t17 [2,2,2,1,3,2,4] P5
abbrev t18:=ak TP
abbrev TO:=ah t18 [2,2,4] P4
abbrev t19:=ak TO
def ok:=aC t19 YX [.st,.I,.I]
end o3
namespace Xw
abbrev S7:=ah (ay U Tryz.f120 [] []) [13] [(11,.I)]
abbrev t1:=ak S7
abbrev S6:=ah t1 [11] [(8,.b),(9,.U)]
abbrev t2:=ak S6
abbrev P0:Ps:=[(8,.b),(9,.U),(10,.U)]
abbrev S5:=ah t2 [10] P0
abbrev t3:=ak S5
abbrev S4:=ah t3 [9] P0
abbrev t4:=ak S4
abbrev P1:Ps:=[(2,.I),(8,.b),(9,.U)]
abbrev S3:=ah t4 [8] P1
abbrev t5:=ak S3
abbrev S2:=ah t5 [7] P1
abbrev t6:=ak S2
abbrev S1:=ah t6 [4] [(0,.st),(1,.I),(2,.I),(8,.b)]
abbrev t7:=ak S1
abbrev S8:=ah t7 [1,1,3,1,1,1,3] [(0,.st),(1,.I),(2,.I)]
abbrev t8:=ak S8
abbrev S0:=ah t8 [1,1,3] [(0,.st),(1,.I),(2,.I),(8,.b),(16,.Y)]
abbrev t9:=ak S0
end Xw
namespace uf
abbrev P0:Ps:=[(5,.st),(6,.I),(47,.s),(48,.I),(49,.I)]
def L3:=bu (ay U Tryz.f98 [] []) [0,1,1,1,3,1,1,1,2] P0
abbrev t1:=bt L3
abbrev S5:=ah t1 [3,2,1,1,3,1,1,1,2] P0
abbrev t2:=ak S5
abbrev S4:=ah t2 [2,2,2,2,1,1,3,1,1,1,2] [(5,.st),(6,.I),(8,.Y),(47,.s),(48,.I),(49,.I)]
abbrev t3:=ak S4
abbrev S6:=ah t3 [5,1,1,1,2] [(6,.I)]
abbrev t4:=ak S6
def Hw:=bF t4 L3
abbrev P1:Ps:=[(0,.st),(5,.st)]
abbrev S2:=ah t4 [2,1,1,1,2] P1
abbrev t5:=ak S2
abbrev S1:=ah t5 [1,1,1,1,1,1,1,1,2] P1
abbrev t6:=ak S1
abbrev S0:=ah t6 [0,1,1,1,1,1,1,1,2] P1
abbrev t7:=ak S0
abbrev S7:=ah t7 [3] [(0,.st)]
abbrev t8:=ak S7
def ok:=aC t8 YW [.st]
end uf
namespace Sa
def ok:=aC (ay U Tryz.f82 [] []) Oa [.st]
end Sa
namespace Sb
def ok:=aC (ay U Tryz.f117 [] []) Ob [.st,.I,.I]
end Sb
def Cf(l:List UInt8)(i:Nat):(ba l)[i]? =l[i]?:=by
 by_cases d:i<l.length
 .rw [a0 d];exact getElem?_pos (ba l) i (by rw[bc];exact d)
 .rw [List.getElem?_eq_none io];exact getElem?_neg (ba l) i (by rw[bc];omega)
def Fz(b:Nat)(l:List UInt8)(c:UInt8):c' b (l++[c])=b *c' b l+eM c:=by unfold c';rw[List.foldl_append];rfl
def vl{α:Type}{l:List α}{i:Nat}{c:α}(d:l[i]? =some c):l.take (i+1)=l.take i++[c]:=by rw[g5,d];rfl
def j8(b:Nat)(l:List UInt8):Prop:=∀c∈l,eM c<b/\(48<=c.toNat/\c.toNat<=57\/97<=c.toNat/\c.toNat<=102/\b=16)
def Ar{b:Nat}(q:2<=b):∀{l:List UInt8},j8 b l->∀i,c' b (l.take i)<b^(l.take i).length:=λ{l} h i=>by
 induction i with
 |zero=>simp[c']
 |succ i d=>
  by_cases e:i<l.length
  .have j:l[i]? =some l[i]:=a0 e;rw[vl j,Fz,bb];have:=(h l[i] (List.getElem_mem e)).1;show _<b^((l.take i).length+1);rw[Nat.pow_succ];have k:b *c' b (l.take i)+b<=b *b^(l.take i).length:=by rw[<-Nat.mul_succ];exact Nat.mul_le_mul_left b d
   rw[Nat.mul_comm (b^_) b];omega
  .rw [fA io]at d ⊢;exact d
def wM(k:Nat)(w:J):Sem.run U (zd .neq SV (.tmp k) (.const .nilIface) .nilIface .nilIface) w=.ok (.bool false) w:=by kernel_rfl
def KL{c:UInt8}(d:c.toNat<=57):eM c=c.toNat - 48:=by unfold eM;rw[af d]
def abc{l:List UInt8}(G:1<=l.length)(N:l.length<=13)(hd:j8 10 l)(w:J):aj U Oa #[.string (ba l)] w λr j=>r=ad (.tuple #[.i (c' 10 l:Int),.nilIface])/\ag w j:=by
 have Y:=bc l;obtain⟨h,Z,A⟩:∃c m,l=c::m:=by
  cases l with
  |nil=>simp at G
  |cons c m=>exact⟨c,m,rfl⟩
 have P:=hd h (by rw[A];simp);have x:(ba l)[aZ 0]? =some h:=by rw[Cf,A];rfl
 have dec:∀c∈l,48<=c.toNat/\c.toNat<=57:=λc z=>by
  rcases(hd c z).2 with e|⟨_,_,e⟩
  .exact e
  .omega
 have S:=dec h (by rw[A];simp);have lt:∀i,c' 10 (l.take i)<10000000000000:=λi=>by have:=Ar dl hd i;have O:10^(l.take i).length<=10^13:=Nat.pow_le_pow_right dl (by rw[gK];omega);omega
 have ne:∀k:Int,(k=45\/k=43)->(h.toNat:Int)≠k:=λk T=>io
 have fin:∀d,ag w d->Sem.run U (zd .neq SV (.tmp 11) (.const .nilIface) .nilIface .nilIface) d=.ok (.bool false) d:=λd _=>wM 11 d;refine Sa.ok (Calls.mono (R:=λr j=>r=ad (.tuple #[.i (c' 10 l:Int),.nilIface])/\ag w j) ?_ ?_)
 .refine uf.ok (aU (aQ io) (aU (aQ io) ⟨io,h,x,aw (λe=>absurd e (ne 45 (.inl rfl))) (λ_=>⟨io,h,x,aw (λe=>absurd e (ne 43 (.inr rfl))) (λ_=>?_)⟩)⟩));obtain⟨a,d,C,y,F,_⟩:=R' w (ba l);rw[lM]at y;have I:=Bytes.len y;refine⟨a,d,C,?_⟩;rw[I];have loop:∀(k i:Nat),i+k=l.length->uf.L3 (ba l) (c' 10 (l.take i):Int) a (l.length:Int) (i:Int) d λr j=>r=ad (.tuple #[.i (c' 10 l:Int),.nilIface])/\ag w j:=by
   intro k;induction k with
   |zero=>
    intro i H;rw[fA io];refine uf.Hw (aW (aS io) ⟨io,h,x,aw (λe=>absurd e (ne 45 (.inl rfl))) (λ_=>⟨rfl,F⟩)⟩)
   |succ k K=>
    intro i H;have q:l[i]? =some (l[i]'io):=a0 io;generalize l[i]'io=c at q;obtain⟨L,B⟩:=dec c (aA q);have Q:=c.toNat_lt;have E:aD .u8 ((c.toNat:Int) - 48)=((c.toNat - 48:Nat):Int):=by rw[IntKind.wrap_u8];omega
    refine uf.Hw (aU (aQ io) ⟨io,io,Bytes.cell y q (by rw[bG]) λp W z=>⟨_,z,?_⟩⟩);rw[E];refine aW (aS io) ?_;have M:c' 10 (l.take (i+1))=10 *c' 10 (l.take i)+(c.toNat - 48):=by rw[vl q,Fz,KL B]
    have l1:=lt i;have l2:=lt (i+1);have D:aD .i64 (aD .i64 ((c' 10 (l.take i):Int) *10)+aD .i64 ((c.toNat - 48:Nat):Int))=(c' 10 (l.take (i+1)):Int):=by rw[br (_ *10) io,br ((c.toNat - 48:Nat):Int) io,br _ io];omega
    show uf.L3 _ (aD .i64 _) _ _ (aD .i64 _) _ _;rw[D,bp _ io];exact K (i+1) io
  exact loop l.length 0 io
 .rintro _ d ⟨rfl,f⟩;exact⟨_,_,rfl,false,wM _ _,aW rfl ⟨rfl,f⟩⟩
def Yx:∀c:UInt8,97<=c.toNat->c.toNat<=102->tl .u8 (c.toNat:Int) 32=(c.toNat:Int):=λc=>(by decide+kernel:∀d:Fin 256,97<=d.val->d.val<=102->tl .u8 (d.val:Int) 32=(d.val:Int)) ⟨c.toNat,c.toNat_lt⟩
def abf{b:Nat}(Y:b=2\/b=16){l:List UInt8}(h1:1<=l.length)(h2:b^l.length<=18446744073709551616)(hd:j8 b l)(w:J):aj U Ob #[.string (ba l),.i (b:Int),.i 64] w λr w'=>r=ad (.tuple #[.u (c' b l:Int),.nilIface])/\ag w w':=by
 have hz:=bc l;have x:2<=b:=io
 have ak:l.length<=64:=by
  have h3:2^l.length<=b^l.length:=Nat.pow_le_pow_left x _;have T:2^l.length<=2^64:=io
  exact(Nat.pow_le_pow_iff_right dl).1 T
 have ab:(ba l).toList≠(a8 #[]).toList:=λM=>by have d:=x' (ba l) (ba []);rw[show(ba l).toList=(ba []).toList from M,beq_self_eq_true]at d;have:ba l=ba []:=eQ d.symm;have:=congrArg ByteArray.size this;rw[bc,bc,List.length_nil]at this;omega
 refine Sb.ok (Calls.mono (R:=λr w'=>r=ad (.tuple #[.u (c' b l:Int),.nilIface])/\ag w w') ?_ ?_)
 .obtain ⟨cut,G,F⟩:∃cut:Nat,(b:Int) *cut=18446744073709551616/\(b=2->cut=9223372036854775808)/\(b=16->cut=1152921504606846976):=by
   rcases Y with rfl|rfl
   .exact ⟨9223372036854775808,dl,λ_=>rfl,λd=>by cases d⟩
   .exact ⟨1152921504606846976,dl,λd=>(by cases d),λ_=>rfl⟩
  have G:b *cut=18446744073709551616:=by
   have d:((b *cut:Nat):Int)=18446744073709551616:=by rw[Int.natCast_mul];exact G
   omega
  have main:∀e:Int,e=18446744073709551615->o3.S3 (ba l) (b:Int) false (ba l) (cut:Int) e w λr w'=>r=ad (.tuple #[.u (c' b l:Int),.nilIface])/\ag w w':=by
   intro e j;obtain⟨a,q,y,C,Q,_⟩:=R' w (ba l);rw[lM]at C;have hn:=Bytes.len C;refine⟨a,q,y,?_⟩;rw[hn];have loop:∀(k i:Nat),i+k=l.length->o3.L4 (b:Int) false (ba l) (cut:Int) e false (c' b (l.take i):Int) a (l.length:Int) (i:Int) q λr w'=>r=ad (.tuple #[.u (c' b l:Int),.nilIface])/\ag w w':=by
    intro k;induction k with
    |zero=>
     intro i hi;rw[fA io];exact o3.Hx (aW (aS io) (aW rfl ⟨rfl,Q⟩))
    |succ k ih=>
     intro i hi;have h:l[i]? =some (l[i]'io):=a0 io;generalize l[i]'io=c at h;obtain⟨d1,L⟩:=hd c (aA h);have ah:=c.toNat_lt;have H:=Ar x hd i;have ae:=Ar x hd (i+1);have li:(l.take i).length=i:=by rw[gK];omega
     have ac:(l.take (i+1)).length=i+1:=by rw[gK];omega
     rw[li]at H;rw[ac]at ae;have pw:b^(i+1)<=b^l.length:=Nat.pow_le_pow_right io io;have pi:b *b^i=b^(i+1):=by rw[Nat.pow_succ,Nat.mul_comm]
     have an:c' b (l.take i)<cut:=by
      have:b *c' b (l.take i)<b *cut:=by have:=Nat.mul_lt_mul_of_pos_left H (show 0<b by omega);omega
      exact Nat.lt_of_mul_lt_mul_left this
     have A:c' b (l.take (i+1))=b *c' b (l.take i)+eM c:=by rw[vl h,Fz]
     have am:b *c' b (l.take i)+eM c<18446744073709551616:=io
     have wb:aD .u64 (b:Int)=(b:Int):=by rw[IntKind.wrap_u64];omega
     have af:aD .u8 (b:Int)=(b:Int):=by rw[IntKind.wrap_u8];omega
     have E:o3.S7 (b:Int) false (ba l) (cut:Int) e false (c' b (l.take i):Int) ((eM c:Nat):Int) a (l.length:Int) (i:Int) q λr w'=>r=ad (.tuple #[.u (c' b l:Int),.nilIface])/\ag w w':=by
      have y:aD .u64 ((c' b (l.take i):Int) *aD .u64 (b:Int))=((b *c' b (l.take i):Nat):Int):=by
       rw[wb,IntKind.wrap_u64,Int.mul_comm];have:((b:Int) *(c' b (l.take i):Int))=((b *c' b (l.take i):Nat):Int):=gs
       rw[this];omega
      have O:aD .u64 (((b *c' b (l.take i):Nat):Int)+aD .u64 ((eM c:Nat):Int))=(c' b (l.take (i+1)):Int):=by rw[IntKind.wrap_u64,IntKind.wrap_u64,A];omega
      refine aW (aS (by rw[af];omega)) (aW (aS io) ?_);show o3.S9 _ _ _ _ _ _ (aD .u64 _) (aD .u64 (aD .u64 _+aD .u64 _)) _ _ _ _ _;rw[y,O];refine aW (aS (by rw[A];omega)) (aW (aS (by rw[A,j];omega)) ?_);show o3.L4 _ _ _ _ _ _ _ _ _ (aD .i64 _) _ _;rw[bp _ io];exact ih (i+1) io
     refine o3.Hx (aU (aQ io) ⟨io,io,Bytes.cell C h (by rw[bG]) λp hp Z=>⟨_,Z,aw (λd=>absurd d io) (λ_=>?_)⟩⟩);rcases L with⟨I,D⟩|⟨I,D,q3⟩
     .have z:aD .u8 ((c.toNat:Int) - 48)=((eM c:Nat):Int):=by rw[IntKind.wrap_u8,KL D];omega
      refine aU (aQ io) (aU (aQ io) ?_);rw[z];exact E
     .have hv:eM c=c.toNat - 87:=by unfold eM;rw[aa io]
      have lo:∀(w':J) {K:aB},K (ad (.int .u8 (c.toNat:Int))) w'->aj U Np #[.int .u8 (c.toNat:Int)] w' K:=λw' K W=>KY.ok (by rw[Yx c I D];exact W);have z:aD .u8 (aD .u8 ((c.toNat:Int) - 97)+10)=((eM c:Nat):Int):=by rw[IntKind.wrap_u8,IntKind.wrap_u8,hv];omega
      refine aU (aQ io) (aW (aS io) (lo _ ⟨_,rfl,aU (aQ io) (lo _ ⟨_,rfl,aU (aQ io) (lo _ ⟨_,rfl,?_⟩)⟩)⟩));rw[z];exact E
   exact loop l.length 0 io
  have j:aD .u64 (aD .u64 (1 *2^(min (aZ (aD .u64 64)) (IntKind.bits .u64))) - 1)=18446744073709551615:=dl
  refine o3.ok (bq (λd=>absurd (by simpa using d) ab) (λ_=>aU (aQ io) (aU (aQ io) ?_)));have N:((b:Int)==0)=false:=by rw[beq_eq_false_iff_ne];omega
  rw[N];refine aW rfl (aW dl (aW dl (aw (λd=>absurd d io) (λ_=>aw (λd=>?_) (λd=>⟨?_,?_⟩)))))
  .have S:b=16:=io
   have:=main _ j;rw[F.2 S]at this;exact⟨dl,this⟩
  .rw [IntKind.wrap_u64];omega
  .have B:b=2:=io
   have:=main _ j;rw[F.1 B,B]at this;have P:aD .u64 (aD .u64 (Int.tdiv 18446744073709551615 (aD .u64 ((2:Nat):Int)))+1)=((9223372036854775808:Nat):Int):=dl
   rw[B,P];exact⟨dl,this⟩
 .rintro _ q ⟨rfl,f⟩;exact⟨_,_,rfl,false,wM _ _,aW rfl ⟨rfl,f⟩⟩
def nY:fQ U acS bW (.agg #[.int .i64 0,.slice none 0 0,.int .i64 0,.int .i64 0,.int .u64 0,.string (a8 #[]),.int .i64 0,.int .i64 0,.int .i64 0]) 9 96:=⟨by kernel_rfl,by kernel_rfl,rfl,dl,dl⟩
def rX{l:List Nd}:∀u∈l.flatMap Nd.c,u.oneCell'=true:=by intro u d;obtain⟨e,_,d⟩:=List.mem_flatMap.1 d;simp only[Nd.c,aF,a5,a9]at d;rcases d with rfl|rfl|rfl|rfl|rfl|rfl|rfl|rfl|rfl<;>rfl
def vU{w:J}{b n sz:Nat}{cs:List V}{T:TypeId}(d:w.heap[b]? =some (.cells cs.toArray T (0,0)))(h:cs.length=n *sz):bo sz w ⟨some (ab b),n,n⟩ cs:=
 ⟨h,bm _,⟨λd=>(by cases d),λi v e=>⟨ab b,rfl,cellAt (p:=ab b) d rfl (by simpa using e)⟩⟩⟩
def Iv{w:J}{a b:Nd}(W:a.P w)(Y:b.P w)(Q:a.x.kids.length<=dD):aj U M1 #[a.v,b.v] w λr w'=>r=ad (.bool (ai (a.x=b.x)))/\ag w w':=by
 have S:O F0 w w [] [cv a,cv b]:=bT _ (by
  intro aa N;simp only[aF,a5,a9]at N;rcases N with rfl|rfl
  .exact W
  .exact Y)
 obtain⟨⟨op,C,n,m,u,H,st⟩,sl⟩:=a;obtain⟨⟨G,D,F,E,K,I,z⟩,Z⟩:=b;have no:∀{M:J} {L:List En},O F0 w M L [cv ⟨⟨op,C,n,m,u,H,st⟩,sl⟩,cv ⟨⟨G,D,F,E,K,I,z⟩,Z⟩]->(⟨op,C,n,m,u,H,st⟩:Nx)≠⟨G,D,F,E,K,I,z⟩->(Ending.returned (.bool false)=ad (.bool (ai ((⟨op,C,n,m,u,H,st⟩:Nx)=⟨G,D,F,E,K,I,z⟩)))/\ag w M):=λA d=>⟨by rw[aS d],A.fr⟩;refine J1.aq (S.ax λb2 M A=>A.ax λb3 w2 e=>?_);refine aw (λh=>?_) (λh=>no e (λd=>h (congrArg Nx.op d)));refine aw (λj=>?_) (λj=>no e (λd=>j (congrArg Nx.n d)));refine aw (λk=>?_) (λk=>no e (λd=>k (congrArg Nx.m d)));refine aw (λq=>?_) (λq=>no e (λd=>q (congrArg Nx.u d)));refine AO (λy=>?_) (λy=>no e (λd=>y (congrArg Nx.tx d)));refine mQ (a:=st) (b:=z) (λB=>?_) (λB=>no e (λd=>B (congrArg Nx.st d)));refine e.av (abh (e.getD 0) (e.getD 1) (by unfold dD at Q;simp only at Q ⊢;omega)) ?_;rintro _ w3 rfl T;refine⟨_,rfl,?_,T.fr⟩;simp only at h j k q y;subst h j k q y B;simp
def El{g:List Nx}{n:Nx}{s:aP}(d:bP g n=(s,0)):bP g (eg n s)=(s,0):=by
 unfold bP at d;unfold bP;have k:(b6 (eg n s).op==((eg n s).kids.length:Int)&&(eg n s).kids.all (dK g)&&fL (eg n s))=(b6 n.op==(n.kids.length:Int)&&n.kids.all (dK g)&&fL n):=rfl;rw[k];split at d
 .simp at d
 .rename_i q;rw[aa q];have j:(eg n s).op=n.op:=rfl;rw[j];split at d
  .rename_i h;rw[af h];unfold cg at d;by_cases e:n.op=2
   .rw [af e]at d;unfold cg;rw[j,af e];exact d
   .rw [aa e]at d;have w:s=n.st:=by
     split at d
     .simp at d
     .split at d
      .simp at d
      .split at d
       .simp at d
       .split at d
        .simp at d
        .split at d
         .simp at d
         .exact (congrArg Prod.fst d).symm
    have:eg n s=n:=by rw[w];rfl
    rw[this];unfold cg;rw[aa e];exact d
  .rename_i h;rw[aa h];exact d
def o2(g:List Nx)(n:Nx):Option Nat:=gE (if(bP g n).2=0 then eg n (bP g n).1 else n) g 0
def Ac:Option Nat->Int
 |some i=>(i:Int)
 |none=>-1
def UC{w:J}{s:Sl}{l:List Nd}{d:Nd}(S:GP w s l)(hd:d.P w)(T:yk (xs l))(ho:vF d.x)(ab:∀e∈l,e.x.kids.length<=dD):
  aj U MV #[s.v,d.v] w λr I=>r=ad (.i (Ac (o2 (xs l) d.x)))/\ag w I:=by
 have hn:=h' S;have ac:(xs l).length=l.length:=by simp[xs]
 have W:=T.len;rw[ac]at W;unfold dD at W;have loop:∀(m i:Nat) (h:Nat) (q:J) (e:Nd) (L:List En),e.ks=d.ks->e.x.kids=d.x.kids->i+m=l.length->gE e.x ((xs l).drop i) i=o2 (xs l) d.x->En.g h∈L->O F0 w q L (mN s l d)->
   wv.cu s h e.x.op e.ks e.x.n e.x.m e.x.u e.x.tx e.x.st.k e.x.st.n e.x.st.x (i:Int) q λr I=>r=ad (.i (Ac (o2 (xs l) d.x)))/\ag w I:=by
  intro m;induction m with
  |zero=>
   intro i h q e L F G hi y E j;rw[dw io]at y;exact wv.dQ (aW (aS io) ⟨by rw[<-y];rfl,j.fr⟩)
  |succ m ih=>
   intro i h q e L F G hi y E j;have z:l[i]? =some (l[i]'io):=a0 io;have hx:(xs l).drop i=(l[i]'io).x::(xs l).drop (i+1):=by rw[dy (by omega:i<(xs l).length)];simp[xs]
   rw[hx]at y;generalize l[i]'io=a at z y;have Z:∀b∈[h],En.g b∈L:=by simpa using E
   refine wv.dQ (aU (aQ io) (eE (bf.1 (j.getD 0)) rfl z λp hp _=>j.ae (λK C=>?_) Z));have M:GP K s l:=bf.1 (C.getD 0);have c:=wG M z hp (rfl:((i:Int))=(i:Int));have pe:e.P K:=by show bI K e.ks e.x.kids;rw[F,G];exact C.getD 1
   refine⟨_,_,_,_,_,_,_,_,_,c.c0,c.c1,c.c2,c.c3,c.c4,c.c5,c.c6,c.c7,c.c8,C.av (Iv (a:=a) (b:=e) (M.2 a (aA z)) pe (ab a (aA z))) ?_⟩;rintro _ w6 rfl Q;have A:(if a.x=e.x then some i else gE e.x ((xs l).drop (i+1)) (i+1))=o2 (xs l) d.x:=y;refine⟨_,rfl,aY (λH=>⟨?_,Q.fr⟩) (λH=>?_)⟩
   .rw [af H]at A;rw[<-A];rfl
   .rw [aa H]at A;rw[bp _ io];exact ih (i+1) h w6 e L F G io A E Q
 refine wv.aq ((wP S hd).ax λh w1 B=>B.av (Iw (bf.1 (B.getD 0)) (B.getD 1) T ho) ?_);rintro _ w2 rfl Y;refine⟨_,_,_,_,rfl,Y.ax λb5 w3 N=>aw (λD=>N.ae λq j=>?_) (λD=>N.ae λq j=>?_)⟩
 .exact loop l.length 0 h q ⟨eg d.x (bP (xs l) d.x).1,d.ks⟩ _ rfl rfl io (by unfold o2;rw[af D];rfl) gs j
 .exact loop l.length 0 h q d _ rfl rfl io (by unfold o2;rw[aa D];rfl) gs j
structure GR(w:J)(B:Nat->Prop)(g:List Nx)(s:Sl)(w':J):Prop where
 ex:∃l':List Nd,xs l'=g/\GP w' s l'/\∀b∈(En.gr s l').fp,B b\/w.heap.size<=b
def GR.nil(w:J)(d:Nat->Prop)(w':J):GR w d [] ⟨none,0,0⟩ w':=⟨⟨[],rfl,⟨bo.nil 9 w',gs⟩,λb h=>by
 rcases uc.1 h with e|⟨k,j,_⟩
 .cases e
 .cases j⟩⟩
def IQ{w:J}{s:Sl}{l:List Nd}{d:Nd}(ac:GP w s l)(hd:d.P w)(Q:yk (xs l))(F:vF d.x)(ap:∀h∈l,h.x.kids.length<=dD):
  aj U MR #[s.v,d.v] w λr w'=>(∃q:Sl,r=ad (.tuple #[q.v,.i (bj (xs l) d.x).2.1,.i (bj (xs l) d.x).2.2])/\GR w (λb=>b∈(En.gr s l).fp\/b∈(cv d).fp) (bj (xs l) d.x).1 q w')/\ag w w':=by
 have hn:=h' ac;have ah:(xs l).length=l.length:=by simp[xs]
 refine JX.aq ((wP ac hd).ax λb3 w1 K=>K.av (Iw (bf.1 (K.getD 0)) (K.getD 1) Q F) ?_);rintro _ w2 rfl H2;refine⟨_,_,_,_,rfl,H2.ax λb7 w3 Z=>cz (λI=>Z.ae λw4 C=>⟨⟨⟨none,0,0⟩,?_,?_⟩,C.fr⟩) (λI=>Z.ae λw4 C=>?_)⟩
 .unfold bj;rw[af I]
 .unfold bj;rw[af I];exact GR.nil _ _ _
 have hs:bP (xs l) d.x=((bP (xs l) d.x).1,0):=by rw[<-I]
 have az:=El hs;have ar:o2 (xs l) (eg d.x (bP (xs l) d.x).1)=gE (eg d.x (bP (xs l) d.x).1) (xs l) 0:=by unfold o2;rw[az];rfl
 have e:bj (xs l) d.x=match gE (eg d.x (bP (xs l) d.x).1) (xs l) 0 with
   |some i=>(xs l,(i:Int),0)
   |none=>if 4096<=(xs l).length then([],0,4)else(xs l++[eg d.x (bP (xs l) d.x).1],((xs l).length:Int),0):=by unfold bj;rw[aa io];try rfl
 generalize aB:(bP (xs l) d.x).1=sr at *
 let h:Nd:=⟨eg d.x sr,d.ks⟩
 have aw:vF h.x:=⟨F.kl,F.n,F.m,F.tx⟩;refine C.av (UC (d:=h) (bf.1 (C.getD 0)) (C.getD 1) Q aw ap) ?_;rintro _ w5 rfl D;rw[show o2 (xs l) h.x=gE (eg d.x sr) (xs l) 0 from ar];refine⟨_,rfl,?_⟩;cases hi:gE (eg d.x sr) (xs l) 0 with
 |some i=>
  rw[hi]at e;rw[e];exact aU (aQ (Int.natCast_nonneg i)) ⟨⟨s,rfl,⟨l,rfl,bf.1 (D.getD 0),λb B=>.inl (.inl B)⟩⟩,D.fr⟩
 |none=>
  rw[hi]at e;dsimp only at e;refine aW dl ?_;refine aY (λh4=>⟨⟨⟨none,0,0⟩,?_,?_⟩,D.fr⟩) (λh4=>?_)
  .rw [e,af io]
  .rw [e,af io];exact GR.nil _ _ _
  rw[aa io]at e;rw[e];have N:∀{k:J} {L:List En},O F0 w k L (mN s l d)->bo 9 k s (l.flatMap Nd.c):=λan=>(bf.1 (an.getD 0)).1;have fin:∀(q:Sl) (k:J) (L:List En) (j:Nat),O F0 w k L (mN s l d)->L[j]? =some (.row bW 9 q (l.flatMap Nd.c++h.c))->
    (∃am:Sl,Ending.returned (.tuple #[q.v,.i (s.n:Int),.i 0])=ad (.tuple #[am.v,.i ((xs l).length:Int),.i 0])/\GR w (λb=>b∈(En.gr s l).fp\/b∈(cv d).fp) (xs l++[eg d.x sr]) am k)/\ag w k:=by
   intro q k L j y hj;have ay:bo 9 k q ((l++[h]).flatMap Nd.c):=by have:aL k bW 9 q (l.flatMap Nd.c++h.c):=y.get j hj;have:=this.a2;simpa using this
   refine⟨⟨q,by rw[ah,hn],⟨l++[h],by simp[xs,h],⟨ay,λa e=>?_⟩,λb B=>?_⟩⟩,y.fr⟩
   .rcases aK.1 e with e|e
    .exact (bf.1 (y.getD 0)).2 a e
    .simp only[aF,a5,a9]at e;subst e;exact y.getD 1
   .rcases uc.1 B with B|⟨a,e,B⟩
    .right;have ao:b∈(En.row bW 9 q (l.flatMap Nd.c++h.c)).fp:=by
      have:b∈(if(l++[h]).flatMap Nd.c=[]then[]else aR q):=B;split at this
      .cases this
      .exact this
     exact(y.new _ (aA hj) b ao).resolve_right id
    .rcases aK.1 e with e|e
     .exact .inl (.inl (uc.2 (.inr ⟨a,e,B⟩)))
     .simp only[aF,a5,a9]at e;subst e;exact .inl (.inr B)
  have ak:∀u∈h.c,u.oneCell'=true:=λu hu=>rX (l:=[h]) u (by simpa using hu);have hl:=Q.len;rw[ah]at hl;unfold dD at hl;refine⟨D.ae λk y=>y.e3 (n:=0) (sz:=9) (cs:=[]) rfl dl λW E=>⟨?_,?_⟩,D.ae λk y=>y.nw λW _ E=>E.e3 (n:=0) (sz:=9) (cs:=[]) rfl dl λw8 A=>?_⟩
  .refine E.eD 2 nY (s:=⟨some (ab k.heap.size),0,0⟩) (src:=s) rfl (N E) rX (by simp only;omega) (λs1 w8 A=>?_);have G:=(A.get 2:aL _ _ _ _ _).len;rw[uS,Nd.hL]at G;refine A.jn 2 nY rfl (λH Y z=>?_) io;exact fin H Y _ 2 z rfl
  .refine E.nw λw8 _ A=>?_;refine A.eD 2 nY (s:=⟨some (ab k.heap.size),0,0⟩) (src:=s) rfl (N A) rX (by simp only;omega) (λs1 Y z=>?_);have G:=(z.get 2:aL _ _ _ _ _).len;rw[uS,Nd.hL]at G;refine z.eD 2 nY (src:=⟨some (ab W.heap.size),1,1⟩) rfl (vU (cs:=h.c) (T:=bW) (z.ob 3) rfl) ak (by simp only;omega) (λH S M=>?_);exact fin H S _ 2 M rfl
  .refine A.eD 3 nY (s:=⟨some (ab W.heap.size),0,0⟩) (src:=s) rfl (N A) rX (by simp only;omega) (λs1 Y z=>?_);have G:=(z.get 3:aL _ _ _ _ _).len;rw[uS,Nd.hL]at G;refine z.eD 3 nY (src:=⟨some (ab k.heap.size),1,1⟩) rfl (vU (cs:=h.c) (T:=bW) (z.ob 2) rfl) ak (by simp only;omega) (λH S M=>?_);exact fin H S _ 3 M rfl
structure jl(T:List aG):Prop where
 e:∃l t,T=l++[t]/\t.kind=6/\∀x∈l,x.kind≠6
 k:∀t∈T,0<=t.kind/\t.kind<=6
 i:∀t∈T,t.kind=4->1<=t.text.length/\t.text.length<=13/\j8 10 t.text
 n:∀t∈T,t.kind=3->∃d,(t.text=35::98::d/\1<=d.length/\d.length<=64/\j8 2 d)\/(t.text=35::120::d/\1<=d.length/\d.length<=16/\j8 16 d)
 l:T.length<=100000
 x:∀t∈T,t.text.length<=65536/\t.aT<=65536
def qH{T:List aG}{p:Nat}(d:p<T.length):aO T p∈T/\T[p]? =some (aO T p):=by unfold aO;rw[List.getD_eq_getElem?_getD,a0 d];exact⟨List.getElem_mem d,rfl⟩
def jl.nx{T:List aG}(H:jl T){p:Nat}(q:p<T.length)(h:(aO T p).kind≠6):p+1<T.length:=by
 obtain⟨l,t,d,k,_⟩:=H.e;have w:T.length=l.length+1:=by rw[d];simp
 by_cases j:p=l.length
 .have:aO T p=t:=by unfold aO;rw[d,j,List.getD_eq_getElem?_getD,List.getElem?_append_right (bm _),Nat.sub_self];rfl
  rw[this]at h;exact absurd k h
 .omega
def cU{α β:Type}{x:PR α}{f:α->aJ->PR β}{b:β}{s:aJ}(d:x.b f=.ok b s):∃a t,x=.ok a t/\f a t=.ok b s:=by
 cases x with
 |ok a t=>exact⟨a,t,rfl,d⟩
 |er e p=>cases d
def rY{T:List aG}{k:Int}{s e:aJ}{t:aG}(d:bL T k s=.ok t e):t=aO T s.p/\t.kind=k/\e=cS t s:=by
 unfold bL at d;split at d
 .rename_i h;cases d;exact⟨rfl,h,rfl⟩
 .cases d
structure Mv(T:List aG)(s s':aJ):Prop where
 p:s.p<s'.p
 l:s'.p<T.length
 t:s'.tm=s.tm
 g:s'.g=s.g
def Mv.tr{T:List aG}{a b c:aJ}(e:Mv T a b)(d:Mv T b c):Mv T a c:=⟨by have:=e.p;have:=d.p;omega,d.l,by rw[d.t,e.t],by rw[d.g,e.g]⟩
def tc{T:List aG}(H:jl T){s:aJ}(e:s.p<T.length)(d:(aO T s.p).kind≠6):Mv T s (cS (aO T s.p) s):=by unfold cS;rw[aa d];exact⟨Nat.lt_succ_self _,H.nx e d,rfl,rfl⟩
def ew{T:List aG}(H:jl T){k:Int}{s e:aJ}{t:aG}(x:s.p<T.length)(w:k≠6)(h:bL T k s=.ok t e):Mv T s e:=by obtain⟨j,d,q⟩:=rY h;subst q;rw[j]at d ⊢;exact tc H x (by rw[d];exact w)
def k7{T:List aG}(H:jl T){s d:aJ}{n:Int}(k:s.p<T.length)(e:dg T s=.ok n d):Mv T s d/\0<=n:=by obtain⟨t,q,h,j⟩:=cU e;cases j;exact⟨ew H k dl h,Int.natCast_nonneg _⟩
def u'{T:List aG}(H:jl T){s A:aJ}{z:aP}(M:s.p<T.length)(C:iE T s=.ok z A):Mv T s A/\bw z=true:=by
 obtain⟨t,Q,D,E⟩:=cU C;obtain⟨W,B,F,j⟩:=cU E;have w:=ew H M dl D;have d:=w.tr (ew H w.l dl F);split at j
 .cases j
 .obtain ⟨Y,s3,k,G⟩:=cU j;obtain⟨n,S,I,K⟩:=cU G;obtain⟨_,P,L,h⟩:=cU K;have x:s3.p<T.length/\(s3=B\/Mv T B s3):=by
   split at k
   .have:=(k7 H d.l k).1;exact⟨this.l,.inr this⟩
   .cases k;exact⟨d.l,.inl rfl⟩
  have y:=(k7 H x.1 I).1;have q:=y.tr (ew H y.l dl L);have O:Mv T s P:=by
   rcases x.2 with e|e
   .rw [e]at q;exact d.tr q
   .exact (d.tr e).tr q
  split at h
  .rename_i N;cases h;exact⟨O,N⟩
  .cases h
def aaE{T:List aG}(H:jl T){s e:aJ}{r:List UInt8}(k:s.p<T.length)(h:qB T s=.ok r e):Mv T s e:=by
 obtain⟨t,q,j,d⟩:=cU h;split at d
 .cases d;exact ew H k dl j
 .cases d
structure jN(T:List aG)(s s':aJ):Prop where
 l:s'.p<T.length
 p:s.p<=s'.p
 t:s.tm<=s'.tm/\s'.tm<=65536
 g:∃r,s'.g=s.g++r
 v:Vg s'.g
def jN.tr{T:List aG}{a b c:aJ}(e:jN T a b)(d:jN T b c):jN T a c:=⟨d.l,bD e.p d.p,⟨bD e.t.1 d.t.1,d.t.2⟩,by
 obtain⟨r,h⟩:=e.g;obtain⟨k,j⟩:=d.g;exact⟨r++k,by rw[j,h,List.append_assoc]⟩,d.v⟩
def jN.len{T:List aG}{a b:aJ}(e:jN T a b):a.g.length<=b.g.length:=by obtain⟨r,d⟩:=e.g;rw[d,bb];omega
def Mv.go{T:List aG}{s e:aJ}(d:Mv T s e)(h:s.tm<=65536)(j:Vg s.g):jN T s e:=⟨d.l,Nat.le_of_lt d.p,by rw[d.t];exact⟨bm _,h⟩,⟨[],by rw[d.g,bU]⟩,by rw[d.g];exact j⟩
def Qg{n:Nx}:∀{g:List Nx} {i k:Nat},gE n g i=some k->k<i+g.length
 |[],i,k,d=>by cases d
 |e::g,i,k,d=>by
  unfold gE at d;split at d
  .cases d;simp
  .have:=Qg d;rw[bx];omega
def vO{T:List aG}{s q:aJ}{n:Nx}{t:aG}{k:Nat}(y:Vg s.g)(w:s.p<T.length)(x:s.tm<=65536)(j:eC s n t=.ok k q):jN T s q/\k<q.g.length:=by
 unfold eC at j;split at j
 .rename_i d;cases j;unfold bj at d ⊢;split at d
  .rename_i e;exact absurd d e
  .rename_i e;rw[aa e];split at d
   .rename_i i h;try rw[h]
    refine⟨⟨w,bm _,⟨bm _,x⟩,⟨[],(bU _).symm⟩,y⟩,?_⟩;have:=Qg h;show(i:Int).toNat<s.g.length;omega
   .rename_i h;try rw[h]
    split at d
    .cases d
    .rename_i z;rw[aa z];refine⟨⟨w,bm _,⟨bm _,x⟩,⟨_,rfl⟩,?_⟩,by show((s.g.length:Int)).toNat<(s.g++[_]).length;simp⟩;have e:(bP s.g n).2=0:=Classical.byContradiction e;exact .snoc y (El (by rw[<-e])) (DW h)
 .cases j
structure eX(E:b3)(g:List Nx):Prop where
 T:jl E.T
 vs:∀q∈E.vs,q.2<g.length
 pm:∀q∈E.pm,q.2<g.length
 ms:∀q∈E.ms,q.2.ix<E.ms.length/\q.2.b<E.T.length/\(q.2.ps.map (·.1)).Nodup/\q.2.ps.length<=100000
def eX.up{E:b3}{g j:List Nx}(d:eX E g)(k:g.length<=j.length):eX E j:=⟨d.T,λh e=>sT (d.vs h e) k,λh e=>sT (d.pm h e) k,d.ms⟩
def eX.deep{E:b3}{g:List Nx}(d:eX E g):eX {E with dp:=E.dp+1} g:=⟨d.T,d.vs,d.pm,d.ms⟩
def ky{α:Type}:∀{l:List (List UInt8×α)} {t:List UInt8} {v:α},lk l t=some v->(t,v)∈l
 |[],_,_,d=>by cases d
 |(h,v)::l,t,u,d=>by
  unfold lk at d;split at d
  .rename_i e;cases d;rw[e];exact List.mem_cons_self
  .exact cJ _ (ky d)
def YE{E:b3}{w:List UInt8}{m:PM}(d:iA E w=some m):lk E.ms w=some m/\m.ix<E.kn:=by
 unfold iA at d;split at d
 .split at d
  .cases d;exact⟨by assumption,by assumption⟩
  .cases d
 .cases d
def kX(E:b3)(tm:aJ->PR Nat)(p0:Nat):Prop:=∀s n d,p0<=s.p->s.p<E.T.length->s.tm<=65536->Vg s.g->eX E s.g->tm s=.ok n d->jN E.T s d/\s.p<d.p/\n<d.g.length
def zk{E:b3}{tm:aJ->PR Nat}{p0:Nat}(B:kX E tm p0):∀(k:Nat) (s:aJ) (l:List Int) (h:aJ),p0<=s.p->s.p<E.T.length->s.tm<=65536->Vg s.g->eX E s.g->gF tm k s=.ok l h->jN E.T s h/\l.length=k/\∀j∈l,0<=j/\j<(h.g.length:Int)
 |0,s,l,h,_,w,x,y,_,q=>by cases q;exact⟨⟨w,bm _,⟨bm _,x⟩,⟨[],(bU _).symm⟩,y⟩,rfl,λj e=>by cases e⟩
 |k+1,s,l,h,D,w,x,y,A,q=>by
  obtain⟨a,C,F,G⟩:=cU q;obtain⟨K,P,H,I⟩:=cU G;cases I;obtain⟨d,O,N⟩:=B s a C D w x y A F;obtain⟨z,M,L⟩:=zk B k C K _ io d.l d.t.2 d.v (A.up d.len) H;refine⟨d.tr z,by rw[bx,M],λj e=>?_⟩;have:=z.len;rcases aF.1 e with rfl|e
  .omega
  .exact L j e
def KH{T:List aG}(H:jl T){w:List UInt8}{s y:aJ}{z:Nx×Nat}(j:s.p<T.length)(e:iy T w s=.ok z y):Mv T s y\/y=s:=by
 unfold iy at e;split at e
 .obtain ⟨u,k,d,h⟩:=cU e;obtain⟨n,A,q,x⟩:=cU h;cases x;have m:=(k7 H j d).1;exact .inl (m.tr (k7 H m.l q).1)
 split at e
 .obtain ⟨u,k,d,h⟩:=cU e;cases h;exact .inl (u' H j d).1
 split at e
 .obtain ⟨u,k,d,h⟩:=cU e;obtain⟨n,A,q,x⟩:=cU h;cases x;have m:=(k7 H j d).1;exact .inl (m.tr (k7 H m.l q).1)
 split at e
 .obtain ⟨u,k,d,h⟩:=cU e;cases h;exact .inl (k7 H j d).1
 split at e
 .obtain ⟨u,k,d,h⟩:=cU e;cases h;exact .inl (k7 H j d).1
 split at e
 .obtain ⟨u,k,d,h⟩:=cU e;cases h;exact .inl (k7 H j d).1
 split at e
 .obtain ⟨u,k,d,h⟩:=cU e;cases h;exact .inl (aaE H j d)
 .cases e;exact .inr rfl
def O1{E:b3}{tm:aJ->PR Nat}{p0:Nat}(q:kX E tm p0){w:List UInt8}{s y:aJ}{n:Nx}(A:p0<=s.p)(k:s.p<E.T.length)(h:s.tm<=65536)(x:Vg s.g)(e:eX E s.g)(z:iC E.T tm w s=.ok n y):jN E.T s y:=by
 obtain⟨F,H,B,C⟩:=cU z;obtain⟨G,I,j,D⟩:=cU C;cases D;rcases KH e.T k B with m|rfl
 .have d:=m.go h x;exact d.tr (zk q _ _ _ _ (by have:=m.p;omega) m.l (by rw[m.t];exact h) d.v (e.up d.len) j).1
 .exact (zk q _ _ _ _ A k h x e j).1
def Cj{g:List Nx}:∀{ps:List (List UInt8×aP)} {az:List Int},(∀h∈az,0<=h/\h<(g.length:Int))->∀e∈iU ps az,e.2<g.length
 |[],_,_,e,d=>by cases d
 |(p,_)::ps,[],_,e,d=>by cases d
 |(p,_)::ps,a::az,j,e,d=>by
  have d:e∈(p,a.toNat)::iU ps az:=d;rcases aF.1 d with rfl|d
  .have:=j a List.mem_cons_self;show a.toNat<g.length;omega
  .exact Cj (λh k=>j h (cJ _ k)) e d
def Il{tm:b3->aJ->PR Nat}{E:b3}{p0:Nat}(H:∀d,d.T=E.T->d.ms=E.ms->d.kn<E.kn->kX d (tm d) 0){m:PM}{w:List UInt8}(F:iA E w=some m){az:List Int}{s h:aJ}{n:Nat}(G:s.p<E.T.length)(I:s.tm<=65536)(K:Vg s.g)(e:eX E s.g)(A:∀q∈az,0<=q/\q<(s.g.length:Int))(x:h4 tm E m az s=.ok n h):jN E.T s h/\n<h.g.length/\h.p=s.p:=by obtain⟨D,C⟩:=YE F;obtain⟨k,L,y,z⟩:=cU x;cases z;have B:=e.ms _ (ky D);obtain⟨j,_,k⟩:=H {E with pm:=iU m.ps az,kn:=m.ix} rfl rfl C {s with p:=m.b} n L (di _) B.2.1 I K ⟨e.T,e.vs,Cj A,e.ms⟩ y;exact⟨⟨G,bm _,j.t,j.g,j.v⟩,k,rfl⟩
def acz{tm:b3->aJ->PR Nat}{E:b3}{s:aJ}(P:∀j,j.T=E.T->j.ms=E.ms->j.vs=E.vs->j.kn=E.kn->kX j (tm j) (s.p+1))(O:∀j,j.T=E.T->j.ms=E.ms->j.kn<E.kn->kX j (tm j) 0){n:Nat}{C:aJ}(Q:s.p<E.T.length)(ah:s.tm<=65536)(hv:Vg s.g)(x:eX E s.g)(d:jd tm E s=.ok n C):jN E.T s C/\s.p<C.p/\n<C.g.length:=by
 unfold jd at d;dsimp only at d;split at d
 .cases d
 rename_i B;have w:(aO E.T s.p).kind≠6:=λac=>B (.inr (.inr ac));split at d
 .cases d
 rename_i ag;have Y:=tc x.T Q w;obtain⟨y,A⟩:∃y:aJ,y={cS (aO E.T s.p) s with tm:=s.tm+1}:=⟨_,rfl⟩;have p1:y.p=s.p+1:=by rw[A];unfold cS;rw[aa w]
 have D:y.g=s.g:=by rw[A];exact Y.g
 have t1:y.tm=s.tm+1:=by rw[A]
 have e:jN E.T s y:=⟨by rw[p1];exact x.T.nx Q w,io,io,⟨[],by rw[D,bU]⟩,by rw[D];exact hv⟩;rw[<-A]at d;clear A Y;have I:eX E y.g:=by rw[D];exact x
 split at d
 .
  unfold k9 at d;split at d
  .rename_i af B;cases d;exact⟨e,io,I.pm _ (ky B)⟩
  split at d
  .rename_i af B;cases d;exact⟨e,io,I.vs _ (ky B)⟩
  split at d
  .rename_i m L;split at d
   .obtain ⟨a,b,c⟩:=Il (p0:=0) O L e.l e.t.2 e.v I (λab M=>by cases M) d;exact⟨e.tr a,io,b⟩
   .cases d
  .cases d
 split at d
 .obtain ⟨a,b⟩:=vO e.v e.l e.t.2 d;exact⟨e.tr a,by have:=a.p;omega,b⟩
 split at d
 .obtain ⟨a,b⟩:=vO e.v e.l e.t.2 d;exact⟨e.tr a,by have:=a.p;omega,b⟩
 unfold mz at d;split at d
 .cases d
 obtain⟨ak,Z,h1,z⟩:=cU d;have W:=ew x.T e.l dl h1;have q:=e.tr (W.go e.t.2 e.v);have K:eX {E with dp:=E.dp+1} Z.g:=(x.up q.len).deep;have S:s.p+1<=Z.p:=by have:=W.p;omega
 split at z
 .obtain ⟨nd,s3,F,G⟩:=cU z;obtain⟨_,s4,H,w⟩:=cU G;have k:=O1 (E:={E with dp:=E.dp+1}) (P {E with dp:=E.dp+1} rfl rfl rfl rfl) S q.l q.t.2 q.v K F;have N:=ew x.T k.l dl H;have h:=N.go k.t.2 k.v;obtain⟨a,b⟩:=vO h.v h.l h.t.2 w;refine⟨q.tr (k.tr (h.tr a)),?_,b⟩;have:=k.p;have:=h.p;have:=a.p;omega
 .unfold p9 at z;split at z
  .cases z
  rename_i m L;obtain⟨az,s3,F,G⟩:=cU z;obtain⟨_,s4,H,w⟩:=cU G;obtain⟨k,hlen,ae⟩:=zk (E:={E with dp:=E.dp+1}) (P {E with dp:=E.dp+1} rfl rfl rfl rfl) _ _ _ _ S q.l q.t.2 q.v K F;have N:=ew x.T k.l dl H;have h:=N.go k.t.2 k.v;split at w
  .obtain ⟨a,b,c⟩:=Il (p0:=0) (E:={E with dp:=E.dp+1}) O L h.l h.t.2 h.v ((K.up k.len).up h.len) (λab M=>by have:=ae ab M;have:=h.len;omega) w;refine⟨q.tr (k.tr (h.tr a)),?_,b⟩;have:=k.p;have:=h.p;omega
  .cases w
def xU:∀(f:Nat) (E:b3),kX E (dO f E) 0
 |0,E=>λs n h _ _ _ _ _ e=>by cases e
 |f+1,E=>λs n h _ k q w j e=>acz (λd _ _ _ _=>λs n h _=>xU f d s n h (di _)) (λd _ _ _=>xU f d) k q w j e
namespace PA
def ok:=aC (ay U Tryz.f39 [] []) ND []
end PA
namespace uI
def cu:=bu (ay U Tryz.f18 [(1,(.sq [0,1] (.fork (.sq [2] (.fork (ls [3,4,5,6,7]) (ls [4,3,5,6,7]))) (.fork (.sq [3] (.fork (ls [2,4,5,6,7]) (ls [4,2,5,6,7]))) (.sq [4] (.fork (ls [2,3,5,6,7]) (ls [3,2,5,6,7]))))))),(5,lr 12)] [3]) [0,1,1,1,2] [(3,.l [.s] mZ),(5,.r),(16,.s),(17,.I),(18,.I)]
abbrev t1:=bt cu
def dQ:=bF t1 cu
abbrev a1:=ah t1 [2] [(3,.l [.s] mZ),(5,.r)]
abbrev t2:=ak a1
def aq:=aC t2 NC [.s,.a 1,.s]
end uI
namespace PG
abbrev a1:=ah (ay U Tryz.f78 [] [5]) [0,1,1,1,1,1,1] []
abbrev t1:=ak a1
abbrev bh:=ah t1 [2] [(0,.r),(1,.st)]
abbrev t2:=ak bh
def aq:=aC t2 NG [.r,.st]
end PG
namespace PD
def aq:=aC (ay U Tryz.f60 [] [5] (some [])) jz [.r,.I,.a 3,.I,.st,.I]
end PD
namespace PL
abbrev a1:=ah (ay U Tryz.f42 [(1,lr 12)] [2,3]) [3] [(2,.l [.I,.st,.I] db),(3,.l [.I,.st,.I] db)]
abbrev t1:=ak a1
def aq:=aC t1 NI [.r]
end PL
namespace PO
abbrev a1:=ah (ay U Tryz.f44 [] [3] (some [jz])) [2] [(0,.r),(3,.l [.I,.st,.I] db)]
abbrev t1:=ak a1
def aq:=aC t1 pe [.r,.a 3,.I,.st,.I]
end PO
namespace PJ
abbrev a1:=ah (ay U Tryz.f55 [] [4,5] (some [pe])) [3] [(4,.l [.I,.st,.I] db),(5,.l [.I,.st,.I] db)]
abbrev t1:=ak a1
def aq:=aC t1 mM [.r,.I]
end PJ
namespace PF
abbrev a1:=ah (ay U Tryz.f59 [] [3] (some [mM,jz])) [4] [(4,.I)]
abbrev t1:=ak a1
def aq:=aC t1 qo [.r]
end PF
namespace xi
abbrev cF:=ah (ay U Tryz.f76 [] [2,3,4,5] (some [pe,mM,qo,jz])) [9] [(2,.l [.I,.I,.I] cb),(5,.l [.I,.I,.I] cb)]
abbrev t1:=ak cF
abbrev P0:Ps:=[(0,.r),(2,.l [.I,.I,.I] cb),(3,.l [.I,.st,.I] db),(5,.l [.I,.I,.I] cb)]
abbrev bC:=ah t1 [6] P0
abbrev t2:=ak bC
abbrev bh:=ah t2 [0,1,1,1,5] P0
abbrev t3:=ak bh
abbrev a1:=ah t3 [5] P0
abbrev t4:=ak a1
def aq:=aC t4 w6 [.r]
end xi
namespace FT
abbrev bh:=ah (ay U Tryz.f77 [(1,(.sq [0,1,2,3,4] (.fork (ls [5,6,7,8,9,10,11,12,13]) (ls [10,5,6,7,8,9,11,12,13]))))] [4,5,7] (some [jz])) [3] [(0,.r),(7,.l [.s] mZ),(8,.I)]
abbrev t1:=ak bh
abbrev a1:=ah t1 [2] [(0,.r),(5,.l [.I,.st,.I] db),(7,.l [.s] mZ),(8,.I),(9,.I)]
abbrev t2:=ak a1
def aq:=aC t2 uu [.r,.a 9,.I,.s,.I,.I,.U,.st,.I,.I,.I,.a 3,.I,.st,.I]
end FT
namespace PI
abbrev bh:=ah (ay U Tryz.f95 [(1,lr 12),(4,lr 12)] [3,9] (some [jz,zN])) [5] [(0,.r),(9,.l [.s,.I,.I] jf)]
abbrev t1:=ak bh
abbrev a1:=ah t1 [0,1,1,1,4] [(0,.r),(3,.l [.I,.st,.I] db),(9,.l [.s,.I,.I] jf)]
abbrev t2:=ak a1
def aq:=aC t2 EV [.r,.a 3,.I,.st,.I]
end PI
namespace FV
abbrev bh:=ah (ay U Tryz.f96 [] [3] (some [jz,uu])) [5] [(0,.r),(3,.l [.I,.st,.I] db),(6,.I),(7,.U)]
abbrev t1:=ak bh
abbrev a1:=ah t1 [3] [(0,.r),(3,.l [.I,.st,.I] db),(5,.I),(6,.I)]
abbrev t2:=ak a1
def aq:=aC t2 EX [.r,.a 3,.I,.st,.I]
end FV
namespace Ak
abbrev bC:=ah (ay U Tryz.f138 [] [3,4] (some [mM,jz])) [7] [(7,.st)]
abbrev t1:=ak bC
abbrev bh:=ah t1 [6] [(0,.r),(3,.l [.I,.st,.I] db),(6,.I),(7,.st)]
abbrev t2:=ak bh
abbrev a1:=ah t2 [4] [(0,.r),(3,.l [.I,.st,.I] db),(4,.l [.I,.Y,.Y,.s] aV),(6,.I)]
abbrev t3:=ak a1
def aq:=aC t3 EY [.r]
end Ak
namespace PH
def aq:=aC (ay U Tryz.f115 [(2,lr 13)] [4,6]) NH [.r,.st]
end PH
namespace r9
def cu:=bu (ay U Tryz.f116 [(1,lr 15),(2,(.sq [0,1,2,3,4,6,7,8,9] (.fork (ls [5,10,11,12,13,14,15,16]) (ls [10,5,11,12,13,14,15,16])))),(6,lr 11)] [4,11] (some [rR])) [0,1,1,1,3] [(0,.r),(2,.s),(7,.I),(8,.m),(9,.I),(40,.s),(41,.I),(42,.I)]
abbrev t1:=bt cu
def dQ:=bF t1 cu
abbrev a1:=ah t1 [3] [(0,.r),(2,.s),(4,.l [.s,.I,.I] jf),(7,.I),(8,.m),(9,.I)]
abbrev t2:=ak a1
def aq:=aC t2 zN [.r,.a 3,.s,.I,.I,.s]
end r9
namespace po
def cu:=bu (ay U Tryz.f119 [(14,lr 15)] [4,5,7,12] (some [mM,jz,rR,zN])) [0,1,1,1,4] [(0,.r),(4,.l [.I,.st,.I] db),(7,.l [.s,.I,.I] jf),(9,.s),(30,.I),(31,.I)]
abbrev t1:=bt cu
abbrev P0:Ps:=[(0,.r),(4,.l [.I,.st,.I] db),(7,.l [.s,.I,.I] jf),(9,.s),(43,.s),(44,.I),(45,.I)]
def lG:=bu t1 [0,1,1,1,6] P0
abbrev t2:=bt lG
abbrev cF:=ah t2 [3,2,1,1,6] P0
abbrev t3:=ak cF
def pS:=bF t3 lG
def dQ:=bF t3 cu
abbrev a1:=ah t3 [3] [(0,.r),(4,.l [.I,.st,.I] db),(7,.l [.s,.I,.I] jf)]
abbrev t4:=ak a1
def aq:=aC t4 EO [.r,.a 3,.I,.st,.I,.a 3,.I,.st,.I]
end po
namespace uK
def cu:=bu (ay U Tryz.f118 [(4,lr 17),(32,lr 8)] [4,5] (some [qo,w6,rR,EY])) [0,1,1,1,4] [(0,.r),(4,.l [.I,.s,.I,.I,.U,.st,.I,.I,.I] bW),(5,.l [.I,.s,.I,.I,.U,.st,.I,.I,.I] bW),(74,.I),(75,.I)]
abbrev t1:=bt cu
def dQ:=bF t1 cu
abbrev a1:=ah t1 [4] [(0,.r),(4,.l [.I,.s,.I,.I,.U,.st,.I,.I,.I] bW),(5,.l [.I,.s,.I,.I,.U,.st,.I,.I,.I] bW),(6,.I)]
abbrev t2:=ak a1
def aq:=aC t2 EW [.r,.st]
end uK
namespace FU
abbrev bh:=ah (ay U Tryz.f97 [] [3,6,7] (some [mM,jz,uu,EW,EO])) [6] [(0,.r),(5,.I)]
abbrev t1:=ak bh
abbrev a1:=ah t1 [2] [(0,.r),(3,.l [.I,.st,.I] db)]
abbrev t2:=ak a1
def aq:=aC t2 ER [.r,.a 3,.I,.st,.I]
end FU
namespace Am
abbrev P0:Ps:=[(0,.r),(3,.l [.I,.st,.I] db)]
abbrev bh:=ah (ay U Tryz.f81 [] [3] (some [pe,jz,uu,EV,EX,ER])) [4] P0
abbrev t1:=ak bh
abbrev a1:=ah t1 [3] P0
abbrev t2:=ak a1
abbrev bC:=ah t2 [2,1,1,1,2] P0
abbrev t3:=ak bC
def aq:=aC t3 rR [.r]
end Am
namespace Al
def a4:=bu (ay U Tryz.f20 [] [2] (some [EP,pe])) [0,1] [(0,.r)]
abbrev t1:=bt a4
def bR:=bF t1 a4
def aq:=aC t1 EZ [.r]
end Al
namespace uJ
abbrev P0:Ps:=[(0,.r),(3,.l [.I,.st,.I,.I,.I,.I,.I] jK)]
abbrev bC:=ah (ay U Tryz.f43 [(24,lr 12),(29,lr 11)] [2,3,4] (some [pe,mM,ES,ET,E1,qo,jz])) [3] P0
abbrev t1:=ak bC
abbrev bh:=ah t1 [2,1,5,1,1,1,2] P0
abbrev t2:=ak bh
abbrev a1:=ah t2 [0,1,5,1,1,1,2] [(0,.r),(2,.l [.I,.st,.I] db),(3,.l [.I,.st,.I,.I,.I,.I,.I] jK)]
abbrev t3:=ak a1
abbrev cF:=ah t3 [6,1,1,1,2] [(0,.r),(2,.l [.I,.st,.I] db),(3,.l [.I,.st,.I,.I,.I,.I,.I] jK),(9,.st)]
abbrev t4:=ak cF
def aq:=aC t4 EP [.r]
end uJ
namespace PN
abbrev a1:=ah (ay U Tryz.f58 [(1,lr 12)] [3] (some [jz,rR])) [4] [(4,.I)]
abbrev t1:=ak a1
def aq:=aC t1 E1 [.r]
end PN
namespace PK
abbrev bh:=ah (ay U Tryz.f75 [(2,lr 12),(3,lr 13)] [2,3,6] (some [mM,jz])) [5] [(2,.l [.I,.st,.I] db),(3,.l [.I,.st,.I] db)]
abbrev t1:=ak bh
abbrev a1:=ah t1 [0,1,1,1,4] [(0,.r),(2,.l [.I,.st,.I] db),(3,.l [.I,.st,.I] db)]
abbrev t2:=ak a1
def aq:=aC t2 zO [.r]
end PK
namespace PB
def aq:=aC (ay U Tryz.f56 [(6,lr 14)] [3,5] (some [mM,zO,w6,uu])) ES [.r,.a 3,.I,.st,.I]
end PB
namespace Aj
abbrev P0:Ps:=[(0,.r),(1,.r),(2,.m)]
def a4:=bu (ay U Tryz.f79 [(9,lr 11)] [3,4] (some [pe,mM,jz,w6])) [0,1,1] P0
abbrev t1:=bt a4
abbrev bC:=ah t1 [5,3,1] [(0,.r),(1,.r),(2,.m),(4,.l [.I,.st,.I] db)]
abbrev t2:=ak bC
abbrev bh:=ah t2 [3,3,1] P0
abbrev t3:=ak bh
def bR:=bF t3 a4
def aq:=aC t3 EU [.r,.r]
end Aj
namespace PC
abbrev a1:=ah (ay U Tryz.f57 [(11,lr 8)] [2] (some [mM,jz,zO,EU,E0])) [4] [(1,.r),(2,.l [.I,.st,.I] db)]
abbrev t1:=ak a1
def aq:=aC t1 ET [.r]
end PC
namespace uL
abbrev P0:Ps:=[(0,.r),(2,.I)]
def a4:=bu (ay U Tryz.f80 [] [3] (some [pe])) [0,1,1] P0
abbrev t1:=bt a4
abbrev bh:=ah t1 [2,3,1] P0
abbrev t2:=ak bh
abbrev bC:=ah t2 [1,1,3,1,1,1,1,3,1] P0
abbrev t3:=ak bC
def bR:=bF t3 a4
def aq:=aC t3 E0 [.r]
end uL
namespace Pz
def aq:=aC (ay U Tryz.f7 [(8,lr 12)] [2]) zM [.st]
end Pz
def zj:List Int:=[0,0,0,0,1,1,2,2,2,2,2,2,2,2,2,2,2,2,2,3,2,1,1,1,2,3,2,1,1,2,3,2,3,1,1]
abbrev dt:En:=.rd ⟨some (ab 3),35,35⟩ (zj.map bE)
def XF{op:Int}(d:0<=op)(e:op<=34):zj[op.toNat]? =some (b6 op):=by rcases uF d e with rfl|rfl|rfl|rfl|rfl|rfl|rfl|rfl|rfl|rfl|rfl|rfl|rfl|rfl|rfl|rfl|rfl|rfl|rfl|rfl|rfl|rfl|rfl|rfl|rfl|rfl|rfl|rfl|rfl|rfl|rfl|rfl|rfl|rfl|rfl<;>rfl
section
variable {M:Nat->Prop} {w0 w:J} {L D:List En} {bs:List Nat}
def _root_.Go.W.O.pE(H:O M w0 w L D)(i a c:Nat){b:Nat}{vs:List V}{T:TypeId}{v:V}{K:J->Prop}(hi:L[i]? =some (.c b vs T))(y:∀j,O M w0 j (L.set i (.c b (vs.set (a+c) v) T)) D->K j)(z:a+c<vs.length:=by simp[gP])(h:∀b∈bs,En.g b∈L:=by simp):
  aM w (((ab b).add a).add c) v λk=>kept bs w k/\K k:=by rw[add_add];obtain⟨A,B,E,C⟩:=AR (H.ob i hi) (a+c) io v;obtain⟨_,_,x⟩:=H.set (v:=v) i (a+c) hi z;refine⟨A,B,λd e=>?_,y _ x⟩;refine C.cD d (H.own _ (h d e)) λq=>?_;have:=zc H hi (Cu w b vs T) (h d e);exact this (by rw[q];exact q9.2 rfl)
def _root_.Go.W.O.hS(H:O M w0 w L D)(i a:Nat){b:Nat}{vs:List V}{T:TypeId}{v:V}{K:J->Prop}(hi:L[i]? =some (.c b vs T))(h:∀d,O M w0 d (L.set i (.c b (vs.set a v) T)) D->K d)(k:a<vs.length:=by simp[gP])(j:∀b∈bs,En.g b∈L:=by simp):
  aM w ((ab b).add a) v λe=>kept bs w e/\K e:=by
 have:=H.pE (v:=v) (K:=K) i a 0 hi h k j
 rwa[jm]at this
end
def abM{g:List Nx}{n:Nx}(d:(b6 n.op==(n.kids.length:Int)&&n.kids.all (dK g)&&fL n)=true)(e:¬n.op<=3):bP g n=if i0 n (bg g n 0) (bg g n 1) (bg g n 2)≠0 then(a6,i0 n (bg g n 0) (bg g n 1) (bg g n 2))else(gM n (bg g n 0) (bg g n 1) (bg g n 2),0):=by
 unfold bP i0;rw[d,aa gs,aa e]
 grind
def X5{g:List Nx}{n:Nx}(d:(cg g n).2≠0):cg g n=(a6,(cg g n).2):=by
 unfold cg at d ⊢
 grind
structure mq(d:Nx):Prop where
 kl:d.kids.length<=1000000000
 n:cO d.n
 m:cO d.m
 u:0<=d.u
 tx:d.op=33->qS d.tx
abbrev v9(a b c:aP):List V:=gP a++gP b++gP c
def nL(g:List Nx)(n:Nx)(i j:Nat):aP:=if j<i then bg g n j else a6
def XQ{g:List Nx}{n:Nx}{j:Nat}(d:n.kids.length<=j):bg g n j=a6:=by
 unfold bg
 grind
def XP{l:List Nd}{n:Nx}{i:Nat}{k:Int}{e:Nd}(h:n.kids[i]? =some k)(d:l[k.toNat]? =some e):bg (xs l) n i=e.x.st:=by
 unfold bg
 grind
def XO{g:List Nx}{n:Nx}(h:∀d∈g,bw d.st=true)(j:Nat):pO (bg g n j):=by
 unfold bg;split
 .split
  .rename_i e;exact ac0 (h _ (aA e))
  .exact OW
 .exact OW
def acu{w:J}{s:Sl}{l:List Nd}{d:Nd}{D:List En}(lk:Fv)(H:O F0 w w [] (.gr s l::cv d::dt::D))(hc:hg U lk.n=true)(hl:∀A:J,(∀e∈D,e.P A)->aj U lk.n (lk.bs++#[.string d.x.tx]++lk.cs) A λr aX=>r=ql (xs l) d.x.tx/\ag A aX)(ho:mq d.x)(a7:l.length<=1000000000)(hv:∀e∈xs l,bw e.st=true):
  aj U Ov #[s.v,d.v,lk.v] w λr A=>r=gO (bP (xs l) d.x)/\ag w A:=by
 have hn:=h' (bf.1 (H.getD 0));have aI:(xs l).length=l.length:=by simp[xs]
 have a4:d.ks.n=d.x.kids.length:=bI.len (H.getD 1);have a3:=ho.kl;refine qG.aq (H.nw λw1 _ H1=>H1.ax λN w2 H2=>H2.ae λQ I=>?_);have y:∀{G:J} {L:List En},O F0 w G (.c w.heap.size d.c bW::L) (.gr s l::cv d::dt::D)->ea G (ab w.heap.size) d:=λH=>OF (H.ob 0);have I:O F0 w Q [.c w.heap.size d.c bW,.g N] (.gr s l::cv d::dt::D):=I;have fail:(b6 d.x.op==(d.x.kids.length:Int)&&d.x.kids.all (dK (xs l))&&fL d.x)=false->∀{G:J} {L:List En} {bs:List Nat},O F0 w G L (.gr s l::cv d::dt::D)->(∀b∈bs,En.g b∈L)->loc bs G λM=>(λr A=>r=gO (bP (xs l) d.x)/\ag w A) (ad (.tuple #[.agg #[.i 0,.i 0,.i 0],.i 1])) M:=λhf _ _ _ B hb=>B.ae (λM C=>⟨by unfold bP;rw[af hf];rfl,C.fr⟩) hb;have kN:∀op:Int,op<0\/34<op->b6 op=-1:=λop aL=>by unfold b6;rw[af aL]
 refine⟨_,(y I).c0,aY (λh0=>fail ?_ I gs) (λh0=>⟨_,(y I).c0,aY (λaM=>fail ?_ I gs) (λaM=>⟨_,(y I).c1,_,(y I).c0,io,by show d.x.op<35;omega,b6 d.x.op,?_,cz (λak=>fail ?_ I gs) (λao=>?_)⟩)⟩)⟩
 .rw [kN _ (.inl h0),beq_eq_false_iff_ne.2 io];rfl
 .rw [kN _ (.inr io),beq_eq_false_iff_ne.2 io];rfl
 .have hk:bI Q ⟨some (ab 3),35,35⟩ zj:=I.getD 2;exact(show W.dv (some (ab 3)) λp=>Q.cell? (p.add (aZ d.x.op *1))=some (.int .i64 (b6 d.x.op))from hk.cell (XF io io) rfl λp _ hc=>hc)
 .rw [beq_eq_false_iff_ne.2 io];rfl
 have aT:(b6 d.x.op==(d.x.kids.length:Int))=true:=by rw[beq_iff_eq];omega
 have a2:d.x.kids.length<=3:=by
  have:b6 d.x.op<=3:=by unfold b6;repeat' split<;>omega
  omega
 refine I.nw λw4 _ H4=>⟨_,(y H4).c1,?_⟩;have loop:∀(m i:Nat) (G:J),i+m=d.x.kids.length->d.x.kids.all (dK (xs l))=(d.x.kids.drop i).all (dK (xs l))->O F0 w G [.c w.heap.size d.c bW,.g N,.c Q.heap.size (v9 (nL (xs l) d.x i 0) (nL (xs l) d.x i 1) (nL (xs l) d.x i 2)) Bi] (.gr s l::cv d::dt::D)->
   qG.cu s lk (ab w.heap.size) N 0 0 0 (ab Q.heap.size) (d.ks.n:Int) (i:Int) G λr A=>r=gO (bP (xs l) d.x)/\ag w A:=by
  intro m;induction m with
  |zero=>
   intro i G hi Y B;rw[dw io]at Y;have e0:∀F,nL (xs l) d.x i F=bg (xs l) d.x F:=λF=>by
    unfold nL;split
    .rfl
    .exact (XQ io).symm
   rw[e0,e0,e0]at B;refine qG.dQ (aW (aS io) (B.av (ack (y B)) ?_));rintro _ M rfl C;refine⟨_,rfl,eO (λhf=>fail (by rw[hf,Bool.and_false]) C gs) (λhf=>C.ax λah Z h=>?_)⟩;have az:(b6 d.x.op==(d.x.kids.length:Int)&&d.x.kids.all (dK (xs l))&&fL d.x)=true:=by rw[aT,Y,hf];rfl
   have h:O F0 w Z [.c w.heap.size d.c bW,.g N,.c Q.heap.size (v9 (bg (xs l) d.x 0) (bg (xs l) d.x 1) (bg (xs l) d.x 2)) Bi,.g ah] (.gr s l::cv d::dt::D):=h;have fin:∀(T:aP) (E:Int) (t:aP) (e:Int) (j:J),bP (xs l) d.x=(if E≠0 then(a6,E)else(T,0))->e=E->(E=0->t=T)->O F0 w j [.c w.heap.size d.c bW,.g N,.c Q.heap.size (v9 (bg (xs l) d.x 0) (bg (xs l) d.x 1) (bg (xs l) d.x 2)) Bi,.g ah] (.gr s l::cv d::dt::D)->
     loc [N,ah] j λw9=>qG.cF N 0 0 0 ah t.k t.n t.x e w9 λr A=>r=gO (bP (xs l) d.x)/\ag w A:=by intro T E t e j hs z K q;subst z;refine q.ae λw9 H9=>cz (λak=>H9.ae λa1 an=>⟨by rw[hs,af ak];rfl,an.fr⟩) (λh0=>H9.ae λa1 an=>⟨?_,an.fr⟩);rw[hs,aa io,K h0]
   have aJ:d.x.op<=3->bP (xs l) d.x=(if(cg (xs l) d.x).2≠0 then(a6,(cg (xs l) d.x).2)else((cg (xs l) d.x).1,0)):=λh3=>by
    unfold bP;rw[az,aa gs,af h3];split
    .rename_i ak;exact X5 ak
    .rename_i ao;rw[Decidable.not_not]at ao;rw[<-ao]
   have ac:=λF=>XO (n:=d.x) hv F;refine⟨_,(y h).c0,aw (λaC=>?_) (λaC=>⟨_,(y h).c0,aY (λay=>?_) (λay=>⟨_,(y h).c0,aY (λaG=>?_) (λaG=>⟨_,(y h).c0,aY (λaH=>?_) (λaH=>?_)⟩)⟩)⟩)⟩
   .have Hv:O F0 Z Z [] (.gI (ab w.heap.size) d::D):=bT _ (by
     intro e z;rcases aF.1 z with rfl|z
     .exact y h
     .exact h.rd e (cJ _ (cJ _ (cJ _ z))))
    refine h.av (acw (xs l) lk Hv hc hl aC) ?_;rintro _ j ⟨t,e,rfl,z,K⟩ q;exact⟨_,_,_,_,rfl,fin _ _ t e j (aJ io) z K q⟩
   .refine h.av (aco (xs l) (y h) io ay ho.u) ?_;rintro _ j ⟨t,e,rfl,z,K⟩ q;exact⟨_,_,_,_,rfl,fin _ _ t e j (aJ ay) z K q⟩
   all_goals
    have rest:=abM az io;have S:∀(a c:Nat) (v:V),(v9 (bg (xs l) d.x 0) (bg (xs l) d.x 1) (bg (xs l) d.x 2))[a+c]? =some v->Z.cell? (((ab Q.heap.size).add a).add c)=some v:=λa c v hv=>by rw[add_add];exact h.ld 2 (a+c) rfl hv
    refine⟨io,dl,(bg (xs l) d.x 0).k,(bg (xs l) d.x 0).n,(bg (xs l) d.x 0).x,S 0 0 _ rfl,S 0 1 _ rfl,S 0 2 _ rfl,io,dl,(bg (xs l) d.x 1).k,(bg (xs l) d.x 1).n,(bg (xs l) d.x 1).x,S 3 0 _ rfl,S 3 1 _ rfl,S 3 2 _ rfl,io,dl,(bg (xs l) d.x 2).k,(bg (xs l) d.x 2).n,(bg (xs l) d.x 2).x,S 6 0 _ rfl,S 6 1 _ rfl,S 6 2 _ rfl,?_⟩
   .refine h.av (acj (y h) io aG (ac 0) (ac 1) ho.n ho.m) ?_;rintro _ j ⟨t,e,rfl,z,K⟩ q;exact⟨_,_,_,_,rfl,fin _ _ t e j rest z K q⟩
   .refine h.av (aci (y h) io aH) ?_;rintro _ j ⟨t,e,rfl,z,K⟩ q;exact⟨_,_,_,_,rfl,fin _ _ t e j rest z K q⟩
   .refine h.av (acv (y h) io io (ac 0) (ac 1) (ac 2) ho.tx) ?_;rintro _ j ⟨t,e,rfl,z,K⟩ q;exact⟨_,_,_,_,rfl,fin _ _ t e j rest z K q⟩
  |succ m ih=>
   intro i G hi Y B;have ap:d.x.kids[i]? =some (d.x.kids[i]'io):=a0 io;rw[dy (by omega:i<d.x.kids.length),List.all_cons]at Y;generalize d.x.kids[i]'io=x at ap Y;have bad:dK (xs l) x=false->qG.bC N 0 0 0 G λr A=>r=gO (bP (xs l) d.x)/\ag w A:=λhx=>fail (by rw[Y,hx];simp) B gs;refine qG.dQ (aU (aQ io) ⟨_,(y B).c1,io,io,(show bI G d.ks d.x.kids from B.getD 1).cell ap io λp hp aO=>⟨x,aO,aY (λh1=>bad ?_) (λh1=>aY (λh2=>bad ?_) (λh2=>?_))⟩⟩)
   .unfold dK;rw[aS io];rfl
   .unfold dK;rw[aS (show ¬x<((xs l).length:Int)by rw[aI];omega)];simp
   have ar:l[x.toNat]? =some (l[x.toNat]'io):=a0 io;generalize l[x.toNat]'io=e at ar;have aV:=XP ap ar;refine eE (bf.1 (B.getD 0)) (i:=x.toNat) io ar λa9 hq c=>⟨_,_,_,c.s0,c.s1,c.s2,io,by show(i:Int)<3;omega,?_⟩;have aN:d.x.kids.all (dK (xs l))=(d.x.kids.drop (i+1)).all (dK (xs l)):=by rw[Y];unfold dK;rw[aQ (show 0<=x by omega),aQ (show x<((xs l).length:Int)by rw[aI];omega)];rfl
   have am:∀M,O F0 w M [.c w.heap.size d.c bW,.g N,.c Q.heap.size (v9 (nL (xs l) d.x (i+1) 0) (nL (xs l) d.x (i+1) 1) (nL (xs l) d.x (i+1) 2)) Bi] (.gr s l::cv d::dt::D)->qG.cu s lk (ab w.heap.size) N 0 0 0 (ab Q.heap.size) (d.ks.n:Int) (aD .i64 ((i:Int)+1)) M λr A=>r=gO (bP (xs l) d.x)/\ag w A:=λM C=>by rw[bp _ io];exact ih (i+1) M io aN C
   have aR:i=0\/i=1\/i=2:=io
   have up:∀F,nL (xs l) d.x (i+1) F=if F=i then e.x.st else nL (xs l) d.x i F:=λF=>by
    unfold nL;by_cases hj:F=i
    .rw [af hj,af io,hj,aV]
    .rw [aa hj];by_cases aB:F<i
     .rw [af aB,af io]
     .rw [aa aB,aa io]
   rw[up 0,up 1,up 2]at am;rcases aR with rfl|rfl|rfl
   .exact B.hS 2 0 rfl λM C=>C.pE 2 0 1 rfl λZ h=>h.pE 2 0 2 rfl λj q=>am j q
   .exact B.hS 2 3 rfl λM C=>C.pE 2 3 1 rfl λZ h=>h.pE 2 3 2 rfl λj q=>am j q
   .exact B.hS 2 6 rfl λM C=>C.pE 2 6 1 rfl λZ h=>h.pE 2 6 2 rfl λj q=>am j q
 exact loop d.x.kids.length 0 w4 io gs H4
def acp{w:J}{s:Sl}{l:List Nd}{b:Nat}(t:ByteArray)(q:GP w s l)(H:w.heap[b]? =some (.cells [s.v].toArray mZ (0,0)))(N:l.length<=1000000000):
  aj U Fg #[.string t,.pointer (some (ab b))] w λr y=>r=ql (xs l) t/\ag w y:=by
 have P:=h' q;have F:O F0 w w [] [.gr s l,.c b [s.v] mZ]:=bT _ (by
  intro k e;simp only[aF,a5,a9]at e;rcases e with rfl|rfl
  .exact bf.2 q
  .exact H)
 have loop:∀(m i:Nat) (h:Nat) (j:J),i+m=l.length->me (xs l) t=me ((xs l).drop i) t->O F0 w j [.g h] [.gr s l,.c b [s.v] mZ]->sF.a4 t (ab b) h 0 0 0 (s.n:Int) (i:Int) j λr y=>r=ql (xs l) t/\ag w y:=by
  intro m;induction m with
  |zero=>
   intro i h j I e d;rw[dw (by grind)]at e;exact sF.bR (aW (aS io) (d.ae λL A=>⟨by unfold ql;rw[e];rfl,A.fr⟩))
  |succ m Y=>
   intro i h j I e d;have z:l[i]? =some (l[i]'io):=a0 io;have K:(xs l).drop i=(l[i]'io).x::(xs l).drop (i+1):=by
    rw[dy (by grind:i<(xs l).length)]
    grind
   rw[K]at e;generalize l[i]'io=k at z e;have M:me (xs l) t=if k.x.op=0/\k.x.tx=t then some k.x.st else me ((xs l).drop (i+1)) t:=e;have C:¬(k.x.op=0/\k.x.tx=t)->sF.bh t (ab b) h 0 0 0 (s.n:Int) (i:Int) j λr y=>r=ql (xs l) t/\ag w y:=λQ=>by
    show sF.a4 t (ab b) h 0 0 0 (s.n:Int) (aD .i64 ((i:Int)+1)) j _;rw[bp _ io]
    grind
   refine sF.bR (aU (aQ io) ⟨s,d.dU 1 0,eE (bf.1 (d.getD 0)) rfl z λp S c=>⟨_,c.c0,aw (λD=>⟨s,d.dU 1 0,eE (bf.1 (d.getD 0)) rfl z λZ T G=>⟨_,G.c5,AO (λE=>⟨s,d.dU 1 0,eE (bf.1 (d.getD 0)) rfl z λp3 W B=>⟨_,_,_,B.s0,B.s1,B.s2,d.ae λL A=>⟨?_,A.fr⟩⟩⟩) (λE=>C λq=>E q.2)⟩⟩) (λD=>C λq=>D q.1)⟩⟩);unfold ql
   grind
 exact sF.aq (F.ax λh j d=>⟨s,d.dU 1 0,loop l.length 0 h j io gs d⟩)
def ach{w:J}{s:Sl}{l:List Nd}{d:Nd}(H:GP w s l)(hd:d.P w)(N:dt.P w)(I:mq d.x)(k:l.length<=1000000000)(K:∀j∈xs l,bw j.st=true):
  aj U Og #[.agg #[s.v],d.v] w λr y=>r=gO (bP (xs l) d.x)/\ag w y:=by
 have A:O F0 w w [] [.gr s l,cv d,dt]:=bT _ (by
  intro j h;simp only[aF,a5,a9]at h;rcases h with rfl|rfl|rfl
  .exact bf.2 H
  .exact hd
  omega)
 refine Sq.aq (A.nw λQ _ B=>B.ax λL S C=>C.ax λM z e=>⟨s,e.ld 0 0,?_⟩);have G:O F0 z z [] [.gr s l,cv d,dt,.gr s l,.c w.heap.size [s.v] mZ]:=bT _ (by
  intro j h;simp only[aF,a5,a9]at h;rcases h with rfl|rfl|rfl|rfl|rfl
  .exact e.getD 0
  .exact e.getD 1
  .exact e.getD 2
  .exact e.getD 0
  .exact e.get 0)
 refine e.av (acu (D:=[.gr s l,.c w.heap.size [s.v] mZ]) ⟨Fg,#[],#[.pointer (some (ab w.heap.size))]⟩ G (by kernel_rfl) (λy q=>?_) I k K) ?_
 .exact acp d.x.tx (bf.1 (q (.gr s l) gs)) (q (.c w.heap.size [s.v] mZ) gs) k
 .rintro _ T rfl E;exact⟨_,_,_,_,rfl,E.ae λW F=>⟨rfl,F.fr⟩⟩
abbrev za(e:Int)(p:Nat):V:=.iface kP (.agg #[.i e,.i (p:Int)])
abbrev i1(e:Int)(p:Nat):List PanicEntry:=[{v:=za e p,recovered:=false}]
structure RC where
 rb:Nat
 tk:Sl
 cs:Sl
 mo:Nat
 mv:Nat
 mm:Nat
 g:Sl
 pm:Option Nat
 kn:Int
 dp:Nat
abbrev bz(X:RC)(s:aJ):En:=.c X.rb [X.tk.v,.i (s.p:Int),X.g.v,X.cs.v,.map (some X.mo),.map (some X.mv),.map (some X.mm),.map X.pm,.i X.kn,.i (X.dp:Int),.i (s.tm:Int)] acQ
def SM(t:aG):(sH t).length=3:=rfl
abbrev l9(t:aG):V:=.agg #[.i t.kind,.string (ba t.text),.i (t.aT:Int)]
structure B3(w:J)(p:Addr)(t:aG):Prop where
 c0:w.cell? (p.add 0)=some (.i t.kind)
 c1:w.cell? (p.add 1)=some (.string (ba t.text))
 c2:w.cell? (p.add 2)=some (.i (t.aT:Int))
def Bb{w:J}{s:Sl}{l:List aG}(h:bo 3 w s (gR l)){i:Nat}{d:aG}{X:Int}(k:X=(i:Int))(hi:l[i]? =some d){K:Addr->Prop}(q:∀p,s.a=some p->B3 w (p.add (aZ X *3)) d->K p):nN s X K:=by have j:=h.1;unfold gR at j;rw[o1 sH 3 SM]at j;have y:=(cq.1 hi).1;subst k;exact⟨io,io,fq.elem (f:=sH) (sz:=3) SM io h.2.2 hi λp x e=>q p x ⟨e 0 _ rfl,e 1 _ rfl,e 2 _ rfl⟩⟩
def G5{w:J}{s:Sl}{l:List aG}(x:bo 3 w s (gR l)){i:Nat}{d:aG}{X:Int}(y:X=(i:Int))(hi:l[i]? =some d){p:Addr}(A:s.a=some p):B3 w (p.add (aZ X *3)) d:=by obtain⟨_,_,j⟩:=Bb x y hi (K:=λh=>∃k,s.a=some k/\B3 w (k.add (aZ X *3)) d) (λh e z=>⟨h,e,z⟩);rw[A]at j;obtain⟨h,e,q⟩:=j;cases e;exact q
section
variable {M:Nat->Prop} {w0 w:J} {L D:List En} {bs:List Nat}
def _root_.Go.W.O.ZQ(H:O M w0 w L D)(i:Nat){e:En}(h:En){P:au}{g:bX}{args:Array V}{A:Ending->Prop}{K:aB}(hi:L[i]? =some e)(x:aj P g args w λr d=>A r/\h.P d/\Fr (·∈e.fp) w d)(y:∀b∈h.fp,b∈e.fp)(z:∀r d,A r->O M w0 d (L.set i h) D->K r d)(q:∀b∈bs,En.g b∈L.eraseIdx i:=by simp):fH bs P g args w K:=
 ⟨(·∈e.fp),λb j B=>wA hi H.nd b B (.g b) (q b j) (by simp[En.g]),x.mono λr d ⟨k,C,f⟩=>⟨f,z r d k (H.gb i h hi f C λb j=>.inl (y b j))⟩⟩
end
section
variable {X:RC} {T:List aG}
def gV(w:J)(rb:Nat)(D:List En):Prop:=∀d∈D,d.P w/\∀e∈d.fp,e≠rb
def jZ{w:J}{e:En}{D:List En}{rb:Nat}(j:e.fp=[rb])(z:e.P w)(q:gV w rb D):O (·∈[rb]) w w [e] D:=
 O.pD _ _ (λh d=>by
  rw[b'.1 d];exact⟨z,λy k=>j▸k⟩) (by simp[j]) (λh d=>⟨(q h d).1,λy k B A x=>by rw[b'.1 A,j,b']at x;exact(q h d).2 y k x⟩)
def cQ{M:Nat->Prop}{w0 w:J}{L D:List En}(H:O M w0 w L D){i:Nat}{e:En}{rb:Nat}(hi:L[i]? =some e)(j:e.fp=[rb]):gV w rb D:=λd h=>⟨H.rd d h,λx q k=>H.dj d h x q e (aA hi) (by rw[j,k];simp)⟩
def iq(X:RC)(w:J){α:Type}(x:PR α)(val:α->V):aB:=λr d=>match x with
 |.ok a s=>r=ad (val a)/\(bz X s).P d/\Fr (·∈[X.rb]) w d
 |.er e p=>r=.panicked (i1 e p)/\Fr (·∈[X.rb]) w d
def DN{M:Nat->Prop}{w0 w w':J}{L D:List En}(H:O M w0 w L D){i:Nat}{e:En}(hi:L[i]? =some e)(f:Fr (·∈e.fp) w w'):Fr M w0 w':=H.fr.trans f λh j d=>(H.new e (aA hi) h d).resolve_left io
def Ec{M:Nat->Prop}{w0 w w':J}{L D:List En}{bs:List Nat}(H:O M w0 w L D){i:Nat}{e:En}(hi:L[i]? =some e)(f:Fr (·∈e.fp) w w')(h:∀b∈bs,En.g b∈L.eraseIdx i):kept bs w w':=λb d=>
 f.cD b ((En.g b).lt w (H.own (.g b) (List.mem_of_mem_eraseIdx (h b d))) b (by simp[En.g])) λj=>wA (f:=λe:En=>e.fp) hi H.nd b j (.g b) (h b d) (by simp[En.g])
def eT{M:Nat->Prop}{w0 w:J}{L D:List En}{bs:List Nat}(H:O M w0 w L D)(i:Nat){s:aJ}{α:Type}{x:PR α}{val:α->V}{P:au}{f:bX}{args:Array V}{R K:aB}(hi:L[i]? =some (bz X s))(q:aj P f args w (iq X w x val))(z:∀a e d,x=.ok a e->O M w0 d (L.set i (bz X e)) D->K (ad (val a)) d)(y:∀h p d,x=.er h p->Fr M w0 d->R (.panicked (i1 h p)) d)(k:∀b∈bs,En.g b∈L.eraseIdx i:=by simp):mx bs P f args R w K:=by
 refine q.mono λr d j=>?_;unfold iq at j;split at j
 .rename_i a e;obtain⟨rfl,A,f⟩:=j;exact .inr ⟨⟨_,rfl⟩,Ec H hi f k,z a e d rfl (H.gb i (bz X e) hi f A λx B=>.inl B)⟩
 .rename_i h p;obtain⟨rfl,f⟩:=j;exact .inl ⟨_,rfl,y h p d rfl (DN H hi f)⟩
def gi{M:Nat->Prop}{w0 w:J}{L D:List En}{bs:List Nat}(H:O M w0 w L D){P:au}{f:bX}{args:Array V}{c:List PanicEntry}{R K:aB}(h:aj P f args w λr d=>r=.panicked c/\ag w d)(j:∀d,Fr M w0 d->R (.panicked c) d):mx bs P f args R w K:=
 h.mono λr d ⟨e,f⟩=>.inl ⟨c,e,j d (H.cC f).fr⟩
def jE(h:Addr)(e:Int)(t:aG)(w:J):aj U jz #[.pointer (some h),.i e,l9 t] w λr j=>r=.panicked (i1 e t.aT)/\ag w j:=
 PD.aq ((bT (w:=w) [] gs).ax λb k d=>⟨rfl,d.fr⟩)
def qy(e:Addr)(t:aG)(w:J):aj U pe #[.pointer (some e),l9 t] w λr h=>r=.panicked (i1 (if t.kind=6 then 3 else 2) t.aT)/\ag w h:=
 PO.aq ((bT (w:=w) [] gs).ax λb k j=>aw (λd=>gi j (jE e 3 t k) λh f=>⟨by rw[af d],f⟩) (λd=>gi j (jE e 2 t k) λh f=>⟨by rw[aa d],f⟩))
structure oO(X:RC)(T:List aG)(D:List En):Prop where
 t:En.a2 3 X.tk (gR T)∈D
 e:jl T
def xp{w:J}{D:List En}{s:aJ}(F:(bz X s).P w)(G:gV w X.rb D)(y:oO X T D)(z:s.p<T.length):
  aj U NI #[.pointer (some (ab X.rb))] w λr C=>r=ad (l9 (aO T s.p))/\(bz X (cS (aO T s.p) s)).P C/\Fr (·∈[X.rb]) w C:=by
 have A:=(qH z).2;have M:=y.e.l;generalize aO T s.p=t at A;refine PL.aq ((jZ rfl F G).ax λK N E=>E.ae λO h=>⟨X.tk,h.ld 0 0,_,h.ld 0 1,Bb (h.rd _ y.t) rfl A λp z c=>⟨t.kind,ba t.text,t.aT,c.c0,c.c1,c.c2,h.ax λL Q d=>?_⟩⟩);have q:=G5 (d.rd _ y.t) (X:=(s.p:Int)) rfl A z;refine⟨q.c0,q.c1,q.c2,d.ld 0 1,d.ld 0 0,cz (λx=>d.ae λH j=>⟨_,j.ld 0 1,j.hS 0 1 rfl (λI k=>k.ae λS B=>⟨rfl,?_,B.fr⟩) gs⟩) (λx=>d.ae λH j=>j.ae λI k=>⟨rfl,?_,k.fr⟩)⟩
 .have:=B.get 0;rw[bp _ io]at this;unfold cS;rw[aa x];exact this
 .unfold cS;rw[af x];exact k.get 0
def YT{M:Nat->Prop}{w0 w:J}{L D:List En}{bs:List Nat}(H:O M w0 w L D)(i:Nat){e h:En}{v:V}{rb:Nat}{P:au}{f:bX}{args:Array V}{K:aB}(hi:L[i]? =some e)(k:e.fp=[rb])(B:h.fp=[rb])(z:aj P f args w λr d=>r=ad v/\h.P d/\Fr (·∈[rb]) w d)(C:∀d,O M w0 d (L.set i h) D->K (ad v) d)(y:∀b∈bs,En.g b∈L.eraseIdx i:=by simp):fH bs P f args w K:=
 H.ZQ i h (A:=λr=>r=ad v) hi (z.mono λr d ⟨j,E,f⟩=>⟨j,E,by rw[k];exact f⟩) (λF q=>by rw[B]at q;rw[k];exact q) (λr d j x=>j▸C d x) y
def zH{M:Nat->Prop}{w0 w:J}{L D:List En}(H:O M w0 w L D)(i:Nat){e h:En}{v:V}{rb:Nat}{P:au}{f:bX}{args:Array V}{K:aB}(hi:L[i]? =some e)(j:e.fp=[rb])(y:h.fp=[rb])(x:aj P f args w λr d=>r=ad v/\h.P d/\Fr (·∈[rb]) w d)(z:∀d,O M w0 d (L.set i h) D->K (ad v) d):aj P f args w K:=
 x.mono λr d ⟨q,A,f⟩=>q▸z d (H.gb i h hi (by rw[j];exact f) A λB k=>.inl (by rw[y]at k;rw[j];exact k))
def ja{w:J}{D:List En}{s:aJ}{k:Int}(d:(bz X s).P w)(z:gV w X.rb D)(A:oO X T D)(B:s.p<T.length):
  aj U mM #[.pointer (some (ab X.rb)),.i k] w (iq X w (bL T k s) l9):=by
 refine PJ.aq ((jZ rfl d z).ax λC G e=>YT e 0 rfl rfl rfl (xp (e.get 0) (cQ e (i:=0) rfl rfl) A B) λH y=>⟨_,_,_,rfl,y.ax λE I j=>cz (λd=>j.ae λx h=>gi h (qy _ (aO T s.p) x) λF f=>?_) (λd=>j.ae λx h=>h.ae λK q=>?_)⟩)
 .unfold iq bL;rw[aa d];exact⟨rfl,f⟩
 .unfold iq bL;rw[af d];exact⟨rfl,q.get 0,q.fr⟩
end
def vx(g:List Nx):List Int:=((List.range g.length).filter λi=>match g[i]? with |some d=>ai (d.op=0)|none=>false).map λi:Nat=>(i:Int)
def yn(g:List Nx):Prop:=∀(i:Nat) (d:Nx),g[i]? =some d->∀e∈d.kids,0<=e/\e<(i:Int)
def Vg.rK{g:List Nx}(d:Vg g):yn g:=λ_ _ e=>d.kids e
def iB(n m:Int)(w:J)(h:1<=m)(d:cO n):aj U wZ #[.i n,.i m] w λr e=>r=ad (.i (dx n m))/\ag w e:=(HX n m w h d).mono λr e d=>⟨d.1,d.2▸Fr.refl _ _⟩
def mf(t:List UInt8)(s:aP):Nx:=⟨0,[],0,0,0,ba t,s⟩
def lC(t:List UInt8)(s:aP):Nd:=⟨mf t s,⟨none,0,0⟩⟩
def fO:List Nd:=[lC [97] (aN 2),lC [98] (aN 2),lC [99] (aN 1),lC [100] (aN 3)]
def hE:List Nd:=[lC [109] ⟨2,2,1⟩,lC [110] ⟨2,2,1⟩]
def ih:List Nd:=[lC [115] (e9 2),lC [116] (e9 1),lC [105] (aN 7),lC [122] ⟨3,1,1⟩]
def cm(kind:Int):List Nd:=fO++(if kind>0 then hE else[])++(if kind>1 then ih else[])
def vgB(l:List Nx):Bool:=(List.range l.length).all λi=>match l[i]? with
 |some n=>ai (bP (l.take i) n=(n.st,0))&&ai (n∉l.take i)
 |none=>false
def Bq{l:List Nx}(h:vgB l=true):Vg l:=by
 have main:∀i,i<=l.length->Vg (l.take i):=by
  intro i;induction i with
  |zero=>intro _;rw[List.take_zero];exact .nil
  |succ i j=>
   intro k;have d:=cY.1 h i (List.mem_range.2 io);have e:l[i]? =some (l[i]'io):=a0 io;rw[e]at d;dsimp only at d;rw[g5,e];simp only[be,decide_eq_true_eq]at d;exact .snoc (j io) d.1 d.2
 have:=main l.length (bm _)
 rwa[List.take_length]at this
def R3(kind:Int):Vg (xs (cm kind)):=by
 unfold cm;split
 .split
  .exact Bq (by kernel_rfl)
  .exact Bq (by kernel_rfl)
 .split
  .exact Bq (by kernel_rfl)
  .exact Bq (by kernel_rfl)
def nI:List ByteArray:=[ba [],ba [97],ba [97,98],ba [98],ba [0],ba [97,97]]
structure MdN(d:Nx):Prop where
 Pf:-1<=d.op
 Pg:d.op<=34
 kl:d.kids.length<=3
 n:0<=d.n/\d.n<=100
 m:0<=d.m/\d.m<=100
 u:0<=d.u/\d.u<=1000
 tx:d.op≠33->d.tx.size<=16
 re:d.op=33->∃k,d.tx=ba (mW k)
 li:d.op=2->d.tx∈nI
structure lH(g:List Nx):Prop where
 vg:Vg g
 nd:∀d∈g,MdN d
def ab1(kind:Int):lH (xs (cm kind)):=by
 refine⟨R3 kind,λh k=>?_⟩;have e:∃t s,h=mf t s/\t.length<=16:=by
  have j:h∈xs (fO++hE++ih):=by
   obtain⟨a,d,rfl⟩:=List.mem_map.1 k;refine List.mem_map.2 ⟨a,?_,rfl⟩;unfold cm at d;rcases aK.1 d with d|d
   .rcases aK.1 d with d|d
    .simp [d]
    .split at d
     .simp [d]
     .cases d
   .split at d
    .simp [d]
    .cases d
  simp only[xs,fO,hE,ih,lC,kE,uS,List.map_cons,List.map_nil,aF,a5,a9]at j;rcases j with rfl|rfl|rfl|rfl|rfl|rfl|rfl|rfl|rfl|rfl<;>exact⟨_,_,rfl,dl⟩
 obtain⟨t,s,rfl,q⟩:=e;exact⟨by show(-1:Int)<=0;omega,by show(0:Int)<=34;omega,by simp[mf],by simp[mf],by simp[mf],by simp[mf],λ_=>by show(ba t).size<=16;rw[bc];exact q,λe=>(by cases e),λe=>(by cases e)⟩
def GN{kind:Int}:∀e∈cm kind,e.x.kids=[]/\e.ks=⟨none,0,0⟩:=by
 intro e j;have h:e∈fO++hE++ih:=by
  unfold cm at j;rcases aK.1 j with d|d
  .rcases aK.1 d with d|d
   .simp [d]
   .split at d
    .simp [d]
    .cases d
  .split at d
   .simp [d]
   .cases d
 simp only[fO,hE,ih,lC,mf,kE,uS,aF,a5,a9]at h;rcases h with rfl|rfl|rfl|rfl|rfl|rfl|rfl|rfl|rfl|rfl<;>exact⟨rfl,rfl⟩
def abZ{kind:Int}{w w0:J}{s:Sl}(q:bo 9 w s ((cm kind).flatMap Nd.c))(y:∀b∈aR s,w0.heap.size<=b):GR w0 F0 (xs (cm kind)) s w:=by
 refine⟨cm kind,rfl,⟨q,λe j=>?_⟩,λb d=>.inr ?_⟩
 .obtain ⟨h,k⟩:=GN e j;show bI w e.ks e.x.kids;rw[h,k];exact Rd.nil w
 .rcases uc.1 d with d|⟨e,j,d⟩
  .exact nD y b d
  .obtain ⟨h,k⟩:=GN e j;unfold cv at d;rw[h]at d;cases d
def ab0(kind:Int):1<=(cm kind).length/\(cm kind).length<=10:=by unfold cm;split<;>split<;>decide
def Vm(kind:Int)(w:J):aj U Nb #[.i kind] w λr x=>(∃s:Sl,r=ad s.v/\GR w F0 (xs (cm kind)) s x)/\ag w x:=by
 refine Dl.ok ((bT [] gs).call (fv 2 w) ?_);rintro _ w1 rfl N;refine⟨_,_,_,rfl,N.call (fv 2 w1) ?_⟩;rintro _ w2 rfl Q;refine⟨_,_,_,rfl,Q.call (fv 1 w2) ?_⟩;rintro _ w3 rfl S;refine⟨_,_,_,rfl,S.call (fv 3 w3) ?_⟩;rintro _ M rfl T;refine⟨_,_,_,rfl,T.e3 (n:=4) (sz:=9) (cs:=fO.flatMap Nd.c) rfl dl λF H=>?_⟩;have fin:∀(l:Sl) (d:J) (L:List En) (j:Nat),O F0 w d L []->L[j]? =some (.row bW 9 l ((cm kind).flatMap Nd.c))->(∃s:Sl,Ending.returned l.v=ad s.v/\GR w F0 (xs (cm kind)) s d)/\ag w d:=λl d L j e h=>
  ⟨⟨l,rfl,abZ (e.get j h:aL _ _ _ _ _).a2 λb Z=>(e.new _ (aA h) b Z).resolve_right id⟩,e.fr⟩
 have I:∀(l:Sl) (d:J) (L:List En) (j:Nat) (k:List Nd),O F0 w d L []->k.length<=6->cm kind=k++(if kind>1 then ih else[])->L[j]? =some (.row bW 9 l (k.flatMap Nd.c))->Dl.S0 kind l d λr x=>(∃s:Sl,r=ad s.v/\GR w F0 (xs (cm kind)) s x)/\ag w x:=by
  intro l d L j k e ak z h;refine aY (λD=>?_) (λD=>?_)
  .rw [af D]at z;refine e.call (oR 2 d) ?_;rintro _ G rfl B;refine⟨_,_,_,rfl,B.call (oR 1 G) ?_⟩;rintro _ w8 rfl W;refine⟨_,_,_,rfl,W.call (fv 7 w8) ?_⟩;rintro _ y rfl Y;refine⟨_,_,_,rfl,Y.e3 (n:=4) (sz:=9) (cs:=ih.flatMap Nd.c) rfl dl λae A=>?_⟩;have K:(L++[En.row bW 9 ⟨some (ab y.heap.size),4,4⟩ (ih.flatMap Nd.c)])[j]? =some (.row bW 9 l (k.flatMap Nd.c)):=by rw[List.getElem?_append_left (cq.1 h).1];exact h
   have ac:(L++[En.row bW 9 ⟨some (ab y.heap.size),4,4⟩ (ih.flatMap Nd.c)])[L.length]? =some (.row bW 9 ⟨some (ab y.heap.size),4,4⟩ (ih.flatMap Nd.c)):=gs
   have hn:l.n=k.length:=by have:=(A.get j K:aL _ _ _ _ _).len;rw[Nd.hL]at this;omega
   have q:bo 9 ae ⟨some (ab y.heap.size),4,4⟩ (ih.flatMap Nd.c):=(A.get L.length ac:aL _ _ _ _ _).a2;refine A.ap j nY (src:=⟨some (ab y.heap.size),4,4⟩) K q.2.2 q.1 rX (by simp only;omega) (λE ah P _ _=>?_);refine fin E ah _ j P ?_;rw[List.getElem?_set_self (by simp;have:=(cq.1 h).1;omega),z,List.flatMap_append]
  .rw [aa D,bU]at z;rw[<-z]at h;exact fin l d L j e h
 refine aY (λC=>H.e3 (n:=2) (sz:=9) (cs:=hE.flatMap Nd.c) rfl dl λd e=>?_) (λC=>?_)
 .have q:bo 9 d ⟨some (ab F.heap.size),2,2⟩ (hE.flatMap Nd.c):=(e.get 1:aL _ _ _ _ _).a2;refine e.ap 0 nY (s:=⟨some (ab M.heap.size),4,4⟩) (src:=⟨some (ab F.heap.size),2,2⟩) rfl q.2.2 q.1 rX (by show(4+2) *96<=_;omega) (λE G B _ _=>?_);refine I E G _ 0 (fO++hE) B dl ?_ ?_
  .unfold cm;rw[af C]
  .rw [List.flatMap_append];rfl
 .refine I ⟨some (ab M.heap.size),4,4⟩ F _ 0 fO H dl ?_ rfl;unfold cm;rw[aa C,bU]
def Vq(kind:Int)(s:aP)(w:J):aj U Ng #[.i kind,dA s] w λr h=>(∃b:Bool,r=ad (.bool b))/\ag w h:=
 J4.aq ((bT [] gs).ax λb j e=>aw (λd=>⟨⟨_,rfl⟩,e.fr⟩) (λd=>aY (λd=>aw (λd=>⟨⟨_,rfl⟩,e.fr⟩) (λd=>⟨⟨_,rfl⟩,e.fr⟩)) (λd=>⟨⟨_,rfl⟩,e.fr⟩)))
end Go.Proofs.YtjakeaplbkhjmaaGreatDoor
end
