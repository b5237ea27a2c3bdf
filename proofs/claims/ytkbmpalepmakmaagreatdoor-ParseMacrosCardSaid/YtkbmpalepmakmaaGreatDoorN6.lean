import Derived.Test.YtkbmpalepmakmaaGreatDoorN0
import Derived.Test.YtkbmpalepmakmaaGreatDoorT1
import Derived.Test.YtkbmpalepmakmaaGreatDoorVP
import Derived.Test.YtkbmpalepmakmaaGreatDoorW
import Derived.Test.YtkbmpalepmakmaaGreatDoorU
import Derived.Laws.StandIn
import Derived.Lib.Bytealg
import Derived.Laws.RangeString
set_option linter.unusedVariables false
set_option linter.defProp false
set_option maxRecDepth 100000
noncomputable section
namespace Go.Proofs.YtkbmpalepmakmaaGreatDoor
open Go renaming World->I,Calls->ah,Program->au,Value->V,FuncId->b5,LoopState->eN
open Go.IntKind renaming wrap->aE
open _root_.Int renaming toNat->aY,toNat_natCast->cb
open _root_.ByteArray renaming mk->bh
open Go.IntWalk renaming i64_in->bH
open _root_.Bool renaming and_eq_true->bf
open _root_.Nat renaming le_refl->bz,le_trans->bI,zero_le->dg,lt_of_lt_of_le->pd
open _root_.UInt8 renaming ofNat->c9
open _root_.Option.some renaming inj->eU
open Go.Proofs.Tryz renaming prog->U
open _root_.Decidable renaming decide->ak
open Go.Ending renaming returned->ab
open List renaming mem_cons->aF,not_mem_nil->aW,mem_of_getElem?->ay,getElem?_eq_getElem->a0,mem_singleton->cK,length_drop->i9,mem_cons_of_mem->dJ,drop_eq_getElem_cons->dG,append_nil->df,nil_append->lS,cons_append->iJ,take_add_one->ha,drop_drop->lR,drop_of_length_le->dH,take_of_length_le->fW
open Go Go.W
section
variable {s:Sl} {l:List J} {bs:Nat}
end
def ab'{s:Sl}{l:List J}{w:I}(q:J.a1 l<=1000000)(x:aJ w aO 4 s (l.flatMap J.c))(z:J.Ps w l)(hd:∀D∈aG s,D∉J.be l)(A X d:List J)(k:l=A++X++d)(F:X.length<=12)(a b:Int)(h:a=(A.length:Int))(j:b=((A.length+X.length:Nat):Int))(y:Int)(B C:Bool){R:aC}(E:∀e,aJ e aO 4 s ((A++gn X++d).flatMap J.c)->Fr (·∈aG s) w e->R (ab (.tuple #[])) e):BS.L0 s a b y B C w R:=by
 have H:=J.gp l;have G:A.length+X.length+d.length=l.length:=by grind
 subst h j;refine BS.cH (aR (a6 ?_) ?_)
 .rw [bH _ io];omega
 refine(W6 s l w q x z hd A X d k _ rfl).mono ?_
 grind
set_option maxRecDepth 100000
set_option maxHeartbeats 1000000
abbrev XL(bs:List Nat)(f:b5)(xs:Array V)(w:I)(K:ByteArray->Int->I->Prop):Prop:=e8 bs U f xs w λh j=>∃d:ByteArray,∃e:Int,h=ab (.tuple #[.string d,.i e])/\K d e j
def TN:mS 12:=by intro s l z j w e y q;have x:=J.cw e.a9;refine TL.ok ((WJ _ z).mono ?_);rintro _ B ⟨⟨t,rfl⟩,f⟩;refine⟨t,rfl,BS.ok (ab' w (e.fr f λ_ _ d=>d) (y.cB f) q [] l [] us j _ _ rfl (by simp[x]) _ _ _ λA k h=>?_)⟩;exact⟨rfl,⟨gn l,rfl,adD l,adB l,by simpa using k⟩,f.A5.trans h λC _ d=>d⟩
def Js{a b:Nat}(e:¬a<b):Nat.blt a b=false:=by
 cases d:Nat.blt a b with
 |false=>rfl
 |true=>rw[Nat.blt_eq]at d;exact absurd d e
mutual
def ES:∀q:Rx,cU q=true->i7 q=true
 |.mk k lo w l,h=>by
  unfold cU at h;simp only[bf]at h;have d:=h.2;have j:dX l=true->oY l=true:=L' l;unfold i7;split at d
  .rename_i e;have:l=[]:=by simpa using d
   subst this;have e:k=0\/k=1:=e;unfold oY;rcases e with rfl|rfl<;>decide
  .split at d
   .rename_i e;simp only[bf]at d;have:l=[]:=by simpa using d.1
    subst this;subst e;unfold oY;decide
   .split at d
    .rename_i e;rw[j d];rcases e with rfl|rfl|rfl<;>simp
    .split at d
     .rename_i e;simp only[bf,beq_iff_eq]at d;rw[j d.2];rcases e with rfl|rfl<;>simp[d.1]
     .cases d
def L':∀l:List Rx,dX l=true->oY l=true
 |[],_=>rfl
 |a::l,d=>by unfold dX at d;unfold oY;simp only[bf]at d;rw[ES a d.1,L' l d.2];rfl
end
def aen(s:ByteArray)(hf:∀ac,h4 (bl s)=.inr ac->jw 12 (cO ac.tp))(w:I):ah U Gn #[.string s] w λr w'=>r=ab (.bool (jH (bl s)))/\af w w':=by
 have hl:(bl s).length=s.size:=dd s;have aa:O F0 w w [] []:=bZ [] us;refine UC.aq ((JD s w).mono ?_);rintro r w1 ⟨f1,W⟩;have H1:=aa.cB f1;have no:∀(a e:Int),e≠0->jH (bl s)=false->r=ab (.tuple #[.agg #[.int .i64 0,.int .u8 0,.int .u8 0,.slice none 0 0],.int .i64 a,.int .i64 e])->∃(t0 t1 t2:Int) (t3:Sl) (t4 t5:Int),r=ab (.tuple #[.agg #[.i t0,.int .u8 t1,.int .u8 t2,t3.v],.i t4,.i t5])/\vk [] w1 λj M=>bK (t5 !=0) (loc [j] M λD=>(Ending.returned (.bool false)=ab (.bool (jH (bl s)))/\af w D)) (loc [j] M λD=>XK [j] F' #[.agg #[.i t0,.int .u8 t1,.int .u8 t2,t3.v]] D λap ar az aA aB Z=>vk [j] Z λG N=>
   bK (aB !=0) (loc [j,G] N λY=>(Ending.returned (.bool false)=ab (.bool (jH (bl s)))/\af w Y)) (loc [j,G] N λY=>XL [j,G] O4 #[.agg #[.i ap,.int .u8 ar,.int .u8 az,aA.v]] Y λaC aG aj=>bK (aG==0) (Ending.returned (.bool (aC.toList==s.toList))=ab (.bool (jH (bl s)))/\af w aj) (Ending.returned (.bool false)=ab (.bool (jH (bl s)))/\af w aj))):=λa e K hn W=>⟨0,0,0,⟨none,0,0⟩,a,e,W,H1.aw λj M P=>cq (λ_=>P.ae λw3 E=>⟨by rw[hn],E.fr⟩) (λz=>absurd z K)⟩
 rcases W with⟨h1,k⟩|⟨h1,res,ao,⟨a,rfl,k⟩|⟨h,rfl,⟨H,k⟩|⟨H,t,k,B,pt,ft⟩⟩⟩
 .refine no _ _ dl ?_ k;unfold jH;rw[show Nat.blt 4096 (bl s).length=true from by rw[Nat.blt_eq];omega];rfl
 all_goals have S:Nat.blt 4096 (bl s).length=false:=Js io
 all_goals have d:=UT ao
 .have d:Sum.inl a=h4 (bl s):=d;refine no _ _ dl ?_ k;unfold jH;rw[S,<-d];rfl
 .have d:Sum.inr (fq h)=h4 (bl s):=d;refine no _ _ dl ?_ k;unfold jH;rw[S,<-d];dsimp only[cond_false];rw[uS,show Nat.blt 64 (cO h.tp).sz=true from by rw[Nat.blt_eq];exact H];rfl
 .have d:Sum.inr (fq h)=h4 (bl s):=d;have T:=hf _ d.symm;rw[uS]at T;have A:jH (bl s)=if kW (cO h.tp)=0 then(if iM (gl (cO h.tp))=0 then cR 0 (gl (cO h.tp)) (a' (gl (cO h.tp)))==bl s else false)else false:=by unfold jH;rw[S,<-d];dsimp only[cond_false];have:Nat.blt 64 (cO h.tp).sz=false:=Js io;rw[uS,this];rfl
  generalize cO h.tp=x at B T A H;have am:=aa.eO (.tree t) f1 pt (λb Q=>.inl (ft b (aU.1 Q)));have aH:t.sz<=64:=by rw[<-J.eu,B];exact H
  refine⟨_,_,_,t.s,_,_,k,am.aw λj M P=>cq (λz=>absurd rfl z) (λ_=>P.ae λw3 E=>?_)⟩;refine E.g5 (JC TN io t w3 io (by rw[B];exact T) (E.getD 0)) ?_;rintro _ w4 ⟨u,rfl,C,pu,fu⟩ _ F4;rw[B]at C;rw[B];have H4:=F4.rd (.tree u) pu λb Q=>fu b (aU.1 Q);refine⟨_,_,_,u.s,_,rfl,H4.aw λG w5 H5=>cq (λL=>H5.ae λD y=>⟨by rw[A,ad L],y.fr⟩) (λK=>H5.ae λD y=>?_)⟩;rw[ag K]at A;have ai:u.sz<=1000000:=by
   rw[<-J.eu,C];have:kW x=0:=K;unfold kW at this;unfold gl;split at this
   .rename_i q;rw[ag q];unfold pU at this;unfold pV;split at this
    .cases this
    .rename_i an;rw[ad an];omega
   .rename_i q;exact absurd this q
  refine kG (Ho.aq ((gT (y.getD 1)).aw λb1 Z H7=>H7.av (DA u Z ai (H7.getD 0)) ?_));rintro _ N rfl F;rw[C];refine⟨_,rfl,cq (λL=>⟨F.fr,_,_,rfl,ax (λz=>absurd z L) (λ_=>⟨by rw[A,ad L],(y.cB F.fr).fr⟩)⟩) (λq=>F.av (Rc u 0 N ai io ?_ (F.getD 0)) ?_)⟩
  .exact ES _ (by rw[C];exact(Cj q).1)
  .rintro _ w9 rfl H9;refine⟨_,rfl,H9.fr,_,_,rfl,aR rfl ⟨?_,(y.cB H9.fr).fr⟩⟩;rw[A,ag q,C];congr 2;have:=uj (cR 0 (gl x) (a' (gl x))) (bl s);rw[jW]at this;exact this
def abt(t:ByteArray)(e:∀d,h4 (bl t)=.inr d->jw 12 (cO d.tp)):rL t:=λh=>aen t e h
structure aH where
 p:Nat
 tm:Nat
 g:List Nx
structure PM where
 ps:List (List UInt8×aM)
 b:Nat
 ix:Nat
structure b3 where
 T:List aN
 vs:List (List UInt8×Nat)
 ms:List (List UInt8×PM)
 pm:List (List UInt8×Nat)
 kn:Nat
 dp:Nat
inductive PR (α:Type)
 |ok (a:α) (s:aH)
 |er (e:Int) (p:Nat)
def PR.b{α β:Type}(x:PR α)(f:α->aH->PR β):PR β:=match x with
 |.ok a s=>f a s
 |.er d p=>.er d p
def lk{α:Type}:List (List UInt8×α)->List UInt8->Option α
 |[],_=>none
 |(d,v)::l,t=>if d=t then some v else lk l t
def aK(T:List aN)(p:Nat):aN:=T.getD p ⟨6,[],0⟩
def cN(t:aN)(s:aH):aH:=if t.kind=6 then s else{s with p:=s.p+1}
def kg{α:Type}(t:aN):PR α:=.er (if t.kind=6 then 3 else 2) t.a4
def bU(T:List aN)(k:Int)(s:aH):PR aN:=
 if(aK T s.p).kind=k then .ok (aK T s.p) (cN (aK T s.p) s)else kg (aK T s.p)
def dm(base:Nat)(l:List UInt8):Nat:=l.foldl (λn c=>base *n+eR c) 0
def dw(T:List aN)(s:aH):PR Int:=(bU T 4 s).b λt s=>.ok (dm 10 t.text:Int) s
def vQ(w:List UInt8):Option Int:=
 if w=[98,118]then some 0 else if w=[115,116,114]then some 1 else if w=[97,114,114]then some 2 else if w=[97,114,115]then some 3 else none
def il(T:List aN)(s:aH):PR aM:=
 (bU T 0 s).b λt s=>(bU T 2 s).b λe s=>match vQ e.text with
 |none=>kg e
 |some d=>(if d=2\/d=3 then dw T s else .ok 0 s).b λh s=>(dw T s).b λn s=>(bU T 1 s).b λ_ s=>
  if bx ⟨d,n,h⟩then .ok ⟨d,n,h⟩ s else .er 9 t.a4
def ej(s:aH)(n:Nx)(t:aN):PR Nat:=
 if(a3 s.g n).2.2=0 then .ok (a3 s.g n).2.1.toNat {s with g:=(a3 s.g n).1}else .er (a3 s.g n).2.2 t.a4
def oX(op:Int):Nx:=⟨op,[],0,0,0,ba [],a5⟩
def hE(l:List UInt8):Nx:=
 if l[1]? =some 120 then⟨1,[],0,0,(dm 16 (l.drop 2):Int),ba [],aZ (((l.length - 2) *4:Nat):Int)⟩else⟨1,[],0,0,(dm 2 (l.drop 2):Int),ba [],aZ ((l.length - 2:Nat):Int)⟩
def fI:List (List UInt8×(Int×Nat)):=[
 ([110,111,116],4,1),([110,101,103],5,1),([97,110,100],6,2),([111,114],7,2),([120,111,114],8,2),
 ([97,100,100],9,2),([109,117,108],10,2),([117,100,105,118],11,2),([117,114,101,109],12,2),([115,104,108],13,2),
 ([108,115,104,114],14,2),([97,115,104,114],15,2),([117,108,116],16,2),([115,108,116],17,2),([101,113],18,2),
 ([105,116,101],19,3),([99,111,110,99,97,116],20,2),([115,101,108,101,99,116],24,2),([115,116,111,114,101],25,3),([100,105,102,102],26,2),
 ([108,101,110],27,1),([99,97,116],29,2),([115,117,98],30,3),([102,105,110,100],31,2),([114,101,112,108,97,99,101],32,3),([99,104,97,114],34,1)]
def TP:List (List UInt8):=[[110,117,109],[122,101,114,111],[101,120,116,114,97,99,116],[122,101,120,116],[115,101,120,116],[98,121,116,101],[105,110]]
def jy(w:List UInt8):Bool:=TP.contains w||(lk fI w).isSome
def gZ(t:List UInt8):List UInt8×Int:=if 4096<t.length then([],4)else match h4 t with
 |.inl _=>([],2)
 |.inr d=>if 64<(cO d.tp).sz then([],4)else
  if kW (cO d.tp)=0 then(if iM (gl (cO d.tp))=0 then(cR 0 (gl (cO d.tp)) (a' (gl (cO d.tp))),0)else([],iM (gl (cO d.tp))))else([],kW (cO d.tp))
def rr(T:List aN)(s:aH):PR (List UInt8):=(bU T 5 s).b λt s=>if(gZ t.text).2=0 then .ok (gZ t.text).1 s else .er (gZ t.text).2 t.a4
def gA(tm:aH->PR Nat):Nat->aH->PR (List Int)
 |0,s=>.ok [] s
 |n+1,s=>(tm s).b λk s=>(gA tm n s).b λl s=>.ok ((k:Int)::l) s
def ih(T:List aN)(w:List UInt8)(s:aH):PR (Nx×Nat):=
 if w=[110,117,109]then(dw T s).b λu s=>(dw T s).b λn s=>.ok (⟨1,[],0,0,u,ba [],aZ n⟩,0) s else
 if w=[122,101,114,111]then(il T s).b λd s=>.ok (⟨3,[],0,0,0,ba [],d⟩,0) s else
 if w=[101,120,116,114,97,99,116]then(dw T s).b λn s=>(dw T s).b λm s=>.ok (⟨21,[],n,m,0,ba [],a5⟩,1) s else
 if w=[122,101,120,116]then(dw T s).b λn s=>.ok (⟨22,[],n,0,0,ba [],a5⟩,1) s else
 if w=[115,101,120,116]then(dw T s).b λn s=>.ok (⟨23,[],n,0,0,ba [],a5⟩,1) s else
 if w=[98,121,116,101]then(dw T s).b λn s=>.ok (⟨28,[],n,0,0,ba [],a5⟩,1) s else
 if w=[105,110]then(rr T s).b λr s=>.ok (⟨33,[],0,0,0,ba r,a5⟩,1) s else
 .ok (oX ((lk fI w).getD (0,0)).1,((lk fI w).getD (0,0)).2) s
def i5(T:List aN)(tm:aH->PR Nat)(w:List UInt8)(s:aH):PR Nx:=
 (ih T w s).b λd s=>(gA tm d.2 s).b λe s=>.ok {d.1 with kids:=e} s
def ik(E:b3)(w:List UInt8):Option PM:=match lk E.ms w with
 |some m=>if m.ix<E.kn then some m else none
 |none=>none
def iW:List (List UInt8×aM)->List Int->List (List UInt8×Nat)
 |(p,_)::e,a::d=>(p,a.toNat)::iW e d
 |_,_=>[]
def h8(tm:b3->aH->PR Nat)(E:b3)(m:PM)(az:List Int)(s:aH):PR Nat:=
 (tm {E with pm:=iW m.ps az,kn:=m.ix} {s with p:=m.b}).b λn d=>.ok n {d with p:=s.p}
def lK(tm:b3->aH->PR Nat)(E:b3)(t:aN)(s:aH):PR Nat:=match lk E.pm t.text with
 |some n=>.ok n s
 |none=>match lk E.vs t.text with
  |some n=>.ok n s
  |none=>match ik E t.text with
   |some m=>if m.ps=[]then h8 tm E m [] s else .er 6 t.a4
   |none=>.er 6 t.a4
def jO(g:List Nx):List (List UInt8×aM)->List Int->Bool
 |(_,h)::e,a::d=>ak ((g[a.toNat]?).map (·.st)=some h)&&jO g e d
 |_,_=>true
def pB(tm:b3->aH->PR Nat)(E:b3)(t w:aN)(s:aH):PR Nat:=match ik E w.text with
 |none=>.er 6 w.a4
 |some m=>(gA (tm E) m.ps.length s).b λd s=>(bU E.T 1 s).b λ_ s=>
  if jO s.g m.ps d then h8 tm E m d s else .er 9 t.a4
def mb(tm:b3->aH->PR Nat)(E:b3)(t:aN)(s:aH):PR Nat:=
 if 64<=E.dp then .er 4 t.a4 else
 (bU E.T 2 s).b λd s=>
  if jy d.text then(i5 E.T (tm {E with dp:=E.dp+1}) d.text s).b λn s=>(bU E.T 1 s).b λ_ s=>ej s n t
  else pB tm {E with dp:=E.dp+1} t d s
def ir(tm:b3->aH->PR Nat)(E:b3)(s:aH):PR Nat:=
 let t:=aK E.T s.p
 if t.kind=1\/t.kind=4\/t.kind=6 then kg t else
 if 65536<=s.tm then .er 4 t.a4 else
 let s:={cN t s with tm:=s.tm+1}
 if t.kind=2 then lK tm E t s else
 if t.kind=3 then ej s (hE t.text) t else
 if t.kind=5 then ej s ⟨2,[],0,0,0,ba t.text,a5⟩ t else
 mb tm E t s
def dO:Nat->b3->aH->PR Nat
 |0,_,_=>.er 1000 0
 |f+1,d,s=>ir (dO f) d s
set_option maxHeartbeats 2000000
namespace Ue
def ok:=aB (aA U Tryz.f119 [] []) PA [.st,.v]
end Ue
namespace yE
def L0:=bD (aA U Tryz.f148 [] []) [0,1,1,1,1] [(1,.f),(2,.b),(10,.v [.v])]
abbrev t1:=bB L0
def cH:=bO t1 L0
def ok:=aB t1 PB [.st,.f,.b]
end yE
namespace M1
def ok:=aB (aA U Tryz.f89 [] []) OO [.st,.I]
end M1
namespace M2
def ok:=aB (aA U Tryz.f120 [] []) xK [.i .i32,.r]
end M2
namespace M4
def ok:=aB (aA U Tryz.f121 [] []) OQ [.i .i32,.I]
end M4
namespace M7
def ok:=aB (aA U Tryz.f66 [] []) OW [.Y]
end M7
namespace M3
def ok:=aB (aA U Tryz.f67 [] []) OP [.Y,.I]
end M3
namespace Ar
abbrev P0:Ps:=[]
abbrev S0:=ai (aA U Tryz.f68 [] []) [0,1,1,2,1,1,2] P0
abbrev t1:=aj S0
abbrev P1:Ps:=[(0,.st)]
abbrev S1:=ai t1 [1,1,1,1,2] P1
abbrev t2:=aj S1
abbrev S2:=ai t2 [0,1,1,1,3] P0
abbrev t3:=aj S2
abbrev S4:=ai t3 [6] [(0,.st),(4,.I),(5,.I)]
abbrev t4:=aj S4
abbrev S3:=ai t4 [4] P1
abbrev t5:=aj S3
def ok:=aB t5 OS [.st]
end Ar
namespace pT
abbrev aV:=ai (aA U Tryz.f88 [(4,lr 5),(7,lr 5),(11,lr 5),(18,lr 5),(20,lr 5)] [6,7,8]) [0,1,1,2,1,1,2] [(1,.I),(6,.l [.I,.I] jf),(8,.l [.I,.I] jf)]
abbrev t1:=aj aV
abbrev bL:=ai t1 [1,1,2,1,4] [(1,.I),(6,.l [.I,.I] jf),(9,.Y)]
abbrev t2:=aj bL
abbrev P0:Ps:=[(0,.st),(1,.I),(6,.l [.I,.I] jf),(7,.l [.I,.I] jf),(8,.l [.I,.I] jf),(10,.I),(11,.I)]
def iv:=bD t2 [0,1,1,1,6] P0
abbrev t3:=bB iv
abbrev gw:=ai t3 [2,2,1,1,6] P0
abbrev t4:=aj gw
def ox:=bO t4 iv
abbrev bg:=ai t4 [1,1,4] [(0,.st),(1,.I),(6,.l [.I,.I] jf),(7,.l [.I,.I] jf),(8,.l [.I,.I] jf),(9,.Y)]
abbrev t5:=aj bg
def aq:=aB t5 OT [.st,.I]
end pT
def aaB(s:ByteArray)(c:UInt8)(w:I):Sem.run U (callFunc vb #[.string s,.int .u8 (c.toNat:Int)]) w=.ok (.value (.int .i64 (Go.Lib.indexByte (bl s) c))) w:=by have d:=run_callFunc_indexByte (P:=U) (f:=vb) (fn:=(Tryz.prog.funcs[vb]?).getD default) (by kernel_rfl) (by kernel_rfl) (by kernel_rfl) (by kernel_rfl) (by kernel_rfl) #[.string s,.int .u8 (c.toNat:Int)] w;rw[d,Go.Lib.run_indexByteString];show Result.ok _ w=_;congr 4;simp
def AD(s:ByteArray)(c:UInt8)(w:I):ah U Gk #[.string s,.int .u8 (c.toNat:Int)] w λr d=>r=ab (.int .i64 (Go.Lib.indexByte (bl s) c))/\w=d:=by
 refine H2.ok ?_;refine(show ah U FT #[.string s,.int .u8 (c.toNat:Int)] w λr d=>r=ab (.int .i64 (Go.Lib.indexByte (bl s) c))/\w=d from ?_).mono ?_
 .exact E6.ok ⟨_,w,aaB s c w,rfl,rfl⟩
 .rintro r e ⟨rfl,rfl⟩;exact⟨_,rfl,rfl,rfl⟩
def EZ:∀(l:List UInt8) (c:UInt8),(0<=Go.Lib.indexByte l c)=(c∈l)
 |[],c=>by simp[Go.Lib.indexByte]
 |b::l,c=>by
  unfold Go.Lib.indexByte;have k:=EZ l c;by_cases e:b=c
  .subst e;simp
  .rw [ad (by simpa using e)];have q:=Go.Lib.indexByte_ge l c;have d:(c∈b::l)=(c∈l):=by apply propext;rw[aF];exact⟨λj=>j.resolve_left λd=>e d.symm,.inr⟩
   rw[d,<-k];split
   .rename_i h;have:Go.Lib.indexByte l c=-1:=by simpa using h
    rw[this]
   .rename_i h;have:Go.Lib.indexByte l c≠-1:=by simpa using h
    apply propext;omega
def Fo(c:UInt8)(w:I):ah U OW #[.int .u8 (c.toNat:Int)] w λr e=>r=ab (.bool (pX c))/\w=e:=by
 refine M7.ok (bm (λd=>?_) (λd=>?_))
 .have:=fk d;refine⟨?_,rfl⟩;unfold pX;rw[a6 (show 97<=c.toNat by omega),Bool.true_and];congr 2;exact decide_eq_decide.2 io
 .have:=l5 d;refine⟨?_,rfl⟩;unfold pX;rw[a7 (show ¬97<=c.toNat by omega),Bool.false_and]
def Fk(c:UInt8)(base:Nat)(w:I):ah U OP #[.int .u8 (c.toNat:Int),.int .i64 (base:Int)] w λr A=>r=ab (.bool (cQ base c))/\w=A:=by
 refine M3.ok (bm (λq=>?_) (λq=>bm (λk=>?_) (λk=>?_)))
 .have h:base=2:=by have:(base:Int)=2:=(by simpa using q);omega
  subst h;refine bm (λd=>⟨?_,rfl⟩) (λd=>⟨?_,rfl⟩)<;>(congr 2;unfold cQ;rw[Bool.eq_iff_iff];simp at d ⊢;omega)
 .have h:base=16:=by have:(base:Int)=16:=(by simpa using k);omega
  subst h;refine bm (λd=>bm (λx=>⟨?_,rfl⟩) (λx=>bm (λj=>⟨?_,rfl⟩) (λj=>⟨?_,rfl⟩))) (λd=>bm (λj=>⟨?_,rfl⟩) (λj=>⟨?_,rfl⟩))<;>(congr 2;unfold cQ;rw[Bool.eq_iff_iff];simp at *;omega)
 .have z:base≠2:=λe=>by subst e;simp at q
  have y:base≠16:=λe=>by subst e;simp at k
  refine bm (λd=>⟨?_,rfl⟩) (λd=>⟨?_,rfl⟩)<;>(congr 2;unfold cQ;rw[ad z,ad y,Bool.eq_iff_iff];simp at d ⊢;omega)
def ZW(c:UInt8)(base:Nat)(w:I):ah U OQ #[.int .i32 (c.toNat:Int),.int .i64 (base:Int)] w λr A=>r=ab (.bool (cQ base c))/\w=A:=by
 refine M4.ok (bm (λq=>?_) (λq=>bm (λk=>?_) (λk=>?_)))
 .have h:base=2:=by have:(base:Int)=2:=(by simpa using q);omega
  subst h;refine bm (λd=>⟨?_,rfl⟩) (λd=>⟨?_,rfl⟩)<;>(congr 2;unfold cQ;rw[Bool.eq_iff_iff];simp at d ⊢;omega)
 .have h:base=16:=by have:(base:Int)=16:=(by simpa using k);omega
  subst h;refine bm (λd=>bm (λx=>⟨?_,rfl⟩) (λx=>bm (λj=>⟨?_,rfl⟩) (λj=>⟨?_,rfl⟩))) (λd=>bm (λj=>⟨?_,rfl⟩) (λj=>⟨?_,rfl⟩))<;>(congr 2;unfold cQ;rw[Bool.eq_iff_iff];simp at *;omega)
 .have z:base≠2:=λe=>by subst e;simp at q
  have y:base≠16:=λe=>by subst e;simp at k
  refine bm (λd=>⟨?_,rfl⟩) (λd=>⟨?_,rfl⟩)<;>(congr 2;unfold cQ;rw[ad z,ad y,Bool.eq_iff_iff];simp at d ⊢;omega)
def Di{b:Bool}{p:Prop}(d:b=true)(e:p):W.cS b p:=by subst d;exact e
def Fb(w:I)(s:ByteArray)(i:Nat):af w (w.iter s i):=Fr.alloc _ _ _
def ZV(c:UInt8)(base d:Nat)(w:I)(e:w.cell? (aa d)=some (.int .i64 (base:Int))):ah U xK #[.int .i32 (c.toNat:Int),.pointer (some (aa d))] w λr h=>r=ab (.bool (!(cQ base c)))/\w=h:=by refine M2.ok ⟨_,e,(ZW c base w).mono ?_⟩;rintro r j ⟨rfl,rfl⟩;exact⟨_,rfl,rfl,rfl⟩
def MM(s:ByteArray)(base:Nat)(w:I)(F:∀c∈bl s,c.toNat<128):ah U OO #[.string s,.int .i64 (base:Int)] w λr k=>r=ab (.bool ((bl s).all (cQ base)))/\af w k:=by
 have J:∀(K:I->Prop),(∀e,af w e->e.heap[w.heap.size]? =some (.cells #[.int .i64 (base:Int)] bF (0,0))->K e)->dh w (.cells #[.int .i64 (base:Int)] bF) K:=λK h=>h _ (Fr.alloc _ _ _) (m8 w _);refine M1.ok (J _ λe y D=>?_);have key:∀(d i:Nat),i+d=s.size->((bl s).take i).all (cQ base)=true->yE.L0 ⟨xK,#[],#[.pointer (some (aa w.heap.size))]⟩ true (.pointer (some ⟨e.heap.size,0,none⟩)) (e.iter s i)
   λr k=>(∃t:Int,r=ab (.int .i64 t)/\ak (t<0)=(bl s).all (cQ base))/\af w k:=by
  intro d;induction d with
  |zero=>
   intro i H q;refine yE.cH (.inl ⟨_,run_next_end e s i _ io,⟨_,rfl,?_⟩,y.gq (Fb _ _ _)⟩);rw[fW (by rw[dd];omega)]at q;rw[q];rfl
  |succ d L=>
   intro i H q;have A:i<s.size:=io
   have z:i<(bl s).length:=by rw[dd];exact A
   have B:s[i]∈bl s:=by have:(bl s)[i]=s[i]:=rfl;rw[<-this];exact List.getElem_mem z
   have G:=F _ B;refine yE.cH (.inr ⟨_,_,_,run_next_ascii e s i _ A G,?_⟩);have j:(bl s).take (i+1)=(bl s).take i++[s[i]]:=by rw[ha,a0 z];rfl
   refine Di (by kernel_rfl) ((ZV s[i] base w.heap.size (e.iter s (i+1)) ?_).mono ?_)
   .have:=(Fb e s (i+1)).at D id;have:=cellAt (p:=aa w.heap.size) (i:=0) this rfl rfl
    rwa[iV]at this
   .rintro r C ⟨rfl,rfl⟩;refine⟨_,rfl,bm (λh=>?_) (λh=>?_)⟩
    .have h:((!cQ base s[i])==true)=true:=h;have x:cQ base s[i]=false:=by simpa using h
     refine⟨⟨_,rfl,?_⟩,y.gq (Fb _ _ _)⟩;have:(bl s).all (cQ base)=false:=by
      cases E:(bl s).all (cQ base)with
      |false=>rfl
      |true=>have:=List.all_eq_true.1 E _ B;rw[x]at this;cases this
     rw[this];exact a7 io
    .have h:((!cQ base s[i])==true)=false:=h;have x:cQ base s[i]=true:=by simpa using h
     exact L (i+1) io (by rw[j,List.all_append,q];simp[x])
 have whole:ah U PA #[.string s,.func (.func xK) #[] #[.pointer (some (aa w.heap.size))]] e λr k=>(∃t:Int,r=ab (.int .i64 t)/\ak (t<0)=(bl s).all (cQ base))/\af w k:=by refine Ue.ok ((show ah U PB #[.string s,(⟨xK,#[],#[.pointer (some (aa w.heap.size))]⟩:W.Fv).v,.bool true] e _ from yE.ok ⟨_,_,run_range_string e _ s tt,key s.size 0 io rfl⟩).mono ?_);rintro r C ⟨⟨t,rfl,j⟩,f⟩;exact⟨t,rfl,⟨t,rfl,j⟩,f⟩
 refine whole.mono ?_;rintro r C ⟨⟨t,rfl,j⟩,f⟩;exact⟨t,rfl,by rw[j],f⟩
def xy{s:ByteArray}{l:List UInt8}(e:bl s=l)(i:Nat):s[i]? =l[i]?:=by
 subst e;by_cases d:i<s.size
 .rw [getElem?_pos s i d,a0 (by rw[dd];exact d)];rfl
 .rw [getElem?_neg s i d,List.getElem?_eq_none (by rw[dd];omega)]
def Jr(s:ByteArray)(i j:Nat):bl (s.extract i j)=((bl s).take j).drop i:=by unfold bl;rw[ByteArray.data_extract,Array.toList_extract,List.extract_eq_drop_take']
def ZY(s:ByteArray)(w:I)(h0:bl s≠[])(hw:∀c∈bl s,bw c=true)(aj:s.size<=1000000):ah U OS #[.string s] w λr D=>r=ab (.tuple #[.int .i64 (eV (bl s)).1,.int .i64 (eV (bl s)).2])/\af w D:=by
 obtain⟨c,l,q⟩:∃c l,bl s=c::l:=by
  cases e:bl s with
  |nil=>exact absurd e h0
  |cons c l=>exact⟨c,l,rfl⟩
 have Q:∀j∈bl s,j.toNat<128:=λj y=>by have:=hw j y;unfold bw pX cQ at this;simp at this;omega
 have B:s.size=l.length+1:=by rw[<-dd,q];rfl
 have L:s[0]? =some c:=by rw[xy q];rfl
 refine Ar.ok ⟨io,c,L,(Fo c w).mono ?_⟩;rintro r J ⟨rfl,rfl⟩;refine⟨_,rfl,bm (λH=>?_) (λH=>?_)⟩
 .refine (AD s 35 w).mono ?_;rintro r J ⟨rfl,rfl⟩;refine⟨_,rfl,bm (λe=>?_) (λe=>?_)⟩
  .have S:(35:UInt8)∈bl s:=by rw[<-EZ];exact fk e
   have A:(bl s).any (λj=>j.toNat==35)=true:=List.any_eq_true.2 ⟨35,S,rfl⟩;rw[q]at A ⊢;unfold eV;simp only[];rw[ag H,ag A];exact⟨rfl,Fr.refl _ _⟩
  .have S:¬(35:UInt8)∈bl s:=by rw[<-EZ];have:=l5 e;omega
   have A:¬(bl s).any (λj=>j.toNat==35)=true:=λh=>by obtain⟨j,y,ac⟩:=List.any_eq_true.1 h;have:j=35:=UInt8.toNat_inj.1 (by simpa using ac);exact S (this▸y)
   rw[q]at A ⊢;unfold eV;simp only[];rw[ag H,ad A];refine bm (λe=>?_) (λe=>?_)
   .have:=fk e;rw[ag (by simp;omega)];exact⟨rfl,Fr.refl _ _⟩
   .have:=l5 e;rw[ad (by simp;omega)];exact⟨rfl,Fr.refl _ _⟩
 .have W:¬pX c=true:=by simpa using H
  refine⟨io,c,L,bm (λG=>?_) (λG=>?_)⟩
  .have ae:c.toNat≠35:=λh=>by rw[h]at G;simp at G
   refine(MM s 10 w Q).mono ?_;rintro r J ⟨rfl,k⟩;have h:eV (bl s)=if !((bl s).all (cQ 10))||(c.toNat==48&&ak (1<(bl s).length))then(0,2)else if 13<(bl s).length then(0,4)else(4,0):=by
    rw[q];conv=>lhs;unfold eV
    simp only[];rw[ad W,ag ae]
   rw[h];have hlen:(bl s).length=s.size:=dd s;refine⟨_,rfl,bm (λe=>?_) (λe=>?_)⟩
   .rw [e,Bool.true_or,ag rfl];exact⟨rfl,k⟩
   .have h':(!((bl s).all (cQ 10)))=false:=e;rw[h',Bool.false_or];have tail:¬((c.toNat==48&&ak (1<(bl s).length))=true)->Ar.S1 s J λr D=>r=ab (.tuple #[.int .i64 (if(c.toNat==48&&ak (1<(bl s).length))=true then((0:Int),(2:Int))else if 13<(bl s).length then(0,4)else(4,0)).1,.int .i64 (if(c.toNat==48&&ak (1<(bl s).length))=true then((0:Int),(2:Int))else if 13<(bl s).length then(0,4)else(4,0)).2])/\af w D:=λhz=>by
     rw[ad hz];refine bm (λe=>?_) (λe=>?_)
     .have:=fk e;rw[ag io];exact⟨rfl,k⟩
     .have:=l5 e;rw[ad io];exact⟨rfl,k⟩
    refine⟨io,c,L,bm (λO=>bm (λM=>?_) (λM=>tail ?_)) (λO=>tail ?_)⟩
    .have Z:(c.toNat==48)=true:=by have:(c.toNat:Int)=48:=(by simpa using O);simp;omega
     have:=fk M;rw[Z,a6 (show 1<(bl s).length by omega)];exact⟨rfl,k⟩
    .have:=l5 M;simp;omega
    .have:¬(c.toNat:Int)=48:=by simpa using O
     simp;omega
  .have aa:¬c.toNat≠35:=by
    have:(c.toNat:Int)=35:=by simpa using G
    omega
   rw[q]at Q ⊢;have h:eV (c::l)=uR l:=by
    conv=>lhs;unfold eV
    simp only[];rw[ad W,ad aa]
   rw[h];refine bm (λN=>?_) (λN=>?_)
   .have:=fk N
    match l,B with
    |[],_=>exact⟨rfl,Fr.refl _ _⟩
    |[b],_=>exact⟨rfl,Fr.refl _ _⟩
    |b::d::r,B=>simp at B;omega
   .have:=l5 N;obtain⟨b,d,r,rfl⟩:∃b d r,l=b::d::r:=by
     match l,B with
     |[],e=>simp at e;omega
     |[b],e=>simp at e;omega
     |b::d::r,_=>exact⟨b,d,r,rfl⟩
    unfold uR;simp only[];have E:s[1]? =some b:=by rw[xy q];rfl
    have T:bl (s.extract 2 s.size)=d::r:=by rw[Jr,fW (by rw[dd];omega),q];rfl
    have am:s.size=r.length+3:=by rw[B];rfl
    have fin:∀(base C:Nat),C<=100->Ar.S4 s (base:Int) (C:Int) w λY D=>Y=ab (.tuple #[.int .i64 (if(d::r).all (cQ base)then(if C<(d::r).length then((0:Int),(4:Int))else(3,0))else(0,2)).1,.int .i64 (if(d::r).all (cQ base)then(if C<(d::r).length then((0:Int),(4:Int))else(3,0))else(0,2)).2])/\af w D:=λbase C ai=>by
     refine⟨io,io,(MM (s.extract 2 s.size) base w ?_).mono ?_⟩
     .rw [T];exact λj y=>Q j (by simp at y ⊢;rcases y with e|e<;>simp[e])
     .rintro Y J ⟨rfl,k⟩;rw[T];refine⟨_,rfl,bm (λe=>?_) (λe=>?_)⟩
      .have:(d::r).all (cQ base)=false:=by cases P:(d::r).all (cQ base)with
        |false=>rfl
        |true=>rw[P]at e;cases e
       rw[this];exact⟨rfl,k⟩
      .have:(d::r).all (cQ base)=true:=by cases P:(d::r).all (cQ base)with
        |true=>rfl
        |false=>rw[P]at e;cases e
       rw[this,ag rfl];rw[bH _ io];refine bm (λe=>?_) (λe=>?_)
       .have:=fk e;rw[ag (by simp;omega)];exact⟨rfl,k⟩
       .have:=l5 e;rw[ad (by simp;omega)];exact⟨rfl,k⟩
    refine⟨io,b,E,bm (λx=>⟨io,b,E,bm (λF=>?_) (λF=>⟨io,b,E,?_⟩)⟩) (λx=>⟨io,b,E,?_⟩)⟩
    .have z:¬b.toNat=98:=λh=>by rw[h]at x;simp at x
     have K:¬b.toNat=120:=λh=>by rw[h]at F;simp at F
     rw[ad z,ad K];exact⟨rfl,Fr.refl _ _⟩
    .have z:¬b.toNat=98:=λh=>by rw[h]at x;simp at x
     have K:b.toNat=120:=by
      have:(b.toNat:Int)=120:=by simpa using F
      omega
     rw[ad z,ag K];exact aR (by rw[K];rfl) (fin 16 16 io)
    .have z:b.toNat=98:=by
      have:(b.toNat:Int)=98:=by simpa using x
      omega
     rw[ag z];exact aT (by rw[z];rfl) (fin 2 64 io)
def Ke{P:au}{f:b5}{args:Array V}{w:I}{A:Ending->Prop}(h:ah P f args w λr d=>A r/\w=d):ah P f args w λr d=>A r/\af w d:=h.mono λ_ _ ⟨a,e⟩=>⟨a,e▸Fr.refl _ _⟩
def No(c:UInt8)(e:cQ 16 c=true):Go.Lib.indexByte [48,49,50,51,52,53,54,55,56,57,97,98,99,100,101,102] c=(eR c:Int)/\eR c<16:=by
 have all:∀d:Fin 256,cQ 16 (c9 d.val)=true->Go.Lib.indexByte [48,49,50,51,52,53,54,55,56,57,97,98,99,100,101,102] (c9 d.val)=(eR (c9 d.val):Int)/\eR (c9 d.val)<16:=by decide+kernel
 have:=all ⟨c.toNat,c.toNat_lt⟩;simp only[UInt8.ofNat_toNat]at this;exact this e
def Zl(x y:Nat)(d:x<16)(e:y<16):W.qM .i64 (aE .i64 ((x:Int) *2^4)) (y:Int)=((16 *x+y:Nat):Int):=by
 have all:∀x y:Fin 16,W.qM .i64 (aE .i64 ((x.val:Int) *2^4)) (y.val:Int)=((16 *x.val+y.val:Nat):Int):=by decide+kernel
 exact all ⟨x,d⟩ ⟨y,e⟩
def IH(i:Nat)(w:I):IR->aC
 |.ok c u=>λr d=>r=ab (.tuple #[.int .u8 (c.toNat:Int),.int .i64 ((i+u:Nat):Int),.agg #[.int .i64 0,.int .i64 0]])/\af w d
 |.bad a e=>λr d=>(∃h j,r=ab (.tuple #[.int .u8 h,.int .i64 j,.agg #[.int .i64 e,.int .i64 ((i+a:Nat):Int)]]))/\af w d
def MN(s:ByteArray)(i:Nat)(c:UInt8)(l:List UInt8)(hl:(bl s).drop i=c::l)(aN:s.size<=1000000)(w:I):ah U OT #[.string s,.int .i64 (i:Int)] w (IH i w (ef (c::l))):=by
 have N:s.size=i+l.length+1:=by have:=congrArg List.length hl;rw[i9,dd]at this;simp at this;omega
 have get:∀k,s[i+k]? =(c::l)[k]?:=λk=>by rw[xy (l:=bl s) rfl,<-hl,List.getElem?_drop]
 have g0:s[i]? =some c:=get 0;have ac:s[aY (i:Int)]? =some c:=by rw[cb];exact g0
 have e1:aE .i64 ((i:Int)+1)=((i+1:Nat):Int):=bt i io;have e2:aE .i64 ((i:Int)+2)=((i+2:Nat):Int):=by rw[bH _ io];omega
 have e4:aE .i64 ((i:Int)+4)=((i+4:Nat):Int):=by rw[bH _ io];omega
 refine pT.aq ((O.start (M:=F0) (w:=w) [] us).aw λD w1 H1=>H1.aw λL w2 H2=>H2.aw λF w3 K=>?_);have K:O F0 w w3 [.g D,.g L,.g F] []:=K;refine⟨io,c,ac,cq (λaz=>?_) (λaz=>?_)⟩
 .have aK:c.toNat≠92:=io
  have e:ef (c::l)=if c.toNat<32\/126<c.toNat then .bad 0 2 else .ok c 1:=by
   conv=>lhs;unfold ef
   simp only[ag aK]
  rw[e];have bad:c.toNat<32\/126<c.toNat->loc [D,L,F] w3 λH=>pT.aV (i:Int) D 0 0 F 2 (i:Int) H (IH i w (if c.toNat<32\/126<c.toNat then .bad 0 2 else .ok c 1)):=λaj=>by rw[ag aj];exact K.ae λP z=>z.ae λG C=>⟨⟨_,_,rfl⟩,C.fr⟩
  refine⟨io,c,ac,aS (λap=>bad io) (λap=>⟨io,c,ac,aS (λao=>bad io) (λao=>⟨io,c,ac,K.ae λP z=>?_⟩)⟩)⟩;rw[ad io,e1];exact⟨rfl,z.fr⟩
 .have J:¬c.toNat≠92:=io
  rw[e1];cases l with
  |nil=>
   have e:ef [c]=.bad 1 3:=by(conv=>lhs;unfold ef);simp only[ad J]
   rw[e];refine aR (by simp at N;simp[N]) (K.ae λP z=>?_);rw[show s.size=i+1 by simpa using N];exact⟨⟨_,_,rfl⟩,z.fr⟩
  |cons h l2=>
   refine aT (by simp at N;simp;omega) ⟨io,h,get 1,K.ae λP z=>?_⟩;have two:∀(x:Int),pT.bL (i:Int) D 0 0 x P λr q=>r=ab (.tuple #[.int .u8 x,.int .i64 ((i+2:Nat):Int),.agg #[.int .i64 0,.int .i64 0]])/\af w q:=λx=>z.ae λG C=>by rw[e2];exact⟨rfl,C.fr⟩
   refine cq (λan=>?_) (λan=>?_)
   .have aJ:h.toNat≠120:=io
    have e:ef (c::h::l2)=if h.toNat=34\/h.toNat=92 then .ok h 2 else .bad 0 2:=by
     conv=>lhs;unfold ef
     simp only[ad J,ag aJ]
    rw[e];refine cq (λar=>cq (λaA=>z.ae λG C=>?_) (λaA=>?_)) (λar=>?_)
    .rw [ad io];exact⟨⟨_,_,rfl⟩,C.fr⟩
    .rw [ag (.inr io)];exact two _
    .rw [ag (.inl io)];exact two _
   .have Y:¬h.toNat≠120:=io
    have W:¬(h.toNat=34\/h.toNat=92):=io
    rw[e2];have aa:∀(k:Nat) (Z:Nat) (G:I) (R:aC),k<i+4->i+2<=k->O F0 w G [.g D,.g L,.g F] []->Z<16->
      (s.size=k->∀q,af w q->R (ab (.tuple #[.int .u8 0,.i (i:Int),.agg #[.i 3,.i (s.size:Int)]])) q)->
      (∀x,s[k]? =some x->cQ 16 x=false->∀q,af w q->R (ab (.tuple #[.int .u8 0,.i (i:Int),.agg #[.i 2,.i (i:Int)]])) q)->
      (∀x y,s[k]? =some x->cQ 16 x=true->O F0 w y [.g D,.g L,.g F] []->pT.iv s (i:Int) D 0 0 L 3 (s.size:Int) F 2 (i:Int) ((16 *Z+eR x:Nat):Int) ((k+1:Nat):Int) y R)->k<=s.size->
      pT.iv s (i:Int) D 0 0 L 3 (s.size:Int) F 2 (i:Int) (Z:Int) ((k:Nat):Int) G R:=by
     intro k Z G R hk aL C hb h1 h2 h3 aM;refine pT.ox ?_;rw[e4];refine aR (a6 io) (ax (λB=>C.ae λy E=>h1 io y E.fr) (λB=>?_));have aB:k<s.size:=io
     have d:s[k]? =some s[k]:=getElem?_pos s k aB;generalize s[k]=x at d;refine⟨io,x,by rw[cb];exact d,C.av (A:=λr _=>r=ab (.bool (cQ 16 x))) (Ke (Fk x 16 G)) ?_⟩;rintro _ y rfl E;refine⟨_,rfl,eS (λj=>E.ae λH S=>h2 x d j H S.fr) (λj=>⟨io,x,by rw[cb];exact d,E.av (A:=λr _=>r=ab (.int .i64 (Go.Lib.indexByte [48,49,50,51,52,53,54,55,56,57,97,98,99,100,101,102] x))) (Ke (AD _ x y)) ?_⟩)⟩;rintro _ H rfl S;refine⟨_,rfl,?_⟩;obtain⟨aH,ai⟩:=No x j;show pT.iv _ _ _ _ _ _ _ _ _ _ _ _ (aE .i64 ((k:Int)+1)) H R;rw[aH,Zl _ _ hb ai,bt k io];exact h3 x H d j S
    cases l2 with
    |nil=>
     have e:ef [c,h]=.bad 2 3:=by
      conv=>lhs;unfold ef
      simp only[ad J,ad W,ad Y]
     rw[e];have B:s.size=i+2:=by simpa using N
     refine aa (i+2) 0 P _ io io z io (λ_ q f=>?_) (λx d=>?_) (λx y d=>?_) io
     .rw [B];exact⟨⟨_,_,rfl⟩,f⟩
     .rw [get 2]at d;simp at d
     .rw [get 2]at d;simp at d
    |cons x l3=>
     have B:s.size=i+l3.length+3:=by simp at N;omega
     refine aa (i+2) 0 P _ io io z io (λaj=>io) (λx' d j q f=>?_) (λx' y d j E=>?_) io
     .rw [get 2]at d;have:x=x':=by simpa using d
      subst this;have aG:¬cQ 16 x=true:=by simp[j]
      have e:ef (c::h::x::l3)=.bad 0 2:=by
       conv=>lhs;unfold ef
       simp only[ad J,ad W,ad Y,ad aG]
      rw[e];exact⟨⟨_,_,rfl⟩,f⟩
     .rw [get 2]at d;have:x=x':=by simpa using d
      subst this;have ai:=(No x j).2;rw[show 16 *0+eR x=eR x by omega];cases l3 with
      |nil=>
       have e:ef [c,h,x]=.bad 3 3:=by
        conv=>lhs;unfold ef
        simp only[ad J,ad W,ad Y,ag j]
       rw[e];have B:s.size=i+3:=by simpa using B
       refine aa (i+3) _ y _ io io E ai (λ_ q f=>?_) (λx d=>?_) (λx y d=>?_) io
       .rw [B];exact⟨⟨_,_,rfl⟩,f⟩
       .rw [get 3]at d;simp at d
       .rw [get 3]at d;simp at d
      |cons Q l4=>
       have B:s.size=i+l4.length+4:=by simp at B;omega
       refine aa (i+3) _ y _ io io E ai (λaj=>io) (λy' T am q f=>?_) (λy' H T am S=>?_) io
       .rw [get 3]at T;have:Q=y':=by simpa using T
        subst this;have aI:¬cQ 16 Q=true:=by simp[am]
        have e:ef (c::h::x::Q::l4)=.bad 0 2:=by
         conv=>lhs;unfold ef
         simp only[ad J,ad W,ad Y,ag j,ad aI]
        rw[e];exact⟨⟨_,_,rfl⟩,f⟩
       .rw [get 3]at T;have:Q=y':=by simpa using T
        subst this;have e:ef (c::h::x::Q::l4)=.ok (c9 (16 *eR x+eR Q)) 4:=by
         conv=>lhs;unfold ef
         simp only[ad J,ad W,ad Y,ag j,ag am]
        rw[e];refine pT.ox ?_;rw[e4];refine aT (a7 io) (S.ae λw8 H8=>⟨?_,H8.fr⟩);rw[Io,UInt8.toNat_ofNat']
namespace xu
def aX:=bD (aA U Tryz.f65 [(8,lr 4)] [6,10]) [0,1,1,1,2] [(0,.st),(1,.I),(6,.l [.I,.I] jf),(7,.s)]
abbrev t1:=bB aX
def bR:=bO t1 aX
def aq:=aB t1 OU [.st,.I]
end xu
namespace M6
def ok:=aB (aA U Tryz.f40 [] []) OV [.st]
end M6
namespace kS
abbrev P0:Ps:=[(0,.r),(1,.r)]
def L0:=bD (aA U Tryz.f62 [] []) [0,1] P0
abbrev t1:=bB L0
def L2:=bD t1 [0,1,1,1,1,2] P0
abbrev t2:=bB L2
def pq:=bO t2 L2
abbrev S1:=ai t2 [1,2] P0
abbrev t3:=aj S1
def cH:=bO t3 L0
def ok:=aB t3 p9 [.r,.r]
end kS
namespace n6
abbrev S1:=ai (aA U Tryz.f64 [(16,lr 4),(24,lr 7),(26,lr 5),(6,lr 5)] []) [5] [(3,.r),(4,.r),(5,.r)]
abbrev t1:=aj S1
abbrev P0:Ps:=[(1,.r),(2,.r),(3,.r),(4,.r),(5,.r)]
def L2:=bD t1 [0,3,7,1,1,1,4] P0
abbrev t2:=bB L2
abbrev S3:=ai t2 [1,4,7,1,1,1,4] P0
abbrev t3:=aj S3
abbrev S5:=ai t3 [5,1,7,1,1,1,4] [(3,.r),(4,.r),(5,.r),(10,.I)]
abbrev t4:=aj S5
abbrev S4:=ai t4 [1,1,7,1,1,1,4] P0
abbrev t5:=aj S4
def pq:=bO t5 L2
abbrev S0:=ai t5 [1,1,4] [(1,.r),(2,.r),(3,.r),(4,.r),(5,.r),(6,.Y)]
abbrev t6:=aj S0
def ok:=aB t6 xM [.r,.r,.r]
end n6
namespace M5
def ok:=aB (aA U Tryz.f39 [] []) OR [.f]
end M5
namespace Aq
noncomputable def C0:Code:=(Tryz.f61.body).getD .skip
noncomputable def C1:=C0.fs
noncomputable def C2:=C1.fs
abbrev Q0(R:aC):ln:=(bodyPost U Tryz.f61 R)
abbrev Q1(R:aC):ln:=(Exit.inBlock 0 (Q0 R))
def L0(e:Nat)(d:Addr)(w:I)(R:aC):Prop:=LP U (cx 25) C2 (Q1 R) [(0,.func (.yield e) #[] #[]),(1,.pointer (some d))] w
def qE(E:Env)(w:I)(R:aC):Prop:=W.zw (Env.get? E 0) λe=>W.b7 (Env.get? E 1) λd=>L0 e d w R
def tW:IN U 25 qE C2 Q1:=by intro q k x e;obtain⟨y,h,h_1⟩:=W.Jd e;obtain⟨w,j,h_2⟩:=W.cr h_1;intro a d;exact h_2 a (d.cons h (d.cons j d.nil))
noncomputable def C3:=C2.fs
noncomputable def C4:=C3.sn
noncomputable def C5:=C4.sn
noncomputable def C6:=C5.fs
noncomputable def C7:=C5.sn
def cH(q:Nat)(h:Addr)(w:I)(R:aC)(G:∃j:Fv,w.cell? h=some (j.v)/\
 cS (hv U j.n) (ah U j.n (j.bs++#[]++j.cs) w λH x=>∃A:Int,∃B:ByteArray,∃C:Int,∃D:Int,∃F:Int,H=ab (.tuple #[.agg #[.i A,.string B,.i C],.agg #[.i D,.i F]])/\
 dh x (.cells #[.i 0,.s0,.i 0] dz) λk=>
 dh k (.cells #[.i 0,.i 0] jf) λO=>
 BU O (nb x) (.i A) (.string B) (.i C) λP=>aL P (nb k) (.i D) λQ=>
 aL Q ((nb k).add 1) (.i F) λz=>
 MR z (nb x) λJ K L=>Z5 z (nb k) λM N=>pc U q #[.agg #[.i J,.string K,.i L],.agg #[.i M,.i N]] z λ(t13:Bool) e=>bK (!t13) (R (ab (.tuple #[])) e) (∃t17:Int,e.cell? ((nb k).add 0)=some (.i t17)/\
 bK (t17 !=0) (R (ab (.tuple #[])) e) (∃t22:Int,e.cell? ((nb x).add 0)=some (.i t22)/\
 bK (t22==6) (R (ab (.tuple #[])) e) (L0 q h e R))))):L0 q h w R:=
 LP.step (n:=(cx 25)) (c:=C2) (E:=[(0,.func (.yield q) #[] #[]),(1,.pointer (some h))]) (w:=w) (bk C2 1 (by kernel_rfl) (sr C3 (show(λ(E:Env) (w:I)=>eT U C3 (λE w=>eT U C4 (λE w=>iA (Env.val E (.tmp 24)) (lT U Tryz.f61 E w (λv=>R (ab v) w)) (qE E w R)) E w) E w) [(0,.func (.yield q) #[] #[]),(1,.pointer (some h))] w from mp G) λ_ _ d=>(sr C4 d λ_ _ d=>(cn C5 d (λd=>(rt C6 λa y=>yl y d)) (λd=>(sk C7 λa y=>tW R _ _ d a y))))))
def ok(e:Nat)(d:Addr)(w:I)(R:aC)(h:L0 e d w R):ah U sK #[.func (.yield e) #[] #[],.pointer (some d)] w R:=
 wP (R:=R) (fn:=Tryz.f61) (c:=C0) (args:=[.func (.yield e) #[] #[],.pointer (some d)]) (by kernel_rfl) (by kernel_rfl) (by kernel_rfl) (bk C0 0 (by kernel_rfl) (lp C1 (by kernel_rfl) (tW R _ _ (show(λ(E:Env) (w:I)=>qE E w R) (kL 0 [.func (.yield e) #[] #[],.pointer (some d)]) w from mp h))))
end Aq
namespace Ft
noncomputable def C0:Code:=(Tryz.f23.body).getD .skip
noncomputable def C1:=C0.sn
noncomputable def C2:=C1.sn
noncomputable def C3:=C2.sn
noncomputable def C4:=C3.fs
noncomputable def C5:=C4.sn
noncomputable def C6:=C5.fs
noncomputable def C7:=W.Code.Jg C6
noncomputable def C8:=W.Code.Jm C6
noncomputable def C9:=C8.fs
noncomputable def kj:=C9.fs
noncomputable def ko:=kj.sn
noncomputable def l6:=ko.fs
abbrev Q0(l_:Nat)(d:Loop)(R:aC):Exit->Act->I->Prop:=(roundPost U l_ R)
noncomputable def nG:=C9.sn
abbrev Q1(l_:Nat)(d:Loop)(R:aC):Exit->Act->I->Prop:=(Exit.then (g2 U ⟨28,[],some l_⟩ nG (Exit.inBlock 1 (Q0 l_ d R))) (Exit.inBlock 1 (Q0 l_ d R)))
noncomputable def pg:=l6.fs
noncomputable def qC:=l6.sn
abbrev S4(l_:Nat)(j:eN->Option Code->Obj)(t2 t3 t4 d:Addr)(w:I)(R:aC):Prop:=
 uE w λe=>∃t20:Int,e.cell? (d.add 1)=some (.i t20)/\
 ∃t22:Int,e.cell? (d.add 0)=some (.i t22)/\
 aL e t2 (.slice none 0 0) λh=>
 h.cell? (d.add 0)=some (.i t22)/\h.cell? (d.add 1)=some (.i t20)/\aL h t3 (.i t20) λk=>
 k.cell? (d.add 0)=some (.i t22)/\aL k t4 (.i t22) λq=>
 hG q l_ (j .busy none) (j .done (some .ret)) λx=>R (ab (.bool false)) x
def y5(l_:Nat)(e:eN->Option Code->Obj)(E:Env)(w:I)(R:aC):Prop:=W.b7 (Env.get? E 2) λh=>W.b7 (Env.get? E 3) λj=>W.b7 (Env.get? E 4) λk=>W.b7 (Env.get? E 7) λd=>S4 l_ e h j k d w R
def CN(l_:Nat)(e:Loop)(R:aC)(E:Env)(w:I)(q:y5 l_ (lo e) E w R):WP U ⟨28,[],some l_⟩ l6 (Q1 l_ e R) E w:=by obtain⟨F,A,h_1⟩:=W.cr q;obtain⟨G,B,h_2⟩:=W.cr h_1;obtain⟨H,C,h_3⟩:=W.cr h_2;obtain⟨k,D,z⟩:=W.cr h_3;exact λa d=>WP.at (n:=⟨28,[],some l_⟩) (E:=[(2,.pointer (some F)),(3,.pointer (some G)),(4,.pointer (some H)),(7,.pointer (some k))]) (WP.seq (c:=l6) (x:=pg) (y:=qC) (by kernel_rfl)<|WP.draw (c:=pg) [0,1,2,3,4,5,6] (λE w=>hG w l_ ((lo e) .busy none) ((lo e) .done (some .ret)) λJ=>R (ab (.bool false)) J) (by kernel_rfl) (mp z) λ_ _ a h j=>(WP.ret (c:=qC) (Q:=(Q1 l_ e R)) (by kernel_rfl) λa h=>(show roundPost U l_ R .ret a _ from SK (a:=a) (j).1 (j).2)) a h) (d.cons A (d.cons B (d.cons C (d.cons D d.nil))))
abbrev Q2(l_:Nat)(d:Loop)(R:aC):Exit->Act->I->Prop:=(Exit.inBlock 1 (Q0 l_ d R))
abbrev S5(l_:Nat)(e:eN->Option Code->Obj)(d x:Addr)(w:I)(R:aC):Prop:=
 ∃t23:Sl,w.cell? d=some (t23.v)/\
 MR w x λj k q=>dh w (.cells #[.i j,.string k,.i q] dz) λy=>
 ∃(t26:Sl) (h:I),Sem.run U (Builtin.append_ #[rC,rC] rC #[t23.v,.slice (some (nb w)) 1 1]) y=.ok (t26.v) h/\aL h d (t26.v) λz=>
 hG z l_ (e .busy none) (e .ready none) λA=>R (ab (.bool true)) A
def wq(l_:Nat)(e:eN->Option Code->Obj)(E:Env)(w:I)(R:aC):Prop:=W.b7 (Env.get? E 5) λd=>W.b7 (Env.get? E 6) λh=>S5 l_ e d h w R
def CO(l_:Nat)(d:Loop)(R:aC)(E:Env)(w:I)(j:wq l_ (lo d) E w R):WP U ⟨28,[],some l_⟩ nG (Q2 l_ d R) E w:=by obtain⟨x,k,h_1⟩:=W.cr j;obtain⟨y,q,h_2⟩:=W.cr h_1;exact λa e=>WP.at (n:=⟨28,[],some l_⟩) (E:=[(5,.pointer (some x)),(6,.pointer (some y))]) (WP.mD (c:=nG) (λE w=>hG w l_ ((lo d) .busy none) ((lo d) .ready none) λz=>R (ab (.bool true)) z) (by kernel_rfl) (mp h_2) λ_ _ a A h=>SJ (a:=a) (h).1 (h).2) (e.cons k (e.cons q e.nil))
noncomputable def mN:=kj.fs
noncomputable def ph:=ko.sn
abbrev S3(l_:Nat)(e:eN->Option Code->Obj)(t2 t3 t4 h j d:Addr)(w:I)(R:aC):Prop:=
 ∃t17:Int,w.cell? (d.add 0)=some (.i t17)/\
 bK (t17 !=0) (S4 l_ e t2 t3 t4 d w R) (S5 l_ e h j w R)
def wo(l_:Nat)(h:eN->Option Code->Obj)(E:Env)(w:I)(R:aC):Prop:=W.b7 (Env.get? E 2) λj=>W.b7 (Env.get? E 3) λk=>W.b7 (Env.get? E 4) λq=>W.b7 (Env.get? E 5) λe=>W.b7 (Env.get? E 6) λx=>W.b7 (Env.get? E 7) λd=>S3 l_ h j k q e x d w R
def CM(l_:Nat)(e:Loop)(R:aC)(E:Env)(w:I)(q:wo l_ (lo e) E w R):WP U ⟨28,[],some l_⟩ kj (Q1 l_ e R) E w:=by obtain⟨L,C,h_1⟩:=W.cr q;obtain⟨M,D,h_2⟩:=W.cr h_1;obtain⟨N,F,h_3⟩:=W.cr h_2;obtain⟨K,G,z⟩:=W.cr h_3;obtain⟨O,H,A⟩:=W.cr z;obtain⟨k,J,B⟩:=W.cr A;exact λa d=>WP.at (n:=⟨28,[],some l_⟩) (E:=[(2,.pointer (some L)),(3,.pointer (some M)),(4,.pointer (some N)),(5,.pointer (some K)),(6,.pointer (some O)),(7,.pointer (some k))]) (WP.seq (c:=kj) (x:=mN) (y:=ko) (by kernel_rfl)<|WP.mD (c:=mN) (λE w=>iA (Env.val E (.tmp 18)) (y5 l_ (lo e) E w R) (wq l_ (lo e) E w R)) (by kernel_rfl) (mp B) λ_ _ a j h=>(WP.iA (c:=ko) (x:=l6) (y:=ph) (o:=.tmp 18) (by kernel_rfl) (λh=>(CN l_ e R _ _ h)) (λh=>(WP.skip (c:=ph) (by kernel_rfl) λa j=>(CO l_ e R _ _ h) a j)) h) a j) (d.cons C (d.cons D (d.cons F (d.cons G (d.cons H (d.cons J d.nil))))))
noncomputable def nH:=C7.sn
abbrev Q3(l_:Nat)(d:Loop)(R:aC):Exit->Act->I->Prop:=(wv U 28 l_ d C8 (roundPost U l_ R))
abbrev S2(l_:Nat)(d:eN->Option Code->Obj)(t2 t3 t4 e k:Addr)(h j:Int)(w:I)(R:aC):Prop:=
 dh w (.cells #[.i 0,.i 0] jf) λq=>
 aL q (nb w) (.i h) λx=>
 aL x ((nb w).add 1) (.i j) λy=>
 hG y l_ (d .ready none) (d .busy none) λz=>S3 l_ d t2 t3 t4 e k (nb w) z R
def wm(l_:Nat)(e:eN->Option Code->Obj)(E:Env)(w:I)(R:aC):Prop:=W.b7 (Env.get? E 2) λA=>W.b7 (Env.get? E 3) λB=>W.b7 (Env.get? E 4) λC=>W.b7 (Env.get? E 5) λd=>W.b7 (Env.get? E 6) λD=>W.asAgg (Env.get? E 15) λk=>W.jq k λy q=>W.asInt .i64 (some y) λh=>W.jq q λz x=>W.asInt .i64 (some z) λj=>W.l9 x<|S2 l_ e A B C d D h j w R
def CL(l_:Nat)(e:Loop)(R:aC)(E:Env)(w:I)(j:wm l_ (lo e) E w R):WP U ⟨28,[],some l_⟩ nH (Q3 l_ e R) E w:=by obtain⟨S,J,h_1⟩:=W.cr j;obtain⟨T,K,h_2⟩:=W.cr h_1;obtain⟨Y,L,h_3⟩:=W.cr h_2;obtain⟨O,M,A⟩:=W.cr h_3;obtain⟨Z,N,B⟩:=W.cr A;obtain⟨aa,H,C⟩:=W.zv B;obtain⟨ae,ac,rfl,D⟩:=W.lA C;obtain⟨P,ex,F⟩:=W.nS D;obtain rfl:=eU ex;obtain⟨af,ad,rfl,G⟩:=W.lA F;obtain⟨Q,ex,q⟩:=W.nS G;obtain rfl:=eU ex;obtain⟨rfl,z⟩:=W.qJ q;exact λa d=>WP.at (n:=⟨28,[],some l_⟩) (E:=[(2,.pointer (some S)),(3,.pointer (some T)),(4,.pointer (some Y)),(5,.pointer (some O)),(6,.pointer (some Z)),(15,.agg #[.i P,.i Q])]) (WP.mD (c:=nH) (λE w=>w.heap[l_]? =some (lo e .ready none)/\((λw=>wo l_ (lo e) E w R) (w.putObj l_ (lo e .busy none)))) (by kernel_rfl) (mp z) λ_ _ a k h=>⟨(h).1,(WP.block (c:=C8) (x:=C9) (id:=1) (by kernel_rfl) (WP.seq (c:=C9) (x:=kj) (y:=nG) (by kernel_rfl) (CM l_ e R _ _ (h).2))) a k⟩) (d.cons J (d.cons K (d.cons L (d.cons M (d.cons N (d.cons H d.nil))))))
noncomputable def pj:=C7.fs
abbrev S1(l_:Nat)(e:eN->Option Code->Obj)(t2 t3 t4 d:Addr)(h:Int)(j:ByteArray)(k q x:Int)(w:I)(R:aC):Prop:=
 dh w (.cells #[.i 0,.s0,.i 0] dz) λy=>
 BU y (nb w) (.i h) (.string j) (.i k) λz=>S2 l_ e t2 t3 t4 d (nb w) q x z R
def CJ(l_:Nat)(e:eN->Option Code->Obj)(E:Env)(w:I)(R:aC):Prop:=W.b7 (Env.get? E 2) λM=>W.b7 (Env.get? E 3) λN=>W.b7 (Env.get? E 4) λO=>W.b7 (Env.get? E 5) λd=>W.asAgg (Env.get? E 14) λq=>W.jq q λA x=>W.asInt .i64 (some A) λh=>W.jq x λB y=>W.qK (some B) λj=>W.jq y λC z=>W.asInt .i64 (some C) λk=>W.l9 z<|W.asAgg (Env.get? E 15) λG=>W.jq G λK H=>W.asInt .i64 (some K) λD=>W.jq H λL J=>W.asInt .i64 (some L) λF=>W.l9 J<|S1 l_ e M N O d h j k D F w R
def CK(l_:Nat)(e:Loop)(R:aC)(E:Env)(w:I)(h:CJ l_ (lo e) E w R):WP U ⟨28,[],some l_⟩ C7 (Q3 l_ e R) E w:=by obtain⟨t2,S,h_1⟩:=W.cr h;obtain⟨t3,T,h_2⟩:=W.cr h_1;obtain⟨t4,Y,h_3⟩:=W.cr h_2;obtain⟨l5,Z,J⟩:=W.cr h_3;obtain⟨ag,P,K⟩:=W.zv J;obtain⟨an,ai,rfl,L⟩:=W.lA K;obtain⟨aa,ex,M⟩:=W.nS L;obtain rfl:=eU ex;obtain⟨ao,aj,rfl,N⟩:=W.lA M;obtain⟨ac,ex,O⟩:=W.uh N;obtain rfl:=eU ex;obtain⟨ap,am,rfl,q⟩:=W.lA O;obtain⟨ad,ex,z⟩:=W.nS q;obtain rfl:=eU ex;obtain⟨rfl,A⟩:=W.qJ z;obtain⟨aq,Q,B⟩:=W.zv A;obtain⟨aw,ar,rfl,C⟩:=W.lA B;obtain⟨ae,ex,D⟩:=W.nS C;obtain rfl:=eU ex;obtain⟨ax,av,rfl,F⟩:=W.lA D;obtain⟨af,ex,G⟩:=W.nS F;obtain rfl:=eU ex;obtain⟨rfl,H⟩:=W.qJ G;exact λa d=>WP.at (n:=⟨28,[],some l_⟩) (E:=[(2,.pointer (some t2)),(3,.pointer (some t3)),(4,.pointer (some t4)),(5,.pointer (some l5)),(14,.agg #[.i aa,.string ac,.i ad]),(15,.agg #[.i ae,.i af])]) (WP.seq (c:=C7) (x:=pj) (y:=nH) (by kernel_rfl)<|WP.mD (c:=pj) (λE w=>wm l_ (lo e) E w R) (by kernel_rfl) (mp H) λ_ _ a j k=>(CL l_ e R _ _ k) a j) (d.cons S (d.cons T (d.cons Y (d.cons Z (d.cons P (d.cons Q d.nil))))))
abbrev rG(l_:Nat)(e:eN->Option Code->Obj)(t2 t3 t4 d y:Addr)(h:Int)(j:ByteArray)(k q x:Int)(w:I)(R:aC):Prop:=
 S1 l_ e t2 t3 t4 d h j k q x w R
def Dd(l_:Nat)(d:Loop)(t2 t3 t4 e h:Addr)(j:Int)(k:ByteArray)(q x y:Int)(w:I)(R:aC)(z:rG l_ (lo d) t2 t3 t4 e h j k q x y w R):WP U ⟨28,[],some l_⟩ C7 (wv U 28 l_ d C8 (roundPost U l_ R)) (qh [(2,.pointer (some t2)),(3,.pointer (some t3)),(4,.pointer (some t4)),(5,.pointer (some e)),(13,.func (.func sK) #[] #[.pointer (some h)])] [14,15] [.agg #[.i j,.string k,.i q],.agg #[.i x,.i y]]) w:=
 (CK l_ d R _ _ (mp z))
noncomputable def ku:=C3.sn
abbrev Q4(R:aC):ln:=(bodyPostM Fence.wide 0 U Tryz.f23 R)
noncomputable def nI:=ku.fs
noncomputable def rI:=ku.sn
abbrev S6(k:Nat)(t2 t3 t4 q:Addr)(w:I)(R:aC):Prop:=
 ∃t27:Sl,w.cell? q=some (t27.v)/\
 aL w t2 (t27.v) λx=>
 aL x t3 (.i 0) λy=>
 aL y t4 (.i 0) λz=>
 hG z k (.deferred (some [])) (.deferred none) λd=>∃e:Sl,d.cell? t2=some (e.v)/\
 ∃h:Int,d.cell? t3=some (.i h)/\
 ∃j:Int,d.cell? t4=some (.i j)/\
 R (ab (.tuple #[e.v,.i h,.i j])) d
def y6(d:Nat)(E:Env)(w:I)(R:aC):Prop:=W.b7 (Env.get? E 2) λh=>W.b7 (Env.get? E 3) λj=>W.b7 (Env.get? E 4) λk=>W.b7 (Env.get? E 5) λe=>S6 d h j k e w R
def CP(e:Nat)(R:aC)(E:Env)(w:I)(j:y6 e E w R):WP U (marked 28 e) ku (Q4 R) E w:=by obtain⟨F,z,h_1⟩:=W.cr j;obtain⟨G,A,h_2⟩:=W.cr h_1;obtain⟨H,B,h_3⟩:=W.cr h_2;obtain⟨D,C,q⟩:=W.cr h_3;exact λa d=>WP.at (n:=(marked 28 e)) (E:=[(2,.pointer (some F)),(3,.pointer (some G)),(4,.pointer (some H)),(5,.pointer (some D))]) (WP.seq (c:=ku) (x:=nI) (y:=rI) (by kernel_rfl)<|WP.mD (c:=nI) (λE w=>Bx U Tryz.f23 E w e R) (by kernel_rfl) (mp q) λ_ _ a h k=>(WP.ret (c:=rI) (by kernel_rfl) λa h=>ym h k) a h) (d.cons z (d.cons A (d.cons B (d.cons C d.nil))))
abbrev S0(t2 t3 t4 y C:Addr)(w:I)(R:aC):Prop:=
 ∀d:eN->Option Code->Obj,(∀(D:Int) (E:ByteArray) (F G H:Int) (k:I) (q:Bool->I->Prop),k.heap[w.heap.size+1]? =some (d .ready none)->rG (w.heap.size+1) d t2 t3 t4 y C D E F G H k (λj K=>∃x:Bool,j=ab (.bool x)/\q x K)->pc U (w.heap.size+1) #[.agg #[.i D,.string E,.i F],.agg #[.i G,.i H]] k q)->
 ah U sK #[.func (.yield (w.heap.size+1)) #[] #[],.pointer (some C)] ((w.alloc (.deferred (some []))).alloc (d .ready none)) λj L=>(∃J,j=ab J)/\rM L (w.heap.size+1) d (λe=>S6 w.heap.size t2 t3 t4 y e R) (λM e=>False) (λe=>hG e w.heap.size (.deferred (some [])) (.deferred none) λh=>∃z:Sl,h.cell? t2=some (z.v)/\
 ∃A:Int,h.cell? t3=some (.i A)/\
 ∃B:Int,h.cell? t4=some (.i B)/\
 R (ab (.tuple #[z.v,.i A,.i B])) h)
abbrev Q5(R:aC):ln:=(Exit.then (g2 U (cx 28) ku (bodyPostM Fence.wide 0 U Tryz.f23 R)) (bodyPostM Fence.wide 0 U Tryz.f23 R))
abbrev Q6(R:aC):ln:=(Exit.inBlock 0 (Q5 R))
def tX(E:Env)(w:I)(R:aC):Prop:=W.b7 (Env.get? E 2) λx=>W.b7 (Env.get? E 3) λy=>W.b7 (Env.get? E 4) λz=>W.b7 (Env.get? E 5) λd=>W.ug sK (Env.get? E 13) λk h=>W.l9 k<|W.jq h λq j=>W.b7 (some q) λe=>W.l9 j<|S0 x y z d e w R
def CI:IJ U 28 tX C6 Q6:=by
 intro x aj C y;obtain⟨j,ad,h_1⟩:=W.cr y;obtain⟨k,ae,h_2⟩:=W.cr h_1;obtain⟨q,af,h_3⟩:=W.cr h_2;obtain⟨A,ag,O⟩:=W.cr h_3;obtain⟨ap,an,ac,P⟩:=W.Jc O;obtain⟨rfl,Q⟩:=W.qJ P;obtain⟨aq,ao,rfl,S⟩:=W.lA Q;obtain⟨B,ex,T⟩:=W.cr S;obtain rfl:=eU ex;obtain⟨rfl,Y⟩:=W.qJ T;exact λa d=>WP.at (n:=(cx 28)) (E:=[(2,.pointer (some j)),(3,.pointer (some k)),(4,.pointer (some q)),(5,.pointer (some A)),(13,.func (.func sK) #[] #[.pointer (some B)])]) (WP.range (m:=28) (c:=C6) (g:=.tmp 13) (ps:=#[14,15]) (assign:=C7) (body:=C8) (gf:=sK) (lb:=#[.pointer (some B)]) (λe=>S6 C.heap.size j k q A e x) (λam e=>False) (λe=>hG e C.heap.size (.deferred (some [])) (.deferred none) λw=>∃D:Sl,w.cell? j=some (D.v)/\
 ∃F:Int,w.cell? k=some (.i F)/\
 ∃G:Int,w.cell? q=some (.i G)/\
 x (ab (.tuple #[D.v,.i F,.i G])) w) (by kernel_rfl) rfl (by kernel_rfl)
  (λe h a z=>(CP C.heap.size x _ _ (mp h)) a z)
  (λ_ _ h=>h.elim)
  (λe h a z=>ym z (mp h))
  (λH ai=>Y (lo H) (λJ K L M N w_ K_ aa Z=>Vk (args:=[.agg #[.i J,.string K,.i L],.agg #[.i M,.i N]]) ai aa rfl (by kernel_rfl) (λ_ _ y=>y) (Dd _ H j k q A B J K L M N w_ _ Z)))) (d.cons ad (d.cons ae (d.cons af (d.cons ag (d.cons ac d.nil)))))
noncomputable def qD:=C1.fs
noncomputable def tR:=qD.sn
noncomputable def tS:=tR.fs
noncomputable def y0:=tS.sn
noncomputable def y1:=tR.sn
def ok(e:ByteArray)(w:I)(R:aC)(B:dh w (.cells #[.slice none 0 0] rC) λh=>
 dh h (.cells #[.i 0] bF) λj=>
 dh j (.cells #[.i 0] hn) λx=>
 bK (ak ((e.size:Int)>65536)) (aL x (nb w) (.slice none 0 0) λJ=>
 aL J (nb h) (.i 65536) λK=>
 aL K (nb j) (.i 4) λk=>
 ∃y:Sl,k.cell? (nb w)=some (y.v)/\
 ∃z:Int,k.cell? (nb h)=some (.i z)/\
 ∃A:Int,k.cell? (nb j)=some (.i A)/\
 R (ab (.tuple #[y.v,.i z,.i A])) k) (dh x (.cells #[.slice none 0 0] rC) λL=>
 DS OV #[.string e] L λt12 M=>DS OR #[t12] M λt13 N=>W.ug sK (some t13) λG D=>W.l9 G<|W.jq D λH F=>W.b7 (some H) λC=>W.l9 F<|S0 (nb w) (nb h) (nb j) (nb x) C N R)):ah U ON #[.string e] w R:=
 Kb (R:=R) (fn:=Tryz.f23) (c:=C0) (args:=[.string e]) (by kernel_rfl) (by kernel_rfl) (by kernel_rfl) (sr C0 (show(λ(E:Env) (w:I)=>eT U C0 (λE w=>eT U qD (λE w=>iA (Env.val E (.tmp 10)) (eT U tS (λE w=>lT U Tryz.f23 E w (λv=>R (ab v) w)) E w) (eT U C2 (λE w=>eT U C4 (λE w=>tX E w R) E w) E w)) E w) E w) (kL 0 [.string e]) w from mp B) λ_ _ d=>(sq C1 (sr qD d λ_ _ d=>(cn tR d (λd=>(sr tS d λ_ _ d=>(rt y0 λa q=>SG q d))) (λd=>(sk y1 λa q=>nx q (sr C2 d λ_ _ d=>(sq C3 (sr C4 d λ_ _ d=>(bk C5 0 (by kernel_rfl) (CI R _ _ d)))))))))))
end Ft
def wx(k:Nat)(acc:List UInt8)(w:I):QR->aC
 |.ok t u=>λr d=>r=ab (.tuple #[.string (ba (acc++t)),.int .i64 ((k+u:Nat):Int),.agg #[.int .i64 0,.int .i64 0]])/\af w d
 |.bad a e=>λr d=>(∃h j,r=ab (.tuple #[.string h,.int .i64 j,.agg #[.int .i64 e,.int .i64 ((k+a:Nat):Int)]]))/\af w d
def Ah{l:List UInt8}{d:UInt8}{u:Nat}(e:ef l=.ok d u):1<=u/\u<=l.length:=by
 unfold ef at e;cases l with
 |nil=>cases e
 |cons c l=>
  simp only[]at e;split at e
  .split at e
   .cases e
   .cases e;simp
  .cases l with
   |nil=>cases e
   |cons h l=>
    simp only[]at e;split at e
    .cases e;simp
    .split at e
     .cases e
     .cases l with
      |nil=>cases e
      |cons j l=>
       simp only[]at e;split at e
       .cases l with
        |nil=>cases e
        |cons k l=>
         simp only[]at e;split at e
         .cases e;simp
         .cases e
       .cases e
def My{l:List UInt8}{a:Nat}{e:Int}(d:ef l=.bad a e):e=2\/e=3:=by
 unfold ef at d;split at d
 .cases d;simp
 .split at d
  .split at d<;>cases d;simp
  .split at d
   .cases d;simp
   .split at d
    .cases d
    .split at d
     .cases d;simp
     .split at d
      .cases d;simp
      .split at d
       .split at d
        .cases d;simp
        .split at d<;>cases d;simp
       .cases d;simp
def VE(k:Nat)(acc:List UInt8)(w:I)(d:UInt8)(u:Nat)(q:QR):wx k acc w (q.push d u)=wx (k+u) (acc++[d]) w q:=by cases q<;>simp[wx,QR.push,Nat.add_assoc]
def Z1(s:ByteArray)(H:s.size<=1000000)(w0:I)(b:Nat):∀(n k:Nat) (l acc:List UInt8) (xs:List V) (text:Sl) (w:I),l.length<n->(bl s).drop k=l->k+l.length=s.size->acc.length<=k->xs=acc.map gh->
  O F0 w0 w [.g b,.row ez 1 text xs] []->xu.aX s (k:Int) b 0 0 text w (wx k acc w0 (qu l)):=by
 intro n;induction n with
 |zero=>intro k l acc xs text w G;omega
 |succ n Y=>
  intro k l acc xs text w G q e ha K d;cases l with
  |nil=>
   refine xu.bR (aT (a7 (by simp at e;omega)) (d.ae λD x=>⟨⟨bh #[],0,?_⟩,x.fr⟩));simp at e;simp[e]
  |cons c l=>
   have aa:k<s.size:=by simp at e;omega
   have S:s[k]? =some c:=by have:=xy (s:=s) (l:=bl s) rfl k;rw[this,<-List.head?_drop,q];rfl
   have J:aJ w ez 1 text (acc.map gh):=K▸d.get 1;have tn:text.n=acc.length:=by have:=aJ.len J;simp at this;omega
   refine xu.bR (aR (a6 io) ⟨io,c,by rw[cb];exact S,ax (λT=>?_) (λT=>?_)⟩)
   .have Q:c.toNat=34:=io
    have C:qu (c::l)=.ok [] 1:=by unfold qu;rw[ag Q]
    rw[C];refine⟨_,rZ (aJ.Bs J),d.ae λD x=>⟨?_,x.fr⟩⟩;rw[bt k io,df]
   .have Z:c.toNat≠34:=io
    rw[ye c l Z];cases j:ef (c::l)with
    |bad a C=>
     refine d.av (A:=λr _=>∃L M,r=ab (.tuple #[.int .u8 L,.int .i64 M,.agg #[.int .i64 C,.int .i64 ((k+a:Nat):Int)]])) ((MN s k c l q H w).mono λr D h=>by rw[j]at h;exact h) ?_;rintro _ w1 ⟨L,M,rfl⟩ y;have he:=My j;exact⟨_,_,_,_,rfl,y.aw λP w2 z=>cq (λ_=>z.ae λw3 B=>⟨⟨_,_,rfl⟩,B.fr⟩) (λF=>io)⟩
    |ok E u=>
     refine d.av (A:=λr _=>r=ab (.tuple #[.int .u8 (E.toNat:Int),.int .i64 ((k+u:Nat):Int),.agg #[.int .i64 0,.int .i64 0]])) ((MN s k c l q H w).mono λr D h=>by rw[j]at h;exact h) ?_;rintro _ w1 rfl y;obtain⟨ac,W⟩:=Ah j;refine⟨_,_,_,_,rfl,y.aw λP w2 z=>cq (λF=>absurd rfl F) (λ_=>z.ae λw3 B=>B.jo 1 mf rfl (λt w4 N=>?_) io)⟩;simp only[VE];exact Y (k+u) ((c::l).drop u) (acc++[E]) _ t w4 (by simp at G ⊢;omega) (by rw[<-q,lR]) (by simp at W e ⊢;omega) (by simp;omega) (by simp[K,gh]) (N.take 2)
def Z0(s:ByteArray)(i:Nat)(c:UInt8)(l:List UInt8)(d:(bl s).drop i=c::l)(h:s.size<=1000000)(w:I):ah U OU #[.string s,.int .i64 (i:Int)] w (wx (i+1) [] w (qu l)):=by
 have hlen:i+(c::l).length=s.size:=by have:=congrArg List.length d;rw[i9,dd]at this;simp at this ⊢;omega
 refine xu.aq ((O.start (M:=F0) (w:=w) [] us).aw λb j e=>?_);rw[bt i (by simp at hlen;omega)];refine Z1 s h w _ (l.length+1) (i+1) l [] [] ⟨none,0,0⟩ j io ?_ (by simp at hlen ⊢;omega) us rfl (e.iH _ _);rw[<-lR,d];rfl
def nR{p:UInt8->Prop}(d:∀e:Fin 256,p (c9 e.val))(c:UInt8):p c:=by have:=d ⟨c.toNat,c.toNat_lt⟩;simpa only[UInt8.ofNat_toNat]using this
def adH(c:UInt8):ak (0<=Go.Lib.indexByte [9,10,13,32] c)=lW c:=nR (p:=λc=>ak (0<=Go.Lib.indexByte [9,10,13,32] c)=lW c) (by decide+kernel) c
def YM(c:UInt8):ak (Go.Lib.indexByte [9,10,13,32,59,40,41,34] c<0)= !mq c:=nR (p:=λc=>ak (Go.Lib.indexByte [9,10,13,32,59,40,41,34] c<0)= !mq c) (by decide+kernel) c
def xj{s:ByteArray}{k:Nat}{c:UInt8}{l:List UInt8}(d:(bl s).drop k=c::l):s[k]? =some c/\(bl s).drop (k+1)=l/\k+l.length+1=s.size:=by
 refine⟨?_,by rw[<-lR,d];rfl,?_⟩
 .rw [xy (l:=bl s) rfl,<-List.head?_drop,d];rfl
 .have:=congrArg List.length d;rw[i9,dd]at this;simp at this;omega
def Z3(s:ByteArray)(Y:s.size<=1000000)(w0:I)(h bs m:Nat)(R:aC)(E:∀K,O (·=h) w0 K [.c h [.int .i64 (m:Int)] bF] [.c bs [.string s] eD]->R (ab (.tuple #[])) K):∀(n k:Nat) (l:List UInt8) (w:I),l.length<n->(bl s).drop k=l->k<=s.size->
  O (·=h) w0 w [.c h [.int .i64 (k:Int)] bF] [.c bs [.string s] eD]->(k+cy false l=m->kS.L0 (aa h) (aa bs) w R)/\(k+cy true l=m->kS.L2 (aa h) (aa bs) w R):=by
 intro n;induction n with
 |zero=>intro k l w H;omega
 |succ n T=>
  intro k l w H G W d;cases l with
  |nil=>
   have F:¬((k:Int)<(s.size:Int)):=by have:=congrArg List.length G;rw[i9,dd]at this;simp at this;omega
   have zero:k=m->kS.L0 (aa h) (aa bs) w R:=λe=>by subst e;exact kS.cH ⟨_,d.cC 0,_,d.gS 0,aT (a7 F) (E w d)⟩
   exact⟨zero,λe=>kS.pq ⟨_,d.cC 0,_,d.gS 0,aT (a7 F) (zero e)⟩⟩
  |cons c l=>
   obtain⟨N,Q,Z⟩:=xj G;have z:s[aY (k:Int)]? =some c:=by rw[cb];exact N
   have B:((k:Int)<(s.size:Int)):=io
   have next:∀{x:I},O (·=h) w0 x [.c h [.int .i64 ((k+1:Nat):Int)] bF] [.c bs [.string s] eD]->(k+(1+cy false l)=m->kS.L0 (aa h) (aa bs) x R)/\(k+(1+cy true l)=m->kS.L2 (aa h) (aa bs) x R):=λy=>by
    have:=T (k+1) l _ (by simp at H;omega) Q io y
    rwa[Nat.add_assoc,Nat.add_assoc]at this
   have D:c.toNat≠10->k+(1+cy true l)=m->kS.L2 (aa h) (aa bs) w R:=λq e=>by refine kS.pq ⟨_,d.cC 0,_,d.gS 0,aR (a6 B) ⟨_,d.gS 0,_,d.cC 0,io,c,z,cq (λ_=>?_) (λj=>absurd io q)⟩⟩;refine⟨_,d.cC 0,?_⟩;rw[bt k io];exact d.fi 0 rfl λx y=>(next y).2 e
   have C:k+cy false (c::l)=m->kS.L0 (aa h) (aa bs) w R:=λe=>by
    unfold cy at e;have two:(lW c=true->c.toNat≠59->k+(1+cy false l)=m)->(c.toNat=59->k+(1+cy true l)=m)->(lW c=true\/c.toNat=59)->kS.S1 (aa h) (aa bs) w R:=λL M S=>
     ⟨_,d.gS 0,_,d.cC 0,io,c,z,cq (λj=>⟨_,d.cC 0,by
      rw[bt k io];exact d.fi 0 rfl λx y=>(next y).1 (L (S.resolve_right io) io)⟩) (λj=>D io (M io))⟩
    refine kS.cH ⟨_,d.cC 0,_,d.gS 0,aR (a6 B) ⟨_,d.gS 0,_,d.cC 0,io,c,z,ax (λj=>?_) (λj=>?_)⟩⟩
    .have J:¬lW c=true:=by
      unfold lW;have:c.toNat=59:=io
      simp[this]
     rw[ad J,ag io]at e;exact two (λj=>absurd j J) (λ_=>e) (.inr io)
    .refine ⟨_,d.gS 0,_,d.cC 0,io,c,z,(AD _ c w).mono ?_⟩;rintro r x ⟨rfl,rfl⟩;refine⟨_,rfl,?_⟩;show bK (ak (0<=Go.Lib.indexByte [9,10,13,32] c)) _ _;rw[adH];refine bm (λA=>?_) (λA=>?_)
     .rw [ag A]at e;exact two (λ_ _=>e) (λP=>absurd P io) (.inl A)
     .rw [ad (by simp[A]),ad io,Nat.add_zero]at e;subst e;exact E w d
   refine⟨C,λe=>?_⟩;unfold cy at e;by_cases q:c.toNat=10
   .rw [ag q]at e;refine kS.pq ⟨_,d.cC 0,_,d.gS 0,aR (a6 B) ⟨_,d.gS 0,_,d.cC 0,io,c,z,cq (λj=>absurd io j) (λ_=>C ?_)⟩⟩;unfold cy;rw[ag (by unfold lW;simp[q])];exact e
   .rw [ad q]at e;exact D q e
def Z2{s:ByteArray}(z:s.size<=1000000){w:I}{d bs k:Nat}(hi:w.heap[d]? =some (.cells #[.int .i64 (k:Int)] bF (0,0)))(e:w.heap[bs]? =some (.cells #[.string s] eD (0,0)))(x:k<=s.size):
  ah U p9 #[.pointer (some (aa d)),.pointer (some (aa bs))] w λr h=>r=ab (.tuple #[])/\Fr (·=d) w h/\h.heap[d]? =some (.cells [Value.int .i64 ((k+cy false ((bl s).drop k):Nat):Int)].toArray bF (0,0)):=by
 have y:bs≠d:=λq=>by rw[q,hi]at e;cases e
 refine kS.ok ((Z3 s z w d bs _ _ (λh j=>?_) (((bl s).drop k).length+1) k _ w io rfl x ?_).1 rfl)
 .exact ⟨rfl,j.fr,j.ob 0⟩
 .exact O.og _ _ (by simp[En.ob,hi]) (by simp[En.ob]) (by simp[En.ob,e,y])
def RU:∀(n:Nat) (l:List UInt8),l.length<n->∀(a:Nat) (e:Int),qu l=.bad a e->e=2\/e=3
 |0,l,d=>io
 |n+1,[],_=>by intro a e d;unfold qu at d;grind
 |n+1,c::l,y=>by
  intro a e d;by_cases w:c.toNat=34
  .unfold qu at d;grind
  .rw [ye c l w]at d;cases h:ef (c::l)with
   |bad k q=>rw[h]at d;cases d;exact My h
   |ok x u=>
    rw[h]at d;simp only at d;cases j:qu ((c::l).drop u)with
    |ok t v=>rw[j]at d;cases d
    |bad k q=>
     rw[j]at d;cases d;have:=(Ah h).1;exact RU n _ (by grind) _ _ j
abbrev zs:V:=.string (bh #[])
abbrev RL(d e h j k a:Nat):List En:=[.c d [.int .i64 (k:Int)] bF,.c e [.int .i64 0,zs,.int .i64 0] dz,.c h [.int .i64 0,.int .i64 0] jf,.c j [.int .i64 0,zs,.int .i64 (a:Int)] dz]
abbrev RD(bs bk:Nat)(s:ByteArray)(f:V):List En:=[.c bs [.string s] eD,.c bk [f] Ij]
def Fl{M:Nat->Prop}{w0 w:I}{D:List En}{h j k q:Nat}{x z A B C E:V}{kd a:Int}{t:ByteArray}{R:aC}(H:O M w0 w [.c h [x] bF,.c j [z,A,B] dz,.c k [C,E] jf,.c q [.int .i64 kd,.string t,.int .i64 a] dz] D)(F:∀e,Fr M w0 e->e.heap[h]? =some (.cells [x].toArray bF (0,0))->R (ab (.tuple #[.agg #[.int .i64 kd,.string t,.int .i64 a],.agg #[.int .i64 0,.int .i64 0]])) e):n6.S1 (aa j) (aa k) (aa q) w R:=
 ⟨_,_,_,H.ld 3 0,H.ld 3 1,H.ld 3 2,H.k8 1 rfl λJ y=>y.jP 2 rfl λG d=>⟨_,_,_,d.ld 1 0,d.ld 1 1,d.ld 1 2,_,_,d.ld 2 0,d.ld 2 1,F G d.fr (d.ob 0)⟩⟩
def y'(e:Nat)(w0:I)(i:Nat):NT->aC
 |.fin=>λr d=>r=ab (.tuple #[.agg #[.int .i64 6,zs,.int .i64 (i:Int)],.agg #[.int .i64 0,.int .i64 0]])/\Fr (·=e) w0 d/\d.heap[e]? =some (.cells [Value.int .i64 (i:Int)].toArray bF (0,0))
 |.tok j t u=>λr d=>r=ab (.tuple #[.agg #[.int .i64 j,.string (ba t),.int .i64 (i:Int)],.agg #[.int .i64 0,.int .i64 0]])/\Fr (·=e) w0 d/\d.heap[e]? =some (.cells [Value.int .i64 ((i+u:Nat):Int)].toArray bF (0,0))
 |.bad a h=>λr d=>(∃k q w,r=ab (.tuple #[.agg #[.int .i64 k,.string q,.int .i64 w],.agg #[.int .i64 h,.int .i64 ((i+a:Nat):Int)]]))/\h≠0/\Fr (·=e) w0 d
def Z4(s:ByteArray)(W:s.size<=1000000)(w0:I)(e bs bk q x y m a:Nat)(f:V)(R:aC)(B:∀D,O (·=e) w0 D (RL e q x y m a) (RD bs bk s f)->n6.S4 (aa e) (aa bs) (aa q) (aa x) (aa y) D R):
  ∀(n k:Nat) (l:List UInt8) (w:I),l.length<n->(bl s).drop k=l->k<=s.size->k+(l.takeWhile bw).length=m->O (·=e) w0 w (RL e q x y k a) (RD bs bk s f)->n6.L2 (aa e) (aa bs) (aa q) (aa x) (aa y) w R:=by
 intro n;induction n with
 |zero=>omega
 |succ n Z=>
  intro k l w T C Q h d;cases l with
  |nil=>
   have L:¬((k:Int)<(s.size:Int)):=by
    have:=congrArg List.length C;rw[i9,dd]at this
    grind
   simp at h;subst h;exact n6.pq ⟨_,d.cC 0,_,d.gS 0,aT (a7 L) (B w d)⟩
  |cons c l=>
   obtain⟨H,S,Y⟩:=xj C;have z:s[aY (k:Int)]? =some c:=by rw[cb];exact H
   have next:bw c=true->n6.S3 (aa e) (aa bs) (aa q) (aa x) (aa y) w R:=λA=>by
    refine⟨_,d.cC 0,?_⟩;rw[bt k io];rw[List.takeWhile_cons,ag A,List.length_cons]at h;refine d.fi 0 rfl λE M=>?_
    grind
   refine n6.pq ⟨_,d.cC 0,_,d.gS 0,aR (a6 io) ⟨_,d.gS 0,_,d.cC 0,io,c,z,(Fo c w).mono ?_⟩⟩;rintro r E ⟨rfl,rfl⟩;refine⟨_,rfl,bm (λj=>next (by simp[bw,j])) (λJ=>⟨_,d.gS 0,_,d.cC 0,io,c,z,(Fk c 10 w).mono ?_⟩)⟩;rintro r E ⟨rfl,rfl⟩;refine⟨_,rfl,bm (λj=>next (by simp[bw,j])) (λK=>⟨_,d.gS 0,_,d.cC 0,io,c,z,ax (λj=>next ?_) (λN=>⟨_,d.gS 0,_,d.cC 0,io,c,z,ax (λj=>next ?_) (λP=>?_)⟩)⟩)⟩
   .have:c.toNat=45:=io
    simp[bw,this]
   .have:c.toNat=35:=io
    simp[bw,this]
   .have A:¬bw c=true:=by
     have F:c.toNat≠45:=io
     have G:c.toNat≠35:=io
     simp[bw,J,K,F,G]
    rw[List.takeWhile_cons,ad A]at h;simp at h;subst h;exact B w d
def ZZ{s:ByteArray}(ae:s.size<=1000000){w:I}{e bs bk k:Nat}(hi:w.heap[e]? =some (.cells #[.int .i64 (k:Int)] bF (0,0)))(hs:w.heap[bs]? =some (.cells #[.string s] eD (0,0)))(hb:w.heap[bk]? =some (.cells #[.func (.func p9) #[] #[.pointer (some (aa e)),.pointer (some (aa bs))]] Ij (0,0)))(hk:k<=s.size):
  ah U xM #[.pointer (some (aa bk)),.pointer (some (aa e)),.pointer (some (aa bs))] w (y' e w (k+cy false ((bl s).drop k)) (gW (((bl s).drop k).drop (cy false ((bl s).drop k))))):=by
 have aG:bs≠e:=λE=>by grind
 have aC:bk≠e:=λE=>by grind
 have H0:O (·=e) w w [.c e [.int .i64 (k:Int)] bF] (RD bs bk s (.func (.func p9) #[] #[.pointer (some (aa e)),.pointer (some (aa bs))])):=
  O.og _ _ (by simp[En.ob,hi]) (by simp[En.ob]) (by simp[En.ob,hs,aG,hb,aC])
 refine n6.ok (H0.nw λG s1 H1=>H1.nw λw2 s2 K=>⟨⟨p9,#[],#[.pointer (some (aa e)),.pointer (some (aa bs))]⟩,K.gS 1,Di (by kernel_rfl) ((Z2 ae (K.ob 0) (show w2.heap[bs]? =_ from K.getD 0) hk).mono ?_)⟩);rintro r H ⟨rfl,f3,c3⟩;refine⟨rfl,?_⟩;have z:=K.zL 0 f3 c3;have am:=o5 false ((bl s).drop k);rw[i9,dd]at am;rw[lR];generalize az:k+cy false ((bl s).drop k)=i at z;have aA:i<=s.size:=io
 clear az f3 c3 am;refine⟨_,z.cC 0,_,z.gS 0,ax (λaq=>?_) (λaq=>?_)⟩
 .have:(bl s).drop i=[]:=dH (by rw[dd];omega);rw[this];exact⟨_,z.cC 0,z.k8 1 rfl λw4 N=>N.jP 2 rfl λC q=>⟨_,_,_,q.ld 1 0,q.ld 1 1,q.ld 1 2,_,_,q.ld 2 0,q.ld 2 1,rfl,q.fr,q.ob 0⟩⟩
 .obtain ⟨c,l,F⟩:∃c l,(bl s).drop i=c::l:=by
   cases hd:(bl s).drop i with
   |nil=>have:=congrArg List.length hd;rw[i9,dd]at this;grind
   |cons c l=>grind
  obtain⟨gc,aK,aN⟩:=xj F;have ap:s[aY (i:Int)]? =some c:=by grind
  rw[F];refine⟨_,z.cC 0,z.nw λw4 s4 N=>N.k8 3 rfl λC q=>⟨_,q.gS 0,_,q.cC 0,io,c,ap,?_⟩⟩;have A:O (·=e) w C (RL e w.heap.size G.heap.size H.heap.size i i) (RD bs bk s (.func (.func p9) #[] #[.pointer (some (aa e)),.pointer (some (aa bs))])):=q;clear q N z K H1;have one:∀(kd:Int) (w':I),O (·=e) w w' [.c e [.int .i64 (i:Int)] bF,.c w.heap.size [.int .i64 0,zs,.int .i64 0] dz,.c G.heap.size [.int .i64 0,.int .i64 0] jf,.c H.heap.size [.int .i64 kd,zs,.int .i64 (i:Int)] dz] (RD bs bk s (.func (.func p9) #[] #[.pointer (some (aa e)),.pointer (some (aa bs))]))->
    ∃t:Int,w'.cell? (aa e)=some (.int .i64 t)/\aL w' (aa e) (.int .i64 (aE .i64 (t+1))) λaf=>n6.S1 (aa w.heap.size) (aa G.heap.size) (aa H.heap.size) af (y' e w i (.tok kd [] 1)):=λkd w' J=>by refine⟨_,J.cC 0,?_⟩;rw[bt i io];exact J.fi 0 rfl λaf Y=>Fl Y λw' L P=>⟨rfl,L,P⟩
  unfold gW;dsimp only;refine ax (λav=>?_) (λav=>ax (λaw=>?_) (λaw=>ax (λar=>?_) (λar=>?_)))
  .rw [ag io];exact A.st 3 0 rfl λD x=>one 0 D x
  .rw [ad io,ag io];exact A.st 3 0 rfl λD x=>one 1 D x
  .rw [ad io,ad io,ag io];refine⟨_,A.gS 0,_,A.cC 0,(Z0 s i c l F ae C).mono ?_⟩;intro r D S;cases hq:qu l with
   |ok t u=>
    rw[hq]at S;obtain⟨rfl,Z⟩:=S;refine⟨_,_,_,_,rfl,(A.cB Z).nw λw7 _ x=>x.jP 4 rfl λw8 B=>⟨_,B.ld 4 0,aT rfl (B.st 3 0 rfl λM h=>h.st 3 1 rfl λT j=>j.fi 0 rfl λW d=>?_)⟩⟩;exact Fl (d.take 4) λw' L P=>⟨rfl,L,by grind⟩
   |bad a E=>
    rw[hq]at S;obtain⟨⟨y,aU,rfl⟩,Z⟩:=S;have Q:=RU _ l (Nat.lt_succ_self _) _ _ hq;refine⟨_,_,_,_,rfl,(A.cB Z).nw λw7 _ x=>x.jP 4 rfl λw8 B=>⟨_,B.ld 4 0,aR (by grind) (B.dr λM h=>?_)⟩⟩;refine⟨_,_,h.ld 4 0,h.ld 4 1,h.k8 1 rfl λT j=>⟨j.ld 4 0,j.ld 4 1,j.jP 2 rfl λW d=>⟨_,_,_,d.ld 1 0,d.ld 1 1,d.ld 1 2,_,_,d.ld 2 0,d.ld 2 1,⟨_,_,_,by rw[Nat.add_assoc]⟩,io,d.fr⟩⟩⟩
  .rw [ad io,ad io,ad io];have word:hM c=true->n6.L2 (aa e) (aa bs) (aa w.heap.size) (aa G.heap.size) (aa H.heap.size) C (y' e w i (if hM c=true then(match eV ((c::l).takeWhile bw)with
     |(k,E)=>if E≠0 then .bad 0 E else match(c::l).drop ((c::l).takeWhile bw).length with
      |[]=>.tok k ((c::l).takeWhile bw) ((c::l).takeWhile bw).length
      |y::_=>if mq y then .tok k ((c::l).takeWhile bw) ((c::l).takeWhile bw).length else .bad ((c::l).takeWhile bw).length 2)else .bad 0 2)):=λan=>by
    rw[ag an];have aJ:bw c=true:=by unfold hM at an;unfold bw;grind
    have aO:((c::l).takeWhile bw).length<=l.length+1:=by have:=(List.takeWhile_prefix (p:=bw) (l:=c::l)).length_le;omega
    refine Z4 s ae w e bs bk _ _ _ (i+((c::l).takeWhile bw).length) i _ _ (λD x=>?_) (l.length+2) i (c::l) C us F aA rfl A;have aI:(c::l).take ((c::l).takeWhile bw).length=(c::l).takeWhile bw:=(List.prefix_iff_eq_take.1 (List.takeWhile_prefix bw)).symm;have ac:bl (s.extract i (i+((c::l).takeWhile bw).length))=(c::l).takeWhile bw:=by rw[Jr,List.drop_take,F,Nat.add_sub_cancel_left,aI]
    have aQ:∀y∈(c::l).takeWhile bw,bw y=true:=λy hx=>by
     have:=List.all_takeWhile (p:=bw) (l:=c::l)
     grind
    have aM:(c::l).takeWhile bw≠[]:=by rw[List.takeWhile_cons,ag aJ];simp
    have aj:(bl s).drop (i+((c::l).takeWhile bw).length)=(c::l).drop ((c::l).takeWhile bw).length:=by rw[<-lR,F]
    generalize(c::l).takeWhile bw=t at *;refine⟨_,x.gS 0,_,x.ld 3 2,_,x.cC 0,io,io,io,io,?_⟩;rw[cb,cb];refine x.st 3 1 rfl λw7 B=>⟨_,B.ld 3 1,(ZY _ w7 (by grind) (by grind) (by rw[<-dd,ac];omega)).mono ?_⟩;rintro r w8 ⟨rfl,f8⟩;rw[ac];refine⟨_,_,rfl,?_⟩;have h:=B.cB f8;rcases eV t with⟨kd,E⟩;simp only;have ao:s.extract i (i+t.length)=ba t:=(jW _).symm.trans (congrArg ba ac);have ai:∀{w':I},O (·=e) w w' [.c e [.int .i64 ((i+t.length:Nat):Int)] bF,.c w.heap.size [.int .i64 0,zs,.int .i64 0] dz,.c G.heap.size [.int .i64 0,.int .i64 0] jf,.c H.heap.size [.int .i64 0,.string (s.extract i (i+t.length)),.int .i64 (i:Int)] dz] (RD bs bk s (.func (.func p9) #[] #[.pointer (some (aa e)),.pointer (some (aa bs))]))->
      n6.S5 (aa w.heap.size) (aa G.heap.size) (aa H.heap.size) kd w' (y' e w i (.tok kd t t.length)):=λJ=>by rw[ao]at J;exact J.st 3 0 rfl λaf Y=>Fl Y λw' L P=>⟨rfl,L,P⟩
    refine cq (λQ=>?_) (λQ=>?_)
    .rw [ag Q];exact h.dr λM h=>⟨_,h.ld 3 2,h.k8 1 rfl λT j=>⟨j.ld 3 2,j.jP 2 rfl λW d=>⟨_,_,_,d.ld 1 0,d.ld 1 1,d.ld 1 2,_,_,d.ld 2 0,d.ld 2 1,⟨_,_,_,rfl⟩,Q,d.fr⟩⟩⟩
    .rw [ad io];refine⟨_,h.cC 0,_,h.gS 0,aS (λaB=>?_) (λaB=>?_)⟩
     .obtain ⟨y,l',hx⟩:∃y l',(bl s).drop (i+t.length)=y::l':=by
       cases hd:(bl s).drop (i+t.length)with
       |nil=>have:=congrArg List.length hd;grind
       |cons c l=>grind
      rw[<-aj,hx];refine⟨_,h.gS 0,_,h.cC 0,io,y,by rw[cb];exact(xj hx).1,(AD _ y w8).mono ?_⟩;rintro r M ⟨rfl,rfl⟩;refine⟨_,rfl,?_⟩;show bK (ak (Go.Lib.indexByte [9,10,13,32,59,40,41,34] y<0)) _ _;rw[YM];refine eS (λhf=>?_) (λhf=>?_)
      .simp only[hf];exact h.dr λM h=>⟨_,h.cC 0,h.k8 1 rfl λT j=>⟨j.cC 0,j.jP 2 rfl λW d=>⟨_,_,_,d.ld 1 0,d.ld 1 1,d.ld 1 2,_,_,d.ld 2 0,d.ld 2 1,⟨_,_,_,rfl⟩,io,d.fr⟩⟩⟩
      .simp only[hf,if_true];exact ai h
     .have:(bl s).drop (i+t.length)=[]:=dH (by grind);rw[<-aj,this];exact ai h
   refine(Fo c C).mono ?_;rintro r D ⟨rfl,rfl⟩;refine⟨_,rfl,bm (λh1=>word (by simp[hM,h1])) (λh1=>(Fk c 10 C).mono ?_)⟩;rintro r D ⟨rfl,rfl⟩;refine⟨_,rfl,bm (λh2=>word (by simp[hM,h2])) (λh2=>ax (λh3=>word ?_) (λh3=>?_))⟩
   .have:c.toNat=35:=io
    simp[hM,this]
   .have aH:¬hM c=true:=by
     have:c.toNat≠35:=io
     simp[hM,h1,h2,this]
    rw[ad aH];exact A.dr λM h=>⟨_,h.cC 0,h.k8 1 rfl λT j=>⟨j.cC 0,j.jP 2 rfl λW d=>⟨_,_,_,d.ld 1 0,d.ld 1 1,d.ld 1 2,_,_,d.ld 2 0,d.ld 2 1,⟨_,_,_,rfl⟩,io,d.fr⟩⟩⟩
def He:∀(n:Nat) (l:List UInt8),l.length<n->∀(t:List UInt8) (u:Nat),qu l=.ok t u->1<=u/\u<=l.length/\t.length<u
 |0,l,d=>io
 |n+1,[],_=>by intro a j d;unfold qu at d;cases d
 |n+1,c::l,y=>by
  intro t u d;by_cases k:c.toNat=34
  .unfold qu at d;grind
  .rw [ye c l k]at d;cases h:ef (c::l)with
   |bad q x=>grind
   |ok w v=>
    rw[h]at d;simp only at d;have z:=Ah h;cases e:qu ((c::l).drop v)with
    |bad a j=>rw[e]at d;cases d
    |ok A B=>
     rw[e]at d;cases d;have:=He n _ (by grind) _ _ e
     grind
def LD{t:List UInt8}{k:Int}(d:eV t=(k,0)):k=2\/k=3\/k=4:=by
 unfold eV at d;split at d
 .cases d
 .split at d
  .grind
  .split at d
   .grind
   .unfold uR at d
    grind
def AY{l:List UInt8}{k:Int}{t:List UInt8}{u:Nat}(d:gW l=.tok k t u):k≠6/\1<=u/\u<=l.length/\t.length<=u:=by
 unfold gW at d;cases l with
 |nil=>cases d
 |cons c l=>
  simp only at d;split at d
  .grind
  .split at d
   .grind
   .split at d
    .split at d
     .rename_i C D j;cases d;have:=He _ l (Nat.lt_succ_self _) _ _ j
      grind
     grind
    .split at d
     .rename_i q;have w:bw c=true:=by unfold hM at q;unfold bw;grind
      have A:((c::l).takeWhile bw).length<=(c::l).length:=(List.takeWhile_prefix (p:=bw) (l:=c::l)).length_le;have y:1<=((c::l).takeWhile bw).length:=by rw[List.takeWhile_cons,ag w];simp
      cases h:eV ((c::l).takeWhile bw)with
      |mk B x=>
       rw[h]at d;simp only at d;split at d
       .cases d
       .rename_i e;simp only[ne_eq,Decidable.not_not]at e;subst e;have z:=LD h
        grind
     grind
def Yi:gg U rC dz (.agg #[.int .i64 0,.string (bh #[]),.int .i64 0]) 3 32:=⟨by kernel_rfl,by kernel_rfl,rfl,dl,dl⟩
def v9(t:aN):List V:=[.int .i64 t.kind,.string (ba t.text),.int .i64 (t.a4:Int)]
def l1(l:List aN):List V:=l.flatMap v9
def UQ:∀l:List aN,(l1 l).length=3 *l.length
 |[]=>rfl
 |t::l=>by have:=UQ l;unfold l1 at this ⊢;rw[List.flatMap_cons,List.length_append,this,List.length_cons];simp[v9];omega
def aeH(l:List aN)(t:aN):l1 (l++[t])=l1 l++v9 t:=by simp[l1]
def En.nil:En:=⟨[],λ_=>True,λ_ _ _ d=>d,λ_ _ b e=>by grind,us⟩
abbrev EL(t2 t3 t4 d q l_ D:Nat)(e h j:V)(sl:Sl)(acc:List aN)(k:En)(o:Obj):List En:=
 [.c t2 [e] rC,.c t3 [h] bF,.c t4 [j] hn,.c d [sl.v] rC,k,.row dz 3 sl (l1 acc),.ob D (.deferred (some [])),.ob l_ o]
abbrev ED(bs d bk e:Nat)(s:ByteArray):List En:=
 [.c bs [.string s] eD,.c bk [.func (.func p9) #[] #[.pointer (some (aa d)),.pointer (some (aa bs))]] Ij,.c e [.func (.func xM) #[] #[.pointer (some (aa bk)),.pointer (some (aa d)),.pointer (some (aa bs))]] aeQ]
def y3(w0:I)(t2 t3 t4 k d l_ D bs bk h:Nat)(s:ByteArray)(q:eN->Option Code->Obj)(acc:List aN)(w:I):TR->Prop
 |.ok x=>∃sl e,O F0 w0 w (EL t2 t3 t4 k d l_ D (.slice none 0 0) (.int .i64 0) (.int .i64 0) sl (acc++x) e (q .ready none)) (ED bs d bk h s)
 |.bad a j=>j≠0/\∃sl y e,O F0 w0 w (EL t2 t3 t4 k d l_ D (.slice none 0 0) (.int .i64 (a:Int)) (.int .i64 j) sl y e (q .done (some .ret))) (ED bs d bk h s)
def Vt{w0:I}{t2 t3 t4 j d l_ D bs bk e:Nat}{s:ByteArray}{k:eN->Option Code->Obj}{acc:List aN}{w:I}{t:aN}{q:TR}(h:y3 w0 t2 t3 t4 j d l_ D bs bk e s k (acc++[t]) w q):y3 w0 t2 t3 t4 j d l_ D bs bk e s k acc w (q.push t):=by
 cases q with
 |ok x=>simpa[y3,TR.push]using h
 |bad a y=>exact h
def ZX(s:ByteArray)(ar:s.size<=1000000)(w0:I)(t2 t3 t4 S h l_ D bs bk P:Nat)(x:Addr)(F:eN->Option Code->Obj)(hY:∀(ai:Int) (aj:ByteArray) (am an ao:Int) (w_:I) (K_:Bool->I->Prop),w_.heap[l_]? =some (F .ready none)->Ft.rG l_ F (aa t2) (aa t3) (aa t4) (aa S) x ai aj am an ao w_ (λr_ G=>∃b_:Bool,r_=ab (.bool b_)/\K_ b_ G)->W.pc U l_ #[.agg #[.int .i64 ai,.string aj,.int .i64 am],.agg #[.int .i64 an,.int .i64 ao]] w_ K_)(R:aC):∀(n k:Nat) (l:List UInt8) (acc:List aN) (sl:Sl) (w:I),l.length<n->(bl s).drop k=l->k<=s.size->acc.length<=k->
  O F0 w0 w (EL t2 t3 t4 S h l_ D (.slice none 0 0) (.int .i64 0) (.int .i64 0) sl acc (.c h [.int .i64 (k:Int)] bF) (F .ready none)) (ED bs h bk P s)->
  (∀E,y3 w0 t2 t3 t4 S h l_ D bs bk P s F acc E (lf n k l)->R (ab (.tuple #[])) E)->Aq.L0 l_ (aa P) w R:=by
 intro n;induction n with
 |zero=>omega
 |succ n ih=>
  intro k l acc sl w hn hl hk aI j hR;have aM:=o5 false l;have aL:l.length=s.size - k:=by rw[<-hl,i9,dd]
  have aQ:sl.n=acc.length:=by have:=aJ.len (j.get 5);rw[UQ]at this;omega
  refine Aq.cH _ _ _ _ ⟨⟨xM,#[],#[.pointer (some (aa bk)),.pointer (some (aa h)),.pointer (some (aa bs))]⟩,j.gS 2,Di (by kernel_rfl) ((ZZ ar (j.ob 4) (show w.heap[bs]? =_ from j.getD 0) (show w.heap[bk]? =_ from j.getD 1) hk).mono ?_)⟩;intro r G B;rw[hl]at B;have round:∀(kd:Int) (y:List UInt8) (i:Nat) (G:I) (e5:En) (Z:I) (p q:Nat),O F0 w0 Z (EL t2 t3 t4 S h l_ D (.slice none 0 0) (.int .i64 0) (.int .i64 0) sl acc e5 (F .ready none)++[.c p [.int .i64 kd,.string (ba y),.int .i64 (i:Int)] dz,.c q [.int .i64 0,.int .i64 0] jf]) (ED bs h bk P s)->
    ∀Y:Bool->I->Prop,(∀C E,O F0 w0 E (EL t2 t3 t4 S h l_ D (.slice none 0 0) (.int .i64 0) (.int .i64 0) C (acc++[⟨kd,y,i⟩]) e5 (F .ready none)++[.c p [.int .i64 kd,.string (ba y),.int .i64 (i:Int)] dz,.c q [.int .i64 0,.int .i64 0] jf]) (ED bs h bk P s)->Y true E)->
    W.pc U l_ #[.agg #[.int .i64 kd,.string (ba y),.int .i64 (i:Int)],.agg #[.int .i64 0,.int .i64 0]] Z Y:=by intro kd y i G e5 Z p q H8 Y hK;refine hY _ _ _ _ _ Z Y (H8.ob 7) ?_;refine H8.nw λw9 _ H9=>H9.k8 10 rfl λaw ac=>?_;refine ac.nw λax _ ad=>ad.jP 11 rfl λaz ae=>ae.pu 7 rfl λaA e=>⟨_,e.ld 11 0,aT rfl ?_⟩;refine⟨_,e.cC 3,_,_,_,e.ld 10 0,e.ld 10 1,e.ld 10 2,e.wG 5 Yi rfl (λC aB J _ _=>?_) io⟩;refine J.fi 3 rfl λaG K=>K.pu 7 rfl λag T=>⟨true,rfl,hK C ag ?_⟩;have:=T.take 10;simp only[List.set_cons_succ,List.set_cons_zero,List.take_succ_cons,List.take_zero,iJ,lS]at this;simp only[EL,aeH];exact this
  cases A:gW (l.drop (cy false l))with
  |fin=>
   rw[A]at B;obtain⟨rfl,Q,c1⟩:=B;have H:=j.zL 4 Q c1;refine⟨_,_,_,_,_,rfl,H.nw λw2 _ L=>L.nw λw3 _ M=>M.k8 8 rfl λw4 N=>N.jP 9 rfl λw5 d=>⟨_,_,_,d.ld 8 0,d.ld 8 1,d.ld 8 2,_,_,d.ld 9 0,d.ld 9 1,?_⟩⟩;refine round 6 [] _ G _ _ _ _ d _ (λC w6 z=>aT rfl ⟨_,z.ld 9 0,aT rfl ⟨_,z.ld 8 0,aR rfl (hR w6 ?_)⟩⟩);unfold lf;simp only[A];exact⟨C,_,z.take 8⟩
  |tok kd y u=>
   rw[A]at B;obtain⟨rfl,Q,c1⟩:=B;have H:=j.zL 4 Q c1;obtain⟨aK,aO,av,_⟩:=AY A;rw[i9]at av;refine⟨_,_,_,_,_,rfl,H.nw λw2 _ L=>L.nw λw3 _ M=>M.k8 8 rfl λw4 N=>N.jP 9 rfl λw5 d=>⟨_,_,_,d.ld 8 0,d.ld 8 1,d.ld 8 2,_,_,d.ld 9 0,d.ld 9 1,?_⟩⟩;refine round kd y _ G _ _ _ _ d _ (λC w6 z=>aT rfl ⟨_,z.ld 9 0,aT rfl ⟨_,z.ld 8 0,aT (by grind) ?_⟩⟩);refine ih (k+cy false l+u) ((l.drop (cy false l)).drop u) (acc++[aN.mk kd y (k+cy false l)]) C w6 (by grind) (by rw[<-hl,lR,lR,Nat.add_assoc]) io (by grind) (z.take 8) (λE he=>hR E ?_);unfold lf;simp only[A];exact Vt he
  |bad a af=>
   rw[A]at B;obtain⟨⟨x0,x1,x2,rfl⟩,he,Q⟩:=B;have H:=j.fy 4 En.nil rfl (Q.mono λx _ af=>by simp[En.ob,af]) trivial (by simp[En.nil]);refine⟨_,_,_,_,_,rfl,H.nw λw2 _ L=>L.nw λw3 _ M=>M.k8 8 rfl λw4 N=>N.jP 9 rfl λw5 d=>⟨_,_,_,d.ld 8 0,d.ld 8 1,d.ld 8 2,_,_,d.ld 9 0,d.ld 9 1,?_⟩⟩;refine hY _ _ _ _ _ w5 _ (d.ob 7) ?_;refine d.nw λw9 _ H9=>H9.k8 10 rfl λaw ac=>?_;refine ac.nw λax _ ad=>ad.jP 11 rfl λaz ae=>ae.pu 7 rfl λaA e=>⟨_,e.ld 11 0,aR (by grind) ?_⟩;refine e.dr λaB J=>⟨_,J.ld 11 1,_,J.ld 11 0,J.fi 0 rfl λaG K=>⟨K.ld 11 0,K.ld 11 1,K.fi 1 rfl λag T=>⟨T.ld 11 0,T.fi 2 rfl λaS ap=>ap.pu 7 rfl λaH aq=>⟨false,rfl,aR rfl (hR aH ?_)⟩⟩⟩⟩;unfold lf;simp only[A];exact⟨he,sl,acc,En.nil,aq.take 8⟩
def aaC{d:I}{l:Nat}{o:eN->Option Code->Obj}{N:I->Prop}{X:Nat->I->Prop}{T:I->Prop}(e:hG d l (o .ready none) (o .exhausted none) N):rM d l o N X T:=.inl e
def aaD{d:I}{l:Nat}{o:eN->Option Code->Obj}{N:I->Prop}{X:Nat->I->Prop}{T:I->Prop}(e:hG d l (o .done (some .ret)) (o .exhausted (some .ret)) T):rM d l o N X T:=.inr (.inr e)
def tokens(l:List UInt8):TR:=if 65536<l.length then .bad 65536 4 else lf (l.length+1) 0 l
def VQ(w:I)(q:TR):aC:=λr d=>match q with
 |.ok h=>∃sl:Sl,r=ab (.tuple #[sl.v,.int .i64 0,.int .i64 0])/\aJ d dz 3 sl (l1 h)/\af w d/\∀b∈aG sl,w.heap.size<=b
 |.bad a e=>r=ab (.tuple #[.slice none 0 0,.int .i64 (a:Int),.int .i64 e])/\e≠0/\af w d
def ML(s:ByteArray)(af:s.size<=1000000)(w:I):ah U ON #[.string s] w (VQ w (tokens (bl s))):=by
 refine Ft.ok _ w _ ((O.start (M:=F0) [] us).nw λw1 _ L=>L.nw λw2 _ S=>S.nw λw3 _ E=>aS (λac=>?_) (λac=>?_))
 .refine E.fi 0 rfl λB y=>y.fi 1 rfl λC z=>z.fi 2 rfl λw6 h=>⟨⟨none,0,0⟩,h.cC 0,_,h.cC 1,_,h.cC 2,?_⟩;unfold tokens;rw[ag (by rw[dd];omega)];exact⟨rfl,io,h.fr⟩
 .unfold tokens;rw[ad (by rw[dd];omega)];refine E.nw λB _ y=>?_;refine M6.ok (y.nw λC _ z=>z.nw λw6 _ h=>h.fi 5 rfl λK T=>T.nw λw8 _ W=>W.fi 6 rfl λw9 Y=>⟨_,rfl,?_⟩);refine @M5.ok ⟨xM,#[],#[.pointer (some (aa K.heap.size)),.pointer (some (aa C.heap.size)),.pointer (some (aa B.heap.size))]⟩ _ _ (Y.nw λq _ D=>⟨_,rfl,?_⟩);show ∀A:eN->Option Code->Obj,_;intro A hY;have e1:(q.alloc (.deferred (some []))).heap.size=q.heap.size+1:=size_alloc _ _;have F:=((D.freeze 4 _ rfl (D.get 4) (λb e=>e)));have G:=F.freeze 5 _ rfl (F.get 5) (λb e=>e);have Z:=G.freeze 5 _ rfl (G.get 5) (λb e=>e);have H:=((Z.iH dz 3).alloc (.deferred (some []))).alloc (A .ready none);rw[e1]at H;refine Aq.ok _ _ _ _ (ZX s af w w.heap.size w1.heap.size w2.heap.size w3.heap.size C.heap.size (q.heap.size+1) q.heap.size B.heap.size K.heap.size w9.heap.size _ A hY _ ((bl s).length+1) 0 (bl s) [] ⟨none,0,0⟩ _ io rfl io us H (λw' k=>⟨⟨_,rfl⟩,?_⟩));cases J:lf ((bl s).length+1) 0 (bl s)with
  |ok an=>
   rw[J]at k;obtain⟨sl,ai,x⟩:=k;refine aaC (x.pu 7 rfl λaj j=>⟨sl,j.cC 3,j.fi 0 rfl λaq N=>N.fi 1 rfl λar P=>P.fi 2 rfl λav Q=>Q.pu 6 rfl λam d=>⟨sl,d.cC 0,_,d.cC 1,_,d.cC 2,?_⟩⟩);exact⟨sl,rfl,d.get 5,d.fr,λb e=>(d.new _ (ay (i:=5) rfl) b e).resolve_right id⟩
  |bad a ap=>
   rw[J]at k;obtain⟨ae,sl,ao,ai,x⟩:=k;refine aaD (x.pu 7 rfl λaj j=>j.pu 6 rfl λam d=>⟨⟨none,0,0⟩,d.cC 0,_,d.cC 1,_,d.cC 2,?_⟩);exact⟨rfl,ae,d.fr⟩
structure fM where
 k:Int
 nm:List UInt8
 st:aM
 nd:Int
 n:Int
deriving DecidableEq
structure bS where
 s:aH
 vs:List (List UInt8×Nat)
 ms:List (List UInt8×PM)
 cs:List fM
inductive SR
 |ok (x:bS)
 |er (e:Int) (p:Nat)
def SR.b(x:SR)(f:bS->SR):SR:=match x with
 |.ok x=>f x
 |.er d p=>.er d p
def PR.s{α:Type}(x:PR α)(y:bS)(f:α->bS->SR):SR:=match x with
 |.ok a s=>f a {y with s:=s}
 |.er d p=>.er d p
def eP(T:List aN)(x:bS):b3:=⟨T,x.vs,x.ms,[],9223372036854775807,0⟩
def uW(E:b3)(s:aH):Nat:=min E.kn E.ms.length *(E.T.length+1)+(E.T.length - s.p)+1
def tD(T:List aN)(x:bS):PR Nat:=(dO (uW (eP T x) x.s) (eP T x) x.s).b λn s=>
 if(s.g[n]?).map (·.st)=some (aZ 1)then .ok n s else .er 9 (aK T x.s.p).a4
def vj(T:List aN)(x:bS):PR aN:=(bU T 2 x.s).b λt s=>if(lk x.vs t.text).isSome||(lk x.ms t.text).isSome then .er 8 t.a4 else .ok t s
def pI(T:List aN)(w:aN)(x:bS):SR:=(vj T x).s x λt x=>(il T x.s).s x λd x=>(bU T 1 x.s).s x λ_ x=>(ej x.s ⟨0,[],0,0,0,ba t.text,d⟩ w).s x λn x=>
 .ok {x with vs:=x.vs++[(t.text,n)],cs:=x.cs++[⟨0,t.text,d,n,0⟩]}
def j4(T:List aN):Nat->List (List UInt8×aM)->aH->PR (List (List UInt8×aM))
 |0,_,_=>.er 1000 0
 |f+1,d,s=>
  let t:=aK T s.p
  if t.kind=1 then .ok d (cN t s)else if t.kind≠0 then kg t else
  (bU T 2 (cN t s)).b λp s=>if(lk d p.text).isSome then .er 8 p.a4 else(il T s).b λe s=>(bU T 1 s).b λ_ s=>j4 T f (d++[(p.text,e)]) s
def k5(T:List aN):Nat->Nat->aH->PR Unit
 |0,_,_=>.er 1000 0
 |f+1,d,s=>
  let t:=aK T s.p
  if t.kind=6 then kg t else if t.kind=1/\d=0 then kg t else
  let d:=if t.kind=0 then d+1 else if t.kind=1 then d - 1 else d
  if d=0 then .ok () (cN t s)else k5 T f d (cN t s)
def pJ(T:List aN)(x:bS):SR:=(bU T 0 x.s).s x λ_ x=>(vj T x).s x λt x=>if jy t.text then .er 6 t.a4 else
 (j4 T (T.length+1) [] x.s).s x λh x=>(k5 T (T.length+1) 0 x.s).s x λ_ d=>(bU T 1 d.s).s d λ_ e=>
  .ok {e with ms:=e.ms++[(t.text,⟨h,x.s.p,x.ms.length⟩)]}
def kH(T:List aN)(x:bS):SR:=(bU T 2 x.s).s x λd x=>
 let fin (c:fM) (x:bS):SR:=(bU T 1 x.s).s x λ_ x=>.ok {x with cs:=x.cs++[c]}
 if d.text=[100,101,99,108,97,114,101]then pI T d x else
 if d.text=[100,101,102,105,110,101]then pJ T x else
 if d.text=[97,115,115,101,114,116]\/d.text=[101,100,105,116]then
  (bU T 2 x.s).s x λt x=>(tD T x).s x λn x=>fin ⟨if d.text=[101,100,105,116]then 2 else 1,t.text,a5,n,0⟩ x else
 if d.text=[114,101,116,114,97,99,116]then(bU T 2 x.s).s x λt x=>fin ⟨3,t.text,a5,0,0⟩ x else
 if d.text=[112,117,115,104]then fin ⟨4,[],a5,0,0⟩ x else
 if d.text=[112,111,112]then fin ⟨5,[],a5,0,0⟩ x else
 if d.text=[99,104,101,99,107]then(dw T x.s).s x λn e=>if 1099511627776<n then .er 5 (aK T x.s.p).a4 else fin ⟨6,[],a5,0,n⟩ e else
 .er 2 d.a4
def hf(T:List aN):Nat->bS->SR
 |0,_=>.er 1000 0
 |f+1,d=>
  let t:=aK T d.s.p
  if t.kind=6 then .ok d else if t.kind=0 then(kH T {d with s:=cN t d.s}).b λd=>hf T f d else .er 2 t.a4
def kY(l:List UInt8):SR:=match tokens l with
 |.bad a e=>.er e a
 |.ok d=>hf d (d.length+1) ⟨⟨0,0,[]⟩,[],[],[]⟩
def iO:List Nx->Nat->List (List UInt8×Nat)
 |[],_=>[]
 |d::g,i=>if d.op=0 then(bl d.tx,i)::iO g (i+1)else iO g (i+1)
namespace Zy
def L0:=bD (aA U Tryz.f235 [(7,lr 15),(8,lr 15),(9,lr 15),(10,lr 15),(17,lr 15),(18,lr 15),(23,lr 15)] []) [0,2,1] [(0,.s),(1,.U),(4,.I)]
abbrev t1:=bB L0
abbrev S5:=ai t1 [5,1,1,3,1] [(0,.s),(1,.U),(4,.I),(8,.v [.i .u32]),(9,.v [.i .u32]),(10,.v [.i .u32]),(11,.v [.i .u32])]
abbrev t2:=aj S5
abbrev S4:=ai t2 [4,1,1,3,1] [(0,.s),(1,.U),(4,.I),(6,.v [.i .u32]),(8,.v [.i .u32]),(9,.v [.i .u32])]
abbrev t3:=aj S4
abbrev S3:=ai t3 [3,1,1,3,1] [(0,.s),(1,.U),(4,.I),(6,.v [.i .u32]),(7,.v [.i .u32])]
abbrev t4:=aj S3
abbrev P0:Ps:=[(0,.s),(1,.U),(4,.I),(5,.v [.i .u32])]
abbrev S2:=ai t4 [2,1,1,3,1] P0
abbrev t5:=aj S2
abbrev S1:=ai t5 [1,1,1,3,1] P0
abbrev t6:=aj S1
abbrev P1:Ps:=[(0,.s),(4,.I),(12,.v [.i .u32])]
abbrev Da:=ai t6 [5] P1
abbrev t7:=aj Da
abbrev P2:Ps:=[(0,.s),(4,.I),(12,.v [.i .u32]),(16,.v [.i .u32])]
abbrev C':=ai t7 [2,1,1,1,4] P2
abbrev t8:=aj C'
abbrev wA:=ai t8 [1,1,1,1,4] P2
abbrev t9:=aj wA
abbrev S9:=ai t9 [4] P1
abbrev t10:=aj S9
abbrev S8:=ai t10 [3,1,1,1,3] [(0,.s),(4,.I),(12,.v [.i .u32]),(14,.v [.i .u32]),(15,.v [.i .u32])]
abbrev t11:=aj S8
abbrev P3:Ps:=[(0,.s),(4,.I),(12,.v [.i .u32]),(13,.v [.i .u32])]
abbrev S7:=ai t11 [2,1,1,1,3] P3
abbrev t12:=aj S7
abbrev S6:=ai t12 [1,1,1,1,3] P3
abbrev t13:=aj S6
end Zy
namespace Zw
noncomputable def C0:Code:=(Tryz.f218.body).getD .skip
noncomputable def C1:=C0.sn
noncomputable def C2:=C1.fs
noncomputable def C3:=C2.sn
noncomputable def C4:=C3.fs
noncomputable def C5:=C4.fs
noncomputable def C6:=C5.sn
noncomputable def C7:=C6.fs
noncomputable def C8:=C7.sn
noncomputable def C9:=C6.sn
noncomputable def kj:=C4.sn
noncomputable def ko:=C3.sn
noncomputable def l6:=C1.sn
end Zw
namespace Mr
def ok:=aB (aA U Tryz.f189 [] []) OM [.Y]
end Mr
namespace pQ
abbrev P0:Ps:=[(1,.I),(8,.b),(9,.st),(10,.U),(11,.U),(12,.b),(13,.U),(99,.s),(100,.I),(101,.I)]
def L4:=bD (aA U Tryz.f170 [] []) [0,1,1,1,11] P0
abbrev t1:=bB L4
abbrev S5:=ai t1 [3,2,1,1,11] P0
abbrev t2:=aj S5
abbrev wA:=ai t2 [0,1,1,1,7,2,2,2,1,1,11] [(11,.U)]
abbrev t3:=aj wA
abbrev S9:=ai t3 [7,2,2,2,1,1,11] [(1,.I),(8,.b),(9,.st),(10,.U),(11,.U),(12,.b),(13,.U),(17,.U),(99,.s),(100,.I),(101,.I)]
abbrev t4:=aj S9
abbrev P1:Ps:=[(1,.I),(8,.b),(9,.st),(10,.U),(11,.U),(12,.b),(13,.U),(16,.Y),(99,.s),(100,.I),(101,.I)]
abbrev S8:=ai t4 [6,2,2,2,1,1,11] P1
abbrev t5:=aj S8
abbrev S7:=ai t5 [3,2,2,2,1,1,11] P1
abbrev t6:=aj S7
abbrev P2:Ps:=[]
abbrev Da:=ai t6 [6,2,2,2,2,2,1,1,11] P2
abbrev t7:=aj Da
abbrev P3:Ps:=[(1,.I),(8,.b),(9,.st),(10,.U),(11,.U),(12,.b),(13,.U),(15,.Y),(99,.s),(100,.I),(101,.I)]
abbrev C':=ai t7 [4,2,2,2,2,2,1,1,11] P3
abbrev t8:=aj C'
abbrev S6:=ai t8 [2,2,2,2,2,2,1,1,11] P3
abbrev t9:=aj S6
abbrev VH:=ai t9 [13] [(13,.U)]
abbrev t10:=aj VH
def IM:=bO t10 L4
abbrev S3:=ai t10 [9] [(0,.st),(1,.I),(8,.b),(9,.st),(10,.U),(11,.U)]
abbrev t11:=aj S3
abbrev S2:=ai t11 [8] [(0,.st),(1,.I),(2,.I),(8,.b),(9,.st),(10,.U)]
abbrev t12:=aj S2
abbrev P4:Ps:=[(0,.st),(1,.I),(2,.I),(8,.b),(9,.st)]
abbrev S1:=ai t12 [6] P4
abbrev t13:=aj S1
abbrev VI:=ai t13 [0,1,3,1,5] P2
abbrev t14:=aj VI
abbrev S0:=ai t14 [5] P4
abbrev t15:=aj S0
abbrev P5:Ps:=[(0,.st),(2,.I),(8,.b),(9,.st)]
abbrev VM:=ai t15 [6,2,2,1,3,2,4] P5
abbrev t16:=aj VM
abbrev VL:=ai t16 [4,2,2,1,3,2,4] P5
abbrev t17:=aj VL
abbrev VK:=ai t17 [2,2,2,1,3,2,4] P5
abbrev t18:=aj VK
abbrev VJ:=ai t18 [2,2,4] P4
abbrev t19:=aj VJ
def ok:=aB t19 aa1 [.st,.I,.I]
end pQ
namespace Zx
abbrev S7:=ai (aA U Tryz.f157 [] []) [13] [(11,.I)]
abbrev t1:=aj S7
abbrev S6:=ai t1 [11] [(8,.b),(9,.U)]
abbrev t2:=aj S6
abbrev P0:Ps:=[(8,.b),(9,.U),(10,.U)]
abbrev S5:=ai t2 [10] P0
abbrev t3:=aj S5
abbrev S4:=ai t3 [9] P0
abbrev t4:=aj S4
abbrev P1:Ps:=[(2,.I),(8,.b),(9,.U)]
abbrev S3:=ai t4 [8] P1
abbrev t5:=aj S3
abbrev S2:=ai t5 [7] P1
abbrev t6:=aj S2
abbrev S1:=ai t6 [4] [(0,.st),(1,.I),(2,.I),(8,.b)]
abbrev t7:=aj S1
abbrev S8:=ai t7 [1,1,3,1,1,1,3] [(0,.st),(1,.I),(2,.I)]
abbrev t8:=aj S8
abbrev S0:=ai t8 [1,1,3] [(0,.st),(1,.I),(2,.I),(8,.b),(16,.Y)]
abbrev t9:=aj S0
end Zx
namespace u3
abbrev P0:Ps:=[(5,.st),(6,.I),(47,.s),(48,.I),(49,.I)]
def L3:=bD (aA U Tryz.f127 [] []) [0,1,1,1,3,1,1,1,2] P0
abbrev t1:=bB L3
abbrev S5:=ai t1 [3,2,1,1,3,1,1,1,2] P0
abbrev t2:=aj S5
abbrev S4:=ai t2 [2,2,2,2,1,1,3,1,1,1,2] [(5,.st),(6,.I),(8,.Y),(47,.s),(48,.I),(49,.I)]
abbrev t3:=aj S4
abbrev S6:=ai t3 [5,1,1,1,2] [(6,.I)]
abbrev t4:=aj S6
def IK:=bO t4 L3
abbrev P1:Ps:=[(0,.st),(5,.st)]
abbrev S2:=ai t4 [2,1,1,1,2] P1
abbrev t5:=aj S2
abbrev S1:=ai t5 [1,1,1,1,1,1,1,1,2] P1
abbrev t6:=aj S1
abbrev S0:=ai t6 [0,1,1,1,1,1,1,1,2] P1
abbrev t7:=aj S0
abbrev S7:=ai t7 [3] [(0,.st)]
abbrev t8:=aj S7
def ok:=aB t8 aa0 [.st]
end u3
namespace Uc
def ok:=aB (aA U Tryz.f97 [] []) Py [.st]
end Uc
namespace Ud
def ok:=aB (aA U Tryz.f154 [] []) Pz [.st,.I,.I]
end Ud
def Dn(l:List UInt8)(i:Nat):(ba l)[i]? =l[i]?:=by
 by_cases d:i<l.length
 .rw [a0 d];exact getElem?_pos (ba l) i (by rw[bC];exact d)
 .rw [List.getElem?_eq_none io];exact getElem?_neg (ba l) i (by rw[bC];omega)
def GA(b:Nat)(l:List UInt8)(c:UInt8):dm b (l++[c])=b *dm b l+eR c:=by unfold dm;grind
def v3{α:Type}{l:List α}{i:Nat}{c:α}(d:l[i]? =some c):l.take (i+1)=l.take i++[c]:=by rw[ha,d];rfl
def jk(b:Nat)(l:List UInt8):Prop:=∀c∈l,eR c<b/\(48<=c.toNat/\c.toNat<=57\/97<=c.toNat/\c.toNat<=102/\b=16)
def vB{b:Nat}(q:2<=b):∀{l:List UInt8},jk b l->∀i,dm b (l.take i)<b^(l.take i).length:=λ{l} h i=>by
 induction i with
 |zero=>simp[dm]
 |succ i d=>
  by_cases e:i<l.length
  .have j:l[i]? =some l[i]:=a0 e;rw[v3 j,GA,List.length_append];have:=(h l[i] (List.getElem_mem e)).1;show _<b^((l.take i).length+1);rw[Nat.pow_succ];have k:b *dm b (l.take i)+b<=b *b^(l.take i).length:=by rw[<-Nat.mul_succ];exact Nat.mul_le_mul_left b d
   grind
  .rw [fW io]at d ⊢;exact d
def xq(k:Nat)(w:I):Sem.run U (Ad .neq UW (.tmp k) (.const .nilIface) .nilIface .nilIface) w=.ok (.bool false) w:=by kernel_rfl
def Me{c:UInt8}(d:c.toNat<=57):eR c=c.toNat - 48:=by unfold eR;grind
def adl{l:List UInt8}(L:1<=l.length)(M:l.length<=13)(hd:jk 10 l)(w:I):ah U Py #[.string (ba l)] w λr j=>r=ab (.tuple #[.i (dm 10 l:Int),.nilIface])/\af w j:=by
 have W:=bC l;obtain⟨h,Z,G⟩:∃c m,l=c::m:=by
  cases l with
  |nil=>grind
  |cons c m=>grind
 have O:=hd h (by grind);have x:(ba l)[aY 0]? =some h:=by rw[Dn,G];rfl
 have dec:∀c∈l,48<=c.toNat/\c.toNat<=57:=λc z=>by
  rcases(hd c z).2 with e|⟨_,_,e⟩
  .exact e
  .omega
 have Q:=dec h (by grind);have lt:∀i,dm 10 (l.take i)<10000000000000:=λi=>by have:=vB dl hd i;have N:10^(l.take i).length<=10^13:=Nat.pow_le_pow_right dl (by grind);omega
 have ne:∀k:Int,(k=45\/k=43)->(h.toNat:Int)≠k:=λk S=>io
 have fin:∀d,af w d->Sem.run U (Ad .neq UW (.tmp 11) (.const .nilIface) .nilIface .nilIface) d=.ok (.bool false) d:=λd _=>xq 11 d;refine Uc.ok (Calls.mono (R:=λr j=>r=ab (.tuple #[.i (dm 10 l:Int),.nilIface])/\af w j) ?_ ?_)
 .refine u3.ok (aR (a6 io) (aR (a6 io) ⟨io,h,x,ax (λe=>absurd e (ne 45 (.inl rfl))) (λ_=>⟨io,h,x,ax (λe=>absurd e (ne 43 (.inr rfl))) (λ_=>?_)⟩)⟩));obtain⟨a,d,B,y,E,_⟩:=Ub w (ba l);rw[kE]at y;have H:=Bytes.len y;refine⟨a,d,B,?_⟩;rw[H];have loop:∀(k i:Nat),i+k=l.length->u3.L3 (ba l) (dm 10 (l.take i):Int) a (l.length:Int) (i:Int) d λr j=>r=ab (.tuple #[.i (dm 10 l:Int),.nilIface])/\af w j:=by
   intro k;induction k with
   |zero=>
    intro i F;rw[fW io];refine u3.IK (aT (a7 io) ⟨io,h,x,ax (λe=>absurd e (ne 45 (.inl rfl))) (λ_=>⟨rfl,E⟩)⟩)
   |succ k Y=>
    intro i F;have q:l[i]? =some (l[i]'io):=a0 io;generalize l[i]'io=c at q;obtain⟨J,A⟩:=dec c (ay q);have P:=c.toNat_lt;have D:aE .u8 ((c.toNat:Int) - 48)=((c.toNat - 48:Nat):Int):=by rw[IntKind.wrap_u8];omega
    refine u3.IK (aR (a6 io) ⟨io,io,Bytes.cell y q io λp T z=>⟨_,z,?_⟩⟩);rw[D];refine aT (a7 io) ?_;have K:dm 10 (l.take (i+1))=10 *dm 10 (l.take i)+(c.toNat - 48):=by rw[v3 q,GA,Me A]
    have l1:=lt i;have l2:=lt (i+1);have C:aE .i64 (aE .i64 ((dm 10 (l.take i):Int) *10)+aE .i64 ((c.toNat - 48:Nat):Int))=(dm 10 (l.take (i+1)):Int):=by rw[bH (_ *10) io,bH ((c.toNat - 48:Nat):Int) io,bH _ io];omega
    show u3.L3 _ (aE .i64 _) _ _ (aE .i64 _) _ _;rw[C,bt _ io]
    grind
  exact loop l.length 0 io
 .rintro _ d ⟨rfl,f⟩;exact⟨_,_,rfl,false,xq _ _,aT rfl ⟨rfl,f⟩⟩
def aaz:∀c:UInt8,97<=c.toNat->c.toNat<=102->qM .u8 (c.toNat:Int) 32=(c.toNat:Int):=λc=>(by decide+kernel:∀d:Fin 256,97<=d.val->d.val<=102->qM .u8 (d.val:Int) 32=(d.val:Int)) ⟨c.toNat,c.toNat_lt⟩
def ado{b:Nat}(hb:b=2\/b=16){l:List UInt8}(h1:1<=l.length)(h2:b^l.length<=18446744073709551616)(hd:jk b l)(w:I):ah U Pz #[.string (ba l),.i (b:Int),.i 64] w λr w'=>r=ab (.tuple #[.u (dm b l:Int),.nilIface])/\af w w':=by
 have hz:=bC l;have q:2<=b:=io
 have ai:l.length<=64:=by
  have h3:2^l.length<=b^l.length:=Nat.pow_le_pow_left q _;have Q:2^l.length<=2^64:=io
  exact(Nat.pow_le_pow_iff_right dl).1 Q
 have aa:(ba l).toList≠(bh #[]).toList:=λG=>by have d:=yQ (ba l) (ba []);rw[show(ba l).toList=(ba []).toList from G,beq_self_eq_true]at d;have:ba l=ba []:=fk d.symm;have:=congrArg ByteArray.size this;rw[bC,bC,List.length_nil]at this;omega
 refine Ud.ok (Calls.mono (R:=λr w'=>r=ab (.tuple #[.u (dm b l:Int),.nilIface])/\af w w') ?_ ?_)
 .obtain ⟨cut,W,C⟩:∃cut:Nat,(b:Int) *cut=18446744073709551616/\(b=2->cut=9223372036854775808)/\(b=16->cut=1152921504606846976):=by grind
  have W:b *cut=18446744073709551616:=io
  have main:∀e:Int,e=18446744073709551615->pQ.S3 (ba l) (b:Int) false (ba l) (cut:Int) e w λr w'=>r=ab (.tuple #[.u (dm b l:Int),.nilIface])/\af w w':=by
   intro e A;obtain⟨a,j,x,z,O,_⟩:=Ub w (ba l);rw[kE]at z;have Z:=Bytes.len z;refine⟨a,j,x,?_⟩;rw[Z];have loop:∀(k i:Nat),i+k=l.length->pQ.L4 (b:Int) false (ba l) (cut:Int) e false (dm b (l.take i):Int) a (l.length:Int) (i:Int) j λr w'=>r=ab (.tuple #[.u (dm b l:Int),.nilIface])/\af w w':=by
    intro k;induction k with
    |zero=>
     intro i Y;rw[fW io];exact pQ.IM (aT (a7 io) (aT rfl ⟨rfl,O⟩))
    |succ k ih=>
     intro i Y;have h:l[i]? =some (l[i]'io):=a0 io;generalize l[i]'io=c at h;obtain⟨d1,F⟩:=hd c (ay h);have ag:=c.toNat_lt;have D:=vB q hd i;have ad:=vB q hd (i+1);have li:(l.take i).length=i:=by grind
     have ac:(l.take (i+1)).length=i+1:=by grind
     rw[li]at D;rw[ac]at ad;have pw:b^(i+1)<=b^l.length:=Nat.pow_le_pow_right io io;have pi:b *b^i=b^(i+1):=by grind
     have am:dm b (l.take i)<cut:=by
      have:b *dm b (l.take i)<b *cut:=by have:=Nat.mul_lt_mul_of_pos_left D (show 0<b by omega);omega
      exact Nat.lt_of_mul_lt_mul_left this
     have N:dm b (l.take (i+1))=b *dm b (l.take i)+eR c:=by rw[v3 h,GA]
     have aj:b *dm b (l.take i)+eR c<18446744073709551616:=io
     have wb:aE .u64 (b:Int)=(b:Int):=by rw[IntKind.wrap_u64];omega
     have an:aE .u8 (b:Int)=(b:Int):=by rw[IntKind.wrap_u8];omega
     have ae:pQ.S7 (b:Int) false (ba l) (cut:Int) e false (dm b (l.take i):Int) ((eR c:Nat):Int) a (l.length:Int) (i:Int) j λr w'=>r=ab (.tuple #[.u (dm b l:Int),.nilIface])/\af w w':=by
      have x:aE .u64 ((dm b (l.take i):Int) *aE .u64 (b:Int))=((b *dm b (l.take i):Nat):Int):=by rw[wb,IntKind.wrap_u64,Int.mul_comm];omega
      have J:aE .u64 (((b *dm b (l.take i):Nat):Int)+aE .u64 ((eR c:Nat):Int))=(dm b (l.take (i+1)):Int):=by rw[IntKind.wrap_u64,IntKind.wrap_u64,N];omega
      refine aT (a7 io) (aT (a7 io) ?_);show pQ.S9 _ _ _ _ _ _ (aE .u64 _) (aE .u64 (aE .u64 _+aE .u64 _)) _ _ _ _ _;rw[x,J];refine aT (a7 io) (aT (a7 io) ?_);show pQ.L4 _ _ _ _ _ _ _ _ _ (aE .i64 _) _ _;rw[bt _ io]
      grind
     refine pQ.IM (aR (a6 io) ⟨io,io,Bytes.cell z h io λp hp T=>⟨_,T,ax (λd=>absurd d io) (λ_=>?_)⟩⟩);rcases F with⟨E,B⟩|⟨E,B,q3⟩
     .have L:aE .u8 ((c.toNat:Int) - 48)=((eR c:Nat):Int):=by rw[IntKind.wrap_u8,Me B];omega
      refine aR (a6 io) (aR (a6 io) ?_)
      grind
     .have hv:eR c=c.toNat - 87:=by unfold eR;grind
      have lo:∀(w':I) {K:aC},K (ab (.int .u8 (c.toNat:Int))) w'->ah U OM #[.int .u8 (c.toNat:Int)] w' K:=λw' K S=>Mr.ok (by rw[aaz c E B];exact S);have L:aE .u8 (aE .u8 ((c.toNat:Int) - 97)+10)=((eR c:Nat):Int):=by rw[IntKind.wrap_u8,IntKind.wrap_u8,hv];omega
      refine aR (a6 io) (aT (a7 io) (lo _ ⟨_,rfl,aR (a6 io) (lo _ ⟨_,rfl,aR (a6 io) (lo _ ⟨_,rfl,?_⟩)⟩)⟩))
      grind
   exact loop l.length 0 io
  have A:aE .u64 (aE .u64 (1 *2^(min (aY (aE .u64 64)) (IntKind.bits .u64))) - 1)=18446744073709551615:=dl
  refine pQ.ok (bm (λd=>absurd (by grind) aa) (λ_=>aR (a6 io) (aR (a6 io) ?_)));have H:((b:Int)==0)=false:=by grind
  rw[H];refine aT rfl (aT dl (aT dl (ax (λd=>absurd d io) (λ_=>ax (λd=>?_) (λd=>⟨?_,?_⟩)))))
  .have P:b=16:=io
   have:=main _ A;rw[C.2 P]at this;exact⟨dl,this⟩
  .rw [IntKind.wrap_u64];omega
  .have y:b=2:=io
   have:=main _ A;rw[C.1 y,y]at this;have M:aE .u64 (aE .u64 (Int.tdiv 18446744073709551615 (aE .u64 ((2:Nat):Int)))+1)=((9223372036854775808:Nat):Int):=dl
   rw[y,M];exact⟨dl,this⟩
 .rintro _ j ⟨rfl,f⟩;exact⟨_,_,rfl,false,xq _ _,aT rfl ⟨rfl,f⟩⟩
def nY:gg U aeV bP (.agg #[.int .i64 0,.slice none 0 0,.int .i64 0,.int .i64 0,.int .u64 0,.string (bh #[]),.int .i64 0,.int .i64 0,.int .i64 0]) 9 96:=⟨by kernel_rfl,by kernel_rfl,rfl,dl,dl⟩
def q'{l:List Nd}:∀u∈l.flatMap Nd.c,u.oneCell'=true:=by intro u d;obtain⟨e,_,d⟩:=List.mem_flatMap.1 d;simp only[Nd.c,aF,aW,a2]at d;rcases d with rfl|rfl|rfl|rfl|rfl|rfl|rfl|rfl|rfl<;>rfl
def um{w:I}{b n sz:Nat}{cs:List V}{T:TypeId}(d:w.heap[b]? =some (.cells cs.toArray T (0,0)))(e:cs.length=n *sz):bA sz w ⟨some (aa b),n,n⟩ cs:=
 ⟨e,bz _,⟨λd=>(by cases d),λi v h=>⟨aa b,rfl,cellAt (p:=aa b) d rfl (by grind)⟩⟩⟩
def WM{w:I}{a b:Nd}(T:a.P w)(W:b.P w)(Y:a.x.kids.length<=eG):ah U Oq #[a.v,b.v] w λr w'=>r=ab (.bool (ak (a.x=b.x)))/\af w w':=by
 have Q:O F0 w w [] [bE a,bE b]:=bZ _ (by
  intro aa N;simp only[aF,aW,a2]at N;rcases N with rfl|rfl
  .exact T
  .exact W)
 obtain⟨⟨op,C,n,m,u,H,st⟩,sl⟩:=a;obtain⟨⟨G,D,F,E,K,J,z⟩,Z⟩:=b;have no:∀{M:I} {L:List En},O F0 w M L [bE ⟨⟨op,C,n,m,u,H,st⟩,sl⟩,bE ⟨⟨G,D,F,E,K,J,z⟩,Z⟩]->(⟨op,C,n,m,u,H,st⟩:Nx)≠⟨G,D,F,E,K,J,z⟩->(Ending.returned (.bool false)=ab (.bool (ak ((⟨op,C,n,m,u,H,st⟩:Nx)=⟨G,D,F,E,K,J,z⟩)))/\af w M):=λA d=>⟨by grind,A.fr⟩;refine Lj.aq (Q.aw λb2 M A=>A.aw λb3 w2 e=>?_);refine ax (λh=>?_) (λh=>no e (λd=>h (congrArg Nx.op d)));refine ax (λj=>?_) (λj=>no e (λd=>j (congrArg Nx.n d)));refine ax (λk=>?_) (λk=>no e (λd=>k (congrArg Nx.m d)));refine ax (λq=>?_) (λq=>no e (λd=>q (congrArg Nx.u d)));refine BJ (λy=>?_) (λy=>no e (λd=>y (congrArg Nx.tx d)));refine nt (a:=st) (b:=z) (λB=>?_) (λB=>no e (λd=>B (congrArg Nx.st d)));refine e.av (adq (e.getD 0) (e.getD 1) (by unfold eG at Y;omega)) ?_;rintro _ w3 rfl S;refine⟨_,rfl,?_,S.fr⟩;simp only at h j k q y;subst h j k q y B;simp
def Ao{g:List Nx}{n:Nx}{s:aM}(d:bo g n=(s,0)):bo g (dc n s)=(s,0):=by
 unfold bo at d;unfold bo;have k:(ck (dc n s).op==((dc n s).kids.length:Int)&&(dc n s).kids.all (dx g)&&fU (dc n s))=(ck n.op==(n.kids.length:Int)&&n.kids.all (dx g)&&fU n):=rfl;rw[k];split at d
 .grind
 .rename_i q;rw[ad q];have j:(dc n s).op=n.op:=rfl;rw[j];split at d
  .rename_i h;rw[ag h];unfold b6 at d;by_cases e:n.op=2
   .rw [ag e]at d;unfold b6;rw[j,ag e];exact d
   .rw [ad e]at d;have w:s=n.st:=by grind
    have:dc n s=n:=by rw[w];rfl
    rw[this];unfold b6
    grind
  .rename_i h;rw[ad h];exact d
def pP(g:List Nx)(n:Nx):Option Nat:=eo (if(bo g n).2=0 then dc n (bo g n).1 else n) g 0
def Bd:Option Nat->Int
 |some i=>(i:Int)
 |none=>-1
def WI{w:I}{s:Sl}{l:List Nd}{d:Nd}(J:GP w s l)(hd:d.P w)(N:y4 (xs l))(ho:wu d.x)(aa:∀e∈l,e.x.kids.length<=eG):
  ah U Oj #[s.v,d.v] w λr E=>r=ab (.i (Bd (pP (xs l) d.x)))/\af w E:=by
 have hn:=gz J;have ac:(xs l).length=l.length:=by grind
 have Q:=N.len;rw[ac]at Q;unfold eG at Q;have loop:∀(m i:Nat) (j:Nat) (q:I) (e:Nd) (L:List En),e.ks=d.ks->e.x.kids=d.x.kids->i+m=l.length->eo e.x ((xs l).drop i) i=pP (xs l) d.x->En.g j∈L->O F0 w q L (nj s l d)->
   xc.cA s j e.x.op e.ks e.x.n e.x.m e.x.u e.x.tx e.x.st.k e.x.st.n e.x.st.x (i:Int) q λr E=>r=ab (.i (Bd (pP (xs l) d.x)))/\af w E:=by
  intro m;induction m with
  |zero=>
   intro i j q e L K M hi y Y h;rw[dH io]at y;exact xc.dU (aT (a7 io) ⟨by rw[<-y];rfl,h.fr⟩)
  |succ m ih=>
   intro i j q e L K M hi y Y h;have z:l[i]? =some (l[i]'io):=a0 io;have hx:(xs l).drop i=(l[i]'io).x::(xs l).drop (i+1):=by
    rw[dG (by omega:i<(xs l).length)]
    grind
   rw[hx]at y;generalize l[i]'io=a at z y;have Z:∀b∈[j],En.g b∈L:=by grind
   refine xc.dU (aR (a6 io) (eJ (bd.1 (h.getD 0)) rfl z λp hp _=>h.ae (λF B=>?_) Z));have G:GP F s l:=bd.1 (B.getD 0);have c:=xk G z hp (rfl:((i:Int))=(i:Int));have pe:e.P F:=by show bJ F e.ks e.x.kids;rw[K,M];exact B.getD 1
   refine⟨_,_,_,_,_,_,_,_,_,c.c0,c.c1,c.c2,c.c3,c.c4,c.c5,c.c6,c.c7,c.c8,B.av (WM (a:=a) (b:=e) (G.2 a (ay z)) pe (aa a (ay z))) ?_⟩;rintro _ w6 rfl T;have C:(if a.x=e.x then some i else eo e.x ((xs l).drop (i+1)) (i+1))=pP (xs l) d.x:=y;refine⟨_,rfl,aS (λD=>⟨?_,T.fr⟩) (λD=>?_)⟩
   .rw [ag D]at C;rw[<-C];rfl
   .rw [ad D]at C;rw[bt _ io]
    grind
 refine xc.aq ((xv J hd).aw λj w1 A=>A.av (JE (bd.1 (A.getD 0)) (A.getD 1) N ho) ?_);rintro _ w2 rfl S;refine⟨_,_,_,_,rfl,S.aw λb5 w3 H=>ax (λW=>H.ae λq h=>?_) (λW=>H.ae λq h=>?_)⟩
 .exact loop l.length 0 j q ⟨dc d.x (bo (xs l) d.x).1,d.ks⟩ _ rfl rfl io (by unfold pP;grind) us h
 .exact loop l.length 0 j q d _ rfl rfl io (by unfold pP;grind) us h
structure GR(w:I)(B:Nat->Prop)(g:List Nx)(s:Sl)(w':I):Prop where
 ex:∃l':List Nd,xs l'=g/\GP w' s l'/\∀b∈(En.gr s l').fp,B b\/w.heap.size<=b
def GR.nil(w:I)(d:Nat->Prop)(w':I):GR w d [] ⟨none,0,0⟩ w':=⟨⟨[],rfl,⟨bA.nil 9 w',us⟩,λb h=>by
 rcases n0.1 h with e|⟨j,k,_⟩
 .cases e
 grind⟩⟩
def Xj{w:I}{s:Sl}{l:List Nd}{d:Nd}(Z:GP w s l)(hd:d.P w)(N:y4 (xs l))(F:wu d.x)(an:∀h∈l,h.x.kids.length<=eG):
  ah U Of #[s.v,d.v] w λr w'=>(∃q:Sl,r=ab (.tuple #[q.v,.i (a3 (xs l) d.x).2.1,.i (a3 (xs l) d.x).2.2])/\GR w (λb=>b∈(En.gr s l).fp\/b∈(bE d).fp) (a3 (xs l) d.x).1 q w')/\af w w':=by
 have hn:=gz Z;have az:(xs l).length=l.length:=by grind
 refine Lf.aq ((xv Z hd).aw λb3 w1 J=>J.av (JE (bd.1 (J.getD 0)) (J.getD 1) N F) ?_);rintro _ w2 rfl H2;refine⟨_,_,_,_,rfl,H2.aw λb7 w3 Y=>cq (λh0=>Y.ae λw4 C=>⟨⟨⟨none,0,0⟩,?_,?_⟩,C.fr⟩) (λh0=>Y.ae λw4 C=>?_)⟩
 .unfold a3;grind
 .unfold a3;rw[ag h0];exact GR.nil _ _ _
 have hs:bo (xs l) d.x=((bo (xs l) d.x).1,0):=by grind
 have ax:=Ao hs;have ao:pP (xs l) (dc d.x (bo (xs l) d.x).1)=eo (dc d.x (bo (xs l) d.x).1) (xs l) 0:=by unfold pP;rw[ax];rfl
 have e:a3 (xs l) d.x=match eo (dc d.x (bo (xs l) d.x).1) (xs l) 0 with
   |some i=>(xs l,(i:Int),0)
   |none=>if 4096<=(xs l).length then([],0,4)else(xs l++[dc d.x (bo (xs l) d.x).1],((xs l).length:Int),0):=by unfold a3;grind
 generalize aA:(bo (xs l) d.x).1=sr at *
 let h:Nd:=⟨dc d.x sr,d.ks⟩
 have ap:wu h.x:=⟨F.kl,F.n,F.m,F.tx⟩;refine C.av (WI (d:=h) (bd.1 (C.getD 0)) (C.getD 1) N ap an) ?_;rintro _ w5 rfl D;rw[show pP (xs l) h.x=eo (dc d.x sr) (xs l) 0 from ao];refine⟨_,rfl,?_⟩;cases hi:eo (dc d.x sr) (xs l) 0 with
 |some i=>
  rw[hi]at e;rw[e];exact aR (a6 (Int.natCast_nonneg i)) ⟨⟨s,rfl,⟨l,rfl,bd.1 (D.getD 0),λb B=>.inl (.inl B)⟩⟩,D.fr⟩
 |none=>
  rw[hi]at e;dsimp only at e;refine aT dl ?_;refine aS (λh4=>⟨⟨⟨none,0,0⟩,?_,?_⟩,D.fr⟩) (λh4=>?_)
  .grind
  .rw [e,ag io];exact GR.nil _ _ _
  rw[ad io]at e;rw[e];have M:∀{k:I} {L:List En},O F0 w k L (nj s l d)->bA 9 k s (l.flatMap Nd.c):=λaj=>(bd.1 (aj.getD 0)).1;have fin:∀(q:Sl) (k:I) (L:List En) (j:Nat),O F0 w k L (nj s l d)->L[j]? =some (.row bP 9 q (l.flatMap Nd.c++h.c))->
    (∃ai:Sl,Ending.returned (.tuple #[q.v,.i (s.n:Int),.i 0])=ab (.tuple #[ai.v,.i ((xs l).length:Int),.i 0])/\GR w (λb=>b∈(En.gr s l).fp\/b∈(bE d).fp) (xs l++[dc d.x sr]) ai k)/\af w k:=by
   intro q k L j y hj;have ar:bA 9 k q ((l++[h]).flatMap Nd.c):=by
    have:aJ k bP 9 q (l.flatMap Nd.c++h.c):=y.get j hj;have:=this.a9
    grind
   refine⟨⟨q,by grind,⟨l++[h],by grind,⟨ar,λa e=>?_⟩,λb B=>?_⟩⟩,y.fr⟩
   .rcases List.mem_append.1 e with e|e
    .exact (bd.1 (y.getD 0)).2 a e
    .simp only[aF,aW,a2]at e;subst e;exact y.getD 1
   .rcases n0.1 B with B|⟨a,e,B⟩
    .right;have am:b∈(En.row bP 9 q (l.flatMap Nd.c++h.c)).fp:=by
      have:b∈(if(l++[h]).flatMap Nd.c=[]then[]else aG q):=B;split at this
      .grind
      .exact this
     exact(y.new _ (ay hj) b am).resolve_right id
    .rcases List.mem_append.1 e with e|e
     .exact .inl (.inl (n0.2 (.inr ⟨a,e,B⟩)))
     .simp only[aF,aW,a2]at e;subst e;exact .inl (.inr B)
  have ac:∀u∈h.c,u.oneCell'=true:=λu hu=>q' (l:=[h]) u (by grind);have hl:=N.len;rw[az]at hl;unfold eG at hl;refine⟨D.ae λk y=>y.fe (n:=0) (sz:=9) (cs:=[]) rfl dl λS E=>⟨?_,?_⟩,D.ae λk y=>y.nw λS _ E=>E.fe (n:=0) (sz:=9) (cs:=[]) rfl dl λw8 A=>?_⟩
  .refine E.eI 2 nY (s:=⟨some (aa k.heap.size),0,0⟩) (src:=s) rfl (M E) q' (by grind) (λs1 w8 A=>?_);have G:=(A.get 2:aJ _ _ _ _ _).len;rw[lS,Nd.hU]at G;refine A.jo 2 nY rfl (λH W z=>?_) io;exact fin H W _ 2 z rfl
  .refine E.nw λw8 _ A=>?_;refine A.eI 2 nY (s:=⟨some (aa k.heap.size),0,0⟩) (src:=s) rfl (M A) q' (by grind) (λs1 W z=>?_);have G:=(z.get 2:aJ _ _ _ _ _).len;rw[lS,Nd.hU]at G;refine z.eI 2 nY (src:=⟨some (aa S.heap.size),1,1⟩) rfl (um (cs:=h.c) (T:=bP) (z.ob 3) rfl) ac (by grind) (λH Q K=>?_);exact fin H Q _ 2 K rfl
  .refine A.eI 3 nY (s:=⟨some (aa S.heap.size),0,0⟩) (src:=s) rfl (M A) q' (by grind) (λs1 W z=>?_);have G:=(z.get 3:aJ _ _ _ _ _).len;rw[lS,Nd.hU]at G;refine z.eI 3 nY (src:=⟨some (aa k.heap.size),1,1⟩) rfl (um (cs:=h.c) (T:=bP) (z.ob 2) rfl) ac (by grind) (λH Q K=>?_);exact fin H Q _ 3 K rfl
structure hS(T:List aN):Prop where
 e:∃l t,T=l++[t]/\t.kind=6/\∀x∈l,x.kind≠6
 k:∀t∈T,0<=t.kind/\t.kind<=6
 i:∀t∈T,t.kind=4->1<=t.text.length/\t.text.length<=13/\jk 10 t.text
 n:∀t∈T,t.kind=3->∃d,(t.text=35::98::d/\1<=d.length/\d.length<=64/\jk 2 d)\/(t.text=35::120::d/\1<=d.length/\d.length<=16/\jk 16 d)
 l:T.length<=100000
 x:∀t∈T,t.text.length<=65536/\t.a4<=65536
def o8{T:List aN}{p:Nat}(d:p<T.length):aK T p∈T/\T[p]? =some (aK T p):=by
 unfold aK
 grind
def hS.nx{T:List aN}(H:hS T){p:Nat}(h:p<T.length)(j:(aK T p).kind≠6):p+1<T.length:=by
 obtain⟨l,t,d,w,_⟩:=H.e;have k:T.length=l.length+1:=by grind
 by_cases q:p=l.length
 .have:aK T p=t:=by
   unfold aK
   grind
  grind
 .omega
def bT{α β:Type}{x:PR α}{f:α->aH->PR β}{b:β}{s:aH}(d:x.b f=.ok b s):∃a t,x=.ok a t/\f a t=.ok b s:=by
 cases x with
 |ok a t=>exact⟨a,t,rfl,d⟩
 |er e p=>cases d
def qa{T:List aN}{k:Int}{s e:aH}{t:aN}(d:bU T k s=.ok t e):t=aK T s.p/\t.kind=k/\e=cN t s:=by
 unfold bU at d;split at d
 .grind
 .cases d
structure Mv(T:List aN)(s s':aH):Prop where
 p:s.p<s'.p
 l:s'.p<T.length
 t:s'.tm=s.tm
 g:s'.g=s.g
def Mv.tr{T:List aN}{a b c:aH}(e:Mv T a b)(d:Mv T b c):Mv T a c:=⟨by have:=e.p;have:=d.p;omega,d.l,by rw[d.t,e.t],by rw[d.g,e.g]⟩
def rU{T:List aN}(H:hS T){s:aH}(e:s.p<T.length)(d:(aK T s.p).kind≠6):Mv T s (cN (aK T s.p) s):=by unfold cN;rw[ad d];exact⟨Nat.lt_succ_self _,H.nx e d,rfl,rfl⟩
def eB{T:List aN}(H:hS T){k:Int}{s d:aH}{t:aN}(w:s.p<T.length)(x:k≠6)(e:bU T k s=.ok t d):Mv T s d:=by obtain⟨h,j,q⟩:=qa e;subst q;rw[h]at j ⊢;exact rU H w io
def lH{T:List aN}(H:hS T){s d:aH}{n:Int}(k:s.p<T.length)(e:dw T s=.ok n d):Mv T s d/\0<=n:=by obtain⟨t,q,h,j⟩:=bT e;cases j;exact⟨eB H k dl h,Int.natCast_nonneg _⟩
def vR{T:List aN}(H:hS T){s y:aH}{A:aM}(L:s.p<T.length)(B:il T s=.ok A y):Mv T s y/\bx A=true:=by
 obtain⟨t,P,C,D⟩:=bT B;obtain⟨S,z,E,h⟩:=bT D;have q:=eB H L dl C;have d:=q.tr (eB H q.l dl E);split at h
 .cases h
 .obtain ⟨W,s3,j,F⟩:=bT h;obtain⟨n,Q,G,J⟩:=bT F;obtain⟨_,M,K,N⟩:=bT J;have w:s3.p<T.length/\(s3=z\/Mv T z s3):=by
   split at j
   .have:=(lH H d.l j).1;exact⟨this.l,.inr this⟩
   .cases j;exact⟨d.l,.inl rfl⟩
  have x:=(lH H w.1 G).1;have k:=x.tr (eB H x.l dl K);have O:Mv T s M:=by
   rcases w.2 with e|e
   .rw [e]at k;exact d.tr k
   .exact (d.tr e).tr k
  grind
def acM{T:List aN}(H:hS T){s e:aH}{r:List UInt8}(k:s.p<T.length)(h:rr T s=.ok r e):Mv T s e:=by
 obtain⟨t,q,j,d⟩:=bT h;split at d
 .cases d;exact eB H k dl j
 grind
structure jS(T:List aN)(s s':aH):Prop where
 l:s'.p<T.length
 p:s.p<=s'.p
 t:s.tm<=s'.tm/\s'.tm<=65536
 g:∃r,s'.g=s.g++r
 v:Vg s'.g
def jS.tr{T:List aN}{a b c:aH}(e:jS T a b)(d:jS T b c):jS T a c:=⟨d.l,bI e.p d.p,⟨bI e.t.1 d.t.1,d.t.2⟩,by
 obtain⟨r,h⟩:=e.g;obtain⟨k,j⟩:=d.g
 grind,d.v⟩
def jS.len{T:List aN}{a b:aH}(d:jS T a b):a.g.length<=b.g.length:=by
 obtain⟨r,e⟩:=d.g
 grind
def Mv.go{T:List aN}{s e:aH}(d:Mv T s e)(j:s.tm<=65536)(h:Vg s.g):jS T s e:=⟨d.l,Nat.le_of_lt d.p,by rw[d.t];omega,⟨[],by rw[d.g,df]⟩,by rw[d.g];exact h⟩
def RT{n:Nx}:∀{g:List Nx} {i k:Nat},eo n g i=some k->k<i+g.length
 |[],i,k,d=>by cases d
 |e::g,i,k,d=>by
  unfold eo at d;split at d
  .grind
  .have:=RT d
   grind
def wD{T:List aN}{s q:aH}{n:Nx}{t:aN}{k:Nat}(y:Vg s.g)(w:s.p<T.length)(x:s.tm<=65536)(h:ej s n t=.ok k q):jS T s q/\k<q.g.length:=by
 unfold ej at h;split at h
 .rename_i d;cases h;unfold a3 at d ⊢;split at d
  .grind
  .rename_i j;rw[ad j];split at d
   .rename_i i e;try rw[e]
    refine⟨⟨w,bz _,⟨bz _,x⟩,⟨[],(df _).symm⟩,y⟩,?_⟩;have:=RT e
    grind
   .rename_i e;try rw[e]
    split at d
    .cases d
    .rename_i z;rw[ad z];refine⟨⟨w,bz _,⟨bz _,x⟩,⟨_,rfl⟩,?_⟩,by grind⟩;have j:(bo s.g n).2=0:=Classical.byContradiction j;exact .snoc y (Ao (by grind)) (sB e)
 grind
structure e5(E:b3)(g:List Nx):Prop where
 T:hS E.T
 vs:∀q∈E.vs,q.2<g.length
 pm:∀q∈E.pm,q.2<g.length
 ms:∀q∈E.ms,q.2.ix<E.ms.length/\q.2.b<E.T.length/\(q.2.ps.map (·.1)).Nodup/\q.2.ps.length<=100000
def e5.up{E:b3}{g j:List Nx}(d:e5 E g)(k:g.length<=j.length):e5 E j:=⟨d.T,λh e=>pd (d.vs h e) k,λh e=>pd (d.pm h e) k,d.ms⟩
def e5.deep{E:b3}{g:List Nx}(d:e5 E g):e5 {E with dp:=E.dp+1} g:=⟨d.T,d.vs,d.pm,d.ms⟩
def j1{α:Type}:∀{l:List (List UInt8×α)} {t:List UInt8} {v:α},lk l t=some v->(t,v)∈l
 |[],_,_,d=>by cases d
 |(e,v)::l,t,u,d=>by
  unfold lk at d;split at d
  .grind
  .exact dJ _ (j1 d)
def aaE{E:b3}{w:List UInt8}{m:PM}(d:ik E w=some m):lk E.ms w=some m/\m.ix<E.kn:=by
 unfold ik at d
 grind
def lx(E:b3)(tm:aH->PR Nat)(p0:Nat):Prop:=∀s n d,p0<=s.p->s.p<E.T.length->s.tm<=65536->Vg s.g->e5 E s.g->tm s=.ok n d->jS E.T s d/\s.p<d.p/\n<d.g.length
def Ak{E:b3}{tm:aH->PR Nat}{p0:Nat}(A:lx E tm p0):∀(k:Nat) (s:aH) (l:List Int) (e:aH),p0<=s.p->s.p<E.T.length->s.tm<=65536->Vg s.g->e5 E s.g->gA tm k s=.ok l e->jS E.T s e/\l.length=k/\∀h∈l,0<=h/\h<(e.g.length:Int)
 |0,s,l,e,_,q,w,x,_,j=>by cases j;exact⟨⟨q,bz _,⟨bz _,w⟩,⟨[],(df _).symm⟩,x⟩,rfl,λh B=>by cases B⟩
 |k+1,s,l,e,D,q,w,x,z,j=>by
  obtain⟨a,C,F,G⟩:=bT j;obtain⟨K,P,H,J⟩:=bT G;cases J;obtain⟨d,N,L⟩:=A s a C D q w x z F;obtain⟨y,O,M⟩:=Ak A k C K _ io d.l d.t.2 d.v (z.up d.len) H;refine⟨d.tr y,by grind,λh B=>?_⟩;have:=y.len
  grind
def Mb{T:List aN}(H:hS T){w:List UInt8}{s y:aH}{z:Nx×Nat}(j:s.p<T.length)(e:ih T w s=.ok z y):Mv T s y\/y=s:=by
 unfold ih at e;split at e
 .obtain ⟨u,k,d,h⟩:=bT e;obtain⟨n,A,q,x⟩:=bT h;cases x;have m:=(lH H j d).1;exact .inl (m.tr (lH H m.l q).1)
 split at e
 .obtain ⟨u,k,d,h⟩:=bT e;cases h;exact .inl (vR H j d).1
 split at e
 .obtain ⟨u,k,d,h⟩:=bT e;obtain⟨n,A,q,x⟩:=bT h;cases x;have m:=(lH H j d).1;exact .inl (m.tr (lH H m.l q).1)
 split at e
 .obtain ⟨u,k,d,h⟩:=bT e;cases h;exact .inl (lH H j d).1
 split at e
 .obtain ⟨u,k,d,h⟩:=bT e;cases h;exact .inl (lH H j d).1
 split at e
 .obtain ⟨u,k,d,h⟩:=bT e;cases h;exact .inl (lH H j d).1
 split at e
 .obtain ⟨u,k,d,h⟩:=bT e;cases h;exact .inl (acM H j d)
 grind
def QF{E:b3}{tm:aH->PR Nat}{p0:Nat}(k:lx E tm p0){w:List UInt8}{s y:aH}{n:Nx}(A:p0<=s.p)(j:s.p<E.T.length)(q:s.tm<=65536)(x:Vg s.g)(e:e5 E s.g)(z:i5 E.T tm w s=.ok n y):jS E.T s y:=by
 obtain⟨F,H,B,C⟩:=bT z;obtain⟨G,J,h,D⟩:=bT C;cases D;rcases Mb e.T j B with m|rfl
 .have d:=m.go q x;exact d.tr (Ak k _ _ _ _ (by have:=m.p;omega) m.l (by rw[m.t];omega) d.v (e.up d.len) h).1
 .exact (Ak k _ _ _ _ A j q x e h).1
def Dr{g:List Nx}:∀{ps:List (List UInt8×aM)} {az:List Int},(∀h∈az,0<=h/\h<(g.length:Int))->∀e∈iW ps az,e.2<g.length
 |[],_,_,e,d=>by cases d
 |(p,_)::ps,[],_,e,d=>by cases d
 |(p,_)::ps,a::az,j,e,d=>by
  have d:e∈(p,a.toNat)::iW ps az:=d;rcases aF.1 d with rfl|d
  .have:=j a List.mem_cons_self;omega
  .exact Dr (λh k=>j h (dJ _ k)) e d
def Jt{tm:b3->aH->PR Nat}{E:b3}{p0:Nat}(H:∀d,d.T=E.T->d.ms=E.ms->d.kn<E.kn->lx d (tm d) 0){m:PM}{w:List UInt8}(F:ik E w=some m){az:List Int}{s h:aH}{n:Nat}(G:s.p<E.T.length)(J:s.tm<=65536)(K:Vg s.g)(e:e5 E s.g)(A:∀q∈az,0<=q/\q<(s.g.length:Int))(x:h8 tm E m az s=.ok n h):jS E.T s h/\n<h.g.length/\h.p=s.p:=by obtain⟨D,C⟩:=aaE F;obtain⟨k,L,y,z⟩:=bT x;cases z;have B:=e.ms _ (j1 D);obtain⟨j,_,k⟩:=H {E with pm:=iW m.ps az,kn:=m.ix} rfl rfl C {s with p:=m.b} n L (dg _) B.2.1 J K ⟨e.T,e.vs,Dr A,e.ms⟩ y;exact⟨⟨G,bz _,j.t,j.g,j.v⟩,k,rfl⟩
def aeA{tm:b3->aH->PR Nat}{E:b3}{s:aH}(O:∀j,j.T=E.T->j.ms=E.ms->j.vs=E.vs->j.kn=E.kn->lx j (tm j) (s.p+1))(N:∀j,j.T=E.T->j.ms=E.ms->j.kn<E.kn->lx j (tm j) 0){n:Nat}{C:aH}(P:s.p<E.T.length)(af:s.tm<=65536)(hv:Vg s.g)(z:e5 E s.g)(d:ir tm E s=.ok n C):jS E.T s C/\s.p<C.p/\n<C.g.length:=by
 unfold ir at d;dsimp only at d;split at d
 .cases d
 rename_i B;have w:(aK E.T s.p).kind≠6:=λaa=>B (.inr (.inr aa));split at d
 .cases d
 rename_i ae;have W:=rU z.T P w;obtain⟨x,A⟩:∃x:aH,x={cN (aK E.T s.p) s with tm:=s.tm+1}:=⟨_,rfl⟩;have p1:x.p=s.p+1:=by
  rw[A];unfold cN
  grind
 have g1:x.g=s.g:=by rw[A];exact W.g
 have t1:x.tm=s.tm+1:=by rw[A]
 have e:jS E.T s x:=⟨by rw[p1];exact z.T.nx P w,io,io,⟨[],by grind⟩,by grind⟩;rw[<-A]at d;clear A W;have H:e5 E x.g:=by grind
 split at d
 .
  unfold lK at d;split at d
  .rename_i ad B;cases d;exact⟨e,io,H.pm _ (j1 B)⟩
  split at d
  .rename_i ad B;cases d;exact⟨e,io,H.vs _ (j1 B)⟩
  split at d
  .rename_i m K;split at d
   .obtain ⟨a,b,c⟩:=Jt (p0:=0) N K e.l e.t.2 e.v H (λZ L=>by cases L) d;exact⟨e.tr a,io,b⟩
   grind
  grind
 split at d
 .obtain ⟨a,b⟩:=wD e.v e.l e.t.2 d;exact⟨e.tr a,by have:=a.p;omega,b⟩
 split at d
 .obtain ⟨a,b⟩:=wD e.v e.l e.t.2 d;exact⟨e.tr a,by have:=a.p;omega,b⟩
 unfold mb at d;split at d
 .cases d
 obtain⟨ag,Y,h1,y⟩:=bT d;have S:=eB z.T e.l dl h1;have q:=e.tr (S.go e.t.2 e.v);have J:e5 {E with dp:=E.dp+1} Y.g:=(z.up q.len).deep;have Q:s.p+1<=Y.p:=by have:=S.p;omega
 split at y
 .obtain ⟨nd,s3,D,F⟩:=bT y;obtain⟨_,s4,G,w⟩:=bT F;have k:=QF (E:={E with dp:=E.dp+1}) (O {E with dp:=E.dp+1} rfl rfl rfl rfl) Q q.l q.t.2 q.v J D;have M:=eB z.T k.l dl G;have h:=M.go k.t.2 k.v;obtain⟨a,b⟩:=wD h.v h.l h.t.2 w;refine⟨q.tr (k.tr (h.tr a)),?_,b⟩;have:=k.p;have:=h.p;have:=a.p;omega
 .unfold pB at y;split at y
  .cases y
  rename_i m K;obtain⟨az,s3,D,F⟩:=bT y;obtain⟨_,s4,G,w⟩:=bT F;obtain⟨k,hlen,ac⟩:=Ak (E:={E with dp:=E.dp+1}) (O {E with dp:=E.dp+1} rfl rfl rfl rfl) _ _ _ _ Q q.l q.t.2 q.v J D;have M:=eB z.T k.l dl G;have h:=M.go k.t.2 k.v;split at w
  .obtain ⟨a,b,c⟩:=Jt (p0:=0) (E:={E with dp:=E.dp+1}) N K h.l h.t.2 h.v ((J.up k.len).up h.len) (λZ L=>by have:=ac Z L;have:=h.len;omega) w;refine⟨q.tr (k.tr (h.tr a)),?_,b⟩;have:=k.p;have:=h.p;omega
  grind
def yJ:∀(f:Nat) (E:b3),lx E (dO f E) 0
 |0,E=>λs n h _ _ _ _ _ e=>by cases e
 |f+1,E=>λs n h _ k q w j e=>aeA (λd _ _ _ _=>λs n h _=>yJ f d s n h (dg _)) (λd _ _ _=>yJ f d) k q w j e
namespace Rj
def ok:=aB (aA U Tryz.f41 [] []) OZ []
end Rj
namespace vt
def cA:=bD (aA U Tryz.f24 [(1,(.sq [0,1] (.fork (.sq [2] (.fork (ls [3,4,5,6,7]) (ls [4,3,5,6,7]))) (.fork (.sq [3] (.fork (ls [2,4,5,6,7]) (ls [4,2,5,6,7]))) (.sq [4] (.fork (ls [2,3,5,6,7]) (ls [3,2,5,6,7]))))))),(5,lr 12)] [3]) [0,1,1,1,2] [(3,.l [.s] l3),(5,.r),(16,.s),(17,.I),(18,.I)]
abbrev t1:=bB cA
def dU:=bO t1 cA
abbrev aV:=ai t1 [2] [(3,.l [.s] l3),(5,.r)]
abbrev t2:=aj aV
def aq:=aB t2 OY [.s,.a 1,.s]
end vt
namespace Ro
abbrev aV:=ai (aA U Tryz.f93 [] [5]) [0,1,1,1,1,1,1] []
abbrev t1:=aj aV
abbrev bg:=ai t1 [2] [(0,.r),(1,.st)]
abbrev t2:=aj bg
def aq:=aB t2 O0 [.r,.st]
end Ro
namespace Rm
def aq:=aB (aA U Tryz.f74 [] [5] (some [])) jD [.r,.I,.a 3,.I,.st,.I]
end Rm
namespace Ru
abbrev aV:=ai (aA U Tryz.f44 [(1,lr 12)] [2,3]) [3] [(2,.l [.I,.st,.I] dz),(3,.l [.I,.st,.I] dz)]
abbrev t1:=aj aV
def aq:=aB t1 O2 [.r]
end Ru
namespace Rw
abbrev aV:=ai (aA U Tryz.f46 [] [3] (some [jD])) [2] [(0,.r),(3,.l [.I,.st,.I] dz)]
abbrev t1:=aj aV
def aq:=aB t1 p' [.r,.a 3,.I,.st,.I]
end Rw
namespace Rr
abbrev aV:=ai (aA U Tryz.f69 [] [4,5] (some [p'])) [3] [(4,.l [.I,.st,.I] dz),(5,.l [.I,.st,.I] dz)]
abbrev t1:=aj aV
def aq:=aB t1 nh [.r,.I]
end Rr
namespace Rn
abbrev aV:=ai (aA U Tryz.f73 [] [3] (some [nh,jD])) [4] [(4,.I)]
abbrev t1:=aj aV
def aq:=aB t1 q9 [.r]
end Rn
namespace yb
abbrev cM:=ai (aA U Tryz.f91 [] [2,3,4,5] (some [p',nh,q9,jD])) [9] [(2,.l [.I,.I,.I] cd),(5,.l [.I,.I,.I] cd)]
abbrev t1:=aj cM
abbrev P0:Ps:=[(0,.r),(2,.l [.I,.I,.I] cd),(3,.l [.I,.st,.I] dz),(5,.l [.I,.I,.I] cd)]
abbrev bL:=ai t1 [6] P0
abbrev t2:=aj bL
abbrev bg:=ai t2 [0,1,1,1,5] P0
abbrev t3:=aj bg
abbrev aV:=ai t3 [5] P0
abbrev t4:=aj aV
def aq:=aB t4 xN [.r]
end yb
namespace GX
abbrev bg:=ai (aA U Tryz.f92 [(1,(.sq [0,1,2,3,4] (.fork (ls [5,6,7,8,9,10,11,12,13]) (ls [10,5,6,7,8,9,11,12,13]))))] [4,5,7] (some [jD])) [3] [(0,.r),(7,.l [.s] l3),(8,.I)]
abbrev t1:=aj bg
abbrev aV:=ai t1 [2] [(0,.r),(5,.l [.I,.st,.I] dz),(7,.l [.s] l3),(8,.I),(9,.I)]
abbrev t2:=aj aV
def aq:=aB t2 vc [.r,.a 9,.I,.s,.I,.I,.U,.st,.I,.I,.I,.a 3,.I,.st,.I]
end GX
namespace Rq
abbrev bg:=ai (aA U Tryz.f124 [(1,lr 12),(4,lr 12)] [3,9] (some [jD,AO])) [5] [(0,.r),(9,.l [.s,.I,.I] jg)]
abbrev t1:=aj bg
abbrev aV:=ai t1 [0,1,1,1,4] [(0,.r),(3,.l [.I,.st,.I] dz),(9,.l [.s,.I,.I] jg)]
abbrev t2:=aj aV
def aq:=aB t2 F3 [.r,.a 3,.I,.st,.I]
end Rq
namespace GZ
abbrev bg:=ai (aA U Tryz.f125 [] [3] (some [jD,vc])) [5] [(0,.r),(3,.l [.I,.st,.I] dz),(6,.I),(7,.U)]
abbrev t1:=aj bg
abbrev aV:=ai t1 [3] [(0,.r),(3,.l [.I,.st,.I] dz),(5,.I),(6,.I)]
abbrev t2:=aj aV
def aq:=aB t2 F5 [.r,.a 3,.I,.st,.I]
end GZ
namespace Bk
abbrev bL:=ai (aA U Tryz.f171 [] [3,4] (some [nh,jD])) [7] [(7,.st)]
abbrev t1:=aj bL
abbrev bg:=ai t1 [6] [(0,.r),(3,.l [.I,.st,.I] dz),(6,.I),(7,.st)]
abbrev t2:=aj bg
abbrev aV:=ai t2 [4] [(0,.r),(3,.l [.I,.st,.I] dz),(4,.l [.I,.Y,.Y,.s] aO),(6,.I)]
abbrev t3:=aj aV
def aq:=aB t3 F6 [.r]
end Bk
namespace Rp
def aq:=aB (aA U Tryz.f152 [(2,lr 13)] [4,6]) O1 [.r,.st]
end Rp
namespace s4
def cA:=bD (aA U Tryz.f153 [(1,lr 15),(2,(.sq [0,1,2,3,4,6,7,8,9] (.fork (ls [5,10,11,12,13,14,15,16]) (ls [10,5,11,12,13,14,15,16])))),(6,lr 11)] [4,11] (some [sL])) [0,1,1,1,3] [(0,.r),(2,.s),(7,.I),(8,.m),(9,.I),(40,.s),(41,.I),(42,.I)]
abbrev t1:=bB cA
def dU:=bO t1 cA
abbrev aV:=ai t1 [3] [(0,.r),(2,.s),(4,.l [.s,.I,.I] jg),(7,.I),(8,.m),(9,.I)]
abbrev t2:=aj aV
def aq:=aB t2 AO [.r,.a 3,.s,.I,.I,.s]
end s4
namespace qg
def cA:=bD (aA U Tryz.f156 [(14,lr 15)] [4,5,7,12] (some [nh,jD,sL,AO])) [0,1,1,1,4] [(0,.r),(4,.l [.I,.st,.I] dz),(7,.l [.s,.I,.I] jg),(9,.s),(30,.I),(31,.I)]
abbrev t1:=bB cA
abbrev P0:Ps:=[(0,.r),(4,.l [.I,.st,.I] dz),(7,.l [.s,.I,.I] jg),(9,.s),(43,.s),(44,.I),(45,.I)]
def l7:=bD t1 [0,1,1,1,6] P0
abbrev t2:=bB l7
abbrev cM:=ai t2 [3,2,1,1,6] P0
abbrev t3:=aj cM
def qF:=bO t3 l7
def dU:=bO t3 cA
abbrev aV:=ai t3 [3] [(0,.r),(4,.l [.I,.st,.I] dz),(7,.l [.s,.I,.I] jg)]
abbrev t4:=aj aV
def aq:=aB t4 FU [.r,.a 3,.I,.st,.I,.a 3,.I,.st,.I]
end qg
namespace vv
def cA:=bD (aA U Tryz.f155 [(4,lr 17),(32,lr 8)] [4,5] (some [q9,xN,sL,F6])) [0,1,1,1,4] [(0,.r),(4,.l [.I,.s,.I,.I,.U,.st,.I,.I,.I] bP),(5,.l [.I,.s,.I,.I,.U,.st,.I,.I,.I] bP),(74,.I),(75,.I)]
abbrev t1:=bB cA
def dU:=bO t1 cA
abbrev aV:=ai t1 [4] [(0,.r),(4,.l [.I,.s,.I,.I,.U,.st,.I,.I,.I] bP),(5,.l [.I,.s,.I,.I,.U,.st,.I,.I,.I] bP),(6,.I)]
abbrev t2:=aj aV
def aq:=aB t2 F4 [.r,.st]
end vv
namespace GY
abbrev bg:=ai (aA U Tryz.f126 [] [3,6,7] (some [nh,jD,vc,F4,FU])) [6] [(0,.r),(5,.I)]
abbrev t1:=aj bg
abbrev aV:=ai t1 [2] [(0,.r),(3,.l [.I,.st,.I] dz)]
abbrev t2:=aj aV
def aq:=aB t2 FY [.r,.a 3,.I,.st,.I]
end GY
namespace Bm
abbrev P0:Ps:=[(0,.r),(3,.l [.I,.st,.I] dz)]
abbrev bg:=ai (aA U Tryz.f96 [] [3] (some [p',jD,vc,F3,F5,FY])) [4] P0
abbrev t1:=aj bg
abbrev aV:=ai t1 [3] P0
abbrev t2:=aj aV
abbrev bL:=ai t2 [2,1,1,1,2] P0
abbrev t3:=aj bL
def aq:=aB t3 sL [.r]
end Bm
namespace Bl
def aX:=bD (aA U Tryz.f26 [] [2] (some [FV,p'])) [0,1] [(0,.r)]
abbrev t1:=bB aX
def bR:=bO t1 aX
def aq:=aB t1 F7 [.r]
end Bl
namespace vu
abbrev P0:Ps:=[(0,.r),(3,.l [.I,.st,.I,.I,.I,.I,.I] ke)]
abbrev bL:=ai (aA U Tryz.f45 [(24,lr 12),(29,lr 11)] [2,3,4] (some [p',nh,FZ,F1,F9,q9,jD])) [3] P0
abbrev t1:=aj bL
abbrev bg:=ai t1 [2,1,5,1,1,1,2] P0
abbrev t2:=aj bg
abbrev aV:=ai t2 [0,1,5,1,1,1,2] [(0,.r),(2,.l [.I,.st,.I] dz),(3,.l [.I,.st,.I,.I,.I,.I,.I] ke)]
abbrev t3:=aj aV
abbrev cM:=ai t3 [6,1,1,1,2] [(0,.r),(2,.l [.I,.st,.I] dz),(3,.l [.I,.st,.I,.I,.I,.I,.I] ke),(9,.st)]
abbrev t4:=aj cM
def aq:=aB t4 FV [.r]
end vu
namespace Rv
abbrev aV:=ai (aA U Tryz.f72 [(1,lr 12)] [3] (some [jD,sL])) [4] [(4,.I)]
abbrev t1:=aj aV
def aq:=aB t1 F9 [.r]
end Rv
namespace Rs
abbrev bg:=ai (aA U Tryz.f90 [(2,lr 12),(3,lr 13)] [2,3,6] (some [nh,jD])) [5] [(2,.l [.I,.st,.I] dz),(3,.l [.I,.st,.I] dz)]
abbrev t1:=aj bg
abbrev aV:=ai t1 [0,1,1,1,4] [(0,.r),(2,.l [.I,.st,.I] dz),(3,.l [.I,.st,.I] dz)]
abbrev t2:=aj aV
def aq:=aB t2 AP [.r]
end Rs
namespace Rk
def aq:=aB (aA U Tryz.f70 [(6,lr 14)] [3,5] (some [nh,AP,xN,vc])) FZ [.r,.a 3,.I,.st,.I]
end Rk
namespace Bj
abbrev P0:Ps:=[(0,.r),(1,.r),(2,.m)]
def aX:=bD (aA U Tryz.f94 [(9,lr 11)] [3,4] (some [p',nh,jD,xN])) [0,1,1] P0
abbrev t1:=bB aX
abbrev bL:=ai t1 [5,3,1] [(0,.r),(1,.r),(2,.m),(4,.l [.I,.st,.I] dz)]
abbrev t2:=aj bL
abbrev bg:=ai t2 [3,3,1] P0
abbrev t3:=aj bg
def bR:=bO t3 aX
def aq:=aB t3 F2 [.r,.r]
end Bj
namespace Rl
abbrev aV:=ai (aA U Tryz.f71 [(11,lr 8)] [2] (some [nh,jD,AP,F2,F8])) [4] [(1,.r),(2,.l [.I,.st,.I] dz)]
abbrev t1:=aj aV
def aq:=aB t1 F1 [.r]
end Rl
namespace vw
abbrev P0:Ps:=[(0,.r),(2,.I)]
def aX:=bD (aA U Tryz.f95 [] [3] (some [p'])) [0,1,1] P0
abbrev t1:=bB aX
abbrev bg:=ai t1 [2,3,1] P0
abbrev t2:=aj bg
abbrev bL:=ai t2 [1,1,3,1,1,1,1,3,1] P0
abbrev t3:=aj bL
def bR:=bO t3 aX
def aq:=aB t3 F8 [.r]
end vw
namespace Ri
def aq:=aB (aA U Tryz.f9 [(8,lr 12)] [2]) q8 [.st]
end Ri
def Aj:List Int:=[0,0,0,0,1,1,2,2,2,2,2,2,2,2,2,2,2,2,2,3,2,1,1,1,2,3,2,1,1,2,3,2,3,1,1]
abbrev cJ:En:=.rd ⟨some (aa 0),35,35⟩ (Aj.map bX)
def ZG{op:Int}(d:0<=op)(e:op<=34):Aj[op.toNat]? =some (ck op):=by rcases vp d e with rfl|rfl|rfl|rfl|rfl|rfl|rfl|rfl|rfl|rfl|rfl|rfl|rfl|rfl|rfl|rfl|rfl|rfl|rfl|rfl|rfl|rfl|rfl|rfl|rfl|rfl|rfl|rfl|rfl|rfl|rfl|rfl|rfl|rfl|rfl<;>rfl
section
variable {M:Nat->Prop} {w0 w:I} {L D:List En} {bs:List Nat}
def _root_.Go.W.O.qp(H:O M w0 w L D)(i a c:Nat){b:Nat}{vs:List V}{T:TypeId}{v:V}{K:I->Prop}(hi:L[i]? =some (.c b vs T))(y:∀j,O M w0 j (L.set i (.c b (vs.set (a+c) v) T)) D->K j)(z:a+c<vs.length:=by simp[g1])(h:∀b∈bs,En.g b∈L:=by simp):
  aL w (((aa b).add a).add c) v λk=>kept bs w k/\K k:=by rw[add_add];obtain⟨A,B,E,C⟩:=BM (H.ob i hi) (a+c) io v;obtain⟨_,_,x⟩:=H.set (v:=v) i (a+c) hi z;refine⟨A,B,λd e=>?_,y _ x⟩;refine C.cv d (H.own _ (h d e)) λq=>?_;have:=u0 H hi (zG w b vs T) (h d e);exact this (by rw[q];exact r0.2 rfl)
def _root_.Go.W.O.h0(H:O M w0 w L D)(i a:Nat){b:Nat}{vs:List V}{T:TypeId}{v:V}{K:I->Prop}(hi:L[i]? =some (.c b vs T))(h:∀d,O M w0 d (L.set i (.c b (vs.set a v) T)) D->K d)(k:a<vs.length:=by simp[g1])(j:∀b∈bs,En.g b∈L:=by simp):
  aL w ((aa b).add a) v λe=>kept bs w e/\K e:=by
 have:=H.qp (v:=v) (K:=K) i a 0 hi h k j
 rwa[iV]at this
end
def adN{g:List Nx}{n:Nx}(d:(ck n.op==(n.kids.length:Int)&&n.kids.all (dx g)&&fU n)=true)(e:¬n.op<=3):bo g n=if i1 n (a8 g n 0) (a8 g n 1) (a8 g n 2)≠0 then(a5,i1 n (a8 g n 0) (a8 g n 1) (a8 g n 2))else(fX n (a8 g n 0) (a8 g n 1) (a8 g n 2),0):=by
 unfold bo i1;rw[d,ad us,ad e]
 grind
def Z7{g:List Nx}{n:Nx}(d:(b6 g n).2≠0):b6 g n=(a5,(b6 g n).2):=by
 unfold b6 at d ⊢
 grind
structure kz(d:Nx):Prop where
 kl:d.kids.length<=1000000000
 n:cE d.n
 m:cE d.m
 u:0<=d.u
 tx:d.op=33->rL d.tx
abbrev wW(a b c:aM):List V:=g1 a++g1 b++g1 c
def oq(g:List Nx)(n:Nx)(i j:Nat):aM:=if j<i then a8 g n j else a5
def ZS{g:List Nx}{n:Nx}{j:Nat}(d:n.kids.length<=j):a8 g n j=a5:=by
 unfold a8
 grind
def ZR{l:List Nd}{n:Nx}{i:Nat}{k:Int}{e:Nd}(h:n.kids[i]? =some k)(d:l[k.toNat]? =some e):a8 (xs l) n i=e.x.st:=by
 unfold a8
 grind
def ZQ{g:List Nx}{n:Nx}(h:∀d∈g,bx d.st=true)(j:Nat):qB (a8 g n j):=by
 unfold a8;split
 .split
  .rename_i e;exact ae1 (h _ (ay e))
  .exact QA
 .exact QA
def Um{w:I}{s:Sl}{l:List Nd}{d:Nd}{D:List En}(lk:Fv)(H:O F0 w w [] (.gr s l::bE d::cJ::D))(hc:hv U lk.n=true)(hl:∀A:I,(∀e∈D,e.P A)->ah U lk.n (lk.bs++#[.string d.x.tx]++lk.cs) A λr aZ=>r=n8 (xs l) d.x.tx/\af A aZ)(ho:kz d.x)(a9:l.length<=1000000000)(aA:∀e∈xs l,bx e.st=true):
  ah U P8 #[s.v,d.v,lk.v] w λr A=>r=gF (bo (xs l) d.x)/\af w A:=by
 have hn:=gz (bd.1 (H.getD 0));have aJ:(xs l).length=l.length:=by simp[xs]
 have a4:d.ks.n=d.x.kids.length:=bJ.len (H.getD 1);have a3:=ho.kl;refine rz.aq (H.nw λw1 _ H1=>H1.aw λN w2 H2=>H2.ae λQ J=>?_);have y:∀{G:I} {L:List En},O F0 w G (.c w.heap.size d.c bP::L) (.gr s l::bE d::cJ::D)->dK G (aa w.heap.size) d:=λH=>xQ (H.ob 0);have J:O F0 w Q [.c w.heap.size d.c bP,.g N] (.gr s l::bE d::cJ::D):=J;have fail:(ck d.x.op==(d.x.kids.length:Int)&&d.x.kids.all (dx (xs l))&&fU d.x)=false->∀{G:I} {L:List En} {bs:List Nat},O F0 w G L (.gr s l::bE d::cJ::D)->(∀b∈bs,En.g b∈L)->loc bs G λM=>(λr A=>r=gF (bo (xs l) d.x)/\af w A) (ab (.tuple #[.agg #[.i 0,.i 0,.i 0],.i 1])) M:=λhf _ _ _ B hb=>B.ae (λM C=>⟨by unfold bo;rw[ag hf];rfl,C.fr⟩) hb;have kN:∀op:Int,op<0\/34<op->ck op=-1:=λop aL=>by unfold ck;rw[ag aL]
 refine⟨_,(y J).c0,aS (λaj=>fail ?_ J us) (λaj=>⟨_,(y J).c0,aS (λaN=>fail ?_ J us) (λaN=>⟨_,(y J).c1,_,(y J).c0,io,by show d.x.op<35;omega,ck d.x.op,?_,cq (λam=>fail ?_ J us) (λap=>?_)⟩)⟩)⟩
 .rw [kN _ (.inl aj),beq_eq_false_iff_ne.2 io];rfl
 .rw [kN _ (.inr io),beq_eq_false_iff_ne.2 io];rfl
 .have hk:bJ Q ⟨some (aa 0),35,35⟩ Aj:=J.getD 2;exact(show W.ea (some (aa 0)) λp=>Q.cell? (p.add (aY d.x.op *1))=some (.int .i64 (ck d.x.op))from hk.cell (ZG io io) rfl λp _ hc=>hc)
 .rw [beq_eq_false_iff_ne.2 io];rfl
 have aV:(ck d.x.op==(d.x.kids.length:Int))=true:=by rw[beq_iff_eq];omega
 have a2:d.x.kids.length<=3:=by
  have:ck d.x.op<=3:=by unfold ck;repeat' split<;>omega
  omega
 refine J.nw λw4 _ H4=>⟨_,(y H4).c1,?_⟩;have loop:∀(m i:Nat) (G:I),i+m=d.x.kids.length->d.x.kids.all (dx (xs l))=(d.x.kids.drop i).all (dx (xs l))->O F0 w G [.c w.heap.size d.c bP,.g N,.c Q.heap.size (wW (oq (xs l) d.x i 0) (oq (xs l) d.x i 1) (oq (xs l) d.x i 2)) Cb] (.gr s l::bE d::cJ::D)->
   rz.cA s lk (aa w.heap.size) N 0 0 0 (aa Q.heap.size) (d.ks.n:Int) (i:Int) G λr A=>r=gF (bo (xs l) d.x)/\af w A:=by
  intro m;induction m with
  |zero=>
   intro i G hi Y B;rw[dH io]at Y;have e0:∀F,oq (xs l) d.x i F=a8 (xs l) d.x F:=λF=>by
    unfold oq;split
    .rfl
    .exact (ZS io).symm
   rw[e0,e0,e0]at B;refine rz.dU (aT (a7 io) (B.av (aek (y B)) ?_));rintro _ M rfl C;refine⟨_,rfl,eS (λhf=>fail (by rw[hf,Bool.and_false]) C us) (λhf=>C.aw λai Z h=>?_)⟩;have aB:(ck d.x.op==(d.x.kids.length:Int)&&d.x.kids.all (dx (xs l))&&fU d.x)=true:=by rw[aV,Y,hf];rfl
   have h:O F0 w Z [.c w.heap.size d.c bP,.g N,.c Q.heap.size (wW (a8 (xs l) d.x 0) (a8 (xs l) d.x 1) (a8 (xs l) d.x 2)) Cb,.g ai] (.gr s l::bE d::cJ::D):=h;have fin:∀(T:aM) (E:Int) (t:aM) (e:Int) (j:I),bo (xs l) d.x=(if E≠0 then(a5,E)else(T,0))->e=E->(E=0->t=T)->O F0 w j [.c w.heap.size d.c bP,.g N,.c Q.heap.size (wW (a8 (xs l) d.x 0) (a8 (xs l) d.x 1) (a8 (xs l) d.x 2)) Cb,.g ai] (.gr s l::bE d::cJ::D)->
     loc [N,ai] j λw9=>rz.cM N 0 0 0 ai t.k t.n t.x e w9 λr A=>r=gF (bo (xs l) d.x)/\af w A:=by intro T E t e j hs z K q;subst z;refine q.ae λw9 H9=>cq (λam=>H9.ae λa1 ao=>⟨by rw[hs,ag am];rfl,ao.fr⟩) (λaj=>H9.ae λa1 ao=>⟨?_,ao.fr⟩);rw[hs,ad io,K aj]
   have aK:d.x.op<=3->bo (xs l) d.x=(if(b6 (xs l) d.x).2≠0 then(a5,(b6 (xs l) d.x).2)else((b6 (xs l) d.x).1,0)):=λh3=>by
    unfold bo;rw[aB,ad us,ag h3];split
    .rename_i am;exact Z7 am
    .rename_i ap;rw[Decidable.not_not]at ap;rw[<-ap]
   have ac:=λF=>ZQ (n:=d.x) aA F;refine⟨_,(y h).c0,ax (λaG=>?_) (λaG=>⟨_,(y h).c0,aS (λaz=>?_) (λaz=>⟨_,(y h).c0,aS (λaH=>?_) (λaH=>⟨_,(y h).c0,aS (λaI=>?_) (λaI=>?_)⟩)⟩)⟩)⟩
   .have Hv:O F0 Z Z [] (.gU (aa w.heap.size) d::D):=bZ _ (by
     intro e z;rcases aF.1 z with rfl|z
     .exact y h
     .exact h.rd e (dJ _ (dJ _ (dJ _ z))))
    refine h.av (aew (xs l) lk Hv hc hl aG) ?_;rintro _ j ⟨t,e,rfl,z,K⟩ q;exact⟨_,_,_,_,rfl,fin _ _ t e j (aK io) z K q⟩
   .refine h.av (aeo (xs l) (y h) io az ho.u) ?_;rintro _ j ⟨t,e,rfl,z,K⟩ q;exact⟨_,_,_,_,rfl,fin _ _ t e j (aK az) z K q⟩
   all_goals
    have rest:=adN aB io;have S:∀(a c:Nat) (v:V),(wW (a8 (xs l) d.x 0) (a8 (xs l) d.x 1) (a8 (xs l) d.x 2))[a+c]? =some v->Z.cell? (((aa Q.heap.size).add a).add c)=some v:=λa c v aA=>by rw[add_add];exact h.ld 2 (a+c) rfl aA
    refine⟨io,dl,(a8 (xs l) d.x 0).k,(a8 (xs l) d.x 0).n,(a8 (xs l) d.x 0).x,S 0 0 _ rfl,S 0 1 _ rfl,S 0 2 _ rfl,io,dl,(a8 (xs l) d.x 1).k,(a8 (xs l) d.x 1).n,(a8 (xs l) d.x 1).x,S 3 0 _ rfl,S 3 1 _ rfl,S 3 2 _ rfl,io,dl,(a8 (xs l) d.x 2).k,(a8 (xs l) d.x 2).n,(a8 (xs l) d.x 2).x,S 6 0 _ rfl,S 6 1 _ rfl,S 6 2 _ rfl,?_⟩
   .refine h.av (aei (y h) io aH (ac 0) (ac 1) ho.n ho.m) ?_;rintro _ j ⟨t,e,rfl,z,K⟩ q;exact⟨_,_,_,_,rfl,fin _ _ t e j rest z K q⟩
   .refine h.av (aeh (y h) io aI) ?_;rintro _ j ⟨t,e,rfl,z,K⟩ q;exact⟨_,_,_,_,rfl,fin _ _ t e j rest z K q⟩
   .refine h.av (aev (y h) io io (ac 0) (ac 1) (ac 2) ho.tx) ?_;rintro _ j ⟨t,e,rfl,z,K⟩ q;exact⟨_,_,_,_,rfl,fin _ _ t e j rest z K q⟩
  |succ m ih=>
   intro i G hi Y B;have hg:d.x.kids[i]? =some (d.x.kids[i]'io):=a0 io;rw[dG (by omega:i<d.x.kids.length),List.all_cons]at Y;generalize d.x.kids[i]'io=x at hg Y;have bad:dx (xs l) x=false->rz.bL N 0 0 0 G λr A=>r=gF (bo (xs l) d.x)/\af w A:=λhx=>fail (by rw[Y,hx];simp) B us;refine rz.dU (aR (a6 io) ⟨_,(y B).c1,io,io,(show bJ G d.ks d.x.kids from B.getD 1).cell hg io λp hp aQ=>⟨x,aQ,aS (λh1=>bad ?_) (λh1=>aS (λh2=>bad ?_) (λh2=>?_))⟩⟩)
   .unfold dx;rw[a7 io];rfl
   .unfold dx;rw[a7 (show ¬x<((xs l).length:Int)by rw[aJ];omega)];simp
   have ar:l[x.toNat]? =some (l[x.toNat]'io):=a0 io;generalize l[x.toNat]'io=e at ar;have aX:=ZR hg ar;refine eJ (bd.1 (B.getD 0)) (i:=x.toNat) io ar λba hq c=>⟨_,_,_,c.s0,c.s1,c.s2,io,by show(i:Int)<3;omega,?_⟩;have aO:d.x.kids.all (dx (xs l))=(d.x.kids.drop (i+1)).all (dx (xs l)):=by rw[Y];unfold dx;rw[a6 (show 0<=x by omega),a6 (show x<((xs l).length:Int)by rw[aJ];omega)];rfl
   have an:∀M,O F0 w M [.c w.heap.size d.c bP,.g N,.c Q.heap.size (wW (oq (xs l) d.x (i+1) 0) (oq (xs l) d.x (i+1) 1) (oq (xs l) d.x (i+1) 2)) Cb] (.gr s l::bE d::cJ::D)->rz.cA s lk (aa w.heap.size) N 0 0 0 (aa Q.heap.size) (d.ks.n:Int) (aE .i64 ((i:Int)+1)) M λr A=>r=gF (bo (xs l) d.x)/\af w A:=λM C=>by rw[bt _ io];exact ih (i+1) M io aO C
   have aU:i=0\/i=1\/i=2:=io
   have up:∀F,oq (xs l) d.x (i+1) F=if F=i then e.x.st else oq (xs l) d.x i F:=λF=>by
    unfold oq;by_cases hj:F=i
    .rw [ag hj,ag io,hj,aX]
    .rw [ad hj];by_cases aC:F<i
     .rw [ag aC,ag io]
     .rw [ad aC,ad io]
   rw[up 0,up 1,up 2]at an;rcases aU with rfl|rfl|rfl
   .exact B.h0 2 0 rfl λM C=>C.qp 2 0 1 rfl λZ h=>h.qp 2 0 2 rfl λj q=>an j q
   .exact B.h0 2 3 rfl λM C=>C.qp 2 3 1 rfl λZ h=>h.qp 2 3 2 rfl λj q=>an j q
   .exact B.h0 2 6 rfl λM C=>C.qp 2 6 1 rfl λZ h=>h.qp 2 6 2 rfl λj q=>an j q
 exact loop d.x.kids.length 0 w4 io us H4
def aep{w:I}{s:Sl}{l:List Nd}{b:Nat}(t:ByteArray)(q:GP w s l)(H:w.heap[b]? =some (.cells [s.v].toArray l3 (0,0)))(N:l.length<=1000000000):
  ah U Gl #[.string t,.pointer (some (aa b))] w λr y=>r=n8 (xs l) t/\af w y:=by
 have P:=gz q;have F:O F0 w w [] [.gr s l,.c b [s.v] l3]:=bZ _ (by
  intro k e;simp only[aF,aW,a2]at e;rcases e with rfl|rfl
  .exact bd.2 q
  .exact H)
 have loop:∀(m i:Nat) (h:Nat) (j:I),i+m=l.length->ga (xs l) t=ga ((xs l).drop i) t->O F0 w j [.g h] [.gr s l,.c b [s.v] l3]->tB.aX t (aa b) h 0 0 0 (s.n:Int) (i:Int) j λr y=>r=n8 (xs l) t/\af w y:=by
  intro m;induction m with
  |zero=>
   intro i h j J e d;rw[dH (by grind)]at e;exact tB.bR (aT (a7 io) (d.ae λL A=>⟨by unfold n8;rw[e];rfl,A.fr⟩))
  |succ m Y=>
   intro i h j J e d;have z:l[i]? =some (l[i]'io):=a0 io;have K:(xs l).drop i=(l[i]'io).x::(xs l).drop (i+1):=by
    rw[dG (by grind:i<(xs l).length)]
    grind
   rw[K]at e;generalize l[i]'io=k at z e;have M:ga (xs l) t=if k.x.op=0/\k.x.tx=t then some k.x.st else ga ((xs l).drop (i+1)) t:=e;have C:¬(k.x.op=0/\k.x.tx=t)->tB.bg t (aa b) h 0 0 0 (s.n:Int) (i:Int) j λr y=>r=n8 (xs l) t/\af w y:=λQ=>by
    show tB.aX t (aa b) h 0 0 0 (s.n:Int) (aE .i64 ((i:Int)+1)) j _;rw[bt _ io]
    grind
   refine tB.bR (aR (a6 io) ⟨s,d.dY 1 0,eJ (bd.1 (d.getD 0)) rfl z λp S c=>⟨_,c.c0,ax (λD=>⟨s,d.dY 1 0,eJ (bd.1 (d.getD 0)) rfl z λZ T G=>⟨_,G.c5,BJ (λE=>⟨s,d.dY 1 0,eJ (bd.1 (d.getD 0)) rfl z λp3 W B=>⟨_,_,_,B.s0,B.s1,B.s2,d.ae λL A=>⟨?_,A.fr⟩⟩⟩) (λE=>C λq=>E q.2)⟩⟩) (λD=>C λq=>D q.1)⟩⟩);unfold n8
   grind
 exact tB.aq (F.aw λh j d=>⟨s,d.dY 1 0,loop l.length 0 h j io us d⟩)
def aeg{w:I}{s:Sl}{l:List Nd}{d:Nd}(H:GP w s l)(hd:d.P w)(N:cJ.P w)(J:kz d.x)(k:l.length<=1000000000)(K:∀j∈xs l,bx j.st=true):
  ah U PF #[.agg #[s.v],d.v] w λr y=>r=gF (bo (xs l) d.x)/\af w y:=by
 have A:O F0 w w [] [.gr s l,bE d,cJ]:=bZ _ (by
  intro j h;simp only[aF,aW,a2]at h;rcases h with rfl|rfl|rfl
  .exact bd.2 H
  .exact hd
  omega)
 refine Us.aq (A.nw λQ _ B=>B.aw λL S C=>C.aw λM z e=>⟨s,e.ld 0 0,?_⟩);have G:O F0 z z [] [.gr s l,bE d,cJ,.gr s l,.c w.heap.size [s.v] l3]:=bZ _ (by
  intro j h;simp only[aF,aW,a2]at h;rcases h with rfl|rfl|rfl|rfl|rfl
  .exact e.getD 0
  .exact e.getD 1
  .exact e.getD 2
  .exact e.getD 0
  .exact e.get 0)
 refine e.av (Um (D:=[.gr s l,.c w.heap.size [s.v] l3]) ⟨Gl,#[],#[.pointer (some (aa w.heap.size))]⟩ G (by kernel_rfl) (λy q=>?_) J k K) ?_
 .exact aep d.x.tx (bd.1 (q (.gr s l) us)) (q (.c w.heap.size [s.v] l3) us) k
 .rintro _ T rfl E;exact⟨_,_,_,_,rfl,E.ae λW F=>⟨rfl,F.fr⟩⟩
abbrev Aa(e:Int)(p:Nat):V:=.iface lh (.agg #[.i e,.i (p:Int)])
abbrev i2(e:Int)(p:Nat):List PanicEntry:=[{v:=Aa e p,recovered:=false}]
structure RC where
 rb:Nat
 tk:Sl
 cs:Sl
 mo:Nat
 mv:Nat
 mm:Nat
 g:Sl
 pm:Option Nat
 kn:Int
 dp:Nat
abbrev bG(X:RC)(s:aH):En:=.c X.rb [X.tk.v,.i (s.p:Int),X.g.v,X.cs.v,.map (some X.mo),.map (some X.mv),.map (some X.mm),.map X.pm,.i X.kn,.i (X.dp:Int),.i (s.tm:Int)] aeU
def UO(t:aN):(v9 t).length=3:=rfl
abbrev mI(t:aN):V:=.agg #[.i t.kind,.string (ba t.text),.i (t.a4:Int)]
structure Dc(w:I)(p:Addr)(t:aN):Prop where
 c0:w.cell? (p.add 0)=some (.i t.kind)
 c1:w.cell? (p.add 1)=some (.string (ba t.text))
 c2:w.cell? (p.add 2)=some (.i (t.a4:Int))
def B7{w:I}{s:Sl}{l:List aN}(h:bA 3 w s (l1 l)){i:Nat}{d:aN}{X:Int}(k:X=(i:Int))(hi:l[i]? =some d){K:Addr->Prop}(q:∀p,s.a=some p->Dc w (p.add (aY X *3)) d->K p):ow s X K:=by have j:=h.1;unfold l1 at j;rw[pO v9 3 UO]at j;have y:=(List.getElem?_eq_some_iff.1 hi).1;subst k;exact⟨io,io,gb.elem (f:=v9) (sz:=3) UO io h.2.2 hi λp x e=>q p x ⟨e 0 _ rfl,e 1 _ rfl,e 2 _ rfl⟩⟩
def Ie{w:I}{s:Sl}{l:List aN}(x:bA 3 w s (l1 l)){i:Nat}{d:aN}{X:Int}(y:X=(i:Int))(hi:l[i]? =some d){p:Addr}(A:s.a=some p):Dc w (p.add (aY X *3)) d:=by obtain⟨_,_,j⟩:=B7 x y hi (K:=λh=>∃k,s.a=some k/\Dc w (k.add (aY X *3)) d) (λh e z=>⟨h,e,z⟩);rw[A]at j;obtain⟨h,e,q⟩:=j;cases e;exact q
section
variable {M:Nat->Prop} {w0 w:I} {L D:List En} {bs:List Nat}
def _root_.Go.W.O.ab3(H:O M w0 w L D)(i:Nat){e:En}(h:En){P:au}{g:b5}{args:Array V}{A:Ending->Prop}{K:aC}(hi:L[i]? =some e)(x:ah P g args w λr d=>A r/\h.P d/\Fr (·∈e.fp) w d)(y:∀b∈h.fp,b∈e.fp)(z:∀r d,A r->O M w0 d (L.set i h) D->K r d)(q:∀b∈bs,En.g b∈L.eraseIdx i:=by simp):e8 bs P g args w K:=
 ⟨(·∈e.fp),λb j B=>xe hi H.nd b B (.g b) (q b j) (by simp[En.g]),x.mono λr d ⟨k,C,f⟩=>⟨f,z r d k (H.fy i h hi f C λb j=>.inl (y b j))⟩⟩
end
section
variable {X:RC} {T:List aN}
def g4(w:I)(rb:Nat)(D:List En):Prop:=∀d∈D,d.P w/\∀e∈d.fp,e≠rb
def j6{w:I}{e:En}{D:List En}{rb:Nat}(j:e.fp=[rb])(z:e.P w)(q:g4 w rb D):O (·∈[rb]) w w [e] D:=
 O.og _ _ (λh d=>by
  rw[cK.1 d];exact⟨z,λy k=>j▸k⟩) (by simp[j]) (λh d=>⟨(q h d).1,λy k B A x=>by rw[cK.1 A,j,cK]at x;exact(q h d).2 y k x⟩)
def cY{M:Nat->Prop}{w0 w:I}{L D:List En}(H:O M w0 w L D){i:Nat}{e:En}{rb:Nat}(hi:L[i]? =some e)(j:e.fp=[rb]):g4 w rb D:=λd h=>⟨H.rd d h,λx q k=>H.dj d h x q e (ay hi) (by rw[j,k];simp)⟩
def iw(X:RC)(w:I){α:Type}(x:PR α)(val:α->V):aC:=λr d=>match x with
 |.ok a s=>r=ab (val a)/\(bG X s).P d/\Fr (·∈[X.rb]) w d
 |.er e p=>r=.panicked (i2 e p)/\Fr (·∈[X.rb]) w d
def EO{M:Nat->Prop}{w0 w w':I}{L D:List En}(H:O M w0 w L D){i:Nat}{e:En}(hi:L[i]? =some e)(f:Fr (·∈e.fp) w w'):Fr M w0 w':=H.fr.trans f λh j d=>(H.new e (ay hi) h d).resolve_left io
def Fh{M:Nat->Prop}{w0 w w':I}{L D:List En}{bs:List Nat}(H:O M w0 w L D){i:Nat}{e:En}(hi:L[i]? =some e)(f:Fr (·∈e.fp) w w')(h:∀b∈bs,En.g b∈L.eraseIdx i):kept bs w w':=λb d=>
 f.cv b ((En.g b).lt w (H.own (.g b) (List.mem_of_mem_eraseIdx (h b d))) b (by simp[En.g])) λj=>xe (f:=λe:En=>e.fp) hi H.nd b j (.g b) (h b d) (by simp[En.g])
def eZ{M:Nat->Prop}{w0 w:I}{L D:List En}{bs:List Nat}(H:O M w0 w L D)(i:Nat){s:aH}{α:Type}{x:PR α}{val:α->V}{P:au}{f:b5}{args:Array V}{R K:aC}(hi:L[i]? =some (bG X s))(q:ah P f args w (iw X w x val))(z:∀a e d,x=.ok a e->O M w0 d (L.set i (bG X e)) D->K (ab (val a)) d)(y:∀h p d,x=.er h p->Fr M w0 d->R (.panicked (i2 h p)) d)(k:∀b∈bs,En.g b∈L.eraseIdx i:=by simp):mV bs P f args R w K:=by
 refine q.mono λr d j=>?_;unfold iw at j;split at j
 .rename_i a e;obtain⟨rfl,A,f⟩:=j;exact .inr ⟨⟨_,rfl⟩,Fh H hi f k,z a e d rfl (H.fy i (bG X e) hi f A λx B=>.inl B)⟩
 .rename_i h p;obtain⟨rfl,f⟩:=j;exact .inl ⟨_,rfl,y h p d rfl (EO H hi f)⟩
def gy{M:Nat->Prop}{w0 w:I}{L D:List En}{bs:List Nat}(H:O M w0 w L D){P:au}{f:b5}{args:Array V}{c:List PanicEntry}{R K:aC}(h:ah P f args w λr d=>r=.panicked c/\af w d)(j:∀d,Fr M w0 d->R (.panicked c) d):mV bs P f args R w K:=
 h.mono λr d ⟨e,f⟩=>.inl ⟨c,e,j d (H.cB f).fr⟩
def jM(h:Addr)(e:Int)(t:aN)(w:I):ah U jD #[.pointer (some h),.i e,mI t] w λr j=>r=.panicked (i2 e t.a4)/\af w j:=
 Rm.aq ((bZ (w:=w) [] us).aw λb k d=>⟨rfl,d.fr⟩)
def rl(e:Addr)(t:aN)(w:I):ah U p' #[.pointer (some e),mI t] w λr h=>r=.panicked (i2 (if t.kind=6 then 3 else 2) t.a4)/\af w h:=
 Rw.aq ((bZ (w:=w) [] us).aw λb k j=>ax (λd=>gy j (jM e 3 t k) λh f=>⟨by rw[ag d],f⟩) (λd=>gy j (jM e 2 t k) λh f=>⟨by rw[ad d],f⟩))
structure pw(X:RC)(T:List aN)(D:List En):Prop where
 t:En.a9 3 X.tk (l1 T)∈D
 e:hS T
def yf{w:I}{D:List En}{s:aH}(F:(bG X s).P w)(G:g4 w X.rb D)(y:pw X T D)(z:s.p<T.length):
  ah U O2 #[.pointer (some (aa X.rb))] w λr C=>r=ab (mI (aK T s.p))/\(bG X (cN (aK T s.p) s)).P C/\Fr (·∈[X.rb]) w C:=by
 have A:=(o8 z).2;have M:=y.e.l;generalize aK T s.p=t at A;refine Ru.aq ((j6 rfl F G).aw λK N E=>E.ae λO h=>⟨X.tk,h.ld 0 0,_,h.ld 0 1,B7 (h.rd _ y.t) rfl A λp z c=>⟨t.kind,ba t.text,t.a4,c.c0,c.c1,c.c2,h.aw λL Q d=>?_⟩⟩);have q:=Ie (d.rd _ y.t) (X:=(s.p:Int)) rfl A z;refine⟨q.c0,q.c1,q.c2,d.ld 0 1,d.ld 0 0,cq (λx=>d.ae λH j=>⟨_,j.ld 0 1,j.h0 0 1 rfl (λJ k=>k.ae λS B=>⟨rfl,?_,B.fr⟩) us⟩) (λx=>d.ae λH j=>j.ae λJ k=>⟨rfl,?_,k.fr⟩)⟩
 .have:=B.get 0;rw[bt _ io]at this;unfold cN;rw[ad x];exact this
 .unfold cN;rw[ag x];exact k.get 0
def aaX{M:Nat->Prop}{w0 w:I}{L D:List En}{bs:List Nat}(H:O M w0 w L D)(i:Nat){e h:En}{v:V}{rb:Nat}{P:au}{f:b5}{args:Array V}{K:aC}(hi:L[i]? =some e)(k:e.fp=[rb])(B:h.fp=[rb])(z:ah P f args w λr d=>r=ab v/\h.P d/\Fr (·∈[rb]) w d)(C:∀d,O M w0 d (L.set i h) D->K (ab v) d)(y:∀b∈bs,En.g b∈L.eraseIdx i:=by simp):e8 bs P f args w K:=
 H.ab3 i h (A:=λr=>r=ab v) hi (z.mono λr d ⟨j,E,f⟩=>⟨j,E,by rw[k];exact f⟩) (λF q=>by rw[B]at q;rw[k];exact q) (λr d j x=>j▸C d x) y
def AK{M:Nat->Prop}{w0 w:I}{L D:List En}(H:O M w0 w L D)(i:Nat){e h:En}{v:V}{rb:Nat}{P:au}{f:b5}{args:Array V}{K:aC}(hi:L[i]? =some e)(j:e.fp=[rb])(y:h.fp=[rb])(x:ah P f args w λr d=>r=ab v/\h.P d/\Fr (·∈[rb]) w d)(z:∀d,O M w0 d (L.set i h) D->K (ab v) d):ah P f args w K:=
 x.mono λr d ⟨q,A,f⟩=>q▸z d (H.fy i h hi (by rw[j];exact f) A λB k=>.inl (by rw[y]at k;rw[j];exact k))
def ja{w:I}{D:List En}{s:aH}{k:Int}(d:(bG X s).P w)(z:g4 w X.rb D)(A:pw X T D)(B:s.p<T.length):
  ah U nh #[.pointer (some (aa X.rb)),.i k] w (iw X w (bU T k s) mI):=by
 refine Rr.aq ((j6 rfl d z).aw λC G e=>aaX e 0 rfl rfl rfl (yf (e.get 0) (cY e (i:=0) rfl rfl) A B) λH y=>⟨_,_,_,rfl,y.aw λE J j=>cq (λd=>j.ae λx h=>gy h (rl _ (aK T s.p) x) λF f=>?_) (λd=>j.ae λx h=>h.ae λK q=>?_)⟩)
 .unfold iw bU;rw[ad d];exact⟨rfl,f⟩
 .unfold iw bU;rw[ag d];exact⟨rfl,q.get 0,q.fr⟩
end
def wc(g:List Nx):List Int:=((List.range g.length).filter λi=>match g[i]? with |some d=>ak (d.op=0)|none=>false).map λi:Nat=>(i:Int)
def y7(g:List Nx):Prop:=∀(i:Nat) (d:Nx),g[i]? =some d->∀e∈d.kids,0<=e/\e<(i:Int)
def Vg.Am{g:List Nx}(d:Vg g):y7 g:=λ_ _ e=>d.kids e
def jC(n m:Int)(w:I)(h:1<=m)(d:cE n):ah U xG #[.i n,.i m] w λr e=>r=ab (.i (fP n m))/\af w e:=(Jb n m w h d).mono λr e d=>⟨d.1,d.2▸Fr.refl _ _⟩
def ot(t:List UInt8)(s:aM):Nx:=⟨0,[],0,0,0,ba t,s⟩
def l4(t:List UInt8)(s:aM):Nd:=⟨ot t s,⟨none,0,0⟩⟩
def k':List Nd:=[l4 [97] (aZ 2),l4 [98] (aZ 2),l4 [99] (aZ 1),l4 [100] (aZ 3)]
def lY:List Nd:=[l4 [109] ⟨2,2,1⟩,l4 [110] ⟨2,2,1⟩]
def j7:List Nd:=[l4 [115] (e0 2),l4 [116] (e0 1),l4 [105] (aZ 7),l4 [122] ⟨3,1,1⟩]
def cW(kind:Int):List Nd:=k'++(if kind>0 then lY else[])++(if kind>1 then j7 else[])
def vgB(l:List Nx):Bool:=(List.range l.length).all λi=>match l[i]? with
 |some n=>ak (bo (l.take i) n=(n.st,0))&&ak (n∉l.take i)
 |none=>false
def Iu{l:List Nx}(h:vgB l=true):Vg l:=by
 have main:∀i,i<=l.length->Vg (l.take i):=by
  intro i;induction i with
  |zero=>intro _;rw[List.take_zero];exact .nil
  |succ i j=>
   intro k;have d:=List.all_eq_true.1 h i (List.mem_range.2 io);have e:l[i]? =some (l[i]'io):=a0 io;rw[e]at d;dsimp only at d;rw[ha,e];simp only[bf,decide_eq_true_eq]at d;exact .snoc (j io) d.1 d.2
 have:=main l.length (bz _)
 grind
def ad3(kind:Int):Vg (xs (cW kind)):=by
 unfold cW;split
 .split
  .exact Iu (by kernel_rfl)
  .exact Iu (by kernel_rfl)
 .split
  .omega
  .exact Iu (by kernel_rfl)
def oj:List ByteArray:=[ba [],ba [97],ba [97,98],ba [98],ba [0],ba [97,97]]
structure MdN(d:Nx):Prop where
 xW:-1<=d.op
 xX:d.op<=34
 kl:d.kids.length<=3
 n:0<=d.n/\d.n<=100
 m:0<=d.m/\d.m<=100
 u:0<=d.u/\d.u<=1000
 tx:d.op≠33->d.tx.size<=16
 re:d.op=33->∃k,d.tx=ba (lZ k)
 li:d.op=2->d.tx∈oj
structure ed(g:List Nx):Prop where
 vg:Vg g
 nd:∀d∈g,MdN d
def T2(kind:Int):ed (xs (cW kind)):=by
 refine⟨ad3 kind,λe k=>?_⟩;have d:∃t s,e=ot t s/\t.length<=16:=by
  have h:e∈xs (k'++lY++j7):=by
   obtain⟨a,j,rfl⟩:=List.mem_map.1 k;refine List.mem_map.2 ⟨a,?_,rfl⟩;unfold cW at j
   grind
  simp only[xs,k',lY,j7,l4,iJ,lS,List.map_cons,List.map_nil,aF,aW,a2]at h
  grind
 obtain⟨t,s,rfl,q⟩:=d;exact⟨by show(-1:Int)<=0;omega,by show(0:Int)<=34;omega,by simp[ot],by simp[ot],by simp[ot],by simp[ot],λ_=>by show(ba t).size<=16;rw[bC];exact q,λd=>(by cases d),λd=>(by cases d)⟩
def HZ{kind:Int}:∀d∈cW kind,d.x.kids=[]/\d.ks=⟨none,0,0⟩:=by
 intro d h;have e:d∈k'++lY++j7:=by
  unfold cW at h
  grind
 simp only[k',lY,j7,l4,ot,iJ,lS,aF,aW,a2]at e;rcases e with rfl|rfl|rfl|rfl|rfl|rfl|rfl|rfl|rfl|rfl<;>exact⟨rfl,rfl⟩
def ad1{kind:Int}{w w0:I}{s:Sl}(q:bA 9 w s ((cW kind).flatMap Nd.c))(y:∀b∈aG s,w0.heap.size<=b):GR w0 F0 (xs (cW kind)) s w:=by
 refine⟨cW kind,rfl,⟨q,λe j=>?_⟩,λb d=>.inr ?_⟩
 .obtain ⟨h,k⟩:=HZ e j;show bJ w e.ks e.x.kids;rw[h,k];exact Rd.nil w
 .rcases n0.1 d with d|⟨e,j,d⟩
  .exact rp y b d
  .obtain ⟨h,k⟩:=HZ e j;unfold bE at d;rw[h]at d;cases d
def T1(kind:Int):1<=(cW kind).length/\(cW kind).length<=10:=by unfold cW;split<;>split<;>decide
def Xt(kind:Int)(w:I):ah U OD #[.i kind] w λr q=>(∃s:Sl,r=ab s.v/\GR w F0 (xs (cW kind)) s q)/\af w q:=by
 refine Eo.ok ((bZ [] us).call (fD 2 w) ?_);rintro _ w1 rfl K;refine⟨_,_,_,rfl,K.call (fD 2 w1) ?_⟩;rintro _ w2 rfl N;refine⟨_,_,_,rfl,N.call (fD 1 w2) ?_⟩;rintro _ w3 rfl P;refine⟨_,_,_,rfl,P.call (fD 3 w3) ?_⟩;rintro _ J rfl Q;refine⟨_,_,_,rfl,Q.fe (n:=4) (sz:=9) (cs:=k'.flatMap Nd.c) rfl dl λC E=>?_⟩;have fin:∀(l:Sl) (d:I) (L:List En) (j:Nat),O F0 w d L []->L[j]? =some (.row bP 9 l ((cW kind).flatMap Nd.c))->(∃s:Sl,Ending.returned l.v=ab s.v/\GR w F0 (xs (cW kind)) s d)/\af w d:=λl d L j e A=>
  ⟨⟨l,rfl,ad1 (e.get j A:aJ _ _ _ _ _).a9 λb Y=>(e.new _ (ay A) b Y).resolve_right id⟩,e.fr⟩
 have F:∀(l:Sl) (d:I) (L:List En) (j:Nat) (h:List Nd),O F0 w d L []->h.length<=6->cW kind=h++(if kind>1 then j7 else[])->L[j]? =some (.row bP 9 l (h.flatMap Nd.c))->Eo.S0 kind l d λr q=>(∃s:Sl,r=ab s.v/\GR w F0 (xs (cW kind)) s q)/\af w q:=by
  intro l d L j h e ai Z A;refine aS (λG=>?_) (λG=>?_)
  .rw [ag G]at Z;refine e.call (pA 2 d) ?_;rintro _ D rfl z;refine⟨_,_,_,rfl,z.call (pA 1 D) ?_⟩;rintro _ w8 rfl S;refine⟨_,_,_,rfl,S.call (fD 7 w8) ?_⟩;rintro _ x rfl T;refine⟨_,_,_,rfl,T.fe (n:=4) (sz:=9) (cs:=j7.flatMap Nd.c) rfl dl λad y=>?_⟩;have H:(L++[En.row bP 9 ⟨some (aa x.heap.size),4,4⟩ (j7.flatMap Nd.c)])[j]? =some (.row bP 9 l (h.flatMap Nd.c)):=by grind
   have ac:(L++[En.row bP 9 ⟨some (aa x.heap.size),4,4⟩ (j7.flatMap Nd.c)])[L.length]? =some (.row bP 9 ⟨some (aa x.heap.size),4,4⟩ (j7.flatMap Nd.c)):=us
   have hn:l.n=h.length:=by have:=(y.get j H:aJ _ _ _ _ _).len;rw[Nd.hU]at this;omega
   have k:bA 9 ad ⟨some (aa x.heap.size),4,4⟩ (j7.flatMap Nd.c):=(y.get L.length ac:aJ _ _ _ _ _).a9;refine y.ap j nY (src:=⟨some (aa x.heap.size),4,4⟩) H k.2.2 k.1 q' (by grind) (λB ae M _ _=>?_);refine fin B ae _ j M ?_
   grind
  grind
 refine aS (λW=>E.fe (n:=2) (sz:=9) (cs:=lY.flatMap Nd.c) rfl dl λd e=>?_) (λW=>?_)
 .have k:bA 9 d ⟨some (aa C.heap.size),2,2⟩ (lY.flatMap Nd.c):=(e.get 1:aJ _ _ _ _ _).a9;refine e.ap 0 nY (s:=⟨some (aa J.heap.size),4,4⟩) (src:=⟨some (aa C.heap.size),2,2⟩) rfl k.2.2 k.1 q' (by grind) (λB D z _ _=>?_);refine F B D _ 0 (k'++lY) z dl ?_ ?_
  .unfold cW;grind
  grind
 .refine F ⟨some (aa J.heap.size),4,4⟩ C _ 0 k' E dl ?_ rfl;unfold cW;grind
def Xx(kind:Int)(s:aM)(w:I):ah U OF #[.i kind,dk s] w λr h=>(∃b:Bool,r=ab (.bool b))/\af w h:=
 Ln.aq ((bZ [] us).aw λb j e=>ax (λd=>⟨⟨_,rfl⟩,e.fr⟩) (λd=>aS (λd=>ax (λd=>⟨⟨_,rfl⟩,e.fr⟩) (λd=>⟨⟨_,rfl⟩,e.fr⟩)) (λd=>⟨⟨_,rfl⟩,e.fr⟩)))
end Go.Proofs.YtkbmpalepmakmaaGreatDoor
end
