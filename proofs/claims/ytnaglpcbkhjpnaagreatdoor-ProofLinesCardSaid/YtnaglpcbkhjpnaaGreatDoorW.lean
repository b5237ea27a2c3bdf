import Derived.OrdersHeld
import Derived.OrdersIn
import Derived.RangeFuncLeaves
import Derived.RangeFuncRecord
import Derived.RangeFuncSeq
import Derived.WalkKit
import Derived.Laws.AppendOwn
import Derived.Laws.StructEq
import Derived.KernelRfl
import Derived.Below
import Derived.OwnWalk
import Derived.IntWalk
import Derived.Laws.AppendOwnNone
set_option linter.unusedVariables false
set_option linter.defProp false
namespace Go.W
theorem co{p:Prop}(h:p:=by omega):p:=h
theorem ws{p:Prop}(h:p:=by simp):p:=h
theorem md{p:Prop}(h:p:=by decide):p:=h
open Go renaming World->J,Calls->aj,Program->aH,Value->aa,TypeId->aC,Ending->cE,FuncId->cW,IntKind->ik
open Go.IntKind renaming wrap->ah
open _root_.ByteArray renaming mk->bh
open Go.Builtin renaming append_->eu
open _root_.Bool renaming and_eq_true->bH,not_eq_true->jB
open _root_.Nat renaming le_refl->bm,le_trans->bz,zero_le->dI,beq->cg,lt_of_lt_of_le->mT,mul_le_mul_right->pS,beq_eq->eO
open _root_.Option.some renaming injEq->fq
open _root_.Array renaming replicate->hR
open _root_.BitVec renaming ofInt->e3
open Go.Region renaming wanted->dv,ready->e4
open Go.Ending renaming returned->ae
open List renaming mem_append->aW,mem_cons->aq,mem_of_getElem?->aG,getElem?_eq_getElem->a',getElem?_eq_some_iff->cV,mem_append_right->dL,mem_flatMap->bX,mem_map->bK,mem_of_mem_take->hP,mem_singleton->bY,flatMap_cons->cU,mem_iff_getElem?->hO,nodup_append->ho,all_eq_true->fa
def ag{c:Prop}{h:Decidable c}(x:¬c){α:Sort _}{t e:α}:ite c t e=e:=_root_.if_neg x
def av{c:Prop}{h:Decidable c}(x:c){α:Sort _}{t e:α}:ite c t e=t:=_root_.if_pos x
def aV{p:Prop}[i:Decidable p](x:¬p):decide p=false:=_root_.decide_eq_false x
def aQ{p:Prop}[i:Decidable p](x:p):decide p=true:=_root_.decide_eq_true x
def aR(p:Prop):(p∨False)=p:=_root_.or_false p
def eP{p:Prop}[i:Decidable p](x:decide p=true):p:=_root_.of_decide_eq_true x
def il{p:Prop}[i:Decidable p](x:decide p=false):¬p:=_root_.of_decide_eq_false x
abbrev Env:=List (Nat×aa)
def Env.get? :Env->Nat->Option aa
 |[],_=>none
 |(h,v)::d,t=>bif cg h t then some v else Env.get? d t
def Env.val(E:Env):Operand->Option aa
 |.tmp t=>E.get? t
 |.const v=>some v
 |.global g=>some (.pointer (some ⟨g,0,none⟩))
 |.func f=>some (.func (.func f) #[] #[])
def Env.ev(E:Env)(x:Operand):aa:=(E.val x).getD undef
def Env.put(E:Env)(d:Option Nat)(v:aa):Env:=
 match d with
 |some d=>(d,v)::E
 |none=>E
def Env.ef(E:Env)(o:Oper):Bool:=o.op.operands.toList.all λd=>(E.val d).isSome
structure Cx where
 n:Nat
 ds:List Deferred
 ro:Option Nat
instance:CoeHead Cx Nat:=⟨Cx.n⟩
abbrev cx(n:Nat):Cx:=⟨n,[],none⟩
abbrev FW(n:Cx):Fence:={Fence.wide with round:=n.ro}
structure Ag(n:Cx)(a:Act)(E:Env):Prop where
 defers:a.defers=n.ds
 size:a.tmps.size=n.n
 get:∀t v,E.get? t=some v->a.tmps[t]? =some v
def Ag.val{n:Cx}{a:Act}{E:Env}(h:Ag n a E){x:Operand}{v:aa}(d:E.val x=some v):a.eval x=v:=by
 cases x with
 |tmp t=>have:=h.get t v d;simp[Act.eval,this]
 |const u=>simpa[Env.val,Act.eval]using d
 |global g=>simpa[Env.val,Act.eval]using d
 |func f=>simpa[Env.val,Act.eval]using d
def Ag.ev{n:Cx}{a:Act}{E:Env}(h:Ag n a E){x:Operand}(j:(E.val x).isSome=true):a.eval x=E.ev x:=by obtain⟨v,d⟩:=Option.isSome_iff_exists.1 j;rw[h.val d,Env.ev,d];rfl
def Ag.put{n:Cx}{a:Act}{E:Env}(h:Ag n a E){d:Option Nat}(v:aa)(q:∀t,d=some t->t<n.n):Ag n (a.put d v) (E.put d v):=by
 cases d with
 |none=>exact h
 |some t=>
  refine⟨h.defers,by simp[Act.put,h.size],?_⟩;intro s u j;have k:t<a.tmps.size:=by rw[h.size];grind
  simp only[Env.put,Env.get?]at j;by_cases e:t=s
  .subst e;simp at j;simp[Act.put,k,j]
  .have:cg t s=false:=by rw[<-jB,eO];exact e
   simp only[this,cond_false]at j;simpa[Act.put,Array.getElem?_setIfInBounds_ne e]using h.get s u j
def Ag.nil{n:Cx}{a:Act}{E:Env}(h:Ag n a E):Ag n a []:=⟨h.defers,h.size,λ_ _ h=>by simp[Env.get?]at h⟩
def Ag.cons{n:Cx}{a:Act}{E F:Env}(h:Ag n a E){t:Nat}{v:aa}(k:E.get? t=some v)(j:Ag n a F):Ag n a ((t,v)::F):=by
 refine⟨h.defers,h.size,?_⟩;intro s u d;simp only[Env.get?]at d;by_cases e:t=s
 .subst e;simp at d;subst d;exact h.get _ _ k
 .have:cg t s=false:=by rw[<-jB,eO];exact e
  simp only[this,cond_false]at d;exact j.get s u d
def Ag.execOp{n:Cx}{a:Act}{E:Env}(h:Ag n a E){o:Oper}(k:∀d b,o.op≠.select d b)(j:E.ef o=true):execOp a.eval o=execOp E.ev o:=
 execOp_congr o k λq w=>h.ev (by have:=fa.1 j q (by grind);omega)
structure Sl where
 a:Option Addr
 n:Nat
 c:Nat
abbrev Sl.v(s:Sl):aa:=.slice s.a s.n s.c
abbrev aJ:=cE->J->Prop
structure Fv where
 n:Nat
 bs:Array aa
 cs:Array aa
abbrev Fv.v(f:Fv):aa:=.func (.func f.n) f.bs f.cs
def xF(z:aa)(K:aa->Prop):Prop:=
 match z with
 |.int d _=>∃n:Int,K (.int d n)
 |.bool _=>∃b:Bool,K (.bool b)
 |.string _=>∃s:ByteArray,K (.string s)
 |.slice _ _ _=>∃s:Sl,K s.v
 |.pointer _=>∃a:Option Addr,K (.pointer a)
 |.map _=>∃r:Option Nat,K (.map r)
 |_=>∃v:aa,K v
def z7:List aa->(List aa->Prop)->Prop
 |[],d=>d []
 |j::k,d=>xF j λv=>z7 k λh=>d (v::h)
def z8(z:aa)(K:aa->Prop):Prop:=
 match z with
 |.agg d=>z7 d.toList λh=>K (.agg h.toArray)
 |z=>xF z K
def EG:List aa->(List aa->Prop)->Prop
 |[],d=>d []
 |j::k,d=>z8 j λv=>EG k λh=>d (v::h)
def oa(z:aa)(K:aa->Prop):Prop:=
 match z with
 |.tuple h=>EG h.toList λd=>K (.tuple d.toArray)
 |z=>z8 z K
def EC{z:aa}{K:aa->Prop}(h:xF z K):∃v,K v:=by
 unfold xF at h
 grind
def ED:∀{j:List aa} {K:List aa->Prop},z7 j K->∃h,h.length=j.length/\K h
 |[],_,d=>⟨[],rfl,d⟩
 |_::_,_,d=>by
  obtain⟨v,d⟩:=EC d;obtain⟨h,k,d⟩:=ED d
  grind
def Lo{z:aa}{K:aa->Prop}(h:z8 z K):∃v,K v:=by
 unfold z8 at h;split at h
 .obtain ⟨d,_,h⟩:=ED h;grind
 .exact EC h
def Lq:∀{j:List aa} {K:List aa->Prop},EG j K->∃h,K h
 |[],_,d=>⟨[],d⟩
 |_::_,_,d=>by
  obtain⟨v,d⟩:=Lo d;obtain⟨h,d⟩:=Lq d
  grind
def r4{z:aa}{K:aa->Prop}(h:oa z K):∃v,K v:=by
 unfold oa at h;split at h
 .obtain ⟨d,h⟩:=Lq h;grind
 .exact Lo h
def cS(b:Bool)(p:Prop):Prop:=match b with |true=>p|false=>False
def dZ{b:Bool}{p:Prop}(h:cS b p):b=true/\p:=by
 cases b
 .exact h.elim
 .exact ⟨rfl,h⟩
def bt(t:Bool)(A B:Prop):Prop:=match t with |true=>A|false=>B
def bP{t:Bool}{A B:Prop}(d:t=true->A)(h:t=false->B):bt t A B:=by
 cases t
 .exact h rfl
 .exact d rfl
def aM{t:Bool}{A B:Prop}(d:t=true)(h:A):bt t A B:=by subst d;exact h
def aP{t:Bool}{A B:Prop}(d:t=false)(h:B):bt t A B:=by subst d;exact h
def dV(d:Option Addr)(K:Addr->Prop):Prop:=match d with |some p=>K p|none=>False
def sL{d:Option Addr}{K:Addr->Prop}(h:dV d K):∃p,d=some p/\K p:=by
 cases d with
 |none=>exact h.elim
 |some p=>exact⟨p,rfl,h⟩
def tY:List Prop->Prop->Prop
 |[],p=>p
 |d::l,p=>d/\tY l p
def tZ:∀{l:List Prop} {p:Prop},tY l p->(∀j∈l,j)/\p
 |[],_,d=>⟨λ_ d=>(by cases d),d⟩
 |_::_,_,d=>⟨λj h=>by
   rcases aq.1 h with rfl|h
   .exact d.1
   .exact (tZ d.2).1 j h,(tZ d.2).2⟩
def qJ{α:Type}(P:aH):Sem α->Option α
 |.pure a=>some a
 |.program d=>qJ P (d P)
 |_=>none
def Sb{α:Type}{P:aH}:∀{s:Sem α} {a:α},qJ P s=some a->∀h,s.run P h=.ok a h
 |.pure _,_,d,h=>by simp[qJ]at d;subst d;rfl
 |.program j,_,d,h=>by simp only[qJ]at d;exact Sb d h
 |.load ..,_,d,_|.store ..,_,d,_|.new ..,_,d,_|.shape ..,_,d,_|.freeze ..,_,d,_|.frozen ..,_,d,_|.getObj ..,_,d,_|.setObj ..,_,d,_
 |.choose ..,_,d,_|.sys ..,_,d,_|.mark ..,_,d,_|.halt ..,_,d,_=>by simp[qJ]at d
def zeroOf(P:aH)(t:aC):aa:=((P.info? t).bind (·.zero)).getD undef
def calm(P:aH)(o:Oper):Bool:=
 match o.op with
 |.convert s d _=>match P.underlying s,P.underlying d with
  |some (.slice _),some (.slice _)=>false
  |some .string,some (.slice _)=>false
  |_,_=>true
 |.move _|.assign _|.pick ..|.build ..|.load ..|.nilCheck _|.binOp ..|.unOp ..|.makeInterface ..|.makeFunc ..|.slice ..|.fieldAddr ..|.field ..|.indexAddr ..|.index ..
 |.lookup ..|.typeAssert ..|.extract ..=>true
 |.call {callee:=.builtin b,..}=>match b with |.len|.cap|.min|.max=>true|_=>false
 |_=>false
def nZ(x:Option aa)(y d:Nat)(K:Nat->Prop):Prop:=
 match x with
 |none=>K d
 |some (.int _ i)=>0<=i/\i<=(y:Int)/\K i.toNat
 |_=>False
def rK(P:aH)(T:aC):Option Bool:=
 match P.underlying T with
 |some (.struct _)|some (.array _ _)=>some true
 |some _=>some false
 |none=>none
def zp(P:aH)(T:aC):Bool:=
 match zeroOf P T with
 |.agg d=>rK P T==some true&&(match P.info? T with |some i=>i.size==d.size|none=>false)
 |_=>rK P T==some false
def nc(P:aH)(T:aC)(p:Addr)(w:J)(K:aa->List (J->Prop)->Prop):Prop:=
 cS (zp P T)<|match zeroOf P T with
 |.agg j=>z7 j.toList λh=>tY (h.zipIdx.map λ(v,i)=>w.cell? (p.add i)=some v) (K (.agg h.toArray) (h.zipIdx.map λ(v,i)=>λd=>d.cell? (p.add i)=some v))
 |.nilFunc=>∃f:Fv,w.cell? p=some f.v/\K f.v [λd=>d.cell? p=some f.v]
 |.nilIface=>(∃(t:aC) (x:aa),w.cell? p=some (.iface t x)/\K (.iface t x) [λd=>d.cell? p=some (.iface t x)])\/(w.cell? p=some .nilIface/\K .nilIface [λd=>d.cell? p=some .nilIface])
 |k=>xF k λv=>w.cell? p=some v/\K v [λd=>d.cell? p=some v]
def gm(P:aH)(o:Oper)(E:Env)(K:aa->List (J->Prop)->Prop):Prop:=
 cS (E.ef o) (match qJ P (execOp E.ev o)with |some (.value v)=>K v []|_=>False)
def EH(z:aa)(K:aa->Prop):Prop:=
 match z with
 |.nilFunc=>∃f:Fv,K f.v
 |z=>oa z K
def ZD{z:aa}{K:aa->Prop}(h:EH z K):∃v,K v:=by
 unfold EH at h;split at h
 .grind
 .exact r4 h
def qP(P:aH)(s:Sem aa)(z:aa)(w:J)(K:aa->List (J->Prop)->Prop):Prop:=
 EH z λv=>s.run P w=.ok v w/\K v [λd=>s.run P d=.ok v d]
def zT(P:aH)(T:aC):Option Nat:=
 match P.underlying T with
 |some (.slice e)=>(P.info? e).map (·.size)
 |_=>none
def Dp(P:aH)(T:aC):Option (Nat×Nat):=
 match P.underlying T with
 |some (.array n e)=>(P.info? e).map λi=>(n,i.size)
 |_=>none
def W4{P:aH}{T:aC}{n sz:Nat}(h:Dp P T=some (n,sz)):∃e inf,P.underlying T=some (.array n e)/\P.info? e=some inf/\sz=inf.size:=by
 unfold Dp at h;split at h
 .rename_i m e k;obtain⟨inf,j,d⟩:=Option.map_eq_some_iff.1 h
  grind
 grind
def isConst:Operand->Bool
 |.const _=>true
 |_=>false
def pj(P:aH)(T:aC)(c:aa):Bool:=
 match P.underlying T,c with
 |some (.slice _),.slice none _ _=>true
 |some (.pointer _),.pointer none=>true
 |some (.map _ _),.map none=>true
 |_,_=>false
def oj:Option aa->aa->Option Bool
 |some (.slice a _ _),.slice none _ _=>some a.isNone
 |some (.pointer a),.pointer none=>some a.isNone
 |some (.map r),.map none=>some r.isNone
 |_,_=>none
def xD(P:aH)(xs ys:Array aa):List Field->Option Bool
 |[]=>some true
 |f::d=>bif f.name=="_" then none else match P.underlying f.type,xs[f.offset]?,ys[f.offset]?,xD P xs ys d with
  |some (.int _),some (.int h a),some (.int j b),some r=>bif decide (h=j)then some ((a==b)&&r)else none
  |some .string,some (.string a),some (.string b),some r=>some ((a.toList==b.toList)&&r)
  |some .bool,some (.bool a),some (.bool b),some r=>some ((a==b)&&r)
  |_,_,_,_=>none
def Dh(P:aH)(T:aC)(xs ys:Array aa):Option Bool:=match P.underlying T with
 |some (.struct d)=>bif (!P.stoodInHeld T&&!P.eqGuardType P.depth T)then xD P xs ys d.toList else none
 |_=>none
def uP(P:aH)(o:Oper)(E:Env)(T:aC)(x y:Operand)(neg:Bool)(K:aa->List (J->Prop)->Prop):Prop:=match E.val x,E.val y with
 |some (.agg d),some (.agg h)=>match Dh P T d h with
  |some b=>K (.bool (bif neg then !b else b)) []
  |none=>False
 |_,_=>gm P o E K
def GC(P:aH)(e:aC):Bool:=match P.underlying e,P.info? e with
 |some .string,some i=>i.size==1
 |_,_=>false
def RF(P:aH)(e:aC):Bool:=match P.underlying e,P.info? e with
 |some (.int _),some i=>i.size==1
 |_,_=>false
def zK(P:aH)(o:Oper)(E:Env)(w:J)(K:aa->List (J->Prop)->Prop):Prop:=
 match o.op with
 |.load h d=>match E.val d with
  |some (.pointer (some p))=>nc P h p w K
  |_=>False
 |.nilCheck d=>match E.val d with
  |some (.pointer D)=>dV D λp=>K (.pointer (some p)) []
  |_=>gm P o E K
 |.indexAddr h d y=>match E.val d,E.val y with
  |some (.slice a n _),some (.int _ i)=>match zT P h with
   |some A=>0<=i/\i<(n:Int)/\dV a λp=>K (.pointer (some (p.add (i.toNat *A)))) []
   |none=>False
  |some (.pointer (some p)),some (.int _ i)=>match Dp P h with
   |some (n,A)=>0<=i/\i<(n:Int)/\K (.pointer (some (p.add (i.toNat *A)))) []
   |none=>False
  |_,_=>gm P o E K
 |.index h d y=>match P.underlying h,E.val d,E.val y with
  |some .string,some (.string s),some (.int _ i)=>0<=i/\∃b:UInt8,s[i.toNat]? =some b/\K (.int .u8 b.toNat) []
  |some (.array n e),some (.agg F),some (.int _ i)=>bif GC P e then 0<=i/\i<(n:Int)/\∃a:ByteArray,F[i.toNat]? =some (.string a)/\K (.string a) []else cS (RF P e) (0<=i/\i<(n:Int)/\∃a:Int,F[i.toNat]? =some (.int .i64 a)/\K (.int .i64 a) [])
  |_,_,_=>gm P o E K
 |.slice h d lo x z=>cS (E.ef o) (match P.underlying h,E.val d with
  |some (.slice _),some (.slice a n c)=>match zT P h with
   |some A=>nZ (z.map E.ev) c c λm=>nZ (x.map E.ev) m n λq=>cS (z.isNone||x.isSome) (nZ (lo.map E.ev) q 0 λl=>
     K (.slice (if m=l then a else a.map (·.add (l *A))) (q - l) (m - l)) [])
   |none=>False
  |some .string,some (.string s)=>cS z.isNone (nZ (x.map E.ev) s.size s.size λq=>nZ (lo.map E.ev) q 0 λl=>K (.string (s.extract l q)) [])
  |some (.array n e),some (.pointer (some p))=>match P.info? e with
   |some inf=>nZ (z.map E.ev) n n λm=>nZ (x.map E.ev) m n λq=>cS (z.isNone||x.isSome) (nZ (lo.map E.ev) q 0 λl=>
     K (.slice (some (if m=l then p else p.add (l *inf.size))) (q - l) (m - l)) [])
   |none=>False
  |_,_=>False)
 |.binOp .quo _ d j _=>bif isConst j then gm P o E K else match E.val d,E.val j with
  |some (.int k a),some (.int C b)=>cS (k==C) (b≠0/\K (.int k (k.wrap (a.tdiv b))) [])
  |_,_=>False
 |.binOp .rem _ d j _=>bif isConst j then gm P o E K else match E.val d,E.val j with
  |some (.int k a),some (.int C b)=>cS (k==C) (b≠0/\K (.int k (a.tmod b)) [])
  |_,_=>False
 |.binOp .eql h d (.const c) _=>bif pj P h c then(match oj (E.val d) c with
  |some b=>K (.bool b) []
  |none=>False)else uP P o E h d (.const c) false K
 |.binOp .neq h d (.const c) _=>bif pj P h c then(match oj (E.val d) c with
  |some b=>K (.bool !b) []
  |none=>False)else uP P o E h d (.const c) true K
 |.binOp .eql h d j _=>uP P o E h d j false K
 |.binOp .neq h d j _=>match P.underlying h,E.val d,E.val j with
  |some (.pointer _),some (.pointer p),some (.pointer D)=>qP P (binOp .neq h (.pointer p) (.pointer D)) (.bool true) w K
  |_,_,_=>uP P o E h d j true K
 |.binOp .add _ d j _=>match E.val d,E.val j with
  |some (.string s),some (.string t)=>¬(((s.size+t.size:Nat):Int)>IntKind.i64.max)/\K (.string (s++t)) []
  |_,_=>gm P o E K
 |.binOp .shl _ d j _=>bif isConst j then gm P o E K else match E.val d,E.val j with
  |some (.int k a),some (.int _ b)=>¬b<0/\K (.int k (k.wrap (a *2^(min b.toNat k.bits)))) []
  |_,_=>False
 |.binOp .shr _ d j _=>bif isConst j then gm P o E K else match E.val d,E.val j with
  |some (.int k a),some (.int _ b)=>¬b<0/\K (.int k (a.fdiv (2^(min b.toNat k.bits)))) []
  |_,_=>False
 |.lookup h d y ok=>match E.val d,E.val y with
  |some m,some k=>qP P (Instr.lookup h m k ok) (zeroOf P o.type) w K
  |_,_=>False
 |.convert s B d=>match P.underlying s,P.underlying B,E.val d with
  |some (.slice _),some .string,some v=>qP P (convert s B v) (.string (bh #[])) w K
  |some (.pointer _),some .unsafePointer,some v=>qP P (convert s B v) (.pointer none) w K
  |some .unsafePointer,some (.pointer _),some v=>qP P (convert s B v) (.pointer none) w K
  |_,_,_=>gm P o E K
 |.call {callee:=.builtin .len,args,argTypes}=>match args.toList,argTypes.toList with
  |[d],[h]=>match P.underlying h,E.val d with
   |some (.map _ _),some m=>qP P (Builtin.len_ #[h] o.type #[m]) (.int .i64 0) w K
   |_,_=>gm P o E K
  |_,_=>gm P o E K
 |_=>gm P o E K
def kV(op:BinOp)(T:aC)(x y:Operand)(a b:aa):Sem aa:=do eqGuard op T x y a b;binOp op T a b
def Fa(P:aH)(o:Oper):Bool:=match o.op with
 |.binOp .eql d _ _ _|.binOp .neq d _ _ _=>match P.underlying d with
  |some (.interface _)=>true
  |_=>false
 |_=>false
def Mk(P:aH)(o:Oper)(E:Env)(w:J)(K:aa->List (J->Prop)->Prop):Prop:=match o.op with
 |.binOp op j d h _=>match E.val d,E.val h with
  |some a,some b=>qP P (kV op j d h a b) (.bool true) w K
  |_,_=>False
 |_=>False
def n0(P:aH)(o:Oper)(E:Env)(w:J)(K:aa->List (J->Prop)->Prop):Prop:=bif Fa P o then Mk P o E w K else zK P o E w K
def qW(p:Addr):List aa->Nat->J->(J->Prop)->Prop
 |[],_,d,h=>h d
 |v::j,i,d,h=>(d.cell? (p.add i)).isSome=true/\d.frozen? (p.add i)=false/\qW p j (i+1) (d.setCell (p.add i) v) h
def ql(P:aH)(o:Oper)(E:Env)(w:J)(K:aa->J->Prop):Prop:=
 cS (E.ef o) (match(execOp E.ev o).run P w with
  |.ok (.value v) d=>K v d
  |.ok .skip d=>K undef d
  |_=>False)
def rY(P:aH)(s:Sem aa)(z:aa)(w:J)(K:aa->J->Prop):Prop:=
 oa z λv=>∃d,s.run P w=.ok v d/\K v d
def Ks(P:aH)(s:Sem Unit)(w:J)(K:aa->J->Prop):Prop:=
 ∃d,s.run P w=.ok () d/\K undef d
def hG(P:aH)(f:cW):Bool:=match P.funcs[f]? with |some fn=>fn.body.isSome&&!(fn.name=="runtime.NumGoroutine")|none=>false
def xG(P:aH)(f:cW)(args:Array aa)(z:aa)(w:J)(K:aa->J->Prop):Prop:=
 oa z λv=>∃d,(callFunc f args).run P w=.ok (.value v) d/\K v d
def qh(P:aH)(f:cW)(args:Array aa)(z:aa)(w:J)(K:aa->J->Prop):Prop:=
 aj P f args w λe d=>oa z λv=>e=ae v/\K v d
def sJ:aa->Bool
 |.agg _=>false
 |.tuple _=>false
 |_=>true
def hL(P:aH)(o:Oper)(E:Env)(w:J)(K:aa->J->Prop):Prop:=
 match o.op with
 |.store d x y=>match E.val x,E.val y with
  |some (.pointer (some p)),some v=>cS (v.cells.size==(match P.info? d with |some i=>i.size|none=>0)&&v.cells.toList.all sJ&&(P.info? d).isSome) (qW p v.cells.toList 0 w λY=>K undef Y)
  |_,_=>False
 |.mapUpdate d m h v|.insert d m h v=>match E.val m,E.val h,E.val v with
  |some m,some h,some v=>Ks P (Instr.mapUpdate d m h v) w K
  |_,_,_=>False
 |.call {callee:=.builtin b,args,argTypes}=>cS (E.ef o) (match b with
  |.append=>rY P (eu argTypes o.type (args.map E.ev)) (.slice none 0 0) w K
  |.copy=>rY P (Builtin.copy_ argTypes o.type (args.map E.ev)) (.int .i64 0) w K
  |.unsafeSliceData=>rY P (Builtin.unsafeSliceData_ argTypes o.type (args.map E.ev)) (.pointer none) w K
  |.unsafeString=>rY P (Builtin.unsafeString_ argTypes o.type (args.map E.ev)) (.string (bh #[])) w K
  |.delete=>∃Y,(Builtin.delete_ argTypes o.type (args.map E.ev)).run P w=.ok undef Y/\K undef Y
  |.clear=>∃Y,(Builtin.clear_ argTypes o.type (args.map E.ev)).run P w=.ok (.tuple #[]) Y/\K (.tuple #[]) Y
  |_=>False)
 |.call {callee:=.value (.func f),args,..}=>cS (E.ef o) (bif hG P f then qh P f (args.map E.ev) (zeroOf P o.type) w K else xG P f (args.map E.ev) (zeroOf P o.type) w K)
 |.call {callee:=.value (.tmp t),args,..}=>cS (E.ef o) (match E.get? t with
  |some (.func (.func f) first captured)=>cS (hG P f) (qh P f (first++args.map E.ev++captured) (zeroOf P o.type) w K)
  |_=>False)
 |.makeSlice d l c=>match E.val l,E.val c with
  |some l,some c=>rY P (Instr.makeSlice d l c) (.slice none 0 0) w K
  |_,_=>False
 |.range d x=>match E.val x with
  |some x=>∃v Y,(Instr.range d x).run P w=.ok v Y/\K v Y
  |_=>False
 |.next it s=>match E.val it with
  |some it=>(∃Y,(Instr.next it s o.type).run P w=.ok (.tuple #[.bool false]) Y/\K (.tuple #[.bool false]) Y)\/
    (match s with
     |true=>∃(i c:Int) (Y:J),(Instr.next it s o.type).run P w=.ok (.tuple #[.bool true,.int .i64 i,.int .i32 c]) Y/\K (.tuple #[.bool true,.int .i64 i,.int .i32 c]) Y
     |false=>∃(x y:aa) (Y:J),(Instr.next it s o.type).run P w=.ok (.tuple #[.bool true,x,y]) Y/\K (.tuple #[.bool true,x,y]) Y)
  |_=>False
 |.entry it=>match E.val it with
  |some it=>∃(x y:aa) (Y:J),(Instr.entry it).run P w=.ok (.tuple #[x,y]) Y/\K (.tuple #[x,y]) Y
  |_=>False
 |.convert s j x=>match E.val x with
  |some v=>rY P (convert s j v) (.slice none 0 0) w K
  |_=>False
 |_=>ql P o E w K
def age(P:aH)(l:Nat)(args:Array aa)(w:J)(K:aa->J->Prop):Prop:=
 YieldAt Fence.wide 0 P l args w λe d=>∃b:Bool,e=ae (.bool b)/\K (.bool b) d
def uD(P:aH)(o:Oper)(E:Env)(w:J)(K:aa->J->Prop):Prop:=
 match o.op with
 |.call {callee:=.value (.tmp t),args,..}=>match E.get? t with
  |some (.func (.yield l) h d)=>cS (E.ef o&&(cg h.size 0&&cg d.size 0)) (age P l (args.map E.ev) w K)
  |_=>hL P o E w K
 |_=>hL P o E w K
abbrev aS(w:J)(p:Addr)(v:aa)(K:J->Prop):Prop:=(w.cell? p).isSome=true/\w.frozen? p=false/\K (w.setCell p v)
abbrev dz(w:J)(o:Obj)(K:J->Prop):Prop:=K (w.alloc o)
abbrev mK(w:J)(l:Nat)(a b:Obj)(K:J->Prop):Prop:=w.heap[l]? =some a/\K (w.putObj l b)
abbrev mw(w:J)(K:J->Prop):Prop:=K w.drew
def MH{P:aH}{T:aC}{b:Bool}(h:rK P T=some b)(w:J):(isAgg T).run P w=.ok b w:=by
 unfold rK at h;unfold isAgg;cases d:P.underlying T with
 |none=>grind
 |some j=>rw[d]at h;cases j<;>simp[run_underlying d]at h ⊢<;>first |exact h|simp[<-h]
def yw{P:aH}{T:aC}{p:Addr}{v:aa}{w:J}(d:rK P T=some false)(h:w.cell? p=some v):(loadVar T p).run P w=.ok v w:=by simp[loadVar,MH d,h]
def TL{P:aH}{T:aC}{p:Addr}{vs:List aa}{i:TypeInfo}{w:J}(h:rK P T=some true)(hi:P.info? T=some i)(k:i.size=vs.length)(j:∀d v,vs[d]? =some v->w.cell? (p.add d)=some v):(loadVar T p).run P w=.ok (.agg vs.toArray) w:=by have:=run_loadCells_list (P:=P) w p vs j;simp[loadVar,MH h,sizeOf,typeInfo,hi,k,this]
def Calm(P:aH)(o:Oper)(ρ:Operand->aa)(w:J)(v:aa)(j:List (J->Prop)):Prop:=
 (∀d∈j,d w)/\∀h,(∀d∈j,d h)->(execOp ρ o).run P h=.ok (.value v) h
def Sc{P:aH}{o:Oper}{E:Env}{w:J}{n:Cx}{a:Act}{K:aa->List (J->Prop)->Prop}(y:∀j b,o.op≠.select j b)(q:Ag n a E)(h:gm P o E K):∃v d,K v d/\Calm P o a.eval w v d:=by
 obtain⟨x,h⟩:=dZ h;split at h
 .rename_i v z;refine⟨v,[],h,λd k=>(by cases k),λA _=>?_⟩;rw[q.execOp y x];exact Sb z A
 grind
def sT{P:aH}{s:Sem aa}{z:aa}{w:J}{K:aa->List (J->Prop)->Prop}{o:Oper}{ρ:Operand->aa}(q:execOp ρ o=(do pure (.value (<-s))))(h:qP P s z w K):∃v d,K v d/\Calm P o ρ w v d:=by
 obtain⟨v,B,k⟩:=ZD h;refine⟨v,_,k,λd A=>?_,λj y=>?_⟩
 .grind
 .have x:s.run P j=.ok v j:=y _ (bY.2 rfl);rw[q];simp[x]
def qf{P:aH}{x:Option aa}{y d:Nat}{K:Nat->Prop}(h:nZ x y d K):∃l,K l/\((x=none/\l=d)\/∃v,x=some v/\∀code j,(Instr.sliceBound v y code).run P j=.ok l j):=by
 unfold nZ at h;split at h
 .grind
 .rename_i z i;obtain⟨k,q,w⟩:=h;refine⟨_,w,.inr ⟨_,rfl,λcode j=>?_⟩⟩;simp[Instr.sliceBound,asIntOf,k,q]
 grind
def HD{P:aH}{q:Bool}{n c m h l:Nat}{L H M:Option aa}{w:J}(k:(M=none/\m=c)\/∃v,M=some v/\∀code w,(Instr.sliceBound v c code).run P w=.ok m w)(d:(H=none/\h=n)\/∃v,H=some v/\∀code w,(Instr.sliceBound v m code).run P w=.ok h w)(j:(L=none/\l=0)\/∃v,L=some v/\∀code w,(Instr.sliceBound v h code).run P w=.ok l w)(x:M≠none->H=none->False):(Instr.sliceBounds q n c L H M).run P w=.ok (l,h,m) w:=by unfold Instr.sliceBounds;rcases k with⟨rfl,rfl⟩|⟨B,rfl,y⟩<;>rcases d with⟨rfl,rfl⟩|⟨C,rfl,z⟩<;>rcases j with⟨rfl,rfl⟩|⟨D,rfl,A⟩<;>first |(simp[*];done)|grind
def Fz{P:aH}{T:aC}{p:Addr}{w:J}{K:aa->List (J->Prop)->Prop}(h:nc P T p w K):
  ∃v A,K v A/\(∀s∈A,s w)/\∀q,(∀s∈A,s q)->(loadVar T p).run P q=.ok v q:=by
 obtain⟨d,h⟩:=dZ h;unfold zp at d;cases z:zeroOf P T with
 |agg H=>
  rw[z]at h d;simp only at h d;obtain⟨L,I,h⟩:=ED h;obtain⟨y,j⟩:=tZ h;rw[bH]at d;obtain⟨C,D⟩:=d;cases E:P.info? T with
  |none=>grind
  |some i=>
   rw[E]at D;simp at D C;refine⟨_,_,j,?_,λq k=>?_⟩
   .intro s x;obtain⟨⟨v,B⟩,G,rfl⟩:=bK.1 x;exact y _ (bK.2 ⟨(v,B),G,rfl⟩)
   .refine TL C E (by grind) (λB v F=>?_);have:=k _ (bK.2 ⟨(v,B),List.mem_zipIdx_iff_getElem?.2 F,rfl⟩);omega
 |nilIface=>
  rw[z]at h d;simp at d;rcases h with⟨t,M,y,j⟩|⟨y,j⟩
  .refine ⟨_,_,j,λs x=>?_,λq k=>?_⟩
   .grind
   .exact yw d (k _ (bY.2 rfl))
  .refine ⟨_,_,j,λs x=>?_,λq k=>?_⟩
   .grind
   .exact yw d (k _ (bY.2 rfl))
 |nilFunc=>
  rw[z]at h d;obtain⟨f,y,j⟩:=h;simp at d;refine⟨f.v,_,j,λs x=>?_,λq k=>?_⟩
  .grind
  .exact yw d (k _ (bY.2 rfl))
 |_=>
  rw[z]at h d;try simp only at h
  try simp only at d
  obtain⟨v,y,j⟩:=EC h;simp at d;refine⟨v,_,j,λs x=>?_,λq k=>?_⟩
  .simp at x;subst x;exact y
  .exact yw d (k _ (bY.2 rfl))
def Kz{P:aH}{T:aC}{sz:Nat}(h:zT P T=some sz):∃e i,P.underlying T=some (.slice e)/\P.info? e=some i/\i.size=sz:=by
 unfold zT at h;split at h
 .rename_i e d;cases j:P.info? e with
  |none=>grind
  |some i=>grind
 grind
def AS{v c:aa}{b:Bool}(h:oj (some v) c=some b):(∃a n m j d,v=.slice a n m/\c=.slice none j d/\b=a.isNone)\/(∃a,v=.pointer a/\c=.pointer none/\b=a.isNone)\/(∃r,v=.map r/\c=.map none/\b=r.isNone):=by
 unfold oj at h
 grind
def Re{P:aH}{T:aC}{c v:aa}{b:Bool}(d:pj P T c=true)(k:oj (some v) c=some b)(w:J):(Op.equal T v c).run P w=.ok b w:=by
 unfold Op.equal Op.maxDepth Op.equalIn;cases h:P.underlying T with
 |none=>simp[pj,h]at d
 |some j=>
  simp only[Sem.run_bind,run_underlying h,Result.andThen_ok];unfold pj at d;rw[h]at d;rcases AS k with⟨a,n,m,x,q,rfl,rfl,rfl⟩|⟨a,rfl,rfl,rfl⟩|⟨a,rfl,rfl,rfl⟩<;>cases j<;>first |(cases d;done)|(cases a<;>rfl)
def ack{P:aH}{T:aC}{c v:aa}{b:Bool}(h:pj P T c=true)(d:oj (some v) c=some b)(w:J):(binOp .eql T v c).run P w=.ok (.bool b) w:=by have:=Re h d w;rcases AS d with⟨a,n,m,k,j,rfl,rfl,rfl⟩|⟨a,rfl,rfl,rfl⟩|⟨a,rfl,rfl,rfl⟩<;>simp[binOp,this]
def acm{P:aH}{T:aC}{c v:aa}{b:Bool}(h:pj P T c=true)(d:oj (some v) c=some b)(w:J):(binOp .neq T v c).run P w=.ok (.bool !b) w:=by have:=Re h d w;rcases AS d with⟨a,n,m,k,j,rfl,rfl,rfl⟩|⟨a,rfl,rfl,rfl⟩|⟨a,rfl,rfl,rfl⟩<;>simp[binOp,this]
def Rf{P:aH}{op:BinOp}{T:aC}{c v:aa}{b:Bool}{p h:Operand}(d:oj (some v) c=some b)(w:J):(eqGuard op T p h v c).run P w=.ok () w:=by rcases AS d with⟨a,n,m,k,j,rfl,rfl,rfl⟩|⟨a,rfl,rfl,rfl⟩|⟨a,rfl,rfl,rfl⟩<;>cases op<;>rfl
set_option maxHeartbeats 1000000 in
def vG{P:aH}{t:aC}{u:TypeDesc}(h:P.underlying t=some u)(d:(match u with |.struct _|.array _ _=>true|_=>false)=false){xs:Array aa}{off:Nat}{v:aa}(j:xs[off]? =some v)(w:J):(part t xs off).run P w=.ok v w:=by unfold part isAgg;cases u<;>first |(simp at d;done)|simp[run_underlying h,j]
def z5{P:aH}{xs ys:Array aa}(d:Nat)(w:J):∀(q:List Field) (b:Bool),xD P xs ys q=some b->(Op.eqFields (d+1) xs ys q).run P w=.ok b w
 |[],b,h=>by simp[xD]at h;subst h;rfl
 |f::q,b,h=>by
  unfold xD at h;cases F:(f.name=="_")with
  |true=>grind
  |false=>
   rw[F]at h;simp only[cond_false]at h;have G:f.name≠"_":=by grind
   unfold Op.eqFields;rw[av G];split at h
   .rename_i I D a H k r j y z x;cases C:decide (D=H)with
    |false=>grind
    |true=>
     rw[C]at h;have E:=eP C;subst E;simp only[cond_true,fq]at h;subst h;have A:=z5 d w q r x;simp only[Sem.run_bind,vG j rfl y w,vG j rfl z w,Result.andThen_ok,run_equalIn_int w d f.type D I a k j];cases B:(a==k)<;>simp[A]
   .rename_i a k r j y z x;simp only[fq]at h;subst h;have A:=z5 d w q r x;simp only[Sem.run_bind,vG j rfl y w,vG j rfl z w,Result.andThen_ok,run_equalIn_string w d f.type a k j];cases B:(a.toList==k.toList)<;>simp[A]
   .rename_i a k r j y z x;simp only[fq]at h;subst h;have A:=z5 d w q r x;simp only[Sem.run_bind,vG j rfl y w,vG j rfl z w,Result.andThen_ok,run_equalIn_bool w d f.type a k j];cases B:(a==k)<;>simp[A]
   grind
def WW{P:aH}{T:aC}{xs ys:Array aa}{b:Bool}(h:Dh P T xs ys=some b)(w:J):P.eqGuardType P.depth T=false/\(Op.equalIn 10000 T (.agg xs) (.agg ys)).run P w=.ok b w:=by
 unfold Dh at h;split at h
 .rename_i j y;cases d:(!P.stoodInHeld T&&!P.eqGuardType P.depth T)with
  |false=>grind
  |true=>
   rw[d]at h;simp only[cond_true]at h;rw[bH]at d;have k:P.stoodInHeld T=false:=by grind
   have q:P.eqGuardType P.depth T=false:=by grind
   have x:P.fieldsOf T=j:=by unfold Program.fieldsOf;rw[y]
   refine⟨q,?_⟩;rw[run_equalIn_struct w 9999 T xs ys (by grind) k,x];exact z5 9998 w _ _ h
 grind
def z6{P:aH}{o:Oper}{E:Env}{w:J}{n:Cx}{a:Act}{K:aa->List (J->Prop)->Prop}{op:BinOp}{T C:aC}{x y:Operand}{neg:Bool}(M:∀D b,o.op≠.select D b)(q:Ag n a E)(L:o.op=.binOp op T x y C)(H:(op=.eql/\neg=false)\/(op=.neq/\neg=true))(h:uP P o E T x y neg K):∃v k,K v k/\Calm P o a.eval w v k:=by
 unfold uP at h;split at h
 .rename_i d j N O;split at h
  .rename_i b I;refine⟨_,_,h,λk G=>(by cases G),λz _=>?_⟩;obtain⟨A,B⟩:=WW I z;have F:execOp a.eval o=(do pure (.value (<-(do eqGuard op T x y (.agg d) (.agg j);binOp op T (.agg d) (.agg j))))):=by simp only[execOp,L,q.val N,q.val O]
   rw[F];rcases H with⟨rfl,rfl⟩|⟨rfl,rfl⟩
   .simp only[Sem.run_bind,run_eqGuard_agg z _ T x y d j A,Result.andThen_ok,run_eql_struct,B];rfl
   .simp only[Sem.run_bind,run_eqGuard_agg z _ T x y d j A,Result.andThen_ok,run_neq_struct,B];rfl
  grind
 .exact Sc M q h
def YW{P:aH}{o:Oper}{E:Env}{w:J}{n:Cx}{a:Act}{K:aa->List (J->Prop)->Prop}(hs:∀cs b,o.op≠.select cs b)(k:Ag n a E)(h:zK P o E w K):∃v z,K v z/\Calm P o a.eval w v z:=by
 have pure':gm P o E K->∃v z,K v z/\Calm P o a.eval w v z:=Sc hs k;unfold zK at h;split at h
 .
  rename_i A B j;split at h
  .rename_i p d;obtain⟨v,z,x,H,h2⟩:=Fz h;refine⟨v,z,x,H,λy au=>?_⟩;simp[execOp,j,Instr.loadAt,k.val d,Instr.sureAddr,h2 y au]
  grind
 .
  rename_i B j;split at h
  .rename_i av d;obtain⟨p,rfl,x⟩:=sL h;refine⟨_,_,x,λz q=>(by cases q),λy _=>?_⟩;simp[execOp,j,k.val d]
  grind
 .
  rename_i A B ix j;split at h
  .rename_i b n c O i d D;split at h
   .rename_i sz ac;obtain⟨L,H,h⟩:=h;obtain⟨p,rfl,x⟩:=sL h;obtain⟨e,inf,G,M,rfl⟩:=Kz ac;refine⟨_,_,x,λz q=>(by cases q),λy _=>?_⟩;simp[execOp,j,k.val d,k.val D,Instr.indexAt,asIntOf,run_underlying G,L,H,sizeOf,typeInfo,M]
   grind
  .rename_i p O i d D;split at h
   .rename_i n sz ac;obtain⟨L,H,x⟩:=h;obtain⟨e,inf,G,M,rfl⟩:=W4 ac;refine⟨_,_,x,λz q=>(by cases q),λy _=>?_⟩;simp[execOp,j,k.val d,k.val D,Instr.indexAt,Instr.sureAddr,asIntOf,run_underlying G,L,H,sizeOf,typeInfo,M]
   grind
  grind
 .
  rename_i A B ix j;split at h
  .rename_i s O i G d D;obtain⟨L,b,F,x⟩:=h;refine⟨_,_,x,λz q=>(by cases q),λy _=>?_⟩;simp[execOp,j,k.val d,k.val D,Instr.index,asIntOf,run_underlying G,L,F]
  .rename_i n e cs O i G d D;cases hz:GC P e with
   |true=>
    rw[hz]at h;obtain⟨L,N,b,F,x⟩:=h;unfold GC at hz;split at hz
    .rename_i inf ah M;have H:inf.size=1:=by grind
     refine⟨_,_,x,λz q=>(by cases q),λy _=>?_⟩;simp[execOp,j,k.val d,k.val D,Instr.index,asIntOf,run_underlying G,L,N,sizeOf,typeInfo,M,H,part,isAgg,run_underlying ah,F]
    grind
   |false=>
   rw[hz]at h;obtain⟨H,L,N,b,F,x⟩:=dZ h;unfold RF at H;split at H
   .rename_i C inf ah M;have H:inf.size=1:=by grind
    refine⟨_,_,x,λz q=>(by cases q),λy _=>?_⟩;simp[execOp,j,k.val d,k.val D,Instr.index,asIntOf,run_underlying G,L,N,sizeOf,typeInfo,M,H,part,isAgg,run_underlying ah,F]
   grind
  grind
 .
  rename_i A B lo D S j;obtain⟨an,h⟩:=dZ h;have ad:∀C∈o.op.operands,(E.val C).isSome=true:=λC I=>fa.1 an C (by grind);have ag:lo.map a.eval=lo.map E.ev:=by
   cases lo with
   |none=>rfl
   |some C=>simp only[Option.map_some];rw[k.ev (ad C (by rw[j];simp[Op.operands]))]
  have ae:D.map a.eval=D.map E.ev:=by
   cases D with
   |none=>rfl
   |some C=>simp only[Option.map_some];rw[k.ev (ad C (by rw[j];simp[Op.operands]))]
  have ak:S.map a.eval=S.map E.ev:=by
   cases S with
   |none=>rfl
   |some C=>simp only[Option.map_some];rw[k.ev (ad C (by rw[j];simp[Op.operands]))]
  split at h
  .rename_i e b n c G d;split at h
   .rename_i sz ac;obtain⟨m,h,hm⟩:=qf (P:=P) h;obtain⟨Y,h,Z⟩:=qf (P:=P) h;obtain⟨ap,h⟩:=dZ h;obtain⟨l,x,hl⟩:=qf (P:=P) h;obtain⟨e',inf,am,M,rfl⟩:=Kz ac;rw[am]at G;cases G;refine⟨_,_,x,λz q=>(by cases q),λy _=>?_⟩;have ab:(Instr.sliceBounds true n c (lo.map E.ev) (D.map E.ev) (S.map E.ev)).run P y=.ok (l,Y,m) y:=by refine HD hm Z hl ?_;intro H h2;cases S<;>cases D<;>simp_all
    simp only[execOp,j,k.val d,ag,ae,ak];simp[Instr.sliceAt,run_underlying am,Instr.slice,ab,sizeOf,typeInfo,M]
   grind
  .rename_i s G d;obtain⟨aq,h'⟩:=dZ h;clear h;have ar:S=none:=by simpa using aq
   subst ar;obtain⟨Y,h,Z⟩:=qf (P:=P) h';obtain⟨l,x,hl⟩:=qf (P:=P) h;refine⟨_,_,x,λz q=>(by cases q),λy _=>?_⟩;have ab:(Instr.sliceBounds false s.size s.size (lo.map E.ev) (D.map E.ev) none).run P y=.ok (l,Y,s.size) y:=by exact HD (.inl ⟨rfl,rfl⟩) Z hl (λH _=>absurd rfl H)
   simp only[execOp,j,k.val d,ag,ae];simp[Instr.sliceAt,run_underlying G,Instr.slice,ab]
  .rename_i n e p G d;split at h
   .rename_i inf M;obtain⟨m,h,hm⟩:=qf (P:=P) h;obtain⟨Y,h,Z⟩:=qf (P:=P) h;obtain⟨ap,h⟩:=dZ h;obtain⟨l,x,hl⟩:=qf (P:=P) h;refine⟨_,_,x,λz q=>(by cases q),λy _=>?_⟩;have ab:(Instr.sliceBounds false n n (lo.map E.ev) (D.map E.ev) (S.map E.ev)).run P y=.ok (l,Y,m) y:=by refine HD hm Z hl ?_;intro H h2;cases S<;>cases D<;>simp_all
    simp only[execOp,j,k.val d,ag,ae,ak];simp[Instr.sliceAt,Instr.sureAddr,run_underlying G,ab,sizeOf,typeInfo,M]
   grind
  grind
 .
  rename_i A B C Q j;cases U:isConst C with
  |true=>grind
  |false=>
   rw[U]at h;simp only[cond_false]at h;split at h
   .rename_i O i k' ai d I;obtain⟨ao,W,x⟩:=dZ h;have af:O=k':=by grind
    subst af;refine⟨_,_,x,λz q=>(by cases q),λy _=>?_⟩;simp[execOp,j,k.val d,k.val I,eqGuard,binOp,Op.intDiv,W]
   grind
 .
  rename_i A B C Q j;cases U:isConst C with
  |true=>grind
  |false=>
   rw[U]at h;simp only[cond_false]at h;split at h
   .rename_i O i k' ai d I;obtain⟨ao,W,x⟩:=dZ h;have af:O=k':=by grind
    subst af;refine⟨_,_,x,λz q=>(by cases q),λy _=>?_⟩;simp[execOp,j,k.val d,k.val I,eqGuard,binOp,Op.intDiv,W]
   grind
 .
  rename_i A B c Q j;cases N:pj P A c with
  |false=>rw[N]at h;exact z6 hs k j (.inl ⟨rfl,rfl⟩) h
  |true=>
   rw[N]at h;simp only[cond_true]at h;split at h
   .rename_i b F;refine⟨_,_,h,λz q=>(by cases q),λy _=>?_⟩;cases d:E.val B with
    |none=>rw[d]at F;simp[oj]at F
    |some v=>
     rw[d]at F;have T:execOp a.eval o=(do pure (.value (<-(do eqGuard .eql A B (.const c) v c;binOp .eql A v c)))):=by simp only[execOp,j,k.val d];rfl
     rw[T];simp[Rf F y,ack N F y]
   grind
 .
  rename_i A B c Q j;cases N:pj P A c with
  |false=>rw[N]at h;exact z6 hs k j (.inr ⟨rfl,rfl⟩) h
  |true=>
   rw[N]at h;simp only[cond_true]at h;split at h
   .rename_i b F;refine⟨_,_,h,λz q=>(by cases q),λy _=>?_⟩;cases d:E.val B with
    |none=>rw[d]at F;simp[oj]at F
    |some v=>
     rw[d]at F;have T:execOp a.eval o=(do pure (.value (<-(do eqGuard .neq A B (.const c) v c;binOp .neq A v c)))):=by simp only[execOp,j,k.val d];rfl
     rw[T];simp[Rf F y,acm N F y]
   grind
 .
  rename_i A B C Q _ j;exact z6 hs k j (.inl ⟨rfl,rfl⟩) h
 .rename_i A B C Q _ j;split at h
  .rename_i p av G d I;refine sT ?_ h;simp only[execOp,j,k.val d,k.val I];rfl
  .exact z6 hs k j (.inr ⟨rfl,rfl⟩) h
 .
  rename_i A B C Q j;split at h
  .rename_i s t d I;obtain⟨L,x⟩:=h;refine⟨_,_,x,λz q=>(by cases q),λy _=>?_⟩;have T:execOp a.eval o=(do pure (.value (<-(do eqGuard .add A B C (.string s) (.string t);binOp .add A (.string s) (.string t))))):=by simp only[execOp,j,k.val d,k.val I]
   rw[T];simp only[eqGuard,binOp,Op.stringOp,L];rfl
  grind
 .
  rename_i A B C Q j;cases U:isConst C with
  |true=>grind
  |false=>
   rw[U]at h;simp only[cond_false]at h;split at h
   .rename_i O i k' ai d I;obtain⟨W,x⟩:=h;refine⟨_,_,x,λz q=>(by cases q),λy _=>?_⟩;simp[execOp,j,k.val d,k.val I,eqGuard,binOp,Op.shift,W]
   grind
 .
  rename_i A B C Q j;cases U:isConst C with
  |true=>grind
  |false=>
   rw[U]at h;simp only[cond_false]at h;split at h
   .rename_i O i k' ai d I;obtain⟨W,x⟩:=h;refine⟨_,_,x,λz q=>(by cases q),λy _=>?_⟩;simp[execOp,j,k.val d,k.val I,eqGuard,binOp,Op.shift,W]
   grind
 .
  rename_i A B ix ok j;split at h
  .rename_i m O d D;exact sT (by simp[execOp,j,k.val d,k.val D]) h
  grind
 .
  rename_i s ax B j;split at h
  .rename_i e v al aj d;exact sT (by simp[execOp,j,k.val d]) h
  .rename_i e v al aj d;exact sT (by simp[execOp,j,k.val d]) h
  .rename_i e v al aj d;exact sT (by simp[execOp,j,k.val d]) h
  grind
 .
  rename_i args aw j;split at h
  .rename_i B A d hT;split at h
   .rename_i kt et m G hm;refine sT ?_ h;have T:args=#[B]:=by grind
    have e2:aw=#[A]:=by grind
    simp[execOp,j,T,e2,resolve,invoke,builtin,k.val hm]
   grind
  grind
 grind
def zL{P:aH}{o:Oper}{E:Env}{w:J}{n:Cx}{a:Act}{K:aa->List (J->Prop)->Prop}(y:∀q b,o.op≠.select q b)(d:Ag n a E)(h:n0 P o E w K):∃v j,K v j/\Calm P o a.eval w v j:=by
 unfold n0 at h;cases k:Fa P o with
 |false=>rw[k]at h;exact YW y d h
 |true=>
  rw[k]at h;simp only[cond_true]at h;unfold Mk at h;split at h
  .rename_i op B D F C x;split at h
   .rename_i u v z A;refine sT ?_ h;simp only[execOp,x,d.val z,d.val A];rfl
   grind
  grind
def UA{P:aH}{p:Addr}:∀{vs:List aa} {i:Nat} {w:J} {K:J->Prop},vs.all sJ=true->qW p vs i w K->
  ∃h,(storeCells p vs i).run P w=.ok () h/\K h
 |[],i,w,K,_,d=>⟨w,by simp[storeCells],d⟩
 |v::vs,i,w,K,j,d=>by
  obtain⟨q,x,d⟩:=d;rw[List.all_cons,bH]at j;obtain⟨h,z,y⟩:=UA (P:=P) j.2 d;refine⟨h,?_,y⟩;obtain⟨u,B⟩:=Option.isSome_iff_exists.1 q;have A:(store (p.add i) v).run P w=.ok () (w.setCell (p.add i) v):=by have k:=j.1;cases v<;>first |(simp[sJ]at k;done)|simp[store,Sem.run,B,x]
  simp[storeCells,A,z]
def wV{P:aH}{f:cW}(h:hG P f=true)(args:Array aa)(w:J):(callFunc f args).run P w=.ok (.enter f args) w:=by
 unfold hG at h;cases d:P.funcs[f]? with
 |none=>grind
 |some fn=>
  rw[d]at h;simp at h;obtain⟨q,j⟩:=h;have k:fn.body≠none:=by grind
  simp[callFunc,d,j,k]
def Ag.args{n:Cx}{a:Act}{E:Env}(h:Ag n a E){args:Array Operand}(j:∀d∈args,(E.val d).isSome=true):args.map a.eval=args.map E.ev:=
 Array.map_congr_left λd k=>h.ev (j d k)
def ja(P:aH)(o:Oper)(a:Act)(w:J)(K:aa->J->Prop):Prop:=
 ∀d:Exit->Act->J->Prop,o.wp P a w (λh j=>∃v,h=a.put o.dst v/\K v j) d
def JU{P:aH}{f:cW}{args:Array aa}{z:aa}{w:J}{K:aa->J->Prop}{o:Oper}{a:Act}(j:(execOp a.eval o).run P w=.ok (.enter f args) w)(h:qh P f args z w K):ja P o a w K:=by
 intro k;unfold Oper.wp;rw[j];simp only[Oper.upon];refine Calls.mono h λe x d=>?_;obtain⟨v,rfl,q⟩:=r4 d
 grind
def uA{P:aH}{s:Sem aa}{z:aa}{w:J}{K:aa->J->Prop}{o:Oper}{a:Act}(j:execOp a.eval o=(do pure (.value (<-s))))(h:rY P s z w K):ja P o a w K:=by
 intro k;obtain⟨v,x,d,q⟩:=r4 h;unfold Oper.wp;rw[j];simp only[Sem.run_bind,d,Result.andThen_ok,Sem.run_pure,Oper.upon]
 grind
set_option maxHeartbeats 1000000 in
def n5{P:aH}{o:Oper}{E:Env}{w:J}{n:Cx}{a:Act}{K:aa->J->Prop}(hs:∀Q b,o.op≠.select Q b)(j:Ag n a E)(h:hL P o E w K):ja P o a w K:=by
 unfold hL at h;split at h
 .
  rename_i G A O d;split at h
  .rename_i p v y hy;obtain⟨L,h⟩:=dZ h;rw[bH,bH]at L;obtain⟨⟨T,W⟩,Z⟩:=L;obtain⟨i,D⟩:=Option.isSome_iff_exists.1 Z;rw[D]at T;have U:v.cells.size=i.size:=by grind
   obtain⟨Y,k,z⟩:=UA (P:=P) W h;intro B;unfold Oper.wp;have:(execOp a.eval o).run P w=.ok .skip Y:=by simp[execOp,d,Instr.storeAt,j.val y,j.val hy,Instr.sureAddr,storeVar,sizeOf,typeInfo,D,U,k]
   rw[this];simp only[Oper.upon]
   grind
  grind
 .
  rename_i G m ac v d;split at h
  .rename_i mv kv vv H z I;obtain⟨Y,k,S⟩:=h;intro B;unfold Oper.wp;have:(execOp a.eval o).run P w=.ok .skip Y:=by simp[execOp,d,j.val H,j.val z,j.val I,k]
   rw[this];simp only[Oper.upon]
   grind
  grind
 .
  rename_i G m ac v d;split at h
  .rename_i mv kv vv H z I;obtain⟨Y,k,S⟩:=h;intro B;unfold Oper.wp;have:(execOp a.eval o).run P w=.ok .skip Y:=by simp[execOp,d,j.val H,j.val z,j.val I,k]
   rw[this];simp only[Oper.upon]
   grind
  grind
 .
  rename_i b args N d;obtain⟨C,h⟩:=dZ h;have q:args.map a.eval=args.map E.ev:=j.args λA y=>fa.1 C A (by rw[d];simp[Op.operands,Call.operands,y]);split at h
  .exact uA (by simp[execOp,d,resolve,invoke,builtin,q]) h
  .exact uA (by simp[execOp,d,resolve,invoke,builtin,q]) h
  .exact uA (by simp[execOp,d,resolve,invoke,builtin,q]) h
  .exact uA (by simp[execOp,d,resolve,invoke,builtin,q]) h
  .obtain ⟨Y,k,z⟩:=h;intro B;unfold Oper.wp;have:(execOp a.eval o).run P w=.ok (.value undef) Y:=by simp[execOp,d,resolve,invoke,builtin,q,k]
   rw[this];simp only[Oper.upon]
   grind
  .obtain ⟨Y,k,z⟩:=h;intro B;unfold Oper.wp;have:(execOp a.eval o).run P w=.ok (.value (.tuple #[])) Y:=by simp[execOp,d,resolve,invoke,builtin,q,k]
   rw[this];simp only[Oper.upon]
   grind
  grind
 .
  rename_i f args N d;obtain⟨C,h⟩:=dZ h;have q:args.map a.eval=args.map E.ev:=j.args λA y=>fa.1 C A (by rw[d];simp[Op.operands,Call.operands,y]);cases F:hG P f with
  |true=>
   rw[F]at h;refine JU ?_ h;simp[execOp,d,resolve,Act.eval,Deferred.ofValue,invoke,q,wV F]
  |false=>
   rw[F,cond_false]at h;unfold xG at h;obtain⟨v,Y,k,z⟩:=r4 h;intro B;unfold Oper.wp;have:(execOp a.eval o).run P w=.ok (.value v) Y:=by simp[execOp,d,resolve,Act.eval,Deferred.ofValue,invoke,q,k]
   rw[this];simp only[Oper.upon]
   grind
 .
  rename_i t args N d;obtain⟨C,h⟩:=dZ h;have q:args.map a.eval=args.map E.ev:=j.args λA y=>fa.1 C A (by rw[d];simp[Op.operands,Call.operands,y]);split at h
  .rename_i f first captured hf
   obtain⟨F,h⟩:=dZ h;have ab:a.eval (.tmp t)=.func (.func f) first captured:=j.val (x:=.tmp t) hf
   refine JU ?_ h;simp[execOp,d,resolve,ab,Deferred.ofValue,invoke,q,wV F]
  grind
 .
  rename_i G l c d;split at h
  .rename_i lv cv hl C;exact uA (by simp[execOp,d,j.val hl,j.val C]) h
  grind
 .
  rename_i G A d;split at h
  .rename_i xv y;obtain⟨v,Y,k,z⟩:=h;intro B;unfold Oper.wp;have:(execOp a.eval o).run P w=.ok (.value v) Y:=by simp[execOp,d,j.val y,k]
   rw[this];simp only[Oper.upon]
   grind
  grind
 .
  rename_i it s d;split at h
  .rename_i M D;have fin:∀(v:aa) (Y:J),(Instr.next M s o.type).run P w=.ok v Y->K v Y->ja P o a w K:=λv Y k z B=>by
    unfold Oper.wp;have:(execOp a.eval o).run P w=.ok (.value v) Y:=by simp[execOp,d,j.val D,k]
    rw[this];simp only[Oper.upon]
    grind
   grind
  grind
 .
  rename_i it d;split at h
  .rename_i M D;obtain⟨A,O,Y,k,z⟩:=h;intro B;unfold Oper.wp;have:(execOp a.eval o).run P w=.ok (.value (.tuple #[A,O])) Y:=by simp[execOp,d,j.val D,k]
   rw[this];simp only[Oper.upon]
   grind
  grind
 .
  rename_i s ad A d;split at h
  .rename_i v y;exact uA (by simp[execOp,d,j.val y]) h
  grind
 .
  obtain⟨C,h⟩:=dZ h;intro B;unfold Oper.wp;rw[j.execOp hs C];generalize(execOp E.ev o).run P w=r at h;split at h
  .simp only[Oper.upon];grind
  .simp only[Oper.upon];grind
  grind
def y5(P:aH)(n:Cx)(o:Oper)(a:Act)(w:J)(K:aa->J->Prop):Prop:=
 ∀d:Exit->Act->J->Prop,o.wpIn (FW n) 0 P a w (λh j=>∃v,h=a.put o.dst v/\K v j) d
def JV{n:Cx}{P:aH}{f:cW}{args:Array aa}{w:J}{R:cE->J->Prop}(h:aj P f args w R):CallsIn (FW n) 0 P f args w R:=by
 have d:CallsIn Fence.wide 0 P f args w R:=callsIn_wide.2 h;obtain⟨n,k,j⟩:=n;cases j with
 |none=>exact d
 |some l=>exact d
def ad2{n:Cx}{P:aH}{row:String}{args:Array aa}{w:J}{R:aa->J->Prop}(h:Rows P row args w R):RowsIn (FW n) 0 P row args w R:=by
 intro c d _;obtain⟨v,x,j,k⟩:=h c d;refine⟨v,x,j,?_⟩;have:=stepsIn_wide.2 k;obtain⟨n,y,q⟩:=n;cases q with
 |none=>exact this
 |some l=>exact this
def adT{n:Cx}{P:aH}{l:Nat}{f:cW}{tmps:Array aa}{assign body:Code}{w:J}{R:cE->J->Prop}(h:RoundIn Fence.wide 0 P l f tmps assign body w R):RoundIn (FW n) 0 P l f tmps assign body w R:=by
 obtain⟨n,j,d⟩:=n;cases d with
 |none=>exact h
 |some l=>exact h
def V'{P:aH}{n:Cx}{o:Oper}{a:Act}{w:J}{K:Act->J->Prop}{Q:Exit->Act->J->Prop}(d:∀c,o.op≠.defer c)(h:o.wp P a w K Q):o.wpIn (FW n) 0 P a w K Q:=by
 refine⟨λ_ _=>trivial,?_⟩;rw[Oper.semAt_eq _ _ _ d];unfold Oper.wp at h;generalize(execOp a.eval o).run P w=r at *;cases r with
 |ok nx j=>
  cases nx<;>simp only[Oper.upon,Oper.uponIn]at h ⊢
  case value=>exact h
  case skip=>exact h
  case defer=>exact h
  case enter f args=>exact⟨λh=>(by cases h),JV h⟩
  case row row args=>exact⟨λh=>(by cases h),ad2 h⟩
 |halt k j=>
  cases k<;>simp only[Oper.upon,Oper.uponIn]at h ⊢;exact h
def ja.in{P:aH}{n:Cx}{o:Oper}{a:Act}{w:J}{K:aa->J->Prop}(j:∀c,o.op≠.defer c)(h:ja P o a w K):y5 P n o a w K:=λd=>V' j (h d)
def Kw{P:aH}{o:Oper}{E:Env}{w:J}{n:Cx}{a:Act}{K:aa->J->Prop}(z:∀j b,o.op≠.select j b)(k:∀c,o.op≠.defer c)(d:Ag n a E)(h:uD P o E w K):y5 P n o a w K:=by
 unfold uD at h;split at h
 .rename_i t args U y;split at h
  .rename_i l C j L;obtain⟨q,Q⟩:=dZ h;clear h;simp only[bH,eO]at q;obtain⟨I,D,F⟩:=q;have A:C=#[]:=Array.eq_empty_of_size_eq_zero D;have B:j=#[]:=Array.eq_empty_of_size_eq_zero F;subst A B;have H:args.map a.eval=args.map E.ev:=d.args λS N=>fa.1 I S (by rw[y];simp[Op.operands,Call.operands,N]);have M:a.eval (.tmp t)=.func (.yield l) #[] #[]:=d.val (x:=.tmp t) L;intro T;obtain⟨fn,tmps,assign,body,O,G⟩:=Q;refine⟨λ_ _=>trivial,?_⟩;rw[Oper.semAt_eq _ _ _ k];have:(execOp a.eval o).run P w=.ok (.round l fn tmps assign body) w:=by simp[execOp,y,resolve,M,Deferred.ofValue,invoke,H,O]
   rw[this,Oper.uponIn_round];refine⟨λh=>(by cases h),adT (G.mono ?_)⟩
   grind
  .exact (n5 z d h).in k
 .exact (n5 z d h).in k
def yc(ops:Array Oper)(i j:Nat):Bool:=match ops[j]? with |some o=>o.after.toList.any λe=>cg e.on i&&Region.binds .any e|none=>false
def A3(ops:Array Oper):Nat->Nat->Nat->Bool
 |0,i,d=>yc ops i d
 |f+1,i,d=>bif yc ops i d then true else match ops[d]? with |some o=>o.after.toList.any λe=>bif Region.binds .any e then A3 ops f i e.on else false|none=>false
def jS(ops:Array Oper)(i j:Nat):Bool:=A3 ops 4 i j
def Down(ops:Array Oper)(d:Array Bool):Prop:=∀(k:Nat) (o:Oper),ops[k]? =some o->d.getD k false=true->∀e∈o.after,Region.binds .any e=true->d.getD e.on false=true
def Down.zero(ops:Array Oper)(n:Nat):Down ops (hR n false):=λj o _ h=>by
 exfalso;by_cases d:j<n
 .simp [d]at h
 grind
def Down.set{ops:Array Oper}{h:Array Bool}(z:Down ops h){i:Nat}(hi:i∈e4 .any ops h):Down ops (h.setIfInBounds i true):=λx o d q e k j=>by
 obtain⟨_,B,A,y⟩:=mem_ready.1 hi;by_cases w:i=x
 .subst w;rw[A]at d;cases d;exact getD_set_true (y e k j)
 .rw [getD_set_ne false w]at q;exact getD_set_true (z x o d q e k j)
def RK{ops:Array Oper}{k:Array Bool}{i j:Nat}(w:∀o,ops[j]? =some o->∀e∈o.after,Region.binds .any e=true->k.getD e.on false=true)(h:yc ops i j=true):k.getD i false=true:=by
 unfold yc at h;cases q:ops[j]? with
 |none=>grind
 |some o=>
  rw[q]at h;obtain⟨e,x,d⟩:=List.any_eq_true.1 h;rw[bH]at d;have y:e.on=i:=by have:=d.1;rwa[eO]at this
  grind
def RL{ops:Array Oper}{k:Array Bool}(w:Down ops k){i:Nat}:∀(f j:Nat),(∀o,ops[j]? =some o->∀e∈o.after,Region.binds .any e=true->k.getD e.on false=true)->A3 ops f i j=true->k.getD i false=true
 |0,j,h,d=>RK h d
 |f+1,j,h,d=>by
  unfold A3 at d;cases x:yc ops i j with
  |true=>exact RK h x
  |false=>
   rw[x]at d;cases z:ops[j]? with
   |none=>grind
   |some o=>
    rw[z]at d;obtain⟨e,G,y⟩:=List.any_eq_true.1 d;cases q:Region.binds .any e with
    |false=>grind
    |true=>
     rw[q]at y;have D:=h o z e (by grind) q;exact RL w f e.on (λF E A C B=>w e.on F E D A C B) y
abbrev eQ:=List (Nat×(J->Prop))
def heldBy(ops:Array Oper)(j:Nat)(w:J):eQ->List Prop
 |[]=>[]
 |(i,h)::d=>bif jS ops i j then heldBy ops j w d else h w::heldBy ops j w d
def dt(ops:Array Oper)(j:Nat):eQ->eQ
 |[]=>[]
 |(i,h)::d=>bif jS ops i j then dt ops j d else(i,h)::dt ops j d
def E7{ops:Array Oper}{j:Nat}{w:J}:∀{H:eQ} {p:Nat×(J->Prop)},p∈H->jS ops p.1 j=false->p.2 w∈heldBy ops j w H
 |(i,k)::H,p,d,h=>by
  unfold heldBy;rcases aq.1 d with rfl|d
  .grind
  .have:=E7 (H:=H) (w:=w) d h
   grind
def fM{ops:Array Oper}{j:Nat}:∀{H:eQ} {p:Nat×(J->Prop)},p∈dt ops j H↔p∈H/\jS ops p.1 j=false
 |[],p=>by simp[dt]
 |(i,d)::H,p=>by
  unfold dt;cases h:jS ops i j with
  |true=>
   simp only[cond_true];rw[fM]
   grind
  |false=>
   simp only[cond_false,aq];rw[fM]
   grind
section
variable {P:aH} {ops:Array Oper} {Q:Exit->Act->J->Prop}
def eN(P:aH)(ops:Array Oper)(Q:Exit->Act->J->Prop):Nat->eQ->Array Bool->Act->J->Prop
 |0,_,d,a,h=>Down ops d->e4 .any ops d=[]/\Q .normal a h
 |fuel+1,j,d,a,h=>Down ops d->
  (e4 .any ops d=[]->Q .normal a h)/\
  ∀i∈e4 .any ops d,wpOp P ops Q i (λq k=>(∀p∈dt ops i j,p.2 k)/\eN P ops Q fuel (dt ops i j) (d.setIfInBounds i true) q k) a h
def Cj:∀(fuel:Nat) (H:eQ) (j:Array Bool) (a:Act) (w:J),Down ops j->eN P ops Q fuel H j a w->wpAny P .any ops Q fuel j a w
 |0,_,_,_,_,d,h=>h d
 |fuel+1,_,_,_,_,d,h=>⟨(h d).1,λi k=>wpOp_mono (λq y x=>Cj fuel _ _ q y (d.set k) x.2) ((h d).2 i k)⟩
def It:∀(fuel:Nat) (H d:eQ) (k:Array Bool) (a:Act) (w:J),(∀p∈d,p∈H)->eN P ops Q fuel H k a w->eN P ops Q fuel d k a w
 |0,_,_,_,_,_,_,h=>h
 |fuel+1,H,d,k,a,w,B,h=>λx=>⟨(h x).1,λi A=>wpOp_mono (λz C q=>by have y:∀p∈dt ops i d,p∈dt ops i H:=λp j=>fM.2 ⟨B p (fM.1 j).1,(fM.1 j).2⟩;exact⟨λp j=>q.1 p (y p j),It fuel _ _ _ z C y q.2⟩) ((h x).2 i A)⟩
def acy{i j:Nat}{d:Array Bool}(h:Down ops d)(hi:d.getD i true=false)(k:j∈e4 .any ops d):jS ops i j=false:=by
 obtain⟨_,B,A,w⟩:=mem_ready.1 k;cases q:jS ops i j with
 |false=>rfl
 |true=>
  have this:=RL h 4 j (λo z e y x=>by grind) q
  grind
def Is{i:Nat}{x:Oper}{v:aa}{Ss:List (J->Prop)}(hi:ops[i]? =some x)(U:∀(j:Nat) (o:Oper) B b,ops[j]? =some o->o.op≠.select B b)(hQ:∀c a w,Q (.panic c) (a.put x.dst v) w->Q (.panic c) a w):
  ∀(fuel:Nat) (H:eQ) (q:Array Bool) (a:Act) (w:J),
   (∀j y,ops[j]? =some y->j≠i->q.getD j true=false->(∀e∈y.after,Region.binds .any e=true->e.on≠i)->x.apart ops y=true)->
   i∈e4 .any ops q->YieldsIf P ops (λw=>∀h∈Ss,h w) x v a->(∀h∈Ss,h w)->(∀p∈H,p.2 w)->
   eN P ops Q fuel (Ss.map (λh=>(i,h))++H) (q.setIfInBounds i true) (a.put x.dst v) w->eN P ops Q (fuel+1) H q a w:=by
 intro fuel;induction fuel with
 |zero=>
  intro H q a w _ D F I G A E;refine⟨λY=>(by grind),λj C=>?_⟩;by_cases k:j=i
  .subst k;exact F.wpOp hi I ⟨λp d=>G p (fM.1 d).1,A⟩
  .have:=ready_mono C k;rw[(A (E.set D)).1]at this
   grind
 |succ fuel ih=>
  intro H q a w O D F I G A E;refine⟨λY=>(by grind),λj C=>?_⟩;by_cases k:j=i
  .subst k;refine F.wpOp hi I ⟨λp d=>G p (fM.1 d).1,?_⟩;exact It _ _ _ _ _ _ (λp d=>dL _ (fM.1 d).1) A
  .have h1:=(A (E.set D)).2 j (ready_mono C k);obtain⟨ae,y,K,al⟩:=mem_ready.1 C;have Z:=(mem_ready.1 D).1;have ah:∀e∈y.after,Region.binds .any e=true->e.on≠i:=λe he hb am=>by grind
   have T:jS ops i j=false:=acy E Z C;have h2:=wpOp_putIf K (O j y K k ae ah) (λB b=>U i x B b hi) (λB b=>U j y B b K) hQ F h1;have ac:∀z ok,ops[z]? =some ok->z≠i->(q.setIfInBounds j true).getD z true=false->
     (∀e∈ok.after,Region.binds .any e=true->e.on≠i)->x.apart ops ok=true:=λz ok hk af aj ag=>by
    refine O z ok hk af ?_ ag;by_cases ad:j=z
    .grind
    .rw [getD_set_ne true ad]at aj;omega
   refine wpOp_mono (λW L h3=>?_) h2;obtain⟨ak,S,ai⟩:=h3;have M:∀p∈dt ops j H,p.2 L:=λp d=>S p (fM.2 ⟨dL _ (fM.1 d).1,(fM.1 d).2⟩);have ab:∀h∈Ss,h L:=λh N=>S (i,h) (fM.2 ⟨List.mem_append_left _ (bK.2 ⟨h,N,rfl⟩),T⟩);refine⟨M,ih (dt ops j H) (q.setIfInBounds j true) W L ac (ready_mono D (Ne.symm k)) ak ab M ?_⟩;rw[Array.setIfInBounds_comm _ _ k];refine It _ _ _ _ _ _ (λp d=>?_) ai;rcases aW.1 d with d|d
   .obtain ⟨h,N,rfl⟩:=bK.1 d;exact fM.2 ⟨List.mem_append_left _ d,T⟩
   .exact fM.2 ⟨dL _ (fM.1 d).1,(fM.1 d).2⟩
end
def kn(ops:Array Oper)(j:Nat):Option Nat:=(ops[j]?).bind (·.dst)
def pH(P:aH)(ops:Array Oper)(draw:Bool)(i:Nat)(o:Oper)(E:Env)(w:J)(H:eQ)(K:Env->J->eQ->Prop):Prop:=
 bif calm P o then n0 P o E w λv j=>K (E.put o.dst v) w (bif draw then j.map (λh=>(i,h))++H else H)
 else(bif draw then hL else uD) P o E w λv d=>tY (heldBy ops i d H) (K (E.put o.dst v) d (dt ops i H))
def mz(P:aH)(ops:Array Oper)(draw:Bool)(i:Nat)(o:Oper)(d:Nat)(want t:Bool)(E:Env)(w:J)(H:eQ)(K:Env->J->eQ->Prop):Prop:=
 bif (t==want)then pH P ops draw i o ((d,.bool t)::E) w H K else K (Env.put ((d,.bool t)::E) o.dst undef) w (bif calm P o then H else dt ops i H)
def hq(P:aH)(ops:Array Oper)(draw:Bool)(K:Env->J->Prop):List Nat->Env->J->eQ->Prop
 |[],d,h,_=>K d h
 |i::l,d,h,k=>
  match ops[i]? with
  |none=>False
  |some o=>match o.guard with
   |none=>pH P ops draw i o d h k λj w q=>hq P ops draw K l j w q
   |some (y,want)=>match kn ops y with
    |none=>False
    |some x=>match d.get? x with
     |some (.bool t)=>bt t (mz P ops draw i o x want true d h k λj w q=>hq P ops draw K l j w q) (mz P ops draw i o x want false d h k λj w q=>hq P ops draw K l j w q)
     |some (.tuple _)=>hq P ops draw K l (Env.put d o.dst undef) h (bif calm P o then k else dt ops i k)
     |_=>False
def sI(P:aH)(ops:Array Oper):List Nat->Array Bool->Bool
 |[],d=>(e4 .any ops d).isEmpty
 |i::l,d=>(match ops[i]? with
   |some o=>bif calm P o then Region.free .any ops d i&&(e4 .any ops d).contains i else e4 .any ops d==[i]
   |none=>false)&&sI P ops l (d.setIfInBounds i true)
def Rg(o:Oper):Bool:=match o.op with |.defer _=>false|_=>true
def eg(n:Nat)(ops:Array Oper):Bool:=Region.noSelect ops&&ops.toList.all λo=>Rg o&&match o.dst with |some d=>Nat.blt d n|none=>true
def g5{n:Nat}{ops:Array Oper}(h:eg n ops=true){i:Nat}{o:Oper}(j:ops[i]? =some o):∀t,o.dst=some t->t<n:=by intro t d;unfold eg at h;rw[bH]at h;have:=fa.1 h.2 o (by grind);rw[d,bH]at this;simpa using this.2
def vi{n:Nat}{ops:Array Oper}(h:eg n ops=true){i:Nat}{o:Oper}(j:ops[i]? =some o):∀c,o.op≠.defer c:=by
 intro c d;unfold eg at h;rw[bH]at h;have:=fa.1 h.2 o (by grind);rw[bH]at this;have:=this.1;unfold Rg at this
 grind
def hU(n:Cx)(K:Env->J->Prop):Exit->Act->J->Prop
 |.normal,a,h=>∃d,Ag n a d/\K d h
 |_,_,_=>False
def tq{n:Cx}{a:Act}{E:Env}(k:Ag n a E){ops:Array Oper}{j d:Nat}{t:Bool}(h:kn ops j=some d)(q:E.get? d=some (.bool t)):yielded ops a.tmps j=some t:=by unfold yielded;unfold kn at h;rw[h];simp[k.get _ _ q]
def tt{n:Cx}{a:Act}{E:Env}(k:Ag n a E){ops:Array Oper}{j d:Nat}{vs:Array aa}(h:kn ops j=some d)(q:E.get? d=some (.tuple vs)):yielded ops a.tmps j=none:=by unfold yielded;unfold kn at h;rw[h];simp[k.get _ _ q]
def Ag.same{n:Cx}{a:Act}{E:Env}(h:Ag n a E){d:Nat}{v:aa}(j:E.get? d=some v):Ag n a ((d,v)::E):=h.cons j h
section
variable {P:aH} {ops:Array Oper} {n:Cx} {K:Env->J->Prop}
def y2{i:Nat}{o:Oper}{a:Act}{w:J}{Kv:aa->J->Prop}{K':Act->J->Prop}{Q:Exit->Act->J->Prop}(j:ops[i]? =some o)(k:dv o (yielded ops a.tmps)=true)(h:ja P o a w Kv)(x:∀v d,Kv v d->K' (a.put o.dst v) d):wpOp P ops Q i K' a w:=by unfold wpOp;simp only[j,k,if_true];exact .inl (Oper.wp_mono (λq d=>by grind) (h Q))
def BP{i:Nat}{o:Oper}{a:Act}{E:Env}{w:J}{H:eQ}{Kh:Env->J->eQ->Prop}{j:Array Bool}{fuel:Nat}{Q:Exit->Act->J->Prop}(A:eg n ops=true)(d:ops[i]? =some o)(q:(bif calm P o then Region.free .any ops j i&&(e4 .any ops j).contains i else e4 .any ops j==[i])=true)(hQ:∀c a w,Q (.panic c) a w=False)(x:Ag n a E)(T:∀p∈H,p.2 w)(L:dv o (yielded ops a.tmps)=true)(h:pH P ops true i o E w H Kh)(next:∀D C k y,Ag n D C->(∀p∈y,p.2 k)->Kh C k y->eN P ops Q fuel y (j.setIfInBounds i true) D k):eN P ops Q (fuel+1) H j a w:=by
 have B:=Region.noSelect_spec (ops:=ops) (by unfold eg at A;grind);unfold pH at h;cases G:calm P o with
 |true=>
  rw[G]at h q;simp only[cond_true]at h q;rw[bH]at q;obtain⟨v,N,U,Y,Z⟩:=zL (λz b=>B i o z b d) x h;refine Is (v:=v) (Ss:=N) d B (by grind) fuel H j a w (Region.free_spec d q.1) (by grind) (.inl ⟨L,λk aa=>Z k aa⟩) Y T ?_;refine next _ _ _ _ (x.put v (g5 A d)) ?_ U
  grind
 |false=>
  rw[G]at h q;simp only[cond_false,cond_true]at h q;have W:e4 .any ops j=[i]:=by grind
  refine λ_=>⟨λh0=>(by grind),λM I=>?_⟩;rw[W]at I;obtain rfl:=bY.1 I;refine y2 d L (n5 (λz b=>B M o z b d) x h) λv k hv=>?_;obtain⟨O,S⟩:=tZ hv;have F:∀p∈dt ops M H,p.2 k:=λp K=>O _ (E7 (fM.1 K).1 (fM.1 K).2);exact⟨F,next _ _ _ _ (x.put v (g5 A d)) F S⟩
def yB{i:Nat}{o:Oper}{a:Act}{w:J}{H:eQ}{d:Array Bool}{fuel:Nat}{Q:Exit->Act->J->Prop}(A:eg n ops=true)(j:ops[i]? =some o)(h:(bif calm P o then Region.free .any ops d i&&(e4 .any ops d).contains i else e4 .any ops d==[i])=true)(G:∀c a w,Q (.panic c) a w=False)(k:∀p∈H,p.2 w)(y:dv o (yielded ops a.tmps)=false)(next:eN P ops Q fuel (bif calm P o then H else dt ops i H) (d.setIfInBounds i true) (a.put o.dst undef) w):eN P ops Q (fuel+1) H d a w:=by
 have D:=Region.noSelect_spec (ops:=ops) (by unfold eg at A;grind);cases q:calm P o with
 |true=>
  rw[q]at h next
  simp only[cond_true]at h next
  rw[bH]at h;exact Is (v:=undef) (Ss:=[]) j D (by grind) fuel H d a w (Region.free_spec j h.1) (by grind) (.inr ⟨y,rfl⟩) (λE z=>(by cases z)) k (by grind)
 |false=>
  rw[q]at h next
  simp only[cond_false]at h next
  have C:e4 .any ops d=[i]:=by grind
  refine λ_=>⟨λF=>(by grind),λI x=>?_⟩;rw[C]at x;obtain rfl:=bY.1 x;unfold wpOp;simp only[j,y];exact⟨λp B=>k p (fM.1 B).1,next⟩
def TN(q:eg n ops=true):∀(l:List Nat) (G:Array Bool) (E:Env) (w:J) (H:eQ) (a:Act),sI P ops l G=true->Ag n a E->(∀p∈H,p.2 w)->
  hq P ops true K l E w H->eN P ops (hU n K) l.length H G a w
 |[],G,E,w,H,a,h,j,_,d=>λ_=>⟨by simpa[sI]using h,E,j,d⟩
 |i::l,G,E,w,H,a,h,j,A,d=>by
  unfold sI at h;rw[bH]at h;obtain⟨h,W⟩:=h;unfold hq at d;cases x:ops[i]? with
  |none=>grind
  |some o=>
   rw[x]at d h;simp only at d h;have next:∀I z y k,Ag n I z->(∀p∈k,p.2 y)->hq P ops true K l z y k->eN P ops (hU n K) l.length k (G.setIfInBounds i true) I y:=
    λI z y k S T U=>TN q l _ z y k I W S T U
   cases B:o.guard with
   |none=>
    rw[B]at d;simp only at d;exact BP q x h (λ_ _ _=>rfl) j A (by simp[dv,B]) d next
   |some Z=>
    obtain⟨Y,want⟩:=Z;rw[B]at d;simp only at d;cases N:kn ops Y with
    |none=>grind
    |some Q=>
     rw[N]at d;simp only at d;split at d
     .rename_i t F;have L:=tq j N F;have C:mz P ops true i o Q want t E w H λz y k=>hq P ops true K l z y k:=by
       cases t
       .exact d
       .exact d
      unfold mz at C;cases O:(t==want)with
      |true=>
       rw[O]at C;exact BP q x h (λ_ _ _=>rfl) (j.same F) A (by simp[dv,B,L];grind) C next
      |false=>
       rw[O]at C;simp only[cond_false]at C;refine yB q x h (λ_ _ _=>rfl) A (by simp[dv,B,L];grind) ?_;refine next _ _ _ _ ((j.same F).put undef (g5 q x)) ?_ C
       intro p D;cases M:calm P o
       .rw [M]at D;exact A p (fM.1 D).1
       grind
     .rename_i vs F;have L:=tt j N F;refine yB q x h (λ_ _ _=>rfl) A (by simp[dv,B,L]) ?_;refine next _ _ _ _ (j.put undef (g5 q x)) ?_ d
      intro p D;cases M:calm P o
      .rw [M]at D;exact A p (fM.1 D).1
      grind
     grind
def Ck{i:Nat}{o:Oper}{a:Act}{w:J}{Kv:aa->J->Prop}{K':Act->J->Prop}{Q:Exit->Act->J->Prop}(j:ops[i]? =some o)(k:dv o (yielded ops a.tmps)=true)(h:y5 P n o a w Kv)(x:∀v d,Kv v d->K' (a.put o.dst v) d):wpOpIn (FW n) 0 P ops Q i K' a w:=by unfold wpOpIn;simp only[j,k,if_true];exact Oper.wpIn_mono (λq d=>by grind) (h Q)
def UO{i:Nat}{o:Oper}{a:Act}{E:Env}{w:J}{Kh:Env->J->eQ->Prop}{rest:List Nat}{Q:Exit->Act->J->Prop}(k:eg n ops=true)(d:ops[i]? =some o)(q:Ag n a E)(C:dv o (yielded ops a.tmps)=true)(h:pH P ops false i o E w [] Kh)(next:∀z y j,Ag n z y->Kh y j []->wpOpsIn (FW n) 0 P ops Q rest z j):wpOpsIn (FW n) 0 P ops Q (i::rest) a w:=by
 have B:=Region.noSelect_spec (ops:=ops) (by unfold eg at k;grind);rw[wpOpsIn_cons];unfold pH at h;cases A:calm P o with
 |true=>
  rw[A]at h;simp only[cond_true,cond_false]at h;obtain⟨v,L,F,G,H⟩:=zL (λx b=>B i o x b d) q h;refine Ck (Kv:=λD j=>D=v/\j=w) d C ?_ ?_
  .refine ja.in (vi k d) λK=>?_;unfold Oper.wp;rw[H w G];exact⟨v,rfl,rfl,rfl⟩
  .rintro D j ⟨rfl,rfl⟩;exact next _ _ _ (q.put _ (g5 k d)) F
 |false=>
  rw[A]at h;simp only[cond_false,heldBy,tY,dt]at h;exact Ck d C (Kw (λx b=>B i o x b d) (vi k d) q h) λv j I=>next _ _ _ (q.put v (g5 k d)) I
def TO(A:eg n ops=true):∀(l:List Nat) (E:Env) (w:J) (a:Act),Ag n a E->hq P ops false K l E w []->wpOpsIn (FW n) 0 P ops (hU n K) l a w
 |[],E,w,a,k,d=>⟨E,k,d⟩
 |i::l,E,w,a,k,d=>by
  unfold hq at d;cases x:ops[i]? with
  |none=>grind
  |some o=>
   rw[x]at d;simp only at d;have next:∀C h j,Ag n C h->hq P ops false K l h j []->wpOpsIn (FW n) 0 P ops (hU n K) l C j:=λC h j M N=>TO A l h j C M N
   cases y:o.guard with
   |none=>
    rw[y]at d;simp only at d;exact UO (Kh:=λh j z=>hq P ops false K l h j z) A x k (by simp[dv,y]) d next
   |some Q=>
    obtain⟨O,want⟩:=Q;rw[y]at d;simp only at d;cases G:kn ops O with
    |none=>grind
    |some L=>
     rw[G]at d;simp only at d;split at d
     .rename_i t B;have D:=tq k G B;have q:mz P ops false i o L want t E w [] λh j z=>hq P ops false K l h j z:=by
       cases t
       .exact d
       .exact d
      unfold mz at q;cases I:(t==want)with
      |true=>
       rw[I]at q;exact UO (Kh:=λh j z=>hq P ops false K l h j z) A x (k.same B) (by simp[dv,y,D];grind) q next
      |false=>
       rw[I]at q;simp only[cond_false]at q;have F:(bif calm P o then([]:eQ)else dt ops i [])=[]:=by cases calm P o<;>rfl
       rw[F]at q;rw[wpOpsIn_cons];unfold wpOpIn;have H:dv o (yielded ops a.tmps)=false:=by simp[dv,y,D];grind
       simp only[x,H];exact⟨λ_ _=>trivial,next _ _ _ ((k.same B).put undef (g5 A x)) q⟩
     .rename_i S B;have D:=tt k G B;have F:(bif calm P o then([]:eQ)else dt ops i [])=[]:=by cases calm P o<;>rfl
      rw[F]at d;rw[wpOpsIn_cons];unfold wpOpIn;have H:dv o (yielded ops a.tmps)=false:=by simp[dv,y,D]
      simp only[x,H];exact⟨λ_ _=>trivial,next _ _ _ (k.put undef (g5 A x)) d⟩
     grind
def af'{c:Code}{id:Nat}{a:Act}{E:Env}{w:J}(j:c=.region id ops false)(k:eg n ops=true)(d:Ag n a E)(h:hq P ops false K (List.range ops.size) E w []):c.wpIn (FW n) 0 P (hU n K) a w:=by subst j;exact wpIn_region (TO k _ E w a d h)
def tm(h:eg n ops=true){Q:Exit->Act->J->Prop}(j:¬LetsOut Q):∀(l:List Nat) (a:Act) (w:J),wpOps P ops Q l a w->wpOpsIn (FW n) 0 P ops Q l a w
 |[],a,w,d=>d
 |i::l,a,w,d=>by
  rw[wpOps_cons]at d;rw[wpOpsIn_cons];unfold wpOp at d;unfold wpOpIn;cases k:ops[i]? with
  |none=>rw[k]at d;exact tm h j l a w d
  |some o=>
   rw[k]at d;simp only at d ⊢;split
   .rename_i q;rw[av q]at d;rcases d with d|d
    .exact Oper.wpIn_mono (λx z y=>tm h j l x z y) (V' (vi h k) d)
    grind
   .rename_i q;rw[ag q]at d;exact⟨λ_ _=>trivial,tm h j l _ w d⟩
def af9{c:Code}{id:Nat}{a:Act}{E:Env}{w:J}{l:List Nat}(z:P.follows .mixedOrders=true)(x:c=.region id ops true)(j:eg n ops=true)(y:sI P ops l (hR ops.size false)=true)(B:l.length=ops.size)(q:Ag n a E)(h:hq P ops true K l E w.drew []):c.wpIn (FW n) 0 P (hU n K) a w:=by subst x;have d:=TN j l _ E _ [] a y q (λp A=>(by cases A)) h;rw[B]at d;have k:=Cj _ [] _ _ _ (Down.zero _ _) d;refine wpIn_region_draw λt=>?_;refine tm j (λ⟨_,_,h⟩=>h) _ _ _ ?_;simp only[Region.schedule,z,Bool.true_or,if_true];exact wpAny_sound ops.size t _ a _ k
end
section
variable {P:aH} {n:Cx}
def Code.ops:Code->Array Oper
 |.region _ ops _=>ops
 |_=>#[]
def Code.fst:Code->Code
 |.seq a _=>a
 |.cond _ a _=>a
 |.block _ a=>a
 |.loop a=>a
 |.scope a=>a
 |c=>c
def Code.snd:Code->Code
 |.seq _ b=>b
 |.cond _ _ b=>b
 |c=>c
def Code.W8:Code->Code
 |.rangeFunc _ _ a _=>a
 |c=>c
def Code.Xq:Code->Code
 |.rangeFunc _ _ _ b=>b
 |c=>c
abbrev fT(P:aH)(n:Cx)(c:Code)(Q:Exit->Act->J->Prop)(a:Act)(w:J):Prop:=c.wpIn (FW n) 0 P Q a w
def WP(P:aH)(n:Cx)(c:Code)(Q:Exit->Act->J->Prop)(E:Env)(w:J):Prop:=∀a,Ag n a E->fT P n c Q a w
def WP.region{c:Code}{Q:Exit->Act->J->Prop}{E:Env}{w:J}{ops:Array Oper}{id:Nat}(K:Env->J->Prop)(y:c=.region id ops false)(z:eg n ops=true)(h:hq P ops false K (List.range ops.size) E w [])(A:∀d k j,Ag n j d->K d k->Q .normal j k):WP P n c Q E w:=λa x=>
 wpIn_mono (af' y z x h) λe j k q=>by
  cases e with
  |normal=>obtain⟨d,hA,hK⟩:=q;grind
  |_=>exact q.elim
def WP.adJ{c:Code}{Q:Exit->Act->J->Prop}{E:Env}{w:J}{ops:Array Oper}{id:Nat}{l:List Nat}(K:Env->J->Prop)(A:P.follows .mixedOrders=true)(y:c=.region id ops true)(B:eg n ops=true)(z:sI P ops l (hR ops.size false)=true)(C:l.length=ops.size)(h:hq P ops true K l E w.drew [])(D:∀d k j,Ag n j d->K d k->Q .normal j k):WP P n c Q E w:=λa x=>
 wpIn_mono (af9 A y B z C x h) λe j k q=>by
  cases e with
  |normal=>obtain⟨d,hA,hK⟩:=q;grind
  |_=>exact q.elim
def sU(n:Nat)(c:Code):Bool:=match c with |.region _ ops d=>!d&&eg n ops|_=>false
def Bn(P:aH)(n:Nat)(c:Code)(l:List Nat):Bool:=match c with
 |.region _ ops d=>d&&(P.follows .mixedOrders&&(eg n ops&&(sI P ops l (hR ops.size false)&&cg l.length ops.size)))
 |_=>false
def WP.qQ{c:Code}{Q:Exit->Act->J->Prop}{E:Env}{w:J}(K:Env->J->Prop)(d:sU n c=true)(h:hq P (Code.ops c) false K (List.range (Code.ops c).size) E w [])(A:∀j q k,Ag n k j->K j q->Q .normal k q):WP P n c Q E w:=by
 unfold sU at d;split at d
 .rename_i id ops x;rw[bH]at d;obtain⟨B,y⟩:=d;have z:x=false:=by grind
  subst z;exact WP.region K rfl y h A
 grind
def WP.draw{c:Code}{Q:Exit->Act->J->Prop}{E:Env}{w:J}(l:List Nat)(K:Env->J->Prop)(d:Bn P n c l=true)(h:hq P (Code.ops c) true K l E w.drew [])(B:∀j x k,Ag n k j->K j x->Q .normal k x):WP P n c Q E w:=by
 unfold Bn at d;split at d
 .rename_i id ops C;simp only[bH]at d;obtain⟨rfl,y,z,A,q⟩:=d;rw[eO]at q;exact WP.adJ K y rfl z A q h B
 grind
def WP.at{c:Code}{Q:Exit->Act->J->Prop}{E:Env}{w:J}{a:Act}(h:WP P n c Q E w)(d:Ag n a E):fT P n c Q a w:=h a d
def WP.seq{c x y:Code}{Q:Exit->Act->J->Prop}{E:Env}{w:J}(j:c=.seq x y)(h:WP P n x (Exit.then (fT P n y Q) Q) E w):WP P n c Q E w:=λa d=>by subst j;exact wpIn_seq (h a d)
def WP.cond{c x y:Code}{o:Operand}{Q:Exit->Act->J->Prop}{E:Env}{w:J}{t:Bool}(k:c=.cond o x y)(q:E.val o=some (.bool t))(h:bt t (WP P n x Q E w) (WP P n y Q E w)):WP P n c Q E w:=λa d=>by
 subst k;refine wpIn_cond_split (d.val q) (λj=>?_) (λj=>?_)
 .subst j;exact h a d
 .subst j;exact h a d
def gX(v:Option aa)(A B:Prop):Prop:=match v with |some (.bool t)=>bt t A B|_=>False
def WP.gX{c x y:Code}{o:Operand}{Q:Exit->Act->J->Prop}{E:Env}{w:J}{A B:Prop}(k:c=.cond o x y)(d:A->WP P n x Q E w)(j:B->WP P n y Q E w)(h:gX (E.val o) A B):WP P n c Q E w:=by
 unfold W.gX at h;split at h
 .rename_i t q;refine WP.cond k q ?_;cases t
  .exact j h
  .exact d h
 grind
def WP.block{c x:Code}{id:Nat}{Q:Exit->Act->J->Prop}{E:Env}{w:J}(j:c=.block id x)(h:WP P n x (Exit.inBlock id Q) E w):WP P n c Q E w:=λa d=>by subst j;exact wpIn_block (h a d)
def WP.skip{c:Code}{Q:Exit->Act->J->Prop}{E:Env}{w:J}(j:c=.skip)(h:∀a,Ag n a E->Q .normal a w):WP P n c Q E w:=λa d=>by subst j;exact wpIn_skip (h a d)
def WP.exit{c:Code}{id:Nat}{Q:Exit->Act->J->Prop}{E:Env}{w:J}(j:c=.exit id)(h:∀a,Ag n a E->Q (.exit id) a w):WP P n c Q E w:=λa d=>by subst j;exact wpIn_exit (h a d)
def WP.ret{c:Code}{Q:Exit->Act->J->Prop}{E:Env}{w:J}(j:c=.ret)(h:∀a,Ag n a E->Q .ret a w):WP P n c Q E w:=λa d=>by subst j;exact wpIn_ret (h a d)
def mX(P:aH)(n:Cx)(c:Code)(Q:Exit->Act->J->Prop)(a:Act)(w:J):Prop:=
 ∀(b:Frame) (k:List Item) (cs:List Frame),b.roundOf=n.ro->∃e d h,Q e d h/\ArrivesIn (Machine.fenced P (FW n)) P (lone (b.atR a (.code c::.inLoop c::k)) cs w) b k cs e d h
def adR(n:Cx)(m:Nat):(FW n).room m:=room_wide m
def Wa{c:Code}{Q:Exit->Act->J->Prop}{a:Act}{w:J}(h:mX P n c Q a w):fT P n (Code.loop c) Q a w:=λb A j z q y=>by obtain⟨e,d,B,x,k⟩:=h b A j z;exact⟨e,d,B,x,.of_steps (.one (fenced_calm q y rfl) stepR_loop) k⟩
def Nr{c:Code}{Q:Exit->Act->J->Prop}{a:Act}{w:J}(h:fT P n c (Exit.then (mX P n c Q) Q) a w):mX P n c Q a w:=by
 intro b A k z;have q:(FW n).fn b.fn:=trivial;have y:(FW n).room (k.length+1+0):=adR n _;obtain⟨e,a₁,w₁,j,d⟩:=h b (.inLoop c::A) k z q y;cases e with
 |normal=>
  obtain⟨e₂,a₂,w₂,j₂,d₂⟩:=j b A k z;exact⟨e₂,a₂,w₂,j₂,.of_steps (StepsIn.trans d (.one (fenced_calm q y rfl) stepR_inLoop)) d₂⟩
 |exit id=>exact⟨_,a₁,w₁,j,.pass (x:=.inLoop c) rfl (λ_ _=>.inl ws) d⟩
 |goto l=>exact⟨_,a₁,w₁,j,.pass (x:=.inLoop c) rfl (λ_ _=>.inl ws) d⟩
 |ret=>exact⟨_,a₁,w₁,j,.pass (x:=.inLoop c) rfl (λ_ _=>.inl ws) d⟩
 |panic B=>exact⟨_,a₁,w₁,j,.pass (x:=.inLoop c) rfl (λ_ _=>.inl ws) d⟩
 |outgrown=>exact⟨_,a₁,w₁,j,.pass (x:=.inLoop c) rfl (λ_ _=>.inl ws) d⟩
def LP(P:aH)(n:Cx)(c:Code)(Q:Exit->Act->J->Prop)(E:Env)(w:J):Prop:=∀a,Ag n a E->mX P n c Q a w
def WP.loop{c x:Code}{Q:Exit->Act->J->Prop}{E:Env}{w:J}(j:c=.loop x)(h:LP P n x Q E w):WP P n c Q E w:=λa d=>by subst j;exact Wa (h a d)
def LP.step{c:Code}{Q:Exit->Act->J->Prop}{E:Env}{w:J}(h:WP P n c (Exit.then (mX P n c Q) Q) E w):LP P n c Q E w:=λa d=>Nr (h a d)
def GU:List aa->aa
 |[v]=>v
 |d=>.tuple d.toArray
def sW(P:aH)(E:Env)(w:J):List ResultVar->(List aa->Prop)->Prop
 |[],d=>d []
 |.tmp t::l,d=>match E.get? t with
  |some v=>sW P E w l λh=>d (v::h)
  |none=>False
 |.cell k j::l,d=>match E.get? k with
  |some (.pointer (some p))=>nc P j p w λv _=>sW P E w l λh=>d (v::h)
  |_=>False
def lW(P:aH)(fn:Func)(E:Env)(w:J)(K:aa->Prop):Prop:=sW P E w fn.results.toList λd=>K (GU d)
def qS(tmps:Array aa):ResultVar->Sem aa
 |.tmp t=>pure (tmps.getD t undef)
 |.cell a t=>do loadVar t (<-asAddr (tmps.getD a undef))
def Tt(fn:Func)(tmps:Array aa):results fn tmps=(do let d <-fn.results.mapM (qS tmps);pure (if h:d.size=1 then d[0]else .tuple d)):=by unfold results;congr 1
def Hi{a:Act}{E:Env}(j:Ag n a E)(w:J):∀{l:List ResultVar} {K:List aa->Prop},sW P E w l K->
  ∃h,(l.mapM (qS a.tmps)).run P w=.ok h w/\K h
 |[],K,d=>⟨[],ws,d⟩
 |.tmp t::l,K,d=>by
  unfold sW at d;split at d
  .rename_i v B;obtain⟨h,x,q⟩:=Hi j w d;refine⟨v::h,?_,q⟩;have k:=j.get t v B;simp[List.mapM_cons,qS,x,k]
  grind
 |.cell C F::l,K,d=>by
  unfold sW at d;split at d
  .rename_i p y;obtain⟨v,D,d,z,A⟩:=Fz d;obtain⟨h,x,q⟩:=Hi j w d;refine⟨v::h,?_,q⟩;have k:=j.get C _ y;simp[List.mapM_cons,qS,x,k,asAddr,A w z]
  grind
def Hk{fn:Func}{a:Act}{E:Env}{w:J}{R:cE->J->Prop}(j:Ag n a E)(h:lW P fn E w λv=>R (ae v) w):
  ∃v,(results fn a.tmps).run P w=.ok v w/\R (ae v) w:=by
 obtain⟨d,q,k⟩:=Hi j w h;refine⟨_,?_,k⟩;rw[Tt,<-Array.toArray_toList (xs:=fn.results),List.mapM_toArray];simp only[Sem.run_bind,Sem.run_map,q,Result.andThen_ok,Sem.run_pure];congr 1;cases d with
 |nil=>rfl
 |cons v d=>cases d<;>rfl
def yq{m:Nat}{fn:Func}{a:Act}{E:Env}{w:J}{R:cE->J->Prop}(d:Ag (cx m) a E)(h:lW P fn E w λv=>R (ae v) w):
  a.defers=[]/\∃v,(results fn a.tmps).run P w=.ok v w/\R (ae v) w:=⟨d.defers,Hk d h⟩
def YR{f:cW}{fn:Func}{c:Code}{args:Array aa}{w:J}{R:cE->J->Prop}{E:Env}(j:P.funcs[f]? =some fn)(d:fn.body=some c)(q:args.size<=fn.ntmps)(k:∀t v,E.get? t=some v->args[t]? =some v)(h:WP P (cx fn.ntmps) c (bodyPost P fn R) E w):aj P f args w R:=by
 refine calls_of_wp j d (wpIn_wide.1 (h _ ⟨rfl,by grind,?_⟩))
 grind
def kS:Nat->List aa->Env
 |_,[]=>[]
 |i,v::l=>(i,v)::kS (i+1) l
def EA:∀(l:List aa) (i t:Nat) (v:aa),(kS i l).get? t=some v->i<=t/\l[t - i]? =some v
 |[],_,_,_,d=>by simp[kS,Env.get?]at d
 |u::l,i,t,v,d=>by
  simp only[kS,Env.get?]at d;by_cases e:i=t
  .subst e;simp at d;grind
  .have h:cg i t=false:=by rw[<-jB,eO];exact e
   simp only[h,cond_false]at d;obtain⟨j,k⟩:=EA l (i+1) t v d
   grind
def wW{f:cW}{fn:Func}{c:Code}{args:List aa}{w:J}{R:cE->J->Prop}(j:P.funcs[f]? =some fn)(d:fn.body=some c)(k:Nat.ble args.length fn.ntmps=true)(h:WP P (cx fn.ntmps) c (bodyPost P fn R) (kS 0 args) w):aj P f args.toArray w R:=
 YR j d (by simpa using Nat.le_of_ble_eq_true k) (λt v q=>by
  have:=(EA args 0 t v q).2
  grind) h
def aeh{t:Bool}{A B d j:Prop}(k:A->d)(q:B->j)(h:bt t A B):bt t d j:=by
 cases t
 .exact q h
 .exact k h
def asInt(k:ik)(v:Option aa)(K:Int->Prop):Prop:=match v with |some (.int d n)=>cS (d==k) (K n)|_=>False
def hf{k:ik}{v:Option aa}{K:Int->Prop}(h:asInt k v K):∃n,v=some (.int k n)/\K n:=by
 unfold asInt at h;split at h
 .obtain ⟨d,j⟩:=dZ h
  grind
 grind
def rM(v:Option aa)(K:ByteArray->Prop):Prop:=match v with |some (.string b)=>K b|_=>False
def wL{v:Option aa}{K:ByteArray->Prop}(h:rM v K):∃b,v=some (.string b)/\K b:=by
 unfold rM at h
 grind
def asSlice(v:Option aa)(K:Sl->Prop):Prop:=match v with |some (.slice a n c)=>K ⟨a,n,c⟩|_=>False
def rL{v:Option aa}{K:Sl->Prop}(h:asSlice v K):∃s:Sl,v=some s.v/\K s:=by
 unfold asSlice at h
 grind
def cK(v:Option aa)(K:Addr->Prop):Prop:=match v with |some (.pointer (some a))=>K a|_=>False
def cT{v:Option aa}{K:Addr->Prop}(h:cK v K):∃a,v=some (.pointer (some a))/\K a:=by
 unfold cK at h
 grind
def asAgg(v:Option aa)(K:List aa->Prop):Prop:=match v with |some (.agg d)=>K d.toList|_=>False
def W5{v:Option aa}{K:List aa->Prop}(h:asAgg v K):∃d:List aa,v=some (.agg d.toArray)/\K d:=by
 unfold asAgg at h;split at h
 .grind
 grind
def zu(f:cW)(v:Option aa)(K:List aa->List aa->Prop):Prop:=match v with |some (.func (.func g) h d)=>cS (cg g f) (K h.toList d.toList)|_=>False
def W6{f:cW}{v:Option aa}{K:List aa->List aa->Prop}(h:zu f v K):∃j d:List aa,v=some (.func (.func f) j.toArray d.toArray)/\K j d:=by
 unfold zu at h;split at h
 .obtain ⟨k,q⟩:=dZ h;rw[eO]at k;subst k
  grind
 grind
def qe(l:List aa)(K:aa->List aa->Prop):Prop:=match l with |v::r=>K v r|[]=>False
def ub{l:List aa}{K:aa->List aa->Prop}(h:qe l K):∃v r,l=v::r/\K v r:=by
 cases l with
 |nil=>exact h.elim
 |cons v r=>exact⟨v,r,rfl,h⟩
def uc(l:List aa)(K:Prop):Prop:=match l with |[]=>K|_=>False
def Dq{l:List aa}{K:Prop}(h:uc l K):l=[]/\K:=by
 cases l with
 |nil=>exact⟨rfl,h⟩
 |cons v r=>exact h.elim
end
def kN(k:ik)(x y:Int):Int:=k.wrap ((e3 k.bits x&&& e3 k.bits y).toNat:Int)
def nX(k:ik)(x y:Int):Int:=k.wrap ((e3 k.bits x|||e3 k.bits y).toNat:Int)
def nY(k:ik)(x y:Int):Int:=k.wrap ((e3 k.bits x^^^e3 k.bits y).toNat:Int)
def Xd(k:ik)(x y:Int):Int:=k.wrap ((e3 k.bits x&&& ~~~ e3 k.bits y).toNat:Int)
inductive Tr where
 |nil
 |one (i:Nat) (t:Tr)
 |fork (a b:Tr)
def Tr.jJ:Tr->List Nat
 |.nil=>[]
 |.one i _=>[i]
 |.fork a b=>a.jJ++b.jJ
def Tr.len:Tr->Nat
 |.nil=>0
 |.one _ t=>t.len+1
 |.fork a _=>a.len
def xM(P:aH)(ops:Array Oper)(i:Nat)(E:Env)(w:J)(H:eQ)(d:Env->J->eQ->Prop):Prop:=
 match ops[i]? with
 |none=>False
 |some o=>match o.guard with
  |none=>pH P ops true i o E w H d
  |some (j,want)=>match kn ops j with
   |none=>False
   |some h=>match E.get? h with
    |some (.bool t)=>bt t (mz P ops true i o h want true E w H d) (mz P ops true i o h want false E w H d)
    |some (.tuple _)=>d (Env.put E o.dst undef) w (bif calm P o then H else dt ops i H)
    |_=>False
def pK(P:aH)(ops:Array Oper)(K:Env->J->Prop):Tr->Env->J->eQ->Prop
 |.nil,d,h,_=>K d h
 |.one i t,d,h,j=>xM P ops i d h j λk w q=>pK P ops K t k w q
 |.fork a b,d,h,j=>pK P ops K a d h j/\pK P ops K b d h j
def iG(P:aH)(ops:Array Oper):Tr->Bool->Array Bool->Bool
 |.nil,alt,d=>!alt&&(e4 .any ops d).isEmpty
 |.one i t,alt,d=>(match ops[i]? with
   |some o=>bif alt then !calm P o else bif calm P o then Region.free .any ops d i&&(e4 .any ops d).contains i else e4 .any ops d==[i]
   |none=>false)&&iG P ops t false (d.setIfInBounds i true)
 |.fork a b,alt,d=>(alt||e4 .any ops d==(Tr.fork a b).jJ)&&(cg a.len b.len&&(iG P ops a true d&&iG P ops b true d))
section
variable {P:aH} {ops:Array Oper} {n:Cx} {K:Env->J->Prop}
def UN{i:Nat}{o:Oper}{a:Act}{E:Env}{w:J}{H:eQ}{Kh:Env->J->eQ->Prop}{C:Array Bool}{fuel:Nat}{Q:Exit->Act->J->Prop}(A:eg n ops=true)(q:ops[i]? =some o)(I:calm P o=false)(z:Ag n a E)(M:dv o (yielded ops a.tmps)=true)(h:pH P ops true i o E w H Kh)(next:∀j x d k,Ag n j x->(∀p∈k,p.2 d)->Kh x d k->eN P ops Q fuel k (C.setIfInBounds i true) j d):
  wpOp P ops Q i (λj d=>(∀p∈dt ops i H,p.2 d)/\eN P ops Q fuel (dt ops i H) (C.setIfInBounds i true) j d) a w:=by have K:=Region.noSelect_spec (ops:=ops) (by unfold eg at A;grind);unfold pH at h;rw[I]at h;simp only[cond_false,cond_true]at h;refine y2 q M (n5 (λD b=>K i o D b q) z h) λv d L=>?_;obtain⟨F,G⟩:=tZ L;have y:∀p∈dt ops i H,p.2 d:=λp B=>F _ (E7 (fM.1 B).1 (fM.1 B).2);exact⟨y,next _ _ _ _ (z.put v (g5 A q)) y G⟩
def HC{i:Nat}{o:Oper}{a:Act}{w:J}{H:eQ}{d:Array Bool}{fuel:Nat}{Q:Exit->Act->J->Prop}(q:ops[i]? =some o)(k:∀p∈H,p.2 w)(y:dv o (yielded ops a.tmps)=false)(next:eN P ops Q fuel (dt ops i H) (d.setIfInBounds i true) (a.put o.dst undef) w):
  wpOp P ops Q i (λj h=>(∀p∈dt ops i H,p.2 h)/\eN P ops Q fuel (dt ops i H) (d.setIfInBounds i true) j h) a w:=by unfold wpOp;simp only[q,y];exact⟨λp x=>k p (fM.1 x).1,next⟩
def aav(y:eg n ops=true){i:Nat}{o:Oper}{E:Env}{w:J}{H:eQ}{a:Act}{G:Env->J->eQ->Prop}{B:Array Bool}{fuel:Nat}(d:ops[i]? =some o)(C:(bif calm P o then Region.free .any ops B i&&(e4 .any ops B).contains i else e4 .any ops B==[i])=true)(k:Ag n a E)(j:∀p∈H,p.2 w)(h:xM P ops i E w H G)(next:∀O N M F,Ag n O N->(∀p∈F,p.2 M)->G N M F->eN P ops (hU n K) fuel F (B.setIfInBounds i true) O M):eN P ops (hU n K) (fuel+1) H B a w:=by
 unfold xM at h;rw[d]at h;simp only at h;cases q:o.guard with
 |none=>
  rw[q]at h;simp only at h;exact BP y d C (λ_ _ _=>rfl) k j (by simp[dv,q]) h next
 |some U=>
  obtain⟨T,want⟩:=U;rw[q]at h;simp only at h;cases L:kn ops T with
  |none=>grind
  |some S=>
   rw[L]at h;simp only at h;split at h
   .rename_i t A;have D:=tq k L A;have x:mz P ops true i o S want t E w H G:=by
     cases t
     .exact h
     .exact h
    unfold mz at x;cases Q:(t==want)with
    |true=>
     rw[Q]at x;exact BP y d C (λ_ _ _=>rfl) (k.same A) j (by simp[dv,q,D];grind) x next
    |false=>
     rw[Q]at x;simp only[cond_false]at x;refine yB y d C (λ_ _ _=>rfl) j (by simp[dv,q,D];grind) ?_;refine next _ _ _ _ ((k.same A).put undef (g5 y d)) ?_ x
     intro p z;cases I:calm P o
     .rw [I]at z;exact j p (fM.1 z).1
     grind
   .rename_i W A;have D:=tt k L A;refine yB y d C (λ_ _ _=>rfl) j (by simp[dv,q,D]) ?_;refine next _ _ _ _ (k.put undef (g5 y d)) ?_ h
    intro p z;cases I:calm P o
    .rw [I]at z;exact j p (fM.1 z).1
    grind
   grind
def aaw(B:eg n ops=true){i:Nat}{o:Oper}{E:Env}{w:J}{H:eQ}{a:Act}{F:Env->J->eQ->Prop}{O:Array Bool}{fuel:Nat}(d:ops[i]? =some o)(A:calm P o=false)(j:Ag n a E)(G:∀p∈H,p.2 w)(h:xM P ops i E w H F)(next:∀z L x D,Ag n z L->(∀p∈D,p.2 x)->F L x D->eN P ops (hU n K) fuel D (O.setIfInBounds i true) z x):
  wpOp P ops (hU n K) i (λz x=>(∀p∈dt ops i H,p.2 x)/\eN P ops (hU n K) fuel (dt ops i H) (O.setIfInBounds i true) z x) a w:=by
 unfold xM at h;rw[d]at h;simp only at h;have M:∀p∈dt ops i H,p.2 w:=λp S=>G p (fM.1 S).1;cases k:o.guard with
 |none=>
  rw[k]at h;simp only at h;exact UN B d A j (by simp[dv,k]) h next
 |some U=>
  obtain⟨T,want⟩:=U;rw[k]at h;simp only at h;cases I:kn ops T with
  |none=>grind
  |some Q=>
   rw[I]at h;simp only at h;split at h
   .rename_i t y;have C:=tq j I y;have q:mz P ops true i o Q want t E w H F:=by
     cases t
     .exact h
     .exact h
    unfold mz at q;cases N:(t==want)with
    |true=>
     rw[N]at q;exact UN B d A (j.same y) (by simp[dv,k,C];grind) q next
    |false=>
     rw[N,A]at q;simp only[cond_false]at q;exact HC d G (by simp[dv,k,C];grind) (next _ _ _ _ ((j.same y).put undef (g5 B d)) M q)
   .rename_i W y;have C:=tt j I y;rw[A]at h;simp only[cond_false]at h;exact HC d G (by simp[dv,k,C]) (next _ _ _ _ (j.put undef (g5 B d)) M h)
   grind
def Ie:∀(t:Tr) (h:Array Bool),iG P ops t true h=true->∃m,t.len=m+1
 |.nil,h,d=>by simp[iG]at d
 |.one i t,h,_=>⟨t.len,rfl⟩
 |.fork a b,h,d=>by unfold iG at d;simp only[bH]at d;exact Ie a h d.2.2.1
def Ic:∀(t:Tr) (h:Array Bool),iG P ops t true h=true->t.jJ≠[]
 |.nil,h,d=>by simp[iG]at d
 |.one i t,h,_=>by simp[Tr.jJ]
 |.fork a b,h,d=>by unfold iG at d;simp only[bH]at d;have:=Ic a h d.2.2.1;simp[Tr.jJ,this]
def yS(D:eg n ops=true):∀(t:Tr) (alt:Bool) (h:Array Bool) (E:Env) (w:J) (H:eQ) (a:Act) (m:Nat),iG P ops t alt h=true->Ag n a E->(∀p∈H,p.2 w)->pK P ops K t E w H->
  (alt=false->t.len=m->eN P ops (hU n K) m H h a w)/\
  (alt=true->t.len=m+1->∀i∈t.jJ,wpOp P ops (hU n K) i (λy q=>(∀p∈dt ops i H,p.2 q)/\eN P ops (hU n K) m (dt ops i H) (h.setIfInBounds i true) y q) a w)
 |.nil,alt,h,E,w,H,a,m,d,z,C,j=>by
  unfold iG at d;rw[bH]at d;refine⟨λ_ k=>?_,λe=>?_⟩
  .subst k;exact λ_=>⟨by grind,E,z,j⟩
  grind
 |.one i t,alt,h,E,w,H,a,m,d,z,C,j=>by
  unfold iG at d;rw[bH]at d;obtain⟨d,Y⟩:=d;cases S:ops[i]? with
  |none=>grind
  |some o=>
   rw[S]at d;simp only at d;unfold pK at j;refine⟨λe k=>?_,λe k ab hj=>?_⟩
   .subst e k;exact aav D S d z C j λy I q L M N O=>(yS D t false _ I q L y _ Y M N O).1 rfl rfl
   .subst e;rw[cond_true]at d;obtain rfl:=bY.1 hj;have Q:t.len=m:=by simpa[Tr.len]using k
    exact aaw D S (by grind) z C j λy I q L M N O=>(yS D t false _ I q L y _ Y M N O).1 rfl Q
 |.fork B G,alt,h,E,w,H,a,m,d,z,C,j=>by
  unfold iG at d;simp only[bH]at d;obtain⟨hr,U,T,hy⟩:=d;rw[eO]at U;unfold pK at j;have both:∀x,B.len=x+1->∀i∈(Tr.fork B G).jJ,wpOp P ops (hU n K) i (λy q=>(∀p∈dt ops i H,p.2 q)/\eN P ops (hU n K) x (dt ops i H) (h.setIfInBounds i true) y q) a w:=λx F i A=>by
   rcases aW.1 A with A|A
   .exact (yS D B true h E w H a x T z C j.1).2 rfl F i A
   .exact (yS D G true h E w H a x hy z C j.2).2 rfl (U▸F) i A
  refine⟨λe k=>?_,λ_ k=>both m k⟩;subst e;obtain⟨x,F⟩:=Ie B h T;have Q:m=x+1:=by rw[<-k,<-F];rfl
  subst Q;have W:e4 .any ops h=(Tr.fork B G).jJ:=by grind
  have aa:(Tr.fork B G).jJ≠[]:=by have:=Ic B h T;simp[Tr.jJ,this]
  exact λ_=>⟨λZ=>absurd (W▸Z) aa,λi A=>both x F i (W▸A)⟩
def aga{c:Code}{id:Nat}{a:Act}{E:Env}{w:J}{t:Tr}(z:P.follows .mixedOrders=true)(x:c=.region id ops true)(d:eg n ops=true)(y:iG P ops t false (hR ops.size false)=true)(B:t.len=ops.size)(q:Ag n a E)(h:pK P ops K t E w.drew []):c.wpIn (FW n) 0 P (hU n K) a w:=by subst x;have j:=(yS d t false _ E _ [] a _ y q (λp A=>(by cases A)) h).1 rfl B;have k:=Cj _ [] _ _ _ (Down.zero _ _) j;refine wpIn_region_draw λt=>?_;refine tm d (λ⟨_,_,h⟩=>h) _ _ _ ?_;simp only[Region.schedule,z,Bool.true_or,if_true];exact wpAny_sound ops.size t _ a _ k
def vA(P:aH)(n:Nat)(c:Code)(t:Tr):Bool:=match c with
 |.region _ ops d=>d&&(P.follows .mixedOrders&&(eg n ops&&(iG P ops t false (hR ops.size false)&&cg t.len ops.size)))
 |_=>false
def WP.tree{c:Code}{Q:Exit->Act->J->Prop}{E:Env}{w:J}(t:Tr)(K:Env->J->Prop)(d:vA P n c t=true)(h:pK P (Code.ops c) K t E w.drew [])(F:∀j q k,Ag n k j->K j q->Q .normal k q):WP P n c Q E w:=by
 unfold vA at d;split at d
 .rename_i id ops D;simp only[bH]at d;obtain⟨rfl,z,A,B,x⟩:=d;rw[eO]at x;exact λa C=>wpIn_mono (aga z rfl A B x C h) λe k q y=>by
   cases e with
   |normal=>obtain⟨j,hA,hK⟩:=y;grind
   |_=>exact y.elim
 grind
end
section
variable {P:aH}
def lo(r:Loop)(st:LoopState)(d:Option Code):Obj:=.loop {r with state:=st,pending:=d}
structure C'(r:Loop)(m:Nat)(ps:Array Tmp)(assign body:Code)(E:Env):Prop where
 ps:r.params=ps
 assign:r.assign=assign
 body:r.body=body
 size:r.tmps.size=m
 get:∀t v,E.get? t=some v->r.tmps[t]? =some v
def qK:Env->List Nat->List aa->Env
 |d,p::h,v::j=>qK ((p,v)::d) h j
 |d,_,_=>d
def Si{m l:Nat}:∀(ps:List Nat) (vs:List aa) (E:Env) (tmps:Array aa),tmps.size=m->(∀p∈ps,p<m)->(∀t v,E.get? t=some v->tmps[t]? =some v)->
  Ag ⟨m,[],some l⟩ {tmps:=(ps.zip vs).foldl (λt (p,v)=>t.setIfInBounds p v) tmps,defers:=[]} (qK E ps vs)
 |[],vs,E,tmps,j,_,h=>⟨rfl,by simpa using j,by cases vs<;>simpa[qK]using h⟩
 |p::ps,[],E,tmps,j,_,h=>⟨rfl,by simpa using j,by simpa[qK]using h⟩
 |p::ps,v::vs,E,tmps,j,k,h=>by simp only[List.zip_cons_cons,List.foldl_cons,qK];refine Si ps vs _ _ (by grind) (λw x=>k w (by grind)) ?_;have:=(Ag.put (n:=⟨m,[],some l⟩) (a:={tmps:=tmps,defers:=[]}) (E:=E) ⟨rfl,j,h⟩ (d:=some p) v (λt q=>by cases q;exact k p ws)).get;simpa[Env.put,Act.put]using this
def wb(P:aH)(l:Nat)(args:Array aa)(w:J)(K:Bool->J->Prop):Prop:=
 YieldAt Fence.wide 0 P l args w λe d=>∃b:Bool,e=ae (.bool b)/\K b d
def CY(P:aH)(m l:Nat)(r:Loop)(body:Code)(Q:Exit->Act->J->Prop):Exit->Act->J->Prop:=
 Exit.then (λa₁ d₁=>d₁.heap[l]? =some (lo r .ready none)/\fT P ⟨m,[],some l⟩ body Q a₁ (d₁.putObj l (lo r .busy none))) (λ_ _ _=>False)
def agf{m l:Nat}{r:Loop}{ps:Array Tmp}{assign body:Code}{E:Env}{args:List aa}{w:J}{R:cE->J->Prop}{K:Bool->J->Prop}(d:C' r m ps assign body E)(A:w.heap[l]? =some (lo r .ready none))(F:args.length=ps.size)(B:ps.toList.all (λp=>Nat.blt p m)=true)(y:∀e j,R e j->∃b:Bool,e=ae (.bool b)/\K b j)(h:WP P ⟨m,[],some l⟩ assign (CY P m l r body (roundPost P l R)) (qK E ps.toList args) w):wb P l args.toArray w K:=by
 have D:=run_yield (P:=P) (w:=w) (args:=args.toArray) A (by simp[d.ps,F]);refine⟨_,_,_,_,D,RoundIn.mono (roundIn_of_wpIn (R:=R) trivial ?_) y⟩;simp only[d.ps,d.assign,d.body];have z:Ag ⟨m,[],some l⟩ {tmps:=(ps.zip args.toArray).foldl (λt (p,v)=>t.setIfInBounds p v) r.tmps,defers:=[]} (qK E ps.toList args):=by have:=Si (m:=m) (l:=l) ps.toList args E r.tmps d.size (λp C=>by simpa using fa.1 B p C) d.get;rw[<-Array.foldl_toList];simpa using this
 refine wpIn_mono (h _ z) λe G j k=>?_;cases e with
 |normal=>
  obtain⟨q,x⟩:=k;exact⟨_,run_beginRound q rfl,x⟩
 |_=>exact k.elim
def adU{l:Nat}{r:Loop}{a:Act}{w:J}{R:cE->J->Prop}(d:w.heap[l]? =some (lo r .busy none))(h:R (ae (.bool true)) (w.putObj l (lo r .ready none))):roundPost P l R .normal a w:=
 ⟨_,_,run_endRound none d,h⟩
def adV{l:Nat}{r:Loop}{a:Act}{w:J}{R:cE->J->Prop}(d:w.heap[l]? =some (lo r .busy none))(h:R (ae (.bool false)) (w.putObj l (lo r .done (some .ret)))):roundPost P l R .ret a w:=
 ⟨_,_,run_endRound (some .ret) d,h⟩
abbrev marked(m D:Nat):Cx:=⟨m,[{target:=.collected D,args:=#[]}],none⟩
def zi(d:J)(l:Nat)(o:LoopState->Option Code->Obj)(N:J->Prop)(X:Nat->J->Prop)(T:J->Prop):Prop:=
 (d.heap[l]? =some (o .ready none)/\N (d.putObj l (o .exhausted none)))\/
 (∃id,d.heap[l]? =some (o .done (some (.exit id)))/\X id (d.putObj l (o .exhausted (some (.exit id)))))\/
 (d.heap[l]? =some (o .done (some .ret))/\T (d.putObj l (o .exhausted (some .ret))))
def WP.range{m:Nat}{c:Code}{g:Operand}{ps:Array Tmp}{assign body:Code}{gf:Nat}{lb:Array aa}{Q:Exit->Act->J->Prop}{E:Env}{w:J}(N:J->Prop)(X:Nat->J->Prop)(T:J->Prop)(K:c=.rangeFunc g ps assign body)(S:E.val g=some (.func (.func gf) #[] lb))(L:hG P gf=true)(G:∀d,N d->∀a,Ag (marked m w.heap.size) a E->Q .normal a d)(I:∀id d,X id d->∀a,Ag (marked m w.heap.size) a E->Q (.exit id) a d)(H:∀d,T d->∀a,Ag (marked m w.heap.size) a E->Q .ret a d)(h:∀r:Loop,C' r m ps assign body E->aj P gf (#[.func (.yield (w.heap.size+1)) #[] #[]]++lb) ((w.alloc (.deferred (some []))).alloc (lo r .ready none)) λe z=>(∃v,e=ae v)/\zi z (w.heap.size+1) (lo r) N X T):
  WP P (cx m) c Q E w:=by
 subst K;intro a j;have x:Ag (marked m w.heap.size) {a with defers:=[{target:=.collected w.heap.size,args:=#[]}]++a.defers} E:=⟨by show _++a.defers=_;rw[j.defers];rfl,j.size,j.get⟩;have U:a.eval g=.func (.func gf) #[] lb:=j.val S;refine wpIn_rangeFunc (F:=FW (cx m)) (n:=0) λfn _=>?_;obtain⟨r,y⟩:∃r:Loop,r={state:=.ready,pending:=none,fn,tmps:=a.tmps,params:=ps,assign,body,defers:=w.heap.size}:=⟨_,rfl⟩;have W:C' r m ps assign body E:=by subst y;exact⟨rfl,rfl,rfl,j.size,j.get⟩
 have M:=h r W;have A:(Instr.enterLoop fn a.tmps ps assign body none).run P w=.ok (w.heap.size+1,[{target:=.collected w.heap.size,args:=#[]}]) ((w.alloc (.deferred (some []))).alloc (lo r .ready none)):=by rw[run_enterLoop_outer];subst y;rfl
 generalize Y:(w.alloc (.deferred (some []))).alloc (lo r .ready none)=W1 at *;have B:(resolve a.eval (rangeCall g (w.heap.size+1)) 0).run P W1=.ok {target:=.fn (.func gf) lb,args:=#[.func (.yield (w.heap.size+1)) #[] #[]]} W1:=by simp only[resolve,U];simp[go_sem]
 have C:(invoke (.fn (.func gf) lb) #[.func (.yield (w.heap.size+1)) #[] #[]]).run P W1=.ok (.enter gf (#[.func (.yield (w.heap.size+1)) #[] #[]]++lb)) W1:=by simp[invoke,go_sem,wV L]
 have D:CallsIn (FW (cx m)) 0 P gf (#[.func (.yield (w.heap.size+1)) #[] #[]]++lb) W1 (rangePost (FW (cx m)) 0 P (w.heap.size+1) Q {a with defers:=[{target:=.collected w.heap.size,args:=#[]}]++a.defers}):=by
  refine JV (n:=cx m) (M.mono ?_);rintro e z ⟨⟨v,rfl⟩,O⟩;rcases O with⟨k,q⟩|⟨id,k,q⟩|⟨k,q⟩
  .exact ⟨_,_,run_endLoop (r:={r with state:=.ready,pending:=none}) k ws,G _ q _ x⟩
  .exact ⟨_,_,run_endLoop (r:={r with state:=.done,pending:=some (.exit id)}) k ws,wpIn_exit (I id _ q _ x)⟩
  .exact ⟨_,_,run_endLoop (r:={r with state:=.done,pending:=some .ret}) k ws,wpIn_ret (H _ q _ x)⟩
 exact⟨_,_,_,_,_,_,_,_,A,B,λ_ _=>trivial,C,λh=>(by cases h),D⟩
def Hl(P:aH)(fn:Func)(E:Env)(w:J)(D:Nat)(R:aJ):Prop:=
 w.heap[D]? =some (.deferred (some []))/\lW P fn E (w.putObj D (.deferred none)) λv=>R (ae v) (w.putObj D (.deferred none))
def M9{fn:Func}{tmps:Array aa}{R:cE->J->Prop}{w:J}{v:aa}(h:(results fn tmps).run P w=.ok v w)(d:R (ae v) w):LeavesInM Fence.wide 0 P fn tmps R [] .returning w:=by
 show LeavesIn _ _ _ _ _ _ _ _ _;simp only[LeavesIn]
 grind
def adN{m:Nat}{fn:Func}{a:Act}{E:Env}{w:J}{R:aJ}(d:Ag (cx m) a E)(h:lW P fn E w λv=>R (ae v) w):LeavesInM Fence.wide 0 P fn a.tmps R a.defers .returning w:=by obtain⟨v,j,k⟩:=Hk d h;rw[d.defers];exact M9 j k
def Hm{m D:Nat}{fn:Func}{a:Act}{E:Env}{w:J}{R:aJ}(d:Ag (marked m D) a E)(h:Hl P fn E w D R):LeavesInM Fence.wide 0 P fn a.tmps R a.defers .returning w:=by obtain⟨j,h⟩:=h;obtain⟨v,k,q⟩:=Hk (n:=marked m D) d h;rw[d.defers];exact⟨ws,.inl ⟨D,_,rfl,run_takeDeferred j,M9 k q⟩⟩
def YS{f:cW}{fn:Func}{c:Code}{args:List aa}{w:J}{R:cE->J->Prop}(j:P.funcs[f]? =some fn)(d:fn.body=some c)(k:Nat.ble args.length fn.ntmps=true)(h:WP P (cx fn.ntmps) c (bodyPostM Fence.wide 0 P fn R) (kS 0 args) w):aj P f args.toArray w R:=by
 have x:=Nat.le_of_ble_eq_true k;refine callsIn_wide.1 (callsIn_of_wp_marks (n:=0) j d trivial (h _ ⟨rfl,by grind,?_⟩));intro t v q;have:=(EA args 0 t v q).2
 grind
def Dr(v:Option aa)(K:Nat->Prop):Prop:=match v with |some (.func (.yield l) h d)=>cS (cg h.size 0&&cg d.size 0) (K l)|_=>False
def W7{v:Option aa}{K:Nat->Prop}(h:Dr v K):∃l,v=some (.func (.yield l) #[] #[])/\K l:=by
 unfold Dr at h;split at h
 .rename_i l k j;obtain⟨d,q⟩:=dZ h;simp only[bH,eO]at d
  grind
 grind
end
abbrev _root_.Go.Code.sn(c:Code):Code:=Code.snd c
abbrev _root_.Go.Code.fs(c:Code):Code:=Code.fst c
abbrev _root_.Go.Value.i(x:Int):aa:=.int .i64 x
abbrev _root_.Go.Value.u(x:Int):aa:=.int .u64 x
abbrev _root_.Go.Value.s0:aa:=.string (bh #[])
abbrev nb(w:J):Addr:=⟨w.heap.size,0,none⟩
section
variable {P:aH} {n:Cx} {Q:Exit->Act->J->Prop} {E:Env} {w:J} {K:Env->J->Prop}
def pC(P:aH)(c:Code)(K:Env->J->Prop)(E:Env)(w:J):Prop:=hq P (Code.ops c) false K (List.range (Code.ops c).size) E w []
def Ek(P:aH)(c:Code)(l:List Nat)(K:Env->J->Prop)(E:Env)(w:J):Prop:=hq P (Code.ops c) true K l E w.drew []
def tgK(P:aH)(c:Code)(t:Tr)(K:Env->J->Prop)(E:Env)(w:J):Prop:=pK P (Code.ops c) K t E w.drew []
abbrev dY(P:aH)(c:Code)(K:Env->J->Prop)(E:Env)(w:J):Prop:=pC P (Code.fst c) K E w
abbrev sdK(P:aH)(c:Code)(l:List Nat)(K:Env->J->Prop)(E:Env)(w:J):Prop:=Ek P (Code.fst c) l K E w
abbrev stK(P:aH)(c:Code)(t:Tr)(K:Env->J->Prop)(E:Env)(w:J):Prop:=tgK P (Code.fst c) t K E w
def u0:Code->Bool
 |.seq _ _=>true
 |_=>false
def yz{c:Code}(h:u0 c=true):c=.seq (Code.fst c) (Code.snd c):=by cases c<;>first |rfl|cases h
def qc{a b:Bool}(h:(a&&b)=true):a=true/\b=true:=by grind
def rg(c:Code)(q:sU n c=true)(h:pC P c K E w)(x:∀d k j,Ag n j d->K d k->Q .normal j k):WP P n c Q E w:=WP.qQ K q h x
def dg(c:Code){l:List Nat}(q:Bn P n c l=true)(h:Ek P c l K E w)(x:∀d k j,Ag n j d->K d k->Q .normal j k):WP P n c Q E w:=WP.draw l K q h x
def sr(c:Code)(h:dY P c K E w)(z:∀d j,K d j->WP P n (Code.snd c) Q d j)(k:(u0 c&&sU n (Code.fst c))=true:=by kernel_rfl):WP P n c Q E w:=
 WP.seq (yz (qc k).1) (WP.qQ K (qc k).2 h λd j q x y=>z d j y q x)
def sd(c:Code){l:List Nat}(k:(u0 c&&Bn P n (Code.fst c) l)=true)(h:sdK P c l K E w)(z:∀d j,K d j->WP P n (Code.snd c) Q d j):WP P n c Q E w:=
 WP.seq (yz (qc k).1) (WP.draw l K (qc k).2 h λd j q x y=>z d j y q x)
def st(c:Code){t:Tr}(k:(u0 c&&vA P n (Code.fst c) t)=true)(h:stK P c t K E w)(z:∀d j,K d j->WP P n (Code.snd c) Q d j):WP P n c Q E w:=
 WP.seq (yz (qc k).1) (WP.tree t K (qc k).2 h λd j q x y=>z d j y q x)
def sq(c:Code)(h:WP P n (Code.fst c) (Exit.then (fT P n (Code.snd c) Q) Q) E w)(d:u0 c=true:=by kernel_rfl):WP P n c Q E w:=WP.seq (yz d) h
def bk(c:Code)(id:Nat)(d:c=.block id (Code.fst c))(h:WP P n (Code.fst c) (Exit.inBlock id Q) E w):WP P n c Q E w:=WP.block d h
def cn(c:Code){o:Operand}{A B:Prop}(h:gX (E.val o) A B)(d:A->WP P n (Code.fst c) Q E w)(j:B->WP P n (Code.snd c) Q E w)(k:c=.cond o (Code.fst c) (Code.snd c):=by kernel_rfl):WP P n c Q E w:=WP.gX k d j h
def sk(c:Code)(h:∀a,Ag n a E->Q .normal a w)(d:c=.skip:=by kernel_rfl):WP P n c Q E w:=WP.skip d h
def xt(c:Code)(id:Nat)(d:c=.exit id)(h:∀a,Ag n a E->Q (.exit id) a w):WP P n c Q E w:=WP.exit d h
def rt(c:Code)(h:∀a,Ag n a E->Q .ret a w)(d:c=.ret:=by kernel_rfl):WP P n c Q E w:=WP.ret d h
def lp(c:Code)(d:c=.loop (Code.fst c))(h:LP P n (Code.fst c) Q E w):WP P n c Q E w:=WP.loop d h
def nx{c:Code}{a:Act}(d:Ag n a E)(h:WP P n c Q E w):Exit.then (fT P n c Q) Q .normal a w:=h a d
end
open Go.RowKit
structure Fr(M:Nat->Prop)(w Y:J):Prop where
 os:Y.os=w.os
 tape:Y.tape=w.tape
 output:Y.output=w.output
 size:w.heap.size<=Y.heap.size
 cC:∀b,b<w.heap.size->¬M b->Y.heap[b]? =w.heap[b]?
def Fr.refl(M:Nat->Prop)(w:J):Fr M w w:=⟨rfl,rfl,rfl,bm _,λ_ _ _=>rfl⟩
def Fr.trans{M q:Nat->Prop}{a b c:J}(h:Fr M a b)(k:Fr q b c)(x:∀d,d<a.heap.size->q d->M d):Fr M a c:=
 ⟨k.os.trans h.os,k.tape.trans h.tape,k.output.trans h.output,bz h.size k.size,
  λd j w=>(k.cC d (mT j h.size) (λe=>w (x d j e))).trans (h.cC d j w)⟩
def Fr.mono{M j:Nat->Prop}{a b:J}(h:Fr M a b)(q:∀d,d<a.heap.size->M d->j d):Fr j a b:=
 ⟨h.os,h.tape,h.output,h.size,λd k w=>h.cC d k (λe=>w (q d k e))⟩
def Fr.drew(M:Nat->Prop)(w:J):Fr M w w.drew:=⟨rfl,rfl,rfl,bm _,λ_ _ _=>rfl⟩
def Fr.alloc(M:Nat->Prop)(w:J)(o:Obj):Fr M w (w.alloc o):=⟨rfl,rfl,rfl,ws,λh d _=>_root_.Go.heap_alloc_old w o h d⟩
def Fr.set{M:Nat->Prop}(w:J)(p:Addr)(v:aa)(h:M p.block):Fr M w (w.setCell p v):=
 ⟨rfl,rfl,rfl,by simp[World.setCell],λj _ d=>Below.heap_setCell w p v j (λe=>d (e▸h))⟩
def Fr.grown{M:Nat->Prop}{w Y:J}{r:Option Nat}(h:w.grownBy Y r)(j:∀b,r=some b->M b):Fr M w Y:=
 ⟨h.os,h.tape,h.output,h.size,λb d k=>h.block b d (λe=>k (j b e.symm))⟩
def Fr.setObj{M:Nat->Prop}(w:J)(r:Nat)(o:Obj)(h:M r):Fr M w {w with heap:=w.heap.setIfInBounds r o}:=
 ⟨rfl,rfl,rfl,ws,λj _ d=>by grind⟩
def Fr.below{w Y:J}(h:Fr (λ_=>False) w Y):Below w.heap.size w Y:=⟨h.os,h.tape,h.output,h.size,λj d=>h.cC j d (λe=>e)⟩
def Fr.at{M:Nat->Prop}{w Y:J}(h:Fr M w Y){b:Nat}{o:Obj}(d:w.heap[b]? =some o)(j:¬M b):Y.heap[b]? =some o:=
 (h.cC b (Array.getElem?_eq_some_iff.1 d).1 j).trans d
def lt_of_heap{w:J}{b:Nat}{o:Obj}(d:w.heap[b]? =some o):b<w.heap.size:=(Array.getElem?_eq_some_iff.1 d).1
def kU(w:J)(o:Obj):(w.alloc o).heap[w.heap.size]? =some o:=_root_.Go.heap_alloc_new w o
def size_alloc(w:J)(o:Obj):(w.alloc o).heap.size=w.heap.size+1:=ws
def cellAt{w:J}{p:Addr}{cs:Array aa}{T:aC}{f:Nat×Nat}{i:Nat}{v:aa}(h:w.heap[p.block]? =some (.cells cs T f))(j:p.spot=none)(hi:cs[p.off+i]? =some v):
  w.cell? (p.add i)=some v:=by
 unfold Addr.add;split
 .rename_i d;subst d;simp[World.cell?,h,j];omega
 .simp [World.cell?,h,hi]
def frozenAt{w:J}{p:Addr}{cs:Array aa}{T:aC}{i:Nat}(h:w.heap[p.block]? =some (.cells cs T (0,0))):w.frozen? (p.add i)=false:=by unfold Addr.add;split<;>simp[World.frozen?,h]
def setAt{w:J}{p:Addr}{cs:Array aa}{T:aC}{f:Nat×Nat}{i:Nat}{v:aa}(h:w.heap[p.block]? =some (.cells cs T f))(q:p.spot=none):
  (w.setCell (p.add i) v).heap[p.block]? =some (.cells (cs.setIfInBounds (p.off+i) v) T f):=by
 have d:(p.add i).block=p.block:=by unfold Addr.add;grind
 have k:(p.add i).spot=none:=by unfold Addr.add;grind
 have j:(p.add i).off=p.off+i:=by unfold Addr.add;grind
 simp[World.setCell,d,h,k,j,Array.getElem?_modify]
def jG(p:Addr)(i:Nat):(p.add i).block=p.block:=by unfold Addr.add;grind
def ax(s:Sl):List Nat:=match s.a with |some p=>[p.block]|none=>[]
def Row(w:J)(T:aC)(s:Sl)(vs:List aa):Prop:=
 (s.a=none/\s.n=0/\s.c=0/\vs=[])\/∃b o d f,s.a=some ⟨b,o,none⟩/\w.heap[b]? =some (.cells d T f)/\∀i v,vs[i]? =some v->d[o+i]? =some v
def Row.lt{w:J}{T:aC}{s:Sl}{vs:List aa}(h:Row w T s vs):∀b∈ax s,b<w.heap.size:=by
 rcases h with⟨d,_⟩|⟨b,o,j,f,d,k,q⟩
 .simp [ax,d]
 .simp [ax,d];grind
def Row.cell{w:J}{T:aC}{s:Sl}{vs:List aa}{i:Nat}{v:aa}(h:Row w T s vs)(hi:vs[i]? =some v):∃p,s.a=some p/\w.cell? (p.add i)=some v:=by
 rcases h with⟨_,_,_,rfl⟩|⟨b,o,q,f,d,j,k⟩
 .cases hi
 .exact ⟨_,d,cellAt (p:=⟨b,o,none⟩) j rfl (k i v hi)⟩
def aF(w:J)(e:aC)(sz:Nat)(s:Sl)(xs:List aa):Prop:=w.ownsRow 0 e sz s.v s.n xs
def aF.nil(w:J)(e:aC)(sz:Nat):aF w e sz ⟨none,0,0⟩ []:=World.ownsRow_nil w 0 e sz
def aF.len{w:J}{e:aC}{sz:Nat}{s:Sl}{xs:List aa}(h:aF w e sz s xs):xs.length=s.n *sz:=h.1
def aF.cases{w:J}{e:aC}{sz:Nat}{s:Sl}{xs:List aa}(h:aF w e sz s xs):
  (s=⟨none,0,0⟩/\xs=[])\/∃g cur,s.a=some ⟨g,0,none⟩/\w.heap[g]? =some (.cells cur e (0,0))/\s.n<=s.c/\s.c<=maxLen/\cur.size=s.c *sz/\cur.toList.take (s.n *sz)=xs:=by
 obtain⟨a,n,c⟩:=s;obtain⟨z,h⟩:=h;rcases h with⟨d,j⟩|⟨g,cap,cur,d,_,j,k,q,x,y⟩
 .cases d
  grind
 grind
def aF.row{w:J}{e:aC}{sz:Nat}{s:Sl}{xs:List aa}(h:aF w e sz s xs):Row w e s xs:=by
 rcases h.cases with⟨rfl,rfl⟩|⟨g,cur,d,j,_,_,_,q⟩
 .exact .inl ⟨rfl,rfl,rfl,rfl⟩
 .refine .inr ⟨g,0,cur,(0,0),d,j,λi v k=>?_⟩
  grind
def aF.cC{w Y:J}{e:aC}{sz:Nat}{s:Sl}{xs:List aa}(h:aF w e sz s xs)(x:∀b∈ax s,b<w.heap.size->Y.heap[b]? =w.heap[b]?):aF Y e sz s xs:=by
 obtain⟨y,h⟩:=h;refine⟨y,?_⟩;rcases h with h|⟨g,cap,cur,d,k,j,r⟩
 .grind
 .have q:s.a=some ⟨g,0,none⟩:=(Value.slice.inj d).1;exact .inr ⟨g,cap,cur,d,k,(x g (by simp[ax,q]) (lt_of_heap j)).trans j,r⟩
def aF.fr{M:Nat->Prop}{w Y:J}{e:aC}{sz:Nat}{s:Sl}{xs:List aa}(h:aF w e sz s xs)(j:Fr M w Y)(q:∀b∈ax s,¬M b):aF Y e sz s xs:=
 h.cC λb d k=>j.cC b k (q b d)
def aF.lt{w:J}{e:aC}{sz:Nat}{s:Sl}{xs:List aa}(h:aF w e sz s xs):∀b∈ax s,b<w.heap.size:=h.row.lt
def aF.made(w:J)(e:aC)(sz n:Nat)(cs:List aa)(d:cs.length=n *sz)(h:n<=maxLen):aF (w.alloc (.cells cs.toArray e)) e sz ⟨some ⟨w.heap.size,0,none⟩,n,n⟩ cs:=
 ⟨d,.inr ⟨w.heap.size,n,cs.toArray,rfl,dI _,kU w _,bm _,h,co,by grind⟩⟩
def Row.made(w:J)(e:aC)(n c:Nat)(cs:List aa):Row (w.alloc (.cells cs.toArray e)) e ⟨some ⟨w.heap.size,0,none⟩,n,c⟩ cs:=
 .inr ⟨w.heap.size,0,cs.toArray,(0,0),rfl,kU w _,λi v d=>by grind⟩
def RP(s:Sl):s.v.ownBlock=s.a.map (·.block):=by obtain⟨a,n,c⟩:=s;cases a<;>rfl
structure gW(P:aH)(t e:aC)(z:aa)(sz bytes:Nat):Prop where
 ht:P.underlying t=some (.slice e)
 hi:(P.info? e).map (λi=>(i.zero,i.size,i.bytes))=some (some z,sz,bytes)
 hz:z.cells.size=sz
 hs:0<sz
 hb:0<bytes
def Row.v3{w:J}{T:aC}{s:Sl}{vs:List aa}(h:Row w T s vs):∀b∈ax s,∃j f,w.heap[b]? =some (.cells j T f):=by
 rcases h with⟨d,_⟩|⟨b,o,j,f,d,x,z⟩
 .simp [ax,d]
 .intro k q;have y:k=b:=by simpa[ax,d]using q
  grind
def tN(kd:ik)(es:Array MapEntry)(ms:List (Int×aa)):Prop:=es.toList.map (λe=>(e.key,e.val))=ms.map λp=>(Value.int kd p.1,p.2)
def lO(ms:List (Int×aa))(k:Int):Option aa:=(ms.find? λp=>p.1==k).map (·.2)
def EM{kd:ik}{k:Int}:∀{es:List MapEntry} {ms:List (Int×aa)} {i:Nat},es.map (λe=>(e.key,e.val))=ms.map (λp=>(Value.int kd p.1,p.2))->
  Instr.findNow (.int kd) (.int kd k) es i=some ((ms.findIdx? λp=>p.1==k).bind λh=>(ms[h]?).map λp=>(i+h,p.2))
 |[],[],i,_=>rfl
 |[],_::_,_,d=>by grind
 |_::_,[],_,d=>by grind
 |e::es,p::ms,i,d=>by
  simp only[List.map_cons,List.cons.injEq,Prod.mk.injEq]at d;obtain⟨⟨w,z⟩,x⟩:=d;have y:=EM (kd:=kd) (k:=k) (i:=i+1) x;unfold Instr.findNow;simp only[w,Instr.sameNow,if_true];by_cases B:p.1=k
  .grind
  .have j:(k==p.1)=false:=by grind
   have q:(p.1==k)=false:=by grind
   simp only[j,y,List.findIdx?_cons,q,Bool.false_eq_true,if_false];congr 1;cases A:ms.findIdx? (λp=>p.1==k)with
   |none=>simp
   |some h=>grind
def ND{ms:List (Int×aa)}{k:Int}{i:Nat}:(((ms.findIdx? λp=>p.1==k).bind λd=>(ms[d]?).map λp=>(i+d,p.2)).map (·.2))=lO ms k:=by
 unfold lO;induction ms generalizing i with
 |nil=>rfl
 |cons p ms j=>
  by_cases w:p.1=k
  .grind
  .have h:(p.1==k)=false:=by grind
   simp only[List.findIdx?_cons,h,Bool.false_eq_true,if_false,List.find?_cons];rw[<-j (i:=i+1)];cases q:ms.findIdx? (λp=>p.1==k)with
   |none=>simp
   |some d=>grind
structure CU(P:aH)(T kt et:aC)(kd:ik)(z:aa):Prop where
 hT:P.underlying T=some (.map kt et)
 hk:P.underlying kt=some (.int kd)
 hz:(P.info? et).map (·.zero)=some (some z)
def JY{P:aH}{d:aC}{kd:ik}(h:P.underlying d=some (.int kd))(b:Bool)(k:Int)(w:J):(Instr.checkKey b 10000 d (.int kd k)).run P w=.ok () w:=by unfold Instr.checkKey;simp[run_underlying h]
def We{P:aH}{d:aC}{z:aa}(j:(P.info? d).map (·.zero)=some (some z))(w:J):(zeroValue d).run P w=.ok z w:=by obtain⟨i,h,k⟩:=Option.map_eq_some_iff.1 j;simp[zeroValue,typeInfo,h,k]
def abZ{P:aH}{T H C:aC}{kd:ik}{z:aa}(q:CU P T H C kd z){w:J}{d:Nat}{es:Array MapEntry}{clock:Nat}{ms:List (Int×aa)}(j:w.heap[d]? =some (.map es clock))(A:tN kd es ms)(k:Int)(v:aa)(F:lO ms k=none):
  ∃h x,(Instr.mapUpdate T (.map (some d)) (.int kd k) v).run P w=.ok () h/\h.heap[d]? =some (.map x (clock+1))/\tN kd x (ms++[(k,v)])/\Fr (λb=>b=d) w h/\h.heap.size=w.heap.size:=by
 have D:=EM (k:=k) (i:=0) A;have E:(getObj d).run P w=.ok (.map es clock) w:=by simp[getObj,Sem.run,j]
 have y:=ND (ms:=ms) (k:=k) (i:=0);have I:=lt_of_heap j;have G:((ms.findIdx? λp=>p.1==k).bind λB=>(ms[B]?).map λp=>(0+B,p.2))=none:=by rw[F]at y;simpa using y
 refine⟨{w with heap:=w.heap.setIfInBounds d (.map (es.push {key:=.int kd k,val:=v,born:=clock}) (clock+1))},es.push {key:=.int kd k,val:=v,born:=clock},?_,by grind,?_,Fr.setObj w d _ rfl,ws⟩
 .unfold Instr.mapUpdate Instr.findKey;simp only[Sem.run_bind,run_underlying q.hT,Result.andThen_ok,E,JY q.hk,run_underlying q.hk,D,G];simp[setObj,Sem.run,j]
 .unfold tN at A ⊢
  grind
def Ny{P:aH}{t e:aC}{z:aa}{sz bytes:Nat}(h:gW P t e z sz bytes)(w:J)(n:Nat)(C:n *bytes<=140737488355328):
  ∃d,(Instr.makeSlice t (.int .i64 (n:Int)) (.int .i64 (n:Int))).run P w=.ok (.slice (some ⟨w.heap.size,0,none⟩) n n) d/\aF d e sz ⟨some ⟨w.heap.size,0,none⟩,n,n⟩ (madeCells z.cells (n *sz)).toList/\Fr (λ_=>False) w d:=by
 obtain⟨i,y,B,A,D⟩:=info_parts h.hi;have E:n<=140737488355328:=by have:=Nat.le_mul_of_pos_right n h.hb;omega
 obtain⟨d,k,q,x⟩:=run_make_full (P:=P) w 0 t e i z sz h.ht y B A .i64 .i64 n (by grind) (by unfold maxLen;omega) (dI _);exact⟨d,k,q,Fr.grown x λ_ j=>by cases j⟩
def abY(z:aa)(n:Nat)(h:z.cells=#[z]):(madeCells z.cells (n *1)).toList=List.replicate n z:=by
 rw[h];apply List.ext_getElem?;intro i;by_cases d:i<n
 .simp [madeCells,d,Nat.mod_one]
 .simp [madeCells,d]
abbrev af(w Y:J):Prop:=Fr (λ_=>False) w Y
abbrev ab(b:Nat):Addr:=⟨b,0,none⟩
def cq(b:UInt8):aa:=.int .u8 (b.toNat:Int)
def aY(n:Int):aa:=.int .i64 n
def zA(bs:List UInt8):∀u∈bs.map cq,u.oneCell'=true:=by intro u d;obtain⟨b,_,rfl⟩:=bK.1 d;rfl
def r9(l:List Int):∀u∈l.map aY,u.oneCell'=true:=by intro u d;obtain⟨b,_,rfl⟩:=bK.1 d;rfl
def Fr.dN{M:Nat->Prop}{a b c:J}(h:Fr M a b)(k:af b c):Fr M a c:=h.trans k λ_ _ h=>h.elim
def Fr.po{M:Nat->Prop}{a b:J}(h:af a b):Fr M a b:=h.mono λ_ _ h=>h.elim
def Fr.VE{M:Nat->Prop}{a b c:J}(h:af a b)(k:Fr M b c)(q:∀d,M d->a.heap.size<=d):af a c:=h.trans k λd w j=>by grind
def o0{w:J}{p:Addr}{v:aa}(d:w.cell? p=some v):p.block<w.heap.size:=by
 unfold World.cell? at d
 grind
def wX{M:Nat->Prop}{w Y:J}(h:Fr M w Y){p:Addr}{v:aa}(d:w.cell? p=some v)(j:¬M p.block):Y.cell? p=some v:=by
 have:=h.cC p.block (o0 d) j;unfold World.cell? at d ⊢
 grind
def add_add(p:Addr)(i j:Nat):(p.add i).add j=p.add (i+j):=by
 unfold Addr.add
 grind
def jg(p:Addr):p.add 0=p:=by simp[Addr.add]
def fg(w:J)(s:Sl)(vs:List aa):Prop:=(s.a=none->s.n=0/\s.c=0)/\∀i v,vs[i]? =some v->∃p,s.a=some p/\w.cell? (p.add i)=some v
def fg.nil(w:J):fg w ⟨none,0,0⟩ []:=⟨λ_=>⟨rfl,rfl⟩,λi v d=>by grind⟩
def Row.uu{w:J}{T:aC}{s:Sl}{vs:List aa}(h:Row w T s vs):fg w s vs:=by
 refine⟨λx=>?_,λi v d=>h.cell d⟩;rcases h with⟨_,k,q,_⟩|⟨b,o,j,f,y,_⟩
 .omega
 grind
def fg.fr{M:Nat->Prop}{w Y:J}{s:Sl}{vs:List aa}(h:fg w s vs)(k:Fr M w Y)(x:∀b∈ax s,¬M b):fg Y s vs:=
 ⟨h.1,λi v q=>by obtain⟨p,d,j⟩:=h.2 i v q;exact⟨p,d,wX k j (by rw[jG];exact x _ (by simp[ax,d]))⟩⟩
def fg.get{w:J}{s:Sl}{vs:List aa}(h:fg w s vs){i j:Nat}{v:aa}(hi:vs[i]? =some v)(d:j=i *1){K:Addr->Prop}(x:∀p,s.a=some p->w.cell? (p.add j)=some v->K p):W.dV s.a K:=by obtain⟨p,k,q⟩:=h.2 i v hi;rw[k];rw[Nat.mul_one]at d;subst d;exact x p k q
def sub(s:Sl)(l h:Nat):Sl:=⟨if s.c=l then s.a else s.a.map (·.add (l *1)),h - l,s.c - l⟩
def fg.sub{w:J}{s:Sl}{vs:List aa}(h:fg w s vs)(l hi:Nat)(z:vs.length<=s.n)(A:s.n<=s.c)(C:l<=hi)(B:hi<=s.c):fg w (sub s l hi) ((vs.take hi).drop l):=by
 refine⟨λd=>?_,λi v j=>?_⟩
 .have:s.a=none:=by
   unfold W.sub at d;simp only at d;split at d
   .exact d
   .simpa using d
  obtain⟨x,y⟩:=h.1 this;unfold W.sub
  grind
 .rw [List.getElem?_drop,List.getElem?_take]at j;split at j
  .rename_i D;obtain⟨p,q,k⟩:=h.2 _ _ j;have hlen:=(cV.1 j).1;unfold W.sub;simp only[q];rw[ag co];exact⟨_,rfl,by rw[add_add,Nat.mul_one];exact k⟩
  grind
def zt{P:aH}{t ty e:aC}{z:aa}{sz bytes:Nat}(h:gW P t e z sz bytes){w:J}{s src:Sl}{xs news:List aa}(F:aF w e sz s xs)(hr:fg w src news)(y:news.length=src.n *sz)(j:∀u∈news,u.oneCell'=true)(D:(s.n+src.n) *bytes<=140737488355328):
  ∃d B,(eu #[t,t] ty #[s.v,src.v]).run P w=.ok d.v B/\aF B e sz d (xs++news)/\d.n=s.n+src.n/\Fr (λb=>b∈ax s) w B/\
   (∀b∈ax d,b∈ax s\/w.heap.size<=b)/\(d.a=none->s.a=none/\src.n=0):=by
 obtain⟨i,E,S,L,W⟩:=info_parts h.hi;have U:s.n+src.n<=140737488355328:=by have:=Nat.le_mul_of_pos_right (s.n+src.n) h.hb;omega
 obtain⟨sa,A,M⟩:=src;cases sa with
 |none=>
  obtain⟨k,H⟩:=hr.1 rfl;simp only at k H;subst k H;have ab:news=[]:=List.eq_nil_of_length_eq_zero (by grind);subst ab;have:=run_append_owned_none (P:=P) (w:=w) 0 t ty e i sz h.ht E s.v s.n xs F;exact⟨s,w,this,by grind,ws,Fr.refl _ _,λb D=>.inl D,λO=>⟨O,rfl⟩⟩
 |some G=>
  simp only at y D U;have I:∀x u,news[x]? =some u->w.cell? (G.add x)=some u:=λx u hj=>by
   obtain⟨p,hp,hc⟩:=hr.2 x u hj
   grind
  obtain⟨v',B,K,aj,ag,ab⟩:=run_append_own (P:=P) w 0 t ty e i z sz bytes h.ht E S L W h.hz h.hs s.v s.n xs F G A M news y I j (by unfold maxLen;omega) D (dI _);have hv:∃d:Sl,v'=d.v/\d.n=s.n+A/\(d.a=none->v'=.slice none 0 0):=by
   rcases aj.2 with⟨j,h2⟩|⟨g,cap,cur,j,_⟩
   .grind
   .exact ⟨⟨_,_,_⟩,j,rfl,λO=>by cases O⟩
  obtain⟨d,rfl,ah,aq⟩:=hv;refine⟨d,B,K,?_,ah,?_,?_,?_⟩
  .unfold aF;grind
  .refine Fr.grown ag λg q=>?_;rw[RP]at q;cases ad:s.a with
   |none=>grind
   |some p=>simp[ad]at q;simp[ax,ad,q]
  .intro g q;rcases F.cases with⟨rfl,rfl⟩|⟨C,cur,Z,af,ai,ap,Y,am⟩
   .obtain ⟨v2,w2,al,ak,_,_⟩:=run_append_own (P:=P) w w.heap.size t ty e i z sz bytes h.ht E S L W h.hz h.hs (.slice none 0 0) 0 [] (World.ownsRow_nil w _ e sz) G A M news y I j (by unfold maxLen;omega) co (bm _);have k:(Result.ok d.v B:Result aa)=.ok v2 w2:=K.symm.trans al;have H:=(Result.ok.inj k).1;subst H;rcases ak.2 with⟨j,_⟩|⟨g2,an,ao,j,h2,_⟩
    .have:d.a=none:=(Value.slice.inj j).1;simp[ax,this]at q
    .have:d.a=some ⟨g2,0,none⟩:=(Value.slice.inj j).1;simp[ax,this]at q;omega
   .obtain ⟨ar,N,T⟩:=s;simp only at Z ai Y am D U;subst Z;by_cases ac:N+A<=T
    .subst L;have ae:N *i.size+news.length<=cur.size:=by rw[y,Y,<-Nat.add_mul];exact pS _ ac
     have Q:=run_append_room (P:=P) w t ty e i h.ht E C N T cur af G A M news y I j ac ae;have k:=K.symm.trans Q;have:d.a=some ⟨C,0,none⟩:=(Value.slice.inj (Result.ok.inj k).1).1;simp[ax,this]at q ⊢;omega
    .subst L;have holds:∀x u,xs[x]? =some u->w.cell? ((⟨C,0,none⟩:Addr).add x)=some u:=World.ownsRow.cells (g:=C) F rfl;have Q:=run_append_grow (P:=P) w t ty e i z h.ht E S ⟨C,0,none⟩ N T xs F.len holds G A M news y I co co (growslice_fits co (by grind));have k:=K.symm.trans Q;have:d.a=some ⟨w.heap.size,0,none⟩:=(Value.slice.inj (Result.ok.inj k).1).1;simp[ax,this]at q;omega
  grind
def aF.cap{w:J}{e:aC}{sz:Nat}{s:Sl}{xs:List aa}(h:aF w e sz s xs):s.n<=s.c:=by
 rcases h.cases with⟨rfl,_⟩|⟨g,cur,_,_,h,_⟩
 .grind
 omega
def Rd(w:J)(s:Sl)(vs:List aa):Prop:=s.n=vs.length/\s.n<=s.c/\fg w s vs
def Ow(w:J)(e:aC)(s:Sl)(vs:List aa):Prop:=s.n=vs.length/\aF w e 1 s vs
def Ow.rd{w:J}{e:aC}{s:Sl}{vs:List aa}(h:Ow w e s vs):Rd w s vs:=⟨h.1,h.2.cap,h.2.row.uu⟩
def Rd.fr{M:Nat->Prop}{w Y:J}{s:Sl}{vs:List aa}(h:Rd w s vs)(d:Fr M w Y)(j:∀b∈ax s,¬M b):Rd Y s vs:=⟨h.1,h.2.1,h.2.2.fr d j⟩
def Ow.fr{M:Nat->Prop}{w Y:J}{e:aC}{s:Sl}{vs:List aa}(h:Ow w e s vs)(d:Fr M w Y)(j:∀b∈ax s,¬M b):Ow Y e s vs:=⟨h.1,h.2.fr d j⟩
def Rd.br{w Y:J}{s:Sl}{vs:List aa}(h:Rd w s vs)(d:af w Y):Rd Y s vs:=h.fr d λ_ _ h=>h
def Ow.br{w Y:J}{e:aC}{s:Sl}{vs:List aa}(h:Ow w e s vs)(d:af w Y):Ow Y e s vs:=h.fr d λ_ _ h=>h
def Rd.nil(w:J):Rd w ⟨none,0,0⟩ []:=⟨rfl,bm _,fg.nil w⟩
def Ow.nil(w:J)(e:aC):Ow w e ⟨none,0,0⟩ []:=⟨rfl,aF.nil w _ _⟩
def Ow.lt{w:J}{e:aC}{s:Sl}{vs:List aa}(h:Ow w e s vs):∀b∈ax s,b<w.heap.size:=h.2.lt
def Ow.made(w:J)(e:aC)(cs:List aa)(n:Nat)(d:n=cs.length)(h:n<=1000000):Ow (w.alloc (.cells cs.toArray e)) e ⟨some ⟨w.heap.size,0,none⟩,n,n⟩ cs:=
 ⟨d,aF.made w e 1 n cs co (by unfold maxLen;omega)⟩
def Rd.get{w:J}{s:Sl}{vs:List aa}(h:Rd w s vs){i j:Nat}{v:aa}(hi:vs[i]? =some v)(d:j=i *1){K:Addr->Prop}(k:∀p,s.a=some p->w.cell? (p.add j)=some v->K p):W.dV s.a K:=h.2.2.get hi d k
def Rd.sub{w:J}{s:Sl}{vs:List aa}(h:Rd w s vs)(l hi:Nat)(d:l<=hi)(q:hi<=vs.length):Rd w (sub s l hi) ((vs.take hi).drop l):=by
 have j:=h.1;have k:=h.2.1;refine⟨?_,?_,h.2.2.sub l hi co h.2.1 d co⟩
 .unfold W.sub;grind
 .unfold W.sub;grind
def I1{t ty e:aC}{z:aa}{bytes:Nat}{P:aH}(y:gW P t e z 1 bytes){w:J}{s src:Sl}{xs ys:List aa}(k:Ow w e s xs)(h:Rd w src ys)(F:∀u∈ys,u.oneCell'=true)(G:(xs.length+ys.length) *bytes<=140737488355328):
  ∃d j,(eu #[t,t] ty #[s.v,src.v]).run P w=.ok d.v j/\Ow j e d (xs++ys)/\Fr (λb=>b∈ax s) w j/\(∀b∈ax d,b∈ax s\/w.heap.size<=b)/\(d.a=none->s.a=none/\ys=[]):=by
 obtain⟨d,j,A,B,C,D,E,q⟩:=zt (ty:=ty) y k.2 h.2.2 (by rw[h.1];omega) F (by rw[k.1,h.1];exact G);refine⟨d,j,A,⟨?_,B⟩,D,E,λx=>⟨(q x).1,?_⟩⟩
 .rw [C,k.1,h.1];simp
 .have:=(q x).2;rw[h.1]at this
  grind
def EO{α:Type}(f:α->List aa)(sz:Nat)(h:∀a,(f a).length=sz):∀(cs:List α) (i j:Nat) (a:α),cs[i]? =some a->j<sz->(cs.flatMap f)[i *sz+j]? =(f a)[j]?
 |[],i,j,a,d,_=>by grind
 |c::cs,0,j,a,d,k=>by grind
 |c::cs,i+1,j,a,d,k=>by rw[cU,List.getElem?_append_right (by grind),h,show(i+1) *sz+j - sz=i *sz+j by grind];exact EO f sz h cs i j a (by grind) k
def qn{α:Type}(f:α->List aa)(sz:Nat)(d:∀a,(f a).length=sz)(cs:List α):(cs.flatMap f).length=cs.length *sz:=by
 induction cs with
 |nil=>simp
 |cons c cs h=>grind
def fg.elem{α:Type}{f:α->List aa}{sz:Nat}(k:∀a,(f a).length=sz)(A:0<sz){w:J}{s:Sl}{cs:List α}(h:fg w s (cs.flatMap f)){i:Nat}{a:α}(hi:cs[i]? =some a){K:Addr->Prop}(z:∀p,s.a=some p->(∀d v,(f a)[d]? =some v->w.cell? ((p.add (i *sz)).add d)=some v)->K p):W.dV s.a K:=by
 obtain⟨C,D⟩:∃v,(f a)[0]? =some v:=⟨_,a' (by grind)⟩;obtain⟨p,j,_⟩:=h.2 (i *sz+0) C (by rw[EO f sz k cs i 0 a hi A];omega);rw[j];refine z p j λd v B=>?_;have y:d<sz:=by grind
 obtain⟨E,q,x⟩:=h.2 (i *sz+d) v (by rw[EO f sz k cs i d a hi y];exact B);rw[j]at q;cases q;rw[add_add];exact x
def vI{w:J}{b:Nat}{cs:Array aa}{T:aC}(h:w.heap[b]? =some (.cells cs T (0,0)))(i:Nat)(hi:i<cs.size)(v:aa):
  (w.cell? ((ab b).add i)).isSome=true/\w.frozen? ((ab b).add i)=false/\(w.setCell ((ab b).add i) v).heap[b]? =some (.cells (cs.setIfInBounds i v) T (0,0))/\Fr (·=b) w (w.setCell ((ab b).add i) v):=by
 refine⟨?_,frozenAt (p:=ab b) h,?_,Fr.set _ _ _ (jG _ _)⟩
 .rw [cellAt (p:=ab b) (v:=cs[i]) h rfl (by grind)];rfl
 .have:=setAt (p:=ab b) (i:=i) (v:=v) h rfl
  grind
def Fr.put(w:J)(l:Nat)(o:Obj):Fr (·=l) w (w.putObj l o):=⟨rfl,rfl,rfl,by simp[World.putObj],λh _ d=>by have:l≠h:=λe=>d e.symm;simp[World.putObj,Array.getElem?_setIfInBounds_ne this]⟩
def ac8{w:J}{l:Nat}{x:Obj}(h:w.heap[l]? =some x)(o:Obj):(w.putObj l o).heap[l]? =some o:=by have:=lt_of_heap h;simp[World.putObj,this]
def Xe(x y:Nat)(h:x<18446744073709551616)(j:y<18446744073709551616):kN .u64 (x:Int) (y:Int)=((x&&& y:Nat):Int):=by
 unfold kN;have d:(e3 (IntKind.bits .u64) (x:Int)&&& e3 (IntKind.bits .u64) (y:Int)).toNat=x&&& y:=by
  show(e3 64 (x:Int)&&& e3 64 (y:Int)).toNat=_
  grind
 rw[d];have:x&&& y<=x:=Nat.and_le_left;exact IntWalk.u64_in _ co
def Xg(x y:Nat)(h:x<18446744073709551616)(j:y<18446744073709551616):nX .u64 (x:Int) (y:Int)=((x|||y:Nat):Int):=by
 unfold nX;have d:(e3 (IntKind.bits .u64) (x:Int)|||e3 (IntKind.bits .u64) (y:Int)).toNat=x|||y:=by
  show(e3 64 (x:Int)|||e3 64 (y:Int)).toNat=_
  grind
 rw[d];have:x|||y<2^64:=Nat.or_lt_two_pow h j
 exact IntWalk.u64_in _ co
def I7(x y:Nat)(h:x<18446744073709551616)(j:y<18446744073709551616):nY .u64 (x:Int) (y:Int)=((x^^^y:Nat):Int):=by
 unfold nY;have d:(e3 (IntKind.bits .u64) (x:Int)^^^e3 (IntKind.bits .u64) (y:Int)).toNat=x^^^y:=by
  show(e3 64 (x:Int)^^^e3 64 (y:Int)).toNat=_
  grind
 rw[d];have:x^^^y<2^64:=Nat.xor_lt_two_pow h j;exact IntWalk.u64_in _ co
def agd(x:Nat)(j:x<18446744073709551616):x^^^18446744073709551615=18446744073709551615 - x:=by
 have d:=BitVec.toNat_not (x:=BitVec.ofNat 64 x);have h:(~~~ (BitVec.ofNat 64 x))=BitVec.ofNat 64 x^^^BitVec.allOnes 64:=(BitVec.xor_allOnes).symm
 grind
def acN(n a i:Nat)(h:n<2^i):n|||(a *2^i)=n+a *2^i:=by rw[Nat.mul_comm a,Nat.or_comm,<-Nat.two_pow_add_eq_or_of_lt h,Nat.add_comm]
def acF(x:Int):BitVec.toInt (e3 64 x)=ah .i64 x:=by
 rw[BitVec.toInt_ofInt,IntKind.wrap_i64,show((2^64:Nat))=18446744073709551616 from rfl]
 grind
def Wc(b:BitVec 64):ah .i64 (b.toNat:Int)=b.toInt:=by
 rw[IntKind.wrap_i64,BitVec.toInt_eq_toNat_bmod,show((2^64:Nat))=18446744073709551616 from rfl]
 grind
def Xj(x:Int)(h:-9223372036854775808<=x/\x<=9223372036854775807):nY .i64 x 0=x:=by unfold nY;show ah .i64 ((e3 64 x^^^e3 64 0).toNat:Int)=x;rw[show e3 64 0=0#64 from rfl,BitVec.xor_zero,Wc,acF,IntWalk.i64_in _ h]
def Xi(x:Int)(h:-9223372036854775808<=x/\x<=9223372036854775807):nY .i64 x (-1)=-x - 1:=by
 unfold nY;show ah .i64 ((e3 64 x^^^e3 64 (-1)).toNat:Int)=_;rw[show e3 64 (-1)=BitVec.allOnes 64 from rfl,BitVec.xor_allOnes,Wc,BitVec.toInt_not,BitVec.toNat_ofInt,show((2^64:Nat))=18446744073709551616 from rfl]
 grind
def Xf(c:UInt8):kN .u8 (c.toNat:Int) 127=((c.toNat%128:Nat):Int):=by
 have h:∀d:Fin 256,kN .u8 (d.val:Int) 127=((d.val%128:Nat):Int):=by decide+kernel
 exact h ⟨c.toNat,c.toNat_lt⟩
def Xh(n:Nat)(h:n<256):nX .u8 (n:Int) 128=((n%128+128:Nat):Int):=by
 have j:∀d:Fin 256,nX .u8 (d.val:Int) 128=((d.val%128+128:Nat):Int):=by decide+kernel
 exact j ⟨n,h⟩
def Ii(n:Nat):ah .u8 (n:Int)=((n%256:Nat):Int):=by rw[IntKind.wrap_u8];omega
def v5(n:Nat)(h:n<18446744073709551616):ah .u64 (n:Int)=(n:Int):=IntWalk.u64_in _ co
def z9(n m:Nat)(h:0<m):Int.fdiv (n:Int) (m:Int)=((n / m:Nat):Int):=by grind
def bb(i:Nat)(h:i<9223372036854775807):ah .i64 ((i:Int)+1)=((i+1:Nat):Int):=by rw[IntWalk.i64_in _ co];omega
structure En where
 fp:List Nat
 P:J->Prop
 st:∀w Y,(∀b∈fp,b<w.heap.size->Y.heap[b]? =w.heap[b]?)->P w->P Y
 lt:∀w,P w->∀b∈fp,b<w.heap.size
 nd:fp.Nodup
def En.ob(b:Nat)(o:Obj):En:=⟨[b],λh=>h.heap[b]? =some o,λh q j d=>(j b ws (lt_of_heap d)).trans d,λh d w k=>by grind,ws⟩
abbrev En.c(b:Nat)(vs:List aa)(T:aC):En:=.ob b (.cells vs.toArray T (0,0))
def En.row(e:aC)(sz:Nat)(s:Sl)(vs:List aa):En:=⟨ax s,λj=>aF j e sz s vs,λ_ _ h d=>d.cC h,λ_ d=>d.lt,by unfold ax;grind⟩
def En.rd(s:Sl)(vs:List aa):En:=⟨if vs=[]then[]else ax s,λw=>Rd w s vs,λw A x d=>by
  refine⟨d.1,d.2.1,d.2.2.1,λi v z=>?_⟩;obtain⟨p,j,h⟩:=d.2.2.2 i v z;have q:vs≠[]:=λe=>by grind
  rw[ag q]at x;have:=x p.block (by simp[ax,j]) (by have:=o0 h;rwa[jG]at this);refine⟨p,j,?_⟩;unfold World.cell? at h ⊢;rw[jG]at h ⊢
  grind,λw d b k=>by
  split at k
  .cases k
  .rename_i q;have y:0<vs.length:=List.length_pos_iff.2 q;obtain⟨p,j,h⟩:=d.2.2.2 0 vs[0] (a' y);simp[ax,j]at k;subst k;have:=o0 h
   rwa[jG]at this,by split<;>(try simp);unfold ax;grind⟩
structure LH(M:Nat->Prop)(w0 w:J)(L D:List En):Prop where
 fr:Fr M w0 w
 own:∀e∈L,e.P w
 rd:∀e∈D,e.P w
 new:∀e∈L,∀b∈e.fp,w0.heap.size<=b\/M b
 nd:(L.flatMap (·.fp)).Nodup
 dj:∀e∈D,∀b∈e.fp,∀e'∈L,b∉e'.fp
def LH.start{M:Nat->Prop}{w:J}(D:List En)(h:∀e∈D,e.P w):LH M w w [] D:=⟨Fr.refl _ _,ws,h,ws,ws,ws⟩
def LH.s9{M:Nat->Prop}{w:J}(L D:List En)(j:∀e∈L,e.P w/\∀b∈e.fp,M b)(x:(L.flatMap (·.fp)).Nodup)(h:∀e∈D,e.P w/\∀b∈e.fp,∀k∈L,b∉k.fp):LH M w w L D:=
 ⟨Fr.refl _ _,λe d=>(j e d).1,λe d=>(h e d).1,λe d b q=>.inr ((j e d).2 b q),x,λe d=>(h e d).2⟩
def LH.br{M:Nat->Prop}{w0 w Y:J}{L D:List En}(H:LH M w0 w L D)(f:af w Y):LH M w0 Y L D:=
 ⟨H.fr.dN f,λe d=>e.st w Y (λb _ h=>f.cC b h id) (H.own e d),λe d=>e.st w Y (λb _ h=>f.cC b h id) (H.rd e d),H.new,H.nd,H.dj⟩
def LH.drew{M:Nat->Prop}{w0 w:J}{L D:List En}(H:LH M w0 w L D):LH M w0 w.drew L D:=H.br (Fr.drew _ _)
def Gv{α:Type}{f:α->List Nat}:∀{L:List α} {i:Nat} {e d:α},L[i]? =some e->(L.flatMap f).Nodup->(f d).Nodup->(∀j∈f d,j∈f e\/j∉L.flatMap f)->((L.set i d).flatMap f).Nodup
 |[],i,e,d,h,_,_,_=>by grind
 |a::L,0,e,d,h,k,q,w=>by grind
 |a::L,i+1,e,d,h,k,q,w=>by
  simp only[List.getElem?_cons_succ]at h;simp only[List.set_cons_succ,cU,ho]at k ⊢;refine⟨k.1,Gv h k.2.1 q (λj x=>(w j x).imp id λh y=>h (by grind)),λj x A z=>?_⟩
  grind
def LH.oq{M:Nat->Prop}{w0 w:J}{L D:List En}(H:LH M w0 w L D):∀b∈L.flatMap (·.fp),b<w.heap.size:=λb d=>by obtain⟨e,h,d⟩:=bX.1 d;exact e.lt w (H.own e h) b d
def n4{L:List En}(d:(L.flatMap (·.fp)).Nodup):∀{i:Nat} {e:En},L[i]? =some e->∀{j:Nat} {g:En},L[j]? =some g->i≠j->∀b∈e.fp,b∉g.fp:=by
 induction L with
 |nil=>grind
 |cons a L h=>
  simp only[cU,ho]at d
  grind
def LH.ha{M:Nat->Prop}{w0 w Y:J}{L D:List En}(H:LH M w0 w L D){e:En}(i:Nat)(k:En)(hi:L[i]? =some e)(f:Fr (·∈e.fp) w Y)(Q:k.P Y)(A:∀b∈k.fp,b∈e.fp\/w.heap.size<=b):LH M w0 Y (L.set i k) D:=by
 have x:=aG hi;have I:Fr M w0 Y:=H.fr.trans f λy F K=>(H.new e x y K).resolve_left co;refine⟨I,λg d=>?_,λg d=>?_,λg d b h=>?_,Gv hi H.nd k.nd λy F=>?_,λg d b h G B E=>?_⟩
 .obtain ⟨S,q⟩:=hO.1 d;rw[List.getElem?_set]at q;split at q
  .grind
  .rename_i N;refine g.st w Y (λb h C=>f.cC b C λz=>n4 H.nd hi q N b z h) (H.own g (aG q))
 .exact g.st w Y (λb h C=>f.cC b C λz=>H.dj g d b h e x z) (H.rd g d)
 .rcases List.mem_or_eq_of_mem_set d with d|rfl
  .exact H.new g d b h
  .rcases A b h with j|j
   .exact H.new e x b j
   .exact .inl (bz H.fr.size j)
 .rcases A y F with j|j
  .grind
  .exact .inr λO=>by have:=H.oq y O;omega
 .rcases List.mem_or_eq_of_mem_set B with B|rfl
  .exact H.dj g d b h G B E
  .rcases A b E with j|j
   .exact H.dj g d b h e x j
   .have:=g.lt w (H.rd g d) b h;omega
def LH.push{M:Nat->Prop}{w0 w Y:J}{L D:List En}(H:LH M w0 w L D)(e:En)(f:af w Y)(C:e.P Y)(z:∀b∈e.fp,w.heap.size<=b):LH M w0 Y (L++[e]) D:=by
 have k:=H.br f;refine⟨k.fr,λg d=>?_,k.rd,λg d b j=>?_,?_,λg d b j q h y=>?_⟩
 .rcases aW.1 d with d|d
  .exact k.own g d
  grind
 .rcases aW.1 d with d|d
  .exact H.new g d b j
  .simp at d;subst d;exact .inl (bz H.fr.size (z b j))
 .rw [List.flatMap_append,ho];refine⟨H.nd,by simpa using e.nd,λB A F E=>?_⟩;rintro rfl;have x:=H.oq B A
  grind
 .rcases aW.1 h with h|h
  .exact H.dj g d b j q h y
  .simp at h;subst h;have x:=g.lt w (H.rd g d) b j
   grind
def LH.alloc{M:Nat->Prop}{w0 w:J}{L D:List En}(H:LH M w0 w L D)(o:Obj):LH M w0 (w.alloc o) (L++[.ob w.heap.size o]) D:=
 H.push _ (Fr.alloc _ _ _) (kU w o) (λb d=>by simp[En.ob]at d;omega)
def LH.gz{M:Nat->Prop}{w0 w Y:J}{L D:List En}(H:LH M w0 w L D)(e:En)(f:af w Y)(G:e.P Y)(A:∀b∈e.fp,w.heap.size<=b\/(b<w0.heap.size/\¬M b)\/∃g∈D,b∈g.fp):LH M w0 Y L (D++[e]):=by
 have h:=H.br f;refine⟨h.fr,h.own,λg d=>?_,h.new,h.nd,λg d b x j q k=>?_⟩
 .rcases aW.1 d with d|d
  .exact h.rd g d
  grind
 .rcases aW.1 d with d|d
  .exact H.dj g d b x j q k
  .simp at d;subst d;rcases A b x with y|⟨y,B⟩|⟨E,C,z⟩
   .have:=j.lt w (H.own j q) b k;omega
   .exact (H.new j q b k).elim (λF=>co) B
   .exact H.dj E C b z j q k
def LH.forget{M:Nat->Prop}{w0 w:J}{L D:List En}(H:LH M w0 w L D)(j:List En)(h:∀e∈j,e∈D):LH M w0 w L j:=⟨H.fr,H.own,λe d=>H.rd e (h e d),H.new,H.nd,λe d=>H.dj e (h e d)⟩
def xW{α:Type}{a:α}:∀{l:List α} {i:Nat},a∈l.eraseIdx i->a∈l
 |[],_,d=>by grind
 |b::l,0,d=>by grind
 |b::l,i+1,d=>by
  simp at d;rcases d with d|d
  .simp [d]
  .exact List.mem_cons_of_mem _ (xW d)
def Rm{α:Type}{f:α->List Nat}:∀{L:List α} {i:Nat},(L.flatMap f).Nodup->((L.eraseIdx i).flatMap f).Nodup
 |[],i,d=>ws
 |a::L,0,d=>by grind
 |a::L,i+1,d=>by simp only[List.eraseIdx_cons_succ,cU,ho]at d ⊢;refine⟨d.1,Rm d.2.1,λw j x q=>d.2.2 w j x ?_⟩;obtain⟨g,h,k⟩:=bX.1 q;exact bX.2 ⟨g,xW h,k⟩
def Lj{α:Type}{f:α->List Nat}:∀{L:List α} {i:Nat} {e:α},L[i]? =some e->(L.flatMap f).Nodup->∀b∈f e,∀g∈L.eraseIdx i,b∉f g
 |[],i,e,d,_=>by grind
 |a::L,0,e,d,j=>by grind
 |a::L,i+1,e,d,j=>by
  simp only[cU,ho]at j;intro b k g h q;simp only[List.getElem?_cons_succ]at d;simp only[List.eraseIdx_cons_succ,aq]at h;rcases h with rfl|h
  .grind
  .exact Lj d j.2.1 b k g h q
def LH.freeze{M:Nat->Prop}{w0 w:J}{L D:List En}(H:LH M w0 w L D){e:En}(i:Nat)(h:En)(hi:L[i]? =some e)(y:h.P w)(x:∀b∈h.fp,b∈e.fp):LH M w0 w (L.eraseIdx i) (D++[h]):=by
 refine⟨H.fr,λg d=>H.own g (xW d),λg d=>?_,λg d=>H.new g (xW d),Rm H.nd,λg d b k j q=>?_⟩
 .rcases aW.1 d with d|d
  .exact H.rd g d
  grind
 .rcases aW.1 d with d|d
  .exact H.dj g d b k j (xW q)
  .simp at d;subst d;exact Lj hi H.nd b (x b k) j q
def LH.get{M:Nat->Prop}{w0 w:J}{L D:List En}(H:LH M w0 w L D)(i:Nat){e:En}(hi:L[i]? =some e:=by rfl):e.P w:=H.own e (aG hi)
def LH.getD{M:Nat->Prop}{w0 w:J}{L D:List En}(H:LH M w0 w L D)(i:Nat){e:En}(hi:D[i]? =some e:=by rfl):e.P w:=H.rd e (aG hi)
section
variable {M:Nat->Prop} {w0 w:J} {L D:List En}
def LH.ob(H:LH M w0 w L D)(i:Nat){b:Nat}{o:Obj}(hi:L[i]? =some (.ob b o):=by rfl):w.heap[b]? =some o:=H.own _ (aG hi)
def LH.ld(H:LH M w0 w L D)(i j:Nat){b:Nat}{vs:List aa}{T:aC}{v:aa}(hi:L[i]? =some (.c b vs T):=by rfl)(d:vs[j]? =some v:=by rfl):w.cell? ((ab b).add j)=some v:=
 cellAt (p:=ab b) (H.ob i hi) rfl (by grind)
def LH.iV(H:LH M w0 w L D)(i:Nat){b:Nat}{vs:List aa}{T:aC}{v:aa}(hi:L[i]? =some (.c b vs T):=by rfl)(d:vs[0]? =some v:=by rfl):w.cell? (ab b)=some v:=by
 have:=H.ld i 0 hi d
 rwa[jg]at this
def LH.set(H:LH M w0 w L D)(i j:Nat){b:Nat}{vs:List aa}{T:aC}{v:aa}(hi:L[i]? =some (.c b vs T))(x:j<vs.length):
  (w.cell? ((ab b).add j)).isSome=true/\w.frozen? ((ab b).add j)=false/\LH M w0 (w.setCell ((ab b).add j) v) (L.set i (.c b (vs.set j v) T)) D:=by obtain⟨h,k,z,q⟩:=vI (H.ob i hi) j co v;exact⟨h,k,H.ha i (.c b (vs.set j v) T) hi (q.mono λy _ e=>by simp[En.ob,e]) (by show _=_;grind) (λb d=>.inl d)⟩
def LH.st(H:LH M w0 w L D)(i j:Nat){b:Nat}{vs:List aa}{T:aC}{v:aa}{K:J->Prop}(hi:L[i]? =some (.c b vs T))(k:∀d,LH M w0 d (L.set i (.c b (vs.set j v) T)) D->K d)(h:j<vs.length:=by simp):aS w ((ab b).add j) v K:=by
 obtain⟨q,x,y⟩:=H.set (v:=v) i j hi h
 grind
def LH.jW(H:LH M w0 w L D)(i:Nat){b:Nat}{vs:List aa}{T:aC}{v:aa}{K:J->Prop}(hi:L[i]? =some (.c b vs T))(h:∀d,LH M w0 d (L.set i (.c b (vs.set 0 v) T)) D->K d)(j:0<vs.length:=by simp):aS w (ab b) v K:=by
 have:=H.st (v:=v) (K:=K) i 0 hi h j
 rwa[jg]at this
def LH.HN(H:LH M w0 w L D)(i:Nat){b:Nat}{E k h:aa}{T:aC}{d j q:aa}{K:J->Prop}(hi:L[i]? =some (.c b [E,k,h] T))(F:∀x,LH M w0 x (L.set i (.c b [d,j,q] T)) D->K x):aS w (ab b) d λy=>aS y ((ab b).add 1) j λz=>aS z ((ab b).add 2) q K:=by have I:=(cV.1 hi).1;exact H.jW i hi (λy A=>A.st (vs:=[d,k,h]) (T:=T) i 1 (by grind) (λz B=>B.st (vs:=[d,j,h]) (T:=T) i 2 (by grind) (λG C=>F G (by simpa using C))))
def LH.kz(H:LH M w0 w L D)(i:Nat){b:Nat}{N x k h:aa}{T:aC}{d j q y:aa}{K:J->Prop}(hi:L[i]? =some (.c b [N,x,k,h] T))(O:∀z,LH M w0 z (L.set i (.c b [d,j,q,y] T)) D->K z):aS w (ab b) d λA=>aS A ((ab b).add 1) j λB=>aS B ((ab b).add 2) q λC=>aS C ((ab b).add 3) y K:=by have Q:=(cV.1 hi).1;exact H.jW i hi (λA E=>E.st (vs:=[d,x,k,h]) (T:=T) i 1 (by grind) (λB F=>F.st (vs:=[d,j,k,h]) (T:=T) i 2 (by grind) (λC G=>G.st (vs:=[d,j,q,h]) (T:=T) i 3 (by grind) (λP I=>O P (by simpa using I)))))
def LH.Ux(H:LH M w0 w L D)(i:Nat){b:Nat}{S z x k h:aa}{T:aC}{d j q y A:aa}{K:J->Prop}(hi:L[i]? =some (.c b [S,z,x,k,h] T))(U:∀B,LH M w0 B (L.set i (.c b [d,j,q,y,A] T)) D->K B):aS w (ab b) d λC=>aS C ((ab b).add 1) j λE=>aS E ((ab b).add 2) q λF=>aS F ((ab b).add 3) y λG=>aS G ((ab b).add 4) A K:=by have Y:=(cV.1 hi).1;exact H.jW i hi (λC I=>I.st (vs:=[d,z,x,k,h]) (T:=T) i 1 (by grind) (λE N=>N.st (vs:=[d,j,x,k,h]) (T:=T) i 2 (by grind) (λF O=>O.st (vs:=[d,j,q,k,h]) (T:=T) i 3 (by grind) (λG P=>P.st (vs:=[d,j,q,y,h]) (T:=T) i 4 (by grind) (λW Q=>U W (by simpa using Q))))))
def LH.st7(H:LH M w0 w L D)(i:Nat){b:Nat}{a0 E B z x k h:aa}{T:aC}{d j q y A C F:aa}{K:J->Prop}(hi:L[i]? =some (.c b [a0,E,B,z,x,k,h] T))(hK:∀G,LH M w0 G (L.set i (.c b [d,j,q,y,A,C,F] T)) D->K G):aS w (ab b) d λI=>aS I ((ab b).add 1) j λN=>aS N ((ab b).add 2) q λO=>aS O ((ab b).add 3) y λP=>aS P ((ab b).add 4) A λQ=>aS Q ((ab b).add 5) C λS=>aS S ((ab b).add 6) F K:=by have hl:=(cV.1 hi).1;exact H.jW i hi (λI U=>U.st (vs:=[d,E,B,z,x,k,h]) (T:=T) i 1 (by grind) (λN W=>W.st (vs:=[d,j,B,z,x,k,h]) (T:=T) i 2 (by grind) (λO Y=>Y.st (vs:=[d,j,q,z,x,k,h]) (T:=T) i 3 (by grind) (λP Z=>Z.st (vs:=[d,j,q,y,x,k,h]) (T:=T) i 4 (by grind) (λQ H5=>H5.st (vs:=[d,j,q,y,A,k,h]) (T:=T) i 5 (by grind) (λS H6=>H6.st (vs:=[d,j,q,y,A,C,h]) (T:=T) i 6 (by grind) (λw7 H7=>hK w7 (by simpa using H7))))))))
def LH.nw(H:LH M w0 w L D){cs:Array aa}{T:aC}{K:J->Prop}(h:∀d,d.heap.size=w.heap.size+1->LH M w0 d (L++[.c w.heap.size cs.toList T]) D->K d):dz w (.cells cs T) K:=h _ (size_alloc _ _) (H.alloc _)
def LH.k6(H:LH M w0 w L D){o:Obj}{K:J->Prop}(h:∀d,d.heap.size=w.heap.size+1->LH M w0 d L D->d.heap[w.heap.size]? =some o->K d):dz w o K:=h _ (size_alloc _ _) (H.br (Fr.alloc _ _ _)) (kU w o)
def LH.dr(H:LH M w0 w L D){K:J->Prop}(h:∀d,LH M w0 d L D->K d):mw w K:=h _ H.drew
def LH.pu(H:LH M w0 w L D)(i:Nat){b:Nat}{o d:Obj}{K:J->Prop}(hi:L[i]? =some (.ob b o))(j:∀h,LH M w0 h (L.set i (.ob b d)) D->K h):mK w b o d K:=
 ⟨H.ob i hi,j _ (H.ha i (.ob b d) hi ((Fr.put w b d).mono λq _ e=>by simp[En.ob,e]) (ac8 (H.ob i hi) d) (λb k=>.inl k))⟩
def LH.ap(H:LH M w0 w L D)(i:Nat){P:aH}{t ty e:aC}{z:aa}{sz bytes:Nat}(j:gW P t e z sz bytes){s src:Sl}{xs news:List aa}{K:Sl->J->Prop}(hi:L[i]? =some (.row e sz s xs))(I:fg w src news)(G:news.length=src.n *sz)(C:∀u∈news,u.oneCell'=true)(F:(s.n+src.n) *bytes<=140737488355328)(E:∀d h,LH M w0 h (L.set i (.row e sz d (xs++news))) D->d.n=s.n+src.n->(d.a=none->s.a=none/\src.n=0)->K d h):
  ∃d h,(eu #[t,t] ty #[s.v,src.v]).run P w=.ok d.v h/\K d h:=by obtain⟨d,h,k,q,x,y,A,B⟩:=zt (ty:=ty) j (H.get i hi) I G C F;exact⟨d,h,k,E d h (H.ha i (.row e sz d (xs++news)) hi y q A) x B⟩
def LH.qd(H:LH M w0 w L D)(i:Nat){P:aH}{t ty e:aC}{z:aa}{sz bytes:Nat}(k:gW P t e z sz bytes){T:aC}{s:Sl}{xs:List aa}{news:Array aa}{K:Sl->J->Prop}(hi:L[i]? =some (.row e sz s xs))(y:∀d h,LH M w0 h (L.set i (.row e sz d (xs++news.toList))) D->d.n=s.n+1->d.a≠none->K d h)(A:(s.n+1) *bytes<=140737488355328)(F:news.size=sz:=by rfl)(x:∀u∈news.toList,u.oneCell'=true:=by simp[Value.oneCell']):
  dz w (.cells news T) λC=>∃d h,(eu #[t,t] ty #[s.v,.slice (some (Addr.mk w.heap.size 0 none)) 1 1]).run P C=.ok d.v h/\K d h:=by have j:LH M w0 (w.alloc (.cells news T)) L D:=H.br (Fr.alloc _ _ _);refine j.ap i k (src:=⟨some (ab w.heap.size),1,1⟩) (ty:=ty) (K:=K) (news:=news.toList) hi ((Row.made w T 1 1 news.toList).uu) (by grind) x A (λd h q B G=>y d h q B λE=>by grind)
def LH.fN(H:LH M w0 w L D)(e:aC)(sz:Nat):LH M w0 w (L++[.row e sz ⟨none,0,0⟩ []]) D:=H.push _ (Fr.refl _ _) (aF.nil w e sz) (λb d=>by simp[En.row,ax]at d)
end
def aF.A5{w:J}{e:aC}{s:Sl}{vs:List aa}(h:aF w e 1 s vs):Ow w e s vs:=⟨by have:=h.len;omega,h⟩
def aF.gK{w:J}{e:aC}{s:Sl}{vs:List aa}(h:aF w e 1 s vs):Rd w s vs:=h.A5.rd
abbrev F0:Nat->Prop:=λ_=>False
def LH.take{M:Nat->Prop}{w0 w:J}{L D:List En}(H:LH M w0 w L D)(n:Nat):LH M w0 w (L.take n) D:=
 ⟨H.fr,λe d=>H.own e (hP d),H.rd,λe d=>H.new e (hP d),by
  have:=H.nd
  grind,λe d b j h k=>H.dj e d b j h (hP k)⟩
def aO{a b:Int}{A B:Prop}(h:a=b->A)(j:a≠b->B):bt (a==b) A B:=bP (λd=>h (by grind)) (λd=>j (by grind))
def dA{a b:Int}{A B:Prop}(h:a≠b->A)(j:a=b->B):bt (a !=b) A B:=bP (λd=>h (by grind)) (λd=>j (by grind))
def aE{p:Prop}[Decidable p]{A B:Prop}(h:p->A)(j:¬p->B):bt (decide p) A B:=bP (λd=>h (eP d)) (λd=>j (il d))
def dW{b:Bool}{A B:Prop}(h:b=false->A)(j:b=true->B):bt (!b) A B:=bP (λd=>h (by grind)) (λd=>j (by grind))
def LH.fE{M:Nat->Prop}{w0 w:J}{L D:List En}(H:LH M w0 w L D)(i j:Nat){b:Nat}{vs:List aa}{T:aC}{v:aa}(hi:D[i]? =some (.c b vs T):=by rfl)(d:vs[j]? =some v:=by rfl):w.cell? ((ab b).add j)=some v:=
 cellAt (p:=ab b) (show w.heap[b]? =_ from H.rd _ (aG hi)) rfl (by grind)
def LH.YP{M:Nat->Prop}{w0 w Y:J}{L D:List En}(H:LH M w0 w L D)(i:Nat){b:Nat}{vs d:List aa}{T:aC}(f:Fr (·=b) w Y)(h:Y.heap[b]? =some (.cells d.toArray T (0,0)))(hi:L[i]? =some (.c b vs T):=by rfl):LH M w0 Y (L.set i (.c b d T)) D:=
 H.ha i (.c b d T) hi (f.mono λk _ e=>by simp[En.ob,e]) h (λb j=>.inl j)
def LH.cZ{M:Nat->Prop}{w0 w:J}{L D:List En}(H:LH M w0 w L D){e:aC}{sz n:Nat}{cs:List aa}(k:cs.length=n *sz)(q:n<=maxLen){K:J->Prop}(h:∀d,LH M w0 d (L++[.row e sz ⟨some (ab w.heap.size),n,n⟩ cs]) D->K d):dz w (.cells cs.toArray e) K:=
 h _ (H.push _ (Fr.alloc _ _ _) (aF.made w e sz n cs k q) (λb j=>by simp[En.row,ax]at j;omega))
def gS(P:aH)(o:Oper)(E:Env)(w:J)(K:Env->J->Prop):Prop:=
 bif calm P o then n0 P o E w λv _=>K (E.put o.dst v) w else hL P o E w λv d=>K (E.put o.dst v) d
def wN(ops:Array Oper):Bool:=(List.range ops.size).all λi=>match ops[i]? with
 |some o=>o.guard.isNone&&o.after.toList.all λe=>!(Region.binds .any e)||Nat.blt e.on i
 |none=>true
abbrev dC(L:Nat->Bool)(i:Nat):Nat->Bool:=λd=>cg d i||L d
section
variable {P:aH} {ops:Array Oper} {n:Cx} {K:Env->J->Prop}
def Du(h:wN ops=true){i:Nat}{o:Oper}(d:ops[i]? =some o):o.guard=none/\∀e∈o.after,Region.binds .any e=true->e.on<i:=by unfold wN at h;have k:i<ops.size:=(Array.getElem?_eq_some_iff.1 d).1;have:=fa.1 h i (List.mem_range.2 k);rw[d]at this;simp only[bH]at this;refine⟨by simpa using this.1,λe q j=>?_⟩;have:=fa.1 this.2 e (by grind);rw[j]at this;simpa using this
def aeV{i:Nat}{o:Oper}{a:Act}{E:Env}{w:J}{Kh:Env->J->Prop}{K':Act->J->Prop}{Q:Exit->Act->J->Prop}(q:eg n ops=true)(d:ops[i]? =some o)(D:o.guard=none)(j:Ag n a E)(h:gS P o E w Kh)(next:∀z y x,Ag n z y->Kh y x->K' z x):wpOp P ops Q i K' a w:=by
 have B:=Region.noSelect_spec (ops:=ops) (by unfold eg at q;grind);have C:dv o (yielded ops a.tmps)=true:=by simp[dv,D]
 unfold gS at h;cases A:calm P o with
 |true=>
  rw[A]at h;simp only[cond_true]at h;obtain⟨v,K,F,G,H⟩:=zL (λk b=>B i o k b d) j h;unfold wpOp;simp only[d,C,if_true];refine .inl ?_;unfold Oper.wp;rw[H w G];exact next _ _ _ (j.put v (g5 q d)) F
 |false=>
  rw[A]at h;simp only[cond_false]at h;exact y2 d C (n5 (λk b=>B i o k b d) j h) λv x I=>next _ _ _ (j.put v (g5 q d)) I
def af6(hn:eg n ops=true)(D:wN ops=true)(z:(Nat->Bool)->Env->J->Prop)(step:∀k E w i o,ops[i]? =some o->k i=false->(∀e∈o.after,Region.binds .any e=true->k e.on=true)->z k E w->gS P o E w λB H=>z (dC k i) B H)(fin:∀k E w,(∀i,i<ops.size->k i=true)->z k E w->K E w):
  ∀(fuel:Nat) (h:Array Bool) (a:Act) (E:Env) (w:J),h.size=ops.size->Ag n a E->z (λd=>h.getD d false) E w->((List.range ops.size).filter λd=>!h.getD d false).length<=fuel->
   wpAny P .any ops (hU n K) fuel h a w:=by
 have done:∀(h:Array Bool) (a:Act) (E:Env) (w:J),h.size=ops.size->Ag n a E->z (λd=>h.getD d false) E w->e4 .any ops h=[]->hU n K .normal a w:=by
  intro h a E w F x q hr;refine⟨E,x,fin _ E w (λi=>?_) q⟩;induction i using Nat.strongRecOn with
  |_ i G=>
   intro y;cases W:h.getD i false with
   |true=>rfl
   |false=>
    exfalso;have j:ops[i]? =some ops[i]:=Array.getElem?_eq_getElem y;have N:i∈e4 .any ops h:=mem_ready.2 ⟨by
     grind,_,j,λe A L=>G e.on ((Du D j).2 e A L) (Nat.lt_trans ((Du D j).2 e A L) y)⟩
    grind
 intro fuel;induction fuel with
 |zero=>
  intro h a E w F x q U;have C:∀i,i<ops.size->h.getD i false=true:=λi y=>by
   cases W:h.getD i false with
   |true=>rfl
   |false=>
    have:i∈(List.range ops.size).filter λd=>!h.getD d false:=List.mem_filter.2 ⟨List.mem_range.2 y,by grind⟩
    grind
  refine⟨?_,E,x,fin _ E w C q⟩;cases hr:e4 .any ops h with
  |nil=>rfl
  |cons i l=>
   have N:i∈e4 .any ops h:=by grind
   obtain⟨Q,o,j,_⟩:=mem_ready.1 N
   grind
 |succ fuel G=>
  intro h a E w F x q U;refine⟨done h a E w F x q,λi y=>?_⟩;obtain⟨Q,o,j,C⟩:=mem_ready.1 y;have Z:i<ops.size:=(Array.getElem?_eq_some_iff.1 j).1;have Y:i<h.size:=co
  have S:h.getD i false=false:=by grind
  refine aeV hn j (Du D j).1 x (step _ E w i o j S C q) λO B H T I=>?_;have A:(dC (λd=>h.getD d false) i)=λd=>(h.setIfInBounds i true).getD d false:=by
   funext d;by_cases M:i=d
   .subst M;simp[dC,Y]
   .have:cg d i=false:=by rw[<-jB,eO];omega
    rw[getD_set_ne false M]
    grind
  rw[A]at I;refine G _ O B H (by grind) T I ?_;have ab:((List.range ops.size).filter λd=>!(h.setIfInBounds i true).getD d false)=((List.range ops.size).filter λd=>!h.getD d false).filter λd=>!(cg d i):=by
   rw[List.filter_filter];refine List.filter_congr λd _=>?_;rw[<-congrFun A d]
   grind
  have aa:(((List.range ops.size).filter λd=>!h.getD d false).filter λd=>!(cg d i)).length<((List.range ops.size).filter λd=>!h.getD d false).length:=by
   refine List.length_filter_lt_length_iff_exists.2 ⟨i,List.mem_filter.2 ⟨List.mem_range.2 Z,by grind⟩,?_⟩;have:cg i i=true:=Nat.beq_refl i
   grind
  grind
def af8{c:Code}{id:Nat}{a:Act}{E:Env}{w:J}(h:(Nat->Bool)->Env->J->Prop)(D:P.follows .mixedOrders=true)(B:c=.region id ops true)(k:eg n ops=true)(A:wN ops=true)(z:Ag n a E)(G:h (λ_=>false) E w.drew)(step:∀d E w i o,ops[i]? =some o->d i=false->(∀e∈o.after,Region.binds .any e=true->d e.on=true)->h d E w->gS P o E w λq F=>h (dC d i) q F)(fin:∀d E w,(∀i,i<ops.size->d i=true)->h d E w->K E w):c.wpIn (FW n) 0 P (hU n K) a w:=by
 subst B;have H:(λj=>(hR ops.size false).getD j false)=λ_=>false:=by funext j;by_cases C:j<ops.size<;>simp[C]
 have y:=af6 (K:=K) k A h step fin ops.size (hR ops.size false) a E w.drew ws z (by grind) (bz (List.length_filter_le _ _) ws);refine wpIn_region_draw λt=>?_;refine tm k (λ⟨_,_,x⟩=>x) _ _ _ ?_;simp only[Region.schedule,D,Bool.true_or,if_true];exact wpAny_sound ops.size t _ a _ y
def Hc(P:aH)(n:Nat)(c:Code):Bool:=match c with
 |.region _ ops d=>d&&(P.follows .mixedOrders&&(eg n ops&&wN ops))
 |_=>false
def uY(P:aH)(c:Code)(K:Env->J->Prop)(E:Env)(w:J):Prop:=
 ∃h:(Nat->Bool)->Env->J->Prop,h (λ_=>false) E w.drew/\
  (∀d E w i o,(Code.ops c)[i]? =some o->d i=false->(∀e∈o.after,Region.binds .any e=true->d e.on=true)->h d E w->gS P o E w λj k=>h (dC d i) j k)/\
  ∀d E w,(∀i,i<(Code.ops c).size->d i=true)->h d E w->K E w
abbrev yA(P:aH)(c:Code)(K:Env->J->Prop)(E:Env)(w:J):Prop:=uY P (Code.fst c) K E w
variable {Q:Exit->Act->J->Prop} {E:Env} {w:J}
def ig(c:Code)(d:Hc P n c=true)(h:uY P c K E w)(G:∀j q k,Ag n k j->K j q->Q .normal k q):WP P n c Q E w:=by
 obtain⟨y,z,step,fin⟩:=h;unfold Hc at d;split at d
 .rename_i id ops F;simp only[bH]at d;obtain⟨rfl,A,B,C⟩:=d;exact λa D=>wpIn_mono (af8 y A rfl B C D z step fin) λe k q x=>by
   cases e with
   |normal=>obtain⟨j,hA,hK⟩:=x;grind
   |_=>exact x.elim
 grind
def si(c:Code)(k:(u0 c&&Hc P n (Code.fst c))=true)(h:yA P c K E w)(y:∀d j,K d j->WP P n (Code.snd c) Q d j):WP P n c Q E w:=
 WP.seq (yz (qc k).1) (ig _ (qc k).2 h λd j z q x=>nx q (y d j x))
end
def rowOf(o:Oper):Op×Option Nat×aC×List Nat:=(o.op,o.dst,o.type,(o.after.toList.filter λe=>Region.binds .any e).map (·.on))
def allI{α:Type}(F:Nat->α->Prop):List α->Nat->Prop
 |[],_=>True
 |a::l,i=>F i a/\allI F l (i+1)
def IX{α:Type}{F:Nat->α->Prop}:∀{l:List α} {n i:Nat} {a:α},allI F l n->l[i]? =some a->F (n+i) a
 |[],_,i,a,_,d=>by grind
 |b::l,n,0,a,d,h=>by simp at h;subst h;exact d.1
 |b::l,n,i+1,a,d,h=>by
  have:=IX (i:=i) d.2 (by simpa using h)
  grind
section
variable {P:aH} {K:Env->J->Prop} {E:Env} {w:J}
def wE(P:aH)(h:(Nat->Bool)->Env->J->Prop)(i:Nat)(r:Op×Option Nat×aC×List Nat):Prop:=
 ∀d E w o,o.op=r.1->o.dst=r.2.1->o.type=r.2.2.1->d i=false->(∀k∈r.2.2.2,d k=true)->h d E w->gS P o E w λj q=>h (dC d i) j q
def Fe{c:Code}(j:List (Op×Option Nat×aC×List Nat))(F:(Code.ops c).toList.map rowOf=j)(h:(Nat->Bool)->Env->J->Prop)(x:h (λ_=>false) E w.drew)(step:allI (wE P h) j 0)(fin:∀d E w,(∀i,i<j.length->d i=true)->h d E w->K E w):uY P c K E w:=by
 refine⟨h,x,λd E w i o D q B k=>?_,λd E w y k=>fin d E w (λi q=>y i ?_) k⟩
 .have A:j[i]? =some (rowOf o):=by grind
  have:=IX step A;rw[Nat.zero_add]at this;refine this d E w o rfl rfl rfl q (λG z=>?_) k;obtain⟨e,C,rfl⟩:=bK.1 z
  grind
 grind
def ny{o:Oper}{t:Nat}{v:aa}(d:o.op=.move (.tmp t)\/o.op=.assign (.tmp t))(k:E.get? t=some v)(h:K (E.put o.dst v) w):gS P o E w K:=by
 obtain⟨dst,op,q,pos,after,guard⟩:=o;have x:E.ev (.tmp t)=v:=by simp[Env.ev,Env.val,k]
 rcases d with d|d<;>(simp only at d;subst d)
 .show gm P _ E (λv _=>K (E.put dst v) w);have j:E.ef ⟨dst,.move (.tmp t),q,pos,after,guard⟩=true:=by simp[Env.ef,Op.operands,Env.val,k]
  unfold gm;rw[j];show K (E.put dst (E.ev (.tmp t))) w
  grind
 .show gm P _ E (λv _=>K (E.put dst v) w);have j:E.ef ⟨dst,.assign (.tmp t),q,pos,after,guard⟩=true:=by simp[Env.ef,Op.operands,Env.val,k]
  unfold gm;rw[j];show K (E.put dst (E.ev (.tmp t))) w
  grind
def qY{o:Oper}{T:aC}{t:Nat}{p:Addr}(d:o.op=.load T (.tmp t))(j:E.get? t=some (.pointer (some p)))(h:nc P T p w λv _=>K (E.put o.dst v) w):gS P o E w K:=by obtain⟨dst,op,k,pos,after,guard⟩:=o;simp only at d;subst d;show(match E.val (.tmp t)with |some (.pointer (some p))=>nc P T p w (λv _=>K (E.put dst v) w)|_=>False);rw[show E.val (.tmp t)=some (.pointer (some p))from j];exact h
def aeM{o:Oper}{f d t2:Nat}{j k:aa}(y:o.op=.makeFunc (.func f) #[] #[.tmp d,.tmp t2])(q:E.get? d=some j)(x:E.get? t2=some k)(h:K (E.put o.dst (.func (.func f) #[] #[j,k])) w):gS P o E w K:=by
 obtain⟨dst,op,A,pos,after,guard⟩:=o;simp only at y;subst y;show gm P _ E (λv _=>K (E.put dst v) w);have z:E.ef ⟨dst,.makeFunc (.func f) #[] #[.tmp d,.tmp t2],A,pos,after,guard⟩=true:=by simp[Env.ef,Op.operands,Env.val,q,x]
 unfold gm;rw[z];show K (E.put dst (.func (.func f) (#[].map E.ev) (#[.tmp d,.tmp t2].map E.ev))) w;have B:E.ev (.tmp d)=j:=by simp[Env.ev,Env.val,q]
 have C:E.ev (.tmp t2)=k:=by simp[Env.ev,Env.val,x]
 grind
def aeN{o:Oper}{T:aC}(d:o.op=.makeMap T none)(h:K (E.put o.dst (.map (some w.heap.size))) (w.alloc (.map #[] 0))):gS P o E w K:=by
 obtain⟨dst,op,j,pos,after,guard⟩:=o;simp only at d;subst d;have k:E.ef ⟨dst,.makeMap T none,j,pos,after,guard⟩=true:=by simp[Env.ef,Op.operands]
 have q:ql P ⟨dst,.makeMap T none,j,pos,after,guard⟩ E w (λv x=>K (E.put dst v) x):=by unfold ql;rw[k];exact h
 unfold gS;simp only[calm,cond_false];unfold hL;exact q
def qX{o:Oper}{T:aC}{m k v:Operand}{x q y:aa}(j:o.op=.insert T m k v)(A:E.val m=some x)(z:E.val k=some q)(B:E.val v=some y)(h:∃d,(Instr.mapUpdate T x q y).run P w=.ok () d/\K (E.put o.dst undef) d):gS P o E w K:=by obtain⟨dst,op,C,pos,after,guard⟩:=o;simp only at j;subst j;show(match E.val m,E.val k,E.val v with |some m,some k,some v=>Ks P (Instr.mapUpdate T m k v) w (λv d=>K (E.put dst v) d)|_,_,_=>False);rw[A,z,B];exact h
def HP{o:Oper}{t a b f:Nat}{U:Array aC}{first captured:Array aa}{x y:aa}(z:o.op=.call ⟨.value (.tmp t),#[.tmp a,.tmp b],U⟩)(A:E.get? t=some (.func (.func f) first captured))(k:E.get? a=some x)(q:E.get? b=some y)(D:hG P f=true)(h:aj P f (first++#[x,y]++captured) w λe j=>oa (zeroOf P o.type) λv=>e=ae v/\K (E.put o.dst v) j):gS P o E w K:=by
 obtain⟨dst,op,d,pos,after,guard⟩:=o;simp only at z;subst z;show cS (E.ef ⟨dst,.call ⟨.value (.tmp t),#[.tmp a,.tmp b],U⟩,d,pos,after,guard⟩) (match E.get? t with
  |some (.func (.func f) first captured)=>cS (hG P f) (qh P f (first++(#[Operand.tmp a,.tmp b]).map E.ev++captured) (zeroOf P d) w (λv j=>K (E.put dst v) j))
  |_=>False)
 have F:E.ef ⟨dst,.call ⟨.value (.tmp t),#[.tmp a,.tmp b],U⟩,d,pos,after,guard⟩=true:=by simp[Env.ef,Op.operands,Call.operands,Env.val,A,k,q]
 rw[F,A];show cS (hG P f) _;rw[D];have B:E.ev (.tmp a)=x:=by simp[Env.ev,Env.val,k]
 have C:E.ev (.tmp b)=y:=by simp[Env.ev,Env.val,q]
 show qh P f _ _ w _;simp only[List.map_toArray,List.map_cons,List.map_nil,B,C];exact h
def oQ(T:List (Nat×Nat×aa))(L:Nat->Bool)(E:Env):Prop:=∀d∈T,(bif cg d.1 0 then true else L (d.1 - 1))=true->E.get? d.2.1=some d.2.2
def oQ.get{T:List (Nat×Nat×aa)}{L:Nat->Bool}(h:oQ T L E){i d:Nat}{v:aa}(j:(i,d,v)∈T)(hi:(bif cg i 0 then true else L (i - 1))=true):E.get? d=some v:=h _ j hi
def h0{E:Env}{d t:Nat}{v:aa}(h:d≠t):(E.put (some d) v).get? t=E.get? t:=by
 have:cg d t=false:=by rw[<-jB,eO];exact h
 simp only[Env.put,Env.get?,this,cond_false]
def o9{E:Env}{d:Nat}{v:aa}:(E.put (some d) v).get? d=some v:=by simp[Env.put,Env.get?]
def oQ.fill{T:List (Nat×Nat×aa)}{L:Nat->Bool}(h:oQ T L E){i d:Nat}{v:aa}(x:∀j∈T,j.1=i+1->j=(i+1,d,v))(y:∀j∈T,j.2.1=d->j.1=i+1):oQ T (dC L i) (E.put (some d) v):=by
 intro j q A;by_cases k:j.2.1=d
 .obtain rfl:=x j q (y j q k);exact o9
 .rw [h0 (λe=>k e.symm)];refine h j q ?_;by_cases w:j.1=0
  .rw [w];rfl
  .have z:cg j.1 0=false:=by rw[<-jB,eO];exact w
   rw[z]at A ⊢;have B:j.1 - 1≠i:=λe=>k (by grind);have:cg (j.1 - 1) i=false:=by rw[<-jB,eO];omega
   grind
def oQ.pass{T:List (Nat×Nat×aa)}{L:Nat->Bool}(h:oQ T L E){i:Nat}{d:Option Nat}{v:aa}(w:∀j∈T,j.1≠i+1)(x:∀j∈T,d≠some j.2.1):oQ T (dC L i) (E.put d v):=by
 intro j k z;have A:(E.put d v).get? j.2.1=E.get? j.2.1:=by
  cases d with
  |none=>rfl
  |some d=>exact h0 λe=>x j k (by rw[e])
 rw[A];refine h j k ?_;by_cases q:j.1=0
 .rw [q];rfl
 .have y:cg j.1 0=false:=by rw[<-jB,eO];exact q
  rw[y]at z ⊢;have B:j.1 - 1≠i:=λe=>w j k co;have:cg (j.1 - 1) i=false:=by rw[<-jB,eO];omega
  grind
end
structure LC(w:J)(L:List (Nat×List aa×aC)):Prop where
 own:∀(i:Nat) (x:Nat×List aa×aC),L[i]? =some x->w.heap[x.1]? =some (.cells x.2.1.toArray x.2.2 (0,0))
 dj:∀(i j:Nat) (x y:Nat×List aa×aC),L[i]? =some x->L[j]? =some y->x.1=y.1->i=j
abbrev iw(L:List (Nat×List aa×aC)):List Nat:=L.map (·.1)
def loc(bs:List Nat)(w:J)(K:J->Prop):Prop:=∀d,Fr (·∈bs) w d->K d
def x9(bs:List Nat)(w:J)(K:Nat->J->Prop):Prop:=∀b d,w.heap.size<=b->d.heap.size=b+1->Fr (·∈bs) w d->K b d
def eJ(bs:List Nat)(P:aH)(f:cW)(args:Array aa)(w:J)(K:aJ):Prop:=∃d:Nat->Prop,(∀b∈bs,¬d b)/\aj P f args w λr h=>Fr d w h/\K r h
def kept(bs:List Nat)(w Y:J):Prop:=∀b∈bs,Y.heap[b]? =w.heap[b]?
def acM{d:Option Addr}{K K':Addr->Prop}(h:dV d K)(f:∀p,K p->K' p):dV d K':=by
 cases d with
 |none=>exact h
 |some p=>exact f p h
def TX{t:Bool}{A B d j:Prop}(h:bt t A B)(k:A->d)(q:B->j):bt t d j:=aeh k q h
def aeH{w:J}{p:Addr}{v:aa}{K K':J->Prop}(h:aS w p v K)(f:∀d,K d->K' d):aS w p v K':=⟨h.1,h.2.1,f _ h.2.2⟩
section
variable {w wT:J} {L:List (Nat×List aa×aC)}
def LC.nil(w:J):LC w []:=⟨λi h d=>by grind,λi j h k d=>by grind⟩
def LC.Xx(H:LC w L){b:Nat}(d:b∈iw L):∃(i:Nat) (x:Nat×List aa×aC),L[i]? =some x/\x.1=b:=by
 obtain⟨x,h,rfl⟩:=bK.1 d;obtain⟨i,j⟩:=hO.1 h
 grind
def LC.lt(H:LC w L){b:Nat}(d:b∈iw L):b<w.heap.size:=by obtain⟨i,j,h,rfl⟩:=H.Xx d;exact lt_of_heap (H.own i j h)
def LC.qx{Y:J}(H:LC w L)(h:kept (iw L) w Y):LC Y L:=
 ⟨λi d j=>by rw[h d.1 (bK.2 ⟨d,aG j,rfl⟩)];exact H.own i d j,H.dj⟩
def LC.fr{M:Nat->Prop}{Y:J}(H:LC w L)(f:Fr M w Y)(h:∀b∈iw L,¬M b):LC Y L:=H.qx λb d=>f.cC b (H.lt d) (h b d)
def LC.pick(H:LC w L)(is:List Nat)(A:is.Nodup):LC w (is.filterMap λi=>L[i]?):=by
 induction is with
 |nil=>exact LC.nil w
 |cons x is h=>
  have h:=h (List.nodup_cons.1 A).2;cases q:L[x]? with
  |none=>grind
  |some y=>
   rw[List.filterMap_cons_some q];have back:∀(j:Nat) d,(is.filterMap λi=>L[i]?)[j]? =some d->d.1≠y.1:=by
    intro j d B e;obtain⟨m,E,z⟩:=List.mem_filterMap.1 (aG B);have:=H.dj m x d y z q e
    grind
   refine⟨λi d k=>?_,λi j d C k D e=>?_⟩
   .cases i with
    |zero=>simp at k;subst k;exact H.own x y q
    |succ i=>exact h.own i d (by grind)
   .cases i with
    |zero=>
     grind
    |succ i=>
     cases j with
     |zero=>grind
     |succ j=>rw[h.dj i j d C (by grind) (by grind) e]
def LC.alloc(H:LC w L)(o:Obj):LC (w.alloc o) L:=H.fr (M:=λ_=>False) (Fr.alloc _ _ _) (λ_ _ d=>d)
def LC.push(H:LC w L)(cs:Array aa)(T:aC):LC (w.alloc (.cells cs T)) (L++[(w.heap.size,cs.toList,T)]):=by
 have z:=H.alloc (.cells cs T);have B:∀(i:Nat) d,L[i]? =some d->d.1<w.heap.size:=λi d h=>lt_of_heap (H.own i d h);have k:∀(i:Nat) d,(L++[(w.heap.size,cs.toList,T)])[i]? =some d->(L[i]? =some d)\/(i=L.length/\d=(w.heap.size,cs.toList,T)):=by grind
 refine⟨λi d h=>?_,λi x d y h A e=>?_⟩
 .rcases k i d h with j|⟨_,rfl⟩
  .exact z.own i d j
  .simp only[Array.toArray_toList];exact kU w _
 .rcases k i d h with j|⟨j,rfl⟩
  .rcases k x y A with q|⟨q,rfl⟩
   .exact H.dj i x d y j q e
   grind
  grind
def Dx(L:List (Nat×List aa×aC))(i:Nat){b:Nat}{vs d:List aa}{T:aC}(hi:L[i]? =some (b,vs,T)):iw (L.set i (b,d,T))=iw L:=by
 apply List.ext_getElem?
 grind
def LC.set(H:LC w L)(i j:Nat){b:Nat}{vs:List aa}{T:aC}{v:aa}(hi:L[i]? =some (b,vs,T))(M:j<vs.length)(f:Fr (·∈iw L) wT w):
  (w.cell? ((ab b).add j)).isSome=true/\w.frozen? ((ab b).add j)=false/\LC (w.setCell ((ab b).add j) v) (L.set i (b,vs.set j v,T))/\Fr (·∈iw (L.set i (b,vs.set j v,T))) wT (w.setCell ((ab b).add j) v):=by
 obtain⟨E,F,N,x⟩:=vI (H.own i _ hi) j co v;have A:b∈iw L:=bK.2 ⟨_,aG hi,rfl⟩;refine⟨E,F,⟨λk d h=>?_,λk m d q h B e=>?_⟩,?_⟩
 .rw [List.getElem?_set]at h;split at h
  .grind
  .rename_i C;have:=x.cC d.1 (lt_of_heap (H.own k d h)) (λe=>C (H.dj i k _ d hi h e.symm));rw[this];exact H.own k d h
 .have g:∀(k:Nat) d,(L.set i (b,vs.set j v,T))[k]? =some d->∃q,L[k]? =some q/\q.1=d.1:=by grind
  obtain⟨D,y,I⟩:=g k d h;obtain⟨G,z,K⟩:=g m q B;exact H.dj k m D G y z co
 .rw [Dx L i hi];exact f.trans x λd _ e=>e▸A
def hF{bs:List Nat}{P:aH}{f:cW}{args:Array aa}{K:aJ}(h:aj P f args w λr d=>af w d/\K r d):eJ bs P f args w K:=⟨λ_=>False,λ_ _ h=>h,h⟩
end
def En.g(b:Nat):En:=⟨[b],λd=>b<d.heap.size,λd q j h=>(by grind),λd h w k=>by grind,ws⟩
section
variable {M:Nat->Prop} {w0 w:J} {L D:List En} {bs:List Nat}
def LH.ghost(H:LH M w0 w L D){Y:J}(f:Fr (·∈bs) w Y)(bF:∀b∈bs,En.g b∈L):LH M w0 Y L D:=by
 refine⟨H.fr.trans f λB F j=>(H.new _ (bF B j) B (by simp[En.g])).resolve_left co,λe d=>?_,λe d=>?_,H.new,H.nd,H.dj⟩
 .by_cases y:∃b∈bs,b∈e.fp
  .obtain ⟨b,h,C⟩:=y;obtain⟨i,z⟩:=hO.1 d;obtain⟨A,k⟩:=hO.1 (bF b h);have E:i=A:=by
    rcases Nat.decEq i A with x|x
    .exact absurd (by simp[En.g]) (n4 H.nd z k x b C)
    omega
   subst E;rw[z]at k;cases k;exact mT (H.own _ d) f.size
  .exact e.st w Y (λb h q=>f.cC b q λj=>y ⟨b,j,h⟩) (H.own e d)
 .exact e.st w Y (λb h q=>f.cC b q λj=>H.dj e d b h _ (bF b j) (by simp[En.g])) (H.rd e d)
def LH.ai(H:LH M w0 w L D){K:J->Prop}(h:∀d,LH M w0 d L D->K d)(bF:∀b∈bs,En.g b∈L:=by simp):loc bs w K:=λ_ f=>h _ (H.ghost f bF)
def LH.aK(H:LH M w0 w L D){K:Nat->J->Prop}(B:∀b q,LH M w0 q (L++[.g b]) D->K b q)(bF:∀b∈bs,En.g b∈L:=by simp):x9 bs w K:=λb q A E f=>B b q (by
 have x:=H.ghost f bF;refine⟨x.fr,λe d=>?_,x.rd,λe d k h=>?_,?_,λe d k h z j y=>?_⟩
 .rcases aW.1 d with d|d
  .exact x.own e d
  .simp at d;subst d;show b<_;omega
 .rcases aW.1 d with d|d
  .exact H.new e d k h
  .simp at d;subst d;simp[En.g]at h;subst h;exact .inl (bz H.fr.size A)
 .rw [List.flatMap_append,ho];refine⟨H.nd,by simp[En.g],λk h F C=>?_⟩;have:=H.oq k h;simp[En.g]at C;omega
 .rcases aW.1 j with j|j
  .exact H.dj e d k h z j y
  .simp at j;subst j;simp[En.g]at y;subst y;have:=e.lt w (H.rd e d) k h;omega)
def LH.aA(H:LH M w0 w L D){P:aH}{g:cW}{args:Array aa}{A K:aJ}(j:aj P g args w λr d=>A r d/\af w d)(k:∀r d,A r d->LH M w0 d L D->K r d):eJ bs P g args w K:=
 hF (j.mono λr d ⟨h,f⟩=>⟨f,k r d h (H.br f)⟩)
def LH.call(H:LH M w0 w L D){P:aH}{g:cW}{args:Array aa}{A K:aJ}(j:aj P g args w λr d=>A r d/\af w d)(k:∀r d,A r d->LH M w0 d L D->K r d):aj P g args w K:=
 j.mono λr d ⟨h,f⟩=>k r d h (H.br f)
def LH.Sf(H:LH M w0 w L D){Y:J}(f:af w Y){e:aC}{sz:Nat}{s:Sl}{vs:List aa}(h:aF Y e sz s vs)(d:∀b∈ax s,w.heap.size<=b):LH M w0 Y (L++[.row e sz s vs]) D:=H.push (.row e sz s vs) f h d
def LH.I0(H:LH M w0 w L D)(i:Nat){P:aH}{t ty e:aC}{z:aa}{sz bytes:Nat}(E:gW P t e z sz bytes){s src:Sl}{xs news:List aa}{K:Sl->J->Prop}(hi:L[i]? =some (.row e sz s xs))(U:fg w src news)(T:news.length=src.n *sz)(Q:∀u∈news,u.oneCell'=true)(j:(s.n+src.n) *bytes<=140737488355328)(S:∀d h,LH M w0 h (L.set i (.row e sz d (xs++news))) D->d.n=s.n+src.n->(d.a=none->s.a=none/\src.n=0)->(∀b,En.g b∈L->h.heap[b]? =w.heap[b]?)->K d h):
  ∃d h,(eu #[t,t] ty #[s.v,src.v]).run P w=.ok d.v h/\K d h:=by
 obtain⟨d,h,F,G,I,y,N,O⟩:=zt (ty:=ty) E (H.get i hi) U T Q j;refine⟨d,h,F,S d h (H.ha i (.row e sz d (xs++news)) hi y G N) I O λb j=>?_⟩;refine y.cC b (H.own _ j) λC=>?_;obtain⟨W,q⟩:=hO.1 j;by_cases B:i=W
 .subst B;rw[hi]at q;cases ac:(En.row e sz s xs)with
  |mk ab Y st lt ae=>
   have k:En.row e sz s xs=En.g b:=Option.some.inj q;have x:(En.row e sz s xs).P=(En.g b).P:=by rw[k]
   have Z:=congrFun x w;have e4:(En.row e sz s xs).P (w.alloc (.cells #[] e))=(En.g b).P (w.alloc (.cells #[] e)):=by rw[k]
   have f1:(En.row e sz s xs).fp=(En.g b).fp:=by rw[k]
   have A:(En.g b).P ({w with heap:=hR (b+1) (.map #[] 0)}):=by show b<_;simp
   rw[<-x]at A;have ad:=(aF.row (show aF ({w with heap:=hR (b+1) (.map #[] 0)}) e sz s xs from A)).v3 b C
   grind
 .exact n4 H.nd hi q B b C (by simp[En.g])
end
def bL(sz:Nat)(w:J)(s:Sl)(vs:List aa):Prop:=vs.length=s.n *sz/\s.n<=s.c/\fg w s vs
def bL.fr{sz:Nat}{M:Nat->Prop}{w Y:J}{s:Sl}{vs:List aa}(h:bL sz w s vs)(d:Fr M w Y)(j:∀b∈ax s,¬M b):bL sz Y s vs:=⟨h.1,h.2.1,h.2.2.fr d j⟩
def bL.br{sz:Nat}{w Y:J}{s:Sl}{vs:List aa}(h:bL sz w s vs)(d:af w Y):bL sz Y s vs:=h.fr d λ_ _ h=>h
def aF.bd{w:J}{e:aC}{sz:Nat}{s:Sl}{vs:List aa}(h:aF w e sz s vs):bL sz w s vs:=⟨h.len,h.cap,h.row.uu⟩
def bL.nil(sz:Nat)(w:J):bL sz w ⟨none,0,0⟩ []:=⟨ws,bm _,fg.nil w⟩
def En.bd(sz:Nat)(s:Sl)(vs:List aa):En:=⟨if vs=[]then[]else ax s,λw=>bL sz w s vs,λw A x d=>by
  refine⟨d.1,d.2.1,d.2.2.1,λi v z=>?_⟩;obtain⟨p,j,h⟩:=d.2.2.2 i v z;have q:vs≠[]:=λe=>by grind
  rw[ag q]at x;have:=x p.block (by simp[ax,j]) (by have:=o0 h;rwa[jG]at this);refine⟨p,j,?_⟩;unfold World.cell? at h ⊢;rw[jG]at h ⊢
  grind,λw d b k=>by
  split at k
  .cases k
  .rename_i q;have y:0<vs.length:=List.length_pos_iff.2 q;obtain⟨p,j,h⟩:=d.2.2.2 0 vs[0] (a' y);simp[ax,j]at k;subst k;have:=o0 h
   rwa[jG]at this,by split<;>(try simp);unfold ax;grind⟩
def nA(sz:Nat)(s:Sl)(l h:Nat):Sl:=⟨if s.c=l then s.a else s.a.map (·.add (l *sz)),h - l,s.c - l⟩
def bL.sub{sz:Nat}{w:J}{s:Sl}{vs:List aa}(h:bL sz w s vs)(l hi:Nat)(D:l<=hi)(z:hi<=s.n):bL sz w (nA sz s l hi) ((vs.take (hi *sz)).drop (l *sz)):=by
 obtain⟨q,B,C,x⟩:=h;have k:hi *sz<=s.n *sz:=pS _ z;refine⟨?_,?_,?_,λi v j=>?_⟩
 .rw [List.length_drop,List.length_take,q,Nat.min_eq_left k];show _=(hi - l) *sz;rw[Nat.sub_mul]
 .show hi - l<=s.c - l;omega
 .intro d;unfold nA at d ⊢;simp only at d ⊢;split at d
  .omega
  .cases G:s.a with
   |none=>grind
   |some p=>grind
 .rw [List.getElem?_drop]at j;have A:l *sz+i<hi *sz:=by grind
  rw[List.getElem?_take,av A]at j;obtain⟨p,F,y⟩:=x _ _ j;have E:s.c≠l:=λe=>by grind
  refine⟨p.add (l *sz),?_,?_⟩
  .unfold nA
   grind
  .rw [add_add];exact y
def kp:List Nat->List Nat
 |[]=>[]
 |a::l=>if a∈kp l then kp l else a::kp l
def a0{x:Nat}:∀{l:List Nat},x∈kp l↔x∈l
 |[]=>Iff.rfl
 |a::l=>by
  unfold kp;split
  .rename_i d;rw[a0,aq];exact⟨.inr,λh=>h.elim (λe=>by subst e;exact a0.1 d) id⟩
  .rw [aq,aq,a0]
def pn:∀l:List Nat,(kp l).Nodup
 |[]=>.nil
 |a::l=>by
  unfold kp;split
  .exact pn l
  .rename_i d;exact List.nodup_cons.2 ⟨d,pn l⟩
def En.all(es:List En):En:=⟨kp (es.flatMap (·.fp)),λd=>∀e∈es,e.P d,λd y q k e h=>e.st d y (λb j x=>q b (a0.2 (bX.2 ⟨e,h,j⟩)) x) (k e h),
 λd k b j=>(by obtain⟨e,h,w⟩:=bX.1 (a0.1 j);exact e.lt d (k e h) b w),pn _⟩
section
variable {M:Nat->Prop} {w0 w:J} {L D:List En} {bs:List Nat}
structure wi(M:Nat->Prop)(w0 w Y:J)(L D:List En):Prop where
 own:∀e:En,e.P Y->(∀b∈e.fp,w.heap.size<=b)->LH M w0 Y (L++[e]) D
 rd:∀e:En,e.P Y->(∀b∈e.fp,w.heap.size<=b)->LH M w0 Y L (D++[e])
def LH.fresh(H:LH M w0 w L D){Y:J}(f:af w Y):wi M w0 w Y L D:=⟨λe d h=>H.push e f d h,λe d h=>H.gz e f d λb j=>.inl (h b j)⟩
def LH.kc(H:LH M w0 w L D){P:aH}{g:cW}{args:Array aa}{A K:aJ}(j:aj P g args w λr d=>A r d/\af w d)(k:∀r d,A r d->LH M w0 d L D->wi M w0 w d L D->K r d):eJ bs P g args w K:=
 hF (j.mono λr d ⟨h,f⟩=>⟨f,k r d h (H.br f) (H.fresh f)⟩)
def LH.zJ(H:LH M w0 w L D){P:aH}{g:cW}{args:Array aa}{A K:aJ}(j:aj P g args w λr d=>A r d/\af w d)(k:∀r d,A r d->LH M w0 d L D->wi M w0 w d L D->K r d):aj P g args w K:=
 j.mono λr d ⟨h,f⟩=>k r d h (H.br f) (H.fresh f)
end
def yk{sz:Nat}{s:Sl}{vs:List aa}{n:Nat}(h:∀b∈ax s,n<=b):∀b∈(En.bd sz s vs).fp,n<=b:=λb d=>by
 have:b∈(if vs=[]then[]else ax s):=d
 grind
section
variable {M:Nat->Prop} {w0 w:J} {L D:List En} {bs:List Nat}
def LH.dm(H:LH M w0 w L D)(i:Nat){P:aH}{t ty e:aC}{z:aa}{sz bytes:Nat}(k:gW P t e z sz bytes){s src:Sl}{xs news:List aa}{K:Sl->J->Prop}(hi:L[i]? =some (.row e sz s xs))(j:bL sz w src news)(x:∀u∈news,u.oneCell'=true)(A:(s.n+src.n) *bytes<=140737488355328)(y:∀h d,LH M w0 d (L.set i (.row e sz h (xs++news))) D->K h d)(bF:∀b∈bs,En.g b∈L:=by simp):
  ∃h d,(eu #[t,t] ty #[s.v,src.v]).run P w=.ok h.v d/\kept bs w d/\K h d:=
 H.I0 i k (K:=λh d=>kept bs w d/\K h d) hi j.2.2 j.1 x A λh d q _ _ C=>⟨λb B=>C b (bF b B),y h d q⟩
def LH.jh(H:LH M w0 w L D)(i:Nat){P:aH}{t ty e:aC}{z:aa}{sz bytes:Nat}(q:gW P t e z sz bytes){T:aC}{s:Sl}{xs:List aa}{news:Array aa}{K:Sl->J->Prop}(hi:L[i]? =some (.row e sz s xs))(y:∀h d,LH M w0 d (L.set i (.row e sz h (xs++news.toList))) D->K h d)(A:(s.n+1) *bytes<=140737488355328)(B:news.size=sz:=by rfl)(x:∀u∈news.toList,u.oneCell'=true:=by simp[Value.oneCell'])(bF:∀b∈bs,En.g b∈L:=by simp):
  dz w (.cells news T) λj=>∃h d,(eu #[t,t] ty #[s.v,.slice (some (Addr.mk w.heap.size 0 none)) 1 1]).run P j=.ok h.v d/\kept bs j d/\K h d:=by have k:LH M w0 (w.alloc (.cells news T)) L D:=H.br (Fr.alloc _ _ _);exact k.dm i q (src:=⟨some (ab w.heap.size),1,1⟩) (ty:=ty) (K:=K) (news:=news.toList) hi ⟨by grind,bm _,(Row.made w T 1 1 news.toList).uu⟩ x A y bF
end
abbrev fo(s:Sl)(i:Int)(K:Addr->Prop):Prop:=0<=i/\i<(s.n:Int)/\dV s.a K
end Go.W
