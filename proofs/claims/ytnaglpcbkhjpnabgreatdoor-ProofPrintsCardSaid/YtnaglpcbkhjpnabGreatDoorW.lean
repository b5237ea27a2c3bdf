import Derived.OrdersHeld
import Derived.OrdersIn
import Derived.RangeFuncLeaves
import Derived.RangeFuncRecord
import Derived.RangeFuncSeq
import Derived.WalkKit
import Derived.Laws.AppendOwn
import Derived.Laws.StructEq
import Derived.KernelRfl
import Derived.Below
import Derived.OwnWalk
import Derived.IntWalk
import Derived.Laws.AppendOwnNone
set_option linter.unusedVariables false
set_option linter.defProp false
noncomputable section
namespace Go.W
theorem co{p:Prop}(h:p:=by omega):p:=h
theorem ws{p:Prop}(h:p:=by simp):p:=h
theorem md{p:Prop}(h:p:=by decide):p:=h
open Go renaming World->J,Calls->ai,Program->aJ,Value->aa,TypeId->aE,Ending->bW,FuncId->cR,IntKind->ix
open Go.IntKind renaming wrap->aj
open _root_.ByteArray renaming mk->bn
open Go.Builtin renaming append_->eA
open _root_.Bool renaming and_eq_true->bH,not_eq_true->jI
open _root_.Nat renaming le_refl->br,le_trans->bb,zero_le->dW,beq->cm,lt_of_lt_of_le->m8,mul_le_mul_right->qe,beq_eq->eS
open _root_.Option.some renaming injEq->fy
open _root_.Array renaming replicate->h4
open _root_.BitVec renaming ofInt->e9
open Go.Region renaming wanted->dC,ready->fa
open Go.Ending renaming returned->ae
open List renaming mem_append->aX,mem_cons->aq,mem_of_getElem?->aD,getElem?_eq_getElem->a',getElem?_eq_some_iff->cX,mem_append_right->eD,mem_flatMap->cc,mem_map->bS,mem_of_mem_take->ky,mem_singleton->b0,flatMap_cons->cH,mem_iff_getElem?->hJ,nodup_append->hL,all_eq_true->ff
def ag{c:Prop}{h:Decidable c}(x:¬c){α:Sort _}{t e:α}:ite c t e=e:=_root_.if_neg x
def au{c:Prop}{h:Decidable c}(x:c){α:Sort _}{t e:α}:ite c t e=t:=_root_.if_pos x
def aW{p:Prop}[i:Decidable p](x:¬p):decide p=false:=_root_.decide_eq_false x
def aR{p:Prop}[i:Decidable p](x:p):decide p=true:=_root_.decide_eq_true x
def aO(p:Prop):(p∨False)=p:=_root_.or_false p
def eT{p:Prop}[i:Decidable p](x:decide p=true):p:=_root_.of_decide_eq_true x
def iy{p:Prop}[i:Decidable p](x:decide p=false):¬p:=_root_.of_decide_eq_false x
abbrev Env:=List (Nat×aa)
def Env.get? :Env->Nat->Option aa
 |[],_=>none
 |(h,v)::d,t=>bif cm h t then some v else Env.get? d t
def Env.val(E:Env):Operand->Option aa
 |.tmp t=>E.get? t
 |.const v=>some v
 |.global g=>some (.pointer (some ⟨g,0,none⟩))
 |.func f=>some (.func (.func f) #[] #[])
def Env.ev(E:Env)(x:Operand):aa:=(E.val x).getD undef
def Env.put(E:Env)(d:Option Nat)(v:aa):Env:=
 match d with
 |some d=>(d,v)::E
 |none=>E
def Env.ek(E:Env)(o:Oper):Bool:=o.op.operands.toList.all λd=>(E.val d).isSome
structure Cx where
 n:Nat
 ds:List Deferred
 ro:Option Nat
instance:CoeHead Cx Nat:=⟨Cx.n⟩
abbrev cx(n:Nat):Cx:=⟨n,[],none⟩
abbrev FW(n:Cx):Fence:={Fence.wide with round:=n.ro}
structure Ag(n:Cx)(a:Act)(E:Env):Prop where
 defers:a.defers=n.ds
 size:a.tmps.size=n.n
 get:∀t v,E.get? t=some v->a.tmps[t]? =some v
def Ag.val{n:Cx}{a:Act}{E:Env}(h:Ag n a E){x:Operand}{v:aa}(d:E.val x=some v):a.eval x=v:=by
 cases x with
 |tmp t=>have:=h.get t v d;simp[Act.eval,this]
 |const u=>simpa[Env.val,Act.eval]using d
 |global g=>simpa[Env.val,Act.eval]using d
 |func f=>simpa[Env.val,Act.eval]using d
def Ag.ev{n:Cx}{a:Act}{E:Env}(h:Ag n a E){x:Operand}(j:(E.val x).isSome=true):a.eval x=E.ev x:=by obtain⟨v,d⟩:=Option.isSome_iff_exists.1 j;rw[h.val d,Env.ev,d];rfl
def Ag.put{n:Cx}{a:Act}{E:Env}(h:Ag n a E){d:Option Nat}(v:aa)(q:∀t,d=some t->t<n.n):Ag n (a.put d v) (E.put d v):=by
 cases d with
 |none=>exact h
 |some t=>
  refine⟨h.defers,by simp[Act.put,h.size],?_⟩;intro s u j;have k:t<a.tmps.size:=by rw[h.size];grind
  simp only[Env.put,Env.get?]at j;by_cases e:t=s
  .subst e;simp at j;simp[Act.put,k,j]
  .have:cm t s=false:=by rw[<-jI,eS];exact e
   simp only[this,cond_false]at j;simpa[Act.put,Array.getElem?_setIfInBounds_ne e]using h.get s u j
def Ag.nil{n:Cx}{a:Act}{E:Env}(h:Ag n a E):Ag n a []:=⟨h.defers,h.size,λ_ _ h=>by simp[Env.get?]at h⟩
def Ag.cons{n:Cx}{a:Act}{E F:Env}(h:Ag n a E){t:Nat}{v:aa}(k:E.get? t=some v)(j:Ag n a F):Ag n a ((t,v)::F):=by
 refine⟨h.defers,h.size,?_⟩;intro s u d;simp only[Env.get?]at d;by_cases e:t=s
 .subst e;simp at d;subst d;exact h.get _ _ k
 .have:cm t s=false:=by rw[<-jI,eS];exact e
  simp only[this,cond_false]at d;exact j.get s u d
def Ag.execOp{n:Cx}{a:Act}{E:Env}(h:Ag n a E){o:Oper}(k:∀d b,o.op≠.select d b)(j:E.ek o=true):execOp a.eval o=execOp E.ev o:=
 execOp_congr o k λq w=>h.ev (by have:=ff.1 j q (by grind);omega)
structure Sl where
 a:Option Addr
 n:Nat
 c:Nat
abbrev Sl.v(s:Sl):aa:=.slice s.a s.n s.c
abbrev aK:=bW->J->Prop
structure Fv where
 n:Nat
 U:Array aa
 cs:Array aa
abbrev Fv.v(f:Fv):aa:=.func (.func f.n) f.U f.cs
def xQ(z:aa)(K:aa->Prop):Prop:=
 match z with
 |.int d _=>∃n:Int,K (.int d n)
 |.bool _=>∃b:Bool,K (.bool b)
 |.string _=>∃s:ByteArray,K (.string s)
 |.slice _ _ _=>∃s:Sl,K s.v
 |.pointer _=>∃a:Option Addr,K (.pointer a)
 |.map _=>∃r:Option Nat,K (.map r)
 |_=>∃v:aa,K v
def Ai:List aa->(List aa->Prop)->Prop
 |[],d=>d []
 |j::k,d=>xQ j λv=>Ai k λh=>d (v::h)
def Aj(z:aa)(K:aa->Prop):Prop:=
 match z with
 |.agg d=>Ai d.toList λh=>K (.agg h.toArray)
 |z=>xQ z K
def ES:List aa->(List aa->Prop)->Prop
 |[],d=>d []
 |j::k,d=>Aj j λv=>ES k λh=>d (v::h)
def oq(z:aa)(K:aa->Prop):Prop:=
 match z with
 |.tuple h=>ES h.toList λd=>K (.tuple d.toArray)
 |z=>Aj z K
def EN{z:aa}{K:aa->Prop}(h:xQ z K):∃v,K v:=by
 unfold xQ at h
 grind
def EO:∀{j:List aa} {K:List aa->Prop},Ai j K->∃h,h.length=j.length/\K h
 |[],_,d=>⟨[],rfl,d⟩
 |_::_,_,d=>by
  obtain⟨v,d⟩:=EN d;obtain⟨h,k,d⟩:=EO d
  grind
def LN{z:aa}{K:aa->Prop}(h:Aj z K):∃v,K v:=by
 unfold Aj at h;split at h
 .obtain ⟨d,_,h⟩:=EO h;grind
 .exact EN h
def LO:∀{j:List aa} {K:List aa->Prop},ES j K->∃h,K h
 |[],_,d=>⟨[],d⟩
 |_::_,_,d=>by
  obtain⟨v,d⟩:=LN d;obtain⟨h,d⟩:=LO d
  grind
def se{z:aa}{K:aa->Prop}(h:oq z K):∃v,K v:=by
 unfold oq at h;split at h
 .obtain ⟨d,h⟩:=LO h;grind
 .exact LN h
def cS(b:Bool)(p:Prop):Prop:=match b with |true=>p|false=>False
def ee{b:Bool}{p:Prop}(h:cS b p):b=true/\p:=by
 cases b
 .exact h.elim
 .exact ⟨rfl,h⟩
def bA(t:Bool)(A B:Prop):Prop:=match t with |true=>A|false=>B
def bT{t:Bool}{A B:Prop}(d:t=true->A)(h:t=false->B):bA t A B:=by
 cases t
 .exact h rfl
 .exact d rfl
def aM{t:Bool}{A B:Prop}(d:t=true)(h:A):bA t A B:=by subst d;exact h
def aN{t:Bool}{A B:Prop}(d:t=false)(h:B):bA t A B:=by subst d;exact h
def eh(d:Option Addr)(K:Addr->Prop):Prop:=match d with |some p=>K p|none=>False
def sV{d:Option Addr}{K:Addr->Prop}(h:eh d K):∃p,d=some p/\K p:=by
 cases d with
 |none=>exact h.elim
 |some p=>exact⟨p,rfl,h⟩
def uc:List Prop->Prop->Prop
 |[],p=>p
 |d::l,p=>d/\uc l p
def ud:∀{l:List Prop} {p:Prop},uc l p->(∀j∈l,j)/\p
 |[],_,d=>⟨λ_ d=>(by cases d),d⟩
 |_::_,_,d=>⟨λj h=>by
   rcases aq.1 h with rfl|h
   .exact d.1
   .exact (ud d.2).1 j h,(ud d.2).2⟩
def qZ{α:Type}(P:aJ):Sem α->Option α
 |.pure a=>some a
 |.program d=>qZ P (d P)
 |_=>none
def SY{α:Type}{P:aJ}:∀{s:Sem α} {a:α},qZ P s=some a->∀h,s.run P h=.ok a h
 |.pure _,_,d,h=>by simp[qZ]at d;subst d;rfl
 |.program j,_,d,h=>by simp only[qZ]at d;exact SY d h
 |.load ..,_,d,_|.store ..,_,d,_|.new ..,_,d,_|.shape ..,_,d,_|.freeze ..,_,d,_|.frozen ..,_,d,_|.getObj ..,_,d,_|.setObj ..,_,d,_
 |.choose ..,_,d,_|.sys ..,_,d,_|.mark ..,_,d,_|.halt ..,_,d,_=>by simp[qZ]at d
def zeroOf(P:aJ)(t:aE):aa:=((P.info? t).bind (·.zero)).getD undef
def calm(P:aJ)(o:Oper):Bool:=
 match o.op with
 |.convert s d _=>match P.underlying s,P.underlying d with
  |some (.slice _),some (.slice _)=>false
  |some .string,some (.slice _)=>false
  |_,_=>true
 |.move _|.assign _|.pick ..|.build ..|.load ..|.nilCheck _|.binOp ..|.unOp ..|.makeInterface ..|.makeFunc ..|.slice ..|.fieldAddr ..|.field ..|.indexAddr ..|.index ..
 |.lookup ..|.typeAssert ..|.extract ..=>true
 |.call {callee:=.builtin b,..}=>match b with |.len|.cap|.min|.max=>true|_=>false
 |_=>false
def oa(x:Option aa)(y d:Nat)(K:Nat->Prop):Prop:=
 match x with
 |none=>K d
 |some (.int _ i)=>0<=i/\i<=(y:Int)/\K i.toNat
 |_=>False
def rT(P:aJ)(T:aE):Option Bool:=
 match P.underlying T with
 |some (.struct _)|some (.array _ _)=>some true
 |some _=>some false
 |none=>none
def zE(P:aJ)(T:aE):Bool:=
 match zeroOf P T with
 |.agg d=>rT P T==some true&&(match P.info? T with |some i=>i.size==d.size|none=>false)
 |_=>rT P T==some false
def nC(P:aJ)(T:aE)(p:Addr)(w:J)(K:aa->List (J->Prop)->Prop):Prop:=
 cS (zE P T)<|match zeroOf P T with
 |.agg j=>Ai j.toList λh=>uc (h.zipIdx.map λ(v,i)=>w.cell? (p.add i)=some v) (K (.agg h.toArray) (h.zipIdx.map λ(v,i)=>λd=>d.cell? (p.add i)=some v))
 |.nilFunc=>∃f:Fv,w.cell? p=some f.v/\K f.v [λd=>d.cell? p=some f.v]
 |.nilIface=>(∃(t:aE) (x:aa),w.cell? p=some (.iface t x)/\K (.iface t x) [λd=>d.cell? p=some (.iface t x)])\/(w.cell? p=some .nilIface/\K .nilIface [λd=>d.cell? p=some .nilIface])
 |k=>xQ k λv=>w.cell? p=some v/\K v [λd=>d.cell? p=some v]
def gF(P:aJ)(o:Oper)(E:Env)(K:aa->List (J->Prop)->Prop):Prop:=
 cS (E.ek o) (match qZ P (execOp E.ev o)with |some (.value v)=>K v []|_=>False)
def ET(z:aa)(K:aa->Prop):Prop:=
 match z with
 |.nilFunc=>∃f:Fv,K f.v
 |z=>oq z K
def aaz{z:aa}{K:aa->Prop}(h:ET z K):∃v,K v:=by
 unfold ET at h;split at h
 .grind
 .exact se h
def q4(P:aJ)(s:Sem aa)(z:aa)(w:J)(K:aa->List (J->Prop)->Prop):Prop:=
 ET z λv=>s.run P w=.ok v w/\K v [λd=>s.run P d=.ok v d]
def z6(P:aJ)(T:aE):Option Nat:=
 match P.underlying T with
 |some (.slice e)=>(P.info? e).map (·.size)
 |_=>none
def DA(P:aJ)(T:aE):Option (Nat×Nat):=
 match P.underlying T with
 |some (.array n e)=>(P.info? e).map λi=>(n,i.size)
 |_=>none
def X1{P:aJ}{T:aE}{n sz:Nat}(h:DA P T=some (n,sz)):∃e inf,P.underlying T=some (.array n e)/\P.info? e=some inf/\sz=inf.size:=by
 unfold DA at h;split at h
 .rename_i m e k;obtain⟨inf,j,d⟩:=Option.map_eq_some_iff.1 h
  grind
 grind
def isConst:Operand->Bool
 |.const _=>true
 |_=>false
def pF(P:aJ)(T:aE)(c:aa):Bool:=
 match P.underlying T,c with
 |some (.slice _),.slice none _ _=>true
 |some (.pointer _),.pointer none=>true
 |some (.map _ _),.map none=>true
 |_,_=>false
def oC:Option aa->aa->Option Bool
 |some (.slice a _ _),.slice none _ _=>some a.isNone
 |some (.pointer a),.pointer none=>some a.isNone
 |some (.map r),.map none=>some r.isNone
 |_,_=>none
def xO(P:aJ)(xs ys:Array aa):List Field->Option Bool
 |[]=>some true
 |f::d=>bif f.name=="_" then none else match P.underlying f.type,xs[f.offset]?,ys[f.offset]?,xO P xs ys d with
  |some (.int _),some (.int h a),some (.int j b),some r=>bif decide (h=j)then some ((a==b)&&r)else none
  |some .string,some (.string a),some (.string b),some r=>some ((a.toList==b.toList)&&r)
  |some .bool,some (.bool a),some (.bool b),some r=>some ((a==b)&&r)
  |_,_,_,_=>none
def Dt(P:aJ)(T:aE)(xs ys:Array aa):Option Bool:=match P.underlying T with
 |some (.struct d)=>bif (!P.stoodInHeld T&&!P.eqGuardType P.depth T)then xO P xs ys d.toList else none
 |_=>none
def uT(P:aJ)(o:Oper)(E:Env)(T:aE)(x y:Operand)(neg:Bool)(K:aa->List (J->Prop)->Prop):Prop:=match E.val x,E.val y with
 |some (.agg d),some (.agg h)=>match Dt P T d h with
  |some b=>K (.bool (bif neg then !b else b)) []
  |none=>False
 |_,_=>gF P o E K
def GO(P:aJ)(e:aE):Bool:=match P.underlying e,P.info? e with
 |some .string,some i=>i.size==1
 |_,_=>false
def R'(P:aJ)(e:aE):Bool:=match P.underlying e,P.info? e with
 |some (.int _),some i=>i.size==1
 |_,_=>false
def zV(P:aJ)(o:Oper)(E:Env)(w:J)(K:aa->List (J->Prop)->Prop):Prop:=
 match o.op with
 |.load h d=>match E.val d with
  |some (.pointer (some p))=>nC P h p w K
  |_=>False
 |.nilCheck d=>match E.val d with
  |some (.pointer D)=>eh D λp=>K (.pointer (some p)) []
  |_=>gF P o E K
 |.indexAddr h d y=>match E.val d,E.val y with
  |some (.slice a n _),some (.int _ i)=>match z6 P h with
   |some A=>0<=i/\i<(n:Int)/\eh a λp=>K (.pointer (some (p.add (i.toNat *A)))) []
   |none=>False
  |some (.pointer (some p)),some (.int _ i)=>match DA P h with
   |some (n,A)=>0<=i/\i<(n:Int)/\K (.pointer (some (p.add (i.toNat *A)))) []
   |none=>False
  |_,_=>gF P o E K
 |.index h d y=>match P.underlying h,E.val d,E.val y with
  |some .string,some (.string s),some (.int _ i)=>0<=i/\∃b:UInt8,s[i.toNat]? =some b/\K (.int .u8 b.toNat) []
  |some (.array n e),some (.agg F),some (.int _ i)=>bif GO P e then 0<=i/\i<(n:Int)/\∃a:ByteArray,F[i.toNat]? =some (.string a)/\K (.string a) []else cS (R' P e) (0<=i/\i<(n:Int)/\∃a:Int,F[i.toNat]? =some (.int .i64 a)/\K (.int .i64 a) [])
  |_,_,_=>gF P o E K
 |.slice h d lo x z=>cS (E.ek o) (match P.underlying h,E.val d with
  |some (.slice _),some (.slice a n c)=>match z6 P h with
   |some A=>oa (z.map E.ev) c c λm=>oa (x.map E.ev) m n λq=>cS (z.isNone||x.isSome) (oa (lo.map E.ev) q 0 λl=>
     K (.slice (if m=l then a else a.map (·.add (l *A))) (q - l) (m - l)) [])
   |none=>False
  |some .string,some (.string s)=>cS z.isNone (oa (x.map E.ev) s.size s.size λq=>oa (lo.map E.ev) q 0 λl=>K (.string (s.extract l q)) [])
  |some (.array n e),some (.pointer (some p))=>match P.info? e with
   |some inf=>oa (z.map E.ev) n n λm=>oa (x.map E.ev) m n λq=>cS (z.isNone||x.isSome) (oa (lo.map E.ev) q 0 λl=>
     K (.slice (some (if m=l then p else p.add (l *inf.size))) (q - l) (m - l)) [])
   |none=>False
  |_,_=>False)
 |.binOp .quo _ d j _=>bif isConst j then gF P o E K else match E.val d,E.val j with
  |some (.int k a),some (.int C b)=>cS (k==C) (b≠0/\K (.int k (k.wrap (a.tdiv b))) [])
  |_,_=>False
 |.binOp .rem _ d j _=>bif isConst j then gF P o E K else match E.val d,E.val j with
  |some (.int k a),some (.int C b)=>cS (k==C) (b≠0/\K (.int k (a.tmod b)) [])
  |_,_=>False
 |.binOp .eql h d (.const c) _=>bif pF P h c then(match oC (E.val d) c with
  |some b=>K (.bool b) []
  |none=>False)else uT P o E h d (.const c) false K
 |.binOp .neq h d (.const c) _=>bif pF P h c then(match oC (E.val d) c with
  |some b=>K (.bool !b) []
  |none=>False)else uT P o E h d (.const c) true K
 |.binOp .eql h d j _=>uT P o E h d j false K
 |.binOp .neq h d j _=>match P.underlying h,E.val d,E.val j with
  |some (.pointer _),some (.pointer p),some (.pointer D)=>q4 P (binOp .neq h (.pointer p) (.pointer D)) (.bool true) w K
  |_,_,_=>uT P o E h d j true K
 |.binOp .add _ d j _=>match E.val d,E.val j with
  |some (.string s),some (.string t)=>¬(((s.size+t.size:Nat):Int)>IntKind.i64.max)/\K (.string (s++t)) []
  |_,_=>gF P o E K
 |.binOp .shl _ d j _=>bif isConst j then gF P o E K else match E.val d,E.val j with
  |some (.int k a),some (.int _ b)=>¬b<0/\K (.int k (k.wrap (a *2^(min b.toNat k.bits)))) []
  |_,_=>False
 |.binOp .shr _ d j _=>bif isConst j then gF P o E K else match E.val d,E.val j with
  |some (.int k a),some (.int _ b)=>¬b<0/\K (.int k (a.fdiv (2^(min b.toNat k.bits)))) []
  |_,_=>False
 |.lookup h d y ok=>match E.val d,E.val y with
  |some m,some k=>q4 P (Instr.lookup h m k ok) (zeroOf P o.type) w K
  |_,_=>False
 |.convert s B d=>match P.underlying s,P.underlying B,E.val d with
  |some (.slice _),some .string,some v=>q4 P (convert s B v) (.string (bn #[])) w K
  |some (.pointer _),some .unsafePointer,some v=>q4 P (convert s B v) (.pointer none) w K
  |some .unsafePointer,some (.pointer _),some v=>q4 P (convert s B v) (.pointer none) w K
  |_,_,_=>gF P o E K
 |.call {callee:=.builtin .len,args,argTypes}=>match args.toList,argTypes.toList with
  |[d],[h]=>match P.underlying h,E.val d with
   |some (.map _ _),some m=>q4 P (Builtin.len_ #[h] o.type #[m]) (.int .i64 0) w K
   |_,_=>gF P o E K
  |_,_=>gF P o E K
 |_=>gF P o E K
def kY(op:BinOp)(T:aE)(x y:Operand)(a b:aa):Sem aa:=do eqGuard op T x y a b;binOp op T a b
def Fo(P:aJ)(o:Oper):Bool:=match o.op with
 |.binOp .eql d _ _ _|.binOp .neq d _ _ _=>match P.underlying d with
  |some (.interface _)=>true
  |_=>false
 |_=>false
def MC(P:aJ)(o:Oper)(E:Env)(w:J)(K:aa->List (J->Prop)->Prop):Prop:=match o.op with
 |.binOp op j d h _=>match E.val d,E.val h with
  |some a,some b=>q4 P (kY op j d h a b) (.bool true) w K
  |_,_=>False
 |_=>False
def oc(P:aJ)(o:Oper)(E:Env)(w:J)(K:aa->List (J->Prop)->Prop):Prop:=bif Fo P o then MC P o E w K else zV P o E w K
def ra(p:Addr):List aa->Nat->J->(J->Prop)->Prop
 |[],_,d,h=>h d
 |v::j,i,d,h=>(d.cell? (p.add i)).isSome=true/\d.frozen? (p.add i)=false/\ra p j (i+1) (d.setCell (p.add i) v) h
def qC(P:aJ)(o:Oper)(E:Env)(w:J)(K:aa->J->Prop):Prop:=
 cS (E.ek o) (match(execOp E.ev o).run P w with
  |.ok (.value v) d=>K v d
  |.ok .skip d=>K undef d
  |_=>False)
def r7(P:aJ)(s:Sem aa)(z:aa)(w:J)(K:aa->J->Prop):Prop:=
 oq z λv=>∃d,s.run P w=.ok v d/\K v d
def KL(P:aJ)(s:Sem Unit)(w:J)(K:aa->J->Prop):Prop:=
 ∃d,s.run P w=.ok () d/\K undef d
def hS(P:aJ)(f:cR):Bool:=match P.funcs[f]? with |some fn=>fn.body.isSome&&!(fn.name=="runtime.NumGoroutine")|none=>false
def xR(P:aJ)(f:cR)(args:Array aa)(z:aa)(w:J)(K:aa->J->Prop):Prop:=
 oq z λv=>∃d,(callFunc f args).run P w=.ok (.value v) d/\K v d
def qy(P:aJ)(f:cR)(args:Array aa)(z:aa)(w:J)(K:aa->J->Prop):Prop:=
 ai P f args w λe d=>oq z λv=>e=ae v/\K v d
def sT:aa->Bool
 |.agg _=>false
 |.tuple _=>false
 |_=>true
def hW(P:aJ)(o:Oper)(E:Env)(w:J)(K:aa->J->Prop):Prop:=
 match o.op with
 |.store d x y=>match E.val x,E.val y with
  |some (.pointer (some p)),some v=>cS (v.cells.size==(match P.info? d with |some i=>i.size|none=>0)&&v.cells.toList.all sT&&(P.info? d).isSome) (ra p v.cells.toList 0 w λY=>K undef Y)
  |_,_=>False
 |.mapUpdate d m h v|.insert d m h v=>match E.val m,E.val h,E.val v with
  |some m,some h,some v=>KL P (Instr.mapUpdate d m h v) w K
  |_,_,_=>False
 |.call {callee:=.builtin b,args,argTypes}=>cS (E.ek o) (match b with
  |.append=>r7 P (eA argTypes o.type (args.map E.ev)) (.slice none 0 0) w K
  |.copy=>r7 P (Builtin.copy_ argTypes o.type (args.map E.ev)) (.int .i64 0) w K
  |.unsafeSliceData=>r7 P (Builtin.unsafeSliceData_ argTypes o.type (args.map E.ev)) (.pointer none) w K
  |.unsafeString=>r7 P (Builtin.unsafeString_ argTypes o.type (args.map E.ev)) (.string (bn #[])) w K
  |.delete=>∃Y,(Builtin.delete_ argTypes o.type (args.map E.ev)).run P w=.ok undef Y/\K undef Y
  |.clear=>∃Y,(Builtin.clear_ argTypes o.type (args.map E.ev)).run P w=.ok (.tuple #[]) Y/\K (.tuple #[]) Y
  |_=>False)
 |.call {callee:=.value (.func f),args,..}=>cS (E.ek o) (bif hS P f then qy P f (args.map E.ev) (zeroOf P o.type) w K else xR P f (args.map E.ev) (zeroOf P o.type) w K)
 |.call {callee:=.value (.tmp t),args,..}=>cS (E.ek o) (match E.get? t with
  |some (.func (.func f) first captured)=>cS (hS P f) (qy P f (first++args.map E.ev++captured) (zeroOf P o.type) w K)
  |_=>False)
 |.makeSlice d l c=>match E.val l,E.val c with
  |some l,some c=>r7 P (Instr.makeSlice d l c) (.slice none 0 0) w K
  |_,_=>False
 |.range d x=>match E.val x with
  |some x=>∃v Y,(Instr.range d x).run P w=.ok v Y/\K v Y
  |_=>False
 |.next it s=>match E.val it with
  |some it=>(∃Y,(Instr.next it s o.type).run P w=.ok (.tuple #[.bool false]) Y/\K (.tuple #[.bool false]) Y)\/
    (match s with
     |true=>∃(i c:Int) (Y:J),(Instr.next it s o.type).run P w=.ok (.tuple #[.bool true,.int .i64 i,.int .i32 c]) Y/\K (.tuple #[.bool true,.int .i64 i,.int .i32 c]) Y
     |false=>∃(x y:aa) (Y:J),(Instr.next it s o.type).run P w=.ok (.tuple #[.bool true,x,y]) Y/\K (.tuple #[.bool true,x,y]) Y)
  |_=>False
 |.entry it=>match E.val it with
  |some it=>∃(x y:aa) (Y:J),(Instr.entry it).run P w=.ok (.tuple #[x,y]) Y/\K (.tuple #[x,y]) Y
  |_=>False
 |.convert s j x=>match E.val x with
  |some v=>r7 P (convert s j v) (.slice none 0 0) w K
  |_=>False
 |_=>qC P o E w K
def ahh(P:aJ)(l:Nat)(args:Array aa)(w:J)(K:aa->J->Prop):Prop:=
 YieldAt Fence.wide 0 P l args w λe d=>∃b:Bool,e=ae (.bool b)/\K (.bool b) d
def uH(P:aJ)(o:Oper)(E:Env)(w:J)(K:aa->J->Prop):Prop:=
 match o.op with
 |.call {callee:=.value (.tmp t),args,..}=>match E.get? t with
  |some (.func (.yield l) h d)=>cS (E.ek o&&(cm h.size 0&&cm d.size 0)) (ahh P l (args.map E.ev) w K)
  |_=>hW P o E w K
 |_=>hW P o E w K
abbrev aS(w:J)(p:Addr)(v:aa)(K:J->Prop):Prop:=(w.cell? p).isSome=true/\w.frozen? p=false/\K (w.setCell p v)
abbrev dG(w:J)(o:Obj)(K:J->Prop):Prop:=K (w.alloc o)
abbrev mT(w:J)(l:Nat)(a b:Obj)(K:J->Prop):Prop:=w.heap[l]? =some a/\K (w.putObj l b)
abbrev mF(w:J)(K:J->Prop):Prop:=K w.drew
def MZ{P:aJ}{T:aE}{b:Bool}(h:rT P T=some b)(w:J):(isAgg T).run P w=.ok b w:=by
 unfold rT at h;unfold isAgg;cases d:P.underlying T with
 |none=>grind
 |some j=>rw[d]at h;cases j<;>simp[run_underlying d]at h ⊢<;>first |exact h|simp[<-h]
def yL{P:aJ}{T:aE}{p:Addr}{v:aa}{w:J}(d:rT P T=some false)(h:w.cell? p=some v):(loadVar T p).run P w=.ok v w:=by simp[loadVar,MZ d,h]
def Uz{P:aJ}{T:aE}{p:Addr}{vs:List aa}{i:TypeInfo}{w:J}(h:rT P T=some true)(hi:P.info? T=some i)(k:i.size=vs.length)(j:∀d v,vs[d]? =some v->w.cell? (p.add d)=some v):(loadVar T p).run P w=.ok (.agg vs.toArray) w:=by have:=run_loadCells_list (P:=P) w p vs j;simp[loadVar,MZ h,sizeOf,typeInfo,hi,k,this]
def Calm(P:aJ)(o:Oper)(ρ:Operand->aa)(w:J)(v:aa)(j:List (J->Prop)):Prop:=
 (∀d∈j,d w)/\∀h,(∀d∈j,d h)->(execOp ρ o).run P h=.ok (.value v) h
def SZ{P:aJ}{o:Oper}{E:Env}{w:J}{n:Cx}{a:Act}{K:aa->List (J->Prop)->Prop}(y:∀j b,o.op≠.select j b)(q:Ag n a E)(h:gF P o E K):∃v d,K v d/\Calm P o a.eval w v d:=by
 obtain⟨x,h⟩:=ee h;split at h
 .rename_i v z;refine⟨v,[],h,λd k=>(by cases k),λA _=>?_⟩;rw[q.execOp y x];exact SY z A
 grind
def s4{P:aJ}{s:Sem aa}{z:aa}{w:J}{K:aa->List (J->Prop)->Prop}{o:Oper}{ρ:Operand->aa}(q:execOp ρ o=(do pure (.value (<-s))))(h:q4 P s z w K):∃v d,K v d/\Calm P o ρ w v d:=by
 obtain⟨v,B,k⟩:=aaz h;refine⟨v,_,k,λd A=>?_,λj y=>?_⟩
 .grind
 .have x:s.run P j=.ok v j:=y _ (b0.2 rfl);rw[q];simp[x]
def qw{P:aJ}{x:Option aa}{y d:Nat}{K:Nat->Prop}(h:oa x y d K):∃l,K l/\((x=none/\l=d)\/∃v,x=some v/\∀code j,(Instr.sliceBound v y code).run P j=.ok l j):=by
 unfold oa at h;split at h
 .grind
 .rename_i z i;obtain⟨k,q,w⟩:=h;refine⟨_,w,.inr ⟨_,rfl,λcode j=>?_⟩⟩;simp[Instr.sliceBound,asIntOf,k,q]
 grind
def HU{P:aJ}{q:Bool}{n c m h l:Nat}{L H M:Option aa}{w:J}(k:(M=none/\m=c)\/∃v,M=some v/\∀code w,(Instr.sliceBound v c code).run P w=.ok m w)(d:(H=none/\h=n)\/∃v,H=some v/\∀code w,(Instr.sliceBound v m code).run P w=.ok h w)(j:(L=none/\l=0)\/∃v,L=some v/\∀code w,(Instr.sliceBound v h code).run P w=.ok l w)(x:M≠none->H=none->False):(Instr.sliceBounds q n c L H M).run P w=.ok (l,h,m) w:=by unfold Instr.sliceBounds;rcases k with⟨rfl,rfl⟩|⟨B,rfl,y⟩<;>rcases d with⟨rfl,rfl⟩|⟨C,rfl,z⟩<;>rcases j with⟨rfl,rfl⟩|⟨D,rfl,A⟩<;>first |(simp[*];done)|grind
def FK{P:aJ}{T:aE}{p:Addr}{w:J}{K:aa->List (J->Prop)->Prop}(h:nC P T p w K):
  ∃v A,K v A/\(∀s∈A,s w)/\∀q,(∀s∈A,s q)->(loadVar T p).run P q=.ok v q:=by
 obtain⟨d,h⟩:=ee h;unfold zE at d;cases z:zeroOf P T with
 |agg H=>
  rw[z]at h d;simp only at h d;obtain⟨L,I,h⟩:=EO h;obtain⟨y,j⟩:=ud h;rw[bH]at d;obtain⟨C,D⟩:=d;cases E:P.info? T with
  |none=>grind
  |some i=>
   rw[E]at D;simp at D C;refine⟨_,_,j,?_,λq k=>?_⟩
   .intro s x;obtain⟨⟨v,B⟩,G,rfl⟩:=bS.1 x;exact y _ (bS.2 ⟨(v,B),G,rfl⟩)
   .refine Uz C E (by grind) (λB v F=>?_);have:=k _ (bS.2 ⟨(v,B),List.mem_zipIdx_iff_getElem?.2 F,rfl⟩);omega
 |nilIface=>
  rw[z]at h d;simp at d;rcases h with⟨t,M,y,j⟩|⟨y,j⟩
  .refine ⟨_,_,j,λs x=>?_,λq k=>?_⟩
   .grind
   .exact yL d (k _ (b0.2 rfl))
  .refine ⟨_,_,j,λs x=>?_,λq k=>?_⟩
   .grind
   .exact yL d (k _ (b0.2 rfl))
 |nilFunc=>
  rw[z]at h d;obtain⟨f,y,j⟩:=h;simp at d;refine⟨f.v,_,j,λs x=>?_,λq k=>?_⟩
  .grind
  .exact yL d (k _ (b0.2 rfl))
 |_=>
  rw[z]at h d;try simp only at h
  try simp only at d
  obtain⟨v,y,j⟩:=EN h;simp at d;refine⟨v,_,j,λs x=>?_,λq k=>?_⟩
  .simp at x;subst x;exact y
  .exact yL d (k _ (b0.2 rfl))
def KS{P:aJ}{T:aE}{sz:Nat}(h:z6 P T=some sz):∃e i,P.underlying T=some (.slice e)/\P.info? e=some i/\i.size=sz:=by
 unfold z6 at h;split at h
 .rename_i e d;cases j:P.info? e with
  |none=>grind
  |some i=>grind
 grind
def A3{v c:aa}{b:Bool}(h:oC (some v) c=some b):(∃a n m j d,v=.slice a n m/\c=.slice none j d/\b=a.isNone)\/(∃a,v=.pointer a/\c=.pointer none/\b=a.isNone)\/(∃r,v=.map r/\c=.map none/\b=r.isNone):=by
 unfold oC at h
 grind
def RK{P:aJ}{T:aE}{c v:aa}{b:Bool}(d:pF P T c=true)(k:oC (some v) c=some b)(w:J):(Op.equal T v c).run P w=.ok b w:=by
 unfold Op.equal Op.maxDepth Op.equalIn;cases h:P.underlying T with
 |none=>simp[pF,h]at d
 |some j=>
  simp only[Sem.run_bind,run_underlying h,Result.andThen_ok];unfold pF at d;rw[h]at d;rcases A3 k with⟨a,n,m,x,q,rfl,rfl,rfl⟩|⟨a,rfl,rfl,rfl⟩|⟨a,rfl,rfl,rfl⟩<;>cases j<;>first |(cases d;done)|(cases a<;>rfl)
def adl{P:aJ}{T:aE}{c v:aa}{b:Bool}(h:pF P T c=true)(d:oC (some v) c=some b)(w:J):(binOp .eql T v c).run P w=.ok (.bool b) w:=by have:=RK h d w;rcases A3 d with⟨a,n,m,k,j,rfl,rfl,rfl⟩|⟨a,rfl,rfl,rfl⟩|⟨a,rfl,rfl,rfl⟩<;>simp[binOp,this]
def adm{P:aJ}{T:aE}{c v:aa}{b:Bool}(h:pF P T c=true)(d:oC (some v) c=some b)(w:J):(binOp .neq T v c).run P w=.ok (.bool !b) w:=by have:=RK h d w;rcases A3 d with⟨a,n,m,k,j,rfl,rfl,rfl⟩|⟨a,rfl,rfl,rfl⟩|⟨a,rfl,rfl,rfl⟩<;>simp[binOp,this]
def RL{P:aJ}{op:BinOp}{T:aE}{c v:aa}{b:Bool}{p h:Operand}(d:oC (some v) c=some b)(w:J):(eqGuard op T p h v c).run P w=.ok () w:=by rcases A3 d with⟨a,n,m,k,j,rfl,rfl,rfl⟩|⟨a,rfl,rfl,rfl⟩|⟨a,rfl,rfl,rfl⟩<;>cases op<;>rfl
set_option maxHeartbeats 1000000 in
def vP{P:aJ}{t:aE}{u:TypeDesc}(h:P.underlying t=some u)(d:(match u with |.struct _|.array _ _=>true|_=>false)=false){xs:Array aa}{off:Nat}{v:aa}(j:xs[off]? =some v)(w:J):(part t xs off).run P w=.ok v w:=by unfold part isAgg;cases u<;>first |(simp at d;done)|simp[run_underlying h,j]
def Af{P:aJ}{xs ys:Array aa}(d:Nat)(w:J):∀(q:List Field) (b:Bool),xO P xs ys q=some b->(Op.eqFields (d+1) xs ys q).run P w=.ok b w
 |[],b,h=>by simp[xO]at h;subst h;rfl
 |f::q,b,h=>by
  unfold xO at h;cases F:(f.name=="_")with
  |true=>grind
  |false=>
   rw[F]at h;simp only[cond_false]at h;have G:f.name≠"_":=by grind
   unfold Op.eqFields;rw[au G];split at h
   .rename_i I D a H k r j y z x;cases C:decide (D=H)with
    |false=>grind
    |true=>
     rw[C]at h;have E:=eT C;subst E;simp only[cond_true,fy]at h;subst h;have A:=Af d w q r x;simp only[Sem.run_bind,vP j rfl y w,vP j rfl z w,Result.andThen_ok,run_equalIn_int w d f.type D I a k j];cases B:(a==k)<;>simp[A]
   .rename_i a k r j y z x;simp only[fy]at h;subst h;have A:=Af d w q r x;simp only[Sem.run_bind,vP j rfl y w,vP j rfl z w,Result.andThen_ok,run_equalIn_string w d f.type a k j];cases B:(a.toList==k.toList)<;>simp[A]
   .rename_i a k r j y z x;simp only[fy]at h;subst h;have A:=Af d w q r x;simp only[Sem.run_bind,vP j rfl y w,vP j rfl z w,Result.andThen_ok,run_equalIn_bool w d f.type a k j];cases B:(a==k)<;>simp[A]
   grind
def XU{P:aJ}{T:aE}{xs ys:Array aa}{b:Bool}(h:Dt P T xs ys=some b)(w:J):P.eqGuardType P.depth T=false/\(Op.equalIn 10000 T (.agg xs) (.agg ys)).run P w=.ok b w:=by
 unfold Dt at h;split at h
 .rename_i j y;cases d:(!P.stoodInHeld T&&!P.eqGuardType P.depth T)with
  |false=>grind
  |true=>
   rw[d]at h;simp only[cond_true]at h;rw[bH]at d;have k:P.stoodInHeld T=false:=by grind
   have q:P.eqGuardType P.depth T=false:=by grind
   have x:P.fieldsOf T=j:=by unfold Program.fieldsOf;rw[y]
   refine⟨q,?_⟩;rw[run_equalIn_struct w 9999 T xs ys (by grind) k,x];exact Af 9998 w _ _ h
 grind
def Ah{P:aJ}{o:Oper}{E:Env}{w:J}{n:Cx}{a:Act}{K:aa->List (J->Prop)->Prop}{op:BinOp}{T C:aE}{x y:Operand}{neg:Bool}(M:∀D b,o.op≠.select D b)(q:Ag n a E)(L:o.op=.binOp op T x y C)(H:(op=.eql/\neg=false)\/(op=.neq/\neg=true))(h:uT P o E T x y neg K):∃v k,K v k/\Calm P o a.eval w v k:=by
 unfold uT at h;split at h
 .rename_i d j N O;split at h
  .rename_i b I;refine⟨_,_,h,λk G=>(by cases G),λz _=>?_⟩;obtain⟨A,B⟩:=XU I z;have F:execOp a.eval o=(do pure (.value (<-(do eqGuard op T x y (.agg d) (.agg j);binOp op T (.agg d) (.agg j))))):=by simp only[execOp,L,q.val N,q.val O]
   rw[F];rcases H with⟨rfl,rfl⟩|⟨rfl,rfl⟩
   .simp only[Sem.run_bind,run_eqGuard_agg z _ T x y d j A,Result.andThen_ok,run_eql_struct,B];rfl
   .simp only[Sem.run_bind,run_eqGuard_agg z _ T x y d j A,Result.andThen_ok,run_neq_struct,B];rfl
  grind
 .exact SZ M q h
def ZS{P:aJ}{o:Oper}{E:Env}{w:J}{n:Cx}{a:Act}{K:aa->List (J->Prop)->Prop}(hs:∀cs b,o.op≠.select cs b)(k:Ag n a E)(h:zV P o E w K):∃v z,K v z/\Calm P o a.eval w v z:=by
 have pure':gF P o E K->∃v z,K v z/\Calm P o a.eval w v z:=SZ hs k;unfold zV at h;split at h
 .
  rename_i A B j;split at h
  .rename_i p d;obtain⟨v,z,x,H,h2⟩:=FK h;refine⟨v,z,x,H,λy au=>?_⟩;simp[execOp,j,Instr.loadAt,k.val d,Instr.sureAddr,h2 y au]
  grind
 .
  rename_i B j;split at h
  .rename_i av d;obtain⟨p,rfl,x⟩:=sV h;refine⟨_,_,x,λz q=>(by cases q),λy _=>?_⟩;simp[execOp,j,k.val d]
  grind
 .
  rename_i A B ix j;split at h
  .rename_i b n c O i d D;split at h
   .rename_i sz ac;obtain⟨L,H,h⟩:=h;obtain⟨p,rfl,x⟩:=sV h;obtain⟨e,inf,G,M,rfl⟩:=KS ac;refine⟨_,_,x,λz q=>(by cases q),λy _=>?_⟩;simp[execOp,j,k.val d,k.val D,Instr.indexAt,asIntOf,run_underlying G,L,H,sizeOf,typeInfo,M]
   grind
  .rename_i p O i d D;split at h
   .rename_i n sz ac;obtain⟨L,H,x⟩:=h;obtain⟨e,inf,G,M,rfl⟩:=X1 ac;refine⟨_,_,x,λz q=>(by cases q),λy _=>?_⟩;simp[execOp,j,k.val d,k.val D,Instr.indexAt,Instr.sureAddr,asIntOf,run_underlying G,L,H,sizeOf,typeInfo,M]
   grind
  grind
 .
  rename_i A B ix j;split at h
  .rename_i s O i G d D;obtain⟨L,b,F,x⟩:=h;refine⟨_,_,x,λz q=>(by cases q),λy _=>?_⟩;simp[execOp,j,k.val d,k.val D,Instr.index,asIntOf,run_underlying G,L,F]
  .rename_i n e cs O i G d D;cases hz:GO P e with
   |true=>
    rw[hz]at h;obtain⟨L,N,b,F,x⟩:=h;unfold GO at hz;split at hz
    .rename_i inf ah M;have H:inf.size=1:=by grind
     refine⟨_,_,x,λz q=>(by cases q),λy _=>?_⟩;simp[execOp,j,k.val d,k.val D,Instr.index,asIntOf,run_underlying G,L,N,sizeOf,typeInfo,M,H,part,isAgg,run_underlying ah,F]
    grind
   |false=>
   rw[hz]at h;obtain⟨H,L,N,b,F,x⟩:=ee h;unfold R' at H;split at H
   .rename_i C inf ah M;have H:inf.size=1:=by grind
    refine⟨_,_,x,λz q=>(by cases q),λy _=>?_⟩;simp[execOp,j,k.val d,k.val D,Instr.index,asIntOf,run_underlying G,L,N,sizeOf,typeInfo,M,H,part,isAgg,run_underlying ah,F]
   grind
  grind
 .
  rename_i A B lo D S j;obtain⟨an,h⟩:=ee h;have ad:∀C∈o.op.operands,(E.val C).isSome=true:=λC I=>ff.1 an C (by grind);have ag:lo.map a.eval=lo.map E.ev:=by
   cases lo with
   |none=>rfl
   |some C=>simp only[Option.map_some];rw[k.ev (ad C (by rw[j];simp[Op.operands]))]
  have ae:D.map a.eval=D.map E.ev:=by
   cases D with
   |none=>rfl
   |some C=>simp only[Option.map_some];rw[k.ev (ad C (by rw[j];simp[Op.operands]))]
  have ak:S.map a.eval=S.map E.ev:=by
   cases S with
   |none=>rfl
   |some C=>simp only[Option.map_some];rw[k.ev (ad C (by rw[j];simp[Op.operands]))]
  split at h
  .rename_i e b n c G d;split at h
   .rename_i sz ac;obtain⟨m,h,hm⟩:=qw (P:=P) h;obtain⟨Y,h,Z⟩:=qw (P:=P) h;obtain⟨ap,h⟩:=ee h;obtain⟨l,x,hl⟩:=qw (P:=P) h;obtain⟨e',inf,am,M,rfl⟩:=KS ac;rw[am]at G;cases G;refine⟨_,_,x,λz q=>(by cases q),λy _=>?_⟩;have ab:(Instr.sliceBounds true n c (lo.map E.ev) (D.map E.ev) (S.map E.ev)).run P y=.ok (l,Y,m) y:=by refine HU hm Z hl ?_;intro H h2;cases S<;>cases D<;>simp_all
    simp only[execOp,j,k.val d,ag,ae,ak];simp[Instr.sliceAt,run_underlying am,Instr.slice,ab,sizeOf,typeInfo,M]
   grind
  .rename_i s G d;obtain⟨aq,h'⟩:=ee h;clear h;have ar:S=none:=by simpa using aq
   subst ar;obtain⟨Y,h,Z⟩:=qw (P:=P) h';obtain⟨l,x,hl⟩:=qw (P:=P) h;refine⟨_,_,x,λz q=>(by cases q),λy _=>?_⟩;have ab:(Instr.sliceBounds false s.size s.size (lo.map E.ev) (D.map E.ev) none).run P y=.ok (l,Y,s.size) y:=by exact HU (.inl ⟨rfl,rfl⟩) Z hl (λH _=>absurd rfl H)
   simp only[execOp,j,k.val d,ag,ae];simp[Instr.sliceAt,run_underlying G,Instr.slice,ab]
  .rename_i n e p G d;split at h
   .rename_i inf M;obtain⟨m,h,hm⟩:=qw (P:=P) h;obtain⟨Y,h,Z⟩:=qw (P:=P) h;obtain⟨ap,h⟩:=ee h;obtain⟨l,x,hl⟩:=qw (P:=P) h;refine⟨_,_,x,λz q=>(by cases q),λy _=>?_⟩;have ab:(Instr.sliceBounds false n n (lo.map E.ev) (D.map E.ev) (S.map E.ev)).run P y=.ok (l,Y,m) y:=by refine HU hm Z hl ?_;intro H h2;cases S<;>cases D<;>simp_all
    simp only[execOp,j,k.val d,ag,ae,ak];simp[Instr.sliceAt,Instr.sureAddr,run_underlying G,ab,sizeOf,typeInfo,M]
   grind
  grind
 .
  rename_i A B C Q j;cases U:isConst C with
  |true=>grind
  |false=>
   rw[U]at h;simp only[cond_false]at h;split at h
   .rename_i O i k' ai d I;obtain⟨ao,W,x⟩:=ee h;have af:O=k':=by grind
    subst af;refine⟨_,_,x,λz q=>(by cases q),λy _=>?_⟩;simp[execOp,j,k.val d,k.val I,eqGuard,binOp,Op.intDiv,W]
   grind
 .
  rename_i A B C Q j;cases U:isConst C with
  |true=>grind
  |false=>
   rw[U]at h;simp only[cond_false]at h;split at h
   .rename_i O i k' ai d I;obtain⟨ao,W,x⟩:=ee h;have af:O=k':=by grind
    subst af;refine⟨_,_,x,λz q=>(by cases q),λy _=>?_⟩;simp[execOp,j,k.val d,k.val I,eqGuard,binOp,Op.intDiv,W]
   grind
 .
  rename_i A B c Q j;cases N:pF P A c with
  |false=>rw[N]at h;exact Ah hs k j (.inl ⟨rfl,rfl⟩) h
  |true=>
   rw[N]at h;simp only[cond_true]at h;split at h
   .rename_i b F;refine⟨_,_,h,λz q=>(by cases q),λy _=>?_⟩;cases d:E.val B with
    |none=>rw[d]at F;simp[oC]at F
    |some v=>
     rw[d]at F;have T:execOp a.eval o=(do pure (.value (<-(do eqGuard .eql A B (.const c) v c;binOp .eql A v c)))):=by simp only[execOp,j,k.val d];rfl
     rw[T];simp[RL F y,adl N F y]
   grind
 .
  rename_i A B c Q j;cases N:pF P A c with
  |false=>rw[N]at h;exact Ah hs k j (.inr ⟨rfl,rfl⟩) h
  |true=>
   rw[N]at h;simp only[cond_true]at h;split at h
   .rename_i b F;refine⟨_,_,h,λz q=>(by cases q),λy _=>?_⟩;cases d:E.val B with
    |none=>rw[d]at F;simp[oC]at F
    |some v=>
     rw[d]at F;have T:execOp a.eval o=(do pure (.value (<-(do eqGuard .neq A B (.const c) v c;binOp .neq A v c)))):=by simp only[execOp,j,k.val d];rfl
     rw[T];simp[RL F y,adm N F y]
   grind
 .
  rename_i A B C Q _ j;exact Ah hs k j (.inl ⟨rfl,rfl⟩) h
 .rename_i A B C Q _ j;split at h
  .rename_i p av G d I;refine s4 ?_ h;simp only[execOp,j,k.val d,k.val I];rfl
  .exact Ah hs k j (.inr ⟨rfl,rfl⟩) h
 .
  rename_i A B C Q j;split at h
  .rename_i s t d I;obtain⟨L,x⟩:=h;refine⟨_,_,x,λz q=>(by cases q),λy _=>?_⟩;have T:execOp a.eval o=(do pure (.value (<-(do eqGuard .add A B C (.string s) (.string t);binOp .add A (.string s) (.string t))))):=by simp only[execOp,j,k.val d,k.val I]
   rw[T];simp only[eqGuard,binOp,Op.stringOp,L];rfl
  grind
 .
  rename_i A B C Q j;cases U:isConst C with
  |true=>grind
  |false=>
   rw[U]at h;simp only[cond_false]at h;split at h
   .rename_i O i k' ai d I;obtain⟨W,x⟩:=h;refine⟨_,_,x,λz q=>(by cases q),λy _=>?_⟩;simp[execOp,j,k.val d,k.val I,eqGuard,binOp,Op.shift,W]
   grind
 .
  rename_i A B C Q j;cases U:isConst C with
  |true=>grind
  |false=>
   rw[U]at h;simp only[cond_false]at h;split at h
   .rename_i O i k' ai d I;obtain⟨W,x⟩:=h;refine⟨_,_,x,λz q=>(by cases q),λy _=>?_⟩;simp[execOp,j,k.val d,k.val I,eqGuard,binOp,Op.shift,W]
   grind
 .
  rename_i A B ix ok j;split at h
  .rename_i m O d D;exact s4 (by simp[execOp,j,k.val d,k.val D]) h
  grind
 .
  rename_i s ax B j;split at h
  .rename_i e v al aj d;exact s4 (by simp[execOp,j,k.val d]) h
  .rename_i e v al aj d;exact s4 (by simp[execOp,j,k.val d]) h
  .rename_i e v al aj d;exact s4 (by simp[execOp,j,k.val d]) h
  grind
 .
  rename_i args aw j;split at h
  .rename_i B A d hT;split at h
   .rename_i kt et m G hm;refine s4 ?_ h;have T:args=#[B]:=by grind
    have e2:aw=#[A]:=by grind
    simp[execOp,j,T,e2,resolve,invoke,builtin,k.val hm]
   grind
  grind
 grind
def zW{P:aJ}{o:Oper}{E:Env}{w:J}{n:Cx}{a:Act}{K:aa->List (J->Prop)->Prop}(y:∀q b,o.op≠.select q b)(d:Ag n a E)(h:oc P o E w K):∃v j,K v j/\Calm P o a.eval w v j:=by
 unfold oc at h;cases k:Fo P o with
 |false=>rw[k]at h;exact ZS y d h
 |true=>
  rw[k]at h;simp only[cond_true]at h;unfold MC at h;split at h
  .rename_i op B D F C x;split at h
   .rename_i u v z A;refine s4 ?_ h;simp only[execOp,x,d.val z,d.val A];rfl
   grind
  grind
def Vq{P:aJ}{p:Addr}:∀{vs:List aa} {i:Nat} {w:J} {K:J->Prop},vs.all sT=true->ra p vs i w K->
  ∃h,(storeCells p vs i).run P w=.ok () h/\K h
 |[],i,w,K,_,d=>⟨w,by simp[storeCells],d⟩
 |v::vs,i,w,K,j,d=>by
  obtain⟨q,x,d⟩:=d;rw[List.all_cons,bH]at j;obtain⟨h,z,y⟩:=Vq (P:=P) j.2 d;refine⟨h,?_,y⟩;obtain⟨u,B⟩:=Option.isSome_iff_exists.1 q;have A:(store (p.add i) v).run P w=.ok () (w.setCell (p.add i) v):=by have k:=j.1;cases v<;>first |(simp[sT]at k;done)|simp[store,Sem.run,B,x]
  simp[storeCells,A,z]
def xb{P:aJ}{f:cR}(h:hS P f=true)(args:Array aa)(w:J):(callFunc f args).run P w=.ok (.enter f args) w:=by
 unfold hS at h;cases d:P.funcs[f]? with
 |none=>grind
 |some fn=>
  rw[d]at h;simp at h;obtain⟨q,j⟩:=h;have k:fn.body≠none:=by grind
  simp[callFunc,d,j,k]
def Ag.args{n:Cx}{a:Act}{E:Env}(h:Ag n a E){args:Array Operand}(j:∀d∈args,(E.val d).isSome=true):args.map a.eval=args.map E.ev:=
 Array.map_congr_left λd k=>h.ev (j d k)
def jl(P:aJ)(o:Oper)(a:Act)(w:J)(K:aa->J->Prop):Prop:=
 ∀d:Exit->Act->J->Prop,o.wp P a w (λh j=>∃v,h=a.put o.dst v/\K v j) d
def Kb{P:aJ}{f:cR}{args:Array aa}{z:aa}{w:J}{K:aa->J->Prop}{o:Oper}{a:Act}(j:(execOp a.eval o).run P w=.ok (.enter f args) w)(h:qy P f args z w K):jl P o a w K:=by
 intro k;unfold Oper.wp;rw[j];simp only[Oper.upon];refine Calls.mono h λe x d=>?_;obtain⟨v,rfl,q⟩:=se d
 grind
def uE{P:aJ}{s:Sem aa}{z:aa}{w:J}{K:aa->J->Prop}{o:Oper}{a:Act}(j:execOp a.eval o=(do pure (.value (<-s))))(h:r7 P s z w K):jl P o a w K:=by
 intro k;obtain⟨v,x,d,q⟩:=se h;unfold Oper.wp;rw[j];simp only[Sem.run_bind,d,Result.andThen_ok,Sem.run_pure,Oper.upon]
 grind
set_option maxHeartbeats 1000000 in
def og{P:aJ}{o:Oper}{E:Env}{w:J}{n:Cx}{a:Act}{K:aa->J->Prop}(hs:∀Q b,o.op≠.select Q b)(j:Ag n a E)(h:hW P o E w K):jl P o a w K:=by
 unfold hW at h;split at h
 .
  rename_i G A O d;split at h
  .rename_i p v y hy;obtain⟨L,h⟩:=ee h;rw[bH,bH]at L;obtain⟨⟨T,W⟩,Z⟩:=L;obtain⟨i,D⟩:=Option.isSome_iff_exists.1 Z;rw[D]at T;have U:v.cells.size=i.size:=by grind
   obtain⟨Y,k,z⟩:=Vq (P:=P) W h;intro B;unfold Oper.wp;have:(execOp a.eval o).run P w=.ok .skip Y:=by simp[execOp,d,Instr.storeAt,j.val y,j.val hy,Instr.sureAddr,storeVar,sizeOf,typeInfo,D,U,k]
   rw[this];simp only[Oper.upon]
   grind
  grind
 .
  rename_i G m ac v d;split at h
  .rename_i mv kv vv H z I;obtain⟨Y,k,S⟩:=h;intro B;unfold Oper.wp;have:(execOp a.eval o).run P w=.ok .skip Y:=by simp[execOp,d,j.val H,j.val z,j.val I,k]
   rw[this];simp only[Oper.upon]
   grind
  grind
 .
  rename_i G m ac v d;split at h
  .rename_i mv kv vv H z I;obtain⟨Y,k,S⟩:=h;intro B;unfold Oper.wp;have:(execOp a.eval o).run P w=.ok .skip Y:=by simp[execOp,d,j.val H,j.val z,j.val I,k]
   rw[this];simp only[Oper.upon]
   grind
  grind
 .
  rename_i b args N d;obtain⟨C,h⟩:=ee h;have q:args.map a.eval=args.map E.ev:=j.args λA y=>ff.1 C A (by rw[d];simp[Op.operands,Call.operands,y]);split at h
  .exact uE (by simp[execOp,d,resolve,invoke,builtin,q]) h
  .exact uE (by simp[execOp,d,resolve,invoke,builtin,q]) h
  .exact uE (by simp[execOp,d,resolve,invoke,builtin,q]) h
  .exact uE (by simp[execOp,d,resolve,invoke,builtin,q]) h
  .obtain ⟨Y,k,z⟩:=h;intro B;unfold Oper.wp;have:(execOp a.eval o).run P w=.ok (.value undef) Y:=by simp[execOp,d,resolve,invoke,builtin,q,k]
   rw[this];simp only[Oper.upon]
   grind
  .obtain ⟨Y,k,z⟩:=h;intro B;unfold Oper.wp;have:(execOp a.eval o).run P w=.ok (.value (.tuple #[])) Y:=by simp[execOp,d,resolve,invoke,builtin,q,k]
   rw[this];simp only[Oper.upon]
   grind
  grind
 .
  rename_i f args N d;obtain⟨C,h⟩:=ee h;have q:args.map a.eval=args.map E.ev:=j.args λA y=>ff.1 C A (by rw[d];simp[Op.operands,Call.operands,y]);cases F:hS P f with
  |true=>
   rw[F]at h;refine Kb ?_ h;simp[execOp,d,resolve,Act.eval,Deferred.ofValue,invoke,q,xb F]
  |false=>
   rw[F,cond_false]at h;unfold xR at h;obtain⟨v,Y,k,z⟩:=se h;intro B;unfold Oper.wp;have:(execOp a.eval o).run P w=.ok (.value v) Y:=by simp[execOp,d,resolve,Act.eval,Deferred.ofValue,invoke,q,k]
   rw[this];simp only[Oper.upon]
   grind
 .
  rename_i t args N d;obtain⟨C,h⟩:=ee h;have q:args.map a.eval=args.map E.ev:=j.args λA y=>ff.1 C A (by rw[d];simp[Op.operands,Call.operands,y]);split at h
  .rename_i f first captured hf
   obtain⟨F,h⟩:=ee h;have ab:a.eval (.tmp t)=.func (.func f) first captured:=j.val (x:=.tmp t) hf
   refine Kb ?_ h;simp[execOp,d,resolve,ab,Deferred.ofValue,invoke,q,xb F]
  grind
 .
  rename_i G l c d;split at h
  .rename_i lv cv hl C;exact uE (by simp[execOp,d,j.val hl,j.val C]) h
  grind
 .
  rename_i G A d;split at h
  .rename_i xv y;obtain⟨v,Y,k,z⟩:=h;intro B;unfold Oper.wp;have:(execOp a.eval o).run P w=.ok (.value v) Y:=by simp[execOp,d,j.val y,k]
   rw[this];simp only[Oper.upon]
   grind
  grind
 .
  rename_i it s d;split at h
  .rename_i M D;have fin:∀(v:aa) (Y:J),(Instr.next M s o.type).run P w=.ok v Y->K v Y->jl P o a w K:=λv Y k z B=>by
    unfold Oper.wp;have:(execOp a.eval o).run P w=.ok (.value v) Y:=by simp[execOp,d,j.val D,k]
    rw[this];simp only[Oper.upon]
    grind
   grind
  grind
 .
  rename_i it d;split at h
  .rename_i M D;obtain⟨A,O,Y,k,z⟩:=h;intro B;unfold Oper.wp;have:(execOp a.eval o).run P w=.ok (.value (.tuple #[A,O])) Y:=by simp[execOp,d,j.val D,k]
   rw[this];simp only[Oper.upon]
   grind
  grind
 .
  rename_i s ad A d;split at h
  .rename_i v y;exact uE (by simp[execOp,d,j.val y]) h
  grind
 .
  obtain⟨C,h⟩:=ee h;intro B;unfold Oper.wp;rw[j.execOp hs C];generalize(execOp E.ev o).run P w=r at h;split at h
  .simp only[Oper.upon];grind
  .simp only[Oper.upon];grind
  grind
def zk(P:aJ)(n:Cx)(o:Oper)(a:Act)(w:J)(K:aa->J->Prop):Prop:=
 ∀d:Exit->Act->J->Prop,o.wpIn (FW n) 0 P a w (λh j=>∃v,h=a.put o.dst v/\K v j) d
def Kc{n:Cx}{P:aJ}{f:cR}{args:Array aa}{w:J}{R:bW->J->Prop}(h:ai P f args w R):CallsIn (FW n) 0 P f args w R:=by
 have d:CallsIn Fence.wide 0 P f args w R:=callsIn_wide.2 h;obtain⟨n,k,j⟩:=n;cases j with
 |none=>exact d
 |some l=>exact d
def ae'{n:Cx}{P:aJ}{row:String}{args:Array aa}{w:J}{R:aa->J->Prop}(h:Rows P row args w R):RowsIn (FW n) 0 P row args w R:=by
 intro c d _;obtain⟨v,x,j,k⟩:=h c d;refine⟨v,x,j,?_⟩;have:=stepsIn_wide.2 k;obtain⟨n,y,q⟩:=n;cases q with
 |none=>exact this
 |some l=>exact this
def ae1{n:Cx}{P:aJ}{l:Nat}{f:cR}{tmps:Array aa}{assign body:Code}{w:J}{R:bW->J->Prop}(h:RoundIn Fence.wide 0 P l f tmps assign body w R):RoundIn (FW n) 0 P l f tmps assign body w R:=by
 obtain⟨n,j,d⟩:=n;cases d with
 |none=>exact h
 |some l=>exact h
def W5{P:aJ}{n:Cx}{o:Oper}{a:Act}{w:J}{K:Act->J->Prop}{Q:Exit->Act->J->Prop}(d:∀c,o.op≠.defer c)(h:o.wp P a w K Q):o.wpIn (FW n) 0 P a w K Q:=by
 refine⟨λ_ _=>trivial,?_⟩;rw[Oper.semAt_eq _ _ _ d];unfold Oper.wp at h;generalize(execOp a.eval o).run P w=r at *;cases r with
 |ok nx j=>
  cases nx<;>simp only[Oper.upon,Oper.uponIn]at h ⊢
  case value=>exact h
  case skip=>exact h
  case defer=>exact h
  case enter f args=>exact⟨λh=>(by cases h),Kc h⟩
  case row row args=>exact⟨λh=>(by cases h),ae' h⟩
 |halt k j=>
  cases k<;>simp only[Oper.upon,Oper.uponIn]at h ⊢;exact h
def jl.in{P:aJ}{n:Cx}{o:Oper}{a:Act}{w:J}{K:aa->J->Prop}(j:∀c,o.op≠.defer c)(h:jl P o a w K):zk P n o a w K:=λd=>W5 j (h d)
def KO{P:aJ}{o:Oper}{E:Env}{w:J}{n:Cx}{a:Act}{K:aa->J->Prop}(z:∀j b,o.op≠.select j b)(k:∀c,o.op≠.defer c)(d:Ag n a E)(h:uH P o E w K):zk P n o a w K:=by
 unfold uH at h;split at h
 .rename_i t args U y;split at h
  .rename_i l C j L;obtain⟨q,Q⟩:=ee h;clear h;simp only[bH,eS]at q;obtain⟨I,D,F⟩:=q;have A:C=#[]:=Array.eq_empty_of_size_eq_zero D;have B:j=#[]:=Array.eq_empty_of_size_eq_zero F;subst A B;have H:args.map a.eval=args.map E.ev:=d.args λS N=>ff.1 I S (by rw[y];simp[Op.operands,Call.operands,N]);have M:a.eval (.tmp t)=.func (.yield l) #[] #[]:=d.val (x:=.tmp t) L;intro T;obtain⟨fn,tmps,assign,body,O,G⟩:=Q;refine⟨λ_ _=>trivial,?_⟩;rw[Oper.semAt_eq _ _ _ k];have:(execOp a.eval o).run P w=.ok (.round l fn tmps assign body) w:=by simp[execOp,y,resolve,M,Deferred.ofValue,invoke,H,O]
   rw[this,Oper.uponIn_round];refine⟨λh=>(by cases h),ae1 (G.mono ?_)⟩
   grind
  .exact (og z d h).in k
 .exact (og z d h).in k
def yo(ops:Array Oper)(i j:Nat):Bool:=match ops[j]? with |some o=>o.after.toList.any λe=>cm e.on i&&Region.binds .any e|none=>false
def Bd(ops:Array Oper):Nat->Nat->Nat->Bool
 |0,i,d=>yo ops i d
 |f+1,i,d=>bif yo ops i d then true else match ops[d]? with |some o=>o.after.toList.any λe=>bif Region.binds .any e then Bd ops f i e.on else false|none=>false
def jX(ops:Array Oper)(i j:Nat):Bool:=Bd ops 4 i j
def Down(ops:Array Oper)(d:Array Bool):Prop:=∀(k:Nat) (o:Oper),ops[k]? =some o->d.getD k false=true->∀e∈o.after,Region.binds .any e=true->d.getD e.on false=true
def Down.zero(ops:Array Oper)(n:Nat):Down ops (h4 n false):=λj o _ h=>by
 exfalso;by_cases d:j<n
 .simp [d]at h
 grind
def Down.set{ops:Array Oper}{h:Array Bool}(z:Down ops h){i:Nat}(hi:i∈fa .any ops h):Down ops (h.setIfInBounds i true):=λx o d q e k j=>by
 obtain⟨_,B,A,y⟩:=mem_ready.1 hi;by_cases w:i=x
 .subst w;rw[A]at d;cases d;exact getD_set_true (y e k j)
 .rw [getD_set_ne false w]at q;exact getD_set_true (z x o d q e k j)
def Se{ops:Array Oper}{k:Array Bool}{i j:Nat}(w:∀o,ops[j]? =some o->∀e∈o.after,Region.binds .any e=true->k.getD e.on false=true)(h:yo ops i j=true):k.getD i false=true:=by
 unfold yo at h;cases q:ops[j]? with
 |none=>grind
 |some o=>
  rw[q]at h;obtain⟨e,x,d⟩:=List.any_eq_true.1 h;rw[bH]at d;have y:e.on=i:=by have:=d.1;rwa[eS]at this
  grind
def Sf{ops:Array Oper}{k:Array Bool}(w:Down ops k){i:Nat}:∀(f j:Nat),(∀o,ops[j]? =some o->∀e∈o.after,Region.binds .any e=true->k.getD e.on false=true)->Bd ops f i j=true->k.getD i false=true
 |0,j,h,d=>Se h d
 |f+1,j,h,d=>by
  unfold Bd at d;cases x:yo ops i j with
  |true=>exact Se h x
  |false=>
   rw[x]at d;cases z:ops[j]? with
   |none=>grind
   |some o=>
    rw[z]at d;obtain⟨e,G,y⟩:=List.any_eq_true.1 d;cases q:Region.binds .any e with
    |false=>grind
    |true=>
     rw[q]at y;have D:=h o z e (by grind) q;exact Sf w f e.on (λF E A C B=>w e.on F E D A C B) y
abbrev eU:=List (Nat×(J->Prop))
def heldBy(ops:Array Oper)(j:Nat)(w:J):eU->List Prop
 |[]=>[]
 |(i,h)::d=>bif jX ops i j then heldBy ops j w d else h w::heldBy ops j w d
def dw(ops:Array Oper)(j:Nat):eU->eU
 |[]=>[]
 |(i,h)::d=>bif jX ops i j then dw ops j d else(i,h)::dw ops j d
def Fj{ops:Array Oper}{j:Nat}{w:J}:∀{H:eU} {p:Nat×(J->Prop)},p∈H->jX ops p.1 j=false->p.2 w∈heldBy ops j w H
 |(i,k)::H,p,d,h=>by
  unfold heldBy;rcases aq.1 d with rfl|d
  .grind
  .have:=Fj (H:=H) (w:=w) d h
   grind
def fX{ops:Array Oper}{j:Nat}:∀{H:eU} {p:Nat×(J->Prop)},p∈dw ops j H↔p∈H/\jX ops p.1 j=false
 |[],p=>by simp[dw]
 |(i,d)::H,p=>by
  unfold dw;cases h:jX ops i j with
  |true=>
   simp only[cond_true];rw[fX]
   grind
  |false=>
   simp only[cond_false,aq];rw[fX]
   grind
section
variable {P:aJ} {ops:Array Oper} {Q:Exit->Act->J->Prop}
def eR(P:aJ)(ops:Array Oper)(Q:Exit->Act->J->Prop):Nat->eU->Array Bool->Act->J->Prop
 |0,_,d,a,h=>Down ops d->fa .any ops d=[]/\Q .normal a h
 |fuel+1,j,d,a,h=>Down ops d->
  (fa .any ops d=[]->Q .normal a h)/\
  ∀i∈fa .any ops d,wpOp P ops Q i (λq k=>(∀p∈dw ops i j,p.2 k)/\eR P ops Q fuel (dw ops i j) (d.setIfInBounds i true) q k) a h
def Ct:∀(fuel:Nat) (H:eU) (j:Array Bool) (a:Act) (w:J),Down ops j->eR P ops Q fuel H j a w->wpAny P .any ops Q fuel j a w
 |0,_,_,_,_,d,h=>h d
 |fuel+1,_,_,_,_,d,h=>⟨(h d).1,λi k=>wpOp_mono (λq y x=>Ct fuel _ _ q y (d.set k) x.2) ((h d).2 i k)⟩
def IK:∀(fuel:Nat) (H d:eU) (k:Array Bool) (a:Act) (w:J),(∀p∈d,p∈H)->eR P ops Q fuel H k a w->eR P ops Q fuel d k a w
 |0,_,_,_,_,_,_,h=>h
 |fuel+1,H,d,k,a,w,B,h=>λx=>⟨(h x).1,λi A=>wpOp_mono (λz C q=>by have y:∀p∈dw ops i d,p∈dw ops i H:=λp j=>fX.2 ⟨B p (fX.1 j).1,(fX.1 j).2⟩;exact⟨λp j=>q.1 p (y p j),IK fuel _ _ _ z C y q.2⟩) ((h x).2 i A)⟩
def ady{i j:Nat}{d:Array Bool}(h:Down ops d)(hi:d.getD i true=false)(k:j∈fa .any ops d):jX ops i j=false:=by
 obtain⟨_,B,A,w⟩:=mem_ready.1 k;cases q:jX ops i j with
 |false=>rfl
 |true=>
  have this:=Sf h 4 j (λo z e y x=>by grind) q
  grind
def IJ{i:Nat}{x:Oper}{v:aa}{Ss:List (J->Prop)}(hi:ops[i]? =some x)(U:∀(j:Nat) (o:Oper) B b,ops[j]? =some o->o.op≠.select B b)(hQ:∀c a w,Q (.panic c) (a.put x.dst v) w->Q (.panic c) a w):
  ∀(fuel:Nat) (H:eU) (q:Array Bool) (a:Act) (w:J),
   (∀j y,ops[j]? =some y->j≠i->q.getD j true=false->(∀e∈y.after,Region.binds .any e=true->e.on≠i)->x.apart ops y=true)->
   i∈fa .any ops q->YieldsIf P ops (λw=>∀h∈Ss,h w) x v a->(∀h∈Ss,h w)->(∀p∈H,p.2 w)->
   eR P ops Q fuel (Ss.map (λh=>(i,h))++H) (q.setIfInBounds i true) (a.put x.dst v) w->eR P ops Q (fuel+1) H q a w:=by
 intro fuel;induction fuel with
 |zero=>
  intro H q a w _ D F I G A E;refine⟨λY=>(by grind),λj C=>?_⟩;by_cases k:j=i
  .subst k;exact F.wpOp hi I ⟨λp d=>G p (fX.1 d).1,A⟩
  .have:=ready_mono C k;rw[(A (E.set D)).1]at this
   grind
 |succ fuel ih=>
  intro H q a w O D F I G A E;refine⟨λY=>(by grind),λj C=>?_⟩;by_cases k:j=i
  .subst k;refine F.wpOp hi I ⟨λp d=>G p (fX.1 d).1,?_⟩;exact IK _ _ _ _ _ _ (λp d=>eD _ (fX.1 d).1) A
  .have h1:=(A (E.set D)).2 j (ready_mono C k);obtain⟨ae,y,K,al⟩:=mem_ready.1 C;have Z:=(mem_ready.1 D).1;have ah:∀e∈y.after,Region.binds .any e=true->e.on≠i:=λe he hb am=>by grind
   have T:jX ops i j=false:=ady E Z C;have h2:=wpOp_putIf K (O j y K k ae ah) (λB b=>U i x B b hi) (λB b=>U j y B b K) hQ F h1;have ac:∀z ok,ops[z]? =some ok->z≠i->(q.setIfInBounds j true).getD z true=false->
     (∀e∈ok.after,Region.binds .any e=true->e.on≠i)->x.apart ops ok=true:=λz ok hk af aj ag=>by
    refine O z ok hk af ?_ ag;by_cases ad:j=z
    .grind
    .rw [getD_set_ne true ad]at aj;omega
   refine wpOp_mono (λW L h3=>?_) h2;obtain⟨ak,S,ai⟩:=h3;have M:∀p∈dw ops j H,p.2 L:=λp d=>S p (fX.2 ⟨eD _ (fX.1 d).1,(fX.1 d).2⟩);have ab:∀h∈Ss,h L:=λh N=>S (i,h) (fX.2 ⟨List.mem_append_left _ (bS.2 ⟨h,N,rfl⟩),T⟩);refine⟨M,ih (dw ops j H) (q.setIfInBounds j true) W L ac (ready_mono D (Ne.symm k)) ak ab M ?_⟩;rw[Array.setIfInBounds_comm _ _ k];refine IK _ _ _ _ _ _ (λp d=>?_) ai;rcases aX.1 d with d|d
   .obtain ⟨h,N,rfl⟩:=bS.1 d;exact fX.2 ⟨List.mem_append_left _ d,T⟩
   .exact fX.2 ⟨eD _ (fX.1 d).1,(fX.1 d).2⟩
end
def km(ops:Array Oper)(j:Nat):Option Nat:=(ops[j]?).bind (·.dst)
def pV(P:aJ)(ops:Array Oper)(draw:Bool)(i:Nat)(o:Oper)(E:Env)(w:J)(H:eU)(K:Env->J->eU->Prop):Prop:=
 bif calm P o then oc P o E w λv j=>K (E.put o.dst v) w (bif draw then j.map (λh=>(i,h))++H else H)
 else(bif draw then hW else uH) P o E w λv d=>uc (heldBy ops i d H) (K (E.put o.dst v) d (dw ops i H))
def mI(P:aJ)(ops:Array Oper)(draw:Bool)(i:Nat)(o:Oper)(d:Nat)(want t:Bool)(E:Env)(w:J)(H:eU)(K:Env->J->eU->Prop):Prop:=
 bif (t==want)then pV P ops draw i o ((d,.bool t)::E) w H K else K (Env.put ((d,.bool t)::E) o.dst undef) w (bif calm P o then H else dw ops i H)
def hM(P:aJ)(ops:Array Oper)(draw:Bool)(K:Env->J->Prop):List Nat->Env->J->eU->Prop
 |[],d,h,_=>K d h
 |i::l,d,h,k=>
  match ops[i]? with
  |none=>False
  |some o=>match o.guard with
   |none=>pV P ops draw i o d h k λj w q=>hM P ops draw K l j w q
   |some (y,want)=>match km ops y with
    |none=>False
    |some x=>match d.get? x with
     |some (.bool t)=>bA t (mI P ops draw i o x want true d h k λj w q=>hM P ops draw K l j w q) (mI P ops draw i o x want false d h k λj w q=>hM P ops draw K l j w q)
     |some (.tuple _)=>hM P ops draw K l (Env.put d o.dst undef) h (bif calm P o then k else dw ops i k)
     |_=>False
def sS(P:aJ)(ops:Array Oper):List Nat->Array Bool->Bool
 |[],d=>(fa .any ops d).isEmpty
 |i::l,d=>(match ops[i]? with
   |some o=>bif calm P o then Region.free .any ops d i&&(fa .any ops d).contains i else fa .any ops d==[i]
   |none=>false)&&sS P ops l (d.setIfInBounds i true)
def RM(o:Oper):Bool:=match o.op with |.defer _=>false|_=>true
def eo(n:Nat)(ops:Array Oper):Bool:=Region.noSelect ops&&ops.toList.all λo=>RM o&&match o.dst with |some d=>Nat.blt d n|none=>true
def hn{n:Nat}{ops:Array Oper}(h:eo n ops=true){i:Nat}{o:Oper}(j:ops[i]? =some o):∀t,o.dst=some t->t<n:=by intro t d;unfold eo at h;rw[bH]at h;have:=ff.1 h.2 o (by grind);rw[d,bH]at this;simpa using this.2
def vm{n:Nat}{ops:Array Oper}(h:eo n ops=true){i:Nat}{o:Oper}(j:ops[i]? =some o):∀c,o.op≠.defer c:=by
 intro c d;unfold eo at h;rw[bH]at h;have:=ff.1 h.2 o (by grind);rw[bH]at this;have:=this.1;unfold RM at this
 grind
def h6(n:Cx)(K:Env->J->Prop):Exit->Act->J->Prop
 |.normal,a,h=>∃d,Ag n a d/\K d h
 |_,_,_=>False
def tB{n:Cx}{a:Act}{E:Env}(k:Ag n a E){ops:Array Oper}{j d:Nat}{t:Bool}(h:km ops j=some d)(q:E.get? d=some (.bool t)):yielded ops a.tmps j=some t:=by unfold yielded;unfold km at h;rw[h];simp[k.get _ _ q]
def tC{n:Cx}{a:Act}{E:Env}(k:Ag n a E){ops:Array Oper}{j d:Nat}{vs:Array aa}(h:km ops j=some d)(q:E.get? d=some (.tuple vs)):yielded ops a.tmps j=none:=by unfold yielded;unfold km at h;rw[h];simp[k.get _ _ q]
def Ag.same{n:Cx}{a:Act}{E:Env}(h:Ag n a E){d:Nat}{v:aa}(j:E.get? d=some v):Ag n a ((d,v)::E):=h.cons j h
section
variable {P:aJ} {ops:Array Oper} {n:Cx} {K:Env->J->Prop}
def zg{i:Nat}{o:Oper}{a:Act}{w:J}{Kv:aa->J->Prop}{K':Act->J->Prop}{Q:Exit->Act->J->Prop}(j:ops[i]? =some o)(k:dC o (yielded ops a.tmps)=true)(h:jl P o a w Kv)(x:∀v d,Kv v d->K' (a.put o.dst v) d):wpOp P ops Q i K' a w:=by unfold wpOp;simp only[j,k,if_true];exact .inl (Oper.wp_mono (λq d=>by grind) (h Q))
def BZ{i:Nat}{o:Oper}{a:Act}{E:Env}{w:J}{H:eU}{Kh:Env->J->eU->Prop}{j:Array Bool}{fuel:Nat}{Q:Exit->Act->J->Prop}(A:eo n ops=true)(d:ops[i]? =some o)(q:(bif calm P o then Region.free .any ops j i&&(fa .any ops j).contains i else fa .any ops j==[i])=true)(hQ:∀c a w,Q (.panic c) a w=False)(x:Ag n a E)(T:∀p∈H,p.2 w)(L:dC o (yielded ops a.tmps)=true)(h:pV P ops true i o E w H Kh)(next:∀D C k y,Ag n D C->(∀p∈y,p.2 k)->Kh C k y->eR P ops Q fuel y (j.setIfInBounds i true) D k):eR P ops Q (fuel+1) H j a w:=by
 have B:=Region.noSelect_spec (ops:=ops) (by unfold eo at A;grind);unfold pV at h;cases G:calm P o with
 |true=>
  rw[G]at h q;simp only[cond_true]at h q;rw[bH]at q;obtain⟨v,N,U,Y,Z⟩:=zW (λz b=>B i o z b d) x h;refine IJ (v:=v) (Ss:=N) d B (by grind) fuel H j a w (Region.free_spec d q.1) (by grind) (.inl ⟨L,λk aa=>Z k aa⟩) Y T ?_;refine next _ _ _ _ (x.put v (hn A d)) ?_ U
  grind
 |false=>
  rw[G]at h q;simp only[cond_false,cond_true]at h q;have W:fa .any ops j=[i]:=by grind
  refine λ_=>⟨λh0=>(by grind),λM I=>?_⟩;rw[W]at I;obtain rfl:=b0.1 I;refine zg d L (og (λz b=>B M o z b d) x h) λv k hv=>?_;obtain⟨O,S⟩:=ud hv;have F:∀p∈dw ops M H,p.2 k:=λp K=>O _ (Fj (fX.1 K).1 (fX.1 K).2);exact⟨F,next _ _ _ _ (x.put v (hn A d)) F S⟩
def yQ{i:Nat}{o:Oper}{a:Act}{w:J}{H:eU}{d:Array Bool}{fuel:Nat}{Q:Exit->Act->J->Prop}(A:eo n ops=true)(j:ops[i]? =some o)(h:(bif calm P o then Region.free .any ops d i&&(fa .any ops d).contains i else fa .any ops d==[i])=true)(G:∀c a w,Q (.panic c) a w=False)(k:∀p∈H,p.2 w)(y:dC o (yielded ops a.tmps)=false)(next:eR P ops Q fuel (bif calm P o then H else dw ops i H) (d.setIfInBounds i true) (a.put o.dst undef) w):eR P ops Q (fuel+1) H d a w:=by
 have D:=Region.noSelect_spec (ops:=ops) (by unfold eo at A;grind);cases q:calm P o with
 |true=>
  rw[q]at h next
  simp only[cond_true]at h next
  rw[bH]at h;exact IJ (v:=undef) (Ss:=[]) j D (by grind) fuel H d a w (Region.free_spec j h.1) (by grind) (.inr ⟨y,rfl⟩) (λE z=>(by cases z)) k (by grind)
 |false=>
  rw[q]at h next
  simp only[cond_false]at h next
  have C:fa .any ops d=[i]:=by grind
  refine λ_=>⟨λF=>(by grind),λI x=>?_⟩;rw[C]at x;obtain rfl:=b0.1 x;unfold wpOp;simp only[j,y];exact⟨λp B=>k p (fX.1 B).1,next⟩
def UB(q:eo n ops=true):∀(l:List Nat) (G:Array Bool) (E:Env) (w:J) (H:eU) (a:Act),sS P ops l G=true->Ag n a E->(∀p∈H,p.2 w)->
  hM P ops true K l E w H->eR P ops (h6 n K) l.length H G a w
 |[],G,E,w,H,a,h,j,_,d=>λ_=>⟨by simpa[sS]using h,E,j,d⟩
 |i::l,G,E,w,H,a,h,j,A,d=>by
  unfold sS at h;rw[bH]at h;obtain⟨h,W⟩:=h;unfold hM at d;cases x:ops[i]? with
  |none=>grind
  |some o=>
   rw[x]at d h;simp only at d h;have next:∀I z y k,Ag n I z->(∀p∈k,p.2 y)->hM P ops true K l z y k->eR P ops (h6 n K) l.length k (G.setIfInBounds i true) I y:=
    λI z y k S T U=>UB q l _ z y k I W S T U
   cases B:o.guard with
   |none=>
    rw[B]at d;simp only at d;exact BZ q x h (λ_ _ _=>rfl) j A (by simp[dC,B]) d next
   |some Z=>
    obtain⟨Y,want⟩:=Z;rw[B]at d;simp only at d;cases N:km ops Y with
    |none=>grind
    |some Q=>
     rw[N]at d;simp only at d;split at d
     .rename_i t F;have L:=tB j N F;have C:mI P ops true i o Q want t E w H λz y k=>hM P ops true K l z y k:=by
       cases t
       .exact d
       .exact d
      unfold mI at C;cases O:(t==want)with
      |true=>
       rw[O]at C;exact BZ q x h (λ_ _ _=>rfl) (j.same F) A (by simp[dC,B,L];grind) C next
      |false=>
       rw[O]at C;simp only[cond_false]at C;refine yQ q x h (λ_ _ _=>rfl) A (by simp[dC,B,L];grind) ?_;refine next _ _ _ _ ((j.same F).put undef (hn q x)) ?_ C
       intro p D;cases M:calm P o
       .rw [M]at D;exact A p (fX.1 D).1
       grind
     .rename_i vs F;have L:=tC j N F;refine yQ q x h (λ_ _ _=>rfl) A (by simp[dC,B,L]) ?_;refine next _ _ _ _ (j.put undef (hn q x)) ?_ d
      intro p D;cases M:calm P o
      .rw [M]at D;exact A p (fX.1 D).1
      grind
     grind
def Cu{i:Nat}{o:Oper}{a:Act}{w:J}{Kv:aa->J->Prop}{K':Act->J->Prop}{Q:Exit->Act->J->Prop}(j:ops[i]? =some o)(k:dC o (yielded ops a.tmps)=true)(h:zk P n o a w Kv)(x:∀v d,Kv v d->K' (a.put o.dst v) d):wpOpIn (FW n) 0 P ops Q i K' a w:=by unfold wpOpIn;simp only[j,k,if_true];exact Oper.wpIn_mono (λq d=>by grind) (h Q)
def VF{i:Nat}{o:Oper}{a:Act}{E:Env}{w:J}{Kh:Env->J->eU->Prop}{rest:List Nat}{Q:Exit->Act->J->Prop}(k:eo n ops=true)(d:ops[i]? =some o)(q:Ag n a E)(C:dC o (yielded ops a.tmps)=true)(h:pV P ops false i o E w [] Kh)(next:∀z y j,Ag n z y->Kh y j []->wpOpsIn (FW n) 0 P ops Q rest z j):wpOpsIn (FW n) 0 P ops Q (i::rest) a w:=by
 have B:=Region.noSelect_spec (ops:=ops) (by unfold eo at k;grind);rw[wpOpsIn_cons];unfold pV at h;cases A:calm P o with
 |true=>
  rw[A]at h;simp only[cond_true,cond_false]at h;obtain⟨v,L,F,G,H⟩:=zW (λx b=>B i o x b d) q h;refine Cu (Kv:=λD j=>D=v/\j=w) d C ?_ ?_
  .refine jl.in (vm k d) λK=>?_;unfold Oper.wp;rw[H w G];exact⟨v,rfl,rfl,rfl⟩
  .rintro D j ⟨rfl,rfl⟩;exact next _ _ _ (q.put _ (hn k d)) F
 |false=>
  rw[A]at h;simp only[cond_false,heldBy,uc,dw]at h;exact Cu d C (KO (λx b=>B i o x b d) (vm k d) q h) λv j I=>next _ _ _ (q.put v (hn k d)) I
def UC(A:eo n ops=true):∀(l:List Nat) (E:Env) (w:J) (a:Act),Ag n a E->hM P ops false K l E w []->wpOpsIn (FW n) 0 P ops (h6 n K) l a w
 |[],E,w,a,k,d=>⟨E,k,d⟩
 |i::l,E,w,a,k,d=>by
  unfold hM at d;cases x:ops[i]? with
  |none=>grind
  |some o=>
   rw[x]at d;simp only at d;have next:∀C h j,Ag n C h->hM P ops false K l h j []->wpOpsIn (FW n) 0 P ops (h6 n K) l C j:=λC h j M N=>UC A l h j C M N
   cases y:o.guard with
   |none=>
    rw[y]at d;simp only at d;exact VF (Kh:=λh j z=>hM P ops false K l h j z) A x k (by simp[dC,y]) d next
   |some Q=>
    obtain⟨O,want⟩:=Q;rw[y]at d;simp only at d;cases G:km ops O with
    |none=>grind
    |some L=>
     rw[G]at d;simp only at d;split at d
     .rename_i t B;have D:=tB k G B;have q:mI P ops false i o L want t E w [] λh j z=>hM P ops false K l h j z:=by
       cases t
       .exact d
       .exact d
      unfold mI at q;cases I:(t==want)with
      |true=>
       rw[I]at q;exact VF (Kh:=λh j z=>hM P ops false K l h j z) A x (k.same B) (by simp[dC,y,D];grind) q next
      |false=>
       rw[I]at q;simp only[cond_false]at q;have F:(bif calm P o then([]:eU)else dw ops i [])=[]:=by cases calm P o<;>rfl
       rw[F]at q;rw[wpOpsIn_cons];unfold wpOpIn;have H:dC o (yielded ops a.tmps)=false:=by simp[dC,y,D];grind
       simp only[x,H];exact⟨λ_ _=>trivial,next _ _ _ ((k.same B).put undef (hn A x)) q⟩
     .rename_i S B;have D:=tC k G B;have F:(bif calm P o then([]:eU)else dw ops i [])=[]:=by cases calm P o<;>rfl
      rw[F]at d;rw[wpOpsIn_cons];unfold wpOpIn;have H:dC o (yielded ops a.tmps)=false:=by simp[dC,y,D]
      simp only[x,H];exact⟨λ_ _=>trivial,next _ _ _ (k.put undef (hn A x)) d⟩
     grind
def ahc{c:Code}{id:Nat}{a:Act}{E:Env}{w:J}(j:c=.region id ops false)(k:eo n ops=true)(d:Ag n a E)(h:hM P ops false K (List.range ops.size) E w []):c.wpIn (FW n) 0 P (h6 n K) a w:=by subst j;exact wpIn_region (UC k _ E w a d h)
def tz(h:eo n ops=true){Q:Exit->Act->J->Prop}(j:¬LetsOut Q):∀(l:List Nat) (a:Act) (w:J),wpOps P ops Q l a w->wpOpsIn (FW n) 0 P ops Q l a w
 |[],a,w,d=>d
 |i::l,a,w,d=>by
  rw[wpOps_cons]at d;rw[wpOpsIn_cons];unfold wpOp at d;unfold wpOpIn;cases k:ops[i]? with
  |none=>rw[k]at d;exact tz h j l a w d
  |some o=>
   rw[k]at d;simp only at d ⊢;split
   .rename_i q;rw[au q]at d;rcases d with d|d
    .exact Oper.wpIn_mono (λx z y=>tz h j l x z y) (W5 (vm h k) d)
    grind
   .rename_i q;rw[ag q]at d;exact⟨λ_ _=>trivial,tz h j l _ w d⟩
def ahb{c:Code}{id:Nat}{a:Act}{E:Env}{w:J}{l:List Nat}(z:P.follows .mixedOrders=true)(x:c=.region id ops true)(j:eo n ops=true)(y:sS P ops l (h4 ops.size false)=true)(B:l.length=ops.size)(q:Ag n a E)(h:hM P ops true K l E w.drew []):c.wpIn (FW n) 0 P (h6 n K) a w:=by subst x;have d:=UB j l _ E _ [] a y q (λp A=>(by cases A)) h;rw[B]at d;have k:=Ct _ [] _ _ _ (Down.zero _ _) d;refine wpIn_region_draw λt=>?_;refine tz j (λ⟨_,_,h⟩=>h) _ _ _ ?_;simp only[Region.schedule,z,Bool.true_or,if_true];exact wpAny_sound ops.size t _ a _ k
end
section
variable {P:aJ} {n:Cx}
def Code.ops:Code->Array Oper
 |.region _ ops _=>ops
 |_=>#[]
def Code.fst:Code->Code
 |.seq a _=>a
 |.cond _ a _=>a
 |.block _ a=>a
 |.loop a=>a
 |.scope a=>a
 |c=>c
def Code.snd:Code->Code
 |.seq _ b=>b
 |.cond _ _ b=>b
 |c=>c
def Code.X5:Code->Code
 |.rangeFunc _ _ a _=>a
 |c=>c
def Code.Yk:Code->Code
 |.rangeFunc _ _ _ b=>b
 |c=>c
abbrev gj(P:aJ)(n:Cx)(c:Code)(Q:Exit->Act->J->Prop)(a:Act)(w:J):Prop:=c.wpIn (FW n) 0 P Q a w
def WP(P:aJ)(n:Cx)(c:Code)(Q:Exit->Act->J->Prop)(E:Env)(w:J):Prop:=∀a,Ag n a E->gj P n c Q a w
def WP.region{c:Code}{Q:Exit->Act->J->Prop}{E:Env}{w:J}{ops:Array Oper}{id:Nat}(K:Env->J->Prop)(y:c=.region id ops false)(z:eo n ops=true)(h:hM P ops false K (List.range ops.size) E w [])(A:∀d k j,Ag n j d->K d k->Q .normal j k):WP P n c Q E w:=λa x=>
 wpIn_mono (ahc y z x h) λe j k q=>by
  cases e with
  |normal=>obtain⟨d,hA,hK⟩:=q;grind
  |_=>exact q.elim
def WP.aeT{c:Code}{Q:Exit->Act->J->Prop}{E:Env}{w:J}{ops:Array Oper}{id:Nat}{l:List Nat}(K:Env->J->Prop)(A:P.follows .mixedOrders=true)(y:c=.region id ops true)(B:eo n ops=true)(z:sS P ops l (h4 ops.size false)=true)(C:l.length=ops.size)(h:hM P ops true K l E w.drew [])(D:∀d k j,Ag n j d->K d k->Q .normal j k):WP P n c Q E w:=λa x=>
 wpIn_mono (ahb A y B z C x h) λe j k q=>by
  cases e with
  |normal=>obtain⟨d,hA,hK⟩:=q;grind
  |_=>exact q.elim
def s5(n:Nat)(c:Code):Bool:=match c with |.region _ ops d=>!d&&eo n ops|_=>false
def BA(P:aJ)(n:Nat)(c:Code)(l:List Nat):Bool:=match c with
 |.region _ ops d=>d&&(P.follows .mixedOrders&&(eo n ops&&(sS P ops l (h4 ops.size false)&&cm l.length ops.size)))
 |_=>false
def WP.q5{c:Code}{Q:Exit->Act->J->Prop}{E:Env}{w:J}(K:Env->J->Prop)(d:s5 n c=true)(h:hM P (Code.ops c) false K (List.range (Code.ops c).size) E w [])(A:∀j q k,Ag n k j->K j q->Q .normal k q):WP P n c Q E w:=by
 unfold s5 at d;split at d
 .rename_i id ops x;rw[bH]at d;obtain⟨B,y⟩:=d;have z:x=false:=by grind
  subst z;exact WP.region K rfl y h A
 grind
def WP.draw{c:Code}{Q:Exit->Act->J->Prop}{E:Env}{w:J}(l:List Nat)(K:Env->J->Prop)(d:BA P n c l=true)(h:hM P (Code.ops c) true K l E w.drew [])(B:∀j x k,Ag n k j->K j x->Q .normal k x):WP P n c Q E w:=by
 unfold BA at d;split at d
 .rename_i id ops C;simp only[bH]at d;obtain⟨rfl,y,z,A,q⟩:=d;rw[eS]at q;exact WP.aeT K y rfl z A q h B
 grind
def WP.at{c:Code}{Q:Exit->Act->J->Prop}{E:Env}{w:J}{a:Act}(h:WP P n c Q E w)(d:Ag n a E):gj P n c Q a w:=h a d
def WP.seq{c x y:Code}{Q:Exit->Act->J->Prop}{E:Env}{w:J}(j:c=.seq x y)(h:WP P n x (Exit.then (gj P n y Q) Q) E w):WP P n c Q E w:=λa d=>by subst j;exact wpIn_seq (h a d)
def WP.cond{c x y:Code}{o:Operand}{Q:Exit->Act->J->Prop}{E:Env}{w:J}{t:Bool}(k:c=.cond o x y)(q:E.val o=some (.bool t))(h:bA t (WP P n x Q E w) (WP P n y Q E w)):WP P n c Q E w:=λa d=>by
 subst k;refine wpIn_cond_split (d.val q) (λj=>?_) (λj=>?_)
 .subst j;exact h a d
 .subst j;exact h a d
def g9(v:Option aa)(A B:Prop):Prop:=match v with |some (.bool t)=>bA t A B|_=>False
def WP.g9{c x y:Code}{o:Operand}{Q:Exit->Act->J->Prop}{E:Env}{w:J}{A B:Prop}(k:c=.cond o x y)(d:A->WP P n x Q E w)(j:B->WP P n y Q E w)(h:g9 (E.val o) A B):WP P n c Q E w:=by
 unfold W.g9 at h;split at h
 .rename_i t q;refine WP.cond k q ?_;cases t
  .exact j h
  .exact d h
 grind
def WP.block{c x:Code}{id:Nat}{Q:Exit->Act->J->Prop}{E:Env}{w:J}(j:c=.block id x)(h:WP P n x (Exit.inBlock id Q) E w):WP P n c Q E w:=λa d=>by subst j;exact wpIn_block (h a d)
def WP.skip{c:Code}{Q:Exit->Act->J->Prop}{E:Env}{w:J}(j:c=.skip)(h:∀a,Ag n a E->Q .normal a w):WP P n c Q E w:=λa d=>by subst j;exact wpIn_skip (h a d)
def WP.exit{c:Code}{id:Nat}{Q:Exit->Act->J->Prop}{E:Env}{w:J}(j:c=.exit id)(h:∀a,Ag n a E->Q (.exit id) a w):WP P n c Q E w:=λa d=>by subst j;exact wpIn_exit (h a d)
def WP.ret{c:Code}{Q:Exit->Act->J->Prop}{E:Env}{w:J}(j:c=.ret)(h:∀a,Ag n a E->Q .ret a w):WP P n c Q E w:=λa d=>by subst j;exact wpIn_ret (h a d)
def nc(P:aJ)(n:Cx)(c:Code)(Q:Exit->Act->J->Prop)(a:Act)(w:J):Prop:=
 ∀(b:Frame) (k:List Item) (cs:List Frame),b.roundOf=n.ro->∃e d h,Q e d h/\ArrivesIn (Machine.fenced P (FW n)) P (lone (b.atR a (.code c::.inLoop c::k)) cs w) b k cs e d h
def ae0(n:Cx)(m:Nat):(FW n).room m:=room_wide m
def W6{c:Code}{Q:Exit->Act->J->Prop}{a:Act}{w:J}(h:nc P n c Q a w):gj P n (Code.loop c) Q a w:=λb A j z q y=>by obtain⟨e,d,B,x,k⟩:=h b A j z;exact⟨e,d,B,x,.of_steps (.one (fenced_calm q y rfl) stepR_loop) k⟩
def NL{c:Code}{Q:Exit->Act->J->Prop}{a:Act}{w:J}(h:gj P n c (Exit.then (nc P n c Q) Q) a w):nc P n c Q a w:=by
 intro b A k z;have q:(FW n).fn b.fn:=trivial;have y:(FW n).room (k.length+1+0):=ae0 n _;obtain⟨e,a₁,w₁,j,d⟩:=h b (.inLoop c::A) k z q y;cases e with
 |normal=>
  obtain⟨e₂,a₂,w₂,j₂,d₂⟩:=j b A k z;exact⟨e₂,a₂,w₂,j₂,.of_steps (StepsIn.trans d (.one (fenced_calm q y rfl) stepR_inLoop)) d₂⟩
 |exit id=>exact⟨_,a₁,w₁,j,.pass (x:=.inLoop c) rfl (λ_ _=>.inl ws) d⟩
 |goto l=>exact⟨_,a₁,w₁,j,.pass (x:=.inLoop c) rfl (λ_ _=>.inl ws) d⟩
 |ret=>exact⟨_,a₁,w₁,j,.pass (x:=.inLoop c) rfl (λ_ _=>.inl ws) d⟩
 |panic B=>exact⟨_,a₁,w₁,j,.pass (x:=.inLoop c) rfl (λ_ _=>.inl ws) d⟩
 |outgrown=>exact⟨_,a₁,w₁,j,.pass (x:=.inLoop c) rfl (λ_ _=>.inl ws) d⟩
def LP(P:aJ)(n:Cx)(c:Code)(Q:Exit->Act->J->Prop)(E:Env)(w:J):Prop:=∀a,Ag n a E->nc P n c Q a w
def WP.loop{c x:Code}{Q:Exit->Act->J->Prop}{E:Env}{w:J}(j:c=.loop x)(h:LP P n x Q E w):WP P n c Q E w:=λa d=>by subst j;exact W6 (h a d)
def LP.step{c:Code}{Q:Exit->Act->J->Prop}{E:Env}{w:J}(h:WP P n c (Exit.then (nc P n c Q) Q) E w):LP P n c Q E w:=λa d=>NL (h a d)
def G5:List aa->aa
 |[v]=>v
 |d=>.tuple d.toArray
def s7(P:aJ)(E:Env)(w:J):List ResultVar->(List aa->Prop)->Prop
 |[],d=>d []
 |.tmp t::l,d=>match E.get? t with
  |some v=>s7 P E w l λh=>d (v::h)
  |none=>False
 |.cell k j::l,d=>match E.get? k with
  |some (.pointer (some p))=>nC P j p w λv _=>s7 P E w l λh=>d (v::h)
  |_=>False
def me(P:aJ)(fn:Func)(E:Env)(w:J)(K:aa->Prop):Prop:=s7 P E w fn.results.toList λd=>K (G5 d)
def q7(tmps:Array aa):ResultVar->Sem aa
 |.tmp t=>pure (tmps.getD t undef)
 |.cell a t=>do loadVar t (<-asAddr (tmps.getD a undef))
def Uh(fn:Func)(tmps:Array aa):results fn tmps=(do let d <-fn.results.mapM (q7 tmps);pure (if h:d.size=1 then d[0]else .tuple d)):=by unfold results;congr 1
def Hx{a:Act}{E:Env}(j:Ag n a E)(w:J):∀{l:List ResultVar} {K:List aa->Prop},s7 P E w l K->
  ∃h,(l.mapM (q7 a.tmps)).run P w=.ok h w/\K h
 |[],K,d=>⟨[],ws,d⟩
 |.tmp t::l,K,d=>by
  unfold s7 at d;split at d
  .rename_i v B;obtain⟨h,x,q⟩:=Hx j w d;refine⟨v::h,?_,q⟩;have k:=j.get t v B;simp[List.mapM_cons,q7,x,k]
  grind
 |.cell C F::l,K,d=>by
  unfold s7 at d;split at d
  .rename_i p y;obtain⟨v,D,d,z,A⟩:=FK d;obtain⟨h,x,q⟩:=Hx j w d;refine⟨v::h,?_,q⟩;have k:=j.get C _ y;simp[List.mapM_cons,q7,x,k,asAddr,A w z]
  grind
def Hz{fn:Func}{a:Act}{E:Env}{w:J}{R:bW->J->Prop}(j:Ag n a E)(h:me P fn E w λv=>R (ae v) w):
  ∃v,(results fn a.tmps).run P w=.ok v w/\R (ae v) w:=by
 obtain⟨d,q,k⟩:=Hx j w h;refine⟨_,?_,k⟩;rw[Uh,<-Array.toArray_toList (xs:=fn.results),List.mapM_toArray];simp only[Sem.run_bind,Sem.run_map,q,Result.andThen_ok,Sem.run_pure];congr 1;cases d with
 |nil=>rfl
 |cons v d=>cases d<;>rfl
def yF{m:Nat}{fn:Func}{a:Act}{E:Env}{w:J}{R:bW->J->Prop}(d:Ag (cx m) a E)(h:me P fn E w λv=>R (ae v) w):
  a.defers=[]/\∃v,(results fn a.tmps).run P w=.ok v w/\R (ae v) w:=⟨d.defers,Hz d h⟩
def ZN{f:cR}{fn:Func}{c:Code}{args:Array aa}{w:J}{R:bW->J->Prop}{E:Env}(j:P.funcs[f]? =some fn)(d:fn.body=some c)(q:args.size<=fn.ntmps)(k:∀t v,E.get? t=some v->args[t]? =some v)(h:WP P (cx fn.ntmps) c (bodyPost P fn R) E w):ai P f args w R:=by
 refine calls_of_wp j d (wpIn_wide.1 (h _ ⟨rfl,by grind,?_⟩))
 grind
def kV:Nat->List aa->Env
 |_,[]=>[]
 |i,v::l=>(i,v)::kV (i+1) l
def EL:∀(l:List aa) (i t:Nat) (v:aa),(kV i l).get? t=some v->i<=t/\l[t - i]? =some v
 |[],_,_,_,d=>by simp[kV,Env.get?]at d
 |u::l,i,t,v,d=>by
  simp only[kV,Env.get?]at d;by_cases e:i=t
  .subst e;simp at d;grind
  .have h:cm i t=false:=by rw[<-jI,eS];exact e
   simp only[h,cond_false]at d;obtain⟨j,k⟩:=EL l (i+1) t v d
   grind
def xc{f:cR}{fn:Func}{c:Code}{args:List aa}{w:J}{R:bW->J->Prop}(j:P.funcs[f]? =some fn)(d:fn.body=some c)(k:Nat.ble args.length fn.ntmps=true)(h:WP P (cx fn.ntmps) c (bodyPost P fn R) (kV 0 args) w):ai P f args.toArray w R:=
 ZN j d (by simpa using Nat.le_of_ble_eq_true k) (λt v q=>by
  have:=(EL args 0 t v q).2
  grind) h
def afp{t:Bool}{A B d j:Prop}(k:A->d)(q:B->j)(h:bA t A B):bA t d j:=by
 cases t
 .exact q h
 .exact k h
def asInt(k:ix)(v:Option aa)(K:Int->Prop):Prop:=match v with |some (.int d n)=>cS (d==k) (K n)|_=>False
def hC{k:ix}{v:Option aa}{K:Int->Prop}(h:asInt k v K):∃n,v=some (.int k n)/\K n:=by
 unfold asInt at h;split at h
 .obtain ⟨d,j⟩:=ee h
  grind
 grind
def rV(v:Option aa)(K:ByteArray->Prop):Prop:=match v with |some (.string b)=>K b|_=>False
def wZ{v:Option aa}{K:ByteArray->Prop}(h:rV v K):∃b,v=some (.string b)/\K b:=by
 unfold rV at h
 grind
def asSlice(v:Option aa)(K:Sl->Prop):Prop:=match v with |some (.slice a n c)=>K ⟨a,n,c⟩|_=>False
def rU{v:Option aa}{K:Sl->Prop}(h:asSlice v K):∃s:Sl,v=some s.v/\K s:=by
 unfold asSlice at h
 grind
def cM(v:Option aa)(K:Addr->Prop):Prop:=match v with |some (.pointer (some a))=>K a|_=>False
def cT{v:Option aa}{K:Addr->Prop}(h:cM v K):∃a,v=some (.pointer (some a))/\K a:=by
 unfold cM at h
 grind
def asAgg(v:Option aa)(K:List aa->Prop):Prop:=match v with |some (.agg d)=>K d.toList|_=>False
def X2{v:Option aa}{K:List aa->Prop}(h:asAgg v K):∃d:List aa,v=some (.agg d.toArray)/\K d:=by
 unfold asAgg at h;split at h
 .grind
 grind
def zI(f:cR)(v:Option aa)(K:List aa->List aa->Prop):Prop:=match v with |some (.func (.func g) h d)=>cS (cm g f) (K h.toList d.toList)|_=>False
def X3{f:cR}{v:Option aa}{K:List aa->List aa->Prop}(h:zI f v K):∃j d:List aa,v=some (.func (.func f) j.toArray d.toArray)/\K j d:=by
 unfold zI at h;split at h
 .obtain ⟨k,q⟩:=ee h;rw[eS]at k;subst k
  grind
 grind
def qv(l:List aa)(K:aa->List aa->Prop):Prop:=match l with |v::r=>K v r|[]=>False
def ug{l:List aa}{K:aa->List aa->Prop}(h:qv l K):∃v r,l=v::r/\K v r:=by
 cases l with
 |nil=>exact h.elim
 |cons v r=>exact⟨v,r,rfl,h⟩
def uh(l:List aa)(K:Prop):Prop:=match l with |[]=>K|_=>False
def DB{l:List aa}{K:Prop}(h:uh l K):l=[]/\K:=by
 cases l with
 |nil=>exact⟨rfl,h⟩
 |cons v r=>exact h.elim
end
def kP(k:ix)(x y:Int):Int:=k.wrap ((e9 k.bits x&&& e9 k.bits y).toNat:Int)
def n8(k:ix)(x y:Int):Int:=k.wrap ((e9 k.bits x|||e9 k.bits y).toNat:Int)
def n9(k:ix)(x y:Int):Int:=k.wrap ((e9 k.bits x^^^e9 k.bits y).toNat:Int)
def X8(k:ix)(x y:Int):Int:=k.wrap ((e9 k.bits x&&& ~~~ e9 k.bits y).toNat:Int)
inductive Tr where
 |nil
 |one (i:Nat) (t:Tr)
 |fork (a b:Tr)
def Tr.jP:Tr->List Nat
 |.nil=>[]
 |.one i _=>[i]
 |.fork a b=>a.jP++b.jP
def Tr.len:Tr->Nat
 |.nil=>0
 |.one _ t=>t.len+1
 |.fork a _=>a.len
def xX(P:aJ)(ops:Array Oper)(i:Nat)(E:Env)(w:J)(H:eU)(d:Env->J->eU->Prop):Prop:=
 match ops[i]? with
 |none=>False
 |some o=>match o.guard with
  |none=>pV P ops true i o E w H d
  |some (j,want)=>match km ops j with
   |none=>False
   |some h=>match E.get? h with
    |some (.bool t)=>bA t (mI P ops true i o h want true E w H d) (mI P ops true i o h want false E w H d)
    |some (.tuple _)=>d (Env.put E o.dst undef) w (bif calm P o then H else dw ops i H)
    |_=>False
def pZ(P:aJ)(ops:Array Oper)(K:Env->J->Prop):Tr->Env->J->eU->Prop
 |.nil,d,h,_=>K d h
 |.one i t,d,h,j=>xX P ops i d h j λk w q=>pZ P ops K t k w q
 |.fork a b,d,h,j=>pZ P ops K a d h j/\pZ P ops K b d h j
def iO(P:aJ)(ops:Array Oper):Tr->Bool->Array Bool->Bool
 |.nil,alt,d=>!alt&&(fa .any ops d).isEmpty
 |.one i t,alt,d=>(match ops[i]? with
   |some o=>bif alt then !calm P o else bif calm P o then Region.free .any ops d i&&(fa .any ops d).contains i else fa .any ops d==[i]
   |none=>false)&&iO P ops t false (d.setIfInBounds i true)
 |.fork a b,alt,d=>(alt||fa .any ops d==(Tr.fork a b).jP)&&(cm a.len b.len&&(iO P ops a true d&&iO P ops b true d))
section
variable {P:aJ} {ops:Array Oper} {n:Cx} {K:Env->J->Prop}
def VE{i:Nat}{o:Oper}{a:Act}{E:Env}{w:J}{H:eU}{Kh:Env->J->eU->Prop}{C:Array Bool}{fuel:Nat}{Q:Exit->Act->J->Prop}(A:eo n ops=true)(q:ops[i]? =some o)(I:calm P o=false)(z:Ag n a E)(M:dC o (yielded ops a.tmps)=true)(h:pV P ops true i o E w H Kh)(next:∀j x d k,Ag n j x->(∀p∈k,p.2 d)->Kh x d k->eR P ops Q fuel k (C.setIfInBounds i true) j d):
  wpOp P ops Q i (λj d=>(∀p∈dw ops i H,p.2 d)/\eR P ops Q fuel (dw ops i H) (C.setIfInBounds i true) j d) a w:=by have K:=Region.noSelect_spec (ops:=ops) (by unfold eo at A;grind);unfold pV at h;rw[I]at h;simp only[cond_false,cond_true]at h;refine zg q M (og (λD b=>K i o D b q) z h) λv d L=>?_;obtain⟨F,G⟩:=ud L;have y:∀p∈dw ops i H,p.2 d:=λp B=>F _ (Fj (fX.1 B).1 (fX.1 B).2);exact⟨y,next _ _ _ _ (z.put v (hn A q)) y G⟩
def HS{i:Nat}{o:Oper}{a:Act}{w:J}{H:eU}{d:Array Bool}{fuel:Nat}{Q:Exit->Act->J->Prop}(q:ops[i]? =some o)(k:∀p∈H,p.2 w)(y:dC o (yielded ops a.tmps)=false)(next:eR P ops Q fuel (dw ops i H) (d.setIfInBounds i true) (a.put o.dst undef) w):
  wpOp P ops Q i (λj h=>(∀p∈dw ops i H,p.2 h)/\eR P ops Q fuel (dw ops i H) (d.setIfInBounds i true) j h) a w:=by unfold wpOp;simp only[q,y];exact⟨λp x=>k p (fX.1 x).1,next⟩
def abu(y:eo n ops=true){i:Nat}{o:Oper}{E:Env}{w:J}{H:eU}{a:Act}{G:Env->J->eU->Prop}{B:Array Bool}{fuel:Nat}(d:ops[i]? =some o)(C:(bif calm P o then Region.free .any ops B i&&(fa .any ops B).contains i else fa .any ops B==[i])=true)(k:Ag n a E)(j:∀p∈H,p.2 w)(h:xX P ops i E w H G)(next:∀O N M F,Ag n O N->(∀p∈F,p.2 M)->G N M F->eR P ops (h6 n K) fuel F (B.setIfInBounds i true) O M):eR P ops (h6 n K) (fuel+1) H B a w:=by
 unfold xX at h;rw[d]at h;simp only at h;cases q:o.guard with
 |none=>
  rw[q]at h;simp only at h;exact BZ y d C (λ_ _ _=>rfl) k j (by simp[dC,q]) h next
 |some U=>
  obtain⟨T,want⟩:=U;rw[q]at h;simp only at h;cases L:km ops T with
  |none=>grind
  |some S=>
   rw[L]at h;simp only at h;split at h
   .rename_i t A;have D:=tB k L A;have x:mI P ops true i o S want t E w H G:=by
     cases t
     .exact h
     .exact h
    unfold mI at x;cases Q:(t==want)with
    |true=>
     rw[Q]at x;exact BZ y d C (λ_ _ _=>rfl) (k.same A) j (by simp[dC,q,D];grind) x next
    |false=>
     rw[Q]at x;simp only[cond_false]at x;refine yQ y d C (λ_ _ _=>rfl) j (by simp[dC,q,D];grind) ?_;refine next _ _ _ _ ((k.same A).put undef (hn y d)) ?_ x
     intro p z;cases I:calm P o
     .rw [I]at z;exact j p (fX.1 z).1
     grind
   .rename_i W A;have D:=tC k L A;refine yQ y d C (λ_ _ _=>rfl) j (by simp[dC,q,D]) ?_;refine next _ _ _ _ (k.put undef (hn y d)) ?_ h
    intro p z;cases I:calm P o
    .rw [I]at z;exact j p (fX.1 z).1
    grind
   grind
def abv(B:eo n ops=true){i:Nat}{o:Oper}{E:Env}{w:J}{H:eU}{a:Act}{F:Env->J->eU->Prop}{O:Array Bool}{fuel:Nat}(d:ops[i]? =some o)(A:calm P o=false)(j:Ag n a E)(G:∀p∈H,p.2 w)(h:xX P ops i E w H F)(next:∀z L x D,Ag n z L->(∀p∈D,p.2 x)->F L x D->eR P ops (h6 n K) fuel D (O.setIfInBounds i true) z x):
  wpOp P ops (h6 n K) i (λz x=>(∀p∈dw ops i H,p.2 x)/\eR P ops (h6 n K) fuel (dw ops i H) (O.setIfInBounds i true) z x) a w:=by
 unfold xX at h;rw[d]at h;simp only at h;have M:∀p∈dw ops i H,p.2 w:=λp S=>G p (fX.1 S).1;cases k:o.guard with
 |none=>
  rw[k]at h;simp only at h;exact VE B d A j (by simp[dC,k]) h next
 |some U=>
  obtain⟨T,want⟩:=U;rw[k]at h;simp only at h;cases I:km ops T with
  |none=>grind
  |some Q=>
   rw[I]at h;simp only at h;split at h
   .rename_i t y;have C:=tB j I y;have q:mI P ops true i o Q want t E w H F:=by
     cases t
     .exact h
     .exact h
    unfold mI at q;cases N:(t==want)with
    |true=>
     rw[N]at q;exact VE B d A (j.same y) (by simp[dC,k,C];grind) q next
    |false=>
     rw[N,A]at q;simp only[cond_false]at q;exact HS d G (by simp[dC,k,C];grind) (next _ _ _ _ ((j.same y).put undef (hn B d)) M q)
   .rename_i W y;have C:=tC j I y;rw[A]at h;simp only[cond_false]at h;exact HS d G (by simp[dC,k,C]) (next _ _ _ _ (j.put undef (hn B d)) M h)
   grind
def It:∀(t:Tr) (h:Array Bool),iO P ops t true h=true->∃m,t.len=m+1
 |.nil,h,d=>by simp[iO]at d
 |.one i t,h,_=>⟨t.len,rfl⟩
 |.fork a b,h,d=>by unfold iO at d;simp only[bH]at d;exact It a h d.2.2.1
def Is:∀(t:Tr) (h:Array Bool),iO P ops t true h=true->t.jP≠[]
 |.nil,h,d=>by simp[iO]at d
 |.one i t,h,_=>by simp[Tr.jP]
 |.fork a b,h,d=>by unfold iO at d;simp only[bH]at d;have:=Is a h d.2.2.1;simp[Tr.jP,this]
def y8(D:eo n ops=true):∀(t:Tr) (alt:Bool) (h:Array Bool) (E:Env) (w:J) (H:eU) (a:Act) (m:Nat),iO P ops t alt h=true->Ag n a E->(∀p∈H,p.2 w)->pZ P ops K t E w H->
  (alt=false->t.len=m->eR P ops (h6 n K) m H h a w)/\
  (alt=true->t.len=m+1->∀i∈t.jP,wpOp P ops (h6 n K) i (λy q=>(∀p∈dw ops i H,p.2 q)/\eR P ops (h6 n K) m (dw ops i H) (h.setIfInBounds i true) y q) a w)
 |.nil,alt,h,E,w,H,a,m,d,z,C,j=>by
  unfold iO at d;rw[bH]at d;refine⟨λ_ k=>?_,λe=>?_⟩
  .subst k;exact λ_=>⟨by grind,E,z,j⟩
  grind
 |.one i t,alt,h,E,w,H,a,m,d,z,C,j=>by
  unfold iO at d;rw[bH]at d;obtain⟨d,Y⟩:=d;cases S:ops[i]? with
  |none=>grind
  |some o=>
   rw[S]at d;simp only at d;unfold pZ at j;refine⟨λe k=>?_,λe k ab hj=>?_⟩
   .subst e k;exact abu D S d z C j λy I q L M N O=>(y8 D t false _ I q L y _ Y M N O).1 rfl rfl
   .subst e;rw[cond_true]at d;obtain rfl:=b0.1 hj;have Q:t.len=m:=by simpa[Tr.len]using k
    exact abv D S (by grind) z C j λy I q L M N O=>(y8 D t false _ I q L y _ Y M N O).1 rfl Q
 |.fork B G,alt,h,E,w,H,a,m,d,z,C,j=>by
  unfold iO at d;simp only[bH]at d;obtain⟨hr,U,T,hy⟩:=d;rw[eS]at U;unfold pZ at j;have both:∀x,B.len=x+1->∀i∈(Tr.fork B G).jP,wpOp P ops (h6 n K) i (λy q=>(∀p∈dw ops i H,p.2 q)/\eR P ops (h6 n K) x (dw ops i H) (h.setIfInBounds i true) y q) a w:=λx F i A=>by
   rcases aX.1 A with A|A
   .exact (y8 D B true h E w H a x T z C j.1).2 rfl F i A
   .exact (y8 D G true h E w H a x hy z C j.2).2 rfl (U▸F) i A
  refine⟨λe k=>?_,λ_ k=>both m k⟩;subst e;obtain⟨x,F⟩:=It B h T;have Q:m=x+1:=by rw[<-k,<-F];rfl
  subst Q;have W:fa .any ops h=(Tr.fork B G).jP:=by grind
  have aa:(Tr.fork B G).jP≠[]:=by have:=Is B h T;simp[Tr.jP,this]
  exact λ_=>⟨λZ=>absurd (W▸Z) aa,λi A=>both x F i (W▸A)⟩
def ahd{c:Code}{id:Nat}{a:Act}{E:Env}{w:J}{t:Tr}(z:P.follows .mixedOrders=true)(x:c=.region id ops true)(d:eo n ops=true)(y:iO P ops t false (h4 ops.size false)=true)(B:t.len=ops.size)(q:Ag n a E)(h:pZ P ops K t E w.drew []):c.wpIn (FW n) 0 P (h6 n K) a w:=by subst x;have j:=(y8 d t false _ E _ [] a _ y q (λp A=>(by cases A)) h).1 rfl B;have k:=Ct _ [] _ _ _ (Down.zero _ _) j;refine wpIn_region_draw λt=>?_;refine tz d (λ⟨_,_,h⟩=>h) _ _ _ ?_;simp only[Region.schedule,z,Bool.true_or,if_true];exact wpAny_sound ops.size t _ a _ k
def vJ(P:aJ)(n:Nat)(c:Code)(t:Tr):Bool:=match c with
 |.region _ ops d=>d&&(P.follows .mixedOrders&&(eo n ops&&(iO P ops t false (h4 ops.size false)&&cm t.len ops.size)))
 |_=>false
def WP.tree{c:Code}{Q:Exit->Act->J->Prop}{E:Env}{w:J}(t:Tr)(K:Env->J->Prop)(d:vJ P n c t=true)(h:pZ P (Code.ops c) K t E w.drew [])(F:∀j q k,Ag n k j->K j q->Q .normal k q):WP P n c Q E w:=by
 unfold vJ at d;split at d
 .rename_i id ops D;simp only[bH]at d;obtain⟨rfl,z,A,B,x⟩:=d;rw[eS]at x;exact λa C=>wpIn_mono (ahd z rfl A B x C h) λe k q y=>by
   cases e with
   |normal=>obtain⟨j,hA,hK⟩:=y;grind
   |_=>exact y.elim
 grind
end
section
variable {P:aJ}
def lo(r:Loop)(st:LoopState)(d:Option Code):Obj:=.loop {r with state:=st,pending:=d}
structure Dl(r:Loop)(m:Nat)(ps:Array Tmp)(assign body:Code)(E:Env):Prop where
 ps:r.params=ps
 assign:r.assign=assign
 body:r.body=body
 size:r.tmps.size=m
 get:∀t v,E.get? t=some v->r.tmps[t]? =some v
def q0:Env->List Nat->List aa->Env
 |d,p::h,v::j=>q0 ((p,v)::d) h j
 |d,_,_=>d
def Tc{m l:Nat}:∀(ps:List Nat) (vs:List aa) (E:Env) (tmps:Array aa),tmps.size=m->(∀p∈ps,p<m)->(∀t v,E.get? t=some v->tmps[t]? =some v)->
  Ag ⟨m,[],some l⟩ {tmps:=(ps.zip vs).foldl (λt (p,v)=>t.setIfInBounds p v) tmps,defers:=[]} (q0 E ps vs)
 |[],vs,E,tmps,j,_,h=>⟨rfl,by simpa using j,by cases vs<;>simpa[q0]using h⟩
 |p::ps,[],E,tmps,j,_,h=>⟨rfl,by simpa using j,by simpa[q0]using h⟩
 |p::ps,v::vs,E,tmps,j,k,h=>by simp only[List.zip_cons_cons,List.foldl_cons,q0];refine Tc ps vs _ _ (by grind) (λw x=>k w (by grind)) ?_;have:=(Ag.put (n:=⟨m,[],some l⟩) (a:={tmps:=tmps,defers:=[]}) (E:=E) ⟨rfl,j,h⟩ (d:=some p) v (λt q=>by cases q;exact k p ws)).get;simpa[Env.put,Act.put]using this
def wu(P:aJ)(l:Nat)(args:Array aa)(w:J)(K:Bool->J->Prop):Prop:=
 YieldAt Fence.wide 0 P l args w λe d=>∃b:Bool,e=ae (.bool b)/\K b d
def Dj(P:aJ)(m l:Nat)(r:Loop)(body:Code)(Q:Exit->Act->J->Prop):Exit->Act->J->Prop:=
 Exit.then (λa₁ d₁=>d₁.heap[l]? =some (lo r .ready none)/\gj P ⟨m,[],some l⟩ body Q a₁ (d₁.putObj l (lo r .busy none))) (λ_ _ _=>False)
def ahi{m l:Nat}{r:Loop}{ps:Array Tmp}{assign body:Code}{E:Env}{args:List aa}{w:J}{R:bW->J->Prop}{K:Bool->J->Prop}(d:Dl r m ps assign body E)(A:w.heap[l]? =some (lo r .ready none))(F:args.length=ps.size)(B:ps.toList.all (λp=>Nat.blt p m)=true)(y:∀e j,R e j->∃b:Bool,e=ae (.bool b)/\K b j)(h:WP P ⟨m,[],some l⟩ assign (Dj P m l r body (roundPost P l R)) (q0 E ps.toList args) w):wu P l args.toArray w K:=by
 have D:=run_yield (P:=P) (w:=w) (args:=args.toArray) A (by simp[d.ps,F]);refine⟨_,_,_,_,D,RoundIn.mono (roundIn_of_wpIn (R:=R) trivial ?_) y⟩;simp only[d.ps,d.assign,d.body];have z:Ag ⟨m,[],some l⟩ {tmps:=(ps.zip args.toArray).foldl (λt (p,v)=>t.setIfInBounds p v) r.tmps,defers:=[]} (q0 E ps.toList args):=by have:=Tc (m:=m) (l:=l) ps.toList args E r.tmps d.size (λp C=>by simpa using ff.1 B p C) d.get;rw[<-Array.foldl_toList];simpa using this
 refine wpIn_mono (h _ z) λe G j k=>?_;cases e with
 |normal=>
  obtain⟨q,x⟩:=k;exact⟨_,run_beginRound q rfl,x⟩
 |_=>exact k.elim
def ae2{l:Nat}{r:Loop}{a:Act}{w:J}{R:bW->J->Prop}(d:w.heap[l]? =some (lo r .busy none))(h:R (ae (.bool true)) (w.putObj l (lo r .ready none))):roundPost P l R .normal a w:=
 ⟨_,_,run_endRound none d,h⟩
def ae3{l:Nat}{r:Loop}{a:Act}{w:J}{R:bW->J->Prop}(d:w.heap[l]? =some (lo r .busy none))(h:R (ae (.bool false)) (w.putObj l (lo r .done (some .ret)))):roundPost P l R .ret a w:=
 ⟨_,_,run_endRound (some .ret) d,h⟩
abbrev marked(m D:Nat):Cx:=⟨m,[{target:=.collected D,args:=#[]}],none⟩
def zw(d:J)(l:Nat)(o:LoopState->Option Code->Obj)(N:J->Prop)(X:Nat->J->Prop)(T:J->Prop):Prop:=
 (d.heap[l]? =some (o .ready none)/\N (d.putObj l (o .exhausted none)))\/
 (∃id,d.heap[l]? =some (o .done (some (.exit id)))/\X id (d.putObj l (o .exhausted (some (.exit id)))))\/
 (d.heap[l]? =some (o .done (some .ret))/\T (d.putObj l (o .exhausted (some .ret))))
def WP.range{m:Nat}{c:Code}{g:Operand}{ps:Array Tmp}{assign body:Code}{gf:Nat}{lb:Array aa}{Q:Exit->Act->J->Prop}{E:Env}{w:J}(N:J->Prop)(X:Nat->J->Prop)(T:J->Prop)(K:c=.rangeFunc g ps assign body)(S:E.val g=some (.func (.func gf) #[] lb))(L:hS P gf=true)(G:∀d,N d->∀a,Ag (marked m w.heap.size) a E->Q .normal a d)(I:∀id d,X id d->∀a,Ag (marked m w.heap.size) a E->Q (.exit id) a d)(H:∀d,T d->∀a,Ag (marked m w.heap.size) a E->Q .ret a d)(h:∀r:Loop,Dl r m ps assign body E->ai P gf (#[.func (.yield (w.heap.size+1)) #[] #[]]++lb) ((w.alloc (.deferred (some []))).alloc (lo r .ready none)) λe z=>(∃v,e=ae v)/\zw z (w.heap.size+1) (lo r) N X T):
  WP P (cx m) c Q E w:=by
 subst K;intro a j;have x:Ag (marked m w.heap.size) {a with defers:=[{target:=.collected w.heap.size,args:=#[]}]++a.defers} E:=⟨by show _++a.defers=_;rw[j.defers];rfl,j.size,j.get⟩;have U:a.eval g=.func (.func gf) #[] lb:=j.val S;refine wpIn_rangeFunc (F:=FW (cx m)) (n:=0) λfn _=>?_;obtain⟨r,y⟩:∃r:Loop,r={state:=.ready,pending:=none,fn,tmps:=a.tmps,params:=ps,assign,body,defers:=w.heap.size}:=⟨_,rfl⟩;have W:Dl r m ps assign body E:=by subst y;exact⟨rfl,rfl,rfl,j.size,j.get⟩
 have M:=h r W;have A:(Instr.enterLoop fn a.tmps ps assign body none).run P w=.ok (w.heap.size+1,[{target:=.collected w.heap.size,args:=#[]}]) ((w.alloc (.deferred (some []))).alloc (lo r .ready none)):=by rw[run_enterLoop_outer];subst y;rfl
 generalize Y:(w.alloc (.deferred (some []))).alloc (lo r .ready none)=W1 at *;have B:(resolve a.eval (rangeCall g (w.heap.size+1)) 0).run P W1=.ok {target:=.fn (.func gf) lb,args:=#[.func (.yield (w.heap.size+1)) #[] #[]]} W1:=by simp only[resolve,U];simp[go_sem]
 have C:(invoke (.fn (.func gf) lb) #[.func (.yield (w.heap.size+1)) #[] #[]]).run P W1=.ok (.enter gf (#[.func (.yield (w.heap.size+1)) #[] #[]]++lb)) W1:=by simp[invoke,go_sem,xb L]
 have D:CallsIn (FW (cx m)) 0 P gf (#[.func (.yield (w.heap.size+1)) #[] #[]]++lb) W1 (rangePost (FW (cx m)) 0 P (w.heap.size+1) Q {a with defers:=[{target:=.collected w.heap.size,args:=#[]}]++a.defers}):=by
  refine Kc (n:=cx m) (M.mono ?_);rintro e z ⟨⟨v,rfl⟩,O⟩;rcases O with⟨k,q⟩|⟨id,k,q⟩|⟨k,q⟩
  .exact ⟨_,_,run_endLoop (r:={r with state:=.ready,pending:=none}) k ws,G _ q _ x⟩
  .exact ⟨_,_,run_endLoop (r:={r with state:=.done,pending:=some (.exit id)}) k ws,wpIn_exit (I id _ q _ x)⟩
  .exact ⟨_,_,run_endLoop (r:={r with state:=.done,pending:=some .ret}) k ws,wpIn_ret (H _ q _ x)⟩
 exact⟨_,_,_,_,_,_,_,_,A,B,λ_ _=>trivial,C,λh=>(by cases h),D⟩
def HA(P:aJ)(fn:Func)(E:Env)(w:J)(D:Nat)(R:aK):Prop:=
 w.heap[D]? =some (.deferred (some []))/\me P fn E (w.putObj D (.deferred none)) λv=>R (ae v) (w.putObj D (.deferred none))
def Ns{fn:Func}{tmps:Array aa}{R:bW->J->Prop}{w:J}{v:aa}(h:(results fn tmps).run P w=.ok v w)(d:R (ae v) w):LeavesInM Fence.wide 0 P fn tmps R [] .returning w:=by
 show LeavesIn _ _ _ _ _ _ _ _ _;simp only[LeavesIn]
 grind
def aeW{m:Nat}{fn:Func}{a:Act}{E:Env}{w:J}{R:aK}(d:Ag (cx m) a E)(h:me P fn E w λv=>R (ae v) w):LeavesInM Fence.wide 0 P fn a.tmps R a.defers .returning w:=by obtain⟨v,j,k⟩:=Hz d h;rw[d.defers];exact Ns j k
def HB{m D:Nat}{fn:Func}{a:Act}{E:Env}{w:J}{R:aK}(d:Ag (marked m D) a E)(h:HA P fn E w D R):LeavesInM Fence.wide 0 P fn a.tmps R a.defers .returning w:=by obtain⟨j,h⟩:=h;obtain⟨v,k,q⟩:=Hz (n:=marked m D) d h;rw[d.defers];exact⟨ws,.inl ⟨D,_,rfl,run_takeDeferred j,Ns k q⟩⟩
def ZO{f:cR}{fn:Func}{c:Code}{args:List aa}{w:J}{R:bW->J->Prop}(j:P.funcs[f]? =some fn)(d:fn.body=some c)(k:Nat.ble args.length fn.ntmps=true)(h:WP P (cx fn.ntmps) c (bodyPostM Fence.wide 0 P fn R) (kV 0 args) w):ai P f args.toArray w R:=by
 have x:=Nat.le_of_ble_eq_true k;refine callsIn_wide.1 (callsIn_of_wp_marks (n:=0) j d trivial (h _ ⟨rfl,by grind,?_⟩));intro t v q;have:=(EL args 0 t v q).2
 grind
def DC(v:Option aa)(K:Nat->Prop):Prop:=match v with |some (.func (.yield l) h d)=>cS (cm h.size 0&&cm d.size 0) (K l)|_=>False
def X4{v:Option aa}{K:Nat->Prop}(h:DC v K):∃l,v=some (.func (.yield l) #[] #[])/\K l:=by
 unfold DC at h;split at h
 .rename_i l k j;obtain⟨d,q⟩:=ee h;simp only[bH,eS]at d
  grind
 grind
end
abbrev _root_.Go.Code.sn(c:Code):Code:=Code.snd c
abbrev _root_.Go.Code.fs(c:Code):Code:=Code.fst c
abbrev _root_.Go.Value.i(x:Int):aa:=.int .i64 x
abbrev _root_.Go.Value.u(x:Int):aa:=.int .u64 x
abbrev _root_.Go.Value.s0:aa:=.string (bn #[])
abbrev nb(w:J):Addr:=⟨w.heap.size,0,none⟩
section
variable {P:aJ} {n:Cx} {Q:Exit->Act->J->Prop} {E:Env} {w:J} {K:Env->J->Prop}
def pR(P:aJ)(c:Code)(K:Env->J->Prop)(E:Env)(w:J):Prop:=hM P (Code.ops c) false K (List.range (Code.ops c).size) E w []
def Ew(P:aJ)(c:Code)(l:List Nat)(K:Env->J->Prop)(E:Env)(w:J):Prop:=hM P (Code.ops c) true K l E w.drew []
def tgK(P:aJ)(c:Code)(t:Tr)(K:Env->J->Prop)(E:Env)(w:J):Prop:=pZ P (Code.ops c) K t E w.drew []
abbrev ed(P:aJ)(c:Code)(K:Env->J->Prop)(E:Env)(w:J):Prop:=pR P (Code.fst c) K E w
abbrev sdK(P:aJ)(c:Code)(l:List Nat)(K:Env->J->Prop)(E:Env)(w:J):Prop:=Ew P (Code.fst c) l K E w
abbrev stK(P:aJ)(c:Code)(t:Tr)(K:Env->J->Prop)(E:Env)(w:J):Prop:=tgK P (Code.fst c) t K E w
def u4:Code->Bool
 |.seq _ _=>true
 |_=>false
def yO{c:Code}(h:u4 c=true):c=.seq (Code.fst c) (Code.snd c):=by cases c<;>first |rfl|cases h
def qu{a b:Bool}(h:(a&&b)=true):a=true/\b=true:=by grind
def rg(c:Code)(q:s5 n c=true)(h:pR P c K E w)(x:∀d k j,Ag n j d->K d k->Q .normal j k):WP P n c Q E w:=WP.q5 K q h x
def dg(c:Code){l:List Nat}(q:BA P n c l=true)(h:Ew P c l K E w)(x:∀d k j,Ag n j d->K d k->Q .normal j k):WP P n c Q E w:=WP.draw l K q h x
def sr(c:Code)(h:ed P c K E w)(z:∀d j,K d j->WP P n (Code.snd c) Q d j)(k:(u4 c&&s5 n (Code.fst c))=true:=by kernel_rfl):WP P n c Q E w:=
 WP.seq (yO (qu k).1) (WP.q5 K (qu k).2 h λd j q x y=>z d j y q x)
def sd(c:Code){l:List Nat}(k:(u4 c&&BA P n (Code.fst c) l)=true)(h:sdK P c l K E w)(z:∀d j,K d j->WP P n (Code.snd c) Q d j):WP P n c Q E w:=
 WP.seq (yO (qu k).1) (WP.draw l K (qu k).2 h λd j q x y=>z d j y q x)
def st(c:Code){t:Tr}(k:(u4 c&&vJ P n (Code.fst c) t)=true)(h:stK P c t K E w)(z:∀d j,K d j->WP P n (Code.snd c) Q d j):WP P n c Q E w:=
 WP.seq (yO (qu k).1) (WP.tree t K (qu k).2 h λd j q x y=>z d j y q x)
def sq(c:Code)(h:WP P n (Code.fst c) (Exit.then (gj P n (Code.snd c) Q) Q) E w)(d:u4 c=true:=by kernel_rfl):WP P n c Q E w:=WP.seq (yO d) h
def bk(c:Code)(id:Nat)(d:c=.block id (Code.fst c))(h:WP P n (Code.fst c) (Exit.inBlock id Q) E w):WP P n c Q E w:=WP.block d h
def cn(c:Code){o:Operand}{A B:Prop}(h:g9 (E.val o) A B)(d:A->WP P n (Code.fst c) Q E w)(j:B->WP P n (Code.snd c) Q E w)(k:c=.cond o (Code.fst c) (Code.snd c):=by kernel_rfl):WP P n c Q E w:=WP.g9 k d j h
def sk(c:Code)(h:∀a,Ag n a E->Q .normal a w)(d:c=.skip:=by kernel_rfl):WP P n c Q E w:=WP.skip d h
def xt(c:Code)(id:Nat)(d:c=.exit id)(h:∀a,Ag n a E->Q (.exit id) a w):WP P n c Q E w:=WP.exit d h
def rt(c:Code)(h:∀a,Ag n a E->Q .ret a w)(d:c=.ret:=by kernel_rfl):WP P n c Q E w:=WP.ret d h
def lp(c:Code)(d:c=.loop (Code.fst c))(h:LP P n (Code.fst c) Q E w):WP P n c Q E w:=WP.loop d h
def nx{c:Code}{a:Act}(d:Ag n a E)(h:WP P n c Q E w):Exit.then (gj P n c Q) Q .normal a w:=h a d
end
open Go.RowKit
structure Fr(M:Nat->Prop)(w Y:J):Prop where
 os:Y.os=w.os
 tape:Y.tape=w.tape
 output:Y.output=w.output
 size:w.heap.size<=Y.heap.size
 cB:∀b,b<w.heap.size->¬M b->Y.heap[b]? =w.heap[b]?
def Fr.refl(M:Nat->Prop)(w:J):Fr M w w:=⟨rfl,rfl,rfl,br _,λ_ _ _=>rfl⟩
def Fr.trans{M q:Nat->Prop}{a b c:J}(h:Fr M a b)(k:Fr q b c)(x:∀d,d<a.heap.size->q d->M d):Fr M a c:=
 ⟨k.os.trans h.os,k.tape.trans h.tape,k.output.trans h.output,bb h.size k.size,
  λd j w=>(k.cB d (m8 j h.size) (λe=>w (x d j e))).trans (h.cB d j w)⟩
def Fr.mono{M j:Nat->Prop}{a b:J}(h:Fr M a b)(q:∀d,d<a.heap.size->M d->j d):Fr j a b:=
 ⟨h.os,h.tape,h.output,h.size,λd k w=>h.cB d k (λe=>w (q d k e))⟩
def Fr.drew(M:Nat->Prop)(w:J):Fr M w w.drew:=⟨rfl,rfl,rfl,br _,λ_ _ _=>rfl⟩
def Fr.alloc(M:Nat->Prop)(w:J)(o:Obj):Fr M w (w.alloc o):=⟨rfl,rfl,rfl,ws,λh d _=>_root_.Go.heap_alloc_old w o h d⟩
def Fr.set{M:Nat->Prop}(w:J)(p:Addr)(v:aa)(h:M p.block):Fr M w (w.setCell p v):=
 ⟨rfl,rfl,rfl,by simp[World.setCell],λj _ d=>Below.heap_setCell w p v j (λe=>d (e▸h))⟩
def Fr.grown{M:Nat->Prop}{w Y:J}{r:Option Nat}(h:w.grownBy Y r)(j:∀b,r=some b->M b):Fr M w Y:=
 ⟨h.os,h.tape,h.output,h.size,λb d k=>h.block b d (λe=>k (j b e.symm))⟩
def Fr.setObj{M:Nat->Prop}(w:J)(r:Nat)(o:Obj)(h:M r):Fr M w {w with heap:=w.heap.setIfInBounds r o}:=
 ⟨rfl,rfl,rfl,ws,λj _ d=>by grind⟩
def Fr.below{w Y:J}(h:Fr (λ_=>False) w Y):Below w.heap.size w Y:=⟨h.os,h.tape,h.output,h.size,λj d=>h.cB j d (λe=>e)⟩
def Fr.at{M:Nat->Prop}{w Y:J}(h:Fr M w Y){b:Nat}{o:Obj}(d:w.heap[b]? =some o)(j:¬M b):Y.heap[b]? =some o:=
 (h.cB b (Array.getElem?_eq_some_iff.1 d).1 j).trans d
def lt_of_heap{w:J}{b:Nat}{o:Obj}(d:w.heap[b]? =some o):b<w.heap.size:=(Array.getElem?_eq_some_iff.1 d).1
def kX(w:J)(o:Obj):(w.alloc o).heap[w.heap.size]? =some o:=_root_.Go.heap_alloc_new w o
def size_alloc(w:J)(o:Obj):(w.alloc o).heap.size=w.heap.size+1:=ws
def cellAt{w:J}{p:Addr}{cs:Array aa}{T:aE}{f:Nat×Nat}{i:Nat}{v:aa}(h:w.heap[p.block]? =some (.cells cs T f))(j:p.spot=none)(hi:cs[p.off+i]? =some v):
  w.cell? (p.add i)=some v:=by
 unfold Addr.add;split
 .rename_i d;subst d;simp[World.cell?,h,j];omega
 .simp [World.cell?,h,hi]
def frozenAt{w:J}{p:Addr}{cs:Array aa}{T:aE}{i:Nat}(h:w.heap[p.block]? =some (.cells cs T (0,0))):w.frozen? (p.add i)=false:=by unfold Addr.add;split<;>simp[World.frozen?,h]
def setAt{w:J}{p:Addr}{cs:Array aa}{T:aE}{f:Nat×Nat}{i:Nat}{v:aa}(h:w.heap[p.block]? =some (.cells cs T f))(q:p.spot=none):
  (w.setCell (p.add i) v).heap[p.block]? =some (.cells (cs.setIfInBounds (p.off+i) v) T f):=by
 have d:(p.add i).block=p.block:=by unfold Addr.add;grind
 have k:(p.add i).spot=none:=by unfold Addr.add;grind
 have j:(p.add i).off=p.off+i:=by unfold Addr.add;grind
 simp[World.setCell,d,h,k,j,Array.getElem?_modify]
def jO(p:Addr)(i:Nat):(p.add i).block=p.block:=by unfold Addr.add;grind
def az(s:Sl):List Nat:=match s.a with |some p=>[p.block]|none=>[]
def Row(w:J)(T:aE)(s:Sl)(vs:List aa):Prop:=
 (s.a=none/\s.n=0/\s.c=0/\vs=[])\/∃b o d f,s.a=some ⟨b,o,none⟩/\w.heap[b]? =some (.cells d T f)/\∀i v,vs[i]? =some v->d[o+i]? =some v
def Row.lt{w:J}{T:aE}{s:Sl}{vs:List aa}(h:Row w T s vs):∀b∈az s,b<w.heap.size:=by
 rcases h with⟨d,_⟩|⟨b,o,j,f,d,k,q⟩
 .simp [az,d]
 .simp [az,d];grind
def Row.cell{w:J}{T:aE}{s:Sl}{vs:List aa}{i:Nat}{v:aa}(h:Row w T s vs)(hi:vs[i]? =some v):∃p,s.a=some p/\w.cell? (p.add i)=some v:=by
 rcases h with⟨_,_,_,rfl⟩|⟨b,o,q,f,d,j,k⟩
 .cases hi
 .exact ⟨_,d,cellAt (p:=⟨b,o,none⟩) j rfl (k i v hi)⟩
def aG(w:J)(e:aE)(sz:Nat)(s:Sl)(xs:List aa):Prop:=w.ownsRow 0 e sz s.v s.n xs
def aG.nil(w:J)(e:aE)(sz:Nat):aG w e sz ⟨none,0,0⟩ []:=World.ownsRow_nil w 0 e sz
def aG.len{w:J}{e:aE}{sz:Nat}{s:Sl}{xs:List aa}(h:aG w e sz s xs):xs.length=s.n *sz:=h.1
def aG.cases{w:J}{e:aE}{sz:Nat}{s:Sl}{xs:List aa}(h:aG w e sz s xs):
  (s=⟨none,0,0⟩/\xs=[])\/∃g cur,s.a=some ⟨g,0,none⟩/\w.heap[g]? =some (.cells cur e (0,0))/\s.n<=s.c/\s.c<=maxLen/\cur.size=s.c *sz/\cur.toList.take (s.n *sz)=xs:=by
 obtain⟨a,n,c⟩:=s;obtain⟨z,h⟩:=h;rcases h with⟨d,j⟩|⟨g,cap,cur,d,_,j,k,q,x,y⟩
 .cases d
  grind
 grind
def aG.row{w:J}{e:aE}{sz:Nat}{s:Sl}{xs:List aa}(h:aG w e sz s xs):Row w e s xs:=by
 rcases h.cases with⟨rfl,rfl⟩|⟨g,cur,d,j,_,_,_,q⟩
 .exact .inl ⟨rfl,rfl,rfl,rfl⟩
 .refine .inr ⟨g,0,cur,(0,0),d,j,λi v k=>?_⟩
  grind
def aG.cB{w Y:J}{e:aE}{sz:Nat}{s:Sl}{xs:List aa}(h:aG w e sz s xs)(x:∀b∈az s,b<w.heap.size->Y.heap[b]? =w.heap[b]?):aG Y e sz s xs:=by
 obtain⟨y,h⟩:=h;refine⟨y,?_⟩;rcases h with h|⟨g,cap,cur,d,k,j,r⟩
 .grind
 .have q:s.a=some ⟨g,0,none⟩:=(Value.slice.inj d).1;exact .inr ⟨g,cap,cur,d,k,(x g (by simp[az,q]) (lt_of_heap j)).trans j,r⟩
def aG.fr{M:Nat->Prop}{w Y:J}{e:aE}{sz:Nat}{s:Sl}{xs:List aa}(h:aG w e sz s xs)(j:Fr M w Y)(q:∀b∈az s,¬M b):aG Y e sz s xs:=
 h.cB λb d k=>j.cB b k (q b d)
def aG.lt{w:J}{e:aE}{sz:Nat}{s:Sl}{xs:List aa}(h:aG w e sz s xs):∀b∈az s,b<w.heap.size:=h.row.lt
def aG.made(w:J)(e:aE)(sz n:Nat)(cs:List aa)(d:cs.length=n *sz)(h:n<=maxLen):aG (w.alloc (.cells cs.toArray e)) e sz ⟨some ⟨w.heap.size,0,none⟩,n,n⟩ cs:=
 ⟨d,.inr ⟨w.heap.size,n,cs.toArray,rfl,dW _,kX w _,br _,h,co,by grind⟩⟩
def Row.made(w:J)(e:aE)(n c:Nat)(cs:List aa):Row (w.alloc (.cells cs.toArray e)) e ⟨some ⟨w.heap.size,0,none⟩,n,c⟩ cs:=
 .inr ⟨w.heap.size,0,cs.toArray,(0,0),rfl,kX w _,λi v d=>by grind⟩
def Sm(s:Sl):s.v.ownBlock=s.a.map (·.block):=by obtain⟨a,n,c⟩:=s;cases a<;>rfl
structure g7(P:aJ)(t e:aE)(z:aa)(sz bytes:Nat):Prop where
 ht:P.underlying t=some (.slice e)
 hi:(P.info? e).map (λi=>(i.zero,i.size,i.bytes))=some (some z,sz,bytes)
 hz:z.cells.size=sz
 hs:0<sz
 hb:0<bytes
def Row.wh{w:J}{T:aE}{s:Sl}{vs:List aa}(h:Row w T s vs):∀b∈az s,∃j f,w.heap[b]? =some (.cells j T f):=by
 rcases h with⟨d,_⟩|⟨b,o,j,f,d,x,z⟩
 .simp [az,d]
 .intro k q;have y:k=b:=by simpa[az,d]using q
  grind
def tT(kd:ix)(es:Array MapEntry)(ms:List (Int×aa)):Prop:=es.toList.map (λe=>(e.key,e.val))=ms.map λp=>(Value.int kd p.1,p.2)
def lR(ms:List (Int×aa))(k:Int):Option aa:=(ms.find? λp=>p.1==k).map (·.2)
def EY{kd:ix}{k:Int}:∀{es:List MapEntry} {ms:List (Int×aa)} {i:Nat},es.map (λe=>(e.key,e.val))=ms.map (λp=>(Value.int kd p.1,p.2))->
  Instr.findNow (.int kd) (.int kd k) es i=some ((ms.findIdx? λp=>p.1==k).bind λh=>(ms[h]?).map λp=>(i+h,p.2))
 |[],[],i,_=>rfl
 |[],_::_,_,d=>by grind
 |_::_,[],_,d=>by grind
 |e::es,p::ms,i,d=>by
  simp only[List.map_cons,List.cons.injEq,Prod.mk.injEq]at d;obtain⟨⟨w,z⟩,x⟩:=d;have y:=EY (kd:=kd) (k:=k) (i:=i+1) x;unfold Instr.findNow;simp only[w,Instr.sameNow,if_true];by_cases B:p.1=k
  .grind
  .have j:(k==p.1)=false:=by grind
   have q:(p.1==k)=false:=by grind
   simp only[j,y,List.findIdx?_cons,q,Bool.false_eq_true,if_false];congr 1;cases A:ms.findIdx? (λp=>p.1==k)with
   |none=>simp
   |some h=>grind
def NW{ms:List (Int×aa)}{k:Int}{i:Nat}:(((ms.findIdx? λp=>p.1==k).bind λd=>(ms[d]?).map λp=>(i+d,p.2)).map (·.2))=lR ms k:=by
 unfold lR;induction ms generalizing i with
 |nil=>rfl
 |cons p ms j=>
  by_cases w:p.1=k
  .grind
  .have h:(p.1==k)=false:=by grind
   simp only[List.findIdx?_cons,h,Bool.false_eq_true,if_false,List.find?_cons];rw[<-j (i:=i+1)];cases q:ms.findIdx? (λp=>p.1==k)with
   |none=>simp
   |some d=>grind
structure Dc(P:aJ)(T kt et:aE)(kd:ix)(z:aa):Prop where
 hT:P.underlying T=some (.map kt et)
 hk:P.underlying kt=some (.int kd)
 hz:(P.info? et).map (·.zero)=some (some z)
def Kf{P:aJ}{d:aE}{kd:ix}(h:P.underlying d=some (.int kd))(b:Bool)(k:Int)(w:J):(Instr.checkKey b 10000 d (.int kd k)).run P w=.ok () w:=by unfold Instr.checkKey;simp[run_underlying h]
def W9{P:aJ}{d:aE}{z:aa}(j:(P.info? d).map (·.zero)=some (some z))(w:J):(zeroValue d).run P w=.ok z w:=by obtain⟨i,h,k⟩:=Option.map_eq_some_iff.1 j;simp[zeroValue,typeInfo,h,k]
def ac1{P:aJ}{T H C:aE}{kd:ix}{z:aa}(q:Dc P T H C kd z){w:J}{d:Nat}{es:Array MapEntry}{clock:Nat}{ms:List (Int×aa)}(j:w.heap[d]? =some (.map es clock))(A:tT kd es ms)(k:Int)(v:aa)(F:lR ms k=none):
  ∃h x,(Instr.mapUpdate T (.map (some d)) (.int kd k) v).run P w=.ok () h/\h.heap[d]? =some (.map x (clock+1))/\tT kd x (ms++[(k,v)])/\Fr (λb=>b=d) w h/\h.heap.size=w.heap.size:=by
 have D:=EY (k:=k) (i:=0) A;have E:(getObj d).run P w=.ok (.map es clock) w:=by simp[getObj,Sem.run,j]
 have y:=NW (ms:=ms) (k:=k) (i:=0);have I:=lt_of_heap j;have G:((ms.findIdx? λp=>p.1==k).bind λB=>(ms[B]?).map λp=>(0+B,p.2))=none:=by rw[F]at y;simpa using y
 refine⟨{w with heap:=w.heap.setIfInBounds d (.map (es.push {key:=.int kd k,val:=v,born:=clock}) (clock+1))},es.push {key:=.int kd k,val:=v,born:=clock},?_,by grind,?_,Fr.setObj w d _ rfl,ws⟩
 .unfold Instr.mapUpdate Instr.findKey;simp only[Sem.run_bind,run_underlying q.hT,Result.andThen_ok,E,Kf q.hk,run_underlying q.hk,D,G];simp[setObj,Sem.run,j]
 .unfold tT at A ⊢
  grind
def NR{P:aJ}{t e:aE}{z:aa}{sz bytes:Nat}(h:g7 P t e z sz bytes)(w:J)(n:Nat)(C:n *bytes<=140737488355328):
  ∃d,(Instr.makeSlice t (.int .i64 (n:Int)) (.int .i64 (n:Int))).run P w=.ok (.slice (some ⟨w.heap.size,0,none⟩) n n) d/\aG d e sz ⟨some ⟨w.heap.size,0,none⟩,n,n⟩ (madeCells z.cells (n *sz)).toList/\Fr (λ_=>False) w d:=by
 obtain⟨i,y,B,A,D⟩:=info_parts h.hi;have E:n<=140737488355328:=by have:=Nat.le_mul_of_pos_right n h.hb;omega
 obtain⟨d,k,q,x⟩:=run_make_full (P:=P) w 0 t e i z sz h.ht y B A .i64 .i64 n (by grind) (by unfold maxLen;omega) (dW _);exact⟨d,k,q,Fr.grown x λ_ j=>by cases j⟩
def ac0(z:aa)(n:Nat)(h:z.cells=#[z]):(madeCells z.cells (n *1)).toList=List.replicate n z:=by
 rw[h];apply List.ext_getElem?;intro i;by_cases d:i<n
 .simp [madeCells,d,Nat.mod_one]
 .simp [madeCells,d]
abbrev af(w Y:J):Prop:=Fr (λ_=>False) w Y
abbrev ab(b:Nat):Addr:=⟨b,0,none⟩
def bL(b:UInt8):aa:=.int .u8 (b.toNat:Int)
def a5(n:Int):aa:=.int .i64 n
def zM(U:List UInt8):∀u∈U.map bL,u.oneCell'=true:=by intro u d;obtain⟨b,_,rfl⟩:=bS.1 d;rfl
def su(l:List Int):∀u∈l.map a5,u.oneCell'=true:=by intro u d;obtain⟨b,_,rfl⟩:=bS.1 d;rfl
def Fr.dO{M:Nat->Prop}{a b c:J}(h:Fr M a b)(k:af b c):Fr M a c:=h.trans k λ_ _ h=>h.elim
def Fr.pI{M:Nat->Prop}{a b:J}(h:af a b):Fr M a b:=h.mono λ_ _ h=>h.elim
def Fr.Wv{M:Nat->Prop}{a b c:J}(h:af a b)(k:Fr M b c)(q:∀d,M d->a.heap.size<=d):af a c:=h.trans k λd w j=>by grind
def pe{w:J}{p:Addr}{v:aa}(d:w.cell? p=some v):p.block<w.heap.size:=by
 unfold World.cell? at d
 grind
def xe{M:Nat->Prop}{w Y:J}(h:Fr M w Y){p:Addr}{v:aa}(d:w.cell? p=some v)(j:¬M p.block):Y.cell? p=some v:=by
 have:=h.cB p.block (pe d) j;unfold World.cell? at d ⊢
 grind
def add_add(p:Addr)(i j:Nat):(p.add i).add j=p.add (i+j):=by
 unfold Addr.add
 grind
def jq(p:Addr):p.add 0=p:=by simp[Addr.add]
def fN(w:J)(s:Sl)(vs:List aa):Prop:=(s.a=none->s.n=0/\s.c=0)/\∀i v,vs[i]? =some v->∃p,s.a=some p/\w.cell? (p.add i)=some v
def fN.nil(w:J):fN w ⟨none,0,0⟩ []:=⟨λ_=>⟨rfl,rfl⟩,λi v d=>by grind⟩
def Row.uz{w:J}{T:aE}{s:Sl}{vs:List aa}(h:Row w T s vs):fN w s vs:=by
 refine⟨λx=>?_,λi v d=>h.cell d⟩;rcases h with⟨_,k,q,_⟩|⟨b,o,j,f,y,_⟩
 .omega
 grind
def fN.fr{M:Nat->Prop}{w Y:J}{s:Sl}{vs:List aa}(h:fN w s vs)(k:Fr M w Y)(x:∀b∈az s,¬M b):fN Y s vs:=
 ⟨h.1,λi v q=>by obtain⟨p,d,j⟩:=h.2 i v q;exact⟨p,d,xe k j (by rw[jO];exact x _ (by simp[az,d]))⟩⟩
def fN.get{w:J}{s:Sl}{vs:List aa}(h:fN w s vs){i j:Nat}{v:aa}(hi:vs[i]? =some v)(d:j=i *1){K:Addr->Prop}(x:∀p,s.a=some p->w.cell? (p.add j)=some v->K p):W.eh s.a K:=by obtain⟨p,k,q⟩:=h.2 i v hi;rw[k];rw[Nat.mul_one]at d;subst d;exact x p k q
def sub(s:Sl)(l h:Nat):Sl:=⟨if s.c=l then s.a else s.a.map (·.add (l *1)),h - l,s.c - l⟩
def zH{P:aJ}{t ty e:aE}{z:aa}{sz bytes:Nat}(h:g7 P t e z sz bytes){w:J}{s src:Sl}{xs news:List aa}(F:aG w e sz s xs)(hr:fN w src news)(y:news.length=src.n *sz)(j:∀u∈news,u.oneCell'=true)(D:(s.n+src.n) *bytes<=140737488355328):
  ∃d B,(eA #[t,t] ty #[s.v,src.v]).run P w=.ok d.v B/\aG B e sz d (xs++news)/\d.n=s.n+src.n/\Fr (λb=>b∈az s) w B/\
   (∀b∈az d,b∈az s\/w.heap.size<=b)/\(d.a=none->s.a=none/\src.n=0):=by
 obtain⟨i,E,S,L,W⟩:=info_parts h.hi;have U:s.n+src.n<=140737488355328:=by have:=Nat.le_mul_of_pos_right (s.n+src.n) h.hb;omega
 obtain⟨sa,A,M⟩:=src;cases sa with
 |none=>
  obtain⟨k,H⟩:=hr.1 rfl;simp only at k H;subst k H;have ab:news=[]:=List.eq_nil_of_length_eq_zero (by grind);subst ab;have:=run_append_owned_none (P:=P) (w:=w) 0 t ty e i sz h.ht E s.v s.n xs F;exact⟨s,w,this,by grind,ws,Fr.refl _ _,λb D=>.inl D,λO=>⟨O,rfl⟩⟩
 |some G=>
  simp only at y D U;have I:∀x u,news[x]? =some u->w.cell? (G.add x)=some u:=λx u hj=>by
   obtain⟨p,hp,hc⟩:=hr.2 x u hj
   grind
  obtain⟨v',B,K,aj,ag,ab⟩:=run_append_own (P:=P) w 0 t ty e i z sz bytes h.ht E S L W h.hz h.hs s.v s.n xs F G A M news y I j (by unfold maxLen;omega) D (dW _);have hv:∃d:Sl,v'=d.v/\d.n=s.n+A/\(d.a=none->v'=.slice none 0 0):=by
   rcases aj.2 with⟨j,h2⟩|⟨g,cap,cur,j,_⟩
   .grind
   .exact ⟨⟨_,_,_⟩,j,rfl,λO=>by cases O⟩
  obtain⟨d,rfl,ah,aq⟩:=hv;refine⟨d,B,K,?_,ah,?_,?_,?_⟩
  .unfold aG;grind
  .refine Fr.grown ag λg q=>?_;rw[Sm]at q;cases ad:s.a with
   |none=>grind
   |some p=>simp[ad]at q;simp[az,ad,q]
  .intro g q;rcases F.cases with⟨rfl,rfl⟩|⟨C,cur,Z,af,ai,ap,Y,am⟩
   .obtain ⟨v2,w2,al,ak,_,_⟩:=run_append_own (P:=P) w w.heap.size t ty e i z sz bytes h.ht E S L W h.hz h.hs (.slice none 0 0) 0 [] (World.ownsRow_nil w _ e sz) G A M news y I j (by unfold maxLen;omega) co (br _);have k:(Result.ok d.v B:Result aa)=.ok v2 w2:=K.symm.trans al;have H:=(Result.ok.inj k).1;subst H;rcases ak.2 with⟨j,_⟩|⟨g2,an,ao,j,h2,_⟩
    .have:d.a=none:=(Value.slice.inj j).1;simp[az,this]at q
    .have:d.a=some ⟨g2,0,none⟩:=(Value.slice.inj j).1;simp[az,this]at q;omega
   .obtain ⟨ar,N,T⟩:=s;simp only at Z ai Y am D U;subst Z;by_cases ac:N+A<=T
    .subst L;have ae:N *i.size+news.length<=cur.size:=by rw[y,Y,<-Nat.add_mul];exact qe _ ac
     have Q:=run_append_room (P:=P) w t ty e i h.ht E C N T cur af G A M news y I j ac ae;have k:=K.symm.trans Q;have:d.a=some ⟨C,0,none⟩:=(Value.slice.inj (Result.ok.inj k).1).1;simp[az,this]at q ⊢;omega
    .subst L;have holds:∀x u,xs[x]? =some u->w.cell? ((⟨C,0,none⟩:Addr).add x)=some u:=World.ownsRow.cells (g:=C) F rfl;have Q:=run_append_grow (P:=P) w t ty e i z h.ht E S ⟨C,0,none⟩ N T xs F.len holds G A M news y I co co (growslice_fits co (by grind));have k:=K.symm.trans Q;have:d.a=some ⟨w.heap.size,0,none⟩:=(Value.slice.inj (Result.ok.inj k).1).1;simp[az,this]at q;omega
  grind
def aG.cap{w:J}{e:aE}{sz:Nat}{s:Sl}{xs:List aa}(h:aG w e sz s xs):s.n<=s.c:=by
 rcases h.cases with⟨rfl,_⟩|⟨g,cur,_,_,h,_⟩
 .grind
 omega
def Rd(w:J)(s:Sl)(vs:List aa):Prop:=s.n=vs.length/\s.n<=s.c/\fN w s vs
def Ow(w:J)(e:aE)(s:Sl)(vs:List aa):Prop:=s.n=vs.length/\aG w e 1 s vs
def Ow.rd{w:J}{e:aE}{s:Sl}{vs:List aa}(h:Ow w e s vs):Rd w s vs:=⟨h.1,h.2.cap,h.2.row.uz⟩
def Rd.fr{M:Nat->Prop}{w Y:J}{s:Sl}{vs:List aa}(h:Rd w s vs)(d:Fr M w Y)(j:∀b∈az s,¬M b):Rd Y s vs:=⟨h.1,h.2.1,h.2.2.fr d j⟩
def Ow.fr{M:Nat->Prop}{w Y:J}{e:aE}{s:Sl}{vs:List aa}(h:Ow w e s vs)(d:Fr M w Y)(j:∀b∈az s,¬M b):Ow Y e s vs:=⟨h.1,h.2.fr d j⟩
def Rd.bz{w Y:J}{s:Sl}{vs:List aa}(h:Rd w s vs)(d:af w Y):Rd Y s vs:=h.fr d λ_ _ h=>h
def Ow.bz{w Y:J}{e:aE}{s:Sl}{vs:List aa}(h:Ow w e s vs)(d:af w Y):Ow Y e s vs:=h.fr d λ_ _ h=>h
def Rd.nil(w:J):Rd w ⟨none,0,0⟩ []:=⟨rfl,br _,fN.nil w⟩
def Ow.nil(w:J)(e:aE):Ow w e ⟨none,0,0⟩ []:=⟨rfl,aG.nil w _ _⟩
def Ow.lt{w:J}{e:aE}{s:Sl}{vs:List aa}(h:Ow w e s vs):∀b∈az s,b<w.heap.size:=h.2.lt
def Ow.made(w:J)(e:aE)(cs:List aa)(n:Nat)(d:n=cs.length)(h:n<=1000000):Ow (w.alloc (.cells cs.toArray e)) e ⟨some ⟨w.heap.size,0,none⟩,n,n⟩ cs:=
 ⟨d,aG.made w e 1 n cs co (by unfold maxLen;omega)⟩
def Rd.get{w:J}{s:Sl}{vs:List aa}(h:Rd w s vs){i j:Nat}{v:aa}(hi:vs[i]? =some v)(d:j=i *1){K:Addr->Prop}(k:∀p,s.a=some p->w.cell? (p.add j)=some v->K p):W.eh s.a K:=h.2.2.get hi d k
def Jj{t ty e:aE}{z:aa}{bytes:Nat}{P:aJ}(y:g7 P t e z 1 bytes){w:J}{s src:Sl}{xs ys:List aa}(k:Ow w e s xs)(h:Rd w src ys)(F:∀u∈ys,u.oneCell'=true)(G:(xs.length+ys.length) *bytes<=140737488355328):
  ∃d j,(eA #[t,t] ty #[s.v,src.v]).run P w=.ok d.v j/\Ow j e d (xs++ys)/\Fr (λb=>b∈az s) w j/\(∀b∈az d,b∈az s\/w.heap.size<=b)/\(d.a=none->s.a=none/\ys=[]):=by
 obtain⟨d,j,A,B,C,D,E,q⟩:=zH (ty:=ty) y k.2 h.2.2 (by rw[h.1];omega) F (by rw[k.1,h.1];exact G);refine⟨d,j,A,⟨?_,B⟩,D,E,λx=>⟨(q x).1,?_⟩⟩
 .rw [C,k.1,h.1];simp
 .have:=(q x).2;rw[h.1]at this
  grind
def E1{α:Type}(f:α->List aa)(sz:Nat)(h:∀a,(f a).length=sz):∀(cs:List α) (i j:Nat) (a:α),cs[i]? =some a->j<sz->(cs.flatMap f)[i *sz+j]? =(f a)[j]?
 |[],i,j,a,d,_=>by grind
 |c::cs,0,j,a,d,k=>by grind
 |c::cs,i+1,j,a,d,k=>by rw[cH,List.getElem?_append_right (by grind),h,show(i+1) *sz+j - sz=i *sz+j by grind];exact E1 f sz h cs i j a (by grind) k
def qE{α:Type}(f:α->List aa)(sz:Nat)(d:∀a,(f a).length=sz)(cs:List α):(cs.flatMap f).length=cs.length *sz:=by
 induction cs with
 |nil=>simp
 |cons c cs h=>grind
def fN.elem{α:Type}{f:α->List aa}{sz:Nat}(k:∀a,(f a).length=sz)(A:0<sz){w:J}{s:Sl}{cs:List α}(h:fN w s (cs.flatMap f)){i:Nat}{a:α}(hi:cs[i]? =some a){K:Addr->Prop}(z:∀p,s.a=some p->(∀d v,(f a)[d]? =some v->w.cell? ((p.add (i *sz)).add d)=some v)->K p):W.eh s.a K:=by
 obtain⟨C,D⟩:∃v,(f a)[0]? =some v:=⟨_,a' (by grind)⟩;obtain⟨p,j,_⟩:=h.2 (i *sz+0) C (by rw[E1 f sz k cs i 0 a hi A];omega);rw[j];refine z p j λd v B=>?_;have y:d<sz:=by grind
 obtain⟨E,q,x⟩:=h.2 (i *sz+d) v (by rw[E1 f sz k cs i d a hi y];exact B);rw[j]at q;cases q;rw[add_add];exact x
def vR{w:J}{b:Nat}{cs:Array aa}{T:aE}(h:w.heap[b]? =some (.cells cs T (0,0)))(i:Nat)(hi:i<cs.size)(v:aa):
  (w.cell? ((ab b).add i)).isSome=true/\w.frozen? ((ab b).add i)=false/\(w.setCell ((ab b).add i) v).heap[b]? =some (.cells (cs.setIfInBounds i v) T (0,0))/\Fr (·=b) w (w.setCell ((ab b).add i) v):=by
 refine⟨?_,frozenAt (p:=ab b) h,?_,Fr.set _ _ _ (jO _ _)⟩
 .rw [cellAt (p:=ab b) (v:=cs[i]) h rfl (by grind)];rfl
 .have:=setAt (p:=ab b) (i:=i) (v:=v) h rfl
  grind
def Fr.put(w:J)(l:Nat)(o:Obj):Fr (·=l) w (w.putObj l o):=⟨rfl,rfl,rfl,by simp[World.putObj],λh _ d=>by have:l≠h:=λe=>d e.symm;simp[World.putObj,Array.getElem?_setIfInBounds_ne this]⟩
def aen{w:J}{l:Nat}{x:Obj}(h:w.heap[l]? =some x)(o:Obj):(w.putObj l o).heap[l]? =some o:=by have:=lt_of_heap h;simp[World.putObj,this]
def X9(x y:Nat)(h:x<18446744073709551616)(j:y<18446744073709551616):kP .u64 (x:Int) (y:Int)=((x&&& y:Nat):Int):=by
 unfold kP;have d:(e9 (IntKind.bits .u64) (x:Int)&&& e9 (IntKind.bits .u64) (y:Int)).toNat=x&&& y:=by
  show(e9 64 (x:Int)&&& e9 64 (y:Int)).toNat=_
  grind
 rw[d];have:x&&& y<=x:=Nat.and_le_left;exact IntWalk.u64_in _ co
def Ya(x y:Nat)(h:x<18446744073709551616)(j:y<18446744073709551616):n8 .u64 (x:Int) (y:Int)=((x|||y:Nat):Int):=by
 unfold n8;have d:(e9 (IntKind.bits .u64) (x:Int)|||e9 (IntKind.bits .u64) (y:Int)).toNat=x|||y:=by
  show(e9 64 (x:Int)|||e9 64 (y:Int)).toNat=_
  grind
 rw[d];have:x|||y<2^64:=Nat.or_lt_two_pow h j
 exact IntWalk.u64_in _ co
def Jp(x y:Nat)(h:x<18446744073709551616)(j:y<18446744073709551616):n9 .u64 (x:Int) (y:Int)=((x^^^y:Nat):Int):=by
 unfold n9;have d:(e9 (IntKind.bits .u64) (x:Int)^^^e9 (IntKind.bits .u64) (y:Int)).toNat=x^^^y:=by
  show(e9 64 (x:Int)^^^e9 64 (y:Int)).toNat=_
  grind
 rw[d];have:x^^^y<2^64:=Nat.xor_lt_two_pow h j;exact IntWalk.u64_in _ co
def ahg(x:Nat)(j:x<18446744073709551616):x^^^18446744073709551615=18446744073709551615 - x:=by
 have d:=BitVec.toNat_not (x:=BitVec.ofNat 64 x);have h:(~~~ (BitVec.ofNat 64 x))=BitVec.ofNat 64 x^^^BitVec.allOnes 64:=(BitVec.xor_allOnes).symm
 grind
def adO(n a i:Nat)(h:n<2^i):n|||(a *2^i)=n+a *2^i:=by rw[Nat.mul_comm a,Nat.or_comm,<-Nat.two_pow_add_eq_or_of_lt h,Nat.add_comm]
def adF(x:Int):BitVec.toInt (e9 64 x)=aj .i64 x:=by
 rw[BitVec.toInt_ofInt,IntKind.wrap_i64,show((2^64:Nat))=18446744073709551616 from rfl]
 grind
def W7(b:BitVec 64):aj .i64 (b.toNat:Int)=b.toInt:=by
 rw[IntKind.wrap_i64,BitVec.toInt_eq_toNat_bmod,show((2^64:Nat))=18446744073709551616 from rfl]
 grind
def Yd(x:Int)(h:-9223372036854775808<=x/\x<=9223372036854775807):n9 .i64 x 0=x:=by unfold n9;show aj .i64 ((e9 64 x^^^e9 64 0).toNat:Int)=x;rw[show e9 64 0=0#64 from rfl,BitVec.xor_zero,W7,adF,IntWalk.i64_in _ h]
def Yc(x:Int)(h:-9223372036854775808<=x/\x<=9223372036854775807):n9 .i64 x (-1)=-x - 1:=by
 unfold n9;show aj .i64 ((e9 64 x^^^e9 64 (-1)).toNat:Int)=_;rw[show e9 64 (-1)=BitVec.allOnes 64 from rfl,BitVec.xor_allOnes,W7,BitVec.toInt_not,BitVec.toNat_ofInt,show((2^64:Nat))=18446744073709551616 from rfl]
 grind
def X'(c:UInt8):kP .u8 (c.toNat:Int) 127=((c.toNat%128:Nat):Int):=by
 have h:∀d:Fin 256,kP .u8 (d.val:Int) 127=((d.val%128:Nat):Int):=by decide+kernel
 exact h ⟨c.toNat,c.toNat_lt⟩
def Yb(n:Nat)(h:n<256):n8 .u8 (n:Int) 128=((n%128+128:Nat):Int):=by
 have j:∀d:Fin 256,n8 .u8 (d.val:Int) 128=((d.val%128+128:Nat):Int):=by decide+kernel
 exact j ⟨n,h⟩
def Iy(n:Nat):aj .u8 (n:Int)=((n%256:Nat):Int):=by rw[IntKind.wrap_u8];omega
def tu(n:Nat)(h:n<18446744073709551616):aj .u64 (n:Int)=(n:Int):=IntWalk.u64_in _ co
def Ak(n m:Nat)(h:0<m):Int.fdiv (n:Int) (m:Int)=((n / m:Nat):Int):=by grind
def bc(i:Nat)(h:i<9223372036854775807):aj .i64 ((i:Int)+1)=((i+1:Nat):Int):=by rw[IntWalk.i64_in _ co];omega
structure En where
 fp:List Nat
 P:J->Prop
 st:∀w Y,(∀b∈fp,b<w.heap.size->Y.heap[b]? =w.heap[b]?)->P w->P Y
 lt:∀w,P w->∀b∈fp,b<w.heap.size
 nd:fp.Nodup
def En.ob(b:Nat)(o:Obj):En:=⟨[b],λh=>h.heap[b]? =some o,λh q j d=>(j b ws (lt_of_heap d)).trans d,λh d w k=>by grind,ws⟩
abbrev En.c(b:Nat)(vs:List aa)(T:aE):En:=.ob b (.cells vs.toArray T (0,0))
def En.row(e:aE)(sz:Nat)(s:Sl)(vs:List aa):En:=⟨az s,λj=>aG j e sz s vs,λ_ _ h d=>d.cB h,λ_ d=>d.lt,by unfold az;grind⟩
def En.rd(s:Sl)(vs:List aa):En:=⟨if vs=[]then[]else az s,λw=>Rd w s vs,λw A x d=>by
  refine⟨d.1,d.2.1,d.2.2.1,λi v z=>?_⟩;obtain⟨p,j,h⟩:=d.2.2.2 i v z;have q:vs≠[]:=λe=>by grind
  rw[ag q]at x;have:=x p.block (by simp[az,j]) (by have:=pe h;rwa[jO]at this);refine⟨p,j,?_⟩;unfold World.cell? at h ⊢;rw[jO]at h ⊢
  grind,λw d b k=>by
  split at k
  .cases k
  .rename_i q;have y:0<vs.length:=List.length_pos_iff.2 q;obtain⟨p,j,h⟩:=d.2.2.2 0 vs[0] (a' y);simp[az,j]at k;subst k;have:=pe h
   rwa[jO]at this,by split<;>(try simp);unfold az;grind⟩
structure LH(M:Nat->Prop)(w0 w:J)(L D:List En):Prop where
 fr:Fr M w0 w
 own:∀e∈L,e.P w
 rd:∀e∈D,e.P w
 new:∀e∈L,∀b∈e.fp,w0.heap.size<=b\/M b
 nd:(L.flatMap (·.fp)).Nodup
 dj:∀e∈D,∀b∈e.fp,∀e'∈L,b∉e'.fp
def LH.start{M:Nat->Prop}{w:J}(D:List En)(h:∀e∈D,e.P w):LH M w w [] D:=⟨Fr.refl _ _,ws,h,ws,ws,ws⟩
def LH.th{M:Nat->Prop}{w:J}(L D:List En)(j:∀e∈L,e.P w/\∀b∈e.fp,M b)(x:(L.flatMap (·.fp)).Nodup)(h:∀e∈D,e.P w/\∀b∈e.fp,∀k∈L,b∉k.fp):LH M w w L D:=
 ⟨Fr.refl _ _,λe d=>(j e d).1,λe d=>(h e d).1,λe d b q=>.inr ((j e d).2 b q),x,λe d=>(h e d).2⟩
def LH.bz{M:Nat->Prop}{w0 w Y:J}{L D:List En}(H:LH M w0 w L D)(f:af w Y):LH M w0 Y L D:=
 ⟨H.fr.dO f,λe d=>e.st w Y (λb _ h=>f.cB b h id) (H.own e d),λe d=>e.st w Y (λb _ h=>f.cB b h id) (H.rd e d),H.new,H.nd,H.dj⟩
def LH.drew{M:Nat->Prop}{w0 w:J}{L D:List En}(H:LH M w0 w L D):LH M w0 w.drew L D:=H.bz (Fr.drew _ _)
def GH{α:Type}{f:α->List Nat}:∀{L:List α} {i:Nat} {e d:α},L[i]? =some e->(L.flatMap f).Nodup->(f d).Nodup->(∀j∈f d,j∈f e\/j∉L.flatMap f)->((L.set i d).flatMap f).Nodup
 |[],i,e,d,h,_,_,_=>by grind
 |a::L,0,e,d,h,k,q,w=>by grind
 |a::L,i+1,e,d,h,k,q,w=>by
  simp only[List.getElem?_cons_succ]at h;simp only[List.set_cons_succ,cH,hL]at k ⊢;refine⟨k.1,GH h k.2.1 q (λj x=>(w j x).imp id λh y=>h (by grind)),λj x A z=>?_⟩
  grind
def LH.oF{M:Nat->Prop}{w0 w:J}{L D:List En}(H:LH M w0 w L D):∀b∈L.flatMap (·.fp),b<w.heap.size:=λb d=>by obtain⟨e,h,d⟩:=cc.1 d;exact e.lt w (H.own e h) b d
def mE{L:List En}(d:(L.flatMap (·.fp)).Nodup):∀{i:Nat} {e:En},L[i]? =some e->∀{j:Nat} {g:En},L[j]? =some g->i≠j->∀b∈e.fp,b∉g.fp:=by
 induction L with
 |nil=>grind
 |cons a L h=>
  simp only[cH,hL]at d
  grind
def LH.g4{M:Nat->Prop}{w0 w Y:J}{L D:List En}(H:LH M w0 w L D){e:En}(i:Nat)(k:En)(hi:L[i]? =some e)(f:Fr (·∈e.fp) w Y)(Q:k.P Y)(A:∀b∈k.fp,b∈e.fp\/w.heap.size<=b):LH M w0 Y (L.set i k) D:=by
 have x:=aD hi;have I:Fr M w0 Y:=H.fr.trans f λy F K=>(H.new e x y K).resolve_left co;refine⟨I,λg d=>?_,λg d=>?_,λg d b h=>?_,GH hi H.nd k.nd λy F=>?_,λg d b h G B E=>?_⟩
 .obtain ⟨S,q⟩:=hJ.1 d;rw[List.getElem?_set]at q;split at q
  .grind
  .rename_i N;refine g.st w Y (λb h C=>f.cB b C λz=>mE H.nd hi q N b z h) (H.own g (aD q))
 .exact g.st w Y (λb h C=>f.cB b C λz=>H.dj g d b h e x z) (H.rd g d)
 .rcases List.mem_or_eq_of_mem_set d with d|rfl
  .exact H.new g d b h
  .rcases A b h with j|j
   .exact H.new e x b j
   .exact .inl (bb H.fr.size j)
 .rcases A y F with j|j
  .grind
  .exact .inr λO=>by have:=H.oF y O;omega
 .rcases List.mem_or_eq_of_mem_set B with B|rfl
  .exact H.dj g d b h G B E
  .rcases A b E with j|j
   .exact H.dj g d b h e x j
   .have:=g.lt w (H.rd g d) b h;omega
def LH.push{M:Nat->Prop}{w0 w Y:J}{L D:List En}(H:LH M w0 w L D)(e:En)(f:af w Y)(C:e.P Y)(z:∀b∈e.fp,w.heap.size<=b):LH M w0 Y (L++[e]) D:=by
 have k:=H.bz f;refine⟨k.fr,λg d=>?_,k.rd,λg d b j=>?_,?_,λg d b j q h y=>?_⟩
 .rcases aX.1 d with d|d
  .exact k.own g d
  grind
 .rcases aX.1 d with d|d
  .exact H.new g d b j
  .simp at d;subst d;exact .inl (bb H.fr.size (z b j))
 .rw [List.flatMap_append,hL];refine⟨H.nd,by simpa using e.nd,λB A F E=>?_⟩;rintro rfl;have x:=H.oF B A
  grind
 .rcases aX.1 h with h|h
  .exact H.dj g d b j q h y
  .simp at h;subst h;have x:=g.lt w (H.rd g d) b j
   grind
def LH.alloc{M:Nat->Prop}{w0 w:J}{L D:List En}(H:LH M w0 w L D)(o:Obj):LH M w0 (w.alloc o) (L++[.ob w.heap.size o]) D:=
 H.push _ (Fr.alloc _ _ _) (kX w o) (λb d=>by simp[En.ob]at d;omega)
def LH.gP{M:Nat->Prop}{w0 w Y:J}{L D:List En}(H:LH M w0 w L D)(e:En)(f:af w Y)(G:e.P Y)(A:∀b∈e.fp,w.heap.size<=b\/(b<w0.heap.size/\¬M b)\/∃g∈D,b∈g.fp):LH M w0 Y L (D++[e]):=by
 have h:=H.bz f;refine⟨h.fr,h.own,λg d=>?_,h.new,h.nd,λg d b x j q k=>?_⟩
 .rcases aX.1 d with d|d
  .exact h.rd g d
  grind
 .rcases aX.1 d with d|d
  .exact H.dj g d b x j q k
  .simp at d;subst d;rcases A b x with y|⟨y,B⟩|⟨E,C,z⟩
   .have:=j.lt w (H.own j q) b k;omega
   .exact (H.new j q b k).elim (λF=>co) B
   .exact H.dj E C b z j q k
def LH.forget{M:Nat->Prop}{w0 w:J}{L D:List En}(H:LH M w0 w L D)(j:List En)(h:∀e∈j,e∈D):LH M w0 w L j:=⟨H.fr,H.own,λe d=>H.rd e (h e d),H.new,H.nd,λe d=>H.dj e (h e d)⟩
def x9{α:Type}{a:α}:∀{l:List α} {i:Nat},a∈l.eraseIdx i->a∈l
 |[],_,d=>by grind
 |b::l,0,d=>by grind
 |b::l,i+1,d=>by
  simp at d;rcases d with d|d
  .simp [d]
  .exact List.mem_cons_of_mem _ (x9 d)
def RT{α:Type}{f:α->List Nat}:∀{L:List α} {i:Nat},(L.flatMap f).Nodup->((L.eraseIdx i).flatMap f).Nodup
 |[],i,d=>ws
 |a::L,0,d=>by grind
 |a::L,i+1,d=>by simp only[List.eraseIdx_cons_succ,cH,hL]at d ⊢;refine⟨d.1,RT d.2.1,λw j x q=>d.2.2 w j x ?_⟩;obtain⟨g,h,k⟩:=cc.1 q;exact cc.2 ⟨g,x9 h,k⟩
def LK{α:Type}{f:α->List Nat}:∀{L:List α} {i:Nat} {e:α},L[i]? =some e->(L.flatMap f).Nodup->∀b∈f e,∀g∈L.eraseIdx i,b∉f g
 |[],i,e,d,_=>by grind
 |a::L,0,e,d,j=>by grind
 |a::L,i+1,e,d,j=>by
  simp only[cH,hL]at j;intro b k g h q;simp only[List.getElem?_cons_succ]at d;simp only[List.eraseIdx_cons_succ,aq]at h;rcases h with rfl|h
  .grind
  .exact LK d j.2.1 b k g h q
def LH.freeze{M:Nat->Prop}{w0 w:J}{L D:List En}(H:LH M w0 w L D){e:En}(i:Nat)(h:En)(hi:L[i]? =some e)(y:h.P w)(x:∀b∈h.fp,b∈e.fp):LH M w0 w (L.eraseIdx i) (D++[h]):=by
 refine⟨H.fr,λg d=>H.own g (x9 d),λg d=>?_,λg d=>H.new g (x9 d),RT H.nd,λg d b k j q=>?_⟩
 .rcases aX.1 d with d|d
  .exact H.rd g d
  grind
 .rcases aX.1 d with d|d
  .exact H.dj g d b k j (x9 q)
  .simp at d;subst d;exact LK hi H.nd b (x b k) j q
def LH.get{M:Nat->Prop}{w0 w:J}{L D:List En}(H:LH M w0 w L D)(i:Nat){e:En}(hi:L[i]? =some e:=by rfl):e.P w:=H.own e (aD hi)
def LH.getD{M:Nat->Prop}{w0 w:J}{L D:List En}(H:LH M w0 w L D)(i:Nat){e:En}(hi:D[i]? =some e:=by rfl):e.P w:=H.rd e (aD hi)
section
variable {M:Nat->Prop} {w0 w:J} {L D:List En}
def LH.ob(H:LH M w0 w L D)(i:Nat){b:Nat}{o:Obj}(hi:L[i]? =some (.ob b o):=by rfl):w.heap[b]? =some o:=H.own _ (aD hi)
def LH.ld(H:LH M w0 w L D)(i j:Nat){b:Nat}{vs:List aa}{T:aE}{v:aa}(hi:L[i]? =some (.c b vs T):=by rfl)(d:vs[j]? =some v:=by rfl):w.cell? ((ab b).add j)=some v:=
 cellAt (p:=ab b) (H.ob i hi) rfl (by grind)
def LH.i5(H:LH M w0 w L D)(i:Nat){b:Nat}{vs:List aa}{T:aE}{v:aa}(hi:L[i]? =some (.c b vs T):=by rfl)(d:vs[0]? =some v:=by rfl):w.cell? (ab b)=some v:=by
 have:=H.ld i 0 hi d
 rwa[jq]at this
def LH.set(H:LH M w0 w L D)(i j:Nat){b:Nat}{vs:List aa}{T:aE}{v:aa}(hi:L[i]? =some (.c b vs T))(x:j<vs.length):
  (w.cell? ((ab b).add j)).isSome=true/\w.frozen? ((ab b).add j)=false/\LH M w0 (w.setCell ((ab b).add j) v) (L.set i (.c b (vs.set j v) T)) D:=by obtain⟨h,k,z,q⟩:=vR (H.ob i hi) j co v;exact⟨h,k,H.g4 i (.c b (vs.set j v) T) hi (q.mono λy _ e=>by simp[En.ob,e]) (by show _=_;grind) (λb d=>.inl d)⟩
def LH.st(H:LH M w0 w L D)(i j:Nat){b:Nat}{vs:List aa}{T:aE}{v:aa}{K:J->Prop}(hi:L[i]? =some (.c b vs T))(k:∀d,LH M w0 d (L.set i (.c b (vs.set j v) T)) D->K d)(h:j<vs.length:=by simp):aS w ((ab b).add j) v K:=by
 obtain⟨q,x,y⟩:=H.set (v:=v) i j hi h
 grind
def LH.j0(H:LH M w0 w L D)(i:Nat){b:Nat}{vs:List aa}{T:aE}{v:aa}{K:J->Prop}(hi:L[i]? =some (.c b vs T))(h:∀d,LH M w0 d (L.set i (.c b (vs.set 0 v) T)) D->K d)(j:0<vs.length:=by simp):aS w (ab b) v K:=by
 have:=H.st (v:=v) (K:=K) i 0 hi h j
 rwa[jq]at this
def LH.H4(H:LH M w0 w L D)(i:Nat){b:Nat}{E k h:aa}{T:aE}{d j q:aa}{K:J->Prop}(hi:L[i]? =some (.c b [E,k,h] T))(F:∀x,LH M w0 x (L.set i (.c b [d,j,q] T)) D->K x):aS w (ab b) d λy=>aS y ((ab b).add 1) j λz=>aS z ((ab b).add 2) q K:=by have I:=(cX.1 hi).1;exact H.j0 i hi (λy A=>A.st (vs:=[d,k,h]) (T:=T) i 1 (by grind) (λz B=>B.st (vs:=[d,j,h]) (T:=T) i 2 (by grind) (λG C=>F G (by simpa using C))))
def LH.kD(H:LH M w0 w L D)(i:Nat){b:Nat}{N x k h:aa}{T:aE}{d j q y:aa}{K:J->Prop}(hi:L[i]? =some (.c b [N,x,k,h] T))(O:∀z,LH M w0 z (L.set i (.c b [d,j,q,y] T)) D->K z):aS w (ab b) d λA=>aS A ((ab b).add 1) j λB=>aS B ((ab b).add 2) q λC=>aS C ((ab b).add 3) y K:=by have Q:=(cX.1 hi).1;exact H.j0 i hi (λA E=>E.st (vs:=[d,x,k,h]) (T:=T) i 1 (by grind) (λB F=>F.st (vs:=[d,j,k,h]) (T:=T) i 2 (by grind) (λC G=>G.st (vs:=[d,j,q,h]) (T:=T) i 3 (by grind) (λP I=>O P (by simpa using I)))))
def LH.Vn(H:LH M w0 w L D)(i:Nat){b:Nat}{S z x k h:aa}{T:aE}{d j q y A:aa}{K:J->Prop}(hi:L[i]? =some (.c b [S,z,x,k,h] T))(U:∀B,LH M w0 B (L.set i (.c b [d,j,q,y,A] T)) D->K B):aS w (ab b) d λC=>aS C ((ab b).add 1) j λE=>aS E ((ab b).add 2) q λF=>aS F ((ab b).add 3) y λG=>aS G ((ab b).add 4) A K:=by have Y:=(cX.1 hi).1;exact H.j0 i hi (λC I=>I.st (vs:=[d,z,x,k,h]) (T:=T) i 1 (by grind) (λE N=>N.st (vs:=[d,j,x,k,h]) (T:=T) i 2 (by grind) (λF O=>O.st (vs:=[d,j,q,k,h]) (T:=T) i 3 (by grind) (λG P=>P.st (vs:=[d,j,q,y,h]) (T:=T) i 4 (by grind) (λW Q=>U W (by simpa using Q))))))
def LH.st7(H:LH M w0 w L D)(i:Nat){b:Nat}{a0 E B z x k h:aa}{T:aE}{d j q y A C F:aa}{K:J->Prop}(hi:L[i]? =some (.c b [a0,E,B,z,x,k,h] T))(hK:∀G,LH M w0 G (L.set i (.c b [d,j,q,y,A,C,F] T)) D->K G):aS w (ab b) d λI=>aS I ((ab b).add 1) j λN=>aS N ((ab b).add 2) q λO=>aS O ((ab b).add 3) y λP=>aS P ((ab b).add 4) A λQ=>aS Q ((ab b).add 5) C λS=>aS S ((ab b).add 6) F K:=by have hl:=(cX.1 hi).1;exact H.j0 i hi (λI U=>U.st (vs:=[d,E,B,z,x,k,h]) (T:=T) i 1 (by grind) (λN W=>W.st (vs:=[d,j,B,z,x,k,h]) (T:=T) i 2 (by grind) (λO Y=>Y.st (vs:=[d,j,q,z,x,k,h]) (T:=T) i 3 (by grind) (λP Z=>Z.st (vs:=[d,j,q,y,x,k,h]) (T:=T) i 4 (by grind) (λQ H5=>H5.st (vs:=[d,j,q,y,A,k,h]) (T:=T) i 5 (by grind) (λS H6=>H6.st (vs:=[d,j,q,y,A,C,h]) (T:=T) i 6 (by grind) (λw7 H7=>hK w7 (by simpa using H7))))))))
def LH.nw(H:LH M w0 w L D){cs:Array aa}{T:aE}{K:J->Prop}(h:∀d,d.heap.size=w.heap.size+1->LH M w0 d (L++[.c w.heap.size cs.toList T]) D->K d):dG w (.cells cs T) K:=h _ (size_alloc _ _) (H.alloc _)
def LH.k7(H:LH M w0 w L D){o:Obj}{K:J->Prop}(h:∀d,d.heap.size=w.heap.size+1->LH M w0 d L D->d.heap[w.heap.size]? =some o->K d):dG w o K:=h _ (size_alloc _ _) (H.bz (Fr.alloc _ _ _)) (kX w o)
def LH.dr(H:LH M w0 w L D){K:J->Prop}(h:∀d,LH M w0 d L D->K d):mF w K:=h _ H.drew
def LH.pu(H:LH M w0 w L D)(i:Nat){b:Nat}{o d:Obj}{K:J->Prop}(hi:L[i]? =some (.ob b o))(j:∀h,LH M w0 h (L.set i (.ob b d)) D->K h):mT w b o d K:=
 ⟨H.ob i hi,j _ (H.g4 i (.ob b d) hi ((Fr.put w b d).mono λq _ e=>by simp[En.ob,e]) (aen (H.ob i hi) d) (λb k=>.inl k))⟩
def LH.ap(H:LH M w0 w L D)(i:Nat){P:aJ}{t ty e:aE}{z:aa}{sz bytes:Nat}(j:g7 P t e z sz bytes){s src:Sl}{xs news:List aa}{K:Sl->J->Prop}(hi:L[i]? =some (.row e sz s xs))(I:fN w src news)(G:news.length=src.n *sz)(C:∀u∈news,u.oneCell'=true)(F:(s.n+src.n) *bytes<=140737488355328)(E:∀d h,LH M w0 h (L.set i (.row e sz d (xs++news))) D->d.n=s.n+src.n->(d.a=none->s.a=none/\src.n=0)->K d h):
  ∃d h,(eA #[t,t] ty #[s.v,src.v]).run P w=.ok d.v h/\K d h:=by obtain⟨d,h,k,q,x,y,A,B⟩:=zH (ty:=ty) j (H.get i hi) I G C F;exact⟨d,h,k,E d h (H.g4 i (.row e sz d (xs++news)) hi y q A) x B⟩
def LH.uf(H:LH M w0 w L D)(i:Nat){P:aJ}{t ty e:aE}{z:aa}{sz bytes:Nat}(k:g7 P t e z sz bytes){T:aE}{s:Sl}{xs:List aa}{news:Array aa}{K:Sl->J->Prop}(hi:L[i]? =some (.row e sz s xs))(y:∀d h,LH M w0 h (L.set i (.row e sz d (xs++news.toList))) D->d.n=s.n+1->d.a≠none->K d h)(A:(s.n+1) *bytes<=140737488355328)(F:news.size=sz:=by rfl)(x:∀u∈news.toList,u.oneCell'=true:=by simp[Value.oneCell']):
  dG w (.cells news T) λC=>∃d h,(eA #[t,t] ty #[s.v,.slice (some (Addr.mk w.heap.size 0 none)) 1 1]).run P C=.ok d.v h/\K d h:=by have j:LH M w0 (w.alloc (.cells news T)) L D:=H.bz (Fr.alloc _ _ _);refine j.ap i k (src:=⟨some (ab w.heap.size),1,1⟩) (ty:=ty) (K:=K) (news:=news.toList) hi ((Row.made w T 1 1 news.toList).uz) (by grind) x A (λd h q B G=>y d h q B λE=>by grind)
def LH.fY(H:LH M w0 w L D)(e:aE)(sz:Nat):LH M w0 w (L++[.row e sz ⟨none,0,0⟩ []]) D:=H.push _ (Fr.refl _ _) (aG.nil w e sz) (λb d=>by simp[En.row,az]at d)
end
def aG.Bf{w:J}{e:aE}{s:Sl}{vs:List aa}(h:aG w e 1 s vs):Ow w e s vs:=⟨by have:=h.len;omega,h⟩
def aG.hq{w:J}{e:aE}{s:Sl}{vs:List aa}(h:aG w e 1 s vs):Rd w s vs:=h.Bf.rd
abbrev F0:Nat->Prop:=λ_=>False
def LH.take{M:Nat->Prop}{w0 w:J}{L D:List En}(H:LH M w0 w L D)(n:Nat):LH M w0 w (L.take n) D:=
 ⟨H.fr,λe d=>H.own e (ky d),H.rd,λe d=>H.new e (ky d),by
  have:=H.nd
  grind,λe d b j h k=>H.dj e d b j h (ky k)⟩
def aP{a b:Int}{A B:Prop}(h:a=b->A)(j:a≠b->B):bA (a==b) A B:=bT (λd=>h (by grind)) (λd=>j (by grind))
def dA{a b:Int}{A B:Prop}(h:a≠b->A)(j:a=b->B):bA (a !=b) A B:=bT (λd=>h (by grind)) (λd=>j (by grind))
def aF{p:Prop}[Decidable p]{A B:Prop}(h:p->A)(j:¬p->B):bA (decide p) A B:=bT (λd=>h (eT d)) (λd=>j (iy d))
def eb{b:Bool}{A B:Prop}(h:b=false->A)(j:b=true->B):bA (!b) A B:=bT (λd=>h (by grind)) (λd=>j (by grind))
def LH.fJ{M:Nat->Prop}{w0 w:J}{L D:List En}(H:LH M w0 w L D)(i j:Nat){b:Nat}{vs:List aa}{T:aE}{v:aa}(hi:D[i]? =some (.c b vs T):=by rfl)(d:vs[j]? =some v:=by rfl):w.cell? ((ab b).add j)=some v:=
 cellAt (p:=ab b) (show w.heap[b]? =_ from H.rd _ (aD hi)) rfl (by grind)
def LH.ZL{M:Nat->Prop}{w0 w Y:J}{L D:List En}(H:LH M w0 w L D)(i:Nat){b:Nat}{vs d:List aa}{T:aE}(f:Fr (·=b) w Y)(h:Y.heap[b]? =some (.cells d.toArray T (0,0)))(hi:L[i]? =some (.c b vs T):=by rfl):LH M w0 Y (L.set i (.c b d T)) D:=
 H.g4 i (.c b d T) hi (f.mono λk _ e=>by simp[En.ob,e]) h (λb j=>.inl j)
def LH.cZ{M:Nat->Prop}{w0 w:J}{L D:List En}(H:LH M w0 w L D){e:aE}{sz n:Nat}{cs:List aa}(k:cs.length=n *sz)(q:n<=maxLen){K:J->Prop}(h:∀d,LH M w0 d (L++[.row e sz ⟨some (ab w.heap.size),n,n⟩ cs]) D->K d):dG w (.cells cs.toArray e) K:=
 h _ (H.push _ (Fr.alloc _ _ _) (aG.made w e sz n cs k q) (λb j=>by simp[En.row,az]at j;omega))
def g3(P:aJ)(o:Oper)(E:Env)(w:J)(K:Env->J->Prop):Prop:=
 bif calm P o then oc P o E w λv _=>K (E.put o.dst v) w else hW P o E w λv d=>K (E.put o.dst v) d
def w4(ops:Array Oper):Bool:=(List.range ops.size).all λi=>match ops[i]? with
 |some o=>o.guard.isNone&&o.after.toList.all λe=>!(Region.binds .any e)||Nat.blt e.on i
 |none=>true
abbrev dL(L:Nat->Bool)(i:Nat):Nat->Bool:=λd=>cm d i||L d
section
variable {P:aJ} {ops:Array Oper} {n:Cx} {K:Env->J->Prop}
def DF(h:w4 ops=true){i:Nat}{o:Oper}(d:ops[i]? =some o):o.guard=none/\∀e∈o.after,Region.binds .any e=true->e.on<i:=by unfold w4 at h;have k:i<ops.size:=(Array.getElem?_eq_some_iff.1 d).1;have:=ff.1 h i (List.mem_range.2 k);rw[d]at this;simp only[bH]at this;refine⟨by simpa using this.1,λe q j=>?_⟩;have:=ff.1 this.2 e (by grind);rw[j]at this;simpa using this
def af3{i:Nat}{o:Oper}{a:Act}{E:Env}{w:J}{Kh:Env->J->Prop}{K':Act->J->Prop}{Q:Exit->Act->J->Prop}(q:eo n ops=true)(d:ops[i]? =some o)(D:o.guard=none)(j:Ag n a E)(h:g3 P o E w Kh)(next:∀z y x,Ag n z y->Kh y x->K' z x):wpOp P ops Q i K' a w:=by
 have B:=Region.noSelect_spec (ops:=ops) (by unfold eo at q;grind);have C:dC o (yielded ops a.tmps)=true:=by simp[dC,D]
 unfold g3 at h;cases A:calm P o with
 |true=>
  rw[A]at h;simp only[cond_true]at h;obtain⟨v,K,F,G,H⟩:=zW (λk b=>B i o k b d) j h;unfold wpOp;simp only[d,C,if_true];refine .inl ?_;unfold Oper.wp;rw[H w G];exact next _ _ _ (j.put v (hn q d)) F
 |false=>
  rw[A]at h;simp only[cond_false]at h;exact zg d C (og (λk b=>B i o k b d) j h) λv x I=>next _ _ _ (j.put v (hn q d)) I
def ag9(hn:eo n ops=true)(D:w4 ops=true)(z:(Nat->Bool)->Env->J->Prop)(step:∀k E w i o,ops[i]? =some o->k i=false->(∀e∈o.after,Region.binds .any e=true->k e.on=true)->z k E w->g3 P o E w λB H=>z (dL k i) B H)(fin:∀k E w,(∀i,i<ops.size->k i=true)->z k E w->K E w):
  ∀(fuel:Nat) (h:Array Bool) (a:Act) (E:Env) (w:J),h.size=ops.size->Ag n a E->z (λd=>h.getD d false) E w->((List.range ops.size).filter λd=>!h.getD d false).length<=fuel->
   wpAny P .any ops (h6 n K) fuel h a w:=by
 have done:∀(h:Array Bool) (a:Act) (E:Env) (w:J),h.size=ops.size->Ag n a E->z (λd=>h.getD d false) E w->fa .any ops h=[]->h6 n K .normal a w:=by
  intro h a E w F x q hr;refine⟨E,x,fin _ E w (λi=>?_) q⟩;induction i using Nat.strongRecOn with
  |_ i G=>
   intro y;cases W:h.getD i false with
   |true=>rfl
   |false=>
    exfalso;have j:ops[i]? =some ops[i]:=Array.getElem?_eq_getElem y;have N:i∈fa .any ops h:=mem_ready.2 ⟨by
     grind,_,j,λe A L=>G e.on ((DF D j).2 e A L) (Nat.lt_trans ((DF D j).2 e A L) y)⟩
    grind
 intro fuel;induction fuel with
 |zero=>
  intro h a E w F x q U;have C:∀i,i<ops.size->h.getD i false=true:=λi y=>by
   cases W:h.getD i false with
   |true=>rfl
   |false=>
    have:i∈(List.range ops.size).filter λd=>!h.getD d false:=List.mem_filter.2 ⟨List.mem_range.2 y,by grind⟩
    grind
  refine⟨?_,E,x,fin _ E w C q⟩;cases hr:fa .any ops h with
  |nil=>rfl
  |cons i l=>
   have N:i∈fa .any ops h:=by grind
   obtain⟨Q,o,j,_⟩:=mem_ready.1 N
   grind
 |succ fuel G=>
  intro h a E w F x q U;refine⟨done h a E w F x q,λi y=>?_⟩;obtain⟨Q,o,j,C⟩:=mem_ready.1 y;have Z:i<ops.size:=(Array.getElem?_eq_some_iff.1 j).1;have Y:i<h.size:=co
  have S:h.getD i false=false:=by grind
  refine af3 hn j (DF D j).1 x (step _ E w i o j S C q) λO B H T I=>?_;have A:(dL (λd=>h.getD d false) i)=λd=>(h.setIfInBounds i true).getD d false:=by
   funext d;by_cases M:i=d
   .subst M;simp[dL,Y]
   .have:cm d i=false:=by rw[<-jI,eS];omega
    rw[getD_set_ne false M]
    grind
  rw[A]at I;refine G _ O B H (by grind) T I ?_;have ab:((List.range ops.size).filter λd=>!(h.setIfInBounds i true).getD d false)=((List.range ops.size).filter λd=>!h.getD d false).filter λd=>!(cm d i):=by
   rw[List.filter_filter];refine List.filter_congr λd _=>?_;rw[<-congrFun A d]
   grind
  have aa:(((List.range ops.size).filter λd=>!h.getD d false).filter λd=>!(cm d i)).length<((List.range ops.size).filter λd=>!h.getD d false).length:=by
   refine List.length_filter_lt_length_iff_exists.2 ⟨i,List.mem_filter.2 ⟨List.mem_range.2 Z,by grind⟩,?_⟩;have:cm i i=true:=Nat.beq_refl i
   grind
  grind
def aha{c:Code}{id:Nat}{a:Act}{E:Env}{w:J}(h:(Nat->Bool)->Env->J->Prop)(D:P.follows .mixedOrders=true)(B:c=.region id ops true)(k:eo n ops=true)(A:w4 ops=true)(z:Ag n a E)(G:h (λ_=>false) E w.drew)(step:∀d E w i o,ops[i]? =some o->d i=false->(∀e∈o.after,Region.binds .any e=true->d e.on=true)->h d E w->g3 P o E w λq F=>h (dL d i) q F)(fin:∀d E w,(∀i,i<ops.size->d i=true)->h d E w->K E w):c.wpIn (FW n) 0 P (h6 n K) a w:=by
 subst B;have H:(λj=>(h4 ops.size false).getD j false)=λ_=>false:=by funext j;by_cases C:j<ops.size<;>simp[C]
 have y:=ag9 (K:=K) k A h step fin ops.size (h4 ops.size false) a E w.drew ws z (by grind) (bb (List.length_filter_le _ _) ws);refine wpIn_region_draw λt=>?_;refine tz k (λ⟨_,_,x⟩=>x) _ _ _ ?_;simp only[Region.schedule,D,Bool.true_or,if_true];exact wpAny_sound ops.size t _ a _ y
def Hr(P:aJ)(n:Nat)(c:Code):Bool:=match c with
 |.region _ ops d=>d&&(P.follows .mixedOrders&&(eo n ops&&w4 ops))
 |_=>false
def u2(P:aJ)(c:Code)(K:Env->J->Prop)(E:Env)(w:J):Prop:=
 ∃h:(Nat->Bool)->Env->J->Prop,h (λ_=>false) E w.drew/\
  (∀d E w i o,(Code.ops c)[i]? =some o->d i=false->(∀e∈o.after,Region.binds .any e=true->d e.on=true)->h d E w->g3 P o E w λj k=>h (dL d i) j k)/\
  ∀d E w,(∀i,i<(Code.ops c).size->d i=true)->h d E w->K E w
abbrev yP(P:aJ)(c:Code)(K:Env->J->Prop)(E:Env)(w:J):Prop:=u2 P (Code.fst c) K E w
variable {Q:Exit->Act->J->Prop} {E:Env} {w:J}
def ig(c:Code)(d:Hr P n c=true)(h:u2 P c K E w)(G:∀j q k,Ag n k j->K j q->Q .normal k q):WP P n c Q E w:=by
 obtain⟨y,z,step,fin⟩:=h;unfold Hr at d;split at d
 .rename_i id ops F;simp only[bH]at d;obtain⟨rfl,A,B,C⟩:=d;exact λa D=>wpIn_mono (aha y A rfl B C D z step fin) λe k q x=>by
   cases e with
   |normal=>obtain⟨j,hA,hK⟩:=x;grind
   |_=>exact x.elim
 grind
def si(c:Code)(k:(u4 c&&Hr P n (Code.fst c))=true)(h:yP P c K E w)(y:∀d j,K d j->WP P n (Code.snd c) Q d j):WP P n c Q E w:=
 WP.seq (yO (qu k).1) (ig _ (qu k).2 h λd j z q x=>nx q (y d j x))
end
def rowOf(o:Oper):Op×Option Nat×aE×List Nat:=(o.op,o.dst,o.type,(o.after.toList.filter λe=>Region.binds .any e).map (·.on))
def allI{α:Type}(F:Nat->α->Prop):List α->Nat->Prop
 |[],_=>True
 |a::l,i=>F i a/\allI F l (i+1)
def Jf{α:Type}{F:Nat->α->Prop}:∀{l:List α} {n i:Nat} {a:α},allI F l n->l[i]? =some a->F (n+i) a
 |[],_,i,a,_,d=>by grind
 |b::l,n,0,a,d,h=>by simp at h;subst h;exact d.1
 |b::l,n,i+1,a,d,h=>by
  have:=Jf (i:=i) d.2 (by simpa using h)
  grind
section
variable {P:aJ} {K:Env->J->Prop} {E:Env} {w:J}
def wQ(P:aJ)(h:(Nat->Bool)->Env->J->Prop)(i:Nat)(r:Op×Option Nat×aE×List Nat):Prop:=
 ∀d E w o,o.op=r.1->o.dst=r.2.1->o.type=r.2.2.1->d i=false->(∀k∈r.2.2.2,d k=true)->h d E w->g3 P o E w λj q=>h (dL d i) j q
def Fq{c:Code}(j:List (Op×Option Nat×aE×List Nat))(F:(Code.ops c).toList.map rowOf=j)(h:(Nat->Bool)->Env->J->Prop)(x:h (λ_=>false) E w.drew)(step:allI (wQ P h) j 0)(fin:∀d E w,(∀i,i<j.length->d i=true)->h d E w->K E w):u2 P c K E w:=by
 refine⟨h,x,λd E w i o D q B k=>?_,λd E w y k=>fin d E w (λi q=>y i ?_) k⟩
 .have A:j[i]? =some (rowOf o):=by grind
  have:=Jf step A;rw[Nat.zero_add]at this;refine this d E w o rfl rfl rfl q (λG z=>?_) k;obtain⟨e,C,rfl⟩:=bS.1 z
  grind
 grind
def nL{o:Oper}{t:Nat}{v:aa}(d:o.op=.move (.tmp t)\/o.op=.assign (.tmp t))(k:E.get? t=some v)(h:K (E.put o.dst v) w):g3 P o E w K:=by
 obtain⟨dst,op,q,pos,after,guard⟩:=o;have x:E.ev (.tmp t)=v:=by simp[Env.ev,Env.val,k]
 rcases d with d|d<;>(simp only at d;subst d)
 .show gF P _ E (λv _=>K (E.put dst v) w);have j:E.ek ⟨dst,.move (.tmp t),q,pos,after,guard⟩=true:=by simp[Env.ek,Op.operands,Env.val,k]
  unfold gF;rw[j];show K (E.put dst (E.ev (.tmp t))) w
  grind
 .show gF P _ E (λv _=>K (E.put dst v) w);have j:E.ek ⟨dst,.assign (.tmp t),q,pos,after,guard⟩=true:=by simp[Env.ek,Op.operands,Env.val,k]
  unfold gF;rw[j];show K (E.put dst (E.ev (.tmp t))) w
  grind
def rh{o:Oper}{T:aE}{t:Nat}{p:Addr}(d:o.op=.load T (.tmp t))(j:E.get? t=some (.pointer (some p)))(h:nC P T p w λv _=>K (E.put o.dst v) w):g3 P o E w K:=by obtain⟨dst,op,k,pos,after,guard⟩:=o;simp only at d;subst d;show(match E.val (.tmp t)with |some (.pointer (some p))=>nC P T p w (λv _=>K (E.put dst v) w)|_=>False);rw[show E.val (.tmp t)=some (.pointer (some p))from j];exact h
def afT{o:Oper}{f d t2:Nat}{j k:aa}(y:o.op=.makeFunc (.func f) #[] #[.tmp d,.tmp t2])(q:E.get? d=some j)(x:E.get? t2=some k)(h:K (E.put o.dst (.func (.func f) #[] #[j,k])) w):g3 P o E w K:=by
 obtain⟨dst,op,A,pos,after,guard⟩:=o;simp only at y;subst y;show gF P _ E (λv _=>K (E.put dst v) w);have z:E.ek ⟨dst,.makeFunc (.func f) #[] #[.tmp d,.tmp t2],A,pos,after,guard⟩=true:=by simp[Env.ek,Op.operands,Env.val,q,x]
 unfold gF;rw[z];show K (E.put dst (.func (.func f) (#[].map E.ev) (#[.tmp d,.tmp t2].map E.ev))) w;have B:E.ev (.tmp d)=j:=by simp[Env.ev,Env.val,q]
 have C:E.ev (.tmp t2)=k:=by simp[Env.ev,Env.val,x]
 grind
def afU{o:Oper}{T:aE}(d:o.op=.makeMap T none)(h:K (E.put o.dst (.map (some w.heap.size))) (w.alloc (.map #[] 0))):g3 P o E w K:=by
 obtain⟨dst,op,j,pos,after,guard⟩:=o;simp only at d;subst d;have k:E.ek ⟨dst,.makeMap T none,j,pos,after,guard⟩=true:=by simp[Env.ek,Op.operands]
 have q:qC P ⟨dst,.makeMap T none,j,pos,after,guard⟩ E w (λv x=>K (E.put dst v) x):=by unfold qC;rw[k];exact h
 unfold g3;simp only[calm,cond_false];unfold hW;exact q
def rf{o:Oper}{T:aE}{m k v:Operand}{x q y:aa}(j:o.op=.insert T m k v)(A:E.val m=some x)(z:E.val k=some q)(B:E.val v=some y)(h:∃d,(Instr.mapUpdate T x q y).run P w=.ok () d/\K (E.put o.dst undef) d):g3 P o E w K:=by obtain⟨dst,op,C,pos,after,guard⟩:=o;simp only at j;subst j;show(match E.val m,E.val k,E.val v with |some m,some k,some v=>KL P (Instr.mapUpdate T m k v) w (λv d=>K (E.put dst v) d)|_,_,_=>False);rw[A,z,B];exact h
def H6{o:Oper}{t a b f:Nat}{O:Array aE}{first captured:Array aa}{x y:aa}(z:o.op=.call ⟨.value (.tmp t),#[.tmp a,.tmp b],O⟩)(A:E.get? t=some (.func (.func f) first captured))(k:E.get? a=some x)(q:E.get? b=some y)(D:hS P f=true)(h:ai P f (first++#[x,y]++captured) w λe j=>oq (zeroOf P o.type) λv=>e=ae v/\K (E.put o.dst v) j):g3 P o E w K:=by
 obtain⟨dst,op,d,pos,after,guard⟩:=o;simp only at z;subst z;show cS (E.ek ⟨dst,.call ⟨.value (.tmp t),#[.tmp a,.tmp b],O⟩,d,pos,after,guard⟩) (match E.get? t with
  |some (.func (.func f) first captured)=>cS (hS P f) (qy P f (first++(#[Operand.tmp a,.tmp b]).map E.ev++captured) (zeroOf P d) w (λv j=>K (E.put dst v) j))
  |_=>False)
 have F:E.ek ⟨dst,.call ⟨.value (.tmp t),#[.tmp a,.tmp b],O⟩,d,pos,after,guard⟩=true:=by simp[Env.ek,Op.operands,Call.operands,Env.val,A,k,q]
 rw[F,A];show cS (hS P f) _;rw[D];have B:E.ev (.tmp a)=x:=by simp[Env.ev,Env.val,k]
 have C:E.ev (.tmp b)=y:=by simp[Env.ev,Env.val,q]
 show qy P f _ _ w _;simp only[List.map_toArray,List.map_cons,List.map_nil,B,C];exact h
def o3(T:List (Nat×Nat×aa))(L:Nat->Bool)(E:Env):Prop:=∀d∈T,(bif cm d.1 0 then true else L (d.1 - 1))=true->E.get? d.2.1=some d.2.2
def o3.get{T:List (Nat×Nat×aa)}{L:Nat->Bool}(h:o3 T L E){i d:Nat}{v:aa}(j:(i,d,v)∈T)(hi:(bif cm i 0 then true else L (i - 1))=true):E.get? d=some v:=h _ j hi
def ic{E:Env}{d t:Nat}{v:aa}(h:d≠t):(E.put (some d) v).get? t=E.get? t:=by
 have:cm d t=false:=by rw[<-jI,eS];exact h
 simp only[Env.put,Env.get?,this,cond_false]
def px{E:Env}{d:Nat}{v:aa}:(E.put (some d) v).get? d=some v:=by simp[Env.put,Env.get?]
def o3.fill{T:List (Nat×Nat×aa)}{L:Nat->Bool}(h:o3 T L E){i d:Nat}{v:aa}(x:∀j∈T,j.1=i+1->j=(i+1,d,v))(y:∀j∈T,j.2.1=d->j.1=i+1):o3 T (dL L i) (E.put (some d) v):=by
 intro j q A;by_cases k:j.2.1=d
 .obtain rfl:=x j q (y j q k);exact px
 .rw [ic (λe=>k e.symm)];refine h j q ?_;by_cases w:j.1=0
  .rw [w];rfl
  .have z:cm j.1 0=false:=by rw[<-jI,eS];exact w
   rw[z]at A ⊢;have B:j.1 - 1≠i:=λe=>k (by grind);have:cm (j.1 - 1) i=false:=by rw[<-jI,eS];omega
   grind
def o3.pass{T:List (Nat×Nat×aa)}{L:Nat->Bool}(h:o3 T L E){i:Nat}{d:Option Nat}{v:aa}(w:∀j∈T,j.1≠i+1)(x:∀j∈T,d≠some j.2.1):o3 T (dL L i) (E.put d v):=by
 intro j k z;have A:(E.put d v).get? j.2.1=E.get? j.2.1:=by
  cases d with
  |none=>rfl
  |some d=>exact ic λe=>x j k (by rw[e])
 rw[A];refine h j k ?_;by_cases q:j.1=0
 .rw [q];rfl
 .have y:cm j.1 0=false:=by rw[<-jI,eS];exact q
  rw[y]at z ⊢;have B:j.1 - 1≠i:=λe=>w j k co;have:cm (j.1 - 1) i=false:=by rw[<-jI,eS];omega
  grind
end
structure LC(w:J)(L:List (Nat×List aa×aE)):Prop where
 own:∀(i:Nat) (x:Nat×List aa×aE),L[i]? =some x->w.heap[x.1]? =some (.cells x.2.1.toArray x.2.2 (0,0))
 dj:∀(i j:Nat) (x y:Nat×List aa×aE),L[i]? =some x->L[j]? =some y->x.1=y.1->i=j
abbrev iE(L:List (Nat×List aa×aE)):List Nat:=L.map (·.1)
def loc(U:List Nat)(w:J)(K:J->Prop):Prop:=∀d,Fr (·∈U) w d->K d
def yk(U:List Nat)(w:J)(K:Nat->J->Prop):Prop:=∀b d,w.heap.size<=b->d.heap.size=b+1->Fr (·∈U) w d->K b d
def ep(U:List Nat)(P:aJ)(f:cR)(args:Array aa)(w:J)(K:aK):Prop:=∃d:Nat->Prop,(∀b∈U,¬d b)/\ai P f args w λr h=>Fr d w h/\K r h
def kept(U:List Nat)(w Y:J):Prop:=∀b∈U,Y.heap[b]? =w.heap[b]?
def adN{d:Option Addr}{K K':Addr->Prop}(h:eh d K)(f:∀p,K p->K' p):eh d K':=by
 cases d with
 |none=>exact h
 |some p=>exact f p h
def UK{t:Bool}{A B d j:Prop}(h:bA t A B)(k:A->d)(q:B->j):bA t d j:=afp k q h
def afO{w:J}{p:Addr}{v:aa}{K K':J->Prop}(h:aS w p v K)(f:∀d,K d->K' d):aS w p v K':=⟨h.1,h.2.1,f _ h.2.2⟩
section
variable {w wT:J} {L:List (Nat×List aa×aE)}
def LC.nil(w:J):LC w []:=⟨λi h d=>by grind,λi j h k d=>by grind⟩
def LC.Yr(H:LC w L){b:Nat}(d:b∈iE L):∃(i:Nat) (x:Nat×List aa×aE),L[i]? =some x/\x.1=b:=by
 obtain⟨x,h,rfl⟩:=bS.1 d;obtain⟨i,j⟩:=hJ.1 h
 grind
def LC.lt(H:LC w L){b:Nat}(d:b∈iE L):b<w.heap.size:=by obtain⟨i,j,h,rfl⟩:=H.Yr d;exact lt_of_heap (H.own i j h)
def LC.qN{Y:J}(H:LC w L)(h:kept (iE L) w Y):LC Y L:=
 ⟨λi d j=>by rw[h d.1 (bS.2 ⟨d,aD j,rfl⟩)];exact H.own i d j,H.dj⟩
def LC.fr{M:Nat->Prop}{Y:J}(H:LC w L)(f:Fr M w Y)(h:∀b∈iE L,¬M b):LC Y L:=H.qN λb d=>f.cB b (H.lt d) (h b d)
def LC.pick(H:LC w L)(is:List Nat)(A:is.Nodup):LC w (is.filterMap λi=>L[i]?):=by
 induction is with
 |nil=>exact LC.nil w
 |cons x is h=>
  have h:=h (List.nodup_cons.1 A).2;cases q:L[x]? with
  |none=>grind
  |some y=>
   rw[List.filterMap_cons_some q];have back:∀(j:Nat) d,(is.filterMap λi=>L[i]?)[j]? =some d->d.1≠y.1:=by
    intro j d B e;obtain⟨m,E,z⟩:=List.mem_filterMap.1 (aD B);have:=H.dj m x d y z q e
    grind
   refine⟨λi d k=>?_,λi j d C k D e=>?_⟩
   .cases i with
    |zero=>simp at k;subst k;exact H.own x y q
    |succ i=>exact h.own i d (by grind)
   .cases i with
    |zero=>
     grind
    |succ i=>
     cases j with
     |zero=>grind
     |succ j=>rw[h.dj i j d C (by grind) (by grind) e]
def LC.alloc(H:LC w L)(o:Obj):LC (w.alloc o) L:=H.fr (M:=λ_=>False) (Fr.alloc _ _ _) (λ_ _ d=>d)
def LC.push(H:LC w L)(cs:Array aa)(T:aE):LC (w.alloc (.cells cs T)) (L++[(w.heap.size,cs.toList,T)]):=by
 have z:=H.alloc (.cells cs T);have B:∀(i:Nat) d,L[i]? =some d->d.1<w.heap.size:=λi d h=>lt_of_heap (H.own i d h);have k:∀(i:Nat) d,(L++[(w.heap.size,cs.toList,T)])[i]? =some d->(L[i]? =some d)\/(i=L.length/\d=(w.heap.size,cs.toList,T)):=by grind
 refine⟨λi d h=>?_,λi x d y h A e=>?_⟩
 .rcases k i d h with j|⟨_,rfl⟩
  .exact z.own i d j
  .simp only[Array.toArray_toList];exact kX w _
 .rcases k i d h with j|⟨j,rfl⟩
  .rcases k x y A with q|⟨q,rfl⟩
   .exact H.dj i x d y j q e
   grind
  grind
def DM(L:List (Nat×List aa×aE))(i:Nat){b:Nat}{vs d:List aa}{T:aE}(hi:L[i]? =some (b,vs,T)):iE (L.set i (b,d,T))=iE L:=by
 apply List.ext_getElem?
 grind
def LC.set(H:LC w L)(i j:Nat){b:Nat}{vs:List aa}{T:aE}{v:aa}(hi:L[i]? =some (b,vs,T))(M:j<vs.length)(f:Fr (·∈iE L) wT w):
  (w.cell? ((ab b).add j)).isSome=true/\w.frozen? ((ab b).add j)=false/\LC (w.setCell ((ab b).add j) v) (L.set i (b,vs.set j v,T))/\Fr (·∈iE (L.set i (b,vs.set j v,T))) wT (w.setCell ((ab b).add j) v):=by
 obtain⟨E,F,N,x⟩:=vR (H.own i _ hi) j co v;have A:b∈iE L:=bS.2 ⟨_,aD hi,rfl⟩;refine⟨E,F,⟨λk d h=>?_,λk m d q h B e=>?_⟩,?_⟩
 .rw [List.getElem?_set]at h;split at h
  .grind
  .rename_i C;have:=x.cB d.1 (lt_of_heap (H.own k d h)) (λe=>C (H.dj i k _ d hi h e.symm));rw[this];exact H.own k d h
 .have g:∀(k:Nat) d,(L.set i (b,vs.set j v,T))[k]? =some d->∃q,L[k]? =some q/\q.1=d.1:=by grind
  obtain⟨D,y,I⟩:=g k d h;obtain⟨G,z,K⟩:=g m q B;exact H.dj k m D G y z co
 .rw [DM L i hi];exact f.trans x λd _ e=>e▸A
def gn{U:List Nat}{P:aJ}{f:cR}{args:Array aa}{K:aK}(h:ai P f args w λr d=>af w d/\K r d):ep U P f args w K:=⟨λ_=>False,λ_ _ h=>h,h⟩
end
def En.g(b:Nat):En:=⟨[b],λd=>b<d.heap.size,λd q j h=>(by grind),λd h w k=>by grind,ws⟩
section
variable {M:Nat->Prop} {w0 w:J} {L D:List En} {U:List Nat}
def LH.ghost(H:LH M w0 w L D){Y:J}(f:Fr (·∈U) w Y)(bG:∀b∈U,En.g b∈L):LH M w0 Y L D:=by
 refine⟨H.fr.trans f λB F j=>(H.new _ (bG B j) B (by simp[En.g])).resolve_left co,λe d=>?_,λe d=>?_,H.new,H.nd,H.dj⟩
 .by_cases y:∃b∈U,b∈e.fp
  .obtain ⟨b,h,C⟩:=y;obtain⟨i,z⟩:=hJ.1 d;obtain⟨A,k⟩:=hJ.1 (bG b h);have E:i=A:=by
    rcases Nat.decEq i A with x|x
    .exact absurd (by simp[En.g]) (mE H.nd z k x b C)
    omega
   subst E;rw[z]at k;cases k;exact m8 (H.own _ d) f.size
  .exact e.st w Y (λb h q=>f.cB b q λj=>y ⟨b,j,h⟩) (H.own e d)
 .exact e.st w Y (λb h q=>f.cB b q λj=>H.dj e d b h _ (bG b j) (by simp[En.g])) (H.rd e d)
def LH.ah(H:LH M w0 w L D){K:J->Prop}(h:∀d,LH M w0 d L D->K d)(bG:∀b∈U,En.g b∈L:=by simp):loc U w K:=λ_ f=>h _ (H.ghost f bG)
def LH.aH(H:LH M w0 w L D){K:Nat->J->Prop}(B:∀b q,LH M w0 q (L++[.g b]) D->K b q)(bG:∀b∈U,En.g b∈L:=by simp):yk U w K:=λb q A E f=>B b q (by
 have x:=H.ghost f bG;refine⟨x.fr,λe d=>?_,x.rd,λe d k h=>?_,?_,λe d k h z j y=>?_⟩
 .rcases aX.1 d with d|d
  .exact x.own e d
  .simp at d;subst d;show b<_;omega
 .rcases aX.1 d with d|d
  .exact H.new e d k h
  .simp at d;subst d;simp[En.g]at h;subst h;exact .inl (bb H.fr.size A)
 .rw [List.flatMap_append,hL];refine⟨H.nd,by simp[En.g],λk h F C=>?_⟩;have:=H.oF k h;simp[En.g]at C;omega
 .rcases aX.1 j with j|j
  .exact H.dj e d k h z j y
  .simp at j;subst j;simp[En.g]at y;subst y;have:=e.lt w (H.rd e d) k h;omega)
def LH.aA(H:LH M w0 w L D){P:aJ}{g:cR}{args:Array aa}{A K:aK}(j:ai P g args w λr d=>A r d/\af w d)(k:∀r d,A r d->LH M w0 d L D->K r d):ep U P g args w K:=
 gn (j.mono λr d ⟨h,f⟩=>⟨f,k r d h (H.bz f)⟩)
def LH.call(H:LH M w0 w L D){P:aJ}{g:cR}{args:Array aa}{A K:aK}(j:ai P g args w λr d=>A r d/\af w d)(k:∀r d,A r d->LH M w0 d L D->K r d):ai P g args w K:=
 j.mono λr d ⟨h,f⟩=>k r d h (H.bz f)
def LH.Tb(H:LH M w0 w L D){Y:J}(f:af w Y){e:aE}{sz:Nat}{s:Sl}{vs:List aa}(h:aG Y e sz s vs)(d:∀b∈az s,w.heap.size<=b):LH M w0 Y (L++[.row e sz s vs]) D:=H.push (.row e sz s vs) f h d
def LH.Ji(H:LH M w0 w L D)(i:Nat){P:aJ}{t ty e:aE}{z:aa}{sz bytes:Nat}(E:g7 P t e z sz bytes){s src:Sl}{xs news:List aa}{K:Sl->J->Prop}(hi:L[i]? =some (.row e sz s xs))(U:fN w src news)(T:news.length=src.n *sz)(Q:∀u∈news,u.oneCell'=true)(j:(s.n+src.n) *bytes<=140737488355328)(S:∀d h,LH M w0 h (L.set i (.row e sz d (xs++news))) D->d.n=s.n+src.n->(d.a=none->s.a=none/\src.n=0)->(∀b,En.g b∈L->h.heap[b]? =w.heap[b]?)->K d h):
  ∃d h,(eA #[t,t] ty #[s.v,src.v]).run P w=.ok d.v h/\K d h:=by
 obtain⟨d,h,F,G,I,y,N,O⟩:=zH (ty:=ty) E (H.get i hi) U T Q j;refine⟨d,h,F,S d h (H.g4 i (.row e sz d (xs++news)) hi y G N) I O λb j=>?_⟩;refine y.cB b (H.own _ j) λC=>?_;obtain⟨W,q⟩:=hJ.1 j;by_cases B:i=W
 .subst B;rw[hi]at q;cases ac:(En.row e sz s xs)with
  |mk ab Y st lt ae=>
   have k:En.row e sz s xs=En.g b:=Option.some.inj q;have x:(En.row e sz s xs).P=(En.g b).P:=by rw[k]
   have Z:=congrFun x w;have e4:(En.row e sz s xs).P (w.alloc (.cells #[] e))=(En.g b).P (w.alloc (.cells #[] e)):=by rw[k]
   have f1:(En.row e sz s xs).fp=(En.g b).fp:=by rw[k]
   have A:(En.g b).P ({w with heap:=h4 (b+1) (.map #[] 0)}):=by show b<_;simp
   rw[<-x]at A;have ad:=(aG.row (show aG ({w with heap:=h4 (b+1) (.map #[] 0)}) e sz s xs from A)).wh b C
   grind
 .exact mE H.nd hi q B b C (by simp[En.g])
end
def bN(sz:Nat)(w:J)(s:Sl)(vs:List aa):Prop:=vs.length=s.n *sz/\s.n<=s.c/\fN w s vs
def bN.fr{sz:Nat}{M:Nat->Prop}{w Y:J}{s:Sl}{vs:List aa}(h:bN sz w s vs)(d:Fr M w Y)(j:∀b∈az s,¬M b):bN sz Y s vs:=⟨h.1,h.2.1,h.2.2.fr d j⟩
def bN.bz{sz:Nat}{w Y:J}{s:Sl}{vs:List aa}(h:bN sz w s vs)(d:af w Y):bN sz Y s vs:=h.fr d λ_ _ h=>h
def aG.bf{w:J}{e:aE}{sz:Nat}{s:Sl}{vs:List aa}(h:aG w e sz s vs):bN sz w s vs:=⟨h.len,h.cap,h.row.uz⟩
def bN.nil(sz:Nat)(w:J):bN sz w ⟨none,0,0⟩ []:=⟨ws,br _,fN.nil w⟩
def En.bf(sz:Nat)(s:Sl)(vs:List aa):En:=⟨if vs=[]then[]else az s,λw=>bN sz w s vs,λw A x d=>by
  refine⟨d.1,d.2.1,d.2.2.1,λi v z=>?_⟩;obtain⟨p,j,h⟩:=d.2.2.2 i v z;have q:vs≠[]:=λe=>by grind
  rw[ag q]at x;have:=x p.block (by simp[az,j]) (by have:=pe h;rwa[jO]at this);refine⟨p,j,?_⟩;unfold World.cell? at h ⊢;rw[jO]at h ⊢
  grind,λw d b k=>by
  split at k
  .cases k
  .rename_i q;have y:0<vs.length:=List.length_pos_iff.2 q;obtain⟨p,j,h⟩:=d.2.2.2 0 vs[0] (a' y);simp[az,j]at k;subst k;have:=pe h
   rwa[jO]at this,by split<;>(try simp);unfold az;grind⟩
def pW(sz:Nat)(s:Sl)(l h:Nat):Sl:=⟨if s.c=l then s.a else s.a.map (·.add (l *sz)),h - l,s.c - l⟩
def bN.sub{sz:Nat}{w:J}{s:Sl}{vs:List aa}(h:bN sz w s vs)(l hi:Nat)(D:l<=hi)(z:hi<=s.n):bN sz w (pW sz s l hi) ((vs.take (hi *sz)).drop (l *sz)):=by
 obtain⟨q,B,C,x⟩:=h;have k:hi *sz<=s.n *sz:=qe _ z;refine⟨?_,?_,?_,λi v j=>?_⟩
 .rw [List.length_drop,List.length_take,q,Nat.min_eq_left k];show _=(hi - l) *sz;rw[Nat.sub_mul]
 .show hi - l<=s.c - l;omega
 .intro d;unfold pW at d ⊢;simp only at d ⊢;split at d
  .omega
  .cases G:s.a with
   |none=>grind
   |some p=>grind
 .rw [List.getElem?_drop]at j;have A:l *sz+i<hi *sz:=by grind
  rw[List.getElem?_take,au A]at j;obtain⟨p,F,y⟩:=x _ _ j;have E:s.c≠l:=λe=>by grind
  refine⟨p.add (l *sz),?_,?_⟩
  .unfold pW
   grind
  .rw [add_add];exact y
def kp:List Nat->List Nat
 |[]=>[]
 |a::l=>if a∈kp l then kp l else a::kp l
def aT{x:Nat}:∀{l:List Nat},x∈kp l↔x∈l
 |[]=>Iff.rfl
 |a::l=>by
  unfold kp;split
  .rename_i d;rw[aT,aq];exact⟨.inr,λh=>h.elim (λe=>by subst e;exact aT.1 d) id⟩
  .rw [aq,aq,aT]
def pH:∀l:List Nat,(kp l).Nodup
 |[]=>.nil
 |a::l=>by
  unfold kp;split
  .exact pH l
  .rename_i d;exact List.nodup_cons.2 ⟨d,pH l⟩
def En.all(es:List En):En:=⟨kp (es.flatMap (·.fp)),λd=>∀e∈es,e.P d,λd y q k e h=>e.st d y (λb j x=>q b (aT.2 (cc.2 ⟨e,h,j⟩)) x) (k e h),
 λd k b j=>(by obtain⟨e,h,w⟩:=cc.1 (aT.1 j);exact e.lt d (k e h) b w),pH _⟩
section
variable {M:Nat->Prop} {w0 w:J} {L D:List En} {U:List Nat}
structure wA(M:Nat->Prop)(w0 w Y:J)(L D:List En):Prop where
 own:∀e:En,e.P Y->(∀b∈e.fp,w.heap.size<=b)->LH M w0 Y (L++[e]) D
 rd:∀e:En,e.P Y->(∀b∈e.fp,w.heap.size<=b)->LH M w0 Y L (D++[e])
def LH.fresh(H:LH M w0 w L D){Y:J}(f:af w Y):wA M w0 w Y L D:=⟨λe d h=>H.push e f d h,λe d h=>H.gP e f d λb j=>.inl (h b j)⟩
def LH.iF(H:LH M w0 w L D){P:aJ}{g:cR}{args:Array aa}{A K:aK}(j:ai P g args w λr d=>A r d/\af w d)(k:∀r d,A r d->LH M w0 d L D->wA M w0 w d L D->K r d):ep U P g args w K:=
 gn (j.mono λr d ⟨h,f⟩=>⟨f,k r d h (H.bz f) (H.fresh f)⟩)
def LH.D8(H:LH M w0 w L D){P:aJ}{g:cR}{args:Array aa}{A K:aK}(j:ai P g args w λr d=>A r d/\af w d)(k:∀r d,A r d->LH M w0 d L D->wA M w0 w d L D->K r d):ai P g args w K:=
 j.mono λr d ⟨h,f⟩=>k r d h (H.bz f) (H.fresh f)
end
def sZ{sz:Nat}{s:Sl}{vs:List aa}{n:Nat}(h:∀b∈az s,n<=b):∀b∈(En.bf sz s vs).fp,n<=b:=λb d=>by
 have:b∈(if vs=[]then[]else az s):=d
 grind
section
variable {M:Nat->Prop} {w0 w:J} {L D:List En} {U:List Nat}
def LH.dp(H:LH M w0 w L D)(i:Nat){P:aJ}{t ty e:aE}{z:aa}{sz bytes:Nat}(k:g7 P t e z sz bytes){s src:Sl}{xs news:List aa}{K:Sl->J->Prop}(hi:L[i]? =some (.row e sz s xs))(j:bN sz w src news)(x:∀u∈news,u.oneCell'=true)(A:(s.n+src.n) *bytes<=140737488355328)(y:∀h d,LH M w0 d (L.set i (.row e sz h (xs++news))) D->K h d)(bG:∀b∈U,En.g b∈L:=by simp):
  ∃h d,(eA #[t,t] ty #[s.v,src.v]).run P w=.ok h.v d/\kept U w d/\K h d:=
 H.Ji i k (K:=λh d=>kept U w d/\K h d) hi j.2.2 j.1 x A λh d q _ _ C=>⟨λb B=>C b (bG b B),y h d q⟩
def LH.iD(H:LH M w0 w L D)(i:Nat){P:aJ}{t ty e:aE}{z:aa}{sz bytes:Nat}(q:g7 P t e z sz bytes){T:aE}{s:Sl}{xs:List aa}{news:Array aa}{K:Sl->J->Prop}(hi:L[i]? =some (.row e sz s xs))(y:∀h d,LH M w0 d (L.set i (.row e sz h (xs++news.toList))) D->K h d)(A:(s.n+1) *bytes<=140737488355328)(B:news.size=sz:=by rfl)(x:∀u∈news.toList,u.oneCell'=true:=by simp[Value.oneCell'])(bG:∀b∈U,En.g b∈L:=by simp):
  dG w (.cells news T) λj=>∃h d,(eA #[t,t] ty #[s.v,.slice (some (Addr.mk w.heap.size 0 none)) 1 1]).run P j=.ok h.v d/\kept U j d/\K h d:=by have k:LH M w0 (w.alloc (.cells news T)) L D:=H.bz (Fr.alloc _ _ _);exact k.dp i q (src:=⟨some (ab w.heap.size),1,1⟩) (ty:=ty) (K:=K) (news:=news.toList) hi ⟨by grind,br _,(Row.made w T 1 1 news.toList).uz⟩ x A y bG
end
abbrev fx(s:Sl)(i:Int)(K:Addr->Prop):Prop:=0<=i/\i<(s.n:Int)/\eh s.a K
end Go.W
end
