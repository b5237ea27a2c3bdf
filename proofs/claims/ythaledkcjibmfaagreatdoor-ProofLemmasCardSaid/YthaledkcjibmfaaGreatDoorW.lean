import Derived.OrdersHeld
import Derived.OrdersIn
import Derived.RangeFuncLeaves
import Derived.RangeFuncRecord
import Derived.RangeFuncSeq
import Derived.WalkKit
import Derived.Laws.AppendOwn
import Derived.Laws.StructEq
import Derived.KernelRfl
import Derived.Below
import Derived.OwnWalk
import Derived.IntWalk
import Derived.Laws.AppendOwnNone
set_option linter.unusedVariables false
set_option linter.defProp false
namespace Go.W
open Go renaming World->J,Calls->ak,Program->aF,Value->ab,TypeId->aC,Ending->cr,FuncId->cD,IntKind->hr
open Go.IntKind renaming wrap->ao
open _root_.ByteArray renaming mk->bJ
open Go.Builtin renaming append_->dW
open _root_.Bool renaming and_eq_true->bf,not_eq_true->iN
open _root_.Nat renaming le_refl->bg,le_trans->a8,zero_le->dn,beq->bQ,lt_of_lt_of_le->kP,mul_le_mul_right->nr,beq_eq->ep
open _root_.Option.some renaming injEq->eH
open _root_.Array renaming replicate->g4
open _root_.BitVec renaming ofInt->eF
open Go.Region renaming wanted->da,ready->eG
open Go.Ending renaming returned->ag
open List renaming mem_append->aX,mem_cons->av,mem_of_getElem?->aE,getElem?_eq_getElem->a6,getElem?_eq_some_iff->bO,mem_append_right->di,mem_flatMap->bA,mem_map->ch,mem_of_mem_take->m8,mem_singleton->bG,flatMap_append->cy,flatMap_cons->b',mem_iff_getElem?->fQ,getElem?_set->yP,mem_or_eq_of_mem_set->Dx,nodup_append->fD,mem_cons_of_mem->dS,all_eq_true->fi,getElem?_take->jw,eq_nil_of_length_eq_zero->qN
def af{c:Prop}{h:Decidable c}(x:¬c){α:Sort _}{t e:α}:ite c t e=e:=_root_.if_neg x
def aj{c:Prop}{h:Decidable c}(x:c){α:Sort _}{t e:α}:ite c t e=t:=_root_.if_pos x
def aV{p:Prop}[i:Decidable p](x:¬p):decide p=false:=_root_.decide_eq_false x
def aP{p:Prop}[i:Decidable p](x:p):decide p=true:=_root_.decide_eq_true x
def aT(p:Prop):(p∨False)=p:=_root_.or_false p
def ew{p:Prop}[i:Decidable p](x:decide p=true):p:=_root_.of_decide_eq_true x
def g5{p:Prop}[i:Decidable p](x:decide p=false):¬p:=_root_.of_decide_eq_false x
abbrev Env:=List (Nat×ab)
def Env.get? :Env->Nat->Option ab
 |[],_=>none
 |(e,v)::d,t=>bif bQ e t then some v else Env.get? d t
def Env.val(E:Env):Operand->Option ab
 |.tmp t=>E.get? t
 |.const v=>some v
 |.global g=>some (.pointer (some ⟨g,0,none⟩))
 |.func f=>some (.func (.func f) #[] #[])
def Env.ev(E:Env)(x:Operand):ab:=(E.val x).getD undef
def Env.put(E:Env)(d:Option Nat)(v:ab):Env:=
 match d with
 |some d=>(d,v)::E
 |none=>E
def Env.dQ(E:Env)(o:Oper):Bool:=o.op.operands.toList.all λd=>(E.val d).isSome
structure Cx where
 n:Nat
 ds:List Deferred
 ro:Option Nat
instance:CoeHead Cx Nat:=⟨Cx.n⟩
abbrev cx(n:Nat):Cx:=⟨n,[],none⟩
abbrev FW(n:Cx):Fence:={Fence.wide with round:=n.ro}
structure Ag(n:Cx)(a:Act)(E:Env):Prop where
 defers:a.defers=n.ds
 size:a.tmps.size=n.n
 get:∀t v,E.get? t=some v->a.tmps[t]? =some v
def Ag.val{n:Cx}{a:Act}{E:Env}(h:Ag n a E){x:Operand}{v:ab}(d:E.val x=some v):a.eval x=v:=by
 cases x with
 |tmp t=>have:=h.get t v d;simp[Act.eval,this]
 |const u=>simpa[Env.val,Act.eval]using d
 |global g=>simpa[Env.val,Act.eval]using d
 |func f=>simpa[Env.val,Act.eval]using d
def Ag.ev{n:Cx}{a:Act}{E:Env}(h:Ag n a E){x:Operand}(e:(E.val x).isSome=true):a.eval x=E.ev x:=by obtain⟨v,d⟩:=Option.isSome_iff_exists.1 e;rw[h.val d,Env.ev,d];rfl
def Ag.put{n:Cx}{a:Act}{E:Env}(h:Ag n a E){d:Option Nat}(v:ab)(k:∀t,d=some t->t<n.n):Ag n (a.put d v) (E.put d v):=by
 cases d with
 |none=>exact h
 |some t=>
  refine⟨h.defers,by simp[Act.put,h.size],?_⟩;intro s u e;have q:t<a.tmps.size:=by rw[h.size];exact k t rfl
  simp only[Env.put,Env.get?]at e;by_cases j:t=s
  .subst j;simp at e;simp[Act.put,q,e]
  .have:bQ t s=false:=by rw[<-iN,ep];exact j
   simp only[this,cond_false]at e;simpa[Act.put,Array.getElem?_setIfInBounds_ne j]using h.get s u e
def Ag.nil{n:Cx}{a:Act}{E:Env}(h:Ag n a E):Ag n a []:=⟨h.defers,h.size,λ_ _ h=>by simp[Env.get?]at h⟩
def Ag.cons{n:Cx}{a:Act}{E F:Env}(h:Ag n a E){t:Nat}{v:ab}(k:E.get? t=some v)(j:Ag n a F):Ag n a ((t,v)::F):=by
 refine⟨h.defers,h.size,?_⟩;intro s u d;simp only[Env.get?]at d;by_cases e:t=s
 .subst e;simp at d;subst d;exact h.get _ _ k
 .have:bQ t s=false:=by rw[<-iN,ep];exact e
  simp only[this,cond_false]at d;exact j.get s u d
def Ag.execOp{n:Cx}{a:Act}{E:Env}(h:Ag n a E){o:Oper}(j:∀d b,o.op≠.select d b)(e:E.dQ o=true):execOp a.eval o=execOp E.ev o:=
 execOp_congr o j λq k=>h.ev (by have:=fi.1 e q (by simpa using k);exact this)
structure Sl where
 a:Option Addr
 n:Nat
 c:Nat
abbrev Sl.v(s:Sl):ab:=.slice s.a s.n s.c
abbrev aH:=cr->J->Prop
structure Fv where
 n:Nat
 V:Array ab
 cs:Array ab
abbrev Fv.v(f:Fv):ab:=.func (.func f.n) f.V f.cs
def vc(z:ab)(K:ab->Prop):Prop:=
 match z with
 |.int d _=>∃n:Int,K (.int d n)
 |.bool _=>∃b:Bool,K (.bool b)
 |.string _=>∃s:ByteArray,K (.string s)
 |.slice _ _ _=>∃s:Sl,K s.v
 |.pointer _=>∃a:Option Addr,K (.pointer a)
 |.map _=>∃r:Option Nat,K (.map r)
 |_=>∃v:ab,K v
def xL:List ab->(List ab->Prop)->Prop
 |[],d=>d []
 |h::j,d=>vc h λv=>xL j λe=>d (v::e)
def xM(z:ab)(K:ab->Prop):Prop:=
 match z with
 |.agg d=>xL d.toList λe=>K (.agg e.toArray)
 |z=>vc z K
def BD:List ab->(List ab->Prop)->Prop
 |[],d=>d []
 |h::j,d=>xM h λv=>BD j λe=>d (v::e)
def mS(z:ab)(K:ab->Prop):Prop:=
 match z with
 |.tuple e=>BD e.toList λd=>K (.tuple d.toArray)
 |z=>xM z K
def Bz{z:ab}{K:ab->Prop}(h:vc z K):∃v,K v:=by
 unfold vc at h;split at h
 .obtain ⟨n,h⟩:=h;exact⟨_,h⟩
 .obtain ⟨n,h⟩:=h;exact⟨_,h⟩
 .obtain ⟨n,h⟩:=h;exact⟨_,h⟩
 .obtain ⟨n,h⟩:=h;exact⟨_,h⟩
 .obtain ⟨n,h⟩:=h;exact⟨_,h⟩
 .obtain ⟨n,h⟩:=h;exact⟨_,h⟩
 .exact h
def BA:∀{h:List ab} {K:List ab->Prop},xL h K->∃e,e.length=h.length/\K e
 |[],_,d=>⟨[],rfl,d⟩
 |_::_,_,d=>by obtain⟨v,d⟩:=Bz d;obtain⟨e,j,d⟩:=BA d;exact⟨v::e,by simp[j],d⟩
def HW{z:ab}{K:ab->Prop}(h:xM z K):∃v,K v:=by
 unfold xM at h;split at h
 .obtain ⟨d,_,h⟩:=BA h;exact⟨_,h⟩
 .exact Bz h
def HX:∀{h:List ab} {K:List ab->Prop},BD h K->∃e,K e
 |[],_,d=>⟨[],d⟩
 |_::_,_,d=>by obtain⟨v,d⟩:=HW d;obtain⟨e,d⟩:=HX d;exact⟨v::e,d⟩
def qo{z:ab}{K:ab->Prop}(h:mS z K):∃v,K v:=by
 unfold mS at h;split at h
 .obtain ⟨d,h⟩:=HX h;exact⟨_,h⟩
 .exact HW h
def cE(b:Bool)(p:Prop):Prop:=match b with |true=>p|false=>False
def dI{b:Bool}{p:Prop}(h:cE b p):b=true/\p:=by
 cases b
 .exact h.elim
 .exact ⟨rfl,h⟩
def bn(t:Bool)(A B:Prop):Prop:=match t with |true=>A|false=>B
def bD{t:Bool}{A B:Prop}(d:t=true->A)(e:t=false->B):bn t A B:=by
 cases t
 .exact e rfl
 .exact d rfl
def a3{t:Bool}{A B:Prop}(d:t=true)(h:A):bn t A B:=by subst d;exact h
def a1{t:Bool}{A B:Prop}(d:t=false)(h:B):bn t A B:=by subst d;exact h
def dM(d:Option Addr)(K:Addr->Prop):Prop:=match d with |some p=>K p|none=>False
def yA{d:Option Addr}{K:Addr->Prop}(h:dM d K):∃p,d=some p/\K p:=by
 cases d with
 |none=>exact h.elim
 |some p=>exact⟨p,rfl,h⟩
def rM:List Prop->Prop->Prop
 |[],p=>p
 |d::l,p=>d/\rM l p
def rN:∀{l:List Prop} {p:Prop},rM l p->(∀h∈l,h)/\p
 |[],_,d=>⟨λ_ d=>(by cases d),d⟩
 |_::_,_,d=>⟨λh e=>by
   rcases av.1 e with rfl|e
   .exact d.1
   .exact (rN d.2).1 h e,(rN d.2).2⟩
def o5{α:Type}(P:aF):Sem α->Option α
 |.pure a=>some a
 |.program d=>o5 P (d P)
 |_=>none
def Ny{α:Type}{P:aF}:∀{s:Sem α} {a:α},o5 P s=some a->∀e,s.run P e=.ok a e
 |.pure _,_,d,e=>by simp[o5]at d;subst d;rfl
 |.program h,_,d,e=>by simp only[o5]at d;exact Ny d e
 |.load ..,_,d,_|.store ..,_,d,_|.new ..,_,d,_|.shape ..,_,d,_|.freeze ..,_,d,_|.frozen ..,_,d,_|.getObj ..,_,d,_|.setObj ..,_,d,_
 |.choose ..,_,d,_|.sys ..,_,d,_|.mark ..,_,d,_|.halt ..,_,d,_=>by simp[o5]at d
def zeroOf(P:aF)(t:aC):ab:=((P.info? t).bind (·.zero)).getD undef
def calm(P:aF)(o:Oper):Bool:=
 match o.op with
 |.convert s d _=>match P.underlying s,P.underlying d with
  |some (.slice _),some (.slice _)=>false
  |some .string,some (.slice _)=>false
  |_,_=>true
 |.move _|.assign _|.pick ..|.build ..|.load ..|.nilCheck _|.binOp ..|.unOp ..|.makeInterface ..|.makeFunc ..|.slice ..|.fieldAddr ..|.field ..|.indexAddr ..|.index ..
 |.lookup ..|.typeAssert ..|.extract ..=>true
 |.call {callee:=.builtin b,..}=>match b with |.len|.cap|.min|.max=>true|_=>false
 |_=>false
def mH(x:Option ab)(y d:Nat)(K:Nat->Prop):Prop:=
 match x with
 |none=>K d
 |some (.int _ i)=>0<=i/\i<=(y:Int)/\K i.toNat
 |_=>False
def pX(P:aF)(T:aC):Option Bool:=
 match P.underlying T with
 |some (.struct _)|some (.array _ _)=>some true
 |some _=>some false
 |none=>none
def w9(P:aF)(T:aC):Bool:=
 match zeroOf P T with
 |.agg d=>pX P T==some true&&(match P.info? T with |some i=>i.size==d.size|none=>false)
 |_=>pX P T==some false
def l6(P:aF)(T:aC)(p:Addr)(w:J)(K:ab->List (J->Prop)->Prop):Prop:=
 cE (w9 P T)<|match zeroOf P T with
 |.agg h=>xL h.toList λe=>rM (e.zipIdx.map λ(v,i)=>w.cell? (p.add i)=some v) (K (.agg e.toArray) (e.zipIdx.map λ(v,i)=>λd=>d.cell? (p.add i)=some v))
 |.nilFunc=>∃f:Fv,w.cell? p=some f.v/\K f.v [λd=>d.cell? p=some f.v]
 |.nilIface=>(∃(t:aC) (x:ab),w.cell? p=some (.iface t x)/\K (.iface t x) [λd=>d.cell? p=some (.iface t x)])\/(w.cell? p=some .nilIface/\K .nilIface [λd=>d.cell? p=some .nilIface])
 |j=>vc j λv=>w.cell? p=some v/\K v [λd=>d.cell? p=some v]
def fP(P:aF)(o:Oper)(E:Env)(K:ab->List (J->Prop)->Prop):Prop:=
 cE (E.dQ o) (match o5 P (execOp E.ev o)with |some (.value v)=>K v []|_=>False)
def BE(z:ab)(K:ab->Prop):Prop:=
 match z with
 |.nilFunc=>∃f:Fv,K f.v
 |z=>mS z K
def UG{z:ab}{K:ab->Prop}(h:BE z K):∃v,K v:=by
 unfold BE at h;split at h
 .obtain ⟨f,h⟩:=h;exact⟨_,h⟩
 .exact qo h
def o'(P:aF)(s:Sem ab)(z:ab)(w:J)(K:ab->List (J->Prop)->Prop):Prop:=
 BE z λv=>s.run P w=.ok v w/\K v [λd=>s.run P d=.ok v d]
def xB(P:aF)(T:aC):Option Nat:=
 match P.underlying T with
 |some (.slice d)=>(P.info? d).map (·.size)
 |_=>none
def Ax(P:aF)(T:aC):Option (Nat×Nat):=
 match P.underlying T with
 |some (.array n d)=>(P.info? d).map λi=>(n,i.size)
 |_=>none
def RX{P:aF}{T:aC}{n sz:Nat}(h:Ax P T=some (n,sz)):∃d inf,P.underlying T=some (.array n d)/\P.info? d=some inf/\sz=inf.size:=by
 unfold Ax at h;split at h
 .rename_i m d k;obtain⟨inf,j,e⟩:=Option.map_eq_some_iff.1 h;cases e;exact⟨d,inf,k,j,rfl⟩
 .cases h
def isConst:Operand->Bool
 |.const _=>true
 |_=>false
def nU(P:aF)(T:aC)(c:ab):Bool:=
 match P.underlying T,c with
 |some (.slice _),.slice none _ _=>true
 |some (.pointer _),.pointer none=>true
 |some (.map _ _),.map none=>true
 |_,_=>false
def m0:Option ab->ab->Option Bool
 |some (.slice a _ _),.slice none _ _=>some a.isNone
 |some (.pointer a),.pointer none=>some a.isNone
 |some (.map r),.map none=>some r.isNone
 |_,_=>none
def va(P:aF)(xs d:Array ab):List Field->Option Bool
 |[]=>some true
 |f::e=>bif f.name=="_" then none else match P.underlying f.type,xs[f.offset]?,d[f.offset]?,va P xs d e with
  |some (.int _),some (.int h a),some (.int j b),some r=>bif decide (h=j)then some ((a==b)&&r)else none
  |some .string,some (.string a),some (.string b),some r=>some ((a.toList==b.toList)&&r)
  |some .bool,some (.bool a),some (.bool b),some r=>some ((a==b)&&r)
  |_,_,_,_=>none
def Ar(P:aF)(T:aC)(xs e:Array ab):Option Bool:=match P.underlying T with
 |some (.struct d)=>bif (!P.stoodInHeld T&&!P.eqGuardType P.depth T)then va P xs e d.toList else none
 |_=>none
def so(P:aF)(o:Oper)(E:Env)(T:aC)(x y:Operand)(neg:Bool)(K:ab->List (J->Prop)->Prop):Prop:=match E.val x,E.val y with
 |some (.agg d),some (.agg e)=>match Ar P T d e with
  |some b=>K (.bool (bif neg then !b else b)) []
  |none=>False
 |_,_=>fP P o E K
def CY(P:aF)(e:aC):Bool:=match P.underlying e,P.info? e with
 |some .string,some i=>i.size==1
 |_,_=>false
def M5(P:aF)(e:aC):Bool:=match P.underlying e,P.info? e with
 |some (.int _),some i=>i.size==1
 |_,_=>false
def xr(P:aF)(o:Oper)(E:Env)(w:J)(K:ab->List (J->Prop)->Prop):Prop:=
 match o.op with
 |.load e d=>match E.val d with
  |some (.pointer (some p))=>l6 P e p w K
  |_=>False
 |.nilCheck d=>match E.val d with
  |some (.pointer D)=>dM D λp=>K (.pointer (some p)) []
  |_=>fP P o E K
 |.indexAddr e d x=>match E.val d,E.val x with
  |some (.slice a n _),some (.int _ i)=>match xB P e with
   |some z=>0<=i/\i<(n:Int)/\dM a λp=>K (.pointer (some (p.add (i.toNat *z)))) []
   |none=>False
  |some (.pointer (some p)),some (.int _ i)=>match Ax P e with
   |some (n,z)=>0<=i/\i<(n:Int)/\K (.pointer (some (p.add (i.toNat *z)))) []
   |none=>False
  |_,_=>fP P o E K
 |.index e d x=>match P.underlying e,E.val d,E.val x with
  |some .string,some (.string s),some (.int _ i)=>0<=i/\∃b:UInt8,s[i.toNat]? =some b/\K (.int .u8 b.toNat) []
  |some (.array n B),some (.agg F),some (.int _ i)=>bif CY P B then 0<=i/\i<((n:Nat):Int)/\∃a:ByteArray,F[i.toNat]? =some (.string a)/\K (.string a) []else cE (M5 P B) (0<=i/\i<((n:Nat):Int)/\∃a:Int,F[i.toNat]? =some (.int .i64 a)/\K (.int .i64 a) [])
  |_,_,_=>fP P o E K
 |.slice e d lo q y=>cE (E.dQ o) (match P.underlying e,E.val d with
  |some (.slice _),some (.slice a n c)=>match xB P e with
   |some z=>mH (y.map E.ev) c c λm=>mH (q.map E.ev) m n λk=>cE (y.isNone||q.isSome) (mH (lo.map E.ev) k 0 λl=>
     K (.slice (if m=l then a else a.map (·.add (l *z))) (k - l) (m - l)) [])
   |none=>False
  |some .string,some (.string s)=>cE y.isNone (mH (q.map E.ev) s.size s.size λk=>mH (lo.map E.ev) k 0 λl=>K (.string (s.extract l k)) [])
  |some (.array n B),some (.pointer (some p))=>match P.info? B with
   |some inf=>mH (y.map E.ev) n n λm=>mH (q.map E.ev) m n λk=>cE (y.isNone||q.isSome) (mH (lo.map E.ev) k 0 λl=>
     K (.slice (some (if m=l then p else p.add (l *inf.size))) (k - l) (m - l)) [])
   |none=>False
  |_,_=>False)
 |.binOp .quo _ d h _=>bif isConst h then fP P o E K else match E.val d,E.val h with
  |some (.int j a),some (.int C b)=>cE (j==C) (b≠0/\K (.int j (j.wrap (a.tdiv b))) [])
  |_,_=>False
 |.binOp .rem _ d h _=>bif isConst h then fP P o E K else match E.val d,E.val h with
  |some (.int j a),some (.int C b)=>cE (j==C) (b≠0/\K (.int j (a.tmod b)) [])
  |_,_=>False
 |.binOp .eql e d (.const c) _=>bif nU P e c then(match m0 (E.val d) c with
  |some b=>K (.bool b) []
  |none=>False)else so P o E e d (.const c) false K
 |.binOp .neq e d (.const c) _=>bif nU P e c then(match m0 (E.val d) c with
  |some b=>K (.bool !b) []
  |none=>False)else so P o E e d (.const c) true K
 |.binOp .eql e d h _=>so P o E e d h false K
 |.binOp .neq e d h _=>match P.underlying e,E.val d,E.val h with
  |some (.pointer _),some (.pointer p),some (.pointer D)=>o' P (binOp .neq e (.pointer p) (.pointer D)) (.bool true) w K
  |_,_,_=>so P o E e d h true K
 |.binOp .add _ d h _=>match E.val d,E.val h with
  |some (.string s),some (.string t)=>¬(((s.size+t.size:Nat):Int)>IntKind.i64.max)/\K (.string (s++t)) []
  |_,_=>fP P o E K
 |.binOp .shl _ d h _=>bif isConst h then fP P o E K else match E.val d,E.val h with
  |some (.int j a),some (.int _ b)=>¬b<0/\K (.int j (j.wrap (a *2^(min b.toNat j.bits)))) []
  |_,_=>False
 |.binOp .shr _ d h _=>bif isConst h then fP P o E K else match E.val d,E.val h with
  |some (.int j a),some (.int _ b)=>¬b<0/\K (.int j (a.fdiv (2^(min b.toNat j.bits)))) []
  |_,_=>False
 |.lookup e d x ok=>match E.val d,E.val x with
  |some m,some j=>o' P (Instr.lookup e m j ok) (zeroOf P o.type) w K
  |_,_=>False
 |.convert s A d=>match P.underlying s,P.underlying A,E.val d with
  |some (.slice _),some .string,some v=>o' P (convert s A v) (.string (bJ #[])) w K
  |some (.pointer _),some .unsafePointer,some v=>o' P (convert s A v) (.pointer none) w K
  |some .unsafePointer,some (.pointer _),some v=>o' P (convert s A v) (.pointer none) w K
  |_,_,_=>fP P o E K
 |.call {callee:=.builtin .len,args,argTypes}=>match args.toList,argTypes.toList with
  |[d],[e]=>match P.underlying e,E.val d with
   |some (.map _ _),some m=>o' P (Builtin.len_ #[e] o.type #[m]) (.int .i64 0) w K
   |_,_=>fP P o E K
  |_,_=>fP P o E K
 |_=>fP P o E K
def IA(op:BinOp)(T:aC)(x y:Operand)(a b:ab):Sem ab:=do eqGuard op T x y a b;binOp op T a b
def B2(P:aF)(o:Oper):Bool:=match o.op with
 |.binOp .eql d _ _ _|.binOp .neq d _ _ _=>match P.underlying d with
  |some (.interface _)=>true
  |_=>false
 |_=>false
def IB(P:aF)(o:Oper)(E:Env)(w:J)(K:ab->List (J->Prop)->Prop):Prop:=match o.op with
 |.binOp op h d e _=>match E.val d,E.val e with
  |some a,some b=>o' P (IA op h d e a b) (.bool true) w K
  |_,_=>False
 |_=>False
def mI(P:aF)(o:Oper)(E:Env)(w:J)(K:ab->List (J->Prop)->Prop):Prop:=bif B2 P o then IB P o E w K else xr P o E w K
def pk(p:Addr):List ab->Nat->J->(J->Prop)->Prop
 |[],_,d,e=>e d
 |v::h,i,d,e=>(d.cell? (p.add i)).isSome=true/\d.frozen? (p.add i)=false/\pk p h (i+1) (d.setCell (p.add i) v) e
def oM(P:aF)(o:Oper)(E:Env)(w:J)(K:ab->J->Prop):Prop:=
 cE (E.dQ o) (match(execOp E.ev o).run P w with
  |.ok (.value v) d=>K v d
  |.ok .skip d=>K undef d
  |_=>False)
def qj(P:aF)(s:Sem ab)(z:ab)(w:J)(K:ab->J->Prop):Prop:=
 mS z λv=>∃d,s.run P w=.ok v d/\K v d
def Hb(P:aF)(s:Sem Unit)(w:J)(K:ab->J->Prop):Prop:=
 ∃d,s.run P w=.ok () d/\K undef d
def gW(P:aF)(f:cD):Bool:=match P.funcs[f]? with |some fn=>fn.body.isSome&&!(fn.name=="runtime.NumGoroutine")|none=>false
def vd(P:aF)(f:cD)(args:Array ab)(z:ab)(w:J)(K:ab->J->Prop):Prop:=
 mS z λv=>∃d,(callFunc f args).run P w=.ok (.value v) d/\K v d
def oI(P:aF)(f:cD)(args:Array ab)(z:ab)(w:J)(K:ab->J->Prop):Prop:=
 ak P f args w λd e=>mS z λv=>d=ag v/\K v e
def qK:ab->Bool
 |.agg _=>false
 |.tuple _=>false
 |_=>true
def gY(P:aF)(o:Oper)(E:Env)(w:J)(K:ab->J->Prop):Prop:=
 match o.op with
 |.store d x y=>match E.val x,E.val y with
  |some (.pointer (some p)),some v=>cE (v.cells.size==(match P.info? d with |some i=>i.size|none=>0)&&v.cells.toList.all qK&&(P.info? d).isSome) (pk p v.cells.toList 0 w λY=>K undef Y)
  |_,_=>False
 |.mapUpdate d m e v|.insert d m e v=>match E.val m,E.val e,E.val v with
  |some m,some e,some v=>Hb P (Instr.mapUpdate d m e v) w K
  |_,_,_=>False
 |.call {callee:=.builtin b,args,argTypes}=>cE (E.dQ o) (match b with
  |.append=>qj P (dW argTypes o.type (args.map E.ev)) (.slice none 0 0) w K
  |.copy=>qj P (Builtin.copy_ argTypes o.type (args.map E.ev)) (.int .i64 0) w K
  |.unsafeSliceData=>qj P (Builtin.unsafeSliceData_ argTypes o.type (args.map E.ev)) (.pointer none) w K
  |.unsafeString=>qj P (Builtin.unsafeString_ argTypes o.type (args.map E.ev)) (.string (bJ #[])) w K
  |.delete=>∃Y,(Builtin.delete_ argTypes o.type (args.map E.ev)).run P w=.ok undef Y/\K undef Y
  |.clear=>∃Y,(Builtin.clear_ argTypes o.type (args.map E.ev)).run P w=.ok (.tuple #[]) Y/\K (.tuple #[]) Y
  |_=>False)
 |.call {callee:=.value (.func f),args,..}=>cE (E.dQ o) (bif gW P f then oI P f (args.map E.ev) (zeroOf P o.type) w K else vd P f (args.map E.ev) (zeroOf P o.type) w K)
 |.call {callee:=.value (.tmp t),args,..}=>cE (E.dQ o) (match E.get? t with
  |some (.func (.func f) first captured)=>cE (gW P f) (oI P f (first++args.map E.ev++captured) (zeroOf P o.type) w K)
  |_=>False)
 |.makeSlice d l c=>match E.val l,E.val c with
  |some l,some c=>qj P (Instr.makeSlice d l c) (.slice none 0 0) w K
  |_,_=>False
 |.range d x=>match E.val x with
  |some x=>∃v Y,(Instr.range d x).run P w=.ok v Y/\K v Y
  |_=>False
 |.next it s=>match E.val it with
  |some it=>(∃Y,(Instr.next it s o.type).run P w=.ok (.tuple #[.bool false]) Y/\K (.tuple #[.bool false]) Y)\/
    (match s with
     |true=>∃(i c:Int) (Y:J),(Instr.next it s o.type).run P w=.ok (.tuple #[.bool true,.int .i64 i,.int .i32 c]) Y/\K (.tuple #[.bool true,.int .i64 i,.int .i32 c]) Y
     |false=>∃(x y:ab) (Y:J),(Instr.next it s o.type).run P w=.ok (.tuple #[.bool true,x,y]) Y/\K (.tuple #[.bool true,x,y]) Y)
  |_=>False
 |.entry it=>match E.val it with
  |some it=>∃(x y:ab) (Y:J),(Instr.entry it).run P w=.ok (.tuple #[x,y]) Y/\K (.tuple #[x,y]) Y
  |_=>False
 |.convert s h x=>match E.val x with
  |some v=>qj P (convert s h v) (.slice none 0 0) w K
  |_=>False
 |_=>oM P o E w K
def aaH(P:aF)(l:Nat)(args:Array ab)(w:J)(K:ab->J->Prop):Prop:=
 YieldAt Fence.wide 0 P l args w λd e=>∃b:Bool,d=ag (.bool b)/\K (.bool b) e
def r9(P:aF)(o:Oper)(E:Env)(w:J)(K:ab->J->Prop):Prop:=
 match o.op with
 |.call {callee:=.value (.tmp t),args,..}=>match E.get? t with
  |some (.func (.yield l) e d)=>cE (E.dQ o&&(bQ e.size 0&&bQ d.size 0)) (aaH P l (args.map E.ev) w K)
  |_=>gY P o E w K
 |_=>gY P o E w K
abbrev aQ(w:J)(p:Addr)(v:ab)(K:J->Prop):Prop:=(w.cell? p).isSome=true/\w.frozen? p=false/\K (w.setCell p v)
abbrev cZ(w:J)(o:Obj)(K:J->Prop):Prop:=K (w.alloc o)
abbrev ln(w:J)(l:Nat)(a b:Obj)(K:J->Prop):Prop:=w.heap[l]? =some a/\K (w.putObj l b)
abbrev k4(w:J)(K:J->Prop):Prop:=K w.drew
def IS{P:aF}{T:aC}{b:Bool}(h:pX P T=some b)(w:J):(isAgg T).run P w=.ok b w:=by
 unfold pX at h;unfold isAgg;cases d:P.underlying T with
 |none=>rw[d]at h;cases h
 |some e=>rw[d]at h;cases e<;>simp[run_underlying d]at h ⊢<;>first |exact h|simp[<-h]
def v8{P:aF}{T:aC}{p:Addr}{v:ab}{w:J}(d:pX P T=some false)(e:w.cell? p=some v):(loadVar T p).run P w=.ok v w:=by simp[loadVar,IS d,e]
def OR{P:aF}{T:aC}{p:Addr}{vs:List ab}{i:TypeInfo}{w:J}(e:pX P T=some true)(U:P.info? T=some i)(j:i.size=vs.length)(h:∀d v,vs[d]? =some v->w.cell? (p.add d)=some v):(loadVar T p).run P w=.ok (.agg vs.toArray) w:=by have:=run_loadCells_list (P:=P) w p vs h;simp[loadVar,IS e,sizeOf,typeInfo,U,j,this]
def Calm(P:aF)(o:Oper)(ρ:Operand->ab)(w:J)(v:ab)(h:List (J->Prop)):Prop:=
 (∀d∈h,d w)/\∀e,(∀d∈h,d e)->(execOp ρ o).run P e=.ok (.value v) e
def Nz{P:aF}{o:Oper}{E:Env}{w:J}{n:Cx}{a:Act}{K:ab->List (J->Prop)->Prop}(x:∀e b,o.op≠.select e b)(k:Ag n a E)(h:fP P o E K):∃v d,K v d/\Calm P o a.eval w v d:=by
 obtain⟨q,h⟩:=dI h;split at h
 .rename_i v y;refine⟨v,[],h,λd j=>(by cases j),λz _=>?_⟩;rw[k.execOp x q];exact Ny y z
 .exact h.elim
def qO{P:aF}{s:Sem ab}{z:ab}{w:J}{K:ab->List (J->Prop)->Prop}{o:Oper}{ρ:Operand->ab}(q:execOp ρ o=(do pure (.value (<-s))))(h:o' P s z w K):∃v d,K v d/\Calm P o ρ w v d:=by
 obtain⟨v,y,k⟩:=UG h;refine⟨v,_,k,λd e=>?_,λj A=>?_⟩
 .simp at e;subst e;exact y
 .have x:s.run P j=.ok v j:=A _ (bG.2 rfl);rw[q];simp[x]
def oH{P:aF}{x:Option ab}{y d:Nat}{K:Nat->Prop}(h:mH x y d K):∃l,K l/\((x=none/\l=d)\/∃v,x=some v/\∀code e,(Instr.sliceBound v y code).run P e=.ok l e):=by
 unfold mH at h;split at h
 .exact ⟨d,h,.inl ⟨rfl,rfl⟩⟩
 .rename_i w i;obtain⟨j,k,q⟩:=h;refine⟨_,q,.inr ⟨_,rfl,λcode e=>?_⟩⟩;simp[Instr.sliceBound,asIntOf,j,k]
 .exact h.elim
def Ee{P:aF}{q:Bool}{n c m h l:Nat}{L H M:Option ab}{w:J}(j:(M=none/\m=c)\/∃v,M=some v/\∀code w,(Instr.sliceBound v c code).run P w=.ok m w)(d:(H=none/\h=n)\/∃v,H=some v/\∀code w,(Instr.sliceBound v m code).run P w=.ok h w)(e:(L=none/\l=0)\/∃v,L=some v/\∀code w,(Instr.sliceBound v h code).run P w=.ok l w)(k:M≠none->H=none->False):(Instr.sliceBounds q n c L H M).run P w=.ok (l,h,m) w:=by unfold Instr.sliceBounds;rcases j with⟨rfl,rfl⟩|⟨A,rfl,x⟩<;>rcases d with⟨rfl,rfl⟩|⟨B,rfl,y⟩<;>rcases e with⟨rfl,rfl⟩|⟨C,rfl,z⟩<;>first |(simp[*];done)|(exact(k (λh=>by cases h) rfl).elim)
def Ce{P:aF}{T:aC}{p:Addr}{w:J}{K:ab->List (J->Prop)->Prop}(h:l6 P T p w K):
  ∃v A,K v A/\(∀s∈A,s w)/\∀x,(∀s∈A,s x)->(loadVar T p).run P x=.ok v x:=by
 obtain⟨d,h⟩:=dI h;unfold w9 at d;cases z:zeroOf P T with
 |agg H=>
  rw[z]at h d;simp only at h d;obtain⟨I,F,h⟩:=BA h;obtain⟨j,k⟩:=rN h;rw[bf]at d;obtain⟨D,y⟩:=d;cases B:P.info? T with
  |none=>rw[B]at y;simp at y
  |some i=>
   rw[B]at y;simp at y D;refine⟨_,_,k,?_,λx q=>?_⟩
   .intro s e;obtain⟨⟨v,C⟩,G,rfl⟩:=ch.1 e;exact j _ (ch.2 ⟨(v,C),G,rfl⟩)
   .refine OR D B (by rw[y,F];simp) (λC v E=>?_);have:=q _ (ch.2 ⟨(v,C),List.mem_zipIdx_iff_getElem?.2 E,rfl⟩);exact this
 |nilIface=>
  rw[z]at h d;simp at d;rcases h with⟨t,L,j,k⟩|⟨j,k⟩
  .refine ⟨_,_,k,λs e=>?_,λx q=>?_⟩
   .simp at e;subst e;exact j
   .exact v8 d (q _ (bG.2 rfl))
  .refine ⟨_,_,k,λs e=>?_,λx q=>?_⟩
   .simp at e;subst e;exact j
   .exact v8 d (q _ (bG.2 rfl))
 |nilFunc=>
  rw[z]at h d;obtain⟨f,j,k⟩:=h;simp at d;refine⟨f.v,_,k,λs e=>?_,λx q=>?_⟩
  .simp at e;subst e;exact j
  .exact v8 d (q _ (bG.2 rfl))
 |_=>
  rw[z]at h d;try simp only at h
  try simp only at d
  obtain⟨v,j,k⟩:=Bz h;simp at d;refine⟨v,_,k,λs e=>?_,λx q=>?_⟩
  .simp at e;subst e;exact j
  .exact v8 d (q _ (bG.2 rfl))
def Hg{P:aF}{T:aC}{sz:Nat}(h:xB P T=some sz):∃d i,P.underlying T=some (.slice d)/\P.info? d=some i/\i.size=sz:=by
 unfold xB at h;split at h
 .rename_i d j;cases e:P.info? d with
  |none=>rw[e]at h;cases h
  |some i=>rw[e]at h;simp at h;exact⟨d,i,j,e,h⟩
 .cases h
def yp{v c:ab}{b:Bool}(h:m0 (some v) c=some b):(∃a n m j e,v=.slice a n m/\c=.slice none j e/\b=a.isNone)\/(∃a,v=.pointer a/\c=.pointer none/\b=a.isNone)\/(∃r,v=.map r/\c=.map none/\b=r.isNone):=by
 unfold m0 at h;split at h
 .rename_i a n m j e d;cases d;cases h;exact .inl ⟨_,_,_,_,_,rfl,rfl,rfl⟩
 .rename_i a d;cases d;cases h;exact .inr (.inl ⟨_,rfl,rfl,rfl⟩)
 .rename_i a d;cases d;cases h;exact .inr (.inr ⟨_,rfl,rfl,rfl⟩)
 .cases h
def MP{P:aF}{T:aC}{c v:ab}{b:Bool}(d:nU P T c=true)(j:m0 (some v) c=some b)(w:J):(Op.equal T v c).run P w=.ok b w:=by
 unfold Op.equal Op.maxDepth Op.equalIn;cases e:P.underlying T with
 |none=>simp[nU,e]at d
 |some h=>
  simp only[Sem.run_bind,run_underlying e,Result.andThen_ok];unfold nU at d;rw[e]at d;rcases yp j with⟨a,n,m,q,k,rfl,rfl,rfl⟩|⟨a,rfl,rfl,rfl⟩|⟨a,rfl,rfl,rfl⟩<;>cases h<;>first |(cases d;done)|(cases a<;>rfl)
def W8{P:aF}{T:aC}{c v:ab}{b:Bool}(e:nU P T c=true)(d:m0 (some v) c=some b)(w:J):(binOp .eql T v c).run P w=.ok (.bool b) w:=by have:=MP e d w;rcases yp d with⟨a,n,m,j,h,rfl,rfl,rfl⟩|⟨a,rfl,rfl,rfl⟩|⟨a,rfl,rfl,rfl⟩<;>simp[binOp,this]
def W9{P:aF}{T:aC}{c v:ab}{b:Bool}(e:nU P T c=true)(d:m0 (some v) c=some b)(w:J):(binOp .neq T v c).run P w=.ok (.bool !b) w:=by have:=MP e d w;rcases yp d with⟨a,n,m,j,h,rfl,rfl,rfl⟩|⟨a,rfl,rfl,rfl⟩|⟨a,rfl,rfl,rfl⟩<;>simp[binOp,this]
def MQ{P:aF}{op:BinOp}{T:aC}{c v:ab}{b:Bool}{p e:Operand}(d:m0 (some v) c=some b)(w:J):(eqGuard op T p e v c).run P w=.ok () w:=by rcases yp d with⟨a,n,m,j,h,rfl,rfl,rfl⟩|⟨a,rfl,rfl,rfl⟩|⟨a,rfl,rfl,rfl⟩<;>cases op<;>rfl
set_option maxHeartbeats 1000000 in
def ti{P:aF}{t:aC}{u:TypeDesc}(h:P.underlying t=some u)(d:(match u with |.struct _|.array _ _=>true|_=>false)=false){xs:Array ab}{off:Nat}{v:ab}(e:xs[off]? =some v)(w:J):(part t xs off).run P w=.ok v w:=by unfold part isAgg;cases u<;>first |(simp at d;done)|simp[run_underlying h,e]
def xJ{P:aF}{xs E:Array ab}(d:Nat)(w:J):∀(k:List Field) (b:Bool),va P xs E k=some b->(Op.eqFields (d+1) xs E k).run P w=.ok b w
 |[],b,e=>by simp[va]at e;subst e;rfl
 |f::k,b,e=>by
  unfold va at e;cases B:(f.name=="_")with
  |true=>rw[B]at e;cases e
  |false=>
   rw[B]at e;simp only[cond_false]at e;have G:f.name≠"_":=by simpa using B
   unfold Op.eqFields;rw[aj G];split at e
   .rename_i I D a H j r h x y q;cases A:decide (D=H)with
    |false=>rw[A]at e;cases e
    |true=>
     rw[A]at e;have F:=ew A;subst F;simp only[cond_true,eH]at e;subst e;have z:=xJ d w k r q;simp only[Sem.run_bind,ti h rfl x w,ti h rfl y w,Result.andThen_ok,run_equalIn_int w d f.type D I a j h];cases C:(a==j)<;>simp[z]
   .rename_i a j r h x y q;simp only[eH]at e;subst e;have z:=xJ d w k r q;simp only[Sem.run_bind,ti h rfl x w,ti h rfl y w,Result.andThen_ok,run_equalIn_string w d f.type a j h];cases C:(a.toList==j.toList)<;>simp[z]
   .rename_i a j r h x y q;simp only[eH]at e;subst e;have z:=xJ d w k r q;simp only[Sem.run_bind,ti h rfl x w,ti h rfl y w,Result.andThen_ok,run_equalIn_bool w d f.type a j h];cases C:(a==j)<;>simp[z]
   .cases e
def RP{P:aF}{T:aC}{xs e:Array ab}{b:Bool}(h:Ar P T xs e=some b)(w:J):P.eqGuardType P.depth T=false/\(Op.equalIn 10000 T (.agg xs) (.agg e)).run P w=.ok b w:=by
 unfold Ar at h;split at h
 .rename_i q k;cases d:(!P.stoodInHeld T&&!P.eqGuardType P.depth T)with
  |false=>rw[d]at h;cases h
  |true=>
   rw[d]at h;simp only[cond_true]at h;rw[bf]at d;have x:P.stoodInHeld T=false:=by simpa using d.1
   have y:P.eqGuardType P.depth T=false:=by simpa using d.2
   have j:P.fieldsOf T=q:=by unfold Program.fieldsOf;rw[k]
   refine⟨y,?_⟩;rw[run_equalIn_struct w 9999 T xs e (by rw[j];exact k) x,j];exact xJ 9998 w _ _ h
 .cases h
def xK{P:aF}{o:Oper}{E:Env}{w:J}{n:Cx}{a:Act}{K:ab->List (J->Prop)->Prop}{op:BinOp}{T B:aC}{x y:Operand}{neg:Bool}(L:∀C b,o.op≠.select C b)(k:Ag n a E)(I:o.op=.binOp op T x y B)(G:(op=.eql/\neg=false)\/(op=.neq/\neg=true))(h:so P o E T x y neg K):∃v j,K v j/\Calm P o a.eval w v j:=by
 unfold so at h;split at h
 .rename_i d e M N;split at h
  .rename_i b H;refine⟨_,_,h,λj F=>(by cases F),λq _=>?_⟩;obtain⟨z,A⟩:=RP H q;have D:execOp a.eval o=(do pure (.value (<-(do eqGuard op T x y (.agg d) (.agg e);binOp op T (.agg d) (.agg e))))):=by simp only[execOp,I,k.val M,k.val N]
   rw[D];rcases G with⟨rfl,rfl⟩|⟨rfl,rfl⟩
   .simp only[Sem.run_bind,run_eqGuard_agg q _ T x y d e z,Result.andThen_ok,run_eql_struct,A];rfl
   .simp only[Sem.run_bind,run_eqGuard_agg q _ T x y d e z,Result.andThen_ok,run_neq_struct,A];rfl
  .exact h.elim
 .exact Nz L k h
def T0{P:aF}{o:Oper}{E:Env}{w:J}{n:Cx}{a:Act}{K:ab->List (J->Prop)->Prop}(hs:∀cs b,o.op≠.select cs b)(j:Ag n a E)(h:xr P o E w K):∃v y,K v y/\Calm P o a.eval w v y:=by
 have pure':fP P o E K->∃v y,K v y/\Calm P o a.eval w v y:=Nz hs j;unfold xr at h;split at h
 .
  rename_i z A e;split at h
  .rename_i p d;obtain⟨v,y,q,D,h2⟩:=Ce h;refine⟨v,y,q,D,λx av=>?_⟩;simp[execOp,e,Instr.loadAt,j.val d,Instr.sureAddr,h2 x av]
  .exact h.elim
 .
  rename_i A e;split at h
  .rename_i aw d;obtain⟨p,rfl,q⟩:=yA h;refine⟨_,_,q,λy k=>(by cases k),λx _=>?_⟩;simp[execOp,e,j.val d]
  .exact pure' h
 .
  rename_i z A ix e;split at h
  .rename_i b n c O i d C;split at h
   .rename_i sz ac;obtain⟨I,D,h⟩:=h;obtain⟨p,rfl,q⟩:=yA h;obtain⟨S,inf,G,M,rfl⟩:=Hg ac;refine⟨_,_,q,λy k=>(by cases k),λx _=>?_⟩;simp[execOp,e,j.val d,j.val C,Instr.indexAt,asIntOf,run_underlying G,I,D,sizeOf,typeInfo,M]
   .exact h.elim
  .rename_i p O i d C;split at h
   .rename_i n sz ac;obtain⟨I,D,q⟩:=h;obtain⟨S,inf,G,M,rfl⟩:=RX ac;refine⟨_,_,q,λy k=>(by cases k),λx _=>?_⟩;simp[execOp,e,j.val d,j.val C,Instr.indexAt,Instr.sureAddr,asIntOf,run_underlying G,I,D,sizeOf,typeInfo,M]
   .exact h.elim
  .exact pure' h
 .
  rename_i z A ix e;split at h
  .rename_i s O i G d C;obtain⟨I,b,F,q⟩:=h;refine⟨_,_,q,λy k=>(by cases k),λx _=>?_⟩;simp[execOp,e,j.val d,j.val C,Instr.index,asIntOf,run_underlying G,I,F]
  .rename_i n S cs O i G d C;cases W:CY P S with
   |true=>
    rw[W]at h;obtain⟨I,N,b,F,q⟩:=h;unfold CY at W;split at W
    .rename_i inf ai M;have D:inf.size=1:=by simpa using W
     refine⟨_,_,q,λy k=>(by cases k),λx _=>?_⟩;simp[execOp,e,j.val d,j.val C,Instr.index,asIntOf,run_underlying G,I,N,sizeOf,typeInfo,M,D,part,isAgg,run_underlying ai,F]
    .cases W
   |false=>
   rw[W]at h;obtain⟨D,I,N,b,F,q⟩:=dI h;unfold M5 at D;split at D
   .rename_i B inf ai M;have D:inf.size=1:=by simpa using D
    refine⟨_,_,q,λy k=>(by cases k),λx _=>?_⟩;simp[execOp,e,j.val d,j.val C,Instr.index,asIntOf,run_underlying G,I,N,sizeOf,typeInfo,M,D,part,isAgg,run_underlying ai,F]
   .cases D
  .exact pure' h
 .
  rename_i z A lo C T e;obtain⟨ap,h⟩:=dI h;have ad:∀B∈o.op.operands,(E.val B).isSome=true:=λB H=>fi.1 ap B (by simpa using H);have ah:lo.map a.eval=lo.map E.ev:=by
   cases lo with
   |none=>rfl
   |some B=>simp only[Option.map_some];rw[j.ev (ad B (by rw[e];simp[Op.operands]))]
  have ae:C.map a.eval=C.map E.ev:=by
   cases C with
   |none=>rfl
   |some B=>simp only[Option.map_some];rw[j.ev (ad B (by rw[e];simp[Op.operands]))]
  have al:T.map a.eval=T.map E.ev:=by
   cases T with
   |none=>rfl
   |some B=>simp only[Option.map_some];rw[j.ev (ad B (by rw[e];simp[Op.operands]))]
  split at h
  .rename_i S b n c G d;split at h
   .rename_i sz ac;obtain⟨m,h,hm⟩:=oH (P:=P) h;obtain⟨Y,h,Z⟩:=oH (P:=P) h;obtain⟨aq,h⟩:=dI h;obtain⟨l,q,hl⟩:=oH (P:=P) h;obtain⟨e',inf,an,M,rfl⟩:=Hg ac;rw[an]at G;cases G;refine⟨_,_,q,λy k=>(by cases k),λx _=>?_⟩;have aa:(Instr.sliceBounds true n c (lo.map E.ev) (C.map E.ev) (T.map E.ev)).run P x=.ok (l,Y,m) x:=by refine Ee hm Z hl ?_;intro D h2;cases T<;>cases C<;>simp_all
    simp only[execOp,e,j.val d,ah,ae,al];simp[Instr.sliceAt,run_underlying an,Instr.slice,aa,sizeOf,typeInfo,M]
   .exact h.elim
  .rename_i s G d;obtain⟨ar,h'⟩:=dI h;clear h;have au:T=none:=by simpa using ar
   subst au;obtain⟨Y,h,Z⟩:=oH (P:=P) h';obtain⟨l,q,hl⟩:=oH (P:=P) h;refine⟨_,_,q,λy k=>(by cases k),λx _=>?_⟩;have aa:(Instr.sliceBounds false s.size s.size (lo.map E.ev) (C.map E.ev) none).run P x=.ok (l,Y,s.size) x:=by exact Ee (.inl ⟨rfl,rfl⟩) Z hl (λD _=>absurd rfl D)
   simp only[execOp,e,j.val d,ah,ae];simp[Instr.sliceAt,run_underlying G,Instr.slice,aa]
  .rename_i n S p G d;split at h
   .rename_i inf M;obtain⟨m,h,hm⟩:=oH (P:=P) h;obtain⟨Y,h,Z⟩:=oH (P:=P) h;obtain⟨aq,h⟩:=dI h;obtain⟨l,q,hl⟩:=oH (P:=P) h;refine⟨_,_,q,λy k=>(by cases k),λx _=>?_⟩;have aa:(Instr.sliceBounds false n n (lo.map E.ev) (C.map E.ev) (T.map E.ev)).run P x=.ok (l,Y,m) x:=by refine Ee hm Z hl ?_;intro D h2;cases T<;>cases C<;>simp_all
    simp only[execOp,e,j.val d,ah,ae,al];simp[Instr.sliceAt,Instr.sureAddr,run_underlying G,aa,sizeOf,typeInfo,M]
   .exact h.elim
  .exact h.elim
 .
  rename_i z A B Q e;cases L:isConst B with
  |true=>rw[L]at h;exact pure' h
  |false=>
   rw[L]at h;simp only[cond_false]at h;split at h
   .rename_i O i k' aj d H;obtain⟨af,V,q⟩:=dI h;have ag:O=k':=by simpa using af
    subst ag;refine⟨_,_,q,λy k=>(by cases k),λx _=>?_⟩;simp[execOp,e,j.val d,j.val H,eqGuard,binOp,Op.intDiv,V]
   .exact h.elim
 .
  rename_i z A B Q e;cases L:isConst B with
  |true=>rw[L]at h;exact pure' h
  |false=>
   rw[L]at h;simp only[cond_false]at h;split at h
   .rename_i O i k' aj d H;obtain⟨af,V,q⟩:=dI h;have ag:O=k':=by simpa using af
    subst ag;refine⟨_,_,q,λy k=>(by cases k),λx _=>?_⟩;simp[execOp,e,j.val d,j.val H,eqGuard,binOp,Op.intDiv,V]
   .exact h.elim
 .
  rename_i z A c Q e;cases N:nU P z c with
  |false=>rw[N]at h;exact xK hs j e (.inl ⟨rfl,rfl⟩) h
  |true=>
   rw[N]at h;simp only[cond_true]at h;split at h
   .rename_i b F;refine⟨_,_,h,λy k=>(by cases k),λx _=>?_⟩;cases d:E.val A with
    |none=>rw[d]at F;simp[m0]at F
    |some v=>
     rw[d]at F;have U:execOp a.eval o=(do pure (.value (<-(do eqGuard .eql z A (.const c) v c;binOp .eql z v c)))):=by simp only[execOp,e,j.val d];rfl
     rw[U];simp[MQ F x,W8 N F x]
   .exact h.elim
 .
  rename_i z A c Q e;cases N:nU P z c with
  |false=>rw[N]at h;exact xK hs j e (.inr ⟨rfl,rfl⟩) h
  |true=>
   rw[N]at h;simp only[cond_true]at h;split at h
   .rename_i b F;refine⟨_,_,h,λy k=>(by cases k),λx _=>?_⟩;cases d:E.val A with
    |none=>rw[d]at F;simp[m0]at F
    |some v=>
     rw[d]at F;have U:execOp a.eval o=(do pure (.value (<-(do eqGuard .neq z A (.const c) v c;binOp .neq z v c)))):=by simp only[execOp,e,j.val d];rfl
     rw[U];simp[MQ F x,W9 N F x]
   .exact h.elim
 .
  rename_i z A B Q _ e;exact xK hs j e (.inl ⟨rfl,rfl⟩) h
 .rename_i z A B Q _ e;split at h
  .rename_i p aw G d H;refine qO ?_ h;simp only[execOp,e,j.val d,j.val H];rfl
  .exact xK hs j e (.inr ⟨rfl,rfl⟩) h
 .
  rename_i z A B Q e;split at h
  .rename_i s t d H;obtain⟨I,q⟩:=h;refine⟨_,_,q,λy k=>(by cases k),λx _=>?_⟩;have U:execOp a.eval o=(do pure (.value (<-(do eqGuard .add z A B (.string s) (.string t);binOp .add z (.string s) (.string t))))):=by simp only[execOp,e,j.val d,j.val H]
   rw[U];simp only[eqGuard,binOp,Op.stringOp,I];rfl
  .exact pure' h
 .
  rename_i z A B Q e;cases L:isConst B with
  |true=>rw[L]at h;exact pure' h
  |false=>
   rw[L]at h;simp only[cond_false]at h;split at h
   .rename_i O i k' aj d H;obtain⟨V,q⟩:=h;refine⟨_,_,q,λy k=>(by cases k),λx _=>?_⟩;simp[execOp,e,j.val d,j.val H,eqGuard,binOp,Op.shift,V]
   .exact h.elim
 .
  rename_i z A B Q e;cases L:isConst B with
  |true=>rw[L]at h;exact pure' h
  |false=>
   rw[L]at h;simp only[cond_false]at h;split at h
   .rename_i O i k' aj d H;obtain⟨V,q⟩:=h;refine⟨_,_,q,λy k=>(by cases k),λx _=>?_⟩;simp[execOp,e,j.val d,j.val H,eqGuard,binOp,Op.shift,V]
   .exact h.elim
 .
  rename_i z A ix ok e;split at h
  .rename_i m O d C;exact qO (by simp[execOp,e,j.val d,j.val C]) h
  .exact h.elim
 .
  rename_i s ax A e;split at h
  .rename_i S v am ak d;exact qO (by simp[execOp,e,j.val d]) h
  .rename_i S v am ak d;exact qO (by simp[execOp,e,j.val d]) h
  .rename_i S v am ak d;exact qO (by simp[execOp,e,j.val d]) h
  .exact pure' h
 .
  rename_i args ao e;split at h
  .rename_i A z d hT;split at h
   .rename_i kt et m G hm;refine qO ?_ h;have U:args=#[A]:=by rw[<-Array.toArray_toList (xs:=args),d]
    have e2:ao=#[z]:=by rw[<-Array.toArray_toList (xs:=ao),hT]
    simp[execOp,e,U,e2,resolve,invoke,builtin,j.val hm]
   .exact pure' h
  .exact pure' h
 .exact pure' h
def xu{P:aF}{o:Oper}{E:Env}{w:J}{n:Cx}{a:Act}{K:ab->List (J->Prop)->Prop}(x:∀k b,o.op≠.select k b)(d:Ag n a E)(h:mI P o E w K):∃v e,K v e/\Calm P o a.eval w v e:=by
 unfold mI at h;cases j:B2 P o with
 |false=>rw[j]at h;exact T0 x d h
 |true=>
  rw[j]at h;simp only[cond_true]at h;unfold IB at h;split at h
  .rename_i op A C D B q;split at h
   .rename_i u v y z;refine qO ?_ h;simp only[execOp,q,d.val y,d.val z];rfl
   .exact h.elim
  .exact h.elim
def Pu{P:aF}{p:Addr}:∀{vs:List ab} {i:Nat} {w:J} {K:J->Prop},vs.all qK=true->pk p vs i w K->
  ∃e,(storeCells p vs i).run P w=.ok () e/\K e
 |[],i,w,K,_,d=>⟨w,by simp[storeCells],d⟩
 |v::vs,i,w,K,h,d=>by
  obtain⟨k,q,d⟩:=d;rw[List.all_cons,bf]at h;obtain⟨e,y,x⟩:=Pu (P:=P) h.2 d;refine⟨e,?_,x⟩;obtain⟨u,A⟩:=Option.isSome_iff_exists.1 k;have z:(store (p.add i) v).run P w=.ok () (w.setCell (p.add i) v):=by have j:=h.1;cases v<;>first |(simp[qK]at j;done)|simp[store,Sem.run,A,q]
  simp[storeCells,z,y]
def uE{P:aF}{f:cD}(h:gW P f=true)(args:Array ab)(w:J):(callFunc f args).run P w=.ok (.enter f args) w:=by
 unfold gW at h;cases d:P.funcs[f]? with
 |none=>rw[d]at h;cases h
 |some fn=>
  rw[d]at h;simp at h;obtain⟨e,j⟩:=h;have k:fn.body≠none:=by intro q;rw[q]at e;cases e
  simp[callFunc,d,j,k]
def Ag.args{n:Cx}{a:Act}{E:Env}(h:Ag n a E){args:Array Operand}(e:∀d∈args,(E.val d).isSome=true):args.map a.eval=args.map E.ev:=
 Array.map_congr_left λd j=>h.ev (e d j)
def iu(P:aF)(o:Oper)(a:Act)(w:J)(K:ab->J->Prop):Prop:=
 ∀d:Exit->Act->J->Prop,o.wp P a w (λe h=>∃v,e=a.put o.dst v/\K v h) d
def GB{P:aF}{f:cD}{args:Array ab}{z:ab}{w:J}{K:ab->J->Prop}{o:Oper}{a:Act}(j:(execOp a.eval o).run P w=.ok (.enter f args) w)(h:oI P f args z w K):iu P o a w K:=by intro k;unfold Oper.wp;rw[j];simp only[Oper.upon];refine Calls.mono h λq x d=>?_;obtain⟨v,rfl,e⟩:=qo d;exact⟨v,rfl,e⟩
def r6{P:aF}{s:Sem ab}{z:ab}{w:J}{K:ab->J->Prop}{o:Oper}{a:Act}(j:execOp a.eval o=(do pure (.value (<-s))))(h:qj P s z w K):iu P o a w K:=by intro k;obtain⟨v,q,e,d⟩:=qo h;unfold Oper.wp;rw[j];simp only[Sem.run_bind,e,Result.andThen_ok,Sem.run_pure,Oper.upon];exact⟨v,rfl,d⟩
set_option maxHeartbeats 1000000 in
def mM{P:aF}{o:Oper}{E:Env}{w:J}{n:Cx}{a:Act}{K:ab->J->Prop}(hs:∀S b,o.op≠.select S b)(k:Ag n a E)(h:gY P o E w K):iu P o a w K:=by
 unfold gY at h;split at h
 .
  rename_i F z Q d;split at h
  .rename_i p v y hy;obtain⟨L,h⟩:=dI h;rw[bf,bf]at L;obtain⟨⟨M,U⟩,V⟩:=L;obtain⟨i,C⟩:=Option.isSome_iff_exists.1 V;rw[C]at M;have T:v.cells.size=i.size:=by simpa using M
   obtain⟨Y,j,e⟩:=Pu (P:=P) U h;intro A;unfold Oper.wp;have:(execOp a.eval o).run P w=.ok .skip Y:=by simp[execOp,d,Instr.storeAt,k.val y,k.val hy,Instr.sureAddr,storeVar,sizeOf,typeInfo,C,T,j]
   rw[this];simp only[Oper.upon];exact⟨_,rfl,e⟩
  .exact h.elim
 .
  rename_i F m aa v d;split at h
  .rename_i mv kv vv H e I;obtain⟨Y,j,G⟩:=h;intro A;unfold Oper.wp;have:(execOp a.eval o).run P w=.ok .skip Y:=by simp[execOp,d,k.val H,k.val e,k.val I,j]
   rw[this];simp only[Oper.upon];exact⟨_,rfl,G⟩
  .exact h.elim
 .
  rename_i F m aa v d;split at h
  .rename_i mv kv vv H e I;obtain⟨Y,j,G⟩:=h;intro A;unfold Oper.wp;have:(execOp a.eval o).run P w=.ok .skip Y:=by simp[execOp,d,k.val H,k.val e,k.val I,j]
   rw[this];simp only[Oper.upon];exact⟨_,rfl,G⟩
  .exact h.elim
 .
  rename_i b args O d;obtain⟨B,h⟩:=dI h;have q:args.map a.eval=args.map E.ev:=k.args λz y=>fi.1 B z (by rw[d];simp[Op.operands,Call.operands,y]);split at h
  .exact r6 (by simp[execOp,d,resolve,invoke,builtin,q]) h
  .exact r6 (by simp[execOp,d,resolve,invoke,builtin,q]) h
  .exact r6 (by simp[execOp,d,resolve,invoke,builtin,q]) h
  .exact r6 (by simp[execOp,d,resolve,invoke,builtin,q]) h
  .obtain ⟨Y,j,e⟩:=h;intro A;unfold Oper.wp;have:(execOp a.eval o).run P w=.ok (.value undef) Y:=by simp[execOp,d,resolve,invoke,builtin,q,j]
   rw[this];simp only[Oper.upon];exact⟨_,rfl,e⟩
  .obtain ⟨Y,j,e⟩:=h;intro A;unfold Oper.wp;have:(execOp a.eval o).run P w=.ok (.value (.tuple #[])) Y:=by simp[execOp,d,resolve,invoke,builtin,q,j]
   rw[this];simp only[Oper.upon];exact⟨_,rfl,e⟩
  .exact h.elim
 .
  rename_i f args O d;obtain⟨B,h⟩:=dI h;have q:args.map a.eval=args.map E.ev:=k.args λz y=>fi.1 B z (by rw[d];simp[Op.operands,Call.operands,y]);cases D:gW P f with
  |true=>
   rw[D]at h;refine GB ?_ h;simp[execOp,d,resolve,Act.eval,Deferred.ofValue,invoke,q,uE D]
  |false=>
   rw[D,cond_false]at h;unfold vd at h;obtain⟨v,Y,j,e⟩:=qo h;intro A;unfold Oper.wp;have:(execOp a.eval o).run P w=.ok (.value v) Y:=by simp[execOp,d,resolve,Act.eval,Deferred.ofValue,invoke,q,j]
   rw[this];simp only[Oper.upon];exact⟨_,rfl,e⟩
 .
  rename_i t args O d;obtain⟨B,h⟩:=dI h;have q:args.map a.eval=args.map E.ev:=k.args λz y=>fi.1 B z (by rw[d];simp[Op.operands,Call.operands,y]);split at h
  .rename_i f first captured W
   obtain⟨D,h⟩:=dI h;have Z:a.eval (.tmp t)=.func (.func f) first captured:=k.val (x:=.tmp t) W
   refine GB ?_ h;simp[execOp,d,resolve,Z,Deferred.ofValue,invoke,q,uE D]
  .exact h.elim
 .
  rename_i F l c d;split at h
  .rename_i lv cv hl B;exact r6 (by simp[execOp,d,k.val hl,k.val B]) h
  .exact h.elim
 .
  rename_i F z d;split at h
  .rename_i xv y;obtain⟨v,Y,j,e⟩:=h;intro A;unfold Oper.wp;have:(execOp a.eval o).run P w=.ok (.value v) Y:=by simp[execOp,d,k.val y,j]
   rw[this];simp only[Oper.upon];exact⟨_,rfl,e⟩
  .exact h.elim
 .
  rename_i it s d;split at h
  .rename_i N C;have fin:∀(v:ab) (Y:J),(Instr.next N s o.type).run P w=.ok v Y->K v Y->iu P o a w K:=λv Y j e A=>by
    unfold Oper.wp;have:(execOp a.eval o).run P w=.ok (.value v) Y:=by simp[execOp,d,k.val C,j]
    rw[this];simp only[Oper.upon];exact⟨_,rfl,e⟩
   rcases h with⟨Y,j,e⟩|h
   .exact fin _ _ j e
   .split at h
    .obtain ⟨i,c,Y,j,e⟩:=h;exact fin _ _ j e
    .obtain ⟨i,c,Y,j,e⟩:=h;exact fin _ _ j e
  .exact h.elim
 .
  rename_i it d;split at h
  .rename_i N C;obtain⟨z,Q,Y,j,e⟩:=h;intro A;unfold Oper.wp;have:(execOp a.eval o).run P w=.ok (.value (.tuple #[z,Q])) Y:=by simp[execOp,d,k.val C,j]
   rw[this];simp only[Oper.upon];exact⟨_,rfl,e⟩
  .exact h.elim
 .
  rename_i s ac z d;split at h
  .rename_i v y;exact r6 (by simp[execOp,d,k.val y]) h
  .exact h.elim
 .
  obtain⟨B,h⟩:=dI h;intro A;unfold Oper.wp;rw[k.execOp hs B];generalize(execOp E.ev o).run P w=r at h;split at h
  .simp only[Oper.upon];exact⟨_,rfl,h⟩
  .simp only[Oper.upon];exact⟨_,rfl,h⟩
  .exact h.elim
def wL(P:aF)(n:Cx)(o:Oper)(a:Act)(w:J)(K:ab->J->Prop):Prop:=
 ∀d:Exit->Act->J->Prop,o.wpIn (FW n) 0 P a w (λe h=>∃v,e=a.put o.dst v/\K v h) d
def GC{n:Cx}{P:aF}{f:cD}{args:Array ab}{w:J}{R:cr->J->Prop}(h:ak P f args w R):CallsIn (FW n) 0 P f args w R:=by
 have d:CallsIn Fence.wide 0 P f args w R:=callsIn_wide.2 h;obtain⟨n,j,e⟩:=n;cases e with
 |none=>exact d
 |some l=>exact d
def YQ{n:Cx}{P:aF}{row:String}{args:Array ab}{w:J}{R:ab->J->Prop}(h:Rows P row args w R):RowsIn (FW n) 0 P row args w R:=by
 intro c d _;obtain⟨v,q,e,j⟩:=h c d;refine⟨v,q,e,?_⟩;have:=stepsIn_wide.2 j;obtain⟨n,x,k⟩:=n;cases k with
 |none=>exact this
 |some l=>exact this
def YH{n:Cx}{P:aF}{l:Nat}{f:cD}{tmps:Array ab}{assign body:Code}{w:J}{R:cr->J->Prop}(h:RoundIn Fence.wide 0 P l f tmps assign body w R):RoundIn (FW n) 0 P l f tmps assign body w R:=by
 obtain⟨n,e,d⟩:=n;cases d with
 |none=>exact h
 |some l=>exact h
def QZ{P:aF}{n:Cx}{o:Oper}{a:Act}{w:J}{K:Act->J->Prop}{Q:Exit->Act->J->Prop}(d:∀c,o.op≠.defer c)(h:o.wp P a w K Q):o.wpIn (FW n) 0 P a w K Q:=by
 refine⟨λ_ _=>trivial,?_⟩;rw[Oper.semAt_eq _ _ _ d];unfold Oper.wp at h;generalize(execOp a.eval o).run P w=r at *;cases r with
 |ok nx e=>
  cases nx<;>simp only[Oper.upon,Oper.uponIn]at h ⊢
  case value=>exact h
  case skip=>exact h
  case defer=>exact h
  case enter f args=>exact⟨λh=>(by cases h),GC h⟩
  case row row args=>exact⟨λh=>(by cases h),YQ h⟩
 |halt j e=>
  cases j<;>simp only[Oper.upon,Oper.uponIn]at h ⊢;exact h
def iu.in{P:aF}{n:Cx}{o:Oper}{a:Act}{w:J}{K:ab->J->Prop}(e:∀c,o.op≠.defer c)(h:iu P o a w K):wL P n o a w K:=λd=>QZ e (h d)
def He{P:aF}{o:Oper}{E:Env}{w:J}{n:Cx}{a:Act}{K:ab->J->Prop}(y:∀e b,o.op≠.select e b)(j:∀c,o.op≠.defer c)(d:Ag n a E)(h:r9 P o E w K):wL P n o a w K:=by
 unfold r9 at h;split at h
 .rename_i t args V q;split at h
  .rename_i l B e I;obtain⟨k,Q⟩:=dI h;clear h;simp only[bf,ep]at k;obtain⟨H,C,D⟩:=k;have z:B=#[]:=Array.eq_empty_of_size_eq_zero C;have A:e=#[]:=Array.eq_empty_of_size_eq_zero D;subst z A;have G:args.map a.eval=args.map E.ev:=d.args λS N=>fi.1 H S (by rw[q];simp[Op.operands,Call.operands,N]);have L:a.eval (.tmp t)=.func (.yield l) #[] #[]:=d.val (x:=.tmp t) I;intro T;obtain⟨fn,tmps,assign,body,O,F⟩:=Q;refine⟨λ_ _=>trivial,?_⟩;rw[Oper.semAt_eq _ _ _ j];have:(execOp a.eval o).run P w=.ok (.round l fn tmps assign body) w:=by simp[execOp,q,resolve,L,Deferred.ofValue,invoke,G,O]
   rw[this,Oper.uponIn_round];refine⟨λh=>(by cases h),YH (F.mono ?_)⟩;rintro U W ⟨b,rfl,M⟩;exact⟨_,rfl,M⟩
  .exact (mM y d h).in j
 .exact (mM y d h).in j
def vL(ops:Array Oper)(i j:Nat):Bool:=match ops[j]? with |some o=>o.after.toList.any λd=>bQ d.on i&&Region.binds .any d|none=>false
def yC(ops:Array Oper):Nat->Nat->Nat->Bool
 |0,i,d=>vL ops i d
 |f+1,i,d=>bif vL ops i d then true else match ops[d]? with |some o=>o.after.toList.any λe=>bif Region.binds .any e then yC ops f i e.on else false|none=>false
def h'(ops:Array Oper)(i j:Nat):Bool:=yC ops 4 i j
def Down(ops:Array Oper)(e:Array Bool):Prop:=∀(k:Nat) (o:Oper),ops[k]? =some o->e.getD k false=true->∀d∈o.after,Region.binds .any d=true->e.getD d.on false=true
def Down.zero(ops:Array Oper)(n:Nat):Down ops (g4 n false):=λh o _ e=>by
 exfalso;by_cases d:h<n
 .simp [d]at e
 .simp [d]at e
def Down.set{ops:Array Oper}{e:Array Bool}(z:Down ops e){i:Nat}(U:i∈eG .any ops e):Down ops (e.setIfInBounds i true):=λx o d q h k j=>by
 obtain⟨_,B,A,y⟩:=mem_ready.1 U;by_cases w:i=x
 .subst w;rw[A]at d;cases d;exact getD_set_true (y h k j)
 .rw [getD_set_ne false w]at q;exact getD_set_true (z x o d q h k j)
def M'{ops:Array Oper}{q:Array Bool}{i j:Nat}(w:∀o,ops[j]? =some o->∀d∈o.after,Region.binds .any d=true->q.getD d.on false=true)(h:vL ops i j=true):q.getD i false=true:=by
 unfold vL at h;cases k:ops[j]? with
 |none=>rw[k]at h;cases h
 |some o=>
  rw[k]at h;obtain⟨d,x,e⟩:=List.any_eq_true.1 h;rw[bf]at e;have y:d.on=i:=by have:=e.1;rwa[ep]at this
  have:=w o k d (by simpa using x) e.2
  rwa[y]at this
def Na{ops:Array Oper}{x:Array Bool}(y:Down ops x){i:Nat}:∀(f j:Nat),(∀o,ops[j]? =some o->∀e∈o.after,Region.binds .any e=true->x.getD e.on false=true)->yC ops f i j=true->x.getD i false=true
 |0,j,h,d=>M' h d
 |f+1,j,h,d=>by
  unfold yC at d;cases z:vL ops i j with
  |true=>exact M' h z
  |false=>
   rw[z]at d;cases w:ops[j]? with
   |none=>rw[w]at d;cases d
   |some o=>
    rw[w]at d;obtain⟨e,C,k⟩:=List.any_eq_true.1 d;cases q:Region.binds .any e with
    |false=>rw[q]at k;cases k
    |true=>
     rw[q]at k;have E:=h o w e (by simpa using C) q;exact Na y f e.on (λG F A D B=>y e.on G F E A D B) k
abbrev ey:=List (Nat×(J->Prop))
def heldBy(ops:Array Oper)(j:Nat)(w:J):ey->List Prop
 |[]=>[]
 |(i,e)::d=>bif h' ops i j then heldBy ops j w d else e w::heldBy ops j w d
def c'(ops:Array Oper)(j:Nat):ey->ey
 |[]=>[]
 |(i,e)::d=>bif h' ops i j then c' ops j d else(i,e)::c' ops j d
def BZ{ops:Array Oper}{j:Nat}{w:J}:∀{H:ey} {p:Nat×(J->Prop)},p∈H->h' ops p.1 j=false->p.2 w∈heldBy ops j w H
 |(i,h)::H,p,d,e=>by
  unfold heldBy;rcases av.1 d with rfl|d
  .simp only at e;rw[e];exact List.mem_cons_self
  .have:=BZ (H:=H) (w:=w) d e;cases h' ops i j
   .exact dS _ this
   .exact this
def fg{ops:Array Oper}{j:Nat}:∀{H:ey} {p:Nat×(J->Prop)},p∈c' ops j H↔p∈H/\h' ops p.1 j=false
 |[],p=>by simp[c']
 |(i,k)::H,p=>by
  unfold c';cases h:h' ops i j with
  |true=>
   simp only[cond_true];rw[fg];constructor
   .rintro ⟨e,d⟩;exact⟨dS _ e,d⟩
   .rintro ⟨e,d⟩;rcases av.1 e with rfl|e
    .simp only at d;rw[h]at d;cases d
    .exact ⟨e,d⟩
  |false=>
   simp only[cond_false,av];rw[fg];constructor
   .rintro (rfl|⟨e,d⟩)
    .exact ⟨.inl rfl,h⟩
    .exact ⟨.inr e,d⟩
   .rintro ⟨rfl|e,d⟩
    .exact .inl rfl
    .exact .inr ⟨e,d⟩
section
variable {P:aF} {ops:Array Oper} {Q:Exit->Act->J->Prop}
def eo(P:aF)(ops:Array Oper)(Q:Exit->Act->J->Prop):Nat->ey->Array Bool->Act->J->Prop
 |0,_,d,a,e=>Down ops d->eG .any ops d=[]/\Q .normal a e
 |fuel+1,h,d,a,e=>Down ops d->
  (eG .any ops d=[]->Q .normal a e)/\
  ∀i∈eG .any ops d,wpOp P ops Q i (λk j=>(∀p∈c' ops i h,p.2 j)/\eo P ops Q fuel (c' ops i h) (d.setIfInBounds i true) k j) a e
def zH:∀(fuel:Nat) (H:ey) (h:Array Bool) (a:Act) (w:J),Down ops h->eo P ops Q fuel H h a w->wpAny P .any ops Q fuel h a w
 |0,_,_,_,_,d,e=>e d
 |fuel+1,_,_,_,_,d,e=>⟨(e d).1,λi j=>wpOp_mono (λk x q=>zH fuel _ _ k x (d.set j) q.2) ((e d).2 i j)⟩
def E4:∀(fuel:Nat) (H d:ey) (j:Array Bool) (a:Act) (w:J),(∀p∈d,p∈H)->eo P ops Q fuel H j a w->eo P ops Q fuel d j a w
 |0,_,_,_,_,_,_,e=>e
 |fuel+1,H,d,j,a,w,A,e=>λq=>⟨(e q).1,λi z=>wpOp_mono (λy B k=>by have x:∀p∈c' ops i d,p∈c' ops i H:=λp h=>fg.2 ⟨A p (fg.1 h).1,(fg.1 h).2⟩;exact⟨λp h=>k.1 p (x p h),E4 fuel _ _ _ y B x k.2⟩) ((e q).2 i z)⟩
def Xm{i j:Nat}{d:Array Bool}(x:Down ops d)(U:d.getD i true=false)(z:j∈eG .any ops d):h' ops i j=false:=by
 obtain⟨_,C,B,q⟩:=mem_ready.1 z;cases A:h' ops i j with
 |false=>rfl
 |true=>
  have this:=Na x 4 j (λo h k y w=>by rw[B]at h;cases h;exact q k y w) A;rcases Nat.lt_or_ge i d.size with e|e
  .simp [e]at U this;rw[U]at this;cases this
  .simp [Array.getElem?_eq_none e]at this
def E3{i:Nat}{z:Oper}{v:ab}{Ss:List (J->Prop)}(U:ops[i]? =some z)(ad:∀(j:Nat) (o:Oper) D b,ops[j]? =some o->o.op≠.select D b)(hQ:∀c a w,Q (.panic c) (a.put z.dst v) w->Q (.panic c) a w):
  ∀(fuel:Nat) (H:ey) (q:Array Bool) (a:Act) (w:J),
   (∀j A,ops[j]? =some A->j≠i->q.getD j true=false->(∀h∈A.after,Region.binds .any h=true->h.on≠i)->z.apart ops A=true)->
   i∈eG .any ops q->YieldsIf P ops (λw=>∀e∈Ss,e w) z v a->(∀e∈Ss,e w)->(∀p∈H,p.2 w)->
   eo P ops Q fuel (Ss.map (λe=>(i,e))++H) (q.setIfInBounds i true) (a.put z.dst v) w->eo P ops Q (fuel+1) H q a w:=by
 intro fuel;induction fuel with
 |zero=>
  intro H q a w _ k G N M C F;refine⟨λI=>(by rw[I]at k;cases k),λj E=>?_⟩;by_cases x:j=i
  .subst x;exact G.wpOp U N ⟨λp d=>M p (fg.1 d).1,C⟩
  .have:=ready_mono E x;rw[(C (F.set k)).1]at this;cases this
 |succ fuel ih=>
  intro H q a w W k G N M C F;refine⟨λI=>(by rw[I]at k;cases k),λj E=>?_⟩;by_cases x:j=i
  .subst x;refine G.wpOp U N ⟨λp d=>M p (fg.1 d).1,?_⟩;exact E4 _ _ _ _ _ _ (λp d=>di _ (fg.1 d).1) C
  .have y:=(C (F.set k)).2 j (ready_mono E x);obtain⟨aa,A,O,ag⟩:=mem_ready.1 E;have L:=(mem_ready.1 k).1;have al:∀h∈A.after,Region.binds .any h=true->h.on≠i:=λh he hb ah=>by
    have y:=ag h he hb;rw[ah]at y;rcases Nat.lt_or_ge i q.size with K|K
    .simp [K]at L y;rw[L]at y;cases y
    .simp [Array.getElem?_eq_none K]at y
   have ac:h' ops i j=false:=Xm F L E;have h2:=wpOp_putIf O (W j A O x aa al) (λD b=>ad i z D b U) (λD b=>ad j A D b O) hQ G y;have ai:∀B ok,ops[B]? =some ok->B≠i->(q.setIfInBounds j true).getD B true=false->
     (∀h∈ok.after,Region.binds .any h=true->h.on≠i)->z.apart ops ok=true:=λB ok hk aj ae ak=>by
    refine W B ok hk aj ?_ ak;by_cases Z:j=B
    .subst Z;exact aa
    .rw [getD_set_ne true Z]at ae;exact ae
   refine wpOp_mono (λa' S h3=>?_) h2;obtain⟨an,Y,am⟩:=h3;have T:∀p∈c' ops j H,p.2 S:=λp d=>Y p (fg.2 ⟨di _ (fg.1 d).1,(fg.1 d).2⟩);have af:∀e∈Ss,e S:=λe V=>Y (i,e) (fg.2 ⟨List.mem_append_left _ (ch.2 ⟨e,V,rfl⟩),ac⟩);refine⟨T,ih (c' ops j H) (q.setIfInBounds j true) a' S ai (ready_mono k (Ne.symm x)) an af T ?_⟩;rw[Array.setIfInBounds_comm _ _ x];refine E4 _ _ _ _ _ _ (λp d=>?_) am;rcases aX.1 d with d|d
   .obtain ⟨e,V,rfl⟩:=ch.1 d;exact fg.2 ⟨List.mem_append_left _ d,ac⟩
   .exact fg.2 ⟨di _ (fg.1 d).1,(fg.1 d).2⟩
end
def jo(ops:Array Oper)(j:Nat):Option Nat:=(ops[j]?).bind (·.dst)
def oa(P:aF)(ops:Array Oper)(draw:Bool)(i:Nat)(o:Oper)(E:Env)(w:J)(H:ey)(K:Env->J->ey->Prop):Prop:=
 bif calm P o then mI P o E w λv h=>K (E.put o.dst v) w (bif draw then h.map (λe=>(i,e))++H else H)
 else(bif draw then gY else r9) P o E w λv d=>rM (heldBy ops i d H) (K (E.put o.dst v) d (c' ops i H))
def k9(P:aF)(ops:Array Oper)(draw:Bool)(i:Nat)(o:Oper)(d:Nat)(want t:Bool)(E:Env)(w:J)(H:ey)(K:Env->J->ey->Prop):Prop:=
 bif (t==want)then oa P ops draw i o ((d,.bool t)::E) w H K else K (Env.put ((d,.bool t)::E) o.dst undef) w (bif calm P o then H else c' ops i H)
def gO(P:aF)(ops:Array Oper)(draw:Bool)(K:Env->J->Prop):List Nat->Env->J->ey->Prop
 |[],d,e,_=>K d e
 |i::l,d,e,j=>
  match ops[i]? with
  |none=>False
  |some o=>match o.guard with
   |none=>oa P ops draw i o d e j λh q k=>gO P ops draw K l h q k
   |some (x,want)=>match jo ops x with
    |none=>False
    |some w=>match d.get? w with
     |some (.bool t)=>bn t (k9 P ops draw i o w want true d e j λh q k=>gO P ops draw K l h q k) (k9 P ops draw i o w want false d e j λh q k=>gO P ops draw K l h q k)
     |some (.tuple _)=>gO P ops draw K l (Env.put d o.dst undef) e (bif calm P o then j else c' ops i j)
     |_=>False
def qJ(P:aF)(ops:Array Oper):List Nat->Array Bool->Bool
 |[],d=>(eG .any ops d).isEmpty
 |i::l,d=>(match ops[i]? with
   |some o=>bif calm P o then Region.free .any ops d i&&(eG .any ops d).contains i else eG .any ops d==[i]
   |none=>false)&&qJ P ops l (d.setIfInBounds i true)
def MS(o:Oper):Bool:=match o.op with |.defer _=>false|_=>true
def dR(n:Nat)(ops:Array Oper):Bool:=Region.noSelect ops&&ops.toList.all λo=>MS o&&match o.dst with |some d=>Nat.blt d n|none=>true
def gF{n:Nat}{ops:Array Oper}(h:dR n ops=true){i:Nat}{o:Oper}(d:ops[i]? =some o):∀t,o.dst=some t->t<n:=by intro t e;unfold dR at h;rw[bf]at h;have:=fi.1 h.2 o (by simpa using Array.mem_of_getElem? d);rw[e,bf]at this;simpa using this.2
def sQ{n:Nat}{ops:Array Oper}(h:dR n ops=true){i:Nat}{o:Oper}(e:ops[i]? =some o):∀c,o.op≠.defer c:=by intro c d;unfold dR at h;rw[bf]at h;have:=fi.1 h.2 o (by simpa using Array.mem_of_getElem? e);rw[bf]at this;have:=this.1;unfold MS at this;rw[d]at this;cases this
def g7(n:Cx)(K:Env->J->Prop):Exit->Act->J->Prop
 |.normal,a,e=>∃d,Ag n a d/\K d e
 |_,_,_=>False
def q9{n:Cx}{a:Act}{E:Env}(h:Ag n a E){ops:Array Oper}{j d:Nat}{t:Bool}(e:jo ops j=some d)(k:E.get? d=some (.bool t)):yielded ops a.tmps j=some t:=by unfold yielded;unfold jo at e;rw[e];simp[h.get _ _ k]
def q'{n:Cx}{a:Act}{E:Env}(h:Ag n a E){ops:Array Oper}{j d:Nat}{vs:Array ab}(e:jo ops j=some d)(k:E.get? d=some (.tuple vs)):yielded ops a.tmps j=none:=by unfold yielded;unfold jo at e;rw[e];simp[h.get _ _ k]
def Ag.same{n:Cx}{a:Act}{E:Env}(e:Ag n a E){d:Nat}{v:ab}(h:E.get? d=some v):Ag n a ((d,v)::E):=e.cons h e
section
variable {P:aF} {ops:Array Oper} {n:Cx} {K:Env->J->Prop}
def wI{i:Nat}{o:Oper}{a:Act}{w:J}{Kv:ab->J->Prop}{K':Act->J->Prop}{Q:Exit->Act->J->Prop}(j:ops[i]? =some o)(q:da o (yielded ops a.tmps)=true)(h:iu P o a w Kv)(e:∀v d,Kv v d->K' (a.put o.dst v) d):wpOp P ops Q i K' a w:=by unfold wpOp;simp only[j,q,if_true];exact .inl (Oper.wp_mono (λx d=>by rintro⟨v,rfl,k⟩;exact e v d k) (h Q))
def zh{i:Nat}{o:Oper}{a:Act}{E:Env}{w:J}{H:ey}{Kh:Env->J->ey->Prop}{k:Array Bool}{fuel:Nat}{Q:Exit->Act->J->Prop}(x:dR n ops=true)(j:ops[i]? =some o)(d:(bif calm P o then Region.free .any ops k i&&(eG .any ops k).contains i else eG .any ops k==[i])=true)(Y:∀c a w,Q (.panic c) a w=False)(y:Ag n a E)(G:∀p∈H,p.2 w)(O:da o (yielded ops a.tmps)=true)(h:oa P ops true i o E w H Kh)(next:∀D C q z,Ag n D C->(∀p∈z,p.2 q)->Kh C q z->eo P ops Q fuel z (k.setIfInBounds i true) D q):eo P ops Q (fuel+1) H k a w:=by
 have B:=Region.noSelect_spec (ops:=ops) (by unfold dR at x;rw[bf]at x;exact x.1);unfold oa at h;cases K:calm P o with
 |true=>
  rw[K]at h d;simp only[cond_true]at h d;rw[bf]at d;obtain⟨v,U,hk,N,aa⟩:=xu (λA b=>B i o A b j) y h;refine E3 (v:=v) (Ss:=U) j B (by simp[Y]) fuel H k a w (Region.free_spec j d.1) (by simpa using d.2) (.inl ⟨O,λq ab=>aa q ab⟩) N G ?_;refine next _ _ _ _ (y.put v (gF x j)) ?_ hk
  intro p e;rcases aX.1 e with e|e
  .obtain ⟨T,Z,rfl⟩:=ch.1 e;exact N T Z
  .exact G p e
 |false=>
  rw[K]at h d;simp only[cond_false,cond_true]at h d;have M:eG .any ops k=[i]:=by simpa using d
  refine λ_=>⟨λF=>(by rw[M]at F;cases F),λS L=>?_⟩;rw[M]at L;obtain rfl:=bG.1 L;refine wI j O (mM (λA b=>B S o A b j) y h) λv q hv=>?_;obtain⟨V,W⟩:=rN hv;have I:∀p∈c' ops S H,p.2 q:=λp e=>V _ (BZ (fg.1 e).1 (fg.1 e).2);exact⟨I,next _ _ _ _ (y.put v (gF x j)) I W⟩
def wc{i:Nat}{o:Oper}{a:Act}{w:J}{H:ey}{e:Array Bool}{fuel:Nat}{Q:Exit->Act->J->Prop}(h:dR n ops=true)(j:ops[i]? =some o)(d:(bif calm P o then Region.free .any ops e i&&(eG .any ops e).contains i else eG .any ops e==[i])=true)(B:∀c a w,Q (.panic c) a w=False)(q:∀p∈H,p.2 w)(A:da o (yielded ops a.tmps)=false)(next:eo P ops Q fuel (bif calm P o then H else c' ops i H) (e.setIfInBounds i true) (a.put o.dst undef) w):eo P ops Q (fuel+1) H e a w:=by
 have E:=Region.noSelect_spec (ops:=ops) (by unfold dR at h;rw[bf]at h;exact h.1);cases x:calm P o with
 |true=>
  rw[x]at d next
  simp only[cond_true]at d next
  rw[bf]at d;exact E3 (v:=undef) (Ss:=[]) j E (by simp[B]) fuel H e a w (Region.free_spec j d.1) (by simpa using d.2) (.inr ⟨A,rfl⟩) (λF C=>(by cases C)) q (by simpa using next)
 |false=>
  rw[x]at d next
  simp only[cond_false]at d next
  have z:eG .any ops e=[i]:=by simpa using d
  refine λ_=>⟨λk=>(by rw[z]at k;cases k),λG y=>?_⟩;rw[z]at y;obtain rfl:=bG.1 y;unfold wpOp;simp only[j,A];exact⟨λp D=>q p (fg.1 D).1,next⟩
def OT(y:dR n ops=true):∀(l:List Nat) (G:Array Bool) (E:Env) (w:J) (H:ey) (a:Act),qJ P ops l G=true->Ag n a E->(∀p∈H,p.2 w)->
  gO P ops true K l E w H->eo P ops (g7 n K) l.length H G a w
 |[],G,E,w,H,a,e,k,_,d=>λ_=>⟨by simpa[qJ]using e,E,k,d⟩
 |i::l,G,E,w,H,a,e,k,j,d=>by
  unfold qJ at e;rw[bf]at e;obtain⟨e,U⟩:=e;unfold gO at d;cases q:ops[i]? with
  |none=>rw[q]at d;exact d.elim
  |some o=>
   rw[q]at d e;simp only at d e;have next:∀I A z x,Ag n I A->(∀p∈x,p.2 z)->gO P ops true K l A z x->eo P ops (g7 n K) l.length x (G.setIfInBounds i true) I z:=
    λI A z x Q S T=>OT y l _ A z x I U Q S T
   cases B:o.guard with
   |none=>
    rw[B]at d;simp only at d;exact zh y q e (λ_ _ _=>rfl) k j (by simp[da,B]) d next
   |some W=>
    obtain⟨V,want⟩:=W;rw[B]at d;simp only at d;cases M:jo ops V with
    |none=>rw[M]at d;exact d.elim
    |some O=>
     rw[M]at d;simp only at d;split at d
     .rename_i t F;have N:=q9 k M F;have C:k9 P ops true i o O want t E w H λA z x=>gO P ops true K l A z x:=by
       cases t
       .exact d
       .exact d
      unfold k9 at C;cases L:(t==want)with
      |true=>
       rw[L]at C;exact zh y q e (λ_ _ _=>rfl) (k.same F) j (by simp[da,B,N];simpa using L) C next
      |false=>
       rw[L]at C;simp only[cond_false]at C;refine wc y q e (λ_ _ _=>rfl) j (by simp[da,B,N];simpa using L) ?_;refine next _ _ _ _ ((k.same F).put undef (gF y q)) ?_ C
       intro p h;cases D:calm P o
       .rw [D]at h;exact j p (fg.1 h).1
       .rw [D]at h;exact j p h
     .rename_i Y F;have N:=q' k M F;refine wc y q e (λ_ _ _=>rfl) j (by simp[da,B,N]) ?_;refine next _ _ _ _ (k.put undef (gF y q)) ?_ d
      intro p h;cases D:calm P o
      .rw [D]at h;exact j p (fg.1 h).1
      .rw [D]at h;exact j p h
     .exact d.elim
def zI{i:Nat}{o:Oper}{a:Act}{w:J}{Kv:ab->J->Prop}{K':Act->J->Prop}{Q:Exit->Act->J->Prop}(j:ops[i]? =some o)(q:da o (yielded ops a.tmps)=true)(h:wL P n o a w Kv)(e:∀v d,Kv v d->K' (a.put o.dst v) d):wpOpIn (FW n) 0 P ops Q i K' a w:=by unfold wpOpIn;simp only[j,q,if_true];exact Oper.wpIn_mono (λx d=>by rintro⟨v,rfl,k⟩;exact e v d k) (h Q)
def PF{i:Nat}{o:Oper}{a:Act}{E:Env}{w:J}{Kh:Env->J->ey->Prop}{rest:List Nat}{Q:Exit->Act->J->Prop}(e:dR n ops=true)(d:ops[i]? =some o)(k:Ag n a E)(B:da o (yielded ops a.tmps)=true)(h:oa P ops false i o E w [] Kh)(next:∀y x j,Ag n y x->Kh x j []->wpOpsIn (FW n) 0 P ops Q rest y j):wpOpsIn (FW n) 0 P ops Q (i::rest) a w:=by
 have A:=Region.noSelect_spec (ops:=ops) (by unfold dR at e;rw[bf]at e;exact e.1);rw[wpOpsIn_cons];unfold oa at h;cases z:calm P o with
 |true=>
  rw[z]at h;simp only[cond_true,cond_false]at h;obtain⟨v,K,D,F,G⟩:=xu (λq b=>A i o q b d) k h;refine zI (Kv:=λC j=>C=v/\j=w) d B ?_ ?_
  .refine iu.in (sQ e d) λI=>?_;unfold Oper.wp;rw[G w F];exact⟨v,rfl,rfl,rfl⟩
  .rintro C j ⟨rfl,rfl⟩;exact next _ _ _ (k.put _ (gF e d)) D
 |false=>
  rw[z]at h;simp only[cond_false,heldBy,rM,c']at h;exact zI d B (He (λq b=>A i o q b d) (sQ e d) k h) λv j H=>next _ _ _ (k.put v (gF e d)) H
def OU(z:dR n ops=true):∀(l:List Nat) (E:Env) (w:J) (a:Act),Ag n a E->gO P ops false K l E w []->wpOpsIn (FW n) 0 P ops (g7 n K) l a w
 |[],E,w,a,j,d=>⟨E,j,d⟩
 |i::l,E,w,a,j,d=>by
  unfold gO at d;cases k:ops[i]? with
  |none=>rw[k]at d;exact d.elim
  |some o=>
   rw[k]at d;simp only at d;have next:∀B e h,Ag n B e->gO P ops false K l e h []->wpOpsIn (FW n) 0 P ops (g7 n K) l B h:=λB e h L M=>OU z l e h B L M
   cases x:o.guard with
   |none=>
    rw[x]at d;simp only at d;exact PF (Kh:=λe h y=>gO P ops false K l e h y) z k j (by simp[da,x]) d next
   |some O=>
    obtain⟨N,want⟩:=O;rw[x]at d;simp only at d;cases D:jo ops N with
    |none=>rw[D]at d;exact d.elim
    |some I=>
     rw[D]at d;simp only at d;split at d
     .rename_i t A;have F:=q9 j D A;have q:k9 P ops false i o I want t E w [] λe h y=>gO P ops false K l e h y:=by
       cases t
       .exact d
       .exact d
      unfold k9 at q;cases C:(t==want)with
      |true=>
       rw[C]at q;exact PF (Kh:=λe h y=>gO P ops false K l e h y) z k (j.same A) (by simp[da,x,F];simpa using C) q next
      |false=>
       rw[C]at q;simp only[cond_false]at q;have G:(bif calm P o then([]:ey)else c' ops i [])=[]:=by cases calm P o<;>rfl
       rw[G]at q;rw[wpOpsIn_cons];unfold wpOpIn;have H:da o (yielded ops a.tmps)=false:=by simp[da,x,F];simpa using C
       simp only[k,H];exact⟨λ_ _=>trivial,next _ _ _ ((j.same A).put undef (gF z k)) q⟩
     .rename_i Q A;have F:=q' j D A;have G:(bif calm P o then([]:ey)else c' ops i [])=[]:=by cases calm P o<;>rfl
      rw[G]at d;rw[wpOpsIn_cons];unfold wpOpIn;have H:da o (yielded ops a.tmps)=false:=by simp[da,x,F]
      simp only[k,H];exact⟨λ_ _=>trivial,next _ _ _ (j.put undef (gF z k)) d⟩
     .exact d.elim
def aaC{c:Code}{id:Nat}{a:Act}{E:Env}{w:J}(e:c=.region id ops false)(j:dR n ops=true)(d:Ag n a E)(h:gO P ops false K (List.range ops.size) E w []):c.wpIn (FW n) 0 P (g7 n K) a w:=by subst e;exact wpIn_region (OU j _ E w a d h)
def q7(h:dR n ops=true){Q:Exit->Act->J->Prop}(e:¬LetsOut Q):∀(l:List Nat) (a:Act) (w:J),wpOps P ops Q l a w->wpOpsIn (FW n) 0 P ops Q l a w
 |[],a,w,d=>d
 |i::l,a,w,d=>by
  rw[wpOps_cons]at d;rw[wpOpsIn_cons];unfold wpOp at d;unfold wpOpIn;cases j:ops[i]? with
  |none=>rw[j]at d;exact q7 h e l a w d
  |some o=>
   rw[j]at d;simp only at d ⊢;split
   .rename_i k;rw[aj k]at d;rcases d with d|d
    .exact Oper.wpIn_mono (λq y x=>q7 h e l q y x) (QZ (sQ h j) d)
    .exact absurd d.2 e
   .rename_i k;rw[af k]at d;exact⟨λ_ _=>trivial,q7 h e l _ w d⟩
def aaB{c:Code}{id:Nat}{a:Act}{E:Env}{w:J}{l:List Nat}(y:P.follows .mixedOrders=true)(q:c=.region id ops true)(e:dR n ops=true)(x:qJ P ops l (g4 ops.size false)=true)(A:l.length=ops.size)(k:Ag n a E)(h:gO P ops true K l E w.drew []):c.wpIn (FW n) 0 P (g7 n K) a w:=by subst q;have d:=OT e l _ E _ [] a x k (λp z=>(by cases z)) h;rw[A]at d;have j:=zH _ [] _ _ _ (Down.zero _ _) d;refine wpIn_region_draw λt=>?_;refine q7 e (λ⟨_,_,h⟩=>h) _ _ _ ?_;simp only[Region.schedule,y,Bool.true_or,if_true];exact wpAny_sound ops.size t _ a _ j
end
section
variable {P:aF} {n:Cx}
def Code.ops:Code->Array Oper
 |.region _ ops _=>ops
 |_=>#[]
def Code.fst:Code->Code
 |.seq a _=>a
 |.cond _ a _=>a
 |.block _ a=>a
 |.loop a=>a
 |.scope a=>a
 |c=>c
def Code.snd:Code->Code
 |.seq _ b=>b
 |.cond _ _ b=>b
 |c=>c
def Code.R1:Code->Code
 |.rangeFunc _ _ a _=>a
 |c=>c
def Code.Se:Code->Code
 |.rangeFunc _ _ _ b=>b
 |c=>c
abbrev fu(P:aF)(n:Cx)(c:Code)(Q:Exit->Act->J->Prop)(a:Act)(w:J):Prop:=c.wpIn (FW n) 0 P Q a w
def WP(P:aF)(n:Cx)(c:Code)(Q:Exit->Act->J->Prop)(E:Env)(w:J):Prop:=∀a,Ag n a E->fu P n c Q a w
def WP.region{c:Code}{Q:Exit->Act->J->Prop}{E:Env}{w:J}{ops:Array Oper}{id:Nat}(K:Env->J->Prop)(y:c=.region id ops false)(A:dR n ops=true)(h:gO P ops false K (List.range ops.size) E w [])(z:∀d j e,Ag n e d->K d j->Q .normal e j):WP P n c Q E w:=λa x=>
 wpIn_mono (aaC y A x h) λq e j k=>by
  cases q with
  |normal=>obtain⟨d,hA,hK⟩:=k;exact z d j e hA hK
  |_=>exact k.elim
def WP.Yz{c:Code}{Q:Exit->Act->J->Prop}{E:Env}{w:J}{ops:Array Oper}{id:Nat}{l:List Nat}(K:Env->J->Prop)(B:P.follows .mixedOrders=true)(y:c=.region id ops true)(C:dR n ops=true)(A:qJ P ops l (g4 ops.size false)=true)(D:l.length=ops.size)(h:gO P ops true K l E w.drew [])(z:∀d j e,Ag n e d->K d j->Q .normal e j):WP P n c Q E w:=λa x=>
 wpIn_mono (aaB B y C A D x h) λq e j k=>by
  cases q with
  |normal=>obtain⟨d,hA,hK⟩:=k;exact z d j e hA hK
  |_=>exact k.elim
def qP(n:Nat)(c:Code):Bool:=match c with |.region _ ops d=>!d&&dR n ops|_=>false
def yX(P:aF)(n:Nat)(c:Code)(l:List Nat):Bool:=match c with
 |.region _ ops d=>d&&(P.follows .mixedOrders&&(dR n ops&&(qJ P ops l (g4 ops.size false)&&bQ l.length ops.size)))
 |_=>false
def WP.pa{c:Code}{Q:Exit->Act->J->Prop}{E:Env}{w:J}(K:Env->J->Prop)(d:qP n c=true)(h:gO P (Code.ops c) false K (List.range (Code.ops c).size) E w [])(A:∀e k j,Ag n j e->K e k->Q .normal j k):WP P n c Q E w:=by
 unfold qP at d;split at d
 .rename_i id ops q;rw[bf]at d;obtain⟨x,y⟩:=d;have z:q=false:=by simpa using x
  subst z;exact WP.region K rfl y h A
 .cases d
def WP.draw{c:Code}{Q:Exit->Act->J->Prop}{E:Env}{w:J}(l:List Nat)(K:Env->J->Prop)(d:yX P n c l=true)(h:gO P (Code.ops c) true K l E w.drew [])(A:∀e q j,Ag n j e->K e q->Q .normal j q):WP P n c Q E w:=by
 unfold yX at d;split at d
 .rename_i id ops B;simp only[bf]at d;obtain⟨rfl,x,y,z,k⟩:=d;rw[ep]at k;exact WP.Yz K x rfl y z k h A
 .cases d
def WP.at{c:Code}{Q:Exit->Act->J->Prop}{E:Env}{w:J}{a:Act}(h:WP P n c Q E w)(d:Ag n a E):fu P n c Q a w:=h a d
def WP.seq{c x y:Code}{Q:Exit->Act->J->Prop}{E:Env}{w:J}(e:c=.seq x y)(h:WP P n x (Exit.then (fu P n y Q) Q) E w):WP P n c Q E w:=λa d=>by subst e;exact wpIn_seq (h a d)
def WP.cond{c x y:Code}{o:Operand}{Q:Exit->Act->J->Prop}{E:Env}{w:J}{t:Bool}(j:c=.cond o x y)(k:E.val o=some (.bool t))(h:bn t (WP P n x Q E w) (WP P n y Q E w)):WP P n c Q E w:=λa d=>by
 subst j;refine wpIn_cond_split (d.val k) (λe=>?_) (λe=>?_)
 .subst e;exact h a d
 .subst e;exact h a d
def gA(v:Option ab)(A B:Prop):Prop:=match v with |some (.bool t)=>bn t A B|_=>False
def WP.gA{c x y:Code}{o:Operand}{Q:Exit->Act->J->Prop}{E:Env}{w:J}{A B:Prop}(j:c=.cond o x y)(d:A->WP P n x Q E w)(e:B->WP P n y Q E w)(h:gA (E.val o) A B):WP P n c Q E w:=by
 unfold W.gA at h;split at h
 .rename_i t k;refine WP.cond j k ?_;cases t
  .exact e h
  .exact d h
 .exact h.elim
def WP.block{c x:Code}{id:Nat}{Q:Exit->Act->J->Prop}{E:Env}{w:J}(e:c=.block id x)(h:WP P n x (Exit.inBlock id Q) E w):WP P n c Q E w:=λa d=>by subst e;exact wpIn_block (h a d)
def WP.skip{c:Code}{Q:Exit->Act->J->Prop}{E:Env}{w:J}(e:c=.skip)(h:∀a,Ag n a E->Q .normal a w):WP P n c Q E w:=λa d=>by subst e;exact wpIn_skip (h a d)
def WP.exit{c:Code}{id:Nat}{Q:Exit->Act->J->Prop}{E:Env}{w:J}(e:c=.exit id)(h:∀a,Ag n a E->Q (.exit id) a w):WP P n c Q E w:=λa d=>by subst e;exact wpIn_exit (h a d)
def WP.ret{c:Code}{Q:Exit->Act->J->Prop}{E:Env}{w:J}(e:c=.ret)(h:∀a,Ag n a E->Q .ret a w):WP P n c Q E w:=λa d=>by subst e;exact wpIn_ret (h a d)
def lS(P:aF)(n:Cx)(c:Code)(Q:Exit->Act->J->Prop)(a:Act)(w:J):Prop:=
 ∀(b:Frame) (k:List Item) (cs:List Frame),b.roundOf=n.ro->∃e d h,Q e d h/\ArrivesIn (Machine.fenced P (FW n)) P (lone (b.atR a (.code c::.inLoop c::k)) cs w) b k cs e d h
def YG(n:Cx)(m:Nat):(FW n).room m:=room_wide m
def Q'{c:Code}{Q:Exit->Act->J->Prop}{a:Act}{w:J}(h:lS P n c Q a w):fu P n (Code.loop c) Q a w:=λb A e z q y=>by obtain⟨j,d,B,x,k⟩:=h b A e z;exact⟨j,d,B,x,.of_steps (.one (fenced_calm q y rfl) stepR_loop) k⟩
def Jt{c:Code}{Q:Exit->Act->J->Prop}{a:Act}{w:J}(h:fu P n c (Exit.then (lS P n c Q) Q) a w):lS P n c Q a w:=by
 intro b A j z;have q:(FW n).fn b.fn:=trivial;have y:(FW n).room (j.length+1+0):=YG n _;obtain⟨k,a₁,w₁,e,d⟩:=h b (.inLoop c::A) j z q y;cases k with
 |normal=>
  obtain⟨k₂,a₂,w₂,e₂,d₂⟩:=e b A j z;exact⟨k₂,a₂,w₂,e₂,.of_steps (StepsIn.trans d (.one (fenced_calm q y rfl) stepR_inLoop)) d₂⟩
 |exit id=>exact⟨_,a₁,w₁,e,.pass (x:=.inLoop c) rfl (λ_ _=>.inl (by simp)) d⟩
 |goto l=>exact⟨_,a₁,w₁,e,.pass (x:=.inLoop c) rfl (λ_ _=>.inl (by simp)) d⟩
 |ret=>exact⟨_,a₁,w₁,e,.pass (x:=.inLoop c) rfl (λ_ _=>.inl (by simp)) d⟩
 |panic B=>exact⟨_,a₁,w₁,e,.pass (x:=.inLoop c) rfl (λ_ _=>.inl (by simp)) d⟩
 |outgrown=>exact⟨_,a₁,w₁,e,.pass (x:=.inLoop c) rfl (λ_ _=>.inl (by simp)) d⟩
def LP(P:aF)(n:Cx)(c:Code)(Q:Exit->Act->J->Prop)(E:Env)(w:J):Prop:=∀a,Ag n a E->lS P n c Q a w
def WP.loop{c x:Code}{Q:Exit->Act->J->Prop}{E:Env}{w:J}(e:c=.loop x)(h:LP P n x Q E w):WP P n c Q E w:=λa d=>by subst e;exact Q' (h a d)
def LP.step{c:Code}{Q:Exit->Act->J->Prop}{E:Env}{w:J}(h:WP P n c (Exit.then (lS P n c Q) Q) E w):LP P n c Q E w:=λa d=>Jt (h a d)
def Dn:List ab->ab
 |[v]=>v
 |d=>.tuple d.toArray
def qR(P:aF)(E:Env)(w:J):List ResultVar->(List ab->Prop)->Prop
 |[],d=>d []
 |.tmp t::l,d=>match E.get? t with
  |some v=>qR P E w l λe=>d (v::e)
  |none=>False
 |.cell j h::l,d=>match E.get? j with
  |some (.pointer (some p))=>l6 P h p w λv _=>qR P E w l λe=>d (v::e)
  |_=>False
def kG(P:aF)(fn:Func)(E:Env)(w:J)(K:ab->Prop):Prop:=qR P E w fn.results.toList λd=>K (Dn d)
def pd(tmps:Array ab):ResultVar->Sem ab
 |.tmp t=>pure (tmps.getD t undef)
 |.cell a t=>do loadVar t (<-asAddr (tmps.getD a undef))
def OD(fn:Func)(tmps:Array ab):results fn tmps=(do let d <-fn.results.mapM (pd tmps);pure (if h:d.size=1 then d[0]else .tuple d)):=by unfold results;congr 1
def DU{a:Act}{E:Env}(h:Ag n a E)(w:J):∀{l:List ResultVar} {K:List ab->Prop},qR P E w l K->
  ∃e,(l.mapM (pd a.tmps)).run P w=.ok e w/\K e
 |[],K,d=>⟨[],by simp,d⟩
 |.tmp t::l,K,d=>by
  unfold qR at d;split at d
  .rename_i v A;obtain⟨e,q,k⟩:=DU h w d;refine⟨v::e,?_,k⟩;have j:=h.get t v A;simp[List.mapM_cons,pd,q,j]
  .exact d.elim
 |.cell B D::l,K,d=>by
  unfold qR at d;split at d
  .rename_i p x;obtain⟨v,C,d,y,z⟩:=Ce d;obtain⟨e,q,k⟩:=DU h w d;refine⟨v::e,?_,k⟩;have j:=h.get B _ x;simp[List.mapM_cons,pd,q,j,asAddr,z w y]
  .exact d.elim
def DX{fn:Func}{a:Act}{E:Env}{w:J}{R:cr->J->Prop}(e:Ag n a E)(h:kG P fn E w λv=>R (ag v) w):
  ∃v,(results fn a.tmps).run P w=.ok v w/\R (ag v) w:=by
 obtain⟨d,k,j⟩:=DU e w h;refine⟨_,?_,j⟩;rw[OD,<-Array.toArray_toList (xs:=fn.results),List.mapM_toArray];simp only[Sem.run_bind,Sem.run_map,k,Result.andThen_ok,Sem.run_pure];congr 1;cases d with
 |nil=>rfl
 |cons v d=>cases d<;>rfl
def vZ{m:Nat}{fn:Func}{a:Act}{E:Env}{w:J}{R:cr->J->Prop}(d:Ag (cx m) a E)(h:kG P fn E w λv=>R (ag v) w):
  a.defers=[]/\∃v,(results fn a.tmps).run P w=.ok v w/\R (ag v) w:=⟨d.defers,DX d h⟩
def TV{f:cD}{fn:Func}{c:Code}{args:Array ab}{w:J}{R:cr->J->Prop}{E:Env}(k:P.funcs[f]? =some fn)(j:fn.body=some c)(y:args.size<=fn.ntmps)(e:∀t v,E.get? t=some v->args[t]? =some v)(h:WP P (cx fn.ntmps) c (bodyPost P fn R) E w):ak P f args w R:=by
 refine calls_of_wp k j (wpIn_wide.1 (h _ ⟨rfl,by simp;omega,?_⟩));intro t v x;have:=e t v x;have q:t<args.size:=by
  rcases Nat.lt_or_ge t args.size with d|d
  .exact d
  .rw [Array.getElem?_eq_none d]at this;cases this
 rw[Array.getElem?_append_left q];exact this
def jT:Nat->List ab->Env
 |_,[]=>[]
 |i,v::l=>(i,v)::jT (i+1) l
def Bx:∀(l:List ab) (i t:Nat) (v:ab),(jT i l).get? t=some v->i<=t/\l[t - i]? =some v
 |[],_,_,_,d=>by simp[jT,Env.get?]at d
 |u::l,i,t,v,d=>by
  simp only[jT,Env.get?]at d;by_cases e:i=t
  .subst e;simp at d;subst d;simp
  .have j:bQ i t=false:=by rw[<-iN,ep];exact e
   simp only[j,cond_false]at d;obtain⟨k,h⟩:=Bx l (i+1) t v d;refine⟨by omega,?_⟩;rw[show t - i=(t - (i+1))+1 by omega];simpa using h
def uF{f:cD}{fn:Func}{c:Code}{args:List ab}{w:J}{R:cr->J->Prop}(e:P.funcs[f]? =some fn)(d:fn.body=some c)(j:Nat.ble args.length fn.ntmps=true)(h:WP P (cx fn.ntmps) c (bodyPost P fn R) (jT 0 args) w):ak P f args.toArray w R:=
 TV e d (by simpa using Nat.le_of_ble_eq_true j) (λt v k=>by have:=(Bx args 0 t v k).2;simpa using this) h
def Y1{t:Bool}{A B d e:Prop}(j:A->d)(k:B->e)(h:bn t A B):bn t d e:=by
 cases t
 .exact k h
 .exact j h
def asInt(k:hr)(v:Option ab)(K:Int->Prop):Prop:=match v with |some (.int d n)=>cE (d==k) (K n)|_=>False
def gJ{k:hr}{v:Option ab}{K:Int->Prop}(h:asInt k v K):∃n,v=some (.int k n)/\K n:=by
 unfold asInt at h;split at h
 .obtain ⟨d,e⟩:=dI h;have j:=eq_of_beq d;subst j;exact⟨_,rfl,e⟩
 .exact h.elim
def pZ(v:Option ab)(K:ByteArray->Prop):Prop:=match v with |some (.string b)=>K b|_=>False
def ux{v:Option ab}{K:ByteArray->Prop}(h:pZ v K):∃b,v=some (.string b)/\K b:=by
 unfold pZ at h;split at h
 .exact ⟨_,rfl,h⟩
 .exact h.elim
def asSlice(v:Option ab)(K:Sl->Prop):Prop:=match v with |some (.slice a n c)=>K ⟨a,n,c⟩|_=>False
def pY{v:Option ab}{K:Sl->Prop}(h:asSlice v K):∃s:Sl,v=some s.v/\K s:=by
 unfold asSlice at h;split at h
 .exact ⟨⟨_,_,_⟩,rfl,h⟩
 .exact h.elim
def cu(v:Option ab)(K:Addr->Prop):Prop:=match v with |some (.pointer (some a))=>K a|_=>False
def cF{v:Option ab}{K:Addr->Prop}(h:cu v K):∃a,v=some (.pointer (some a))/\K a:=by
 unfold cu at h;split at h
 .exact ⟨_,rfl,h⟩
 .exact h.elim
def asAgg(v:Option ab)(K:List ab->Prop):Prop:=match v with |some (.agg d)=>K d.toList|_=>False
def RY{v:Option ab}{K:List ab->Prop}(h:asAgg v K):∃d:List ab,v=some (.agg d.toArray)/\K d:=by
 unfold asAgg at h;split at h
 .exact ⟨_,rfl,h⟩
 .exact h.elim
def xe(f:cD)(v:Option ab)(K:List ab->List ab->Prop):Prop:=match v with |some (.func (.func g) e d)=>cE (bQ g f) (K e.toList d.toList)|_=>False
def RZ{f:cD}{v:Option ab}{K:List ab->List ab->Prop}(h:xe f v K):∃e d:List ab,v=some (.func (.func f) e.toArray d.toArray)/\K e d:=by
 unfold xe at h;split at h
 .obtain ⟨j,k⟩:=dI h;rw[ep]at j;subst j;exact⟨_,_,rfl,k⟩
 .exact h.elim
def oG(l:List ab)(K:ab->List ab->Prop):Prop:=match l with |v::r=>K v r|[]=>False
def rP{l:List ab}{K:ab->List ab->Prop}(h:oG l K):∃v r,l=v::r/\K v r:=by
 cases l with
 |nil=>exact h.elim
 |cons v r=>exact⟨v,r,rfl,h⟩
def rQ(l:List ab)(K:Prop):Prop:=match l with |[]=>K|_=>False
def Ay{l:List ab}{K:Prop}(h:rQ l K):l=[]/\K:=by
 cases l with
 |nil=>exact⟨rfl,h⟩
 |cons v r=>exact h.elim
end
def kY(k:hr)(x y:Int):Int:=k.wrap ((eF k.bits x&&& eF k.bits y).toNat:Int)
def p9(k:hr)(x y:Int):Int:=k.wrap ((eF k.bits x|||eF k.bits y).toNat:Int)
def mF(k:hr)(x y:Int):Int:=k.wrap ((eF k.bits x^^^eF k.bits y).toNat:Int)
def R3(k:hr)(x y:Int):Int:=k.wrap ((eF k.bits x&&& ~~~ eF k.bits y).toNat:Int)
inductive Tr where
 |nil
 |one (i:Nat) (t:Tr)
 |fork (a b:Tr)
def Tr.iV:Tr->List Nat
 |.nil=>[]
 |.one i _=>[i]
 |.fork a b=>a.iV++b.iV
def Tr.len:Tr->Nat
 |.nil=>0
 |.one _ t=>t.len+1
 |.fork a _=>a.len
def vl(P:aF)(ops:Array Oper)(i:Nat)(E:Env)(w:J)(H:ey)(d:Env->J->ey->Prop):Prop:=
 match ops[i]? with
 |none=>False
 |some o=>match o.guard with
  |none=>oa P ops true i o E w H d
  |some (h,want)=>match jo ops h with
   |none=>False
   |some e=>match E.get? e with
    |some (.bool t)=>bn t (k9 P ops true i o e want true E w H d) (k9 P ops true i o e want false E w H d)
    |some (.tuple _)=>d (Env.put E o.dst undef) w (bif calm P o then H else c' ops i H)
    |_=>False
def oh(P:aF)(ops:Array Oper)(K:Env->J->Prop):Tr->Env->J->ey->Prop
 |.nil,d,e,_=>K d e
 |.one i t,d,e,h=>vl P ops i d e h λj q k=>oh P ops K t j q k
 |.fork a b,d,e,h=>oh P ops K a d e h/\oh P ops K b d e h
def hN(P:aF)(ops:Array Oper):Tr->Bool->Array Bool->Bool
 |.nil,alt,d=>!alt&&(eG .any ops d).isEmpty
 |.one i t,alt,d=>(match ops[i]? with
   |some o=>bif alt then !calm P o else bif calm P o then Region.free .any ops d i&&(eG .any ops d).contains i else eG .any ops d==[i]
   |none=>false)&&hN P ops t false (d.setIfInBounds i true)
 |.fork a b,alt,d=>(alt||eG .any ops d==(Tr.fork a b).iV)&&(bQ a.len b.len&&(hN P ops a true d&&hN P ops b true d))
section
variable {P:aF} {ops:Array Oper} {n:Cx} {K:Env->J->Prop}
def PD{i:Nat}{o:Oper}{a:Act}{E:Env}{w:J}{H:ey}{Kh:Env->J->ey->Prop}{B:Array Bool}{fuel:Nat}{Q:Exit->Act->J->Prop}(j:dR n ops=true)(q:ops[i]? =some o)(G:calm P o=false)(z:Ag n a E)(L:da o (yielded ops a.tmps)=true)(h:oa P ops true i o E w H Kh)(next:∀e x d k,Ag n e x->(∀p∈k,p.2 d)->Kh x d k->eo P ops Q fuel k (B.setIfInBounds i true) e d):
  wpOp P ops Q i (λe d=>(∀p∈c' ops i H,p.2 d)/\eo P ops Q fuel (c' ops i H) (B.setIfInBounds i true) e d) a w:=by have I:=Region.noSelect_spec (ops:=ops) (by unfold dR at j;rw[bf]at j;exact j.1);unfold oa at h;rw[G]at h;simp only[cond_false,cond_true]at h;refine wI q L (mM (λC b=>I i o C b q) z h) λv d K=>?_;obtain⟨D,F⟩:=rN K;have y:∀p∈c' ops i H,p.2 d:=λp A=>D _ (BZ (fg.1 A).1 (fg.1 A).2);exact⟨y,next _ _ _ _ (z.put v (gF j q)) y F⟩
def Ed{i:Nat}{o:Oper}{a:Act}{w:J}{H:ey}{d:Array Bool}{fuel:Nat}{Q:Exit->Act->J->Prop}(k:ops[i]? =some o)(j:∀p∈H,p.2 w)(x:da o (yielded ops a.tmps)=false)(next:eo P ops Q fuel (c' ops i H) (d.setIfInBounds i true) (a.put o.dst undef) w):
  wpOp P ops Q i (λh e=>(∀p∈c' ops i H,p.2 e)/\eo P ops Q fuel (c' ops i H) (d.setIfInBounds i true) h e) a w:=by unfold wpOp;simp only[k,x];exact⟨λp q=>j p (fg.1 q).1,next⟩
def Vz(y:dR n ops=true){i:Nat}{o:Oper}{E:Env}{w:J}{H:ey}{a:Act}{L:Env->J->ey->Prop}{B:Array Bool}{fuel:Nat}(j:ops[i]? =some o)(F:(bif calm P o then Region.free .any ops B i&&(eG .any ops B).contains i else eG .any ops B==[i])=true)(k:Ag n a E)(e:∀p∈H,p.2 w)(h:vl P ops i E w H L)(next:∀O N M I,Ag n O N->(∀p∈I,p.2 M)->L N M I->eo P ops (g7 n K) fuel I (B.setIfInBounds i true) O M):eo P ops (g7 n K) (fuel+1) H B a w:=by
 unfold vl at h;rw[j]at h;simp only at h;cases q:o.guard with
 |none=>
  rw[q]at h;simp only at h;exact zh y j F (λ_ _ _=>rfl) k e (by simp[da,q]) h next
 |some T=>
  obtain⟨S,want⟩:=T;rw[q]at h;simp only at h;cases D:jo ops S with
  |none=>rw[D]at h;exact h.elim
  |some Q=>
   rw[D]at h;simp only at h;split at h
   .rename_i t A;have G:=q9 k D A;have x:k9 P ops true i o Q want t E w H L:=by
     cases t
     .exact h
     .exact h
    unfold k9 at x;cases C:(t==want)with
    |true=>
     rw[C]at x;exact zh y j F (λ_ _ _=>rfl) (k.same A) e (by simp[da,q,G];simpa using C) x next
    |false=>
     rw[C]at x;simp only[cond_false]at x;refine wc y j F (λ_ _ _=>rfl) e (by simp[da,q,G];simpa using C) ?_;refine next _ _ _ _ ((k.same A).put undef (gF y j)) ?_ x
     intro p d;cases z:calm P o
     .rw [z]at d;exact e p (fg.1 d).1
     .rw [z]at d;exact e p d
   .rename_i U A;have G:=q' k D A;refine wc y j F (λ_ _ _=>rfl) e (by simp[da,q,G]) ?_;refine next _ _ _ _ (k.put undef (gF y j)) ?_ h
    intro p d;cases z:calm P o
    .rw [z]at d;exact e p (fg.1 d).1
    .rw [z]at d;exact e p d
   .exact h.elim
def VA(C:dR n ops=true){i:Nat}{o:Oper}{E:Env}{w:J}{H:ey}{a:Act}{G:Env->J->ey->Prop}{N:Array Bool}{fuel:Nat}(d:ops[i]? =some o)(A:calm P o=false)(e:Ag n a E)(I:∀p∈H,p.2 w)(h:vl P ops i E w H G)(next:∀y L q F,Ag n y L->(∀p∈F,p.2 q)->G L q F->eo P ops (g7 n K) fuel F (N.setIfInBounds i true) y q):
  wpOp P ops (g7 n K) i (λy q=>(∀p∈c' ops i H,p.2 q)/\eo P ops (g7 n K) fuel (c' ops i H) (N.setIfInBounds i true) y q) a w:=by
 unfold vl at h;rw[d]at h;simp only at h;have M:∀p∈c' ops i H,p.2 w:=λp Q=>I p (fg.1 Q).1;cases j:o.guard with
 |none=>
  rw[j]at h;simp only at h;exact PD C d A e (by simp[da,j]) h next
 |some T=>
  obtain⟨S,want⟩:=T;rw[j]at h;simp only at h;cases B:jo ops S with
  |none=>rw[B]at h;exact h.elim
  |some O=>
   rw[B]at h;simp only at h;split at h
   .rename_i t x;have D:=q9 e B x;have k:k9 P ops true i o O want t E w H G:=by
     cases t
     .exact h
     .exact h
    unfold k9 at k;cases z:(t==want)with
    |true=>
     rw[z]at k;exact PD C d A (e.same x) (by simp[da,j,D];simpa using z) k next
    |false=>
     rw[z,A]at k;simp only[cond_false]at k;exact Ed d I (by simp[da,j,D];simpa using z) (next _ _ _ _ ((e.same x).put undef (gF C d)) M k)
   .rename_i U x;have D:=q' e B x;rw[A]at h;simp only[cond_false]at h;exact Ed d I (by simp[da,j,D]) (next _ _ _ _ (e.put undef (gF C d)) M h)
   .exact h.elim
def EK:∀(t:Tr) (e:Array Bool),hN P ops t true e=true->∃m,t.len=m+1
 |.nil,e,d=>by simp[hN]at d
 |.one i t,e,_=>⟨t.len,rfl⟩
 |.fork a b,e,d=>by unfold hN at d;simp only[bf]at d;exact EK a e d.2.2.1
def EJ:∀(t:Tr) (e:Array Bool),hN P ops t true e=true->t.iV≠[]
 |.nil,e,d=>by simp[hN]at d
 |.one i t,e,_=>by simp[Tr.iV]
 |.fork a b,e,d=>by unfold hN at d;simp only[bf]at d;have:=EJ a e d.2.2.1;simp[Tr.iV,this]
def wD(D:dR n ops=true):∀(t:Tr) (alt:Bool) (e:Array Bool) (E:Env) (w:J) (H:ey) (a:Act) (m:Nat),hN P ops t alt e=true->Ag n a E->(∀p∈H,p.2 w)->oh P ops K t E w H->
  (alt=false->t.len=m->eo P ops (g7 n K) m H e a w)/\
  (alt=true->t.len=m+1->∀i∈t.iV,wpOp P ops (g7 n K) i (λx k=>(∀p∈c' ops i H,p.2 k)/\eo P ops (g7 n K) m (c' ops i H) (e.setIfInBounds i true) x k) a w)
 |.nil,alt,e,E,w,H,a,m,d,z,C,h=>by
  unfold hN at d;rw[bf]at d;refine⟨λ_ j=>?_,λy=>?_⟩
  .subst j;exact λ_=>⟨by simpa using d.2,E,z,h⟩
  .subst y;simp at d
 |.one i t,alt,e,E,w,H,a,m,d,z,C,h=>by
  unfold hN at d;rw[bf]at d;obtain⟨d,W⟩:=d;cases G:ops[i]? with
  |none=>rw[G]at d;cases d
  |some o=>
   rw[G]at d;simp only at d;unfold oh at h;refine⟨λy j=>?_,λy j ab Z=>?_⟩
   .subst y j;exact Vz D G d z C h λx L k M N O Q=>(wD D t false _ L k M x _ W N O Q).1 rfl rfl
   .subst y;rw[cond_true]at d;obtain rfl:=bG.1 Z;have S:t.len=m:=by simpa[Tr.len]using j
    exact VA D G (by simpa using d) z C h λx L k M N O Q=>(wD D t false _ L k M x _ W N O Q).1 rfl S
 |.fork B I,alt,e,E,w,H,a,m,d,z,C,h=>by
  unfold hN at d;simp only[bf]at d;obtain⟨hr,U,T,hy⟩:=d;rw[ep]at U;unfold oh at h;have both:∀q,B.len=q+1->∀i∈(Tr.fork B I).iV,wpOp P ops (g7 n K) i (λx k=>(∀p∈c' ops i H,p.2 k)/\eo P ops (g7 n K) q (c' ops i H) (e.setIfInBounds i true) x k) a w:=λq F i A=>by
   rcases aX.1 A with A|A
   .exact (wD D B true e E w H a q T z C h.1).2 rfl F i A
   .exact (wD D I true e E w H a q hy z C h.2).2 rfl (U▸F) i A
  refine⟨λy j=>?_,λ_ j=>both m j⟩;subst y;obtain⟨q,F⟩:=EK B e T;have S:m=q+1:=by rw[<-j,<-F];rfl
  subst S;have V:eG .any ops e=(Tr.fork B I).iV:=by simpa using hr
  have aa:(Tr.fork B I).iV≠[]:=by have:=EJ B e T;simp[Tr.iV,this]
  exact λ_=>⟨λY=>absurd (V▸Y) aa,λi A=>both q F i (V▸A)⟩
def aaD{c:Code}{id:Nat}{a:Act}{E:Env}{w:J}{t:Tr}(y:P.follows .mixedOrders=true)(q:c=.region id ops true)(d:dR n ops=true)(x:hN P ops t false (g4 ops.size false)=true)(A:t.len=ops.size)(k:Ag n a E)(h:oh P ops K t E w.drew []):c.wpIn (FW n) 0 P (g7 n K) a w:=by subst q;have e:=(wD d t false _ E _ [] a _ x k (λp z=>(by cases z)) h).1 rfl A;have j:=zH _ [] _ _ _ (Down.zero _ _) e;refine wpIn_region_draw λt=>?_;refine q7 d (λ⟨_,_,h⟩=>h) _ _ _ ?_;simp only[Region.schedule,y,Bool.true_or,if_true];exact wpAny_sound ops.size t _ a _ j
def tc(P:aF)(n:Nat)(c:Code)(t:Tr):Bool:=match c with
 |.region _ ops d=>d&&(P.follows .mixedOrders&&(dR n ops&&(hN P ops t false (g4 ops.size false)&&bQ t.len ops.size)))
 |_=>false
def WP.tree{c:Code}{Q:Exit->Act->J->Prop}{E:Env}{w:J}(t:Tr)(K:Env->J->Prop)(d:tc P n c t=true)(h:oh P (Code.ops c) K t E w.drew [])(D:∀e k j,Ag n j e->K e k->Q .normal j k):WP P n c Q E w:=by
 unfold tc at d;split at d
 .rename_i id ops F;simp only[bf]at d;obtain⟨rfl,z,A,B,q⟩:=d;rw[ep]at q;exact λa C=>wpIn_mono (aaD z rfl A B q C h) λy j k x=>by
   cases y with
   |normal=>obtain⟨e,hA,hK⟩:=x;exact D e k j hA hK
   |_=>exact x.elim
 .cases d
end
section
variable {P:aF}
def lo(r:Loop)(st:LoopState)(d:Option Code):Obj:=.loop {r with state:=st,pending:=d}
structure Al(r:Loop)(m:Nat)(ps:Array Tmp)(assign body:Code)(E:Env):Prop where
 ps:r.params=ps
 assign:r.assign=assign
 body:r.body=body
 size:r.tmps.size=m
 get:∀t v,E.get? t=some v->r.tmps[t]? =some v
def o6:Env->List Nat->List ab->Env
 |d,p::e,v::h=>o6 ((p,v)::d) e h
 |d,_,_=>d
def NC{m l:Nat}:∀(ps:List Nat) (vs:List ab) (E:Env) (tmps:Array ab),tmps.size=m->(∀p∈ps,p<m)->(∀t v,E.get? t=some v->tmps[t]? =some v)->
  Ag ⟨m,[],some l⟩ {tmps:=(ps.zip vs).foldl (λt (p,v)=>t.setIfInBounds p v) tmps,defers:=[]} (o6 E ps vs)
 |[],vs,E,tmps,e,_,h=>⟨rfl,by simpa using e,by cases vs<;>simpa[o6]using h⟩
 |p::ps,[],E,tmps,e,_,h=>⟨rfl,by simpa using e,by simpa[o6]using h⟩
 |p::ps,v::vs,E,tmps,e,j,h=>by simp only[List.zip_cons_cons,List.foldl_cons,o6];refine NC ps vs _ _ (by simpa using e) (λw k=>j w (by simp[k])) ?_;have:=(Ag.put (n:=⟨m,[],some l⟩) (a:={tmps:=tmps,defers:=[]}) (E:=E) ⟨rfl,e,h⟩ (d:=some p) v (λt q=>by cases q;exact j p (by simp))).get;simpa[Env.put,Act.put]using this
def tU(P:aF)(l:Nat)(args:Array ab)(w:J)(K:Bool->J->Prop):Prop:=
 YieldAt Fence.wide 0 P l args w λd e=>∃b:Bool,d=ag (.bool b)/\K b e
def Aj(P:aF)(m l:Nat)(r:Loop)(body:Code)(Q:Exit->Act->J->Prop):Exit->Act->J->Prop:=
 Exit.then (λa₁ d₁=>d₁.heap[l]? =some (lo r .ready none)/\fu P ⟨m,[],some l⟩ body Q a₁ (d₁.putObj l (lo r .busy none))) (λ_ _ _=>False)
def aaI{m l:Nat}{r:Loop}{ps:Array Tmp}{assign body:Code}{E:Env}{args:List ab}{w:J}{R:cr->J->Prop}{K:Bool->J->Prop}(d:Al r m ps assign body E)(A:w.heap[l]? =some (lo r .ready none))(F:args.length=ps.size)(B:ps.toList.all (λp=>Nat.blt p m)=true)(y:∀e j,R e j->∃b:Bool,e=ag (.bool b)/\K b j)(h:WP P ⟨m,[],some l⟩ assign (Aj P m l r body (roundPost P l R)) (o6 E ps.toList args) w):tU P l args.toArray w K:=by
 have D:=run_yield (P:=P) (w:=w) (args:=args.toArray) A (by simp[d.ps,F]);refine⟨_,_,_,_,D,RoundIn.mono (roundIn_of_wpIn (R:=R) trivial ?_) y⟩;simp only[lo,d.ps,d.assign,d.body];have z:Ag ⟨m,[],some l⟩ {tmps:=(ps.zip args.toArray).foldl (λt (p,v)=>t.setIfInBounds p v) r.tmps,defers:=[]} (o6 E ps.toList args):=by have:=NC (m:=m) (l:=l) ps.toList args E r.tmps d.size (λp C=>by simpa using fi.1 B p C) d.get;rw[<-Array.foldl_toList];simpa using this
 refine wpIn_mono (h _ z) λe G j k=>?_;cases e with
 |normal=>
  obtain⟨q,x⟩:=k;exact⟨_,run_beginRound q rfl,x⟩
 |_=>exact k.elim
def YI{l:Nat}{r:Loop}{a:Act}{w:J}{R:cr->J->Prop}(d:w.heap[l]? =some (lo r .busy none))(h:R (ag (.bool true)) (w.putObj l (lo r .ready none))):roundPost P l R .normal a w:=
 ⟨_,_,run_endRound none d,h⟩
def YJ{l:Nat}{r:Loop}{a:Act}{w:J}{R:cr->J->Prop}(d:w.heap[l]? =some (lo r .busy none))(h:R (ag (.bool false)) (w.putObj l (lo r .done (some .ret)))):roundPost P l R .ret a w:=
 ⟨_,_,run_endRound (some .ret) d,h⟩
abbrev marked(m D:Nat):Cx:=⟨m,[{target:=.collected D,args:=#[]}],none⟩
def wY(d:J)(l:Nat)(o:LoopState->Option Code->Obj)(N:J->Prop)(X:Nat->J->Prop)(T:J->Prop):Prop:=
 (d.heap[l]? =some (o .ready none)/\N (d.putObj l (o .exhausted none)))\/
 (∃id,d.heap[l]? =some (o .done (some (.exit id)))/\X id (d.putObj l (o .exhausted (some (.exit id)))))\/
 (d.heap[l]? =some (o .done (some .ret))/\T (d.putObj l (o .exhausted (some .ret))))
def WP.range{m:Nat}{c:Code}{g:Operand}{ps:Array Tmp}{assign body:Code}{gf:Nat}{lb:Array ab}{Q:Exit->Act->J->Prop}{E:Env}{w:J}(N:J->Prop)(X:Nat->J->Prop)(T:J->Prop)(K:c=.rangeFunc g ps assign body)(S:E.val g=some (.func (.func gf) #[] lb))(L:gW P gf=true)(G:∀d,N d->∀a,Ag (marked m w.heap.size) a E->Q .normal a d)(I:∀id d,X id d->∀a,Ag (marked m w.heap.size) a E->Q (.exit id) a d)(H:∀d,T d->∀a,Ag (marked m w.heap.size) a E->Q .ret a d)(h:∀r:Loop,Al r m ps assign body E->ak P gf (#[.func (.yield (w.heap.size+1)) #[] #[]]++lb) ((w.alloc (.deferred (some []))).alloc (lo r .ready none)) λx z=>(∃v,x=ag v)/\wY z (w.heap.size+1) (lo r) N X T):
  WP P (cx m) c Q E w:=by
 subst K;intro a e;have q:Ag (marked m w.heap.size) {a with defers:=[{target:=.collected w.heap.size,args:=#[]}]++a.defers} E:=⟨by show _++a.defers=_;rw[e.defers];rfl,e.size,e.get⟩;have U:a.eval g=.func (.func gf) #[] lb:=e.val S;refine wpIn_rangeFunc (F:=FW (cx m)) (n:=0) λfn _=>?_;obtain⟨r,y⟩:∃r:Loop,r={state:=.ready,pending:=none,fn,tmps:=a.tmps,params:=ps,assign,body,defers:=w.heap.size}:=⟨_,rfl⟩;have V:Al r m ps assign body E:=by subst y;exact⟨rfl,rfl,rfl,e.size,e.get⟩
 have M:=h r V;have A:(Instr.enterLoop fn a.tmps ps assign body none).run P w=.ok (w.heap.size+1,[{target:=.collected w.heap.size,args:=#[]}]) ((w.alloc (.deferred (some []))).alloc (lo r .ready none)):=by rw[run_enterLoop_outer];subst y;rfl
 generalize W:(w.alloc (.deferred (some []))).alloc (lo r .ready none)=W1 at *;have B:(resolve a.eval (rangeCall g (w.heap.size+1)) 0).run P W1=.ok {target:=.fn (.func gf) lb,args:=#[.func (.yield (w.heap.size+1)) #[] #[]]} W1:=by simp only[resolve,U];simp[go_sem]
 have C:(invoke (.fn (.func gf) lb) #[.func (.yield (w.heap.size+1)) #[] #[]]).run P W1=.ok (.enter gf (#[.func (.yield (w.heap.size+1)) #[] #[]]++lb)) W1:=by simp[invoke,go_sem,uE L]
 have D:CallsIn (FW (cx m)) 0 P gf (#[.func (.yield (w.heap.size+1)) #[] #[]]++lb) W1 (rangePost (FW (cx m)) 0 P (w.heap.size+1) Q {a with defers:=[{target:=.collected w.heap.size,args:=#[]}]++a.defers}):=by
  refine GC (n:=cx m) (M.mono ?_);rintro x z ⟨⟨v,rfl⟩,O⟩;rcases O with⟨j,k⟩|⟨id,j,k⟩|⟨j,k⟩
  .exact ⟨_,_,run_endLoop (r:={r with state:=.ready,pending:=none}) j (by simp),G _ k _ q⟩
  .exact ⟨_,_,run_endLoop (r:={r with state:=.done,pending:=some (.exit id)}) j (by simp),wpIn_exit (I id _ k _ q)⟩
  .exact ⟨_,_,run_endLoop (r:={r with state:=.done,pending:=some .ret}) j (by simp),wpIn_ret (H _ k _ q)⟩
 exact⟨_,_,_,_,_,_,_,_,A,B,λ_ _=>trivial,C,λh=>(by cases h),D⟩
def DY(P:aF)(fn:Func)(E:Env)(w:J)(D:Nat)(R:aH):Prop:=
 w.heap[D]? =some (.deferred (some []))/\kG P fn E (w.putObj D (.deferred none)) λv=>R (ag v) (w.putObj D (.deferred none))
def Je{fn:Func}{tmps:Array ab}{R:cr->J->Prop}{w:J}{v:ab}(h:(results fn tmps).run P w=.ok v w)(d:R (ag v) w):LeavesInM Fence.wide 0 P fn tmps R [] .returning w:=by show LeavesIn _ _ _ _ _ _ _ _ _;simp only[LeavesIn];exact⟨v,h,d⟩
def YC{m:Nat}{fn:Func}{a:Act}{E:Env}{w:J}{R:aH}(d:Ag (cx m) a E)(h:kG P fn E w λv=>R (ag v) w):LeavesInM Fence.wide 0 P fn a.tmps R a.defers .returning w:=by obtain⟨v,e,j⟩:=DX d h;rw[d.defers];exact Je e j
def DZ{m D:Nat}{fn:Func}{a:Act}{E:Env}{w:J}{R:aH}(d:Ag (marked m D) a E)(h:DY P fn E w D R):LeavesInM Fence.wide 0 P fn a.tmps R a.defers .returning w:=by obtain⟨e,h⟩:=h;obtain⟨v,j,k⟩:=DX (n:=marked m D) d h;rw[d.defers];exact⟨by simp,.inl ⟨D,_,rfl,run_takeDeferred e,Je j k⟩⟩
def TW{f:cD}{fn:Func}{c:Code}{args:List ab}{w:J}{R:cr->J->Prop}(e:P.funcs[f]? =some fn)(d:fn.body=some c)(k:Nat.ble args.length fn.ntmps=true)(h:WP P (cx fn.ntmps) c (bodyPostM Fence.wide 0 P fn R) (jT 0 args) w):ak P f args.toArray w R:=by have x:=Nat.le_of_ble_eq_true k;refine callsIn_wide.1 (callsIn_of_wp_marks (n:=0) e d trivial (h _ ⟨rfl,by simp;omega,?_⟩));intro t v q;have:=(Bx args 0 t v q).2;have j:t<args.length:=(bO.1 this).1;rw[Array.getElem?_append_left (by simpa using j)];simpa using this
def Az(v:Option ab)(K:Nat->Prop):Prop:=match v with |some (.func (.yield l) e d)=>cE (bQ e.size 0&&bQ d.size 0) (K l)|_=>False
def R0{v:Option ab}{K:Nat->Prop}(h:Az v K):∃l,v=some (.func (.yield l) #[] #[])/\K l:=by
 unfold Az at h;split at h
 .rename_i l q e;obtain⟨d,w⟩:=dI h;simp only[bf,ep]at d;have j:q=#[]:=Array.eq_empty_of_size_eq_zero d.1;have k:e=#[]:=Array.eq_empty_of_size_eq_zero d.2;subst j k;exact⟨l,rfl,w⟩
 .exact h.elim
end
abbrev _root_.Go.Code.sn(c:Code):Code:=Code.snd c
abbrev _root_.Go.Code.fs(c:Code):Code:=Code.fst c
abbrev _root_.Go.Value.i(x:Int):ab:=.int .i64 x
abbrev _root_.Go.Value.u(x:Int):ab:=.int .u64 x
abbrev _root_.Go.Value.s0:ab:=.string (bJ #[])
abbrev nb(w:J):Addr:=⟨w.heap.size,0,none⟩
section
variable {P:aF} {n:Cx} {Q:Exit->Act->J->Prop} {E:Env} {w:J} {K:Env->J->Prop}
def n6(P:aF)(c:Code)(K:Env->J->Prop)(E:Env)(w:J):Prop:=gO P (Code.ops c) false K (List.range (Code.ops c).size) E w []
def Bj(P:aF)(c:Code)(l:List Nat)(K:Env->J->Prop)(E:Env)(w:J):Prop:=gO P (Code.ops c) true K l E w.drew []
def tgK(P:aF)(c:Code)(t:Tr)(K:Env->J->Prop)(E:Env)(w:J):Prop:=oh P (Code.ops c) K t E w.drew []
abbrev dH(P:aF)(c:Code)(K:Env->J->Prop)(E:Env)(w:J):Prop:=n6 P (Code.fst c) K E w
abbrev YZ(P:aF)(c:Code)(l:List Nat)(K:Env->J->Prop)(E:Env)(w:J):Prop:=Bj P (Code.fst c) l K E w
abbrev Zq(P:aF)(c:Code)(t:Tr)(K:Env->J->Prop)(E:Env)(w:J):Prop:=tgK P (Code.fst c) t K E w
def sD:Code->Bool
 |.seq _ _=>true
 |_=>false
def wa{c:Code}(h:sD c=true):c=.seq (Code.fst c) (Code.snd c):=by cases c<;>first |rfl|cases h
def oF{a b:Bool}(h:(a&&b)=true):a=true/\b=true:=by simpa using h
def rg(c:Code)(k:qP n c=true)(h:n6 P c K E w)(q:∀d j e,Ag n e d->K d j->Q .normal e j):WP P n c Q E w:=WP.pa K k h q
def dg(c:Code){l:List Nat}(k:yX P n c l=true)(h:Bj P c l K E w)(q:∀d j e,Ag n e d->K d j->Q .normal e j):WP P n c Q E w:=WP.draw l K k h q
def sr(c:Code)(h:dH P c K E w)(y:∀d e,K d e->WP P n (Code.snd c) Q d e)(j:(sD c&&qP n (Code.fst c))=true:=by kernel_rfl):WP P n c Q E w:=
 WP.seq (wa (oF j).1) (WP.pa K (oF j).2 h λd e k q x=>y d e x k q)
def sd(c:Code){l:List Nat}(j:(sD c&&yX P n (Code.fst c) l)=true)(h:YZ P c l K E w)(y:∀d e,K d e->WP P n (Code.snd c) Q d e):WP P n c Q E w:=
 WP.seq (wa (oF j).1) (WP.draw l K (oF j).2 h λd e k q x=>y d e x k q)
def st(c:Code){t:Tr}(j:(sD c&&tc P n (Code.fst c) t)=true)(h:Zq P c t K E w)(y:∀d e,K d e->WP P n (Code.snd c) Q d e):WP P n c Q E w:=
 WP.seq (wa (oF j).1) (WP.tree t K (oF j).2 h λd e k q x=>y d e x k q)
def sq(c:Code)(h:WP P n (Code.fst c) (Exit.then (fu P n (Code.snd c) Q) Q) E w)(d:sD c=true:=by kernel_rfl):WP P n c Q E w:=WP.seq (wa d) h
def bk(c:Code)(id:Nat)(d:c=.block id (Code.fst c))(h:WP P n (Code.fst c) (Exit.inBlock id Q) E w):WP P n c Q E w:=WP.block d h
def cn(c:Code){o:Operand}{A B:Prop}(h:gA (E.val o) A B)(d:A->WP P n (Code.fst c) Q E w)(e:B->WP P n (Code.snd c) Q E w)(j:c=.cond o (Code.fst c) (Code.snd c):=by kernel_rfl):WP P n c Q E w:=WP.gA j d e h
def sk(c:Code)(h:∀a,Ag n a E->Q .normal a w)(d:c=.skip:=by kernel_rfl):WP P n c Q E w:=WP.skip d h
def xt(c:Code)(id:Nat)(d:c=.exit id)(h:∀a,Ag n a E->Q (.exit id) a w):WP P n c Q E w:=WP.exit d h
def rt(c:Code)(h:∀a,Ag n a E->Q .ret a w)(d:c=.ret:=by kernel_rfl):WP P n c Q E w:=WP.ret d h
def lp(c:Code)(d:c=.loop (Code.fst c))(h:LP P n (Code.fst c) Q E w):WP P n c Q E w:=WP.loop d h
def nx{c:Code}{a:Act}(d:Ag n a E)(h:WP P n c Q E w):Exit.then (fu P n c Q) Q .normal a w:=h a d
end
open Go.RowKit
structure Fr(M:Nat->Prop)(w Y:J):Prop where
 os:Y.os=w.os
 tape:Y.tape=w.tape
 output:Y.output=w.output
 size:w.heap.size<=Y.heap.size
 cb:∀b,b<w.heap.size->¬M b->Y.heap[b]? =w.heap[b]?
def Fr.refl(M:Nat->Prop)(w:J):Fr M w w:=⟨rfl,rfl,rfl,bg _,λ_ _ _=>rfl⟩
def Fr.trans{M j:Nat->Prop}{a b c:J}(h:Fr M a b)(k:Fr j b c)(x:∀d,d<a.heap.size->j d->M d):Fr M a c:=
 ⟨k.os.trans h.os,k.tape.trans h.tape,k.output.trans h.output,a8 h.size k.size,
  λd e q=>(k.cb d (kP e h.size) (λw=>q (x d e w))).trans (h.cb d e q)⟩
def Fr.mono{M e:Nat->Prop}{a b:J}(h:Fr M a b)(q:∀d,d<a.heap.size->M d->e d):Fr e a b:=
 ⟨h.os,h.tape,h.output,h.size,λd j w=>h.cb d j (λk=>w (q d j k))⟩
def Fr.drew(M:Nat->Prop)(w:J):Fr M w w.drew:=⟨rfl,rfl,rfl,bg _,λ_ _ _=>rfl⟩
def Fr.alloc(M:Nat->Prop)(w:J)(o:Obj):Fr M w (w.alloc o):=⟨rfl,rfl,rfl,by simp,λe d _=>_root_.Go.heap_alloc_old w o e d⟩
def Fr.set{M:Nat->Prop}(w:J)(p:Addr)(v:ab)(h:M p.block):Fr M w (w.setCell p v):=
 ⟨rfl,rfl,rfl,by simp[World.setCell],λj _ e=>Below.heap_setCell w p v j (λd=>e (d▸h))⟩
def Fr.grown{M:Nat->Prop}{w Y:J}{r:Option Nat}(h:w.grownBy Y r)(j:∀b,r=some b->M b):Fr M w Y:=
 ⟨h.os,h.tape,h.output,h.size,λb e k=>h.block b e (λd=>k (j b d.symm))⟩
def Fr.setObj{M:Nat->Prop}(w:J)(r:Nat)(o:Obj)(h:M r):Fr M w {w with heap:=w.heap.setIfInBounds r o}:=
 ⟨rfl,rfl,rfl,by simp,λj _ e=>by have:r≠j:=λd=>e (d▸h);simp[Array.getElem?_setIfInBounds_ne this]⟩
def Fr.below{w Y:J}(h:Fr (λ_=>False) w Y):Below w.heap.size w Y:=⟨h.os,h.tape,h.output,h.size,λj e=>h.cb j e (λd=>d)⟩
def Fr.at{M:Nat->Prop}{w Y:J}(h:Fr M w Y){b:Nat}{o:Obj}(d:w.heap[b]? =some o)(e:¬M b):Y.heap[b]? =some o:=
 (h.cb b (Array.getElem?_eq_some_iff.1 d).1 e).trans d
def lt_of_heap{w:J}{b:Nat}{o:Obj}(d:w.heap[b]? =some o):b<w.heap.size:=(Array.getElem?_eq_some_iff.1 d).1
def jV(w:J)(o:Obj):(w.alloc o).heap[w.heap.size]? =some o:=_root_.Go.heap_alloc_new w o
def size_alloc(w:J)(o:Obj):(w.alloc o).heap.size=w.heap.size+1:=by simp
def cellAt{w:J}{p:Addr}{cs:Array ab}{T:aC}{f:Nat×Nat}{i:Nat}{v:ab}(h:w.heap[p.block]? =some (.cells cs T f))(e:p.spot=none)(U:cs[p.off+i]? =some v):
  w.cell? (p.add i)=some v:=by
 unfold Addr.add;split
 .rename_i d;subst d;simp[World.cell?,h,e];simpa using U
 .simp [World.cell?,h,U]
def frozenAt{w:J}{p:Addr}{cs:Array ab}{T:aC}{i:Nat}(h:w.heap[p.block]? =some (.cells cs T (0,0))):w.frozen? (p.add i)=false:=by unfold Addr.add;split<;>simp[World.frozen?,h]
def setAt{w:J}{p:Addr}{cs:Array ab}{T:aC}{f:Nat×Nat}{i:Nat}{v:ab}(h:w.heap[p.block]? =some (.cells cs T f))(j:p.spot=none):
  (w.setCell (p.add i) v).heap[p.block]? =some (.cells (cs.setIfInBounds (p.off+i) v) T f):=by
 have d:(p.add i).block=p.block:=by unfold Addr.add;split<;>rfl
 have k:(p.add i).spot=none:=by unfold Addr.add;split<;>simp[j]
 have e:(p.add i).off=p.off+i:=by unfold Addr.add;split<;>simp_all
 simp[World.setCell,d,h,k,e,Array.getElem?_modify]
def iz(p:Addr)(i:Nat):(p.add i).block=p.block:=by unfold Addr.add;split<;>rfl
def aw(s:Sl):List Nat:=match s.a with |some p=>[p.block]|none=>[]
def Row(w:J)(T:aC)(s:Sl)(vs:List ab):Prop:=
 (s.a=none/\s.n=0/\s.c=0/\vs=[])\/∃b o d f,s.a=some ⟨b,o,none⟩/\w.heap[b]? =some (.cells d T f)/\∀i v,vs[i]? =some v->d[o+i]? =some v
def Row.lt{w:J}{T:aC}{s:Sl}{vs:List ab}(h:Row w T s vs):∀b∈aw s,b<w.heap.size:=by
 rcases h with⟨d,_⟩|⟨b,o,j,f,d,e,k⟩
 .simp [aw,d]
 .simp [aw,d];exact lt_of_heap e
def Row.cell{w:J}{T:aC}{s:Sl}{vs:List ab}{i:Nat}{v:ab}(h:Row w T s vs)(U:vs[i]? =some v):∃p,s.a=some p/\w.cell? (p.add i)=some v:=by
 rcases h with⟨_,_,_,rfl⟩|⟨b,o,k,f,d,e,j⟩
 .cases U
 .exact ⟨_,d,cellAt (p:=⟨b,o,none⟩) e rfl (j i v U)⟩
def aK(w:J)(e:aC)(sz:Nat)(s:Sl)(xs:List ab):Prop:=w.ownsRow 0 e sz s.v s.n xs
def aK.nil(w:J)(e:aC)(sz:Nat):aK w e sz ⟨none,0,0⟩ []:=World.ownsRow_nil w 0 e sz
def aK.len{w:J}{e:aC}{sz:Nat}{s:Sl}{xs:List ab}(h:aK w e sz s xs):xs.length=s.n *sz:=h.1
def aK.cases{w:J}{e:aC}{sz:Nat}{s:Sl}{xs:List ab}(h:aK w e sz s xs):
  (s=⟨none,0,0⟩/\xs=[])\/∃g cur,s.a=some ⟨g,0,none⟩/\w.heap[g]? =some (.cells cur e (0,0))/\s.n<=s.c/\s.c<=maxLen/\cur.size=s.c *sz/\cur.toList.take (s.n *sz)=xs:=by
 obtain⟨a,n,c⟩:=s;obtain⟨z,h⟩:=h;rcases h with⟨d,j⟩|⟨g,cap,cur,d,_,j,k,q,x,y⟩
 .cases d;exact .inl ⟨rfl,qN (by simpa using z)⟩
 .cases d;exact .inr ⟨g,cur,rfl,j,k,q,x,y⟩
def aK.row{w:J}{e:aC}{sz:Nat}{s:Sl}{xs:List ab}(h:aK w e sz s xs):Row w e s xs:=by
 rcases h.cases with⟨rfl,rfl⟩|⟨g,cur,j,k,_,_,_,q⟩
 .exact .inl ⟨rfl,rfl,rfl,rfl⟩
 .refine .inr ⟨g,0,cur,(0,0),j,k,λi v d=>?_⟩;rw[<-q,jw]at d;split at d
  .simpa using d
  .cases d
def aK.cb{w Y:J}{e:aC}{sz:Nat}{s:Sl}{xs:List ab}(h:aK w e sz s xs)(x:∀b∈aw s,b<w.heap.size->Y.heap[b]? =w.heap[b]?):aK Y e sz s xs:=by
 obtain⟨y,h⟩:=h;refine⟨y,?_⟩;rcases h with h|⟨g,cap,cur,d,k,j,r⟩
 .exact .inl h
 .have q:s.a=some ⟨g,0,none⟩:=(Value.slice.inj d).1;exact .inr ⟨g,cap,cur,d,k,(x g (by simp[aw,q]) (lt_of_heap j)).trans j,r⟩
def aK.fr{M:Nat->Prop}{w Y:J}{e:aC}{sz:Nat}{s:Sl}{xs:List ab}(h:aK w e sz s xs)(j:Fr M w Y)(q:∀b∈aw s,¬M b):aK Y e sz s xs:=
 h.cb λb d k=>j.cb b k (q b d)
def aK.lt{w:J}{e:aC}{sz:Nat}{s:Sl}{xs:List ab}(h:aK w e sz s xs):∀b∈aw s,b<w.heap.size:=h.row.lt
def aK.made(w:J)(e:aC)(sz n:Nat)(cs:List ab)(d:cs.length=n *sz)(h:n<=maxLen):aK (w.alloc (.cells cs.toArray e)) e sz ⟨some ⟨w.heap.size,0,none⟩,n,n⟩ cs:=
 ⟨d,.inr ⟨w.heap.size,n,cs.toArray,rfl,dn _,jV w _,bg _,h,by simpa using d,by rw[<-d];simp⟩⟩
def Row.made(w:J)(e:aC)(n c:Nat)(cs:List ab):Row (w.alloc (.cells cs.toArray e)) e ⟨some ⟨w.heap.size,0,none⟩,n,c⟩ cs:=
 .inr ⟨w.heap.size,0,cs.toArray,(0,0),rfl,jV w _,λi v d=>by simpa using d⟩
def Nh(s:Sl):s.v.ownBlock=s.a.map (·.block):=by obtain⟨a,n,c⟩:=s;cases a<;>rfl
structure gU(P:aF)(t e:aC)(z:ab)(sz bytes:Nat):Prop where
 ht:P.underlying t=some (.slice e)
 U:(P.info? e).map (λi=>(i.zero,i.size,i.bytes))=some (some z,sz,bytes)
 hz:z.cells.size=sz
 hs:0<sz
 hb:0<bytes
def Row.tL{w:J}{T:aC}{s:Sl}{vs:List ab}(h:Row w T s vs):∀b∈aw s,∃d f,w.heap[b]? =some (.cells d T f):=by
 rcases h with⟨e,_⟩|⟨b,o,d,f,e,k,y⟩
 .simp [aw,e]
 .intro j q;have x:j=b:=by simpa[aw,e]using q
  subst x;exact⟨d,f,k⟩
def rD(kd:hr)(es:Array MapEntry)(ms:List (Int×ab)):Prop:=es.toList.map (λd=>(d.key,d.val))=ms.map λp=>(Value.int kd p.1,p.2)
def kA(ms:List (Int×ab))(k:Int):Option ab:=(ms.find? λp=>p.1==k).map (·.2)
def BI{kd:hr}{k:Int}:∀{es:List MapEntry} {ms:List (Int×ab)} {i:Nat},es.map (λj=>(j.key,j.val))=ms.map (λp=>(Value.int kd p.1,p.2))->
  Instr.findNow (.int kd) (.int kd k) es i=some ((ms.findIdx? λp=>p.1==k).bind λh=>(ms[h]?).map λp=>(i+h,p.2))
 |[],[],i,_=>rfl
 |[],_::_,_,d=>by simp at d
 |_::_,[],_,d=>by simp at d
 |j::es,p::ms,i,d=>by
  simp only[List.map_cons,List.cons.injEq,Prod.mk.injEq]at d;obtain⟨⟨x,y⟩,z⟩:=d;have A:=BI (kd:=kd) (k:=k) (i:=i+1) z;unfold Instr.findNow;simp only[x,Instr.sameNow,if_true];by_cases e:p.1=k
  .have q:(k==p.1)=true:=by simp[e]
   have w:(p.1==k)=true:=by simp[e]
   simp[q,List.findIdx?_cons,w,y]
  .have q:(k==p.1)=false:=by simp;exact λd=>e d.symm
   have w:(p.1==k)=false:=by simpa using e
   simp only[q,A,List.findIdx?_cons,w,Bool.false_eq_true,if_false];congr 1;cases B:ms.findIdx? (λp=>p.1==k)with
   |none=>simp
   |some h=>simp[Nat.add_assoc,Nat.add_comm 1 h]
def JE{ms:List (Int×ab)}{k:Int}{i:Nat}:(((ms.findIdx? λp=>p.1==k).bind λe=>(ms[e]?).map λp=>(i+e,p.2)).map (·.2))=kA ms k:=by
 unfold kA;induction ms generalizing i with
 |nil=>rfl
 |cons p ms j=>
  by_cases h:p.1=k
  .have d:(p.1==k)=true:=by simp[h]
   simp[List.findIdx?_cons,d]
  .have d:(p.1==k)=false:=by simpa using h
   simp only[List.findIdx?_cons,d,Bool.false_eq_true,if_false,List.find?_cons];rw[<-j (i:=i+1)];cases q:ms.findIdx? (λp=>p.1==k)with
   |none=>simp
   |some e=>simp[Function.comp_def]
structure Af(P:aF)(T kt et:aC)(kd:hr)(z:ab):Prop where
 hT:P.underlying T=some (.map kt et)
 hk:P.underlying kt=some (.int kd)
 hz:(P.info? et).map (·.zero)=some (some z)
def GH{P:aF}{d:aC}{kd:hr}(e:P.underlying d=some (.int kd))(b:Bool)(k:Int)(w:J):(Instr.checkKey b 10000 d (.int kd k)).run P w=.ok () w:=by unfold Instr.checkKey;simp[run_underlying e]
def Rc{P:aF}{d:aC}{z:ab}(h:(P.info? d).map (·.zero)=some (some z))(w:J):(zeroValue d).run P w=.ok z w:=by obtain⟨i,e,j⟩:=Option.map_eq_some_iff.1 h;simp[zeroValue,typeInfo,e,j]
def WN{P:aF}{T H B:aC}{kd:hr}{z:ab}(q:Af P T H B kd z){w:J}{d:Nat}{es:Array MapEntry}{clock:Nat}{ms:List (Int×ab)}(h:w.heap[d]? =some (.map es clock))(j:rD kd es ms)(k:Int)(v:ab)(F:kA ms k=none):
  ∃e x,(Instr.mapUpdate T (.map (some d)) (.int kd k) v).run P w=.ok () e/\e.heap[d]? =some (.map x (clock+1))/\rD kd x (ms++[(k,v)])/\Fr (λb=>b=d) w e/\e.heap.size=w.heap.size:=by
 have C:=BI (k:=k) (i:=0) j;have D:(getObj d).run P w=.ok (.map es clock) w:=by simp[getObj,Sem.run,h]
 have y:=JE (ms:=ms) (k:=k) (i:=0);have E:=lt_of_heap h;have G:((ms.findIdx? λp=>p.1==k).bind λA=>(ms[A]?).map λp=>(0+A,p.2))=none:=by rw[F]at y;simpa using y
 refine⟨{w with heap:=w.heap.setIfInBounds d (.map (es.push {key:=.int kd k,val:=v,born:=clock}) (clock+1))},es.push {key:=.int kd k,val:=v,born:=clock},?_,by simp[E],?_,Fr.setObj w d _ rfl,by simp⟩
 .unfold Instr.mapUpdate Instr.findKey;simp only[Sem.run_bind,run_underlying q.hT,Result.andThen_ok,D,GH q.hk,run_underlying q.hk,C,G];simp[setObj,Sem.run,h]
 .unfold rD at j ⊢;simp[j]
abbrev ah(w Y:J):Prop:=Fr (λ_=>False) w Y
abbrev ae(b:Nat):Addr:=⟨b,0,none⟩
def bC(b:UInt8):ab:=.int .u8 (b.toNat:Int)
def a'(n:Int):ab:=.int .i64 n
def xi(V:List UInt8):∀u∈V.map bC,u.oneCell'=true:=by intro u d;obtain⟨b,_,rfl⟩:=ch.1 d;rfl
def qu(l:List Int):∀u∈l.map a',u.oneCell'=true:=by intro u d;obtain⟨b,_,rfl⟩:=ch.1 d;rfl
def Fr.dD{M:Nat->Prop}{a b c:J}(h:Fr M a b)(k:ah b c):Fr M a c:=h.trans k λ_ _ h=>h.elim
def Fr.nZ{M:Nat->Prop}{a b:J}(h:ah a b):Fr M a b:=h.mono λ_ _ h=>h.elim
def Fr.trn{M:Nat->Prop}{a b c:J}(h:ah a b)(k:Fr M b c)(j:∀d,M d->a.heap.size<=d):ah a c:=h.trans k λd q e=>by have:=j d e;omega
def nE{w:J}{p:Addr}{v:ab}(d:w.cell? p=some v):p.block<w.heap.size:=by
 unfold World.cell? at d;cases e:w.heap[p.block]? with
 |none=>rw[e]at d;simp at d
 |some o=>exact(Array.getElem?_eq_some_iff.1 e).1
def GG{M:Nat->Prop}{w Y:J}(h:Fr M w Y){p:Addr}{v:ab}(d:w.cell? p=some v)(e:¬M p.block):Y.cell? p=some v:=by have:=h.cb p.block (nE d) e;unfold World.cell? at d ⊢;rw[this];exact d
def add_add(p:Addr)(i j:Nat):(p.add i).add j=p.add (i+j):=by unfold Addr.add;by_cases d:i=0<;>by_cases e:j=0<;>simp[d,e,Nat.add_assoc]
def iS(p:Addr):p.add 0=p:=by simp[Addr.add]
def eV(w:J)(s:Sl)(vs:List ab):Prop:=(s.a=none->s.n=0/\s.c=0)/\∀i v,vs[i]? =some v->∃p,s.a=some p/\w.cell? (p.add i)=some v
def eV.nil(w:J):eV w ⟨none,0,0⟩ []:=⟨λ_=>⟨rfl,rfl⟩,λi v d=>by simp at d⟩
def Row.r1{w:J}{T:aC}{s:Sl}{vs:List ab}(h:Row w T s vs):eV w s vs:=by
 refine⟨λk=>?_,λi v q=>h.cell q⟩;rcases h with⟨_,e,j,_⟩|⟨b,o,x,f,d,_⟩
 .exact ⟨e,j⟩
 .rw [k]at d;cases d
def eV.fr{M:Nat->Prop}{w Y:J}{s:Sl}{vs:List ab}(h:eV w s vs)(j:Fr M w Y)(q:∀b∈aw s,¬M b):eV Y s vs:=
 ⟨h.1,λi v k=>by obtain⟨p,d,e⟩:=h.2 i v k;exact⟨p,d,GG j e (by rw[iz];exact q _ (by simp[aw,d]))⟩⟩
def eV.get{w:J}{s:Sl}{vs:List ab}(h:eV w s vs){i j:Nat}{v:ab}(U:vs[i]? =some v)(d:j=i *1){K:Addr->Prop}(q:∀p,s.a=some p->w.cell? (p.add j)=some v->K p):W.dM s.a K:=by obtain⟨p,e,k⟩:=h.2 i v U;rw[e];rw[Nat.mul_one]at d;subst d;exact q p e k
def sub(s:Sl)(l h:Nat):Sl:=⟨if s.c=l then s.a else s.a.map (·.add (l *1)),h - l,s.c - l⟩
def ZP(s:Sl)(l h:Nat):aw (sub s l h)=aw s:=by
 unfold aw sub;cases s.a with
 |none=>simp
 |some p=>
  simp only[Option.map_some];split
  .rename_i e d;split at d
   .cases d;rfl
   .cases d;rw[iz]
  .rename_i d;split at d<;>cases d
def eV.sub{w:J}{s:Sl}{vs:List ab}(h:eV w s vs)(l U:Nat)(y:vs.length<=s.n)(z:s.n<=s.c)(B:l<=U)(A:U<=s.c):eV w (sub s l U) ((vs.take U).drop l):=by
 refine⟨λd=>?_,λi v e=>?_⟩
 .have:s.a=none:=by
   unfold W.sub at d;simp only at d;split at d
   .exact d
   .simpa using d
  obtain⟨q,x⟩:=h.1 this;unfold W.sub;simp only;omega
 .rw [List.getElem?_drop,jw]at e;split at e
  .rename_i C;obtain⟨p,k,j⟩:=h.2 _ _ e;have hlen:=(bO.1 e).1;unfold W.sub;simp only[k];rw[af (by omega)];exact⟨_,rfl,by rw[add_add,Nat.mul_one];exact j⟩
  .cases e
def xc{P:aF}{t ty e:aC}{z:ab}{sz bytes:Nat}(j:gU P t e z sz bytes){w:J}{s src:Sl}{xs news:List ab}(B:aK w e sz s xs)(hr:eV w src news)(y:news.length=src.n *sz)(h:∀u∈news,u.oneCell'=true)(x:(s.n+src.n) *bytes<=140737488355328):
  ∃d D,(dW #[t,t] ty #[s.v,src.v]).run P w=.ok d.v D/\aK D e sz d (xs++news)/\d.n=s.n+src.n/\Fr (λb=>b∈aw s) w D/\
   (∀b∈aw d,b∈aw s\/w.heap.size<=b)/\(d.a=none->s.a=none/\src.n=0):=by
 obtain⟨i,G,W,M,Q⟩:=info_parts j.U;have aa:s.n+src.n<=140737488355328:=by have:=Nat.le_mul_of_pos_right (s.n+src.n) j.hb;omega
 obtain⟨sa,C,N⟩:=src;cases sa with
 |none=>
  obtain⟨q,I⟩:=hr.1 rfl;simp only at q I;subst q I;have S:news=[]:=qN (by simpa using y);subst S;have:=run_append_owned_none (P:=P) (w:=w) 0 t ty e i sz j.ht G s.v s.n xs B;exact⟨s,w,this,by simpa using B,by simp,Fr.refl _ _,λb x=>.inl x,λF=>⟨F,rfl⟩⟩
 |some H=>
  simp only at y x aa;have K:∀A u,news[A]? =some u->w.cell? (H.add A)=some u:=λA u hj=>by obtain⟨p,hp,hc⟩:=hr.2 A u hj;cases hp;exact hc
  obtain⟨v',D,L,af,aj,S⟩:=run_append_own (P:=P) w 0 t ty e i z sz bytes j.ht G W M Q j.hz j.hs s.v s.n xs B H C N news y K h (by unfold maxLen;omega) x (dn _);have hv:∃d:Sl,v'=d.v/\d.n=s.n+C/\(d.a=none->v'=.slice none 0 0):=by
   rcases af.2 with⟨h,Z⟩|⟨g,cap,cur,h,_⟩
   .exact ⟨⟨none,0,0⟩,h,by show 0=_;omega,λ_=>h⟩
   .exact ⟨⟨_,_,_⟩,h,rfl,λF=>by cases F⟩
  obtain⟨d,rfl,ae,al⟩:=hv;refine⟨d,D,L,?_,ae,?_,?_,?_⟩
  .unfold aK;rw[ae];exact af
  .refine Fr.grown aj λg k=>?_;rw[Nh]at k;cases V:s.a with
   |none=>simp[V]at k
   |some p=>simp[V]at k;simp[aw,V,k]
  .intro g k;rcases B.cases with⟨rfl,rfl⟩|⟨E,cur,ad,ai,ak,ar,ac,ao⟩
   .obtain ⟨v2,w2,an,am,_,_⟩:=run_append_own (P:=P) w w.heap.size t ty e i z sz bytes j.ht G W M Q j.hz j.hs (.slice none 0 0) 0 [] (World.ownsRow_nil w _ e sz) H C N news y K h (by unfold maxLen;omega) (by simpa using x) (bg _);have q:(Result.ok d.v D:Result ab)=.ok v2 w2:=L.symm.trans an;have I:=(Result.ok.inj q).1;subst I;rcases am.2 with⟨h,_⟩|⟨g2,ap,aq,h,Z,_⟩
    .have:d.a=none:=(Value.slice.inj h).1;simp[aw,this]at k
    .have:d.a=some ⟨g2,0,none⟩:=(Value.slice.inj h).1;simp[aw,this]at k;exact .inr (k▸Z)
   .obtain ⟨au,O,Y⟩:=s;simp only at ad ak ac ao x aa;subst ad;by_cases ag:O+C<=Y
    .subst M;have ah:O *i.size+news.length<=cur.size:=by rw[y,ac,<-Nat.add_mul];exact nr _ ag
     have T:=run_append_room (P:=P) w t ty e i j.ht G E O Y cur ai H C N news y K h ag ah;have q:=L.symm.trans T;have:d.a=some ⟨E,0,none⟩:=(Value.slice.inj (Result.ok.inj q).1).1;simp[aw,this]at k ⊢;exact .inl k
    .subst M;have holds:∀A u,xs[A]? =some u->w.cell? ((⟨E,0,none⟩:Addr).add A)=some u:=World.ownsRow.cells (g:=E) B rfl;have T:=run_append_grow (P:=P) w t ty e i z j.ht G W ⟨E,0,none⟩ O Y xs B.len holds H C N news y K (by omega) (by omega) (growslice_fits (by omega) (by rw[Q];exact x));have q:=L.symm.trans T;have:d.a=some ⟨w.heap.size,0,none⟩:=(Value.slice.inj (Result.ok.inj q).1).1;simp[aw,this]at k;exact .inr (by omega)
  .intro F;have:=S.1 (al F);refine⟨?_,this.2⟩;exact(Value.slice.inj this.1).1
def aK.cap{w:J}{e:aC}{sz:Nat}{s:Sl}{xs:List ab}(h:aK w e sz s xs):s.n<=s.c:=by
 rcases h.cases with⟨rfl,_⟩|⟨g,cur,_,_,h,_⟩
 .exact bg _
 .exact h
def Rd(w:J)(s:Sl)(vs:List ab):Prop:=s.n=vs.length/\s.n<=s.c/\eV w s vs
def Ow(w:J)(e:aC)(s:Sl)(vs:List ab):Prop:=s.n=vs.length/\aK w e 1 s vs
def Ow.rd{w:J}{e:aC}{s:Sl}{vs:List ab}(h:Ow w e s vs):Rd w s vs:=⟨h.1,h.2.cap,h.2.row.r1⟩
def Rd.fr{M:Nat->Prop}{w Y:J}{s:Sl}{vs:List ab}(h:Rd w s vs)(d:Fr M w Y)(e:∀b∈aw s,¬M b):Rd Y s vs:=⟨h.1,h.2.1,h.2.2.fr d e⟩
def Ow.fr{M:Nat->Prop}{w Y:J}{e:aC}{s:Sl}{vs:List ab}(h:Ow w e s vs)(d:Fr M w Y)(j:∀b∈aw s,¬M b):Ow Y e s vs:=⟨h.1,h.2.fr d j⟩
def Rd.bw{w Y:J}{s:Sl}{vs:List ab}(h:Rd w s vs)(d:ah w Y):Rd Y s vs:=h.fr d λ_ _ h=>h
def Ow.bw{w Y:J}{e:aC}{s:Sl}{vs:List ab}(h:Ow w e s vs)(d:ah w Y):Ow Y e s vs:=h.fr d λ_ _ h=>h
def Rd.nil(w:J):Rd w ⟨none,0,0⟩ []:=⟨rfl,bg _,eV.nil w⟩
def Ow.nil(w:J)(e:aC):Ow w e ⟨none,0,0⟩ []:=⟨rfl,aK.nil w _ _⟩
def Ow.lt{w:J}{e:aC}{s:Sl}{vs:List ab}(h:Ow w e s vs):∀b∈aw s,b<w.heap.size:=h.2.lt
def Ow.made(w:J)(e:aC)(cs:List ab)(n:Nat)(d:n=cs.length)(h:n<=1000000):Ow (w.alloc (.cells cs.toArray e)) e ⟨some ⟨w.heap.size,0,none⟩,n,n⟩ cs:=
 ⟨d,aK.made w e 1 n cs (by omega) (by unfold maxLen;omega)⟩
def Rd.get{w:J}{s:Sl}{vs:List ab}(h:Rd w s vs){i j:Nat}{v:ab}(U:vs[i]? =some v)(d:j=i *1){K:Addr->Prop}(e:∀p,s.a=some p->w.cell? (p.add j)=some v->K p):W.dM s.a K:=h.2.2.get U d e
def Rd.sub{w:J}{s:Sl}{vs:List ab}(h:Rd w s vs)(l U:Nat)(d:l<=U)(k:U<=vs.length):Rd w (sub s l U) ((vs.take U).drop l):=by
 have e:=h.1;have j:=h.2.1;refine⟨?_,?_,h.2.2.sub l U (by omega) h.2.1 d (by omega)⟩
 .unfold W.sub;simp;omega
 .unfold W.sub;simp;omega
def FH{t ty e:aC}{z:ab}{bytes:Nat}{P:aF}(A:gU P t e z 1 bytes){w:J}{s src:Sl}{xs k:List ab}(q:Ow w e s xs)(h:Rd w src k)(G:∀u∈k,u.oneCell'=true)(H:(xs.length+k.length) *bytes<=140737488355328):
  ∃d j,(dW #[t,t] ty #[s.v,src.v]).run P w=.ok d.v j/\Ow j e d (xs++k)/\Fr (λb=>b∈aw s) w j/\(∀b∈aw d,b∈aw s\/w.heap.size<=b)/\(d.a=none->s.a=none/\k=[]):=by
 obtain⟨d,j,B,C,D,E,F,x⟩:=xc (ty:=ty) A q.2 h.2.2 (by rw[h.1];omega) G (by rw[q.1,h.1];exact H);refine⟨d,j,B,⟨?_,C⟩,E,F,λy=>⟨(x y).1,?_⟩⟩
 .rw [D,q.1,h.1];simp
 .have:=(x y).2;rw[h.1]at this;exact qN this
def BK{α:Type}(f:α->List ab)(sz:Nat)(e:∀a,(f a).length=sz):∀(cs:List α) (i j:Nat) (a:α),cs[i]? =some a->j<sz->(cs.flatMap f)[i *sz+j]? =(f a)[j]?
 |[],i,j,a,d,_=>by simp at d
 |c::cs,0,j,a,d,h=>by simp at d;subst d;rw[b',Nat.zero_mul,Nat.zero_add,List.getElem?_append_left (by rw[e];exact h)]
 |c::cs,i+1,j,a,d,h=>by rw[b',List.getElem?_append_right (by rw[e,Nat.succ_mul];omega),e,show(i+1) *sz+j - sz=i *sz+j by rw[Nat.succ_mul];omega];exact BK f sz e cs i j a (by simpa using d) h
def oO{α:Type}(f:α->List ab)(sz:Nat)(d:∀a,(f a).length=sz)(cs:List α):(cs.flatMap f).length=cs.length *sz:=by
 induction cs with
 |nil=>simp
 |cons c cs e=>rw[b',List.length_append,e,d,List.length_cons,Nat.succ_mul];omega
def eV.elem{α:Type}{f:α->List ab}{sz:Nat}(e:∀a,(f a).length=sz)(q:0<sz){w:J}{s:Sl}{cs:List α}(h:eV w s (cs.flatMap f)){i:Nat}{a:α}(U:cs[i]? =some a){K:Addr->Prop}(A:∀p,s.a=some p->(∀d v,(f a)[d]? =some v->w.cell? ((p.add (i *sz)).add d)=some v)->K p):W.dM s.a K:=by
 obtain⟨C,B⟩:∃v,(f a)[0]? =some v:=⟨_,a6 (by rw[e];exact q)⟩;obtain⟨p,j,_⟩:=h.2 (i *sz+0) C (by rw[BK f sz e cs i 0 a U q];exact B);rw[j];refine A p j λd v x=>?_;have z:d<sz:=by have:=(bO.1 x).1;rwa[e]at this
 obtain⟨D,k,y⟩:=h.2 (i *sz+d) v (by rw[BK f sz e cs i d a U z];exact x);rw[j]at k;cases k;rw[add_add];exact y
def tk{w:J}{b:Nat}{cs:Array ab}{T:aC}(h:w.heap[b]? =some (.cells cs T (0,0)))(i:Nat)(U:i<cs.size)(v:ab):
  (w.cell? ((ae b).add i)).isSome=true/\w.frozen? ((ae b).add i)=false/\(w.setCell ((ae b).add i) v).heap[b]? =some (.cells (cs.setIfInBounds i v) T (0,0))/\Fr (·=b) w (w.setCell ((ae b).add i) v):=by
 refine⟨?_,frozenAt (p:=ae b) h,?_,Fr.set _ _ _ (iz _ _)⟩
 .rw [cellAt (p:=ae b) (v:=cs[i]) h rfl (by simp[U])];rfl
 .have:=setAt (p:=ae b) (i:=i) (v:=v) h rfl;simpa using this
def Fr.put(w:J)(l:Nat)(o:Obj):Fr (·=l) w (w.putObj l o):=⟨rfl,rfl,rfl,by simp[World.putObj],λh _ e=>by have:l≠h:=λd=>e d.symm;simp[World.putObj,Array.getElem?_setIfInBounds_ne this]⟩
def X1{w:J}{l:Nat}{x:Obj}(h:w.heap[l]? =some x)(o:Obj):(w.putObj l o).heap[l]? =some o:=by have:=lt_of_heap h;simp[World.putObj,this]
def R4(x y:Nat)(e:x<18446744073709551616)(h:y<18446744073709551616):kY .u64 (x:Int) (y:Int)=((x&&& y:Nat):Int):=by
 unfold kY;have d:(eF (IntKind.bits .u64) (x:Int)&&& eF (IntKind.bits .u64) (y:Int)).toNat=x&&& y:=by show(eF 64 (x:Int)&&& eF 64 (y:Int)).toNat=_;rw[BitVec.toNat_and,BitVec.ofInt_natCast,BitVec.ofInt_natCast,BitVec.toNat_ofNat,BitVec.toNat_ofNat,Nat.mod_eq_of_lt e,Nat.mod_eq_of_lt h]
 rw[d];have:x&&& y<=x:=Nat.and_le_left;exact IntWalk.u64_in _ (by omega)
def R6(x y:Nat)(d:x<18446744073709551616)(e:y<18446744073709551616):p9 .u64 (x:Int) (y:Int)=((x|||y:Nat):Int):=by
 unfold p9;have h:(eF (IntKind.bits .u64) (x:Int)|||eF (IntKind.bits .u64) (y:Int)).toNat=x|||y:=by show(eF 64 (x:Int)|||eF 64 (y:Int)).toNat=_;rw[BitVec.toNat_or,BitVec.ofInt_natCast,BitVec.ofInt_natCast,BitVec.toNat_ofNat,BitVec.toNat_ofNat,Nat.mod_eq_of_lt d,Nat.mod_eq_of_lt e]
 rw[h];have:x|||y<2^64:=Nat.or_lt_two_pow d e
 exact IntWalk.u64_in _ (by omega)
def FP(x y:Nat)(d:x<18446744073709551616)(e:y<18446744073709551616):mF .u64 (x:Int) (y:Int)=((x^^^y:Nat):Int):=by
 unfold mF;have h:(eF (IntKind.bits .u64) (x:Int)^^^eF (IntKind.bits .u64) (y:Int)).toNat=x^^^y:=by show(eF 64 (x:Int)^^^eF 64 (y:Int)).toNat=_;rw[BitVec.toNat_xor,BitVec.ofInt_natCast,BitVec.ofInt_natCast,BitVec.toNat_ofNat,BitVec.toNat_ofNat,Nat.mod_eq_of_lt d,Nat.mod_eq_of_lt e]
 rw[h];have:x^^^y<2^64:=Nat.xor_lt_two_pow d e;exact IntWalk.u64_in _ (by omega)
def aaG(x:Nat)(h:x<18446744073709551616):x^^^18446744073709551615=18446744073709551615 - x:=by have d:=BitVec.toNat_not (x:=BitVec.ofNat 64 x);have e:(~~~ (BitVec.ofNat 64 x))=BitVec.ofNat 64 x^^^BitVec.allOnes 64:=(BitVec.xor_allOnes).symm;rw[e,BitVec.toNat_xor,BitVec.toNat_ofNat,Nat.mod_eq_of_lt h,BitVec.toNat_allOnes]at d;omega
def XE(n a i:Nat)(h:n<2^i):n|||(a *2^i)=n+a *2^i:=by rw[Nat.mul_comm a,Nat.or_comm,<-Nat.two_pow_add_eq_or_of_lt h,Nat.add_comm]
def Xv(x:Int):BitVec.toInt (eF 64 x)=ao .i64 x:=by rw[BitVec.toInt_ofInt,IntKind.wrap_i64,show((2^64:Nat))=18446744073709551616 from rfl];simp only[Int.bmod];split<;>omega
def Ra(b:BitVec 64):ao .i64 (b.toNat:Int)=b.toInt:=by rw[IntKind.wrap_i64,BitVec.toInt_eq_toNat_bmod,show((2^64:Nat))=18446744073709551616 from rfl];have:=b.isLt;simp only[Int.bmod];split<;>omega
def R9(x:Int)(h:-9223372036854775808<=x/\x<=9223372036854775807):mF .i64 x 0=x:=by unfold mF;show ao .i64 ((eF 64 x^^^eF 64 0).toNat:Int)=x;rw[show eF 64 0=0#64 from rfl,BitVec.xor_zero,Ra,Xv,IntWalk.i64_in _ h]
def R8(x:Int)(h:-9223372036854775808<=x/\x<=9223372036854775807):mF .i64 x (-1)=-x - 1:=by unfold mF;show ao .i64 ((eF 64 x^^^eF 64 (-1)).toNat:Int)=_;rw[show eF 64 (-1)=BitVec.allOnes 64 from rfl,BitVec.xor_allOnes,Ra,BitVec.toInt_not,BitVec.toNat_ofInt,show((2^64:Nat))=18446744073709551616 from rfl];simp only[Int.bmod];split<;>omega
def R5(c:UInt8):kY .u8 (c.toNat:Int) 127=((c.toNat%128:Nat):Int):=by
 have e:∀d:Fin 256,kY .u8 (d.val:Int) 127=((d.val%128:Nat):Int):=by decide+kernel
 exact e ⟨c.toNat,c.toNat_lt⟩
def R7(n:Nat)(h:n<256):p9 .u8 (n:Int) 128=((n%128+128:Nat):Int):=by
 have e:∀d:Fin 256,p9 .u8 (d.val:Int) 128=((d.val%128+128:Nat):Int):=by decide+kernel
 exact e ⟨n,h⟩
def EO(n:Nat):ao .u8 (n:Int)=((n%256:Nat):Int):=by rw[IntKind.wrap_u8];omega
def q4(n:Nat)(h:n<18446744073709551616):ao .u64 (n:Int)=(n:Int):=IntWalk.u64_in _ (by omega)
def xN(n m:Nat)(h:0<m):Int.fdiv (n:Int) (m:Int)=((n / m:Nat):Int):=by rw[Int.fdiv_eq_ediv_of_nonneg _ (by omega)];rfl
def bd(i:Nat)(h:i<9223372036854775807):ao .i64 ((i:Int)+1)=((i+1:Nat):Int):=by rw[IntWalk.i64_in _ (by omega)];omega
structure En where
 fp:List Nat
 P:J->Prop
 st:∀w Y,(∀b∈fp,b<w.heap.size->Y.heap[b]? =w.heap[b]?)->P w->P Y
 lt:∀w,P w->∀b∈fp,b<w.heap.size
 nd:fp.Nodup
def En.ob(b:Nat)(o:Obj):En:=⟨[b],λe=>e.heap[b]? =some o,λe k j d=>(j b (by simp) (lt_of_heap d)).trans d,λe d q h=>by simp at h;subst h;exact lt_of_heap d,by simp⟩
abbrev En.c(b:Nat)(vs:List ab)(T:aC):En:=.ob b (.cells vs.toArray T (0,0))
def En.row(e:aC)(sz:Nat)(s:Sl)(vs:List ab):En:=⟨aw s,λj=>aK j e sz s vs,λ_ _ h d=>d.cb h,λ_ d=>d.lt,by unfold aw;split<;>simp⟩
def En.rd(s:Sl)(vs:List ab):En:=⟨if vs=[]then[]else aw s,λq=>Rd q s vs,λq A w e=>by
  refine⟨e.1,e.2.1,e.2.2.1,λi v x=>?_⟩;obtain⟨p,h,d⟩:=e.2.2.2 i v x;have k:vs≠[]:=λy=>by subst y;simp at x
  rw[af k]at w;have:=w p.block (by simp[aw,h]) (by have:=nE d;rwa[iz]at this);refine⟨p,h,?_⟩;unfold World.cell? at d ⊢;rw[iz]at d ⊢;rw[this];exact d,λq e b j=>by
  split at j
  .cases j
  .rename_i k;have z:0<vs.length:=List.length_pos_iff.2 k;obtain⟨p,h,d⟩:=e.2.2.2 0 vs[0] (a6 z);simp[aw,h]at j;subst j;have:=nE d
   rwa[iz]at this,by split<;>(try simp);unfold aw;split<;>simp⟩
structure LH(M:Nat->Prop)(w0 w:J)(L D:List En):Prop where
 fr:Fr M w0 w
 own:∀e∈L,e.P w
 rd:∀e∈D,e.P w
 new:∀e∈L,∀b∈e.fp,w0.heap.size<=b\/M b
 nd:(L.flatMap (·.fp)).Nodup
 dj:∀e∈D,∀b∈e.fp,∀e'∈L,b∉e'.fp
def LH.start{M:Nat->Prop}{w:J}(D:List En)(h:∀d∈D,d.P w):LH M w w [] D:=⟨Fr.refl _ _,by simp,h,by simp,by simp,by simp⟩
def LH.tz{M:Nat->Prop}{w:J}(L D:List En)(j:∀d∈L,d.P w/\∀b∈d.fp,M b)(x:(L.flatMap (·.fp)).Nodup)(h:∀d∈D,d.P w/\∀b∈d.fp,∀k∈L,b∉k.fp):LH M w w L D:=
 ⟨Fr.refl _ _,λd e=>(j d e).1,λd e=>(h d e).1,λd e b q=>.inr ((j d e).2 b q),x,λd e=>(h d e).2⟩
def LH.bw{M:Nat->Prop}{w0 w Y:J}{L D:List En}(H:LH M w0 w L D)(f:ah w Y):LH M w0 Y L D:=
 ⟨H.fr.dD f,λd e=>d.st w Y (λb _ h=>f.cb b h id) (H.own d e),λd e=>d.st w Y (λb _ h=>f.cb b h id) (H.rd d e),H.new,H.nd,H.dj⟩
def LH.drew{M:Nat->Prop}{w0 w:J}{L D:List En}(H:LH M w0 w L D):LH M w0 w.drew L D:=H.bw (Fr.drew _ _)
def CS{α:Type}{f:α->List Nat}:∀{L:List α} {i:Nat} {e q:α},L[i]? =some e->(L.flatMap f).Nodup->(f q).Nodup->(∀h∈f q,h∈f e\/h∉L.flatMap f)->((L.set i q).flatMap f).Nodup
 |[],i,e,q,d,_,_,_=>by simp at d
 |a::L,0,e,q,d,j,y,w=>by
  simp at d;subst d;simp only[List.set_cons_zero,b',fD]at j ⊢;refine⟨y,j.2.1,λh k D x=>?_⟩;rintro rfl;rcases w h k with d|d
  .exact j.2.2 h d h x rfl
  .exact d (by simp only[b',aX];exact .inr x)
 |a::L,i+1,e,q,d,j,y,w=>by
  simp only[List.getElem?_cons_succ]at d;simp only[List.set_cons_succ,b',fD]at j ⊢;refine⟨j.1,CS d j.2.1 y (λh k=>(w h k).imp id λd C=>d (by simp only[b',aX];exact .inr C)),λh k D x=>?_⟩;rintro rfl;obtain⟨g,A,B⟩:=bA.1 x;rcases Dx A with A|rfl
  .exact j.2.2 h k h (bA.2 ⟨g,A,B⟩) rfl
  .rcases w h B with z|z
   .exact j.2.2 h k h (bA.2 ⟨e,aE d,z⟩) rfl
   .exact z (by simp only[b',aX];exact .inl k)
def LH.Dj{M:Nat->Prop}{w0 w:J}{L D:List En}(H:LH M w0 w L D):∀b∈L.flatMap (·.fp),b<w.heap.size:=λb d=>by obtain⟨e,h,d⟩:=bA.1 d;exact e.lt w (H.own e h) b d
def mL{L:List En}(q:(L.flatMap (·.fp)).Nodup):∀{i:Nat} {e:En},L[i]? =some e->∀{j:Nat} {g:En},L[j]? =some g->i≠j->∀b∈e.fp,b∉g.fp:=by
 induction L with
 |nil=>intro i e h;simp at h
 |cons a L z=>
  simp only[b',fD]at q;intro i e d j g k y b w x;cases i with
  |zero=>
   simp at d;subst d;cases j with
   |zero=>exact y rfl
   |succ j=>exact q.2.2 b w b (bA.2 ⟨g,aE (by simpa using k),x⟩) rfl
  |succ i=>
   cases j with
   |zero=>
    simp at k;subst k;exact q.2.2 b x b (bA.2 ⟨e,aE (by simpa using d),w⟩) rfl
   |succ j=>exact z q.2.1 (by simpa using d) (by simpa using k) (by omega) b w x
def LH.gu{M:Nat->Prop}{w0 w Y:J}{L D:List En}(H:LH M w0 w L D){e:En}(i:Nat)(q:En)(U:L[i]? =some e)(f:Fr (·∈e.fp) w Y)(I:q.P Y)(A:∀b∈q.fp,b∈e.fp\/w.heap.size<=b):LH M w0 Y (L.set i q) D:=by
 have x:=aE U;have K:Fr M w0 Y:=H.fr.trans f λy F N=>(H.new e x y N).resolve_left (by omega);refine⟨K,λg d=>?_,λg d=>?_,λg d b h=>?_,CS U H.nd q.nd λy F=>?_,λg d b h G B E=>?_⟩
 .obtain ⟨S,k⟩:=fQ.1 d;rw[yP]at k;split at k
  .split at k
   .cases k;exact I
   .cases k
  .rename_i O;refine g.st w Y (λb h C=>f.cb b C λz=>mL H.nd U k O b z h) (H.own g (aE k))
 .exact g.st w Y (λb h C=>f.cb b C λz=>H.dj g d b h e x z) (H.rd g d)
 .rcases Dx d with d|rfl
  .exact H.new g d b h
  .rcases A b h with j|j
   .exact H.new e x b j
   .exact .inl (a8 H.fr.size j)
 .rcases A y F with j|j
  .exact .inl j
  .exact .inr λQ=>by have:=H.Dj y Q;omega
 .rcases Dx B with B|rfl
  .exact H.dj g d b h G B E
  .rcases A b E with j|j
   .exact H.dj g d b h e x j
   .have:=g.lt w (H.rd g d) b h;omega
def LH.push{M:Nat->Prop}{w0 w Y:J}{L D:List En}(H:LH M w0 w L D)(e:En)(f:ah w Y)(C:e.P Y)(q:∀b∈e.fp,w.heap.size<=b):LH M w0 Y (L++[e]) D:=by
 have k:=H.bw f;refine⟨k.fr,λg d=>?_,k.rd,λg d b j=>?_,?_,λg d b j z h x=>?_⟩
 .rcases aX.1 d with d|d
  .exact k.own g d
  .simp at d;subst d;exact C
 .rcases aX.1 d with d|d
  .exact H.new g d b j
  .simp at d;subst d;exact .inl (a8 H.fr.size (q b j))
 .rw [cy,fD];refine⟨H.nd,by simpa using e.nd,λy E G F=>?_⟩;rintro rfl;have A:=H.Dj y E;have B:=q y (by simpa using F);omega
 .rcases aX.1 h with h|h
  .exact H.dj g d b j z h x
  .simp at h;subst h;have A:=g.lt w (H.rd g d) b j;have B:=q b x;omega
def LH.alloc{M:Nat->Prop}{w0 w:J}{L D:List En}(H:LH M w0 w L D)(o:Obj):LH M w0 (w.alloc o) (L++[.ob w.heap.size o]) D:=
 H.push _ (Fr.alloc _ _ _) (jV w o) (λb d=>by simp[En.ob]at d;omega)
def LH.gx{M:Nat->Prop}{w0 w Y:J}{L D:List En}(H:LH M w0 w L D)(e:En)(f:ah w Y)(z:e.P Y)(B:∀b∈e.fp,w.heap.size<=b\/(b<w0.heap.size/\¬M b)\/∃g∈D,b∈g.fp):LH M w0 Y L (D++[e]):=by
 have h:=H.bw f;refine⟨h.fr,h.own,λg d=>?_,h.new,h.nd,λg d b x j q k=>?_⟩
 .rcases aX.1 d with d|d
  .exact h.rd g d
  .simp at d;subst d;exact z
 .rcases aX.1 d with d|d
  .exact H.dj g d b x j q k
  .simp at d;subst d;rcases B b x with y|⟨y,C⟩|⟨F,E,A⟩
   .have:=j.lt w (H.own j q) b k;omega
   .exact (H.new j q b k).elim (λG=>by omega) C
   .exact H.dj F E b A j q k
def LH.forget{M:Nat->Prop}{w0 w:J}{L D:List En}(H:LH M w0 w L D)(j:List En)(h:∀d∈j,d∈D):LH M w0 w L j:=⟨H.fr,H.own,λd e=>H.rd d (h d e),H.new,H.nd,λd e=>H.dj d (h d e)⟩
def vw{α:Type}{a:α}:∀{l:List α} {i:Nat},a∈l.eraseIdx i->a∈l
 |[],_,d=>by simp at d
 |b::l,0,d=>by simp at d;simp[d]
 |b::l,i+1,d=>by
  simp at d;rcases d with d|d
  .simp [d]
  .exact dS _ (vw d)
def MY{α:Type}{f:α->List Nat}:∀{L:List α} {i:Nat},(L.flatMap f).Nodup->((L.eraseIdx i).flatMap f).Nodup
 |[],i,d=>by simp
 |a::L,0,d=>by simp only[b',fD]at d;exact d.2.1
 |a::L,i+1,d=>by simp only[List.eraseIdx_cons_succ,b',fD]at d ⊢;refine⟨d.1,MY d.2.1,λq h w k=>d.2.2 q h w ?_⟩;obtain⟨g,e,j⟩:=bA.1 k;exact bA.2 ⟨g,vw e,j⟩
def HU{α:Type}{f:α->List Nat}:∀{L:List α} {i:Nat} {e:α},L[i]? =some e->(L.flatMap f).Nodup->∀b∈f e,∀g∈L.eraseIdx i,b∉f g
 |[],i,e,d,_=>by simp at d
 |a::L,0,e,d,j=>by simp at d;subst d;simp only[b',fD]at j;intro b k g h q;exact j.2.2 b k b (bA.2 ⟨g,by simpa using h,q⟩) rfl
 |a::L,i+1,e,d,j=>by
  simp only[b',fD]at j;intro b k g h q;simp only[List.getElem?_cons_succ]at d;simp only[List.eraseIdx_cons_succ,av]at h;rcases h with rfl|h
  .exact j.2.2 b q b (bA.2 ⟨e,aE d,k⟩) rfl
  .exact HU d j.2.1 b k g h q
def LH.freeze{M:Nat->Prop}{w0 w:J}{L D:List En}(H:LH M w0 w L D){e:En}(i:Nat)(h:En)(U:L[i]? =some e)(x:h.P w)(y:∀b∈h.fp,b∈e.fp):LH M w0 w (L.eraseIdx i) (D++[h]):=by
 refine⟨H.fr,λg d=>H.own g (vw d),λg d=>?_,λg d=>H.new g (vw d),MY H.nd,λg d b k j q=>?_⟩
 .rcases aX.1 d with d|d
  .exact H.rd g d
  .simp at d;subst d;exact x
 .rcases aX.1 d with d|d
  .exact H.dj g d b k j (vw q)
  .simp at d;subst d;exact HU U H.nd b (y b k) j q
def LH.get{M:Nat->Prop}{w0 w:J}{L D:List En}(H:LH M w0 w L D)(i:Nat){e:En}(U:L[i]? =some e:=by rfl):e.P w:=H.own e (aE U)
def LH.getD{M:Nat->Prop}{w0 w:J}{L D:List En}(H:LH M w0 w L D)(i:Nat){e:En}(U:D[i]? =some e:=by rfl):e.P w:=H.rd e (aE U)
section
variable {M:Nat->Prop} {w0 w:J} {L D:List En}
def LH.ob(H:LH M w0 w L D)(i:Nat){b:Nat}{o:Obj}(U:L[i]? =some (.ob b o):=by rfl):w.heap[b]? =some o:=H.own _ (aE U)
def LH.ld(H:LH M w0 w L D)(i j:Nat){b:Nat}{vs:List ab}{T:aC}{v:ab}(U:L[i]? =some (.c b vs T):=by rfl)(d:vs[j]? =some v:=by rfl):w.cell? ((ae b).add j)=some v:=
 cellAt (p:=ae b) (H.ob i U) rfl (by simpa using d)
def LH.jZ(H:LH M w0 w L D)(i:Nat){b:Nat}{vs:List ab}{T:aC}{v:ab}(U:L[i]? =some (.c b vs T):=by rfl)(d:vs[0]? =some v:=by rfl):w.cell? (ae b)=some v:=by
 have:=H.ld i 0 U d
 rwa[iS]at this
def LH.set(H:LH M w0 w L D)(i j:Nat){b:Nat}{vs:List ab}{T:aC}{v:ab}(U:L[i]? =some (.c b vs T))(h:j<vs.length):
  (w.cell? ((ae b).add j)).isSome=true/\w.frozen? ((ae b).add j)=false/\LH M w0 (w.setCell ((ae b).add j) v) (L.set i (.c b (vs.set j v) T)) D:=by obtain⟨k,q,x,y⟩:=tk (H.ob i U) j (by simpa using h) v;exact⟨k,q,H.gu i (.c b (vs.set j v) T) U (y.mono λz _ d=>by simp[En.ob,d]) (by show _=_;rw[x];simp) (λb e=>.inl e)⟩
def LH.st(H:LH M w0 w L D)(i j:Nat){b:Nat}{vs:List ab}{T:aC}{v:ab}{K:J->Prop}(U:L[i]? =some (.c b vs T))(e:∀d,LH M w0 d (L.set i (.c b (vs.set j v) T)) D->K d)(h:j<vs.length:=by simp):aQ w ((ae b).add j) v K:=by obtain⟨k,q,x⟩:=H.set (v:=v) i j U h;exact⟨k,q,e _ x⟩
def LH.jC(H:LH M w0 w L D)(i:Nat){b:Nat}{vs:List ab}{T:aC}{v:ab}{K:J->Prop}(U:L[i]? =some (.c b vs T))(e:∀d,LH M w0 d (L.set i (.c b (vs.set 0 v) T)) D->K d)(h:0<vs.length:=by simp):aQ w (ae b) v K:=by
 have:=H.st (v:=v) (K:=K) i 0 U e h
 rwa[iS]at this
def LH.Eo(H:LH M w0 w L D)(i:Nat){b:Nat}{E j e:ab}{T:aC}{d h q:ab}{K:J->Prop}(U:L[i]? =some (.c b [E,j,e] T))(F:∀x,LH M w0 x (L.set i (.c b [d,h,q] T)) D->K x):aQ w (ae b) d λy=>aQ y ((ae b).add 1) h λz=>aQ z ((ae b).add 2) q K:=by have k:=(bO.1 U).1;exact H.jC i U (λy A=>A.st (vs:=[d,j,e]) (T:=T) i 1 (by simp[k]) (λz B=>B.st (vs:=[d,h,e]) (T:=T) i 2 (by simp[k]) (λG C=>F G (by simpa using C))))
def LH.jD(H:LH M w0 w L D)(i:Nat){b:Nat}{N x j e:ab}{T:aC}{d h q y:ab}{K:J->Prop}(U:L[i]? =some (.c b [N,x,j,e] T))(O:∀z,LH M w0 z (L.set i (.c b [d,h,q,y] T)) D->K z):aQ w (ae b) d λA=>aQ A ((ae b).add 1) h λB=>aQ B ((ae b).add 2) q λC=>aQ C ((ae b).add 3) y K:=by have k:=(bO.1 U).1;exact H.jC i U (λA E=>E.st (vs:=[d,x,j,e]) (T:=T) i 1 (by simp[k]) (λB F=>F.st (vs:=[d,h,j,e]) (T:=T) i 2 (by simp[k]) (λC G=>G.st (vs:=[d,h,q,e]) (T:=T) i 3 (by simp[k]) (λP I=>O P (by simpa using I)))))
def LH.Pq(H:LH M w0 w L D)(i:Nat){b:Nat}{S z x j e:ab}{T:aC}{d h q y A:ab}{K:J->Prop}(U:L[i]? =some (.c b [S,z,x,j,e] T))(V:∀B,LH M w0 B (L.set i (.c b [d,h,q,y,A] T)) D->K B):aQ w (ae b) d λC=>aQ C ((ae b).add 1) h λE=>aQ E ((ae b).add 2) q λF=>aQ F ((ae b).add 3) y λG=>aQ G ((ae b).add 4) A K:=by have k:=(bO.1 U).1;exact H.jC i U (λC I=>I.st (vs:=[d,z,x,j,e]) (T:=T) i 1 (by simp[k]) (λE N=>N.st (vs:=[d,h,x,j,e]) (T:=T) i 2 (by simp[k]) (λF O=>O.st (vs:=[d,h,q,j,e]) (T:=T) i 3 (by simp[k]) (λG P=>P.st (vs:=[d,h,q,y,e]) (T:=T) i 4 (by simp[k]) (λW Q=>V W (by simpa using Q))))))
def LH.Zp(H:LH M w0 w L D)(i:Nat){b:Nat}{a0 E B z x j e:ab}{T:aC}{d h q y A C F:ab}{K:J->Prop}(U:L[i]? =some (.c b [a0,E,B,z,x,j,e] T))(hK:∀G,LH M w0 G (L.set i (.c b [d,h,q,y,A,C,F] T)) D->K G):aQ w (ae b) d λI=>aQ I ((ae b).add 1) h λN=>aQ N ((ae b).add 2) q λO=>aQ O ((ae b).add 3) y λP=>aQ P ((ae b).add 4) A λQ=>aQ Q ((ae b).add 5) C λS=>aQ S ((ae b).add 6) F K:=by have k:=(bO.1 U).1;exact H.jC i U (λI V=>V.st (vs:=[d,E,B,z,x,j,e]) (T:=T) i 1 (by simp[k]) (λN W=>W.st (vs:=[d,h,B,z,x,j,e]) (T:=T) i 2 (by simp[k]) (λO Y=>Y.st (vs:=[d,h,q,z,x,j,e]) (T:=T) i 3 (by simp[k]) (λP Z=>Z.st (vs:=[d,h,q,y,x,j,e]) (T:=T) i 4 (by simp[k]) (λQ H5=>H5.st (vs:=[d,h,q,y,A,j,e]) (T:=T) i 5 (by simp[k]) (λS H6=>H6.st (vs:=[d,h,q,y,A,C,e]) (T:=T) i 6 (by simp[k]) (λw7 H7=>hK w7 (by simpa using H7))))))))
def LH.nw(H:LH M w0 w L D){cs:Array ab}{T:aC}{K:J->Prop}(e:∀d,d.heap.size=w.heap.size+1->LH M w0 d (L++[.c w.heap.size cs.toList T]) D->K d):cZ w (.cells cs T) K:=e _ (size_alloc _ _) (H.alloc _)
def LH.nY(H:LH M w0 w L D){o:Obj}{K:J->Prop}(e:∀d,d.heap.size=w.heap.size+1->LH M w0 d L D->d.heap[w.heap.size]? =some o->K d):cZ w o K:=e _ (size_alloc _ _) (H.bw (Fr.alloc _ _ _)) (jV w o)
def LH.dr(H:LH M w0 w L D){K:J->Prop}(e:∀d,LH M w0 d L D->K d):k4 w K:=e _ H.drew
def LH.pu(H:LH M w0 w L D)(i:Nat){b:Nat}{o d:Obj}{K:J->Prop}(U:L[i]? =some (.ob b o))(j:∀e,LH M w0 e (L.set i (.ob b d)) D->K e):ln w b o d K:=
 ⟨H.ob i U,j _ (H.gu i (.ob b d) U ((Fr.put w b d).mono λq _ h=>by simp[En.ob,h]) (X1 (H.ob i U) d) (λb k=>.inl k))⟩
def LH.ap(H:LH M w0 w L D)(i:Nat){P:aF}{t ty e:aC}{z:ab}{sz bytes:Nat}(j:gU P t e z sz bytes){s src:Sl}{xs news:List ab}{K:Sl->J->Prop}(U:L[i]? =some (.row e sz s xs))(I:eV w src news)(G:news.length=src.n *sz)(C:∀u∈news,u.oneCell'=true)(F:(s.n+src.n) *bytes<=140737488355328)(E:∀d h,LH M w0 h (L.set i (.row e sz d (xs++news))) D->d.n=s.n+src.n->(d.a=none->s.a=none/\src.n=0)->K d h):
  ∃d h,(dW #[t,t] ty #[s.v,src.v]).run P w=.ok d.v h/\K d h:=by obtain⟨d,h,k,q,x,y,A,B⟩:=xc (ty:=ty) j (H.get i U) I G C F;exact⟨d,h,k,E d h (H.gu i (.row e sz d (xs++news)) U y q A) x B⟩
def LH.uu(H:LH M w0 w L D)(i:Nat){P:aF}{t ty e:aC}{z:ab}{sz bytes:Nat}(k:gU P t e z sz bytes){T:aC}{s:Sl}{xs:List ab}{news:Array ab}{K:Sl->J->Prop}(U:L[i]? =some (.row e sz s xs))(A:∀d h,LH M w0 h (L.set i (.row e sz d (xs++news.toList))) D->d.n=s.n+1->d.a≠none->K d h)(B:(s.n+1) *bytes<=140737488355328)(C:news.size=sz:=by rfl)(y:∀u∈news.toList,u.oneCell'=true:=by simp[Value.oneCell']):
  cZ w (.cells news T) λG=>∃d h,(dW #[t,t] ty #[s.v,.slice (some (Addr.mk w.heap.size 0 none)) 1 1]).run P G=.ok d.v h/\K d h:=by have j:LH M w0 (w.alloc (.cells news T)) L D:=H.bw (Fr.alloc _ _ _);refine j.ap i k (src:=⟨some (ae w.heap.size),1,1⟩) (ty:=ty) (K:=K) (news:=news.toList) U ((Row.made w T 1 1 news.toList).r1) (by simpa using C) y B (λd h q E F=>A d h q E λx=>by have:=(F x).2;simp at this)
def LH.h7(H:LH M w0 w L D)(e:aC)(sz:Nat):LH M w0 w (L++[.row e sz ⟨none,0,0⟩ []]) D:=H.push _ (Fr.refl _ _) (aK.nil w e sz) (λb d=>by simp[En.row,aw]at d)
end
def aK.yE{w:J}{e:aC}{s:Sl}{vs:List ab}(h:aK w e 1 s vs):Ow w e s vs:=⟨by have:=h.len;omega,h⟩
def aK.i4{w:J}{e:aC}{s:Sl}{vs:List ab}(h:aK w e 1 s vs):Rd w s vs:=h.yE.rd
abbrev F0:Nat->Prop:=λ_=>False
def LH.take{M:Nat->Prop}{w0 w:J}{L D:List En}(H:LH M w0 w L D)(n:Nat):LH M w0 w (L.take n) D:=
 ⟨H.fr,λd e=>H.own d (m8 e),H.rd,λd e=>H.new d (m8 e),by
  have:=H.nd;rw[<-List.take_append_drop n L,cy,fD]at this;exact this.1,λd e b j h k=>H.dj d e b j h (m8 k)⟩
def aL{a b:Int}{A B:Prop}(e:a=b->A)(h:a≠b->B):bn (a==b) A B:=bD (λd=>e (by simpa using d)) (λd=>h (by simpa using d))
def dv{a b:Int}{A B:Prop}(e:a≠b->A)(h:a=b->B):bn (a !=b) A B:=bD (λd=>e (by simpa using d)) (λd=>h (by simpa using d))
def aG{p:Prop}[Decidable p]{A B:Prop}(e:p->A)(h:¬p->B):bn (decide p) A B:=bD (λd=>e (ew d)) (λd=>h (g5 d))
def dN{b:Bool}{A B:Prop}(e:b=false->A)(h:b=true->B):bn (!b) A B:=bD (λd=>e (by simpa using d)) (λd=>h (by simpa using d))
def LH.e6{M:Nat->Prop}{w0 w:J}{L D:List En}(H:LH M w0 w L D)(i j:Nat){b:Nat}{vs:List ab}{T:aC}{v:ab}(U:D[i]? =some (.c b vs T):=by rfl)(d:vs[j]? =some v:=by rfl):w.cell? ((ae b).add j)=some v:=
 cellAt (p:=ae b) (show w.heap[b]? =_ from H.rd _ (aE U)) rfl (by simpa using d)
def LH.TT{M:Nat->Prop}{w0 w Y:J}{L D:List En}(H:LH M w0 w L D)(i:Nat){b:Nat}{vs d:List ab}{T:aC}(f:Fr (·=b) w Y)(h:Y.heap[b]? =some (.cells d.toArray T (0,0)))(U:L[i]? =some (.c b vs T):=by rfl):LH M w0 Y (L.set i (.c b d T)) D:=
 H.gu i (.c b d T) U (f.mono λk _ e=>by simp[En.ob,e]) h (λb j=>.inl j)
def LH.cR{M:Nat->Prop}{w0 w:J}{L D:List En}(H:LH M w0 w L D){e:aC}{sz n:Nat}{cs:List ab}(k:cs.length=n *sz)(q:n<=maxLen){K:J->Prop}(h:∀d,LH M w0 d (L++[.row e sz ⟨some (ae w.heap.size),n,n⟩ cs]) D->K d):cZ w (.cells cs.toArray e) K:=
 h _ (H.push _ (Fr.alloc _ _ _) (aK.made w e sz n cs k q) (λb j=>by simp[En.row,aw]at j;omega))
def gq(P:aF)(o:Oper)(E:Env)(w:J)(K:Env->J->Prop):Prop:=
 bif calm P o then mI P o E w λv _=>K (E.put o.dst v) w else gY P o E w λv d=>K (E.put o.dst v) d
def uz(ops:Array Oper):Bool:=(List.range ops.size).all λi=>match ops[i]? with
 |some o=>o.guard.isNone&&o.after.toList.all λd=>!(Region.binds .any d)||Nat.blt d.on i
 |none=>true
abbrev cP(L:Nat->Bool)(i:Nat):Nat->Bool:=λd=>bQ d i||L d
section
variable {P:aF} {ops:Array Oper} {n:Cx} {K:Env->J->Prop}
def AB(h:uz ops=true){i:Nat}{o:Oper}(e:ops[i]? =some o):o.guard=none/\∀d∈o.after,Region.binds .any d=true->d.on<i:=by unfold uz at h;have q:i<ops.size:=(Array.getElem?_eq_some_iff.1 e).1;have:=fi.1 h i (List.mem_range.2 q);rw[e]at this;simp only[bf]at this;refine⟨by simpa using this.1,λd k j=>?_⟩;have:=fi.1 this.2 d (by simpa using k);rw[j]at this;simpa using this
def ZG{i:Nat}{o:Oper}{a:Act}{E:Env}{w:J}{Kh:Env->J->Prop}{K':Act->J->Prop}{Q:Exit->Act->J->Prop}(e:dR n ops=true)(d:ops[i]? =some o)(C:o.guard=none)(j:Ag n a E)(h:gq P o E w Kh)(next:∀y x q,Ag n y x->Kh x q->K' y q):wpOp P ops Q i K' a w:=by
 have A:=Region.noSelect_spec (ops:=ops) (by unfold dR at e;rw[bf]at e;exact e.1);have B:da o (yielded ops a.tmps)=true:=by simp[da,C]
 unfold gq at h;cases z:calm P o with
 |true=>
  rw[z]at h;simp only[cond_true]at h;obtain⟨v,I,D,F,G⟩:=xu (λk b=>A i o k b d) j h;unfold wpOp;simp only[d,B,if_true];refine .inl ?_;unfold Oper.wp;rw[G w F];exact next _ _ _ (j.put v (gF e d)) D
 |false=>
  rw[z]at h;simp only[cond_false]at h;exact wI d B (mM (λk b=>A i o k b d) j h) λv q H=>next _ _ _ (j.put v (gF e d)) H
def aay(hn:dR n ops=true)(M:uz ops=true)(z:(Nat->Bool)->Env->J->Prop)(step:∀k E w i o,ops[i]? =some o->k i=false->(∀q∈o.after,Region.binds .any q=true->k q.on=true)->z k E w->gq P o E w λI S=>z (cP k i) I S)(fin:∀k E w,(∀i,i<ops.size->k i=true)->z k E w->K E w):
  ∀(fuel:Nat) (d:Array Bool) (a:Act) (E:Env) (w:J),d.size=ops.size->Ag n a E->z (λe=>d.getD e false) E w->((List.range ops.size).filter λe=>!d.getD e false).length<=fuel->
   wpAny P .any ops (g7 n K) fuel d a w:=by
 have done:∀(d:Array Bool) (a:Act) (E:Env) (w:J),d.size=ops.size->Ag n a E->z (λe=>d.getD e false) E w->eG .any ops d=[]->g7 n K .normal a w:=by
  intro d a E w H y x O;refine⟨E,y,fin _ E w (λi=>?_) x⟩;induction i using Nat.strongRecOn with
  |_ i Q=>
   intro j;cases F:d.getD i false with
   |true=>rfl
   |false=>
    exfalso;have h:ops[i]? =some ops[i]:=Array.getElem?_eq_getElem j;have G:i∈eG .any ops d:=mem_ready.2 ⟨by
     have C:i<d.size:=by omega
     simp[C]at F ⊢;exact F,_,h,λq B V=>Q q.on ((AB M h).2 q B V) (Nat.lt_trans ((AB M h).2 q B V) j)⟩
    rw[O]at G;cases G
 intro fuel;induction fuel with
 |zero=>
  intro d a E w H y x W;have D:∀i,i<ops.size->d.getD i false=true:=λi j=>by
   cases F:d.getD i false with
   |true=>rfl
   |false=>
    have:i∈(List.range ops.size).filter λe=>!d.getD e false:=List.mem_filter.2 ⟨List.mem_range.2 j,by rw[F];rfl⟩;rw[List.length_eq_zero_iff.1 (Nat.le_zero.1 W)]at this;cases this
  refine⟨?_,E,y,fin _ E w D x⟩;cases O:eG .any ops d with
  |nil=>rfl
  |cons i l=>
   have G:i∈eG .any ops d:=by rw[O];simp
   obtain⟨A,o,h,_⟩:=mem_ready.1 G;have j:=(Array.getElem?_eq_some_iff.1 h).1;have L:=D i j;have C:i<d.size:=by omega
   simp[C]at A L;rw[A]at L;cases L
 |succ fuel Q=>
  intro d a E w H y x W;refine⟨done d a E w H y x,λi j=>?_⟩;obtain⟨A,o,h,D⟩:=mem_ready.1 j;have C:i<ops.size:=(Array.getElem?_eq_some_iff.1 h).1;have Y:i<d.size:=by omega
  have T:d.getD i false=false:=by simp[Y]at A ⊢;exact A
  refine ZG hn h (AB M h).1 y (step _ E w i o h T D x) λZ I S ab U=>?_;have B:(cP (λe=>d.getD e false) i)=λe=>(d.setIfInBounds i true).getD e false:=by
   funext e;by_cases N:i=e
   .subst N;simp[cP,Y]
   .have:bQ e i=false:=by rw[<-iN,ep];exact λaa=>N aa.symm
    rw[getD_set_ne false N];simp[cP,this]
  rw[B]at U;refine Q _ Z I S (by simpa using H) ab U ?_;have ac:((List.range ops.size).filter λe=>!(d.setIfInBounds i true).getD e false)=((List.range ops.size).filter λe=>!d.getD e false).filter λe=>!(bQ e i):=by rw[List.filter_filter];refine List.filter_congr λe _=>?_;rw[<-congrFun B e];simp only[cP,Bool.not_or]
  have ad:(((List.range ops.size).filter λe=>!d.getD e false).filter λe=>!(bQ e i)).length<((List.range ops.size).filter λe=>!d.getD e false).length:=by refine List.length_filter_lt_length_iff_exists.2 ⟨i,List.mem_filter.2 ⟨List.mem_range.2 C,by rw[T];rfl⟩,?_⟩;have:bQ i i=true:=Nat.beq_refl i;simp[this]
  rw[ac];omega
def aaA{c:Code}{id:Nat}{a:Act}{E:Env}{w:J}(e:(Nat->Bool)->Env->J->Prop)(F:P.follows .mixedOrders=true)(C:c=.region id ops true)(k:dR n ops=true)(B:uz ops=true)(A:Ag n a E)(y:e (λ_=>false) E w.drew)(step:∀d E w i o,ops[i]? =some o->d i=false->(∀j∈o.after,Region.binds .any j=true->d j.on=true)->e d E w->gq P o E w λq H=>e (cP d i) q H)(fin:∀d E w,(∀i,i<ops.size->d i=true)->e d E w->K E w):c.wpIn (FW n) 0 P (g7 n K) a w:=by
 subst C;have G:(λh=>(g4 ops.size false).getD h false)=λ_=>false:=by funext h;by_cases D:h<ops.size<;>simp[D]
 have z:=aay (K:=K) k B e step fin ops.size (g4 ops.size false) a E w.drew (by simp) A (by rw[G];exact y) (a8 (List.length_filter_le _ _) (by simp));refine wpIn_region_draw λt=>?_;refine q7 k (λ⟨_,_,x⟩=>x) _ _ _ ?_;simp only[Region.schedule,F,Bool.true_or,if_true];exact wpAny_sound ops.size t _ a _ z
def DO(P:aF)(n:Nat)(c:Code):Bool:=match c with
 |.region _ ops d=>d&&(P.follows .mixedOrders&&(dR n ops&&uz ops))
 |_=>false
def sC(P:aF)(c:Code)(K:Env->J->Prop)(E:Env)(w:J):Prop:=
 ∃e:(Nat->Bool)->Env->J->Prop,e (λ_=>false) E w.drew/\
  (∀d E w i o,(Code.ops c)[i]? =some o->d i=false->(∀h∈o.after,Region.binds .any h=true->d h.on=true)->e d E w->gq P o E w λj k=>e (cP d i) j k)/\
  ∀d E w,(∀i,i<(Code.ops c).size->d i=true)->e d E w->K E w
abbrev wb(P:aF)(c:Code)(K:Env->J->Prop)(E:Env)(w:J):Prop:=sC P (Code.fst c) K E w
variable {Q:Exit->Act->J->Prop} {E:Env} {w:J}
def ig(c:Code)(d:DO P n c=true)(h:sC P c K E w)(F:∀e k j,Ag n j e->K e k->Q .normal j k):WP P n c Q E w:=by
 obtain⟨x,z,step,fin⟩:=h;unfold DO at d;split at d
 .rename_i id ops G;simp only[bf]at d;obtain⟨rfl,A,B,C⟩:=d;exact λa D=>wpIn_mono (aaA x A rfl B C D z step fin) λy j k q=>by
   cases y with
   |normal=>obtain⟨e,hA,hK⟩:=q;exact F e k j hA hK
   |_=>exact q.elim
 .cases d
def si(c:Code)(j:(sD c&&DO P n (Code.fst c))=true)(h:wb P c K E w)(x:∀d e,K d e->WP P n (Code.snd c) Q d e):WP P n c Q E w:=
 WP.seq (wa (oF j).1) (ig _ (oF j).2 h λd e y k q=>nx k (x d e q))
end
def rowOf(o:Oper):Op×Option Nat×aC×List Nat:=(o.op,o.dst,o.type,(o.after.toList.filter λd=>Region.binds .any d).map (·.on))
def allI{α:Type}(F:Nat->α->Prop):List α->Nat->Prop
 |[],_=>True
 |a::l,i=>F i a/\allI F l (i+1)
def FD{α:Type}{F:Nat->α->Prop}:∀{l:List α} {n i:Nat} {a:α},allI F l n->l[i]? =some a->F (n+i) a
 |[],_,i,a,_,d=>by simp at d
 |b::l,n,0,a,d,e=>by simp at e;subst e;exact d.1
 |b::l,n,i+1,a,d,e=>by
  have:=FD (i:=i) d.2 (by simpa using e)
  rwa[show n+1+i=n+(i+1)by omega]at this
section
variable {P:aF} {K:Env->J->Prop} {E:Env} {w:J}
def uk(P:aF)(e:(Nat->Bool)->Env->J->Prop)(i:Nat)(r:Op×Option Nat×aC×List Nat):Prop:=
 ∀d E w o,o.op=r.1->o.dst=r.2.1->o.type=r.2.2.1->d i=false->(∀j∈r.2.2.2,d j=true)->e d E w->gq P o E w λh k=>e (cP d i) h k
def B3{c:Code}(j:List (Op×Option Nat×aC×List Nat))(q:(Code.ops c).toList.map rowOf=j)(e:(Nat->Bool)->Env->J->Prop)(y:e (λ_=>false) E w.drew)(step:allI (uk P e) j 0)(fin:∀d E w,(∀i,i<j.length->d i=true)->e d E w->K E w):sC P c K E w:=by
 refine⟨e,y,λd E w i o G h C k=>?_,λd E w B k=>fin d E w (λi h=>B i ?_) k⟩
 .have H:j[i]? =some (rowOf o):=by rw[<-q,List.getElem?_map,Array.getElem?_toList,G];rfl
  have:=FD step H;rw[Nat.zero_add]at this;refine this d E w o rfl rfl rfl h (λI F=>?_) k;obtain⟨x,D,rfl⟩:=ch.1 F;obtain⟨z,A⟩:=List.mem_filter.1 D;exact C x (by simpa using z) A
 .rw [<-q,List.length_map]at h;simpa using h
def mh{o:Oper}{t:Nat}{v:ab}(d:o.op=.move (.tmp t)\/o.op=.assign (.tmp t))(j:E.get? t=some v)(h:K (E.put o.dst v) w):gq P o E w K:=by
 obtain⟨dst,op,q,pos,after,guard⟩:=o;have k:E.ev (.tmp t)=v:=by simp[Env.ev,Env.val,j]
 rcases d with d|d<;>(simp only at d;subst d)
 .show fP P _ E (λv _=>K (E.put dst v) w);have e:E.dQ ⟨dst,.move (.tmp t),q,pos,after,guard⟩=true:=by simp[Env.dQ,Op.operands,Env.val,j]
  unfold fP;rw[e];show K (E.put dst (E.ev (.tmp t))) w;rw[k];exact h
 .show fP P _ E (λv _=>K (E.put dst v) w);have e:E.dQ ⟨dst,.assign (.tmp t),q,pos,after,guard⟩=true:=by simp[Env.dQ,Op.operands,Env.val,j]
  unfold fP;rw[e];show K (E.put dst (E.ev (.tmp t))) w;rw[k];exact h
def po{o:Oper}{T:aC}{t:Nat}{p:Addr}(d:o.op=.load T (.tmp t))(e:E.get? t=some (.pointer (some p)))(h:l6 P T p w λv _=>K (E.put o.dst v) w):gq P o E w K:=by obtain⟨dst,op,j,pos,after,guard⟩:=o;simp only at d;subst d;show(match E.val (.tmp t)with |some (.pointer (some p))=>l6 P T p w (λv _=>K (E.put dst v) w)|_=>False);rw[show E.val (.tmp t)=some (.pointer (some p))from e];exact h
def Zv{o:Oper}{f d t2:Nat}{e j:ab}(x:o.op=.makeFunc (.func f) #[] #[.tmp d,.tmp t2])(k:E.get? d=some e)(q:E.get? t2=some j)(h:K (E.put o.dst (.func (.func f) #[] #[e,j])) w):gq P o E w K:=by
 obtain⟨dst,op,B,pos,after,guard⟩:=o;simp only at x;subst x;show fP P _ E (λv _=>K (E.put dst v) w);have A:E.dQ ⟨dst,.makeFunc (.func f) #[] #[.tmp d,.tmp t2],B,pos,after,guard⟩=true:=by simp[Env.dQ,Op.operands,Env.val,k,q]
 unfold fP;rw[A];show K (E.put dst (.func (.func f) (#[].map E.ev) (#[.tmp d,.tmp t2].map E.ev))) w;have y:E.ev (.tmp d)=e:=by simp[Env.ev,Env.val,k]
 have z:E.ev (.tmp t2)=j:=by simp[Env.ev,Env.val,q]
 simp only[List.map_toArray,List.map_cons,List.map_nil,y,z];exact h
def Zw{o:Oper}{T:aC}(d:o.op=.makeMap T none)(h:K (E.put o.dst (.map (some w.heap.size))) (w.alloc (.map #[] 0))):gq P o E w K:=by
 obtain⟨dst,op,e,pos,after,guard⟩:=o;simp only at d;subst d;have j:E.dQ ⟨dst,.makeMap T none,e,pos,after,guard⟩=true:=by simp[Env.dQ,Op.operands]
 have k:oM P ⟨dst,.makeMap T none,e,pos,after,guard⟩ E w (λv q=>K (E.put dst v) q):=by unfold oM;rw[j];exact h
 unfold gq;simp only[calm,cond_false];unfold gY;exact k
def pn{o:Oper}{T:aC}{m k v:Operand}{q j x:ab}(e:o.op=.insert T m k v)(z:E.val m=some q)(y:E.val k=some j)(A:E.val v=some x)(h:∃d,(Instr.mapUpdate T q j x).run P w=.ok () d/\K (E.put o.dst undef) d):gq P o E w K:=by obtain⟨dst,op,B,pos,after,guard⟩:=o;simp only at e;subst e;show(match E.val m,E.val k,E.val v with |some m,some k,some v=>Hb P (Instr.mapUpdate T m k v) w (λv d=>K (E.put dst v) d)|_,_,_=>False);rw[z,y,A];exact h
def Er{o:Oper}{t a b f:Nat}{O:Array aC}{first captured:Array ab}{x y:ab}(q:o.op=.call ⟨.value (.tmp t),#[.tmp a,.tmp b],O⟩)(z:E.get? t=some (.func (.func f) first captured))(j:E.get? a=some x)(k:E.get? b=some y)(D:gW P f=true)(h:ak P f (first++#[x,y]++captured) w λA e=>mS (zeroOf P o.type) λv=>A=ag v/\K (E.put o.dst v) e):gq P o E w K:=by
 obtain⟨dst,op,d,pos,after,guard⟩:=o;simp only at q;subst q;show cE (E.dQ ⟨dst,.call ⟨.value (.tmp t),#[.tmp a,.tmp b],O⟩,d,pos,after,guard⟩) (match E.get? t with
  |some (.func (.func f) first captured)=>cE (gW P f) (oI P f (first++(#[Operand.tmp a,.tmp b]).map E.ev++captured) (zeroOf P d) w (λv e=>K (E.put dst v) e))
  |_=>False)
 have F:E.dQ ⟨dst,.call ⟨.value (.tmp t),#[.tmp a,.tmp b],O⟩,d,pos,after,guard⟩=true:=by simp[Env.dQ,Op.operands,Call.operands,Env.val,z,j,k]
 rw[F,z];show cE (gW P f) _;rw[D];have B:E.ev (.tmp a)=x:=by simp[Env.ev,Env.val,j]
 have C:E.ev (.tmp b)=y:=by simp[Env.ev,Env.val,k]
 show oI P f _ _ w _;simp only[List.map_toArray,List.map_cons,List.map_nil,B,C];exact h
def ny(T:List (Nat×Nat×ab))(L:Nat->Bool)(E:Env):Prop:=∀d∈T,(bif bQ d.1 0 then true else L (d.1 - 1))=true->E.get? d.2.1=some d.2.2
def ny.get{T:List (Nat×Nat×ab)}{L:Nat->Bool}(h:ny T L E){i d:Nat}{v:ab}(e:(i,d,v)∈T)(U:(bif bQ i 0 then true else L (i - 1))=true):E.get? d=some v:=h _ e U
def hf{E:Env}{d t:Nat}{v:ab}(h:d≠t):(E.put (some d) v).get? t=E.get? t:=by
 have:bQ d t=false:=by rw[<-iN,ep];exact h
 simp only[Env.put,Env.get?,this,cond_false]
def nM{E:Env}{d:Nat}{v:ab}:(E.put (some d) v).get? d=some v:=by simp[Env.put,Env.get?]
def ny.fill{T:List (Nat×Nat×ab)}{L:Nat->Bool}(h:ny T L E){i d:Nat}{v:ab}(x:∀e∈T,e.1=i+1->e=(i+1,d,v))(z:∀e∈T,e.2.1=d->e.1=i+1):ny T (cP L i) (E.put (some d) v):=by
 intro e j y;by_cases k:e.2.1=d
 .obtain rfl:=x e j (z e j k);exact nM
 .rw [hf (λq=>k q.symm)];refine h e j ?_;by_cases w:e.1=0
  .rw [w];rfl
  .have A:bQ e.1 0=false:=by rw[<-iN,ep];exact w
   rw[A]at y ⊢;have B:e.1 - 1≠i:=λq=>k (by rw[x e j (by omega)]);have:bQ (e.1 - 1) i=false:=by rw[<-iN,ep];exact B
   simpa[cP,this]using y
def ny.pass{T:List (Nat×Nat×ab)}{L:Nat->Bool}(h:ny T L E){i:Nat}{d:Option Nat}{v:ab}(x:∀e∈T,e.1≠i+1)(y:∀e∈T,d≠some e.2.1):ny T (cP L i) (E.put d v):=by
 intro e j w;have A:(E.put d v).get? e.2.1=E.get? e.2.1:=by
  cases d with
  |none=>rfl
  |some d=>exact hf λk=>y e j (by rw[k])
 rw[A];refine h e j ?_;by_cases q:e.1=0
 .rw [q];rfl
 .have z:bQ e.1 0=false:=by rw[<-iN,ep];exact q
  rw[z]at w ⊢;have B:e.1 - 1≠i:=λk=>x e j (by omega);have:bQ (e.1 - 1) i=false:=by rw[<-iN,ep];exact B
  simpa[cP,this]using w
end
structure LC(w:J)(L:List (Nat×List ab×aC)):Prop where
 own:∀(i:Nat) (x:Nat×List ab×aC),L[i]? =some x->w.heap[x.1]? =some (.cells x.2.1.toArray x.2.2 (0,0))
 dj:∀(i j:Nat) (x y:Nat×List ab×aC),L[i]? =some x->L[j]? =some y->x.1=y.1->i=j
abbrev g9(L:List (Nat×List ab×aC)):List Nat:=L.map (·.1)
def loc(V:List Nat)(w:J)(K:J->Prop):Prop:=∀d,Fr (·∈V) w d->K d
def vH(V:List Nat)(w:J)(K:Nat->J->Prop):Prop:=∀b d,w.heap.size<=b->d.heap.size=b+1->Fr (·∈V) w d->K b d
def ee(V:List Nat)(P:aF)(f:cD)(args:Array ab)(w:J)(K:aH):Prop:=∃d:Nat->Prop,(∀b∈V,¬d b)/\ak P f args w λr e=>Fr d w e/\K r e
def kept(V:List Nat)(w Y:J):Prop:=∀b∈V,Y.heap[b]? =w.heap[b]?
def XD{d:Option Addr}{K K':Addr->Prop}(h:dM d K)(f:∀p,K p->K' p):dM d K':=by
 cases d with
 |none=>exact h
 |some p=>exact f p h
def OY{t:Bool}{A B d e:Prop}(h:bn t A B)(j:A->d)(k:B->e):bn t d e:=Y1 j k h
def n9{w:J}{p:Addr}{v:ab}{K K':J->Prop}(h:aQ w p v K)(f:∀d,K d->K' d):aQ w p v K':=⟨h.1,h.2.1,f _ h.2.2⟩
section
variable {w wT:J} {L:List (Nat×List ab×aC)}
def LC.nil(w:J):LC w []:=⟨λi e d=>by simp at d,λi h e j d=>by simp at d⟩
def LC.Sn(H:LC w L){b:Nat}(d:b∈g9 L):∃(i:Nat) (x:Nat×List ab×aC),L[i]? =some x/\x.1=b:=by obtain⟨x,h,rfl⟩:=ch.1 d;obtain⟨i,e⟩:=fQ.1 h;exact⟨i,x,e,rfl⟩
def LC.lt(H:LC w L){b:Nat}(d:b∈g9 L):b<w.heap.size:=by obtain⟨i,h,e,rfl⟩:=H.Sn d;exact lt_of_heap (H.own i h e)
def LC.oW{Y:J}(H:LC w L)(h:kept (g9 L) w Y):LC Y L:=
 ⟨λi d e=>by rw[h d.1 (ch.2 ⟨d,aE e,rfl⟩)];exact H.own i d e,H.dj⟩
def LC.fr{M:Nat->Prop}{Y:J}(H:LC w L)(f:Fr M w Y)(e:∀b∈g9 L,¬M b):LC Y L:=H.oW λb d=>f.cb b (H.lt d) (e b d)
def LC.pick(H:LC w L)(is:List Nat)(A:is.Nodup):LC w (is.filterMap λi=>L[i]?):=by
 induction is with
 |nil=>exact LC.nil w
 |cons y is k=>
  have k:=k (List.nodup_cons.1 A).2;cases x:L[y]? with
  |none=>rw[List.filterMap_cons_none x];exact k
  |some z=>
   rw[List.filterMap_cons_some x];have back:∀(j:Nat) d,(is.filterMap λi=>L[i]?)[j]? =some d->d.1≠z.1:=by intro j d E h;obtain⟨m,C,D⟩:=List.mem_filterMap.1 (aE E);have:=H.dj m y d z D x h;subst this;exact(List.nodup_cons.1 A).1 C
   refine⟨λi d e=>?_,λi j d B e q h=>?_⟩
   .cases i with
    |zero=>simp at e;subst e;exact H.own y z x
    |succ i=>exact k.own i d (by simpa using e)
   .cases i with
    |zero=>
     cases j with
     |zero=>rfl
     |succ j=>simp at e;subst e;exact absurd h.symm (back j B (by simpa using q))
    |succ i=>
     cases j with
     |zero=>simp at q;subst q;exact absurd h (back i d (by simpa using e))
     |succ j=>rw[k.dj i j d B (by simpa using e) (by simpa using q) h]
def LC.alloc(H:LC w L)(o:Obj):LC (w.alloc o) L:=H.fr (M:=λ_=>False) (Fr.alloc _ _ _) (λ_ _ d=>d)
def LC.push(H:LC w L)(cs:Array ab)(T:aC):LC (w.alloc (.cells cs T)) (L++[(w.heap.size,cs.toList,T)]):=by
 have B:=H.alloc (.cells cs T);have A:∀(i:Nat) d,L[i]? =some d->d.1<w.heap.size:=λi d e=>lt_of_heap (H.own i d e);have k:∀(i:Nat) d,(L++[(w.heap.size,cs.toList,T)])[i]? =some d->(L[i]? =some d)\/(i=L.length/\d=(w.heap.size,cs.toList,T)):=by
  intro i d e;rw[List.getElem?_append]at e;split at e
  .exact .inl e
  .rename_i C;right;have:i - L.length=0:=by
    rcases Nat.eq_zero_or_pos (i - L.length)with h|h
    .exact h
    .rw [List.getElem?_eq_none (by simp;omega)]at e;cases e
   rw[this]at e;simp at e;exact⟨by omega,e.symm⟩
 refine⟨λi d e=>?_,λi q d x e z y=>?_⟩
 .rcases k i d e with h|⟨_,rfl⟩
  .exact B.own i d h
  .simp only[Array.toArray_toList];exact jV w _
 .rcases k i d e with h|⟨h,rfl⟩
  .rcases k q x z with j|⟨j,rfl⟩
   .exact H.dj i q d x h j y
   .have:=A i d h;simp only at y;omega
  .rcases k q x z with j|⟨j,rfl⟩
   .have:=A q x j;simp only at y;omega
   .omega
def AF(L:List (Nat×List ab×aC))(i:Nat){b:Nat}{vs h:List ab}{T:aC}(U:L[i]? =some (b,vs,T)):g9 (L.set i (b,h,T))=g9 L:=by
 apply List.ext_getElem?;intro j;simp only[g9,List.getElem?_map,yP];split
 .rename_i d;subst d;rw[U];split
  .rfl
  .rename_i e;exact absurd (bO.1 U).1 e
 .rfl
def LC.set(H:LC w L)(i j:Nat){b:Nat}{vs:List ab}{T:aC}{v:ab}(U:L[i]? =some (b,vs,T))(D:j<vs.length)(f:Fr (·∈g9 L) wT w):
  (w.cell? ((ae b).add j)).isSome=true/\w.frozen? ((ae b).add j)=false/\LC (w.setCell ((ae b).add j) v) (L.set i (b,vs.set j v,T))/\Fr (·∈g9 (L.set i (b,vs.set j v,T))) wT (w.setCell ((ae b).add j) v):=by
 obtain⟨I,K,M,x⟩:=tk (H.own i _ U) j (by simpa using D) v;have C:b∈g9 L:=ch.2 ⟨_,aE U,rfl⟩;refine⟨I,K,⟨λk e d=>?_,λk m e q d E h=>?_⟩,?_⟩
 .rw [yP]at d;split at d
  .split at d
   .cases d;simp only;rw[M];simp
   .cases d
  .rename_i F;have:=x.cb e.1 (lt_of_heap (H.own k e d)) (λh=>F (H.dj i k _ e U d h.symm));rw[this];exact H.own k e d
 .have g:∀(k:Nat) e,(L.set i (b,vs.set j v,T))[k]? =some e->∃q,L[k]? =some q/\q.1=e.1:=by
   intro k e d;rw[yP]at d;split at d
   .rename_i h;subst h;split at d
    .cases d;exact⟨_,U,rfl⟩
    .cases d
   .exact ⟨e,d,rfl⟩
  obtain⟨G,A,y⟩:=g k e d;obtain⟨N,B,z⟩:=g m q E;exact H.dj k m G N A B (by rw[y,z,h])
 .rw [AF L i U];exact f.trans x λe _ h=>h▸C
def ha{V:List Nat}{P:aF}{f:cD}{args:Array ab}{K:aH}(h:ak P f args w λr d=>ah w d/\K r d):ee V P f args w K:=⟨λ_=>False,λ_ _ h=>h,h⟩
end
def En.g(b:Nat):En:=⟨[b],λh=>b<h.heap.size,λh q k d=>(by
  have:=k b (by simp) d;rcases Nat.lt_or_ge b q.heap.size with e|e
  .exact e
  .rw [Array.getElem?_eq_none e,Array.getElem?_eq_getElem d]at this;cases this),λh d w j=>by simp at j;subst j;exact d,by simp⟩
section
variable {M:Nat->Prop} {w0 w:J} {L D:List En} {V:List Nat}
def LH.ghost(H:LH M w0 w L D){Y:J}(f:Fr (·∈V) w Y)(br:∀b∈V,En.g b∈L):LH M w0 Y L D:=by
 refine⟨H.fr.trans f λB F j=>(H.new _ (br B j) B (by simp[En.g])).resolve_left (by omega),λd e=>?_,λd e=>?_,H.new,H.nd,H.dj⟩
 .by_cases y:∃b∈V,b∈d.fp
  .obtain ⟨b,h,C⟩:=y;obtain⟨i,z⟩:=fQ.1 e;obtain⟨A,q⟩:=fQ.1 (br b h);have E:i=A:=by
    rcases Nat.decEq i A with k|k
    .exact absurd (by simp[En.g]) (mL H.nd z q k b C)
    .exact k
   subst E;rw[z]at q;cases q;exact kP (H.own _ e) f.size
  .exact d.st w Y (λb h x=>f.cb b x λj=>y ⟨b,j,h⟩) (H.own d e)
 .exact d.st w Y (λb h x=>f.cb b x λj=>H.dj d e b h _ (br b j) (by simp[En.g])) (H.rd d e)
def LH.ai(H:LH M w0 w L D){K:J->Prop}(e:∀d,LH M w0 d L D->K d)(br:∀b∈V,En.g b∈L:=by simp):loc V w K:=λ_ f=>e _ (H.ghost f br)
def LH.aJ(H:LH M w0 w L D){K:Nat->J->Prop}(B:∀b q,LH M w0 q (L++[.g b]) D->K b q)(br:∀b∈V,En.g b∈L:=by simp):vH V w K:=λb q A E f=>B b q (by
 have x:=H.ghost f br;refine⟨x.fr,λh d=>?_,x.rd,λh d k e=>?_,?_,λh d k e z j y=>?_⟩
 .rcases aX.1 d with d|d
  .exact x.own h d
  .simp at d;subst d;show b<_;omega
 .rcases aX.1 d with d|d
  .exact H.new h d k e
  .simp at d;subst d;simp[En.g]at e;subst e;exact .inl (a8 H.fr.size A)
 .rw [cy,fD];refine⟨H.nd,by simp[En.g],λk e F C=>?_⟩;have:=H.Dj k e;simp[En.g]at C;omega
 .rcases aX.1 j with j|j
  .exact H.dj h d k e z j y
  .simp at j;subst j;simp[En.g]at y;subst y;have:=h.lt w (H.rd h d) k e;omega)
def LH.ay(H:LH M w0 w L D){P:aF}{g:cD}{args:Array ab}{A K:aH}(h:ak P g args w λr d=>A r d/\ah w d)(j:∀r d,A r d->LH M w0 d L D->K r d):ee V P g args w K:=
 ha (h.mono λr d ⟨e,f⟩=>⟨f,j r d e (H.bw f)⟩)
def LH.call(H:LH M w0 w L D){P:aF}{g:cD}{args:Array ab}{A K:aH}(h:ak P g args w λr d=>A r d/\ah w d)(j:∀r d,A r d->LH M w0 d L D->K r d):ak P g args w K:=
 h.mono λr d ⟨e,f⟩=>j r d e (H.bw f)
def LH.X0(H:LH M w0 w L D){Y:J}(f:ah w Y){e:aC}{sz:Nat}{s:Sl}{vs:List ab}(h:aK Y e sz s vs)(d:∀b∈aw s,w.heap.size<=b):LH M w0 Y (L++[.row e sz s vs]) D:=H.push (.row e sz s vs) f h d
def LH.FG(H:LH M w0 w L D)(i:Nat){P:aF}{t ty e:aC}{z:ab}{sz bytes:Nat}(E:gU P t e z sz bytes){s src:Sl}{xs news:List ab}{K:Sl->J->Prop}(U:L[i]? =some (.row e sz s xs))(W:eV w src news)(V:news.length=src.n *sz)(Q:∀u∈news,u.oneCell'=true)(j:(s.n+src.n) *bytes<=140737488355328)(S:∀d h,LH M w0 h (L.set i (.row e sz d (xs++news))) D->d.n=s.n+src.n->(d.a=none->s.a=none/\src.n=0)->(∀b,En.g b∈L->h.heap[b]? =w.heap[b]?)->K d h):
  ∃d h,(dW #[t,t] ty #[s.v,src.v]).run P w=.ok d.v h/\K d h:=by
 obtain⟨d,h,F,G,I,y,N,O⟩:=xc (ty:=ty) E (H.get i U) W V Q j;refine⟨d,h,F,S d h (H.gu i (.row e sz d (xs++news)) U y G N) I O λb j=>?_⟩;refine y.cb b (H.own _ j) λC=>?_;obtain⟨Z,q⟩:=fQ.1 j;by_cases B:i=Z
 .subst B;rw[U]at q;cases ac:(En.row e sz s xs)with
  |mk aa P' st lt ad=>
   have k:En.row e sz s xs=En.g b:=Option.some.inj q;have x:(En.row e sz s xs).P=(En.g b).P:=by rw[k]
   have e3:=congrFun x w;have e4:(En.row e sz s xs).P (w.alloc (.cells #[] e))=(En.g b).P (w.alloc (.cells #[] e)):=by rw[k]
   have f1:(En.row e sz s xs).fp=(En.g b).fp:=by rw[k]
   have A:(En.g b).P ({w with heap:=g4 (b+1) (.map #[] 0)}):=by show b<_;simp
   rw[<-x]at A;have Y:=(aK.row (show aK ({w with heap:=g4 (b+1) (.map #[] 0)}) e sz s xs from A)).tL b C;obtain⟨cs,f,T⟩:=Y;simp at T
 .exact mL H.nd U q B b C (by simp[En.g])
end
def bx(sz:Nat)(w:J)(s:Sl)(vs:List ab):Prop:=vs.length=s.n *sz/\s.n<=s.c/\eV w s vs
def bx.fr{sz:Nat}{M:Nat->Prop}{w Y:J}{s:Sl}{vs:List ab}(h:bx sz w s vs)(d:Fr M w Y)(e:∀b∈aw s,¬M b):bx sz Y s vs:=⟨h.1,h.2.1,h.2.2.fr d e⟩
def bx.bw{sz:Nat}{w Y:J}{s:Sl}{vs:List ab}(h:bx sz w s vs)(d:ah w Y):bx sz Y s vs:=h.fr d λ_ _ h=>h
def aK.bc{w:J}{e:aC}{sz:Nat}{s:Sl}{vs:List ab}(h:aK w e sz s vs):bx sz w s vs:=⟨h.len,h.cap,h.row.r1⟩
def bx.nil(sz:Nat)(w:J):bx sz w ⟨none,0,0⟩ []:=⟨by simp,bg _,eV.nil w⟩
def En.bc(sz:Nat)(s:Sl)(vs:List ab):En:=⟨if vs=[]then[]else aw s,λq=>bx sz q s vs,λq A w e=>by
  refine⟨e.1,e.2.1,e.2.2.1,λi v x=>?_⟩;obtain⟨p,h,d⟩:=e.2.2.2 i v x;have k:vs≠[]:=λy=>by subst y;simp at x
  rw[af k]at w;have:=w p.block (by simp[aw,h]) (by have:=nE d;rwa[iz]at this);refine⟨p,h,?_⟩;unfold World.cell? at d ⊢;rw[iz]at d ⊢;rw[this];exact d,λq e b j=>by
  split at j
  .cases j
  .rename_i k;have z:0<vs.length:=List.length_pos_iff.2 k;obtain⟨p,h,d⟩:=e.2.2.2 0 vs[0] (a6 z);simp[aw,h]at j;subst j;have:=nE d
   rwa[iz]at this,by split<;>(try simp);unfold aw;split<;>simp⟩
def od(sz:Nat)(s:Sl)(l h:Nat):Sl:=⟨if s.c=l then s.a else s.a.map (·.add (l *sz)),h - l,s.c - l⟩
def bx.sub{sz:Nat}{w:J}{s:Sl}{vs:List ab}(h:bx sz w s vs)(l U:Nat)(G:l<=U)(A:U<=s.n):bx sz w (od sz s l U) ((vs.take (U *sz)).drop (l *sz)):=by
 obtain⟨x,F,j,y⟩:=h;have q:U *sz<=s.n *sz:=nr _ A;refine⟨?_,?_,?_,λi v e=>?_⟩
 .rw [List.length_drop,List.length_take,x,Nat.min_eq_left q];show _=(U - l) *sz;rw[Nat.sub_mul]
 .show U - l<=s.c - l;omega
 .intro d;unfold od at d ⊢;simp only at d ⊢;split at d
  .have:=j d;omega
  .cases k:s.a with
   |none=>have:=j k;omega
   |some p=>rw[k]at d;cases d
 .rw [List.getElem?_drop]at e;have B:l *sz+i<U *sz:=by have:=(bO.1 e).1;rw[List.length_take]at this;omega
  rw[jw,aj B]at e;obtain⟨p,D,z⟩:=y _ _ e;have C:s.c≠l:=λE=>by
   have:U<=l:=by omega
   have:=nr sz this;omega
  refine⟨p.add (l *sz),?_,?_⟩
  .unfold od;simp only;rw[af C,D];rfl
  .rw [add_add];exact z
def ju:List Nat->List Nat
 |[]=>[]
 |a::l=>if a∈ju l then ju l else a::ju l
def aO{x:Nat}:∀{l:List Nat},x∈ju l↔x∈l
 |[]=>Iff.rfl
 |a::l=>by
  unfold ju;split
  .rename_i e;rw[aO,av];exact⟨.inr,λh=>h.elim (λd=>by subst d;exact aO.1 e) id⟩
  .rw [av,av,aO]
def nX:∀l:List Nat,(ju l).Nodup
 |[]=>.nil
 |a::l=>by
  unfold ju;split
  .exact nX l
  .rename_i d;exact List.nodup_cons.2 ⟨d,nX l⟩
def En.all(es:List En):En:=⟨ju (es.flatMap (·.fp)),λe=>∀d∈es,d.P e,λe y q k d h=>d.st e y (λb j x=>q b (aO.2 (bA.2 ⟨d,h,j⟩)) x) (k d h),
 λe k b j=>(by obtain⟨d,h,w⟩:=bA.1 (aO.1 j);exact d.lt e (k d h) b w),nX _⟩
section
variable {M:Nat->Prop} {w0 w:J} {L D:List En} {V:List Nat}
structure tY(M:Nat->Prop)(w0 w Y:J)(L D:List En):Prop where
 own:∀e:En,e.P Y->(∀b∈e.fp,w.heap.size<=b)->LH M w0 Y (L++[e]) D
 rd:∀e:En,e.P Y->(∀b∈e.fp,w.heap.size<=b)->LH M w0 Y L (D++[e])
def LH.fresh(H:LH M w0 w L D){Y:J}(f:ah w Y):tY M w0 w Y L D:=⟨λd e h=>H.push d f e h,λd e h=>H.gx d f e λb j=>.inl (h b j)⟩
def LH.hD(H:LH M w0 w L D){P:aF}{g:cD}{args:Array ab}{A K:aH}(h:ak P g args w λr d=>A r d/\ah w d)(j:∀r d,A r d->LH M w0 d L D->tY M w0 w d L D->K r d):ee V P g args w K:=
 ha (h.mono λr d ⟨e,f⟩=>⟨f,j r d e (H.bw f) (H.fresh f)⟩)
def LH.AY(H:LH M w0 w L D){P:aF}{g:cD}{args:Array ab}{A K:aH}(h:ak P g args w λr d=>A r d/\ah w d)(j:∀r d,A r d->LH M w0 d L D->tY M w0 w d L D->K r d):ak P g args w K:=
 h.mono λr d ⟨e,f⟩=>j r d e (H.bw f) (H.fresh f)
end
def ta{sz:Nat}{s:Sl}{vs:List ab}{n:Nat}(h:∀b∈aw s,n<=b):∀b∈(En.bc sz s vs).fp,n<=b:=λb d=>by
 have:b∈(if vs=[]then[]else aw s):=d;split at this
 .cases this
 .exact h b this
section
variable {M:Nat->Prop} {w0 w:J} {L D:List En} {V:List Nat}
def LH.dd(H:LH M w0 w L D)(i:Nat){P:aF}{t ty e:aC}{z:ab}{sz bytes:Nat}(k:gU P t e z sz bytes){s src:Sl}{xs news:List ab}{K:Sl->J->Prop}(U:L[i]? =some (.row e sz s xs))(j:bx sz w src news)(x:∀u∈news,u.oneCell'=true)(A:(s.n+src.n) *bytes<=140737488355328)(y:∀h d,LH M w0 d (L.set i (.row e sz h (xs++news))) D->K h d)(br:∀b∈V,En.g b∈L:=by simp):
  ∃h d,(dW #[t,t] ty #[s.v,src.v]).run P w=.ok h.v d/\kept V w d/\K h d:=
 H.FG i k (K:=λh d=>kept V w d/\K h d) U j.2.2 j.1 x A λh d q _ _ C=>⟨λb B=>C b (br b B),y h d q⟩
def LH.iA(H:LH M w0 w L D)(i:Nat){P:aF}{t ty e:aC}{z:ab}{sz bytes:Nat}(q:gU P t e z sz bytes){T:aC}{s:Sl}{xs:List ab}{news:Array ab}{K:Sl->J->Prop}(U:L[i]? =some (.row e sz s xs))(y:∀h d,LH M w0 d (L.set i (.row e sz h (xs++news.toList))) D->K h d)(A:(s.n+1) *bytes<=140737488355328)(B:news.size=sz:=by rfl)(x:∀u∈news.toList,u.oneCell'=true:=by simp[Value.oneCell'])(br:∀b∈V,En.g b∈L:=by simp):
  cZ w (.cells news T) λj=>∃h d,(dW #[t,t] ty #[s.v,.slice (some (Addr.mk w.heap.size 0 none)) 1 1]).run P j=.ok h.v d/\kept V j d/\K h d:=by have k:LH M w0 (w.alloc (.cells news T)) L D:=H.bw (Fr.alloc _ _ _);exact k.dd i q (src:=⟨some (ae w.heap.size),1,1⟩) (ty:=ty) (K:=K) (news:=news.toList) U ⟨by simpa using B,bg _,(Row.made w T 1 1 news.toList).r1⟩ x A y br
end
abbrev e8(s:Sl)(i:Int)(K:Addr->Prop):Prop:=0<=i/\i<((s.n:Nat):Int)/\dM s.a K
end Go.W
