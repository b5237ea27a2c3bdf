import Derived.OrdersHeld
import Derived.OrdersIn
import Derived.RangeFuncLeaves
import Derived.RangeFuncRecord
import Derived.RangeFuncSeq
import Derived.WalkKit
import Derived.Laws.AppendOwn
import Derived.Laws.StructEq
import Derived.KernelRfl
import Derived.Below
import Derived.OwnWalk
import Derived.IntWalk
import Derived.Laws.AppendOwnNone
set_option linter.unusedVariables false
set_option linter.defProp false
namespace Go.W
open Go renaming World->C,Calls->ah,Program->aR,Value->ab,TypeId->aF,Ending->cQ,FuncId->bW,IntKind->iH
open Go.IntKind renaming wrap->ad
open _root_.ByteArray renaming mk->av
open Go.Builtin renaming append_->bg
open _root_.Bool renaming and_eq_true->bC,not_eq_true->i4
open _root_.Nat renaming le_refl->b',le_trans->bB,zero_le->fj,beq->cv,lt_of_lt_of_le->iI,mul_le_mul_right->s6,beq_eq->ez
open _root_.Option.some renaming injEq->fb
open _root_.Array renaming replicate->gI
open _root_.BitVec renaming ofInt->mL
open Go.Region renaming wanted->cU,ready->eA
open Go.Ending renaming returned->U
open List renaming mem_append->a6,mem_cons->ay,mem_of_getElem?->aE,getElem?_eq_getElem->a9,getElem?_eq_some_iff->dh,mem_append_right->ef,mem_flatMap->cj,mem_map->dv,mem_of_mem_take->kW,mem_singleton->cO,flatMap_cons->dT,mem_iff_getElem?->g5,nodup_append->gT,all_eq_true->fF
def aq{c:Prop}{h:Decidable c}(x:¬c){α:Sort _}{t e:α}:ite c t e=e:=_root_.if_neg x
def aA{c:Prop}{h:Decidable c}(x:c){α:Sort _}{t e:α}:ite c t e=t:=_root_.if_pos x
def a2{p:Prop}[i:Decidable p](x:¬p):decide p=false:=_root_.decide_eq_false x
def a0{p:Prop}[i:Decidable p](x:p):decide p=true:=_root_.decide_eq_true x
def a3(p:Prop):(p∨False)=p:=_root_.or_false p
def hC{p:Prop}[i:Decidable p](x:decide p=true):p:=_root_.of_decide_eq_true x
def qP{p:Prop}[i:Decidable p](x:decide p=false):¬p:=_root_.of_decide_eq_false x
abbrev Env:=List (Nat×ab)
def Env.get? :Env->Nat->Option ab
 |[],_=>none
 |(d,v)::c,t=>bif cv d t then some v else Env.get? c t
def Env.val(E:Env):Operand->Option ab
 |.tmp t=>E.get? t
 |.const v=>some v
 |.global g=>some (.pointer (some ⟨g,0,none⟩))
 |.func f=>some (.func (.func f) #[] #[])
def Env.ev(E:Env)(x:Operand):ab:=(E.val x).getD undef
def Env.put(E:Env)(d:Option Nat)(v:ab):Env:=
 match d with
 |some d=>(d,v)::E
 |none=>E
def Env.dQ(E:Env)(o:Oper):Bool:=o.op.operands.toList.all λc=>(E.val c).isSome
structure Cx where
 n:Nat
 ds:List Deferred
 ro:Option Nat
instance:CoeHead Cx Nat:=⟨Cx.n⟩
abbrev cx(n:Nat):Cx:=⟨n,[],none⟩
abbrev FW(n:Cx):Fence:={Fence.wide with round:=n.ro}
structure Ag(n:Cx)(a:Act)(E:Env):Prop where
 defers:a.defers=n.ds
 size:a.tmps.size=n.n
 get:∀t v,E.get? t=some v->a.tmps[t]? =some v
def Ag.val{n:Cx}{a:Act}{E:Env}(h:Ag n a E){x:Operand}{v:ab}(c:E.val x=some v):a.eval x=v:=by
 cases x with
 |tmp t=>have:=h.get t v c;simp[Act.eval,this]
 |const d=>simpa[Env.val,Act.eval]using c
 |global g=>simpa[Env.val,Act.eval]using c
 |func f=>simpa[Env.val,Act.eval]using c
def Ag.ev{n:Cx}{a:Act}{E:Env}(h:Ag n a E){x:Operand}(d:(E.val x).isSome=true):a.eval x=E.ev x:=by obtain⟨v,c⟩:=Option.isSome_iff_exists.1 d;rw[h.val c,Env.ev,c];rfl
def Ag.put{n:Cx}{a:Act}{E:Env}(h:Ag n a E){d:Option Nat}(v:ab)(q:∀t,d=some t->t<n.n):Ag n (a.put d v) (E.put d v):=by
 cases d with
 |none=>exact h
 |some t=>
  refine⟨h.defers,by simp[Act.put,h.size],?_⟩;intro s k c;have j:t<a.tmps.size:=by rw[h.size];grind
  simp only[Env.put,Env.get?]at c;by_cases e:t=s
  .subst e;simp at c;simp[Act.put,j,c]
  .have:cv t s=false:=by rw[<-i4,ez];exact e
   simp only[this,cond_false]at c;simpa[Act.put,Array.getElem?_setIfInBounds_ne e]using h.get s k c
def Ag.nil{n:Cx}{a:Act}{E:Env}(h:Ag n a E):Ag n a []:=⟨h.defers,h.size,λ_ _ h=>by simp[Env.get?]at h⟩
def Ag.cons{n:Cx}{a:Act}{E F:Env}(h:Ag n a E){t:Nat}{v:ab}(j:E.get? t=some v)(e:Ag n a F):Ag n a ((t,v)::F):=by
 refine⟨h.defers,h.size,?_⟩;intro s k c;simp only[Env.get?]at c;by_cases d:t=s
 .subst d;simp at c;subst c;exact h.get _ _ j
 .have:cv t s=false:=by rw[<-i4,ez];exact d
  simp only[this,cond_false]at c;exact e.get s k c
def Ag.execOp{n:Cx}{a:Act}{E:Env}(h:Ag n a E){o:Oper}(e:∀c b,o.op≠.select c b)(d:E.dQ o=true):execOp a.eval o=execOp E.ev o:=
 execOp_congr o e λj k=>h.ev (by have:=fF.1 d j (by grind);omega)
structure J where
 a:Option Addr
 n:Nat
 c:Nat
abbrev J.v(s:J):ab:=.slice s.a s.n s.c
abbrev aa:=cQ->C->Prop
structure Fv where
 n:Nat
 bs:Array ab
 cs:Array ab
abbrev Fv.v(f:Fv):ab:=.func (.func f.n) f.bs f.cs
def uc(e:ab)(K:ab->Prop):Prop:=
 match e with
 |.int c _=>∃d:Int,K (.int c d)
 |.bool _=>∃b:Bool,K (.bool b)
 |.string _=>∃s:ByteArray,K (.string s)
 |.slice _ _ _=>∃s:J,K s.v
 |.pointer _=>∃a:Option Addr,K (.pointer a)
 |.map _=>∃r:Option Nat,K (.map r)
 |_=>∃v:ab,K v
def wP:List ab->(List ab->Prop)->Prop
 |[],c=>c []
 |e::h,c=>uc e λv=>wP h λd=>c (v::d)
def wQ(c:ab)(K:ab->Prop):Prop:=
 match c with
 |.agg d=>wP d.toList λe=>K (.agg e.toArray)
 |c=>uc c K
def A9:List ab->(List ab->Prop)->Prop
 |[],c=>c []
 |e::h,c=>wQ e λv=>A9 h λd=>c (v::d)
def mj(c:ab)(K:ab->Prop):Prop:=
 match c with
 |.tuple e=>A9 e.toList λd=>K (.tuple d.toArray)
 |c=>wQ c K
def A7{c:ab}{K:ab->Prop}(h:uc c K):∃v,K v:=by
 unfold uc at h
 grind
def A8:∀{e:List ab} {K:List ab->Prop},wP e K->∃d,d.length=e.length/\K d
 |[],_,c=>⟨[],rfl,c⟩
 |_::_,_,c=>by
  obtain⟨v,c⟩:=A7 c;obtain⟨d,h,c⟩:=A8 c
  grind
def HN{c:ab}{K:ab->Prop}(h:wQ c K):∃v,K v:=by
 unfold wQ at h;split at h
 .obtain ⟨d,_,h⟩:=A8 h;grind
 .exact A7 h
def HO:∀{e:List ab} {K:List ab->Prop},A9 e K->∃d,K d
 |[],_,c=>⟨[],c⟩
 |_::_,_,c=>by
  obtain⟨v,c⟩:=HN c;obtain⟨d,c⟩:=HO c
  grind
def pO{c:ab}{K:ab->Prop}(h:mj c K):∃v,K v:=by
 unfold mj at h;split at h
 .obtain ⟨d,h⟩:=HO h;grind
 .exact HN h
def cF(b:Bool)(p:Prop):Prop:=match b with |true=>p|false=>False
def dU{b:Bool}{p:Prop}(h:cF b p):b=true/\p:=by
 cases b
 .exact h.elim
 .exact ⟨rfl,h⟩
def Y(t:Bool)(A c:Prop):Prop:=match t with |true=>A|false=>c
def cK{t:Bool}{A c:Prop}(d:t=true->A)(e:t=false->c):Y t A c:=by
 cases t
 .exact e rfl
 .exact d rfl
def a8{t:Bool}{A c:Prop}(d:t=true)(h:A):Y t A c:=by subst d;exact h
def bb{t:Bool}{A c:Prop}(d:t=false)(h:c):Y t A c:=by subst d;exact h
def cd(c:Option Addr)(K:Addr->Prop):Prop:=match c with |some p=>K p|none=>False
def sc{c:Option Addr}{K:Addr->Prop}(h:cd c K):∃p,c=some p/\K p:=by
 cases c with
 |none=>exact h.elim
 |some p=>exact⟨p,rfl,h⟩
def rf:List Prop->Prop->Prop
 |[],p=>p
 |c::l,p=>c/\rf l p
def rh:∀{l:List Prop} {p:Prop},rf l p->(∀e∈l,e)/\p
 |[],_,c=>⟨λ_ c=>(by cases c),c⟩
 |_::_,_,c=>⟨λe d=>by
   rcases ay.1 d with rfl|d
   .exact c.1
   .exact (rh c.2).1 e d,(rh c.2).2⟩
def oG{α:Type}(P:aR):Sem α->Option α
 |.pure a=>some a
 |.program c=>oG P (c P)
 |_=>none
def Ka{α:Type}{P:aR}:∀{s:Sem α} {a:α},oG P s=some a->∀d,s.run P d=.ok a d
 |.pure _,_,c,d=>by simp[oG]at c;subst c;rfl
 |.program e,_,c,d=>by simp only[oG]at c;exact Ka c d
 |.load ..,_,c,_|.store ..,_,c,_|.new ..,_,c,_|.shape ..,_,c,_|.freeze ..,_,c,_|.frozen ..,_,c,_|.getObj ..,_,c,_|.setObj ..,_,c,_
 |.choose ..,_,c,_|.sys ..,_,c,_|.mark ..,_,c,_|.halt ..,_,c,_=>by simp[oG]at c
def zeroOf(P:aR)(t:aF):ab:=((P.info? t).bind (·.zero)).getD undef
def calm(P:aR)(o:Oper):Bool:=
 match o.op with
 |.convert s c _=>match P.underlying s,P.underlying c with
  |some (.slice _),some (.slice _)=>false
  |some .string,some (.slice _)=>false
  |_,_=>true
 |.move _|.assign _|.pick ..|.build ..|.load ..|.nilCheck _|.binOp ..|.unOp ..|.makeInterface ..|.makeFunc ..|.slice ..|.fieldAddr ..|.field ..|.indexAddr ..|.index ..
 |.lookup ..|.typeAssert ..|.extract ..=>true
 |.call {callee:=.builtin b,..}=>match b with |.len|.cap|.min|.max=>true|_=>false
 |_=>false
def mb(x:Option ab)(y c:Nat)(K:Nat->Prop):Prop:=
 match x with
 |none=>K c
 |some (.int _ i)=>0<=i/\i<=(y:Int)/\K i.toNat
 |_=>False
def pd(P:aR)(T:aF):Option Bool:=
 match P.underlying T with
 |some (.struct _)|some (.array _ _)=>some true
 |some _=>some false
 |none=>none
def v'(P:aR)(T:aF):Bool:=
 match zeroOf P T with
 |.agg c=>pd P T==some true&&(match P.info? T with |some i=>i.size==c.size|none=>false)
 |_=>pd P T==some false
def lC(P:aR)(T:aF)(p:Addr)(w:C)(K:ab->List (C->Prop)->Prop):Prop:=
 cF (v' P T)<|match zeroOf P T with
 |.agg e=>wP e.toList λd=>rf (d.zipIdx.map λ(v,i)=>w.cell? (p.add i)=some v) (K (.agg d.toArray) (d.zipIdx.map λ(v,i)=>λc=>c.cell? (p.add i)=some v))
 |.nilFunc=>∃f:Fv,w.cell? p=some f.v/\K f.v [λc=>c.cell? p=some f.v]
 |.nilIface=>(∃(t:aF) (x:ab),w.cell? p=some (.iface t x)/\K (.iface t x) [λc=>c.cell? p=some (.iface t x)])\/(w.cell? p=some .nilIface/\K .nilIface [λc=>c.cell? p=some .nilIface])
 |h=>uc h λv=>w.cell? p=some v/\K v [λc=>c.cell? p=some v]
def fP(P:aR)(o:Oper)(E:Env)(K:ab->List (C->Prop)->Prop):Prop:=
 cF (E.dQ o) (match oG P (execOp E.ev o)with |some (.value v)=>K v []|_=>False)
def A'(c:ab)(K:ab->Prop):Prop:=
 match c with
 |.nilFunc=>∃f:Fv,K f.v
 |c=>mj c K
def Qb{c:ab}{K:ab->Prop}(h:A' c K):∃v,K v:=by
 unfold A' at h;split at h
 .grind
 .exact pO h
def oK(P:aR)(s:Sem ab)(d:ab)(w:C)(K:ab->List (C->Prop)->Prop):Prop:=
 A' d λv=>s.run P w=.ok v w/\K v [λc=>s.run P c=.ok v c]
def wH(P:aR)(T:aF):Option Nat:=
 match P.underlying T with
 |some (.slice c)=>(P.info? c).map (·.size)
 |_=>none
def z5(P:aR)(T:aF):Option (Nat×Nat):=
 match P.underlying T with
 |some (.array d c)=>(P.info? c).map λi=>(d,i.size)
 |_=>none
def NL{P:aR}{T:aF}{n sz:Nat}(h:z5 P T=some (n,sz)):∃c inf,P.underlying T=some (.array n c)/\P.info? c=some inf/\sz=inf.size:=by
 unfold z5 at h;split at h
 .rename_i m c j;obtain⟨inf,e,d⟩:=Option.map_eq_some_iff.1 h
  grind
 grind
def isConst:Operand->Bool
 |.const _=>true
 |_=>false
def ns(P:aR)(T:aF)(c:ab):Bool:=
 match P.underlying T,c with
 |some (.slice _),.slice none _ _=>true
 |some (.pointer _),.pointer none=>true
 |some (.map _ _),.map none=>true
 |_,_=>false
def mw:Option ab->ab->Option Bool
 |some (.slice a _ _),.slice none _ _=>some a.isNone
 |some (.pointer a),.pointer none=>some a.isNone
 |some (.map r),.map none=>some r.isNone
 |_,_=>none
def ub(P:aR)(xs c:Array ab):List Field->Option Bool
 |[]=>some true
 |f::d=>bif f.name=="_" then none else match P.underlying f.type,xs[f.offset]?,c[f.offset]?,ub P xs c d with
  |some (.int _),some (.int e a),some (.int h b),some r=>bif decide (e=h)then some ((a==b)&&r)else none
  |some .string,some (.string a),some (.string b),some r=>some ((a.toList==b.toList)&&r)
  |some .bool,some (.bool a),some (.bool b),some r=>some ((a==b)&&r)
  |_,_,_,_=>none
def z1(P:aR)(T:aF)(xs d:Array ab):Option Bool:=match P.underlying T with
 |some (.struct c)=>bif (!P.stoodInHeld T&&!P.eqGuardType P.depth T)then ub P xs d c.toList else none
 |_=>none
def rJ(P:aR)(o:Oper)(E:Env)(T:aF)(x y:Operand)(neg:Bool)(K:ab->List (C->Prop)->Prop):Prop:=match E.val x,E.val y with
 |some (.agg c),some (.agg d)=>match z1 P T c d with
  |some b=>K (.bool (bif neg then !b else b)) []
  |none=>False
 |_,_=>fP P o E K
def Dy(P:aR)(e:aF):Bool:=match P.underlying e,P.info? e with
 |some .string,some i=>i.size==1
 |_,_=>false
def JJ(P:aR)(e:aF):Bool:=match P.underlying e,P.info? e with
 |some (.int _),some i=>i.size==1
 |_,_=>false
def wz(P:aR)(o:Oper)(E:Env)(w:C)(K:ab->List (C->Prop)->Prop):Prop:=
 match o.op with
 |.load d c=>match E.val c with
  |some (.pointer (some p))=>lC P d p w K
  |_=>False
 |.nilCheck c=>match E.val c with
  |some (.pointer D)=>cd D λp=>K (.pointer (some p)) []
  |_=>fP P o E K
 |.indexAddr d c u=>match E.val c,E.val u with
  |some (.slice a n _),some (.int _ i)=>match wH P d with
   |some y=>0<=i/\i<(n:Int)/\cd a λp=>K (.pointer (some (p.add (i.toNat *y)))) []
   |none=>False
  |some (.pointer (some p)),some (.int _ i)=>match z5 P d with
   |some (n,y)=>0<=i/\i<(n:Int)/\K (.pointer (some (p.add (i.toNat *y)))) []
   |none=>False
  |_,_=>fP P o E K
 |.index d c u=>match P.underlying d,E.val c,E.val u with
  |some .string,some (.string s),some (.int _ i)=>0<=i/\∃b:UInt8,s[i.toNat]? =some b/\K (.int .u8 b.toNat) []
  |some (.array n A),some (.agg F),some (.int _ i)=>bif Dy P A then 0<=i/\i<((n:Nat):Int)/\∃a:ByteArray,F[i.toNat]? =some (.string a)/\K (.string a) []else cF (JJ P A) (0<=i/\i<((n:Nat):Int)/\∃a:Int,F[i.toNat]? =some (.int .i64 a)/\K (.int .i64 a) [])
  |_,_,_=>fP P o E K
 |.slice d c lo q x=>cF (E.dQ o) (match P.underlying d,E.val c with
  |some (.slice _),some (.slice a n j)=>match wH P d with
   |some y=>mb (x.map E.ev) j j λm=>mb (q.map E.ev) m n λk=>cF (x.isNone||q.isSome) (mb (lo.map E.ev) k 0 λl=>
     K (.slice (if m=l then a else a.map (·.add (l *y))) (k - l) (m - l)) [])
   |none=>False
  |some .string,some (.string s)=>cF x.isNone (mb (q.map E.ev) s.size s.size λk=>mb (lo.map E.ev) k 0 λl=>K (.string (s.extract l k)) [])
  |some (.array n A),some (.pointer (some p))=>match P.info? A with
   |some inf=>mb (x.map E.ev) n n λm=>mb (q.map E.ev) m n λk=>cF (x.isNone||q.isSome) (mb (lo.map E.ev) k 0 λl=>
     K (.slice (some (if m=l then p else p.add (l *inf.size))) (k - l) (m - l)) [])
   |none=>False
  |_,_=>False)
 |.binOp .quo _ c e _=>bif isConst e then fP P o E K else match E.val c,E.val e with
  |some (.int h a),some (.int B b)=>cF (h==B) (b≠0/\K (.int h (h.wrap (a.tdiv b))) [])
  |_,_=>False
 |.binOp .rem _ c e _=>bif isConst e then fP P o E K else match E.val c,E.val e with
  |some (.int h a),some (.int B b)=>cF (h==B) (b≠0/\K (.int h (a.tmod b)) [])
  |_,_=>False
 |.binOp .eql d c (.const j) _=>bif ns P d j then(match mw (E.val c) j with
  |some b=>K (.bool b) []
  |none=>False)else rJ P o E d c (.const j) false K
 |.binOp .neq d c (.const j) _=>bif ns P d j then(match mw (E.val c) j with
  |some b=>K (.bool !b) []
  |none=>False)else rJ P o E d c (.const j) true K
 |.binOp .eql d c e _=>rJ P o E d c e false K
 |.binOp .neq d c e _=>match P.underlying d,E.val c,E.val e with
  |some (.pointer _),some (.pointer p),some (.pointer D)=>oK P (binOp .neq d (.pointer p) (.pointer D)) (.bool true) w K
  |_,_,_=>rJ P o E d c e true K
 |.binOp .add _ c e _=>match E.val c,E.val e with
  |some (.string s),some (.string t)=>¬(((s.size+t.size:Nat):Int)>IntKind.i64.max)/\K (.string (s++t)) []
  |_,_=>fP P o E K
 |.binOp .shl _ c e _=>bif isConst e then fP P o E K else match E.val c,E.val e with
  |some (.int h a),some (.int _ b)=>¬b<0/\K (.int h (h.wrap (a *2^(min b.toNat h.bits)))) []
  |_,_=>False
 |.binOp .shr _ c e _=>bif isConst e then fP P o E K else match E.val c,E.val e with
  |some (.int h a),some (.int _ b)=>¬b<0/\K (.int h (a.fdiv (2^(min b.toNat h.bits)))) []
  |_,_=>False
 |.lookup d c u ok=>match E.val c,E.val u with
  |some m,some h=>oK P (Instr.lookup d m h ok) (zeroOf P o.type) w K
  |_,_=>False
 |.convert s z c=>match P.underlying s,P.underlying z,E.val c with
  |some (.slice _),some .string,some v=>oK P (convert s z v) (.string (av #[])) w K
  |some (.pointer _),some .unsafePointer,some v=>oK P (convert s z v) (.pointer none) w K
  |some .unsafePointer,some (.pointer _),some v=>oK P (convert s z v) (.pointer none) w K
  |_,_,_=>fP P o E K
 |.call {callee:=.builtin .len,args,argTypes}=>match args.toList,argTypes.toList with
  |[c],[d]=>match P.underlying d,E.val c with
   |some (.map _ _),some m=>oK P (Builtin.len_ #[d] o.type #[m]) (.int .i64 0) w K
   |_,_=>fP P o E K
  |_,_=>fP P o E K
 |_=>fP P o E K
def Rc(op:BinOp)(T:aF)(x y:Operand)(a b:ab):Sem ab:=do eqGuard op T x y a b;binOp op T a b
def By(P:aR)(o:Oper):Bool:=match o.op with
 |.binOp .eql c _ _ _|.binOp .neq c _ _ _=>match P.underlying c with
  |some (.interface _)=>true
  |_=>false
 |_=>false
def Im(P:aR)(o:Oper)(E:Env)(w:C)(K:ab->List (C->Prop)->Prop):Prop:=match o.op with
 |.binOp h e c d _=>match E.val c,E.val d with
  |some a,some b=>oK P (Rc h e c d a b) (.bool true) w K
  |_,_=>False
 |_=>False
def me(P:aR)(o:Oper)(E:Env)(w:C)(K:ab->List (C->Prop)->Prop):Prop:=bif By P o then Im P o E w K else wz P o E w K
def oQ(p:Addr):List ab->Nat->C->(C->Prop)->Prop
 |[],_,c,d=>d c
 |v::e,i,c,d=>(c.cell? (p.add i)).isSome=true/\c.frozen? (p.add i)=false/\oQ p e (i+1) (c.setCell (p.add i) v) d
def n7(P:aR)(o:Oper)(E:Env)(w:C)(K:ab->C->Prop):Prop:=
 cF (E.dQ o) (match(execOp E.ev o).run P w with
  |.ok (.value v) c=>K v c
  |.ok .skip c=>K undef c
  |_=>False)
def pD(P:aR)(s:Sem ab)(d:ab)(w:C)(K:ab->C->Prop):Prop:=
 mj d λv=>∃c,s.run P w=.ok v c/\K v c
def G'(P:aR)(s:Sem Unit)(w:C)(K:ab->C->Prop):Prop:=
 ∃c,s.run P w=.ok () c/\K undef c
def gx(P:aR)(f:bW):Bool:=match P.funcs[f]? with |some fn=>fn.body.isSome&&!(fn.name=="runtime.NumGoroutine")|none=>false
def ud(P:aR)(f:bW)(args:Array ab)(d:ab)(w:C)(K:ab->C->Prop):Prop:=
 mj d λv=>∃c,(callFunc f args).run P w=.ok (.value v) c/\K v c
def nY(P:aR)(f:bW)(args:Array ab)(e:ab)(w:C)(K:ab->C->Prop):Prop:=
 ah P f args w λc d=>mj e λv=>c=U v/\K v d
def qn:ab->Bool
 |.agg _=>false
 |.tuple _=>false
 |_=>true
def gZ(P:aR)(o:Oper)(E:Env)(w:C)(K:ab->C->Prop):Prop:=
 match o.op with
 |.store d x y=>match E.val x,E.val y with
  |some (.pointer (some p)),some v=>cF (v.cells.size==(match P.info? d with |some i=>i.size|none=>0)&&v.cells.toList.all qn&&(P.info? d).isSome) (oQ p v.cells.toList 0 w λw'=>K undef w')
  |_,_=>False
 |.mapUpdate d m e v|.insert d m e v=>match E.val m,E.val e,E.val v with
  |some m,some e,some v=>G' P (Instr.mapUpdate d m e v) w K
  |_,_,_=>False
 |.call {callee:=.builtin b,args,argTypes}=>cF (E.dQ o) (match b with
  |.append=>pD P (bg argTypes o.type (args.map E.ev)) (.slice none 0 0) w K
  |.copy=>pD P (Builtin.copy_ argTypes o.type (args.map E.ev)) (.int .i64 0) w K
  |.unsafeSliceData=>pD P (Builtin.unsafeSliceData_ argTypes o.type (args.map E.ev)) (.pointer none) w K
  |.unsafeString=>pD P (Builtin.unsafeString_ argTypes o.type (args.map E.ev)) (.string (av #[])) w K
  |.delete=>∃w',(Builtin.delete_ argTypes o.type (args.map E.ev)).run P w=.ok undef w'/\K undef w'
  |.clear=>∃w',(Builtin.clear_ argTypes o.type (args.map E.ev)).run P w=.ok (.tuple #[]) w'/\K (.tuple #[]) w'
  |_=>False)
 |.call {callee:=.value (.func f),args,..}=>cF (E.dQ o) (bif gx P f then nY P f (args.map E.ev) (zeroOf P o.type) w K else ud P f (args.map E.ev) (zeroOf P o.type) w K)
 |.call {callee:=.value (.tmp t),args,..}=>cF (E.dQ o) (match E.get? t with
  |some (.func (.func f) first captured)=>cF (gx P f) (nY P f (first++args.map E.ev++captured) (zeroOf P o.type) w K)
  |_=>False)
 |.makeSlice d l c=>match E.val l,E.val c with
  |some l,some c=>pD P (Instr.makeSlice d l c) (.slice none 0 0) w K
  |_,_=>False
 |.range d x=>match E.val x with
  |some x=>∃v w',(Instr.range d x).run P w=.ok v w'/\K v w'
  |_=>False
 |.next it s=>match E.val it with
  |some it=>(∃w',(Instr.next it s o.type).run P w=.ok (.tuple #[.bool false]) w'/\K (.tuple #[.bool false]) w')\/
    (match s with
     |true=>∃(i c:Int) (w':C),(Instr.next it s o.type).run P w=.ok (.tuple #[.bool true,.int .i64 i,.int .i32 c]) w'/\K (.tuple #[.bool true,.int .i64 i,.int .i32 c]) w'
     |false=>∃(x y:ab) (w':C),(Instr.next it s o.type).run P w=.ok (.tuple #[.bool true,x,y]) w'/\K (.tuple #[.bool true,x,y]) w')
  |_=>False
 |.entry it=>match E.val it with
  |some it=>∃(x y:ab) (w':C),(Instr.entry it).run P w=.ok (.tuple #[x,y]) w'/\K (.tuple #[x,y]) w'
  |_=>False
 |.convert s h x=>match E.val x with
  |some v=>pD P (convert s h v) (.slice none 0 0) w K
  |_=>False
 |_=>n7 P o E w K
def VU(P:aR)(l:Nat)(args:Array ab)(w:C)(K:ab->C->Prop):Prop:=
 YieldAt Fence.wide 0 P l args w λc d=>∃b:Bool,c=U (.bool b)/\K (.bool b) d
def rz(P:aR)(o:Oper)(E:Env)(w:C)(K:ab->C->Prop):Prop:=
 match o.op with
 |.call {callee:=.value (.tmp t),args,..}=>match E.get? t with
  |some (.func (.yield l) d c)=>cF (E.dQ o&&(cv d.size 0&&cv c.size 0)) (VU P l (args.map E.ev) w K)
  |_=>gZ P o E w K
 |_=>gZ P o E w K
abbrev ao(w:C)(p:Addr)(v:ab)(K:C->Prop):Prop:=(w.cell? p).isSome=true/\w.frozen? p=false/\K (w.setCell p v)
abbrev aK(w:C)(o:Obj)(K:C->Prop):Prop:=K (w.alloc o)
abbrev kU(w:C)(l:Nat)(a b:Obj)(K:C->Prop):Prop:=w.heap[l]? =some a/\K (w.putObj l b)
abbrev dM(w:C)(K:C->Prop):Prop:=K w.drew
def IC{P:aR}{T:aF}{b:Bool}(h:pd P T=some b)(w:C):(isAgg T).run P w=.ok b w:=by
 unfold pd at h;unfold isAgg;cases c:P.underlying T with
 |none=>grind
 |some d=>rw[c]at h;cases d<;>simp[run_underlying c]at h ⊢<;>first |exact h|simp[<-h]
def vl{P:aR}{T:aF}{p:Addr}{v:ab}{w:C}(c:pd P T=some false)(d:w.cell? p=some v):(loadVar T p).run P w=.ok v w:=by simp[loadVar,IC c,d]
def K7{P:aR}{T:aF}{p:Addr}{vs:List ab}{i:TypeInfo}{w:C}(d:pd P T=some true)(hi:P.info? T=some i)(h:i.size=vs.length)(e:∀c v,vs[c]? =some v->w.cell? (p.add c)=some v):(loadVar T p).run P w=.ok (.agg vs.toArray) w:=by have:=run_loadCells_list (P:=P) w p vs e;simp[loadVar,IC d,sizeOf,typeInfo,hi,h,this]
def Calm(P:aR)(o:Oper)(ρ:Operand->ab)(w:C)(v:ab)(e:List (C->Prop)):Prop:=
 (∀c∈e,c w)/\∀d,(∀c∈e,c d)->(execOp ρ o).run P d=.ok (.value v) d
def Kb{P:aR}{o:Oper}{E:Env}{w:C}{n:Cx}{a:Act}{K:ab->List (C->Prop)->Prop}(q:∀d b,o.op≠.select d b)(j:Ag n a E)(h:fP P o E K):∃v c,K v c/\Calm P o a.eval w v c:=by
 obtain⟨k,h⟩:=dU h;split at h
 .rename_i v u;refine⟨v,[],h,λc e=>(by cases e),λx _=>?_⟩;rw[j.execOp q k];exact Ka u x
 grind
def qs{P:aR}{s:Sem ab}{q:ab}{w:C}{K:ab->List (C->Prop)->Prop}{o:Oper}{ρ:Operand->ab}(j:execOp ρ o=(do pure (.value (<-s))))(h:oK P s q w K):∃v c,K v c/\Calm P o ρ w v c:=by
 obtain⟨v,x,e⟩:=Qb h;refine⟨v,_,e,λc u=>?_,λd n=>?_⟩
 .grind
 .have k:s.run P d=.ok v d:=n _ (cO.2 rfl);rw[j];simp[k]
def nX{P:aR}{x:Option ab}{y d:Nat}{K:Nat->Prop}(h:mb x y d K):∃l,K l/\((x=none/\l=d)\/∃v,x=some v/\∀code c,(Instr.sliceBound v y code).run P c=.ok l c):=by
 unfold mb at h;split at h
 .grind
 .rename_i n i;obtain⟨e,j,k⟩:=h;refine⟨_,k,.inr ⟨_,rfl,λcode c=>?_⟩⟩;simp[Instr.sliceBound,asIntOf,e,j]
 grind
def Eh{P:aR}{k:Bool}{n c m h l:Nat}{L H M:Option ab}{w:C}(j:(M=none/\m=c)\/∃v,M=some v/\∀code w,(Instr.sliceBound v c code).run P w=.ok m w)(d:(H=none/\h=n)\/∃v,H=some v/\∀code w,(Instr.sliceBound v m code).run P w=.ok h w)(e:(L=none/\l=0)\/∃v,L=some v/\∀code w,(Instr.sliceBound v h code).run P w=.ok l w)(q:M≠none->H=none->False):(Instr.sliceBounds k n c L H M).run P w=.ok (l,h,m) w:=by unfold Instr.sliceBounds;rcases j with⟨rfl,rfl⟩|⟨z,rfl,u⟩<;>rcases d with⟨rfl,rfl⟩|⟨A,rfl,x⟩<;>rcases e with⟨rfl,rfl⟩|⟨B,rfl,y⟩<;>first |(simp[*];done)|grind
def BM{P:aR}{T:aF}{p:Addr}{w:C}{K:ab->List (C->Prop)->Prop}(h:lC P T p w K):
  ∃v u,K v u/\(∀s∈u,s w)/\∀j,(∀s∈u,s j)->(loadVar T p).run P j=.ok v j:=by
 obtain⟨c,h⟩:=dU h;unfold v' at c;cases q:zeroOf P T with
 |agg E=>
  rw[q]at h c;simp only at h c;obtain⟨G,F,h⟩:=A8 h;obtain⟨n,d⟩:=rh h;rw[bC]at c;obtain⟨y,z⟩:=c;cases A:P.info? T with
  |none=>grind
  |some i=>
   rw[A]at z;simp at z y;refine⟨_,_,d,?_,λj e=>?_⟩
   .intro s k;obtain⟨⟨v,x⟩,D,rfl⟩:=dv.1 k;exact n _ (dv.2 ⟨(v,x),D,rfl⟩)
   .refine K7 y A (by grind) (λx v B=>?_);have:=e _ (dv.2 ⟨(v,x),List.mem_zipIdx_iff_getElem?.2 B,rfl⟩);omega
 |nilIface=>
  rw[q]at h c;simp at c;rcases h with⟨t,H,n,d⟩|⟨n,d⟩
  .refine ⟨_,_,d,λs k=>?_,λj e=>?_⟩
   .grind
   .exact vl c (e _ (cO.2 rfl))
  .refine ⟨_,_,d,λs k=>?_,λj e=>?_⟩
   .grind
   .exact vl c (e _ (cO.2 rfl))
 |nilFunc=>
  rw[q]at h c;obtain⟨f,n,d⟩:=h;simp at c;refine⟨f.v,_,d,λs k=>?_,λj e=>?_⟩
  .grind
  .exact vl c (e _ (cO.2 rfl))
 |_=>
  rw[q]at h c;try simp only at h
  try simp only at c
  obtain⟨v,n,d⟩:=A7 h;simp at c;refine⟨v,_,d,λs k=>?_,λj e=>?_⟩
  .simp at k;subst k;exact n
  .exact vl c (e _ (cO.2 rfl))
def He{P:aR}{T:aF}{sz:Nat}(h:wH P T=some sz):∃c i,P.underlying T=some (.slice c)/\P.info? c=some i/\i.size=sz:=by
 unfold wH at h;split at h
 .rename_i c d;cases e:P.info? c with
  |none=>grind
  |some i=>grind
 grind
def yf{v c:ab}{b:Bool}(h:mw (some v) c=some b):(∃a e m j d,v=.slice a e m/\c=.slice none j d/\b=a.isNone)\/(∃a,v=.pointer a/\c=.pointer none/\b=a.isNone)\/(∃r,v=.map r/\c=.map none/\b=r.isNone):=by
 unfold mw at h
 grind
def Jv{P:aR}{T:aF}{c v:ab}{b:Bool}(d:ns P T c=true)(j:mw (some v) c=some b)(w:C):(Op.equal T v c).run P w=.ok b w:=by
 unfold Op.equal Op.maxDepth Op.equalIn;cases e:P.underlying T with
 |none=>simp[ns,e]at d
 |some h=>
  simp only[Sem.run_bind,run_underlying e,Result.andThen_ok];unfold ns at d;rw[e]at d;rcases yf j with⟨a,n,m,q,k,rfl,rfl,rfl⟩|⟨a,rfl,rfl,rfl⟩|⟨a,rfl,rfl,rfl⟩<;>cases h<;>first |(cases d;done)|(cases a<;>rfl)
def SE{P:aR}{T:aF}{c v:ab}{b:Bool}(e:ns P T c=true)(d:mw (some v) c=some b)(w:C):(binOp .eql T v c).run P w=.ok (.bool b) w:=by have:=Jv e d w;rcases yf d with⟨a,j,m,k,h,rfl,rfl,rfl⟩|⟨a,rfl,rfl,rfl⟩|⟨a,rfl,rfl,rfl⟩<;>simp[binOp,this]
def SG{P:aR}{T:aF}{c v:ab}{b:Bool}(e:ns P T c=true)(d:mw (some v) c=some b)(w:C):(binOp .neq T v c).run P w=.ok (.bool !b) w:=by have:=Jv e d w;rcases yf d with⟨a,j,m,k,h,rfl,rfl,rfl⟩|⟨a,rfl,rfl,rfl⟩|⟨a,rfl,rfl,rfl⟩<;>simp[binOp,this]
def Jw{P:aR}{op:BinOp}{T:aF}{c v:ab}{b:Bool}{p e:Operand}(d:mw (some v) c=some b)(w:C):(eqGuard op T p e v c).run P w=.ok () w:=by rcases yf d with⟨a,j,m,k,h,rfl,rfl,rfl⟩|⟨a,rfl,rfl,rfl⟩|⟨a,rfl,rfl,rfl⟩<;>cases op<;>rfl
set_option maxHeartbeats 1000000 in
def sD{P:aR}{t:aF}{u:TypeDesc}(h:P.underlying t=some u)(c:(match u with |.struct _|.array _ _=>true|_=>false)=false){xs:Array ab}{off:Nat}{v:ab}(d:xs[off]? =some v)(w:C):(part t xs off).run P w=.ok v w:=by unfold part isAgg;cases u<;>first |(simp at c;done)|simp[run_underlying h,d]
def wN{P:aR}{xs A:Array ab}(d:Nat)(w:C):∀(j:List Field) (b:Bool),ub P xs A j=some b->(Op.eqFields (d+1) xs A j).run P w=.ok b w
 |[],b,c=>by simp[ub]at c;subst c;rfl
 |f::j,b,c=>by
  unfold ub at c;cases D:(f.name=="_")with
  |true=>grind
  |false=>
   rw[D]at c;simp only[cond_false]at c;have E:f.name≠"_":=by grind
   unfold Op.eqFields;rw[aA E];split at c
   .rename_i G z a F h r e n q k;cases y:decide (z=F)with
    |false=>grind
    |true=>
     rw[y]at c;have B:=hC y;subst B;simp only[cond_true,fb]at c;subst c;have u:=wN d w j r k;simp only[Sem.run_bind,sD e rfl n w,sD e rfl q w,Result.andThen_ok,run_equalIn_int w d f.type z G a h e];cases x:(a==h)<;>simp[u]
   .rename_i a h r e n q k;simp only[fb]at c;subst c;have u:=wN d w j r k;simp only[Sem.run_bind,sD e rfl n w,sD e rfl q w,Result.andThen_ok,run_equalIn_string w d f.type a h e];cases x:(a.toList==h.toList)<;>simp[u]
   .rename_i a h r e n q k;simp only[fb]at c;subst c;have u:=wN d w j r k;simp only[Sem.run_bind,sD e rfl n w,sD e rfl q w,Result.andThen_ok,run_equalIn_bool w d f.type a h e];cases x:(a==h)<;>simp[u]
   grind
def NC{P:aR}{T:aF}{xs c:Array ab}{b:Bool}(h:z1 P T xs c=some b)(w:C):P.eqGuardType P.depth T=false/\(Op.equalIn 10000 T (.agg xs) (.agg c)).run P w=.ok b w:=by
 unfold z1 at h;split at h
 .rename_i e q;cases d:(!P.stoodInHeld T&&!P.eqGuardType P.depth T)with
  |false=>grind
  |true=>
   rw[d]at h;simp only[cond_true]at h;rw[bC]at d;have j:P.stoodInHeld T=false:=by grind
   have k:P.eqGuardType P.depth T=false:=by grind
   have n:P.fieldsOf T=e:=by unfold Program.fieldsOf;rw[q]
   refine⟨k,?_⟩;rw[run_equalIn_struct w 9999 T xs c (by grind) j,n];exact wN 9998 w _ _ h
 grind
def wO{P:aR}{o:Oper}{E:Env}{w:C}{n:Cx}{a:Act}{K:ab->List (C->Prop)->Prop}{op:BinOp}{T z:aF}{x y:Operand}{neg:Bool}(I:∀A b,o.op≠.select A b)(j:Ag n a E)(H:o.op=.binOp op T x y z)(F:(op=.eql/\neg=false)\/(op=.neq/\neg=true))(h:rJ P o E T x y neg K):∃v e,K v e/\Calm P o a.eval w v e:=by
 unfold rJ at h;split at h
 .rename_i c d J L;split at h
  .rename_i b G;refine⟨_,_,h,λe D=>(by cases D),λk _=>?_⟩;obtain⟨q,u⟩:=NC G k;have B:execOp a.eval o=(do pure (.value (<-(do eqGuard op T x y (.agg c) (.agg d);binOp op T (.agg c) (.agg d))))):=by simp only[execOp,H,j.val J,j.val L]
   rw[B];rcases F with⟨rfl,rfl⟩|⟨rfl,rfl⟩
   .simp only[Sem.run_bind,run_eqGuard_agg k _ T x y c d q,Result.andThen_ok,run_eql_struct,u];rfl
   .simp only[Sem.run_bind,run_eqGuard_agg k _ T x y c d q,Result.andThen_ok,run_neq_struct,u];rfl
  grind
 .exact Kb I j h
def Po{P:aR}{o:Oper}{E:Env}{w:C}{n:Cx}{a:Act}{K:ab->List (C->Prop)->Prop}(hs:∀cs b,o.op≠.select cs b)(e:Ag n a E)(h:wz P o E w K):∃v u,K v u/\Calm P o a.eval w v u:=by
 have pure':fP P o E K->∃v u,K v u/\Calm P o a.eval w v u:=Kb hs e;unfold wz at h;split at h
 .
  rename_i x y d;split at h
  .rename_i p c;obtain⟨v,u,k,F,h2⟩:=BM h;refine⟨v,u,k,F,λq au=>?_⟩;simp[execOp,d,Instr.loadAt,e.val c,Instr.sureAddr,h2 q au]
  grind
 .
  rename_i y d;split at h
  .rename_i av c;obtain⟨p,rfl,k⟩:=sc h;refine⟨_,_,k,λu j=>(by cases j),λq _=>?_⟩;simp[execOp,d,e.val c]
  grind
 .
  rename_i x y ix d;split at h
  .rename_i b n G M i c A;split at h
   .rename_i sz ac;obtain⟨I,F,h⟩:=h;obtain⟨p,rfl,k⟩:=sc h;obtain⟨O,inf,D,J,rfl⟩:=He ac;refine⟨_,_,k,λu j=>(by cases j),λq _=>?_⟩;simp[execOp,d,e.val c,e.val A,Instr.indexAt,asIntOf,run_underlying D,I,F,sizeOf,typeInfo,J]
   grind
  .rename_i p M i c A;split at h
   .rename_i n sz ac;obtain⟨I,F,k⟩:=h;obtain⟨O,inf,D,J,rfl⟩:=NL ac;refine⟨_,_,k,λu j=>(by cases j),λq _=>?_⟩;simp[execOp,d,e.val c,e.val A,Instr.indexAt,Instr.sureAddr,asIntOf,run_underlying D,I,F,sizeOf,typeInfo,J]
   grind
  grind
 .
  rename_i x y ix d;split at h
  .rename_i s M i D c A;obtain⟨I,b,B,k⟩:=h;refine⟨_,_,k,λu j=>(by cases j),λq _=>?_⟩;simp[execOp,d,e.val c,e.val A,Instr.index,asIntOf,run_underlying D,I,B]
  .rename_i n O cs M i D c A;cases hz:Dy P O with
   |true=>
    rw[hz]at h;obtain⟨I,L,b,B,k⟩:=h;unfold Dy at hz;split at hz
    .rename_i inf ah J;have F:inf.size=1:=by grind
     refine⟨_,_,k,λu j=>(by cases j),λq _=>?_⟩;simp[execOp,d,e.val c,e.val A,Instr.index,asIntOf,run_underlying D,I,L,sizeOf,typeInfo,J,F,part,isAgg,run_underlying ah,B]
    grind
   |false=>
   rw[hz]at h;obtain⟨F,I,L,b,B,k⟩:=dU h;unfold JJ at F;split at F
   .rename_i z inf ah J;have F:inf.size=1:=by grind
    refine⟨_,_,k,λu j=>(by cases j),λq _=>?_⟩;simp[execOp,d,e.val c,e.val A,Instr.index,asIntOf,run_underlying D,I,L,sizeOf,typeInfo,J,F,part,isAgg,run_underlying ah,B]
   grind
  grind
 .
  rename_i x y lo A Q d;obtain⟨an,h⟩:=dU h;have ad:∀z∈o.op.operands,(E.val z).isSome=true:=λz H=>fF.1 an z (by grind);have ag:lo.map a.eval=lo.map E.ev:=by
   cases lo with
   |none=>rfl
   |some z=>simp only[Option.map_some];rw[e.ev (ad z (by rw[d];simp[Op.operands]))]
  have ae:A.map a.eval=A.map E.ev:=by
   cases A with
   |none=>rfl
   |some z=>simp only[Option.map_some];rw[e.ev (ad z (by rw[d];simp[Op.operands]))]
  have ak:Q.map a.eval=Q.map E.ev:=by
   cases Q with
   |none=>rfl
   |some z=>simp only[Option.map_some];rw[e.ev (ad z (by rw[d];simp[Op.operands]))]
  split at h
  .rename_i O b n G D c;split at h
   .rename_i sz ac;obtain⟨m,h,hm⟩:=nX (P:=P) h;obtain⟨Y,h,Z⟩:=nX (P:=P) h;obtain⟨ap,h⟩:=dU h;obtain⟨l,k,hl⟩:=nX (P:=P) h;obtain⟨e',inf,am,J,rfl⟩:=He ac;rw[am]at D;cases D;refine⟨_,_,k,λu j=>(by cases j),λq _=>?_⟩;have aa:(Instr.sliceBounds true n G (lo.map E.ev) (A.map E.ev) (Q.map E.ev)).run P q=.ok (l,Y,m) q:=by refine Eh hm Z hl ?_;intro F h2;cases Q<;>cases A<;>simp_all
    simp only[execOp,d,e.val c,ag,ae,ak];simp[Instr.sliceAt,run_underlying am,Instr.slice,aa,sizeOf,typeInfo,J]
   grind
  .rename_i s D c;obtain⟨aq,h'⟩:=dU h;clear h;have ar:Q=none:=by simpa using aq
   subst ar;obtain⟨Y,h,Z⟩:=nX (P:=P) h';obtain⟨l,k,hl⟩:=nX (P:=P) h;refine⟨_,_,k,λu j=>(by cases j),λq _=>?_⟩;have aa:(Instr.sliceBounds false s.size s.size (lo.map E.ev) (A.map E.ev) none).run P q=.ok (l,Y,s.size) q:=by exact Eh (.inl ⟨rfl,rfl⟩) Z hl (λF _=>absurd rfl F)
   simp only[execOp,d,e.val c,ag,ae];simp[Instr.sliceAt,run_underlying D,Instr.slice,aa]
  .rename_i n O p D c;split at h
   .rename_i inf J;obtain⟨m,h,hm⟩:=nX (P:=P) h;obtain⟨Y,h,Z⟩:=nX (P:=P) h;obtain⟨ap,h⟩:=dU h;obtain⟨l,k,hl⟩:=nX (P:=P) h;refine⟨_,_,k,λu j=>(by cases j),λq _=>?_⟩;have aa:(Instr.sliceBounds false n n (lo.map E.ev) (A.map E.ev) (Q.map E.ev)).run P q=.ok (l,Y,m) q:=by refine Eh hm Z hl ?_;intro F h2;cases Q<;>cases A<;>simp_all
    simp only[execOp,d,e.val c,ag,ae,ak];simp[Instr.sliceAt,Instr.sureAddr,run_underlying D,aa,sizeOf,typeInfo,J]
   grind
  grind
 .
  rename_i x y z N d;cases T:isConst z with
  |true=>grind
  |false=>
   rw[T]at h;simp only[cond_false]at h;split at h
   .rename_i M i k' ai c H;obtain⟨ao,W,k⟩:=dU h;have af:M=k':=by grind
    subst af;refine⟨_,_,k,λu j=>(by cases j),λq _=>?_⟩;simp[execOp,d,e.val c,e.val H,eqGuard,binOp,Op.intDiv,W]
   grind
 .
  rename_i x y z N d;cases T:isConst z with
  |true=>grind
  |false=>
   rw[T]at h;simp only[cond_false]at h;split at h
   .rename_i M i k' ai c H;obtain⟨ao,W,k⟩:=dU h;have af:M=k':=by grind
    subst af;refine⟨_,_,k,λu j=>(by cases j),λq _=>?_⟩;simp[execOp,d,e.val c,e.val H,eqGuard,binOp,Op.intDiv,W]
   grind
 .
  rename_i x y G N d;cases L:ns P x G with
  |false=>rw[L]at h;exact wO hs e d (.inl ⟨rfl,rfl⟩) h
  |true=>
   rw[L]at h;simp only[cond_true]at h;split at h
   .rename_i b B;refine⟨_,_,h,λu j=>(by cases j),λq _=>?_⟩;cases c:E.val y with
    |none=>rw[c]at B;simp[mw]at B
    |some v=>
     rw[c]at B;have S:execOp a.eval o=(do pure (.value (<-(do eqGuard .eql x y (.const G) v G;binOp .eql x v G)))):=by simp only[execOp,d,e.val c];rfl
     rw[S];simp[Jw B q,SE L B q]
   grind
 .
  rename_i x y G N d;cases L:ns P x G with
  |false=>rw[L]at h;exact wO hs e d (.inr ⟨rfl,rfl⟩) h
  |true=>
   rw[L]at h;simp only[cond_true]at h;split at h
   .rename_i b B;refine⟨_,_,h,λu j=>(by cases j),λq _=>?_⟩;cases c:E.val y with
    |none=>rw[c]at B;simp[mw]at B
    |some v=>
     rw[c]at B;have S:execOp a.eval o=(do pure (.value (<-(do eqGuard .neq x y (.const G) v G;binOp .neq x v G)))):=by simp only[execOp,d,e.val c];rfl
     rw[S];simp[Jw B q,SG L B q]
   grind
 .
  rename_i x y z N _ d;exact wO hs e d (.inl ⟨rfl,rfl⟩) h
 .rename_i x y z N _ d;split at h
  .rename_i p av D c H;refine qs ?_ h;simp only[execOp,d,e.val c,e.val H];rfl
  .exact wO hs e d (.inr ⟨rfl,rfl⟩) h
 .
  rename_i x y z N d;split at h
  .rename_i s t c H;obtain⟨I,k⟩:=h;refine⟨_,_,k,λu j=>(by cases j),λq _=>?_⟩;have S:execOp a.eval o=(do pure (.value (<-(do eqGuard .add x y z (.string s) (.string t);binOp .add x (.string s) (.string t))))):=by simp only[execOp,d,e.val c,e.val H]
   rw[S];simp only[eqGuard,binOp,Op.stringOp,I];rfl
  grind
 .
  rename_i x y z N d;cases T:isConst z with
  |true=>grind
  |false=>
   rw[T]at h;simp only[cond_false]at h;split at h
   .rename_i M i k' ai c H;obtain⟨W,k⟩:=h;refine⟨_,_,k,λu j=>(by cases j),λq _=>?_⟩;simp[execOp,d,e.val c,e.val H,eqGuard,binOp,Op.shift,W]
   grind
 .
  rename_i x y z N d;cases T:isConst z with
  |true=>grind
  |false=>
   rw[T]at h;simp only[cond_false]at h;split at h
   .rename_i M i k' ai c H;obtain⟨W,k⟩:=h;refine⟨_,_,k,λu j=>(by cases j),λq _=>?_⟩;simp[execOp,d,e.val c,e.val H,eqGuard,binOp,Op.shift,W]
   grind
 .
  rename_i x y ix ok d;split at h
  .rename_i m M c A;exact qs (by simp[execOp,d,e.val c,e.val A]) h
  grind
 .
  rename_i s ax y d;split at h
  .rename_i O v al aj c;exact qs (by simp[execOp,d,e.val c]) h
  .rename_i O v al aj c;exact qs (by simp[execOp,d,e.val c]) h
  .rename_i O v al aj c;exact qs (by simp[execOp,d,e.val c]) h
  grind
 .
  rename_i args aw d;split at h
  .rename_i y x c hT;split at h
   .rename_i kt et m D hm;refine qs ?_ h;have S:args=#[y]:=by grind
    have e2:aw=#[x]:=by grind
    simp[execOp,d,S,e2,resolve,invoke,builtin,e.val hm]
   grind
  grind
 grind
def wA{P:aR}{o:Oper}{E:Env}{w:C}{n:Cx}{a:Act}{K:ab->List (C->Prop)->Prop}(q:∀j b,o.op≠.select j b)(c:Ag n a E)(h:me P o E w K):∃v d,K v d/\Calm P o a.eval w v d:=by
 unfold me at h;cases e:By P o with
 |false=>rw[e]at h;exact Po q c h
 |true=>
  rw[e]at h;simp only[cond_true]at h;unfold Im at h;split at h
  .rename_i A y D F z k;split at h
   .rename_i B v u x;refine qs ?_ h;simp only[execOp,k,c.val u,c.val x];rfl
   grind
  grind
def LJ{P:aR}{p:Addr}:∀{vs:List ab} {i:Nat} {w:C} {K:C->Prop},vs.all qn=true->oQ p vs i w K->
  ∃d,(storeCells p vs i).run P w=.ok () d/\K d
 |[],i,w,K,_,c=>⟨w,by simp[storeCells],c⟩
 |v::vs,i,w,K,e,c=>by
  obtain⟨j,k,c⟩:=c;rw[List.all_cons,bC]at e;obtain⟨d,q,n⟩:=LJ (P:=P) e.2 c;refine⟨d,?_,n⟩;obtain⟨y,x⟩:=Option.isSome_iff_exists.1 j;have u:(store (p.add i) v).run P w=.ok () (w.setCell (p.add i) v):=by have h:=e.1;cases v<;>first |(simp[qn]at h;done)|simp[store,Sem.run,x,k]
  simp[storeCells,u,q]
def tC{P:aR}{f:bW}(h:gx P f=true)(args:Array ab)(w:C):(callFunc f args).run P w=.ok (.enter f args) w:=by
 unfold gx at h;cases c:P.funcs[f]? with
 |none=>grind
 |some fn=>
  rw[c]at h;simp at h;obtain⟨j,d⟩:=h;have e:fn.body≠none:=by grind
  simp[callFunc,c,d,e]
def Ag.args{n:Cx}{a:Act}{E:Env}(h:Ag n a E){args:Array Operand}(d:∀c∈args,(E.val c).isSome=true):args.map a.eval=args.map E.ev:=
 Array.map_congr_left λc e=>h.ev (d c e)
def im(P:aR)(o:Oper)(a:Act)(w:C)(K:ab->C->Prop):Prop:=
 ∀c:Exit->Act->C->Prop,o.wp P a w (λd e=>∃v,d=a.put o.dst v/\K v e) c
def GF{P:aR}{f:bW}{args:Array ab}{e:ab}{w:C}{K:ab->C->Prop}{o:Oper}{a:Act}(d:(execOp a.eval o).run P w=.ok (.enter f args) w)(h:nY P f args e w K):im P o a w K:=by
 intro j;unfold Oper.wp;rw[d];simp only[Oper.upon];refine Calls.mono h λk q c=>?_;obtain⟨v,rfl,n⟩:=pO c
 grind
def ry{P:aR}{s:Sem ab}{e:ab}{w:C}{K:ab->C->Prop}{o:Oper}{a:Act}(d:execOp a.eval o=(do pure (.value (<-s))))(h:pD P s e w K):im P o a w K:=by
 intro j;obtain⟨v,n,c,k⟩:=pO h;unfold Oper.wp;rw[d];simp only[Sem.run_bind,c,Result.andThen_ok,Sem.run_pure,Oper.upon]
 grind
set_option maxHeartbeats 1000000 in
def mf{P:aR}{o:Oper}{E:Env}{w:C}{n:Cx}{a:Act}{K:ab->C->Prop}(hs:∀M b,o.op≠.select M b)(d:Ag n a E)(h:gZ P o E w K):im P o a w K:=by
 unfold gZ at h;split at h
 .
  rename_i D u L c;split at h
  .rename_i p v k hy;obtain⟨H,h⟩:=dU h;rw[bC,bC]at H;obtain⟨⟨O,S⟩,T⟩:=H;obtain⟨i,A⟩:=Option.isSome_iff_exists.1 T;rw[A]at O;have Q:v.cells.size=i.size:=by grind
   obtain⟨w',e,q⟩:=LJ (P:=P) S h;intro y;unfold Oper.wp;have:(execOp a.eval o).run P w=.ok .skip w':=by simp[execOp,c,Instr.storeAt,d.val k,d.val hy,Instr.sureAddr,storeVar,sizeOf,typeInfo,A,Q,e]
   rw[this];simp only[Oper.upon]
   grind
  grind
 .
  rename_i D m aa v c;split at h
  .rename_i mv kv vv F q G;obtain⟨w',e,N⟩:=h;intro y;unfold Oper.wp;have:(execOp a.eval o).run P w=.ok .skip w':=by simp[execOp,c,d.val F,d.val q,d.val G,e]
   rw[this];simp only[Oper.upon]
   grind
  grind
 .
  rename_i D m aa v c;split at h
  .rename_i mv kv vv F q G;obtain⟨w',e,N⟩:=h;intro y;unfold Oper.wp;have:(execOp a.eval o).run P w=.ok .skip w':=by simp[execOp,c,d.val F,d.val q,d.val G,e]
   rw[this];simp only[Oper.upon]
   grind
  grind
 .
  rename_i b args J c;obtain⟨z,h⟩:=dU h;have j:args.map a.eval=args.map E.ev:=d.args λu k=>fF.1 z u (by rw[c];simp[Op.operands,Call.operands,k]);split at h
  .exact ry (by simp[execOp,c,resolve,invoke,builtin,j]) h
  .exact ry (by simp[execOp,c,resolve,invoke,builtin,j]) h
  .exact ry (by simp[execOp,c,resolve,invoke,builtin,j]) h
  .exact ry (by simp[execOp,c,resolve,invoke,builtin,j]) h
  .obtain ⟨w',e,q⟩:=h;intro y;unfold Oper.wp;have:(execOp a.eval o).run P w=.ok (.value undef) w':=by simp[execOp,c,resolve,invoke,builtin,j,e]
   rw[this];simp only[Oper.upon]
   grind
  .obtain ⟨w',e,q⟩:=h;intro y;unfold Oper.wp;have:(execOp a.eval o).run P w=.ok (.value (.tuple #[])) w':=by simp[execOp,c,resolve,invoke,builtin,j,e]
   rw[this];simp only[Oper.upon]
   grind
  grind
 .
  rename_i f args J c;obtain⟨z,h⟩:=dU h;have j:args.map a.eval=args.map E.ev:=d.args λu k=>fF.1 z u (by rw[c];simp[Op.operands,Call.operands,k]);cases B:gx P f with
  |true=>
   rw[B]at h;refine GF ?_ h;simp[execOp,c,resolve,Act.eval,Deferred.ofValue,invoke,j,tC B]
  |false=>
   rw[B,cond_false]at h;unfold ud at h;obtain⟨v,w',e,q⟩:=pO h;intro y;unfold Oper.wp;have:(execOp a.eval o).run P w=.ok (.value v) w':=by simp[execOp,c,resolve,Act.eval,Deferred.ofValue,invoke,j,e]
   rw[this];simp only[Oper.upon]
   grind
 .
  rename_i t args J c;obtain⟨z,h⟩:=dU h;have j:args.map a.eval=args.map E.ev:=d.args λu k=>fF.1 z u (by rw[c];simp[Op.operands,Call.operands,k]);split at h
  .rename_i f first captured W
   obtain⟨B,h⟩:=dU h;have Y:a.eval (.tmp t)=.func (.func f) first captured:=d.val (x:=.tmp t) W
   refine GF ?_ h;simp[execOp,c,resolve,Y,Deferred.ofValue,invoke,j,tC B]
  grind
 .
  rename_i D l ac c;split at h
  .rename_i lv cv Z z;exact ry (by simp[execOp,c,d.val Z,d.val z]) h
  grind
 .
  rename_i D u c;split at h
  .rename_i xv k;obtain⟨v,w',e,q⟩:=h;intro y;unfold Oper.wp;have:(execOp a.eval o).run P w=.ok (.value v) w':=by simp[execOp,c,d.val k,e]
   rw[this];simp only[Oper.upon]
   grind
  grind
 .
  rename_i it s c;split at h
  .rename_i I A;have fin:∀(v:ab) (w':C),(Instr.next I s o.type).run P w=.ok v w'->K v w'->im P o a w K:=λv w' e q y=>by
    unfold Oper.wp;have:(execOp a.eval o).run P w=.ok (.value v) w':=by simp[execOp,c,d.val A,e]
    rw[this];simp only[Oper.upon]
    grind
   grind
  grind
 .
  rename_i it c;split at h
  .rename_i I A;obtain⟨u,L,w',e,q⟩:=h;intro y;unfold Oper.wp;have:(execOp a.eval o).run P w=.ok (.value (.tuple #[u,L])) w':=by simp[execOp,c,d.val A,e]
   rw[this];simp only[Oper.upon]
   grind
  grind
 .
  rename_i s ad u c;split at h
  .rename_i v k;exact ry (by simp[execOp,c,d.val k]) h
  grind
 .
  obtain⟨z,h⟩:=dU h;intro y;unfold Oper.wp;rw[d.execOp hs z];generalize(execOp E.ev o).run P w=r at h;split at h
  .simp only[Oper.upon];grind
  .simp only[Oper.upon];grind
  grind
def vS(P:aR)(n:Cx)(o:Oper)(a:Act)(w:C)(K:ab->C->Prop):Prop:=
 ∀c:Exit->Act->C->Prop,o.wpIn (FW n) 0 P a w (λd e=>∃v,d=a.put o.dst v/\K v e) c
def GG{n:Cx}{P:aR}{f:bW}{args:Array ab}{w:C}{R:cQ->C->Prop}(h:ah P f args w R):CallsIn (FW n) 0 P f args w R:=by
 have c:CallsIn Fence.wide 0 P f args w R:=callsIn_wide.2 h;obtain⟨n,e,d⟩:=n;cases d with
 |none=>exact c
 |some l=>exact c
def Ub{n:Cx}{P:aR}{row:String}{args:Array ab}{w:C}{R:ab->C->Prop}(h:Rows P row args w R):RowsIn (FW n) 0 P row args w R:=by
 intro c d _;obtain⟨v,q,e,j⟩:=h c d;refine⟨v,q,e,?_⟩;have:=stepsIn_wide.2 j;obtain⟨n,u,k⟩:=n;cases k with
 |none=>exact this
 |some l=>exact this
def T2{n:Cx}{P:aR}{l:Nat}{f:bW}{tmps:Array ab}{assign body:Code}{w:C}{R:cQ->C->Prop}(h:RoundIn Fence.wide 0 P l f tmps assign body w R):RoundIn (FW n) 0 P l f tmps assign body w R:=by
 obtain⟨n,d,c⟩:=n;cases c with
 |none=>exact h
 |some l=>exact h
def MW{P:aR}{n:Cx}{o:Oper}{a:Act}{w:C}{K:Act->C->Prop}{Q:Exit->Act->C->Prop}(d:∀c,o.op≠.defer c)(h:o.wp P a w K Q):o.wpIn (FW n) 0 P a w K Q:=by
 refine⟨λ_ _=>trivial,?_⟩;rw[Oper.semAt_eq _ _ _ d];unfold Oper.wp at h;generalize(execOp a.eval o).run P w=r at *;cases r with
 |ok nx e=>
  cases nx<;>simp only[Oper.upon,Oper.uponIn]at h ⊢
  case value=>exact h
  case skip=>exact h
  case defer=>exact h
  case enter f args=>exact⟨λh=>(by cases h),GG h⟩
  case row row args=>exact⟨λh=>(by cases h),Ub h⟩
 |halt j e=>
  cases j<;>simp only[Oper.upon,Oper.uponIn]at h ⊢;exact h
def im.in{P:aR}{n:Cx}{o:Oper}{a:Act}{w:C}{K:ab->C->Prop}(e:∀d,o.op≠.defer d)(h:im P o a w K):vS P n o a w K:=λc=>MW e (h c)
def Hc{P:aR}{o:Oper}{E:Env}{w:C}{n:Cx}{a:Act}{K:ab->C->Prop}(q:∀d b,o.op≠.select d b)(e:∀u,o.op≠.defer u)(c:Ag n a E)(h:rz P o E w K):vS P n o a w K:=by
 unfold rz at h;split at h
 .rename_i t args S k;split at h
  .rename_i l A d I;obtain⟨j,N⟩:=dU h;clear h;simp only[bC,ez]at j;obtain⟨H,B,D⟩:=j;have y:A=#[]:=Array.eq_empty_of_size_eq_zero B;have z:d=#[]:=Array.eq_empty_of_size_eq_zero D;subst y z;have G:args.map a.eval=args.map E.ev:=c.args λO L=>fF.1 H O (by rw[k];simp[Op.operands,Call.operands,L]);have J:a.eval (.tmp t)=.func (.yield l) #[] #[]:=c.val (x:=.tmp t) I;intro Q;obtain⟨fn,tmps,assign,body,M,F⟩:=N;refine⟨λ_ _=>trivial,?_⟩;rw[Oper.semAt_eq _ _ _ e];have:(execOp a.eval o).run P w=.ok (.round l fn tmps assign body) w:=by simp[execOp,k,resolve,J,Deferred.ofValue,invoke,G,M]
   rw[this,Oper.uponIn_round];refine⟨λh=>(by cases h),T2 (F.mono ?_)⟩
   grind
  .exact (mf q c h).in e
 .exact (mf q c h).in e
def uZ(ops:Array Oper)(i j:Nat):Bool:=match ops[j]? with |some o=>o.after.toList.any λc=>cv c.on i&&Region.binds .any c|none=>false
def yo(ops:Array Oper):Nat->Nat->Nat->Bool
 |0,i,c=>uZ ops i c
 |f+1,i,c=>bif uZ ops i c then true else match ops[c]? with |some o=>o.after.toList.any λd=>bif Region.binds .any d then yo ops f i d.on else false|none=>false
def iU(ops:Array Oper)(i j:Nat):Bool:=yo ops 4 i j
def Down(ops:Array Oper)(d:Array Bool):Prop:=∀(k:Nat) (o:Oper),ops[k]? =some o->d.getD k false=true->∀c∈o.after,Region.binds .any c=true->d.getD c.on false=true
def Down.zero(ops:Array Oper)(n:Nat):Down ops (gI n false):=λe o _ d=>by
 exfalso;by_cases c:e<n
 .simp [c]at d
 grind
def Down.set{ops:Array Oper}{d:Array Bool}(w:Down ops d){i:Nat}(hi:i∈eA .any ops d):Down ops (d.setIfInBounds i true):=λq o c k e j h=>by
 obtain⟨_,y,x,u⟩:=mem_ready.1 hi;by_cases n:i=q
 .subst n;rw[x]at c;cases c;exact getD_set_true (u e j h)
 .rw [getD_set_ne false n]at k;exact getD_set_true (w q o c k e j h)
def JN{ops:Array Oper}{e:Array Bool}{i j:Nat}(n:∀o,ops[j]? =some o->∀c∈o.after,Region.binds .any c=true->e.getD c.on false=true)(h:uZ ops i j=true):e.getD i false=true:=by
 unfold uZ at h;cases k:ops[j]? with
 |none=>grind
 |some o=>
  rw[k]at h;obtain⟨c,q,d⟩:=List.any_eq_true.1 h;rw[bC]at d;have u:c.on=i:=by have:=d.1;rwa[ez]at this
  grind
def JO{ops:Array Oper}{h:Array Bool}(n:Down ops h){i:Nat}:∀(f j:Nat),(∀o,ops[j]? =some o->∀c∈o.after,Region.binds .any c=true->h.getD c.on false=true)->yo ops f i j=true->h.getD i false=true
 |0,j,e,d=>JN e d
 |f+1,j,e,d=>by
  unfold yo at d;cases q:uZ ops i j with
  |true=>exact JN e q
  |false=>
   rw[q]at d;cases w:ops[j]? with
   |none=>grind
   |some o=>
    rw[w]at d;obtain⟨c,E,u⟩:=List.any_eq_true.1 d;cases k:Region.binds .any c with
    |false=>grind
    |true=>
     rw[k]at u;have A:=e o w c (by grind) k;exact JO n f c.on (λD B x z y=>n c.on D B A x z y) u
abbrev eB:=List (Nat×(C->Prop))
def heldBy(ops:Array Oper)(j:Nat)(w:C):eB->List Prop
 |[]=>[]
 |(i,d)::c=>bif iU ops i j then heldBy ops j w c else d w::heldBy ops j w c
def dc(ops:Array Oper)(j:Nat):eB->eB
 |[]=>[]
 |(i,d)::c=>bif iU ops i j then dc ops j c else(i,d)::dc ops j c
def Bv{ops:Array Oper}{j:Nat}{w:C}:∀{H:eB} {p:Nat×(C->Prop)},p∈H->iU ops p.1 j=false->p.2 w∈heldBy ops j w H
 |(i,e)::H,p,c,d=>by
  unfold heldBy;rcases ay.1 c with rfl|c
  .grind
  .have:=Bv (H:=H) (w:=w) c d
   grind
def fw{ops:Array Oper}{j:Nat}:∀{H:eB} {p:Nat×(C->Prop)},p∈dc ops j H↔p∈H/\iU ops p.1 j=false
 |[],p=>by simp[dc]
 |(i,c)::H,p=>by
  unfold dc;cases d:iU ops i j with
  |true=>
   simp only[cond_true];rw[fw]
   grind
  |false=>
   simp only[cond_false,ay];rw[fw]
   grind
section
variable {P:aR} {ops:Array Oper} {Q:Exit->Act->C->Prop}
def ey(P:aR)(ops:Array Oper)(Q:Exit->Act->C->Prop):Nat->eB->Array Bool->Act->C->Prop
 |0,_,c,a,d=>Down ops c->eA .any ops c=[]/\Q .normal a d
 |fuel+1,e,c,a,d=>Down ops c->
  (eA .any ops c=[]->Q .normal a d)/\
  ∀i∈eA .any ops c,wpOp P ops Q i (λj h=>(∀p∈dc ops i e,p.2 h)/\ey P ops Q fuel (dc ops i e) (c.setIfInBounds i true) j h) a d
def zi:∀(fuel:Nat) (H:eB) (e:Array Bool) (a:Act) (w:C),Down ops e->ey P ops Q fuel H e a w->wpAny P .any ops Q fuel e a w
 |0,_,_,_,_,c,d=>d c
 |fuel+1,_,_,_,_,c,d=>⟨(d c).1,λi h=>wpOp_mono (λj n k=>zi fuel _ _ j n (c.set h) k.2) ((d c).2 i h)⟩
def E3:∀(fuel:Nat) (H c:eB) (h:Array Bool) (a:Act) (w:C),(∀p∈c,p∈H)->ey P ops Q fuel H h a w->ey P ops Q fuel c h a w
 |0,_,_,_,_,_,_,d=>d
 |fuel+1,H,c,h,a,w,x,d=>λk=>⟨(d k).1,λi u=>wpOp_mono (λq y j=>by have n:∀p∈dc ops i c,p∈dc ops i H:=λp e=>fw.2 ⟨x p (fw.1 e).1,(fw.1 e).2⟩;exact⟨λp e=>j.1 p (n p e),E3 fuel _ _ _ q y n j.2⟩) ((d k).2 i u)⟩
def SU{i j:Nat}{c:Array Bool}(d:Down ops c)(hi:c.getD i true=false)(e:j∈eA .any ops c):iU ops i j=false:=by
 obtain⟨_,y,x,n⟩:=mem_ready.1 e;cases h:iU ops i j with
 |false=>rfl
 |true=>
  have this:=JO d 4 j (λo w k u q=>by grind) h
  grind
def E2{i:Nat}{n:Oper}{v:ab}{Ss:List (C->Prop)}(hi:ops[i]? =some n)(S:∀(j:Nat) (o:Oper) y b,ops[j]? =some o->o.op≠.select y b)(hQ:∀J a w,Q (.panic J) (a.put n.dst v) w->Q (.panic J) a w):
  ∀(fuel:Nat) (H:eB) (k:Array Bool) (a:Act) (w:C),
   (∀j q,ops[j]? =some q->j≠i->k.getD j true=false->(∀e∈q.after,Region.binds .any e=true->e.on≠i)->n.apart ops q=true)->
   i∈eA .any ops k->YieldsIf P ops (λw=>∀d∈Ss,d w) n v a->(∀d∈Ss,d w)->(∀p∈H,p.2 w)->
   ey P ops Q fuel (Ss.map (λd=>(i,d))++H) (k.setIfInBounds i true) (a.put n.dst v) w->ey P ops Q (fuel+1) H k a w:=by
 intro fuel;induction fuel with
 |zero=>
  intro H k a w _ A D F E x B;refine⟨λW=>(by grind),λj z=>?_⟩;by_cases h:j=i
  .subst h;exact D.wpOp hi F ⟨λp c=>E p (fw.1 c).1,x⟩
  .have:=ready_mono z h;rw[(x (B.set A)).1]at this
   grind
 |succ fuel ih=>
  intro H k a w M A D F E x B;refine⟨λW=>(by grind),λj z=>?_⟩;by_cases h:j=i
  .subst h;refine D.wpOp hi F ⟨λp c=>E p (fw.1 c).1,?_⟩;exact E3 _ _ _ _ _ _ (λp c=>ef _ (fw.1 c).1) x
  .have Z:=(x (B.set A)).2 j (ready_mono z h);obtain⟨ae,q,G,al⟩:=mem_ready.1 z;have Y:=(mem_ready.1 A).1;have ah:∀e∈q.after,Region.binds .any e=true->e.on≠i:=λe he hb am=>by grind
   have O:iU ops i j=false:=SU B Y z;have h2:=wpOp_putIf G (M j q G h ae ah) (λy b=>S i n y b hi) (λy b=>S j q y b G) hQ D Z;have ac:∀u ok,ops[u]? =some ok->u≠i->(k.setIfInBounds j true).getD u true=false->
     (∀e∈ok.after,Region.binds .any e=true->e.on≠i)->n.apart ops ok=true:=λu ok hk af aj ag=>by
    refine M u ok hk af ?_ ag;by_cases ad:j=u
    .grind
    .rw [getD_set_ne true ad]at aj;omega
   refine wpOp_mono (λT I h3=>?_) h2;obtain⟨ak,N,ai⟩:=h3;have K:∀p∈dc ops j H,p.2 I:=λp c=>N p (fw.2 ⟨ef _ (fw.1 c).1,(fw.1 c).2⟩);have aa:∀d∈Ss,d I:=λd L=>N (i,d) (fw.2 ⟨List.mem_append_left _ (dv.2 ⟨d,L,rfl⟩),O⟩);refine⟨K,ih (dc ops j H) (k.setIfInBounds j true) T I ac (ready_mono A (Ne.symm h)) ak aa K ?_⟩;rw[Array.setIfInBounds_comm _ _ h];refine E3 _ _ _ _ _ _ (λp c=>?_) ai;rcases a6.1 c with c|c
   .obtain ⟨d,L,rfl⟩:=dv.1 c;exact fw.2 ⟨List.mem_append_left _ c,O⟩
   .exact fw.2 ⟨ef _ (fw.1 c).1,(fw.1 c).2⟩
end
def je(ops:Array Oper)(j:Nat):Option Nat:=(ops[j]?).bind (·.dst)
def nF(P:aR)(ops:Array Oper)(draw:Bool)(i:Nat)(o:Oper)(E:Env)(w:C)(H:eB)(K:Env->C->eB->Prop):Prop:=
 bif calm P o then me P o E w λv e=>K (E.put o.dst v) w (bif draw then e.map (λd=>(i,d))++H else H)
 else(bif draw then gZ else rz) P o E w λv c=>rf (heldBy ops i c H) (K (E.put o.dst v) c (dc ops i H))
def kL(P:aR)(ops:Array Oper)(draw:Bool)(i:Nat)(o:Oper)(d:Nat)(want t:Bool)(E:Env)(w:C)(H:eB)(K:Env->C->eB->Prop):Prop:=
 bif (t==want)then nF P ops draw i o ((d,.bool t)::E) w H K else K (Env.put ((d,.bool t)::E) o.dst undef) w (bif calm P o then H else dc ops i H)
def gU(P:aR)(ops:Array Oper)(draw:Bool)(K:Env->C->Prop):List Nat->Env->C->eB->Prop
 |[],c,d,_=>K c d
 |i::l,c,d,h=>
  match ops[i]? with
  |none=>False
  |some o=>match o.guard with
   |none=>nF P ops draw i o c d h λe k j=>gU P ops draw K l e k j
   |some (q,want)=>match je ops q with
    |none=>False
    |some n=>match c.get? n with
     |some (.bool t)=>Y t (kL P ops draw i o n want true c d h λe k j=>gU P ops draw K l e k j) (kL P ops draw i o n want false c d h λe k j=>gU P ops draw K l e k j)
     |some (.tuple _)=>gU P ops draw K l (Env.put c o.dst undef) d (bif calm P o then h else dc ops i h)
     |_=>False
def qm(P:aR)(ops:Array Oper):List Nat->Array Bool->Bool
 |[],c=>(eA .any ops c).isEmpty
 |i::l,c=>(match ops[i]? with
   |some o=>bif calm P o then Region.free .any ops c i&&(eA .any ops c).contains i else eA .any ops c==[i]
   |none=>false)&&qm P ops l (c.setIfInBounds i true)
def Jx(o:Oper):Bool:=match o.op with |.defer _=>false|_=>true
def dS(n:Nat)(ops:Array Oper):Bool:=Region.noSelect ops&&ops.toList.all λo=>Jx o&&match o.dst with |some c=>Nat.blt c n|none=>true
def gF{n:Nat}{ops:Array Oper}(h:dS n ops=true){i:Nat}{o:Oper}(d:ops[i]? =some o):∀t,o.dst=some t->t<n:=by intro t c;unfold dS at h;rw[bC]at h;have:=fF.1 h.2 o (by grind);rw[c,bC]at this;simpa using this.2
def sb{n:Nat}{ops:Array Oper}(h:dS n ops=true){i:Nat}{o:Oper}(e:ops[i]? =some o):∀c,o.op≠.defer c:=by
 intro c d;unfold dS at h;rw[bC]at h;have:=fF.1 h.2 o (by grind);rw[bC]at this;have:=this.1;unfold Jx at this
 grind
def hd(n:Cx)(K:Env->C->Prop):Exit->Act->C->Prop
 |.normal,a,d=>∃c,Ag n a c/\K c d
 |_,_,_=>False
def qN{n:Cx}{a:Act}{E:Env}(e:Ag n a E){ops:Array Oper}{j d:Nat}{t:Bool}(c:je ops j=some d)(h:E.get? d=some (.bool t)):yielded ops a.tmps j=some t:=by unfold yielded;unfold je at c;rw[c];simp[e.get _ _ h]
def qO{n:Cx}{a:Act}{E:Env}(e:Ag n a E){ops:Array Oper}{j d:Nat}{vs:Array ab}(c:je ops j=some d)(h:E.get? d=some (.tuple vs)):yielded ops a.tmps j=none:=by unfold yielded;unfold je at c;rw[c];simp[e.get _ _ h]
def Ag.same{n:Cx}{a:Act}{E:Env}(c:Ag n a E){d:Nat}{v:ab}(e:E.get? d=some v):Ag n a ((d,v)::E):=c.cons e c
section
variable {P:aR} {ops:Array Oper} {n:Cx} {K:Env->C->Prop}
def vP{i:Nat}{o:Oper}{a:Act}{w:C}{Kv:ab->C->Prop}{K':Act->C->Prop}{Q:Exit->Act->C->Prop}(d:ops[i]? =some o)(e:cU o (yielded ops a.tmps)=true)(h:im P o a w Kv)(k:∀v c,Kv v c->K' (a.put o.dst v) c):wpOp P ops Q i K' a w:=by unfold wpOp;simp only[d,e,if_true];exact .inl (Oper.wp_mono (λj c=>by grind) (h Q))
def yW{i:Nat}{o:Oper}{a:Act}{E:Env}{w:C}{H:eB}{Kh:Env->C->eB->Prop}{d:Array Bool}{fuel:Nat}{Q:Exit->Act->C->Prop}(x:dS n ops=true)(c:ops[i]? =some o)(j:(bif calm P o then Region.free .any ops d i&&(eA .any ops d).contains i else eA .any ops d==[i])=true)(hQ:∀L a w,Q (.panic L) a w=False)(k:Ag n a E)(O:∀p∈H,p.2 w)(I:cU o (yielded ops a.tmps)=true)(h:nF P ops true i o E w H Kh)(next:∀A z e q,Ag n A z->(∀p∈q,p.2 e)->Kh z e q->ey P ops Q fuel q (d.setIfInBounds i true) A e):ey P ops Q (fuel+1) H d a w:=by
 have y:=Region.noSelect_spec (ops:=ops) (by unfold dS at x;grind);unfold nF at h;cases D:calm P o with
 |true=>
  rw[D]at h j;simp only[cond_true]at h j;rw[bC]at j;obtain⟨v,K,S,W,Y⟩:=wA (λu b=>y i o u b c) k h;refine E2 (v:=v) (Ss:=K) c y (by grind) fuel H d a w (Region.free_spec c j.1) (by grind) (.inl ⟨I,λe aa=>Y e aa⟩) W O ?_;refine next _ _ _ _ (k.put v (gF x c)) ?_ S
  grind
 |false=>
  rw[D]at h j;simp only[cond_false,cond_true]at h j;have T:eA .any ops d=[i]:=by grind
  refine λ_=>⟨λh0=>(by grind),λJ F=>?_⟩;rw[T]at F;obtain rfl:=cO.1 F;refine vP c I (mf (λu b=>y J o u b c) k h) λv e Z=>?_;obtain⟨M,N⟩:=rh Z;have B:∀p∈dc ops J H,p.2 e:=λp G=>M _ (Bv (fw.1 G).1 (fw.1 G).2);exact⟨B,next _ _ _ _ (k.put v (gF x c)) B N⟩
def vr{i:Nat}{o:Oper}{a:Act}{w:C}{H:eB}{c:Array Bool}{fuel:Nat}{Q:Exit->Act->C->Prop}(y:dS n ops=true)(e:ops[i]? =some o)(d:(bif calm P o then Region.free .any ops c i&&(eA .any ops c).contains i else eA .any ops c==[i])=true)(F:∀u a w,Q (.panic u) a w=False)(h:∀p∈H,p.2 w)(q:cU o (yielded ops a.tmps)=false)(next:ey P ops Q fuel (bif calm P o then H else dc ops i H) (c.setIfInBounds i true) (a.put o.dst undef) w):ey P ops Q (fuel+1) H c a w:=by
 have B:=Region.noSelect_spec (ops:=ops) (by unfold dS at y;grind);cases j:calm P o with
 |true=>
  rw[j]at d next
  simp only[cond_true]at d next
  rw[bC]at d;exact E2 (v:=undef) (Ss:=[]) e B (by grind) fuel H c a w (Region.free_spec e d.1) (by grind) (.inr ⟨q,rfl⟩) (λD x=>(by cases x)) h (by grind)
 |false=>
  rw[j]at d next
  simp only[cond_false]at d next
  have A:eA .any ops c=[i]:=by grind
  refine λ_=>⟨λE=>(by grind),λG k=>?_⟩;rw[A]at k;obtain rfl:=cO.1 k;unfold wpOp;simp only[e,q];exact⟨λp z=>h p (fw.1 z).1,next⟩
def La(j:dS n ops=true):∀(l:List Nat) (D:Array Bool) (E:Env) (w:C) (H:eB) (a:Act),qm P ops l D=true->Ag n a E->(∀p∈H,p.2 w)->
  gU P ops true K l E w H->ey P ops (hd n K) l.length H D a w
 |[],D,E,w,H,a,d,e,_,c=>λ_=>⟨by simpa[qm]using d,E,e,c⟩
 |i::l,D,E,w,H,a,d,e,x,c=>by
  unfold qm at d;rw[bC]at d;obtain⟨d,S⟩:=d;unfold gU at c;cases k:ops[i]? with
  |none=>grind
  |some o=>
   rw[k]at c d;simp only at c d;have next:∀F u q h,Ag n F u->(∀p∈h,p.2 q)->gU P ops true K l u q h->ey P ops (hd n K) l.length h (D.setIfInBounds i true) F q:=
    λF u q h N O Q=>La j l _ u q h F S N O Q
   cases y:o.guard with
   |none=>
    rw[y]at c;simp only at c;exact yW j k d (λ_ _ _=>rfl) e x (by simp[cU,y]) c next
   |some W=>
    obtain⟨T,want⟩:=W;rw[y]at c;simp only at c;cases J:je ops T with
    |none=>grind
    |some M=>
     rw[J]at c;simp only at c;split at c
     .rename_i t B;have G:=qN e J B;have z:kL P ops true i o M want t E w H λu q h=>gU P ops true K l u q h:=by
       cases t
       .exact c
       .exact c
      unfold kL at z;cases L:(t==want)with
      |true=>
       rw[L]at z;exact yW j k d (λ_ _ _=>rfl) (e.same B) x (by simp[cU,y,G];grind) z next
      |false=>
       rw[L]at z;simp only[cond_false]at z;refine vr j k d (λ_ _ _=>rfl) x (by simp[cU,y,G];grind) ?_;refine next _ _ _ _ ((e.same B).put undef (gF j k)) ?_ z
       intro p A;cases I:calm P o
       .rw [I]at A;exact x p (fw.1 A).1
       grind
     .rename_i Y B;have G:=qO e J B;refine vr j k d (λ_ _ _=>rfl) x (by simp[cU,y,G]) ?_;refine next _ _ _ _ (e.put undef (gF j k)) ?_ c
      intro p A;cases I:calm P o
      .rw [I]at A;exact x p (fw.1 A).1
      grind
     grind
def zj{i:Nat}{o:Oper}{a:Act}{w:C}{Kv:ab->C->Prop}{K':Act->C->Prop}{Q:Exit->Act->C->Prop}(d:ops[i]? =some o)(e:cU o (yielded ops a.tmps)=true)(h:vS P n o a w Kv)(k:∀v c,Kv v c->K' (a.put o.dst v) c):wpOpIn (FW n) 0 P ops Q i K' a w:=by unfold wpOpIn;simp only[d,e,if_true];exact Oper.wpIn_mono (λj c=>by grind) (h Q)
def LU{i:Nat}{o:Oper}{a:Act}{E:Env}{w:C}{Kh:Env->C->eB->Prop}{rest:List Nat}{Q:Exit->Act->C->Prop}(e:dS n ops=true)(c:ops[i]? =some o)(j:Ag n a E)(z:cU o (yielded ops a.tmps)=true)(h:nF P ops false i o E w [] Kh)(next:∀u q d,Ag n u q->Kh q d []->wpOpsIn (FW n) 0 P ops Q rest u d):wpOpsIn (FW n) 0 P ops Q (i::rest) a w:=by
 have y:=Region.noSelect_spec (ops:=ops) (by unfold dS at e;grind);rw[wpOpsIn_cons];unfold nF at h;cases x:calm P o with
 |true=>
  rw[x]at h;simp only[cond_true,cond_false]at h;obtain⟨v,I,B,D,F⟩:=wA (λk b=>y i o k b c) j h;refine zj (Kv:=λA d=>A=v/\d=w) c z ?_ ?_
  .refine im.in (sb e c) λH=>?_;unfold Oper.wp;rw[F w D];exact⟨v,rfl,rfl,rfl⟩
  .rintro A d ⟨rfl,rfl⟩;exact next _ _ _ (j.put _ (gF e c)) B
 |false=>
  rw[x]at h;simp only[cond_false,heldBy,rf,dc]at h;exact zj c z (Hc (λk b=>y i o k b c) (sb e c) j h) λv d G=>next _ _ _ (j.put v (gF e c)) G
def Lb(x:dS n ops=true):∀(l:List Nat) (E:Env) (w:C) (a:Act),Ag n a E->gU P ops false K l E w []->wpOpsIn (FW n) 0 P ops (hd n K) l a w
 |[],E,w,a,h,c=>⟨E,h,c⟩
 |i::l,E,w,a,h,c=>by
  unfold gU at c;cases k:ops[i]? with
  |none=>grind
  |some o=>
   rw[k]at c;simp only at c;have next:∀z d e,Ag n z d->gU P ops false K l d e []->wpOpsIn (FW n) 0 P ops (hd n K) l z e:=λz d e I J=>Lb x l d e z I J
   cases q:o.guard with
   |none=>
    rw[q]at c;simp only at c;exact LU (Kh:=λd e u=>gU P ops false K l d e u) x k h (by simp[cU,q]) c next
   |some M=>
    obtain⟨L,want⟩:=M;rw[q]at c;simp only at c;cases D:je ops L with
    |none=>grind
    |some H=>
     rw[D]at c;simp only at c;split at c
     .rename_i t y;have A:=qN h D y;have j:kL P ops false i o H want t E w [] λd e u=>gU P ops false K l d e u:=by
       cases t
       .exact c
       .exact c
      unfold kL at j;cases G:(t==want)with
      |true=>
       rw[G]at j;exact LU (Kh:=λd e u=>gU P ops false K l d e u) x k (h.same y) (by simp[cU,q,A];grind) j next
      |false=>
       rw[G]at j;simp only[cond_false]at j;have B:(bif calm P o then([]:eB)else dc ops i [])=[]:=by cases calm P o<;>rfl
       rw[B]at j;rw[wpOpsIn_cons];unfold wpOpIn;have F:cU o (yielded ops a.tmps)=false:=by simp[cU,q,A];grind
       simp only[k,F];exact⟨λ_ _=>trivial,next _ _ _ ((h.same y).put undef (gF x k)) j⟩
     .rename_i N y;have A:=qO h D y;have B:(bif calm P o then([]:eB)else dc ops i [])=[]:=by cases calm P o<;>rfl
      rw[B]at c;rw[wpOpsIn_cons];unfold wpOpIn;have F:cU o (yielded ops a.tmps)=false:=by simp[cU,q,A]
      simp only[k,F];exact⟨λ_ _=>trivial,next _ _ _ (h.put undef (gF x k)) c⟩
     grind
def VQ{c:Code}{id:Nat}{a:Act}{E:Env}{w:C}(e:c=.region id ops false)(j:dS n ops=true)(d:Ag n a E)(h:gU P ops false K (List.range ops.size) E w []):c.wpIn (FW n) 0 P (hd n K) a w:=by subst e;exact wpIn_region (Lb j _ E w a d h)
def qL(d:dS n ops=true){Q:Exit->Act->C->Prop}(e:¬LetsOut Q):∀(l:List Nat) (a:Act) (w:C),wpOps P ops Q l a w->wpOpsIn (FW n) 0 P ops Q l a w
 |[],a,w,c=>c
 |i::l,a,w,c=>by
  rw[wpOps_cons]at c;rw[wpOpsIn_cons];unfold wpOp at c;unfold wpOpIn;cases h:ops[i]? with
  |none=>rw[h]at c;exact qL d e l a w c
  |some o=>
   rw[h]at c;simp only at c ⊢;split
   .rename_i j;rw[aA j]at c;rcases c with c|c
    .exact Oper.wpIn_mono (λk u q=>qL d e l k u q) (MW (sb d h) c)
    grind
   .rename_i j;rw[aq j]at c;exact⟨λ_ _=>trivial,qL d e l _ w c⟩
def VP{c:Code}{id:Nat}{a:Act}{E:Env}{w:C}{l:List Nat}(x:P.follows .mixedOrders=true)(q:c=.region id ops true)(e:dS n ops=true)(u:qm P ops l (gI ops.size false)=true)(z:l.length=ops.size)(k:Ag n a E)(h:gU P ops true K l E w.drew []):c.wpIn (FW n) 0 P (hd n K) a w:=by subst q;have d:=La e l _ E _ [] a u k (λp y=>(by cases y)) h;rw[z]at d;have j:=zi _ [] _ _ _ (Down.zero _ _) d;refine wpIn_region_draw λt=>?_;refine qL e (λ⟨_,_,h⟩=>h) _ _ _ ?_;simp only[Region.schedule,x,Bool.true_or,if_true];exact wpAny_sound ops.size t _ a _ j
end
section
variable {P:aR} {n:Cx}
def Code.ops:Code->Array Oper
 |.region _ ops _=>ops
 |_=>#[]
def Code.fst:Code->Code
 |.seq a _=>a
 |.cond _ a _=>a
 |.block _ a=>a
 |.loop a=>a
 |.scope a=>a
 |c=>c
def Code.snd:Code->Code
 |.seq _ b=>b
 |.cond _ _ b=>b
 |c=>c
def Code.NP:Code->Code
 |.rangeFunc _ _ a _=>a
 |c=>c
def Code.NX:Code->Code
 |.rangeFunc _ _ _ b=>b
 |c=>c
abbrev fB(P:aR)(n:Cx)(c:Code)(Q:Exit->Act->C->Prop)(a:Act)(w:C):Prop:=c.wpIn (FW n) 0 P Q a w
def WP(P:aR)(n:Cx)(c:Code)(Q:Exit->Act->C->Prop)(E:Env)(w:C):Prop:=∀a,Ag n a E->fB P n c Q a w
def WP.region{c:Code}{Q:Exit->Act->C->Prop}{E:Env}{w:C}{ops:Array Oper}{id:Nat}(K:Env->C->Prop)(x:c=.region id ops false)(y:dS n ops=true)(h:gU P ops false K (List.range ops.size) E w [])(z:∀d j e,Ag n e d->K d j->Q .normal e j):WP P n c Q E w:=λa u=>
 wpIn_mono (VQ x y u h) λq e j k=>by
  cases q with
  |normal=>obtain⟨d,hA,hK⟩:=k;grind
  |_=>exact k.elim
def WP.TV{c:Code}{Q:Exit->Act->C->Prop}{E:Env}{w:C}{ops:Array Oper}{id:Nat}{l:List Nat}(K:Env->C->Prop)(z:P.follows .mixedOrders=true)(x:c=.region id ops true)(A:dS n ops=true)(y:qm P ops l (gI ops.size false)=true)(B:l.length=ops.size)(h:gU P ops true K l E w.drew [])(D:∀d j e,Ag n e d->K d j->Q .normal e j):WP P n c Q E w:=λa u=>
 wpIn_mono (VP z x A y B u h) λq e j k=>by
  cases q with
  |normal=>obtain⟨d,hA,hK⟩:=k;grind
  |_=>exact k.elim
def qt(n:Nat)(c:Code):Bool:=match c with |.region _ ops d=>!d&&dS n ops|_=>false
def yA(P:aR)(n:Nat)(c:Code)(l:List Nat):Bool:=match c with
 |.region _ ops d=>d&&(P.follows .mixedOrders&&(dS n ops&&(qm P ops l (gI ops.size false)&&cv l.length ops.size)))
 |_=>false
def WP.oL{c:Code}{Q:Exit->Act->C->Prop}{E:Env}{w:C}(K:Env->C->Prop)(d:qt n c=true)(h:gU P (Code.ops c) false K (List.range (Code.ops c).size) E w [])(y:∀e k j,Ag n j e->K e k->Q .normal j k):WP P n c Q E w:=by
 unfold qt at d;split at d
 .rename_i id ops q;rw[bC]at d;obtain⟨z,u⟩:=d;have x:q=false:=by grind
  subst x;exact WP.region K rfl u h y
 grind
def WP.draw{c:Code}{Q:Exit->Act->C->Prop}{E:Env}{w:C}(l:List Nat)(K:Env->C->Prop)(d:yA P n c l=true)(h:gU P (Code.ops c) true K l E w.drew [])(z:∀e q j,Ag n j e->K e q->Q .normal j q):WP P n c Q E w:=by
 unfold yA at d;split at d
 .rename_i id ops A;simp only[bC]at d;obtain⟨rfl,u,x,y,k⟩:=d;rw[ez]at k;exact WP.TV K u rfl x y k h z
 grind
def WP.at{c:Code}{Q:Exit->Act->C->Prop}{E:Env}{w:C}{a:Act}(h:WP P n c Q E w)(d:Ag n a E):fB P n c Q a w:=h a d
def WP.seq{c x y:Code}{Q:Exit->Act->C->Prop}{E:Env}{w:C}(e:c=.seq x y)(h:WP P n x (Exit.then (fB P n y Q) Q) E w):WP P n c Q E w:=λa d=>by subst e;exact wpIn_seq (h a d)
def WP.cond{c x y:Code}{o:Operand}{Q:Exit->Act->C->Prop}{E:Env}{w:C}{t:Bool}(j:c=.cond o x y)(k:E.val o=some (.bool t))(h:Y t (WP P n x Q E w) (WP P n y Q E w)):WP P n c Q E w:=λa d=>by
 subst j;refine wpIn_cond_split (d.val k) (λe=>?_) (λe=>?_)
 .subst e;exact h a d
 .subst e;exact h a d
def gy(v:Option ab)(A c:Prop):Prop:=match v with |some (.bool t)=>Y t A c|_=>False
def WP.gy{c x y:Code}{o:Operand}{Q:Exit->Act->C->Prop}{E:Env}{w:C}{A d:Prop}(k:c=.cond o x y)(e:A->WP P n x Q E w)(j:d->WP P n y Q E w)(h:gy (E.val o) A d):WP P n c Q E w:=by
 unfold W.gy at h;split at h
 .rename_i t q;refine WP.cond k q ?_;cases t
  .exact j h
  .exact e h
 grind
def WP.block{c x:Code}{id:Nat}{Q:Exit->Act->C->Prop}{E:Env}{w:C}(e:c=.block id x)(h:WP P n x (Exit.inBlock id Q) E w):WP P n c Q E w:=λa d=>by subst e;exact wpIn_block (h a d)
def WP.skip{c:Code}{Q:Exit->Act->C->Prop}{E:Env}{w:C}(e:c=.skip)(h:∀a,Ag n a E->Q .normal a w):WP P n c Q E w:=λa d=>by subst e;exact wpIn_skip (h a d)
def WP.exit{c:Code}{id:Nat}{Q:Exit->Act->C->Prop}{E:Env}{w:C}(e:c=.exit id)(h:∀a,Ag n a E->Q (.exit id) a w):WP P n c Q E w:=λa d=>by subst e;exact wpIn_exit (h a d)
def WP.ret{c:Code}{Q:Exit->Act->C->Prop}{E:Env}{w:C}(e:c=.ret)(h:∀a,Ag n a E->Q .ret a w):WP P n c Q E w:=λa d=>by subst e;exact wpIn_ret (h a d)
def k'(P:aR)(n:Cx)(c:Code)(Q:Exit->Act->C->Prop)(a:Act)(w:C):Prop:=
 ∀(b:Frame) (k:List Item) (cs:List Frame),b.roundOf=n.ro->∃e d h,Q e d h/\ArrivesIn (Machine.fenced P (FW n)) P (lone (b.atR a (.code c::.inLoop c::k)) cs w) b k cs e d h
def T1(n:Cx)(m:Nat):(FW n).room m:=room_wide m
def MX{c:Code}{Q:Exit->Act->C->Prop}{a:Act}{w:C}(h:k' P n c Q a w):fB P n (Code.loop c) Q a w:=λb z e y q x=>by obtain⟨j,d,A,u,k⟩:=h b z e y;exact⟨j,d,A,u,.of_steps (.one (fenced_calm q x rfl) stepR_loop) k⟩
def I7{c:Code}{Q:Exit->Act->C->Prop}{a:Act}{w:C}(h:fB P n c (Exit.then (k' P n c Q) Q) a w):k' P n c Q a w:=by
 intro b z j y;have q:(FW n).fn b.fn:=trivial;have u:(FW n).room (j.length+1+0):=T1 n _;obtain⟨k,a₁,w₁,e,d⟩:=h b (.inLoop c::z) j y q u;cases k with
 |normal=>
  obtain⟨k₂,a₂,w₂,e₂,d₂⟩:=e b z j y;exact⟨k₂,a₂,w₂,e₂,.of_steps (StepsIn.trans d (.one (fenced_calm q u rfl) stepR_inLoop)) d₂⟩
 |exit id=>exact⟨_,a₁,w₁,e,.pass (x:=.inLoop c) rfl (λ_ _=>.inl (by simp)) d⟩
 |goto l=>exact⟨_,a₁,w₁,e,.pass (x:=.inLoop c) rfl (λ_ _=>.inl (by simp)) d⟩
 |ret=>exact⟨_,a₁,w₁,e,.pass (x:=.inLoop c) rfl (λ_ _=>.inl (by simp)) d⟩
 |panic A=>exact⟨_,a₁,w₁,e,.pass (x:=.inLoop c) rfl (λ_ _=>.inl (by simp)) d⟩
 |outgrown=>exact⟨_,a₁,w₁,e,.pass (x:=.inLoop c) rfl (λ_ _=>.inl (by simp)) d⟩
def LP(P:aR)(n:Cx)(c:Code)(Q:Exit->Act->C->Prop)(E:Env)(w:C):Prop:=∀a,Ag n a E->k' P n c Q a w
def WP.loop{c x:Code}{Q:Exit->Act->C->Prop}{E:Env}{w:C}(e:c=.loop x)(h:LP P n x Q E w):WP P n c Q E w:=λa d=>by subst e;exact MX (h a d)
def LP.step{c:Code}{Q:Exit->Act->C->Prop}{E:Env}{w:C}(h:WP P n c (Exit.then (k' P n c Q) Q) E w):LP P n c Q E w:=λa d=>I7 (h a d)
def DK:List ab->ab
 |[v]=>v
 |c=>.tuple c.toArray
def qv(P:aR)(E:Env)(w:C):List ResultVar->(List ab->Prop)->Prop
 |[],c=>c []
 |.tmp t::l,c=>match E.get? t with
  |some v=>qv P E w l λd=>c (v::d)
  |none=>False
 |.cell h e::l,c=>match E.get? h with
  |some (.pointer (some p))=>lC P e p w λv _=>qv P E w l λd=>c (v::d)
  |_=>False
def kq(P:aR)(fn:Func)(E:Env)(w:C)(K:ab->Prop):Prop:=qv P E w fn.results.toList λc=>K (DK c)
def oN(tmps:Array ab):ResultVar->Sem ab
 |.tmp t=>pure (tmps.getD t undef)
 |.cell a t=>do loadVar t (<-asAddr (tmps.getD a undef))
def KS(fn:Func)(tmps:Array ab):results fn tmps=(do let c <-fn.results.mapM (oN tmps);pure (if h:c.size=1 then c[0]else .tuple c)):=by unfold results;congr 1
def D0{a:Act}{E:Env}(e:Ag n a E)(w:C):∀{l:List ResultVar} {K:List ab->Prop},qv P E w l K->
  ∃d,(l.mapM (oN a.tmps)).run P w=.ok d w/\K d
 |[],K,c=>⟨[],by simp,c⟩
 |.tmp t::l,K,c=>by
  unfold qv at c;split at c
  .rename_i v y;obtain⟨d,k,j⟩:=D0 e w c;refine⟨v::d,?_,j⟩;have h:=e.get t v y;simp[List.mapM_cons,oN,k,h]
  grind
 |.cell z B::l,K,c=>by
  unfold qv at c;split at c
  .rename_i p q;obtain⟨v,A,c,u,x⟩:=BM c;obtain⟨d,k,j⟩:=D0 e w c;refine⟨v::d,?_,j⟩;have h:=e.get z _ q;simp[List.mapM_cons,oN,k,h,asAddr,x w u]
  grind
def D3{fn:Func}{a:Act}{E:Env}{w:C}{R:cQ->C->Prop}(d:Ag n a E)(h:kq P fn E w λv=>R (U v) w):
  ∃v,(results fn a.tmps).run P w=.ok v w/\R (U v) w:=by
 obtain⟨c,j,e⟩:=D0 d w h;refine⟨_,?_,e⟩;rw[KS,<-Array.toArray_toList (xs:=fn.results),List.mapM_toArray];simp only[Sem.run_bind,Sem.run_map,j,Result.andThen_ok,Sem.run_pure];congr 1;cases c with
 |nil=>rfl
 |cons v c=>cases c<;>rfl
def vh{m:Nat}{fn:Func}{a:Act}{E:Env}{w:C}{R:cQ->C->Prop}(c:Ag (cx m) a E)(h:kq P fn E w λv=>R (U v) w):
  a.defers=[]/\∃v,(results fn a.tmps).run P w=.ok v w/\R (U v) w:=⟨c.defers,D3 c h⟩
def Pk{f:bW}{fn:Func}{c:Code}{args:Array ab}{w:C}{R:cQ->C->Prop}{E:Env}(e:P.funcs[f]? =some fn)(d:fn.body=some c)(k:args.size<=fn.ntmps)(j:∀t v,E.get? t=some v->args[t]? =some v)(h:WP P (cx fn.ntmps) c (bodyPost P fn R) E w):ah P f args w R:=by
 refine calls_of_wp e d (wpIn_wide.1 (h _ ⟨rfl,by grind,?_⟩))
 grind
def ke:Nat->List ab->Env
 |_,[]=>[]
 |i,v::l=>(i,v)::ke (i+1) l
def A5:∀(l:List ab) (i t:Nat) (v:ab),(ke i l).get? t=some v->i<=t/\l[t - i]? =some v
 |[],_,_,_,c=>by simp[ke,Env.get?]at c
 |k::l,i,t,v,c=>by
  simp only[ke,Env.get?]at c;by_cases d:i=t
  .subst d;simp at c;grind
  .have e:cv i t=false:=by rw[<-i4,ez];exact d
   simp only[e,cond_false]at c;obtain⟨h,j⟩:=A5 l (i+1) t v c
   grind
def tD{f:bW}{fn:Func}{c:Code}{args:List ab}{w:C}{R:cQ->C->Prop}(e:P.funcs[f]? =some fn)(d:fn.body=some c)(j:Nat.ble args.length fn.ntmps=true)(h:WP P (cx fn.ntmps) c (bodyPost P fn R) (ke 0 args) w):ah P f args.toArray w R:=
 Pk e d (by simpa using Nat.le_of_ble_eq_true j) (λt v k=>by
  have:=(A5 args 0 t v k).2
  grind) h
def Ul{t:Bool}{A d c e:Prop}(j:A->c)(k:d->e)(h:Y t A d):Y t c e:=by
 cases t
 .exact k h
 .exact j h
def asInt(k:iH)(v:Option ab)(K:Int->Prop):Prop:=match v with |some (.int c n)=>cF (c==k) (K n)|_=>False
def gK{k:iH}{v:Option ab}{K:Int->Prop}(h:asInt k v K):∃n,v=some (.int k n)/\K n:=by
 unfold asInt at h;split at h
 .obtain ⟨c,d⟩:=dU h
  grind
 grind
def pf(v:Option ab)(K:ByteArray->Prop):Prop:=match v with |some (.string b)=>K b|_=>False
def tq{v:Option ab}{K:ByteArray->Prop}(h:pf v K):∃b,v=some (.string b)/\K b:=by
 unfold pf at h
 grind
def asSlice(v:Option ab)(K:J->Prop):Prop:=match v with |some (.slice a n c)=>K ⟨a,n,c⟩|_=>False
def pe{v:Option ab}{K:J->Prop}(h:asSlice v K):∃s:J,v=some s.v/\K s:=by
 unfold asSlice at h
 grind
def cy(v:Option ab)(K:Addr->Prop):Prop:=match v with |some (.pointer (some a))=>K a|_=>False
def cI{v:Option ab}{K:Addr->Prop}(h:cy v K):∃a,v=some (.pointer (some a))/\K a:=by
 unfold cy at h
 grind
def asAgg(v:Option ab)(K:List ab->Prop):Prop:=match v with |some (.agg c)=>K c.toList|_=>False
def NM{v:Option ab}{K:List ab->Prop}(h:asAgg v K):∃c:List ab,v=some (.agg c.toArray)/\K c:=by
 unfold asAgg at h;split at h
 .grind
 grind
def wg(f:bW)(v:Option ab)(K:List ab->List ab->Prop):Prop:=match v with |some (.func (.func g) d c)=>cF (cv g f) (K d.toList c.toList)|_=>False
def NN{f:bW}{v:Option ab}{K:List ab->List ab->Prop}(h:wg f v K):∃d c:List ab,v=some (.func (.func f) d.toArray c.toArray)/\K d c:=by
 unfold wg at h;split at h
 .obtain ⟨e,j⟩:=dU h;rw[ez]at e;subst e
  grind
 grind
def nU(l:List ab)(K:ab->List ab->Prop):Prop:=match l with |v::r=>K v r|[]=>False
def rj{l:List ab}{K:ab->List ab->Prop}(h:nU l K):∃v r,l=v::r/\K v r:=by
 cases l with
 |nil=>exact h.elim
 |cons v r=>exact⟨v,r,rfl,h⟩
def rk(l:List ab)(K:Prop):Prop:=match l with |[]=>K|_=>False
def z6{l:List ab}{K:Prop}(h:rk l K):l=[]/\K:=by
 cases l with
 |nil=>exact⟨rfl,h⟩
 |cons v r=>exact h.elim
end
def nV(k:iH)(x y:Int):Int:=k.wrap ((mL k.bits x&&& mL k.bits y).toNat:Int)
def tu(k:iH)(x y:Int):Int:=k.wrap ((mL k.bits x|||mL k.bits y).toNat:Int)
def wi(k:iH)(x y:Int):Int:=k.wrap ((mL k.bits x^^^mL k.bits y).toNat:Int)
inductive Tr where
 |nil
 |one (i:Nat) (t:Tr)
 |fork (a b:Tr)
def Tr.iO:Tr->List Nat
 |.nil=>[]
 |.one i _=>[i]
 |.fork a b=>a.iO++b.iO
def Tr.len:Tr->Nat
 |.nil=>0
 |.one _ t=>t.len+1
 |.fork a _=>a.len
def uj(P:aR)(ops:Array Oper)(i:Nat)(E:Env)(w:C)(H:eB)(c:Env->C->eB->Prop):Prop:=
 match ops[i]? with
 |none=>False
 |some o=>match o.guard with
  |none=>nF P ops true i o E w H c
  |some (e,want)=>match je ops e with
   |none=>False
   |some d=>match E.get? d with
    |some (.bool t)=>Y t (kL P ops true i o d want true E w H c) (kL P ops true i o d want false E w H c)
    |some (.tuple _)=>c (Env.put E o.dst undef) w (bif calm P o then H else dc ops i H)
    |_=>False
def nI(P:aR)(ops:Array Oper)(K:Env->C->Prop):Tr->Env->C->eB->Prop
 |.nil,c,d,_=>K c d
 |.one i t,c,d,e=>uj P ops i c d e λh k j=>nI P ops K t h k j
 |.fork a b,c,d,e=>nI P ops K a c d e/\nI P ops K b c d e
def hY(P:aR)(ops:Array Oper):Tr->Bool->Array Bool->Bool
 |.nil,alt,c=>!alt&&(eA .any ops c).isEmpty
 |.one i t,alt,c=>(match ops[i]? with
   |some o=>bif alt then !calm P o else bif calm P o then Region.free .any ops c i&&(eA .any ops c).contains i else eA .any ops c==[i]
   |none=>false)&&hY P ops t false (c.setIfInBounds i true)
 |.fork a b,alt,c=>(alt||eA .any ops c==(Tr.fork a b).iO)&&(cv a.len b.len&&(hY P ops a true c&&hY P ops b true c))
section
variable {P:aR} {ops:Array Oper} {n:Cx} {K:Env->C->Prop}
def LS{i:Nat}{o:Oper}{a:Act}{E:Env}{w:C}{H:eB}{Kh:Env->C->eB->Prop}{z:Array Bool}{fuel:Nat}{Q:Exit->Act->C->Prop}(x:dS n ops=true)(j:ops[i]? =some o)(F:calm P o=false)(u:Ag n a E)(J:cU o (yielded ops a.tmps)=true)(h:nF P ops true i o E w H Kh)(next:∀d k c e,Ag n d k->(∀p∈e,p.2 c)->Kh k c e->ey P ops Q fuel e (z.setIfInBounds i true) d c):
  wpOp P ops Q i (λd c=>(∀p∈dc ops i H,p.2 c)/\ey P ops Q fuel (dc ops i H) (z.setIfInBounds i true) d c) a w:=by have G:=Region.noSelect_spec (ops:=ops) (by unfold dS at x;grind);unfold nF at h;rw[F]at h;simp only[cond_false,cond_true]at h;refine vP j J (mf (λA b=>G i o A b j) u h) λv c I=>?_;obtain⟨B,D⟩:=rh I;have q:∀p∈dc ops i H,p.2 c:=λp y=>B _ (Bv (fw.1 y).1 (fw.1 y).2);exact⟨q,next _ _ _ _ (u.put v (gF x j)) q D⟩
def Eg{i:Nat}{o:Oper}{a:Act}{w:C}{H:eB}{c:Array Bool}{fuel:Nat}{Q:Exit->Act->C->Prop}(j:ops[i]? =some o)(h:∀p∈H,p.2 w)(n:cU o (yielded ops a.tmps)=false)(next:ey P ops Q fuel (dc ops i H) (c.setIfInBounds i true) (a.put o.dst undef) w):
  wpOp P ops Q i (λe d=>(∀p∈dc ops i H,p.2 d)/\ey P ops Q fuel (dc ops i H) (c.setIfInBounds i true) e d) a w:=by unfold wpOp;simp only[j,n];exact⟨λp k=>h p (fw.1 k).1,next⟩
def QZ(q:dS n ops=true){i:Nat}{o:Oper}{E:Env}{w:C}{H:eB}{a:Act}{D:Env->C->eB->Prop}{y:Array Bool}{fuel:Nat}(c:ops[i]? =some o)(z:(bif calm P o then Region.free .any ops y i&&(eA .any ops y).contains i else eA .any ops y==[i])=true)(e:Ag n a E)(d:∀p∈H,p.2 w)(h:uj P ops i E w H D)(next:∀L J I B,Ag n L J->(∀p∈B,p.2 I)->D J I B->ey P ops (hd n K) fuel B (y.setIfInBounds i true) L I):ey P ops (hd n K) (fuel+1) H y a w:=by
 unfold uj at h;rw[c]at h;simp only at h;cases j:o.guard with
 |none=>
  rw[j]at h;simp only at h;exact yW q c z (λ_ _ _=>rfl) e d (by simp[cU,j]) h next
 |some Q=>
  obtain⟨O,want⟩:=Q;rw[j]at h;simp only at h;cases G:je ops O with
  |none=>grind
  |some N=>
   rw[G]at h;simp only at h;split at h
   .rename_i t x;have A:=qN e G x;have k:kL P ops true i o N want t E w H D:=by
     cases t
     .exact h
     .exact h
    unfold kL at k;cases M:(t==want)with
    |true=>
     rw[M]at k;exact yW q c z (λ_ _ _=>rfl) (e.same x) d (by simp[cU,j,A];grind) k next
    |false=>
     rw[M]at k;simp only[cond_false]at k;refine vr q c z (λ_ _ _=>rfl) d (by simp[cU,j,A];grind) ?_;refine next _ _ _ _ ((e.same x).put undef (gF q c)) ?_ k
     intro p u;cases F:calm P o
     .rw [F]at u;exact d p (fw.1 u).1
     grind
   .rename_i S x;have A:=qO e G x;refine vr q c z (λ_ _ _=>rfl) d (by simp[cU,j,A]) ?_;refine next _ _ _ _ (e.put undef (gF q c)) ?_ h
    intro p u;cases F:calm P o
    .rw [F]at u;exact d p (fw.1 u).1
    grind
   grind
def Q'(y:dS n ops=true){i:Nat}{o:Oper}{E:Env}{w:C}{H:eB}{a:Act}{B:Env->C->eB->Prop}{L:Array Bool}{fuel:Nat}(c:ops[i]? =some o)(x:calm P o=false)(d:Ag n a E)(D:∀p∈H,p.2 w)(h:uj P ops i E w H B)(next:∀u G k A,Ag n u G->(∀p∈A,p.2 k)->B G k A->ey P ops (hd n K) fuel A (L.setIfInBounds i true) u k):
  wpOp P ops (hd n K) i (λu k=>(∀p∈dc ops i H,p.2 k)/\ey P ops (hd n K) fuel (dc ops i H) (L.setIfInBounds i true) u k) a w:=by
 unfold uj at h;rw[c]at h;simp only at h;have I:∀p∈dc ops i H,p.2 w:=λp N=>D p (fw.1 N).1;cases e:o.guard with
 |none=>
  rw[e]at h;simp only at h;exact LS y c x d (by simp[cU,e]) h next
 |some Q=>
  obtain⟨O,want⟩:=Q;rw[e]at h;simp only at h;cases F:je ops O with
  |none=>grind
  |some M=>
   rw[F]at h;simp only at h;split at h
   .rename_i t q;have z:=qN d F q;have j:kL P ops true i o M want t E w H B:=by
     cases t
     .exact h
     .exact h
    unfold kL at j;cases J:(t==want)with
    |true=>
     rw[J]at j;exact LS y c x (d.same q) (by simp[cU,e,z];grind) j next
    |false=>
     rw[J,x]at j;simp only[cond_false]at j;exact Eg c D (by simp[cU,e,z];grind) (next _ _ _ _ ((d.same q).put undef (gF y c)) I j)
   .rename_i S q;have z:=qO d F q;rw[x]at h;simp only[cond_false]at h;exact Eg c D (by simp[cU,e,z]) (next _ _ _ _ (d.put undef (gF y c)) I h)
   grind
def EJ:∀(t:Tr) (d:Array Bool),hY P ops t true d=true->∃m,t.len=m+1
 |.nil,d,c=>by simp[hY]at c
 |.one i t,d,_=>⟨t.len,rfl⟩
 |.fork a b,d,c=>by unfold hY at c;simp only[bC]at c;exact EJ a d c.2.2.1
def EI:∀(t:Tr) (d:Array Bool),hY P ops t true d=true->t.iO≠[]
 |.nil,d,c=>by simp[hY]at c
 |.one i t,d,_=>by simp[Tr.iO]
 |.fork a b,d,c=>by unfold hY at c;simp only[bC]at c;have:=EI a d c.2.2.1;simp[Tr.iO,this]
def vH(B:dS n ops=true):∀(t:Tr) (alt:Bool) (d:Array Bool) (E:Env) (w:C) (H:eB) (a:Act) (m:Nat),hY P ops t alt d=true->Ag n a E->(∀p∈H,p.2 w)->nI P ops K t E w H->
  (alt=false->t.len=m->ey P ops (hd n K) m H d a w)/\
  (alt=true->t.len=m+1->∀i∈t.iO,wpOp P ops (hd n K) i (λq j=>(∀p∈dc ops i H,p.2 j)/\ey P ops (hd n K) m (dc ops i H) (d.setIfInBounds i true) q j) a w)
 |.nil,alt,d,E,w,H,a,m,c,u,A,e=>by
  unfold hY at c;rw[bC]at c;refine⟨λ_ h=>?_,λz=>?_⟩
  .subst h;exact λ_=>⟨by grind,E,u,e⟩
  grind
 |.one i t,alt,d,E,w,H,a,m,c,u,A,e=>by
  unfold hY at c;rw[bC]at c;obtain⟨c,W⟩:=c;cases O:ops[i]? with
  |none=>grind
  |some o=>
   rw[O]at c;simp only at c;unfold nI at e;refine⟨λz h=>?_,λz h ab Z=>?_⟩
   .subst z h;exact QZ B O c u A e λq G j I J L M=>(vH B t false _ G j I q _ W J L M).1 rfl rfl
   .subst z;rw[cond_true]at c;obtain rfl:=cO.1 Z;have N:t.len=m:=by simpa[Tr.len]using h
    exact Q' B O (by grind) u A e λq G j I J L M=>(vH B t false _ G j I q _ W J L M).1 rfl N
 |.fork y F,alt,d,E,w,H,a,m,c,u,A,e=>by
  unfold hY at c;simp only[bC]at c;obtain⟨hr,S,Q,hy⟩:=c;rw[ez]at S;unfold nI at e;have both:∀k,y.len=k+1->∀i∈(Tr.fork y F).iO,wpOp P ops (hd n K) i (λq j=>(∀p∈dc ops i H,p.2 j)/\ey P ops (hd n K) k (dc ops i H) (d.setIfInBounds i true) q j) a w:=λk D i x=>by
   rcases a6.1 x with x|x
   .exact (vH B y true d E w H a k Q u A e.1).2 rfl D i x
   .exact (vH B F true d E w H a k hy u A e.2).2 rfl (S▸D) i x
  refine⟨λz h=>?_,λ_ h=>both m h⟩;subst z;obtain⟨k,D⟩:=EJ y d Q;have N:m=k+1:=by rw[<-h,<-D];rfl
  subst N;have T:eA .any ops d=(Tr.fork y F).iO:=by grind
  have aa:(Tr.fork y F).iO≠[]:=by have:=EI y d Q;simp[Tr.iO,this]
  exact λ_=>⟨λY=>absurd (T▸Y) aa,λi x=>both k D i (T▸x)⟩
def VR{c:Code}{id:Nat}{a:Act}{E:Env}{w:C}{t:Tr}(x:P.follows .mixedOrders=true)(q:c=.region id ops true)(d:dS n ops=true)(u:hY P ops t false (gI ops.size false)=true)(z:t.len=ops.size)(k:Ag n a E)(h:nI P ops K t E w.drew []):c.wpIn (FW n) 0 P (hd n K) a w:=by subst q;have e:=(vH d t false _ E _ [] a _ u k (λp y=>(by cases y)) h).1 rfl z;have j:=zi _ [] _ _ _ (Down.zero _ _) e;refine wpIn_region_draw λt=>?_;refine qL d (λ⟨_,_,h⟩=>h) _ _ _ ?_;simp only[Region.schedule,x,Bool.true_or,if_true];exact wpAny_sound ops.size t _ a _ j
def sw(P:aR)(n:Nat)(c:Code)(t:Tr):Bool:=match c with
 |.region _ ops d=>d&&(P.follows .mixedOrders&&(dS n ops&&(hY P ops t false (gI ops.size false)&&cv t.len ops.size)))
 |_=>false
def WP.tree{c:Code}{Q:Exit->Act->C->Prop}{E:Env}{w:C}(t:Tr)(K:Env->C->Prop)(d:sw P n c t=true)(h:nI P (Code.ops c) K t E w.drew [])(F:∀e k j,Ag n j e->K e k->Q .normal j k):WP P n c Q E w:=by
 unfold sw at d;split at d
 .rename_i id ops D;simp only[bC]at d;obtain⟨rfl,y,z,A,q⟩:=d;rw[ez]at q;exact λa B=>wpIn_mono (VR y rfl z A q B h) λx j k u=>by
   cases x with
   |normal=>obtain⟨e,hA,hK⟩:=u;grind
   |_=>exact u.elim
 grind
end
section
variable {P:aR}
def lo(r:Loop)(st:LoopState)(c:Option Code):Obj:=.loop {r with state:=st,pending:=c}
structure zT(r:Loop)(m:Nat)(ps:Array Tmp)(assign body:Code)(E:Env):Prop where
 ps:r.params=ps
 assign:r.assign=assign
 body:r.body=body
 size:r.tmps.size=m
 get:∀t v,E.get? t=some v->r.tmps[t]? =some v
def oH:Env->List Nat->List ab->Env
 |c,p::d,v::e=>oH ((p,v)::c) d e
 |c,_,_=>c
def Ke{m l:Nat}:∀(ps:List Nat) (vs:List ab) (E:Env) (tmps:Array ab),tmps.size=m->(∀p∈ps,p<m)->(∀t v,E.get? t=some v->tmps[t]? =some v)->
  Ag ⟨m,[],some l⟩ {tmps:=(ps.zip vs).foldl (λt (p,v)=>t.setIfInBounds p v) tmps,defers:=[]} (oH E ps vs)
 |[],vs,E,tmps,e,_,c=>⟨rfl,by simpa using e,by cases vs<;>simpa[oH]using c⟩
 |p::ps,[],E,tmps,e,_,c=>⟨rfl,by simpa using e,by simpa[oH]using c⟩
 |p::ps,v::vs,E,tmps,e,h,c=>by simp only[List.zip_cons_cons,List.foldl_cons,oH];refine Ke ps vs _ _ (by grind) (λk q=>h k (by grind)) ?_;have:=(Ag.put (n:=⟨m,[],some l⟩) (a:={tmps:=tmps,defers:=[]}) (E:=E) ⟨rfl,e,c⟩ (d:=some p) v (λt j=>by cases j;exact h p (by simp))).get;simpa[Env.put,Act.put]using this
def s4(P:aR)(l:Nat)(args:Array ab)(w:C)(K:Bool->C->Prop):Prop:=
 YieldAt Fence.wide 0 P l args w λc d=>∃b:Bool,c=U (.bool b)/\K b d
def zR(P:aR)(m l:Nat)(r:Loop)(body:Code)(Q:Exit->Act->C->Prop):Exit->Act->C->Prop:=
 Exit.then (λa₁ c₁=>c₁.heap[l]? =some (lo r .ready none)/\fB P ⟨m,[],some l⟩ body Q a₁ (c₁.putObj l (lo r .busy none))) (λ_ _ _=>False)
def VV{m l:Nat}{r:Loop}{ps:Array Tmp}{assign body:Code}{E:Env}{args:List ab}{w:C}{R:cQ->C->Prop}{K:Bool->C->Prop}(c:zT r m ps assign body E)(x:w.heap[l]? =some (lo r .ready none))(B:args.length=ps.size)(y:ps.toList.all (λp=>Nat.blt p m)=true)(q:∀d e,R d e->∃b:Bool,d=U (.bool b)/\K b e)(h:WP P ⟨m,[],some l⟩ assign (zR P m l r body (roundPost P l R)) (oH E ps.toList args) w):s4 P l args.toArray w K:=by
 have A:=run_yield (P:=P) (w:=w) (args:=args.toArray) x (by simp[c.ps,B]);refine⟨_,_,_,_,A,RoundIn.mono (roundIn_of_wpIn (R:=R) trivial ?_) q⟩;simp only[c.ps,c.assign,c.body];have u:Ag ⟨m,[],some l⟩ {tmps:=(ps.zip args.toArray).foldl (λt (p,v)=>t.setIfInBounds p v) r.tmps,defers:=[]} (oH E ps.toList args):=by have:=Ke (m:=m) (l:=l) ps.toList args E r.tmps c.size (λp z=>by simpa using fF.1 y p z) c.get;rw[<-Array.foldl_toList];simpa using this
 refine wpIn_mono (h _ u) λd D e j=>?_;cases d with
 |normal=>
  obtain⟨k,n⟩:=j;exact⟨_,run_beginRound k rfl,n⟩
 |_=>exact j.elim
def T3{l:Nat}{r:Loop}{a:Act}{w:C}{R:cQ->C->Prop}(c:w.heap[l]? =some (lo r .busy none))(h:R (U (.bool true)) (w.putObj l (lo r .ready none))):roundPost P l R .normal a w:=
 ⟨_,_,run_endRound none c,h⟩
def T4{l:Nat}{r:Loop}{a:Act}{w:C}{R:cQ->C->Prop}(c:w.heap[l]? =some (lo r .busy none))(h:R (U (.bool false)) (w.putObj l (lo r .done (some .ret)))):roundPost P l R .ret a w:=
 ⟨_,_,run_endRound (some .ret) c,h⟩
abbrev marked(m D:Nat):Cx:=⟨m,[{target:=.collected D,args:=#[]}],none⟩
def vZ(c:C)(l:Nat)(o:LoopState->Option Code->Obj)(N:C->Prop)(X:Nat->C->Prop)(T:C->Prop):Prop:=
 (c.heap[l]? =some (o .ready none)/\N (c.putObj l (o .exhausted none)))\/
 (∃id,c.heap[l]? =some (o .done (some (.exit id)))/\X id (c.putObj l (o .exhausted (some (.exit id)))))\/
 (c.heap[l]? =some (o .done (some .ret))/\T (c.putObj l (o .exhausted (some .ret))))
def WP.range{m:Nat}{c:Code}{g:Operand}{ps:Array Tmp}{assign body:Code}{gf:Nat}{lb:Array ab}{Q:Exit->Act->C->Prop}{E:Env}{w:C}(N:C->Prop)(X:Nat->C->Prop)(T:C->Prop)(J:c=.rangeFunc g ps assign body)(O:E.val g=some (.func (.func gf) #[] lb))(K:gx P gf=true)(G:∀d,N d->∀a,Ag (marked m w.heap.size) a E->Q .normal a d)(I:∀id d,X id d->∀a,Ag (marked m w.heap.size) a E->Q (.exit id) a d)(H:∀d,T d->∀a,Ag (marked m w.heap.size) a E->Q .ret a d)(h:∀r:Loop,zT r m ps assign body E->ah P gf (#[.func (.yield (w.heap.size+1)) #[] #[]]++lb) ((w.alloc (.deferred (some []))).alloc (lo r .ready none)) λu y=>(∃v,u=U v)/\vZ y (w.heap.size+1) (lo r) N X T):
  WP P (cx m) c Q E w:=by
 subst J;intro a e;have q:Ag (marked m w.heap.size) {a with defers:=[{target:=.collected w.heap.size,args:=#[]}]++a.defers} E:=⟨by show _++a.defers=_;rw[e.defers];rfl,e.size,e.get⟩;have S:a.eval g=.func (.func gf) #[] lb:=e.val O;refine wpIn_rangeFunc (F:=FW (cx m)) (n:=0) λfn _=>?_;obtain⟨r,x⟩:∃r:Loop,r={state:=.ready,pending:=none,fn,tmps:=a.tmps,params:=ps,assign,body,defers:=w.heap.size}:=⟨_,rfl⟩;have W:zT r m ps assign body E:=by subst x;exact⟨rfl,rfl,rfl,e.size,e.get⟩
 have L:=h r W;have z:(Instr.enterLoop fn a.tmps ps assign body none).run P w=.ok (w.heap.size+1,[{target:=.collected w.heap.size,args:=#[]}]) ((w.alloc (.deferred (some []))).alloc (lo r .ready none)):=by rw[run_enterLoop_outer];subst x;rfl
 generalize Y:(w.alloc (.deferred (some []))).alloc (lo r .ready none)=W1 at *;have A:(resolve a.eval (rangeCall g (w.heap.size+1)) 0).run P W1=.ok {target:=.fn (.func gf) lb,args:=#[.func (.yield (w.heap.size+1)) #[] #[]]} W1:=by simp only[resolve,S];simp[go_sem]
 have B:(invoke (.fn (.func gf) lb) #[.func (.yield (w.heap.size+1)) #[] #[]]).run P W1=.ok (.enter gf (#[.func (.yield (w.heap.size+1)) #[] #[]]++lb)) W1:=by simp[invoke,go_sem,tC K]
 have D:CallsIn (FW (cx m)) 0 P gf (#[.func (.yield (w.heap.size+1)) #[] #[]]++lb) W1 (rangePost (FW (cx m)) 0 P (w.heap.size+1) Q {a with defers:=[{target:=.collected w.heap.size,args:=#[]}]++a.defers}):=by
  refine GG (n:=cx m) (L.mono ?_);rintro u y ⟨⟨v,rfl⟩,M⟩;rcases M with⟨j,k⟩|⟨id,j,k⟩|⟨j,k⟩
  .exact ⟨_,_,run_endLoop (r:={r with state:=.ready,pending:=none}) j (by simp),G _ k _ q⟩
  .exact ⟨_,_,run_endLoop (r:={r with state:=.done,pending:=some (.exit id)}) j (by simp),wpIn_exit (I id _ k _ q)⟩
  .exact ⟨_,_,run_endLoop (r:={r with state:=.done,pending:=some .ret}) j (by simp),wpIn_ret (H _ k _ q)⟩
 exact⟨_,_,_,_,_,_,_,_,z,A,λ_ _=>trivial,B,λh=>(by cases h),D⟩
def D4(P:aR)(fn:Func)(E:Env)(w:C)(D:Nat)(R:aa):Prop:=
 w.heap[D]? =some (.deferred (some []))/\kq P fn E (w.putObj D (.deferred none)) λv=>R (U v) (w.putObj D (.deferred none))
def IY{fn:Func}{tmps:Array ab}{R:cQ->C->Prop}{w:C}{v:ab}(h:(results fn tmps).run P w=.ok v w)(c:R (U v) w):LeavesInM Fence.wide 0 P fn tmps R [] .returning w:=by
 show LeavesIn _ _ _ _ _ _ _ _ _;simp only[LeavesIn]
 grind
def TY{m:Nat}{fn:Func}{a:Act}{E:Env}{w:C}{R:aa}(c:Ag (cx m) a E)(h:kq P fn E w λv=>R (U v) w):LeavesInM Fence.wide 0 P fn a.tmps R a.defers .returning w:=by obtain⟨v,d,e⟩:=D3 c h;rw[c.defers];exact IY d e
def D5{m D:Nat}{fn:Func}{a:Act}{E:Env}{w:C}{R:aa}(c:Ag (marked m D) a E)(h:D4 P fn E w D R):LeavesInM Fence.wide 0 P fn a.tmps R a.defers .returning w:=by obtain⟨d,h⟩:=h;obtain⟨v,e,j⟩:=D3 (n:=marked m D) c h;rw[c.defers];exact⟨by simp,.inl ⟨D,_,rfl,run_takeDeferred d,IY e j⟩⟩
def Pl{f:bW}{fn:Func}{c:Code}{args:List ab}{w:C}{R:cQ->C->Prop}(e:P.funcs[f]? =some fn)(d:fn.body=some c)(j:Nat.ble args.length fn.ntmps=true)(h:WP P (cx fn.ntmps) c (bodyPostM Fence.wide 0 P fn R) (ke 0 args) w):ah P f args.toArray w R:=by
 have q:=Nat.le_of_ble_eq_true j;refine callsIn_wide.1 (callsIn_of_wp_marks (n:=0) e d trivial (h _ ⟨rfl,by grind,?_⟩));intro t v k;have:=(A5 args 0 t v k).2
 grind
def z7(v:Option ab)(K:Nat->Prop):Prop:=match v with |some (.func (.yield l) d c)=>cF (cv d.size 0&&cv c.size 0) (K l)|_=>False
def NO{v:Option ab}{K:Nat->Prop}(h:z7 v K):∃l,v=some (.func (.yield l) #[] #[])/\K l:=by
 unfold z7 at h;split at h
 .rename_i l e d;obtain⟨c,j⟩:=dU h;simp only[bC,ez]at c
  grind
 grind
end
abbrev _root_.Go.Code.sn(c:Code):Code:=Code.snd c
abbrev _root_.Go.Code.fs(c:Code):Code:=Code.fst c
abbrev _root_.Go.Value.i(x:Int):ab:=.int .i64 x
abbrev _root_.Go.Value.u(x:Int):ab:=.int .u64 x
abbrev _root_.Go.Value.s0:ab:=.string (av #[])
abbrev nb(w:C):Addr:=⟨w.heap.size,0,none⟩
section
variable {P:aR} {n:Cx} {Q:Exit->Act->C->Prop} {E:Env} {w:C} {K:Env->C->Prop}
def nD(P:aR)(c:Code)(K:Env->C->Prop)(E:Env)(w:C):Prop:=gU P (Code.ops c) false K (List.range (Code.ops c).size) E w []
def AR(P:aR)(c:Code)(l:List Nat)(K:Env->C->Prop)(E:Env)(w:C):Prop:=gU P (Code.ops c) true K l E w.drew []
def Vq(P:aR)(c:Code)(t:Tr)(K:Env->C->Prop)(E:Env)(w:C):Prop:=nI P (Code.ops c) K t E w.drew []
abbrev dJ(P:aR)(c:Code)(K:Env->C->Prop)(E:Env)(w:C):Prop:=nD P (Code.fst c) K E w
abbrev Uk(P:aR)(c:Code)(l:List Nat)(K:Env->C->Prop)(E:Env)(w:C):Prop:=AR P (Code.fst c) l K E w
abbrev UJ(P:aR)(c:Code)(t:Tr)(K:Env->C->Prop)(E:Env)(w:C):Prop:=Vq P (Code.fst c) t K E w
def rS:Code->Bool
 |.seq _ _=>true
 |_=>false
def vp{c:Code}(h:rS c=true):c=.seq (Code.fst c) (Code.snd c):=by cases c<;>first |rfl|cases h
def nT{a b:Bool}(h:(a&&b)=true):a=true/\b=true:=by grind
def rg(c:Code)(k:qt n c=true)(h:nD P c K E w)(q:∀d j e,Ag n e d->K d j->Q .normal e j):WP P n c Q E w:=WP.oL K k h q
def dg(c:Code){l:List Nat}(k:yA P n c l=true)(h:AR P c l K E w)(q:∀d j e,Ag n e d->K d j->Q .normal e j):WP P n c Q E w:=WP.draw l K k h q
def sr(c:Code)(h:dJ P c K E w)(x:∀d e,K d e->WP P n (Code.snd c) Q d e)(j:(rS c&&qt n (Code.fst c))=true:=by kernel_rfl):WP P n c Q E w:=
 WP.seq (vp (nT j).1) (WP.oL K (nT j).2 h λd e k q u=>x d e u k q)
def sd(c:Code){l:List Nat}(j:(rS c&&yA P n (Code.fst c) l)=true)(h:Uk P c l K E w)(x:∀d e,K d e->WP P n (Code.snd c) Q d e):WP P n c Q E w:=
 WP.seq (vp (nT j).1) (WP.draw l K (nT j).2 h λd e k q u=>x d e u k q)
def st(c:Code){t:Tr}(j:(rS c&&sw P n (Code.fst c) t)=true)(h:UJ P c t K E w)(x:∀d e,K d e->WP P n (Code.snd c) Q d e):WP P n c Q E w:=
 WP.seq (vp (nT j).1) (WP.tree t K (nT j).2 h λd e k q u=>x d e u k q)
def sq(c:Code)(h:WP P n (Code.fst c) (Exit.then (fB P n (Code.snd c) Q) Q) E w)(d:rS c=true:=by kernel_rfl):WP P n c Q E w:=WP.seq (vp d) h
def bk(c:Code)(id:Nat)(d:c=.block id (Code.fst c))(h:WP P n (Code.fst c) (Exit.inBlock id Q) E w):WP P n c Q E w:=WP.block d h
def cn(c:Code){o:Operand}{A d:Prop}(h:gy (E.val o) A d)(e:A->WP P n (Code.fst c) Q E w)(j:d->WP P n (Code.snd c) Q E w)(k:c=.cond o (Code.fst c) (Code.snd c):=by kernel_rfl):WP P n c Q E w:=WP.gy k e j h
def sk(c:Code)(h:∀a,Ag n a E->Q .normal a w)(d:c=.skip:=by kernel_rfl):WP P n c Q E w:=WP.skip d h
def xt(c:Code)(id:Nat)(d:c=.exit id)(h:∀a,Ag n a E->Q (.exit id) a w):WP P n c Q E w:=WP.exit d h
def rt(c:Code)(h:∀a,Ag n a E->Q .ret a w)(d:c=.ret:=by kernel_rfl):WP P n c Q E w:=WP.ret d h
def lp(c:Code)(d:c=.loop (Code.fst c))(h:LP P n (Code.fst c) Q E w):WP P n c Q E w:=WP.loop d h
def nx{c:Code}{a:Act}(d:Ag n a E)(h:WP P n c Q E w):Exit.then (fB P n c Q) Q .normal a w:=h a d
end
open Go.RowKit
structure Fr(M:Nat->Prop)(w w':C):Prop where
 os:w'.os=w.os
 tape:w'.tape=w.tape
 output:w'.output=w.output
 size:w.heap.size<=w'.heap.size
 cA:∀b,b<w.heap.size->¬M b->w'.heap[b]? =w.heap[b]?
def Fr.refl(M:Nat->Prop)(w:C):Fr M w w:=⟨rfl,rfl,rfl,b' _,λ_ _ _=>rfl⟩
def Fr.trans{M j:Nat->Prop}{a b c:C}(h:Fr M a b)(k:Fr j b c)(u:∀d,d<a.heap.size->j d->M d):Fr M a c:=
 ⟨k.os.trans h.os,k.tape.trans h.tape,k.output.trans h.output,bB h.size k.size,
  λd e n=>(k.cA d (iI e h.size) (λq=>n (u d e q))).trans (h.cA d e n)⟩
def Fr.mono{M d:Nat->Prop}{a b:C}(h:Fr M a b)(k:∀c,c<a.heap.size->M c->d c):Fr d a b:=
 ⟨h.os,h.tape,h.output,h.size,λc e n=>h.cA c e (λj=>n (k c e j))⟩
def Fr.drew(M:Nat->Prop)(w:C):Fr M w w.drew:=⟨rfl,rfl,rfl,b' _,λ_ _ _=>rfl⟩
def Fr.alloc(M:Nat->Prop)(w:C)(o:Obj):Fr M w (w.alloc o):=⟨rfl,rfl,rfl,by simp,λd c _=>_root_.Go.heap_alloc_old w o d c⟩
def Fr.set{M:Nat->Prop}(w:C)(p:Addr)(v:ab)(h:M p.block):Fr M w (w.setCell p v):=
 ⟨rfl,rfl,rfl,by simp[World.setCell],λe _ d=>Below.heap_setCell w p v e (λc=>d (c▸h))⟩
def Fr.grown{M:Nat->Prop}{w w':C}{r:Option Nat}(h:w.grownBy w' r)(e:∀b,r=some b->M b):Fr M w w':=
 ⟨h.os,h.tape,h.output,h.size,λb d j=>h.block b d (λc=>j (e b c.symm))⟩
def Fr.setObj{M:Nat->Prop}(w:C)(r:Nat)(o:Obj)(h:M r):Fr M w {w with heap:=w.heap.setIfInBounds r o}:=
 ⟨rfl,rfl,rfl,by simp,λd _ c=>by grind⟩
def Fr.below{w w':C}(h:Fr (λ_=>False) w w'):Below w.heap.size w w':=⟨h.os,h.tape,h.output,h.size,λe d=>h.cA e d (λc=>c)⟩
def Fr.at{M:Nat->Prop}{w w':C}(h:Fr M w w'){b:Nat}{o:Obj}(c:w.heap[b]? =some o)(d:¬M b):w'.heap[b]? =some o:=
 (h.cA b (Array.getElem?_eq_some_iff.1 c).1 d).trans c
def lt_of_heap{w:C}{b:Nat}{o:Obj}(c:w.heap[b]? =some o):b<w.heap.size:=(Array.getElem?_eq_some_iff.1 c).1
def kM(w:C)(o:Obj):(w.alloc o).heap[w.heap.size]? =some o:=_root_.Go.heap_alloc_new w o
def size_alloc(w:C)(o:Obj):(w.alloc o).heap.size=w.heap.size+1:=by simp
def cellAt{w:C}{p:Addr}{cs:Array ab}{T:aF}{f:Nat×Nat}{i:Nat}{v:ab}(h:w.heap[p.block]? =some (.cells cs T f))(d:p.spot=none)(hi:cs[p.off+i]? =some v):
  w.cell? (p.add i)=some v:=by
 unfold Addr.add;split
 .rename_i c;subst c;simp[World.cell?,h,d];omega
 .simp [World.cell?,h,hi]
def frozenAt{w:C}{p:Addr}{cs:Array ab}{T:aF}{i:Nat}(h:w.heap[p.block]? =some (.cells cs T (0,0))):w.frozen? (p.add i)=false:=by unfold Addr.add;split<;>simp[World.frozen?,h]
def setAt{w:C}{p:Addr}{cs:Array ab}{T:aF}{f:Nat×Nat}{i:Nat}{v:ab}(h:w.heap[p.block]? =some (.cells cs T f))(j:p.spot=none):
  (w.setCell (p.add i) v).heap[p.block]? =some (.cells (cs.setIfInBounds (p.off+i) v) T f):=by
 have c:(p.add i).block=p.block:=by unfold Addr.add;grind
 have e:(p.add i).spot=none:=by unfold Addr.add;grind
 have d:(p.add i).off=p.off+i:=by unfold Addr.add;grind
 simp[World.setCell,c,h,e,d,Array.getElem?_modify]
def iM(p:Addr)(i:Nat):(p.add i).block=p.block:=by unfold Addr.add;grind
def aO(s:J):List Nat:=match s.a with |some p=>[p.block]|none=>[]
def Row(w:C)(T:aF)(s:J)(vs:List ab):Prop:=
 (s.a=none/\s.n=0/\s.c=0/\vs=[])\/∃b o d f,s.a=some ⟨b,o,none⟩/\w.heap[b]? =some (.cells d T f)/\∀i v,vs[i]? =some v->d[o+i]? =some v
def Row.lt{w:C}{T:aF}{s:J}{vs:List ab}(h:Row w T s vs):∀b∈aO s,b<w.heap.size:=by
 rcases h with⟨c,_⟩|⟨b,o,d,f,c,e,j⟩
 .simp [aO,c]
 .simp [aO,c];grind
def Row.cell{w:C}{T:aF}{s:J}{vs:List ab}{i:Nat}{v:ab}(h:Row w T s vs)(hi:vs[i]? =some v):∃p,s.a=some p/\w.cell? (p.add i)=some v:=by
 rcases h with⟨_,_,_,rfl⟩|⟨b,o,j,f,c,d,e⟩
 .cases hi
 .exact ⟨_,c,cellAt (p:=⟨b,o,none⟩) d rfl (e i v hi)⟩
def aG(w:C)(e:aF)(sz:Nat)(s:J)(xs:List ab):Prop:=w.ownsRow 0 e sz s.v s.n xs
def aG.nil(w:C)(e:aF)(sz:Nat):aG w e sz ⟨none,0,0⟩ []:=World.ownsRow_nil w 0 e sz
def aG.len{w:C}{e:aF}{sz:Nat}{s:J}{xs:List ab}(h:aG w e sz s xs):xs.length=s.n *sz:=h.1
def aG.cases{w:C}{e:aF}{sz:Nat}{s:J}{xs:List ab}(h:aG w e sz s xs):
  (s=⟨none,0,0⟩/\xs=[])\/∃g cur,s.a=some ⟨g,0,none⟩/\w.heap[g]? =some (.cells cur e (0,0))/\s.n<=s.c/\s.c<=maxLen/\cur.size=s.c *sz/\cur.toList.take (s.n *sz)=xs:=by
 obtain⟨a,A,k⟩:=s;obtain⟨z,h⟩:=h;rcases h with⟨d,j⟩|⟨g,cap,cur,d,_,j,q,u,x,y⟩
 .cases d
  grind
 grind
def aG.row{w:C}{e:aF}{sz:Nat}{s:J}{xs:List ab}(h:aG w e sz s xs):Row w e s xs:=by
 rcases h.cases with⟨rfl,rfl⟩|⟨g,cur,c,d,_,_,_,k⟩
 .exact .inl ⟨rfl,rfl,rfl,rfl⟩
 .refine .inr ⟨g,0,cur,(0,0),c,d,λi v j=>?_⟩
  grind
def aG.cA{w w':C}{e:aF}{sz:Nat}{s:J}{xs:List ab}(h:aG w e sz s xs)(n:∀b∈aO s,b<w.heap.size->w'.heap[b]? =w.heap[b]?):aG w' e sz s xs:=by
 obtain⟨q,h⟩:=h;refine⟨q,?_⟩;rcases h with h|⟨g,cap,cur,c,j,d,r⟩
 .grind
 .have k:s.a=some ⟨g,0,none⟩:=(Value.slice.inj c).1;exact .inr ⟨g,cap,cur,c,j,(n g (by simp[aO,k]) (lt_of_heap d)).trans d,r⟩
def aG.fr{M:Nat->Prop}{w w':C}{e:aF}{sz:Nat}{s:J}{xs:List ab}(h:aG w e sz s xs)(d:Fr M w w')(k:∀b∈aO s,¬M b):aG w' e sz s xs:=
 h.cA λb c j=>d.cA b j (k b c)
def aG.lt{w:C}{e:aF}{sz:Nat}{s:J}{xs:List ab}(h:aG w e sz s xs):∀b∈aO s,b<w.heap.size:=h.row.lt
def aG.made(w:C)(e:aF)(sz n:Nat)(cs:List ab)(c:cs.length=n *sz)(d:n<=maxLen):aG (w.alloc (.cells cs.toArray e)) e sz ⟨some ⟨w.heap.size,0,none⟩,n,n⟩ cs:=
 ⟨c,.inr ⟨w.heap.size,n,cs.toArray,rfl,fj _,kM w _,b' _,d,by omega,by grind⟩⟩
def Row.made(w:C)(e:aF)(n c:Nat)(cs:List ab):Row (w.alloc (.cells cs.toArray e)) e ⟨some ⟨w.heap.size,0,none⟩,n,c⟩ cs:=
 .inr ⟨w.heap.size,0,cs.toArray,(0,0),rfl,kM w _,λi v d=>by grind⟩
def JV(s:J):s.v.ownBlock=s.a.map (·.block):=by obtain⟨a,d,c⟩:=s;cases a<;>rfl
structure gJ(P:aR)(t e:aF)(z:ab)(sz bytes:Nat):Prop where
 ht:P.underlying t=some (.slice e)
 hi:(P.info? e).map (λi=>(i.zero,i.size,i.bytes))=some (some z,sz,bytes)
 hz:z.cells.size=sz
 hs:0<sz
 hb:0<bytes
def Row.sT{w:C}{T:aF}{s:J}{vs:List ab}(h:Row w T s vs):∀b∈aO s,∃d f,w.heap[b]? =some (.cells d T f):=by
 rcases h with⟨c,_⟩|⟨b,o,d,f,c,k,q⟩
 .simp [aO,c]
 .intro e j;have n:e=b:=by simpa[aO,c]using j
  grind
def q3(kd:iH)(es:Array MapEntry)(ms:List (Int×ab)):Prop:=es.toList.map (λc=>(c.key,c.val))=ms.map λp=>(Value.int kd p.1,p.2)
def kh(ms:List (Int×ab))(k:Int):Option ab:=(ms.find? λp=>p.1==k).map (·.2)
def Bf{kd:iH}{k:Int}:∀{es:List MapEntry} {ms:List (Int×ab)} {i:Nat},es.map (λd=>(d.key,d.val))=ms.map (λp=>(Value.int kd p.1,p.2))->
  Instr.findNow (.int kd) (.int kd k) es i=some ((ms.findIdx? λp=>p.1==k).bind λe=>(ms[e]?).map λp=>(i+e,p.2))
 |[],[],i,_=>rfl
 |[],_::_,_,c=>by grind
 |_::_,[],_,c=>by grind
 |d::es,p::ms,i,c=>by
  simp only[List.map_cons,List.cons.injEq,Prod.mk.injEq]at c;obtain⟨⟨n,w⟩,q⟩:=c;have u:=Bf (kd:=kd) (k:=k) (i:=i+1) q;unfold Instr.findNow;simp only[n,Instr.sameNow,if_true];by_cases y:p.1=k
  .grind
  .have h:(k==p.1)=false:=by grind
   have j:(p.1==k)=false:=by grind
   simp only[h,u,List.findIdx?_cons,j,Bool.false_eq_true,if_false];congr 1;cases x:ms.findIdx? (λp=>p.1==k)with
   |none=>simp
   |some e=>grind
def Jf{ms:List (Int×ab)}{k:Int}{i:Nat}:(((ms.findIdx? λp=>p.1==k).bind λc=>(ms[c]?).map λp=>(i+c,p.2)).map (·.2))=kh ms k:=by
 unfold kh;induction ms generalizing i with
 |nil=>rfl
 |cons p ms e=>
  by_cases j:p.1=k
  .grind
  .have d:(p.1==k)=false:=by grind
   simp only[List.findIdx?_cons,d,Bool.false_eq_true,if_false,List.find?_cons];rw[<-e (i:=i+1)];cases h:ms.findIdx? (λp=>p.1==k)with
   |none=>simp
   |some c=>grind
structure zO(P:aR)(T kt et:aF)(kd:iH)(z:ab):Prop where
 hT:P.underlying T=some (.map kt et)
 hk:P.underlying kt=some (.int kd)
 hz:(P.info? et).map (·.zero)=some (some z)
def GI{P:aR}{c:aF}{kd:iH}(d:P.underlying c=some (.int kd))(b:Bool)(k:Int)(w:C):(Instr.checkKey b 10000 c (.int kd k)).run P w=.ok () w:=by unfold Instr.checkKey;simp[run_underlying d]
def M2{P:aR}{c:aF}{d:ab}(h:(P.info? c).map (·.zero)=some (some d))(w:C):(zeroValue c).run P w=.ok d w:=by obtain⟨i,e,j⟩:=Option.map_eq_some_iff.1 h;simp[zeroValue,typeInfo,e,j]
def Se{P:aR}{T D x:aF}{kd:iH}{E:ab}(h:zO P T D x kd E){w:C}{c:Nat}{es:Array MapEntry}{clock:Nat}{ms:List (Int×ab)}(e:w.heap[c]? =some (.map es clock))(q:q3 kd es ms)(k:Int)(v:ab)(A:kh ms k=none):
  ∃d j,(Instr.mapUpdate T (.map (some c)) (.int kd k) v).run P w=.ok () d/\d.heap[c]? =some (.map j (clock+1))/\q3 kd j (ms++[(k,v)])/\Fr (λb=>b=c) w d/\d.heap.size=w.heap.size:=by
 have y:=Bf (k:=k) (i:=0) q;have z:(getObj c).run P w=.ok (.map es clock) w:=by simp[getObj,Sem.run,e]
 have n:=Jf (ms:=ms) (k:=k) (i:=0);have F:=lt_of_heap e;have B:((ms.findIdx? λp=>p.1==k).bind λu=>(ms[u]?).map λp=>(0+u,p.2))=none:=by rw[A]at n;simpa using n
 refine⟨{w with heap:=w.heap.setIfInBounds c (.map (es.push {key:=.int kd k,val:=v,born:=clock}) (clock+1))},es.push {key:=.int kd k,val:=v,born:=clock},?_,by grind,?_,Fr.setObj w c _ rfl,by simp⟩
 .unfold Instr.mapUpdate Instr.findKey;simp only[Sem.run_bind,run_underlying h.hT,Result.andThen_ok,z,GI h.hk,run_underlying h.hk,y,B];simp[setObj,Sem.run,e]
 .unfold q3 at q ⊢
  grind
def Sc{P:aR}{t e:aF}{h:ab}{sz bytes:Nat}(d:gJ P t e h sz bytes)(w:C)(n:Nat)(A:n *bytes<=140737488355328):
  ∃c,(Instr.makeSlice t (.int .i64 (n:Int)) (.int .i64 (n:Int))).run P w=.ok (.slice (some ⟨w.heap.size,0,none⟩) n n) c/\aG c e sz ⟨some ⟨w.heap.size,0,none⟩,n,n⟩ (madeCells h.cells (n *sz)).toList/\Fr (λ_=>False) w c:=by
 obtain⟨i,x,z,y,B⟩:=info_parts d.hi;have D:n<=140737488355328:=by have:=Nat.le_mul_of_pos_right n d.hb;omega
 obtain⟨c,k,q,u⟩:=run_make_full (P:=P) w 0 t e i h sz d.ht x z y .i64 .i64 n (by grind) (by unfold maxLen;omega) (fj _);exact⟨c,k,q,Fr.grown u λ_ j=>by cases j⟩
abbrev aj(w w':C):Prop:=Fr (λ_=>False) w w'
abbrev ag(b:Nat):Addr:=⟨b,0,none⟩
def dG(b:UInt8):ab:=.int .u8 (b.toNat:Int)
def bd(n:Int):ab:=.int .i64 n
def FQ(bs:List UInt8):∀c∈bs.map dG,c.oneCell'=true:=by intro c d;obtain⟨b,_,rfl⟩:=dv.1 d;rfl
def pV(l:List Int):∀c∈l.map bd,c.oneCell'=true:=by intro c d;obtain⟨b,_,rfl⟩:=dv.1 d;rfl
def Fr.ew{M:Nat->Prop}{a b c:C}(h:Fr M a b)(k:aj b c):Fr M a c:=h.trans k λ_ _ h=>h.elim
def Fr.Dw{M:Nat->Prop}{a b:C}(h:aj a b):Fr M a b:=h.mono λ_ _ h=>h.elim
def m3{w:C}{p:Addr}{v:ab}(c:w.cell? p=some v):p.block<w.heap.size:=by
 unfold World.cell? at c
 grind
def Aw{M:Nat->Prop}{w w':C}(h:Fr M w w'){p:Addr}{v:ab}(c:w.cell? p=some v)(d:¬M p.block):w'.cell? p=some v:=by
 have:=h.cA p.block (m3 c) d;unfold World.cell? at c ⊢
 grind
def add_add(p:Addr)(i j:Nat):(p.add i).add j=p.add (i+j):=by
 unfold Addr.add
 grind
def kD(p:Addr):p.add 0=p:=by simp[Addr.add]
def eY(w:C)(s:J)(vs:List ab):Prop:=(s.a=none->s.n=0/\s.c=0)/\∀i v,vs[i]? =some v->∃p,s.a=some p/\w.cell? (p.add i)=some v
def eY.nil(w:C):eY w ⟨none,0,0⟩ []:=⟨λ_=>⟨rfl,rfl⟩,λi v c=>by grind⟩
def Row.pC{w:C}{T:aF}{s:J}{vs:List ab}(h:Row w T s vs):eY w s vs:=by
 refine⟨λk=>?_,λi v c=>h.cell c⟩;rcases h with⟨_,e,j,_⟩|⟨b,o,d,f,n,_⟩
 .omega
 grind
def eY.fr{M:Nat->Prop}{w w':C}{s:J}{vs:List ab}(h:eY w s vs)(e:Fr M w w')(k:∀b∈aO s,¬M b):eY w' s vs:=
 ⟨h.1,λi v j=>by obtain⟨p,c,d⟩:=h.2 i v j;exact⟨p,c,Aw e d (by rw[iM];exact k _ (by simp[aO,c]))⟩⟩
def eY.get{w:C}{s:J}{vs:List ab}(h:eY w s vs){i j:Nat}{v:ab}(hi:vs[i]? =some v)(c:j=i *1){K:Addr->Prop}(k:∀p,s.a=some p->w.cell? (p.add j)=some v->K p):W.cd s.a K:=by obtain⟨p,d,e⟩:=h.2 i v hi;rw[d];rw[Nat.mul_one]at c;subst c;exact k p d e
def sub(s:J)(l h:Nat):J:=⟨if s.c=l then s.a else s.a.map (·.add (l *1)),h - l,s.c - l⟩
def we{P:aR}{t ty e:aF}{N:ab}{sz bytes:Nat}(d:gJ P t e N sz bytes){w:C}{s src:J}{xs news:List ab}(E:aG w e sz s xs)(hr:eY w src news)(x:news.length=src.n *sz)(h:∀j∈news,j.oneCell'=true)(B:(s.n+src.n) *bytes<=140737488355328):
  ∃c z,(bg #[t,t] ty #[s.v,src.v]).run P w=.ok c.v z/\aG z e sz c (xs++news)/\c.n=s.n+src.n/\Fr (λb=>b∈aO s) w z/\
   (∀b∈aO c,b∈aO s\/w.heap.size<=b)/\(c.a=none->s.a=none/\src.n=0):=by
 obtain⟨i,D,S,K,Y⟩:=info_parts d.hi;have W:s.n+src.n<=140737488355328:=by have:=Nat.le_mul_of_pos_right (s.n+src.n) d.hb;omega
 obtain⟨sa,y,L⟩:=src;cases sa with
 |none=>
  obtain⟨k,G⟩:=hr.1 rfl;simp only at k G;subst k G;have ac:news=[]:=List.eq_nil_of_length_eq_zero (by grind);subst ac;have:=run_append_owned_none (P:=P) (w:=w) 0 t ty e i sz d.ht D s.v s.n xs E;exact⟨s,w,this,by grind,by simp,Fr.refl _ _,λb B=>.inl B,λO=>⟨O,rfl⟩⟩
 |some F=>
  simp only at x B W;have H:∀u j,news[u]? =some j->w.cell? (F.add u)=some j:=λu j hj=>by
   obtain⟨p,hp,hc⟩:=hr.2 u j hj
   grind
  obtain⟨v',z,I,ak,ah,ac⟩:=run_append_own (P:=P) w 0 t ty e i N sz bytes d.ht D S K Y d.hz d.hs s.v s.n xs E F y L news x H h (by unfold maxLen;omega) B (fj _);have hv:∃c:J,v'=c.v/\c.n=s.n+y/\(c.a=none->v'=.slice none 0 0):=by
   rcases ak.2 with⟨h,h2⟩|⟨g,cap,cur,h,_⟩
   .grind
   .exact ⟨⟨_,_,_⟩,h,rfl,λO=>by cases O⟩
  obtain⟨c,rfl,ai,ar⟩:=hv;refine⟨c,z,I,?_,ai,?_,?_,?_⟩
  .unfold aG;grind
  .refine Fr.grown ah λg q=>?_;rw[JV]at q;cases ae:s.a with
   |none=>grind
   |some p=>simp[ae]at q;simp[aO,ae,q]
  .intro g q;rcases E.cases with⟨rfl,rfl⟩|⟨A,cur,aa,ag,aj,aq,Z,an⟩
   .obtain ⟨v2,w2,am,al,_,_⟩:=run_append_own (P:=P) w w.heap.size t ty e i N sz bytes d.ht D S K Y d.hz d.hs (.slice none 0 0) 0 [] (World.ownsRow_nil w _ e sz) F y L news x H h (by unfold maxLen;omega) (by omega) (b' _);have k:(Result.ok c.v z:Result ab)=.ok v2 w2:=I.symm.trans am;have G:=(Result.ok.inj k).1;subst G;rcases al.2 with⟨h,_⟩|⟨g2,ao,ap,h,h2,_⟩
    .have:c.a=none:=(Value.slice.inj h).1;simp[aO,this]at q
    .have:c.a=some ⟨g2,0,none⟩:=(Value.slice.inj h).1;simp[aO,this]at q;omega
   .obtain ⟨au,M,T⟩:=s;simp only at aa aj Z an B W;subst aa;by_cases ad:M+y<=T
    .subst K;have af:M *i.size+news.length<=cur.size:=by rw[x,Z,<-Nat.add_mul];exact s6 _ ad
     have Q:=run_append_room (P:=P) w t ty e i d.ht D A M T cur ag F y L news x H h ad af;have k:=I.symm.trans Q;have:c.a=some ⟨A,0,none⟩:=(Value.slice.inj (Result.ok.inj k).1).1;simp[aO,this]at q ⊢;omega
    .subst K;have holds:∀u j,xs[u]? =some j->w.cell? ((⟨A,0,none⟩:Addr).add u)=some j:=World.ownsRow.cells (g:=A) E rfl;have Q:=run_append_grow (P:=P) w t ty e i N d.ht D S ⟨A,0,none⟩ M T xs E.len holds F y L news x H (by omega) (by omega) (growslice_fits (by omega) (by grind));have k:=I.symm.trans Q;have:c.a=some ⟨w.heap.size,0,none⟩:=(Value.slice.inj (Result.ok.inj k).1).1;simp[aO,this]at q;omega
  grind
def aG.cap{w:C}{e:aF}{sz:Nat}{s:J}{xs:List ab}(h:aG w e sz s xs):s.n<=s.c:=by
 rcases h.cases with⟨rfl,_⟩|⟨g,cur,_,_,h,_⟩
 .grind
 omega
def Rd(w:C)(s:J)(vs:List ab):Prop:=s.n=vs.length/\s.n<=s.c/\eY w s vs
def Ow(w:C)(e:aF)(s:J)(vs:List ab):Prop:=s.n=vs.length/\aG w e 1 s vs
def Ow.rd{w:C}{e:aF}{s:J}{vs:List ab}(h:Ow w e s vs):Rd w s vs:=⟨h.1,h.2.cap,h.2.row.pC⟩
def Rd.fr{M:Nat->Prop}{w w':C}{s:J}{vs:List ab}(h:Rd w s vs)(c:Fr M w w')(d:∀b∈aO s,¬M b):Rd w' s vs:=⟨h.1,h.2.1,h.2.2.fr c d⟩
def Ow.fr{M:Nat->Prop}{w w':C}{e:aF}{s:J}{vs:List ab}(h:Ow w e s vs)(c:Fr M w w')(d:∀b∈aO s,¬M b):Ow w' e s vs:=⟨h.1,h.2.fr c d⟩
def Rd.ct{w w':C}{s:J}{vs:List ab}(h:Rd w s vs)(c:aj w w'):Rd w' s vs:=h.fr c λ_ _ h=>h
def Ow.ct{w w':C}{e:aF}{s:J}{vs:List ab}(h:Ow w e s vs)(c:aj w w'):Ow w' e s vs:=h.fr c λ_ _ h=>h
def Rd.nil(w:C):Rd w ⟨none,0,0⟩ []:=⟨rfl,b' _,eY.nil w⟩
def Ow.nil(w:C)(e:aF):Ow w e ⟨none,0,0⟩ []:=⟨rfl,aG.nil w _ _⟩
def Ow.lt{w:C}{e:aF}{s:J}{vs:List ab}(h:Ow w e s vs):∀b∈aO s,b<w.heap.size:=h.2.lt
def Ow.made(w:C)(e:aF)(cs:List ab)(n:Nat)(c:n=cs.length)(d:n<=1000000):Ow (w.alloc (.cells cs.toArray e)) e ⟨some ⟨w.heap.size,0,none⟩,n,n⟩ cs:=
 ⟨c,aG.made w e 1 n cs (by omega) (by unfold maxLen;omega)⟩
def Rd.get{w:C}{s:J}{vs:List ab}(h:Rd w s vs){i j:Nat}{v:ab}(hi:vs[i]? =some v)(c:j=i *1){K:Addr->Prop}(d:∀p,s.a=some p->w.cell? (p.add j)=some v->K p):W.cd s.a K:=h.2.2.get hi c d
def NK{t ty e:aF}{G:ab}{bytes:Nat}{P:aR}(u:gJ P t e G 1 bytes){w:C}{s src:J}{xs j:List ab}(k:Ow w e s xs)(d:Rd w src j)(D:∀F∈j,F.oneCell'=true)(E:(xs.length+j.length) *bytes<=140737488355328):
  ∃c h,(bg #[t,t] ty #[s.v,src.v]).run P w=.ok c.v h/\Ow h e c (xs++j)/\Fr (λb=>b∈aO s) w h/\(∀b∈aO c,b∈aO s\/w.heap.size<=b)/\(c.a=none->s.a=none/\j=[]):=by
 obtain⟨c,h,x,y,z,A,B,n⟩:=we (ty:=ty) u k.2 d.2.2 (by rw[d.1];omega) D (by rw[k.1,d.1];exact E);refine⟨c,h,x,⟨?_,y⟩,A,B,λq=>⟨(n q).1,?_⟩⟩
 .rw [z,k.1,d.1];simp
 .have:=(n q).2;rw[d.1]at this
  grind
def Bh{α:Type}(f:α->List ab)(sz:Nat)(d:∀a,(f a).length=sz):∀(cs:List α) (i j:Nat) (a:α),cs[i]? =some a->j<sz->(cs.flatMap f)[i *sz+j]? =(f a)[j]?
 |[],i,j,a,c,_=>by grind
 |h::cs,0,j,a,c,e=>by grind
 |h::cs,i+1,j,a,c,e=>by rw[dT,List.getElem?_append_right (by grind),d,show(i+1) *sz+j - sz=i *sz+j by grind];exact Bh f sz d cs i j a (by grind) e
def nc{α:Type}(f:α->List ab)(sz:Nat)(d:∀a,(f a).length=sz)(cs:List α):(cs.flatMap f).length=cs.length *sz:=by
 induction cs with
 |nil=>simp
 |cons c cs e=>grind
def eY.elem{α:Type}{f:α->List ab}{sz:Nat}(e:∀a,(f a).length=sz)(u:0<sz){w:C}{s:J}{cs:List α}(h:eY w s (cs.flatMap f)){i:Nat}{a:α}(hi:cs[i]? =some a){K:Addr->Prop}(q:∀p,s.a=some p->(∀c v,(f a)[c]? =some v->w.cell? ((p.add (i *sz)).add c)=some v)->K p):W.cd s.a K:=by
 obtain⟨y,z⟩:∃v,(f a)[0]? =some v:=⟨_,a9 (by grind)⟩;obtain⟨p,d,_⟩:=h.2 (i *sz+0) y (by rw[Bh f sz e cs i 0 a hi u];omega);rw[d];refine q p d λc v x=>?_;have n:c<sz:=by grind
 obtain⟨A,j,k⟩:=h.2 (i *sz+c) v (by rw[Bh f sz e cs i c a hi n];exact x);rw[d]at j;cases j;rw[add_add];exact k
def yK{w:C}{b:Nat}{cs:Array ab}{T:aF}(h:w.heap[b]? =some (.cells cs T (0,0)))(i:Nat)(hi:i<cs.size)(v:ab):
  (w.cell? ((ag b).add i)).isSome=true/\w.frozen? ((ag b).add i)=false/\(w.setCell ((ag b).add i) v).heap[b]? =some (.cells (cs.setIfInBounds i v) T (0,0))/\Fr (·=b) w (w.setCell ((ag b).add i) v):=by
 refine⟨?_,frozenAt (p:=ag b) h,?_,Fr.set _ _ _ (iM _ _)⟩
 .rw [cellAt (p:=ag b) (v:=cs[i]) h rfl (by grind)];rfl
 .have:=setAt (p:=ag b) (i:=i) (v:=v) h rfl
  grind
def Fr.put(w:C)(l:Nat)(o:Obj):Fr (·=l) w (w.putObj l o):=⟨rfl,rfl,rfl,by simp[World.putObj],λe _ d=>by have:l≠e:=λc=>d c.symm;simp[World.putObj,Array.getElem?_setIfInBounds_ne this]⟩
def TD{w:C}{l:Nat}{x:Obj}(h:w.heap[l]? =some x)(o:Obj):(w.putObj l o).heap[l]? =some o:=by have:=lt_of_heap h;simp[World.putObj,this]
def FI(x y:Nat)(d:x<18446744073709551616)(e:y<18446744073709551616):wi .u64 (x:Int) (y:Int)=((x^^^y:Nat):Int):=by
 unfold wi;have c:(mL (IntKind.bits .u64) (x:Int)^^^mL (IntKind.bits .u64) (y:Int)).toNat=x^^^y:=by
  show(mL 64 (x:Int)^^^mL 64 (y:Int)).toNat=_
  grind
 rw[c];have:x^^^y<2^64:=Nat.xor_lt_two_pow d e;exact IntWalk.u64_in _ (by omega)
def VT(x:Nat)(e:x<18446744073709551616):x^^^18446744073709551615=18446744073709551615 - x:=by
 have c:=BitVec.toNat_not (x:=BitVec.ofNat 64 x);have d:(~~~ (BitVec.ofNat 64 x))=BitVec.ofNat 64 x^^^BitVec.allOnes 64:=(BitVec.xor_allOnes).symm
 grind
def NR(n:Nat)(h:n<256):tu .u8 (n:Int) 128=((n%128+128:Nat):Int):=by
 have d:∀c:Fin 256,tu .u8 (c.val:Int) 128=((c.val%128+128:Nat):Int):=by decide+kernel
 exact d ⟨n,h⟩
def MD(n:Nat):ad .u8 (n:Int)=((n%256:Nat):Int):=by rw[IntKind.wrap_u8];omega
def EO(n:Nat)(h:n<18446744073709551616):ad .u64 (n:Int)=(n:Int):=IntWalk.u64_in _ (by omega)
def wR(n m:Nat)(h:0<m):Int.fdiv (n:Int) (m:Int)=((n / m:Nat):Int):=by grind
def bA(i:Nat)(h:i<9223372036854775807):ad .i64 ((i:Int)+1)=((i+1:Nat):Int):=by rw[IntWalk.i64_in _ (by omega)];omega
structure En where
 fp:List Nat
 P:C->Prop
 st:∀w w',(∀b∈fp,b<w.heap.size->w'.heap[b]? =w.heap[b]?)->P w->P w'
 lt:∀w,P w->∀b∈fp,b<w.heap.size
 nd:fp.Nodup
def En.ob(b:Nat)(o:Obj):En:=⟨[b],λd=>d.heap[b]? =some o,λd j e c=>(e b (by simp) (lt_of_heap c)).trans c,λd c k h=>by grind,by simp⟩
abbrev En.c(b:Nat)(vs:List ab)(T:aF):En:=.ob b (.cells vs.toArray T (0,0))
def En.row(e:aF)(sz:Nat)(s:J)(vs:List ab):En:=⟨aO s,λh=>aG h e sz s vs,λ_ _ d c=>c.cA d,λ_ c=>c.lt,by unfold aO;grind⟩
def En.rd(s:J)(vs:List ab):En:=⟨if vs=[]then[]else aO s,λk=>Rd k s vs,λk x n c=>by
  refine⟨c.1,c.2.1,c.2.2.1,λi v u=>?_⟩;obtain⟨p,e,d⟩:=c.2.2.2 i v u;have j:vs≠[]:=λw=>by grind
  rw[aq j]at n;have:=n p.block (by simp[aO,e]) (by have:=m3 d;rwa[iM]at this);refine⟨p,e,?_⟩;unfold World.cell? at d ⊢;rw[iM]at d ⊢
  grind,λk c b h=>by
  split at h
  .cases h
  .rename_i j;have q:0<vs.length:=List.length_pos_iff.2 j;obtain⟨p,e,d⟩:=c.2.2.2 0 vs[0] (a9 q);simp[aO,e]at h;subst h;have:=m3 d
   rwa[iM]at this,by split<;>(try simp);unfold aO;grind⟩
structure Z(M:Nat->Prop)(w0 w:C)(L D:List En):Prop where
 fr:Fr M w0 w
 own:∀e∈L,e.P w
 rd:∀e∈D,e.P w
 new:∀e∈L,∀b∈e.fp,w0.heap.size<=b\/M b
 nd:(L.flatMap (·.fp)).Nodup
 dj:∀e∈D,∀b∈e.fp,∀e'∈L,b∉e'.fp
def Z.start{M:Nat->Prop}{w:C}(D:List En)(h:∀c∈D,c.P w):Z M w w [] D:=⟨Fr.refl _ _,by simp,h,by simp,by simp,by simp⟩
def Z.sK{M:Nat->Prop}{w:C}(L D:List En)(e:∀c∈L,c.P w/\∀b∈c.fp,M b)(n:(L.flatMap (·.fp)).Nodup)(h:∀c∈D,c.P w/\∀b∈c.fp,∀j∈L,b∉j.fp):Z M w w L D:=
 ⟨Fr.refl _ _,λc d=>(e c d).1,λc d=>(h c d).1,λc d b k=>.inr ((e c d).2 b k),n,λc d=>(h c d).2⟩
def Z.ct{M:Nat->Prop}{w0 w w':C}{L D:List En}(H:Z M w0 w L D)(f:aj w w'):Z M w0 w' L D:=
 ⟨H.fr.ew f,λc d=>c.st w w' (λb _ e=>f.cA b e id) (H.own c d),λc d=>c.st w w' (λb _ e=>f.cA b e id) (H.rd c d),H.new,H.nd,H.dj⟩
def Z.drew{M:Nat->Prop}{w0 w:C}{L D:List En}(H:Z M w0 w L D):Z M w0 w.drew L D:=H.ct (Fr.drew _ _)
def Dr{α:Type}{f:α->List Nat}:∀{L:List α} {i:Nat} {e c:α},L[i]? =some e->(L.flatMap f).Nodup->(f c).Nodup->(∀h∈f c,h∈f e\/h∉L.flatMap f)->((L.set i c).flatMap f).Nodup
 |[],i,e,c,d,_,_,_=>by grind
 |a::L,0,e,c,d,j,k,n=>by grind
 |a::L,i+1,e,c,d,j,k,n=>by
  simp only[List.getElem?_cons_succ]at d;simp only[List.set_cons_succ,dT,gT]at j ⊢;refine⟨j.1,Dr d j.2.1 k (λh q=>(n h q).imp id λd u=>d (by grind)),λh q x w=>?_⟩
  grind
def Z.DH{M:Nat->Prop}{w0 w:C}{L D:List En}(H:Z M w0 w L D):∀b∈L.flatMap (·.fp),b<w.heap.size:=λb c=>by obtain⟨d,e,c⟩:=cj.1 c;exact d.lt w (H.own d e) b c
def m8{L:List En}(c:(L.flatMap (·.fp)).Nodup):∀{i:Nat} {e:En},L[i]? =some e->∀{j:Nat} {g:En},L[j]? =some g->i≠j->∀b∈e.fp,b∉g.fp:=by
 induction L with
 |nil=>grind
 |cons a L d=>
  simp only[dT,gT]at c
  grind
def Z.g'{M:Nat->Prop}{w0 w w':C}{L D:List En}(H:Z M w0 w L D){e:En}(i:Nat)(j:En)(hi:L[i]? =some e)(f:Fr (·∈e.fp) w w')(K:j.P w')(x:∀b∈j.fp,b∈e.fp\/w.heap.size<=b):Z M w0 w' (L.set i j) D:=by
 have n:=aE hi;have F:Fr M w0 w':=H.fr.trans f λq B G=>(H.new e n q G).resolve_left (by omega);refine⟨F,λg c=>?_,λg c=>?_,λg c b d=>?_,Dr hi H.nd j.nd λq B=>?_,λg c b d E y A=>?_⟩
 .obtain ⟨N,k⟩:=g5.1 c;rw[List.getElem?_set]at k;split at k
  .grind
  .rename_i I;refine g.st w w' (λb d z=>f.cA b z λu=>m8 H.nd hi k I b u d) (H.own g (aE k))
 .exact g.st w w' (λb d z=>f.cA b z λu=>H.dj g c b d e n u) (H.rd g c)
 .rcases List.mem_or_eq_of_mem_set c with c|rfl
  .exact H.new g c b d
  .rcases x b d with h|h
   .exact H.new e n b h
   .exact .inl (bB H.fr.size h)
 .rcases x q B with h|h
  .grind
  .exact .inr λJ=>by have:=H.DH q J;omega
 .rcases List.mem_or_eq_of_mem_set y with y|rfl
  .exact H.dj g c b d E y A
  .rcases x b A with h|h
   .exact H.dj g c b d e n h
   .have:=g.lt w (H.rd g c) b d;omega
def Z.push{M:Nat->Prop}{w0 w w':C}{L D:List En}(H:Z M w0 w L D)(e:En)(f:aj w w')(z:e.P w')(u:∀b∈e.fp,w.heap.size<=b):Z M w0 w' (L++[e]) D:=by
 have j:=H.ct f;refine⟨j.fr,λg c=>?_,j.rd,λg c b h=>?_,?_,λg c b h k d q=>?_⟩
 .rcases a6.1 c with c|c
  .exact j.own g c
  grind
 .rcases a6.1 c with c|c
  .exact H.new g c b h
  .simp at c;subst c;exact .inl (bB H.fr.size (u b h))
 .rw [List.flatMap_append,gT];refine⟨H.nd,by simpa using e.nd,λy x B A=>?_⟩;rintro rfl;have n:=H.DH y x
  grind
 .rcases a6.1 d with d|d
  .exact H.dj g c b h k d q
  .simp at d;subst d;have n:=g.lt w (H.rd g c) b h
   grind
def Z.alloc{M:Nat->Prop}{w0 w:C}{L D:List En}(H:Z M w0 w L D)(o:Obj):Z M w0 (w.alloc o) (L++[.ob w.heap.size o]) D:=
 H.push _ (Fr.alloc _ _ _) (kM w o) (λb c=>by simp[En.ob]at c;omega)
def Z.gv{M:Nat->Prop}{w0 w w':C}{L D:List En}(H:Z M w0 w L D)(e:En)(f:aj w w')(E:e.P w')(x:∀b∈e.fp,w.heap.size<=b\/(b<w0.heap.size/\¬M b)\/∃g∈D,b∈g.fp):Z M w0 w' L (D++[e]):=by
 have d:=H.ct f;refine⟨d.fr,d.own,λg c=>?_,d.new,d.nd,λg c b n h k j=>?_⟩
 .rcases a6.1 c with c|c
  .exact d.rd g c
  grind
 .rcases a6.1 c with c|c
  .exact H.dj g c b n h k j
  .simp at c;subst c;rcases x b n with q|⟨q,y⟩|⟨A,z,u⟩
   .have:=h.lt w (H.own h k) b j;omega
   .exact (H.new h k b j).elim (λB=>by omega) y
   .exact H.dj A z b u h k j
def Z.forget{M:Nat->Prop}{w0 w:C}{L D:List En}(H:Z M w0 w L D)(e:List En)(h:∀c∈e,c∈D):Z M w0 w L e:=⟨H.fr,H.own,λc d=>H.rd c (h c d),H.new,H.nd,λc d=>H.dj c (h c d)⟩
def ux{α:Type}{a:α}:∀{l:List α} {i:Nat},a∈l.eraseIdx i->a∈l
 |[],_,c=>by grind
 |b::l,0,c=>by grind
 |b::l,i+1,c=>by
  simp at c;rcases c with c|c
  .simp [c]
  .exact List.mem_cons_of_mem _ (ux c)
def JD{α:Type}{f:α->List Nat}:∀{L:List α} {i:Nat},(L.flatMap f).Nodup->((L.eraseIdx i).flatMap f).Nodup
 |[],i,c=>by simp
 |a::L,0,c=>by grind
 |a::L,i+1,c=>by simp only[List.eraseIdx_cons_succ,dT,gT]at c ⊢;refine⟨c.1,JD c.2.1,λk e n j=>c.2.2 k e n ?_⟩;obtain⟨g,d,h⟩:=cj.1 j;exact cj.2 ⟨g,ux d,h⟩
def HM{α:Type}{f:α->List Nat}:∀{L:List α} {i:Nat} {e:α},L[i]? =some e->(L.flatMap f).Nodup->∀b∈f e,∀g∈L.eraseIdx i,b∉f g
 |[],i,e,c,_=>by grind
 |a::L,0,e,c,h=>by grind
 |a::L,i+1,e,c,h=>by
  simp only[dT,gT]at h;intro b j g d k;simp only[List.getElem?_cons_succ]at c;simp only[List.eraseIdx_cons_succ,ay]at d;rcases d with rfl|d
  .grind
  .exact HM c h.2.1 b j g d k
def Z.freeze{M:Nat->Prop}{w0 w:C}{L D:List En}(H:Z M w0 w L D){e:En}(i:Nat)(d:En)(hi:L[i]? =some e)(q:d.P w)(n:∀b∈d.fp,b∈e.fp):Z M w0 w (L.eraseIdx i) (D++[d]):=by
 refine⟨H.fr,λg c=>H.own g (ux c),λg c=>?_,λg c=>H.new g (ux c),JD H.nd,λg c b j h k=>?_⟩
 .rcases a6.1 c with c|c
  .exact H.rd g c
  grind
 .rcases a6.1 c with c|c
  .exact H.dj g c b j h (ux k)
  .simp at c;subst c;exact HM hi H.nd b (n b j) h k
def Z.get{M:Nat->Prop}{w0 w:C}{L D:List En}(H:Z M w0 w L D)(i:Nat){e:En}(hi:L[i]? =some e:=by rfl):e.P w:=H.own e (aE hi)
def Z.getD{M:Nat->Prop}{w0 w:C}{L D:List En}(H:Z M w0 w L D)(i:Nat){e:En}(hi:D[i]? =some e:=by rfl):e.P w:=H.rd e (aE hi)
section
variable {M:Nat->Prop} {w0 w:C} {L D:List En}
def Z.ob(H:Z M w0 w L D)(i:Nat){b:Nat}{o:Obj}(hi:L[i]? =some (.ob b o):=by rfl):w.heap[b]? =some o:=H.own _ (aE hi)
def Z.ld(H:Z M w0 w L D)(i j:Nat){b:Nat}{vs:List ab}{T:aF}{v:ab}(hi:L[i]? =some (.c b vs T):=by rfl)(d:vs[j]? =some v:=by rfl):w.cell? ((ag b).add j)=some v:=
 cellAt (p:=ag b) (H.ob i hi) rfl (by grind)
def Z.jO(H:Z M w0 w L D)(i:Nat){b:Nat}{vs:List ab}{T:aF}{v:ab}(hi:L[i]? =some (.c b vs T):=by rfl)(d:vs[0]? =some v:=by rfl):w.cell? (ag b)=some v:=by
 have:=H.ld i 0 hi d
 rwa[kD]at this
def Z.set(H:Z M w0 w L D)(i j:Nat){b:Nat}{vs:List ab}{T:aF}{v:ab}(hi:L[i]? =some (.c b vs T))(q:j<vs.length):
  (w.cell? ((ag b).add j)).isSome=true/\w.frozen? ((ag b).add j)=false/\Z M w0 (w.setCell ((ag b).add j) v) (L.set i (.c b (vs.set j v) T)) D:=by obtain⟨h,k,x,n⟩:=yK (H.ob i hi) j (by omega) v;exact⟨h,k,H.g' i (.c b (vs.set j v) T) hi (n.mono λu _ d=>by simp[En.ob,d]) (by show _=_;grind) (λb e=>.inl e)⟩
def Z.st(H:Z M w0 w L D)(i j:Nat){b:Nat}{vs:List ab}{T:aF}{v:ab}{K:C->Prop}(hi:L[i]? =some (.c b vs T))(h:∀d,Z M w0 d (L.set i (.c b (vs.set j v) T)) D->K d)(e:j<vs.length:=by simp):ao w ((ag b).add j) v K:=by
 obtain⟨k,n,q⟩:=H.set (v:=v) i j hi e
 grind
def Z.jr(H:Z M w0 w L D)(i:Nat){b:Nat}{vs:List ab}{T:aF}{v:ab}{K:C->Prop}(hi:L[i]? =some (.c b vs T))(e:∀d,Z M w0 d (L.set i (.c b (vs.set 0 v) T)) D->K d)(h:0<vs.length:=by simp):ao w (ag b) v K:=by
 have:=H.st (v:=v) (K:=K) i 0 hi e h
 rwa[kD]at this
def Z.Er(H:Z M w0 w L D)(i:Nat){b:Nat}{A j e:ab}{T:aF}{d h k:ab}{K:C->Prop}(hi:L[i]? =some (.c b [A,j,e] T))(B:∀n,Z M w0 n (L.set i (.c b [d,h,k] T)) D->K n):ao w (ag b) d λq=>ao q ((ag b).add 1) h λu=>ao u ((ag b).add 2) k K:=by have F:=(dh.1 hi).1;exact H.jr i hi (λq x=>x.st (vs:=[d,j,e]) (T:=T) i 1 (by grind) (λu y=>y.st (vs:=[d,h,e]) (T:=T) i 2 (by grind) (λE z=>B E (by simpa using z))))
def Z.jt(H:Z M w0 w L D)(i:Nat){b:Nat}{G n j e:ab}{T:aF}{d h k q:ab}{K:C->Prop}(hi:L[i]? =some (.c b [G,n,j,e] T))(I:∀u,Z M w0 u (L.set i (.c b [d,h,k,q] T)) D->K u):ao w (ag b) d λx=>ao x ((ag b).add 1) h λy=>ao y ((ag b).add 2) k λz=>ao z ((ag b).add 3) q K:=by have N:=(dh.1 hi).1;exact H.jr i hi (λx A=>A.st (vs:=[d,n,j,e]) (T:=T) i 1 (by grind) (λy B=>B.st (vs:=[d,h,j,e]) (T:=T) i 2 (by grind) (λz E=>E.st (vs:=[d,h,k,e]) (T:=T) i 3 (by grind) (λJ F=>I J (by simpa using F)))))
def Z.LF(H:Z M w0 w L D)(i:Nat){b:Nat}{O u n j e:ab}{T:aF}{d h k q x:ab}{K:C->Prop}(hi:L[i]? =some (.c b [O,u,n,j,e] T))(P:∀y,Z M w0 y (L.set i (.c b [d,h,k,q,x] T)) D->K y):ao w (ag b) d λz=>ao z ((ag b).add 1) h λA=>ao A ((ag b).add 2) k λB=>ao B ((ag b).add 3) q λE=>ao E ((ag b).add 4) x K:=by have S:=(dh.1 hi).1;exact H.jr i hi (λz F=>F.st (vs:=[d,u,n,j,e]) (T:=T) i 1 (by grind) (λA G=>G.st (vs:=[d,h,n,j,e]) (T:=T) i 2 (by grind) (λB I=>I.st (vs:=[d,h,k,j,e]) (T:=T) i 3 (by grind) (λE J=>J.st (vs:=[d,h,k,q,e]) (T:=T) i 4 (by grind) (λQ N=>P Q (by simpa using N))))))
def Z.UI(H:Z M w0 w L D)(i:Nat){b:Nat}{a0 A y u n j e:ab}{T:aF}{d h k q x z B:ab}{K:C->Prop}(hi:L[i]? =some (.c b [a0,A,y,u,n,j,e] T))(hK:∀E,Z M w0 E (L.set i (.c b [d,h,k,q,x,z,B] T)) D->K E):ao w (ag b) d λF=>ao F ((ag b).add 1) h λG=>ao G ((ag b).add 2) k λI=>ao I ((ag b).add 3) q λJ=>ao J ((ag b).add 4) x λN=>ao N ((ag b).add 5) z λO=>ao O ((ag b).add 6) B K:=by have hl:=(dh.1 hi).1;exact H.jr i hi (λF P=>P.st (vs:=[d,A,y,u,n,j,e]) (T:=T) i 1 (by grind) (λG Q=>Q.st (vs:=[d,h,y,u,n,j,e]) (T:=T) i 2 (by grind) (λI S=>S.st (vs:=[d,h,k,u,n,j,e]) (T:=T) i 3 (by grind) (λJ W=>W.st (vs:=[d,h,k,q,n,j,e]) (T:=T) i 4 (by grind) (λN Y=>Y.st (vs:=[d,h,k,q,x,j,e]) (T:=T) i 5 (by grind) (λO H6=>H6.st (vs:=[d,h,k,q,x,z,e]) (T:=T) i 6 (by grind) (λw7 H7=>hK w7 (by simpa using H7))))))))
def Z.nw(H:Z M w0 w L D){cs:Array ab}{T:aF}{K:C->Prop}(e:∀d,d.heap.size=w.heap.size+1->Z M w0 d (L++[.c w.heap.size cs.toList T]) D->K d):aK w (.cells cs T) K:=e _ (size_alloc _ _) (H.alloc _)
def Z.ny(H:Z M w0 w L D){o:Obj}{K:C->Prop}(d:∀c,c.heap.size=w.heap.size+1->Z M w0 c L D->c.heap[w.heap.size]? =some o->K c):aK w o K:=d _ (size_alloc _ _) (H.ct (Fr.alloc _ _ _)) (kM w o)
def Z.dr(H:Z M w0 w L D){K:C->Prop}(d:∀c,Z M w0 c L D->K c):dM w K:=d _ H.drew
def Z.pu(H:Z M w0 w L D)(i:Nat){b:Nat}{o c:Obj}{K:C->Prop}(hi:L[i]? =some (.ob b o))(h:∀d,Z M w0 d (L.set i (.ob b c)) D->K d):kU w b o c K:=
 ⟨H.ob i hi,h _ (H.g' i (.ob b c) hi ((Fr.put w b c).mono λk _ e=>by simp[En.ob,e]) (TD (H.ob i hi) c) (λb j=>.inl j))⟩
def Z.ap(H:Z M w0 w L D)(i:Nat){P:aR}{t ty e:aF}{I:ab}{sz bytes:Nat}(h:gJ P t e I sz bytes){s src:J}{xs news:List ab}{K:J->C->Prop}(hi:L[i]? =some (.row e sz s xs))(F:eY w src news)(E:news.length=src.n *sz)(z:∀G∈news,G.oneCell'=true)(B:(s.n+src.n) *bytes<=140737488355328)(A:∀c d,Z M w0 d (L.set i (.row e sz c (xs++news))) D->c.n=s.n+src.n->(c.a=none->s.a=none/\src.n=0)->K c d):
  ∃c d,(bg #[t,t] ty #[s.v,src.v]).run P w=.ok c.v d/\K c d:=by obtain⟨c,d,j,k,q,u,x,y⟩:=we (ty:=ty) h (H.get i hi) F E z B;exact⟨c,d,j,A c d (H.g' i (.row e sz c (xs++news)) hi u k x) q y⟩
def Z.tm(H:Z M w0 w L D)(i:Nat){P:aR}{t ty e:aF}{B:ab}{sz bytes:Nat}(j:gJ P t e B sz bytes){T:aF}{s:J}{xs:List ab}{news:Array ab}{K:J->C->Prop}(hi:L[i]? =some (.row e sz s xs))(u:∀c d,Z M w0 d (L.set i (.row e sz c (xs++news.toList))) D->c.n=s.n+1->c.a≠none->K c d)(x:(s.n+1) *bytes<=140737488355328)(F:news.size=sz:=by rfl)(q:∀z∈news.toList,z.oneCell'=true:=by simp[Value.oneCell']):
  aK w (.cells news T) λA=>∃c d,(bg #[t,t] ty #[s.v,.slice (some (Addr.mk w.heap.size 0 none)) 1 1]).run P A=.ok c.v d/\K c d:=by have h:Z M w0 (w.alloc (.cells news T)) L D:=H.ct (Fr.alloc _ _ _);refine h.ap i j (src:=⟨some (ag w.heap.size),1,1⟩) (ty:=ty) (K:=K) (news:=news.toList) hi ((Row.made w T 1 1 news.toList).pC) (by grind) q x (λc d k y G=>u c d k y λE=>by grind)
def Z.gP(H:Z M w0 w L D)(e:aF)(sz:Nat):Z M w0 w (L++[.row e sz ⟨none,0,0⟩ []]) D:=H.push _ (Fr.refl _ _) (aG.nil w e sz) (λb c=>by simp[En.row,aO]at c)
end
def aG.JS{w:C}{e:aF}{s:J}{vs:List ab}(h:aG w e 1 s vs):Ow w e s vs:=⟨by have:=h.len;omega,h⟩
def aG.fR{w:C}{e:aF}{s:J}{vs:List ab}(h:aG w e 1 s vs):Rd w s vs:=h.JS.rd
abbrev F0:Nat->Prop:=λ_=>False
def Z.take{M:Nat->Prop}{w0 w:C}{L D:List En}(H:Z M w0 w L D)(n:Nat):Z M w0 w (L.take n) D:=
 ⟨H.fr,λc d=>H.own c (kW d),H.rd,λc d=>H.new c (kW d),by
  have:=H.nd
  grind,λc d b h e j=>H.dj c d b h e (kW j)⟩
def aJ{a b:Int}{A c:Prop}(e:a=b->A)(h:a≠b->c):Y (a==b) A c:=cK (λd=>e (by grind)) (λd=>h (by grind))
def cD{a b:Int}{A c:Prop}(e:a≠b->A)(h:a=b->c):Y (a !=b) A c:=cK (λd=>e (by grind)) (λd=>h (by grind))
def aQ{p:Prop}[Decidable p]{A d:Prop}(e:p->A)(h:¬p->d):Y (decide p) A d:=cK (λc=>e (hC c)) (λc=>h (qP c))
def eJ{b:Bool}{A c:Prop}(e:b=false->A)(h:b=true->c):Y (!b) A c:=cK (λd=>e (by grind)) (λd=>h (by grind))
def Z.fh{M:Nat->Prop}{w0 w:C}{L D:List En}(H:Z M w0 w L D)(i j:Nat){b:Nat}{vs:List ab}{T:aF}{v:ab}(hi:D[i]? =some (.c b vs T):=by rfl)(d:vs[j]? =some v:=by rfl):w.cell? ((ag b).add j)=some v:=
 cellAt (p:=ag b) (show w.heap[b]? =_ from H.rd _ (aE hi)) rfl (by grind)
def Z.Pj{M:Nat->Prop}{w0 w w':C}{L D:List En}(H:Z M w0 w L D)(i:Nat){b:Nat}{vs d:List ab}{T:aF}(f:Fr (·=b) w w')(h:w'.heap[b]? =some (.cells d.toArray T (0,0)))(hi:L[i]? =some (.c b vs T):=by rfl):Z M w0 w' (L.set i (.c b d T)) D:=
 H.g' i (.c b d T) hi (f.mono λk _ e=>by simp[En.ob,e]) h (λb j=>.inl j)
def Z.cB{M:Nat->Prop}{w0 w:C}{L D:List En}(H:Z M w0 w L D){e:aF}{sz n:Nat}{cs:List ab}(j:cs.length=n *sz)(k:n<=maxLen){K:C->Prop}(d:∀c,Z M w0 c (L++[.row e sz ⟨some (ag w.heap.size),n,n⟩ cs]) D->K c):aK w (.cells cs.toArray e) K:=
 d _ (H.push _ (Fr.alloc _ _ _) (aG.made w e sz n cs j k) (λb h=>by simp[En.row,aO]at h;omega))
def Z.NJ{M:Nat->Prop}{w0 w:C}{L D:List En}(H:Z M w0 w L D)(i:Nat){P:aR}{t ty e:aF}{A:ab}{bytes:Nat}(j:gJ P t e A 1 bytes){T:aF}{s:J}{xs:List ab}{m:Nat}{news:List ab}{K:J->C->Prop}(hi:L[i]? =some (.row e 1 s xs))(E:news.length=m)(q:∀y∈news,y.oneCell'=true)(x:(s.n+m) *bytes<=140737488355328)(B:1<=m)(u:∀c d,Z M w0 d (L.set i (.row e 1 c (xs++news))) D->K c d):
  aK w (.cells news.toArray T) λz=>∃c d,(bg #[t,t] ty #[s.v,.slice (some (Addr.mk w.heap.size 0 none)) m m]).run P z=.ok c.v d/\K c d:=by have h:Z M w0 (w.alloc (.cells news.toArray T)) L D:=H.ct (Fr.alloc _ _ _);exact h.ap i j (src:=⟨some (ag w.heap.size),m,m⟩) (ty:=ty) (K:=K) (news:=news) hi ((Row.made w T m m news).pC) (by grind) q x (λc d k _ _=>u c d k)
def gq(P:aR)(o:Oper)(E:Env)(w:C)(K:Env->C->Prop):Prop:=
 bif calm P o then me P o E w λv _=>K (E.put o.dst v) w else gZ P o E w λv c=>K (E.put o.dst v) c
def tv(ops:Array Oper):Bool:=(List.range ops.size).all λi=>match ops[i]? with
 |some o=>o.guard.isNone&&o.after.toList.all λc=>!(Region.binds .any c)||Nat.blt c.on i
 |none=>true
abbrev dn(L:Nat->Bool)(i:Nat):Nat->Bool:=λc=>cv c i||L c
section
variable {P:aR} {ops:Array Oper} {n:Cx} {K:Env->C->Prop}
def z9(h:tv ops=true){i:Nat}{o:Oper}(d:ops[i]? =some o):o.guard=none/\∀c∈o.after,Region.binds .any c=true->c.on<i:=by unfold tv at h;have j:i<ops.size:=(Array.getElem?_eq_some_iff.1 d).1;have:=fF.1 h i (List.mem_range.2 j);rw[d]at this;simp only[bC]at this;refine⟨by simpa using this.1,λc k e=>?_⟩;have:=fF.1 this.2 c (by grind);rw[e]at this;simpa using this
def UY{i:Nat}{o:Oper}{a:Act}{E:Env}{w:C}{Kh:Env->C->Prop}{K':Act->C->Prop}{Q:Exit->Act->C->Prop}(j:dS n ops=true)(c:ops[i]? =some o)(A:o.guard=none)(d:Ag n a E)(h:gq P o E w Kh)(next:∀u q k,Ag n u q->Kh q k->K' u k):wpOp P ops Q i K' a w:=by
 have y:=Region.noSelect_spec (ops:=ops) (by unfold dS at j;grind);have z:cU o (yielded ops a.tmps)=true:=by simp[cU,A]
 unfold gq at h;cases x:calm P o with
 |true=>
  rw[x]at h;simp only[cond_true]at h;obtain⟨v,H,B,D,F⟩:=wA (λe b=>y i o e b c) d h;unfold wpOp;simp only[c,z,if_true];refine .inl ?_;unfold Oper.wp;rw[F w D];exact next _ _ _ (d.put v (gF j c)) B
 |false=>
  rw[x]at h;simp only[cond_false]at h;exact vP c z (mf (λe b=>y i o e b c) d h) λv k G=>next _ _ _ (d.put v (gF j c)) G
def VM(Z:dS n ops=true)(B:tv ops=true)(x:(Nat->Bool)->Env->C->Prop)(step:∀h E w i o,ops[i]? =some o->h i=false->(∀j∈o.after,Region.binds .any j=true->h j.on=true)->x h E w->gq P o E w λz G=>x (dn h i) z G)(fin:∀h E w,(∀i,i<ops.size->h i=true)->x h E w->K E w):
  ∀(fuel:Nat) (d:Array Bool) (a:Act) (E:Env) (w:C),d.size=ops.size->Ag n a E->x (λc=>d.getD c false) E w->((List.range ops.size).filter λc=>!d.getD c false).length<=fuel->
   wpAny P .any ops (hd n K) fuel d a w:=by
 have done:∀(d:Array Bool) (a:Act) (E:Env) (w:C),d.size=ops.size->Ag n a E->x (λc=>d.getD c false) E w->eA .any ops d=[]->hd n K .normal a w:=by
  intro d a E w D q k hr;refine⟨E,q,fin _ E w (λi=>?_) k⟩;induction i using Nat.strongRecOn with
  |_ i F=>
   intro u;cases T:d.getD i false with
   |true=>rfl
   |false=>
    exfalso;have e:ops[i]? =some ops[i]:=Array.getElem?_eq_getElem u;have L:i∈eA .any ops d:=mem_ready.2 ⟨by
     grind,_,e,λj y I=>F j.on ((z9 B e).2 j y I) (Nat.lt_trans ((z9 B e).2 j y I) u)⟩
    grind
 intro fuel;induction fuel with
 |zero=>
  intro d a E w D q k S;have A:∀i,i<ops.size->d.getD i false=true:=λi u=>by
   cases T:d.getD i false with
   |true=>rfl
   |false=>
    have:i∈(List.range ops.size).filter λc=>!d.getD c false:=List.mem_filter.2 ⟨List.mem_range.2 u,by grind⟩
    grind
  refine⟨?_,E,q,fin _ E w A k⟩;cases hr:eA .any ops d with
  |nil=>rfl
  |cons i l=>
   have L:i∈eA .any ops d:=by grind
   obtain⟨N,o,e,_⟩:=mem_ready.1 L
   grind
 |succ fuel F=>
  intro d a E w D q k S;refine⟨done d a E w D q k,λi u=>?_⟩;obtain⟨N,o,e,A⟩:=mem_ready.1 u;have Y:i<ops.size:=(Array.getElem?_eq_some_iff.1 e).1;have W:i<d.size:=by omega
  have O:d.getD i false=false:=by grind
  refine UY Z e (z9 B e).1 q (step _ E w i o e O A k) λM z G Q H=>?_;have y:(dn (λc=>d.getD c false) i)=λc=>(d.setIfInBounds i true).getD c false:=by
   funext c;by_cases J:i=c
   .subst J;simp[dn,W]
   .have:cv c i=false:=by rw[<-i4,ez];omega
    rw[getD_set_ne false J]
    grind
  rw[y]at H;refine F _ M z G (by grind) Q H ?_;have ab:((List.range ops.size).filter λc=>!(d.setIfInBounds i true).getD c false)=((List.range ops.size).filter λc=>!d.getD c false).filter λc=>!(cv c i):=by
   rw[List.filter_filter];refine List.filter_congr λc _=>?_;rw[<-congrFun y c]
   grind
  have aa:(((List.range ops.size).filter λc=>!d.getD c false).filter λc=>!(cv c i)).length<((List.range ops.size).filter λc=>!d.getD c false).length:=by
   refine List.length_filter_lt_length_iff_exists.2 ⟨i,List.mem_filter.2 ⟨List.mem_range.2 Y,by grind⟩,?_⟩;have:cv i i=true:=Nat.beq_refl i
   grind
  grind
def VO{c:Code}{id:Nat}{a:Act}{E:Env}{w:C}(e:(Nat->Bool)->Env->C->Prop)(D:P.follows .mixedOrders=true)(A:c=.region id ops true)(k:dS n ops=true)(z:tv ops=true)(y:Ag n a E)(G:e (λ_=>false) E w.drew)(step:∀d E w i o,ops[i]? =some o->d i=false->(∀j∈o.after,Region.binds .any j=true->d j.on=true)->e d E w->gq P o E w λq F=>e (dn d i) q F)(fin:∀d E w,(∀i,i<ops.size->d i=true)->e d E w->K E w):c.wpIn (FW n) 0 P (hd n K) a w:=by
 subst A;have H:(λh=>(gI ops.size false).getD h false)=λ_=>false:=by funext h;by_cases B:h<ops.size<;>simp[B]
 have x:=VM (K:=K) k z e step fin ops.size (gI ops.size false) a E w.drew (by simp) y (by grind) (bB (List.length_filter_le _ _) (by simp));refine wpIn_region_draw λt=>?_;refine qL k (λ⟨_,_,u⟩=>u) _ _ _ ?_;simp only[Region.schedule,D,Bool.true_or,if_true];exact wpAny_sound ops.size t _ a _ x
def DU(P:aR)(n:Nat)(c:Code):Bool:=match c with
 |.region _ ops d=>d&&(P.follows .mixedOrders&&(dS n ops&&tv ops))
 |_=>false
def rR(P:aR)(c:Code)(K:Env->C->Prop)(E:Env)(w:C):Prop:=
 ∃e:(Nat->Bool)->Env->C->Prop,e (λ_=>false) E w.drew/\
  (∀d E w i o,(Code.ops c)[i]? =some o->d i=false->(∀h∈o.after,Region.binds .any h=true->d h.on=true)->e d E w->gq P o E w λj k=>e (dn d i) j k)/\
  ∀d E w,(∀i,i<(Code.ops c).size->d i=true)->e d E w->K E w
abbrev vq(P:aR)(c:Code)(K:Env->C->Prop)(E:Env)(w:C):Prop:=rR P (Code.fst c) K E w
variable {Q:Exit->Act->C->Prop} {E:Env} {w:C}
def ig(c:Code)(d:DU P n c=true)(h:rR P c K E w)(G:∀e k j,Ag n j e->K e k->Q .normal j k):WP P n c Q E w:=by
 obtain⟨u,y,step,fin⟩:=h;unfold DU at d;split at d
 .rename_i id ops F;simp only[bC]at d;obtain⟨rfl,z,A,B⟩:=d;exact λa D=>wpIn_mono (VO u z rfl A B D y step fin) λx j k q=>by
   cases x with
   |normal=>obtain⟨e,hA,hK⟩:=q;grind
   |_=>exact q.elim
 grind
def si(c:Code)(j:(rS c&&DU P n (Code.fst c))=true)(h:vq P c K E w)(u:∀d e,K d e->WP P n (Code.snd c) Q d e):WP P n c Q E w:=
 WP.seq (vp (nT j).1) (ig _ (nT j).2 h λd e x k q=>nx k (u d e q))
end
def rowOf(o:Oper):Op×Option Nat×aF×List Nat:=(o.op,o.dst,o.type,(o.after.toList.filter λc=>Region.binds .any c).map (·.on))
def allI{α:Type}(F:Nat->α->Prop):List α->Nat->Prop
 |[],_=>True
 |a::l,i=>F i a/\allI F l (i+1)
def Fz{α:Type}{F:Nat->α->Prop}:∀{l:List α} {n i:Nat} {a:α},allI F l n->l[i]? =some a->F (n+i) a
 |[],_,i,a,_,c=>by grind
 |b::l,n,0,a,c,d=>by simp at d;subst d;exact c.1
 |b::l,n,i+1,a,c,d=>by
  have:=Fz (i:=i) c.2 (by simpa using d)
  grind
section
variable {P:aR} {K:Env->C->Prop} {E:Env} {w:C}
def th(P:aR)(d:(Nat->Bool)->Env->C->Prop)(i:Nat)(r:Op×Option Nat×aF×List Nat):Prop:=
 ∀c E w o,o.op=r.1->o.dst=r.2.1->o.type=r.2.2.1->c i=false->(∀h∈r.2.2.2,c h=true)->d c E w->gq P o E w λe j=>d (dn c i) e j
def Bz{c:Code}(h:List (Op×Option Nat×aF×List Nat))(D:(Code.ops c).toList.map rowOf=h)(e:(Nat->Bool)->Env->C->Prop)(n:e (λ_=>false) E w.drew)(step:allI (th P e) h 0)(fin:∀d E w,(∀i,i<h.length->d i=true)->e d E w->K E w):rR P c K E w:=by
 refine⟨e,n,λd E w i o B k z j=>?_,λd E w q j=>fin d E w (λi k=>q i ?_) j⟩
 .have x:h[i]? =some (rowOf o):=by grind
  have:=Fz step x;rw[Nat.zero_add]at this;refine this d E w o rfl rfl rfl k (λF u=>?_) j;obtain⟨y,A,rfl⟩:=dv.1 u
  grind
 grind
def lQ{o:Oper}{t:Nat}{v:ab}(c:o.op=.move (.tmp t)\/o.op=.assign (.tmp t))(e:E.get? t=some v)(h:K (E.put o.dst v) w):gq P o E w K:=by
 obtain⟨dst,n,j,pos,after,guard⟩:=o;have k:E.ev (.tmp t)=v:=by simp[Env.ev,Env.val,e]
 rcases c with c|c<;>(simp only at c;subst c)
 .show fP P _ E (λv _=>K (E.put dst v) w);have d:E.dQ ⟨dst,.move (.tmp t),j,pos,after,guard⟩=true:=by simp[Env.dQ,Op.operands,Env.val,e]
  unfold fP;rw[d];show K (E.put dst (E.ev (.tmp t))) w
  grind
 .show fP P _ E (λv _=>K (E.put dst v) w);have d:E.dQ ⟨dst,.assign (.tmp t),j,pos,after,guard⟩=true:=by simp[Env.dQ,Op.operands,Env.val,e]
  unfold fP;rw[d];show K (E.put dst (E.ev (.tmp t))) w
  grind
def oS{o:Oper}{T:aF}{t:Nat}{p:Addr}(c:o.op=.load T (.tmp t))(d:E.get? t=some (.pointer (some p)))(h:lC P T p w λv _=>K (E.put o.dst v) w):gq P o E w K:=by obtain⟨dst,e,j,pos,after,guard⟩:=o;simp only at c;subst c;show(match E.val (.tmp t)with |some (.pointer (some p))=>lC P T p w (λv _=>K (E.put dst v) w)|_=>False);rw[show E.val (.tmp t)=some (.pointer (some p))from d];exact h
def UP{o:Oper}{f c t2:Nat}{d e:ab}(n:o.op=.makeFunc (.func f) #[] #[.tmp c,.tmp t2])(j:E.get? c=some d)(k:E.get? t2=some e)(h:K (E.put o.dst (.func (.func f) #[] #[d,e])) w):gq P o E w K:=by
 obtain⟨dst,z,u,pos,after,guard⟩:=o;simp only at n;subst n;show fP P _ E (λv _=>K (E.put dst v) w);have q:E.dQ ⟨dst,.makeFunc (.func f) #[] #[.tmp c,.tmp t2],u,pos,after,guard⟩=true:=by simp[Env.dQ,Op.operands,Env.val,j,k]
 unfold fP;rw[q];show K (E.put dst (.func (.func f) (#[].map E.ev) (#[.tmp c,.tmp t2].map E.ev))) w;have x:E.ev (.tmp c)=d:=by simp[Env.ev,Env.val,j]
 have y:E.ev (.tmp t2)=e:=by simp[Env.ev,Env.val,k]
 grind
def UQ{o:Oper}{T:aF}(c:o.op=.makeMap T none)(h:K (E.put o.dst (.map (some w.heap.size))) (w.alloc (.map #[] 0))):gq P o E w K:=by
 obtain⟨dst,n,d,pos,after,guard⟩:=o;simp only at c;subst c;have e:E.dQ ⟨dst,.makeMap T none,d,pos,after,guard⟩=true:=by simp[Env.dQ,Op.operands]
 have j:n7 P ⟨dst,.makeMap T none,d,pos,after,guard⟩ E w (λv k=>K (E.put dst v) k):=by unfold n7;rw[e];exact h
 unfold gq;simp only[calm,cond_false];unfold gZ;exact j
def oR{o:Oper}{T:aF}{m k v:Operand}{j e n:ab}(d:o.op=.insert T m k v)(u:E.val m=some j)(q:E.val k=some e)(x:E.val v=some n)(h:∃c,(Instr.mapUpdate T j e n).run P w=.ok () c/\K (E.put o.dst undef) c):gq P o E w K:=by obtain⟨dst,y,z,pos,after,guard⟩:=o;simp only at d;subst d;show(match E.val m,E.val k,E.val v with |some m,some k,some v=>G' P (Instr.mapUpdate T m k v) w (λv c=>K (E.put dst v) c)|_,_,_=>False);rw[u,q,x];exact h
def Et{o:Oper}{t a b f:Nat}{ts:Array aF}{first captured:Array ab}{x y:ab}(k:o.op=.call ⟨.value (.tmp t),#[.tmp a,.tmp b],ts⟩)(n:E.get? t=some (.func (.func f) first captured))(e:E.get? a=some x)(j:E.get? b=some y)(A:gx P f=true)(h:ah P f (first++#[x,y]++captured) w λq d=>mj (zeroOf P o.type) λv=>q=U v/\K (E.put o.dst v) d):gq P o E w K:=by
 obtain⟨dst,D,c,pos,after,guard⟩:=o;simp only at k;subst k;show cF (E.dQ ⟨dst,.call ⟨.value (.tmp t),#[.tmp a,.tmp b],ts⟩,c,pos,after,guard⟩) (match E.get? t with
  |some (.func (.func f) first captured)=>cF (gx P f) (nY P f (first++(#[Operand.tmp a,.tmp b]).map E.ev++captured) (zeroOf P c) w (λv d=>K (E.put dst v) d))
  |_=>False)
 have B:E.dQ ⟨dst,.call ⟨.value (.tmp t),#[.tmp a,.tmp b],ts⟩,c,pos,after,guard⟩=true:=by simp[Env.dQ,Op.operands,Call.operands,Env.val,n,e,j]
 rw[B,n];show cF (gx P f) _;rw[A];have u:E.ev (.tmp a)=x:=by simp[Env.ev,Env.val,e]
 have z:E.ev (.tmp b)=y:=by simp[Env.ev,Env.val,j]
 show nY P f _ _ w _;simp only[List.map_toArray,List.map_cons,List.map_nil,u,z];exact h
def mQ(T:List (Nat×Nat×ab))(L:Nat->Bool)(E:Env):Prop:=∀c∈T,(bif cv c.1 0 then true else L (c.1 - 1))=true->E.get? c.2.1=some c.2.2
def mQ.get{T:List (Nat×Nat×ab)}{L:Nat->Bool}(h:mQ T L E){i d:Nat}{v:ab}(c:(i,d,v)∈T)(hi:(bif cv i 0 then true else L (i - 1))=true):E.get? d=some v:=h _ c hi
def hr{E:Env}{d t:Nat}{v:ab}(h:d≠t):(E.put (some d) v).get? t=E.get? t:=by
 have:cv d t=false:=by rw[<-i4,ez];exact h
 simp only[Env.put,Env.get?,this,cond_false]
def nf{E:Env}{d:Nat}{v:ab}:(E.put (some d) v).get? d=some v:=by simp[Env.put,Env.get?]
def mQ.fill{T:List (Nat×Nat×ab)}{L:Nat->Bool}(h:mQ T L E){i d:Nat}{v:ab}(q:∀c∈T,c.1=i+1->c=(i+1,d,v))(u:∀c∈T,c.2.1=d->c.1=i+1):mQ T (dn L i) (E.put (some d) v):=by
 intro c j x;by_cases e:c.2.1=d
 .obtain rfl:=q c j (u c j e);exact nf
 .rw [hr (λk=>e k.symm)];refine h c j ?_;by_cases n:c.1=0
  .rw [n];rfl
  .have w:cv c.1 0=false:=by rw[<-i4,ez];exact n
   rw[w]at x ⊢;have y:c.1 - 1≠i:=λk=>e (by grind);have:cv (c.1 - 1) i=false:=by rw[<-i4,ez];omega
   grind
def mQ.pass{T:List (Nat×Nat×ab)}{L:Nat->Bool}(h:mQ T L E){i:Nat}{d:Option Nat}{v:ab}(n:∀c∈T,c.1≠i+1)(q:∀c∈T,d≠some c.2.1):mQ T (dn L i) (E.put d v):=by
 intro c e w;have x:(E.put d v).get? c.2.1=E.get? c.2.1:=by
  cases d with
  |none=>rfl
  |some d=>exact hr λj=>q c e (by rw[j])
 rw[x];refine h c e ?_;by_cases k:c.1=0
 .rw [k];rfl
 .have u:cv c.1 0=false:=by rw[<-i4,ez];exact k
  rw[u]at w ⊢;have y:c.1 - 1≠i:=λj=>n c e (by omega);have:cv (c.1 - 1) i=false:=by rw[<-i4,ez];omega
  grind
end
structure LC(w:C)(L:List (Nat×List ab×aF)):Prop where
 own:∀(i:Nat) (x:Nat×List ab×aF),L[i]? =some x->w.heap[x.1]? =some (.cells x.2.1.toArray x.2.2 (0,0))
 dj:∀(i j:Nat) (x y:Nat×List ab×aF),L[i]? =some x->L[j]? =some y->x.1=y.1->i=j
abbrev hM(L:List (Nat×List ab×aF)):List Nat:=L.map (·.1)
def loc(bs:List Nat)(w:C)(K:C->Prop):Prop:=∀c,Fr (·∈bs) w c->K c
def aP(bs:List Nat)(w:C)(K:Nat->C->Prop):Prop:=∀b c,w.heap.size<=b->c.heap.size=b+1->Fr (·∈bs) w c->K b c
def cV(bs:List Nat)(P:aR)(f:bW)(args:Array ab)(w:C)(K:aa):Prop:=∃c:Nat->Prop,(∀b∈bs,¬c b)/\ah P f args w λr d=>Fr c w d/\K r d
def kept(bs:List Nat)(w w':C):Prop:=∀b∈bs,w'.heap[b]? =w.heap[b]?
def Tj{c:Option Addr}{K K':Addr->Prop}(h:cd c K)(f:∀p,K p->K' p):cd c K':=by
 cases c with
 |none=>exact h
 |some p=>exact f p h
def Le{t:Bool}{A d c e:Prop}(h:Y t A d)(j:A->c)(k:d->e):Y t c e:=Ul j k h
def UK{w:C}{p:Addr}{v:ab}{K K':C->Prop}(h:ao w p v K)(f:∀c,K c->K' c):ao w p v K':=⟨h.1,h.2.1,f _ h.2.2⟩
section
variable {w wT:C} {L:List (Nat×List ab×aF)}
def LC.nil(w:C):LC w []:=⟨λi d c=>by grind,λi e d h c=>by grind⟩
def LC.N0(H:LC w L){b:Nat}(c:b∈hM L):∃(i:Nat) (x:Nat×List ab×aF),L[i]? =some x/\x.1=b:=by
 obtain⟨x,d,rfl⟩:=dv.1 c;obtain⟨i,e⟩:=g5.1 d
 grind
def LC.lt(H:LC w L){b:Nat}(c:b∈hM L):b<w.heap.size:=by obtain⟨i,e,d,rfl⟩:=H.N0 c;exact lt_of_heap (H.own i e d)
def LC.oi{w':C}(H:LC w L)(h:kept (hM L) w w'):LC w' L:=
 ⟨λi c d=>by rw[h c.1 (dv.2 ⟨c,aE d,rfl⟩)];exact H.own i c d,H.dj⟩
def LC.fr{M:Nat->Prop}{w':C}(H:LC w L)(f:Fr M w w')(d:∀b∈hM L,¬M b):LC w' L:=H.oi λb c=>f.cA b (H.lt c) (d b c)
def LC.pick(H:LC w L)(is:List Nat)(x:is.Nodup):LC w (is.filterMap λi=>L[i]?):=by
 induction is with
 |nil=>exact LC.nil w
 |cons n is d=>
  have d:=d (List.nodup_cons.1 x).2;cases k:L[n]? with
  |none=>grind
  |some q=>
   rw[List.filterMap_cons_some k];have back:∀(j:Nat) c,(is.filterMap λi=>L[i]?)[j]? =some c->c.1≠q.1:=by
    intro j c y e;obtain⟨m,B,u⟩:=List.mem_filterMap.1 (aE y);have:=H.dj m n c q u k e
    grind
   refine⟨λi c h=>?_,λi j c z h A e=>?_⟩
   .cases i with
    |zero=>simp at h;subst h;exact H.own n q k
    |succ i=>exact d.own i c (by grind)
   .cases i with
    |zero=>
     grind
    |succ i=>
     cases j with
     |zero=>grind
     |succ j=>rw[d.dj i j c z (by grind) (by grind) e]
def LC.alloc(H:LC w L)(o:Obj):LC (w.alloc o) L:=H.fr (M:=λ_=>False) (Fr.alloc _ _ _) (λ_ _ c=>c)
def LC.push(H:LC w L)(cs:Array ab)(T:aF):LC (w.alloc (.cells cs T)) (L++[(w.heap.size,cs.toList,T)]):=by
 have q:=H.alloc (.cells cs T);have y:∀(i:Nat) c,L[i]? =some c->c.1<w.heap.size:=λi c d=>lt_of_heap (H.own i c d);have h:∀(i:Nat) c,(L++[(w.heap.size,cs.toList,T)])[i]? =some c->(L[i]? =some c)\/(i=L.length/\c=(w.heap.size,cs.toList,T)):=by grind
 refine⟨λi c d=>?_,λi k c n d x u=>?_⟩
 .rcases h i c d with e|⟨_,rfl⟩
  .exact q.own i c e
  .simp only[Array.toArray_toList];exact kM w _
 .rcases h i c d with e|⟨e,rfl⟩
  .rcases h k n x with j|⟨j,rfl⟩
   .exact H.dj i k c n e j u
   grind
  grind
def Aa(L:List (Nat×List ab×aF))(i:Nat){b:Nat}{vs c:List ab}{T:aF}(hi:L[i]? =some (b,vs,T)):hM (L.set i (b,c,T))=hM L:=by
 apply List.ext_getElem?
 grind
def LC.set(H:LC w L)(i j:Nat){b:Nat}{vs:List ab}{T:aF}{v:ab}(hi:L[i]? =some (b,vs,T))(I:j<vs.length)(f:Fr (·∈hM L) wT w):
  (w.cell? ((ag b).add j)).isSome=true/\w.frozen? ((ag b).add j)=false/\LC (w.setCell ((ag b).add j) v) (L.set i (b,vs.set j v,T))/\Fr (·∈hM (L.set i (b,vs.set j v,T))) wT (w.setCell ((ag b).add j) v):=by
 obtain⟨B,D,J,n⟩:=yK (H.own i _ hi) j (by omega) v;have x:b∈hM L:=dv.2 ⟨_,aE hi,rfl⟩;refine⟨B,D,⟨λk c d=>?_,λk m c h d y e=>?_⟩,?_⟩
 .rw [List.getElem?_set]at d;split at d
  .grind
  .rename_i z;have:=n.cA c.1 (lt_of_heap (H.own k c d)) (λe=>z (H.dj i k _ c hi d e.symm));rw[this];exact H.own k c d
 .have g:∀(k:Nat) c,(L.set i (b,vs.set j v,T))[k]? =some c->∃h,L[k]? =some h/\h.1=c.1:=by grind
  obtain⟨A,q,F⟩:=g k c d;obtain⟨E,u,G⟩:=g m h y;exact H.dj k m A E q u (by omega)
 .rw [Aa L i hi];exact f.trans n λc _ e=>e▸x
def h7{bs:List Nat}{P:aR}{f:bW}{args:Array ab}{K:aa}(h:ah P f args w λr c=>aj w c/\K r c):cV bs P f args w K:=⟨λ_=>False,λ_ _ h=>h,h⟩
end
def En.g(b:Nat):En:=⟨[b],λc=>b<c.heap.size,λc j e d=>(by grind),λc d k h=>by grind,by simp⟩
section
variable {M:Nat->Prop} {w0 w:C} {L D:List En} {bs:List Nat}
def Z.ghost(H:Z M w0 w L D){w':C}(f:Fr (·∈bs) w w')(bZ:∀b∈bs,En.g b∈L):Z M w0 w' L D:=by
 refine⟨H.fr.trans f λy B h=>(H.new _ (bZ y h) y (by simp[En.g])).resolve_left (by omega),λc d=>?_,λc d=>?_,H.new,H.nd,H.dj⟩
 .by_cases q:∃b∈bs,b∈c.fp
  .obtain ⟨b,e,z⟩:=q;obtain⟨i,u⟩:=g5.1 d;obtain⟨x,j⟩:=g5.1 (bZ b e);have A:i=x:=by
    rcases Nat.decEq i x with n|n
    .exact absurd (by simp[En.g]) (m8 H.nd u j n b z)
    omega
   subst A;rw[u]at j;cases j;exact iI (H.own _ d) f.size
  .exact c.st w w' (λb e k=>f.cA b k λh=>q ⟨b,h,e⟩) (H.own c d)
 .exact c.st w w' (λb e k=>f.cA b k λh=>H.dj c d b e _ (bZ b h) (by simp[En.g])) (H.rd c d)
def Z.ak(H:Z M w0 w L D){K:C->Prop}(d:∀c,Z M w0 c L D->K c)(bZ:∀b∈bs,En.g b∈L:=by simp):loc bs w K:=λ_ f=>d _ (H.ghost f bZ)
def Z.aN(H:Z M w0 w L D){K:Nat->C->Prop}(y:∀b k,Z M w0 k (L++[.g b]) D->K b k)(bZ:∀b∈bs,En.g b∈L:=by simp):aP bs w K:=λb k x A f=>y b k (by
 have n:=H.ghost f bZ;refine⟨n.fr,λe c=>?_,n.rd,λe c j d=>?_,?_,λe c j d u h q=>?_⟩
 .rcases a6.1 c with c|c
  .exact n.own e c
  .simp at c;subst c;show b<_;omega
 .rcases a6.1 c with c|c
  .exact H.new e c j d
  .simp at c;subst c;simp[En.g]at d;subst d;exact .inl (bB H.fr.size x)
 .rw [List.flatMap_append,gT];refine⟨H.nd,by simp[En.g],λj d B z=>?_⟩;have:=H.DH j d;simp[En.g]at z;omega
 .rcases a6.1 h with h|h
  .exact H.dj e c j d u h q
  .simp at h;subst h;simp[En.g]at q;subst q;have:=e.lt w (H.rd e c) j d;omega)
def Z.ax(H:Z M w0 w L D){P:aR}{g:bW}{args:Array ab}{A K:aa}(e:ah P g args w λr c=>A r c/\aj w c)(h:∀r c,A r c->Z M w0 c L D->K r c):cV bs P g args w K:=
 h7 (e.mono λr c ⟨d,f⟩=>⟨f,h r c d (H.ct f)⟩)
def Z.call(H:Z M w0 w L D){P:aR}{g:bW}{args:Array ab}{A K:aa}(e:ah P g args w λr c=>A r c/\aj w c)(h:∀r c,A r c->Z M w0 c L D->K r c):ah P g args w K:=
 e.mono λr c ⟨d,f⟩=>h r c d (H.ct f)
def Z.TC(H:Z M w0 w L D){w':C}(f:aj w w'){e:aF}{sz:Nat}{s:J}{vs:List ab}(h:aG w' e sz s vs)(c:∀b∈aO s,w.heap.size<=b):Z M w0 w' (L++[.row e sz s vs]) D:=H.push (.row e sz s vs) f h c
def Z.FC(H:Z M w0 w L D)(i:Nat){P:aR}{t ty e:aF}{Y:ab}{sz bytes:Nat}(A:gJ P t e Y sz bytes){s src:J}{xs news:List ab}{K:J->C->Prop}(hi:L[i]? =some (.row e sz s xs))(S:eY w src news)(Q:news.length=src.n *sz)(N:∀W∈news,W.oneCell'=true)(h:(s.n+src.n) *bytes<=140737488355328)(O:∀c d,Z M w0 d (L.set i (.row e sz c (xs++news))) D->c.n=s.n+src.n->(c.a=none->s.a=none/\src.n=0)->(∀b,En.g b∈L->d.heap[b]? =w.heap[b]?)->K c d):
  ∃c d,(bg #[t,t] ty #[s.v,src.v]).run P w=.ok c.v d/\K c d:=by
 obtain⟨c,d,B,E,F,u,G,I⟩:=we (ty:=ty) A (H.get i hi) S Q N h;refine⟨c,d,B,O c d (H.g' i (.row e sz c (xs++news)) hi u E G) F I λb h=>?_⟩;refine u.cA b (H.own _ h) λz=>?_;obtain⟨T,k⟩:=g5.1 h;by_cases y:i=T
 .subst y;rw[hi]at k;cases ac:(En.row e sz s xs)with
  |mk aa P' st lt ae=>
   have j:En.row e sz s xs=En.g b:=Option.some.inj k;have q:(En.row e sz s xs).P=(En.g b).P:=by rw[j]
   have e3:=congrFun q w;have e4:(En.row e sz s xs).P (w.alloc (.cells #[] e))=(En.g b).P (w.alloc (.cells #[] e)):=by rw[j]
   have f1:(En.row e sz s xs).fp=(En.g b).fp:=by rw[j]
   have x:(En.g b).P ({w with heap:=gI (b+1) (.map #[] 0)}):=by show b<_;simp
   rw[<-q]at x;have ad:=(aG.row (show aG ({w with heap:=gI (b+1) (.map #[] 0)}) e sz s xs from x)).sT b z
   grind
 .exact m8 H.nd hi k y b z (by simp[En.g])
end
def bF(sz:Nat)(w:C)(s:J)(vs:List ab):Prop:=vs.length=s.n *sz/\s.n<=s.c/\eY w s vs
def bF.fr{sz:Nat}{M:Nat->Prop}{w w':C}{s:J}{vs:List ab}(h:bF sz w s vs)(c:Fr M w w')(d:∀b∈aO s,¬M b):bF sz w' s vs:=⟨h.1,h.2.1,h.2.2.fr c d⟩
def bF.ct{sz:Nat}{w w':C}{s:J}{vs:List ab}(h:bF sz w s vs)(c:aj w w'):bF sz w' s vs:=h.fr c λ_ _ h=>h
def aG.bh{w:C}{e:aF}{sz:Nat}{s:J}{vs:List ab}(h:aG w e sz s vs):bF sz w s vs:=⟨h.len,h.cap,h.row.pC⟩
def bF.nil(sz:Nat)(w:C):bF sz w ⟨none,0,0⟩ []:=⟨by simp,b' _,eY.nil w⟩
def En.bh(sz:Nat)(s:J)(vs:List ab):En:=⟨if vs=[]then[]else aO s,λk=>bF sz k s vs,λk x n c=>by
  refine⟨c.1,c.2.1,c.2.2.1,λi v u=>?_⟩;obtain⟨p,e,d⟩:=c.2.2.2 i v u;have j:vs≠[]:=λw=>by grind
  rw[aq j]at n;have:=n p.block (by simp[aO,e]) (by have:=m3 d;rwa[iM]at this);refine⟨p,e,?_⟩;unfold World.cell? at d ⊢;rw[iM]at d ⊢
  grind,λk c b h=>by
  split at h
  .cases h
  .rename_i j;have q:0<vs.length:=List.length_pos_iff.2 j;obtain⟨p,e,d⟩:=c.2.2.2 0 vs[0] (a9 q);simp[aO,e]at h;subst h;have:=m3 d
   rwa[iM]at this,by split<;>(try simp);unfold aO;grind⟩
def mH(sz:Nat)(s:J)(l h:Nat):J:=⟨if s.c=l then s.a else s.a.map (·.add (l *sz)),h - l,s.c - l⟩
def bF.sub{sz:Nat}{w:C}{s:J}{vs:List ab}(h:bF sz w s vs)(l hi:Nat)(D:l<=hi)(x:hi<=s.n):bF sz w (mH sz s l hi) ((vs.take (hi *sz)).drop (l *sz)):=by
 obtain⟨k,A,B,q⟩:=h;have j:hi *sz<=s.n *sz:=s6 _ x;refine⟨?_,?_,?_,λi v e=>?_⟩
 .rw [List.length_drop,List.length_take,k,Nat.min_eq_left j];show _=(hi - l) *sz;rw[Nat.sub_mul]
 .show hi - l<=s.c - l;omega
 .intro d;unfold mH at d ⊢;simp only at d ⊢;split at d
  .omega
  .cases G:s.a with
   |none=>grind
   |some p=>grind
 .rw [List.getElem?_drop]at e;have y:l *sz+i<hi *sz:=by grind
  rw[List.getElem?_take,aA y]at e;obtain⟨p,F,u⟩:=q _ _ e;have E:s.c≠l:=λz=>by grind
  refine⟨p.add (l *sz),?_,?_⟩
  .unfold mH
   grind
  .rw [add_add];exact u
def jS:List Nat->List Nat
 |[]=>[]
 |a::l=>if a∈jS l then jS l else a::jS l
def a4{x:Nat}:∀{l:List Nat},x∈jS l↔x∈l
 |[]=>Iff.rfl
 |a::l=>by
  unfold jS;split
  .rename_i d;rw[a4,ay];exact⟨.inr,λe=>e.elim (λc=>by subst c;exact a4.1 d) id⟩
  .rw [ay,ay,a4]
def oC:∀l:List Nat,(jS l).Nodup
 |[]=>.nil
 |a::l=>by
  unfold jS;split
  .exact oC l
  .rename_i c;exact List.nodup_cons.2 ⟨c,oC l⟩
def En.all(es:List En):En:=⟨jS (es.flatMap (·.fp)),λd=>∀c∈es,c.P d,λd u k j c e=>c.st d u (λb h q=>k b (a4.2 (cj.2 ⟨c,e,h⟩)) q) (j c e),
 λd j b h=>(by obtain⟨c,e,n⟩:=cj.1 (a4.1 h);exact c.lt d (j c e) b n),oC _⟩
section
variable {M:Nat->Prop} {w0 w:C} {L D:List En} {bs:List Nat}
structure zG(M:Nat->Prop)(w0 w w':C)(L D:List En):Prop where
 own:∀e:En,e.P w'->(∀b∈e.fp,w.heap.size<=b)->Z M w0 w' (L++[e]) D
 rd:∀e:En,e.P w'->(∀b∈e.fp,w.heap.size<=b)->Z M w0 w' L (D++[e])
def Z.fresh(H:Z M w0 w L D){w':C}(f:aj w w'):zG M w0 w w' L D:=⟨λc d e=>H.push c f d e,λc d e=>H.gv c f d λb h=>.inl (e b h)⟩
def Z.jF(H:Z M w0 w L D){P:aR}{g:bW}{args:Array ab}{A K:aa}(e:ah P g args w λr c=>A r c/\aj w c)(h:∀r c,A r c->Z M w0 c L D->zG M w0 w c L D->K r c):cV bs P g args w K:=
 h7 (e.mono λr c ⟨d,f⟩=>⟨f,h r c d (H.ct f) (H.fresh f)⟩)
def Z.At(H:Z M w0 w L D){P:aR}{g:bW}{args:Array ab}{A K:aa}(e:ah P g args w λr c=>A r c/\aj w c)(h:∀r c,A r c->Z M w0 c L D->zG M w0 w c L D->K r c):ah P g args w K:=
 e.mono λr c ⟨d,f⟩=>h r c d (H.ct f) (H.fresh f)
end
def yz{sz:Nat}{s:J}{vs:List ab}{n:Nat}(h:∀b∈aO s,n<=b):∀b∈(En.bh sz s vs).fp,n<=b:=λb c=>by
 have:b∈(if vs=[]then[]else aO s):=c
 grind
section
variable {M:Nat->Prop} {w0 w:C} {L D:List En} {bs:List Nat}
def Z.ep(H:Z M w0 w L D)(i:Nat){P:aR}{t ty e:aF}{B:ab}{sz bytes:Nat}(j:gJ P t e B sz bytes){s src:J}{xs news:List ab}{K:J->C->Prop}(hi:L[i]? =some (.row e sz s xs))(h:bF sz w src news)(q:∀A∈news,A.oneCell'=true)(x:(s.n+src.n) *bytes<=140737488355328)(u:∀d c,Z M w0 c (L.set i (.row e sz d (xs++news))) D->K d c)(bZ:∀b∈bs,En.g b∈L:=by simp):
  ∃d c,(bg #[t,t] ty #[s.v,src.v]).run P w=.ok d.v c/\kept bs w c/\K d c:=
 H.FC i j (K:=λd c=>kept bs w c/\K d c) hi h.2.2 h.1 q x λd c k _ _ z=>⟨λb y=>z b (bZ b y),u d c k⟩
def Z.hL(H:Z M w0 w L D)(i:Nat){P:aR}{t ty e:aF}{z:ab}{sz bytes:Nat}(k:gJ P t e z sz bytes){T:aF}{s:J}{xs:List ab}{news:Array ab}{K:J->C->Prop}(hi:L[i]? =some (.row e sz s xs))(u:∀d c,Z M w0 c (L.set i (.row e sz d (xs++news.toList))) D->K d c)(x:(s.n+1) *bytes<=140737488355328)(A:news.size=sz:=by rfl)(q:∀y∈news.toList,y.oneCell'=true:=by simp[Value.oneCell'])(bZ:∀b∈bs,En.g b∈L:=by simp):
  aK w (.cells news T) λh=>∃d c,(bg #[t,t] ty #[s.v,.slice (some (Addr.mk w.heap.size 0 none)) 1 1]).run P h=.ok d.v c/\kept bs h c/\K d c:=by have j:Z M w0 (w.alloc (.cells news T)) L D:=H.ct (Fr.alloc _ _ _);exact j.ep i k (src:=⟨some (ag w.heap.size),1,1⟩) (ty:=ty) (K:=K) (news:=news.toList) hi ⟨by grind,b' _,(Row.made w T 1 1 news.toList).pC⟩ q x u bZ
end
abbrev aw(s:J)(i:Int)(K:Addr->Prop):Prop:=0<=i/\i<((s.n:Nat):Int)/\cd s.a K
end Go.W
