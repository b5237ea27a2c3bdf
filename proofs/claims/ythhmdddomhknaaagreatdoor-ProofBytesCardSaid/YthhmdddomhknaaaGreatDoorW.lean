import Derived.OrdersHeld
import Derived.OrdersIn
import Derived.RangeFuncLeaves
import Derived.RangeFuncRecord
import Derived.RangeFuncSeq
import Derived.WalkKit
import Derived.Laws.AppendOwn
import Derived.Laws.StructEq
import Derived.KernelRfl
import Derived.Below
import Derived.OwnWalk
import Derived.IntWalk
import Derived.Laws.AppendOwnNone
set_option linter.unusedVariables false
set_option linter.defProp false
namespace Go.W
open Go renaming World->J,Calls->ai,Program->aE,Value->aa,TypeId->aC,Ending->ch,FuncId->cB,IntKind->hC
open Go.IntKind renaming wrap->aj
open _root_.ByteArray renaming mk->bG
open Go.Builtin renaming append_->dY
open _root_.Bool renaming and_eq_true->bq,not_eq_true->iR
open _root_.Nat renaming le_refl->bm,le_trans->a6,zero_le->dv,beq->bO,lt_of_lt_of_le->kr,mul_le_mul_right->oG,beq_eq->ep
open _root_.Option.some renaming injEq->eI
open _root_.Array renaming replicate->g'
open _root_.BitVec renaming ofInt->eF
open Go.Region renaming wanted->db,ready->eG
open Go.Ending renaming returned->ae
open List renaming mem_append->aY,mem_cons->au,mem_of_getElem?->aD,getElem?_eq_getElem->a4,getElem?_eq_some_iff->cz,mem_append_right->dV,mem_flatMap->bS,mem_map->bZ,mem_of_mem_take->nl,mem_singleton->bT,flatMap_cons->cV,mem_iff_getElem?->g7,nodup_append->gT,all_eq_true->ft
def af{c:Prop}{h:Decidable c}(x:¬c){α:Sort _}{t e:α}:ite c t e=e:=_root_.if_neg x
def aq{c:Prop}{h:Decidable c}(x:c){α:Sort _}{t e:α}:ite c t e=t:=_root_.if_pos x
def aW{p:Prop}[i:Decidable p](x:¬p):decide p=false:=_root_.decide_eq_false x
def aS{p:Prop}[i:Decidable p](x:p):decide p=true:=_root_.decide_eq_true x
def aR(p:Prop):(p∨False)=p:=_root_.or_false p
def eH{p:Prop}[i:Decidable p](x:decide p=true):p:=_root_.of_decide_eq_true x
def hZ{p:Prop}[i:Decidable p](x:decide p=false):¬p:=_root_.of_decide_eq_false x
abbrev Env:=List (Nat×aa)
def Env.get? :Env->Nat->Option aa
 |[],_=>none
 |(e,v)::d,t=>bif bO e t then some v else Env.get? d t
def Env.val(E:Env):Operand->Option aa
 |.tmp t=>E.get? t
 |.const v=>some v
 |.global g=>some (.pointer (some ⟨g,0,none⟩))
 |.func f=>some (.func (.func f) #[] #[])
def Env.ev(E:Env)(x:Operand):aa:=(E.val x).getD undef
def Env.put(E:Env)(d:Option Nat)(v:aa):Env:=
 match d with
 |some d=>(d,v)::E
 |none=>E
def Env.dQ(E:Env)(o:Oper):Bool:=o.op.operands.toList.all λd=>(E.val d).isSome
structure Cx where
 n:Nat
 ds:List Deferred
 ro:Option Nat
instance:CoeHead Cx Nat:=⟨Cx.n⟩
abbrev cx(n:Nat):Cx:=⟨n,[],none⟩
abbrev FW(n:Cx):Fence:={Fence.wide with round:=n.ro}
structure Ag(n:Cx)(a:Act)(E:Env):Prop where
 defers:a.defers=n.ds
 size:a.tmps.size=n.n
 get:∀t v,E.get? t=some v->a.tmps[t]? =some v
def Ag.val{n:Cx}{a:Act}{E:Env}(h:Ag n a E){x:Operand}{v:aa}(d:E.val x=some v):a.eval x=v:=by
 cases x with
 |tmp t=>have:=h.get t v d;simp[Act.eval,this]
 |const u=>simpa[Env.val,Act.eval]using d
 |global g=>simpa[Env.val,Act.eval]using d
 |func f=>simpa[Env.val,Act.eval]using d
def Ag.ev{n:Cx}{a:Act}{E:Env}(h:Ag n a E){x:Operand}(e:(E.val x).isSome=true):a.eval x=E.ev x:=by obtain⟨v,d⟩:=Option.isSome_iff_exists.1 e;rw[h.val d,Env.ev,d];rfl
def Ag.put{n:Cx}{a:Act}{E:Env}(h:Ag n a E){d:Option Nat}(v:aa)(q:∀t,d=some t->t<n.n):Ag n (a.put d v) (E.put d v):=by
 cases d with
 |none=>exact h
 |some t=>
  refine⟨h.defers,by simp[Act.put,h.size],?_⟩;intro s u e;have k:t<a.tmps.size:=by rw[h.size];grind
  simp only[Env.put,Env.get?]at e;by_cases j:t=s
  .subst j;simp at e;simp[Act.put,k,e]
  .have:bO t s=false:=by rw[<-iR,ep];exact j
   simp only[this,cond_false]at e;simpa[Act.put,Array.getElem?_setIfInBounds_ne j]using h.get s u e
def Ag.nil{n:Cx}{a:Act}{E:Env}(h:Ag n a E):Ag n a []:=⟨h.defers,h.size,λ_ _ h=>by simp[Env.get?]at h⟩
def Ag.cons{n:Cx}{a:Act}{E F:Env}(h:Ag n a E){t:Nat}{v:aa}(k:E.get? t=some v)(j:Ag n a F):Ag n a ((t,v)::F):=by
 refine⟨h.defers,h.size,?_⟩;intro s u d;simp only[Env.get?]at d;by_cases e:t=s
 .subst e;simp at d;subst d;exact h.get _ _ k
 .have:bO t s=false:=by rw[<-iR,ep];exact e
  simp only[this,cond_false]at d;exact j.get s u d
def Ag.execOp{n:Cx}{a:Act}{E:Env}(h:Ag n a E){o:Oper}(j:∀d b,o.op≠.select d b)(e:E.dQ o=true):execOp a.eval o=execOp E.ev o:=
 execOp_congr o j λk q=>h.ev (by have:=ft.1 e k (by grind);omega)
structure Sl where
 a:Option Addr
 n:Nat
 c:Nat
abbrev Sl.v(s:Sl):aa:=.slice s.a s.n s.c
abbrev aH:=ch->J->Prop
structure Fv where
 n:Nat
 U:Array aa
 cs:Array aa
abbrev Fv.v(f:Fv):aa:=.func (.func f.n) f.U f.cs
def vq(z:aa)(K:aa->Prop):Prop:=
 match z with
 |.int d _=>∃n:Int,K (.int d n)
 |.bool _=>∃b:Bool,K (.bool b)
 |.string _=>∃s:ByteArray,K (.string s)
 |.slice _ _ _=>∃s:Sl,K s.v
 |.pointer _=>∃a:Option Addr,K (.pointer a)
 |.map _=>∃r:Option Nat,K (.map r)
 |_=>∃v:aa,K v
def x3:List aa->(List aa->Prop)->Prop
 |[],d=>d []
 |h::j,d=>vq h λv=>x3 j λe=>d (v::e)
def x4(z:aa)(K:aa->Prop):Prop:=
 match z with
 |.agg d=>x3 d.toList λe=>K (.agg e.toArray)
 |z=>vq z K
def BX:List aa->(List aa->Prop)->Prop
 |[],d=>d []
 |h::j,d=>x4 h λv=>BX j λe=>d (v::e)
def m4(z:aa)(K:aa->Prop):Prop:=
 match z with
 |.tuple e=>BX e.toList λd=>K (.tuple d.toArray)
 |z=>x4 z K
def BT{z:aa}{K:aa->Prop}(h:vq z K):∃v,K v:=by
 unfold vq at h
 grind
def BU:∀{h:List aa} {K:List aa->Prop},x3 h K->∃e,e.length=h.length/\K e
 |[],_,d=>⟨[],rfl,d⟩
 |_::_,_,d=>by
  obtain⟨v,d⟩:=BT d;obtain⟨e,j,d⟩:=BU d
  grind
def Iu{z:aa}{K:aa->Prop}(h:x4 z K):∃v,K v:=by
 unfold x4 at h;split at h
 .obtain ⟨d,_,h⟩:=BU h;grind
 .exact BT h
def Iv:∀{h:List aa} {K:List aa->Prop},BX h K->∃e,K e
 |[],_,d=>⟨[],d⟩
 |_::_,_,d=>by
  obtain⟨v,d⟩:=Iu d;obtain⟨e,d⟩:=Iv d
  grind
def qv{z:aa}{K:aa->Prop}(h:m4 z K):∃v,K v:=by
 unfold m4 at h;split at h
 .obtain ⟨d,h⟩:=Iv h;grind
 .exact Iu h
def cF(b:Bool)(p:Prop):Prop:=match b with |true=>p|false=>False
def dK{b:Bool}{p:Prop}(h:cF b p):b=true/\p:=by
 cases b
 .exact h.elim
 .exact ⟨rfl,h⟩
def bh(t:Bool)(A B:Prop):Prop:=match t with |true=>A|false=>B
def bB{t:Bool}{A B:Prop}(d:t=true->A)(e:t=false->B):bh t A B:=by
 cases t
 .exact e rfl
 .exact d rfl
def a1{t:Bool}{A B:Prop}(d:t=true)(h:A):bh t A B:=by subst d;exact h
def aZ{t:Bool}{A B:Prop}(d:t=false)(h:B):bh t A B:=by subst d;exact h
def dM(d:Option Addr)(K:Addr->Prop):Prop:=match d with |some p=>K p|none=>False
def yS{d:Option Addr}{K:Addr->Prop}(h:dM d K):∃p,d=some p/\K p:=by
 cases d with
 |none=>exact h.elim
 |some p=>exact⟨p,rfl,h⟩
def rV:List Prop->Prop->Prop
 |[],p=>p
 |d::l,p=>d/\rV l p
def rW:∀{l:List Prop} {p:Prop},rV l p->(∀h∈l,h)/\p
 |[],_,d=>⟨λ_ d=>(by cases d),d⟩
 |_::_,_,d=>⟨λh e=>by
   rcases au.1 e with rfl|e
   .exact d.1
   .exact (rW d.2).1 h e,(rW d.2).2⟩
def pd{α:Type}(P:aE):Sem α->Option α
 |.pure a=>some a
 |.program d=>pd P (d P)
 |_=>none
def Og{α:Type}{P:aE}:∀{s:Sem α} {a:α},pd P s=some a->∀e,s.run P e=.ok a e
 |.pure _,_,d,e=>by simp[pd]at d;subst d;rfl
 |.program h,_,d,e=>by simp only[pd]at d;exact Og d e
 |.load ..,_,d,_|.store ..,_,d,_|.new ..,_,d,_|.shape ..,_,d,_|.freeze ..,_,d,_|.frozen ..,_,d,_|.getObj ..,_,d,_|.setObj ..,_,d,_
 |.choose ..,_,d,_|.sys ..,_,d,_|.mark ..,_,d,_|.halt ..,_,d,_=>by simp[pd]at d
def zeroOf(P:aE)(t:aC):aa:=((P.info? t).bind (·.zero)).getD undef
def calm(P:aE)(o:Oper):Bool:=
 match o.op with
 |.convert s d _=>match P.underlying s,P.underlying d with
  |some (.slice _),some (.slice _)=>false
  |some .string,some (.slice _)=>false
  |_,_=>true
 |.move _|.assign _|.pick ..|.build ..|.load ..|.nilCheck _|.binOp ..|.unOp ..|.makeInterface ..|.makeFunc ..|.slice ..|.fieldAddr ..|.field ..|.indexAddr ..|.index ..
 |.lookup ..|.typeAssert ..|.extract ..=>true
 |.call {callee:=.builtin b,..}=>match b with |.len|.cap|.min|.max=>true|_=>false
 |_=>false
def mT(x:Option aa)(y d:Nat)(K:Nat->Prop):Prop:=
 match x with
 |none=>K d
 |some (.int _ i)=>0<=i/\i<=(y:Int)/\K i.toNat
 |_=>False
def qa(P:aE)(T:aC):Option Bool:=
 match P.underlying T with
 |some (.struct _)|some (.array _ _)=>some true
 |some _=>some false
 |none=>none
def xo(P:aE)(T:aC):Bool:=
 match zeroOf P T with
 |.agg d=>qa P T==some true&&(match P.info? T with |some i=>i.size==d.size|none=>false)
 |_=>qa P T==some false
def mj(P:aE)(T:aC)(p:Addr)(w:J)(K:aa->List (J->Prop)->Prop):Prop:=
 cF (xo P T)<|match zeroOf P T with
 |.agg h=>x3 h.toList λe=>rV (e.zipIdx.map λ(v,i)=>w.cell? (p.add i)=some v) (K (.agg e.toArray) (e.zipIdx.map λ(v,i)=>λd=>d.cell? (p.add i)=some v))
 |.nilFunc=>∃f:Fv,w.cell? p=some f.v/\K f.v [λd=>d.cell? p=some f.v]
 |.nilIface=>(∃(t:aC) (x:aa),w.cell? p=some (.iface t x)/\K (.iface t x) [λd=>d.cell? p=some (.iface t x)])\/(w.cell? p=some .nilIface/\K .nilIface [λd=>d.cell? p=some .nilIface])
 |j=>vq j λv=>w.cell? p=some v/\K v [λd=>d.cell? p=some v]
def fP(P:aE)(o:Oper)(E:Env)(K:aa->List (J->Prop)->Prop):Prop:=
 cF (E.dQ o) (match pd P (execOp E.ev o)with |some (.value v)=>K v []|_=>False)
def BY(z:aa)(K:aa->Prop):Prop:=
 match z with
 |.nilFunc=>∃f:Fv,K f.v
 |z=>m4 z K
def Vr{z:aa}{K:aa->Prop}(h:BY z K):∃v,K v:=by
 unfold BY at h;split at h
 .grind
 .exact qv h
def pk(P:aE)(s:Sem aa)(z:aa)(w:J)(K:aa->List (J->Prop)->Prop):Prop:=
 BY z λv=>s.run P w=.ok v w/\K v [λd=>s.run P d=.ok v d]
def xQ(P:aE)(T:aC):Option Nat:=
 match P.underlying T with
 |some (.slice d)=>(P.info? d).map (·.size)
 |_=>none
def AS(P:aE)(T:aC):Option (Nat×Nat):=
 match P.underlying T with
 |some (.array n d)=>(P.info? d).map λi=>(n,i.size)
 |_=>none
def SR{P:aE}{T:aC}{n sz:Nat}(h:AS P T=some (n,sz)):∃d inf,P.underlying T=some (.array n d)/\P.info? d=some inf/\sz=inf.size:=by
 unfold AS at h;split at h
 .rename_i m d k;obtain⟨inf,j,e⟩:=Option.map_eq_some_iff.1 h
  grind
 grind
def isConst:Operand->Bool
 |.const _=>true
 |_=>false
def n6(P:aE)(T:aC)(c:aa):Bool:=
 match P.underlying T,c with
 |some (.slice _),.slice none _ _=>true
 |some (.pointer _),.pointer none=>true
 |some (.map _ _),.map none=>true
 |_,_=>false
def m':Option aa->aa->Option Bool
 |some (.slice a _ _),.slice none _ _=>some a.isNone
 |some (.pointer a),.pointer none=>some a.isNone
 |some (.map r),.map none=>some r.isNone
 |_,_=>none
def vo(P:aE)(xs d:Array aa):List Field->Option Bool
 |[]=>some true
 |f::e=>bif f.name=="_" then none else match P.underlying f.type,xs[f.offset]?,d[f.offset]?,vo P xs d e with
  |some (.int _),some (.int h a),some (.int j b),some r=>bif decide (h=j)then some ((a==b)&&r)else none
  |some .string,some (.string a),some (.string b),some r=>some ((a.toList==b.toList)&&r)
  |some .bool,some (.bool a),some (.bool b),some r=>some ((a==b)&&r)
  |_,_,_,_=>none
def AN(P:aE)(T:aC)(xs e:Array aa):Option Bool:=match P.underlying T with
 |some (.struct d)=>bif (!P.stoodInHeld T&&!P.eqGuardType P.depth T)then vo P xs e d.toList else none
 |_=>none
def sD(P:aE)(o:Oper)(E:Env)(T:aC)(x y:Operand)(neg:Bool)(K:aa->List (J->Prop)->Prop):Prop:=match E.val x,E.val y with
 |some (.agg d),some (.agg e)=>match AN P T d e with
  |some b=>K (.bool (bif neg then !b else b)) []
  |none=>False
 |_,_=>fP P o E K
def Dx(P:aE)(e:aC):Bool:=match P.underlying e,P.info? e with
 |some .string,some i=>i.size==1
 |_,_=>false
def NC(P:aE)(e:aC):Bool:=match P.underlying e,P.info? e with
 |some (.int _),some i=>i.size==1
 |_,_=>false
def xH(P:aE)(o:Oper)(E:Env)(w:J)(K:aa->List (J->Prop)->Prop):Prop:=
 match o.op with
 |.load e d=>match E.val d with
  |some (.pointer (some p))=>mj P e p w K
  |_=>False
 |.nilCheck d=>match E.val d with
  |some (.pointer D)=>dM D λp=>K (.pointer (some p)) []
  |_=>fP P o E K
 |.indexAddr e d x=>match E.val d,E.val x with
  |some (.slice a n _),some (.int _ i)=>match xQ P e with
   |some z=>0<=i/\i<(n:Int)/\dM a λp=>K (.pointer (some (p.add (i.toNat *z)))) []
   |none=>False
  |some (.pointer (some p)),some (.int _ i)=>match AS P e with
   |some (n,z)=>0<=i/\i<(n:Int)/\K (.pointer (some (p.add (i.toNat *z)))) []
   |none=>False
  |_,_=>fP P o E K
 |.index e d x=>match P.underlying e,E.val d,E.val x with
  |some .string,some (.string s),some (.int _ i)=>0<=i/\∃b:UInt8,s[i.toNat]? =some b/\K (.int .u8 b.toNat) []
  |some (.array n B),some (.agg F),some (.int _ i)=>bif Dx P B then 0<=i/\i<((n:Nat):Int)/\∃a:ByteArray,F[i.toNat]? =some (.string a)/\K (.string a) []else cF (NC P B) (0<=i/\i<((n:Nat):Int)/\∃a:Int,F[i.toNat]? =some (.int .i64 a)/\K (.int .i64 a) [])
  |_,_,_=>fP P o E K
 |.slice e d lo q y=>cF (E.dQ o) (match P.underlying e,E.val d with
  |some (.slice _),some (.slice a n c)=>match xQ P e with
   |some z=>mT (y.map E.ev) c c λm=>mT (q.map E.ev) m n λk=>cF (y.isNone||q.isSome) (mT (lo.map E.ev) k 0 λl=>
     K (.slice (if m=l then a else a.map (·.add (l *z))) (k - l) (m - l)) [])
   |none=>False
  |some .string,some (.string s)=>cF y.isNone (mT (q.map E.ev) s.size s.size λk=>mT (lo.map E.ev) k 0 λl=>K (.string (s.extract l k)) [])
  |some (.array n B),some (.pointer (some p))=>match P.info? B with
   |some inf=>mT (y.map E.ev) n n λm=>mT (q.map E.ev) m n λk=>cF (y.isNone||q.isSome) (mT (lo.map E.ev) k 0 λl=>
     K (.slice (some (if m=l then p else p.add (l *inf.size))) (k - l) (m - l)) [])
   |none=>False
  |_,_=>False)
 |.binOp .quo _ d h _=>bif isConst h then fP P o E K else match E.val d,E.val h with
  |some (.int j a),some (.int C b)=>cF (j==C) (b≠0/\K (.int j (j.wrap (a.tdiv b))) [])
  |_,_=>False
 |.binOp .rem _ d h _=>bif isConst h then fP P o E K else match E.val d,E.val h with
  |some (.int j a),some (.int C b)=>cF (j==C) (b≠0/\K (.int j (a.tmod b)) [])
  |_,_=>False
 |.binOp .eql e d (.const c) _=>bif n6 P e c then(match m' (E.val d) c with
  |some b=>K (.bool b) []
  |none=>False)else sD P o E e d (.const c) false K
 |.binOp .neq e d (.const c) _=>bif n6 P e c then(match m' (E.val d) c with
  |some b=>K (.bool !b) []
  |none=>False)else sD P o E e d (.const c) true K
 |.binOp .eql e d h _=>sD P o E e d h false K
 |.binOp .neq e d h _=>match P.underlying e,E.val d,E.val h with
  |some (.pointer _),some (.pointer p),some (.pointer D)=>pk P (binOp .neq e (.pointer p) (.pointer D)) (.bool true) w K
  |_,_,_=>sD P o E e d h true K
 |.binOp .add _ d h _=>match E.val d,E.val h with
  |some (.string s),some (.string t)=>¬(((s.size+t.size:Nat):Int)>IntKind.i64.max)/\K (.string (s++t)) []
  |_,_=>fP P o E K
 |.binOp .shl _ d h _=>bif isConst h then fP P o E K else match E.val d,E.val h with
  |some (.int j a),some (.int _ b)=>¬b<0/\K (.int j (j.wrap (a *2^(min b.toNat j.bits)))) []
  |_,_=>False
 |.binOp .shr _ d h _=>bif isConst h then fP P o E K else match E.val d,E.val h with
  |some (.int j a),some (.int _ b)=>¬b<0/\K (.int j (a.fdiv (2^(min b.toNat j.bits)))) []
  |_,_=>False
 |.lookup e d x ok=>match E.val d,E.val x with
  |some m,some j=>pk P (Instr.lookup e m j ok) (zeroOf P o.type) w K
  |_,_=>False
 |.convert s A d=>match P.underlying s,P.underlying A,E.val d with
  |some (.slice _),some .string,some v=>pk P (convert s A v) (.string (bG #[])) w K
  |some (.pointer _),some .unsafePointer,some v=>pk P (convert s A v) (.pointer none) w K
  |some .unsafePointer,some (.pointer _),some v=>pk P (convert s A v) (.pointer none) w K
  |_,_,_=>fP P o E K
 |.call {callee:=.builtin .len,args,argTypes}=>match args.toList,argTypes.toList with
  |[d],[e]=>match P.underlying e,E.val d with
   |some (.map _ _),some m=>pk P (Builtin.len_ #[e] o.type #[m]) (.int .i64 0) w K
   |_,_=>fP P o E K
  |_,_=>fP P o E K
 |_=>fP P o E K
def I8(op:BinOp)(T:aC)(x y:Operand)(a b:aa):Sem aa:=do eqGuard op T x y a b;binOp op T a b
def Cl(P:aE)(o:Oper):Bool:=match o.op with
 |.binOp .eql d _ _ _|.binOp .neq d _ _ _=>match P.underlying d with
  |some (.interface _)=>true
  |_=>false
 |_=>false
def I9(P:aE)(o:Oper)(E:Env)(w:J)(K:aa->List (J->Prop)->Prop):Prop:=match o.op with
 |.binOp op h d e _=>match E.val d,E.val e with
  |some a,some b=>pk P (I8 op h d e a b) (.bool true) w K
  |_,_=>False
 |_=>False
def mU(P:aE)(o:Oper)(E:Env)(w:J)(K:aa->List (J->Prop)->Prop):Prop:=bif Cl P o then I9 P o E w K else xH P o E w K
def pA(p:Addr):List aa->Nat->J->(J->Prop)->Prop
 |[],_,d,e=>e d
 |v::h,i,d,e=>(d.cell? (p.add i)).isSome=true/\d.frozen? (p.add i)=false/\pA p h (i+1) (d.setCell (p.add i) v) e
def oV(P:aE)(o:Oper)(E:Env)(w:J)(K:aa->J->Prop):Prop:=
 cF (E.dQ o) (match(execOp E.ev o).run P w with
  |.ok (.value v) d=>K v d
  |.ok .skip d=>K undef d
  |_=>False)
def qp(P:aE)(s:Sem aa)(z:aa)(w:J)(K:aa->J->Prop):Prop:=
 m4 z λv=>∃d,s.run P w=.ok v d/\K v d
def HF(P:aE)(s:Sem Unit)(w:J)(K:aa->J->Prop):Prop:=
 ∃d,s.run P w=.ok () d/\K undef d
def g3(P:aE)(f:cB):Bool:=match P.funcs[f]? with |some fn=>fn.body.isSome&&!(fn.name=="runtime.NumGoroutine")|none=>false
def vr(P:aE)(f:cB)(args:Array aa)(z:aa)(w:J)(K:aa->J->Prop):Prop:=
 m4 z λv=>∃d,(callFunc f args).run P w=.ok (.value v) d/\K v d
def oS(P:aE)(f:cB)(args:Array aa)(z:aa)(w:J)(K:aa->J->Prop):Prop:=
 ai P f args w λd e=>m4 z λv=>d=ae v/\K v e
def qR:aa->Bool
 |.agg _=>false
 |.tuple _=>false
 |_=>true
def g5(P:aE)(o:Oper)(E:Env)(w:J)(K:aa->J->Prop):Prop:=
 match o.op with
 |.store d x y=>match E.val x,E.val y with
  |some (.pointer (some p)),some v=>cF (v.cells.size==(match P.info? d with |some i=>i.size|none=>0)&&v.cells.toList.all qR&&(P.info? d).isSome) (pA p v.cells.toList 0 w λw'=>K undef w')
  |_,_=>False
 |.mapUpdate d m e v|.insert d m e v=>match E.val m,E.val e,E.val v with
  |some m,some e,some v=>HF P (Instr.mapUpdate d m e v) w K
  |_,_,_=>False
 |.call {callee:=.builtin b,args,argTypes}=>cF (E.dQ o) (match b with
  |.append=>qp P (dY argTypes o.type (args.map E.ev)) (.slice none 0 0) w K
  |.copy=>qp P (Builtin.copy_ argTypes o.type (args.map E.ev)) (.int .i64 0) w K
  |.unsafeSliceData=>qp P (Builtin.unsafeSliceData_ argTypes o.type (args.map E.ev)) (.pointer none) w K
  |.unsafeString=>qp P (Builtin.unsafeString_ argTypes o.type (args.map E.ev)) (.string (bG #[])) w K
  |.delete=>∃w',(Builtin.delete_ argTypes o.type (args.map E.ev)).run P w=.ok undef w'/\K undef w'
  |.clear=>∃w',(Builtin.clear_ argTypes o.type (args.map E.ev)).run P w=.ok (.tuple #[]) w'/\K (.tuple #[]) w'
  |_=>False)
 |.call {callee:=.value (.func f),args,..}=>cF (E.dQ o) (bif g3 P f then oS P f (args.map E.ev) (zeroOf P o.type) w K else vr P f (args.map E.ev) (zeroOf P o.type) w K)
 |.call {callee:=.value (.tmp t),args,..}=>cF (E.dQ o) (match E.get? t with
  |some (.func (.func f) first captured)=>cF (g3 P f) (oS P f (first++args.map E.ev++captured) (zeroOf P o.type) w K)
  |_=>False)
 |.makeSlice d l c=>match E.val l,E.val c with
  |some l,some c=>qp P (Instr.makeSlice d l c) (.slice none 0 0) w K
  |_,_=>False
 |.range d x=>match E.val x with
  |some x=>∃v w',(Instr.range d x).run P w=.ok v w'/\K v w'
  |_=>False
 |.next it s=>match E.val it with
  |some it=>(∃w',(Instr.next it s o.type).run P w=.ok (.tuple #[.bool false]) w'/\K (.tuple #[.bool false]) w')\/
    (match s with
     |true=>∃(i c:Int) (w':J),(Instr.next it s o.type).run P w=.ok (.tuple #[.bool true,.int .i64 i,.int .i32 c]) w'/\K (.tuple #[.bool true,.int .i64 i,.int .i32 c]) w'
     |false=>∃(x y:aa) (w':J),(Instr.next it s o.type).run P w=.ok (.tuple #[.bool true,x,y]) w'/\K (.tuple #[.bool true,x,y]) w')
  |_=>False
 |.entry it=>match E.val it with
  |some it=>∃(x y:aa) (w':J),(Instr.entry it).run P w=.ok (.tuple #[x,y]) w'/\K (.tuple #[x,y]) w'
  |_=>False
 |.convert s h x=>match E.val x with
  |some v=>qp P (convert s h v) (.slice none 0 0) w K
  |_=>False
 |_=>oV P o E w K
def abx(P:aE)(l:Nat)(args:Array aa)(w:J)(K:aa->J->Prop):Prop:=
 YieldAt Fence.wide 0 P l args w λd e=>∃b:Bool,d=ae (.bool b)/\K (.bool b) e
def so(P:aE)(o:Oper)(E:Env)(w:J)(K:aa->J->Prop):Prop:=
 match o.op with
 |.call {callee:=.value (.tmp t),args,..}=>match E.get? t with
  |some (.func (.yield l) e d)=>cF (E.dQ o&&(bO e.size 0&&bO d.size 0)) (abx P l (args.map E.ev) w K)
  |_=>g5 P o E w K
 |_=>g5 P o E w K
abbrev aP(w:J)(p:Addr)(v:aa)(K:J->Prop):Prop:=(w.cell? p).isSome=true/\w.frozen? p=false/\K (w.setCell p v)
abbrev c9(w:J)(o:Obj)(K:J->Prop):Prop:=K (w.alloc o)
abbrev lL(w:J)(l:Nat)(a b:Obj)(K:J->Prop):Prop:=w.heap[l]? =some a/\K (w.putObj l b)
abbrev lr(w:J)(K:J->Prop):Prop:=K w.drew
def Jn{P:aE}{T:aC}{b:Bool}(h:qa P T=some b)(w:J):(isAgg T).run P w=.ok b w:=by
 unfold qa at h;unfold isAgg;cases d:P.underlying T with
 |none=>grind
 |some e=>rw[d]at h;cases e<;>simp[run_underlying d]at h ⊢<;>first |exact h|simp[<-h]
def wq{P:aE}{T:aC}{p:Addr}{v:aa}{w:J}(d:qa P T=some false)(e:w.cell? p=some v):(loadVar T p).run P w=.ok v w:=by simp[loadVar,Jn d,e]
def PH{P:aE}{T:aC}{p:Addr}{vs:List aa}{i:TypeInfo}{w:J}(e:qa P T=some true)(V:P.info? T=some i)(j:i.size=vs.length)(h:∀d v,vs[d]? =some v->w.cell? (p.add d)=some v):(loadVar T p).run P w=.ok (.agg vs.toArray) w:=by have:=run_loadCells_list (P:=P) w p vs h;simp[loadVar,Jn e,sizeOf,typeInfo,V,j,this]
def Calm(P:aE)(o:Oper)(ρ:Operand->aa)(w:J)(v:aa)(h:List (J->Prop)):Prop:=
 (∀d∈h,d w)/\∀e,(∀d∈h,d e)->(execOp ρ o).run P e=.ok (.value v) e
def Oh{P:aE}{o:Oper}{E:Env}{w:J}{n:Cx}{a:Act}{K:aa->List (J->Prop)->Prop}(x:∀e b,o.op≠.select e b)(k:Ag n a E)(h:fP P o E K):∃v d,K v d/\Calm P o a.eval w v d:=by
 obtain⟨q,h⟩:=dK h;split at h
 .rename_i v y;refine⟨v,[],h,λd j=>(by cases j),λz _=>?_⟩;rw[k.execOp x q];exact Og y z
 grind
def qW{P:aE}{s:Sem aa}{z:aa}{w:J}{K:aa->List (J->Prop)->Prop}{o:Oper}{ρ:Operand->aa}(k:execOp ρ o=(do pure (.value (<-s))))(h:pk P s z w K):∃v d,K v d/\Calm P o ρ w v d:=by
 obtain⟨v,A,j⟩:=Vr h;refine⟨v,_,j,λd y=>?_,λe x=>?_⟩
 .grind
 .have q:s.run P e=.ok v e:=x _ (bT.2 rfl);rw[k];simp[q]
def oR{P:aE}{x:Option aa}{y d:Nat}{K:Nat->Prop}(h:mT x y d K):∃l,K l/\((x=none/\l=d)\/∃v,x=some v/\∀code e,(Instr.sliceBound v y code).run P e=.ok l e):=by
 unfold mT at h;split at h
 .grind
 .rename_i w i;obtain⟨j,k,q⟩:=h;refine⟨_,q,.inr ⟨_,rfl,λcode e=>?_⟩⟩;simp[Instr.sliceBound,asIntOf,j,k]
 grind
def EG{P:aE}{k:Bool}{n c m h l:Nat}{L H M:Option aa}{w:J}(j:(M=none/\m=c)\/∃v,M=some v/\∀code w,(Instr.sliceBound v c code).run P w=.ok m w)(d:(H=none/\h=n)\/∃v,H=some v/\∀code w,(Instr.sliceBound v m code).run P w=.ok h w)(e:(L=none/\l=0)\/∃v,L=some v/\∀code w,(Instr.sliceBound v h code).run P w=.ok l w)(q:M≠none->H=none->False):(Instr.sliceBounds k n c L H M).run P w=.ok (l,h,m) w:=by unfold Instr.sliceBounds;rcases j with⟨rfl,rfl⟩|⟨A,rfl,x⟩<;>rcases d with⟨rfl,rfl⟩|⟨B,rfl,y⟩<;>rcases e with⟨rfl,rfl⟩|⟨C,rfl,z⟩<;>first |(simp[*];done)|grind
def Cz{P:aE}{T:aC}{p:Addr}{w:J}{K:aa->List (J->Prop)->Prop}(h:mj P T p w K):
  ∃v z,K v z/\(∀s∈z,s w)/\∀k,(∀s∈z,s k)->(loadVar T p).run P k=.ok v k:=by
 obtain⟨d,h⟩:=dK h;unfold xo at d;cases y:zeroOf P T with
 |agg G=>
  rw[y]at h d;simp only at h d;obtain⟨I,H,h⟩:=BU h;obtain⟨x,e⟩:=rW h;rw[bq]at d;obtain⟨B,C⟩:=d;cases D:P.info? T with
  |none=>grind
  |some i=>
   rw[D]at C;simp at C B;refine⟨_,_,e,?_,λk j=>?_⟩
   .intro s q;obtain⟨⟨v,A⟩,F,rfl⟩:=bZ.1 q;exact x _ (bZ.2 ⟨(v,A),F,rfl⟩)
   .refine PH B D (by grind) (λA v E=>?_);have:=j _ (bZ.2 ⟨(v,A),List.mem_zipIdx_iff_getElem?.2 E,rfl⟩);omega
 |nilIface=>
  rw[y]at h d;simp at d;rcases h with⟨t,L,x,e⟩|⟨x,e⟩
  .refine ⟨_,_,e,λs q=>?_,λk j=>?_⟩
   .grind
   .exact wq d (j _ (bT.2 rfl))
  .refine ⟨_,_,e,λs q=>?_,λk j=>?_⟩
   .grind
   .exact wq d (j _ (bT.2 rfl))
 |nilFunc=>
  rw[y]at h d;obtain⟨f,x,e⟩:=h;simp at d;refine⟨f.v,_,e,λs q=>?_,λk j=>?_⟩
  .grind
  .exact wq d (j _ (bT.2 rfl))
 |_=>
  rw[y]at h d;try simp only at h
  try simp only at d
  obtain⟨v,x,e⟩:=BT h;simp at d;refine⟨v,_,e,λs q=>?_,λk j=>?_⟩
  .simp at q;subst q;exact x
  .exact wq d (j _ (bT.2 rfl))
def HM{P:aE}{T:aC}{sz:Nat}(h:xQ P T=some sz):∃d i,P.underlying T=some (.slice d)/\P.info? d=some i/\i.size=sz:=by
 unfold xQ at h;split at h
 .rename_i d e;cases j:P.info? d with
  |none=>grind
  |some i=>grind
 grind
def yH{v c:aa}{b:Bool}(h:m' (some v) c=some b):(∃a n m e d,v=.slice a n m/\c=.slice none e d/\b=a.isNone)\/(∃a,v=.pointer a/\c=.pointer none/\b=a.isNone)\/(∃r,v=.map r/\c=.map none/\b=r.isNone):=by
 unfold m' at h
 grind
def Nl{P:aE}{T:aC}{c v:aa}{b:Bool}(d:n6 P T c=true)(j:m' (some v) c=some b)(w:J):(Op.equal T v c).run P w=.ok b w:=by
 unfold Op.equal Op.maxDepth Op.equalIn;cases e:P.underlying T with
 |none=>simp[n6,e]at d
 |some h=>
  simp only[Sem.run_bind,run_underlying e,Result.andThen_ok];unfold n6 at d;rw[e]at d;rcases yH j with⟨a,n,m,q,k,rfl,rfl,rfl⟩|⟨a,rfl,rfl,rfl⟩|⟨a,rfl,rfl,rfl⟩<;>cases h<;>first |(cases d;done)|(cases a<;>rfl)
def X0{P:aE}{T:aC}{c v:aa}{b:Bool}(e:n6 P T c=true)(d:m' (some v) c=some b)(w:J):(binOp .eql T v c).run P w=.ok (.bool b) w:=by have:=Nl e d w;rcases yH d with⟨a,n,m,j,h,rfl,rfl,rfl⟩|⟨a,rfl,rfl,rfl⟩|⟨a,rfl,rfl,rfl⟩<;>simp[binOp,this]
def X1{P:aE}{T:aC}{c v:aa}{b:Bool}(e:n6 P T c=true)(d:m' (some v) c=some b)(w:J):(binOp .neq T v c).run P w=.ok (.bool !b) w:=by have:=Nl e d w;rcases yH d with⟨a,n,m,j,h,rfl,rfl,rfl⟩|⟨a,rfl,rfl,rfl⟩|⟨a,rfl,rfl,rfl⟩<;>simp[binOp,this]
def Nm{P:aE}{op:BinOp}{T:aC}{c v:aa}{b:Bool}{p e:Operand}(d:m' (some v) c=some b)(w:J):(eqGuard op T p e v c).run P w=.ok () w:=by rcases yH d with⟨a,n,m,j,h,rfl,rfl,rfl⟩|⟨a,rfl,rfl,rfl⟩|⟨a,rfl,rfl,rfl⟩<;>cases op<;>rfl
set_option maxHeartbeats 1000000 in
def tA{P:aE}{t:aC}{u:TypeDesc}(h:P.underlying t=some u)(d:(match u with |.struct _|.array _ _=>true|_=>false)=false){xs:Array aa}{off:Nat}{v:aa}(e:xs[off]? =some v)(w:J):(part t xs off).run P w=.ok v w:=by unfold part isAgg;cases u<;>first |(simp at d;done)|simp[run_underlying h,e]
def xY{P:aE}{xs D:Array aa}(d:Nat)(w:J):∀(k:List Field) (b:Bool),vo P xs D k=some b->(Op.eqFields (d+1) xs D k).run P w=.ok b w
 |[],b,e=>by simp[vo]at e;subst e;rfl
 |f::k,b,e=>by
  unfold vo at e;cases F:(f.name=="_")with
  |true=>grind
  |false=>
   rw[F]at e;simp only[cond_false]at e;have G:f.name≠"_":=by grind
   unfold Op.eqFields;rw[aq G];split at e
   .rename_i I C a H j r h x y q;cases B:decide (C=H)with
    |false=>grind
    |true=>
     rw[B]at e;have E:=eH B;subst E;simp only[cond_true,eI]at e;subst e;have z:=xY d w k r q;simp only[Sem.run_bind,tA h rfl x w,tA h rfl y w,Result.andThen_ok,run_equalIn_int w d f.type C I a j h];cases A:(a==j)<;>simp[z]
   .rename_i a j r h x y q;simp only[eI]at e;subst e;have z:=xY d w k r q;simp only[Sem.run_bind,tA h rfl x w,tA h rfl y w,Result.andThen_ok,run_equalIn_string w d f.type a j h];cases A:(a.toList==j.toList)<;>simp[z]
   .rename_i a j r h x y q;simp only[eI]at e;subst e;have z:=xY d w k r q;simp only[Sem.run_bind,tA h rfl x w,tA h rfl y w,Result.andThen_ok,run_equalIn_bool w d f.type a j h];cases A:(a==j)<;>simp[z]
   grind
def SK{P:aE}{T:aC}{xs d:Array aa}{b:Bool}(h:AN P T xs d=some b)(w:J):P.eqGuardType P.depth T=false/\(Op.equalIn 10000 T (.agg xs) (.agg d)).run P w=.ok b w:=by
 unfold AN at h;split at h
 .rename_i j y;cases e:(!P.stoodInHeld T&&!P.eqGuardType P.depth T)with
  |false=>grind
  |true=>
   rw[e]at h;simp only[cond_true]at h;rw[bq]at e;have k:P.stoodInHeld T=false:=by grind
   have q:P.eqGuardType P.depth T=false:=by grind
   have x:P.fieldsOf T=j:=by unfold Program.fieldsOf;rw[y]
   refine⟨q,?_⟩;rw[run_equalIn_struct w 9999 T xs d (by grind) k,x];exact xY 9998 w _ _ h
 grind
def xZ{P:aE}{o:Oper}{E:Env}{w:J}{n:Cx}{a:Act}{K:aa->List (J->Prop)->Prop}{op:BinOp}{T B:aC}{x y:Operand}{neg:Bool}(L:∀C b,o.op≠.select C b)(k:Ag n a E)(I:o.op=.binOp op T x y B)(G:(op=.eql/\neg=false)\/(op=.neq/\neg=true))(h:sD P o E T x y neg K):∃v j,K v j/\Calm P o a.eval w v j:=by
 unfold sD at h;split at h
 .rename_i d e M N;split at h
  .rename_i b H;refine⟨_,_,h,λj F=>(by cases F),λq _=>?_⟩;obtain⟨z,A⟩:=SK H q;have D:execOp a.eval o=(do pure (.value (<-(do eqGuard op T x y (.agg d) (.agg e);binOp op T (.agg d) (.agg e))))):=by simp only[execOp,I,k.val M,k.val N]
   rw[D];rcases G with⟨rfl,rfl⟩|⟨rfl,rfl⟩
   .simp only[Sem.run_bind,run_eqGuard_agg q _ T x y d e z,Result.andThen_ok,run_eql_struct,A];rfl
   .simp only[Sem.run_bind,run_eqGuard_agg q _ T x y d e z,Result.andThen_ok,run_neq_struct,A];rfl
  grind
 .exact Oh L k h
def UK{P:aE}{o:Oper}{E:Env}{w:J}{n:Cx}{a:Act}{K:aa->List (J->Prop)->Prop}(hs:∀cs b,o.op≠.select cs b)(j:Ag n a E)(h:xH P o E w K):∃v y,K v y/\Calm P o a.eval w v y:=by
 have pure':fP P o E K->∃v y,K v y/\Calm P o a.eval w v y:=Oh hs j;unfold xH at h;split at h
 .
  rename_i z A e;split at h
  .rename_i p d;obtain⟨v,y,q,G,h2⟩:=Cz h;refine⟨v,y,q,G,λx au=>?_⟩;simp[execOp,e,Instr.loadAt,j.val d,Instr.sureAddr,h2 x au]
  grind
 .
  rename_i A e;split at h
  .rename_i av d;obtain⟨p,rfl,q⟩:=yS h;refine⟨_,_,q,λy k=>(by cases k),λx _=>?_⟩;simp[execOp,e,j.val d]
  grind
 .
  rename_i z A ix e;split at h
  .rename_i b n c N i d C;split at h
   .rename_i sz ac;obtain⟨I,G,h⟩:=h;obtain⟨p,rfl,q⟩:=yS h;obtain⟨Q,inf,F,L,rfl⟩:=HM ac;refine⟨_,_,q,λy k=>(by cases k),λx _=>?_⟩;simp[execOp,e,j.val d,j.val C,Instr.indexAt,asIntOf,run_underlying F,I,G,sizeOf,typeInfo,L]
   grind
  .rename_i p N i d C;split at h
   .rename_i n sz ac;obtain⟨I,G,q⟩:=h;obtain⟨Q,inf,F,L,rfl⟩:=SR ac;refine⟨_,_,q,λy k=>(by cases k),λx _=>?_⟩;simp[execOp,e,j.val d,j.val C,Instr.indexAt,Instr.sureAddr,asIntOf,run_underlying F,I,G,sizeOf,typeInfo,L]
   grind
  grind
 .
  rename_i z A ix e;split at h
  .rename_i s N i F d C;obtain⟨I,b,D,q⟩:=h;refine⟨_,_,q,λy k=>(by cases k),λx _=>?_⟩;simp[execOp,e,j.val d,j.val C,Instr.index,asIntOf,run_underlying F,I,D]
  .rename_i n Q cs N i F d C;cases hz:Dx P Q with
   |true=>
    rw[hz]at h;obtain⟨I,M,b,D,q⟩:=h;unfold Dx at hz;split at hz
    .rename_i inf ah L;have G:inf.size=1:=by grind
     refine⟨_,_,q,λy k=>(by cases k),λx _=>?_⟩;simp[execOp,e,j.val d,j.val C,Instr.index,asIntOf,run_underlying F,I,M,sizeOf,typeInfo,L,G,part,isAgg,run_underlying ah,D]
    grind
   |false=>
   rw[hz]at h;obtain⟨G,I,M,b,D,q⟩:=dK h;unfold NC at G;split at G
   .rename_i B inf ah L;have G:inf.size=1:=by grind
    refine⟨_,_,q,λy k=>(by cases k),λx _=>?_⟩;simp[execOp,e,j.val d,j.val C,Instr.index,asIntOf,run_underlying F,I,M,sizeOf,typeInfo,L,G,part,isAgg,run_underlying ah,D]
   grind
  grind
 .
  rename_i z A lo C S e;obtain⟨an,h⟩:=dK h;have ad:∀B∈o.op.operands,(E.val B).isSome=true:=λB H=>ft.1 an B (by grind);have ag:lo.map a.eval=lo.map E.ev:=by
   cases lo with
   |none=>rfl
   |some B=>simp only[Option.map_some];rw[j.ev (ad B (by rw[e];simp[Op.operands]))]
  have ae:C.map a.eval=C.map E.ev:=by
   cases C with
   |none=>rfl
   |some B=>simp only[Option.map_some];rw[j.ev (ad B (by rw[e];simp[Op.operands]))]
  have ak:S.map a.eval=S.map E.ev:=by
   cases S with
   |none=>rfl
   |some B=>simp only[Option.map_some];rw[j.ev (ad B (by rw[e];simp[Op.operands]))]
  split at h
  .rename_i Q b n c F d;split at h
   .rename_i sz ac;obtain⟨m,h,hm⟩:=oR (P:=P) h;obtain⟨W,h,Z⟩:=oR (P:=P) h;obtain⟨ap,h⟩:=dK h;obtain⟨l,q,hl⟩:=oR (P:=P) h;obtain⟨e',inf,am,L,rfl⟩:=HM ac;rw[am]at F;cases F;refine⟨_,_,q,λy k=>(by cases k),λx _=>?_⟩;have ab:(Instr.sliceBounds true n c (lo.map E.ev) (C.map E.ev) (S.map E.ev)).run P x=.ok (l,W,m) x:=by refine EG hm Z hl ?_;intro G h2;cases S<;>cases C<;>simp_all
    simp only[execOp,e,j.val d,ag,ae,ak];simp[Instr.sliceAt,run_underlying am,Instr.slice,ab,sizeOf,typeInfo,L]
   grind
  .rename_i s F d;obtain⟨aq,h'⟩:=dK h;clear h;have ar:S=none:=by simpa using aq
   subst ar;obtain⟨W,h,Z⟩:=oR (P:=P) h';obtain⟨l,q,hl⟩:=oR (P:=P) h;refine⟨_,_,q,λy k=>(by cases k),λx _=>?_⟩;have ab:(Instr.sliceBounds false s.size s.size (lo.map E.ev) (C.map E.ev) none).run P x=.ok (l,W,s.size) x:=by exact EG (.inl ⟨rfl,rfl⟩) Z hl (λG _=>absurd rfl G)
   simp only[execOp,e,j.val d,ag,ae];simp[Instr.sliceAt,run_underlying F,Instr.slice,ab]
  .rename_i n Q p F d;split at h
   .rename_i inf L;obtain⟨m,h,hm⟩:=oR (P:=P) h;obtain⟨W,h,Z⟩:=oR (P:=P) h;obtain⟨ap,h⟩:=dK h;obtain⟨l,q,hl⟩:=oR (P:=P) h;refine⟨_,_,q,λy k=>(by cases k),λx _=>?_⟩;have ab:(Instr.sliceBounds false n n (lo.map E.ev) (C.map E.ev) (S.map E.ev)).run P x=.ok (l,W,m) x:=by refine EG hm Z hl ?_;intro G h2;cases S<;>cases C<;>simp_all
    simp only[execOp,e,j.val d,ag,ae,ak];simp[Instr.sliceAt,Instr.sureAddr,run_underlying F,ab,sizeOf,typeInfo,L]
   grind
  grind
 .
  rename_i z A B O e;cases U:isConst B with
  |true=>grind
  |false=>
   rw[U]at h;simp only[cond_false]at h;split at h
   .rename_i N i k' ai d H;obtain⟨ao,V,q⟩:=dK h;have af:N=k':=by grind
    subst af;refine⟨_,_,q,λy k=>(by cases k),λx _=>?_⟩;simp[execOp,e,j.val d,j.val H,eqGuard,binOp,Op.intDiv,V]
   grind
 .
  rename_i z A B O e;cases U:isConst B with
  |true=>grind
  |false=>
   rw[U]at h;simp only[cond_false]at h;split at h
   .rename_i N i k' ai d H;obtain⟨ao,V,q⟩:=dK h;have af:N=k':=by grind
    subst af;refine⟨_,_,q,λy k=>(by cases k),λx _=>?_⟩;simp[execOp,e,j.val d,j.val H,eqGuard,binOp,Op.intDiv,V]
   grind
 .
  rename_i z A c O e;cases M:n6 P z c with
  |false=>rw[M]at h;exact xZ hs j e (.inl ⟨rfl,rfl⟩) h
  |true=>
   rw[M]at h;simp only[cond_true]at h;split at h
   .rename_i b D;refine⟨_,_,h,λy k=>(by cases k),λx _=>?_⟩;cases d:E.val A with
    |none=>rw[d]at D;simp[m']at D
    |some v=>
     rw[d]at D;have T:execOp a.eval o=(do pure (.value (<-(do eqGuard .eql z A (.const c) v c;binOp .eql z v c)))):=by simp only[execOp,e,j.val d];rfl
     rw[T];simp[Nm D x,X0 M D x]
   grind
 .
  rename_i z A c O e;cases M:n6 P z c with
  |false=>rw[M]at h;exact xZ hs j e (.inr ⟨rfl,rfl⟩) h
  |true=>
   rw[M]at h;simp only[cond_true]at h;split at h
   .rename_i b D;refine⟨_,_,h,λy k=>(by cases k),λx _=>?_⟩;cases d:E.val A with
    |none=>rw[d]at D;simp[m']at D
    |some v=>
     rw[d]at D;have T:execOp a.eval o=(do pure (.value (<-(do eqGuard .neq z A (.const c) v c;binOp .neq z v c)))):=by simp only[execOp,e,j.val d];rfl
     rw[T];simp[Nm D x,X1 M D x]
   grind
 .
  rename_i z A B O _ e;exact xZ hs j e (.inl ⟨rfl,rfl⟩) h
 .rename_i z A B O _ e;split at h
  .rename_i p av F d H;refine qW ?_ h;simp only[execOp,e,j.val d,j.val H];rfl
  .exact xZ hs j e (.inr ⟨rfl,rfl⟩) h
 .
  rename_i z A B O e;split at h
  .rename_i s t d H;obtain⟨I,q⟩:=h;refine⟨_,_,q,λy k=>(by cases k),λx _=>?_⟩;have T:execOp a.eval o=(do pure (.value (<-(do eqGuard .add z A B (.string s) (.string t);binOp .add z (.string s) (.string t))))):=by simp only[execOp,e,j.val d,j.val H]
   rw[T];simp only[eqGuard,binOp,Op.stringOp,I];rfl
  grind
 .
  rename_i z A B O e;cases U:isConst B with
  |true=>grind
  |false=>
   rw[U]at h;simp only[cond_false]at h;split at h
   .rename_i N i k' ai d H;obtain⟨V,q⟩:=h;refine⟨_,_,q,λy k=>(by cases k),λx _=>?_⟩;simp[execOp,e,j.val d,j.val H,eqGuard,binOp,Op.shift,V]
   grind
 .
  rename_i z A B O e;cases U:isConst B with
  |true=>grind
  |false=>
   rw[U]at h;simp only[cond_false]at h;split at h
   .rename_i N i k' ai d H;obtain⟨V,q⟩:=h;refine⟨_,_,q,λy k=>(by cases k),λx _=>?_⟩;simp[execOp,e,j.val d,j.val H,eqGuard,binOp,Op.shift,V]
   grind
 .
  rename_i z A ix ok e;split at h
  .rename_i m N d C;exact qW (by simp[execOp,e,j.val d,j.val C]) h
  grind
 .
  rename_i s ax A e;split at h
  .rename_i Q v al aj d;exact qW (by simp[execOp,e,j.val d]) h
  .rename_i Q v al aj d;exact qW (by simp[execOp,e,j.val d]) h
  .rename_i Q v al aj d;exact qW (by simp[execOp,e,j.val d]) h
  grind
 .
  rename_i args aw e;split at h
  .rename_i A z d hT;split at h
   .rename_i kt et m F hm;refine qW ?_ h;have T:args=#[A]:=by grind
    have e2:aw=#[z]:=by grind
    simp[execOp,e,T,e2,resolve,invoke,builtin,j.val hm]
   grind
  grind
 grind
def xI{P:aE}{o:Oper}{E:Env}{w:J}{n:Cx}{a:Act}{K:aa->List (J->Prop)->Prop}(x:∀k b,o.op≠.select k b)(d:Ag n a E)(h:mU P o E w K):∃v e,K v e/\Calm P o a.eval w v e:=by
 unfold mU at h;cases j:Cl P o with
 |false=>rw[j]at h;exact UK x d h
 |true=>
  rw[j]at h;simp only[cond_true]at h;unfold I9 at h;split at h
  .rename_i op A C D B q;split at h
   .rename_i u v y z;refine qW ?_ h;simp only[execOp,q,d.val y,d.val z];rfl
   grind
  grind
def Qp{P:aE}{p:Addr}:∀{vs:List aa} {i:Nat} {w:J} {K:J->Prop},vs.all qR=true->pA p vs i w K->
  ∃e,(storeCells p vs i).run P w=.ok () e/\K e
 |[],i,w,K,_,d=>⟨w,by simp[storeCells],d⟩
 |v::vs,i,w,K,h,d=>by
  obtain⟨k,q,d⟩:=d;rw[List.all_cons,bq]at h;obtain⟨e,y,x⟩:=Qp (P:=P) h.2 d;refine⟨e,?_,x⟩;obtain⟨u,A⟩:=Option.isSome_iff_exists.1 k;have z:(store (p.add i) v).run P w=.ok () (w.setCell (p.add i) v):=by have j:=h.1;cases v<;>first |(simp[qR]at j;done)|simp[store,Sem.run,A,q]
  simp[storeCells,z,y]
def uO{P:aE}{f:cB}(h:g3 P f=true)(args:Array aa)(w:J):(callFunc f args).run P w=.ok (.enter f args) w:=by
 unfold g3 at h;cases d:P.funcs[f]? with
 |none=>grind
 |some fn=>
  rw[d]at h;simp at h;obtain⟨k,e⟩:=h;have j:fn.body≠none:=by grind
  simp[callFunc,d,e,j]
def Ag.args{n:Cx}{a:Act}{E:Env}(h:Ag n a E){args:Array Operand}(e:∀d∈args,(E.val d).isSome=true):args.map a.eval=args.map E.ev:=
 Array.map_congr_left λd j=>h.ev (e d j)
def iz(P:aE)(o:Oper)(a:Act)(w:J)(K:aa->J->Prop):Prop:=
 ∀d:Exit->Act->J->Prop,o.wp P a w (λe h=>∃v,e=a.put o.dst v/\K v h) d
def G'{P:aE}{f:cB}{args:Array aa}{z:aa}{w:J}{K:aa->J->Prop}{o:Oper}{a:Act}(e:(execOp a.eval o).run P w=.ok (.enter f args) w)(h:oS P f args z w K):iz P o a w K:=by
 intro j;unfold Oper.wp;rw[e];simp only[Oper.upon];refine Calls.mono h λk x d=>?_;obtain⟨v,rfl,q⟩:=qv d
 grind
def sh{P:aE}{s:Sem aa}{z:aa}{w:J}{K:aa->J->Prop}{o:Oper}{a:Act}(e:execOp a.eval o=(do pure (.value (<-s))))(h:qp P s z w K):iz P o a w K:=by
 intro j;obtain⟨v,q,d,k⟩:=qv h;unfold Oper.wp;rw[e];simp only[Sem.run_bind,d,Result.andThen_ok,Sem.run_pure,Oper.upon]
 grind
set_option maxHeartbeats 1000000 in
def mW{P:aE}{o:Oper}{E:Env}{w:J}{n:Cx}{a:Act}{K:aa->J->Prop}(hs:∀O b,o.op≠.select O b)(e:Ag n a E)(h:g5 P o E w K):iz P o a w K:=by
 unfold g5 at h;split at h
 .
  rename_i F z N d;split at h
  .rename_i p v q hy;obtain⟨I,h⟩:=dK h;rw[bq,bq]at I;obtain⟨⟨S,U⟩,V⟩:=I;obtain⟨i,C⟩:=Option.isSome_iff_exists.1 V;rw[C]at S;have T:v.cells.size=i.size:=by grind
   obtain⟨w',j,y⟩:=Qp (P:=P) U h;intro A;unfold Oper.wp;have:(execOp a.eval o).run P w=.ok .skip w':=by simp[execOp,d,Instr.storeAt,e.val q,e.val hy,Instr.sureAddr,storeVar,sizeOf,typeInfo,C,T,j]
   rw[this];simp only[Oper.upon]
   grind
  grind
 .
  rename_i F m ab v d;split at h
  .rename_i mv kv vv G y H;obtain⟨w',j,Q⟩:=h;intro A;unfold Oper.wp;have:(execOp a.eval o).run P w=.ok .skip w':=by simp[execOp,d,e.val G,e.val y,e.val H,j]
   rw[this];simp only[Oper.upon]
   grind
  grind
 .
  rename_i F m ab v d;split at h
  .rename_i mv kv vv G y H;obtain⟨w',j,Q⟩:=h;intro A;unfold Oper.wp;have:(execOp a.eval o).run P w=.ok .skip w':=by simp[execOp,d,e.val G,e.val y,e.val H,j]
   rw[this];simp only[Oper.upon]
   grind
  grind
 .
  rename_i b args M d;obtain⟨B,h⟩:=dK h;have k:args.map a.eval=args.map E.ev:=e.args λz q=>ft.1 B z (by rw[d];simp[Op.operands,Call.operands,q]);split at h
  .exact sh (by simp[execOp,d,resolve,invoke,builtin,k]) h
  .exact sh (by simp[execOp,d,resolve,invoke,builtin,k]) h
  .exact sh (by simp[execOp,d,resolve,invoke,builtin,k]) h
  .exact sh (by simp[execOp,d,resolve,invoke,builtin,k]) h
  .obtain ⟨w',j,y⟩:=h;intro A;unfold Oper.wp;have:(execOp a.eval o).run P w=.ok (.value undef) w':=by simp[execOp,d,resolve,invoke,builtin,k,j]
   rw[this];simp only[Oper.upon]
   grind
  .obtain ⟨w',j,y⟩:=h;intro A;unfold Oper.wp;have:(execOp a.eval o).run P w=.ok (.value (.tuple #[])) w':=by simp[execOp,d,resolve,invoke,builtin,k,j]
   rw[this];simp only[Oper.upon]
   grind
  grind
 .
  rename_i f args M d;obtain⟨B,h⟩:=dK h;have k:args.map a.eval=args.map E.ev:=e.args λz q=>ft.1 B z (by rw[d];simp[Op.operands,Call.operands,q]);cases D:g3 P f with
  |true=>
   rw[D]at h;refine G' ?_ h;simp[execOp,d,resolve,Act.eval,Deferred.ofValue,invoke,k,uO D]
  |false=>
   rw[D,cond_false]at h;unfold vr at h;obtain⟨v,w',j,y⟩:=qv h;intro A;unfold Oper.wp;have:(execOp a.eval o).run P w=.ok (.value v) w':=by simp[execOp,d,resolve,Act.eval,Deferred.ofValue,invoke,k,j]
   rw[this];simp only[Oper.upon]
   grind
 .
  rename_i t args M d;obtain⟨B,h⟩:=dK h;have k:args.map a.eval=args.map E.ev:=e.args λz q=>ft.1 B z (by rw[d];simp[Op.operands,Call.operands,q]);split at h
  .rename_i f first captured W
   obtain⟨D,h⟩:=dK h;have Z:a.eval (.tmp t)=.func (.func f) first captured:=e.val (x:=.tmp t) W
   refine G' ?_ h;simp[execOp,d,resolve,Z,Deferred.ofValue,invoke,k,uO D]
  grind
 .
  rename_i F l c d;split at h
  .rename_i lv cv hl B;exact sh (by simp[execOp,d,e.val hl,e.val B]) h
  grind
 .
  rename_i F z d;split at h
  .rename_i xv q;obtain⟨v,w',j,y⟩:=h;intro A;unfold Oper.wp;have:(execOp a.eval o).run P w=.ok (.value v) w':=by simp[execOp,d,e.val q,j]
   rw[this];simp only[Oper.upon]
   grind
  grind
 .
  rename_i it s d;split at h
  .rename_i L C;have fin:∀(v:aa) (w':J),(Instr.next L s o.type).run P w=.ok v w'->K v w'->iz P o a w K:=λv w' j y A=>by
    unfold Oper.wp;have:(execOp a.eval o).run P w=.ok (.value v) w':=by simp[execOp,d,e.val C,j]
    rw[this];simp only[Oper.upon]
    grind
   grind
  grind
 .
  rename_i it d;split at h
  .rename_i L C;obtain⟨z,N,w',j,y⟩:=h;intro A;unfold Oper.wp;have:(execOp a.eval o).run P w=.ok (.value (.tuple #[z,N])) w':=by simp[execOp,d,e.val C,j]
   rw[this];simp only[Oper.upon]
   grind
  grind
 .
  rename_i s ac z d;split at h
  .rename_i v q;exact sh (by simp[execOp,d,e.val q]) h
  grind
 .
  obtain⟨B,h⟩:=dK h;intro A;unfold Oper.wp;rw[e.execOp hs B];generalize(execOp E.ev o).run P w=r at h;split at h
  .simp only[Oper.upon];grind
  .simp only[Oper.upon];grind
  grind
def wZ(P:aE)(n:Cx)(o:Oper)(a:Act)(w:J)(K:aa->J->Prop):Prop:=
 ∀d:Exit->Act->J->Prop,o.wpIn (FW n) 0 P a w (λe h=>∃v,e=a.put o.dst v/\K v h) d
def Ha{n:Cx}{P:aE}{f:cB}{args:Array aa}{w:J}{R:ch->J->Prop}(h:ai P f args w R):CallsIn (FW n) 0 P f args w R:=by
 have d:CallsIn Fence.wide 0 P f args w R:=callsIn_wide.2 h;obtain⟨n,j,e⟩:=n;cases e with
 |none=>exact d
 |some l=>exact d
def ZG{n:Cx}{P:aE}{row:String}{args:Array aa}{w:J}{R:aa->J->Prop}(h:Rows P row args w R):RowsIn (FW n) 0 P row args w R:=by
 intro c d _;obtain⟨v,q,e,j⟩:=h c d;refine⟨v,q,e,?_⟩;have:=stepsIn_wide.2 j;obtain⟨n,x,k⟩:=n;cases k with
 |none=>exact this
 |some l=>exact this
def Zx{n:Cx}{P:aE}{l:Nat}{f:cB}{tmps:Array aa}{assign body:Code}{w:J}{R:ch->J->Prop}(h:RoundIn Fence.wide 0 P l f tmps assign body w R):RoundIn (FW n) 0 P l f tmps assign body w R:=by
 obtain⟨n,e,d⟩:=n;cases d with
 |none=>exact h
 |some l=>exact h
def RY{P:aE}{n:Cx}{o:Oper}{a:Act}{w:J}{K:Act->J->Prop}{Q:Exit->Act->J->Prop}(d:∀c,o.op≠.defer c)(h:o.wp P a w K Q):o.wpIn (FW n) 0 P a w K Q:=by
 refine⟨λ_ _=>trivial,?_⟩;rw[Oper.semAt_eq _ _ _ d];unfold Oper.wp at h;generalize(execOp a.eval o).run P w=r at *;cases r with
 |ok nx e=>
  cases nx<;>simp only[Oper.upon,Oper.uponIn]at h ⊢
  case value=>exact h
  case skip=>exact h
  case defer=>exact h
  case enter f args=>exact⟨λh=>(by cases h),Ha h⟩
  case row row args=>exact⟨λh=>(by cases h),ZG h⟩
 |halt j e=>
  cases j<;>simp only[Oper.upon,Oper.uponIn]at h ⊢;exact h
def iz.in{P:aE}{n:Cx}{o:Oper}{a:Act}{w:J}{K:aa->J->Prop}(e:∀c,o.op≠.defer c)(h:iz P o a w K):wZ P n o a w K:=λd=>RY e (h d)
def HJ{P:aE}{o:Oper}{E:Env}{w:J}{n:Cx}{a:Act}{K:aa->J->Prop}(y:∀e b,o.op≠.select e b)(j:∀c,o.op≠.defer c)(d:Ag n a E)(h:so P o E w K):wZ P n o a w K:=by
 unfold so at h;split at h
 .rename_i t args T q;split at h
  .rename_i l B e I;obtain⟨k,O⟩:=dK h;clear h;simp only[bq,ep]at k;obtain⟨H,C,D⟩:=k;have z:B=#[]:=Array.eq_empty_of_size_eq_zero C;have A:e=#[]:=Array.eq_empty_of_size_eq_zero D;subst z A;have G:args.map a.eval=args.map E.ev:=d.args λQ M=>ft.1 H Q (by rw[q];simp[Op.operands,Call.operands,M]);have L:a.eval (.tmp t)=.func (.yield l) #[] #[]:=d.val (x:=.tmp t) I;intro S;obtain⟨fn,tmps,assign,body,N,F⟩:=O;refine⟨λ_ _=>trivial,?_⟩;rw[Oper.semAt_eq _ _ _ j];have:(execOp a.eval o).run P w=.ok (.round l fn tmps assign body) w:=by simp[execOp,q,resolve,L,Deferred.ofValue,invoke,G,N]
   rw[this,Oper.uponIn_round];refine⟨λh=>(by cases h),Zx (F.mono ?_)⟩
   grind
  .exact (mW y d h).in j
 .exact (mW y d h).in j
def vW(ops:Array Oper)(i j:Nat):Bool:=match ops[j]? with |some o=>o.after.toList.any λd=>bO d.on i&&Region.binds .any d|none=>false
def yU(ops:Array Oper):Nat->Nat->Nat->Bool
 |0,i,d=>vW ops i d
 |f+1,i,d=>bif vW ops i d then true else match ops[d]? with |some o=>o.after.toList.any λe=>bif Region.binds .any e then yU ops f i e.on else false|none=>false
def ja(ops:Array Oper)(i j:Nat):Bool:=yU ops 4 i j
def Down(ops:Array Oper)(e:Array Bool):Prop:=∀(k:Nat) (o:Oper),ops[k]? =some o->e.getD k false=true->∀d∈o.after,Region.binds .any d=true->e.getD d.on false=true
def Down.zero(ops:Array Oper)(n:Nat):Down ops (g' n false):=λh o _ e=>by
 exfalso;by_cases d:h<n
 .simp [d]at e
 grind
def Down.set{ops:Array Oper}{e:Array Bool}(z:Down ops e){i:Nat}(V:i∈eG .any ops e):Down ops (e.setIfInBounds i true):=λx o d q h k j=>by
 obtain⟨_,B,A,y⟩:=mem_ready.1 V;by_cases w:i=x
 .subst w;rw[A]at d;cases d;exact getD_set_true (y h k j)
 .rw [getD_set_ne false w]at q;exact getD_set_true (z x o d q h k j)
def NK{ops:Array Oper}{k:Array Bool}{i j:Nat}(w:∀o,ops[j]? =some o->∀d∈o.after,Region.binds .any d=true->k.getD d.on false=true)(h:vW ops i j=true):k.getD i false=true:=by
 unfold vW at h;cases q:ops[j]? with
 |none=>grind
 |some o=>
  rw[q]at h;obtain⟨d,x,e⟩:=List.any_eq_true.1 h;rw[bq]at e;have y:d.on=i:=by have:=e.1;rwa[ep]at this
  grind
def NL{ops:Array Oper}{k:Array Bool}(w:Down ops k){i:Nat}:∀(f j:Nat),(∀o,ops[j]? =some o->∀d∈o.after,Region.binds .any d=true->k.getD d.on false=true)->yU ops f i j=true->k.getD i false=true
 |0,j,h,e=>NK h e
 |f+1,j,h,e=>by
  unfold yU at e;cases x:vW ops i j with
  |true=>exact NK h x
  |false=>
   rw[x]at e;cases z:ops[j]? with
   |none=>grind
   |some o=>
    rw[z]at e;obtain⟨d,G,y⟩:=List.any_eq_true.1 e;cases q:Region.binds .any d with
    |false=>grind
    |true=>
     rw[q]at y;have D:=h o z d (by grind) q;exact NL w f d.on (λF E A C B=>w d.on F E D A C B) y
abbrev eu:=List (Nat×(J->Prop))
def heldBy(ops:Array Oper)(j:Nat)(w:J):eu->List Prop
 |[]=>[]
 |(i,e)::d=>bif ja ops i j then heldBy ops j w d else e w::heldBy ops j w d
def da(ops:Array Oper)(j:Nat):eu->eu
 |[]=>[]
 |(i,e)::d=>bif ja ops i j then da ops j d else(i,e)::da ops j d
def Ci{ops:Array Oper}{j:Nat}{w:J}:∀{H:eu} {p:Nat×(J->Prop)},p∈H->ja ops p.1 j=false->p.2 w∈heldBy ops j w H
 |(i,h)::H,p,d,e=>by
  unfold heldBy;rcases au.1 d with rfl|d
  .grind
  .have:=Ci (H:=H) (w:=w) d e
   grind
def fo{ops:Array Oper}{j:Nat}:∀{H:eu} {p:Nat×(J->Prop)},p∈da ops j H↔p∈H/\ja ops p.1 j=false
 |[],p=>by simp[da]
 |(i,d)::H,p=>by
  unfold da;cases e:ja ops i j with
  |true=>
   simp only[cond_true];rw[fo]
   grind
  |false=>
   simp only[cond_false,au];rw[fo]
   grind
section
variable {P:aE} {ops:Array Oper} {Q:Exit->Act->J->Prop}
def eo(P:aE)(ops:Array Oper)(Q:Exit->Act->J->Prop):Nat->eu->Array Bool->Act->J->Prop
 |0,_,d,a,e=>Down ops d->eG .any ops d=[]/\Q .normal a e
 |fuel+1,h,d,a,e=>Down ops d->
  (eG .any ops d=[]->Q .normal a e)/\
  ∀i∈eG .any ops d,wpOp P ops Q i (λk j=>(∀p∈da ops i h,p.2 j)/\eo P ops Q fuel (da ops i h) (d.setIfInBounds i true) k j) a e
def zZ:∀(fuel:Nat) (H:eu) (h:Array Bool) (a:Act) (w:J),Down ops h->eo P ops Q fuel H h a w->wpAny P .any ops Q fuel h a w
 |0,_,_,_,_,d,e=>e d
 |fuel+1,_,_,_,_,d,e=>⟨(e d).1,λi j=>wpOp_mono (λk x q=>zZ fuel _ _ k x (d.set j) q.2) ((e d).2 i j)⟩
def FD:∀(fuel:Nat) (H d:eu) (j:Array Bool) (a:Act) (w:J),(∀p∈d,p∈H)->eo P ops Q fuel H j a w->eo P ops Q fuel d j a w
 |0,_,_,_,_,_,_,e=>e
 |fuel+1,H,d,j,a,w,A,e=>λq=>⟨(e q).1,λi z=>wpOp_mono (λy B k=>by have x:∀p∈da ops i d,p∈da ops i H:=λp h=>fo.2 ⟨A p (fo.1 h).1,(fo.1 h).2⟩;exact⟨λp h=>k.1 p (x p h),FD fuel _ _ _ y B x k.2⟩) ((e q).2 i z)⟩
def Yb{i j:Nat}{d:Array Bool}(e:Down ops d)(V:d.getD i true=false)(h:j∈eG .any ops d):ja ops i j=false:=by
 obtain⟨_,B,A,w⟩:=mem_ready.1 h;cases k:ja ops i j with
 |false=>rfl
 |true=>
  have this:=NL e 4 j (λo z q y x=>by grind) k
  grind
def FC{i:Nat}{x:Oper}{v:aa}{Ss:List (J->Prop)}(V:ops[i]? =some x)(U:∀(j:Nat) (o:Oper) B b,ops[j]? =some o->o.op≠.select B b)(hQ:∀c a w,Q (.panic c) (a.put x.dst v) w->Q (.panic c) a w):
  ∀(fuel:Nat) (H:eu) (q:Array Bool) (a:Act) (w:J),
   (∀j y,ops[j]? =some y->j≠i->q.getD j true=false->(∀h∈y.after,Region.binds .any h=true->h.on≠i)->x.apart ops y=true)->
   i∈eG .any ops q->YieldsIf P ops (λw=>∀e∈Ss,e w) x v a->(∀e∈Ss,e w)->(∀p∈H,p.2 w)->
   eo P ops Q fuel (Ss.map (λe=>(i,e))++H) (q.setIfInBounds i true) (a.put x.dst v) w->eo P ops Q (fuel+1) H q a w:=by
 intro fuel;induction fuel with
 |zero=>
  intro H q a w _ D F I G A E;refine⟨λZ=>(by grind),λj C=>?_⟩;by_cases k:j=i
  .subst k;exact F.wpOp V I ⟨λp d=>G p (fo.1 d).1,A⟩
  .have:=ready_mono C k;rw[(A (E.set D)).1]at this
   grind
 |succ fuel ih=>
  intro H q a w O D F I G A E;refine⟨λZ=>(by grind),λj C=>?_⟩;by_cases k:j=i
  .subst k;refine F.wpOp V I ⟨λp d=>G p (fo.1 d).1,?_⟩;exact FD _ _ _ _ _ _ (λp d=>dV _ (fo.1 d).1) A
  .have h1:=(A (E.set D)).2 j (ready_mono C k);obtain⟨ae,y,K,al⟩:=mem_ready.1 C;have h0:=(mem_ready.1 D).1;have ah:∀h∈y.after,Region.binds .any h=true->h.on≠i:=λh he hb am=>by grind
   have T:ja ops i j=false:=Yb E h0 C;have h2:=wpOp_putIf K (O j y K k ae ah) (λB b=>U i x B b V) (λB b=>U j y B b K) hQ F h1;have ac:∀z ok,ops[z]? =some ok->z≠i->(q.setIfInBounds j true).getD z true=false->
     (∀h∈ok.after,Region.binds .any h=true->h.on≠i)->x.apart ops ok=true:=λz ok hk af aj ag=>by
    refine O z ok hk af ?_ ag;by_cases ad:j=z
    .grind
    .rw [getD_set_ne true ad]at aj;omega
   refine wpOp_mono (λW L h3=>?_) h2;obtain⟨ak,S,ai⟩:=h3;have M:∀p∈da ops j H,p.2 L:=λp d=>S p (fo.2 ⟨dV _ (fo.1 d).1,(fo.1 d).2⟩);have ab:∀e∈Ss,e L:=λe N=>S (i,e) (fo.2 ⟨List.mem_append_left _ (bZ.2 ⟨e,N,rfl⟩),T⟩);refine⟨M,ih (da ops j H) (q.setIfInBounds j true) W L ac (ready_mono D (Ne.symm k)) ak ab M ?_⟩;rw[Array.setIfInBounds_comm _ _ k];refine FD _ _ _ _ _ _ (λp d=>?_) ai;rcases aY.1 d with d|d
   .obtain ⟨e,N,rfl⟩:=bZ.1 d;exact fo.2 ⟨List.mem_append_left _ d,T⟩
   .exact fo.2 ⟨dV _ (fo.1 d).1,(fo.1 d).2⟩
end
def jx(ops:Array Oper)(j:Nat):Option Nat:=(ops[j]?).bind (·.dst)
def oq(P:aE)(ops:Array Oper)(draw:Bool)(i:Nat)(o:Oper)(E:Env)(w:J)(H:eu)(K:Env->J->eu->Prop):Prop:=
 bif calm P o then mU P o E w λv h=>K (E.put o.dst v) w (bif draw then h.map (λe=>(i,e))++H else H)
 else(bif draw then g5 else so) P o E w λv d=>rV (heldBy ops i d H) (K (E.put o.dst v) d (da ops i H))
def ly(P:aE)(ops:Array Oper)(draw:Bool)(i:Nat)(o:Oper)(d:Nat)(want t:Bool)(E:Env)(w:J)(H:eu)(K:Env->J->eu->Prop):Prop:=
 bif (t==want)then oq P ops draw i o ((d,.bool t)::E) w H K else K (Env.put ((d,.bool t)::E) o.dst undef) w (bif calm P o then H else da ops i H)
def gV(P:aE)(ops:Array Oper)(draw:Bool)(K:Env->J->Prop):List Nat->Env->J->eu->Prop
 |[],d,e,_=>K d e
 |i::l,d,e,j=>
  match ops[i]? with
  |none=>False
  |some o=>match o.guard with
   |none=>oq P ops draw i o d e j λh q k=>gV P ops draw K l h q k
   |some (x,want)=>match jx ops x with
    |none=>False
    |some w=>match d.get? w with
     |some (.bool t)=>bh t (ly P ops draw i o w want true d e j λh q k=>gV P ops draw K l h q k) (ly P ops draw i o w want false d e j λh q k=>gV P ops draw K l h q k)
     |some (.tuple _)=>gV P ops draw K l (Env.put d o.dst undef) e (bif calm P o then j else da ops i j)
     |_=>False
def qQ(P:aE)(ops:Array Oper):List Nat->Array Bool->Bool
 |[],d=>(eG .any ops d).isEmpty
 |i::l,d=>(match ops[i]? with
   |some o=>bif calm P o then Region.free .any ops d i&&(eG .any ops d).contains i else eG .any ops d==[i]
   |none=>false)&&qQ P ops l (d.setIfInBounds i true)
def No(o:Oper):Bool:=match o.op with |.defer _=>false|_=>true
def dR(n:Nat)(ops:Array Oper):Bool:=Region.noSelect ops&&ops.toList.all λo=>No o&&match o.dst with |some d=>Nat.blt d n|none=>true
def gH{n:Nat}{ops:Array Oper}(h:dR n ops=true){i:Nat}{o:Oper}(e:ops[i]? =some o):∀t,o.dst=some t->t<n:=by intro t d;unfold dR at h;rw[bq]at h;have:=ft.1 h.2 o (by grind);rw[d,bq]at this;simpa using this.2
def sZ{n:Nat}{ops:Array Oper}(h:dR n ops=true){i:Nat}{o:Oper}(e:ops[i]? =some o):∀c,o.op≠.defer c:=by
 intro c d;unfold dR at h;rw[bq]at h;have:=ft.1 h.2 o (by grind);rw[bq]at this;have:=this.1;unfold No at this
 grind
def hc(n:Cx)(K:Env->J->Prop):Exit->Act->J->Prop
 |.normal,a,e=>∃d,Ag n a d/\K d e
 |_,_,_=>False
def rn{n:Cx}{a:Act}{E:Env}(h:Ag n a E){ops:Array Oper}{j d:Nat}{t:Bool}(e:jx ops j=some d)(k:E.get? d=some (.bool t)):yielded ops a.tmps j=some t:=by unfold yielded;unfold jx at e;rw[e];simp[h.get _ _ k]
def rp{n:Cx}{a:Act}{E:Env}(h:Ag n a E){ops:Array Oper}{j d:Nat}{vs:Array aa}(e:jx ops j=some d)(k:E.get? d=some (.tuple vs)):yielded ops a.tmps j=none:=by unfold yielded;unfold jx at e;rw[e];simp[h.get _ _ k]
def Ag.same{n:Cx}{a:Act}{E:Env}(e:Ag n a E){d:Nat}{v:aa}(h:E.get? d=some v):Ag n a ((d,v)::E):=e.cons h e
section
variable {P:aE} {ops:Array Oper} {n:Cx} {K:Env->J->Prop}
def wV{i:Nat}{o:Oper}{a:Act}{w:J}{Kv:aa->J->Prop}{K':Act->J->Prop}{Q:Exit->Act->J->Prop}(e:ops[i]? =some o)(j:db o (yielded ops a.tmps)=true)(h:iz P o a w Kv)(q:∀v d,Kv v d->K' (a.put o.dst v) d):wpOp P ops Q i K' a w:=by unfold wpOp;simp only[e,j,if_true];exact .inl (Oper.wp_mono (λk d=>by grind) (h Q))
def zx{i:Nat}{o:Oper}{a:Act}{E:Env}{w:J}{H:eu}{Kh:Env->J->eu->Prop}{e:Array Bool}{fuel:Nat}{Q:Exit->Act->J->Prop}(z:dR n ops=true)(d:ops[i]? =some o)(k:(bif calm P o then Region.free .any ops e i&&(eG .any ops e).contains i else eG .any ops e==[i])=true)(hQ:∀c a w,Q (.panic c) a w=False)(q:Ag n a E)(S:∀p∈H,p.2 w)(K:db o (yielded ops a.tmps)=true)(h:oq P ops true i o E w H Kh)(next:∀C B j x,Ag n C B->(∀p∈x,p.2 j)->Kh B j x->eo P ops Q fuel x (e.setIfInBounds i true) C j):eo P ops Q (fuel+1) H e a w:=by
 have A:=Region.noSelect_spec (ops:=ops) (by unfold dR at z;grind);unfold oq at h;cases F:calm P o with
 |true=>
  rw[F]at h k;simp only[cond_true]at h k;rw[bq]at k;obtain⟨v,M,T,V,W⟩:=xI (λy b=>A i o y b d) q h;refine FC (v:=v) (Ss:=M) d A (by grind) fuel H e a w (Region.free_spec d k.1) (by grind) (.inl ⟨K,λj aa=>W j aa⟩) V S ?_;refine next _ _ _ _ (q.put v (gH z d)) ?_ T
  grind
 |false=>
  rw[F]at h k;simp only[cond_false,cond_true]at h k;have U:eG .any ops e=[i]:=by grind
  refine λ_=>⟨λh0=>(by grind),λL G=>?_⟩;rw[U]at G;obtain rfl:=bT.1 G;refine wV d K (mW (λy b=>A L o y b d) q h) λv j Z=>?_;obtain⟨N,O⟩:=rW Z;have D:∀p∈da ops L H,p.2 j:=λp I=>N _ (Ci (fo.1 I).1 (fo.1 I).2);exact⟨D,next _ _ _ _ (q.put v (gH z d)) D O⟩
def wy{i:Nat}{o:Oper}{a:Act}{w:J}{H:eu}{d:Array Bool}{fuel:Nat}{Q:Exit->Act->J->Prop}(z:dR n ops=true)(h:ops[i]? =some o)(e:(bif calm P o then Region.free .any ops d i&&(eG .any ops d).contains i else eG .any ops d==[i])=true)(F:∀c a w,Q (.panic c) a w=False)(j:∀p∈H,p.2 w)(x:db o (yielded ops a.tmps)=false)(next:eo P ops Q fuel (bif calm P o then H else da ops i H) (d.setIfInBounds i true) (a.put o.dst undef) w):eo P ops Q (fuel+1) H d a w:=by
 have C:=Region.noSelect_spec (ops:=ops) (by unfold dR at z;grind);cases k:calm P o with
 |true=>
  rw[k]at e next
  simp only[cond_true]at e next
  rw[bq]at e;exact FC (v:=undef) (Ss:=[]) h C (by grind) fuel H d a w (Region.free_spec h e.1) (by grind) (.inr ⟨x,rfl⟩) (λD y=>(by cases y)) j (by grind)
 |false=>
  rw[k]at e next
  simp only[cond_false]at e next
  have B:eG .any ops d=[i]:=by grind
  refine λ_=>⟨λE=>(by grind),λG q=>?_⟩;rw[B]at q;obtain rfl:=bT.1 q;unfold wpOp;simp only[h,x];exact⟨λp A=>j p (fo.1 A).1,next⟩
def PJ(k:dR n ops=true):∀(l:List Nat) (F:Array Bool) (E:Env) (w:J) (H:eu) (a:Act),qQ P ops l F=true->Ag n a E->(∀p∈H,p.2 w)->
  gV P ops true K l E w H->eo P ops (hc n K) l.length H F a w
 |[],F,E,w,H,a,e,h,_,d=>λ_=>⟨by simpa[qQ]using e,E,h,d⟩
 |i::l,F,E,w,H,a,e,h,z,d=>by
  unfold qQ at e;rw[bq]at e;obtain⟨e,U⟩:=e;unfold gV at d;cases q:ops[i]? with
  |none=>grind
  |some o=>
   rw[q]at d e;simp only at d e;have next:∀G y x j,Ag n G y->(∀p∈j,p.2 x)->gV P ops true K l y x j->eo P ops (hc n K) l.length j (F.setIfInBounds i true) G x:=
    λG y x j Q S T=>PJ k l _ y x j G U Q S T
   cases A:o.guard with
   |none=>
    rw[A]at d;simp only at d;exact zx k q e (λ_ _ _=>rfl) h z (by simp[db,A]) d next
   |some W=>
    obtain⟨V,want⟩:=W;rw[A]at d;simp only at d;cases M:jx ops V with
    |none=>grind
    |some O=>
     rw[M]at d;simp only at d;split at d
     .rename_i t D;have I:=rn h M D;have B:ly P ops true i o O want t E w H λy x j=>gV P ops true K l y x j:=by
       cases t
       .exact d
       .exact d
      unfold ly at B;cases N:(t==want)with
      |true=>
       rw[N]at B;exact zx k q e (λ_ _ _=>rfl) (h.same D) z (by simp[db,A,I];grind) B next
      |false=>
       rw[N]at B;simp only[cond_false]at B;refine wy k q e (λ_ _ _=>rfl) z (by simp[db,A,I];grind) ?_;refine next _ _ _ _ ((h.same D).put undef (gH k q)) ?_ B
       intro p C;cases L:calm P o
       .rw [L]at C;exact z p (fo.1 C).1
       grind
     .rename_i Z D;have I:=rp h M D;refine wy k q e (λ_ _ _=>rfl) z (by simp[db,A,I]) ?_;refine next _ _ _ _ (h.put undef (gH k q)) ?_ d
      intro p C;cases L:calm P o
      .rw [L]at C;exact z p (fo.1 C).1
      grind
     grind
def z0{i:Nat}{o:Oper}{a:Act}{w:J}{Kv:aa->J->Prop}{K':Act->J->Prop}{Q:Exit->Act->J->Prop}(e:ops[i]? =some o)(j:db o (yielded ops a.tmps)=true)(h:wZ P n o a w Kv)(q:∀v d,Kv v d->K' (a.put o.dst v) d):wpOpIn (FW n) 0 P ops Q i K' a w:=by unfold wpOpIn;simp only[e,j,if_true];exact Oper.wpIn_mono (λk d=>by grind) (h Q)
def Qy{i:Nat}{o:Oper}{a:Act}{E:Env}{w:J}{Kh:Env->J->eu->Prop}{rest:List Nat}{Q:Exit->Act->J->Prop}(j:dR n ops=true)(d:ops[i]? =some o)(k:Ag n a E)(B:db o (yielded ops a.tmps)=true)(h:oq P ops false i o E w [] Kh)(next:∀y x e,Ag n y x->Kh x e []->wpOpsIn (FW n) 0 P ops Q rest y e):wpOpsIn (FW n) 0 P ops Q (i::rest) a w:=by
 have A:=Region.noSelect_spec (ops:=ops) (by unfold dR at j;grind);rw[wpOpsIn_cons];unfold oq at h;cases z:calm P o with
 |true=>
  rw[z]at h;simp only[cond_true,cond_false]at h;obtain⟨v,K,D,F,G⟩:=xI (λq b=>A i o q b d) k h;refine z0 (Kv:=λC e=>C=v/\e=w) d B ?_ ?_
  .refine iz.in (sZ j d) λI=>?_;unfold Oper.wp;rw[G w F];exact⟨v,rfl,rfl,rfl⟩
  .rintro C e ⟨rfl,rfl⟩;exact next _ _ _ (k.put _ (gH j d)) D
 |false=>
  rw[z]at h;simp only[cond_false,heldBy,rV,da]at h;exact z0 d B (HJ (λq b=>A i o q b d) (sZ j d) k h) λv e H=>next _ _ _ (k.put v (gH j d)) H
def PK(z:dR n ops=true):∀(l:List Nat) (E:Env) (w:J) (a:Act),Ag n a E->gV P ops false K l E w []->wpOpsIn (FW n) 0 P ops (hc n K) l a w
 |[],E,w,a,j,d=>⟨E,j,d⟩
 |i::l,E,w,a,j,d=>by
  unfold gV at d;cases q:ops[i]? with
  |none=>grind
  |some o=>
   rw[q]at d;simp only at d;have next:∀B e h,Ag n B e->gV P ops false K l e h []->wpOpsIn (FW n) 0 P ops (hc n K) l B h:=λB e h L M=>PK z l e h B L M
   cases x:o.guard with
   |none=>
    rw[x]at d;simp only at d;exact Qy (Kh:=λe h y=>gV P ops false K l e h y) z q j (by simp[db,x]) d next
   |some O=>
    obtain⟨N,want⟩:=O;rw[x]at d;simp only at d;cases F:jx ops N with
    |none=>grind
    |some I=>
     rw[F]at d;simp only at d;split at d
     .rename_i t A;have C:=rn j F A;have k:ly P ops false i o I want t E w [] λe h y=>gV P ops false K l e h y:=by
       cases t
       .exact d
       .exact d
      unfold ly at k;cases H:(t==want)with
      |true=>
       rw[H]at k;exact Qy (Kh:=λe h y=>gV P ops false K l e h y) z q (j.same A) (by simp[db,x,C];grind) k next
      |false=>
       rw[H]at k;simp only[cond_false]at k;have D:(bif calm P o then([]:eu)else da ops i [])=[]:=by cases calm P o<;>rfl
       rw[D]at k;rw[wpOpsIn_cons];unfold wpOpIn;have G:db o (yielded ops a.tmps)=false:=by simp[db,x,C];grind
       simp only[q,G];exact⟨λ_ _=>trivial,next _ _ _ ((j.same A).put undef (gH z q)) k⟩
     .rename_i Q A;have C:=rp j F A;have D:(bif calm P o then([]:eu)else da ops i [])=[]:=by cases calm P o<;>rfl
      rw[D]at d;rw[wpOpsIn_cons];unfold wpOpIn;have G:db o (yielded ops a.tmps)=false:=by simp[db,x,C]
      simp only[q,G];exact⟨λ_ _=>trivial,next _ _ _ (j.put undef (gH z q)) d⟩
     grind
def abr{c:Code}{id:Nat}{a:Act}{E:Env}{w:J}(e:c=.region id ops false)(j:dR n ops=true)(d:Ag n a E)(h:gV P ops false K (List.range ops.size) E w []):c.wpIn (FW n) 0 P (hc n K) a w:=by subst e;exact wpIn_region (PK j _ E w a d h)
def rk(e:dR n ops=true){Q:Exit->Act->J->Prop}(h:¬LetsOut Q):∀(l:List Nat) (a:Act) (w:J),wpOps P ops Q l a w->wpOpsIn (FW n) 0 P ops Q l a w
 |[],a,w,d=>d
 |i::l,a,w,d=>by
  rw[wpOps_cons]at d;rw[wpOpsIn_cons];unfold wpOp at d;unfold wpOpIn;cases j:ops[i]? with
  |none=>rw[j]at d;exact rk e h l a w d
  |some o=>
   rw[j]at d;simp only at d ⊢;split
   .rename_i k;rw[aq k]at d;rcases d with d|d
    .exact Oper.wpIn_mono (λq y x=>rk e h l q y x) (RY (sZ e j) d)
    grind
   .rename_i k;rw[af k]at d;exact⟨λ_ _=>trivial,rk e h l _ w d⟩
def abq{c:Code}{id:Nat}{a:Act}{E:Env}{w:J}{l:List Nat}(y:P.follows .mixedOrders=true)(q:c=.region id ops true)(e:dR n ops=true)(x:qQ P ops l (g' ops.size false)=true)(A:l.length=ops.size)(k:Ag n a E)(h:gV P ops true K l E w.drew []):c.wpIn (FW n) 0 P (hc n K) a w:=by subst q;have d:=PJ e l _ E _ [] a x k (λp z=>(by cases z)) h;rw[A]at d;have j:=zZ _ [] _ _ _ (Down.zero _ _) d;refine wpIn_region_draw λt=>?_;refine rk e (λ⟨_,_,h⟩=>h) _ _ _ ?_;simp only[Region.schedule,y,Bool.true_or,if_true];exact wpAny_sound ops.size t _ a _ j
end
section
variable {P:aE} {n:Cx}
def Code.ops:Code->Array Oper
 |.region _ ops _=>ops
 |_=>#[]
def Code.fst:Code->Code
 |.seq a _=>a
 |.cond _ a _=>a
 |.block _ a=>a
 |.loop a=>a
 |.scope a=>a
 |c=>c
def Code.snd:Code->Code
 |.seq _ b=>b
 |.cond _ _ b=>b
 |c=>c
def Code.SW:Code->Code
 |.rangeFunc _ _ a _=>a
 |c=>c
def Code.Tl:Code->Code
 |.rangeFunc _ _ _ b=>b
 |c=>c
abbrev fx(P:aE)(n:Cx)(c:Code)(Q:Exit->Act->J->Prop)(a:Act)(w:J):Prop:=c.wpIn (FW n) 0 P Q a w
def WP(P:aE)(n:Cx)(c:Code)(Q:Exit->Act->J->Prop)(E:Env)(w:J):Prop:=∀a,Ag n a E->fx P n c Q a w
def WP.region{c:Code}{Q:Exit->Act->J->Prop}{E:Env}{w:J}{ops:Array Oper}{id:Nat}(K:Env->J->Prop)(y:c=.region id ops false)(z:dR n ops=true)(h:gV P ops false K (List.range ops.size) E w [])(A:∀d j e,Ag n e d->K d j->Q .normal e j):WP P n c Q E w:=λa x=>
 wpIn_mono (abr y z x h) λq e j k=>by
  cases q with
  |normal=>obtain⟨d,hA,hK⟩:=k;grind
  |_=>exact k.elim
def WP.Zp{c:Code}{Q:Exit->Act->J->Prop}{E:Env}{w:J}{ops:Array Oper}{id:Nat}{l:List Nat}(K:Env->J->Prop)(A:P.follows .mixedOrders=true)(y:c=.region id ops true)(B:dR n ops=true)(z:qQ P ops l (g' ops.size false)=true)(C:l.length=ops.size)(h:gV P ops true K l E w.drew [])(D:∀d j e,Ag n e d->K d j->Q .normal e j):WP P n c Q E w:=λa x=>
 wpIn_mono (abq A y B z C x h) λq e j k=>by
  cases q with
  |normal=>obtain⟨d,hA,hK⟩:=k;grind
  |_=>exact k.elim
def qX(n:Nat)(c:Code):Bool:=match c with |.region _ ops d=>!d&&dR n ops|_=>false
def zc(P:aE)(n:Nat)(c:Code)(l:List Nat):Bool:=match c with
 |.region _ ops d=>d&&(P.follows .mixedOrders&&(dR n ops&&(qQ P ops l (g' ops.size false)&&bO l.length ops.size)))
 |_=>false
def WP.pn{c:Code}{Q:Exit->Act->J->Prop}{E:Env}{w:J}(K:Env->J->Prop)(d:qX n c=true)(h:gV P (Code.ops c) false K (List.range (Code.ops c).size) E w [])(z:∀e k j,Ag n j e->K e k->Q .normal j k):WP P n c Q E w:=by
 unfold qX at d;split at d
 .rename_i id ops q;rw[bq]at d;obtain⟨A,x⟩:=d;have y:q=false:=by grind
  subst y;exact WP.region K rfl x h z
 grind
def WP.draw{c:Code}{Q:Exit->Act->J->Prop}{E:Env}{w:J}(l:List Nat)(K:Env->J->Prop)(d:zc P n c l=true)(h:gV P (Code.ops c) true K l E w.drew [])(A:∀e q j,Ag n j e->K e q->Q .normal j q):WP P n c Q E w:=by
 unfold zc at d;split at d
 .rename_i id ops B;simp only[bq]at d;obtain⟨rfl,x,y,z,k⟩:=d;rw[ep]at k;exact WP.Zp K x rfl y z k h A
 grind
def WP.at{c:Code}{Q:Exit->Act->J->Prop}{E:Env}{w:J}{a:Act}(h:WP P n c Q E w)(d:Ag n a E):fx P n c Q a w:=h a d
def WP.seq{c x y:Code}{Q:Exit->Act->J->Prop}{E:Env}{w:J}(e:c=.seq x y)(h:WP P n x (Exit.then (fx P n y Q) Q) E w):WP P n c Q E w:=λa d=>by subst e;exact wpIn_seq (h a d)
def WP.cond{c x y:Code}{o:Operand}{Q:Exit->Act->J->Prop}{E:Env}{w:J}{t:Bool}(j:c=.cond o x y)(k:E.val o=some (.bool t))(h:bh t (WP P n x Q E w) (WP P n y Q E w)):WP P n c Q E w:=λa d=>by
 subst j;refine wpIn_cond_split (d.val k) (λe=>?_) (λe=>?_)
 .subst e;exact h a d
 .subst e;exact h a d
def gB(v:Option aa)(A B:Prop):Prop:=match v with |some (.bool t)=>bh t A B|_=>False
def WP.gB{c x y:Code}{o:Operand}{Q:Exit->Act->J->Prop}{E:Env}{w:J}{A B:Prop}(j:c=.cond o x y)(d:A->WP P n x Q E w)(e:B->WP P n y Q E w)(h:gB (E.val o) A B):WP P n c Q E w:=by
 unfold W.gB at h;split at h
 .rename_i t k;refine WP.cond j k ?_;cases t
  .exact e h
  .exact d h
 grind
def WP.block{c x:Code}{id:Nat}{Q:Exit->Act->J->Prop}{E:Env}{w:J}(e:c=.block id x)(h:WP P n x (Exit.inBlock id Q) E w):WP P n c Q E w:=λa d=>by subst e;exact wpIn_block (h a d)
def WP.skip{c:Code}{Q:Exit->Act->J->Prop}{E:Env}{w:J}(e:c=.skip)(h:∀a,Ag n a E->Q .normal a w):WP P n c Q E w:=λa d=>by subst e;exact wpIn_skip (h a d)
def WP.exit{c:Code}{id:Nat}{Q:Exit->Act->J->Prop}{E:Env}{w:J}(e:c=.exit id)(h:∀a,Ag n a E->Q (.exit id) a w):WP P n c Q E w:=λa d=>by subst e;exact wpIn_exit (h a d)
def WP.ret{c:Code}{Q:Exit->Act->J->Prop}{E:Env}{w:J}(e:c=.ret)(h:∀a,Ag n a E->Q .ret a w):WP P n c Q E w:=λa d=>by subst e;exact wpIn_ret (h a d)
def l1(P:aE)(n:Cx)(c:Code)(Q:Exit->Act->J->Prop)(a:Act)(w:J):Prop:=
 ∀(b:Frame) (k:List Item) (cs:List Frame),b.roundOf=n.ro->∃e d h,Q e d h/\ArrivesIn (Machine.fenced P (FW n)) P (lone (b.atR a (.code c::.inLoop c::k)) cs w) b k cs e d h
def Zw(n:Cx)(m:Nat):(FW n).room m:=room_wide m
def RZ{c:Code}{Q:Exit->Act->J->Prop}{a:Act}{w:J}(h:l1 P n c Q a w):fx P n (Code.loop c) Q a w:=λb A e z q y=>by obtain⟨j,d,B,x,k⟩:=h b A e z;exact⟨j,d,B,x,.of_steps (.one (fenced_calm q y rfl) stepR_loop) k⟩
def J0{c:Code}{Q:Exit->Act->J->Prop}{a:Act}{w:J}(h:fx P n c (Exit.then (l1 P n c Q) Q) a w):l1 P n c Q a w:=by
 intro b A j z;have q:(FW n).fn b.fn:=trivial;have y:(FW n).room (j.length+1+0):=Zw n _;obtain⟨k,a₁,w₁,e,d⟩:=h b (.inLoop c::A) j z q y;cases k with
 |normal=>
  obtain⟨k₂,a₂,w₂,e₂,d₂⟩:=e b A j z;exact⟨k₂,a₂,w₂,e₂,.of_steps (StepsIn.trans d (.one (fenced_calm q y rfl) stepR_inLoop)) d₂⟩
 |exit id=>exact⟨_,a₁,w₁,e,.pass (x:=.inLoop c) rfl (λ_ _=>.inl (by simp)) d⟩
 |goto l=>exact⟨_,a₁,w₁,e,.pass (x:=.inLoop c) rfl (λ_ _=>.inl (by simp)) d⟩
 |ret=>exact⟨_,a₁,w₁,e,.pass (x:=.inLoop c) rfl (λ_ _=>.inl (by simp)) d⟩
 |panic B=>exact⟨_,a₁,w₁,e,.pass (x:=.inLoop c) rfl (λ_ _=>.inl (by simp)) d⟩
 |outgrown=>exact⟨_,a₁,w₁,e,.pass (x:=.inLoop c) rfl (λ_ _=>.inl (by simp)) d⟩
def LP(P:aE)(n:Cx)(c:Code)(Q:Exit->Act->J->Prop)(E:Env)(w:J):Prop:=∀a,Ag n a E->l1 P n c Q a w
def WP.loop{c x:Code}{Q:Exit->Act->J->Prop}{E:Env}{w:J}(e:c=.loop x)(h:LP P n x Q E w):WP P n c Q E w:=λa d=>by subst e;exact RZ (h a d)
def LP.step{c:Code}{Q:Exit->Act->J->Prop}{E:Env}{w:J}(h:WP P n c (Exit.then (l1 P n c Q) Q) E w):LP P n c Q E w:=λa d=>J0 (h a d)
def DP:List aa->aa
 |[v]=>v
 |d=>.tuple d.toArray
def qZ(P:aE)(E:Env)(w:J):List ResultVar->(List aa->Prop)->Prop
 |[],d=>d []
 |.tmp t::l,d=>match E.get? t with
  |some v=>qZ P E w l λe=>d (v::e)
  |none=>False
 |.cell j h::l,d=>match E.get? j with
  |some (.pointer (some p))=>mj P h p w λv _=>qZ P E w l λe=>d (v::e)
  |_=>False
def kV(P:aE)(fn:Func)(E:Env)(w:J)(K:aa->Prop):Prop:=qZ P E w fn.results.toList λd=>K (DP d)
def pq(tmps:Array aa):ResultVar->Sem aa
 |.tmp t=>pure (tmps.getD t undef)
 |.cell a t=>do loadVar t (<-asAddr (tmps.getD a undef))
def Pr(fn:Func)(tmps:Array aa):results fn tmps=(do let d <-fn.results.mapM (pq tmps);pure (if h:d.size=1 then d[0]else .tuple d)):=by unfold results;congr 1
def El{a:Act}{E:Env}(h:Ag n a E)(w:J):∀{l:List ResultVar} {K:List aa->Prop},qZ P E w l K->
  ∃e,(l.mapM (pq a.tmps)).run P w=.ok e w/\K e
 |[],K,d=>⟨[],by simp,d⟩
 |.tmp t::l,K,d=>by
  unfold qZ at d;split at d
  .rename_i v A;obtain⟨e,q,k⟩:=El h w d;refine⟨v::e,?_,k⟩;have j:=h.get t v A;simp[List.mapM_cons,pq,q,j]
  grind
 |.cell B D::l,K,d=>by
  unfold qZ at d;split at d
  .rename_i p x;obtain⟨v,C,d,y,z⟩:=Cz d;obtain⟨e,q,k⟩:=El h w d;refine⟨v::e,?_,k⟩;have j:=h.get B _ x;simp[List.mapM_cons,pq,q,j,asAddr,z w y]
  grind
def Eo{fn:Func}{a:Act}{E:Env}{w:J}{R:ch->J->Prop}(e:Ag n a E)(h:kV P fn E w λv=>R (ae v) w):
  ∃v,(results fn a.tmps).run P w=.ok v w/\R (ae v) w:=by
 obtain⟨d,k,j⟩:=El e w h;refine⟨_,?_,j⟩;rw[Pr,<-Array.toArray_toList (xs:=fn.results),List.mapM_toArray];simp only[Sem.run_bind,Sem.run_map,k,Result.andThen_ok,Sem.run_pure];congr 1;cases d with
 |nil=>rfl
 |cons v d=>cases d<;>rfl
def wh{m:Nat}{fn:Func}{a:Act}{E:Env}{w:J}{R:ch->J->Prop}(d:Ag (cx m) a E)(h:kV P fn E w λv=>R (ae v) w):
  a.defers=[]/\∃v,(results fn a.tmps).run P w=.ok v w/\R (ae v) w:=⟨d.defers,Eo d h⟩
def UF{f:cB}{fn:Func}{c:Code}{args:Array aa}{w:J}{R:ch->J->Prop}{E:Env}(e:P.funcs[f]? =some fn)(d:fn.body=some c)(k:args.size<=fn.ntmps)(j:∀t v,E.get? t=some v->args[t]? =some v)(h:WP P (cx fn.ntmps) c (bodyPost P fn R) E w):ai P f args w R:=by
 refine calls_of_wp e d (wpIn_wide.1 (h _ ⟨rfl,by grind,?_⟩))
 grind
def j0:Nat->List aa->Env
 |_,[]=>[]
 |i,v::l=>(i,v)::j0 (i+1) l
def BR:∀(l:List aa) (i t:Nat) (v:aa),(j0 i l).get? t=some v->i<=t/\l[t - i]? =some v
 |[],_,_,_,d=>by simp[j0,Env.get?]at d
 |u::l,i,t,v,d=>by
  simp only[j0,Env.get?]at d;by_cases e:i=t
  .subst e;simp at d;grind
  .have h:bO i t=false:=by rw[<-iR,ep];exact e
   simp only[h,cond_false]at d;obtain⟨j,k⟩:=BR l (i+1) t v d
   grind
def uQ{f:cB}{fn:Func}{c:Code}{args:List aa}{w:J}{R:ch->J->Prop}(e:P.funcs[f]? =some fn)(d:fn.body=some c)(j:Nat.ble args.length fn.ntmps=true)(h:WP P (cx fn.ntmps) c (bodyPost P fn R) (j0 0 args) w):ai P f args.toArray w R:=
 UF e d (by simpa using Nat.le_of_ble_eq_true j) (λt v k=>by
  have:=(BR args 0 t v k).2
  grind) h
def ZR{t:Bool}{A B d e:Prop}(j:A->d)(k:B->e)(h:bh t A B):bh t d e:=by
 cases t
 .exact k h
 .exact j h
def asInt(k:hC)(v:Option aa)(K:Int->Prop):Prop:=match v with |some (.int d n)=>cF (d==k) (K n)|_=>False
def gM{k:hC}{v:Option aa}{K:Int->Prop}(h:asInt k v K):∃n,v=some (.int k n)/\K n:=by
 unfold asInt at h;split at h
 .obtain ⟨d,e⟩:=dK h
  grind
 grind
def qc(v:Option aa)(K:ByteArray->Prop):Prop:=match v with |some (.string b)=>K b|_=>False
def uH{v:Option aa}{K:ByteArray->Prop}(h:qc v K):∃b,v=some (.string b)/\K b:=by
 unfold qc at h
 grind
def asSlice(v:Option aa)(K:Sl->Prop):Prop:=match v with |some (.slice a n c)=>K ⟨a,n,c⟩|_=>False
def qb{v:Option aa}{K:Sl->Prop}(h:asSlice v K):∃s:Sl,v=some s.v/\K s:=by
 unfold asSlice at h
 grind
def cw(v:Option aa)(K:Addr->Prop):Prop:=match v with |some (.pointer (some a))=>K a|_=>False
def cG{v:Option aa}{K:Addr->Prop}(h:cw v K):∃a,v=some (.pointer (some a))/\K a:=by
 unfold cw at h
 grind
def asAgg(v:Option aa)(K:List aa->Prop):Prop:=match v with |some (.agg d)=>K d.toList|_=>False
def SS{v:Option aa}{K:List aa->Prop}(h:asAgg v K):∃d:List aa,v=some (.agg d.toArray)/\K d:=by
 unfold asAgg at h;split at h
 .grind
 grind
def xu(f:cB)(v:Option aa)(K:List aa->List aa->Prop):Prop:=match v with |some (.func (.func g) e d)=>cF (bO g f) (K e.toList d.toList)|_=>False
def SU{f:cB}{v:Option aa}{K:List aa->List aa->Prop}(h:xu f v K):∃e d:List aa,v=some (.func (.func f) e.toArray d.toArray)/\K e d:=by
 unfold xu at h;split at h
 .obtain ⟨j,k⟩:=dK h;rw[ep]at j;subst j
  grind
 grind
def oQ(l:List aa)(K:aa->List aa->Prop):Prop:=match l with |v::r=>K v r|[]=>False
def rY{l:List aa}{K:aa->List aa->Prop}(h:oQ l K):∃v r,l=v::r/\K v r:=by
 cases l with
 |nil=>exact h.elim
 |cons v r=>exact⟨v,r,rfl,h⟩
def rZ(l:List aa)(K:Prop):Prop:=match l with |[]=>K|_=>False
def AT{l:List aa}{K:Prop}(h:rZ l K):l=[]/\K:=by
 cases l with
 |nil=>exact⟨rfl,h⟩
 |cons v r=>exact h.elim
end
def lj(k:hC)(x y:Int):Int:=k.wrap ((eF k.bits x&&& eF k.bits y).toNat:Int)
def qe(k:hC)(x y:Int):Int:=k.wrap ((eF k.bits x|||eF k.bits y).toNat:Int)
def mR(k:hC)(x y:Int):Int:=k.wrap ((eF k.bits x^^^eF k.bits y).toNat:Int)
def SZ(k:hC)(x y:Int):Int:=k.wrap ((eF k.bits x&&& ~~~ eF k.bits y).toNat:Int)
inductive Tr where
 |nil
 |one (i:Nat) (t:Tr)
 |fork (a b:Tr)
def Tr.i0:Tr->List Nat
 |.nil=>[]
 |.one i _=>[i]
 |.fork a b=>a.i0++b.i0
def Tr.len:Tr->Nat
 |.nil=>0
 |.one _ t=>t.len+1
 |.fork a _=>a.len
def vy(P:aE)(ops:Array Oper)(i:Nat)(E:Env)(w:J)(H:eu)(d:Env->J->eu->Prop):Prop:=
 match ops[i]? with
 |none=>False
 |some o=>match o.guard with
  |none=>oq P ops true i o E w H d
  |some (h,want)=>match jx ops h with
   |none=>False
   |some e=>match E.get? e with
    |some (.bool t)=>bh t (ly P ops true i o e want true E w H d) (ly P ops true i o e want false E w H d)
    |some (.tuple _)=>d (Env.put E o.dst undef) w (bif calm P o then H else da ops i H)
    |_=>False
def oy(P:aE)(ops:Array Oper)(K:Env->J->Prop):Tr->Env->J->eu->Prop
 |.nil,d,e,_=>K d e
 |.one i t,d,e,h=>vy P ops i d e h λj q k=>oy P ops K t j q k
 |.fork a b,d,e,h=>oy P ops K a d e h/\oy P ops K b d e h
def hS(P:aE)(ops:Array Oper):Tr->Bool->Array Bool->Bool
 |.nil,alt,d=>!alt&&(eG .any ops d).isEmpty
 |.one i t,alt,d=>(match ops[i]? with
   |some o=>bif alt then !calm P o else bif calm P o then Region.free .any ops d i&&(eG .any ops d).contains i else eG .any ops d==[i]
   |none=>false)&&hS P ops t false (d.setIfInBounds i true)
 |.fork a b,alt,d=>(alt||eG .any ops d==(Tr.fork a b).i0)&&(bO a.len b.len&&(hS P ops a true d&&hS P ops b true d))
section
variable {P:aE} {ops:Array Oper} {n:Cx} {K:Env->J->Prop}
def Qx{i:Nat}{o:Oper}{a:Act}{E:Env}{w:J}{H:eu}{Kh:Env->J->eu->Prop}{B:Array Bool}{fuel:Nat}{Q:Exit->Act->J->Prop}(z:dR n ops=true)(k:ops[i]? =some o)(G:calm P o=false)(y:Ag n a E)(L:db o (yielded ops a.tmps)=true)(h:oq P ops true i o E w H Kh)(next:∀e q d j,Ag n e q->(∀p∈j,p.2 d)->Kh q d j->eo P ops Q fuel j (B.setIfInBounds i true) e d):
  wpOp P ops Q i (λe d=>(∀p∈da ops i H,p.2 d)/\eo P ops Q fuel (da ops i H) (B.setIfInBounds i true) e d) a w:=by have I:=Region.noSelect_spec (ops:=ops) (by unfold dR at z;grind);unfold oq at h;rw[G]at h;simp only[cond_false,cond_true]at h;refine wV k L (mW (λC b=>I i o C b k) y h) λv d K=>?_;obtain⟨D,F⟩:=rW K;have x:∀p∈da ops i H,p.2 d:=λp A=>D _ (Ci (fo.1 A).1 (fo.1 A).2);exact⟨x,next _ _ _ _ (y.put v (gH z k)) x F⟩
def EF{i:Nat}{o:Oper}{a:Act}{w:J}{H:eu}{d:Array Bool}{fuel:Nat}{Q:Exit->Act->J->Prop}(k:ops[i]? =some o)(j:∀p∈H,p.2 w)(x:db o (yielded ops a.tmps)=false)(next:eo P ops Q fuel (da ops i H) (d.setIfInBounds i true) (a.put o.dst undef) w):
  wpOp P ops Q i (λh e=>(∀p∈da ops i H,p.2 e)/\eo P ops Q fuel (da ops i H) (d.setIfInBounds i true) h e) a w:=by unfold wpOp;simp only[k,x];exact⟨λp q=>j p (fo.1 q).1,next⟩
def Wj(x:dR n ops=true){i:Nat}{o:Oper}{E:Env}{w:J}{H:eu}{a:Act}{F:Env->J->eu->Prop}{A:Array Bool}{fuel:Nat}(d:ops[i]? =some o)(B:(bif calm P o then Region.free .any ops A i&&(eG .any ops A).contains i else eG .any ops A==[i])=true)(j:Ag n a E)(e:∀p∈H,p.2 w)(h:vy P ops i E w H F)(next:∀N M L D,Ag n N M->(∀p∈D,p.2 L)->F M L D->eo P ops (hc n K) fuel D (A.setIfInBounds i true) N L):eo P ops (hc n K) (fuel+1) H A a w:=by
 unfold vy at h;rw[d]at h;simp only at h;cases k:o.guard with
 |none=>
  rw[k]at h;simp only at h;exact zx x d B (λ_ _ _=>rfl) j e (by simp[db,k]) h next
 |some T=>
  obtain⟨S,want⟩:=T;rw[k]at h;simp only at h;cases I:jx ops S with
  |none=>grind
  |some Q=>
   rw[I]at h;simp only at h;split at h
   .rename_i t z;have C:=rn j I z;have q:ly P ops true i o Q want t E w H F:=by
     cases t
     .exact h
     .exact h
    unfold ly at q;cases O:(t==want)with
    |true=>
     rw[O]at q;exact zx x d B (λ_ _ _=>rfl) (j.same z) e (by simp[db,k,C];grind) q next
    |false=>
     rw[O]at q;simp only[cond_false]at q;refine wy x d B (λ_ _ _=>rfl) e (by simp[db,k,C];grind) ?_;refine next _ _ _ _ ((j.same z).put undef (gH x d)) ?_ q
     intro p y;cases G:calm P o
     .rw [G]at y;exact e p (fo.1 y).1
     grind
   .rename_i U z;have C:=rp j I z;refine wy x d B (λ_ _ _=>rfl) e (by simp[db,k,C]) ?_;refine next _ _ _ _ (j.put undef (gH x d)) ?_ h
    intro p y;cases G:calm P o
    .rw [G]at y;exact e p (fo.1 y).1
    grind
   grind
def Wk(A:dR n ops=true){i:Nat}{o:Oper}{E:Env}{w:J}{H:eu}{a:Act}{D:Env->J->eu->Prop}{N:Array Bool}{fuel:Nat}(d:ops[i]? =some o)(z:calm P o=false)(e:Ag n a E)(F:∀p∈H,p.2 w)(h:vy P ops i E w H D)(next:∀y I q C,Ag n y I->(∀p∈C,p.2 q)->D I q C->eo P ops (hc n K) fuel C (N.setIfInBounds i true) y q):
  wpOp P ops (hc n K) i (λy q=>(∀p∈da ops i H,p.2 q)/\eo P ops (hc n K) fuel (da ops i H) (N.setIfInBounds i true) y q) a w:=by
 unfold vy at h;rw[d]at h;simp only at h;have L:∀p∈da ops i H,p.2 w:=λp Q=>F p (fo.1 Q).1;cases j:o.guard with
 |none=>
  rw[j]at h;simp only at h;exact Qx A d z e (by simp[db,j]) h next
 |some T=>
  obtain⟨S,want⟩:=T;rw[j]at h;simp only at h;cases G:jx ops S with
  |none=>grind
  |some O=>
   rw[G]at h;simp only at h;split at h
   .rename_i t x;have B:=rn e G x;have k:ly P ops true i o O want t E w H D:=by
     cases t
     .exact h
     .exact h
    unfold ly at k;cases M:(t==want)with
    |true=>
     rw[M]at k;exact Qx A d z (e.same x) (by simp[db,j,B];grind) k next
    |false=>
     rw[M,z]at k;simp only[cond_false]at k;exact EF d F (by simp[db,j,B];grind) (next _ _ _ _ ((e.same x).put undef (gH A d)) L k)
   .rename_i U x;have B:=rp e G x;rw[z]at h;simp only[cond_false]at h;exact EF d F (by simp[db,j,B]) (next _ _ _ _ (e.put undef (gH A d)) L h)
   grind
def Ff:∀(t:Tr) (e:Array Bool),hS P ops t true e=true->∃m,t.len=m+1
 |.nil,e,d=>by simp[hS]at d
 |.one i t,e,_=>⟨t.len,rfl⟩
 |.fork a b,e,d=>by unfold hS at d;simp only[bq]at d;exact Ff a e d.2.2.1
def Fe:∀(t:Tr) (e:Array Bool),hS P ops t true e=true->t.i0≠[]
 |.nil,e,d=>by simp[hS]at d
 |.one i t,e,_=>by simp[Tr.i0]
 |.fork a b,e,d=>by unfold hS at d;simp only[bq]at d;have:=Fe a e d.2.2.1;simp[Tr.i0,this]
def wP(D:dR n ops=true):∀(t:Tr) (alt:Bool) (e:Array Bool) (E:Env) (w:J) (H:eu) (a:Act) (m:Nat),hS P ops t alt e=true->Ag n a E->(∀p∈H,p.2 w)->oy P ops K t E w H->
  (alt=false->t.len=m->eo P ops (hc n K) m H e a w)/\
  (alt=true->t.len=m+1->∀i∈t.i0,wpOp P ops (hc n K) i (λx k=>(∀p∈da ops i H,p.2 k)/\eo P ops (hc n K) m (da ops i H) (e.setIfInBounds i true) x k) a w)
 |.nil,alt,e,E,w,H,a,m,d,y,C,h=>by
  unfold hS at d;rw[bq]at d;refine⟨λ_ j=>?_,λB=>?_⟩
  .subst j;exact λ_=>⟨by grind,E,y,h⟩
  grind
 |.one i t,alt,e,E,w,H,a,m,d,y,C,h=>by
  unfold hS at d;rw[bq]at d;obtain⟨d,W⟩:=d;cases S:ops[i]? with
  |none=>grind
  |some o=>
   rw[S]at d;simp only at d;unfold oy at h;refine⟨λB j=>?_,λB j ab hj=>?_⟩
   .subst B j;exact Wj D S d y C h λx I k L M N O=>(wP D t false _ I k L x _ W M N O).1 rfl rfl
   .subst B;rw[cond_true]at d;obtain rfl:=bT.1 hj;have Q:t.len=m:=by simpa[Tr.len]using j
    exact Wk D S (by grind) y C h λx I k L M N O=>(wP D t false _ I k L x _ W M N O).1 rfl Q
 |.fork A G,alt,e,E,w,H,a,m,d,y,C,h=>by
  unfold hS at d;simp only[bq]at d;obtain⟨hr,U,T,hy⟩:=d;rw[ep]at U;unfold oy at h;have both:∀q,A.len=q+1->∀i∈(Tr.fork A G).i0,wpOp P ops (hc n K) i (λx k=>(∀p∈da ops i H,p.2 k)/\eo P ops (hc n K) q (da ops i H) (e.setIfInBounds i true) x k) a w:=λq F i z=>by
   rcases aY.1 z with z|z
   .exact (wP D A true e E w H a q T y C h.1).2 rfl F i z
   .exact (wP D G true e E w H a q hy y C h.2).2 rfl (U▸F) i z
  refine⟨λB j=>?_,λ_ j=>both m j⟩;subst B;obtain⟨q,F⟩:=Ff A e T;have Q:m=q+1:=by rw[<-j,<-F];rfl
  subst Q;have V:eG .any ops e=(Tr.fork A G).i0:=by grind
  have aa:(Tr.fork A G).i0≠[]:=by have:=Fe A e T;simp[Tr.i0,this]
  exact λ_=>⟨λZ=>absurd (V▸Z) aa,λi z=>both q F i (V▸z)⟩
def abt{c:Code}{id:Nat}{a:Act}{E:Env}{w:J}{t:Tr}(y:P.follows .mixedOrders=true)(q:c=.region id ops true)(d:dR n ops=true)(x:hS P ops t false (g' ops.size false)=true)(A:t.len=ops.size)(k:Ag n a E)(h:oy P ops K t E w.drew []):c.wpIn (FW n) 0 P (hc n K) a w:=by subst q;have e:=(wP d t false _ E _ [] a _ x k (λp z=>(by cases z)) h).1 rfl A;have j:=zZ _ [] _ _ _ (Down.zero _ _) e;refine wpIn_region_draw λt=>?_;refine rk d (λ⟨_,_,h⟩=>h) _ _ _ ?_;simp only[Region.schedule,y,Bool.true_or,if_true];exact wpAny_sound ops.size t _ a _ j
def tq(P:aE)(n:Nat)(c:Code)(t:Tr):Bool:=match c with
 |.region _ ops d=>d&&(P.follows .mixedOrders&&(dR n ops&&(hS P ops t false (g' ops.size false)&&bO t.len ops.size)))
 |_=>false
def WP.tree{c:Code}{Q:Exit->Act->J->Prop}{E:Env}{w:J}(t:Tr)(K:Env->J->Prop)(d:tq P n c t=true)(h:oy P (Code.ops c) K t E w.drew [])(F:∀e k j,Ag n j e->K e k->Q .normal j k):WP P n c Q E w:=by
 unfold tq at d;split at d
 .rename_i id ops D;simp only[bq]at d;obtain⟨rfl,z,A,B,q⟩:=d;rw[ep]at q;exact λa C=>wpIn_mono (abt z rfl A B q C h) λy j k x=>by
   cases y with
   |normal=>obtain⟨e,hA,hK⟩:=x;grind
   |_=>exact x.elim
 grind
end
section
variable {P:aE}
def lo(r:Loop)(st:LoopState)(d:Option Code):Obj:=.loop {r with state:=st,pending:=d}
structure AH(r:Loop)(m:Nat)(ps:Array Tmp)(assign body:Code)(E:Env):Prop where
 ps:r.params=ps
 assign:r.assign=assign
 body:r.body=body
 size:r.tmps.size=m
 get:∀t v,E.get? t=some v->r.tmps[t]? =some v
def pe:Env->List Nat->List aa->Env
 |d,p::e,v::h=>pe ((p,v)::d) e h
 |d,_,_=>d
def Ol{m l:Nat}:∀(ps:List Nat) (vs:List aa) (E:Env) (tmps:Array aa),tmps.size=m->(∀p∈ps,p<m)->(∀t v,E.get? t=some v->tmps[t]? =some v)->
  Ag ⟨m,[],some l⟩ {tmps:=(ps.zip vs).foldl (λt (p,v)=>t.setIfInBounds p v) tmps,defers:=[]} (pe E ps vs)
 |[],vs,E,tmps,h,_,e=>⟨rfl,by simpa using h,by cases vs<;>simpa[pe]using e⟩
 |p::ps,[],E,tmps,h,_,e=>⟨rfl,by simpa using h,by simpa[pe]using e⟩
 |p::ps,v::vs,E,tmps,h,j,e=>by simp only[List.zip_cons_cons,List.foldl_cons,pe];refine Ol ps vs _ _ (by grind) (λq w=>j q (by grind)) ?_;have:=(Ag.put (n:=⟨m,[],some l⟩) (a:={tmps:=tmps,defers:=[]}) (E:=E) ⟨rfl,h,e⟩ (d:=some p) v (λt k=>by cases k;exact j p (by simp))).get;simpa[Env.put,Act.put]using this
def ud(P:aE)(l:Nat)(args:Array aa)(w:J)(K:Bool->J->Prop):Prop:=
 YieldAt Fence.wide 0 P l args w λd e=>∃b:Bool,d=ae (.bool b)/\K b e
def AF(P:aE)(m l:Nat)(r:Loop)(body:Code)(Q:Exit->Act->J->Prop):Exit->Act->J->Prop:=
 Exit.then (λa₁ d₁=>d₁.heap[l]? =some (lo r .ready none)/\fx P ⟨m,[],some l⟩ body Q a₁ (d₁.putObj l (lo r .busy none))) (λ_ _ _=>False)
def aby{m l:Nat}{r:Loop}{ps:Array Tmp}{assign body:Code}{E:Env}{args:List aa}{w:J}{R:ch->J->Prop}{K:Bool->J->Prop}(d:AH r m ps assign body E)(A:w.heap[l]? =some (lo r .ready none))(F:args.length=ps.size)(B:ps.toList.all (λp=>Nat.blt p m)=true)(y:∀e j,R e j->∃b:Bool,e=ae (.bool b)/\K b j)(h:WP P ⟨m,[],some l⟩ assign (AF P m l r body (roundPost P l R)) (pe E ps.toList args) w):ud P l args.toArray w K:=by
 have D:=run_yield (P:=P) (w:=w) (args:=args.toArray) A (by simp[d.ps,F]);refine⟨_,_,_,_,D,RoundIn.mono (roundIn_of_wpIn (R:=R) trivial ?_) y⟩;simp only[d.ps,d.assign,d.body];have z:Ag ⟨m,[],some l⟩ {tmps:=(ps.zip args.toArray).foldl (λt (p,v)=>t.setIfInBounds p v) r.tmps,defers:=[]} (pe E ps.toList args):=by have:=Ol (m:=m) (l:=l) ps.toList args E r.tmps d.size (λp C=>by simpa using ft.1 B p C) d.get;rw[<-Array.foldl_toList];simpa using this
 refine wpIn_mono (h _ z) λe G j k=>?_;cases e with
 |normal=>
  obtain⟨q,x⟩:=k;exact⟨_,run_beginRound q rfl,x⟩
 |_=>exact k.elim
def Zy{l:Nat}{r:Loop}{a:Act}{w:J}{R:ch->J->Prop}(d:w.heap[l]? =some (lo r .busy none))(h:R (ae (.bool true)) (w.putObj l (lo r .ready none))):roundPost P l R .normal a w:=
 ⟨_,_,run_endRound none d,h⟩
def Zz{l:Nat}{r:Loop}{a:Act}{w:J}{R:ch->J->Prop}(d:w.heap[l]? =some (lo r .busy none))(h:R (ae (.bool false)) (w.putObj l (lo r .done (some .ret)))):roundPost P l R .ret a w:=
 ⟨_,_,run_endRound (some .ret) d,h⟩
abbrev marked(m D:Nat):Cx:=⟨m,[{target:=.collected D,args:=#[]}],none⟩
def xg(d:J)(l:Nat)(o:LoopState->Option Code->Obj)(N:J->Prop)(X:Nat->J->Prop)(T:J->Prop):Prop:=
 (d.heap[l]? =some (o .ready none)/\N (d.putObj l (o .exhausted none)))\/
 (∃id,d.heap[l]? =some (o .done (some (.exit id)))/\X id (d.putObj l (o .exhausted (some (.exit id)))))\/
 (d.heap[l]? =some (o .done (some .ret))/\T (d.putObj l (o .exhausted (some .ret))))
def WP.range{m:Nat}{c:Code}{g:Operand}{ps:Array Tmp}{assign body:Code}{gf:Nat}{lb:Array aa}{Q:Exit->Act->J->Prop}{E:Env}{w:J}(N:J->Prop)(X:Nat->J->Prop)(T:J->Prop)(K:c=.rangeFunc g ps assign body)(S:E.val g=some (.func (.func gf) #[] lb))(L:g3 P gf=true)(G:∀d,N d->∀a,Ag (marked m w.heap.size) a E->Q .normal a d)(I:∀id d,X id d->∀a,Ag (marked m w.heap.size) a E->Q (.exit id) a d)(H:∀d,T d->∀a,Ag (marked m w.heap.size) a E->Q .ret a d)(h:∀r:Loop,AH r m ps assign body E->ai P gf (#[.func (.yield (w.heap.size+1)) #[] #[]]++lb) ((w.alloc (.deferred (some []))).alloc (lo r .ready none)) λx z=>(∃v,x=ae v)/\xg z (w.heap.size+1) (lo r) N X T):
  WP P (cx m) c Q E w:=by
 subst K;intro a e;have q:Ag (marked m w.heap.size) {a with defers:=[{target:=.collected w.heap.size,args:=#[]}]++a.defers} E:=⟨by show _++a.defers=_;rw[e.defers];rfl,e.size,e.get⟩;have U:a.eval g=.func (.func gf) #[] lb:=e.val S;refine wpIn_rangeFunc (F:=FW (cx m)) (n:=0) λfn _=>?_;obtain⟨r,y⟩:∃r:Loop,r={state:=.ready,pending:=none,fn,tmps:=a.tmps,params:=ps,assign,body,defers:=w.heap.size}:=⟨_,rfl⟩;have V:AH r m ps assign body E:=by subst y;exact⟨rfl,rfl,rfl,e.size,e.get⟩
 have M:=h r V;have A:(Instr.enterLoop fn a.tmps ps assign body none).run P w=.ok (w.heap.size+1,[{target:=.collected w.heap.size,args:=#[]}]) ((w.alloc (.deferred (some []))).alloc (lo r .ready none)):=by rw[run_enterLoop_outer];subst y;rfl
 generalize W:(w.alloc (.deferred (some []))).alloc (lo r .ready none)=W1 at *;have B:(resolve a.eval (rangeCall g (w.heap.size+1)) 0).run P W1=.ok {target:=.fn (.func gf) lb,args:=#[.func (.yield (w.heap.size+1)) #[] #[]]} W1:=by simp only[resolve,U];simp[go_sem]
 have C:(invoke (.fn (.func gf) lb) #[.func (.yield (w.heap.size+1)) #[] #[]]).run P W1=.ok (.enter gf (#[.func (.yield (w.heap.size+1)) #[] #[]]++lb)) W1:=by simp[invoke,go_sem,uO L]
 have D:CallsIn (FW (cx m)) 0 P gf (#[.func (.yield (w.heap.size+1)) #[] #[]]++lb) W1 (rangePost (FW (cx m)) 0 P (w.heap.size+1) Q {a with defers:=[{target:=.collected w.heap.size,args:=#[]}]++a.defers}):=by
  refine Ha (n:=cx m) (M.mono ?_);rintro x z ⟨⟨v,rfl⟩,O⟩;rcases O with⟨j,k⟩|⟨id,j,k⟩|⟨j,k⟩
  .exact ⟨_,_,run_endLoop (r:={r with state:=.ready,pending:=none}) j (by simp),G _ k _ q⟩
  .exact ⟨_,_,run_endLoop (r:={r with state:=.done,pending:=some (.exit id)}) j (by simp),wpIn_exit (I id _ k _ q)⟩
  .exact ⟨_,_,run_endLoop (r:={r with state:=.done,pending:=some .ret}) j (by simp),wpIn_ret (H _ k _ q)⟩
 exact⟨_,_,_,_,_,_,_,_,A,B,λ_ _=>trivial,C,λh=>(by cases h),D⟩
def Ep(P:aE)(fn:Func)(E:Env)(w:J)(D:Nat)(R:aH):Prop:=
 w.heap[D]? =some (.deferred (some []))/\kV P fn E (w.putObj D (.deferred none)) λv=>R (ae v) (w.putObj D (.deferred none))
def JL{fn:Func}{tmps:Array aa}{R:ch->J->Prop}{w:J}{v:aa}(h:(results fn tmps).run P w=.ok v w)(d:R (ae v) w):LeavesInM Fence.wide 0 P fn tmps R [] .returning w:=by
 show LeavesIn _ _ _ _ _ _ _ _ _;simp only[LeavesIn]
 grind
def Zs{m:Nat}{fn:Func}{a:Act}{E:Env}{w:J}{R:aH}(d:Ag (cx m) a E)(h:kV P fn E w λv=>R (ae v) w):LeavesInM Fence.wide 0 P fn a.tmps R a.defers .returning w:=by obtain⟨v,e,j⟩:=Eo d h;rw[d.defers];exact JL e j
def Er{m D:Nat}{fn:Func}{a:Act}{E:Env}{w:J}{R:aH}(d:Ag (marked m D) a E)(h:Ep P fn E w D R):LeavesInM Fence.wide 0 P fn a.tmps R a.defers .returning w:=by obtain⟨e,h⟩:=h;obtain⟨v,j,k⟩:=Eo (n:=marked m D) d h;rw[d.defers];exact⟨by simp,.inl ⟨D,_,rfl,run_takeDeferred e,JL j k⟩⟩
def UG{f:cB}{fn:Func}{c:Code}{args:List aa}{w:J}{R:ch->J->Prop}(e:P.funcs[f]? =some fn)(d:fn.body=some c)(j:Nat.ble args.length fn.ntmps=true)(h:WP P (cx fn.ntmps) c (bodyPostM Fence.wide 0 P fn R) (j0 0 args) w):ai P f args.toArray w R:=by
 have q:=Nat.le_of_ble_eq_true j;refine callsIn_wide.1 (callsIn_of_wp_marks (n:=0) e d trivial (h _ ⟨rfl,by grind,?_⟩));intro t v k;have:=(BR args 0 t v k).2
 grind
def AU(v:Option aa)(K:Nat->Prop):Prop:=match v with |some (.func (.yield l) e d)=>cF (bO e.size 0&&bO d.size 0) (K l)|_=>False
def SV{v:Option aa}{K:Nat->Prop}(h:AU v K):∃l,v=some (.func (.yield l) #[] #[])/\K l:=by
 unfold AU at h;split at h
 .rename_i l j e;obtain⟨d,k⟩:=dK h;simp only[bq,ep]at d
  grind
 grind
end
abbrev _root_.Go.Code.sn(c:Code):Code:=Code.snd c
abbrev _root_.Go.Code.fs(c:Code):Code:=Code.fst c
abbrev _root_.Go.Value.i(x:Int):aa:=.int .i64 x
abbrev _root_.Go.Value.u(x:Int):aa:=.int .u64 x
abbrev _root_.Go.Value.s0:aa:=.string (bG #[])
abbrev nb(w:J):Addr:=⟨w.heap.size,0,none⟩
section
variable {P:aE} {n:Cx} {Q:Exit->Act->J->Prop} {E:Env} {w:J} {K:Env->J->Prop}
def oj(P:aE)(c:Code)(K:Env->J->Prop)(E:Env)(w:J):Prop:=gV P (Code.ops c) false K (List.range (Code.ops c).size) E w []
def BD(P:aE)(c:Code)(l:List Nat)(K:Env->J->Prop)(E:Env)(w:J):Prop:=gV P (Code.ops c) true K l E w.drew []
def tgK(P:aE)(c:Code)(t:Tr)(K:Env->J->Prop)(E:Env)(w:J):Prop:=oy P (Code.ops c) K t E w.drew []
abbrev dJ(P:aE)(c:Code)(K:Env->J->Prop)(E:Env)(w:J):Prop:=oj P (Code.fst c) K E w
abbrev ZP(P:aE)(c:Code)(l:List Nat)(K:Env->J->Prop)(E:Env)(w:J):Prop:=BD P (Code.fst c) l K E w
abbrev stK(P:aE)(c:Code)(t:Tr)(K:Env->J->Prop)(E:Env)(w:J):Prop:=tgK P (Code.fst c) t K E w
def sL:Code->Bool
 |.seq _ _=>true
 |_=>false
def wv{c:Code}(h:sL c=true):c=.seq (Code.fst c) (Code.snd c):=by cases c<;>first |rfl|cases h
def oP{a b:Bool}(h:(a&&b)=true):a=true/\b=true:=by grind
def rg(c:Code)(k:qX n c=true)(h:oj P c K E w)(q:∀d j e,Ag n e d->K d j->Q .normal e j):WP P n c Q E w:=WP.pn K k h q
def dg(c:Code){l:List Nat}(k:zc P n c l=true)(h:BD P c l K E w)(q:∀d j e,Ag n e d->K d j->Q .normal e j):WP P n c Q E w:=WP.draw l K k h q
def sr(c:Code)(h:dJ P c K E w)(y:∀d e,K d e->WP P n (Code.snd c) Q d e)(j:(sL c&&qX n (Code.fst c))=true:=by kernel_rfl):WP P n c Q E w:=
 WP.seq (wv (oP j).1) (WP.pn K (oP j).2 h λd e k q x=>y d e x k q)
def sd(c:Code){l:List Nat}(j:(sL c&&zc P n (Code.fst c) l)=true)(h:ZP P c l K E w)(y:∀d e,K d e->WP P n (Code.snd c) Q d e):WP P n c Q E w:=
 WP.seq (wv (oP j).1) (WP.draw l K (oP j).2 h λd e k q x=>y d e x k q)
def st(c:Code){t:Tr}(j:(sL c&&tq P n (Code.fst c) t)=true)(h:stK P c t K E w)(y:∀d e,K d e->WP P n (Code.snd c) Q d e):WP P n c Q E w:=
 WP.seq (wv (oP j).1) (WP.tree t K (oP j).2 h λd e k q x=>y d e x k q)
def sq(c:Code)(h:WP P n (Code.fst c) (Exit.then (fx P n (Code.snd c) Q) Q) E w)(d:sL c=true:=by kernel_rfl):WP P n c Q E w:=WP.seq (wv d) h
def bk(c:Code)(id:Nat)(d:c=.block id (Code.fst c))(h:WP P n (Code.fst c) (Exit.inBlock id Q) E w):WP P n c Q E w:=WP.block d h
def cn(c:Code){o:Operand}{A B:Prop}(h:gB (E.val o) A B)(d:A->WP P n (Code.fst c) Q E w)(e:B->WP P n (Code.snd c) Q E w)(j:c=.cond o (Code.fst c) (Code.snd c):=by kernel_rfl):WP P n c Q E w:=WP.gB j d e h
def sk(c:Code)(h:∀a,Ag n a E->Q .normal a w)(d:c=.skip:=by kernel_rfl):WP P n c Q E w:=WP.skip d h
def xt(c:Code)(id:Nat)(d:c=.exit id)(h:∀a,Ag n a E->Q (.exit id) a w):WP P n c Q E w:=WP.exit d h
def rt(c:Code)(h:∀a,Ag n a E->Q .ret a w)(d:c=.ret:=by kernel_rfl):WP P n c Q E w:=WP.ret d h
def lp(c:Code)(d:c=.loop (Code.fst c))(h:LP P n (Code.fst c) Q E w):WP P n c Q E w:=WP.loop d h
def nx{c:Code}{a:Act}(d:Ag n a E)(h:WP P n c Q E w):Exit.then (fx P n c Q) Q .normal a w:=h a d
end
open Go.RowKit
structure Fr(M:Nat->Prop)(w w':J):Prop where
 os:w'.os=w.os
 tape:w'.tape=w.tape
 output:w'.output=w.output
 size:w.heap.size<=w'.heap.size
 cb:∀b,b<w.heap.size->¬M b->w'.heap[b]? =w.heap[b]?
def Fr.refl(M:Nat->Prop)(w:J):Fr M w w:=⟨rfl,rfl,rfl,bm _,λ_ _ _=>rfl⟩
def Fr.trans{M j:Nat->Prop}{a b c:J}(h:Fr M a b)(k:Fr j b c)(x:∀d,d<a.heap.size->j d->M d):Fr M a c:=
 ⟨k.os.trans h.os,k.tape.trans h.tape,k.output.trans h.output,a6 h.size k.size,
  λd e q=>(k.cb d (kr e h.size) (λw=>q (x d e w))).trans (h.cb d e q)⟩
def Fr.mono{M e:Nat->Prop}{a b:J}(h:Fr M a b)(q:∀d,d<a.heap.size->M d->e d):Fr e a b:=
 ⟨h.os,h.tape,h.output,h.size,λd j w=>h.cb d j (λk=>w (q d j k))⟩
def Fr.drew(M:Nat->Prop)(w:J):Fr M w w.drew:=⟨rfl,rfl,rfl,bm _,λ_ _ _=>rfl⟩
def Fr.alloc(M:Nat->Prop)(w:J)(o:Obj):Fr M w (w.alloc o):=⟨rfl,rfl,rfl,by simp,λe d _=>_root_.Go.heap_alloc_old w o e d⟩
def Fr.set{M:Nat->Prop}(w:J)(p:Addr)(v:aa)(h:M p.block):Fr M w (w.setCell p v):=
 ⟨rfl,rfl,rfl,by simp[World.setCell],λj _ e=>Below.heap_setCell w p v j (λd=>e (d▸h))⟩
def Fr.grown{M:Nat->Prop}{w w':J}{r:Option Nat}(h:w.grownBy w' r)(j:∀b,r=some b->M b):Fr M w w':=
 ⟨h.os,h.tape,h.output,h.size,λb e k=>h.block b e (λd=>k (j b d.symm))⟩
def Fr.setObj{M:Nat->Prop}(w:J)(r:Nat)(o:Obj)(h:M r):Fr M w {w with heap:=w.heap.setIfInBounds r o}:=
 ⟨rfl,rfl,rfl,by simp,λe _ d=>by grind⟩
def Fr.below{w w':J}(h:Fr (λ_=>False) w w'):Below w.heap.size w w':=⟨h.os,h.tape,h.output,h.size,λj e=>h.cb j e (λd=>d)⟩
def Fr.at{M:Nat->Prop}{w w':J}(h:Fr M w w'){b:Nat}{o:Obj}(d:w.heap[b]? =some o)(e:¬M b):w'.heap[b]? =some o:=
 (h.cb b (Array.getElem?_eq_some_iff.1 d).1 e).trans d
def lt_of_heap{w:J}{b:Nat}{o:Obj}(d:w.heap[b]? =some o):b<w.heap.size:=(Array.getElem?_eq_some_iff.1 d).1
def j2(w:J)(o:Obj):(w.alloc o).heap[w.heap.size]? =some o:=_root_.Go.heap_alloc_new w o
def size_alloc(w:J)(o:Obj):(w.alloc o).heap.size=w.heap.size+1:=by simp
def cellAt{w:J}{p:Addr}{cs:Array aa}{T:aC}{f:Nat×Nat}{i:Nat}{v:aa}(h:w.heap[p.block]? =some (.cells cs T f))(e:p.spot=none)(V:cs[p.off+i]? =some v):
  w.cell? (p.add i)=some v:=by
 unfold Addr.add;split
 .rename_i d;subst d;simp[World.cell?,h,e];omega
 .simp [World.cell?,h,V]
def frozenAt{w:J}{p:Addr}{cs:Array aa}{T:aC}{i:Nat}(h:w.heap[p.block]? =some (.cells cs T (0,0))):w.frozen? (p.add i)=false:=by unfold Addr.add;split<;>simp[World.frozen?,h]
def setAt{w:J}{p:Addr}{cs:Array aa}{T:aC}{f:Nat×Nat}{i:Nat}{v:aa}(h:w.heap[p.block]? =some (.cells cs T f))(k:p.spot=none):
  (w.setCell (p.add i) v).heap[p.block]? =some (.cells (cs.setIfInBounds (p.off+i) v) T f):=by
 have d:(p.add i).block=p.block:=by unfold Addr.add;grind
 have j:(p.add i).spot=none:=by unfold Addr.add;grind
 have e:(p.add i).off=p.off+i:=by unfold Addr.add;grind
 simp[World.setCell,d,h,j,e,Array.getElem?_modify]
def iX(p:Addr)(i:Nat):(p.add i).block=p.block:=by unfold Addr.add;grind
def ax(s:Sl):List Nat:=match s.a with |some p=>[p.block]|none=>[]
def Row(w:J)(T:aC)(s:Sl)(vs:List aa):Prop:=
 (s.a=none/\s.n=0/\s.c=0/\vs=[])\/∃b o d f,s.a=some ⟨b,o,none⟩/\w.heap[b]? =some (.cells d T f)/\∀i v,vs[i]? =some v->d[o+i]? =some v
def Row.lt{w:J}{T:aC}{s:Sl}{vs:List aa}(h:Row w T s vs):∀b∈ax s,b<w.heap.size:=by
 rcases h with⟨d,_⟩|⟨b,o,e,f,d,j,k⟩
 .simp [ax,d]
 .simp [ax,d];grind
def Row.cell{w:J}{T:aC}{s:Sl}{vs:List aa}{i:Nat}{v:aa}(h:Row w T s vs)(V:vs[i]? =some v):∃p,s.a=some p/\w.cell? (p.add i)=some v:=by
 rcases h with⟨_,_,_,rfl⟩|⟨b,o,k,f,d,e,j⟩
 .cases V
 .exact ⟨_,d,cellAt (p:=⟨b,o,none⟩) e rfl (j i v V)⟩
def aK(w:J)(e:aC)(sz:Nat)(s:Sl)(xs:List aa):Prop:=w.ownsRow 0 e sz s.v s.n xs
def aK.nil(w:J)(e:aC)(sz:Nat):aK w e sz ⟨none,0,0⟩ []:=World.ownsRow_nil w 0 e sz
def aK.len{w:J}{e:aC}{sz:Nat}{s:Sl}{xs:List aa}(h:aK w e sz s xs):xs.length=s.n *sz:=h.1
def aK.cases{w:J}{e:aC}{sz:Nat}{s:Sl}{xs:List aa}(h:aK w e sz s xs):
  (s=⟨none,0,0⟩/\xs=[])\/∃g cur,s.a=some ⟨g,0,none⟩/\w.heap[g]? =some (.cells cur e (0,0))/\s.n<=s.c/\s.c<=maxLen/\cur.size=s.c *sz/\cur.toList.take (s.n *sz)=xs:=by
 obtain⟨a,n,c⟩:=s;obtain⟨z,h⟩:=h;rcases h with⟨d,j⟩|⟨g,cap,cur,d,_,j,k,q,x,y⟩
 .cases d
  grind
 grind
def aK.row{w:J}{e:aC}{sz:Nat}{s:Sl}{xs:List aa}(h:aK w e sz s xs):Row w e s xs:=by
 rcases h.cases with⟨rfl,rfl⟩|⟨g,cur,d,j,_,_,_,q⟩
 .exact .inl ⟨rfl,rfl,rfl,rfl⟩
 .refine .inr ⟨g,0,cur,(0,0),d,j,λi v k=>?_⟩
  grind
def aK.cb{w w':J}{e:aC}{sz:Nat}{s:Sl}{xs:List aa}(h:aK w e sz s xs)(x:∀b∈ax s,b<w.heap.size->w'.heap[b]? =w.heap[b]?):aK w' e sz s xs:=by
 obtain⟨y,h⟩:=h;refine⟨y,?_⟩;rcases h with h|⟨g,cap,cur,d,k,j,r⟩
 .grind
 .have q:s.a=some ⟨g,0,none⟩:=(Value.slice.inj d).1;exact .inr ⟨g,cap,cur,d,k,(x g (by simp[ax,q]) (lt_of_heap j)).trans j,r⟩
def aK.fr{M:Nat->Prop}{w w':J}{e:aC}{sz:Nat}{s:Sl}{xs:List aa}(h:aK w e sz s xs)(j:Fr M w w')(q:∀b∈ax s,¬M b):aK w' e sz s xs:=
 h.cb λb d k=>j.cb b k (q b d)
def aK.lt{w:J}{e:aC}{sz:Nat}{s:Sl}{xs:List aa}(h:aK w e sz s xs):∀b∈ax s,b<w.heap.size:=h.row.lt
def aK.made(w:J)(e:aC)(sz n:Nat)(cs:List aa)(d:cs.length=n *sz)(h:n<=maxLen):aK (w.alloc (.cells cs.toArray e)) e sz ⟨some ⟨w.heap.size,0,none⟩,n,n⟩ cs:=
 ⟨d,.inr ⟨w.heap.size,n,cs.toArray,rfl,dv _,j2 w _,bm _,h,by omega,by grind⟩⟩
def Row.made(w:J)(e:aC)(n c:Nat)(cs:List aa):Row (w.alloc (.cells cs.toArray e)) e ⟨some ⟨w.heap.size,0,none⟩,n,c⟩ cs:=
 .inr ⟨w.heap.size,0,cs.toArray,(0,0),rfl,j2 w _,λi v d=>by grind⟩
def NP(s:Sl):s.v.ownBlock=s.a.map (·.block):=by obtain⟨a,n,c⟩:=s;cases a<;>rfl
structure g0(P:aE)(t e:aC)(z:aa)(sz bytes:Nat):Prop where
 ht:P.underlying t=some (.slice e)
 V:(P.info? e).map (λi=>(i.zero,i.size,i.bytes))=some (some z,sz,bytes)
 hz:z.cells.size=sz
 hs:0<sz
 hb:0<bytes
def Row.tW{w:J}{T:aC}{s:Sl}{vs:List aa}(h:Row w T s vs):∀b∈ax s,∃e f,w.heap[b]? =some (.cells e T f):=by
 rcases h with⟨d,_⟩|⟨b,o,e,f,d,q,y⟩
 .simp [ax,d]
 .intro j k;have x:j=b:=by simpa[ax,d]using k
  grind
def rN(kd:hC)(es:Array MapEntry)(ms:List (Int×aa)):Prop:=es.toList.map (λd=>(d.key,d.val))=ms.map λp=>(Value.int kd p.1,p.2)
def kP(ms:List (Int×aa))(k:Int):Option aa:=(ms.find? λp=>p.1==k).map (·.2)
def B2{kd:hC}{k:Int}:∀{es:List MapEntry} {ms:List (Int×aa)} {i:Nat},es.map (λe=>(e.key,e.val))=ms.map (λp=>(Value.int kd p.1,p.2))->
  Instr.findNow (.int kd) (.int kd k) es i=some ((ms.findIdx? λp=>p.1==k).bind λh=>(ms[h]?).map λp=>(i+h,p.2))
 |[],[],i,_=>rfl
 |[],_::_,_,d=>by grind
 |_::_,[],_,d=>by grind
 |e::es,p::ms,i,d=>by
  simp only[List.map_cons,List.cons.injEq,Prod.mk.injEq]at d;obtain⟨⟨w,z⟩,x⟩:=d;have y:=B2 (kd:=kd) (k:=k) (i:=i+1) x;unfold Instr.findNow;simp only[w,Instr.sameNow,if_true];by_cases B:p.1=k
  .grind
  .have j:(k==p.1)=false:=by grind
   have q:(p.1==k)=false:=by grind
   simp only[j,y,List.findIdx?_cons,q,Bool.false_eq_true,if_false];congr 1;cases A:ms.findIdx? (λp=>p.1==k)with
   |none=>simp
   |some h=>grind
def J8{ms:List (Int×aa)}{k:Int}{i:Nat}:(((ms.findIdx? λp=>p.1==k).bind λd=>(ms[d]?).map λp=>(i+d,p.2)).map (·.2))=kP ms k:=by
 unfold kP;induction ms generalizing i with
 |nil=>rfl
 |cons p ms h=>
  by_cases q:p.1=k
  .grind
  .have e:(p.1==k)=false:=by grind
   simp only[List.findIdx?_cons,e,Bool.false_eq_true,if_false,List.find?_cons];rw[<-h (i:=i+1)];cases j:ms.findIdx? (λp=>p.1==k)with
   |none=>simp
   |some d=>grind
structure AA(P:aE)(T kt et:aC)(kd:hC)(z:aa):Prop where
 hT:P.underlying T=some (.map kt et)
 hk:P.underlying kt=some (.int kd)
 hz:(P.info? et).map (·.zero)=some (some z)
def He{P:aE}{d:aC}{kd:hC}(e:P.underlying d=some (.int kd))(b:Bool)(k:Int)(w:J):(Instr.checkKey b 10000 d (.int kd k)).run P w=.ok () w:=by unfold Instr.checkKey;simp[run_underlying e]
def R2{P:aE}{d:aC}{z:aa}(h:(P.info? d).map (·.zero)=some (some z))(w:J):(zeroValue d).run P w=.ok z w:=by obtain⟨i,e,j⟩:=Option.map_eq_some_iff.1 h;simp[zeroValue,typeInfo,e,j]
def XH{P:aE}{T G B:aC}{kd:hC}{z:aa}(j:AA P T G B kd z){w:J}{d:Nat}{es:Array MapEntry}{clock:Nat}{ms:List (Int×aa)}(h:w.heap[d]? =some (.map es clock))(y:rN kd es ms)(k:Int)(v:aa)(E:kP ms k=none):
  ∃e q,(Instr.mapUpdate T (.map (some d)) (.int kd k) v).run P w=.ok () e/\e.heap[d]? =some (.map q (clock+1))/\rN kd q (ms++[(k,v)])/\Fr (λb=>b=d) w e/\e.heap.size=w.heap.size:=by
 have C:=B2 (k:=k) (i:=0) y;have D:(getObj d).run P w=.ok (.map es clock) w:=by simp[getObj,Sem.run,h]
 have x:=J8 (ms:=ms) (k:=k) (i:=0);have H:=lt_of_heap h;have F:((ms.findIdx? λp=>p.1==k).bind λA=>(ms[A]?).map λp=>(0+A,p.2))=none:=by rw[E]at x;simpa using x
 refine⟨{w with heap:=w.heap.setIfInBounds d (.map (es.push {key:=.int kd k,val:=v,born:=clock}) (clock+1))},es.push {key:=.int kd k,val:=v,born:=clock},?_,by grind,?_,Fr.setObj w d _ rfl,by simp⟩
 .unfold Instr.mapUpdate Instr.findKey;simp only[Sem.run_bind,run_underlying j.hT,Result.andThen_ok,D,He j.hk,run_underlying j.hk,C,F];simp[setObj,Sem.run,h]
 .unfold rN at y ⊢
  grind
abbrev ag(w w':J):Prop:=Fr (λ_=>False) w w'
abbrev ab(b:Nat):Addr:=⟨b,0,none⟩
def bD(b:UInt8):aa:=.int .u8 (b.toNat:Int)
def a'(n:Int):aa:=.int .i64 n
def xy(U:List UInt8):∀u∈U.map bD,u.oneCell'=true:=by intro u d;obtain⟨b,_,rfl⟩:=bZ.1 d;rfl
def qA(l:List Int):∀u∈l.map a',u.oneCell'=true:=by intro u d;obtain⟨b,_,rfl⟩:=bZ.1 d;rfl
def Fr.dA{M:Nat->Prop}{a b c:J}(h:Fr M a b)(k:ag b c):Fr M a c:=h.trans k λ_ _ h=>h.elim
def Fr.oc{M:Nat->Prop}{a b:J}(h:ag a b):Fr M a b:=h.mono λ_ _ h=>h.elim
def Fr.trn{M:Nat->Prop}{a b c:J}(h:ag a b)(k:Fr M b c)(j:∀d,M d->a.heap.size<=d):ag a c:=h.trans k λd q e=>by grind
def nO{w:J}{p:Addr}{v:aa}(d:w.cell? p=some v):p.block<w.heap.size:=by
 unfold World.cell? at d
 grind
def Hd{M:Nat->Prop}{w w':J}(h:Fr M w w'){p:Addr}{v:aa}(d:w.cell? p=some v)(e:¬M p.block):w'.cell? p=some v:=by
 have:=h.cb p.block (nO d) e;unfold World.cell? at d ⊢
 grind
def add_add(p:Addr)(i j:Nat):(p.add i).add j=p.add (i+j):=by
 unfold Addr.add
 grind
def iW(p:Addr):p.add 0=p:=by simp[Addr.add]
def eV(w:J)(s:Sl)(vs:List aa):Prop:=(s.a=none->s.n=0/\s.c=0)/\∀i v,vs[i]? =some v->∃p,s.a=some p/\w.cell? (p.add i)=some v
def eV.nil(w:J):eV w ⟨none,0,0⟩ []:=⟨λ_=>⟨rfl,rfl⟩,λi v d=>by grind⟩
def Row.r'{w:J}{T:aC}{s:Sl}{vs:List aa}(h:Row w T s vs):eV w s vs:=by
 refine⟨λq=>?_,λi v d=>h.cell d⟩;rcases h with⟨_,j,k,_⟩|⟨b,o,e,f,x,_⟩
 .omega
 grind
def eV.fr{M:Nat->Prop}{w w':J}{s:Sl}{vs:List aa}(h:eV w s vs)(j:Fr M w w')(q:∀b∈ax s,¬M b):eV w' s vs:=
 ⟨h.1,λi v k=>by obtain⟨p,d,e⟩:=h.2 i v k;exact⟨p,d,Hd j e (by rw[iX];exact q _ (by simp[ax,d]))⟩⟩
def eV.get{w:J}{s:Sl}{vs:List aa}(h:eV w s vs){i j:Nat}{v:aa}(V:vs[i]? =some v)(d:j=i *1){K:Addr->Prop}(q:∀p,s.a=some p->w.cell? (p.add j)=some v->K p):W.dM s.a K:=by obtain⟨p,e,k⟩:=h.2 i v V;rw[e];rw[Nat.mul_one]at d;subst d;exact q p e k
def sub(s:Sl)(l h:Nat):Sl:=⟨if s.c=l then s.a else s.a.map (·.add (l *1)),h - l,s.c - l⟩
def eV.sub{w:J}{s:Sl}{vs:List aa}(h:eV w s vs)(l V:Nat)(y:vs.length<=s.n)(z:s.n<=s.c)(B:l<=V)(A:V<=s.c):eV w (sub s l V) ((vs.take V).drop l):=by
 refine⟨λd=>?_,λi v e=>?_⟩
 .have:s.a=none:=by
   unfold W.sub at d;simp only at d;split at d
   .exact d
   .simpa using d
  obtain⟨q,x⟩:=h.1 this;unfold W.sub
  grind
 .rw [List.getElem?_drop,List.getElem?_take]at e;split at e
  .rename_i C;obtain⟨p,k,j⟩:=h.2 _ _ e;have hlen:=(cz.1 e).1;unfold W.sub;simp only[k];rw[af (by omega)];exact⟨_,rfl,by rw[add_add,Nat.mul_one];exact j⟩
  grind
def xr{P:aE}{t ty e:aC}{z:aa}{sz bytes:Nat}(h:g0 P t e z sz bytes){w:J}{s src:Sl}{xs news:List aa}(F:aK w e sz s xs)(hr:eV w src news)(y:news.length=src.n *sz)(j:∀u∈news,u.oneCell'=true)(D:(s.n+src.n) *bytes<=140737488355328):
  ∃d B,(dY #[t,t] ty #[s.v,src.v]).run P w=.ok d.v B/\aK B e sz d (xs++news)/\d.n=s.n+src.n/\Fr (λb=>b∈ax s) w B/\
   (∀b∈ax d,b∈ax s\/w.heap.size<=b)/\(d.a=none->s.a=none/\src.n=0):=by
 obtain⟨i,E,S,L,W⟩:=info_parts h.V;have U:s.n+src.n<=140737488355328:=by have:=Nat.le_mul_of_pos_right (s.n+src.n) h.hb;omega
 obtain⟨sa,A,M⟩:=src;cases sa with
 |none=>
  obtain⟨k,H⟩:=hr.1 rfl;simp only at k H;subst k H;have ac:news=[]:=List.eq_nil_of_length_eq_zero (by grind);subst ac;have:=run_append_owned_none (P:=P) (w:=w) 0 t ty e i sz h.ht E s.v s.n xs F;exact⟨s,w,this,by grind,by simp,Fr.refl _ _,λb D=>.inl D,λO=>⟨O,rfl⟩⟩
 |some G=>
  simp only at y D U;have I:∀x u,news[x]? =some u->w.cell? (G.add x)=some u:=λx u hj=>by
   obtain⟨p,hp,hc⟩:=hr.2 x u hj
   grind
  obtain⟨v',B,K,ak,ah,ac⟩:=run_append_own (P:=P) w 0 t ty e i z sz bytes h.ht E S L W h.hz h.hs s.v s.n xs F G A M news y I j (by unfold maxLen;omega) D (dv _);have hv:∃d:Sl,v'=d.v/\d.n=s.n+A/\(d.a=none->v'=.slice none 0 0):=by
   rcases ak.2 with⟨j,h2⟩|⟨g,cap,cur,j,_⟩
   .grind
   .exact ⟨⟨_,_,_⟩,j,rfl,λO=>by cases O⟩
  obtain⟨d,rfl,ai,ar⟩:=hv;refine⟨d,B,K,?_,ai,?_,?_,?_⟩
  .unfold aK;grind
  .refine Fr.grown ah λg q=>?_;rw[NP]at q;cases ae:s.a with
   |none=>grind
   |some p=>simp[ae]at q;simp[ax,ae,q]
  .intro g q;rcases F.cases with⟨rfl,rfl⟩|⟨C,cur,ab,ag,aj,aq,Z,an⟩
   .obtain ⟨v2,w2,am,al,_,_⟩:=run_append_own (P:=P) w w.heap.size t ty e i z sz bytes h.ht E S L W h.hz h.hs (.slice none 0 0) 0 [] (World.ownsRow_nil w _ e sz) G A M news y I j (by unfold maxLen;omega) (by omega) (bm _);have k:(Result.ok d.v B:Result aa)=.ok v2 w2:=K.symm.trans am;have H:=(Result.ok.inj k).1;subst H;rcases al.2 with⟨j,_⟩|⟨g2,ao,ap,j,h2,_⟩
    .have:d.a=none:=(Value.slice.inj j).1;simp[ax,this]at q
    .have:d.a=some ⟨g2,0,none⟩:=(Value.slice.inj j).1;simp[ax,this]at q;omega
   .obtain ⟨au,N,T⟩:=s;simp only at ab aj Z an D U;subst ab;by_cases ad:N+A<=T
    .subst L;have af:N *i.size+news.length<=cur.size:=by rw[y,Z,<-Nat.add_mul];exact oG _ ad
     have Q:=run_append_room (P:=P) w t ty e i h.ht E C N T cur ag G A M news y I j ad af;have k:=K.symm.trans Q;have:d.a=some ⟨C,0,none⟩:=(Value.slice.inj (Result.ok.inj k).1).1;simp[ax,this]at q ⊢;omega
    .subst L;have holds:∀x u,xs[x]? =some u->w.cell? ((⟨C,0,none⟩:Addr).add x)=some u:=World.ownsRow.cells (g:=C) F rfl;have Q:=run_append_grow (P:=P) w t ty e i z h.ht E S ⟨C,0,none⟩ N T xs F.len holds G A M news y I (by omega) (by omega) (growslice_fits (by omega) (by grind));have k:=K.symm.trans Q;have:d.a=some ⟨w.heap.size,0,none⟩:=(Value.slice.inj (Result.ok.inj k).1).1;simp[ax,this]at q;omega
  grind
def aK.cap{w:J}{e:aC}{sz:Nat}{s:Sl}{xs:List aa}(h:aK w e sz s xs):s.n<=s.c:=by
 rcases h.cases with⟨rfl,_⟩|⟨g,cur,_,_,h,_⟩
 .grind
 omega
def Rd(w:J)(s:Sl)(vs:List aa):Prop:=s.n=vs.length/\s.n<=s.c/\eV w s vs
def Ow(w:J)(e:aC)(s:Sl)(vs:List aa):Prop:=s.n=vs.length/\aK w e 1 s vs
def Ow.rd{w:J}{e:aC}{s:Sl}{vs:List aa}(h:Ow w e s vs):Rd w s vs:=⟨h.1,h.2.cap,h.2.row.r'⟩
def Rd.fr{M:Nat->Prop}{w w':J}{s:Sl}{vs:List aa}(h:Rd w s vs)(d:Fr M w w')(e:∀b∈ax s,¬M b):Rd w' s vs:=⟨h.1,h.2.1,h.2.2.fr d e⟩
def Ow.fr{M:Nat->Prop}{w w':J}{e:aC}{s:Sl}{vs:List aa}(h:Ow w e s vs)(d:Fr M w w')(j:∀b∈ax s,¬M b):Ow w' e s vs:=⟨h.1,h.2.fr d j⟩
def Rd.br{w w':J}{s:Sl}{vs:List aa}(h:Rd w s vs)(d:ag w w'):Rd w' s vs:=h.fr d λ_ _ h=>h
def Ow.br{w w':J}{e:aC}{s:Sl}{vs:List aa}(h:Ow w e s vs)(d:ag w w'):Ow w' e s vs:=h.fr d λ_ _ h=>h
def Rd.nil(w:J):Rd w ⟨none,0,0⟩ []:=⟨rfl,bm _,eV.nil w⟩
def Ow.nil(w:J)(e:aC):Ow w e ⟨none,0,0⟩ []:=⟨rfl,aK.nil w _ _⟩
def Ow.lt{w:J}{e:aC}{s:Sl}{vs:List aa}(h:Ow w e s vs):∀b∈ax s,b<w.heap.size:=h.2.lt
def Ow.made(w:J)(e:aC)(cs:List aa)(n:Nat)(d:n=cs.length)(h:n<=1000000):Ow (w.alloc (.cells cs.toArray e)) e ⟨some ⟨w.heap.size,0,none⟩,n,n⟩ cs:=
 ⟨d,aK.made w e 1 n cs (by omega) (by unfold maxLen;omega)⟩
def Rd.get{w:J}{s:Sl}{vs:List aa}(h:Rd w s vs){i j:Nat}{v:aa}(V:vs[i]? =some v)(d:j=i *1){K:Addr->Prop}(e:∀p,s.a=some p->w.cell? (p.add j)=some v->K p):W.dM s.a K:=h.2.2.get V d e
def Rd.sub{w:J}{s:Sl}{vs:List aa}(h:Rd w s vs)(l V:Nat)(d:l<=V)(k:V<=vs.length):Rd w (sub s l V) ((vs.take V).drop l):=by
 have e:=h.1;have j:=h.2.1;refine⟨?_,?_,h.2.2.sub l V (by omega) h.2.1 d (by omega)⟩
 .unfold W.sub;grind
 .unfold W.sub;grind
def Gg{t ty e:aC}{z:aa}{bytes:Nat}{P:aE}(A:g0 P t e z 1 bytes){w:J}{s src:Sl}{xs k:List aa}(q:Ow w e s xs)(h:Rd w src k)(G:∀u∈k,u.oneCell'=true)(H:(xs.length+k.length) *bytes<=140737488355328):
  ∃d j,(dY #[t,t] ty #[s.v,src.v]).run P w=.ok d.v j/\Ow j e d (xs++k)/\Fr (λb=>b∈ax s) w j/\(∀b∈ax d,b∈ax s\/w.heap.size<=b)/\(d.a=none->s.a=none/\k=[]):=by
 obtain⟨d,j,B,C,D,E,F,x⟩:=xr (ty:=ty) A q.2 h.2.2 (by rw[h.1];omega) G (by rw[q.1,h.1];exact H);refine⟨d,j,B,⟨?_,C⟩,E,F,λy=>⟨(x y).1,?_⟩⟩
 .rw [D,q.1,h.1];simp
 .have:=(x y).2;rw[h.1]at this
  grind
def B4{α:Type}(f:α->List aa)(sz:Nat)(e:∀a,(f a).length=sz):∀(cs:List α) (i j:Nat) (a:α),cs[i]? =some a->j<sz->(cs.flatMap f)[i *sz+j]? =(f a)[j]?
 |[],i,j,a,d,_=>by grind
 |c::cs,0,j,a,d,h=>by grind
 |c::cs,i+1,j,a,d,h=>by rw[cV,List.getElem?_append_right (by grind),e,show(i+1) *sz+j - sz=i *sz+j by grind];exact B4 f sz e cs i j a (by grind) h
def oX{α:Type}(f:α->List aa)(sz:Nat)(d:∀a,(f a).length=sz)(cs:List α):(cs.flatMap f).length=cs.length *sz:=by
 induction cs with
 |nil=>simp
 |cons c cs e=>grind
def eV.elem{α:Type}{f:α->List aa}{sz:Nat}(j:∀a,(f a).length=sz)(z:0<sz){w:J}{s:Sl}{cs:List α}(h:eV w s (cs.flatMap f)){i:Nat}{a:α}(V:cs[i]? =some a){K:Addr->Prop}(y:∀p,s.a=some p->(∀d v,(f a)[d]? =some v->w.cell? ((p.add (i *sz)).add d)=some v)->K p):W.dM s.a K:=by
 obtain⟨B,C⟩:∃v,(f a)[0]? =some v:=⟨_,a4 (by grind)⟩;obtain⟨p,e,_⟩:=h.2 (i *sz+0) B (by rw[B4 f sz j cs i 0 a V z];omega);rw[e];refine y p e λd v A=>?_;have x:d<sz:=by grind
 obtain⟨D,k,q⟩:=h.2 (i *sz+d) v (by rw[B4 f sz j cs i d a V x];exact A);rw[e]at k;cases k;rw[add_add];exact q
def tC{w:J}{b:Nat}{cs:Array aa}{T:aC}(h:w.heap[b]? =some (.cells cs T (0,0)))(i:Nat)(V:i<cs.size)(v:aa):
  (w.cell? ((ab b).add i)).isSome=true/\w.frozen? ((ab b).add i)=false/\(w.setCell ((ab b).add i) v).heap[b]? =some (.cells (cs.setIfInBounds i v) T (0,0))/\Fr (·=b) w (w.setCell ((ab b).add i) v):=by
 refine⟨?_,frozenAt (p:=ab b) h,?_,Fr.set _ _ _ (iX _ _)⟩
 .rw [cellAt (p:=ab b) (v:=cs[i]) h rfl (by grind)];rfl
 .have:=setAt (p:=ab b) (i:=i) (v:=v) h rfl
  grind
def Fr.put(w:J)(l:Nat)(o:Obj):Fr (·=l) w (w.putObj l o):=⟨rfl,rfl,rfl,by simp[World.putObj],λh _ e=>by have:l≠h:=λd=>e d.symm;simp[World.putObj,Array.getElem?_setIfInBounds_ne this]⟩
def YU{w:J}{l:Nat}{x:Obj}(h:w.heap[l]? =some x)(o:Obj):(w.putObj l o).heap[l]? =some o:=by have:=lt_of_heap h;simp[World.putObj,this]
def S'(x y:Nat)(e:x<18446744073709551616)(h:y<18446744073709551616):lj .u64 (x:Int) (y:Int)=((x&&& y:Nat):Int):=by
 unfold lj;have d:(eF (IntKind.bits .u64) (x:Int)&&& eF (IntKind.bits .u64) (y:Int)).toNat=x&&& y:=by
  show(eF 64 (x:Int)&&& eF 64 (y:Int)).toNat=_
  grind
 rw[d];have:x&&& y<=x:=Nat.and_le_left;exact IntWalk.u64_in _ (by omega)
def Tb(x y:Nat)(e:x<18446744073709551616)(h:y<18446744073709551616):qe .u64 (x:Int) (y:Int)=((x|||y:Nat):Int):=by
 unfold qe;have d:(eF (IntKind.bits .u64) (x:Int)|||eF (IntKind.bits .u64) (y:Int)).toNat=x|||y:=by
  show(eF 64 (x:Int)|||eF 64 (y:Int)).toNat=_
  grind
 rw[d];have:x|||y<2^64:=Nat.or_lt_two_pow e h
 exact IntWalk.u64_in _ (by omega)
def Gm(x y:Nat)(e:x<18446744073709551616)(h:y<18446744073709551616):mR .u64 (x:Int) (y:Int)=((x^^^y:Nat):Int):=by
 unfold mR;have d:(eF (IntKind.bits .u64) (x:Int)^^^eF (IntKind.bits .u64) (y:Int)).toNat=x^^^y:=by
  show(eF 64 (x:Int)^^^eF 64 (y:Int)).toNat=_
  grind
 rw[d];have:x^^^y<2^64:=Nat.xor_lt_two_pow e h;exact IntWalk.u64_in _ (by omega)
def abw(x:Nat)(h:x<18446744073709551616):x^^^18446744073709551615=18446744073709551615 - x:=by
 have d:=BitVec.toNat_not (x:=BitVec.ofNat 64 x);have e:(~~~ (BitVec.ofNat 64 x))=BitVec.ofNat 64 x^^^BitVec.allOnes 64:=(BitVec.xor_allOnes).symm
 grind
def Ys(n a i:Nat)(h:n<2^i):n|||(a *2^i)=n+a *2^i:=by rw[Nat.mul_comm a,Nat.or_comm,<-Nat.two_pow_add_eq_or_of_lt h,Nat.add_comm]
def Yj(x:Int):BitVec.toInt (eF 64 x)=aj .i64 x:=by
 rw[BitVec.toInt_ofInt,IntKind.wrap_i64,show((2^64:Nat))=18446744073709551616 from rfl]
 grind
def R0(b:BitVec 64):aj .i64 (b.toNat:Int)=b.toInt:=by
 rw[IntKind.wrap_i64,BitVec.toInt_eq_toNat_bmod,show((2^64:Nat))=18446744073709551616 from rfl]
 grind
def Te(x:Int)(h:-9223372036854775808<=x/\x<=9223372036854775807):mR .i64 x 0=x:=by unfold mR;show aj .i64 ((eF 64 x^^^eF 64 0).toNat:Int)=x;rw[show eF 64 0=0#64 from rfl,BitVec.xor_zero,R0,Yj,IntWalk.i64_in _ h]
def Td(x:Int)(h:-9223372036854775808<=x/\x<=9223372036854775807):mR .i64 x (-1)=-x - 1:=by
 unfold mR;show aj .i64 ((eF 64 x^^^eF 64 (-1)).toNat:Int)=_;rw[show eF 64 (-1)=BitVec.allOnes 64 from rfl,BitVec.xor_allOnes,R0,BitVec.toInt_not,BitVec.toNat_ofInt,show((2^64:Nat))=18446744073709551616 from rfl]
 grind
def Ta(c:UInt8):lj .u8 (c.toNat:Int) 127=((c.toNat%128:Nat):Int):=by
 have e:∀d:Fin 256,lj .u8 (d.val:Int) 127=((d.val%128:Nat):Int):=by decide+kernel
 exact e ⟨c.toNat,c.toNat_lt⟩
def Tc(n:Nat)(h:n<256):qe .u8 (n:Int) 128=((n%128+128:Nat):Int):=by
 have e:∀d:Fin 256,qe .u8 (d.val:Int) 128=((d.val%128+128:Nat):Int):=by decide+kernel
 exact e ⟨n,h⟩
def Fk(n:Nat):aj .u8 (n:Int)=((n%256:Nat):Int):=by rw[IntKind.wrap_u8];omega
def rf(n:Nat)(h:n<18446744073709551616):aj .u64 (n:Int)=(n:Int):=IntWalk.u64_in _ (by omega)
def x5(n m:Nat)(h:0<m):Int.fdiv (n:Int) (m:Int)=((n / m:Nat):Int):=by grind
def bb(i:Nat)(h:i<9223372036854775807):aj .i64 ((i:Int)+1)=((i+1:Nat):Int):=by rw[IntWalk.i64_in _ (by omega)];omega
structure En where
 fp:List Nat
 P:J->Prop
 st:∀w w',(∀b∈fp,b<w.heap.size->w'.heap[b]? =w.heap[b]?)->P w->P w'
 lt:∀w,P w->∀b∈fp,b<w.heap.size
 nd:fp.Nodup
def En.ob(b:Nat)(o:Obj):En:=⟨[b],λe=>e.heap[b]? =some o,λe k h d=>(h b (by simp) (lt_of_heap d)).trans d,λe d q j=>by grind,by simp⟩
abbrev En.c(b:Nat)(vs:List aa)(T:aC):En:=.ob b (.cells vs.toArray T (0,0))
def En.row(e:aC)(sz:Nat)(s:Sl)(vs:List aa):En:=⟨ax s,λj=>aK j e sz s vs,λ_ _ h d=>d.cb h,λ_ d=>d.lt,by unfold ax;grind⟩
def En.rd(s:Sl)(vs:List aa):En:=⟨if vs=[]then[]else ax s,λq=>Rd q s vs,λq A w d=>by
  refine⟨d.1,d.2.1,d.2.2.1,λi v y=>?_⟩;obtain⟨p,h,e⟩:=d.2.2.2 i v y;have k:vs≠[]:=λz=>by grind
  rw[af k]at w;have:=w p.block (by simp[ax,h]) (by have:=nO e;rwa[iX]at this);refine⟨p,h,?_⟩;unfold World.cell? at e ⊢;rw[iX]at e ⊢
  grind,λq d b j=>by
  split at j
  .cases j
  .rename_i k;have x:0<vs.length:=List.length_pos_iff.2 k;obtain⟨p,h,e⟩:=d.2.2.2 0 vs[0] (a4 x);simp[ax,h]at j;subst j;have:=nO e
   rwa[iX]at this,by split<;>(try simp);unfold ax;grind⟩
structure LH(M:Nat->Prop)(w0 w:J)(L D:List En):Prop where
 fr:Fr M w0 w
 own:∀e∈L,e.P w
 rd:∀e∈D,e.P w
 new:∀e∈L,∀b∈e.fp,w0.heap.size<=b\/M b
 nd:(L.flatMap (·.fp)).Nodup
 dj:∀e∈D,∀b∈e.fp,∀e'∈L,b∉e'.fp
def LH.start{M:Nat->Prop}{w:J}(D:List En)(h:∀d∈D,d.P w):LH M w w [] D:=⟨Fr.refl _ _,by simp,h,by simp,by simp,by simp⟩
def LH.tK{M:Nat->Prop}{w:J}(L D:List En)(j:∀d∈L,d.P w/\∀b∈d.fp,M b)(x:(L.flatMap (·.fp)).Nodup)(h:∀d∈D,d.P w/\∀b∈d.fp,∀k∈L,b∉k.fp):LH M w w L D:=
 ⟨Fr.refl _ _,λd e=>(j d e).1,λd e=>(h d e).1,λd e b q=>.inr ((j d e).2 b q),x,λd e=>(h d e).2⟩
def LH.br{M:Nat->Prop}{w0 w w':J}{L D:List En}(H:LH M w0 w L D)(f:ag w w'):LH M w0 w' L D:=
 ⟨H.fr.dA f,λd e=>d.st w w' (λb _ h=>f.cb b h id) (H.own d e),λd e=>d.st w w' (λb _ h=>f.cb b h id) (H.rd d e),H.new,H.nd,H.dj⟩
def LH.drew{M:Nat->Prop}{w0 w:J}{L D:List En}(H:LH M w0 w L D):LH M w0 w.drew L D:=H.br (Fr.drew _ _)
def Dr{α:Type}{f:α->List Nat}:∀{L:List α} {i:Nat} {e d:α},L[i]? =some e->(L.flatMap f).Nodup->(f d).Nodup->(∀j∈f d,j∈f e\/j∉L.flatMap f)->((L.set i d).flatMap f).Nodup
 |[],i,e,d,h,_,_,_=>by grind
 |a::L,0,e,d,h,k,q,w=>by grind
 |a::L,i+1,e,d,h,k,q,w=>by
  simp only[List.getElem?_cons_succ]at h;simp only[List.set_cons_succ,cV,gT]at k ⊢;refine⟨k.1,Dr h k.2.1 q (λj x=>(w j x).imp id λh y=>h (by grind)),λj x A z=>?_⟩
  grind
def LH.DM{M:Nat->Prop}{w0 w:J}{L D:List En}(H:LH M w0 w L D):∀b∈L.flatMap (·.fp),b<w.heap.size:=λb d=>by obtain⟨e,h,d⟩:=bS.1 d;exact e.lt w (H.own e h) b d
def mf{L:List En}(d:(L.flatMap (·.fp)).Nodup):∀{i:Nat} {e:En},L[i]? =some e->∀{j:Nat} {g:En},L[j]? =some g->i≠j->∀b∈e.fp,b∉g.fp:=by
 induction L with
 |nil=>grind
 |cons a L h=>
  simp only[cV,gT]at d
  grind
def LH.gv{M:Nat->Prop}{w0 w w':J}{L D:List En}(H:LH M w0 w L D){e:En}(i:Nat)(k:En)(V:L[i]? =some e)(f:Fr (·∈e.fp) w w')(Q:k.P w')(A:∀b∈k.fp,b∈e.fp\/w.heap.size<=b):LH M w0 w' (L.set i k) D:=by
 have x:=aD V;have I:Fr M w0 w':=H.fr.trans f λy F K=>(H.new e x y K).resolve_left (by omega);refine⟨I,λg d=>?_,λg d=>?_,λg d b h=>?_,Dr V H.nd k.nd λy F=>?_,λg d b h G B E=>?_⟩
 .obtain ⟨S,q⟩:=g7.1 d;rw[List.getElem?_set]at q;split at q
  .grind
  .rename_i N;refine g.st w w' (λb h C=>f.cb b C λz=>mf H.nd V q N b z h) (H.own g (aD q))
 .exact g.st w w' (λb h C=>f.cb b C λz=>H.dj g d b h e x z) (H.rd g d)
 .rcases List.mem_or_eq_of_mem_set d with d|rfl
  .exact H.new g d b h
  .rcases A b h with j|j
   .exact H.new e x b j
   .exact .inl (a6 H.fr.size j)
 .rcases A y F with j|j
  .grind
  .exact .inr λO=>by have:=H.DM y O;omega
 .rcases List.mem_or_eq_of_mem_set B with B|rfl
  .exact H.dj g d b h G B E
  .rcases A b E with j|j
   .exact H.dj g d b h e x j
   .have:=g.lt w (H.rd g d) b h;omega
def LH.push{M:Nat->Prop}{w0 w w':J}{L D:List En}(H:LH M w0 w L D)(e:En)(f:ag w w')(C:e.P w')(z:∀b∈e.fp,w.heap.size<=b):LH M w0 w' (L++[e]) D:=by
 have k:=H.br f;refine⟨k.fr,λg d=>?_,k.rd,λg d b j=>?_,?_,λg d b j q h y=>?_⟩
 .rcases aY.1 d with d|d
  .exact k.own g d
  grind
 .rcases aY.1 d with d|d
  .exact H.new g d b j
  .simp at d;subst d;exact .inl (a6 H.fr.size (z b j))
 .rw [List.flatMap_append,gT];refine⟨H.nd,by simpa using e.nd,λB A F E=>?_⟩;rintro rfl;have x:=H.DM B A
  grind
 .rcases aY.1 h with h|h
  .exact H.dj g d b j q h y
  .simp at h;subst h;have x:=g.lt w (H.rd g d) b j
   grind
def LH.alloc{M:Nat->Prop}{w0 w:J}{L D:List En}(H:LH M w0 w L D)(o:Obj):LH M w0 (w.alloc o) (L++[.ob w.heap.size o]) D:=
 H.push _ (Fr.alloc _ _ _) (j2 w o) (λb d=>by simp[En.ob]at d;omega)
def LH.gy{M:Nat->Prop}{w0 w w':J}{L D:List En}(H:LH M w0 w L D)(e:En)(f:ag w w')(G:e.P w')(A:∀b∈e.fp,w.heap.size<=b\/(b<w0.heap.size/\¬M b)\/∃g∈D,b∈g.fp):LH M w0 w' L (D++[e]):=by
 have h:=H.br f;refine⟨h.fr,h.own,λg d=>?_,h.new,h.nd,λg d b x j q k=>?_⟩
 .rcases aY.1 d with d|d
  .exact h.rd g d
  grind
 .rcases aY.1 d with d|d
  .exact H.dj g d b x j q k
  .simp at d;subst d;rcases A b x with y|⟨y,B⟩|⟨E,C,z⟩
   .have:=j.lt w (H.own j q) b k;omega
   .exact (H.new j q b k).elim (λF=>by omega) B
   .exact H.dj E C b z j q k
def LH.forget{M:Nat->Prop}{w0 w:J}{L D:List En}(H:LH M w0 w L D)(j:List En)(h:∀d∈j,d∈D):LH M w0 w L j:=⟨H.fr,H.own,λd e=>H.rd d (h d e),H.new,H.nd,λd e=>H.dj d (h d e)⟩
def vI{α:Type}{a:α}:∀{l:List α} {i:Nat},a∈l.eraseIdx i->a∈l
 |[],_,d=>by grind
 |b::l,0,d=>by grind
 |b::l,i+1,d=>by
  simp at d;rcases d with d|d
  .simp [d]
  .exact List.mem_cons_of_mem _ (vI d)
def Nu{α:Type}{f:α->List Nat}:∀{L:List α} {i:Nat},(L.flatMap f).Nodup->((L.eraseIdx i).flatMap f).Nodup
 |[],i,d=>by simp
 |a::L,0,d=>by grind
 |a::L,i+1,d=>by simp only[List.eraseIdx_cons_succ,cV,gT]at d ⊢;refine⟨d.1,Nu d.2.1,λq h w k=>d.2.2 q h w ?_⟩;obtain⟨g,e,j⟩:=bS.1 k;exact bS.2 ⟨g,vI e,j⟩
def Is{α:Type}{f:α->List Nat}:∀{L:List α} {i:Nat} {e:α},L[i]? =some e->(L.flatMap f).Nodup->∀b∈f e,∀g∈L.eraseIdx i,b∉f g
 |[],i,e,d,_=>by grind
 |a::L,0,e,d,j=>by grind
 |a::L,i+1,e,d,j=>by
  simp only[cV,gT]at j;intro b k g h q;simp only[List.getElem?_cons_succ]at d;simp only[List.eraseIdx_cons_succ,au]at h;rcases h with rfl|h
  .grind
  .exact Is d j.2.1 b k g h q
def LH.freeze{M:Nat->Prop}{w0 w:J}{L D:List En}(H:LH M w0 w L D){e:En}(i:Nat)(h:En)(V:L[i]? =some e)(y:h.P w)(x:∀b∈h.fp,b∈e.fp):LH M w0 w (L.eraseIdx i) (D++[h]):=by
 refine⟨H.fr,λg d=>H.own g (vI d),λg d=>?_,λg d=>H.new g (vI d),Nu H.nd,λg d b k j q=>?_⟩
 .rcases aY.1 d with d|d
  .exact H.rd g d
  grind
 .rcases aY.1 d with d|d
  .exact H.dj g d b k j (vI q)
  .simp at d;subst d;exact Is V H.nd b (x b k) j q
def LH.get{M:Nat->Prop}{w0 w:J}{L D:List En}(H:LH M w0 w L D)(i:Nat){e:En}(V:L[i]? =some e:=by rfl):e.P w:=H.own e (aD V)
def LH.getD{M:Nat->Prop}{w0 w:J}{L D:List En}(H:LH M w0 w L D)(i:Nat){e:En}(V:D[i]? =some e:=by rfl):e.P w:=H.rd e (aD V)
section
variable {M:Nat->Prop} {w0 w:J} {L D:List En}
def LH.ob(H:LH M w0 w L D)(i:Nat){b:Nat}{o:Obj}(V:L[i]? =some (.ob b o):=by rfl):w.heap[b]? =some o:=H.own _ (aD V)
def LH.ld(H:LH M w0 w L D)(i j:Nat){b:Nat}{vs:List aa}{T:aC}{v:aa}(V:L[i]? =some (.c b vs T):=by rfl)(d:vs[j]? =some v:=by rfl):w.cell? ((ab b).add j)=some v:=
 cellAt (p:=ab b) (H.ob i V) rfl (by grind)
def LH.j6(H:LH M w0 w L D)(i:Nat){b:Nat}{vs:List aa}{T:aC}{v:aa}(V:L[i]? =some (.c b vs T):=by rfl)(d:vs[0]? =some v:=by rfl):w.cell? (ab b)=some v:=by
 have:=H.ld i 0 V d
 rwa[iW]at this
def LH.set(H:LH M w0 w L D)(i j:Nat){b:Nat}{vs:List aa}{T:aC}{v:aa}(V:L[i]? =some (.c b vs T))(x:j<vs.length):
  (w.cell? ((ab b).add j)).isSome=true/\w.frozen? ((ab b).add j)=false/\LH M w0 (w.setCell ((ab b).add j) v) (L.set i (.c b (vs.set j v) T)) D:=by obtain⟨h,k,z,q⟩:=tC (H.ob i V) j (by omega) v;exact⟨h,k,H.gv i (.c b (vs.set j v) T) V (q.mono λy _ d=>by simp[En.ob,d]) (by show _=_;grind) (λb e=>.inl e)⟩
def LH.st(H:LH M w0 w L D)(i j:Nat){b:Nat}{vs:List aa}{T:aC}{v:aa}{K:J->Prop}(V:L[i]? =some (.c b vs T))(h:∀d,LH M w0 d (L.set i (.c b (vs.set j v) T)) D->K d)(e:j<vs.length:=by simp):aP w ((ab b).add j) v K:=by
 obtain⟨k,q,x⟩:=H.set (v:=v) i j V e
 grind
def LH.jK(H:LH M w0 w L D)(i:Nat){b:Nat}{vs:List aa}{T:aC}{v:aa}{K:J->Prop}(V:L[i]? =some (.c b vs T))(e:∀d,LH M w0 d (L.set i (.c b (vs.set 0 v) T)) D->K d)(h:0<vs.length:=by simp):aP w (ab b) v K:=by
 have:=H.st (v:=v) (K:=K) i 0 V e h
 rwa[iW]at this
def LH.EP(H:LH M w0 w L D)(i:Nat){b:Nat}{C j e:aa}{T:aC}{d h k:aa}{K:J->Prop}(V:L[i]? =some (.c b [C,j,e] T))(E:∀q,LH M w0 q (L.set i (.c b [d,h,k] T)) D->K q):aP w (ab b) d λx=>aP x ((ab b).add 1) h λy=>aP y ((ab b).add 2) k K:=by have G:=(cz.1 V).1;exact H.jK i V (λx z=>z.st (vs:=[d,j,e]) (T:=T) i 1 (by grind) (λy A=>A.st (vs:=[d,h,e]) (T:=T) i 2 (by grind) (λF B=>E F (by simpa using B))))
def LH.jL(H:LH M w0 w L D)(i:Nat){b:Nat}{I q j e:aa}{T:aC}{d h k x:aa}{K:J->Prop}(V:L[i]? =some (.c b [I,q,j,e] T))(N:∀y,LH M w0 y (L.set i (.c b [d,h,k,x] T)) D->K y):aP w (ab b) d λz=>aP z ((ab b).add 1) h λA=>aP A ((ab b).add 2) k λB=>aP B ((ab b).add 3) x K:=by have P:=(cz.1 V).1;exact H.jK i V (λz C=>C.st (vs:=[d,q,j,e]) (T:=T) i 1 (by grind) (λA E=>E.st (vs:=[d,h,j,e]) (T:=T) i 2 (by grind) (λB F=>F.st (vs:=[d,h,k,e]) (T:=T) i 3 (by grind) (λO G=>N O (by simpa using G)))))
def LH.Qm(H:LH M w0 w L D)(i:Nat){b:Nat}{Q y q j e:aa}{T:aC}{d h k x z:aa}{K:J->Prop}(V:L[i]? =some (.c b [Q,y,q,j,e] T))(S:∀A,LH M w0 A (L.set i (.c b [d,h,k,x,z] T)) D->K A):aP w (ab b) d λB=>aP B ((ab b).add 1) h λC=>aP C ((ab b).add 2) k λE=>aP E ((ab b).add 3) x λF=>aP F ((ab b).add 4) z K:=by have W:=(cz.1 V).1;exact H.jK i V (λB G=>G.st (vs:=[d,y,q,j,e]) (T:=T) i 1 (by grind) (λC I=>I.st (vs:=[d,h,q,j,e]) (T:=T) i 2 (by grind) (λE N=>N.st (vs:=[d,h,k,j,e]) (T:=T) i 3 (by grind) (λF O=>O.st (vs:=[d,h,k,x,e]) (T:=T) i 4 (by grind) (λU P=>S U (by simpa using P))))))
def LH.st7(H:LH M w0 w L D)(i:Nat){b:Nat}{a0 C A y q j e:aa}{T:aC}{d h k x z B E:aa}{K:J->Prop}(V:L[i]? =some (.c b [a0,C,A,y,q,j,e] T))(hK:∀F,LH M w0 F (L.set i (.c b [d,h,k,x,z,B,E] T)) D->K F):aP w (ab b) d λG=>aP G ((ab b).add 1) h λI=>aP I ((ab b).add 2) k λN=>aP N ((ab b).add 3) x λO=>aP O ((ab b).add 4) z λP=>aP P ((ab b).add 5) B λQ=>aP Q ((ab b).add 6) E K:=by have hl:=(cz.1 V).1;exact H.jK i V (λG S=>S.st (vs:=[d,C,A,y,q,j,e]) (T:=T) i 1 (by grind) (λI U=>U.st (vs:=[d,h,A,y,q,j,e]) (T:=T) i 2 (by grind) (λN W=>W.st (vs:=[d,h,k,y,q,j,e]) (T:=T) i 3 (by grind) (λO Z=>Z.st (vs:=[d,h,k,x,q,j,e]) (T:=T) i 4 (by grind) (λP H5=>H5.st (vs:=[d,h,k,x,z,j,e]) (T:=T) i 5 (by grind) (λQ H6=>H6.st (vs:=[d,h,k,x,z,B,e]) (T:=T) i 6 (by grind) (λw7 H7=>hK w7 (by simpa using H7))))))))
def LH.nw(H:LH M w0 w L D){cs:Array aa}{T:aC}{K:J->Prop}(e:∀d,d.heap.size=w.heap.size+1->LH M w0 d (L++[.c w.heap.size cs.toList T]) D->K d):c9 w (.cells cs T) K:=e _ (size_alloc _ _) (H.alloc _)
def LH.oa(H:LH M w0 w L D){o:Obj}{K:J->Prop}(e:∀d,d.heap.size=w.heap.size+1->LH M w0 d L D->d.heap[w.heap.size]? =some o->K d):c9 w o K:=e _ (size_alloc _ _) (H.br (Fr.alloc _ _ _)) (j2 w o)
def LH.dr(H:LH M w0 w L D){K:J->Prop}(e:∀d,LH M w0 d L D->K d):lr w K:=e _ H.drew
def LH.pu(H:LH M w0 w L D)(i:Nat){b:Nat}{o d:Obj}{K:J->Prop}(V:L[i]? =some (.ob b o))(j:∀e,LH M w0 e (L.set i (.ob b d)) D->K e):lL w b o d K:=
 ⟨H.ob i V,j _ (H.gv i (.ob b d) V ((Fr.put w b d).mono λq _ h=>by simp[En.ob,h]) (YU (H.ob i V) d) (λb k=>.inl k))⟩
def LH.ap(H:LH M w0 w L D)(i:Nat){P:aE}{t ty e:aC}{z:aa}{sz bytes:Nat}(j:g0 P t e z sz bytes){s src:Sl}{xs news:List aa}{K:Sl->J->Prop}(V:L[i]? =some (.row e sz s xs))(I:eV w src news)(G:news.length=src.n *sz)(C:∀u∈news,u.oneCell'=true)(F:(s.n+src.n) *bytes<=140737488355328)(E:∀d h,LH M w0 h (L.set i (.row e sz d (xs++news))) D->d.n=s.n+src.n->(d.a=none->s.a=none/\src.n=0)->K d h):
  ∃d h,(dY #[t,t] ty #[s.v,src.v]).run P w=.ok d.v h/\K d h:=by obtain⟨d,h,k,q,x,y,A,B⟩:=xr (ty:=ty) j (H.get i V) I G C F;exact⟨d,h,k,E d h (H.gv i (.row e sz d (xs++news)) V y q A) x B⟩
def LH.uE(H:LH M w0 w L D)(i:Nat){P:aE}{t ty e:aC}{z:aa}{sz bytes:Nat}(k:g0 P t e z sz bytes){T:aC}{s:Sl}{xs:List aa}{news:Array aa}{K:Sl->J->Prop}(V:L[i]? =some (.row e sz s xs))(y:∀d h,LH M w0 h (L.set i (.row e sz d (xs++news.toList))) D->d.n=s.n+1->d.a≠none->K d h)(A:(s.n+1) *bytes<=140737488355328)(F:news.size=sz:=by rfl)(x:∀u∈news.toList,u.oneCell'=true:=by simp[Value.oneCell']):
  c9 w (.cells news T) λC=>∃d h,(dY #[t,t] ty #[s.v,.slice (some (Addr.mk w.heap.size 0 none)) 1 1]).run P C=.ok d.v h/\K d h:=by have j:LH M w0 (w.alloc (.cells news T)) L D:=H.br (Fr.alloc _ _ _);refine j.ap i k (src:=⟨some (ab w.heap.size),1,1⟩) (ty:=ty) (K:=K) (news:=news.toList) V ((Row.made w T 1 1 news.toList).r') (by grind) x A (λd h q B G=>y d h q B λE=>by grind)
def LH.hR(H:LH M w0 w L D)(e:aC)(sz:Nat):LH M w0 w (L++[.row e sz ⟨none,0,0⟩ []]) D:=H.push _ (Fr.refl _ _) (aK.nil w e sz) (λb d=>by simp[En.row,ax]at d)
end
def aK.yW{w:J}{e:aC}{s:Sl}{vs:List aa}(h:aK w e 1 s vs):Ow w e s vs:=⟨by have:=h.len;omega,h⟩
def aK.jd{w:J}{e:aC}{s:Sl}{vs:List aa}(h:aK w e 1 s vs):Rd w s vs:=h.yW.rd
abbrev F0:Nat->Prop:=λ_=>False
def LH.take{M:Nat->Prop}{w0 w:J}{L D:List En}(H:LH M w0 w L D)(n:Nat):LH M w0 w (L.take n) D:=
 ⟨H.fr,λd e=>H.own d (nl e),H.rd,λd e=>H.new d (nl e),by
  have:=H.nd
  grind,λd e b j h k=>H.dj d e b j h (nl k)⟩
def aL{a b:Int}{A B:Prop}(e:a=b->A)(h:a≠b->B):bh (a==b) A B:=bB (λd=>e (by grind)) (λd=>h (by grind))
def di{a b:Int}{A B:Prop}(e:a≠b->A)(h:a=b->B):bh (a !=b) A B:=bB (λd=>e (by grind)) (λd=>h (by grind))
def aF{p:Prop}[Decidable p]{A B:Prop}(e:p->A)(h:¬p->B):bh (decide p) A B:=bB (λd=>e (eH d)) (λd=>h (hZ d))
def dN{b:Bool}{A B:Prop}(e:b=false->A)(h:b=true->B):bh (!b) A B:=bB (λd=>e (by grind)) (λd=>h (by grind))
def LH.e7{M:Nat->Prop}{w0 w:J}{L D:List En}(H:LH M w0 w L D)(i j:Nat){b:Nat}{vs:List aa}{T:aC}{v:aa}(V:D[i]? =some (.c b vs T):=by rfl)(d:vs[j]? =some v:=by rfl):w.cell? ((ab b).add j)=some v:=
 cellAt (p:=ab b) (show w.heap[b]? =_ from H.rd _ (aD V)) rfl (by grind)
def LH.UD{M:Nat->Prop}{w0 w w':J}{L D:List En}(H:LH M w0 w L D)(i:Nat){b:Nat}{vs d:List aa}{T:aC}(f:Fr (·=b) w w')(h:w'.heap[b]? =some (.cells d.toArray T (0,0)))(V:L[i]? =some (.c b vs T):=by rfl):LH M w0 w' (L.set i (.c b d T)) D:=
 H.gv i (.c b d T) V (f.mono λk _ e=>by simp[En.ob,e]) h (λb j=>.inl j)
def LH.cN{M:Nat->Prop}{w0 w:J}{L D:List En}(H:LH M w0 w L D){e:aC}{sz n:Nat}{cs:List aa}(k:cs.length=n *sz)(q:n<=maxLen){K:J->Prop}(h:∀d,LH M w0 d (L++[.row e sz ⟨some (ab w.heap.size),n,n⟩ cs]) D->K d):c9 w (.cells cs.toArray e) K:=
 h _ (H.push _ (Fr.alloc _ _ _) (aK.made w e sz n cs k q) (λb j=>by simp[En.row,ax]at j;omega))
def gu(P:aE)(o:Oper)(E:Env)(w:J)(K:Env->J->Prop):Prop:=
 bif calm P o then mU P o E w λv _=>K (E.put o.dst v) w else g5 P o E w λv d=>K (E.put o.dst v) d
def uJ(ops:Array Oper):Bool:=(List.range ops.size).all λi=>match ops[i]? with
 |some o=>o.guard.isNone&&o.after.toList.all λd=>!(Region.binds .any d)||Nat.blt d.on i
 |none=>true
abbrev dk(L:Nat->Bool)(i:Nat):Nat->Bool:=λd=>bO d i||L d
section
variable {P:aE} {ops:Array Oper} {n:Cx} {K:Env->J->Prop}
def AW(h:uJ ops=true){i:Nat}{o:Oper}(e:ops[i]? =some o):o.guard=none/\∀d∈o.after,Region.binds .any d=true->d.on<i:=by unfold uJ at h;have k:i<ops.size:=(Array.getElem?_eq_some_iff.1 e).1;have:=ft.1 h i (List.mem_range.2 k);rw[e]at this;simp only[bq]at this;refine⟨by simpa using this.1,λd q j=>?_⟩;have:=ft.1 this.2 d (by grind);rw[j]at this;simpa using this
def aav{i:Nat}{o:Oper}{a:Act}{E:Env}{w:J}{Kh:Env->J->Prop}{K':Act->J->Prop}{Q:Exit->Act->J->Prop}(k:dR n ops=true)(d:ops[i]? =some o)(C:o.guard=none)(e:Ag n a E)(h:gu P o E w Kh)(next:∀y x q,Ag n y x->Kh x q->K' y q):wpOp P ops Q i K' a w:=by
 have A:=Region.noSelect_spec (ops:=ops) (by unfold dR at k;grind);have B:db o (yielded ops a.tmps)=true:=by simp[db,C]
 unfold gu at h;cases z:calm P o with
 |true=>
  rw[z]at h;simp only[cond_true]at h;obtain⟨v,I,D,F,G⟩:=xI (λj b=>A i o j b d) e h;unfold wpOp;simp only[d,B,if_true];refine .inl ?_;unfold Oper.wp;rw[G w F];exact next _ _ _ (e.put v (gH k d)) D
 |false=>
  rw[z]at h;simp only[cond_false]at h;exact wV d B (mW (λj b=>A i o j b d) e h) λv q H=>next _ _ _ (e.put v (gH k d)) H
def abn(hn:dR n ops=true)(D:uJ ops=true)(z:(Nat->Bool)->Env->J->Prop)(step:∀j E w i o,ops[i]? =some o->j i=false->(∀k∈o.after,Region.binds .any k=true->j k.on=true)->z j E w->gu P o E w λB H=>z (dk j i) B H)(fin:∀j E w,(∀i,i<ops.size->j i=true)->z j E w->K E w):
  ∀(fuel:Nat) (e:Array Bool) (a:Act) (E:Env) (w:J),e.size=ops.size->Ag n a E->z (λd=>e.getD d false) E w->((List.range ops.size).filter λd=>!e.getD d false).length<=fuel->
   wpAny P .any ops (hc n K) fuel e a w:=by
 have done:∀(e:Array Bool) (a:Act) (E:Env) (w:J),e.size=ops.size->Ag n a E->z (λd=>e.getD d false) E w->eG .any ops e=[]->hc n K .normal a w:=by
  intro e a E w F x q hr;refine⟨E,x,fin _ E w (λi=>?_) q⟩;induction i using Nat.strongRecOn with
  |_ i G=>
   intro y;cases V:e.getD i false with
   |true=>rfl
   |false=>
    exfalso;have h:ops[i]? =some ops[i]:=Array.getElem?_eq_getElem y;have N:i∈eG .any ops e:=mem_ready.2 ⟨by
     grind,_,h,λk A L=>G k.on ((AW D h).2 k A L) (Nat.lt_trans ((AW D h).2 k A L) y)⟩
    grind
 intro fuel;induction fuel with
 |zero=>
  intro e a E w F x q U;have C:∀i,i<ops.size->e.getD i false=true:=λi y=>by
   cases V:e.getD i false with
   |true=>rfl
   |false=>
    have:i∈(List.range ops.size).filter λd=>!e.getD d false:=List.mem_filter.2 ⟨List.mem_range.2 y,by grind⟩
    grind
  refine⟨?_,E,x,fin _ E w C q⟩;cases hr:eG .any ops e with
  |nil=>rfl
  |cons i l=>
   have N:i∈eG .any ops e:=by grind
   obtain⟨Q,o,h,_⟩:=mem_ready.1 N
   grind
 |succ fuel G=>
  intro e a E w F x q U;refine⟨done e a E w F x q,λi y=>?_⟩;obtain⟨Q,o,h,C⟩:=mem_ready.1 y;have Z:i<ops.size:=(Array.getElem?_eq_some_iff.1 h).1;have W:i<e.size:=by omega
  have S:e.getD i false=false:=by grind
  refine aav hn h (AW D h).1 x (step _ E w i o h S C q) λO B H T I=>?_;have A:(dk (λd=>e.getD d false) i)=λd=>(e.setIfInBounds i true).getD d false:=by
   funext d;by_cases M:i=d
   .subst M;simp[dk,W]
   .have:bO d i=false:=by rw[<-iR,ep];omega
    rw[getD_set_ne false M]
    grind
  rw[A]at I;refine G _ O B H (by grind) T I ?_;have ab:((List.range ops.size).filter λd=>!(e.setIfInBounds i true).getD d false)=((List.range ops.size).filter λd=>!e.getD d false).filter λd=>!(bO d i):=by
   rw[List.filter_filter];refine List.filter_congr λd _=>?_;rw[<-congrFun A d]
   grind
  have aa:(((List.range ops.size).filter λd=>!e.getD d false).filter λd=>!(bO d i)).length<((List.range ops.size).filter λd=>!e.getD d false).length:=by
   refine List.length_filter_lt_length_iff_exists.2 ⟨i,List.mem_filter.2 ⟨List.mem_range.2 Z,by grind⟩,?_⟩;have:bO i i=true:=Nat.beq_refl i
   grind
  grind
def abp{c:Code}{id:Nat}{a:Act}{E:Env}{w:J}(e:(Nat->Bool)->Env->J->Prop)(D:P.follows .mixedOrders=true)(B:c=.region id ops true)(k:dR n ops=true)(A:uJ ops=true)(z:Ag n a E)(G:e (λ_=>false) E w.drew)(step:∀d E w i o,ops[i]? =some o->d i=false->(∀j∈o.after,Region.binds .any j=true->d j.on=true)->e d E w->gu P o E w λq F=>e (dk d i) q F)(fin:∀d E w,(∀i,i<ops.size->d i=true)->e d E w->K E w):c.wpIn (FW n) 0 P (hc n K) a w:=by
 subst B;have H:(λh=>(g' ops.size false).getD h false)=λ_=>false:=by funext h;by_cases C:h<ops.size<;>simp[C]
 have y:=abn (K:=K) k A e step fin ops.size (g' ops.size false) a E w.drew (by simp) z (by grind) (a6 (List.length_filter_le _ _) (by simp));refine wpIn_region_draw λt=>?_;refine rk k (λ⟨_,_,x⟩=>x) _ _ _ ?_;simp only[Region.schedule,D,Bool.true_or,if_true];exact wpAny_sound ops.size t _ a _ y
def Ef(P:aE)(n:Nat)(c:Code):Bool:=match c with
 |.region _ ops d=>d&&(P.follows .mixedOrders&&(dR n ops&&uJ ops))
 |_=>false
def sK(P:aE)(c:Code)(K:Env->J->Prop)(E:Env)(w:J):Prop:=
 ∃e:(Nat->Bool)->Env->J->Prop,e (λ_=>false) E w.drew/\
  (∀d E w i o,(Code.ops c)[i]? =some o->d i=false->(∀h∈o.after,Region.binds .any h=true->d h.on=true)->e d E w->gu P o E w λj k=>e (dk d i) j k)/\
  ∀d E w,(∀i,i<(Code.ops c).size->d i=true)->e d E w->K E w
abbrev wx(P:aE)(c:Code)(K:Env->J->Prop)(E:Env)(w:J):Prop:=sK P (Code.fst c) K E w
variable {Q:Exit->Act->J->Prop} {E:Env} {w:J}
def ig(c:Code)(d:Ef P n c=true)(h:sK P c K E w)(G:∀e k j,Ag n j e->K e k->Q .normal j k):WP P n c Q E w:=by
 obtain⟨x,z,step,fin⟩:=h;unfold Ef at d;split at d
 .rename_i id ops F;simp only[bq]at d;obtain⟨rfl,A,B,C⟩:=d;exact λa D=>wpIn_mono (abp x A rfl B C D z step fin) λy j k q=>by
   cases y with
   |normal=>obtain⟨e,hA,hK⟩:=q;grind
   |_=>exact q.elim
 grind
def si(c:Code)(j:(sL c&&Ef P n (Code.fst c))=true)(h:wx P c K E w)(x:∀d e,K d e->WP P n (Code.snd c) Q d e):WP P n c Q E w:=
 WP.seq (wv (oP j).1) (ig _ (oP j).2 h λd e y k q=>nx k (x d e q))
end
def rowOf(o:Oper):Op×Option Nat×aC×List Nat:=(o.op,o.dst,o.type,(o.after.toList.filter λd=>Region.binds .any d).map (·.on))
def allI{α:Type}(F:Nat->α->Prop):List α->Nat->Prop
 |[],_=>True
 |a::l,i=>F i a/\allI F l (i+1)
def Gc{α:Type}{F:Nat->α->Prop}:∀{l:List α} {n i:Nat} {a:α},allI F l n->l[i]? =some a->F (n+i) a
 |[],_,i,a,_,d=>by grind
 |b::l,n,0,a,d,e=>by simp at e;subst e;exact d.1
 |b::l,n,i+1,a,d,e=>by
  have:=Gc (i:=i) d.2 (by simpa using e)
  grind
section
variable {P:aE} {K:Env->J->Prop} {E:Env} {w:J}
def uz(P:aE)(e:(Nat->Bool)->Env->J->Prop)(i:Nat)(r:Op×Option Nat×aC×List Nat):Prop:=
 ∀d E w o,o.op=r.1->o.dst=r.2.1->o.type=r.2.2.1->d i=false->(∀j∈r.2.2.2,d j=true)->e d E w->gu P o E w λh k=>e (dk d i) h k
def Cm{c:Code}(h:List (Op×Option Nat×aC×List Nat))(F:(Code.ops c).toList.map rowOf=h)(e:(Nat->Bool)->Env->J->Prop)(q:e (λ_=>false) E w.drew)(step:allI (uz P e) h 0)(fin:∀d E w,(∀i,i<h.length->d i=true)->e d E w->K E w):sK P c K E w:=by
 refine⟨e,q,λd E w i o D k B j=>?_,λd E w x j=>fin d E w (λi k=>x i ?_) j⟩
 .have z:h[i]? =some (rowOf o):=by grind
  have:=Gc step z;rw[Nat.zero_add]at this;refine this d E w o rfl rfl rfl k (λG y=>?_) j;obtain⟨A,C,rfl⟩:=bZ.1 y
  grind
 grind
def my{o:Oper}{t:Nat}{v:aa}(d:o.op=.move (.tmp t)\/o.op=.assign (.tmp t))(j:E.get? t=some v)(h:K (E.put o.dst v) w):gu P o E w K:=by
 obtain⟨dst,op,k,pos,after,guard⟩:=o;have q:E.ev (.tmp t)=v:=by simp[Env.ev,Env.val,j]
 rcases d with d|d<;>(simp only at d;subst d)
 .show fP P _ E (λv _=>K (E.put dst v) w);have e:E.dQ ⟨dst,.move (.tmp t),k,pos,after,guard⟩=true:=by simp[Env.dQ,Op.operands,Env.val,j]
  unfold fP;rw[e];show K (E.put dst (E.ev (.tmp t))) w
  grind
 .show fP P _ E (λv _=>K (E.put dst v) w);have e:E.dQ ⟨dst,.assign (.tmp t),k,pos,after,guard⟩=true:=by simp[Env.dQ,Op.operands,Env.val,j]
  unfold fP;rw[e];show K (E.put dst (E.ev (.tmp t))) w
  grind
def pC{o:Oper}{T:aC}{t:Nat}{p:Addr}(d:o.op=.load T (.tmp t))(e:E.get? t=some (.pointer (some p)))(h:mj P T p w λv _=>K (E.put o.dst v) w):gu P o E w K:=by obtain⟨dst,op,j,pos,after,guard⟩:=o;simp only at d;subst d;show(match E.val (.tmp t)with |some (.pointer (some p))=>mj P T p w (λv _=>K (E.put dst v) w)|_=>False);rw[show E.val (.tmp t)=some (.pointer (some p))from e];exact h
def aaj{o:Oper}{f d t2:Nat}{e j:aa}(x:o.op=.makeFunc (.func f) #[] #[.tmp d,.tmp t2])(k:E.get? d=some e)(q:E.get? t2=some j)(h:K (E.put o.dst (.func (.func f) #[] #[e,j])) w):gu P o E w K:=by
 obtain⟨dst,op,z,pos,after,guard⟩:=o;simp only at x;subst x;show fP P _ E (λv _=>K (E.put dst v) w);have y:E.dQ ⟨dst,.makeFunc (.func f) #[] #[.tmp d,.tmp t2],z,pos,after,guard⟩=true:=by simp[Env.dQ,Op.operands,Env.val,k,q]
 unfold fP;rw[y];show K (E.put dst (.func (.func f) (#[].map E.ev) (#[.tmp d,.tmp t2].map E.ev))) w;have A:E.ev (.tmp d)=e:=by simp[Env.ev,Env.val,k]
 have B:E.ev (.tmp t2)=j:=by simp[Env.ev,Env.val,q]
 grind
def aak{o:Oper}{T:aC}(d:o.op=.makeMap T none)(h:K (E.put o.dst (.map (some w.heap.size))) (w.alloc (.map #[] 0))):gu P o E w K:=by
 obtain⟨dst,op,e,pos,after,guard⟩:=o;simp only at d;subst d;have j:E.dQ ⟨dst,.makeMap T none,e,pos,after,guard⟩=true:=by simp[Env.dQ,Op.operands]
 have k:oV P ⟨dst,.makeMap T none,e,pos,after,guard⟩ E w (λv q=>K (E.put dst v) q):=by unfold oV;rw[j];exact h
 unfold gu;simp only[calm,cond_false];unfold g5;exact k
def pB{o:Oper}{T:aC}{m k v:Operand}{q j x:aa}(e:o.op=.insert T m k v)(z:E.val m=some q)(y:E.val k=some j)(A:E.val v=some x)(h:∃d,(Instr.mapUpdate T q j x).run P w=.ok () d/\K (E.put o.dst undef) d):gu P o E w K:=by obtain⟨dst,op,B,pos,after,guard⟩:=o;simp only at e;subst e;show(match E.val m,E.val k,E.val v with |some m,some k,some v=>HF P (Instr.mapUpdate T m k v) w (λv d=>K (E.put dst v) d)|_,_,_=>False);rw[z,y,A];exact h
def ES{o:Oper}{t a b f:Nat}{O:Array aC}{first captured:Array aa}{x y:aa}(q:o.op=.call ⟨.value (.tmp t),#[.tmp a,.tmp b],O⟩)(z:E.get? t=some (.func (.func f) first captured))(j:E.get? a=some x)(k:E.get? b=some y)(D:g3 P f=true)(h:ai P f (first++#[x,y]++captured) w λA e=>m4 (zeroOf P o.type) λv=>A=ae v/\K (E.put o.dst v) e):gu P o E w K:=by
 obtain⟨dst,op,d,pos,after,guard⟩:=o;simp only at q;subst q;show cF (E.dQ ⟨dst,.call ⟨.value (.tmp t),#[.tmp a,.tmp b],O⟩,d,pos,after,guard⟩) (match E.get? t with
  |some (.func (.func f) first captured)=>cF (g3 P f) (oS P f (first++(#[Operand.tmp a,.tmp b]).map E.ev++captured) (zeroOf P d) w (λv e=>K (E.put dst v) e))
  |_=>False)
 have F:E.dQ ⟨dst,.call ⟨.value (.tmp t),#[.tmp a,.tmp b],O⟩,d,pos,after,guard⟩=true:=by simp[Env.dQ,Op.operands,Call.operands,Env.val,z,j,k]
 rw[F,z];show cF (g3 P f) _;rw[D];have B:E.ev (.tmp a)=x:=by simp[Env.ev,Env.val,j]
 have C:E.ev (.tmp b)=y:=by simp[Env.ev,Env.val,k]
 show oS P f _ _ w _;simp only[List.map_toArray,List.map_cons,List.map_nil,B,C];exact h
def nG(T:List (Nat×Nat×aa))(L:Nat->Bool)(E:Env):Prop:=∀d∈T,(bif bO d.1 0 then true else L (d.1 - 1))=true->E.get? d.2.1=some d.2.2
def nG.get{T:List (Nat×Nat×aa)}{L:Nat->Bool}(h:nG T L E){i d:Nat}{v:aa}(e:(i,d,v)∈T)(V:(bif bO i 0 then true else L (i - 1))=true):E.get? d=some v:=h _ e V
def hj{E:Env}{d t:Nat}{v:aa}(h:d≠t):(E.put (some d) v).get? t=E.get? t:=by
 have:bO d t=false:=by rw[<-iR,ep];exact h
 simp only[Env.put,Env.get?,this,cond_false]
def nX{E:Env}{d:Nat}{v:aa}:(E.put (some d) v).get? d=some v:=by simp[Env.put,Env.get?]
def nG.fill{T:List (Nat×Nat×aa)}{L:Nat->Bool}(h:nG T L E){i d:Nat}{v:aa}(x:∀e∈T,e.1=i+1->e=(i+1,d,v))(y:∀e∈T,e.2.1=d->e.1=i+1):nG T (dk L i) (E.put (some d) v):=by
 intro e k A;by_cases j:e.2.1=d
 .obtain rfl:=x e k (y e k j);exact nX
 .rw [hj (λq=>j q.symm)];refine h e k ?_;by_cases w:e.1=0
  .rw [w];rfl
  .have z:bO e.1 0=false:=by rw[<-iR,ep];exact w
   rw[z]at A ⊢;have B:e.1 - 1≠i:=λq=>j (by grind);have:bO (e.1 - 1) i=false:=by rw[<-iR,ep];omega
   grind
def nG.pass{T:List (Nat×Nat×aa)}{L:Nat->Bool}(h:nG T L E){i:Nat}{d:Option Nat}{v:aa}(w:∀e∈T,e.1≠i+1)(x:∀e∈T,d≠some e.2.1):nG T (dk L i) (E.put d v):=by
 intro e j z;have A:(E.put d v).get? e.2.1=E.get? e.2.1:=by
  cases d with
  |none=>rfl
  |some d=>exact hj λk=>x e j (by rw[k])
 rw[A];refine h e j ?_;by_cases q:e.1=0
 .rw [q];rfl
 .have y:bO e.1 0=false:=by rw[<-iR,ep];exact q
  rw[y]at z ⊢;have B:e.1 - 1≠i:=λk=>w e j (by omega);have:bO (e.1 - 1) i=false:=by rw[<-iR,ep];omega
  grind
end
structure LC(w:J)(L:List (Nat×List aa×aC)):Prop where
 own:∀(i:Nat) (x:Nat×List aa×aC),L[i]? =some x->w.heap[x.1]? =some (.cells x.2.1.toArray x.2.2 (0,0))
 dj:∀(i j:Nat) (x y:Nat×List aa×aC),L[i]? =some x->L[j]? =some y->x.1=y.1->i=j
abbrev hJ(L:List (Nat×List aa×aC)):List Nat:=L.map (·.1)
def loc(U:List Nat)(w:J)(K:J->Prop):Prop:=∀d,Fr (·∈U) w d->K d
def vT(U:List Nat)(w:J)(K:Nat->J->Prop):Prop:=∀b d,w.heap.size<=b->d.heap.size=b+1->Fr (·∈U) w d->K b d
def ee(U:List Nat)(P:aE)(f:cB)(args:Array aa)(w:J)(K:aH):Prop:=∃d:Nat->Prop,(∀b∈U,¬d b)/\ai P f args w λr e=>Fr d w e/\K r e
def kept(U:List Nat)(w w':J):Prop:=∀b∈U,w'.heap[b]? =w.heap[b]?
def Yr{d:Option Addr}{K K':Addr->Prop}(h:dM d K)(f:∀p,K p->K' p):dM d K':=by
 cases d with
 |none=>exact h
 |some p=>exact f p h
def PO{t:Bool}{A B d e:Prop}(h:bh t A B)(j:A->d)(k:B->e):bh t d e:=ZR j k h
def aae{w:J}{p:Addr}{v:aa}{K K':J->Prop}(h:aP w p v K)(f:∀d,K d->K' d):aP w p v K':=⟨h.1,h.2.1,f _ h.2.2⟩
section
variable {w wT:J} {L:List (Nat×List aa×aC)}
def LC.nil(w:J):LC w []:=⟨λi e d=>by grind,λi h e j d=>by grind⟩
def LC.Ts(H:LC w L){b:Nat}(d:b∈hJ L):∃(i:Nat) (x:Nat×List aa×aC),L[i]? =some x/\x.1=b:=by
 obtain⟨x,e,rfl⟩:=bZ.1 d;obtain⟨i,h⟩:=g7.1 e
 grind
def LC.lt(H:LC w L){b:Nat}(d:b∈hJ L):b<w.heap.size:=by obtain⟨i,h,e,rfl⟩:=H.Ts d;exact lt_of_heap (H.own i h e)
def LC.o5{w':J}(H:LC w L)(h:kept (hJ L) w w'):LC w' L:=
 ⟨λi d e=>by rw[h d.1 (bZ.2 ⟨d,aD e,rfl⟩)];exact H.own i d e,H.dj⟩
def LC.fr{M:Nat->Prop}{w':J}(H:LC w L)(f:Fr M w w')(e:∀b∈hJ L,¬M b):LC w' L:=H.o5 λb d=>f.cb b (H.lt d) (e b d)
def LC.pick(H:LC w L)(is:List Nat)(A:is.Nodup):LC w (is.filterMap λi=>L[i]?):=by
 induction is with
 |nil=>exact LC.nil w
 |cons x is e=>
  have e:=e (List.nodup_cons.1 A).2;cases q:L[x]? with
  |none=>grind
  |some y=>
   rw[List.filterMap_cons_some q];have back:∀(j:Nat) d,(is.filterMap λi=>L[i]?)[j]? =some d->d.1≠y.1:=by
    intro j d B h;obtain⟨m,E,z⟩:=List.mem_filterMap.1 (aD B);have:=H.dj m x d y z q h
    grind
   refine⟨λi d k=>?_,λi j d C k D h=>?_⟩
   .cases i with
    |zero=>simp at k;subst k;exact H.own x y q
    |succ i=>exact e.own i d (by grind)
   .cases i with
    |zero=>
     grind
    |succ i=>
     cases j with
     |zero=>grind
     |succ j=>rw[e.dj i j d C (by grind) (by grind) h]
def LC.alloc(H:LC w L)(o:Obj):LC (w.alloc o) L:=H.fr (M:=λ_=>False) (Fr.alloc _ _ _) (λ_ _ d=>d)
def LC.push(H:LC w L)(cs:Array aa)(T:aC):LC (w.alloc (.cells cs T)) (L++[(w.heap.size,cs.toList,T)]):=by
 have y:=H.alloc (.cells cs T);have B:∀(i:Nat) d,L[i]? =some d->d.1<w.heap.size:=λi d e=>lt_of_heap (H.own i d e);have j:∀(i:Nat) d,(L++[(w.heap.size,cs.toList,T)])[i]? =some d->(L[i]? =some d)\/(i=L.length/\d=(w.heap.size,cs.toList,T)):=by grind
 refine⟨λi d e=>?_,λi q d x e A z=>?_⟩
 .rcases j i d e with h|⟨_,rfl⟩
  .exact y.own i d h
  .simp only[Array.toArray_toList];exact j2 w _
 .rcases j i d e with h|⟨h,rfl⟩
  .rcases j q x A with k|⟨k,rfl⟩
   .exact H.dj i q d x h k z
   grind
  grind
def AZ(L:List (Nat×List aa×aC))(i:Nat){b:Nat}{vs d:List aa}{T:aC}(V:L[i]? =some (b,vs,T)):hJ (L.set i (b,d,T))=hJ L:=by
 apply List.ext_getElem?
 grind
def LC.set(H:LC w L)(i j:Nat){b:Nat}{vs:List aa}{T:aC}{v:aa}(V:L[i]? =some (b,vs,T))(M:j<vs.length)(f:Fr (·∈hJ L) wT w):
  (w.cell? ((ab b).add j)).isSome=true/\w.frozen? ((ab b).add j)=false/\LC (w.setCell ((ab b).add j) v) (L.set i (b,vs.set j v,T))/\Fr (·∈hJ (L.set i (b,vs.set j v,T))) wT (w.setCell ((ab b).add j) v):=by
 obtain⟨E,F,N,x⟩:=tC (H.own i _ V) j (by omega) v;have A:b∈hJ L:=bZ.2 ⟨_,aD V,rfl⟩;refine⟨E,F,⟨λk d e=>?_,λk m d q e B h=>?_⟩,?_⟩
 .rw [List.getElem?_set]at e;split at e
  .grind
  .rename_i C;have:=x.cb d.1 (lt_of_heap (H.own k d e)) (λh=>C (H.dj i k _ d V e h.symm));rw[this];exact H.own k d e
 .have g:∀(k:Nat) d,(L.set i (b,vs.set j v,T))[k]? =some d->∃q,L[k]? =some q/\q.1=d.1:=by grind
  obtain⟨D,y,I⟩:=g k d e;obtain⟨G,z,K⟩:=g m q B;exact H.dj k m D G y z (by omega)
 .rw [AZ L i V];exact f.trans x λd _ h=>h▸A
def gN{U:List Nat}{P:aE}{f:cB}{args:Array aa}{K:aH}(h:ai P f args w λr d=>ag w d/\K r d):ee U P f args w K:=⟨λ_=>False,λ_ _ h=>h,h⟩
end
def En.g(b:Nat):En:=⟨[b],λd=>b<d.heap.size,λd k h e=>(by grind),λd e q j=>by grind,by simp⟩
section
variable {M:Nat->Prop} {w0 w:J} {L D:List En} {U:List Nat}
def LH.ghost(H:LH M w0 w L D){w':J}(f:Fr (·∈U) w w')(bp:∀b∈U,En.g b∈L):LH M w0 w' L D:=by
 refine⟨H.fr.trans f λB F j=>(H.new _ (bp B j) B (by simp[En.g])).resolve_left (by omega),λd e=>?_,λd e=>?_,H.new,H.nd,H.dj⟩
 .by_cases y:∃b∈U,b∈d.fp
  .obtain ⟨b,h,C⟩:=y;obtain⟨i,z⟩:=g7.1 e;obtain⟨A,k⟩:=g7.1 (bp b h);have E:i=A:=by
    rcases Nat.decEq i A with x|x
    .exact absurd (by simp[En.g]) (mf H.nd z k x b C)
    omega
   subst E;rw[z]at k;cases k;exact kr (H.own _ e) f.size
  .exact d.st w w' (λb h q=>f.cb b q λj=>y ⟨b,j,h⟩) (H.own d e)
 .exact d.st w w' (λb h q=>f.cb b q λj=>H.dj d e b h _ (bp b j) (by simp[En.g])) (H.rd d e)
def LH.ah(H:LH M w0 w L D){K:J->Prop}(e:∀d,LH M w0 d L D->K d)(bp:∀b∈U,En.g b∈L:=by simp):loc U w K:=λ_ f=>e _ (H.ghost f bp)
def LH.aG(H:LH M w0 w L D){K:Nat->J->Prop}(B:∀b q,LH M w0 q (L++[.g b]) D->K b q)(bp:∀b∈U,En.g b∈L:=by simp):vT U w K:=λb q A E f=>B b q (by
 have x:=H.ghost f bp;refine⟨x.fr,λh d=>?_,x.rd,λh d k e=>?_,?_,λh d k e z j y=>?_⟩
 .rcases aY.1 d with d|d
  .exact x.own h d
  .simp at d;subst d;show b<_;omega
 .rcases aY.1 d with d|d
  .exact H.new h d k e
  .simp at d;subst d;simp[En.g]at e;subst e;exact .inl (a6 H.fr.size A)
 .rw [List.flatMap_append,gT];refine⟨H.nd,by simp[En.g],λk e F C=>?_⟩;have:=H.DM k e;simp[En.g]at C;omega
 .rcases aY.1 j with j|j
  .exact H.dj h d k e z j y
  .simp at j;subst j;simp[En.g]at y;subst y;have:=h.lt w (H.rd h d) k e;omega)
def LH.aw(H:LH M w0 w L D){P:aE}{g:cB}{args:Array aa}{A K:aH}(h:ai P g args w λr d=>A r d/\ag w d)(j:∀r d,A r d->LH M w0 d L D->K r d):ee U P g args w K:=
 gN (h.mono λr d ⟨e,f⟩=>⟨f,j r d e (H.br f)⟩)
def LH.call(H:LH M w0 w L D){P:aE}{g:cB}{args:Array aa}{A K:aH}(h:ai P g args w λr d=>A r d/\ag w d)(j:∀r d,A r d->LH M w0 d L D->K r d):ai P g args w K:=
 h.mono λr d ⟨e,f⟩=>j r d e (H.br f)
def LH.YT(H:LH M w0 w L D){w':J}(f:ag w w'){e:aC}{sz:Nat}{s:Sl}{vs:List aa}(h:aK w' e sz s vs)(d:∀b∈ax s,w.heap.size<=b):LH M w0 w' (L++[.row e sz s vs]) D:=H.push (.row e sz s vs) f h d
def LH.Gf(H:LH M w0 w L D)(i:Nat){P:aE}{t ty e:aC}{z:aa}{sz bytes:Nat}(E:g0 P t e z sz bytes){s src:Sl}{xs news:List aa}{K:Sl->J->Prop}(V:L[i]? =some (.row e sz s xs))(U:eV w src news)(T:news.length=src.n *sz)(Q:∀u∈news,u.oneCell'=true)(j:(s.n+src.n) *bytes<=140737488355328)(S:∀d h,LH M w0 h (L.set i (.row e sz d (xs++news))) D->d.n=s.n+src.n->(d.a=none->s.a=none/\src.n=0)->(∀b,En.g b∈L->h.heap[b]? =w.heap[b]?)->K d h):
  ∃d h,(dY #[t,t] ty #[s.v,src.v]).run P w=.ok d.v h/\K d h:=by
 obtain⟨d,h,F,G,I,y,N,O⟩:=xr (ty:=ty) E (H.get i V) U T Q j;refine⟨d,h,F,S d h (H.gv i (.row e sz d (xs++news)) V y G N) I O λb j=>?_⟩;refine y.cb b (H.own _ j) λC=>?_;obtain⟨W,q⟩:=g7.1 j;by_cases B:i=W
 .subst B;rw[V]at q;cases ac:(En.row e sz s xs)with
  |mk ab Z st lt ae=>
   have k:En.row e sz s xs=En.g b:=Option.some.inj q;have x:(En.row e sz s xs).P=(En.g b).P:=by rw[k]
   have e3:=congrFun x w;have e4:(En.row e sz s xs).P (w.alloc (.cells #[] e))=(En.g b).P (w.alloc (.cells #[] e)):=by rw[k]
   have f1:(En.row e sz s xs).fp=(En.g b).fp:=by rw[k]
   have A:(En.g b).P ({w with heap:=g' (b+1) (.map #[] 0)}):=by show b<_;simp
   rw[<-x]at A;have ad:=(aK.row (show aK ({w with heap:=g' (b+1) (.map #[] 0)}) e sz s xs from A)).tW b C
   grind
 .exact mf H.nd V q B b C (by simp[En.g])
end
def bx(sz:Nat)(w:J)(s:Sl)(vs:List aa):Prop:=vs.length=s.n *sz/\s.n<=s.c/\eV w s vs
def bx.fr{sz:Nat}{M:Nat->Prop}{w w':J}{s:Sl}{vs:List aa}(h:bx sz w s vs)(d:Fr M w w')(e:∀b∈ax s,¬M b):bx sz w' s vs:=⟨h.1,h.2.1,h.2.2.fr d e⟩
def bx.br{sz:Nat}{w w':J}{s:Sl}{vs:List aa}(h:bx sz w s vs)(d:ag w w'):bx sz w' s vs:=h.fr d λ_ _ h=>h
def aK.bd{w:J}{e:aC}{sz:Nat}{s:Sl}{vs:List aa}(h:aK w e sz s vs):bx sz w s vs:=⟨h.len,h.cap,h.row.r'⟩
def bx.nil(sz:Nat)(w:J):bx sz w ⟨none,0,0⟩ []:=⟨by simp,bm _,eV.nil w⟩
def En.bd(sz:Nat)(s:Sl)(vs:List aa):En:=⟨if vs=[]then[]else ax s,λq=>bx sz q s vs,λq A w d=>by
  refine⟨d.1,d.2.1,d.2.2.1,λi v y=>?_⟩;obtain⟨p,h,e⟩:=d.2.2.2 i v y;have k:vs≠[]:=λz=>by grind
  rw[af k]at w;have:=w p.block (by simp[ax,h]) (by have:=nO e;rwa[iX]at this);refine⟨p,h,?_⟩;unfold World.cell? at e ⊢;rw[iX]at e ⊢
  grind,λq d b j=>by
  split at j
  .cases j
  .rename_i k;have x:0<vs.length:=List.length_pos_iff.2 k;obtain⟨p,h,e⟩:=d.2.2.2 0 vs[0] (a4 x);simp[ax,h]at j;subst j;have:=nO e
   rwa[iX]at this,by split<;>(try simp);unfold ax;grind⟩
def ov(sz:Nat)(s:Sl)(l h:Nat):Sl:=⟨if s.c=l then s.a else s.a.map (·.add (l *sz)),h - l,s.c - l⟩
def bx.sub{sz:Nat}{w:J}{s:Sl}{vs:List aa}(h:bx sz w s vs)(l V:Nat)(D:l<=V)(y:V<=s.n):bx sz w (ov sz s l V) ((vs.take (V *sz)).drop (l *sz)):=by
 obtain⟨k,B,C,q⟩:=h;have j:V *sz<=s.n *sz:=oG _ y;refine⟨?_,?_,?_,λi v e=>?_⟩
 .rw [List.length_drop,List.length_take,k,Nat.min_eq_left j];show _=(V - l) *sz;rw[Nat.sub_mul]
 .show V - l<=s.c - l;omega
 .intro d;unfold ov at d ⊢;simp only at d ⊢;split at d
  .omega
  .cases G:s.a with
   |none=>grind
   |some p=>grind
 .rw [List.getElem?_drop]at e;have z:l *sz+i<V *sz:=by grind
  rw[List.getElem?_take,aq z]at e;obtain⟨p,F,x⟩:=q _ _ e;have E:s.c≠l:=λA=>by grind
  refine⟨p.add (l *sz),?_,?_⟩
  .unfold ov
   grind
  .rw [add_add];exact x
def jC:List Nat->List Nat
 |[]=>[]
 |a::l=>if a∈jC l then jC l else a::jC l
def aM{x:Nat}:∀{l:List Nat},x∈jC l↔x∈l
 |[]=>Iff.rfl
 |a::l=>by
  unfold jC;split
  .rename_i e;rw[aM,au];exact⟨.inr,λh=>h.elim (λd=>by subst d;exact aM.1 e) id⟩
  .rw [au,au,aM]
def n9:∀l:List Nat,(jC l).Nodup
 |[]=>.nil
 |a::l=>by
  unfold jC;split
  .exact n9 l
  .rename_i d;exact List.nodup_cons.2 ⟨d,n9 l⟩
def En.all(es:List En):En:=⟨jC (es.flatMap (·.fp)),λe=>∀d∈es,d.P e,λe y q k d h=>d.st e y (λb j x=>q b (aM.2 (bS.2 ⟨d,h,j⟩)) x) (k d h),
 λe k b j=>(by obtain⟨d,h,w⟩:=bS.1 (aM.1 j);exact d.lt e (k d h) b w),n9 _⟩
section
variable {M:Nat->Prop} {w0 w:J} {L D:List En} {U:List Nat}
structure ui(M:Nat->Prop)(w0 w w':J)(L D:List En):Prop where
 own:∀e:En,e.P w'->(∀b∈e.fp,w.heap.size<=b)->LH M w0 w' (L++[e]) D
 rd:∀e:En,e.P w'->(∀b∈e.fp,w.heap.size<=b)->LH M w0 w' L (D++[e])
def LH.fresh(H:LH M w0 w L D){w':J}(f:ag w w'):ui M w0 w w' L D:=⟨λd e h=>H.push d f e h,λd e h=>H.gy d f e λb j=>.inl (h b j)⟩
def LH.iZ(H:LH M w0 w L D){P:aE}{g:cB}{args:Array aa}{A K:aH}(h:ai P g args w λr d=>A r d/\ag w d)(j:∀r d,A r d->LH M w0 d L D->ui M w0 w d L D->K r d):ee U P g args w K:=
 gN (h.mono λr d ⟨e,f⟩=>⟨f,j r d e (H.br f) (H.fresh f)⟩)
def LH.uP(H:LH M w0 w L D){P:aE}{g:cB}{args:Array aa}{A K:aH}(h:ai P g args w λr d=>A r d/\ag w d)(j:∀r d,A r d->LH M w0 d L D->ui M w0 w d L D->K r d):ai P g args w K:=
 h.mono λr d ⟨e,f⟩=>j r d e (H.br f) (H.fresh f)
end
def qV{sz:Nat}{s:Sl}{vs:List aa}{n:Nat}(h:∀b∈ax s,n<=b):∀b∈(En.bd sz s vs).fp,n<=b:=λb d=>by
 have:b∈(if vs=[]then[]else ax s):=d
 grind
section
variable {M:Nat->Prop} {w0 w:J} {L D:List En} {U:List Nat}
def LH.dc(H:LH M w0 w L D)(i:Nat){P:aE}{t ty e:aC}{z:aa}{sz bytes:Nat}(k:g0 P t e z sz bytes){s src:Sl}{xs news:List aa}{K:Sl->J->Prop}(V:L[i]? =some (.row e sz s xs))(j:bx sz w src news)(x:∀u∈news,u.oneCell'=true)(A:(s.n+src.n) *bytes<=140737488355328)(y:∀h d,LH M w0 d (L.set i (.row e sz h (xs++news))) D->K h d)(bp:∀b∈U,En.g b∈L:=by simp):
  ∃h d,(dY #[t,t] ty #[s.v,src.v]).run P w=.ok h.v d/\kept U w d/\K h d:=
 H.Gf i k (K:=λh d=>kept U w d/\K h d) V j.2.2 j.1 x A λh d q _ _ C=>⟨λb B=>C b (bp b B),y h d q⟩
def LH.h7(H:LH M w0 w L D)(i:Nat){P:aE}{t ty e:aC}{z:aa}{sz bytes:Nat}(q:g0 P t e z sz bytes){T:aC}{s:Sl}{xs:List aa}{news:Array aa}{K:Sl->J->Prop}(V:L[i]? =some (.row e sz s xs))(y:∀h d,LH M w0 d (L.set i (.row e sz h (xs++news.toList))) D->K h d)(A:(s.n+1) *bytes<=140737488355328)(B:news.size=sz:=by rfl)(x:∀u∈news.toList,u.oneCell'=true:=by simp[Value.oneCell'])(bp:∀b∈U,En.g b∈L:=by simp):
  c9 w (.cells news T) λj=>∃h d,(dY #[t,t] ty #[s.v,.slice (some (Addr.mk w.heap.size 0 none)) 1 1]).run P j=.ok h.v d/\kept U j d/\K h d:=by have k:LH M w0 (w.alloc (.cells news T)) L D:=H.br (Fr.alloc _ _ _);exact k.dc i q (src:=⟨some (ab w.heap.size),1,1⟩) (ty:=ty) (K:=K) (news:=news.toList) V ⟨by grind,bm _,(Row.made w T 1 1 news.toList).r'⟩ x A y bp
end
abbrev fb(s:Sl)(i:Int)(K:Addr->Prop):Prop:=0<=i/\i<((s.n:Nat):Int)/\dM s.a K
end Go.W
