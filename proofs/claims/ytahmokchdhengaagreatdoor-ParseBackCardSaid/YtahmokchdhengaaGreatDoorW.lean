import Derived.OrdersHeld
import Derived.OrdersIn
import Derived.RangeFuncLeaves
import Derived.RangeFuncRecord
import Derived.RangeFuncSeq
import Derived.WalkKit
import Derived.Laws.AppendOwn
import Derived.Laws.StructEq
import Derived.KernelRfl
import Derived.Below
import Derived.OwnWalk
import Derived.IntWalk
import Derived.Laws.AppendOwnNone
set_option linter.unusedVariables false
set_option linter.defProp false
namespace Go.W
open Go renaming World->J,Calls->aj,Program->aw,Value->aa,TypeId->aD,Ending->cA,FuncId->bU,IntKind->ha
open _root_.ByteArray renaming mk->bj
open Go.Builtin renaming append_->g'
open _root_.Bool renaming and_eq_true->a9,not_eq_true->iX
open _root_.Nat renaming le_refl->be,le_trans->bp,zero_le->dc,beq->bG,lt_of_lt_of_le->q5,mul_le_mul_right->jm,beq_eq->dZ
open _root_.Option.some renaming inj->eh,injEq->e0
open _root_.Array renaming replicate->g9
open _root_.BitVec renaming ofInt->kp
open Go.Region renaming wanted->b3,ready->dE
open _root_.Decidable renaming decide->ao
open Go.Ending renaming returned->ae
open List renaming mem_append->aL,mem_cons->aE,mem_of_getElem?->aB,getElem?_eq_getElem->a5,getElem?_eq_some_iff->cr,mem_append_right->b0,mem_flatMap->bB,mem_map->cz,length_cons->cT,mem_of_mem_take->vy,mem_singleton->bX,flatMap_append->cC,flatMap_cons->df,mem_iff_getElem?->kf,getElem?_set->sY,mem_or_eq_of_mem_set->vx,nodup_append->dL,mem_cons_of_mem->cH,all_eq_true->dK,eq_nil_of_length_eq_zero->o6
def ab{c:Prop}{d:Decidable c}(x:¬c){α:Sort _}{t e:α}:ite c t e=e:=_root_.if_neg x
def ag{c:Prop}{d:Decidable c}(x:c){α:Sort _}{t e:α}:ite c t e=t:=_root_.if_pos x
def aP{p:Prop}[i:Decidable p](x:¬p):decide p=false:=_root_.decide_eq_false x
def aM{p:Prop}[i:Decidable p](x:p):decide p=true:=_root_.decide_eq_true x
def a2(p:Prop):(p∨False)=p:=_root_.or_false p
def eZ{p:Prop}[i:Decidable p](x:decide p=true):p:=_root_.of_decide_eq_true x
def kq{p:Prop}[i:Decidable p](x:decide p=false):¬p:=_root_.of_decide_eq_false x
abbrev Env:=List (Nat×aa)
def Env.get? :Env->Nat->Option aa
 |[],_=>none
 |(e,v)::d,t=>bif bG e t then some v else Env.get? d t
def Env.val(E:Env):Operand->Option aa
 |.tmp t=>E.get? t
 |.const v=>some v
 |.global g=>some (.pointer (some ⟨g,0,none⟩))
 |.func f=>some (.func (.func f) #[] #[])
def Env.ev(E:Env)(x:Operand):aa:=(E.val x).getD undef
def Env.put(E:Env)(d:Option Nat)(v:aa):Env:=
 match d with
 |some d=>(d,v)::E
 |none=>E
def Env.eI(E:Env)(o:Oper):Bool:=o.op.operands.toList.all λd=>(E.val d).isSome
structure Cx where
 n:Nat
 ds:List Deferred
 ro:Option Nat
instance:CoeHead Cx Nat:=⟨Cx.n⟩
abbrev cx(n:Nat):Cx:=⟨n,[],none⟩
abbrev FW(n:Cx):Fence:={Fence.wide with round:=n.ro}
structure Ag(n:Cx)(a:Act)(E:Env):Prop where
 defers:a.defers=n.ds
 size:a.tmps.size=n.n
 get:∀t v,E.get? t=some v->a.tmps[t]? =some v
def Ag.val{n:Cx}{a:Act}{E:Env}(e:Ag n a E){x:Operand}{v:aa}(d:E.val x=some v):a.eval x=v:=by
 cases x with
 |tmp t=>have:=e.get t v d;simp[Act.eval,this]
 |const u=>simpa[Env.val,Act.eval]using d
 |global g=>simpa[Env.val,Act.eval]using d
 |func f=>simpa[Env.val,Act.eval]using d
def Ag.ev{n:Cx}{a:Act}{E:Env}(e:Ag n a E){x:Operand}(h:(E.val x).isSome=true):a.eval x=E.ev x:=by obtain⟨v,d⟩:=Option.isSome_iff_exists.1 h;rw[e.val d,Env.ev,d];rfl
def Ag.put{n:Cx}{a:Act}{E:Env}(e:Ag n a E){d:Option Nat}(v:aa)(hd:∀t,d=some t->t<n.n):Ag n (a.put d v) (E.put d v):=by
 cases d with
 |none=>exact e
 |some t=>
  refine⟨e.defers,by simp[Act.put,e.size],?_⟩;intro s u h;have k:t<a.tmps.size:=by rw[e.size];exact hd t rfl
  simp only[Env.put,Env.get?]at h;by_cases j:t=s
  .subst j;simp at h;simp[Act.put,k,h]
  .have:bG t s=false:=by rw[<-iX,dZ];exact j
   simp only[this,cond_false]at h;simpa[Act.put,Array.getElem?_setIfInBounds_ne j]using e.get s u h
def Ag.nil{n:Cx}{a:Act}{E:Env}(d:Ag n a E):Ag n a []:=⟨d.defers,d.size,λ_ _ d=>by simp[Env.get?]at d⟩
def Ag.cons{n:Cx}{a:Act}{E F:Env}(e:Ag n a E){t:Nat}{v:aa}(k:E.get? t=some v)(j:Ag n a F):Ag n a ((t,v)::F):=by
 refine⟨e.defers,e.size,?_⟩;intro s u d;simp only[Env.get?]at d;by_cases h:t=s
 .subst h;simp at d;subst d;exact e.get _ _ k
 .have:bG t s=false:=by rw[<-iX,dZ];exact h
  simp only[this,cond_false]at d;exact j.get s u d
def Ag.execOp{n:Cx}{a:Act}{E:Env}(e:Ag n a E){o:Oper}(j:∀d b,o.op≠.select d b)(h:E.eI o=true):execOp a.eval o=execOp E.ev o:=
 execOp_congr o j λq k=>e.ev (by have:=dK.1 h q (by simpa using k);exact this)
structure Sl where
 a:Option Addr
 n:Nat
 c:Nat
abbrev Sl.v(s:Sl):aa:=.slice s.a s.n s.c
abbrev aC:=cA->J->Prop
structure Fv where
 n:Nat
 bs:Array aa
 cs:Array aa
abbrev Fv.v(f:Fv):aa:=.func (.func f.n) f.bs f.cs
def uM(e:aa)(K:aa->Prop):Prop:=
 match e with
 |.int d _=>∃n:Int,K (.int d n)
 |.bool _=>∃b:Bool,K (.bool b)
 |.string _=>∃s:ByteArray,K (.string s)
 |.slice _ _ _=>∃s:Sl,K s.v
 |.pointer _=>∃a:Option Addr,K (.pointer a)
 |.map _=>∃r:Option Nat,K (.map r)
 |_=>∃v:aa,K v
def xk:List aa->(List aa->Prop)->Prop
 |[],d=>d []
 |h::j,d=>uM h λv=>xk j λe=>d (v::e)
def xl(d:aa)(K:aa->Prop):Prop:=
 match d with
 |.agg e=>xk e.toList λh=>K (.agg h.toArray)
 |d=>uM d K
def Bs:List aa->(List aa->Prop)->Prop
 |[],d=>d []
 |h::j,d=>xl h λv=>Bs j λe=>d (v::e)
def mQ(d:aa)(K:aa->Prop):Prop:=
 match d with
 |.tuple h=>Bs h.toList λe=>K (.tuple e.toArray)
 |d=>xl d K
def Bo{e:aa}{K:aa->Prop}(d:uM e K):∃v,K v:=by
 unfold uM at d;split at d
 .obtain ⟨n,d⟩:=d;exact⟨_,d⟩
 .obtain ⟨n,d⟩:=d;exact⟨_,d⟩
 .obtain ⟨n,d⟩:=d;exact⟨_,d⟩
 .obtain ⟨n,d⟩:=d;exact⟨_,d⟩
 .obtain ⟨n,d⟩:=d;exact⟨_,d⟩
 .obtain ⟨n,d⟩:=d;exact⟨_,d⟩
 .exact d
def Bp:∀{h:List aa} {K:List aa->Prop},xk h K->∃e,e.length=h.length/\K e
 |[],_,d=>⟨[],rfl,d⟩
 |_::_,_,d=>by obtain⟨v,d⟩:=Bo d;obtain⟨e,j,d⟩:=Bp d;exact⟨v::e,by simp[j],d⟩
def HU{e:aa}{K:aa->Prop}(d:xl e K):∃v,K v:=by
 unfold xl at d;split at d
 .obtain ⟨h,_,d⟩:=Bp d;exact⟨_,d⟩
 .exact Bo d
def HV:∀{h:List aa} {K:List aa->Prop},Bs h K->∃e,K e
 |[],_,d=>⟨[],d⟩
 |_::_,_,d=>by obtain⟨v,d⟩:=HU d;obtain⟨e,d⟩:=HV d;exact⟨v::e,d⟩
def oN{e:aa}{K:aa->Prop}(d:mQ e K):∃v,K v:=by
 unfold mQ at d;split at d
 .obtain ⟨h,d⟩:=HV d;exact⟨_,d⟩
 .exact HU d
def cB(b:Bool)(p:Prop):Prop:=match b with |true=>p|false=>False
def dt{b:Bool}{p:Prop}(d:cB b p):b=true/\p:=by
 cases b
 .exact d.elim
 .exact ⟨rfl,d⟩
def bq(t:Bool)(A B:Prop):Prop:=match t with |true=>A|false=>B
def bh{t:Bool}{A B:Prop}(d:t=true->A)(e:t=false->B):bq t A B:=by
 cases t
 .exact e rfl
 .exact d rfl
def aT{t:Bool}{A B:Prop}(e:t=true)(d:A):bq t A B:=by subst e;exact d
def aV{t:Bool}{A B:Prop}(e:t=false)(d:B):bq t A B:=by subst e;exact d
def dJ(q:Option Addr)(K:Addr->Prop):Prop:=match q with |some p=>K p|none=>False
def Mz{q:Option Addr}{K:Addr->Prop}(d:dJ q K):∃p,q=some p/\K p:=by
 cases q with
 |none=>exact d.elim
 |some p=>exact⟨p,rfl,d⟩
def rs:List Prop->Prop->Prop
 |[],p=>p
 |d::l,p=>d/\rs l p
def ru:∀{l:List Prop} {p:Prop},rs l p->(∀h∈l,h)/\p
 |[],_,d=>⟨λ_ d=>(by cases d),d⟩
 |_::_,_,d=>⟨λh e=>by
   rcases aE.1 e with rfl|e
   .exact d.1
   .exact (ru d.2).1 h e,(ru d.2).2⟩
def qF{α:Type}(P:aw):Sem α->Option α
 |.pure a=>some a
 |.program d=>qF P (d P)
 |_=>none
def M8{α:Type}{P:aw}:∀{s:Sem α} {a:α},qF P s=some a->∀e,s.run P e=.ok a e
 |.pure _,_,d,e=>by simp[qF]at d;subst d;rfl
 |.program h,_,d,e=>by simp only[qF]at d;exact M8 d e
 |.load ..,_,d,_|.store ..,_,d,_|.new ..,_,d,_|.shape ..,_,d,_|.freeze ..,_,d,_|.frozen ..,_,d,_|.getObj ..,_,d,_|.setObj ..,_,d,_
 |.choose ..,_,d,_|.sys ..,_,d,_|.mark ..,_,d,_|.halt ..,_,d,_=>by simp[qF]at d
def zeroOf(P:aw)(t:aD):aa:=((P.info? t).bind (·.zero)).getD undef
def calm(P:aw)(o:Oper):Bool:=
 match o.op with
 |.convert s d _=>match P.underlying s,P.underlying d with
  |some (.slice _),some (.slice _)=>false
  |some .string,some (.slice _)=>false
  |_,_=>true
 |.move _|.assign _|.pick ..|.build ..|.load ..|.nilCheck _|.binOp ..|.unOp ..|.makeInterface ..|.makeFunc ..|.slice ..|.fieldAddr ..|.field ..|.indexAddr ..|.index ..
 |.lookup ..|.typeAssert ..|.extract ..=>true
 |.call {callee:=.builtin b,..}=>match b with |.len|.cap|.min|.max=>true|_=>false
 |_=>false
def mF(x:Option aa)(y d:Nat)(K:Nat->Prop):Prop:=
 match x with
 |none=>K d
 |some (.int _ i)=>0<=i/\i<=(y:Int)/\K i.toNat
 |_=>False
def pL(P:aw)(T:aD):Option Bool:=
 match P.underlying T with
 |some (.struct _)|some (.array _ _)=>some true
 |some _=>some false
 |none=>none
def wL(P:aw)(T:aD):Bool:=
 match zeroOf P T with
 |.agg d=>pL P T==some true&&(match P.info? T with |some i=>i.size==d.size|none=>false)
 |_=>pL P T==some false
def mU(P:aw)(T:aD)(p:Addr)(w:J)(K:aa->List (J->Prop)->Prop):Prop:=
 cB (wL P T)<|match zeroOf P T with
 |.agg h=>xk h.toList λe=>rs (e.zipIdx.map λ(v,i)=>w.cell? (p.add i)=some v) (K (.agg e.toArray) (e.zipIdx.map λ(v,i)=>λd=>d.cell? (p.add i)=some v))
 |.nilFunc=>∃f:Fv,w.cell? p=some f.v/\K f.v [λd=>d.cell? p=some f.v]
 |.nilIface=>(∃(t:aD) (x:aa),w.cell? p=some (.iface t x)/\K (.iface t x) [λd=>d.cell? p=some (.iface t x)])\/(w.cell? p=some .nilIface/\K .nilIface [λd=>d.cell? p=some .nilIface])
 |j=>uM j λv=>w.cell? p=some v/\K v [λd=>d.cell? p=some v]
def gA(P:aw)(o:Oper)(E:Env)(K:aa->List (J->Prop)->Prop):Prop:=
 cB (E.eI o) (match qF P (execOp E.ev o)with |some (.value v)=>K v []|_=>False)
def Bt(d:aa)(K:aa->Prop):Prop:=
 match d with
 |.nilFunc=>∃f:Fv,K f.v
 |d=>mQ d K
def TB{e:aa}{K:aa->Prop}(d:Bt e K):∃v,K v:=by
 unfold Bt at d;split at d
 .obtain ⟨f,d⟩:=d;exact⟨_,d⟩
 .exact oN d
def o'(P:aw)(s:Sem aa)(e:aa)(w:J)(K:aa->List (J->Prop)->Prop):Prop:=
 Bt e λv=>s.run P w=.ok v w/\K v [λd=>s.run P d=.ok v d]
def xc(P:aw)(T:aD):Option Nat:=
 match P.underlying T with
 |some (.slice d)=>(P.info? d).map (·.size)
 |_=>none
def As(P:aw)(T:aD):Option (Nat×Nat):=
 match P.underlying T with
 |some (.array n d)=>(P.info? d).map λi=>(n,i.size)
 |_=>none
def Q9{P:aw}{T:aD}{n sz:Nat}(e:As P T=some (n,sz)):∃d inf,P.underlying T=some (.array n d)/\P.info? d=some inf/\sz=inf.size:=by
 unfold As at e;split at e
 .rename_i m d k;obtain⟨inf,j,h⟩:=Option.map_eq_some_iff.1 e;cases h;exact⟨d,inf,k,j,rfl⟩
 .cases e
def isConst:Operand->Bool
 |.const _=>true
 |_=>false
def nW(P:aw)(T:aD)(c:aa):Bool:=
 match P.underlying T,c with
 |some (.slice _),.slice none _ _=>true
 |some (.pointer _),.pointer none=>true
 |some (.map _ _),.map none=>true
 |_,_=>false
def m0:Option aa->aa->Option Bool
 |some (.slice a _ _),.slice none _ _=>some a.isNone
 |some (.pointer a),.pointer none=>some a.isNone
 |some (.map r),.map none=>some r.isNone
 |_,_=>none
def uK(P:aw)(xs d:Array aa):List Field->Option Bool
 |[]=>some true
 |f::e=>bif f.name=="_" then none else match P.underlying f.type,xs[f.offset]?,d[f.offset]?,uK P xs d e with
  |some (.int _),some (.int h a),some (.int j b),some r=>bif ao (h=j)then some ((a==b)&&r)else none
  |some .string,some (.string a),some (.string b),some r=>some ((a.toList==b.toList)&&r)
  |some .bool,some (.bool a),some (.bool b),some r=>some ((a==b)&&r)
  |_,_,_,_=>none
def Am(P:aw)(T:aD)(xs e:Array aa):Option Bool:=match P.underlying T with
 |some (.struct d)=>bif (!P.stoodInHeld T&&!P.eqGuardType P.depth T)then uK P xs e d.toList else none
 |_=>none
def r1(P:aw)(o:Oper)(E:Env)(T:aD)(x y:Operand)(neg:Bool)(K:aa->List (J->Prop)->Prop):Prop:=match E.val x,E.val y with
 |some (.agg d),some (.agg e)=>match Am P T d e with
  |some b=>K (.bool (bif neg then !b else b)) []
  |none=>False
 |_,_=>gA P o E K
def Dr(P:aw)(e:aD):Bool:=match P.underlying e,P.info? e with
 |some .string,some i=>i.size==1
 |_,_=>false
def Mr(P:aw)(e:aD):Bool:=match P.underlying e,P.info? e with
 |some (.int _),some i=>i.size==1
 |_,_=>false
def w6(P:aw)(o:Oper)(E:Env)(w:J)(K:aa->List (J->Prop)->Prop):Prop:=
 match o.op with
 |.load e d=>match E.val d with
  |some (.pointer (some p))=>mU P e p w K
  |_=>False
 |.nilCheck d=>match E.val d with
  |some (.pointer D)=>dJ D λp=>K (.pointer (some p)) []
  |_=>gA P o E K
 |.indexAddr e d x=>match E.val d,E.val x with
  |some (.slice a n _),some (.int _ i)=>match xc P e with
   |some z=>0<=i/\i<(n:Int)/\dJ a λp=>K (.pointer (some (p.add (i.toNat *z)))) []
   |none=>False
  |some (.pointer (some p)),some (.int _ i)=>match As P e with
   |some (n,z)=>0<=i/\i<(n:Int)/\K (.pointer (some (p.add (i.toNat *z)))) []
   |none=>False
  |_,_=>gA P o E K
 |.index e d x=>match P.underlying e,E.val d,E.val x with
  |some .string,some (.string s),some (.int _ i)=>0<=i/\∃b:UInt8,s[i.toNat]? =some b/\K (.int .u8 b.toNat) []
  |some (.array n B),some (.agg F),some (.int _ i)=>bif Dr P B then 0<=i/\i<((n:Nat):Int)/\∃a:ByteArray,F[i.toNat]? =some (.string a)/\K (.string a) []else cB (Mr P B) (0<=i/\i<((n:Nat):Int)/\∃a:Int,F[i.toNat]? =some (.int .i64 a)/\K (.int .i64 a) [])
  |_,_,_=>gA P o E K
 |.slice e d lo q y=>cB (E.eI o) (match P.underlying e,E.val d with
  |some (.slice _),some (.slice a n c)=>match xc P e with
   |some z=>mF (y.map E.ev) c c λm=>mF (q.map E.ev) m n λk=>cB (y.isNone||q.isSome) (mF (lo.map E.ev) k 0 λl=>
     K (.slice (if m=l then a else a.map (·.add (l *z))) (k - l) (m - l)) [])
   |none=>False
  |some .string,some (.string s)=>cB y.isNone (mF (q.map E.ev) s.size s.size λk=>mF (lo.map E.ev) k 0 λl=>K (.string (s.extract l k)) [])
  |some (.array n B),some (.pointer (some p))=>match P.info? B with
   |some inf=>mF (y.map E.ev) n n λm=>mF (q.map E.ev) m n λk=>cB (y.isNone||q.isSome) (mF (lo.map E.ev) k 0 λl=>
     K (.slice (some (if m=l then p else p.add (l *inf.size))) (k - l) (m - l)) [])
   |none=>False
  |_,_=>False)
 |.binOp .quo _ d h _=>bif isConst h then gA P o E K else match E.val d,E.val h with
  |some (.int j a),some (.int C b)=>cB (j==C) (b≠0/\K (.int j (j.wrap (a.tdiv b))) [])
  |_,_=>False
 |.binOp .rem _ d h _=>bif isConst h then gA P o E K else match E.val d,E.val h with
  |some (.int j a),some (.int C b)=>cB (j==C) (b≠0/\K (.int j (a.tmod b)) [])
  |_,_=>False
 |.binOp .eql e d (.const c) _=>bif nW P e c then(match m0 (E.val d) c with
  |some b=>K (.bool b) []
  |none=>False)else r1 P o E e d (.const c) false K
 |.binOp .neq e d (.const c) _=>bif nW P e c then(match m0 (E.val d) c with
  |some b=>K (.bool !b) []
  |none=>False)else r1 P o E e d (.const c) true K
 |.binOp .eql e d h _=>r1 P o E e d h false K
 |.binOp .neq e d h _=>match P.underlying e,E.val d,E.val h with
  |some (.pointer _),some (.pointer p),some (.pointer D)=>o' P (binOp .neq e (.pointer p) (.pointer D)) (.bool true) w K
  |_,_,_=>r1 P o E e d h true K
 |.binOp .add _ d h _=>match E.val d,E.val h with
  |some (.string s),some (.string t)=>¬(((s.size+t.size:Nat):Int)>IntKind.i64.max)/\K (.string (s++t)) []
  |_,_=>gA P o E K
 |.binOp .shl _ d h _=>bif isConst h then gA P o E K else match E.val d,E.val h with
  |some (.int j a),some (.int _ b)=>¬b<0/\K (.int j (j.wrap (a *2^(min b.toNat j.bits)))) []
  |_,_=>False
 |.binOp .shr _ d h _=>bif isConst h then gA P o E K else match E.val d,E.val h with
  |some (.int j a),some (.int _ b)=>¬b<0/\K (.int j (a.fdiv (2^(min b.toNat j.bits)))) []
  |_,_=>False
 |.lookup e d x ok=>match E.val d,E.val x with
  |some m,some j=>o' P (Instr.lookup e m j ok) (zeroOf P o.type) w K
  |_,_=>False
 |.convert s A d=>match P.underlying s,P.underlying A,E.val d with
  |some (.slice _),some .string,some v=>o' P (convert s A v) (.string (bj #[])) w K
  |some (.pointer _),some .unsafePointer,some v=>o' P (convert s A v) (.pointer none) w K
  |some .unsafePointer,some (.pointer _),some v=>o' P (convert s A v) (.pointer none) w K
  |_,_,_=>gA P o E K
 |.call {callee:=.builtin .len,args,argTypes}=>match args.toList,argTypes.toList with
  |[d],[e]=>match P.underlying e,E.val d with
   |some (.map _ _),some m=>o' P (Builtin.len_ #[e] o.type #[m]) (.int .i64 0) w K
   |_,_=>gA P o E K
  |_,_=>gA P o E K
 |_=>gA P o E K
def xz(op:BinOp)(T:aD)(x y:Operand)(a b:aa):Sem aa:=do eqGuard op T x y a b;binOp op T a b
def BO(P:aw)(o:Oper):Bool:=match o.op with
 |.binOp .eql d _ _ _|.binOp .neq d _ _ _=>match P.underlying d with
  |some (.interface _)=>true
  |_=>false
 |_=>false
def Iu(P:aw)(o:Oper)(E:Env)(w:J)(K:aa->List (J->Prop)->Prop):Prop:=match o.op with
 |.binOp op h d e _=>match E.val d,E.val e with
  |some a,some b=>o' P (xz op h d e a b) (.bool true) w K
  |_,_=>False
 |_=>False
def mG(P:aw)(o:Oper)(E:Env)(w:J)(K:aa->List (J->Prop)->Prop):Prop:=bif BO P o then Iu P o E w K else w6 P o E w K
def qT(p:Addr):List aa->Nat->J->(J->Prop)->Prop
 |[],_,d,e=>e d
 |v::h,i,d,e=>(d.cell? (p.add i)).isSome=true/\d.frozen? (p.add i)=false/\qT p h (i+1) (d.setCell (p.add i) v) e
def r2(P:aw)(o:Oper)(E:Env)(w:J)(K:aa->J->Prop):Prop:=
 cB (E.eI o) (match(execOp E.ev o).run P w with
  |.ok (.value v) d=>K v d
  |.ok .skip d=>K undef d
  |_=>False)
def p'(P:aw)(s:Sem aa)(e:aa)(w:J)(K:aa->J->Prop):Prop:=
 mQ e λv=>∃d,s.run P w=.ok v d/\K v d
def He(P:aw)(s:Sem Unit)(w:J)(K:aa->J->Prop):Prop:=
 ∃d,s.run P w=.ok () d/\K undef d
def gI(P:aw)(f:bU):Bool:=match P.funcs[f]? with |some fn=>fn.body.isSome&&!(fn.name=="runtime.NumGoroutine")|none=>false
def xm(P:aw)(f:bU)(args:Array aa)(e:aa)(w:J)(K:aa->J->Prop):Prop:=
 mQ e λv=>∃d,(callFunc f args).run P w=.ok (.value v) d/\K v d
def pT(P:aw)(f:bU)(args:Array aa)(h:aa)(w:J)(K:aa->J->Prop):Prop:=
 aj P f args w λd e=>mQ h λv=>d=ae v/\K v e
def sK:aa->Bool
 |.agg _=>false
 |.tuple _=>false
 |_=>true
def g0(P:aw)(o:Oper)(E:Env)(w:J)(K:aa->J->Prop):Prop:=
 match o.op with
 |.store d x y=>match E.val x,E.val y with
  |some (.pointer (some p)),some v=>cB (v.cells.size==(match P.info? d with |some i=>i.size|none=>0)&&v.cells.toList.all sK&&(P.info? d).isSome) (qT p v.cells.toList 0 w λV=>K undef V)
  |_,_=>False
 |.mapUpdate d m e v|.insert d m e v=>match E.val m,E.val e,E.val v with
  |some m,some e,some v=>He P (Instr.mapUpdate d m e v) w K
  |_,_,_=>False
 |.call {callee:=.builtin b,args,argTypes}=>cB (E.eI o) (match b with
  |.append=>p' P (g' argTypes o.type (args.map E.ev)) (.slice none 0 0) w K
  |.copy=>p' P (Builtin.copy_ argTypes o.type (args.map E.ev)) (.int .i64 0) w K
  |.unsafeSliceData=>p' P (Builtin.unsafeSliceData_ argTypes o.type (args.map E.ev)) (.pointer none) w K
  |.unsafeString=>p' P (Builtin.unsafeString_ argTypes o.type (args.map E.ev)) (.string (bj #[])) w K
  |.delete=>∃V,(Builtin.delete_ argTypes o.type (args.map E.ev)).run P w=.ok undef V/\K undef V
  |.clear=>∃V,(Builtin.clear_ argTypes o.type (args.map E.ev)).run P w=.ok (.tuple #[]) V/\K (.tuple #[]) V
  |_=>False)
 |.call {callee:=.value (.func f),args,..}=>cB (E.eI o) (bif gI P f then pT P f (args.map E.ev) (zeroOf P o.type) w K else xm P f (args.map E.ev) (zeroOf P o.type) w K)
 |.call {callee:=.value (.tmp t),args,..}=>cB (E.eI o) (match E.get? t with
  |some (.func (.func f) first captured)=>cB (gI P f) (pT P f (first++args.map E.ev++captured) (zeroOf P o.type) w K)
  |_=>False)
 |.makeSlice d l c=>match E.val l,E.val c with
  |some l,some c=>p' P (Instr.makeSlice d l c) (.slice none 0 0) w K
  |_,_=>False
 |.range d x=>match E.val x with
  |some x=>∃v V,(Instr.range d x).run P w=.ok v V/\K v V
  |_=>False
 |.next it s=>match E.val it with
  |some it=>(∃V,(Instr.next it s o.type).run P w=.ok (.tuple #[.bool false]) V/\K (.tuple #[.bool false]) V)\/
    (match s with
     |true=>∃(i c:Int) (V:J),(Instr.next it s o.type).run P w=.ok (.tuple #[.bool true,.int .i64 i,.int .i32 c]) V/\K (.tuple #[.bool true,.int .i64 i,.int .i32 c]) V
     |false=>∃(x y:aa) (V:J),(Instr.next it s o.type).run P w=.ok (.tuple #[.bool true,x,y]) V/\K (.tuple #[.bool true,x,y]) V)
  |_=>False
 |.entry it=>match E.val it with
  |some it=>∃(x y:aa) (V:J),(Instr.entry it).run P w=.ok (.tuple #[x,y]) V/\K (.tuple #[x,y]) V
  |_=>False
 |.convert s h x=>match E.val x with
  |some v=>p' P (convert s h v) (.slice none 0 0) w K
  |_=>False
 |_=>r2 P o E w K
def Z8(P:aw)(l:Nat)(args:Array aa)(w:J)(K:aa->J->Prop):Prop:=
 YieldAt Fence.wide 0 P l args w λd e=>∃b:Bool,d=ae (.bool b)/\K (.bool b) e
def rT(P:aw)(o:Oper)(E:Env)(w:J)(K:aa->J->Prop):Prop:=
 match o.op with
 |.call {callee:=.value (.tmp t),args,..}=>match E.get? t with
  |some (.func (.yield l) e d)=>cB (E.eI o&&(bG e.size 0&&bG d.size 0)) (Z8 P l (args.map E.ev) w K)
  |_=>g0 P o E w K
 |_=>g0 P o E w K
abbrev aJ(w:J)(p:Addr)(v:aa)(K:J->Prop):Prop:=(w.cell? p).isSome=true/\w.frozen? p=false/\K (w.setCell p v)
abbrev cS(w:J)(o:Obj)(K:J->Prop):Prop:=K (w.alloc o)
abbrev gN(w:J)(l:Nat)(a b:Obj)(K:J->Prop):Prop:=w.heap[l]? =some a/\K (w.putObj l b)
abbrev rS(w:J)(K:J->Prop):Prop:=K w.drew
def IE{P:aw}{T:aD}{b:Bool}(d:pL P T=some b)(w:J):(isAgg T).run P w=.ok b w:=by
 unfold pL at d;unfold isAgg;cases e:P.underlying T with
 |none=>rw[e]at d;cases d
 |some h=>rw[e]at d;cases h<;>simp[run_underlying e]at d ⊢<;>first |exact d|simp[<-d]
def vM{P:aw}{T:aD}{p:Addr}{v:aa}{w:J}(d:pL P T=some false)(e:w.cell? p=some v):(loadVar T p).run P w=.ok v w:=by simp[loadVar,IE d,e]
def Oo{P:aw}{T:aD}{p:Addr}{vs:List aa}{i:TypeInfo}{w:J}(e:pL P T=some true)(hi:P.info? T=some i)(j:i.size=vs.length)(h:∀d v,vs[d]? =some v->w.cell? (p.add d)=some v):(loadVar T p).run P w=.ok (.agg vs.toArray) w:=by have:=run_loadCells_list (P:=P) w p vs h;simp[loadVar,IE e,sizeOf,typeInfo,hi,j,this]
def Calm(P:aw)(o:Oper)(ρ:Operand->aa)(w:J)(v:aa)(h:List (J->Prop)):Prop:=
 (∀d∈h,d w)/\∀e,(∀d∈h,d e)->(execOp ρ o).run P e=.ok (.value v) e
def M9{P:aw}{o:Oper}{E:Env}{w:J}{n:Cx}{a:Act}{K:aa->List (J->Prop)->Prop}(x:∀h b,o.op≠.select h b)(k:Ag n a E)(d:gA P o E K):∃v e,K v e/\Calm P o a.eval w v e:=by
 obtain⟨q,d⟩:=dt d;split at d
 .rename_i v y;refine⟨v,[],d,λe j=>(by cases j),λz _=>?_⟩;rw[k.execOp x q];exact M8 y z
 .exact d.elim
def qH{P:aw}{s:Sem aa}{A:aa}{w:J}{K:aa->List (J->Prop)->Prop}{o:Oper}{ρ:Operand->aa}(q:execOp ρ o=(do pure (.value (<-s))))(j:o' P s A w K):∃v d,K v d/\Calm P o ρ w v d:=by
 obtain⟨v,y,k⟩:=TB j;refine⟨v,_,k,λd e=>?_,λh z=>?_⟩
 .simp at e;subst e;exact y
 .have x:s.run P h=.ok v h:=z _ (bX.2 rfl);rw[q];simp[x]
def oI{P:aw}{x:Option aa}{y d:Nat}{K:Nat->Prop}(e:mF x y d K):∃l,K l/\((x=none/\l=d)\/∃v,x=some v/\∀code h,(Instr.sliceBound v y code).run P h=.ok l h):=by
 unfold mF at e;split at e
 .exact ⟨d,e,.inl ⟨rfl,rfl⟩⟩
 .rename_i w i;obtain⟨j,k,q⟩:=e;refine⟨_,q,.inr ⟨_,rfl,λcode h=>?_⟩⟩;simp[Instr.sliceBound,asIntOf,j,k]
 .exact e.elim
def Eo{P:aw}{q:Bool}{n c m d l:Nat}{L H M:Option aa}{w:J}(j:(M=none/\m=c)\/∃v,M=some v/\∀code w,(Instr.sliceBound v c code).run P w=.ok m w)(e:(H=none/\d=n)\/∃v,H=some v/\∀code w,(Instr.sliceBound v m code).run P w=.ok d w)(h:(L=none/\l=0)\/∃v,L=some v/\∀code w,(Instr.sliceBound v d code).run P w=.ok l w)(k:M≠none->H=none->False):(Instr.sliceBounds q n c L H M).run P w=.ok (l,d,m) w:=by unfold Instr.sliceBounds;rcases j with⟨rfl,rfl⟩|⟨A,rfl,x⟩<;>rcases e with⟨rfl,rfl⟩|⟨B,rfl,y⟩<;>rcases h with⟨rfl,rfl⟩|⟨C,rfl,z⟩<;>first |(simp[*];done)|(exact(k (λd=>by cases d) rfl).elim)
def B8{P:aw}{T:aD}{p:Addr}{w:J}{K:aa->List (J->Prop)->Prop}(e:mU P T p w K):
  ∃v A,K v A/\(∀s∈A,s w)/\∀x,(∀s∈A,s x)->(loadVar T p).run P x=.ok v x:=by
 obtain⟨d,e⟩:=dt e;unfold wL at d;cases z:zeroOf P T with
 |agg H=>
  rw[z]at e d;simp only at e d;obtain⟨I,F,e⟩:=Bp e;obtain⟨j,k⟩:=ru e;rw[a9]at d;obtain⟨D,y⟩:=d;cases B:P.info? T with
  |none=>rw[B]at y;simp at y
  |some i=>
   rw[B]at y;simp at y D;refine⟨_,_,k,?_,λx q=>?_⟩
   .intro s h;obtain⟨⟨v,C⟩,G,rfl⟩:=cz.1 h;exact j _ (cz.2 ⟨(v,C),G,rfl⟩)
   .refine Oo D B (by rw[y,F];simp) (λC v E=>?_);have:=q _ (cz.2 ⟨(v,C),List.mem_zipIdx_iff_getElem?.2 E,rfl⟩);exact this
 |nilIface=>
  rw[z]at e d;simp at d;rcases e with⟨t,L,j,k⟩|⟨j,k⟩
  .refine ⟨_,_,k,λs h=>?_,λx q=>?_⟩
   .simp at h;subst h;exact j
   .exact vM d (q _ (bX.2 rfl))
  .refine ⟨_,_,k,λs h=>?_,λx q=>?_⟩
   .simp at h;subst h;exact j
   .exact vM d (q _ (bX.2 rfl))
 |nilFunc=>
  rw[z]at e d;obtain⟨f,j,k⟩:=e;simp at d;refine⟨f.v,_,k,λs h=>?_,λx q=>?_⟩
  .simp at h;subst h;exact j
  .exact vM d (q _ (bX.2 rfl))
 |_=>
  rw[z]at e d;try simp only at e
  try simp only at d
  obtain⟨v,j,k⟩:=Bo e;simp at d;refine⟨v,_,k,λs h=>?_,λx q=>?_⟩
  .simp at h;subst h;exact j
  .exact vM d (q _ (bX.2 rfl))
def Hj{P:aw}{T:aD}{sz:Nat}(d:xc P T=some sz):∃e i,P.underlying T=some (.slice e)/\P.info? e=some i/\i.size=sz:=by
 unfold xc at d;split at d
 .rename_i e j;cases h:P.info? e with
  |none=>rw[h]at d;cases d
  |some i=>rw[h]at d;simp at d;exact⟨e,i,j,h,d⟩
 .cases d
def yn{v c:aa}{b:Bool}(d:m0 (some v) c=some b):(∃a n m j h,v=.slice a n m/\c=.slice none j h/\b=a.isNone)\/(∃a,v=.pointer a/\c=.pointer none/\b=a.isNone)\/(∃r,v=.map r/\c=.map none/\b=r.isNone):=by
 unfold m0 at d;split at d
 .rename_i a n m j h e;cases e;cases d;exact .inl ⟨_,_,_,_,_,rfl,rfl,rfl⟩
 .rename_i a e;cases e;cases d;exact .inr (.inl ⟨_,rfl,rfl,rfl⟩)
 .rename_i a e;cases e;cases d;exact .inr (.inr ⟨_,rfl,rfl,rfl⟩)
 .cases d
def L7{P:aw}{T:aD}{c v:aa}{b:Bool}(d:nW P T c=true)(j:m0 (some v) c=some b)(w:J):(Op.equal T v c).run P w=.ok b w:=by
 unfold Op.equal Op.maxDepth Op.equalIn;cases e:P.underlying T with
 |none=>simp[nW,e]at d
 |some h=>
  simp only[Sem.run_bind,run_underlying e,Result.andThen_ok];unfold nW at d;rw[e]at d;rcases yn j with⟨a,n,m,q,k,rfl,rfl,rfl⟩|⟨a,rfl,rfl,rfl⟩|⟨a,rfl,rfl,rfl⟩<;>cases h<;>first |(cases d;done)|(cases a<;>rfl)
def Wq{P:aw}{T:aD}{c v:aa}{b:Bool}(e:nW P T c=true)(d:m0 (some v) c=some b)(w:J):(binOp .eql T v c).run P w=.ok (.bool b) w:=by have:=L7 e d w;rcases yn d with⟨a,n,m,j,h,rfl,rfl,rfl⟩|⟨a,rfl,rfl,rfl⟩|⟨a,rfl,rfl,rfl⟩<;>simp[binOp,this]
def Wr{P:aw}{T:aD}{c v:aa}{b:Bool}(e:nW P T c=true)(d:m0 (some v) c=some b)(w:J):(binOp .neq T v c).run P w=.ok (.bool !b) w:=by have:=L7 e d w;rcases yn d with⟨a,n,m,j,h,rfl,rfl,rfl⟩|⟨a,rfl,rfl,rfl⟩|⟨a,rfl,rfl,rfl⟩<;>simp[binOp,this]
def L8{P:aw}{op:BinOp}{T:aD}{c v:aa}{b:Bool}{p q:Operand}(d:m0 (some v) c=some b)(w:J):(eqGuard op T p q v c).run P w=.ok () w:=by rcases yn d with⟨a,n,m,h,e,rfl,rfl,rfl⟩|⟨a,rfl,rfl,rfl⟩|⟨a,rfl,rfl,rfl⟩<;>cases op<;>rfl
set_option maxHeartbeats 1000000 in
def ta{P:aw}{t:aD}{u:TypeDesc}(d:P.underlying t=some u)(e:(match u with |.struct _|.array _ _=>true|_=>false)=false){xs:Array aa}{off:Nat}{v:aa}(h:xs[off]? =some v)(w:J):(part t xs off).run P w=.ok v w:=by unfold part isAgg;cases u<;>first |(simp at e;done)|simp[run_underlying d,h]
def xi{P:aw}{xs E:Array aa}(d:Nat)(w:J):∀(k:List Field) (b:Bool),uK P xs E k=some b->(Op.eqFields (d+1) xs E k).run P w=.ok b w
 |[],b,e=>by simp[uK]at e;subst e;rfl
 |f::k,b,e=>by
  unfold uK at e;cases B:(f.name=="_")with
  |true=>rw[B]at e;cases e
  |false=>
   rw[B]at e;simp only[cond_false]at e;have G:f.name≠"_":=by simpa using B
   unfold Op.eqFields;rw[ag G];split at e
   .rename_i I D a H j r h x y q;cases A:ao (D=H)with
    |false=>rw[A]at e;cases e
    |true=>
     rw[A]at e;have F:=eZ A;subst F;simp only[cond_true,e0]at e;subst e;have z:=xi d w k r q;simp only[Sem.run_bind,ta h rfl x w,ta h rfl y w,Result.andThen_ok,run_equalIn_int w d f.type D I a j h];cases C:(a==j)<;>simp[z]
   .rename_i a j r h x y q;simp only[e0]at e;subst e;have z:=xi d w k r q;simp only[Sem.run_bind,ta h rfl x w,ta h rfl y w,Result.andThen_ok,run_equalIn_string w d f.type a j h];cases C:(a.toList==j.toList)<;>simp[z]
   .rename_i a j r h x y q;simp only[e0]at e;subst e;have z:=xi d w k r q;simp only[Sem.run_bind,ta h rfl x w,ta h rfl y w,Result.andThen_ok,run_equalIn_bool w d f.type a j h];cases C:(a==j)<;>simp[z]
   .cases e
def QY{P:aw}{T:aD}{xs h:Array aa}{b:Bool}(d:Am P T xs h=some b)(w:J):P.eqGuardType P.depth T=false/\(Op.equalIn 10000 T (.agg xs) (.agg h)).run P w=.ok b w:=by
 unfold Am at d;split at d
 .rename_i q k;cases e:(!P.stoodInHeld T&&!P.eqGuardType P.depth T)with
  |false=>rw[e]at d;cases d
  |true=>
   rw[e]at d;simp only[cond_true]at d;rw[a9]at e;have x:P.stoodInHeld T=false:=by simpa using e.1
   have y:P.eqGuardType P.depth T=false:=by simpa using e.2
   have j:P.fieldsOf T=q:=by unfold Program.fieldsOf;rw[k]
   refine⟨y,?_⟩;rw[run_equalIn_struct w 9999 T xs h (by rw[j];exact k) x,j];exact xi 9998 w _ _ d
 .cases d
def xj{P:aw}{o:Oper}{E:Env}{w:J}{n:Cx}{a:Act}{K:aa->List (J->Prop)->Prop}{op:BinOp}{T B:aD}{x y:Operand}{neg:Bool}(L:∀C b,o.op≠.select C b)(k:Ag n a E)(I:o.op=.binOp op T x y B)(G:(op=.eql/\neg=false)\/(op=.neq/\neg=true))(d:r1 P o E T x y neg K):∃v j,K v j/\Calm P o a.eval w v j:=by
 unfold r1 at d;split at d
 .rename_i e h M N;split at d
  .rename_i b H;refine⟨_,_,d,λj F=>(by cases F),λq _=>?_⟩;obtain⟨z,A⟩:=QY H q;have D:execOp a.eval o=(do pure (.value (<-(do eqGuard op T x y (.agg e) (.agg h);binOp op T (.agg e) (.agg h))))):=by simp only[execOp,I,k.val M,k.val N]
   rw[D];rcases G with⟨rfl,rfl⟩|⟨rfl,rfl⟩
   .simp only[Sem.run_bind,run_eqGuard_agg q _ T x y e h z,Result.andThen_ok,run_eql_struct,A];rfl
   .simp only[Sem.run_bind,run_eqGuard_agg q _ T x y e h z,Result.andThen_ok,run_neq_struct,A];rfl
  .exact d.elim
 .exact M9 L k d
def Sz{P:aw}{o:Oper}{E:Env}{w:J}{n:Cx}{a:Act}{K:aa->List (J->Prop)->Prop}(hs:∀cs b,o.op≠.select cs b)(j:Ag n a E)(d:w6 P o E w K):∃v y,K v y/\Calm P o a.eval w v y:=by
 have pure':gA P o E K->∃v y,K v y/\Calm P o a.eval w v y:=M9 hs j;unfold w6 at d;split at d
 .
  rename_i z A h;split at d
  .rename_i p e;obtain⟨v,y,q,D,h2⟩:=B8 d;refine⟨v,y,q,D,λx ax=>?_⟩;simp[execOp,h,Instr.loadAt,j.val e,Instr.sureAddr,h2 x ax]
  .exact d.elim
 .
  rename_i A h;split at d
  .rename_i ay e;obtain⟨p,rfl,q⟩:=Mz d;refine⟨_,_,q,λy k=>(by cases k),λx _=>?_⟩;simp[execOp,h,j.val e]
  .exact pure' d
 .
  rename_i z A ix h;split at d
  .rename_i b n c O i e C;split at d
   .rename_i sz ad;obtain⟨I,D,d⟩:=d;obtain⟨p,rfl,q⟩:=Mz d;obtain⟨S,inf,G,M,rfl⟩:=Hj ad;refine⟨_,_,q,λy k=>(by cases k),λx _=>?_⟩;simp[execOp,h,j.val e,j.val C,Instr.indexAt,asIntOf,run_underlying G,I,D,sizeOf,typeInfo,M]
   .exact d.elim
  .rename_i p O i e C;split at d
   .rename_i n sz ad;obtain⟨I,D,q⟩:=d;obtain⟨S,inf,G,M,rfl⟩:=Q9 ad;refine⟨_,_,q,λy k=>(by cases k),λx _=>?_⟩;simp[execOp,h,j.val e,j.val C,Instr.indexAt,Instr.sureAddr,asIntOf,run_underlying G,I,D,sizeOf,typeInfo,M]
   .exact d.elim
  .exact pure' d
 .
  rename_i z A ix h;split at d
  .rename_i s O i G e C;obtain⟨I,b,F,q⟩:=d;refine⟨_,_,q,λy k=>(by cases k),λx _=>?_⟩;simp[execOp,h,j.val e,j.val C,Instr.index,asIntOf,run_underlying G,I,F]
  .rename_i n S cs O i G e C;cases Y:Dr P S with
   |true=>
    rw[Y]at d;obtain⟨I,N,b,F,q⟩:=d;unfold Dr at Y;split at Y
    .rename_i inf aj M;have D:inf.size=1:=by simpa using Y
     refine⟨_,_,q,λy k=>(by cases k),λx _=>?_⟩;simp[execOp,h,j.val e,j.val C,Instr.index,asIntOf,run_underlying G,I,N,sizeOf,typeInfo,M,D,part,isAgg,run_underlying aj,F]
    .cases Y
   |false=>
   rw[Y]at d;obtain⟨D,I,N,b,F,q⟩:=dt d;unfold Mr at D;split at D
   .rename_i B inf aj M;have D:inf.size=1:=by simpa using D
    refine⟨_,_,q,λy k=>(by cases k),λx _=>?_⟩;simp[execOp,h,j.val e,j.val C,Instr.index,asIntOf,run_underlying G,I,N,sizeOf,typeInfo,M,D,part,isAgg,run_underlying aj,F]
   .cases D
  .exact pure' d
 .
  rename_i z A lo C T h;obtain⟨aq,d⟩:=dt d;have ae:∀B∈o.op.operands,(E.val B).isSome=true:=λB H=>dK.1 aq B (by simpa using H);have ai:lo.map a.eval=lo.map E.ev:=by
   cases lo with
   |none=>rfl
   |some B=>simp only[Option.map_some];rw[j.ev (ae B (by rw[h];simp[Op.operands]))]
  have af:C.map a.eval=C.map E.ev:=by
   cases C with
   |none=>rfl
   |some B=>simp only[Option.map_some];rw[j.ev (ae B (by rw[h];simp[Op.operands]))]
  have am:T.map a.eval=T.map E.ev:=by
   cases T with
   |none=>rfl
   |some B=>simp only[Option.map_some];rw[j.ev (ae B (by rw[h];simp[Op.operands]))]
  split at d
  .rename_i S b n c G e;split at d
   .rename_i sz ad;obtain⟨m,d,hm⟩:=oI (P:=P) d;obtain⟨Z,d,ab⟩:=oI (P:=P) d;obtain⟨ar,d⟩:=dt d;obtain⟨l,q,hl⟩:=oI (P:=P) d;obtain⟨e',inf,ao,M,rfl⟩:=Hj ad;rw[ao]at G;cases G;refine⟨_,_,q,λy k=>(by cases k),λx _=>?_⟩;have ac:(Instr.sliceBounds true n c (lo.map E.ev) (C.map E.ev) (T.map E.ev)).run P x=.ok (l,Z,m) x:=by refine Eo hm ab hl ?_;intro D h2;cases T<;>cases C<;>simp_all
    simp only[execOp,h,j.val e,ai,af,am];simp[Instr.sliceAt,run_underlying ao,Instr.slice,ac,sizeOf,typeInfo,M]
   .exact d.elim
  .rename_i s G e;obtain⟨au,h'⟩:=dt d;clear d;have av:T=none:=by simpa using au
   subst av;obtain⟨Z,d,ab⟩:=oI (P:=P) h';obtain⟨l,q,hl⟩:=oI (P:=P) d;refine⟨_,_,q,λy k=>(by cases k),λx _=>?_⟩;have ac:(Instr.sliceBounds false s.size s.size (lo.map E.ev) (C.map E.ev) none).run P x=.ok (l,Z,s.size) x:=by exact Eo (.inl ⟨rfl,rfl⟩) ab hl (λD _=>absurd rfl D)
   simp only[execOp,h,j.val e,ai,af];simp[Instr.sliceAt,run_underlying G,Instr.slice,ac]
  .rename_i n S p G e;split at d
   .rename_i inf M;obtain⟨m,d,hm⟩:=oI (P:=P) d;obtain⟨Z,d,ab⟩:=oI (P:=P) d;obtain⟨ar,d⟩:=dt d;obtain⟨l,q,hl⟩:=oI (P:=P) d;refine⟨_,_,q,λy k=>(by cases k),λx _=>?_⟩;have ac:(Instr.sliceBounds false n n (lo.map E.ev) (C.map E.ev) (T.map E.ev)).run P x=.ok (l,Z,m) x:=by refine Eo hm ab hl ?_;intro D h2;cases T<;>cases C<;>simp_all
    simp only[execOp,h,j.val e,ai,af,am];simp[Instr.sliceAt,Instr.sureAddr,run_underlying G,ac,sizeOf,typeInfo,M]
   .exact d.elim
  .exact d.elim
 .
  rename_i z A B Q h;cases L:isConst B with
  |true=>rw[L]at d;exact pure' d
  |false=>
   rw[L]at d;simp only[cond_false]at d;split at d
   .rename_i O i k' ak e H;obtain⟨ag,W,q⟩:=dt d;have ah:O=k':=by simpa using ag
    subst ah;refine⟨_,_,q,λy k=>(by cases k),λx _=>?_⟩;simp[execOp,h,j.val e,j.val H,eqGuard,binOp,Op.intDiv,W]
   .exact d.elim
 .
  rename_i z A B Q h;cases L:isConst B with
  |true=>rw[L]at d;exact pure' d
  |false=>
   rw[L]at d;simp only[cond_false]at d;split at d
   .rename_i O i k' ak e H;obtain⟨ag,W,q⟩:=dt d;have ah:O=k':=by simpa using ag
    subst ah;refine⟨_,_,q,λy k=>(by cases k),λx _=>?_⟩;simp[execOp,h,j.val e,j.val H,eqGuard,binOp,Op.intDiv,W]
   .exact d.elim
 .
  rename_i z A c Q h;cases N:nW P z c with
  |false=>rw[N]at d;exact xj hs j h (.inl ⟨rfl,rfl⟩) d
  |true=>
   rw[N]at d;simp only[cond_true]at d;split at d
   .rename_i b F;refine⟨_,_,d,λy k=>(by cases k),λx _=>?_⟩;cases e:E.val A with
    |none=>rw[e]at F;simp[m0]at F
    |some v=>
     rw[e]at F;have V:execOp a.eval o=(do pure (.value (<-(do eqGuard .eql z A (.const c) v c;binOp .eql z v c)))):=by simp only[execOp,h,j.val e];rfl
     rw[V];simp[L8 F x,Wq N F x]
   .exact d.elim
 .
  rename_i z A c Q h;cases N:nW P z c with
  |false=>rw[N]at d;exact xj hs j h (.inr ⟨rfl,rfl⟩) d
  |true=>
   rw[N]at d;simp only[cond_true]at d;split at d
   .rename_i b F;refine⟨_,_,d,λy k=>(by cases k),λx _=>?_⟩;cases e:E.val A with
    |none=>rw[e]at F;simp[m0]at F
    |some v=>
     rw[e]at F;have V:execOp a.eval o=(do pure (.value (<-(do eqGuard .neq z A (.const c) v c;binOp .neq z v c)))):=by simp only[execOp,h,j.val e];rfl
     rw[V];simp[L8 F x,Wr N F x]
   .exact d.elim
 .
  rename_i z A B Q _ h;exact xj hs j h (.inl ⟨rfl,rfl⟩) d
 .rename_i z A B Q _ h;split at d
  .rename_i p ay G e H;refine qH ?_ d;simp only[execOp,h,j.val e,j.val H];rfl
  .exact xj hs j h (.inr ⟨rfl,rfl⟩) d
 .
  rename_i z A B Q h;split at d
  .rename_i s t e H;obtain⟨I,q⟩:=d;refine⟨_,_,q,λy k=>(by cases k),λx _=>?_⟩;have V:execOp a.eval o=(do pure (.value (<-(do eqGuard .add z A B (.string s) (.string t);binOp .add z (.string s) (.string t))))):=by simp only[execOp,h,j.val e,j.val H]
   rw[V];simp only[eqGuard,binOp,Op.stringOp,I];rfl
  .exact pure' d
 .
  rename_i z A B Q h;cases L:isConst B with
  |true=>rw[L]at d;exact pure' d
  |false=>
   rw[L]at d;simp only[cond_false]at d;split at d
   .rename_i O i k' ak e H;obtain⟨W,q⟩:=d;refine⟨_,_,q,λy k=>(by cases k),λx _=>?_⟩;simp[execOp,h,j.val e,j.val H,eqGuard,binOp,Op.shift,W]
   .exact d.elim
 .
  rename_i z A B Q h;cases L:isConst B with
  |true=>rw[L]at d;exact pure' d
  |false=>
   rw[L]at d;simp only[cond_false]at d;split at d
   .rename_i O i k' ak e H;obtain⟨W,q⟩:=d;refine⟨_,_,q,λy k=>(by cases k),λx _=>?_⟩;simp[execOp,h,j.val e,j.val H,eqGuard,binOp,Op.shift,W]
   .exact d.elim
 .
  rename_i z A ix ok h;split at d
  .rename_i m O e C;exact qH (by simp[execOp,h,j.val e,j.val C]) d
  .exact d.elim
 .
  rename_i s az A h;split at d
  .rename_i S v an al e;exact qH (by simp[execOp,h,j.val e]) d
  .rename_i S v an al e;exact qH (by simp[execOp,h,j.val e]) d
  .rename_i S v an al e;exact qH (by simp[execOp,h,j.val e]) d
  .exact pure' d
 .
  rename_i args ap h;split at d
  .rename_i A z e hT;split at d
   .rename_i kt et m G hm;refine qH ?_ d;have V:args=#[A]:=by rw[<-Array.toArray_toList (xs:=args),e]
    have e2:ap=#[z]:=by rw[<-Array.toArray_toList (xs:=ap),hT]
    simp[execOp,h,V,e2,resolve,invoke,builtin,j.val hm]
   .exact pure' d
  .exact pure' d
 .exact pure' d
def w7{P:aw}{o:Oper}{E:Env}{w:J}{n:Cx}{a:Act}{K:aa->List (J->Prop)->Prop}(x:∀k b,o.op≠.select k b)(e:Ag n a E)(d:mG P o E w K):∃v h,K v h/\Calm P o a.eval w v h:=by
 unfold mG at d;cases j:BO P o with
 |false=>rw[j]at d;exact Sz x e d
 |true=>
  rw[j]at d;simp only[cond_true]at d;unfold Iu at d;split at d
  .rename_i op A C D B q;split at d
   .rename_i u v y z;refine qH ?_ d;simp only[execOp,q,e.val y,e.val z];rfl
   .exact d.elim
  .exact d.elim
def tj{P:aw}{p:Addr}:∀{vs:List aa} {i:Nat} {w:J} {K:J->Prop},vs.all sK=true->qT p vs i w K->
  ∃e,(storeCells p vs i).run P w=.ok () e/\K e
 |[],i,w,K,_,d=>⟨w,by simp[storeCells],d⟩
 |v::vs,i,w,K,h,d=>by
  obtain⟨k,q,d⟩:=d;rw[List.all_cons,a9]at h;obtain⟨e,y,x⟩:=tj (P:=P) h.2 d;refine⟨e,?_,x⟩;obtain⟨u,A⟩:=Option.isSome_iff_exists.1 k;have z:(store (p.add i) v).run P w=.ok () (w.setCell (p.add i) v):=by have j:=h.1;cases v<;>first |(simp[sK]at j;done)|simp[store,Sem.run,A,q]
  simp[storeCells,z,y]
def rI{P:aw}{f:bU}(d:gI P f=true)(args:Array aa)(w:J):(callFunc f args).run P w=.ok (.enter f args) w:=by
 unfold gI at d;cases e:P.funcs[f]? with
 |none=>rw[e]at d;cases d
 |some fn=>
  rw[e]at d;simp at d;obtain⟨h,j⟩:=d;have k:fn.body≠none:=by intro q;rw[q]at h;cases h
  simp[callFunc,e,j,k]
def Ag.args{n:Cx}{a:Act}{E:Env}(e:Ag n a E){args:Array Operand}(h:∀d∈args,(E.val d).isSome=true):args.map a.eval=args.map E.ev:=
 Array.map_congr_left λd j=>e.ev (h d j)
def ir(P:aw)(o:Oper)(a:Act)(w:J)(K:aa->J->Prop):Prop:=
 ∀d:Exit->Act->J->Prop,o.wp P a w (λe h=>∃v,e=a.put o.dst v/\K v h) d
def GK{P:aw}{f:bU}{args:Array aa}{k:aa}{w:J}{K:aa->J->Prop}{o:Oper}{a:Act}(j:(execOp a.eval o).run P w=.ok (.enter f args) w)(d:pT P f args k w K):ir P o a w K:=by intro q;unfold Oper.wp;rw[j];simp only[Oper.upon];refine Calls.mono d λx y e=>?_;obtain⟨v,rfl,h⟩:=oN e;exact⟨v,rfl,h⟩
def rR{P:aw}{s:Sem aa}{k:aa}{w:J}{K:aa->J->Prop}{o:Oper}{a:Act}(j:execOp a.eval o=(do pure (.value (<-s))))(d:p' P s k w K):ir P o a w K:=by intro q;obtain⟨v,x,h,e⟩:=oN d;unfold Oper.wp;rw[j];simp only[Sem.run_bind,h,Result.andThen_ok,Sem.run_pure,Oper.upon];exact⟨v,rfl,e⟩
set_option maxHeartbeats 1000000 in
def mK{P:aw}{o:Oper}{E:Env}{w:J}{n:Cx}{a:Act}{K:aa->J->Prop}(hs:∀S b,o.op≠.select S b)(k:Ag n a E)(d:g0 P o E w K):ir P o a w K:=by
 unfold g0 at d;split at d
 .
  rename_i F z Q e;split at d
  .rename_i p v y hy;obtain⟨L,d⟩:=dt d;rw[a9,a9]at L;obtain⟨⟨M,W⟩,Y⟩:=L;obtain⟨i,C⟩:=Option.isSome_iff_exists.1 Y;rw[C]at M;have T:v.cells.size=i.size:=by simpa using M
   obtain⟨V,j,h⟩:=tj (P:=P) W d;intro A;unfold Oper.wp;have:(execOp a.eval o).run P w=.ok .skip V:=by simp[execOp,e,Instr.storeAt,k.val y,k.val hy,Instr.sureAddr,storeVar,sizeOf,typeInfo,C,T,j]
   rw[this];simp only[Oper.upon];exact⟨_,rfl,h⟩
  .exact d.elim
 .
  rename_i F m ac v e;split at d
  .rename_i mv kv vv H h I;obtain⟨V,j,G⟩:=d;intro A;unfold Oper.wp;have:(execOp a.eval o).run P w=.ok .skip V:=by simp[execOp,e,k.val H,k.val h,k.val I,j]
   rw[this];simp only[Oper.upon];exact⟨_,rfl,G⟩
  .exact d.elim
 .
  rename_i F m ac v e;split at d
  .rename_i mv kv vv H h I;obtain⟨V,j,G⟩:=d;intro A;unfold Oper.wp;have:(execOp a.eval o).run P w=.ok .skip V:=by simp[execOp,e,k.val H,k.val h,k.val I,j]
   rw[this];simp only[Oper.upon];exact⟨_,rfl,G⟩
  .exact d.elim
 .
  rename_i b args O e;obtain⟨B,d⟩:=dt d;have q:args.map a.eval=args.map E.ev:=k.args λz y=>dK.1 B z (by rw[e];simp[Op.operands,Call.operands,y]);split at d
  .exact rR (by simp[execOp,e,resolve,invoke,builtin,q]) d
  .exact rR (by simp[execOp,e,resolve,invoke,builtin,q]) d
  .exact rR (by simp[execOp,e,resolve,invoke,builtin,q]) d
  .exact rR (by simp[execOp,e,resolve,invoke,builtin,q]) d
  .obtain ⟨V,j,h⟩:=d;intro A;unfold Oper.wp;have:(execOp a.eval o).run P w=.ok (.value undef) V:=by simp[execOp,e,resolve,invoke,builtin,q,j]
   rw[this];simp only[Oper.upon];exact⟨_,rfl,h⟩
  .obtain ⟨V,j,h⟩:=d;intro A;unfold Oper.wp;have:(execOp a.eval o).run P w=.ok (.value (.tuple #[])) V:=by simp[execOp,e,resolve,invoke,builtin,q,j]
   rw[this];simp only[Oper.upon];exact⟨_,rfl,h⟩
  .exact d.elim
 .
  rename_i f args O e;obtain⟨B,d⟩:=dt d;have q:args.map a.eval=args.map E.ev:=k.args λz y=>dK.1 B z (by rw[e];simp[Op.operands,Call.operands,y]);cases D:gI P f with
  |true=>
   rw[D]at d;refine GK ?_ d;simp[execOp,e,resolve,Act.eval,Deferred.ofValue,invoke,q,rI D]
  |false=>
   rw[D,cond_false]at d;unfold xm at d;obtain⟨v,V,j,h⟩:=oN d;intro A;unfold Oper.wp;have:(execOp a.eval o).run P w=.ok (.value v) V:=by simp[execOp,e,resolve,Act.eval,Deferred.ofValue,invoke,q,j]
   rw[this];simp only[Oper.upon];exact⟨_,rfl,h⟩
 .
  rename_i t args O e;obtain⟨B,d⟩:=dt d;have q:args.map a.eval=args.map E.ev:=k.args λz y=>dK.1 B z (by rw[e];simp[Op.operands,Call.operands,y]);split at d
  .rename_i f first captured Z
   obtain⟨D,d⟩:=dt d;have ab:a.eval (.tmp t)=.func (.func f) first captured:=k.val (x:=.tmp t) Z
   refine GK ?_ d;simp[execOp,e,resolve,ab,Deferred.ofValue,invoke,q,rI D]
  .exact d.elim
 .
  rename_i F l c e;split at d
  .rename_i lv cv hl B;exact rR (by simp[execOp,e,k.val hl,k.val B]) d
  .exact d.elim
 .
  rename_i F z e;split at d
  .rename_i xv y;obtain⟨v,V,j,h⟩:=d;intro A;unfold Oper.wp;have:(execOp a.eval o).run P w=.ok (.value v) V:=by simp[execOp,e,k.val y,j]
   rw[this];simp only[Oper.upon];exact⟨_,rfl,h⟩
  .exact d.elim
 .
  rename_i it s e;split at d
  .rename_i N C;have fin:∀(v:aa) (V:J),(Instr.next N s o.type).run P w=.ok v V->K v V->ir P o a w K:=λv V j h A=>by
    unfold Oper.wp;have:(execOp a.eval o).run P w=.ok (.value v) V:=by simp[execOp,e,k.val C,j]
    rw[this];simp only[Oper.upon];exact⟨_,rfl,h⟩
   rcases d with⟨V,j,h⟩|d
   .exact fin _ _ j h
   .split at d
    .obtain ⟨i,c,V,j,h⟩:=d;exact fin _ _ j h
    .obtain ⟨i,c,V,j,h⟩:=d;exact fin _ _ j h
  .exact d.elim
 .
  rename_i it e;split at d
  .rename_i N C;obtain⟨z,Q,V,j,h⟩:=d;intro A;unfold Oper.wp;have:(execOp a.eval o).run P w=.ok (.value (.tuple #[z,Q])) V:=by simp[execOp,e,k.val C,j]
   rw[this];simp only[Oper.upon];exact⟨_,rfl,h⟩
  .exact d.elim
 .
  rename_i s ad z e;split at d
  .rename_i v y;exact rR (by simp[execOp,e,k.val y]) d
  .exact d.elim
 .
  obtain⟨B,d⟩:=dt d;intro A;unfold Oper.wp;rw[k.execOp hs B];generalize(execOp E.ev o).run P w=r at d;split at d
  .simp only[Oper.upon];exact⟨_,rfl,d⟩
  .simp only[Oper.upon];exact⟨_,rfl,d⟩
  .exact d.elim
def zQ(P:aw)(n:Cx)(o:Oper)(a:Act)(w:J)(K:aa->J->Prop):Prop:=
 ∀d:Exit->Act->J->Prop,o.wpIn (FW n) 0 P a w (λe h=>∃v,e=a.put o.dst v/\K v h) d
def GL{n:Cx}{P:aw}{f:bU}{args:Array aa}{w:J}{R:cA->J->Prop}(e:aj P f args w R):CallsIn (FW n) 0 P f args w R:=by
 have d:CallsIn Fence.wide 0 P f args w R:=callsIn_wide.2 e;obtain⟨n,j,h⟩:=n;cases h with
 |none=>exact d
 |some l=>exact d
def X3{n:Cx}{P:aw}{row:String}{args:Array aa}{w:J}{R:aa->J->Prop}(e:Rows P row args w R):RowsIn (FW n) 0 P row args w R:=by
 intro c d _;obtain⟨v,q,h,j⟩:=e c d;refine⟨v,q,h,?_⟩;have:=stepsIn_wide.2 j;obtain⟨n,x,k⟩:=n;cases k with
 |none=>exact this
 |some l=>exact this
def XT{n:Cx}{P:aw}{l:Nat}{f:bU}{tmps:Array aa}{assign body:Code}{w:J}{R:cA->J->Prop}(d:RoundIn Fence.wide 0 P l f tmps assign body w R):RoundIn (FW n) 0 P l f tmps assign body w R:=by
 obtain⟨n,h,e⟩:=n;cases e with
 |none=>exact d
 |some l=>exact d
def E4{P:aw}{n:Cx}{o:Oper}{a:Act}{w:J}{K:Act->J->Prop}{Q:Exit->Act->J->Prop}(hd:∀c,o.op≠.defer c)(d:o.wp P a w K Q):o.wpIn (FW n) 0 P a w K Q:=by
 refine⟨λ_ _=>trivial,?_⟩;rw[Oper.semAt_eq _ _ _ hd];unfold Oper.wp at d;generalize(execOp a.eval o).run P w=r at *;cases r with
 |ok nx e=>
  cases nx<;>simp only[Oper.upon,Oper.uponIn]at d ⊢
  case value=>exact d
  case skip=>exact d
  case defer=>exact d
  case enter f args=>exact⟨λd=>(by cases d),GL d⟩
  case row row args=>exact⟨λd=>(by cases d),X3 d⟩
 |halt h e=>
  cases h<;>simp only[Oper.upon,Oper.uponIn]at d ⊢;exact d
def ir.in{P:aw}{n:Cx}{o:Oper}{a:Act}{w:J}{K:aa->J->Prop}(hd:∀c,o.op≠.defer c)(e:ir P o a w K):zQ P n o a w K:=λd=>E4 hd (e d)
def Hh{P:aw}{o:Oper}{E:Env}{w:J}{n:Cx}{a:Act}{K:aa->J->Prop}(q:∀h b,o.op≠.select h b)(hd:∀c,o.op≠.defer c)(e:Ag n a E)(d:rT P o E w K):zQ P n o a w K:=by
 unfold rT at d;split at d
 .rename_i t args V k;split at d
  .rename_i l A h H;obtain⟨j,O⟩:=dt d;clear d;simp only[a9,dZ]at j;obtain⟨G,B,C⟩:=j;have y:A=#[]:=Array.eq_empty_of_size_eq_zero B;have z:h=#[]:=Array.eq_empty_of_size_eq_zero C;subst y z;have F:args.map a.eval=args.map E.ev:=e.args λQ M=>dK.1 G Q (by rw[k];simp[Op.operands,Call.operands,M]);have I:a.eval (.tmp t)=.func (.yield l) #[] #[]:=e.val (x:=.tmp t) H;intro S;obtain⟨fn,tmps,assign,body,N,D⟩:=O;refine⟨λ_ _=>trivial,?_⟩;rw[Oper.semAt_eq _ _ _ hd];have:(execOp a.eval o).run P w=.ok (.round l fn tmps assign body) w:=by simp[execOp,k,resolve,I,Deferred.ofValue,invoke,F,N]
   rw[this,Oper.uponIn_round];refine⟨λd=>(by cases d),XT (D.mono ?_)⟩;rintro T W ⟨b,rfl,L⟩;exact⟨_,rfl,L⟩
  .exact (mK q e d).in hd
 .exact (mK q e d).in hd
def vn(ops:Array Oper)(i j:Nat):Bool:=match ops[j]? with |some o=>o.after.toList.any λd=>bG d.on i&&Region.binds .any d|none=>false
def yz(ops:Array Oper):Nat->Nat->Nat->Bool
 |0,i,d=>vn ops i d
 |f+1,i,d=>bif vn ops i d then true else match ops[d]? with |some o=>o.after.toList.any λe=>bif Region.binds .any e then yz ops f i e.on else false|none=>false
def ib(ops:Array Oper)(i j:Nat):Bool:=yz ops 4 i j
def Down(ops:Array Oper)(e:Array Bool):Prop:=∀(k:Nat) (o:Oper),ops[k]? =some o->e.getD k false=true->∀d∈o.after,Region.binds .any d=true->e.getD d.on false=true
def Down.zero(ops:Array Oper)(n:Nat):Down ops (g9 n false):=λh o _ e=>by
 exfalso;by_cases d:h<n
 .simp [d]at e
 .simp [d]at e
def Down.set{ops:Array Oper}{e:Array Bool}(hd:Down ops e){i:Nat}(hi:i∈dE .any ops e):Down ops (e.setIfInBounds i true):=λx o d q h k j=>by
 obtain⟨_,A,z,y⟩:=mem_ready.1 hi;by_cases w:i=x
 .subst w;rw[z]at d;cases d;exact getD_set_true (y h k j)
 .rw [getD_set_ne false w]at q;exact getD_set_true (hd x o d q h k j)
def MB{ops:Array Oper}{q:Array Bool}{i j:Nat}(w:∀o,ops[j]? =some o->∀d∈o.after,Region.binds .any d=true->q.getD d.on false=true)(e:vn ops i j=true):q.getD i false=true:=by
 unfold vn at e;cases k:ops[j]? with
 |none=>rw[k]at e;cases e
 |some o=>
  rw[k]at e;obtain⟨d,x,h⟩:=List.any_eq_true.1 e;rw[a9]at h;have y:d.on=i:=by have:=h.1;rwa[dZ]at this
  have:=w o k d (by simpa using x) h.2
  rwa[y]at this
def MC{ops:Array Oper}{x:Array Bool}(hd:Down ops x){i:Nat}:∀(f j:Nat),(∀o,ops[j]? =some o->∀e∈o.after,Region.binds .any e=true->x.getD e.on false=true)->yz ops f i j=true->x.getD i false=true
 |0,j,h,d=>MB h d
 |f+1,j,h,d=>by
  unfold yz at d;cases y:vn ops i j with
  |true=>exact MB h y
  |false=>
   rw[y]at d;cases w:ops[j]? with
   |none=>rw[w]at d;cases d
   |some o=>
    rw[w]at d;obtain⟨e,B,k⟩:=List.any_eq_true.1 d;cases q:Region.binds .any e with
    |false=>rw[q]at k;cases k
    |true=>
     rw[q]at k;have D:=h o w e (by simpa using B) q;exact MC hd f e.on (λF E z C A=>hd e.on F E D z C A) k
abbrev dT:=List (Nat×(J->Prop))
def heldBy(ops:Array Oper)(j:Nat)(w:J):dT->List Prop
 |[]=>[]
 |(i,e)::d=>bif ib ops i j then heldBy ops j w d else e w::heldBy ops j w d
def cM(ops:Array Oper)(j:Nat):dT->dT
 |[]=>[]
 |(i,e)::d=>bif ib ops i j then cM ops j d else(i,e)::cM ops j d
def BM{ops:Array Oper}{j:Nat}{w:J}:∀{H:dT} {p:Nat×(J->Prop)},p∈H->ib ops p.1 j=false->p.2 w∈heldBy ops j w H
 |(i,h)::H,p,d,e=>by
  unfold heldBy;rcases aE.1 d with rfl|d
  .simp only at e;rw[e];exact List.mem_cons_self
  .have:=BM (H:=H) (w:=w) d e;cases ib ops i j
   .exact cH _ this
   .exact this
def e6{ops:Array Oper}{j:Nat}:∀{H:dT} {p:Nat×(J->Prop)},p∈cM ops j H↔p∈H/\ib ops p.1 j=false
 |[],p=>by simp[cM]
 |(i,k)::H,p=>by
  unfold cM;cases h:ib ops i j with
  |true=>
   simp only[cond_true];rw[e6];constructor
   .rintro ⟨e,d⟩;exact⟨cH _ e,d⟩
   .rintro ⟨e,d⟩;rcases aE.1 e with rfl|e
    .simp only at d;rw[h]at d;cases d
    .exact ⟨e,d⟩
  |false=>
   simp only[cond_false,aE];rw[e6];constructor
   .rintro (rfl|⟨e,d⟩)
    .exact ⟨.inl rfl,h⟩
    .exact ⟨.inr e,d⟩
   .rintro ⟨rfl|e,d⟩
    .exact .inl rfl
    .exact .inr ⟨e,d⟩
section
variable {P:aw} {ops:Array Oper} {Q:Exit->Act->J->Prop}
def dO(P:aw)(ops:Array Oper)(Q:Exit->Act->J->Prop):Nat->dT->Array Bool->Act->J->Prop
 |0,_,d,a,e=>Down ops d->dE .any ops d=[]/\Q .normal a e
 |fuel+1,h,d,a,e=>Down ops d->
  (dE .any ops d=[]->Q .normal a e)/\
  ∀i∈dE .any ops d,wpOp P ops Q i (λk j=>(∀p∈cM ops i h,p.2 j)/\dO P ops Q fuel (cM ops i h) (d.setIfInBounds i true) k j) a e
def wm:∀(fuel:Nat) (H:dT) (h:Array Bool) (a:Act) (w:J),Down ops h->dO P ops Q fuel H h a w->wpAny P .any ops Q fuel h a w
 |0,_,_,_,_,d,e=>e d
 |fuel+1,_,_,_,_,d,e=>⟨(e d).1,λi j=>wpOp_mono (λk x q=>wm fuel _ _ k x (d.set j) q.2) ((e d).2 i j)⟩
def E1:∀(fuel:Nat) (H d:dT) (j:Array Bool) (a:Act) (w:J),(∀p∈d,p∈H)->dO P ops Q fuel H j a w->dO P ops Q fuel d j a w
 |0,_,_,_,_,_,_,e=>e
 |fuel+1,H,d,j,a,w,A,e=>λq=>⟨(e q).1,λi z=>wpOp_mono (λy B k=>by have x:∀p∈cM ops i d,p∈cM ops i H:=λp h=>e6.2 ⟨A p (e6.1 h).1,(e6.1 h).2⟩;exact⟨λp h=>k.1 p (x p h),E1 fuel _ _ _ y B x k.2⟩) ((e q).2 i z)⟩
def WB{i j:Nat}{d:Array Bool}(hd:Down ops d)(hi:d.getD i true=false)(y:j∈dE .any ops d):ib ops i j=false:=by
 obtain⟨_,B,A,q⟩:=mem_ready.1 y;cases z:ib ops i j with
 |false=>rfl
 |true=>
  have this:=MC hd 4 j (λo h k x w=>by rw[A]at h;cases h;exact q k x w) z;rcases Nat.lt_or_ge i d.size with e|e
  .simp [e]at hi this;rw[hi]at this;cases this
  .simp [Array.getElem?_eq_none e]at this
def zL{i:Nat}{z:Oper}{v:aa}{Ss:List (J->Prop)}(hi:ops[i]? =some z)(ad:∀(j:Nat) (o:Oper) D b,ops[j]? =some o->o.op≠.select D b)(hQ:∀c a w,Q (.panic c) (a.put z.dst v) w->Q (.panic c) a w):
  ∀(fuel:Nat) (H:dT) (q:Array Bool) (a:Act) (w:J),
   (∀j A,ops[j]? =some A->j≠i->q.getD j true=false->(∀h∈A.after,Region.binds .any h=true->h.on≠i)->z.apart ops A=true)->
   i∈dE .any ops q->YieldsIf P ops (λw=>∀e∈Ss,e w) z v a->(∀e∈Ss,e w)->(∀p∈H,p.2 w)->
   dO P ops Q fuel (Ss.map (λe=>(i,e))++H) (q.setIfInBounds i true) (a.put z.dst v) w->dO P ops Q (fuel+1) H q a w:=by
 intro fuel;induction fuel with
 |zero=>
  intro H q a w _ k G N M C F;refine⟨λI=>(by rw[I]at k;cases k),λj E=>?_⟩;by_cases x:j=i
  .subst x;exact G.wpOp hi N ⟨λp d=>M p (e6.1 d).1,C⟩
  .have:=ready_mono E x;rw[(C (F.set k)).1]at this;cases this
 |succ fuel ih=>
  intro H q a w W k G N M C F;refine⟨λI=>(by rw[I]at k;cases k),λj E=>?_⟩;by_cases x:j=i
  .subst x;refine G.wpOp hi N ⟨λp d=>M p (e6.1 d).1,?_⟩;exact E1 _ _ _ _ _ _ (λp d=>b0 _ (e6.1 d).1) C
  .have y:=(C (F.set k)).2 j (ready_mono E x);obtain⟨ab,A,O,ag⟩:=mem_ready.1 E;have L:=(mem_ready.1 k).1;have al:∀h∈A.after,Region.binds .any h=true->h.on≠i:=λh he hb ah=>by
    have y:=ag h he hb;rw[ah]at y;rcases Nat.lt_or_ge i q.size with K|K
    .simp [K]at L y;rw[L]at y;cases y
    .simp [Array.getElem?_eq_none K]at y
   have ac:ib ops i j=false:=WB F L E;have h2:=wpOp_putIf O (W j A O x ab al) (λD b=>ad i z D b hi) (λD b=>ad j A D b O) hQ G y;have ai:∀B ok,ops[B]? =some ok->B≠i->(q.setIfInBounds j true).getD B true=false->
     (∀h∈ok.after,Region.binds .any h=true->h.on≠i)->z.apart ops ok=true:=λB ok hk aj ae ak=>by
    refine W B ok hk aj ?_ ak;by_cases Z:j=B
    .subst Z;exact ab
    .rw [getD_set_ne true Z]at ae;exact ae
   refine wpOp_mono (λa' S h3=>?_) h2;obtain⟨an,Y,am⟩:=h3;have T:∀p∈cM ops j H,p.2 S:=λp d=>Y p (e6.2 ⟨b0 _ (e6.1 d).1,(e6.1 d).2⟩);have af:∀e∈Ss,e S:=λe V=>Y (i,e) (e6.2 ⟨List.mem_append_left _ (cz.2 ⟨e,V,rfl⟩),ac⟩);refine⟨T,ih (cM ops j H) (q.setIfInBounds j true) a' S ai (ready_mono k (Ne.symm x)) an af T ?_⟩;rw[Array.setIfInBounds_comm _ _ x];refine E1 _ _ _ _ _ _ (λp d=>?_) am;rcases aL.1 d with d|d
   .obtain ⟨e,V,rfl⟩:=cz.1 d;exact e6.2 ⟨List.mem_append_left _ d,ac⟩
   .exact e6.2 ⟨b0 _ (e6.1 d).1,(e6.1 d).2⟩
end
def jC(ops:Array Oper)(j:Nat):Option Nat:=(ops[j]?).bind (·.dst)
def oh(P:aw)(ops:Array Oper)(draw:Bool)(i:Nat)(o:Oper)(E:Env)(w:J)(H:dT)(K:Env->J->dT->Prop):Prop:=
 bif calm P o then mG P o E w λv h=>K (E.put o.dst v) w (bif draw then h.map (λe=>(i,e))++H else H)
 else(bif draw then g0 else rT) P o E w λv d=>rs (heldBy ops i d H) (K (E.put o.dst v) d (cM ops i H))
def ln(P:aw)(ops:Array Oper)(draw:Bool)(i:Nat)(o:Oper)(d:Nat)(want t:Bool)(E:Env)(w:J)(H:dT)(K:Env->J->dT->Prop):Prop:=
 bif (t==want)then oh P ops draw i o ((d,.bool t)::E) w H K else K (Env.put ((d,.bool t)::E) o.dst undef) w (bif calm P o then H else cM ops i H)
def gR(P:aw)(ops:Array Oper)(draw:Bool)(K:Env->J->Prop):List Nat->Env->J->dT->Prop
 |[],d,e,_=>K d e
 |i::l,d,e,j=>
  match ops[i]? with
  |none=>False
  |some o=>match o.guard with
   |none=>oh P ops draw i o d e j λh q k=>gR P ops draw K l h q k
   |some (x,want)=>match jC ops x with
    |none=>False
    |some w=>match d.get? w with
     |some (.bool t)=>bq t (ln P ops draw i o w want true d e j λh q k=>gR P ops draw K l h q k) (ln P ops draw i o w want false d e j λh q k=>gR P ops draw K l h q k)
     |some (.tuple _)=>gR P ops draw K l (Env.put d o.dst undef) e (bif calm P o then j else cM ops i j)
     |_=>False
def o1(P:aw)(ops:Array Oper):List Nat->Array Bool->Bool
 |[],d=>(dE .any ops d).isEmpty
 |i::l,d=>(match ops[i]? with
   |some o=>bif calm P o then Region.free .any ops d i&&(dE .any ops d).contains i else dE .any ops d==[i]
   |none=>false)&&o1 P ops l (d.setIfInBounds i true)
def L9(o:Oper):Bool:=match o.op with |.defer _=>false|_=>true
def di(n:Nat)(ops:Array Oper):Bool:=Region.noSelect ops&&ops.toList.all λo=>L9 o&&match o.dst with |some d=>Nat.blt d n|none=>true
def gz{n:Nat}{ops:Array Oper}(d:di n ops=true){i:Nat}{o:Oper}(e:ops[i]? =some o):∀t,o.dst=some t->t<n:=by intro t h;unfold di at d;rw[a9]at d;have:=dK.1 d.2 o (by simpa using Array.mem_of_getElem? e);rw[h,a9]at this;simpa using this.2
def sM{n:Nat}{ops:Array Oper}(d:di n ops=true){i:Nat}{o:Oper}(h:ops[i]? =some o):∀c,o.op≠.defer c:=by intro c e;unfold di at d;rw[a9]at d;have:=dK.1 d.2 o (by simpa using Array.mem_of_getElem? h);rw[a9]at this;have:=this.1;unfold L9 at this;rw[e]at this;cases this
def gV(n:Cx)(K:Env->J->Prop):Exit->Act->J->Prop
 |.normal,a,e=>∃d,Ag n a d/\K d e
 |_,_,_=>False
def q3{n:Cx}{a:Act}{E:Env}(e:Ag n a E){ops:Array Oper}{j d:Nat}{t:Bool}(hd:jC ops j=some d)(h:E.get? d=some (.bool t)):yielded ops a.tmps j=some t:=by unfold yielded;unfold jC at hd;rw[hd];simp[e.get _ _ h]
def q4{n:Cx}{a:Act}{E:Env}(e:Ag n a E){ops:Array Oper}{j d:Nat}{vs:Array aa}(hd:jC ops j=some d)(h:E.get? d=some (.tuple vs)):yielded ops a.tmps j=none:=by unfold yielded;unfold jC at hd;rw[hd];simp[e.get _ _ h]
def Ag.same{n:Cx}{a:Act}{E:Env}(e:Ag n a E){d:Nat}{v:aa}(hd:E.get? d=some v):Ag n a ((d,v)::E):=e.cons hd e
section
variable {P:aw} {ops:Array Oper} {n:Cx} {K:Env->J->Prop}
def E3{i:Nat}{o:Oper}{a:Act}{w:J}{Kv:aa->J->Prop}{K':Act->J->Prop}{Q:Exit->Act->J->Prop}(j:ops[i]? =some o)(q:b3 o (yielded ops a.tmps)=true)(e:ir P o a w Kv)(h:∀v d,Kv v d->K' (a.put o.dst v) d):wpOp P ops Q i K' a w:=by unfold wpOp;simp only[j,q,if_true];exact .inl (Oper.wp_mono (λx d=>by rintro⟨v,rfl,k⟩;exact h v d k) (e Q))
def zk{i:Nat}{o:Oper}{a:Act}{E:Env}{w:J}{H:dT}{Kh:Env->J->dT->Prop}{k:Array Bool}{fuel:Nat}{Q:Exit->Act->J->Prop}(x:di n ops=true)(j:ops[i]? =some o)(d:(bif calm P o then Region.free .any ops k i&&(dE .any ops k).contains i else dE .any ops k==[i])=true)(Z:∀c a w,Q (.panic c) a w=False)(y:Ag n a E)(G:∀p∈H,p.2 w)(O:b3 o (yielded ops a.tmps)=true)(h:oh P ops true i o E w H Kh)(next:∀D C q z,Ag n D C->(∀p∈z,p.2 q)->Kh C q z->dO P ops Q fuel z (k.setIfInBounds i true) D q):dO P ops Q (fuel+1) H k a w:=by
 have B:=Region.noSelect_spec (ops:=ops) (by unfold di at x;rw[a9]at x;exact x.1);unfold oh at h;cases K:calm P o with
 |true=>
  rw[K]at h d;simp only[cond_true]at h d;rw[a9]at d;obtain⟨v,V,hk,N,ab⟩:=w7 (λA b=>B i o A b j) y h;refine zL (v:=v) (Ss:=V) j B (by simp[Z]) fuel H k a w (Region.free_spec j d.1) (by simpa using d.2) (.inl ⟨O,λq ac=>ab q ac⟩) N G ?_;refine next _ _ _ _ (y.put v (gz x j)) ?_ hk
  intro p e;rcases aL.1 e with e|e
  .obtain ⟨T,aa,rfl⟩:=cz.1 e;exact N T aa
  .exact G p e
 |false=>
  rw[K]at h d;simp only[cond_false,cond_true]at h d;have M:dE .any ops k=[i]:=by simpa using d
  refine λ_=>⟨λF=>(by rw[M]at F;cases F),λS L=>?_⟩;rw[M]at L;obtain rfl:=bX.1 L;refine E3 j O (mK (λA b=>B S o A b j) y h) λv q hv=>?_;obtain⟨W,Y⟩:=ru hv;have I:∀p∈cM ops S H,p.2 q:=λp e=>W _ (BM (e6.1 e).1 (e6.1 e).2);exact⟨I,next _ _ _ _ (y.put v (gz x j)) I Y⟩
def zc{i:Nat}{o:Oper}{a:Act}{w:J}{H:dT}{e:Array Bool}{fuel:Nat}{Q:Exit->Act->J->Prop}(h:di n ops=true)(j:ops[i]? =some o)(d:(bif calm P o then Region.free .any ops e i&&(dE .any ops e).contains i else dE .any ops e==[i])=true)(B:∀c a w,Q (.panic c) a w=False)(q:∀p∈H,p.2 w)(A:b3 o (yielded ops a.tmps)=false)(next:dO P ops Q fuel (bif calm P o then H else cM ops i H) (e.setIfInBounds i true) (a.put o.dst undef) w):dO P ops Q (fuel+1) H e a w:=by
 have E:=Region.noSelect_spec (ops:=ops) (by unfold di at h;rw[a9]at h;exact h.1);cases x:calm P o with
 |true=>
  rw[x]at d next
  simp only[cond_true]at d next
  rw[a9]at d;exact zL (v:=undef) (Ss:=[]) j E (by simp[B]) fuel H e a w (Region.free_spec j d.1) (by simpa using d.2) (.inr ⟨A,rfl⟩) (λF C=>(by cases C)) q (by simpa using next)
 |false=>
  rw[x]at d next
  simp only[cond_false]at d next
  have z:dE .any ops e=[i]:=by simpa using d
  refine λ_=>⟨λk=>(by rw[z]at k;cases k),λG y=>?_⟩;rw[z]at y;obtain rfl:=bX.1 y;unfold wpOp;simp only[j,A];exact⟨λp D=>q p (e6.1 D).1,next⟩
def Ed(y:di n ops=true):∀(l:List Nat) (G:Array Bool) (E:Env) (w:J) (H:dT) (a:Act),o1 P ops l G=true->Ag n a E->(∀p∈H,p.2 w)->
  gR P ops true K l E w H->dO P ops (gV n K) l.length H G a w
 |[],G,E,w,H,a,e,k,_,d=>λ_=>⟨by simpa[o1]using e,E,k,d⟩
 |i::l,G,E,w,H,a,e,k,j,d=>by
  unfold o1 at e;rw[a9]at e;obtain⟨e,V⟩:=e;unfold gR at d;cases q:ops[i]? with
  |none=>rw[q]at d;exact d.elim
  |some o=>
   rw[q]at d e;simp only at d e;have next:∀I A z x,Ag n I A->(∀p∈x,p.2 z)->gR P ops true K l A z x->dO P ops (gV n K) l.length x (G.setIfInBounds i true) I z:=
    λI A z x Q S T=>Ed y l _ A z x I V Q S T
   cases B:o.guard with
   |none=>
    rw[B]at d;simp only at d;exact zk y q e (λ_ _ _=>rfl) k j (by simp[b3,B]) d next
   |some Y=>
    obtain⟨W,want⟩:=Y;rw[B]at d;simp only at d;cases M:jC ops W with
    |none=>rw[M]at d;exact d.elim
    |some O=>
     rw[M]at d;simp only at d;split at d
     .rename_i t F;have N:=q3 k M F;have C:ln P ops true i o O want t E w H λA z x=>gR P ops true K l A z x:=by
       cases t
       .exact d
       .exact d
      unfold ln at C;cases L:(t==want)with
      |true=>
       rw[L]at C;exact zk y q e (λ_ _ _=>rfl) (k.same F) j (by simp[b3,B,N];simpa using L) C next
      |false=>
       rw[L]at C;simp only[cond_false]at C;refine zc y q e (λ_ _ _=>rfl) j (by simp[b3,B,N];simpa using L) ?_;refine next _ _ _ _ ((k.same F).put undef (gz y q)) ?_ C
       intro p h;cases D:calm P o
       .rw [D]at h;exact j p (e6.1 h).1
       .rw [D]at h;exact j p h
     .rename_i Z F;have N:=q4 k M F;refine zc y q e (λ_ _ _=>rfl) j (by simp[b3,B,N]) ?_;refine next _ _ _ _ (k.put undef (gz y q)) ?_ d
      intro p h;cases D:calm P o
      .rw [D]at h;exact j p (e6.1 h).1
      .rw [D]at h;exact j p h
     .exact d.elim
def E2{i:Nat}{o:Oper}{a:Act}{w:J}{Kv:aa->J->Prop}{K':Act->J->Prop}{Q:Exit->Act->J->Prop}(j:ops[i]? =some o)(q:b3 o (yielded ops a.tmps)=true)(e:zQ P n o a w Kv)(h:∀v d,Kv v d->K' (a.put o.dst v) d):wpOpIn (FW n) 0 P ops Q i K' a w:=by unfold wpOpIn;simp only[j,q,if_true];exact Oper.wpIn_mono (λx d=>by rintro⟨v,rfl,k⟩;exact h v d k) (e Q)
def O5{i:Nat}{o:Oper}{a:Act}{E:Env}{w:J}{Kh:Env->J->dT->Prop}{rest:List Nat}{Q:Exit->Act->J->Prop}(h:di n ops=true)(d:ops[i]? =some o)(k:Ag n a E)(B:b3 o (yielded ops a.tmps)=true)(e:oh P ops false i o E w [] Kh)(next:∀y x j,Ag n y x->Kh x j []->wpOpsIn (FW n) 0 P ops Q rest y j):wpOpsIn (FW n) 0 P ops Q (i::rest) a w:=by
 have A:=Region.noSelect_spec (ops:=ops) (by unfold di at h;rw[a9]at h;exact h.1);rw[wpOpsIn_cons];unfold oh at e;cases z:calm P o with
 |true=>
  rw[z]at e;simp only[cond_true,cond_false]at e;obtain⟨v,K,D,F,G⟩:=w7 (λq b=>A i o q b d) k e;refine E2 (Kv:=λC j=>C=v/\j=w) d B ?_ ?_
  .refine ir.in (sM h d) λI=>?_;unfold Oper.wp;rw[G w F];exact⟨v,rfl,rfl,rfl⟩
  .rintro C j ⟨rfl,rfl⟩;exact next _ _ _ (k.put _ (gz h d)) D
 |false=>
  rw[z]at e;simp only[cond_false,heldBy,rs,cM]at e;exact E2 d B (Hh (λq b=>A i o q b d) (sM h d) k e) λv j H=>next _ _ _ (k.put v (gz h d)) H
def Ot(z:di n ops=true):∀(l:List Nat) (E:Env) (w:J) (a:Act),Ag n a E->gR P ops false K l E w []->wpOpsIn (FW n) 0 P ops (gV n K) l a w
 |[],E,w,a,j,d=>⟨E,j,d⟩
 |i::l,E,w,a,j,d=>by
  unfold gR at d;cases k:ops[i]? with
  |none=>rw[k]at d;exact d.elim
  |some o=>
   rw[k]at d;simp only at d;have next:∀B e h,Ag n B e->gR P ops false K l e h []->wpOpsIn (FW n) 0 P ops (gV n K) l B h:=λB e h L M=>Ot z l e h B L M
   cases x:o.guard with
   |none=>
    rw[x]at d;simp only at d;exact O5 (Kh:=λe h y=>gR P ops false K l e h y) z k j (by simp[b3,x]) d next
   |some O=>
    obtain⟨N,want⟩:=O;rw[x]at d;simp only at d;cases D:jC ops N with
    |none=>rw[D]at d;exact d.elim
    |some I=>
     rw[D]at d;simp only at d;split at d
     .rename_i t A;have F:=q3 j D A;have q:ln P ops false i o I want t E w [] λe h y=>gR P ops false K l e h y:=by
       cases t
       .exact d
       .exact d
      unfold ln at q;cases C:(t==want)with
      |true=>
       rw[C]at q;exact O5 (Kh:=λe h y=>gR P ops false K l e h y) z k (j.same A) (by simp[b3,x,F];simpa using C) q next
      |false=>
       rw[C]at q;simp only[cond_false]at q;have G:(bif calm P o then([]:dT)else cM ops i [])=[]:=by cases calm P o<;>rfl
       rw[G]at q;rw[wpOpsIn_cons];unfold wpOpIn;have H:b3 o (yielded ops a.tmps)=false:=by simp[b3,x,F];simpa using C
       simp only[k,H];exact⟨λ_ _=>trivial,next _ _ _ ((j.same A).put undef (gz z k)) q⟩
     .rename_i Q A;have F:=q4 j D A;have G:(bif calm P o then([]:dT)else cM ops i [])=[]:=by cases calm P o<;>rfl
      rw[G]at d;rw[wpOpsIn_cons];unfold wpOpIn;have H:b3 o (yielded ops a.tmps)=false:=by simp[b3,x,F]
      simp only[k,H];exact⟨λ_ _=>trivial,next _ _ _ (j.put undef (gz z k)) d⟩
     .exact d.elim
def Z5{c:Code}{id:Nat}{a:Act}{E:Env}{w:J}(h:c=.region id ops false)(j:di n ops=true)(e:Ag n a E)(d:gR P ops false K (List.range ops.size) E w []):c.wpIn (FW n) 0 P (gV n K) a w:=by subst h;exact wpIn_region (Ot j _ E w a e d)
def q1(h:di n ops=true){Q:Exit->Act->J->Prop}(e:¬LetsOut Q):∀(l:List Nat) (a:Act) (w:J),wpOps P ops Q l a w->wpOpsIn (FW n) 0 P ops Q l a w
 |[],a,w,d=>d
 |i::l,a,w,d=>by
  rw[wpOps_cons]at d;rw[wpOpsIn_cons];unfold wpOp at d;unfold wpOpIn;cases j:ops[i]? with
  |none=>rw[j]at d;exact q1 h e l a w d
  |some o=>
   rw[j]at d;simp only at d ⊢;split
   .rename_i k;rw[ag k]at d;rcases d with d|d
    .exact Oper.wpIn_mono (λq y x=>q1 h e l q y x) (E4 (sM h j) d)
    .exact absurd d.2 e
   .rename_i k;rw[ab k]at d;exact⟨λ_ _=>trivial,q1 h e l _ w d⟩
def Z4{c:Code}{id:Nat}{a:Act}{E:Env}{w:J}{l:List Nat}(y:P.follows .mixedOrders=true)(q:c=.region id ops true)(h:di n ops=true)(x:o1 P ops l (g9 ops.size false)=true)(A:l.length=ops.size)(k:Ag n a E)(d:gR P ops true K l E w.drew []):c.wpIn (FW n) 0 P (gV n K) a w:=by subst q;have e:=Ed h l _ E _ [] a x k (λp z=>(by cases z)) d;rw[A]at e;have j:=wm _ [] _ _ _ (Down.zero _ _) e;refine wpIn_region_draw λt=>?_;refine q1 h (λ⟨_,_,d⟩=>d) _ _ _ ?_;simp only[Region.schedule,y,Bool.true_or,if_true];exact wpAny_sound ops.size t _ a _ j
end
section
variable {P:aw} {n:Cx}
def Code.ops:Code->Array Oper
 |.region _ ops _=>ops
 |_=>#[]
def Code.fst:Code->Code
 |.seq a _=>a
 |.cond _ a _=>a
 |.block _ a=>a
 |.loop a=>a
 |.scope a=>a
 |c=>c
def Code.snd:Code->Code
 |.seq _ b=>b
 |.cond _ _ b=>b
 |c=>c
def Code.FO:Code->Code
 |.rangeFunc _ _ a _=>a
 |c=>c
def Code.FU:Code->Code
 |.rangeFunc _ _ _ b=>b
 |c=>c
abbrev gn(P:aw)(n:Cx)(c:Code)(Q:Exit->Act->J->Prop)(a:Act)(w:J):Prop:=c.wpIn (FW n) 0 P Q a w
def WP(P:aw)(n:Cx)(c:Code)(Q:Exit->Act->J->Prop)(E:Env)(w:J):Prop:=∀a,Ag n a E->gn P n c Q a w
def WP.region{c:Code}{Q:Exit->Act->J->Prop}{E:Env}{w:J}{ops:Array Oper}{id:Nat}(K:Env->J->Prop)(y:c=.region id ops false)(A:di n ops=true)(q:gR P ops false K (List.range ops.size) E w [])(z:∀d h e,Ag n e d->K d h->Q .normal e h):WP P n c Q E w:=λa x=>
 wpIn_mono (Z5 y A x q) λk e h j=>by
  cases k with
  |normal=>obtain⟨d,hA,hK⟩:=j;exact z d h e hA hK
  |_=>exact j.elim
def WP.XM{c:Code}{Q:Exit->Act->J->Prop}{E:Env}{w:J}{ops:Array Oper}{id:Nat}{l:List Nat}(K:Env->J->Prop)(B:P.follows .mixedOrders=true)(y:c=.region id ops true)(C:di n ops=true)(A:o1 P ops l (g9 ops.size false)=true)(D:l.length=ops.size)(q:gR P ops true K l E w.drew [])(z:∀d h e,Ag n e d->K d h->Q .normal e h):WP P n c Q E w:=λa x=>
 wpIn_mono (Z4 B y C A D x q) λk e h j=>by
  cases k with
  |normal=>obtain⟨d,hA,hK⟩:=j;exact z d h e hA hK
  |_=>exact j.elim
def qI(n:Nat)(c:Code):Bool:=match c with |.region _ ops d=>!d&&di n ops|_=>false
def NB(P:aw)(n:Nat)(c:Code)(l:List Nat):Bool:=match c with
 |.region _ ops d=>d&&(P.follows .mixedOrders&&(di n ops&&(o1 P ops l (g9 ops.size false)&&bG l.length ops.size)))
 |_=>false
def WP.kP{c:Code}{Q:Exit->Act->J->Prop}{E:Env}{w:J}(K:Env->J->Prop)(d:qI n c=true)(q:gR P (Code.ops c) false K (List.range (Code.ops c).size) E w [])(A:∀e j h,Ag n h e->K e j->Q .normal h j):WP P n c Q E w:=by
 unfold qI at d;split at d
 .rename_i id ops k;rw[a9]at d;obtain⟨x,y⟩:=d;have z:k=false:=by simpa using x
  subst z;exact WP.region K rfl y q A
 .cases d
def WP.draw{c:Code}{Q:Exit->Act->J->Prop}{E:Env}{w:J}(l:List Nat)(K:Env->J->Prop)(d:NB P n c l=true)(q:gR P (Code.ops c) true K l E w.drew [])(A:∀e k h,Ag n h e->K e k->Q .normal h k):WP P n c Q E w:=by
 unfold NB at d;split at d
 .rename_i id ops B;simp only[a9]at d;obtain⟨rfl,x,y,z,j⟩:=d;rw[dZ]at j;exact WP.XM K x rfl y z j q A
 .cases d
def WP.at{c:Code}{Q:Exit->Act->J->Prop}{E:Env}{w:J}{a:Act}(d:WP P n c Q E w)(e:Ag n a E):gn P n c Q a w:=d a e
def WP.seq{c x y:Code}{Q:Exit->Act->J->Prop}{E:Env}{w:J}(h:c=.seq x y)(d:WP P n x (Exit.then (gn P n y Q) Q) E w):WP P n c Q E w:=λa e=>by subst h;exact wpIn_seq (d a e)
def WP.cond{c x y:Code}{o:Operand}{Q:Exit->Act->J->Prop}{E:Env}{w:J}{t:Bool}(j:c=.cond o x y)(k:E.val o=some (.bool t))(h:bq t (WP P n x Q E w) (WP P n y Q E w)):WP P n c Q E w:=λa d=>by
 subst j;refine wpIn_cond_split (d.val k) (λe=>?_) (λe=>?_)
 .subst e;exact h a d
 .subst e;exact h a d
def hG(v:Option aa)(A B:Prop):Prop:=match v with |some (.bool t)=>bq t A B|_=>False
def WP.hG{c x y:Code}{o:Operand}{Q:Exit->Act->J->Prop}{E:Env}{w:J}{A B:Prop}(j:c=.cond o x y)(e:A->WP P n x Q E w)(h:B->WP P n y Q E w)(d:hG (E.val o) A B):WP P n c Q E w:=by
 unfold W.hG at d;split at d
 .rename_i t k;refine WP.cond j k ?_;cases t
  .exact h d
  .exact e d
 .exact d.elim
def WP.block{c x:Code}{id:Nat}{Q:Exit->Act->J->Prop}{E:Env}{w:J}(h:c=.block id x)(d:WP P n x (Exit.inBlock id Q) E w):WP P n c Q E w:=λa e=>by subst h;exact wpIn_block (d a e)
def WP.skip{c:Code}{Q:Exit->Act->J->Prop}{E:Env}{w:J}(h:c=.skip)(d:∀a,Ag n a E->Q .normal a w):WP P n c Q E w:=λa e=>by subst h;exact wpIn_skip (d a e)
def WP.exit{c:Code}{id:Nat}{Q:Exit->Act->J->Prop}{E:Env}{w:J}(h:c=.exit id)(d:∀a,Ag n a E->Q (.exit id) a w):WP P n c Q E w:=λa e=>by subst h;exact wpIn_exit (d a e)
def WP.ret{c:Code}{Q:Exit->Act->J->Prop}{E:Env}{w:J}(h:c=.ret)(d:∀a,Ag n a E->Q .ret a w):WP P n c Q E w:=λa e=>by subst h;exact wpIn_ret (d a e)
def oC(P:aw)(n:Cx)(c:Code)(Q:Exit->Act->J->Prop)(a:Act)(w:J):Prop:=
 ∀(b:Frame) (k:List Item) (cs:List Frame),b.roundOf=n.ro->∃e d h,Q e d h/\ArrivesIn (Machine.fenced P (FW n)) P (lone (b.atR a (.code c::.inLoop c::k)) cs w) b k cs e d h
def XS(n:Cx)(m:Nat):(FW n).room m:=room_wide m
def Qi{c:Code}{Q:Exit->Act->J->Prop}{a:Act}{w:J}(j:oC P n c Q a w):gn P n (Code.loop c) Q a w:=λb A e z q y=>by obtain⟨h,d,B,x,k⟩:=j b A e z;exact⟨h,d,B,x,.of_steps (.one (fenced_calm q y rfl) stepR_loop) k⟩
def Jj{c:Code}{Q:Exit->Act->J->Prop}{a:Act}{w:J}(A:gn P n c (Exit.then (oC P n c Q) Q) a w):oC P n c Q a w:=by
 intro b z h y;have k:(FW n).fn b.fn:=trivial;have q:(FW n).room (h.length+1+0):=XS n _;obtain⟨j,a₁,w₁,e,d⟩:=A b (.inLoop c::z) h y k q;cases j with
 |normal=>
  obtain⟨j₂,a₂,w₂,e₂,d₂⟩:=e b z h y;exact⟨j₂,a₂,w₂,e₂,.of_steps (StepsIn.trans d (.one (fenced_calm k q rfl) stepR_inLoop)) d₂⟩
 |exit id=>exact⟨_,a₁,w₁,e,.pass (x:=.inLoop c) rfl (λ_ _=>.inl (by simp)) d⟩
 |goto l=>exact⟨_,a₁,w₁,e,.pass (x:=.inLoop c) rfl (λ_ _=>.inl (by simp)) d⟩
 |ret=>exact⟨_,a₁,w₁,e,.pass (x:=.inLoop c) rfl (λ_ _=>.inl (by simp)) d⟩
 |panic B=>exact⟨_,a₁,w₁,e,.pass (x:=.inLoop c) rfl (λ_ _=>.inl (by simp)) d⟩
 |outgrown=>exact⟨_,a₁,w₁,e,.pass (x:=.inLoop c) rfl (λ_ _=>.inl (by simp)) d⟩
def LP(P:aw)(n:Cx)(c:Code)(Q:Exit->Act->J->Prop)(E:Env)(w:J):Prop:=∀a,Ag n a E->oC P n c Q a w
def WP.loop{c x:Code}{Q:Exit->Act->J->Prop}{E:Env}{w:J}(h:c=.loop x)(d:LP P n x Q E w):WP P n c Q E w:=λa e=>by subst h;exact Qi (d a e)
def LP.step{c:Code}{Q:Exit->Act->J->Prop}{E:Env}{w:J}(d:WP P n c (Exit.then (oC P n c Q) Q) E w):LP P n c Q E w:=λa e=>Jj (d a e)
def DA:List aa->aa
 |[v]=>v
 |d=>.tuple d.toArray
def qK(P:aw)(E:Env)(w:J):List ResultVar->(List aa->Prop)->Prop
 |[],d=>d []
 |.tmp t::l,d=>match E.get? t with
  |some v=>qK P E w l λe=>d (v::e)
  |none=>False
 |.cell j h::l,d=>match E.get? j with
  |some (.pointer (some p))=>mU P h p w λv _=>qK P E w l λe=>d (v::e)
  |_=>False
def kg(P:aw)(fn:Func)(E:Env)(w:J)(K:aa->Prop):Prop:=qK P E w fn.results.toList λd=>K (DA d)
def n9(tmps:Array aa):ResultVar->Sem aa
 |.tmp t=>pure (tmps.getD t undef)
 |.cell a t=>do loadVar t (<-asAddr (tmps.getD a undef))
def D4(fn:Func)(tmps:Array aa):results fn tmps=(do let d <-fn.results.mapM (n9 tmps);pure (if e:d.size=1 then d[0]else .tuple d)):=by unfold results;congr 1
def D5{a:Act}{E:Env}(h:Ag n a E)(w:J):∀{l:List ResultVar} {K:List aa->Prop},qK P E w l K->
  ∃e,(l.mapM (n9 a.tmps)).run P w=.ok e w/\K e
 |[],K,d=>⟨[],by simp,d⟩
 |.tmp t::l,K,d=>by
  unfold qK at d;split at d
  .rename_i v A;obtain⟨e,q,k⟩:=D5 h w d;refine⟨v::e,?_,k⟩;have j:=h.get t v A;simp[List.mapM_cons,n9,q,j]
  .exact d.elim
 |.cell B D::l,K,d=>by
  unfold qK at d;split at d
  .rename_i p x;obtain⟨v,C,d,y,z⟩:=B8 d;obtain⟨e,q,k⟩:=D5 h w d;refine⟨v::e,?_,k⟩;have j:=h.get B _ x;simp[List.mapM_cons,n9,q,j,asAddr,z w y]
  .exact d.elim
def D7{fn:Func}{a:Act}{E:Env}{w:J}{R:cA->J->Prop}(h:Ag n a E)(e:kg P fn E w λv=>R (ae v) w):
  ∃v,(results fn a.tmps).run P w=.ok v w/\R (ae v) w:=by
 obtain⟨d,k,j⟩:=D5 h w e;refine⟨_,?_,j⟩;rw[D4,<-Array.toArray_toList (xs:=fn.results),List.mapM_toArray];simp only[Sem.run_bind,Sem.run_map,k,Result.andThen_ok,Sem.run_pure];congr 1;cases d with
 |nil=>rfl
 |cons v d=>cases d<;>rfl
def vH{m:Nat}{fn:Func}{a:Act}{E:Env}{w:J}{R:cA->J->Prop}(d:Ag (cx m) a E)(e:kg P fn E w λv=>R (ae v) w):
  a.defers=[]/\∃v,(results fn a.tmps).run P w=.ok v w/\R (ae v) w:=⟨d.defers,D7 d e⟩
def Su{f:bU}{fn:Func}{c:Code}{args:Array aa}{w:J}{R:cA->J->Prop}{E:Env}(k:P.funcs[f]? =some fn)(j:fn.body=some c)(y:args.size<=fn.ntmps)(h:∀t v,E.get? t=some v->args[t]? =some v)(e:WP P (cx fn.ntmps) c (bodyPost P fn R) E w):aj P f args w R:=by
 refine calls_of_wp k j (wpIn_wide.1 (e _ ⟨rfl,by simp;omega,?_⟩));intro t v x;have:=h t v x;have q:t<args.size:=by
  rcases Nat.lt_or_ge t args.size with d|d
  .exact d
  .rw [Array.getElem?_eq_none d]at this;cases this
 rw[Array.getElem?_append_left q];exact this
def jA:Nat->List aa->Env
 |_,[]=>[]
 |i,v::l=>(i,v)::jA (i+1) l
def Bm:∀(l:List aa) (i t:Nat) (v:aa),(jA i l).get? t=some v->i<=t/\l[t - i]? =some v
 |[],_,_,_,d=>by simp[jA,Env.get?]at d
 |u::l,i,t,v,d=>by
  simp only[jA,Env.get?]at d;by_cases e:i=t
  .subst e;simp at d;subst d;simp
  .have j:bG i t=false:=by rw[<-iX,dZ];exact e
   simp only[j,cond_false]at d;obtain⟨k,h⟩:=Bm l (i+1) t v d;refine⟨by omega,?_⟩;rw[show t - i=(t - (i+1))+1 by omega];simpa using h
def ug{f:bU}{fn:Func}{c:Code}{args:List aa}{w:J}{R:cA->J->Prop}(h:P.funcs[f]? =some fn)(e:fn.body=some c)(j:Nat.ble args.length fn.ntmps=true)(d:WP P (cx fn.ntmps) c (bodyPost P fn R) (jA 0 args) w):aj P f args.toArray w R:=
 Su h e (by simpa using Nat.le_of_ble_eq_true j) (λt v k=>by have:=(Bm args 0 t v k).2;simpa using this) d
def Ym{t:Bool}{A B d e:Prop}(j:A->d)(k:B->e)(h:bq t A B):bq t d e:=by
 cases t
 .exact k h
 .exact j h
def asInt(k:ha)(v:Option aa)(K:Int->Prop):Prop:=match v with |some (.int d n)=>cB (d==k) (K n)|_=>False
def lZ{k:ha}{v:Option aa}{K:Int->Prop}(d:asInt k v K):∃n,v=some (.int k n)/\K n:=by
 unfold asInt at d;split at d
 .obtain ⟨e,h⟩:=dt d;have j:=eq_of_beq e;subst j;exact⟨_,rfl,h⟩
 .exact d.elim
def oF(v:Option aa)(K:ByteArray->Prop):Prop:=match v with |some (.string b)=>K b|_=>False
def rA{v:Option aa}{K:ByteArray->Prop}(d:oF v K):∃b,v=some (.string b)/\K b:=by
 unfold oF at d;split at d
 .exact ⟨_,rfl,d⟩
 .exact d.elim
def asSlice(v:Option aa)(K:Sl->Prop):Prop:=match v with |some (.slice a n c)=>K ⟨a,n,c⟩|_=>False
def bN(v:Option aa)(K:Addr->Prop):Prop:=match v with |some (.pointer (some a))=>K a|_=>False
def bT{v:Option aa}{K:Addr->Prop}(d:bN v K):∃a,v=some (.pointer (some a))/\K a:=by
 unfold bN at d;split at d
 .exact ⟨_,rfl,d⟩
 .exact d.elim
def asAgg(v:Option aa)(K:List aa->Prop):Prop:=match v with |some (.agg d)=>K d.toList|_=>False
def wQ{v:Option aa}{K:List aa->Prop}(d:asAgg v K):∃e:List aa,v=some (.agg e.toArray)/\K e:=by
 unfold asAgg at d;split at d
 .exact ⟨_,rfl,d⟩
 .exact d.elim
def rz(f:bU)(v:Option aa)(K:List aa->List aa->Prop):Prop:=match v with |some (.func (.func g) e d)=>cB (bG g f) (K e.toList d.toList)|_=>False
def FI{f:bU}{v:Option aa}{K:List aa->List aa->Prop}(d:rz f v K):∃h e:List aa,v=some (.func (.func f) h.toArray e.toArray)/\K h e:=by
 unfold rz at d;split at d
 .obtain ⟨j,k⟩:=dt d;rw[dZ]at j;subst j;exact⟨_,_,rfl,k⟩
 .exact d.elim
def iB(l:List aa)(K:aa->List aa->Prop):Prop:=match l with |v::r=>K v r|[]=>False
def jX{l:List aa}{K:aa->List aa->Prop}(d:iB l K):∃v r,l=v::r/\K v r:=by
 cases l with
 |nil=>exact d.elim
 |cons v r=>exact⟨v,r,rfl,d⟩
def kz(l:List aa)(K:Prop):Prop:=match l with |[]=>K|_=>False
def oE{l:List aa}{K:Prop}(d:kz l K):l=[]/\K:=by
 cases l with
 |nil=>exact⟨rfl,d⟩
 |cons v r=>exact d.elim
end
def pN(k:ha)(x y:Int):Int:=k.wrap ((kp k.bits x&&& kp k.bits y).toNat:Int)
def rB(k:ha)(x y:Int):Int:=k.wrap ((kp k.bits x|||kp k.bits y).toNat:Int)
def FQ(k:ha)(x y:Int):Int:=k.wrap ((kp k.bits x^^^kp k.bits y).toNat:Int)
def Rb(k:ha)(x y:Int):Int:=k.wrap ((kp k.bits x&&& ~~~ kp k.bits y).toNat:Int)
inductive Tr where
 |nil
 |one (i:Nat) (t:Tr)
 |fork (a b:Tr)
def Tr.i9:Tr->List Nat
 |.nil=>[]
 |.one i _=>[i]
 |.fork a b=>a.i9++b.i9
def Tr.len:Tr->Nat
 |.nil=>0
 |.one _ t=>t.len+1
 |.fork a _=>a.len
def uU(P:aw)(ops:Array Oper)(i:Nat)(E:Env)(w:J)(H:dT)(d:Env->J->dT->Prop):Prop:=
 match ops[i]? with
 |none=>False
 |some o=>match o.guard with
  |none=>oh P ops true i o E w H d
  |some (h,want)=>match jC ops h with
   |none=>False
   |some e=>match E.get? e with
    |some (.bool t)=>bq t (ln P ops true i o e want true E w H d) (ln P ops true i o e want false E w H d)
    |some (.tuple _)=>d (Env.put E o.dst undef) w (bif calm P o then H else cM ops i H)
    |_=>False
def oo(P:aw)(ops:Array Oper)(K:Env->J->Prop):Tr->Env->J->dT->Prop
 |.nil,d,e,_=>K d e
 |.one i t,d,e,h=>uU P ops i d e h λj q k=>oo P ops K t j q k
 |.fork a b,d,e,h=>oo P ops K a d e h/\oo P ops K b d e h
def hN(P:aw)(ops:Array Oper):Tr->Bool->Array Bool->Bool
 |.nil,alt,d=>!alt&&(dE .any ops d).isEmpty
 |.one i t,alt,d=>(match ops[i]? with
   |some o=>bif alt then !calm P o else bif calm P o then Region.free .any ops d i&&(dE .any ops d).contains i else dE .any ops d==[i]
   |none=>false)&&hN P ops t false (d.setIfInBounds i true)
 |.fork a b,alt,d=>(alt||dE .any ops d==(Tr.fork a b).i9)&&(bG a.len b.len&&(hN P ops a true d&&hN P ops b true d))
section
variable {P:aw} {ops:Array Oper} {n:Cx} {K:Env->J->Prop}
def O4{i:Nat}{o:Oper}{a:Act}{E:Env}{w:J}{H:dT}{Kh:Env->J->dT->Prop}{B:Array Bool}{fuel:Nat}{Q:Exit->Act->J->Prop}(j:di n ops=true)(q:ops[i]? =some o)(G:calm P o=false)(z:Ag n a E)(L:b3 o (yielded ops a.tmps)=true)(h:oh P ops true i o E w H Kh)(next:∀e x d k,Ag n e x->(∀p∈k,p.2 d)->Kh x d k->dO P ops Q fuel k (B.setIfInBounds i true) e d):
  wpOp P ops Q i (λe d=>(∀p∈cM ops i H,p.2 d)/\dO P ops Q fuel (cM ops i H) (B.setIfInBounds i true) e d) a w:=by have I:=Region.noSelect_spec (ops:=ops) (by unfold di at j;rw[a9]at j;exact j.1);unfold oh at h;rw[G]at h;simp only[cond_false,cond_true]at h;refine E3 q L (mK (λC b=>I i o C b q) z h) λv d K=>?_;obtain⟨D,F⟩:=ru K;have y:∀p∈cM ops i H,p.2 d:=λp A=>D _ (BM (e6.1 A).1 (e6.1 A).2);exact⟨y,next _ _ _ _ (z.put v (gz j q)) y F⟩
def Em{i:Nat}{o:Oper}{a:Act}{w:J}{H:dT}{d:Array Bool}{fuel:Nat}{Q:Exit->Act->J->Prop}(k:ops[i]? =some o)(j:∀p∈H,p.2 w)(x:b3 o (yielded ops a.tmps)=false)(next:dO P ops Q fuel (cM ops i H) (d.setIfInBounds i true) (a.put o.dst undef) w):
  wpOp P ops Q i (λh e=>(∀p∈cM ops i H,p.2 e)/\dO P ops Q fuel (cM ops i H) (d.setIfInBounds i true) h e) a w:=by unfold wpOp;simp only[k,x];exact⟨λp q=>j p (e6.1 q).1,next⟩
def Un(y:di n ops=true){i:Nat}{o:Oper}{E:Env}{w:J}{H:dT}{a:Act}{L:Env->J->dT->Prop}{B:Array Bool}{fuel:Nat}(j:ops[i]? =some o)(F:(bif calm P o then Region.free .any ops B i&&(dE .any ops B).contains i else dE .any ops B==[i])=true)(k:Ag n a E)(h:∀p∈H,p.2 w)(d:uU P ops i E w H L)(next:∀O N M I,Ag n O N->(∀p∈I,p.2 M)->L N M I->dO P ops (gV n K) fuel I (B.setIfInBounds i true) O M):dO P ops (gV n K) (fuel+1) H B a w:=by
 unfold uU at d;rw[j]at d;simp only at d;cases q:o.guard with
 |none=>
  rw[q]at d;simp only at d;exact zk y j F (λ_ _ _=>rfl) k h (by simp[b3,q]) d next
 |some T=>
  obtain⟨S,want⟩:=T;rw[q]at d;simp only at d;cases D:jC ops S with
  |none=>rw[D]at d;exact d.elim
  |some Q=>
   rw[D]at d;simp only at d;split at d
   .rename_i t A;have G:=q3 k D A;have x:ln P ops true i o Q want t E w H L:=by
     cases t
     .exact d
     .exact d
    unfold ln at x;cases C:(t==want)with
    |true=>
     rw[C]at x;exact zk y j F (λ_ _ _=>rfl) (k.same A) h (by simp[b3,q,G];simpa using C) x next
    |false=>
     rw[C]at x;simp only[cond_false]at x;refine zc y j F (λ_ _ _=>rfl) h (by simp[b3,q,G];simpa using C) ?_;refine next _ _ _ _ ((k.same A).put undef (gz y j)) ?_ x
     intro p e;cases z:calm P o
     .rw [z]at e;exact h p (e6.1 e).1
     .rw [z]at e;exact h p e
   .rename_i V A;have G:=q4 k D A;refine zc y j F (λ_ _ _=>rfl) h (by simp[b3,q,G]) ?_;refine next _ _ _ _ (k.put undef (gz y j)) ?_ d
    intro p e;cases z:calm P o
    .rw [z]at e;exact h p (e6.1 e).1
    .rw [z]at e;exact h p e
   .exact d.elim
def Up(C:di n ops=true){i:Nat}{o:Oper}{E:Env}{w:J}{H:dT}{a:Act}{G:Env->J->dT->Prop}{N:Array Bool}{fuel:Nat}(e:ops[i]? =some o)(A:calm P o=false)(h:Ag n a E)(I:∀p∈H,p.2 w)(d:uU P ops i E w H G)(next:∀y L q F,Ag n y L->(∀p∈F,p.2 q)->G L q F->dO P ops (gV n K) fuel F (N.setIfInBounds i true) y q):
  wpOp P ops (gV n K) i (λy q=>(∀p∈cM ops i H,p.2 q)/\dO P ops (gV n K) fuel (cM ops i H) (N.setIfInBounds i true) y q) a w:=by
 unfold uU at d;rw[e]at d;simp only at d;have M:∀p∈cM ops i H,p.2 w:=λp Q=>I p (e6.1 Q).1;cases j:o.guard with
 |none=>
  rw[j]at d;simp only at d;exact O4 C e A h (by simp[b3,j]) d next
 |some T=>
  obtain⟨S,want⟩:=T;rw[j]at d;simp only at d;cases B:jC ops S with
  |none=>rw[B]at d;exact d.elim
  |some O=>
   rw[B]at d;simp only at d;split at d
   .rename_i t x;have D:=q3 h B x;have k:ln P ops true i o O want t E w H G:=by
     cases t
     .exact d
     .exact d
    unfold ln at k;cases z:(t==want)with
    |true=>
     rw[z]at k;exact O4 C e A (h.same x) (by simp[b3,j,D];simpa using z) k next
    |false=>
     rw[z,A]at k;simp only[cond_false]at k;exact Em e I (by simp[b3,j,D];simpa using z) (next _ _ _ _ ((h.same x).put undef (gz C e)) M k)
   .rename_i V x;have D:=q4 h B x;rw[A]at d;simp only[cond_false]at d;exact Em e I (by simp[b3,j,D]) (next _ _ _ _ (h.put undef (gz C e)) M d)
   .exact d.elim
def EP:∀(t:Tr) (e:Array Bool),hN P ops t true e=true->∃m,t.len=m+1
 |.nil,e,d=>by simp[hN]at d
 |.one i t,e,_=>⟨t.len,rfl⟩
 |.fork a b,e,d=>by unfold hN at d;simp only[a9]at d;exact EP a e d.2.2.1
def EO:∀(t:Tr) (e:Array Bool),hN P ops t true e=true->t.i9≠[]
 |.nil,e,d=>by simp[hN]at d
 |.one i t,e,_=>by simp[Tr.i9]
 |.fork a b,e,d=>by unfold hN at d;simp only[a9]at d;have:=EO a e d.2.2.1;simp[Tr.i9,this]
def wb(D:di n ops=true):∀(t:Tr) (alt:Bool) (e:Array Bool) (E:Env) (w:J) (H:dT) (a:Act) (m:Nat),hN P ops t alt e=true->Ag n a E->(∀p∈H,p.2 w)->oo P ops K t E w H->
  (alt=false->t.len=m->dO P ops (gV n K) m H e a w)/\
  (alt=true->t.len=m+1->∀i∈t.i9,wpOp P ops (gV n K) i (λx k=>(∀p∈cM ops i H,p.2 k)/\dO P ops (gV n K) m (cM ops i H) (e.setIfInBounds i true) x k) a w)
 |.nil,alt,e,E,w,H,a,m,d,z,C,h=>by
  unfold hN at d;rw[a9]at d;refine⟨λ_ j=>?_,λy=>?_⟩
  .subst j;exact λ_=>⟨by simpa using d.2,E,z,h⟩
  .subst y;simp at d
 |.one i t,alt,e,E,w,H,a,m,d,z,C,h=>by
  unfold hN at d;rw[a9]at d;obtain⟨d,Y⟩:=d;cases G:ops[i]? with
  |none=>rw[G]at d;cases d
  |some o=>
   rw[G]at d;simp only at d;unfold oo at h;refine⟨λy j=>?_,λy j ab hj=>?_⟩
   .subst y j;exact Un D G d z C h λx L k M N O Q=>(wb D t false _ L k M x _ Y N O Q).1 rfl rfl
   .subst y;rw[cond_true]at d;obtain rfl:=bX.1 hj;have S:t.len=m:=by simpa[Tr.len]using j
    exact Up D G (by simpa using d) z C h λx L k M N O Q=>(wb D t false _ L k M x _ Y N O Q).1 rfl S
 |.fork B I,alt,e,E,w,H,a,m,d,z,C,h=>by
  unfold hN at d;simp only[a9]at d;obtain⟨hr,V,T,hy⟩:=d;rw[dZ]at V;unfold oo at h;have both:∀q,B.len=q+1->∀i∈(Tr.fork B I).i9,wpOp P ops (gV n K) i (λx k=>(∀p∈cM ops i H,p.2 k)/\dO P ops (gV n K) q (cM ops i H) (e.setIfInBounds i true) x k) a w:=λq F i A=>by
   rcases aL.1 A with A|A
   .exact (wb D B true e E w H a q T z C h.1).2 rfl F i A
   .exact (wb D I true e E w H a q hy z C h.2).2 rfl (V▸F) i A
  refine⟨λy j=>?_,λ_ j=>both m j⟩;subst y;obtain⟨q,F⟩:=EP B e T;have S:m=q+1:=by rw[<-j,<-F];rfl
  subst S;have W:dE .any ops e=(Tr.fork B I).i9:=by simpa using hr
  have aa:(Tr.fork B I).i9≠[]:=by have:=EO B e T;simp[Tr.i9,this]
  exact λ_=>⟨λZ=>absurd (W▸Z) aa,λi A=>both q F i (W▸A)⟩
def Z6{c:Code}{id:Nat}{a:Act}{E:Env}{w:J}{t:Tr}(y:P.follows .mixedOrders=true)(q:c=.region id ops true)(e:di n ops=true)(x:hN P ops t false (g9 ops.size false)=true)(A:t.len=ops.size)(k:Ag n a E)(d:oo P ops K t E w.drew []):c.wpIn (FW n) 0 P (gV n K) a w:=by subst q;have h:=(wb e t false _ E _ [] a _ x k (λp z=>(by cases z)) d).1 rfl A;have j:=wm _ [] _ _ _ (Down.zero _ _) h;refine wpIn_region_draw λt=>?_;refine q1 e (λ⟨_,_,d⟩=>d) _ _ _ ?_;simp only[Region.schedule,y,Bool.true_or,if_true];exact wpAny_sound ops.size t _ a _ j
def s4(P:aw)(n:Nat)(c:Code)(t:Tr):Bool:=match c with
 |.region _ ops d=>d&&(P.follows .mixedOrders&&(di n ops&&(hN P ops t false (g9 ops.size false)&&bG t.len ops.size)))
 |_=>false
def WP.tree{c:Code}{Q:Exit->Act->J->Prop}{E:Env}{w:J}(t:Tr)(K:Env->J->Prop)(d:s4 P n c t=true)(y:oo P (Code.ops c) K t E w.drew [])(D:∀e j h,Ag n h e->K e j->Q .normal h j):WP P n c Q E w:=by
 unfold s4 at d;split at d
 .rename_i id ops F;simp only[a9]at d;obtain⟨rfl,z,A,B,k⟩:=d;rw[dZ]at k;exact λa C=>wpIn_mono (Z6 z rfl A B k C y) λx h j q=>by
   cases x with
   |normal=>obtain⟨e,hA,hK⟩:=q;exact D e j h hA hK
   |_=>exact q.elim
 .cases d
end
section
variable {P:aw}
def lo(r:Loop)(st:LoopState)(d:Option Code):Obj:=.loop {r with state:=st,pending:=d}
structure Aa(r:Loop)(m:Nat)(ps:Array Tmp)(assign body:Code)(E:Env):Prop where
 ps:r.params=ps
 assign:r.assign=assign
 body:r.body=body
 size:r.tmps.size=m
 get:∀t v,E.get? t=some v->r.tmps[t]? =some v
def n5:Env->List Nat->List aa->Env
 |d,p::e,v::h=>n5 ((p,v)::d) e h
 |d,_,_=>d
def Nc{m l:Nat}:∀(ps:List Nat) (vs:List aa) (E:Env) (tmps:Array aa),tmps.size=m->(∀p∈ps,p<m)->(∀t v,E.get? t=some v->tmps[t]? =some v)->
  Ag ⟨m,[],some l⟩ {tmps:=(ps.zip vs).foldl (λt (p,v)=>t.setIfInBounds p v) tmps,defers:=[]} (n5 E ps vs)
 |[],vs,E,tmps,e,_,h=>⟨rfl,by simpa using e,by cases vs<;>simpa[n5]using h⟩
 |p::ps,[],E,tmps,e,_,h=>⟨rfl,by simpa using e,by simpa[n5]using h⟩
 |p::ps,v::vs,E,tmps,e,j,h=>by simp only[List.zip_cons_cons,List.foldl_cons,n5];refine Nc ps vs _ _ (by simpa using e) (λw k=>j w (by simp[k])) ?_;have:=(Ag.put (n:=⟨m,[],some l⟩) (a:={tmps:=tmps,defers:=[]}) (E:=E) ⟨rfl,e,h⟩ (d:=some p) v (λt q=>by cases q;exact j p (by simp))).get;simpa[Env.put,Act.put]using this
def nl(P:aw)(l:Nat)(args:Array aa)(w:J)(K:Bool->J->Prop):Prop:=
 YieldAt Fence.wide 0 P l args w λd e=>∃b:Bool,d=ae (.bool b)/\K b e
def tR(P:aw)(m l:Nat)(r:Loop)(body:Code)(Q:Exit->Act->J->Prop):Exit->Act->J->Prop:=
 Exit.then (λa₁ d₁=>d₁.heap[l]? =some (lo r .ready none)/\gn P ⟨m,[],some l⟩ body Q a₁ (d₁.putObj l (lo r .busy none))) (λ_ _ _=>False)
def Qj{m l:Nat}{r:Loop}{ps:Array Tmp}{assign body:Code}{E:Env}{args:List aa}{w:J}{R:cA->J->Prop}{K:Bool->J->Prop}(d:Aa r m ps assign body E)(A:w.heap[l]? =some (lo r .ready none))(F:args.length=ps.size)(B:ps.toList.all (λp=>Nat.blt p m)=true)(y:∀e h,R e h->∃b:Bool,e=ae (.bool b)/\K b h)(k:WP P ⟨m,[],some l⟩ assign (tR P m l r body (roundPost P l R)) (n5 E ps.toList args) w):nl P l args.toArray w K:=by
 have D:=run_yield (P:=P) (w:=w) (args:=args.toArray) A (by simp[d.ps,F]);refine⟨_,_,_,_,D,RoundIn.mono (roundIn_of_wpIn (R:=R) trivial ?_) y⟩;simp only[lo,d.ps,d.assign,d.body];have z:Ag ⟨m,[],some l⟩ {tmps:=(ps.zip args.toArray).foldl (λt (p,v)=>t.setIfInBounds p v) r.tmps,defers:=[]} (n5 E ps.toList args):=by have:=Nc (m:=m) (l:=l) ps.toList args E r.tmps d.size (λp C=>by simpa using dK.1 B p C) d.get;rw[<-Array.foldl_toList];simpa using this
 refine wpIn_mono (k _ z) λe G h j=>?_;cases e with
 |normal=>
  obtain⟨q,x⟩:=j;exact⟨_,run_beginRound q rfl,x⟩
 |_=>exact j.elim
def N8{l:Nat}{r:Loop}{a:Act}{w:J}{R:cA->J->Prop}(e:w.heap[l]? =some (lo r .busy none))(d:R (ae (.bool true)) (w.putObj l (lo r .ready none))):roundPost P l R .normal a w:=
 ⟨_,_,run_endRound none e,d⟩
def N9{l:Nat}{r:Loop}{a:Act}{w:J}{R:cA->J->Prop}(e:w.heap[l]? =some (lo r .busy none))(d:R (ae (.bool false)) (w.putObj l (lo r .done (some .ret)))):roundPost P l R .ret a w:=
 ⟨_,_,run_endRound (some .ret) e,d⟩
abbrev marked(m D:Nat):Cx:=⟨m,[{target:=.collected D,args:=#[]}],none⟩
def pF(d:J)(l:Nat)(o:LoopState->Option Code->Obj)(N:J->Prop)(X:Nat->J->Prop)(T:J->Prop):Prop:=
 (d.heap[l]? =some (o .ready none)/\N (d.putObj l (o .exhausted none)))\/
 (∃id,d.heap[l]? =some (o .done (some (.exit id)))/\X id (d.putObj l (o .exhausted (some (.exit id)))))\/
 (d.heap[l]? =some (o .done (some .ret))/\T (d.putObj l (o .exhausted (some .ret))))
def WP.range{m:Nat}{c:Code}{g:Operand}{ps:Array Tmp}{assign body:Code}{gf:Nat}{lb:Array aa}{Q:Exit->Act->J->Prop}{E:Env}{w:J}(N:J->Prop)(X:Nat->J->Prop)(T:J->Prop)(K:c=.rangeFunc g ps assign body)(S:E.val g=some (.func (.func gf) #[] lb))(L:gI P gf=true)(G:∀d,N d->∀a,Ag (marked m w.heap.size) a E->Q .normal a d)(I:∀id d,X id d->∀a,Ag (marked m w.heap.size) a E->Q (.exit id) a d)(H:∀d,T d->∀a,Ag (marked m w.heap.size) a E->Q .ret a d)(k:∀r:Loop,Aa r m ps assign body E->aj P gf (#[.func (.yield (w.heap.size+1)) #[] #[]]++lb) ((w.alloc (.deferred (some []))).alloc (lo r .ready none)) λx z=>(∃v,x=ae v)/\pF z (w.heap.size+1) (lo r) N X T):
  WP P (cx m) c Q E w:=by
 subst K;intro a e;have q:Ag (marked m w.heap.size) {a with defers:=[{target:=.collected w.heap.size,args:=#[]}]++a.defers} E:=⟨by show _++a.defers=_;rw[e.defers];rfl,e.size,e.get⟩;have V:a.eval g=.func (.func gf) #[] lb:=e.val S;refine wpIn_rangeFunc (F:=FW (cx m)) (n:=0) λfn _=>?_;obtain⟨r,y⟩:∃r:Loop,r={state:=.ready,pending:=none,fn,tmps:=a.tmps,params:=ps,assign,body,defers:=w.heap.size}:=⟨_,rfl⟩;have W:Aa r m ps assign body E:=by subst y;exact⟨rfl,rfl,rfl,e.size,e.get⟩
 have M:=k r W;have A:(Instr.enterLoop fn a.tmps ps assign body none).run P w=.ok (w.heap.size+1,[{target:=.collected w.heap.size,args:=#[]}]) ((w.alloc (.deferred (some []))).alloc (lo r .ready none)):=by rw[run_enterLoop_outer];subst y;rfl
 generalize Y:(w.alloc (.deferred (some []))).alloc (lo r .ready none)=W1 at *;have B:(resolve a.eval (rangeCall g (w.heap.size+1)) 0).run P W1=.ok {target:=.fn (.func gf) lb,args:=#[.func (.yield (w.heap.size+1)) #[] #[]]} W1:=by simp only[resolve,V];simp[go_sem]
 have C:(invoke (.fn (.func gf) lb) #[.func (.yield (w.heap.size+1)) #[] #[]]).run P W1=.ok (.enter gf (#[.func (.yield (w.heap.size+1)) #[] #[]]++lb)) W1:=by simp[invoke,go_sem,rI L]
 have D:CallsIn (FW (cx m)) 0 P gf (#[.func (.yield (w.heap.size+1)) #[] #[]]++lb) W1 (rangePost (FW (cx m)) 0 P (w.heap.size+1) Q {a with defers:=[{target:=.collected w.heap.size,args:=#[]}]++a.defers}):=by
  refine GL (n:=cx m) (M.mono ?_);rintro x z ⟨⟨v,rfl⟩,O⟩;rcases O with⟨h,j⟩|⟨id,h,j⟩|⟨h,j⟩
  .exact ⟨_,_,run_endLoop (r:={r with state:=.ready,pending:=none}) h (by simp),G _ j _ q⟩
  .exact ⟨_,_,run_endLoop (r:={r with state:=.done,pending:=some (.exit id)}) h (by simp),wpIn_exit (I id _ j _ q)⟩
  .exact ⟨_,_,run_endLoop (r:={r with state:=.done,pending:=some .ret}) h (by simp),wpIn_ret (H _ j _ q)⟩
 exact⟨_,_,_,_,_,_,_,_,A,B,λ_ _=>trivial,C,λk=>(by cases k),D⟩
def yU(P:aw)(fn:Func)(E:Env)(w:J)(D:Nat)(R:aC):Prop:=
 w.heap[D]? =some (.deferred (some []))/\kg P fn E (w.putObj D (.deferred none)) λv=>R (ae v) (w.putObj D (.deferred none))
def I2{fn:Func}{tmps:Array aa}{R:cA->J->Prop}{w:J}{v:aa}(d:(results fn tmps).run P w=.ok v w)(e:R (ae v) w):LeavesInM Fence.wide 0 P fn tmps R [] .returning w:=by show LeavesIn _ _ _ _ _ _ _ _ _;simp only[LeavesIn];exact⟨v,d,e⟩
def N6{m:Nat}{fn:Func}{a:Act}{E:Env}{w:J}{R:aC}(d:Ag (cx m) a E)(e:kg P fn E w λv=>R (ae v) w):LeavesInM Fence.wide 0 P fn a.tmps R a.defers .returning w:=by obtain⟨v,h,j⟩:=D7 d e;rw[d.defers];exact I2 h j
def vI{m D:Nat}{fn:Func}{a:Act}{E:Env}{w:J}{R:aC}(e:Ag (marked m D) a E)(d:yU P fn E w D R):LeavesInM Fence.wide 0 P fn a.tmps R a.defers .returning w:=by obtain⟨h,d⟩:=d;obtain⟨v,j,k⟩:=D7 (n:=marked m D) e d;rw[e.defers];exact⟨by simp,.inl ⟨D,_,rfl,run_takeDeferred h,I2 j k⟩⟩
def GM{f:bU}{fn:Func}{c:Code}{args:List aa}{w:J}{R:cA->J->Prop}(h:P.funcs[f]? =some fn)(e:fn.body=some c)(k:Nat.ble args.length fn.ntmps=true)(d:WP P (cx fn.ntmps) c (bodyPostM Fence.wide 0 P fn R) (jA 0 args) w):aj P f args.toArray w R:=by have x:=Nat.le_of_ble_eq_true k;refine callsIn_wide.1 (callsIn_of_wp_marks (n:=0) h e trivial (d _ ⟨rfl,by simp;omega,?_⟩));intro t v q;have:=(Bm args 0 t v q).2;have j:t<args.length:=(cr.1 this).1;rw[Array.getElem?_append_left (by simpa using j)];simpa using this
def wR(v:Option aa)(K:Nat->Prop):Prop:=match v with |some (.func (.yield l) e d)=>cB (bG e.size 0&&bG d.size 0) (K l)|_=>False
def FK{v:Option aa}{K:Nat->Prop}(d:wR v K):∃l,v=some (.func (.yield l) #[] #[])/\K l:=by
 unfold wR at d;split at d
 .rename_i l q h;obtain⟨e,w⟩:=dt d;simp only[a9,dZ]at e;have j:q=#[]:=Array.eq_empty_of_size_eq_zero e.1;have k:h=#[]:=Array.eq_empty_of_size_eq_zero e.2;subst j k;exact⟨l,rfl,w⟩
 .exact d.elim
end
abbrev _root_.Go.Code.sn(c:Code):Code:=Code.snd c
abbrev _root_.Go.Code.fs(c:Code):Code:=Code.fst c
abbrev _root_.Go.Value.i(x:Int):aa:=.int .i64 x
abbrev _root_.Go.Value.u(x:Int):aa:=.int .u64 x
abbrev _root_.Go.Value.s0:aa:=.string (bj #[])
abbrev nb(w:J):Addr:=⟨w.heap.size,0,none⟩
section
variable {P:aw} {n:Cx} {Q:Exit->Act->J->Prop} {E:Env} {w:J} {K:Env->J->Prop}
def yV(P:aw)(c:Code)(K:Env->J->Prop)(E:Env)(w:J):Prop:=gR P (Code.ops c) false K (List.range (Code.ops c).size) E w []
def Zw(P:aw)(c:Code)(t:Tr)(K:Env->J->Prop)(E:Env)(w:J):Prop:=oo P (Code.ops c) K t E w.drew []
abbrev ez(P:aw)(c:Code)(K:Env->J->Prop)(E:Env)(w:J):Prop:=yV P (Code.fst c) K E w
abbrev YO(P:aw)(c:Code)(t:Tr)(K:Env->J->Prop)(E:Env)(w:J):Prop:=Zw P (Code.fst c) t K E w
def uZ:Code->Bool
 |.seq _ _=>true
 |_=>false
def y7{c:Code}(d:uZ c=true):c=.seq (Code.fst c) (Code.snd c):=by cases c<;>first |rfl|cases d
def rv{a b:Bool}(d:(a&&b)=true):a=true/\b=true:=by simpa using d
def rg(c:Code)(k:qI n c=true)(j:yV P c K E w)(q:∀d h e,Ag n e d->K d h->Q .normal e h):WP P n c Q E w:=WP.kP K k j q
def sr(c:Code)(k:ez P c K E w)(y:∀d e,K d e->WP P n (Code.snd c) Q d e)(h:(uZ c&&qI n (Code.fst c))=true:=by kernel_rfl):WP P n c Q E w:=
 WP.seq (y7 (rv h).1) (WP.kP K (rv h).2 k λd e j q x=>y d e x j q)
def st(c:Code){t:Tr}(h:(uZ c&&s4 P n (Code.fst c) t)=true)(k:YO P c t K E w)(y:∀d e,K d e->WP P n (Code.snd c) Q d e):WP P n c Q E w:=
 WP.seq (y7 (rv h).1) (WP.tree t K (rv h).2 k λd e j q x=>y d e x j q)
def sq(c:Code)(d:WP P n (Code.fst c) (Exit.then (gn P n (Code.snd c) Q) Q) E w)(e:uZ c=true:=by kernel_rfl):WP P n c Q E w:=WP.seq (y7 e) d
def bk(c:Code)(id:Nat)(e:c=.block id (Code.fst c))(d:WP P n (Code.fst c) (Exit.inBlock id Q) E w):WP P n c Q E w:=WP.block e d
def cn(c:Code){o:Operand}{A B:Prop}(d:hG (E.val o) A B)(e:A->WP P n (Code.fst c) Q E w)(h:B->WP P n (Code.snd c) Q E w)(j:c=.cond o (Code.fst c) (Code.snd c):=by kernel_rfl):WP P n c Q E w:=WP.hG j e h d
def sk(c:Code)(d:∀a,Ag n a E->Q .normal a w)(e:c=.skip:=by kernel_rfl):WP P n c Q E w:=WP.skip e d
def xt(c:Code)(id:Nat)(e:c=.exit id)(d:∀a,Ag n a E->Q (.exit id) a w):WP P n c Q E w:=WP.exit e d
def rt(c:Code)(d:∀a,Ag n a E->Q .ret a w)(e:c=.ret:=by kernel_rfl):WP P n c Q E w:=WP.ret e d
def lp(c:Code)(e:c=.loop (Code.fst c))(d:LP P n (Code.fst c) Q E w):WP P n c Q E w:=WP.loop e d
def nx{c:Code}{a:Act}(e:Ag n a E)(d:WP P n c Q E w):Exit.then (gn P n c Q) Q .normal a w:=d a e
end
open Go.RowKit
structure Fr(M:Nat->Prop)(w V:J):Prop where
 os:V.os=w.os
 tape:V.tape=w.tape
 output:V.output=w.output
 size:w.heap.size<=V.heap.size
 ck:∀b,b<w.heap.size->¬M b->V.heap[b]? =w.heap[b]?
def Fr.refl(M:Nat->Prop)(w:J):Fr M w w:=⟨rfl,rfl,rfl,be _,λ_ _ _=>rfl⟩
def Fr.trans{M j:Nat->Prop}{a b c:J}(e:Fr M a b)(k:Fr j b c)(x:∀d,d<a.heap.size->j d->M d):Fr M a c:=
 ⟨k.os.trans e.os,k.tape.trans e.tape,k.output.trans e.output,bp e.size k.size,
  λd h q=>(k.ck d (q5 h e.size) (λw=>q (x d h w))).trans (e.ck d h q)⟩
def Fr.mono{M h:Nat->Prop}{a b:J}(e:Fr M a b)(q:∀d,d<a.heap.size->M d->h d):Fr h a b:=
 ⟨e.os,e.tape,e.output,e.size,λd j w=>e.ck d j (λk=>w (q d j k))⟩
def Fr.drew(M:Nat->Prop)(w:J):Fr M w w.drew:=⟨rfl,rfl,rfl,be _,λ_ _ _=>rfl⟩
def Fr.alloc(M:Nat->Prop)(w:J)(o:Obj):Fr M w (w.alloc o):=⟨rfl,rfl,rfl,by simp,λe d _=>_root_.Go.heap_alloc_old w o e d⟩
def Fr.set{M:Nat->Prop}(w:J)(p:Addr)(v:aa)(e:M p.block):Fr M w (w.setCell p v):=
 ⟨rfl,rfl,rfl,by simp[World.setCell],λj _ h=>Below.heap_setCell w p v j (λd=>h (d▸e))⟩
def Fr.grown{M:Nat->Prop}{w V:J}{r:Option Nat}(d:w.grownBy V r)(j:∀b,r=some b->M b):Fr M w V:=
 ⟨d.os,d.tape,d.output,d.size,λb h k=>d.block b h (λe=>k (j b e.symm))⟩
def Fr.setObj{M:Nat->Prop}(w:J)(r:Nat)(o:Obj)(e:M r):Fr M w {w with heap:=w.heap.setIfInBounds r o}:=
 ⟨rfl,rfl,rfl,by simp,λj _ h=>by have:r≠j:=λd=>h (d▸e);simp[Array.getElem?_setIfInBounds_ne this]⟩
def Fr.below{w V:J}(d:Fr (λ_=>False) w V):Below w.heap.size w V:=⟨d.os,d.tape,d.output,d.size,λj h=>d.ck j h (λe=>e)⟩
def Fr.at{M:Nat->Prop}{w V:J}(e:Fr M w V){b:Nat}{o:Obj}(d:w.heap[b]? =some o)(h:¬M b):V.heap[b]? =some o:=
 (e.ck b (Array.getElem?_eq_some_iff.1 d).1 h).trans d
def lC{w:J}{b:Nat}{o:Obj}(d:w.heap[b]? =some o):b<w.heap.size:=(Array.getElem?_eq_some_iff.1 d).1
def oR(w:J)(o:Obj):(w.alloc o).heap[w.heap.size]? =some o:=_root_.Go.heap_alloc_new w o
def size_alloc(w:J)(o:Obj):(w.alloc o).heap.size=w.heap.size+1:=by simp
def cellAt{w:J}{p:Addr}{cs:Array aa}{T:aD}{f:Nat×Nat}{i:Nat}{v:aa}(d:w.heap[p.block]? =some (.cells cs T f))(h:p.spot=none)(hi:cs[p.off+i]? =some v):
  w.cell? (p.add i)=some v:=by
 unfold Addr.add;split
 .rename_i e;subst e;simp[World.cell?,d,h];simpa using hi
 .simp [World.cell?,d,hi]
def frozenAt{w:J}{p:Addr}{cs:Array aa}{T:aD}{i:Nat}(d:w.heap[p.block]? =some (.cells cs T (0,0))):w.frozen? (p.add i)=false:=by unfold Addr.add;split<;>simp[World.frozen?,d]
def setAt{w:J}{p:Addr}{cs:Array aa}{T:aD}{f:Nat×Nat}{i:Nat}{v:aa}(d:w.heap[p.block]? =some (.cells cs T f))(j:p.spot=none):
  (w.setCell (p.add i) v).heap[p.block]? =some (.cells (cs.setIfInBounds (p.off+i) v) T f):=by
 have e:(p.add i).block=p.block:=by unfold Addr.add;split<;>rfl
 have k:(p.add i).spot=none:=by unfold Addr.add;split<;>simp[j]
 have h:(p.add i).off=p.off+i:=by unfold Addr.add;split<;>simp_all
 simp[World.setCell,e,d,k,h,Array.getElem?_modify]
def jv(p:Addr)(i:Nat):(p.add i).block=p.block:=by unfold Addr.add;split<;>rfl
def aN(s:Sl):List Nat:=match s.a with |some p=>[p.block]|none=>[]
def Row(w:J)(T:aD)(s:Sl)(vs:List aa):Prop:=
 (s.a=none/\s.n=0/\s.c=0/\vs=[])\/∃b o d f,s.a=some ⟨b,o,none⟩/\w.heap[b]? =some (.cells d T f)/\∀i v,vs[i]? =some v->d[o+i]? =some v
def Row.lt{w:J}{T:aD}{s:Sl}{vs:List aa}(e:Row w T s vs):∀b∈aN s,b<w.heap.size:=by
 rcases e with⟨d,_⟩|⟨b,o,j,f,d,h,k⟩
 .simp [aN,d]
 .simp [aN,d];exact lC h
def Row.cell{w:J}{T:aD}{s:Sl}{vs:List aa}{i:Nat}{v:aa}(d:Row w T s vs)(hi:vs[i]? =some v):∃p,s.a=some p/\w.cell? (p.add i)=some v:=by
 rcases d with⟨_,_,_,rfl⟩|⟨b,o,k,f,e,h,j⟩
 .cases hi
 .exact ⟨_,e,cellAt (p:=⟨b,o,none⟩) h rfl (j i v hi)⟩
def aK(w:J)(e:aD)(sz:Nat)(s:Sl)(xs:List aa):Prop:=w.ownsRow 0 e sz s.v s.n xs
def aK.nil(w:J)(e:aD)(sz:Nat):aK w e sz ⟨none,0,0⟩ []:=World.ownsRow_nil w 0 e sz
def aK.len{w:J}{e:aD}{sz:Nat}{s:Sl}{xs:List aa}(d:aK w e sz s xs):xs.length=s.n *sz:=d.1
def aK.cases{w:J}{e:aD}{sz:Nat}{s:Sl}{xs:List aa}(d:aK w e sz s xs):
  (s=⟨none,0,0⟩/\xs=[])\/∃g cur,s.a=some ⟨g,0,none⟩/\w.heap[g]? =some (.cells cur e (0,0))/\s.n<=s.c/\s.c<=maxLen/\cur.size=s.c *sz/\cur.toList.take (s.n *sz)=xs:=by
 obtain⟨a,n,c⟩:=s;obtain⟨z,d⟩:=d;rcases d with⟨h,j⟩|⟨g,cap,cur,h,_,j,k,q,x,y⟩
 .cases h;exact .inl ⟨rfl,o6 (by simpa using z)⟩
 .cases h;exact .inr ⟨g,cur,rfl,j,k,q,x,y⟩
def aK.row{w:J}{e:aD}{sz:Nat}{s:Sl}{xs:List aa}(h:aK w e sz s xs):Row w e s xs:=by
 rcases h.cases with⟨rfl,rfl⟩|⟨g,cur,j,k,_,_,_,q⟩
 .exact .inl ⟨rfl,rfl,rfl,rfl⟩
 .refine .inr ⟨g,0,cur,(0,0),j,k,λi v d=>?_⟩;rw[<-q,List.getElem?_take]at d;split at d
  .simpa using d
  .cases d
def aK.ck{w V:J}{e:aD}{sz:Nat}{s:Sl}{xs:List aa}(d:aK w e sz s xs)(x:∀b∈aN s,b<w.heap.size->V.heap[b]? =w.heap[b]?):aK V e sz s xs:=by
 obtain⟨y,d⟩:=d;refine⟨y,?_⟩;rcases d with d|⟨g,cap,cur,h,k,j,r⟩
 .exact .inl d
 .have q:s.a=some ⟨g,0,none⟩:=(Value.slice.inj h).1;exact .inr ⟨g,cap,cur,h,k,(x g (by simp[aN,q]) (lC j)).trans j,r⟩
def aK.fr{M:Nat->Prop}{w V:J}{e:aD}{sz:Nat}{s:Sl}{xs:List aa}(d:aK w e sz s xs)(j:Fr M w V)(q:∀b∈aN s,¬M b):aK V e sz s xs:=
 d.ck λb h k=>j.ck b k (q b h)
def aK.lt{w:J}{e:aD}{sz:Nat}{s:Sl}{xs:List aa}(d:aK w e sz s xs):∀b∈aN s,b<w.heap.size:=d.row.lt
def aK.made(w:J)(e:aD)(sz n:Nat)(cs:List aa)(d:cs.length=n *sz)(h:n<=maxLen):aK (w.alloc (.cells cs.toArray e)) e sz ⟨some ⟨w.heap.size,0,none⟩,n,n⟩ cs:=
 ⟨d,.inr ⟨w.heap.size,n,cs.toArray,rfl,dc _,oR w _,be _,h,by simpa using d,by rw[<-d];simp⟩⟩
def Row.made(w:J)(e:aD)(n c:Nat)(cs:List aa):Row (w.alloc (.cells cs.toArray e)) e ⟨some ⟨w.heap.size,0,none⟩,n,c⟩ cs:=
 .inr ⟨w.heap.size,0,cs.toArray,(0,0),rfl,oR w _,λi v d=>by simpa using d⟩
def W2(s:Sl):s.v.ownBlock=s.a.map (·.block):=by obtain⟨a,n,c⟩:=s;cases a<;>rfl
structure fS(P:aw)(t e:aD)(z:aa)(sz bytes:Nat):Prop where
 ht:P.underlying t=some (.slice e)
 hi:(P.info? e).map (λi=>(i.zero,i.size,i.bytes))=some (some z,sz,bytes)
 hz:z.cells.size=sz
 hs:0<sz
 hb:0<bytes
def Row.tC{w:J}{T:aD}{s:Sl}{vs:List aa}(j:Row w T s vs):∀b∈aN s,∃d f,w.heap[b]? =some (.cells d T f):=by
 rcases j with⟨e,_⟩|⟨b,o,d,f,e,k,y⟩
 .simp [aN,e]
 .intro h q;have x:h=b:=by simpa[aN,e]using q
  subst x;exact⟨d,f,k⟩
def rl(kd:ha)(es:Array MapEntry)(ms:List (Int×aa)):Prop:=es.toList.map (λd=>(d.key,d.val))=ms.map λp=>(Value.int kd p.1,p.2)
def kJ(ms:List (Int×aa))(k:Int):Option aa:=(ms.find? λp=>p.1==k).map (·.2)
def Bx{kd:ha}{k:Int}:∀{es:List MapEntry} {ms:List (Int×aa)} {i:Nat},es.map (λj=>(j.key,j.val))=ms.map (λp=>(Value.int kd p.1,p.2))->
  Instr.findNow (.int kd) (.int kd k) es i=some ((ms.findIdx? λp=>p.1==k).bind λh=>(ms[h]?).map λp=>(i+h,p.2))
 |[],[],i,_=>rfl
 |[],_::_,_,d=>by simp at d
 |_::_,[],_,d=>by simp at d
 |j::es,p::ms,i,d=>by
  simp only[List.map_cons,List.cons.injEq,Prod.mk.injEq]at d;obtain⟨⟨x,y⟩,z⟩:=d;have A:=Bx (kd:=kd) (k:=k) (i:=i+1) z;unfold Instr.findNow;simp only[x,Instr.sameNow,if_true];by_cases e:p.1=k
  .have q:(k==p.1)=true:=by simp[e]
   have w:(p.1==k)=true:=by simp[e]
   simp[q,List.findIdx?_cons,w,y]
  .have q:(k==p.1)=false:=by simp;exact λd=>e d.symm
   have w:(p.1==k)=false:=by simpa using e
   simp only[q,A,List.findIdx?_cons,w,Bool.false_eq_true,if_false];congr 1;cases B:ms.findIdx? (λp=>p.1==k)with
   |none=>simp
   |some h=>simp[Nat.add_assoc,Nat.add_comm 1 h]
def Jv{ms:List (Int×aa)}{k:Int}{i:Nat}:(((ms.findIdx? λp=>p.1==k).bind λe=>(ms[e]?).map λp=>(i+e,p.2)).map (·.2))=kJ ms k:=by
 unfold kJ;induction ms generalizing i with
 |nil=>rfl
 |cons p ms j=>
  by_cases h:p.1=k
  .have d:(p.1==k)=true:=by simp[h]
   simp[List.findIdx?_cons,d]
  .have d:(p.1==k)=false:=by simpa using h
   simp only[List.findIdx?_cons,d,Bool.false_eq_true,if_false,List.find?_cons];rw[<-j (i:=i+1)];cases q:ms.findIdx? (λp=>p.1==k)with
   |none=>simp
   |some e=>simp[Function.comp_def]
structure z6(P:aw)(T kt et:aD)(kd:ha)(z:aa):Prop where
 hT:P.underlying T=some (.map kt et)
 hk:P.underlying kt=some (.int kd)
 hz:(P.info? et).map (·.zero)=some (some z)
def GO{P:aw}{d:aD}{kd:ha}(e:P.underlying d=some (.int kd))(b:Bool)(k:Int)(w:J):(Instr.checkKey b 10000 d (.int kd k)).run P w=.ok () w:=by unfold Instr.checkKey;simp[run_underlying e]
def zP{P:aw}{d:aD}{e:aa}(j:(P.info? d).map (·.zero)=some (some e))(w:J):(zeroValue d).run P w=.ok e w:=by obtain⟨i,h,k⟩:=Option.map_eq_some_iff.1 j;simp[zeroValue,typeInfo,h,k]
def VW{P:aw}{T G A:aD}{kd:ha}{H:aa}(q:z6 P T G A kd H){w:J}{d:Nat}{es:Array MapEntry}{clock:Nat}{ms:List (Int×aa)}(h:w.heap[d]? =some (.map es clock))(j:rl kd es ms)(k:Int)(v:aa)(E:kJ ms k=none):
  ∃e x,(Instr.mapUpdate T (.map (some d)) (.int kd k) v).run P w=.ok () e/\e.heap[d]? =some (.map x (clock+1))/\rl kd x (ms++[(k,v)])/\Fr (λb=>b=d) w e/\e.heap.size=w.heap.size:=by
 have B:=Bx (k:=k) (i:=0) j;have C:(getObj d).run P w=.ok (.map es clock) w:=by simp[getObj,Sem.run,h]
 have y:=Jv (ms:=ms) (k:=k) (i:=0);have D:=lC h;have F:((ms.findIdx? λp=>p.1==k).bind λz=>(ms[z]?).map λp=>(0+z,p.2))=none:=by rw[E]at y;simpa using y
 refine⟨{w with heap:=w.heap.setIfInBounds d (.map (es.push {key:=.int kd k,val:=v,born:=clock}) (clock+1))},es.push {key:=.int kd k,val:=v,born:=clock},?_,by simp[D],?_,Fr.setObj w d _ rfl,by simp⟩
 .unfold Instr.mapUpdate Instr.findKey;simp only[Sem.run_bind,run_underlying q.hT,Result.andThen_ok,C,GO q.hk,run_underlying q.hk,B,F];simp[setObj,Sem.run,h]
 .unfold rl at j ⊢;simp[j]
def Js{P:aw}{t e:aD}{j:aa}{sz bytes:Nat}(h:fS P t e j sz bytes)(w:J)(n:Nat)(D:n *bytes<=140737488355328):
  ∃d,(Instr.makeSlice t (.int .i64 (n:Int)) (.int .i64 (n:Int))).run P w=.ok (.slice (some ⟨w.heap.size,0,none⟩) n n) d/\aK d e sz ⟨some ⟨w.heap.size,0,none⟩,n,n⟩ (madeCells j.cells (n *sz)).toList/\Fr (λ_=>False) w d:=by
 obtain⟨i,A,C,B,z⟩:=info_parts h.hi;have E:n<=140737488355328:=by have:=Nat.le_mul_of_pos_right n h.hb;omega
 obtain⟨d,q,x,y⟩:=run_make_full (P:=P) w 0 t e i j sz h.ht A C B .i64 .i64 n (by rw[z,Nat.mul_comm];omega) (by unfold maxLen;omega) (dc _);exact⟨d,q,x,Fr.grown y λ_ k=>by cases k⟩
def VS(d:aa)(n:Nat)(h:d.cells=#[d]):(madeCells d.cells (n *1)).toList=List.replicate n d:=by
 rw[h];apply List.ext_getElem?;intro i;by_cases e:i<n
 .simp [madeCells,e,Nat.mod_one]
 .simp [madeCells,e]
abbrev ah(w V:J):Prop:=Fr (λ_=>False) w V
abbrev ad(b:Nat):Addr:=⟨b,0,none⟩
def i4(b:UInt8):aa:=.int .u8 (b.toNat:Int)
def ct(n:Int):aa:=.int .i64 n
def Uy(l:List Int):∀u∈l.map ct,u.oneCell'=true:=by intro u d;obtain⟨b,_,rfl⟩:=cz.1 d;rfl
def Fr.gE{M:Nat->Prop}{a b c:J}(d:Fr M a b)(k:ah b c):Fr M a c:=d.trans k λ_ _ d=>d.elim
def Fr.Dn{M:Nat->Prop}{a b:J}(d:ah a b):Fr M a b:=d.mono λ_ _ d=>d.elim
def pV{w:J}{p:Addr}{v:aa}(d:w.cell? p=some v):p.block<w.heap.size:=by
 unfold World.cell? at d;cases e:w.heap[p.block]? with
 |none=>rw[e]at d;simp at d
 |some o=>exact(Array.getElem?_eq_some_iff.1 e).1
def SC{M:Nat->Prop}{w V:J}(e:Fr M w V){p:Addr}{v:aa}(d:w.cell? p=some v)(h:¬M p.block):V.cell? p=some v:=by have:=e.ck p.block (pV d) h;unfold World.cell? at d ⊢;rw[this];exact d
def add_add(p:Addr)(i j:Nat):(p.add i).add j=p.add (i+j):=by unfold Addr.add;by_cases d:i=0<;>by_cases e:j=0<;>simp[d,e,Nat.add_assoc]
def iz(p:Addr):p.add 0=p:=by simp[Addr.add]
def fD(w:J)(s:Sl)(vs:List aa):Prop:=(s.a=none->s.n=0/\s.c=0)/\∀i v,vs[i]? =some v->∃p,s.a=some p/\w.cell? (p.add i)=some v
def fD.nil(w:J):fD w ⟨none,0,0⟩ []:=⟨λ_=>⟨rfl,rfl⟩,λi v d=>by simp at d⟩
def Row.p9{w:J}{T:aD}{s:Sl}{vs:List aa}(d:Row w T s vs):fD w s vs:=by
 refine⟨λk=>?_,λi v q=>d.cell q⟩;rcases d with⟨_,h,j,_⟩|⟨b,o,x,f,e,_⟩
 .exact ⟨h,j⟩
 .rw [k]at e;cases e
def fD.fr{M:Nat->Prop}{w V:J}{s:Sl}{vs:List aa}(d:fD w s vs)(j:Fr M w V)(q:∀b∈aN s,¬M b):fD V s vs:=
 ⟨d.1,λi v k=>by obtain⟨p,e,h⟩:=d.2 i v k;exact⟨p,e,SC j h (by rw[jv];exact q _ (by simp[aN,e]))⟩⟩
def fD.get{w:J}{s:Sl}{vs:List aa}(h:fD w s vs){i j:Nat}{v:aa}(hi:vs[i]? =some v)(d:j=i *1){K:Addr->Prop}(q:∀p,s.a=some p->w.cell? (p.add j)=some v->K p):W.dJ s.a K:=by obtain⟨p,e,k⟩:=h.2 i v hi;rw[e];rw[Nat.mul_one]at d;subst d;exact q p e k
def sub(s:Sl)(l d:Nat):Sl:=⟨if s.c=l then s.a else s.a.map (·.add (l *1)),d - l,s.c - l⟩
def Ar{P:aw}{t ty e:aD}{O:aa}{sz bytes:Nat}(j:fS P t e O sz bytes){w:J}{s src:Sl}{xs news:List aa}(A:aK w e sz s xs)(hr:fD w src news)(y:news.length=src.n *sz)(h:∀u∈news,u.oneCell'=true)(x:(s.n+src.n) *bytes<=140737488355328):
  ∃d C,(g' #[t,t] ty #[s.v,src.v]).run P w=.ok d.v C/\aK C e sz d (xs++news)/\d.n=s.n+src.n/\Fr (λb=>b∈aN s) w C/\
   (∀b∈aN d,b∈aN s\/w.heap.size<=b)/\(d.a=none->s.a=none/\src.n=0):=by
 obtain⟨i,F,W,L,Q⟩:=info_parts j.hi;have ab:s.n+src.n<=140737488355328:=by have:=Nat.le_mul_of_pos_right (s.n+src.n) j.hb;omega
 obtain⟨sa,B,M⟩:=src;cases sa with
 |none=>
  obtain⟨q,H⟩:=hr.1 rfl;simp only at q H;subst q H;have S:news=[]:=o6 (by simpa using y);subst S;have:=run_append_owned_none (P:=P) (w:=w) 0 t ty e i sz j.ht F s.v s.n xs A;exact⟨s,w,this,by simpa using A,by simp,Fr.refl _ _,λb x=>.inl x,λE=>⟨E,rfl⟩⟩
 |some G=>
  simp only at y x ab;have I:∀z u,news[z]? =some u->w.cell? (G.add z)=some u:=λz u hj=>by obtain⟨p,hp,hc⟩:=hr.2 z u hj;cases hp;exact hc
  obtain⟨v',C,K,af,aj,S⟩:=run_append_own (P:=P) w 0 t ty e i O sz bytes j.ht F W L Q j.hz j.hs s.v s.n xs A G B M news y I h (by unfold maxLen;omega) x (dc _);have hv:∃d:Sl,v'=d.v/\d.n=s.n+B/\(d.a=none->v'=.slice none 0 0):=by
   rcases af.2 with⟨h,Z⟩|⟨g,cap,cur,h,_⟩
   .exact ⟨⟨none,0,0⟩,h,by show 0=_;omega,λ_=>h⟩
   .exact ⟨⟨_,_,_⟩,h,rfl,λE=>by cases E⟩
  obtain⟨d,rfl,ae,al⟩:=hv;refine⟨d,C,K,?_,ae,?_,?_,?_⟩
  .unfold aK;rw[ae];exact af
  .refine Fr.grown aj λg k=>?_;rw[W2]at k;cases V:s.a with
   |none=>simp[V]at k
   |some p=>simp[V]at k;simp[aN,V,k]
  .intro g k;rcases A.cases with⟨rfl,rfl⟩|⟨D,cur,ad,ai,ak,ar,ac,ao⟩
   .obtain ⟨v2,w2,an,am,_,_⟩:=run_append_own (P:=P) w w.heap.size t ty e i O sz bytes j.ht F W L Q j.hz j.hs (.slice none 0 0) 0 [] (World.ownsRow_nil w _ e sz) G B M news y I h (by unfold maxLen;omega) (by simpa using x) (be _);have q:(Result.ok d.v C:Result aa)=.ok v2 w2:=K.symm.trans an;have H:=(Result.ok.inj q).1;subst H;rcases am.2 with⟨h,_⟩|⟨g2,ap,aq,h,Z,_⟩
    .have:d.a=none:=(Value.slice.inj h).1;simp[aN,this]at k
    .have:d.a=some ⟨g2,0,none⟩:=(Value.slice.inj h).1;simp[aN,this]at k;exact .inr (k▸Z)
   .obtain ⟨au,N,Y⟩:=s;simp only at ad ak ac ao x ab;subst ad;by_cases ag:N+B<=Y
    .subst L;have ah:N *i.size+news.length<=cur.size:=by rw[y,ac,<-Nat.add_mul];exact jm _ ag
     have T:=run_append_room (P:=P) w t ty e i j.ht F D N Y cur ai G B M news y I h ag ah;have q:=K.symm.trans T;have:d.a=some ⟨D,0,none⟩:=(Value.slice.inj (Result.ok.inj q).1).1;simp[aN,this]at k ⊢;exact .inl k
    .subst L;have holds:∀z u,xs[z]? =some u->w.cell? ((⟨D,0,none⟩:Addr).add z)=some u:=World.ownsRow.cells (g:=D) A rfl;have T:=run_append_grow (P:=P) w t ty e i O j.ht F W ⟨D,0,none⟩ N Y xs A.len holds G B M news y I (by omega) (by omega) (growslice_fits (by omega) (by rw[Q];exact x));have q:=K.symm.trans T;have:d.a=some ⟨w.heap.size,0,none⟩:=(Value.slice.inj (Result.ok.inj q).1).1;simp[aN,this]at k;exact .inr (by omega)
  .intro E;have:=S.1 (al E);refine⟨?_,this.2⟩;exact(Value.slice.inj this.1).1
def aK.cap{w:J}{e:aD}{sz:Nat}{s:Sl}{xs:List aa}(d:aK w e sz s xs):s.n<=s.c:=by
 rcases d.cases with⟨rfl,_⟩|⟨g,cur,_,_,d,_⟩
 .exact be _
 .exact d
def Rd(w:J)(s:Sl)(vs:List aa):Prop:=s.n=vs.length/\s.n<=s.c/\fD w s vs
def Ow(w:J)(e:aD)(s:Sl)(vs:List aa):Prop:=s.n=vs.length/\aK w e 1 s vs
def Ow.rd{w:J}{e:aD}{s:Sl}{vs:List aa}(d:Ow w e s vs):Rd w s vs:=⟨d.1,d.2.cap,d.2.row.p9⟩
def Rd.fr{M:Nat->Prop}{w V:J}{s:Sl}{vs:List aa}(d:Rd w s vs)(e:Fr M w V)(h:∀b∈aN s,¬M b):Rd V s vs:=⟨d.1,d.2.1,d.2.2.fr e h⟩
def Rd.cd{w V:J}{s:Sl}{vs:List aa}(d:Rd w s vs)(e:ah w V):Rd V s vs:=d.fr e λ_ _ d=>d
def Rd.nil(w:J):Rd w ⟨none,0,0⟩ []:=⟨rfl,be _,fD.nil w⟩
def Rd.get{w:J}{s:Sl}{vs:List aa}(d:Rd w s vs){i j:Nat}{v:aa}(hi:vs[i]? =some v)(e:j=i *1){K:Addr->Prop}(h:∀p,s.a=some p->w.cell? (p.add j)=some v->K p):W.dJ s.a K:=d.2.2.get hi e h
def Bz{α:Type}(f:α->List aa)(sz:Nat)(e:∀a,(f a).length=sz):∀(cs:List α) (i j:Nat) (a:α),cs[i]? =some a->j<sz->(cs.flatMap f)[i *sz+j]? =(f a)[j]?
 |[],i,j,a,d,_=>by simp at d
 |c::cs,0,j,a,d,h=>by simp at d;subst d;rw[df,Nat.zero_mul,Nat.zero_add,List.getElem?_append_left (by rw[e];exact h)]
 |c::cs,i+1,j,a,d,h=>by rw[df,List.getElem?_append_right (by rw[e,Nat.succ_mul];omega),e,show(i+1) *sz+j - sz=i *sz+j by rw[Nat.succ_mul];omega];exact Bz f sz e cs i j a (by simpa using d) h
def nJ{α:Type}(f:α->List aa)(sz:Nat)(d:∀a,(f a).length=sz)(cs:List α):(cs.flatMap f).length=cs.length *sz:=by
 induction cs with
 |nil=>simp
 |cons c cs e=>rw[df,List.length_append,e,d,cT,Nat.succ_mul];omega
def fD.elem{α:Type}{f:α->List aa}{sz:Nat}(e:∀a,(f a).length=sz)(q:0<sz){w:J}{s:Sl}{cs:List α}(j:fD w s (cs.flatMap f)){i:Nat}{a:α}(hi:cs[i]? =some a){K:Addr->Prop}(A:∀p,s.a=some p->(∀d v,(f a)[d]? =some v->w.cell? ((p.add (i *sz)).add d)=some v)->K p):W.dJ s.a K:=by
 obtain⟨C,B⟩:∃v,(f a)[0]? =some v:=⟨_,a5 (by rw[e];exact q)⟩;obtain⟨p,h,_⟩:=j.2 (i *sz+0) C (by rw[Bz f sz e cs i 0 a hi q];exact B);rw[h];refine A p h λd v x=>?_;have z:d<sz:=by have:=(cr.1 x).1;rwa[e]at this
 obtain⟨D,k,y⟩:=j.2 (i *sz+d) v (by rw[Bz f sz e cs i d a hi z];exact x);rw[h]at k;cases k;rw[add_add];exact y
def y9{w:J}{b:Nat}{cs:Array aa}{T:aD}(d:w.heap[b]? =some (.cells cs T (0,0)))(i:Nat)(hi:i<cs.size)(v:aa):
  (w.cell? ((ad b).add i)).isSome=true/\w.frozen? ((ad b).add i)=false/\(w.setCell ((ad b).add i) v).heap[b]? =some (.cells (cs.setIfInBounds i v) T (0,0))/\Fr (·=b) w (w.setCell ((ad b).add i) v):=by
 refine⟨?_,frozenAt (p:=ad b) d,?_,Fr.set _ _ _ (jv _ _)⟩
 .rw [cellAt (p:=ad b) (v:=cs[i]) d rfl (by simp[hi])];rfl
 .have:=setAt (p:=ad b) (i:=i) (v:=v) d rfl;simpa using this
def Fr.put(w:J)(l:Nat)(o:Obj):Fr (·=l) w (w.putObj l o):=⟨rfl,rfl,rfl,by simp[World.putObj],λh _ e=>by have:l≠h:=λd=>e d.symm;simp[World.putObj,Array.getElem?_setIfInBounds_ne this]⟩
def Xg{w:J}{l:Nat}{x:Obj}(d:w.heap[l]? =some x)(o:Obj):(w.putObj l o).heap[l]? =some o:=by have:=lC d;simp[World.putObj,this]
def Rc(x y:Nat)(e:x<18446744073709551616)(h:y<18446744073709551616):pN .u64 (x:Int) (y:Int)=((x&&& y:Nat):Int):=by
 unfold pN;have d:(kp (IntKind.bits .u64) (x:Int)&&& kp (IntKind.bits .u64) (y:Int)).toNat=x&&& y:=by show(kp 64 (x:Int)&&& kp 64 (y:Int)).toNat=_;rw[BitVec.toNat_and,BitVec.ofInt_natCast,BitVec.ofInt_natCast,BitVec.toNat_ofNat,BitVec.toNat_ofNat,Nat.mod_eq_of_lt e,Nat.mod_eq_of_lt h]
 rw[d];have:x&&& y<=x:=Nat.and_le_left;exact IntWalk.u64_in _ (by omega)
def ZO(n:Nat):IntKind.wrap .u8 (n:Int)=((n%256:Nat):Int):=by rw[IntKind.wrap_u8];omega
def bw(i:Nat)(d:i<9223372036854775807):IntKind.wrap .i64 ((i:Int)+1)=((i+1:Nat):Int):=by rw[IntWalk.i64_in _ (by omega)];omega
end Go.W
set_option maxRecDepth 100000
set_option maxHeartbeats 1000000
namespace Go.Proofs.YtahmokchdhengaaGreatDoor
open Go renaming World->J,Calls->aj,Program->aw,Value->aa,TypeId->aD,Ending->cA,FuncId->bU,IntKind->ha
open _root_.ByteArray renaming mk->bj
open Go.Builtin renaming append_->g'
open _root_.Bool renaming and_eq_true->a9,not_eq_true->iX
open _root_.Nat renaming le_refl->be,le_trans->bp,zero_le->dc,beq->bG,lt_of_lt_of_le->q5,mul_le_mul_right->jm,beq_eq->dZ
open _root_.Option.some renaming inj->eh,injEq->e0
open _root_.Array renaming replicate->g9
open _root_.BitVec renaming ofInt->kp
open Go.Region renaming wanted->b3,ready->dE
open _root_.Decidable renaming decide->ao
open Go.Ending renaming returned->ae
open List renaming mem_append->aL,mem_cons->aE,mem_of_getElem?->aB,getElem?_eq_getElem->a5,getElem?_eq_some_iff->cr,mem_append_right->b0,mem_flatMap->bB,mem_map->cz,length_cons->cT,mem_of_mem_take->vy,mem_singleton->bX,flatMap_append->cC,flatMap_cons->df,mem_iff_getElem?->kf,getElem?_set->sY,mem_or_eq_of_mem_set->vx,nodup_append->dL,mem_cons_of_mem->cH,all_eq_true->dK,eq_nil_of_length_eq_zero->o6
open Go Go.W
def nR(c:UInt8):Bool:=ao (97<=c.toNat)&&ao (c.toNat<=122)
def cw(base:Nat)(c:UInt8):Bool:=
 if base=2 then(c.toNat==48||c.toNat==49)
 else if base=16 then(ao (48<=c.toNat)&&ao (c.toNat<=57))||(ao (97<=c.toNat)&&ao (c.toNat<=102))
 else ao (48<=c.toNat)&&ao (c.toNat<=57)
def bL(c:UInt8):Bool:=nR c||cw 10 c||c.toNat==45||c.toNat==35
def hy(c:UInt8):Bool:=nR c||cw 10 c||c.toNat==35
def kT(c:UInt8):Bool:=c.toNat==9||c.toNat==10||c.toNat==13||c.toNat==32
def l6(c:UInt8):Bool:=kT c||c.toNat==59||c.toNat==40||c.toNat==41||c.toNat==34
def cG:Bool->List UInt8->Nat
 |_,[]=>0
 |false,c::l=>if kT c then 1+cG false l else if c.toNat=59 then 1+cG true l else 0
 |true,c::l=>if c.toNat=10 then 1+cG false l else 1+cG true l
def ep(c:UInt8):Nat:=if c.toNat<=57 then c.toNat - 48 else c.toNat - 87
inductive QR where
 |ok (text:List UInt8) (used:Nat)
 |bad (a3:Nat) (e:Int)
def QR.push(c:UInt8)(k:Nat):QR->QR
 |.ok t u=>.ok (c::t) (k+u)
 |.bad a d=>.bad (k+a) d
def qu:List UInt8->QR
 |[]=>.bad 0 3
 |c::l=>
  if c.toNat=34 then .ok [] 1
  else if c.toNat≠92 then(if c.toNat<32\/126<c.toNat then .bad 0 2 else(qu l).push c 1)
  else match l with
   |[]=>.bad 1 3
   |d::e=>
    if d.toNat=34\/d.toNat=92 then(qu e).push d 2
    else if d.toNat≠120 then .bad 0 2
    else match e with
     |[]=>.bad 2 3
     |h::k=>if cw 16 h then(match k with
       |[]=>.bad 3 3
       |j::q=>if cw 16 j then(qu q).push (UInt8.ofNat (16 *ep h+ep j)) 4 else .bad 0 2)
      else .bad 0 2
def r4(l:List UInt8):Int×Int:=match l with
 |b::d::r=>
  if b.toNat=98 then(if(d::r).all (cw 2)then(if 64<(d::r).length then(0,4)else(3,0))else(0,2))
  else if b.toNat=120 then(if(d::r).all (cw 16)then(if 16<(d::r).length then(0,4)else(3,0))else(0,2))
  else(0,2)
 |_=>(0,2)
def ft(t:List UInt8):Int×Int:=
 match t with
 |[]=>(0,2)
 |c::l=>
  if nR c then(if t.any (λd=>d.toNat==35)then(0,2)else if 16<t.length then(0,6)else(2,0))
  else if c.toNat≠35 then(if !(t.all (cw 10))||(c.toNat==48&&ao (1<t.length))then(0,2)else if 13<t.length then(0,4)else(4,0))
  else r4 l
inductive NT where
 |fin
 |tok (kind:Int) (text:List UInt8) (used:Nat)
 |bad (a3:Nat) (e:Int)
def gd:List UInt8->NT
 |[]=>.fin
 |c::l=>
  if c.toNat=40 then .tok 0 [] 1
  else if c.toNat=41 then .tok 1 [] 1
  else if c.toNat=34 then(match qu l with |.ok t u=>.tok 5 t (1+u)|.bad a d=>.bad (1+a) d)
  else if hy c then
   (let t:=(c::l).takeWhile bL
    match ft t with
    |(e,d)=>if d≠0 then .bad 0 d else match(c::l).drop t.length with
     |[]=>.tok e t t.length
     |h::_=>if l6 h then .tok e t t.length else .bad t.length 2)
  else .bad 0 2
structure aR where
 kind:Int
 text:List UInt8
 a3:Nat
inductive TR where
 |ok (l:List aR)
 |bad (a3:Nat) (e:Int)
def TR.push(t:aR):TR->TR
 |.ok l=>.ok (t::l)
 |.bad a d=>.bad a d
def kZ:Nat->Nat->List UInt8->TR
 |0,i,_=>.ok [⟨6,[],i⟩]
 |n+1,i,l=>
  let d:=cG false l
  match gd (l.drop d)with
  |.fin=>.ok [⟨6,[],i+d⟩]
  |.bad a e=>.bad (i+d+a) e
  |.tok kind t u=>(kZ n (i+d+u) ((l.drop d).drop u)).push ⟨kind,t,i+d⟩
def m':∀(b:Bool) (l:List UInt8),cG b l<=l.length
 |b,[]=>by cases b<;>simp[cG]
 |false,c::l=>by
  have d:=m' false l;have e:=m' true l;simp only[cG,cT];split
  .omega
  .split<;>omega
 |true,c::l=>by have d:=m' false l;have e:=m' true l;simp only[cG,cT];split<;>omega
inductive IR where
 |ok (c:UInt8) (used:Nat)
 |bad (a3:Nat) (e:Int)
def dH:List UInt8->IR
 |[]=>.bad 0 3
 |c::l=>
  if c.toNat≠92 then(if c.toNat<32\/126<c.toNat then .bad 0 2 else .ok c 1)
  else match l with
   |[]=>.bad 1 3
   |d::j=>
    if d.toNat=34\/d.toNat=92 then .ok d 2
    else if d.toNat≠120 then .bad 0 2
    else match j with
     |[]=>.bad 2 3
     |e::k=>if cw 16 e then(match k with
       |[]=>.bad 3 3
       |h::_=>if cw 16 h then .ok (UInt8.ofNat (16 *ep e+ep h)) 4 else .bad 0 2)
      else .bad 0 2
def vz(c:UInt8)(l:List UInt8)(j:c.toNat≠34):qu (c::l)=match dH (c::l)with |.ok d u=>(qu ((c::l).drop u)).push d u|.bad a e=>.bad a e:=by
 conv=>lhs;unfold qu
 unfold dH;rw[ab j];by_cases h:c.toNat≠92
 .simp only[ag h];split
  .rfl
  .rfl
 .simp only[ab h];cases l with
  |nil=>rfl
  |cons d k=>
   simp only[];split
   .rfl
   .split
    .rfl
    .cases k with
     |nil=>rfl
     |cons x q=>
      simp only[];split
      .cases q with
       |nil=>rfl
       |cons y w=>
        simp only[];split<;>rfl
      .rfl
end Go.Proofs.YtahmokchdhengaaGreatDoor
namespace Go.W
open Go renaming World->J,Calls->aj,Program->aw,Value->aa,TypeId->aD,Ending->cA,FuncId->bU,IntKind->ha
open _root_.ByteArray renaming mk->bj
open Go.Builtin renaming append_->g'
open _root_.Bool renaming and_eq_true->a9,not_eq_true->iX
open _root_.Nat renaming le_refl->be,le_trans->bp,zero_le->dc,beq->bG,lt_of_lt_of_le->q5,mul_le_mul_right->jm,beq_eq->dZ
open _root_.Option.some renaming inj->eh,injEq->e0
open _root_.Array renaming replicate->g9
open _root_.BitVec renaming ofInt->kp
open Go.Region renaming wanted->b3,ready->dE
open _root_.Decidable renaming decide->ao
open Go.Ending renaming returned->ae
open List renaming mem_append->aL,mem_cons->aE,mem_of_getElem?->aB,getElem?_eq_getElem->a5,getElem?_eq_some_iff->cr,mem_append_right->b0,mem_flatMap->bB,mem_map->cz,length_cons->cT,mem_of_mem_take->vy,mem_singleton->bX,flatMap_append->cC,flatMap_cons->df,mem_iff_getElem?->kf,getElem?_set->sY,mem_or_eq_of_mem_set->vx,nodup_append->dL,mem_cons_of_mem->cH,all_eq_true->dK,eq_nil_of_length_eq_zero->o6
structure En where
 fp:List Nat
 P:J->Prop
 st:∀w V,(∀b∈fp,b<w.heap.size->V.heap[b]? =w.heap[b]?)->P w->P V
 lt:∀w,P w->∀b∈fp,b<w.heap.size
 nd:fp.Nodup
def En.ob(b:Nat)(o:Obj):En:=⟨[b],λe=>e.heap[b]? =some o,λe k j d=>(j b (by simp) (lC d)).trans d,λe d q h=>by simp at h;subst h;exact lC d,by simp⟩
abbrev En.c(b:Nat)(vs:List aa)(T:aD):En:=.ob b (.cells vs.toArray T (0,0))
def En.row(e:aD)(sz:Nat)(s:Sl)(vs:List aa):En:=⟨aN s,λj=>aK j e sz s vs,λ_ _ h d=>d.ck h,λ_ d=>d.lt,by unfold aN;split<;>simp⟩
def En.rd(s:Sl)(vs:List aa):En:=⟨if vs=[]then[]else aN s,λq=>Rd q s vs,λq A w e=>by
  refine⟨e.1,e.2.1,e.2.2.1,λi v x=>?_⟩;obtain⟨p,h,d⟩:=e.2.2.2 i v x;have k:vs≠[]:=λy=>by subst y;simp at x
  rw[ab k]at w;have:=w p.block (by simp[aN,h]) (by have:=pV d;rwa[jv]at this);refine⟨p,h,?_⟩;unfold World.cell? at d ⊢;rw[jv]at d ⊢;rw[this];exact d,λq e b j=>by
  split at j
  .cases j
  .rename_i k;have z:0<vs.length:=List.length_pos_iff.2 k;obtain⟨p,h,d⟩:=e.2.2.2 0 vs[0] (a5 z);simp[aN,h]at j;subst j;have:=pV d
   rwa[jv]at this,by split<;>(try simp);unfold aN;split<;>simp⟩
structure O(M:Nat->Prop)(w0 w:J)(L D:List En):Prop where
 fr:Fr M w0 w
 own:∀e∈L,e.P w
 rd:∀e∈D,e.P w
 new:∀e∈L,∀b∈e.fp,w0.heap.size<=b\/M b
 nd:(L.flatMap (·.fp)).Nodup
 dj:∀e∈D,∀b∈e.fp,∀e'∈L,b∉e'.fp
def O.start{M:Nat->Prop}{w:J}(D:List En)(e:∀d∈D,d.P w):O M w w [] D:=⟨Fr.refl _ _,by simp,e,by simp,by simp,by simp⟩
def O.og{M:Nat->Prop}{w:J}(L D:List En)(j:∀d∈L,d.P w/\∀b∈d.fp,M b)(x:(L.flatMap (·.fp)).Nodup)(h:∀d∈D,d.P w/\∀b∈d.fp,∀k∈L,b∉k.fp):O M w w L D:=
 ⟨Fr.refl _ _,λd e=>(j d e).1,λd e=>(h d e).1,λd e b q=>.inr ((j d e).2 b q),x,λd e=>(h d e).2⟩
def O.cd{M:Nat->Prop}{w0 w V:J}{L D:List En}(H:O M w0 w L D)(f:ah w V):O M w0 V L D:=
 ⟨H.fr.gE f,λd e=>d.st w V (λb _ h=>f.ck b h id) (H.own d e),λd e=>d.st w V (λb _ h=>f.ck b h id) (H.rd d e),H.new,H.nd,H.dj⟩
def O.drew{M:Nat->Prop}{w0 w:J}{L D:List En}(H:O M w0 w L D):O M w0 w.drew L D:=H.cd (Fr.drew _ _)
def De{α:Type}{f:α->List Nat}:∀{L:List α} {i:Nat} {e q:α},L[i]? =some e->(L.flatMap f).Nodup->(f q).Nodup->(∀h∈f q,h∈f e\/h∉L.flatMap f)->((L.set i q).flatMap f).Nodup
 |[],i,e,q,d,_,_,_=>by simp at d
 |a::L,0,e,q,d,j,y,w=>by
  simp at d;subst d;simp only[List.set_cons_zero,df,dL]at j ⊢;refine⟨y,j.2.1,λh k D x=>?_⟩;rintro rfl;rcases w h k with d|d
  .exact j.2.2 h d h x rfl
  .exact d (by simp only[df,aL];exact .inr x)
 |a::L,i+1,e,q,d,j,y,w=>by
  simp only[List.getElem?_cons_succ]at d;simp only[List.set_cons_succ,df,dL]at j ⊢;refine⟨j.1,De d j.2.1 y (λh k=>(w h k).imp id λd C=>d (by simp only[df,aL];exact .inr C)),λh k D x=>?_⟩;rintro rfl;obtain⟨g,A,B⟩:=bB.1 x;rcases vx A with A|rfl
  .exact j.2.2 h k h (bB.2 ⟨g,A,B⟩) rfl
  .rcases w h B with z|z
   .exact j.2.2 h k h (bB.2 ⟨e,aB d,z⟩) rfl
   .exact z (by simp only[df,aL];exact .inl k)
def O.n3{M:Nat->Prop}{w0 w:J}{L D:List En}(H:O M w0 w L D):∀b∈L.flatMap (·.fp),b<w.heap.size:=λb d=>by obtain⟨e,h,d⟩:=bB.1 d;exact e.lt w (H.own e h) b d
def i5{L:List En}(q:(L.flatMap (·.fp)).Nodup):∀{i:Nat} {e:En},L[i]? =some e->∀{j:Nat} {g:En},L[j]? =some g->i≠j->∀b∈e.fp,b∉g.fp:=by
 induction L with
 |nil=>intro i e h;simp at h
 |cons a L z=>
  simp only[df,dL]at q;intro i e d j g k y b w x;cases i with
  |zero=>
   simp at d;subst d;cases j with
   |zero=>exact y rfl
   |succ j=>exact q.2.2 b w b (bB.2 ⟨g,aB (by simpa using k),x⟩) rfl
  |succ i=>
   cases j with
   |zero=>
    simp at k;subst k;exact q.2.2 b x b (bB.2 ⟨e,aB (by simpa using d),w⟩) rfl
   |succ j=>exact z q.2.1 (by simpa using d) (by simpa using k) (by omega) b w x
def O.fC{M:Nat->Prop}{w0 w V:J}{L D:List En}(H:O M w0 w L D){e:En}(i:Nat)(q:En)(hi:L[i]? =some e)(f:Fr (·∈e.fp) w V)(I:q.P V)(A:∀b∈q.fp,b∈e.fp\/w.heap.size<=b):O M w0 V (L.set i q) D:=by
 have x:=aB hi;have K:Fr M w0 V:=H.fr.trans f λy F N=>(H.new e x y N).resolve_left (by omega);refine⟨K,λg d=>?_,λg d=>?_,λg d b h=>?_,De hi H.nd q.nd λy F=>?_,λg d b h G B E=>?_⟩
 .obtain ⟨T,k⟩:=kf.1 d;rw[sY]at k;split at k
  .split at k
   .cases k;exact I
   .cases k
  .rename_i Q;refine g.st w V (λb h C=>f.ck b C λz=>i5 H.nd hi k Q b z h) (H.own g (aB k))
 .exact g.st w V (λb h C=>f.ck b C λz=>H.dj g d b h e x z) (H.rd g d)
 .rcases vx d with d|rfl
  .exact H.new g d b h
  .rcases A b h with j|j
   .exact H.new e x b j
   .exact .inl (bp H.fr.size j)
 .rcases A y F with j|j
  .exact .inl j
  .exact .inr λS=>by have:=H.n3 y S;omega
 .rcases vx B with B|rfl
  .exact H.dj g d b h G B E
  .rcases A b E with j|j
   .exact H.dj g d b h e x j
   .have:=g.lt w (H.rd g d) b h;omega
def O.push{M:Nat->Prop}{w0 w V:J}{L D:List En}(H:O M w0 w L D)(e:En)(f:ah w V)(C:e.P V)(q:∀b∈e.fp,w.heap.size<=b):O M w0 V (L++[e]) D:=by
 have k:=H.cd f;refine⟨k.fr,λg d=>?_,k.rd,λg d b j=>?_,?_,λg d b j z h x=>?_⟩
 .rcases aL.1 d with d|d
  .exact k.own g d
  .simp at d;subst d;exact C
 .rcases aL.1 d with d|d
  .exact H.new g d b j
  .simp at d;subst d;exact .inl (bp H.fr.size (q b j))
 .rw [cC,dL];refine⟨H.nd,by simpa using e.nd,λy E G F=>?_⟩;rintro rfl;have A:=H.n3 y E;have B:=q y (by simpa using F);omega
 .rcases aL.1 h with h|h
  .exact H.dj g d b j z h x
  .simp at h;subst h;have A:=g.lt w (H.rd g d) b j;have B:=q b x;omega
def O.alloc{M:Nat->Prop}{w0 w:J}{L D:List En}(H:O M w0 w L D)(o:Obj):O M w0 (w.alloc o) (L++[.ob w.heap.size o]) D:=
 H.push _ (Fr.alloc _ _ _) (oR w o) (λb d=>by simp[En.ob]at d;omega)
def O.ek{M:Nat->Prop}{w0 w V:J}{L D:List En}(H:O M w0 w L D)(e:En)(f:ah w V)(z:e.P V)(hd:∀b∈e.fp,w.heap.size<=b\/(b<w0.heap.size/\¬M b)\/∃g∈D,b∈g.fp):O M w0 V L (D++[e]):=by
 have h:=H.cd f;refine⟨h.fr,h.own,λg d=>?_,h.new,h.nd,λg d b x j q k=>?_⟩
 .rcases aL.1 d with d|d
  .exact h.rd g d
  .simp at d;subst d;exact z
 .rcases aL.1 d with d|d
  .exact H.dj g d b x j q k
  .simp at d;subst d;rcases hd b x with y|⟨y,B⟩|⟨E,C,A⟩
   .have:=j.lt w (H.own j q) b k;omega
   .exact (H.new j q b k).elim (λF=>by omega) B
   .exact H.dj E C b A j q k
def O.forget{M:Nat->Prop}{w0 w:J}{L D:List En}(H:O M w0 w L D)(D':List En)(h:∀d∈D',d∈D):O M w0 w L D':=⟨H.fr,H.own,λd e=>H.rd d (h d e),H.new,H.nd,λd e=>H.dj d (h d e)⟩
def su{α:Type}{a:α}:∀{l:List α} {i:Nat},a∈l.eraseIdx i->a∈l
 |[],_,d=>by simp at d
 |b::l,0,d=>by simp at d;simp[d]
 |b::l,i+1,d=>by
  simp at d;rcases d with d|d
  .simp [d]
  .exact cH _ (su d)
def Mf{α:Type}{f:α->List Nat}:∀{L:List α} {i:Nat},(L.flatMap f).Nodup->((L.eraseIdx i).flatMap f).Nodup
 |[],i,d=>by simp
 |a::L,0,d=>by simp only[df,dL]at d;exact d.2.1
 |a::L,i+1,d=>by simp only[List.eraseIdx_cons_succ,df,dL]at d ⊢;refine⟨d.1,Mf d.2.1,λq h w k=>d.2.2 q h w ?_⟩;obtain⟨g,e,j⟩:=bB.1 k;exact bB.2 ⟨g,su e,j⟩
def uL{α:Type}{f:α->List Nat}:∀{L:List α} {i:Nat} {e:α},L[i]? =some e->(L.flatMap f).Nodup->∀b∈f e,∀g∈L.eraseIdx i,b∉f g
 |[],i,e,d,_=>by simp at d
 |a::L,0,e,d,j=>by simp at d;subst d;simp only[df,dL]at j;intro b k g h q;exact j.2.2 b k b (bB.2 ⟨g,by simpa using h,q⟩) rfl
 |a::L,i+1,e,d,j=>by
  simp only[df,dL]at j;intro b k g h q;simp only[List.getElem?_cons_succ]at d;simp only[List.eraseIdx_cons_succ,aE]at h;rcases h with rfl|h
  .exact j.2.2 b q b (bB.2 ⟨e,aB d,k⟩) rfl
  .exact uL d j.2.1 b k g h q
def O.freeze{M:Nat->Prop}{w0 w:J}{L D:List En}(H:O M w0 w L D){e:En}(i:Nat)(h:En)(hi:L[i]? =some e)(x:h.P w)(y:∀b∈h.fp,b∈e.fp):O M w0 w (L.eraseIdx i) (D++[h]):=by
 refine⟨H.fr,λg d=>H.own g (su d),λg d=>?_,λg d=>H.new g (su d),Mf H.nd,λg d b k j q=>?_⟩
 .rcases aL.1 d with d|d
  .exact H.rd g d
  .simp at d;subst d;exact x
 .rcases aL.1 d with d|d
  .exact H.dj g d b k j (su q)
  .simp at d;subst d;exact uL hi H.nd b (y b k) j q
def O.get{M:Nat->Prop}{w0 w:J}{L D:List En}(H:O M w0 w L D)(i:Nat){e:En}(hi:L[i]? =some e:=by rfl):e.P w:=H.own e (aB hi)
def O.getD{M:Nat->Prop}{w0 w:J}{L D:List En}(H:O M w0 w L D)(i:Nat){e:En}(hi:D[i]? =some e:=by rfl):e.P w:=H.rd e (aB hi)
section
variable {M:Nat->Prop} {w0 w:J} {L D:List En}
def O.ob(H:O M w0 w L D)(i:Nat){b:Nat}{o:Obj}(hi:L[i]? =some (.ob b o):=by rfl):w.heap[b]? =some o:=H.own _ (aB hi)
def O.ld(H:O M w0 w L D)(i j:Nat){b:Nat}{vs:List aa}{T:aD}{v:aa}(hi:L[i]? =some (.c b vs T):=by rfl)(d:vs[j]? =some v:=by rfl):w.cell? ((ad b).add j)=some v:=
 cellAt (p:=ad b) (H.ob i hi) rfl (by simpa using d)
def O.cm(H:O M w0 w L D)(i:Nat){b:Nat}{vs:List aa}{T:aD}{v:aa}(hi:L[i]? =some (.c b vs T):=by rfl)(d:vs[0]? =some v:=by rfl):w.cell? (ad b)=some v:=by
 have:=H.ld i 0 hi d
 rwa[iz]at this
def O.set(H:O M w0 w L D)(i j:Nat){b:Nat}{vs:List aa}{T:aD}{v:aa}(hi:L[i]? =some (.c b vs T))(h:j<vs.length):
  (w.cell? ((ad b).add j)).isSome=true/\w.frozen? ((ad b).add j)=false/\O M w0 (w.setCell ((ad b).add j) v) (L.set i (.c b (vs.set j v) T)) D:=by obtain⟨k,q,x,y⟩:=y9 (H.ob i hi) j (by simpa using h) v;exact⟨k,q,H.fC i (.c b (vs.set j v) T) hi (y.mono λz _ d=>by simp[En.ob,d]) (by show _=_;rw[x];simp) (λb e=>.inl e)⟩
def O.st(H:O M w0 w L D)(i j:Nat){b:Nat}{vs:List aa}{T:aD}{v:aa}{K:J->Prop}(hi:L[i]? =some (.c b vs T))(e:∀d,O M w0 d (L.set i (.c b (vs.set j v) T)) D->K d)(h:j<vs.length:=by simp):aJ w ((ad b).add j) v K:=by obtain⟨k,q,x⟩:=H.set (v:=v) i j hi h;exact⟨k,q,e _ x⟩
def O.eC(H:O M w0 w L D)(i:Nat){b:Nat}{vs:List aa}{T:aD}{v:aa}{K:J->Prop}(hi:L[i]? =some (.c b vs T))(e:∀d,O M w0 d (L.set i (.c b (vs.set 0 v) T)) D->K d)(h:0<vs.length:=by simp):aJ w (ad b) v K:=by
 have:=H.st (v:=v) (K:=K) i 0 hi e h
 rwa[iz]at this
def O.iU(H:O M w0 w L D)(i:Nat){b:Nat}{y e:aa}{T:aD}{d h:aa}{K:J->Prop}(hi:L[i]? =some (.c b [y,e] T))(z:∀j,O M w0 j (L.set i (.c b [d,h] T)) D->K j):aJ w (ad b) d λk=>aJ k ((ad b).add 1) h K:=by have A:=(cr.1 hi).1;exact H.eC i hi (λk q=>q.st (vs:=[d,e]) (T:=T) i 1 (by simp[A]) (λB x=>z B (by simpa using x)))
def O.jP(H:O M w0 w L D)(i:Nat){b:Nat}{E j e:aa}{T:aD}{d h q:aa}{K:J->Prop}(hi:L[i]? =some (.c b [E,j,e] T))(F:∀x,O M w0 x (L.set i (.c b [d,h,q] T)) D->K x):aJ w (ad b) d λy=>aJ y ((ad b).add 1) h λz=>aJ z ((ad b).add 2) q K:=by have k:=(cr.1 hi).1;exact H.eC i hi (λy A=>A.st (vs:=[d,j,e]) (T:=T) i 1 (by simp[k]) (λz B=>B.st (vs:=[d,h,e]) (T:=T) i 2 (by simp[k]) (λG C=>F G (by simpa using C))))
def O.jQ(H:O M w0 w L D)(i:Nat){b:Nat}{N x j e:aa}{T:aD}{d h q y:aa}{K:J->Prop}(hi:L[i]? =some (.c b [N,x,j,e] T))(P:∀z,O M w0 z (L.set i (.c b [d,h,q,y] T)) D->K z):aJ w (ad b) d λA=>aJ A ((ad b).add 1) h λB=>aJ B ((ad b).add 2) q λC=>aJ C ((ad b).add 3) y K:=by have k:=(cr.1 hi).1;exact H.eC i hi (λA E=>E.st (vs:=[d,x,j,e]) (T:=T) i 1 (by simp[k]) (λB F=>F.st (vs:=[d,h,j,e]) (T:=T) i 2 (by simp[k]) (λC G=>G.st (vs:=[d,h,q,e]) (T:=T) i 3 (by simp[k]) (λQ I=>P Q (by simpa using I)))))
def O.OY(H:O M w0 w L D)(i:Nat){b:Nat}{V z x j e:aa}{T:aD}{d h q y A:aa}{K:J->Prop}(hi:L[i]? =some (.c b [V,z,x,j,e] T))(W:∀B,O M w0 B (L.set i (.c b [d,h,q,y,A] T)) D->K B):aJ w (ad b) d λC=>aJ C ((ad b).add 1) h λE=>aJ E ((ad b).add 2) q λF=>aJ F ((ad b).add 3) y λG=>aJ G ((ad b).add 4) A K:=by have k:=(cr.1 hi).1;exact H.eC i hi (λC I=>I.st (vs:=[d,z,x,j,e]) (T:=T) i 1 (by simp[k]) (λE N=>N.st (vs:=[d,h,x,j,e]) (T:=T) i 2 (by simp[k]) (λF P=>P.st (vs:=[d,h,q,j,e]) (T:=T) i 3 (by simp[k]) (λG Q=>Q.st (vs:=[d,h,q,y,e]) (T:=T) i 4 (by simp[k]) (λY S=>W Y (by simpa using S))))))
def O.nw(H:O M w0 w L D){cs:Array aa}{T:aD}{K:J->Prop}(e:∀d,d.heap.size=w.heap.size+1->O M w0 d (L++[.c w.heap.size cs.toList T]) D->K d):cS w (.cells cs T) K:=e _ (size_alloc _ _) (H.alloc _)
def O.sI(H:O M w0 w L D){o:Obj}{K:J->Prop}(e:∀d,d.heap.size=w.heap.size+1->O M w0 d L D->d.heap[w.heap.size]? =some o->K d):cS w o K:=e _ (size_alloc _ _) (H.cd (Fr.alloc _ _ _)) (oR w o)
def O.dr(H:O M w0 w L D){K:J->Prop}(e:∀d,O M w0 d L D->K d):rS w K:=e _ H.drew
def O.pu(H:O M w0 w L D)(i:Nat){b:Nat}{o d:Obj}{K:J->Prop}(hi:L[i]? =some (.ob b o))(j:∀e,O M w0 e (L.set i (.ob b d)) D->K e):gN w b o d K:=
 ⟨H.ob i hi,j _ (H.fC i (.ob b d) hi ((Fr.put w b d).mono λq _ h=>by simp[En.ob,h]) (Xg (H.ob i hi) d) (λb k=>.inl k))⟩
def O.ap(H:O M w0 w L D)(i:Nat){P:aw}{t ty e:aD}{I:aa}{sz bytes:Nat}(j:fS P t e I sz bytes){s src:Sl}{xs news:List aa}{K:Sl->J->Prop}(hi:L[i]? =some (.row e sz s xs))(G:fD w src news)(F:news.length=src.n *sz)(B:∀u∈news,u.oneCell'=true)(E:(s.n+src.n) *bytes<=140737488355328)(C:∀d h,O M w0 h (L.set i (.row e sz d (xs++news))) D->d.n=s.n+src.n->(d.a=none->s.a=none/\src.n=0)->K d h):
  ∃d h,(g' #[t,t] ty #[s.v,src.v]).run P w=.ok d.v h/\K d h:=by obtain⟨d,h,k,q,x,y,z,A⟩:=Ar (ty:=ty) j (H.get i hi) G F B E;exact⟨d,h,k,C d h (H.fC i (.row e sz d (xs++news)) hi y q z) x A⟩
def O.wM(H:O M w0 w L D)(i:Nat){P:aw}{t ty e:aD}{G:aa}{sz bytes:Nat}(k:fS P t e G sz bytes){T:aD}{s:Sl}{xs:List aa}{news:Array aa}{K:Sl->J->Prop}(hi:L[i]? =some (.row e sz s xs))(z:∀d h,O M w0 h (L.set i (.row e sz d (xs++news.toList))) D->d.n=s.n+1->d.a≠none->K d h)(A:(s.n+1) *bytes<=140737488355328)(B:news.size=sz:=by rfl)(y:∀u∈news.toList,u.oneCell'=true:=by simp[Value.oneCell']):
  cS w (.cells news T) λF=>∃d h,(g' #[t,t] ty #[s.v,.slice (some (Addr.mk w.heap.size 0 none)) 1 1]).run P F=.ok d.v h/\K d h:=by have j:O M w0 (w.alloc (.cells news T)) L D:=H.cd (Fr.alloc _ _ _);refine j.ap i k (src:=⟨some (ad w.heap.size),1,1⟩) (ty:=ty) (K:=K) (news:=news.toList) hi ((Row.made w T 1 1 news.toList).p9) (by simpa using B) y A (λd h q C E=>z d h q C λx=>by have:=(E x).2;simp at this)
def O.h'(H:O M w0 w L D)(e:aD)(sz:Nat):O M w0 w (L++[.row e sz ⟨none,0,0⟩ []]) D:=H.push _ (Fr.refl _ _) (aK.nil w e sz) (λb d=>by simp[En.row,aN]at d)
end
def aK.W0{w:J}{e:aD}{s:Sl}{vs:List aa}(d:aK w e 1 s vs):Ow w e s vs:=⟨by have:=d.len;omega,d⟩
def aK.yP{w:J}{e:aD}{s:Sl}{vs:List aa}(d:aK w e 1 s vs):Rd w s vs:=d.W0.rd
abbrev F0:Nat->Prop:=λ_=>False
def O.take{M:Nat->Prop}{w0 w:J}{L D:List En}(H:O M w0 w L D)(n:Nat):O M w0 w (L.take n) D:=
 ⟨H.fr,λd e=>H.own d (vy e),H.rd,λd e=>H.new d (vy e),by
  have:=H.nd;rw[<-List.take_append_drop n L,cC,dL]at this;exact this.1,λd e b j h k=>H.dj d e b j h (vy k)⟩
def ax{a b:Int}{A B:Prop}(e:a=b->A)(h:a≠b->B):bq (a==b) A B:=bh (λd=>e (by simpa using d)) (λd=>h (by simpa using d))
def bY{a b:Int}{A B:Prop}(e:a≠b->A)(h:a=b->B):bq (a !=b) A B:=bh (λd=>e (by simpa using d)) (λd=>h (by simpa using d))
def aS{p:Prop}[Decidable p]{A B:Prop}(e:p->A)(h:¬p->B):bq (decide p) A B:=bh (λd=>e (eZ d)) (λd=>h (kq d))
def ey{b:Bool}{A B:Prop}(e:b=false->A)(h:b=true->B):bq (!b) A B:=bh (λd=>e (by simpa using d)) (λd=>h (by simpa using d))
def O.dB{M:Nat->Prop}{w0 w:J}{L D:List En}(H:O M w0 w L D)(i j:Nat){b:Nat}{vs:List aa}{T:aD}{v:aa}(hi:D[i]? =some (.c b vs T):=by rfl)(d:vs[j]? =some v:=by rfl):w.cell? ((ad b).add j)=some v:=
 cellAt (p:=ad b) (show w.heap[b]? =_ from H.rd _ (aB hi)) rfl (by simpa using d)
def O.f'{M:Nat->Prop}{w0 w:J}{L D:List En}(H:O M w0 w L D)(i:Nat){b:Nat}{vs:List aa}{T:aD}{v:aa}(hi:D[i]? =some (.c b vs T):=by rfl)(d:vs[0]? =some v:=by rfl):w.cell? (ad b)=some v:=by
 have:=H.dB i 0 hi d
 rwa[iz]at this
def O.w4{M:Nat->Prop}{w0 w V:J}{L D:List En}(H:O M w0 w L D)(i:Nat){b:Nat}{vs d:List aa}{T:aD}(f:Fr (·=b) w V)(h:V.heap[b]? =some (.cells d.toArray T (0,0)))(hi:L[i]? =some (.c b vs T):=by rfl):O M w0 V (L.set i (.c b d T)) D:=
 H.fC i (.c b d T) hi (f.mono λk _ e=>by simp[En.ob,e]) h (λb j=>.inl j)
def O.eK{M:Nat->Prop}{w0 w:J}{L D:List En}(H:O M w0 w L D){e:aD}{sz n:Nat}{cs:List aa}(k:cs.length=n *sz)(q:n<=maxLen){K:J->Prop}(h:∀d,O M w0 d (L++[.row e sz ⟨some (ad w.heap.size),n,n⟩ cs]) D->K d):cS w (.cells cs.toArray e) K:=
 h _ (H.push _ (Fr.alloc _ _ _) (aK.made w e sz n cs k q) (λb j=>by simp[En.row,aN]at j;omega))
def O.wO{M:Nat->Prop}{w0 w:J}{L D:List En}(H:O M w0 w L D)(i:Nat){P:aw}{t ty e:aD}{C:aa}{bytes:Nat}(k:fS P t e C 1 bytes){T:aD}{s:Sl}{xs:List aa}{m:Nat}{news:List aa}{K:Sl->J->Prop}(hi:L[i]? =some (.row e 1 s xs))(A:news.length=m)(x:∀u∈news,u.oneCell'=true)(z:(s.n+m) *bytes<=140737488355328)(E:1<=m)(y:∀d h,O M w0 h (L.set i (.row e 1 d (xs++news))) D->K d h):
  cS w (.cells news.toArray T) λB=>∃d h,(g' #[t,t] ty #[s.v,.slice (some (Addr.mk w.heap.size 0 none)) m m]).run P B=.ok d.v h/\K d h:=by have j:O M w0 (w.alloc (.cells news.toArray T)) L D:=H.cd (Fr.alloc _ _ _);exact j.ap i k (src:=⟨some (ad w.heap.size),m,m⟩) (ty:=ty) (K:=K) (news:=news) hi ((Row.made w T m m news).p9) (by simpa using A) x z (λd h q _ _=>y d h q)
def iV(P:aw)(o:Oper)(E:Env)(w:J)(K:Env->J->Prop):Prop:=
 bif calm P o then mG P o E w λv _=>K (E.put o.dst v) w else g0 P o E w λv d=>K (E.put o.dst v) d
def ua(ops:Array Oper):Bool:=(List.range ops.size).all λi=>match ops[i]? with
 |some o=>o.guard.isNone&&o.after.toList.all λd=>!(Region.binds .any d)||Nat.blt d.on i
 |none=>true
abbrev db(L:Nat->Bool)(i:Nat):Nat->Bool:=λd=>bG d i||L d
section
variable {P:aw} {ops:Array Oper} {n:Cx} {K:Env->J->Prop}
def Aw(e:ua ops=true){i:Nat}{o:Oper}(h:ops[i]? =some o):o.guard=none/\∀d∈o.after,Region.binds .any d=true->d.on<i:=by unfold ua at e;have q:i<ops.size:=(Array.getElem?_eq_some_iff.1 h).1;have:=dK.1 e i (List.mem_range.2 q);rw[h]at this;simp only[a9]at this;refine⟨by simpa using this.1,λd k j=>?_⟩;have:=dK.1 this.2 d (by simpa using k);rw[j]at this;simpa using this
def YX{i:Nat}{o:Oper}{a:Act}{E:Env}{w:J}{Kh:Env->J->Prop}{K':Act->J->Prop}{Q:Exit->Act->J->Prop}(h:di n ops=true)(e:ops[i]? =some o)(C:o.guard=none)(j:Ag n a E)(d:iV P o E w Kh)(next:∀y x q,Ag n y x->Kh x q->K' y q):wpOp P ops Q i K' a w:=by
 have A:=Region.noSelect_spec (ops:=ops) (by unfold di at h;rw[a9]at h;exact h.1);have B:b3 o (yielded ops a.tmps)=true:=by simp[b3,C]
 unfold iV at d;cases z:calm P o with
 |true=>
  rw[z]at d;simp only[cond_true]at d;obtain⟨v,I,D,F,G⟩:=w7 (λk b=>A i o k b e) j d;unfold wpOp;simp only[e,B,if_true];refine .inl ?_;unfold Oper.wp;rw[G w F];exact next _ _ _ (j.put v (gz h e)) D
 |false=>
  rw[z]at d;simp only[cond_false]at d;exact E3 e B (mK (λk b=>A i o k b e) j d) λv q H=>next _ _ _ (j.put v (gz h e)) H
def ZZ(hn:di n ops=true)(M:ua ops=true)(z:(Nat->Bool)->Env->J->Prop)(step:∀k E w i o,ops[i]? =some o->k i=false->(∀q∈o.after,Region.binds .any q=true->k q.on=true)->z k E w->iV P o E w λI S=>z (db k i) I S)(fin:∀k E w,(∀i,i<ops.size->k i=true)->z k E w->K E w):
  ∀(fuel:Nat) (d:Array Bool) (a:Act) (E:Env) (w:J),d.size=ops.size->Ag n a E->z (λe=>d.getD e false) E w->((List.range ops.size).filter λe=>!d.getD e false).length<=fuel->
   wpAny P .any ops (gV n K) fuel d a w:=by
 have done:∀(d:Array Bool) (a:Act) (E:Env) (w:J),d.size=ops.size->Ag n a E->z (λe=>d.getD e false) E w->dE .any ops d=[]->gV n K .normal a w:=by
  intro d a E w H y x O;refine⟨E,y,fin _ E w (λi=>?_) x⟩;induction i using Nat.strongRecOn with
  |_ i Q=>
   intro j;cases F:d.getD i false with
   |true=>rfl
   |false=>
    exfalso;have h:ops[i]? =some ops[i]:=Array.getElem?_eq_getElem j;have G:i∈dE .any ops d:=mem_ready.2 ⟨by
     have C:i<d.size:=by omega
     simp[C]at F ⊢;exact F,_,h,λq B W=>Q q.on ((Aw M h).2 q B W) (Nat.lt_trans ((Aw M h).2 q B W) j)⟩
    rw[O]at G;cases G
 intro fuel;induction fuel with
 |zero=>
  intro d a E w H y x Y;have D:∀i,i<ops.size->d.getD i false=true:=λi j=>by
   cases F:d.getD i false with
   |true=>rfl
   |false=>
    have:i∈(List.range ops.size).filter λe=>!d.getD e false:=List.mem_filter.2 ⟨List.mem_range.2 j,by rw[F];rfl⟩;rw[List.length_eq_zero_iff.1 (Nat.le_zero.1 Y)]at this;cases this
  refine⟨?_,E,y,fin _ E w D x⟩;cases O:dE .any ops d with
  |nil=>rfl
  |cons i l=>
   have G:i∈dE .any ops d:=by rw[O];simp
   obtain⟨A,o,h,_⟩:=mem_ready.1 G;have j:=(Array.getElem?_eq_some_iff.1 h).1;have L:=D i j;have C:i<d.size:=by omega
   simp[C]at A L;rw[A]at L;cases L
 |succ fuel Q=>
  intro d a E w H y x Y;refine⟨done d a E w H y x,λi j=>?_⟩;obtain⟨A,o,h,D⟩:=mem_ready.1 j;have C:i<ops.size:=(Array.getElem?_eq_some_iff.1 h).1;have Z:i<d.size:=by omega
  have T:d.getD i false=false:=by simp[Z]at A ⊢;exact A
  refine YX hn h (Aw M h).1 y (step _ E w i o h T D x) λa' I S ab V=>?_;have B:(db (λe=>d.getD e false) i)=λe=>(d.setIfInBounds i true).getD e false:=by
   funext e;by_cases N:i=e
   .subst N;simp[db,Z]
   .have:bG e i=false:=by rw[<-iX,dZ];exact λaa=>N aa.symm
    rw[getD_set_ne false N];simp[db,this]
  rw[B]at V;refine Q _ a' I S (by simpa using H) ab V ?_;have ac:((List.range ops.size).filter λe=>!(d.setIfInBounds i true).getD e false)=((List.range ops.size).filter λe=>!d.getD e false).filter λe=>!(bG e i):=by rw[List.filter_filter];refine List.filter_congr λe _=>?_;rw[<-congrFun B e];simp only[db,Bool.not_or]
  have ad:(((List.range ops.size).filter λe=>!d.getD e false).filter λe=>!(bG e i)).length<((List.range ops.size).filter λe=>!d.getD e false).length:=by refine List.length_filter_lt_length_iff_exists.2 ⟨i,List.mem_filter.2 ⟨List.mem_range.2 C,by rw[T];rfl⟩,?_⟩;have:bG i i=true:=Nat.beq_refl i;simp[this]
  rw[ac];omega
def Z3{c:Code}{id:Nat}{a:Act}{E:Env}{w:J}(e:(Nat->Bool)->Env->J->Prop)(F:P.follows .mixedOrders=true)(C:c=.region id ops true)(k:di n ops=true)(B:ua ops=true)(A:Ag n a E)(y:e (λ_=>false) E w.drew)(step:∀d E w i o,ops[i]? =some o->d i=false->(∀j∈o.after,Region.binds .any j=true->d j.on=true)->e d E w->iV P o E w λq H=>e (db d i) q H)(fin:∀d E w,(∀i,i<ops.size->d i=true)->e d E w->K E w):c.wpIn (FW n) 0 P (gV n K) a w:=by
 subst C;have G:(λh=>(g9 ops.size false).getD h false)=λ_=>false:=by funext h;by_cases D:h<ops.size<;>simp[D]
 have z:=ZZ (K:=K) k B e step fin ops.size (g9 ops.size false) a E w.drew (by simp) A (by rw[G];exact y) (bp (List.length_filter_le _ _) (by simp));refine wpIn_region_draw λt=>?_;refine q1 k (λ⟨_,_,x⟩=>x) _ _ _ ?_;simp only[Region.schedule,F,Bool.true_or,if_true];exact wpAny_sound ops.size t _ a _ z
def DX(P:aw)(n:Nat)(c:Code):Bool:=match c with
 |.region _ ops d=>d&&(P.follows .mixedOrders&&(di n ops&&ua ops))
 |_=>false
def BP(P:aw)(c:Code)(K:Env->J->Prop)(E:Env)(w:J):Prop:=
 ∃e:(Nat->Bool)->Env->J->Prop,e (λ_=>false) E w.drew/\
  (∀d E w i o,(Code.ops c)[i]? =some o->d i=false->(∀h∈o.after,Region.binds .any h=true->d h.on=true)->e d E w->iV P o E w λj k=>e (db d i) j k)/\
  ∀d E w,(∀i,i<(Code.ops c).size->d i=true)->e d E w->K E w
abbrev vQ(P:aw)(c:Code)(K:Env->J->Prop)(E:Env)(w:J):Prop:=BP P (Code.fst c) K E w
variable {Q:Exit->Act->J->Prop} {E:Env} {w:J}
def ig(c:Code)(d:DX P n c=true)(y:BP P c K E w)(F:∀e j h,Ag n h e->K e j->Q .normal h j):WP P n c Q E w:=by
 obtain⟨q,z,step,fin⟩:=y;unfold DX at d;split at d
 .rename_i id ops G;simp only[a9]at d;obtain⟨rfl,A,B,C⟩:=d;exact λa D=>wpIn_mono (Z3 q A rfl B C D z step fin) λx h j k=>by
   cases x with
   |normal=>obtain⟨e,hA,hK⟩:=k;exact F e j h hA hK
   |_=>exact k.elim
 .cases d
def si(c:Code)(h:(uZ c&&DX P n (Code.fst c))=true)(j:vQ P c K E w)(x:∀d e,K d e->WP P n (Code.snd c) Q d e):WP P n c Q E w:=
 WP.seq (y7 (rv h).1) (ig _ (rv h).2 j λd e y k q=>nx k (x d e q))
end
def rowOf(o:Oper):Op×Option Nat×aD×List Nat:=(o.op,o.dst,o.type,(o.after.toList.filter λd=>Region.binds .any d).map (·.on))
def allI{α:Type}(F:Nat->α->Prop):List α->Nat->Prop
 |[],_=>True
 |a::l,i=>F i a/\allI F l (i+1)
def FD{α:Type}{F:Nat->α->Prop}:∀{l:List α} {n i:Nat} {a:α},allI F l n->l[i]? =some a->F (n+i) a
 |[],_,i,a,_,d=>by simp at d
 |b::l,n,0,a,d,e=>by simp at e;subst e;exact d.1
 |b::l,n,i+1,a,d,e=>by
  have:=FD (i:=i) d.2 (by simpa using e)
  rwa[show n+1+i=n+(i+1)by omega]at this
section
variable {P:aw} {K:Env->J->Prop} {E:Env} {w:J}
def wF(P:aw)(e:(Nat->Bool)->Env->J->Prop)(i:Nat)(r:Op×Option Nat×aD×List Nat):Prop:=
 ∀d E w o,o.op=r.1->o.dst=r.2.1->o.type=r.2.2.1->d i=false->(∀j∈r.2.2.2,d j=true)->e d E w->iV P o E w λh k=>e (db d i) h k
def Iv{c:Code}(j:List (Op×Option Nat×aD×List Nat))(q:(Code.ops c).toList.map rowOf=j)(e:(Nat->Bool)->Env->J->Prop)(y:e (λ_=>false) E w.drew)(step:allI (wF P e) j 0)(fin:∀d E w,(∀i,i<j.length->d i=true)->e d E w->K E w):BP P c K E w:=by
 refine⟨e,y,λd E w i o G h C k=>?_,λd E w B k=>fin d E w (λi h=>B i ?_) k⟩
 .have H:j[i]? =some (rowOf o):=by rw[<-q,List.getElem?_map,Array.getElem?_toList,G];rfl
  have:=FD step H;rw[Nat.zero_add]at this;refine this d E w o rfl rfl rfl h (λI F=>?_) k;obtain⟨x,D,rfl⟩:=cz.1 F;obtain⟨z,A⟩:=List.mem_filter.1 D;exact C x (by simpa using z) A
 .rw [<-q,List.length_map]at h;simpa using h
def oe{o:Oper}{t:Nat}{v:aa}(d:o.op=.move (.tmp t)\/o.op=.assign (.tmp t))(h:E.get? t=some v)(k:K (E.put o.dst v) w):iV P o E w K:=by
 obtain⟨dst,op,q,pos,after,guard⟩:=o;have j:E.ev (.tmp t)=v:=by simp[Env.ev,Env.val,h]
 rcases d with d|d<;>(simp only at d;subst d)
 .show gA P _ E (λv _=>K (E.put dst v) w);have e:E.eI ⟨dst,.move (.tmp t),q,pos,after,guard⟩=true:=by simp[Env.eI,Op.operands,Env.val,h]
  unfold gA;rw[e];show K (E.put dst (E.ev (.tmp t))) w;rw[j];exact k
 .show gA P _ E (λv _=>K (E.put dst v) w);have e:E.eI ⟨dst,.assign (.tmp t),q,pos,after,guard⟩=true:=by simp[Env.eI,Op.operands,Env.val,h]
  unfold gA;rw[e];show K (E.put dst (E.ev (.tmp t))) w;rw[j];exact k
def qU{o:Oper}{T:aD}{t:Nat}{p:Addr}(d:o.op=.load T (.tmp t))(h:E.get? t=some (.pointer (some p)))(e:mU P T p w λv _=>K (E.put o.dst v) w):iV P o E w K:=by obtain⟨dst,op,j,pos,after,guard⟩:=o;simp only at d;subst d;show(match E.val (.tmp t)with |some (.pointer (some p))=>mU P T p w (λv _=>K (E.put dst v) w)|_=>False);rw[show E.val (.tmp t)=some (.pointer (some p))from h];exact e
def YQ{o:Oper}{f d t2:Nat}{e h:aa}(q:o.op=.makeFunc (.func f) #[] #[.tmp d,.tmp t2])(j:E.get? d=some e)(k:E.get? t2=some h)(z:K (E.put o.dst (.func (.func f) #[] #[e,h])) w):iV P o E w K:=by
 obtain⟨dst,op,B,pos,after,guard⟩:=o;simp only at q;subst q;show gA P _ E (λv _=>K (E.put dst v) w);have A:E.eI ⟨dst,.makeFunc (.func f) #[] #[.tmp d,.tmp t2],B,pos,after,guard⟩=true:=by simp[Env.eI,Op.operands,Env.val,j,k]
 unfold gA;rw[A];show K (E.put dst (.func (.func f) (#[].map E.ev) (#[.tmp d,.tmp t2].map E.ev))) w;have x:E.ev (.tmp d)=e:=by simp[Env.ev,Env.val,j]
 have y:E.ev (.tmp t2)=h:=by simp[Env.ev,Env.val,k]
 simp only[List.map_toArray,List.map_cons,List.map_nil,x,y];exact z
def YR{o:Oper}{T:aD}(d:o.op=.makeMap T none)(h:K (E.put o.dst (.map (some w.heap.size))) (w.alloc (.map #[] 0))):iV P o E w K:=by
 obtain⟨dst,op,e,pos,after,guard⟩:=o;simp only at d;subst d;have j:E.eI ⟨dst,.makeMap T none,e,pos,after,guard⟩=true:=by simp[Env.eI,Op.operands]
 have k:r2 P ⟨dst,.makeMap T none,e,pos,after,guard⟩ E w (λv q=>K (E.put dst v) q):=by unfold r2;rw[j];exact h
 unfold iV;simp only[calm,cond_false];unfold g0;exact k
def pf{o:Oper}{T:aD}{m k v:Operand}{j h q:aa}(e:o.op=.insert T m k v)(z:E.val m=some j)(y:E.val k=some h)(A:E.val v=some q)(x:∃d,(Instr.mapUpdate T j h q).run P w=.ok () d/\K (E.put o.dst undef) d):iV P o E w K:=by obtain⟨dst,op,B,pos,after,guard⟩:=o;simp only at e;subst e;show(match E.val m,E.val k,E.val v with |some m,some k,some v=>He P (Instr.mapUpdate T m k v) w (λv d=>K (E.put dst v) d)|_,_,_=>False);rw[z,y,A];exact x
def Ew{o:Oper}{t a b f:Nat}{ts:Array aD}{first captured:Array aa}{x y:aa}(k:o.op=.call ⟨.value (.tmp t),#[.tmp a,.tmp b],ts⟩)(q:E.get? t=some (.func (.func f) first captured))(h:E.get? a=some x)(j:E.get? b=some y)(D:gI P f=true)(C:aj P f (first++#[x,y]++captured) w λz e=>mQ (zeroOf P o.type) λv=>z=ae v/\K (E.put o.dst v) e):iV P o E w K:=by
 obtain⟨dst,op,d,pos,after,guard⟩:=o;simp only at k;subst k;show cB (E.eI ⟨dst,.call ⟨.value (.tmp t),#[.tmp a,.tmp b],ts⟩,d,pos,after,guard⟩) (match E.get? t with
  |some (.func (.func f) first captured)=>cB (gI P f) (pT P f (first++(#[Operand.tmp a,.tmp b]).map E.ev++captured) (zeroOf P d) w (λv e=>K (E.put dst v) e))
  |_=>False)
 have F:E.eI ⟨dst,.call ⟨.value (.tmp t),#[.tmp a,.tmp b],ts⟩,d,pos,after,guard⟩=true:=by simp[Env.eI,Op.operands,Call.operands,Env.val,q,h,j]
 rw[F,q];show cB (gI P f) _;rw[D];have A:E.ev (.tmp a)=x:=by simp[Env.ev,Env.val,h]
 have B:E.ev (.tmp b)=y:=by simp[Env.ev,Env.val,j]
 show pT P f _ _ w _;simp only[List.map_toArray,List.map_cons,List.map_nil,A,B];exact C
def nt(T:List (Nat×Nat×aa))(L:Nat->Bool)(E:Env):Prop:=∀d∈T,(bif bG d.1 0 then true else L (d.1 - 1))=true->E.get? d.2.1=some d.2.2
def nt.get{T:List (Nat×Nat×aa)}{L:Nat->Bool}(e:nt T L E){i d:Nat}{v:aa}(h:(i,d,v)∈T)(hi:(bif bG i 0 then true else L (i - 1))=true):E.get? d=some v:=e _ h hi
def iH{E:Env}{d t:Nat}{v:aa}(e:d≠t):(E.put (some d) v).get? t=E.get? t:=by
 have:bG d t=false:=by rw[<-iX,dZ];exact e
 simp only[Env.put,Env.get?,this,cond_false]
def r'{E:Env}{d:Nat}{v:aa}:(E.put (some d) v).get? d=some v:=by simp[Env.put,Env.get?]
def nt.fill{T:List (Nat×Nat×aa)}{L:Nat->Bool}(y:nt T L E){i d:Nat}{v:aa}(w:∀e∈T,e.1=i+1->e=(i+1,d,v))(z:∀e∈T,e.2.1=d->e.1=i+1):nt T (db L i) (E.put (some d) v):=by
 intro e h x;by_cases j:e.2.1=d
 .obtain rfl:=w e h (z e h j);exact r'
 .rw [iH (λk=>j k.symm)];refine y e h ?_;by_cases q:e.1=0
  .rw [q];rfl
  .have A:bG e.1 0=false:=by rw[<-iX,dZ];exact q
   rw[A]at x ⊢;have B:e.1 - 1≠i:=λk=>j (by rw[w e h (by omega)]);have:bG (e.1 - 1) i=false:=by rw[<-iX,dZ];exact B
   simpa[db,this]using x
def nt.pass{T:List (Nat×Nat×aa)}{L:Nat->Bool}(w:nt T L E){i:Nat}{d:Option Nat}{v:aa}(x:∀e∈T,e.1≠i+1)(y:∀e∈T,d≠some e.2.1):nt T (db L i) (E.put d v):=by
 intro e h q;have A:(E.put d v).get? e.2.1=E.get? e.2.1:=by
  cases d with
  |none=>rfl
  |some d=>exact iH λj=>y e h (by rw[j])
 rw[A];refine w e h ?_;by_cases k:e.1=0
 .rw [k];rfl
 .have z:bG e.1 0=false:=by rw[<-iX,dZ];exact k
  rw[z]at q ⊢;have B:e.1 - 1≠i:=λj=>x e h (by omega);have:bG (e.1 - 1) i=false:=by rw[<-iX,dZ];exact B
  simpa[db,this]using q
end
structure LC(w:J)(L:List (Nat×List aa×aD)):Prop where
 own:∀(i:Nat) (x:Nat×List aa×aD),L[i]? =some x->w.heap[x.1]? =some (.cells x.2.1.toArray x.2.2 (0,0))
 dj:∀(i j:Nat) (x y:Nat×List aa×aD),L[i]? =some x->L[j]? =some y->x.1=y.1->i=j
abbrev gW(L:List (Nat×List aa×aD)):List Nat:=L.map (·.1)
def loc(bs:List Nat)(w:J)(K:J->Prop):Prop:=∀d,Fr (·∈bs) w d->K d
def sG(bs:List Nat)(w:J)(K:Nat->J->Prop):Prop:=∀b d,w.heap.size<=b->d.heap.size=b+1->Fr (·∈bs) w d->K b d
def fq(bs:List Nat)(P:aw)(f:bU)(args:Array aa)(w:J)(K:aC):Prop:=∃d:Nat->Prop,(∀b∈bs,¬d b)/\aj P f args w λr e=>Fr d w e/\K r e
def kept(bs:List Nat)(w V:J):Prop:=∀b∈bs,V.heap[b]? =w.heap[b]?
def o3{q:Option Addr}{K K':Addr->Prop}(d:dJ q K)(f:∀p,K p->K' p):dJ q K':=by
 cases q with
 |none=>exact d
 |some p=>exact f p d
def OA{t:Bool}{A B d e:Prop}(h:bq t A B)(j:A->d)(k:B->e):bq t d e:=Ym j k h
def od{w:J}{p:Addr}{v:aa}{K K':J->Prop}(d:aJ w p v K)(f:∀e,K e->K' e):aJ w p v K':=⟨d.1,d.2.1,f _ d.2.2⟩
section
variable {w wT:J} {L:List (Nat×List aa×aD)}
def LC.nil(w:J):LC w []:=⟨λi e d=>by simp at d,λi h e j d=>by simp at d⟩
def LC.Rl(H:LC w L){b:Nat}(d:b∈gW L):∃(i:Nat) (x:Nat×List aa×aD),L[i]? =some x/\x.1=b:=by obtain⟨x,h,rfl⟩:=cz.1 d;obtain⟨i,e⟩:=kf.1 h;exact⟨i,x,e,rfl⟩
def LC.lt(H:LC w L){b:Nat}(d:b∈gW L):b<w.heap.size:=by obtain⟨i,h,e,rfl⟩:=H.Rl d;exact lC (H.own i h e)
def LC.nN{V:J}(H:LC w L)(h:kept (gW L) w V):LC V L:=
 ⟨λi d e=>by rw[h d.1 (cz.2 ⟨d,aB e,rfl⟩)];exact H.own i d e,H.dj⟩
def LC.fr{M:Nat->Prop}{V:J}(H:LC w L)(f:Fr M w V)(e:∀b∈gW L,¬M b):LC V L:=H.nN λb d=>f.ck b (H.lt d) (e b d)
def LC.pick(H:LC w L)(is:List Nat)(A:is.Nodup):LC w (is.filterMap λi=>L[i]?):=by
 induction is with
 |nil=>exact LC.nil w
 |cons y is k=>
  have k:=k (List.nodup_cons.1 A).2;cases x:L[y]? with
  |none=>rw[List.filterMap_cons_none x];exact k
  |some z=>
   rw[List.filterMap_cons_some x];have back:∀(j:Nat) d,(is.filterMap λi=>L[i]?)[j]? =some d->d.1≠z.1:=by intro j d E h;obtain⟨m,C,D⟩:=List.mem_filterMap.1 (aB E);have:=H.dj m y d z D x h;subst this;exact(List.nodup_cons.1 A).1 C
   refine⟨λi d e=>?_,λi j d B e q h=>?_⟩
   .cases i with
    |zero=>simp at e;subst e;exact H.own y z x
    |succ i=>exact k.own i d (by simpa using e)
   .cases i with
    |zero=>
     cases j with
     |zero=>rfl
     |succ j=>simp at e;subst e;exact absurd h.symm (back j B (by simpa using q))
    |succ i=>
     cases j with
     |zero=>simp at q;subst q;exact absurd h (back i d (by simpa using e))
     |succ j=>rw[k.dj i j d B (by simpa using e) (by simpa using q) h]
def LC.alloc(H:LC w L)(o:Obj):LC (w.alloc o) L:=H.fr (M:=λ_=>False) (Fr.alloc _ _ _) (λ_ _ d=>d)
def LC.push(H:LC w L)(cs:Array aa)(T:aD):LC (w.alloc (.cells cs T)) (L++[(w.heap.size,cs.toList,T)]):=by
 have B:=H.alloc (.cells cs T);have A:∀(i:Nat) d,L[i]? =some d->d.1<w.heap.size:=λi d e=>lC (H.own i d e);have k:∀(i:Nat) d,(L++[(w.heap.size,cs.toList,T)])[i]? =some d->(L[i]? =some d)\/(i=L.length/\d=(w.heap.size,cs.toList,T)):=by
  intro i d e;rw[List.getElem?_append]at e;split at e
  .exact .inl e
  .rename_i C;right;have:i - L.length=0:=by
    rcases Nat.eq_zero_or_pos (i - L.length)with h|h
    .exact h
    .rw [List.getElem?_eq_none (by simp;omega)]at e;cases e
   rw[this]at e;simp at e;exact⟨by omega,e.symm⟩
 refine⟨λi d e=>?_,λi q d x e z y=>?_⟩
 .rcases k i d e with h|⟨_,rfl⟩
  .exact B.own i d h
  .simp only[Array.toArray_toList];exact oR w _
 .rcases k i d e with h|⟨h,rfl⟩
  .rcases k q x z with j|⟨j,rfl⟩
   .exact H.dj i q d x h j y
   .have:=A i d h;simp only at y;omega
  .rcases k q x z with j|⟨j,rfl⟩
   .have:=A q x j;simp only at y;omega
   .omega
def AA(L:List (Nat×List aa×aD))(i:Nat){b:Nat}{vs h:List aa}{T:aD}(hi:L[i]? =some (b,vs,T)):gW (L.set i (b,h,T))=gW L:=by
 apply List.ext_getElem?;intro j;simp only[gW,List.getElem?_map,sY];split
 .rename_i d;subst d;rw[hi];split
  .rfl
  .rename_i e;exact absurd (cr.1 hi).1 e
 .rfl
def LC.set(H:LC w L)(i j:Nat){b:Nat}{vs:List aa}{T:aD}{v:aa}(hi:L[i]? =some (b,vs,T))(D:j<vs.length)(f:Fr (·∈gW L) wT w):
  (w.cell? ((ad b).add j)).isSome=true/\w.frozen? ((ad b).add j)=false/\LC (w.setCell ((ad b).add j) v) (L.set i (b,vs.set j v,T))/\Fr (·∈gW (L.set i (b,vs.set j v,T))) wT (w.setCell ((ad b).add j) v):=by
 obtain⟨I,K,M,x⟩:=y9 (H.own i _ hi) j (by simpa using D) v;have C:b∈gW L:=cz.2 ⟨_,aB hi,rfl⟩;refine⟨I,K,⟨λk e d=>?_,λk m e q d E h=>?_⟩,?_⟩
 .rw [sY]at d;split at d
  .split at d
   .cases d;simp only;rw[M];simp
   .cases d
  .rename_i F;have:=x.ck e.1 (lC (H.own k e d)) (λh=>F (H.dj i k _ e hi d h.symm));rw[this];exact H.own k e d
 .have g:∀(k:Nat) e,(L.set i (b,vs.set j v,T))[k]? =some e->∃q,L[k]? =some q/\q.1=e.1:=by
   intro k e d;rw[sY]at d;split at d
   .rename_i h;subst h;split at d
    .cases d;exact⟨_,hi,rfl⟩
    .cases d
   .exact ⟨e,d,rfl⟩
  obtain⟨G,A,y⟩:=g k e d;obtain⟨N,B,z⟩:=g m q E;exact H.dj k m G N A B (by rw[y,z,h])
 .rw [AA L i hi];exact f.trans x λe _ h=>h▸C
def jZ{bs:List Nat}{P:aw}{f:bU}{args:Array aa}{K:aC}(d:aj P f args w λr e=>ah w e/\K r e):fq bs P f args w K:=⟨λ_=>False,λ_ _ d=>d,d⟩
end
def En.g(b:Nat):En:=⟨[b],λh=>b<h.heap.size,λh q k d=>(by
  have:=k b (by simp) d;rcases Nat.lt_or_ge b q.heap.size with e|e
  .exact e
  .rw [Array.getElem?_eq_none e,Array.getElem?_eq_getElem d]at this;cases this),λh d w j=>by simp at j;subst j;exact d,by simp⟩
section
variable {M:Nat->Prop} {w0 w:J} {L D:List En} {bs:List Nat}
def O.ghost(H:O M w0 w L D){V:J}(f:Fr (·∈bs) w V)(q:∀b∈bs,En.g b∈L):O M w0 V L D:=by
 refine⟨H.fr.trans f λC G j=>(H.new _ (q C j) C (by simp[En.g])).resolve_left (by omega),λd e=>?_,λd e=>?_,H.new,H.nd,H.dj⟩
 .by_cases z:∃b∈bs,b∈d.fp
  .obtain ⟨b,h,E⟩:=z;obtain⟨i,A⟩:=kf.1 e;obtain⟨B,x⟩:=kf.1 (q b h);have F:i=B:=by
    rcases Nat.decEq i B with k|k
    .exact absurd (by simp[En.g]) (i5 H.nd A x k b E)
    .exact k
   subst F;rw[A]at x;cases x;exact q5 (H.own _ e) f.size
  .exact d.st w V (λb h y=>f.ck b y λj=>z ⟨b,j,h⟩) (H.own d e)
 .exact d.st w V (λb h y=>f.ck b y λj=>H.dj d e b h _ (q b j) (by simp[En.g])) (H.rd d e)
def O.af(H:O M w0 w L D){K:J->Prop}(h:∀d,O M w0 d L D->K d)(e:∀b∈bs,En.g b∈L:=by simp):loc bs w K:=λ_ f=>h _ (H.ghost f e)
def O.ay(H:O M w0 w L D){K:Nat->J->Prop}(C:∀b q,O M w0 q (L++[.g b]) D->K b q)(B:∀b∈bs,En.g b∈L:=by simp):sG bs w K:=λb q A F f=>C b q (by
 have x:=H.ghost f B;refine⟨x.fr,λh d=>?_,x.rd,λh d k e=>?_,?_,λh d k e z j y=>?_⟩
 .rcases aL.1 d with d|d
  .exact x.own h d
  .simp at d;subst d;show b<_;omega
 .rcases aL.1 d with d|d
  .exact H.new h d k e
  .simp at d;subst d;simp[En.g]at e;subst e;exact .inl (bp H.fr.size A)
 .rw [cC,dL];refine⟨H.nd,by simp[En.g],λk e G E=>?_⟩;have:=H.n3 k e;simp[En.g]at E;omega
 .rcases aL.1 j with j|j
  .exact H.dj h d k e z j y
  .simp at j;subst j;simp[En.g]at y;subst y;have:=h.lt w (H.rd h d) k e;omega)
def O.av(H:O M w0 w L D){P:aw}{g:bU}{args:Array aa}{A K:aC}(h:aj P g args w λr d=>A r d/\ah w d)(j:∀r d,A r d->O M w0 d L D->K r d):fq bs P g args w K:=
 jZ (h.mono λr d ⟨e,f⟩=>⟨f,j r d e (H.cd f)⟩)
def O.call(H:O M w0 w L D){P:aw}{g:bU}{args:Array aa}{A K:aC}(h:aj P g args w λr d=>A r d/\ah w d)(j:∀r d,A r d->O M w0 d L D->K r d):aj P g args w K:=
 h.mono λr d ⟨e,f⟩=>j r d e (H.cd f)
def O.Nb(H:O M w0 w L D){V:J}(f:ah w V){e:aD}{sz:Nat}{s:Sl}{vs:List aa}(d:aK V e sz s vs)(h:∀b∈aN s,w.heap.size<=b):O M w0 V (L++[.row e sz s vs]) D:=H.push (.row e sz s vs) f d h
def O.FF(H:O M w0 w L D)(i:Nat){P:aw}{t ty e:aD}{ab:aa}{sz bytes:Nat}(C:fS P t e ab sz bytes){s src:Sl}{xs news:List aa}{K:Sl->J->Prop}(hi:L[i]? =some (.row e sz s xs))(W:fD w src news)(V:news.length=src.n *sz)(Q:∀u∈news,u.oneCell'=true)(j:(s.n+src.n) *bytes<=140737488355328)(S:∀d h,O M w0 h (L.set i (.row e sz d (xs++news))) D->d.n=s.n+src.n->(d.a=none->s.a=none/\src.n=0)->(∀b,En.g b∈L->h.heap[b]? =w.heap[b]?)->K d h):
  ∃d h,(g' #[t,t] ty #[s.v,src.v]).run P w=.ok d.v h/\K d h:=by
 obtain⟨d,h,E,F,G,y,I,N⟩:=Ar (ty:=ty) C (H.get i hi) W V Q j;refine⟨d,h,E,S d h (H.fC i (.row e sz d (xs++news)) hi y F I) G N λb j=>?_⟩;refine y.ck b (H.own _ j) λB=>?_;obtain⟨Z,q⟩:=kf.1 j;by_cases A:i=Z
 .subst A;rw[hi]at q;cases ad:(En.row e sz s xs)with
  |mk ac P' st lt ae=>
   have k:En.row e sz s xs=En.g b:=eh q;have x:(En.row e sz s xs).P=(En.g b).P:=by rw[k]
   have e3:=congrFun x w;have e4:(En.row e sz s xs).P (w.alloc (.cells #[] e))=(En.g b).P (w.alloc (.cells #[] e)):=by rw[k]
   have f1:(En.row e sz s xs).fp=(En.g b).fp:=by rw[k]
   have z:(En.g b).P ({w with heap:=g9 (b+1) (.map #[] 0)}):=by show b<_;simp
   rw[<-x]at z;have Y:=(aK.row (show aK ({w with heap:=g9 (b+1) (.map #[] 0)}) e sz s xs from z)).tC b B;obtain⟨cs,f,T⟩:=Y;simp at T
 .exact i5 H.nd hi q A b B (by simp[En.g])
end
def br(sz:Nat)(w:J)(s:Sl)(vs:List aa):Prop:=vs.length=s.n *sz/\s.n<=s.c/\fD w s vs
def br.fr{sz:Nat}{M:Nat->Prop}{w V:J}{s:Sl}{vs:List aa}(d:br sz w s vs)(e:Fr M w V)(h:∀b∈aN s,¬M b):br sz V s vs:=⟨d.1,d.2.1,d.2.2.fr e h⟩
def br.cd{sz:Nat}{w V:J}{s:Sl}{vs:List aa}(d:br sz w s vs)(e:ah w V):br sz V s vs:=d.fr e λ_ _ d=>d
def aK.a7{w:J}{e:aD}{sz:Nat}{s:Sl}{vs:List aa}(d:aK w e sz s vs):br sz w s vs:=⟨d.len,d.cap,d.row.p9⟩
def br.nil(sz:Nat)(w:J):br sz w ⟨none,0,0⟩ []:=⟨by simp,be _,fD.nil w⟩
def En.a7(sz:Nat)(s:Sl)(vs:List aa):En:=⟨if vs=[]then[]else aN s,λq=>br sz q s vs,λq A w e=>by
  refine⟨e.1,e.2.1,e.2.2.1,λi v x=>?_⟩;obtain⟨p,h,d⟩:=e.2.2.2 i v x;have k:vs≠[]:=λy=>by subst y;simp at x
  rw[ab k]at w;have:=w p.block (by simp[aN,h]) (by have:=pV d;rwa[jv]at this);refine⟨p,h,?_⟩;unfold World.cell? at d ⊢;rw[jv]at d ⊢;rw[this];exact d,λq e b j=>by
  split at j
  .cases j
  .rename_i k;have z:0<vs.length:=List.length_pos_iff.2 k;obtain⟨p,h,d⟩:=e.2.2.2 0 vs[0] (a5 z);simp[aN,h]at j;subst j;have:=pV d
   rwa[jv]at this,by split<;>(try simp);unfold aN;split<;>simp⟩
def oi(sz:Nat)(s:Sl)(l d:Nat):Sl:=⟨if s.c=l then s.a else s.a.map (·.add (l *sz)),d - l,s.c - l⟩
def br.sub{sz:Nat}{w:J}{s:Sl}{vs:List aa}(q:br sz w s vs)(l hi:Nat)(G:l<=hi)(A:hi<=s.n):br sz w (oi sz s l hi) ((vs.take (hi *sz)).drop (l *sz)):=by
 obtain⟨x,F,h,y⟩:=q;have k:hi *sz<=s.n *sz:=jm _ A;refine⟨?_,?_,?_,λi v e=>?_⟩
 .rw [List.length_drop,List.length_take,x,Nat.min_eq_left k];show _=(hi - l) *sz;rw[Nat.sub_mul]
 .show hi - l<=s.c - l;omega
 .intro d;unfold oi at d ⊢;simp only at d ⊢;split at d
  .have:=h d;omega
  .cases j:s.a with
   |none=>have:=h j;omega
   |some p=>rw[j]at d;cases d
 .rw [List.getElem?_drop]at e;have B:l *sz+i<hi *sz:=by have:=(cr.1 e).1;rw[List.length_take]at this;omega
  rw[List.getElem?_take,ag B]at e;obtain⟨p,D,z⟩:=y _ _ e;have C:s.c≠l:=λE=>by
   have:hi<=l:=by omega
   have:=jm sz this;omega
  refine⟨p.add (l *sz),?_,?_⟩
  .unfold oi;simp only;rw[ab C,D];rfl
  .rw [add_add];exact z
def lF:List Nat->List Nat
 |[]=>[]
 |a::l=>if a∈lF l then lF l else a::lF l
def a4{x:Nat}:∀{l:List Nat},x∈lF l↔x∈l
 |[]=>Iff.rfl
 |a::l=>by
  unfold lF;split
  .rename_i e;rw[a4,aE];exact⟨.inr,λh=>h.elim (λd=>by subst d;exact a4.1 e) id⟩
  .rw [aE,aE,a4]
def sH:∀l:List Nat,(lF l).Nodup
 |[]=>.nil
 |a::l=>by
  unfold lF;split
  .exact sH l
  .rename_i d;exact List.nodup_cons.2 ⟨d,sH l⟩
def En.all(es:List En):En:=⟨lF (es.flatMap (·.fp)),λe=>∀d∈es,d.P e,λe y q k d h=>d.st e y (λb j x=>q b (a4.2 (bB.2 ⟨d,h,j⟩)) x) (k d h),
 λe k b j=>(by obtain⟨d,h,w⟩:=bB.1 (a4.1 j);exact d.lt e (k d h) b w),sH _⟩
section
variable {M:Nat->Prop} {w0 w:J} {L D:List En} {bs:List Nat}
structure zV(M:Nat->Prop)(w0 w V:J)(L D:List En):Prop where
 own:∀e:En,e.P V->(∀b∈e.fp,w.heap.size<=b)->O M w0 V (L++[e]) D
 rd:∀e:En,e.P V->(∀b∈e.fp,w.heap.size<=b)->O M w0 V L (D++[e])
def O.fresh(H:O M w0 w L D){V:J}(f:ah w V):zV M w0 w V L D:=⟨λd e h=>H.push d f e h,λd e h=>H.ek d f e λb j=>.inl (h b j)⟩
def O.gY(H:O M w0 w L D){P:aw}{g:bU}{args:Array aa}{A K:aC}(h:aj P g args w λr d=>A r d/\ah w d)(j:∀r d,A r d->O M w0 d L D->zV M w0 w d L D->K r d):fq bs P g args w K:=
 jZ (h.mono λr d ⟨e,f⟩=>⟨f,j r d e (H.cd f) (H.fresh f)⟩)
def O.w5(H:O M w0 w L D){P:aw}{g:bU}{args:Array aa}{A K:aC}(h:aj P g args w λr d=>A r d/\ah w d)(j:∀r d,A r d->O M w0 d L D->zV M w0 w d L D->K r d):aj P g args w K:=
 h.mono λr d ⟨e,f⟩=>j r d e (H.cd f) (H.fresh f)
end
def o9{sz:Nat}{s:Sl}{vs:List aa}{n:Nat}(d:∀b∈aN s,n<=b):∀b∈(En.a7 sz s vs).fp,n<=b:=λb e=>by
 have:b∈(if vs=[]then[]else aN s):=e;split at this
 .cases this
 .exact d b this
section
variable {M:Nat->Prop} {w0 w:J} {L D:List En} {bs:List Nat}
def O.eb(H:O M w0 w L D)(i:Nat){P:aw}{t ty e:aD}{E:aa}{sz bytes:Nat}(k:fS P t e E sz bytes){s src:Sl}{xs news:List aa}{K:Sl->J->Prop}(hi:L[i]? =some (.row e sz s xs))(j:br sz w src news)(x:∀u∈news,u.oneCell'=true)(z:(s.n+src.n) *bytes<=140737488355328)(y:∀h d,O M w0 d (L.set i (.row e sz h (xs++news))) D->K h d)(B:∀b∈bs,En.g b∈L:=by simp):
  ∃h d,(g' #[t,t] ty #[s.v,src.v]).run P w=.ok h.v d/\kept bs w d/\K h d:=
 H.FF i k (K:=λh d=>kept bs w d/\K h d) hi j.2.2 j.1 x z λh d q _ _ C=>⟨λb A=>C b (B b A),y h d q⟩
def O.iA(H:O M w0 w L D)(i:Nat){P:aw}{t ty e:aD}{C:aa}{sz bytes:Nat}(q:fS P t e C sz bytes){T:aD}{s:Sl}{xs:List aa}{news:Array aa}{K:Sl->J->Prop}(hi:L[i]? =some (.row e sz s xs))(y:∀h d,O M w0 d (L.set i (.row e sz h (xs++news.toList))) D->K h d)(z:(s.n+1) *bytes<=140737488355328)(B:news.size=sz:=by rfl)(x:∀u∈news.toList,u.oneCell'=true:=by simp[Value.oneCell'])(A:∀b∈bs,En.g b∈L:=by simp):
  cS w (.cells news T) λj=>∃h d,(g' #[t,t] ty #[s.v,.slice (some (Addr.mk w.heap.size 0 none)) 1 1]).run P j=.ok h.v d/\kept bs j d/\K h d:=by have k:O M w0 (w.alloc (.cells news T)) L D:=H.cd (Fr.alloc _ _ _);exact k.eb i q (src:=⟨some (ad w.heap.size),1,1⟩) (ty:=ty) (K:=K) (news:=news.toList) hi ⟨by simpa using B,be _,(Row.made w T 1 1 news.toList).p9⟩ x z y A
end
def Dy{w:J}{e:aD}{sz:Nat}{s:Sl}{vs:List aa}(h:aK w e sz s vs)(i:Nat)(hi:i<vs.length)(v:aa):
  ∃p,s.a=some p/\p.block∈aN s/\(w.cell? (p.add i)).isSome=true/\w.frozen? (p.add i)=false/\aK (w.setCell (p.add i) v) e sz s (vs.set i v)/\Fr (·∈aN s) w (w.setCell (p.add i) v):=by
 have B:=h.len;rcases h.cases with⟨rfl,rfl⟩|⟨g,cur,d,j,k,x,y,z⟩
 .simp at hi
 .have C:s.n *sz<=s.c *sz:=jm _ k;have A:i<cur.size:=by omega
  have q:g∈aN s:=by simp[aN,d]
  refine⟨⟨g,0,none⟩,d,q,?_,frozenAt (p:=⟨g,0,none⟩) j,?_,Fr.set _ _ _ (by rw[jv];exact q)⟩
  .rw [cellAt (p:=⟨g,0,none⟩) (v:=cur[i]) j rfl (by simp[A])];rfl
  .refine ⟨by simpa using h.1,.inr ⟨g,s.c,cur.setIfInBounds i v,?_,dc _,?_,k,x,by simpa using y,?_⟩⟩
   .obtain ⟨a,n,c⟩:=s;simp only at d;subst d;rfl
   .have:=setAt (p:=⟨g,0,none⟩) (i:=i) (v:=v) j rfl;simpa using this
   .rw [Array.toList_setIfInBounds,List.take_set,z]
section
variable {M:Nat->Prop} {w0 w:J} {L D:List En} {bs:List Nat}
def O.xu(H:O M w0 w L D){i:Nat}{e:aD}{sz:Nat}{s:Sl}{xs:List aa}(hi:L[i]? =some (.row e sz s xs)){b:Nat}(y:En.g b∈L):b∉aN s:=λk=>by
 obtain⟨A,d⟩:=kf.1 y;by_cases j:i=A
 .subst j;rw[hi]at d;have q:En.row e sz s xs=En.g b:=eh d;have x:(En.row e sz s xs).P=(En.g b).P:=by rw[q]
  have h:(En.g b).P ({w with heap:=g9 (b+1) (.map #[] 0)}):=by show b<_;simp
  rw[<-x]at h;obtain⟨B,f,z⟩:=(aK.row (show aK ({w with heap:=g9 (b+1) (.map #[] 0)}) e sz s xs from h)).tC b k;simp at z
 .exact i5 H.nd hi d j b k (by simp[En.g])
def O.tn(H:O M w0 w L D)(i a c:Nat){e:aD}{sz:Nat}{s:Sl}{xs:List aa}{v:aa}{p:Addr}{K:J->Prop}(hi:L[i]? =some (.row e sz s xs))(B:s.a=some p)(z:a+c<xs.length)(y:∀k,O M w0 k (L.set i (.row e sz s (xs.set (a+c) v))) D->K k)(h:∀b∈bs,En.g b∈L:=by simp):aJ w ((p.add a).add c) v λq=>kept bs w q/\K q:=by obtain⟨I,j,G,C,E,F,x⟩:=Dy (H.get i hi) (a+c) z v;rw[B]at j;cases j;rw[add_add];refine⟨C,E,λb d=>?_,y _ (H.fC i (.row e sz s (xs.set (a+c) v)) hi x F (λb d=>.inl d))⟩;exact x.ck b (H.own _ (h b d)) λA=>H.xu hi (h b d) A
end
def lH:List Bool->List En->List En
 |true::m,a::l=>a::lH m l
 |false::m,_::l=>lH m l
 |_,_=>[]
def te:∀(m:List Bool) (l:List En),(lH m l).Sublist l
 |[],l=>by unfold lH;exact List.nil_sublist _
 |true::m,[]=>by unfold lH;exact List.nil_sublist _
 |false::m,[]=>by unfold lH;exact List.nil_sublist _
 |true::m,a::l=>by unfold lH;exact(te m l).cons_cons a
 |false::m,a::l=>by unfold lH;exact(te m l).cons a
def Y7{α β:Type}{f:α->List β}{l m:List α}(e:l.Sublist m):(l.flatMap f).Sublist (m.flatMap f):=by
 induction e with
 |slnil=>exact List.Sublist.refl _
 |cons a _ d=>rw[df];exact d.trans (List.sublist_append_right _ _)
 |cons_cons a _ d=>rw[df,df];exact(List.Sublist.refl _).append d
def O.lH{M:Nat->Prop}{w0 w:J}{L D:List En}(H:O M w0 w L D)(m:List Bool):O M w0 w (lH m L) D:=
 ⟨H.fr,λd e=>H.own d ((te m L).subset e),H.rd,λd e=>H.new d ((te m L).subset e),(Y7 (te m L)).nodup H.nd,λd e b j h k=>H.dj d e b j h ((te m L).subset k)⟩
def vB{s:Sl}{vs:List aa}{n:Nat}(d:∀b∈aN s,n<=b):∀b∈(En.rd s vs).fp,n<=b:=λb e=>by
 have:b∈(if vs=[]then[]else aN s):=e;split at this
 .cases this
 .exact d b this
def xv{M:Nat->Prop}{w0 w:J}{L D:List En}(H:O M w0 w L D){i:Nat}{e:En}(hi:L[i]? =some e)(x:∀(b:Nat),¬e.P ({w with heap:=g9 (b+1) (.map #[] 0)})){b:Nat}(k:En.g b∈L):b∉e.fp:=by
 obtain⟨y,d⟩:=kf.1 k;by_cases h:i=y
 .subst h;rw[hi]at d;have j:e=En.g b:=eh d;exfalso;refine x b ?_;rw[j];show b<_;simp
 .intro q;exact i5 H.nd hi d h b q (by simp[En.g])
section
variable {M:Nat->Prop} {w0 w:J} {L D:List En} {bs:List Nat}
def O.qS(H:O M w0 w L D)(i j:Nat){e:aD}{sz:Nat}{s:Sl}{xs:List aa}{v:aa}{p:Addr}{K:J->Prop}(hi:L[i]? =some (.row e sz s xs))(C:s.a=some p)(A:j<xs.length)(z:∀q,O M w0 q (L.set i (.row e sz s (xs.set j v))) D->K q)(h:∀b∈bs,En.g b∈L:=by simp):aJ w (p.add j) v λx=>kept bs w x/\K x:=by obtain⟨N,k,I,E,F,G,y⟩:=Dy (H.get i hi) j A v;rw[C]at k;cases k;refine⟨E,F,λb d=>?_,z _ (H.fC i (.row e sz s (xs.set j v)) hi y G (λb d=>.inl d))⟩;exact y.ck b (H.own _ (h b d)) λB=>H.xu hi (h b d) B
end
def WX{p:Addr}{K:Addr->Prop}(d:K p):dJ (some p) K:=d
def XV{w:J}{e:aD}{s:Sl}{vs:List aa}(d:aK w e 1 s vs){X:Int}{i:Nat}(h:X=(i:Int)){v:aa}(hi:vs[i]? =some v){K:Addr->Prop}(j:∀p,s.a=some p->w.cell? (p.add (Int.toNat X *1))=some v->K p):
  (0:Int)<=X/\X<((s.n:Nat):Int)/\dJ s.a K:=by have q:=d.len;have k:=(cr.1 hi).1;subst h;exact⟨by omega,by omega,Rd.get d.yP (i:=i) (v:=v) hi (by simp) j⟩
abbrev mA(s:Sl)(i:Int)(K:Addr->Prop):Prop:=0<=i/\i<((s.n:Nat):Int)/\dJ s.a K
end Go.W
