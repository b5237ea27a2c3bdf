import Derived.OrdersHeld
import Derived.OrdersIn
import Derived.RangeFuncLeaves
import Derived.RangeFuncRecord
import Derived.RangeFuncSeq
import Derived.WalkKit
import Derived.Laws.AppendOwn
import Derived.Laws.StructEq
import Derived.KernelRfl
import Derived.Below
import Derived.OwnWalk
import Derived.IntWalk
import Derived.Laws.AppendOwnNone
set_option linter.unusedVariables false
set_option linter.defProp false
noncomputable section
namespace Go.W
theorem io{p:Prop}(h:p:=by omega):p:=h
theorem gs{p:Prop}(h:p:=by simp):p:=h
theorem dl{p:Prop}(h:p:=by decide):p:=h
open Go renaming World->J,Calls->aj,Program->au,Value->V,TypeId->aE,Ending->cR,FuncId->bX,IntKind->hY
open _root_.ByteArray renaming mk->a8
open Go.Builtin renaming append_->hX
open _root_.Bool renaming and_eq_true->be,not_eq_true->ij
open _root_.Nat renaming le_refl->bm,le_trans->bD,zero_le->di,beq->bH,lt_of_lt_of_le->sT,mul_le_mul_right->kR,beq_eq->eA
open _root_.Option.some renaming inj->dZ,injEq->fo
open _root_.Array renaming replicate->gd
open _root_.BitVec renaming ofInt->lD
open Go.Region renaming wanted->ct,ready->dY
open _root_.Decidable renaming decide->ai
open Go.Ending renaming returned->ad
open List renaming mem_append->aK,mem_cons->aF,mem_of_getElem?->aA,getElem?_eq_getElem->a0,getElem?_eq_some_iff->cq,mem_append_right->cK,mem_flatMap->cl,mem_map->dN,mem_of_mem_take->xn,mem_singleton->b',flatMap_cons->da,mem_iff_getElem?->i9,nodup_append->eI,all_eq_true->cY
def aa{c:Prop}{d:Decidable c}(x:¬c){α:Sort _}{t e:α}:ite c t e=e:=_root_.if_neg x
def af{c:Prop}{d:Decidable c}(x:c){α:Sort _}{t e:α}:ite c t e=t:=_root_.if_pos x
def aS{p:Prop}[i:Decidable p](x:¬p):decide p=false:=_root_.decide_eq_false x
def aQ{p:Prop}[i:Decidable p](x:p):decide p=true:=_root_.decide_eq_true x
def a9(p:Prop):(p∨False)=p:=_root_.or_false p
def eQ{p:Prop}[i:Decidable p](x:decide p=true):p:=_root_.of_decide_eq_true x
def lE{p:Prop}[i:Decidable p](x:decide p=false):¬p:=_root_.of_decide_eq_false x
abbrev Env:=List (Nat×V)
def Env.get? :Env->Nat->Option V
 |[],_=>none
 |(e,v)::d,t=>bif bH e t then some v else Env.get? d t
def Env.val(E:Env):Operand->Option V
 |.tmp t=>E.get? t
 |.const v=>some v
 |.global g=>some (.pointer (some ⟨g,0,none⟩))
 |.func f=>some (.func (.func f) #[] #[])
def Env.ev(E:Env)(x:Operand):V:=(E.val x).getD undef
def Env.put(E:Env)(d:Option Nat)(v:V):Env:=
 match d with
 |some d=>(d,v)::E
 |none=>E
def Env.e0(E:Env)(o:Oper):Bool:=o.op.operands.toList.all λd=>(E.val d).isSome
structure Cx where
 n:Nat
 ds:List Deferred
 ro:Option Nat
instance:CoeHead Cx Nat:=⟨Cx.n⟩
abbrev cx(n:Nat):Cx:=⟨n,[],none⟩
abbrev FW(n:Cx):Fence:={Fence.wide with round:=n.ro}
structure Ag(n:Cx)(a:Act)(E:Env):Prop where
 defers:a.defers=n.ds
 size:a.tmps.size=n.n
 get:∀t v,E.get? t=some v->a.tmps[t]? =some v
def Ag.val{n:Cx}{a:Act}{E:Env}(e:Ag n a E){x:Operand}{v:V}(d:E.val x=some v):a.eval x=v:=by
 cases x with
 |tmp t=>have:=e.get t v d;simp[Act.eval,this]
 |const u=>simpa[Env.val,Act.eval]using d
 |global g=>simpa[Env.val,Act.eval]using d
 |func f=>simpa[Env.val,Act.eval]using d
def Ag.ev{n:Cx}{a:Act}{E:Env}(e:Ag n a E){x:Operand}(h:(E.val x).isSome=true):a.eval x=E.ev x:=by obtain⟨v,d⟩:=Option.isSome_iff_exists.1 h;rw[e.val d,Env.ev,d];rfl
def Ag.put{n:Cx}{a:Act}{E:Env}(e:Ag n a E){d:Option Nat}(v:V)(hd:∀t,d=some t->t<n.n):Ag n (a.put d v) (E.put d v):=by
 cases d with
 |none=>exact e
 |some t=>
  refine⟨e.defers,by simp[Act.put,e.size],?_⟩;intro s u h;have k:t<a.tmps.size:=by rw[e.size];grind
  simp only[Env.put,Env.get?]at h;by_cases j:t=s
  .subst j;simp at h;simp[Act.put,k,h]
  .have:bH t s=false:=by rw[<-ij,eA];exact j
   simp only[this,cond_false]at h;simpa[Act.put,Array.getElem?_setIfInBounds_ne j]using e.get s u h
def Ag.nil{n:Cx}{a:Act}{E:Env}(d:Ag n a E):Ag n a []:=⟨d.defers,d.size,λ_ _ d=>by simp[Env.get?]at d⟩
def Ag.cons{n:Cx}{a:Act}{E F:Env}(e:Ag n a E){t:Nat}{v:V}(k:E.get? t=some v)(j:Ag n a F):Ag n a ((t,v)::F):=by
 refine⟨e.defers,e.size,?_⟩;intro s u d;simp only[Env.get?]at d;by_cases h:t=s
 .subst h;simp at d;subst d;exact e.get _ _ k
 .have:bH t s=false:=by rw[<-ij,eA];exact h
  simp only[this,cond_false]at d;exact j.get s u d
def Ag.execOp{n:Cx}{a:Act}{E:Env}(e:Ag n a E){o:Oper}(j:∀d b,o.op≠.select d b)(h:E.e0 o=true):execOp a.eval o=execOp E.ev o:=
 execOp_congr o j λk q=>e.ev (by have:=cY.1 h k (by grind);omega)
structure Sl where
 a:Option Addr
 n:Nat
 c:Nat
abbrev Sl.v(s:Sl):V:=.slice s.a s.n s.c
abbrev aB:=cR->J->Prop
structure Fv where
 n:Nat
 bs:Array V
 cs:Array V
abbrev Fv.v(f:Fv):V:=.func (.func f.n) f.bs f.cs
def wB(z:V)(K:V->Prop):Prop:=
 match z with
 |.int d _=>∃n:Int,K (.int d n)
 |.bool _=>∃b:Bool,K (.bool b)
 |.string _=>∃s:ByteArray,K (.string s)
 |.slice _ _ _=>∃s:Sl,K s.v
 |.pointer _=>∃a:Option Addr,K (.pointer a)
 |.map _=>∃r:Option Nat,K (.map r)
 |_=>∃v:V,K v
def y4:List V->(List V->Prop)->Prop
 |[],d=>d []
 |h::j,d=>wB h λv=>y4 j λe=>d (v::e)
def y5(z:V)(K:V->Prop):Prop:=
 match z with
 |.agg d=>y4 d.toList λe=>K (.agg e.toArray)
 |z=>wB z K
def Dw:List V->(List V->Prop)->Prop
 |[],d=>d []
 |h::j,d=>y5 h λv=>Dw j λe=>d (v::e)
def n5(z:V)(K:V->Prop):Prop:=
 match z with
 |.tuple e=>Dw e.toList λd=>K (.tuple d.toArray)
 |z=>y5 z K
def Ds{z:V}{K:V->Prop}(d:wB z K):∃v,K v:=by
 unfold wB at d
 grind
def Dt:∀{h:List V} {K:List V->Prop},y4 h K->∃e,e.length=h.length/\K e
 |[],_,d=>⟨[],rfl,d⟩
 |_::_,_,d=>by
  obtain⟨v,d⟩:=Ds d;obtain⟨e,j,d⟩:=Dt d
  grind
def Kd{z:V}{K:V->Prop}(d:y5 z K):∃v,K v:=by
 unfold y5 at d;split at d
 .obtain ⟨e,_,d⟩:=Dt d;grind
 .exact Ds d
def Ke:∀{h:List V} {K:List V->Prop},Dw h K->∃e,K e
 |[],_,d=>⟨[],d⟩
 |_::_,_,d=>by
  obtain⟨v,d⟩:=Kd d;obtain⟨e,d⟩:=Ke d
  grind
def qf{z:V}{K:V->Prop}(d:n5 z K):∃v,K v:=by
 unfold n5 at d;split at d
 .obtain ⟨e,d⟩:=Ke d;grind
 .exact Kd d
def cL(b:Bool)(p:Prop):Prop:=match b with |true=>p|false=>False
def dC{b:Bool}{p:Prop}(d:cL b p):b=true/\p:=by
 cases b
 .exact d.elim
 .exact ⟨rfl,d⟩
def bB(t:Bool)(A d:Prop):Prop:=match t with |true=>A|false=>d
def bq{t:Bool}{A d:Prop}(e:t=true->A)(h:t=false->d):bB t A d:=by
 cases t
 .exact h rfl
 .exact e rfl
def aU{t:Bool}{A d:Prop}(h:t=true)(e:A):bB t A d:=by subst h;exact e
def aW{t:Bool}{A d:Prop}(h:t=false)(e:d):bB t A d:=by subst h;exact e
def dv(q:Option Addr)(K:Addr->Prop):Prop:=match q with |some p=>K p|none=>False
def Pl{q:Option Addr}{K:Addr->Prop}(d:dv q K):∃p,q=some p/\K p:=by
 cases q with
 |none=>exact d.elim
 |some p=>exact⟨p,rfl,d⟩
def te:List Prop->Prop->Prop
 |[],p=>p
 |d::l,p=>d/\te l p
def tf:∀{l:List Prop} {p:Prop},te l p->(∀h∈l,h)/\p
 |[],_,d=>⟨λ_ d=>(by cases d),d⟩
 |_::_,_,d=>⟨λh e=>by
   rcases aF.1 e with rfl|e
   .exact d.1
   .exact (tf d.2).1 h e,(tf d.2).2⟩
def r'{α:Type}(P:au):Sem α->Option α
 |.pure a=>some a
 |.program d=>r' P (d P)
 |_=>none
def P6{α:Type}{P:au}:∀{s:Sem α} {a:α},r' P s=some a->∀e,s.run P e=.ok a e
 |.pure _,_,d,e=>by simp[r']at d;subst d;rfl
 |.program h,_,d,e=>by simp only[r']at d;exact P6 d e
 |.load ..,_,d,_|.store ..,_,d,_|.new ..,_,d,_|.shape ..,_,d,_|.freeze ..,_,d,_|.frozen ..,_,d,_|.getObj ..,_,d,_|.setObj ..,_,d,_
 |.choose ..,_,d,_|.sys ..,_,d,_|.mark ..,_,d,_|.halt ..,_,d,_=>by simp[r']at d
def zeroOf(P:au)(t:aE):V:=((P.info? t).bind (·.zero)).getD undef
def calm(P:au)(o:Oper):Bool:=
 match o.op with
 |.convert s d _=>match P.underlying s,P.underlying d with
  |some (.slice _),some (.slice _)=>false
  |some .string,some (.slice _)=>false
  |_,_=>true
 |.move _|.assign _|.pick ..|.build ..|.load ..|.nilCheck _|.binOp ..|.unOp ..|.makeInterface ..|.makeFunc ..|.slice ..|.fieldAddr ..|.field ..|.indexAddr ..|.index ..
 |.lookup ..|.typeAssert ..|.extract ..=>true
 |.call {callee:=.builtin b,..}=>match b with |.len|.cap|.min|.max=>true|_=>false
 |_=>false
def nT(x:Option V)(y d:Nat)(K:Nat->Prop):Prop:=
 match x with
 |none=>K d
 |some (.int _ i)=>0<=i/\i<=(y:Int)/\K i.toNat
 |_=>False
def q3(P:au)(T:aE):Option Bool:=
 match P.underlying T with
 |some (.struct _)|some (.array _ _)=>some true
 |some _=>some false
 |none=>none
def yz(P:au)(T:aE):Bool:=
 match zeroOf P T with
 |.agg d=>q3 P T==some true&&(match P.info? T with |some i=>i.size==d.size|none=>false)
 |_=>q3 P T==some false
def n9(P:au)(T:aE)(p:Addr)(w:J)(K:V->List (J->Prop)->Prop):Prop:=
 cL (yz P T)<|match zeroOf P T with
 |.agg h=>y4 h.toList λe=>te (e.zipIdx.map λ(v,i)=>w.cell? (p.add i)=some v) (K (.agg e.toArray) (e.zipIdx.map λ(v,i)=>λd=>d.cell? (p.add i)=some v))
 |.nilFunc=>∃f:Fv,w.cell? p=some f.v/\K f.v [λd=>d.cell? p=some f.v]
 |.nilIface=>(∃(t:aE) (x:V),w.cell? p=some (.iface t x)/\K (.iface t x) [λd=>d.cell? p=some (.iface t x)])\/(w.cell? p=some .nilIface/\K .nilIface [λd=>d.cell? p=some .nilIface])
 |j=>wB j λv=>w.cell? p=some v/\K v [λd=>d.cell? p=some v]
def g4(P:au)(o:Oper)(E:Env)(K:V->List (J->Prop)->Prop):Prop:=
 cL (E.e0 o) (match r' P (execOp E.ev o)with |some (.value v)=>K v []|_=>False)
def Dx(z:V)(K:V->Prop):Prop:=
 match z with
 |.nilFunc=>∃f:Fv,K f.v
 |z=>n5 z K
def Wr{z:V}{K:V->Prop}(d:Dx z K):∃v,K v:=by
 unfold Dx at d;split at d
 .grind
 .exact qf d
def qA(P:au)(s:Sem V)(z:V)(w:J)(K:V->List (J->Prop)->Prop):Prop:=
 Dx z λv=>s.run P w=.ok v w/\K v [λd=>s.run P d=.ok v d]
def yX(P:au)(T:aE):Option Nat:=
 match P.underlying T with
 |some (.slice d)=>(P.info? d).map (·.size)
 |_=>none
def Cb(P:au)(T:aE):Option (Nat×Nat):=
 match P.underlying T with
 |some (.array n d)=>(P.info? d).map λi=>(n,i.size)
 |_=>none
def Ub{P:au}{T:aE}{n sz:Nat}(e:Cb P T=some (n,sz)):∃d inf,P.underlying T=some (.array n d)/\P.info? d=some inf/\sz=inf.size:=by
 unfold Cb at e;split at e
 .rename_i m d k;obtain⟨inf,j,h⟩:=Option.map_eq_some_iff.1 e
  grind
 grind
def isConst:Operand->Bool
 |.const _=>true
 |_=>false
def pg(P:au)(T:aE)(c:V):Bool:=
 match P.underlying T,c with
 |some (.slice _),.slice none _ _=>true
 |some (.pointer _),.pointer none=>true
 |some (.map _ _),.map none=>true
 |_,_=>false
def oe:Option V->V->Option Bool
 |some (.slice a _ _),.slice none _ _=>some a.isNone
 |some (.pointer a),.pointer none=>some a.isNone
 |some (.map r),.map none=>some r.isNone
 |_,_=>none
def rE(P:au)(xs d:Array V):List Field->Option Bool
 |[]=>some true
 |f::e=>bif f.name=="_" then none else match P.underlying f.type,xs[f.offset]?,d[f.offset]?,rE P xs d e with
  |some (.int _),some (.int h a),some (.int j b),some r=>bif ai (h=j)then some ((a==b)&&r)else none
  |some .string,some (.string a),some (.string b),some r=>some ((a.toList==b.toList)&&r)
  |some .bool,some (.bool a),some (.bool b),some r=>some ((a==b)&&r)
  |_,_,_,_=>none
def tQ(P:au)(xs d:Array V):List Field->Option Bool
 |[]=>some true
 |f::h=>match P.underlying f.type with
  |some (.struct j)=>bif f.name=="_"||P.stoodInHeld f.type then none else match P.info? f.type,tQ P xs d h with
   |some i,some r=>match rE P (xs.extract f.offset (f.offset+i.size)) (d.extract f.offset (f.offset+i.size)) j.toList with
    |some e=>some (e&&r)
    |none=>none
   |_,_=>none
  |_=>match rE P xs d [f],tQ P xs d h with
   |some e,some r=>some (e&&r)
   |_,_=>none
def B6(P:au)(T:aE)(xs e:Array V):Option Bool:=match P.underlying T with
 |some (.struct d)=>bif (!P.stoodInHeld T&&!P.eqGuardType P.depth T)then(match rE P xs e d.toList with
  |some b=>some b
  |none=>tQ P xs e d.toList)else none
 |_=>none
def tS(P:au)(o:Oper)(E:Env)(T:aE)(x y:Operand)(neg:Bool)(K:V->List (J->Prop)->Prop):Prop:=match E.val x,E.val y with
 |some (.agg d),some (.agg e)=>match B6 P T d e with
  |some b=>K (.bool (bif neg then !b else b)) []
  |none=>False
 |_,_=>g4 P o E K
def FE(P:au)(e:aE):Bool:=match P.underlying e,P.info? e with
 |some .string,some i=>i.size==1
 |_,_=>false
def Pd(P:au)(e:aE):Bool:=match P.underlying e,P.info? e with
 |some (.int _),some i=>i.size==1
 |_,_=>false
def yR(P:au)(o:Oper)(E:Env)(w:J)(K:V->List (J->Prop)->Prop):Prop:=
 match o.op with
 |.load e d=>match E.val d with
  |some (.pointer (some p))=>n9 P e p w K
  |_=>False
 |.nilCheck d=>match E.val d with
  |some (.pointer D)=>dv D λp=>K (.pointer (some p)) []
  |_=>g4 P o E K
 |.indexAddr e d x=>match E.val d,E.val x with
  |some (.slice a n _),some (.int _ i)=>match yX P e with
   |some z=>0<=i/\i<(n:Int)/\dv a λp=>K (.pointer (some (p.add (i.toNat *z)))) []
   |none=>False
  |some (.pointer (some p)),some (.int _ i)=>match Cb P e with
   |some (n,z)=>0<=i/\i<(n:Int)/\K (.pointer (some (p.add (i.toNat *z)))) []
   |none=>False
  |_,_=>g4 P o E K
 |.index e d x=>match P.underlying e,E.val d,E.val x with
  |some .string,some (.string s),some (.int _ i)=>0<=i/\∃b:UInt8,s[i.toNat]? =some b/\K (.int .u8 b.toNat) []
  |some (.array n B),some (.agg F),some (.int _ i)=>bif FE P B then 0<=i/\i<(n:Int)/\∃a:ByteArray,F[i.toNat]? =some (.string a)/\K (.string a) []else cL (Pd P B) (0<=i/\i<(n:Int)/\∃a:Int,F[i.toNat]? =some (.int .i64 a)/\K (.int .i64 a) [])
  |_,_,_=>g4 P o E K
 |.slice e d lo q y=>cL (E.e0 o) (match P.underlying e,E.val d with
  |some (.slice _),some (.slice a n c)=>match yX P e with
   |some z=>nT (y.map E.ev) c c λm=>nT (q.map E.ev) m n λk=>cL (y.isNone||q.isSome) (nT (lo.map E.ev) k 0 λl=>
     K (.slice (if m=l then a else a.map (·.add (l *z))) (k - l) (m - l)) [])
   |none=>False
  |some .string,some (.string s)=>cL y.isNone (nT (q.map E.ev) s.size s.size λk=>nT (lo.map E.ev) k 0 λl=>K (.string (s.extract l k)) [])
  |some (.array n B),some (.pointer (some p))=>match P.info? B with
   |some inf=>nT (y.map E.ev) n n λm=>nT (q.map E.ev) m n λk=>cL (y.isNone||q.isSome) (nT (lo.map E.ev) k 0 λl=>
     K (.slice (some (if m=l then p else p.add (l *inf.size))) (k - l) (m - l)) [])
   |none=>False
  |_,_=>False)
 |.binOp .quo _ d h _=>bif isConst h then g4 P o E K else match E.val d,E.val h with
  |some (.int j a),some (.int C b)=>cL (j==C) (b≠0/\K (.int j (j.wrap (a.tdiv b))) [])
  |_,_=>False
 |.binOp .rem _ d h _=>bif isConst h then g4 P o E K else match E.val d,E.val h with
  |some (.int j a),some (.int C b)=>cL (j==C) (b≠0/\K (.int j (a.tmod b)) [])
  |_,_=>False
 |.binOp .eql e d (.const c) _=>bif pg P e c then(match oe (E.val d) c with
  |some b=>K (.bool b) []
  |none=>False)else tS P o E e d (.const c) false K
 |.binOp .neq e d (.const c) _=>bif pg P e c then(match oe (E.val d) c with
  |some b=>K (.bool !b) []
  |none=>False)else tS P o E e d (.const c) true K
 |.binOp .eql e d h _=>tS P o E e d h false K
 |.binOp .neq e d h _=>match P.underlying e,E.val d,E.val h with
  |some (.pointer _),some (.pointer p),some (.pointer D)=>qA P (binOp .neq e (.pointer p) (.pointer D)) (.bool true) w K
  |_,_,_=>tS P o E e d h true K
 |.binOp .add _ d h _=>match E.val d,E.val h with
  |some (.string s),some (.string t)=>¬(((s.size+t.size:Nat):Int)>IntKind.i64.max)/\K (.string (s++t)) []
  |_,_=>g4 P o E K
 |.binOp .shl _ d h _=>bif isConst h then g4 P o E K else match E.val d,E.val h with
  |some (.int j a),some (.int _ b)=>¬b<0/\K (.int j (j.wrap (a *2^(min b.toNat j.bits)))) []
  |_,_=>False
 |.binOp .shr _ d h _=>bif isConst h then g4 P o E K else match E.val d,E.val h with
  |some (.int j a),some (.int _ b)=>¬b<0/\K (.int j (a.fdiv (2^(min b.toNat j.bits)))) []
  |_,_=>False
 |.lookup e d x ok=>match E.val d,E.val x with
  |some m,some j=>qA P (Instr.lookup e m j ok) (zeroOf P o.type) w K
  |_,_=>False
 |.convert s A d=>match P.underlying s,P.underlying A,E.val d with
  |some (.slice _),some .string,some v=>qA P (convert s A v) (.string (a8 #[])) w K
  |some (.pointer _),some .unsafePointer,some v=>qA P (convert s A v) (.pointer none) w K
  |some .unsafePointer,some (.pointer _),some v=>qA P (convert s A v) (.pointer none) w K
  |_,_,_=>g4 P o E K
 |.call {callee:=.builtin .len,args,argTypes}=>match args.toList,argTypes.toList with
  |[d],[e]=>match P.underlying e,E.val d with
   |some (.map _ _),some m=>qA P (Builtin.len_ #[e] o.type #[m]) (.int .i64 0) w K
   |_,_=>g4 P o E K
  |_,_=>g4 P o E K
 |_=>g4 P o E K
def zd(op:BinOp)(T:aE)(x y:Operand)(a b:V):Sem V:=do eqGuard op T x y a b;binOp op T a b
def DY(P:au)(o:Oper):Bool:=match o.op with
 |.binOp .eql d _ _ _|.binOp .neq d _ _ _=>match P.underlying d with
  |some (.interface _)=>true
  |_=>false
 |_=>false
def KO(P:au)(o:Oper)(E:Env)(w:J)(K:V->List (J->Prop)->Prop):Prop:=match o.op with
 |.binOp op h d e _=>match E.val d,E.val e with
  |some a,some b=>qA P (zd op h d e a b) (.bool true) w K
  |_,_=>False
 |_=>False
def nU(P:au)(o:Oper)(E:Env)(w:J)(K:V->List (J->Prop)->Prop):Prop:=bif DY P o then KO P o E w K else yR P o E w K
def sA(p:Addr):List V->Nat->J->(J->Prop)->Prop
 |[],_,d,e=>e d
 |v::h,i,d,e=>(d.cell? (p.add i)).isSome=true/\d.frozen? (p.add i)=false/\sA p h (i+1) (d.setCell (p.add i) v) e
def tT(P:au)(o:Oper)(E:Env)(w:J)(K:V->J->Prop):Prop:=
 cL (E.e0 o) (match(execOp E.ev o).run P w with
  |.ok (.value v) d=>K v d
  |.ok .skip d=>K undef d
  |_=>False)
def rv(P:au)(s:Sem V)(z:V)(w:J)(K:V->J->Prop):Prop:=
 n5 z λv=>∃d,s.run P w=.ok v d/\K v d
def Jw(P:au)(s:Sem Unit)(w:J)(K:V->J->Prop):Prop:=
 ∃d,s.run P w=.ok () d/\K undef d
def hg(P:au)(f:bX):Bool:=match P.funcs[f]? with |some fn=>fn.body.isSome&&!(fn.name=="runtime.NumGoroutine")|none=>false
def y6(P:au)(f:bX)(args:Array V)(z:V)(w:J)(K:V->J->Prop):Prop:=
 n5 z λv=>∃d,(callFunc f args).run P w=.ok (.value v) d/\K v d
def rh(P:au)(f:bX)(args:Array V)(z:V)(w:J)(K:V->J->Prop):Prop:=
 aj P f args w λd e=>n5 z λv=>d=ad v/\K v e
def uE:V->Bool
 |.agg _=>false
 |.tuple _=>false
 |_=>true
def hM(P:au)(o:Oper)(E:Env)(w:J)(K:V->J->Prop):Prop:=
 match o.op with
 |.store d x y=>match E.val x,E.val y with
  |some (.pointer (some p)),some v=>cL (v.cells.size==(match P.info? d with |some i=>i.size|none=>0)&&v.cells.toList.all uE&&(P.info? d).isSome) (sA p v.cells.toList 0 w λw'=>K undef w')
  |_,_=>False
 |.mapUpdate d m e v|.insert d m e v=>match E.val m,E.val e,E.val v with
  |some m,some e,some v=>Jw P (Instr.mapUpdate d m e v) w K
  |_,_,_=>False
 |.call {callee:=.builtin b,args,argTypes}=>cL (E.e0 o) (match b with
  |.append=>rv P (hX argTypes o.type (args.map E.ev)) (.slice none 0 0) w K
  |.copy=>rv P (Builtin.copy_ argTypes o.type (args.map E.ev)) (.int .i64 0) w K
  |.unsafeSliceData=>rv P (Builtin.unsafeSliceData_ argTypes o.type (args.map E.ev)) (.pointer none) w K
  |.unsafeString=>rv P (Builtin.unsafeString_ argTypes o.type (args.map E.ev)) (.string (a8 #[])) w K
  |.delete=>∃w',(Builtin.delete_ argTypes o.type (args.map E.ev)).run P w=.ok undef w'/\K undef w'
  |.clear=>∃w',(Builtin.clear_ argTypes o.type (args.map E.ev)).run P w=.ok (.tuple #[]) w'/\K (.tuple #[]) w'
  |_=>False)
 |.call {callee:=.value (.func f),args,..}=>cL (E.e0 o) (bif hg P f then rh P f (args.map E.ev) (zeroOf P o.type) w K else y6 P f (args.map E.ev) (zeroOf P o.type) w K)
 |.call {callee:=.value (.tmp t),args,..}=>cL (E.e0 o) (match E.get? t with
  |some (.func (.func f) first captured)=>cL (hg P f) (rh P f (first++args.map E.ev++captured) (zeroOf P o.type) w K)
  |_=>False)
 |.makeSlice d l c=>match E.val l,E.val c with
  |some l,some c=>rv P (Instr.makeSlice d l c) (.slice none 0 0) w K
  |_,_=>False
 |.range d x=>match E.val x with
  |some x=>∃v w',(Instr.range d x).run P w=.ok v w'/\K v w'
  |_=>False
 |.next it s=>match E.val it with
  |some it=>(∃w',(Instr.next it s o.type).run P w=.ok (.tuple #[.bool false]) w'/\K (.tuple #[.bool false]) w')\/
    (match s with
     |true=>∃(i c:Int) (w':J),(Instr.next it s o.type).run P w=.ok (.tuple #[.bool true,.int .i64 i,.int .i32 c]) w'/\K (.tuple #[.bool true,.int .i64 i,.int .i32 c]) w'
     |false=>∃(x y:V) (w':J),(Instr.next it s o.type).run P w=.ok (.tuple #[.bool true,x,y]) w'/\K (.tuple #[.bool true,x,y]) w')
  |_=>False
 |.entry it=>match E.val it with
  |some it=>∃(x y:V) (w':J),(Instr.entry it).run P w=.ok (.tuple #[x,y]) w'/\K (.tuple #[x,y]) w'
  |_=>False
 |.convert s h x=>match E.val x with
  |some v=>rv P (convert s h v) (.slice none 0 0) w K
  |_=>False
 |_=>tT P o E w K
def adi(P:au)(l:Nat)(args:Array V)(w:J)(K:V->J->Prop):Prop:=
 YieldAt Fence.wide 0 P l args w λd e=>∃b:Bool,d=ad (.bool b)/\K (.bool b) e
def tJ(P:au)(o:Oper)(E:Env)(w:J)(K:V->J->Prop):Prop:=
 match o.op with
 |.call {callee:=.value (.tmp t),args,..}=>match E.get? t with
  |some (.func (.yield l) e d)=>cL (E.e0 o&&(bH e.size 0&&bH d.size 0)) (adi P l (args.map E.ev) w K)
  |_=>hM P o E w K
 |_=>hM P o E w K
abbrev aM(w:J)(p:Addr)(v:V)(K:J->Prop):Prop:=(w.cell? p).isSome=true/\w.frozen? p=false/\K (w.setCell p v)
abbrev c9(w:J)(o:Obj)(K:J->Prop):Prop:=K (w.alloc o)
abbrev hv(w:J)(l:Nat)(a b:Obj)(K:J->Prop):Prop:=w.heap[l]? =some a/\K (w.putObj l b)
abbrev tI(w:J)(K:J->Prop):Prop:=K w.drew
def K0{P:au}{T:aE}{b:Bool}(d:q3 P T=some b)(w:J):(isAgg T).run P w=.ok b w:=by
 unfold q3 at d;unfold isAgg;cases e:P.underlying T with
 |none=>grind
 |some h=>rw[e]at d;cases h<;>simp[run_underlying e]at d ⊢<;>first |exact d|simp[<-d]
def xD{P:au}{T:aE}{p:Addr}{v:V}{w:J}(d:q3 P T=some false)(e:w.cell? p=some v):(loadVar T p).run P w=.ok v w:=by simp[loadVar,K0 d,e]
def Rk{P:au}{T:aE}{p:Addr}{vs:List V}{i:TypeInfo}{w:J}(e:q3 P T=some true)(hi:P.info? T=some i)(j:i.size=vs.length)(h:∀d v,vs[d]? =some v->w.cell? (p.add d)=some v):(loadVar T p).run P w=.ok (.agg vs.toArray) w:=by have:=run_loadCells_list (P:=P) w p vs h;simp[loadVar,K0 e,sizeOf,typeInfo,hi,j,this]
def Calm(P:au)(o:Oper)(ρ:Operand->V)(w:J)(v:V)(h:List (J->Prop)):Prop:=
 (∀d∈h,d w)/\∀e,(∀d∈h,d e)->(execOp ρ o).run P e=.ok (.value v) e
def P7{P:au}{o:Oper}{E:Env}{w:J}{n:Cx}{a:Act}{K:V->List (J->Prop)->Prop}(x:∀h b,o.op≠.select h b)(k:Ag n a E)(d:g4 P o E K):∃v e,K v e/\Calm P o a.eval w v e:=by
 obtain⟨q,d⟩:=dC d;split at d
 .rename_i v y;refine⟨v,[],d,λe j=>(by cases j),λz _=>?_⟩;rw[k.execOp x q];exact P6 y z
 grind
def sa{P:au}{s:Sem V}{z:V}{w:J}{K:V->List (J->Prop)->Prop}{o:Oper}{ρ:Operand->V}(k:execOp ρ o=(do pure (.value (<-s))))(h:qA P s z w K):∃v d,K v d/\Calm P o ρ w v d:=by
 obtain⟨v,A,j⟩:=Wr h;refine⟨v,_,j,λd y=>?_,λe x=>?_⟩
 .grind
 .have q:s.run P e=.ok v e:=x _ (b'.2 rfl);rw[k];simp[q]
def pY{P:au}{x:Option V}{y d:Nat}{K:Nat->Prop}(e:nT x y d K):∃l,K l/\((x=none/\l=d)\/∃v,x=some v/\∀code h,(Instr.sliceBound v y code).run P h=.ok l h):=by
 unfold nT at e;split at e
 .grind
 .rename_i w i;obtain⟨j,k,q⟩:=e;refine⟨_,q,.inr ⟨_,rfl,λcode h=>?_⟩⟩;simp[Instr.sliceBound,asIntOf,j,k]
 grind
def GD{P:au}{k:Bool}{n c m d l:Nat}{L H M:Option V}{w:J}(j:(M=none/\m=c)\/∃v,M=some v/\∀code w,(Instr.sliceBound v c code).run P w=.ok m w)(e:(H=none/\d=n)\/∃v,H=some v/\∀code w,(Instr.sliceBound v m code).run P w=.ok d w)(h:(L=none/\l=0)\/∃v,L=some v/\∀code w,(Instr.sliceBound v d code).run P w=.ok l w)(q:M≠none->H=none->False):(Instr.sliceBounds k n c L H M).run P w=.ok (l,d,m) w:=by unfold Instr.sliceBounds;rcases j with⟨rfl,rfl⟩|⟨A,rfl,x⟩<;>rcases e with⟨rfl,rfl⟩|⟨B,rfl,y⟩<;>rcases h with⟨rfl,rfl⟩|⟨C,rfl,z⟩<;>first |(simp[*];done)|grind
def Ek{P:au}{T:aE}{p:Addr}{w:J}{K:V->List (J->Prop)->Prop}(e:n9 P T p w K):
  ∃v z,K v z/\(∀s∈z,s w)/\∀k,(∀s∈z,s k)->(loadVar T p).run P k=.ok v k:=by
 obtain⟨d,e⟩:=dC e;unfold yz at d;cases y:zeroOf P T with
 |agg G=>
  rw[y]at e d;simp only at e d;obtain⟨I,H,e⟩:=Dt e;obtain⟨x,h⟩:=tf e;rw[be]at d;obtain⟨B,C⟩:=d;cases D:P.info? T with
  |none=>grind
  |some i=>
   rw[D]at C;simp at C B;refine⟨_,_,h,?_,λk j=>?_⟩
   .intro s q;obtain⟨⟨v,A⟩,F,rfl⟩:=dN.1 q;exact x _ (dN.2 ⟨(v,A),F,rfl⟩)
   .refine Rk B D (by grind) (λA v E=>?_);have:=j _ (dN.2 ⟨(v,A),List.mem_zipIdx_iff_getElem?.2 E,rfl⟩);omega
 |nilIface=>
  rw[y]at e d;simp at d;rcases e with⟨t,L,x,h⟩|⟨x,h⟩
  .refine ⟨_,_,h,λs q=>?_,λk j=>?_⟩
   .grind
   .exact xD d (j _ (b'.2 rfl))
  .refine ⟨_,_,h,λs q=>?_,λk j=>?_⟩
   .grind
   .exact xD d (j _ (b'.2 rfl))
 |nilFunc=>
  rw[y]at e d;obtain⟨f,x,h⟩:=e;simp at d;refine⟨f.v,_,h,λs q=>?_,λk j=>?_⟩
  .grind
  .exact xD d (j _ (b'.2 rfl))
 |_=>
  rw[y]at e d;try simp only at e
  try simp only at d
  obtain⟨v,x,h⟩:=Ds e;simp at d;refine⟨v,_,h,λs q=>?_,λk j=>?_⟩
  .simp at q;subst q;exact x
  .exact xD d (j _ (b'.2 rfl))
def JB{P:au}{T:aE}{sz:Nat}(e:yX P T=some sz):∃d i,P.underlying T=some (.slice d)/\P.info? d=some i/\i.size=sz:=by
 unfold yX at e;split at e
 .rename_i d h;cases j:P.info? d with
  |none=>grind
  |some i=>grind
 grind
def zZ{v c:V}{b:Bool}(d:oe (some v) c=some b):(∃a n m h e,v=.slice a n m/\c=.slice none h e/\b=a.isNone)\/(∃a,v=.pointer a/\c=.pointer none/\b=a.isNone)\/(∃r,v=.map r/\c=.map none/\b=r.isNone):=by
 unfold oe at d
 grind
def OT{P:au}{T:aE}{c v:V}{b:Bool}(d:pg P T c=true)(j:oe (some v) c=some b)(w:J):(Op.equal T v c).run P w=.ok b w:=by
 unfold Op.equal Op.maxDepth Op.equalIn;cases e:P.underlying T with
 |none=>simp[pg,e]at d
 |some h=>
  simp only[Sem.run_bind,run_underlying e,Result.andThen_ok];unfold pg at d;rw[e]at d;rcases zZ j with⟨a,n,m,q,k,rfl,rfl,rfl⟩|⟨a,rfl,rfl,rfl⟩|⟨a,rfl,rfl,rfl⟩<;>cases h<;>first |(cases d;done)|(cases a<;>rfl)
def Ze{P:au}{T:aE}{c v:V}{b:Bool}(e:pg P T c=true)(d:oe (some v) c=some b)(w:J):(binOp .eql T v c).run P w=.ok (.bool b) w:=by have:=OT e d w;rcases zZ d with⟨a,n,m,j,h,rfl,rfl,rfl⟩|⟨a,rfl,rfl,rfl⟩|⟨a,rfl,rfl,rfl⟩<;>simp[binOp,this]
def Zf{P:au}{T:aE}{c v:V}{b:Bool}(e:pg P T c=true)(d:oe (some v) c=some b)(w:J):(binOp .neq T v c).run P w=.ok (.bool !b) w:=by have:=OT e d w;rcases zZ d with⟨a,n,m,j,h,rfl,rfl,rfl⟩|⟨a,rfl,rfl,rfl⟩|⟨a,rfl,rfl,rfl⟩<;>simp[binOp,this]
def OU{P:au}{op:BinOp}{T:aE}{c v:V}{b:Bool}{p q:Operand}(d:oe (some v) c=some b)(w:J):(eqGuard op T p q v c).run P w=.ok () w:=by rcases zZ d with⟨a,n,m,h,e,rfl,rfl,rfl⟩|⟨a,rfl,rfl,rfl⟩|⟨a,rfl,rfl,rfl⟩<;>cases op<;>rfl
set_option maxHeartbeats 1000000 in
def u2{P:au}{t:aE}{u:TypeDesc}(d:P.underlying t=some u)(e:(match u with |.struct _|.array _ _=>true|_=>false)=false){xs:Array V}{off:Nat}{v:V}(h:xs[off]? =some v)(w:J):(part t xs off).run P w=.ok v w:=by unfold part isAgg;cases u<;>first |(simp at e;done)|simp[run_underlying d,h]
def tR{P:au}{xs D:Array V}(d:Nat)(w:J):∀(k:List Field) (b:Bool),rE P xs D k=some b->(Op.eqFields (d+1) xs D k).run P w=.ok b w
 |[],b,e=>by simp[rE]at e;subst e;rfl
 |f::k,b,e=>by
  unfold rE at e;cases F:(f.name=="_")with
  |true=>grind
  |false=>
   rw[F]at e;simp only[cond_false]at e;have G:f.name≠"_":=by grind
   unfold Op.eqFields;rw[af G];split at e
   .rename_i I C a H j r h x y q;cases B:ai (C=H)with
    |false=>grind
    |true=>
     rw[B]at e;have E:=eQ B;subst E;simp only[cond_true,fo]at e;subst e;have z:=tR d w k r q;simp only[Sem.run_bind,u2 h rfl x w,u2 h rfl y w,Result.andThen_ok,run_equalIn_int w d f.type C I a j h];cases A:(a==j)<;>simp[z]
   .rename_i a j r h x y q;simp only[fo]at e;subst e;have z:=tR d w k r q;simp only[Sem.run_bind,u2 h rfl x w,u2 h rfl y w,Result.andThen_ok,run_equalIn_string w d f.type a j h];cases A:(a.toList==j.toList)<;>simp[z]
   .rename_i a j r h x y q;simp only[fo]at e;subst e;have z:=tR d w k r q;simp only[Sem.run_bind,u2 h rfl x w,u2 h rfl y w,Result.andThen_ok,run_equalIn_bool w d f.type a j h];cases A:(a==j)<;>simp[z]
   grind
def aa8{P:au}{t:aE}{d:Array Field}{i:TypeInfo}(e:P.underlying t=some (.struct d))(hi:P.info? t=some i)(xs:Array V)(off:Nat)(w:J):(part t xs off).run P w=.ok (.agg (xs.extract off (off+i.size))) w:=by unfold part isAgg;simp[run_underlying e,sizeOf,typeInfo,hi]
def J8{P:au}{xs h:Array V}{d:Nat}{w:J}{f:Field}{k:List Field}{q r:Bool}(e:(Op.eqFields d xs h [f]).run P w=.ok q w)(x:(Op.eqFields d xs h k).run P w=.ok r w):(Op.eqFields d xs h (f::k)).run P w=.ok (q&&r) w:=by
 unfold Op.eqFields at e ⊢;by_cases y:f.name≠"_"
 .rw [af y]at e ⊢;simp only[Sem.run_bind]at e ⊢;generalize(part f.type xs f.offset).run P w=C at e ⊢;cases C with
  |halt B z=>cases e
  |ok a z=>
   simp only[Result.andThen_ok]at e ⊢;generalize(part f.type h f.offset).run P z=D at e ⊢;cases D with
   |halt B A=>cases e
   |ok b A=>
    simp only[Result.andThen_ok]at e ⊢;generalize(Op.equalIn d f.type a b).run P A=E at e ⊢;cases E with
    |halt B j=>cases e
    |ok c j=>
     simp only[Result.andThen_ok]at e ⊢;cases c with
     |false=>
      have e:(Result.ok false j:Result Bool)=.ok q w:=e;cases e;rfl
     |true=>
      have e:(Result.ok true j:Result Bool)=.ok q w:=e;cases e;exact x
 .rw [aa y]at e ⊢;have e:(Result.ok true w:Result Bool)=.ok q w:=e;cases e;exact x
def Dp{P:au}{xs B:Array V}(d:Nat)(w:J):∀(h:List Field) (b:Bool),tQ P xs B h=some b->(Op.eqFields (d+2) xs B h).run P w=.ok b w
 |[],b,e=>by simp[tQ]at e;subst e;rfl
 |f::h,b,e=>by
  unfold tQ at e;split at e
  .rename_i z y;cases j:(f.name=="_"||P.stoodInHeld f.type)with
   |true=>rw[j]at e;cases e
   |false=>
    rw[j]at e;simp only[cond_false]at e;rw[Bool.or_eq_false_iff]at j;have D:f.name≠"_":=by simpa using j.1
    split at e
    .rename_i i r C x;split at e
     .rename_i k q;cases e;refine J8 ?_ (Dp d w h r x);have A:P.fieldsOf f.type=z:=by unfold Program.fieldsOf;rw[y]
      unfold Op.eqFields;rw[af D];simp only[Sem.run_bind,aa8 y C,Result.andThen_ok];rw[show d+2=(d+1)+1 from rfl,run_equalIn_struct w (d+1) f.type _ _ (by rw[A];exact y) j.2,A,tR d w z.toList k q];cases k<;>rfl
     .cases e
    .cases e
  .split at e
   .rename_i k r q x;cases e;exact J8 (tR (d+1) w [f] k q) (Dp d w h r x)
   .cases e
def T7{P:au}{T:aE}{xs h:Array V}{b:Bool}(d:B6 P T xs h=some b)(w:J):P.eqGuardType P.depth T=false/\(Op.equalIn 10000 T (.agg xs) (.agg h)).run P w=.ok b w:=by
 unfold B6 at d;split at d
 .rename_i q k;cases e:(!P.stoodInHeld T&&!P.eqGuardType P.depth T)with
  |false=>rw[e]at d;cases d
  |true=>
   rw[e]at d;simp only[cond_true]at d;rw[be]at e;have x:P.stoodInHeld T=false:=by simpa using e.1
   have y:P.eqGuardType P.depth T=false:=by simpa using e.2
   have j:P.fieldsOf T=q:=by unfold Program.fieldsOf;rw[k]
   refine⟨y,?_⟩;rw[run_equalIn_struct w 9999 T xs h (by rw[j];exact k) x,j];split at d
   .rename_i A z;cases d;exact tR 9998 w _ _ z
   .exact Dp 9997 w _ _ d
 .cases d
def y3{P:au}{o:Oper}{E:Env}{w:J}{n:Cx}{a:Act}{K:V->List (J->Prop)->Prop}{op:BinOp}{T B:aE}{x y:Operand}{neg:Bool}(L:∀C b,o.op≠.select C b)(k:Ag n a E)(I:o.op=.binOp op T x y B)(G:(op=.eql/\neg=false)\/(op=.neq/\neg=true))(d:tS P o E T x y neg K):∃v j,K v j/\Calm P o a.eval w v j:=by
 unfold tS at d;split at d
 .rename_i e h M N;split at d
  .rename_i b H;refine⟨_,_,d,λj F=>(by cases F),λq _=>?_⟩;obtain⟨z,A⟩:=T7 H q;have D:execOp a.eval o=(do pure (.value (<-(do eqGuard op T x y (.agg e) (.agg h);binOp op T (.agg e) (.agg h))))):=by simp only[execOp,I,k.val M,k.val N]
   rw[D];rcases G with⟨rfl,rfl⟩|⟨rfl,rfl⟩
   .simp only[Sem.run_bind,run_eqGuard_agg q _ T x y e h z,Result.andThen_ok,run_eql_struct,A];rfl
   .simp only[Sem.run_bind,run_eqGuard_agg q _ T x y e h z,Result.andThen_ok,run_neq_struct,A];rfl
  grind
 .exact P7 L k d
def VB{P:au}{o:Oper}{E:Env}{w:J}{n:Cx}{a:Act}{K:V->List (J->Prop)->Prop}(hs:∀cs b,o.op≠.select cs b)(j:Ag n a E)(d:yR P o E w K):∃v y,K v y/\Calm P o a.eval w v y:=by
 have pure':g4 P o E K->∃v y,K v y/\Calm P o a.eval w v y:=P7 hs j;unfold yR at d;split at d
 .
  rename_i z A h;split at d
  .rename_i p e;obtain⟨v,y,q,G,h2⟩:=Ek d;refine⟨v,y,q,G,λx az=>?_⟩;simp[execOp,h,Instr.loadAt,j.val e,Instr.sureAddr,h2 x az]
  grind
 .
  rename_i A h;split at d
  .rename_i aB e;obtain⟨p,rfl,q⟩:=Pl d;refine⟨_,_,q,λy k=>(by cases k),λx _=>?_⟩;simp[execOp,h,j.val e]
  grind
 .
  rename_i z A ix h;split at d
  .rename_i b n c N i e C;split at d
   .rename_i sz ac;obtain⟨I,G,d⟩:=d;obtain⟨p,rfl,q⟩:=Pl d;obtain⟨Q,inf,F,L,rfl⟩:=JB ac;refine⟨_,_,q,λy k=>(by cases k),λx _=>?_⟩;simp[execOp,h,j.val e,j.val C,Instr.indexAt,asIntOf,run_underlying F,I,G,sizeOf,typeInfo,L]
   grind
  .rename_i p N i e C;split at d
   .rename_i n sz ac;obtain⟨I,G,q⟩:=d;obtain⟨Q,inf,F,L,rfl⟩:=Ub ac;refine⟨_,_,q,λy k=>(by cases k),λx _=>?_⟩;simp[execOp,h,j.val e,j.val C,Instr.indexAt,Instr.sureAddr,asIntOf,run_underlying F,I,G,sizeOf,typeInfo,L]
   grind
  grind
 .
  rename_i z A ix h;split at d
  .rename_i s N i F e C;obtain⟨I,b,D,q⟩:=d;refine⟨_,_,q,λy k=>(by cases k),λx _=>?_⟩;simp[execOp,h,j.val e,j.val C,Instr.index,asIntOf,run_underlying F,I,D]
  .rename_i n Q cs N i F e C;cases hz:FE P Q with
   |true=>
    rw[hz]at d;obtain⟨I,M,b,D,q⟩:=d;unfold FE at hz;split at hz
    .rename_i inf ak L;have G:inf.size=1:=by grind
     refine⟨_,_,q,λy k=>(by cases k),λx _=>?_⟩;simp[execOp,h,j.val e,j.val C,Instr.index,asIntOf,run_underlying F,I,M,sizeOf,typeInfo,L,G,part,isAgg,run_underlying ak,D]
    grind
   |false=>
   rw[hz]at d;obtain⟨G,I,M,b,D,q⟩:=dC d;unfold Pd at G;split at G
   .rename_i B inf ak L;have G:inf.size=1:=by grind
    refine⟨_,_,q,λy k=>(by cases k),λx _=>?_⟩;simp[execOp,h,j.val e,j.val C,Instr.index,asIntOf,run_underlying F,I,M,sizeOf,typeInfo,L,G,part,isAgg,run_underlying ak,D]
   grind
  grind
 .
  rename_i z A lo C S h;obtain⟨ar,d⟩:=dC d;have ae:∀B∈o.op.operands,(E.val B).isSome=true:=λB H=>cY.1 ar B (by grind);have ah:lo.map a.eval=lo.map E.ev:=by
   cases lo with
   |none=>rfl
   |some B=>simp only[Option.map_some];rw[j.ev (ae B (by rw[h];simp[Op.operands]))]
  have af:C.map a.eval=C.map E.ev:=by
   cases C with
   |none=>rfl
   |some B=>simp only[Option.map_some];rw[j.ev (ae B (by rw[h];simp[Op.operands]))]
  have ao:S.map a.eval=S.map E.ev:=by
   cases S with
   |none=>rfl
   |some B=>simp only[Option.map_some];rw[j.ev (ae B (by rw[h];simp[Op.operands]))]
  split at d
  .rename_i Q b n c F e;split at d
   .rename_i sz ac;obtain⟨m,d,hm⟩:=pY (P:=P) d;obtain⟨Z,d,aa⟩:=pY (P:=P) d;obtain⟨aw,d⟩:=dC d;obtain⟨l,q,hl⟩:=pY (P:=P) d;obtain⟨e',inf,aq,L,rfl⟩:=JB ac;rw[aq]at F;cases F;refine⟨_,_,q,λy k=>(by cases k),λx _=>?_⟩;have ab:(Instr.sliceBounds true n c (lo.map E.ev) (C.map E.ev) (S.map E.ev)).run P x=.ok (l,Z,m) x:=by refine GD hm aa hl ?_;intro G h2;cases S<;>cases C<;>simp_all
    simp only[execOp,h,j.val e,ah,af,ao];simp[Instr.sliceAt,run_underlying aq,Instr.slice,ab,sizeOf,typeInfo,L]
   grind
  .rename_i s F e;obtain⟨ax,h'⟩:=dC d;clear d;have ay:S=none:=by simpa using ax
   subst ay;obtain⟨Z,d,aa⟩:=pY (P:=P) h';obtain⟨l,q,hl⟩:=pY (P:=P) d;refine⟨_,_,q,λy k=>(by cases k),λx _=>?_⟩;have ab:(Instr.sliceBounds false s.size s.size (lo.map E.ev) (C.map E.ev) none).run P x=.ok (l,Z,s.size) x:=by exact GD (.inl ⟨rfl,rfl⟩) aa hl (λG _=>absurd rfl G)
   simp only[execOp,h,j.val e,ah,af];simp[Instr.sliceAt,run_underlying F,Instr.slice,ab]
  .rename_i n Q p F e;split at d
   .rename_i inf L;obtain⟨m,d,hm⟩:=pY (P:=P) d;obtain⟨Z,d,aa⟩:=pY (P:=P) d;obtain⟨aw,d⟩:=dC d;obtain⟨l,q,hl⟩:=pY (P:=P) d;refine⟨_,_,q,λy k=>(by cases k),λx _=>?_⟩;have ab:(Instr.sliceBounds false n n (lo.map E.ev) (C.map E.ev) (S.map E.ev)).run P x=.ok (l,Z,m) x:=by refine GD hm aa hl ?_;intro G h2;cases S<;>cases C<;>simp_all
    simp only[execOp,h,j.val e,ah,af,ao];simp[Instr.sliceAt,Instr.sureAddr,run_underlying F,ab,sizeOf,typeInfo,L]
   grind
  grind
 .
  rename_i z A B O h;cases W:isConst B with
  |true=>grind
  |false=>
   rw[W]at d;simp only[cond_false]at d;split at d
   .rename_i N i k' am e H;obtain⟨av,Y,q⟩:=dC d;have ag:N=k':=by grind
    subst ag;refine⟨_,_,q,λy k=>(by cases k),λx _=>?_⟩;simp[execOp,h,j.val e,j.val H,eqGuard,binOp,Op.intDiv,Y]
   grind
 .
  rename_i z A B O h;cases W:isConst B with
  |true=>grind
  |false=>
   rw[W]at d;simp only[cond_false]at d;split at d
   .rename_i N i k' am e H;obtain⟨av,Y,q⟩:=dC d;have ag:N=k':=by grind
    subst ag;refine⟨_,_,q,λy k=>(by cases k),λx _=>?_⟩;simp[execOp,h,j.val e,j.val H,eqGuard,binOp,Op.intDiv,Y]
   grind
 .
  rename_i z A c O h;cases M:pg P z c with
  |false=>rw[M]at d;exact y3 hs j h (.inl ⟨rfl,rfl⟩) d
  |true=>
   rw[M]at d;simp only[cond_true]at d;split at d
   .rename_i b D;refine⟨_,_,d,λy k=>(by cases k),λx _=>?_⟩;cases e:E.val A with
    |none=>rw[e]at D;simp[oe]at D
    |some v=>
     rw[e]at D;have T:execOp a.eval o=(do pure (.value (<-(do eqGuard .eql z A (.const c) v c;binOp .eql z v c)))):=by simp only[execOp,h,j.val e];rfl
     rw[T];simp[OU D x,Ze M D x]
   grind
 .
  rename_i z A c O h;cases M:pg P z c with
  |false=>rw[M]at d;exact y3 hs j h (.inr ⟨rfl,rfl⟩) d
  |true=>
   rw[M]at d;simp only[cond_true]at d;split at d
   .rename_i b D;refine⟨_,_,d,λy k=>(by cases k),λx _=>?_⟩;cases e:E.val A with
    |none=>rw[e]at D;simp[oe]at D
    |some v=>
     rw[e]at D;have T:execOp a.eval o=(do pure (.value (<-(do eqGuard .neq z A (.const c) v c;binOp .neq z v c)))):=by simp only[execOp,h,j.val e];rfl
     rw[T];simp[OU D x,Zf M D x]
   grind
 .
  rename_i z A B O _ h;exact y3 hs j h (.inl ⟨rfl,rfl⟩) d
 .rename_i z A B O _ h;split at d
  .rename_i p aB F e H;refine sa ?_ d;simp only[execOp,h,j.val e,j.val H];rfl
  .exact y3 hs j h (.inr ⟨rfl,rfl⟩) d
 .
  rename_i z A B O h;split at d
  .rename_i s t e H;obtain⟨I,q⟩:=d;refine⟨_,_,q,λy k=>(by cases k),λx _=>?_⟩;have T:execOp a.eval o=(do pure (.value (<-(do eqGuard .add z A B (.string s) (.string t);binOp .add z (.string s) (.string t))))):=by simp only[execOp,h,j.val e,j.val H]
   rw[T];simp only[eqGuard,binOp,Op.stringOp,I];rfl
  grind
 .
  rename_i z A B O h;cases W:isConst B with
  |true=>grind
  |false=>
   rw[W]at d;simp only[cond_false]at d;split at d
   .rename_i N i k' am e H;obtain⟨Y,q⟩:=d;refine⟨_,_,q,λy k=>(by cases k),λx _=>?_⟩;simp[execOp,h,j.val e,j.val H,eqGuard,binOp,Op.shift,Y]
   grind
 .
  rename_i z A B O h;cases W:isConst B with
  |true=>grind
  |false=>
   rw[W]at d;simp only[cond_false]at d;split at d
   .rename_i N i k' am e H;obtain⟨Y,q⟩:=d;refine⟨_,_,q,λy k=>(by cases k),λx _=>?_⟩;simp[execOp,h,j.val e,j.val H,eqGuard,binOp,Op.shift,Y]
   grind
 .
  rename_i z A ix ok h;split at d
  .rename_i m N e C;exact sa (by simp[execOp,h,j.val e,j.val C]) d
  grind
 .
  rename_i s aG A h;split at d
  .rename_i Q v ap an e;exact sa (by simp[execOp,h,j.val e]) d
  .rename_i Q v ap an e;exact sa (by simp[execOp,h,j.val e]) d
  .rename_i Q v ap an e;exact sa (by simp[execOp,h,j.val e]) d
  grind
 .
  rename_i args aC h;split at d
  .rename_i A z e hT;split at d
   .rename_i kt et m F hm;refine sa ?_ d;have T:args=#[A]:=by grind
    have e2:aC=#[z]:=by grind
    simp[execOp,h,T,e2,resolve,invoke,builtin,j.val hm]
   grind
  grind
 grind
def yS{P:au}{o:Oper}{E:Env}{w:J}{n:Cx}{a:Act}{K:V->List (J->Prop)->Prop}(x:∀k b,o.op≠.select k b)(e:Ag n a E)(d:nU P o E w K):∃v h,K v h/\Calm P o a.eval w v h:=by
 unfold nU at d;cases j:DY P o with
 |false=>rw[j]at d;exact VB x e d
 |true=>
  rw[j]at d;simp only[cond_true]at d;unfold KO at d;split at d
  .rename_i op A C D B q;split at d
   .rename_i u v y z;refine sa ?_ d;simp only[execOp,q,e.val y,e.val z];rfl
   grind
  grind
def vd{P:au}{p:Addr}:∀{vs:List V} {i:Nat} {w:J} {K:J->Prop},vs.all uE=true->sA p vs i w K->
  ∃e,(storeCells p vs i).run P w=.ok () e/\K e
 |[],i,w,K,_,d=>⟨w,by simp[storeCells],d⟩
 |v::vs,i,w,K,h,d=>by
  obtain⟨k,q,d⟩:=d;rw[List.all_cons,be]at h;obtain⟨e,y,x⟩:=vd (P:=P) h.2 d;refine⟨e,?_,x⟩;obtain⟨u,A⟩:=Option.isSome_iff_exists.1 k;have z:(store (p.add i) v).run P w=.ok () (w.setCell (p.add i) v):=by have j:=h.1;cases v<;>first |(simp[uE]at j;done)|simp[store,Sem.run,A,q]
  simp[storeCells,z,y]
def tv{P:au}{f:bX}(d:hg P f=true)(args:Array V)(w:J):(callFunc f args).run P w=.ok (.enter f args) w:=by
 unfold hg at d;cases e:P.funcs[f]? with
 |none=>grind
 |some fn=>
  rw[e]at d;simp at d;obtain⟨k,h⟩:=d;have j:fn.body≠none:=by grind
  simp[callFunc,e,h,j]
def Ag.args{n:Cx}{a:Act}{E:Env}(e:Ag n a E){args:Array Operand}(h:∀d∈args,(E.val d).isSome=true):args.map a.eval=args.map E.ev:=
 Array.map_congr_left λd j=>e.ev (h d j)
def jh(P:au)(o:Oper)(a:Act)(w:J)(K:V->J->Prop):Prop:=
 ∀d:Exit->Act->J->Prop,o.wp P a w (λe h=>∃v,e=a.put o.dst v/\K v h) d
def I6{P:au}{f:bX}{args:Array V}{z:V}{w:J}{K:V->J->Prop}{o:Oper}{a:Act}(h:(execOp a.eval o).run P w=.ok (.enter f args) w)(d:rh P f args z w K):jh P o a w K:=by
 intro j;unfold Oper.wp;rw[h];simp only[Oper.upon];refine Calls.mono d λk x e=>?_;obtain⟨v,rfl,q⟩:=qf e
 grind
def tH{P:au}{s:Sem V}{z:V}{w:J}{K:V->J->Prop}{o:Oper}{a:Act}(h:execOp a.eval o=(do pure (.value (<-s))))(d:rv P s z w K):jh P o a w K:=by
 intro j;obtain⟨v,q,e,k⟩:=qf d;unfold Oper.wp;rw[h];simp only[Sem.run_bind,e,Result.andThen_ok,Sem.run_pure,Oper.upon]
 grind
set_option maxHeartbeats 1000000 in
def nX{P:au}{o:Oper}{E:Env}{w:J}{n:Cx}{a:Act}{K:V->J->Prop}(hs:∀O b,o.op≠.select O b)(h:Ag n a E)(d:hM P o E w K):jh P o a w K:=by
 unfold hM at d;split at d
 .
  rename_i F z N e;split at d
  .rename_i p v q hy;obtain⟨I,d⟩:=dC d;rw[be,be]at I;obtain⟨⟨S,W⟩,Y⟩:=I;obtain⟨i,C⟩:=Option.isSome_iff_exists.1 Y;rw[C]at S;have T:v.cells.size=i.size:=by grind
   obtain⟨w',j,y⟩:=vd (P:=P) W d;intro A;unfold Oper.wp;have:(execOp a.eval o).run P w=.ok .skip w':=by simp[execOp,e,Instr.storeAt,h.val q,h.val hy,Instr.sureAddr,storeVar,sizeOf,typeInfo,C,T,j]
   rw[this];simp only[Oper.upon]
   grind
  grind
 .
  rename_i F m ab v e;split at d
  .rename_i mv kv vv G y H;obtain⟨w',j,Q⟩:=d;intro A;unfold Oper.wp;have:(execOp a.eval o).run P w=.ok .skip w':=by simp[execOp,e,h.val G,h.val y,h.val H,j]
   rw[this];simp only[Oper.upon]
   grind
  grind
 .
  rename_i F m ab v e;split at d
  .rename_i mv kv vv G y H;obtain⟨w',j,Q⟩:=d;intro A;unfold Oper.wp;have:(execOp a.eval o).run P w=.ok .skip w':=by simp[execOp,e,h.val G,h.val y,h.val H,j]
   rw[this];simp only[Oper.upon]
   grind
  grind
 .
  rename_i b args M e;obtain⟨B,d⟩:=dC d;have k:args.map a.eval=args.map E.ev:=h.args λz q=>cY.1 B z (by rw[e];simp[Op.operands,Call.operands,q]);split at d
  .exact tH (by simp[execOp,e,resolve,invoke,builtin,k]) d
  .exact tH (by simp[execOp,e,resolve,invoke,builtin,k]) d
  .exact tH (by simp[execOp,e,resolve,invoke,builtin,k]) d
  .exact tH (by simp[execOp,e,resolve,invoke,builtin,k]) d
  .obtain ⟨w',j,y⟩:=d;intro A;unfold Oper.wp;have:(execOp a.eval o).run P w=.ok (.value undef) w':=by simp[execOp,e,resolve,invoke,builtin,k,j]
   rw[this];simp only[Oper.upon]
   grind
  .obtain ⟨w',j,y⟩:=d;intro A;unfold Oper.wp;have:(execOp a.eval o).run P w=.ok (.value (.tuple #[])) w':=by simp[execOp,e,resolve,invoke,builtin,k,j]
   rw[this];simp only[Oper.upon]
   grind
  grind
 .
  rename_i f args M e;obtain⟨B,d⟩:=dC d;have k:args.map a.eval=args.map E.ev:=h.args λz q=>cY.1 B z (by rw[e];simp[Op.operands,Call.operands,q]);cases D:hg P f with
  |true=>
   rw[D]at d;refine I6 ?_ d;simp[execOp,e,resolve,Act.eval,Deferred.ofValue,invoke,k,tv D]
  |false=>
   rw[D,cond_false]at d;unfold y6 at d;obtain⟨v,w',j,y⟩:=qf d;intro A;unfold Oper.wp;have:(execOp a.eval o).run P w=.ok (.value v) w':=by simp[execOp,e,resolve,Act.eval,Deferred.ofValue,invoke,k,j]
   rw[this];simp only[Oper.upon]
   grind
 .
  rename_i t args M e;obtain⟨B,d⟩:=dC d;have k:args.map a.eval=args.map E.ev:=h.args λz q=>cY.1 B z (by rw[e];simp[Op.operands,Call.operands,q]);split at d
  .rename_i f first captured Z
   obtain⟨D,d⟩:=dC d;have aa:a.eval (.tmp t)=.func (.func f) first captured:=h.val (x:=.tmp t) Z
   refine I6 ?_ d;simp[execOp,e,resolve,aa,Deferred.ofValue,invoke,k,tv D]
  grind
 .
  rename_i F l c e;split at d
  .rename_i lv cv hl B;exact tH (by simp[execOp,e,h.val hl,h.val B]) d
  grind
 .
  rename_i F z e;split at d
  .rename_i xv q;obtain⟨v,w',j,y⟩:=d;intro A;unfold Oper.wp;have:(execOp a.eval o).run P w=.ok (.value v) w':=by simp[execOp,e,h.val q,j]
   rw[this];simp only[Oper.upon]
   grind
  grind
 .
  rename_i it s e;split at d
  .rename_i L C;have fin:∀(v:V) (w':J),(Instr.next L s o.type).run P w=.ok v w'->K v w'->jh P o a w K:=λv w' j y A=>by
    unfold Oper.wp;have:(execOp a.eval o).run P w=.ok (.value v) w':=by simp[execOp,e,h.val C,j]
    rw[this];simp only[Oper.upon]
    grind
   grind
  grind
 .
  rename_i it e;split at d
  .rename_i L C;obtain⟨z,N,w',j,y⟩:=d;intro A;unfold Oper.wp;have:(execOp a.eval o).run P w=.ok (.value (.tuple #[z,N])) w':=by simp[execOp,e,h.val C,j]
   rw[this];simp only[Oper.upon]
   grind
  grind
 .
  rename_i s ac z e;split at d
  .rename_i v q;exact tH (by simp[execOp,e,h.val q]) d
  grind
 .
  obtain⟨B,d⟩:=dC d;intro A;unfold Oper.wp;rw[h.execOp hs B];generalize(execOp E.ev o).run P w=r at d;split at d
  .simp only[Oper.upon];grind
  .simp only[Oper.upon];grind
  grind
def BC(P:au)(n:Cx)(o:Oper)(a:Act)(w:J)(K:V->J->Prop):Prop:=
 ∀d:Exit->Act->J->Prop,o.wpIn (FW n) 0 P a w (λe h=>∃v,e=a.put o.dst v/\K v h) d
def I7{n:Cx}{P:au}{f:bX}{args:Array V}{w:J}{R:cR->J->Prop}(e:aj P f args w R):CallsIn (FW n) 0 P f args w R:=by
 have d:CallsIn Fence.wide 0 P f args w R:=callsIn_wide.2 e;obtain⟨n,j,h⟩:=n;cases h with
 |none=>exact d
 |some l=>exact d
def aaX{n:Cx}{P:au}{row:String}{args:Array V}{w:J}{R:V->J->Prop}(e:Rows P row args w R):RowsIn (FW n) 0 P row args w R:=by
 intro c d _;obtain⟨v,q,h,j⟩:=e c d;refine⟨v,q,h,?_⟩;have:=stepsIn_wide.2 j;obtain⟨n,x,k⟩:=n;cases k with
 |none=>exact this
 |some l=>exact this
def aaO{n:Cx}{P:au}{l:Nat}{f:bX}{tmps:Array V}{assign body:Code}{w:J}{R:cR->J->Prop}(d:RoundIn Fence.wide 0 P l f tmps assign body w R):RoundIn (FW n) 0 P l f tmps assign body w R:=by
 obtain⟨n,h,e⟩:=n;cases e with
 |none=>exact d
 |some l=>exact d
def Hl{P:au}{n:Cx}{o:Oper}{a:Act}{w:J}{K:Act->J->Prop}{Q:Exit->Act->J->Prop}(hd:∀c,o.op≠.defer c)(d:o.wp P a w K Q):o.wpIn (FW n) 0 P a w K Q:=by
 refine⟨λ_ _=>trivial,?_⟩;rw[Oper.semAt_eq _ _ _ hd];unfold Oper.wp at d;generalize(execOp a.eval o).run P w=r at *;cases r with
 |ok nx e=>
  cases nx<;>simp only[Oper.upon,Oper.uponIn]at d ⊢
  case value=>exact d
  case skip=>exact d
  case defer=>exact d
  case enter f args=>exact⟨λd=>(by cases d),I7 d⟩
  case row row args=>exact⟨λd=>(by cases d),aaX d⟩
 |halt h e=>
  cases h<;>simp only[Oper.upon,Oper.uponIn]at d ⊢;exact d
def jh.in{P:au}{n:Cx}{o:Oper}{a:Act}{w:J}{K:V->J->Prop}(hd:∀c,o.op≠.defer c)(e:jh P o a w K):BC P n o a w K:=λd=>Hl hd (e d)
def Jz{P:au}{o:Oper}{E:Env}{w:J}{n:Cx}{a:Act}{K:V->J->Prop}(q:∀h b,o.op≠.select h b)(hd:∀c,o.op≠.defer c)(e:Ag n a E)(d:tJ P o E w K):BC P n o a w K:=by
 unfold tJ at d;split at d
 .rename_i t args S k;split at d
  .rename_i l A h H;obtain⟨j,N⟩:=dC d;clear d;simp only[be,eA]at j;obtain⟨G,B,C⟩:=j;have y:A=#[]:=Array.eq_empty_of_size_eq_zero B;have z:h=#[]:=Array.eq_empty_of_size_eq_zero C;subst y z;have F:args.map a.eval=args.map E.ev:=e.args λO L=>cY.1 G O (by rw[k];simp[Op.operands,Call.operands,L]);have I:a.eval (.tmp t)=.func (.yield l) #[] #[]:=e.val (x:=.tmp t) H;intro Q;obtain⟨fn,tmps,assign,body,M,D⟩:=N;refine⟨λ_ _=>trivial,?_⟩;rw[Oper.semAt_eq _ _ _ hd];have:(execOp a.eval o).run P w=.ok (.round l fn tmps assign body) w:=by simp[execOp,k,resolve,I,Deferred.ofValue,invoke,F,M]
   rw[this,Oper.uponIn_round];refine⟨λd=>(by cases d),aaO (D.mono ?_)⟩
   grind
  .exact (nX q e d).in hd
 .exact (nX q e d).in hd
def xf(ops:Array Oper)(i j:Nat):Bool:=match ops[j]? with |some o=>o.after.toList.any λd=>bH d.on i&&Region.binds .any d|none=>false
def Ae(ops:Array Oper):Nat->Nat->Nat->Bool
 |0,i,d=>xf ops i d
 |f+1,i,d=>bif xf ops i d then true else match ops[d]? with |some o=>o.after.toList.any λe=>bif Region.binds .any e then Ae ops f i e.on else false|none=>false
def jX(ops:Array Oper)(i j:Nat):Bool:=Ae ops 4 i j
def Down(ops:Array Oper)(e:Array Bool):Prop:=∀(k:Nat) (o:Oper),ops[k]? =some o->e.getD k false=true->∀d∈o.after,Region.binds .any d=true->e.getD d.on false=true
def Down.zero(ops:Array Oper)(n:Nat):Down ops (gd n false):=λh o _ e=>by
 exfalso;by_cases d:h<n
 .simp [d]at e
 grind
def Down.set{ops:Array Oper}{e:Array Bool}(hd:Down ops e){i:Nat}(hi:i∈dY .any ops e):Down ops (e.setIfInBounds i true):=λx o d q h k j=>by
 obtain⟨_,A,z,y⟩:=mem_ready.1 hi;by_cases w:i=x
 .subst w;rw[z]at d;cases d;exact getD_set_true (y h k j)
 .rw [getD_set_ne false w]at q;exact getD_set_true (hd x o d q h k j)
def Pn{ops:Array Oper}{k:Array Bool}{i j:Nat}(w:∀o,ops[j]? =some o->∀d∈o.after,Region.binds .any d=true->k.getD d.on false=true)(e:xf ops i j=true):k.getD i false=true:=by
 unfold xf at e;cases q:ops[j]? with
 |none=>grind
 |some o=>
  rw[q]at e;obtain⟨d,x,h⟩:=List.any_eq_true.1 e;rw[be]at h;have y:d.on=i:=by have:=h.1;rwa[eA]at this
  grind
def Po{ops:Array Oper}{k:Array Bool}(hd:Down ops k){i:Nat}:∀(f j:Nat),(∀o,ops[j]? =some o->∀d∈o.after,Region.binds .any d=true->k.getD d.on false=true)->Ae ops f i j=true->k.getD i false=true
 |0,j,h,e=>Pn h e
 |f+1,j,h,e=>by
  unfold Ae at e;cases w:xf ops i j with
  |true=>exact Pn h w
  |false=>
   rw[w]at e;cases y:ops[j]? with
   |none=>grind
   |some o=>
    rw[y]at e;obtain⟨d,F,x⟩:=List.any_eq_true.1 e;cases q:Region.binds .any d with
    |false=>grind
    |true=>
     rw[q]at x;have C:=h o y d (by grind) q;exact Po hd f d.on (λE D z B A=>hd d.on E D C z B A) x
abbrev ep:=List (Nat×(J->Prop))
def heldBy(ops:Array Oper)(j:Nat)(w:J):ep->List Prop
 |[]=>[]
 |(i,e)::d=>bif jX ops i j then heldBy ops j w d else e w::heldBy ops j w d
def cV(ops:Array Oper)(j:Nat):ep->ep
 |[]=>[]
 |(i,e)::d=>bif jX ops i j then cV ops j d else(i,e)::cV ops j d
def DT{ops:Array Oper}{j:Nat}{w:J}:∀{H:ep} {p:Nat×(J->Prop)},p∈H->jX ops p.1 j=false->p.2 w∈heldBy ops j w H
 |(i,h)::H,p,d,e=>by
  unfold heldBy;rcases aF.1 d with rfl|d
  .grind
  .have:=DT (H:=H) (w:=w) d e
   grind
def fy{ops:Array Oper}{j:Nat}:∀{H:ep} {p:Nat×(J->Prop)},p∈cV ops j H↔p∈H/\jX ops p.1 j=false
 |[],p=>by simp[cV]
 |(i,d)::H,p=>by
  unfold cV;cases e:jX ops i j with
  |true=>
   simp only[cond_true];rw[fy]
   grind
  |false=>
   simp only[cond_false,aF];rw[fy]
   grind
section
variable {P:au} {ops:Array Oper} {Q:Exit->Act->J->Prop}
def eh(P:au)(ops:Array Oper)(Q:Exit->Act->J->Prop):Nat->ep->Array Bool->Act->J->Prop
 |0,_,d,a,e=>Down ops d->dY .any ops d=[]/\Q .normal a e
 |fuel+1,h,d,a,e=>Down ops d->
  (dY .any ops d=[]->Q .normal a e)/\
  ∀i∈dY .any ops d,wpOp P ops Q i (λk j=>(∀p∈cV ops i h,p.2 j)/\eh P ops Q fuel (cV ops i h) (d.setIfInBounds i true) k j) a e
def ye:∀(fuel:Nat) (H:ep) (h:Array Bool) (a:Act) (w:J),Down ops h->eh P ops Q fuel H h a w->wpAny P .any ops Q fuel h a w
 |0,_,_,_,_,d,e=>e d
 |fuel+1,_,_,_,_,d,e=>⟨(e d).1,λi j=>wpOp_mono (λk x q=>ye fuel _ _ k x (d.set j) q.2) ((e d).2 i j)⟩
def Hi:∀(fuel:Nat) (H d:ep) (j:Array Bool) (a:Act) (w:J),(∀p∈d,p∈H)->eh P ops Q fuel H j a w->eh P ops Q fuel d j a w
 |0,_,_,_,_,_,_,e=>e
 |fuel+1,H,d,j,a,w,A,e=>λq=>⟨(e q).1,λi z=>wpOp_mono (λy B k=>by have x:∀p∈cV ops i d,p∈cV ops i H:=λp h=>fy.2 ⟨A p (fy.1 h).1,(fy.1 h).2⟩;exact⟨λp h=>k.1 p (x p h),Hi fuel _ _ _ y B x k.2⟩) ((e q).2 i z)⟩
def Zq{i j:Nat}{d:Array Bool}(hd:Down ops d)(hi:d.getD i true=false)(e:j∈dY .any ops d):jX ops i j=false:=by
 obtain⟨_,A,z,q⟩:=mem_ready.1 e;cases h:jX ops i j with
 |false=>rfl
 |true=>
  have this:=Po hd 4 j (λo y k x w=>by grind) h
  grind
def Bx{i:Nat}{x:Oper}{v:V}{Ss:List (J->Prop)}(hi:ops[i]? =some x)(W:∀(j:Nat) (o:Oper) B b,ops[j]? =some o->o.op≠.select B b)(hQ:∀c a w,Q (.panic c) (a.put x.dst v) w->Q (.panic c) a w):
  ∀(fuel:Nat) (H:ep) (q:Array Bool) (a:Act) (w:J),
   (∀j y,ops[j]? =some y->j≠i->q.getD j true=false->(∀h∈y.after,Region.binds .any h=true->h.on≠i)->x.apart ops y=true)->
   i∈dY .any ops q->YieldsIf P ops (λw=>∀e∈Ss,e w) x v a->(∀e∈Ss,e w)->(∀p∈H,p.2 w)->
   eh P ops Q fuel (Ss.map (λe=>(i,e))++H) (q.setIfInBounds i true) (a.put x.dst v) w->eh P ops Q (fuel+1) H q a w:=by
 intro fuel;induction fuel with
 |zero=>
  intro H q a w _ D F I G A E;refine⟨λZ=>(by grind),λj C=>?_⟩;by_cases k:j=i
  .subst k;exact F.wpOp hi I ⟨λp d=>G p (fy.1 d).1,A⟩
  .have:=ready_mono C k;rw[(A (E.set D)).1]at this
   grind
 |succ fuel ih=>
  intro H q a w O D F I G A E;refine⟨λZ=>(by grind),λj C=>?_⟩;by_cases k:j=i
  .subst k;refine F.wpOp hi I ⟨λp d=>G p (fy.1 d).1,?_⟩;exact Hi _ _ _ _ _ _ (λp d=>cK _ (fy.1 d).1) A
  .have h1:=(A (E.set D)).2 j (ready_mono C k);obtain⟨ae,y,K,ao⟩:=mem_ready.1 C;have h0:=(mem_ready.1 D).1;have ah:∀h∈y.after,Region.binds .any h=true->h.on≠i:=λh he hb ap=>by grind
   have T:jX ops i j=false:=Zq E h0 C;have h2:=wpOp_putIf K (O j y K k ae ah) (λB b=>W i x B b hi) (λB b=>W j y B b K) hQ F h1;have ab:∀z ok,ops[z]? =some ok->z≠i->(q.setIfInBounds j true).getD z true=false->
     (∀h∈ok.after,Region.binds .any h=true->h.on≠i)->x.apart ops ok=true:=λz ok hk af am ag=>by
    refine O z ok hk af ?_ ag;by_cases ac:j=z
    .grind
    .rw [getD_set_ne true ac]at am;omega
   refine wpOp_mono (λY L h3=>?_) h2;obtain⟨an,S,ak⟩:=h3;have M:∀p∈cV ops j H,p.2 L:=λp d=>S p (fy.2 ⟨cK _ (fy.1 d).1,(fy.1 d).2⟩);have aa:∀e∈Ss,e L:=λe N=>S (i,e) (fy.2 ⟨List.mem_append_left _ (dN.2 ⟨e,N,rfl⟩),T⟩);refine⟨M,ih (cV ops j H) (q.setIfInBounds j true) Y L ab (ready_mono D (Ne.symm k)) an aa M ?_⟩;rw[Array.setIfInBounds_comm _ _ k];refine Hi _ _ _ _ _ _ (λp d=>?_) ak;rcases aK.1 d with d|d
   .obtain ⟨e,N,rfl⟩:=dN.1 d;exact fy.2 ⟨List.mem_append_left _ d,T⟩
   .exact fy.2 ⟨cK _ (fy.1 d).1,(fy.1 d).2⟩
end
def kr(ops:Array Oper)(j:Nat):Option Nat:=(ops[j]?).bind (·.dst)
def pF(P:au)(ops:Array Oper)(draw:Bool)(i:Nat)(o:Oper)(E:Env)(w:J)(H:ep)(K:Env->J->ep->Prop):Prop:=
 bif calm P o then nU P o E w λv h=>K (E.put o.dst v) w (bif draw then h.map (λe=>(i,e))++H else H)
 else(bif draw then hM else tJ) P o E w λv d=>te (heldBy ops i d H) (K (E.put o.dst v) d (cV ops i H))
def mE(P:au)(ops:Array Oper)(draw:Bool)(i:Nat)(o:Oper)(d:Nat)(want t:Bool)(E:Env)(w:J)(H:ep)(K:Env->J->ep->Prop):Prop:=
 bif (t==want)then pF P ops draw i o ((d,.bool t)::E) w H K else K (Env.put ((d,.bool t)::E) o.dst undef) w (bif calm P o then H else cV ops i H)
def g6(P:au)(ops:Array Oper)(draw:Bool)(K:Env->J->Prop):List Nat->Env->J->ep->Prop
 |[],d,e,_=>K d e
 |i::l,d,e,j=>
  match ops[i]? with
  |none=>False
  |some o=>match o.guard with
   |none=>pF P ops draw i o d e j λh q k=>g6 P ops draw K l h q k
   |some (x,want)=>match kr ops x with
    |none=>False
    |some w=>match d.get? w with
     |some (.bool t)=>bB t (mE P ops draw i o w want true d e j λh q k=>g6 P ops draw K l h q k) (mE P ops draw i o w want false d e j λh q k=>g6 P ops draw K l h q k)
     |some (.tuple _)=>g6 P ops draw K l (Env.put d o.dst undef) e (bif calm P o then j else cV ops i j)
     |_=>False
def qt(P:au)(ops:Array Oper):List Nat->Array Bool->Bool
 |[],d=>(dY .any ops d).isEmpty
 |i::l,d=>(match ops[i]? with
   |some o=>bif calm P o then Region.free .any ops d i&&(dY .any ops d).contains i else dY .any ops d==[i]
   |none=>false)&&qt P ops l (d.setIfInBounds i true)
def OV(o:Oper):Bool:=match o.op with |.defer _=>false|_=>true
def du(n:Nat)(ops:Array Oper):Bool:=Region.noSelect ops&&ops.toList.all λo=>OV o&&match o.dst with |some d=>Nat.blt d n|none=>true
def g3{n:Nat}{ops:Array Oper}(d:du n ops=true){i:Nat}{o:Oper}(h:ops[i]? =some o):∀t,o.dst=some t->t<n:=by intro t e;unfold du at d;rw[be]at d;have:=cY.1 d.2 o (by grind);rw[e,be]at this;simpa using this.2
def uG{n:Nat}{ops:Array Oper}(d:du n ops=true){i:Nat}{o:Oper}(h:ops[i]? =some o):∀c,o.op≠.defer c:=by
 intro c e;unfold du at d;rw[be]at d;have:=cY.1 d.2 o (by grind);rw[be]at this;have:=this.1;unfold OV at this
 grind
def hJ(n:Cx)(K:Env->J->Prop):Exit->Act->J->Prop
 |.normal,a,e=>∃d,Ag n a d/\K d e
 |_,_,_=>False
def sR{n:Cx}{a:Act}{E:Env}(e:Ag n a E){ops:Array Oper}{j d:Nat}{t:Bool}(hd:kr ops j=some d)(h:E.get? d=some (.bool t)):yielded ops a.tmps j=some t:=by unfold yielded;unfold kr at hd;rw[hd];simp[e.get _ _ h]
def sS{n:Cx}{a:Act}{E:Env}(e:Ag n a E){ops:Array Oper}{j d:Nat}{vs:Array V}(hd:kr ops j=some d)(h:E.get? d=some (.tuple vs)):yielded ops a.tmps j=none:=by unfold yielded;unfold kr at hd;rw[hd];simp[e.get _ _ h]
def Ag.same{n:Cx}{a:Act}{E:Env}(e:Ag n a E){d:Nat}{v:V}(hd:E.get? d=some v):Ag n a ((d,v)::E):=e.cons hd e
section
variable {P:au} {ops:Array Oper} {n:Cx} {K:Env->J->Prop}
def Hk{i:Nat}{o:Oper}{a:Act}{w:J}{Kv:V->J->Prop}{K':Act->J->Prop}{Q:Exit->Act->J->Prop}(h:ops[i]? =some o)(j:ct o (yielded ops a.tmps)=true)(e:jh P o a w Kv)(q:∀v d,Kv v d->K' (a.put o.dst v) d):wpOp P ops Q i K' a w:=by unfold wpOp;simp only[h,j,if_true];exact .inl (Oper.wp_mono (λk d=>by grind) (e Q))
def A6{i:Nat}{o:Oper}{a:Act}{E:Env}{w:J}{H:ep}{Kh:Env->J->ep->Prop}{h:Array Bool}{fuel:Nat}{Q:Exit->Act->J->Prop}(z:du n ops=true)(e:ops[i]? =some o)(k:(bif calm P o then Region.free .any ops h i&&(dY .any ops h).contains i else dY .any ops h==[i])=true)(hQ:∀c a w,Q (.panic c) a w=False)(q:Ag n a E)(S:∀p∈H,p.2 w)(K:ct o (yielded ops a.tmps)=true)(d:pF P ops true i o E w H Kh)(next:∀C B j x,Ag n C B->(∀p∈x,p.2 j)->Kh B j x->eh P ops Q fuel x (h.setIfInBounds i true) C j):eh P ops Q (fuel+1) H h a w:=by
 have A:=Region.noSelect_spec (ops:=ops) (by unfold du at z;grind);unfold pF at d;cases F:calm P o with
 |true=>
  rw[F]at d k;simp only[cond_true]at d k;rw[be]at k;obtain⟨v,M,T,Y,Z⟩:=yS (λy b=>A i o y b e) q d;refine Bx (v:=v) (Ss:=M) e A (by grind) fuel H h a w (Region.free_spec e k.1) (by grind) (.inl ⟨K,λj aa=>Z j aa⟩) Y S ?_;refine next _ _ _ _ (q.put v (g3 z e)) ?_ T
  grind
 |false=>
  rw[F]at d k;simp only[cond_false,cond_true]at d k;have W:dY .any ops h=[i]:=by grind
  refine λ_=>⟨λh0=>(by grind),λL G=>?_⟩;rw[W]at G;obtain rfl:=b'.1 G;refine Hk e K (nX (λy b=>A L o y b e) q d) λv j hv=>?_;obtain⟨N,O⟩:=tf hv;have D:∀p∈cV ops L H,p.2 j:=λp I=>N _ (DT (fy.1 I).1 (fy.1 I).2);exact⟨D,next _ _ _ _ (q.put v (g3 z e)) D O⟩
def AY{i:Nat}{o:Oper}{a:Act}{w:J}{H:ep}{d:Array Bool}{fuel:Nat}{Q:Exit->Act->J->Prop}(z:du n ops=true)(h:ops[i]? =some o)(e:(bif calm P o then Region.free .any ops d i&&(dY .any ops d).contains i else dY .any ops d==[i])=true)(F:∀c a w,Q (.panic c) a w=False)(j:∀p∈H,p.2 w)(x:ct o (yielded ops a.tmps)=false)(next:eh P ops Q fuel (bif calm P o then H else cV ops i H) (d.setIfInBounds i true) (a.put o.dst undef) w):eh P ops Q (fuel+1) H d a w:=by
 have C:=Region.noSelect_spec (ops:=ops) (by unfold du at z;grind);cases k:calm P o with
 |true=>
  rw[k]at e next
  simp only[cond_true]at e next
  rw[be]at e;exact Bx (v:=undef) (Ss:=[]) h C (by grind) fuel H d a w (Region.free_spec h e.1) (by grind) (.inr ⟨x,rfl⟩) (λD y=>(by cases y)) j (by grind)
 |false=>
  rw[k]at e next
  simp only[cond_false]at e next
  have B:dY .any ops d=[i]:=by grind
  refine λ_=>⟨λE=>(by grind),λG q=>?_⟩;rw[B]at q;obtain rfl:=b'.1 q;unfold wpOp;simp only[h,x];exact⟨λp A=>j p (fy.1 A).1,next⟩
def Gs(k:du n ops=true):∀(l:List Nat) (F:Array Bool) (E:Env) (w:J) (H:ep) (a:Act),qt P ops l F=true->Ag n a E->(∀p∈H,p.2 w)->
  g6 P ops true K l E w H->eh P ops (hJ n K) l.length H F a w
 |[],F,E,w,H,a,e,h,_,d=>λ_=>⟨by simpa[qt]using e,E,h,d⟩
 |i::l,F,E,w,H,a,e,h,z,d=>by
  unfold qt at e;rw[be]at e;obtain⟨e,W⟩:=e;unfold g6 at d;cases q:ops[i]? with
  |none=>grind
  |some o=>
   rw[q]at d e;simp only at d e;have next:∀G y x j,Ag n G y->(∀p∈j,p.2 x)->g6 P ops true K l y x j->eh P ops (hJ n K) l.length j (F.setIfInBounds i true) G x:=
    λG y x j Q S T=>Gs k l _ y x j G W Q S T
   cases A:o.guard with
   |none=>
    rw[A]at d;simp only at d;exact A6 k q e (λ_ _ _=>rfl) h z (by simp[ct,A]) d next
   |some Z=>
    obtain⟨Y,want⟩:=Z;rw[A]at d;simp only at d;cases M:kr ops Y with
    |none=>grind
    |some O=>
     rw[M]at d;simp only at d;split at d
     .rename_i t D;have I:=sR h M D;have B:mE P ops true i o O want t E w H λy x j=>g6 P ops true K l y x j:=by
       cases t
       .exact d
       .exact d
      unfold mE at B;cases N:(t==want)with
      |true=>
       rw[N]at B;exact A6 k q e (λ_ _ _=>rfl) (h.same D) z (by simp[ct,A,I];grind) B next
      |false=>
       rw[N]at B;simp only[cond_false]at B;refine AY k q e (λ_ _ _=>rfl) z (by simp[ct,A,I];grind) ?_;refine next _ _ _ _ ((h.same D).put undef (g3 k q)) ?_ B
       intro p C;cases L:calm P o
       .rw [L]at C;exact z p (fy.1 C).1
       grind
     .rename_i vs D;have I:=sS h M D;refine AY k q e (λ_ _ _=>rfl) z (by simp[ct,A,I]) ?_;refine next _ _ _ _ (h.put undef (g3 k q)) ?_ d
      intro p C;cases L:calm P o
      .rw [L]at C;exact z p (fy.1 C).1
      grind
     grind
def Hj{i:Nat}{o:Oper}{a:Act}{w:J}{Kv:V->J->Prop}{K':Act->J->Prop}{Q:Exit->Act->J->Prop}(h:ops[i]? =some o)(j:ct o (yielded ops a.tmps)=true)(e:BC P n o a w Kv)(q:∀v d,Kv v d->K' (a.put o.dst v) d):wpOpIn (FW n) 0 P ops Q i K' a w:=by unfold wpOpIn;simp only[h,j,if_true];exact Oper.wpIn_mono (λk d=>by grind) (e Q)
def R6{i:Nat}{o:Oper}{a:Act}{E:Env}{w:J}{Kh:Env->J->ep->Prop}{rest:List Nat}{Q:Exit->Act->J->Prop}(j:du n ops=true)(d:ops[i]? =some o)(k:Ag n a E)(B:ct o (yielded ops a.tmps)=true)(e:pF P ops false i o E w [] Kh)(next:∀y x h,Ag n y x->Kh x h []->wpOpsIn (FW n) 0 P ops Q rest y h):wpOpsIn (FW n) 0 P ops Q (i::rest) a w:=by
 have A:=Region.noSelect_spec (ops:=ops) (by unfold du at j;grind);rw[wpOpsIn_cons];unfold pF at e;cases z:calm P o with
 |true=>
  rw[z]at e;simp only[cond_true,cond_false]at e;obtain⟨v,K,D,F,G⟩:=yS (λq b=>A i o q b d) k e;refine Hj (Kv:=λC h=>C=v/\h=w) d B ?_ ?_
  .refine jh.in (uG j d) λI=>?_;unfold Oper.wp;rw[G w F];exact⟨v,rfl,rfl,rfl⟩
  .rintro C h ⟨rfl,rfl⟩;exact next _ _ _ (k.put _ (g3 j d)) D
 |false=>
  rw[z]at e;simp only[cond_false,heldBy,te,cV]at e;exact Hj d B (Jz (λq b=>A i o q b d) (uG j d) k e) λv h H=>next _ _ _ (k.put v (g3 j d)) H
def Rm(z:du n ops=true):∀(l:List Nat) (E:Env) (w:J) (a:Act),Ag n a E->g6 P ops false K l E w []->wpOpsIn (FW n) 0 P ops (hJ n K) l a w
 |[],E,w,a,j,d=>⟨E,j,d⟩
 |i::l,E,w,a,j,d=>by
  unfold g6 at d;cases q:ops[i]? with
  |none=>grind
  |some o=>
   rw[q]at d;simp only at d;have next:∀B e h,Ag n B e->g6 P ops false K l e h []->wpOpsIn (FW n) 0 P ops (hJ n K) l B h:=λB e h L M=>Rm z l e h B L M
   cases x:o.guard with
   |none=>
    rw[x]at d;simp only at d;exact R6 (Kh:=λe h y=>g6 P ops false K l e h y) z q j (by simp[ct,x]) d next
   |some O=>
    obtain⟨N,want⟩:=O;rw[x]at d;simp only at d;cases F:kr ops N with
    |none=>grind
    |some I=>
     rw[F]at d;simp only at d;split at d
     .rename_i t A;have C:=sR j F A;have k:mE P ops false i o I want t E w [] λe h y=>g6 P ops false K l e h y:=by
       cases t
       .exact d
       .exact d
      unfold mE at k;cases H:(t==want)with
      |true=>
       rw[H]at k;exact R6 (Kh:=λe h y=>g6 P ops false K l e h y) z q (j.same A) (by simp[ct,x,C];grind) k next
      |false=>
       rw[H]at k;simp only[cond_false]at k;have D:(bif calm P o then([]:ep)else cV ops i [])=[]:=by cases calm P o<;>rfl
       rw[D]at k;rw[wpOpsIn_cons];unfold wpOpIn;have G:ct o (yielded ops a.tmps)=false:=by simp[ct,x,C];grind
       simp only[q,G];exact⟨λ_ _=>trivial,next _ _ _ ((j.same A).put undef (g3 z q)) k⟩
     .rename_i Q A;have C:=sS j F A;have D:(bif calm P o then([]:ep)else cV ops i [])=[]:=by cases calm P o<;>rfl
      rw[D]at d;rw[wpOpsIn_cons];unfold wpOpIn;have G:ct o (yielded ops a.tmps)=false:=by simp[ct,x,C]
      simp only[q,G];exact⟨λ_ _=>trivial,next _ _ _ (j.put undef (g3 z q)) d⟩
     grind
def adf{c:Code}{id:Nat}{a:Act}{E:Env}{w:J}(h:c=.region id ops false)(j:du n ops=true)(e:Ag n a E)(d:g6 P ops false K (List.range ops.size) E w []):c.wpIn (FW n) 0 P (hJ n K) a w:=by subst h;exact wpIn_region (Rm j _ E w a e d)
def sP(e:du n ops=true){Q:Exit->Act->J->Prop}(h:¬LetsOut Q):∀(l:List Nat) (a:Act) (w:J),wpOps P ops Q l a w->wpOpsIn (FW n) 0 P ops Q l a w
 |[],a,w,d=>d
 |i::l,a,w,d=>by
  rw[wpOps_cons]at d;rw[wpOpsIn_cons];unfold wpOp at d;unfold wpOpIn;cases j:ops[i]? with
  |none=>rw[j]at d;exact sP e h l a w d
  |some o=>
   rw[j]at d;simp only at d ⊢;split
   .rename_i k;rw[af k]at d;rcases d with d|d
    .exact Oper.wpIn_mono (λq y x=>sP e h l q y x) (Hl (uG e j) d)
    grind
   .rename_i k;rw[aa k]at d;exact⟨λ_ _=>trivial,sP e h l _ w d⟩
def ade{c:Code}{id:Nat}{a:Act}{E:Env}{w:J}{l:List Nat}(y:P.follows .mixedOrders=true)(q:c=.region id ops true)(h:du n ops=true)(x:qt P ops l (gd ops.size false)=true)(A:l.length=ops.size)(k:Ag n a E)(d:g6 P ops true K l E w.drew []):c.wpIn (FW n) 0 P (hJ n K) a w:=by subst q;have e:=Gs h l _ E _ [] a x k (λp z=>(by cases z)) d;rw[A]at e;have j:=ye _ [] _ _ _ (Down.zero _ _) e;refine wpIn_region_draw λt=>?_;refine sP h (λ⟨_,_,d⟩=>d) _ _ _ ?_;simp only[Region.schedule,y,Bool.true_or,if_true];exact wpAny_sound ops.size t _ a _ j
end
section
variable {P:au} {n:Cx}
def Code.ops:Code->Array Oper
 |.region _ ops _=>ops
 |_=>#[]
def Code.fst:Code->Code
 |.seq a _=>a
 |.cond _ a _=>a
 |.block _ a=>a
 |.loop a=>a
 |.scope a=>a
 |c=>c
def Code.snd:Code->Code
 |.seq _ b=>b
 |.cond _ _ b=>b
 |c=>c
def Code.H':Code->Code
 |.rangeFunc _ _ a _=>a
 |c=>c
def Code.Ie:Code->Code
 |.rangeFunc _ _ _ b=>b
 |c=>c
abbrev gT(P:au)(n:Cx)(c:Code)(Q:Exit->Act->J->Prop)(a:Act)(w:J):Prop:=c.wpIn (FW n) 0 P Q a w
def WP(P:au)(n:Cx)(c:Code)(Q:Exit->Act->J->Prop)(E:Env)(w:J):Prop:=∀a,Ag n a E->gT P n c Q a w
def WP.region{c:Code}{Q:Exit->Act->J->Prop}{E:Env}{w:J}{ops:Array Oper}{id:Nat}(K:Env->J->Prop)(y:c=.region id ops false)(z:du n ops=true)(q:g6 P ops false K (List.range ops.size) E w [])(A:∀d h e,Ag n e d->K d h->Q .normal e h):WP P n c Q E w:=λa x=>
 wpIn_mono (adf y z x q) λk e h j=>by
  cases k with
  |normal=>obtain⟨d,hA,hK⟩:=j;grind
  |_=>exact j.elim
def WP.aaG{c:Code}{Q:Exit->Act->J->Prop}{E:Env}{w:J}{ops:Array Oper}{id:Nat}{l:List Nat}(K:Env->J->Prop)(A:P.follows .mixedOrders=true)(y:c=.region id ops true)(B:du n ops=true)(z:qt P ops l (gd ops.size false)=true)(C:l.length=ops.size)(q:g6 P ops true K l E w.drew [])(D:∀d h e,Ag n e d->K d h->Q .normal e h):WP P n c Q E w:=λa x=>
 wpIn_mono (ade A y B z C x q) λk e h j=>by
  cases k with
  |normal=>obtain⟨d,hA,hK⟩:=j;grind
  |_=>exact j.elim
def sb(n:Nat)(c:Code):Bool:=match c with |.region _ ops d=>!d&&du n ops|_=>false
def F'(P:au)(n:Nat)(c:Code)(l:List Nat):Bool:=match c with
 |.region _ ops d=>d&&(P.follows .mixedOrders&&(du n ops&&(qt P ops l (gd ops.size false)&&bH l.length ops.size)))
 |_=>false
def WP.l3{c:Code}{Q:Exit->Act->J->Prop}{E:Env}{w:J}(K:Env->J->Prop)(d:sb n c=true)(q:g6 P (Code.ops c) false K (List.range (Code.ops c).size) E w [])(z:∀e j h,Ag n h e->K e j->Q .normal h j):WP P n c Q E w:=by
 unfold sb at d;split at d
 .rename_i id ops k;rw[be]at d;obtain⟨A,x⟩:=d;have y:k=false:=by grind
  subst y;exact WP.region K rfl x q z
 grind
def WP.draw{c:Code}{Q:Exit->Act->J->Prop}{E:Env}{w:J}(l:List Nat)(K:Env->J->Prop)(d:F' P n c l=true)(q:g6 P (Code.ops c) true K l E w.drew [])(A:∀e k h,Ag n h e->K e k->Q .normal h k):WP P n c Q E w:=by
 unfold F' at d;split at d
 .rename_i id ops B;simp only[be]at d;obtain⟨rfl,x,y,z,j⟩:=d;rw[eA]at j;exact WP.aaG K x rfl y z j q A
 grind
def WP.at{c:Code}{Q:Exit->Act->J->Prop}{E:Env}{w:J}{a:Act}(d:WP P n c Q E w)(e:Ag n a E):gT P n c Q a w:=d a e
def WP.seq{c x y:Code}{Q:Exit->Act->J->Prop}{E:Env}{w:J}(h:c=.seq x y)(d:WP P n x (Exit.then (gT P n y Q) Q) E w):WP P n c Q E w:=λa e=>by subst h;exact wpIn_seq (d a e)
def WP.cond{c x y:Code}{o:Operand}{Q:Exit->Act->J->Prop}{E:Env}{w:J}{t:Bool}(j:c=.cond o x y)(k:E.val o=some (.bool t))(h:bB t (WP P n x Q E w) (WP P n y Q E w)):WP P n c Q E w:=λa d=>by
 subst j;refine wpIn_cond_split (d.val k) (λe=>?_) (λe=>?_)
 .subst e;exact h a d
 .subst e;exact h a d
def iu(v:Option V)(A d:Prop):Prop:=match v with |some (.bool t)=>bB t A d|_=>False
def WP.iu{c x y:Code}{o:Operand}{Q:Exit->Act->J->Prop}{E:Env}{w:J}{A e:Prop}(k:c=.cond o x y)(h:A->WP P n x Q E w)(j:e->WP P n y Q E w)(d:iu (E.val o) A e):WP P n c Q E w:=by
 unfold W.iu at d;split at d
 .rename_i t q;refine WP.cond k q ?_;cases t
  .exact j d
  .exact h d
 grind
def WP.block{c x:Code}{id:Nat}{Q:Exit->Act->J->Prop}{E:Env}{w:J}(h:c=.block id x)(d:WP P n x (Exit.inBlock id Q) E w):WP P n c Q E w:=λa e=>by subst h;exact wpIn_block (d a e)
def WP.skip{c:Code}{Q:Exit->Act->J->Prop}{E:Env}{w:J}(h:c=.skip)(d:∀a,Ag n a E->Q .normal a w):WP P n c Q E w:=λa e=>by subst h;exact wpIn_skip (d a e)
def WP.exit{c:Code}{id:Nat}{Q:Exit->Act->J->Prop}{E:Env}{w:J}(h:c=.exit id)(d:∀a,Ag n a E->Q (.exit id) a w):WP P n c Q E w:=λa e=>by subst h;exact wpIn_exit (d a e)
def WP.ret{c:Code}{Q:Exit->Act->J->Prop}{E:Env}{w:J}(h:c=.ret)(d:∀a,Ag n a E->Q .ret a w):WP P n c Q E w:=λa e=>by subst h;exact wpIn_ret (d a e)
def pT(P:au)(n:Cx)(c:Code)(Q:Exit->Act->J->Prop)(a:Act)(w:J):Prop:=
 ∀(b:Frame) (k:List Item) (cs:List Frame),b.roundOf=n.ro->∃e d h,Q e d h/\ArrivesIn (Machine.fenced P (FW n)) P (lone (b.atR a (.code c::.inLoop c::k)) cs w) b k cs e d h
def aaN(n:Cx)(m:Nat):(FW n).room m:=room_wide m
def Tp{c:Code}{Q:Exit->Act->J->Prop}{a:Act}{w:J}(j:pT P n c Q a w):gT P n (Code.loop c) Q a w:=λb A e z q y=>by obtain⟨h,d,B,x,k⟩:=j b A e z;exact⟨h,d,B,x,.of_steps (.one (fenced_calm q y rfl) stepR_loop) k⟩
def LR{c:Code}{Q:Exit->Act->J->Prop}{a:Act}{w:J}(A:gT P n c (Exit.then (pT P n c Q) Q) a w):pT P n c Q a w:=by
 intro b z h y;have k:(FW n).fn b.fn:=trivial;have q:(FW n).room (h.length+1+0):=aaN n _;obtain⟨j,a₁,w₁,e,d⟩:=A b (.inLoop c::z) h y k q;cases j with
 |normal=>
  obtain⟨j₂,a₂,w₂,e₂,d₂⟩:=e b z h y;exact⟨j₂,a₂,w₂,e₂,.of_steps (StepsIn.trans d (.one (fenced_calm k q rfl) stepR_inLoop)) d₂⟩
 |exit id=>exact⟨_,a₁,w₁,e,.pass (x:=.inLoop c) rfl (λ_ _=>.inl gs) d⟩
 |goto l=>exact⟨_,a₁,w₁,e,.pass (x:=.inLoop c) rfl (λ_ _=>.inl gs) d⟩
 |ret=>exact⟨_,a₁,w₁,e,.pass (x:=.inLoop c) rfl (λ_ _=>.inl gs) d⟩
 |panic B=>exact⟨_,a₁,w₁,e,.pass (x:=.inLoop c) rfl (λ_ _=>.inl gs) d⟩
 |outgrown=>exact⟨_,a₁,w₁,e,.pass (x:=.inLoop c) rfl (λ_ _=>.inl gs) d⟩
def LP(P:au)(n:Cx)(c:Code)(Q:Exit->Act->J->Prop)(E:Env)(w:J):Prop:=∀a,Ag n a E->pT P n c Q a w
def WP.loop{c x:Code}{Q:Exit->Act->J->Prop}{E:Env}{w:J}(h:c=.loop x)(d:LP P n x Q E w):WP P n c Q E w:=λa e=>by subst h;exact Tp (d a e)
def LP.step{c:Code}{Q:Exit->Act->J->Prop}{E:Env}{w:J}(d:WP P n c (Exit.then (pT P n c Q) Q) E w):LP P n c Q E w:=λa e=>LR (d a e)
def FP:List V->V
 |[v]=>v
 |d=>.tuple d.toArray
def se(P:au)(E:Env)(w:J):List ResultVar->(List V->Prop)->Prop
 |[],d=>d []
 |.tmp t::l,d=>match E.get? t with
  |some v=>se P E w l λe=>d (v::e)
  |none=>False
 |.cell j h::l,d=>match E.get? j with
  |some (.pointer (some p))=>n9 P h p w λv _=>se P E w l λe=>d (v::e)
  |_=>False
def lq(P:au)(fn:Func)(E:Env)(w:J)(K:V->Prop):Prop:=se P E w fn.results.toList λd=>K (FP d)
def py(tmps:Array V):ResultVar->Sem V
 |.tmp t=>pure (tmps.getD t undef)
 |.cell a t=>do loadVar t (<-asAddr (tmps.getD a undef))
def Gh(fn:Func)(tmps:Array V):results fn tmps=(do let d <-fn.results.mapM (py tmps);pure (if e:d.size=1 then d[0]else .tuple d)):=by unfold results;congr 1
def Gi{a:Act}{E:Env}(h:Ag n a E)(w:J):∀{l:List ResultVar} {K:List V->Prop},se P E w l K->
  ∃e,(l.mapM (py a.tmps)).run P w=.ok e w/\K e
 |[],K,d=>⟨[],gs,d⟩
 |.tmp t::l,K,d=>by
  unfold se at d;split at d
  .rename_i v A;obtain⟨e,q,k⟩:=Gi h w d;refine⟨v::e,?_,k⟩;have j:=h.get t v A;simp[List.mapM_cons,py,q,j]
  grind
 |.cell B D::l,K,d=>by
  unfold se at d;split at d
  .rename_i p x;obtain⟨v,C,d,y,z⟩:=Ek d;obtain⟨e,q,k⟩:=Gi h w d;refine⟨v::e,?_,k⟩;have j:=h.get B _ x;simp[List.mapM_cons,py,q,j,asAddr,z w y]
  grind
def Gk{fn:Func}{a:Act}{E:Env}{w:J}{R:cR->J->Prop}(h:Ag n a E)(e:lq P fn E w λv=>R (ad v) w):
  ∃v,(results fn a.tmps).run P w=.ok v w/\R (ad v) w:=by
 obtain⟨d,k,j⟩:=Gi h w e;refine⟨_,?_,j⟩;rw[Gh,<-Array.toArray_toList (xs:=fn.results),List.mapM_toArray];simp only[Sem.run_bind,Sem.run_map,k,Result.andThen_ok,Sem.run_pure];congr 1;cases d with
 |nil=>rfl
 |cons v d=>cases d<;>rfl
def xy{m:Nat}{fn:Func}{a:Act}{E:Env}{w:J}{R:cR->J->Prop}(d:Ag (cx m) a E)(e:lq P fn E w λv=>R (ad v) w):
  a.defers=[]/\∃v,(results fn a.tmps).run P w=.ok v w/\R (ad v) w:=⟨d.defers,Gk d e⟩
def Vx{f:bX}{fn:Func}{c:Code}{args:Array V}{w:J}{R:cR->J->Prop}{E:Env}(h:P.funcs[f]? =some fn)(e:fn.body=some c)(k:args.size<=fn.ntmps)(j:∀t v,E.get? t=some v->args[t]? =some v)(d:WP P (cx fn.ntmps) c (bodyPost P fn R) E w):aj P f args w R:=by
 refine calls_of_wp h e (wpIn_wide.1 (d _ ⟨rfl,by grind,?_⟩))
 grind
def kp:Nat->List V->Env
 |_,[]=>[]
 |i,v::l=>(i,v)::kp (i+1) l
def Dn:∀(l:List V) (i t:Nat) (v:V),(kp i l).get? t=some v->i<=t/\l[t - i]? =some v
 |[],_,_,_,d=>by simp[kp,Env.get?]at d
 |u::l,i,t,v,d=>by
  simp only[kp,Env.get?]at d;by_cases e:i=t
  .subst e;simp at d;grind
  .have h:bH i t=false:=by rw[<-ij,eA];exact e
   simp only[h,cond_false]at d;obtain⟨j,k⟩:=Dn l (i+1) t v d
   grind
def vY{f:bX}{fn:Func}{c:Code}{args:List V}{w:J}{R:cR->J->Prop}(h:P.funcs[f]? =some fn)(e:fn.body=some c)(j:Nat.ble args.length fn.ntmps=true)(d:WP P (cx fn.ntmps) c (bodyPost P fn R) (kp 0 args) w):aj P f args.toArray w R:=
 Vx h e (by simpa using Nat.le_of_ble_eq_true j) (λt v k=>by
  have:=(Dn args 0 t v k).2
  grind) d
def abk{t:Bool}{A e d h:Prop}(k:A->d)(q:e->h)(j:bB t A e):bB t d h:=by
 cases t
 .exact q j
 .exact k j
def asInt(k:hY)(v:Option V)(K:Int->Prop):Prop:=match v with |some (.int d n)=>cL (d==k) (K n)|_=>False
def nj{k:hY}{v:Option V}{K:Int->Prop}(d:asInt k v K):∃n,v=some (.int k n)/\K n:=by
 unfold asInt at d;split at d
 .obtain ⟨e,h⟩:=dC d
  grind
 grind
def pW(v:Option V)(K:ByteArray->Prop):Prop:=match v with |some (.string b)=>K b|_=>False
def ti{v:Option V}{K:ByteArray->Prop}(d:pW v K):∃b,v=some (.string b)/\K b:=by
 unfold pW at d
 grind
def asSlice(v:Option V)(K:Sl->Prop):Prop:=match v with |some (.slice a n c)=>K ⟨a,n,c⟩|_=>False
def b5(v:Option V)(K:Addr->Prop):Prop:=match v with |some (.pointer (some a))=>K a|_=>False
def cd{v:Option V}{K:Addr->Prop}(d:b5 v K):∃a,v=some (.pointer (some a))/\K a:=by
 unfold b5 at d
 grind
def asAgg(v:Option V)(K:List V->Prop):Prop:=match v with |some (.agg d)=>K d.toList|_=>False
def yD{v:Option V}{K:List V->Prop}(e:asAgg v K):∃d:List V,v=some (.agg d.toArray)/\K d:=by
 unfold asAgg at e;split at e
 .grind
 grind
def th(f:bX)(v:Option V)(K:List V->List V->Prop):Prop:=match v with |some (.func (.func g) e d)=>cL (bH g f) (K e.toList d.toList)|_=>False
def H2{f:bX}{v:Option V}{K:List V->List V->Prop}(d:th f v K):∃h e:List V,v=some (.func (.func f) h.toArray e.toArray)/\K h e:=by
 unfold th at d;split at d
 .obtain ⟨j,k⟩:=dC d;rw[eA]at j;subst j
  grind
 grind
def jo(l:List V)(K:V->List V->Prop):Prop:=match l with |v::r=>K v r|[]=>False
def kY{l:List V}{K:V->List V->Prop}(d:jo l K):∃v r,l=v::r/\K v r:=by
 cases l with
 |nil=>exact d.elim
 |cons v r=>exact⟨v,r,rfl,d⟩
def lI(l:List V)(K:Prop):Prop:=match l with |[]=>K|_=>False
def pV{l:List V}{K:Prop}(d:lI l K):l=[]/\K:=by
 cases l with
 |nil=>exact⟨rfl,d⟩
 |cons v r=>exact d.elim
end
def q6(k:hY)(x y:Int):Int:=k.wrap ((lD k.bits x&&& lD k.bits y).toNat:Int)
def tl(k:hY)(x y:Int):Int:=k.wrap ((lD k.bits x|||lD k.bits y).toNat:Int)
def Ib(k:hY)(x y:Int):Int:=k.wrap ((lD k.bits x^^^lD k.bits y).toNat:Int)
def Uh(k:hY)(x y:Int):Int:=k.wrap ((lD k.bits x&&& ~~~ lD k.bits y).toNat:Int)
inductive Tr where
 |nil
 |one (i:Nat) (t:Tr)
 |fork (a b:Tr)
def Tr.jT:Tr->List Nat
 |.nil=>[]
 |.one i _=>[i]
 |.fork a b=>a.jT++b.jT
def Tr.len:Tr->Nat
 |.nil=>0
 |.one _ t=>t.len+1
 |.fork a _=>a.len
def wJ(P:au)(ops:Array Oper)(i:Nat)(E:Env)(w:J)(H:ep)(d:Env->J->ep->Prop):Prop:=
 match ops[i]? with
 |none=>False
 |some o=>match o.guard with
  |none=>pF P ops true i o E w H d
  |some (h,want)=>match kr ops h with
   |none=>False
   |some e=>match E.get? e with
    |some (.bool t)=>bB t (mE P ops true i o e want true E w H d) (mE P ops true i o e want false E w H d)
    |some (.tuple _)=>d (Env.put E o.dst undef) w (bif calm P o then H else cV ops i H)
    |_=>False
def pL(P:au)(ops:Array Oper)(K:Env->J->Prop):Tr->Env->J->ep->Prop
 |.nil,d,e,_=>K d e
 |.one i t,d,e,h=>wJ P ops i d e h λj q k=>pL P ops K t j q k
 |.fork a b,d,e,h=>pL P ops K a d e h/\pL P ops K b d e h
def iD(P:au)(ops:Array Oper):Tr->Bool->Array Bool->Bool
 |.nil,alt,d=>!alt&&(dY .any ops d).isEmpty
 |.one i t,alt,d=>(match ops[i]? with
   |some o=>bif alt then !calm P o else bif calm P o then Region.free .any ops d i&&(dY .any ops d).contains i else dY .any ops d==[i]
   |none=>false)&&iD P ops t false (d.setIfInBounds i true)
 |.fork a b,alt,d=>(alt||dY .any ops d==(Tr.fork a b).jT)&&(bH a.len b.len&&(iD P ops a true d&&iD P ops b true d))
section
variable {P:au} {ops:Array Oper} {n:Cx} {K:Env->J->Prop}
def R5{i:Nat}{o:Oper}{a:Act}{E:Env}{w:J}{H:ep}{Kh:Env->J->ep->Prop}{B:Array Bool}{fuel:Nat}{Q:Exit->Act->J->Prop}(z:du n ops=true)(k:ops[i]? =some o)(G:calm P o=false)(y:Ag n a E)(L:ct o (yielded ops a.tmps)=true)(h:pF P ops true i o E w H Kh)(next:∀e q d j,Ag n e q->(∀p∈j,p.2 d)->Kh q d j->eh P ops Q fuel j (B.setIfInBounds i true) e d):
  wpOp P ops Q i (λe d=>(∀p∈cV ops i H,p.2 d)/\eh P ops Q fuel (cV ops i H) (B.setIfInBounds i true) e d) a w:=by have I:=Region.noSelect_spec (ops:=ops) (by unfold du at z;grind);unfold pF at h;rw[G]at h;simp only[cond_false,cond_true]at h;refine Hk k L (nX (λC b=>I i o C b k) y h) λv d K=>?_;obtain⟨D,F⟩:=tf K;have x:∀p∈cV ops i H,p.2 d:=λp A=>D _ (DT (fy.1 A).1 (fy.1 A).2);exact⟨x,next _ _ _ _ (y.put v (g3 z k)) x F⟩
def GC{i:Nat}{o:Oper}{a:Act}{w:J}{H:ep}{d:Array Bool}{fuel:Nat}{Q:Exit->Act->J->Prop}(k:ops[i]? =some o)(j:∀p∈H,p.2 w)(x:ct o (yielded ops a.tmps)=false)(next:eh P ops Q fuel (cV ops i H) (d.setIfInBounds i true) (a.put o.dst undef) w):
  wpOp P ops Q i (λh e=>(∀p∈cV ops i H,p.2 e)/\eh P ops Q fuel (cV ops i H) (d.setIfInBounds i true) h e) a w:=by unfold wpOp;simp only[k,x];exact⟨λp q=>j p (fy.1 q).1,next⟩
def Xg(x:du n ops=true){i:Nat}{o:Oper}{E:Env}{w:J}{H:ep}{a:Act}{F:Env->J->ep->Prop}{A:Array Bool}{fuel:Nat}(e:ops[i]? =some o)(B:(bif calm P o then Region.free .any ops A i&&(dY .any ops A).contains i else dY .any ops A==[i])=true)(j:Ag n a E)(h:∀p∈H,p.2 w)(d:wJ P ops i E w H F)(next:∀N M L D,Ag n N M->(∀p∈D,p.2 L)->F M L D->eh P ops (hJ n K) fuel D (A.setIfInBounds i true) N L):eh P ops (hJ n K) (fuel+1) H A a w:=by
 unfold wJ at d;rw[e]at d;simp only at d;cases k:o.guard with
 |none=>
  rw[k]at d;simp only at d;exact A6 x e B (λ_ _ _=>rfl) j h (by simp[ct,k]) d next
 |some T=>
  obtain⟨S,want⟩:=T;rw[k]at d;simp only at d;cases I:kr ops S with
  |none=>grind
  |some Q=>
   rw[I]at d;simp only at d;split at d
   .rename_i t z;have C:=sR j I z;have q:mE P ops true i o Q want t E w H F:=by
     cases t
     .exact d
     .exact d
    unfold mE at q;cases O:(t==want)with
    |true=>
     rw[O]at q;exact A6 x e B (λ_ _ _=>rfl) (j.same z) h (by simp[ct,k,C];grind) q next
    |false=>
     rw[O]at q;simp only[cond_false]at q;refine AY x e B (λ_ _ _=>rfl) h (by simp[ct,k,C];grind) ?_;refine next _ _ _ _ ((j.same z).put undef (g3 x e)) ?_ q
     intro p y;cases G:calm P o
     .rw [G]at y;exact h p (fy.1 y).1
     grind
   .rename_i W z;have C:=sS j I z;refine AY x e B (λ_ _ _=>rfl) h (by simp[ct,k,C]) ?_;refine next _ _ _ _ (j.put undef (g3 x e)) ?_ d
    intro p y;cases G:calm P o
    .rw [G]at y;exact h p (fy.1 y).1
    grind
   grind
def Xi(A:du n ops=true){i:Nat}{o:Oper}{E:Env}{w:J}{H:ep}{a:Act}{D:Env->J->ep->Prop}{N:Array Bool}{fuel:Nat}(e:ops[i]? =some o)(z:calm P o=false)(h:Ag n a E)(F:∀p∈H,p.2 w)(d:wJ P ops i E w H D)(next:∀y I q C,Ag n y I->(∀p∈C,p.2 q)->D I q C->eh P ops (hJ n K) fuel C (N.setIfInBounds i true) y q):
  wpOp P ops (hJ n K) i (λy q=>(∀p∈cV ops i H,p.2 q)/\eh P ops (hJ n K) fuel (cV ops i H) (N.setIfInBounds i true) y q) a w:=by
 unfold wJ at d;rw[e]at d;simp only at d;have L:∀p∈cV ops i H,p.2 w:=λp Q=>F p (fy.1 Q).1;cases j:o.guard with
 |none=>
  rw[j]at d;simp only at d;exact R5 A e z h (by simp[ct,j]) d next
 |some T=>
  obtain⟨S,want⟩:=T;rw[j]at d;simp only at d;cases G:kr ops S with
  |none=>grind
  |some O=>
   rw[G]at d;simp only at d;split at d
   .rename_i t x;have B:=sR h G x;have k:mE P ops true i o O want t E w H D:=by
     cases t
     .exact d
     .exact d
    unfold mE at k;cases M:(t==want)with
    |true=>
     rw[M]at k;exact R5 A e z (h.same x) (by simp[ct,j,B];grind) k next
    |false=>
     rw[M,z]at k;simp only[cond_false]at k;exact GC e F (by simp[ct,j,B];grind) (next _ _ _ _ ((h.same x).put undef (g3 A e)) L k)
   .rename_i W x;have B:=sS h G x;rw[z]at d;simp only[cond_false]at d;exact GC e F (by simp[ct,j,B]) (next _ _ _ _ (h.put undef (g3 A e)) L d)
   grind
def G9:∀(t:Tr) (e:Array Bool),iD P ops t true e=true->∃m,t.len=m+1
 |.nil,e,d=>by simp[iD]at d
 |.one i t,e,_=>⟨t.len,rfl⟩
 |.fork a b,e,d=>by unfold iD at d;simp only[be]at d;exact G9 a e d.2.2.1
def G8:∀(t:Tr) (e:Array Bool),iD P ops t true e=true->t.jT≠[]
 |.nil,e,d=>by simp[iD]at d
 |.one i t,e,_=>by simp[Tr.jT]
 |.fork a b,e,d=>by unfold iD at d;simp only[be]at d;have:=G8 a e d.2.2.1;simp[Tr.jT,this]
def xZ(D:du n ops=true):∀(t:Tr) (alt:Bool) (e:Array Bool) (E:Env) (w:J) (H:ep) (a:Act) (m:Nat),iD P ops t alt e=true->Ag n a E->(∀p∈H,p.2 w)->pL P ops K t E w H->
  (alt=false->t.len=m->eh P ops (hJ n K) m H e a w)/\
  (alt=true->t.len=m+1->∀i∈t.jT,wpOp P ops (hJ n K) i (λx k=>(∀p∈cV ops i H,p.2 k)/\eh P ops (hJ n K) m (cV ops i H) (e.setIfInBounds i true) x k) a w)
 |.nil,alt,e,E,w,H,a,m,d,y,C,h=>by
  unfold iD at d;rw[be]at d;refine⟨λ_ j=>?_,λB=>?_⟩
  .subst j;exact λ_=>⟨by grind,E,y,h⟩
  grind
 |.one i t,alt,e,E,w,H,a,m,d,y,C,h=>by
  unfold iD at d;rw[be]at d;obtain⟨d,Z⟩:=d;cases S:ops[i]? with
  |none=>grind
  |some o=>
   rw[S]at d;simp only at d;unfold pL at h;refine⟨λB j=>?_,λB j ab hj=>?_⟩
   .subst B j;exact Xg D S d y C h λx I k L M N O=>(xZ D t false _ I k L x _ Z M N O).1 rfl rfl
   .subst B;rw[cond_true]at d;obtain rfl:=b'.1 hj;have Q:t.len=m:=by simpa[Tr.len]using j
    exact Xi D S (by grind) y C h λx I k L M N O=>(xZ D t false _ I k L x _ Z M N O).1 rfl Q
 |.fork A G,alt,e,E,w,H,a,m,d,y,C,h=>by
  unfold iD at d;simp only[be]at d;obtain⟨hr,W,T,hy⟩:=d;rw[eA]at W;unfold pL at h;have both:∀q,A.len=q+1->∀i∈(Tr.fork A G).jT,wpOp P ops (hJ n K) i (λx k=>(∀p∈cV ops i H,p.2 k)/\eh P ops (hJ n K) q (cV ops i H) (e.setIfInBounds i true) x k) a w:=λq F i z=>by
   rcases aK.1 z with z|z
   .exact (xZ D A true e E w H a q T y C h.1).2 rfl F i z
   .exact (xZ D G true e E w H a q hy y C h.2).2 rfl (W▸F) i z
  refine⟨λB j=>?_,λ_ j=>both m j⟩;subst B;obtain⟨q,F⟩:=G9 A e T;have Q:m=q+1:=by rw[<-j,<-F];rfl
  subst Q;have Y:dY .any ops e=(Tr.fork A G).jT:=by grind
  have aa:(Tr.fork A G).jT≠[]:=by have:=G8 A e T;simp[Tr.jT,this]
  exact λ_=>⟨λh0=>absurd (Y▸h0) aa,λi z=>both q F i (Y▸z)⟩
def adg{c:Code}{id:Nat}{a:Act}{E:Env}{w:J}{t:Tr}(y:P.follows .mixedOrders=true)(q:c=.region id ops true)(e:du n ops=true)(x:iD P ops t false (gd ops.size false)=true)(A:t.len=ops.size)(k:Ag n a E)(d:pL P ops K t E w.drew []):c.wpIn (FW n) 0 P (hJ n K) a w:=by subst q;have h:=(xZ e t false _ E _ [] a _ x k (λp z=>(by cases z)) d).1 rfl A;have j:=ye _ [] _ _ _ (Down.zero _ _) h;refine wpIn_region_draw λt=>?_;refine sP e (λ⟨_,_,d⟩=>d) _ _ _ ?_;simp only[Region.schedule,y,Bool.true_or,if_true];exact wpAny_sound ops.size t _ a _ j
def uV(P:au)(n:Nat)(c:Code)(t:Tr):Bool:=match c with
 |.region _ ops d=>d&&(P.follows .mixedOrders&&(du n ops&&(iD P ops t false (gd ops.size false)&&bH t.len ops.size)))
 |_=>false
def WP.tree{c:Code}{Q:Exit->Act->J->Prop}{E:Env}{w:J}(t:Tr)(K:Env->J->Prop)(d:uV P n c t=true)(y:pL P (Code.ops c) K t E w.drew [])(F:∀e j h,Ag n h e->K e j->Q .normal h j):WP P n c Q E w:=by
 unfold uV at d;split at d
 .rename_i id ops D;simp only[be]at d;obtain⟨rfl,z,A,B,k⟩:=d;rw[eA]at k;exact λa C=>wpIn_mono (adg z rfl A B k C y) λx h j q=>by
   cases x with
   |normal=>obtain⟨e,hA,hK⟩:=q;grind
   |_=>exact q.elim
 grind
end
section
variable {P:au}
def lo(r:Loop)(st:LoopState)(d:Option Code):Obj:=.loop {r with state:=st,pending:=d}
structure BV(r:Loop)(m:Nat)(ps:Array Tmp)(assign body:Code)(E:Env):Prop where
 ps:r.params=ps
 assign:r.assign=assign
 body:r.body=body
 size:r.tmps.size=m
 get:∀t v,E.get? t=some v->r.tmps[t]? =some v
def pq:Env->List Nat->List V->Env
 |d,p::e,v::h=>pq ((p,v)::d) e h
 |d,_,_=>d
def Qa{m l:Nat}:∀(ps:List Nat) (vs:List V) (E:Env) (tmps:Array V),tmps.size=m->(∀p∈ps,p<m)->(∀t v,E.get? t=some v->tmps[t]? =some v)->
  Ag ⟨m,[],some l⟩ {tmps:=(ps.zip vs).foldl (λt (p,v)=>t.setIfInBounds p v) tmps,defers:=[]} (pq E ps vs)
 |[],vs,E,tmps,h,_,e=>⟨rfl,by simpa using h,by cases vs<;>simpa[pq]using e⟩
 |p::ps,[],E,tmps,h,_,e=>⟨rfl,by simpa using h,by simpa[pq]using e⟩
 |p::ps,v::vs,E,tmps,h,j,e=>by simp only[List.zip_cons_cons,List.foldl_cons,pq];refine Qa ps vs _ _ (by grind) (λq w=>j q (by grind)) ?_;have:=(Ag.put (n:=⟨m,[],some l⟩) (a:={tmps:=tmps,defers:=[]}) (E:=E) ⟨rfl,h,e⟩ (d:=some p) v (λt k=>by cases k;exact j p gs)).get;simpa[Env.put,Act.put]using this
def oB(P:au)(l:Nat)(args:Array V)(w:J)(K:Bool->J->Prop):Prop:=
 YieldAt Fence.wide 0 P l args w λd e=>∃b:Bool,d=ad (.bool b)/\K b e
def vH(P:au)(m l:Nat)(r:Loop)(body:Code)(Q:Exit->Act->J->Prop):Exit->Act->J->Prop:=
 Exit.then (λa₁ d₁=>d₁.heap[l]? =some (lo r .ready none)/\gT P ⟨m,[],some l⟩ body Q a₁ (d₁.putObj l (lo r .busy none))) (λ_ _ _=>False)
def Tq{m l:Nat}{r:Loop}{ps:Array Tmp}{assign body:Code}{E:Env}{args:List V}{w:J}{R:cR->J->Prop}{K:Bool->J->Prop}(d:BV r m ps assign body E)(A:w.heap[l]? =some (lo r .ready none))(F:args.length=ps.size)(B:ps.toList.all (λp=>Nat.blt p m)=true)(y:∀e h,R e h->∃b:Bool,e=ad (.bool b)/\K b h)(k:WP P ⟨m,[],some l⟩ assign (vH P m l r body (roundPost P l R)) (pq E ps.toList args) w):oB P l args.toArray w K:=by
 have D:=run_yield (P:=P) (w:=w) (args:=args.toArray) A (by simp[d.ps,F]);refine⟨_,_,_,_,D,RoundIn.mono (roundIn_of_wpIn (R:=R) trivial ?_) y⟩;simp only[d.ps,d.assign,d.body];have z:Ag ⟨m,[],some l⟩ {tmps:=(ps.zip args.toArray).foldl (λt (p,v)=>t.setIfInBounds p v) r.tmps,defers:=[]} (pq E ps.toList args):=by have:=Qa (m:=m) (l:=l) ps.toList args E r.tmps d.size (λp C=>by simpa using cY.1 B p C) d.get;rw[<-Array.foldl_toList];simpa using this
 refine wpIn_mono (k _ z) λe G h j=>?_;cases e with
 |normal=>
  obtain⟨q,x⟩:=j;exact⟨_,run_beginRound q rfl,x⟩
 |_=>exact j.elim
def QZ{l:Nat}{r:Loop}{a:Act}{w:J}{R:cR->J->Prop}(e:w.heap[l]? =some (lo r .busy none))(d:R (ad (.bool true)) (w.putObj l (lo r .ready none))):roundPost P l R .normal a w:=
 ⟨_,_,run_endRound none e,d⟩
def Q7{l:Nat}{r:Loop}{a:Act}{w:J}{R:cR->J->Prop}(e:w.heap[l]? =some (lo r .busy none))(d:R (ad (.bool false)) (w.putObj l (lo r .done (some .ret)))):roundPost P l R .ret a w:=
 ⟨_,_,run_endRound (some .ret) e,d⟩
abbrev marked(m D:Nat):Cx:=⟨m,[{target:=.collected D,args:=#[]}],none⟩
def qU(d:J)(l:Nat)(o:LoopState->Option Code->Obj)(N:J->Prop)(X:Nat->J->Prop)(T:J->Prop):Prop:=
 (d.heap[l]? =some (o .ready none)/\N (d.putObj l (o .exhausted none)))\/
 (∃id,d.heap[l]? =some (o .done (some (.exit id)))/\X id (d.putObj l (o .exhausted (some (.exit id)))))\/
 (d.heap[l]? =some (o .done (some .ret))/\T (d.putObj l (o .exhausted (some .ret))))
def WP.range{m:Nat}{c:Code}{g:Operand}{ps:Array Tmp}{assign body:Code}{gf:Nat}{lb:Array V}{Q:Exit->Act->J->Prop}{E:Env}{w:J}(N:J->Prop)(X:Nat->J->Prop)(T:J->Prop)(K:c=.rangeFunc g ps assign body)(S:E.val g=some (.func (.func gf) #[] lb))(L:hg P gf=true)(G:∀d,N d->∀a,Ag (marked m w.heap.size) a E->Q .normal a d)(I:∀id d,X id d->∀a,Ag (marked m w.heap.size) a E->Q (.exit id) a d)(H:∀d,T d->∀a,Ag (marked m w.heap.size) a E->Q .ret a d)(k:∀r:Loop,BV r m ps assign body E->aj P gf (#[.func (.yield (w.heap.size+1)) #[] #[]]++lb) ((w.alloc (.deferred (some []))).alloc (lo r .ready none)) λx z=>(∃v,x=ad v)/\qU z (w.heap.size+1) (lo r) N X T):
  WP P (cx m) c Q E w:=by
 subst K;intro a e;have q:Ag (marked m w.heap.size) {a with defers:=[{target:=.collected w.heap.size,args:=#[]}]++a.defers} E:=⟨by show _++a.defers=_;rw[e.defers];rfl,e.size,e.get⟩;have W:a.eval g=.func (.func gf) #[] lb:=e.val S;refine wpIn_rangeFunc (F:=FW (cx m)) (n:=0) λfn _=>?_;obtain⟨r,y⟩:∃r:Loop,r={state:=.ready,pending:=none,fn,tmps:=a.tmps,params:=ps,assign,body,defers:=w.heap.size}:=⟨_,rfl⟩;have Y:BV r m ps assign body E:=by subst y;exact⟨rfl,rfl,rfl,e.size,e.get⟩
 have M:=k r Y;have A:(Instr.enterLoop fn a.tmps ps assign body none).run P w=.ok (w.heap.size+1,[{target:=.collected w.heap.size,args:=#[]}]) ((w.alloc (.deferred (some []))).alloc (lo r .ready none)):=by rw[run_enterLoop_outer];subst y;rfl
 generalize Z:(w.alloc (.deferred (some []))).alloc (lo r .ready none)=W1 at *;have B:(resolve a.eval (rangeCall g (w.heap.size+1)) 0).run P W1=.ok {target:=.fn (.func gf) lb,args:=#[.func (.yield (w.heap.size+1)) #[] #[]]} W1:=by simp only[resolve,W];simp[go_sem]
 have C:(invoke (.fn (.func gf) lb) #[.func (.yield (w.heap.size+1)) #[] #[]]).run P W1=.ok (.enter gf (#[.func (.yield (w.heap.size+1)) #[] #[]]++lb)) W1:=by simp[invoke,go_sem,tv L]
 have D:CallsIn (FW (cx m)) 0 P gf (#[.func (.yield (w.heap.size+1)) #[] #[]]++lb) W1 (rangePost (FW (cx m)) 0 P (w.heap.size+1) Q {a with defers:=[{target:=.collected w.heap.size,args:=#[]}]++a.defers}):=by
  refine I7 (n:=cx m) (M.mono ?_);rintro x z ⟨⟨v,rfl⟩,O⟩;rcases O with⟨h,j⟩|⟨id,h,j⟩|⟨h,j⟩
  .exact ⟨_,_,run_endLoop (r:={r with state:=.ready,pending:=none}) h gs,G _ j _ q⟩
  .exact ⟨_,_,run_endLoop (r:={r with state:=.done,pending:=some (.exit id)}) h gs,wpIn_exit (I id _ j _ q)⟩
  .exact ⟨_,_,run_endLoop (r:={r with state:=.done,pending:=some .ret}) h gs,wpIn_ret (H _ j _ q)⟩
 exact⟨_,_,_,_,_,_,_,_,A,B,λ_ _=>trivial,C,λk=>(by cases k),D⟩
def AB(P:au)(fn:Func)(E:Env)(w:J)(D:Nat)(R:aB):Prop:=
 w.heap[D]? =some (.deferred (some []))/\lq P fn E (w.putObj D (.deferred none)) λv=>R (ad v) (w.putObj D (.deferred none))
def Ls{fn:Func}{tmps:Array V}{R:cR->J->Prop}{w:J}{v:V}(d:(results fn tmps).run P w=.ok v w)(e:R (ad v) w):LeavesInM Fence.wide 0 P fn tmps R [] .returning w:=by
 show LeavesIn _ _ _ _ _ _ _ _ _;simp only[LeavesIn]
 grind
def QX{m:Nat}{fn:Func}{a:Act}{E:Env}{w:J}{R:aB}(d:Ag (cx m) a E)(e:lq P fn E w λv=>R (ad v) w):LeavesInM Fence.wide 0 P fn a.tmps R a.defers .returning w:=by obtain⟨v,h,j⟩:=Gk d e;rw[d.defers];exact Ls h j
def xz{m D:Nat}{fn:Func}{a:Act}{E:Env}{w:J}{R:aB}(e:Ag (marked m D) a E)(d:AB P fn E w D R):LeavesInM Fence.wide 0 P fn a.tmps R a.defers .returning w:=by obtain⟨h,d⟩:=d;obtain⟨v,j,k⟩:=Gk (n:=marked m D) e d;rw[e.defers];exact⟨gs,.inl ⟨D,_,rfl,run_takeDeferred h,Ls j k⟩⟩
def I8{f:bX}{fn:Func}{c:Code}{args:List V}{w:J}{R:cR->J->Prop}(h:P.funcs[f]? =some fn)(e:fn.body=some c)(j:Nat.ble args.length fn.ntmps=true)(d:WP P (cx fn.ntmps) c (bodyPostM Fence.wide 0 P fn R) (kp 0 args) w):aj P f args.toArray w R:=by
 have q:=Nat.le_of_ble_eq_true j;refine callsIn_wide.1 (callsIn_of_wp_marks (n:=0) h e trivial (d _ ⟨rfl,by grind,?_⟩));intro t v k;have:=(Dn args 0 t v k).2
 grind
def yE(v:Option V)(K:Nat->Prop):Prop:=match v with |some (.func (.yield l) e d)=>cL (bH e.size 0&&bH d.size 0) (K l)|_=>False
def H4{v:Option V}{K:Nat->Prop}(d:yE v K):∃l,v=some (.func (.yield l) #[] #[])/\K l:=by
 unfold yE at d;split at d
 .rename_i l j h;obtain⟨e,k⟩:=dC d;simp only[be,eA]at e
  grind
 grind
end
abbrev _root_.Go.Code.sn(c:Code):Code:=Code.snd c
abbrev _root_.Go.Code.fs(c:Code):Code:=Code.fst c
abbrev _root_.Go.Value.i(x:Int):V:=.int .i64 x
abbrev _root_.Go.Value.u(x:Int):V:=.int .u64 x
abbrev _root_.Go.Value.s0:V:=.string (a8 #[])
abbrev nb(w:J):Addr:=⟨w.heap.size,0,none⟩
section
variable {P:au} {n:Cx} {Q:Exit->Act->J->Prop} {E:Env} {w:J} {K:Env->J->Prop}
def AD(P:au)(c:Code)(K:Env->J->Prop)(E:Env)(w:J):Prop:=g6 P (Code.ops c) false K (List.range (Code.ops c).size) E w []
def V5(P:au)(c:Code)(l:List Nat)(K:Env->J->Prop)(E:Env)(w:J):Prop:=g6 P (Code.ops c) true K l E w.drew []
def tgK(P:au)(c:Code)(t:Tr)(K:Env->J->Prop)(E:Env)(w:J):Prop:=pL P (Code.ops c) K t E w.drew []
abbrev eP(P:au)(c:Code)(K:Env->J->Prop)(E:Env)(w:J):Prop:=AD P (Code.fst c) K E w
abbrev sdK(P:au)(c:Code)(l:List Nat)(K:Env->J->Prop)(E:Env)(w:J):Prop:=V5 P (Code.fst c) l K E w
abbrev stK(P:au)(c:Code)(t:Tr)(K:Env->J->Prop)(E:Env)(w:J):Prop:=tgK P (Code.fst c) t K E w
def ug:Code->Bool
 |.seq _ _=>true
 |_=>false
def xH{c:Code}(d:ug c=true):c=.seq (Code.fst c) (Code.snd c):=by cases c<;>first |rfl|cases d
def pU{a b:Bool}(d:(a&&b)=true):a=true/\b=true:=by grind
def rg(c:Code)(k:sb n c=true)(j:AD P c K E w)(q:∀d h e,Ag n e d->K d h->Q .normal e h):WP P n c Q E w:=WP.l3 K k j q
def sr(c:Code)(k:eP P c K E w)(y:∀d e,K d e->WP P n (Code.snd c) Q d e)(h:(ug c&&sb n (Code.fst c))=true:=by kernel_rfl):WP P n c Q E w:=
 WP.seq (xH (pU h).1) (WP.l3 K (pU h).2 k λd e j q x=>y d e x j q)
def sd(c:Code){l:List Nat}(h:(ug c&&F' P n (Code.fst c) l)=true)(k:sdK P c l K E w)(y:∀d e,K d e->WP P n (Code.snd c) Q d e):WP P n c Q E w:=
 WP.seq (xH (pU h).1) (WP.draw l K (pU h).2 k λd e j q x=>y d e x j q)
def st(c:Code){t:Tr}(h:(ug c&&uV P n (Code.fst c) t)=true)(k:stK P c t K E w)(y:∀d e,K d e->WP P n (Code.snd c) Q d e):WP P n c Q E w:=
 WP.seq (xH (pU h).1) (WP.tree t K (pU h).2 k λd e j q x=>y d e x j q)
def sq(c:Code)(d:WP P n (Code.fst c) (Exit.then (gT P n (Code.snd c) Q) Q) E w)(e:ug c=true:=by kernel_rfl):WP P n c Q E w:=WP.seq (xH e) d
def bk(c:Code)(id:Nat)(e:c=.block id (Code.fst c))(d:WP P n (Code.fst c) (Exit.inBlock id Q) E w):WP P n c Q E w:=WP.block e d
def cn(c:Code){o:Operand}{A d:Prop}(e:iu (E.val o) A d)(h:A->WP P n (Code.fst c) Q E w)(j:d->WP P n (Code.snd c) Q E w)(k:c=.cond o (Code.fst c) (Code.snd c):=by kernel_rfl):WP P n c Q E w:=WP.iu k h j e
def sk(c:Code)(d:∀a,Ag n a E->Q .normal a w)(e:c=.skip:=by kernel_rfl):WP P n c Q E w:=WP.skip e d
def xt(c:Code)(id:Nat)(e:c=.exit id)(d:∀a,Ag n a E->Q (.exit id) a w):WP P n c Q E w:=WP.exit e d
def rt(c:Code)(d:∀a,Ag n a E->Q .ret a w)(e:c=.ret:=by kernel_rfl):WP P n c Q E w:=WP.ret e d
def lp(c:Code)(e:c=.loop (Code.fst c))(d:LP P n (Code.fst c) Q E w):WP P n c Q E w:=WP.loop e d
def nx{c:Code}{a:Act}(e:Ag n a E)(d:WP P n c Q E w):Exit.then (gT P n c Q) Q .normal a w:=d a e
end
open Go.RowKit
structure Fr(M:Nat->Prop)(w w':J):Prop where
 os:w'.os=w.os
 tape:w'.tape=w.tape
 output:w'.output=w.output
 size:w.heap.size<=w'.heap.size
 cD:∀b,b<w.heap.size->¬M b->w'.heap[b]? =w.heap[b]?
def Fr.refl(M:Nat->Prop)(w:J):Fr M w w:=⟨rfl,rfl,rfl,bm _,λ_ _ _=>rfl⟩
def Fr.trans{M j:Nat->Prop}{a b c:J}(e:Fr M a b)(k:Fr j b c)(x:∀d,d<a.heap.size->j d->M d):Fr M a c:=
 ⟨k.os.trans e.os,k.tape.trans e.tape,k.output.trans e.output,bD e.size k.size,
  λd h q=>(k.cD d (sT h e.size) (λw=>q (x d h w))).trans (e.cD d h q)⟩
def Fr.mono{M h:Nat->Prop}{a b:J}(e:Fr M a b)(q:∀d,d<a.heap.size->M d->h d):Fr h a b:=
 ⟨e.os,e.tape,e.output,e.size,λd j w=>e.cD d j (λk=>w (q d j k))⟩
def Fr.drew(M:Nat->Prop)(w:J):Fr M w w.drew:=⟨rfl,rfl,rfl,bm _,λ_ _ _=>rfl⟩
def Fr.alloc(M:Nat->Prop)(w:J)(o:Obj):Fr M w (w.alloc o):=⟨rfl,rfl,rfl,gs,λe d _=>_root_.Go.heap_alloc_old w o e d⟩
def Fr.set{M:Nat->Prop}(w:J)(p:Addr)(v:V)(e:M p.block):Fr M w (w.setCell p v):=
 ⟨rfl,rfl,rfl,by simp[World.setCell],λj _ h=>Below.heap_setCell w p v j (λd=>h (d▸e))⟩
def Fr.grown{M:Nat->Prop}{w w':J}{r:Option Nat}(d:w.grownBy w' r)(j:∀b,r=some b->M b):Fr M w w':=
 ⟨d.os,d.tape,d.output,d.size,λb h k=>d.block b h (λe=>k (j b e.symm))⟩
def Fr.setObj{M:Nat->Prop}(w:J)(r:Nat)(o:Obj)(d:M r):Fr M w {w with heap:=w.heap.setIfInBounds r o}:=
 ⟨rfl,rfl,rfl,gs,λh _ e=>by grind⟩
def Fr.below{w w':J}(d:Fr (λ_=>False) w w'):Below w.heap.size w w':=⟨d.os,d.tape,d.output,d.size,λj h=>d.cD j h (λe=>e)⟩
def Fr.at{M:Nat->Prop}{w w':J}(e:Fr M w w'){b:Nat}{o:Obj}(d:w.heap[b]? =some o)(h:¬M b):w'.heap[b]? =some o:=
 (e.cD b (Array.getElem?_eq_some_iff.1 d).1 h).trans d
def o9{w:J}{b:Nat}{o:Obj}(d:w.heap[b]? =some o):b<w.heap.size:=(Array.getElem?_eq_some_iff.1 d).1
def qj(w:J)(o:Obj):(w.alloc o).heap[w.heap.size]? =some o:=_root_.Go.heap_alloc_new w o
def size_alloc(w:J)(o:Obj):(w.alloc o).heap.size=w.heap.size+1:=gs
def cellAt{w:J}{p:Addr}{cs:Array V}{T:aE}{f:Nat×Nat}{i:Nat}{v:V}(d:w.heap[p.block]? =some (.cells cs T f))(h:p.spot=none)(hi:cs[p.off+i]? =some v):
  w.cell? (p.add i)=some v:=by
 unfold Addr.add;split
 .rename_i e;subst e;simp[World.cell?,d,h];omega
 .simp [World.cell?,d,hi]
def frozenAt{w:J}{p:Addr}{cs:Array V}{T:aE}{i:Nat}(d:w.heap[p.block]? =some (.cells cs T (0,0))):w.frozen? (p.add i)=false:=by unfold Addr.add;split<;>simp[World.frozen?,d]
def setAt{w:J}{p:Addr}{cs:Array V}{T:aE}{f:Nat×Nat}{i:Nat}{v:V}(d:w.heap[p.block]? =some (.cells cs T f))(k:p.spot=none):
  (w.setCell (p.add i) v).heap[p.block]? =some (.cells (cs.setIfInBounds (p.off+i) v) T f):=by
 have e:(p.add i).block=p.block:=by unfold Addr.add;grind
 have j:(p.add i).spot=none:=by unfold Addr.add;grind
 have h:(p.add i).off=p.off+i:=by unfold Addr.add;grind
 simp[World.setCell,e,d,j,h,Array.getElem?_modify]
def j'(p:Addr)(i:Nat):(p.add i).block=p.block:=by unfold Addr.add;grind
def aR(s:Sl):List Nat:=match s.a with |some p=>[p.block]|none=>[]
def Row(w:J)(T:aE)(s:Sl)(vs:List V):Prop:=
 (s.a=none/\s.n=0/\s.c=0/\vs=[])\/∃b o d f,s.a=some ⟨b,o,none⟩/\w.heap[b]? =some (.cells d T f)/\∀i v,vs[i]? =some v->d[o+i]? =some v
def Row.lt{w:J}{T:aE}{s:Sl}{vs:List V}(e:Row w T s vs):∀b∈aR s,b<w.heap.size:=by
 rcases e with⟨d,_⟩|⟨b,o,h,f,d,j,k⟩
 .simp [aR,d]
 .simp [aR,d];grind
def Row.cell{w:J}{T:aE}{s:Sl}{vs:List V}{i:Nat}{v:V}(d:Row w T s vs)(hi:vs[i]? =some v):∃p,s.a=some p/\w.cell? (p.add i)=some v:=by
 rcases d with⟨_,_,_,rfl⟩|⟨b,o,k,f,e,h,j⟩
 .cases hi
 .exact ⟨_,e,cellAt (p:=⟨b,o,none⟩) h rfl (j i v hi)⟩
def aL(w:J)(e:aE)(sz:Nat)(s:Sl)(xs:List V):Prop:=w.ownsRow 0 e sz s.v s.n xs
def aL.nil(w:J)(e:aE)(sz:Nat):aL w e sz ⟨none,0,0⟩ []:=World.ownsRow_nil w 0 e sz
def aL.len{w:J}{e:aE}{sz:Nat}{s:Sl}{xs:List V}(d:aL w e sz s xs):xs.length=s.n *sz:=d.1
def aL.cases{w:J}{e:aE}{sz:Nat}{s:Sl}{xs:List V}(d:aL w e sz s xs):
  (s=⟨none,0,0⟩/\xs=[])\/∃g cur,s.a=some ⟨g,0,none⟩/\w.heap[g]? =some (.cells cur e (0,0))/\s.n<=s.c/\s.c<=maxLen/\cur.size=s.c *sz/\cur.toList.take (s.n *sz)=xs:=by
 obtain⟨a,n,c⟩:=s;obtain⟨z,d⟩:=d;rcases d with⟨h,j⟩|⟨g,cap,cur,h,_,j,k,q,x,y⟩
 .cases h
  grind
 grind
def aL.row{w:J}{e:aE}{sz:Nat}{s:Sl}{xs:List V}(d:aL w e sz s xs):Row w e s xs:=by
 rcases d.cases with⟨rfl,rfl⟩|⟨g,cur,h,j,_,_,_,q⟩
 .exact .inl ⟨rfl,rfl,rfl,rfl⟩
 .refine .inr ⟨g,0,cur,(0,0),h,j,λi v k=>?_⟩
  grind
def aL.cD{w w':J}{e:aE}{sz:Nat}{s:Sl}{xs:List V}(d:aL w e sz s xs)(x:∀b∈aR s,b<w.heap.size->w'.heap[b]? =w.heap[b]?):aL w' e sz s xs:=by
 obtain⟨y,d⟩:=d;refine⟨y,?_⟩;rcases d with d|⟨g,cap,cur,h,k,j,r⟩
 .grind
 .have q:s.a=some ⟨g,0,none⟩:=(Value.slice.inj h).1;exact .inr ⟨g,cap,cur,h,k,(x g (by simp[aR,q]) (o9 j)).trans j,r⟩
def aL.fr{M:Nat->Prop}{w w':J}{e:aE}{sz:Nat}{s:Sl}{xs:List V}(d:aL w e sz s xs)(j:Fr M w w')(q:∀b∈aR s,¬M b):aL w' e sz s xs:=
 d.cD λb h k=>j.cD b k (q b h)
def aL.lt{w:J}{e:aE}{sz:Nat}{s:Sl}{xs:List V}(d:aL w e sz s xs):∀b∈aR s,b<w.heap.size:=d.row.lt
def aL.made(w:J)(e:aE)(sz n:Nat)(cs:List V)(d:cs.length=n *sz)(h:n<=maxLen):aL (w.alloc (.cells cs.toArray e)) e sz ⟨some ⟨w.heap.size,0,none⟩,n,n⟩ cs:=
 ⟨d,.inr ⟨w.heap.size,n,cs.toArray,rfl,di _,qj w _,bm _,h,io,by grind⟩⟩
def Row.made(w:J)(e:aE)(n c:Nat)(cs:List V):Row (w.alloc (.cells cs.toArray e)) e ⟨some ⟨w.heap.size,0,none⟩,n,c⟩ cs:=
 .inr ⟨w.heap.size,0,cs.toArray,(0,0),rfl,qj w _,λi v d=>by grind⟩
def ZP(s:Sl):s.v.ownBlock=s.a.map (·.block):=by obtain⟨a,n,c⟩:=s;cases a<;>rfl
structure fQ(P:au)(t e:aE)(z:V)(sz bytes:Nat):Prop where
 ht:P.underlying t=some (.slice e)
 hi:(P.info? e).map (λi=>(i.zero,i.size,i.bytes))=some (some z,sz,bytes)
 hz:z.cells.size=sz
 hs:0<sz
 hb:0<bytes
def Row.vt{w:J}{T:aE}{s:Sl}{vs:List V}(j:Row w T s vs):∀b∈aR s,∃e f,w.heap[b]? =some (.cells e T f):=by
 rcases j with⟨d,_⟩|⟨b,o,e,f,d,q,y⟩
 .simp [aR,d]
 .intro h k;have x:h=b:=by simpa[aR,d]using k
  grind
def s8(kd:hY)(es:Array MapEntry)(ms:List (Int×V)):Prop:=es.toList.map (λd=>(d.key,d.val))=ms.map λp=>(Value.int kd p.1,p.2)
def lU(ms:List (Int×V))(k:Int):Option V:=(ms.find? λp=>p.1==k).map (·.2)
def DB{kd:hY}{k:Int}:∀{es:List MapEntry} {ms:List (Int×V)} {i:Nat},es.map (λe=>(e.key,e.val))=ms.map (λp=>(Value.int kd p.1,p.2))->
  Instr.findNow (.int kd) (.int kd k) es i=some ((ms.findIdx? λp=>p.1==k).bind λh=>(ms[h]?).map λp=>(i+h,p.2))
 |[],[],i,_=>rfl
 |[],_::_,_,d=>by grind
 |_::_,[],_,d=>by grind
 |e::es,p::ms,i,d=>by
  simp only[List.map_cons,List.cons.injEq,Prod.mk.injEq]at d;obtain⟨⟨w,z⟩,x⟩:=d;have y:=DB (kd:=kd) (k:=k) (i:=i+1) x;unfold Instr.findNow;simp only[w,Instr.sameNow,if_true];by_cases B:p.1=k
  .grind
  .have j:(k==p.1)=false:=by grind
   have q:(p.1==k)=false:=by grind
   simp only[j,y,List.findIdx?_cons,q,Bool.false_eq_true,if_false];congr 1;cases A:ms.findIdx? (λp=>p.1==k)with
   |none=>simp
   |some h=>grind
def Mc{ms:List (Int×V)}{k:Int}{i:Nat}:(((ms.findIdx? λp=>p.1==k).bind λd=>(ms[d]?).map λp=>(i+d,p.2)).map (·.2))=lU ms k:=by
 unfold lU;induction ms generalizing i with
 |nil=>rfl
 |cons p ms h=>
  by_cases q:p.1=k
  .grind
  .have e:(p.1==k)=false:=by grind
   simp only[List.findIdx?_cons,e,Bool.false_eq_true,if_false,List.find?_cons];rw[<-h (i:=i+1)];cases j:ms.findIdx? (λp=>p.1==k)with
   |none=>simp
   |some d=>grind
structure BS(P:au)(T kt et:aE)(kd:hY)(z:V):Prop where
 hT:P.underlying T=some (.map kt et)
 hk:P.underlying kt=some (.int kd)
 hz:(P.info? et).map (·.zero)=some (some z)
def I'{P:au}{d:aE}{kd:hY}(e:P.underlying d=some (.int kd))(b:Bool)(k:Int)(w:J):(Instr.checkKey b 10000 d (.int kd k)).run P w=.ok () w:=by unfold Instr.checkKey;simp[run_underlying e]
def BB{P:au}{d:aE}{z:V}(h:(P.info? d).map (·.zero)=some (some z))(w:J):(zeroValue d).run P w=.ok z w:=by obtain⟨i,e,j⟩:=Option.map_eq_some_iff.1 h;simp[zeroValue,typeInfo,e,j]
def YK{P:au}{T G B:aE}{kd:hY}{z:V}(j:BS P T G B kd z){w:J}{d:Nat}{es:Array MapEntry}{clock:Nat}{ms:List (Int×V)}(h:w.heap[d]? =some (.map es clock))(y:s8 kd es ms)(k:Int)(v:V)(E:lU ms k=none):
  ∃e q,(Instr.mapUpdate T (.map (some d)) (.int kd k) v).run P w=.ok () e/\e.heap[d]? =some (.map q (clock+1))/\s8 kd q (ms++[(k,v)])/\Fr (λb=>b=d) w e/\e.heap.size=w.heap.size:=by
 have C:=DB (k:=k) (i:=0) y;have D:(getObj d).run P w=.ok (.map es clock) w:=by simp[getObj,Sem.run,h]
 have x:=Mc (ms:=ms) (k:=k) (i:=0);have H:=o9 h;have F:((ms.findIdx? λp=>p.1==k).bind λA=>(ms[A]?).map λp=>(0+A,p.2))=none:=by rw[E]at x;simpa using x
 refine⟨{w with heap:=w.heap.setIfInBounds d (.map (es.push {key:=.int kd k,val:=v,born:=clock}) (clock+1))},es.push {key:=.int kd k,val:=v,born:=clock},?_,by grind,?_,Fr.setObj w d _ rfl,gs⟩
 .unfold Instr.mapUpdate Instr.findKey;simp only[Sem.run_bind,run_underlying j.hT,Result.andThen_ok,D,I' j.hk,run_underlying j.hk,C,F];simp[setObj,Sem.run,h]
 .unfold s8 at y ⊢
  grind
def L'{P:au}{t e:aE}{z:V}{sz bytes:Nat}(h:fQ P t e z sz bytes)(w:J)(n:Nat)(C:n *bytes<=140737488355328):
  ∃d,(Instr.makeSlice t (.int .i64 (n:Int)) (.int .i64 (n:Int))).run P w=.ok (.slice (some ⟨w.heap.size,0,none⟩) n n) d/\aL d e sz ⟨some ⟨w.heap.size,0,none⟩,n,n⟩ (madeCells z.cells (n *sz)).toList/\Fr (λ_=>False) w d:=by
 obtain⟨i,y,B,A,D⟩:=info_parts h.hi;have E:n<=140737488355328:=by have:=Nat.le_mul_of_pos_right n h.hb;omega
 obtain⟨d,k,q,x⟩:=run_make_full (P:=P) w 0 t e i z sz h.ht y B A .i64 .i64 n (by grind) (by unfold maxLen;omega) (di _);exact⟨d,k,q,Fr.grown x λ_ j=>by cases j⟩
def YF(z:V)(n:Nat)(e:z.cells=#[z]):(madeCells z.cells (n *1)).toList=List.replicate n z:=by
 rw[e];apply List.ext_getElem?;intro i;by_cases d:i<n
 .simp [madeCells,d,Nat.mod_one]
 .simp [madeCells,d]
abbrev ag(w w':J):Prop:=Fr (λ_=>False) w w'
abbrev ab(b:Nat):Addr:=⟨b,0,none⟩
def jR(b:UInt8):V:=.int .u8 (b.toNat:Int)
def bE(n:Int):V:=.int .i64 n
def Xr(l:List Int):∀u∈l.map bE,u.oneCell'=true:=by intro u d;obtain⟨b,_,rfl⟩:=dN.1 d;rfl
def Fr.g'{M:Nat->Prop}{a b c:J}(d:Fr M a b)(k:ag b c):Fr M a c:=d.trans k λ_ _ d=>d.elim
def Fr.O'{M:Nat->Prop}{a b:J}(d:ag a b):Fr M a b:=d.mono λ_ _ d=>d.elim
def rk{w:J}{p:Addr}{v:V}(d:w.cell? p=some v):p.block<w.heap.size:=by
 unfold World.cell? at d
 grind
def VD{M:Nat->Prop}{w w':J}(e:Fr M w w'){p:Addr}{v:V}(d:w.cell? p=some v)(h:¬M p.block):w'.cell? p=some v:=by
 have:=e.cD p.block (rk d) h;unfold World.cell? at d ⊢
 grind
def add_add(p:Addr)(i j:Nat):(p.add i).add j=p.add (i+j):=by
 unfold Addr.add
 grind
def jm(p:Addr):p.add 0=p:=by simp[Addr.add]
def fq(w:J)(s:Sl)(vs:List V):Prop:=(s.a=none->s.n=0/\s.c=0)/\∀i v,vs[i]? =some v->∃p,s.a=some p/\w.cell? (p.add i)=some v
def fq.nil(w:J):fq w ⟨none,0,0⟩ []:=⟨λ_=>⟨rfl,rfl⟩,λi v d=>by grind⟩
def Row.rs{w:J}{T:aE}{s:Sl}{vs:List V}(d:Row w T s vs):fq w s vs:=by
 refine⟨λq=>?_,λi v e=>d.cell e⟩;rcases d with⟨_,j,k,_⟩|⟨b,o,h,f,x,_⟩
 .omega
 grind
def fq.fr{M:Nat->Prop}{w w':J}{s:Sl}{vs:List V}(d:fq w s vs)(j:Fr M w w')(q:∀b∈aR s,¬M b):fq w' s vs:=
 ⟨d.1,λi v k=>by obtain⟨p,e,h⟩:=d.2 i v k;exact⟨p,e,VD j h (by rw[j'];exact q _ (by simp[aR,e]))⟩⟩
def fq.get{w:J}{s:Sl}{vs:List V}(h:fq w s vs){i j:Nat}{v:V}(hi:vs[i]? =some v)(d:j=i *1){K:Addr->Prop}(q:∀p,s.a=some p->w.cell? (p.add j)=some v->K p):W.dv s.a K:=by obtain⟨p,e,k⟩:=h.2 i v hi;rw[e];rw[Nat.mul_one]at d;subst d;exact q p e k
def sub(s:Sl)(l d:Nat):Sl:=⟨if s.c=l then s.a else s.a.map (·.add (l *1)),d - l,s.c - l⟩
def Ca{P:au}{t ty e:aE}{z:V}{sz bytes:Nat}(h:fQ P t e z sz bytes){w:J}{s src:Sl}{xs news:List V}(F:aL w e sz s xs)(hr:fq w src news)(y:news.length=src.n *sz)(j:∀u∈news,u.oneCell'=true)(D:(s.n+src.n) *bytes<=140737488355328):
  ∃d B,(hX #[t,t] ty #[s.v,src.v]).run P w=.ok d.v B/\aL B e sz d (xs++news)/\d.n=s.n+src.n/\Fr (λb=>b∈aR s) w B/\
   (∀b∈aR d,b∈aR s\/w.heap.size<=b)/\(d.a=none->s.a=none/\src.n=0):=by
 obtain⟨i,E,S,L,Y⟩:=info_parts h.hi;have W:s.n+src.n<=140737488355328:=by have:=Nat.le_mul_of_pos_right (s.n+src.n) h.hb;omega
 obtain⟨sa,A,M⟩:=src;cases sa with
 |none=>
  obtain⟨k,H⟩:=hr.1 rfl;simp only at k H;subst k H;have ab:news=[]:=List.eq_nil_of_length_eq_zero (by grind);subst ab;have:=run_append_owned_none (P:=P) (w:=w) 0 t ty e i sz h.ht E s.v s.n xs F;exact⟨s,w,this,by grind,gs,Fr.refl _ _,λb D=>.inl D,λO=>⟨O,rfl⟩⟩
 |some G=>
  simp only at y D W;have I:∀x u,news[x]? =some u->w.cell? (G.add x)=some u:=λx u hj=>by
   obtain⟨p,hp,hc⟩:=hr.2 x u hj
   grind
  obtain⟨v',B,K,an,ah,ab⟩:=run_append_own (P:=P) w 0 t ty e i z sz bytes h.ht E S L Y h.hz h.hs s.v s.n xs F G A M news y I j (by unfold maxLen;omega) D (di _);have hv:∃d:Sl,v'=d.v/\d.n=s.n+A/\(d.a=none->v'=.slice none 0 0):=by
   rcases an.2 with⟨j,h2⟩|⟨g,cap,cur,j,_⟩
   .grind
   .exact ⟨⟨_,_,_⟩,j,rfl,λO=>by cases O⟩
  obtain⟨d,rfl,ak,ax⟩:=hv;refine⟨d,B,K,?_,ak,?_,?_,?_⟩
  .unfold aL;grind
  .refine Fr.grown ah λg q=>?_;rw[ZP]at q;cases ae:s.a with
   |none=>grind
   |some p=>simp[ae]at q;simp[aR,ae,q]
  .intro g q;rcases F.cases with⟨rfl,rfl⟩|⟨C,cur,aa,ag,am,aw,Z,aq⟩
   .obtain ⟨v2,w2,ap,ao,_,_⟩:=run_append_own (P:=P) w w.heap.size t ty e i z sz bytes h.ht E S L Y h.hz h.hs (.slice none 0 0) 0 [] (World.ownsRow_nil w _ e sz) G A M news y I j (by unfold maxLen;omega) io (bm _);have k:(Result.ok d.v B:Result V)=.ok v2 w2:=K.symm.trans ap;have H:=(Result.ok.inj k).1;subst H;rcases ao.2 with⟨j,_⟩|⟨g2,ar,av,j,h2,_⟩
    .have:d.a=none:=(Value.slice.inj j).1;simp[aR,this]at q
    .have:d.a=some ⟨g2,0,none⟩:=(Value.slice.inj j).1;simp[aR,this]at q;omega
   .obtain ⟨ay,N,T⟩:=s;simp only at aa am Z aq D W;subst aa;by_cases ac:N+A<=T
    .subst L;have af:N *i.size+news.length<=cur.size:=by rw[y,Z,<-Nat.add_mul];exact kR _ ac
     have Q:=run_append_room (P:=P) w t ty e i h.ht E C N T cur ag G A M news y I j ac af;have k:=K.symm.trans Q;have:d.a=some ⟨C,0,none⟩:=(Value.slice.inj (Result.ok.inj k).1).1;simp[aR,this]at q ⊢;omega
    .subst L;have holds:∀x u,xs[x]? =some u->w.cell? ((⟨C,0,none⟩:Addr).add x)=some u:=World.ownsRow.cells (g:=C) F rfl;have Q:=run_append_grow (P:=P) w t ty e i z h.ht E S ⟨C,0,none⟩ N T xs F.len holds G A M news y I io io (growslice_fits io (by grind));have k:=K.symm.trans Q;have:d.a=some ⟨w.heap.size,0,none⟩:=(Value.slice.inj (Result.ok.inj k).1).1;simp[aR,this]at q;omega
  grind
def aL.cap{w:J}{e:aE}{sz:Nat}{s:Sl}{xs:List V}(d:aL w e sz s xs):s.n<=s.c:=by
 rcases d.cases with⟨rfl,_⟩|⟨g,cur,_,_,d,_⟩
 .grind
 omega
def Rd(w:J)(s:Sl)(vs:List V):Prop:=s.n=vs.length/\s.n<=s.c/\fq w s vs
def Ow(w:J)(e:aE)(s:Sl)(vs:List V):Prop:=s.n=vs.length/\aL w e 1 s vs
def Ow.rd{w:J}{e:aE}{s:Sl}{vs:List V}(d:Ow w e s vs):Rd w s vs:=⟨d.1,d.2.cap,d.2.row.rs⟩
def Rd.fr{M:Nat->Prop}{w w':J}{s:Sl}{vs:List V}(d:Rd w s vs)(e:Fr M w w')(h:∀b∈aR s,¬M b):Rd w' s vs:=⟨d.1,d.2.1,d.2.2.fr e h⟩
def Rd.cC{w w':J}{s:Sl}{vs:List V}(d:Rd w s vs)(e:ag w w'):Rd w' s vs:=d.fr e λ_ _ d=>d
def Rd.nil(w:J):Rd w ⟨none,0,0⟩ []:=⟨rfl,bm _,fq.nil w⟩
def Rd.get{w:J}{s:Sl}{vs:List V}(d:Rd w s vs){i j:Nat}{v:V}(hi:vs[i]? =some v)(e:j=i *1){K:Addr->Prop}(h:∀p,s.a=some p->w.cell? (p.add j)=some v->K p):W.dv s.a K:=d.2.2.get hi e h
def DD{α:Type}(f:α->List V)(sz:Nat)(e:∀a,(f a).length=sz):∀(cs:List α) (i j:Nat) (a:α),cs[i]? =some a->j<sz->(cs.flatMap f)[i *sz+j]? =(f a)[j]?
 |[],i,j,a,d,_=>by grind
 |c::cs,0,j,a,d,h=>by grind
 |c::cs,i+1,j,a,d,h=>by rw[da,List.getElem?_append_right (by grind),e,show(i+1) *sz+j - sz=i *sz+j by grind];exact DD f sz e cs i j a (by grind) h
def o1{α:Type}(f:α->List V)(sz:Nat)(d:∀a,(f a).length=sz)(cs:List α):(cs.flatMap f).length=cs.length *sz:=by
 induction cs with
 |nil=>simp
 |cons c cs e=>grind
def fq.elem{α:Type}{f:α->List V}{sz:Nat}(j:∀a,(f a).length=sz)(z:0<sz){w:J}{s:Sl}{cs:List α}(h:fq w s (cs.flatMap f)){i:Nat}{a:α}(hi:cs[i]? =some a){K:Addr->Prop}(y:∀p,s.a=some p->(∀d v,(f a)[d]? =some v->w.cell? ((p.add (i *sz)).add d)=some v)->K p):W.dv s.a K:=by
 obtain⟨B,C⟩:∃v,(f a)[0]? =some v:=⟨_,a0 (by grind)⟩;obtain⟨p,e,_⟩:=h.2 (i *sz+0) B (by rw[DD f sz j cs i 0 a hi z];omega);rw[e];refine y p e λd v A=>?_;have x:d<sz:=by grind
 obtain⟨D,k,q⟩:=h.2 (i *sz+d) v (by rw[DD f sz j cs i d a hi x];exact A);rw[e]at k;cases k;rw[add_add];exact q
def AR{w:J}{b:Nat}{cs:Array V}{T:aE}(d:w.heap[b]? =some (.cells cs T (0,0)))(i:Nat)(hi:i<cs.size)(v:V):
  (w.cell? ((ab b).add i)).isSome=true/\w.frozen? ((ab b).add i)=false/\(w.setCell ((ab b).add i) v).heap[b]? =some (.cells (cs.setIfInBounds i v) T (0,0))/\Fr (·=b) w (w.setCell ((ab b).add i) v):=by
 refine⟨?_,frozenAt (p:=ab b) d,?_,Fr.set _ _ _ (j' _ _)⟩
 .rw [cellAt (p:=ab b) (v:=cs[i]) d rfl (by grind)];rfl
 .have:=setAt (p:=ab b) (i:=i) (v:=v) d rfl
  grind
def Fr.put(w:J)(l:Nat)(o:Obj):Fr (·=l) w (w.putObj l o):=⟨rfl,rfl,rfl,by simp[World.putObj],λh _ e=>by have:l≠h:=λd=>e d.symm;simp[World.putObj,Array.getElem?_setIfInBounds_ne this]⟩
def Z'{w:J}{l:Nat}{x:Obj}(d:w.heap[l]? =some x)(o:Obj):(w.putObj l o).heap[l]? =some o:=by have:=o9 d;simp[World.putObj,this]
def Ui(x y:Nat)(e:x<18446744073709551616)(h:y<18446744073709551616):q6 .u64 (x:Int) (y:Int)=((x&&& y:Nat):Int):=by
 unfold q6;have d:(lD (IntKind.bits .u64) (x:Int)&&& lD (IntKind.bits .u64) (y:Int)).toNat=x&&& y:=by
  show(lD 64 (x:Int)&&& lD 64 (y:Int)).toNat=_
  grind
 rw[d];have:x&&& y<=x:=Nat.and_le_left;exact IntWalk.u64_in _ io
def acY(n:Nat):IntKind.wrap .u8 (n:Int)=((n%256:Nat):Int):=by rw[IntKind.wrap_u8];omega
def bp(i:Nat)(d:i<9223372036854775807):IntKind.wrap .i64 ((i:Int)+1)=((i+1:Nat):Int):=by rw[IntWalk.i64_in _ io];omega
end Go.W
set_option maxRecDepth 100000
set_option maxHeartbeats 1000000
namespace Go.Proofs.YtjakeaplbkhjmaaGreatDoor
open Go renaming World->J,Calls->aj,Program->au,Value->V,TypeId->aE,Ending->cR,FuncId->bX,IntKind->hY
open _root_.ByteArray renaming mk->a8
open Go.Builtin renaming append_->hX
open _root_.Bool renaming and_eq_true->be,not_eq_true->ij
open _root_.Nat renaming le_refl->bm,le_trans->bD,zero_le->di,beq->bH,lt_of_lt_of_le->sT,mul_le_mul_right->kR,beq_eq->eA
open _root_.Option.some renaming inj->dZ,injEq->fo
open _root_.Array renaming replicate->gd
open _root_.BitVec renaming ofInt->lD
open Go.Region renaming wanted->ct,ready->dY
open _root_.Decidable renaming decide->ai
open Go.Ending renaming returned->ad
open List renaming mem_append->aK,mem_cons->aF,mem_of_getElem?->aA,getElem?_eq_getElem->a0,getElem?_eq_some_iff->cq,mem_append_right->cK,mem_flatMap->cl,mem_map->dN,mem_of_mem_take->xn,mem_singleton->b',flatMap_cons->da,mem_iff_getElem?->i9,nodup_append->eI,all_eq_true->cY
open Go Go.W
def o'(c:UInt8):Bool:=ai (97<=c.toNat)&&ai (c.toNat<=122)
def cH(base:Nat)(c:UInt8):Bool:=
 if base=2 then(c.toNat==48||c.toNat==49)
 else if base=16 then(ai (48<=c.toNat)&&ai (c.toNat<=57))||(ai (97<=c.toNat)&&ai (c.toNat<=102))
 else ai (48<=c.toNat)&&ai (c.toNat<=57)
def bO(c:UInt8):Bool:=o' c||cH 10 c||c.toNat==45||c.toNat==35
def hF(c:UInt8):Bool:=o' c||cH 10 c||c.toNat==35
def f'(c:UInt8):Bool:=c.toNat==9||c.toNat==10||c.toNat==13||c.toNat==32
def mD(c:UInt8):Bool:=f' c||c.toNat==59||c.toNat==40||c.toNat==41||c.toNat==34
def aH:Bool->List UInt8->Nat
 |_,[]=>0
 |false,c::l=>if f' c then 1+aH false l else if c.toNat=59 then 1+aH true l else 0
 |true,c::l=>if c.toNat=10 then 1+aH false l else 1+aH true l
def eM(c:UInt8):Nat:=if c.toNat<=57 then c.toNat - 48 else c.toNat - 87
inductive QR where
 |ok (text:List UInt8) (used:Nat)
 |bad (aT:Nat) (e:Int)
def QR.push(c:UInt8)(k:Nat):QR->QR
 |.ok t u=>.ok (c::t) (k+u)
 |.bad a d=>.bad (k+a) d
def qu:List UInt8->QR
 |[]=>.bad 0 3
 |c::l=>
  if c.toNat=34 then .ok [] 1
  else if c.toNat≠92 then(if c.toNat<32\/126<c.toNat then .bad 0 2 else(qu l).push c 1)
  else match l with
   |[]=>.bad 1 3
   |d::e=>
    if d.toNat=34\/d.toNat=92 then(qu e).push d 2
    else if d.toNat≠120 then .bad 0 2
    else match e with
     |[]=>.bad 2 3
     |h::k=>if cH 16 h then(match k with
       |[]=>.bad 3 3
       |j::q=>if cH 16 j then(qu q).push (UInt8.ofNat (16 *eM h+eM j)) 4 else .bad 0 2)
      else .bad 0 2
def tV(l:List UInt8):Int×Int:=match l with
 |b::d::r=>
  if b.toNat=98 then(if(d::r).all (cH 2)then(if 64<(d::r).length then(0,4)else(3,0))else(0,2))
  else if b.toNat=120 then(if(d::r).all (cH 16)then(if 16<(d::r).length then(0,4)else(3,0))else(0,2))
  else(0,2)
 |_=>(0,2)
def fx(t:List UInt8):Int×Int:=
 match t with
 |[]=>(0,2)
 |c::l=>
  if o' c then(if t.any (λd=>d.toNat==35)then(0,2)else if 16<t.length then(0,6)else(2,0))
  else if c.toNat≠35 then(if !(t.all (cH 10))||(c.toNat==48&&ai (1<t.length))then(0,2)else if 13<t.length then(0,4)else(4,0))
  else tV l
inductive NT where
 |fin
 |tok (kind:Int) (text:List UInt8) (used:Nat)
 |bad (aT:Nat) (e:Int)
def fV:List UInt8->NT
 |[]=>.fin
 |c::l=>
  if c.toNat=40 then .tok 0 [] 1
  else if c.toNat=41 then .tok 1 [] 1
  else if c.toNat=34 then(match qu l with |.ok t u=>.tok 5 t (1+u)|.bad a d=>.bad (1+a) d)
  else if hF c then
   (let t:=(c::l).takeWhile bO
    match fx t with
    |(e,d)=>if d≠0 then .bad 0 d else match(c::l).drop t.length with
     |[]=>.tok e t t.length
     |h::_=>if mD h then .tok e t t.length else .bad t.length 2)
  else .bad 0 2
structure aG where
 kind:Int
 text:List UInt8
 aT:Nat
inductive TR where
 |ok (l:List aG)
 |bad (aT:Nat) (e:Int)
def TR.push(t:aG):TR->TR
 |.ok l=>.ok (t::l)
 |.bad a d=>.bad a d
def kN:Nat->Nat->List UInt8->TR
 |0,i,_=>.ok [⟨6,[],i⟩]
 |n+1,i,l=>
  let d:=aH false l
  match fV (l.drop d)with
  |.fin=>.ok [⟨6,[],i+d⟩]
  |.bad a e=>.bad (i+d+a) e
  |.tok kind t u=>(kN n (i+d+u) ((l.drop d).drop u)).push ⟨kind,t,i+d⟩
def hC:∀(b:Bool) (l:List UInt8),aH b l<=l.length
 |b,[]=>by cases b<;>simp[aH]
 |false,c::l=>by
  have d:=hC false l;have e:=hC true l;simp only[aH,List.length_cons];split
  .omega
  .split<;>omega
 |true,c::l=>by have d:=hC false l;have e:=hC true l;simp only[aH,List.length_cons];split<;>omega
inductive IR where
 |ok (c:UInt8) (used:Nat)
 |bad (aT:Nat) (e:Int)
def ee:List UInt8->IR
 |[]=>.bad 0 3
 |c::l=>
  if c.toNat≠92 then(if c.toNat<32\/126<c.toNat then .bad 0 2 else .ok c 1)
  else match l with
   |[]=>.bad 1 3
   |d::j=>
    if d.toNat=34\/d.toNat=92 then .ok d 2
    else if d.toNat≠120 then .bad 0 2
    else match j with
     |[]=>.bad 2 3
     |e::k=>if cH 16 e then(match k with
       |[]=>.bad 3 3
       |h::_=>if cH 16 h then .ok (UInt8.ofNat (16 *eM e+eM h)) 4 else .bad 0 2)
      else .bad 0 2
def xo(c:UInt8)(l:List UInt8)(j:c.toNat≠34):qu (c::l)=match ee (c::l)with |.ok d u=>(qu ((c::l).drop u)).push d u|.bad a e=>.bad a e:=by
 conv=>lhs;unfold qu
 unfold ee;rw[aa j];by_cases h:c.toNat≠92
 .simp only[af h];split
  .rfl
  .rfl
 .simp only[aa h];cases l with
  |nil=>rfl
  |cons d k=>
   simp only[];split
   .rfl
   .split
    .rfl
    .cases k with
     |nil=>rfl
     |cons x q=>
      simp only[];split
      .cases q with
       |nil=>rfl
       |cons y w=>
        simp only[];split<;>rfl
      .rfl
end Go.Proofs.YtjakeaplbkhjmaaGreatDoor
namespace Go.W
open Go renaming World->J,Calls->aj,Program->au,Value->V,TypeId->aE,Ending->cR,FuncId->bX,IntKind->hY
open _root_.ByteArray renaming mk->a8
open Go.Builtin renaming append_->hX
open _root_.Bool renaming and_eq_true->be,not_eq_true->ij
open _root_.Nat renaming le_refl->bm,le_trans->bD,zero_le->di,beq->bH,lt_of_lt_of_le->sT,mul_le_mul_right->kR,beq_eq->eA
open _root_.Option.some renaming inj->dZ,injEq->fo
open _root_.Array renaming replicate->gd
open _root_.BitVec renaming ofInt->lD
open Go.Region renaming wanted->ct,ready->dY
open _root_.Decidable renaming decide->ai
open Go.Ending renaming returned->ad
open List renaming mem_append->aK,mem_cons->aF,mem_of_getElem?->aA,getElem?_eq_getElem->a0,getElem?_eq_some_iff->cq,mem_append_right->cK,mem_flatMap->cl,mem_map->dN,mem_of_mem_take->xn,mem_singleton->b',flatMap_cons->da,mem_iff_getElem?->i9,nodup_append->eI,all_eq_true->cY
structure En where
 fp:List Nat
 P:J->Prop
 st:∀w w',(∀b∈fp,b<w.heap.size->w'.heap[b]? =w.heap[b]?)->P w->P w'
 lt:∀w,P w->∀b∈fp,b<w.heap.size
 nd:fp.Nodup
def En.ob(b:Nat)(o:Obj):En:=⟨[b],λe=>e.heap[b]? =some o,λe k h d=>(h b gs (o9 d)).trans d,λe d q j=>by grind,gs⟩
abbrev En.c(b:Nat)(vs:List V)(T:aE):En:=.ob b (.cells vs.toArray T (0,0))
def En.row(e:aE)(sz:Nat)(s:Sl)(vs:List V):En:=⟨aR s,λj=>aL j e sz s vs,λ_ _ h d=>d.cD h,λ_ d=>d.lt,by unfold aR;grind⟩
def En.rd(s:Sl)(vs:List V):En:=⟨if vs=[]then[]else aR s,λq=>Rd q s vs,λq A w d=>by
  refine⟨d.1,d.2.1,d.2.2.1,λi v y=>?_⟩;obtain⟨p,h,e⟩:=d.2.2.2 i v y;have k:vs≠[]:=λz=>by grind
  rw[aa k]at w;have:=w p.block (by simp[aR,h]) (by have:=rk e;rwa[j']at this);refine⟨p,h,?_⟩;unfold World.cell? at e ⊢;rw[j']at e ⊢
  grind,λq d b j=>by
  split at j
  .cases j
  .rename_i k;have x:0<vs.length:=List.length_pos_iff.2 k;obtain⟨p,h,e⟩:=d.2.2.2 0 vs[0] (a0 x);simp[aR,h]at j;subst j;have:=rk e
   rwa[j']at this,by split<;>(try simp);unfold aR;grind⟩
structure O(M:Nat->Prop)(w0 w:J)(L D:List En):Prop where
 fr:Fr M w0 w
 own:∀e∈L,e.P w
 rd:∀e∈D,e.P w
 new:∀e∈L,∀b∈e.fp,w0.heap.size<=b\/M b
 nd:(L.flatMap (·.fp)).Nodup
 dj:∀e∈D,∀b∈e.fp,∀e'∈L,b∉e'.fp
def O.start{M:Nat->Prop}{w:J}(D:List En)(e:∀d∈D,d.P w):O M w w [] D:=⟨Fr.refl _ _,gs,e,gs,gs,gs⟩
def O.pD{M:Nat->Prop}{w:J}(L D:List En)(j:∀d∈L,d.P w/\∀b∈d.fp,M b)(x:(L.flatMap (·.fp)).Nodup)(h:∀d∈D,d.P w/\∀b∈d.fp,∀k∈L,b∉k.fp):O M w w L D:=
 ⟨Fr.refl _ _,λd e=>(j d e).1,λd e=>(h d e).1,λd e b q=>.inr ((j d e).2 b q),x,λd e=>(h d e).2⟩
def O.cC{M:Nat->Prop}{w0 w w':J}{L D:List En}(H:O M w0 w L D)(f:ag w w'):O M w0 w' L D:=
 ⟨H.fr.g' f,λd e=>d.st w w' (λb _ h=>f.cD b h id) (H.own d e),λd e=>d.st w w' (λb _ h=>f.cD b h id) (H.rd d e),H.new,H.nd,H.dj⟩
def O.drew{M:Nat->Prop}{w0 w:J}{L D:List En}(H:O M w0 w L D):O M w0 w.drew L D:=H.cC (Fr.drew _ _)
def Fq{α:Type}{f:α->List Nat}:∀{L:List α} {i:Nat} {e d:α},L[i]? =some e->(L.flatMap f).Nodup->(f d).Nodup->(∀j∈f d,j∈f e\/j∉L.flatMap f)->((L.set i d).flatMap f).Nodup
 |[],i,e,d,h,_,_,_=>by grind
 |a::L,0,e,d,h,k,q,w=>by grind
 |a::L,i+1,e,d,h,k,q,w=>by
  simp only[List.getElem?_cons_succ]at h;simp only[List.set_cons_succ,da,eI]at k ⊢;refine⟨k.1,Fq h k.2.1 q (λj x=>(w j x).imp id λh y=>h (by grind)),λj x A z=>?_⟩
  grind
def O.r6{M:Nat->Prop}{w0 w:J}{L D:List En}(H:O M w0 w L D):∀b∈L.flatMap (·.fp),b<w.heap.size:=λb d=>by obtain⟨e,h,d⟩:=cl.1 d;exact e.lt w (H.own e h) b d
def jS{L:List En}(d:(L.flatMap (·.fp)).Nodup):∀{i:Nat} {e:En},L[i]? =some e->∀{j:Nat} {g:En},L[j]? =some g->i≠j->∀b∈e.fp,b∉g.fp:=by
 induction L with
 |nil=>grind
 |cons a L h=>
  simp only[da,eI]at d
  grind
def O.gb{M:Nat->Prop}{w0 w w':J}{L D:List En}(H:O M w0 w L D){e:En}(i:Nat)(k:En)(hi:L[i]? =some e)(f:Fr (·∈e.fp) w w')(S:k.P w')(A:∀b∈k.fp,b∈e.fp\/w.heap.size<=b):O M w0 w' (L.set i k) D:=by
 have x:=aA hi;have I:Fr M w0 w':=H.fr.trans f λy F K=>(H.new e x y K).resolve_left io;refine⟨I,λg d=>?_,λg d=>?_,λg d b h=>?_,Fq hi H.nd k.nd λy F=>?_,λg d b h G B E=>?_⟩
 .obtain ⟨T,q⟩:=i9.1 d;rw[List.getElem?_set]at q;split at q
  .grind
  .rename_i N;refine g.st w w' (λb h C=>f.cD b C λz=>jS H.nd hi q N b z h) (H.own g (aA q))
 .exact g.st w w' (λb h C=>f.cD b C λz=>H.dj g d b h e x z) (H.rd g d)
 .rcases List.mem_or_eq_of_mem_set d with d|rfl
  .exact H.new g d b h
  .rcases A b h with j|j
   .exact H.new e x b j
   .exact .inl (bD H.fr.size j)
 .rcases A y F with j|j
  .grind
  .exact .inr λQ=>by have:=H.r6 y Q;omega
 .rcases List.mem_or_eq_of_mem_set B with B|rfl
  .exact H.dj g d b h G B E
  .rcases A b E with j|j
   .exact H.dj g d b h e x j
   .have:=g.lt w (H.rd g d) b h;omega
def O.push{M:Nat->Prop}{w0 w w':J}{L D:List En}(H:O M w0 w L D)(e:En)(f:ag w w')(C:e.P w')(z:∀b∈e.fp,w.heap.size<=b):O M w0 w' (L++[e]) D:=by
 have k:=H.cC f;refine⟨k.fr,λg d=>?_,k.rd,λg d b j=>?_,?_,λg d b j q h y=>?_⟩
 .rcases aK.1 d with d|d
  .exact k.own g d
  grind
 .rcases aK.1 d with d|d
  .exact H.new g d b j
  .simp at d;subst d;exact .inl (bD H.fr.size (z b j))
 .rw [List.flatMap_append,eI];refine⟨H.nd,by simpa using e.nd,λB A F E=>?_⟩;rintro rfl;have x:=H.r6 B A
  grind
 .rcases aK.1 h with h|h
  .exact H.dj g d b j q h y
  .simp at h;subst h;have x:=g.lt w (H.rd g d) b j
   grind
def O.alloc{M:Nat->Prop}{w0 w:J}{L D:List En}(H:O M w0 w L D)(o:Obj):O M w0 (w.alloc o) (L++[.ob w.heap.size o]) D:=
 H.push _ (Fr.alloc _ _ _) (qj w o) (λb d=>by simp[En.ob]at d;omega)
def O.ec{M:Nat->Prop}{w0 w w':J}{L D:List En}(H:O M w0 w L D)(e:En)(f:ag w w')(F:e.P w')(hd:∀b∈e.fp,w.heap.size<=b\/(b<w0.heap.size/\¬M b)\/∃g∈D,b∈g.fp):O M w0 w' L (D++[e]):=by
 have h:=H.cC f;refine⟨h.fr,h.own,λg d=>?_,h.new,h.nd,λg d b x j q k=>?_⟩
 .rcases aK.1 d with d|d
  .exact h.rd g d
  grind
 .rcases aK.1 d with d|d
  .exact H.dj g d b x j q k
  .simp at d;subst d;rcases hd b x with y|⟨y,A⟩|⟨C,B,z⟩
   .have:=j.lt w (H.own j q) b k;omega
   .exact (H.new j q b k).elim (λE=>io) A
   .exact H.dj C B b z j q k
def O.forget{M:Nat->Prop}{w0 w:J}{L D:List En}(H:O M w0 w L D)(D':List En)(h:∀d∈D',d∈D):O M w0 w L D':=⟨H.fr,H.own,λd e=>H.rd d (h d e),H.new,H.nd,λd e=>H.dj d (h d e)⟩
def uo{α:Type}{a:α}:∀{l:List α} {i:Nat},a∈l.eraseIdx i->a∈l
 |[],_,d=>by grind
 |b::l,0,d=>by grind
 |b::l,i+1,d=>by
  simp at d;rcases d with d|d
  .simp [d]
  .exact List.mem_cons_of_mem _ (uo d)
def O2{α:Type}{f:α->List Nat}:∀{L:List α} {i:Nat},(L.flatMap f).Nodup->((L.eraseIdx i).flatMap f).Nodup
 |[],i,d=>gs
 |a::L,0,d=>by grind
 |a::L,i+1,d=>by simp only[List.eraseIdx_cons_succ,da,eI]at d ⊢;refine⟨d.1,O2 d.2.1,λq h w k=>d.2.2 q h w ?_⟩;obtain⟨g,e,j⟩:=cl.1 k;exact cl.2 ⟨g,uo e,j⟩
def wA{α:Type}{f:α->List Nat}:∀{L:List α} {i:Nat} {e:α},L[i]? =some e->(L.flatMap f).Nodup->∀b∈f e,∀g∈L.eraseIdx i,b∉f g
 |[],i,e,d,_=>by grind
 |a::L,0,e,d,j=>by grind
 |a::L,i+1,e,d,j=>by
  simp only[da,eI]at j;intro b k g h q;simp only[List.getElem?_cons_succ]at d;simp only[List.eraseIdx_cons_succ,aF]at h;rcases h with rfl|h
  .grind
  .exact wA d j.2.1 b k g h q
def O.freeze{M:Nat->Prop}{w0 w:J}{L D:List En}(H:O M w0 w L D){e:En}(i:Nat)(h:En)(hi:L[i]? =some e)(y:h.P w)(x:∀b∈h.fp,b∈e.fp):O M w0 w (L.eraseIdx i) (D++[h]):=by
 refine⟨H.fr,λg d=>H.own g (uo d),λg d=>?_,λg d=>H.new g (uo d),O2 H.nd,λg d b k j q=>?_⟩
 .rcases aK.1 d with d|d
  .exact H.rd g d
  grind
 .rcases aK.1 d with d|d
  .exact H.dj g d b k j (uo q)
  .simp at d;subst d;exact wA hi H.nd b (x b k) j q
def O.get{M:Nat->Prop}{w0 w:J}{L D:List En}(H:O M w0 w L D)(i:Nat){e:En}(hi:L[i]? =some e:=by rfl):e.P w:=H.own e (aA hi)
def O.getD{M:Nat->Prop}{w0 w:J}{L D:List En}(H:O M w0 w L D)(i:Nat){e:En}(hi:D[i]? =some e:=by rfl):e.P w:=H.rd e (aA hi)
section
variable {M:Nat->Prop} {w0 w:J} {L D:List En}
def O.ob(H:O M w0 w L D)(i:Nat){b:Nat}{o:Obj}(hi:L[i]? =some (.ob b o):=by rfl):w.heap[b]? =some o:=H.own _ (aA hi)
def O.ld(H:O M w0 w L D)(i j:Nat){b:Nat}{vs:List V}{T:aE}{v:V}(hi:L[i]? =some (.c b vs T):=by rfl)(d:vs[j]? =some v:=by rfl):w.cell? ((ab b).add j)=some v:=
 cellAt (p:=ab b) (H.ob i hi) rfl (by grind)
def O.cA(H:O M w0 w L D)(i:Nat){b:Nat}{vs:List V}{T:aE}{v:V}(hi:L[i]? =some (.c b vs T):=by rfl)(d:vs[0]? =some v:=by rfl):w.cell? (ab b)=some v:=by
 have:=H.ld i 0 hi d
 rwa[jm]at this
def O.set(H:O M w0 w L D)(i j:Nat){b:Nat}{vs:List V}{T:aE}{v:V}(hi:L[i]? =some (.c b vs T))(x:j<vs.length):
  (w.cell? ((ab b).add j)).isSome=true/\w.frozen? ((ab b).add j)=false/\O M w0 (w.setCell ((ab b).add j) v) (L.set i (.c b (vs.set j v) T)) D:=by obtain⟨h,k,z,q⟩:=AR (H.ob i hi) j io v;exact⟨h,k,H.gb i (.c b (vs.set j v) T) hi (q.mono λy _ d=>by simp[En.ob,d]) (by show _=_;grind) (λb e=>.inl e)⟩
def O.st(H:O M w0 w L D)(i j:Nat){b:Nat}{vs:List V}{T:aE}{v:V}{K:J->Prop}(hi:L[i]? =some (.c b vs T))(h:∀d,O M w0 d (L.set i (.c b (vs.set j v) T)) D->K d)(e:j<vs.length:=by simp):aM w ((ab b).add j) v K:=by
 obtain⟨k,q,x⟩:=H.set (v:=v) i j hi e
 grind
def O.e7(H:O M w0 w L D)(i:Nat){b:Nat}{vs:List V}{T:aE}{v:V}{K:J->Prop}(hi:L[i]? =some (.c b vs T))(e:∀d,O M w0 d (L.set i (.c b (vs.set 0 v) T)) D->K d)(h:0<vs.length:=by simp):aM w (ab b) v K:=by
 have:=H.st (v:=v) (K:=K) i 0 hi e h
 rwa[jm]at this
def O.jI(H:O M w0 w L D)(i:Nat){b:Nat}{y e:V}{T:aE}{d h:V}{K:J->Prop}(hi:L[i]? =some (.c b [y,e] T))(z:∀j,O M w0 j (L.set i (.c b [d,h] T)) D->K j):aM w (ab b) d λk=>aM k ((ab b).add 1) h K:=by have B:=(cq.1 hi).1;exact H.e7 i hi (λk q=>q.st (vs:=[d,e]) (T:=T) i 1 (by grind) (λA x=>z A (by simpa using x)))
def O.kL(H:O M w0 w L D)(i:Nat){b:Nat}{C j e:V}{T:aE}{d h k:V}{K:J->Prop}(hi:L[i]? =some (.c b [C,j,e] T))(E:∀q,O M w0 q (L.set i (.c b [d,h,k] T)) D->K q):aM w (ab b) d λx=>aM x ((ab b).add 1) h λy=>aM y ((ab b).add 2) k K:=by have G:=(cq.1 hi).1;exact H.e7 i hi (λx z=>z.st (vs:=[d,j,e]) (T:=T) i 1 (by grind) (λy A=>A.st (vs:=[d,h,e]) (T:=T) i 2 (by grind) (λF B=>E F (by simpa using B))))
def O.kM(H:O M w0 w L D)(i:Nat){b:Nat}{I q j e:V}{T:aE}{d h k x:V}{K:J->Prop}(hi:L[i]? =some (.c b [I,q,j,e] T))(N:∀y,O M w0 y (L.set i (.c b [d,h,k,x] T)) D->K y):aM w (ab b) d λz=>aM z ((ab b).add 1) h λA=>aM A ((ab b).add 2) k λB=>aM B ((ab b).add 3) x K:=by have Q:=(cq.1 hi).1;exact H.e7 i hi (λz C=>C.st (vs:=[d,q,j,e]) (T:=T) i 1 (by grind) (λA E=>E.st (vs:=[d,h,j,e]) (T:=T) i 2 (by grind) (λB F=>F.st (vs:=[d,h,k,e]) (T:=T) i 3 (by grind) (λP G=>N P (by simpa using G)))))
def O.RY(H:O M w0 w L D)(i:Nat){b:Nat}{S y q j e:V}{T:aE}{d h k x z:V}{K:J->Prop}(hi:L[i]? =some (.c b [S,y,q,j,e] T))(W:∀A,O M w0 A (L.set i (.c b [d,h,k,x,z] T)) D->K A):aM w (ab b) d λB=>aM B ((ab b).add 1) h λC=>aM C ((ab b).add 2) k λE=>aM E ((ab b).add 3) x λF=>aM F ((ab b).add 4) z K:=by have Z:=(cq.1 hi).1;exact H.e7 i hi (λB G=>G.st (vs:=[d,y,q,j,e]) (T:=T) i 1 (by grind) (λC I=>I.st (vs:=[d,h,q,j,e]) (T:=T) i 2 (by grind) (λE N=>N.st (vs:=[d,h,k,j,e]) (T:=T) i 3 (by grind) (λF P=>P.st (vs:=[d,h,k,x,e]) (T:=T) i 4 (by grind) (λY Q=>W Y (by simpa using Q))))))
def O.nw(H:O M w0 w L D){cs:Array V}{T:aE}{K:J->Prop}(e:∀d,d.heap.size=w.heap.size+1->O M w0 d (L++[.c w.heap.size cs.toList T]) D->K d):c9 w (.cells cs T) K:=e _ (size_alloc _ _) (H.alloc _)
def O.uC(H:O M w0 w L D){o:Obj}{K:J->Prop}(e:∀d,d.heap.size=w.heap.size+1->O M w0 d L D->d.heap[w.heap.size]? =some o->K d):c9 w o K:=e _ (size_alloc _ _) (H.cC (Fr.alloc _ _ _)) (qj w o)
def O.dr(H:O M w0 w L D){K:J->Prop}(e:∀d,O M w0 d L D->K d):tI w K:=e _ H.drew
def O.pu(H:O M w0 w L D)(i:Nat){b:Nat}{o d:Obj}{K:J->Prop}(hi:L[i]? =some (.ob b o))(j:∀e,O M w0 e (L.set i (.ob b d)) D->K e):hv w b o d K:=
 ⟨H.ob i hi,j _ (H.gb i (.ob b d) hi ((Fr.put w b d).mono λq _ h=>by simp[En.ob,h]) (Z' (H.ob i hi) d) (λb k=>.inl k))⟩
def O.ap(H:O M w0 w L D)(i:Nat){P:au}{t ty e:aE}{z:V}{sz bytes:Nat}(j:fQ P t e z sz bytes){s src:Sl}{xs news:List V}{K:Sl->J->Prop}(hi:L[i]? =some (.row e sz s xs))(I:fq w src news)(G:news.length=src.n *sz)(C:∀u∈news,u.oneCell'=true)(F:(s.n+src.n) *bytes<=140737488355328)(E:∀d h,O M w0 h (L.set i (.row e sz d (xs++news))) D->d.n=s.n+src.n->(d.a=none->s.a=none/\src.n=0)->K d h):
  ∃d h,(hX #[t,t] ty #[s.v,src.v]).run P w=.ok d.v h/\K d h:=by obtain⟨d,h,k,q,x,y,A,B⟩:=Ca (ty:=ty) j (H.get i hi) I G C F;exact⟨d,h,k,E d h (H.gb i (.row e sz d (xs++news)) hi y q A) x B⟩
def O.q4(H:O M w0 w L D)(i:Nat){P:au}{t ty e:aE}{z:V}{sz bytes:Nat}(k:fQ P t e z sz bytes){T:aE}{s:Sl}{xs:List V}{news:Array V}{K:Sl->J->Prop}(hi:L[i]? =some (.row e sz s xs))(y:∀d h,O M w0 h (L.set i (.row e sz d (xs++news.toList))) D->d.n=s.n+1->d.a≠none->K d h)(A:(s.n+1) *bytes<=140737488355328)(F:news.size=sz:=by rfl)(x:∀u∈news.toList,u.oneCell'=true:=by simp[Value.oneCell']):
  c9 w (.cells news T) λC=>∃d h,(hX #[t,t] ty #[s.v,.slice (some (Addr.mk w.heap.size 0 none)) 1 1]).run P C=.ok d.v h/\K d h:=by have j:O M w0 (w.alloc (.cells news T)) L D:=H.cC (Fr.alloc _ _ _);refine j.ap i k (src:=⟨some (ab w.heap.size),1,1⟩) (ty:=ty) (K:=K) (news:=news.toList) hi ((Row.made w T 1 1 news.toList).rs) (by grind) x A (λd h q B G=>y d h q B λE=>by grind)
def O.hP(H:O M w0 w L D)(e:aE)(sz:Nat):O M w0 w (L++[.row e sz ⟨none,0,0⟩ []]) D:=H.push _ (Fr.refl _ _) (aL.nil w e sz) (λb d=>by simp[En.row,aR]at d)
end
def aL.ZO{w:J}{e:aE}{s:Sl}{vs:List V}(d:aL w e 1 s vs):Ow w e s vs:=⟨by have:=d.len;omega,d⟩
def aL.Aw{w:J}{e:aE}{s:Sl}{vs:List V}(d:aL w e 1 s vs):Rd w s vs:=d.ZO.rd
abbrev F0:Nat->Prop:=λ_=>False
def O.take{M:Nat->Prop}{w0 w:J}{L D:List En}(H:O M w0 w L D)(n:Nat):O M w0 w (L.take n) D:=
 ⟨H.fr,λd e=>H.own d (xn e),H.rd,λd e=>H.new d (xn e),by
  have:=H.nd
  grind,λd e b j h k=>H.dj d e b j h (xn k)⟩
def aw{a b:Int}{A d:Prop}(h:a=b->A)(j:a≠b->d):bB (a==b) A d:=bq (λe=>h (by grind)) (λe=>j (by grind))
def cz{a b:Int}{A d:Prop}(h:a≠b->A)(j:a=b->d):bB (a !=b) A d:=bq (λe=>h (by grind)) (λe=>j (by grind))
def aY{p:Prop}[Decidable p]{A e:Prop}(h:p->A)(j:¬p->e):bB (decide p) A e:=bq (λd=>h (eQ d)) (λd=>j (lE d))
def eO{b:Bool}{A d:Prop}(h:b=false->A)(j:b=true->d):bB (!b) A d:=bq (λe=>h (by grind)) (λe=>j (by grind))
def O.dU{M:Nat->Prop}{w0 w:J}{L D:List En}(H:O M w0 w L D)(i j:Nat){b:Nat}{vs:List V}{T:aE}{v:V}(hi:D[i]? =some (.c b vs T):=by rfl)(d:vs[j]? =some v:=by rfl):w.cell? ((ab b).add j)=some v:=
 cellAt (p:=ab b) (show w.heap[b]? =_ from H.rd _ (aA hi)) rfl (by grind)
def O.gG{M:Nat->Prop}{w0 w:J}{L D:List En}(H:O M w0 w L D)(i:Nat){b:Nat}{vs:List V}{T:aE}{v:V}(hi:D[i]? =some (.c b vs T):=by rfl)(d:vs[0]? =some v:=by rfl):w.cell? (ab b)=some v:=by
 have:=H.dU i 0 hi d
 rwa[jm]at this
def O.yP{M:Nat->Prop}{w0 w w':J}{L D:List En}(H:O M w0 w L D)(i:Nat){b:Nat}{vs d:List V}{T:aE}(f:Fr (·=b) w w')(h:w'.heap[b]? =some (.cells d.toArray T (0,0)))(hi:L[i]? =some (.c b vs T):=by rfl):O M w0 w' (L.set i (.c b d T)) D:=
 H.gb i (.c b d T) hi (f.mono λk _ e=>by simp[En.ob,e]) h (λb j=>.inl j)
def O.e3{M:Nat->Prop}{w0 w:J}{L D:List En}(H:O M w0 w L D){e:aE}{sz n:Nat}{cs:List V}(k:cs.length=n *sz)(q:n<=maxLen){K:J->Prop}(h:∀d,O M w0 d (L++[.row e sz ⟨some (ab w.heap.size),n,n⟩ cs]) D->K d):c9 w (.cells cs.toArray e) K:=
 h _ (H.push _ (Fr.alloc _ _ _) (aL.made w e sz n cs k q) (λb j=>by simp[En.row,aR]at j;omega))
def O.yB{M:Nat->Prop}{w0 w:J}{L D:List En}(H:O M w0 w L D)(i:Nat){P:au}{t ty e:aE}{z:V}{bytes:Nat}(k:fQ P t e z 1 bytes){T:aE}{s:Sl}{xs:List V}{m:Nat}{news:List V}{K:Sl->J->Prop}(hi:L[i]? =some (.row e 1 s xs))(E:news.length=m)(x:∀u∈news,u.oneCell'=true)(A:(s.n+m) *bytes<=140737488355328)(C:1<=m)(y:∀d h,O M w0 h (L.set i (.row e 1 d (xs++news))) D->K d h):
  c9 w (.cells news.toArray T) λB=>∃d h,(hX #[t,t] ty #[s.v,.slice (some (Addr.mk w.heap.size 0 none)) m m]).run P B=.ok d.v h/\K d h:=by have j:O M w0 (w.alloc (.cells news.toArray T)) L D:=H.cC (Fr.alloc _ _ _);exact j.ap i k (src:=⟨some (ab w.heap.size),m,m⟩) (ty:=ty) (K:=K) (news:=news) hi ((Row.made w T m m news).rs) (by grind) x A (λd h q _ _=>y d h q)
def jJ(P:au)(o:Oper)(E:Env)(w:J)(K:Env->J->Prop):Prop:=
 bif calm P o then nU P o E w λv _=>K (E.put o.dst v) w else hM P o E w λv d=>K (E.put o.dst v) d
def vS(ops:Array Oper):Bool:=(List.range ops.size).all λi=>match ops[i]? with
 |some o=>o.guard.isNone&&o.after.toList.all λd=>!(Region.binds .any d)||Nat.blt d.on i
 |none=>true
abbrev dW(L:Nat->Bool)(i:Nat):Nat->Bool:=λd=>bH d i||L d
section
variable {P:au} {ops:Array Oper} {n:Cx} {K:Env->J->Prop}
def Ch(e:vS ops=true){i:Nat}{o:Oper}(h:ops[i]? =some o):o.guard=none/\∀d∈o.after,Region.binds .any d=true->d.on<i:=by unfold vS at e;have k:i<ops.size:=(Array.getElem?_eq_some_iff.1 h).1;have:=cY.1 e i (List.mem_range.2 k);rw[h]at this;simp only[be]at this;refine⟨by simpa using this.1,λd q j=>?_⟩;have:=cY.1 this.2 d (by grind);rw[j]at this;simpa using this
def ab3{i:Nat}{o:Oper}{a:Act}{E:Env}{w:J}{Kh:Env->J->Prop}{K':Act->J->Prop}{Q:Exit->Act->J->Prop}(k:du n ops=true)(e:ops[i]? =some o)(C:o.guard=none)(h:Ag n a E)(d:jJ P o E w Kh)(next:∀y x q,Ag n y x->Kh x q->K' y q):wpOp P ops Q i K' a w:=by
 have A:=Region.noSelect_spec (ops:=ops) (by unfold du at k;grind);have B:ct o (yielded ops a.tmps)=true:=by simp[ct,C]
 unfold jJ at d;cases z:calm P o with
 |true=>
  rw[z]at d;simp only[cond_true]at d;obtain⟨v,I,D,F,G⟩:=yS (λj b=>A i o j b e) h d;unfold wpOp;simp only[e,B,if_true];refine .inl ?_;unfold Oper.wp;rw[G w F];exact next _ _ _ (h.put v (g3 k e)) D
 |false=>
  rw[z]at d;simp only[cond_false]at d;exact Hk e B (nX (λj b=>A i o j b e) h d) λv q H=>next _ _ _ (h.put v (g3 k e)) H
def ac8(hn:du n ops=true)(D:vS ops=true)(z:(Nat->Bool)->Env->J->Prop)(step:∀j E w i o,ops[i]? =some o->j i=false->(∀k∈o.after,Region.binds .any k=true->j k.on=true)->z j E w->jJ P o E w λB H=>z (dW j i) B H)(fin:∀j E w,(∀i,i<ops.size->j i=true)->z j E w->K E w):
  ∀(fuel:Nat) (e:Array Bool) (a:Act) (E:Env) (w:J),e.size=ops.size->Ag n a E->z (λd=>e.getD d false) E w->((List.range ops.size).filter λd=>!e.getD d false).length<=fuel->
   wpAny P .any ops (hJ n K) fuel e a w:=by
 have done:∀(e:Array Bool) (a:Act) (E:Env) (w:J),e.size=ops.size->Ag n a E->z (λd=>e.getD d false) E w->dY .any ops e=[]->hJ n K .normal a w:=by
  intro e a E w F x q hr;refine⟨E,x,fin _ E w (λi=>?_) q⟩;induction i using Nat.strongRecOn with
  |_ i G=>
   intro y;cases Y:e.getD i false with
   |true=>rfl
   |false=>
    exfalso;have h:ops[i]? =some ops[i]:=Array.getElem?_eq_getElem y;have N:i∈dY .any ops e:=mem_ready.2 ⟨by
     grind,_,h,λk A L=>G k.on ((Ch D h).2 k A L) (Nat.lt_trans ((Ch D h).2 k A L) y)⟩
    grind
 intro fuel;induction fuel with
 |zero=>
  intro e a E w F x q W;have C:∀i,i<ops.size->e.getD i false=true:=λi y=>by
   cases Y:e.getD i false with
   |true=>rfl
   |false=>
    have:i∈(List.range ops.size).filter λd=>!e.getD d false:=List.mem_filter.2 ⟨List.mem_range.2 y,by grind⟩
    grind
  refine⟨?_,E,x,fin _ E w C q⟩;cases hr:dY .any ops e with
  |nil=>rfl
  |cons i l=>
   have N:i∈dY .any ops e:=by grind
   obtain⟨Q,o,h,_⟩:=mem_ready.1 N
   grind
 |succ fuel G=>
  intro e a E w F x q W;refine⟨done e a E w F x q,λi y=>?_⟩;obtain⟨Q,o,h,C⟩:=mem_ready.1 y;have aa:i<ops.size:=(Array.getElem?_eq_some_iff.1 h).1;have Z:i<e.size:=io
  have S:e.getD i false=false:=by grind
  refine ab3 hn h (Ch D h).1 x (step _ E w i o h S C q) λO B H T I=>?_;have A:(dW (λd=>e.getD d false) i)=λd=>(e.setIfInBounds i true).getD d false:=by
   funext d;by_cases M:i=d
   .subst M;simp[dW,Z]
   .have:bH d i=false:=by rw[<-ij,eA];omega
    rw[getD_set_ne false M]
    grind
  rw[A]at I;refine G _ O B H (by grind) T I ?_;have ac:((List.range ops.size).filter λd=>!(e.setIfInBounds i true).getD d false)=((List.range ops.size).filter λd=>!e.getD d false).filter λd=>!(bH d i):=by
   rw[List.filter_filter];refine List.filter_congr λd _=>?_;rw[<-congrFun A d]
   grind
  have ab:(((List.range ops.size).filter λd=>!e.getD d false).filter λd=>!(bH d i)).length<((List.range ops.size).filter λd=>!e.getD d false).length:=by
   refine List.length_filter_lt_length_iff_exists.2 ⟨i,List.mem_filter.2 ⟨List.mem_range.2 aa,by grind⟩,?_⟩;have:bH i i=true:=Nat.beq_refl i
   grind
  grind
def adb{c:Code}{id:Nat}{a:Act}{E:Env}{w:J}(e:(Nat->Bool)->Env->J->Prop)(D:P.follows .mixedOrders=true)(B:c=.region id ops true)(k:du n ops=true)(A:vS ops=true)(z:Ag n a E)(G:e (λ_=>false) E w.drew)(step:∀d E w i o,ops[i]? =some o->d i=false->(∀j∈o.after,Region.binds .any j=true->d j.on=true)->e d E w->jJ P o E w λq F=>e (dW d i) q F)(fin:∀d E w,(∀i,i<ops.size->d i=true)->e d E w->K E w):c.wpIn (FW n) 0 P (hJ n K) a w:=by
 subst B;have H:(λh=>(gd ops.size false).getD h false)=λ_=>false:=by funext h;by_cases C:h<ops.size<;>simp[C]
 have y:=ac8 (K:=K) k A e step fin ops.size (gd ops.size false) a E w.drew gs z (by grind) (bD (List.length_filter_le _ _) gs);refine wpIn_region_draw λt=>?_;refine sP k (λ⟨_,_,x⟩=>x) _ _ _ ?_;simp only[Region.schedule,D,Bool.true_or,if_true];exact wpAny_sound ops.size t _ a _ y
def Ga(P:au)(n:Nat)(c:Code):Bool:=match c with
 |.region _ ops d=>d&&(P.follows .mixedOrders&&(du n ops&&vS ops))
 |_=>false
def DZ(P:au)(c:Code)(K:Env->J->Prop)(E:Env)(w:J):Prop:=
 ∃e:(Nat->Bool)->Env->J->Prop,e (λ_=>false) E w.drew/\
  (∀d E w i o,(Code.ops c)[i]? =some o->d i=false->(∀h∈o.after,Region.binds .any h=true->d h.on=true)->e d E w->jJ P o E w λj k=>e (dW d i) j k)/\
  ∀d E w,(∀i,i<(Code.ops c).size->d i=true)->e d E w->K E w
abbrev xI(P:au)(c:Code)(K:Env->J->Prop)(E:Env)(w:J):Prop:=DZ P (Code.fst c) K E w
variable {Q:Exit->Act->J->Prop} {E:Env} {w:J}
def ig(c:Code)(d:Ga P n c=true)(y:DZ P c K E w)(G:∀e j h,Ag n h e->K e j->Q .normal h j):WP P n c Q E w:=by
 obtain⟨q,z,step,fin⟩:=y;unfold Ga at d;split at d
 .rename_i id ops F;simp only[be]at d;obtain⟨rfl,A,B,C⟩:=d;exact λa D=>wpIn_mono (adb q A rfl B C D z step fin) λx h j k=>by
   cases x with
   |normal=>obtain⟨e,hA,hK⟩:=k;grind
   |_=>exact k.elim
 grind
def si(c:Code)(h:(ug c&&Ga P n (Code.fst c))=true)(j:xI P c K E w)(x:∀d e,K d e->WP P n (Code.snd c) Q d e):WP P n c Q E w:=
 WP.seq (xH (pU h).1) (ig _ (pU h).2 j λd e y k q=>nx k (x d e q))
end
def rowOf(o:Oper):Op×Option Nat×aE×List Nat:=(o.op,o.dst,o.type,(o.after.toList.filter λd=>Region.binds .any d).map (·.on))
def allI{α:Type}(F:Nat->α->Prop):List α->Nat->Prop
 |[],_=>True
 |a::l,i=>F i a/\allI F l (i+1)
def HR{α:Type}{F:Nat->α->Prop}:∀{l:List α} {n i:Nat} {a:α},allI F l n->l[i]? =some a->F (n+i) a
 |[],_,i,a,_,d=>by grind
 |b::l,n,0,a,d,e=>by simp at e;subst e;exact d.1
 |b::l,n,i+1,a,d,e=>by
  have:=HR (i:=i) d.2 (by simpa using e)
  grind
section
variable {P:au} {K:Env->J->Prop} {E:Env} {w:J}
def yt(P:au)(e:(Nat->Bool)->Env->J->Prop)(i:Nat)(r:Op×Option Nat×aE×List Nat):Prop:=
 ∀d E w o,o.op=r.1->o.dst=r.2.1->o.type=r.2.2.1->d i=false->(∀j∈r.2.2.2,d j=true)->e d E w->jJ P o E w λh k=>e (dW d i) h k
def KP{c:Code}(h:List (Op×Option Nat×aE×List Nat))(F:(Code.ops c).toList.map rowOf=h)(e:(Nat->Bool)->Env->J->Prop)(q:e (λ_=>false) E w.drew)(step:allI (yt P e) h 0)(fin:∀d E w,(∀i,i<h.length->d i=true)->e d E w->K E w):DZ P c K E w:=by
 refine⟨e,q,λd E w i o D k B j=>?_,λd E w x j=>fin d E w (λi k=>x i ?_) j⟩
 .have z:h[i]? =some (rowOf o):=by grind
  have:=HR step z;rw[Nat.zero_add]at this;refine this d E w o rfl rfl rfl k (λG y=>?_) j;obtain⟨A,C,rfl⟩:=dN.1 y
  grind
 grind
def pC{o:Oper}{t:Nat}{v:V}(d:o.op=.move (.tmp t)\/o.op=.assign (.tmp t))(h:E.get? t=some v)(q:K (E.put o.dst v) w):jJ P o E w K:=by
 obtain⟨dst,op,j,pos,after,guard⟩:=o;have k:E.ev (.tmp t)=v:=by simp[Env.ev,Env.val,h]
 rcases d with d|d<;>(simp only at d;subst d)
 .show g4 P _ E (λv _=>K (E.put dst v) w);have e:E.e0 ⟨dst,.move (.tmp t),j,pos,after,guard⟩=true:=by simp[Env.e0,Op.operands,Env.val,h]
  unfold g4;rw[e];show K (E.put dst (E.ev (.tmp t))) w
  grind
 .show g4 P _ E (λv _=>K (E.put dst v) w);have e:E.e0 ⟨dst,.assign (.tmp t),j,pos,after,guard⟩=true:=by simp[Env.e0,Op.operands,Env.val,h]
  unfold g4;rw[e];show K (E.put dst (E.ev (.tmp t))) w
  grind
def sB{o:Oper}{T:aE}{t:Nat}{p:Addr}(d:o.op=.load T (.tmp t))(h:E.get? t=some (.pointer (some p)))(e:n9 P T p w λv _=>K (E.put o.dst v) w):jJ P o E w K:=by obtain⟨dst,op,j,pos,after,guard⟩:=o;simp only at d;subst d;show(match E.val (.tmp t)with |some (.pointer (some p))=>n9 P T p w (λv _=>K (E.put dst v) w)|_=>False);rw[show E.val (.tmp t)=some (.pointer (some p))from h];exact e
def abW{o:Oper}{f d t2:Nat}{e h:V}(q:o.op=.makeFunc (.func f) #[] #[.tmp d,.tmp t2])(j:E.get? d=some e)(k:E.get? t2=some h)(B:K (E.put o.dst (.func (.func f) #[] #[e,h])) w):jJ P o E w K:=by
 obtain⟨dst,op,y,pos,after,guard⟩:=o;simp only at q;subst q;show g4 P _ E (λv _=>K (E.put dst v) w);have x:E.e0 ⟨dst,.makeFunc (.func f) #[] #[.tmp d,.tmp t2],y,pos,after,guard⟩=true:=by simp[Env.e0,Op.operands,Env.val,j,k]
 unfold g4;rw[x];show K (E.put dst (.func (.func f) (#[].map E.ev) (#[.tmp d,.tmp t2].map E.ev))) w;have z:E.ev (.tmp d)=e:=by simp[Env.ev,Env.val,j]
 have A:E.ev (.tmp t2)=h:=by simp[Env.ev,Env.val,k]
 grind
def abX{o:Oper}{T:aE}(d:o.op=.makeMap T none)(h:K (E.put o.dst (.map (some w.heap.size))) (w.alloc (.map #[] 0))):jJ P o E w K:=by
 obtain⟨dst,op,e,pos,after,guard⟩:=o;simp only at d;subst d;have j:E.e0 ⟨dst,.makeMap T none,e,pos,after,guard⟩=true:=by simp[Env.e0,Op.operands]
 have k:tT P ⟨dst,.makeMap T none,e,pos,after,guard⟩ E w (λv q=>K (E.put dst v) q):=by unfold tT;rw[j];exact h
 unfold jJ;simp only[calm,cond_false];unfold hM;exact k
def qE{o:Oper}{T:aE}{m k v:Operand}{j h q:V}(e:o.op=.insert T m k v)(z:E.val m=some j)(y:E.val k=some h)(A:E.val v=some q)(x:∃d,(Instr.mapUpdate T j h q).run P w=.ok () d/\K (E.put o.dst undef) d):jJ P o E w K:=by obtain⟨dst,op,B,pos,after,guard⟩:=o;simp only at e;subst e;show(match E.val m,E.val k,E.val v with |some m,some k,some v=>Jw P (Instr.mapUpdate T m k v) w (λv d=>K (E.put dst v) d)|_,_,_=>False);rw[z,y,A];exact x
def GL{o:Oper}{t a b f:Nat}{ts:Array aE}{first captured:Array V}{x y:V}(k:o.op=.call ⟨.value (.tmp t),#[.tmp a,.tmp b],ts⟩)(q:E.get? t=some (.func (.func f) first captured))(h:E.get? a=some x)(j:E.get? b=some y)(D:hg P f=true)(C:aj P f (first++#[x,y]++captured) w λz e=>n5 (zeroOf P o.type) λv=>z=ad v/\K (E.put o.dst v) e):jJ P o E w K:=by
 obtain⟨dst,op,d,pos,after,guard⟩:=o;simp only at k;subst k;show cL (E.e0 ⟨dst,.call ⟨.value (.tmp t),#[.tmp a,.tmp b],ts⟩,d,pos,after,guard⟩) (match E.get? t with
  |some (.func (.func f) first captured)=>cL (hg P f) (rh P f (first++(#[Operand.tmp a,.tmp b]).map E.ev++captured) (zeroOf P d) w (λv e=>K (E.put dst v) e))
  |_=>False)
 have F:E.e0 ⟨dst,.call ⟨.value (.tmp t),#[.tmp a,.tmp b],ts⟩,d,pos,after,guard⟩=true:=by simp[Env.e0,Op.operands,Call.operands,Env.val,q,h,j]
 rw[F,q];show cL (hg P f) _;rw[D];have A:E.ev (.tmp a)=x:=by simp[Env.ev,Env.val,h]
 have B:E.ev (.tmp b)=y:=by simp[Env.ev,Env.val,j]
 show rh P f _ _ w _;simp only[List.map_toArray,List.map_cons,List.map_nil,A,B];exact C
def oK(T:List (Nat×Nat×V))(L:Nat->Bool)(E:Env):Prop:=∀d∈T,(bif bH d.1 0 then true else L (d.1 - 1))=true->E.get? d.2.1=some d.2.2
def oK.get{T:List (Nat×Nat×V)}{L:Nat->Bool}(e:oK T L E){i d:Nat}{v:V}(h:(i,d,v)∈T)(hi:(bif bH i 0 then true else L (i - 1))=true):E.get? d=some v:=e _ h hi
def jw{E:Env}{d t:Nat}{v:V}(e:d≠t):(E.put (some d) v).get? t=E.get? t:=by
 have:bH d t=false:=by rw[<-ij,eA];exact e
 simp only[Env.put,Env.get?,this,cond_false]
def ub{E:Env}{d:Nat}{v:V}:(E.put (some d) v).get? d=some v:=by simp[Env.put,Env.get?]
def oK.fill{T:List (Nat×Nat×V)}{L:Nat->Bool}(w:oK T L E){i d:Nat}{v:V}(x:∀e∈T,e.1=i+1->e=(i+1,d,v))(y:∀e∈T,e.2.1=d->e.1=i+1):oK T (dW L i) (E.put (some d) v):=by
 intro e j A;by_cases h:e.2.1=d
 .obtain rfl:=x e j (y e j h);exact ub
 .rw [jw (λk=>h k.symm)];refine w e j ?_;by_cases q:e.1=0
  .rw [q];rfl
  .have z:bH e.1 0=false:=by rw[<-ij,eA];exact q
   rw[z]at A ⊢;have B:e.1 - 1≠i:=λk=>h (by grind);have:bH (e.1 - 1) i=false:=by rw[<-ij,eA];omega
   grind
def oK.pass{T:List (Nat×Nat×V)}{L:Nat->Bool}(q:oK T L E){i:Nat}{d:Option Nat}{v:V}(w:∀e∈T,e.1≠i+1)(x:∀e∈T,d≠some e.2.1):oK T (dW L i) (E.put d v):=by
 intro e h z;have A:(E.put d v).get? e.2.1=E.get? e.2.1:=by
  cases d with
  |none=>rfl
  |some d=>exact jw λj=>x e h (by rw[j])
 rw[A];refine q e h ?_;by_cases k:e.1=0
 .rw [k];rfl
 .have y:bH e.1 0=false:=by rw[<-ij,eA];exact k
  rw[y]at z ⊢;have B:e.1 - 1≠i:=λj=>w e h io;have:bH (e.1 - 1) i=false:=by rw[<-ij,eA];omega
  grind
end
structure LC(w:J)(L:List (Nat×List V×aE)):Prop where
 own:∀(i:Nat) (x:Nat×List V×aE),L[i]? =some x->w.heap[x.1]? =some (.cells x.2.1.toArray x.2.2 (0,0))
 dj:∀(i j:Nat) (x y:Nat×List V×aE),L[i]? =some x->L[j]? =some y->x.1=y.1->i=j
abbrev h5(L:List (Nat×List V×aE)):List Nat:=L.map (·.1)
def loc(bs:List Nat)(w:J)(K:J->Prop):Prop:=∀d,Fr (·∈bs) w d->K d
def uA(bs:List Nat)(w:J)(K:Nat->J->Prop):Prop:=∀b d,w.heap.size<=b->d.heap.size=b+1->Fr (·∈bs) w d->K b d
def fH(bs:List Nat)(P:au)(f:bX)(args:Array V)(w:J)(K:aB):Prop:=∃d:Nat->Prop,(∀b∈bs,¬d b)/\aj P f args w λr e=>Fr d w e/\K r e
def kept(bs:List Nat)(w w':J):Prop:=∀b∈bs,w'.heap[b]? =w.heap[b]?
def r5{q:Option Addr}{K K':Addr->Prop}(d:dv q K)(f:∀p,K p->K' p):dv q K':=by
 cases q with
 |none=>exact d
 |some p=>exact f p d
def Ru{t:Bool}{A e d h:Prop}(j:bB t A e)(k:A->d)(q:e->h):bB t d h:=abk k q j
def abT{w:J}{p:Addr}{v:V}{K K':J->Prop}(d:aM w p v K)(f:∀e,K e->K' e):aM w p v K':=⟨d.1,d.2.1,f _ d.2.2⟩
section
variable {w wT:J} {L:List (Nat×List V×aE)}
def LC.nil(w:J):LC w []:=⟨λi e d=>by grind,λi h e j d=>by grind⟩
def LC.Uq(H:LC w L){b:Nat}(d:b∈h5 L):∃(i:Nat) (x:Nat×List V×aE),L[i]? =some x/\x.1=b:=by
 obtain⟨x,e,rfl⟩:=dN.1 d;obtain⟨i,h⟩:=i9.1 e
 grind
def LC.lt(H:LC w L){b:Nat}(d:b∈h5 L):b<w.heap.size:=by obtain⟨i,h,e,rfl⟩:=H.Uq d;exact o9 (H.own i h e)
def LC.o5{w':J}(H:LC w L)(h:kept (h5 L) w w'):LC w' L:=
 ⟨λi d e=>by rw[h d.1 (dN.2 ⟨d,aA e,rfl⟩)];exact H.own i d e,H.dj⟩
def LC.fr{M:Nat->Prop}{w':J}(H:LC w L)(f:Fr M w w')(e:∀b∈h5 L,¬M b):LC w' L:=H.o5 λb d=>f.cD b (H.lt d) (e b d)
def LC.pick(H:LC w L)(is:List Nat)(A:is.Nodup):LC w (is.filterMap λi=>L[i]?):=by
 induction is with
 |nil=>exact LC.nil w
 |cons x is e=>
  have e:=e (List.nodup_cons.1 A).2;cases q:L[x]? with
  |none=>grind
  |some y=>
   rw[List.filterMap_cons_some q];have back:∀(j:Nat) d,(is.filterMap λi=>L[i]?)[j]? =some d->d.1≠y.1:=by
    intro j d B h;obtain⟨m,E,z⟩:=List.mem_filterMap.1 (aA B);have:=H.dj m x d y z q h
    grind
   refine⟨λi d k=>?_,λi j d C k D h=>?_⟩
   .cases i with
    |zero=>simp at k;subst k;exact H.own x y q
    |succ i=>exact e.own i d (by grind)
   .cases i with
    |zero=>
     grind
    |succ i=>
     cases j with
     |zero=>grind
     |succ j=>rw[e.dj i j d C (by grind) (by grind) h]
def LC.alloc(H:LC w L)(o:Obj):LC (w.alloc o) L:=H.fr (M:=λ_=>False) (Fr.alloc _ _ _) (λ_ _ d=>d)
def LC.push(H:LC w L)(cs:Array V)(T:aE):LC (w.alloc (.cells cs T)) (L++[(w.heap.size,cs.toList,T)]):=by
 have y:=H.alloc (.cells cs T);have B:∀(i:Nat) d,L[i]? =some d->d.1<w.heap.size:=λi d e=>o9 (H.own i d e);have j:∀(i:Nat) d,(L++[(w.heap.size,cs.toList,T)])[i]? =some d->(L[i]? =some d)\/(i=L.length/\d=(w.heap.size,cs.toList,T)):=by grind
 refine⟨λi d e=>?_,λi q d x e A z=>?_⟩
 .rcases j i d e with h|⟨_,rfl⟩
  .exact y.own i d h
  .simp only[Array.toArray_toList];exact qj w _
 .rcases j i d e with h|⟨h,rfl⟩
  .rcases j q x A with k|⟨k,rfl⟩
   .exact H.dj i q d x h k z
   grind
  grind
def Ck(L:List (Nat×List V×aE))(i:Nat){b:Nat}{vs d:List V}{T:aE}(hi:L[i]? =some (b,vs,T)):h5 (L.set i (b,d,T))=h5 L:=by
 apply List.ext_getElem?
 grind
def LC.set(H:LC w L)(i j:Nat){b:Nat}{vs:List V}{T:aE}{v:V}(hi:L[i]? =some (b,vs,T))(M:j<vs.length)(f:Fr (·∈h5 L) wT w):
  (w.cell? ((ab b).add j)).isSome=true/\w.frozen? ((ab b).add j)=false/\LC (w.setCell ((ab b).add j) v) (L.set i (b,vs.set j v,T))/\Fr (·∈h5 (L.set i (b,vs.set j v,T))) wT (w.setCell ((ab b).add j) v):=by
 obtain⟨E,F,N,x⟩:=AR (H.own i _ hi) j io v;have A:b∈h5 L:=dN.2 ⟨_,aA hi,rfl⟩;refine⟨E,F,⟨λk d e=>?_,λk m d q e B h=>?_⟩,?_⟩
 .rw [List.getElem?_set]at e;split at e
  .grind
  .rename_i C;have:=x.cD d.1 (o9 (H.own k d e)) (λh=>C (H.dj i k _ d hi e h.symm));rw[this];exact H.own k d e
 .have g:∀(k:Nat) d,(L.set i (b,vs.set j v,T))[k]? =some d->∃q,L[k]? =some q/\q.1=d.1:=by grind
  obtain⟨D,y,I⟩:=g k d e;obtain⟨G,z,K⟩:=g m q B;exact H.dj k m D G y z io
 .rw [Ck L i hi];exact f.trans x λd _ h=>h▸A
def kf{bs:List Nat}{P:au}{f:bX}{args:Array V}{K:aB}(d:aj P f args w λr e=>ag w e/\K r e):fH bs P f args w K:=⟨λ_=>False,λ_ _ d=>d,d⟩
end
def En.g(b:Nat):En:=⟨[b],λd=>b<d.heap.size,λd k h e=>(by grind),λd e q j=>by grind,gs⟩
section
variable {M:Nat->Prop} {w0 w:J} {L D:List En} {bs:List Nat}
def O.ghost(H:O M w0 w L D){w':J}(f:Fr (·∈bs) w w')(k:∀b∈bs,En.g b∈L):O M w0 w' L D:=by
 refine⟨H.fr.trans f λC G j=>(H.new _ (k C j) C (by simp[En.g])).resolve_left io,λd e=>?_,λd e=>?_,H.new,H.nd,H.dj⟩
 .by_cases z:∃b∈bs,b∈d.fp
  .obtain ⟨b,h,E⟩:=z;obtain⟨i,A⟩:=i9.1 e;obtain⟨B,q⟩:=i9.1 (k b h);have F:i=B:=by
    rcases Nat.decEq i B with y|y
    .exact absurd (by simp[En.g]) (jS H.nd A q y b E)
    omega
   subst F;rw[A]at q;cases q;exact sT (H.own _ e) f.size
  .exact d.st w w' (λb h x=>f.cD b x λj=>z ⟨b,j,h⟩) (H.own d e)
 .exact d.st w w' (λb h x=>f.cD b x λj=>H.dj d e b h _ (k b j) (by simp[En.g])) (H.rd d e)
def O.ae(H:O M w0 w L D){K:J->Prop}(h:∀d,O M w0 d L D->K d)(e:∀b∈bs,En.g b∈L:=by simp):loc bs w K:=λ_ f=>h _ (H.ghost f e)
def O.ax(H:O M w0 w L D){K:Nat->J->Prop}(C:∀b q,O M w0 q (L++[.g b]) D->K b q)(B:∀b∈bs,En.g b∈L:=by simp):uA bs w K:=λb q A F f=>C b q (by
 have x:=H.ghost f B;refine⟨x.fr,λh d=>?_,x.rd,λh d k e=>?_,?_,λh d k e z j y=>?_⟩
 .rcases aK.1 d with d|d
  .exact x.own h d
  .simp at d;subst d;show b<_;omega
 .rcases aK.1 d with d|d
  .exact H.new h d k e
  .simp at d;subst d;simp[En.g]at e;subst e;exact .inl (bD H.fr.size A)
 .rw [List.flatMap_append,eI];refine⟨H.nd,by simp[En.g],λk e G E=>?_⟩;have:=H.r6 k e;simp[En.g]at E;omega
 .rcases aK.1 j with j|j
  .exact H.dj h d k e z j y
  .simp at j;subst j;simp[En.g]at y;subst y;have:=h.lt w (H.rd h d) k e;omega)
def O.av(H:O M w0 w L D){P:au}{g:bX}{args:Array V}{A K:aB}(h:aj P g args w λr d=>A r d/\ag w d)(j:∀r d,A r d->O M w0 d L D->K r d):fH bs P g args w K:=
 kf (h.mono λr d ⟨e,f⟩=>⟨f,j r d e (H.cC f)⟩)
def O.call(H:O M w0 w L D){P:au}{g:bX}{args:Array V}{A K:aB}(h:aj P g args w λr d=>A r d/\ag w d)(j:∀r d,A r d->O M w0 d L D->K r d):aj P g args w K:=
 h.mono λr d ⟨e,f⟩=>j r d e (H.cC f)
def O.P'(H:O M w0 w L D){w':J}(f:ag w w'){e:aE}{sz:Nat}{s:Sl}{vs:List V}(d:aL w' e sz s vs)(h:∀b∈aR s,w.heap.size<=b):O M w0 w' (L++[.row e sz s vs]) D:=H.push (.row e sz s vs) f d h
def O.HU(H:O M w0 w L D)(i:Nat){P:au}{t ty e:aE}{z:V}{sz bytes:Nat}(E:fQ P t e z sz bytes){s src:Sl}{xs news:List V}{K:Sl->J->Prop}(hi:L[i]? =some (.row e sz s xs))(Y:fq w src news)(W:news.length=src.n *sz)(S:∀u∈news,u.oneCell'=true)(j:(s.n+src.n) *bytes<=140737488355328)(T:∀d h,O M w0 h (L.set i (.row e sz d (xs++news))) D->d.n=s.n+src.n->(d.a=none->s.a=none/\src.n=0)->(∀b,En.g b∈L->h.heap[b]? =w.heap[b]?)->K d h):
  ∃d h,(hX #[t,t] ty #[s.v,src.v]).run P w=.ok d.v h/\K d h:=by
 obtain⟨d,h,F,G,I,y,N,Q⟩:=Ca (ty:=ty) E (H.get i hi) Y W S j;refine⟨d,h,F,T d h (H.gb i (.row e sz d (xs++news)) hi y G N) I Q λb j=>?_⟩;refine y.cD b (H.own _ j) λC=>?_;obtain⟨Z,q⟩:=i9.1 j;by_cases B:i=Z
 .subst B;rw[hi]at q;cases ab:(En.row e sz s xs)with
  |mk aa P' st lt ae=>
   have k:En.row e sz s xs=En.g b:=dZ q;have x:(En.row e sz s xs).P=(En.g b).P:=by rw[k]
   have e3:=congrFun x w;have e4:(En.row e sz s xs).P (w.alloc (.cells #[] e))=(En.g b).P (w.alloc (.cells #[] e)):=by rw[k]
   have f1:(En.row e sz s xs).fp=(En.g b).fp:=by rw[k]
   have A:(En.g b).P ({w with heap:=gd (b+1) (.map #[] 0)}):=by show b<_;simp
   rw[<-x]at A;have ac:=(aL.row (show aL ({w with heap:=gd (b+1) (.map #[] 0)}) e sz s xs from A)).vt b C
   grind
 .exact jS H.nd hi q B b C (by simp[En.g])
end
def bo(sz:Nat)(w:J)(s:Sl)(vs:List V):Prop:=vs.length=s.n *sz/\s.n<=s.c/\fq w s vs
def bo.fr{sz:Nat}{M:Nat->Prop}{w w':J}{s:Sl}{vs:List V}(d:bo sz w s vs)(e:Fr M w w')(h:∀b∈aR s,¬M b):bo sz w' s vs:=⟨d.1,d.2.1,d.2.2.fr e h⟩
def bo.cC{sz:Nat}{w w':J}{s:Sl}{vs:List V}(d:bo sz w s vs)(e:ag w w'):bo sz w' s vs:=d.fr e λ_ _ d=>d
def aL.a2{w:J}{e:aE}{sz:Nat}{s:Sl}{vs:List V}(d:aL w e sz s vs):bo sz w s vs:=⟨d.len,d.cap,d.row.rs⟩
def bo.nil(sz:Nat)(w:J):bo sz w ⟨none,0,0⟩ []:=⟨gs,bm _,fq.nil w⟩
def En.a2(sz:Nat)(s:Sl)(vs:List V):En:=⟨if vs=[]then[]else aR s,λq=>bo sz q s vs,λq A w d=>by
  refine⟨d.1,d.2.1,d.2.2.1,λi v y=>?_⟩;obtain⟨p,h,e⟩:=d.2.2.2 i v y;have k:vs≠[]:=λz=>by grind
  rw[aa k]at w;have:=w p.block (by simp[aR,h]) (by have:=rk e;rwa[j']at this);refine⟨p,h,?_⟩;unfold World.cell? at e ⊢;rw[j']at e ⊢
  grind,λq d b j=>by
  split at j
  .cases j
  .rename_i k;have x:0<vs.length:=List.length_pos_iff.2 k;obtain⟨p,h,e⟩:=d.2.2.2 0 vs[0] (a0 x);simp[aR,h]at j;subst j;have:=rk e
   rwa[j']at this,by split<;>(try simp);unfold aR;grind⟩
def pG(sz:Nat)(s:Sl)(l d:Nat):Sl:=⟨if s.c=l then s.a else s.a.map (·.add (l *sz)),d - l,s.c - l⟩
def bo.sub{sz:Nat}{w:J}{s:Sl}{vs:List V}(j:bo sz w s vs)(l hi:Nat)(D:l<=hi)(y:hi<=s.n):bo sz w (pG sz s l hi) ((vs.take (hi *sz)).drop (l *sz)):=by
 obtain⟨k,B,C,q⟩:=j;have h:hi *sz<=s.n *sz:=kR _ y;refine⟨?_,?_,?_,λi v e=>?_⟩
 .rw [List.length_drop,List.length_take,k,Nat.min_eq_left h];show _=(hi - l) *sz;rw[Nat.sub_mul]
 .show hi - l<=s.c - l;omega
 .intro d;unfold pG at d ⊢;simp only at d ⊢;split at d
  .omega
  .cases G:s.a with
   |none=>grind
   |some p=>grind
 .rw [List.getElem?_drop]at e;have z:l *sz+i<hi *sz:=by grind
  rw[List.getElem?_take,af z]at e;obtain⟨p,F,x⟩:=q _ _ e;have E:s.c≠l:=λA=>by grind
  refine⟨p.add (l *sz),?_,?_⟩
  .unfold pG
   grind
  .rw [add_add];exact x
def mO:List Nat->List Nat
 |[]=>[]
 |a::l=>if a∈mO l then mO l else a::mO l
def a7{x:Nat}:∀{l:List Nat},x∈mO l↔x∈l
 |[]=>Iff.rfl
 |a::l=>by
  unfold mO;split
  .rename_i e;rw[a7,aF];exact⟨.inr,λh=>h.elim (λd=>by subst d;exact a7.1 e) id⟩
  .rw [aF,aF,a7]
def uB:∀l:List Nat,(mO l).Nodup
 |[]=>.nil
 |a::l=>by
  unfold mO;split
  .exact uB l
  .rename_i d;exact List.nodup_cons.2 ⟨d,uB l⟩
def En.all(es:List En):En:=⟨mO (es.flatMap (·.fp)),λe=>∀d∈es,d.P e,λe y q k d h=>d.st e y (λb j x=>q b (a7.2 (cl.2 ⟨d,h,j⟩)) x) (k d h),
 λe k b j=>(by obtain⟨d,h,w⟩:=cl.1 (a7.1 j);exact d.lt e (k d h) b w),uB _⟩
section
variable {M:Nat->Prop} {w0 w:J} {L D:List En} {bs:List Nat}
structure BH(M:Nat->Prop)(w0 w w':J)(L D:List En):Prop where
 own:∀e:En,e.P w'->(∀b∈e.fp,w.heap.size<=b)->O M w0 w' (L++[e]) D
 rd:∀e:En,e.P w'->(∀b∈e.fp,w.heap.size<=b)->O M w0 w' L (D++[e])
def O.fresh(H:O M w0 w L D){w':J}(f:ag w w'):BH M w0 w w' L D:=⟨λd e h=>H.push d f e h,λd e h=>H.ec d f e λb j=>.inl (h b j)⟩
def O.hh(H:O M w0 w L D){P:au}{g:bX}{args:Array V}{A K:aB}(h:aj P g args w λr d=>A r d/\ag w d)(j:∀r d,A r d->O M w0 d L D->BH M w0 w d L D->K r d):fH bs P g args w K:=
 kf (h.mono λr d ⟨e,f⟩=>⟨f,j r d e (H.cC f) (H.fresh f)⟩)
def O.yQ(H:O M w0 w L D){P:au}{g:bX}{args:Array V}{A K:aB}(h:aj P g args w λr d=>A r d/\ag w d)(j:∀r d,A r d->O M w0 d L D->BH M w0 w d L D->K r d):aj P g args w K:=
 h.mono λr d ⟨e,f⟩=>j r d e (H.cC f) (H.fresh f)
end
def nD{sz:Nat}{s:Sl}{vs:List V}{n:Nat}(e:∀b∈aR s,n<=b):∀b∈(En.a2 sz s vs).fp,n<=b:=λb d=>by
 have:b∈(if vs=[]then[]else aR s):=d
 grind
section
variable {M:Nat->Prop} {w0 w:J} {L D:List En} {bs:List Nat}
def O.eD(H:O M w0 w L D)(i:Nat){P:au}{t ty e:aE}{z:V}{sz bytes:Nat}(k:fQ P t e z sz bytes){s src:Sl}{xs news:List V}{K:Sl->J->Prop}(hi:L[i]? =some (.row e sz s xs))(j:bo sz w src news)(x:∀u∈news,u.oneCell'=true)(A:(s.n+src.n) *bytes<=140737488355328)(y:∀h d,O M w0 d (L.set i (.row e sz h (xs++news))) D->K h d)(C:∀b∈bs,En.g b∈L:=by simp):
  ∃h d,(hX #[t,t] ty #[s.v,src.v]).run P w=.ok h.v d/\kept bs w d/\K h d:=
 H.HU i k (K:=λh d=>kept bs w d/\K h d) hi j.2.2 j.1 x A λh d q _ _ E=>⟨λb B=>E b (C b B),y h d q⟩
def O.jn(H:O M w0 w L D)(i:Nat){P:au}{t ty e:aE}{z:V}{sz bytes:Nat}(q:fQ P t e z sz bytes){T:aE}{s:Sl}{xs:List V}{news:Array V}{K:Sl->J->Prop}(hi:L[i]? =some (.row e sz s xs))(y:∀h d,O M w0 d (L.set i (.row e sz h (xs++news.toList))) D->K h d)(A:(s.n+1) *bytes<=140737488355328)(C:news.size=sz:=by rfl)(x:∀u∈news.toList,u.oneCell'=true:=by simp[Value.oneCell'])(B:∀b∈bs,En.g b∈L:=by simp):
  c9 w (.cells news T) λj=>∃h d,(hX #[t,t] ty #[s.v,.slice (some (Addr.mk w.heap.size 0 none)) 1 1]).run P j=.ok h.v d/\kept bs j d/\K h d:=by have k:O M w0 (w.alloc (.cells news T)) L D:=H.cC (Fr.alloc _ _ _);exact k.eD i q (src:=⟨some (ab w.heap.size),1,1⟩) (ty:=ty) (K:=K) (news:=news.toList) hi ⟨by grind,bm _,(Row.made w T 1 1 news.toList).rs⟩ x A y B
end
def FN{w:J}{e:aE}{sz:Nat}{s:Sl}{vs:List V}(h:aL w e sz s vs)(i:Nat)(hi:i<vs.length)(v:V):
  ∃p,s.a=some p/\p.block∈aR s/\(w.cell? (p.add i)).isSome=true/\w.frozen? (p.add i)=false/\aL (w.setCell (p.add i) v) e sz s (vs.set i v)/\Fr (·∈aR s) w (w.setCell (p.add i) v):=by
 have B:=h.len;rcases h.cases with⟨rfl,rfl⟩|⟨g,cur,d,j,k,x,y,z⟩
 .simp at hi
 .have C:s.n *sz<=s.c *sz:=kR _ k;have A:i<cur.size:=io
  have q:g∈aR s:=by simp[aR,d]
  refine⟨⟨g,0,none⟩,d,q,?_,frozenAt (p:=⟨g,0,none⟩) j,?_,Fr.set _ _ _ (by rw[j'];exact q)⟩
  .rw [cellAt (p:=⟨g,0,none⟩) (v:=cur[i]) j rfl (by simp[A])];rfl
  .refine ⟨by simpa using h.1,.inr ⟨g,s.c,cur.setIfInBounds i v,?_,di _,?_,k,x,by simpa using y,?_⟩⟩
   .obtain ⟨a,n,c⟩:=s;simp only at d;subst d;rfl
   .have:=setAt (p:=⟨g,0,none⟩) (i:=i) (v:=v) j rfl;simpa using this
   .rw [Array.toList_setIfInBounds,List.take_set,z]
section
variable {M:Nat->Prop} {w0 w:J} {L D:List En} {bs:List Nat}
def O.zb(H:O M w0 w L D){i:Nat}{e:aE}{sz:Nat}{s:Sl}{xs:List V}(hi:L[i]? =some (.row e sz s xs)){b:Nat}(y:En.g b∈L):b∉aR s:=λk=>by
 obtain⟨A,d⟩:=i9.1 y;by_cases j:i=A
 .subst j;rw[hi]at d;have q:En.row e sz s xs=En.g b:=dZ d;have x:(En.row e sz s xs).P=(En.g b).P:=by rw[q]
  have h:(En.g b).P ({w with heap:=gd (b+1) (.map #[] 0)}):=by show b<_;simp
  rw[<-x]at h;obtain⟨B,f,z⟩:=(aL.row (show aL ({w with heap:=gd (b+1) (.map #[] 0)}) e sz s xs from h)).vt b k;simp at z
 .exact jS H.nd hi d j b k (by simp[En.g])
def O.vf(H:O M w0 w L D)(i a c:Nat){e:aE}{sz:Nat}{s:Sl}{xs:List V}{v:V}{p:Addr}{K:J->Prop}(hi:L[i]? =some (.row e sz s xs))(B:s.a=some p)(z:a+c<xs.length)(y:∀k,O M w0 k (L.set i (.row e sz s (xs.set (a+c) v))) D->K k)(h:∀b∈bs,En.g b∈L:=by simp):aM w ((p.add a).add c) v λq=>kept bs w q/\K q:=by obtain⟨I,j,G,C,E,F,x⟩:=FN (H.get i hi) (a+c) z v;rw[B]at j;cases j;rw[add_add];refine⟨C,E,λb d=>?_,y _ (H.gb i (.row e sz s (xs.set (a+c) v)) hi x F (λb d=>.inl d))⟩;exact x.cD b (H.own _ (h b d)) λA=>H.zb hi (h b d) A
end
def mR:List Bool->List En->List En
 |true::m,a::l=>a::mR m l
 |false::m,_::l=>mR m l
 |_,_=>[]
def u5:∀(m:List Bool) (l:List En),(mR m l).Sublist l
 |[],l=>by unfold mR;exact List.nil_sublist _
 |true::m,[]=>by unfold mR;exact List.nil_sublist _
 |false::m,[]=>by unfold mR;exact List.nil_sublist _
 |true::m,a::l=>by unfold mR;exact(u5 m l).cons_cons a
 |false::m,a::l=>by unfold mR;exact(u5 m l).cons a
def ab9{α β:Type}{f:α->List β}{l m:List α}(e:l.Sublist m):(l.flatMap f).Sublist (m.flatMap f):=by
 induction e with
 |slnil=>exact List.Sublist.refl _
 |cons a _ d=>rw[da];exact d.trans (List.sublist_append_right _ _)
 |cons_cons a _ d=>rw[da,da];exact(List.Sublist.refl _).append d
def O.mR{M:Nat->Prop}{w0 w:J}{L D:List En}(H:O M w0 w L D)(m:List Bool):O M w0 w (mR m L) D:=
 ⟨H.fr,λd e=>H.own d ((u5 m L).subset e),H.rd,λd e=>H.new d ((u5 m L).subset e),(ab9 (u5 m L)).nodup H.nd,λd e b j h k=>H.dj d e b j h ((u5 m L).subset k)⟩
def uU{s:Sl}{vs:List V}{n:Nat}(d:∀b∈aR s,n<=b):∀b∈(En.rd s vs).fp,n<=b:=λb e=>by
 have:b∈(if vs=[]then[]else aR s):=e;split at this
 .cases this
 .exact d b this
def zc{M:Nat->Prop}{w0 w:J}{L D:List En}(H:O M w0 w L D){i:Nat}{e:En}(hi:L[i]? =some e)(x:∀(b:Nat),¬e.P ({w with heap:=gd (b+1) (.map #[] 0)})){b:Nat}(k:En.g b∈L):b∉e.fp:=by
 obtain⟨y,d⟩:=i9.1 k;by_cases h:i=y
 .subst h;rw[hi]at d;have j:e=En.g b:=dZ d;exfalso;refine x b ?_;rw[j];show b<_;simp
 .intro q;exact jS H.nd hi d h b q (by simp[En.g])
section
variable {M:Nat->Prop} {w0 w:J} {L D:List En} {bs:List Nat}
def O.sy(H:O M w0 w L D)(i j:Nat){e:aE}{sz:Nat}{s:Sl}{xs:List V}{v:V}{p:Addr}{K:J->Prop}(hi:L[i]? =some (.row e sz s xs))(C:s.a=some p)(A:j<xs.length)(z:∀q,O M w0 q (L.set i (.row e sz s (xs.set j v))) D->K q)(h:∀b∈bs,En.g b∈L:=by simp):aM w (p.add j) v λx=>kept bs w x/\K x:=by obtain⟨N,k,I,E,F,G,y⟩:=FN (H.get i hi) j A v;rw[C]at k;cases k;refine⟨E,F,λb d=>?_,z _ (H.gb i (.row e sz s (xs.set j v)) hi y G (λb d=>.inl d))⟩;exact y.cD b (H.own _ (h b d)) λB=>H.zb hi (h b d) B
end
def ZL{p:Addr}{K:Addr->Prop}(d:K p):dv (some p) K:=d
def aaQ{w:J}{e:aE}{s:Sl}{vs:List V}(d:aL w e 1 s vs){X:Int}{i:Nat}(h:X=(i:Int)){v:V}(hi:vs[i]? =some v){K:Addr->Prop}(j:∀p,s.a=some p->w.cell? (p.add (Int.toNat X *1))=some v->K p):
  (0:Int)<=X/\X<(s.n:Int)/\dv s.a K:=by have q:=d.len;have k:=(cq.1 hi).1;subst h;exact⟨io,io,Rd.get d.Aw (i:=i) (v:=v) hi gs j⟩
abbrev nN(s:Sl)(i:Int)(K:Addr->Prop):Prop:=0<=i/\i<(s.n:Int)/\dv s.a K
end Go.W
end
