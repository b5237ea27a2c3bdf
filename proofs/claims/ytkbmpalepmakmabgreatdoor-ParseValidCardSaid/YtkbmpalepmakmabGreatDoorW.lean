import Derived.OrdersHeld
import Derived.OrdersIn
import Derived.RangeFuncLeaves
import Derived.RangeFuncRecord
import Derived.RangeFuncSeq
import Derived.WalkKit
import Derived.Laws.AppendOwn
import Derived.Laws.StructEq
import Derived.KernelRfl
import Derived.Below
import Derived.OwnWalk
import Derived.IntWalk
import Derived.Laws.AppendOwnNone
set_option linter.unusedVariables false
set_option linter.defProp false
noncomputable section
namespace Go.W
theorem io{p:Prop}(h:p:=by omega):p:=h
theorem gs{p:Prop}(h:p:=by simp):p:=h
theorem dl{p:Prop}(h:p:=by decide):p:=h
open Go renaming World->I,Calls->ai,Program->au,Value->V,TypeId->aE,Ending->cW,FuncId->b3,IntKind->ij
open Go.IntKind renaming wrap->aB
open _root_.ByteArray renaming mk->a'
open Go.Builtin renaming append_->fM
open _root_.Bool renaming and_eq_true->bd,not_eq_true->iF
open _root_.Nat renaming le_refl->bw,le_trans->bB,zero_le->dc,beq->bI,lt_of_lt_of_le->pe,mul_le_mul_right->lx,beq_eq->eJ
open _root_.Option.some renaming inj->ed,injEq->fA
open _root_.Array renaming replicate->gq
open _root_.BitVec renaming ofInt->jx
open Go.Region renaming wanted->cv,ready->ec
open _root_.Decidable renaming decide->ak
open Go.Ending renaming returned->ad
open List renaming mem_append->aP,mem_cons->aF,mem_of_getElem?->aD,getElem?_eq_getElem->aY,getElem?_eq_some_iff->cL,mem_append_right->da,mem_flatMap->ck,mem_map->dA,mem_of_mem_take->nh,mem_singleton->cy,flatMap_cons->dz,mem_iff_getElem?->iB,nodup_append->ff,all_eq_true->dS
def ab{c:Prop}{d:Decidable c}(x:¬c){α:Sort _}{t e:α}:ite c t e=e:=_root_.if_neg x
def ag{c:Prop}{d:Decidable c}(x:c){α:Sort _}{t e:α}:ite c t e=t:=_root_.if_pos x
def a2{p:Prop}[i:Decidable p](x:¬p):decide p=false:=_root_.decide_eq_false x
def a5{p:Prop}[i:Decidable p](x:p):decide p=true:=_root_.decide_eq_true x
def a7(p:Prop):(p∨False)=p:=_root_.or_false p
def e4{p:Prop}[i:Decidable p](x:decide p=true):p:=_root_.of_decide_eq_true x
def l4{p:Prop}[i:Decidable p](x:decide p=false):¬p:=_root_.of_decide_eq_false x
abbrev Env:=List (Nat×V)
def Env.get? :Env->Nat->Option V
 |[],_=>none
 |(e,v)::d,t=>bif bI e t then some v else Env.get? d t
def Env.val(E:Env):Operand->Option V
 |.tmp t=>E.get? t
 |.const v=>some v
 |.global g=>some (.pointer (some ⟨g,0,none⟩))
 |.func f=>some (.func (.func f) #[] #[])
def Env.ev(E:Env)(x:Operand):V:=(E.val x).getD undef
def Env.put(E:Env)(d:Option Nat)(v:V):Env:=
 match d with
 |some d=>(d,v)::E
 |none=>E
def Env.e7(E:Env)(o:Oper):Bool:=o.op.operands.toList.all λd=>(E.val d).isSome
structure Cx where
 n:Nat
 ds:List Deferred
 ro:Option Nat
instance:CoeHead Cx Nat:=⟨Cx.n⟩
abbrev cx(n:Nat):Cx:=⟨n,[],none⟩
abbrev FW(n:Cx):Fence:={Fence.wide with round:=n.ro}
structure Ag(n:Cx)(a:Act)(E:Env):Prop where
 defers:a.defers=n.ds
 size:a.tmps.size=n.n
 get:∀t v,E.get? t=some v->a.tmps[t]? =some v
def Ag.val{n:Cx}{a:Act}{E:Env}(e:Ag n a E){x:Operand}{v:V}(d:E.val x=some v):a.eval x=v:=by
 cases x with
 |tmp t=>have:=e.get t v d;simp[Act.eval,this]
 |const u=>simpa[Env.val,Act.eval]using d
 |global g=>simpa[Env.val,Act.eval]using d
 |func f=>simpa[Env.val,Act.eval]using d
def Ag.ev{n:Cx}{a:Act}{E:Env}(e:Ag n a E){x:Operand}(h:(E.val x).isSome=true):a.eval x=E.ev x:=by obtain⟨v,d⟩:=Option.isSome_iff_exists.1 h;rw[e.val d,Env.ev,d];rfl
def Ag.put{n:Cx}{a:Act}{E:Env}(e:Ag n a E){d:Option Nat}(v:V)(hd:∀t,d=some t->t<n.n):Ag n (a.put d v) (E.put d v):=by
 cases d with
 |none=>exact e
 |some t=>
  refine⟨e.defers,by simp[Act.put,e.size],?_⟩;intro s u h;have k:t<a.tmps.size:=by rw[e.size];grind
  simp only[Env.put,Env.get?]at h;by_cases j:t=s
  .subst j;simp at h;simp[Act.put,k,h]
  .have:bI t s=false:=by rw[<-iF,eJ];exact j
   simp only[this,cond_false]at h;simpa[Act.put,Array.getElem?_setIfInBounds_ne j]using e.get s u h
def Ag.nil{n:Cx}{a:Act}{E:Env}(d:Ag n a E):Ag n a []:=⟨d.defers,d.size,λ_ _ d=>by simp[Env.get?]at d⟩
def Ag.cons{n:Cx}{a:Act}{E F:Env}(e:Ag n a E){t:Nat}{v:V}(k:E.get? t=some v)(j:Ag n a F):Ag n a ((t,v)::F):=by
 refine⟨e.defers,e.size,?_⟩;intro s u d;simp only[Env.get?]at d;by_cases h:t=s
 .subst h;simp at d;subst d;exact e.get _ _ k
 .have:bI t s=false:=by rw[<-iF,eJ];exact h
  simp only[this,cond_false]at d;exact j.get s u d
def Ag.execOp{n:Cx}{a:Act}{E:Env}(e:Ag n a E){o:Oper}(j:∀d b,o.op≠.select d b)(h:E.e7 o=true):execOp a.eval o=execOp E.ev o:=
 execOp_congr o j λk q=>e.ev (by have:=dS.1 h k (by grind);omega)
structure Sl where
 a:Option Addr
 n:Nat
 c:Nat
abbrev Sl.v(s:Sl):V:=.slice s.a s.n s.c
abbrev aC:=cW->I->Prop
structure Fv where
 n:Nat
 bs:Array V
 cs:Array V
abbrev Fv.v(f:Fv):V:=.func (.func f.n) f.bs f.cs
def xp(z:V)(K:V->Prop):Prop:=
 match z with
 |.int d _=>∃n:Int,K (.int d n)
 |.bool _=>∃b:Bool,K (.bool b)
 |.string _=>∃s:ByteArray,K (.string s)
 |.slice _ _ _=>∃s:Sl,K s.v
 |.pointer _=>∃a:Option Addr,K (.pointer a)
 |.map _=>∃r:Option Nat,K (.map r)
 |_=>∃v:V,K v
def z6:List V->(List V->Prop)->Prop
 |[],d=>d []
 |h::j,d=>xp h λv=>z6 j λe=>d (v::e)
def z7(z:V)(K:V->Prop):Prop:=
 match z with
 |.agg d=>z6 d.toList λe=>K (.agg e.toArray)
 |z=>xp z K
def El:List V->(List V->Prop)->Prop
 |[],d=>d []
 |h::j,d=>z7 h λv=>El j λe=>d (v::e)
def oK(z:V)(K:V->Prop):Prop:=
 match z with
 |.tuple e=>El e.toList λd=>K (.tuple d.toArray)
 |z=>z7 z K
def Eh{z:V}{K:V->Prop}(d:xp z K):∃v,K v:=by
 unfold xp at d
 grind
def Ei:∀{h:List V} {K:List V->Prop},z6 h K->∃e,e.length=h.length/\K e
 |[],_,d=>⟨[],rfl,d⟩
 |_::_,_,d=>by
  obtain⟨v,d⟩:=Eh d;obtain⟨e,j,d⟩:=Ei d
  grind
def Lh{z:V}{K:V->Prop}(d:z7 z K):∃v,K v:=by
 unfold z7 at d;split at d
 .obtain ⟨e,_,d⟩:=Ei d;grind
 .exact Eh d
def Li:∀{h:List V} {K:List V->Prop},El h K->∃e,K e
 |[],_,d=>⟨[],d⟩
 |_::_,_,d=>by
  obtain⟨v,d⟩:=Lh d;obtain⟨e,d⟩:=Li d
  grind
def q0{z:V}{K:V->Prop}(d:oK z K):∃v,K v:=by
 unfold oK at d;split at d
 .obtain ⟨e,d⟩:=Li d;grind
 .exact Lh d
def cM(b:Bool)(p:Prop):Prop:=match b with |true=>p|false=>False
def dN{b:Bool}{p:Prop}(d:cM b p):b=true/\p:=by
 cases b
 .exact d.elim
 .exact ⟨rfl,d⟩
def bD(t:Bool)(A d:Prop):Prop:=match t with |true=>A|false=>d
def bn{t:Bool}{A d:Prop}(e:t=true->A)(h:t=false->d):bD t A d:=by
 cases t
 .exact h rfl
 .exact e rfl
def aR{t:Bool}{A d:Prop}(h:t=true)(e:A):bD t A d:=by subst h;exact e
def aQ{t:Bool}{A d:Prop}(h:t=false)(e:d):bD t A d:=by subst h;exact e
def dJ(q:Option Addr)(K:Addr->Prop):Prop:=match q with |some p=>K p|none=>False
def QI{q:Option Addr}{K:Addr->Prop}(d:dJ q K):∃p,q=some p/\K p:=by
 cases q with
 |none=>exact d.elim
 |some p=>exact⟨p,rfl,d⟩
def uj:List Prop->Prop->Prop
 |[],p=>p
 |d::l,p=>d/\uj l p
def uk:∀{l:List Prop} {p:Prop},uj l p->(∀h∈l,h)/\p
 |[],_,d=>⟨λ_ d=>(by cases d),d⟩
 |_::_,_,d=>⟨λh e=>by
   rcases aF.1 e with rfl|e
   .exact d.1
   .exact (uk d.2).1 h e,(uk d.2).2⟩
def tg{α:Type}(P:au):Sem α->Option α
 |.pure a=>some a
 |.program d=>tg P (d P)
 |_=>none
def Rw{α:Type}{P:au}:∀{s:Sem α} {a:α},tg P s=some a->∀e,s.run P e=.ok a e
 |.pure _,_,d,e=>by simp[tg]at d;subst d;rfl
 |.program h,_,d,e=>by simp only[tg]at d;exact Rw d e
 |.load ..,_,d,_|.store ..,_,d,_|.new ..,_,d,_|.shape ..,_,d,_|.freeze ..,_,d,_|.frozen ..,_,d,_|.getObj ..,_,d,_|.setObj ..,_,d,_
 |.choose ..,_,d,_|.sys ..,_,d,_|.mark ..,_,d,_|.halt ..,_,d,_=>by simp[tg]at d
def zeroOf(P:au)(t:aE):V:=((P.info? t).bind (·.zero)).getD undef
def calm(P:au)(o:Oper):Bool:=
 match o.op with
 |.convert s d _=>match P.underlying s,P.underlying d with
  |some (.slice _),some (.slice _)=>false
  |some .string,some (.slice _)=>false
  |_,_=>true
 |.move _|.assign _|.pick ..|.build ..|.load ..|.nilCheck _|.binOp ..|.unOp ..|.makeInterface ..|.makeFunc ..|.slice ..|.fieldAddr ..|.field ..|.indexAddr ..|.index ..
 |.lookup ..|.typeAssert ..|.extract ..=>true
 |.call {callee:=.builtin b,..}=>match b with |.len|.cap|.min|.max=>true|_=>false
 |_=>false
def oA(x:Option V)(y d:Nat)(K:Nat->Prop):Prop:=
 match x with
 |none=>K d
 |some (.int _ i)=>0<=i/\i<=(y:Int)/\K i.toNat
 |_=>False
def r0(P:au)(T:aE):Option Bool:=
 match P.underlying T with
 |some (.struct _)|some (.array _ _)=>some true
 |some _=>some false
 |none=>none
def zt(P:au)(T:aE):Bool:=
 match zeroOf P T with
 |.agg d=>r0 P T==some true&&(match P.info? T with |some i=>i.size==d.size|none=>false)
 |_=>r0 P T==some false
def oO(P:au)(T:aE)(p:Addr)(w:I)(K:V->List (I->Prop)->Prop):Prop:=
 cM (zt P T)<|match zeroOf P T with
 |.agg h=>z6 h.toList λe=>uj (e.zipIdx.map λ(v,i)=>w.cell? (p.add i)=some v) (K (.agg e.toArray) (e.zipIdx.map λ(v,i)=>λd=>d.cell? (p.add i)=some v))
 |.nilFunc=>∃f:Fv,w.cell? p=some f.v/\K f.v [λd=>d.cell? p=some f.v]
 |.nilIface=>(∃(t:aE) (x:V),w.cell? p=some (.iface t x)/\K (.iface t x) [λd=>d.cell? p=some (.iface t x)])\/(w.cell? p=some .nilIface/\K .nilIface [λd=>d.cell? p=some .nilIface])
 |j=>xp j λv=>w.cell? p=some v/\K v [λd=>d.cell? p=some v]
def hh(P:au)(o:Oper)(E:Env)(K:V->List (I->Prop)->Prop):Prop:=
 cM (E.e7 o) (match tg P (execOp E.ev o)with |some (.value v)=>K v []|_=>False)
def Em(z:V)(K:V->Prop):Prop:=
 match z with
 |.nilFunc=>∃f:Fv,K f.v
 |z=>oK z K
def Yv{z:V}{K:V->Prop}(d:Em z K):∃v,K v:=by
 unfold Em at d;split at d
 .grind
 .exact q0 d
def rr(P:au)(s:Sem V)(z:V)(w:I)(K:V->List (I->Prop)->Prop):Prop:=
 Em z λv=>s.run P w=.ok v w/\K v [λd=>s.run P d=.ok v d]
def zV(P:au)(T:aE):Option Nat:=
 match P.underlying T with
 |some (.slice d)=>(P.info? d).map (·.size)
 |_=>none
def CZ(P:au)(T:aE):Option (Nat×Nat):=
 match P.underlying T with
 |some (.array n d)=>(P.info? d).map λi=>(n,i.size)
 |_=>none
def VY{P:au}{T:aE}{n sz:Nat}(e:CZ P T=some (n,sz)):∃d inf,P.underlying T=some (.array n d)/\P.info? d=some inf/\sz=inf.size:=by
 unfold CZ at e;split at e
 .rename_i m d k;obtain⟨inf,j,h⟩:=Option.map_eq_some_iff.1 e
  grind
 grind
def isConst:Operand->Bool
 |.const _=>true
 |_=>false
def qi(P:au)(T:aE)(c:V):Bool:=
 match P.underlying T,c with
 |some (.slice _),.slice none _ _=>true
 |some (.pointer _),.pointer none=>true
 |some (.map _ _),.map none=>true
 |_,_=>false
def oS:Option V->V->Option Bool
 |some (.slice a _ _),.slice none _ _=>some a.isNone
 |some (.pointer a),.pointer none=>some a.isNone
 |some (.map r),.map none=>some r.isNone
 |_,_=>none
def sH(P:au)(xs d:Array V):List Field->Option Bool
 |[]=>some true
 |f::e=>bif f.name=="_" then none else match P.underlying f.type,xs[f.offset]?,d[f.offset]?,sH P xs d e with
  |some (.int _),some (.int h a),some (.int j b),some r=>bif ak (h=j)then some ((a==b)&&r)else none
  |some .string,some (.string a),some (.string b),some r=>some ((a.toList==b.toList)&&r)
  |some .bool,some (.bool a),some (.bool b),some r=>some ((a==b)&&r)
  |_,_,_,_=>none
def uQ(P:au)(xs d:Array V):List Field->Option Bool
 |[]=>some true
 |f::h=>match P.underlying f.type with
  |some (.struct j)=>bif f.name=="_"||P.stoodInHeld f.type then none else match P.info? f.type,uQ P xs d h with
   |some i,some r=>match sH P (xs.extract f.offset (f.offset+i.size)) (d.extract f.offset (f.offset+i.size)) j.toList with
    |some e=>some (e&&r)
    |none=>none
   |_,_=>none
  |_=>match sH P xs d [f],uQ P xs d h with
   |some e,some r=>some (e&&r)
   |_,_=>none
def CU(P:au)(T:aE)(xs e:Array V):Option Bool:=match P.underlying T with
 |some (.struct d)=>bif (!P.stoodInHeld T&&!P.eqGuardType P.depth T)then(match sH P xs e d.toList with
  |some b=>some b
  |none=>uQ P xs e d.toList)else none
 |_=>none
def uS(P:au)(o:Oper)(E:Env)(T:aE)(x y:Operand)(neg:Bool)(K:V->List (I->Prop)->Prop):Prop:=match E.val x,E.val y with
 |some (.agg d),some (.agg e)=>match CU P T d e with
  |some b=>K (.bool (bif neg then !b else b)) []
  |none=>False
 |_,_=>hh P o E K
def Gr(P:au)(e:aE):Bool:=match P.underlying e,P.info? e with
 |some .string,some i=>i.size==1
 |_,_=>false
def QC(P:au)(e:aE):Bool:=match P.underlying e,P.info? e with
 |some (.int _),some i=>i.size==1
 |_,_=>false
def zN(P:au)(o:Oper)(E:Env)(w:I)(K:V->List (I->Prop)->Prop):Prop:=
 match o.op with
 |.load e d=>match E.val d with
  |some (.pointer (some p))=>oO P e p w K
  |_=>False
 |.nilCheck d=>match E.val d with
  |some (.pointer D)=>dJ D λp=>K (.pointer (some p)) []
  |_=>hh P o E K
 |.indexAddr e d x=>match E.val d,E.val x with
  |some (.slice a n _),some (.int _ i)=>match zV P e with
   |some z=>0<=i/\i<(n:Int)/\dJ a λp=>K (.pointer (some (p.add (i.toNat *z)))) []
   |none=>False
  |some (.pointer (some p)),some (.int _ i)=>match CZ P e with
   |some (n,z)=>0<=i/\i<(n:Int)/\K (.pointer (some (p.add (i.toNat *z)))) []
   |none=>False
  |_,_=>hh P o E K
 |.index e d x=>match P.underlying e,E.val d,E.val x with
  |some .string,some (.string s),some (.int _ i)=>0<=i/\∃b:UInt8,s[i.toNat]? =some b/\K (.int .u8 b.toNat) []
  |some (.array n B),some (.agg F),some (.int _ i)=>bif Gr P B then 0<=i/\i<(n:Int)/\∃a:ByteArray,F[i.toNat]? =some (.string a)/\K (.string a) []else cM (QC P B) (0<=i/\i<(n:Int)/\∃a:Int,F[i.toNat]? =some (.int .i64 a)/\K (.int .i64 a) [])
  |_,_,_=>hh P o E K
 |.slice e d lo q y=>cM (E.e7 o) (match P.underlying e,E.val d with
  |some (.slice _),some (.slice a n c)=>match zV P e with
   |some z=>oA (y.map E.ev) c c λm=>oA (q.map E.ev) m n λk=>cM (y.isNone||q.isSome) (oA (lo.map E.ev) k 0 λl=>
     K (.slice (if m=l then a else a.map (·.add (l *z))) (k - l) (m - l)) [])
   |none=>False
  |some .string,some (.string s)=>cM y.isNone (oA (q.map E.ev) s.size s.size λk=>oA (lo.map E.ev) k 0 λl=>K (.string (s.extract l k)) [])
  |some (.array n B),some (.pointer (some p))=>match P.info? B with
   |some inf=>oA (y.map E.ev) n n λm=>oA (q.map E.ev) m n λk=>cM (y.isNone||q.isSome) (oA (lo.map E.ev) k 0 λl=>
     K (.slice (some (if m=l then p else p.add (l *inf.size))) (k - l) (m - l)) [])
   |none=>False
  |_,_=>False)
 |.binOp .quo _ d h _=>bif isConst h then hh P o E K else match E.val d,E.val h with
  |some (.int j a),some (.int C b)=>cM (j==C) (b≠0/\K (.int j (j.wrap (a.tdiv b))) [])
  |_,_=>False
 |.binOp .rem _ d h _=>bif isConst h then hh P o E K else match E.val d,E.val h with
  |some (.int j a),some (.int C b)=>cM (j==C) (b≠0/\K (.int j (a.tmod b)) [])
  |_,_=>False
 |.binOp .eql e d (.const c) _=>bif qi P e c then(match oS (E.val d) c with
  |some b=>K (.bool b) []
  |none=>False)else uS P o E e d (.const c) false K
 |.binOp .neq e d (.const c) _=>bif qi P e c then(match oS (E.val d) c with
  |some b=>K (.bool !b) []
  |none=>False)else uS P o E e d (.const c) true K
 |.binOp .eql e d h _=>uS P o E e d h false K
 |.binOp .neq e d h _=>match P.underlying e,E.val d,E.val h with
  |some (.pointer _),some (.pointer p),some (.pointer D)=>rr P (binOp .neq e (.pointer p) (.pointer D)) (.bool true) w K
  |_,_,_=>uS P o E e d h true K
 |.binOp .add _ d h _=>match E.val d,E.val h with
  |some (.string s),some (.string t)=>¬(((s.size+t.size:Nat):Int)>IntKind.i64.max)/\K (.string (s++t)) []
  |_,_=>hh P o E K
 |.binOp .shl _ d h _=>bif isConst h then hh P o E K else match E.val d,E.val h with
  |some (.int j a),some (.int _ b)=>¬b<0/\K (.int j (j.wrap (a *2^(min b.toNat j.bits)))) []
  |_,_=>False
 |.binOp .shr _ d h _=>bif isConst h then hh P o E K else match E.val d,E.val h with
  |some (.int j a),some (.int _ b)=>¬b<0/\K (.int j (a.fdiv (2^(min b.toNat j.bits)))) []
  |_,_=>False
 |.lookup e d x ok=>match E.val d,E.val x with
  |some m,some j=>rr P (Instr.lookup e m j ok) (zeroOf P o.type) w K
  |_,_=>False
 |.convert s A d=>match P.underlying s,P.underlying A,E.val d with
  |some (.slice _),some .string,some v=>rr P (convert s A v) (.string (a' #[])) w K
  |some (.pointer _),some .unsafePointer,some v=>rr P (convert s A v) (.pointer none) w K
  |some .unsafePointer,some (.pointer _),some v=>rr P (convert s A v) (.pointer none) w K
  |_,_,_=>hh P o E K
 |.call {callee:=.builtin .len,args,argTypes}=>match args.toList,argTypes.toList with
  |[d],[e]=>match P.underlying e,E.val d with
   |some (.map _ _),some m=>rr P (Builtin.len_ #[e] o.type #[m]) (.int .i64 0) w K
   |_,_=>hh P o E K
  |_,_=>hh P o E K
 |_=>hh P o E K
def Af(op:BinOp)(T:aE)(x y:Operand)(a b:V):Sem V:=do eqGuard op T x y a b;binOp op T a b
def EJ(P:au)(o:Oper):Bool:=match o.op with
 |.binOp .eql d _ _ _|.binOp .neq d _ _ _=>match P.underlying d with
  |some (.interface _)=>true
  |_=>false
 |_=>false
def LW(P:au)(o:Oper)(E:Env)(w:I)(K:V->List (I->Prop)->Prop):Prop:=match o.op with
 |.binOp op h d e _=>match E.val d,E.val e with
  |some a,some b=>rr P (Af op h d e a b) (.bool true) w K
  |_,_=>False
 |_=>False
def oB(P:au)(o:Oper)(E:Env)(w:I)(K:V->List (I->Prop)->Prop):Prop:=bif EJ P o then LW P o E w K else zN P o E w K
def tB(p:Addr):List V->Nat->I->(I->Prop)->Prop
 |[],_,d,e=>e d
 |v::h,i,d,e=>(d.cell? (p.add i)).isSome=true/\d.frozen? (p.add i)=false/\tB p h (i+1) (d.setCell (p.add i) v) e
def uT(P:au)(o:Oper)(E:Env)(w:I)(K:V->I->Prop):Prop:=
 cM (E.e7 o) (match(execOp E.ev o).run P w with
  |.ok (.value v) d=>K v d
  |.ok .skip d=>K undef d
  |_=>False)
def su(P:au)(s:Sem V)(z:V)(w:I)(K:V->I->Prop):Prop:=
 oK z λv=>∃d,s.run P w=.ok v d/\K v d
def Kr(P:au)(s:Sem Unit)(w:I)(K:V->I->Prop):Prop:=
 ∃d,s.run P w=.ok () d/\K undef d
def hy(P:au)(f:b3):Bool:=match P.funcs[f]? with |some fn=>fn.body.isSome&&!(fn.name=="runtime.NumGoroutine")|none=>false
def z8(P:au)(f:b3)(args:Array V)(z:V)(w:I)(K:V->I->Prop):Prop:=
 oK z λv=>∃d,(callFunc f args).run P w=.ok (.value v) d/\K v d
def sa(P:au)(f:b3)(args:Array V)(z:V)(w:I)(K:V->I->Prop):Prop:=
 ai P f args w λd e=>oK z λv=>d=ad v/\K v e
def vx:V->Bool
 |.agg _=>false
 |.tuple _=>false
 |_=>true
def h0(P:au)(o:Oper)(E:Env)(w:I)(K:V->I->Prop):Prop:=
 match o.op with
 |.store d x y=>match E.val x,E.val y with
  |some (.pointer (some p)),some v=>cM (v.cells.size==(match P.info? d with |some i=>i.size|none=>0)&&v.cells.toList.all vx&&(P.info? d).isSome) (tB p v.cells.toList 0 w λw'=>K undef w')
  |_,_=>False
 |.mapUpdate d m e v|.insert d m e v=>match E.val m,E.val e,E.val v with
  |some m,some e,some v=>Kr P (Instr.mapUpdate d m e v) w K
  |_,_,_=>False
 |.call {callee:=.builtin b,args,argTypes}=>cM (E.e7 o) (match b with
  |.append=>su P (fM argTypes o.type (args.map E.ev)) (.slice none 0 0) w K
  |.copy=>su P (Builtin.copy_ argTypes o.type (args.map E.ev)) (.int .i64 0) w K
  |.unsafeSliceData=>su P (Builtin.unsafeSliceData_ argTypes o.type (args.map E.ev)) (.pointer none) w K
  |.unsafeString=>su P (Builtin.unsafeString_ argTypes o.type (args.map E.ev)) (.string (a' #[])) w K
  |.delete=>∃w',(Builtin.delete_ argTypes o.type (args.map E.ev)).run P w=.ok undef w'/\K undef w'
  |.clear=>∃w',(Builtin.clear_ argTypes o.type (args.map E.ev)).run P w=.ok (.tuple #[]) w'/\K (.tuple #[]) w'
  |_=>False)
 |.call {callee:=.value (.func f),args,..}=>cM (E.e7 o) (bif hy P f then sa P f (args.map E.ev) (zeroOf P o.type) w K else z8 P f (args.map E.ev) (zeroOf P o.type) w K)
 |.call {callee:=.value (.tmp t),args,..}=>cM (E.e7 o) (match E.get? t with
  |some (.func (.func f) first captured)=>cM (hy P f) (sa P f (first++args.map E.ev++captured) (zeroOf P o.type) w K)
  |_=>False)
 |.makeSlice d l c=>match E.val l,E.val c with
  |some l,some c=>su P (Instr.makeSlice d l c) (.slice none 0 0) w K
  |_,_=>False
 |.range d x=>match E.val x with
  |some x=>∃v w',(Instr.range d x).run P w=.ok v w'/\K v w'
  |_=>False
 |.next it s=>match E.val it with
  |some it=>(∃w',(Instr.next it s o.type).run P w=.ok (.tuple #[.bool false]) w'/\K (.tuple #[.bool false]) w')\/
    (match s with
     |true=>∃(i c:Int) (w':I),(Instr.next it s o.type).run P w=.ok (.tuple #[.bool true,.int .i64 i,.int .i32 c]) w'/\K (.tuple #[.bool true,.int .i64 i,.int .i32 c]) w'
     |false=>∃(x y:V) (w':I),(Instr.next it s o.type).run P w=.ok (.tuple #[.bool true,x,y]) w'/\K (.tuple #[.bool true,x,y]) w')
  |_=>False
 |.entry it=>match E.val it with
  |some it=>∃(x y:V) (w':I),(Instr.entry it).run P w=.ok (.tuple #[x,y]) w'/\K (.tuple #[x,y]) w'
  |_=>False
 |.convert s h x=>match E.val x with
  |some v=>su P (convert s h v) (.slice none 0 0) w K
  |_=>False
 |_=>uT P o E w K
def afk(P:au)(l:Nat)(args:Array V)(w:I)(K:V->I->Prop):Prop:=
 YieldAt Fence.wide 0 P l args w λd e=>∃b:Bool,d=ad (.bool b)/\K (.bool b) e
def uJ(P:au)(o:Oper)(E:Env)(w:I)(K:V->I->Prop):Prop:=
 match o.op with
 |.call {callee:=.value (.tmp t),args,..}=>match E.get? t with
  |some (.func (.yield l) e d)=>cM (E.e7 o&&(bI e.size 0&&bI d.size 0)) (afk P l (args.map E.ev) w K)
  |_=>h0 P o E w K
 |_=>h0 P o E w K
abbrev aN(w:I)(p:Addr)(v:V)(K:I->Prop):Prop:=(w.cell? p).isSome=true/\w.frozen? p=false/\K (w.setCell p v)
abbrev de(w:I)(o:Obj)(K:I->Prop):Prop:=K (w.alloc o)
abbrev hG(w:I)(l:Nat)(a b:Obj)(K:I->Prop):Prop:=w.heap[l]? =some a/\K (w.putObj l b)
abbrev uI(w:I)(K:I->Prop):Prop:=K w.drew
def Md{P:au}{T:aE}{b:Bool}(d:r0 P T=some b)(w:I):(isAgg T).run P w=.ok b w:=by
 unfold r0 at d;unfold isAgg;cases e:P.underlying T with
 |none=>grind
 |some h=>rw[e]at d;cases h<;>simp[run_underlying e]at d ⊢<;>first |exact d|simp[<-d]
def yA{P:au}{T:aE}{p:Addr}{v:V}{w:I}(d:r0 P T=some false)(e:w.cell? p=some v):(loadVar T p).run P w=.ok v w:=by simp[loadVar,Md d,e]
def SO{P:au}{T:aE}{p:Addr}{vs:List V}{i:TypeInfo}{w:I}(e:r0 P T=some true)(hi:P.info? T=some i)(j:i.size=vs.length)(h:∀d v,vs[d]? =some v->w.cell? (p.add d)=some v):(loadVar T p).run P w=.ok (.agg vs.toArray) w:=by have:=run_loadCells_list (P:=P) w p vs h;simp[loadVar,Md e,sizeOf,typeInfo,hi,j,this]
def Calm(P:au)(o:Oper)(ρ:Operand->V)(w:I)(v:V)(h:List (I->Prop)):Prop:=
 (∀d∈h,d w)/\∀e,(∀d∈h,d e)->(execOp ρ o).run P e=.ok (.value v) e
def Ry{P:au}{o:Oper}{E:Env}{w:I}{n:Cx}{a:Act}{K:V->List (I->Prop)->Prop}(x:∀h b,o.op≠.select h b)(k:Ag n a E)(d:hh P o E K):∃v e,K v e/\Calm P o a.eval w v e:=by
 obtain⟨q,d⟩:=dN d;split at d
 .rename_i v y;refine⟨v,[],d,λe j=>(by cases j),λz _=>?_⟩;rw[k.execOp x q];exact Rw y z
 grind
def th{P:au}{s:Sem V}{z:V}{w:I}{K:V->List (I->Prop)->Prop}{o:Oper}{ρ:Operand->V}(k:execOp ρ o=(do pure (.value (<-s))))(h:rr P s z w K):∃v d,K v d/\Calm P o ρ w v d:=by
 obtain⟨v,A,j⟩:=Yv h;refine⟨v,_,j,λd y=>?_,λe x=>?_⟩
 .grind
 .have q:s.run P e=.ok v e:=x _ (cy.2 rfl);rw[k];simp[q]
def qS{P:au}{x:Option V}{y d:Nat}{K:Nat->Prop}(e:oA x y d K):∃l,K l/\((x=none/\l=d)\/∃v,x=some v/\∀code h,(Instr.sliceBound v y code).run P h=.ok l h):=by
 unfold oA at e;split at e
 .grind
 .rename_i w i;obtain⟨j,k,q⟩:=e;refine⟨_,q,.inr ⟨_,rfl,λcode h=>?_⟩⟩;simp[Instr.sliceBound,asIntOf,j,k]
 grind
def Hw{P:au}{k:Bool}{n c m d l:Nat}{L H M:Option V}{w:I}(j:(M=none/\m=c)\/∃v,M=some v/\∀code w,(Instr.sliceBound v c code).run P w=.ok m w)(e:(H=none/\d=n)\/∃v,H=some v/\∀code w,(Instr.sliceBound v m code).run P w=.ok d w)(h:(L=none/\l=0)\/∃v,L=some v/\∀code w,(Instr.sliceBound v d code).run P w=.ok l w)(q:M≠none->H=none->False):(Instr.sliceBounds k n c L H M).run P w=.ok (l,d,m) w:=by unfold Instr.sliceBounds;rcases j with⟨rfl,rfl⟩|⟨A,rfl,x⟩<;>rcases e with⟨rfl,rfl⟩|⟨B,rfl,y⟩<;>rcases h with⟨rfl,rfl⟩|⟨C,rfl,z⟩<;>first |(simp[*];done)|grind
def E7{P:au}{T:aE}{p:Addr}{w:I}{K:V->List (I->Prop)->Prop}(e:oO P T p w K):
  ∃v z,K v z/\(∀s∈z,s w)/\∀k,(∀s∈z,s k)->(loadVar T p).run P k=.ok v k:=by
 obtain⟨d,e⟩:=dN e;unfold zt at d;cases y:zeroOf P T with
 |agg G=>
  rw[y]at e d;simp only at e d;obtain⟨J,H,e⟩:=Ei e;obtain⟨x,h⟩:=uk e;rw[bd]at d;obtain⟨B,C⟩:=d;cases D:P.info? T with
  |none=>grind
  |some i=>
   rw[D]at C;simp at C B;refine⟨_,_,h,?_,λk j=>?_⟩
   .intro s q;obtain⟨⟨v,A⟩,F,rfl⟩:=dA.1 q;exact x _ (dA.2 ⟨(v,A),F,rfl⟩)
   .refine SO B D (by grind) (λA v E=>?_);have:=j _ (dA.2 ⟨(v,A),List.mem_zipIdx_iff_getElem?.2 E,rfl⟩);omega
 |nilIface=>
  rw[y]at e d;simp at d;rcases e with⟨t,L,x,h⟩|⟨x,h⟩
  .refine ⟨_,_,h,λs q=>?_,λk j=>?_⟩
   .grind
   .exact yA d (j _ (cy.2 rfl))
  .refine ⟨_,_,h,λs q=>?_,λk j=>?_⟩
   .grind
   .exact yA d (j _ (cy.2 rfl))
 |nilFunc=>
  rw[y]at e d;obtain⟨f,x,h⟩:=e;simp at d;refine⟨f.v,_,h,λs q=>?_,λk j=>?_⟩
  .grind
  .exact yA d (j _ (cy.2 rfl))
 |_=>
  rw[y]at e d;try simp only at e
  try simp only at d
  obtain⟨v,x,h⟩:=Eh e;simp at d;refine⟨v,_,h,λs q=>?_,λk j=>?_⟩
  .simp at q;subst q;exact x
  .exact yA d (j _ (cy.2 rfl))
def Ky{P:au}{T:aE}{sz:Nat}(e:zV P T=some sz):∃d i,P.underlying T=some (.slice d)/\P.info? d=some i/\i.size=sz:=by
 unfold zV at e;split at e
 .rename_i d h;cases j:P.info? d with
  |none=>grind
  |some i=>grind
 grind
def AZ{v c:V}{b:Bool}(d:oS (some v) c=some b):(∃a n m h e,v=.slice a n m/\c=.slice none h e/\b=a.isNone)\/(∃a,v=.pointer a/\c=.pointer none/\b=a.isNone)\/(∃r,v=.map r/\c=.map none/\b=r.isNone):=by
 unfold oS at d
 grind
def Qj{P:au}{T:aE}{c v:V}{b:Bool}(d:qi P T c=true)(j:oS (some v) c=some b)(w:I):(Op.equal T v c).run P w=.ok b w:=by
 unfold Op.equal Op.maxDepth Op.equalIn;cases e:P.underlying T with
 |none=>simp[qi,e]at d
 |some h=>
  simp only[Sem.run_bind,run_underlying e,Result.andThen_ok];unfold qi at d;rw[e]at d;rcases AZ j with⟨a,n,m,q,k,rfl,rfl,rfl⟩|⟨a,rfl,rfl,rfl⟩|⟨a,rfl,rfl,rfl⟩<;>cases h<;>first |(cases d;done)|(cases a<;>rfl)
def aa'{P:au}{T:aE}{c v:V}{b:Bool}(e:qi P T c=true)(d:oS (some v) c=some b)(w:I):(binOp .eql T v c).run P w=.ok (.bool b) w:=by have:=Qj e d w;rcases AZ d with⟨a,n,m,j,h,rfl,rfl,rfl⟩|⟨a,rfl,rfl,rfl⟩|⟨a,rfl,rfl,rfl⟩<;>simp[binOp,this]
def aba{P:au}{T:aE}{c v:V}{b:Bool}(e:qi P T c=true)(d:oS (some v) c=some b)(w:I):(binOp .neq T v c).run P w=.ok (.bool !b) w:=by have:=Qj e d w;rcases AZ d with⟨a,n,m,j,h,rfl,rfl,rfl⟩|⟨a,rfl,rfl,rfl⟩|⟨a,rfl,rfl,rfl⟩<;>simp[binOp,this]
def Qk{P:au}{op:BinOp}{T:aE}{c v:V}{b:Bool}{p q:Operand}(d:oS (some v) c=some b)(w:I):(eqGuard op T p q v c).run P w=.ok () w:=by rcases AZ d with⟨a,n,m,h,e,rfl,rfl,rfl⟩|⟨a,rfl,rfl,rfl⟩|⟨a,rfl,rfl,rfl⟩<;>cases op<;>rfl
set_option maxHeartbeats 1000000 in
def vU{P:au}{t:aE}{u:TypeDesc}(d:P.underlying t=some u)(e:(match u with |.struct _|.array _ _=>true|_=>false)=false){xs:Array V}{off:Nat}{v:V}(h:xs[off]? =some v)(w:I):(part t xs off).run P w=.ok v w:=by unfold part isAgg;cases u<;>first |(simp at e;done)|simp[run_underlying d,h]
def uR{P:au}{xs D:Array V}(d:Nat)(w:I):∀(k:List Field) (b:Bool),sH P xs D k=some b->(Op.eqFields (d+1) xs D k).run P w=.ok b w
 |[],b,e=>by simp[sH]at e;subst e;rfl
 |f::k,b,e=>by
  unfold sH at e;cases F:(f.name=="_")with
  |true=>grind
  |false=>
   rw[F]at e;simp only[cond_false]at e;have G:f.name≠"_":=by grind
   unfold Op.eqFields;rw[ag G];split at e
   .rename_i J C a H j r h x y q;cases B:ak (C=H)with
    |false=>grind
    |true=>
     rw[B]at e;have E:=e4 B;subst E;simp only[cond_true,fA]at e;subst e;have z:=uR d w k r q;simp only[Sem.run_bind,vU h rfl x w,vU h rfl y w,Result.andThen_ok,run_equalIn_int w d f.type C J a j h];cases A:(a==j)<;>simp[z]
   .rename_i a j r h x y q;simp only[fA]at e;subst e;have z:=uR d w k r q;simp only[Sem.run_bind,vU h rfl x w,vU h rfl y w,Result.andThen_ok,run_equalIn_string w d f.type a j h];cases A:(a.toList==j.toList)<;>simp[z]
   .rename_i a j r h x y q;simp only[fA]at e;subst e;have z:=uR d w k r q;simp only[Sem.run_bind,vU h rfl x w,vU h rfl y w,Result.andThen_ok,run_equalIn_bool w d f.type a j h];cases A:(a==j)<;>simp[z]
   grind
def ac5{P:au}{t:aE}{d:Array Field}{i:TypeInfo}(e:P.underlying t=some (.struct d))(hi:P.info? t=some i)(xs:Array V)(off:Nat)(w:I):(part t xs off).run P w=.ok (.agg (xs.extract off (off+i.size))) w:=by unfold part isAgg;simp[run_underlying e,sizeOf,typeInfo,hi]
def Lb{P:au}{xs h:Array V}{d:Nat}{w:I}{f:Field}{k:List Field}{q r:Bool}(e:(Op.eqFields d xs h [f]).run P w=.ok q w)(x:(Op.eqFields d xs h k).run P w=.ok r w):(Op.eqFields d xs h (f::k)).run P w=.ok (q&&r) w:=by
 unfold Op.eqFields at e ⊢;by_cases y:f.name≠"_"
 .rw [ag y]at e ⊢;simp only[Sem.run_bind]at e ⊢;generalize(part f.type xs f.offset).run P w=C at e ⊢;cases C with
  |halt B z=>cases e
  |ok a z=>
   simp only[Result.andThen_ok]at e ⊢;generalize(part f.type h f.offset).run P z=D at e ⊢;cases D with
   |halt B A=>cases e
   |ok b A=>
    simp only[Result.andThen_ok]at e ⊢;generalize(Op.equalIn d f.type a b).run P A=E at e ⊢;cases E with
    |halt B j=>cases e
    |ok c j=>
     simp only[Result.andThen_ok]at e ⊢;cases c with
     |false=>
      have e:(Result.ok false j:Result Bool)=.ok q w:=e;cases e;rfl
     |true=>
      have e:(Result.ok true j:Result Bool)=.ok q w:=e;cases e;exact x
 .rw [ab y]at e ⊢;have e:(Result.ok true w:Result Bool)=.ok q w:=e;cases e;exact x
def Ee{P:au}{xs B:Array V}(d:Nat)(w:I):∀(h:List Field) (b:Bool),uQ P xs B h=some b->(Op.eqFields (d+2) xs B h).run P w=.ok b w
 |[],b,e=>by simp[uQ]at e;subst e;rfl
 |f::h,b,e=>by
  unfold uQ at e;split at e
  .rename_i z y;cases j:(f.name=="_"||P.stoodInHeld f.type)with
   |true=>rw[j]at e;cases e
   |false=>
    rw[j]at e;simp only[cond_false]at e;rw[Bool.or_eq_false_iff]at j;have D:f.name≠"_":=by simpa using j.1
    split at e
    .rename_i i r C x;split at e
     .rename_i k q;cases e;refine Lb ?_ (Ee d w h r x);have A:P.fieldsOf f.type=z:=by unfold Program.fieldsOf;rw[y]
      unfold Op.eqFields;rw[ag D];simp only[Sem.run_bind,ac5 y C,Result.andThen_ok];rw[show d+2=(d+1)+1 from rfl,run_equalIn_struct w (d+1) f.type _ _ (by rw[A];exact y) j.2,A,uR d w z.toList k q];cases k<;>rfl
     .cases e
    .cases e
  .split at e
   .rename_i k r q x;cases e;exact Lb (uR (d+1) w [f] k q) (Ee d w h r x)
   .cases e
def VS{P:au}{T:aE}{xs h:Array V}{b:Bool}(d:CU P T xs h=some b)(w:I):P.eqGuardType P.depth T=false/\(Op.equalIn 10000 T (.agg xs) (.agg h)).run P w=.ok b w:=by
 unfold CU at d;split at d
 .rename_i q k;cases e:(!P.stoodInHeld T&&!P.eqGuardType P.depth T)with
  |false=>rw[e]at d;cases d
  |true=>
   rw[e]at d;simp only[cond_true]at d;rw[bd]at e;have x:P.stoodInHeld T=false:=by simpa using e.1
   have y:P.eqGuardType P.depth T=false:=by simpa using e.2
   have j:P.fieldsOf T=q:=by unfold Program.fieldsOf;rw[k]
   refine⟨y,?_⟩;rw[run_equalIn_struct w 9999 T xs h (by rw[j];exact k) x,j];split at d
   .rename_i A z;cases d;exact uR 9998 w _ _ z
   .exact Ee 9997 w _ _ d
 .cases d
def z5{P:au}{o:Oper}{E:Env}{w:I}{n:Cx}{a:Act}{K:V->List (I->Prop)->Prop}{op:BinOp}{T B:aE}{x y:Operand}{neg:Bool}(L:∀C b,o.op≠.select C b)(k:Ag n a E)(J:o.op=.binOp op T x y B)(G:(op=.eql/\neg=false)\/(op=.neq/\neg=true))(d:uS P o E T x y neg K):∃v j,K v j/\Calm P o a.eval w v j:=by
 unfold uS at d;split at d
 .rename_i e h M N;split at d
  .rename_i b H;refine⟨_,_,d,λj F=>(by cases F),λq _=>?_⟩;obtain⟨z,A⟩:=VS H q;have D:execOp a.eval o=(do pure (.value (<-(do eqGuard op T x y (.agg e) (.agg h);binOp op T (.agg e) (.agg h))))):=by simp only[execOp,J,k.val M,k.val N]
   rw[D];rcases G with⟨rfl,rfl⟩|⟨rfl,rfl⟩
   .simp only[Sem.run_bind,run_eqGuard_agg q _ T x y e h z,Result.andThen_ok,run_eql_struct,A];rfl
   .simp only[Sem.run_bind,run_eqGuard_agg q _ T x y e h z,Result.andThen_ok,run_neq_struct,A];rfl
  grind
 .exact Ry L k d
def XA{P:au}{o:Oper}{E:Env}{w:I}{n:Cx}{a:Act}{K:V->List (I->Prop)->Prop}(hs:∀cs b,o.op≠.select cs b)(j:Ag n a E)(d:zN P o E w K):∃v y,K v y/\Calm P o a.eval w v y:=by
 have pure':hh P o E K->∃v y,K v y/\Calm P o a.eval w v y:=Ry hs j;unfold zN at d;split at d
 .
  rename_i z A h;split at d
  .rename_i p e;obtain⟨v,y,q,G,h2⟩:=E7 d;refine⟨v,y,q,G,λx az=>?_⟩;simp[execOp,h,Instr.loadAt,j.val e,Instr.sureAddr,h2 x az]
  grind
 .
  rename_i A h;split at d
  .rename_i aA e;obtain⟨p,rfl,q⟩:=QI d;refine⟨_,_,q,λy k=>(by cases k),λx _=>?_⟩;simp[execOp,h,j.val e]
  grind
 .
  rename_i z A ix h;split at d
  .rename_i b n c N i e C;split at d
   .rename_i sz ac;obtain⟨J,G,d⟩:=d;obtain⟨p,rfl,q⟩:=QI d;obtain⟨Q,inf,F,L,rfl⟩:=Ky ac;refine⟨_,_,q,λy k=>(by cases k),λx _=>?_⟩;simp[execOp,h,j.val e,j.val C,Instr.indexAt,asIntOf,run_underlying F,J,G,sizeOf,typeInfo,L]
   grind
  .rename_i p N i e C;split at d
   .rename_i n sz ac;obtain⟨J,G,q⟩:=d;obtain⟨Q,inf,F,L,rfl⟩:=VY ac;refine⟨_,_,q,λy k=>(by cases k),λx _=>?_⟩;simp[execOp,h,j.val e,j.val C,Instr.indexAt,Instr.sureAddr,asIntOf,run_underlying F,J,G,sizeOf,typeInfo,L]
   grind
  grind
 .
  rename_i z A ix h;split at d
  .rename_i s N i F e C;obtain⟨J,b,D,q⟩:=d;refine⟨_,_,q,λy k=>(by cases k),λx _=>?_⟩;simp[execOp,h,j.val e,j.val C,Instr.index,asIntOf,run_underlying F,J,D]
  .rename_i n Q cs N i F e C;cases hz:Gr P Q with
   |true=>
    rw[hz]at d;obtain⟨J,M,b,D,q⟩:=d;unfold Gr at hz;split at hz
    .rename_i inf aj L;have G:inf.size=1:=by grind
     refine⟨_,_,q,λy k=>(by cases k),λx _=>?_⟩;simp[execOp,h,j.val e,j.val C,Instr.index,asIntOf,run_underlying F,J,M,sizeOf,typeInfo,L,G,part,isAgg,run_underlying aj,D]
    grind
   |false=>
   rw[hz]at d;obtain⟨G,J,M,b,D,q⟩:=dN d;unfold QC at G;split at G
   .rename_i B inf aj L;have G:inf.size=1:=by grind
    refine⟨_,_,q,λy k=>(by cases k),λx _=>?_⟩;simp[execOp,h,j.val e,j.val C,Instr.index,asIntOf,run_underlying F,J,M,sizeOf,typeInfo,L,G,part,isAgg,run_underlying aj,D]
   grind
  grind
 .
  rename_i z A lo C S h;obtain⟨ar,d⟩:=dN d;have ae:∀B∈o.op.operands,(E.val B).isSome=true:=λB H=>dS.1 ar B (by grind);have ah:lo.map a.eval=lo.map E.ev:=by
   cases lo with
   |none=>rfl
   |some B=>simp only[Option.map_some];rw[j.ev (ae B (by rw[h];simp[Op.operands]))]
  have af:C.map a.eval=C.map E.ev:=by
   cases C with
   |none=>rfl
   |some B=>simp only[Option.map_some];rw[j.ev (ae B (by rw[h];simp[Op.operands]))]
  have ao:S.map a.eval=S.map E.ev:=by
   cases S with
   |none=>rfl
   |some B=>simp only[Option.map_some];rw[j.ev (ae B (by rw[h];simp[Op.operands]))]
  split at d
  .rename_i Q b n c F e;split at d
   .rename_i sz ac;obtain⟨m,d,hm⟩:=qS (P:=P) d;obtain⟨Z,d,aa⟩:=qS (P:=P) d;obtain⟨aw,d⟩:=dN d;obtain⟨l,q,hl⟩:=qS (P:=P) d;obtain⟨e',inf,aq,L,rfl⟩:=Ky ac;rw[aq]at F;cases F;refine⟨_,_,q,λy k=>(by cases k),λx _=>?_⟩;have ab:(Instr.sliceBounds true n c (lo.map E.ev) (C.map E.ev) (S.map E.ev)).run P x=.ok (l,Z,m) x:=by refine Hw hm aa hl ?_;intro G h2;cases S<;>cases C<;>simp_all
    simp only[execOp,h,j.val e,ah,af,ao];simp[Instr.sliceAt,run_underlying aq,Instr.slice,ab,sizeOf,typeInfo,L]
   grind
  .rename_i s F e;obtain⟨ax,h'⟩:=dN d;clear d;have ay:S=none:=by simpa using ax
   subst ay;obtain⟨Z,d,aa⟩:=qS (P:=P) h';obtain⟨l,q,hl⟩:=qS (P:=P) d;refine⟨_,_,q,λy k=>(by cases k),λx _=>?_⟩;have ab:(Instr.sliceBounds false s.size s.size (lo.map E.ev) (C.map E.ev) none).run P x=.ok (l,Z,s.size) x:=by exact Hw (.inl ⟨rfl,rfl⟩) aa hl (λG _=>absurd rfl G)
   simp only[execOp,h,j.val e,ah,af];simp[Instr.sliceAt,run_underlying F,Instr.slice,ab]
  .rename_i n Q p F e;split at d
   .rename_i inf L;obtain⟨m,d,hm⟩:=qS (P:=P) d;obtain⟨Z,d,aa⟩:=qS (P:=P) d;obtain⟨aw,d⟩:=dN d;obtain⟨l,q,hl⟩:=qS (P:=P) d;refine⟨_,_,q,λy k=>(by cases k),λx _=>?_⟩;have ab:(Instr.sliceBounds false n n (lo.map E.ev) (C.map E.ev) (S.map E.ev)).run P x=.ok (l,Z,m) x:=by refine Hw hm aa hl ?_;intro G h2;cases S<;>cases C<;>simp_all
    simp only[execOp,h,j.val e,ah,af,ao];simp[Instr.sliceAt,Instr.sureAddr,run_underlying F,ab,sizeOf,typeInfo,L]
   grind
  grind
 .
  rename_i z A B O h;cases W:isConst B with
  |true=>grind
  |false=>
   rw[W]at d;simp only[cond_false]at d;split at d
   .rename_i N i k' am e H;obtain⟨av,Y,q⟩:=dN d;have ag:N=k':=by grind
    subst ag;refine⟨_,_,q,λy k=>(by cases k),λx _=>?_⟩;simp[execOp,h,j.val e,j.val H,eqGuard,binOp,Op.intDiv,Y]
   grind
 .
  rename_i z A B O h;cases W:isConst B with
  |true=>grind
  |false=>
   rw[W]at d;simp only[cond_false]at d;split at d
   .rename_i N i k' am e H;obtain⟨av,Y,q⟩:=dN d;have ag:N=k':=by grind
    subst ag;refine⟨_,_,q,λy k=>(by cases k),λx _=>?_⟩;simp[execOp,h,j.val e,j.val H,eqGuard,binOp,Op.intDiv,Y]
   grind
 .
  rename_i z A c O h;cases M:qi P z c with
  |false=>rw[M]at d;exact z5 hs j h (.inl ⟨rfl,rfl⟩) d
  |true=>
   rw[M]at d;simp only[cond_true]at d;split at d
   .rename_i b D;refine⟨_,_,d,λy k=>(by cases k),λx _=>?_⟩;cases e:E.val A with
    |none=>rw[e]at D;simp[oS]at D
    |some v=>
     rw[e]at D;have T:execOp a.eval o=(do pure (.value (<-(do eqGuard .eql z A (.const c) v c;binOp .eql z v c)))):=by simp only[execOp,h,j.val e];rfl
     rw[T];simp[Qk D x,aa' M D x]
   grind
 .
  rename_i z A c O h;cases M:qi P z c with
  |false=>rw[M]at d;exact z5 hs j h (.inr ⟨rfl,rfl⟩) d
  |true=>
   rw[M]at d;simp only[cond_true]at d;split at d
   .rename_i b D;refine⟨_,_,d,λy k=>(by cases k),λx _=>?_⟩;cases e:E.val A with
    |none=>rw[e]at D;simp[oS]at D
    |some v=>
     rw[e]at D;have T:execOp a.eval o=(do pure (.value (<-(do eqGuard .neq z A (.const c) v c;binOp .neq z v c)))):=by simp only[execOp,h,j.val e];rfl
     rw[T];simp[Qk D x,aba M D x]
   grind
 .
  rename_i z A B O _ h;exact z5 hs j h (.inl ⟨rfl,rfl⟩) d
 .rename_i z A B O _ h;split at d
  .rename_i p aA F e H;refine th ?_ d;simp only[execOp,h,j.val e,j.val H];rfl
  .exact z5 hs j h (.inr ⟨rfl,rfl⟩) d
 .
  rename_i z A B O h;split at d
  .rename_i s t e H;obtain⟨J,q⟩:=d;refine⟨_,_,q,λy k=>(by cases k),λx _=>?_⟩;have T:execOp a.eval o=(do pure (.value (<-(do eqGuard .add z A B (.string s) (.string t);binOp .add z (.string s) (.string t))))):=by simp only[execOp,h,j.val e,j.val H]
   rw[T];simp only[eqGuard,binOp,Op.stringOp,J];rfl
  grind
 .
  rename_i z A B O h;cases W:isConst B with
  |true=>grind
  |false=>
   rw[W]at d;simp only[cond_false]at d;split at d
   .rename_i N i k' am e H;obtain⟨Y,q⟩:=d;refine⟨_,_,q,λy k=>(by cases k),λx _=>?_⟩;simp[execOp,h,j.val e,j.val H,eqGuard,binOp,Op.shift,Y]
   grind
 .
  rename_i z A B O h;cases W:isConst B with
  |true=>grind
  |false=>
   rw[W]at d;simp only[cond_false]at d;split at d
   .rename_i N i k' am e H;obtain⟨Y,q⟩:=d;refine⟨_,_,q,λy k=>(by cases k),λx _=>?_⟩;simp[execOp,h,j.val e,j.val H,eqGuard,binOp,Op.shift,Y]
   grind
 .
  rename_i z A ix ok h;split at d
  .rename_i m N e C;exact th (by simp[execOp,h,j.val e,j.val C]) d
  grind
 .
  rename_i s aG A h;split at d
  .rename_i Q v ap an e;exact th (by simp[execOp,h,j.val e]) d
  .rename_i Q v ap an e;exact th (by simp[execOp,h,j.val e]) d
  .rename_i Q v ap an e;exact th (by simp[execOp,h,j.val e]) d
  grind
 .
  rename_i args aC h;split at d
  .rename_i A z e hT;split at d
   .rename_i kt et m F hm;refine th ?_ d;have T:args=#[A]:=by grind
    have e2:aC=#[z]:=by grind
    simp[execOp,h,T,e2,resolve,invoke,builtin,j.val hm]
   grind
  grind
 grind
def zO{P:au}{o:Oper}{E:Env}{w:I}{n:Cx}{a:Act}{K:V->List (I->Prop)->Prop}(x:∀k b,o.op≠.select k b)(e:Ag n a E)(d:oB P o E w K):∃v h,K v h/\Calm P o a.eval w v h:=by
 unfold oB at d;cases j:EJ P o with
 |false=>rw[j]at d;exact XA x e d
 |true=>
  rw[j]at d;simp only[cond_true]at d;unfold LW at d;split at d
  .rename_i op A C D B q;split at d
   .rename_i u v y z;refine th ?_ d;simp only[execOp,q,e.val y,e.val z];rfl
   grind
  grind
def v8{P:au}{p:Addr}:∀{vs:List V} {i:Nat} {w:I} {K:I->Prop},vs.all vx=true->tB p vs i w K->
  ∃e,(storeCells p vs i).run P w=.ok () e/\K e
 |[],i,w,K,_,d=>⟨w,by simp[storeCells],d⟩
 |v::vs,i,w,K,h,d=>by
  obtain⟨k,q,d⟩:=d;rw[List.all_cons,bd]at h;obtain⟨e,y,x⟩:=v8 (P:=P) h.2 d;refine⟨e,?_,x⟩;obtain⟨u,A⟩:=Option.isSome_iff_exists.1 k;have z:(store (p.add i) v).run P w=.ok () (w.setCell (p.add i) v):=by have j:=h.1;cases v<;>first |(simp[vx]at j;done)|simp[store,Sem.run,A,q]
  simp[storeCells,z,y]
def uy{P:au}{f:b3}(d:hy P f=true)(args:Array V)(w:I):(callFunc f args).run P w=.ok (.enter f args) w:=by
 unfold hy at d;cases e:P.funcs[f]? with
 |none=>grind
 |some fn=>
  rw[e]at d;simp at d;obtain⟨k,h⟩:=d;have j:fn.body≠none:=by grind
  simp[callFunc,e,h,j]
def Ag.args{n:Cx}{a:Act}{E:Env}(e:Ag n a E){args:Array Operand}(h:∀d∈args,(E.val d).isSome=true):args.map a.eval=args.map E.ev:=
 Array.map_congr_left λd j=>e.ev (h d j)
def jy(P:au)(o:Oper)(a:Act)(w:I)(K:V->I->Prop):Prop:=
 ∀d:Exit->Act->I->Prop,o.wp P a w (λe h=>∃v,e=a.put o.dst v/\K v h) d
def JZ{P:au}{f:b3}{args:Array V}{z:V}{w:I}{K:V->I->Prop}{o:Oper}{a:Act}(h:(execOp a.eval o).run P w=.ok (.enter f args) w)(d:sa P f args z w K):jy P o a w K:=by
 intro j;unfold Oper.wp;rw[h];simp only[Oper.upon];refine Calls.mono d λk x e=>?_;obtain⟨v,rfl,q⟩:=q0 e
 grind
def uH{P:au}{s:Sem V}{z:V}{w:I}{K:V->I->Prop}{o:Oper}{a:Act}(h:execOp a.eval o=(do pure (.value (<-s))))(d:su P s z w K):jy P o a w K:=by
 intro j;obtain⟨v,q,e,k⟩:=q0 d;unfold Oper.wp;rw[h];simp only[Sem.run_bind,e,Result.andThen_ok,Sem.run_pure,Oper.upon]
 grind
set_option maxHeartbeats 1000000 in
def oD{P:au}{o:Oper}{E:Env}{w:I}{n:Cx}{a:Act}{K:V->I->Prop}(hs:∀O b,o.op≠.select O b)(h:Ag n a E)(d:h0 P o E w K):jy P o a w K:=by
 unfold h0 at d;split at d
 .
  rename_i F z N e;split at d
  .rename_i p v q ab;obtain⟨J,d⟩:=dN d;rw[bd,bd]at J;obtain⟨⟨S,W⟩,Y⟩:=J;obtain⟨i,C⟩:=Option.isSome_iff_exists.1 Y;rw[C]at S;have T:v.cells.size=i.size:=by grind
   obtain⟨w',j,y⟩:=v8 (P:=P) W d;intro A;unfold Oper.wp;have:(execOp a.eval o).run P w=.ok .skip w':=by simp[execOp,e,Instr.storeAt,h.val q,h.val ab,Instr.sureAddr,storeVar,sizeOf,typeInfo,C,T,j]
   rw[this];simp only[Oper.upon]
   grind
  grind
 .
  rename_i F m ac v e;split at d
  .rename_i mv kv vv G y H;obtain⟨w',j,Q⟩:=d;intro A;unfold Oper.wp;have:(execOp a.eval o).run P w=.ok .skip w':=by simp[execOp,e,h.val G,h.val y,h.val H,j]
   rw[this];simp only[Oper.upon]
   grind
  grind
 .
  rename_i F m ac v e;split at d
  .rename_i mv kv vv G y H;obtain⟨w',j,Q⟩:=d;intro A;unfold Oper.wp;have:(execOp a.eval o).run P w=.ok .skip w':=by simp[execOp,e,h.val G,h.val y,h.val H,j]
   rw[this];simp only[Oper.upon]
   grind
  grind
 .
  rename_i b args M e;obtain⟨B,d⟩:=dN d;have k:args.map a.eval=args.map E.ev:=h.args λz q=>dS.1 B z (by rw[e];simp[Op.operands,Call.operands,q]);split at d
  .exact uH (by simp[execOp,e,resolve,invoke,builtin,k]) d
  .exact uH (by simp[execOp,e,resolve,invoke,builtin,k]) d
  .exact uH (by simp[execOp,e,resolve,invoke,builtin,k]) d
  .exact uH (by simp[execOp,e,resolve,invoke,builtin,k]) d
  .obtain ⟨w',j,y⟩:=d;intro A;unfold Oper.wp;have:(execOp a.eval o).run P w=.ok (.value undef) w':=by simp[execOp,e,resolve,invoke,builtin,k,j]
   rw[this];simp only[Oper.upon]
   grind
  .obtain ⟨w',j,y⟩:=d;intro A;unfold Oper.wp;have:(execOp a.eval o).run P w=.ok (.value (.tuple #[])) w':=by simp[execOp,e,resolve,invoke,builtin,k,j]
   rw[this];simp only[Oper.upon]
   grind
  grind
 .
  rename_i f args M e;obtain⟨B,d⟩:=dN d;have k:args.map a.eval=args.map E.ev:=h.args λz q=>dS.1 B z (by rw[e];simp[Op.operands,Call.operands,q]);cases D:hy P f with
  |true=>
   rw[D]at d;refine JZ ?_ d;simp[execOp,e,resolve,Act.eval,Deferred.ofValue,invoke,k,uy D]
  |false=>
   rw[D,cond_false]at d;unfold z8 at d;obtain⟨v,w',j,y⟩:=q0 d;intro A;unfold Oper.wp;have:(execOp a.eval o).run P w=.ok (.value v) w':=by simp[execOp,e,resolve,Act.eval,Deferred.ofValue,invoke,k,j]
   rw[this];simp only[Oper.upon]
   grind
 .
  rename_i t args M e;obtain⟨B,d⟩:=dN d;have k:args.map a.eval=args.map E.ev:=h.args λz q=>dS.1 B z (by rw[e];simp[Op.operands,Call.operands,q]);split at d
  .rename_i f first captured Z
   obtain⟨D,d⟩:=dN d;have aa:a.eval (.tmp t)=.func (.func f) first captured:=h.val (x:=.tmp t) Z
   refine JZ ?_ d;simp[execOp,e,resolve,aa,Deferred.ofValue,invoke,k,uy D]
  grind
 .
  rename_i F l c e;split at d
  .rename_i lv cv hl B;exact uH (by simp[execOp,e,h.val hl,h.val B]) d
  grind
 .
  rename_i F z e;split at d
  .rename_i xv q;obtain⟨v,w',j,y⟩:=d;intro A;unfold Oper.wp;have:(execOp a.eval o).run P w=.ok (.value v) w':=by simp[execOp,e,h.val q,j]
   rw[this];simp only[Oper.upon]
   grind
  grind
 .
  rename_i it s e;split at d
  .rename_i L C;have fin:∀(v:V) (w':I),(Instr.next L s o.type).run P w=.ok v w'->K v w'->jy P o a w K:=λv w' j y A=>by
    unfold Oper.wp;have:(execOp a.eval o).run P w=.ok (.value v) w':=by simp[execOp,e,h.val C,j]
    rw[this];simp only[Oper.upon]
    grind
   grind
  grind
 .
  rename_i it e;split at d
  .rename_i L C;obtain⟨z,N,w',j,y⟩:=d;intro A;unfold Oper.wp;have:(execOp a.eval o).run P w=.ok (.value (.tuple #[z,N])) w':=by simp[execOp,e,h.val C,j]
   rw[this];simp only[Oper.upon]
   grind
  grind
 .
  rename_i s ae z e;split at d
  .rename_i v q;exact uH (by simp[execOp,e,h.val q]) d
  grind
 .
  obtain⟨B,d⟩:=dN d;intro A;unfold Oper.wp;rw[h.execOp hs B];generalize(execOp E.ev o).run P w=r at d;split at d
  .simp only[Oper.upon];grind
  .simp only[Oper.upon];grind
  grind
def Cr(P:au)(n:Cx)(o:Oper)(a:Act)(w:I)(K:V->I->Prop):Prop:=
 ∀d:Exit->Act->I->Prop,o.wpIn (FW n) 0 P a w (λe h=>∃v,e=a.put o.dst v/\K v h) d
def J0{n:Cx}{P:au}{f:b3}{args:Array V}{w:I}{R:cW->I->Prop}(e:ai P f args w R):CallsIn (FW n) 0 P f args w R:=by
 have d:CallsIn Fence.wide 0 P f args w R:=callsIn_wide.2 e;obtain⟨n,j,h⟩:=n;cases h with
 |none=>exact d
 |some l=>exact d
def acU{n:Cx}{P:au}{row:String}{args:Array V}{w:I}{R:V->I->Prop}(e:Rows P row args w R):RowsIn (FW n) 0 P row args w R:=by
 intro c d _;obtain⟨v,q,h,j⟩:=e c d;refine⟨v,q,h,?_⟩;have:=stepsIn_wide.2 j;obtain⟨n,x,k⟩:=n;cases k with
 |none=>exact this
 |some l=>exact this
def acL{n:Cx}{P:au}{l:Nat}{f:b3}{tmps:Array V}{assign body:Code}{w:I}{R:cW->I->Prop}(d:RoundIn Fence.wide 0 P l f tmps assign body w R):RoundIn (FW n) 0 P l f tmps assign body w R:=by
 obtain⟨n,h,e⟩:=n;cases e with
 |none=>exact d
 |some l=>exact d
def If{P:au}{n:Cx}{o:Oper}{a:Act}{w:I}{K:Act->I->Prop}{Q:Exit->Act->I->Prop}(hd:∀c,o.op≠.defer c)(d:o.wp P a w K Q):o.wpIn (FW n) 0 P a w K Q:=by
 refine⟨λ_ _=>trivial,?_⟩;rw[Oper.semAt_eq _ _ _ hd];unfold Oper.wp at d;generalize(execOp a.eval o).run P w=r at *;cases r with
 |ok nx e=>
  cases nx<;>simp only[Oper.upon,Oper.uponIn]at d ⊢
  case value=>exact d
  case skip=>exact d
  case defer=>exact d
  case enter f args=>exact⟨λd=>(by cases d),J0 d⟩
  case row row args=>exact⟨λd=>(by cases d),acU d⟩
 |halt h e=>
  cases h<;>simp only[Oper.upon,Oper.uponIn]at d ⊢;exact d
def jy.in{P:au}{n:Cx}{o:Oper}{a:Act}{w:I}{K:V->I->Prop}(hd:∀c,o.op≠.defer c)(e:jy P o a w K):Cr P n o a w K:=λd=>If hd (e d)
def Kw{P:au}{o:Oper}{E:Env}{w:I}{n:Cx}{a:Act}{K:V->I->Prop}(q:∀h b,o.op≠.select h b)(hd:∀c,o.op≠.defer c)(e:Ag n a E)(d:uJ P o E w K):Cr P n o a w K:=by
 unfold uJ at d;split at d
 .rename_i t args S k;split at d
  .rename_i l A h H;obtain⟨j,N⟩:=dN d;clear d;simp only[bd,eJ]at j;obtain⟨G,B,C⟩:=j;have y:A=#[]:=Array.eq_empty_of_size_eq_zero B;have z:h=#[]:=Array.eq_empty_of_size_eq_zero C;subst y z;have F:args.map a.eval=args.map E.ev:=e.args λO L=>dS.1 G O (by rw[k];simp[Op.operands,Call.operands,L]);have J:a.eval (.tmp t)=.func (.yield l) #[] #[]:=e.val (x:=.tmp t) H;intro Q;obtain⟨fn,tmps,assign,body,M,D⟩:=N;refine⟨λ_ _=>trivial,?_⟩;rw[Oper.semAt_eq _ _ _ hd];have:(execOp a.eval o).run P w=.ok (.round l fn tmps assign body) w:=by simp[execOp,k,resolve,J,Deferred.ofValue,invoke,F,M]
   rw[this,Oper.uponIn_round];refine⟨λd=>(by cases d),acL (D.mono ?_)⟩
   grind
  .exact (oD q e d).in hd
 .exact (oD q e d).in hd
def yi(ops:Array Oper)(i j:Nat):Bool:=match ops[j]? with |some o=>o.after.toList.any λd=>bI d.on i&&Region.binds .any d|none=>false
def Bb(ops:Array Oper):Nat->Nat->Nat->Bool
 |0,i,d=>yi ops i d
 |f+1,i,d=>bif yi ops i d then true else match ops[d]? with |some o=>o.after.toList.any λe=>bif Region.binds .any e then Bb ops f i e.on else false|none=>false
def kh(ops:Array Oper)(i j:Nat):Bool:=Bb ops 4 i j
def Down(ops:Array Oper)(e:Array Bool):Prop:=∀(k:Nat) (o:Oper),ops[k]? =some o->e.getD k false=true->∀d∈o.after,Region.binds .any d=true->e.getD d.on false=true
def Down.zero(ops:Array Oper)(n:Nat):Down ops (gq n false):=λh o _ e=>by
 exfalso;by_cases d:h<n
 .simp [d]at e
 grind
def Down.set{ops:Array Oper}{e:Array Bool}(hd:Down ops e){i:Nat}(hi:i∈ec .any ops e):Down ops (e.setIfInBounds i true):=λx o d q h k j=>by
 obtain⟨_,A,z,y⟩:=mem_ready.1 hi;by_cases w:i=x
 .subst w;rw[z]at d;cases d;exact getD_set_true (y h k j)
 .rw [getD_set_ne false w]at q;exact getD_set_true (hd x o d q h k j)
def QK{ops:Array Oper}{k:Array Bool}{i j:Nat}(w:∀o,ops[j]? =some o->∀d∈o.after,Region.binds .any d=true->k.getD d.on false=true)(e:yi ops i j=true):k.getD i false=true:=by
 unfold yi at e;cases q:ops[j]? with
 |none=>grind
 |some o=>
  rw[q]at e;obtain⟨d,x,h⟩:=List.any_eq_true.1 e;rw[bd]at h;have y:d.on=i:=by have:=h.1;rwa[eJ]at this
  grind
def QL{ops:Array Oper}{k:Array Bool}(hd:Down ops k){i:Nat}:∀(f j:Nat),(∀o,ops[j]? =some o->∀d∈o.after,Region.binds .any d=true->k.getD d.on false=true)->Bb ops f i j=true->k.getD i false=true
 |0,j,h,e=>QK h e
 |f+1,j,h,e=>by
  unfold Bb at e;cases w:yi ops i j with
  |true=>exact QK h w
  |false=>
   rw[w]at e;cases y:ops[j]? with
   |none=>grind
   |some o=>
    rw[y]at e;obtain⟨d,F,x⟩:=List.any_eq_true.1 e;cases q:Region.binds .any d with
    |false=>grind
    |true=>
     rw[q]at x;have C:=h o y d (by grind) q;exact QL hd f d.on (λE D z B A=>hd d.on E D C z B A) x
abbrev eC:=List (Nat×(I->Prop))
def heldBy(ops:Array Oper)(j:Nat)(w:I):eC->List Prop
 |[]=>[]
 |(i,e)::d=>bif kh ops i j then heldBy ops j w d else e w::heldBy ops j w d
def c9(ops:Array Oper)(j:Nat):eC->eC
 |[]=>[]
 |(i,e)::d=>bif kh ops i j then c9 ops j d else(i,e)::c9 ops j d
def EH{ops:Array Oper}{j:Nat}{w:I}:∀{H:eC} {p:Nat×(I->Prop)},p∈H->kh ops p.1 j=false->p.2 w∈heldBy ops j w H
 |(i,h)::H,p,d,e=>by
  unfold heldBy;rcases aF.1 d with rfl|d
  .grind
  .have:=EH (H:=H) (w:=w) d e
   grind
def fI{ops:Array Oper}{j:Nat}:∀{H:eC} {p:Nat×(I->Prop)},p∈c9 ops j H↔p∈H/\kh ops p.1 j=false
 |[],p=>by simp[c9]
 |(i,d)::H,p=>by
  unfold c9;cases e:kh ops i j with
  |true=>
   simp only[cond_true];rw[fI]
   grind
  |false=>
   simp only[cond_false,aF];rw[fI]
   grind
section
variable {P:au} {ops:Array Oper} {Q:Exit->Act->I->Prop}
def ep(P:au)(ops:Array Oper)(Q:Exit->Act->I->Prop):Nat->eC->Array Bool->Act->I->Prop
 |0,_,d,a,e=>Down ops d->ec .any ops d=[]/\Q .normal a e
 |fuel+1,h,d,a,e=>Down ops d->
  (ec .any ops d=[]->Q .normal a e)/\
  ∀i∈ec .any ops d,wpOp P ops Q i (λk j=>(∀p∈c9 ops i h,p.2 j)/\ep P ops Q fuel (c9 ops i h) (d.setIfInBounds i true) k j) a e
def y7:∀(fuel:Nat) (H:eC) (h:Array Bool) (a:Act) (w:I),Down ops h->ep P ops Q fuel H h a w->wpAny P .any ops Q fuel h a w
 |0,_,_,_,_,d,e=>e d
 |fuel+1,_,_,_,_,d,e=>⟨(e d).1,λi j=>wpOp_mono (λk x q=>y7 fuel _ _ k x (d.set j) q.2) ((e d).2 i j)⟩
def Ib:∀(fuel:Nat) (H d:eC) (j:Array Bool) (a:Act) (w:I),(∀p∈d,p∈H)->ep P ops Q fuel H j a w->ep P ops Q fuel d j a w
 |0,_,_,_,_,_,_,e=>e
 |fuel+1,H,d,j,a,w,A,e=>λq=>⟨(e q).1,λi z=>wpOp_mono (λy B k=>by have x:∀p∈c9 ops i d,p∈c9 ops i H:=λp h=>fI.2 ⟨A p (fI.1 h).1,(fI.1 h).2⟩;exact⟨λp h=>k.1 p (x p h),Ib fuel _ _ _ y B x k.2⟩) ((e q).2 i z)⟩
def abn{i j:Nat}{d:Array Bool}(hd:Down ops d)(hi:d.getD i true=false)(e:j∈ec .any ops d):kh ops i j=false:=by
 obtain⟨_,A,z,q⟩:=mem_ready.1 e;cases h:kh ops i j with
 |false=>rfl
 |true=>
  have this:=QL hd 4 j (λo y k x w=>by grind) h
  grind
def Cl{i:Nat}{x:Oper}{v:V}{Ss:List (I->Prop)}(hi:ops[i]? =some x)(W:∀(j:Nat) (o:Oper) B b,ops[j]? =some o->o.op≠.select B b)(hQ:∀c a w,Q (.panic c) (a.put x.dst v) w->Q (.panic c) a w):
  ∀(fuel:Nat) (H:eC) (q:Array Bool) (a:Act) (w:I),
   (∀j y,ops[j]? =some y->j≠i->q.getD j true=false->(∀h∈y.after,Region.binds .any h=true->h.on≠i)->x.apart ops y=true)->
   i∈ec .any ops q->YieldsIf P ops (λw=>∀e∈Ss,e w) x v a->(∀e∈Ss,e w)->(∀p∈H,p.2 w)->
   ep P ops Q fuel (Ss.map (λe=>(i,e))++H) (q.setIfInBounds i true) (a.put x.dst v) w->ep P ops Q (fuel+1) H q a w:=by
 intro fuel;induction fuel with
 |zero=>
  intro H q a w _ D F J G A E;refine⟨λZ=>(by grind),λj C=>?_⟩;by_cases k:j=i
  .subst k;exact F.wpOp hi J ⟨λp d=>G p (fI.1 d).1,A⟩
  .have:=ready_mono C k;rw[(A (E.set D)).1]at this
   grind
 |succ fuel ih=>
  intro H q a w O D F J G A E;refine⟨λZ=>(by grind),λj C=>?_⟩;by_cases k:j=i
  .subst k;refine F.wpOp hi J ⟨λp d=>G p (fI.1 d).1,?_⟩;exact Ib _ _ _ _ _ _ (λp d=>da _ (fI.1 d).1) A
  .have h1:=(A (E.set D)).2 j (ready_mono C k);obtain⟨ae,y,K,ao⟩:=mem_ready.1 C;have h0:=(mem_ready.1 D).1;have ah:∀h∈y.after,Region.binds .any h=true->h.on≠i:=λh he hb ap=>by grind
   have T:kh ops i j=false:=abn E h0 C;have h2:=wpOp_putIf K (O j y K k ae ah) (λB b=>W i x B b hi) (λB b=>W j y B b K) hQ F h1;have ab:∀z ok,ops[z]? =some ok->z≠i->(q.setIfInBounds j true).getD z true=false->
     (∀h∈ok.after,Region.binds .any h=true->h.on≠i)->x.apart ops ok=true:=λz ok hk af am ag=>by
    refine O z ok hk af ?_ ag;by_cases ac:j=z
    .grind
    .rw [getD_set_ne true ac]at am;omega
   refine wpOp_mono (λY L h3=>?_) h2;obtain⟨an,S,aj⟩:=h3;have M:∀p∈c9 ops j H,p.2 L:=λp d=>S p (fI.2 ⟨da _ (fI.1 d).1,(fI.1 d).2⟩);have aa:∀e∈Ss,e L:=λe N=>S (i,e) (fI.2 ⟨List.mem_append_left _ (dA.2 ⟨e,N,rfl⟩),T⟩);refine⟨M,ih (c9 ops j H) (q.setIfInBounds j true) Y L ab (ready_mono D (Ne.symm k)) an aa M ?_⟩;rw[Array.setIfInBounds_comm _ _ k];refine Ib _ _ _ _ _ _ (λp d=>?_) aj;rcases aP.1 d with d|d
   .obtain ⟨e,N,rfl⟩:=dA.1 d;exact fI.2 ⟨List.mem_append_left _ d,T⟩
   .exact fI.2 ⟨da _ (fI.1 d).1,(fI.1 d).2⟩
end
def kU(ops:Array Oper)(j:Nat):Option Nat:=(ops[j]?).bind (·.dst)
def qx(P:au)(ops:Array Oper)(draw:Bool)(i:Nat)(o:Oper)(E:Env)(w:I)(H:eC)(K:Env->I->eC->Prop):Prop:=
 bif calm P o then oB P o E w λv h=>K (E.put o.dst v) w (bif draw then h.map (λe=>(i,e))++H else H)
 else(bif draw then h0 else uJ) P o E w λv d=>uj (heldBy ops i d H) (K (E.put o.dst v) d (c9 ops i H))
def m5(P:au)(ops:Array Oper)(draw:Bool)(i:Nat)(o:Oper)(d:Nat)(want t:Bool)(E:Env)(w:I)(H:eC)(K:Env->I->eC->Prop):Prop:=
 bif (t==want)then qx P ops draw i o ((d,.bool t)::E) w H K else K (Env.put ((d,.bool t)::E) o.dst undef) w (bif calm P o then H else c9 ops i H)
def hj(P:au)(ops:Array Oper)(draw:Bool)(K:Env->I->Prop):List Nat->Env->I->eC->Prop
 |[],d,e,_=>K d e
 |i::l,d,e,j=>
  match ops[i]? with
  |none=>False
  |some o=>match o.guard with
   |none=>qx P ops draw i o d e j λh q k=>hj P ops draw K l h q k
   |some (x,want)=>match kU ops x with
    |none=>False
    |some w=>match d.get? w with
     |some (.bool t)=>bD t (m5 P ops draw i o w want true d e j λh q k=>hj P ops draw K l h q k) (m5 P ops draw i o w want false d e j λh q k=>hj P ops draw K l h q k)
     |some (.tuple _)=>hj P ops draw K l (Env.put d o.dst undef) e (bif calm P o then j else c9 ops i j)
     |_=>False
def rk(P:au)(ops:Array Oper):List Nat->Array Bool->Bool
 |[],d=>(ec .any ops d).isEmpty
 |i::l,d=>(match ops[i]? with
   |some o=>bif calm P o then Region.free .any ops d i&&(ec .any ops d).contains i else ec .any ops d==[i]
   |none=>false)&&rk P ops l (d.setIfInBounds i true)
def Ql(o:Oper):Bool:=match o.op with |.defer _=>false|_=>true
def dD(n:Nat)(ops:Array Oper):Bool:=Region.noSelect ops&&ops.toList.all λo=>Ql o&&match o.dst with |some d=>Nat.blt d n|none=>true
def hg{n:Nat}{ops:Array Oper}(d:dD n ops=true){i:Nat}{o:Oper}(h:ops[i]? =some o):∀t,o.dst=some t->t<n:=by intro t e;unfold dD at d;rw[bd]at d;have:=dS.1 d.2 o (by grind);rw[e,bd]at this;simpa using this.2
def vz{n:Nat}{ops:Array Oper}(d:dD n ops=true){i:Nat}{o:Oper}(h:ops[i]? =some o):∀c,o.op≠.defer c:=by
 intro c e;unfold dD at d;rw[bd]at d;have:=dS.1 d.2 o (by grind);rw[bd]at this;have:=this.1;unfold Ql at this
 grind
def hW(n:Cx)(K:Env->I->Prop):Exit->Act->I->Prop
 |.normal,a,e=>∃d,Ag n a d/\K d e
 |_,_,_=>False
def tR{n:Cx}{a:Act}{E:Env}(e:Ag n a E){ops:Array Oper}{j d:Nat}{t:Bool}(hd:kU ops j=some d)(h:E.get? d=some (.bool t)):yielded ops a.tmps j=some t:=by unfold yielded;unfold kU at hd;rw[hd];simp[e.get _ _ h]
def tS{n:Cx}{a:Act}{E:Env}(e:Ag n a E){ops:Array Oper}{j d:Nat}{vs:Array V}(hd:kU ops j=some d)(h:E.get? d=some (.tuple vs)):yielded ops a.tmps j=none:=by unfold yielded;unfold kU at hd;rw[hd];simp[e.get _ _ h]
def Ag.same{n:Cx}{a:Act}{E:Env}(e:Ag n a E){d:Nat}{v:V}(hd:E.get? d=some v):Ag n a ((d,v)::E):=e.cons hd e
section
variable {P:au} {ops:Array Oper} {n:Cx} {K:Env->I->Prop}
def Ie{i:Nat}{o:Oper}{a:Act}{w:I}{Kv:V->I->Prop}{K':Act->I->Prop}{Q:Exit->Act->I->Prop}(h:ops[i]? =some o)(j:cv o (yielded ops a.tmps)=true)(e:jy P o a w Kv)(q:∀v d,Kv v d->K' (a.put o.dst v) d):wpOp P ops Q i K' a w:=by unfold wpOp;simp only[h,j,if_true];exact .inl (Oper.wp_mono (λk d=>by grind) (e Q))
def BW{i:Nat}{o:Oper}{a:Act}{E:Env}{w:I}{H:eC}{Kh:Env->I->eC->Prop}{h:Array Bool}{fuel:Nat}{Q:Exit->Act->I->Prop}(z:dD n ops=true)(e:ops[i]? =some o)(k:(bif calm P o then Region.free .any ops h i&&(ec .any ops h).contains i else ec .any ops h==[i])=true)(hQ:∀c a w,Q (.panic c) a w=False)(q:Ag n a E)(S:∀p∈H,p.2 w)(K:cv o (yielded ops a.tmps)=true)(d:qx P ops true i o E w H Kh)(next:∀C B j x,Ag n C B->(∀p∈x,p.2 j)->Kh B j x->ep P ops Q fuel x (h.setIfInBounds i true) C j):ep P ops Q (fuel+1) H h a w:=by
 have A:=Region.noSelect_spec (ops:=ops) (by unfold dD at z;grind);unfold qx at d;cases F:calm P o with
 |true=>
  rw[F]at d k;simp only[cond_true]at d k;rw[bd]at k;obtain⟨v,M,T,Y,Z⟩:=zO (λy b=>A i o y b e) q d;refine Cl (v:=v) (Ss:=M) e A (by grind) fuel H h a w (Region.free_spec e k.1) (by grind) (.inl ⟨K,λj aa=>Z j aa⟩) Y S ?_;refine next _ _ _ _ (q.put v (hg z e)) ?_ T
  grind
 |false=>
  rw[F]at d k;simp only[cond_false,cond_true]at d k;have W:ec .any ops h=[i]:=by grind
  refine λ_=>⟨λh0=>(by grind),λL G=>?_⟩;rw[W]at G;obtain rfl:=cy.1 G;refine Ie e K (oD (λy b=>A L o y b e) q d) λv j hv=>?_;obtain⟨N,O⟩:=uk hv;have D:∀p∈c9 ops L H,p.2 j:=λp J=>N _ (EH (fI.1 J).1 (fI.1 J).2);exact⟨D,next _ _ _ _ (q.put v (hg z e)) D O⟩
def BO{i:Nat}{o:Oper}{a:Act}{w:I}{H:eC}{d:Array Bool}{fuel:Nat}{Q:Exit->Act->I->Prop}(z:dD n ops=true)(h:ops[i]? =some o)(e:(bif calm P o then Region.free .any ops d i&&(ec .any ops d).contains i else ec .any ops d==[i])=true)(F:∀c a w,Q (.panic c) a w=False)(j:∀p∈H,p.2 w)(x:cv o (yielded ops a.tmps)=false)(next:ep P ops Q fuel (bif calm P o then H else c9 ops i H) (d.setIfInBounds i true) (a.put o.dst undef) w):ep P ops Q (fuel+1) H d a w:=by
 have C:=Region.noSelect_spec (ops:=ops) (by unfold dD at z;grind);cases k:calm P o with
 |true=>
  rw[k]at e next
  simp only[cond_true]at e next
  rw[bd]at e;exact Cl (v:=undef) (Ss:=[]) h C (by grind) fuel H d a w (Region.free_spec h e.1) (by grind) (.inr ⟨x,rfl⟩) (λD y=>(by cases y)) j (by grind)
 |false=>
  rw[k]at e next
  simp only[cond_false]at e next
  have B:ec .any ops d=[i]:=by grind
  refine λ_=>⟨λE=>(by grind),λG q=>?_⟩;rw[B]at q;obtain rfl:=cy.1 q;unfold wpOp;simp only[h,x];exact⟨λp A=>j p (fI.1 A).1,next⟩
def Hk(k:dD n ops=true):∀(l:List Nat) (F:Array Bool) (E:Env) (w:I) (H:eC) (a:Act),rk P ops l F=true->Ag n a E->(∀p∈H,p.2 w)->
  hj P ops true K l E w H->ep P ops (hW n K) l.length H F a w
 |[],F,E,w,H,a,e,h,_,d=>λ_=>⟨by simpa[rk]using e,E,h,d⟩
 |i::l,F,E,w,H,a,e,h,z,d=>by
  unfold rk at e;rw[bd]at e;obtain⟨e,W⟩:=e;unfold hj at d;cases q:ops[i]? with
  |none=>grind
  |some o=>
   rw[q]at d e;simp only at d e;have next:∀G y x j,Ag n G y->(∀p∈j,p.2 x)->hj P ops true K l y x j->ep P ops (hW n K) l.length j (F.setIfInBounds i true) G x:=
    λG y x j Q S T=>Hk k l _ y x j G W Q S T
   cases A:o.guard with
   |none=>
    rw[A]at d;simp only at d;exact BW k q e (λ_ _ _=>rfl) h z (by simp[cv,A]) d next
   |some Z=>
    obtain⟨Y,want⟩:=Z;rw[A]at d;simp only at d;cases M:kU ops Y with
    |none=>grind
    |some O=>
     rw[M]at d;simp only at d;split at d
     .rename_i t D;have J:=tR h M D;have B:m5 P ops true i o O want t E w H λy x j=>hj P ops true K l y x j:=by
       cases t
       .exact d
       .exact d
      unfold m5 at B;cases N:(t==want)with
      |true=>
       rw[N]at B;exact BW k q e (λ_ _ _=>rfl) (h.same D) z (by simp[cv,A,J];grind) B next
      |false=>
       rw[N]at B;simp only[cond_false]at B;refine BO k q e (λ_ _ _=>rfl) z (by simp[cv,A,J];grind) ?_;refine next _ _ _ _ ((h.same D).put undef (hg k q)) ?_ B
       intro p C;cases L:calm P o
       .rw [L]at C;exact z p (fI.1 C).1
       grind
     .rename_i vs D;have J:=tS h M D;refine BO k q e (λ_ _ _=>rfl) z (by simp[cv,A,J]) ?_;refine next _ _ _ _ (h.put undef (hg k q)) ?_ d
      intro p C;cases L:calm P o
      .rw [L]at C;exact z p (fI.1 C).1
      grind
     grind
def Ic{i:Nat}{o:Oper}{a:Act}{w:I}{Kv:V->I->Prop}{K':Act->I->Prop}{Q:Exit->Act->I->Prop}(h:ops[i]? =some o)(j:cv o (yielded ops a.tmps)=true)(e:Cr P n o a w Kv)(q:∀v d,Kv v d->K' (a.put o.dst v) d):wpOpIn (FW n) 0 P ops Q i K' a w:=by unfold wpOpIn;simp only[h,j,if_true];exact Oper.wpIn_mono (λk d=>by grind) (e Q)
def TT{i:Nat}{o:Oper}{a:Act}{E:Env}{w:I}{Kh:Env->I->eC->Prop}{rest:List Nat}{Q:Exit->Act->I->Prop}(j:dD n ops=true)(d:ops[i]? =some o)(k:Ag n a E)(B:cv o (yielded ops a.tmps)=true)(e:qx P ops false i o E w [] Kh)(next:∀y x h,Ag n y x->Kh x h []->wpOpsIn (FW n) 0 P ops Q rest y h):wpOpsIn (FW n) 0 P ops Q (i::rest) a w:=by
 have A:=Region.noSelect_spec (ops:=ops) (by unfold dD at j;grind);rw[wpOpsIn_cons];unfold qx at e;cases z:calm P o with
 |true=>
  rw[z]at e;simp only[cond_true,cond_false]at e;obtain⟨v,K,D,F,G⟩:=zO (λq b=>A i o q b d) k e;refine Ic (Kv:=λC h=>C=v/\h=w) d B ?_ ?_
  .refine jy.in (vz j d) λJ=>?_;unfold Oper.wp;rw[G w F];exact⟨v,rfl,rfl,rfl⟩
  .rintro C h ⟨rfl,rfl⟩;exact next _ _ _ (k.put _ (hg j d)) D
 |false=>
  rw[z]at e;simp only[cond_false,heldBy,uj,c9]at e;exact Ic d B (Kw (λq b=>A i o q b d) (vz j d) k e) λv h H=>next _ _ _ (k.put v (hg j d)) H
def SQ(z:dD n ops=true):∀(l:List Nat) (E:Env) (w:I) (a:Act),Ag n a E->hj P ops false K l E w []->wpOpsIn (FW n) 0 P ops (hW n K) l a w
 |[],E,w,a,j,d=>⟨E,j,d⟩
 |i::l,E,w,a,j,d=>by
  unfold hj at d;cases q:ops[i]? with
  |none=>grind
  |some o=>
   rw[q]at d;simp only at d;have next:∀B e h,Ag n B e->hj P ops false K l e h []->wpOpsIn (FW n) 0 P ops (hW n K) l B h:=λB e h L M=>SQ z l e h B L M
   cases x:o.guard with
   |none=>
    rw[x]at d;simp only at d;exact TT (Kh:=λe h y=>hj P ops false K l e h y) z q j (by simp[cv,x]) d next
   |some O=>
    obtain⟨N,want⟩:=O;rw[x]at d;simp only at d;cases F:kU ops N with
    |none=>grind
    |some J=>
     rw[F]at d;simp only at d;split at d
     .rename_i t A;have C:=tR j F A;have k:m5 P ops false i o J want t E w [] λe h y=>hj P ops false K l e h y:=by
       cases t
       .exact d
       .exact d
      unfold m5 at k;cases H:(t==want)with
      |true=>
       rw[H]at k;exact TT (Kh:=λe h y=>hj P ops false K l e h y) z q (j.same A) (by simp[cv,x,C];grind) k next
      |false=>
       rw[H]at k;simp only[cond_false]at k;have D:(bif calm P o then([]:eC)else c9 ops i [])=[]:=by cases calm P o<;>rfl
       rw[D]at k;rw[wpOpsIn_cons];unfold wpOpIn;have G:cv o (yielded ops a.tmps)=false:=by simp[cv,x,C];grind
       simp only[q,G];exact⟨λ_ _=>trivial,next _ _ _ ((j.same A).put undef (hg z q)) k⟩
     .rename_i Q A;have C:=tS j F A;have D:(bif calm P o then([]:eC)else c9 ops i [])=[]:=by cases calm P o<;>rfl
      rw[D]at d;rw[wpOpsIn_cons];unfold wpOpIn;have G:cv o (yielded ops a.tmps)=false:=by simp[cv,x,C]
      simp only[q,G];exact⟨λ_ _=>trivial,next _ _ _ (j.put undef (hg z q)) d⟩
     grind
def afg{c:Code}{id:Nat}{a:Act}{E:Env}{w:I}(h:c=.region id ops false)(j:dD n ops=true)(e:Ag n a E)(d:hj P ops false K (List.range ops.size) E w []):c.wpIn (FW n) 0 P (hW n K) a w:=by subst h;exact wpIn_region (SQ j _ E w a e d)
def tP(e:dD n ops=true){Q:Exit->Act->I->Prop}(h:¬LetsOut Q):∀(l:List Nat) (a:Act) (w:I),wpOps P ops Q l a w->wpOpsIn (FW n) 0 P ops Q l a w
 |[],a,w,d=>d
 |i::l,a,w,d=>by
  rw[wpOps_cons]at d;rw[wpOpsIn_cons];unfold wpOp at d;unfold wpOpIn;cases j:ops[i]? with
  |none=>rw[j]at d;exact tP e h l a w d
  |some o=>
   rw[j]at d;simp only at d ⊢;split
   .rename_i k;rw[ag k]at d;rcases d with d|d
    .exact Oper.wpIn_mono (λq y x=>tP e h l q y x) (If (vz e j) d)
    grind
   .rename_i k;rw[ab k]at d;exact⟨λ_ _=>trivial,tP e h l _ w d⟩
def aff{c:Code}{id:Nat}{a:Act}{E:Env}{w:I}{l:List Nat}(y:P.follows .mixedOrders=true)(q:c=.region id ops true)(h:dD n ops=true)(x:rk P ops l (gq ops.size false)=true)(A:l.length=ops.size)(k:Ag n a E)(d:hj P ops true K l E w.drew []):c.wpIn (FW n) 0 P (hW n K) a w:=by subst q;have e:=Hk h l _ E _ [] a x k (λp z=>(by cases z)) d;rw[A]at e;have j:=y7 _ [] _ _ _ (Down.zero _ _) e;refine wpIn_region_draw λt=>?_;refine tP h (λ⟨_,_,d⟩=>d) _ _ _ ?_;simp only[Region.schedule,y,Bool.true_or,if_true];exact wpAny_sound ops.size t _ a _ j
end
section
variable {P:au} {n:Cx}
def Code.ops:Code->Array Oper
 |.region _ ops _=>ops
 |_=>#[]
def Code.fst:Code->Code
 |.seq a _=>a
 |.cond _ a _=>a
 |.block _ a=>a
 |.loop a=>a
 |.scope a=>a
 |c=>c
def Code.snd:Code->Code
 |.seq _ b=>b
 |.cond _ _ b=>b
 |c=>c
def Code.I2:Code->Code
 |.rangeFunc _ _ a _=>a
 |c=>c
def Code.I9:Code->Code
 |.rangeFunc _ _ _ b=>b
 |c=>c
abbrev g5(P:au)(n:Cx)(c:Code)(Q:Exit->Act->I->Prop)(a:Act)(w:I):Prop:=c.wpIn (FW n) 0 P Q a w
def WP(P:au)(n:Cx)(c:Code)(Q:Exit->Act->I->Prop)(E:Env)(w:I):Prop:=∀a,Ag n a E->g5 P n c Q a w
def WP.region{c:Code}{Q:Exit->Act->I->Prop}{E:Env}{w:I}{ops:Array Oper}{id:Nat}(K:Env->I->Prop)(y:c=.region id ops false)(z:dD n ops=true)(q:hj P ops false K (List.range ops.size) E w [])(A:∀d h e,Ag n e d->K d h->Q .normal e h):WP P n c Q E w:=λa x=>
 wpIn_mono (afg y z x q) λk e h j=>by
  cases k with
  |normal=>obtain⟨d,hA,hK⟩:=j;grind
  |_=>exact j.elim
def WP.acD{c:Code}{Q:Exit->Act->I->Prop}{E:Env}{w:I}{ops:Array Oper}{id:Nat}{l:List Nat}(K:Env->I->Prop)(A:P.follows .mixedOrders=true)(y:c=.region id ops true)(B:dD n ops=true)(z:rk P ops l (gq ops.size false)=true)(C:l.length=ops.size)(q:hj P ops true K l E w.drew [])(D:∀d h e,Ag n e d->K d h->Q .normal e h):WP P n c Q E w:=λa x=>
 wpIn_mono (aff A y B z C x q) λk e h j=>by
  cases k with
  |normal=>obtain⟨d,hA,hK⟩:=j;grind
  |_=>exact j.elim
def ti(n:Nat)(c:Code):Bool:=match c with |.region _ ops d=>!d&&dD n ops|_=>false
def GZ(P:au)(n:Nat)(c:Code)(l:List Nat):Bool:=match c with
 |.region _ ops d=>d&&(P.follows .mixedOrders&&(dD n ops&&(rk P ops l (gq ops.size false)&&bI l.length ops.size)))
 |_=>false
def WP.mE{c:Code}{Q:Exit->Act->I->Prop}{E:Env}{w:I}(K:Env->I->Prop)(d:ti n c=true)(q:hj P (Code.ops c) false K (List.range (Code.ops c).size) E w [])(z:∀e j h,Ag n h e->K e j->Q .normal h j):WP P n c Q E w:=by
 unfold ti at d;split at d
 .rename_i id ops k;rw[bd]at d;obtain⟨A,x⟩:=d;have y:k=false:=by grind
  subst y;exact WP.region K rfl x q z
 grind
def WP.draw{c:Code}{Q:Exit->Act->I->Prop}{E:Env}{w:I}(l:List Nat)(K:Env->I->Prop)(d:GZ P n c l=true)(q:hj P (Code.ops c) true K l E w.drew [])(A:∀e k h,Ag n h e->K e k->Q .normal h k):WP P n c Q E w:=by
 unfold GZ at d;split at d
 .rename_i id ops B;simp only[bd]at d;obtain⟨rfl,x,y,z,j⟩:=d;rw[eJ]at j;exact WP.acD K x rfl y z j q A
 grind
def WP.at{c:Code}{Q:Exit->Act->I->Prop}{E:Env}{w:I}{a:Act}(d:WP P n c Q E w)(e:Ag n a E):g5 P n c Q a w:=d a e
def WP.seq{c x y:Code}{Q:Exit->Act->I->Prop}{E:Env}{w:I}(h:c=.seq x y)(d:WP P n x (Exit.then (g5 P n y Q) Q) E w):WP P n c Q E w:=λa e=>by subst h;exact wpIn_seq (d a e)
def WP.cond{c x y:Code}{o:Operand}{Q:Exit->Act->I->Prop}{E:Env}{w:I}{t:Bool}(j:c=.cond o x y)(k:E.val o=some (.bool t))(h:bD t (WP P n x Q E w) (WP P n y Q E w)):WP P n c Q E w:=λa d=>by
 subst j;refine wpIn_cond_split (d.val k) (λe=>?_) (λe=>?_)
 .subst e;exact h a d
 .subst e;exact h a d
def iM(v:Option V)(A d:Prop):Prop:=match v with |some (.bool t)=>bD t A d|_=>False
def WP.iM{c x y:Code}{o:Operand}{Q:Exit->Act->I->Prop}{E:Env}{w:I}{A e:Prop}(k:c=.cond o x y)(h:A->WP P n x Q E w)(j:e->WP P n y Q E w)(d:iM (E.val o) A e):WP P n c Q E w:=by
 unfold W.iM at d;split at d
 .rename_i t q;refine WP.cond k q ?_;cases t
  .exact j d
  .exact h d
 grind
def WP.block{c x:Code}{id:Nat}{Q:Exit->Act->I->Prop}{E:Env}{w:I}(h:c=.block id x)(d:WP P n x (Exit.inBlock id Q) E w):WP P n c Q E w:=λa e=>by subst h;exact wpIn_block (d a e)
def WP.skip{c:Code}{Q:Exit->Act->I->Prop}{E:Env}{w:I}(h:c=.skip)(d:∀a,Ag n a E->Q .normal a w):WP P n c Q E w:=λa e=>by subst h;exact wpIn_skip (d a e)
def WP.exit{c:Code}{id:Nat}{Q:Exit->Act->I->Prop}{E:Env}{w:I}(h:c=.exit id)(d:∀a,Ag n a E->Q (.exit id) a w):WP P n c Q E w:=λa e=>by subst h;exact wpIn_exit (d a e)
def WP.ret{c:Code}{Q:Exit->Act->I->Prop}{E:Env}{w:I}(h:c=.ret)(d:∀a,Ag n a E->Q .ret a w):WP P n c Q E w:=λa e=>by subst h;exact wpIn_ret (d a e)
def qL(P:au)(n:Cx)(c:Code)(Q:Exit->Act->I->Prop)(a:Act)(w:I):Prop:=
 ∀(b:Frame) (k:List Item) (cs:List Frame),b.roundOf=n.ro->∃e d h,Q e d h/\ArrivesIn (Machine.fenced P (FW n)) P (lone (b.atR a (.code c::.inLoop c::k)) cs w) b k cs e d h
def acK(n:Cx)(m:Nat):(FW n).room m:=room_wide m
def U'{c:Code}{Q:Exit->Act->I->Prop}{a:Act}{w:I}(j:qL P n c Q a w):g5 P n (Code.loop c) Q a w:=λb A e z q y=>by obtain⟨h,d,B,x,k⟩:=j b A e z;exact⟨h,d,B,x,.of_steps (.one (fenced_calm q y rfl) stepR_loop) k⟩
def MZ{c:Code}{Q:Exit->Act->I->Prop}{a:Act}{w:I}(A:g5 P n c (Exit.then (qL P n c Q) Q) a w):qL P n c Q a w:=by
 intro b z h y;have k:(FW n).fn b.fn:=trivial;have q:(FW n).room (h.length+1+0):=acK n _;obtain⟨j,a₁,w₁,e,d⟩:=A b (.inLoop c::z) h y k q;cases j with
 |normal=>
  obtain⟨j₂,a₂,w₂,e₂,d₂⟩:=e b z h y;exact⟨j₂,a₂,w₂,e₂,.of_steps (StepsIn.trans d (.one (fenced_calm k q rfl) stepR_inLoop)) d₂⟩
 |exit id=>exact⟨_,a₁,w₁,e,.pass (x:=.inLoop c) rfl (λ_ _=>.inl gs) d⟩
 |goto l=>exact⟨_,a₁,w₁,e,.pass (x:=.inLoop c) rfl (λ_ _=>.inl gs) d⟩
 |ret=>exact⟨_,a₁,w₁,e,.pass (x:=.inLoop c) rfl (λ_ _=>.inl gs) d⟩
 |panic B=>exact⟨_,a₁,w₁,e,.pass (x:=.inLoop c) rfl (λ_ _=>.inl gs) d⟩
 |outgrown=>exact⟨_,a₁,w₁,e,.pass (x:=.inLoop c) rfl (λ_ _=>.inl gs) d⟩
def LP(P:au)(n:Cx)(c:Code)(Q:Exit->Act->I->Prop)(E:Env)(w:I):Prop:=∀a,Ag n a E->qL P n c Q a w
def WP.loop{c x:Code}{Q:Exit->Act->I->Prop}{E:Env}{w:I}(h:c=.loop x)(d:LP P n x Q E w):WP P n c Q E w:=λa e=>by subst h;exact U' (d a e)
def LP.step{c:Code}{Q:Exit->Act->I->Prop}{E:Env}{w:I}(d:WP P n c (Exit.then (qL P n c Q) Q) E w):LP P n c Q E w:=λa e=>MZ (d a e)
def GB:List V->V
 |[v]=>v
 |d=>.tuple d.toArray
def tl(P:au)(E:Env)(w:I):List ResultVar->(List V->Prop)->Prop
 |[],d=>d []
 |.tmp t::l,d=>match E.get? t with
  |some v=>tl P E w l λe=>d (v::e)
  |none=>False
 |.cell j h::l,d=>match E.get? j with
  |some (.pointer (some p))=>oO P h p w λv _=>tl P E w l λe=>d (v::e)
  |_=>False
def lW(P:au)(fn:Func)(E:Env)(w:I)(K:V->Prop):Prop:=tl P E w fn.results.toList λd=>K (GB d)
def qp(tmps:Array V):ResultVar->Sem V
 |.tmp t=>pure (tmps.getD t undef)
 |.cell a t=>do loadVar t (<-asAddr (tmps.getD a undef))
def G'(fn:Func)(tmps:Array V):results fn tmps=(do let d <-fn.results.mapM (qp tmps);pure (if e:d.size=1 then d[0]else .tuple d)):=by unfold results;congr 1
def Ha{a:Act}{E:Env}(h:Ag n a E)(w:I):∀{l:List ResultVar} {K:List V->Prop},tl P E w l K->
  ∃e,(l.mapM (qp a.tmps)).run P w=.ok e w/\K e
 |[],K,d=>⟨[],gs,d⟩
 |.tmp t::l,K,d=>by
  unfold tl at d;split at d
  .rename_i v A;obtain⟨e,q,k⟩:=Ha h w d;refine⟨v::e,?_,k⟩;have j:=h.get t v A;simp[List.mapM_cons,qp,q,j]
  grind
 |.cell B D::l,K,d=>by
  unfold tl at d;split at d
  .rename_i p x;obtain⟨v,C,d,y,z⟩:=E7 d;obtain⟨e,q,k⟩:=Ha h w d;refine⟨v::e,?_,k⟩;have j:=h.get B _ x;simp[List.mapM_cons,qp,q,j,asAddr,z w y]
  grind
def Hc{fn:Func}{a:Act}{E:Env}{w:I}{R:cW->I->Prop}(h:Ag n a E)(e:lW P fn E w λv=>R (ad v) w):
  ∃v,(results fn a.tmps).run P w=.ok v w/\R (ad v) w:=by
 obtain⟨d,k,j⟩:=Ha h w e;refine⟨_,?_,j⟩;rw[G',<-Array.toArray_toList (xs:=fn.results),List.mapM_toArray];simp only[Sem.run_bind,Sem.run_map,k,Result.andThen_ok,Sem.run_pure];congr 1;cases d with
 |nil=>rfl
 |cons v d=>cases d<;>rfl
def yv{m:Nat}{fn:Func}{a:Act}{E:Env}{w:I}{R:cW->I->Prop}(d:Ag (cx m) a E)(e:lW P fn E w λv=>R (ad v) w):
  a.defers=[]/\∃v,(results fn a.tmps).run P w=.ok v w/\R (ad v) w:=⟨d.defers,Hc d e⟩
def Xw{f:b3}{fn:Func}{c:Code}{args:Array V}{w:I}{R:cW->I->Prop}{E:Env}(h:P.funcs[f]? =some fn)(e:fn.body=some c)(k:args.size<=fn.ntmps)(j:∀t v,E.get? t=some v->args[t]? =some v)(d:WP P (cx fn.ntmps) c (bodyPost P fn R) E w):ai P f args w R:=by
 refine calls_of_wp h e (wpIn_wide.1 (d _ ⟨rfl,by grind,?_⟩))
 grind
def kS:Nat->List V->Env
 |_,[]=>[]
 |i,v::l=>(i,v)::kS (i+1) l
def Ed:∀(l:List V) (i t:Nat) (v:V),(kS i l).get? t=some v->i<=t/\l[t - i]? =some v
 |[],_,_,_,d=>by simp[kS,Env.get?]at d
 |u::l,i,t,v,d=>by
  simp only[kS,Env.get?]at d;by_cases e:i=t
  .subst e;simp at d;grind
  .have h:bI i t=false:=by rw[<-iF,eJ];exact e
   simp only[h,cond_false]at d;obtain⟨j,k⟩:=Ed l (i+1) t v d
   grind
def wW{f:b3}{fn:Func}{c:Code}{args:List V}{w:I}{R:cW->I->Prop}(h:P.funcs[f]? =some fn)(e:fn.body=some c)(j:Nat.ble args.length fn.ntmps=true)(d:WP P (cx fn.ntmps) c (bodyPost P fn R) (kS 0 args) w):ai P f args.toArray w R:=
 Xw h e (by simpa using Nat.le_of_ble_eq_true j) (λt v k=>by
  have:=(Ed args 0 t v k).2
  grind) d
def adi{t:Bool}{A e d h:Prop}(k:A->d)(q:e->h)(j:bD t A e):bD t d h:=by
 cases t
 .exact q j
 .exact k j
def asInt(k:ij)(v:Option V)(K:Int->Prop):Prop:=match v with |some (.int d n)=>cM (d==k) (K n)|_=>False
def nP{k:ij}{v:Option V}{K:Int->Prop}(d:asInt k v K):∃n,v=some (.int k n)/\K n:=by
 unfold asInt at d;split at d
 .obtain ⟨e,h⟩:=dN d
  grind
 grind
def qP(v:Option V)(K:ByteArray->Prop):Prop:=match v with |some (.string b)=>K b|_=>False
def uq{v:Option V}{K:ByteArray->Prop}(d:qP v K):∃b,v=some (.string b)/\K b:=by
 unfold qP at d
 grind
def asSlice(v:Option V)(K:Sl->Prop):Prop:=match v with |some (.slice a n c)=>K ⟨a,n,c⟩|_=>False
def b7(v:Option V)(K:Addr->Prop):Prop:=match v with |some (.pointer (some a))=>K a|_=>False
def cr{v:Option V}{K:Addr->Prop}(d:b7 v K):∃a,v=some (.pointer (some a))/\K a:=by
 unfold b7 at d
 grind
def asAgg(v:Option V)(K:List V->Prop):Prop:=match v with |some (.agg d)=>K d.toList|_=>False
def zy{v:Option V}{K:List V->Prop}(e:asAgg v K):∃d:List V,v=some (.agg d.toArray)/\K d:=by
 unfold asAgg at e;split at e
 .grind
 grind
def uo(f:b3)(v:Option V)(K:List V->List V->Prop):Prop:=match v with |some (.func (.func g) e d)=>cM (bI g f) (K e.toList d.toList)|_=>False
def IU{f:b3}{v:Option V}{K:List V->List V->Prop}(d:uo f v K):∃h e:List V,v=some (.func (.func f) h.toArray e.toArray)/\K h e:=by
 unfold uo at d;split at d
 .obtain ⟨j,k⟩:=dN d;rw[eJ]at j;subst j
  grind
 grind
def jF(l:List V)(K:V->List V->Prop):Prop:=match l with |v::r=>K v r|[]=>False
def lE{l:List V}{K:V->List V->Prop}(d:jF l K):∃v r,l=v::r/\K v r:=by
 cases l with
 |nil=>exact d.elim
 |cons v r=>exact⟨v,r,rfl,d⟩
def l9(l:List V)(K:Prop):Prop:=match l with |[]=>K|_=>False
def qO{l:List V}{K:Prop}(d:l9 l K):l=[]/\K:=by
 cases l with
 |nil=>exact⟨rfl,d⟩
 |cons v r=>exact d.elim
end
def r3(k:ij)(x y:Int):Int:=k.wrap ((jx k.bits x&&& jx k.bits y).toNat:Int)
def qQ(k:ij)(x y:Int):Int:=k.wrap ((jx k.bits x|||jx k.bits y).toNat:Int)
def wP(k:ij)(x y:Int):Int:=k.wrap ((jx k.bits x^^^jx k.bits y).toNat:Int)
def V4(k:ij)(x y:Int):Int:=k.wrap ((jx k.bits x&&& ~~~ jx k.bits y).toNat:Int)
inductive Tr where
 |nil
 |one (i:Nat) (t:Tr)
 |fork (a b:Tr)
def Tr.ka:Tr->List Nat
 |.nil=>[]
 |.one i _=>[i]
 |.fork a b=>a.ka++b.ka
def Tr.len:Tr->Nat
 |.nil=>0
 |.one _ t=>t.len+1
 |.fork a _=>a.len
def xB(P:au)(ops:Array Oper)(i:Nat)(E:Env)(w:I)(H:eC)(d:Env->I->eC->Prop):Prop:=
 match ops[i]? with
 |none=>False
 |some o=>match o.guard with
  |none=>qx P ops true i o E w H d
  |some (h,want)=>match kU ops h with
   |none=>False
   |some e=>match E.get? e with
    |some (.bool t)=>bD t (m5 P ops true i o e want true E w H d) (m5 P ops true i o e want false E w H d)
    |some (.tuple _)=>d (Env.put E o.dst undef) w (bif calm P o then H else c9 ops i H)
    |_=>False
def qB(P:au)(ops:Array Oper)(K:Env->I->Prop):Tr->Env->I->eC->Prop
 |.nil,d,e,_=>K d e
 |.one i t,d,e,h=>xB P ops i d e h λj q k=>qB P ops K t j q k
 |.fork a b,d,e,h=>qB P ops K a d e h/\qB P ops K b d e h
def iU(P:au)(ops:Array Oper):Tr->Bool->Array Bool->Bool
 |.nil,alt,d=>!alt&&(ec .any ops d).isEmpty
 |.one i t,alt,d=>(match ops[i]? with
   |some o=>bif alt then !calm P o else bif calm P o then Region.free .any ops d i&&(ec .any ops d).contains i else ec .any ops d==[i]
   |none=>false)&&iU P ops t false (d.setIfInBounds i true)
 |.fork a b,alt,d=>(alt||ec .any ops d==(Tr.fork a b).ka)&&(bI a.len b.len&&(iU P ops a true d&&iU P ops b true d))
section
variable {P:au} {ops:Array Oper} {n:Cx} {K:Env->I->Prop}
def TQ{i:Nat}{o:Oper}{a:Act}{E:Env}{w:I}{H:eC}{Kh:Env->I->eC->Prop}{B:Array Bool}{fuel:Nat}{Q:Exit->Act->I->Prop}(z:dD n ops=true)(k:ops[i]? =some o)(G:calm P o=false)(y:Ag n a E)(L:cv o (yielded ops a.tmps)=true)(h:qx P ops true i o E w H Kh)(next:∀e q d j,Ag n e q->(∀p∈j,p.2 d)->Kh q d j->ep P ops Q fuel j (B.setIfInBounds i true) e d):
  wpOp P ops Q i (λe d=>(∀p∈c9 ops i H,p.2 d)/\ep P ops Q fuel (c9 ops i H) (B.setIfInBounds i true) e d) a w:=by have J:=Region.noSelect_spec (ops:=ops) (by unfold dD at z;grind);unfold qx at h;rw[G]at h;simp only[cond_false,cond_true]at h;refine Ie k L (oD (λC b=>J i o C b k) y h) λv d K=>?_;obtain⟨D,F⟩:=uk K;have x:∀p∈c9 ops i H,p.2 d:=λp A=>D _ (EH (fI.1 A).1 (fI.1 A).2);exact⟨x,next _ _ _ _ (y.put v (hg z k)) x F⟩
def Hv{i:Nat}{o:Oper}{a:Act}{w:I}{H:eC}{d:Array Bool}{fuel:Nat}{Q:Exit->Act->I->Prop}(k:ops[i]? =some o)(j:∀p∈H,p.2 w)(x:cv o (yielded ops a.tmps)=false)(next:ep P ops Q fuel (c9 ops i H) (d.setIfInBounds i true) (a.put o.dst undef) w):
  wpOp P ops Q i (λh e=>(∀p∈c9 ops i H,p.2 e)/\ep P ops Q fuel (c9 ops i H) (d.setIfInBounds i true) h e) a w:=by unfold wpOp;simp only[k,x];exact⟨λp q=>j p (fI.1 q).1,next⟩
def Zi(x:dD n ops=true){i:Nat}{o:Oper}{E:Env}{w:I}{H:eC}{a:Act}{F:Env->I->eC->Prop}{A:Array Bool}{fuel:Nat}(e:ops[i]? =some o)(B:(bif calm P o then Region.free .any ops A i&&(ec .any ops A).contains i else ec .any ops A==[i])=true)(j:Ag n a E)(h:∀p∈H,p.2 w)(d:xB P ops i E w H F)(next:∀N M L D,Ag n N M->(∀p∈D,p.2 L)->F M L D->ep P ops (hW n K) fuel D (A.setIfInBounds i true) N L):ep P ops (hW n K) (fuel+1) H A a w:=by
 unfold xB at d;rw[e]at d;simp only at d;cases k:o.guard with
 |none=>
  rw[k]at d;simp only at d;exact BW x e B (λ_ _ _=>rfl) j h (by simp[cv,k]) d next
 |some T=>
  obtain⟨S,want⟩:=T;rw[k]at d;simp only at d;cases J:kU ops S with
  |none=>grind
  |some Q=>
   rw[J]at d;simp only at d;split at d
   .rename_i t z;have C:=tR j J z;have q:m5 P ops true i o Q want t E w H F:=by
     cases t
     .exact d
     .exact d
    unfold m5 at q;cases O:(t==want)with
    |true=>
     rw[O]at q;exact BW x e B (λ_ _ _=>rfl) (j.same z) h (by simp[cv,k,C];grind) q next
    |false=>
     rw[O]at q;simp only[cond_false]at q;refine BO x e B (λ_ _ _=>rfl) h (by simp[cv,k,C];grind) ?_;refine next _ _ _ _ ((j.same z).put undef (hg x e)) ?_ q
     intro p y;cases G:calm P o
     .rw [G]at y;exact h p (fI.1 y).1
     grind
   .rename_i W z;have C:=tS j J z;refine BO x e B (λ_ _ _=>rfl) h (by simp[cv,k,C]) ?_;refine next _ _ _ _ (j.put undef (hg x e)) ?_ d
    intro p y;cases G:calm P o
    .rw [G]at y;exact h p (fI.1 y).1
    grind
   grind
def Zk(A:dD n ops=true){i:Nat}{o:Oper}{E:Env}{w:I}{H:eC}{a:Act}{D:Env->I->eC->Prop}{N:Array Bool}{fuel:Nat}(e:ops[i]? =some o)(z:calm P o=false)(h:Ag n a E)(F:∀p∈H,p.2 w)(d:xB P ops i E w H D)(next:∀y J q C,Ag n y J->(∀p∈C,p.2 q)->D J q C->ep P ops (hW n K) fuel C (N.setIfInBounds i true) y q):
  wpOp P ops (hW n K) i (λy q=>(∀p∈c9 ops i H,p.2 q)/\ep P ops (hW n K) fuel (c9 ops i H) (N.setIfInBounds i true) y q) a w:=by
 unfold xB at d;rw[e]at d;simp only at d;have L:∀p∈c9 ops i H,p.2 w:=λp Q=>F p (fI.1 Q).1;cases j:o.guard with
 |none=>
  rw[j]at d;simp only at d;exact TQ A e z h (by simp[cv,j]) d next
 |some T=>
  obtain⟨S,want⟩:=T;rw[j]at d;simp only at d;cases G:kU ops S with
  |none=>grind
  |some O=>
   rw[G]at d;simp only at d;split at d
   .rename_i t x;have B:=tR h G x;have k:m5 P ops true i o O want t E w H D:=by
     cases t
     .exact d
     .exact d
    unfold m5 at k;cases M:(t==want)with
    |true=>
     rw[M]at k;exact TQ A e z (h.same x) (by simp[cv,j,B];grind) k next
    |false=>
     rw[M,z]at k;simp only[cond_false]at k;exact Hv e F (by simp[cv,j,B];grind) (next _ _ _ _ ((h.same x).put undef (hg A e)) L k)
   .rename_i W x;have B:=tS h G x;rw[z]at d;simp only[cond_false]at d;exact Hv e F (by simp[cv,j,B]) (next _ _ _ _ (h.put undef (hg A e)) L d)
   grind
def HX:∀(t:Tr) (e:Array Bool),iU P ops t true e=true->∃m,t.len=m+1
 |.nil,e,d=>by simp[iU]at d
 |.one i t,e,_=>⟨t.len,rfl⟩
 |.fork a b,e,d=>by unfold iU at d;simp only[bd]at d;exact HX a e d.2.2.1
def HW:∀(t:Tr) (e:Array Bool),iU P ops t true e=true->t.ka≠[]
 |.nil,e,d=>by simp[iU]at d
 |.one i t,e,_=>by simp[Tr.ka]
 |.fork a b,e,d=>by unfold iU at d;simp only[bd]at d;have:=HW a e d.2.2.1;simp[Tr.ka,this]
def yZ(D:dD n ops=true):∀(t:Tr) (alt:Bool) (e:Array Bool) (E:Env) (w:I) (H:eC) (a:Act) (m:Nat),iU P ops t alt e=true->Ag n a E->(∀p∈H,p.2 w)->qB P ops K t E w H->
  (alt=false->t.len=m->ep P ops (hW n K) m H e a w)/\
  (alt=true->t.len=m+1->∀i∈t.ka,wpOp P ops (hW n K) i (λx k=>(∀p∈c9 ops i H,p.2 k)/\ep P ops (hW n K) m (c9 ops i H) (e.setIfInBounds i true) x k) a w)
 |.nil,alt,e,E,w,H,a,m,d,y,C,h=>by
  unfold iU at d;rw[bd]at d;refine⟨λ_ j=>?_,λB=>?_⟩
  .subst j;exact λ_=>⟨by grind,E,y,h⟩
  grind
 |.one i t,alt,e,E,w,H,a,m,d,y,C,h=>by
  unfold iU at d;rw[bd]at d;obtain⟨d,Z⟩:=d;cases S:ops[i]? with
  |none=>grind
  |some o=>
   rw[S]at d;simp only at d;unfold qB at h;refine⟨λB j=>?_,λB j ab hj=>?_⟩
   .subst B j;exact Zi D S d y C h λx J k L M N O=>(yZ D t false _ J k L x _ Z M N O).1 rfl rfl
   .subst B;rw[cond_true]at d;obtain rfl:=cy.1 hj;have Q:t.len=m:=by simpa[Tr.len]using j
    exact Zk D S (by grind) y C h λx J k L M N O=>(yZ D t false _ J k L x _ Z M N O).1 rfl Q
 |.fork A G,alt,e,E,w,H,a,m,d,y,C,h=>by
  unfold iU at d;simp only[bd]at d;obtain⟨hr,W,T,hy⟩:=d;rw[eJ]at W;unfold qB at h;have both:∀q,A.len=q+1->∀i∈(Tr.fork A G).ka,wpOp P ops (hW n K) i (λx k=>(∀p∈c9 ops i H,p.2 k)/\ep P ops (hW n K) q (c9 ops i H) (e.setIfInBounds i true) x k) a w:=λq F i z=>by
   rcases aP.1 z with z|z
   .exact (yZ D A true e E w H a q T y C h.1).2 rfl F i z
   .exact (yZ D G true e E w H a q hy y C h.2).2 rfl (W▸F) i z
  refine⟨λB j=>?_,λ_ j=>both m j⟩;subst B;obtain⟨q,F⟩:=HX A e T;have Q:m=q+1:=by rw[<-j,<-F];rfl
  subst Q;have Y:ec .any ops e=(Tr.fork A G).ka:=by grind
  have aa:(Tr.fork A G).ka≠[]:=by have:=HW A e T;simp[Tr.ka,this]
  exact λ_=>⟨λh0=>absurd (Y▸h0) aa,λi z=>both q F i (Y▸z)⟩
def afh{c:Code}{id:Nat}{a:Act}{E:Env}{w:I}{t:Tr}(y:P.follows .mixedOrders=true)(q:c=.region id ops true)(e:dD n ops=true)(x:iU P ops t false (gq ops.size false)=true)(A:t.len=ops.size)(k:Ag n a E)(d:qB P ops K t E w.drew []):c.wpIn (FW n) 0 P (hW n K) a w:=by subst q;have h:=(yZ e t false _ E _ [] a _ x k (λp z=>(by cases z)) d).1 rfl A;have j:=y7 _ [] _ _ _ (Down.zero _ _) h;refine wpIn_region_draw λt=>?_;refine tP e (λ⟨_,_,d⟩=>d) _ _ _ ?_;simp only[Region.schedule,y,Bool.true_or,if_true];exact wpAny_sound ops.size t _ a _ j
def vO(P:au)(n:Nat)(c:Code)(t:Tr):Bool:=match c with
 |.region _ ops d=>d&&(P.follows .mixedOrders&&(dD n ops&&(iU P ops t false (gq ops.size false)&&bI t.len ops.size)))
 |_=>false
def WP.tree{c:Code}{Q:Exit->Act->I->Prop}{E:Env}{w:I}(t:Tr)(K:Env->I->Prop)(d:vO P n c t=true)(y:qB P (Code.ops c) K t E w.drew [])(F:∀e j h,Ag n h e->K e j->Q .normal h j):WP P n c Q E w:=by
 unfold vO at d;split at d
 .rename_i id ops D;simp only[bd]at d;obtain⟨rfl,z,A,B,k⟩:=d;rw[eJ]at k;exact λa C=>wpIn_mono (afh z rfl A B k C y) λx h j q=>by
   cases x with
   |normal=>obtain⟨e,hA,hK⟩:=q;grind
   |_=>exact q.elim
 grind
end
section
variable {P:au}
def lo(r:Loop)(st:LoopState)(d:Option Code):Obj:=.loop {r with state:=st,pending:=d}
structure CK(r:Loop)(m:Nat)(ps:Array Tmp)(assign body:Code)(E:Env):Prop where
 ps:r.params=ps
 assign:r.assign=assign
 body:r.body=body
 size:r.tmps.size=m
 get:∀t v,E.get? t=some v->r.tmps[t]? =some v
def qn:Env->List Nat->List V->Env
 |d,p::e,v::h=>qn ((p,v)::d) e h
 |d,_,_=>d
def RE{m l:Nat}:∀(ps:List Nat) (vs:List V) (E:Env) (tmps:Array V),tmps.size=m->(∀p∈ps,p<m)->(∀t v,E.get? t=some v->tmps[t]? =some v)->
  Ag ⟨m,[],some l⟩ {tmps:=(ps.zip vs).foldl (λt (p,v)=>t.setIfInBounds p v) tmps,defers:=[]} (qn E ps vs)
 |[],vs,E,tmps,h,_,e=>⟨rfl,by simpa using h,by cases vs<;>simpa[qn]using e⟩
 |p::ps,[],E,tmps,h,_,e=>⟨rfl,by simpa using h,by simpa[qn]using e⟩
 |p::ps,v::vs,E,tmps,h,j,e=>by simp only[List.zip_cons_cons,List.foldl_cons,qn];refine RE ps vs _ _ (by grind) (λq w=>j q (by grind)) ?_;have:=(Ag.put (n:=⟨m,[],some l⟩) (a:={tmps:=tmps,defers:=[]}) (E:=E) ⟨rfl,h,e⟩ (d:=some p) v (λt k=>by cases k;exact j p gs)).get;simpa[Env.put,Act.put]using this
def pd(P:au)(l:Nat)(args:Array V)(w:I)(K:Bool->I->Prop):Prop:=
 YieldAt Fence.wide 0 P l args w λd e=>∃b:Bool,d=ad (.bool b)/\K b e
def wE(P:au)(m l:Nat)(r:Loop)(body:Code)(Q:Exit->Act->I->Prop):Exit->Act->I->Prop:=
 Exit.then (λa₁ d₁=>d₁.heap[l]? =some (lo r .ready none)/\g5 P ⟨m,[],some l⟩ body Q a₁ (d₁.putObj l (lo r .busy none))) (λ_ _ _=>False)
def Vb{m l:Nat}{r:Loop}{ps:Array Tmp}{assign body:Code}{E:Env}{args:List V}{w:I}{R:cW->I->Prop}{K:Bool->I->Prop}(d:CK r m ps assign body E)(A:w.heap[l]? =some (lo r .ready none))(F:args.length=ps.size)(B:ps.toList.all (λp=>Nat.blt p m)=true)(y:∀e h,R e h->∃b:Bool,e=ad (.bool b)/\K b h)(k:WP P ⟨m,[],some l⟩ assign (wE P m l r body (roundPost P l R)) (qn E ps.toList args) w):pd P l args.toArray w K:=by
 have D:=run_yield (P:=P) (w:=w) (args:=args.toArray) A (by simp[d.ps,F]);refine⟨_,_,_,_,D,RoundIn.mono (roundIn_of_wpIn (R:=R) trivial ?_) y⟩;simp only[d.ps,d.assign,d.body];have z:Ag ⟨m,[],some l⟩ {tmps:=(ps.zip args.toArray).foldl (λt (p,v)=>t.setIfInBounds p v) r.tmps,defers:=[]} (qn E ps.toList args):=by have:=RE (m:=m) (l:=l) ps.toList args E r.tmps d.size (λp C=>by simpa using dS.1 B p C) d.get;rw[<-Array.foldl_toList];simpa using this
 refine wpIn_mono (k _ z) λe G h j=>?_;cases e with
 |normal=>
  obtain⟨q,x⟩:=j;exact⟨_,run_beginRound q rfl,x⟩
 |_=>exact j.elim
def Sx{l:Nat}{r:Loop}{a:Act}{w:I}{R:cW->I->Prop}(e:w.heap[l]? =some (lo r .busy none))(d:R (ad (.bool true)) (w.putObj l (lo r .ready none))):roundPost P l R .normal a w:=
 ⟨_,_,run_endRound none e,d⟩
def Sy{l:Nat}{r:Loop}{a:Act}{w:I}{R:cW->I->Prop}(e:w.heap[l]? =some (lo r .busy none))(d:R (ad (.bool false)) (w.putObj l (lo r .done (some .ret)))):roundPost P l R .ret a w:=
 ⟨_,_,run_endRound (some .ret) e,d⟩
abbrev marked(m D:Nat):Cx:=⟨m,[{target:=.collected D,args:=#[]}],none⟩
def rR(d:I)(l:Nat)(o:LoopState->Option Code->Obj)(N:I->Prop)(X:Nat->I->Prop)(T:I->Prop):Prop:=
 (d.heap[l]? =some (o .ready none)/\N (d.putObj l (o .exhausted none)))\/
 (∃id,d.heap[l]? =some (o .done (some (.exit id)))/\X id (d.putObj l (o .exhausted (some (.exit id)))))\/
 (d.heap[l]? =some (o .done (some .ret))/\T (d.putObj l (o .exhausted (some .ret))))
def WP.range{m:Nat}{c:Code}{g:Operand}{ps:Array Tmp}{assign body:Code}{gf:Nat}{lb:Array V}{Q:Exit->Act->I->Prop}{E:Env}{w:I}(N:I->Prop)(X:Nat->I->Prop)(T:I->Prop)(K:c=.rangeFunc g ps assign body)(S:E.val g=some (.func (.func gf) #[] lb))(L:hy P gf=true)(G:∀d,N d->∀a,Ag (marked m w.heap.size) a E->Q .normal a d)(J:∀id d,X id d->∀a,Ag (marked m w.heap.size) a E->Q (.exit id) a d)(H:∀d,T d->∀a,Ag (marked m w.heap.size) a E->Q .ret a d)(k:∀r:Loop,CK r m ps assign body E->ai P gf (#[.func (.yield (w.heap.size+1)) #[] #[]]++lb) ((w.alloc (.deferred (some []))).alloc (lo r .ready none)) λx z=>(∃v,x=ad v)/\rR z (w.heap.size+1) (lo r) N X T):
  WP P (cx m) c Q E w:=by
 subst K;intro a e;have q:Ag (marked m w.heap.size) {a with defers:=[{target:=.collected w.heap.size,args:=#[]}]++a.defers} E:=⟨by show _++a.defers=_;rw[e.defers];rfl,e.size,e.get⟩;have W:a.eval g=.func (.func gf) #[] lb:=e.val S;refine wpIn_rangeFunc (F:=FW (cx m)) (n:=0) λfn _=>?_;obtain⟨r,y⟩:∃r:Loop,r={state:=.ready,pending:=none,fn,tmps:=a.tmps,params:=ps,assign,body,defers:=w.heap.size}:=⟨_,rfl⟩;have Y:CK r m ps assign body E:=by subst y;exact⟨rfl,rfl,rfl,e.size,e.get⟩
 have M:=k r Y;have A:(Instr.enterLoop fn a.tmps ps assign body none).run P w=.ok (w.heap.size+1,[{target:=.collected w.heap.size,args:=#[]}]) ((w.alloc (.deferred (some []))).alloc (lo r .ready none)):=by rw[run_enterLoop_outer];subst y;rfl
 generalize Z:(w.alloc (.deferred (some []))).alloc (lo r .ready none)=W1 at *;have B:(resolve a.eval (rangeCall g (w.heap.size+1)) 0).run P W1=.ok {target:=.fn (.func gf) lb,args:=#[.func (.yield (w.heap.size+1)) #[] #[]]} W1:=by simp only[resolve,W];simp[go_sem]
 have C:(invoke (.fn (.func gf) lb) #[.func (.yield (w.heap.size+1)) #[] #[]]).run P W1=.ok (.enter gf (#[.func (.yield (w.heap.size+1)) #[] #[]]++lb)) W1:=by simp[invoke,go_sem,uy L]
 have D:CallsIn (FW (cx m)) 0 P gf (#[.func (.yield (w.heap.size+1)) #[] #[]]++lb) W1 (rangePost (FW (cx m)) 0 P (w.heap.size+1) Q {a with defers:=[{target:=.collected w.heap.size,args:=#[]}]++a.defers}):=by
  refine J0 (n:=cx m) (M.mono ?_);rintro x z ⟨⟨v,rfl⟩,O⟩;rcases O with⟨h,j⟩|⟨id,h,j⟩|⟨h,j⟩
  .exact ⟨_,_,run_endLoop (r:={r with state:=.ready,pending:=none}) h gs,G _ j _ q⟩
  .exact ⟨_,_,run_endLoop (r:={r with state:=.done,pending:=some (.exit id)}) h gs,wpIn_exit (J id _ j _ q)⟩
  .exact ⟨_,_,run_endLoop (r:={r with state:=.done,pending:=some .ret}) h gs,wpIn_ret (H _ j _ q)⟩
 exact⟨_,_,_,_,_,_,_,_,A,B,λ_ _=>trivial,C,λk=>(by cases k),D⟩
def Bu(P:au)(fn:Func)(E:Env)(w:I)(D:Nat)(R:aC):Prop:=
 w.heap[D]? =some (.deferred (some []))/\lW P fn E (w.putObj D (.deferred none)) λv=>R (ad v) (w.putObj D (.deferred none))
def MF{fn:Func}{tmps:Array V}{R:cW->I->Prop}{w:I}{v:V}(d:(results fn tmps).run P w=.ok v w)(e:R (ad v) w):LeavesInM Fence.wide 0 P fn tmps R [] .returning w:=by
 show LeavesIn _ _ _ _ _ _ _ _ _;simp only[LeavesIn]
 grind
def Sw{m:Nat}{fn:Func}{a:Act}{E:Env}{w:I}{R:aC}(d:Ag (cx m) a E)(e:lW P fn E w λv=>R (ad v) w):LeavesInM Fence.wide 0 P fn a.tmps R a.defers .returning w:=by obtain⟨v,h,j⟩:=Hc d e;rw[d.defers];exact MF h j
def yw{m D:Nat}{fn:Func}{a:Act}{E:Env}{w:I}{R:aC}(e:Ag (marked m D) a E)(d:Bu P fn E w D R):LeavesInM Fence.wide 0 P fn a.tmps R a.defers .returning w:=by obtain⟨h,d⟩:=d;obtain⟨v,j,k⟩:=Hc (n:=marked m D) e d;rw[e.defers];exact⟨gs,.inl ⟨D,_,rfl,run_takeDeferred h,MF j k⟩⟩
def J1{f:b3}{fn:Func}{c:Code}{args:List V}{w:I}{R:cW->I->Prop}(h:P.funcs[f]? =some fn)(e:fn.body=some c)(j:Nat.ble args.length fn.ntmps=true)(d:WP P (cx fn.ntmps) c (bodyPostM Fence.wide 0 P fn R) (kS 0 args) w):ai P f args.toArray w R:=by
 have q:=Nat.le_of_ble_eq_true j;refine callsIn_wide.1 (callsIn_of_wp_marks (n:=0) h e trivial (d _ ⟨rfl,by grind,?_⟩));intro t v k;have:=(Ed args 0 t v k).2
 grind
def zA(v:Option V)(K:Nat->Prop):Prop:=match v with |some (.func (.yield l) e d)=>cM (bI e.size 0&&bI d.size 0) (K l)|_=>False
def IW{v:Option V}{K:Nat->Prop}(d:zA v K):∃l,v=some (.func (.yield l) #[] #[])/\K l:=by
 unfold zA at d;split at d
 .rename_i l j h;obtain⟨e,k⟩:=dN d;simp only[bd,eJ]at e
  grind
 grind
end
abbrev _root_.Go.Code.sn(c:Code):Code:=Code.snd c
abbrev _root_.Go.Code.fs(c:Code):Code:=Code.fst c
abbrev _root_.Go.Value.i(x:Int):V:=.int .i64 x
abbrev _root_.Go.Value.u(x:Int):V:=.int .u64 x
abbrev _root_.Go.Value.s0:V:=.string (a' #[])
abbrev nb(w:I):Addr:=⟨w.heap.size,0,none⟩
section
variable {P:au} {n:Cx} {Q:Exit->Act->I->Prop} {E:Env} {w:I} {K:Env->I->Prop}
def Bv(P:au)(c:Code)(K:Env->I->Prop)(E:Env)(w:I):Prop:=hj P (Code.ops c) false K (List.range (Code.ops c).size) E w []
def X7(P:au)(c:Code)(l:List Nat)(K:Env->I->Prop)(E:Env)(w:I):Prop:=hj P (Code.ops c) true K l E w.drew []
def tgK(P:au)(c:Code)(t:Tr)(K:Env->I->Prop)(E:Env)(w:I):Prop:=qB P (Code.ops c) K t E w.drew []
abbrev eV(P:au)(c:Code)(K:Env->I->Prop)(E:Env)(w:I):Prop:=Bv P (Code.fst c) K E w
abbrev sdK(P:au)(c:Code)(l:List Nat)(K:Env->I->Prop)(E:Env)(w:I):Prop:=X7 P (Code.fst c) l K E w
abbrev stK(P:au)(c:Code)(t:Tr)(K:Env->I->Prop)(E:Env)(w:I):Prop:=tgK P (Code.fst c) t K E w
def u7:Code->Bool
 |.seq _ _=>true
 |_=>false
def yD{c:Code}(d:u7 c=true):c=.seq (Code.fst c) (Code.snd c):=by cases c<;>first |rfl|cases d
def qN{a b:Bool}(d:(a&&b)=true):a=true/\b=true:=by grind
def rg(c:Code)(k:ti n c=true)(j:Bv P c K E w)(q:∀d h e,Ag n e d->K d h->Q .normal e h):WP P n c Q E w:=WP.mE K k j q
def sr(c:Code)(k:eV P c K E w)(y:∀d e,K d e->WP P n (Code.snd c) Q d e)(h:(u7 c&&ti n (Code.fst c))=true:=by kernel_rfl):WP P n c Q E w:=
 WP.seq (yD (qN h).1) (WP.mE K (qN h).2 k λd e j q x=>y d e x j q)
def sd(c:Code){l:List Nat}(h:(u7 c&&GZ P n (Code.fst c) l)=true)(k:sdK P c l K E w)(y:∀d e,K d e->WP P n (Code.snd c) Q d e):WP P n c Q E w:=
 WP.seq (yD (qN h).1) (WP.draw l K (qN h).2 k λd e j q x=>y d e x j q)
def st(c:Code){t:Tr}(h:(u7 c&&vO P n (Code.fst c) t)=true)(k:stK P c t K E w)(y:∀d e,K d e->WP P n (Code.snd c) Q d e):WP P n c Q E w:=
 WP.seq (yD (qN h).1) (WP.tree t K (qN h).2 k λd e j q x=>y d e x j q)
def sq(c:Code)(d:WP P n (Code.fst c) (Exit.then (g5 P n (Code.snd c) Q) Q) E w)(e:u7 c=true:=by kernel_rfl):WP P n c Q E w:=WP.seq (yD e) d
def bk(c:Code)(id:Nat)(e:c=.block id (Code.fst c))(d:WP P n (Code.fst c) (Exit.inBlock id Q) E w):WP P n c Q E w:=WP.block e d
def cn(c:Code){o:Operand}{A d:Prop}(e:iM (E.val o) A d)(h:A->WP P n (Code.fst c) Q E w)(j:d->WP P n (Code.snd c) Q E w)(k:c=.cond o (Code.fst c) (Code.snd c):=by kernel_rfl):WP P n c Q E w:=WP.iM k h j e
def sk(c:Code)(d:∀a,Ag n a E->Q .normal a w)(e:c=.skip:=by kernel_rfl):WP P n c Q E w:=WP.skip e d
def xt(c:Code)(id:Nat)(e:c=.exit id)(d:∀a,Ag n a E->Q (.exit id) a w):WP P n c Q E w:=WP.exit e d
def rt(c:Code)(d:∀a,Ag n a E->Q .ret a w)(e:c=.ret:=by kernel_rfl):WP P n c Q E w:=WP.ret e d
def lp(c:Code)(e:c=.loop (Code.fst c))(d:LP P n (Code.fst c) Q E w):WP P n c Q E w:=WP.loop e d
def nx{c:Code}{a:Act}(e:Ag n a E)(d:WP P n c Q E w):Exit.then (g5 P n c Q) Q .normal a w:=d a e
end
open Go.RowKit
structure Fr(M:Nat->Prop)(w w':I):Prop where
 os:w'.os=w.os
 tape:w'.tape=w.tape
 output:w'.output=w.output
 size:w.heap.size<=w'.heap.size
 cw:∀b,b<w.heap.size->¬M b->w'.heap[b]? =w.heap[b]?
def Fr.refl(M:Nat->Prop)(w:I):Fr M w w:=⟨rfl,rfl,rfl,bw _,λ_ _ _=>rfl⟩
def Fr.trans{M j:Nat->Prop}{a b c:I}(e:Fr M a b)(k:Fr j b c)(x:∀d,d<a.heap.size->j d->M d):Fr M a c:=
 ⟨k.os.trans e.os,k.tape.trans e.tape,k.output.trans e.output,bB e.size k.size,
  λd h q=>(k.cw d (pe h e.size) (λw=>q (x d h w))).trans (e.cw d h q)⟩
def Fr.mono{M h:Nat->Prop}{a b:I}(e:Fr M a b)(q:∀d,d<a.heap.size->M d->h d):Fr h a b:=
 ⟨e.os,e.tape,e.output,e.size,λd j w=>e.cw d j (λk=>w (q d j k))⟩
def Fr.drew(M:Nat->Prop)(w:I):Fr M w w.drew:=⟨rfl,rfl,rfl,bw _,λ_ _ _=>rfl⟩
def Fr.alloc(M:Nat->Prop)(w:I)(o:Obj):Fr M w (w.alloc o):=⟨rfl,rfl,rfl,gs,λe d _=>_root_.Go.heap_alloc_old w o e d⟩
def Fr.set{M:Nat->Prop}(w:I)(p:Addr)(v:V)(e:M p.block):Fr M w (w.setCell p v):=
 ⟨rfl,rfl,rfl,by simp[World.setCell],λj _ h=>Below.heap_setCell w p v j (λd=>h (d▸e))⟩
def Fr.grown{M:Nat->Prop}{w w':I}{r:Option Nat}(d:w.grownBy w' r)(j:∀b,r=some b->M b):Fr M w w':=
 ⟨d.os,d.tape,d.output,d.size,λb h k=>d.block b h (λe=>k (j b e.symm))⟩
def Fr.setObj{M:Nat->Prop}(w:I)(r:Nat)(o:Obj)(d:M r):Fr M w {w with heap:=w.heap.setIfInBounds r o}:=
 ⟨rfl,rfl,rfl,gs,λh _ e=>by grind⟩
def Fr.below{w w':I}(d:Fr (λ_=>False) w w'):Below w.heap.size w w':=⟨d.os,d.tape,d.output,d.size,λj h=>d.cw j h (λe=>e)⟩
def Fr.at{M:Nat->Prop}{w w':I}(e:Fr M w w'){b:Nat}{o:Obj}(d:w.heap[b]? =some o)(h:¬M b):w'.heap[b]? =some o:=
 (e.cw b (Array.getElem?_eq_some_iff.1 d).1 h).trans d
def qb{w:I}{b:Nat}{o:Obj}(d:w.heap[b]? =some o):b<w.heap.size:=(Array.getElem?_eq_some_iff.1 d).1
def m6(w:I)(o:Obj):(w.alloc o).heap[w.heap.size]? =some o:=_root_.Go.heap_alloc_new w o
def size_alloc(w:I)(o:Obj):(w.alloc o).heap.size=w.heap.size+1:=gs
def cellAt{w:I}{p:Addr}{cs:Array V}{T:aE}{f:Nat×Nat}{i:Nat}{v:V}(d:w.heap[p.block]? =some (.cells cs T f))(h:p.spot=none)(hi:cs[p.off+i]? =some v):
  w.cell? (p.add i)=some v:=by
 unfold Addr.add;split
 .rename_i e;subst e;simp[World.cell?,d,h];omega
 .simp [World.cell?,d,hi]
def frozenAt{w:I}{p:Addr}{cs:Array V}{T:aE}{i:Nat}(d:w.heap[p.block]? =some (.cells cs T (0,0))):w.frozen? (p.add i)=false:=by unfold Addr.add;split<;>simp[World.frozen?,d]
def setAt{w:I}{p:Addr}{cs:Array V}{T:aE}{f:Nat×Nat}{i:Nat}{v:V}(d:w.heap[p.block]? =some (.cells cs T f))(k:p.spot=none):
  (w.setCell (p.add i) v).heap[p.block]? =some (.cells (cs.setIfInBounds (p.off+i) v) T f):=by
 have e:(p.add i).block=p.block:=by unfold Addr.add;grind
 have j:(p.add i).spot=none:=by unfold Addr.add;grind
 have h:(p.add i).off=p.off+i:=by unfold Addr.add;grind
 simp[World.setCell,e,d,j,h,Array.getElem?_modify]
def kG(p:Addr)(i:Nat):(p.add i).block=p.block:=by unfold Addr.add;grind
def aG(s:Sl):List Nat:=match s.a with |some p=>[p.block]|none=>[]
def Row(w:I)(T:aE)(s:Sl)(vs:List V):Prop:=
 (s.a=none/\s.n=0/\s.c=0/\vs=[])\/∃b o d f,s.a=some ⟨b,o,none⟩/\w.heap[b]? =some (.cells d T f)/\∀i v,vs[i]? =some v->d[o+i]? =some v
def Row.lt{w:I}{T:aE}{s:Sl}{vs:List V}(e:Row w T s vs):∀b∈aG s,b<w.heap.size:=by
 rcases e with⟨d,_⟩|⟨b,o,h,f,d,j,k⟩
 .simp [aG,d]
 .simp [aG,d];grind
def Row.cell{w:I}{T:aE}{s:Sl}{vs:List V}{i:Nat}{v:V}(d:Row w T s vs)(hi:vs[i]? =some v):∃p,s.a=some p/\w.cell? (p.add i)=some v:=by
 rcases d with⟨_,_,_,rfl⟩|⟨b,o,k,f,e,h,j⟩
 .cases hi
 .exact ⟨_,e,cellAt (p:=⟨b,o,none⟩) h rfl (j i v hi)⟩
def aK(w:I)(e:aE)(sz:Nat)(s:Sl)(xs:List V):Prop:=w.ownsRow 0 e sz s.v s.n xs
def aK.nil(w:I)(e:aE)(sz:Nat):aK w e sz ⟨none,0,0⟩ []:=World.ownsRow_nil w 0 e sz
def aK.len{w:I}{e:aE}{sz:Nat}{s:Sl}{xs:List V}(d:aK w e sz s xs):xs.length=s.n *sz:=d.1
def aK.cases{w:I}{e:aE}{sz:Nat}{s:Sl}{xs:List V}(d:aK w e sz s xs):
  (s=⟨none,0,0⟩/\xs=[])\/∃g cur,s.a=some ⟨g,0,none⟩/\w.heap[g]? =some (.cells cur e (0,0))/\s.n<=s.c/\s.c<=maxLen/\cur.size=s.c *sz/\cur.toList.take (s.n *sz)=xs:=by
 obtain⟨a,n,c⟩:=s;obtain⟨z,d⟩:=d;rcases d with⟨h,j⟩|⟨g,cap,cur,h,_,j,k,q,x,y⟩
 .cases h
  grind
 grind
def aK.row{w:I}{e:aE}{sz:Nat}{s:Sl}{xs:List V}(d:aK w e sz s xs):Row w e s xs:=by
 rcases d.cases with⟨rfl,rfl⟩|⟨g,cur,h,j,_,_,_,q⟩
 .exact .inl ⟨rfl,rfl,rfl,rfl⟩
 .refine .inr ⟨g,0,cur,(0,0),h,j,λi v k=>?_⟩
  grind
def aK.cw{w w':I}{e:aE}{sz:Nat}{s:Sl}{xs:List V}(d:aK w e sz s xs)(x:∀b∈aG s,b<w.heap.size->w'.heap[b]? =w.heap[b]?):aK w' e sz s xs:=by
 obtain⟨y,d⟩:=d;refine⟨y,?_⟩;rcases d with d|⟨g,cap,cur,h,k,j,r⟩
 .grind
 .have q:s.a=some ⟨g,0,none⟩:=(Value.slice.inj h).1;exact .inr ⟨g,cap,cur,h,k,(x g (by simp[aG,q]) (qb j)).trans j,r⟩
def aK.fr{M:Nat->Prop}{w w':I}{e:aE}{sz:Nat}{s:Sl}{xs:List V}(d:aK w e sz s xs)(j:Fr M w w')(q:∀b∈aG s,¬M b):aK w' e sz s xs:=
 d.cw λb h k=>j.cw b k (q b h)
def aK.lt{w:I}{e:aE}{sz:Nat}{s:Sl}{xs:List V}(d:aK w e sz s xs):∀b∈aG s,b<w.heap.size:=d.row.lt
def aK.made(w:I)(e:aE)(sz n:Nat)(cs:List V)(d:cs.length=n *sz)(h:n<=maxLen):aK (w.alloc (.cells cs.toArray e)) e sz ⟨some ⟨w.heap.size,0,none⟩,n,n⟩ cs:=
 ⟨d,.inr ⟨w.heap.size,n,cs.toArray,rfl,dc _,m6 w _,bw _,h,io,by grind⟩⟩
def Row.made(w:I)(e:aE)(n c:Nat)(cs:List V):Row (w.alloc (.cells cs.toArray e)) e ⟨some ⟨w.heap.size,0,none⟩,n,c⟩ cs:=
 .inr ⟨w.heap.size,0,cs.toArray,(0,0),rfl,m6 w _,λi v d=>by grind⟩
def QQ(s:Sl):s.v.ownBlock=s.a.map (·.block):=by obtain⟨a,n,c⟩:=s;cases a<;>rfl
structure fO(P:au)(t e:aE)(z:V)(sz bytes:Nat):Prop where
 ht:P.underlying t=some (.slice e)
 hi:(P.info? e).map (λi=>(i.zero,i.size,i.bytes))=some (some z,sz,bytes)
 hz:z.cells.size=sz
 hs:0<sz
 hb:0<bytes
def Row.tL{w:I}{T:aE}{s:Sl}{vs:List V}(j:Row w T s vs):∀b∈aG s,∃e f,w.heap[b]? =some (.cells e T f):=by
 rcases j with⟨d,_⟩|⟨b,o,e,f,d,q,y⟩
 .simp [aG,d]
 .intro h k;have x:h=b:=by simpa[aG,d]using k
  grind
def ud(kd:ij)(es:Array MapEntry)(ms:List (Int×V)):Prop:=es.toList.map (λd=>(d.key,d.val))=ms.map λp=>(Value.int kd p.1,p.2)
def mw(ms:List (Int×V))(k:Int):Option V:=(ms.find? λp=>p.1==k).map (·.2)
def Es{kd:ij}{k:Int}:∀{es:List MapEntry} {ms:List (Int×V)} {i:Nat},es.map (λe=>(e.key,e.val))=ms.map (λp=>(Value.int kd p.1,p.2))->
  Instr.findNow (.int kd) (.int kd k) es i=some ((ms.findIdx? λp=>p.1==k).bind λh=>(ms[h]?).map λp=>(i+h,p.2))
 |[],[],i,_=>rfl
 |[],_::_,_,d=>by grind
 |_::_,[],_,d=>by grind
 |e::es,p::ms,i,d=>by
  simp only[List.map_cons,List.cons.injEq,Prod.mk.injEq]at d;obtain⟨⟨w,z⟩,x⟩:=d;have y:=Es (kd:=kd) (k:=k) (i:=i+1) x;unfold Instr.findNow;simp only[w,Instr.sameNow,if_true];by_cases B:p.1=k
  .grind
  .have j:(k==p.1)=false:=by grind
   have q:(p.1==k)=false:=by grind
   simp only[j,y,List.findIdx?_cons,q,Bool.false_eq_true,if_false];congr 1;cases A:ms.findIdx? (λp=>p.1==k)with
   |none=>simp
   |some h=>grind
def Ni{ms:List (Int×V)}{k:Int}{i:Nat}:(((ms.findIdx? λp=>p.1==k).bind λd=>(ms[d]?).map λp=>(i+d,p.2)).map (·.2))=mw ms k:=by
 unfold mw;induction ms generalizing i with
 |nil=>rfl
 |cons p ms h=>
  by_cases q:p.1=k
  .grind
  .have e:(p.1==k)=false:=by grind
   simp only[List.findIdx?_cons,e,Bool.false_eq_true,if_false,List.find?_cons];rw[<-h (i:=i+1)];cases j:ms.findIdx? (λp=>p.1==k)with
   |none=>simp
   |some d=>grind
structure CH(P:au)(T kt et:aE)(kd:ij)(z:V):Prop where
 hT:P.underlying T=some (.map kt et)
 hk:P.underlying kt=some (.int kd)
 hz:(P.info? et).map (·.zero)=some (some z)
def J3{P:au}{d:aE}{kd:ij}(e:P.underlying d=some (.int kd))(b:Bool)(k:Int)(w:I):(Instr.checkKey b 10000 d (.int kd k)).run P w=.ok () w:=by unfold Instr.checkKey;simp[run_underlying e]
def Cq{P:au}{d:aE}{z:V}(h:(P.info? d).map (·.zero)=some (some z))(w:I):(zeroValue d).run P w=.ok z w:=by obtain⟨i,e,j⟩:=Option.map_eq_some_iff.1 h;simp[zeroValue,typeInfo,e,j]
def aaG{P:au}{T G B:aE}{kd:ij}{z:V}(j:CH P T G B kd z){w:I}{d:Nat}{es:Array MapEntry}{clock:Nat}{ms:List (Int×V)}(h:w.heap[d]? =some (.map es clock))(y:ud kd es ms)(k:Int)(v:V)(E:mw ms k=none):
  ∃e q,(Instr.mapUpdate T (.map (some d)) (.int kd k) v).run P w=.ok () e/\e.heap[d]? =some (.map q (clock+1))/\ud kd q (ms++[(k,v)])/\Fr (λb=>b=d) w e/\e.heap.size=w.heap.size:=by
 have C:=Es (k:=k) (i:=0) y;have D:(getObj d).run P w=.ok (.map es clock) w:=by simp[getObj,Sem.run,h]
 have x:=Ni (ms:=ms) (k:=k) (i:=0);have H:=qb h;have F:((ms.findIdx? λp=>p.1==k).bind λA=>(ms[A]?).map λp=>(0+A,p.2))=none:=by rw[E]at x;simpa using x
 refine⟨{w with heap:=w.heap.setIfInBounds d (.map (es.push {key:=.int kd k,val:=v,born:=clock}) (clock+1))},es.push {key:=.int kd k,val:=v,born:=clock},?_,by grind,?_,Fr.setObj w d _ rfl,gs⟩
 .unfold Instr.mapUpdate Instr.findKey;simp only[Sem.run_bind,run_underlying j.hT,Result.andThen_ok,D,J3 j.hk,run_underlying j.hk,C,F];simp[setObj,Sem.run,h]
 .unfold ud at y ⊢
  grind
def M'{P:au}{t e:aE}{z:V}{sz bytes:Nat}(h:fO P t e z sz bytes)(w:I)(n:Nat)(C:n *bytes<=140737488355328):
  ∃d,(Instr.makeSlice t (.int .i64 (n:Int)) (.int .i64 (n:Int))).run P w=.ok (.slice (some ⟨w.heap.size,0,none⟩) n n) d/\aK d e sz ⟨some ⟨w.heap.size,0,none⟩,n,n⟩ (madeCells z.cells (n *sz)).toList/\Fr (λ_=>False) w d:=by
 obtain⟨i,y,B,A,D⟩:=info_parts h.hi;have E:n<=140737488355328:=by have:=Nat.le_mul_of_pos_right n h.hb;omega
 obtain⟨d,k,q,x⟩:=run_make_full (P:=P) w 0 t e i z sz h.ht y B A .i64 .i64 n (by grind) (by unfold maxLen;omega) (dc _);exact⟨d,k,q,Fr.grown x λ_ j=>by cases j⟩
def aaC(z:V)(n:Nat)(e:z.cells=#[z]):(madeCells z.cells (n *1)).toList=List.replicate n z:=by
 rw[e];apply List.ext_getElem?;intro i;by_cases d:i<n
 .simp [madeCells,d,Nat.mod_one]
 .simp [madeCells,d]
abbrev af(w w':I):Prop:=Fr (λ_=>False) w w'
abbrev aa(b:Nat):Addr:=⟨b,0,none⟩
def gb(b:UInt8):V:=.int .u8 (b.toNat:Int)
def bC(n:Int):V:=.int .i64 n
def Wn(bs:List UInt8):∀u∈bs.map gb,u.oneCell'=true:=by intro u d;obtain⟨b,_,rfl⟩:=dA.1 d;rfl
def Zu(l:List Int):∀u∈l.map bC,u.oneCell'=true:=by intro u d;obtain⟨b,_,rfl⟩:=dA.1 d;rfl
def Fr.gp{M:Nat->Prop}{a b c:I}(d:Fr M a b)(k:af b c):Fr M a c:=d.trans k λ_ _ d=>d.elim
def Fr.A2{M:Nat->Prop}{a b:I}(d:af a b):Fr M a b:=d.mono λ_ _ d=>d.elim
def pH{w:I}{p:Addr}{v:V}(d:w.cell? p=some v):p.block<w.heap.size:=by
 unfold World.cell? at d
 grind
def XC{M:Nat->Prop}{w w':I}(e:Fr M w w'){p:Addr}{v:V}(d:w.cell? p=some v)(h:¬M p.block):w'.cell? p=some v:=by
 have:=e.cw p.block (pH d) h;unfold World.cell? at d ⊢
 grind
def add_add(p:Addr)(i j:Nat):(p.add i).add j=p.add (i+j):=by
 unfold Addr.add
 grind
def jD(p:Addr):p.add 0=p:=by simp[Addr.add]
def fN(w:I)(s:Sl)(vs:List V):Prop:=(s.a=none->s.n=0/\s.c=0)/\∀i v,vs[i]? =some v->∃p,s.a=some p/\w.cell? (p.add i)=some v
def fN.nil(w:I):fN w ⟨none,0,0⟩ []:=⟨λ_=>⟨rfl,rfl⟩,λi v d=>by grind⟩
def Row.sj{w:I}{T:aE}{s:Sl}{vs:List V}(d:Row w T s vs):fN w s vs:=by
 refine⟨λq=>?_,λi v e=>d.cell e⟩;rcases d with⟨_,j,k,_⟩|⟨b,o,h,f,x,_⟩
 .omega
 grind
def fN.fr{M:Nat->Prop}{w w':I}{s:Sl}{vs:List V}(d:fN w s vs)(j:Fr M w w')(q:∀b∈aG s,¬M b):fN w' s vs:=
 ⟨d.1,λi v k=>by obtain⟨p,e,h⟩:=d.2 i v k;exact⟨p,e,XC j h (by rw[kG];exact q _ (by simp[aG,e]))⟩⟩
def fN.get{w:I}{s:Sl}{vs:List V}(h:fN w s vs){i j:Nat}{v:V}(hi:vs[i]? =some v)(d:j=i *1){K:Addr->Prop}(q:∀p,s.a=some p->w.cell? (p.add j)=some v->K p):W.dJ s.a K:=by obtain⟨p,e,k⟩:=h.2 i v hi;rw[e];rw[Nat.mul_one]at d;subst d;exact q p e k
def sub(s:Sl)(l d:Nat):Sl:=⟨if s.c=l then s.a else s.a.map (·.add (l *1)),d - l,s.c - l⟩
def zx{P:au}{t ty e:aE}{z:V}{sz bytes:Nat}(h:fO P t e z sz bytes){w:I}{s src:Sl}{xs news:List V}(F:aK w e sz s xs)(hr:fN w src news)(y:news.length=src.n *sz)(j:∀u∈news,u.oneCell'=true)(D:(s.n+src.n) *bytes<=140737488355328):
  ∃d B,(fM #[t,t] ty #[s.v,src.v]).run P w=.ok d.v B/\aK B e sz d (xs++news)/\d.n=s.n+src.n/\Fr (λb=>b∈aG s) w B/\
   (∀b∈aG d,b∈aG s\/w.heap.size<=b)/\(d.a=none->s.a=none/\src.n=0):=by
 obtain⟨i,E,S,L,Y⟩:=info_parts h.hi;have W:s.n+src.n<=140737488355328:=by have:=Nat.le_mul_of_pos_right (s.n+src.n) h.hb;omega
 obtain⟨sa,A,M⟩:=src;cases sa with
 |none=>
  obtain⟨k,H⟩:=hr.1 rfl;simp only at k H;subst k H;have ab:news=[]:=List.eq_nil_of_length_eq_zero (by grind);subst ab;have:=run_append_owned_none (P:=P) (w:=w) 0 t ty e i sz h.ht E s.v s.n xs F;exact⟨s,w,this,by grind,gs,Fr.refl _ _,λb D=>.inl D,λO=>⟨O,rfl⟩⟩
 |some G=>
  simp only at y D W;have J:∀x u,news[x]? =some u->w.cell? (G.add x)=some u:=λx u hj=>by
   obtain⟨p,hp,hc⟩:=hr.2 x u hj
   grind
  obtain⟨v',B,K,an,ah,ab⟩:=run_append_own (P:=P) w 0 t ty e i z sz bytes h.ht E S L Y h.hz h.hs s.v s.n xs F G A M news y J j (by unfold maxLen;omega) D (dc _);have hv:∃d:Sl,v'=d.v/\d.n=s.n+A/\(d.a=none->v'=.slice none 0 0):=by
   rcases an.2 with⟨j,h2⟩|⟨g,cap,cur,j,_⟩
   .grind
   .exact ⟨⟨_,_,_⟩,j,rfl,λO=>by cases O⟩
  obtain⟨d,rfl,aj,ax⟩:=hv;refine⟨d,B,K,?_,aj,?_,?_,?_⟩
  .unfold aK;grind
  .refine Fr.grown ah λg q=>?_;rw[QQ]at q;cases ae:s.a with
   |none=>grind
   |some p=>simp[ae]at q;simp[aG,ae,q]
  .intro g q;rcases F.cases with⟨rfl,rfl⟩|⟨C,cur,aa,ag,am,aw,Z,aq⟩
   .obtain ⟨v2,w2,ap,ao,_,_⟩:=run_append_own (P:=P) w w.heap.size t ty e i z sz bytes h.ht E S L Y h.hz h.hs (.slice none 0 0) 0 [] (World.ownsRow_nil w _ e sz) G A M news y J j (by unfold maxLen;omega) io (bw _);have k:(Result.ok d.v B:Result V)=.ok v2 w2:=K.symm.trans ap;have H:=(Result.ok.inj k).1;subst H;rcases ao.2 with⟨j,_⟩|⟨g2,ar,av,j,h2,_⟩
    .have:d.a=none:=(Value.slice.inj j).1;simp[aG,this]at q
    .have:d.a=some ⟨g2,0,none⟩:=(Value.slice.inj j).1;simp[aG,this]at q;omega
   .obtain ⟨ay,N,T⟩:=s;simp only at aa am Z aq D W;subst aa;by_cases ac:N+A<=T
    .subst L;have af:N *i.size+news.length<=cur.size:=by rw[y,Z,<-Nat.add_mul];exact lx _ ac
     have Q:=run_append_room (P:=P) w t ty e i h.ht E C N T cur ag G A M news y J j ac af;have k:=K.symm.trans Q;have:d.a=some ⟨C,0,none⟩:=(Value.slice.inj (Result.ok.inj k).1).1;simp[aG,this]at q ⊢;omega
    .subst L;have holds:∀x u,xs[x]? =some u->w.cell? ((⟨C,0,none⟩:Addr).add x)=some u:=World.ownsRow.cells (g:=C) F rfl;have Q:=run_append_grow (P:=P) w t ty e i z h.ht E S ⟨C,0,none⟩ N T xs F.len holds G A M news y J io io (growslice_fits io (by grind));have k:=K.symm.trans Q;have:d.a=some ⟨w.heap.size,0,none⟩:=(Value.slice.inj (Result.ok.inj k).1).1;simp[aG,this]at q;omega
  grind
def aK.cap{w:I}{e:aE}{sz:Nat}{s:Sl}{xs:List V}(d:aK w e sz s xs):s.n<=s.c:=by
 rcases d.cases with⟨rfl,_⟩|⟨g,cur,_,_,d,_⟩
 .grind
 omega
def Rd(w:I)(s:Sl)(vs:List V):Prop:=s.n=vs.length/\s.n<=s.c/\fN w s vs
def Ow(w:I)(e:aE)(s:Sl)(vs:List V):Prop:=s.n=vs.length/\aK w e 1 s vs
def Ow.rd{w:I}{e:aE}{s:Sl}{vs:List V}(d:Ow w e s vs):Rd w s vs:=⟨d.1,d.2.cap,d.2.row.sj⟩
def Rd.fr{M:Nat->Prop}{w w':I}{s:Sl}{vs:List V}(d:Rd w s vs)(e:Fr M w w')(h:∀b∈aG s,¬M b):Rd w' s vs:=⟨d.1,d.2.1,d.2.2.fr e h⟩
def Ow.fr{M:Nat->Prop}{w w':I}{e:aE}{s:Sl}{vs:List V}(d:Ow w e s vs)(h:Fr M w w')(j:∀b∈aG s,¬M b):Ow w' e s vs:=⟨d.1,d.2.fr h j⟩
def Rd.cA{w w':I}{s:Sl}{vs:List V}(d:Rd w s vs)(e:af w w'):Rd w' s vs:=d.fr e λ_ _ d=>d
def Ow.cA{w w':I}{e:aE}{s:Sl}{vs:List V}(d:Ow w e s vs)(h:af w w'):Ow w' e s vs:=d.fr h λ_ _ d=>d
def Rd.nil(w:I):Rd w ⟨none,0,0⟩ []:=⟨rfl,bw _,fN.nil w⟩
def Ow.nil(w:I)(e:aE):Ow w e ⟨none,0,0⟩ []:=⟨rfl,aK.nil w _ _⟩
def Ow.made(w:I)(e:aE)(cs:List V)(n:Nat)(d:n=cs.length)(h:n<=1000000):Ow (w.alloc (.cells cs.toArray e)) e ⟨some ⟨w.heap.size,0,none⟩,n,n⟩ cs:=
 ⟨d,aK.made w e 1 n cs io (by unfold maxLen;omega)⟩
def Rd.get{w:I}{s:Sl}{vs:List V}(d:Rd w s vs){i j:Nat}{v:V}(hi:vs[i]? =some v)(e:j=i *1){K:Addr->Prop}(h:∀p,s.a=some p->w.cell? (p.add j)=some v->K p):W.dJ s.a K:=d.2.2.get hi e h
def VW{t ty e:aE}{z:V}{bytes:Nat}{P:au}(A:fO P t e z 1 bytes){w:I}{s src:Sl}{xs k:List V}(q:Ow w e s xs)(h:Rd w src k)(G:∀u∈k,u.oneCell'=true)(H:(xs.length+k.length) *bytes<=140737488355328):
  ∃d j,(fM #[t,t] ty #[s.v,src.v]).run P w=.ok d.v j/\Ow j e d (xs++k)/\Fr (λb=>b∈aG s) w j/\(∀b∈aG d,b∈aG s\/w.heap.size<=b)/\(d.a=none->s.a=none/\k=[]):=by
 obtain⟨d,j,B,C,D,E,F,x⟩:=zx (ty:=ty) A q.2 h.2.2 (by rw[h.1];omega) G (by rw[q.1,h.1];exact H);refine⟨d,j,B,⟨?_,C⟩,E,F,λy=>⟨(x y).1,?_⟩⟩
 .rw [D,q.1,h.1];simp
 .have:=(x y).2;rw[h.1]at this
  grind
def Eu{α:Type}(f:α->List V)(sz:Nat)(e:∀a,(f a).length=sz):∀(cs:List α) (i j:Nat) (a:α),cs[i]? =some a->j<sz->(cs.flatMap f)[i *sz+j]? =(f a)[j]?
 |[],i,j,a,d,_=>by grind
 |c::cs,0,j,a,d,h=>by grind
 |c::cs,i+1,j,a,d,h=>by rw[dz,List.getElem?_append_right (by grind),e,show(i+1) *sz+j - sz=i *sz+j by grind];exact Eu f sz e cs i j a (by grind) h
def pV{α:Type}(f:α->List V)(sz:Nat)(d:∀a,(f a).length=sz)(cs:List α):(cs.flatMap f).length=cs.length *sz:=by
 induction cs with
 |nil=>simp
 |cons c cs e=>grind
def fN.elem{α:Type}{f:α->List V}{sz:Nat}(j:∀a,(f a).length=sz)(z:0<sz){w:I}{s:Sl}{cs:List α}(h:fN w s (cs.flatMap f)){i:Nat}{a:α}(hi:cs[i]? =some a){K:Addr->Prop}(y:∀p,s.a=some p->(∀d v,(f a)[d]? =some v->w.cell? ((p.add (i *sz)).add d)=some v)->K p):W.dJ s.a K:=by
 obtain⟨B,C⟩:∃v,(f a)[0]? =some v:=⟨_,aY (by grind)⟩;obtain⟨p,e,_⟩:=h.2 (i *sz+0) B (by rw[Eu f sz j cs i 0 a hi z];omega);rw[e];refine y p e λd v A=>?_;have x:d<sz:=by grind
 obtain⟨D,k,q⟩:=h.2 (i *sz+d) v (by rw[Eu f sz j cs i d a hi x];exact A);rw[e]at k;cases k;rw[add_add];exact q
def BI{w:I}{b:Nat}{cs:Array V}{T:aE}(d:w.heap[b]? =some (.cells cs T (0,0)))(i:Nat)(hi:i<cs.size)(v:V):
  (w.cell? ((aa b).add i)).isSome=true/\w.frozen? ((aa b).add i)=false/\(w.setCell ((aa b).add i) v).heap[b]? =some (.cells (cs.setIfInBounds i v) T (0,0))/\Fr (·=b) w (w.setCell ((aa b).add i) v):=by
 refine⟨?_,frozenAt (p:=aa b) d,?_,Fr.set _ _ _ (kG _ _)⟩
 .rw [cellAt (p:=aa b) (v:=cs[i]) d rfl (by grind)];rfl
 .have:=setAt (p:=aa b) (i:=i) (v:=v) d rfl
  grind
def Fr.put(w:I)(l:Nat)(o:Obj):Fr (·=l) w (w.putObj l o):=⟨rfl,rfl,rfl,by simp[World.putObj],λh _ e=>by have:l≠h:=λd=>e d.symm;simp[World.putObj,Array.getElem?_setIfInBounds_ne this]⟩
def ab4{w:I}{l:Nat}{x:Obj}(d:w.heap[l]? =some x)(o:Obj):(w.putObj l o).heap[l]? =some o:=by have:=qb d;simp[World.putObj,this]
def V5(x y:Nat)(e:x<18446744073709551616)(h:y<18446744073709551616):r3 .u64 (x:Int) (y:Int)=((x&&& y:Nat):Int):=by
 unfold r3;have d:(jx (IntKind.bits .u64) (x:Int)&&& jx (IntKind.bits .u64) (y:Int)).toNat=x&&& y:=by
  show(jx 64 (x:Int)&&& jx 64 (y:Int)).toNat=_
  grind
 rw[d];have:x&&& y<=x:=Nat.and_le_left;exact IntWalk.u64_in _ io
def I5(x y:Nat)(e:x<18446744073709551616)(h:y<18446744073709551616):wP .u64 (x:Int) (y:Int)=((x^^^y:Nat):Int):=by
 unfold wP;have d:(jx (IntKind.bits .u64) (x:Int)^^^jx (IntKind.bits .u64) (y:Int)).toNat=x^^^y:=by
  show(jx 64 (x:Int)^^^jx 64 (y:Int)).toNat=_
  grind
 rw[d];have:x^^^y<2^64:=Nat.xor_lt_two_pow e h;exact IntWalk.u64_in _ io
def afj(x:Nat)(h:x<18446744073709551616):x^^^18446744073709551615=18446744073709551615 - x:=by
 have d:=BitVec.toNat_not (x:=BitVec.ofNat 64 x);have e:(~~~ (BitVec.ofNat 64 x))=BitVec.ofNat 64 x^^^BitVec.allOnes 64:=(BitVec.xor_allOnes).symm
 grind
def V6(n:Nat)(e:n<256):qQ .u8 (n:Int) 128=((n%128+128:Nat):Int):=by
 have h:∀d:Fin 256,qQ .u8 (d.val:Int) 128=((d.val%128+128:Nat):Int):=by decide+kernel
 exact h ⟨n,e⟩
def H3(n:Nat):aB .u8 (n:Int)=((n%256:Nat):Int):=by rw[IntKind.wrap_u8];omega
def UK(n:Nat)(d:n<18446744073709551616):aB .u64 (n:Int)=(n:Int):=IntWalk.u64_in _ io
def Yy(n m:Nat)(d:0<m):Int.fdiv (n:Int) (m:Int)=((n / m:Nat):Int):=by grind
def bm(i:Nat)(d:i<9223372036854775807):aB .i64 ((i:Int)+1)=((i+1:Nat):Int):=by rw[IntWalk.i64_in _ io];omega
end Go.W
set_option maxRecDepth 100000
set_option maxHeartbeats 1000000
namespace Go.Proofs.YtkbmpalepmakmabGreatDoor
open Go renaming World->I,Calls->ai,Program->au,Value->V,TypeId->aE,Ending->cW,FuncId->b3,IntKind->ij
open Go.IntKind renaming wrap->aB
open _root_.ByteArray renaming mk->a'
open Go.Builtin renaming append_->fM
open _root_.Bool renaming and_eq_true->bd,not_eq_true->iF
open _root_.Nat renaming le_refl->bw,le_trans->bB,zero_le->dc,beq->bI,lt_of_lt_of_le->pe,mul_le_mul_right->lx,beq_eq->eJ
open _root_.Option.some renaming inj->ed,injEq->fA
open _root_.Array renaming replicate->gq
open _root_.BitVec renaming ofInt->jx
open Go.Region renaming wanted->cv,ready->ec
open _root_.Decidable renaming decide->ak
open Go.Ending renaming returned->ad
open List renaming mem_append->aP,mem_cons->aF,mem_of_getElem?->aD,getElem?_eq_getElem->aY,getElem?_eq_some_iff->cL,mem_append_right->da,mem_flatMap->ck,mem_map->dA,mem_of_mem_take->nh,mem_singleton->cy,flatMap_cons->dz,mem_iff_getElem?->iB,nodup_append->ff,all_eq_true->dS
open Go Go.W
def qc(c:UInt8):Bool:=ak (97<=c.toNat)&&ak (c.toNat<=122)
def cJ(base:Nat)(c:UInt8):Bool:=
 if base=2 then(c.toNat==48||c.toNat==49)
 else if base=16 then(ak (48<=c.toNat)&&ak (c.toNat<=57))||(ak (97<=c.toNat)&&ak (c.toNat<=102))
 else ak (48<=c.toNat)&&ak (c.toNat<=57)
def bV(c:UInt8):Bool:=qc c||cJ 10 c||c.toNat==45||c.toNat==35
def hP(c:UInt8):Bool:=qc c||cJ 10 c||c.toNat==35
def lg(c:UInt8):Bool:=c.toNat==9||c.toNat==10||c.toNat==13||c.toNat==32
def m4(c:UInt8):Bool:=lg c||c.toNat==59||c.toNat==40||c.toNat==41||c.toNat==34
def bt:Bool->List UInt8->Nat
 |_,[]=>0
 |false,c::l=>if lg c then 1+bt false l else if c.toNat=59 then 1+bt true l else 0
 |true,c::l=>if c.toNat=10 then 1+bt false l else 1+bt true l
def eS(c:UInt8):Nat:=if c.toNat<=57 then c.toNat - 48 else c.toNat - 87
inductive QR where
 |ok (text:List UInt8) (used:Nat)
 |bad (a6:Nat) (e:Int)
def QR.push(c:UInt8)(k:Nat):QR->QR
 |.ok t u=>.ok (c::t) (k+u)
 |.bad a d=>.bad (k+a) d
def qu:List UInt8->QR
 |[]=>.bad 0 3
 |c::l=>
  if c.toNat=34 then .ok [] 1
  else if c.toNat≠92 then(if c.toNat<32\/126<c.toNat then .bad 0 2 else(qu l).push c 1)
  else match l with
   |[]=>.bad 1 3
   |d::e=>
    if d.toNat=34\/d.toNat=92 then(qu e).push d 2
    else if d.toNat≠120 then .bad 0 2
    else match e with
     |[]=>.bad 2 3
     |h::k=>if cJ 16 h then(match k with
       |[]=>.bad 3 3
       |j::q=>if cJ 16 j then(qu q).push (UInt8.ofNat (16 *eS h+eS j)) 4 else .bad 0 2)
      else .bad 0 2
def uV(l:List UInt8):Int×Int:=match l with
 |b::d::r=>
  if b.toNat=98 then(if(d::r).all (cJ 2)then(if 64<(d::r).length then(0,4)else(3,0))else(0,2))
  else if b.toNat=120 then(if(d::r).all (cJ 16)then(if 16<(d::r).length then(0,4)else(3,0))else(0,2))
  else(0,2)
 |_=>(0,2)
def fH(t:List UInt8):Int×Int:=
 match t with
 |[]=>(0,2)
 |c::l=>
  if qc c then(if t.any (λd=>d.toNat==35)then(0,2)else if 16<t.length then(0,6)else(2,0))
  else if c.toNat≠35 then(if !(t.all (cJ 10))||(c.toNat==48&&ak (1<t.length))then(0,2)else if 13<t.length then(0,4)else(4,0))
  else uV l
inductive NT where
 |fin
 |tok (kind:Int) (text:List UInt8) (used:Nat)
 |bad (a6:Nat) (e:Int)
def gi:List UInt8->NT
 |[]=>.fin
 |c::l=>
  if c.toNat=40 then .tok 0 [] 1
  else if c.toNat=41 then .tok 1 [] 1
  else if c.toNat=34 then(match qu l with |.ok t u=>.tok 5 t (1+u)|.bad a d=>.bad (1+a) d)
  else if hP c then
   (let t:=(c::l).takeWhile bV
    match fH t with
    |(e,d)=>if d≠0 then .bad 0 d else match(c::l).drop t.length with
     |[]=>.tok e t t.length
     |h::_=>if m4 h then .tok e t t.length else .bad t.length 2)
  else .bad 0 2
structure aI where
 kind:Int
 text:List UInt8
 a6:Nat
inductive TR where
 |ok (l:List aI)
 |bad (a6:Nat) (e:Int)
def TR.push(t:aI):TR->TR
 |.ok l=>.ok (t::l)
 |.bad a d=>.bad a d
def ll:Nat->Nat->List UInt8->TR
 |0,i,_=>.ok [⟨6,[],i⟩]
 |n+1,i,l=>
  let d:=bt false l
  match gi (l.drop d)with
  |.fin=>.ok [⟨6,[],i+d⟩]
  |.bad a e=>.bad (i+d+a) e
  |.tok kind t u=>(ll n (i+d+u) ((l.drop d).drop u)).push ⟨kind,t,i+d⟩
def k7:∀(b:Bool) (l:List UInt8),bt b l<=l.length
 |b,[]=>by cases b<;>simp[bt]
 |false,c::l=>by
  have d:=k7 false l;have e:=k7 true l;simp only[bt,List.length_cons];split
  .omega
  .split<;>omega
 |true,c::l=>by have d:=k7 false l;have e:=k7 true l;simp only[bt,List.length_cons];split<;>omega
inductive IR where
 |ok (c:UInt8) (used:Nat)
 |bad (a6:Nat) (e:Int)
def ei:List UInt8->IR
 |[]=>.bad 0 3
 |c::l=>
  if c.toNat≠92 then(if c.toNat<32\/126<c.toNat then .bad 0 2 else .ok c 1)
  else match l with
   |[]=>.bad 1 3
   |d::j=>
    if d.toNat=34\/d.toNat=92 then .ok d 2
    else if d.toNat≠120 then .bad 0 2
    else match j with
     |[]=>.bad 2 3
     |e::k=>if cJ 16 e then(match k with
       |[]=>.bad 3 3
       |h::_=>if cJ 16 h then .ok (UInt8.ofNat (16 *eS e+eS h)) 4 else .bad 0 2)
      else .bad 0 2
def yo(c:UInt8)(l:List UInt8)(j:c.toNat≠34):qu (c::l)=match ei (c::l)with |.ok d u=>(qu ((c::l).drop u)).push d u|.bad a e=>.bad a e:=by
 conv=>lhs;unfold qu
 unfold ei;rw[ab j];by_cases h:c.toNat≠92
 .simp only[ag h];split
  .rfl
  .rfl
 .simp only[ab h];cases l with
  |nil=>rfl
  |cons d k=>
   simp only[];split
   .rfl
   .split
    .rfl
    .cases k with
     |nil=>rfl
     |cons x q=>
      simp only[];split
      .cases q with
       |nil=>rfl
       |cons y w=>
        simp only[];split<;>rfl
      .rfl
end Go.Proofs.YtkbmpalepmakmabGreatDoor
namespace Go.W
open Go renaming World->I,Calls->ai,Program->au,Value->V,TypeId->aE,Ending->cW,FuncId->b3,IntKind->ij
open Go.IntKind renaming wrap->aB
open _root_.ByteArray renaming mk->a'
open Go.Builtin renaming append_->fM
open _root_.Bool renaming and_eq_true->bd,not_eq_true->iF
open _root_.Nat renaming le_refl->bw,le_trans->bB,zero_le->dc,beq->bI,lt_of_lt_of_le->pe,mul_le_mul_right->lx,beq_eq->eJ
open _root_.Option.some renaming inj->ed,injEq->fA
open _root_.Array renaming replicate->gq
open _root_.BitVec renaming ofInt->jx
open Go.Region renaming wanted->cv,ready->ec
open _root_.Decidable renaming decide->ak
open Go.Ending renaming returned->ad
open List renaming mem_append->aP,mem_cons->aF,mem_of_getElem?->aD,getElem?_eq_getElem->aY,getElem?_eq_some_iff->cL,mem_append_right->da,mem_flatMap->ck,mem_map->dA,mem_of_mem_take->nh,mem_singleton->cy,flatMap_cons->dz,mem_iff_getElem?->iB,nodup_append->ff,all_eq_true->dS
structure En where
 fp:List Nat
 P:I->Prop
 st:∀w w',(∀b∈fp,b<w.heap.size->w'.heap[b]? =w.heap[b]?)->P w->P w'
 lt:∀w,P w->∀b∈fp,b<w.heap.size
 nd:fp.Nodup
def En.ob(b:Nat)(o:Obj):En:=⟨[b],λe=>e.heap[b]? =some o,λe k h d=>(h b gs (qb d)).trans d,λe d q j=>by grind,gs⟩
abbrev En.c(b:Nat)(vs:List V)(T:aE):En:=.ob b (.cells vs.toArray T (0,0))
def En.row(e:aE)(sz:Nat)(s:Sl)(vs:List V):En:=⟨aG s,λj=>aK j e sz s vs,λ_ _ h d=>d.cw h,λ_ d=>d.lt,by unfold aG;grind⟩
def En.rd(s:Sl)(vs:List V):En:=⟨if vs=[]then[]else aG s,λq=>Rd q s vs,λq A w d=>by
  refine⟨d.1,d.2.1,d.2.2.1,λi v y=>?_⟩;obtain⟨p,h,e⟩:=d.2.2.2 i v y;have k:vs≠[]:=λz=>by grind
  rw[ab k]at w;have:=w p.block (by simp[aG,h]) (by have:=pH e;rwa[kG]at this);refine⟨p,h,?_⟩;unfold World.cell? at e ⊢;rw[kG]at e ⊢
  grind,λq d b j=>by
  split at j
  .cases j
  .rename_i k;have x:0<vs.length:=List.length_pos_iff.2 k;obtain⟨p,h,e⟩:=d.2.2.2 0 vs[0] (aY x);simp[aG,h]at j;subst j;have:=pH e
   rwa[kG]at this,by split<;>(try simp);unfold aG;grind⟩
structure O(M:Nat->Prop)(w0 w:I)(L D:List En):Prop where
 fr:Fr M w0 w
 own:∀e∈L,e.P w
 rd:∀e∈D,e.P w
 new:∀e∈L,∀b∈e.fp,w0.heap.size<=b\/M b
 nd:(L.flatMap (·.fp)).Nodup
 dj:∀e∈D,∀b∈e.fp,∀e'∈L,b∉e'.fp
def O.start{M:Nat->Prop}{w:I}(D:List En)(e:∀d∈D,d.P w):O M w w [] D:=⟨Fr.refl _ _,gs,e,gs,gs,gs⟩
def O.o6{M:Nat->Prop}{w:I}(L D:List En)(j:∀d∈L,d.P w/\∀b∈d.fp,M b)(x:(L.flatMap (·.fp)).Nodup)(h:∀d∈D,d.P w/\∀b∈d.fp,∀k∈L,b∉k.fp):O M w w L D:=
 ⟨Fr.refl _ _,λd e=>(j d e).1,λd e=>(h d e).1,λd e b q=>.inr ((j d e).2 b q),x,λd e=>(h d e).2⟩
def O.cA{M:Nat->Prop}{w0 w w':I}{L D:List En}(H:O M w0 w L D)(f:af w w'):O M w0 w' L D:=
 ⟨H.fr.gp f,λd e=>d.st w w' (λb _ h=>f.cw b h id) (H.own d e),λd e=>d.st w w' (λb _ h=>f.cw b h id) (H.rd d e),H.new,H.nd,H.dj⟩
def O.drew{M:Nat->Prop}{w0 w:I}{L D:List En}(H:O M w0 w L D):O M w0 w.drew L D:=H.cA (Fr.drew _ _)
def Gd{α:Type}{f:α->List Nat}:∀{L:List α} {i:Nat} {e d:α},L[i]? =some e->(L.flatMap f).Nodup->(f d).Nodup->(∀j∈f d,j∈f e\/j∉L.flatMap f)->((L.set i d).flatMap f).Nodup
 |[],i,e,d,h,_,_,_=>by grind
 |a::L,0,e,d,h,k,q,w=>by grind
 |a::L,i+1,e,d,h,k,q,w=>by
  simp only[List.getElem?_cons_succ]at h;simp only[List.set_cons_succ,dz,ff]at k ⊢;refine⟨k.1,Gd h k.2.1 q (λj x=>(w j x).imp id λh y=>h (by grind)),λj x A z=>?_⟩
  grind
def O.tc{M:Nat->Prop}{w0 w:I}{L D:List En}(H:O M w0 w L D):∀b∈L.flatMap (·.fp),b<w.heap.size:=λb d=>by obtain⟨e,h,d⟩:=ck.1 d;exact e.lt w (H.own e h) b d
def j'{L:List En}(d:(L.flatMap (·.fp)).Nodup):∀{i:Nat} {e:En},L[i]? =some e->∀{j:Nat} {g:En},L[j]? =some g->i≠j->∀b∈e.fp,b∉g.fp:=by
 induction L with
 |nil=>grind
 |cons a L h=>
  simp only[dz,ff]at d
  grind
def O.fx{M:Nat->Prop}{w0 w w':I}{L D:List En}(H:O M w0 w L D){e:En}(i:Nat)(k:En)(hi:L[i]? =some e)(f:Fr (·∈e.fp) w w')(S:k.P w')(A:∀b∈k.fp,b∈e.fp\/w.heap.size<=b):O M w0 w' (L.set i k) D:=by
 have x:=aD hi;have J:Fr M w0 w':=H.fr.trans f λy F K=>(H.new e x y K).resolve_left io;refine⟨J,λg d=>?_,λg d=>?_,λg d b h=>?_,Gd hi H.nd k.nd λy F=>?_,λg d b h G B E=>?_⟩
 .obtain ⟨T,q⟩:=iB.1 d;rw[List.getElem?_set]at q;split at q
  .grind
  .rename_i N;refine g.st w w' (λb h C=>f.cw b C λz=>j' H.nd hi q N b z h) (H.own g (aD q))
 .exact g.st w w' (λb h C=>f.cw b C λz=>H.dj g d b h e x z) (H.rd g d)
 .rcases List.mem_or_eq_of_mem_set d with d|rfl
  .exact H.new g d b h
  .rcases A b h with j|j
   .exact H.new e x b j
   .exact .inl (bB H.fr.size j)
 .rcases A y F with j|j
  .grind
  .exact .inr λQ=>by have:=H.tc y Q;omega
 .rcases List.mem_or_eq_of_mem_set B with B|rfl
  .exact H.dj g d b h G B E
  .rcases A b E with j|j
   .exact H.dj g d b h e x j
   .have:=g.lt w (H.rd g d) b h;omega
def O.push{M:Nat->Prop}{w0 w w':I}{L D:List En}(H:O M w0 w L D)(e:En)(f:af w w')(C:e.P w')(z:∀b∈e.fp,w.heap.size<=b):O M w0 w' (L++[e]) D:=by
 have k:=H.cA f;refine⟨k.fr,λg d=>?_,k.rd,λg d b j=>?_,?_,λg d b j q h y=>?_⟩
 .rcases aP.1 d with d|d
  .exact k.own g d
  grind
 .rcases aP.1 d with d|d
  .exact H.new g d b j
  .simp at d;subst d;exact .inl (bB H.fr.size (z b j))
 .rw [List.flatMap_append,ff];refine⟨H.nd,by simpa using e.nd,λB A F E=>?_⟩;rintro rfl;have x:=H.tc B A
  grind
 .rcases aP.1 h with h|h
  .exact H.dj g d b j q h y
  .simp at h;subst h;have x:=g.lt w (H.rd g d) b j
   grind
def O.alloc{M:Nat->Prop}{w0 w:I}{L D:List En}(H:O M w0 w L D)(o:Obj):O M w0 (w.alloc o) (L++[.ob w.heap.size o]) D:=
 H.push _ (Fr.alloc _ _ _) (m6 w o) (λb d=>by simp[En.ob]at d;omega)
def O.ef{M:Nat->Prop}{w0 w w':I}{L D:List En}(H:O M w0 w L D)(e:En)(f:af w w')(F:e.P w')(hd:∀b∈e.fp,w.heap.size<=b\/(b<w0.heap.size/\¬M b)\/∃g∈D,b∈g.fp):O M w0 w' L (D++[e]):=by
 have h:=H.cA f;refine⟨h.fr,h.own,λg d=>?_,h.new,h.nd,λg d b x j q k=>?_⟩
 .rcases aP.1 d with d|d
  .exact h.rd g d
  grind
 .rcases aP.1 d with d|d
  .exact H.dj g d b x j q k
  .simp at d;subst d;rcases hd b x with y|⟨y,A⟩|⟨C,B,z⟩
   .have:=j.lt w (H.own j q) b k;omega
   .exact (H.new j q b k).elim (λE=>io) A
   .exact H.dj C B b z j q k
def O.forget{M:Nat->Prop}{w0 w:I}{L D:List En}(H:O M w0 w L D)(D':List En)(h:∀d∈D',d∈D):O M w0 w L D':=⟨H.fr,H.own,λd e=>H.rd d (h d e),H.new,H.nd,λd e=>H.dj d (h d e)⟩
def ve{α:Type}{a:α}:∀{l:List α} {i:Nat},a∈l.eraseIdx i->a∈l
 |[],_,d=>by grind
 |b::l,0,d=>by grind
 |b::l,i+1,d=>by
  simp at d;rcases d with d|d
  .simp [d]
  .exact List.mem_cons_of_mem _ (ve d)
def Qs{α:Type}{f:α->List Nat}:∀{L:List α} {i:Nat},(L.flatMap f).Nodup->((L.eraseIdx i).flatMap f).Nodup
 |[],i,d=>gs
 |a::L,0,d=>by grind
 |a::L,i+1,d=>by simp only[List.eraseIdx_cons_succ,dz,ff]at d ⊢;refine⟨d.1,Qs d.2.1,λq h w k=>d.2.2 q h w ?_⟩;obtain⟨g,e,j⟩:=ck.1 k;exact ck.2 ⟨g,ve e,j⟩
def xo{α:Type}{f:α->List Nat}:∀{L:List α} {i:Nat} {e:α},L[i]? =some e->(L.flatMap f).Nodup->∀b∈f e,∀g∈L.eraseIdx i,b∉f g
 |[],i,e,d,_=>by grind
 |a::L,0,e,d,j=>by grind
 |a::L,i+1,e,d,j=>by
  simp only[dz,ff]at j;intro b k g h q;simp only[List.getElem?_cons_succ]at d;simp only[List.eraseIdx_cons_succ,aF]at h;rcases h with rfl|h
  .grind
  .exact xo d j.2.1 b k g h q
def O.freeze{M:Nat->Prop}{w0 w:I}{L D:List En}(H:O M w0 w L D){e:En}(i:Nat)(h:En)(hi:L[i]? =some e)(y:h.P w)(x:∀b∈h.fp,b∈e.fp):O M w0 w (L.eraseIdx i) (D++[h]):=by
 refine⟨H.fr,λg d=>H.own g (ve d),λg d=>?_,λg d=>H.new g (ve d),Qs H.nd,λg d b k j q=>?_⟩
 .rcases aP.1 d with d|d
  .exact H.rd g d
  grind
 .rcases aP.1 d with d|d
  .exact H.dj g d b k j (ve q)
  .simp at d;subst d;exact xo hi H.nd b (x b k) j q
def O.get{M:Nat->Prop}{w0 w:I}{L D:List En}(H:O M w0 w L D)(i:Nat){e:En}(hi:L[i]? =some e:=by rfl):e.P w:=H.own e (aD hi)
def O.getD{M:Nat->Prop}{w0 w:I}{L D:List En}(H:O M w0 w L D)(i:Nat){e:En}(hi:D[i]? =some e:=by rfl):e.P w:=H.rd e (aD hi)
section
variable {M:Nat->Prop} {w0 w:I} {L D:List En}
def O.ob(H:O M w0 w L D)(i:Nat){b:Nat}{o:Obj}(hi:L[i]? =some (.ob b o):=by rfl):w.heap[b]? =some o:=H.own _ (aD hi)
def O.ld(H:O M w0 w L D)(i j:Nat){b:Nat}{vs:List V}{T:aE}{v:V}(hi:L[i]? =some (.c b vs T):=by rfl)(d:vs[j]? =some v:=by rfl):w.cell? ((aa b).add j)=some v:=
 cellAt (p:=aa b) (H.ob i hi) rfl (by grind)
def O.cB(H:O M w0 w L D)(i:Nat){b:Nat}{vs:List V}{T:aE}{v:V}(hi:L[i]? =some (.c b vs T):=by rfl)(d:vs[0]? =some v:=by rfl):w.cell? (aa b)=some v:=by
 have:=H.ld i 0 hi d
 rwa[jD]at this
def O.set(H:O M w0 w L D)(i j:Nat){b:Nat}{vs:List V}{T:aE}{v:V}(hi:L[i]? =some (.c b vs T))(x:j<vs.length):
  (w.cell? ((aa b).add j)).isSome=true/\w.frozen? ((aa b).add j)=false/\O M w0 (w.setCell ((aa b).add j) v) (L.set i (.c b (vs.set j v) T)) D:=by obtain⟨h,k,z,q⟩:=BI (H.ob i hi) j io v;exact⟨h,k,H.fx i (.c b (vs.set j v) T) hi (q.mono λy _ d=>by simp[En.ob,d]) (by show _=_;grind) (λb e=>.inl e)⟩
def O.st(H:O M w0 w L D)(i j:Nat){b:Nat}{vs:List V}{T:aE}{v:V}{K:I->Prop}(hi:L[i]? =some (.c b vs T))(h:∀d,O M w0 d (L.set i (.c b (vs.set j v) T)) D->K d)(e:j<vs.length:=by simp):aN w ((aa b).add j) v K:=by
 obtain⟨k,q,x⟩:=H.set (v:=v) i j hi e
 grind
def O.fg(H:O M w0 w L D)(i:Nat){b:Nat}{vs:List V}{T:aE}{v:V}{K:I->Prop}(hi:L[i]? =some (.c b vs T))(e:∀d,O M w0 d (L.set i (.c b (vs.set 0 v) T)) D->K d)(h:0<vs.length:=by simp):aN w (aa b) v K:=by
 have:=H.st (v:=v) (K:=K) i 0 hi e h
 rwa[jD]at this
def O.j0(H:O M w0 w L D)(i:Nat){b:Nat}{y e:V}{T:aE}{d h:V}{K:I->Prop}(hi:L[i]? =some (.c b [y,e] T))(z:∀j,O M w0 j (L.set i (.c b [d,h] T)) D->K j):aN w (aa b) d λk=>aN k ((aa b).add 1) h K:=by have B:=(cL.1 hi).1;exact H.fg i hi (λk q=>q.st (vs:=[d,e]) (T:=T) i 1 (by grind) (λA x=>z A (by simpa using x)))
def O.lh(H:O M w0 w L D)(i:Nat){b:Nat}{C j e:V}{T:aE}{d h k:V}{K:I->Prop}(hi:L[i]? =some (.c b [C,j,e] T))(E:∀q,O M w0 q (L.set i (.c b [d,h,k] T)) D->K q):aN w (aa b) d λx=>aN x ((aa b).add 1) h λy=>aN y ((aa b).add 2) k K:=by have G:=(cL.1 hi).1;exact H.fg i hi (λx z=>z.st (vs:=[d,j,e]) (T:=T) i 1 (by grind) (λy A=>A.st (vs:=[d,h,e]) (T:=T) i 2 (by grind) (λF B=>E F (by simpa using B))))
def O.lj(H:O M w0 w L D)(i:Nat){b:Nat}{J q j e:V}{T:aE}{d h k x:V}{K:I->Prop}(hi:L[i]? =some (.c b [J,q,j,e] T))(N:∀y,O M w0 y (L.set i (.c b [d,h,k,x] T)) D->K y):aN w (aa b) d λz=>aN z ((aa b).add 1) h λA=>aN A ((aa b).add 2) k λB=>aN B ((aa b).add 3) x K:=by have Q:=(cL.1 hi).1;exact H.fg i hi (λz C=>C.st (vs:=[d,q,j,e]) (T:=T) i 1 (by grind) (λA E=>E.st (vs:=[d,h,j,e]) (T:=T) i 2 (by grind) (λB F=>F.st (vs:=[d,h,k,e]) (T:=T) i 3 (by grind) (λP G=>N P (by simpa using G)))))
def O.TH(H:O M w0 w L D)(i:Nat){b:Nat}{S y q j e:V}{T:aE}{d h k x z:V}{K:I->Prop}(hi:L[i]? =some (.c b [S,y,q,j,e] T))(W:∀A,O M w0 A (L.set i (.c b [d,h,k,x,z] T)) D->K A):aN w (aa b) d λB=>aN B ((aa b).add 1) h λC=>aN C ((aa b).add 2) k λE=>aN E ((aa b).add 3) x λF=>aN F ((aa b).add 4) z K:=by have Z:=(cL.1 hi).1;exact H.fg i hi (λB G=>G.st (vs:=[d,y,q,j,e]) (T:=T) i 1 (by grind) (λC J=>J.st (vs:=[d,h,q,j,e]) (T:=T) i 2 (by grind) (λE N=>N.st (vs:=[d,h,k,j,e]) (T:=T) i 3 (by grind) (λF P=>P.st (vs:=[d,h,k,x,e]) (T:=T) i 4 (by grind) (λY Q=>W Y (by simpa using Q))))))
def O.nw(H:O M w0 w L D){cs:Array V}{T:aE}{K:I->Prop}(e:∀d,d.heap.size=w.heap.size+1->O M w0 d (L++[.c w.heap.size cs.toList T]) D->K d):de w (.cells cs T) K:=e _ (size_alloc _ _) (H.alloc _)
def O.vu(H:O M w0 w L D){o:Obj}{K:I->Prop}(e:∀d,d.heap.size=w.heap.size+1->O M w0 d L D->d.heap[w.heap.size]? =some o->K d):de w o K:=e _ (size_alloc _ _) (H.cA (Fr.alloc _ _ _)) (m6 w o)
def O.dr(H:O M w0 w L D){K:I->Prop}(e:∀d,O M w0 d L D->K d):uI w K:=e _ H.drew
def O.pu(H:O M w0 w L D)(i:Nat){b:Nat}{o d:Obj}{K:I->Prop}(hi:L[i]? =some (.ob b o))(j:∀e,O M w0 e (L.set i (.ob b d)) D->K e):hG w b o d K:=
 ⟨H.ob i hi,j _ (H.fx i (.ob b d) hi ((Fr.put w b d).mono λq _ h=>by simp[En.ob,h]) (ab4 (H.ob i hi) d) (λb k=>.inl k))⟩
def O.ap(H:O M w0 w L D)(i:Nat){P:au}{t ty e:aE}{z:V}{sz bytes:Nat}(j:fO P t e z sz bytes){s src:Sl}{xs news:List V}{K:Sl->I->Prop}(hi:L[i]? =some (.row e sz s xs))(J:fN w src news)(G:news.length=src.n *sz)(C:∀u∈news,u.oneCell'=true)(F:(s.n+src.n) *bytes<=140737488355328)(E:∀d h,O M w0 h (L.set i (.row e sz d (xs++news))) D->d.n=s.n+src.n->(d.a=none->s.a=none/\src.n=0)->K d h):
  ∃d h,(fM #[t,t] ty #[s.v,src.v]).run P w=.ok d.v h/\K d h:=by obtain⟨d,h,k,q,x,y,A,B⟩:=zx (ty:=ty) j (H.get i hi) J G C F;exact⟨d,h,k,E d h (H.fx i (.row e sz d (xs++news)) hi y q A) x B⟩
def O.r1(H:O M w0 w L D)(i:Nat){P:au}{t ty e:aE}{z:V}{sz bytes:Nat}(k:fO P t e z sz bytes){T:aE}{s:Sl}{xs:List V}{news:Array V}{K:Sl->I->Prop}(hi:L[i]? =some (.row e sz s xs))(y:∀d h,O M w0 h (L.set i (.row e sz d (xs++news.toList))) D->d.n=s.n+1->d.a≠none->K d h)(A:(s.n+1) *bytes<=140737488355328)(F:news.size=sz:=by rfl)(x:∀u∈news.toList,u.oneCell'=true:=by simp[Value.oneCell']):
  de w (.cells news T) λC=>∃d h,(fM #[t,t] ty #[s.v,.slice (some (Addr.mk w.heap.size 0 none)) 1 1]).run P C=.ok d.v h/\K d h:=by have j:O M w0 (w.alloc (.cells news T)) L D:=H.cA (Fr.alloc _ _ _);refine j.ap i k (src:=⟨some (aa w.heap.size),1,1⟩) (ty:=ty) (K:=K) (news:=news.toList) hi ((Row.made w T 1 1 news.toList).sj) (by grind) x A (λd h q B G=>y d h q B λE=>by grind)
def O.h8(H:O M w0 w L D)(e:aE)(sz:Nat):O M w0 w (L++[.row e sz ⟨none,0,0⟩ []]) D:=H.push _ (Fr.refl _ _) (aK.nil w e sz) (λb d=>by simp[En.row,aG]at d)
end
def aK.ow1{w:I}{e:aE}{s:Sl}{vs:List V}(d:aK w e 1 s vs):Ow w e s vs:=⟨by have:=d.len;omega,d⟩
def aK.Bp{w:I}{e:aE}{s:Sl}{vs:List V}(d:aK w e 1 s vs):Rd w s vs:=d.ow1.rd
abbrev F0:Nat->Prop:=λ_=>False
def O.take{M:Nat->Prop}{w0 w:I}{L D:List En}(H:O M w0 w L D)(n:Nat):O M w0 w (L.take n) D:=
 ⟨H.fr,λd e=>H.own d (nh e),H.rd,λd e=>H.new d (nh e),by
  have:=H.nd
  grind,λd e b j h k=>H.dj d e b j h (nh k)⟩
def aw{a b:Int}{A d:Prop}(h:a=b->A)(j:a≠b->d):bD (a==b) A d:=bn (λe=>h (by grind)) (λe=>j (by grind))
def ct{a b:Int}{A d:Prop}(h:a≠b->A)(j:a=b->d):bD (a !=b) A d:=bn (λe=>h (by grind)) (λe=>j (by grind))
def aT{p:Prop}[Decidable p]{A e:Prop}(h:p->A)(j:¬p->e):bD (decide p) A e:=bn (λd=>h (e4 d)) (λd=>j (l4 d))
def eU{b:Bool}{A d:Prop}(h:b=false->A)(j:b=true->d):bD (!b) A d:=bn (λe=>h (by grind)) (λe=>j (by grind))
def O.dZ{M:Nat->Prop}{w0 w:I}{L D:List En}(H:O M w0 w L D)(i j:Nat){b:Nat}{vs:List V}{T:aE}{v:V}(hi:D[i]? =some (.c b vs T):=by rfl)(d:vs[j]? =some v:=by rfl):w.cell? ((aa b).add j)=some v:=
 cellAt (p:=aa b) (show w.heap[b]? =_ from H.rd _ (aD hi)) rfl (by grind)
def O.gS{M:Nat->Prop}{w0 w:I}{L D:List En}(H:O M w0 w L D)(i:Nat){b:Nat}{vs:List V}{T:aE}{v:V}(hi:D[i]? =some (.c b vs T):=by rfl)(d:vs[0]? =some v:=by rfl):w.cell? (aa b)=some v:=by
 have:=H.dZ i 0 hi d
 rwa[jD]at this
def O.zM{M:Nat->Prop}{w0 w w':I}{L D:List En}(H:O M w0 w L D)(i:Nat){b:Nat}{vs d:List V}{T:aE}(f:Fr (·=b) w w')(h:w'.heap[b]? =some (.cells d.toArray T (0,0)))(hi:L[i]? =some (.c b vs T):=by rfl):O M w0 w' (L.set i (.c b d T)) D:=
 H.fx i (.c b d T) hi (f.mono λk _ e=>by simp[En.ob,e]) h (λb j=>.inl j)
def O.e9{M:Nat->Prop}{w0 w:I}{L D:List En}(H:O M w0 w L D){e:aE}{sz n:Nat}{cs:List V}(k:cs.length=n *sz)(q:n<=maxLen){K:I->Prop}(h:∀d,O M w0 d (L++[.row e sz ⟨some (aa w.heap.size),n,n⟩ cs]) D->K d):de w (.cells cs.toArray e) K:=
 h _ (H.push _ (Fr.alloc _ _ _) (aK.made w e sz n cs k q) (λb j=>by simp[En.row,aG]at j;omega))
def O.zv{M:Nat->Prop}{w0 w:I}{L D:List En}(H:O M w0 w L D)(i:Nat){P:au}{t ty e:aE}{z:V}{bytes:Nat}(k:fO P t e z 1 bytes){T:aE}{s:Sl}{xs:List V}{m:Nat}{news:List V}{K:Sl->I->Prop}(hi:L[i]? =some (.row e 1 s xs))(E:news.length=m)(x:∀u∈news,u.oneCell'=true)(A:(s.n+m) *bytes<=140737488355328)(C:1<=m)(y:∀d h,O M w0 h (L.set i (.row e 1 d (xs++news))) D->K d h):
  de w (.cells news.toArray T) λB=>∃d h,(fM #[t,t] ty #[s.v,.slice (some (Addr.mk w.heap.size 0 none)) m m]).run P B=.ok d.v h/\K d h:=by have j:O M w0 (w.alloc (.cells news.toArray T)) L D:=H.cA (Fr.alloc _ _ _);exact j.ap i k (src:=⟨some (aa w.heap.size),m,m⟩) (ty:=ty) (K:=K) (news:=news) hi ((Row.made w T m m news).sj) (by grind) x A (λd h q _ _=>y d h q)
def j1(P:au)(o:Oper)(E:Env)(w:I)(K:Env->I->Prop):Prop:=
 bif calm P o then oB P o E w λv _=>K (E.put o.dst v) w else h0 P o E w λv d=>K (E.put o.dst v) d
def wQ(ops:Array Oper):Bool:=(List.range ops.size).all λi=>match ops[i]? with
 |some o=>o.guard.isNone&&o.after.toList.all λd=>!(Region.binds .any d)||Nat.blt d.on i
 |none=>true
abbrev eb(L:Nat->Bool)(i:Nat):Nat->Bool:=λd=>bI d i||L d
section
variable {P:au} {ops:Array Oper} {n:Cx} {K:Env->I->Prop}
def Dd(e:wQ ops=true){i:Nat}{o:Oper}(h:ops[i]? =some o):o.guard=none/\∀d∈o.after,Region.binds .any d=true->d.on<i:=by unfold wQ at e;have k:i<ops.size:=(Array.getElem?_eq_some_iff.1 h).1;have:=dS.1 e i (List.mem_range.2 k);rw[h]at this;simp only[bd]at this;refine⟨by simpa using this.1,λd q j=>?_⟩;have:=dS.1 this.2 d (by grind);rw[j]at this;simpa using this
def ad0{i:Nat}{o:Oper}{a:Act}{E:Env}{w:I}{Kh:Env->I->Prop}{K':Act->I->Prop}{Q:Exit->Act->I->Prop}(k:dD n ops=true)(e:ops[i]? =some o)(C:o.guard=none)(h:Ag n a E)(d:j1 P o E w Kh)(next:∀y x q,Ag n y x->Kh x q->K' y q):wpOp P ops Q i K' a w:=by
 have A:=Region.noSelect_spec (ops:=ops) (by unfold dD at k;grind);have B:cv o (yielded ops a.tmps)=true:=by simp[cv,C]
 unfold j1 at d;cases z:calm P o with
 |true=>
  rw[z]at d;simp only[cond_true]at d;obtain⟨v,J,D,F,G⟩:=zO (λj b=>A i o j b e) h d;unfold wpOp;simp only[e,B,if_true];refine .inl ?_;unfold Oper.wp;rw[G w F];exact next _ _ _ (h.put v (hg k e)) D
 |false=>
  rw[z]at d;simp only[cond_false]at d;exact Ie e B (oD (λj b=>A i o j b e) h d) λv q H=>next _ _ _ (h.put v (hg k e)) H
def afa(hn:dD n ops=true)(D:wQ ops=true)(z:(Nat->Bool)->Env->I->Prop)(step:∀j E w i o,ops[i]? =some o->j i=false->(∀k∈o.after,Region.binds .any k=true->j k.on=true)->z j E w->j1 P o E w λB H=>z (eb j i) B H)(fin:∀j E w,(∀i,i<ops.size->j i=true)->z j E w->K E w):
  ∀(fuel:Nat) (e:Array Bool) (a:Act) (E:Env) (w:I),e.size=ops.size->Ag n a E->z (λd=>e.getD d false) E w->((List.range ops.size).filter λd=>!e.getD d false).length<=fuel->
   wpAny P .any ops (hW n K) fuel e a w:=by
 have done:∀(e:Array Bool) (a:Act) (E:Env) (w:I),e.size=ops.size->Ag n a E->z (λd=>e.getD d false) E w->ec .any ops e=[]->hW n K .normal a w:=by
  intro e a E w F x q hr;refine⟨E,x,fin _ E w (λi=>?_) q⟩;induction i using Nat.strongRecOn with
  |_ i G=>
   intro y;cases Y:e.getD i false with
   |true=>rfl
   |false=>
    exfalso;have h:ops[i]? =some ops[i]:=Array.getElem?_eq_getElem y;have N:i∈ec .any ops e:=mem_ready.2 ⟨by
     grind,_,h,λk A L=>G k.on ((Dd D h).2 k A L) (Nat.lt_trans ((Dd D h).2 k A L) y)⟩
    grind
 intro fuel;induction fuel with
 |zero=>
  intro e a E w F x q W;have C:∀i,i<ops.size->e.getD i false=true:=λi y=>by
   cases Y:e.getD i false with
   |true=>rfl
   |false=>
    have:i∈(List.range ops.size).filter λd=>!e.getD d false:=List.mem_filter.2 ⟨List.mem_range.2 y,by grind⟩
    grind
  refine⟨?_,E,x,fin _ E w C q⟩;cases hr:ec .any ops e with
  |nil=>rfl
  |cons i l=>
   have N:i∈ec .any ops e:=by grind
   obtain⟨Q,o,h,_⟩:=mem_ready.1 N
   grind
 |succ fuel G=>
  intro e a E w F x q W;refine⟨done e a E w F x q,λi y=>?_⟩;obtain⟨Q,o,h,C⟩:=mem_ready.1 y;have aa:i<ops.size:=(Array.getElem?_eq_some_iff.1 h).1;have Z:i<e.size:=io
  have S:e.getD i false=false:=by grind
  refine ad0 hn h (Dd D h).1 x (step _ E w i o h S C q) λO B H T J=>?_;have A:(eb (λd=>e.getD d false) i)=λd=>(e.setIfInBounds i true).getD d false:=by
   funext d;by_cases M:i=d
   .subst M;simp[eb,Z]
   .have:bI d i=false:=by rw[<-iF,eJ];omega
    rw[getD_set_ne false M]
    grind
  rw[A]at J;refine G _ O B H (by grind) T J ?_;have ac:((List.range ops.size).filter λd=>!(e.setIfInBounds i true).getD d false)=((List.range ops.size).filter λd=>!e.getD d false).filter λd=>!(bI d i):=by
   rw[List.filter_filter];refine List.filter_congr λd _=>?_;rw[<-congrFun A d]
   grind
  have ab:(((List.range ops.size).filter λd=>!e.getD d false).filter λd=>!(bI d i)).length<((List.range ops.size).filter λd=>!e.getD d false).length:=by
   refine List.length_filter_lt_length_iff_exists.2 ⟨i,List.mem_filter.2 ⟨List.mem_range.2 aa,by grind⟩,?_⟩;have:bI i i=true:=Nat.beq_refl i
   grind
  grind
def afe{c:Code}{id:Nat}{a:Act}{E:Env}{w:I}(e:(Nat->Bool)->Env->I->Prop)(D:P.follows .mixedOrders=true)(B:c=.region id ops true)(k:dD n ops=true)(A:wQ ops=true)(z:Ag n a E)(G:e (λ_=>false) E w.drew)(step:∀d E w i o,ops[i]? =some o->d i=false->(∀j∈o.after,Region.binds .any j=true->d j.on=true)->e d E w->j1 P o E w λq F=>e (eb d i) q F)(fin:∀d E w,(∀i,i<ops.size->d i=true)->e d E w->K E w):c.wpIn (FW n) 0 P (hW n K) a w:=by
 subst B;have H:(λh=>(gq ops.size false).getD h false)=λ_=>false:=by funext h;by_cases C:h<ops.size<;>simp[C]
 have y:=afa (K:=K) k A e step fin ops.size (gq ops.size false) a E w.drew gs z (by grind) (bB (List.length_filter_le _ _) gs);refine wpIn_region_draw λt=>?_;refine tP k (λ⟨_,_,x⟩=>x) _ _ _ ?_;simp only[Region.schedule,D,Bool.true_or,if_true];exact wpAny_sound ops.size t _ a _ y
def G3(P:au)(n:Nat)(c:Code):Bool:=match c with
 |.region _ ops d=>d&&(P.follows .mixedOrders&&(dD n ops&&wQ ops))
 |_=>false
def EK(P:au)(c:Code)(K:Env->I->Prop)(E:Env)(w:I):Prop:=
 ∃e:(Nat->Bool)->Env->I->Prop,e (λ_=>false) E w.drew/\
  (∀d E w i o,(Code.ops c)[i]? =some o->d i=false->(∀h∈o.after,Region.binds .any h=true->d h.on=true)->e d E w->j1 P o E w λj k=>e (eb d i) j k)/\
  ∀d E w,(∀i,i<(Code.ops c).size->d i=true)->e d E w->K E w
abbrev yE(P:au)(c:Code)(K:Env->I->Prop)(E:Env)(w:I):Prop:=EK P (Code.fst c) K E w
variable {Q:Exit->Act->I->Prop} {E:Env} {w:I}
def ig(c:Code)(d:G3 P n c=true)(y:EK P c K E w)(G:∀e j h,Ag n h e->K e j->Q .normal h j):WP P n c Q E w:=by
 obtain⟨q,z,step,fin⟩:=y;unfold G3 at d;split at d
 .rename_i id ops F;simp only[bd]at d;obtain⟨rfl,A,B,C⟩:=d;exact λa D=>wpIn_mono (afe q A rfl B C D z step fin) λx h j k=>by
   cases x with
   |normal=>obtain⟨e,hA,hK⟩:=k;grind
   |_=>exact k.elim
 grind
def si(c:Code)(h:(u7 c&&G3 P n (Code.fst c))=true)(j:yE P c K E w)(x:∀d e,K d e->WP P n (Code.snd c) Q d e):WP P n c Q E w:=
 WP.seq (yD (qN h).1) (ig _ (qN h).2 j λd e y k q=>nx k (x d e q))
end
def rowOf(o:Oper):Op×Option Nat×aE×List Nat:=(o.op,o.dst,o.type,(o.after.toList.filter λd=>Region.binds .any d).map (·.on))
def allI{α:Type}(F:Nat->α->Prop):List α->Nat->Prop
 |[],_=>True
 |a::l,i=>F i a/\allI F l (i+1)
def IJ{α:Type}{F:Nat->α->Prop}:∀{l:List α} {n i:Nat} {a:α},allI F l n->l[i]? =some a->F (n+i) a
 |[],_,i,a,_,d=>by grind
 |b::l,n,0,a,d,e=>by simp at e;subst e;exact d.1
 |b::l,n,i+1,a,d,e=>by
  have:=IJ (i:=i) d.2 (by simpa using e)
  grind
section
variable {P:au} {K:Env->I->Prop} {E:Env} {w:I}
def zl(P:au)(e:(Nat->Bool)->Env->I->Prop)(i:Nat)(r:Op×Option Nat×aE×List Nat):Prop:=
 ∀d E w o,o.op=r.1->o.dst=r.2.1->o.type=r.2.2.1->d i=false->(∀j∈r.2.2.2,d j=true)->e d E w->j1 P o E w λh k=>e (eb d i) h k
def LX{c:Code}(h:List (Op×Option Nat×aE×List Nat))(F:(Code.ops c).toList.map rowOf=h)(e:(Nat->Bool)->Env->I->Prop)(q:e (λ_=>false) E w.drew)(step:allI (zl P e) h 0)(fin:∀d E w,(∀i,i<h.length->d i=true)->e d E w->K E w):EK P c K E w:=by
 refine⟨e,q,λd E w i o D k B j=>?_,λd E w x j=>fin d E w (λi k=>x i ?_) j⟩
 .have z:h[i]? =some (rowOf o):=by grind
  have:=IJ step z;rw[Nat.zero_add]at this;refine this d E w o rfl rfl rfl k (λG y=>?_) j;obtain⟨A,C,rfl⟩:=dA.1 y
  grind
 grind
def qv{o:Oper}{t:Nat}{v:V}(d:o.op=.move (.tmp t)\/o.op=.assign (.tmp t))(h:E.get? t=some v)(q:K (E.put o.dst v) w):j1 P o E w K:=by
 obtain⟨dst,op,j,pos,after,guard⟩:=o;have k:E.ev (.tmp t)=v:=by simp[Env.ev,Env.val,h]
 rcases d with d|d<;>(simp only at d;subst d)
 .show hh P _ E (λv _=>K (E.put dst v) w);have e:E.e7 ⟨dst,.move (.tmp t),j,pos,after,guard⟩=true:=by simp[Env.e7,Op.operands,Env.val,h]
  unfold hh;rw[e];show K (E.put dst (E.ev (.tmp t))) w
  grind
 .show hh P _ E (λv _=>K (E.put dst v) w);have e:E.e7 ⟨dst,.assign (.tmp t),j,pos,after,guard⟩=true:=by simp[Env.e7,Op.operands,Env.val,h]
  unfold hh;rw[e];show K (E.put dst (E.ev (.tmp t))) w
  grind
def tC{o:Oper}{T:aE}{t:Nat}{p:Addr}(d:o.op=.load T (.tmp t))(h:E.get? t=some (.pointer (some p)))(e:oO P T p w λv _=>K (E.put o.dst v) w):j1 P o E w K:=by obtain⟨dst,op,j,pos,after,guard⟩:=o;simp only at d;subst d;show(match E.val (.tmp t)with |some (.pointer (some p))=>oO P T p w (λv _=>K (E.put dst v) w)|_=>False);rw[show E.val (.tmp t)=some (.pointer (some p))from h];exact e
def adU{o:Oper}{f d t2:Nat}{e h:V}(q:o.op=.makeFunc (.func f) #[] #[.tmp d,.tmp t2])(j:E.get? d=some e)(k:E.get? t2=some h)(B:K (E.put o.dst (.func (.func f) #[] #[e,h])) w):j1 P o E w K:=by
 obtain⟨dst,op,y,pos,after,guard⟩:=o;simp only at q;subst q;show hh P _ E (λv _=>K (E.put dst v) w);have x:E.e7 ⟨dst,.makeFunc (.func f) #[] #[.tmp d,.tmp t2],y,pos,after,guard⟩=true:=by simp[Env.e7,Op.operands,Env.val,j,k]
 unfold hh;rw[x];show K (E.put dst (.func (.func f) (#[].map E.ev) (#[.tmp d,.tmp t2].map E.ev))) w;have z:E.ev (.tmp d)=e:=by simp[Env.ev,Env.val,j]
 have A:E.ev (.tmp t2)=h:=by simp[Env.ev,Env.val,k]
 grind
def adV{o:Oper}{T:aE}(d:o.op=.makeMap T none)(h:K (E.put o.dst (.map (some w.heap.size))) (w.alloc (.map #[] 0))):j1 P o E w K:=by
 obtain⟨dst,op,e,pos,after,guard⟩:=o;simp only at d;subst d;have j:E.e7 ⟨dst,.makeMap T none,e,pos,after,guard⟩=true:=by simp[Env.e7,Op.operands]
 have k:uT P ⟨dst,.makeMap T none,e,pos,after,guard⟩ E w (λv q=>K (E.put dst v) q):=by unfold uT;rw[j];exact h
 unfold j1;simp only[calm,cond_false];unfold h0;exact k
def rz{o:Oper}{T:aE}{m k v:Operand}{j h q:V}(e:o.op=.insert T m k v)(z:E.val m=some j)(y:E.val k=some h)(A:E.val v=some q)(x:∃d,(Instr.mapUpdate T j h q).run P w=.ok () d/\K (E.put o.dst undef) d):j1 P o E w K:=by obtain⟨dst,op,B,pos,after,guard⟩:=o;simp only at e;subst e;show(match E.val m,E.val k,E.val v with |some m,some k,some v=>Kr P (Instr.mapUpdate T m k v) w (λv d=>K (E.put dst v) d)|_,_,_=>False);rw[z,y,A];exact x
def HE{o:Oper}{t a b f:Nat}{ts:Array aE}{first captured:Array V}{x y:V}(k:o.op=.call ⟨.value (.tmp t),#[.tmp a,.tmp b],ts⟩)(q:E.get? t=some (.func (.func f) first captured))(h:E.get? a=some x)(j:E.get? b=some y)(D:hy P f=true)(C:ai P f (first++#[x,y]++captured) w λz e=>oK (zeroOf P o.type) λv=>z=ad v/\K (E.put o.dst v) e):j1 P o E w K:=by
 obtain⟨dst,op,d,pos,after,guard⟩:=o;simp only at k;subst k;show cM (E.e7 ⟨dst,.call ⟨.value (.tmp t),#[.tmp a,.tmp b],ts⟩,d,pos,after,guard⟩) (match E.get? t with
  |some (.func (.func f) first captured)=>cM (hy P f) (sa P f (first++(#[Operand.tmp a,.tmp b]).map E.ev++captured) (zeroOf P d) w (λv e=>K (E.put dst v) e))
  |_=>False)
 have F:E.e7 ⟨dst,.call ⟨.value (.tmp t),#[.tmp a,.tmp b],ts⟩,d,pos,after,guard⟩=true:=by simp[Env.e7,Op.operands,Call.operands,Env.val,q,h,j]
 rw[F,q];show cM (hy P f) _;rw[D];have A:E.ev (.tmp a)=x:=by simp[Env.ev,Env.val,h]
 have B:E.ev (.tmp b)=y:=by simp[Env.ev,Env.val,j]
 show sa P f _ _ w _;simp only[List.map_toArray,List.map_cons,List.map_nil,A,B];exact C
def pw(T:List (Nat×Nat×V))(L:Nat->Bool)(E:Env):Prop:=∀d∈T,(bif bI d.1 0 then true else L (d.1 - 1))=true->E.get? d.2.1=some d.2.2
def pw.get{T:List (Nat×Nat×V)}{L:Nat->Bool}(e:pw T L E){i d:Nat}{v:V}(h:(i,d,v)∈T)(hi:(bif bI i 0 then true else L (i - 1))=true):E.get? d=some v:=e _ h hi
def jL{E:Env}{d t:Nat}{v:V}(e:d≠t):(E.put (some d) v).get? t=E.get? t:=by
 have:bI d t=false:=by rw[<-iF,eJ];exact e
 simp only[Env.put,Env.get?,this,cond_false]
def u3{E:Env}{d:Nat}{v:V}:(E.put (some d) v).get? d=some v:=by simp[Env.put,Env.get?]
def pw.fill{T:List (Nat×Nat×V)}{L:Nat->Bool}(w:pw T L E){i d:Nat}{v:V}(x:∀e∈T,e.1=i+1->e=(i+1,d,v))(y:∀e∈T,e.2.1=d->e.1=i+1):pw T (eb L i) (E.put (some d) v):=by
 intro e j A;by_cases h:e.2.1=d
 .obtain rfl:=x e j (y e j h);exact u3
 .rw [jL (λk=>h k.symm)];refine w e j ?_;by_cases q:e.1=0
  .rw [q];rfl
  .have z:bI e.1 0=false:=by rw[<-iF,eJ];exact q
   rw[z]at A ⊢;have B:e.1 - 1≠i:=λk=>h (by grind);have:bI (e.1 - 1) i=false:=by rw[<-iF,eJ];omega
   grind
def pw.pass{T:List (Nat×Nat×V)}{L:Nat->Bool}(q:pw T L E){i:Nat}{d:Option Nat}{v:V}(w:∀e∈T,e.1≠i+1)(x:∀e∈T,d≠some e.2.1):pw T (eb L i) (E.put d v):=by
 intro e h z;have A:(E.put d v).get? e.2.1=E.get? e.2.1:=by
  cases d with
  |none=>rfl
  |some d=>exact jL λj=>x e h (by rw[j])
 rw[A];refine q e h ?_;by_cases k:e.1=0
 .rw [k];rfl
 .have y:bI e.1 0=false:=by rw[<-iF,eJ];exact k
  rw[y]at z ⊢;have B:e.1 - 1≠i:=λj=>w e h io;have:bI (e.1 - 1) i=false:=by rw[<-iF,eJ];omega
  grind
end
structure LC(w:I)(L:List (Nat×List V×aE)):Prop where
 own:∀(i:Nat) (x:Nat×List V×aE),L[i]? =some x->w.heap[x.1]? =some (.cells x.2.1.toArray x.2.2 (0,0))
 dj:∀(i j:Nat) (x y:Nat×List V×aE),L[i]? =some x->L[j]? =some y->x.1=y.1->i=j
abbrev iq(L:List (Nat×List V×aE)):List Nat:=L.map (·.1)
def loc(bs:List Nat)(w:I)(K:I->Prop):Prop:=∀d,Fr (·∈bs) w d->K d
def vr(bs:List Nat)(w:I)(K:Nat->I->Prop):Prop:=∀b d,w.heap.size<=b->d.heap.size=b+1->Fr (·∈bs) w d->K b d
def fF(bs:List Nat)(P:au)(f:b3)(args:Array V)(w:I)(K:aC):Prop:=∃d:Nat->Prop,(∀b∈bs,¬d b)/\ai P f args w λr e=>Fr d w e/\K r e
def kept(bs:List Nat)(w w':I):Prop:=∀b∈bs,w'.heap[b]? =w.heap[b]?
def rm{q:Option Addr}{K K':Addr->Prop}(d:dJ q K)(f:∀p,K p->K' p):dJ q K':=by
 cases q with
 |none=>exact d
 |some p=>exact f p d
def Te{t:Bool}{A e d h:Prop}(j:bD t A e)(k:A->d)(q:e->h):bD t d h:=adi k q j
def adQ{w:I}{p:Addr}{v:V}{K K':I->Prop}(d:aN w p v K)(f:∀e,K e->K' e):aN w p v K':=⟨d.1,d.2.1,f _ d.2.2⟩
section
variable {w wT:I} {L:List (Nat×List V×aE)}
def LC.nil(w:I):LC w []:=⟨λi e d=>by grind,λi h e j d=>by grind⟩
def LC.Wh(H:LC w L){b:Nat}(d:b∈iq L):∃(i:Nat) (x:Nat×List V×aE),L[i]? =some x/\x.1=b:=by
 obtain⟨x,e,rfl⟩:=dA.1 d;obtain⟨i,h⟩:=iB.1 e
 grind
def LC.lt(H:LC w L){b:Nat}(d:b∈iq L):b<w.heap.size:=by obtain⟨i,h,e,rfl⟩:=H.Wh d;exact qb (H.own i h e)
def LC.pZ{w':I}(H:LC w L)(h:kept (iq L) w w'):LC w' L:=
 ⟨λi d e=>by rw[h d.1 (dA.2 ⟨d,aD e,rfl⟩)];exact H.own i d e,H.dj⟩
def LC.fr{M:Nat->Prop}{w':I}(H:LC w L)(f:Fr M w w')(e:∀b∈iq L,¬M b):LC w' L:=H.pZ λb d=>f.cw b (H.lt d) (e b d)
def LC.pick(H:LC w L)(is:List Nat)(A:is.Nodup):LC w (is.filterMap λi=>L[i]?):=by
 induction is with
 |nil=>exact LC.nil w
 |cons x is e=>
  have e:=e (List.nodup_cons.1 A).2;cases q:L[x]? with
  |none=>grind
  |some y=>
   rw[List.filterMap_cons_some q];have back:∀(j:Nat) d,(is.filterMap λi=>L[i]?)[j]? =some d->d.1≠y.1:=by
    intro j d B h;obtain⟨m,E,z⟩:=List.mem_filterMap.1 (aD B);have:=H.dj m x d y z q h
    grind
   refine⟨λi d k=>?_,λi j d C k D h=>?_⟩
   .cases i with
    |zero=>simp at k;subst k;exact H.own x y q
    |succ i=>exact e.own i d (by grind)
   .cases i with
    |zero=>
     grind
    |succ i=>
     cases j with
     |zero=>grind
     |succ j=>rw[e.dj i j d C (by grind) (by grind) h]
def LC.alloc(H:LC w L)(o:Obj):LC (w.alloc o) L:=H.fr (M:=λ_=>False) (Fr.alloc _ _ _) (λ_ _ d=>d)
def LC.push(H:LC w L)(cs:Array V)(T:aE):LC (w.alloc (.cells cs T)) (L++[(w.heap.size,cs.toList,T)]):=by
 have y:=H.alloc (.cells cs T);have B:∀(i:Nat) d,L[i]? =some d->d.1<w.heap.size:=λi d e=>qb (H.own i d e);have j:∀(i:Nat) d,(L++[(w.heap.size,cs.toList,T)])[i]? =some d->(L[i]? =some d)\/(i=L.length/\d=(w.heap.size,cs.toList,T)):=by grind
 refine⟨λi d e=>?_,λi q d x e A z=>?_⟩
 .rcases j i d e with h|⟨_,rfl⟩
  .exact y.own i d h
  .simp only[Array.toArray_toList];exact m6 w _
 .rcases j i d e with h|⟨h,rfl⟩
  .rcases j q x A with k|⟨k,rfl⟩
   .exact H.dj i q d x h k z
   grind
  grind
def Dg(L:List (Nat×List V×aE))(i:Nat){b:Nat}{vs d:List V}{T:aE}(hi:L[i]? =some (b,vs,T)):iq (L.set i (b,d,T))=iq L:=by
 apply List.ext_getElem?
 grind
def LC.set(H:LC w L)(i j:Nat){b:Nat}{vs:List V}{T:aE}{v:V}(hi:L[i]? =some (b,vs,T))(M:j<vs.length)(f:Fr (·∈iq L) wT w):
  (w.cell? ((aa b).add j)).isSome=true/\w.frozen? ((aa b).add j)=false/\LC (w.setCell ((aa b).add j) v) (L.set i (b,vs.set j v,T))/\Fr (·∈iq (L.set i (b,vs.set j v,T))) wT (w.setCell ((aa b).add j) v):=by
 obtain⟨E,F,N,x⟩:=BI (H.own i _ hi) j io v;have A:b∈iq L:=dA.2 ⟨_,aD hi,rfl⟩;refine⟨E,F,⟨λk d e=>?_,λk m d q e B h=>?_⟩,?_⟩
 .rw [List.getElem?_set]at e;split at e
  .grind
  .rename_i C;have:=x.cw d.1 (qb (H.own k d e)) (λh=>C (H.dj i k _ d hi e h.symm));rw[this];exact H.own k d e
 .have g:∀(k:Nat) d,(L.set i (b,vs.set j v,T))[k]? =some d->∃q,L[k]? =some q/\q.1=d.1:=by grind
  obtain⟨D,y,J⟩:=g k d e;obtain⟨G,z,K⟩:=g m q B;exact H.dj k m D G y z io
 .rw [Dg L i hi];exact f.trans x λd _ h=>h▸A
def kK{bs:List Nat}{P:au}{f:b3}{args:Array V}{K:aC}(d:ai P f args w λr e=>af w e/\K r e):fF bs P f args w K:=⟨λ_=>False,λ_ _ d=>d,d⟩
end
def En.g(b:Nat):En:=⟨[b],λd=>b<d.heap.size,λd k h e=>(by grind),λd e q j=>by grind,gs⟩
section
variable {M:Nat->Prop} {w0 w:I} {L D:List En} {bs:List Nat}
def O.ghost(H:O M w0 w L D){w':I}(f:Fr (·∈bs) w w')(k:∀b∈bs,En.g b∈L):O M w0 w' L D:=by
 refine⟨H.fr.trans f λC G j=>(H.new _ (k C j) C (by simp[En.g])).resolve_left io,λd e=>?_,λd e=>?_,H.new,H.nd,H.dj⟩
 .by_cases z:∃b∈bs,b∈d.fp
  .obtain ⟨b,h,E⟩:=z;obtain⟨i,A⟩:=iB.1 e;obtain⟨B,q⟩:=iB.1 (k b h);have F:i=B:=by
    rcases Nat.decEq i B with y|y
    .exact absurd (by simp[En.g]) (j' H.nd A q y b E)
    omega
   subst F;rw[A]at q;cases q;exact pe (H.own _ e) f.size
  .exact d.st w w' (λb h x=>f.cw b x λj=>z ⟨b,j,h⟩) (H.own d e)
 .exact d.st w w' (λb h x=>f.cw b x λj=>H.dj d e b h _ (k b j) (by simp[En.g])) (H.rd d e)
def O.ae(H:O M w0 w L D){K:I->Prop}(h:∀d,O M w0 d L D->K d)(e:∀b∈bs,En.g b∈L:=by simp):loc bs w K:=λ_ f=>h _ (H.ghost f e)
def O.ax(H:O M w0 w L D){K:Nat->I->Prop}(C:∀b q,O M w0 q (L++[.g b]) D->K b q)(B:∀b∈bs,En.g b∈L:=by simp):vr bs w K:=λb q A F f=>C b q (by
 have x:=H.ghost f B;refine⟨x.fr,λh d=>?_,x.rd,λh d k e=>?_,?_,λh d k e z j y=>?_⟩
 .rcases aP.1 d with d|d
  .exact x.own h d
  .simp at d;subst d;show b<_;omega
 .rcases aP.1 d with d|d
  .exact H.new h d k e
  .simp at d;subst d;simp[En.g]at e;subst e;exact .inl (bB H.fr.size A)
 .rw [List.flatMap_append,ff];refine⟨H.nd,by simp[En.g],λk e G E=>?_⟩;have:=H.tc k e;simp[En.g]at E;omega
 .rcases aP.1 j with j|j
  .exact H.dj h d k e z j y
  .simp at j;subst j;simp[En.g]at y;subst y;have:=h.lt w (H.rd h d) k e;omega)
def O.av(H:O M w0 w L D){P:au}{g:b3}{args:Array V}{A K:aC}(h:ai P g args w λr d=>A r d/\af w d)(j:∀r d,A r d->O M w0 d L D->K r d):fF bs P g args w K:=
 kK (h.mono λr d ⟨e,f⟩=>⟨f,j r d e (H.cA f)⟩)
def O.call(H:O M w0 w L D){P:au}{g:b3}{args:Array V}{A K:aC}(h:ai P g args w λr d=>A r d/\af w d)(j:∀r d,A r d->O M w0 d L D->K r d):ai P g args w K:=
 h.mono λr d ⟨e,f⟩=>j r d e (H.cA f)
def O.RB(H:O M w0 w L D){w':I}(f:af w w'){e:aE}{sz:Nat}{s:Sl}{vs:List V}(d:aK w' e sz s vs)(h:∀b∈aG s,w.heap.size<=b):O M w0 w' (L++[.row e sz s vs]) D:=H.push (.row e sz s vs) f d h
def O.IL(H:O M w0 w L D)(i:Nat){P:au}{t ty e:aE}{z:V}{sz bytes:Nat}(E:fO P t e z sz bytes){s src:Sl}{xs news:List V}{K:Sl->I->Prop}(hi:L[i]? =some (.row e sz s xs))(Y:fN w src news)(W:news.length=src.n *sz)(S:∀u∈news,u.oneCell'=true)(j:(s.n+src.n) *bytes<=140737488355328)(T:∀d h,O M w0 h (L.set i (.row e sz d (xs++news))) D->d.n=s.n+src.n->(d.a=none->s.a=none/\src.n=0)->(∀b,En.g b∈L->h.heap[b]? =w.heap[b]?)->K d h):
  ∃d h,(fM #[t,t] ty #[s.v,src.v]).run P w=.ok d.v h/\K d h:=by
 obtain⟨d,h,F,G,J,y,N,Q⟩:=zx (ty:=ty) E (H.get i hi) Y W S j;refine⟨d,h,F,T d h (H.fx i (.row e sz d (xs++news)) hi y G N) J Q λb j=>?_⟩;refine y.cw b (H.own _ j) λC=>?_;obtain⟨Z,q⟩:=iB.1 j;by_cases B:i=Z
 .subst B;rw[hi]at q;cases ab:(En.row e sz s xs)with
  |mk aa P' st lt ae=>
   have k:En.row e sz s xs=En.g b:=ed q;have x:(En.row e sz s xs).P=(En.g b).P:=by rw[k]
   have e3:=congrFun x w;have e4:(En.row e sz s xs).P (w.alloc (.cells #[] e))=(En.g b).P (w.alloc (.cells #[] e)):=by rw[k]
   have f1:(En.row e sz s xs).fp=(En.g b).fp:=by rw[k]
   have A:(En.g b).P ({w with heap:=gq (b+1) (.map #[] 0)}):=by show b<_;simp
   rw[<-x]at A;have ac:=(aK.row (show aK ({w with heap:=gq (b+1) (.map #[] 0)}) e sz s xs from A)).tL b C
   grind
 .exact j' H.nd hi q B b C (by simp[En.g])
end
def bh(sz:Nat)(w:I)(s:Sl)(vs:List V):Prop:=vs.length=s.n *sz/\s.n<=s.c/\fN w s vs
def bh.fr{sz:Nat}{M:Nat->Prop}{w w':I}{s:Sl}{vs:List V}(d:bh sz w s vs)(e:Fr M w w')(h:∀b∈aG s,¬M b):bh sz w' s vs:=⟨d.1,d.2.1,d.2.2.fr e h⟩
def bh.cA{sz:Nat}{w w':I}{s:Sl}{vs:List V}(d:bh sz w s vs)(e:af w w'):bh sz w' s vs:=d.fr e λ_ _ d=>d
def aK.a3{w:I}{e:aE}{sz:Nat}{s:Sl}{vs:List V}(d:aK w e sz s vs):bh sz w s vs:=⟨d.len,d.cap,d.row.sj⟩
def bh.nil(sz:Nat)(w:I):bh sz w ⟨none,0,0⟩ []:=⟨gs,bw _,fN.nil w⟩
def En.a3(sz:Nat)(s:Sl)(vs:List V):En:=⟨if vs=[]then[]else aG s,λq=>bh sz q s vs,λq A w d=>by
  refine⟨d.1,d.2.1,d.2.2.1,λi v y=>?_⟩;obtain⟨p,h,e⟩:=d.2.2.2 i v y;have k:vs≠[]:=λz=>by grind
  rw[ab k]at w;have:=w p.block (by simp[aG,h]) (by have:=pH e;rwa[kG]at this);refine⟨p,h,?_⟩;unfold World.cell? at e ⊢;rw[kG]at e ⊢
  grind,λq d b j=>by
  split at j
  .cases j
  .rename_i k;have x:0<vs.length:=List.length_pos_iff.2 k;obtain⟨p,h,e⟩:=d.2.2.2 0 vs[0] (aY x);simp[aG,h]at j;subst j;have:=pH e
   rwa[kG]at this,by split<;>(try simp);unfold aG;grind⟩
def mI(sz:Nat)(s:Sl)(l d:Nat):Sl:=⟨if s.c=l then s.a else s.a.map (·.add (l *sz)),d - l,s.c - l⟩
def bh.sub{sz:Nat}{w:I}{s:Sl}{vs:List V}(j:bh sz w s vs)(l hi:Nat)(D:l<=hi)(y:hi<=s.n):bh sz w (mI sz s l hi) ((vs.take (hi *sz)).drop (l *sz)):=by
 obtain⟨k,B,C,q⟩:=j;have h:hi *sz<=s.n *sz:=lx _ y;refine⟨?_,?_,?_,λi v e=>?_⟩
 .rw [List.length_drop,List.length_take,k,Nat.min_eq_left h];show _=(hi - l) *sz;rw[Nat.sub_mul]
 .show hi - l<=s.c - l;omega
 .intro d;unfold mI at d ⊢;simp only at d ⊢;split at d
  .omega
  .cases G:s.a with
   |none=>grind
   |some p=>grind
 .rw [List.getElem?_drop]at e;have z:l *sz+i<hi *sz:=by grind
  rw[List.getElem?_take,ag z]at e;obtain⟨p,F,x⟩:=q _ _ e;have E:s.c≠l:=λA=>by grind
  refine⟨p.add (l *sz),?_,?_⟩
  .unfold mI
   grind
  .rw [add_add];exact x
def mB:List Nat->List Nat
 |[]=>[]
 |a::l=>if a∈mB l then mB l else a::mB l
def aW{x:Nat}:∀{l:List Nat},x∈mB l↔x∈l
 |[]=>Iff.rfl
 |a::l=>by
  unfold mB;split
  .rename_i e;rw[aW,aF];exact⟨.inr,λh=>h.elim (λd=>by subst d;exact aW.1 e) id⟩
  .rw [aF,aF,aW]
def s8:∀l:List Nat,(mB l).Nodup
 |[]=>.nil
 |a::l=>by
  unfold mB;split
  .exact s8 l
  .rename_i d;exact List.nodup_cons.2 ⟨d,s8 l⟩
def En.all(es:List En):En:=⟨mB (es.flatMap (·.fp)),λe=>∀d∈es,d.P e,λe y q k d h=>d.st e y (λb j x=>q b (aW.2 (ck.2 ⟨d,h,j⟩)) x) (k d h),
 λe k b j=>(by obtain⟨d,h,w⟩:=ck.1 (aW.1 j);exact d.lt e (k d h) b w),s8 _⟩
section
variable {M:Nat->Prop} {w0 w:I} {L D:List En} {bs:List Nat}
structure Cw(M:Nat->Prop)(w0 w w':I)(L D:List En):Prop where
 own:∀e:En,e.P w'->(∀b∈e.fp,w.heap.size<=b)->O M w0 w' (L++[e]) D
 rd:∀e:En,e.P w'->(∀b∈e.fp,w.heap.size<=b)->O M w0 w' L (D++[e])
def O.fresh(H:O M w0 w L D){w':I}(f:af w w'):Cw M w0 w w' L D:=⟨λd e h=>H.push d f e h,λd e h=>H.ef d f e λb j=>.inl (h b j)⟩
def O.g9(H:O M w0 w L D){P:au}{g:b3}{args:Array V}{A K:aC}(h:ai P g args w λr d=>A r d/\af w d)(j:∀r d,A r d->O M w0 d L D->Cw M w0 w d L D->K r d):fF bs P g args w K:=
 kK (h.mono λr d ⟨e,f⟩=>⟨f,j r d e (H.cA f) (H.fresh f)⟩)
def O.DA(H:O M w0 w L D){P:au}{g:b3}{args:Array V}{A K:aC}(h:ai P g args w λr d=>A r d/\af w d)(j:∀r d,A r d->O M w0 d L D->Cw M w0 w d L D->K r d):ai P g args w K:=
 h.mono λr d ⟨e,f⟩=>j r d e (H.cA f) (H.fresh f)
end
def o1{sz:Nat}{s:Sl}{vs:List V}{n:Nat}(e:∀b∈aG s,n<=b):∀b∈(En.a3 sz s vs).fp,n<=b:=λb d=>by
 have:b∈(if vs=[]then[]else aG s):=d
 grind
section
variable {M:Nat->Prop} {w0 w:I} {L D:List En} {bs:List Nat}
def O.eL(H:O M w0 w L D)(i:Nat){P:au}{t ty e:aE}{z:V}{sz bytes:Nat}(k:fO P t e z sz bytes){s src:Sl}{xs news:List V}{K:Sl->I->Prop}(hi:L[i]? =some (.row e sz s xs))(j:bh sz w src news)(x:∀u∈news,u.oneCell'=true)(A:(s.n+src.n) *bytes<=140737488355328)(y:∀h d,O M w0 d (L.set i (.row e sz h (xs++news))) D->K h d)(C:∀b∈bs,En.g b∈L:=by simp):
  ∃h d,(fM #[t,t] ty #[s.v,src.v]).run P w=.ok h.v d/\kept bs w d/\K h d:=
 H.IL i k (K:=λh d=>kept bs w d/\K h d) hi j.2.2 j.1 x A λh d q _ _ E=>⟨λb B=>E b (C b B),y h d q⟩
def O.jE(H:O M w0 w L D)(i:Nat){P:au}{t ty e:aE}{z:V}{sz bytes:Nat}(q:fO P t e z sz bytes){T:aE}{s:Sl}{xs:List V}{news:Array V}{K:Sl->I->Prop}(hi:L[i]? =some (.row e sz s xs))(y:∀h d,O M w0 d (L.set i (.row e sz h (xs++news.toList))) D->K h d)(A:(s.n+1) *bytes<=140737488355328)(C:news.size=sz:=by rfl)(x:∀u∈news.toList,u.oneCell'=true:=by simp[Value.oneCell'])(B:∀b∈bs,En.g b∈L:=by simp):
  de w (.cells news T) λj=>∃h d,(fM #[t,t] ty #[s.v,.slice (some (Addr.mk w.heap.size 0 none)) 1 1]).run P j=.ok h.v d/\kept bs j d/\K h d:=by have k:O M w0 (w.alloc (.cells news T)) L D:=H.cA (Fr.alloc _ _ _);exact k.eL i q (src:=⟨some (aa w.heap.size),1,1⟩) (ty:=ty) (K:=K) (news:=news.toList) hi ⟨by grind,bw _,(Row.made w T 1 1 news.toList).sj⟩ x A y B
end
def Gz{w:I}{e:aE}{sz:Nat}{s:Sl}{vs:List V}(h:aK w e sz s vs)(i:Nat)(hi:i<vs.length)(v:V):
  ∃p,s.a=some p/\p.block∈aG s/\(w.cell? (p.add i)).isSome=true/\w.frozen? (p.add i)=false/\aK (w.setCell (p.add i) v) e sz s (vs.set i v)/\Fr (·∈aG s) w (w.setCell (p.add i) v):=by
 have B:=h.len;rcases h.cases with⟨rfl,rfl⟩|⟨g,cur,d,j,k,x,y,z⟩
 .simp at hi
 .have C:s.n *sz<=s.c *sz:=lx _ k;have A:i<cur.size:=io
  have q:g∈aG s:=by simp[aG,d]
  refine⟨⟨g,0,none⟩,d,q,?_,frozenAt (p:=⟨g,0,none⟩) j,?_,Fr.set _ _ _ (by rw[kG];exact q)⟩
  .rw [cellAt (p:=⟨g,0,none⟩) (v:=cur[i]) j rfl (by simp[A])];rfl
  .refine ⟨by simpa using h.1,.inr ⟨g,s.c,cur.setIfInBounds i v,?_,dc _,?_,k,x,by simpa using y,?_⟩⟩
   .obtain ⟨a,n,c⟩:=s;simp only at d;subst d;rfl
   .have:=setAt (p:=⟨g,0,none⟩) (i:=i) (v:=v) j rfl;simpa using this
   .rw [Array.toList_setIfInBounds,List.take_set,z]
section
variable {M:Nat->Prop} {w0 w:I} {L D:List En} {bs:List Nat}
def O.Ad(H:O M w0 w L D){i:Nat}{e:aE}{sz:Nat}{s:Sl}{xs:List V}(hi:L[i]? =some (.row e sz s xs)){b:Nat}(y:En.g b∈L):b∉aG s:=λk=>by
 obtain⟨A,d⟩:=iB.1 y;by_cases j:i=A
 .subst j;rw[hi]at d;have q:En.row e sz s xs=En.g b:=ed d;have x:(En.row e sz s xs).P=(En.g b).P:=by rw[q]
  have h:(En.g b).P ({w with heap:=gq (b+1) (.map #[] 0)}):=by show b<_;simp
  rw[<-x]at h;obtain⟨B,f,z⟩:=(aK.row (show aK ({w with heap:=gq (b+1) (.map #[] 0)}) e sz s xs from h)).tL b k;simp at z
 .exact j' H.nd hi d j b k (by simp[En.g])
def O.v'(H:O M w0 w L D)(i a c:Nat){e:aE}{sz:Nat}{s:Sl}{xs:List V}{v:V}{p:Addr}{K:I->Prop}(hi:L[i]? =some (.row e sz s xs))(B:s.a=some p)(z:a+c<xs.length)(y:∀k,O M w0 k (L.set i (.row e sz s (xs.set (a+c) v))) D->K k)(h:∀b∈bs,En.g b∈L:=by simp):aN w ((p.add a).add c) v λq=>kept bs w q/\K q:=by obtain⟨J,j,G,C,E,F,x⟩:=Gz (H.get i hi) (a+c) z v;rw[B]at j;cases j;rw[add_add];refine⟨C,E,λb d=>?_,y _ (H.fx i (.row e sz s (xs.set (a+c) v)) hi x F (λb d=>.inl d))⟩;exact x.cw b (H.own _ (h b d)) λA=>H.Ad hi (h b d) A
end
def nn:List Bool->List En->List En
 |true::m,a::l=>a::nn m l
 |false::m,_::l=>nn m l
 |_,_=>[]
def vY:∀(m:List Bool) (l:List En),(nn m l).Sublist l
 |[],l=>by unfold nn;exact List.nil_sublist _
 |true::m,[]=>by unfold nn;exact List.nil_sublist _
 |false::m,[]=>by unfold nn;exact List.nil_sublist _
 |true::m,a::l=>by unfold nn;exact(vY m l).cons_cons a
 |false::m,a::l=>by unfold nn;exact(vY m l).cons a
def ad7{α β:Type}{f:α->List β}{l m:List α}(e:l.Sublist m):(l.flatMap f).Sublist (m.flatMap f):=by
 induction e with
 |slnil=>exact List.Sublist.refl _
 |cons a _ d=>rw[dz];exact d.trans (List.sublist_append_right _ _)
 |cons_cons a _ d=>rw[dz,dz];exact(List.Sublist.refl _).append d
def O.nn{M:Nat->Prop}{w0 w:I}{L D:List En}(H:O M w0 w L D)(m:List Bool):O M w0 w (nn m L) D:=
 ⟨H.fr,λd e=>H.own d ((vY m L).subset e),H.rd,λd e=>H.new d ((vY m L).subset e),(ad7 (vY m L)).nodup H.nd,λd e b j h k=>H.dj d e b j h ((vY m L).subset k)⟩
def vM{s:Sl}{vs:List V}{n:Nat}(d:∀b∈aG s,n<=b):∀b∈(En.rd s vs).fp,n<=b:=λb e=>by
 have:b∈(if vs=[]then[]else aG s):=e;split at this
 .cases this
 .exact d b this
def xw{M:Nat->Prop}{w0 w:I}{L D:List En}(H:O M w0 w L D){i:Nat}{e:En}(hi:L[i]? =some e)(x:∀(b:Nat),¬e.P ({w with heap:=gq (b+1) (.map #[] 0)})){b:Nat}(k:En.g b∈L):b∉e.fp:=by
 obtain⟨y,d⟩:=iB.1 k;by_cases h:i=y
 .subst h;rw[hi]at d;have j:e=En.g b:=ed d;exfalso;refine x b ?_;rw[j];show b<_;simp
 .intro q;exact j' H.nd hi d h b q (by simp[En.g])
section
variable {M:Nat->Prop} {w0 w:I} {L D:List En} {bs:List Nat}
def O.tA(H:O M w0 w L D)(i j:Nat){e:aE}{sz:Nat}{s:Sl}{xs:List V}{v:V}{p:Addr}{K:I->Prop}(hi:L[i]? =some (.row e sz s xs))(C:s.a=some p)(A:j<xs.length)(z:∀q,O M w0 q (L.set i (.row e sz s (xs.set j v))) D->K q)(h:∀b∈bs,En.g b∈L:=by simp):aN w (p.add j) v λx=>kept bs w x/\K x:=by obtain⟨N,k,J,E,F,G,y⟩:=Gz (H.get i hi) j A v;rw[C]at k;cases k;refine⟨E,F,λb d=>?_,z _ (H.fx i (.row e sz s (xs.set j v)) hi y G (λb d=>.inl d))⟩;exact y.cw b (H.own _ (h b d)) λB=>H.Ad hi (h b d) B
end
def Gv{p:Addr}{K:Addr->Prop}(d:K p):dJ (some p) K:=d
def acN{w:I}{e:aE}{s:Sl}{vs:List V}(d:aK w e 1 s vs){X:Int}{i:Nat}(h:X=(i:Int)){v:V}(hi:vs[i]? =some v){K:Addr->Prop}(j:∀p,s.a=some p->w.cell? (p.add (Int.toNat X *1))=some v->K p):
  (0:Int)<=X/\X<(s.n:Int)/\dJ s.a K:=by have q:=d.len;have k:=(cL.1 hi).1;subst h;exact⟨io,io,Rd.get d.Bp (i:=i) (v:=v) hi gs j⟩
abbrev oh(s:Sl)(i:Int)(K:Addr->Prop):Prop:=0<=i/\i<(s.n:Int)/\dJ s.a K
end Go.W
end
