import Derived.OrdersHeld
import Derived.OrdersIn
import Derived.RangeFuncLeaves
import Derived.RangeFuncRecord
import Derived.RangeFuncSeq
import Derived.WalkKit
import Derived.Laws.AppendOwn
import Derived.Laws.StructEq
import Derived.KernelRfl
import Derived.Below
import Derived.OwnWalk
import Derived.IntWalk
import Derived.Laws.AppendOwnNone
set_option linter.unusedVariables false
namespace Go.W
open List renaming mem_append->fW,mem_cons->cU,mem_of_getElem?->dC,getElem?_eq_getElem->g7,getElem?_eq_some_iff->nP,mem_append_right->qmR,mem_flatMap->mV,mem_map->o8,mem_of_mem_take->KC,mem_singleton->UY,flatMap_append->qfA,flatMap_cons->qfC,mem_iff_getElem?->KB,getElem?_set->qgT,mem_or_eq_of_mem_set->qmO,nodup_append->qnA,mem_cons_of_mem->qmCM,mem_cons_self->qmCS,all_eq_true->qaT,getElem?_take->qgTk,eq_nil_of_length_eq_zero->UX
abbrev Env:=List (Nat×Value)
def Env.get? :Env->Nat->Option Value
 |[],_=>none
 |(k,v)::E,t=>bif Nat.beq k t then some v else Env.get? E t
def Env.val (E:Env):Operand->Option Value
 |.tmp t=>E.get? t
 |.const v=>some v
 |.global g=>some (.pointer (some ⟨g,0,none⟩))
 |.func f=>some (.func (.func f) #[] #[])
def Env.ev (E:Env) (x:Operand):Value:=(E.val x).getD undef
def Env.put (E:Env) (d:Option Nat) (v:Value):Env:=
 match d with
 |some d=>(d,v)::E
 |none=>E
def Env.fT (E:Env) (o:Oper):Bool:=o.op.operands.toList.all λx=>(E.val x).isSome
structure Cx where
 n:Nat
 ds:List Deferred
 ro:Option Nat
instance:CoeHead Cx Nat:=⟨Cx.n⟩
abbrev cx (n:Nat):Cx:=⟨n,[],none⟩
abbrev FW (n:Cx):Fence:={Fence.wide with round:=n.ro}
structure Ag (n:Cx) (a:Act) (E:Env):Prop where
 defers:a.defers=n.ds
 size:a.tmps.size=n.n
 get:∀t v,E.get? t=some v->a.tmps[t]? =some v
theorem Ag.val {n:Cx} {a:Act} {E:Env} (h:Ag n a E) {x:Operand} {v:Value} (hx:E.val x=some v):a.eval x=v:=by
 cases x with
 |tmp t=>have:=h.get t v hx;simp [Act.eval,this]
 |const u=>simpa [Env.val,Act.eval] using hx
 |global g=>simpa [Env.val,Act.eval] using hx
 |func f=>simpa [Env.val,Act.eval] using hx
theorem Ag.ev {n:Cx} {a:Act} {E:Env} (h:Ag n a E) {x:Operand} (hx:(E.val x).isSome=true):a.eval x=E.ev x:=by
 obtain ⟨v,hv⟩:=Option.isSome_iff_exists.1 hx
 rw [h.val hv,Env.ev,hv];rfl
theorem Ag.put {n:Cx} {a:Act} {E:Env} (h:Ag n a E) {d:Option Nat} (v:Value) (hd:∀t,d=some t->t<n.n):Ag n (a.put d v) (E.put d v):=by
 cases d with
 |none=>exact h
 |some t=>
  refine ⟨h.defers,by simp [Act.put,h.size],?_⟩
  intro s u hs
  have ht:t<a.tmps.size:=by rw [h.size];exact hd t rfl
  simp only [Env.put,Env.get?] at hs
  by_cases e:t=s
  .subst e
   simp at hs
   simp [Act.put,ht,hs]
  .have:Nat.beq t s=false:=by rw [<-Bool.not_eq_true,Nat.beq_eq];exact e
   simp only [this,cond_false] at hs
   simpa [Act.put,Array.getElem?_setIfInBounds_ne e] using h.get s u hs
theorem Ag.nil {n:Cx} {a:Act} {E:Env} (h:Ag n a E):Ag n a []:=⟨h.defers,h.size,λ_ _ h=>by simp [Env.get?] at h⟩
theorem Ag.cons {n:Cx} {a:Act} {E F:Env} (h:Ag n a E) {t:Nat} {v:Value} (ht:E.get? t=some v) (hF:Ag n a F):Ag n a ((t,v)::F):=by
 refine ⟨h.defers,h.size,?_⟩
 intro s u hs
 simp only [Env.get?] at hs
 by_cases e:t=s
 .subst e;simp at hs;subst hs;exact h.get _ _ ht
 .have:Nat.beq t s=false:=by rw [<-Bool.not_eq_true,Nat.beq_eq];exact e
  simp only [this,cond_false] at hs
  exact hF.get s u hs
theorem Ag.execOp {n:Cx} {a:Act} {E:Env} (h:Ag n a E) {o:Oper} (hs:∀cs b,o.op≠.select cs b) (hc:E.fT o=true):execOp a.eval o=execOp E.ev o:=
 execOp_congr o hs λx hx=>h.ev (by
  have:=qaT.1 hc x (by simpa using hx)
  exact this)
structure Sl where
 a:Option Addr
 n:Nat
 c:Nat
abbrev Sl.v (s:Sl):Value:=.slice s.a s.n s.c
abbrev aD:=Ending->World->Prop
structure Fv where
 n:Nat
 bs:Array Value
 cs:Array Value
abbrev Fv.v (f:Fv):Value:=.func (.func f.n) f.bs f.cs
def yO (z:Value) (K:Value->Prop):Prop:=
 match z with
 |.int k _=>∃n:Int,K (.int k n)
 |.bool _=>∃b:Bool,K (.bool b)
 |.string _=>∃s:ByteArray,K (.string s)
 |.slice _ _ _=>∃s:Sl,K s.v
 |.pointer _=>∃a:Option Addr,K (.pointer a)
 |.map _=>∃r:Option Nat,K (.map r)
 |_=>∃v:Value,K v
def ya:List Value->(List Value->Prop)->Prop
 |[],K=>K []
 |z::zs,K=>yO z λv=>ya zs λvs=>K (v::vs)
def B1 (z:Value) (K:Value->Prop):Prop:=
 match z with
 |.agg cs=>ya cs.toList λvs=>K (.agg vs.toArray)
 |z=>yO z K
def B2:List Value->(List Value->Prop)->Prop
 |[],K=>K []
 |z::zs,K=>B1 z λv=>B2 zs λvs=>K (v::vs)
def va (z:Value) (K:Value->Prop):Prop:=
 match z with
 |.tuple zs=>B2 zs.toList λvs=>K (.tuple vs.toArray)
 |z=>B1 z K
theorem sA {z:Value} {K:Value->Prop} (h:yO z K):∃v,K v:=by
 unfold yO at h
 split at h
 .obtain ⟨n,h⟩:=h;exact ⟨_,h⟩
 .obtain ⟨n,h⟩:=h;exact ⟨_,h⟩
 .obtain ⟨n,h⟩:=h;exact ⟨_,h⟩
 .obtain ⟨n,h⟩:=h;exact ⟨_,h⟩
 .obtain ⟨n,h⟩:=h;exact ⟨_,h⟩
 .obtain ⟨n,h⟩:=h;exact ⟨_,h⟩
 .exact h
theorem q9:∀{zs:List Value} {K:List Value->Prop},ya zs K->∃vs,vs.length=zs.length/\K vs
 |[],_,h=>⟨[],rfl,h⟩
 |_::_,_,h=>by
  obtain ⟨v,h⟩:=sA h
  obtain ⟨vs,hl,h⟩:=q9 h
  exact ⟨v::vs,by simp [hl],h⟩
theorem xo {z:Value} {K:Value->Prop} (h:B1 z K):∃v,K v:=by
 unfold B1 at h
 split at h
 .obtain ⟨vs,_,h⟩:=q9 h;exact ⟨_,h⟩
 .exact sA h
theorem vb:∀{zs:List Value} {K:List Value->Prop},B2 zs K->∃vs,K vs
 |[],_,h=>⟨[],h⟩
 |_::_,_,h=>by
  obtain ⟨v,h⟩:=xo h
  obtain ⟨vs,h⟩:=vb h
  exact ⟨v::vs,h⟩
theorem mI {z:Value} {K:Value->Prop} (h:va z K):∃v,K v:=by
 unfold va at h
 split at h
 .obtain ⟨vs,h⟩:=vb h;exact ⟨_,h⟩
 .exact xo h
def hO (b:Bool) (p:Prop):Prop:=match b with |true=>p|false=>False
theorem bX {b:Bool} {p:Prop} (h:hO b p):b=true/\p:=by
 cases b
 .exact h.elim
 .exact ⟨rfl,h⟩
def aH (t:Bool) (A B:Prop):Prop:=match t with |true=>A|false=>B
theorem bB {t:Bool} {A B:Prop} (h1:t=true->A) (h2:t=false->B):aH t A B:=by
 cases t
 .exact h2 rfl
 .exact h1 rfl
theorem aS {t:Bool} {A B:Prop} (ht:t=true) (h:A):aH t A B:=by subst ht;exact h
theorem aM {t:Bool} {A B:Prop} (ht:t=false) (h:B):aH t A B:=by subst ht;exact h
def aX (q:Option Addr) (K:Addr->Prop):Prop:=match q with |some p=>K p|none=>False
theorem Bo {q:Option Addr} {K:Addr->Prop} (h:aX q K):∃p,q=some p/\K p:=by
 cases q with
 |none=>exact h.elim
 |some p=>exact ⟨p,rfl,h⟩
def I6:List Prop->Prop->Prop
 |[],p=>p
 |q::l,p=>q/\I6 l p
theorem pn:∀{l:List Prop} {p:Prop},I6 l p->(∀q∈l,q)/\p
 |[],_,h=>⟨λ_ h=>(by cases h),h⟩
 |_::_,_,h=>⟨λq hq=>by
   rcases cU.1 hq with rfl|hq
   .exact h.1
   .exact (pn h.2).1 q hq,(pn h.2).2⟩
def rq {α:Type} (P:Program):Sem α->Option α
 |.pure a=>some a
 |.program k=>rq P (k P)
 |_=>none
theorem tJ {α:Type} {P:Program}:∀{s:Sem α} {a:α},rq P s=some a->∀w,s.run P w=.ok a w
 |.pure _,_,h,w=>by simp [rq] at h;subst h;rfl
 |.program k,_,h,w=>by simp only [rq] at h;exact tJ h w
 |.load ..,_,h,_|.store ..,_,h,_|.new ..,_,h,_|.shape ..,_,h,_|.freeze ..,_,h,_|.frozen ..,_,h,_|.getObj ..,_,h,_|.setObj ..,_,h,_
 |.choose ..,_,h,_|.sys ..,_,h,_|.mark ..,_,h,_|.halt ..,_,h,_=>by simp [rq] at h
def zeroOf (P:Program) (t:TypeId):Value:=((P.info? t).bind (·.zero)).getD undef
def calm (P:Program) (o:Oper):Bool:=
 match o.op with
 |.convert s d _=>match P.underlying s,P.underlying d with
  |some (.slice _),some (.slice _)=>false
  |some .string,some (.slice _)=>false
  |_,_=>true
 |.move _|.assign _|.pick ..|.build ..|.load ..|.nilCheck _|.binOp ..|.unOp ..|.makeInterface ..|.makeFunc ..|.slice ..|.fieldAddr ..|.field ..|.indexAddr ..|.index ..
 |.lookup ..|.typeAssert ..|.extract ..=>true
 |.call {callee:=.builtin b,..}=>match b with |.len|.cap|.min|.max=>true|_=>false
 |_=>false
def yv (x:Option Value) (y YH:Nat) (K:Nat->Prop):Prop:=
 match x with
 |none=>K YH
 |some (.int _ i)=>0<=i/\i<=(y:Int)/\K i.toNat
 |_=>False
def Fz (P:Program) (T:TypeId):Option Bool:=
 match P.underlying T with
 |some (.struct _)|some (.array _ _)=>some true
 |some _=>some false
 |none=>none
def Hl (P:Program) (T:TypeId):Bool:=
 match zeroOf P T with
 |.agg cs=>Fz P T==some true&&(match P.info? T with |some i=>i.size==cs.size|none=>false)
 |_=>Fz P T==some false
def At (P:Program) (T:TypeId) (p:Addr) (w:World) (K:Value->List (World->Prop)->Prop):Prop:=
 hO (Hl P T)<|match zeroOf P T with
 |.agg cs=>ya cs.toList λvs=>I6 (vs.zipIdx.map λ(v,i)=>w.cell? (p.add i)=some v) (K (.agg vs.toArray) (vs.zipIdx.map λ(v,i)=>λw'=>w'.cell? (p.add i)=some v))
 |.nilFunc=>∃f:Fv,w.cell? p=some f.v/\K f.v [λw'=>w'.cell? p=some f.v]
 |z=>yO z λv=>w.cell? p=some v/\K v [λw'=>w'.cell? p=some v]
def iy (P:Program) (o:Oper) (E:Env) (K:Value->List (World->Prop)->Prop):Prop:=
 hO (E.fT o) (match rq P (execOp E.ev o) with |some (.value v)=>K v []|_=>False)
def Th (z:Value) (K:Value->Prop):Prop:=
 match z with
 |.nilFunc=>∃f:Fv,K f.v
 |z=>va z K
theorem Jm {z:Value} {K:Value->Prop} (h:Th z K):∃v,K v:=by
 unfold Th at h
 split at h
 .obtain ⟨f,h⟩:=h;exact ⟨_,h⟩
 .exact mI h
def Cs (P:Program) (s:Sem Value) (z:Value) (w:World) (K:Value->List (World->Prop)->Prop):Prop:=
 Th z λv=>s.run P w=.ok v w/\K v [λw'=>s.run P w'=.ok v w']
def uZ (P:Program) (T:TypeId):Option Nat:=
 match P.underlying T with
 |some (.slice e)=>(P.info? e).map (·.size)
 |_=>none
def BJ (P:Program) (T:TypeId):Option (Nat×Nat):=
 match P.underlying T with
 |some (.array n e)=>(P.info? e).map λi=>(n,i.size)
 |_=>none
theorem BK {P:Program} {T:TypeId} {n sz:Nat} (h:BJ P T=some (n,sz)):∃e inf,P.underlying T=some (.array n e)/\P.info? e=some inf/\sz=inf.size:=by
 unfold BJ at h
 split at h
 .rename_i m e hu
  obtain ⟨inf,hi,he⟩:=Option.map_eq_some_iff.1 h
  cases he
  exact ⟨e,inf,hu,hi,rfl⟩
 .cases h
def isConst:Operand->Bool
 |.const _=>true
 |_=>false
def vt (P:Program) (T:TypeId) (c:Value):Bool:=
 match P.underlying T,c with
 |some (.slice _),.slice none _ _=>true
 |some (.pointer _),.pointer none=>true
 |some (.map _ _),.map none=>true
 |_,_=>false
def tI:Option Value->Value->Option Bool
 |some (.slice a _ _),.slice none _ _=>some a.isNone
 |some (.pointer a),.pointer none=>some a.isNone
 |some (.map r),.map none=>some r.isNone
 |_,_=>none
def LM (P:Program) (xs ys:Array Value):List Field->Option Bool
 |[]=>some true
 |f::fs=>bif f.name=="_" then none else match P.underlying f.type,xs[f.offset]?,ys[f.offset]?,LM P xs ys fs with
  |some (.int _),some (.int k a),some (.int k' b),some r=>bif decide (k=k') then some ((a==b)&&r) else none
  |some .string,some (.string a),some (.string b),some r=>some ((a.toList==b.toList)&&r)
  |some .bool,some (.bool a),some (.bool b),some r=>some ((a==b)&&r)
  |_,_,_,_=>none
def KX (P:Program) (T:TypeId) (xs ys:Array Value):Option Bool:=match P.underlying T with
 |some (.struct fs)=>bif (!P.stoodInHeld T&&!P.eqGuardType P.depth T) then LM P xs ys fs.toList else none
 |_=>none
def Jl (P:Program) (o:Oper) (E:Env) (T:TypeId) (x y:Operand) (neg:Bool) (K:Value->List (World->Prop)->Prop):Prop:=match E.val x,E.val y with
 |some (.agg xs),some (.agg ys)=>match KX P T xs ys with
  |some b=>K (.bool (bif neg then !b else b)) []
  |none=>False
 |_,_=>iy P o E K
def qo (P:Program) (o:Oper) (E:Env) (w:World) (K:Value->List (World->Prop)->Prop):Prop:=
 match o.op with
 |.load T x=>match E.val x with
  |some (.pointer (some p))=>At P T p w K
  |_=>False
 |.nilCheck x=>match E.val x with
  |some (.pointer q)=>aX q λp=>K (.pointer (some p)) []
  |_=>iy P o E K
 |.indexAddr T x ix=>match E.val x,E.val ix with
  |some (.slice a n _),some (.int _ i)=>match uZ P T with
   |some sz=>0<=i/\i<(n:Int)/\aX a λp=>K (.pointer (some (p.add (i.toNat *sz)))) []
   |none=>False
  |some (.pointer (some p)),some (.int _ i)=>match BJ P T with
   |some (n,sz)=>0<=i/\i<(n:Int)/\K (.pointer (some (p.add (i.toNat *sz)))) []
   |none=>False
  |_,_=>iy P o E K
 |.index T x ix=>match P.underlying T,E.val x,E.val ix with
  |some .string,some (.string s),some (.int _ i)=>0<=i/\∃b:UInt8,s[i.toNat]? =some b/\K (.int .u8 b.toNat) []
  |_,_,_=>iy P o E K
 |.slice T x lo hi mx=>hO (E.fT o) (match P.underlying T,E.val x with
  |some (.slice _),some (.slice a n c)=>match uZ P T with
   |some sz=>yv (mx.map E.ev) c c λm=>yv (hi.map E.ev) m n λh=>hO (mx.isNone||hi.isSome) (yv (lo.map E.ev) h 0 λl=>
     K (.slice (if m=l then a else a.map (·.add (l *sz))) (h - l) (m - l)) [])
   |none=>False
  |some .string,some (.string s)=>hO mx.isNone (yv (hi.map E.ev) s.size s.size λh=>yv (lo.map E.ev) h 0 λl=>K (.string (s.extract l h)) [])
  |_,_=>False)
 |.binOp .quo _ x y _=>bif isConst y then iy P o E K else match E.val x,E.val y with
  |some (.int k a),some (.int k' b)=>hO (k==k') (b≠0/\K (.int k (k.wrap (a.tdiv b))) [])
  |_,_=>False
 |.binOp .rem _ x y _=>bif isConst y then iy P o E K else match E.val x,E.val y with
  |some (.int k a),some (.int k' b)=>hO (k==k') (b≠0/\K (.int k (a.tmod b)) [])
  |_,_=>False
 |.binOp .eql T x (.const c) _=>bif vt P T c then (match tI (E.val x) c with
  |some b=>K (.bool b) []
  |none=>False) else Jl P o E T x (.const c) false K
 |.binOp .neq T x (.const c) _=>bif vt P T c then (match tI (E.val x) c with
  |some b=>K (.bool !b) []
  |none=>False) else Jl P o E T x (.const c) true K
 |.binOp .eql T x y _=>Jl P o E T x y false K
 |.binOp .neq T x y _=>Jl P o E T x y true K
 |.binOp .add _ x y _=>match E.val x,E.val y with
  |some (.string s),some (.string t)=>¬(((s.size+t.size:Nat):Int)>IntKind.i64.max)/\K (.string (s++t)) []
  |_,_=>iy P o E K
 |.binOp .shl _ x y _=>bif isConst y then iy P o E K else match E.val x,E.val y with
  |some (.int k a),some (.int _ b)=>¬b<0/\K (.int k (k.wrap (a *2^(min b.toNat k.bits)))) []
  |_,_=>False
 |.binOp .shr _ x y _=>bif isConst y then iy P o E K else match E.val x,E.val y with
  |some (.int k a),some (.int _ b)=>¬b<0/\K (.int k (a.fdiv (2^(min b.toNat k.bits)))) []
  |_,_=>False
 |.lookup T x ix ok=>match E.val x,E.val ix with
  |some m,some k=>Cs P (Instr.lookup T m k ok) (zeroOf P o.type) w K
  |_,_=>False
 |.convert s d x=>match P.underlying s,P.underlying d,E.val x with
  |some (.slice _),some .string,some v=>Cs P (convert s d v) (.string (ByteArray.mk #[])) w K
  |_,_,_=>iy P o E K
 |.call {callee:=.builtin .len,args,argTypes}=>match args.toList,argTypes.toList with
  |[x],[T]=>match P.underlying T,E.val x with
   |some (.map _ _),some m=>Cs P (Builtin.len_ #[T] o.type #[m]) (.int .i64 0) w K
   |_,_=>iy P o E K
  |_,_=>iy P o E K
 |_=>iy P o E K
def GX (p:Addr):List Value->Nat->World->(World->Prop)->Prop
 |[],_,w,K=>K w
 |v::vs,i,w,K=>(w.cell? (p.add i)).isSome=true/\w.frozen? (p.add i)=false/\GX p vs (i+1) (w.setCell (p.add i) v) K
def wu (P:Program) (o:Oper) (E:Env) (w:World) (K:Value->World->Prop):Prop:=
 hO (E.fT o) (match (execOp E.ev o).run P w with
  |.ok (.value v) w'=>K v w'
  |.ok .skip w'=>K undef w'
  |_=>False)
def LF (P:Program) (s:Sem Value) (z:Value) (w:World) (K:Value->World->Prop):Prop:=
 va z λv=>∃w',s.run P w=.ok v w'/\K v w'
def Dz (P:Program) (s:Sem Unit) (w:World) (K:Value->World->Prop):Prop:=
 ∃w',s.run P w=.ok () w'/\K undef w'
def fD (P:Program) (f:FuncId):Bool:=match P.funcs[f]? with |some fn=>fn.body.isSome&&!(fn.name=="runtime.NumGoroutine")|none=>false
def HH (P:Program) (f:FuncId) (args:Array Value) (z:Value) (w:World) (K:Value->World->Prop):Prop:=
 va z λv=>∃w',(callFunc f args).run P w=.ok (.value v) w'/\K v w'
def tW (P:Program) (f:FuncId) (args:Array Value) (z:Value) (w:World) (K:Value->World->Prop):Prop:=
 Calls P f args w λe w'=>va z λv=>e=.returned v/\K v w'
def tj:Value->Bool
 |.agg _=>false
 |.tuple _=>false
 |_=>true
def mi (P:Program) (o:Oper) (E:Env) (w:World) (K:Value->World->Prop):Prop:=
 match o.op with
 |.store T x y=>match E.val x,E.val y with
  |some (.pointer (some p)),some v=>hO (v.cells.size==(match P.info? T with |some i=>i.size|none=>0)&&v.cells.toList.all tj&&(P.info? T).isSome) (GX p v.cells.toList 0 w λw'=>K undef w')
  |_,_=>False
 |.mapUpdate T m k v|.insert T m k v=>match E.val m,E.val k,E.val v with
  |some m,some k,some v=>Dz P (Instr.mapUpdate T m k v) w K
  |_,_,_=>False
 |.call {callee:=.builtin b,args,argTypes}=>hO (E.fT o) (match b with
  |.append=>LF P (Builtin.append_ argTypes o.type (args.map E.ev)) (.slice none 0 0) w K
  |.copy=>LF P (Builtin.copy_ argTypes o.type (args.map E.ev)) (.int .i64 0) w K
  |.delete=>∃w',(Builtin.delete_ argTypes o.type (args.map E.ev)).run P w=.ok undef w'/\K undef w'
  |.clear=>∃w',(Builtin.clear_ argTypes o.type (args.map E.ev)).run P w=.ok (.tuple #[]) w'/\K (.tuple #[]) w'
  |_=>False)
 |.call {callee:=.value (.func f),args,..}=>hO (E.fT o) (bif fD P f then tW P f (args.map E.ev) (zeroOf P o.type) w K else HH P f (args.map E.ev) (zeroOf P o.type) w K)
 |.call {callee:=.value (.tmp t),args,..}=>hO (E.fT o) (match E.get? t with
  |some (.func (.func f) first captured)=>hO (fD P f) (tW P f (first++args.map E.ev++captured) (zeroOf P o.type) w K)
  |_=>False)
 |.makeSlice T l c=>match E.val l,E.val c with
  |some l,some c=>LF P (Instr.makeSlice T l c) (.slice none 0 0) w K
  |_,_=>False
 |.range T x=>match E.val x with
  |some x=>∃v w',(Instr.range T x).run P w=.ok v w'/\K v w'
  |_=>False
 |.next it s=>match E.val it with
  |some it=>(∃w',(Instr.next it s o.type).run P w=.ok (.tuple #[.bool false]) w'/\K (.tuple #[.bool false]) w')\/
    (match s with
     |true=>∃(i c:Int) (w':World),(Instr.next it s o.type).run P w=.ok (.tuple #[.bool true,.int .i64 i,.int .i32 c]) w'/\K (.tuple #[.bool true,.int .i64 i,.int .i32 c]) w'
     |false=>∃(x y:Value) (w':World),(Instr.next it s o.type).run P w=.ok (.tuple #[.bool true,x,y]) w'/\K (.tuple #[.bool true,x,y]) w')
  |_=>False
 |.entry it=>match E.val it with
  |some it=>∃(x y:Value) (w':World),(Instr.entry it).run P w=.ok (.tuple #[x,y]) w'/\K (.tuple #[x,y]) w'
  |_=>False
 |.convert s d x=>match E.val x with
  |some v=>LF P (convert s d v) (.slice none 0 0) w K
  |_=>False
 |_=>wu P o E w K
def Qp (P:Program) (l:Nat) (args:Array Value) (w:World) (K:Value->World->Prop):Prop:=
 YieldAt Fence.wide 0 P l args w λe w'=>∃b:Bool,e=.returned (.bool b)/\K (.bool b) w'
def wk (P:Program) (o:Oper) (E:Env) (w:World) (K:Value->World->Prop):Prop:=
 match o.op with
 |.call {callee:=.value (.tmp t),args,..}=>match E.get? t with
  |some (.func (.yield l) fs cs)=>hO (E.fT o&&(Nat.beq fs.size 0&&Nat.beq cs.size 0)) (Qp P l (args.map E.ev) w K)
  |_=>mi P o E w K
 |_=>mi P o E w K
abbrev bR (w:World) (p:Addr) (v:Value) (K:World->Prop):Prop:=(w.cell? p).isSome=true/\w.frozen? p=false/\K (w.setCell p v)
abbrev eV (w:World) (o:Obj) (K:World->Prop):Prop:=K (w.alloc o)
abbrev KA (w:World) (l:Nat) (a b:Obj) (K:World->Prop):Prop:=w.heap[l]? =some a/\K (w.putObj l b)
abbrev tZ (w:World) (K:World->Prop):Prop:=K w.drew
theorem Bd {P:Program} {T:TypeId} {b:Bool} (h:Fz P T=some b) (w:World):(isAgg T).run P w=.ok b w:=by
 unfold Fz at h
 unfold isAgg
 cases hu:P.underlying T with
 |none=>rw [hu] at h;cases h
 |some d=>rw [hu] at h;cases d<;>simp [run_underlying hu] at h ⊢<;>first |exact h|simp [<-h]
theorem oP {P:Program} {T:TypeId} {p:Addr} {v:Value} {w:World} (ha:Fz P T=some false) (hc:w.cell? p=some v):(loadVar T p).run P w=.ok v w:=by
 simp [loadVar,Bd ha,hc]
theorem rN {P:Program} {T:TypeId} {p:Addr} {vs:List Value} {i:TypeInfo} {w:World} (ha:Fz P T=some true) (hi:P.info? T=some i) (hs:i.size=vs.length)
  (hc:∀j v,vs[j]? =some v->w.cell? (p.add j)=some v):(loadVar T p).run P w=.ok (.agg vs.toArray) w:=by
 have:=run_loadCells_list (P:=P) w p vs hc
 simp [loadVar,Bd ha,sizeOf,typeInfo,hi,hs,this]
def Calm (P:Program) (o:Oper) (ρ:Operand->Value) (w:World) (v:Value) (hs:List (World->Prop)):Prop:=
 (∀S∈hs,S w)/\∀w',(∀S∈hs,S w')->(execOp ρ o).run P w'=.ok (.value v) w'
theorem vE {P:Program} {o:Oper} {E:Env} {w:World} {n:Cx} {a:Act} {K:Value->List (World->Prop)->Prop} (hs:∀cs b,o.op≠.select cs b)
  (ha:Ag n a E) (h:iy P o E K):∃v S,K v S/\Calm P o a.eval w v S:=by
 obtain ⟨hc,h⟩:=bX h
 split at h
 .rename_i v hv
  refine ⟨v,[],h,λS hS=>(by cases hS),λw' _=>?_⟩
  rw [ha.execOp hs hc]
  exact tJ hv w'
 .exact h.elim
theorem rr {P:Program} {s:Sem Value} {z:Value} {w:World} {K:Value->List (World->Prop)->Prop} {o:Oper} {ρ:Operand->Value} (ho:execOp ρ o=(do pure (.value (<-s))))
  (h:Cs P s z w K):∃v S,K v S/\Calm P o ρ w v S:=by
 obtain ⟨v,hv,hk⟩:=Jm h
 refine ⟨v,_,hk,λS hS=>?_,λw' As=>?_⟩
 .simp at hS;subst hS;exact hv
 .have hr:s.run P w'=.ok v w':=As _ (UY.2 rfl)
  rw [ho];simp [hr]
theorem om {P:Program} {x:Option Value} {y d:Nat} {K:Nat->Prop} (h:yv x y d K):∃l,K l/\((x=none/\l=d)\/∃v,x=some v/\∀code w,(Instr.sliceBound v y code).run P w=.ok l w):=by
 unfold yv at h
 split at h
 .exact ⟨d,h,.inl ⟨rfl,rfl⟩⟩
 .rename_i k i
  obtain ⟨h0,h1,h2⟩:=h
  refine ⟨_,h2,.inr ⟨_,rfl,λcode w=>?_⟩⟩
  simp [Instr.sliceBound,asIntOf,h0,h1]
 .exact h.elim
theorem rO {P:Program} {isS:Bool} {n c m h l:Nat} {L H M:Option Value} {w:World}
  (hm:(M=none/\m=c)\/∃v,M=some v/\∀code w,(Instr.sliceBound v c code).run P w=.ok m w)
  (hh:(H=none/\h=n)\/∃v,H=some v/\∀code w,(Instr.sliceBound v m code).run P w=.ok h w)
  (hl:(L=none/\l=0)\/∃v,L=some v/\∀code w,(Instr.sliceBound v h code).run P w=.ok l w)
  (hmh:M≠none->H=none->False):(Instr.sliceBounds isS n c L H M).run P w=.ok (l,h,m) w:=by
 unfold Instr.sliceBounds
 rcases hm with ⟨rfl,rfl⟩|⟨v1,rfl,r1⟩<;>rcases hh with ⟨rfl,rfl⟩|⟨v2,rfl,r2⟩<;>rcases hl with ⟨rfl,rfl⟩|⟨v3,rfl,r3⟩<;>first |(simp [*];done)|(exact (hmh (λh=>by cases h) rfl).elim)
theorem ue {P:Program} {T:TypeId} {p:Addr} {w:World} {K:Value->List (World->Prop)->Prop} (h:At P T p w K):
  ∃v S,K v S/\(∀s∈S,s w)/\∀w',(∀s∈S,s w')->(loadVar T p).run P w'=.ok v w':=by
 obtain ⟨ho,h⟩:=bX h
 unfold Hl at ho
 cases hz:zeroOf P T with
 |agg cs=>
  rw [hz] at h ho
  simp only at h ho
  obtain ⟨vs,hl,h⟩:=q9 h
  obtain ⟨hc,hk⟩:=pn h
  rw [Bool.and_eq_true] at ho
  obtain ⟨ha,hi⟩:=ho
  cases vj:P.info? T with
  |none=>rw [vj] at hi;simp at hi
  |some i=>
   rw [vj] at hi
   simp at hi ha
   refine ⟨_,_,hk,?_,λw' As=>?_⟩
   .intro s hs
    obtain ⟨⟨v,j⟩,hm,rfl⟩:=o8.1 hs
    exact hc _ (o8.2 ⟨(v,j),hm,rfl⟩)
   .refine rN ha vj (by rw [hi,hl];simp) (λj v hj=>?_)
    have:=As _ (o8.2 ⟨(v,j),List.mem_zipIdx_iff_getElem?.2 hj,rfl⟩)
    exact this
 |nilFunc=>
  rw [hz] at h ho
  obtain ⟨f,hc,hk⟩:=h
  simp at ho
  refine ⟨f.v,_,hk,λs hs=>?_,λw' As=>?_⟩
  .simp at hs;subst hs;exact hc
  .exact oP ho (As _ (UY.2 rfl))
 |_=>
  rw [hz] at h ho
  try simp only at h
  try simp only at ho
  obtain ⟨v,hc,hk⟩:=sA h
  simp at ho
  refine ⟨v,_,hk,λs hs=>?_,λw' As=>?_⟩
  .simp at hs;subst hs;exact hc
  .exact oP ho (As _ (UY.2 rfl))
theorem tB {P:Program} {T:TypeId} {sz:Nat} (h:uZ P T=some sz):∃e i,P.underlying T=some (.slice e)/\P.info? e=some i/\i.size=sz:=by
 unfold uZ at h
 split at h
 .rename_i e he
  cases hi:P.info? e with
  |none=>rw [hi] at h;cases h
  |some i=>rw [hi] at h;simp at h;exact ⟨e,i,he,hi,h⟩
 .cases h
theorem qh {v c:Value} {b:Bool} (h:tI (some v) c=some b):(∃a n m n' m',v=.slice a n m/\c=.slice none n' m'/\b=a.isNone)\/(∃a,v=.pointer a/\c=.pointer none/\b=a.isNone)\/(∃r,v=.map r/\c=.map none/\b=r.isNone):=by
 unfold tI at h
 split at h
 .rename_i a n m n' m' hv
  cases hv;cases h
  exact .inl ⟨_,_,_,_,_,rfl,rfl,rfl⟩
 .rename_i a hv
  cases hv;cases h
  exact .inr (.inl ⟨_,rfl,rfl,rfl⟩)
 .rename_i a hv
  cases hv;cases h
  exact .inr (.inr ⟨_,rfl,rfl,rfl⟩)
 .cases h
theorem xx {P:Program} {T:TypeId} {c v:Value} {b:Bool} (hn:vt P T c=true) (hb:tI (some v) c=some b) (w:World):(Op.equal T v c).run P w=.ok b w:=by
 unfold Op.equal Op.maxDepth Op.equalIn
 cases hu:P.underlying T with
 |none=>simp [vt,hu] at hn
 |some d=>
  simp only [Sem.run_bind,run_underlying hu,Result.andThen_ok]
  unfold vt at hn
  rw [hu] at hn
  rcases qh hb with ⟨a,n,m,n',m',rfl,rfl,rfl⟩|⟨a,rfl,rfl,rfl⟩|⟨a,rfl,rfl,rfl⟩<;>cases d<;>first |(cases hn;done)|(cases a<;>rfl)
theorem JR {P:Program} {T:TypeId} {c v:Value} {b:Bool} (hn:vt P T c=true) (hb:tI (some v) c=some b) (w:World):(binOp .eql T v c).run P w=.ok (.bool b) w:=by
 have:=xx hn hb w
 rcases qh hb with ⟨a,n,m,n',m',rfl,rfl,rfl⟩|⟨a,rfl,rfl,rfl⟩|⟨a,rfl,rfl,rfl⟩<;>simp [binOp,this]
theorem Gu {P:Program} {T:TypeId} {c v:Value} {b:Bool} (hn:vt P T c=true) (hb:tI (some v) c=some b) (w:World):(binOp .neq T v c).run P w=.ok (.bool !b) w:=by
 have:=xx hn hb w
 rcases qh hb with ⟨a,n,m,n',m',rfl,rfl,rfl⟩|⟨a,rfl,rfl,rfl⟩|⟨a,rfl,rfl,rfl⟩<;>simp [binOp,this]
theorem xy {P:Program} {op:BinOp} {T:TypeId} {c v:Value} {b:Bool} {p q:Operand} (hb:tI (some v) c=some b) (w:World):(eqGuard op T p q v c).run P w=.ok () w:=by
 rcases qh hb with ⟨a,n,m,n',m',rfl,rfl,rfl⟩|⟨a,rfl,rfl,rfl⟩|⟨a,rfl,rfl,rfl⟩<;>cases op<;>rfl
set_option maxHeartbeats 1000000 in
theorem lN {P:Program} {t:TypeId} {u:TypeDesc} (h:P.underlying t=some u) (hu:(match u with |.struct _|.array _ _=>true|_=>false)=false) {xs:Array Value} {off:Nat} {v:Value} (hx:xs[off]? =some v) (w:World):(part t xs off).run P w=.ok v w:=by
 unfold part isAgg
 cases u<;>first |(simp at hu;done)|simp [run_underlying h,hx]
theorem q7 {P:Program} {xs ys:Array Value} (d:Nat) (w:World):∀(fs:List Field) (b:Bool),LM P xs ys fs=some b->(Op.eqFields (d+1) xs ys fs).run P w=.ok b w
 |[],b,h=>by
  simp [LM] at h
  subst h
  rfl
 |f::fs,b,h=>by
  unfold LM at h
  cases hn:(f.name=="_") with
  |true=>rw [hn] at h;cases h
  |false=>
   rw [hn] at h
   simp only [cond_false] at h
   have wC:f.name≠"_":=by simpa using hn
   unfold Op.eqFields
   rw [if_pos wC]
   split at h
   .rename_i k0 k a k' b' r hu hx hy hr
    cases hk:decide (k=k') with
    |false=>rw [hk] at h;cases h
    |true=>
     rw [hk] at h
     have JB:=of_decide_eq_true hk
     subst JB
     simp only [cond_true,Option.some.injEq] at h
     subst h
     have ih:=q7 d w fs r hr
     simp only [Sem.run_bind,lN hu rfl hx w,lN hu rfl hy w,Result.andThen_ok,run_equalIn_int w d f.type k k0 a b' hu]
     cases Jw:(a==b')<;>simp [ih]
   .rename_i a b' r hu hx hy hr
    simp only [Option.some.injEq] at h
    subst h
    have ih:=q7 d w fs r hr
    simp only [Sem.run_bind,lN hu rfl hx w,lN hu rfl hy w,Result.andThen_ok,run_equalIn_string w d f.type a b' hu]
    cases Jw:(a.toList==b'.toList)<;>simp [ih]
   .rename_i a b' r hu hx hy hr
    simp only [Option.some.injEq] at h
    subst h
    have ih:=q7 d w fs r hr
    simp only [Sem.run_bind,lN hu rfl hx w,lN hu rfl hy w,Result.andThen_ok,run_equalIn_bool w d f.type a b' hu]
    cases Jw:(a==b')<;>simp [ih]
   .cases h
theorem CZ {P:Program} {T:TypeId} {xs ys:Array Value} {b:Bool} (h:KX P T xs ys=some b) (w:World):P.eqGuardType P.depth T=false/\(Op.equalIn 10000 T (.agg xs) (.agg ys)).run P w=.ok b w:=by
 unfold KX at h
 split at h
 .rename_i fs hu
  cases hg:(!P.stoodInHeld T&&!P.eqGuardType P.depth T) with
  |false=>rw [hg] at h;cases h
  |true=>
   rw [hg] at h
   simp only [cond_true] at h
   rw [Bool.and_eq_true] at hg
   have h1:P.stoodInHeld T=false:=by simpa using hg.1
   have h2:P.eqGuardType P.depth T=false:=by simpa using hg.2
   have hf:P.fieldsOf T=fs:=by unfold Program.fieldsOf;rw [hu]
   refine ⟨h2,?_⟩
   rw [run_equalIn_struct w 9999 T xs ys (by rw [hf];exact hu) h1,hf]
   exact q7 9998 w _ _ h
 .cases h
theorem q8 {P:Program} {o:Oper} {E:Env} {w:World} {n:Cx} {a:Act} {K:Value->List (World->Prop)->Prop} {op:BinOp} {T U:TypeId} {x y:Operand} {neg:Bool} (hs:∀cs b,o.op≠.select cs b)
  (ha:Ag n a E) (eJ:o.op=.binOp op T x y U) (hb:(op=.eql/\neg=false)\/(op=.neq/\neg=true)) (h:Jl P o E T x y neg K):∃v S,K v S/\Calm P o a.eval w v S:=by
 unfold Jl at h
 split at h
 .rename_i xs ys hx hy
  split at h
  .rename_i b he
   refine ⟨_,_,h,λS hS=>(by cases hS),λw' _=>?_⟩
   obtain ⟨h1,h2⟩:=CZ he w'
   have e1:execOp a.eval o=(do pure (.value (<-(do eqGuard op T x y (.agg xs) (.agg ys);binOp op T (.agg xs) (.agg ys))))):=by
    simp only [execOp,eJ,ha.val hx,ha.val hy]
   rw [e1]
   rcases hb with ⟨rfl,rfl⟩|⟨rfl,rfl⟩
   .simp only [Sem.run_bind,run_eqGuard_agg w' _ T x y xs ys h1,Result.andThen_ok,run_eql_struct,h2]
    rfl
   .simp only [Sem.run_bind,run_eqGuard_agg w' _ T x y xs ys h1,Result.andThen_ok,run_neq_struct,h2]
    rfl
  .exact h.elim
 .exact vE hs ha h
theorem oV {P:Program} {o:Oper} {E:Env} {w:World} {n:Cx} {a:Act} {K:Value->List (World->Prop)->Prop} (hs:∀cs b,o.op≠.select cs b)
  (ha:Ag n a E) (h:qo P o E w K):∃v S,K v S/\Calm P o a.eval w v S:=by
 have pure':iy P o E K->∃v S,K v S/\Calm P o a.eval w v S:=vE hs ha
 unfold qo at h
 split at h
 .
  rename_i T x eJ
  split at h
  .rename_i p hx
   obtain ⟨v,S,hk,h1,h2⟩:=ue h
   refine ⟨v,S,hk,h1,λw' As=>?_⟩
   simp [execOp,eJ,Instr.loadAt,ha.val hx,Instr.sureAddr,h2 w' As]
  .exact h.elim
 .
  rename_i x eJ
  split at h
  .rename_i q hx
   obtain ⟨p,rfl,hk⟩:=Bo h
   refine ⟨_,_,hk,λS hS=>(by cases hS),λw' _=>?_⟩
   simp [execOp,eJ,ha.val hx]
  .exact pure' h
 .
  rename_i T x ix eJ
  split at h
  .rename_i b n c k i hx hi
   split at h
   .rename_i sz me
    obtain ⟨h0,h1,h⟩:=h
    obtain ⟨p,rfl,hk⟩:=Bo h
    obtain ⟨e,inf,hu,vj,rfl⟩:=tB me
    refine ⟨_,_,hk,λS hS=>(by cases hS),λw' _=>?_⟩
    simp [execOp,eJ,ha.val hx,ha.val hi,Instr.indexAt,asIntOf,run_underlying hu,h0,h1,sizeOf,typeInfo,vj]
   .exact h.elim
  .rename_i p k i hx hi
   split at h
   .rename_i n sz me
    obtain ⟨h0,h1,hk⟩:=h
    obtain ⟨e,inf,hu,vj,rfl⟩:=BK me
    refine ⟨_,_,hk,λS hS=>(by cases hS),λw' _=>?_⟩
    simp [execOp,eJ,ha.val hx,ha.val hi,Instr.indexAt,Instr.sureAddr,asIntOf,run_underlying hu,h0,h1,sizeOf,typeInfo,vj]
   .exact h.elim
  .exact pure' h
 .
  rename_i T x ix eJ
  split at h
  .rename_i s k i hu hx hi
   obtain ⟨h0,b,hb,hk⟩:=h
   refine ⟨_,_,hk,λS hS=>(by cases hS),λw' _=>?_⟩
   simp [execOp,eJ,ha.val hx,ha.val hi,Instr.index,asIntOf,run_underlying hu,h0,hb]
  .exact pure' h
 .
  rename_i T x lo hi mx eJ
  obtain ⟨Ze,h⟩:=bX h
  have Mc:∀y∈o.op.operands,(E.val y).isSome=true:=λy hy=>qaT.1 Ze y (by simpa using hy)
  have rV:lo.map a.eval=lo.map E.ev:=by
   cases lo with
   |none=>rfl
   |some y=>simp only [Option.map_some];rw [ha.ev (Mc y (by rw [eJ];simp [Op.operands]))]
  have OU:hi.map a.eval=hi.map E.ev:=by
   cases hi with
   |none=>rfl
   |some y=>simp only [Option.map_some];rw [ha.ev (Mc y (by rw [eJ];simp [Op.operands]))]
  have hmx:mx.map a.eval=mx.map E.ev:=by
   cases mx with
   |none=>rfl
   |some y=>simp only [Option.map_some];rw [ha.ev (Mc y (by rw [eJ];simp [Op.operands]))]
  split at h
  .rename_i e b n c hu hx
   split at h
   .rename_i sz me
    obtain ⟨m,h,hm⟩:=om (P:=P) h
    obtain ⟨hh,h,Zp⟩:=om (P:=P) h
    obtain ⟨hmh,h⟩:=bX h
    obtain ⟨l,hk,hl⟩:=om (P:=P) h
    obtain ⟨e',inf,hu',vj,rfl⟩:=tB me
    rw [hu'] at hu
    cases hu
    refine ⟨_,_,hk,λS hS=>(by cases hS),λw' _=>?_⟩
    have JI:(Instr.sliceBounds true n c (lo.map E.ev) (hi.map E.ev) (mx.map E.ev)).run P w'=.ok (l,hh,m) w':=by
     refine rO hm Zp hl ?_
     intro h1 h2
     cases mx<;>cases hi<;>simp_all
    simp only [execOp,eJ,ha.val hx,rV,OU,hmx]
    simp [Instr.sliceAt,run_underlying hu',Instr.slice,JI,sizeOf,typeInfo,vj]
   .exact h.elim
  .rename_i s hu hx
   obtain ⟨hmn,h'⟩:=bX h
   clear h
   have Zu:mx=none:=by simpa using hmn
   subst Zu
   obtain ⟨hh,h,Zp⟩:=om (P:=P) h'
   obtain ⟨l,hk,hl⟩:=om (P:=P) h
   refine ⟨_,_,hk,λS hS=>(by cases hS),λw' _=>?_⟩
   have JI:(Instr.sliceBounds false s.size s.size (lo.map E.ev) (hi.map E.ev) none).run P w'=.ok (l,hh,s.size) w':=by
    exact rO (.inl ⟨rfl,rfl⟩) Zp hl (λh1 _=>absurd rfl h1)
   simp only [execOp,eJ,ha.val hx,rV,OU]
   simp [Instr.sliceAt,run_underlying hu,Instr.slice,JI]
  .exact h.elim
 .
  rename_i T x y U eJ
  cases hc:isConst y with
  |true=>rw [hc] at h;exact pure' h
  |false=>
   rw [hc] at h
   simp only [cond_false] at h
   split at h
   .rename_i k i k' j hx hy
    obtain ⟨Tz,hj,hk⟩:=bX h
    have TA:k=k':=by simpa using Tz
    subst TA
    refine ⟨_,_,hk,λS hS=>(by cases hS),λw' _=>?_⟩
    simp [execOp,eJ,ha.val hx,ha.val hy,eqGuard,binOp,Op.intDiv,hj]
   .exact h.elim
 .
  rename_i T x y U eJ
  cases hc:isConst y with
  |true=>rw [hc] at h;exact pure' h
  |false=>
   rw [hc] at h
   simp only [cond_false] at h
   split at h
   .rename_i k i k' j hx hy
    obtain ⟨Tz,hj,hk⟩:=bX h
    have TA:k=k':=by simpa using Tz
    subst TA
    refine ⟨_,_,hk,λS hS=>(by cases hS),λw' _=>?_⟩
    simp [execOp,eJ,ha.val hx,ha.val hy,eqGuard,binOp,Op.intDiv,hj]
   .exact h.elim
 .
  rename_i T x c U eJ
  cases hn:vt P T c with
  |false=>rw [hn] at h;exact q8 hs ha eJ (.inl ⟨rfl,rfl⟩) h
  |true=>
   rw [hn] at h
   simp only [cond_true] at h
   split at h
   .rename_i b hb
    refine ⟨_,_,h,λS hS=>(by cases hS),λw' _=>?_⟩
    cases hx:E.val x with
    |none=>rw [hx] at hb;simp [tI] at hb
    |some v=>
     rw [hx] at hb
     have e1:execOp a.eval o=(do pure (.value (<-(do eqGuard .eql T x (.const c) v c;binOp .eql T v c)))):=by
      simp only [execOp,eJ,ha.val hx];rfl
     rw [e1]
     simp [xy hb w',JR hn hb w']
   .exact h.elim
 .
  rename_i T x c U eJ
  cases hn:vt P T c with
  |false=>rw [hn] at h;exact q8 hs ha eJ (.inr ⟨rfl,rfl⟩) h
  |true=>
   rw [hn] at h
   simp only [cond_true] at h
   split at h
   .rename_i b hb
    refine ⟨_,_,h,λS hS=>(by cases hS),λw' _=>?_⟩
    cases hx:E.val x with
    |none=>rw [hx] at hb;simp [tI] at hb
    |some v=>
     rw [hx] at hb
     have e1:execOp a.eval o=(do pure (.value (<-(do eqGuard .neq T x (.const c) v c;binOp .neq T v c)))):=by
      simp only [execOp,eJ,ha.val hx];rfl
     rw [e1]
     simp [xy hb w',Gu hn hb w']
   .exact h.elim
 .
  rename_i T x y U _ eJ
  exact q8 hs ha eJ (.inl ⟨rfl,rfl⟩) h
 .rename_i T x y U _ eJ
  exact q8 hs ha eJ (.inr ⟨rfl,rfl⟩) h
 .
  rename_i T x y U eJ
  split at h
  .rename_i s t hx hy
   obtain ⟨h0,hk⟩:=h
   refine ⟨_,_,hk,λS hS=>(by cases hS),λw' _=>?_⟩
   have e1:execOp a.eval o=(do pure (.value (<-(do eqGuard .add T x y (.string s) (.string t);binOp .add T (.string s) (.string t))))):=by
    simp only [execOp,eJ,ha.val hx,ha.val hy]
   rw [e1]
   simp only [eqGuard,binOp,Op.stringOp,h0]
   rfl
  .exact pure' h
 .
  rename_i T x y U eJ
  cases hc:isConst y with
  |true=>rw [hc] at h;exact pure' h
  |false=>
   rw [hc] at h
   simp only [cond_false] at h
   split at h
   .rename_i k i k' j hx hy
    obtain ⟨hj,hk⟩:=h
    refine ⟨_,_,hk,λS hS=>(by cases hS),λw' _=>?_⟩
    simp [execOp,eJ,ha.val hx,ha.val hy,eqGuard,binOp,Op.shift,hj]
   .exact h.elim
 .
  rename_i T x y U eJ
  cases hc:isConst y with
  |true=>rw [hc] at h;exact pure' h
  |false=>
   rw [hc] at h
   simp only [cond_false] at h
   split at h
   .rename_i k i k' j hx hy
    obtain ⟨hj,hk⟩:=h
    refine ⟨_,_,hk,λS hS=>(by cases hS),λw' _=>?_⟩
    simp [execOp,eJ,ha.val hx,ha.val hy,eqGuard,binOp,Op.shift,hj]
   .exact h.elim
 .
  rename_i T x ix ok eJ
  split at h
  .rename_i m k hx hi
   exact rr (by simp [execOp,eJ,ha.val hx,ha.val hi]) h
  .exact h.elim
 .
  rename_i s d x eJ
  split at h
  .rename_i e v hsu hdu hx
   exact rr (by simp [execOp,eJ,ha.val hx]) h
  .exact pure' h
 .
  rename_i args R8 eJ
  split at h
  .rename_i x T hx hT
   split at h
   .rename_i kt et m hu hm
    refine rr ?_ h
    have e1:args=#[x]:=by rw [<-Array.toArray_toList (xs:=args),hx]
    have e2:R8=#[T]:=by rw [<-Array.toArray_toList (xs:=R8),hT]
    simp [execOp,eJ,e1,e2,resolve,invoke,builtin,ha.val hm]
   .exact pure' h
  .exact pure' h
 .exact pure' h
theorem zw {P:Program} {p:Addr}:∀{vs:List Value} {i:Nat} {w:World} {K:World->Prop},vs.all tj=true->GX p vs i w K->
  ∃w',(storeCells p vs i).run P w=.ok () w'/\K w'
 |[],i,w,K,_,h=>⟨w,by simp [storeCells],h⟩
 |v::vs,i,w,K,h1,h=>by
  obtain ⟨hc,hf,h⟩:=h
  rw [List.all_cons,Bool.and_eq_true] at h1
  obtain ⟨w',hr,hk⟩:=zw (P:=P) h1.2 h
  refine ⟨w',?_,hk⟩
  obtain ⟨u,hu⟩:=Option.isSome_iff_exists.1 hc
  have Fi:(store (p.add i) v).run P w=.ok () (w.setCell (p.add i) v):=by
   have h0:=h1.1
   cases v<;>first |(simp [tj] at h0;done)|simp [store,Sem.run,hu,hf]
  simp [storeCells,Fi,hr]
theorem mh {P:Program} {f:FuncId} (h:fD P f=true) (args:Array Value) (w:World):(callFunc f args).run P w=.ok (.enter f args) w:=by
 unfold fD at h
 cases hf:P.funcs[f]? with
 |none=>rw [hf] at h;cases h
 |some fn=>
  rw [hf] at h
  simp at h
  obtain ⟨h1,h2⟩:=h
  have h3:fn.body≠none:=by intro hb;rw [hb] at h1;cases h1
  simp [callFunc,hf,h2,h3]
theorem Ag.args {n:Cx} {a:Act} {E:Env} (h:Ag n a E) {args:Array Operand} (hc:∀x∈args,(E.val x).isSome=true):args.map a.eval=args.map E.ev:=
 Array.map_congr_left λx hx=>h.ev (hc x hx)
def r7 (P:Program) (o:Oper) (a:Act) (w:World) (K:Value->World->Prop):Prop:=
 ∀Q:Exit->Act->World->Prop,o.wp P a w (λa' w'=>∃v,a'=a.put o.dst v/\K v w') Q
theorem uR {P:Program} {f:FuncId} {args:Array Value} {z:Value} {w:World} {K:Value->World->Prop} {o:Oper} {a:Act}
  (lH:(execOp a.eval o).run P w=.ok (.enter f args) w) (h:tW P f args z w K):r7 P o a w K:=by
 intro Q
 unfold Oper.wp
 rw [lH]
 simp only [Oper.upon]
 refine Calls.mono h λe w' he=>?_
 obtain ⟨v,rfl,hk⟩:=mI he
 exact ⟨v,rfl,hk⟩
theorem qZ {P:Program} {s:Sem Value} {z:Value} {w:World} {K:Value->World->Prop} {o:Oper} {a:Act}
  (lH:execOp a.eval o=(do pure (.value (<-s)))) (h:LF P s z w K):r7 P o a w K:=by
 intro Q
 obtain ⟨v,w',hr,hk⟩:=mI h
 unfold Oper.wp
 rw [lH]
 simp only [Sem.run_bind,hr,Result.andThen_ok,Sem.run_pure,Oper.upon]
 exact ⟨v,rfl,hk⟩
set_option maxHeartbeats 1000000 in
theorem im {P:Program} {o:Oper} {E:Env} {w:World} {n:Cx} {a:Act} {K:Value->World->Prop} (hs:∀cs b,o.op≠.select cs b)
  (ha:Ag n a E) (h:mi P o E w K):r7 P o a w K:=by
 unfold mi at h
 split at h
 .
  rename_i T x y eJ
  split at h
  .rename_i p v hx hy
   obtain ⟨hb,h⟩:=bX h
   rw [Bool.and_eq_true,Bool.and_eq_true] at hb
   obtain ⟨⟨Ku,A4⟩,Y'⟩:=hb
   obtain ⟨i,hi⟩:=Option.isSome_iff_exists.1 Y'
   rw [hi] at Ku
   have Y9:v.cells.size=i.size:=by simpa using Ku
   obtain ⟨w',hr,hk⟩:=zw (P:=P) A4 h
   intro Q
   unfold Oper.wp
   have:(execOp a.eval o).run P w=.ok .skip w':=by
    simp [execOp,eJ,Instr.storeAt,ha.val hx,ha.val hy,Instr.sureAddr,storeVar,sizeOf,typeInfo,hi,Y9,hr]
   rw [this]
   simp only [Oper.upon]
   exact ⟨_,rfl,hk⟩
  .exact h.elim
 .
  rename_i T m k v eJ
  split at h
  .rename_i mv kv vv hm hk hv
   obtain ⟨w',hr,hK⟩:=h
   intro Q
   unfold Oper.wp
   have:(execOp a.eval o).run P w=.ok .skip w':=by simp [execOp,eJ,ha.val hm,ha.val hk,ha.val hv,hr]
   rw [this]
   simp only [Oper.upon]
   exact ⟨_,rfl,hK⟩
  .exact h.elim
 .
  rename_i T m k v eJ
  split at h
  .rename_i mv kv vv hm hk hv
   obtain ⟨w',hr,hK⟩:=h
   intro Q
   unfold Oper.wp
   have:(execOp a.eval o).run P w=.ok .skip w':=by simp [execOp,eJ,ha.val hm,ha.val hk,ha.val hv,hr]
   rw [this]
   simp only [Oper.upon]
   exact ⟨_,rfl,hK⟩
  .exact h.elim
 .
  rename_i b args R8 eJ
  obtain ⟨hc,h⟩:=bX h
  have hargs:args.map a.eval=args.map E.ev:=ha.args λx hx=>qaT.1 hc x (by rw [eJ];simp [Op.operands,Call.operands,hx])
  split at h
  .exact qZ (by simp [execOp,eJ,resolve,invoke,builtin,hargs]) h
  .exact qZ (by simp [execOp,eJ,resolve,invoke,builtin,hargs]) h
  .obtain ⟨w',hr,hk⟩:=h
   intro Q
   unfold Oper.wp
   have:(execOp a.eval o).run P w=.ok (.value undef) w':=by simp [execOp,eJ,resolve,invoke,builtin,hargs,hr]
   rw [this]
   simp only [Oper.upon]
   exact ⟨_,rfl,hk⟩
  .obtain ⟨w',hr,hk⟩:=h
   intro Q
   unfold Oper.wp
   have:(execOp a.eval o).run P w=.ok (.value (.tuple #[])) w':=by simp [execOp,eJ,resolve,invoke,builtin,hargs,hr]
   rw [this]
   simp only [Oper.upon]
   exact ⟨_,rfl,hk⟩
  .exact h.elim
 .
  rename_i f args R8 eJ
  obtain ⟨hc,h⟩:=bX h
  have hargs:args.map a.eval=args.map E.ev:=ha.args λx hx=>qaT.1 hc x (by rw [eJ];simp [Op.operands,Call.operands,hx])
  cases A6:fD P f with
  |true=>
   rw [A6] at h
   refine uR ?_ h
   simp [execOp,eJ,resolve,Act.eval,Deferred.ofValue,invoke,hargs,mh A6]
  |false=>
   rw [A6,cond_false] at h
   unfold HH at h
   obtain ⟨v,w',hr,hk⟩:=mI h
   intro Q
   unfold Oper.wp
   have:(execOp a.eval o).run P w=.ok (.value v) w':=by simp [execOp,eJ,resolve,Act.eval,Deferred.ofValue,invoke,hargs,hr]
   rw [this]
   simp only [Oper.upon]
   exact ⟨_,rfl,hk⟩
 .
  rename_i t args R8 eJ
  obtain ⟨hc,h⟩:=bX h
  have hargs:args.map a.eval=args.map E.ev:=ha.args λx hx=>qaT.1 hc x (by rw [eJ];simp [Op.operands,Call.operands,hx])
  split at h
  .rename_i f first captured hf
   obtain ⟨A6,h⟩:=bX h
   have OT:a.eval (.tmp t)=.func (.func f) first captured:=ha.val (x:=.tmp t) hf
   refine uR ?_ h
   simp [execOp,eJ,resolve,OT,Deferred.ofValue,invoke,hargs,mh A6]
  .exact h.elim
 .
  rename_i T l c eJ
  split at h
  .rename_i lv cv hl hc
   exact qZ (by simp [execOp,eJ,ha.val hl,ha.val hc]) h
  .exact h.elim
 .
  rename_i T x eJ
  split at h
  .rename_i xv hx
   obtain ⟨v,w',hr,hk⟩:=h
   intro Q
   unfold Oper.wp
   have:(execOp a.eval o).run P w=.ok (.value v) w':=by simp [execOp,eJ,ha.val hx,hr]
   rw [this]
   simp only [Oper.upon]
   exact ⟨_,rfl,hk⟩
  .exact h.elim
 .
  rename_i it s eJ
  split at h
  .rename_i iv hi
   have fin:∀(v:Value) (w':World),(Instr.next iv s o.type).run P w=.ok v w'->K v w'->r7 P o a w K:=λv w' hr hk Q=>by
    unfold Oper.wp
    have:(execOp a.eval o).run P w=.ok (.value v) w':=by simp [execOp,eJ,ha.val hi,hr]
    rw [this]
    simp only [Oper.upon]
    exact ⟨_,rfl,hk⟩
   rcases h with ⟨w',hr,hk⟩|h
   .exact fin _ _ hr hk
   .split at h
    .obtain ⟨i,c,w',hr,hk⟩:=h;exact fin _ _ hr hk
    .obtain ⟨i,c,w',hr,hk⟩:=h;exact fin _ _ hr hk
  .exact h.elim
 .
  rename_i it eJ
  split at h
  .rename_i iv hi
   obtain ⟨x,y,w',hr,hk⟩:=h
   intro Q
   unfold Oper.wp
   have:(execOp a.eval o).run P w=.ok (.value (.tuple #[x,y])) w':=by simp [execOp,eJ,ha.val hi,hr]
   rw [this]
   simp only [Oper.upon]
   exact ⟨_,rfl,hk⟩
  .exact h.elim
 .
  rename_i s d x eJ
  split at h
  .rename_i v hx
   exact qZ (by simp [execOp,eJ,ha.val hx]) h
  .exact h.elim
 .
  obtain ⟨hc,h⟩:=bX h
  intro Q
  unfold Oper.wp
  rw [ha.execOp hs hc]
  generalize (execOp E.ev o).run P w=r at h
  split at h
  .simp only [Oper.upon];exact ⟨_,rfl,h⟩
  .simp only [Oper.upon];exact ⟨_,rfl,h⟩
  .exact h.elim
def BE (P:Program) (n:Cx) (o:Oper) (a:Act) (w:World) (K:Value->World->Prop):Prop:=
 ∀Q:Exit->Act->World->Prop,o.wpIn (FW n) 0 P a w (λa' w'=>∃v,a'=a.put o.dst v/\K v w') Q
theorem yF {n:Cx} {P:Program} {f:FuncId} {args:Array Value} {w:World} {R:Ending->World->Prop} (h:Calls P f args w R):CallsIn (FW n) 0 P f args w R:=by
 have h1:CallsIn Fence.wide 0 P f args w R:=callsIn_wide.2 h
 obtain ⟨n,ds,ro⟩:=n
 cases ro with
 |none=>exact h1
 |some l=>exact h1
theorem J4 {n:Cx} {P:Program} {row:String} {args:Array Value} {w:World} {R:Value->World->Prop} (h:Rows P row args w R):RowsIn (FW n) 0 P row args w R:=by
 intro c cs _
 obtain ⟨v,w',hr,hs⟩:=h c cs
 refine ⟨v,w',hr,?_⟩
 have:=stepsIn_wide.2 hs
 obtain ⟨n,ds,ro⟩:=n
 cases ro with
 |none=>exact this
 |some l=>exact this
theorem GN {n:Cx} {P:Program} {l:Nat} {f:FuncId} {tmps:Array Value} {assign body:Code} {w:World} {R:Ending->World->Prop} (h:RoundIn Fence.wide 0 P l f tmps assign body w R):RoundIn (FW n) 0 P l f tmps assign body w R:=by
 obtain ⟨n,ds,ro⟩:=n
 cases ro with
 |none=>exact h
 |some l=>exact h
theorem Sb {P:Program} {n:Cx} {o:Oper} {a:Act} {w:World} {K:Act->World->Prop} {Q:Exit->Act->World->Prop} (hd:∀c,o.op≠.defer c) (h:o.wp P a w K Q):o.wpIn (FW n) 0 P a w K Q:=by
 refine ⟨λ_ _=>trivial,?_⟩
 rw [Oper.semAt_eq _ _ _ hd]
 unfold Oper.wp at h
 generalize (execOp a.eval o).run P w=r at *
 cases r with
 |ok nx w'=>
  cases nx<;>simp only [Oper.upon,Oper.uponIn] at h ⊢
  case value=>exact h
  case skip=>exact h
  case defer=>exact h
  case enter f args=>exact ⟨λh=>(by cases h),yF h⟩
  case row row args=>exact ⟨λh=>(by cases h),J4 h⟩
 |halt x w'=>
  cases x<;>simp only [Oper.upon,Oper.uponIn] at h ⊢
  exact h
theorem r7.in {P:Program} {n:Cx} {o:Oper} {a:Act} {w:World} {K:Value->World->Prop} (hd:∀c,o.op≠.defer c) (h:r7 P o a w K):BE P n o a w K:=λQ=>Sb hd (h Q)
theorem uW {P:Program} {o:Oper} {E:Env} {w:World} {n:Cx} {a:Act} {K:Value->World->Prop} (hs:∀cs b,o.op≠.select cs b) (hd:∀c,o.op≠.defer c)
  (ha:Ag n a E) (h:wk P o E w K):BE P n o a w K:=by
 unfold wk at h
 split at h
 .rename_i t args R8 eJ
  split at h
  .rename_i l fs cs hf
   obtain ⟨hb,hyv⟩:=bX h
   clear h
   simp only [Bool.and_eq_true,Nat.beq_eq] at hb
   obtain ⟨hc,h1,h2⟩:=hb
   have e1:fs=#[]:=Array.eq_empty_of_size_eq_zero h1
   have e2:cs=#[]:=Array.eq_empty_of_size_eq_zero h2
   subst e1 e2
   have hargs:args.map a.eval=args.map E.ev:=ha.args λx hx=>qaT.1 hc x (by rw [eJ];simp [Op.operands,Call.operands,hx])
   have OT:a.eval (.tmp t)=.func (.yield l) #[] #[]:=ha.val (x:=.tmp t) hf
   intro Q
   obtain ⟨fn,tmps,assign,body,hy,hR⟩:=hyv
   refine ⟨λ_ _=>trivial,?_⟩
   rw [Oper.semAt_eq _ _ _ hd]
   have:(execOp a.eval o).run P w=.ok (.round l fn tmps assign body) w:=by
    simp [execOp,eJ,resolve,OT,Deferred.ofValue,invoke,hargs,hy]
   rw [this,Oper.uponIn_round]
   refine ⟨λh=>(by cases h),GN (hR.mono ?_)⟩
   rintro e w' ⟨b,rfl,hk⟩
   exact ⟨_,rfl,hk⟩
  .exact (im hs ha h).in hd
 .exact (im hs ha h).in hd
def MO (ops:Array Oper) (i j:Nat):Bool:=match ops[j]? with |some o=>o.after.toList.any λe=>Nat.beq e.on i&&Region.binds .any e|none=>false
def Px (ops:Array Oper):Nat->Nat->Nat->Bool
 |0,i,j=>MO ops i j
 |f+1,i,j=>bif MO ops i j then true else match ops[j]? with |some o=>o.after.toList.any λe=>bif Region.binds .any e then Px ops f i e.on else false|none=>false
def rZ (ops:Array Oper) (i j:Nat):Bool:=Px ops 4 i j
def Down (ops:Array Oper) (listed:Array Bool):Prop:=∀(k:Nat) (o:Oper),ops[k]? =some o->listed.getD k false=true->∀e∈o.after,Region.binds .any e=true->listed.getD e.on false=true
theorem Down.zero (ops:Array Oper) (n:Nat):Down ops (Array.replicate n false):=λk o _ hk=>by
 exfalso
 by_cases h:k<n
 .simp [h] at hk
 .simp [h] at hk
theorem Down.set {ops:Array Oper} {listed:Array Bool} (hd:Down ops listed) {i:Nat} (hi:i∈Region.ready .any ops listed):Down ops (listed.setIfInBounds i true):=λk o ho hk e he hb=>by
 obtain ⟨_,oi,hoi,hall⟩:=mem_ready.1 hi
 by_cases OV:i=k
 .subst OV
  rw [hoi] at ho
  cases ho
  exact getD_set_true (hall e he hb)
 .rw [getD_set_ne false OV] at hk
  exact getD_set_true (hd k o ho hk e he hb)
theorem xA {ops:Array Oper} {listed:Array Bool} {i j:Nat} (hall:∀o,ops[j]? =some o->∀e∈o.after,Region.binds .any e=true->listed.getD e.on false=true) (h:MO ops i j=true):listed.getD i false=true:=by
 unfold MO at h
 cases ho:ops[j]? with
 |none=>rw [ho] at h;cases h
 |some o=>
  rw [ho] at h
  obtain ⟨e,he,QW⟩:=List.any_eq_true.1 h
  rw [Bool.and_eq_true] at QW
  have hei:e.on=i:=by have:=QW.1;rwa [Nat.beq_eq] at this
  have:=hall o ho e (by simpa using he) QW.2
  rwa [hei] at this
theorem xB {ops:Array Oper} {listed:Array Bool} (hd:Down ops listed) {i:Nat}:∀(f j:Nat),(∀o,ops[j]? =some o->∀e∈o.after,Region.binds .any e=true->listed.getD e.on false=true)->Px ops f i j=true->listed.getD i false=true
 |0,j,hall,h=>xA hall h
 |f+1,j,hall,h=>by
  unfold Px at h
  cases hdi:MO ops i j with
  |true=>exact xA hall hdi
  |false=>
   rw [hdi] at h
   cases ho:ops[j]? with
   |none=>rw [ho] at h;cases h
   |some o=>
    rw [ho] at h
    obtain ⟨e,he,QW⟩:=List.any_eq_true.1 h
    cases hb:Region.binds .any e with
    |false=>rw [hb] at QW;cases QW
    |true=>
     rw [hb] at QW
     have hl:=hall o ho e (by simpa using he) hb
     exact xB hd f e.on (λo' XC e' mJ eC=>hd e.on o' XC hl e' mJ eC) QW
abbrev lU:=List (Nat×(World->Prop))
def heldBy (ops:Array Oper) (j:Nat) (w:World):lU->List Prop
 |[]=>[]
 |(i,S)::H=>bif rZ ops i j then heldBy ops j w H else S w::heldBy ops j w H
def eP (ops:Array Oper) (j:Nat):lU->lU
 |[]=>[]
 |(i,S)::H=>bif rZ ops i j then eP ops j H else (i,S)::eP ops j H
theorem wA {ops:Array Oper} {j:Nat} {w:World}:∀{H:lU} {p:Nat×(World->Prop)},p∈H->rZ ops p.1 j=false->p.2 w∈heldBy ops j w H
 |(i,S)::H,p,h,ho=>by
  unfold heldBy
  rcases cU.1 h with rfl|h
  .simp only at ho;rw [ho];exact qmCS
  .have:=wA (H:=H) (w:=w) h ho
   cases rZ ops i j
   .exact qmCM _ this
   .exact this
theorem cR {ops:Array Oper} {j:Nat}:∀{H:lU} {p:Nat×(World->Prop)},p∈eP ops j H↔p∈H/\rZ ops p.1 j=false
 |[],p=>by simp [eP]
 |(i,S)::H,p=>by
  unfold eP
  cases ho:rZ ops i j with
  |true=>
   simp only [cond_true]
   rw [cR]
   constructor
   .rintro ⟨h1,h2⟩;exact ⟨qmCM _ h1,h2⟩
   .rintro ⟨h1,h2⟩
    rcases cU.1 h1 with rfl|h1
    .simp only at h2;rw [ho] at h2;cases h2
    .exact ⟨h1,h2⟩
  |false=>
   simp only [cond_false,cU]
   rw [cR]
   constructor
   .rintro (rfl|⟨h1,h2⟩)
    .exact ⟨.inl rfl,ho⟩
    .exact ⟨.inr h1,h2⟩
   .rintro ⟨rfl|h1,h2⟩
    .exact .inl rfl
    .exact .inr ⟨h1,h2⟩
section
variable {P:Program} {ops:Array Oper} {Q:Exit->Act->World->Prop}
def dH (P:Program) (ops:Array Oper) (Q:Exit->Act->World->Prop):Nat->lU->Array Bool->Act->World->Prop
 |0,_,listed,a,w=>Down ops listed->Region.ready .any ops listed=[]/\Q .normal a w
 |fuel+1,H,listed,a,w=>Down ops listed->
  (Region.ready .any ops listed=[]->Q .normal a w)/\
  ∀i∈Region.ready .any ops listed,wpOp P ops Q i (λa' w'=>(∀p∈eP ops i H,p.2 w')/\dH P ops Q fuel (eP ops i H) (listed.setIfInBounds i true) a' w') a w
theorem nL:∀(fuel:Nat) (H:lU) (listed:Array Bool) (a:Act) (w:World),Down ops listed->dH P ops Q fuel H listed a w->wpAny P .any ops Q fuel listed a w
 |0,_,_,_,_,hd,h=>h hd
 |fuel+1,_,_,_,_,hd,h=>⟨(h hd).1,λi hi=>wpOp_mono (λa' w' h'=>nL fuel _ _ a' w' (hd.set hi) h'.2) ((h hd).2 i hi)⟩
theorem rD:∀(fuel:Nat) (H H':lU) (listed:Array Bool) (a:Act) (w:World),(∀p∈H',p∈H)->dH P ops Q fuel H listed a w->dH P ops Q fuel H' listed a w
 |0,_,_,_,_,_,_,h=>h
 |fuel+1,H,H',listed,a,w,hs,h=>λhd=>⟨(h hd).1,λi hi=>wpOp_mono (λa' w' h'=>by
   have rX:∀p∈eP ops i H',p∈eP ops i H:=λp hp=>cR.2 ⟨hs p (cR.1 hp).1,(cR.1 hp).2⟩
   exact ⟨λp hp=>h'.1 p (rX p hp),rD fuel _ _ _ a' w' rX h'.2⟩) ((h hd).2 i hi)⟩
theorem MJ {i j:Nat} {listed:Array Bool} (hd:Down ops listed) (hi:listed.getD i true=false) (hj:j∈Region.ready .any ops listed):rZ ops i j=false:=by
 obtain ⟨_,oj,Wa,hall⟩:=mem_ready.1 hj
 cases ho:rZ ops i j with
 |false=>rfl
 |true=>
  have this:=xB hd 4 j (λo XC e he hb=>by rw [Wa] at XC;cases XC;exact hall e he hb) ho
  rcases Nat.lt_or_ge i listed.size with h'|h'
  .simp [h'] at hi this;rw [hi] at this;cases this
  .simp [Array.getElem?_eq_none h'] at this
theorem qB {i:Nat} {oi:Oper} {v:Value} {Ss:List (World->Prop)} (hi:ops[i]? =some oi) (nM:∀(j:Nat) (o:Oper) cs b,ops[j]? =some o->o.op≠.select cs b)
  (hQ:∀c a w,Q (.panic c) (a.put oi.dst v) w->Q (.panic c) a w):
  ∀(fuel:Nat) (H:lU) (listed:Array Bool) (a:Act) (w:World),
   (∀j oj,ops[j]? =some oj->j≠i->listed.getD j true=false->(∀e∈oj.after,Region.binds .any e=true->e.on≠i)->oi.apart ops oj=true)->
   i∈Region.ready .any ops listed->YieldsIf P ops (λw=>∀S∈Ss,S w) oi v a->(∀S∈Ss,S w)->(∀p∈H,p.2 w)->
   dH P ops Q fuel (Ss.map (λS=>(i,S))++H) (listed.setIfInBounds i true) (a.put oi.dst v) w->dH P ops Q (fuel+1) H listed a w:=by
 intro fuel
 induction fuel with
 |zero=>
  intro H listed a w _ hr hy hS hH G hd
  refine ⟨λh=>(by rw [h] at hr;cases hr),λj hj=>?_⟩
  by_cases NR:j=i
  .subst NR
   exact hy.wpOp hi hS ⟨λp hp=>hH p (cR.1 hp).1,G⟩
  .have:=ready_mono hj NR
   rw [(G (hd.set hr)).1] at this
   cases this
 |succ fuel ih=>
  intro H listed a w QX hr hy hS hH G hd
  refine ⟨λh=>(by rw [h] at hr;cases hr),λj hj=>?_⟩
  by_cases NR:j=i
  .subst NR
   refine hy.wpOp hi hS ⟨λp hp=>hH p (cR.1 hp).1,?_⟩
   exact rD _ _ _ _ _ _ (λp hp=>qmR _ (cR.1 hp).1) G
  .have h1:=(G (hd.set hr)).2 j (ready_mono hj NR)
   obtain ⟨VY,oj,Wa,hall⟩:=mem_ready.1 hj
   have h0:=(mem_ready.1 hr).1
   have Zx:∀e∈oj.after,Region.binds .any e=true->e.on≠i:=λe he hb heq=>by
    have h1:=hall e he hb
    rw [heq] at h1
    rcases Nat.lt_or_ge i listed.size with h'|h'
    .simp [h'] at h0 h1;rw [h0] at h1;cases h1
    .simp [Array.getElem?_eq_none h'] at h1
   have Wb:rZ ops i j=false:=MJ hd h0 hj
   have h2:=wpOp_putIf Wa (QX j oj Wa NR VY Zx) (λcs b=>nM i oi cs b hi) (λcs b=>nM j oj cs b Wa) hQ hy h1
   have Tw:∀k ok,ops[k]? =some ok->k≠i->(listed.setIfInBounds j true).getD k true=false->
     (∀e∈ok.after,Region.binds .any e=true->e.on≠i)->oi.apart ops ok=true:=λk ok hk OV Gn wD=>by
    refine QX k ok hk OV ?_ wD
    by_cases hjk:j=k
    .subst hjk;exact VY
    .rw [getD_set_ne true hjk] at Gn;exact Gn
   refine wpOp_mono (λa' w' h3=>?_) h2
   obtain ⟨ZR,Q9,vl⟩:=h3
   have Jv:∀p∈eP ops j H,p.2 w':=λp hp=>Q9 p (cR.2 ⟨qmR _ (cR.1 hp).1,(cR.1 hp).2⟩)
   have hS':∀S∈Ss,S w':=λS Xv=>Q9 (i,S) (cR.2 ⟨List.mem_append_left _ (o8.2 ⟨S,Xv,rfl⟩),Wb⟩)
   refine ⟨Jv,ih (eP ops j H) (listed.setIfInBounds j true) a' w' Tw (ready_mono hr (Ne.symm NR)) ZR hS' Jv ?_⟩
   rw [Array.setIfInBounds_comm _ _ NR]
   refine rD _ _ _ _ _ _ (λp hp=>?_) vl
   rcases fW.1 hp with hp|hp
   .obtain ⟨S,Xv,rfl⟩:=o8.1 hp
    exact cR.2 ⟨List.mem_append_left _ hp,Wb⟩
   .exact cR.2 ⟨qmR _ (cR.1 hp).1,(cR.1 hp).2⟩
end
def pK (ops:Array Oper) (j:Nat):Option Nat:=(ops[j]?).bind (·.dst)
def rz (P:Program) (ops:Array Oper) (draw:Bool) (i:Nat) (o:Oper) (E:Env) (w:World) (H:lU) (K:Env->World->lU->Prop):Prop:=
 bif calm P o then qo P o E w λv Ss=>K (E.put o.dst v) w (bif draw then Ss.map (λS=>(i,S))++H else H)
 else (bif draw then mi else wk) P o E w λv w'=>I6 (heldBy ops i w' H) (K (E.put o.dst v) w' (eP ops i H))
def my (P:Program) (ops:Array Oper) (draw:Bool) (i:Nat) (o:Oper) (d:Nat) (want t:Bool) (E:Env) (w:World) (H:lU) (K:Env->World->lU->Prop):Prop:=
 bif (t==want) then rz P ops draw i o ((d,.bool t)::E) w H K else K (Env.put ((d,.bool t)::E) o.dst undef) w (bif calm P o then H else eP ops i H)
def mr (P:Program) (ops:Array Oper) (draw:Bool) (K:Env->World->Prop):List Nat->Env->World->lU->Prop
 |[],E,w,_=>K E w
 |i::l,E,w,H=>
  match ops[i]? with
  |none=>False
  |some o=>match o.guard with
   |none=>rz P ops draw i o E w H λE' w' H'=>mr P ops draw K l E' w' H'
   |some (j,want)=>match pK ops j with
    |none=>False
    |some d=>match E.get? d with
     |some (.bool t)=>aH t (my P ops draw i o d want true E w H λE' w' H'=>mr P ops draw K l E' w' H') (my P ops draw i o d want false E w H λE' w' H'=>mr P ops draw K l E' w' H')
     |some (.tuple _)=>mr P ops draw K l (Env.put E o.dst undef) w (bif calm P o then H else eP ops i H)
     |_=>False
def rp (P:Program) (ops:Array Oper):List Nat->Array Bool->Bool
 |[],listed=>(Region.ready .any ops listed).isEmpty
 |i::l,listed=>(match ops[i]? with
   |some o=>bif calm P o then Region.free .any ops listed i&&(Region.ready .any ops listed).contains i else Region.ready .any ops listed==[i]
   |none=>false)&&rp P ops l (listed.setIfInBounds i true)
def Ij (o:Oper):Bool:=match o.op with |.defer _=>false|_=>true
def gB (n:Nat) (ops:Array Oper):Bool:=Region.noSelect ops&&ops.toList.all λo=>Ij o&&match o.dst with |some d=>Nat.blt d n|none=>true
theorem dO {n:Nat} {ops:Array Oper} (h:gB n ops=true) {i:Nat} {o:Oper} (ho:ops[i]? =some o):∀t,o.dst=some t->t<n:=by
 intro t ht
 unfold gB at h
 rw [Bool.and_eq_true] at h
 have:=qaT.1 h.2 o (by simpa using Array.mem_of_getElem? ho)
 rw [ht,Bool.and_eq_true] at this
 simpa using this.2
theorem mT {n:Nat} {ops:Array Oper} (h:gB n ops=true) {i:Nat} {o:Oper} (ho:ops[i]? =some o):∀c,o.op≠.defer c:=by
 intro c hc
 unfold gB at h
 rw [Bool.and_eq_true] at h
 have:=qaT.1 h.2 o (by simpa using Array.mem_of_getElem? ho)
 rw [Bool.and_eq_true] at this
 have:=this.1
 unfold Ij at this
 rw [hc] at this
 cases this
def gW (n:Cx) (K:Env->World->Prop):Exit->Act->World->Prop
 |.normal,a,w=>∃E,Ag n a E/\K E w
 |_,_,_=>False
theorem mQ {n:Cx} {a:Act} {E:Env} (ha:Ag n a E) {ops:Array Oper} {j d:Nat} {t:Bool} (hd:pK ops j=some d) (ht:E.get? d=some (.bool t)):yielded ops a.tmps j=some t:=by
 unfold yielded
 unfold pK at hd
 rw [hd]
 simp [ha.get _ _ ht]
theorem jj {n:Cx} {a:Act} {E:Env} (ha:Ag n a E) {ops:Array Oper} {j d:Nat} {vs:Array Value} (hd:pK ops j=some d) (ht:E.get? d=some (.tuple vs)):yielded ops a.tmps j=none:=by
 unfold yielded
 unfold pK at hd
 rw [hd]
 simp [ha.get _ _ ht]
theorem Ag.same {n:Cx} {a:Act} {E:Env} (ha:Ag n a E) {d:Nat} {v:Value} (hd:E.get? d=some v):Ag n a ((d,v)::E):=ha.cons hd ha
section
variable {P:Program} {ops:Array Oper} {n:Cx} {K:Env->World->Prop}
theorem s9 {i:Nat} {o:Oper} {a:Act} {w:World} {Kv:Value->World->Prop} {K':Act->World->Prop} {Q:Exit->Act->World->Prop} (ho:ops[i]? =some o)
  (hw:Region.wanted o (yielded ops a.tmps)=true) (h:r7 P o a w Kv) (hk:∀v w',Kv v w'->K' (a.put o.dst v) w'):wpOp P ops Q i K' a w:=by
 unfold wpOp
 simp only [ho,hw,if_true]
 exact .inl (Oper.wp_mono (λa' w'=>by rintro ⟨v,rfl,hv⟩;exact hk v w' hv) (h Q))
theorem mE {i:Nat} {o:Oper} {a:Act} {E:Env} {w:World} {H:lU} {Kh:Env->World->lU->Prop} {listed:Array Bool} {fuel:Nat} {Q:Exit->Act->World->Prop}
  (hn:gB n ops=true) (ho:ops[i]? =some o) (dP:(bif calm P o then Region.free .any ops listed i&&(Region.ready .any ops listed).contains i else Region.ready .any ops listed==[i])=true)
  (hQ:∀c a w,Q (.panic c) a w=False) (ha:Ag n a E) (hH:∀p∈H,p.2 w) (ou:Region.wanted o (yielded ops a.tmps)=true)
  (h:rz P ops true i o E w H Kh)
  (next:∀a' E' w' H',Ag n a' E'->(∀p∈H',p.2 w')->Kh E' w' H'->dH P ops Q fuel H' (listed.setIfInBounds i true) a' w'):dH P ops Q (fuel+1) H listed a w:=by
 have nM:=Region.noSelect_spec (ops:=ops) (by unfold gB at hn;rw [Bool.and_eq_true] at hn;exact hn.1)
 unfold rz at h
 cases hc:calm P o with
 |true=>
  rw [hc] at h dP
  simp only [cond_true] at h dP
  rw [Bool.and_eq_true] at dP
  obtain ⟨v,Ss,hk,vm,Kx⟩:=oV (λcs b=>nM i o cs b ho) ha h
  refine qB (v:=v) (Ss:=Ss) ho nM (by simp [hQ]) fuel H listed a w (Region.free_spec ho dP.1) (by simpa using dP.2) (.inl ⟨ou,λw' As=>Kx w' As⟩) vm hH ?_
  refine next _ _ _ _ (ha.put v (dO hn ho)) ?_ hk
  intro p hp
  rcases fW.1 hp with hp|hp
  .obtain ⟨S,Xv,rfl⟩:=o8.1 hp;exact vm S Xv
  .exact hH p hp
 |false=>
  rw [hc] at h dP
  simp only [cond_false,cond_true] at h dP
  have hr:Region.ready .any ops listed=[i]:=by simpa using dP
  refine λ_=>⟨λh0=>(by rw [hr] at h0;cases h0),λj hj=>?_⟩
  rw [hr] at hj
  obtain rfl:=UY.1 hj
  refine s9 ho ou (im (λcs b=>nM j o cs b ho) ha h) λv w' hv=>?_
  obtain ⟨h1,h2⟩:=pn hv
  have Jv:∀p∈eP ops j H,p.2 w':=λp hp=>h1 _ (wA (cR.1 hp).1 (cR.1 hp).2)
  exact ⟨Jv,next _ _ _ _ (ha.put v (dO hn ho)) Jv h2⟩
theorem kr {i:Nat} {o:Oper} {a:Act} {w:World} {H:lU} {listed:Array Bool} {fuel:Nat} {Q:Exit->Act->World->Prop}
  (hn:gB n ops=true) (ho:ops[i]? =some o) (dP:(bif calm P o then Region.free .any ops listed i&&(Region.ready .any ops listed).contains i else Region.ready .any ops listed==[i])=true)
  (hQ:∀c a w,Q (.panic c) a w=False) (hH:∀p∈H,p.2 w) (ou:Region.wanted o (yielded ops a.tmps)=false)
  (next:dH P ops Q fuel (bif calm P o then H else eP ops i H) (listed.setIfInBounds i true) (a.put o.dst undef) w):dH P ops Q (fuel+1) H listed a w:=by
 have nM:=Region.noSelect_spec (ops:=ops) (by unfold gB at hn;rw [Bool.and_eq_true] at hn;exact hn.1)
 cases hc:calm P o with
 |true=>
  rw [hc] at dP next
  simp only [cond_true] at dP next
  rw [Bool.and_eq_true] at dP
  exact qB (v:=undef) (Ss:=[]) ho nM (by simp [hQ]) fuel H listed a w (Region.free_spec ho dP.1) (by simpa using dP.2) (.inr ⟨ou,rfl⟩) (λS hS=>(by cases hS)) hH (by simpa using next)
 |false=>
  rw [hc] at dP next
  simp only [cond_false] at dP next
  have hr:Region.ready .any ops listed=[i]:=by simpa using dP
  refine λ_=>⟨λh0=>(by rw [hr] at h0;cases h0),λj hj=>?_⟩
  rw [hr] at hj
  obtain rfl:=UY.1 hj
  unfold wpOp
  simp only [ho,ou]
  exact ⟨λp hp=>hH p (cR.1 hp).1,next⟩
theorem sR (hn:gB n ops=true):∀(l:List Nat) (listed:Array Bool) (E:Env) (w:World) (H:lU) (a:Act),rp P ops l listed=true->Ag n a E->(∀p∈H,p.2 w)->
  mr P ops true K l E w H->dH P ops (gW n K) l.length H listed a w
 |[],listed,E,w,H,a,dP,ha,_,h=>λ_=>⟨by simpa [rp] using dP,E,ha,h⟩
 |i::l,listed,E,w,H,a,dP,ha,hH,h=>by
  unfold rp at dP
  rw [Bool.and_eq_true] at dP
  obtain ⟨dP,vl⟩:=dP
  unfold mr at h
  cases ho:ops[i]? with
  |none=>rw [ho] at h;exact h.elim
  |some o=>
   rw [ho] at h dP
   simp only at h dP
   have next:∀a' E' w' H',Ag n a' E'->(∀p∈H',p.2 w')->mr P ops true K l E' w' H'->dH P ops (gW n K) l.length H' (listed.setIfInBounds i true) a' w':=
    λa' E' w' H' hA OO hR=>sR hn l _ E' w' H' a' vl hA OO hR
   cases hg:o.guard with
   |none=>
    rw [hg] at h
    simp only at h
    exact mE hn ho dP (λ_ _ _=>rfl) ha hH (by simp [Region.wanted,hg]) h next
   |some jw=>
    obtain ⟨j,want⟩:=jw
    rw [hg] at h
    simp only at h
    cases hd:pK ops j with
    |none=>rw [hd] at h;exact h.elim
    |some d=>
     rw [hd] at h
     simp only at h
     split at h
     .rename_i t ht
      have hy:=mQ ha hd ht
      have lQ:my P ops true i o d want t E w H λE' w' H'=>mr P ops true K l E' w' H':=by
       cases t
       .exact h
       .exact h
      unfold my at lQ
      cases hb:(t==want) with
      |true=>
       rw [hb] at lQ
       exact mE hn ho dP (λ_ _ _=>rfl) (ha.same ht) hH (by simp [Region.wanted,hg,hy];simpa using hb) lQ next
      |false=>
       rw [hb] at lQ
       simp only [cond_false] at lQ
       refine kr hn ho dP (λ_ _ _=>rfl) hH (by simp [Region.wanted,hg,hy];simpa using hb) ?_
       refine next _ _ _ _ ((ha.same ht).put undef (dO hn ho)) ?_ lQ
       intro p hp
       cases Jy:calm P o
       .rw [Jy] at hp;exact hH p (cR.1 hp).1
       .rw [Jy] at hp;exact hH p hp
     .rename_i vs ht
      have hy:=jj ha hd ht
      refine kr hn ho dP (λ_ _ _=>rfl) hH (by simp [Region.wanted,hg,hy]) ?_
      refine next _ _ _ _ (ha.put undef (dO hn ho)) ?_ h
      intro p hp
      cases Jy:calm P o
      .rw [Jy] at hp;exact hH p (cR.1 hp).1
      .rw [Jy] at hp;exact hH p hp
     .exact h.elim
theorem rE {i:Nat} {o:Oper} {a:Act} {w:World} {Kv:Value->World->Prop} {K':Act->World->Prop} {Q:Exit->Act->World->Prop} (ho:ops[i]? =some o)
  (hw:Region.wanted o (yielded ops a.tmps)=true) (h:BE P n o a w Kv) (hk:∀v w',Kv v w'->K' (a.put o.dst v) w'):wpOpIn (FW n) 0 P ops Q i K' a w:=by
 unfold wpOpIn
 simp only [ho,hw,if_true]
 exact Oper.wpIn_mono (λa' w'=>by rintro ⟨v,rfl,hv⟩;exact hk v w' hv) (h Q)
theorem rP {i:Nat} {o:Oper} {a:Act} {E:Env} {w:World} {Kh:Env->World->lU->Prop} {rest:List Nat} {Q:Exit->Act->World->Prop}
  (hn:gB n ops=true) (ho:ops[i]? =some o) (ha:Ag n a E) (ou:Region.wanted o (yielded ops a.tmps)=true) (h:rz P ops false i o E w [] Kh)
  (next:∀a' E' w',Ag n a' E'->Kh E' w' []->wpOpsIn (FW n) 0 P ops Q rest a' w'):wpOpsIn (FW n) 0 P ops Q (i::rest) a w:=by
 have nM:=Region.noSelect_spec (ops:=ops) (by unfold gB at hn;rw [Bool.and_eq_true] at hn;exact hn.1)
 rw [wpOpsIn_cons]
 unfold rz at h
 cases hc:calm P o with
 |true=>
  rw [hc] at h
  simp only [cond_true,cond_false] at h
  obtain ⟨v,Ss,hk,vm,Kx⟩:=oV (λcs b=>nM i o cs b ho) ha h
  refine rE (Kv:=λv' w'=>v'=v/\w'=w) ho ou ?_ ?_
  .refine r7.in (mT hn ho) λQ'=>?_
   unfold Oper.wp
   rw [Kx w vm]
   exact ⟨v,rfl,rfl,rfl⟩
  .rintro v' w' ⟨rfl,rfl⟩
   exact next _ _ _ (ha.put _ (dO hn ho)) hk
 |false=>
  rw [hc] at h
  simp only [cond_false,heldBy,I6,eP] at h
  exact rE ho ou (uW (λcs b=>nM i o cs b ho) (mT hn ho) ha h) λv w' hv=>next _ _ _ (ha.put v (dO hn ho)) hv
theorem sS (hn:gB n ops=true):∀(l:List Nat) (E:Env) (w:World) (a:Act),Ag n a E->mr P ops false K l E w []->wpOpsIn (FW n) 0 P ops (gW n K) l a w
 |[],E,w,a,ha,h=>⟨E,ha,h⟩
 |i::l,E,w,a,ha,h=>by
  unfold mr at h
  cases ho:ops[i]? with
  |none=>rw [ho] at h;exact h.elim
  |some o=>
   rw [ho] at h
   simp only at h
   have next:∀a' E' w',Ag n a' E'->mr P ops false K l E' w' []->wpOpsIn (FW n) 0 P ops (gW n K) l a' w':=λa' E' w' hA hR=>sS hn l E' w' a' hA hR
   cases hg:o.guard with
   |none=>
    rw [hg] at h
    simp only at h
    exact rP (Kh:=λE' w' H'=>mr P ops false K l E' w' H') hn ho ha (by simp [Region.wanted,hg]) h next
   |some jw=>
    obtain ⟨j,want⟩:=jw
    rw [hg] at h
    simp only at h
    cases hd:pK ops j with
    |none=>rw [hd] at h;exact h.elim
    |some d=>
     rw [hd] at h
     simp only at h
     split at h
     .rename_i t ht
      have hy:=mQ ha hd ht
      have lQ:my P ops false i o d want t E w [] λE' w' H'=>mr P ops false K l E' w' H':=by
       cases t
       .exact h
       .exact h
      unfold my at lQ
      cases hb:(t==want) with
      |true=>
       rw [hb] at lQ
       exact rP (Kh:=λE' w' H'=>mr P ops false K l E' w' H') hn ho (ha.same ht) (by simp [Region.wanted,hg,hy];simpa using hb) lQ next
      |false=>
       rw [hb] at lQ
       simp only [cond_false] at lQ
       have UL:(bif calm P o then ([]:lU) else eP ops i [])=[]:=by cases calm P o<;>rfl
       rw [UL] at lQ
       rw [wpOpsIn_cons]
       unfold wpOpIn
       have hw:Region.wanted o (yielded ops a.tmps)=false:=by simp [Region.wanted,hg,hy];simpa using hb
       simp only [ho,hw]
       exact ⟨λ_ _=>trivial,next _ _ _ ((ha.same ht).put undef (dO hn ho)) lQ⟩
     .rename_i vs ht
      have hy:=jj ha hd ht
      have UL:(bif calm P o then ([]:lU) else eP ops i [])=[]:=by cases calm P o<;>rfl
      rw [UL] at h
      rw [wpOpsIn_cons]
      unfold wpOpIn
      have hw:Region.wanted o (yielded ops a.tmps)=false:=by simp [Region.wanted,hg,hy]
      simp only [ho,hw]
      exact ⟨λ_ _=>trivial,next _ _ _ (ha.put undef (dO hn ho)) h⟩
     .exact h.elim
theorem zU {c:Code} {id:Nat} {a:Act} {E:Env} {w:World} (hc:c=.region id ops false) (hn:gB n ops=true) (ha:Ag n a E)
  (h:mr P ops false K (List.range ops.size) E w []):c.wpIn (FW n) 0 P (gW n K) a w:=by
 subst hc
 exact wpIn_region (sS hn _ E w a ha h)
theorem pU (hn:gB n ops=true) {Q:Exit->Act->World->Prop} (hQ:¬LetsOut Q):∀(l:List Nat) (a:Act) (w:World),wpOps P ops Q l a w->wpOpsIn (FW n) 0 P ops Q l a w
 |[],a,w,h=>h
 |i::l,a,w,h=>by
  rw [wpOps_cons] at h
  rw [wpOpsIn_cons]
  unfold wpOp at h
  unfold wpOpIn
  cases ho:ops[i]? with
  |none=>rw [ho] at h;exact pU hn hQ l a w h
  |some o=>
   rw [ho] at h
   simp only at h ⊢
   split
   .rename_i hw
    rw [if_pos hw] at h
    rcases h with h|h
    .exact Oper.wpIn_mono (λa' w' h'=>pU hn hQ l a' w' h') (Sb (mT hn ho) h)
    .exact absurd h.2 hQ
   .rename_i hw
    rw [if_neg hw] at h
    exact ⟨λ_ _=>trivial,pU hn hQ l _ w h⟩
theorem xW {c:Code} {id:Nat} {a:Act} {E:Env} {w:World} {l:List Nat} (hm:P.follows .mixedOrders=true) (hc:c=.region id ops true) (hn:gB n ops=true)
  (hl:rp P ops l (Array.replicate ops.size false)=true) (me:l.length=ops.size) (ha:Ag n a E) (h:mr P ops true K l E w.drew []):c.wpIn (FW n) 0 P (gW n K) a w:=by
 subst hc
 have h1:=sR hn l _ E _ [] a hl ha (λp hp=>(by cases hp)) h
 rw [me] at h1
 have h2:=nL _ [] _ _ _ (Down.zero _ _) h1
 refine wpIn_region_draw λt=>?_
 refine pU hn (λ⟨_,_,h⟩=>h) _ _ _ ?_
 simp only [Region.schedule,hm,Bool.true_or,if_true]
 exact wpAny_sound ops.size t _ a _ h2
end
section
variable {P:Program} {n:Cx}
def Code.Wl:Code->Bool->Bool
 |.region _ _ d,b=>d==b
 |_,_=>false
def Code.ops:Code->Array Oper
 |.region _ ops _=>ops
 |_=>#[]
def Code.fst:Code->Code
 |.seq a _=>a
 |.cond _ a _=>a
 |.block _ a=>a
 |.loop a=>a
 |.scope a=>a
 |c=>c
def Code.snd:Code->Code
 |.seq _ b=>b
 |.cond _ _ b=>b
 |c=>c
def Code.asn:Code->Code
 |.rangeFunc _ _ a _=>a
 |c=>c
def Code.bdy:Code->Code
 |.rangeFunc _ _ _ b=>b
 |c=>c
abbrev Ad (P:Program) (n:Cx) (c:Code) (Q:Exit->Act->World->Prop) (a:Act) (w:World):Prop:=c.wpIn (FW n) 0 P Q a w
def WP (P:Program) (n:Cx) (c:Code) (Q:Exit->Act->World->Prop) (E:Env) (w:World):Prop:=∀a,Ag n a E->Ad P n c Q a w
theorem WP.region {c:Code} {Q:Exit->Act->World->Prop} {E:Env} {w:World} {ops:Array Oper} {id:Nat} (K:Env->World->Prop) (hc:c=.region id ops false) (hn:gB n ops=true)
  (h:mr P ops false K (List.range ops.size) E w []) (hk:∀E' w' a',Ag n a' E'->K E' w'->Q .normal a' w'):WP P n c Q E w:=λa ha=>
 wpIn_mono (zU hc hn ha h) λe a' w' he=>by
  cases e with
  |normal=>obtain ⟨E',hA,hK⟩:=he;exact hk E' w' a' hA hK
  |_=>exact he.elim
theorem WP.PC {c:Code} {Q:Exit->Act->World->Prop} {E:Env} {w:World} {ops:Array Oper} {id:Nat} {l:List Nat} (K:Env->World->Prop) (hm:P.follows .mixedOrders=true) (hc:c=.region id ops true) (hn:gB n ops=true)
  (hl:rp P ops l (Array.replicate ops.size false)=true) (me:l.length=ops.size)
  (h:mr P ops true K l E w.drew []) (hk:∀E' w' a',Ag n a' E'->K E' w'->Q .normal a' w'):WP P n c Q E w:=λa ha=>
 wpIn_mono (xW hm hc hn hl me ha h) λe a' w' he=>by
  cases e with
  |normal=>obtain ⟨E',hA,hK⟩:=he;exact hk E' w' a' hA hK
  |_=>exact he.elim
def GK (n:Nat) (c:Code):Bool:=match c with |.region _ ops d=>!d&&gB n ops|_=>false
def WM (P:Program) (n:Nat) (c:Code) (l:List Nat):Bool:=match c with
 |.region _ ops d=>d&&(P.follows .mixedOrders&&(gB n ops&&(rp P ops l (Array.replicate ops.size false)&&Nat.beq l.length ops.size)))
 |_=>false
theorem WP.RC {c:Code} {Q:Exit->Act->World->Prop} {E:Env} {w:World} (K:Env->World->Prop) (hc:GK n c=true)
  (h:mr P (Code.ops c) false K (List.range (Code.ops c).size) E w []) (hk:∀E' w' a',Ag n a' E'->K E' w'->Q .normal a' w'):WP P n c Q E w:=by
 unfold GK at hc
 split at hc
 .rename_i id ops d
  rw [Bool.and_eq_true] at hc
  obtain ⟨h1,h2⟩:=hc
  have h3:d=false:=by simpa using h1
  subst h3
  exact WP.region K rfl h2 h hk
 .cases hc
theorem WP.draw {c:Code} {Q:Exit->Act->World->Prop} {E:Env} {w:World} (l:List Nat) (K:Env->World->Prop) (hc:WM P n c l=true)
  (h:mr P (Code.ops c) true K l E w.drew []) (hk:∀E' w' a',Ag n a' E'->K E' w'->Q .normal a' w'):WP P n c Q E w:=by
 unfold WM at hc
 split at hc
 .rename_i id ops d
  simp only [Bool.and_eq_true] at hc
  obtain ⟨rfl,h2,h3,h4,h5⟩:=hc
  rw [Nat.beq_eq] at h5
  exact WP.PC K h2 rfl h3 h4 h5 h hk
 .cases hc
theorem WP.at {c:Code} {Q:Exit->Act->World->Prop} {E:Env} {w:World} {a:Act} (h:WP P n c Q E w) (ha:Ag n a E):Ad P n c Q a w:=h a ha
theorem WP.seq {c x y:Code} {Q:Exit->Act->World->Prop} {E:Env} {w:World} (hc:c=.seq x y) (h:WP P n x (Exit.then (Ad P n y Q) Q) E w):WP P n c Q E w:=λa ha=>by
 subst hc;exact wpIn_seq (h a ha)
theorem WP.cond {c x y:Code} {o:Operand} {Q:Exit->Act->World->Prop} {E:Env} {w:World} {t:Bool} (hc:c=.cond o x y) (ho:E.val o=some (.bool t)) (h:aH t (WP P n x Q E w) (WP P n y Q E w)):WP P n c Q E w:=λa ha=>by
 subst hc
 refine wpIn_cond_split (ha.val ho) (λht=>?_) (λht=>?_)
 .subst ht;exact h a ha
 .subst ht;exact h a ha
def pG (v:Option Value) (A B:Prop):Prop:=match v with |some (.bool t)=>aH t A B|_=>False
theorem WP.pG {c x y:Code} {o:Operand} {Q:Exit->Act->World->Prop} {E:Env} {w:World} {A B:Prop} (hc:c=.cond o x y) (h1:A->WP P n x Q E w) (h2:B->WP P n y Q E w) (h:pG (E.val o) A B):WP P n c Q E w:=by
 unfold W.pG at h
 split at h
 .rename_i t ht
  refine WP.cond hc ht ?_
  cases t
  .exact h2 h
  .exact h1 h
 .exact h.elim
theorem WP.block {c x:Code} {id:Nat} {Q:Exit->Act->World->Prop} {E:Env} {w:World} (hc:c=.block id x) (h:WP P n x (Exit.inBlock id Q) E w):WP P n c Q E w:=λa ha=>by
 subst hc;exact wpIn_block (h a ha)
theorem WP.skip {c:Code} {Q:Exit->Act->World->Prop} {E:Env} {w:World} (hc:c=.skip) (h:∀a,Ag n a E->Q .normal a w):WP P n c Q E w:=λa ha=>by
 subst hc;exact wpIn_skip (h a ha)
theorem WP.exit {c:Code} {id:Nat} {Q:Exit->Act->World->Prop} {E:Env} {w:World} (hc:c=.exit id) (h:∀a,Ag n a E->Q (.exit id) a w):WP P n c Q E w:=λa ha=>by
 subst hc;exact wpIn_exit (h a ha)
theorem WP.ret {c:Code} {Q:Exit->Act->World->Prop} {E:Env} {w:World} (hc:c=.ret) (h:∀a,Ag n a E->Q .ret a w):WP P n c Q E w:=λa ha=>by
 subst hc;exact wpIn_ret (h a ha)
def r8 (P:Program) (n:Cx) (c:Code) (Q:Exit->Act->World->Prop) (a:Act) (w:World):Prop:=
 ∀(b:Frame) (k:List Item) (cs:List Frame),b.roundOf=n.ro->∃e a' w',Q e a' w'/\ArrivesIn (Machine.fenced P (FW n)) P (lone (b.atR a (.code c::.inLoop c::k)) cs w) b k cs e a' w'
theorem PG (n:Cx) (m:Nat):(FW n).room m:=room_wide m
theorem vR {c:Code} {Q:Exit->Act->World->Prop} {a:Act} {w:World} (h:r8 P n c Q a w):Ad P n (Code.loop c) Q a w:=λb k cs XE hb hr=>by
 obtain ⟨e,a',w',hq,Am⟩:=h b k cs XE
 exact ⟨e,a',w',hq,.of_steps (.one (fenced_calm hb hr rfl) stepR_loop) Am⟩
theorem xu {c:Code} {Q:Exit->Act->World->Prop} {a:Act} {w:World} (h:Ad P n c (Exit.then (r8 P n c Q) Q) a w):r8 P n c Q a w:=by
 intro b k cs XE
 have hb:(FW n).fn b.fn:=trivial
 have hr:(FW n).room (cs.length+1+0):=PG n _
 obtain ⟨e,a₁,w₁,hq,Am⟩:=h b (.inLoop c::k) cs XE hb hr
 cases e with
 |normal=>
  obtain ⟨e₂,a₂,w₂,hq₂,Am₂⟩:=hq b k cs XE
  exact ⟨e₂,a₂,w₂,hq₂,.of_steps (StepsIn.trans Am (.one (fenced_calm hb hr rfl) stepR_inLoop)) Am₂⟩
 |exit id=>exact ⟨_,a₁,w₁,hq,.pass (x:=.inLoop c) rfl (λ_ _=>.inl (by simp)) Am⟩
 |goto l=>exact ⟨_,a₁,w₁,hq,.pass (x:=.inLoop c) rfl (λ_ _=>.inl (by simp)) Am⟩
 |ret=>exact ⟨_,a₁,w₁,hq,.pass (x:=.inLoop c) rfl (λ_ _=>.inl (by simp)) Am⟩
 |panic ch=>exact ⟨_,a₁,w₁,hq,.pass (x:=.inLoop c) rfl (λ_ _=>.inl (by simp)) Am⟩
 |outgrown=>exact ⟨_,a₁,w₁,hq,.pass (x:=.inLoop c) rfl (λ_ _=>.inl (by simp)) Am⟩
def LP (P:Program) (n:Cx) (c:Code) (Q:Exit->Act->World->Prop) (E:Env) (w:World):Prop:=∀a,Ag n a E->r8 P n c Q a w
theorem WP.loop {c x:Code} {Q:Exit->Act->World->Prop} {E:Env} {w:World} (hc:c=.loop x) (h:LP P n x Q E w):WP P n c Q E w:=λa ha=>by
 subst hc;exact vR (h a ha)
theorem LP.step {c:Code} {Q:Exit->Act->World->Prop} {E:Env} {w:World} (h:WP P n c (Exit.then (r8 P n c Q) Q) E w):LP P n c Q E w:=λa ha=>xu (h a ha)
def MQ:List Value->Value
 |[v]=>v
 |vs=>.tuple vs.toArray
def zm (P:Program) (E:Env) (w:World):List ResultVar->(List Value->Prop)->Prop
 |[],K=>K []
 |.tmp t::l,K=>match E.get? t with
  |some v=>zm P E w l λvs=>K (v::vs)
  |none=>False
 |.cell x T::l,K=>match E.get? x with
  |some (.pointer (some p))=>At P T p w λv _=>zm P E w l λvs=>K (v::vs)
  |_=>False
def rM (P:Program) (fn:Func) (E:Env) (w:World) (K:Value->Prop):Prop:=zm P E w fn.results.toList λvs=>K (MQ vs)
def xE (tmps:Array Value):ResultVar->Sem Value
 |.tmp t=>pure (tmps.getD t undef)
 |.cell a t=>do loadVar t (<-asAddr (tmps.getD a undef))
theorem zl (fn:Func) (tmps:Array Value):results fn tmps=(do let vs <-fn.results.mapM (xE tmps);pure (if h:vs.size=1 then vs[0] else .tuple vs)):=by
 unfold results
 congr 1
theorem sQ {a:Act} {E:Env} (ha:Ag n a E) (w:World):∀{l:List ResultVar} {K:List Value->Prop},zm P E w l K->
  ∃vs,(l.mapM (xE a.tmps)).run P w=.ok vs w/\K vs
 |[],K,h=>⟨[],by simp,h⟩
 |.tmp t::l,K,h=>by
  unfold zm at h
  split at h
  .rename_i v hv
   obtain ⟨vs,hr,hk⟩:=sQ ha w h
   refine ⟨v::vs,?_,hk⟩
   have hg:=ha.get t v hv
   simp [List.mapM_cons,xE,hr,hg]
  .exact h.elim
 |.cell x T::l,K,h=>by
  unfold zm at h
  split at h
  .rename_i p hp
   obtain ⟨v,S,h,vm,Kx⟩:=ue h
   obtain ⟨vs,hr,hk⟩:=sQ ha w h
   refine ⟨v::vs,?_,hk⟩
   have hg:=ha.get x _ hp
   simp [List.mapM_cons,xE,hr,hg,asAddr,Kx w vm]
  .exact h.elim
theorem wQ {fn:Func} {a:Act} {E:Env} {w:World} {R:Ending->World->Prop} (ha:Ag n a E) (h:rM P fn E w λv=>R (.returned v) w):
  ∃v,(results fn a.tmps).run P w=.ok v w/\R (.returned v) w:=by
 obtain ⟨vs,hr,hk⟩:=sQ ha w h
 refine ⟨_,?_,hk⟩
 rw [zl,<-Array.toArray_toList (xs:=fn.results),List.mapM_toArray]
 simp only [Sem.run_bind,Sem.run_map,hr,Result.andThen_ok,Sem.run_pure]
 congr 1
 cases vs with
 |nil=>rfl
 |cons v vs=>cases vs<;>rfl
theorem qj {m:Nat} {fn:Func} {a:Act} {E:Env} {w:World} {R:Ending->World->Prop} (ha:Ag (cx m) a E) (h:rM P fn E w λv=>R (.returned v) w):
  a.defers=[]/\∃v,(results fn a.tmps).run P w=.ok v w/\R (.returned v) w:=⟨ha.defers,wQ ha h⟩
theorem Dn {f:FuncId} {fn:Func} {c:Code} {args:Array Value} {w:World} {R:Ending->World->Prop} {E:Env} (hf:P.funcs[f]? =some fn) (hb:fn.body=some c) (me:args.size<=fn.ntmps)
  (hE:∀t v,E.get? t=some v->args[t]? =some v) (h:WP P (cx fn.ntmps) c (bodyPost P fn R) E w):Calls P f args w R:=by
 refine calls_of_wp hf hb (wpIn_wide.1 (h _ ⟨rfl,by simp;omega,?_⟩))
 intro t v ht
 have:=hE t v ht
 have lC:t<args.size:=by
  rcases Nat.lt_or_ge t args.size with h'|h'
  .exact h'
  .rw [Array.getElem?_eq_none h'] at this;cases this
 rw [Array.getElem?_append_left lC]
 exact this
def rI:Nat->List Value->Env
 |_,[]=>[]
 |i,v::l=>(i,v)::rI (i+1) l
theorem wo:∀(l:List Value) (i t:Nat) (v:Value),(rI i l).get? t=some v->i<=t/\l[t - i]? =some v
 |[],_,_,_,h=>by simp [rI,Env.get?] at h
 |u::l,i,t,v,h=>by
  simp only [rI,Env.get?] at h
  by_cases e:i=t
  .subst e;simp at h;subst h;simp
  .have hb:Nat.beq i t=false:=by rw [<-Bool.not_eq_true,Nat.beq_eq];exact e
   simp only [hb,cond_false] at h
   obtain ⟨h1,h2⟩:=wo l (i+1) t v h
   refine ⟨by omega,?_⟩
   rw [show t - i=(t - (i+1))+1 by omega]
   simpa using h2
theorem oU {f:FuncId} {fn:Func} {c:Code} {args:List Value} {w:World} {R:Ending->World->Prop} (hf:P.funcs[f]? =some fn) (hb:fn.body=some c) (me:Nat.ble args.length fn.ntmps=true)
  (h:WP P (cx fn.ntmps) c (bodyPost P fn R) (rI 0 args) w):Calls P f args.toArray w R:=
 Dn hf hb (by simpa using Nat.le_of_ble_eq_true me) (λt v ht=>by
  have:=(wo args 0 t v ht).2
  simpa using this) h
theorem M8 {t:Bool} {A B A' B':Prop} (h1:A->A') (h2:B->B') (h:aH t A B):aH t A' B':=by
 cases t
 .exact h2 h
 .exact h1 h
def asInt (k:IntKind) (v:Option Value) (K:Int->Prop):Prop:=match v with |some (.int k' n)=>hO (k'==k) (K n)|_=>False
theorem pB {k:IntKind} {v:Option Value} {K:Int->Prop} (h:asInt k v K):∃n,v=some (.int k n)/\K n:=by
 unfold asInt at h
 split at h
 .obtain ⟨h1,h2⟩:=bX h
  have h3:=eq_of_beq h1
  subst h3
  exact ⟨_,rfl,h2⟩
 .exact h.elim
def yo (v:Option Value) (K:ByteArray->Prop):Prop:=match v with |some (.string b)=>K b|_=>False
theorem pC {v:Option Value} {K:ByteArray->Prop} (h:yo v K):∃b,v=some (.string b)/\K b:=by
 unfold yo at h
 split at h
 .exact ⟨_,rfl,h⟩
 .exact h.elim
def gC (v:Option Value) (K:Addr->Prop):Prop:=match v with |some (.pointer (some a))=>K a|_=>False
theorem bP {v:Option Value} {K:Addr->Prop} (h:gC v K):∃a,v=some (.pointer (some a))/\K a:=by
 unfold gC at h
 split at h
 .exact ⟨_,rfl,h⟩
 .exact h.elim
def asAgg (v:Option Value) (K:List Value->Prop):Prop:=match v with |some (.agg cs)=>K cs.toList|_=>False
theorem FB {v:Option Value} {K:List Value->Prop} (h:asAgg v K):∃cs:List Value,v=some (.agg cs.toArray)/\K cs:=by
 unfold asAgg at h
 split at h
 .exact ⟨_,rfl,h⟩
 .exact h.elim
def BM (f:FuncId) (v:Option Value) (K:List Value->List Value->Prop):Prop:=match v with |some (.func (.func g) fs cs)=>hO (Nat.beq g f) (K fs.toList cs.toList)|_=>False
theorem Da {f:FuncId} {v:Option Value} {K:List Value->List Value->Prop} (h:BM f v K):∃fs cs:List Value,v=some (.func (.func f) fs.toArray cs.toArray)/\K fs cs:=by
 unfold BM at h
 split at h
 .obtain ⟨h1,h2⟩:=bX h
  rw [Nat.beq_eq] at h1
  subst h1
  exact ⟨_,_,rfl,h2⟩
 .exact h.elim
def sh (l:List Value) (K:Value->List Value->Prop):Prop:=match l with |v::r=>K v r|[]=>False
theorem mR {l:List Value} {K:Value->List Value->Prop} (h:sh l K):∃v r,l=v::r/\K v r:=by
 cases l with
 |nil=>exact h.elim
 |cons v r=>exact ⟨v,r,rfl,h⟩
def AJ (l:List Value) (K:Prop):Prop:=match l with |[]=>K|_=>False
theorem tT {l:List Value} {K:Prop} (h:AJ l K):l=[]/\K:=by
 cases l with
 |nil=>exact ⟨rfl,h⟩
 |cons v r=>exact h.elim
end
def N' (k:IntKind) (x y:Int):Int:=k.wrap ((BitVec.ofInt k.bits x&&& BitVec.ofInt k.bits y).toNat:Int)
def Vd (k:IntKind) (x y:Int):Int:=k.wrap ((BitVec.ofInt k.bits x|||BitVec.ofInt k.bits y).toNat:Int)
def Oa (k:IntKind) (x y:Int):Int:=k.wrap ((BitVec.ofInt k.bits x^^^BitVec.ofInt k.bits y).toNat:Int)
inductive Tr where
 |nil
 |one (i:Nat) (t:Tr)
 |fork (a b:Tr)
def Tr.oR:Tr->List Nat
 |.nil=>[]
 |.one i _=>[i]
 |.fork a b=>a.oR++b.oR
def Tr.len:Tr->Nat
 |.nil=>0
 |.one _ t=>t.len+1
 |.fork a _=>a.len
def yW (P:Program) (ops:Array Oper) (i:Nat) (E:Env) (w:World) (H:lU) (Kn:Env->World->lU->Prop):Prop:=
 match ops[i]? with
 |none=>False
 |some o=>match o.guard with
  |none=>rz P ops true i o E w H Kn
  |some (j,want)=>match pK ops j with
   |none=>False
   |some d=>match E.get? d with
    |some (.bool t)=>aH t (my P ops true i o d want true E w H Kn) (my P ops true i o d want false E w H Kn)
    |some (.tuple _)=>Kn (Env.put E o.dst undef) w (bif calm P o then H else eP ops i H)
    |_=>False
def rA (P:Program) (ops:Array Oper) (K:Env->World->Prop):Tr->Env->World->lU->Prop
 |.nil,E,w,_=>K E w
 |.one i t,E,w,H=>yW P ops i E w H λE' w' H'=>rA P ops K t E' w' H'
 |.fork a b,E,w,H=>rA P ops K a E w H/\rA P ops K b E w H
def kf (P:Program) (ops:Array Oper):Tr->Bool->Array Bool->Bool
 |.nil,alt,listed=>!alt&&(Region.ready .any ops listed).isEmpty
 |.one i t,alt,listed=>(match ops[i]? with
   |some o=>bif alt then !calm P o else bif calm P o then Region.free .any ops listed i&&(Region.ready .any ops listed).contains i else Region.ready .any ops listed==[i]
   |none=>false)&&kf P ops t false (listed.setIfInBounds i true)
 |.fork a b,alt,listed=>(alt||Region.ready .any ops listed==(Tr.fork a b).oR)&&(Nat.beq a.len b.len&&(kf P ops a true listed&&kf P ops b true listed))
section
variable {P:Program} {ops:Array Oper} {n:Cx} {K:Env->World->Prop}
theorem IK {i:Nat} {o:Oper} {a:Act} {E:Env} {w:World} {H:lU} {Kh:Env->World->lU->Prop} {listed:Array Bool} {fuel:Nat} {Q:Exit->Act->World->Prop}
  (hn:gB n ops=true) (ho:ops[i]? =some o) (hc:calm P o=false) (ha:Ag n a E) (ou:Region.wanted o (yielded ops a.tmps)=true)
  (h:rz P ops true i o E w H Kh)
  (next:∀a' E' w' H',Ag n a' E'->(∀p∈H',p.2 w')->Kh E' w' H'->dH P ops Q fuel H' (listed.setIfInBounds i true) a' w'):
  wpOp P ops Q i (λa' w'=>(∀p∈eP ops i H,p.2 w')/\dH P ops Q fuel (eP ops i H) (listed.setIfInBounds i true) a' w') a w:=by
 have nM:=Region.noSelect_spec (ops:=ops) (by unfold gB at hn;rw [Bool.and_eq_true] at hn;exact hn.1)
 unfold rz at h
 rw [hc] at h
 simp only [cond_false,cond_true] at h
 refine s9 ho ou (im (λcs b=>nM i o cs b ho) ha h) λv w' hv=>?_
 obtain ⟨h1,h2⟩:=pn hv
 have Jv:∀p∈eP ops i H,p.2 w':=λp hp=>h1 _ (wA (cR.1 hp).1 (cR.1 hp).2)
 exact ⟨Jv,next _ _ _ _ (ha.put v (dO hn ho)) Jv h2⟩
theorem CB {i:Nat} {o:Oper} {a:Act} {w:World} {H:lU} {listed:Array Bool} {fuel:Nat} {Q:Exit->Act->World->Prop}
  (ho:ops[i]? =some o) (hH:∀p∈H,p.2 w) (ou:Region.wanted o (yielded ops a.tmps)=false)
  (next:dH P ops Q fuel (eP ops i H) (listed.setIfInBounds i true) (a.put o.dst undef) w):
  wpOp P ops Q i (λa' w'=>(∀p∈eP ops i H,p.2 w')/\dH P ops Q fuel (eP ops i H) (listed.setIfInBounds i true) a' w') a w:=by
 unfold wpOp
 simp only [ho,ou]
 exact ⟨λp hp=>hH p (cR.1 hp).1,next⟩
theorem Mf (hn:gB n ops=true) {i:Nat} {o:Oper} {E:Env} {w:World} {H:lU} {a:Act} {Kn:Env->World->lU->Prop} {listed:Array Bool} {fuel:Nat} (ho:ops[i]? =some o)
  (dP:(bif calm P o then Region.free .any ops listed i&&(Region.ready .any ops listed).contains i else Region.ready .any ops listed==[i])=true) (ha:Ag n a E) (hH:∀p∈H,p.2 w) (h:yW P ops i E w H Kn)
  (next:∀a' E' w' H',Ag n a' E'->(∀p∈H',p.2 w')->Kn E' w' H'->dH P ops (gW n K) fuel H' (listed.setIfInBounds i true) a' w'):dH P ops (gW n K) (fuel+1) H listed a w:=by
 unfold yW at h
 rw [ho] at h
 simp only at h
 cases hg:o.guard with
 |none=>
  rw [hg] at h
  simp only at h
  exact mE hn ho dP (λ_ _ _=>rfl) ha hH (by simp [Region.wanted,hg]) h next
 |some jw=>
  obtain ⟨j,want⟩:=jw
  rw [hg] at h
  simp only at h
  cases hd:pK ops j with
  |none=>rw [hd] at h;exact h.elim
  |some d=>
   rw [hd] at h
   simp only at h
   split at h
   .rename_i t ht
    have hy:=mQ ha hd ht
    have lQ:my P ops true i o d want t E w H Kn:=by
     cases t
     .exact h
     .exact h
    unfold my at lQ
    cases hb:(t==want) with
    |true=>
     rw [hb] at lQ
     exact mE hn ho dP (λ_ _ _=>rfl) (ha.same ht) hH (by simp [Region.wanted,hg,hy];simpa using hb) lQ next
    |false=>
     rw [hb] at lQ
     simp only [cond_false] at lQ
     refine kr hn ho dP (λ_ _ _=>rfl) hH (by simp [Region.wanted,hg,hy];simpa using hb) ?_
     refine next _ _ _ _ ((ha.same ht).put undef (dO hn ho)) ?_ lQ
     intro p hp
     cases Jy:calm P o
     .rw [Jy] at hp;exact hH p (cR.1 hp).1
     .rw [Jy] at hp;exact hH p hp
   .rename_i vs ht
    have hy:=jj ha hd ht
    refine kr hn ho dP (λ_ _ _=>rfl) hH (by simp [Region.wanted,hg,hy]) ?_
    refine next _ _ _ _ (ha.put undef (dO hn ho)) ?_ h
    intro p hp
    cases Jy:calm P o
    .rw [Jy] at hp;exact hH p (cR.1 hp).1
    .rw [Jy] at hp;exact hH p hp
   .exact h.elim
theorem OR (hn:gB n ops=true) {i:Nat} {o:Oper} {E:Env} {w:World} {H:lU} {a:Act} {Kn:Env->World->lU->Prop} {listed:Array Bool} {fuel:Nat} (ho:ops[i]? =some o)
  (hc:calm P o=false) (ha:Ag n a E) (hH:∀p∈H,p.2 w) (h:yW P ops i E w H Kn)
  (next:∀a' E' w' H',Ag n a' E'->(∀p∈H',p.2 w')->Kn E' w' H'->dH P ops (gW n K) fuel H' (listed.setIfInBounds i true) a' w'):
  wpOp P ops (gW n K) i (λa' w'=>(∀p∈eP ops i H,p.2 w')/\dH P ops (gW n K) fuel (eP ops i H) (listed.setIfInBounds i true) a' w') a w:=by
 unfold yW at h
 rw [ho] at h
 simp only at h
 have hHd:∀p∈eP ops i H,p.2 w:=λp hp=>hH p (cR.1 hp).1
 cases hg:o.guard with
 |none=>
  rw [hg] at h
  simp only at h
  exact IK hn ho hc ha (by simp [Region.wanted,hg]) h next
 |some jw=>
  obtain ⟨j,want⟩:=jw
  rw [hg] at h
  simp only at h
  cases hd:pK ops j with
  |none=>rw [hd] at h;exact h.elim
  |some d=>
   rw [hd] at h
   simp only at h
   split at h
   .rename_i t ht
    have hy:=mQ ha hd ht
    have lQ:my P ops true i o d want t E w H Kn:=by
     cases t
     .exact h
     .exact h
    unfold my at lQ
    cases hb:(t==want) with
    |true=>
     rw [hb] at lQ
     exact IK hn ho hc (ha.same ht) (by simp [Region.wanted,hg,hy];simpa using hb) lQ next
    |false=>
     rw [hb,hc] at lQ
     simp only [cond_false] at lQ
     exact CB ho hH (by simp [Region.wanted,hg,hy];simpa using hb) (next _ _ _ _ ((ha.same ht).put undef (dO hn ho)) hHd lQ)
   .rename_i vs ht
    have hy:=jj ha hd ht
    rw [hc] at h
    simp only [cond_false] at h
    exact CB ho hH (by simp [Region.wanted,hg,hy]) (next _ _ _ _ (ha.put undef (dO hn ho)) hHd h)
   .exact h.elim
theorem zN:∀(t:Tr) (listed:Array Bool),kf P ops t true listed=true->∃m,t.len=m+1
 |.nil,listed,h=>by simp [kf] at h
 |.one i t,listed,_=>⟨t.len,rfl⟩
 |.fork a b,listed,h=>by
  unfold kf at h
  simp only [Bool.and_eq_true] at h
  exact zN a listed h.2.2.1
theorem ux:∀(t:Tr) (listed:Array Bool),kf P ops t true listed=true->t.oR≠[]
 |.nil,listed,h=>by simp [kf] at h
 |.one i t,listed,_=>by simp [Tr.oR]
 |.fork a b,listed,h=>by
  unfold kf at h
  simp only [Bool.and_eq_true] at h
  have:=ux a listed h.2.2.1
  simp [Tr.oR,this]
theorem pS (hn:gB n ops=true):∀(t:Tr) (alt:Bool) (listed:Array Bool) (E:Env) (w:World) (H:lU) (a:Act) (m:Nat),kf P ops t alt listed=true->Ag n a E->(∀p∈H,p.2 w)->rA P ops K t E w H->
  (alt=false->t.len=m->dH P ops (gW n K) m H listed a w)/\
  (alt=true->t.len=m+1->∀i∈t.oR,wpOp P ops (gW n K) i (λa' w'=>(∀p∈eP ops i H,p.2 w')/\dH P ops (gW n K) m (eP ops i H) (listed.setIfInBounds i true) a' w') a w)
 |.nil,alt,listed,E,w,H,a,m,dP,ha,hH,h=>by
  unfold kf at dP
  rw [Bool.and_eq_true] at dP
  refine ⟨λ_ hm=>?_,λe=>?_⟩
  .subst hm
   exact λ_=>⟨by simpa using dP.2,E,ha,h⟩
  .subst e;simp at dP
 |.one i t,alt,listed,E,w,H,a,m,dP,ha,hH,h=>by
  unfold kf at dP
  rw [Bool.and_eq_true] at dP
  obtain ⟨dP,vl⟩:=dP
  cases ho:ops[i]? with
  |none=>rw [ho] at dP;cases dP
  |some o=>
   rw [ho] at dP
   simp only at dP
   unfold rA at h
   refine ⟨λe hm=>?_,λe hm j hj=>?_⟩
   .subst e hm
    exact Mf hn ho dP ha hH h λa' E' w' H' hA OO hR=>(pS hn t false _ E' w' H' a' _ vl hA OO hR).1 rfl rfl
   .subst e
    rw [cond_true] at dP
    obtain rfl:=UY.1 hj
    have JD:t.len=m:=by simpa [Tr.len] using hm
    exact OR hn ho (by simpa using dP) ha hH h λa' E' w' H' hA OO hR=>(pS hn t false _ E' w' H' a' _ vl hA OO hR).1 rfl JD
 |.fork x y,alt,listed,E,w,H,a,m,dP,ha,hH,h=>by
  unfold kf at dP
  simp only [Bool.and_eq_true] at dP
  obtain ⟨hr,hl,hx,hy⟩:=dP
  rw [Nat.beq_eq] at hl
  unfold rA at h
  have both:∀k,x.len=k+1->∀i∈(Tr.fork x y).oR,wpOp P ops (gW n K) i (λa' w'=>(∀p∈eP ops i H,p.2 w')/\dH P ops (gW n K) k (eP ops i H) (listed.setIfInBounds i true) a' w') a w:=λk hk i hi=>by
   rcases fW.1 hi with hi|hi
   .exact (pS hn x true listed E w H a k hx ha hH h.1).2 rfl hk i hi
   .exact (pS hn y true listed E w H a k hy ha hH h.2).2 rfl (hl▸hk) i hi
  refine ⟨λe hm=>?_,λ_ hm=>both m hm⟩
  subst e
  obtain ⟨k,hk⟩:=zN x listed hx
  have JD:m=k+1:=by rw [<-hm,<-hk];rfl
  subst JD
  have Wd:Region.ready .any ops listed=(Tr.fork x y).oR:=by simpa using hr
  have iq:(Tr.fork x y).oR≠[]:=by have:=ux x listed hx;simp [Tr.oR,this]
  exact λ_=>⟨λh0=>absurd (Wd▸h0) iq,λi hi=>both k hk i (Wd▸hi)⟩
theorem zV {c:Code} {id:Nat} {a:Act} {E:Env} {w:World} {t:Tr} (hm:P.follows .mixedOrders=true) (hc:c=.region id ops true) (hn:gB n ops=true)
  (hl:kf P ops t false (Array.replicate ops.size false)=true) (me:t.len=ops.size) (ha:Ag n a E) (h:rA P ops K t E w.drew []):c.wpIn (FW n) 0 P (gW n K) a w:=by
 subst hc
 have h1:=(pS hn t false _ E _ [] a _ hl ha (λp hp=>(by cases hp)) h).1 rfl me
 have h2:=nL _ [] _ _ _ (Down.zero _ _) h1
 refine wpIn_region_draw λt=>?_
 refine pU hn (λ⟨_,_,h⟩=>h) _ _ _ ?_
 simp only [Region.schedule,hm,Bool.true_or,if_true]
 exact wpAny_sound ops.size t _ a _ h2
def Bq (P:Program) (n:Nat) (c:Code) (t:Tr):Bool:=match c with
 |.region _ ops d=>d&&(P.follows .mixedOrders&&(gB n ops&&(kf P ops t false (Array.replicate ops.size false)&&Nat.beq t.len ops.size)))
 |_=>false
theorem WP.tree {c:Code} {Q:Exit->Act->World->Prop} {E:Env} {w:World} (t:Tr) (K:Env->World->Prop) (hc:Bq P n c t=true)
  (h:rA P (Code.ops c) K t E w.drew []) (hk:∀E' w' a',Ag n a' E'->K E' w'->Q .normal a' w'):WP P n c Q E w:=by
 unfold Bq at hc
 split at hc
 .rename_i id ops d
  simp only [Bool.and_eq_true] at hc
  obtain ⟨rfl,h2,h3,h4,h5⟩:=hc
  rw [Nat.beq_eq] at h5
  exact λa ha=>wpIn_mono (zV h2 rfl h3 h4 h5 ha h) λe a' w' he=>by
   cases e with
   |normal=>obtain ⟨E',hA,hK⟩:=he;exact hk E' w' a' hA hK
   |_=>exact he.elim
 .cases hc
end
section
variable {P:Program}
def lo (r:Loop) (st:LoopState) (pe:Option Code):Obj:=.loop {r with state:=st,pending:=pe}
structure KU (r:Loop) (m:Nat) (ps:Array Tmp) (assign body:Code) (E:Env):Prop where
 ps:r.params=ps
 assign:r.assign=assign
 body:r.body=body
 size:r.tmps.size=m
 get:∀t v,E.get? t=some v->r.tmps[t]? =some v
def Ey:Env->List Nat->List Value->Env
 |E,p::ps,v::vs=>Ey ((p,v)::E) ps vs
 |E,_,_=>E
theorem It {m l:Nat}:∀(ps:List Nat) (vs:List Value) (E:Env) (tmps:Array Value),tmps.size=m->(∀p∈ps,p<m)->(∀t v,E.get? t=some v->tmps[t]? =some v)->
  Ag ⟨m,[],some l⟩ {tmps:=(ps.zip vs).foldl (λt (p,v)=>t.setIfInBounds p v) tmps,defers:=[]} (Ey E ps vs)
 |[],vs,E,tmps,hs,_,hE=>⟨rfl,by simpa using hs,by cases vs<;>simpa [Ey] using hE⟩
 |p::ps,[],E,tmps,hs,_,hE=>⟨rfl,by simpa using hs,by simpa [Ey] using hE⟩
 |p::ps,v::vs,E,tmps,hs,hp,hE=>by
  simp only [List.zip_cons_cons,List.foldl_cons,Ey]
  refine It ps vs _ _ (by simpa using hs) (λq hq=>hp q (by simp [hq])) ?_
  have:=(Ag.put (n:=⟨m,[],some l⟩) (a:={tmps:=tmps,defers:=[]}) (E:=E) ⟨rfl,hs,hE⟩ (d:=some p) v (λt ht=>by cases ht;exact hp p (by simp))).get
  simpa [Env.put,Act.put] using this
def xh (P:Program) (l:Nat) (args:Array Value) (w:World) (K:Bool->World->Prop):Prop:=
 YieldAt Fence.wide 0 P l args w λe w'=>∃b:Bool,e=.returned (.bool b)/\K b w'
def BG (P:Program) (m l:Nat) (r:Loop) (body:Code) (Q:Exit->Act->World->Prop):Exit->Act->World->Prop:=
 Exit.then (λa₁ w₁=>w₁.heap[l]? =some (lo r .ready none)/\Ad P ⟨m,[],some l⟩ body Q a₁ (w₁.putObj l (lo r .busy none))) (λ_ _ _=>False)
theorem NJ {m l:Nat} {r:Loop} {ps:Array Tmp} {assign body:Code} {E:Env} {args:List Value} {w:World} {R:Ending->World->Prop} {K:Bool->World->Prop} (hr:KU r m ps assign body E) (hl:w.heap[l]? =some (lo r .ready none))
  (me:args.length=ps.size) (lC:ps.toList.all (λp=>Nat.blt p m)=true) (hK:∀e w',R e w'->∃b:Bool,e=.returned (.bool b)/\K b w')
  (h:WP P ⟨m,[],some l⟩ assign (BG P m l r body (roundPost P l R)) (Ey E ps.toList args) w):xh P l args.toArray w K:=by
 have lH:=run_yield (P:=P) (w:=w) (args:=args.toArray) hl (by simp [hr.ps,me])
 refine ⟨_,_,_,_,lH,RoundIn.mono (roundIn_of_wpIn (R:=R) trivial ?_) hK⟩
 simp only [lo,hr.ps,hr.assign,hr.body]
 have VM:Ag ⟨m,[],some l⟩ {tmps:=(ps.zip args.toArray).foldl (λt (p,v)=>t.setIfInBounds p v) r.tmps,defers:=[]} (Ey E ps.toList args):=by
  have:=It (m:=m) (l:=l) ps.toList args E r.tmps hr.size (λp hp=>by simpa using qaT.1 lC p hp) hr.get
  rw [<-Array.foldl_toList]
  simpa using this
 refine wpIn_mono (h _ VM) λe a' w' he=>?_
 cases e with
 |normal=>
  obtain ⟨h1,h2⟩:=he
  exact ⟨_,run_beginRound h1 rfl,h2⟩
 |_=>exact he.elim
theorem J2 {l:Nat} {r:Loop} {a:Act} {w:World} {R:Ending->World->Prop} (hl:w.heap[l]? =some (lo r .busy none)) (h:R (.returned (.bool true)) (w.putObj l (lo r .ready none))):roundPost P l R .normal a w:=
 ⟨_,_,run_endRound none hl,h⟩
theorem J3 {l:Nat} {r:Loop} {a:Act} {w:World} {R:Ending->World->Prop} (hl:w.heap[l]? =some (lo r .busy none)) (h:R (.returned (.bool false)) (w.putObj l (lo r .done (some .ret)))):roundPost P l R .ret a w:=
 ⟨_,_,run_endRound (some .ret) hl,h⟩
abbrev marked (m D:Nat):Cx:=⟨m,[{target:=.collected D,args:=#[]}],none⟩
def uI (w2:World) (l:Nat) (o:LoopState->Option Code->Obj) (N:World->Prop) (X:Nat->World->Prop) (T:World->Prop):Prop:=
 (w2.heap[l]? =some (o .ready none)/\N (w2.putObj l (o .exhausted none)))\/
 (∃id,w2.heap[l]? =some (o .done (some (.exit id)))/\X id (w2.putObj l (o .exhausted (some (.exit id)))))\/
 (w2.heap[l]? =some (o .done (some .ret))/\T (w2.putObj l (o .exhausted (some .ret))))
theorem WP.range {m:Nat} {c:Code} {g:Operand} {ps:Array Tmp} {assign body:Code} {gf:Nat} {lb:Array Value} {Q:Exit->Act->World->Prop} {E:Env} {w:World} (N:World->Prop) (X:Nat->World->Prop) (T:World->Prop)
  (hc:c=.rangeFunc g ps assign body) (hg:E.val g=some (.func (.func gf) #[] lb)) (A6:fD P gf=true)
  (hN:∀w',N w'->∀a,Ag (marked m w.heap.size) a E->Q .normal a w') (hX:∀id w',X id w'->∀a,Ag (marked m w.heap.size) a E->Q (.exit id) a w') (hT:∀w',T w'->∀a,Ag (marked m w.heap.size) a E->Q .ret a w')
  (h:∀r:Loop,KU r m ps assign body E->Calls P gf (#[.func (.yield (w.heap.size+1)) #[] #[]]++lb) ((w.alloc (.deferred (some []))).alloc (lo r .ready none)) λe w2=>(∃v,e=.returned v)/\uI w2 (w.heap.size+1) (lo r) N X T):
  WP P (cx m) c Q E w:=by
 subst hc
 intro a ha
 have VM:Ag (marked m w.heap.size) {a with defers:=[{target:=.collected w.heap.size,args:=#[]}]++a.defers} E:=⟨by show _++a.defers=_;rw [ha.defers];rfl,ha.size,ha.get⟩
 have hgv:a.eval g=.func (.func gf) #[] lb:=ha.val hg
 refine wpIn_rangeFunc (F:=FW (cx m)) (n:=0) λfn _=>?_
 obtain ⟨r,hr⟩:∃r:Loop,r={state:=.ready,pending:=none,fn,tmps:=a.tmps,params:=ps,assign,body,defers:=w.heap.size}:=⟨_,rfl⟩
 have ZI:KU r m ps assign body E:=by subst hr;exact ⟨rfl,rfl,rfl,ha.size,ha.get⟩
 have VQ:=h r ZI
 have e1:(Instr.enterLoop fn a.tmps ps assign body none).run P w=.ok (w.heap.size+1,[{target:=.collected w.heap.size,args:=#[]}]) ((w.alloc (.deferred (some []))).alloc (lo r .ready none)):=by
  rw [run_enterLoop_outer];subst hr;rfl
 generalize hW1:(w.alloc (.deferred (some []))).alloc (lo r .ready none)=W1 at *
 have e2:(resolve a.eval (rangeCall g (w.heap.size+1)) 0).run P W1=.ok {target:=.fn (.func gf) lb,args:=#[.func (.yield (w.heap.size+1)) #[] #[]]} W1:=by
  simp only [resolve,hgv]
  simp [go_sem]
 have e3:(invoke (.fn (.func gf) lb) #[.func (.yield (w.heap.size+1)) #[] #[]]).run P W1=.ok (.enter gf (#[.func (.yield (w.heap.size+1)) #[] #[]]++lb)) W1:=by
  simp [invoke,go_sem,mh A6]
 have e4:CallsIn (FW (cx m)) 0 P gf (#[.func (.yield (w.heap.size+1)) #[] #[]]++lb) W1 (rangePost (FW (cx m)) 0 P (w.heap.size+1) Q {a with defers:=[{target:=.collected w.heap.size,args:=#[]}]++a.defers}):=by
  refine yF (n:=cx m) (VQ.mono ?_)
  rintro e w2 ⟨⟨v,rfl⟩,Zj⟩
  rcases Zj with ⟨h1,h2⟩|⟨id,h1,h2⟩|⟨h1,h2⟩
  .exact ⟨_,_,run_endLoop (r:={r with state:=.ready,pending:=none}) h1 (by simp),hN _ h2 _ VM⟩
  .exact ⟨_,_,run_endLoop (r:={r with state:=.done,pending:=some (.exit id)}) h1 (by simp),wpIn_exit (hX id _ h2 _ VM)⟩
  .exact ⟨_,_,run_endLoop (r:={r with state:=.done,pending:=some .ret}) h1 (by simp),wpIn_ret (hT _ h2 _ VM)⟩
 exact ⟨_,_,_,_,_,_,_,_,e1,e2,λ_ _=>trivial,e3,λh=>(by cases h),e4⟩
def GM (P:Program) (fn:Func) (E:Env) (w:World) (D:Nat) (R:aD):Prop:=
 w.heap[D]? =some (.deferred (some []))/\rM P fn E (w.putObj D (.deferred none)) λv=>R (.returned v) (w.putObj D (.deferred none))
theorem y8 {fn:Func} {tmps:Array Value} {R:Ending->World->Prop} {w:World} {v:Value} (h:(results fn tmps).run P w=.ok v w) (hr:R (.returned v) w):LeavesInM Fence.wide 0 P fn tmps R [] .returning w:=by
 show LeavesIn _ _ _ _ _ _ _ _ _
 simp only [LeavesIn]
 exact ⟨v,h,hr⟩
theorem GL {m:Nat} {fn:Func} {a:Act} {E:Env} {w:World} {R:aD} (ha:Ag (cx m) a E) (h:rM P fn E w λv=>R (.returned v) w):LeavesInM Fence.wide 0 P fn a.tmps R a.defers .returning w:=by
 obtain ⟨v,h1,h2⟩:=wQ ha h
 rw [ha.defers]
 exact y8 h1 h2
theorem ru {m D:Nat} {fn:Func} {a:Act} {E:Env} {w:World} {R:aD} (ha:Ag (marked m D) a E) (h:GM P fn E w D R):LeavesInM Fence.wide 0 P fn a.tmps R a.defers .returning w:=by
 obtain ⟨h0,h⟩:=h
 obtain ⟨v,h1,h2⟩:=wQ (n:=marked m D) ha h
 rw [ha.defers]
 exact ⟨by simp,.inl ⟨D,_,rfl,run_takeDeferred h0,y8 h1 h2⟩⟩
theorem BV {f:FuncId} {fn:Func} {c:Code} {args:List Value} {w:World} {R:Ending->World->Prop} (hf:P.funcs[f]? =some fn) (hb:fn.body=some c) (me:Nat.ble args.length fn.ntmps=true)
  (h:WP P (cx fn.ntmps) c (bodyPostM Fence.wide 0 P fn R) (rI 0 args) w):Calls P f args.toArray w R:=by
 have hs:=Nat.le_of_ble_eq_true me
 refine callsIn_wide.1 (callsIn_of_wp_marks (n:=0) hf hb trivial (h _ ⟨rfl,by simp;omega,?_⟩))
 intro t v ht
 have:=(wo args 0 t v ht).2
 have lC:t<args.length:=(nP.1 this).1
 rw [Array.getElem?_append_left (by simpa using lC)]
 simpa using this
def BN (v:Option Value) (K:Nat->Prop):Prop:=match v with |some (.func (.yield l) fs cs)=>hO (Nat.beq fs.size 0&&Nat.beq cs.size 0) (K l)|_=>False
theorem BO {v:Option Value} {K:Nat->Prop} (h:BN v K):∃l,v=some (.func (.yield l) #[] #[])/\K l:=by
 unfold BN at h
 split at h
 .rename_i l fs cs
  obtain ⟨hb,hk⟩:=bX h
  simp only [Bool.and_eq_true,Nat.beq_eq] at hb
  have e1:fs=#[]:=Array.eq_empty_of_size_eq_zero hb.1
  have e2:cs=#[]:=Array.eq_empty_of_size_eq_zero hb.2
  subst e1 e2
  exact ⟨l,rfl,hk⟩
 .exact h.elim
end
abbrev _root_.Go.Code.sn (c:Code):Code:=Code.snd c
abbrev _root_.Go.Code.fs (c:Code):Code:=Code.fst c
abbrev _root_.Go.Value.i (x:Int):Value:=.int .i64 x
abbrev _root_.Go.Value.u (x:Int):Value:=.int .u64 x
abbrev _root_.Go.Value.s0:Value:=.string (ByteArray.mk #[])
abbrev nb (w:World):Addr:=⟨w.heap.size,0,none⟩
section
variable {P:Program} {n:Cx} {Q:Exit->Act->World->Prop} {E:Env} {w:World} {K:Env->World->Prop}
def XQ (P:Program) (c:Code) (K:Env->World->Prop) (E:Env) (w:World):Prop:=mr P (Code.ops c) false K (List.range (Code.ops c).size) E w []
def tgK (P:Program) (c:Code) (t:Tr) (K:Env->World->Prop) (E:Env) (w:World):Prop:=rA P (Code.ops c) K t E w.drew []
abbrev xT (P:Program) (c:Code) (K:Env->World->Prop) (E:Env) (w:World):Prop:=XQ P (Code.fst c) K E w
abbrev stK (P:Program) (c:Code) (t:Tr) (K:Env->World->Prop) (E:Env) (w:World):Prop:=tgK P (Code.fst c) t K E w
def D7:Code->Bool
 |.seq _ _=>true
 |_=>false
theorem Cz {c:Code} (h:D7 c=true):c=.seq (Code.fst c) (Code.snd c):=by cases c<;>first |rfl|cases h
theorem wa {a b:Bool} (h:(a&&b)=true):a=true/\b=true:=by simpa using h
theorem rg (c:Code) (hc:GK n c=true) (h:XQ P c K E w) (hk:∀E' w' a',Ag n a' E'->K E' w'->Q .normal a' w'):WP P n c Q E w:=WP.RC K hc h hk
theorem sr (c:Code) (h:xT P c K E w) (hk:∀E' w',K E' w'->WP P n (Code.snd c) Q E' w') (hc:(D7 c&&GK n (Code.fst c))=true:=by kernel_rfl):WP P n c Q E w:=
 WP.seq (Cz (wa hc).1) (WP.RC K (wa hc).2 h λE' w' a' hA hK=>hk E' w' hK a' hA)
theorem st (c:Code) {t:Tr} (hc:(D7 c&&Bq P n (Code.fst c) t)=true) (h:stK P c t K E w) (hk:∀E' w',K E' w'->WP P n (Code.snd c) Q E' w'):WP P n c Q E w:=
 WP.seq (Cz (wa hc).1) (WP.tree t K (wa hc).2 h λE' w' a' hA hK=>hk E' w' hK a' hA)
theorem sq (c:Code) (h:WP P n (Code.fst c) (Exit.then (Ad P n (Code.snd c) Q) Q) E w) (hc:D7 c=true:=by kernel_rfl):WP P n c Q E w:=WP.seq (Cz hc) h
theorem bk (c:Code) (id:Nat) (hc:c=.block id (Code.fst c)) (h:WP P n (Code.fst c) (Exit.inBlock id Q) E w):WP P n c Q E w:=WP.block hc h
theorem cn (c:Code) {o:Operand} {A B:Prop} (h:pG (E.val o) A B) (h1:A->WP P n (Code.fst c) Q E w) (h2:B->WP P n (Code.snd c) Q E w) (hc:c=.cond o (Code.fst c) (Code.snd c):=by kernel_rfl):WP P n c Q E w:=WP.pG hc h1 h2 h
theorem sk (c:Code) (h:∀a,Ag n a E->Q .normal a w) (hc:c=.skip:=by kernel_rfl):WP P n c Q E w:=WP.skip hc h
theorem xt (c:Code) (id:Nat) (hc:c=.exit id) (h:∀a,Ag n a E->Q (.exit id) a w):WP P n c Q E w:=WP.exit hc h
theorem rt (c:Code) (h:∀a,Ag n a E->Q .ret a w) (hc:c=.ret:=by kernel_rfl):WP P n c Q E w:=WP.ret hc h
theorem lp (c:Code) (hc:c=.loop (Code.fst c)) (h:LP P n (Code.fst c) Q E w):WP P n c Q E w:=WP.loop hc h
theorem nx {c:Code} {a:Act} (ha:Ag n a E) (h:WP P n c Q E w):Exit.then (Ad P n c Q) Q .normal a w:=h a ha
end
open Go.RowKit
structure Fr (M:Nat->Prop) (w w':World):Prop where
 os:w'.os=w.os
 tape:w'.tape=w.tape
 output:w'.output=w.output
 size:w.heap.size<=w'.heap.size
 gV:∀b,b<w.heap.size->¬M b->w'.heap[b]? =w.heap[b]?
theorem Fr.refl (M:Nat->Prop) (w:World):Fr M w w:=⟨rfl,rfl,rfl,Nat.le_refl _,λ_ _ _=>rfl⟩
theorem Fr.trans {M M':Nat->Prop} {a b c:World} (h:Fr M a b) (k:Fr M' b c) (hm:∀x,x<a.heap.size->M' x->M x):Fr M a c:=
 ⟨k.os.trans h.os,k.tape.trans h.tape,k.output.trans h.output,Nat.le_trans h.size k.size,
  λx hx hn=>(k.gV x (Nat.lt_of_lt_of_le hx h.size) (λe=>hn (hm x hx e))).trans (h.gV x hx hn)⟩
theorem Fr.mono {M M':Nat->Prop} {a b:World} (h:Fr M a b) (hm:∀x,x<a.heap.size->M x->M' x):Fr M' a b:=
 ⟨h.os,h.tape,h.output,h.size,λx hx hn=>h.gV x hx (λe=>hn (hm x hx e))⟩
theorem Fr.drew (M:Nat->Prop) (w:World):Fr M w w.drew:=⟨rfl,rfl,rfl,Nat.le_refl _,λ_ _ _=>rfl⟩
theorem Fr.alloc (M:Nat->Prop) (w:World) (o:Obj):Fr M w (w.alloc o):=⟨rfl,rfl,rfl,by simp,λk hk _=>_root_.Go.heap_alloc_old w o k hk⟩
theorem Fr.set {M:Nat->Prop} (w:World) (p:Addr) (v:Value) (h:M p.block):Fr M w (w.setCell p v):=
 ⟨rfl,rfl,rfl,by simp [World.setCell],λk _ hn=>Below.heap_setCell w p v k (λe=>hn (e▸h))⟩
theorem Fr.grown {M:Nat->Prop} {w w':World} {r:Option Nat} (h:w.grownBy w' r) (hm:∀b,r=some b->M b):Fr M w w':=
 ⟨h.os,h.tape,h.output,h.size,λb hb hn=>h.block b hb (λe=>hn (hm b e.symm))⟩
theorem Fr.setObj {M:Nat->Prop} (w:World) (r:Nat) (o:Obj) (h:M r):Fr M w {w with heap:=w.heap.setIfInBounds r o}:=
 ⟨rfl,rfl,rfl,by simp,λk _ hn=>by
  have:r≠k:=λe=>hn (e▸h)
  simp [Array.getElem?_setIfInBounds_ne this]⟩
theorem Fr.below {w w':World} (h:Fr (λ_=>False) w w'):Below w.heap.size w w':=⟨h.os,h.tape,h.output,h.size,λk hk=>h.gV k hk (λe=>e)⟩
theorem Fr.at {M:Nat->Prop} {w w':World} (h:Fr M w w') {b:Nat} {o:Obj} (hb:w.heap[b]? =some o) (hn:¬M b):w'.heap[b]? =some o:=
 (h.gV b (Array.getElem?_eq_some_iff.1 hb).1 hn).trans hb
theorem gg {w:World} {b:Nat} {o:Obj} (hb:w.heap[b]? =some o):b<w.heap.size:=(Array.getElem?_eq_some_iff.1 hb).1
theorem nj (w:World) (o:Obj):(w.alloc o).heap[w.heap.size]? =some o:=_root_.Go.heap_alloc_new w o
theorem size_alloc (w:World) (o:Obj):(w.alloc o).heap.size=w.heap.size+1:=by simp
theorem cellAt {w:World} {p:Addr} {cs:Array Value} {T:TypeId} {f:Nat×Nat} {i:Nat} {v:Value} (h:w.heap[p.block]? =some (.cells cs T f)) (hs:p.spot=none) (hi:cs[p.off+i]? =some v):
  w.cell? (p.add i)=some v:=by
 unfold Addr.add
 split
 .rename_i h0
  subst h0
  simp [World.cell?,h,hs]
  simpa using hi
 .simp [World.cell?,h,hi]
theorem frozenAt {w:World} {p:Addr} {cs:Array Value} {T:TypeId} {i:Nat} (h:w.heap[p.block]? =some (.cells cs T (0,0))):w.frozen? (p.add i)=false:=by
 unfold Addr.add
 split<;>simp [World.frozen?,h]
theorem setAt {w:World} {p:Addr} {cs:Array Value} {T:TypeId} {f:Nat×Nat} {i:Nat} {v:Value} (h:w.heap[p.block]? =some (.cells cs T f)) (hs:p.spot=none):
  (w.setCell (p.add i) v).heap[p.block]? =some (.cells (cs.setIfInBounds (p.off+i) v) T f):=by
 have hb:(p.add i).block=p.block:=by unfold Addr.add;split<;>rfl
 have hsp:(p.add i).spot=none:=by unfold Addr.add;split<;>simp [hs]
 have ho:(p.add i).off=p.off+i:=by unfold Addr.add;split<;>simp_all
 simp [World.setCell,hb,h,hsp,ho,Array.getElem?_modify]
theorem gp (p:Addr) (i:Nat):(p.add i).block=p.block:=by unfold Addr.add;split<;>rfl
def bA (s:Sl):List Nat:=match s.a with |some p=>[p.block]|none=>[]
def Row (w:World) (T:TypeId) (s:Sl) (vs:List Value):Prop:=
 (s.a=none/\s.n=0/\s.c=0/\vs=[])\/∃b o cs f,s.a=some ⟨b,o,none⟩/\w.heap[b]? =some (.cells cs T f)/\∀i v,vs[i]? =some v->cs[o+i]? =some v
theorem Row.nil (w:World) (T:TypeId):Row w T ⟨none,0,0⟩ []:=.inl ⟨rfl,rfl,rfl,rfl⟩
theorem Row.gV {w w':World} {T:TypeId} {s:Sl} {vs:List Value} (h:Row w T s vs) (hk:∀b∈bA s,b<w.heap.size->w'.heap[b]? =w.heap[b]?):Row w' T s vs:=by
 rcases h with h|⟨b,o,cs,f,ha,hb,hc⟩
 .exact .inl h
 .exact .inr ⟨b,o,cs,f,ha,(hk b (by simp [bA,ha]) (gg hb)).trans hb,hc⟩
theorem Row.fr {M:Nat->Prop} {w w':World} {T:TypeId} {s:Sl} {vs:List Value} (h:Row w T s vs) (hf:Fr M w w') (hn:∀b∈bA s,¬M b):Row w' T s vs:=
 h.gV λb hb hl=>hf.gV b hl (hn b hb)
theorem Row.lt {w:World} {T:TypeId} {s:Sl} {vs:List Value} (h:Row w T s vs):∀b∈bA s,b<w.heap.size:=by
 rcases h with ⟨ha,_⟩|⟨b,o,cs,f,ha,hb,hc⟩
 .simp [bA,ha]
 .simp [bA,ha];exact gg hb
theorem Row.cell {w:World} {T:TypeId} {s:Sl} {vs:List Value} {i:Nat} {v:Value} (h:Row w T s vs) (hi:vs[i]? =some v):∃p,s.a=some p/\w.cell? (p.add i)=some v:=by
 rcases h with ⟨_,_,_,rfl⟩|⟨b,o,cs,f,ha,hb,hc⟩
 .cases hi
 .exact ⟨_,ha,cellAt (p:=⟨b,o,none⟩) hb rfl (hc i v hi)⟩
theorem Row.aX {w:World} {T:TypeId} {s:Sl} {vs:List Value} {i:Nat} {v:Value} {K:Addr->Prop} (h:Row w T s vs) (hi:vs[i]? =some v) (hk:∀p,s.a=some p->(∀(j:Nat) (u:Value),vs[j]? =some u->w.cell? (p.add j)=some u)->K p):W.aX s.a K:=by
 rcases h with ⟨_,_,_,rfl⟩|⟨b,o,cs,f,ha,hb,hc⟩
 .cases hi
 .rw [ha]
  exact hk _ ha λj u hj=>cellAt (p:=⟨b,o,none⟩) hb rfl (hc j u hj)
def aO (w:World) (e:TypeId) (sz:Nat) (s:Sl) (xs:List Value):Prop:=w.ownsRow 0 e sz s.v s.n xs
theorem aO.nil (w:World) (e:TypeId) (sz:Nat):aO w e sz ⟨none,0,0⟩ []:=World.ownsRow_nil w 0 e sz
theorem aO.len {w:World} {e:TypeId} {sz:Nat} {s:Sl} {xs:List Value} (h:aO w e sz s xs):xs.length=s.n *sz:=h.1
theorem aO.cases {w:World} {e:TypeId} {sz:Nat} {s:Sl} {xs:List Value} (h:aO w e sz s xs):
  (s=⟨none,0,0⟩/\xs=[])\/∃g cur,s.a=some ⟨g,0,none⟩/\w.heap[g]? =some (.cells cur e (0,0))/\s.n<=s.c/\s.c<=maxLen/\cur.size=s.c *sz/\cur.toList.take (s.n *sz)=xs:=by
 obtain ⟨a,n,c⟩:=s
 obtain ⟨hl,h⟩:=h
 rcases h with ⟨h1,h2⟩|⟨g,cap,cur,h1,_,h2,h3,h4,h5,h6⟩
 .cases h1
  exact .inl ⟨rfl,UX (by simpa using hl)⟩
 .cases h1
  exact .inr ⟨g,cur,rfl,h2,h3,h4,h5,h6⟩
theorem aO.row {w:World} {e:TypeId} {sz:Nat} {s:Sl} {xs:List Value} (h:aO w e sz s xs):Row w e s xs:=by
 rcases h.cases with ⟨rfl,rfl⟩|⟨g,cur,ha,hg,_,_,_,ht⟩
 .exact .inl ⟨rfl,rfl,rfl,rfl⟩
 .refine .inr ⟨g,0,cur,(0,0),ha,hg,λi v hi=>?_⟩
  rw [<-ht,qgTk] at hi
  split at hi
  .simpa using hi
  .cases hi
theorem aO.gV {w w':World} {e:TypeId} {sz:Nat} {s:Sl} {xs:List Value} (h:aO w e sz s xs) (hk:∀b∈bA s,b<w.heap.size->w'.heap[b]? =w.heap[b]?):aO w' e sz s xs:=by
 obtain ⟨hl,h⟩:=h
 refine ⟨hl,?_⟩
 rcases h with h|⟨g,cap,cur,h1,h2,h3,r⟩
 .exact .inl h
 .have ha:s.a=some ⟨g,0,none⟩:=(Value.slice.inj h1).1
  exact .inr ⟨g,cap,cur,h1,h2,(hk g (by simp [bA,ha]) (gg h3)).trans h3,r⟩
theorem aO.fr {M:Nat->Prop} {w w':World} {e:TypeId} {sz:Nat} {s:Sl} {xs:List Value} (h:aO w e sz s xs) (hf:Fr M w w') (hn:∀b∈bA s,¬M b):aO w' e sz s xs:=
 h.gV λb hb hl=>hf.gV b hl (hn b hb)
theorem aO.lt {w:World} {e:TypeId} {sz:Nat} {s:Sl} {xs:List Value} (h:aO w e sz s xs):∀b∈bA s,b<w.heap.size:=h.row.lt
theorem aO.made (w:World) (e:TypeId) (sz n:Nat) (cs:List Value) (hc:cs.length=n *sz) (hn:n<=maxLen):aO (w.alloc (.cells cs.toArray e)) e sz ⟨some ⟨w.heap.size,0,none⟩,n,n⟩ cs:=
 ⟨hc,.inr ⟨w.heap.size,n,cs.toArray,rfl,Nat.zero_le _,nj w _,Nat.le_refl _,hn,by simpa using hc,by rw [<-hc];simp⟩⟩
theorem Row.made (w:World) (e:TypeId) (n c:Nat) (cs:List Value):Row (w.alloc (.cells cs.toArray e)) e ⟨some ⟨w.heap.size,0,none⟩,n,c⟩ cs:=
 .inr ⟨w.heap.size,0,cs.toArray,(0,0),rfl,nj w _,λi v hi=>by simpa using hi⟩
theorem uj (s:Sl):s.v.ownBlock=s.a.map (·.block):=by
 obtain ⟨a,n,c⟩:=s
 cases a<;>rfl
structure iK (P:Program) (t e:TypeId) (z:Value) (sz bytes:Nat):Prop where
 ht:P.underlying t=some (.slice e)
 hi:(P.info? e).map (λi=>(i.zero,i.size,i.bytes))=some (some z,sz,bytes)
 hz:z.cells.size=sz
 hs:0<sz
 hb:0<bytes
theorem SD {P:Program} {t ty e:TypeId} {z:Value} {sz bytes:Nat} (el:iK P t e z sz bytes) {w:World} {s src:Sl} {xs news:List Value}
  {T:TypeId} (ho:aO w e sz s xs) (hr:Row w T src news) (hl:news.length=src.n *sz) (h1:∀u∈news,u.oneCell'=true) (hb:(s.n+src.n) *bytes<=140737488355328):
  ∃s' w',(Builtin.append_ #[t,t] ty #[s.v,src.v]).run P w=.ok s'.v w'/\aO w' e sz s' (xs++news)/\s'.n=s.n+src.n/\Fr (λb=>b∈bA s) w w'/\
   (∀b∈bA s',b∈bA s\/w.heap.size<=b)/\(s'.a=none->s.a=none/\src.n=0):=by
 obtain ⟨i,hi,hz,me,HR⟩:=info_parts el.hi
 have A5:s.n+src.n<=140737488355328:=by
  have:=Nat.le_mul_of_pos_right (s.n+src.n) el.hb
  omega
 rcases hr with ⟨ha,hn,hc,rfl⟩|⟨b,o,cs,f,ha,VO,hcs⟩
 .
  obtain ⟨sa,sn,sc⟩:=src
  simp only at ha hn hc
  subst ha hn hc
  have:=run_append_owned_none (P:=P) (w:=w) 0 t ty e i sz el.ht hi s.v s.n xs ho
  refine ⟨s,w,this,by simpa using ho,by simp,Fr.refl _ _,λb hb=>.inl hb,λh=>⟨h,rfl⟩⟩
 .obtain ⟨sa,sn,sc⟩:=src
  simp only at ha hl hb A5
  subst ha
  have vk:∀j u,news[j]? =some u->w.cell? ((⟨b,o,none⟩:Addr).add j)=some u:=λj u hj=>cellAt (p:=⟨b,o,none⟩) VO rfl (hcs j u hj)
  obtain ⟨v',w',lH,Ap,VU,JE⟩:=run_append_own (P:=P) w 0 t ty e i z sz bytes el.ht hi hz me HR el.hz el.hs s.v s.n xs ho ⟨b,o,none⟩ sn sc news hl vk h1 (by unfold maxLen;omega) hb (Nat.zero_le _)
  have hv:∃s':Sl,v'=s'.v/\s'.n=s.n+sn/\(s'.a=none->v'=.slice none 0 0):=by
   rcases Ap.2 with ⟨h1,h2⟩|⟨g,cap,cur,h1,_⟩
   .exact ⟨⟨none,0,0⟩,h1,by show 0=_;omega,λ_=>h1⟩
   .exact ⟨⟨_,_,_⟩,h1,rfl,λh=>by cases h⟩
  obtain ⟨s',rfl,wC,TG⟩:=hv
  refine ⟨s',w',lH,?_,wC,?_,?_,?_⟩
  .unfold aO;rw [wC];exact Ap
  .refine Fr.grown VU λg hg=>?_
   rw [uj] at hg
   cases Aq:s.a with
   |none=>simp [Aq] at hg
   |some p=>simp [Aq] at hg;simp [bA,Aq,hg]
  .
   intro g hg
   rcases ho.cases with ⟨rfl,rfl⟩|⟨g0,cur,QY,VT,V7,Xy,Gf,NT⟩
   .
    obtain ⟨v2,w2,DZ,DW,_,_⟩:=run_append_own (P:=P) w w.heap.size t ty e i z sz bytes el.ht hi hz me HR el.hz el.hs (.slice none 0 0) 0 [] (World.ownsRow_nil w _ e sz) ⟨b,o,none⟩ sn sc news hl vk h1 (by unfold maxLen;omega) (by simpa using hb) (Nat.le_refl _)
    have e1:(Result.ok s'.v w':Result Value)=.ok v2 w2:=lH.symm.trans DZ
    have e2:=(Result.ok.inj e1).1
    subst e2
    rcases DW.2 with ⟨h1,_⟩|⟨g2,Vr,Vv,h1,h2,_⟩
    .have:s'.a=none:=(Value.slice.inj h1).1
     simp [bA,this] at hg
    .have:s'.a=some ⟨g2,0,none⟩:=(Value.slice.inj h1).1
     simp [bA,this] at hg
     exact .inr (hg▸h2)
   .obtain ⟨sa0,J7,M7⟩:=s
    simp only at QY V7 Gf NT hb A5
    subst QY
    by_cases yX:J7+sn<=M7
    .subst me
     have ri:J7 *i.size+news.length<=cur.size:=by rw [hl,Gf,<-Nat.add_mul];exact Nat.mul_le_mul_right _ yX
     have DY:=run_append_room (P:=P) w t ty e i el.ht hi g0 J7 M7 cur VT ⟨b,o,none⟩ sn sc news hl vk h1 yX ri
     have e1:=lH.symm.trans DY
     have:s'.a=some ⟨g0,0,none⟩:=(Value.slice.inj (Result.ok.inj e1).1).1
     simp [bA,this] at hg ⊢
     exact .inl hg
    .subst me
     have holds:∀j u,xs[j]? =some u->w.cell? ((⟨g0,0,none⟩:Addr).add j)=some u:=World.ownsRow.cells (g:=g0) ho rfl
     have DY:=run_append_grow (P:=P) w t ty e i z el.ht hi hz ⟨g0,0,none⟩ J7 M7 xs ho.len holds ⟨b,o,none⟩ sn sc news hl vk (by omega) (by omega) (growslice_fits (by omega) (by rw [HR];exact hb))
     have e1:=lH.symm.trans DY
     have:s'.a=some ⟨w.heap.size,0,none⟩:=(Value.slice.inj (Result.ok.inj e1).1).1
     simp [bA,this] at hg
     exact .inr (by omega)
  .intro h
   have:=JE.1 (TG h)
   refine ⟨?_,this.2⟩
   exact (Value.slice.inj this.1).1
theorem Row.Uu {w:World} {T:TypeId} {s:Sl} {vs:List Value} (h:Row w T s vs):∀b∈bA s,∃cs f,w.heap[b]? =some (.cells cs T f):=by
 rcases h with ⟨ha,_⟩|⟨b,o,cs,f,ha,hb,hc⟩
 .simp [bA,ha]
 .intro b' eC
  have hbb:b'=b:=by simpa [bA,ha] using eC
  subst hbb
  exact ⟨cs,f,hb⟩
theorem Row.one (w:World) (e:TypeId) (cs:List Value):Row (w.alloc (.cells cs.toArray e)) e ⟨some ⟨w.heap.size,0,none⟩,1,1⟩ cs:=Row.made w e 1 1 cs
def qC {α β:Type} (R:α->β->Prop):List α->List β->Prop
 |[],[]=>True
 |a::l,b::m=>R a b/\qC R l m
 |_,_=>False
theorem qC.length {α β:Type} {R:α->β->Prop}:∀{l:List α} {m:List β},qC R l m->l.length=m.length
 |[],[],_=>rfl
 |_::_,_::_,h=>by simp [qC.length h.2]
 |[],_::_,h=>h.elim
 |_::_,[],h=>h.elim
theorem qC.mono {α β:Type} {R R':α->β->Prop}:∀{l:List α} {m:List β},qC R l m->(∀a∈l,∀b∈m,R a b->R' a b)->qC R' l m
 |[],[],_,_=>trivial
 |_::_,_::_,h,k=>⟨k _ qmCS _ qmCS h.1,qC.mono h.2 λa ha b hb=>k a (qmCM _ ha) b (qmCM _ hb)⟩
 |[],_::_,h,_=>h.elim
 |_::_,[],h,_=>h.elim
theorem qC.append {α β:Type} {R:α->β->Prop}:∀{l:List α} {m:List β} {l':List α} {m':List β},qC R l m->qC R l' m'->qC R (l++l') (m++m')
 |[],[],_,_,_,h'=>h'
 |_::_,_::_,_,_,h,h'=>⟨h.1,qC.append h.2 h'⟩
 |[],_::_,_,_,h,_=>h.elim
 |_::_,[],_,_,h,_=>h.elim
theorem qC.drop {α β:Type} {R:α->β->Prop}:∀(k:Nat) {l:List α} {m:List β},qC R l m->qC R (l.drop k) (m.drop k)
 |0,_,_,h=>h
 |_+1,[],[],_=>trivial
 |k+1,_::_,_::_,h=>qC.drop k h.2
 |_+1,[],_::_,h=>h.elim
 |_+1,_::_,[],h=>h.elim
theorem qC.get {α β:Type} {R:α->β->Prop}:∀{l:List α} {m:List β} {i:Nat} {a:α},qC R l m->l[i]? =some a->∃b,m[i]? =some b/\R a b
 |_::_,b::_,0,_,h,e=>by simp at e;subst e;exact ⟨b,by simp,h.1⟩
 |_::_,_::_,i+1,a,h,e=>by simpa using qC.get h.2 (i:=i) (a:=a) (by simpa using e)
 |[],_,_,_,_,e=>by simp at e
 |_::_,[],_,_,h,_=>h.elim
def AE (kd:IntKind) (es:Array MapEntry) (ms:List (Int×Value)):Prop:=es.toList.map (λe=>(e.key,e.val))=ms.map λp=>(Value.int kd p.1,p.2)
def wH (ms:List (Int×Value)) (k:Int):Option Value:=(ms.find? λp=>p.1==k).map (·.2)
theorem sB {kd:IntKind} {k:Int}:∀{es:List MapEntry} {ms:List (Int×Value)} {i:Nat},es.map (λe=>(e.key,e.val))=ms.map (λp=>(Value.int kd p.1,p.2))->
  Instr.findNow (.int kd) (.int kd k) es i=some ((ms.findIdx? λp=>p.1==k).bind λj=>(ms[j]?).map λp=>(i+j,p.2))
 |[],[],i,_=>rfl
 |[],_::_,_,h=>by simp at h
 |_::_,[],_,h=>by simp at h
 |e::es,p::ms,i,h=>by
  simp only [List.map_cons,List.cons.injEq,Prod.mk.injEq] at h
  obtain ⟨⟨h1,h2⟩,h3⟩:=h
  have ih:=sB (kd:=kd) (k:=k) (i:=i+1) h3
  unfold Instr.findNow
  simp only [h1,Instr.sameNow,if_true]
  by_cases hk:p.1=k
  .have e1:(k==p.1)=true:=by simp [hk]
   have e2:(p.1==k)=true:=by simp [hk]
   simp [e1,List.findIdx?_cons,e2,h2]
  .have e1:(k==p.1)=false:=by simp;exact λh=>hk h.symm
   have e2:(p.1==k)=false:=by simpa using hk
   simp only [e1,ih,List.findIdx?_cons,e2,Bool.false_eq_true,if_false]
   congr 1
   cases hf:ms.findIdx? (λp=>p.1==k) with
   |none=>simp
   |some j=>simp [Nat.add_assoc,Nat.add_comm 1 j]
theorem Ef {ms:List (Int×Value)} {k:Int} {i:Nat}:(((ms.findIdx? λp=>p.1==k).bind λj=>(ms[j]?).map λp=>(i+j,p.2)).map (·.2))=wH ms k:=by
 unfold wH
 induction ms generalizing i with
 |nil=>rfl
 |cons p ms ih=>
  by_cases hk:p.1=k
  .have e2:(p.1==k)=true:=by simp [hk]
   simp [List.findIdx?_cons,e2]
  .have e2:(p.1==k)=false:=by simpa using hk
   simp only [List.findIdx?_cons,e2,Bool.false_eq_true,if_false,List.find?_cons]
   rw [<-ih (i:=i+1)]
   cases hf:ms.findIdx? (λp=>p.1==k) with
   |none=>simp
   |some j=>simp [Function.comp_def]
structure KP (P:Program) (T kt et:TypeId) (kd:IntKind) (z:Value):Prop where
 hT:P.underlying T=some (.map kt et)
 hk:P.underlying kt=some (.int kd)
 hz:(P.info? et).map (·.zero)=some (some z)
theorem uS {P:Program} {kt:TypeId} {kd:IntKind} (hk:P.underlying kt=some (.int kd)) (b:Bool) (k:Int) (w:World):(Instr.checkKey b 10000 kt (.int kd k)).run P w=.ok () w:=by
 unfold Instr.checkKey
 simp [run_underlying hk]
theorem tO {P:Program} {et:TypeId} {z:Value} (hz:(P.info? et).map (·.zero)=some (some z)) (w:World):(zeroValue et).run P w=.ok z w:=by
 obtain ⟨i,hi,hzz⟩:=Option.map_eq_some_iff.1 hz
 simp [zeroValue,typeInfo,hi,hzz]
theorem Au {P:Program} {T kt et:TypeId} {kd:IntKind} {z:Value} (mo:KP P T kt et kd z) {w:World} {mb:Nat} {es:Array MapEntry} {clock:Nat} {ms:List (Int×Value)}
  (hm:w.heap[mb]? =some (.map es clock)) (vY:AE kd es ms) (k:Int) (v:Value) (wD:wH ms k=none):
  ∃w' HF,(Instr.mapUpdate T (.map (some mb)) (.int kd k) v).run P w=.ok () w'/\w'.heap[mb]? =some (.map HF (clock+1))/\AE kd HF (ms++[(k,v)])/\Fr (λb=>b=mb) w w'/\w'.heap.size=w.heap.size:=by
 have hf:=sB (k:=k) (i:=0) vY
 have hg:(getObj mb).run P w=.ok (.map es clock) w:=by simp [getObj,Sem.run,hm]
 have An:=Ef (ms:=ms) (k:=k) (i:=0)
 have lC:=gg hm
 have hr:((ms.findIdx? λp=>p.1==k).bind λj=>(ms[j]?).map λp=>(0+j,p.2))=none:=by
  rw [wD] at An;simpa using An
 refine ⟨{w with heap:=w.heap.setIfInBounds mb (.map (es.push {key:=.int kd k,val:=v,born:=clock}) (clock+1))},es.push {key:=.int kd k,val:=v,born:=clock},?_,by simp [lC],?_,Fr.setObj w mb _ rfl,by simp⟩
 .unfold Instr.mapUpdate Instr.findKey
  simp only [Sem.run_bind,run_underlying mo.hT,Result.andThen_ok,hg,uS mo.hk,run_underlying mo.hk,hf,hr]
  simp [setObj,Sem.run,hm]
 .unfold AE at vY ⊢
  simp [vY]
theorem Bj {P:Program} {t e:TypeId} {z:Value} {sz bytes:Nat} (el:iK P t e z sz bytes) (w:World) (n:Nat) (hb:n *bytes<=140737488355328):
  ∃w',(Instr.makeSlice t (.int .i64 (n:Int)) (.int .i64 (n:Int))).run P w=.ok (.slice (some ⟨w.heap.size,0,none⟩) n n) w'/\aO w' e sz ⟨some ⟨w.heap.size,0,none⟩,n,n⟩ (madeCells z.cells (n *sz)).toList/\Fr (λ_=>False) w w':=by
 obtain ⟨i,hi,hz,me,HR⟩:=info_parts el.hi
 have HU:n<=140737488355328:=by
  have:=Nat.le_mul_of_pos_right n el.hb
  omega
 obtain ⟨w',h1,h2,h3⟩:=run_make_full (P:=P) w 0 t e i z sz el.ht hi hz me .i64 .i64 n (by rw [HR,Nat.mul_comm];omega) (by unfold maxLen;omega) (Nat.zero_le _)
 exact ⟨w',h1,h2,Fr.grown h3 λ_ h=>by cases h⟩
abbrev bF (w w':World):Prop:=Fr (λ_=>False) w w'
abbrev bD (b:Nat):Addr:=⟨b,0,none⟩
def oo (b:UInt8):Value:=.int .u8 (b.toNat:Int)
def ia (n:Int):Value:=.int .i64 n
theorem Jb (bs:List UInt8):∀u∈bs.map oo,u.oneCell'=true:=by
 intro u hu;obtain ⟨b,_,rfl⟩:=o8.1 hu;rfl
theorem D6 (l:List Int):∀u∈l.map ia,u.oneCell'=true:=by
 intro u hu;obtain ⟨b,_,rfl⟩:=o8.1 hu;rfl
theorem Fr.zM {M:Nat->Prop} {a b c:World} (h:Fr M a b) (k:bF b c):Fr M a c:=h.trans k λ_ _ h=>h.elim
theorem Fr.Z6 {M:Nat->Prop} {a b:World} (h:bF a b):Fr M a b:=h.mono λ_ _ h=>h.elim
theorem Fr.new {M:Nat->Prop} {a b:World} (h:Fr M a b) (hn:∀x,x<a.heap.size->¬M x):bF a b:=h.mono λx hx hm=>hn x hx hm
theorem oW {w:World} {p:Addr} {v:Value} (hc:w.cell? p=some v):p.block<w.heap.size:=by
 unfold World.cell? at hc
 cases e:w.heap[p.block]? with
 |none=>rw [e] at hc;simp at hc
 |some o=>exact (Array.getElem?_eq_some_iff.1 e).1
theorem Ot {M:Nat->Prop} {w w':World} (h:Fr M w w') {p:Addr} {v:Value} (hc:w.cell? p=some v) (hn:¬M p.block):w'.cell? p=some v:=by
 have:=h.gV p.block (oW hc) hn
 unfold World.cell? at hc ⊢
 rw [this];exact hc
theorem add_add (p:Addr) (i j:Nat):(p.add i).add j=p.add (i+j):=by
 unfold Addr.add
 by_cases h1:i=0<;>by_cases h2:j=0<;>simp [h1,h2,Nat.add_assoc]
theorem tR (p:Addr):p.add 0=p:=by simp [Addr.add]
def oB (w:World) (s:Sl) (vs:List Value):Prop:=(s.a=none->s.n=0/\s.c=0)/\∀i v,vs[i]? =some v->∃p,s.a=some p/\w.cell? (p.add i)=some v
theorem oB.nil (w:World):oB w ⟨none,0,0⟩ []:=⟨λ_=>⟨rfl,rfl⟩,λi v h=>by simp at h⟩
theorem Row.LD {w:World} {T:TypeId} {s:Sl} {vs:List Value} (h:Row w T s vs):oB w s vs:=by
 refine ⟨λha=>?_,λi v hi=>h.cell hi⟩
 rcases h with ⟨_,h1,h2,_⟩|⟨b,o,cs,f,hb,_⟩
 .exact ⟨h1,h2⟩
 .rw [ha] at hb;cases hb
theorem oB.fr {M:Nat->Prop} {w w':World} {s:Sl} {vs:List Value} (h:oB w s vs) (hf:Fr M w w') (hn:∀b∈bA s,¬M b):oB w' s vs:=
 ⟨h.1,λi v hi=>by
  obtain ⟨p,hp,hc⟩:=h.2 i v hi
  exact ⟨p,hp,Ot hf hc (by rw [gp];exact hn _ (by simp [bA,hp]))⟩⟩
theorem oB.get {w:World} {s:Sl} {vs:List Value} (h:oB w s vs) {i j:Nat} {v:Value} (hi:vs[i]? =some v) (hj:j=i *1) {K:Addr->Prop} (hk:∀p,s.a=some p->w.cell? (p.add j)=some v->K p):W.aX s.a K:=by
 obtain ⟨p,hp,hc⟩:=h.2 i v hi
 rw [hp]
 rw [Nat.mul_one] at hj;subst hj
 exact hk p hp hc
def sub (s:Sl) (l h:Nat):Sl:=⟨if s.c=l then s.a else s.a.map (·.add (l *1)),h - l,s.c - l⟩
theorem oB.sub {w:World} {s:Sl} {vs:List Value} (h:oB w s vs) (l hi:Nat) (h1:vs.length<=s.n) (h2:s.n<=s.c) (hl:l<=hi) (hh:hi<=s.c):oB w (sub s l hi) ((vs.take hi).drop l):=by
 refine ⟨λha=>?_,λi v hv=>?_⟩
 .have:s.a=none:=by
   unfold W.sub at ha
   simp only at ha
   split at ha
   .exact ha
   .simpa using ha
  obtain ⟨e1,e2⟩:=h.1 this
  unfold W.sub
  simp only
  omega
 .rw [List.getElem?_drop,qgTk] at hv
  split at hv
  .rename_i lC
   obtain ⟨p,hp,hc⟩:=h.2 _ _ hv
   have hlen:=(nP.1 hv).1
   unfold W.sub
   simp only [hp]
   rw [if_neg (by omega)]
   exact ⟨_,rfl,by rw [add_add,Nat.mul_one];exact hc⟩
  .cases hv
theorem qa {P:Program} {t ty e:TypeId} {z:Value} {sz bytes:Nat} (el:iK P t e z sz bytes) {w:World} {s src:Sl} {xs news:List Value}
  (ho:aO w e sz s xs) (hr:oB w src news) (hl:news.length=src.n *sz) (h1:∀u∈news,u.oneCell'=true) (hb:(s.n+src.n) *bytes<=140737488355328):
  ∃s' w',(Builtin.append_ #[t,t] ty #[s.v,src.v]).run P w=.ok s'.v w'/\aO w' e sz s' (xs++news)/\s'.n=s.n+src.n/\Fr (λb=>b∈bA s) w w'/\
   (∀b∈bA s',b∈bA s\/w.heap.size<=b)/\(s'.a=none->s.a=none/\src.n=0):=by
 obtain ⟨i,hi,hz,me,HR⟩:=info_parts el.hi
 have A5:s.n+src.n<=140737488355328:=by
  have:=Nat.le_mul_of_pos_right (s.n+src.n) el.hb
  omega
 obtain ⟨sa,sn,sc⟩:=src
 cases sa with
 |none=>
  obtain ⟨e1,e2⟩:=hr.1 rfl
  simp only at e1 e2
  subst e1 e2
  have JE:news=[]:=UX (by simpa using hl)
  subst JE
  have:=run_append_owned_none (P:=P) (w:=w) 0 t ty e i sz el.ht hi s.v s.n xs ho
  exact ⟨s,w,this,by simpa using ho,by simp,Fr.refl _ _,λb hb=>.inl hb,λh=>⟨h,rfl⟩⟩
 |some q=>
  simp only at hl hb A5
  have vk:∀j u,news[j]? =some u->w.cell? (q.add j)=some u:=λj u hj=>by
   obtain ⟨p,hp,hc⟩:=hr.2 j u hj
   cases hp;exact hc
  obtain ⟨v',w',lH,Ap,VU,JE⟩:=run_append_own (P:=P) w 0 t ty e i z sz bytes el.ht hi hz me HR el.hz el.hs s.v s.n xs ho q sn sc news hl vk h1 (by unfold maxLen;omega) hb (Nat.zero_le _)
  have hv:∃s':Sl,v'=s'.v/\s'.n=s.n+sn/\(s'.a=none->v'=.slice none 0 0):=by
   rcases Ap.2 with ⟨h1,h2⟩|⟨g,cap,cur,h1,_⟩
   .exact ⟨⟨none,0,0⟩,h1,by show 0=_;omega,λ_=>h1⟩
   .exact ⟨⟨_,_,_⟩,h1,rfl,λh=>by cases h⟩
  obtain ⟨s',rfl,wC,TG⟩:=hv
  refine ⟨s',w',lH,?_,wC,?_,?_,?_⟩
  .unfold aO;rw [wC];exact Ap
  .refine Fr.grown VU λg hg=>?_
   rw [uj] at hg
   cases Aq:s.a with
   |none=>simp [Aq] at hg
   |some p=>simp [Aq] at hg;simp [bA,Aq,hg]
  .intro g hg
   rcases ho.cases with ⟨rfl,rfl⟩|⟨g0,cur,QY,VT,V7,Xy,Gf,NT⟩
   .obtain ⟨v2,w2,DZ,DW,_,_⟩:=run_append_own (P:=P) w w.heap.size t ty e i z sz bytes el.ht hi hz me HR el.hz el.hs (.slice none 0 0) 0 [] (World.ownsRow_nil w _ e sz) q sn sc news hl vk h1 (by unfold maxLen;omega) (by simpa using hb) (Nat.le_refl _)
    have e1:(Result.ok s'.v w':Result Value)=.ok v2 w2:=lH.symm.trans DZ
    have e2:=(Result.ok.inj e1).1
    subst e2
    rcases DW.2 with ⟨h1,_⟩|⟨g2,Vr,Vv,h1,h2,_⟩
    .have:s'.a=none:=(Value.slice.inj h1).1
     simp [bA,this] at hg
    .have:s'.a=some ⟨g2,0,none⟩:=(Value.slice.inj h1).1
     simp [bA,this] at hg
     exact .inr (hg▸h2)
   .obtain ⟨sa0,J7,M7⟩:=s
    simp only at QY V7 Gf NT hb A5
    subst QY
    by_cases yX:J7+sn<=M7
    .subst me
     have ri:J7 *i.size+news.length<=cur.size:=by rw [hl,Gf,<-Nat.add_mul];exact Nat.mul_le_mul_right _ yX
     have DY:=run_append_room (P:=P) w t ty e i el.ht hi g0 J7 M7 cur VT q sn sc news hl vk h1 yX ri
     have e1:=lH.symm.trans DY
     have:s'.a=some ⟨g0,0,none⟩:=(Value.slice.inj (Result.ok.inj e1).1).1
     simp [bA,this] at hg ⊢
     exact .inl hg
    .subst me
     have holds:∀j u,xs[j]? =some u->w.cell? ((⟨g0,0,none⟩:Addr).add j)=some u:=World.ownsRow.cells (g:=g0) ho rfl
     have DY:=run_append_grow (P:=P) w t ty e i z el.ht hi hz ⟨g0,0,none⟩ J7 M7 xs ho.len holds q sn sc news hl vk (by omega) (by omega) (growslice_fits (by omega) (by rw [HR];exact hb))
     have e1:=lH.symm.trans DY
     have:s'.a=some ⟨w.heap.size,0,none⟩:=(Value.slice.inj (Result.ok.inj e1).1).1
     simp [bA,this] at hg
     exact .inr (by omega)
  .intro h
   have:=JE.1 (TG h)
   refine ⟨?_,this.2⟩
   exact (Value.slice.inj this.1).1
theorem aO.cap {w:World} {e:TypeId} {sz:Nat} {s:Sl} {xs:List Value} (h:aO w e sz s xs):s.n<=s.c:=by
 rcases h.cases with ⟨rfl,_⟩|⟨g,cur,_,_,h,_⟩
 .exact Nat.le_refl _
 .exact h
def Rd (w:World) (s:Sl) (vs:List Value):Prop:=s.n=vs.length/\s.n<=s.c/\oB w s vs
def Ow (w:World) (e:TypeId) (s:Sl) (vs:List Value):Prop:=s.n=vs.length/\aO w e 1 s vs
theorem Ow.rd {w:World} {e:TypeId} {s:Sl} {vs:List Value} (h:Ow w e s vs):Rd w s vs:=⟨h.1,h.2.cap,h.2.row.LD⟩
theorem Rd.fr {M:Nat->Prop} {w w':World} {s:Sl} {vs:List Value} (h:Rd w s vs) (hf:Fr M w w') (hn:∀b∈bA s,¬M b):Rd w' s vs:=⟨h.1,h.2.1,h.2.2.fr hf hn⟩
theorem Ow.fr {M:Nat->Prop} {w w':World} {e:TypeId} {s:Sl} {vs:List Value} (h:Ow w e s vs) (hf:Fr M w w') (hn:∀b∈bA s,¬M b):Ow w' e s vs:=⟨h.1,h.2.fr hf hn⟩
theorem Rd.ot {w w':World} {s:Sl} {vs:List Value} (h:Rd w s vs) (hf:bF w w'):Rd w' s vs:=h.fr hf λ_ _ h=>h
theorem Ow.ot {w w':World} {e:TypeId} {s:Sl} {vs:List Value} (h:Ow w e s vs) (hf:bF w w'):Ow w' e s vs:=h.fr hf λ_ _ h=>h
theorem Rd.nil (w:World):Rd w ⟨none,0,0⟩ []:=⟨rfl,Nat.le_refl _,oB.nil w⟩
theorem Ow.nil (w:World) (e:TypeId):Ow w e ⟨none,0,0⟩ []:=⟨rfl,aO.nil w _ _⟩
theorem Ow.lt {w:World} {e:TypeId} {s:Sl} {vs:List Value} (h:Ow w e s vs):∀b∈bA s,b<w.heap.size:=h.2.lt
theorem Ow.made (w:World) (e:TypeId) (cs:List Value) (n:Nat) (hn:n=cs.length) (hl:n<=1000000):Ow (w.alloc (.cells cs.toArray e)) e ⟨some ⟨w.heap.size,0,none⟩,n,n⟩ cs:=
 ⟨hn,aO.made w e 1 n cs (by omega) (by unfold maxLen;omega)⟩
theorem Rd.get {w:World} {s:Sl} {vs:List Value} (h:Rd w s vs) {i j:Nat} {v:Value} (hi:vs[i]? =some v) (hj:j=i *1) {K:Addr->Prop} (hk:∀p,s.a=some p->w.cell? (p.add j)=some v->K p):W.aX s.a K:=h.2.2.get hi hj hk
theorem Rd.sub {w:World} {s:Sl} {vs:List Value} (h:Rd w s vs) (l hi:Nat) (hl:l<=hi) (hh:hi<=vs.length):Rd w (sub s l hi) ((vs.take hi).drop l):=by
 have h1:=h.1
 have h2:=h.2.1
 refine ⟨?_,?_,h.2.2.sub l hi (by omega) h.2.1 hl (by omega)⟩
 .unfold W.sub;simp;omega
 .unfold W.sub;simp;omega
theorem I8 {t ty e:TypeId} {z:Value} {bytes:Nat} {P:Program} (el:iK P t e z 1 bytes) {w:World} {s src:Sl} {xs ys:List Value} (ho:Ow w e s xs) (hr:Rd w src ys) (h1:∀u∈ys,u.oneCell'=true) (hb:(xs.length+ys.length) *bytes<=140737488355328):
  ∃s' w',(Builtin.append_ #[t,t] ty #[s.v,src.v]).run P w=.ok s'.v w'/\Ow w' e s' (xs++ys)/\Fr (λb=>b∈bA s) w w'/\(∀b∈bA s',b∈bA s\/w.heap.size<=b)/\(s'.a=none->s.a=none/\ys=[]):=by
 obtain ⟨s',w',g1,g2,g3,g4,g5,g6⟩:=qa (ty:=ty) el ho.2 hr.2.2 (by rw [hr.1];omega) h1 (by rw [ho.1,hr.1];exact hb)
 refine ⟨s',w',g1,⟨?_,g2⟩,g4,g5,λh=>⟨(g6 h).1,?_⟩⟩
 .rw [g3,ho.1,hr.1];simp
 .have:=(g6 h).2
  rw [hr.1] at this
  exact UX this
theorem vd {α:Type} (f:α->List Value) (sz:Nat) (hf:∀a,(f a).length=sz):∀(cs:List α) (i j:Nat) (a:α),cs[i]? =some a->j<sz->(cs.flatMap f)[i *sz+j]? =(f a)[j]?
 |[],i,j,a,h,_=>by simp at h
 |c::cs,0,j,a,h,hj=>by
  simp at h
  subst h
  rw [qfC,Nat.zero_mul,Nat.zero_add,List.getElem?_append_left (by rw [hf];exact hj)]
 |c::cs,i+1,j,a,h,hj=>by
  rw [qfC,List.getElem?_append_right (by rw [hf,Nat.succ_mul];omega),hf,show (i+1) *sz+j - sz=i *sz+j by rw [Nat.succ_mul];omega]
  exact vd f sz hf cs i j a (by simpa using h) hj
theorem oq {α:Type} (f:α->List Value) (sz:Nat) (hf:∀a,(f a).length=sz) (cs:List α):(cs.flatMap f).length=cs.length *sz:=by
 induction cs with
 |nil=>simp
 |cons c cs ih=>rw [qfC,List.length_append,ih,hf,List.length_cons,Nat.succ_mul];omega
theorem oB.elem {α:Type} {f:α->List Value} {sz:Nat} (hf:∀a,(f a).length=sz) (hs:0<sz) {w:World} {s:Sl} {cs:List α} (h:oB w s (cs.flatMap f)) {i:Nat} {a:α} (hi:cs[i]? =some a) {K:Addr->Prop}
  (hk:∀p,s.a=some p->(∀j v,(f a)[j]? =some v->w.cell? ((p.add (i *sz)).add j)=some v)->K p):W.aX s.a K:=by
 obtain ⟨v0,O2⟩:∃v,(f a)[0]? =some v:=⟨_,g7 (by rw [hf];exact hs)⟩
 obtain ⟨p,hp,_⟩:=h.2 (i *sz+0) v0 (by rw [vd f sz hf cs i 0 a hi hs];exact O2)
 rw [hp]
 refine hk p hp λj v hv=>?_
 have hj:j<sz:=by have:=(nP.1 hv).1;rwa [hf] at this
 obtain ⟨q,hq,hc⟩:=h.2 (i *sz+j) v (by rw [vd f sz hf cs i j a hi hj];exact hv)
 rw [hp] at hq
 cases hq
 rw [add_add];exact hc
theorem IE {w:World} {b:Nat} {cs:Array Value} {T:TypeId} (h:w.heap[b]? =some (.cells cs T (0,0))) (i:Nat) (hi:i<cs.size) (v:Value):
  (w.cell? ((bD b).add i)).isSome=true/\w.frozen? ((bD b).add i)=false/\(w.setCell ((bD b).add i) v).heap[b]? =some (.cells (cs.setIfInBounds i v) T (0,0))/\Fr (·=b) w (w.setCell ((bD b).add i) v):=by
 refine ⟨?_,frozenAt (p:=bD b) h,?_,Fr.set _ _ _ (gp _ _)⟩
 .rw [cellAt (p:=bD b) (v:=cs[i]) h rfl (by simp [hi])];rfl
 .have:=setAt (p:=bD b) (i:=i) (v:=v) h rfl
  simpa using this
theorem Fr.put (w:World) (l:Nat) (o:Obj):Fr (·=l) w (w.putObj l o):=⟨rfl,rfl,rfl,by simp [World.putObj],λk _ hn=>by
 have:l≠k:=λe=>hn e.symm
 simp [World.putObj,Array.getElem?_setIfInBounds_ne this]⟩
theorem T7 {w:World} {l:Nat} {x:Obj} (h:w.heap[l]? =some x) (o:Obj):(w.putObj l o).heap[l]? =some o:=by
 have:=gg h
 simp [World.putObj,this]
theorem Db (x y:Nat) (hx:x<18446744073709551616) (hy:y<18446744073709551616):Oa .u64 (x:Int) (y:Int)=((x^^^y:Nat):Int):=by
 unfold Oa
 have h1:(BitVec.ofInt (IntKind.bits .u64) (x:Int)^^^BitVec.ofInt (IntKind.bits .u64) (y:Int)).toNat=x^^^y:=by
  show (BitVec.ofInt 64 (x:Int)^^^BitVec.ofInt 64 (y:Int)).toNat=_
  rw [BitVec.toNat_xor,BitVec.ofInt_natCast,BitVec.ofInt_natCast,BitVec.toNat_ofNat,BitVec.toNat_ofNat,Nat.mod_eq_of_lt hx,Nat.mod_eq_of_lt hy]
 rw [h1]
 have:x^^^y<2^64:=Nat.xor_lt_two_pow hx hy
 exact IntWalk.u64_in _ (by omega)
theorem NI (x:Nat) (hx:x<18446744073709551616):x^^^18446744073709551615=18446744073709551615 - x:=by
 have h1:=BitVec.toNat_not (x:=BitVec.ofNat 64 x)
 have h2:(~~~ (BitVec.ofNat 64 x))=BitVec.ofNat 64 x^^^BitVec.allOnes 64:=(BitVec.xor_allOnes).symm
 rw [h2,BitVec.toNat_xor,BitVec.toNat_ofNat,Nat.mod_eq_of_lt hx,BitVec.toNat_allOnes] at h1
 omega
theorem FC (n:Nat) (h:n<256):Vd .u8 (n:Int) 128=((n%128+128:Nat):Int):=by
 have h':∀x:Fin 256,Vd .u8 (x.val:Int) 128=((x.val%128+128:Nat):Int):=by decide+kernel
 exact h' ⟨n,h⟩
theorem Ny (n:Nat):IntKind.wrap .u8 (n:Int)=((n%256:Nat):Int):=by rw [IntKind.wrap_u8];omega
theorem IX (n:Nat) (h:n<18446744073709551616):IntKind.wrap .u64 (n:Int)=(n:Int):=IntWalk.u64_in _ (by omega)
theorem LO (n m:Nat) (h:0<m):Int.fdiv (n:Int) (m:Int)=((n / m:Nat):Int):=by
 rw [Int.fdiv_eq_ediv_of_nonneg _ (by omega)];rfl
theorem aZ (i:Nat) (h:i<9223372036854775807):IntKind.wrap .i64 ((i:Int)+1)=((i+1:Nat):Int):=by rw [IntWalk.i64_in _ (by omega)];omega
structure En where
 fp:List Nat
 P:World->Prop
 st:∀w w',(∀b∈fp,b<w.heap.size->w'.heap[b]? =w.heap[b]?)->P w->P w'
 lt:∀w,P w->∀b∈fp,b<w.heap.size
 nd:fp.Nodup
def En.ob (b:Nat) (o:Obj):En:=⟨[b],λw=>w.heap[b]? =some o,λw w' h hp=>(h b (by simp) (gg hp)).trans hp,λw hp x hx=>by simp at hx;subst hx;exact gg hp,by simp⟩
abbrev En.c (b:Nat) (vs:List Value) (T:TypeId):En:=.ob b (.cells vs.toArray T (0,0))
def En.row (e:TypeId) (sz:Nat) (s:Sl) (vs:List Value):En:=⟨bA s,λw=>aO w e sz s vs,λ_ _ h hp=>hp.gV h,λ_ hp=>hp.lt,by unfold bA;split<;>simp⟩
def En.rd (s:Sl) (vs:List Value):En:=⟨if vs=[] then [] else bA s,λw=>Rd w s vs,λw w' h hp=>by
  refine ⟨hp.1,hp.2.1,hp.2.2.1,λi v hi=>?_⟩
  obtain ⟨p,ha,hc⟩:=hp.2.2.2 i v hi
  have iq:vs≠[]:=λe=>by subst e;simp at hi
  rw [if_neg iq] at h
  have:=h p.block (by simp [bA,ha]) (by have:=oW hc;rwa [gp] at this)
  refine ⟨p,ha,?_⟩
  unfold World.cell? at hc ⊢
  rw [gp] at hc ⊢
  rw [this];exact hc,λw hp b hb=>by
  split at hb
  .cases hb
  .rename_i iq
   have h0:0<vs.length:=List.length_pos_iff.2 iq
   obtain ⟨p,ha,hc⟩:=hp.2.2.2 0 vs[0] (g7 h0)
   simp [bA,ha] at hb
   subst hb
   have:=oW hc
   rwa [gp] at this,by split<;>(try simp);unfold bA;split<;>simp⟩
structure LH (M:Nat->Prop) (w0 w:World) (L D:List En):Prop where
 fr:Fr M w0 w
 own:∀e∈L,e.P w
 rd:∀e∈D,e.P w
 new:∀e∈L,∀b∈e.fp,w0.heap.size<=b\/M b
 nd:(L.flatMap (·.fp)).Nodup
 dj:∀e∈D,∀b∈e.fp,∀e'∈L,b∉e'.fp
theorem LH.start {M:Nat->Prop} {w:World} (D:List En) (h:∀e∈D,e.P w):LH M w w [] D:=⟨Fr.refl _ _,by simp,h,by simp,by simp,by simp⟩
theorem LH.zB {M:Nat->Prop} {w:World} (L D:List En) (hl:∀e∈L,e.P w/\∀b∈e.fp,M b) (hn:(L.flatMap (·.fp)).Nodup) (h:∀e∈D,e.P w/\∀b∈e.fp,∀e'∈L,b∉e'.fp):LH M w w L D:=
 ⟨Fr.refl _ _,λe he=>(hl e he).1,λe he=>(h e he).1,λe he b hb=>.inr ((hl e he).2 b hb),hn,λe he=>(h e he).2⟩
theorem LH.ot {M:Nat->Prop} {w0 w w':World} {L D:List En} (H:LH M w0 w L D) (f:bF w w'):LH M w0 w' L D:=
 ⟨H.fr.zM f,λe he=>e.st w w' (λb _ hl=>f.gV b hl id) (H.own e he),λe he=>e.st w w' (λb _ hl=>f.gV b hl id) (H.rd e he),H.new,H.nd,H.dj⟩
theorem LH.drew {M:Nat->Prop} {w0 w:World} {L D:List En} (H:LH M w0 w L D):LH M w0 w.drew L D:=H.ot (Fr.drew _ _)
theorem wJ {α:Type} {f:α->List Nat}:∀{L:List α} {i:Nat} {e e':α},L[i]? =some e->(L.flatMap f).Nodup->(f e').Nodup->(∀x∈f e',x∈f e\/x∉L.flatMap f)->((L.set i e').flatMap f).Nodup
 |[],i,e,e',h,_,_,_=>by simp at h
 |a::L,0,e,e',h,hn,h',hs=>by
  simp at h;subst h
  simp only [List.set_cons_zero,qfC,qnA] at hn ⊢
  refine ⟨h',hn.2.1,λx hx y hy=>?_⟩
  rintro rfl
  rcases hs x hx with h|h
  .exact hn.2.2 x h x hy rfl
  .exact h (by simp only [qfC,fW];exact .inr hy)
 |a::L,i+1,e,e',h,hn,h',hs=>by
  simp only [List.getElem?_cons_succ] at h
  simp only [List.set_cons_succ,qfC,qnA] at hn ⊢
  refine ⟨hn.1,wJ h hn.2.1 h' (λx hx=>(hs x hx).imp id λh hm=>h (by simp only [qfC,fW];exact .inr hm)),λx hx y hy=>?_⟩
  rintro rfl
  obtain ⟨g,hg,XF⟩:=mV.1 hy
  rcases qmO hg with hg|rfl
  .exact hn.2.2 x hx x (mV.2 ⟨g,hg,XF⟩) rfl
  .rcases hs x XF with h1|h1
   .exact hn.2.2 x hx x (mV.2 ⟨e,dC h,h1⟩) rfl
   .exact h1 (by simp only [qfC,fW];exact .inl hx)
theorem LH.GD {M:Nat->Prop} {w0 w:World} {L D:List En} (H:LH M w0 w L D):∀b∈L.flatMap (·.fp),b<w.heap.size:=λb hb=>by
 obtain ⟨e,he,hb⟩:=mV.1 hb
 exact e.lt w (H.own e he) b hb
theorem oX {L:List En} (hn:(L.flatMap (·.fp)).Nodup):∀{i:Nat} {e:En},L[i]? =some e->∀{j:Nat} {g:En},L[j]? =some g->i≠j->∀b∈e.fp,b∉g.fp:=by
 induction L with
 |nil=>intro i e h;simp at h
 |cons a L ih=>
  simp only [qfC,qnA] at hn
  intro i e hi j g hj iq b hb eC
  cases i with
  |zero=>
   simp at hi;subst hi
   cases j with
   |zero=>exact iq rfl
   |succ j=>exact hn.2.2 b hb b (mV.2 ⟨g,dC (by simpa using hj),eC⟩) rfl
  |succ i=>
   cases j with
   |zero=>
    simp at hj;subst hj
    exact hn.2.2 b eC b (mV.2 ⟨e,dC (by simpa using hi),hb⟩) rfl
   |succ j=>exact ih hn.2.1 (by simpa using hi) (by simpa using hj) (by omega) b hb eC
theorem LH.CK {M:Nat->Prop} {w0 w w':World} {L D:List En} (H:LH M w0 w L D) {e:En} (i:Nat) (e':En) (hi:L[i]? =some e) (f:Fr (·∈e.fp) w w') (hP:e'.P w') (CQ:∀b∈e'.fp,b∈e.fp\/w.heap.size<=b):LH M w0 w' (L.set i e') D:=by
 have hm:=dC hi
 have A7:Fr M w0 w':=H.fr.trans f λx hx JD=>(H.new e hm x JD).resolve_left (by omega)
 refine ⟨A7,λg hg=>?_,λg hg=>?_,λg hg b hb=>?_,wJ hi H.nd e'.nd λx hx=>?_,λg hg b hb g' lQ eC=>?_⟩
 .obtain ⟨j,hj⟩:=KB.1 hg
  rw [qgT] at hj
  split at hj
  .split at hj
   .cases hj;exact hP
   .cases hj
  .rename_i iq
   refine g.st w w' (λb hb hl=>f.gV b hl λrh=>oX H.nd hi hj iq b rh hb) (H.own g (dC hj))
 .exact g.st w w' (λb hb hl=>f.gV b hl λrh=>H.dj g hg b hb e hm rh) (H.rd g hg)
 .rcases qmO hg with hg|rfl
  .exact H.new g hg b hb
  .rcases CQ b hb with h|h
   .exact H.new e hm b h
   .exact .inl (Nat.le_trans H.fr.size h)
 .rcases CQ x hx with h|h
  .exact .inl h
  .exact .inr λD3=>by have:=H.GD x D3;omega
 .rcases qmO lQ with lQ|rfl
  .exact H.dj g hg b hb g' lQ eC
  .rcases CQ b eC with h|h
   .exact H.dj g hg b hb e hm h
   .have:=g.lt w (H.rd g hg) b hb;omega
theorem LH.push {M:Nat->Prop} {w0 w w':World} {L D:List En} (H:LH M w0 w L D) (e:En) (f:bF w w') (hP:e.P w') (CQ:∀b∈e.fp,w.heap.size<=b):LH M w0 w' (L++[e]) D:=by
 have H':=H.ot f
 refine ⟨H'.fr,λg hg=>?_,H'.rd,λg hg b hb=>?_,?_,λg hg b hb g' lQ eC=>?_⟩
 .rcases fW.1 hg with hg|hg
  .exact H'.own g hg
  .simp at hg;subst hg;exact hP
 .rcases fW.1 hg with hg|hg
  .exact H.new g hg b hb
  .simp at hg;subst hg;exact .inl (Nat.le_trans H.fr.size (CQ b hb))
 .rw [qfA,qnA]
  refine ⟨H.nd,by simpa using e.nd,λx hx y hy=>?_⟩
  rintro rfl
  have h1:=H.GD x hx
  have h2:=CQ x (by simpa using hy)
  omega
 .rcases fW.1 lQ with lQ|lQ
  .exact H.dj g hg b hb g' lQ eC
  .simp at lQ;subst lQ
   have h1:=g.lt w (H.rd g hg) b hb
   have h2:=CQ b eC
   omega
theorem LH.alloc {M:Nat->Prop} {w0 w:World} {L D:List En} (H:LH M w0 w L D) (o:Obj):LH M w0 (w.alloc o) (L++[.ob w.heap.size o]) D:=
 H.push _ (Fr.alloc _ _ _) (nj w o) (λb hb=>by simp [En.ob] at hb;omega)
theorem LH.oe {M:Nat->Prop} {w0 w w':World} {L D:List En} (H:LH M w0 w L D) (e:En) (f:bF w w') (hP:e.P w') (hd:∀b∈e.fp,w.heap.size<=b\/(b<w0.heap.size/\¬M b)\/∃g∈D,b∈g.fp):LH M w0 w' L (D++[e]):=by
 have H':=H.ot f
 refine ⟨H'.fr,H'.own,λg hg=>?_,H'.new,H'.nd,λg hg b hb g' lQ eC=>?_⟩
 .rcases fW.1 hg with hg|hg
  .exact H'.rd g hg
  .simp at hg;subst hg;exact hP
 .rcases fW.1 hg with hg|hg
  .exact H.dj g hg b hb g' lQ eC
  .simp at hg;subst hg
   rcases hd b hb with h|⟨h,hm⟩|⟨q,hq,VP⟩
   .have:=g'.lt w (H.own g' lQ) b eC;omega
   .exact (H.new g' lQ b eC).elim (λh'=>by omega) hm
   .exact H.dj q hq b VP g' lQ eC
theorem LH.forget {M:Nat->Prop} {w0 w:World} {L D:List En} (H:LH M w0 w L D) (D':List En) (h:∀e∈D',e∈D):LH M w0 w L D':=⟨H.fr,H.own,λe he=>H.rd e (h e he),H.new,H.nd,λe he=>H.dj e (h e he)⟩
theorem ml {α:Type} {a:α}:∀{l:List α} {i:Nat},a∈l.eraseIdx i->a∈l
 |[],_,h=>by simp at h
 |b::l,0,h=>by simp at h;simp [h]
 |b::l,i+1,h=>by
  simp at h
  rcases h with h|h
  .simp [h]
  .exact qmCM _ (ml h)
theorem xz {α:Type} {f:α->List Nat}:∀{L:List α} {i:Nat},(L.flatMap f).Nodup->((L.eraseIdx i).flatMap f).Nodup
 |[],i,h=>by simp
 |a::L,0,h=>by simp only [qfC,qnA] at h;exact h.2.1
 |a::L,i+1,h=>by
  simp only [List.eraseIdx_cons_succ,qfC,qnA] at h ⊢
  refine ⟨h.1,xz h.2.1,λx hx y hy=>h.2.2 x hx y ?_⟩
  obtain ⟨g,hg,XF⟩:=mV.1 hy
  exact mV.2 ⟨g,ml hg,XF⟩
theorem DC {α:Type} {f:α->List Nat}:∀{L:List α} {i:Nat} {e:α},L[i]? =some e->(L.flatMap f).Nodup->∀b∈f e,∀g∈L.eraseIdx i,b∉f g
 |[],i,e,h,_=>by simp at h
 |a::L,0,e,h,hn=>by
  simp at h;subst h
  simp only [qfC,qnA] at hn
  intro b hb g hg eC
  exact hn.2.2 b hb b (mV.2 ⟨g,by simpa using hg,eC⟩) rfl
 |a::L,i+1,e,h,hn=>by
  simp only [qfC,qnA] at hn
  intro b hb g hg eC
  simp only [List.getElem?_cons_succ] at h
  simp only [List.eraseIdx_cons_succ,cU] at hg
  rcases hg with rfl|hg
  .exact hn.2.2 b eC b (mV.2 ⟨e,dC h,hb⟩) rfl
  .exact DC h hn.2.1 b hb g hg eC
theorem LH.freeze {M:Nat->Prop} {w0 w:World} {L D:List En} (H:LH M w0 w L D) {e:En} (i:Nat) (e':En) (hi:L[i]? =some e) (hP:e'.P w) (CQ:∀b∈e'.fp,b∈e.fp):LH M w0 w (L.eraseIdx i) (D++[e']):=by
 refine ⟨H.fr,λg hg=>H.own g (ml hg),λg hg=>?_,λg hg=>H.new g (ml hg),xz H.nd,λg hg b hb g' lQ=>?_⟩
 .rcases fW.1 hg with hg|hg
  .exact H.rd g hg
  .simp at hg;subst hg;exact hP
 .rcases fW.1 hg with hg|hg
  .exact H.dj g hg b hb g' (ml lQ)
  .simp at hg;subst hg
   exact DC hi H.nd b (CQ b hb) g' lQ
theorem LH.get {M:Nat->Prop} {w0 w:World} {L D:List En} (H:LH M w0 w L D) (i:Nat) {e:En} (hi:L[i]? =some e:=by rfl):e.P w:=H.own e (dC hi)
theorem LH.getD {M:Nat->Prop} {w0 w:World} {L D:List En} (H:LH M w0 w L D) (i:Nat) {e:En} (hi:D[i]? =some e:=by rfl):e.P w:=H.rd e (dC hi)
section
variable {M:Nat->Prop} {w0 w:World} {L D:List En}
theorem LH.ob (H:LH M w0 w L D) (i:Nat) {b:Nat} {o:Obj} (hi:L[i]? =some (.ob b o):=by rfl):w.heap[b]? =some o:=H.own _ (dC hi)
theorem LH.ld (H:LH M w0 w L D) (i j:Nat) {b:Nat} {vs:List Value} {T:TypeId} {v:Value} (hi:L[i]? =some (.c b vs T):=by rfl) (hj:vs[j]? =some v:=by rfl):w.cell? ((bD b).add j)=some v:=
 cellAt (p:=bD b) (H.ob i hi) rfl (by simpa using hj)
theorem LH.Gs (H:LH M w0 w L D) (i:Nat) {b:Nat} {vs:List Value} {T:TypeId} {v:Value} (hi:L[i]? =some (.c b vs T):=by rfl) (hj:vs[0]? =some v:=by rfl):w.cell? (bD b)=some v:=by
 have:=H.ld i 0 hi hj
 rwa [tR] at this
theorem LH.set (H:LH M w0 w L D) (i j:Nat) {b:Nat} {vs:List Value} {T:TypeId} {v:Value} (hi:L[i]? =some (.c b vs T)) (hj:j<vs.length):
  (w.cell? ((bD b).add j)).isSome=true/\w.frozen? ((bD b).add j)=false/\LH M w0 (w.setCell ((bD b).add j) v) (L.set i (.c b (vs.set j v) T)) D:=by
 obtain ⟨x1,x2,x3,x4⟩:=IE (H.ob i hi) j (by simpa using hj) v
 exact ⟨x1,x2,H.CK i (.c b (vs.set j v) T) hi (x4.mono λx _ e=>by simp [En.ob,e]) (by show _=_;rw [x3];simp) (λb hb=>.inl hb)⟩
theorem LH.st (H:LH M w0 w L D) (i j:Nat) {b:Nat} {vs:List Value} {T:TypeId} {v:Value} {K:World->Prop} (hi:L[i]? =some (.c b vs T)) (hK:∀w',LH M w0 w' (L.set i (.c b (vs.set j v) T)) D->K w') (hj:j<vs.length:=by simp):bR w ((bD b).add j) v K:=by
 obtain ⟨x1,x2,x3⟩:=H.set (v:=v) i j hi hj
 exact ⟨x1,x2,hK _ x3⟩
theorem LH.CS (H:LH M w0 w L D) (i:Nat) {b:Nat} {vs:List Value} {T:TypeId} {v:Value} {K:World->Prop} (hi:L[i]? =some (.c b vs T)) (hK:∀w',LH M w0 w' (L.set i (.c b (vs.set 0 v) T)) D->K w') (hj:0<vs.length:=by simp):bR w (bD b) v K:=by
 have:=H.st (v:=v) (K:=K) i 0 hi hK hj
 rwa [tR] at this
theorem LH.kR (H:LH M w0 w L D) (i:Nat) {b:Nat} {a0 a1:Value} {T:TypeId} {v0 v1:Value} {K:World->Prop} (hi:L[i]? =some (.c b [a0,a1] T)) (hK:∀w',LH M w0 w' (L.set i (.c b [v0,v1] T)) D->K w'):bR w (bD b) v0 λw1=>bR w1 ((bD b).add 1) v1 K:=by
 have hl:=(nP.1 hi).1
 exact H.CS i hi (λw1 H1=>H1.st (vs:=[v0,a1]) (T:=T) i 1 (by simp [hl]) (λw2 H2=>hK w2 (by simpa using H2)))
theorem LH.lO (H:LH M w0 w L D) (i:Nat) {b:Nat} {a0 a1 a2:Value} {T:TypeId} {v0 v1 v2:Value} {K:World->Prop} (hi:L[i]? =some (.c b [a0,a1,a2] T)) (hK:∀w',LH M w0 w' (L.set i (.c b [v0,v1,v2] T)) D->K w'):bR w (bD b) v0 λw1=>bR w1 ((bD b).add 1) v1 λw2=>bR w2 ((bD b).add 2) v2 K:=by
 have hl:=(nP.1 hi).1
 exact H.CS i hi (λw1 H1=>H1.st (vs:=[v0,a1,a2]) (T:=T) i 1 (by simp [hl]) (λw2 H2=>H2.st (vs:=[v0,v1,a2]) (T:=T) i 2 (by simp [hl]) (λw3 H3=>hK w3 (by simpa using H3))))
theorem LH.CC (H:LH M w0 w L D) (i:Nat) {b:Nat} {a0 a1 a2 a3:Value} {T:TypeId} {v0 v1 v2 v3:Value} {K:World->Prop} (hi:L[i]? =some (.c b [a0,a1,a2,a3] T)) (hK:∀w',LH M w0 w' (L.set i (.c b [v0,v1,v2,v3] T)) D->K w'):bR w (bD b) v0 λw1=>bR w1 ((bD b).add 1) v1 λw2=>bR w2 ((bD b).add 2) v2 λw3=>bR w3 ((bD b).add 3) v3 K:=by
 have hl:=(nP.1 hi).1
 exact H.CS i hi (λw1 H1=>H1.st (vs:=[v0,a1,a2,a3]) (T:=T) i 1 (by simp [hl]) (λw2 H2=>H2.st (vs:=[v0,v1,a2,a3]) (T:=T) i 2 (by simp [hl]) (λw3 H3=>H3.st (vs:=[v0,v1,v2,a3]) (T:=T) i 3 (by simp [hl]) (λw4 H4=>hK w4 (by simpa using H4)))))
theorem LH.st5 (H:LH M w0 w L D) (i:Nat) {b:Nat} {a0 a1 a2 a3 a4:Value} {T:TypeId} {v0 v1 v2 v3 v4:Value} {K:World->Prop} (hi:L[i]? =some (.c b [a0,a1,a2,a3,a4] T)) (hK:∀w',LH M w0 w' (L.set i (.c b [v0,v1,v2,v3,v4] T)) D->K w'):bR w (bD b) v0 λw1=>bR w1 ((bD b).add 1) v1 λw2=>bR w2 ((bD b).add 2) v2 λw3=>bR w3 ((bD b).add 3) v3 λw4=>bR w4 ((bD b).add 4) v4 K:=by
 have hl:=(nP.1 hi).1
 exact H.CS i hi (λw1 H1=>H1.st (vs:=[v0,a1,a2,a3,a4]) (T:=T) i 1 (by simp [hl]) (λw2 H2=>H2.st (vs:=[v0,v1,a2,a3,a4]) (T:=T) i 2 (by simp [hl]) (λw3 H3=>H3.st (vs:=[v0,v1,v2,a3,a4]) (T:=T) i 3 (by simp [hl]) (λw4 H4=>H4.st (vs:=[v0,v1,v2,v3,a4]) (T:=T) i 4 (by simp [hl]) (λw5 H5=>hK w5 (by simpa using H5))))))
theorem LH.XT (H:LH M w0 w L D) (i:Nat) {b:Nat} {a0 a1 a2 a3 a4 a5 a6 a7:Value} {T:TypeId} {v0 v1 v2 v3 v4 v5 v6 v7:Value} {K:World->Prop} (hi:L[i]? =some (.c b [a0,a1,a2,a3,a4,a5,a6,a7] T)) (hK:∀w',LH M w0 w' (L.set i (.c b [v0,v1,v2,v3,v4,v5,v6,v7] T)) D->K w'):bR w (bD b) v0 λw1=>bR w1 ((bD b).add 1) v1 λw2=>bR w2 ((bD b).add 2) v2 λw3=>bR w3 ((bD b).add 3) v3 λw4=>bR w4 ((bD b).add 4) v4 λw5=>bR w5 ((bD b).add 5) v5 λw6=>bR w6 ((bD b).add 6) v6 λw7=>bR w7 ((bD b).add 7) v7 K:=by
 have hl:=(nP.1 hi).1
 exact H.CS i hi (λw1 H1=>H1.st (vs:=[v0,a1,a2,a3,a4,a5,a6,a7]) (T:=T) i 1 (by simp [hl]) (λw2 H2=>H2.st (vs:=[v0,v1,a2,a3,a4,a5,a6,a7]) (T:=T) i 2 (by simp [hl]) (λw3 H3=>H3.st (vs:=[v0,v1,v2,a3,a4,a5,a6,a7]) (T:=T) i 3 (by simp [hl]) (λw4 H4=>H4.st (vs:=[v0,v1,v2,v3,a4,a5,a6,a7]) (T:=T) i 4 (by simp [hl]) (λw5 H5=>H5.st (vs:=[v0,v1,v2,v3,v4,a5,a6,a7]) (T:=T) i 5 (by simp [hl]) (λw6 H6=>H6.st (vs:=[v0,v1,v2,v3,v4,v5,a6,a7]) (T:=T) i 6 (by simp [hl]) (λw7 H7=>H7.st (vs:=[v0,v1,v2,v3,v4,v5,v6,a7]) (T:=T) i 7 (by simp [hl]) (λw8 H8=>hK w8 (by simpa using H8)))))))))
theorem LH.nw (H:LH M w0 w L D) {cs:Array Value} {T:TypeId} {K:World->Prop} (hK:∀w',w'.heap.size=w.heap.size+1->LH M w0 w' (L++[.c w.heap.size cs.toList T]) D->K w'):eV w (.cells cs T) K:=hK _ (size_alloc _ _) (H.alloc _)
theorem LH.XP (H:LH M w0 w L D) {o:Obj} {K:World->Prop} (hK:∀w',w'.heap.size=w.heap.size+1->LH M w0 w' L D->w'.heap[w.heap.size]? =some o->K w'):eV w o K:=hK _ (size_alloc _ _) (H.ot (Fr.alloc _ _ _)) (nj w o)
theorem LH.dr (H:LH M w0 w L D) {K:World->Prop} (hK:∀w',LH M w0 w' L D->K w'):tZ w K:=hK _ H.drew
theorem LH.pu (H:LH M w0 w L D) (i:Nat) {b:Nat} {o o':Obj} {K:World->Prop} (hi:L[i]? =some (.ob b o)) (hK:∀w',LH M w0 w' (L.set i (.ob b o')) D->K w'):KA w b o o' K:=
 ⟨H.ob i hi,hK _ (H.CK i (.ob b o') hi ((Fr.put w b o').mono λx _ e=>by simp [En.ob,e]) (T7 (H.ob i hi) o') (λb hb=>.inl hb))⟩
theorem LH.ap (H:LH M w0 w L D) (i:Nat) {P:Program} {t ty e:TypeId} {z:Value} {sz bytes:Nat} (el:iK P t e z sz bytes) {s src:Sl} {xs news:List Value} {K:Sl->World->Prop}
  (hi:L[i]? =some (.row e sz s xs)) (hr:oB w src news) (hl:news.length=src.n *sz) (h1:∀u∈news,u.oneCell'=true) (hb:(s.n+src.n) *bytes<=140737488355328)
  (hK:∀s' w',LH M w0 w' (L.set i (.row e sz s' (xs++news))) D->s'.n=s.n+src.n->(s'.a=none->s.a=none/\src.n=0)->K s' w'):
  ∃s' w',(Builtin.append_ #[t,t] ty #[s.v,src.v]).run P w=.ok s'.v w'/\K s' w':=by
 obtain ⟨s',w',g1,g2,g3,g4,g5,g6⟩:=qa (ty:=ty) el (H.get i hi) hr hl h1 hb
 exact ⟨s',w',g1,hK s' w' (H.CK i (.row e sz s' (xs++news)) hi g4 g2 g5) g3 g6⟩
theorem LH.Xn (H:LH M w0 w L D) (i:Nat) {P:Program} {t ty e:TypeId} {z:Value} {sz bytes:Nat} (el:iK P t e z sz bytes) {T:TypeId} {s:Sl} {xs:List Value} {news:Array Value} {K:Sl->World->Prop}
  (hi:L[i]? =some (.row e sz s xs)) (hK:∀s' w',LH M w0 w' (L.set i (.row e sz s' (xs++news.toList))) D->s'.n=s.n+1->s'.a≠none->K s' w') (hb:(s.n+1) *bytes<=140737488355328) (hl:news.size=sz:=by rfl) (h1:∀u∈news.toList,u.oneCell'=true:=by simp [Value.oneCell']):
  eV w (.cells news T) λw1=>∃s' w',(Builtin.append_ #[t,t] ty #[s.v,.slice (some (Addr.mk w.heap.size 0 none)) 1 1]).run P w1=.ok s'.v w'/\K s' w':=by
 have H1:LH M w0 (w.alloc (.cells news T)) L D:=H.ot (Fr.alloc _ _ _)
 refine H1.ap i el (src:=⟨some (bD w.heap.size),1,1⟩) (ty:=ty) (K:=K) (news:=news.toList) hi ((Row.made w T 1 1 news.toList).LD) (by simpa using hl) h1 hb (λs' w' h hn qM=>hK s' w' h hn λh0=>by have:=(qM h0).2;simp at this)
theorem LH.oL (H:LH M w0 w L D) (e:TypeId) (sz:Nat):LH M w0 w (L++[.row e sz ⟨none,0,0⟩ []]) D:=H.push _ (Fr.refl _ _) (aO.nil w e sz) (λb hb=>by simp [En.row,bA] at hb)
end
theorem aO.ow1 {w:World} {e:TypeId} {s:Sl} {vs:List Value} (h:aO w e 1 s vs):Ow w e s vs:=⟨by have:=h.len;omega,h⟩
theorem aO.rd1 {w:World} {e:TypeId} {s:Sl} {vs:List Value} (h:aO w e 1 s vs):Rd w s vs:=h.ow1.rd
abbrev F0:Nat->Prop:=λ_=>False
theorem LH.take {M:Nat->Prop} {w0 w:World} {L D:List En} (H:LH M w0 w L D) (n:Nat):LH M w0 w (L.take n) D:=
 ⟨H.fr,λe he=>H.own e (KC he),H.rd,λe he=>H.new e (KC he),by
  have:=H.nd
  rw [<-List.take_append_drop n L,qfA,qnA] at this
  exact this.1,λe he b hb e' mJ=>H.dj e he b hb e' (KC mJ)⟩
theorem aJ {a b:Int} {A B:Prop} (h1:a=b->A) (h2:a≠b->B):aH (a==b) A B:=bB (λh=>h1 (by simpa using h)) (λh=>h2 (by simpa using h))
theorem eB {a b:Int} {A B:Prop} (h1:a≠b->A) (h2:a=b->B):aH (a !=b) A B:=bB (λh=>h1 (by simpa using h)) (λh=>h2 (by simpa using h))
theorem aK {p:Prop} [Decidable p] {A B:Prop} (h1:p->A) (h2:¬p->B):aH (decide p) A B:=bB (λh=>h1 (of_decide_eq_true h)) (λh=>h2 (of_decide_eq_false h))
theorem eO {b:Bool} {A B:Prop} (h1:b=false->A) (h2:b=true->B):aH (!b) A B:=bB (λh=>h1 (by simpa using h)) (λh=>h2 (by simpa using h))
theorem LH.tH {M:Nat->Prop} {w0 w:World} {L D:List En} (H:LH M w0 w L D) (i j:Nat) {b:Nat} {vs:List Value} {T:TypeId} {v:Value} (hi:D[i]? =some (.c b vs T):=by rfl) (hj:vs[j]? =some v:=by rfl):w.cell? ((bD b).add j)=some v:=
 cellAt (p:=bD b) (show w.heap[b]? =_ from H.rd _ (dC hi)) rfl (by simpa using hj)
theorem LH.Vq {M:Nat->Prop} {w0 w w':World} {L D:List En} (H:LH M w0 w L D) (i:Nat) {b:Nat} {vs zS:List Value} {T:TypeId} (f:Fr (·=b) w w') (h:w'.heap[b]? =some (.cells zS.toArray T (0,0))) (hi:L[i]? =some (.c b vs T):=by rfl):LH M w0 w' (L.set i (.c b zS T)) D:=
 H.CK i (.c b zS T) hi (f.mono λx _ e=>by simp [En.ob,e]) h (λb hb=>.inl hb)
theorem LH.gZ {M:Nat->Prop} {w0 w:World} {L D:List En} (H:LH M w0 w L D) {e:TypeId} {sz n:Nat} {cs:List Value} (hc:cs.length=n *sz) (hn:n<=maxLen) {K:World->Prop} (hK:∀w',LH M w0 w' (L++[.row e sz ⟨some (bD w.heap.size),n,n⟩ cs]) D->K w'):eV w (.cells cs.toArray e) K:=
 hK _ (H.push _ (Fr.alloc _ _ _) (aO.made w e sz n cs hc hn) (λb hb=>by simp [En.row,bA] at hb;omega))
def oA (P:Program) (o:Oper) (E:Env) (w:World) (K:Env->World->Prop):Prop:=
 bif calm P o then qo P o E w λv _=>K (E.put o.dst v) w else mi P o E w λv w'=>K (E.put o.dst v) w'
def yt (ops:Array Oper):Bool:=(List.range ops.size).all λi=>match ops[i]? with
 |some o=>o.guard.isNone&&o.after.toList.all λe=>!(Region.binds .any e)||Nat.blt e.on i
 |none=>true
abbrev jg (L:Nat->Bool) (i:Nat):Nat->Bool:=λj=>Nat.beq j i||L j
section
variable {P:Program} {ops:Array Oper} {n:Cx} {K:Env->World->Prop}
theorem sm (h:yt ops=true) {i:Nat} {o:Oper} (ho:ops[i]? =some o):o.guard=none/\∀e∈o.after,Region.binds .any e=true->e.on<i:=by
 unfold yt at h
 have hi:i<ops.size:=(Array.getElem?_eq_some_iff.1 ho).1
 have:=qaT.1 h i (List.mem_range.2 hi)
 rw [ho] at this
 simp only [Bool.and_eq_true] at this
 refine ⟨by simpa using this.1,λe he hb=>?_⟩
 have:=qaT.1 this.2 e (by simpa using he)
 rw [hb] at this
 simpa using this
theorem Nk {i:Nat} {o:Oper} {a:Act} {E:Env} {w:World} {Kh:Env->World->Prop} {K':Act->World->Prop} {Q:Exit->Act->World->Prop}
  (hn:gB n ops=true) (ho:ops[i]? =some o) (hg:o.guard=none) (ha:Ag n a E) (h:oA P o E w Kh) (next:∀a' E' w',Ag n a' E'->Kh E' w'->K' a' w'):wpOp P ops Q i K' a w:=by
 have nM:=Region.noSelect_spec (ops:=ops) (by unfold gB at hn;rw [Bool.and_eq_true] at hn;exact hn.1)
 have hw:Region.wanted o (yielded ops a.tmps)=true:=by simp [Region.wanted,hg]
 unfold oA at h
 cases hc:calm P o with
 |true=>
  rw [hc] at h
  simp only [cond_true] at h
  obtain ⟨v,Ss,hk,vm,Kx⟩:=oV (λcs b=>nM i o cs b ho) ha h
  unfold wpOp
  simp only [ho,hw,if_true]
  refine .inl ?_
  unfold Oper.wp
  rw [Kx w vm]
  exact next _ _ _ (ha.put v (dO hn ho)) hk
 |false=>
  rw [hc] at h
  simp only [cond_false] at h
  exact s9 ho hw (im (λcs b=>nM i o cs b ho) ha h) λv w' hv=>next _ _ _ (ha.put v (dO hn ho)) hv
theorem Ko (hn:gB n ops=true) (hb:yt ops=true) (J:(Nat->Bool)->Env->World->Prop)
  (step:∀L E w i o,ops[i]? =some o->L i=false->(∀e∈o.after,Region.binds .any e=true->L e.on=true)->J L E w->oA P o E w λE' w'=>J (jg L i) E' w')
  (fin:∀L E w,(∀i,i<ops.size->L i=true)->J L E w->K E w):
  ∀(fuel:Nat) (listed:Array Bool) (a:Act) (E:Env) (w:World),listed.size=ops.size->Ag n a E->J (λj=>listed.getD j false) E w->((List.range ops.size).filter λj=>!listed.getD j false).length<=fuel->
   wpAny P .any ops (gW n K) fuel listed a w:=by
 have done:∀(listed:Array Bool) (a:Act) (E:Env) (w:World),listed.size=ops.size->Ag n a E->J (λj=>listed.getD j false) E w->Region.ready .any ops listed=[]->gW n K .normal a w:=by
  intro listed a E w hs ha hJ hr
  refine ⟨E,ha,fin _ E w (λi=>?_) hJ⟩
  induction i using Nat.strongRecOn with
  |_ i ih=>
   intro hi
   cases hl:listed.getD i false with
   |true=>rfl
   |false=>
    exfalso
    have ho:ops[i]? =some ops[i]:=Array.getElem?_eq_getElem hi
    have hm:i∈Region.ready .any ops listed:=mem_ready.2 ⟨by
     have lC:i<listed.size:=by omega
     simp [lC] at hl ⊢
     exact hl,_,ho,λe he hbi=>ih e.on ((sm hb ho).2 e he hbi) (Nat.lt_trans ((sm hb ho).2 e he hbi) hi)⟩
    rw [hr] at hm
    cases hm
 intro fuel
 induction fuel with
 |zero=>
  intro listed a E w hs ha hJ hf
  have hall:∀i,i<ops.size->listed.getD i false=true:=λi hi=>by
   cases hl:listed.getD i false with
   |true=>rfl
   |false=>
    have:i∈(List.range ops.size).filter λj=>!listed.getD j false:=List.mem_filter.2 ⟨List.mem_range.2 hi,by rw [hl];rfl⟩
    rw [List.length_eq_zero_iff.1 (Nat.le_zero.1 hf)] at this
    cases this
  refine ⟨?_,E,ha,fin _ E w hall hJ⟩
  cases hr:Region.ready .any ops listed with
  |nil=>rfl
  |cons i l=>
   have hm:i∈Region.ready .any ops listed:=by rw [hr];simp
   obtain ⟨h0,o,ho,_⟩:=mem_ready.1 hm
   have hi:=(Array.getElem?_eq_some_iff.1 ho).1
   have h1:=hall i hi
   have lC:i<listed.size:=by omega
   simp [lC] at h0 h1
   rw [h0] at h1
   cases h1
 |succ fuel ih=>
  intro listed a E w hs ha hJ hf
  refine ⟨done listed a E w hs ha hJ,λi hi=>?_⟩
  obtain ⟨h0,o,ho,hall⟩:=mem_ready.1 hi
  have lC:i<ops.size:=(Array.getElem?_eq_some_iff.1 ho).1
  have hli:i<listed.size:=by omega
  have wz:listed.getD i false=false:=by simp [hli] at h0 ⊢;exact h0
  refine Nk hn ho (sm hb ho).1 ha (step _ E w i o ho wz hall hJ) λa' E' w' xq vW=>?_
  have he:(jg (λj=>listed.getD j false) i)=λj=>(listed.setIfInBounds i true).getD j false:=by
   funext j
   by_cases hj:i=j
   .subst hj
    simp [jg,hli]
   .have:Nat.beq j i=false:=by rw [<-Bool.not_eq_true,Nat.beq_eq];exact λh=>hj h.symm
    rw [getD_set_ne false hj]
    simp [jg,this]
  rw [he] at vW
  refine ih _ a' E' w' (by simpa using hs) xq vW ?_
  have rX:((List.range ops.size).filter λj=>!(listed.setIfInBounds i true).getD j false)=((List.range ops.size).filter λj=>!listed.getD j false).filter λj=>!(Nat.beq j i):=by
   rw [List.filter_filter]
   refine List.filter_congr λj _=>?_
   rw [<-congrFun he j]
   simp only [jg,Bool.not_or]
  have aaw:(((List.range ops.size).filter λj=>!listed.getD j false).filter λj=>!(Nat.beq j i)).length<((List.range ops.size).filter λj=>!listed.getD j false).length:=by
   refine List.length_filter_lt_length_iff_exists.2 ⟨i,List.mem_filter.2 ⟨List.mem_range.2 lC,by rw [wz];rfl⟩,?_⟩
   have:Nat.beq i i=true:=Nat.beq_refl i
   simp [this]
  rw [rX]
  omega
theorem AA {c:Code} {id:Nat} {a:Act} {E:Env} {w:World} (J:(Nat->Bool)->Env->World->Prop) (hm:P.follows .mixedOrders=true) (hc:c=.region id ops true) (hn:gB n ops=true) (hb:yt ops=true) (ha:Ag n a E)
  (h0:J (λ_=>false) E w.drew)
  (step:∀L E w i o,ops[i]? =some o->L i=false->(∀e∈o.after,Region.binds .any e=true->L e.on=true)->J L E w->oA P o E w λE' w'=>J (jg L i) E' w')
  (fin:∀L E w,(∀i,i<ops.size->L i=true)->J L E w->K E w):c.wpIn (FW n) 0 P (gW n K) a w:=by
 subst hc
 have hz:(λj=>(Array.replicate ops.size false).getD j false)=λ_=>false:=by
  funext j
  by_cases hj:j<ops.size<;>simp [hj]
 have h2:=Ko (K:=K) hn hb J step fin ops.size (Array.replicate ops.size false) a E w.drew (by simp) ha (by rw [hz];exact h0) (Nat.le_trans (List.length_filter_le _ _) (by simp))
 refine wpIn_region_draw λt=>?_
 refine pU hn (λ⟨_,_,h⟩=>h) _ _ _ ?_
 simp only [Region.schedule,hm,Bool.true_or,if_true]
 exact wpAny_sound ops.size t _ a _ h2
def T' (P:Program) (n:Nat) (c:Code):Bool:=match c with
 |.region _ ops d=>d&&(P.follows .mixedOrders&&(gB n ops&&yt ops))
 |_=>false
def ZT (P:Program) (c:Code) (K:Env->World->Prop) (E:Env) (w:World):Prop:=
 ∃J:(Nat->Bool)->Env->World->Prop,J (λ_=>false) E w.drew/\
  (∀L E w i o,(Code.ops c)[i]? =some o->L i=false->(∀e∈o.after,Region.binds .any e=true->L e.on=true)->J L E w->oA P o E w λE' w'=>J (jg L i) E' w')/\
  ∀L E w,(∀i,i<(Code.ops c).size->L i=true)->J L E w->K E w
abbrev WR (P:Program) (c:Code) (K:Env->World->Prop) (E:Env) (w:World):Prop:=ZT P (Code.fst c) K E w
variable {Q:Exit->Act->World->Prop} {E:Env} {w:World}
theorem ig (c:Code) (hc:T' P n c=true) (h:ZT P c K E w) (hk:∀E' w' a',Ag n a' E'->K E' w'->Q .normal a' w'):WP P n c Q E w:=by
 obtain ⟨J,h0,step,fin⟩:=h
 unfold T' at hc
 split at hc
 .rename_i id ops d
  simp only [Bool.and_eq_true] at hc
  obtain ⟨rfl,h2,h3,h4⟩:=hc
  exact λa ha=>wpIn_mono (AA J h2 rfl h3 h4 ha h0 step fin) λe a' w' he=>by
   cases e with
   |normal=>obtain ⟨E',hA,hK⟩:=he;exact hk E' w' a' hA hK
   |_=>exact he.elim
 .cases hc
theorem si (c:Code) (hc:(D7 c&&T' P n (Code.fst c))=true) (h:WR P c K E w) (hk:∀E' w',K E' w'->WP P n (Code.snd c) Q E' w'):WP P n c Q E w:=
 WP.seq (Cz (wa hc).1) (ig _ (wa hc).2 h λE' w' a' hA hK=>nx hA (hk E' w' hK))
end
def rowOf (o:Oper):Op×Option Nat×TypeId×List Nat:=(o.op,o.dst,o.type,(o.after.toList.filter λe=>Region.binds .any e).map (·.on))
def allI {α:Type} (F:Nat->α->Prop):List α->Nat->Prop
 |[],_=>True
 |a::l,i=>F i a/\allI F l (i+1)
theorem C' {α:Type} {F:Nat->α->Prop}:∀{l:List α} {n i:Nat} {a:α},allI F l n->l[i]? =some a->F (n+i) a
 |[],_,i,a,_,h=>by simp at h
 |b::l,n,0,a,h,hi=>by simp at hi;subst hi;exact h.1
 |b::l,n,i+1,a,h,hi=>by
  have:=C' (i:=i) h.2 (by simpa using hi)
  rwa [show n+1+i=n+(i+1) by omega] at this
section
variable {P:Program} {K:Env->World->Prop} {E:Env} {w:World}
def N6 (P:Program) (J:(Nat->Bool)->Env->World->Prop) (i:Nat) (r:Op×Option Nat×TypeId×List Nat):Prop:=
 ∀L E w o,o.op=r.1->o.dst=r.2.1->o.type=r.2.2.1->L i=false->(∀j∈r.2.2.2,L j=true)->J L E w->oA P o E w λE' w'=>J (jg L i) E' w'
theorem Mo {c:Code} (R0:List (Op×Option Nat×TypeId×List Nat)) (ht:(Code.ops c).toList.map rowOf=R0) (J:(Nat->Bool)->Env->World->Prop) (h0:J (λ_=>false) E w.drew) (step:allI (N6 P J) R0 0)
  (fin:∀L E w,(∀i,i<R0.length->L i=true)->J L E w->K E w):ZT P c K E w:=by
 refine ⟨J,h0,λL E w i o ho hi hd hJ=>?_,λL E w hL hJ=>fin L E w (λi hi=>hL i ?_) hJ⟩
 .have hr:R0[i]? =some (rowOf o):=by rw [<-ht,List.getElem?_map,Array.getElem?_toList,ho];rfl
  have:=C' step hr
  rw [Nat.zero_add] at this
  refine this L E w o rfl rfl rfl hi (λj hj=>?_) hJ
  obtain ⟨e,he,rfl⟩:=o8.1 hj
  obtain ⟨h1,h2⟩:=List.mem_filter.1 he
  exact hd e (by simpa using h1) h2
 .rw [<-ht,List.length_map] at hi
  simpa using hi
theorem vK {o:Oper} {t:Nat} {v:Value} (ho:o.op=.move (.tmp t)\/o.op=.assign (.tmp t)) (ht:E.get? t=some v) (h:K (E.put o.dst v) w):oA P o E w K:=by
 obtain ⟨dst,op,ty,pos,after,guard⟩:=o
 have ev:E.ev (.tmp t)=v:=by simp [Env.ev,Env.val,ht]
 rcases ho with ho|ho<;>(simp only at ho;subst ho)
 .show iy P _ E (λv _=>K (E.put dst v) w)
  have hc:E.fT ⟨dst,.move (.tmp t),ty,pos,after,guard⟩=true:=by simp [Env.fT,Op.operands,Env.val,ht]
  unfold iy
  rw [hc]
  show K (E.put dst (E.ev (.tmp t))) w
  rw [ev];exact h
 .show iy P _ E (λv _=>K (E.put dst v) w)
  have hc:E.fT ⟨dst,.assign (.tmp t),ty,pos,after,guard⟩=true:=by simp [Env.fT,Op.operands,Env.val,ht]
  unfold iy
  rw [hc]
  show K (E.put dst (E.ev (.tmp t))) w
  rw [ev];exact h
theorem zy {o:Oper} {T:TypeId} {t:Nat} {p:Addr} (ho:o.op=.load T (.tmp t)) (ht:E.get? t=some (.pointer (some p))) (h:At P T p w λv _=>K (E.put o.dst v) w):oA P o E w K:=by
 obtain ⟨dst,op,ty,pos,after,guard⟩:=o
 simp only at ho
 subst ho
 show (match E.val (.tmp t) with |some (.pointer (some p))=>At P T p w (λv _=>K (E.put dst v) w)|_=>False)
 rw [show E.val (.tmp t)=some (.pointer (some p)) from ht]
 exact h
theorem Uj {o:Oper} {f t1 t2:Nat} {v1 v2:Value} (ho:o.op=.makeFunc (.func f) #[] #[.tmp t1,.tmp t2]) (h1:E.get? t1=some v1) (h2:E.get? t2=some v2) (h:K (E.put o.dst (.func (.func f) #[] #[v1,v2])) w):oA P o E w K:=by
 obtain ⟨dst,op,ty,pos,after,guard⟩:=o
 simp only at ho
 subst ho
 show iy P _ E (λv _=>K (E.put dst v) w)
 have hc:E.fT ⟨dst,.makeFunc (.func f) #[] #[.tmp t1,.tmp t2],ty,pos,after,guard⟩=true:=by simp [Env.fT,Op.operands,Env.val,h1,h2]
 unfold iy
 rw [hc]
 show K (E.put dst (.func (.func f) (#[].map E.ev) (#[.tmp t1,.tmp t2].map E.ev))) w
 have e1:E.ev (.tmp t1)=v1:=by simp [Env.ev,Env.val,h1]
 have e2:E.ev (.tmp t2)=v2:=by simp [Env.ev,Env.val,h2]
 simp only [List.map_toArray,List.map_cons,List.map_nil,e1,e2]
 exact h
theorem Uk {o:Oper} {T:TypeId} (ho:o.op=.makeMap T none) (h:K (E.put o.dst (.map (some w.heap.size))) (w.alloc (.map #[] 0))):oA P o E w K:=by
 obtain ⟨dst,op,ty,pos,after,guard⟩:=o
 simp only at ho
 subst ho
 have hc:E.fT ⟨dst,.makeMap T none,ty,pos,after,guard⟩=true:=by simp [Env.fT,Op.operands]
 have he:wu P ⟨dst,.makeMap T none,ty,pos,after,guard⟩ E w (λv w'=>K (E.put dst v) w'):=by
  unfold wu
  rw [hc]
  exact h
 unfold oA
 simp only [calm,cond_false]
 unfold mi
 exact he
theorem sX {o:Oper} {T:TypeId} {m k v:Operand} {m' k' v':Value} (ho:o.op=.insert T m k v) (hm:E.val m=some m') (hk:E.val k=some k') (hv:E.val v=some v') (h:∃w',(Instr.mapUpdate T m' k' v').run P w=.ok () w'/\K (E.put o.dst undef) w'):oA P o E w K:=by
 obtain ⟨dst,op,ty,pos,after,guard⟩:=o
 simp only at ho
 subst ho
 show (match E.val m,E.val k,E.val v with |some m,some k,some v=>Dz P (Instr.mapUpdate T m k v) w (λv w'=>K (E.put dst v) w')|_,_,_=>False)
 rw [hm,hk,hv]
 exact h
theorem zx {o:Oper} {t a b f:Nat} {ts:Array TypeId} {first captured:Array Value} {x y:Value} (ho:o.op=.call ⟨.value (.tmp t),#[.tmp a,.tmp b],ts⟩) (ht:E.get? t=some (.func (.func f) first captured)) (ha:E.get? a=some x) (hb:E.get? b=some y) (hc:fD P f=true)
  (h:Calls P f (first++#[x,y]++captured) w λe w'=>va (zeroOf P o.type) λv=>e=.returned v/\K (E.put o.dst v) w'):oA P o E w K:=by
 obtain ⟨dst,op,ty,pos,after,guard⟩:=o
 simp only at ho
 subst ho
 show hO (E.fT ⟨dst,.call ⟨.value (.tmp t),#[.tmp a,.tmp b],ts⟩,ty,pos,after,guard⟩) (match E.get? t with
  |some (.func (.func f) first captured)=>hO (fD P f) (tW P f (first++(#[Operand.tmp a,.tmp b]).map E.ev++captured) (zeroOf P ty) w (λv w'=>K (E.put dst v) w'))
  |_=>False)
 have VR:E.fT ⟨dst,.call ⟨.value (.tmp t),#[.tmp a,.tmp b],ts⟩,ty,pos,after,guard⟩=true:=by simp [Env.fT,Op.operands,Call.operands,Env.val,ht,ha,hb]
 rw [VR,ht]
 show hO (fD P f) _
 rw [hc]
 have e1:E.ev (.tmp a)=x:=by simp [Env.ev,Env.val,ha]
 have e2:E.ev (.tmp b)=y:=by simp [Env.ev,Env.val,hb]
 show tW P f _ _ w _
 simp only [List.map_toArray,List.map_cons,List.map_nil,e1,e2]
 exact h
def uG (T:List (Nat×Nat×Value)) (L:Nat->Bool) (E:Env):Prop:=∀q∈T,(bif Nat.beq q.1 0 then true else L (q.1 - 1))=true->E.get? q.2.1=some q.2.2
theorem uG.get {T:List (Nat×Nat×Value)} {L:Nat->Bool} (h:uG T L E) {i d:Nat} {v:Value} (hq:(i,d,v)∈T) (hi:(bif Nat.beq i 0 then true else L (i - 1))=true):E.get? d=some v:=h _ hq hi
theorem eQ {E:Env} {d t:Nat} {v:Value} (h:d≠t):(E.put (some d) v).get? t=E.get? t:=by
 have:Nat.beq d t=false:=by rw [<-Bool.not_eq_true,Nat.beq_eq];exact h
 simp only [Env.put,Env.get?,this,cond_false]
theorem th {E:Env} {d:Nat} {v:Value}:(E.put (some d) v).get? d=some v:=by simp [Env.put,Env.get?]
theorem uG.fill {T:List (Nat×Nat×Value)} {L:Nat->Bool} (h:uG T L E) {i d:Nat} {v:Value} (h1:∀q∈T,q.1=i+1->q=(i+1,d,v)) (h2:∀q∈T,q.2.1=d->q.1=i+1):uG T (jg L i) (E.put (some d) v):=by
 intro q hq hc
 by_cases hd:q.2.1=d
 .obtain rfl:=h1 q hq (h2 q hq hd)
  exact th
 .rw [eQ (λe=>hd e.symm)]
  refine h q hq ?_
  by_cases h0:q.1=0
  .rw [h0];rfl
  .have hb:Nat.beq q.1 0=false:=by rw [<-Bool.not_eq_true,Nat.beq_eq];exact h0
   rw [hb] at hc ⊢
   have iq:q.1 - 1≠i:=λe=>hd (by rw [h1 q hq (by omega)])
   have:Nat.beq (q.1 - 1) i=false:=by rw [<-Bool.not_eq_true,Nat.beq_eq];exact iq
   simpa [jg,this] using hc
theorem uG.pass {T:List (Nat×Nat×Value)} {L:Nat->Bool} (h:uG T L E) {i:Nat} {d:Option Nat} {v:Value} (h1:∀q∈T,q.1≠i+1) (h2:∀q∈T,d≠some q.2.1):uG T (jg L i) (E.put d v):=by
 intro q hq hc
 have he:(E.put d v).get? q.2.1=E.get? q.2.1:=by
  cases d with
  |none=>rfl
  |some d=>exact eQ λe=>h2 q hq (by rw [e])
 rw [he]
 refine h q hq ?_
 by_cases h0:q.1=0
 .rw [h0];rfl
 .have hb:Nat.beq q.1 0=false:=by rw [<-Bool.not_eq_true,Nat.beq_eq];exact h0
  rw [hb] at hc ⊢
  have iq:q.1 - 1≠i:=λe=>h1 q hq (by omega)
  have:Nat.beq (q.1 - 1) i=false:=by rw [<-Bool.not_eq_true,Nat.beq_eq];exact iq
  simpa [jg,this] using hc
end
structure LC (w:World) (L:List (Nat×List Value×TypeId)):Prop where
 own:∀(i:Nat) (x:Nat×List Value×TypeId),L[i]? =some x->w.heap[x.1]? =some (.cells x.2.1.toArray x.2.2 (0,0))
 dj:∀(i j:Nat) (x y:Nat×List Value×TypeId),L[i]? =some x->L[j]? =some y->x.1=y.1->i=j
abbrev pD (L:List (Nat×List Value×TypeId)):List Nat:=L.map (·.1)
def loc (bs:List Nat) (w:World) (K:World->Prop):Prop:=∀w',Fr (·∈bs) w w'->K w'
def bH (bs:List Nat) (w:World) (K:Nat->World->Prop):Prop:=∀b w',w.heap.size<=b->w'.heap.size=b+1->Fr (·∈bs) w w'->K b w'
def fC (bs:List Nat) (P:Program) (f:FuncId) (args:Array Value) (w:World) (K:aD):Prop:=∃M:Nat->Prop,(∀b∈bs,¬M b)/\Calls P f args w λr w'=>Fr M w w'/\K r w'
def kept (bs:List Nat) (w w':World):Prop:=∀b∈bs,w'.heap[b]? =w.heap[b]?
theorem MN {q:Option Addr} {K K':Addr->Prop} (h:aX q K) (f:∀p,K p->K' p):aX q K':=by
 cases q with
 |none=>exact h
 |some p=>exact f p h
theorem IC {t:Bool} {A B A' B':Prop} (h:aH t A B) (h1:A->A') (h2:B->B'):aH t A' B':=M8 h1 h2 h
theorem pf {w:World} {p:Addr} {v:Value} {K K':World->Prop} (h:bR w p v K) (f:∀w1,K w1->K' w1):bR w p v K':=⟨h.1,h.2.1,f _ h.2.2⟩
section
variable {w wT:World} {L:List (Nat×List Value×TypeId)}
theorem LC.nil (w:World):LC w []:=⟨λi x h=>by simp at h,λi j x y h=>by simp at h⟩
theorem LC.blk (H:LC w L) {b:Nat} (hb:b∈pD L):∃(i:Nat) (x:Nat×List Value×TypeId),L[i]? =some x/\x.1=b:=by
 obtain ⟨x,hx,rfl⟩:=o8.1 hb
 obtain ⟨i,hi⟩:=KB.1 hx
 exact ⟨i,x,hi,rfl⟩
theorem LC.lt (H:LC w L) {b:Nat} (hb:b∈pD L):b<w.heap.size:=by
 obtain ⟨i,x,hi,rfl⟩:=H.blk hb
 exact gg (H.own i x hi)
theorem LC.xr {w':World} (H:LC w L) (h:kept (pD L) w w'):LC w' L:=
 ⟨λi x hi=>by rw [h x.1 (o8.2 ⟨x,dC hi,rfl⟩)];exact H.own i x hi,H.dj⟩
theorem LC.fr {M:Nat->Prop} {w':World} (H:LC w L) (f:Fr M w w') (hm:∀b∈pD L,¬M b):LC w' L:=H.xr λb hb=>f.gV b (H.lt hb) (hm b hb)
theorem LC.pick (H:LC w L) (is:List Nat) (hn:is.Nodup):LC w (is.filterMap λi=>L[i]?):=by
 induction is with
 |nil=>exact LC.nil w
 |cons k is ih=>
  have ih:=ih (List.nodup_cons.1 hn).2
  cases hk:L[k]? with
  |none=>rw [List.filterMap_cons_none hk];exact ih
  |some x=>
   rw [List.filterMap_cons_some hk]
   have back:∀(j:Nat) y,(is.filterMap λi=>L[i]?)[j]? =some y->y.1≠x.1:=by
    intro j y hy e
    obtain ⟨m,hm,hmy⟩:=List.mem_filterMap.1 (dC hy)
    have:=H.dj m k y x hmy hk e
    subst this
    exact (List.nodup_cons.1 hn).1 hm
   refine ⟨λi y hi=>?_,λi j y z hi hj e=>?_⟩
   .cases i with
    |zero=>simp at hi;subst hi;exact H.own k x hk
    |succ i=>exact ih.own i y (by simpa using hi)
   .cases i with
    |zero=>
     cases j with
     |zero=>rfl
     |succ j=>simp at hi;subst hi;exact absurd e.symm (back j z (by simpa using hj))
    |succ i=>
     cases j with
     |zero=>simp at hj;subst hj;exact absurd e (back i y (by simpa using hi))
     |succ j=>rw [ih.dj i j y z (by simpa using hi) (by simpa using hj) e]
theorem LC.ld (H:LC w L) (i j:Nat) {b:Nat} {vs:List Value} {T:TypeId} {v:Value} (hi:L[i]? =some (b,vs,T):=by rfl) (hj:vs[j]? =some v:=by rfl):w.cell? ((bD b).add j)=some v:=
 cellAt (p:=bD b) (H.own i _ hi) rfl (by simpa using hj)
theorem LC.Gs (H:LC w L) (i:Nat) {b:Nat} {vs:List Value} {T:TypeId} {v:Value} (hi:L[i]? =some (b,vs,T):=by rfl) (hj:vs[0]? =some v:=by rfl):w.cell? (bD b)=some v:=by
 have:=H.ld i 0 hi hj
 rwa [tR] at this
theorem LC.alloc (H:LC w L) (o:Obj):LC (w.alloc o) L:=H.fr (M:=λ_=>False) (Fr.alloc _ _ _) (λ_ _ h=>h)
theorem LC.push (H:LC w L) (cs:Array Value) (T:TypeId):LC (w.alloc (.cells cs T)) (L++[(w.heap.size,cs.toList,T)]):=by
 have H1:=H.alloc (.cells cs T)
 have Ac:∀(i:Nat) x,L[i]? =some x->x.1<w.heap.size:=λi x hi=>gg (H.own i x hi)
 have ix:∀(i:Nat) x,(L++[(w.heap.size,cs.toList,T)])[i]? =some x->(L[i]? =some x)\/(i=L.length/\x=(w.heap.size,cs.toList,T)):=by
  intro i x hi
  rw [List.getElem?_append] at hi
  split at hi
  .exact .inl hi
  .rename_i hl
   right
   have:i - L.length=0:=by
    rcases Nat.eq_zero_or_pos (i - L.length) with h|h
    .exact h
    .rw [List.getElem?_eq_none (by simp;omega)] at hi;cases hi
   rw [this] at hi
   simp at hi
   exact ⟨by omega,hi.symm⟩
 refine ⟨λi x hi=>?_,λi j x y hi hj e=>?_⟩
 .rcases ix i x hi with h|⟨_,rfl⟩
  .exact H1.own i x h
  .simp only [Array.toArray_toList]
   exact nj w _
 .rcases ix i x hi with h|⟨h,rfl⟩
  .rcases ix j y hj with h'|⟨h',rfl⟩
   .exact H.dj i j x y h h' e
   .have:=Ac i x h;simp only at e;omega
  .rcases ix j y hj with h'|⟨h',rfl⟩
   .have:=Ac j y h';simp only at e;omega
   .omega
theorem LC.Dl (H:LC w L) {P:Program} {g:FuncId} {args:Array Value} {K K':aD} (h:fC (pD L) P g args w K') (hk:∀r w',LC w' L->K' r w'->K r w'):Calls P g args w K:=by
 obtain ⟨M,hm,hc⟩:=h
 exact hc.mono λr w' ⟨f,h'⟩=>hk r w' (H.fr f hm) h'
theorem LC.Vx (H:LC w L) {K:World->Prop} (f:Fr (·∈pD L) wT w) (hk:∀w1,LC w1 L->Fr (·∈pD L) wT w1->K w1):tZ w K:=hk _ (H.fr (M:=λ_=>False) (Fr.drew _ _) (λ_ _ h=>h)) (f.zM (Fr.drew _ _))
theorem FD (L:List (Nat×List Value×TypeId)) (i:Nat) {b:Nat} {vs zS:List Value} {T:TypeId} (hi:L[i]? =some (b,vs,T)):pD (L.set i (b,zS,T))=pD L:=by
 apply List.ext_getElem?
 intro k
 simp only [pD,List.getElem?_map,qgT]
 split
 .rename_i e
  subst e
  rw [hi]
  split
  .rfl
  .rename_i h;exact absurd (nP.1 hi).1 h
 .rfl
theorem LC.set (H:LC w L) (i j:Nat) {b:Nat} {vs:List Value} {T:TypeId} {v:Value} (hi:L[i]? =some (b,vs,T)) (hj:j<vs.length) (f:Fr (·∈pD L) wT w):
  (w.cell? ((bD b).add j)).isSome=true/\w.frozen? ((bD b).add j)=false/\LC (w.setCell ((bD b).add j) v) (L.set i (b,vs.set j v,T))/\Fr (·∈pD (L.set i (b,vs.set j v,T))) wT (w.setCell ((bD b).add j) v):=by
 obtain ⟨x1,x2,x3,x4⟩:=IE (H.own i _ hi) j (by simpa using hj) v
 have hb:b∈pD L:=o8.2 ⟨_,dC hi,rfl⟩
 refine ⟨x1,x2,⟨λk x hk=>?_,λk m x y hk hm e=>?_⟩,?_⟩
 .rw [qgT] at hk
  split at hk
  .split at hk
   .cases hk
    simp only
    rw [x3]
    simp
   .cases hk
  .rename_i iq
   have:=x4.gV x.1 (gg (H.own k x hk)) (λe=>iq (H.dj i k _ x hi hk e.symm))
   rw [this]
   exact H.own k x hk
 .have g:∀(k:Nat) x,(L.set i (b,vs.set j v,T))[k]? =some x->∃y,L[k]? =some y/\y.1=x.1:=by
   intro k x hk
   rw [qgT] at hk
   split at hk
   .rename_i e;subst e
    split at hk
    .cases hk;exact ⟨_,hi,rfl⟩
    .cases hk
   .exact ⟨x,hk,rfl⟩
  obtain ⟨x',h1,e1⟩:=g k x hk
  obtain ⟨y',h2,e2⟩:=g m y hm
  exact H.dj k m x' y' h1 h2 (by rw [e1,e2,e])
 .rw [FD L i hi]
  exact f.trans x4 λx _ e=>e▸hb
theorem nS {bs:List Nat} {P:Program} {f:FuncId} {args:Array Value} {K:aD} (h:Calls P f args w λr w'=>bF w w'/\K r w'):fC bs P f args w K:=⟨λ_=>False,λ_ _ h=>h,h⟩
end
def En.g (b:Nat):En:=⟨[b],λw=>b<w.heap.size,λw w' h hp=>(by
  have:=h b (by simp) hp
  rcases Nat.lt_or_ge b w'.heap.size with h1|h1
  .exact h1
  .rw [Array.getElem?_eq_none h1,Array.getElem?_eq_getElem hp] at this;cases this),λw hp x hx=>by simp at hx;subst hx;exact hp,by simp⟩
section
variable {M:Nat->Prop} {w0 w:World} {L D:List En} {bs:List Nat}
theorem LH.ghost (H:LH M w0 w L D) {w':World} (f:Fr (·∈bs) w w') (jS:∀b∈bs,En.g b∈L):LH M w0 w' L D:=by
 refine ⟨H.fr.trans f λx hx hm=>(H.new _ (jS x hm) x (by simp [En.g])).resolve_left (by omega),λe he=>?_,λe he=>?_,H.new,H.nd,H.dj⟩
 .by_cases hg:∃b∈bs,b∈e.fp
  .obtain ⟨b,hb,rh⟩:=hg
   obtain ⟨i,hi⟩:=KB.1 he
   obtain ⟨j,hj⟩:=KB.1 (jS b hb)
   have xP:i=j:=by
    rcases Nat.decEq i j with h|h
    .exact absurd (by simp [En.g]) (oX H.nd hi hj h b rh)
    .exact h
   subst xP
   rw [hi] at hj
   cases hj
   exact Nat.lt_of_lt_of_le (H.own _ he) f.size
  .exact e.st w w' (λb hb hl=>f.gV b hl λhm=>hg ⟨b,hm,hb⟩) (H.own e he)
 .exact e.st w w' (λb hb hl=>f.gV b hl λhm=>H.dj e he b hb _ (jS b hm) (by simp [En.g])) (H.rd e he)
theorem LH.aN (H:LH M w0 w L D) {K:World->Prop} (hk:∀w1,LH M w0 w1 L D->K w1) (jS:∀b∈bs,En.g b∈L:=by simp):loc bs w K:=λ_ f=>hk _ (H.ghost f jS)
theorem LH.bI (H:LH M w0 w L D) {K:Nat->World->Prop} (hk:∀b w1,LH M w0 w1 (L++[.g b]) D->K b w1) (jS:∀b∈bs,En.g b∈L:=by simp):bH bs w K:=λb w1 h1 h2 f=>hk b w1 (by
 have H1:=H.ghost f jS
 refine ⟨H1.fr,λe he=>?_,H1.rd,λe he x hx=>?_,?_,λe he x hx e' mJ D3=>?_⟩
 .rcases fW.1 he with he|he
  .exact H1.own e he
  .simp at he;subst he;show b<_;omega
 .rcases fW.1 he with he|he
  .exact H.new e he x hx
  .simp at he;subst he;simp [En.g] at hx;subst hx;exact .inl (Nat.le_trans H.fr.size h1)
 .rw [qfA,qnA]
  refine ⟨H.nd,by simp [En.g],λx hx y hy=>?_⟩
  have:=H.GD x hx
  simp [En.g] at hy
  omega
 .rcases fW.1 mJ with mJ|mJ
  .exact H.dj e he x hx e' mJ D3
  .simp at mJ;subst mJ;simp [En.g] at D3;subst D3
   have:=e.lt w (H.rd e he) x hx
   omega)
theorem LH.aL (H:LH M w0 w L D) {P:Program} {g:FuncId} {args:Array Value} {A K:aD} (hc:Calls P g args w λr w'=>A r w'/\bF w w') (hk:∀r w',A r w'->LH M w0 w' L D->K r w'):fC bs P g args w K:=
 nS (hc.mono λr w' ⟨ha,f⟩=>⟨f,hk r w' ha (H.ot f)⟩)
theorem LH.call (H:LH M w0 w L D) {P:Program} {g:FuncId} {args:Array Value} {A K:aD} (hc:Calls P g args w λr w'=>A r w'/\bF w w') (hk:∀r w',A r w'->LH M w0 w' L D->K r w'):Calls P g args w K:=
 hc.mono λr w' ⟨ha,f⟩=>hk r w' ha (H.ot f)
theorem LH.WJ (H:LH M w0 w L D) {w':World} (f:bF w w') {e:TypeId} {sz:Nat} {s:Sl} {vs:List Value} (h:aO w' e sz s vs) (hn:∀b∈bA s,w.heap.size<=b):LH M w0 w' (L++[.row e sz s vs]) D:=H.push (.row e sz s vs) f h hn
theorem LH.apk (H:LH M w0 w L D) (i:Nat) {P:Program} {t ty e:TypeId} {z:Value} {sz bytes:Nat} (el:iK P t e z sz bytes) {s src:Sl} {xs news:List Value} {K:Sl->World->Prop}
  (hi:L[i]? =some (.row e sz s xs)) (hr:oB w src news) (hl:news.length=src.n *sz) (h1:∀u∈news,u.oneCell'=true) (hb:(s.n+src.n) *bytes<=140737488355328)
  (hK:∀s' w',LH M w0 w' (L.set i (.row e sz s' (xs++news))) D->s'.n=s.n+src.n->(s'.a=none->s.a=none/\src.n=0)->(∀b,En.g b∈L->w'.heap[b]? =w.heap[b]?)->K s' w'):
  ∃s' w',(Builtin.append_ #[t,t] ty #[s.v,src.v]).run P w=.ok s'.v w'/\K s' w':=by
 obtain ⟨s',w',g1,g2,g3,g4,g5,g6⟩:=qa (ty:=ty) el (H.get i hi) hr hl h1 hb
 refine ⟨s',w',g1,hK s' w' (H.CK i (.row e sz s' (xs++news)) hi g4 g2 g5) g3 g6 λb hb=>?_⟩
 refine g4.gV b (H.own _ hb) λhm=>?_
 obtain ⟨j,hj⟩:=KB.1 hb
 by_cases xP:i=j
 .subst xP
  rw [hi] at hj
  cases CQ:(En.row e sz s xs) with
  |mk fp P' st lt nd=>
   have e1:En.row e sz s xs=En.g b:=Option.some.inj hj
   have e2:(En.row e sz s xs).P=(En.g b).P:=by rw [e1]
   have e3:=congrFun e2 w
   have e4:(En.row e sz s xs).P (w.alloc (.cells #[] e))=(En.g b).P (w.alloc (.cells #[] e)):=by rw [e1]
   have f1:(En.row e sz s xs).fp=(En.g b).fp:=by rw [e1]
   have Jx:(En.g b).P ({w with heap:=Array.replicate (b+1) (.map #[] 0)}):=by show b<_;simp
   rw [<-e2] at Jx
   have hty:=(aO.row (show aO ({w with heap:=Array.replicate (b+1) (.map #[] 0)}) e sz s xs from Jx)).Uu b hm
   obtain ⟨cs,f,hc⟩:=hty
   simp at hc
 .exact oX H.nd hi hj xP b hm (by simp [En.g])
end
def jJ (sz:Nat) (w:World) (s:Sl) (vs:List Value):Prop:=vs.length=s.n *sz/\s.n<=s.c/\oB w s vs
theorem jJ.fr {sz:Nat} {M:Nat->Prop} {w w':World} {s:Sl} {vs:List Value} (h:jJ sz w s vs) (hf:Fr M w w') (hn:∀b∈bA s,¬M b):jJ sz w' s vs:=⟨h.1,h.2.1,h.2.2.fr hf hn⟩
theorem jJ.ot {sz:Nat} {w w':World} {s:Sl} {vs:List Value} (h:jJ sz w s vs) (hf:bF w w'):jJ sz w' s vs:=h.fr hf λ_ _ h=>h
theorem aO.iQ {w:World} {e:TypeId} {sz:Nat} {s:Sl} {vs:List Value} (h:aO w e sz s vs):jJ sz w s vs:=⟨h.len,h.cap,h.row.LD⟩
theorem jJ.nil (sz:Nat) (w:World):jJ sz w ⟨none,0,0⟩ []:=⟨by simp,Nat.le_refl _,oB.nil w⟩
def En.iQ (sz:Nat) (s:Sl) (vs:List Value):En:=⟨if vs=[] then [] else bA s,λw=>jJ sz w s vs,λw w' h hp=>by
  refine ⟨hp.1,hp.2.1,hp.2.2.1,λi v hi=>?_⟩
  obtain ⟨p,ha,hc⟩:=hp.2.2.2 i v hi
  have iq:vs≠[]:=λe=>by subst e;simp at hi
  rw [if_neg iq] at h
  have:=h p.block (by simp [bA,ha]) (by have:=oW hc;rwa [gp] at this)
  refine ⟨p,ha,?_⟩
  unfold World.cell? at hc ⊢
  rw [gp] at hc ⊢
  rw [this];exact hc,λw hp b hb=>by
  split at hb
  .cases hb
  .rename_i iq
   have h0:0<vs.length:=List.length_pos_iff.2 iq
   obtain ⟨p,ha,hc⟩:=hp.2.2.2 0 vs[0] (g7 h0)
   simp [bA,ha] at hb
   subst hb
   have:=oW hc
   rwa [gp] at this,by split<;>(try simp);unfold bA;split<;>simp⟩
def uv (sz:Nat) (s:Sl) (l h:Nat):Sl:=⟨if s.c=l then s.a else s.a.map (·.add (l *sz)),h - l,s.c - l⟩
theorem jJ.sub {sz:Nat} {w:World} {s:Sl} {vs:List Value} (h:jJ sz w s vs) (l hi:Nat) (hl:l<=hi) (hh:hi<=s.n):jJ sz w (uv sz s l hi) ((vs.take (hi *sz)).drop (l *sz)):=by
 obtain ⟨h1,h2,h3,h4⟩:=h
 have e1:hi *sz<=s.n *sz:=Nat.mul_le_mul_right _ hh
 refine ⟨?_,?_,?_,λi v hv=>?_⟩
 .rw [List.length_drop,List.length_take,h1,Nat.min_eq_left e1]
  show _=(hi - l) *sz
  rw [Nat.sub_mul]
 .show hi - l<=s.c - l
  omega
 .intro ha
  unfold uv at ha ⊢
  simp only at ha ⊢
  split at ha
  .have:=h3 ha;omega
  .cases hs:s.a with
   |none=>have:=h3 hs;omega
   |some p=>rw [hs] at ha;cases ha
 .rw [List.getElem?_drop] at hv
  have lC:l *sz+i<hi *sz:=by
   have:=(nP.1 hv).1
   rw [List.length_take] at this
   omega
  rw [qgTk,if_pos lC] at hv
  obtain ⟨p,hp,hc⟩:=h4 _ _ hv
  have iq:s.c≠l:=λe=>by
   have:hi<=l:=by omega
   have:=Nat.mul_le_mul_right sz this
   omega
  refine ⟨p.add (l *sz),?_,?_⟩
  .unfold uv
   simp only
   rw [if_neg iq,hp]
   rfl
  .rw [add_add];exact hc
def Gy:List Nat->List Nat
 |[]=>[]
 |a::l=>if a∈Gy l then Gy l else a::Gy l
theorem aI {x:Nat}:∀{l:List Nat},x∈Gy l↔x∈l
 |[]=>Iff.rfl
 |a::l=>by
  unfold Gy
  split
  .rename_i h
   rw [aI,cU]
   exact ⟨.inr,λh'=>h'.elim (λe=>by subst e;exact aI.1 h) id⟩
  .rw [cU,cU,aI]
theorem lK:∀l:List Nat,(Gy l).Nodup
 |[]=>.nil
 |a::l=>by
  unfold Gy
  split
  .exact lK l
  .rename_i h
   exact List.nodup_cons.2 ⟨h,lK l⟩
def En.all (es:List En):En:=⟨Gy (es.flatMap (·.fp)),λw=>∀e∈es,e.P w,λw w' h hp e he=>e.st w w' (λb hb hl=>h b (aI.2 (mV.2 ⟨e,he,hb⟩)) hl) (hp e he),
 λw hp b hb=>(by
  obtain ⟨e,he,rh⟩:=mV.1 (aI.1 hb)
  exact e.lt w (hp e he) b rh),lK _⟩
section
variable {M:Nat->Prop} {w0 w:World} {L D:List En} {bs:List Nat}
structure KF (M:Nat->Prop) (w0 w w':World) (L D:List En):Prop where
 own:∀e:En,e.P w'->(∀b∈e.fp,w.heap.size<=b)->LH M w0 w' (L++[e]) D
 rd:∀e:En,e.P w'->(∀b∈e.fp,w.heap.size<=b)->LH M w0 w' L (D++[e])
theorem LH.fresh (H:LH M w0 w L D) {w':World} (f:bF w w'):KF M w0 w w' L D:=⟨λe h1 h2=>H.push e f h1 h2,λe h1 h2=>H.oe e f h1 λb hb=>.inl (h2 b hb)⟩
theorem LH.ss (H:LH M w0 w L D) {P:Program} {g:FuncId} {args:Array Value} {A K:aD} (hc:Calls P g args w λr w'=>A r w'/\bF w w') (hk:∀r w',A r w'->LH M w0 w' L D->KF M w0 w w' L D->K r w'):fC bs P g args w K:=
 nS (hc.mono λr w' ⟨ha,f⟩=>⟨f,hk r w' ha (H.ot f) (H.fresh f)⟩)
theorem LH.Dm (H:LH M w0 w L D) {P:Program} {g:FuncId} {args:Array Value} {A K:aD} (hc:Calls P g args w λr w'=>A r w'/\bF w w') (hk:∀r w',A r w'->LH M w0 w' L D->KF M w0 w w' L D->K r w'):Calls P g args w K:=
 hc.mono λr w' ⟨ha,f⟩=>hk r w' ha (H.ot f) (H.fresh f)
end
theorem Cq {sz:Nat} {s:Sl} {vs:List Value} {n:Nat} (h:∀b∈bA s,n<=b):∀b∈(En.iQ sz s vs).fp,n<=b:=λb hb=>by
 have:b∈(if vs=[] then [] else bA s):=hb
 split at this
 .cases this
 .exact h b this
section
variable {M:Nat->Prop} {w0 w:World} {L D:List En} {bs:List Nat}
theorem LH.I7 (H:LH M w0 w L D) (i:Nat) {P:Program} {t ty e:TypeId} {z:Value} {sz bytes:Nat} (el:iK P t e z sz bytes) {s src:Sl} {xs news:List Value} {K:Sl->World->Prop}
  (hi:L[i]? =some (.row e sz s xs)) (hr:jJ sz w src news) (h1:∀u∈news,u.oneCell'=true) (hb:(s.n+src.n) *bytes<=140737488355328)
  (hK:∀s' w',LH M w0 w' (L.set i (.row e sz s' (xs++news))) D->K s' w') (jS:∀b∈bs,En.g b∈L:=by simp):
  ∃s' w',(Builtin.append_ #[t,t] ty #[s.v,src.v]).run P w=.ok s'.v w'/\kept bs w w'/\K s' w':=
 H.apk i el (K:=λs' w'=>kept bs w w'/\K s' w') hi hr.2.2 hr.1 h1 hb λs' w' h _ _ hk=>⟨λb eC=>hk b (jS b eC),hK s' w' h⟩
theorem LH.tS (H:LH M w0 w L D) (i:Nat) {P:Program} {t ty e:TypeId} {z:Value} {sz bytes:Nat} (el:iK P t e z sz bytes) {T:TypeId} {s:Sl} {xs:List Value} {news:Array Value} {K:Sl->World->Prop}
  (hi:L[i]? =some (.row e sz s xs)) (hK:∀s' w',LH M w0 w' (L.set i (.row e sz s' (xs++news.toList))) D->K s' w') (hb:(s.n+1) *bytes<=140737488355328) (hl:news.size=sz:=by rfl) (h1:∀u∈news.toList,u.oneCell'=true:=by simp [Value.oneCell']) (jS:∀b∈bs,En.g b∈L:=by simp):
  eV w (.cells news T) λw1=>∃s' w',(Builtin.append_ #[t,t] ty #[s.v,.slice (some (Addr.mk w.heap.size 0 none)) 1 1]).run P w1=.ok s'.v w'/\kept bs w1 w'/\K s' w':=by
 have H1:LH M w0 (w.alloc (.cells news T)) L D:=H.ot (Fr.alloc _ _ _)
 exact H1.I7 i el (src:=⟨some (bD w.heap.size),1,1⟩) (ty:=ty) (K:=K) (news:=news.toList) hi ⟨by simpa using hl,Nat.le_refl _,(Row.made w T 1 1 news.toList).LD⟩ h1 hb hK jS
end
theorem yf {w:World} {e:TypeId} {sz:Nat} {s:Sl} {vs:List Value} (h:aO w e sz s vs) (i:Nat) (hi:i<vs.length) (v:Value):
  ∃p,s.a=some p/\p.block∈bA s/\(w.cell? (p.add i)).isSome=true/\w.frozen? (p.add i)=false/\aO (w.setCell (p.add i) v) e sz s (vs.set i v)/\Fr (·∈bA s) w (w.setCell (p.add i) v):=by
 have hl:=h.len
 rcases h.cases with ⟨rfl,rfl⟩|⟨g,cur,ha,hg,h1,h2,h3,h4⟩
 .simp at hi
 .have hle:s.n *sz<=s.c *sz:=Nat.mul_le_mul_right _ h1
  have me:i<cur.size:=by omega
  have hb:g∈bA s:=by simp [bA,ha]
  refine ⟨⟨g,0,none⟩,ha,hb,?_,frozenAt (p:=⟨g,0,none⟩) hg,?_,Fr.set _ _ _ (by rw [gp];exact hb)⟩
  .rw [cellAt (p:=⟨g,0,none⟩) (v:=cur[i]) hg rfl (by simp [me])];rfl
  .refine ⟨by simpa using h.1,.inr ⟨g,s.c,cur.setIfInBounds i v,?_,Nat.zero_le _,?_,h1,h2,by simpa using h3,?_⟩⟩
   .obtain ⟨a,n,c⟩:=s
    simp only at ha
    subst ha;rfl
   .have:=setAt (p:=⟨g,0,none⟩) (i:=i) (v:=v) hg rfl
    simpa using this
   .rw [Array.toList_setIfInBounds,List.take_set,h4]
section
variable {M:Nat->Prop} {w0 w:World} {L D:List En} {bs:List Nat}
theorem LH.vh (H:LH M w0 w L D) {i:Nat} {e:TypeId} {sz:Nat} {s:Sl} {xs:List Value} (hi:L[i]? =some (.row e sz s xs)) {b:Nat} (hb:En.g b∈L):b∉bA s:=λhm=>by
 obtain ⟨j,hj⟩:=KB.1 hb
 by_cases xP:i=j
 .subst xP
  rw [hi] at hj
  have e1:En.row e sz s xs=En.g b:=Option.some.inj hj
  have e2:(En.row e sz s xs).P=(En.g b).P:=by rw [e1]
  have Jx:(En.g b).P ({w with heap:=Array.replicate (b+1) (.map #[] 0)}):=by show b<_;simp
  rw [<-e2] at Jx
  obtain ⟨cs,f,hc⟩:=(aO.row (show aO ({w with heap:=Array.replicate (b+1) (.map #[] 0)}) e sz s xs from Jx)).Uu b hm
  simp at hc
 .exact oX H.nd hi hj xP b hm (by simp [En.g])
theorem LH.zD (H:LH M w0 w L D) (i a c:Nat) {e:TypeId} {sz:Nat} {s:Sl} {xs:List Value} {v:Value} {p:Addr} {K:World->Prop} (hi:L[i]? =some (.row e sz s xs)) (hp:s.a=some p) (hj:a+c<xs.length)
  (hK:∀w',LH M w0 w' (L.set i (.row e sz s (xs.set (a+c) v))) D->K w') (jS:∀b∈bs,En.g b∈L:=by simp):bR w ((p.add a).add c) v λw1=>kept bs w w1/\K w1:=by
 obtain ⟨q,hq,hqb,x1,x2,x3,x4⟩:=yf (H.get i hi) (a+c) hj v
 rw [hp] at hq
 cases hq
 rw [add_add]
 refine ⟨x1,x2,λb hb=>?_,hK _ (H.CK i (.row e sz s (xs.set (a+c) v)) hi x4 x3 (λb hb=>.inl hb))⟩
 exact x4.gV b (H.own _ (jS b hb)) λhm=>H.vh hi (jS b hb) hm
end
def sV:List Bool->List En->List En
 |true::m,a::l=>a::sV m l
 |false::m,_::l=>sV m l
 |_,_=>[]
theorem py:∀(m:List Bool) (l:List En),(sV m l).Sublist l
 |[],l=>by unfold sV;exact List.nil_sublist _
 |true::m,[]=>by unfold sV;exact List.nil_sublist _
 |false::m,[]=>by unfold sV;exact List.nil_sublist _
 |true::m,a::l=>by unfold sV;exact (py m l).cons_cons a
 |false::m,a::l=>by unfold sV;exact (py m l).cons a
theorem Nl {α β:Type} {f:α->List β} {l m:List α} (h:l.Sublist m):(l.flatMap f).Sublist (m.flatMap f):=by
 induction h with
 |slnil=>exact List.Sublist.refl _
 |cons a _ ih=>rw [qfC];exact ih.trans (List.sublist_append_right _ _)
 |cons_cons a _ ih=>rw [qfC,qfC];exact (List.Sublist.refl _).append ih
theorem LH.sV {M:Nat->Prop} {w0 w:World} {L D:List En} (H:LH M w0 w L D) (m:List Bool):LH M w0 w (sV m L) D:=
 ⟨H.fr,λe he=>H.own e ((py m L).subset he),H.rd,λe he=>H.new e ((py m L).subset he),(Nl (py m L)).nodup H.nd,λe he b hb e' mJ=>H.dj e he b hb e' ((py m L).subset mJ)⟩
theorem Bp {s:Sl} {vs:List Value} {n:Nat} (h:∀b∈bA s,n<=b):∀b∈(En.rd s vs).fp,n<=b:=λb hb=>by
 have:b∈(if vs=[] then [] else bA s):=hb
 split at this
 .cases this
 .exact h b this
theorem nU {M:Nat->Prop} {w0 w:World} {L D:List En} (H:LH M w0 w L D) {i:Nat} {e:En} (hi:L[i]? =some e) (wD:∀(b:Nat),¬e.P ({w with heap:=Array.replicate (b+1) (.map #[] 0)})) {b:Nat} (hb:En.g b∈L):b∉e.fp:=by
 obtain ⟨j,hj⟩:=KB.1 hb
 by_cases xP:i=j
 .subst xP
  rw [hi] at hj
  have e1:e=En.g b:=Option.some.inj hj
  exfalso
  refine wD b ?_
  rw [e1]
  show b<_
  simp
 .intro hm
  exact oX H.nd hi hj xP b hm (by simp [En.g])
end Go.W
