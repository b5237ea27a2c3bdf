import Derived.OrdersHeld
import Derived.OrdersIn
import Derived.RangeFuncLeaves
import Derived.RangeFuncRecord
import Derived.RangeFuncSeq
import Derived.WalkKit
import Derived.Laws.AppendOwn
import Derived.Laws.StructEq
import Derived.KernelRfl
import Derived.Below
import Derived.OwnWalk
import Derived.IntWalk
import Derived.Laws.AppendOwnNone
set_option linter.unusedVariables false
namespace Go.W
open List renaming mem_append->fW,mem_cons->cU,mem_of_getElem?->cZ,getElem?_eq_getElem->gW,getElem?_eq_some_iff->oN,mem_append_right->qmR,mem_flatMap->mY,mem_map->oT,mem_of_mem_take->IA,mem_singleton->Vb,flatMap_append->qfA,flatMap_cons->qfC,mem_iff_getElem?->KF,getElem?_set->qgT,mem_or_eq_of_mem_set->qmO,nodup_append->qnA,mem_cons_of_mem->qmCM,mem_cons_self->qmCS,all_eq_true->qaT,getElem?_take->qgTk,eq_nil_of_length_eq_zero->Va
abbrev Env:=List (Nat×Value)
def Env.get? :Env->Nat->Option Value
 |[],_=>none
 |(k,v)::E,t=>bif Nat.beq k t then some v else Env.get? E t
def Env.val (E:Env):Operand->Option Value
 |.tmp t=>E.get? t
 |.const v=>some v
 |.global g=>some (.pointer (some ⟨g,0,none⟩))
 |.func f=>some (.func (.func f) #[] #[])
def Env.ev (E:Env) (x:Operand):Value:=(E.val x).getD undef
def Env.put (E:Env) (d:Option Nat) (v:Value):Env:=
 match d with
 |some d=>(d,v)::E
 |none=>E
def Env.fT (E:Env) (o:Oper):Bool:=o.op.operands.toList.all λx=>(E.val x).isSome
structure Cx where
 n:Nat
 ds:List Deferred
 ro:Option Nat
instance:CoeHead Cx Nat:=⟨Cx.n⟩
abbrev cx (n:Nat):Cx:=⟨n,[],none⟩
abbrev FW (n:Cx):Fence:={Fence.wide with round:=n.ro}
structure Ag (n:Cx) (a:Act) (E:Env):Prop where
 defers:a.defers=n.ds
 size:a.tmps.size=n.n
 get:∀t v,E.get? t=some v->a.tmps[t]? =some v
theorem Ag.val {n:Cx} {a:Act} {E:Env} (h:Ag n a E) {x:Operand} {v:Value} (hx:E.val x=some v):a.eval x=v:=by
 cases x with
 |tmp t=>have:=h.get t v hx;simp [Act.eval,this]
 |const u=>simpa [Env.val,Act.eval] using hx
 |global g=>simpa [Env.val,Act.eval] using hx
 |func f=>simpa [Env.val,Act.eval] using hx
theorem Ag.ev {n:Cx} {a:Act} {E:Env} (h:Ag n a E) {x:Operand} (hx:(E.val x).isSome=true):a.eval x=E.ev x:=by
 obtain ⟨v,hv⟩:=Option.isSome_iff_exists.1 hx
 rw [h.val hv,Env.ev,hv];rfl
theorem Ag.put {n:Cx} {a:Act} {E:Env} (h:Ag n a E) {d:Option Nat} (v:Value) (hd:∀t,d=some t->t<n.n):Ag n (a.put d v) (E.put d v):=by
 cases d with
 |none=>exact h
 |some t=>
  refine ⟨h.defers,by simp [Act.put,h.size],?_⟩
  intro s u hs
  have ht:t<a.tmps.size:=by rw [h.size];exact hd t rfl
  simp only [Env.put,Env.get?] at hs
  by_cases e:t=s
  .subst e
   simp at hs
   simp [Act.put,ht,hs]
  .have:Nat.beq t s=false:=by rw [<-Bool.not_eq_true,Nat.beq_eq];exact e
   simp only [this,cond_false] at hs
   simpa [Act.put,Array.getElem?_setIfInBounds_ne e] using h.get s u hs
theorem Ag.nil {n:Cx} {a:Act} {E:Env} (h:Ag n a E):Ag n a []:=⟨h.defers,h.size,λ_ _ h=>by simp [Env.get?] at h⟩
theorem Ag.cons {n:Cx} {a:Act} {E F:Env} (h:Ag n a E) {t:Nat} {v:Value} (ht:E.get? t=some v) (hF:Ag n a F):Ag n a ((t,v)::F):=by
 refine ⟨h.defers,h.size,?_⟩
 intro s u hs
 simp only [Env.get?] at hs
 by_cases e:t=s
 .subst e;simp at hs;subst hs;exact h.get _ _ ht
 .have:Nat.beq t s=false:=by rw [<-Bool.not_eq_true,Nat.beq_eq];exact e
  simp only [this,cond_false] at hs
  exact hF.get s u hs
theorem Ag.execOp {n:Cx} {a:Act} {E:Env} (h:Ag n a E) {o:Oper} (hs:∀cs b,o.op≠.select cs b) (hc:E.fT o=true):execOp a.eval o=execOp E.ev o:=
 execOp_congr o hs λx hx=>h.ev (by
  have:=qaT.1 hc x (by simpa using hx)
  exact this)
structure Sl where
 a:Option Addr
 n:Nat
 c:Nat
abbrev Sl.v (s:Sl):Value:=.slice s.a s.n s.c
abbrev aD:=Ending->World->Prop
structure Fv where
 n:Nat
 bs:Array Value
 cs:Array Value
abbrev Fv.v (f:Fv):Value:=.func (.func f.n) f.bs f.cs
def yL (z:Value) (K:Value->Prop):Prop:=
 match z with
 |.int k _=>∃n:Int,K (.int k n)
 |.bool _=>∃b:Bool,K (.bool b)
 |.string _=>∃s:ByteArray,K (.string s)
 |.slice _ _ _=>∃s:Sl,K s.v
 |.pointer _=>∃a:Option Addr,K (.pointer a)
 |.map _=>∃r:Option Nat,K (.map r)
 |_=>∃v:Value,K v
def xZ:List Value->(List Value->Prop)->Prop
 |[],K=>K []
 |z::zs,K=>yL z λv=>xZ zs λvs=>K (v::vs)
def B2 (z:Value) (K:Value->Prop):Prop:=
 match z with
 |.agg cs=>xZ cs.toList λvs=>K (.agg vs.toArray)
 |z=>yL z K
def B3:List Value->(List Value->Prop)->Prop
 |[],K=>K []
 |z::zs,K=>B2 z λv=>B3 zs λvs=>K (v::vs)
def u9 (z:Value) (K:Value->Prop):Prop:=
 match z with
 |.tuple zs=>B3 zs.toList λvs=>K (.tuple vs.toArray)
 |z=>B2 z K
theorem sw {z:Value} {K:Value->Prop} (h:yL z K):∃v,K v:=by
 unfold yL at h
 split at h
 .obtain ⟨n,h⟩:=h;exact ⟨_,h⟩
 .obtain ⟨n,h⟩:=h;exact ⟨_,h⟩
 .obtain ⟨n,h⟩:=h;exact ⟨_,h⟩
 .obtain ⟨n,h⟩:=h;exact ⟨_,h⟩
 .obtain ⟨n,h⟩:=h;exact ⟨_,h⟩
 .obtain ⟨n,h⟩:=h;exact ⟨_,h⟩
 .exact h
theorem q8:∀{zs:List Value} {K:List Value->Prop},xZ zs K->∃vs,vs.length=zs.length/\K vs
 |[],_,h=>⟨[],rfl,h⟩
 |_::_,_,h=>by
  obtain ⟨v,h⟩:=sw h
  obtain ⟨vs,hl,h⟩:=q8 h
  exact ⟨v::vs,by simp [hl],h⟩
theorem xg {z:Value} {K:Value->Prop} (h:B2 z K):∃v,K v:=by
 unfold B2 at h
 split at h
 .obtain ⟨vs,_,h⟩:=q8 h;exact ⟨_,h⟩
 .exact sw h
theorem va:∀{zs:List Value} {K:List Value->Prop},B3 zs K->∃vs,K vs
 |[],_,h=>⟨[],h⟩
 |_::_,_,h=>by
  obtain ⟨v,h⟩:=xg h
  obtain ⟨vs,h⟩:=va h
  exact ⟨v::vs,h⟩
theorem mH {z:Value} {K:Value->Prop} (h:u9 z K):∃v,K v:=by
 unfold u9 at h
 split at h
 .obtain ⟨vs,h⟩:=va h;exact ⟨_,h⟩
 .exact xg h
def hG (b:Bool) (p:Prop):Prop:=match b with |true=>p|false=>False
theorem bY {b:Bool} {p:Prop} (h:hG b p):b=true/\p:=by
 cases b
 .exact h.elim
 .exact ⟨rfl,h⟩
def aF (t:Bool) (A B:Prop):Prop:=match t with |true=>A|false=>B
theorem aZ {t:Bool} {A B:Prop} (h1:t=true->A) (h2:t=false->B):aF t A B:=by
 cases t
 .exact h2 rfl
 .exact h1 rfl
theorem aQ {t:Bool} {A B:Prop} (ht:t=true) (h:A):aF t A B:=by subst ht;exact h
theorem aL {t:Bool} {A B:Prop} (ht:t=false) (h:B):aF t A B:=by subst ht;exact h
def aX (q:Option Addr) (K:Addr->Prop):Prop:=match q with |some p=>K p|none=>False
theorem Bl {q:Option Addr} {K:Addr->Prop} (h:aX q K):∃p,q=some p/\K p:=by
 cases q with
 |none=>exact h.elim
 |some p=>exact ⟨p,rfl,h⟩
def Jd:List Prop->Prop->Prop
 |[],p=>p
 |q::l,p=>q/\Jd l p
theorem pn:∀{l:List Prop} {p:Prop},Jd l p->(∀q∈l,q)/\p
 |[],_,h=>⟨λ_ h=>(by cases h),h⟩
 |_::_,_,h=>⟨λq hq=>by
   rcases cU.1 hq with rfl|hq
   .exact h.1
   .exact (pn h.2).1 q hq,(pn h.2).2⟩
def rr {α:Type} (P:Program):Sem α->Option α
 |.pure a=>some a
 |.program k=>rr P (k P)
 |_=>none
theorem tI {α:Type} {P:Program}:∀{s:Sem α} {a:α},rr P s=some a->∀w,s.run P w=.ok a w
 |.pure _,_,h,w=>by simp [rr] at h;subst h;rfl
 |.program k,_,h,w=>by simp only [rr] at h;exact tI h w
 |.load ..,_,h,_|.store ..,_,h,_|.new ..,_,h,_|.shape ..,_,h,_|.freeze ..,_,h,_|.frozen ..,_,h,_|.getObj ..,_,h,_|.setObj ..,_,h,_
 |.choose ..,_,h,_|.sys ..,_,h,_|.mark ..,_,h,_|.halt ..,_,h,_=>by simp [rr] at h
def zeroOf (P:Program) (t:TypeId):Value:=((P.info? t).bind (·.zero)).getD undef
def calm (P:Program) (o:Oper):Bool:=
 match o.op with
 |.convert s d _=>match P.underlying s,P.underlying d with
  |some (.slice _),some (.slice _)=>false
  |some .string,some (.slice _)=>false
  |_,_=>true
 |.move _|.assign _|.pick ..|.build ..|.load ..|.nilCheck _|.binOp ..|.unOp ..|.makeInterface ..|.makeFunc ..|.slice ..|.fieldAddr ..|.field ..|.indexAddr ..|.index ..
 |.lookup ..|.typeAssert ..|.extract ..=>true
 |.call {callee:=.builtin b,..}=>match b with |.len|.cap|.min|.max=>true|_=>false
 |_=>false
def yr (x:Option Value) (y YK:Nat) (K:Nat->Prop):Prop:=
 match x with
 |none=>K YK
 |some (.int _ i)=>0<=i/\i<=(y:Int)/\K i.toNat
 |_=>False
def FI (P:Program) (T:TypeId):Option Bool:=
 match P.underlying T with
 |some (.struct _)|some (.array _ _)=>some true
 |some _=>some false
 |none=>none
def Hr (P:Program) (T:TypeId):Bool:=
 match zeroOf P T with
 |.agg cs=>FI P T==some true&&(match P.info? T with |some i=>i.size==cs.size|none=>false)
 |_=>FI P T==some false
def At (P:Program) (T:TypeId) (p:Addr) (w:World) (K:Value->List (World->Prop)->Prop):Prop:=
 hG (Hr P T)<|match zeroOf P T with
 |.agg cs=>xZ cs.toList λvs=>Jd (vs.zipIdx.map λ(v,i)=>w.cell? (p.add i)=some v) (K (.agg vs.toArray) (vs.zipIdx.map λ(v,i)=>λw'=>w'.cell? (p.add i)=some v))
 |.nilFunc=>∃f:Fv,w.cell? p=some f.v/\K f.v [λw'=>w'.cell? p=some f.v]
 |z=>yL z λv=>w.cell? p=some v/\K v [λw'=>w'.cell? p=some v]
def iq (P:Program) (o:Oper) (E:Env) (K:Value->List (World->Prop)->Prop):Prop:=
 hG (E.fT o) (match rr P (execOp E.ev o) with |some (.value v)=>K v []|_=>False)
def Tq (z:Value) (K:Value->Prop):Prop:=
 match z with
 |.nilFunc=>∃f:Fv,K f.v
 |z=>u9 z K
theorem Jr {z:Value} {K:Value->Prop} (h:Tq z K):∃v,K v:=by
 unfold Tq at h
 split at h
 .obtain ⟨f,h⟩:=h;exact ⟨_,h⟩
 .exact mH h
def Cs (P:Program) (s:Sem Value) (z:Value) (w:World) (K:Value->List (World->Prop)->Prop):Prop:=
 Tq z λv=>s.run P w=.ok v w/\K v [λw'=>s.run P w'=.ok v w']
def uY (P:Program) (T:TypeId):Option Nat:=
 match P.underlying T with
 |some (.slice e)=>(P.info? e).map (·.size)
 |_=>none
def BJ (P:Program) (T:TypeId):Option (Nat×Nat):=
 match P.underlying T with
 |some (.array n e)=>(P.info? e).map λi=>(n,i.size)
 |_=>none
theorem BK {P:Program} {T:TypeId} {n sz:Nat} (h:BJ P T=some (n,sz)):∃e inf,P.underlying T=some (.array n e)/\P.info? e=some inf/\sz=inf.size:=by
 unfold BJ at h
 split at h
 .rename_i m e hu
  obtain ⟨inf,hi,he⟩:=Option.map_eq_some_iff.1 h
  cases he
  exact ⟨e,inf,hu,hi,rfl⟩
 .cases h
def isConst:Operand->Bool
 |.const _=>true
 |_=>false
def vo (P:Program) (T:TypeId) (c:Value):Bool:=
 match P.underlying T,c with
 |some (.slice _),.slice none _ _=>true
 |some (.pointer _),.pointer none=>true
 |some (.map _ _),.map none=>true
 |_,_=>false
def tH:Option Value->Value->Option Bool
 |some (.slice a _ _),.slice none _ _=>some a.isNone
 |some (.pointer a),.pointer none=>some a.isNone
 |some (.map r),.map none=>some r.isNone
 |_,_=>none
def LU (P:Program) (xs ys:Array Value):List Field->Option Bool
 |[]=>some true
 |f::fs=>bif f.name=="_" then none else match P.underlying f.type,xs[f.offset]?,ys[f.offset]?,LU P xs ys fs with
  |some (.int _),some (.int k a),some (.int k' b),some r=>bif decide (k=k') then some ((a==b)&&r) else none
  |some .string,some (.string a),some (.string b),some r=>some ((a.toList==b.toList)&&r)
  |some .bool,some (.bool a),some (.bool b),some r=>some ((a==b)&&r)
  |_,_,_,_=>none
def K5 (P:Program) (T:TypeId) (xs ys:Array Value):Option Bool:=match P.underlying T with
 |some (.struct fs)=>bif (!P.stoodInHeld T&&!P.eqGuardType P.depth T) then LU P xs ys fs.toList else none
 |_=>none
def Jq (P:Program) (o:Oper) (E:Env) (T:TypeId) (x y:Operand) (neg:Bool) (K:Value->List (World->Prop)->Prop):Prop:=match E.val x,E.val y with
 |some (.agg xs),some (.agg ys)=>match K5 P T xs ys with
  |some b=>K (.bool (bif neg then !b else b)) []
  |none=>False
 |_,_=>iq P o E K
def qk (P:Program) (o:Oper) (E:Env) (w:World) (K:Value->List (World->Prop)->Prop):Prop:=
 match o.op with
 |.load T x=>match E.val x with
  |some (.pointer (some p))=>At P T p w K
  |_=>False
 |.nilCheck x=>match E.val x with
  |some (.pointer q)=>aX q λp=>K (.pointer (some p)) []
  |_=>iq P o E K
 |.indexAddr T x ix=>match E.val x,E.val ix with
  |some (.slice a n _),some (.int _ i)=>match uY P T with
   |some sz=>0<=i/\i<(n:Int)/\aX a λp=>K (.pointer (some (p.add (i.toNat *sz)))) []
   |none=>False
  |some (.pointer (some p)),some (.int _ i)=>match BJ P T with
   |some (n,sz)=>0<=i/\i<(n:Int)/\K (.pointer (some (p.add (i.toNat *sz)))) []
   |none=>False
  |_,_=>iq P o E K
 |.index T x ix=>match P.underlying T,E.val x,E.val ix with
  |some .string,some (.string s),some (.int _ i)=>0<=i/\∃b:UInt8,s[i.toNat]? =some b/\K (.int .u8 b.toNat) []
  |_,_,_=>iq P o E K
 |.slice T x lo hi mx=>hG (E.fT o) (match P.underlying T,E.val x with
  |some (.slice _),some (.slice a n c)=>match uY P T with
   |some sz=>yr (mx.map E.ev) c c λm=>yr (hi.map E.ev) m n λh=>hG (mx.isNone||hi.isSome) (yr (lo.map E.ev) h 0 λl=>
     K (.slice (if m=l then a else a.map (·.add (l *sz))) (h - l) (m - l)) [])
   |none=>False
  |some .string,some (.string s)=>hG mx.isNone (yr (hi.map E.ev) s.size s.size λh=>yr (lo.map E.ev) h 0 λl=>K (.string (s.extract l h)) [])
  |_,_=>False)
 |.binOp .quo _ x y _=>bif isConst y then iq P o E K else match E.val x,E.val y with
  |some (.int k a),some (.int k' b)=>hG (k==k') (b≠0/\K (.int k (k.wrap (a.tdiv b))) [])
  |_,_=>False
 |.binOp .rem _ x y _=>bif isConst y then iq P o E K else match E.val x,E.val y with
  |some (.int k a),some (.int k' b)=>hG (k==k') (b≠0/\K (.int k (a.tmod b)) [])
  |_,_=>False
 |.binOp .eql T x (.const c) _=>bif vo P T c then (match tH (E.val x) c with
  |some b=>K (.bool b) []
  |none=>False) else Jq P o E T x (.const c) false K
 |.binOp .neq T x (.const c) _=>bif vo P T c then (match tH (E.val x) c with
  |some b=>K (.bool !b) []
  |none=>False) else Jq P o E T x (.const c) true K
 |.binOp .eql T x y _=>Jq P o E T x y false K
 |.binOp .neq T x y _=>Jq P o E T x y true K
 |.binOp .add _ x y _=>match E.val x,E.val y with
  |some (.string s),some (.string t)=>¬(((s.size+t.size:Nat):Int)>IntKind.i64.max)/\K (.string (s++t)) []
  |_,_=>iq P o E K
 |.binOp .shl _ x y _=>bif isConst y then iq P o E K else match E.val x,E.val y with
  |some (.int k a),some (.int _ b)=>¬b<0/\K (.int k (k.wrap (a *2^(min b.toNat k.bits)))) []
  |_,_=>False
 |.binOp .shr _ x y _=>bif isConst y then iq P o E K else match E.val x,E.val y with
  |some (.int k a),some (.int _ b)=>¬b<0/\K (.int k (a.fdiv (2^(min b.toNat k.bits)))) []
  |_,_=>False
 |.lookup T x ix ok=>match E.val x,E.val ix with
  |some m,some k=>Cs P (Instr.lookup T m k ok) (zeroOf P o.type) w K
  |_,_=>False
 |.convert s d x=>match P.underlying s,P.underlying d,E.val x with
  |some (.slice _),some .string,some v=>Cs P (convert s d v) (.string (ByteArray.mk #[])) w K
  |_,_,_=>iq P o E K
 |.call {callee:=.builtin .len,args,argTypes}=>match args.toList,argTypes.toList with
  |[x],[T]=>match P.underlying T,E.val x with
   |some (.map _ _),some m=>Cs P (Builtin.len_ #[T] o.type #[m]) (.int .i64 0) w K
   |_,_=>iq P o E K
  |_,_=>iq P o E K
 |_=>iq P o E K
def G9 (p:Addr):List Value->Nat->World->(World->Prop)->Prop
 |[],_,w,K=>K w
 |v::vs,i,w,K=>(w.cell? (p.add i)).isSome=true/\w.frozen? (p.add i)=false/\G9 p vs (i+1) (w.setCell (p.add i) v) K
def wi (P:Program) (o:Oper) (E:Env) (w:World) (K:Value->World->Prop):Prop:=
 hG (E.fT o) (match (execOp E.ev o).run P w with
  |.ok (.value v) w'=>K v w'
  |.ok .skip w'=>K undef w'
  |_=>False)
def LM (P:Program) (s:Sem Value) (z:Value) (w:World) (K:Value->World->Prop):Prop:=
 u9 z λv=>∃w',s.run P w=.ok v w'/\K v w'
def DH (P:Program) (s:Sem Unit) (w:World) (K:Value->World->Prop):Prop:=
 ∃w',s.run P w=.ok () w'/\K undef w'
def fC (P:Program) (f:FuncId):Bool:=match P.funcs[f]? with |some fn=>fn.body.isSome&&!(fn.name=="runtime.NumGoroutine")|none=>false
def HM (P:Program) (f:FuncId) (args:Array Value) (z:Value) (w:World) (K:Value->World->Prop):Prop:=
 u9 z λv=>∃w',(callFunc f args).run P w=.ok (.value v) w'/\K v w'
def tV (P:Program) (f:FuncId) (args:Array Value) (z:Value) (w:World) (K:Value->World->Prop):Prop:=
 Calls P f args w λe w'=>u9 z λv=>e=.returned v/\K v w'
def tg:Value->Bool
 |.agg _=>false
 |.tuple _=>false
 |_=>true
def me (P:Program) (o:Oper) (E:Env) (w:World) (K:Value->World->Prop):Prop:=
 match o.op with
 |.store T x y=>match E.val x,E.val y with
  |some (.pointer (some p)),some v=>hG (v.cells.size==(match P.info? T with |some i=>i.size|none=>0)&&v.cells.toList.all tg&&(P.info? T).isSome) (G9 p v.cells.toList 0 w λw'=>K undef w')
  |_,_=>False
 |.mapUpdate T m k v|.insert T m k v=>match E.val m,E.val k,E.val v with
  |some m,some k,some v=>DH P (Instr.mapUpdate T m k v) w K
  |_,_,_=>False
 |.call {callee:=.builtin b,args,argTypes}=>hG (E.fT o) (match b with
  |.append=>LM P (Builtin.append_ argTypes o.type (args.map E.ev)) (.slice none 0 0) w K
  |.copy=>LM P (Builtin.copy_ argTypes o.type (args.map E.ev)) (.int .i64 0) w K
  |.delete=>∃w',(Builtin.delete_ argTypes o.type (args.map E.ev)).run P w=.ok undef w'/\K undef w'
  |.clear=>∃w',(Builtin.clear_ argTypes o.type (args.map E.ev)).run P w=.ok (.tuple #[]) w'/\K (.tuple #[]) w'
  |_=>False)
 |.call {callee:=.value (.func f),args,..}=>hG (E.fT o) (bif fC P f then tV P f (args.map E.ev) (zeroOf P o.type) w K else HM P f (args.map E.ev) (zeroOf P o.type) w K)
 |.call {callee:=.value (.tmp t),args,..}=>hG (E.fT o) (match E.get? t with
  |some (.func (.func f) first captured)=>hG (fC P f) (tV P f (first++args.map E.ev++captured) (zeroOf P o.type) w K)
  |_=>False)
 |.makeSlice T l c=>match E.val l,E.val c with
  |some l,some c=>LM P (Instr.makeSlice T l c) (.slice none 0 0) w K
  |_,_=>False
 |.range T x=>match E.val x with
  |some x=>∃v w',(Instr.range T x).run P w=.ok v w'/\K v w'
  |_=>False
 |.next it s=>match E.val it with
  |some it=>(∃w',(Instr.next it s o.type).run P w=.ok (.tuple #[.bool false]) w'/\K (.tuple #[.bool false]) w')\/
    (match s with
     |true=>∃(i c:Int) (w':World),(Instr.next it s o.type).run P w=.ok (.tuple #[.bool true,.int .i64 i,.int .i32 c]) w'/\K (.tuple #[.bool true,.int .i64 i,.int .i32 c]) w'
     |false=>∃(x y:Value) (w':World),(Instr.next it s o.type).run P w=.ok (.tuple #[.bool true,x,y]) w'/\K (.tuple #[.bool true,x,y]) w')
  |_=>False
 |.entry it=>match E.val it with
  |some it=>∃(x y:Value) (w':World),(Instr.entry it).run P w=.ok (.tuple #[x,y]) w'/\K (.tuple #[x,y]) w'
  |_=>False
 |.convert s d x=>match E.val x with
  |some v=>LM P (convert s d v) (.slice none 0 0) w K
  |_=>False
 |_=>wi P o E w K
def QA (P:Program) (l:Nat) (args:Array Value) (w:World) (K:Value->World->Prop):Prop:=
 YieldAt Fence.wide 0 P l args w λe w'=>∃b:Bool,e=.returned (.bool b)/\K (.bool b) w'
def we (P:Program) (o:Oper) (E:Env) (w:World) (K:Value->World->Prop):Prop:=
 match o.op with
 |.call {callee:=.value (.tmp t),args,..}=>match E.get? t with
  |some (.func (.yield l) fs cs)=>hG (E.fT o&&(Nat.beq fs.size 0&&Nat.beq cs.size 0)) (QA P l (args.map E.ev) w K)
  |_=>me P o E w K
 |_=>me P o E w K
abbrev bX (w:World) (p:Addr) (v:Value) (K:World->Prop):Prop:=(w.cell? p).isSome=true/\w.frozen? p=false/\K (w.setCell p v)
abbrev fJ (w:World) (o:Obj) (K:World->Prop):Prop:=K (w.alloc o)
abbrev KE (w:World) (l:Nat) (a b:Obj) (K:World->Prop):Prop:=w.heap[l]? =some a/\K (w.putObj l b)
abbrev uU (w:World) (K:World->Prop):Prop:=K w.drew
theorem Bc {P:Program} {T:TypeId} {b:Bool} (h:FI P T=some b) (w:World):(isAgg T).run P w=.ok b w:=by
 unfold FI at h
 unfold isAgg
 cases hu:P.underlying T with
 |none=>rw [hu] at h;cases h
 |some d=>rw [hu] at h;cases d<;>simp [run_underlying hu] at h ⊢<;>first |exact h|simp [<-h]
theorem oO {P:Program} {T:TypeId} {p:Addr} {v:Value} {w:World} (ha:FI P T=some false) (hc:w.cell? p=some v):(loadVar T p).run P w=.ok v w:=by
 simp [loadVar,Bc ha,hc]
theorem rK {P:Program} {T:TypeId} {p:Addr} {vs:List Value} {i:TypeInfo} {w:World} (ha:FI P T=some true) (hi:P.info? T=some i) (hs:i.size=vs.length)
  (hc:∀j v,vs[j]? =some v->w.cell? (p.add j)=some v):(loadVar T p).run P w=.ok (.agg vs.toArray) w:=by
 have:=run_loadCells_list (P:=P) w p vs hc
 simp [loadVar,Bc ha,sizeOf,typeInfo,hi,hs,this]
def Calm (P:Program) (o:Oper) (ρ:Operand->Value) (w:World) (v:Value) (hs:List (World->Prop)):Prop:=
 (∀S∈hs,S w)/\∀w',(∀S∈hs,S w')->(execOp ρ o).run P w'=.ok (.value v) w'
theorem vA {P:Program} {o:Oper} {E:Env} {w:World} {n:Cx} {a:Act} {K:Value->List (World->Prop)->Prop} (hs:∀cs b,o.op≠.select cs b)
  (ha:Ag n a E) (h:iq P o E K):∃v S,K v S/\Calm P o a.eval w v S:=by
 obtain ⟨hc,h⟩:=bY h
 split at h
 .rename_i v hv
  refine ⟨v,[],h,λS hS=>(by cases hS),λw' _=>?_⟩
  rw [ha.execOp hs hc]
  exact tI hv w'
 .exact h.elim
theorem ru {P:Program} {s:Sem Value} {z:Value} {w:World} {K:Value->List (World->Prop)->Prop} {o:Oper} {ρ:Operand->Value} (ho:execOp ρ o=(do pure (.value (<-s))))
  (h:Cs P s z w K):∃v S,K v S/\Calm P o ρ w v S:=by
 obtain ⟨v,hv,hk⟩:=Jr h
 refine ⟨v,_,hk,λS hS=>?_,λw' As=>?_⟩
 .simp at hS;subst hS;exact hv
 .have hr:s.run P w'=.ok v w':=As _ (Vb.2 rfl)
  rw [ho];simp [hr]
theorem oe {P:Program} {x:Option Value} {y d:Nat} {K:Nat->Prop} (h:yr x y d K):∃l,K l/\((x=none/\l=d)\/∃v,x=some v/\∀code w,(Instr.sliceBound v y code).run P w=.ok l w):=by
 unfold yr at h
 split at h
 .exact ⟨d,h,.inl ⟨rfl,rfl⟩⟩
 .rename_i k i
  obtain ⟨h0,h1,h2⟩:=h
  refine ⟨_,h2,.inr ⟨_,rfl,λcode w=>?_⟩⟩
  simp [Instr.sliceBound,asIntOf,h0,h1]
 .exact h.elim
theorem rL {P:Program} {isS:Bool} {n c m h l:Nat} {L H M:Option Value} {w:World}
  (hm:(M=none/\m=c)\/∃v,M=some v/\∀code w,(Instr.sliceBound v c code).run P w=.ok m w)
  (hh:(H=none/\h=n)\/∃v,H=some v/\∀code w,(Instr.sliceBound v m code).run P w=.ok h w)
  (hl:(L=none/\l=0)\/∃v,L=some v/\∀code w,(Instr.sliceBound v h code).run P w=.ok l w)
  (hmh:M≠none->H=none->False):(Instr.sliceBounds isS n c L H M).run P w=.ok (l,h,m) w:=by
 unfold Instr.sliceBounds
 rcases hm with ⟨rfl,rfl⟩|⟨v1,rfl,r1⟩<;>rcases hh with ⟨rfl,rfl⟩|⟨v2,rfl,r2⟩<;>rcases hl with ⟨rfl,rfl⟩|⟨v3,rfl,r3⟩<;>first |(simp [*];done)|(exact (hmh (λh=>by cases h) rfl).elim)
theorem ud {P:Program} {T:TypeId} {p:Addr} {w:World} {K:Value->List (World->Prop)->Prop} (h:At P T p w K):
  ∃v S,K v S/\(∀s∈S,s w)/\∀w',(∀s∈S,s w')->(loadVar T p).run P w'=.ok v w':=by
 obtain ⟨ho,h⟩:=bY h
 unfold Hr at ho
 cases hz:zeroOf P T with
 |agg cs=>
  rw [hz] at h ho
  simp only at h ho
  obtain ⟨vs,hl,h⟩:=q8 h
  obtain ⟨hc,hk⟩:=pn h
  rw [Bool.and_eq_true] at ho
  obtain ⟨ha,hi⟩:=ho
  cases vf:P.info? T with
  |none=>rw [vf] at hi;simp at hi
  |some i=>
   rw [vf] at hi
   simp at hi ha
   refine ⟨_,_,hk,?_,λw' As=>?_⟩
   .intro s hs
    obtain ⟨⟨v,j⟩,hm,rfl⟩:=oT.1 hs
    exact hc _ (oT.2 ⟨(v,j),hm,rfl⟩)
   .refine rK ha vf (by rw [hi,hl];simp) (λj v hj=>?_)
    have:=As _ (oT.2 ⟨(v,j),List.mem_zipIdx_iff_getElem?.2 hj,rfl⟩)
    exact this
 |nilFunc=>
  rw [hz] at h ho
  obtain ⟨f,hc,hk⟩:=h
  simp at ho
  refine ⟨f.v,_,hk,λs hs=>?_,λw' As=>?_⟩
  .simp at hs;subst hs;exact hc
  .exact oO ho (As _ (Vb.2 rfl))
 |_=>
  rw [hz] at h ho
  try simp only at h
  try simp only at ho
  obtain ⟨v,hc,hk⟩:=sw h
  simp at ho
  refine ⟨v,_,hk,λs hs=>?_,λw' As=>?_⟩
  .simp at hs;subst hs;exact hc
  .exact oO ho (As _ (Vb.2 rfl))
theorem tA {P:Program} {T:TypeId} {sz:Nat} (h:uY P T=some sz):∃e i,P.underlying T=some (.slice e)/\P.info? e=some i/\i.size=sz:=by
 unfold uY at h
 split at h
 .rename_i e he
  cases hi:P.info? e with
  |none=>rw [hi] at h;cases h
  |some i=>rw [hi] at h;simp at h;exact ⟨e,i,he,hi,h⟩
 .cases h
theorem qe {v c:Value} {b:Bool} (h:tH (some v) c=some b):(∃a n m n' m',v=.slice a n m/\c=.slice none n' m'/\b=a.isNone)\/(∃a,v=.pointer a/\c=.pointer none/\b=a.isNone)\/(∃r,v=.map r/\c=.map none/\b=r.isNone):=by
 unfold tH at h
 split at h
 .rename_i a n m n' m' hv
  cases hv;cases h
  exact .inl ⟨_,_,_,_,_,rfl,rfl,rfl⟩
 .rename_i a hv
  cases hv;cases h
  exact .inr (.inl ⟨_,rfl,rfl,rfl⟩)
 .rename_i a hv
  cases hv;cases h
  exact .inr (.inr ⟨_,rfl,rfl,rfl⟩)
 .cases h
theorem xm {P:Program} {T:TypeId} {c v:Value} {b:Bool} (hn:vo P T c=true) (hb:tH (some v) c=some b) (w:World):(Op.equal T v c).run P w=.ok b w:=by
 unfold Op.equal Op.maxDepth Op.equalIn
 cases hu:P.underlying T with
 |none=>simp [vo,hu] at hn
 |some d=>
  simp only [Sem.run_bind,run_underlying hu,Result.andThen_ok]
  unfold vo at hn
  rw [hu] at hn
  rcases qe hb with ⟨a,n,m,n',m',rfl,rfl,rfl⟩|⟨a,rfl,rfl,rfl⟩|⟨a,rfl,rfl,rfl⟩<;>cases d<;>first |(cases hn;done)|(cases a<;>rfl)
theorem JW {P:Program} {T:TypeId} {c v:Value} {b:Bool} (hn:vo P T c=true) (hb:tH (some v) c=some b) (w:World):(binOp .eql T v c).run P w=.ok (.bool b) w:=by
 have:=xm hn hb w
 rcases qe hb with ⟨a,n,m,n',m',rfl,rfl,rfl⟩|⟨a,rfl,rfl,rfl⟩|⟨a,rfl,rfl,rfl⟩<;>simp [binOp,this]
theorem GD {P:Program} {T:TypeId} {c v:Value} {b:Bool} (hn:vo P T c=true) (hb:tH (some v) c=some b) (w:World):(binOp .neq T v c).run P w=.ok (.bool !b) w:=by
 have:=xm hn hb w
 rcases qe hb with ⟨a,n,m,n',m',rfl,rfl,rfl⟩|⟨a,rfl,rfl,rfl⟩|⟨a,rfl,rfl,rfl⟩<;>simp [binOp,this]
theorem xo {P:Program} {op:BinOp} {T:TypeId} {c v:Value} {b:Bool} {p q:Operand} (hb:tH (some v) c=some b) (w:World):(eqGuard op T p q v c).run P w=.ok () w:=by
 rcases qe hb with ⟨a,n,m,n',m',rfl,rfl,rfl⟩|⟨a,rfl,rfl,rfl⟩|⟨a,rfl,rfl,rfl⟩<;>cases op<;>rfl
set_option maxHeartbeats 1000000 in
theorem lN {P:Program} {t:TypeId} {u:TypeDesc} (h:P.underlying t=some u) (hu:(match u with |.struct _|.array _ _=>true|_=>false)=false) {xs:Array Value} {off:Nat} {v:Value} (hx:xs[off]? =some v) (w:World):(part t xs off).run P w=.ok v w:=by
 unfold part isAgg
 cases u<;>first |(simp at hu;done)|simp [run_underlying h,hx]
theorem q6 {P:Program} {xs ys:Array Value} (d:Nat) (w:World):∀(fs:List Field) (b:Bool),LU P xs ys fs=some b->(Op.eqFields (d+1) xs ys fs).run P w=.ok b w
 |[],b,h=>by
  simp [LU] at h
  subst h
  rfl
 |f::fs,b,h=>by
  unfold LU at h
  cases hn:(f.name=="_") with
  |true=>rw [hn] at h;cases h
  |false=>
   rw [hn] at h
   simp only [cond_false] at h
   have wu:f.name≠"_":=by simpa using hn
   unfold Op.eqFields
   rw [if_pos wu]
   split at h
   .rename_i k0 k a k' b' r hu hx hy hr
    cases hk:decide (k=k') with
    |false=>rw [hk] at h;cases h
    |true=>
     rw [hk] at h
     have JE:=of_decide_eq_true hk
     subst JE
     simp only [cond_true,Option.some.injEq] at h
     subst h
     have ih:=q6 d w fs r hr
     simp only [Sem.run_bind,lN hu rfl hx w,lN hu rfl hy w,Result.andThen_ok,run_equalIn_int w d f.type k k0 a b' hu]
     cases Gl:(a==b')<;>simp [ih]
   .rename_i a b' r hu hx hy hr
    simp only [Option.some.injEq] at h
    subst h
    have ih:=q6 d w fs r hr
    simp only [Sem.run_bind,lN hu rfl hx w,lN hu rfl hy w,Result.andThen_ok,run_equalIn_string w d f.type a b' hu]
    cases Gl:(a.toList==b'.toList)<;>simp [ih]
   .rename_i a b' r hu hx hy hr
    simp only [Option.some.injEq] at h
    subst h
    have ih:=q6 d w fs r hr
    simp only [Sem.run_bind,lN hu rfl hx w,lN hu rfl hy w,Result.andThen_ok,run_equalIn_bool w d f.type a b' hu]
    cases Gl:(a==b')<;>simp [ih]
   .cases h
theorem Df {P:Program} {T:TypeId} {xs ys:Array Value} {b:Bool} (h:K5 P T xs ys=some b) (w:World):P.eqGuardType P.depth T=false/\(Op.equalIn 10000 T (.agg xs) (.agg ys)).run P w=.ok b w:=by
 unfold K5 at h
 split at h
 .rename_i fs hu
  cases hg:(!P.stoodInHeld T&&!P.eqGuardType P.depth T) with
  |false=>rw [hg] at h;cases h
  |true=>
   rw [hg] at h
   simp only [cond_true] at h
   rw [Bool.and_eq_true] at hg
   have h1:P.stoodInHeld T=false:=by simpa using hg.1
   have h2:P.eqGuardType P.depth T=false:=by simpa using hg.2
   have hf:P.fieldsOf T=fs:=by unfold Program.fieldsOf;rw [hu]
   refine ⟨h2,?_⟩
   rw [run_equalIn_struct w 9999 T xs ys (by rw [hf];exact hu) h1,hf]
   exact q6 9998 w _ _ h
 .cases h
theorem q7 {P:Program} {o:Oper} {E:Env} {w:World} {n:Cx} {a:Act} {K:Value->List (World->Prop)->Prop} {op:BinOp} {T U:TypeId} {x y:Operand} {neg:Bool} (hs:∀cs b,o.op≠.select cs b)
  (ha:Ag n a E) (eN:o.op=.binOp op T x y U) (hb:(op=.eql/\neg=false)\/(op=.neq/\neg=true)) (h:Jq P o E T x y neg K):∃v S,K v S/\Calm P o a.eval w v S:=by
 unfold Jq at h
 split at h
 .rename_i xs ys hx hy
  split at h
  .rename_i b he
   refine ⟨_,_,h,λS hS=>(by cases hS),λw' _=>?_⟩
   obtain ⟨h1,h2⟩:=Df he w'
   have e1:execOp a.eval o=(do pure (.value (<-(do eqGuard op T x y (.agg xs) (.agg ys);binOp op T (.agg xs) (.agg ys))))):=by
    simp only [execOp,eN,ha.val hx,ha.val hy]
   rw [e1]
   rcases hb with ⟨rfl,rfl⟩|⟨rfl,rfl⟩
   .simp only [Sem.run_bind,run_eqGuard_agg w' _ T x y xs ys h1,Result.andThen_ok,run_eql_struct,h2]
    rfl
   .simp only [Sem.run_bind,run_eqGuard_agg w' _ T x y xs ys h1,Result.andThen_ok,run_neq_struct,h2]
    rfl
  .exact h.elim
 .exact vA hs ha h
theorem oX {P:Program} {o:Oper} {E:Env} {w:World} {n:Cx} {a:Act} {K:Value->List (World->Prop)->Prop} (hs:∀cs b,o.op≠.select cs b)
  (ha:Ag n a E) (h:qk P o E w K):∃v S,K v S/\Calm P o a.eval w v S:=by
 have pure':iq P o E K->∃v S,K v S/\Calm P o a.eval w v S:=vA hs ha
 unfold qk at h
 split at h
 .
  rename_i T x eN
  split at h
  .rename_i p hx
   obtain ⟨v,S,hk,h1,h2⟩:=ud h
   refine ⟨v,S,hk,h1,λw' As=>?_⟩
   simp [execOp,eN,Instr.loadAt,ha.val hx,Instr.sureAddr,h2 w' As]
  .exact h.elim
 .
  rename_i x eN
  split at h
  .rename_i q hx
   obtain ⟨p,rfl,hk⟩:=Bl h
   refine ⟨_,_,hk,λS hS=>(by cases hS),λw' _=>?_⟩
   simp [execOp,eN,ha.val hx]
  .exact pure' h
 .
  rename_i T x ix eN
  split at h
  .rename_i b n c k i hx hi
   split at h
   .rename_i sz l8
    obtain ⟨h0,h1,h⟩:=h
    obtain ⟨p,rfl,hk⟩:=Bl h
    obtain ⟨e,inf,hu,vf,rfl⟩:=tA l8
    refine ⟨_,_,hk,λS hS=>(by cases hS),λw' _=>?_⟩
    simp [execOp,eN,ha.val hx,ha.val hi,Instr.indexAt,asIntOf,run_underlying hu,h0,h1,sizeOf,typeInfo,vf]
   .exact h.elim
  .rename_i p k i hx hi
   split at h
   .rename_i n sz l8
    obtain ⟨h0,h1,hk⟩:=h
    obtain ⟨e,inf,hu,vf,rfl⟩:=BK l8
    refine ⟨_,_,hk,λS hS=>(by cases hS),λw' _=>?_⟩
    simp [execOp,eN,ha.val hx,ha.val hi,Instr.indexAt,Instr.sureAddr,asIntOf,run_underlying hu,h0,h1,sizeOf,typeInfo,vf]
   .exact h.elim
  .exact pure' h
 .
  rename_i T x ix eN
  split at h
  .rename_i s k i hu hx hi
   obtain ⟨h0,b,hb,hk⟩:=h
   refine ⟨_,_,hk,λS hS=>(by cases hS),λw' _=>?_⟩
   simp [execOp,eN,ha.val hx,ha.val hi,Instr.index,asIntOf,run_underlying hu,h0,hb]
  .exact pure' h
 .
  rename_i T x lo hi mx eN
  obtain ⟨Zh,h⟩:=bY h
  have Mi:∀y∈o.op.operands,(E.val y).isSome=true:=λy hy=>qaT.1 Zh y (by simpa using hy)
  have rT:lo.map a.eval=lo.map E.ev:=by
   cases lo with
   |none=>rfl
   |some y=>simp only [Option.map_some];rw [ha.ev (Mi y (by rw [eN];simp [Op.operands]))]
  have O2:hi.map a.eval=hi.map E.ev:=by
   cases hi with
   |none=>rfl
   |some y=>simp only [Option.map_some];rw [ha.ev (Mi y (by rw [eN];simp [Op.operands]))]
  have hmx:mx.map a.eval=mx.map E.ev:=by
   cases mx with
   |none=>rfl
   |some y=>simp only [Option.map_some];rw [ha.ev (Mi y (by rw [eN];simp [Op.operands]))]
  split at h
  .rename_i e b n c hu hx
   split at h
   .rename_i sz l8
    obtain ⟨m,h,hm⟩:=oe (P:=P) h
    obtain ⟨hh,h,Zs⟩:=oe (P:=P) h
    obtain ⟨hmh,h⟩:=bY h
    obtain ⟨l,hk,hl⟩:=oe (P:=P) h
    obtain ⟨e',inf,hu',vf,rfl⟩:=tA l8
    rw [hu'] at hu
    cases hu
    refine ⟨_,_,hk,λS hS=>(by cases hS),λw' _=>?_⟩
    have JL:(Instr.sliceBounds true n c (lo.map E.ev) (hi.map E.ev) (mx.map E.ev)).run P w'=.ok (l,hh,m) w':=by
     refine rL hm Zs hl ?_
     intro h1 h2
     cases mx<;>cases hi<;>simp_all
    simp only [execOp,eN,ha.val hx,rT,O2,hmx]
    simp [Instr.sliceAt,run_underlying hu',Instr.slice,JL,sizeOf,typeInfo,vf]
   .exact h.elim
  .rename_i s hu hx
   obtain ⟨hmn,h'⟩:=bY h
   clear h
   have Zy:mx=none:=by simpa using hmn
   subst Zy
   obtain ⟨hh,h,Zs⟩:=oe (P:=P) h'
   obtain ⟨l,hk,hl⟩:=oe (P:=P) h
   refine ⟨_,_,hk,λS hS=>(by cases hS),λw' _=>?_⟩
   have JL:(Instr.sliceBounds false s.size s.size (lo.map E.ev) (hi.map E.ev) none).run P w'=.ok (l,hh,s.size) w':=by
    exact rL (.inl ⟨rfl,rfl⟩) Zs hl (λh1 _=>absurd rfl h1)
   simp only [execOp,eN,ha.val hx,rT,O2]
   simp [Instr.sliceAt,run_underlying hu,Instr.slice,JL]
  .exact h.elim
 .
  rename_i T x y U eN
  cases hc:isConst y with
  |true=>rw [hc] at h;exact pure' h
  |false=>
   rw [hc] at h
   simp only [cond_false] at h
   split at h
   .rename_i k i k' j hx hy
    obtain ⟨TH,hj,hk⟩:=bY h
    have TI:k=k':=by simpa using TH
    subst TI
    refine ⟨_,_,hk,λS hS=>(by cases hS),λw' _=>?_⟩
    simp [execOp,eN,ha.val hx,ha.val hy,eqGuard,binOp,Op.intDiv,hj]
   .exact h.elim
 .
  rename_i T x y U eN
  cases hc:isConst y with
  |true=>rw [hc] at h;exact pure' h
  |false=>
   rw [hc] at h
   simp only [cond_false] at h
   split at h
   .rename_i k i k' j hx hy
    obtain ⟨TH,hj,hk⟩:=bY h
    have TI:k=k':=by simpa using TH
    subst TI
    refine ⟨_,_,hk,λS hS=>(by cases hS),λw' _=>?_⟩
    simp [execOp,eN,ha.val hx,ha.val hy,eqGuard,binOp,Op.intDiv,hj]
   .exact h.elim
 .
  rename_i T x c U eN
  cases hn:vo P T c with
  |false=>rw [hn] at h;exact q7 hs ha eN (.inl ⟨rfl,rfl⟩) h
  |true=>
   rw [hn] at h
   simp only [cond_true] at h
   split at h
   .rename_i b hb
    refine ⟨_,_,h,λS hS=>(by cases hS),λw' _=>?_⟩
    cases hx:E.val x with
    |none=>rw [hx] at hb;simp [tH] at hb
    |some v=>
     rw [hx] at hb
     have e1:execOp a.eval o=(do pure (.value (<-(do eqGuard .eql T x (.const c) v c;binOp .eql T v c)))):=by
      simp only [execOp,eN,ha.val hx];rfl
     rw [e1]
     simp [xo hb w',JW hn hb w']
   .exact h.elim
 .
  rename_i T x c U eN
  cases hn:vo P T c with
  |false=>rw [hn] at h;exact q7 hs ha eN (.inr ⟨rfl,rfl⟩) h
  |true=>
   rw [hn] at h
   simp only [cond_true] at h
   split at h
   .rename_i b hb
    refine ⟨_,_,h,λS hS=>(by cases hS),λw' _=>?_⟩
    cases hx:E.val x with
    |none=>rw [hx] at hb;simp [tH] at hb
    |some v=>
     rw [hx] at hb
     have e1:execOp a.eval o=(do pure (.value (<-(do eqGuard .neq T x (.const c) v c;binOp .neq T v c)))):=by
      simp only [execOp,eN,ha.val hx];rfl
     rw [e1]
     simp [xo hb w',GD hn hb w']
   .exact h.elim
 .
  rename_i T x y U _ eN
  exact q7 hs ha eN (.inl ⟨rfl,rfl⟩) h
 .rename_i T x y U _ eN
  exact q7 hs ha eN (.inr ⟨rfl,rfl⟩) h
 .
  rename_i T x y U eN
  split at h
  .rename_i s t hx hy
   obtain ⟨h0,hk⟩:=h
   refine ⟨_,_,hk,λS hS=>(by cases hS),λw' _=>?_⟩
   have e1:execOp a.eval o=(do pure (.value (<-(do eqGuard .add T x y (.string s) (.string t);binOp .add T (.string s) (.string t))))):=by
    simp only [execOp,eN,ha.val hx,ha.val hy]
   rw [e1]
   simp only [eqGuard,binOp,Op.stringOp,h0]
   rfl
  .exact pure' h
 .
  rename_i T x y U eN
  cases hc:isConst y with
  |true=>rw [hc] at h;exact pure' h
  |false=>
   rw [hc] at h
   simp only [cond_false] at h
   split at h
   .rename_i k i k' j hx hy
    obtain ⟨hj,hk⟩:=h
    refine ⟨_,_,hk,λS hS=>(by cases hS),λw' _=>?_⟩
    simp [execOp,eN,ha.val hx,ha.val hy,eqGuard,binOp,Op.shift,hj]
   .exact h.elim
 .
  rename_i T x y U eN
  cases hc:isConst y with
  |true=>rw [hc] at h;exact pure' h
  |false=>
   rw [hc] at h
   simp only [cond_false] at h
   split at h
   .rename_i k i k' j hx hy
    obtain ⟨hj,hk⟩:=h
    refine ⟨_,_,hk,λS hS=>(by cases hS),λw' _=>?_⟩
    simp [execOp,eN,ha.val hx,ha.val hy,eqGuard,binOp,Op.shift,hj]
   .exact h.elim
 .
  rename_i T x ix ok eN
  split at h
  .rename_i m k hx hi
   exact ru (by simp [execOp,eN,ha.val hx,ha.val hi]) h
  .exact h.elim
 .
  rename_i s d x eN
  split at h
  .rename_i e v hsu hdu hx
   exact ru (by simp [execOp,eN,ha.val hx]) h
  .exact pure' h
 .
  rename_i args Si eN
  split at h
  .rename_i x T hx hT
   split at h
   .rename_i kt et m hu hm
    refine ru ?_ h
    have e1:args=#[x]:=by rw [<-Array.toArray_toList (xs:=args),hx]
    have e2:Si=#[T]:=by rw [<-Array.toArray_toList (xs:=Si),hT]
    simp [execOp,eN,e1,e2,resolve,invoke,builtin,ha.val hm]
   .exact pure' h
  .exact pure' h
 .exact pure' h
theorem zx {P:Program} {p:Addr}:∀{vs:List Value} {i:Nat} {w:World} {K:World->Prop},vs.all tg=true->G9 p vs i w K->
  ∃w',(storeCells p vs i).run P w=.ok () w'/\K w'
 |[],i,w,K,_,h=>⟨w,by simp [storeCells],h⟩
 |v::vs,i,w,K,h1,h=>by
  obtain ⟨hc,hf,h⟩:=h
  rw [List.all_cons,Bool.and_eq_true] at h1
  obtain ⟨w',hr,hk⟩:=zx (P:=P) h1.2 h
  refine ⟨w',?_,hk⟩
  obtain ⟨u,hu⟩:=Option.isSome_iff_exists.1 hc
  have Fw:(store (p.add i) v).run P w=.ok () (w.setCell (p.add i) v):=by
   have h0:=h1.1
   cases v<;>first |(simp [tg] at h0;done)|simp [store,Sem.run,hu,hf]
  simp [storeCells,Fw,hr]
theorem l9 {P:Program} {f:FuncId} (h:fC P f=true) (args:Array Value) (w:World):(callFunc f args).run P w=.ok (.enter f args) w:=by
 unfold fC at h
 cases hf:P.funcs[f]? with
 |none=>rw [hf] at h;cases h
 |some fn=>
  rw [hf] at h
  simp at h
  obtain ⟨h1,h2⟩:=h
  have h3:fn.body≠none:=by intro hb;rw [hb] at h1;cases h1
  simp [callFunc,hf,h2,h3]
theorem Ag.args {n:Cx} {a:Act} {E:Env} (h:Ag n a E) {args:Array Operand} (hc:∀x∈args,(E.val x).isSome=true):args.map a.eval=args.map E.ev:=
 Array.map_congr_left λx hx=>h.ev (hc x hx)
def rZ (P:Program) (o:Oper) (a:Act) (w:World) (K:Value->World->Prop):Prop:=
 ∀Q:Exit->Act->World->Prop,o.wp P a w (λa' w'=>∃v,a'=a.put o.dst v/\K v w') Q
theorem uP {P:Program} {f:FuncId} {args:Array Value} {z:Value} {w:World} {K:Value->World->Prop} {o:Oper} {a:Act}
  (lI:(execOp a.eval o).run P w=.ok (.enter f args) w) (h:tV P f args z w K):rZ P o a w K:=by
 intro Q
 unfold Oper.wp
 rw [lI]
 simp only [Oper.upon]
 refine Calls.mono h λe w' he=>?_
 obtain ⟨v,rfl,hk⟩:=mH he
 exact ⟨v,rfl,hk⟩
theorem qZ {P:Program} {s:Sem Value} {z:Value} {w:World} {K:Value->World->Prop} {o:Oper} {a:Act}
  (lI:execOp a.eval o=(do pure (.value (<-s)))) (h:LM P s z w K):rZ P o a w K:=by
 intro Q
 obtain ⟨v,w',hr,hk⟩:=mH h
 unfold Oper.wp
 rw [lI]
 simp only [Sem.run_bind,hr,Result.andThen_ok,Sem.run_pure,Oper.upon]
 exact ⟨v,rfl,hk⟩
set_option maxHeartbeats 1000000 in
theorem ib {P:Program} {o:Oper} {E:Env} {w:World} {n:Cx} {a:Act} {K:Value->World->Prop} (hs:∀cs b,o.op≠.select cs b)
  (ha:Ag n a E) (h:me P o E w K):rZ P o a w K:=by
 unfold me at h
 split at h
 .
  rename_i T x y eN
  split at h
  .rename_i p v hx hy
   obtain ⟨hb,h⟩:=bY h
   rw [Bool.and_eq_true,Bool.and_eq_true] at hb
   obtain ⟨⟨Kz,yU⟩,Zc⟩:=hb
   obtain ⟨i,hi⟩:=Option.isSome_iff_exists.1 Zc
   rw [hi] at Kz
   have Zb:v.cells.size=i.size:=by simpa using Kz
   obtain ⟨w',hr,hk⟩:=zx (P:=P) yU h
   intro Q
   unfold Oper.wp
   have:(execOp a.eval o).run P w=.ok .skip w':=by
    simp [execOp,eN,Instr.storeAt,ha.val hx,ha.val hy,Instr.sureAddr,storeVar,sizeOf,typeInfo,hi,Zb,hr]
   rw [this]
   simp only [Oper.upon]
   exact ⟨_,rfl,hk⟩
  .exact h.elim
 .
  rename_i T m k v eN
  split at h
  .rename_i mv kv vv hm hk hv
   obtain ⟨w',hr,hK⟩:=h
   intro Q
   unfold Oper.wp
   have:(execOp a.eval o).run P w=.ok .skip w':=by simp [execOp,eN,ha.val hm,ha.val hk,ha.val hv,hr]
   rw [this]
   simp only [Oper.upon]
   exact ⟨_,rfl,hK⟩
  .exact h.elim
 .
  rename_i T m k v eN
  split at h
  .rename_i mv kv vv hm hk hv
   obtain ⟨w',hr,hK⟩:=h
   intro Q
   unfold Oper.wp
   have:(execOp a.eval o).run P w=.ok .skip w':=by simp [execOp,eN,ha.val hm,ha.val hk,ha.val hv,hr]
   rw [this]
   simp only [Oper.upon]
   exact ⟨_,rfl,hK⟩
  .exact h.elim
 .
  rename_i b args Si eN
  obtain ⟨hc,h⟩:=bY h
  have hargs:args.map a.eval=args.map E.ev:=ha.args λx hx=>qaT.1 hc x (by rw [eN];simp [Op.operands,Call.operands,hx])
  split at h
  .exact qZ (by simp [execOp,eN,resolve,invoke,builtin,hargs]) h
  .exact qZ (by simp [execOp,eN,resolve,invoke,builtin,hargs]) h
  .obtain ⟨w',hr,hk⟩:=h
   intro Q
   unfold Oper.wp
   have:(execOp a.eval o).run P w=.ok (.value undef) w':=by simp [execOp,eN,resolve,invoke,builtin,hargs,hr]
   rw [this]
   simp only [Oper.upon]
   exact ⟨_,rfl,hk⟩
  .obtain ⟨w',hr,hk⟩:=h
   intro Q
   unfold Oper.wp
   have:(execOp a.eval o).run P w=.ok (.value (.tuple #[])) w':=by simp [execOp,eN,resolve,invoke,builtin,hargs,hr]
   rw [this]
   simp only [Oper.upon]
   exact ⟨_,rfl,hk⟩
  .exact h.elim
 .
  rename_i f args Si eN
  obtain ⟨hc,h⟩:=bY h
  have hargs:args.map a.eval=args.map E.ev:=ha.args λx hx=>qaT.1 hc x (by rw [eN];simp [Op.operands,Call.operands,hx])
  cases A6:fC P f with
  |true=>
   rw [A6] at h
   refine uP ?_ h
   simp [execOp,eN,resolve,Act.eval,Deferred.ofValue,invoke,hargs,l9 A6]
  |false=>
   rw [A6,cond_false] at h
   unfold HM at h
   obtain ⟨v,w',hr,hk⟩:=mH h
   intro Q
   unfold Oper.wp
   have:(execOp a.eval o).run P w=.ok (.value v) w':=by simp [execOp,eN,resolve,Act.eval,Deferred.ofValue,invoke,hargs,hr]
   rw [this]
   simp only [Oper.upon]
   exact ⟨_,rfl,hk⟩
 .
  rename_i t args Si eN
  obtain ⟨hc,h⟩:=bY h
  have hargs:args.map a.eval=args.map E.ev:=ha.args λx hx=>qaT.1 hc x (by rw [eN];simp [Op.operands,Call.operands,hx])
  split at h
  .rename_i f first captured hf
   obtain ⟨A6,h⟩:=bY h
   have O1:a.eval (.tmp t)=.func (.func f) first captured:=ha.val (x:=.tmp t) hf
   refine uP ?_ h
   simp [execOp,eN,resolve,O1,Deferred.ofValue,invoke,hargs,l9 A6]
  .exact h.elim
 .
  rename_i T l c eN
  split at h
  .rename_i lv cv hl hc
   exact qZ (by simp [execOp,eN,ha.val hl,ha.val hc]) h
  .exact h.elim
 .
  rename_i T x eN
  split at h
  .rename_i xv hx
   obtain ⟨v,w',hr,hk⟩:=h
   intro Q
   unfold Oper.wp
   have:(execOp a.eval o).run P w=.ok (.value v) w':=by simp [execOp,eN,ha.val hx,hr]
   rw [this]
   simp only [Oper.upon]
   exact ⟨_,rfl,hk⟩
  .exact h.elim
 .
  rename_i it s eN
  split at h
  .rename_i iv hi
   have fin:∀(v:Value) (w':World),(Instr.next iv s o.type).run P w=.ok v w'->K v w'->rZ P o a w K:=λv w' hr hk Q=>by
    unfold Oper.wp
    have:(execOp a.eval o).run P w=.ok (.value v) w':=by simp [execOp,eN,ha.val hi,hr]
    rw [this]
    simp only [Oper.upon]
    exact ⟨_,rfl,hk⟩
   rcases h with ⟨w',hr,hk⟩|h
   .exact fin _ _ hr hk
   .split at h
    .obtain ⟨i,c,w',hr,hk⟩:=h;exact fin _ _ hr hk
    .obtain ⟨i,c,w',hr,hk⟩:=h;exact fin _ _ hr hk
  .exact h.elim
 .
  rename_i it eN
  split at h
  .rename_i iv hi
   obtain ⟨x,y,w',hr,hk⟩:=h
   intro Q
   unfold Oper.wp
   have:(execOp a.eval o).run P w=.ok (.value (.tuple #[x,y])) w':=by simp [execOp,eN,ha.val hi,hr]
   rw [this]
   simp only [Oper.upon]
   exact ⟨_,rfl,hk⟩
  .exact h.elim
 .
  rename_i s d x eN
  split at h
  .rename_i v hx
   exact qZ (by simp [execOp,eN,ha.val hx]) h
  .exact h.elim
 .
  obtain ⟨hc,h⟩:=bY h
  intro Q
  unfold Oper.wp
  rw [ha.execOp hs hc]
  generalize (execOp E.ev o).run P w=r at h
  split at h
  .simp only [Oper.upon];exact ⟨_,rfl,h⟩
  .simp only [Oper.upon];exact ⟨_,rfl,h⟩
  .exact h.elim
def BC (P:Program) (n:Cx) (o:Oper) (a:Act) (w:World) (K:Value->World->Prop):Prop:=
 ∀Q:Exit->Act->World->Prop,o.wpIn (FW n) 0 P a w (λa' w'=>∃v,a'=a.put o.dst v/\K v w') Q
theorem yC {n:Cx} {P:Program} {f:FuncId} {args:Array Value} {w:World} {R:Ending->World->Prop} (h:Calls P f args w R):CallsIn (FW n) 0 P f args w R:=by
 have h1:CallsIn Fence.wide 0 P f args w R:=callsIn_wide.2 h
 obtain ⟨n,ds,ro⟩:=n
 cases ro with
 |none=>exact h1
 |some l=>exact h1
theorem J8 {n:Cx} {P:Program} {row:String} {args:Array Value} {w:World} {R:Value->World->Prop} (h:Rows P row args w R):RowsIn (FW n) 0 P row args w R:=by
 intro c cs _
 obtain ⟨v,w',hr,hs⟩:=h c cs
 refine ⟨v,w',hr,?_⟩
 have:=stepsIn_wide.2 hs
 obtain ⟨n,ds,ro⟩:=n
 cases ro with
 |none=>exact this
 |some l=>exact this
theorem GY {n:Cx} {P:Program} {l:Nat} {f:FuncId} {tmps:Array Value} {assign body:Code} {w:World} {R:Ending->World->Prop} (h:RoundIn Fence.wide 0 P l f tmps assign body w R):RoundIn (FW n) 0 P l f tmps assign body w R:=by
 obtain ⟨n,ds,ro⟩:=n
 cases ro with
 |none=>exact h
 |some l=>exact h
theorem Sm {P:Program} {n:Cx} {o:Oper} {a:Act} {w:World} {K:Act->World->Prop} {Q:Exit->Act->World->Prop} (hd:∀c,o.op≠.defer c) (h:o.wp P a w K Q):o.wpIn (FW n) 0 P a w K Q:=by
 refine ⟨λ_ _=>trivial,?_⟩
 rw [Oper.semAt_eq _ _ _ hd]
 unfold Oper.wp at h
 generalize (execOp a.eval o).run P w=r at *
 cases r with
 |ok nx w'=>
  cases nx<;>simp only [Oper.upon,Oper.uponIn] at h ⊢
  case value=>exact h
  case skip=>exact h
  case defer=>exact h
  case enter f args=>exact ⟨λh=>(by cases h),yC h⟩
  case row row args=>exact ⟨λh=>(by cases h),J8 h⟩
 |halt x w'=>
  cases x<;>simp only [Oper.upon,Oper.uponIn] at h ⊢
  exact h
theorem rZ.in {P:Program} {n:Cx} {o:Oper} {a:Act} {w:World} {K:Value->World->Prop} (hd:∀c,o.op≠.defer c) (h:rZ P o a w K):BC P n o a w K:=λQ=>Sm hd (h Q)
theorem uV {P:Program} {o:Oper} {E:Env} {w:World} {n:Cx} {a:Act} {K:Value->World->Prop} (hs:∀cs b,o.op≠.select cs b) (hd:∀c,o.op≠.defer c)
  (ha:Ag n a E) (h:we P o E w K):BC P n o a w K:=by
 unfold we at h
 split at h
 .rename_i t args Si eN
  split at h
  .rename_i l fs cs hf
   obtain ⟨hb,hyv⟩:=bY h
   clear h
   simp only [Bool.and_eq_true,Nat.beq_eq] at hb
   obtain ⟨hc,h1,h2⟩:=hb
   have e1:fs=#[]:=Array.eq_empty_of_size_eq_zero h1
   have e2:cs=#[]:=Array.eq_empty_of_size_eq_zero h2
   subst e1 e2
   have hargs:args.map a.eval=args.map E.ev:=ha.args λx hx=>qaT.1 hc x (by rw [eN];simp [Op.operands,Call.operands,hx])
   have O1:a.eval (.tmp t)=.func (.yield l) #[] #[]:=ha.val (x:=.tmp t) hf
   intro Q
   obtain ⟨fn,tmps,assign,body,hy,hR⟩:=hyv
   refine ⟨λ_ _=>trivial,?_⟩
   rw [Oper.semAt_eq _ _ _ hd]
   have:(execOp a.eval o).run P w=.ok (.round l fn tmps assign body) w:=by
    simp [execOp,eN,resolve,O1,Deferred.ofValue,invoke,hargs,hy]
   rw [this,Oper.uponIn_round]
   refine ⟨λh=>(by cases h),GY (hR.mono ?_)⟩
   rintro e w' ⟨b,rfl,hk⟩
   exact ⟨_,rfl,hk⟩
  .exact (ib hs ha h).in hd
 .exact (ib hs ha h).in hd
def MY (ops:Array Oper) (i j:Nat):Bool:=match ops[j]? with |some o=>o.after.toList.any λe=>Nat.beq e.on i&&Region.binds .any e|none=>false
def PG (ops:Array Oper):Nat->Nat->Nat->Bool
 |0,i,j=>MY ops i j
 |f+1,i,j=>bif MY ops i j then true else match ops[j]? with |some o=>o.after.toList.any λe=>bif Region.binds .any e then PG ops f i e.on else false|none=>false
def rW (ops:Array Oper) (i j:Nat):Bool:=PG ops 4 i j
def Down (ops:Array Oper) (listed:Array Bool):Prop:=∀(k:Nat) (o:Oper),ops[k]? =some o->listed.getD k false=true->∀e∈o.after,Region.binds .any e=true->listed.getD e.on false=true
theorem Down.zero (ops:Array Oper) (n:Nat):Down ops (Array.replicate n false):=λk o _ hk=>by
 exfalso
 by_cases h:k<n
 .simp [h] at hk
 .simp [h] at hk
theorem Down.set {ops:Array Oper} {listed:Array Bool} (hd:Down ops listed) {i:Nat} (hi:i∈Region.ready .any ops listed):Down ops (listed.setIfInBounds i true):=λk o ho hk e he hb=>by
 obtain ⟨_,oi,hoi,hall⟩:=mem_ready.1 hi
 by_cases O3:i=k
 .subst O3
  rw [hoi] at ho
  cases ho
  exact getD_set_true (hall e he hb)
 .rw [getD_set_ne false O3] at hk
  exact getD_set_true (hd k o ho hk e he hb)
theorem xq {ops:Array Oper} {listed:Array Bool} {i j:Nat} (hall:∀o,ops[j]? =some o->∀e∈o.after,Region.binds .any e=true->listed.getD e.on false=true) (h:MY ops i j=true):listed.getD i false=true:=by
 unfold MY at h
 cases ho:ops[j]? with
 |none=>rw [ho] at h;cases h
 |some o=>
  rw [ho] at h
  obtain ⟨e,he,Rb⟩:=List.any_eq_true.1 h
  rw [Bool.and_eq_true] at Rb
  have hei:e.on=i:=by have:=Rb.1;rwa [Nat.beq_eq] at this
  have:=hall o ho e (by simpa using he) Rb.2
  rwa [hei] at this
theorem xr {ops:Array Oper} {listed:Array Bool} (hd:Down ops listed) {i:Nat}:∀(f j:Nat),(∀o,ops[j]? =some o->∀e∈o.after,Region.binds .any e=true->listed.getD e.on false=true)->PG ops f i j=true->listed.getD i false=true
 |0,j,hall,h=>xq hall h
 |f+1,j,hall,h=>by
  unfold PG at h
  cases hdi:MY ops i j with
  |true=>exact xq hall hdi
  |false=>
   rw [hdi] at h
   cases ho:ops[j]? with
   |none=>rw [ho] at h;cases h
   |some o=>
    rw [ho] at h
    obtain ⟨e,he,Rb⟩:=List.any_eq_true.1 h
    cases hb:Region.binds .any e with
    |false=>rw [hb] at Rb;cases Rb
    |true=>
     rw [hb] at Rb
     have hl:=hall o ho e (by simpa using he) hb
     exact xr hd f e.on (λo' XL e' mI eD=>hd e.on o' XL hl e' mI eD) Rb
abbrev lT:=List (Nat×(World->Prop))
def heldBy (ops:Array Oper) (j:Nat) (w:World):lT->List Prop
 |[]=>[]
 |(i,S)::H=>bif rW ops i j then heldBy ops j w H else S w::heldBy ops j w H
def eR (ops:Array Oper) (j:Nat):lT->lT
 |[]=>[]
 |(i,S)::H=>bif rW ops i j then eR ops j H else (i,S)::eR ops j H
theorem wo {ops:Array Oper} {j:Nat} {w:World}:∀{H:lT} {p:Nat×(World->Prop)},p∈H->rW ops p.1 j=false->p.2 w∈heldBy ops j w H
 |(i,S)::H,p,h,ho=>by
  unfold heldBy
  rcases cU.1 h with rfl|h
  .simp only at ho;rw [ho];exact qmCS
  .have:=wo (H:=H) (w:=w) h ho
   cases rW ops i j
   .exact qmCM _ this
   .exact this
theorem cS {ops:Array Oper} {j:Nat}:∀{H:lT} {p:Nat×(World->Prop)},p∈eR ops j H↔p∈H/\rW ops p.1 j=false
 |[],p=>by simp [eR]
 |(i,S)::H,p=>by
  unfold eR
  cases ho:rW ops i j with
  |true=>
   simp only [cond_true]
   rw [cS]
   constructor
   .rintro ⟨h1,h2⟩;exact ⟨qmCM _ h1,h2⟩
   .rintro ⟨h1,h2⟩
    rcases cU.1 h1 with rfl|h1
    .simp only at h2;rw [ho] at h2;cases h2
    .exact ⟨h1,h2⟩
  |false=>
   simp only [cond_false,cU]
   rw [cS]
   constructor
   .rintro (rfl|⟨h1,h2⟩)
    .exact ⟨.inl rfl,ho⟩
    .exact ⟨.inr h1,h2⟩
   .rintro ⟨rfl|h1,h2⟩
    .exact .inl rfl
    .exact .inr ⟨h1,h2⟩
section
variable {P:Program} {ops:Array Oper} {Q:Exit->Act->World->Prop}
def dI (P:Program) (ops:Array Oper) (Q:Exit->Act->World->Prop):Nat->lT->Array Bool->Act->World->Prop
 |0,_,listed,a,w=>Down ops listed->Region.ready .any ops listed=[]/\Q .normal a w
 |fuel+1,H,listed,a,w=>Down ops listed->
  (Region.ready .any ops listed=[]->Q .normal a w)/\
  ∀i∈Region.ready .any ops listed,wpOp P ops Q i (λa' w'=>(∀p∈eR ops i H,p.2 w')/\dI P ops Q fuel (eR ops i H) (listed.setIfInBounds i true) a' w') a w
theorem nL:∀(fuel:Nat) (H:lT) (listed:Array Bool) (a:Act) (w:World),Down ops listed->dI P ops Q fuel H listed a w->wpAny P .any ops Q fuel listed a w
 |0,_,_,_,_,hd,h=>h hd
 |fuel+1,_,_,_,_,hd,h=>⟨(h hd).1,λi hi=>wpOp_mono (λa' w' h'=>nL fuel _ _ a' w' (hd.set hi) h'.2) ((h hd).2 i hi)⟩
theorem rC:∀(fuel:Nat) (H H':lT) (listed:Array Bool) (a:Act) (w:World),(∀p∈H',p∈H)->dI P ops Q fuel H listed a w->dI P ops Q fuel H' listed a w
 |0,_,_,_,_,_,_,h=>h
 |fuel+1,H,H',listed,a,w,hs,h=>λhd=>⟨(h hd).1,λi hi=>wpOp_mono (λa' w' h'=>by
   have rU:∀p∈eR ops i H',p∈eR ops i H:=λp hp=>cS.2 ⟨hs p (cS.1 hp).1,(cS.1 hp).2⟩
   exact ⟨λp hp=>h'.1 p (rU p hp),rC fuel _ _ _ a' w' rU h'.2⟩) ((h hd).2 i hi)⟩
theorem MS {i j:Nat} {listed:Array Bool} (hd:Down ops listed) (hi:listed.getD i true=false) (hj:j∈Region.ready .any ops listed):rW ops i j=false:=by
 obtain ⟨_,oj,Wh,hall⟩:=mem_ready.1 hj
 cases ho:rW ops i j with
 |false=>rfl
 |true=>
  have this:=xr hd 4 j (λo XL e he hb=>by rw [Wh] at XL;cases XL;exact hall e he hb) ho
  rcases Nat.lt_or_ge i listed.size with h'|h'
  .simp [h'] at hi this;rw [hi] at this;cases this
  .simp [Array.getElem?_eq_none h'] at this
theorem qy {i:Nat} {oi:Oper} {v:Value} {Ss:List (World->Prop)} (hi:ops[i]? =some oi) (nM:∀(j:Nat) (o:Oper) cs b,ops[j]? =some o->o.op≠.select cs b)
  (hQ:∀c a w,Q (.panic c) (a.put oi.dst v) w->Q (.panic c) a w):
  ∀(fuel:Nat) (H:lT) (listed:Array Bool) (a:Act) (w:World),
   (∀j oj,ops[j]? =some oj->j≠i->listed.getD j true=false->(∀e∈oj.after,Region.binds .any e=true->e.on≠i)->oi.apart ops oj=true)->
   i∈Region.ready .any ops listed->YieldsIf P ops (λw=>∀S∈Ss,S w) oi v a->(∀S∈Ss,S w)->(∀p∈H,p.2 w)->
   dI P ops Q fuel (Ss.map (λS=>(i,S))++H) (listed.setIfInBounds i true) (a.put oi.dst v) w->dI P ops Q (fuel+1) H listed a w:=by
 intro fuel
 induction fuel with
 |zero=>
  intro H listed a w _ hr hy hS hH G hd
  refine ⟨λh=>(by rw [h] at hr;cases hr),λj hj=>?_⟩
  by_cases N0:j=i
  .subst N0
   exact hy.wpOp hi hS ⟨λp hp=>hH p (cS.1 hp).1,G⟩
  .have:=ready_mono hj N0
   rw [(G (hd.set hr)).1] at this
   cases this
 |succ fuel ih=>
  intro H listed a w Rc hr hy hS hH G hd
  refine ⟨λh=>(by rw [h] at hr;cases hr),λj hj=>?_⟩
  by_cases N0:j=i
  .subst N0
   refine hy.wpOp hi hS ⟨λp hp=>hH p (cS.1 hp).1,?_⟩
   exact rC _ _ _ _ _ _ (λp hp=>qmR _ (cS.1 hp).1) G
  .have h1:=(G (hd.set hr)).2 j (ready_mono hj N0)
   obtain ⟨V9,oj,Wh,hall⟩:=mem_ready.1 hj
   have h0:=(mem_ready.1 hr).1
   have ZB:∀e∈oj.after,Region.binds .any e=true->e.on≠i:=λe he hb heq=>by
    have h1:=hall e he hb
    rw [heq] at h1
    rcases Nat.lt_or_ge i listed.size with h'|h'
    .simp [h'] at h0 h1;rw [h0] at h1;cases h1
    .simp [Array.getElem?_eq_none h'] at h1
   have Wi:rW ops i j=false:=MS hd h0 hj
   have h2:=wpOp_putIf Wh (Rc j oj Wh N0 V9 ZB) (λcs b=>nM i oi cs b hi) (λcs b=>nM j oj cs b Wh) hQ hy h1
   have TF:∀k ok,ops[k]? =some ok->k≠i->(listed.setIfInBounds j true).getD k true=false->
     (∀e∈ok.after,Region.binds .any e=true->e.on≠i)->oi.apart ops ok=true:=λk ok hk O3 Gx wx=>by
    refine Rc k ok hk O3 ?_ wx
    by_cases hjk:j=k
    .subst hjk;exact V9
    .rw [getD_set_ne true hjk] at Gx;exact Gx
   refine wpOp_mono (λa' w' h3=>?_) h2
   obtain ⟨ZW,Ri,vi⟩:=h3
   have JA:∀p∈eR ops j H,p.2 w':=λp hp=>Ri p (cS.2 ⟨qmR _ (cS.1 hp).1,(cS.1 hp).2⟩)
   have hS':∀S∈Ss,S w':=λS XC=>Ri (i,S) (cS.2 ⟨List.mem_append_left _ (oT.2 ⟨S,XC,rfl⟩),Wi⟩)
   refine ⟨JA,ih (eR ops j H) (listed.setIfInBounds j true) a' w' TF (ready_mono hr (Ne.symm N0)) ZW hS' JA ?_⟩
   rw [Array.setIfInBounds_comm _ _ N0]
   refine rC _ _ _ _ _ _ (λp hp=>?_) vi
   rcases fW.1 hp with hp|hp
   .obtain ⟨S,XC,rfl⟩:=oT.1 hp
    exact cS.2 ⟨List.mem_append_left _ hp,Wi⟩
   .exact cS.2 ⟨qmR _ (cS.1 hp).1,(cS.1 hp).2⟩
end
def pK (ops:Array Oper) (j:Nat):Option Nat:=(ops[j]?).bind (·.dst)
def rA (P:Program) (ops:Array Oper) (draw:Bool) (i:Nat) (o:Oper) (E:Env) (w:World) (H:lT) (K:Env->World->lT->Prop):Prop:=
 bif calm P o then qk P o E w λv Ss=>K (E.put o.dst v) w (bif draw then Ss.map (λS=>(i,S))++H else H)
 else (bif draw then me else we) P o E w λv w'=>Jd (heldBy ops i w' H) (K (E.put o.dst v) w' (eR ops i H))
def mr (P:Program) (ops:Array Oper) (draw:Bool) (i:Nat) (o:Oper) (d:Nat) (want t:Bool) (E:Env) (w:World) (H:lT) (K:Env->World->lT->Prop):Prop:=
 bif (t==want) then rA P ops draw i o ((d,.bool t)::E) w H K else K (Env.put ((d,.bool t)::E) o.dst undef) w (bif calm P o then H else eR ops i H)
def mm (P:Program) (ops:Array Oper) (draw:Bool) (K:Env->World->Prop):List Nat->Env->World->lT->Prop
 |[],E,w,_=>K E w
 |i::l,E,w,H=>
  match ops[i]? with
  |none=>False
  |some o=>match o.guard with
   |none=>rA P ops draw i o E w H λE' w' H'=>mm P ops draw K l E' w' H'
   |some (j,want)=>match pK ops j with
    |none=>False
    |some d=>match E.get? d with
     |some (.bool t)=>aF t (mr P ops draw i o d want true E w H λE' w' H'=>mm P ops draw K l E' w' H') (mr P ops draw i o d want false E w H λE' w' H'=>mm P ops draw K l E' w' H')
     |some (.tuple _)=>mm P ops draw K l (Env.put E o.dst undef) w (bif calm P o then H else eR ops i H)
     |_=>False
def rq (P:Program) (ops:Array Oper):List Nat->Array Bool->Bool
 |[],listed=>(Region.ready .any ops listed).isEmpty
 |i::l,listed=>(match ops[i]? with
   |some o=>bif calm P o then Region.free .any ops listed i&&(Region.ready .any ops listed).contains i else Region.ready .any ops listed==[i]
   |none=>false)&&rq P ops l (listed.setIfInBounds i true)
def Io (o:Oper):Bool:=match o.op with |.defer _=>false|_=>true
def gA (n:Nat) (ops:Array Oper):Bool:=Region.noSelect ops&&ops.toList.all λo=>Io o&&match o.dst with |some d=>Nat.blt d n|none=>true
theorem dR {n:Nat} {ops:Array Oper} (h:gA n ops=true) {i:Nat} {o:Oper} (ho:ops[i]? =some o):∀t,o.dst=some t->t<n:=by
 intro t ht
 unfold gA at h
 rw [Bool.and_eq_true] at h
 have:=qaT.1 h.2 o (by simpa using Array.mem_of_getElem? ho)
 rw [ht,Bool.and_eq_true] at this
 simpa using this.2
theorem mV {n:Nat} {ops:Array Oper} (h:gA n ops=true) {i:Nat} {o:Oper} (ho:ops[i]? =some o):∀c,o.op≠.defer c:=by
 intro c hc
 unfold gA at h
 rw [Bool.and_eq_true] at h
 have:=qaT.1 h.2 o (by simpa using Array.mem_of_getElem? ho)
 rw [Bool.and_eq_true] at this
 have:=this.1
 unfold Io at this
 rw [hc] at this
 cases this
def gP (n:Cx) (K:Env->World->Prop):Exit->Act->World->Prop
 |.normal,a,w=>∃E,Ag n a E/\K E w
 |_,_,_=>False
theorem mQ {n:Cx} {a:Act} {E:Env} (ha:Ag n a E) {ops:Array Oper} {j d:Nat} {t:Bool} (hd:pK ops j=some d) (ht:E.get? d=some (.bool t)):yielded ops a.tmps j=some t:=by
 unfold yielded
 unfold pK at hd
 rw [hd]
 simp [ha.get _ _ ht]
theorem jl {n:Cx} {a:Act} {E:Env} (ha:Ag n a E) {ops:Array Oper} {j d:Nat} {vs:Array Value} (hd:pK ops j=some d) (ht:E.get? d=some (.tuple vs)):yielded ops a.tmps j=none:=by
 unfold yielded
 unfold pK at hd
 rw [hd]
 simp [ha.get _ _ ht]
theorem Ag.same {n:Cx} {a:Act} {E:Env} (ha:Ag n a E) {d:Nat} {v:Value} (hd:E.get? d=some v):Ag n a ((d,v)::E):=ha.cons hd ha
section
variable {P:Program} {ops:Array Oper} {n:Cx} {K:Env->World->Prop}
theorem sZ {i:Nat} {o:Oper} {a:Act} {w:World} {Kv:Value->World->Prop} {K':Act->World->Prop} {Q:Exit->Act->World->Prop} (ho:ops[i]? =some o)
  (hw:Region.wanted o (yielded ops a.tmps)=true) (h:rZ P o a w Kv) (hk:∀v w',Kv v w'->K' (a.put o.dst v) w'):wpOp P ops Q i K' a w:=by
 unfold wpOp
 simp only [ho,hw,if_true]
 exact .inl (Oper.wp_mono (λa' w'=>by rintro ⟨v,rfl,hv⟩;exact hk v w' hv) (h Q))
theorem mC {i:Nat} {o:Oper} {a:Act} {E:Env} {w:World} {H:lT} {Kh:Env->World->lT->Prop} {listed:Array Bool} {fuel:Nat} {Q:Exit->Act->World->Prop}
  (hn:gA n ops=true) (ho:ops[i]? =some o) (dN:(bif calm P o then Region.free .any ops listed i&&(Region.ready .any ops listed).contains i else Region.ready .any ops listed==[i])=true)
  (hQ:∀c a w,Q (.panic c) a w=False) (ha:Ag n a E) (hH:∀p∈H,p.2 w) (om:Region.wanted o (yielded ops a.tmps)=true)
  (h:rA P ops true i o E w H Kh)
  (next:∀a' E' w' H',Ag n a' E'->(∀p∈H',p.2 w')->Kh E' w' H'->dI P ops Q fuel H' (listed.setIfInBounds i true) a' w'):dI P ops Q (fuel+1) H listed a w:=by
 have nM:=Region.noSelect_spec (ops:=ops) (by unfold gA at hn;rw [Bool.and_eq_true] at hn;exact hn.1)
 unfold rA at h
 cases hc:calm P o with
 |true=>
  rw [hc] at h dN
  simp only [cond_true] at h dN
  rw [Bool.and_eq_true] at dN
  obtain ⟨v,Ss,hk,vj,KB⟩:=oX (λcs b=>nM i o cs b ho) ha h
  refine qy (v:=v) (Ss:=Ss) ho nM (by simp [hQ]) fuel H listed a w (Region.free_spec ho dN.1) (by simpa using dN.2) (.inl ⟨om,λw' As=>KB w' As⟩) vj hH ?_
  refine next _ _ _ _ (ha.put v (dR hn ho)) ?_ hk
  intro p hp
  rcases fW.1 hp with hp|hp
  .obtain ⟨S,XC,rfl⟩:=oT.1 hp;exact vj S XC
  .exact hH p hp
 |false=>
  rw [hc] at h dN
  simp only [cond_false,cond_true] at h dN
  have hr:Region.ready .any ops listed=[i]:=by simpa using dN
  refine λ_=>⟨λh0=>(by rw [hr] at h0;cases h0),λj hj=>?_⟩
  rw [hr] at hj
  obtain rfl:=Vb.1 hj
  refine sZ ho om (ib (λcs b=>nM j o cs b ho) ha h) λv w' hv=>?_
  obtain ⟨h1,h2⟩:=pn hv
  have JA:∀p∈eR ops j H,p.2 w':=λp hp=>h1 _ (wo (cS.1 hp).1 (cS.1 hp).2)
  exact ⟨JA,next _ _ _ _ (ha.put v (dR hn ho)) JA h2⟩
theorem ku {i:Nat} {o:Oper} {a:Act} {w:World} {H:lT} {listed:Array Bool} {fuel:Nat} {Q:Exit->Act->World->Prop}
  (hn:gA n ops=true) (ho:ops[i]? =some o) (dN:(bif calm P o then Region.free .any ops listed i&&(Region.ready .any ops listed).contains i else Region.ready .any ops listed==[i])=true)
  (hQ:∀c a w,Q (.panic c) a w=False) (hH:∀p∈H,p.2 w) (om:Region.wanted o (yielded ops a.tmps)=false)
  (next:dI P ops Q fuel (bif calm P o then H else eR ops i H) (listed.setIfInBounds i true) (a.put o.dst undef) w):dI P ops Q (fuel+1) H listed a w:=by
 have nM:=Region.noSelect_spec (ops:=ops) (by unfold gA at hn;rw [Bool.and_eq_true] at hn;exact hn.1)
 cases hc:calm P o with
 |true=>
  rw [hc] at dN next
  simp only [cond_true] at dN next
  rw [Bool.and_eq_true] at dN
  exact qy (v:=undef) (Ss:=[]) ho nM (by simp [hQ]) fuel H listed a w (Region.free_spec ho dN.1) (by simpa using dN.2) (.inr ⟨om,rfl⟩) (λS hS=>(by cases hS)) hH (by simpa using next)
 |false=>
  rw [hc] at dN next
  simp only [cond_false] at dN next
  have hr:Region.ready .any ops listed=[i]:=by simpa using dN
  refine λ_=>⟨λh0=>(by rw [hr] at h0;cases h0),λj hj=>?_⟩
  rw [hr] at hj
  obtain rfl:=Vb.1 hj
  unfold wpOp
  simp only [ho,om]
  exact ⟨λp hp=>hH p (cS.1 hp).1,next⟩
theorem sP (hn:gA n ops=true):∀(l:List Nat) (listed:Array Bool) (E:Env) (w:World) (H:lT) (a:Act),rq P ops l listed=true->Ag n a E->(∀p∈H,p.2 w)->
  mm P ops true K l E w H->dI P ops (gP n K) l.length H listed a w
 |[],listed,E,w,H,a,dN,ha,_,h=>λ_=>⟨by simpa [rq] using dN,E,ha,h⟩
 |i::l,listed,E,w,H,a,dN,ha,hH,h=>by
  unfold rq at dN
  rw [Bool.and_eq_true] at dN
  obtain ⟨dN,vi⟩:=dN
  unfold mm at h
  cases ho:ops[i]? with
  |none=>rw [ho] at h;exact h.elim
  |some o=>
   rw [ho] at h dN
   simp only at h dN
   have next:∀a' E' w' H',Ag n a' E'->(∀p∈H',p.2 w')->mm P ops true K l E' w' H'->dI P ops (gP n K) l.length H' (listed.setIfInBounds i true) a' w':=
    λa' E' w' H' hA OW hR=>sP hn l _ E' w' H' a' vi hA OW hR
   cases hg:o.guard with
   |none=>
    rw [hg] at h
    simp only at h
    exact mC hn ho dN (λ_ _ _=>rfl) ha hH (by simp [Region.wanted,hg]) h next
   |some jw=>
    obtain ⟨j,want⟩:=jw
    rw [hg] at h
    simp only at h
    cases hd:pK ops j with
    |none=>rw [hd] at h;exact h.elim
    |some d=>
     rw [hd] at h
     simp only at h
     split at h
     .rename_i t ht
      have hy:=mQ ha hd ht
      have lQ:mr P ops true i o d want t E w H λE' w' H'=>mm P ops true K l E' w' H':=by
       cases t
       .exact h
       .exact h
      unfold mr at lQ
      cases hb:(t==want) with
      |true=>
       rw [hb] at lQ
       exact mC hn ho dN (λ_ _ _=>rfl) (ha.same ht) hH (by simp [Region.wanted,hg,hy];simpa using hb) lQ next
      |false=>
       rw [hb] at lQ
       simp only [cond_false] at lQ
       refine ku hn ho dN (λ_ _ _=>rfl) hH (by simp [Region.wanted,hg,hy];simpa using hb) ?_
       refine next _ _ _ _ ((ha.same ht).put undef (dR hn ho)) ?_ lQ
       intro p hp
       cases JC:calm P o
       .rw [JC] at hp;exact hH p (cS.1 hp).1
       .rw [JC] at hp;exact hH p hp
     .rename_i vs ht
      have hy:=jl ha hd ht
      refine ku hn ho dN (λ_ _ _=>rfl) hH (by simp [Region.wanted,hg,hy]) ?_
      refine next _ _ _ _ (ha.put undef (dR hn ho)) ?_ h
      intro p hp
      cases JC:calm P o
      .rw [JC] at hp;exact hH p (cS.1 hp).1
      .rw [JC] at hp;exact hH p hp
     .exact h.elim
theorem rD {i:Nat} {o:Oper} {a:Act} {w:World} {Kv:Value->World->Prop} {K':Act->World->Prop} {Q:Exit->Act->World->Prop} (ho:ops[i]? =some o)
  (hw:Region.wanted o (yielded ops a.tmps)=true) (h:BC P n o a w Kv) (hk:∀v w',Kv v w'->K' (a.put o.dst v) w'):wpOpIn (FW n) 0 P ops Q i K' a w:=by
 unfold wpOpIn
 simp only [ho,hw,if_true]
 exact Oper.wpIn_mono (λa' w'=>by rintro ⟨v,rfl,hv⟩;exact hk v w' hv) (h Q)
theorem rM {i:Nat} {o:Oper} {a:Act} {E:Env} {w:World} {Kh:Env->World->lT->Prop} {rest:List Nat} {Q:Exit->Act->World->Prop}
  (hn:gA n ops=true) (ho:ops[i]? =some o) (ha:Ag n a E) (om:Region.wanted o (yielded ops a.tmps)=true) (h:rA P ops false i o E w [] Kh)
  (next:∀a' E' w',Ag n a' E'->Kh E' w' []->wpOpsIn (FW n) 0 P ops Q rest a' w'):wpOpsIn (FW n) 0 P ops Q (i::rest) a w:=by
 have nM:=Region.noSelect_spec (ops:=ops) (by unfold gA at hn;rw [Bool.and_eq_true] at hn;exact hn.1)
 rw [wpOpsIn_cons]
 unfold rA at h
 cases hc:calm P o with
 |true=>
  rw [hc] at h
  simp only [cond_true,cond_false] at h
  obtain ⟨v,Ss,hk,vj,KB⟩:=oX (λcs b=>nM i o cs b ho) ha h
  refine rD (Kv:=λv' w'=>v'=v/\w'=w) ho om ?_ ?_
  .refine rZ.in (mV hn ho) λQ'=>?_
   unfold Oper.wp
   rw [KB w vj]
   exact ⟨v,rfl,rfl,rfl⟩
  .rintro v' w' ⟨rfl,rfl⟩
   exact next _ _ _ (ha.put _ (dR hn ho)) hk
 |false=>
  rw [hc] at h
  simp only [cond_false,heldBy,Jd,eR] at h
  exact rD ho om (uV (λcs b=>nM i o cs b ho) (mV hn ho) ha h) λv w' hv=>next _ _ _ (ha.put v (dR hn ho)) hv
theorem sQ (hn:gA n ops=true):∀(l:List Nat) (E:Env) (w:World) (a:Act),Ag n a E->mm P ops false K l E w []->wpOpsIn (FW n) 0 P ops (gP n K) l a w
 |[],E,w,a,ha,h=>⟨E,ha,h⟩
 |i::l,E,w,a,ha,h=>by
  unfold mm at h
  cases ho:ops[i]? with
  |none=>rw [ho] at h;exact h.elim
  |some o=>
   rw [ho] at h
   simp only at h
   have next:∀a' E' w',Ag n a' E'->mm P ops false K l E' w' []->wpOpsIn (FW n) 0 P ops (gP n K) l a' w':=λa' E' w' hA hR=>sQ hn l E' w' a' hA hR
   cases hg:o.guard with
   |none=>
    rw [hg] at h
    simp only at h
    exact rM (Kh:=λE' w' H'=>mm P ops false K l E' w' H') hn ho ha (by simp [Region.wanted,hg]) h next
   |some jw=>
    obtain ⟨j,want⟩:=jw
    rw [hg] at h
    simp only at h
    cases hd:pK ops j with
    |none=>rw [hd] at h;exact h.elim
    |some d=>
     rw [hd] at h
     simp only at h
     split at h
     .rename_i t ht
      have hy:=mQ ha hd ht
      have lQ:mr P ops false i o d want t E w [] λE' w' H'=>mm P ops false K l E' w' H':=by
       cases t
       .exact h
       .exact h
      unfold mr at lQ
      cases hb:(t==want) with
      |true=>
       rw [hb] at lQ
       exact rM (Kh:=λE' w' H'=>mm P ops false K l E' w' H') hn ho (ha.same ht) (by simp [Region.wanted,hg,hy];simpa using hb) lQ next
      |false=>
       rw [hb] at lQ
       simp only [cond_false] at lQ
       have UX:(bif calm P o then ([]:lT) else eR ops i [])=[]:=by cases calm P o<;>rfl
       rw [UX] at lQ
       rw [wpOpsIn_cons]
       unfold wpOpIn
       have hw:Region.wanted o (yielded ops a.tmps)=false:=by simp [Region.wanted,hg,hy];simpa using hb
       simp only [ho,hw]
       exact ⟨λ_ _=>trivial,next _ _ _ ((ha.same ht).put undef (dR hn ho)) lQ⟩
     .rename_i vs ht
      have hy:=jl ha hd ht
      have UX:(bif calm P o then ([]:lT) else eR ops i [])=[]:=by cases calm P o<;>rfl
      rw [UX] at h
      rw [wpOpsIn_cons]
      unfold wpOpIn
      have hw:Region.wanted o (yielded ops a.tmps)=false:=by simp [Region.wanted,hg,hy]
      simp only [ho,hw]
      exact ⟨λ_ _=>trivial,next _ _ _ (ha.put undef (dR hn ho)) h⟩
     .exact h.elim
theorem zU {c:Code} {id:Nat} {a:Act} {E:Env} {w:World} (hc:c=.region id ops false) (hn:gA n ops=true) (ha:Ag n a E)
  (h:mm P ops false K (List.range ops.size) E w []):c.wpIn (FW n) 0 P (gP n K) a w:=by
 subst hc
 exact wpIn_region (sQ hn _ E w a ha h)
theorem pS (hn:gA n ops=true) {Q:Exit->Act->World->Prop} (hQ:¬LetsOut Q):∀(l:List Nat) (a:Act) (w:World),wpOps P ops Q l a w->wpOpsIn (FW n) 0 P ops Q l a w
 |[],a,w,h=>h
 |i::l,a,w,h=>by
  rw [wpOps_cons] at h
  rw [wpOpsIn_cons]
  unfold wpOp at h
  unfold wpOpIn
  cases ho:ops[i]? with
  |none=>rw [ho] at h;exact pS hn hQ l a w h
  |some o=>
   rw [ho] at h
   simp only at h ⊢
   split
   .rename_i hw
    rw [if_pos hw] at h
    rcases h with h|h
    .exact Oper.wpIn_mono (λa' w' h'=>pS hn hQ l a' w' h') (Sm (mV hn ho) h)
    .exact absurd h.2 hQ
   .rename_i hw
    rw [if_neg hw] at h
    exact ⟨λ_ _=>trivial,pS hn hQ l _ w h⟩
theorem xT {c:Code} {id:Nat} {a:Act} {E:Env} {w:World} {l:List Nat} (hm:P.follows .mixedOrders=true) (hc:c=.region id ops true) (hn:gA n ops=true)
  (hl:rq P ops l (Array.replicate ops.size false)=true) (l8:l.length=ops.size) (ha:Ag n a E) (h:mm P ops true K l E w.drew []):c.wpIn (FW n) 0 P (gP n K) a w:=by
 subst hc
 have h1:=sP hn l _ E _ [] a hl ha (λp hp=>(by cases hp)) h
 rw [l8] at h1
 have h2:=nL _ [] _ _ _ (Down.zero _ _) h1
 refine wpIn_region_draw λt=>?_
 refine pS hn (λ⟨_,_,h⟩=>h) _ _ _ ?_
 simp only [Region.schedule,hm,Bool.true_or,if_true]
 exact wpAny_sound ops.size t _ a _ h2
end
section
variable {P:Program} {n:Cx}
def Code.Wt:Code->Bool->Bool
 |.region _ _ d,b=>d==b
 |_,_=>false
def Code.ops:Code->Array Oper
 |.region _ ops _=>ops
 |_=>#[]
def Code.fst:Code->Code
 |.seq a _=>a
 |.cond _ a _=>a
 |.block _ a=>a
 |.loop a=>a
 |.scope a=>a
 |c=>c
def Code.snd:Code->Code
 |.seq _ b=>b
 |.cond _ _ b=>b
 |c=>c
def Code.asn:Code->Code
 |.rangeFunc _ _ a _=>a
 |c=>c
def Code.bdy:Code->Code
 |.rangeFunc _ _ _ b=>b
 |c=>c
abbrev Ac (P:Program) (n:Cx) (c:Code) (Q:Exit->Act->World->Prop) (a:Act) (w:World):Prop:=c.wpIn (FW n) 0 P Q a w
def WP (P:Program) (n:Cx) (c:Code) (Q:Exit->Act->World->Prop) (E:Env) (w:World):Prop:=∀a,Ag n a E->Ac P n c Q a w
theorem WP.region {c:Code} {Q:Exit->Act->World->Prop} {E:Env} {w:World} {ops:Array Oper} {id:Nat} (K:Env->World->Prop) (hc:c=.region id ops false) (hn:gA n ops=true)
  (h:mm P ops false K (List.range ops.size) E w []) (hk:∀E' w' a',Ag n a' E'->K E' w'->Q .normal a' w'):WP P n c Q E w:=λa ha=>
 wpIn_mono (zU hc hn ha h) λe a' w' he=>by
  cases e with
  |normal=>obtain ⟨E',hA,hK⟩:=he;exact hk E' w' a' hA hK
  |_=>exact he.elim
theorem WP.PL {c:Code} {Q:Exit->Act->World->Prop} {E:Env} {w:World} {ops:Array Oper} {id:Nat} {l:List Nat} (K:Env->World->Prop) (hm:P.follows .mixedOrders=true) (hc:c=.region id ops true) (hn:gA n ops=true)
  (hl:rq P ops l (Array.replicate ops.size false)=true) (l8:l.length=ops.size)
  (h:mm P ops true K l E w.drew []) (hk:∀E' w' a',Ag n a' E'->K E' w'->Q .normal a' w'):WP P n c Q E w:=λa ha=>
 wpIn_mono (xT hm hc hn hl l8 ha h) λe a' w' he=>by
  cases e with
  |normal=>obtain ⟨E',hA,hK⟩:=he;exact hk E' w' a' hA hK
  |_=>exact he.elim
def GV (n:Nat) (c:Code):Bool:=match c with |.region _ ops d=>!d&&gA n ops|_=>false
def WW (P:Program) (n:Nat) (c:Code) (l:List Nat):Bool:=match c with
 |.region _ ops d=>d&&(P.follows .mixedOrders&&(gA n ops&&(rq P ops l (Array.replicate ops.size false)&&Nat.beq l.length ops.size)))
 |_=>false
theorem WP.RL {c:Code} {Q:Exit->Act->World->Prop} {E:Env} {w:World} (K:Env->World->Prop) (hc:GV n c=true)
  (h:mm P (Code.ops c) false K (List.range (Code.ops c).size) E w []) (hk:∀E' w' a',Ag n a' E'->K E' w'->Q .normal a' w'):WP P n c Q E w:=by
 unfold GV at hc
 split at hc
 .rename_i id ops d
  rw [Bool.and_eq_true] at hc
  obtain ⟨h1,h2⟩:=hc
  have h3:d=false:=by simpa using h1
  subst h3
  exact WP.region K rfl h2 h hk
 .cases hc
theorem WP.draw {c:Code} {Q:Exit->Act->World->Prop} {E:Env} {w:World} (l:List Nat) (K:Env->World->Prop) (hc:WW P n c l=true)
  (h:mm P (Code.ops c) true K l E w.drew []) (hk:∀E' w' a',Ag n a' E'->K E' w'->Q .normal a' w'):WP P n c Q E w:=by
 unfold WW at hc
 split at hc
 .rename_i id ops d
  simp only [Bool.and_eq_true] at hc
  obtain ⟨rfl,h2,h3,h4,h5⟩:=hc
  rw [Nat.beq_eq] at h5
  exact WP.PL K h2 rfl h3 h4 h5 h hk
 .cases hc
theorem WP.at {c:Code} {Q:Exit->Act->World->Prop} {E:Env} {w:World} {a:Act} (h:WP P n c Q E w) (ha:Ag n a E):Ac P n c Q a w:=h a ha
theorem WP.seq {c x y:Code} {Q:Exit->Act->World->Prop} {E:Env} {w:World} (hc:c=.seq x y) (h:WP P n x (Exit.then (Ac P n y Q) Q) E w):WP P n c Q E w:=λa ha=>by
 subst hc;exact wpIn_seq (h a ha)
theorem WP.cond {c x y:Code} {o:Operand} {Q:Exit->Act->World->Prop} {E:Env} {w:World} {t:Bool} (hc:c=.cond o x y) (ho:E.val o=some (.bool t)) (h:aF t (WP P n x Q E w) (WP P n y Q E w)):WP P n c Q E w:=λa ha=>by
 subst hc
 refine wpIn_cond_split (ha.val ho) (λht=>?_) (λht=>?_)
 .subst ht;exact h a ha
 .subst ht;exact h a ha
def pH (v:Option Value) (A B:Prop):Prop:=match v with |some (.bool t)=>aF t A B|_=>False
theorem WP.pH {c x y:Code} {o:Operand} {Q:Exit->Act->World->Prop} {E:Env} {w:World} {A B:Prop} (hc:c=.cond o x y) (h1:A->WP P n x Q E w) (h2:B->WP P n y Q E w) (h:pH (E.val o) A B):WP P n c Q E w:=by
 unfold W.pH at h
 split at h
 .rename_i t ht
  refine WP.cond hc ht ?_
  cases t
  .exact h2 h
  .exact h1 h
 .exact h.elim
theorem WP.block {c x:Code} {id:Nat} {Q:Exit->Act->World->Prop} {E:Env} {w:World} (hc:c=.block id x) (h:WP P n x (Exit.inBlock id Q) E w):WP P n c Q E w:=λa ha=>by
 subst hc;exact wpIn_block (h a ha)
theorem WP.skip {c:Code} {Q:Exit->Act->World->Prop} {E:Env} {w:World} (hc:c=.skip) (h:∀a,Ag n a E->Q .normal a w):WP P n c Q E w:=λa ha=>by
 subst hc;exact wpIn_skip (h a ha)
theorem WP.exit {c:Code} {id:Nat} {Q:Exit->Act->World->Prop} {E:Env} {w:World} (hc:c=.exit id) (h:∀a,Ag n a E->Q (.exit id) a w):WP P n c Q E w:=λa ha=>by
 subst hc;exact wpIn_exit (h a ha)
theorem WP.ret {c:Code} {Q:Exit->Act->World->Prop} {E:Env} {w:World} (hc:c=.ret) (h:∀a,Ag n a E->Q .ret a w):WP P n c Q E w:=λa ha=>by
 subst hc;exact wpIn_ret (h a ha)
def r6 (P:Program) (n:Cx) (c:Code) (Q:Exit->Act->World->Prop) (a:Act) (w:World):Prop:=
 ∀(b:Frame) (k:List Item) (cs:List Frame),b.roundOf=n.ro->∃e a' w',Q e a' w'/\ArrivesIn (Machine.fenced P (FW n)) P (lone (b.atR a (.code c::.inLoop c::k)) cs w) b k cs e a' w'
theorem PO (n:Cx) (m:Nat):(FW n).room m:=room_wide m
theorem vP {c:Code} {Q:Exit->Act->World->Prop} {a:Act} {w:World} (h:r6 P n c Q a w):Ac P n (Code.loop c) Q a w:=λb k cs XN hb hr=>by
 obtain ⟨e,a',w',hq,Am⟩:=h b k cs XN
 exact ⟨e,a',w',hq,.of_steps (.one (fenced_calm hb hr rfl) stepR_loop) Am⟩
theorem xk {c:Code} {Q:Exit->Act->World->Prop} {a:Act} {w:World} (h:Ac P n c (Exit.then (r6 P n c Q) Q) a w):r6 P n c Q a w:=by
 intro b k cs XN
 have hb:(FW n).fn b.fn:=trivial
 have hr:(FW n).room (cs.length+1+0):=PO n _
 obtain ⟨e,a₁,w₁,hq,Am⟩:=h b (.inLoop c::k) cs XN hb hr
 cases e with
 |normal=>
  obtain ⟨e₂,a₂,w₂,hq₂,Am₂⟩:=hq b k cs XN
  exact ⟨e₂,a₂,w₂,hq₂,.of_steps (StepsIn.trans Am (.one (fenced_calm hb hr rfl) stepR_inLoop)) Am₂⟩
 |exit id=>exact ⟨_,a₁,w₁,hq,.pass (x:=.inLoop c) rfl (λ_ _=>.inl (by simp)) Am⟩
 |goto l=>exact ⟨_,a₁,w₁,hq,.pass (x:=.inLoop c) rfl (λ_ _=>.inl (by simp)) Am⟩
 |ret=>exact ⟨_,a₁,w₁,hq,.pass (x:=.inLoop c) rfl (λ_ _=>.inl (by simp)) Am⟩
 |panic ch=>exact ⟨_,a₁,w₁,hq,.pass (x:=.inLoop c) rfl (λ_ _=>.inl (by simp)) Am⟩
 |outgrown=>exact ⟨_,a₁,w₁,hq,.pass (x:=.inLoop c) rfl (λ_ _=>.inl (by simp)) Am⟩
def LP (P:Program) (n:Cx) (c:Code) (Q:Exit->Act->World->Prop) (E:Env) (w:World):Prop:=∀a,Ag n a E->r6 P n c Q a w
theorem WP.loop {c x:Code} {Q:Exit->Act->World->Prop} {E:Env} {w:World} (hc:c=.loop x) (h:LP P n x Q E w):WP P n c Q E w:=λa ha=>by
 subst hc;exact vP (h a ha)
theorem LP.step {c:Code} {Q:Exit->Act->World->Prop} {E:Env} {w:World} (h:WP P n c (Exit.then (r6 P n c Q) Q) E w):LP P n c Q E w:=λa ha=>xk (h a ha)
def M0:List Value->Value
 |[v]=>v
 |vs=>.tuple vs.toArray
def zn (P:Program) (E:Env) (w:World):List ResultVar->(List Value->Prop)->Prop
 |[],K=>K []
 |.tmp t::l,K=>match E.get? t with
  |some v=>zn P E w l λvs=>K (v::vs)
  |none=>False
 |.cell x T::l,K=>match E.get? x with
  |some (.pointer (some p))=>At P T p w λv _=>zn P E w l λvs=>K (v::vs)
  |_=>False
def rJ (P:Program) (fn:Func) (E:Env) (w:World) (K:Value->Prop):Prop:=zn P E w fn.results.toList λvs=>K (M0 vs)
def xx (tmps:Array Value):ResultVar->Sem Value
 |.tmp t=>pure (tmps.getD t undef)
 |.cell a t=>do loadVar t (<-asAddr (tmps.getD a undef))
theorem zm (fn:Func) (tmps:Array Value):results fn tmps=(do let vs <-fn.results.mapM (xx tmps);pure (if h:vs.size=1 then vs[0] else .tuple vs)):=by
 unfold results
 congr 1
theorem sO {a:Act} {E:Env} (ha:Ag n a E) (w:World):∀{l:List ResultVar} {K:List Value->Prop},zn P E w l K->
  ∃vs,(l.mapM (xx a.tmps)).run P w=.ok vs w/\K vs
 |[],K,h=>⟨[],by simp,h⟩
 |.tmp t::l,K,h=>by
  unfold zn at h
  split at h
  .rename_i v hv
   obtain ⟨vs,hr,hk⟩:=sO ha w h
   refine ⟨v::vs,?_,hk⟩
   have hg:=ha.get t v hv
   simp [List.mapM_cons,xx,hr,hg]
  .exact h.elim
 |.cell x T::l,K,h=>by
  unfold zn at h
  split at h
  .rename_i p hp
   obtain ⟨v,S,h,vj,KB⟩:=ud h
   obtain ⟨vs,hr,hk⟩:=sO ha w h
   refine ⟨v::vs,?_,hk⟩
   have hg:=ha.get x _ hp
   simp [List.mapM_cons,xx,hr,hg,asAddr,KB w vj]
  .exact h.elim
theorem wK {fn:Func} {a:Act} {E:Env} {w:World} {R:Ending->World->Prop} (ha:Ag n a E) (h:rJ P fn E w λv=>R (.returned v) w):
  ∃v,(results fn a.tmps).run P w=.ok v w/\R (.returned v) w:=by
 obtain ⟨vs,hr,hk⟩:=sO ha w h
 refine ⟨_,?_,hk⟩
 rw [zm,<-Array.toArray_toList (xs:=fn.results),List.mapM_toArray]
 simp only [Sem.run_bind,Sem.run_map,hr,Result.andThen_ok,Sem.run_pure]
 congr 1
 cases vs with
 |nil=>rfl
 |cons v vs=>cases vs<;>rfl
theorem qg {m:Nat} {fn:Func} {a:Act} {E:Env} {w:World} {R:Ending->World->Prop} (ha:Ag (cx m) a E) (h:rJ P fn E w λv=>R (.returned v) w):
  a.defers=[]/\∃v,(results fn a.tmps).run P w=.ok v w/\R (.returned v) w:=⟨ha.defers,wK ha h⟩
theorem Dw {f:FuncId} {fn:Func} {c:Code} {args:Array Value} {w:World} {R:Ending->World->Prop} {E:Env} (hf:P.funcs[f]? =some fn) (hb:fn.body=some c) (l8:args.size<=fn.ntmps)
  (hE:∀t v,E.get? t=some v->args[t]? =some v) (h:WP P (cx fn.ntmps) c (bodyPost P fn R) E w):Calls P f args w R:=by
 refine calls_of_wp hf hb (wpIn_wide.1 (h _ ⟨rfl,by simp;omega,?_⟩))
 intro t v ht
 have:=hE t v ht
 have l6:t<args.size:=by
  rcases Nat.lt_or_ge t args.size with h'|h'
  .exact h'
  .rw [Array.getElem?_eq_none h'] at this;cases this
 rw [Array.getElem?_append_left l6]
 exact this
def rF:Nat->List Value->Env
 |_,[]=>[]
 |i,v::l=>(i,v)::rF (i+1) l
theorem wg:∀(l:List Value) (i t:Nat) (v:Value),(rF i l).get? t=some v->i<=t/\l[t - i]? =some v
 |[],_,_,_,h=>by simp [rF,Env.get?] at h
 |u::l,i,t,v,h=>by
  simp only [rF,Env.get?] at h
  by_cases e:i=t
  .subst e;simp at h;subst h;simp
  .have hb:Nat.beq i t=false:=by rw [<-Bool.not_eq_true,Nat.beq_eq];exact e
   simp only [hb,cond_false] at h
   obtain ⟨h1,h2⟩:=wg l (i+1) t v h
   refine ⟨by omega,?_⟩
   rw [show t - i=(t - (i+1))+1 by omega]
   simpa using h2
theorem oW {f:FuncId} {fn:Func} {c:Code} {args:List Value} {w:World} {R:Ending->World->Prop} (hf:P.funcs[f]? =some fn) (hb:fn.body=some c) (l8:Nat.ble args.length fn.ntmps=true)
  (h:WP P (cx fn.ntmps) c (bodyPost P fn R) (rF 0 args) w):Calls P f args.toArray w R:=
 Dw hf hb (by simpa using Nat.le_of_ble_eq_true l8) (λt v ht=>by
  have:=(wg args 0 t v ht).2
  simpa using this) h
theorem Nk {t:Bool} {A B A' B':Prop} (h1:A->A') (h2:B->B') (h:aF t A B):aF t A' B':=by
 cases t
 .exact h2 h
 .exact h1 h
def asInt (k:IntKind) (v:Option Value) (K:Int->Prop):Prop:=match v with |some (.int k' n)=>hG (k'==k) (K n)|_=>False
theorem pC {k:IntKind} {v:Option Value} {K:Int->Prop} (h:asInt k v K):∃n,v=some (.int k n)/\K n:=by
 unfold asInt at h
 split at h
 .obtain ⟨h1,h2⟩:=bY h
  have h3:=eq_of_beq h1
  subst h3
  exact ⟨_,rfl,h2⟩
 .exact h.elim
def yk (v:Option Value) (K:ByteArray->Prop):Prop:=match v with |some (.string b)=>K b|_=>False
theorem pD {v:Option Value} {K:ByteArray->Prop} (h:yk v K):∃b,v=some (.string b)/\K b:=by
 unfold yk at h
 split at h
 .exact ⟨_,rfl,h⟩
 .exact h.elim
def gB (v:Option Value) (K:Addr->Prop):Prop:=match v with |some (.pointer (some a))=>K a|_=>False
theorem bQ {v:Option Value} {K:Addr->Prop} (h:gB v K):∃a,v=some (.pointer (some a))/\K a:=by
 unfold gB at h
 split at h
 .exact ⟨_,rfl,h⟩
 .exact h.elim
def asAgg (v:Option Value) (K:List Value->Prop):Prop:=match v with |some (.agg cs)=>K cs.toList|_=>False
theorem FL {v:Option Value} {K:List Value->Prop} (h:asAgg v K):∃cs:List Value,v=some (.agg cs.toArray)/\K cs:=by
 unfold asAgg at h
 split at h
 .exact ⟨_,rfl,h⟩
 .exact h.elim
def BM (f:FuncId) (v:Option Value) (K:List Value->List Value->Prop):Prop:=match v with |some (.func (.func g) fs cs)=>hG (Nat.beq g f) (K fs.toList cs.toList)|_=>False
theorem Dh {f:FuncId} {v:Option Value} {K:List Value->List Value->Prop} (h:BM f v K):∃fs cs:List Value,v=some (.func (.func f) fs.toArray cs.toArray)/\K fs cs:=by
 unfold BM at h
 split at h
 .obtain ⟨h1,h2⟩:=bY h
  rw [Nat.beq_eq] at h1
  subst h1
  exact ⟨_,_,rfl,h2⟩
 .exact h.elim
def sd (l:List Value) (K:Value->List Value->Prop):Prop:=match l with |v::r=>K v r|[]=>False
theorem mR {l:List Value} {K:Value->List Value->Prop} (h:sd l K):∃v r,l=v::r/\K v r:=by
 cases l with
 |nil=>exact h.elim
 |cons v r=>exact ⟨v,r,rfl,h⟩
def AJ (l:List Value) (K:Prop):Prop:=match l with |[]=>K|_=>False
theorem tS {l:List Value} {K:Prop} (h:AJ l K):l=[]/\K:=by
 cases l with
 |nil=>exact ⟨rfl,h⟩
 |cons v r=>exact h.elim
end
def Og (k:IntKind) (x y:Int):Int:=k.wrap ((BitVec.ofInt k.bits x&&& BitVec.ofInt k.bits y).toNat:Int)
def Vr (k:IntKind) (x y:Int):Int:=k.wrap ((BitVec.ofInt k.bits x|||BitVec.ofInt k.bits y).toNat:Int)
def Oh (k:IntKind) (x y:Int):Int:=k.wrap ((BitVec.ofInt k.bits x^^^BitVec.ofInt k.bits y).toNat:Int)
inductive Tr where
 |nil
 |one (i:Nat) (t:Tr)
 |fork (a b:Tr)
def Tr.oS:Tr->List Nat
 |.nil=>[]
 |.one i _=>[i]
 |.fork a b=>a.oS++b.oS
def Tr.len:Tr->Nat
 |.nil=>0
 |.one _ t=>t.len+1
 |.fork a _=>a.len
def yW (P:Program) (ops:Array Oper) (i:Nat) (E:Env) (w:World) (H:lT) (Kn:Env->World->lT->Prop):Prop:=
 match ops[i]? with
 |none=>False
 |some o=>match o.guard with
  |none=>rA P ops true i o E w H Kn
  |some (j,want)=>match pK ops j with
   |none=>False
   |some d=>match E.get? d with
    |some (.bool t)=>aF t (mr P ops true i o d want true E w H Kn) (mr P ops true i o d want false E w H Kn)
    |some (.tuple _)=>Kn (Env.put E o.dst undef) w (bif calm P o then H else eR ops i H)
    |_=>False
def rB (P:Program) (ops:Array Oper) (K:Env->World->Prop):Tr->Env->World->lT->Prop
 |.nil,E,w,_=>K E w
 |.one i t,E,w,H=>yW P ops i E w H λE' w' H'=>rB P ops K t E' w' H'
 |.fork a b,E,w,H=>rB P ops K a E w H/\rB P ops K b E w H
def kg (P:Program) (ops:Array Oper):Tr->Bool->Array Bool->Bool
 |.nil,alt,listed=>!alt&&(Region.ready .any ops listed).isEmpty
 |.one i t,alt,listed=>(match ops[i]? with
   |some o=>bif alt then !calm P o else bif calm P o then Region.free .any ops listed i&&(Region.ready .any ops listed).contains i else Region.ready .any ops listed==[i]
   |none=>false)&&kg P ops t false (listed.setIfInBounds i true)
 |.fork a b,alt,listed=>(alt||Region.ready .any ops listed==(Tr.fork a b).oS)&&(Nat.beq a.len b.len&&(kg P ops a true listed&&kg P ops b true listed))
section
variable {P:Program} {ops:Array Oper} {n:Cx} {K:Env->World->Prop}
theorem IQ {i:Nat} {o:Oper} {a:Act} {E:Env} {w:World} {H:lT} {Kh:Env->World->lT->Prop} {listed:Array Bool} {fuel:Nat} {Q:Exit->Act->World->Prop}
  (hn:gA n ops=true) (ho:ops[i]? =some o) (hc:calm P o=false) (ha:Ag n a E) (om:Region.wanted o (yielded ops a.tmps)=true)
  (h:rA P ops true i o E w H Kh)
  (next:∀a' E' w' H',Ag n a' E'->(∀p∈H',p.2 w')->Kh E' w' H'->dI P ops Q fuel H' (listed.setIfInBounds i true) a' w'):
  wpOp P ops Q i (λa' w'=>(∀p∈eR ops i H,p.2 w')/\dI P ops Q fuel (eR ops i H) (listed.setIfInBounds i true) a' w') a w:=by
 have nM:=Region.noSelect_spec (ops:=ops) (by unfold gA at hn;rw [Bool.and_eq_true] at hn;exact hn.1)
 unfold rA at h
 rw [hc] at h
 simp only [cond_false,cond_true] at h
 refine sZ ho om (ib (λcs b=>nM i o cs b ho) ha h) λv w' hv=>?_
 obtain ⟨h1,h2⟩:=pn hv
 have JA:∀p∈eR ops i H,p.2 w':=λp hp=>h1 _ (wo (cS.1 hp).1 (cS.1 hp).2)
 exact ⟨JA,next _ _ _ _ (ha.put v (dR hn ho)) JA h2⟩
theorem CB {i:Nat} {o:Oper} {a:Act} {w:World} {H:lT} {listed:Array Bool} {fuel:Nat} {Q:Exit->Act->World->Prop}
  (ho:ops[i]? =some o) (hH:∀p∈H,p.2 w) (om:Region.wanted o (yielded ops a.tmps)=false)
  (next:dI P ops Q fuel (eR ops i H) (listed.setIfInBounds i true) (a.put o.dst undef) w):
  wpOp P ops Q i (λa' w'=>(∀p∈eR ops i H,p.2 w')/\dI P ops Q fuel (eR ops i H) (listed.setIfInBounds i true) a' w') a w:=by
 unfold wpOp
 simp only [ho,om]
 exact ⟨λp hp=>hH p (cS.1 hp).1,next⟩
theorem Mm (hn:gA n ops=true) {i:Nat} {o:Oper} {E:Env} {w:World} {H:lT} {a:Act} {Kn:Env->World->lT->Prop} {listed:Array Bool} {fuel:Nat} (ho:ops[i]? =some o)
  (dN:(bif calm P o then Region.free .any ops listed i&&(Region.ready .any ops listed).contains i else Region.ready .any ops listed==[i])=true) (ha:Ag n a E) (hH:∀p∈H,p.2 w) (h:yW P ops i E w H Kn)
  (next:∀a' E' w' H',Ag n a' E'->(∀p∈H',p.2 w')->Kn E' w' H'->dI P ops (gP n K) fuel H' (listed.setIfInBounds i true) a' w'):dI P ops (gP n K) (fuel+1) H listed a w:=by
 unfold yW at h
 rw [ho] at h
 simp only at h
 cases hg:o.guard with
 |none=>
  rw [hg] at h
  simp only at h
  exact mC hn ho dN (λ_ _ _=>rfl) ha hH (by simp [Region.wanted,hg]) h next
 |some jw=>
  obtain ⟨j,want⟩:=jw
  rw [hg] at h
  simp only at h
  cases hd:pK ops j with
  |none=>rw [hd] at h;exact h.elim
  |some d=>
   rw [hd] at h
   simp only at h
   split at h
   .rename_i t ht
    have hy:=mQ ha hd ht
    have lQ:mr P ops true i o d want t E w H Kn:=by
     cases t
     .exact h
     .exact h
    unfold mr at lQ
    cases hb:(t==want) with
    |true=>
     rw [hb] at lQ
     exact mC hn ho dN (λ_ _ _=>rfl) (ha.same ht) hH (by simp [Region.wanted,hg,hy];simpa using hb) lQ next
    |false=>
     rw [hb] at lQ
     simp only [cond_false] at lQ
     refine ku hn ho dN (λ_ _ _=>rfl) hH (by simp [Region.wanted,hg,hy];simpa using hb) ?_
     refine next _ _ _ _ ((ha.same ht).put undef (dR hn ho)) ?_ lQ
     intro p hp
     cases JC:calm P o
     .rw [JC] at hp;exact hH p (cS.1 hp).1
     .rw [JC] at hp;exact hH p hp
   .rename_i vs ht
    have hy:=jl ha hd ht
    refine ku hn ho dN (λ_ _ _=>rfl) hH (by simp [Region.wanted,hg,hy]) ?_
    refine next _ _ _ _ (ha.put undef (dR hn ho)) ?_ h
    intro p hp
    cases JC:calm P o
    .rw [JC] at hp;exact hH p (cS.1 hp).1
    .rw [JC] at hp;exact hH p hp
   .exact h.elim
theorem OZ (hn:gA n ops=true) {i:Nat} {o:Oper} {E:Env} {w:World} {H:lT} {a:Act} {Kn:Env->World->lT->Prop} {listed:Array Bool} {fuel:Nat} (ho:ops[i]? =some o)
  (hc:calm P o=false) (ha:Ag n a E) (hH:∀p∈H,p.2 w) (h:yW P ops i E w H Kn)
  (next:∀a' E' w' H',Ag n a' E'->(∀p∈H',p.2 w')->Kn E' w' H'->dI P ops (gP n K) fuel H' (listed.setIfInBounds i true) a' w'):
  wpOp P ops (gP n K) i (λa' w'=>(∀p∈eR ops i H,p.2 w')/\dI P ops (gP n K) fuel (eR ops i H) (listed.setIfInBounds i true) a' w') a w:=by
 unfold yW at h
 rw [ho] at h
 simp only at h
 have hHd:∀p∈eR ops i H,p.2 w:=λp hp=>hH p (cS.1 hp).1
 cases hg:o.guard with
 |none=>
  rw [hg] at h
  simp only at h
  exact IQ hn ho hc ha (by simp [Region.wanted,hg]) h next
 |some jw=>
  obtain ⟨j,want⟩:=jw
  rw [hg] at h
  simp only at h
  cases hd:pK ops j with
  |none=>rw [hd] at h;exact h.elim
  |some d=>
   rw [hd] at h
   simp only at h
   split at h
   .rename_i t ht
    have hy:=mQ ha hd ht
    have lQ:mr P ops true i o d want t E w H Kn:=by
     cases t
     .exact h
     .exact h
    unfold mr at lQ
    cases hb:(t==want) with
    |true=>
     rw [hb] at lQ
     exact IQ hn ho hc (ha.same ht) (by simp [Region.wanted,hg,hy];simpa using hb) lQ next
    |false=>
     rw [hb,hc] at lQ
     simp only [cond_false] at lQ
     exact CB ho hH (by simp [Region.wanted,hg,hy];simpa using hb) (next _ _ _ _ ((ha.same ht).put undef (dR hn ho)) hHd lQ)
   .rename_i vs ht
    have hy:=jl ha hd ht
    rw [hc] at h
    simp only [cond_false] at h
    exact CB ho hH (by simp [Region.wanted,hg,hy]) (next _ _ _ _ (ha.put undef (dR hn ho)) hHd h)
   .exact h.elim
theorem zO:∀(t:Tr) (listed:Array Bool),kg P ops t true listed=true->∃m,t.len=m+1
 |.nil,listed,h=>by simp [kg] at h
 |.one i t,listed,_=>⟨t.len,rfl⟩
 |.fork a b,listed,h=>by
  unfold kg at h
  simp only [Bool.and_eq_true] at h
  exact zO a listed h.2.2.1
theorem uv:∀(t:Tr) (listed:Array Bool),kg P ops t true listed=true->t.oS≠[]
 |.nil,listed,h=>by simp [kg] at h
 |.one i t,listed,_=>by simp [Tr.oS]
 |.fork a b,listed,h=>by
  unfold kg at h
  simp only [Bool.and_eq_true] at h
  have:=uv a listed h.2.2.1
  simp [Tr.oS,this]
theorem pQ (hn:gA n ops=true):∀(t:Tr) (alt:Bool) (listed:Array Bool) (E:Env) (w:World) (H:lT) (a:Act) (m:Nat),kg P ops t alt listed=true->Ag n a E->(∀p∈H,p.2 w)->rB P ops K t E w H->
  (alt=false->t.len=m->dI P ops (gP n K) m H listed a w)/\
  (alt=true->t.len=m+1->∀i∈t.oS,wpOp P ops (gP n K) i (λa' w'=>(∀p∈eR ops i H,p.2 w')/\dI P ops (gP n K) m (eR ops i H) (listed.setIfInBounds i true) a' w') a w)
 |.nil,alt,listed,E,w,H,a,m,dN,ha,hH,h=>by
  unfold kg at dN
  rw [Bool.and_eq_true] at dN
  refine ⟨λ_ hm=>?_,λe=>?_⟩
  .subst hm
   exact λ_=>⟨by simpa using dN.2,E,ha,h⟩
  .subst e;simp at dN
 |.one i t,alt,listed,E,w,H,a,m,dN,ha,hH,h=>by
  unfold kg at dN
  rw [Bool.and_eq_true] at dN
  obtain ⟨dN,vi⟩:=dN
  cases ho:ops[i]? with
  |none=>rw [ho] at dN;cases dN
  |some o=>
   rw [ho] at dN
   simp only at dN
   unfold rB at h
   refine ⟨λe hm=>?_,λe hm j hj=>?_⟩
   .subst e hm
    exact Mm hn ho dN ha hH h λa' E' w' H' hA OW hR=>(pQ hn t false _ E' w' H' a' _ vi hA OW hR).1 rfl rfl
   .subst e
    rw [cond_true] at dN
    obtain rfl:=Vb.1 hj
    have JG:t.len=m:=by simpa [Tr.len] using hm
    exact OZ hn ho (by simpa using dN) ha hH h λa' E' w' H' hA OW hR=>(pQ hn t false _ E' w' H' a' _ vi hA OW hR).1 rfl JG
 |.fork x y,alt,listed,E,w,H,a,m,dN,ha,hH,h=>by
  unfold kg at dN
  simp only [Bool.and_eq_true] at dN
  obtain ⟨hr,hl,hx,hy⟩:=dN
  rw [Nat.beq_eq] at hl
  unfold rB at h
  have both:∀k,x.len=k+1->∀i∈(Tr.fork x y).oS,wpOp P ops (gP n K) i (λa' w'=>(∀p∈eR ops i H,p.2 w')/\dI P ops (gP n K) k (eR ops i H) (listed.setIfInBounds i true) a' w') a w:=λk hk i hi=>by
   rcases fW.1 hi with hi|hi
   .exact (pQ hn x true listed E w H a k hx ha hH h.1).2 rfl hk i hi
   .exact (pQ hn y true listed E w H a k hy ha hH h.2).2 rfl (hl▸hk) i hi
  refine ⟨λe hm=>?_,λ_ hm=>both m hm⟩
  subst e
  obtain ⟨k,hk⟩:=zO x listed hx
  have JG:m=k+1:=by rw [<-hm,<-hk];rfl
  subst JG
  have Wk:Region.ready .any ops listed=(Tr.fork x y).oS:=by simpa using hr
  have hM:(Tr.fork x y).oS≠[]:=by have:=uv x listed hx;simp [Tr.oS,this]
  exact λ_=>⟨λh0=>absurd (Wk▸h0) hM,λi hi=>both k hk i (Wk▸hi)⟩
theorem zV {c:Code} {id:Nat} {a:Act} {E:Env} {w:World} {t:Tr} (hm:P.follows .mixedOrders=true) (hc:c=.region id ops true) (hn:gA n ops=true)
  (hl:kg P ops t false (Array.replicate ops.size false)=true) (l8:t.len=ops.size) (ha:Ag n a E) (h:rB P ops K t E w.drew []):c.wpIn (FW n) 0 P (gP n K) a w:=by
 subst hc
 have h1:=(pQ hn t false _ E _ [] a _ hl ha (λp hp=>(by cases hp)) h).1 rfl l8
 have h2:=nL _ [] _ _ _ (Down.zero _ _) h1
 refine wpIn_region_draw λt=>?_
 refine pS hn (λ⟨_,_,h⟩=>h) _ _ _ ?_
 simp only [Region.schedule,hm,Bool.true_or,if_true]
 exact wpAny_sound ops.size t _ a _ h2
def Bn (P:Program) (n:Nat) (c:Code) (t:Tr):Bool:=match c with
 |.region _ ops d=>d&&(P.follows .mixedOrders&&(gA n ops&&(kg P ops t false (Array.replicate ops.size false)&&Nat.beq t.len ops.size)))
 |_=>false
theorem WP.tree {c:Code} {Q:Exit->Act->World->Prop} {E:Env} {w:World} (t:Tr) (K:Env->World->Prop) (hc:Bn P n c t=true)
  (h:rB P (Code.ops c) K t E w.drew []) (hk:∀E' w' a',Ag n a' E'->K E' w'->Q .normal a' w'):WP P n c Q E w:=by
 unfold Bn at hc
 split at hc
 .rename_i id ops d
  simp only [Bool.and_eq_true] at hc
  obtain ⟨rfl,h2,h3,h4,h5⟩:=hc
  rw [Nat.beq_eq] at h5
  exact λa ha=>wpIn_mono (zV h2 rfl h3 h4 h5 ha h) λe a' w' he=>by
   cases e with
   |normal=>obtain ⟨E',hA,hK⟩:=he;exact hk E' w' a' hA hK
   |_=>exact he.elim
 .cases hc
end
section
variable {P:Program}
def lo (r:Loop) (st:LoopState) (pe:Option Code):Obj:=.loop {r with state:=st,pending:=pe}
structure KX (r:Loop) (m:Nat) (ps:Array Tmp) (assign body:Code) (E:Env):Prop where
 ps:r.params=ps
 assign:r.assign=assign
 body:r.body=body
 size:r.tmps.size=m
 get:∀t v,E.get? t=some v->r.tmps[t]? =some v
def EE:Env->List Nat->List Value->Env
 |E,p::ps,v::vs=>EE ((p,v)::E) ps vs
 |E,_,_=>E
theorem Iy {m l:Nat}:∀(ps:List Nat) (vs:List Value) (E:Env) (tmps:Array Value),tmps.size=m->(∀p∈ps,p<m)->(∀t v,E.get? t=some v->tmps[t]? =some v)->
  Ag ⟨m,[],some l⟩ {tmps:=(ps.zip vs).foldl (λt (p,v)=>t.setIfInBounds p v) tmps,defers:=[]} (EE E ps vs)
 |[],vs,E,tmps,hs,_,hE=>⟨rfl,by simpa using hs,by cases vs<;>simpa [EE] using hE⟩
 |p::ps,[],E,tmps,hs,_,hE=>⟨rfl,by simpa using hs,by simpa [EE] using hE⟩
 |p::ps,v::vs,E,tmps,hs,hp,hE=>by
  simp only [List.zip_cons_cons,List.foldl_cons,EE]
  refine Iy ps vs _ _ (by simpa using hs) (λq hq=>hp q (by simp [hq])) ?_
  have:=(Ag.put (n:=⟨m,[],some l⟩) (a:={tmps:=tmps,defers:=[]}) (E:=E) ⟨rfl,hs,hE⟩ (d:=some p) v (λt ht=>by cases ht;exact hp p (by simp))).get
  simpa [Env.put,Act.put] using this
def wW (P:Program) (l:Nat) (args:Array Value) (w:World) (K:Bool->World->Prop):Prop:=
 YieldAt Fence.wide 0 P l args w λe w'=>∃b:Bool,e=.returned (.bool b)/\K b w'
def BE (P:Program) (m l:Nat) (r:Loop) (body:Code) (Q:Exit->Act->World->Prop):Exit->Act->World->Prop:=
 Exit.then (λa₁ w₁=>w₁.heap[l]? =some (lo r .ready none)/\Ac P ⟨m,[],some l⟩ body Q a₁ (w₁.putObj l (lo r .busy none))) (λ_ _ _=>False)
theorem NS {m l:Nat} {r:Loop} {ps:Array Tmp} {assign body:Code} {E:Env} {args:List Value} {w:World} {R:Ending->World->Prop} {K:Bool->World->Prop} (hr:KX r m ps assign body E) (hl:w.heap[l]? =some (lo r .ready none))
  (l8:args.length=ps.size) (l6:ps.toList.all (λp=>Nat.blt p m)=true) (hK:∀e w',R e w'->∃b:Bool,e=.returned (.bool b)/\K b w')
  (h:WP P ⟨m,[],some l⟩ assign (BE P m l r body (roundPost P l R)) (EE E ps.toList args) w):wW P l args.toArray w K:=by
 have lI:=run_yield (P:=P) (w:=w) (args:=args.toArray) hl (by simp [hr.ps,l8])
 refine ⟨_,_,_,_,lI,RoundIn.mono (roundIn_of_wpIn (R:=R) trivial ?_) hK⟩
 simp only [lo,hr.ps,hr.assign,hr.body]
 have VX:Ag ⟨m,[],some l⟩ {tmps:=(ps.zip args.toArray).foldl (λt (p,v)=>t.setIfInBounds p v) r.tmps,defers:=[]} (EE E ps.toList args):=by
  have:=Iy (m:=m) (l:=l) ps.toList args E r.tmps hr.size (λp hp=>by simpa using qaT.1 l6 p hp) hr.get
  rw [<-Array.foldl_toList]
  simpa using this
 refine wpIn_mono (h _ VX) λe a' w' he=>?_
 cases e with
 |normal=>
  obtain ⟨h1,h2⟩:=he
  exact ⟨_,run_beginRound h1 rfl,h2⟩
 |_=>exact he.elim
theorem J6 {l:Nat} {r:Loop} {a:Act} {w:World} {R:Ending->World->Prop} (hl:w.heap[l]? =some (lo r .busy none)) (h:R (.returned (.bool true)) (w.putObj l (lo r .ready none))):roundPost P l R .normal a w:=
 ⟨_,_,run_endRound none hl,h⟩
theorem J7 {l:Nat} {r:Loop} {a:Act} {w:World} {R:Ending->World->Prop} (hl:w.heap[l]? =some (lo r .busy none)) (h:R (.returned (.bool false)) (w.putObj l (lo r .done (some .ret)))):roundPost P l R .ret a w:=
 ⟨_,_,run_endRound (some .ret) hl,h⟩
abbrev marked (m D:Nat):Cx:=⟨m,[{target:=.collected D,args:=#[]}],none⟩
def uG (w2:World) (l:Nat) (o:LoopState->Option Code->Obj) (N:World->Prop) (X:Nat->World->Prop) (T:World->Prop):Prop:=
 (w2.heap[l]? =some (o .ready none)/\N (w2.putObj l (o .exhausted none)))\/
 (∃id,w2.heap[l]? =some (o .done (some (.exit id)))/\X id (w2.putObj l (o .exhausted (some (.exit id)))))\/
 (w2.heap[l]? =some (o .done (some .ret))/\T (w2.putObj l (o .exhausted (some .ret))))
theorem WP.range {m:Nat} {c:Code} {g:Operand} {ps:Array Tmp} {assign body:Code} {gf:Nat} {lb:Array Value} {Q:Exit->Act->World->Prop} {E:Env} {w:World} (N:World->Prop) (X:Nat->World->Prop) (T:World->Prop)
  (hc:c=.rangeFunc g ps assign body) (hg:E.val g=some (.func (.func gf) #[] lb)) (A6:fC P gf=true)
  (hN:∀w',N w'->∀a,Ag (marked m w.heap.size) a E->Q .normal a w') (hX:∀id w',X id w'->∀a,Ag (marked m w.heap.size) a E->Q (.exit id) a w') (hT:∀w',T w'->∀a,Ag (marked m w.heap.size) a E->Q .ret a w')
  (h:∀r:Loop,KX r m ps assign body E->Calls P gf (#[.func (.yield (w.heap.size+1)) #[] #[]]++lb) ((w.alloc (.deferred (some []))).alloc (lo r .ready none)) λe w2=>(∃v,e=.returned v)/\uG w2 (w.heap.size+1) (lo r) N X T):
  WP P (cx m) c Q E w:=by
 subst hc
 intro a ha
 have VX:Ag (marked m w.heap.size) {a with defers:=[{target:=.collected w.heap.size,args:=#[]}]++a.defers} E:=⟨by show _++a.defers=_;rw [ha.defers];rfl,ha.size,ha.get⟩
 have hgv:a.eval g=.func (.func gf) #[] lb:=ha.val hg
 refine wpIn_rangeFunc (F:=FW (cx m)) (n:=0) λfn _=>?_
 obtain ⟨r,hr⟩:∃r:Loop,r={state:=.ready,pending:=none,fn,tmps:=a.tmps,params:=ps,assign,body,defers:=w.heap.size}:=⟨_,rfl⟩
 have ZO:KX r m ps assign body E:=by subst hr;exact ⟨rfl,rfl,rfl,ha.size,ha.get⟩
 have V1:=h r ZO
 have e1:(Instr.enterLoop fn a.tmps ps assign body none).run P w=.ok (w.heap.size+1,[{target:=.collected w.heap.size,args:=#[]}]) ((w.alloc (.deferred (some []))).alloc (lo r .ready none)):=by
  rw [run_enterLoop_outer];subst hr;rfl
 generalize hW1:(w.alloc (.deferred (some []))).alloc (lo r .ready none)=W1 at *
 have e2:(resolve a.eval (rangeCall g (w.heap.size+1)) 0).run P W1=.ok {target:=.fn (.func gf) lb,args:=#[.func (.yield (w.heap.size+1)) #[] #[]]} W1:=by
  simp only [resolve,hgv]
  simp [go_sem]
 have e3:(invoke (.fn (.func gf) lb) #[.func (.yield (w.heap.size+1)) #[] #[]]).run P W1=.ok (.enter gf (#[.func (.yield (w.heap.size+1)) #[] #[]]++lb)) W1:=by
  simp [invoke,go_sem,l9 A6]
 have e4:CallsIn (FW (cx m)) 0 P gf (#[.func (.yield (w.heap.size+1)) #[] #[]]++lb) W1 (rangePost (FW (cx m)) 0 P (w.heap.size+1) Q {a with defers:=[{target:=.collected w.heap.size,args:=#[]}]++a.defers}):=by
  refine yC (n:=cx m) (V1.mono ?_)
  rintro e w2 ⟨⟨v,rfl⟩,Zl⟩
  rcases Zl with ⟨h1,h2⟩|⟨id,h1,h2⟩|⟨h1,h2⟩
  .exact ⟨_,_,run_endLoop (r:={r with state:=.ready,pending:=none}) h1 (by simp),hN _ h2 _ VX⟩
  .exact ⟨_,_,run_endLoop (r:={r with state:=.done,pending:=some (.exit id)}) h1 (by simp),wpIn_exit (hX id _ h2 _ VX)⟩
  .exact ⟨_,_,run_endLoop (r:={r with state:=.done,pending:=some .ret}) h1 (by simp),wpIn_ret (hT _ h2 _ VX)⟩
 exact ⟨_,_,_,_,_,_,_,_,e1,e2,λ_ _=>trivial,e3,λh=>(by cases h),e4⟩
def GX (P:Program) (fn:Func) (E:Env) (w:World) (D:Nat) (R:aD):Prop:=
 w.heap[D]? =some (.deferred (some []))/\rJ P fn E (w.putObj D (.deferred none)) λv=>R (.returned v) (w.putObj D (.deferred none))
theorem y9 {fn:Func} {tmps:Array Value} {R:Ending->World->Prop} {w:World} {v:Value} (h:(results fn tmps).run P w=.ok v w) (hr:R (.returned v) w):LeavesInM Fence.wide 0 P fn tmps R [] .returning w:=by
 show LeavesIn _ _ _ _ _ _ _ _ _
 simp only [LeavesIn]
 exact ⟨v,h,hr⟩
theorem GW {m:Nat} {fn:Func} {a:Act} {E:Env} {w:World} {R:aD} (ha:Ag (cx m) a E) (h:rJ P fn E w λv=>R (.returned v) w):LeavesInM Fence.wide 0 P fn a.tmps R a.defers .returning w:=by
 obtain ⟨v,h1,h2⟩:=wK ha h
 rw [ha.defers]
 exact y9 h1 h2
theorem rv {m D:Nat} {fn:Func} {a:Act} {E:Env} {w:World} {R:aD} (ha:Ag (marked m D) a E) (h:GX P fn E w D R):LeavesInM Fence.wide 0 P fn a.tmps R a.defers .returning w:=by
 obtain ⟨h0,h⟩:=h
 obtain ⟨v,h1,h2⟩:=wK (n:=marked m D) ha h
 rw [ha.defers]
 exact ⟨by simp,.inl ⟨D,_,rfl,run_takeDeferred h0,y9 h1 h2⟩⟩
theorem BX {f:FuncId} {fn:Func} {c:Code} {args:List Value} {w:World} {R:Ending->World->Prop} (hf:P.funcs[f]? =some fn) (hb:fn.body=some c) (l8:Nat.ble args.length fn.ntmps=true)
  (h:WP P (cx fn.ntmps) c (bodyPostM Fence.wide 0 P fn R) (rF 0 args) w):Calls P f args.toArray w R:=by
 have hs:=Nat.le_of_ble_eq_true l8
 refine callsIn_wide.1 (callsIn_of_wp_marks (n:=0) hf hb trivial (h _ ⟨rfl,by simp;omega,?_⟩))
 intro t v ht
 have:=(wg args 0 t v ht).2
 have l6:t<args.length:=(oN.1 this).1
 rw [Array.getElem?_append_left (by simpa using l6)]
 simpa using this
def BN (v:Option Value) (K:Nat->Prop):Prop:=match v with |some (.func (.yield l) fs cs)=>hG (Nat.beq fs.size 0&&Nat.beq cs.size 0) (K l)|_=>False
theorem BO {v:Option Value} {K:Nat->Prop} (h:BN v K):∃l,v=some (.func (.yield l) #[] #[])/\K l:=by
 unfold BN at h
 split at h
 .rename_i l fs cs
  obtain ⟨hb,hk⟩:=bY h
  simp only [Bool.and_eq_true,Nat.beq_eq] at hb
  have e1:fs=#[]:=Array.eq_empty_of_size_eq_zero hb.1
  have e2:cs=#[]:=Array.eq_empty_of_size_eq_zero hb.2
  subst e1 e2
  exact ⟨l,rfl,hk⟩
 .exact h.elim
end
abbrev _root_.Go.Code.sn (c:Code):Code:=Code.snd c
abbrev _root_.Go.Code.fs (c:Code):Code:=Code.fst c
abbrev _root_.Go.Value.i (x:Int):Value:=.int .i64 x
abbrev _root_.Go.Value.u (x:Int):Value:=.int .u64 x
abbrev _root_.Go.Value.s0:Value:=.string (ByteArray.mk #[])
abbrev nb (w:World):Addr:=⟨w.heap.size,0,none⟩
section
variable {P:Program} {n:Cx} {Q:Exit->Act->World->Prop} {E:Env} {w:World} {K:Env->World->Prop}
def XZ (P:Program) (c:Code) (K:Env->World->Prop) (E:Env) (w:World):Prop:=mm P (Code.ops c) false K (List.range (Code.ops c).size) E w []
def tgK (P:Program) (c:Code) (t:Tr) (K:Env->World->Prop) (E:Env) (w:World):Prop:=rB P (Code.ops c) K t E w.drew []
abbrev xQ (P:Program) (c:Code) (K:Env->World->Prop) (E:Env) (w:World):Prop:=XZ P (Code.fst c) K E w
abbrev stK (P:Program) (c:Code) (t:Tr) (K:Env->World->Prop) (E:Env) (w:World):Prop:=tgK P (Code.fst c) t K E w
def Ef:Code->Bool
 |.seq _ _=>true
 |_=>false
theorem Cz {c:Code} (h:Ef c=true):c=.seq (Code.fst c) (Code.snd c):=by cases c<;>first |rfl|cases h
theorem vX {a b:Bool} (h:(a&&b)=true):a=true/\b=true:=by simpa using h
theorem rg (c:Code) (hc:GV n c=true) (h:XZ P c K E w) (hk:∀E' w' a',Ag n a' E'->K E' w'->Q .normal a' w'):WP P n c Q E w:=WP.RL K hc h hk
theorem sr (c:Code) (h:xQ P c K E w) (hk:∀E' w',K E' w'->WP P n (Code.snd c) Q E' w') (hc:(Ef c&&GV n (Code.fst c))=true:=by kernel_rfl):WP P n c Q E w:=
 WP.seq (Cz (vX hc).1) (WP.RL K (vX hc).2 h λE' w' a' hA hK=>hk E' w' hK a' hA)
theorem st (c:Code) {t:Tr} (hc:(Ef c&&Bn P n (Code.fst c) t)=true) (h:stK P c t K E w) (hk:∀E' w',K E' w'->WP P n (Code.snd c) Q E' w'):WP P n c Q E w:=
 WP.seq (Cz (vX hc).1) (WP.tree t K (vX hc).2 h λE' w' a' hA hK=>hk E' w' hK a' hA)
theorem sq (c:Code) (h:WP P n (Code.fst c) (Exit.then (Ac P n (Code.snd c) Q) Q) E w) (hc:Ef c=true:=by kernel_rfl):WP P n c Q E w:=WP.seq (Cz hc) h
theorem bk (c:Code) (id:Nat) (hc:c=.block id (Code.fst c)) (h:WP P n (Code.fst c) (Exit.inBlock id Q) E w):WP P n c Q E w:=WP.block hc h
theorem cn (c:Code) {o:Operand} {A B:Prop} (h:pH (E.val o) A B) (h1:A->WP P n (Code.fst c) Q E w) (h2:B->WP P n (Code.snd c) Q E w) (hc:c=.cond o (Code.fst c) (Code.snd c):=by kernel_rfl):WP P n c Q E w:=WP.pH hc h1 h2 h
theorem sk (c:Code) (h:∀a,Ag n a E->Q .normal a w) (hc:c=.skip:=by kernel_rfl):WP P n c Q E w:=WP.skip hc h
theorem xt (c:Code) (id:Nat) (hc:c=.exit id) (h:∀a,Ag n a E->Q (.exit id) a w):WP P n c Q E w:=WP.exit hc h
theorem rt (c:Code) (h:∀a,Ag n a E->Q .ret a w) (hc:c=.ret:=by kernel_rfl):WP P n c Q E w:=WP.ret hc h
theorem lp (c:Code) (hc:c=.loop (Code.fst c)) (h:LP P n (Code.fst c) Q E w):WP P n c Q E w:=WP.loop hc h
theorem nx {c:Code} {a:Act} (ha:Ag n a E) (h:WP P n c Q E w):Exit.then (Ac P n c Q) Q .normal a w:=h a ha
end
open Go.RowKit
structure Fr (M:Nat->Prop) (w w':World):Prop where
 os:w'.os=w.os
 tape:w'.tape=w.tape
 output:w'.output=w.output
 size:w.heap.size<=w'.heap.size
 gV:∀b,b<w.heap.size->¬M b->w'.heap[b]? =w.heap[b]?
theorem Fr.refl (M:Nat->Prop) (w:World):Fr M w w:=⟨rfl,rfl,rfl,Nat.le_refl _,λ_ _ _=>rfl⟩
theorem Fr.trans {M M':Nat->Prop} {a b c:World} (h:Fr M a b) (k:Fr M' b c) (hm:∀x,x<a.heap.size->M' x->M x):Fr M a c:=
 ⟨k.os.trans h.os,k.tape.trans h.tape,k.output.trans h.output,Nat.le_trans h.size k.size,
  λx hx hn=>(k.gV x (Nat.lt_of_lt_of_le hx h.size) (λe=>hn (hm x hx e))).trans (h.gV x hx hn)⟩
theorem Fr.mono {M M':Nat->Prop} {a b:World} (h:Fr M a b) (hm:∀x,x<a.heap.size->M x->M' x):Fr M' a b:=
 ⟨h.os,h.tape,h.output,h.size,λx hx hn=>h.gV x hx (λe=>hn (hm x hx e))⟩
theorem Fr.drew (M:Nat->Prop) (w:World):Fr M w w.drew:=⟨rfl,rfl,rfl,Nat.le_refl _,λ_ _ _=>rfl⟩
theorem Fr.alloc (M:Nat->Prop) (w:World) (o:Obj):Fr M w (w.alloc o):=⟨rfl,rfl,rfl,by simp,λk hk _=>_root_.Go.heap_alloc_old w o k hk⟩
theorem Fr.set {M:Nat->Prop} (w:World) (p:Addr) (v:Value) (h:M p.block):Fr M w (w.setCell p v):=
 ⟨rfl,rfl,rfl,by simp [World.setCell],λk _ hn=>Below.heap_setCell w p v k (λe=>hn (e▸h))⟩
theorem Fr.grown {M:Nat->Prop} {w w':World} {r:Option Nat} (h:w.grownBy w' r) (hm:∀b,r=some b->M b):Fr M w w':=
 ⟨h.os,h.tape,h.output,h.size,λb hb hn=>h.block b hb (λe=>hn (hm b e.symm))⟩
theorem Fr.setObj {M:Nat->Prop} (w:World) (r:Nat) (o:Obj) (h:M r):Fr M w {w with heap:=w.heap.setIfInBounds r o}:=
 ⟨rfl,rfl,rfl,by simp,λk _ hn=>by
  have:r≠k:=λe=>hn (e▸h)
  simp [Array.getElem?_setIfInBounds_ne this]⟩
theorem Fr.below {w w':World} (h:Fr (λ_=>False) w w'):Below w.heap.size w w':=⟨h.os,h.tape,h.output,h.size,λk hk=>h.gV k hk (λe=>e)⟩
theorem Fr.at {M:Nat->Prop} {w w':World} (h:Fr M w w') {b:Nat} {o:Obj} (hb:w.heap[b]? =some o) (hn:¬M b):w'.heap[b]? =some o:=
 (h.gV b (Array.getElem?_eq_some_iff.1 hb).1 hn).trans hb
theorem gg {w:World} {b:Nat} {o:Obj} (hb:w.heap[b]? =some o):b<w.heap.size:=(Array.getElem?_eq_some_iff.1 hb).1
theorem nk (w:World) (o:Obj):(w.alloc o).heap[w.heap.size]? =some o:=_root_.Go.heap_alloc_new w o
theorem size_alloc (w:World) (o:Obj):(w.alloc o).heap.size=w.heap.size+1:=by simp
theorem cellAt {w:World} {p:Addr} {cs:Array Value} {T:TypeId} {f:Nat×Nat} {i:Nat} {v:Value} (h:w.heap[p.block]? =some (.cells cs T f)) (hs:p.spot=none) (hi:cs[p.off+i]? =some v):
  w.cell? (p.add i)=some v:=by
 unfold Addr.add
 split
 .rename_i h0
  subst h0
  simp [World.cell?,h,hs]
  simpa using hi
 .simp [World.cell?,h,hi]
theorem frozenAt {w:World} {p:Addr} {cs:Array Value} {T:TypeId} {i:Nat} (h:w.heap[p.block]? =some (.cells cs T (0,0))):w.frozen? (p.add i)=false:=by
 unfold Addr.add
 split<;>simp [World.frozen?,h]
theorem setAt {w:World} {p:Addr} {cs:Array Value} {T:TypeId} {f:Nat×Nat} {i:Nat} {v:Value} (h:w.heap[p.block]? =some (.cells cs T f)) (hs:p.spot=none):
  (w.setCell (p.add i) v).heap[p.block]? =some (.cells (cs.setIfInBounds (p.off+i) v) T f):=by
 have hb:(p.add i).block=p.block:=by unfold Addr.add;split<;>rfl
 have hsp:(p.add i).spot=none:=by unfold Addr.add;split<;>simp [hs]
 have ho:(p.add i).off=p.off+i:=by unfold Addr.add;split<;>simp_all
 simp [World.setCell,hb,h,hsp,ho,Array.getElem?_modify]
theorem gF (p:Addr) (i:Nat):(p.add i).block=p.block:=by unfold Addr.add;split<;>rfl
def bC (s:Sl):List Nat:=match s.a with |some p=>[p.block]|none=>[]
def Row (w:World) (T:TypeId) (s:Sl) (vs:List Value):Prop:=
 (s.a=none/\s.n=0/\s.c=0/\vs=[])\/∃b o cs f,s.a=some ⟨b,o,none⟩/\w.heap[b]? =some (.cells cs T f)/\∀i v,vs[i]? =some v->cs[o+i]? =some v
theorem Row.nil (w:World) (T:TypeId):Row w T ⟨none,0,0⟩ []:=.inl ⟨rfl,rfl,rfl,rfl⟩
theorem Row.gV {w w':World} {T:TypeId} {s:Sl} {vs:List Value} (h:Row w T s vs) (hk:∀b∈bC s,b<w.heap.size->w'.heap[b]? =w.heap[b]?):Row w' T s vs:=by
 rcases h with h|⟨b,o,cs,f,ha,hb,hc⟩
 .exact .inl h
 .exact .inr ⟨b,o,cs,f,ha,(hk b (by simp [bC,ha]) (gg hb)).trans hb,hc⟩
theorem Row.fr {M:Nat->Prop} {w w':World} {T:TypeId} {s:Sl} {vs:List Value} (h:Row w T s vs) (hf:Fr M w w') (hn:∀b∈bC s,¬M b):Row w' T s vs:=
 h.gV λb hb hl=>hf.gV b hl (hn b hb)
theorem Row.lt {w:World} {T:TypeId} {s:Sl} {vs:List Value} (h:Row w T s vs):∀b∈bC s,b<w.heap.size:=by
 rcases h with ⟨ha,_⟩|⟨b,o,cs,f,ha,hb,hc⟩
 .simp [bC,ha]
 .simp [bC,ha];exact gg hb
theorem Row.cell {w:World} {T:TypeId} {s:Sl} {vs:List Value} {i:Nat} {v:Value} (h:Row w T s vs) (hi:vs[i]? =some v):∃p,s.a=some p/\w.cell? (p.add i)=some v:=by
 rcases h with ⟨_,_,_,rfl⟩|⟨b,o,cs,f,ha,hb,hc⟩
 .cases hi
 .exact ⟨_,ha,cellAt (p:=⟨b,o,none⟩) hb rfl (hc i v hi)⟩
theorem Row.aX {w:World} {T:TypeId} {s:Sl} {vs:List Value} {i:Nat} {v:Value} {K:Addr->Prop} (h:Row w T s vs) (hi:vs[i]? =some v) (hk:∀p,s.a=some p->(∀(j:Nat) (u:Value),vs[j]? =some u->w.cell? (p.add j)=some u)->K p):W.aX s.a K:=by
 rcases h with ⟨_,_,_,rfl⟩|⟨b,o,cs,f,ha,hb,hc⟩
 .cases hi
 .rw [ha]
  exact hk _ ha λj u hj=>cellAt (p:=⟨b,o,none⟩) hb rfl (hc j u hj)
def aP (w:World) (e:TypeId) (sz:Nat) (s:Sl) (xs:List Value):Prop:=w.ownsRow 0 e sz s.v s.n xs
theorem aP.nil (w:World) (e:TypeId) (sz:Nat):aP w e sz ⟨none,0,0⟩ []:=World.ownsRow_nil w 0 e sz
theorem aP.len {w:World} {e:TypeId} {sz:Nat} {s:Sl} {xs:List Value} (h:aP w e sz s xs):xs.length=s.n *sz:=h.1
theorem aP.cases {w:World} {e:TypeId} {sz:Nat} {s:Sl} {xs:List Value} (h:aP w e sz s xs):
  (s=⟨none,0,0⟩/\xs=[])\/∃g cur,s.a=some ⟨g,0,none⟩/\w.heap[g]? =some (.cells cur e (0,0))/\s.n<=s.c/\s.c<=maxLen/\cur.size=s.c *sz/\cur.toList.take (s.n *sz)=xs:=by
 obtain ⟨a,n,c⟩:=s
 obtain ⟨hl,h⟩:=h
 rcases h with ⟨h1,h2⟩|⟨g,cap,cur,h1,_,h2,h3,h4,h5,h6⟩
 .cases h1
  exact .inl ⟨rfl,Va (by simpa using hl)⟩
 .cases h1
  exact .inr ⟨g,cur,rfl,h2,h3,h4,h5,h6⟩
theorem aP.row {w:World} {e:TypeId} {sz:Nat} {s:Sl} {xs:List Value} (h:aP w e sz s xs):Row w e s xs:=by
 rcases h.cases with ⟨rfl,rfl⟩|⟨g,cur,ha,hg,_,_,_,ht⟩
 .exact .inl ⟨rfl,rfl,rfl,rfl⟩
 .refine .inr ⟨g,0,cur,(0,0),ha,hg,λi v hi=>?_⟩
  rw [<-ht,qgTk] at hi
  split at hi
  .simpa using hi
  .cases hi
theorem aP.gV {w w':World} {e:TypeId} {sz:Nat} {s:Sl} {xs:List Value} (h:aP w e sz s xs) (hk:∀b∈bC s,b<w.heap.size->w'.heap[b]? =w.heap[b]?):aP w' e sz s xs:=by
 obtain ⟨hl,h⟩:=h
 refine ⟨hl,?_⟩
 rcases h with h|⟨g,cap,cur,h1,h2,h3,r⟩
 .exact .inl h
 .have ha:s.a=some ⟨g,0,none⟩:=(Value.slice.inj h1).1
  exact .inr ⟨g,cap,cur,h1,h2,(hk g (by simp [bC,ha]) (gg h3)).trans h3,r⟩
theorem aP.fr {M:Nat->Prop} {w w':World} {e:TypeId} {sz:Nat} {s:Sl} {xs:List Value} (h:aP w e sz s xs) (hf:Fr M w w') (hn:∀b∈bC s,¬M b):aP w' e sz s xs:=
 h.gV λb hb hl=>hf.gV b hl (hn b hb)
theorem aP.lt {w:World} {e:TypeId} {sz:Nat} {s:Sl} {xs:List Value} (h:aP w e sz s xs):∀b∈bC s,b<w.heap.size:=h.row.lt
theorem aP.made (w:World) (e:TypeId) (sz n:Nat) (cs:List Value) (hc:cs.length=n *sz) (hn:n<=maxLen):aP (w.alloc (.cells cs.toArray e)) e sz ⟨some ⟨w.heap.size,0,none⟩,n,n⟩ cs:=
 ⟨hc,.inr ⟨w.heap.size,n,cs.toArray,rfl,Nat.zero_le _,nk w _,Nat.le_refl _,hn,by simpa using hc,by rw [<-hc];simp⟩⟩
theorem Row.made (w:World) (e:TypeId) (n c:Nat) (cs:List Value):Row (w.alloc (.cells cs.toArray e)) e ⟨some ⟨w.heap.size,0,none⟩,n,c⟩ cs:=
 .inr ⟨w.heap.size,0,cs.toArray,(0,0),rfl,nk w _,λi v hi=>by simpa using hi⟩
theorem ui (s:Sl):s.v.ownBlock=s.a.map (·.block):=by
 obtain ⟨a,n,c⟩:=s
 cases a<;>rfl
structure iJ (P:Program) (t e:TypeId) (z:Value) (sz bytes:Nat):Prop where
 ht:P.underlying t=some (.slice e)
 hi:(P.info? e).map (λi=>(i.zero,i.size,i.bytes))=some (some z,sz,bytes)
 hz:z.cells.size=sz
 hs:0<sz
 hb:0<bytes
theorem SO {P:Program} {t ty e:TypeId} {z:Value} {sz bytes:Nat} (el:iJ P t e z sz bytes) {w:World} {s src:Sl} {xs news:List Value}
  {T:TypeId} (ho:aP w e sz s xs) (hr:Row w T src news) (hl:news.length=src.n *sz) (h1:∀u∈news,u.oneCell'=true) (hb:(s.n+src.n) *bytes<=140737488355328):
  ∃s' w',(Builtin.append_ #[t,t] ty #[s.v,src.v]).run P w=.ok s'.v w'/\aP w' e sz s' (xs++news)/\s'.n=s.n+src.n/\Fr (λb=>b∈bC s) w w'/\
   (∀b∈bC s',b∈bC s\/w.heap.size<=b)/\(s'.a=none->s.a=none/\src.n=0):=by
 obtain ⟨i,hi,hz,l8,HX⟩:=info_parts el.hi
 have A5:s.n+src.n<=140737488355328:=by
  have:=Nat.le_mul_of_pos_right (s.n+src.n) el.hb
  omega
 rcases hr with ⟨ha,hn,hc,rfl⟩|⟨b,o,cs,f,ha,VZ,hcs⟩
 .
  obtain ⟨sa,sn,sc⟩:=src
  simp only at ha hn hc
  subst ha hn hc
  have:=run_append_owned_none (P:=P) (w:=w) 0 t ty e i sz el.ht hi s.v s.n xs ho
  refine ⟨s,w,this,by simpa using ho,by simp,Fr.refl _ _,λb hb=>.inl hb,λh=>⟨h,rfl⟩⟩
 .obtain ⟨sa,sn,sc⟩:=src
  simp only at ha hl hb A5
  subst ha
  have vh:∀j u,news[j]? =some u->w.cell? ((⟨b,o,none⟩:Addr).add j)=some u:=λj u hj=>cellAt (p:=⟨b,o,none⟩) VZ rfl (hcs j u hj)
  obtain ⟨v',w',lI,Ap,V5,JH⟩:=run_append_own (P:=P) w 0 t ty e i z sz bytes el.ht hi hz l8 HX el.hz el.hs s.v s.n xs ho ⟨b,o,none⟩ sn sc news hl vh h1 (by unfold maxLen;omega) hb (Nat.zero_le _)
  have hv:∃s':Sl,v'=s'.v/\s'.n=s.n+sn/\(s'.a=none->v'=.slice none 0 0):=by
   rcases Ap.2 with ⟨h1,h2⟩|⟨g,cap,cur,h1,_⟩
   .exact ⟨⟨none,0,0⟩,h1,by show 0=_;omega,λ_=>h1⟩
   .exact ⟨⟨_,_,_⟩,h1,rfl,λh=>by cases h⟩
  obtain ⟨s',rfl,wu,TM⟩:=hv
  refine ⟨s',w',lI,?_,wu,?_,?_,?_⟩
  .unfold aP;rw [wu];exact Ap
  .refine Fr.grown V5 λg hg=>?_
   rw [ui] at hg
   cases Aq:s.a with
   |none=>simp [Aq] at hg
   |some p=>simp [Aq] at hg;simp [bC,Aq,hg]
  .
   intro g hg
   rcases ho.cases with ⟨rfl,rfl⟩|⟨g0,cur,Re,V4,Wd,XF,Gn,N2⟩
   .
    obtain ⟨v2,w2,D7,D4,_,_⟩:=run_append_own (P:=P) w w.heap.size t ty e i z sz bytes el.ht hi hz l8 HX el.hz el.hs (.slice none 0 0) 0 [] (World.ownsRow_nil w _ e sz) ⟨b,o,none⟩ sn sc news hl vh h1 (by unfold maxLen;omega) (by simpa using hb) (Nat.le_refl _)
    have e1:(Result.ok s'.v w':Result Value)=.ok v2 w2:=lI.symm.trans D7
    have e2:=(Result.ok.inj e1).1
    subst e2
    rcases D4.2 with ⟨h1,_⟩|⟨g2,VE,VH,h1,h2,_⟩
    .have:s'.a=none:=(Value.slice.inj h1).1
     simp [bC,this] at hg
    .have:s'.a=some ⟨g2,0,none⟩:=(Value.slice.inj h1).1
     simp [bC,this] at hg
     exact .inr (hg▸h2)
   .obtain ⟨sa0,Ka,Nj⟩:=s
    simp only at Re Wd Gn N2 hb A5
    subst Re
    by_cases yX:Ka+sn<=Nj
    .subst l8
     have rh:Ka *i.size+news.length<=cur.size:=by rw [hl,Gn,<-Nat.add_mul];exact Nat.mul_le_mul_right _ yX
     have D6:=run_append_room (P:=P) w t ty e i el.ht hi g0 Ka Nj cur V4 ⟨b,o,none⟩ sn sc news hl vh h1 yX rh
     have e1:=lI.symm.trans D6
     have:s'.a=some ⟨g0,0,none⟩:=(Value.slice.inj (Result.ok.inj e1).1).1
     simp [bC,this] at hg ⊢
     exact .inl hg
    .subst l8
     have holds:∀j u,xs[j]? =some u->w.cell? ((⟨g0,0,none⟩:Addr).add j)=some u:=World.ownsRow.cells (g:=g0) ho rfl
     have D6:=run_append_grow (P:=P) w t ty e i z el.ht hi hz ⟨g0,0,none⟩ Ka Nj xs ho.len holds ⟨b,o,none⟩ sn sc news hl vh (by omega) (by omega) (growslice_fits (by omega) (by rw [HX];exact hb))
     have e1:=lI.symm.trans D6
     have:s'.a=some ⟨w.heap.size,0,none⟩:=(Value.slice.inj (Result.ok.inj e1).1).1
     simp [bC,this] at hg
     exact .inr (by omega)
  .intro h
   have:=JH.1 (TM h)
   refine ⟨?_,this.2⟩
   exact (Value.slice.inj this.1).1
theorem Row.UC {w:World} {T:TypeId} {s:Sl} {vs:List Value} (h:Row w T s vs):∀b∈bC s,∃cs f,w.heap[b]? =some (.cells cs T f):=by
 rcases h with ⟨ha,_⟩|⟨b,o,cs,f,ha,hb,hc⟩
 .simp [bC,ha]
 .intro b' eD
  have hbb:b'=b:=by simpa [bC,ha] using eD
  subst hbb
  exact ⟨cs,f,hb⟩
theorem Row.one (w:World) (e:TypeId) (cs:List Value):Row (w.alloc (.cells cs.toArray e)) e ⟨some ⟨w.heap.size,0,none⟩,1,1⟩ cs:=Row.made w e 1 1 cs
def qA {α β:Type} (R:α->β->Prop):List α->List β->Prop
 |[],[]=>True
 |a::l,b::m=>R a b/\qA R l m
 |_,_=>False
theorem qA.length {α β:Type} {R:α->β->Prop}:∀{l:List α} {m:List β},qA R l m->l.length=m.length
 |[],[],_=>rfl
 |_::_,_::_,h=>by simp [qA.length h.2]
 |[],_::_,h=>h.elim
 |_::_,[],h=>h.elim
theorem qA.mono {α β:Type} {R R':α->β->Prop}:∀{l:List α} {m:List β},qA R l m->(∀a∈l,∀b∈m,R a b->R' a b)->qA R' l m
 |[],[],_,_=>trivial
 |_::_,_::_,h,k=>⟨k _ qmCS _ qmCS h.1,qA.mono h.2 λa ha b hb=>k a (qmCM _ ha) b (qmCM _ hb)⟩
 |[],_::_,h,_=>h.elim
 |_::_,[],h,_=>h.elim
theorem qA.append {α β:Type} {R:α->β->Prop}:∀{l:List α} {m:List β} {l':List α} {m':List β},qA R l m->qA R l' m'->qA R (l++l') (m++m')
 |[],[],_,_,_,h'=>h'
 |_::_,_::_,_,_,h,h'=>⟨h.1,qA.append h.2 h'⟩
 |[],_::_,_,_,h,_=>h.elim
 |_::_,[],_,_,h,_=>h.elim
theorem qA.drop {α β:Type} {R:α->β->Prop}:∀(k:Nat) {l:List α} {m:List β},qA R l m->qA R (l.drop k) (m.drop k)
 |0,_,_,h=>h
 |_+1,[],[],_=>trivial
 |k+1,_::_,_::_,h=>qA.drop k h.2
 |_+1,[],_::_,h=>h.elim
 |_+1,_::_,[],h=>h.elim
theorem qA.get {α β:Type} {R:α->β->Prop}:∀{l:List α} {m:List β} {i:Nat} {a:α},qA R l m->l[i]? =some a->∃b,m[i]? =some b/\R a b
 |_::_,b::_,0,_,h,e=>by simp at e;subst e;exact ⟨b,by simp,h.1⟩
 |_::_,_::_,i+1,a,h,e=>by simpa using qA.get h.2 (i:=i) (a:=a) (by simpa using e)
 |[],_,_,_,_,e=>by simp at e
 |_::_,[],_,_,h,_=>h.elim
def AE (kd:IntKind) (es:Array MapEntry) (ms:List (Int×Value)):Prop:=es.toList.map (λe=>(e.key,e.val))=ms.map λp=>(Value.int kd p.1,p.2)
def wB (ms:List (Int×Value)) (k:Int):Option Value:=(ms.find? λp=>p.1==k).map (·.2)
theorem sy {kd:IntKind} {k:Int}:∀{es:List MapEntry} {ms:List (Int×Value)} {i:Nat},es.map (λe=>(e.key,e.val))=ms.map (λp=>(Value.int kd p.1,p.2))->
  Instr.findNow (.int kd) (.int kd k) es i=some ((ms.findIdx? λp=>p.1==k).bind λj=>(ms[j]?).map λp=>(i+j,p.2))
 |[],[],i,_=>rfl
 |[],_::_,_,h=>by simp at h
 |_::_,[],_,h=>by simp at h
 |e::es,p::ms,i,h=>by
  simp only [List.map_cons,List.cons.injEq,Prod.mk.injEq] at h
  obtain ⟨⟨h1,h2⟩,h3⟩:=h
  have ih:=sy (kd:=kd) (k:=k) (i:=i+1) h3
  unfold Instr.findNow
  simp only [h1,Instr.sameNow,if_true]
  by_cases hk:p.1=k
  .have e1:(k==p.1)=true:=by simp [hk]
   have e2:(p.1==k)=true:=by simp [hk]
   simp [e1,List.findIdx?_cons,e2,h2]
  .have e1:(k==p.1)=false:=by simp;exact λh=>hk h.symm
   have e2:(p.1==k)=false:=by simpa using hk
   simp only [e1,ih,List.findIdx?_cons,e2,Bool.false_eq_true,if_false]
   congr 1
   cases hf:ms.findIdx? (λp=>p.1==k) with
   |none=>simp
   |some j=>simp [Nat.add_assoc,Nat.add_comm 1 j]
theorem Eo {ms:List (Int×Value)} {k:Int} {i:Nat}:(((ms.findIdx? λp=>p.1==k).bind λj=>(ms[j]?).map λp=>(i+j,p.2)).map (·.2))=wB ms k:=by
 unfold wB
 induction ms generalizing i with
 |nil=>rfl
 |cons p ms ih=>
  by_cases hk:p.1=k
  .have e2:(p.1==k)=true:=by simp [hk]
   simp [List.findIdx?_cons,e2]
  .have e2:(p.1==k)=false:=by simpa using hk
   simp only [List.findIdx?_cons,e2,Bool.false_eq_true,if_false,List.find?_cons]
   rw [<-ih (i:=i+1)]
   cases hf:ms.findIdx? (λp=>p.1==k) with
   |none=>simp
   |some j=>simp [Function.comp_def]
structure KU (P:Program) (T kt et:TypeId) (kd:IntKind) (z:Value):Prop where
 hT:P.underlying T=some (.map kt et)
 hk:P.underlying kt=some (.int kd)
 hz:(P.info? et).map (·.zero)=some (some z)
theorem uQ {P:Program} {kt:TypeId} {kd:IntKind} (hk:P.underlying kt=some (.int kd)) (b:Bool) (k:Int) (w:World):(Instr.checkKey b 10000 kt (.int kd k)).run P w=.ok () w:=by
 unfold Instr.checkKey
 simp [run_underlying hk]
theorem tM {P:Program} {et:TypeId} {z:Value} (hz:(P.info? et).map (·.zero)=some (some z)) (w:World):(zeroValue et).run P w=.ok z w:=by
 obtain ⟨i,hi,hzz⟩:=Option.map_eq_some_iff.1 hz
 simp [zeroValue,typeInfo,hi,hzz]
theorem Au {P:Program} {T kt et:TypeId} {kd:IntKind} {z:Value} (mo:KU P T kt et kd z) {w:World} {mb:Nat} {es:Array MapEntry} {clock:Nat} {ms:List (Int×Value)}
  (hm:w.heap[mb]? =some (.map es clock)) (vU:AE kd es ms) (k:Int) (v:Value) (wx:wB ms k=none):
  ∃w' HL,(Instr.mapUpdate T (.map (some mb)) (.int kd k) v).run P w=.ok () w'/\w'.heap[mb]? =some (.map HL (clock+1))/\AE kd HL (ms++[(k,v)])/\Fr (λb=>b=mb) w w'/\w'.heap.size=w.heap.size:=by
 have hf:=sy (k:=k) (i:=0) vU
 have hg:(getObj mb).run P w=.ok (.map es clock) w:=by simp [getObj,Sem.run,hm]
 have An:=Eo (ms:=ms) (k:=k) (i:=0)
 have l6:=gg hm
 have hr:((ms.findIdx? λp=>p.1==k).bind λj=>(ms[j]?).map λp=>(0+j,p.2))=none:=by
  rw [wx] at An;simpa using An
 refine ⟨{w with heap:=w.heap.setIfInBounds mb (.map (es.push {key:=.int kd k,val:=v,born:=clock}) (clock+1))},es.push {key:=.int kd k,val:=v,born:=clock},?_,by simp [l6],?_,Fr.setObj w mb _ rfl,by simp⟩
 .unfold Instr.mapUpdate Instr.findKey
  simp only [Sem.run_bind,run_underlying mo.hT,Result.andThen_ok,hg,uQ mo.hk,run_underlying mo.hk,hf,hr]
  simp [setObj,Sem.run,hm]
 .unfold AE at vU ⊢
  simp [vU]
theorem JV {P:Program} {t e:TypeId} {z:Value} {sz bytes:Nat} (el:iJ P t e z sz bytes) (w:World) (n:Nat) (hb:n *bytes<=140737488355328):
  ∃w',(Instr.makeSlice t (.int .i64 (n:Int)) (.int .i64 (n:Int))).run P w=.ok (.slice (some ⟨w.heap.size,0,none⟩) n n) w'/\aP w' e sz ⟨some ⟨w.heap.size,0,none⟩,n,n⟩ (madeCells z.cells (n *sz)).toList/\Fr (λ_=>False) w w':=by
 obtain ⟨i,hi,hz,l8,HX⟩:=info_parts el.hi
 have HY:n<=140737488355328:=by
  have:=Nat.le_mul_of_pos_right n el.hb
  omega
 obtain ⟨w',h1,h2,h3⟩:=run_make_full (P:=P) w 0 t e i z sz el.ht hi hz l8 .i64 .i64 n (by rw [HX,Nat.mul_comm];omega) (by unfold maxLen;omega) (Nat.zero_le _)
 exact ⟨w',h1,h2,Fr.grown h3 λ_ h=>by cases h⟩
abbrev bI (w w':World):Prop:=Fr (λ_=>False) w w'
abbrev bF (b:Nat):Addr:=⟨b,0,none⟩
def og (b:UInt8):Value:=.int .u8 (b.toNat:Int)
def jm (n:Int):Value:=.int .i64 n
theorem Ji (bs:List UInt8):∀u∈bs.map og,u.oneCell'=true:=by
 intro u hu;obtain ⟨b,_,rfl⟩:=oT.1 hu;rfl
theorem Ee (l:List Int):∀u∈l.map jm,u.oneCell'=true:=by
 intro u hu;obtain ⟨b,_,rfl⟩:=oT.1 hu;rfl
theorem Fr.Ab {M:Nat->Prop} {a b c:World} (h:Fr M a b) (k:bI b c):Fr M a c:=h.trans k λ_ _ h=>h.elim
theorem Fr.of0 {M:Nat->Prop} {a b:World} (h:bI a b):Fr M a b:=h.mono λ_ _ h=>h.elim
theorem Fr.new {M:Nat->Prop} {a b:World} (h:Fr M a b) (hn:∀x,x<a.heap.size->¬M x):bI a b:=h.mono λx hx hm=>hn x hx hm
theorem oY {w:World} {p:Addr} {v:Value} (hc:w.cell? p=some v):p.block<w.heap.size:=by
 unfold World.cell? at hc
 cases e:w.heap[p.block]? with
 |none=>rw [e] at hc;simp at hc
 |some o=>exact (Array.getElem?_eq_some_iff.1 e).1
theorem OC {M:Nat->Prop} {w w':World} (h:Fr M w w') {p:Addr} {v:Value} (hc:w.cell? p=some v) (hn:¬M p.block):w'.cell? p=some v:=by
 have:=h.gV p.block (oY hc) hn
 unfold World.cell? at hc ⊢
 rw [this];exact hc
theorem add_add (p:Addr) (i j:Nat):(p.add i).add j=p.add (i+j):=by
 unfold Addr.add
 by_cases h1:i=0<;>by_cases h2:j=0<;>simp [h1,h2,Nat.add_assoc]
theorem uH (p:Addr):p.add 0=p:=by simp [Addr.add]
def oz (w:World) (s:Sl) (vs:List Value):Prop:=(s.a=none->s.n=0/\s.c=0)/\∀i v,vs[i]? =some v->∃p,s.a=some p/\w.cell? (p.add i)=some v
theorem oz.nil (w:World):oz w ⟨none,0,0⟩ []:=⟨λ_=>⟨rfl,rfl⟩,λi v h=>by simp at h⟩
theorem Row.LL {w:World} {T:TypeId} {s:Sl} {vs:List Value} (h:Row w T s vs):oz w s vs:=by
 refine ⟨λha=>?_,λi v hi=>h.cell hi⟩
 rcases h with ⟨_,h1,h2,_⟩|⟨b,o,cs,f,hb,_⟩
 .exact ⟨h1,h2⟩
 .rw [ha] at hb;cases hb
theorem oz.fr {M:Nat->Prop} {w w':World} {s:Sl} {vs:List Value} (h:oz w s vs) (hf:Fr M w w') (hn:∀b∈bC s,¬M b):oz w' s vs:=
 ⟨h.1,λi v hi=>by
  obtain ⟨p,hp,hc⟩:=h.2 i v hi
  exact ⟨p,hp,OC hf hc (by rw [gF];exact hn _ (by simp [bC,hp]))⟩⟩
theorem oz.get {w:World} {s:Sl} {vs:List Value} (h:oz w s vs) {i j:Nat} {v:Value} (hi:vs[i]? =some v) (hj:j=i *1) {K:Addr->Prop} (hk:∀p,s.a=some p->w.cell? (p.add j)=some v->K p):W.aX s.a K:=by
 obtain ⟨p,hp,hc⟩:=h.2 i v hi
 rw [hp]
 rw [Nat.mul_one] at hj;subst hj
 exact hk p hp hc
def sub (s:Sl) (l h:Nat):Sl:=⟨if s.c=l then s.a else s.a.map (·.add (l *1)),h - l,s.c - l⟩
theorem oz.sub {w:World} {s:Sl} {vs:List Value} (h:oz w s vs) (l hi:Nat) (h1:vs.length<=s.n) (h2:s.n<=s.c) (hl:l<=hi) (hh:hi<=s.c):oz w (sub s l hi) ((vs.take hi).drop l):=by
 refine ⟨λha=>?_,λi v hv=>?_⟩
 .have:s.a=none:=by
   unfold W.sub at ha
   simp only at ha
   split at ha
   .exact ha
   .simpa using ha
  obtain ⟨e1,e2⟩:=h.1 this
  unfold W.sub
  simp only
  omega
 .rw [List.getElem?_drop,qgTk] at hv
  split at hv
  .rename_i l6
   obtain ⟨p,hp,hc⟩:=h.2 _ _ hv
   have hlen:=(oN.1 hv).1
   unfold W.sub
   simp only [hp]
   rw [if_neg (by omega)]
   exact ⟨_,rfl,by rw [add_add,Nat.mul_one];exact hc⟩
  .cases hv
theorem pY {P:Program} {t ty e:TypeId} {z:Value} {sz bytes:Nat} (el:iJ P t e z sz bytes) {w:World} {s src:Sl} {xs news:List Value}
  (ho:aP w e sz s xs) (hr:oz w src news) (hl:news.length=src.n *sz) (h1:∀u∈news,u.oneCell'=true) (hb:(s.n+src.n) *bytes<=140737488355328):
  ∃s' w',(Builtin.append_ #[t,t] ty #[s.v,src.v]).run P w=.ok s'.v w'/\aP w' e sz s' (xs++news)/\s'.n=s.n+src.n/\Fr (λb=>b∈bC s) w w'/\
   (∀b∈bC s',b∈bC s\/w.heap.size<=b)/\(s'.a=none->s.a=none/\src.n=0):=by
 obtain ⟨i,hi,hz,l8,HX⟩:=info_parts el.hi
 have A5:s.n+src.n<=140737488355328:=by
  have:=Nat.le_mul_of_pos_right (s.n+src.n) el.hb
  omega
 obtain ⟨sa,sn,sc⟩:=src
 cases sa with
 |none=>
  obtain ⟨e1,e2⟩:=hr.1 rfl
  simp only at e1 e2
  subst e1 e2
  have JH:news=[]:=Va (by simpa using hl)
  subst JH
  have:=run_append_owned_none (P:=P) (w:=w) 0 t ty e i sz el.ht hi s.v s.n xs ho
  exact ⟨s,w,this,by simpa using ho,by simp,Fr.refl _ _,λb hb=>.inl hb,λh=>⟨h,rfl⟩⟩
 |some q=>
  simp only at hl hb A5
  have vh:∀j u,news[j]? =some u->w.cell? (q.add j)=some u:=λj u hj=>by
   obtain ⟨p,hp,hc⟩:=hr.2 j u hj
   cases hp;exact hc
  obtain ⟨v',w',lI,Ap,V5,JH⟩:=run_append_own (P:=P) w 0 t ty e i z sz bytes el.ht hi hz l8 HX el.hz el.hs s.v s.n xs ho q sn sc news hl vh h1 (by unfold maxLen;omega) hb (Nat.zero_le _)
  have hv:∃s':Sl,v'=s'.v/\s'.n=s.n+sn/\(s'.a=none->v'=.slice none 0 0):=by
   rcases Ap.2 with ⟨h1,h2⟩|⟨g,cap,cur,h1,_⟩
   .exact ⟨⟨none,0,0⟩,h1,by show 0=_;omega,λ_=>h1⟩
   .exact ⟨⟨_,_,_⟩,h1,rfl,λh=>by cases h⟩
  obtain ⟨s',rfl,wu,TM⟩:=hv
  refine ⟨s',w',lI,?_,wu,?_,?_,?_⟩
  .unfold aP;rw [wu];exact Ap
  .refine Fr.grown V5 λg hg=>?_
   rw [ui] at hg
   cases Aq:s.a with
   |none=>simp [Aq] at hg
   |some p=>simp [Aq] at hg;simp [bC,Aq,hg]
  .intro g hg
   rcases ho.cases with ⟨rfl,rfl⟩|⟨g0,cur,Re,V4,Wd,XF,Gn,N2⟩
   .obtain ⟨v2,w2,D7,D4,_,_⟩:=run_append_own (P:=P) w w.heap.size t ty e i z sz bytes el.ht hi hz l8 HX el.hz el.hs (.slice none 0 0) 0 [] (World.ownsRow_nil w _ e sz) q sn sc news hl vh h1 (by unfold maxLen;omega) (by simpa using hb) (Nat.le_refl _)
    have e1:(Result.ok s'.v w':Result Value)=.ok v2 w2:=lI.symm.trans D7
    have e2:=(Result.ok.inj e1).1
    subst e2
    rcases D4.2 with ⟨h1,_⟩|⟨g2,VE,VH,h1,h2,_⟩
    .have:s'.a=none:=(Value.slice.inj h1).1
     simp [bC,this] at hg
    .have:s'.a=some ⟨g2,0,none⟩:=(Value.slice.inj h1).1
     simp [bC,this] at hg
     exact .inr (hg▸h2)
   .obtain ⟨sa0,Ka,Nj⟩:=s
    simp only at Re Wd Gn N2 hb A5
    subst Re
    by_cases yX:Ka+sn<=Nj
    .subst l8
     have rh:Ka *i.size+news.length<=cur.size:=by rw [hl,Gn,<-Nat.add_mul];exact Nat.mul_le_mul_right _ yX
     have D6:=run_append_room (P:=P) w t ty e i el.ht hi g0 Ka Nj cur V4 q sn sc news hl vh h1 yX rh
     have e1:=lI.symm.trans D6
     have:s'.a=some ⟨g0,0,none⟩:=(Value.slice.inj (Result.ok.inj e1).1).1
     simp [bC,this] at hg ⊢
     exact .inl hg
    .subst l8
     have holds:∀j u,xs[j]? =some u->w.cell? ((⟨g0,0,none⟩:Addr).add j)=some u:=World.ownsRow.cells (g:=g0) ho rfl
     have D6:=run_append_grow (P:=P) w t ty e i z el.ht hi hz ⟨g0,0,none⟩ Ka Nj xs ho.len holds q sn sc news hl vh (by omega) (by omega) (growslice_fits (by omega) (by rw [HX];exact hb))
     have e1:=lI.symm.trans D6
     have:s'.a=some ⟨w.heap.size,0,none⟩:=(Value.slice.inj (Result.ok.inj e1).1).1
     simp [bC,this] at hg
     exact .inr (by omega)
  .intro h
   have:=JH.1 (TM h)
   refine ⟨?_,this.2⟩
   exact (Value.slice.inj this.1).1
theorem aP.cap {w:World} {e:TypeId} {sz:Nat} {s:Sl} {xs:List Value} (h:aP w e sz s xs):s.n<=s.c:=by
 rcases h.cases with ⟨rfl,_⟩|⟨g,cur,_,_,h,_⟩
 .exact Nat.le_refl _
 .exact h
def Rd (w:World) (s:Sl) (vs:List Value):Prop:=s.n=vs.length/\s.n<=s.c/\oz w s vs
def Ow (w:World) (e:TypeId) (s:Sl) (vs:List Value):Prop:=s.n=vs.length/\aP w e 1 s vs
theorem Ow.rd {w:World} {e:TypeId} {s:Sl} {vs:List Value} (h:Ow w e s vs):Rd w s vs:=⟨h.1,h.2.cap,h.2.row.LL⟩
theorem Rd.fr {M:Nat->Prop} {w w':World} {s:Sl} {vs:List Value} (h:Rd w s vs) (hf:Fr M w w') (hn:∀b∈bC s,¬M b):Rd w' s vs:=⟨h.1,h.2.1,h.2.2.fr hf hn⟩
theorem Ow.fr {M:Nat->Prop} {w w':World} {e:TypeId} {s:Sl} {vs:List Value} (h:Ow w e s vs) (hf:Fr M w w') (hn:∀b∈bC s,¬M b):Ow w' e s vs:=⟨h.1,h.2.fr hf hn⟩
theorem Rd.oR {w w':World} {s:Sl} {vs:List Value} (h:Rd w s vs) (hf:bI w w'):Rd w' s vs:=h.fr hf λ_ _ h=>h
theorem Ow.oR {w w':World} {e:TypeId} {s:Sl} {vs:List Value} (h:Ow w e s vs) (hf:bI w w'):Ow w' e s vs:=h.fr hf λ_ _ h=>h
theorem Rd.nil (w:World):Rd w ⟨none,0,0⟩ []:=⟨rfl,Nat.le_refl _,oz.nil w⟩
theorem Ow.nil (w:World) (e:TypeId):Ow w e ⟨none,0,0⟩ []:=⟨rfl,aP.nil w _ _⟩
theorem Ow.lt {w:World} {e:TypeId} {s:Sl} {vs:List Value} (h:Ow w e s vs):∀b∈bC s,b<w.heap.size:=h.2.lt
theorem Ow.made (w:World) (e:TypeId) (cs:List Value) (n:Nat) (hn:n=cs.length) (hl:n<=1000000):Ow (w.alloc (.cells cs.toArray e)) e ⟨some ⟨w.heap.size,0,none⟩,n,n⟩ cs:=
 ⟨hn,aP.made w e 1 n cs (by omega) (by unfold maxLen;omega)⟩
theorem Rd.get {w:World} {s:Sl} {vs:List Value} (h:Rd w s vs) {i j:Nat} {v:Value} (hi:vs[i]? =some v) (hj:j=i *1) {K:Addr->Prop} (hk:∀p,s.a=some p->w.cell? (p.add j)=some v->K p):W.aX s.a K:=h.2.2.get hi hj hk
theorem Rd.sub {w:World} {s:Sl} {vs:List Value} (h:Rd w s vs) (l hi:Nat) (hl:l<=hi) (hh:hi<=vs.length):Rd w (sub s l hi) ((vs.take hi).drop l):=by
 have h1:=h.1
 have h2:=h.2.1
 refine ⟨?_,?_,h.2.2.sub l hi (by omega) h.2.1 hl (by omega)⟩
 .unfold W.sub;simp;omega
 .unfold W.sub;simp;omega
theorem Jf {t ty e:TypeId} {z:Value} {bytes:Nat} {P:Program} (el:iJ P t e z 1 bytes) {w:World} {s src:Sl} {xs ys:List Value} (ho:Ow w e s xs) (hr:Rd w src ys) (h1:∀u∈ys,u.oneCell'=true) (hb:(xs.length+ys.length) *bytes<=140737488355328):
  ∃s' w',(Builtin.append_ #[t,t] ty #[s.v,src.v]).run P w=.ok s'.v w'/\Ow w' e s' (xs++ys)/\Fr (λb=>b∈bC s) w w'/\(∀b∈bC s',b∈bC s\/w.heap.size<=b)/\(s'.a=none->s.a=none/\ys=[]):=by
 obtain ⟨s',w',g1,g2,g3,g4,g5,g6⟩:=pY (ty:=ty) el ho.2 hr.2.2 (by rw [hr.1];omega) h1 (by rw [ho.1,hr.1];exact hb)
 refine ⟨s',w',g1,⟨?_,g2⟩,g4,g5,λh=>⟨(g6 h).1,?_⟩⟩
 .rw [g3,ho.1,hr.1];simp
 .have:=(g6 h).2
  rw [hr.1] at this
  exact Va this
theorem yP {α:Type} (f:α->List Value) (sz:Nat) (hf:∀a,(f a).length=sz):∀(cs:List α) (i j:Nat) (a:α),cs[i]? =some a->j<sz->(cs.flatMap f)[i *sz+j]? =(f a)[j]?
 |[],i,j,a,h,_=>by simp at h
 |c::cs,0,j,a,h,hj=>by
  simp at h
  subst h
  rw [qfC,Nat.zero_mul,Nat.zero_add,List.getElem?_append_left (by rw [hf];exact hj)]
 |c::cs,i+1,j,a,h,hj=>by
  rw [qfC,List.getElem?_append_right (by rw [hf,Nat.succ_mul];omega),hf,show (i+1) *sz+j - sz=i *sz+j by rw [Nat.succ_mul];omega]
  exact yP f sz hf cs i j a (by simpa using h) hj
theorem oh {α:Type} (f:α->List Value) (sz:Nat) (hf:∀a,(f a).length=sz) (cs:List α):(cs.flatMap f).length=cs.length *sz:=by
 induction cs with
 |nil=>simp
 |cons c cs ih=>rw [qfC,List.length_append,ih,hf,List.length_cons,Nat.succ_mul];omega
theorem oz.elem {α:Type} {f:α->List Value} {sz:Nat} (hf:∀a,(f a).length=sz) (hs:0<sz) {w:World} {s:Sl} {cs:List α} (h:oz w s (cs.flatMap f)) {i:Nat} {a:α} (hi:cs[i]? =some a) {K:Addr->Prop}
  (hk:∀p,s.a=some p->(∀j v,(f a)[j]? =some v->w.cell? ((p.add (i *sz)).add j)=some v)->K p):W.aX s.a K:=by
 obtain ⟨v0,O'⟩:∃v,(f a)[0]? =some v:=⟨_,gW (by rw [hf];exact hs)⟩
 obtain ⟨p,hp,_⟩:=h.2 (i *sz+0) v0 (by rw [yP f sz hf cs i 0 a hi hs];exact O')
 rw [hp]
 refine hk p hp λj v hv=>?_
 have hj:j<sz:=by have:=(oN.1 hv).1;rwa [hf] at this
 obtain ⟨q,hq,hc⟩:=h.2 (i *sz+j) v (by rw [yP f sz hf cs i j a hi hj];exact hv)
 rw [hp] at hq
 cases hq
 rw [add_add];exact hc
theorem IK {w:World} {b:Nat} {cs:Array Value} {T:TypeId} (h:w.heap[b]? =some (.cells cs T (0,0))) (i:Nat) (hi:i<cs.size) (v:Value):
  (w.cell? ((bF b).add i)).isSome=true/\w.frozen? ((bF b).add i)=false/\(w.setCell ((bF b).add i) v).heap[b]? =some (.cells (cs.setIfInBounds i v) T (0,0))/\Fr (·=b) w (w.setCell ((bF b).add i) v):=by
 refine ⟨?_,frozenAt (p:=bF b) h,?_,Fr.set _ _ _ (gF _ _)⟩
 .rw [cellAt (p:=bF b) (v:=cs[i]) h rfl (by simp [hi])];rfl
 .have:=setAt (p:=bF b) (i:=i) (v:=v) h rfl
  simpa using this
theorem Fr.put (w:World) (l:Nat) (o:Obj):Fr (·=l) w (w.putObj l o):=⟨rfl,rfl,rfl,by simp [World.putObj],λk _ hn=>by
 have:l≠k:=λe=>hn e.symm
 simp [World.putObj,Array.getElem?_setIfInBounds_ne this]⟩
theorem Ud {w:World} {l:Nat} {x:Obj} (h:w.heap[l]? =some x) (o:Obj):(w.putObj l o).heap[l]? =some o:=by
 have:=gg h
 simp [World.putObj,this]
theorem Di (x y:Nat) (hx:x<18446744073709551616) (hy:y<18446744073709551616):Oh .u64 (x:Int) (y:Int)=((x^^^y:Nat):Int):=by
 unfold Oh
 have h1:(BitVec.ofInt (IntKind.bits .u64) (x:Int)^^^BitVec.ofInt (IntKind.bits .u64) (y:Int)).toNat=x^^^y:=by
  show (BitVec.ofInt 64 (x:Int)^^^BitVec.ofInt 64 (y:Int)).toNat=_
  rw [BitVec.toNat_xor,BitVec.ofInt_natCast,BitVec.ofInt_natCast,BitVec.toNat_ofNat,BitVec.toNat_ofNat,Nat.mod_eq_of_lt hx,Nat.mod_eq_of_lt hy]
 rw [h1]
 have:x^^^y<2^64:=Nat.xor_lt_two_pow hx hy
 exact IntWalk.u64_in _ (by omega)
theorem NR (x:Nat) (hx:x<18446744073709551616):x^^^18446744073709551615=18446744073709551615 - x:=by
 have h1:=BitVec.toNat_not (x:=BitVec.ofNat 64 x)
 have h2:(~~~ (BitVec.ofNat 64 x))=BitVec.ofNat 64 x^^^BitVec.allOnes 64:=(BitVec.xor_allOnes).symm
 rw [h2,BitVec.toNat_xor,BitVec.toNat_ofNat,Nat.mod_eq_of_lt hx,BitVec.toNat_allOnes] at h1
 omega
theorem FN (n:Nat) (h:n<256):Vr .u8 (n:Int) 128=((n%128+128:Nat):Int):=by
 have h':∀x:Fin 256,Vr .u8 (x.val:Int) 128=((x.val%128+128:Nat):Int):=by decide+kernel
 exact h' ⟨n,h⟩
theorem NL (n:Nat):IntKind.wrap .u8 (n:Int)=((n%256:Nat):Int):=by rw [IntKind.wrap_u8];omega
theorem I4 (n:Nat) (h:n<18446744073709551616):IntKind.wrap .u64 (n:Int)=(n:Int):=IntWalk.u64_in _ (by omega)
theorem LW (n m:Nat) (h:0<m):Int.fdiv (n:Int) (m:Int)=((n / m:Nat):Int):=by
 rw [Int.fdiv_eq_ediv_of_nonneg _ (by omega)];rfl
theorem aY (i:Nat) (h:i<9223372036854775807):IntKind.wrap .i64 ((i:Int)+1)=((i+1:Nat):Int):=by rw [IntWalk.i64_in _ (by omega)];omega
structure En where
 fp:List Nat
 P:World->Prop
 st:∀w w',(∀b∈fp,b<w.heap.size->w'.heap[b]? =w.heap[b]?)->P w->P w'
 lt:∀w,P w->∀b∈fp,b<w.heap.size
 nd:fp.Nodup
def En.ob (b:Nat) (o:Obj):En:=⟨[b],λw=>w.heap[b]? =some o,λw w' h hp=>(h b (by simp) (gg hp)).trans hp,λw hp x hx=>by simp at hx;subst hx;exact gg hp,by simp⟩
abbrev En.c (b:Nat) (vs:List Value) (T:TypeId):En:=.ob b (.cells vs.toArray T (0,0))
def En.row (e:TypeId) (sz:Nat) (s:Sl) (vs:List Value):En:=⟨bC s,λw=>aP w e sz s vs,λ_ _ h hp=>hp.gV h,λ_ hp=>hp.lt,by unfold bC;split<;>simp⟩
def En.rd (s:Sl) (vs:List Value):En:=⟨if vs=[] then [] else bC s,λw=>Rd w s vs,λw w' h hp=>by
  refine ⟨hp.1,hp.2.1,hp.2.2.1,λi v hi=>?_⟩
  obtain ⟨p,ha,hc⟩:=hp.2.2.2 i v hi
  have hM:vs≠[]:=λe=>by subst e;simp at hi
  rw [if_neg hM] at h
  have:=h p.block (by simp [bC,ha]) (by have:=oY hc;rwa [gF] at this)
  refine ⟨p,ha,?_⟩
  unfold World.cell? at hc ⊢
  rw [gF] at hc ⊢
  rw [this];exact hc,λw hp b hb=>by
  split at hb
  .cases hb
  .rename_i hM
   have h0:0<vs.length:=List.length_pos_iff.2 hM
   obtain ⟨p,ha,hc⟩:=hp.2.2.2 0 vs[0] (gW h0)
   simp [bC,ha] at hb
   subst hb
   have:=oY hc
   rwa [gF] at this,by split<;>(try simp);unfold bC;split<;>simp⟩
structure LH (M:Nat->Prop) (w0 w:World) (L D:List En):Prop where
 fr:Fr M w0 w
 own:∀e∈L,e.P w
 rd:∀e∈D,e.P w
 new:∀e∈L,∀b∈e.fp,w0.heap.size<=b\/M b
 nd:(L.flatMap (·.fp)).Nodup
 dj:∀e∈D,∀b∈e.fp,∀e'∈L,b∉e'.fp
theorem LH.start {M:Nat->Prop} {w:World} (D:List En) (h:∀e∈D,e.P w):LH M w w [] D:=⟨Fr.refl _ _,by simp,h,by simp,by simp,by simp⟩
theorem LH.zD {M:Nat->Prop} {w:World} (L D:List En) (hl:∀e∈L,e.P w/\∀b∈e.fp,M b) (hn:(L.flatMap (·.fp)).Nodup) (h:∀e∈D,e.P w/\∀b∈e.fp,∀e'∈L,b∉e'.fp):LH M w w L D:=
 ⟨Fr.refl _ _,λe he=>(hl e he).1,λe he=>(h e he).1,λe he b hb=>.inr ((hl e he).2 b hb),hn,λe he=>(h e he).2⟩
theorem LH.oR {M:Nat->Prop} {w0 w w':World} {L D:List En} (H:LH M w0 w L D) (f:bI w w'):LH M w0 w' L D:=
 ⟨H.fr.Ab f,λe he=>e.st w w' (λb _ hl=>f.gV b hl id) (H.own e he),λe he=>e.st w w' (λb _ hl=>f.gV b hl id) (H.rd e he),H.new,H.nd,H.dj⟩
theorem LH.drew {M:Nat->Prop} {w0 w:World} {L D:List En} (H:LH M w0 w L D):LH M w0 w.drew L D:=H.oR (Fr.drew _ _)
theorem wD {α:Type} {f:α->List Nat}:∀{L:List α} {i:Nat} {e e':α},L[i]? =some e->(L.flatMap f).Nodup->(f e').Nodup->(∀x∈f e',x∈f e\/x∉L.flatMap f)->((L.set i e').flatMap f).Nodup
 |[],i,e,e',h,_,_,_=>by simp at h
 |a::L,0,e,e',h,hn,h',hs=>by
  simp at h;subst h
  simp only [List.set_cons_zero,qfC,qnA] at hn ⊢
  refine ⟨h',hn.2.1,λx hx y hy=>?_⟩
  rintro rfl
  rcases hs x hx with h|h
  .exact hn.2.2 x h x hy rfl
  .exact h (by simp only [qfC,fW];exact .inr hy)
 |a::L,i+1,e,e',h,hn,h',hs=>by
  simp only [List.getElem?_cons_succ] at h
  simp only [List.set_cons_succ,qfC,qnA] at hn ⊢
  refine ⟨hn.1,wD h hn.2.1 h' (λx hx=>(hs x hx).imp id λh hm=>h (by simp only [qfC,fW];exact .inr hm)),λx hx y hy=>?_⟩
  rintro rfl
  obtain ⟨g,hg,XO⟩:=mY.1 hy
  rcases qmO hg with hg|rfl
  .exact hn.2.2 x hx x (mY.2 ⟨g,hg,XO⟩) rfl
  .rcases hs x XO with h1|h1
   .exact hn.2.2 x hx x (mY.2 ⟨e,cZ h,h1⟩) rfl
   .exact h1 (by simp only [qfC,fW];exact .inl hx)
theorem LH.GM {M:Nat->Prop} {w0 w:World} {L D:List En} (H:LH M w0 w L D):∀b∈L.flatMap (·.fp),b<w.heap.size:=λb hb=>by
 obtain ⟨e,he,hb⟩:=mY.1 hb
 exact e.lt w (H.own e he) b hb
theorem oZ {L:List En} (hn:(L.flatMap (·.fp)).Nodup):∀{i:Nat} {e:En},L[i]? =some e->∀{j:Nat} {g:En},L[j]? =some g->i≠j->∀b∈e.fp,b∉g.fp:=by
 induction L with
 |nil=>intro i e h;simp at h
 |cons a L ih=>
  simp only [qfC,qnA] at hn
  intro i e hi j g hj hM b hb eD
  cases i with
  |zero=>
   simp at hi;subst hi
   cases j with
   |zero=>exact hM rfl
   |succ j=>exact hn.2.2 b hb b (mY.2 ⟨g,cZ (by simpa using hj),eD⟩) rfl
  |succ i=>
   cases j with
   |zero=>
    simp at hj;subst hj
    exact hn.2.2 b eD b (mY.2 ⟨e,cZ (by simpa using hi),hb⟩) rfl
   |succ j=>exact ih hn.2.1 (by simpa using hi) (by simpa using hj) (by omega) b hb eD
theorem LH.CZ {M:Nat->Prop} {w0 w w':World} {L D:List En} (H:LH M w0 w L D) {e:En} (i:Nat) (e':En) (hi:L[i]? =some e) (f:Fr (·∈e.fp) w w') (hP:e'.P w') (Gp:∀b∈e'.fp,b∈e.fp\/w.heap.size<=b):LH M w0 w' (L.set i e') D:=by
 have hm:=cZ hi
 have A7:Fr M w0 w':=H.fr.trans f λx hx JG=>(H.new e hm x JG).resolve_left (by omega)
 refine ⟨A7,λg hg=>?_,λg hg=>?_,λg hg b hb=>?_,wD hi H.nd e'.nd λx hx=>?_,λg hg b hb g' lQ eD=>?_⟩
 .obtain ⟨j,hj⟩:=KF.1 hg
  rw [qgT] at hj
  split at hj
  .split at hj
   .cases hj;exact hP
   .cases hj
  .rename_i hM
   refine g.st w w' (λb hb hl=>f.gV b hl λrf=>oZ H.nd hi hj hM b rf hb) (H.own g (cZ hj))
 .exact g.st w w' (λb hb hl=>f.gV b hl λrf=>H.dj g hg b hb e hm rf) (H.rd g hg)
 .rcases qmO hg with hg|rfl
  .exact H.new g hg b hb
  .rcases Gp b hb with h|h
   .exact H.new e hm b h
   .exact .inl (Nat.le_trans H.fr.size h)
 .rcases Gp x hx with h|h
  .exact .inl h
  .exact .inr λEb=>by have:=H.GM x Eb;omega
 .rcases qmO lQ with lQ|rfl
  .exact H.dj g hg b hb g' lQ eD
  .rcases Gp b eD with h|h
   .exact H.dj g hg b hb e hm h
   .have:=g.lt w (H.rd g hg) b hb;omega
theorem LH.push {M:Nat->Prop} {w0 w w':World} {L D:List En} (H:LH M w0 w L D) (e:En) (f:bI w w') (hP:e.P w') (Gp:∀b∈e.fp,w.heap.size<=b):LH M w0 w' (L++[e]) D:=by
 have H':=H.oR f
 refine ⟨H'.fr,λg hg=>?_,H'.rd,λg hg b hb=>?_,?_,λg hg b hb g' lQ eD=>?_⟩
 .rcases fW.1 hg with hg|hg
  .exact H'.own g hg
  .simp at hg;subst hg;exact hP
 .rcases fW.1 hg with hg|hg
  .exact H.new g hg b hb
  .simp at hg;subst hg;exact .inl (Nat.le_trans H.fr.size (Gp b hb))
 .rw [qfA,qnA]
  refine ⟨H.nd,by simpa using e.nd,λx hx y hy=>?_⟩
  rintro rfl
  have h1:=H.GM x hx
  have h2:=Gp x (by simpa using hy)
  omega
 .rcases fW.1 lQ with lQ|lQ
  .exact H.dj g hg b hb g' lQ eD
  .simp at lQ;subst lQ
   have h1:=g.lt w (H.rd g hg) b hb
   have h2:=Gp b eD
   omega
theorem LH.alloc {M:Nat->Prop} {w0 w:World} {L D:List En} (H:LH M w0 w L D) (o:Obj):LH M w0 (w.alloc o) (L++[.ob w.heap.size o]) D:=
 H.push _ (Fr.alloc _ _ _) (nk w o) (λb hb=>by simp [En.ob] at hb;omega)
theorem LH.mE {M:Nat->Prop} {w0 w w':World} {L D:List En} (H:LH M w0 w L D) (e:En) (f:bI w w') (hP:e.P w') (hd:∀b∈e.fp,w.heap.size<=b\/(b<w0.heap.size/\¬M b)\/∃g∈D,b∈g.fp):LH M w0 w' L (D++[e]):=by
 have H':=H.oR f
 refine ⟨H'.fr,H'.own,λg hg=>?_,H'.new,H'.nd,λg hg b hb g' lQ eD=>?_⟩
 .rcases fW.1 hg with hg|hg
  .exact H'.rd g hg
  .simp at hg;subst hg;exact hP
 .rcases fW.1 hg with hg|hg
  .exact H.dj g hg b hb g' lQ eD
  .simp at hg;subst hg
   rcases hd b hb with h|⟨h,hm⟩|⟨q,hq,V0⟩
   .have:=g'.lt w (H.own g' lQ) b eD;omega
   .exact (H.new g' lQ b eD).elim (λh'=>by omega) hm
   .exact H.dj q hq b V0 g' lQ eD
theorem LH.forget {M:Nat->Prop} {w0 w:World} {L D:List En} (H:LH M w0 w L D) (D':List En) (h:∀e∈D',e∈D):LH M w0 w L D':=⟨H.fr,H.own,λe he=>H.rd e (h e he),H.new,H.nd,λe he=>H.dj e (h e he)⟩
theorem mh {α:Type} {a:α}:∀{l:List α} {i:Nat},a∈l.eraseIdx i->a∈l
 |[],_,h=>by simp at h
 |b::l,0,h=>by simp at h;simp [h]
 |b::l,i+1,h=>by
  simp at h
  rcases h with h|h
  .simp [h]
  .exact qmCM _ (mh h)
theorem xp {α:Type} {f:α->List Nat}:∀{L:List α} {i:Nat},(L.flatMap f).Nodup->((L.eraseIdx i).flatMap f).Nodup
 |[],i,h=>by simp
 |a::L,0,h=>by simp only [qfC,qnA] at h;exact h.2.1
 |a::L,i+1,h=>by
  simp only [List.eraseIdx_cons_succ,qfC,qnA] at h ⊢
  refine ⟨h.1,xp h.2.1,λx hx y hy=>h.2.2 x hx y ?_⟩
  obtain ⟨g,hg,XO⟩:=mY.1 hy
  exact mY.2 ⟨g,mh hg,XO⟩
theorem DK {α:Type} {f:α->List Nat}:∀{L:List α} {i:Nat} {e:α},L[i]? =some e->(L.flatMap f).Nodup->∀b∈f e,∀g∈L.eraseIdx i,b∉f g
 |[],i,e,h,_=>by simp at h
 |a::L,0,e,h,hn=>by
  simp at h;subst h
  simp only [qfC,qnA] at hn
  intro b hb g hg eD
  exact hn.2.2 b hb b (mY.2 ⟨g,by simpa using hg,eD⟩) rfl
 |a::L,i+1,e,h,hn=>by
  simp only [qfC,qnA] at hn
  intro b hb g hg eD
  simp only [List.getElem?_cons_succ] at h
  simp only [List.eraseIdx_cons_succ,cU] at hg
  rcases hg with rfl|hg
  .exact hn.2.2 b eD b (mY.2 ⟨e,cZ h,hb⟩) rfl
  .exact DK h hn.2.1 b hb g hg eD
theorem LH.freeze {M:Nat->Prop} {w0 w:World} {L D:List En} (H:LH M w0 w L D) {e:En} (i:Nat) (e':En) (hi:L[i]? =some e) (hP:e'.P w) (Gp:∀b∈e'.fp,b∈e.fp):LH M w0 w (L.eraseIdx i) (D++[e']):=by
 refine ⟨H.fr,λg hg=>H.own g (mh hg),λg hg=>?_,λg hg=>H.new g (mh hg),xp H.nd,λg hg b hb g' lQ=>?_⟩
 .rcases fW.1 hg with hg|hg
  .exact H.rd g hg
  .simp at hg;subst hg;exact hP
 .rcases fW.1 hg with hg|hg
  .exact H.dj g hg b hb g' (mh lQ)
  .simp at hg;subst hg
   exact DK hi H.nd b (Gp b hb) g' lQ
theorem LH.get {M:Nat->Prop} {w0 w:World} {L D:List En} (H:LH M w0 w L D) (i:Nat) {e:En} (hi:L[i]? =some e:=by rfl):e.P w:=H.own e (cZ hi)
theorem LH.getD {M:Nat->Prop} {w0 w:World} {L D:List En} (H:LH M w0 w L D) (i:Nat) {e:En} (hi:D[i]? =some e:=by rfl):e.P w:=H.rd e (cZ hi)
section
variable {M:Nat->Prop} {w0 w:World} {L D:List En}
theorem LH.ob (H:LH M w0 w L D) (i:Nat) {b:Nat} {o:Obj} (hi:L[i]? =some (.ob b o):=by rfl):w.heap[b]? =some o:=H.own _ (cZ hi)
theorem LH.ld (H:LH M w0 w L D) (i j:Nat) {b:Nat} {vs:List Value} {T:TypeId} {v:Value} (hi:L[i]? =some (.c b vs T):=by rfl) (hj:vs[j]? =some v:=by rfl):w.cell? ((bF b).add j)=some v:=
 cellAt (p:=bF b) (H.ob i hi) rfl (by simpa using hj)
theorem LH.GB (H:LH M w0 w L D) (i:Nat) {b:Nat} {vs:List Value} {T:TypeId} {v:Value} (hi:L[i]? =some (.c b vs T):=by rfl) (hj:vs[0]? =some v:=by rfl):w.cell? (bF b)=some v:=by
 have:=H.ld i 0 hi hj
 rwa [uH] at this
theorem LH.set (H:LH M w0 w L D) (i j:Nat) {b:Nat} {vs:List Value} {T:TypeId} {v:Value} (hi:L[i]? =some (.c b vs T)) (hj:j<vs.length):
  (w.cell? ((bF b).add j)).isSome=true/\w.frozen? ((bF b).add j)=false/\LH M w0 (w.setCell ((bF b).add j) v) (L.set i (.c b (vs.set j v) T)) D:=by
 obtain ⟨x1,x2,x3,x4⟩:=IK (H.ob i hi) j (by simpa using hj) v
 exact ⟨x1,x2,H.CZ i (.c b (vs.set j v) T) hi (x4.mono λx _ e=>by simp [En.ob,e]) (by show _=_;rw [x3];simp) (λb hb=>.inl hb)⟩
theorem LH.st (H:LH M w0 w L D) (i j:Nat) {b:Nat} {vs:List Value} {T:TypeId} {v:Value} {K:World->Prop} (hi:L[i]? =some (.c b vs T)) (hK:∀w',LH M w0 w' (L.set i (.c b (vs.set j v) T)) D->K w') (hj:j<vs.length:=by simp):bX w ((bF b).add j) v K:=by
 obtain ⟨x1,x2,x3⟩:=H.set (v:=v) i j hi hj
 exact ⟨x1,x2,hK _ x3⟩
theorem LH.CW (H:LH M w0 w L D) (i:Nat) {b:Nat} {vs:List Value} {T:TypeId} {v:Value} {K:World->Prop} (hi:L[i]? =some (.c b vs T)) (hK:∀w',LH M w0 w' (L.set i (.c b (vs.set 0 v) T)) D->K w') (hj:0<vs.length:=by simp):bX w (bF b) v K:=by
 have:=H.st (v:=v) (K:=K) i 0 hi hK hj
 rwa [uH] at this
theorem LH.kT (H:LH M w0 w L D) (i:Nat) {b:Nat} {a0 a1:Value} {T:TypeId} {v0 v1:Value} {K:World->Prop} (hi:L[i]? =some (.c b [a0,a1] T)) (hK:∀w',LH M w0 w' (L.set i (.c b [v0,v1] T)) D->K w'):bX w (bF b) v0 λw1=>bX w1 ((bF b).add 1) v1 K:=by
 have hl:=(oN.1 hi).1
 exact H.CW i hi (λw1 H1=>H1.st (vs:=[v0,a1]) (T:=T) i 1 (by simp [hl]) (λw2 H2=>hK w2 (by simpa using H2)))
theorem LH.lO (H:LH M w0 w L D) (i:Nat) {b:Nat} {a0 a1 a2:Value} {T:TypeId} {v0 v1 v2:Value} {K:World->Prop} (hi:L[i]? =some (.c b [a0,a1,a2] T)) (hK:∀w',LH M w0 w' (L.set i (.c b [v0,v1,v2] T)) D->K w'):bX w (bF b) v0 λw1=>bX w1 ((bF b).add 1) v1 λw2=>bX w2 ((bF b).add 2) v2 K:=by
 have hl:=(oN.1 hi).1
 exact H.CW i hi (λw1 H1=>H1.st (vs:=[v0,a1,a2]) (T:=T) i 1 (by simp [hl]) (λw2 H2=>H2.st (vs:=[v0,v1,a2]) (T:=T) i 2 (by simp [hl]) (λw3 H3=>hK w3 (by simpa using H3))))
theorem LH.CD (H:LH M w0 w L D) (i:Nat) {b:Nat} {a0 a1 a2 a3:Value} {T:TypeId} {v0 v1 v2 v3:Value} {K:World->Prop} (hi:L[i]? =some (.c b [a0,a1,a2,a3] T)) (hK:∀w',LH M w0 w' (L.set i (.c b [v0,v1,v2,v3] T)) D->K w'):bX w (bF b) v0 λw1=>bX w1 ((bF b).add 1) v1 λw2=>bX w2 ((bF b).add 2) v2 λw3=>bX w3 ((bF b).add 3) v3 K:=by
 have hl:=(oN.1 hi).1
 exact H.CW i hi (λw1 H1=>H1.st (vs:=[v0,a1,a2,a3]) (T:=T) i 1 (by simp [hl]) (λw2 H2=>H2.st (vs:=[v0,v1,a2,a3]) (T:=T) i 2 (by simp [hl]) (λw3 H3=>H3.st (vs:=[v0,v1,v2,a3]) (T:=T) i 3 (by simp [hl]) (λw4 H4=>hK w4 (by simpa using H4)))))
theorem LH.st5 (H:LH M w0 w L D) (i:Nat) {b:Nat} {a0 a1 a2 a3 a4:Value} {T:TypeId} {v0 v1 v2 v3 v4:Value} {K:World->Prop} (hi:L[i]? =some (.c b [a0,a1,a2,a3,a4] T)) (hK:∀w',LH M w0 w' (L.set i (.c b [v0,v1,v2,v3,v4] T)) D->K w'):bX w (bF b) v0 λw1=>bX w1 ((bF b).add 1) v1 λw2=>bX w2 ((bF b).add 2) v2 λw3=>bX w3 ((bF b).add 3) v3 λw4=>bX w4 ((bF b).add 4) v4 K:=by
 have hl:=(oN.1 hi).1
 exact H.CW i hi (λw1 H1=>H1.st (vs:=[v0,a1,a2,a3,a4]) (T:=T) i 1 (by simp [hl]) (λw2 H2=>H2.st (vs:=[v0,v1,a2,a3,a4]) (T:=T) i 2 (by simp [hl]) (λw3 H3=>H3.st (vs:=[v0,v1,v2,a3,a4]) (T:=T) i 3 (by simp [hl]) (λw4 H4=>H4.st (vs:=[v0,v1,v2,v3,a4]) (T:=T) i 4 (by simp [hl]) (λw5 H5=>hK w5 (by simpa using H5))))))
theorem LH.X2 (H:LH M w0 w L D) (i:Nat) {b:Nat} {a0 a1 a2 a3 a4 a5 a6 a7:Value} {T:TypeId} {v0 v1 v2 v3 v4 v5 v6 v7:Value} {K:World->Prop} (hi:L[i]? =some (.c b [a0,a1,a2,a3,a4,a5,a6,a7] T)) (hK:∀w',LH M w0 w' (L.set i (.c b [v0,v1,v2,v3,v4,v5,v6,v7] T)) D->K w'):bX w (bF b) v0 λw1=>bX w1 ((bF b).add 1) v1 λw2=>bX w2 ((bF b).add 2) v2 λw3=>bX w3 ((bF b).add 3) v3 λw4=>bX w4 ((bF b).add 4) v4 λw5=>bX w5 ((bF b).add 5) v5 λw6=>bX w6 ((bF b).add 6) v6 λw7=>bX w7 ((bF b).add 7) v7 K:=by
 have hl:=(oN.1 hi).1
 exact H.CW i hi (λw1 H1=>H1.st (vs:=[v0,a1,a2,a3,a4,a5,a6,a7]) (T:=T) i 1 (by simp [hl]) (λw2 H2=>H2.st (vs:=[v0,v1,a2,a3,a4,a5,a6,a7]) (T:=T) i 2 (by simp [hl]) (λw3 H3=>H3.st (vs:=[v0,v1,v2,a3,a4,a5,a6,a7]) (T:=T) i 3 (by simp [hl]) (λw4 H4=>H4.st (vs:=[v0,v1,v2,v3,a4,a5,a6,a7]) (T:=T) i 4 (by simp [hl]) (λw5 H5=>H5.st (vs:=[v0,v1,v2,v3,v4,a5,a6,a7]) (T:=T) i 5 (by simp [hl]) (λw6 H6=>H6.st (vs:=[v0,v1,v2,v3,v4,v5,a6,a7]) (T:=T) i 6 (by simp [hl]) (λw7 H7=>H7.st (vs:=[v0,v1,v2,v3,v4,v5,v6,a7]) (T:=T) i 7 (by simp [hl]) (λw8 H8=>hK w8 (by simpa using H8)))))))))
theorem LH.nw (H:LH M w0 w L D) {cs:Array Value} {T:TypeId} {K:World->Prop} (hK:∀w',w'.heap.size=w.heap.size+1->LH M w0 w' (L++[.c w.heap.size cs.toList T]) D->K w'):fJ w (.cells cs T) K:=hK _ (size_alloc _ _) (H.alloc _)
theorem LH.XY (H:LH M w0 w L D) {o:Obj} {K:World->Prop} (hK:∀w',w'.heap.size=w.heap.size+1->LH M w0 w' L D->w'.heap[w.heap.size]? =some o->K w'):fJ w o K:=hK _ (size_alloc _ _) (H.oR (Fr.alloc _ _ _)) (nk w o)
theorem LH.dr (H:LH M w0 w L D) {K:World->Prop} (hK:∀w',LH M w0 w' L D->K w'):uU w K:=hK _ H.drew
theorem LH.pu (H:LH M w0 w L D) (i:Nat) {b:Nat} {o o':Obj} {K:World->Prop} (hi:L[i]? =some (.ob b o)) (hK:∀w',LH M w0 w' (L.set i (.ob b o')) D->K w'):KE w b o o' K:=
 ⟨H.ob i hi,hK _ (H.CZ i (.ob b o') hi ((Fr.put w b o').mono λx _ e=>by simp [En.ob,e]) (Ud (H.ob i hi) o') (λb hb=>.inl hb))⟩
theorem LH.ap (H:LH M w0 w L D) (i:Nat) {P:Program} {t ty e:TypeId} {z:Value} {sz bytes:Nat} (el:iJ P t e z sz bytes) {s src:Sl} {xs news:List Value} {K:Sl->World->Prop}
  (hi:L[i]? =some (.row e sz s xs)) (hr:oz w src news) (hl:news.length=src.n *sz) (h1:∀u∈news,u.oneCell'=true) (hb:(s.n+src.n) *bytes<=140737488355328)
  (hK:∀s' w',LH M w0 w' (L.set i (.row e sz s' (xs++news))) D->s'.n=s.n+src.n->(s'.a=none->s.a=none/\src.n=0)->K s' w'):
  ∃s' w',(Builtin.append_ #[t,t] ty #[s.v,src.v]).run P w=.ok s'.v w'/\K s' w':=by
 obtain ⟨s',w',g1,g2,g3,g4,g5,g6⟩:=pY (ty:=ty) el (H.get i hi) hr hl h1 hb
 exact ⟨s',w',g1,hK s' w' (H.CZ i (.row e sz s' (xs++news)) hi g4 g2 g5) g3 g6⟩
theorem LH.Yv (H:LH M w0 w L D) (i:Nat) {P:Program} {t ty e:TypeId} {z:Value} {sz bytes:Nat} (el:iJ P t e z sz bytes) {T:TypeId} {s:Sl} {xs:List Value} {news:Array Value} {K:Sl->World->Prop}
  (hi:L[i]? =some (.row e sz s xs)) (hK:∀s' w',LH M w0 w' (L.set i (.row e sz s' (xs++news.toList))) D->s'.n=s.n+1->s'.a≠none->K s' w') (hb:(s.n+1) *bytes<=140737488355328) (hl:news.size=sz:=by rfl) (h1:∀u∈news.toList,u.oneCell'=true:=by simp [Value.oneCell']):
  fJ w (.cells news T) λw1=>∃s' w',(Builtin.append_ #[t,t] ty #[s.v,.slice (some (Addr.mk w.heap.size 0 none)) 1 1]).run P w1=.ok s'.v w'/\K s' w':=by
 have H1:LH M w0 (w.alloc (.cells news T)) L D:=H.oR (Fr.alloc _ _ _)
 refine H1.ap i el (src:=⟨some (bF w.heap.size),1,1⟩) (ty:=ty) (K:=K) (news:=news.toList) hi ((Row.made w T 1 1 news.toList).LL) (by simpa using hl) h1 hb (λs' w' h hn qK=>hK s' w' h hn λh0=>by have:=(qK h0).2;simp at this)
theorem LH.oJ (H:LH M w0 w L D) (e:TypeId) (sz:Nat):LH M w0 w (L++[.row e sz ⟨none,0,0⟩ []]) D:=H.push _ (Fr.refl _ _) (aP.nil w e sz) (λb hb=>by simp [En.row,bC] at hb)
end
theorem aP.ow1 {w:World} {e:TypeId} {s:Sl} {vs:List Value} (h:aP w e 1 s vs):Ow w e s vs:=⟨by have:=h.len;omega,h⟩
theorem aP.rd1 {w:World} {e:TypeId} {s:Sl} {vs:List Value} (h:aP w e 1 s vs):Rd w s vs:=h.ow1.rd
abbrev F0:Nat->Prop:=λ_=>False
theorem LH.take {M:Nat->Prop} {w0 w:World} {L D:List En} (H:LH M w0 w L D) (n:Nat):LH M w0 w (L.take n) D:=
 ⟨H.fr,λe he=>H.own e (IA he),H.rd,λe he=>H.new e (IA he),by
  have:=H.nd
  rw [<-List.take_append_drop n L,qfA,qnA] at this
  exact this.1,λe he b hb e' mI=>H.dj e he b hb e' (IA mI)⟩
theorem aH {a b:Int} {A B:Prop} (h1:a=b->A) (h2:a≠b->B):aF (a==b) A B:=aZ (λh=>h1 (by simpa using h)) (λh=>h2 (by simpa using h))
theorem eB {a b:Int} {A B:Prop} (h1:a≠b->A) (h2:a=b->B):aF (a !=b) A B:=aZ (λh=>h1 (by simpa using h)) (λh=>h2 (by simpa using h))
theorem aM {p:Prop} [Decidable p] {A B:Prop} (h1:p->A) (h2:¬p->B):aF (decide p) A B:=aZ (λh=>h1 (of_decide_eq_true h)) (λh=>h2 (of_decide_eq_false h))
theorem eQ {b:Bool} {A B:Prop} (h1:b=false->A) (h2:b=true->B):aF (!b) A B:=aZ (λh=>h1 (by simpa using h)) (λh=>h2 (by simpa using h))
theorem LH.tG {M:Nat->Prop} {w0 w:World} {L D:List En} (H:LH M w0 w L D) (i j:Nat) {b:Nat} {vs:List Value} {T:TypeId} {v:Value} (hi:D[i]? =some (.c b vs T):=by rfl) (hj:vs[j]? =some v:=by rfl):w.cell? ((bF b).add j)=some v:=
 cellAt (p:=bF b) (show w.heap[b]? =_ from H.rd _ (cZ hi)) rfl (by simpa using hj)
theorem LH.VD {M:Nat->Prop} {w0 w w':World} {L D:List En} (H:LH M w0 w L D) (i:Nat) {b:Nat} {vs zR:List Value} {T:TypeId} (f:Fr (·=b) w w') (h:w'.heap[b]? =some (.cells zR.toArray T (0,0))) (hi:L[i]? =some (.c b vs T):=by rfl):LH M w0 w' (L.set i (.c b zR T)) D:=
 H.CZ i (.c b zR T) hi (f.mono λx _ e=>by simp [En.ob,e]) h (λb hb=>.inl hb)
theorem LH.iH {M:Nat->Prop} {w0 w:World} {L D:List En} (H:LH M w0 w L D) {e:TypeId} {sz n:Nat} {cs:List Value} (hc:cs.length=n *sz) (hn:n<=maxLen) {K:World->Prop} (hK:∀w',LH M w0 w' (L++[.row e sz ⟨some (bF w.heap.size),n,n⟩ cs]) D->K w'):fJ w (.cells cs.toArray e) K:=
 hK _ (H.push _ (Fr.alloc _ _ _) (aP.made w e sz n cs hc hn) (λb hb=>by simp [En.row,bC] at hb;omega))
def ov (P:Program) (o:Oper) (E:Env) (w:World) (K:Env->World->Prop):Prop:=
 bif calm P o then qk P o E w λv _=>K (E.put o.dst v) w else me P o E w λv w'=>K (E.put o.dst v) w'
def yp (ops:Array Oper):Bool:=(List.range ops.size).all λi=>match ops[i]? with
 |some o=>o.guard.isNone&&o.after.toList.all λe=>!(Region.binds .any e)||Nat.blt e.on i
 |none=>true
abbrev ji (L:Nat->Bool) (i:Nat):Nat->Bool:=λj=>Nat.beq j i||L j
section
variable {P:Program} {ops:Array Oper} {n:Cx} {K:Env->World->Prop}
theorem sg (h:yp ops=true) {i:Nat} {o:Oper} (ho:ops[i]? =some o):o.guard=none/\∀e∈o.after,Region.binds .any e=true->e.on<i:=by
 unfold yp at h
 have hi:i<ops.size:=(Array.getElem?_eq_some_iff.1 ho).1
 have:=qaT.1 h i (List.mem_range.2 hi)
 rw [ho] at this
 simp only [Bool.and_eq_true] at this
 refine ⟨by simpa using this.1,λe he hb=>?_⟩
 have:=qaT.1 this.2 e (by simpa using he)
 rw [hb] at this
 simpa using this
theorem Nv {i:Nat} {o:Oper} {a:Act} {E:Env} {w:World} {Kh:Env->World->Prop} {K':Act->World->Prop} {Q:Exit->Act->World->Prop}
  (hn:gA n ops=true) (ho:ops[i]? =some o) (hg:o.guard=none) (ha:Ag n a E) (h:ov P o E w Kh) (next:∀a' E' w',Ag n a' E'->Kh E' w'->K' a' w'):wpOp P ops Q i K' a w:=by
 have nM:=Region.noSelect_spec (ops:=ops) (by unfold gA at hn;rw [Bool.and_eq_true] at hn;exact hn.1)
 have hw:Region.wanted o (yielded ops a.tmps)=true:=by simp [Region.wanted,hg]
 unfold ov at h
 cases hc:calm P o with
 |true=>
  rw [hc] at h
  simp only [cond_true] at h
  obtain ⟨v,Ss,hk,vj,KB⟩:=oX (λcs b=>nM i o cs b ho) ha h
  unfold wpOp
  simp only [ho,hw,if_true]
  refine .inl ?_
  unfold Oper.wp
  rw [KB w vj]
  exact next _ _ _ (ha.put v (dR hn ho)) hk
 |false=>
  rw [hc] at h
  simp only [cond_false] at h
  exact sZ ho hw (ib (λcs b=>nM i o cs b ho) ha h) λv w' hv=>next _ _ _ (ha.put v (dR hn ho)) hv
theorem Ks (hn:gA n ops=true) (hb:yp ops=true) (J:(Nat->Bool)->Env->World->Prop)
  (step:∀L E w i o,ops[i]? =some o->L i=false->(∀e∈o.after,Region.binds .any e=true->L e.on=true)->J L E w->ov P o E w λE' w'=>J (ji L i) E' w')
  (fin:∀L E w,(∀i,i<ops.size->L i=true)->J L E w->K E w):
  ∀(fuel:Nat) (listed:Array Bool) (a:Act) (E:Env) (w:World),listed.size=ops.size->Ag n a E->J (λj=>listed.getD j false) E w->((List.range ops.size).filter λj=>!listed.getD j false).length<=fuel->
   wpAny P .any ops (gP n K) fuel listed a w:=by
 have done:∀(listed:Array Bool) (a:Act) (E:Env) (w:World),listed.size=ops.size->Ag n a E->J (λj=>listed.getD j false) E w->Region.ready .any ops listed=[]->gP n K .normal a w:=by
  intro listed a E w hs ha hJ hr
  refine ⟨E,ha,fin _ E w (λi=>?_) hJ⟩
  induction i using Nat.strongRecOn with
  |_ i ih=>
   intro hi
   cases hl:listed.getD i false with
   |true=>rfl
   |false=>
    exfalso
    have ho:ops[i]? =some ops[i]:=Array.getElem?_eq_getElem hi
    have hm:i∈Region.ready .any ops listed:=mem_ready.2 ⟨by
     have l6:i<listed.size:=by omega
     simp [l6] at hl ⊢
     exact hl,_,ho,λe he hbi=>ih e.on ((sg hb ho).2 e he hbi) (Nat.lt_trans ((sg hb ho).2 e he hbi) hi)⟩
    rw [hr] at hm
    cases hm
 intro fuel
 induction fuel with
 |zero=>
  intro listed a E w hs ha hJ hf
  have hall:∀i,i<ops.size->listed.getD i false=true:=λi hi=>by
   cases hl:listed.getD i false with
   |true=>rfl
   |false=>
    have:i∈(List.range ops.size).filter λj=>!listed.getD j false:=List.mem_filter.2 ⟨List.mem_range.2 hi,by rw [hl];rfl⟩
    rw [List.length_eq_zero_iff.1 (Nat.le_zero.1 hf)] at this
    cases this
  refine ⟨?_,E,ha,fin _ E w hall hJ⟩
  cases hr:Region.ready .any ops listed with
  |nil=>rfl
  |cons i l=>
   have hm:i∈Region.ready .any ops listed:=by rw [hr];simp
   obtain ⟨h0,o,ho,_⟩:=mem_ready.1 hm
   have hi:=(Array.getElem?_eq_some_iff.1 ho).1
   have h1:=hall i hi
   have l6:i<listed.size:=by omega
   simp [l6] at h0 h1
   rw [h0] at h1
   cases h1
 |succ fuel ih=>
  intro listed a E w hs ha hJ hf
  refine ⟨done listed a E w hs ha hJ,λi hi=>?_⟩
  obtain ⟨h0,o,ho,hall⟩:=mem_ready.1 hi
  have l6:i<ops.size:=(Array.getElem?_eq_some_iff.1 ho).1
  have hli:i<listed.size:=by omega
  have wm:listed.getD i false=false:=by simp [hli] at h0 ⊢;exact h0
  refine Nv hn ho (sg hb ho).1 ha (step _ E w i o ho wm hall hJ) λa' E' w' xi vS=>?_
  have he:(ji (λj=>listed.getD j false) i)=λj=>(listed.setIfInBounds i true).getD j false:=by
   funext j
   by_cases hj:i=j
   .subst hj
    simp [ji,hli]
   .have:Nat.beq j i=false:=by rw [<-Bool.not_eq_true,Nat.beq_eq];exact λh=>hj h.symm
    rw [getD_set_ne false hj]
    simp [ji,this]
  rw [he] at vS
  refine ih _ a' E' w' (by simpa using hs) xi vS ?_
  have rU:((List.range ops.size).filter λj=>!(listed.setIfInBounds i true).getD j false)=((List.range ops.size).filter λj=>!listed.getD j false).filter λj=>!(Nat.beq j i):=by
   rw [List.filter_filter]
   refine List.filter_congr λj _=>?_
   rw [<-congrFun he j]
   simp only [ji,Bool.not_or]
  have aav:(((List.range ops.size).filter λj=>!listed.getD j false).filter λj=>!(Nat.beq j i)).length<((List.range ops.size).filter λj=>!listed.getD j false).length:=by
   refine List.length_filter_lt_length_iff_exists.2 ⟨i,List.mem_filter.2 ⟨List.mem_range.2 l6,by rw [wm];rfl⟩,?_⟩
   have:Nat.beq i i=true:=Nat.beq_refl i
   simp [this]
  rw [rU]
  omega
theorem AA {c:Code} {id:Nat} {a:Act} {E:Env} {w:World} (J:(Nat->Bool)->Env->World->Prop) (hm:P.follows .mixedOrders=true) (hc:c=.region id ops true) (hn:gA n ops=true) (hb:yp ops=true) (ha:Ag n a E)
  (h0:J (λ_=>false) E w.drew)
  (step:∀L E w i o,ops[i]? =some o->L i=false->(∀e∈o.after,Region.binds .any e=true->L e.on=true)->J L E w->ov P o E w λE' w'=>J (ji L i) E' w')
  (fin:∀L E w,(∀i,i<ops.size->L i=true)->J L E w->K E w):c.wpIn (FW n) 0 P (gP n K) a w:=by
 subst hc
 have hz:(λj=>(Array.replicate ops.size false).getD j false)=λ_=>false:=by
  funext j
  by_cases hj:j<ops.size<;>simp [hj]
 have h2:=Ks (K:=K) hn hb J step fin ops.size (Array.replicate ops.size false) a E w.drew (by simp) ha (by rw [hz];exact h0) (Nat.le_trans (List.length_filter_le _ _) (by simp))
 refine wpIn_region_draw λt=>?_
 refine pS hn (λ⟨_,_,h⟩=>h) _ _ _ ?_
 simp only [Region.schedule,hm,Bool.true_or,if_true]
 exact wpAny_sound ops.size t _ a _ h2
def Uf (P:Program) (n:Nat) (c:Code):Bool:=match c with
 |.region _ ops d=>d&&(P.follows .mixedOrders&&(gA n ops&&yp ops))
 |_=>false
def ZY (P:Program) (c:Code) (K:Env->World->Prop) (E:Env) (w:World):Prop:=
 ∃J:(Nat->Bool)->Env->World->Prop,J (λ_=>false) E w.drew/\
  (∀L E w i o,(Code.ops c)[i]? =some o->L i=false->(∀e∈o.after,Region.binds .any e=true->L e.on=true)->J L E w->ov P o E w λE' w'=>J (ji L i) E' w')/\
  ∀L E w,(∀i,i<(Code.ops c).size->L i=true)->J L E w->K E w
abbrev W0 (P:Program) (c:Code) (K:Env->World->Prop) (E:Env) (w:World):Prop:=ZY P (Code.fst c) K E w
variable {Q:Exit->Act->World->Prop} {E:Env} {w:World}
theorem ig (c:Code) (hc:Uf P n c=true) (h:ZY P c K E w) (hk:∀E' w' a',Ag n a' E'->K E' w'->Q .normal a' w'):WP P n c Q E w:=by
 obtain ⟨J,h0,step,fin⟩:=h
 unfold Uf at hc
 split at hc
 .rename_i id ops d
  simp only [Bool.and_eq_true] at hc
  obtain ⟨rfl,h2,h3,h4⟩:=hc
  exact λa ha=>wpIn_mono (AA J h2 rfl h3 h4 ha h0 step fin) λe a' w' he=>by
   cases e with
   |normal=>obtain ⟨E',hA,hK⟩:=he;exact hk E' w' a' hA hK
   |_=>exact he.elim
 .cases hc
theorem si (c:Code) (hc:(Ef c&&Uf P n (Code.fst c))=true) (h:W0 P c K E w) (hk:∀E' w',K E' w'->WP P n (Code.snd c) Q E' w'):WP P n c Q E w:=
 WP.seq (Cz (vX hc).1) (ig _ (vX hc).2 h λE' w' a' hA hK=>nx hA (hk E' w' hK))
end
def rowOf (o:Oper):Op×Option Nat×TypeId×List Nat:=(o.op,o.dst,o.type,(o.after.toList.filter λe=>Region.binds .any e).map (·.on))
def allI {α:Type} (F:Nat->α->Prop):List α->Nat->Prop
 |[],_=>True
 |a::l,i=>F i a/\allI F l (i+1)
theorem Dg {α:Type} {F:Nat->α->Prop}:∀{l:List α} {n i:Nat} {a:α},allI F l n->l[i]? =some a->F (n+i) a
 |[],_,i,a,_,h=>by simp at h
 |b::l,n,0,a,h,hi=>by simp at hi;subst hi;exact h.1
 |b::l,n,i+1,a,h,hi=>by
  have:=Dg (i:=i) h.2 (by simpa using hi)
  rwa [show n+1+i=n+(i+1) by omega] at this
section
variable {P:Program} {K:Env->World->Prop} {E:Env} {w:World}
def Od (P:Program) (J:(Nat->Bool)->Env->World->Prop) (i:Nat) (r:Op×Option Nat×TypeId×List Nat):Prop:=
 ∀L E w o,o.op=r.1->o.dst=r.2.1->o.type=r.2.2.1->L i=false->(∀j∈r.2.2.2,L j=true)->J L E w->ov P o E w λE' w'=>J (ji L i) E' w'
theorem Mx {c:Code} (Sc:List (Op×Option Nat×TypeId×List Nat)) (ht:(Code.ops c).toList.map rowOf=Sc) (J:(Nat->Bool)->Env->World->Prop) (h0:J (λ_=>false) E w.drew) (step:allI (Od P J) Sc 0)
  (fin:∀L E w,(∀i,i<Sc.length->L i=true)->J L E w->K E w):ZY P c K E w:=by
 refine ⟨J,h0,λL E w i o ho hi hd hJ=>?_,λL E w hL hJ=>fin L E w (λi hi=>hL i ?_) hJ⟩
 .have hr:Sc[i]? =some (rowOf o):=by rw [<-ht,List.getElem?_map,Array.getElem?_toList,ho];rfl
  have:=Dg step hr
  rw [Nat.zero_add] at this
  refine this L E w o rfl rfl rfl hi (λj hj=>?_) hJ
  obtain ⟨e,he,rfl⟩:=oT.1 hj
  obtain ⟨h1,h2⟩:=List.mem_filter.1 he
  exact hd e (by simpa using h1) h2
 .rw [<-ht,List.length_map] at hi
  simpa using hi
theorem vH {o:Oper} {t:Nat} {v:Value} (ho:o.op=.move (.tmp t)\/o.op=.assign (.tmp t)) (ht:E.get? t=some v) (h:K (E.put o.dst v) w):ov P o E w K:=by
 obtain ⟨dst,op,ty,pos,after,guard⟩:=o
 have ev:E.ev (.tmp t)=v:=by simp [Env.ev,Env.val,ht]
 rcases ho with ho|ho<;>(simp only at ho;subst ho)
 .show iq P _ E (λv _=>K (E.put dst v) w)
  have hc:E.fT ⟨dst,.move (.tmp t),ty,pos,after,guard⟩=true:=by simp [Env.fT,Op.operands,Env.val,ht]
  unfold iq
  rw [hc]
  show K (E.put dst (E.ev (.tmp t))) w
  rw [ev];exact h
 .show iq P _ E (λv _=>K (E.put dst v) w)
  have hc:E.fT ⟨dst,.assign (.tmp t),ty,pos,after,guard⟩=true:=by simp [Env.fT,Op.operands,Env.val,ht]
  unfold iq
  rw [hc]
  show K (E.put dst (E.ev (.tmp t))) w
  rw [ev];exact h
theorem zB {o:Oper} {T:TypeId} {t:Nat} {p:Addr} (ho:o.op=.load T (.tmp t)) (ht:E.get? t=some (.pointer (some p))) (h:At P T p w λv _=>K (E.put o.dst v) w):ov P o E w K:=by
 obtain ⟨dst,op,ty,pos,after,guard⟩:=o
 simp only at ho
 subst ho
 show (match E.val (.tmp t) with |some (.pointer (some p))=>At P T p w (λv _=>K (E.put dst v) w)|_=>False)
 rw [show E.val (.tmp t)=some (.pointer (some p)) from ht]
 exact h
theorem Ur {o:Oper} {f t1 t2:Nat} {v1 v2:Value} (ho:o.op=.makeFunc (.func f) #[] #[.tmp t1,.tmp t2]) (h1:E.get? t1=some v1) (h2:E.get? t2=some v2) (h:K (E.put o.dst (.func (.func f) #[] #[v1,v2])) w):ov P o E w K:=by
 obtain ⟨dst,op,ty,pos,after,guard⟩:=o
 simp only at ho
 subst ho
 show iq P _ E (λv _=>K (E.put dst v) w)
 have hc:E.fT ⟨dst,.makeFunc (.func f) #[] #[.tmp t1,.tmp t2],ty,pos,after,guard⟩=true:=by simp [Env.fT,Op.operands,Env.val,h1,h2]
 unfold iq
 rw [hc]
 show K (E.put dst (.func (.func f) (#[].map E.ev) (#[.tmp t1,.tmp t2].map E.ev))) w
 have e1:E.ev (.tmp t1)=v1:=by simp [Env.ev,Env.val,h1]
 have e2:E.ev (.tmp t2)=v2:=by simp [Env.ev,Env.val,h2]
 simp only [List.map_toArray,List.map_cons,List.map_nil,e1,e2]
 exact h
theorem Us {o:Oper} {T:TypeId} (ho:o.op=.makeMap T none) (h:K (E.put o.dst (.map (some w.heap.size))) (w.alloc (.map #[] 0))):ov P o E w K:=by
 obtain ⟨dst,op,ty,pos,after,guard⟩:=o
 simp only at ho
 subst ho
 have hc:E.fT ⟨dst,.makeMap T none,ty,pos,after,guard⟩=true:=by simp [Env.fT,Op.operands]
 have he:wi P ⟨dst,.makeMap T none,ty,pos,after,guard⟩ E w (λv w'=>K (E.put dst v) w'):=by
  unfold wi
  rw [hc]
  exact h
 unfold ov
 simp only [calm,cond_false]
 unfold me
 exact he
theorem sU {o:Oper} {T:TypeId} {m k v:Operand} {m' k' v':Value} (ho:o.op=.insert T m k v) (hm:E.val m=some m') (hk:E.val k=some k') (hv:E.val v=some v') (h:∃w',(Instr.mapUpdate T m' k' v').run P w=.ok () w'/\K (E.put o.dst undef) w'):ov P o E w K:=by
 obtain ⟨dst,op,ty,pos,after,guard⟩:=o
 simp only at ho
 subst ho
 show (match E.val m,E.val k,E.val v with |some m,some k,some v=>DH P (Instr.mapUpdate T m k v) w (λv w'=>K (E.put dst v) w')|_,_,_=>False)
 rw [hm,hk,hv]
 exact h
theorem zA {o:Oper} {t a b f:Nat} {ts:Array TypeId} {first captured:Array Value} {x y:Value} (ho:o.op=.call ⟨.value (.tmp t),#[.tmp a,.tmp b],ts⟩) (ht:E.get? t=some (.func (.func f) first captured)) (ha:E.get? a=some x) (hb:E.get? b=some y) (hc:fC P f=true)
  (h:Calls P f (first++#[x,y]++captured) w λe w'=>u9 (zeroOf P o.type) λv=>e=.returned v/\K (E.put o.dst v) w'):ov P o E w K:=by
 obtain ⟨dst,op,ty,pos,after,guard⟩:=o
 simp only at ho
 subst ho
 show hG (E.fT ⟨dst,.call ⟨.value (.tmp t),#[.tmp a,.tmp b],ts⟩,ty,pos,after,guard⟩) (match E.get? t with
  |some (.func (.func f) first captured)=>hG (fC P f) (tV P f (first++(#[Operand.tmp a,.tmp b]).map E.ev++captured) (zeroOf P ty) w (λv w'=>K (E.put dst v) w'))
  |_=>False)
 have V2:E.fT ⟨dst,.call ⟨.value (.tmp t),#[.tmp a,.tmp b],ts⟩,ty,pos,after,guard⟩=true:=by simp [Env.fT,Op.operands,Call.operands,Env.val,ht,ha,hb]
 rw [V2,ht]
 show hG (fC P f) _
 rw [hc]
 have e1:E.ev (.tmp a)=x:=by simp [Env.ev,Env.val,ha]
 have e2:E.ev (.tmp b)=y:=by simp [Env.ev,Env.val,hb]
 show tV P f _ _ w _
 simp only [List.map_toArray,List.map_cons,List.map_nil,e1,e2]
 exact h
def uE (T:List (Nat×Nat×Value)) (L:Nat->Bool) (E:Env):Prop:=∀q∈T,(bif Nat.beq q.1 0 then true else L (q.1 - 1))=true->E.get? q.2.1=some q.2.2
theorem uE.get {T:List (Nat×Nat×Value)} {L:Nat->Bool} (h:uE T L E) {i d:Nat} {v:Value} (hq:(i,d,v)∈T) (hi:(bif Nat.beq i 0 then true else L (i - 1))=true):E.get? d=some v:=h _ hq hi
theorem eS {E:Env} {d t:Nat} {v:Value} (h:d≠t):(E.put (some d) v).get? t=E.get? t:=by
 have:Nat.beq d t=false:=by rw [<-Bool.not_eq_true,Nat.beq_eq];exact h
 simp only [Env.put,Env.get?,this,cond_false]
theorem te {E:Env} {d:Nat} {v:Value}:(E.put (some d) v).get? d=some v:=by simp [Env.put,Env.get?]
theorem uE.fill {T:List (Nat×Nat×Value)} {L:Nat->Bool} (h:uE T L E) {i d:Nat} {v:Value} (h1:∀q∈T,q.1=i+1->q=(i+1,d,v)) (h2:∀q∈T,q.2.1=d->q.1=i+1):uE T (ji L i) (E.put (some d) v):=by
 intro q hq hc
 by_cases hd:q.2.1=d
 .obtain rfl:=h1 q hq (h2 q hq hd)
  exact te
 .rw [eS (λe=>hd e.symm)]
  refine h q hq ?_
  by_cases h0:q.1=0
  .rw [h0];rfl
  .have hb:Nat.beq q.1 0=false:=by rw [<-Bool.not_eq_true,Nat.beq_eq];exact h0
   rw [hb] at hc ⊢
   have hM:q.1 - 1≠i:=λe=>hd (by rw [h1 q hq (by omega)])
   have:Nat.beq (q.1 - 1) i=false:=by rw [<-Bool.not_eq_true,Nat.beq_eq];exact hM
   simpa [ji,this] using hc
theorem uE.pass {T:List (Nat×Nat×Value)} {L:Nat->Bool} (h:uE T L E) {i:Nat} {d:Option Nat} {v:Value} (h1:∀q∈T,q.1≠i+1) (h2:∀q∈T,d≠some q.2.1):uE T (ji L i) (E.put d v):=by
 intro q hq hc
 have he:(E.put d v).get? q.2.1=E.get? q.2.1:=by
  cases d with
  |none=>rfl
  |some d=>exact eS λe=>h2 q hq (by rw [e])
 rw [he]
 refine h q hq ?_
 by_cases h0:q.1=0
 .rw [h0];rfl
 .have hb:Nat.beq q.1 0=false:=by rw [<-Bool.not_eq_true,Nat.beq_eq];exact h0
  rw [hb] at hc ⊢
  have hM:q.1 - 1≠i:=λe=>h1 q hq (by omega)
  have:Nat.beq (q.1 - 1) i=false:=by rw [<-Bool.not_eq_true,Nat.beq_eq];exact hM
  simpa [ji,this] using hc
end
structure LC (w:World) (L:List (Nat×List Value×TypeId)):Prop where
 own:∀(i:Nat) (x:Nat×List Value×TypeId),L[i]? =some x->w.heap[x.1]? =some (.cells x.2.1.toArray x.2.2 (0,0))
 dj:∀(i j:Nat) (x y:Nat×List Value×TypeId),L[i]? =some x->L[j]? =some y->x.1=y.1->i=j
abbrev pE (L:List (Nat×List Value×TypeId)):List Nat:=L.map (·.1)
def loc (bs:List Nat) (w:World) (K:World->Prop):Prop:=∀w',Fr (·∈bs) w w'->K w'
def bE (bs:List Nat) (w:World) (K:Nat->World->Prop):Prop:=∀b w',w.heap.size<=b->w'.heap.size=b+1->Fr (·∈bs) w w'->K b w'
def fV (bs:List Nat) (P:Program) (f:FuncId) (args:Array Value) (w:World) (K:aD):Prop:=∃M:Nat->Prop,(∀b∈bs,¬M b)/\Calls P f args w λr w'=>Fr M w w'/\K r w'
def kept (bs:List Nat) (w w':World):Prop:=∀b∈bs,w'.heap[b]? =w.heap[b]?
theorem MX {q:Option Addr} {K K':Addr->Prop} (h:aX q K) (f:∀p,K p->K' p):aX q K':=by
 cases q with
 |none=>exact h
 |some p=>exact f p h
theorem II {t:Bool} {A B A' B':Prop} (h:aF t A B) (h1:A->A') (h2:B->B'):aF t A' B':=Nk h1 h2 h
theorem pg {w:World} {p:Addr} {v:Value} {K K':World->Prop} (h:bX w p v K) (f:∀w1,K w1->K' w1):bX w p v K':=⟨h.1,h.2.1,f _ h.2.2⟩
section
variable {w wT:World} {L:List (Nat×List Value×TypeId)}
theorem LC.nil (w:World):LC w []:=⟨λi x h=>by simp at h,λi j x y h=>by simp at h⟩
theorem LC.blk (H:LC w L) {b:Nat} (hb:b∈pE L):∃(i:Nat) (x:Nat×List Value×TypeId),L[i]? =some x/\x.1=b:=by
 obtain ⟨x,hx,rfl⟩:=oT.1 hb
 obtain ⟨i,hi⟩:=KF.1 hx
 exact ⟨i,x,hi,rfl⟩
theorem LC.lt (H:LC w L) {b:Nat} (hb:b∈pE L):b<w.heap.size:=by
 obtain ⟨i,x,hi,rfl⟩:=H.blk hb
 exact gg (H.own i x hi)
theorem LC.xj {w':World} (H:LC w L) (h:kept (pE L) w w'):LC w' L:=
 ⟨λi x hi=>by rw [h x.1 (oT.2 ⟨x,cZ hi,rfl⟩)];exact H.own i x hi,H.dj⟩
theorem LC.fr {M:Nat->Prop} {w':World} (H:LC w L) (f:Fr M w w') (hm:∀b∈pE L,¬M b):LC w' L:=H.xj λb hb=>f.gV b (H.lt hb) (hm b hb)
theorem LC.pick (H:LC w L) (is:List Nat) (hn:is.Nodup):LC w (is.filterMap λi=>L[i]?):=by
 induction is with
 |nil=>exact LC.nil w
 |cons k is ih=>
  have ih:=ih (List.nodup_cons.1 hn).2
  cases hk:L[k]? with
  |none=>rw [List.filterMap_cons_none hk];exact ih
  |some x=>
   rw [List.filterMap_cons_some hk]
   have back:∀(j:Nat) y,(is.filterMap λi=>L[i]?)[j]? =some y->y.1≠x.1:=by
    intro j y hy e
    obtain ⟨m,hm,hmy⟩:=List.mem_filterMap.1 (cZ hy)
    have:=H.dj m k y x hmy hk e
    subst this
    exact (List.nodup_cons.1 hn).1 hm
   refine ⟨λi y hi=>?_,λi j y z hi hj e=>?_⟩
   .cases i with
    |zero=>simp at hi;subst hi;exact H.own k x hk
    |succ i=>exact ih.own i y (by simpa using hi)
   .cases i with
    |zero=>
     cases j with
     |zero=>rfl
     |succ j=>simp at hi;subst hi;exact absurd e.symm (back j z (by simpa using hj))
    |succ i=>
     cases j with
     |zero=>simp at hj;subst hj;exact absurd e (back i y (by simpa using hi))
     |succ j=>rw [ih.dj i j y z (by simpa using hi) (by simpa using hj) e]
theorem LC.ld (H:LC w L) (i j:Nat) {b:Nat} {vs:List Value} {T:TypeId} {v:Value} (hi:L[i]? =some (b,vs,T):=by rfl) (hj:vs[j]? =some v:=by rfl):w.cell? ((bF b).add j)=some v:=
 cellAt (p:=bF b) (H.own i _ hi) rfl (by simpa using hj)
theorem LC.GB (H:LC w L) (i:Nat) {b:Nat} {vs:List Value} {T:TypeId} {v:Value} (hi:L[i]? =some (b,vs,T):=by rfl) (hj:vs[0]? =some v:=by rfl):w.cell? (bF b)=some v:=by
 have:=H.ld i 0 hi hj
 rwa [uH] at this
theorem LC.alloc (H:LC w L) (o:Obj):LC (w.alloc o) L:=H.fr (M:=λ_=>False) (Fr.alloc _ _ _) (λ_ _ h=>h)
theorem LC.push (H:LC w L) (cs:Array Value) (T:TypeId):LC (w.alloc (.cells cs T)) (L++[(w.heap.size,cs.toList,T)]):=by
 have H1:=H.alloc (.cells cs T)
 have Aa:∀(i:Nat) x,L[i]? =some x->x.1<w.heap.size:=λi x hi=>gg (H.own i x hi)
 have ix:∀(i:Nat) x,(L++[(w.heap.size,cs.toList,T)])[i]? =some x->(L[i]? =some x)\/(i=L.length/\x=(w.heap.size,cs.toList,T)):=by
  intro i x hi
  rw [List.getElem?_append] at hi
  split at hi
  .exact .inl hi
  .rename_i hl
   right
   have:i - L.length=0:=by
    rcases Nat.eq_zero_or_pos (i - L.length) with h|h
    .exact h
    .rw [List.getElem?_eq_none (by simp;omega)] at hi;cases hi
   rw [this] at hi
   simp at hi
   exact ⟨by omega,hi.symm⟩
 refine ⟨λi x hi=>?_,λi j x y hi hj e=>?_⟩
 .rcases ix i x hi with h|⟨_,rfl⟩
  .exact H1.own i x h
  .simp only [Array.toArray_toList]
   exact nk w _
 .rcases ix i x hi with h|⟨h,rfl⟩
  .rcases ix j y hj with h'|⟨h',rfl⟩
   .exact H.dj i j x y h h' e
   .have:=Aa i x h;simp only at e;omega
  .rcases ix j y hj with h'|⟨h',rfl⟩
   .have:=Aa j y h';simp only at e;omega
   .omega
theorem LC.Du (H:LC w L) {P:Program} {g:FuncId} {args:Array Value} {K K':aD} (h:fV (pE L) P g args w K') (hk:∀r w',LC w' L->K' r w'->K r w'):Calls P g args w K:=by
 obtain ⟨M,hm,hc⟩:=h
 exact hc.mono λr w' ⟨f,h'⟩=>hk r w' (H.fr f hm) h'
theorem LC.VJ (H:LC w L) {K:World->Prop} (f:Fr (·∈pE L) wT w) (hk:∀w1,LC w1 L->Fr (·∈pE L) wT w1->K w1):uU w K:=hk _ (H.fr (M:=λ_=>False) (Fr.drew _ _) (λ_ _ h=>h)) (f.Ab (Fr.drew _ _))
theorem FO (L:List (Nat×List Value×TypeId)) (i:Nat) {b:Nat} {vs zR:List Value} {T:TypeId} (hi:L[i]? =some (b,vs,T)):pE (L.set i (b,zR,T))=pE L:=by
 apply List.ext_getElem?
 intro k
 simp only [pE,List.getElem?_map,qgT]
 split
 .rename_i e
  subst e
  rw [hi]
  split
  .rfl
  .rename_i h;exact absurd (oN.1 hi).1 h
 .rfl
theorem LC.set (H:LC w L) (i j:Nat) {b:Nat} {vs:List Value} {T:TypeId} {v:Value} (hi:L[i]? =some (b,vs,T)) (hj:j<vs.length) (f:Fr (·∈pE L) wT w):
  (w.cell? ((bF b).add j)).isSome=true/\w.frozen? ((bF b).add j)=false/\LC (w.setCell ((bF b).add j) v) (L.set i (b,vs.set j v,T))/\Fr (·∈pE (L.set i (b,vs.set j v,T))) wT (w.setCell ((bF b).add j) v):=by
 obtain ⟨x1,x2,x3,x4⟩:=IK (H.own i _ hi) j (by simpa using hj) v
 have hb:b∈pE L:=oT.2 ⟨_,cZ hi,rfl⟩
 refine ⟨x1,x2,⟨λk x hk=>?_,λk m x y hk hm e=>?_⟩,?_⟩
 .rw [qgT] at hk
  split at hk
  .split at hk
   .cases hk
    simp only
    rw [x3]
    simp
   .cases hk
  .rename_i hM
   have:=x4.gV x.1 (gg (H.own k x hk)) (λe=>hM (H.dj i k _ x hi hk e.symm))
   rw [this]
   exact H.own k x hk
 .have g:∀(k:Nat) x,(L.set i (b,vs.set j v,T))[k]? =some x->∃y,L[k]? =some y/\y.1=x.1:=by
   intro k x hk
   rw [qgT] at hk
   split at hk
   .rename_i e;subst e
    split at hk
    .cases hk;exact ⟨_,hi,rfl⟩
    .cases hk
   .exact ⟨x,hk,rfl⟩
  obtain ⟨x',h1,e1⟩:=g k x hk
  obtain ⟨y',h2,e2⟩:=g m y hm
  exact H.dj k m x' y' h1 h2 (by rw [e1,e2,e])
 .rw [FO L i hi]
  exact f.trans x4 λx _ e=>e▸hb
theorem ng {bs:List Nat} {P:Program} {f:FuncId} {args:Array Value} {K:aD} (h:Calls P f args w λr w'=>bI w w'/\K r w'):fV bs P f args w K:=⟨λ_=>False,λ_ _ h=>h,h⟩
end
def En.g (b:Nat):En:=⟨[b],λw=>b<w.heap.size,λw w' h hp=>(by
  have:=h b (by simp) hp
  rcases Nat.lt_or_ge b w'.heap.size with h1|h1
  .exact h1
  .rw [Array.getElem?_eq_none h1,Array.getElem?_eq_getElem hp] at this;cases this),λw hp x hx=>by simp at hx;subst hx;exact hp,by simp⟩
section
variable {M:Nat->Prop} {w0 w:World} {L D:List En} {bs:List Nat}
theorem LH.ghost (H:LH M w0 w L D) {w':World} (f:Fr (·∈bs) w w') (jf:∀b∈bs,En.g b∈L):LH M w0 w' L D:=by
 refine ⟨H.fr.trans f λx hx hm=>(H.new _ (jf x hm) x (by simp [En.g])).resolve_left (by omega),λe he=>?_,λe he=>?_,H.new,H.nd,H.dj⟩
 .by_cases hg:∃b∈bs,b∈e.fp
  .obtain ⟨b,hb,rf⟩:=hg
   obtain ⟨i,hi⟩:=KF.1 he
   obtain ⟨j,hj⟩:=KF.1 (jf b hb)
   have xL:i=j:=by
    rcases Nat.decEq i j with h|h
    .exact absurd (by simp [En.g]) (oZ H.nd hi hj h b rf)
    .exact h
   subst xL
   rw [hi] at hj
   cases hj
   exact Nat.lt_of_lt_of_le (H.own _ he) f.size
  .exact e.st w w' (λb hb hl=>f.gV b hl λhm=>hg ⟨b,hm,hb⟩) (H.own e he)
 .exact e.st w w' (λb hb hl=>f.gV b hl λhm=>H.dj e he b hb _ (jf b hm) (by simp [En.g])) (H.rd e he)
theorem LH.aK (H:LH M w0 w L D) {K:World->Prop} (hk:∀w1,LH M w0 w1 L D->K w1) (jf:∀b∈bs,En.g b∈L:=by simp):loc bs w K:=λ_ f=>hk _ (H.ghost f jf)
theorem LH.bJ (H:LH M w0 w L D) {K:Nat->World->Prop} (hk:∀b w1,LH M w0 w1 (L++[.g b]) D->K b w1) (jf:∀b∈bs,En.g b∈L:=by simp):bE bs w K:=λb w1 h1 h2 f=>hk b w1 (by
 have H1:=H.ghost f jf
 refine ⟨H1.fr,λe he=>?_,H1.rd,λe he x hx=>?_,?_,λe he x hx e' mI Eb=>?_⟩
 .rcases fW.1 he with he|he
  .exact H1.own e he
  .simp at he;subst he;show b<_;omega
 .rcases fW.1 he with he|he
  .exact H.new e he x hx
  .simp at he;subst he;simp [En.g] at hx;subst hx;exact .inl (Nat.le_trans H.fr.size h1)
 .rw [qfA,qnA]
  refine ⟨H.nd,by simp [En.g],λx hx y hy=>?_⟩
  have:=H.GM x hx
  simp [En.g] at hy
  omega
 .rcases fW.1 mI with mI|mI
  .exact H.dj e he x hx e' mI Eb
  .simp at mI;subst mI;simp [En.g] at Eb;subst Eb
   have:=e.lt w (H.rd e he) x hx
   omega)
theorem LH.aJ (H:LH M w0 w L D) {P:Program} {g:FuncId} {args:Array Value} {A K:aD} (hc:Calls P g args w λr w'=>A r w'/\bI w w') (hk:∀r w',A r w'->LH M w0 w' L D->K r w'):fV bs P g args w K:=
 ng (hc.mono λr w' ⟨ha,f⟩=>⟨f,hk r w' ha (H.oR f)⟩)
theorem LH.call (H:LH M w0 w L D) {P:Program} {g:FuncId} {args:Array Value} {A K:aD} (hc:Calls P g args w λr w'=>A r w'/\bI w w') (hk:∀r w',A r w'->LH M w0 w' L D->K r w'):Calls P g args w K:=
 hc.mono λr w' ⟨ha,f⟩=>hk r w' ha (H.oR f)
theorem LH.WT (H:LH M w0 w L D) {w':World} (f:bI w w') {e:TypeId} {sz:Nat} {s:Sl} {vs:List Value} (h:aP w' e sz s vs) (hn:∀b∈bC s,w.heap.size<=b):LH M w0 w' (L++[.row e sz s vs]) D:=H.push (.row e sz s vs) f h hn
theorem LH.apk (H:LH M w0 w L D) (i:Nat) {P:Program} {t ty e:TypeId} {z:Value} {sz bytes:Nat} (el:iJ P t e z sz bytes) {s src:Sl} {xs news:List Value} {K:Sl->World->Prop}
  (hi:L[i]? =some (.row e sz s xs)) (hr:oz w src news) (hl:news.length=src.n *sz) (h1:∀u∈news,u.oneCell'=true) (hb:(s.n+src.n) *bytes<=140737488355328)
  (hK:∀s' w',LH M w0 w' (L.set i (.row e sz s' (xs++news))) D->s'.n=s.n+src.n->(s'.a=none->s.a=none/\src.n=0)->(∀b,En.g b∈L->w'.heap[b]? =w.heap[b]?)->K s' w'):
  ∃s' w',(Builtin.append_ #[t,t] ty #[s.v,src.v]).run P w=.ok s'.v w'/\K s' w':=by
 obtain ⟨s',w',g1,g2,g3,g4,g5,g6⟩:=pY (ty:=ty) el (H.get i hi) hr hl h1 hb
 refine ⟨s',w',g1,hK s' w' (H.CZ i (.row e sz s' (xs++news)) hi g4 g2 g5) g3 g6 λb hb=>?_⟩
 refine g4.gV b (H.own _ hb) λhm=>?_
 obtain ⟨j,hj⟩:=KF.1 hb
 by_cases xL:i=j
 .subst xL
  rw [hi] at hj
  cases Gp:(En.row e sz s xs) with
  |mk fp P' st lt nd=>
   have e1:En.row e sz s xs=En.g b:=Option.some.inj hj
   have e2:(En.row e sz s xs).P=(En.g b).P:=by rw [e1]
   have e3:=congrFun e2 w
   have e4:(En.row e sz s xs).P (w.alloc (.cells #[] e))=(En.g b).P (w.alloc (.cells #[] e)):=by rw [e1]
   have f1:(En.row e sz s xs).fp=(En.g b).fp:=by rw [e1]
   have JB:(En.g b).P ({w with heap:=Array.replicate (b+1) (.map #[] 0)}):=by show b<_;simp
   rw [<-e2] at JB
   have hty:=(aP.row (show aP ({w with heap:=Array.replicate (b+1) (.map #[] 0)}) e sz s xs from JB)).UC b hm
   obtain ⟨cs,f,hc⟩:=hty
   simp at hc
 .exact oZ H.nd hi hj xL b hm (by simp [En.g])
end
def jO (sz:Nat) (w:World) (s:Sl) (vs:List Value):Prop:=vs.length=s.n *sz/\s.n<=s.c/\oz w s vs
theorem jO.fr {sz:Nat} {M:Nat->Prop} {w w':World} {s:Sl} {vs:List Value} (h:jO sz w s vs) (hf:Fr M w w') (hn:∀b∈bC s,¬M b):jO sz w' s vs:=⟨h.1,h.2.1,h.2.2.fr hf hn⟩
theorem jO.oR {sz:Nat} {w w':World} {s:Sl} {vs:List Value} (h:jO sz w s vs) (hf:bI w w'):jO sz w' s vs:=h.fr hf λ_ _ h=>h
theorem aP.jh {w:World} {e:TypeId} {sz:Nat} {s:Sl} {vs:List Value} (h:aP w e sz s vs):jO sz w s vs:=⟨h.len,h.cap,h.row.LL⟩
theorem jO.nil (sz:Nat) (w:World):jO sz w ⟨none,0,0⟩ []:=⟨by simp,Nat.le_refl _,oz.nil w⟩
def En.jh (sz:Nat) (s:Sl) (vs:List Value):En:=⟨if vs=[] then [] else bC s,λw=>jO sz w s vs,λw w' h hp=>by
  refine ⟨hp.1,hp.2.1,hp.2.2.1,λi v hi=>?_⟩
  obtain ⟨p,ha,hc⟩:=hp.2.2.2 i v hi
  have hM:vs≠[]:=λe=>by subst e;simp at hi
  rw [if_neg hM] at h
  have:=h p.block (by simp [bC,ha]) (by have:=oY hc;rwa [gF] at this)
  refine ⟨p,ha,?_⟩
  unfold World.cell? at hc ⊢
  rw [gF] at hc ⊢
  rw [this];exact hc,λw hp b hb=>by
  split at hb
  .cases hb
  .rename_i hM
   have h0:0<vs.length:=List.length_pos_iff.2 hM
   obtain ⟨p,ha,hc⟩:=hp.2.2.2 0 vs[0] (gW h0)
   simp [bC,ha] at hb
   subst hb
   have:=oY hc
   rwa [gF] at this,by split<;>(try simp);unfold bC;split<;>simp⟩
def zF (sz:Nat) (s:Sl) (l h:Nat):Sl:=⟨if s.c=l then s.a else s.a.map (·.add (l *sz)),h - l,s.c - l⟩
theorem jO.sub {sz:Nat} {w:World} {s:Sl} {vs:List Value} (h:jO sz w s vs) (l hi:Nat) (hl:l<=hi) (hh:hi<=s.n):jO sz w (zF sz s l hi) ((vs.take (hi *sz)).drop (l *sz)):=by
 obtain ⟨h1,h2,h3,h4⟩:=h
 have e1:hi *sz<=s.n *sz:=Nat.mul_le_mul_right _ hh
 refine ⟨?_,?_,?_,λi v hv=>?_⟩
 .rw [List.length_drop,List.length_take,h1,Nat.min_eq_left e1]
  show _=(hi - l) *sz
  rw [Nat.sub_mul]
 .show hi - l<=s.c - l
  omega
 .intro ha
  unfold zF at ha ⊢
  simp only at ha ⊢
  split at ha
  .have:=h3 ha;omega
  .cases hs:s.a with
   |none=>have:=h3 hs;omega
   |some p=>rw [hs] at ha;cases ha
 .rw [List.getElem?_drop] at hv
  have l6:l *sz+i<hi *sz:=by
   have:=(oN.1 hv).1
   rw [List.length_take] at this
   omega
  rw [qgTk,if_pos l6] at hv
  obtain ⟨p,hp,hc⟩:=h4 _ _ hv
  have hM:s.c≠l:=λe=>by
   have:hi<=l:=by omega
   have:=Nat.mul_le_mul_right sz this
   omega
  refine ⟨p.add (l *sz),?_,?_⟩
  .unfold zF
   simp only
   rw [if_neg hM,hp]
   rfl
  .rw [add_add];exact hc
def Is:List Nat->List Nat
 |[]=>[]
 |a::l=>if a∈Is l then Is l else a::Is l
theorem aI {x:Nat}:∀{l:List Nat},x∈Is l↔x∈l
 |[]=>Iff.rfl
 |a::l=>by
  unfold Is
  split
  .rename_i h
   rw [aI,cU]
   exact ⟨.inr,λh'=>h'.elim (λe=>by subst e;exact aI.1 h) id⟩
  .rw [cU,cU,aI]
theorem mU:∀l:List Nat,(Is l).Nodup
 |[]=>.nil
 |a::l=>by
  unfold Is
  split
  .exact mU l
  .rename_i h
   exact List.nodup_cons.2 ⟨h,mU l⟩
def En.all (es:List En):En:=⟨Is (es.flatMap (·.fp)),λw=>∀e∈es,e.P w,λw w' h hp e he=>e.st w w' (λb hb hl=>h b (aI.2 (mY.2 ⟨e,he,hb⟩)) hl) (hp e he),
 λw hp b hb=>(by
  obtain ⟨e,he,rf⟩:=mY.1 (aI.1 hb)
  exact e.lt w (hp e he) b rf),mU _⟩
section
variable {M:Nat->Prop} {w0 w:World} {L D:List En} {bs:List Nat}
structure KI (M:Nat->Prop) (w0 w w':World) (L D:List En):Prop where
 own:∀e:En,e.P w'->(∀b∈e.fp,w.heap.size<=b)->LH M w0 w' (L++[e]) D
 rd:∀e:En,e.P w'->(∀b∈e.fp,w.heap.size<=b)->LH M w0 w' L (D++[e])
theorem LH.fresh (H:LH M w0 w L D) {w':World} (f:bI w w'):KI M w0 w w' L D:=⟨λe h1 h2=>H.push e f h1 h2,λe h1 h2=>H.mE e f h1 λb hb=>.inl (h2 b hb)⟩
theorem LH.sh (H:LH M w0 w L D) {P:Program} {g:FuncId} {args:Array Value} {A K:aD} (hc:Calls P g args w λr w'=>A r w'/\bI w w') (hk:∀r w',A r w'->LH M w0 w' L D->KI M w0 w w' L D->K r w'):fV bs P g args w K:=
 ng (hc.mono λr w' ⟨ha,f⟩=>⟨f,hk r w' ha (H.oR f) (H.fresh f)⟩)
theorem LH.Dv (H:LH M w0 w L D) {P:Program} {g:FuncId} {args:Array Value} {A K:aD} (hc:Calls P g args w λr w'=>A r w'/\bI w w') (hk:∀r w',A r w'->LH M w0 w' L D->KI M w0 w w' L D->K r w'):Calls P g args w K:=
 hc.mono λr w' ⟨ha,f⟩=>hk r w' ha (H.oR f) (H.fresh f)
end
theorem Cq {sz:Nat} {s:Sl} {vs:List Value} {n:Nat} (h:∀b∈bC s,n<=b):∀b∈(En.jh sz s vs).fp,n<=b:=λb hb=>by
 have:b∈(if vs=[] then [] else bC s):=hb
 split at this
 .cases this
 .exact h b this
section
variable {M:Nat->Prop} {w0 w:World} {L D:List En} {bs:List Nat}
theorem LH.Je (H:LH M w0 w L D) (i:Nat) {P:Program} {t ty e:TypeId} {z:Value} {sz bytes:Nat} (el:iJ P t e z sz bytes) {s src:Sl} {xs news:List Value} {K:Sl->World->Prop}
  (hi:L[i]? =some (.row e sz s xs)) (hr:jO sz w src news) (h1:∀u∈news,u.oneCell'=true) (hb:(s.n+src.n) *bytes<=140737488355328)
  (hK:∀s' w',LH M w0 w' (L.set i (.row e sz s' (xs++news))) D->K s' w') (jf:∀b∈bs,En.g b∈L:=by simp):
  ∃s' w',(Builtin.append_ #[t,t] ty #[s.v,src.v]).run P w=.ok s'.v w'/\kept bs w w'/\K s' w':=
 H.apk i el (K:=λs' w'=>kept bs w w'/\K s' w') hi hr.2.2 hr.1 h1 hb λs' w' h _ _ hk=>⟨λb eD=>hk b (jf b eD),hK s' w' h⟩
theorem LH.tR (H:LH M w0 w L D) (i:Nat) {P:Program} {t ty e:TypeId} {z:Value} {sz bytes:Nat} (el:iJ P t e z sz bytes) {T:TypeId} {s:Sl} {xs:List Value} {news:Array Value} {K:Sl->World->Prop}
  (hi:L[i]? =some (.row e sz s xs)) (hK:∀s' w',LH M w0 w' (L.set i (.row e sz s' (xs++news.toList))) D->K s' w') (hb:(s.n+1) *bytes<=140737488355328) (hl:news.size=sz:=by rfl) (h1:∀u∈news.toList,u.oneCell'=true:=by simp [Value.oneCell']) (jf:∀b∈bs,En.g b∈L:=by simp):
  fJ w (.cells news T) λw1=>∃s' w',(Builtin.append_ #[t,t] ty #[s.v,.slice (some (Addr.mk w.heap.size 0 none)) 1 1]).run P w1=.ok s'.v w'/\kept bs w1 w'/\K s' w':=by
 have H1:LH M w0 (w.alloc (.cells news T)) L D:=H.oR (Fr.alloc _ _ _)
 exact H1.Je i el (src:=⟨some (bF w.heap.size),1,1⟩) (ty:=ty) (K:=K) (news:=news.toList) hi ⟨by simpa using hl,Nat.le_refl _,(Row.made w T 1 1 news.toList).LL⟩ h1 hb hK jf
end
theorem Co {w:World} {e:TypeId} {sz:Nat} {s:Sl} {vs:List Value} (h:aP w e sz s vs) (i:Nat) (hi:i<vs.length) (v:Value):
  ∃p,s.a=some p/\p.block∈bC s/\(w.cell? (p.add i)).isSome=true/\w.frozen? (p.add i)=false/\aP (w.setCell (p.add i) v) e sz s (vs.set i v)/\Fr (·∈bC s) w (w.setCell (p.add i) v):=by
 have hl:=h.len
 rcases h.cases with ⟨rfl,rfl⟩|⟨g,cur,ha,hg,h1,h2,h3,h4⟩
 .simp at hi
 .have hle:s.n *sz<=s.c *sz:=Nat.mul_le_mul_right _ h1
  have l8:i<cur.size:=by omega
  have hb:g∈bC s:=by simp [bC,ha]
  refine ⟨⟨g,0,none⟩,ha,hb,?_,frozenAt (p:=⟨g,0,none⟩) hg,?_,Fr.set _ _ _ (by rw [gF];exact hb)⟩
  .rw [cellAt (p:=⟨g,0,none⟩) (v:=cur[i]) hg rfl (by simp [l8])];rfl
  .refine ⟨by simpa using h.1,.inr ⟨g,s.c,cur.setIfInBounds i v,?_,Nat.zero_le _,?_,h1,h2,by simpa using h3,?_⟩⟩
   .obtain ⟨a,n,c⟩:=s
    simp only at ha
    subst ha;rfl
   .have:=setAt (p:=⟨g,0,none⟩) (i:=i) (v:=v) hg rfl
    simpa using this
   .rw [Array.toList_setIfInBounds,List.take_set,h4]
section
variable {M:Nat->Prop} {w0 w:World} {L D:List En} {bs:List Nat}
theorem LH.vd (H:LH M w0 w L D) {i:Nat} {e:TypeId} {sz:Nat} {s:Sl} {xs:List Value} (hi:L[i]? =some (.row e sz s xs)) {b:Nat} (hb:En.g b∈L):b∉bC s:=λhm=>by
 obtain ⟨j,hj⟩:=KF.1 hb
 by_cases xL:i=j
 .subst xL
  rw [hi] at hj
  have e1:En.row e sz s xs=En.g b:=Option.some.inj hj
  have e2:(En.row e sz s xs).P=(En.g b).P:=by rw [e1]
  have JB:(En.g b).P ({w with heap:=Array.replicate (b+1) (.map #[] 0)}):=by show b<_;simp
  rw [<-e2] at JB
  obtain ⟨cs,f,hc⟩:=(aP.row (show aP ({w with heap:=Array.replicate (b+1) (.map #[] 0)}) e sz s xs from JB)).UC b hm
  simp at hc
 .exact oZ H.nd hi hj xL b hm (by simp [En.g])
theorem LH.Bv (H:LH M w0 w L D) (i a c:Nat) {e:TypeId} {sz:Nat} {s:Sl} {xs:List Value} {v:Value} {p:Addr} {K:World->Prop} (hi:L[i]? =some (.row e sz s xs)) (hp:s.a=some p) (hj:a+c<xs.length)
  (hK:∀w',LH M w0 w' (L.set i (.row e sz s (xs.set (a+c) v))) D->K w') (jf:∀b∈bs,En.g b∈L:=by simp):bX w ((p.add a).add c) v λw1=>kept bs w w1/\K w1:=by
 obtain ⟨q,hq,hqb,x1,x2,x3,x4⟩:=Co (H.get i hi) (a+c) hj v
 rw [hp] at hq
 cases hq
 rw [add_add]
 refine ⟨x1,x2,λb hb=>?_,hK _ (H.CZ i (.row e sz s (xs.set (a+c) v)) hi x4 x3 (λb hb=>.inl hb))⟩
 exact x4.gV b (H.own _ (jf b hb)) λhm=>H.vd hi (jf b hb) hm
end
def sS:List Bool->List En->List En
 |true::m,a::l=>a::sS m l
 |false::m,_::l=>sS m l
 |_,_=>[]
theorem pA:∀(m:List Bool) (l:List En),(sS m l).Sublist l
 |[],l=>by unfold sS;exact List.nil_sublist _
 |true::m,[]=>by unfold sS;exact List.nil_sublist _
 |false::m,[]=>by unfold sS;exact List.nil_sublist _
 |true::m,a::l=>by unfold sS;exact (pA m l).cons_cons a
 |false::m,a::l=>by unfold sS;exact (pA m l).cons a
theorem Nw {α β:Type} {f:α->List β} {l m:List α} (h:l.Sublist m):(l.flatMap f).Sublist (m.flatMap f):=by
 induction h with
 |slnil=>exact List.Sublist.refl _
 |cons a _ ih=>rw [qfC];exact ih.trans (List.sublist_append_right _ _)
 |cons_cons a _ ih=>rw [qfC,qfC];exact (List.Sublist.refl _).append ih
theorem LH.sS {M:Nat->Prop} {w0 w:World} {L D:List En} (H:LH M w0 w L D) (m:List Bool):LH M w0 w (sS m L) D:=
 ⟨H.fr,λe he=>H.own e ((pA m L).subset he),H.rd,λe he=>H.new e ((pA m L).subset he),(Nw (pA m L)).nodup H.nd,λe he b hb e' mI=>H.dj e he b hb e' ((pA m L).subset mI)⟩
theorem Bm {s:Sl} {vs:List Value} {n:Nat} (h:∀b∈bC s,n<=b):∀b∈(En.rd s vs).fp,n<=b:=λb hb=>by
 have:b∈(if vs=[] then [] else bC s):=hb
 split at this
 .cases this
 .exact h b this
theorem pw {M:Nat->Prop} {w0 w:World} {L D:List En} (H:LH M w0 w L D) {i:Nat} {e:En} (hi:L[i]? =some e) (wx:∀(b:Nat),¬e.P ({w with heap:=Array.replicate (b+1) (.map #[] 0)})) {b:Nat} (hb:En.g b∈L):b∉e.fp:=by
 obtain ⟨j,hj⟩:=KF.1 hb
 by_cases xL:i=j
 .subst xL
  rw [hi] at hj
  have e1:e=En.g b:=Option.some.inj hj
  exfalso
  refine wx b ?_
  rw [e1]
  show b<_
  simp
 .intro hm
  exact oZ H.nd hi hj xL b hm (by simp [En.g])
end Go.W
