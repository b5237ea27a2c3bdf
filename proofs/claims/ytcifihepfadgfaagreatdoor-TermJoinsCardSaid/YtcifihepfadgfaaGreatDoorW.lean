import Derived.OrdersHeld
import Derived.OrdersIn
import Derived.RangeFuncLeaves
import Derived.RangeFuncRecord
import Derived.RangeFuncSeq
import Derived.WalkKit
import Derived.Laws.AppendOwn
import Derived.Laws.StructEq
import Derived.KernelRfl
import Derived.Below
import Derived.OwnWalk
import Derived.IntWalk
import Derived.Laws.AppendOwnNone
set_option linter.unusedVariables false
namespace Go.W
open List renaming mem_append->fS,mem_cons->cS,mem_of_getElem?->cR,getElem?_eq_getElem->g8,getElem?_eq_some_iff->ov,mem_append_right->uD,mem_flatMap->mI,mem_map->pX,mem_of_mem_take->Ti,mem_singleton->Ws,flatMap_append->r8,flatMap_cons->vw,mem_iff_getElem?->LO,getElem?_set->Zm,mem_or_eq_of_mem_set->qmO,nodup_append->Bj,mem_cons_of_mem->lr,mem_cons_self->Bi,all_eq_true->wD,getElem?_take->Vv,eq_nil_of_length_eq_zero->Wr
abbrev Env:=List (Nat×Value)
def Env.get? :Env->Nat->Option Value
 |[],_=>none
 |(k,v)::E,t=>bif Nat.beq k t then some v else Env.get? E t
def Env.val (E:Env):Operand->Option Value
 |.tmp t=>E.get? t
 |.const v=>some v
 |.global g=>some (.pointer (some ⟨g,0,none⟩))
 |.func f=>some (.func (.func f) #[] #[])
def Env.ev (E:Env) (x:Operand):Value:=(E.val x).getD undef
def Env.put (E:Env) (d:Option Nat) (v:Value):Env:=
 match d with
 |some d=>(d,v)::E
 |none=>E
def Env.gh (E:Env) (o:Oper):Bool:=o.op.operands.toList.all λx=>(E.val x).isSome
structure Cx where
 n:Nat
 ds:List Deferred
 ro:Option Nat
instance:CoeHead Cx Nat:=⟨Cx.n⟩
abbrev cx (n:Nat):Cx:=⟨n,[],none⟩
abbrev FW (n:Cx):Fence:={Fence.wide with round:=n.ro}
structure Ag (n:Cx) (a:Act) (E:Env):Prop where
 defers:a.defers=n.ds
 size:a.tmps.size=n.n
 get:∀t v,E.get? t=some v->a.tmps[t]? =some v
theorem Ag.val {n:Cx} {a:Act} {E:Env} (h:Ag n a E) {x:Operand} {v:Value} (hx:E.val x=some v):a.eval x=v:=by
 cases x with
 |tmp t=>have:=h.get t v hx;simp [Act.eval,this]
 |const u=>simpa [Env.val,Act.eval] using hx
 |global g=>simpa [Env.val,Act.eval] using hx
 |func f=>simpa [Env.val,Act.eval] using hx
theorem Ag.ev {n:Cx} {a:Act} {E:Env} (h:Ag n a E) {x:Operand} (hx:(E.val x).isSome=true):a.eval x=E.ev x:=by
 obtain ⟨v,hv⟩:=Option.isSome_iff_exists.1 hx
 rw [h.val hv,Env.ev,hv];rfl
theorem Ag.put {n:Cx} {a:Act} {E:Env} (h:Ag n a E) {d:Option Nat} (v:Value) (hd:∀t,d=some t->t<n.n):Ag n (a.put d v) (E.put d v):=by
 cases d with
 |none=>exact h
 |some t=>
  refine ⟨h.defers,by simp [Act.put,h.size],?_⟩
  intro s u hs
  have ht:t<a.tmps.size:=by rw [h.size];exact hd t rfl
  simp only [Env.put,Env.get?] at hs
  by_cases e:t=s
  .subst e
   simp at hs
   simp [Act.put,ht,hs]
  .have:Nat.beq t s=false:=by rw [<-Bool.not_eq_true,Nat.beq_eq];exact e
   simp only [this,cond_false] at hs
   simpa [Act.put,Array.getElem?_setIfInBounds_ne e] using h.get s u hs
theorem Ag.nil {n:Cx} {a:Act} {E:Env} (h:Ag n a E):Ag n a []:=⟨h.defers,h.size,λ_ _ h=>by simp [Env.get?] at h⟩
theorem Ag.cons {n:Cx} {a:Act} {E F:Env} (h:Ag n a E) {t:Nat} {v:Value} (ht:E.get? t=some v) (hF:Ag n a F):Ag n a ((t,v)::F):=by
 refine ⟨h.defers,h.size,?_⟩
 intro s u hs
 simp only [Env.get?] at hs
 by_cases e:t=s
 .subst e;simp at hs;subst hs;exact h.get _ _ ht
 .have:Nat.beq t s=false:=by rw [<-Bool.not_eq_true,Nat.beq_eq];exact e
  simp only [this,cond_false] at hs
  exact hF.get s u hs
theorem Ag.execOp {n:Cx} {a:Act} {E:Env} (h:Ag n a E) {o:Oper} (hs:∀cs b,o.op≠.select cs b) (hc:E.gh o=true):execOp a.eval o=execOp E.ev o:=
 execOp_congr o hs λx hx=>h.ev (by
  have:=wD.1 hc x (by simpa using hx)
  exact this)
structure Sl where
 a:Option Addr
 n:Nat
 c:Nat
abbrev Sl.v (s:Sl):Value:=.slice s.a s.n s.c
abbrev aD:=Ending->World->Prop
structure Fv where
 n:Nat
 bs:Array Value
 cs:Array Value
abbrev Fv.v (f:Fv):Value:=.func (.func f.n) f.bs f.cs
def zx (z:Value) (K:Value->Prop):Prop:=
 match z with
 |.int k _=>∃n:Int,K (.int k n)
 |.bool _=>∃b:Bool,K (.bool b)
 |.string _=>∃s:ByteArray,K (.string s)
 |.slice _ _ _=>∃s:Sl,K s.v
 |.pointer _=>∃a:Option Addr,K (.pointer a)
 |.map _=>∃r:Option Nat,K (.map r)
 |_=>∃v:Value,K v
def yS:List Value->(List Value->Prop)->Prop
 |[],K=>K []
 |z::zs,K=>zx z λv=>yS zs λvs=>K (v::vs)
def CY (z:Value) (K:Value->Prop):Prop:=
 match z with
 |.agg cs=>yS cs.toList λvs=>K (.agg vs.toArray)
 |z=>zx z K
def CZ:List Value->(List Value->Prop)->Prop
 |[],K=>K []
 |z::zs,K=>CY z λv=>CZ zs λvs=>K (v::vs)
def vV (z:Value) (K:Value->Prop):Prop:=
 match z with
 |.tuple zs=>CZ zs.toList λvs=>K (.tuple vs.toArray)
 |z=>CY z K
theorem te {z:Value} {K:Value->Prop} (h:zx z K):∃v,K v:=by
 unfold zx at h
 split at h
 .obtain ⟨n,h⟩:=h;exact ⟨_,h⟩
 .obtain ⟨n,h⟩:=h;exact ⟨_,h⟩
 .obtain ⟨n,h⟩:=h;exact ⟨_,h⟩
 .obtain ⟨n,h⟩:=h;exact ⟨_,h⟩
 .obtain ⟨n,h⟩:=h;exact ⟨_,h⟩
 .obtain ⟨n,h⟩:=h;exact ⟨_,h⟩
 .exact h
theorem rQ:∀{zs:List Value} {K:List Value->Prop},yS zs K->∃vs,vs.length=zs.length/\K vs
 |[],_,h=>⟨[],rfl,h⟩
 |_::_,_,h=>by
  obtain ⟨v,h⟩:=te h
  obtain ⟨vs,hl,h⟩:=rQ h
  exact ⟨v::vs,by simp [hl],h⟩
theorem yf {z:Value} {K:Value->Prop} (h:CY z K):∃v,K v:=by
 unfold CY at h
 split at h
 .obtain ⟨vs,_,h⟩:=rQ h;exact ⟨_,h⟩
 .exact te h
theorem vW:∀{zs:List Value} {K:List Value->Prop},CZ zs K->∃vs,K vs
 |[],_,h=>⟨[],h⟩
 |_::_,_,h=>by
  obtain ⟨v,h⟩:=yf h
  obtain ⟨vs,h⟩:=vW h
  exact ⟨v::vs,h⟩
theorem ni {z:Value} {K:Value->Prop} (h:vV z K):∃v,K v:=by
 unfold vV at h
 split at h
 .obtain ⟨vs,h⟩:=vW h;exact ⟨_,h⟩
 .exact yf h
def hU (b:Bool) (p:Prop):Prop:=match b with |true=>p|false=>False
theorem bX {b:Bool} {p:Prop} (h:hU b p):b=true/\p:=by
 cases b
 .exact h.elim
 .exact ⟨rfl,h⟩
def aG (t:Bool) (A B:Prop):Prop:=match t with |true=>A|false=>B
theorem bA {t:Bool} {A B:Prop} (h1:t=true->A) (h2:t=false->B):aG t A B:=by
 cases t
 .exact h2 rfl
 .exact h1 rfl
theorem aQ {t:Bool} {A B:Prop} (ht:t=true) (h:A):aG t A B:=by subst ht;exact h
theorem aI {t:Bool} {A B:Prop} (ht:t=false) (h:B):aG t A B:=by subst ht;exact h
def aW (q:Option Addr) (K:Addr->Prop):Prop:=match q with |some p=>K p|none=>False
theorem Ce {q:Option Addr} {K:Addr->Prop} (h:aW q K):∃p,q=some p/\K p:=by
 cases q with
 |none=>exact h.elim
 |some p=>exact ⟨p,rfl,h⟩
def Kb:List Prop->Prop->Prop
 |[],p=>p
 |q::l,p=>q/\Kb l p
theorem qc:∀{l:List Prop} {p:Prop},Kb l p->(∀q∈l,q)/\p
 |[],_,h=>⟨λ_ h=>(by cases h),h⟩
 |_::_,_,h=>⟨λq hq=>by
   rcases cS.1 hq with rfl|hq
   .exact h.1
   .exact (qc h.2).1 q hq,(qc h.2).2⟩
def r7 {α:Type} (P:Program):Sem α->Option α
 |.pure a=>some a
 |.program k=>r7 P (k P)
 |_=>none
theorem uC {α:Type} {P:Program}:∀{s:Sem α} {a:α},r7 P s=some a->∀w,s.run P w=.ok a w
 |.pure _,_,h,w=>by simp [r7] at h;subst h;rfl
 |.program k,_,h,w=>by simp only [r7] at h;exact uC h w
 |.load ..,_,h,_|.store ..,_,h,_|.new ..,_,h,_|.shape ..,_,h,_|.freeze ..,_,h,_|.frozen ..,_,h,_|.getObj ..,_,h,_|.setObj ..,_,h,_
 |.choose ..,_,h,_|.sys ..,_,h,_|.mark ..,_,h,_|.halt ..,_,h,_=>by simp [r7] at h
def zeroOf (P:Program) (t:TypeId):Value:=((P.info? t).bind (·.zero)).getD undef
def calm (P:Program) (o:Oper):Bool:=
 match o.op with
 |.convert s d _=>match P.underlying s,P.underlying d with
  |some (.slice _),some (.slice _)=>false
  |some .string,some (.slice _)=>false
  |_,_=>true
 |.move _|.assign _|.pick ..|.build ..|.load ..|.nilCheck _|.binOp ..|.unOp ..|.makeInterface ..|.makeFunc ..|.slice ..|.fieldAddr ..|.field ..|.indexAddr ..|.index ..
 |.lookup ..|.typeAssert ..|.extract ..=>true
 |.call {callee:=.builtin b,..}=>match b with |.len|.cap|.min|.max=>true|_=>false
 |_=>false
def ze (x:Option Value) (y aab:Nat) (K:Nat->Prop):Prop:=
 match x with
 |none=>K aab
 |some (.int _ i)=>0<=i/\i<=(y:Int)/\K i.toNat
 |_=>False
def G6 (P:Program) (T:TypeId):Option Bool:=
 match P.underlying T with
 |some (.struct _)|some (.array _ _)=>some true
 |some _=>some false
 |none=>none
def IK (P:Program) (T:TypeId):Bool:=
 match zeroOf P T with
 |.agg cs=>G6 P T==some true&&(match P.info? T with |some i=>i.size==cs.size|none=>false)
 |_=>G6 P T==some false
def Bd (P:Program) (T:TypeId) (p:Addr) (w:World) (K:Value->List (World->Prop)->Prop):Prop:=
 hU (IK P T)<|match zeroOf P T with
 |.agg cs=>yS cs.toList λvs=>Kb (vs.zipIdx.map λ(v,i)=>w.cell? (p.add i)=some v) (K (.agg vs.toArray) (vs.zipIdx.map λ(v,i)=>λw'=>w'.cell? (p.add i)=some v))
 |.nilFunc=>∃f:Fv,w.cell? p=some f.v/\K f.v [λw'=>w'.cell? p=some f.v]
 |z=>zx z λv=>w.cell? p=some v/\K v [λw'=>w'.cell? p=some v]
def iB (P:Program) (o:Oper) (E:Env) (K:Value->List (World->Prop)->Prop):Prop:=
 hU (E.gh o) (match r7 P (execOp E.ev o) with |some (.value v)=>K v []|_=>False)
def UB (z:Value) (K:Value->Prop):Prop:=
 match z with
 |.nilFunc=>∃f:Fv,K f.v
 |z=>vV z K
theorem Kt {z:Value} {K:Value->Prop} (h:UB z K):∃v,K v:=by
 unfold UB at h
 split at h
 .obtain ⟨f,h⟩:=h;exact ⟨_,h⟩
 .exact ni h
def vh (P:Program) (s:Sem Value) (z:Value) (w:World) (K:Value->List (World->Prop)->Prop):Prop:=
 UB z λv=>s.run P w=.ok v w/\K v [λw'=>s.run P w'=.ok v w']
def vS (P:Program) (T:TypeId):Option Nat:=
 match P.underlying T with
 |some (.slice e)=>(P.info? e).map (·.size)
 |_=>none
def CG (P:Program) (T:TypeId):Option (Nat×Nat):=
 match P.underlying T with
 |some (.array n e)=>(P.info? e).map λi=>(n,i.size)
 |_=>none
theorem CH {P:Program} {T:TypeId} {n sz:Nat} (h:CG P T=some (n,sz)):∃e inf,P.underlying T=some (.array n e)/\P.info? e=some inf/\sz=inf.size:=by
 unfold CG at h
 split at h
 .rename_i m e hu
  obtain ⟨inf,hi,he⟩:=Option.map_eq_some_iff.1 h
  cases he
  exact ⟨e,inf,hu,hi,rfl⟩
 .cases h
def isConst:Operand->Bool
 |.const _=>true
 |_=>false
def wm (P:Program) (T:TypeId) (c:Value):Bool:=
 match P.underlying T,c with
 |some (.slice _),.slice none _ _=>true
 |some (.pointer _),.pointer none=>true
 |some (.map _ _),.map none=>true
 |_,_=>false
def uB:Option Value->Value->Option Bool
 |some (.slice a _ _),.slice none _ _=>some a.isNone
 |some (.pointer a),.pointer none=>some a.isNone
 |some (.map r),.map none=>some r.isNone
 |_,_=>none
def MZ (P:Program) (xs ys:Array Value):List Field->Option Bool
 |[]=>some true
 |f::fs=>bif f.name=="_" then none else match P.underlying f.type,xs[f.offset]?,ys[f.offset]?,MZ P xs ys fs with
  |some (.int _),some (.int k a),some (.int k' b),some r=>bif decide (k=k') then some ((a==b)&&r) else none
  |some .string,some (.string a),some (.string b),some r=>some ((a.toList==b.toList)&&r)
  |some .bool,some (.bool a),some (.bool b),some r=>some ((a==b)&&r)
  |_,_,_,_=>none
def Mg (P:Program) (T:TypeId) (xs ys:Array Value):Option Bool:=match P.underlying T with
 |some (.struct fs)=>bif (!P.stoodInHeld T&&!P.eqGuardType P.depth T) then MZ P xs ys fs.toList else none
 |_=>none
def Ks (P:Program) (o:Oper) (E:Env) (T:TypeId) (x y:Operand) (neg:Bool) (K:Value->List (World->Prop)->Prop):Prop:=match E.val x,E.val y with
 |some (.agg xs),some (.agg ys)=>match Mg P T xs ys with
  |some b=>K (.bool (bif neg then !b else b)) []
  |none=>False
 |_,_=>iB P o E K
def NX (P:Program) (e:TypeId):Bool:=match P.underlying e,P.info? e with
 |some (.int _),some i=>i.size==1
 |_,_=>false
def qT (P:Program) (o:Oper) (E:Env) (w:World) (K:Value->List (World->Prop)->Prop):Prop:=
 match o.op with
 |.load T x=>match E.val x with
  |some (.pointer (some p))=>Bd P T p w K
  |_=>False
 |.nilCheck x=>match E.val x with
  |some (.pointer q)=>aW q λp=>K (.pointer (some p)) []
  |_=>iB P o E K
 |.indexAddr T x ix=>match E.val x,E.val ix with
  |some (.slice a n _),some (.int _ i)=>match vS P T with
   |some sz=>0<=i/\i<(n:Int)/\aW a λp=>K (.pointer (some (p.add (i.toNat *sz)))) []
   |none=>False
  |some (.pointer (some p)),some (.int _ i)=>match CG P T with
   |some (n,sz)=>0<=i/\i<(n:Int)/\K (.pointer (some (p.add (i.toNat *sz)))) []
   |none=>False
  |_,_=>iB P o E K
 |.index T x ix=>match P.underlying T,E.val x,E.val ix with
  |some .string,some (.string s),some (.int _ i)=>0<=i/\∃b:UInt8,s[i.toNat]? =some b/\K (.int .u8 b.toNat) []
  |some (.array n e),some (.agg cs),some (.int _ i)=>hU (NX P e) (0<=i/\i<((n:Nat):Int)/\∃a:Int,cs[i.toNat]? =some (.int .i64 a)/\K (.int .i64 a) [])
  |_,_,_=>iB P o E K
 |.slice T x lo hi mx=>hU (E.gh o) (match P.underlying T,E.val x with
  |some (.slice _),some (.slice a n c)=>match vS P T with
   |some sz=>ze (mx.map E.ev) c c λm=>ze (hi.map E.ev) m n λh=>hU (mx.isNone||hi.isSome) (ze (lo.map E.ev) h 0 λl=>
     K (.slice (if m=l then a else a.map (·.add (l *sz))) (h - l) (m - l)) [])
   |none=>False
  |some .string,some (.string s)=>hU mx.isNone (ze (hi.map E.ev) s.size s.size λh=>ze (lo.map E.ev) h 0 λl=>K (.string (s.extract l h)) [])
  |_,_=>False)
 |.binOp .quo _ x y _=>bif isConst y then iB P o E K else match E.val x,E.val y with
  |some (.int k a),some (.int k' b)=>hU (k==k') (b≠0/\K (.int k (k.wrap (a.tdiv b))) [])
  |_,_=>False
 |.binOp .rem _ x y _=>bif isConst y then iB P o E K else match E.val x,E.val y with
  |some (.int k a),some (.int k' b)=>hU (k==k') (b≠0/\K (.int k (a.tmod b)) [])
  |_,_=>False
 |.binOp .eql T x (.const c) _=>bif wm P T c then (match uB (E.val x) c with
  |some b=>K (.bool b) []
  |none=>False) else Ks P o E T x (.const c) false K
 |.binOp .neq T x (.const c) _=>bif wm P T c then (match uB (E.val x) c with
  |some b=>K (.bool !b) []
  |none=>False) else Ks P o E T x (.const c) true K
 |.binOp .eql T x y _=>Ks P o E T x y false K
 |.binOp .neq T x y _=>match P.underlying T,E.val x,E.val y with
  |some (.pointer _),some (.pointer p),some (.pointer q)=>vh P (binOp .neq T (.pointer p) (.pointer q)) (.bool true) w K
  |_,_,_=>Ks P o E T x y true K
 |.binOp .add _ x y _=>match E.val x,E.val y with
  |some (.string s),some (.string t)=>¬(((s.size+t.size:Nat):Int)>IntKind.i64.max)/\K (.string (s++t)) []
  |_,_=>iB P o E K
 |.binOp .shl _ x y _=>bif isConst y then iB P o E K else match E.val x,E.val y with
  |some (.int k a),some (.int _ b)=>¬b<0/\K (.int k (k.wrap (a *2^(min b.toNat k.bits)))) []
  |_,_=>False
 |.binOp .shr _ x y _=>bif isConst y then iB P o E K else match E.val x,E.val y with
  |some (.int k a),some (.int _ b)=>¬b<0/\K (.int k (a.fdiv (2^(min b.toNat k.bits)))) []
  |_,_=>False
 |.lookup T x ix ok=>match E.val x,E.val ix with
  |some m,some k=>vh P (Instr.lookup T m k ok) (zeroOf P o.type) w K
  |_,_=>False
 |.convert s d x=>match P.underlying s,P.underlying d,E.val x with
  |some (.slice _),some .string,some v=>vh P (convert s d v) (.string (ByteArray.mk #[])) w K
  |some (.pointer _),some .unsafePointer,some v=>vh P (convert s d v) (.pointer none) w K
  |some .unsafePointer,some (.pointer _),some v=>vh P (convert s d v) (.pointer none) w K
  |_,_,_=>iB P o E K
 |.call {callee:=.builtin .len,args,argTypes}=>match args.toList,argTypes.toList with
  |[x],[T]=>match P.underlying T,E.val x with
   |some (.map _ _),some m=>vh P (Builtin.len_ #[T] o.type #[m]) (.int .i64 0) w K
   |_,_=>iB P o E K
  |_,_=>iB P o E K
 |_=>iB P o E K
def Iv (p:Addr):List Value->Nat->World->(World->Prop)->Prop
 |[],_,w,K=>K w
 |v::vs,i,w,K=>(w.cell? (p.add i)).isSome=true/\w.frozen? (p.add i)=false/\Iv p vs (i+1) (w.setCell (p.add i) v) K
def xm (P:Program) (o:Oper) (E:Env) (w:World) (K:Value->World->Prop):Prop:=
 hU (E.gh o) (match (execOp E.ev o).run P w with
  |.ok (.value v) w'=>K v w'
  |.ok .skip w'=>K undef w'
  |_=>False)
def Hl (P:Program) (s:Sem Value) (z:Value) (w:World) (K:Value->World->Prop):Prop:=
 vV z λv=>∃w',s.run P w=.ok v w'/\K v w'
def ED (P:Program) (s:Sem Unit) (w:World) (K:Value->World->Prop):Prop:=
 ∃w',s.run P w=.ok () w'/\K undef w'
def fK (P:Program) (f:FuncId):Bool:=match P.funcs[f]? with |some fn=>fn.body.isSome&&!(fn.name=="runtime.NumGoroutine")|none=>false
def I5 (P:Program) (f:FuncId) (args:Array Value) (z:Value) (w:World) (K:Value->World->Prop):Prop:=
 vV z λv=>∃w',(callFunc f args).run P w=.ok (.value v) w'/\K v w'
def uS (P:Program) (f:FuncId) (args:Array Value) (z:Value) (w:World) (K:Value->World->Prop):Prop:=
 Calls P f args w λe w'=>vV z λv=>e=.returned v/\K v w'
def ua:Value->Bool
 |.agg _=>false
 |.tuple _=>false
 |_=>true
def mM (P:Program) (o:Oper) (E:Env) (w:World) (K:Value->World->Prop):Prop:=
 match o.op with
 |.store T x y=>match E.val x,E.val y with
  |some (.pointer (some p)),some v=>hU (v.cells.size==(match P.info? T with |some i=>i.size|none=>0)&&v.cells.toList.all ua&&(P.info? T).isSome) (Iv p v.cells.toList 0 w λw'=>K undef w')
  |_,_=>False
 |.mapUpdate T m k v|.insert T m k v=>match E.val m,E.val k,E.val v with
  |some m,some k,some v=>ED P (Instr.mapUpdate T m k v) w K
  |_,_,_=>False
 |.call {callee:=.builtin b,args,argTypes}=>hU (E.gh o) (match b with
  |.append=>Hl P (Builtin.append_ argTypes o.type (args.map E.ev)) (.slice none 0 0) w K
  |.copy=>Hl P (Builtin.copy_ argTypes o.type (args.map E.ev)) (.int .i64 0) w K
  |.unsafeSliceData=>Hl P (Builtin.unsafeSliceData_ argTypes o.type (args.map E.ev)) (.pointer none) w K
  |.unsafeString=>Hl P (Builtin.unsafeString_ argTypes o.type (args.map E.ev)) (.string (ByteArray.mk #[])) w K
  |.delete=>∃w',(Builtin.delete_ argTypes o.type (args.map E.ev)).run P w=.ok undef w'/\K undef w'
  |.clear=>∃w',(Builtin.clear_ argTypes o.type (args.map E.ev)).run P w=.ok (.tuple #[]) w'/\K (.tuple #[]) w'
  |_=>False)
 |.call {callee:=.value (.func f),args,..}=>hU (E.gh o) (bif fK P f then uS P f (args.map E.ev) (zeroOf P o.type) w K else I5 P f (args.map E.ev) (zeroOf P o.type) w K)
 |.call {callee:=.value (.tmp t),args,..}=>hU (E.gh o) (match E.get? t with
  |some (.func (.func f) first captured)=>hU (fK P f) (uS P f (first++args.map E.ev++captured) (zeroOf P o.type) w K)
  |_=>False)
 |.makeSlice T l c=>match E.val l,E.val c with
  |some l,some c=>Hl P (Instr.makeSlice T l c) (.slice none 0 0) w K
  |_,_=>False
 |.range T x=>match E.val x with
  |some x=>∃v w',(Instr.range T x).run P w=.ok v w'/\K v w'
  |_=>False
 |.next it s=>match E.val it with
  |some it=>(∃w',(Instr.next it s o.type).run P w=.ok (.tuple #[.bool false]) w'/\K (.tuple #[.bool false]) w')\/
    (match s with
     |true=>∃(i c:Int) (w':World),(Instr.next it s o.type).run P w=.ok (.tuple #[.bool true,.int .i64 i,.int .i32 c]) w'/\K (.tuple #[.bool true,.int .i64 i,.int .i32 c]) w'
     |false=>∃(x y:Value) (w':World),(Instr.next it s o.type).run P w=.ok (.tuple #[.bool true,x,y]) w'/\K (.tuple #[.bool true,x,y]) w')
  |_=>False
 |.entry it=>match E.val it with
  |some it=>∃(x y:Value) (w':World),(Instr.entry it).run P w=.ok (.tuple #[x,y]) w'/\K (.tuple #[x,y]) w'
  |_=>False
 |.convert s d x=>match E.val x with
  |some v=>Hl P (convert s d v) (.slice none 0 0) w K
  |_=>False
 |_=>xm P o E w K
def RP (P:Program) (l:Nat) (args:Array Value) (w:World) (K:Value->World->Prop):Prop:=
 YieldAt Fence.wide 0 P l args w λe w'=>∃b:Bool,e=.returned (.bool b)/\K (.bool b) w'
def xj (P:Program) (o:Oper) (E:Env) (w:World) (K:Value->World->Prop):Prop:=
 match o.op with
 |.call {callee:=.value (.tmp t),args,..}=>match E.get? t with
  |some (.func (.yield l) fs cs)=>hU (E.gh o&&(Nat.beq fs.size 0&&Nat.beq cs.size 0)) (RP P l (args.map E.ev) w K)
  |_=>mM P o E w K
 |_=>mM P o E w K
abbrev bT (w:World) (p:Addr) (v:Value) (K:World->Prop):Prop:=(w.cell? p).isSome=true/\w.frozen? p=false/\K (w.setCell p v)
abbrev fH (w:World) (o:Obj) (K:World->Prop):Prop:=K (w.alloc o)
abbrev LN (w:World) (l:Nat) (a b:Obj) (K:World->Prop):Prop:=w.heap[l]? =some a/\K (w.putObj l b)
abbrev vQ (w:World) (K:World->Prop):Prop:=K w.drew
theorem B1 {P:Program} {T:TypeId} {b:Bool} (h:G6 P T=some b) (w:World):(isAgg T).run P w=.ok b w:=by
 unfold G6 at h
 unfold isAgg
 cases hu:P.underlying T with
 |none=>rw [hu] at h;cases h
 |some d=>rw [hu] at h;cases d<;>simp [run_underlying hu] at h ⊢<;>first |exact h|simp [<-h]
theorem pC {P:Program} {T:TypeId} {p:Addr} {v:Value} {w:World} (ha:G6 P T=some false) (hc:w.cell? p=some v):(loadVar T p).run P w=.ok v w:=by
 simp [loadVar,B1 ha,hc]
theorem sE {P:Program} {T:TypeId} {p:Addr} {vs:List Value} {i:TypeInfo} {w:World} (ha:G6 P T=some true) (hi:P.info? T=some i) (hs:i.size=vs.length)
  (hc:∀j v,vs[j]? =some v->w.cell? (p.add j)=some v):(loadVar T p).run P w=.ok (.agg vs.toArray) w:=by
 have:=run_loadCells_list (P:=P) w p vs hc
 simp [loadVar,B1 ha,sizeOf,typeInfo,hi,hs,this]
def Calm (P:Program) (o:Oper) (ρ:Operand->Value) (w:World) (v:Value) (hs:List (World->Prop)):Prop:=
 (∀S∈hs,S w)/\∀w',(∀S∈hs,S w')->(execOp ρ o).run P w'=.ok (.value v) w'
theorem wA {P:Program} {o:Oper} {E:Env} {w:World} {n:Cx} {a:Act} {K:Value->List (World->Prop)->Prop} (hs:∀cs b,o.op≠.select cs b)
  (ha:Ag n a E) (h:iB P o E K):∃v S,K v S/\Calm P o a.eval w v S:=by
 obtain ⟨hc,h⟩:=bX h
 split at h
 .rename_i v hv
  refine ⟨v,[],h,λS hS=>(by cases hS),λw' _=>?_⟩
  rw [ha.execOp hs hc]
  exact uC hv w'
 .exact h.elim
theorem mf {P:Program} {s:Sem Value} {z:Value} {w:World} {K:Value->List (World->Prop)->Prop} {o:Oper} {ρ:Operand->Value} (ho:execOp ρ o=(do pure (.value (<-s))))
  (h:vh P s z w K):∃v S,K v S/\Calm P o ρ w v S:=by
 obtain ⟨v,hv,hk⟩:=Kt h
 refine ⟨v,_,hk,λS hS=>?_,λw' Bc=>?_⟩
 .simp at hS;subst hS;exact hv
 .have hr:s.run P w'=.ok v w':=Bc _ (Ws.2 rfl)
  rw [ho];simp [hr]
theorem oQ {P:Program} {x:Option Value} {y d:Nat} {K:Nat->Prop} (h:ze x y d K):∃l,K l/\((x=none/\l=d)\/∃v,x=some v/\∀code w,(Instr.sliceBound v y code).run P w=.ok l w):=by
 unfold ze at h
 split at h
 .exact ⟨d,h,.inl ⟨rfl,rfl⟩⟩
 .rename_i k i
  obtain ⟨h0,h1,h2⟩:=h
  refine ⟨_,h2,.inr ⟨_,rfl,λcode w=>?_⟩⟩
  simp [Instr.sliceBound,asIntOf,h0,h1]
 .exact h.elim
theorem sF {P:Program} {isS:Bool} {n c m h l:Nat} {L H M:Option Value} {w:World}
  (hm:(M=none/\m=c)\/∃v,M=some v/\∀code w,(Instr.sliceBound v c code).run P w=.ok m w)
  (hh:(H=none/\h=n)\/∃v,H=some v/\∀code w,(Instr.sliceBound v m code).run P w=.ok h w)
  (hl:(L=none/\l=0)\/∃v,L=some v/\∀code w,(Instr.sliceBound v h code).run P w=.ok l w)
  (hmh:M≠none->H=none->False):(Instr.sliceBounds isS n c L H M).run P w=.ok (l,h,m) w:=by
 unfold Instr.sliceBounds
 rcases hm with ⟨rfl,rfl⟩|⟨v1,rfl,r1⟩<;>rcases hh with ⟨rfl,rfl⟩|⟨v2,rfl,r2⟩<;>rcases hl with ⟨rfl,rfl⟩|⟨v3,rfl,r3⟩<;>first |(simp [*];done)|(exact (hmh (λh=>by cases h) rfl).elim)
theorem u7 {P:Program} {T:TypeId} {p:Addr} {w:World} {K:Value->List (World->Prop)->Prop} (h:Bd P T p w K):
  ∃v S,K v S/\(∀s∈S,s w)/\∀w',(∀s∈S,s w')->(loadVar T p).run P w'=.ok v w':=by
 obtain ⟨ho,h⟩:=bX h
 unfold IK at ho
 cases hz:zeroOf P T with
 |agg cs=>
  rw [hz] at h ho
  simp only at h ho
  obtain ⟨vs,hl,h⟩:=rQ h
  obtain ⟨hc,hk⟩:=qc h
  rw [Bool.and_eq_true] at ho
  obtain ⟨ha,hi⟩:=ho
  cases u0:P.info? T with
  |none=>rw [u0] at hi;simp at hi
  |some i=>
   rw [u0] at hi
   simp at hi ha
   refine ⟨_,_,hk,?_,λw' Bc=>?_⟩
   .intro s hs
    obtain ⟨⟨v,j⟩,hm,rfl⟩:=pX.1 hs
    exact hc _ (pX.2 ⟨(v,j),hm,rfl⟩)
   .refine sE ha u0 (by rw [hi,hl];simp) (λj v hj=>?_)
    have:=Bc _ (pX.2 ⟨(v,j),List.mem_zipIdx_iff_getElem?.2 hj,rfl⟩)
    exact this
 |nilFunc=>
  rw [hz] at h ho
  obtain ⟨f,hc,hk⟩:=h
  simp at ho
  refine ⟨f.v,_,hk,λs hs=>?_,λw' Bc=>?_⟩
  .simp at hs;subst hs;exact hc
  .exact pC ho (Bc _ (Ws.2 rfl))
 |_=>
  rw [hz] at h ho
  try simp only at h
  try simp only at ho
  obtain ⟨v,hc,hk⟩:=te h
  simp at ho
  refine ⟨v,_,hk,λs hs=>?_,λw' Bc=>?_⟩
  .simp at hs;subst hs;exact hc
  .exact pC ho (Bc _ (Ws.2 rfl))
theorem uw {P:Program} {T:TypeId} {sz:Nat} (h:vS P T=some sz):∃e i,P.underlying T=some (.slice e)/\P.info? e=some i/\i.size=sz:=by
 unfold vS at h
 split at h
 .rename_i e he
  cases hi:P.info? e with
  |none=>rw [hi] at h;cases h
  |some i=>rw [hi] at h;simp at h;exact ⟨e,i,he,hi,h⟩
 .cases h
theorem qM {v c:Value} {b:Bool} (h:uB (some v) c=some b):(∃a n m n' m',v=.slice a n m/\c=.slice none n' m'/\b=a.isNone)\/(∃a,v=.pointer a/\c=.pointer none/\b=a.isNone)\/(∃r,v=.map r/\c=.map none/\b=r.isNone):=by
 unfold uB at h
 split at h
 .rename_i a n m n' m' hv
  cases hv;cases h
  exact .inl ⟨_,_,_,_,_,rfl,rfl,rfl⟩
 .rename_i a hv
  cases hv;cases h
  exact .inr (.inl ⟨_,rfl,rfl,rfl⟩)
 .rename_i a hv
  cases hv;cases h
  exact .inr (.inr ⟨_,rfl,rfl,rfl⟩)
 .cases h
theorem ym {P:Program} {T:TypeId} {c v:Value} {b:Bool} (hn:wm P T c=true) (hb:uB (some v) c=some b) (w:World):(Op.equal T v c).run P w=.ok b w:=by
 unfold Op.equal Op.maxDepth Op.equalIn
 cases hu:P.underlying T with
 |none=>simp [wm,hu] at hn
 |some d=>
  simp only [Sem.run_bind,run_underlying hu,Result.andThen_ok]
  unfold wm at hn
  rw [hu] at hn
  rcases qM hb with ⟨a,n,m,n',m',rfl,rfl,rfl⟩|⟨a,rfl,rfl,rfl⟩|⟨a,rfl,rfl,rfl⟩<;>cases d<;>first |(cases hn;done)|(cases a<;>rfl)
theorem KY {P:Program} {T:TypeId} {c v:Value} {b:Bool} (hn:wm P T c=true) (hb:uB (some v) c=some b) (w:World):(binOp .eql T v c).run P w=.ok (.bool b) w:=by
 have:=ym hn hb w
 rcases qM hb with ⟨a,n,m,n',m',rfl,rfl,rfl⟩|⟨a,rfl,rfl,rfl⟩|⟨a,rfl,rfl,rfl⟩<;>simp [binOp,this]
theorem HV {P:Program} {T:TypeId} {c v:Value} {b:Bool} (hn:wm P T c=true) (hb:uB (some v) c=some b) (w:World):(binOp .neq T v c).run P w=.ok (.bool !b) w:=by
 have:=ym hn hb w
 rcases qM hb with ⟨a,n,m,n',m',rfl,rfl,rfl⟩|⟨a,rfl,rfl,rfl⟩|⟨a,rfl,rfl,rfl⟩<;>simp [binOp,this]
theorem yn {P:Program} {op:BinOp} {T:TypeId} {c v:Value} {b:Bool} {p q:Operand} (hb:uB (some v) c=some b) (w:World):(eqGuard op T p q v c).run P w=.ok () w:=by
 rcases qM hb with ⟨a,n,m,n',m',rfl,rfl,rfl⟩|⟨a,rfl,rfl,rfl⟩|⟨a,rfl,rfl,rfl⟩<;>cases op<;>rfl
set_option maxHeartbeats 1000000 in
theorem mi {P:Program} {t:TypeId} {u:TypeDesc} (h:P.underlying t=some u) (hu:(match u with |.struct _|.array _ _=>true|_=>false)=false) {xs:Array Value} {off:Nat} {v:Value} (hx:xs[off]? =some v) (w:World):(part t xs off).run P w=.ok v w:=by
 unfold part isAgg
 cases u<;>first |(simp at hu;done)|simp [run_underlying h,hx]
theorem rO {P:Program} {xs ys:Array Value} (d:Nat) (w:World):∀(fs:List Field) (b:Bool),MZ P xs ys fs=some b->(Op.eqFields (d+1) xs ys fs).run P w=.ok b w
 |[],b,h=>by
  simp [MZ] at h
  subst h
  rfl
 |f::fs,b,h=>by
  unfold MZ at h
  cases hn:(f.name=="_") with
  |true=>rw [hn] at h;cases h
  |false=>
   rw [hn] at h
   simp only [cond_false] at h
   have xw:f.name≠"_":=by simpa using hn
   unfold Op.eqFields
   rw [if_pos xw]
   split at h
   .rename_i k0 k a k' b' r hu hx hy hr
    cases hk:decide (k=k') with
    |false=>rw [hk] at h;cases h
    |true=>
     rw [hk] at h
     have EX:=of_decide_eq_true hk
     subst EX
     simp only [cond_true,Option.some.injEq] at h
     subst h
     have ih:=rO d w fs r hr
     simp only [Sem.run_bind,mi hu rfl hx w,mi hu rfl hy w,Result.andThen_ok,run_equalIn_int w d f.type k k0 a b' hu]
     cases Hz:(a==b')<;>simp [ih]
   .rename_i a b' r hu hx hy hr
    simp only [Option.some.injEq] at h
    subst h
    have ih:=rO d w fs r hr
    simp only [Sem.run_bind,mi hu rfl hx w,mi hu rfl hy w,Result.andThen_ok,run_equalIn_string w d f.type a b' hu]
    cases Hz:(a.toList==b'.toList)<;>simp [ih]
   .rename_i a b' r hu hx hy hr
    simp only [Option.some.injEq] at h
    subst h
    have ih:=rO d w fs r hr
    simp only [Sem.run_bind,mi hu rfl hx w,mi hu rfl hy w,Result.andThen_ok,run_equalIn_bool w d f.type a b' hu]
    cases Hz:(a==b')<;>simp [ih]
   .cases h
theorem D9 {P:Program} {T:TypeId} {xs ys:Array Value} {b:Bool} (h:Mg P T xs ys=some b) (w:World):P.eqGuardType P.depth T=false/\(Op.equalIn 10000 T (.agg xs) (.agg ys)).run P w=.ok b w:=by
 unfold Mg at h
 split at h
 .rename_i fs hu
  cases hg:(!P.stoodInHeld T&&!P.eqGuardType P.depth T) with
  |false=>rw [hg] at h;cases h
  |true=>
   rw [hg] at h
   simp only [cond_true] at h
   rw [Bool.and_eq_true] at hg
   have h1:P.stoodInHeld T=false:=by simpa using hg.1
   have h2:P.eqGuardType P.depth T=false:=by simpa using hg.2
   have hf:P.fieldsOf T=fs:=by unfold Program.fieldsOf;rw [hu]
   refine ⟨h2,?_⟩
   rw [run_equalIn_struct w 9999 T xs ys (by rw [hf];exact hu) h1,hf]
   exact rO 9998 w _ _ h
 .cases h
theorem rP {P:Program} {o:Oper} {E:Env} {w:World} {n:Cx} {a:Act} {K:Value->List (World->Prop)->Prop} {op:BinOp} {T U:TypeId} {x y:Operand} {neg:Bool} (hs:∀cs b,o.op≠.select cs b)
  (ha:Ag n a E) (eH:o.op=.binOp op T x y U) (hb:(op=.eql/\neg=false)\/(op=.neq/\neg=true)) (h:Ks P o E T x y neg K):∃v S,K v S/\Calm P o a.eval w v S:=by
 unfold Ks at h
 split at h
 .rename_i xs ys hx hy
  split at h
  .rename_i b he
   refine ⟨_,_,h,λS hS=>(by cases hS),λw' _=>?_⟩
   obtain ⟨h1,h2⟩:=D9 he w'
   have e1:execOp a.eval o=(do pure (.value (<-(do eqGuard op T x y (.agg xs) (.agg ys);binOp op T (.agg xs) (.agg ys))))):=by
    simp only [execOp,eH,ha.val hx,ha.val hy]
   rw [e1]
   rcases hb with ⟨rfl,rfl⟩|⟨rfl,rfl⟩
   .simp only [Sem.run_bind,run_eqGuard_agg w' _ T x y xs ys h1,Result.andThen_ok,run_eql_struct,h2]
    rfl
   .simp only [Sem.run_bind,run_eqGuard_agg w' _ T x y xs ys h1,Result.andThen_ok,run_neq_struct,h2]
    rfl
  .exact h.elim
 .exact wA hs ha h
theorem pO {P:Program} {o:Oper} {E:Env} {w:World} {n:Cx} {a:Act} {K:Value->List (World->Prop)->Prop} (hs:∀cs b,o.op≠.select cs b)
  (ha:Ag n a E) (h:qT P o E w K):∃v S,K v S/\Calm P o a.eval w v S:=by
 have pure':iB P o E K->∃v S,K v S/\Calm P o a.eval w v S:=wA hs ha
 unfold qT at h
 split at h
 .
  rename_i T x eH
  split at h
  .rename_i p hx
   obtain ⟨v,S,hk,h1,h2⟩:=u7 h
   refine ⟨v,S,hk,h1,λw' Bc=>?_⟩
   simp [execOp,eH,Instr.loadAt,ha.val hx,Instr.sureAddr,h2 w' Bc]
  .exact h.elim
 .
  rename_i x eH
  split at h
  .rename_i q hx
   obtain ⟨p,rfl,hk⟩:=Ce h
   refine ⟨_,_,hk,λS hS=>(by cases hS),λw' _=>?_⟩
   simp [execOp,eH,ha.val hx]
  .exact pure' h
 .
  rename_i T x ix eH
  split at h
  .rename_i b n c k i hx hi
   split at h
   .rename_i sz mH
    obtain ⟨h0,h1,h⟩:=h
    obtain ⟨p,rfl,hk⟩:=Ce h
    obtain ⟨e,inf,hu,u0,rfl⟩:=uw mH
    refine ⟨_,_,hk,λS hS=>(by cases hS),λw' _=>?_⟩
    simp [execOp,eH,ha.val hx,ha.val hi,Instr.indexAt,asIntOf,run_underlying hu,h0,h1,sizeOf,typeInfo,u0]
   .exact h.elim
  .rename_i p k i hx hi
   split at h
   .rename_i n sz mH
    obtain ⟨h0,h1,hk⟩:=h
    obtain ⟨e,inf,hu,u0,rfl⟩:=CH mH
    refine ⟨_,_,hk,λS hS=>(by cases hS),λw' _=>?_⟩
    simp [execOp,eH,ha.val hx,ha.val hi,Instr.indexAt,Instr.sureAddr,asIntOf,run_underlying hu,h0,h1,sizeOf,typeInfo,u0]
   .exact h.elim
  .exact pure' h
 .
  rename_i T x ix eH
  split at h
  .rename_i s k i hu hx hi
   obtain ⟨h0,b,hb,hk⟩:=h
   refine ⟨_,_,hk,λS hS=>(by cases hS),λw' _=>?_⟩
   simp [execOp,eH,ha.val hx,ha.val hi,Instr.index,asIntOf,run_underlying hu,h0,hb]
  .rename_i n e cs k i hu hx hi
   obtain ⟨h1,h0,hn,b,hb,hk⟩:=bX h
   unfold NX at h1
   split at h1
   .rename_i y inf hue u0
    have h1:inf.size=1:=by simpa using h1
    refine ⟨_,_,hk,λS hS=>(by cases hS),λw' _=>?_⟩
    simp [execOp,eH,ha.val hx,ha.val hi,Instr.index,asIntOf,run_underlying hu,h0,hn,sizeOf,typeInfo,u0,h1,part,isAgg,run_underlying hue,hb]
   .cases h1
  .exact pure' h
 .
  rename_i T x lo hi mx eH
  obtain ⟨aap,h⟩:=bX h
  have Nj:∀y∈o.op.operands,(E.val y).isSome=true:=λy hy=>wD.1 aap y (by simpa using hy)
  have sN:lo.map a.eval=lo.map E.ev:=by
   cases lo with
   |none=>rfl
   |some y=>simp only [Option.map_some];rw [ha.ev (Nj y (by rw [eH];simp [Op.operands]))]
  have Qe:hi.map a.eval=hi.map E.ev:=by
   cases hi with
   |none=>rfl
   |some y=>simp only [Option.map_some];rw [ha.ev (Nj y (by rw [eH];simp [Op.operands]))]
  have hmx:mx.map a.eval=mx.map E.ev:=by
   cases mx with
   |none=>rfl
   |some y=>simp only [Option.map_some];rw [ha.ev (Nj y (by rw [eH];simp [Op.operands]))]
  split at h
  .rename_i e b n c hu hx
   split at h
   .rename_i sz mH
    obtain ⟨m,h,hm⟩:=oQ (P:=P) h
    obtain ⟨hh,h,hhm⟩:=oQ (P:=P) h
    obtain ⟨hmh,h⟩:=bX h
    obtain ⟨l,hk,hl⟩:=oQ (P:=P) h
    obtain ⟨e',inf,hu',u0,rfl⟩:=uw mH
    rw [hu'] at hu
    cases hu
    refine ⟨_,_,hk,λS hS=>(by cases hS),λw' _=>?_⟩
    have KN:(Instr.sliceBounds true n c (lo.map E.ev) (hi.map E.ev) (mx.map E.ev)).run P w'=.ok (l,hh,m) w':=by
     refine sF hm hhm hl ?_
     intro h1 h2
     cases mx<;>cases hi<;>simp_all
    simp only [execOp,eH,ha.val hx,sN,Qe,hmx]
    simp [Instr.sliceAt,run_underlying hu',Instr.slice,KN,sizeOf,typeInfo,u0]
   .exact h.elim
  .rename_i s hu hx
   obtain ⟨hmn,h'⟩:=bX h
   clear h
   have aav:mx=none:=by simpa using hmn
   subst aav
   obtain ⟨hh,h,hhm⟩:=oQ (P:=P) h'
   obtain ⟨l,hk,hl⟩:=oQ (P:=P) h
   refine ⟨_,_,hk,λS hS=>(by cases hS),λw' _=>?_⟩
   have KN:(Instr.sliceBounds false s.size s.size (lo.map E.ev) (hi.map E.ev) none).run P w'=.ok (l,hh,s.size) w':=by
    exact sF (.inl ⟨rfl,rfl⟩) hhm hl (λh1 _=>absurd rfl h1)
   simp only [execOp,eH,ha.val hx,sN,Qe]
   simp [Instr.sliceAt,run_underlying hu,Instr.slice,KN]
  .exact h.elim
 .
  rename_i T x y U eH
  cases hc:isConst y with
  |true=>rw [hc] at h;exact pure' h
  |false=>
   rw [hc] at h
   simp only [cond_false] at h
   split at h
   .rename_i k i k' j hx hy
    obtain ⟨UU,hj,hk⟩:=bX h
    have UW:k=k':=by simpa using UU
    subst UW
    refine ⟨_,_,hk,λS hS=>(by cases hS),λw' _=>?_⟩
    simp [execOp,eH,ha.val hx,ha.val hy,eqGuard,binOp,Op.intDiv,hj]
   .exact h.elim
 .
  rename_i T x y U eH
  cases hc:isConst y with
  |true=>rw [hc] at h;exact pure' h
  |false=>
   rw [hc] at h
   simp only [cond_false] at h
   split at h
   .rename_i k i k' j hx hy
    obtain ⟨UU,hj,hk⟩:=bX h
    have UW:k=k':=by simpa using UU
    subst UW
    refine ⟨_,_,hk,λS hS=>(by cases hS),λw' _=>?_⟩
    simp [execOp,eH,ha.val hx,ha.val hy,eqGuard,binOp,Op.intDiv,hj]
   .exact h.elim
 .
  rename_i T x c U eH
  cases hn:wm P T c with
  |false=>rw [hn] at h;exact rP hs ha eH (.inl ⟨rfl,rfl⟩) h
  |true=>
   rw [hn] at h
   simp only [cond_true] at h
   split at h
   .rename_i b hb
    refine ⟨_,_,h,λS hS=>(by cases hS),λw' _=>?_⟩
    cases hx:E.val x with
    |none=>rw [hx] at hb;simp [uB] at hb
    |some v=>
     rw [hx] at hb
     have e1:execOp a.eval o=(do pure (.value (<-(do eqGuard .eql T x (.const c) v c;binOp .eql T v c)))):=by
      simp only [execOp,eH,ha.val hx];rfl
     rw [e1]
     simp [yn hb w',KY hn hb w']
   .exact h.elim
 .
  rename_i T x c U eH
  cases hn:wm P T c with
  |false=>rw [hn] at h;exact rP hs ha eH (.inr ⟨rfl,rfl⟩) h
  |true=>
   rw [hn] at h
   simp only [cond_true] at h
   split at h
   .rename_i b hb
    refine ⟨_,_,h,λS hS=>(by cases hS),λw' _=>?_⟩
    cases hx:E.val x with
    |none=>rw [hx] at hb;simp [uB] at hb
    |some v=>
     rw [hx] at hb
     have e1:execOp a.eval o=(do pure (.value (<-(do eqGuard .neq T x (.const c) v c;binOp .neq T v c)))):=by
      simp only [execOp,eH,ha.val hx];rfl
     rw [e1]
     simp [yn hb w',HV hn hb w']
   .exact h.elim
 .
  rename_i T x y U _ eH
  exact rP hs ha eH (.inl ⟨rfl,rfl⟩) h
 .rename_i T x y U _ eH
  split at h
  .rename_i p q hu hx hy
   refine mf ?_ h
   simp only [execOp,eH,ha.val hx,ha.val hy]
   rfl
  .exact rP hs ha eH (.inr ⟨rfl,rfl⟩) h
 .
  rename_i T x y U eH
  split at h
  .rename_i s t hx hy
   obtain ⟨h0,hk⟩:=h
   refine ⟨_,_,hk,λS hS=>(by cases hS),λw' _=>?_⟩
   have e1:execOp a.eval o=(do pure (.value (<-(do eqGuard .add T x y (.string s) (.string t);binOp .add T (.string s) (.string t))))):=by
    simp only [execOp,eH,ha.val hx,ha.val hy]
   rw [e1]
   simp only [eqGuard,binOp,Op.stringOp,h0]
   rfl
  .exact pure' h
 .
  rename_i T x y U eH
  cases hc:isConst y with
  |true=>rw [hc] at h;exact pure' h
  |false=>
   rw [hc] at h
   simp only [cond_false] at h
   split at h
   .rename_i k i k' j hx hy
    obtain ⟨hj,hk⟩:=h
    refine ⟨_,_,hk,λS hS=>(by cases hS),λw' _=>?_⟩
    simp [execOp,eH,ha.val hx,ha.val hy,eqGuard,binOp,Op.shift,hj]
   .exact h.elim
 .
  rename_i T x y U eH
  cases hc:isConst y with
  |true=>rw [hc] at h;exact pure' h
  |false=>
   rw [hc] at h
   simp only [cond_false] at h
   split at h
   .rename_i k i k' j hx hy
    obtain ⟨hj,hk⟩:=h
    refine ⟨_,_,hk,λS hS=>(by cases hS),λw' _=>?_⟩
    simp [execOp,eH,ha.val hx,ha.val hy,eqGuard,binOp,Op.shift,hj]
   .exact h.elim
 .
  rename_i T x ix ok eH
  split at h
  .rename_i m k hx hi
   exact mf (by simp [execOp,eH,ha.val hx,ha.val hi]) h
  .exact h.elim
 .
  rename_i s d x eH
  split at h
  .rename_i e v hsu hdu hx
   exact mf (by simp [execOp,eH,ha.val hx]) h
  .rename_i e v hsu hdu hx
   exact mf (by simp [execOp,eH,ha.val hx]) h
  .rename_i e v hsu hdu hx
   exact mf (by simp [execOp,eH,ha.val hx]) h
  .exact pure' h
 .
  rename_i args TO eH
  split at h
  .rename_i x T hx hT
   split at h
   .rename_i kt et m hu hm
    refine mf ?_ h
    have e1:args=#[x]:=by rw [<-Array.toArray_toList (xs:=args),hx]
    have e2:TO=#[T]:=by rw [<-Array.toArray_toList (xs:=TO),hT]
    simp [execOp,eH,e1,e2,resolve,invoke,builtin,ha.val hm]
   .exact pure' h
  .exact pure' h
 .exact pure' h
theorem At {P:Program} {p:Addr}:∀{vs:List Value} {i:Nat} {w:World} {K:World->Prop},vs.all ua=true->Iv p vs i w K->
  ∃w',(storeCells p vs i).run P w=.ok () w'/\K w'
 |[],i,w,K,_,h=>⟨w,by simp [storeCells],h⟩
 |v::vs,i,w,K,h1,h=>by
  obtain ⟨hc,hf,h⟩:=h
  rw [List.all_cons,Bool.and_eq_true] at h1
  obtain ⟨w',hr,hk⟩:=At (P:=P) h1.2 h
  refine ⟨w',?_,hk⟩
  obtain ⟨u,hu⟩:=Option.isSome_iff_exists.1 hc
  have GL:(store (p.add i) v).run P w=.ok () (w.setCell (p.add i) v):=by
   have h0:=h1.1
   cases v<;>first |(simp [ua] at h0;done)|simp [store,Sem.run,hu,hf]
  simp [storeCells,GL,hr]
theorem mL {P:Program} {f:FuncId} (h:fK P f=true) (args:Array Value) (w:World):(callFunc f args).run P w=.ok (.enter f args) w:=by
 unfold fK at h
 cases hf:P.funcs[f]? with
 |none=>rw [hf] at h;cases h
 |some fn=>
  rw [hf] at h
  simp at h
  obtain ⟨h1,h2⟩:=h
  have h3:fn.body≠none:=by intro hb;rw [hb] at h1;cases h1
  simp [callFunc,hf,h2,h3]
theorem Ag.args {n:Cx} {a:Act} {E:Env} (h:Ag n a E) {args:Array Operand} (hc:∀x∈args,(E.val x).isSome=true):args.map a.eval=args.map E.ev:=
 Array.map_congr_left λx hx=>h.ev (hc x hx)
def sS (P:Program) (o:Oper) (a:Act) (w:World) (K:Value->World->Prop):Prop:=
 ∀Q:Exit->Act->World->Prop,o.wp P a w (λa' w'=>∃v,a'=a.put o.dst v/\K v w') Q
theorem vL {P:Program} {f:FuncId} {args:Array Value} {z:Value} {w:World} {K:Value->World->Prop} {o:Oper} {a:Act}
  (l0:(execOp a.eval o).run P w=.ok (.enter f args) w) (h:uS P f args z w K):sS P o a w K:=by
 intro Q
 unfold Oper.wp
 rw [l0]
 simp only [Oper.upon]
 refine Calls.mono h λe w' he=>?_
 obtain ⟨v,rfl,hk⟩:=ni he
 exact ⟨v,rfl,hk⟩
theorem oz {P:Program} {s:Sem Value} {z:Value} {w:World} {K:Value->World->Prop} {o:Oper} {a:Act}
  (l0:execOp a.eval o=(do pure (.value (<-s)))) (h:Hl P s z w K):sS P o a w K:=by
 intro Q
 obtain ⟨v,w',hr,hk⟩:=ni h
 unfold Oper.wp
 rw [l0]
 simp only [Sem.run_bind,hr,Result.andThen_ok,Sem.run_pure,Oper.upon]
 exact ⟨v,rfl,hk⟩
set_option maxHeartbeats 1000000 in
theorem ir {P:Program} {o:Oper} {E:Env} {w:World} {n:Cx} {a:Act} {K:Value->World->Prop} (hs:∀cs b,o.op≠.select cs b)
  (ha:Ag n a E) (h:mM P o E w K):sS P o a w K:=by
 unfold mM at h
 split at h
 .
  rename_i T x y eH
  split at h
  .rename_i p v hx hy
   obtain ⟨hb,h⟩:=bX h
   rw [Bool.and_eq_true,Bool.and_eq_true] at hb
   obtain ⟨⟨LG,BU⟩,hb3⟩:=hb
   obtain ⟨i,hi⟩:=Option.isSome_iff_exists.1 hb3
   rw [hi] at LG
   have aam:v.cells.size=i.size:=by simpa using LG
   obtain ⟨w',hr,hk⟩:=At (P:=P) BU h
   intro Q
   unfold Oper.wp
   have:(execOp a.eval o).run P w=.ok .skip w':=by
    simp [execOp,eH,Instr.storeAt,ha.val hx,ha.val hy,Instr.sureAddr,storeVar,sizeOf,typeInfo,hi,aam,hr]
   rw [this]
   simp only [Oper.upon]
   exact ⟨_,rfl,hk⟩
  .exact h.elim
 .
  rename_i T m k v eH
  split at h
  .rename_i mv kv vv hm hk hv
   obtain ⟨w',hr,hK⟩:=h
   intro Q
   unfold Oper.wp
   have:(execOp a.eval o).run P w=.ok .skip w':=by simp [execOp,eH,ha.val hm,ha.val hk,ha.val hv,hr]
   rw [this]
   simp only [Oper.upon]
   exact ⟨_,rfl,hK⟩
  .exact h.elim
 .
  rename_i T m k v eH
  split at h
  .rename_i mv kv vv hm hk hv
   obtain ⟨w',hr,hK⟩:=h
   intro Q
   unfold Oper.wp
   have:(execOp a.eval o).run P w=.ok .skip w':=by simp [execOp,eH,ha.val hm,ha.val hk,ha.val hv,hr]
   rw [this]
   simp only [Oper.upon]
   exact ⟨_,rfl,hK⟩
  .exact h.elim
 .
  rename_i b args TO eH
  obtain ⟨hc,h⟩:=bX h
  have hargs:args.map a.eval=args.map E.ev:=ha.args λx hx=>wD.1 hc x (by rw [eH];simp [Op.operands,Call.operands,hx])
  split at h
  .exact oz (by simp [execOp,eH,resolve,invoke,builtin,hargs]) h
  .exact oz (by simp [execOp,eH,resolve,invoke,builtin,hargs]) h
  .exact oz (by simp [execOp,eH,resolve,invoke,builtin,hargs]) h
  .exact oz (by simp [execOp,eH,resolve,invoke,builtin,hargs]) h
  .obtain ⟨w',hr,hk⟩:=h
   intro Q
   unfold Oper.wp
   have:(execOp a.eval o).run P w=.ok (.value undef) w':=by simp [execOp,eH,resolve,invoke,builtin,hargs,hr]
   rw [this]
   simp only [Oper.upon]
   exact ⟨_,rfl,hk⟩
  .obtain ⟨w',hr,hk⟩:=h
   intro Q
   unfold Oper.wp
   have:(execOp a.eval o).run P w=.ok (.value (.tuple #[])) w':=by simp [execOp,eH,resolve,invoke,builtin,hargs,hr]
   rw [this]
   simp only [Oper.upon]
   exact ⟨_,rfl,hk⟩
  .exact h.elim
 .
  rename_i f args TO eH
  obtain ⟨hc,h⟩:=bX h
  have hargs:args.map a.eval=args.map E.ev:=ha.args λx hx=>wD.1 hc x (by rw [eH];simp [Op.operands,Call.operands,hx])
  cases BW:fK P f with
  |true=>
   rw [BW] at h
   refine vL ?_ h
   simp [execOp,eH,resolve,Act.eval,Deferred.ofValue,invoke,hargs,mL BW]
  |false=>
   rw [BW,cond_false] at h
   unfold I5 at h
   obtain ⟨v,w',hr,hk⟩:=ni h
   intro Q
   unfold Oper.wp
   have:(execOp a.eval o).run P w=.ok (.value v) w':=by simp [execOp,eH,resolve,Act.eval,Deferred.ofValue,invoke,hargs,hr]
   rw [this]
   simp only [Oper.upon]
   exact ⟨_,rfl,hk⟩
 .
  rename_i t args TO eH
  obtain ⟨hc,h⟩:=bX h
  have hargs:args.map a.eval=args.map E.ev:=ha.args λx hx=>wD.1 hc x (by rw [eH];simp [Op.operands,Call.operands,hx])
  split at h
  .rename_i f first captured hf
   obtain ⟨BW,h⟩:=bX h
   have Qd:a.eval (.tmp t)=.func (.func f) first captured:=ha.val (x:=.tmp t) hf
   refine vL ?_ h
   simp [execOp,eH,resolve,Qd,Deferred.ofValue,invoke,hargs,mL BW]
  .exact h.elim
 .
  rename_i T l c eH
  split at h
  .rename_i lv cv hl hc
   exact oz (by simp [execOp,eH,ha.val hl,ha.val hc]) h
  .exact h.elim
 .
  rename_i T x eH
  split at h
  .rename_i xv hx
   obtain ⟨v,w',hr,hk⟩:=h
   intro Q
   unfold Oper.wp
   have:(execOp a.eval o).run P w=.ok (.value v) w':=by simp [execOp,eH,ha.val hx,hr]
   rw [this]
   simp only [Oper.upon]
   exact ⟨_,rfl,hk⟩
  .exact h.elim
 .
  rename_i it s eH
  split at h
  .rename_i iv hi
   have fin:∀(v:Value) (w':World),(Instr.next iv s o.type).run P w=.ok v w'->K v w'->sS P o a w K:=λv w' hr hk Q=>by
    unfold Oper.wp
    have:(execOp a.eval o).run P w=.ok (.value v) w':=by simp [execOp,eH,ha.val hi,hr]
    rw [this]
    simp only [Oper.upon]
    exact ⟨_,rfl,hk⟩
   rcases h with ⟨w',hr,hk⟩|h
   .exact fin _ _ hr hk
   .split at h
    .obtain ⟨i,c,w',hr,hk⟩:=h;exact fin _ _ hr hk
    .obtain ⟨i,c,w',hr,hk⟩:=h;exact fin _ _ hr hk
  .exact h.elim
 .
  rename_i it eH
  split at h
  .rename_i iv hi
   obtain ⟨x,y,w',hr,hk⟩:=h
   intro Q
   unfold Oper.wp
   have:(execOp a.eval o).run P w=.ok (.value (.tuple #[x,y])) w':=by simp [execOp,eH,ha.val hi,hr]
   rw [this]
   simp only [Oper.upon]
   exact ⟨_,rfl,hk⟩
  .exact h.elim
 .
  rename_i s d x eH
  split at h
  .rename_i v hx
   exact oz (by simp [execOp,eH,ha.val hx]) h
  .exact h.elim
 .
  obtain ⟨hc,h⟩:=bX h
  intro Q
  unfold Oper.wp
  rw [ha.execOp hs hc]
  generalize (execOp E.ev o).run P w=r at h
  split at h
  .simp only [Oper.upon];exact ⟨_,rfl,h⟩
  .simp only [Oper.upon];exact ⟨_,rfl,h⟩
  .exact h.elim
def Cy (P:Program) (n:Cx) (o:Oper) (a:Act) (w:World) (K:Value->World->Prop):Prop:=
 ∀Q:Exit->Act->World->Prop,o.wpIn (FW n) 0 P a w (λa' w'=>∃v,a'=a.put o.dst v/\K v w') Q
theorem zo {n:Cx} {P:Program} {f:FuncId} {args:Array Value} {w:World} {R:Ending->World->Prop} (h:Calls P f args w R):CallsIn (FW n) 0 P f args w R:=by
 have h1:CallsIn Fence.wide 0 P f args w R:=callsIn_wide.2 h
 obtain ⟨n,ds,ro⟩:=n
 cases ro with
 |none=>exact h1
 |some l=>exact h1
theorem Lg {n:Cx} {P:Program} {row:String} {args:Array Value} {w:World} {R:Value->World->Prop} (h:Rows P row args w R):RowsIn (FW n) 0 P row args w R:=by
 intro c cs _
 obtain ⟨v,w',hr,hs⟩:=h c cs
 refine ⟨v,w',hr,?_⟩
 have:=stepsIn_wide.2 hs
 obtain ⟨n,ds,ro⟩:=n
 cases ro with
 |none=>exact this
 |some l=>exact this
theorem Ip {n:Cx} {P:Program} {l:Nat} {f:FuncId} {tmps:Array Value} {assign body:Code} {w:World} {R:Ending->World->Prop} (h:RoundIn Fence.wide 0 P l f tmps assign body w R):RoundIn (FW n) 0 P l f tmps assign body w R:=by
 obtain ⟨n,ds,ro⟩:=n
 cases ro with
 |none=>exact h
 |some l=>exact h
theorem TR {P:Program} {n:Cx} {o:Oper} {a:Act} {w:World} {K:Act->World->Prop} {Q:Exit->Act->World->Prop} (hd:∀c,o.op≠.defer c) (h:o.wp P a w K Q):o.wpIn (FW n) 0 P a w K Q:=by
 refine ⟨λ_ _=>trivial,?_⟩
 rw [Oper.semAt_eq _ _ _ hd]
 unfold Oper.wp at h
 generalize (execOp a.eval o).run P w=r at *
 cases r with
 |ok nx w'=>
  cases nx<;>simp only [Oper.upon,Oper.uponIn] at h ⊢
  case value=>exact h
  case skip=>exact h
  case defer=>exact h
  case enter f args=>exact ⟨λh=>(by cases h),zo h⟩
  case row row args=>exact ⟨λh=>(by cases h),Lg h⟩
 |halt x w'=>
  cases x<;>simp only [Oper.upon,Oper.uponIn] at h ⊢
  exact h
theorem sS.in {P:Program} {n:Cx} {o:Oper} {a:Act} {w:World} {K:Value->World->Prop} (hd:∀c,o.op≠.defer c) (h:sS P o a w K):Cy P n o a w K:=λQ=>TR hd (h Q)
theorem vR {P:Program} {o:Oper} {E:Env} {w:World} {n:Cx} {a:Act} {K:Value->World->Prop} (hs:∀cs b,o.op≠.select cs b) (hd:∀c,o.op≠.defer c)
  (ha:Ag n a E) (h:xj P o E w K):Cy P n o a w K:=by
 unfold xj at h
 split at h
 .rename_i t args TO eH
  split at h
  .rename_i l fs cs hf
   obtain ⟨hb,hyv⟩:=bX h
   clear h
   simp only [Bool.and_eq_true,Nat.beq_eq] at hb
   obtain ⟨hc,h1,h2⟩:=hb
   have e1:fs=#[]:=Array.eq_empty_of_size_eq_zero h1
   have e2:cs=#[]:=Array.eq_empty_of_size_eq_zero h2
   subst e1 e2
   have hargs:args.map a.eval=args.map E.ev:=ha.args λx hx=>wD.1 hc x (by rw [eH];simp [Op.operands,Call.operands,hx])
   have Qd:a.eval (.tmp t)=.func (.yield l) #[] #[]:=ha.val (x:=.tmp t) hf
   intro Q
   obtain ⟨fn,tmps,assign,body,hy,hR⟩:=hyv
   refine ⟨λ_ _=>trivial,?_⟩
   rw [Oper.semAt_eq _ _ _ hd]
   have:(execOp a.eval o).run P w=.ok (.round l fn tmps assign body) w:=by
    simp [execOp,eH,resolve,Qd,Deferred.ofValue,invoke,hargs,hy]
   rw [this,Oper.uponIn_round]
   refine ⟨λh=>(by cases h),Ip (hR.mono ?_)⟩
   rintro e w' ⟨b,rfl,hk⟩
   exact ⟨_,rfl,hk⟩
  .exact (ir hs ha h).in hd
 .exact (ir hs ha h).in hd
def N0 (ops:Array Oper) (i j:Nat):Bool:=match ops[j]? with |some o=>o.after.toList.any λe=>Nat.beq e.on i&&Region.binds .any e|none=>false
def QU (ops:Array Oper):Nat->Nat->Nat->Bool
 |0,i,j=>N0 ops i j
 |f+1,i,j=>bif N0 ops i j then true else match ops[j]? with |some o=>o.after.toList.any λe=>bif Region.binds .any e then QU ops f i e.on else false|none=>false
def sO (ops:Array Oper) (i j:Nat):Bool:=QU ops 4 i j
def Down (ops:Array Oper) (listed:Array Bool):Prop:=∀(k:Nat) (o:Oper),ops[k]? =some o->listed.getD k false=true->∀e∈o.after,Region.binds .any e=true->listed.getD e.on false=true
theorem Down.zero (ops:Array Oper) (n:Nat):Down ops (Array.replicate n false):=λk o _ hk=>by
 exfalso
 by_cases h:k<n
 .simp [h] at hk
 .simp [h] at hk
theorem Down.set {ops:Array Oper} {listed:Array Bool} (hd:Down ops listed) {i:Nat} (hi:i∈Region.ready .any ops listed):Down ops (listed.setIfInBounds i true):=λk o ho hk e he hb=>by
 obtain ⟨_,oi,hoi,hall⟩:=mem_ready.1 hi
 by_cases Qg:i=k
 .subst Qg
  rw [hoi] at ho
  cases ho
  exact getD_set_true (hall e he hb)
 .rw [getD_set_ne false Qg] at hk
  exact getD_set_true (hd k o ho hk e he hb)
theorem yp {ops:Array Oper} {listed:Array Bool} {i j:Nat} (hall:∀o,ops[j]? =some o->∀e∈o.after,Region.binds .any e=true->listed.getD e.on false=true) (h:N0 ops i j=true):listed.getD i false=true:=by
 unfold N0 at h
 cases ho:ops[j]? with
 |none=>rw [ho] at h;cases h
 |some o=>
  rw [ho] at h
  obtain ⟨e,he,So⟩:=List.any_eq_true.1 h
  rw [Bool.and_eq_true] at So
  have hei:e.on=i:=by have:=So.1;rwa [Nat.beq_eq] at this
  have:=hall o ho e (by simpa using he) So.2
  rwa [hei] at this
theorem yq {ops:Array Oper} {listed:Array Bool} (hd:Down ops listed) {i:Nat}:∀(f j:Nat),(∀o,ops[j]? =some o->∀e∈o.after,Region.binds .any e=true->listed.getD e.on false=true)->QU ops f i j=true->listed.getD i false=true
 |0,j,hall,h=>yp hall h
 |f+1,j,hall,h=>by
  unfold QU at h
  cases hdi:N0 ops i j with
  |true=>exact yp hall hdi
  |false=>
   rw [hdi] at h
   cases ho:ops[j]? with
   |none=>rw [ho] at h;cases h
   |some o=>
    rw [ho] at h
    obtain ⟨e,he,So⟩:=List.any_eq_true.1 h
    cases hb:Region.binds .any e with
    |false=>rw [hb] at So;cases So
    |true=>
     rw [hb] at So
     have hl:=hall o ho e (by simpa using he) hb
     exact yq hd f e.on (λo' Y8 e' mG eG=>hd e.on o' Y8 hl e' mG eG) So
abbrev mq:=List (Nat×(World->Prop))
def heldBy (ops:Array Oper) (j:Nat) (w:World):mq->List Prop
 |[]=>[]
 |(i,S)::H=>bif sO ops i j then heldBy ops j w H else S w::heldBy ops j w H
def eV (ops:Array Oper) (j:Nat):mq->mq
 |[]=>[]
 |(i,S)::H=>bif sO ops i j then eV ops j H else (i,S)::eV ops j H
theorem xq {ops:Array Oper} {j:Nat} {w:World}:∀{H:mq} {p:Nat×(World->Prop)},p∈H->sO ops p.1 j=false->p.2 w∈heldBy ops j w H
 |(i,S)::H,p,h,ho=>by
  unfold heldBy
  rcases cS.1 h with rfl|h
  .simp only at ho;rw [ho];exact Bi
  .have:=xq (H:=H) (w:=w) h ho
   cases sO ops i j
   .exact lr _ this
   .exact this
theorem cT {ops:Array Oper} {j:Nat}:∀{H:mq} {p:Nat×(World->Prop)},p∈eV ops j H↔p∈H/\sO ops p.1 j=false
 |[],p=>by simp [eV]
 |(i,S)::H,p=>by
  unfold eV
  cases ho:sO ops i j with
  |true=>
   simp only [cond_true]
   rw [cT]
   constructor
   .rintro ⟨h1,h2⟩;exact ⟨lr _ h1,h2⟩
   .rintro ⟨h1,h2⟩
    rcases cS.1 h1 with rfl|h1
    .simp only at h2;rw [ho] at h2;cases h2
    .exact ⟨h1,h2⟩
  |false=>
   simp only [cond_false,cS]
   rw [cT]
   constructor
   .rintro (rfl|⟨h1,h2⟩)
    .exact ⟨.inl rfl,ho⟩
    .exact ⟨.inr h1,h2⟩
   .rintro ⟨rfl|h1,h2⟩
    .exact .inl rfl
    .exact .inr ⟨h1,h2⟩
section
variable {P:Program} {ops:Array Oper} {Q:Exit->Act->World->Prop}
def dL (P:Program) (ops:Array Oper) (Q:Exit->Act->World->Prop):Nat->mq->Array Bool->Act->World->Prop
 |0,_,listed,a,w=>Down ops listed->Region.ready .any ops listed=[]/\Q .normal a w
 |fuel+1,H,listed,a,w=>Down ops listed->
  (Region.ready .any ops listed=[]->Q .normal a w)/\
  ∀i∈Region.ready .any ops listed,wpOp P ops Q i (λa' w'=>(∀p∈eV ops i H,p.2 w')/\dL P ops Q fuel (eV ops i H) (listed.setIfInBounds i true) a' w') a w
theorem om:∀(fuel:Nat) (H:mq) (listed:Array Bool) (a:Act) (w:World),Down ops listed->dL P ops Q fuel H listed a w->wpAny P .any ops Q fuel listed a w
 |0,_,_,_,_,hd,h=>h hd
 |fuel+1,_,_,_,_,hd,h=>⟨(h hd).1,λi hi=>wpOp_mono (λa' w' h'=>om fuel _ _ a' w' (hd.set hi) h'.2) ((h hd).2 i hi)⟩
theorem sm:∀(fuel:Nat) (H H':mq) (listed:Array Bool) (a:Act) (w:World),(∀p∈H',p∈H)->dL P ops Q fuel H listed a w->dL P ops Q fuel H' listed a w
 |0,_,_,_,_,_,_,h=>h
 |fuel+1,H,H',listed,a,w,hs,h=>λhd=>⟨(h hd).1,λi hi=>wpOp_mono (λa' w' h'=>by
   have ru:∀p∈eV ops i H',p∈eV ops i H:=λp hp=>cT.2 ⟨hs p (cT.1 hp).1,(cT.1 hp).2⟩
   exact ⟨λp hp=>h'.1 p (ru p hp),sm fuel _ _ _ a' w' ru h'.2⟩) ((h hd).2 i hi)⟩
theorem NU {i j:Nat} {listed:Array Bool} (hd:Down ops listed) (hi:listed.getD i true=false) (hj:j∈Region.ready .any ops listed):sO ops i j=false:=by
 obtain ⟨_,oj,XI,hall⟩:=mem_ready.1 hj
 cases ho:sO ops i j with
 |false=>rfl
 |true=>
  have this:=yq hd 4 j (λo Y8 e he hb=>by rw [XI] at Y8;cases Y8;exact hall e he hb) ho
  rcases Nat.lt_or_ge i listed.size with h'|h'
  .simp [h'] at hi this;rw [hi] at this;cases this
  .simp [Array.getElem?_eq_none h'] at this
theorem q8 {i:Nat} {oi:Oper} {v:Value} {Ss:List (World->Prop)} (hi:ops[i]? =some oi) (ot:∀(j:Nat) (o:Oper) cs b,ops[j]? =some o->o.op≠.select cs b)
  (hQ:∀c a w,Q (.panic c) (a.put oi.dst v) w->Q (.panic c) a w):
  ∀(fuel:Nat) (H:mq) (listed:Array Bool) (a:Act) (w:World),
   (∀j oj,ops[j]? =some oj->j≠i->listed.getD j true=false->(∀e∈oj.after,Region.binds .any e=true->e.on≠i)->oi.apart ops oj=true)->
   i∈Region.ready .any ops listed->YieldsIf P ops (λw=>∀S∈Ss,S w) oi v a->(∀S∈Ss,S w)->(∀p∈H,p.2 w)->
   dL P ops Q fuel (Ss.map (λS=>(i,S))++H) (listed.setIfInBounds i true) (a.put oi.dst v) w->dL P ops Q (fuel+1) H listed a w:=by
 intro fuel
 induction fuel with
 |zero=>
  intro H listed a w _ hr hy hS hH G hd
  refine ⟨λh=>(by rw [h] at hr;cases hr),λj hj=>?_⟩
  by_cases OZ:j=i
  .subst OZ
   exact hy.wpOp hi hS ⟨λp hp=>hH p (cT.1 hp).1,G⟩
  .have:=ready_mono hj OZ
   rw [(G (hd.set hr)).1] at this
   cases this
 |succ fuel ih=>
  intro H listed a w Sq hr hy hS hH G hd
  refine ⟨λh=>(by rw [h] at hr;cases hr),λj hj=>?_⟩
  by_cases OZ:j=i
  .subst OZ
   refine hy.wpOp hi hS ⟨λp hp=>hH p (cT.1 hp).1,?_⟩
   exact sm _ _ _ _ _ _ (λp hp=>uD _ (cT.1 hp).1) G
  .have h1:=(G (hd.set hr)).2 j (ready_mono hj OZ)
   obtain ⟨Xz,oj,XI,hall⟩:=mem_ready.1 hj
   have h0:=(mem_ready.1 hr).1
   have aay:∀e∈oj.after,Region.binds .any e=true->e.on≠i:=λe he hb heq=>by
    have h1:=hall e he hb
    rw [heq] at h1
    rcases Nat.lt_or_ge i listed.size with h'|h'
    .simp [h'] at h0 h1;rw [h0] at h1;cases h1
    .simp [Array.getElem?_eq_none h'] at h1
   have XJ:sO ops i j=false:=NU hd h0 hj
   have h2:=wpOp_putIf XI (Sq j oj XI OZ Xz aay) (λcs b=>ot i oi cs b hi) (λcs b=>ot j oj cs b XI) hQ hy h1
   have US:∀k ok,ops[k]? =some ok->k≠i->(listed.setIfInBounds j true).getD k true=false->
     (∀e∈ok.after,Region.binds .any e=true->e.on≠i)->oi.apart ops ok=true:=λk ok hk Qg HN tj=>by
    refine Sq k ok hk Qg ?_ tj
    by_cases hjk:j=k
    .subst hjk;exact Xz
    .rw [getD_set_ne true hjk] at HN;exact HN
   refine wpOp_mono (λa' w' h3=>?_) h2
   obtain ⟨hy',Sy,we⟩:=h3
   have KD:∀p∈eV ops j H,p.2 w':=λp hp=>Sy p (cT.2 ⟨uD _ (cT.1 hp).1,(cT.1 hp).2⟩)
   have hS':∀S∈Ss,S w':=λS YY=>Sy (i,S) (cT.2 ⟨List.mem_append_left _ (pX.2 ⟨S,YY,rfl⟩),XJ⟩)
   refine ⟨KD,ih (eV ops j H) (listed.setIfInBounds j true) a' w' US (ready_mono hr (Ne.symm OZ)) hy' hS' KD ?_⟩
   rw [Array.setIfInBounds_comm _ _ OZ]
   refine sm _ _ _ _ _ _ (λp hp=>?_) we
   rcases fS.1 hp with hp|hp
   .obtain ⟨S,YY,rfl⟩:=pX.1 hp
    exact cT.2 ⟨List.mem_append_left _ hp,XJ⟩
   .exact cT.2 ⟨uD _ (cT.1 hp).1,(cT.1 hp).2⟩
end
def qn (ops:Array Oper) (j:Nat):Option Nat:=(ops[j]?).bind (·.dst)
def sg (P:Program) (ops:Array Oper) (draw:Bool) (i:Nat) (o:Oper) (E:Env) (w:World) (H:mq) (K:Env->World->mq->Prop):Prop:=
 bif calm P o then qT P o E w λv Ss=>K (E.put o.dst v) w (bif draw then Ss.map (λS=>(i,S))++H else H)
 else (bif draw then mM else xj) P o E w λv w'=>Kb (heldBy ops i w' H) (K (E.put o.dst v) w' (eV ops i H))
def mW (P:Program) (ops:Array Oper) (draw:Bool) (i:Nat) (o:Oper) (d:Nat) (want t:Bool) (E:Env) (w:World) (H:mq) (K:Env->World->mq->Prop):Prop:=
 bif (t==want) then sg P ops draw i o ((d,.bool t)::E) w H K else K (Env.put ((d,.bool t)::E) o.dst undef) w (bif calm P o then H else eV ops i H)
def mT (P:Program) (ops:Array Oper) (draw:Bool) (K:Env->World->Prop):List Nat->Env->World->mq->Prop
 |[],E,w,_=>K E w
 |i::l,E,w,H=>
  match ops[i]? with
  |none=>False
  |some o=>match o.guard with
   |none=>sg P ops draw i o E w H λE' w' H'=>mT P ops draw K l E' w' H'
   |some (j,want)=>match qn ops j with
    |none=>False
    |some d=>match E.get? d with
     |some (.bool t)=>aG t (mW P ops draw i o d want true E w H λE' w' H'=>mT P ops draw K l E' w' H') (mW P ops draw i o d want false E w H λE' w' H'=>mT P ops draw K l E' w' H')
     |some (.tuple _)=>mT P ops draw K l (Env.put E o.dst undef) w (bif calm P o then H else eV ops i H)
     |_=>False
def r6 (P:Program) (ops:Array Oper):List Nat->Array Bool->Bool
 |[],listed=>(Region.ready .any ops listed).isEmpty
 |i::l,listed=>(match ops[i]? with
   |some o=>bif calm P o then Region.free .any ops listed i&&(Region.ready .any ops listed).contains i else Region.ready .any ops listed==[i]
   |none=>false)&&r6 P ops l (listed.setIfInBounds i true)
def Ju (o:Oper):Bool:=match o.op with |.defer _=>false|_=>true
def gI (n:Nat) (ops:Array Oper):Bool:=Region.noSelect ops&&ops.toList.all λo=>Ju o&&match o.dst with |some d=>Nat.blt d n|none=>true
theorem dU {n:Nat} {ops:Array Oper} (h:gI n ops=true) {i:Nat} {o:Oper} (ho:ops[i]? =some o):∀t,o.dst=some t->t<n:=by
 intro t ht
 unfold gI at h
 rw [Bool.and_eq_true] at h
 have:=wD.1 h.2 o (by simpa using Array.mem_of_getElem? ho)
 rw [ht,Bool.and_eq_true] at this
 simpa using this.2
theorem nH {n:Nat} {ops:Array Oper} (h:gI n ops=true) {i:Nat} {o:Oper} (ho:ops[i]? =some o):∀c,o.op≠.defer c:=by
 intro c hc
 unfold gI at h
 rw [Bool.and_eq_true] at h
 have:=wD.1 h.2 o (by simpa using Array.mem_of_getElem? ho)
 rw [Bool.and_eq_true] at this
 have:=this.1
 unfold Ju at this
 rw [hc] at this
 cases this
def g9 (n:Cx) (K:Env->World->Prop):Exit->Act->World->Prop
 |.normal,a,w=>∃E,Ag n a E/\K E w
 |_,_,_=>False
theorem nC {n:Cx} {a:Act} {E:Env} (ha:Ag n a E) {ops:Array Oper} {j d:Nat} {t:Bool} (hd:qn ops j=some d) (ht:E.get? d=some (.bool t)):yielded ops a.tmps j=some t:=by
 unfold yielded
 unfold qn at hd
 rw [hd]
 simp [ha.get _ _ ht]
theorem jB {n:Cx} {a:Act} {E:Env} (ha:Ag n a E) {ops:Array Oper} {j d:Nat} {vs:Array Value} (hd:qn ops j=some d) (ht:E.get? d=some (.tuple vs)):yielded ops a.tmps j=none:=by
 unfold yielded
 unfold qn at hd
 rw [hd]
 simp [ha.get _ _ ht]
theorem Ag.same {n:Cx} {a:Act} {E:Env} (ha:Ag n a E) {d:Nat} {v:Value} (hd:E.get? d=some v):Ag n a ((d,v)::E):=ha.cons hd ha
section
variable {P:Program} {ops:Array Oper} {n:Cx} {K:Env->World->Prop}
theorem tS {i:Nat} {o:Oper} {a:Act} {w:World} {Kv:Value->World->Prop} {K':Act->World->Prop} {Q:Exit->Act->World->Prop} (ho:ops[i]? =some o)
  (hw:Region.wanted o (yielded ops a.tmps)=true) (h:sS P o a w Kv) (hk:∀v w',Kv v w'->K' (a.put o.dst v) w'):wpOp P ops Q i K' a w:=by
 unfold wpOp
 simp only [ho,hw,if_true]
 exact .inl (Oper.wp_mono (λa' w'=>by rintro ⟨v,rfl,hv⟩;exact hk v w' hv) (h Q))
theorem m9 {i:Nat} {o:Oper} {a:Act} {E:Env} {w:World} {H:mq} {Kh:Env->World->mq->Prop} {listed:Array Bool} {fuel:Nat} {Q:Exit->Act->World->Prop}
  (hn:gI n ops=true) (ho:ops[i]? =some o) (dP:(bif calm P o then Region.free .any ops listed i&&(Region.ready .any ops listed).contains i else Region.ready .any ops listed==[i])=true)
  (hQ:∀c a w,Q (.panic c) a w=False) (ha:Ag n a E) (hH:∀p∈H,p.2 w) (oU:Region.wanted o (yielded ops a.tmps)=true)
  (h:sg P ops true i o E w H Kh)
  (next:∀a' E' w' H',Ag n a' E'->(∀p∈H',p.2 w')->Kh E' w' H'->dL P ops Q fuel H' (listed.setIfInBounds i true) a' w'):dL P ops Q (fuel+1) H listed a w:=by
 have ot:=Region.noSelect_spec (ops:=ops) (by unfold gI at hn;rw [Bool.and_eq_true] at hn;exact hn.1)
 unfold sg at h
 cases hc:calm P o with
 |true=>
  rw [hc] at h dP
  simp only [cond_true] at h dP
  rw [Bool.and_eq_true] at dP
  obtain ⟨v,Ss,hk,wg,LK⟩:=pO (λcs b=>ot i o cs b ho) ha h
  refine q8 (v:=v) (Ss:=Ss) ho ot (by simp [hQ]) fuel H listed a w (Region.free_spec ho dP.1) (by simpa using dP.2) (.inl ⟨oU,λw' Bc=>LK w' Bc⟩) wg hH ?_
  refine next _ _ _ _ (ha.put v (dU hn ho)) ?_ hk
  intro p hp
  rcases fS.1 hp with hp|hp
  .obtain ⟨S,YY,rfl⟩:=pX.1 hp;exact wg S YY
  .exact hH p hp
 |false=>
  rw [hc] at h dP
  simp only [cond_false,cond_true] at h dP
  have hr:Region.ready .any ops listed=[i]:=by simpa using dP
  refine λ_=>⟨λh0=>(by rw [hr] at h0;cases h0),λj hj=>?_⟩
  rw [hr] at hj
  obtain rfl:=Ws.1 hj
  refine tS ho oU (ir (λcs b=>ot j o cs b ho) ha h) λv w' hv=>?_
  obtain ⟨h1,h2⟩:=qc hv
  have KD:∀p∈eV ops j H,p.2 w':=λp hp=>h1 _ (xq (cT.1 hp).1 (cT.1 hp).2)
  exact ⟨KD,next _ _ _ _ (ha.put v (dU hn ho)) KD h2⟩
theorem kG {i:Nat} {o:Oper} {a:Act} {w:World} {H:mq} {listed:Array Bool} {fuel:Nat} {Q:Exit->Act->World->Prop}
  (hn:gI n ops=true) (ho:ops[i]? =some o) (dP:(bif calm P o then Region.free .any ops listed i&&(Region.ready .any ops listed).contains i else Region.ready .any ops listed==[i])=true)
  (hQ:∀c a w,Q (.panic c) a w=False) (hH:∀p∈H,p.2 w) (oU:Region.wanted o (yielded ops a.tmps)=false)
  (next:dL P ops Q fuel (bif calm P o then H else eV ops i H) (listed.setIfInBounds i true) (a.put o.dst undef) w):dL P ops Q (fuel+1) H listed a w:=by
 have ot:=Region.noSelect_spec (ops:=ops) (by unfold gI at hn;rw [Bool.and_eq_true] at hn;exact hn.1)
 cases hc:calm P o with
 |true=>
  rw [hc] at dP next
  simp only [cond_true] at dP next
  rw [Bool.and_eq_true] at dP
  exact q8 (v:=undef) (Ss:=[]) ho ot (by simp [hQ]) fuel H listed a w (Region.free_spec ho dP.1) (by simpa using dP.2) (.inr ⟨oU,rfl⟩) (λS hS=>(by cases hS)) hH (by simpa using next)
 |false=>
  rw [hc] at dP next
  simp only [cond_false] at dP next
  have hr:Region.ready .any ops listed=[i]:=by simpa using dP
  refine λ_=>⟨λh0=>(by rw [hr] at h0;cases h0),λj hj=>?_⟩
  rw [hr] at hj
  obtain rfl:=Ws.1 hj
  unfold wpOp
  simp only [ho,oU]
  exact ⟨λp hp=>hH p (cT.1 hp).1,next⟩
theorem tG (hn:gI n ops=true):∀(l:List Nat) (listed:Array Bool) (E:Env) (w:World) (H:mq) (a:Act),r6 P ops l listed=true->Ag n a E->(∀p∈H,p.2 w)->
  mT P ops true K l E w H->dL P ops (g9 n K) l.length H listed a w
 |[],listed,E,w,H,a,dP,ha,_,h=>λ_=>⟨by simpa [r6] using dP,E,ha,h⟩
 |i::l,listed,E,w,H,a,dP,ha,hH,h=>by
  unfold r6 at dP
  rw [Bool.and_eq_true] at dP
  obtain ⟨dP,we⟩:=dP
  unfold mT at h
  cases ho:ops[i]? with
  |none=>rw [ho] at h;exact h.elim
  |some o=>
   rw [ho] at h dP
   simp only at h dP
   have next:∀a' E' w' H',Ag n a' E'->(∀p∈H',p.2 w')->mT P ops true K l E' w' H'->dL P ops (g9 n K) l.length H' (listed.setIfInBounds i true) a' w':=
    λa' E' w' H' hA PZ hR=>tG hn l _ E' w' H' a' we hA PZ hR
   cases hg:o.guard with
   |none=>
    rw [hg] at h
    simp only at h
    exact m9 hn ho dP (λ_ _ _=>rfl) ha hH (by simp [Region.wanted,hg]) h next
   |some jw=>
    obtain ⟨j,want⟩:=jw
    rw [hg] at h
    simp only at h
    cases hd:qn ops j with
    |none=>rw [hd] at h;exact h.elim
    |some d=>
     rw [hd] at h
     simp only at h
     split at h
     .rename_i t ht
      have hy:=nC ha hd ht
      have mP:mW P ops true i o d want t E w H λE' w' H'=>mT P ops true K l E' w' H':=by
       cases t
       .exact h
       .exact h
      unfold mW at mP
      cases hb:(t==want) with
      |true=>
       rw [hb] at mP
       exact m9 hn ho dP (λ_ _ _=>rfl) (ha.same ht) hH (by simp [Region.wanted,hg,hy];simpa using hb) mP next
      |false=>
       rw [hb] at mP
       simp only [cond_false] at mP
       refine kG hn ho dP (λ_ _ _=>rfl) hH (by simp [Region.wanted,hg,hy];simpa using hb) ?_
       refine next _ _ _ _ ((ha.same ht).put undef (dU hn ho)) ?_ mP
       intro p hp
       cases KG:calm P o
       .rw [KG] at hp;exact hH p (cT.1 hp).1
       .rw [KG] at hp;exact hH p hp
     .rename_i vs ht
      have hy:=jB ha hd ht
      refine kG hn ho dP (λ_ _ _=>rfl) hH (by simp [Region.wanted,hg,hy]) ?_
      refine next _ _ _ _ (ha.put undef (dU hn ho)) ?_ h
      intro p hp
      cases KG:calm P o
      .rw [KG] at hp;exact hH p (cT.1 hp).1
      .rw [KG] at hp;exact hH p hp
     .exact h.elim
theorem ss {i:Nat} {o:Oper} {a:Act} {w:World} {Kv:Value->World->Prop} {K':Act->World->Prop} {Q:Exit->Act->World->Prop} (ho:ops[i]? =some o)
  (hw:Region.wanted o (yielded ops a.tmps)=true) (h:Cy P n o a w Kv) (hk:∀v w',Kv v w'->K' (a.put o.dst v) w'):wpOpIn (FW n) 0 P ops Q i K' a w:=by
 unfold wpOpIn
 simp only [ho,hw,if_true]
 exact Oper.wpIn_mono (λa' w'=>by rintro ⟨v,rfl,hv⟩;exact hk v w' hv) (h Q)
theorem sG {i:Nat} {o:Oper} {a:Act} {E:Env} {w:World} {Kh:Env->World->mq->Prop} {rest:List Nat} {Q:Exit->Act->World->Prop}
  (hn:gI n ops=true) (ho:ops[i]? =some o) (ha:Ag n a E) (oU:Region.wanted o (yielded ops a.tmps)=true) (h:sg P ops false i o E w [] Kh)
  (next:∀a' E' w',Ag n a' E'->Kh E' w' []->wpOpsIn (FW n) 0 P ops Q rest a' w'):wpOpsIn (FW n) 0 P ops Q (i::rest) a w:=by
 have ot:=Region.noSelect_spec (ops:=ops) (by unfold gI at hn;rw [Bool.and_eq_true] at hn;exact hn.1)
 rw [wpOpsIn_cons]
 unfold sg at h
 cases hc:calm P o with
 |true=>
  rw [hc] at h
  simp only [cond_true,cond_false] at h
  obtain ⟨v,Ss,hk,wg,LK⟩:=pO (λcs b=>ot i o cs b ho) ha h
  refine ss (Kv:=λv' w'=>v'=v/\w'=w) ho oU ?_ ?_
  .refine sS.in (nH hn ho) λQ'=>?_
   unfold Oper.wp
   rw [LK w wg]
   exact ⟨v,rfl,rfl,rfl⟩
  .rintro v' w' ⟨rfl,rfl⟩
   exact next _ _ _ (ha.put _ (dU hn ho)) hk
 |false=>
  rw [hc] at h
  simp only [cond_false,heldBy,Kb,eV] at h
  exact ss ho oU (vR (λcs b=>ot i o cs b ho) (nH hn ho) ha h) λv w' hv=>next _ _ _ (ha.put v (dU hn ho)) hv
theorem tH (hn:gI n ops=true):∀(l:List Nat) (E:Env) (w:World) (a:Act),Ag n a E->mT P ops false K l E w []->wpOpsIn (FW n) 0 P ops (g9 n K) l a w
 |[],E,w,a,ha,h=>⟨E,ha,h⟩
 |i::l,E,w,a,ha,h=>by
  unfold mT at h
  cases ho:ops[i]? with
  |none=>rw [ho] at h;exact h.elim
  |some o=>
   rw [ho] at h
   simp only at h
   have next:∀a' E' w',Ag n a' E'->mT P ops false K l E' w' []->wpOpsIn (FW n) 0 P ops (g9 n K) l a' w':=λa' E' w' hA hR=>tH hn l E' w' a' hA hR
   cases hg:o.guard with
   |none=>
    rw [hg] at h
    simp only at h
    exact sG (Kh:=λE' w' H'=>mT P ops false K l E' w' H') hn ho ha (by simp [Region.wanted,hg]) h next
   |some jw=>
    obtain ⟨j,want⟩:=jw
    rw [hg] at h
    simp only at h
    cases hd:qn ops j with
    |none=>rw [hd] at h;exact h.elim
    |some d=>
     rw [hd] at h
     simp only at h
     split at h
     .rename_i t ht
      have hy:=nC ha hd ht
      have mP:mW P ops false i o d want t E w [] λE' w' H'=>mT P ops false K l E' w' H':=by
       cases t
       .exact h
       .exact h
      unfold mW at mP
      cases hb:(t==want) with
      |true=>
       rw [hb] at mP
       exact sG (Kh:=λE' w' H'=>mT P ops false K l E' w' H') hn ho (ha.same ht) (by simp [Region.wanted,hg,hy];simpa using hb) mP next
      |false=>
       rw [hb] at mP
       simp only [cond_false] at mP
       have Wd:(bif calm P o then ([]:mq) else eV ops i [])=[]:=by cases calm P o<;>rfl
       rw [Wd] at mP
       rw [wpOpsIn_cons]
       unfold wpOpIn
       have hw:Region.wanted o (yielded ops a.tmps)=false:=by simp [Region.wanted,hg,hy];simpa using hb
       simp only [ho,hw]
       exact ⟨λ_ _=>trivial,next _ _ _ ((ha.same ht).put undef (dU hn ho)) mP⟩
     .rename_i vs ht
      have hy:=jB ha hd ht
      have Wd:(bif calm P o then ([]:mq) else eV ops i [])=[]:=by cases calm P o<;>rfl
      rw [Wd] at h
      rw [wpOpsIn_cons]
      unfold wpOpIn
      have hw:Region.wanted o (yielded ops a.tmps)=false:=by simp [Region.wanted,hg,hy]
      simp only [ho,hw]
      exact ⟨λ_ _=>trivial,next _ _ _ (ha.put undef (dU hn ho)) h⟩
     .exact h.elim
theorem AO {c:Code} {id:Nat} {a:Act} {E:Env} {w:World} (hc:c=.region id ops false) (hn:gI n ops=true) (ha:Ag n a E)
  (h:mT P ops false K (List.range ops.size) E w []):c.wpIn (FW n) 0 P (g9 n K) a w:=by
 subst hc
 exact wpIn_region (tH hn _ E w a ha h)
theorem qy (hn:gI n ops=true) {Q:Exit->Act->World->Prop} (hQ:¬LetsOut Q):∀(l:List Nat) (a:Act) (w:World),wpOps P ops Q l a w->wpOpsIn (FW n) 0 P ops Q l a w
 |[],a,w,h=>h
 |i::l,a,w,h=>by
  rw [wpOps_cons] at h
  rw [wpOpsIn_cons]
  unfold wpOp at h
  unfold wpOpIn
  cases ho:ops[i]? with
  |none=>rw [ho] at h;exact qy hn hQ l a w h
  |some o=>
   rw [ho] at h
   simp only at h ⊢
   split
   .rename_i hw
    rw [if_pos hw] at h
    rcases h with h|h
    .exact Oper.wpIn_mono (λa' w' h'=>qy hn hQ l a' w' h') (TR (nH hn ho) h)
    .exact absurd h.2 hQ
   .rename_i hw
    rw [if_neg hw] at h
    exact ⟨λ_ _=>trivial,qy hn hQ l _ w h⟩
theorem yN {c:Code} {id:Nat} {a:Act} {E:Env} {w:World} {l:List Nat} (hm:P.follows .mixedOrders=true) (hc:c=.region id ops true) (hn:gI n ops=true)
  (hl:r6 P ops l (Array.replicate ops.size false)=true) (mH:l.length=ops.size) (ha:Ag n a E) (h:mT P ops true K l E w.drew []):c.wpIn (FW n) 0 P (g9 n K) a w:=by
 subst hc
 have h1:=tG hn l _ E _ [] a hl ha (λp hp=>(by cases hp)) h
 rw [mH] at h1
 have h2:=om _ [] _ _ _ (Down.zero _ _) h1
 refine wpIn_region_draw λt=>?_
 refine qy hn (λ⟨_,_,h⟩=>h) _ _ _ ?_
 simp only [Region.schedule,hm,Bool.true_or,if_true]
 exact wpAny_sound ops.size t _ a _ h2
end
section
variable {P:Program} {n:Cx}
def Code.XT:Code->Bool->Bool
 |.region _ _ d,b=>d==b
 |_,_=>false
def Code.ops:Code->Array Oper
 |.region _ ops _=>ops
 |_=>#[]
def Code.fst:Code->Code
 |.seq a _=>a
 |.cond _ a _=>a
 |.block _ a=>a
 |.loop a=>a
 |.scope a=>a
 |c=>c
def Code.snd:Code->Code
 |.seq _ b=>b
 |.cond _ _ b=>b
 |c=>c
def Code.asn:Code->Code
 |.rangeFunc _ _ a _=>a
 |c=>c
def Code.bdy:Code->Code
 |.rangeFunc _ _ _ b=>b
 |c=>c
abbrev AW (P:Program) (n:Cx) (c:Code) (Q:Exit->Act->World->Prop) (a:Act) (w:World):Prop:=c.wpIn (FW n) 0 P Q a w
def WP (P:Program) (n:Cx) (c:Code) (Q:Exit->Act->World->Prop) (E:Env) (w:World):Prop:=∀a,Ag n a E->AW P n c Q a w
theorem WP.region {c:Code} {Q:Exit->Act->World->Prop} {E:Env} {w:World} {ops:Array Oper} {id:Nat} (K:Env->World->Prop) (hc:c=.region id ops false) (hn:gI n ops=true)
  (h:mT P ops false K (List.range ops.size) E w []) (hk:∀E' w' a',Ag n a' E'->K E' w'->Q .normal a' w'):WP P n c Q E w:=λa ha=>
 wpIn_mono (AO hc hn ha h) λe a' w' he=>by
  cases e with
  |normal=>obtain ⟨E',hA,hK⟩:=he;exact hk E' w' a' hA hK
  |_=>exact he.elim
theorem WP.Q7 {c:Code} {Q:Exit->Act->World->Prop} {E:Env} {w:World} {ops:Array Oper} {id:Nat} {l:List Nat} (K:Env->World->Prop) (hm:P.follows .mixedOrders=true) (hc:c=.region id ops true) (hn:gI n ops=true)
  (hl:r6 P ops l (Array.replicate ops.size false)=true) (mH:l.length=ops.size)
  (h:mT P ops true K l E w.drew []) (hk:∀E' w' a',Ag n a' E'->K E' w'->Q .normal a' w'):WP P n c Q E w:=λa ha=>
 wpIn_mono (yN hm hc hn hl mH ha h) λe a' w' he=>by
  cases e with
  |normal=>obtain ⟨E',hA,hK⟩:=he;exact hk E' w' a' hA hK
  |_=>exact he.elim
def Il (n:Nat) (c:Code):Bool:=match c with |.region _ ops d=>!d&&gI n ops|_=>false
def Yl (P:Program) (n:Nat) (c:Code) (l:List Nat):Bool:=match c with
 |.region _ ops d=>d&&(P.follows .mixedOrders&&(gI n ops&&(r6 P ops l (Array.replicate ops.size false)&&Nat.beq l.length ops.size)))
 |_=>false
theorem WP.Tj {c:Code} {Q:Exit->Act->World->Prop} {E:Env} {w:World} (K:Env->World->Prop) (hc:Il n c=true)
  (h:mT P (Code.ops c) false K (List.range (Code.ops c).size) E w []) (hk:∀E' w' a',Ag n a' E'->K E' w'->Q .normal a' w'):WP P n c Q E w:=by
 unfold Il at hc
 split at hc
 .rename_i id ops d
  rw [Bool.and_eq_true] at hc
  obtain ⟨h1,h2⟩:=hc
  have h3:d=false:=by simpa using h1
  subst h3
  exact WP.region K rfl h2 h hk
 .cases hc
theorem WP.draw {c:Code} {Q:Exit->Act->World->Prop} {E:Env} {w:World} (l:List Nat) (K:Env->World->Prop) (hc:Yl P n c l=true)
  (h:mT P (Code.ops c) true K l E w.drew []) (hk:∀E' w' a',Ag n a' E'->K E' w'->Q .normal a' w'):WP P n c Q E w:=by
 unfold Yl at hc
 split at hc
 .rename_i id ops d
  simp only [Bool.and_eq_true] at hc
  obtain ⟨rfl,h2,h3,h4,h5⟩:=hc
  rw [Nat.beq_eq] at h5
  exact WP.Q7 K h2 rfl h3 h4 h5 h hk
 .cases hc
theorem WP.at {c:Code} {Q:Exit->Act->World->Prop} {E:Env} {w:World} {a:Act} (h:WP P n c Q E w) (ha:Ag n a E):AW P n c Q a w:=h a ha
theorem WP.seq {c x y:Code} {Q:Exit->Act->World->Prop} {E:Env} {w:World} (hc:c=.seq x y) (h:WP P n x (Exit.then (AW P n y Q) Q) E w):WP P n c Q E w:=λa ha=>by
 subst hc;exact wpIn_seq (h a ha)
theorem WP.cond {c x y:Code} {o:Operand} {Q:Exit->Act->World->Prop} {E:Env} {w:World} {t:Bool} (hc:c=.cond o x y) (ho:E.val o=some (.bool t)) (h:aG t (WP P n x Q E w) (WP P n y Q E w)):WP P n c Q E w:=λa ha=>by
 subst hc
 refine wpIn_cond_split (ha.val ho) (λht=>?_) (λht=>?_)
 .subst ht;exact h a ha
 .subst ht;exact h a ha
def qk (v:Option Value) (A B:Prop):Prop:=match v with |some (.bool t)=>aG t A B|_=>False
theorem WP.qk {c x y:Code} {o:Operand} {Q:Exit->Act->World->Prop} {E:Env} {w:World} {A B:Prop} (hc:c=.cond o x y) (h1:A->WP P n x Q E w) (h2:B->WP P n y Q E w) (h:qk (E.val o) A B):WP P n c Q E w:=by
 unfold W.qk at h
 split at h
 .rename_i t ht
  refine WP.cond hc ht ?_
  cases t
  .exact h2 h
  .exact h1 h
 .exact h.elim
theorem WP.block {c x:Code} {id:Nat} {Q:Exit->Act->World->Prop} {E:Env} {w:World} (hc:c=.block id x) (h:WP P n x (Exit.inBlock id Q) E w):WP P n c Q E w:=λa ha=>by
 subst hc;exact wpIn_block (h a ha)
theorem WP.skip {c:Code} {Q:Exit->Act->World->Prop} {E:Env} {w:World} (hc:c=.skip) (h:∀a,Ag n a E->Q .normal a w):WP P n c Q E w:=λa ha=>by
 subst hc;exact wpIn_skip (h a ha)
theorem WP.exit {c:Code} {id:Nat} {Q:Exit->Act->World->Prop} {E:Env} {w:World} (hc:c=.exit id) (h:∀a,Ag n a E->Q (.exit id) a w):WP P n c Q E w:=λa ha=>by
 subst hc;exact wpIn_exit (h a ha)
theorem WP.ret {c:Code} {Q:Exit->Act->World->Prop} {E:Env} {w:World} (hc:c=.ret) (h:∀a,Ag n a E->Q .ret a w):WP P n c Q E w:=λa ha=>by
 subst hc;exact wpIn_ret (h a ha)
def sT (P:Program) (n:Cx) (c:Code) (Q:Exit->Act->World->Prop) (a:Act) (w:World):Prop:=
 ∀(b:Frame) (k:List Item) (cs:List Frame),b.roundOf=n.ro->∃e a' w',Q e a' w'/\ArrivesIn (Machine.fenced P (FW n)) P (lone (b.atR a (.code c::.inLoop c::k)) cs w) b k cs e a' w'
theorem Ra (n:Cx) (m:Nat):(FW n).room m:=room_wide m
theorem wQ {c:Code} {Q:Exit->Act->World->Prop} {a:Act} {w:World} (h:sT P n c Q a w):AW P n (Code.loop c) Q a w:=λb k cs Y' hb hr=>by
 obtain ⟨e,a',w',hq,A5⟩:=h b k cs Y'
 exact ⟨e,a',w',hq,.of_steps (.one (fenced_calm hb hr rfl) stepR_loop) A5⟩
theorem yk {c:Code} {Q:Exit->Act->World->Prop} {a:Act} {w:World} (h:AW P n c (Exit.then (sT P n c Q) Q) a w):sT P n c Q a w:=by
 intro b k cs Y'
 have hb:(FW n).fn b.fn:=trivial
 have hr:(FW n).room (cs.length+1+0):=Ra n _
 obtain ⟨e,a₁,w₁,hq,A5⟩:=h b (.inLoop c::k) cs Y' hb hr
 cases e with
 |normal=>
  obtain ⟨e₂,a₂,w₂,hq₂,A5₂⟩:=hq b k cs Y'
  exact ⟨e₂,a₂,w₂,hq₂,.of_steps (StepsIn.trans A5 (.one (fenced_calm hb hr rfl) stepR_inLoop)) A5₂⟩
 |exit id=>exact ⟨_,a₁,w₁,hq,.pass (x:=.inLoop c) rfl (λ_ _=>.inl (by simp)) A5⟩
 |goto l=>exact ⟨_,a₁,w₁,hq,.pass (x:=.inLoop c) rfl (λ_ _=>.inl (by simp)) A5⟩
 |ret=>exact ⟨_,a₁,w₁,hq,.pass (x:=.inLoop c) rfl (λ_ _=>.inl (by simp)) A5⟩
 |panic ch=>exact ⟨_,a₁,w₁,hq,.pass (x:=.inLoop c) rfl (λ_ _=>.inl (by simp)) A5⟩
 |outgrown=>exact ⟨_,a₁,w₁,hq,.pass (x:=.inLoop c) rfl (λ_ _=>.inl (by simp)) A5⟩
def LP (P:Program) (n:Cx) (c:Code) (Q:Exit->Act->World->Prop) (E:Env) (w:World):Prop:=∀a,Ag n a E->sT P n c Q a w
theorem WP.loop {c x:Code} {Q:Exit->Act->World->Prop} {E:Env} {w:World} (hc:c=.loop x) (h:LP P n x Q E w):WP P n c Q E w:=λa ha=>by
 subst hc;exact wQ (h a ha)
theorem LP.step {c:Code} {Q:Exit->Act->World->Prop} {E:Env} {w:World} (h:WP P n c (Exit.then (sT P n c Q) Q) E w):LP P n c Q E w:=λa ha=>yk (h a ha)
def N2:List Value->Value
 |[v]=>v
 |vs=>.tuple vs.toArray
def Aj (P:Program) (E:Env) (w:World):List ResultVar->(List Value->Prop)->Prop
 |[],K=>K []
 |.tmp t::l,K=>match E.get? t with
  |some v=>Aj P E w l λvs=>K (v::vs)
  |none=>False
 |.cell x T::l,K=>match E.get? x with
  |some (.pointer (some p))=>Bd P T p w λv _=>Aj P E w l λvs=>K (v::vs)
  |_=>False
def rC (P:Program) (fn:Func) (E:Env) (w:World) (K:Value->Prop):Prop:=Aj P E w fn.results.toList λvs=>K (N2 vs)
def yu (tmps:Array Value):ResultVar->Sem Value
 |.tmp t=>pure (tmps.getD t undef)
 |.cell a t=>do loadVar t (<-asAddr (tmps.getD a undef))
theorem Ai (fn:Func) (tmps:Array Value):results fn tmps=(do let vs <-fn.results.mapM (yu tmps);pure (if h:vs.size=1 then vs[0] else .tuple vs)):=by
 unfold results
 congr 1
theorem tF {a:Act} {E:Env} (ha:Ag n a E) (w:World):∀{l:List ResultVar} {K:List Value->Prop},Aj P E w l K->
  ∃vs,(l.mapM (yu a.tmps)).run P w=.ok vs w/\K vs
 |[],K,h=>⟨[],by simp,h⟩
 |.tmp t::l,K,h=>by
  unfold Aj at h
  split at h
  .rename_i v hv
   obtain ⟨vs,hr,hk⟩:=tF ha w h
   refine ⟨v::vs,?_,hk⟩
   have hg:=ha.get t v hv
   simp [List.mapM_cons,yu,hr,hg]
  .exact h.elim
 |.cell x T::l,K,h=>by
  unfold Aj at h
  split at h
  .rename_i p hp
   obtain ⟨v,S,h,wg,LK⟩:=u7 h
   obtain ⟨vs,hr,hk⟩:=tF ha w h
   refine ⟨v::vs,?_,hk⟩
   have hg:=ha.get x _ hp
   simp [List.mapM_cons,yu,hr,hg,asAddr,LK w wg]
  .exact h.elim
theorem xN {fn:Func} {a:Act} {E:Env} {w:World} {R:Ending->World->Prop} (ha:Ag n a E) (h:rC P fn E w λv=>R (.returned v) w):
  ∃v,(results fn a.tmps).run P w=.ok v w/\R (.returned v) w:=by
 obtain ⟨vs,hr,hk⟩:=tF ha w h
 refine ⟨_,?_,hk⟩
 rw [Ai,<-Array.toArray_toList (xs:=fn.results),List.mapM_toArray]
 simp only [Sem.run_bind,Sem.run_map,hr,Result.andThen_ok,Sem.run_pure]
 congr 1
 cases vs with
 |nil=>rfl
 |cons v vs=>cases vs<;>rfl
theorem oY {m:Nat} {fn:Func} {a:Act} {E:Env} {w:World} {R:Ending->World->Prop} (ha:Ag (cx m) a E) (h:rC P fn E w λv=>R (.returned v) w):
  a.defers=[]/\∃v,(results fn a.tmps).run P w=.ok v w/\R (.returned v) w:=⟨ha.defers,xN ha h⟩
theorem Er {f:FuncId} {fn:Func} {c:Code} {args:Array Value} {w:World} {R:Ending->World->Prop} {E:Env} (hf:P.funcs[f]? =some fn) (hb:fn.body=some c) (mH:args.size<=fn.ntmps)
  (hE:∀t v,E.get? t=some v->args[t]? =some v) (h:WP P (cx fn.ntmps) c (bodyPost P fn R) E w):Calls P f args w R:=by
 refine calls_of_wp hf hb (wpIn_wide.1 (h _ ⟨rfl,by simp;omega,?_⟩))
 intro t v ht
 have:=hE t v ht
 have lV:t<args.size:=by
  rcases Nat.lt_or_ge t args.size with h'|h'
  .exact h'
  .rw [Array.getElem?_eq_none h'] at this;cases this
 rw [Array.getElem?_append_left lV]
 exact this
def sy:Nat->List Value->Env
 |_,[]=>[]
 |i,v::l=>(i,v)::sy (i+1) l
theorem xk:∀(l:List Value) (i t:Nat) (v:Value),(sy i l).get? t=some v->i<=t/\l[t - i]? =some v
 |[],_,_,_,h=>by simp [sy,Env.get?] at h
 |u::l,i,t,v,h=>by
  simp only [sy,Env.get?] at h
  by_cases e:i=t
  .subst e;simp at h;subst h;simp
  .have hb:Nat.beq i t=false:=by rw [<-Bool.not_eq_true,Nat.beq_eq];exact e
   simp only [hb,cond_false] at h
   obtain ⟨h1,h2⟩:=xk l (i+1) t v h
   refine ⟨by omega,?_⟩
   rw [show t - i=(t - (i+1))+1 by omega]
   simpa using h2
theorem pN {f:FuncId} {fn:Func} {c:Code} {args:List Value} {w:World} {R:Ending->World->Prop} (hf:P.funcs[f]? =some fn) (hb:fn.body=some c) (mH:Nat.ble args.length fn.ntmps=true)
  (h:WP P (cx fn.ntmps) c (bodyPost P fn R) (sy 0 args) w):Calls P f args.toArray w R:=
 Er hf hb (by simpa using Nat.le_of_ble_eq_true mH) (λt v ht=>by
  have:=(xk args 0 t v ht).2
  simpa using this) h
theorem Ol {t:Bool} {A B A' B':Prop} (h1:A->A') (h2:B->B') (h:aG t A B):aG t A' B':=by
 cases t
 .exact h2 h
 .exact h1 h
def asInt (k:IntKind) (v:Option Value) (K:Int->Prop):Prop:=match v with |some (.int k' n)=>hU (k'==k) (K n)|_=>False
theorem oy {k:IntKind} {v:Option Value} {K:Int->Prop} (h:asInt k v K):∃n,v=some (.int k n)/\K n:=by
 unfold asInt at h
 split at h
 .obtain ⟨h1,h2⟩:=bX h
  have h3:=eq_of_beq h1
  subst h3
  exact ⟨_,rfl,h2⟩
 .exact h.elim
def y8 (v:Option Value) (K:ByteArray->Prop):Prop:=match v with |some (.string b)=>K b|_=>False
theorem qh {v:Option Value} {K:ByteArray->Prop} (h:y8 v K):∃b,v=some (.string b)/\K b:=by
 unfold y8 at h
 split at h
 .exact ⟨_,rfl,h⟩
 .exact h.elim
def asSlice (v:Option Value) (K:Sl->Prop):Prop:=match v with |some (.slice a n c)=>K ⟨a,n,c⟩|_=>False
theorem CJ {v:Option Value} {K:Sl->Prop} (h:asSlice v K):∃s:Sl,v=some s.v/\K s:=by
 unfold asSlice at h
 split at h
 .exact ⟨⟨_,_,_⟩,rfl,h⟩
 .exact h.elim
def gL (v:Option Value) (K:Addr->Prop):Prop:=match v with |some (.pointer (some a))=>K a|_=>False
theorem bQ {v:Option Value} {K:Addr->Prop} (h:gL v K):∃a,v=some (.pointer (some a))/\K a:=by
 unfold gL at h
 split at h
 .exact ⟨_,rfl,h⟩
 .exact h.elim
def asAgg (v:Option Value) (K:List Value->Prop):Prop:=match v with |some (.agg cs)=>K cs.toList|_=>False
theorem G8 {v:Option Value} {K:List Value->Prop} (h:asAgg v K):∃cs:List Value,v=some (.agg cs.toArray)/\K cs:=by
 unfold asAgg at h
 split at h
 .exact ⟨_,rfl,h⟩
 .exact h.elim
def CI (f:FuncId) (v:Option Value) (K:List Value->List Value->Prop):Prop:=match v with |some (.func (.func g) fs cs)=>hU (Nat.beq g f) (K fs.toList cs.toList)|_=>False
theorem Eb {f:FuncId} {v:Option Value} {K:List Value->List Value->Prop} (h:CI f v K):∃fs cs:List Value,v=some (.func (.func f) fs.toArray cs.toArray)/\K fs cs:=by
 unfold CI at h
 split at h
 .obtain ⟨h1,h2⟩:=bX h
  rw [Nat.beq_eq] at h1
  subst h1
  exact ⟨_,_,rfl,h2⟩
 .exact h.elim
def sX (l:List Value) (K:Value->List Value->Prop):Prop:=match l with |v::r=>K v r|[]=>False
theorem nD {l:List Value} {K:Value->List Value->Prop} (h:sX l K):∃v r,l=v::r/\K v r:=by
 cases l with
 |nil=>exact h.elim
 |cons v r=>exact ⟨v,r,rfl,h⟩
def Bv (l:List Value) (K:Prop):Prop:=match l with |[]=>K|_=>False
theorem uP {l:List Value} {K:Prop} (h:Bv l K):l=[]/\K:=by
 cases l with
 |nil=>exact ⟨rfl,h⟩
 |cons v r=>exact h.elim
end
def Ph (k:IntKind) (x y:Int):Int:=k.wrap ((BitVec.ofInt k.bits x&&& BitVec.ofInt k.bits y).toNat:Int)
def WI (k:IntKind) (x y:Int):Int:=k.wrap ((BitVec.ofInt k.bits x|||BitVec.ofInt k.bits y).toNat:Int)
def Pj (k:IntKind) (x y:Int):Int:=k.wrap ((BitVec.ofInt k.bits x^^^BitVec.ofInt k.bits y).toNat:Int)
inductive Tr where
 |nil
 |one (i:Nat) (t:Tr)
 |fork (a b:Tr)
def Tr.pJ:Tr->List Nat
 |.nil=>[]
 |.one i _=>[i]
 |.fork a b=>a.pJ++b.pJ
def Tr.len:Tr->Nat
 |.nil=>0
 |.one _ t=>t.len+1
 |.fork a _=>a.len
def zI (P:Program) (ops:Array Oper) (i:Nat) (E:Env) (w:World) (H:mq) (Kn:Env->World->mq->Prop):Prop:=
 match ops[i]? with
 |none=>False
 |some o=>match o.guard with
  |none=>sg P ops true i o E w H Kn
  |some (j,want)=>match qn ops j with
   |none=>False
   |some d=>match E.get? d with
    |some (.bool t)=>aG t (mW P ops true i o d want true E w H Kn) (mW P ops true i o d want false E w H Kn)
    |some (.tuple _)=>Kn (Env.put E o.dst undef) w (bif calm P o then H else eV ops i H)
    |_=>False
def sh (P:Program) (ops:Array Oper) (K:Env->World->Prop):Tr->Env->World->mq->Prop
 |.nil,E,w,_=>K E w
 |.one i t,E,w,H=>zI P ops i E w H λE' w' H'=>sh P ops K t E' w' H'
 |.fork a b,E,w,H=>sh P ops K a E w H/\sh P ops K b E w H
def ky (P:Program) (ops:Array Oper):Tr->Bool->Array Bool->Bool
 |.nil,alt,listed=>!alt&&(Region.ready .any ops listed).isEmpty
 |.one i t,alt,listed=>(match ops[i]? with
   |some o=>bif alt then !calm P o else bif calm P o then Region.free .any ops listed i&&(Region.ready .any ops listed).contains i else Region.ready .any ops listed==[i]
   |none=>false)&&ky P ops t false (listed.setIfInBounds i true)
 |.fork a b,alt,listed=>(alt||Region.ready .any ops listed==(Tr.fork a b).pJ)&&(Nat.beq a.len b.len&&(ky P ops a true listed&&ky P ops b true listed))
section
variable {P:Program} {ops:Array Oper} {n:Cx} {K:Env->World->Prop}
theorem JX {i:Nat} {o:Oper} {a:Act} {E:Env} {w:World} {H:mq} {Kh:Env->World->mq->Prop} {listed:Array Bool} {fuel:Nat} {Q:Exit->Act->World->Prop}
  (hn:gI n ops=true) (ho:ops[i]? =some o) (hc:calm P o=false) (ha:Ag n a E) (oU:Region.wanted o (yielded ops a.tmps)=true)
  (h:sg P ops true i o E w H Kh)
  (next:∀a' E' w' H',Ag n a' E'->(∀p∈H',p.2 w')->Kh E' w' H'->dL P ops Q fuel H' (listed.setIfInBounds i true) a' w'):
  wpOp P ops Q i (λa' w'=>(∀p∈eV ops i H,p.2 w')/\dL P ops Q fuel (eV ops i H) (listed.setIfInBounds i true) a' w') a w:=by
 have ot:=Region.noSelect_spec (ops:=ops) (by unfold gI at hn;rw [Bool.and_eq_true] at hn;exact hn.1)
 unfold sg at h
 rw [hc] at h
 simp only [cond_false,cond_true] at h
 refine tS ho oU (ir (λcs b=>ot i o cs b ho) ha h) λv w' hv=>?_
 obtain ⟨h1,h2⟩:=qc hv
 have KD:∀p∈eV ops i H,p.2 w':=λp hp=>h1 _ (xq (cT.1 hp).1 (cT.1 hp).2)
 exact ⟨KD,next _ _ _ _ (ha.put v (dU hn ho)) KD h2⟩
theorem DJ {i:Nat} {o:Oper} {a:Act} {w:World} {H:mq} {listed:Array Bool} {fuel:Nat} {Q:Exit->Act->World->Prop}
  (ho:ops[i]? =some o) (hH:∀p∈H,p.2 w) (oU:Region.wanted o (yielded ops a.tmps)=false)
  (next:dL P ops Q fuel (eV ops i H) (listed.setIfInBounds i true) (a.put o.dst undef) w):
  wpOp P ops Q i (λa' w'=>(∀p∈eV ops i H,p.2 w')/\dL P ops Q fuel (eV ops i H) (listed.setIfInBounds i true) a' w') a w:=by
 unfold wpOp
 simp only [ho,oU]
 exact ⟨λp hp=>hH p (cT.1 hp).1,next⟩
theorem Nm (hn:gI n ops=true) {i:Nat} {o:Oper} {E:Env} {w:World} {H:mq} {a:Act} {Kn:Env->World->mq->Prop} {listed:Array Bool} {fuel:Nat} (ho:ops[i]? =some o)
  (dP:(bif calm P o then Region.free .any ops listed i&&(Region.ready .any ops listed).contains i else Region.ready .any ops listed==[i])=true) (ha:Ag n a E) (hH:∀p∈H,p.2 w) (h:zI P ops i E w H Kn)
  (next:∀a' E' w' H',Ag n a' E'->(∀p∈H',p.2 w')->Kn E' w' H'->dL P ops (g9 n K) fuel H' (listed.setIfInBounds i true) a' w'):dL P ops (g9 n K) (fuel+1) H listed a w:=by
 unfold zI at h
 rw [ho] at h
 simp only at h
 cases hg:o.guard with
 |none=>
  rw [hg] at h
  simp only at h
  exact m9 hn ho dP (λ_ _ _=>rfl) ha hH (by simp [Region.wanted,hg]) h next
 |some jw=>
  obtain ⟨j,want⟩:=jw
  rw [hg] at h
  simp only at h
  cases hd:qn ops j with
  |none=>rw [hd] at h;exact h.elim
  |some d=>
   rw [hd] at h
   simp only at h
   split at h
   .rename_i t ht
    have hy:=nC ha hd ht
    have mP:mW P ops true i o d want t E w H Kn:=by
     cases t
     .exact h
     .exact h
    unfold mW at mP
    cases hb:(t==want) with
    |true=>
     rw [hb] at mP
     exact m9 hn ho dP (λ_ _ _=>rfl) (ha.same ht) hH (by simp [Region.wanted,hg,hy];simpa using hb) mP next
    |false=>
     rw [hb] at mP
     simp only [cond_false] at mP
     refine kG hn ho dP (λ_ _ _=>rfl) hH (by simp [Region.wanted,hg,hy];simpa using hb) ?_
     refine next _ _ _ _ ((ha.same ht).put undef (dU hn ho)) ?_ mP
     intro p hp
     cases KG:calm P o
     .rw [KG] at hp;exact hH p (cT.1 hp).1
     .rw [KG] at hp;exact hH p hp
   .rename_i vs ht
    have hy:=jB ha hd ht
    refine kG hn ho dP (λ_ _ _=>rfl) hH (by simp [Region.wanted,hg,hy]) ?_
    refine next _ _ _ _ (ha.put undef (dU hn ho)) ?_ h
    intro p hp
    cases KG:calm P o
    .rw [KG] at hp;exact hH p (cT.1 hp).1
    .rw [KG] at hp;exact hH p hp
   .exact h.elim
theorem Qb (hn:gI n ops=true) {i:Nat} {o:Oper} {E:Env} {w:World} {H:mq} {a:Act} {Kn:Env->World->mq->Prop} {listed:Array Bool} {fuel:Nat} (ho:ops[i]? =some o)
  (hc:calm P o=false) (ha:Ag n a E) (hH:∀p∈H,p.2 w) (h:zI P ops i E w H Kn)
  (next:∀a' E' w' H',Ag n a' E'->(∀p∈H',p.2 w')->Kn E' w' H'->dL P ops (g9 n K) fuel H' (listed.setIfInBounds i true) a' w'):
  wpOp P ops (g9 n K) i (λa' w'=>(∀p∈eV ops i H,p.2 w')/\dL P ops (g9 n K) fuel (eV ops i H) (listed.setIfInBounds i true) a' w') a w:=by
 unfold zI at h
 rw [ho] at h
 simp only at h
 have hHd:∀p∈eV ops i H,p.2 w:=λp hp=>hH p (cT.1 hp).1
 cases hg:o.guard with
 |none=>
  rw [hg] at h
  simp only at h
  exact JX hn ho hc ha (by simp [Region.wanted,hg]) h next
 |some jw=>
  obtain ⟨j,want⟩:=jw
  rw [hg] at h
  simp only at h
  cases hd:qn ops j with
  |none=>rw [hd] at h;exact h.elim
  |some d=>
   rw [hd] at h
   simp only at h
   split at h
   .rename_i t ht
    have hy:=nC ha hd ht
    have mP:mW P ops true i o d want t E w H Kn:=by
     cases t
     .exact h
     .exact h
    unfold mW at mP
    cases hb:(t==want) with
    |true=>
     rw [hb] at mP
     exact JX hn ho hc (ha.same ht) (by simp [Region.wanted,hg,hy];simpa using hb) mP next
    |false=>
     rw [hb,hc] at mP
     simp only [cond_false] at mP
     exact DJ ho hH (by simp [Region.wanted,hg,hy];simpa using hb) (next _ _ _ _ ((ha.same ht).put undef (dU hn ho)) hHd mP)
   .rename_i vs ht
    have hy:=jB ha hd ht
    rw [hc] at h
    simp only [cond_false] at h
    exact DJ ho hH (by simp [Region.wanted,hg,hy]) (next _ _ _ _ (ha.put undef (dU hn ho)) hHd h)
   .exact h.elim
theorem AH:∀(t:Tr) (listed:Array Bool),ky P ops t true listed=true->∃m,t.len=m+1
 |.nil,listed,h=>by simp [ky] at h
 |.one i t,listed,_=>⟨t.len,rfl⟩
 |.fork a b,listed,h=>by
  unfold ky at h
  simp only [Bool.and_eq_true] at h
  exact AH a listed h.2.2.1
theorem vn:∀(t:Tr) (listed:Array Bool),ky P ops t true listed=true->t.pJ≠[]
 |.nil,listed,h=>by simp [ky] at h
 |.one i t,listed,_=>by simp [Tr.pJ]
 |.fork a b,listed,h=>by
  unfold ky at h
  simp only [Bool.and_eq_true] at h
  have:=vn a listed h.2.2.1
  simp [Tr.pJ,this]
theorem qx (hn:gI n ops=true):∀(t:Tr) (alt:Bool) (listed:Array Bool) (E:Env) (w:World) (H:mq) (a:Act) (m:Nat),ky P ops t alt listed=true->Ag n a E->(∀p∈H,p.2 w)->sh P ops K t E w H->
  (alt=false->t.len=m->dL P ops (g9 n K) m H listed a w)/\
  (alt=true->t.len=m+1->∀i∈t.pJ,wpOp P ops (g9 n K) i (λa' w'=>(∀p∈eV ops i H,p.2 w')/\dL P ops (g9 n K) m (eV ops i H) (listed.setIfInBounds i true) a' w') a w)
 |.nil,alt,listed,E,w,H,a,m,dP,ha,hH,h=>by
  unfold ky at dP
  rw [Bool.and_eq_true] at dP
  refine ⟨λ_ hm=>?_,λe=>?_⟩
  .subst hm
   exact λ_=>⟨by simpa using dP.2,E,ha,h⟩
  .subst e;simp at dP
 |.one i t,alt,listed,E,w,H,a,m,dP,ha,hH,h=>by
  unfold ky at dP
  rw [Bool.and_eq_true] at dP
  obtain ⟨dP,we⟩:=dP
  cases ho:ops[i]? with
  |none=>rw [ho] at dP;cases dP
  |some o=>
   rw [ho] at dP
   simp only at dP
   unfold sh at h
   refine ⟨λe hm=>?_,λe hm j hj=>?_⟩
   .subst e hm
    exact Nm hn ho dP ha hH h λa' E' w' H' hA PZ hR=>(qx hn t false _ E' w' H' a' _ we hA PZ hR).1 rfl rfl
   .subst e
    rw [cond_true] at dP
    obtain rfl:=Ws.1 hj
    have KI:t.len=m:=by simpa [Tr.len] using hm
    exact Qb hn ho (by simpa using dP) ha hH h λa' E' w' H' hA PZ hR=>(qx hn t false _ E' w' H' a' _ we hA PZ hR).1 rfl KI
 |.fork x y,alt,listed,E,w,H,a,m,dP,ha,hH,h=>by
  unfold ky at dP
  simp only [Bool.and_eq_true] at dP
  obtain ⟨hr,hl,hx,hy⟩:=dP
  rw [Nat.beq_eq] at hl
  unfold sh at h
  have both:∀k,x.len=k+1->∀i∈(Tr.fork x y).pJ,wpOp P ops (g9 n K) i (λa' w'=>(∀p∈eV ops i H,p.2 w')/\dL P ops (g9 n K) k (eV ops i H) (listed.setIfInBounds i true) a' w') a w:=λk hk i hi=>by
   rcases fS.1 hi with hi|hi
   .exact (qx hn x true listed E w H a k hx ha hH h.1).2 rfl hk i hi
   .exact (qx hn y true listed E w H a k hy ha hH h.2).2 rfl (hl▸hk) i hi
  refine ⟨λe hm=>?_,λ_ hm=>both m hm⟩
  subst e
  obtain ⟨k,hk⟩:=AH x listed hx
  have KI:m=k+1:=by rw [<-hm,<-hk];rfl
  subst KI
  have XL:Region.ready .any ops listed=(Tr.fork x y).pJ:=by simpa using hr
  have ie:(Tr.fork x y).pJ≠[]:=by have:=vn x listed hx;simp [Tr.pJ,this]
  exact λ_=>⟨λh0=>absurd (XL▸h0) ie,λi hi=>both k hk i (XL▸hi)⟩
theorem AP {c:Code} {id:Nat} {a:Act} {E:Env} {w:World} {t:Tr} (hm:P.follows .mixedOrders=true) (hc:c=.region id ops true) (hn:gI n ops=true)
  (hl:ky P ops t false (Array.replicate ops.size false)=true) (mH:t.len=ops.size) (ha:Ag n a E) (h:sh P ops K t E w.drew []):c.wpIn (FW n) 0 P (g9 n K) a w:=by
 subst hc
 have h1:=(qx hn t false _ E _ [] a _ hl ha (λp hp=>(by cases hp)) h).1 rfl mH
 have h2:=om _ [] _ _ _ (Down.zero _ _) h1
 refine wpIn_region_draw λt=>?_
 refine qy hn (λ⟨_,_,h⟩=>h) _ _ _ ?_
 simp only [Region.schedule,hm,Bool.true_or,if_true]
 exact wpAny_sound ops.size t _ a _ h2
def Ch (P:Program) (n:Nat) (c:Code) (t:Tr):Bool:=match c with
 |.region _ ops d=>d&&(P.follows .mixedOrders&&(gI n ops&&(ky P ops t false (Array.replicate ops.size false)&&Nat.beq t.len ops.size)))
 |_=>false
theorem WP.tree {c:Code} {Q:Exit->Act->World->Prop} {E:Env} {w:World} (t:Tr) (K:Env->World->Prop) (hc:Ch P n c t=true)
  (h:sh P (Code.ops c) K t E w.drew []) (hk:∀E' w' a',Ag n a' E'->K E' w'->Q .normal a' w'):WP P n c Q E w:=by
 unfold Ch at hc
 split at hc
 .rename_i id ops d
  simp only [Bool.and_eq_true] at hc
  obtain ⟨rfl,h2,h3,h4,h5⟩:=hc
  rw [Nat.beq_eq] at h5
  exact λa ha=>wpIn_mono (AP h2 rfl h3 h4 h5 ha h) λe a' w' he=>by
   cases e with
   |normal=>obtain ⟨E',hA,hK⟩:=he;exact hk E' w' a' hA hK
   |_=>exact he.elim
 .cases hc
end
section
variable {P:Program}
def lo (r:Loop) (st:LoopState) (pe:Option Code):Obj:=.loop {r with state:=st,pending:=pe}
structure L9 (r:Loop) (m:Nat) (ps:Array Tmp) (assign body:Code) (E:Env):Prop where
 ps:r.params=ps
 assign:r.assign=assign
 body:r.body=body
 size:r.tmps.size=m
 get:∀t v,E.get? t=some v->r.tmps[t]? =some v
def FI:Env->List Nat->List Value->Env
 |E,p::ps,v::vs=>FI ((p,v)::E) ps vs
 |E,_,_=>E
theorem JF {m l:Nat}:∀(ps:List Nat) (vs:List Value) (E:Env) (tmps:Array Value),tmps.size=m->(∀p∈ps,p<m)->(∀t v,E.get? t=some v->tmps[t]? =some v)->
  Ag ⟨m,[],some l⟩ {tmps:=(ps.zip vs).foldl (λt (p,v)=>t.setIfInBounds p v) tmps,defers:=[]} (FI E ps vs)
 |[],vs,E,tmps,hs,_,hE=>⟨rfl,by simpa using hs,by cases vs<;>simpa [FI] using hE⟩
 |p::ps,[],E,tmps,hs,_,hE=>⟨rfl,by simpa using hs,by simpa [FI] using hE⟩
 |p::ps,v::vs,E,tmps,hs,hp,hE=>by
  simp only [List.zip_cons_cons,List.foldl_cons,FI]
  refine JF ps vs _ _ (by simpa using hs) (λq hq=>hp q (by simp [hq])) ?_
  have:=(Ag.put (n:=⟨m,[],some l⟩) (a:={tmps:=tmps,defers:=[]}) (E:=E) ⟨rfl,hs,hE⟩ (d:=some p) v (λt ht=>by cases ht;exact hp p (by simp))).get
  simpa [Env.put,Act.put] using this
def xY (P:Program) (l:Nat) (args:Array Value) (w:World) (K:Bool->World->Prop):Prop:=
 YieldAt Fence.wide 0 P l args w λe w'=>∃b:Bool,e=.returned (.bool b)/\K b w'
def CB (P:Program) (m l:Nat) (r:Loop) (body:Code) (Q:Exit->Act->World->Prop):Exit->Act->World->Prop:=
 Exit.then (λa₁ w₁=>w₁.heap[l]? =some (lo r .ready none)/\AW P ⟨m,[],some l⟩ body Q a₁ (w₁.putObj l (lo r .busy none))) (λ_ _ _=>False)
theorem OT {m l:Nat} {r:Loop} {ps:Array Tmp} {assign body:Code} {E:Env} {args:List Value} {w:World} {R:Ending->World->Prop} {K:Bool->World->Prop} (hr:L9 r m ps assign body E) (hl:w.heap[l]? =some (lo r .ready none))
  (mH:args.length=ps.size) (lV:ps.toList.all (λp=>Nat.blt p m)=true) (hK:∀e w',R e w'->∃b:Bool,e=.returned (.bool b)/\K b w')
  (h:WP P ⟨m,[],some l⟩ assign (CB P m l r body (roundPost P l R)) (FI E ps.toList args) w):xY P l args.toArray w K:=by
 have l0:=run_yield (P:=P) (w:=w) (args:=args.toArray) hl (by simp [hr.ps,mH])
 refine ⟨_,_,_,_,l0,RoundIn.mono (roundIn_of_wpIn (R:=R) trivial ?_) hK⟩
 simp only [lo,hr.ps,hr.assign,hr.body]
 have Xm:Ag ⟨m,[],some l⟩ {tmps:=(ps.zip args.toArray).foldl (λt (p,v)=>t.setIfInBounds p v) r.tmps,defers:=[]} (FI E ps.toList args):=by
  have:=JF (m:=m) (l:=l) ps.toList args E r.tmps hr.size (λp hp=>by simpa using wD.1 lV p hp) hr.get
  rw [<-Array.foldl_toList]
  simpa using this
 refine wpIn_mono (h _ Xm) λe a' w' he=>?_
 cases e with
 |normal=>
  obtain ⟨h1,h2⟩:=he
  exact ⟨_,run_beginRound h1 rfl,h2⟩
 |_=>exact he.elim
theorem Le {l:Nat} {r:Loop} {a:Act} {w:World} {R:Ending->World->Prop} (hl:w.heap[l]? =some (lo r .busy none)) (h:R (.returned (.bool true)) (w.putObj l (lo r .ready none))):roundPost P l R .normal a w:=
 ⟨_,_,run_endRound none hl,h⟩
theorem Lf {l:Nat} {r:Loop} {a:Act} {w:World} {R:Ending->World->Prop} (hl:w.heap[l]? =some (lo r .busy none)) (h:R (.returned (.bool false)) (w.putObj l (lo r .done (some .ret)))):roundPost P l R .ret a w:=
 ⟨_,_,run_endRound (some .ret) hl,h⟩
abbrev marked (m D:Nat):Cx:=⟨m,[{target:=.collected D,args:=#[]}],none⟩
def vC (w2:World) (l:Nat) (o:LoopState->Option Code->Obj) (N:World->Prop) (X:Nat->World->Prop) (T:World->Prop):Prop:=
 (w2.heap[l]? =some (o .ready none)/\N (w2.putObj l (o .exhausted none)))\/
 (∃id,w2.heap[l]? =some (o .done (some (.exit id)))/\X id (w2.putObj l (o .exhausted (some (.exit id)))))\/
 (w2.heap[l]? =some (o .done (some .ret))/\T (w2.putObj l (o .exhausted (some .ret))))
theorem WP.range {m:Nat} {c:Code} {g:Operand} {ps:Array Tmp} {assign body:Code} {gf:Nat} {lb:Array Value} {Q:Exit->Act->World->Prop} {E:Env} {w:World} (N:World->Prop) (X:Nat->World->Prop) (T:World->Prop)
  (hc:c=.rangeFunc g ps assign body) (hg:E.val g=some (.func (.func gf) #[] lb)) (BW:fK P gf=true)
  (hN:∀w',N w'->∀a,Ag (marked m w.heap.size) a E->Q .normal a w') (hX:∀id w',X id w'->∀a,Ag (marked m w.heap.size) a E->Q (.exit id) a w') (hT:∀w',T w'->∀a,Ag (marked m w.heap.size) a E->Q .ret a w')
  (h:∀r:Loop,L9 r m ps assign body E->Calls P gf (#[.func (.yield (w.heap.size+1)) #[] #[]]++lb) ((w.alloc (.deferred (some []))).alloc (lo r .ready none)) λe w2=>(∃v,e=.returned v)/\vC w2 (w.heap.size+1) (lo r) N X T):
  WP P (cx m) c Q E w:=by
 subst hc
 intro a ha
 have Xm:Ag (marked m w.heap.size) {a with defers:=[{target:=.collected w.heap.size,args:=#[]}]++a.defers} E:=⟨by show _++a.defers=_;rw [ha.defers];rfl,ha.size,ha.get⟩
 have hgv:a.eval g=.func (.func gf) #[] lb:=ha.val hg
 refine wpIn_rangeFunc (F:=FW (cx m)) (n:=0) λfn _=>?_
 obtain ⟨r,hr⟩:∃r:Loop,r={state:=.ready,pending:=none,fn,tmps:=a.tmps,params:=ps,assign,body,defers:=w.heap.size}:=⟨_,rfl⟩
 have aaC:L9 r m ps assign body E:=by subst hr;exact ⟨rfl,rfl,rfl,ha.size,ha.get⟩
 have Xq:=h r aaC
 have e1:(Instr.enterLoop fn a.tmps ps assign body none).run P w=.ok (w.heap.size+1,[{target:=.collected w.heap.size,args:=#[]}]) ((w.alloc (.deferred (some []))).alloc (lo r .ready none)):=by
  rw [run_enterLoop_outer];subst hr;rfl
 generalize hW1:(w.alloc (.deferred (some []))).alloc (lo r .ready none)=W1 at *
 have e2:(resolve a.eval (rangeCall g (w.heap.size+1)) 0).run P W1=.ok {target:=.fn (.func gf) lb,args:=#[.func (.yield (w.heap.size+1)) #[] #[]]} W1:=by
  simp only [resolve,hgv]
  simp [go_sem]
 have e3:(invoke (.fn (.func gf) lb) #[.func (.yield (w.heap.size+1)) #[] #[]]).run P W1=.ok (.enter gf (#[.func (.yield (w.heap.size+1)) #[] #[]]++lb)) W1:=by
  simp [invoke,go_sem,mL BW]
 have e4:CallsIn (FW (cx m)) 0 P gf (#[.func (.yield (w.heap.size+1)) #[] #[]]++lb) W1 (rangePost (FW (cx m)) 0 P (w.heap.size+1) Q {a with defers:=[{target:=.collected w.heap.size,args:=#[]}]++a.defers}):=by
  refine zo (n:=cx m) (Xq.mono ?_)
  rintro e w2 ⟨⟨v,rfl⟩,aaq⟩
  rcases aaq with ⟨h1,h2⟩|⟨id,h1,h2⟩|⟨h1,h2⟩
  .exact ⟨_,_,run_endLoop (r:={r with state:=.ready,pending:=none}) h1 (by simp),hN _ h2 _ Xm⟩
  .exact ⟨_,_,run_endLoop (r:={r with state:=.done,pending:=some (.exit id)}) h1 (by simp),wpIn_exit (hX id _ h2 _ Xm)⟩
  .exact ⟨_,_,run_endLoop (r:={r with state:=.done,pending:=some .ret}) h1 (by simp),wpIn_ret (hT _ h2 _ Xm)⟩
 exact ⟨_,_,_,_,_,_,_,_,e1,e2,λ_ _=>trivial,e3,λh=>(by cases h),e4⟩
def Io (P:Program) (fn:Func) (E:Env) (w:World) (D:Nat) (R:aD):Prop:=
 w.heap[D]? =some (.deferred (some []))/\rC P fn E (w.putObj D (.deferred none)) λv=>R (.returned v) (w.putObj D (.deferred none))
theorem zU {fn:Func} {tmps:Array Value} {R:Ending->World->Prop} {w:World} {v:Value} (h:(results fn tmps).run P w=.ok v w) (hr:R (.returned v) w):LeavesInM Fence.wide 0 P fn tmps R [] .returning w:=by
 show LeavesIn _ _ _ _ _ _ _ _ _
 simp only [LeavesIn]
 exact ⟨v,h,hr⟩
theorem Im {m:Nat} {fn:Func} {a:Act} {E:Env} {w:World} {R:aD} (ha:Ag (cx m) a E) (h:rC P fn E w λv=>R (.returned v) w):LeavesInM Fence.wide 0 P fn a.tmps R a.defers .returning w:=by
 obtain ⟨v,h1,h2⟩:=xN ha h
 rw [ha.defers]
 exact zU h1 h2
theorem r9 {m D:Nat} {fn:Func} {a:Act} {E:Env} {w:World} {R:aD} (ha:Ag (marked m D) a E) (h:Io P fn E w D R):LeavesInM Fence.wide 0 P fn a.tmps R a.defers .returning w:=by
 obtain ⟨h0,h⟩:=h
 obtain ⟨v,h1,h2⟩:=xN (n:=marked m D) ha h
 rw [ha.defers]
 exact ⟨by simp,.inl ⟨D,_,rfl,run_takeDeferred h0,zU h1 h2⟩⟩
theorem CT {f:FuncId} {fn:Func} {c:Code} {args:List Value} {w:World} {R:Ending->World->Prop} (hf:P.funcs[f]? =some fn) (hb:fn.body=some c) (mH:Nat.ble args.length fn.ntmps=true)
  (h:WP P (cx fn.ntmps) c (bodyPostM Fence.wide 0 P fn R) (sy 0 args) w):Calls P f args.toArray w R:=by
 have hs:=Nat.le_of_ble_eq_true mH
 refine callsIn_wide.1 (callsIn_of_wp_marks (n:=0) hf hb trivial (h _ ⟨rfl,by simp;omega,?_⟩))
 intro t v ht
 have:=(xk args 0 t v ht).2
 have lV:t<args.length:=(ov.1 this).1
 rw [Array.getElem?_append_left (by simpa using lV)]
 simpa using this
def CK (v:Option Value) (K:Nat->Prop):Prop:=match v with |some (.func (.yield l) fs cs)=>hU (Nat.beq fs.size 0&&Nat.beq cs.size 0) (K l)|_=>False
theorem CL {v:Option Value} {K:Nat->Prop} (h:CK v K):∃l,v=some (.func (.yield l) #[] #[])/\K l:=by
 unfold CK at h
 split at h
 .rename_i l fs cs
  obtain ⟨hb,hk⟩:=bX h
  simp only [Bool.and_eq_true,Nat.beq_eq] at hb
  have e1:fs=#[]:=Array.eq_empty_of_size_eq_zero hb.1
  have e2:cs=#[]:=Array.eq_empty_of_size_eq_zero hb.2
  subst e1 e2
  exact ⟨l,rfl,hk⟩
 .exact h.elim
end
abbrev _root_.Go.Code.sn (c:Code):Code:=Code.snd c
abbrev _root_.Go.Code.fs (c:Code):Code:=Code.fst c
abbrev _root_.Go.Value.i (x:Int):Value:=.int .i64 x
abbrev _root_.Go.Value.u (x:Int):Value:=.int .u64 x
abbrev _root_.Go.Value.s0:Value:=.string (ByteArray.mk #[])
abbrev nb (w:World):Addr:=⟨w.heap.size,0,none⟩
section
variable {P:Program} {n:Cx} {Q:Exit->Act->World->Prop} {E:Env} {w:World} {K:Env->World->Prop}
def Zn (P:Program) (c:Code) (K:Env->World->Prop) (E:Env) (w:World):Prop:=mT P (Code.ops c) false K (List.range (Code.ops c).size) E w []
def tgK (P:Program) (c:Code) (t:Tr) (K:Env->World->Prop) (E:Env) (w:World):Prop:=sh P (Code.ops c) K t E w.drew []
abbrev yL (P:Program) (c:Code) (K:Env->World->Prop) (E:Env) (w:World):Prop:=Zn P (Code.fst c) K E w
abbrev stK (P:Program) (c:Code) (t:Tr) (K:Env->World->Prop) (E:Env) (w:World):Prop:=tgK P (Code.fst c) t K E w
def Fb:Code->Bool
 |.seq _ _=>true
 |_=>false
theorem DH {c:Code} (h:Fb c=true):c=.seq (Code.fst c) (Code.snd c):=by cases c<;>first |rfl|cases h
theorem wZ {a b:Bool} (h:(a&&b)=true):a=true/\b=true:=by simpa using h
theorem rg (c:Code) (hc:Il n c=true) (h:Zn P c K E w) (hk:∀E' w' a',Ag n a' E'->K E' w'->Q .normal a' w'):WP P n c Q E w:=WP.Tj K hc h hk
theorem sr (c:Code) (h:yL P c K E w) (hk:∀E' w',K E' w'->WP P n (Code.snd c) Q E' w') (hc:(Fb c&&Il n (Code.fst c))=true:=by kernel_rfl):WP P n c Q E w:=
 WP.seq (DH (wZ hc).1) (WP.Tj K (wZ hc).2 h λE' w' a' hA hK=>hk E' w' hK a' hA)
theorem st (c:Code) {t:Tr} (hc:(Fb c&&Ch P n (Code.fst c) t)=true) (h:stK P c t K E w) (hk:∀E' w',K E' w'->WP P n (Code.snd c) Q E' w'):WP P n c Q E w:=
 WP.seq (DH (wZ hc).1) (WP.tree t K (wZ hc).2 h λE' w' a' hA hK=>hk E' w' hK a' hA)
theorem sq (c:Code) (h:WP P n (Code.fst c) (Exit.then (AW P n (Code.snd c) Q) Q) E w) (hc:Fb c=true:=by kernel_rfl):WP P n c Q E w:=WP.seq (DH hc) h
theorem bk (c:Code) (id:Nat) (hc:c=.block id (Code.fst c)) (h:WP P n (Code.fst c) (Exit.inBlock id Q) E w):WP P n c Q E w:=WP.block hc h
theorem cn (c:Code) {o:Operand} {A B:Prop} (h:qk (E.val o) A B) (h1:A->WP P n (Code.fst c) Q E w) (h2:B->WP P n (Code.snd c) Q E w) (hc:c=.cond o (Code.fst c) (Code.snd c):=by kernel_rfl):WP P n c Q E w:=WP.qk hc h1 h2 h
theorem sk (c:Code) (h:∀a,Ag n a E->Q .normal a w) (hc:c=.skip:=by kernel_rfl):WP P n c Q E w:=WP.skip hc h
theorem xt (c:Code) (id:Nat) (hc:c=.exit id) (h:∀a,Ag n a E->Q (.exit id) a w):WP P n c Q E w:=WP.exit hc h
theorem rt (c:Code) (h:∀a,Ag n a E->Q .ret a w) (hc:c=.ret:=by kernel_rfl):WP P n c Q E w:=WP.ret hc h
theorem lp (c:Code) (hc:c=.loop (Code.fst c)) (h:LP P n (Code.fst c) Q E w):WP P n c Q E w:=WP.loop hc h
theorem nx {c:Code} {a:Act} (ha:Ag n a E) (h:WP P n c Q E w):Exit.then (AW P n c Q) Q .normal a w:=h a ha
end
open Go.RowKit
structure Fr (M:Nat->Prop) (w w':World):Prop where
 os:w'.os=w.os
 tape:w'.tape=w.tape
 output:w'.output=w.output
 size:w.heap.size<=w'.heap.size
 gY:∀b,b<w.heap.size->¬M b->w'.heap[b]? =w.heap[b]?
theorem Fr.refl (M:Nat->Prop) (w:World):Fr M w w:=⟨rfl,rfl,rfl,Nat.le_refl _,λ_ _ _=>rfl⟩
theorem Fr.trans {M M':Nat->Prop} {a b c:World} (h:Fr M a b) (k:Fr M' b c) (hm:∀x,x<a.heap.size->M' x->M x):Fr M a c:=
 ⟨k.os.trans h.os,k.tape.trans h.tape,k.output.trans h.output,Nat.le_trans h.size k.size,
  λx hx hn=>(k.gY x (Nat.lt_of_lt_of_le hx h.size) (λe=>hn (hm x hx e))).trans (h.gY x hx hn)⟩
theorem Fr.mono {M M':Nat->Prop} {a b:World} (h:Fr M a b) (hm:∀x,x<a.heap.size->M x->M' x):Fr M' a b:=
 ⟨h.os,h.tape,h.output,h.size,λx hx hn=>h.gY x hx (λe=>hn (hm x hx e))⟩
theorem Fr.drew (M:Nat->Prop) (w:World):Fr M w w.drew:=⟨rfl,rfl,rfl,Nat.le_refl _,λ_ _ _=>rfl⟩
theorem Fr.alloc (M:Nat->Prop) (w:World) (o:Obj):Fr M w (w.alloc o):=⟨rfl,rfl,rfl,by simp,λk hk _=>_root_.Go.heap_alloc_old w o k hk⟩
theorem Fr.set {M:Nat->Prop} (w:World) (p:Addr) (v:Value) (h:M p.block):Fr M w (w.setCell p v):=
 ⟨rfl,rfl,rfl,by simp [World.setCell],λk _ hn=>Below.heap_setCell w p v k (λe=>hn (e▸h))⟩
theorem Fr.grown {M:Nat->Prop} {w w':World} {r:Option Nat} (h:w.grownBy w' r) (hm:∀b,r=some b->M b):Fr M w w':=
 ⟨h.os,h.tape,h.output,h.size,λb hb hn=>h.block b hb (λe=>hn (hm b e.symm))⟩
theorem Fr.setObj {M:Nat->Prop} (w:World) (r:Nat) (o:Obj) (h:M r):Fr M w {w with heap:=w.heap.setIfInBounds r o}:=
 ⟨rfl,rfl,rfl,by simp,λk _ hn=>by
  have:r≠k:=λe=>hn (e▸h)
  simp [Array.getElem?_setIfInBounds_ne this]⟩
theorem Fr.below {w w':World} (h:Fr (λ_=>False) w w'):Below w.heap.size w w':=⟨h.os,h.tape,h.output,h.size,λk hk=>h.gY k hk (λe=>e)⟩
theorem Fr.at {M:Nat->Prop} {w w':World} (h:Fr M w w') {b:Nat} {o:Obj} (hb:w.heap[b]? =some o) (hn:¬M b):w'.heap[b]? =some o:=
 (h.gY b (Array.getElem?_eq_some_iff.1 hb).1 hn).trans hb
theorem gq {w:World} {b:Nat} {o:Obj} (hb:w.heap[b]? =some o):b<w.heap.size:=(Array.getElem?_eq_some_iff.1 hb).1
theorem mO (w:World) (o:Obj):(w.alloc o).heap[w.heap.size]? =some o:=_root_.Go.heap_alloc_new w o
theorem size_alloc (w:World) (o:Obj):(w.alloc o).heap.size=w.heap.size+1:=by simp
theorem cellAt {w:World} {p:Addr} {cs:Array Value} {T:TypeId} {f:Nat×Nat} {i:Nat} {v:Value} (h:w.heap[p.block]? =some (.cells cs T f)) (hs:p.spot=none) (hi:cs[p.off+i]? =some v):
  w.cell? (p.add i)=some v:=by
 unfold Addr.add
 split
 .rename_i h0
  subst h0
  simp [World.cell?,h,hs]
  simpa using hi
 .simp [World.cell?,h,hi]
theorem frozenAt {w:World} {p:Addr} {cs:Array Value} {T:TypeId} {i:Nat} (h:w.heap[p.block]? =some (.cells cs T (0,0))):w.frozen? (p.add i)=false:=by
 unfold Addr.add
 split<;>simp [World.frozen?,h]
theorem setAt {w:World} {p:Addr} {cs:Array Value} {T:TypeId} {f:Nat×Nat} {i:Nat} {v:Value} (h:w.heap[p.block]? =some (.cells cs T f)) (hs:p.spot=none):
  (w.setCell (p.add i) v).heap[p.block]? =some (.cells (cs.setIfInBounds (p.off+i) v) T f):=by
 have hb:(p.add i).block=p.block:=by unfold Addr.add;split<;>rfl
 have hsp:(p.add i).spot=none:=by unfold Addr.add;split<;>simp [hs]
 have ho:(p.add i).off=p.off+i:=by unfold Addr.add;split<;>simp_all
 simp [World.setCell,hb,h,hsp,ho,Array.getElem?_modify]
theorem gP (p:Addr) (i:Nat):(p.add i).block=p.block:=by unfold Addr.add;split<;>rfl
def aZ (s:Sl):List Nat:=match s.a with |some p=>[p.block]|none=>[]
def Row (w:World) (T:TypeId) (s:Sl) (vs:List Value):Prop:=
 (s.a=none/\s.n=0/\s.c=0/\vs=[])\/∃b o cs f,s.a=some ⟨b,o,none⟩/\w.heap[b]? =some (.cells cs T f)/\∀i v,vs[i]? =some v->cs[o+i]? =some v
theorem Row.nil (w:World) (T:TypeId):Row w T ⟨none,0,0⟩ []:=.inl ⟨rfl,rfl,rfl,rfl⟩
theorem Row.gY {w w':World} {T:TypeId} {s:Sl} {vs:List Value} (h:Row w T s vs) (hk:∀b∈aZ s,b<w.heap.size->w'.heap[b]? =w.heap[b]?):Row w' T s vs:=by
 rcases h with h|⟨b,o,cs,f,ha,hb,hc⟩
 .exact .inl h
 .exact .inr ⟨b,o,cs,f,ha,(hk b (by simp [aZ,ha]) (gq hb)).trans hb,hc⟩
theorem Row.fr {M:Nat->Prop} {w w':World} {T:TypeId} {s:Sl} {vs:List Value} (h:Row w T s vs) (hf:Fr M w w') (hn:∀b∈aZ s,¬M b):Row w' T s vs:=
 h.gY λb hb hl=>hf.gY b hl (hn b hb)
theorem Row.lt {w:World} {T:TypeId} {s:Sl} {vs:List Value} (h:Row w T s vs):∀b∈aZ s,b<w.heap.size:=by
 rcases h with ⟨ha,_⟩|⟨b,o,cs,f,ha,hb,hc⟩
 .simp [aZ,ha]
 .simp [aZ,ha];exact gq hb
theorem Row.cell {w:World} {T:TypeId} {s:Sl} {vs:List Value} {i:Nat} {v:Value} (h:Row w T s vs) (hi:vs[i]? =some v):∃p,s.a=some p/\w.cell? (p.add i)=some v:=by
 rcases h with ⟨_,_,_,rfl⟩|⟨b,o,cs,f,ha,hb,hc⟩
 .cases hi
 .exact ⟨_,ha,cellAt (p:=⟨b,o,none⟩) hb rfl (hc i v hi)⟩
theorem Row.aW {w:World} {T:TypeId} {s:Sl} {vs:List Value} {i:Nat} {v:Value} {K:Addr->Prop} (h:Row w T s vs) (hi:vs[i]? =some v) (hk:∀p,s.a=some p->(∀(j:Nat) (u:Value),vs[j]? =some u->w.cell? (p.add j)=some u)->K p):W.aW s.a K:=by
 rcases h with ⟨_,_,_,rfl⟩|⟨b,o,cs,f,ha,hb,hc⟩
 .cases hi
 .rw [ha]
  exact hk _ ha λj u hj=>cellAt (p:=⟨b,o,none⟩) hb rfl (hc j u hj)
def aO (w:World) (e:TypeId) (sz:Nat) (s:Sl) (xs:List Value):Prop:=w.ownsRow 0 e sz s.v s.n xs
theorem aO.nil (w:World) (e:TypeId) (sz:Nat):aO w e sz ⟨none,0,0⟩ []:=World.ownsRow_nil w 0 e sz
theorem aO.len {w:World} {e:TypeId} {sz:Nat} {s:Sl} {xs:List Value} (h:aO w e sz s xs):xs.length=s.n *sz:=h.1
theorem aO.cases {w:World} {e:TypeId} {sz:Nat} {s:Sl} {xs:List Value} (h:aO w e sz s xs):
  (s=⟨none,0,0⟩/\xs=[])\/∃g cur,s.a=some ⟨g,0,none⟩/\w.heap[g]? =some (.cells cur e (0,0))/\s.n<=s.c/\s.c<=maxLen/\cur.size=s.c *sz/\cur.toList.take (s.n *sz)=xs:=by
 obtain ⟨a,n,c⟩:=s
 obtain ⟨hl,h⟩:=h
 rcases h with ⟨h1,h2⟩|⟨g,cap,cur,h1,_,h2,h3,h4,h5,h6⟩
 .cases h1
  exact .inl ⟨rfl,Wr (by simpa using hl)⟩
 .cases h1
  exact .inr ⟨g,cur,rfl,h2,h3,h4,h5,h6⟩
theorem aO.row {w:World} {e:TypeId} {sz:Nat} {s:Sl} {xs:List Value} (h:aO w e sz s xs):Row w e s xs:=by
 rcases h.cases with ⟨rfl,rfl⟩|⟨g,cur,ha,hg,_,_,_,ht⟩
 .exact .inl ⟨rfl,rfl,rfl,rfl⟩
 .refine .inr ⟨g,0,cur,(0,0),ha,hg,λi v hi=>?_⟩
  rw [<-ht,Vv] at hi
  split at hi
  .simpa using hi
  .cases hi
theorem aO.gY {w w':World} {e:TypeId} {sz:Nat} {s:Sl} {xs:List Value} (h:aO w e sz s xs) (hk:∀b∈aZ s,b<w.heap.size->w'.heap[b]? =w.heap[b]?):aO w' e sz s xs:=by
 obtain ⟨hl,h⟩:=h
 refine ⟨hl,?_⟩
 rcases h with h|⟨g,cap,cur,h1,h2,h3,r⟩
 .exact .inl h
 .have ha:s.a=some ⟨g,0,none⟩:=(Value.slice.inj h1).1
  exact .inr ⟨g,cap,cur,h1,h2,(hk g (by simp [aZ,ha]) (gq h3)).trans h3,r⟩
theorem aO.fr {M:Nat->Prop} {w w':World} {e:TypeId} {sz:Nat} {s:Sl} {xs:List Value} (h:aO w e sz s xs) (hf:Fr M w w') (hn:∀b∈aZ s,¬M b):aO w' e sz s xs:=
 h.gY λb hb hl=>hf.gY b hl (hn b hb)
theorem aO.lt {w:World} {e:TypeId} {sz:Nat} {s:Sl} {xs:List Value} (h:aO w e sz s xs):∀b∈aZ s,b<w.heap.size:=h.row.lt
theorem aO.made (w:World) (e:TypeId) (sz n:Nat) (cs:List Value) (hc:cs.length=n *sz) (hn:n<=maxLen):aO (w.alloc (.cells cs.toArray e)) e sz ⟨some ⟨w.heap.size,0,none⟩,n,n⟩ cs:=
 ⟨hc,.inr ⟨w.heap.size,n,cs.toArray,rfl,Nat.zero_le _,mO w _,Nat.le_refl _,hn,by simpa using hc,by rw [<-hc];simp⟩⟩
theorem Row.made (w:World) (e:TypeId) (n c:Nat) (cs:List Value):Row (w.alloc (.cells cs.toArray e)) e ⟨some ⟨w.heap.size,0,none⟩,n,c⟩ cs:=
 .inr ⟨w.heap.size,0,cs.toArray,(0,0),rfl,mO w _,λi v hi=>by simpa using hi⟩
theorem vd (s:Sl):s.v.ownBlock=s.a.map (·.block):=by
 obtain ⟨a,n,c⟩:=s
 cases a<;>rfl
structure iy (P:Program) (t e:TypeId) (z:Value) (sz bytes:Nat):Prop where
 ht:P.underlying t=some (.slice e)
 hi:(P.info? e).map (λi=>(i.zero,i.size,i.bytes))=some (some z,sz,bytes)
 hz:z.cells.size=sz
 hs:0<sz
 hb:0<bytes
theorem Ud {P:Program} {t ty e:TypeId} {z:Value} {sz bytes:Nat} (el:iy P t e z sz bytes) {w:World} {s src:Sl} {xs news:List Value}
  {T:TypeId} (ho:aO w e sz s xs) (hr:Row w T src news) (hl:news.length=src.n *sz) (h1:∀u∈news,u.oneCell'=true) (hb:(s.n+src.n) *bytes<=140737488355328):
  ∃s' w',(Builtin.append_ #[t,t] ty #[s.v,src.v]).run P w=.ok s'.v w'/\aO w' e sz s' (xs++news)/\s'.n=s.n+src.n/\Fr (λb=>b∈aZ s) w w'/\
   (∀b∈aZ s',b∈aZ s\/w.heap.size<=b)/\(s'.a=none->s.a=none/\src.n=0):=by
 obtain ⟨i,hi,hz,mH,Je⟩:=info_parts el.hi
 have BV:s.n+src.n<=140737488355328:=by
  have:=Nat.le_mul_of_pos_right (s.n+src.n) el.hb
  omega
 rcases hr with ⟨ha,hn,hc,rfl⟩|⟨b,o,cs,f,ha,Xo,hcs⟩
 .
  obtain ⟨sa,sn,sc⟩:=src
  simp only at ha hn hc
  subst ha hn hc
  have:=run_append_owned_none (P:=P) (w:=w) 0 t ty e i sz el.ht hi s.v s.n xs ho
  refine ⟨s,w,this,by simpa using ho,by simp,Fr.refl _ _,λb hb=>.inl hb,λh=>⟨h,rfl⟩⟩
 .obtain ⟨sa,sn,sc⟩:=src
  simp only at ha hl hb BV
  subst ha
  have wc:∀j u,news[j]? =some u->w.cell? ((⟨b,o,none⟩:Addr).add j)=some u:=λj u hj=>cellAt (p:=⟨b,o,none⟩) Xo rfl (hcs j u hj)
  obtain ⟨v',w',l0,A9,Xv,KJ⟩:=run_append_own (P:=P) w 0 t ty e i z sz bytes el.ht hi hz mH Je el.hz el.hs s.v s.n xs ho ⟨b,o,none⟩ sn sc news hl wc h1 (by unfold maxLen;omega) hb (Nat.zero_le _)
  have hv:∃s':Sl,v'=s'.v/\s'.n=s.n+sn/\(s'.a=none->v'=.slice none 0 0):=by
   rcases A9.2 with ⟨h1,h2⟩|⟨g,cap,cur,h1,_⟩
   .exact ⟨⟨none,0,0⟩,h1,by show 0=_;omega,λ_=>h1⟩
   .exact ⟨⟨_,_,_⟩,h1,rfl,λh=>by cases h⟩
  obtain ⟨s',rfl,xw,U0⟩:=hv
  refine ⟨s',w',l0,?_,xw,?_,?_,?_⟩
  .unfold aO;rw [xw];exact A9
  .refine Fr.grown Xv λg hg=>?_
   rw [vd] at hg
   cases Ba:s.a with
   |none=>simp [Ba] at hg
   |some p=>simp [Ba] at hg;simp [aZ,Ba,hg]
  .
   intro g hg
   rcases ho.cases with ⟨rfl,rfl⟩|⟨g0,cur,Sr,Xu,XE,Y1,HD,O3⟩
   .
    obtain ⟨v2,w2,E2,E0,_,_⟩:=run_append_own (P:=P) w w.heap.size t ty e i z sz bytes el.ht hi hz mH Je el.hz el.hs (.slice none 0 0) 0 [] (World.ownsRow_nil w _ e sz) ⟨b,o,none⟩ sn sc news hl wc h1 (by unfold maxLen;omega) (by simpa using hb) (Nat.le_refl _)
    have e1:(Result.ok s'.v w':Result Value)=.ok v2 w2:=l0.symm.trans E2
    have e2:=(Result.ok.inj e1).1
    subst e2
    rcases E0.2 with ⟨h1,_⟩|⟨g2,WY,W3,h1,h2,_⟩
    .have:s'.a=none:=(Value.slice.inj h1).1
     simp [aZ,this] at hg
    .have:s'.a=some ⟨g2,0,none⟩:=(Value.slice.inj h1).1
     simp [aZ,this] at hg
     exact .inr (hg▸h2)
   .obtain ⟨sa0,Li,Oj⟩:=s
    simp only at Sr XE HD O3 hb BV
    subst Sr
    by_cases zK:Li+sn<=Oj
    .subst mH
     have rT:Li *i.size+news.length<=cur.size:=by rw [hl,HD,<-Nat.add_mul];exact Nat.mul_le_mul_right _ zK
     have Dl:=run_append_room (P:=P) w t ty e i el.ht hi g0 Li Oj cur Xu ⟨b,o,none⟩ sn sc news hl wc h1 zK rT
     have e1:=l0.symm.trans Dl
     have:s'.a=some ⟨g0,0,none⟩:=(Value.slice.inj (Result.ok.inj e1).1).1
     simp [aZ,this] at hg ⊢
     exact .inl hg
    .subst mH
     have holds:∀j u,xs[j]? =some u->w.cell? ((⟨g0,0,none⟩:Addr).add j)=some u:=World.ownsRow.cells (g:=g0) ho rfl
     have Dl:=run_append_grow (P:=P) w t ty e i z el.ht hi hz ⟨g0,0,none⟩ Li Oj xs ho.len holds ⟨b,o,none⟩ sn sc news hl wc (by omega) (by omega) (growslice_fits (by omega) (by rw [Je];exact hb))
     have e1:=l0.symm.trans Dl
     have:s'.a=some ⟨w.heap.size,0,none⟩:=(Value.slice.inj (Result.ok.inj e1).1).1
     simp [aZ,this] at hg
     exact .inr (by omega)
  .intro h
   have:=KJ.1 (U0 h)
   refine ⟨?_,this.2⟩
   exact (Value.slice.inj this.1).1
theorem Row.VT {w:World} {T:TypeId} {s:Sl} {vs:List Value} (h:Row w T s vs):∀b∈aZ s,∃cs f,w.heap[b]? =some (.cells cs T f):=by
 rcases h with ⟨ha,_⟩|⟨b,o,cs,f,ha,hb,hc⟩
 .simp [aZ,ha]
 .intro b' eG
  have hbb:b'=b:=by simpa [aZ,ha] using eG
  subst hbb
  exact ⟨cs,f,hb⟩
theorem Row.one (w:World) (e:TypeId) (cs:List Value):Row (w.alloc (.cells cs.toArray e)) e ⟨some ⟨w.heap.size,0,none⟩,1,1⟩ cs:=Row.made w e 1 1 cs
def q9 {α β:Type} (R:α->β->Prop):List α->List β->Prop
 |[],[]=>True
 |a::l,b::m=>R a b/\q9 R l m
 |_,_=>False
theorem q9.length {α β:Type} {R:α->β->Prop}:∀{l:List α} {m:List β},q9 R l m->l.length=m.length
 |[],[],_=>rfl
 |_::_,_::_,h=>by simp [q9.length h.2]
 |[],_::_,h=>h.elim
 |_::_,[],h=>h.elim
theorem q9.mono {α β:Type} {R R':α->β->Prop}:∀{l:List α} {m:List β},q9 R l m->(∀a∈l,∀b∈m,R a b->R' a b)->q9 R' l m
 |[],[],_,_=>trivial
 |_::_,_::_,h,k=>⟨k _ Bi _ Bi h.1,q9.mono h.2 λa ha b hb=>k a (lr _ ha) b (lr _ hb)⟩
 |[],_::_,h,_=>h.elim
 |_::_,[],h,_=>h.elim
theorem q9.append {α β:Type} {R:α->β->Prop}:∀{l:List α} {m:List β} {l':List α} {m':List β},q9 R l m->q9 R l' m'->q9 R (l++l') (m++m')
 |[],[],_,_,_,h'=>h'
 |_::_,_::_,_,_,h,h'=>⟨h.1,q9.append h.2 h'⟩
 |[],_::_,_,_,h,_=>h.elim
 |_::_,[],_,_,h,_=>h.elim
theorem q9.drop {α β:Type} {R:α->β->Prop}:∀(k:Nat) {l:List α} {m:List β},q9 R l m->q9 R (l.drop k) (m.drop k)
 |0,_,_,h=>h
 |_+1,[],[],_=>trivial
 |k+1,_::_,_::_,h=>q9.drop k h.2
 |_+1,[],_::_,h=>h.elim
 |_+1,_::_,[],h=>h.elim
theorem q9.get {α β:Type} {R:α->β->Prop}:∀{l:List α} {m:List β} {i:Nat} {a:α},q9 R l m->l[i]? =some a->∃b,m[i]? =some b/\R a b
 |_::_,b::_,0,_,h,e=>by simp at e;subst e;exact ⟨b,by simp,h.1⟩
 |_::_,_::_,i+1,a,h,e=>by simpa using q9.get h.2 (i:=i) (a:=a) (by simpa using e)
 |[],_,_,_,_,e=>by simp at e
 |_::_,[],_,_,h,_=>h.elim
def Bq (kd:IntKind) (es:Array MapEntry) (ms:List (Int×Value)):Prop:=es.toList.map (λe=>(e.key,e.val))=ms.map λp=>(Value.int kd p.1,p.2)
def xD (ms:List (Int×Value)) (k:Int):Option Value:=(ms.find? λp=>p.1==k).map (·.2)
theorem tf {kd:IntKind} {k:Int}:∀{es:List MapEntry} {ms:List (Int×Value)} {i:Nat},es.map (λe=>(e.key,e.val))=ms.map (λp=>(Value.int kd p.1,p.2))->
  Instr.findNow (.int kd) (.int kd k) es i=some ((ms.findIdx? λp=>p.1==k).bind λj=>(ms[j]?).map λp=>(i+j,p.2))
 |[],[],i,_=>rfl
 |[],_::_,_,h=>by simp at h
 |_::_,[],_,h=>by simp at h
 |e::es,p::ms,i,h=>by
  simp only [List.map_cons,List.cons.injEq,Prod.mk.injEq] at h
  obtain ⟨⟨h1,h2⟩,h3⟩:=h
  have ih:=tf (kd:=kd) (k:=k) (i:=i+1) h3
  unfold Instr.findNow
  simp only [h1,Instr.sameNow,if_true]
  by_cases hk:p.1=k
  .have e1:(k==p.1)=true:=by simp [hk]
   have e2:(p.1==k)=true:=by simp [hk]
   simp [e1,List.findIdx?_cons,e2,h2]
  .have e1:(k==p.1)=false:=by simp;exact λh=>hk h.symm
   have e2:(p.1==k)=false:=by simpa using hk
   simp only [e1,ih,List.findIdx?_cons,e2,Bool.false_eq_true,if_false]
   congr 1
   cases hf:ms.findIdx? (λp=>p.1==k) with
   |none=>simp
   |some j=>simp [Nat.add_assoc,Nat.add_comm 1 j]
theorem Fl {ms:List (Int×Value)} {k:Int} {i:Nat}:(((ms.findIdx? λp=>p.1==k).bind λj=>(ms[j]?).map λp=>(i+j,p.2)).map (·.2))=xD ms k:=by
 unfold xD
 induction ms generalizing i with
 |nil=>rfl
 |cons p ms ih=>
  by_cases hk:p.1=k
  .have e2:(p.1==k)=true:=by simp [hk]
   simp [List.findIdx?_cons,e2]
  .have e2:(p.1==k)=false:=by simpa using hk
   simp only [List.findIdx?_cons,e2,Bool.false_eq_true,if_false,List.find?_cons]
   rw [<-ih (i:=i+1)]
   cases hf:ms.findIdx? (λp=>p.1==k) with
   |none=>simp
   |some j=>simp [Function.comp_def]
structure L6 (P:Program) (T kt et:TypeId) (kd:IntKind) (z:Value):Prop where
 hT:P.underlying T=some (.map kt et)
 hk:P.underlying kt=some (.int kd)
 hz:(P.info? et).map (·.zero)=some (some z)
theorem vM {P:Program} {kt:TypeId} {kd:IntKind} (hk:P.underlying kt=some (.int kd)) (b:Bool) (k:Int) (w:World):(Instr.checkKey b 10000 kt (.int kd k)).run P w=.ok () w:=by
 unfold Instr.checkKey
 simp [run_underlying hk]
theorem uJ {P:Program} {et:TypeId} {z:Value} (hz:(P.info? et).map (·.zero)=some (some z)) (w:World):(zeroValue et).run P w=.ok z w:=by
 obtain ⟨i,hi,hzz⟩:=Option.map_eq_some_iff.1 hz
 simp [zeroValue,typeInfo,hi,hzz]
theorem Bf {P:Program} {T kt et:TypeId} {kd:IntKind} {z:Value} (mo:L6 P T kt et kd z) {w:World} {mb:Nat} {es:Array MapEntry} {clock:Nat} {ms:List (Int×Value)}
  (hm:w.heap[mb]? =some (.map es clock)) (wW:Bq kd es ms) (k:Int) (v:Value) (tj:xD ms k=none):
  ∃w' I4,(Instr.mapUpdate T (.map (some mb)) (.int kd k) v).run P w=.ok () w'/\w'.heap[mb]? =some (.map I4 (clock+1))/\Bq kd I4 (ms++[(k,v)])/\Fr (λb=>b=mb) w w'/\w'.heap.size=w.heap.size:=by
 have hf:=tf (k:=k) (i:=0) wW
 have hg:(getObj mb).run P w=.ok (.map es clock) w:=by simp [getObj,Sem.run,hm]
 have A6:=Fl (ms:=ms) (k:=k) (i:=0)
 have lV:=gq hm
 have hr:((ms.findIdx? λp=>p.1==k).bind λj=>(ms[j]?).map λp=>(0+j,p.2))=none:=by
  rw [tj] at A6;simpa using A6
 refine ⟨{w with heap:=w.heap.setIfInBounds mb (.map (es.push {key:=.int kd k,val:=v,born:=clock}) (clock+1))},es.push {key:=.int kd k,val:=v,born:=clock},?_,by simp [lV],?_,Fr.setObj w mb _ rfl,by simp⟩
 .unfold Instr.mapUpdate Instr.findKey
  simp only [Sem.run_bind,run_underlying mo.hT,Result.andThen_ok,hg,vM mo.hk,run_underlying mo.hk,hf,hr]
  simp [setObj,Sem.run,hm]
 .unfold Bq at wW ⊢
  simp [wW]
theorem Ca {P:Program} {t e:TypeId} {z:Value} {sz bytes:Nat} (el:iy P t e z sz bytes) (w:World) (n:Nat) (hb:n *bytes<=140737488355328):
  ∃w',(Instr.makeSlice t (.int .i64 (n:Int)) (.int .i64 (n:Int))).run P w=.ok (.slice (some ⟨w.heap.size,0,none⟩) n n) w'/\aO w' e sz ⟨some ⟨w.heap.size,0,none⟩,n,n⟩ (madeCells z.cells (n *sz)).toList/\Fr (λ_=>False) w w':=by
 obtain ⟨i,hi,hz,mH,Je⟩:=info_parts el.hi
 have Jf:n<=140737488355328:=by
  have:=Nat.le_mul_of_pos_right n el.hb
  omega
 obtain ⟨w',h1,h2,h3⟩:=run_make_full (P:=P) w 0 t e i z sz el.ht hi hz mH .i64 .i64 n (by rw [Je,Nat.mul_comm];omega) (by unfold maxLen;omega) (Nat.zero_le _)
 exact ⟨w',h1,h2,Fr.grown h3 λ_ h=>by cases h⟩
theorem Be (z:Value) (n:Nat) (hz:z.cells=#[z]):(madeCells z.cells (n *1)).toList=List.replicate n z:=by
 rw [hz]
 apply List.ext_getElem?
 intro i
 by_cases h:i<n
 .simp [madeCells,h,Nat.mod_one]
 .simp [madeCells,h]
abbrev bG (w w':World):Prop:=Fr (λ_=>False) w w'
abbrev bD (b:Nat):Addr:=⟨b,0,none⟩
def oR (b:UInt8):Value:=.int .u8 (b.toNat:Int)
def eI (n:Int):Value:=.int .i64 n
theorem Kg (bs:List UInt8):∀u∈bs.map oR,u.oneCell'=true:=by
 intro u hu;obtain ⟨b,_,rfl⟩:=pX.1 hu;rfl
theorem Fa (l:List Int):∀u∈l.map eI,u.oneCell'=true:=by
 intro u hu;obtain ⟨b,_,rfl⟩:=pX.1 hu;rfl
theorem Fr.AV {M:Nat->Prop} {a b c:World} (h:Fr M a b) (k:bG b c):Fr M a c:=h.trans k λ_ _ h=>h.elim
theorem Fr.of0 {M:Nat->Prop} {a b:World} (h:bG a b):Fr M a b:=h.mono λ_ _ h=>h.elim
theorem Fr.new {M:Nat->Prop} {a b:World} (h:Fr M a b) (hn:∀x,x<a.heap.size->¬M x):bG a b:=h.mono λx hx hm=>hn x hx hm
theorem pP {w:World} {p:Addr} {v:Value} (hc:w.cell? p=some v):p.block<w.heap.size:=by
 unfold World.cell? at hc
 cases e:w.heap[p.block]? with
 |none=>rw [e] at hc;simp at hc
 |some o=>exact (Array.getElem?_eq_some_iff.1 e).1
theorem PB {M:Nat->Prop} {w w':World} (h:Fr M w w') {p:Addr} {v:Value} (hc:w.cell? p=some v) (hn:¬M p.block):w'.cell? p=some v:=by
 have:=h.gY p.block (pP hc) hn
 unfold World.cell? at hc ⊢
 rw [this];exact hc
theorem add_add (p:Addr) (i j:Nat):(p.add i).add j=p.add (i+j):=by
 unfold Addr.add
 by_cases h1:i=0<;>by_cases h2:j=0<;>simp [h1,h2,Nat.add_assoc]
theorem uN (p:Addr):p.add 0=p:=by simp [Addr.add]
def o7 (w:World) (s:Sl) (vs:List Value):Prop:=(s.a=none->s.n=0/\s.c=0)/\∀i v,vs[i]? =some v->∃p,s.a=some p/\w.cell? (p.add i)=some v
theorem o7.nil (w:World):o7 w ⟨none,0,0⟩ []:=⟨λ_=>⟨rfl,rfl⟩,λi v h=>by simp at h⟩
theorem Row.MT {w:World} {T:TypeId} {s:Sl} {vs:List Value} (h:Row w T s vs):o7 w s vs:=by
 refine ⟨λha=>?_,λi v hi=>h.cell hi⟩
 rcases h with ⟨_,h1,h2,_⟩|⟨b,o,cs,f,hb,_⟩
 .exact ⟨h1,h2⟩
 .rw [ha] at hb;cases hb
theorem o7.fr {M:Nat->Prop} {w w':World} {s:Sl} {vs:List Value} (h:o7 w s vs) (hf:Fr M w w') (hn:∀b∈aZ s,¬M b):o7 w' s vs:=
 ⟨h.1,λi v hi=>by
  obtain ⟨p,hp,hc⟩:=h.2 i v hi
  exact ⟨p,hp,PB hf hc (by rw [gP];exact hn _ (by simp [aZ,hp]))⟩⟩
theorem o7.get {w:World} {s:Sl} {vs:List Value} (h:o7 w s vs) {i j:Nat} {v:Value} (hi:vs[i]? =some v) (hj:j=i *1) {K:Addr->Prop} (hk:∀p,s.a=some p->w.cell? (p.add j)=some v->K p):W.aW s.a K:=by
 obtain ⟨p,hp,hc⟩:=h.2 i v hi
 rw [hp]
 rw [Nat.mul_one] at hj;subst hj
 exact hk p hp hc
def sub (s:Sl) (l h:Nat):Sl:=⟨if s.c=l then s.a else s.a.map (·.add (l *1)),h - l,s.c - l⟩
theorem o7.sub {w:World} {s:Sl} {vs:List Value} (h:o7 w s vs) (l hi:Nat) (h1:vs.length<=s.n) (h2:s.n<=s.c) (hl:l<=hi) (hh:hi<=s.c):o7 w (sub s l hi) ((vs.take hi).drop l):=by
 refine ⟨λha=>?_,λi v hv=>?_⟩
 .have:s.a=none:=by
   unfold W.sub at ha
   simp only at ha
   split at ha
   .exact ha
   .simpa using ha
  obtain ⟨e1,e2⟩:=h.1 this
  unfold W.sub
  simp only
  omega
 .rw [List.getElem?_drop,Vv] at hv
  split at hv
  .rename_i lV
   obtain ⟨p,hp,hc⟩:=h.2 _ _ hv
   have hlen:=(ov.1 hv).1
   unfold W.sub
   simp only [hp]
   rw [if_neg (by omega)]
   exact ⟨_,rfl,by rw [add_add,Nat.mul_one];exact hc⟩
  .cases hv
theorem qF {P:Program} {t ty e:TypeId} {z:Value} {sz bytes:Nat} (el:iy P t e z sz bytes) {w:World} {s src:Sl} {xs news:List Value}
  (ho:aO w e sz s xs) (hr:o7 w src news) (hl:news.length=src.n *sz) (h1:∀u∈news,u.oneCell'=true) (hb:(s.n+src.n) *bytes<=140737488355328):
  ∃s' w',(Builtin.append_ #[t,t] ty #[s.v,src.v]).run P w=.ok s'.v w'/\aO w' e sz s' (xs++news)/\s'.n=s.n+src.n/\Fr (λb=>b∈aZ s) w w'/\
   (∀b∈aZ s',b∈aZ s\/w.heap.size<=b)/\(s'.a=none->s.a=none/\src.n=0):=by
 obtain ⟨i,hi,hz,mH,Je⟩:=info_parts el.hi
 have BV:s.n+src.n<=140737488355328:=by
  have:=Nat.le_mul_of_pos_right (s.n+src.n) el.hb
  omega
 obtain ⟨sa,sn,sc⟩:=src
 cases sa with
 |none=>
  obtain ⟨e1,e2⟩:=hr.1 rfl
  simp only at e1 e2
  subst e1 e2
  have KJ:news=[]:=Wr (by simpa using hl)
  subst KJ
  have:=run_append_owned_none (P:=P) (w:=w) 0 t ty e i sz el.ht hi s.v s.n xs ho
  exact ⟨s,w,this,by simpa using ho,by simp,Fr.refl _ _,λb hb=>.inl hb,λh=>⟨h,rfl⟩⟩
 |some q=>
  simp only at hl hb BV
  have wc:∀j u,news[j]? =some u->w.cell? (q.add j)=some u:=λj u hj=>by
   obtain ⟨p,hp,hc⟩:=hr.2 j u hj
   cases hp;exact hc
  obtain ⟨v',w',l0,A9,Xv,KJ⟩:=run_append_own (P:=P) w 0 t ty e i z sz bytes el.ht hi hz mH Je el.hz el.hs s.v s.n xs ho q sn sc news hl wc h1 (by unfold maxLen;omega) hb (Nat.zero_le _)
  have hv:∃s':Sl,v'=s'.v/\s'.n=s.n+sn/\(s'.a=none->v'=.slice none 0 0):=by
   rcases A9.2 with ⟨h1,h2⟩|⟨g,cap,cur,h1,_⟩
   .exact ⟨⟨none,0,0⟩,h1,by show 0=_;omega,λ_=>h1⟩
   .exact ⟨⟨_,_,_⟩,h1,rfl,λh=>by cases h⟩
  obtain ⟨s',rfl,xw,U0⟩:=hv
  refine ⟨s',w',l0,?_,xw,?_,?_,?_⟩
  .unfold aO;rw [xw];exact A9
  .refine Fr.grown Xv λg hg=>?_
   rw [vd] at hg
   cases Ba:s.a with
   |none=>simp [Ba] at hg
   |some p=>simp [Ba] at hg;simp [aZ,Ba,hg]
  .intro g hg
   rcases ho.cases with ⟨rfl,rfl⟩|⟨g0,cur,Sr,Xu,XE,Y1,HD,O3⟩
   .obtain ⟨v2,w2,E2,E0,_,_⟩:=run_append_own (P:=P) w w.heap.size t ty e i z sz bytes el.ht hi hz mH Je el.hz el.hs (.slice none 0 0) 0 [] (World.ownsRow_nil w _ e sz) q sn sc news hl wc h1 (by unfold maxLen;omega) (by simpa using hb) (Nat.le_refl _)
    have e1:(Result.ok s'.v w':Result Value)=.ok v2 w2:=l0.symm.trans E2
    have e2:=(Result.ok.inj e1).1
    subst e2
    rcases E0.2 with ⟨h1,_⟩|⟨g2,WY,W3,h1,h2,_⟩
    .have:s'.a=none:=(Value.slice.inj h1).1
     simp [aZ,this] at hg
    .have:s'.a=some ⟨g2,0,none⟩:=(Value.slice.inj h1).1
     simp [aZ,this] at hg
     exact .inr (hg▸h2)
   .obtain ⟨sa0,Li,Oj⟩:=s
    simp only at Sr XE HD O3 hb BV
    subst Sr
    by_cases zK:Li+sn<=Oj
    .subst mH
     have rT:Li *i.size+news.length<=cur.size:=by rw [hl,HD,<-Nat.add_mul];exact Nat.mul_le_mul_right _ zK
     have Dl:=run_append_room (P:=P) w t ty e i el.ht hi g0 Li Oj cur Xu q sn sc news hl wc h1 zK rT
     have e1:=l0.symm.trans Dl
     have:s'.a=some ⟨g0,0,none⟩:=(Value.slice.inj (Result.ok.inj e1).1).1
     simp [aZ,this] at hg ⊢
     exact .inl hg
    .subst mH
     have holds:∀j u,xs[j]? =some u->w.cell? ((⟨g0,0,none⟩:Addr).add j)=some u:=World.ownsRow.cells (g:=g0) ho rfl
     have Dl:=run_append_grow (P:=P) w t ty e i z el.ht hi hz ⟨g0,0,none⟩ Li Oj xs ho.len holds q sn sc news hl wc (by omega) (by omega) (growslice_fits (by omega) (by rw [Je];exact hb))
     have e1:=l0.symm.trans Dl
     have:s'.a=some ⟨w.heap.size,0,none⟩:=(Value.slice.inj (Result.ok.inj e1).1).1
     simp [aZ,this] at hg
     exact .inr (by omega)
  .intro h
   have:=KJ.1 (U0 h)
   refine ⟨?_,this.2⟩
   exact (Value.slice.inj this.1).1
theorem aO.cap {w:World} {e:TypeId} {sz:Nat} {s:Sl} {xs:List Value} (h:aO w e sz s xs):s.n<=s.c:=by
 rcases h.cases with ⟨rfl,_⟩|⟨g,cur,_,_,h,_⟩
 .exact Nat.le_refl _
 .exact h
def Rd (w:World) (s:Sl) (vs:List Value):Prop:=s.n=vs.length/\s.n<=s.c/\o7 w s vs
def Ow (w:World) (e:TypeId) (s:Sl) (vs:List Value):Prop:=s.n=vs.length/\aO w e 1 s vs
theorem Ow.rd {w:World} {e:TypeId} {s:Sl} {vs:List Value} (h:Ow w e s vs):Rd w s vs:=⟨h.1,h.2.cap,h.2.row.MT⟩
theorem Rd.fr {M:Nat->Prop} {w w':World} {s:Sl} {vs:List Value} (h:Rd w s vs) (hf:Fr M w w') (hn:∀b∈aZ s,¬M b):Rd w' s vs:=⟨h.1,h.2.1,h.2.2.fr hf hn⟩
theorem Ow.fr {M:Nat->Prop} {w w':World} {e:TypeId} {s:Sl} {vs:List Value} (h:Ow w e s vs) (hf:Fr M w w') (hn:∀b∈aZ s,¬M b):Ow w' e s vs:=⟨h.1,h.2.fr hf hn⟩
theorem Rd.pI {w w':World} {s:Sl} {vs:List Value} (h:Rd w s vs) (hf:bG w w'):Rd w' s vs:=h.fr hf λ_ _ h=>h
theorem Ow.pI {w w':World} {e:TypeId} {s:Sl} {vs:List Value} (h:Ow w e s vs) (hf:bG w w'):Ow w' e s vs:=h.fr hf λ_ _ h=>h
theorem Rd.nil (w:World):Rd w ⟨none,0,0⟩ []:=⟨rfl,Nat.le_refl _,o7.nil w⟩
theorem Ow.nil (w:World) (e:TypeId):Ow w e ⟨none,0,0⟩ []:=⟨rfl,aO.nil w _ _⟩
theorem Ow.lt {w:World} {e:TypeId} {s:Sl} {vs:List Value} (h:Ow w e s vs):∀b∈aZ s,b<w.heap.size:=h.2.lt
theorem Ow.made (w:World) (e:TypeId) (cs:List Value) (n:Nat) (hn:n=cs.length) (hl:n<=1000000):Ow (w.alloc (.cells cs.toArray e)) e ⟨some ⟨w.heap.size,0,none⟩,n,n⟩ cs:=
 ⟨hn,aO.made w e 1 n cs (by omega) (by unfold maxLen;omega)⟩
theorem Rd.get {w:World} {s:Sl} {vs:List Value} (h:Rd w s vs) {i j:Nat} {v:Value} (hi:vs[i]? =some v) (hj:j=i *1) {K:Addr->Prop} (hk:∀p,s.a=some p->w.cell? (p.add j)=some v->K p):W.aW s.a K:=h.2.2.get hi hj hk
theorem Rd.sub {w:World} {s:Sl} {vs:List Value} (h:Rd w s vs) (l hi:Nat) (hl:l<=hi) (hh:hi<=vs.length):Rd w (sub s l hi) ((vs.take hi).drop l):=by
 have h1:=h.1
 have h2:=h.2.1
 refine ⟨?_,?_,h.2.2.sub l hi (by omega) h.2.1 hl (by omega)⟩
 .unfold W.sub;simp;omega
 .unfold W.sub;simp;omega
theorem Kd {t ty e:TypeId} {z:Value} {bytes:Nat} {P:Program} (el:iy P t e z 1 bytes) {w:World} {s src:Sl} {xs ys:List Value} (ho:Ow w e s xs) (hr:Rd w src ys) (h1:∀u∈ys,u.oneCell'=true) (hb:(xs.length+ys.length) *bytes<=140737488355328):
  ∃s' w',(Builtin.append_ #[t,t] ty #[s.v,src.v]).run P w=.ok s'.v w'/\Ow w' e s' (xs++ys)/\Fr (λb=>b∈aZ s) w w'/\(∀b∈aZ s',b∈aZ s\/w.heap.size<=b)/\(s'.a=none->s.a=none/\ys=[]):=by
 obtain ⟨s',w',g1,g2,g3,g4,g5,g6⟩:=qF (ty:=ty) el ho.2 hr.2.2 (by rw [hr.1];omega) h1 (by rw [ho.1,hr.1];exact hb)
 refine ⟨s',w',g1,⟨?_,g2⟩,g4,g5,λh=>⟨(g6 h).1,?_⟩⟩
 .rw [g3,ho.1,hr.1];simp
 .have:=(g6 h).2
  rw [hr.1] at this
  exact Wr this
theorem zC {α:Type} (f:α->List Value) (sz:Nat) (hf:∀a,(f a).length=sz):∀(cs:List α) (i j:Nat) (a:α),cs[i]? =some a->j<sz->(cs.flatMap f)[i *sz+j]? =(f a)[j]?
 |[],i,j,a,h,_=>by simp at h
 |c::cs,0,j,a,h,hj=>by
  simp at h
  subst h
  rw [vw,Nat.zero_mul,Nat.zero_add,List.getElem?_append_left (by rw [hf];exact hj)]
 |c::cs,i+1,j,a,h,hj=>by
  rw [vw,List.getElem?_append_right (by rw [hf,Nat.succ_mul];omega),hf,show (i+1) *sz+j - sz=i *sz+j by rw [Nat.succ_mul];omega]
  exact zC f sz hf cs i j a (by simpa using h) hj
theorem oS {α:Type} (f:α->List Value) (sz:Nat) (hf:∀a,(f a).length=sz) (cs:List α):(cs.flatMap f).length=cs.length *sz:=by
 induction cs with
 |nil=>simp
 |cons c cs ih=>rw [vw,List.length_append,ih,hf,List.length_cons,Nat.succ_mul];omega
theorem o7.elem {α:Type} {f:α->List Value} {sz:Nat} (hf:∀a,(f a).length=sz) (hs:0<sz) {w:World} {s:Sl} {cs:List α} (h:o7 w s (cs.flatMap f)) {i:Nat} {a:α} (hi:cs[i]? =some a) {K:Addr->Prop}
  (hk:∀p,s.a=some p->(∀j v,(f a)[j]? =some v->w.cell? ((p.add (i *sz)).add j)=some v)->K p):W.aW s.a K:=by
 obtain ⟨v0,Qo⟩:∃v,(f a)[0]? =some v:=⟨_,g8 (by rw [hf];exact hs)⟩
 obtain ⟨p,hp,_⟩:=h.2 (i *sz+0) v0 (by rw [zC f sz hf cs i 0 a hi hs];exact Qo)
 rw [hp]
 refine hk p hp λj v hv=>?_
 have hj:j<sz:=by have:=(ov.1 hv).1;rwa [hf] at this
 obtain ⟨q,hq,hc⟩:=h.2 (i *sz+j) v (by rw [zC f sz hf cs i j a hi hj];exact hv)
 rw [hp] at hq
 cases hq
 rw [add_add];exact hc
theorem JR {w:World} {b:Nat} {cs:Array Value} {T:TypeId} (h:w.heap[b]? =some (.cells cs T (0,0))) (i:Nat) (hi:i<cs.size) (v:Value):
  (w.cell? ((bD b).add i)).isSome=true/\w.frozen? ((bD b).add i)=false/\(w.setCell ((bD b).add i) v).heap[b]? =some (.cells (cs.setIfInBounds i v) T (0,0))/\Fr (·=b) w (w.setCell ((bD b).add i) v):=by
 refine ⟨?_,frozenAt (p:=bD b) h,?_,Fr.set _ _ _ (gP _ _)⟩
 .rw [cellAt (p:=bD b) (v:=cs[i]) h rfl (by simp [hi])];rfl
 .have:=setAt (p:=bD b) (i:=i) (v:=v) h rfl
  simpa using this
theorem Fr.put (w:World) (l:Nat) (o:Obj):Fr (·=l) w (w.putObj l o):=⟨rfl,rfl,rfl,by simp [World.putObj],λk _ hn=>by
 have:l≠k:=λe=>hn e.symm
 simp [World.putObj,Array.getElem?_setIfInBounds_ne this]⟩
theorem Vs {w:World} {l:Nat} {x:Obj} (h:w.heap[l]? =some x) (o:Obj):(w.putObj l o).heap[l]? =some o:=by
 have:=gq h
 simp [World.putObj,this]
theorem Ec (x y:Nat) (hx:x<18446744073709551616) (hy:y<18446744073709551616):Pj .u64 (x:Int) (y:Int)=((x^^^y:Nat):Int):=by
 unfold Pj
 have h1:(BitVec.ofInt (IntKind.bits .u64) (x:Int)^^^BitVec.ofInt (IntKind.bits .u64) (y:Int)).toNat=x^^^y:=by
  show (BitVec.ofInt 64 (x:Int)^^^BitVec.ofInt 64 (y:Int)).toNat=_
  rw [BitVec.toNat_xor,BitVec.ofInt_natCast,BitVec.ofInt_natCast,BitVec.toNat_ofNat,BitVec.toNat_ofNat,Nat.mod_eq_of_lt hx,Nat.mod_eq_of_lt hy]
 rw [h1]
 have:x^^^y<2^64:=Nat.xor_lt_two_pow hx hy
 exact IntWalk.u64_in _ (by omega)
theorem OS (x:Nat) (hx:x<18446744073709551616):x^^^18446744073709551615=18446744073709551615 - x:=by
 have h1:=BitVec.toNat_not (x:=BitVec.ofNat 64 x)
 have h2:(~~~ (BitVec.ofNat 64 x))=BitVec.ofNat 64 x^^^BitVec.allOnes 64:=(BitVec.xor_allOnes).symm
 rw [h2,BitVec.toNat_xor,BitVec.toNat_ofNat,Nat.mod_eq_of_lt hx,BitVec.toNat_allOnes] at h1
 omega
theorem G9 (n:Nat) (h:n<256):WI .u8 (n:Int) 128=((n%128+128:Nat):Int):=by
 have h':∀x:Fin 256,WI .u8 (x.val:Int) 128=((x.val%128+128:Nat):Int):=by decide+kernel
 exact h' ⟨n,h⟩
theorem OM (n:Nat):IntKind.wrap .u8 (n:Int)=((n%256:Nat):Int):=by rw [IntKind.wrap_u8];omega
theorem J8 (n:Nat) (h:n<18446744073709551616):IntKind.wrap .u64 (n:Int)=(n:Int):=IntWalk.u64_in _ (by omega)
theorem M1 (n m:Nat) (h:0<m):Int.fdiv (n:Int) (m:Int)=((n / m:Nat):Int):=by
 rw [Int.fdiv_eq_ediv_of_nonneg _ (by omega)];rfl
theorem aX (i:Nat) (h:i<9223372036854775807):IntKind.wrap .i64 ((i:Int)+1)=((i+1:Nat):Int):=by rw [IntWalk.i64_in _ (by omega)];omega
structure En where
 fp:List Nat
 P:World->Prop
 st:∀w w',(∀b∈fp,b<w.heap.size->w'.heap[b]? =w.heap[b]?)->P w->P w'
 lt:∀w,P w->∀b∈fp,b<w.heap.size
 nd:fp.Nodup
def En.ob (b:Nat) (o:Obj):En:=⟨[b],λw=>w.heap[b]? =some o,λw w' h hp=>(h b (by simp) (gq hp)).trans hp,λw hp x hx=>by simp at hx;subst hx;exact gq hp,by simp⟩
abbrev En.c (b:Nat) (vs:List Value) (T:TypeId):En:=.ob b (.cells vs.toArray T (0,0))
def En.row (e:TypeId) (sz:Nat) (s:Sl) (vs:List Value):En:=⟨aZ s,λw=>aO w e sz s vs,λ_ _ h hp=>hp.gY h,λ_ hp=>hp.lt,by unfold aZ;split<;>simp⟩
def En.rd (s:Sl) (vs:List Value):En:=⟨if vs=[] then [] else aZ s,λw=>Rd w s vs,λw w' h hp=>by
  refine ⟨hp.1,hp.2.1,hp.2.2.1,λi v hi=>?_⟩
  obtain ⟨p,ha,hc⟩:=hp.2.2.2 i v hi
  have ie:vs≠[]:=λe=>by subst e;simp at hi
  rw [if_neg ie] at h
  have:=h p.block (by simp [aZ,ha]) (by have:=pP hc;rwa [gP] at this)
  refine ⟨p,ha,?_⟩
  unfold World.cell? at hc ⊢
  rw [gP] at hc ⊢
  rw [this];exact hc,λw hp b hb=>by
  split at hb
  .cases hb
  .rename_i ie
   have h0:0<vs.length:=List.length_pos_iff.2 ie
   obtain ⟨p,ha,hc⟩:=hp.2.2.2 0 vs[0] (g8 h0)
   simp [aZ,ha] at hb
   subst hb
   have:=pP hc
   rwa [gP] at this,by split<;>(try simp);unfold aZ;split<;>simp⟩
structure LH (M:Nat->Prop) (w0 w:World) (L D:List En):Prop where
 fr:Fr M w0 w
 own:∀e∈L,e.P w
 rd:∀e∈D,e.P w
 new:∀e∈L,∀b∈e.fp,w0.heap.size<=b\/M b
 nd:(L.flatMap (·.fp)).Nodup
 dj:∀e∈D,∀b∈e.fp,∀e'∈L,b∉e'.fp
theorem LH.start {M:Nat->Prop} {w:World} (D:List En) (h:∀e∈D,e.P w):LH M w w [] D:=⟨Fr.refl _ _,by simp,h,by simp,by simp,by simp⟩
theorem LH.xS {M:Nat->Prop} {w:World} (L D:List En) (hl:∀e∈L,e.P w/\∀b∈e.fp,M b) (hn:(L.flatMap (·.fp)).Nodup) (h:∀e∈D,e.P w/\∀b∈e.fp,∀e'∈L,b∉e'.fp):LH M w w L D:=
 ⟨Fr.refl _ _,λe he=>(hl e he).1,λe he=>(h e he).1,λe he b hb=>.inr ((hl e he).2 b hb),hn,λe he=>(h e he).2⟩
theorem LH.pI {M:Nat->Prop} {w0 w w':World} {L D:List En} (H:LH M w0 w L D) (f:bG w w'):LH M w0 w' L D:=
 ⟨H.fr.AV f,λe he=>e.st w w' (λb _ hl=>f.gY b hl id) (H.own e he),λe he=>e.st w w' (λb _ hl=>f.gY b hl id) (H.rd e he),H.new,H.nd,H.dj⟩
theorem LH.drew {M:Nat->Prop} {w0 w:World} {L D:List En} (H:LH M w0 w L D):LH M w0 w.drew L D:=H.pI (Fr.drew _ _)
theorem xG {α:Type} {f:α->List Nat}:∀{L:List α} {i:Nat} {e e':α},L[i]? =some e->(L.flatMap f).Nodup->(f e').Nodup->(∀x∈f e',x∈f e\/x∉L.flatMap f)->((L.set i e').flatMap f).Nodup
 |[],i,e,e',h,_,_,_=>by simp at h
 |a::L,0,e,e',h,hn,h',hs=>by
  simp at h;subst h
  simp only [List.set_cons_zero,vw,Bj] at hn ⊢
  refine ⟨h',hn.2.1,λx hx y hy=>?_⟩
  rintro rfl
  rcases hs x hx with h|h
  .exact hn.2.2 x h x hy rfl
  .exact h (by simp only [vw,fS];exact .inr hy)
 |a::L,i+1,e,e',h,hn,h',hs=>by
  simp only [List.getElem?_cons_succ] at h
  simp only [List.set_cons_succ,vw,Bj] at hn ⊢
  refine ⟨hn.1,xG h hn.2.1 h' (λx hx=>(hs x hx).imp id λh hm=>h (by simp only [vw,fS];exact .inr hm)),λx hx y hy=>?_⟩
  rintro rfl
  obtain ⟨g,hg,Wm⟩:=mI.1 hy
  rcases qmO hg with hg|rfl
  .exact hn.2.2 x hx x (mI.2 ⟨g,hg,Wm⟩) rfl
  .rcases hs x Wm with h1|h1
   .exact hn.2.2 x hx x (mI.2 ⟨e,cR h,h1⟩) rfl
   .exact h1 (by simp only [vw,fS];exact .inl hx)
theorem LH.Ie {M:Nat->Prop} {w0 w:World} {L D:List En} (H:LH M w0 w L D):∀b∈L.flatMap (·.fp),b<w.heap.size:=λb hb=>by
 obtain ⟨e,he,hb⟩:=mI.1 hb
 exact e.lt w (H.own e he) b hb
theorem pQ {L:List En} (hn:(L.flatMap (·.fp)).Nodup):∀{i:Nat} {e:En},L[i]? =some e->∀{j:Nat} {g:En},L[j]? =some g->i≠j->∀b∈e.fp,b∉g.fp:=by
 induction L with
 |nil=>intro i e h;simp at h
 |cons a L ih=>
  simp only [vw,Bj] at hn
  intro i e hi j g hj ie b hb eG
  cases i with
  |zero=>
   simp at hi;subst hi
   cases j with
   |zero=>exact ie rfl
   |succ j=>exact hn.2.2 b hb b (mI.2 ⟨g,cR (by simpa using hj),eG⟩) rfl
  |succ i=>
   cases j with
   |zero=>
    simp at hj;subst hj
    exact hn.2.2 b eG b (mI.2 ⟨e,cR (by simpa using hi),hb⟩) rfl
   |succ j=>exact ih hn.2.1 (by simpa using hi) (by simpa using hj) (by omega) b hb eG
theorem LH.D2 {M:Nat->Prop} {w0 w w':World} {L D:List En} (H:LH M w0 w L D) {e:En} (i:Nat) (e':En) (hi:L[i]? =some e) (f:Fr (·∈e.fp) w w') (hP:e'.P w') (HE:∀b∈e'.fp,b∈e.fp\/w.heap.size<=b):LH M w0 w' (L.set i e') D:=by
 have hm:=cR hi
 have BX:Fr M w0 w':=H.fr.trans f λx hx KI=>(H.new e hm x KI).resolve_left (by omega)
 refine ⟨BX,λg hg=>?_,λg hg=>?_,λg hg b hb=>?_,xG hi H.nd e'.nd λx hx=>?_,λg hg b hb g' mP eG=>?_⟩
 .obtain ⟨j,hj⟩:=LO.1 hg
  rw [Zm] at hj
  split at hj
  .split at hj
   .cases hj;exact hP
   .cases hj
  .rename_i ie
   refine g.st w w' (λb hb hl=>f.gY b hl λrS=>pQ H.nd hi hj ie b rS hb) (H.own g (cR hj))
 .exact g.st w w' (λb hb hl=>f.gY b hl λrS=>H.dj g hg b hb e hm rS) (H.rd g hg)
 .rcases qmO hg with hg|rfl
  .exact H.new g hg b hb
  .rcases HE b hb with h|h
   .exact H.new e hm b h
   .exact .inl (Nat.le_trans H.fr.size h)
 .rcases HE x hx with h|h
  .exact .inl h
  .exact .inr λE6=>by have:=H.Ie x E6;omega
 .rcases qmO mP with mP|rfl
  .exact H.dj g hg b hb g' mP eG
  .rcases HE b eG with h|h
   .exact H.dj g hg b hb e hm h
   .have:=g.lt w (H.rd g hg) b hb;omega
theorem LH.push {M:Nat->Prop} {w0 w w':World} {L D:List En} (H:LH M w0 w L D) (e:En) (f:bG w w') (hP:e.P w') (HE:∀b∈e.fp,w.heap.size<=b):LH M w0 w' (L++[e]) D:=by
 have H':=H.pI f
 refine ⟨H'.fr,λg hg=>?_,H'.rd,λg hg b hb=>?_,?_,λg hg b hb g' mP eG=>?_⟩
 .rcases fS.1 hg with hg|hg
  .exact H'.own g hg
  .simp at hg;subst hg;exact hP
 .rcases fS.1 hg with hg|hg
  .exact H.new g hg b hb
  .simp at hg;subst hg;exact .inl (Nat.le_trans H.fr.size (HE b hb))
 .rw [r8,Bj]
  refine ⟨H.nd,by simpa using e.nd,λx hx y hy=>?_⟩
  rintro rfl
  have h1:=H.Ie x hx
  have h2:=HE x (by simpa using hy)
  omega
 .rcases fS.1 mP with mP|mP
  .exact H.dj g hg b hb g' mP eG
  .simp at mP;subst mP
   have h1:=g.lt w (H.rd g hg) b hb
   have h2:=HE b eG
   omega
theorem LH.alloc {M:Nat->Prop} {w0 w:World} {L D:List En} (H:LH M w0 w L D) (o:Obj):LH M w0 (w.alloc o) (L++[.ob w.heap.size o]) D:=
 H.push _ (Fr.alloc _ _ _) (mO w o) (λb hb=>by simp [En.ob] at hb;omega)
theorem LH.nf {M:Nat->Prop} {w0 w w':World} {L D:List En} (H:LH M w0 w L D) (e:En) (f:bG w w') (hP:e.P w') (hd:∀b∈e.fp,w.heap.size<=b\/(b<w0.heap.size/\¬M b)\/∃g∈D,b∈g.fp):LH M w0 w' L (D++[e]):=by
 have H':=H.pI f
 refine ⟨H'.fr,H'.own,λg hg=>?_,H'.new,H'.nd,λg hg b hb g' mP eG=>?_⟩
 .rcases fS.1 hg with hg|hg
  .exact H'.rd g hg
  .simp at hg;subst hg;exact hP
 .rcases fS.1 hg with hg|hg
  .exact H.dj g hg b hb g' mP eG
  .simp at hg;subst hg
   rcases hd b hb with h|⟨h,hm⟩|⟨q,hq,Xp⟩
   .have:=g'.lt w (H.own g' mP) b eG;omega
   .exact (H.new g' mP b eG).elim (λh'=>by omega) hm
   .exact H.dj q hq b Xp g' mP eG
theorem LH.forget {M:Nat->Prop} {w0 w:World} {L D:List En} (H:LH M w0 w L D) (D':List En) (h:∀e∈D',e∈D):LH M w0 w L D':=⟨H.fr,H.own,λe he=>H.rd e (h e he),H.new,H.nd,λe he=>H.dj e (h e he)⟩
theorem mQ {α:Type} {a:α}:∀{l:List α} {i:Nat},a∈l.eraseIdx i->a∈l
 |[],_,h=>by simp at h
 |b::l,0,h=>by simp at h;simp [h]
 |b::l,i+1,h=>by
  simp at h
  rcases h with h|h
  .simp [h]
  .exact lr _ (mQ h)
theorem yo {α:Type} {f:α->List Nat}:∀{L:List α} {i:Nat},(L.flatMap f).Nodup->((L.eraseIdx i).flatMap f).Nodup
 |[],i,h=>by simp
 |a::L,0,h=>by simp only [vw,Bj] at h;exact h.2.1
 |a::L,i+1,h=>by
  simp only [List.eraseIdx_cons_succ,vw,Bj] at h ⊢
  refine ⟨h.1,yo h.2.1,λx hx y hy=>h.2.2 x hx y ?_⟩
  obtain ⟨g,hg,Wm⟩:=mI.1 hy
  exact mI.2 ⟨g,mQ hg,Wm⟩
theorem EH {α:Type} {f:α->List Nat}:∀{L:List α} {i:Nat} {e:α},L[i]? =some e->(L.flatMap f).Nodup->∀b∈f e,∀g∈L.eraseIdx i,b∉f g
 |[],i,e,h,_=>by simp at h
 |a::L,0,e,h,hn=>by
  simp at h;subst h
  simp only [vw,Bj] at hn
  intro b hb g hg eG
  exact hn.2.2 b hb b (mI.2 ⟨g,by simpa using hg,eG⟩) rfl
 |a::L,i+1,e,h,hn=>by
  simp only [vw,Bj] at hn
  intro b hb g hg eG
  simp only [List.getElem?_cons_succ] at h
  simp only [List.eraseIdx_cons_succ,cS] at hg
  rcases hg with rfl|hg
  .exact hn.2.2 b eG b (mI.2 ⟨e,cR h,hb⟩) rfl
  .exact EH h hn.2.1 b hb g hg eG
theorem LH.freeze {M:Nat->Prop} {w0 w:World} {L D:List En} (H:LH M w0 w L D) {e:En} (i:Nat) (e':En) (hi:L[i]? =some e) (hP:e'.P w) (HE:∀b∈e'.fp,b∈e.fp):LH M w0 w (L.eraseIdx i) (D++[e']):=by
 refine ⟨H.fr,λg hg=>H.own g (mQ hg),λg hg=>?_,λg hg=>H.new g (mQ hg),yo H.nd,λg hg b hb g' mP=>?_⟩
 .rcases fS.1 hg with hg|hg
  .exact H.rd g hg
  .simp at hg;subst hg;exact hP
 .rcases fS.1 hg with hg|hg
  .exact H.dj g hg b hb g' (mQ mP)
  .simp at hg;subst hg
   exact EH hi H.nd b (HE b hb) g' mP
theorem LH.get {M:Nat->Prop} {w0 w:World} {L D:List En} (H:LH M w0 w L D) (i:Nat) {e:En} (hi:L[i]? =some e:=by rfl):e.P w:=H.own e (cR hi)
theorem LH.getD {M:Nat->Prop} {w0 w:World} {L D:List En} (H:LH M w0 w L D) (i:Nat) {e:En} (hi:D[i]? =some e:=by rfl):e.P w:=H.rd e (cR hi)
section
variable {M:Nat->Prop} {w0 w:World} {L D:List En}
theorem LH.ob (H:LH M w0 w L D) (i:Nat) {b:Nat} {o:Obj} (hi:L[i]? =some (.ob b o):=by rfl):w.heap[b]? =some o:=H.own _ (cR hi)
theorem LH.ld (H:LH M w0 w L D) (i j:Nat) {b:Nat} {vs:List Value} {T:TypeId} {v:Value} (hi:L[i]? =some (.c b vs T):=by rfl) (hj:vs[j]? =some v:=by rfl):w.cell? ((bD b).add j)=some v:=
 cellAt (p:=bD b) (H.ob i hi) rfl (by simpa using hj)
theorem LH.HR (H:LH M w0 w L D) (i:Nat) {b:Nat} {vs:List Value} {T:TypeId} {v:Value} (hi:L[i]? =some (.c b vs T):=by rfl) (hj:vs[0]? =some v:=by rfl):w.cell? (bD b)=some v:=by
 have:=H.ld i 0 hi hj
 rwa [uN] at this
theorem LH.set (H:LH M w0 w L D) (i j:Nat) {b:Nat} {vs:List Value} {T:TypeId} {v:Value} (hi:L[i]? =some (.c b vs T)) (hj:j<vs.length):
  (w.cell? ((bD b).add j)).isSome=true/\w.frozen? ((bD b).add j)=false/\LH M w0 (w.setCell ((bD b).add j) v) (L.set i (.c b (vs.set j v) T)) D:=by
 obtain ⟨x1,x2,x3,x4⟩:=JR (H.ob i hi) j (by simpa using hj) v
 exact ⟨x1,x2,H.D2 i (.c b (vs.set j v) T) hi (x4.mono λx _ e=>by simp [En.ob,e]) (by show _=_;rw [x3];simp) (λb hb=>.inl hb)⟩
theorem LH.st (H:LH M w0 w L D) (i j:Nat) {b:Nat} {vs:List Value} {T:TypeId} {v:Value} {K:World->Prop} (hi:L[i]? =some (.c b vs T)) (hK:∀w',LH M w0 w' (L.set i (.c b (vs.set j v) T)) D->K w') (hj:j<vs.length:=by simp):bT w ((bD b).add j) v K:=by
 obtain ⟨x1,x2,x3⟩:=H.set (v:=v) i j hi hj
 exact ⟨x1,x2,hK _ x3⟩
theorem LH.DZ (H:LH M w0 w L D) (i:Nat) {b:Nat} {vs:List Value} {T:TypeId} {v:Value} {K:World->Prop} (hi:L[i]? =some (.c b vs T)) (hK:∀w',LH M w0 w' (L.set i (.c b (vs.set 0 v) T)) D->K w') (hj:0<vs.length:=by simp):bT w (bD b) v K:=by
 have:=H.st (v:=v) (K:=K) i 0 hi hK hj
 rwa [uN] at this
theorem LH.lf (H:LH M w0 w L D) (i:Nat) {b:Nat} {a0 a1:Value} {T:TypeId} {v0 v1:Value} {K:World->Prop} (hi:L[i]? =some (.c b [a0,a1] T)) (hK:∀w',LH M w0 w' (L.set i (.c b [v0,v1] T)) D->K w'):bT w (bD b) v0 λw1=>bT w1 ((bD b).add 1) v1 K:=by
 have hl:=(ov.1 hi).1
 exact H.DZ i hi (λw1 H1=>H1.st (vs:=[v0,a1]) (T:=T) i 1 (by simp [hl]) (λw2 H2=>hK w2 (by simpa using H2)))
theorem LH.mj (H:LH M w0 w L D) (i:Nat) {b:Nat} {a0 a1 a2:Value} {T:TypeId} {v0 v1 v2:Value} {K:World->Prop} (hi:L[i]? =some (.c b [a0,a1,a2] T)) (hK:∀w',LH M w0 w' (L.set i (.c b [v0,v1,v2] T)) D->K w'):bT w (bD b) v0 λw1=>bT w1 ((bD b).add 1) v1 λw2=>bT w2 ((bD b).add 2) v2 K:=by
 have hl:=(ov.1 hi).1
 exact H.DZ i hi (λw1 H1=>H1.st (vs:=[v0,a1,a2]) (T:=T) i 1 (by simp [hl]) (λw2 H2=>H2.st (vs:=[v0,v1,a2]) (T:=T) i 2 (by simp [hl]) (λw3 H3=>hK w3 (by simpa using H3))))
theorem LH.DL (H:LH M w0 w L D) (i:Nat) {b:Nat} {a0 a1 a2 a3:Value} {T:TypeId} {v0 v1 v2 v3:Value} {K:World->Prop} (hi:L[i]? =some (.c b [a0,a1,a2,a3] T)) (hK:∀w',LH M w0 w' (L.set i (.c b [v0,v1,v2,v3] T)) D->K w'):bT w (bD b) v0 λw1=>bT w1 ((bD b).add 1) v1 λw2=>bT w2 ((bD b).add 2) v2 λw3=>bT w3 ((bD b).add 3) v3 K:=by
 have hl:=(ov.1 hi).1
 exact H.DZ i hi (λw1 H1=>H1.st (vs:=[v0,a1,a2,a3]) (T:=T) i 1 (by simp [hl]) (λw2 H2=>H2.st (vs:=[v0,v1,a2,a3]) (T:=T) i 2 (by simp [hl]) (λw3 H3=>H3.st (vs:=[v0,v1,v2,a3]) (T:=T) i 3 (by simp [hl]) (λw4 H4=>hK w4 (by simpa using H4)))))
theorem LH.st5 (H:LH M w0 w L D) (i:Nat) {b:Nat} {a0 a1 a2 a3 a4:Value} {T:TypeId} {v0 v1 v2 v3 v4:Value} {K:World->Prop} (hi:L[i]? =some (.c b [a0,a1,a2,a3,a4] T)) (hK:∀w',LH M w0 w' (L.set i (.c b [v0,v1,v2,v3,v4] T)) D->K w'):bT w (bD b) v0 λw1=>bT w1 ((bD b).add 1) v1 λw2=>bT w2 ((bD b).add 2) v2 λw3=>bT w3 ((bD b).add 3) v3 λw4=>bT w4 ((bD b).add 4) v4 K:=by
 have hl:=(ov.1 hi).1
 exact H.DZ i hi (λw1 H1=>H1.st (vs:=[v0,a1,a2,a3,a4]) (T:=T) i 1 (by simp [hl]) (λw2 H2=>H2.st (vs:=[v0,v1,a2,a3,a4]) (T:=T) i 2 (by simp [hl]) (λw3 H3=>H3.st (vs:=[v0,v1,v2,a3,a4]) (T:=T) i 3 (by simp [hl]) (λw4 H4=>H4.st (vs:=[v0,v1,v2,v3,a4]) (T:=T) i 4 (by simp [hl]) (λw5 H5=>hK w5 (by simpa using H5))))))
theorem LH.Zq (H:LH M w0 w L D) (i:Nat) {b:Nat} {a0 a1 a2 a3 a4 a5 a6 a7:Value} {T:TypeId} {v0 v1 v2 v3 v4 v5 v6 v7:Value} {K:World->Prop} (hi:L[i]? =some (.c b [a0,a1,a2,a3,a4,a5,a6,a7] T)) (hK:∀w',LH M w0 w' (L.set i (.c b [v0,v1,v2,v3,v4,v5,v6,v7] T)) D->K w'):bT w (bD b) v0 λw1=>bT w1 ((bD b).add 1) v1 λw2=>bT w2 ((bD b).add 2) v2 λw3=>bT w3 ((bD b).add 3) v3 λw4=>bT w4 ((bD b).add 4) v4 λw5=>bT w5 ((bD b).add 5) v5 λw6=>bT w6 ((bD b).add 6) v6 λw7=>bT w7 ((bD b).add 7) v7 K:=by
 have hl:=(ov.1 hi).1
 exact H.DZ i hi (λw1 H1=>H1.st (vs:=[v0,a1,a2,a3,a4,a5,a6,a7]) (T:=T) i 1 (by simp [hl]) (λw2 H2=>H2.st (vs:=[v0,v1,a2,a3,a4,a5,a6,a7]) (T:=T) i 2 (by simp [hl]) (λw3 H3=>H3.st (vs:=[v0,v1,v2,a3,a4,a5,a6,a7]) (T:=T) i 3 (by simp [hl]) (λw4 H4=>H4.st (vs:=[v0,v1,v2,v3,a4,a5,a6,a7]) (T:=T) i 4 (by simp [hl]) (λw5 H5=>H5.st (vs:=[v0,v1,v2,v3,v4,a5,a6,a7]) (T:=T) i 5 (by simp [hl]) (λw6 H6=>H6.st (vs:=[v0,v1,v2,v3,v4,v5,a6,a7]) (T:=T) i 6 (by simp [hl]) (λw7 H7=>H7.st (vs:=[v0,v1,v2,v3,v4,v5,v6,a7]) (T:=T) i 7 (by simp [hl]) (λw8 H8=>hK w8 (by simpa using H8)))))))))
theorem LH.nw (H:LH M w0 w L D) {cs:Array Value} {T:TypeId} {K:World->Prop} (hK:∀w',w'.heap.size=w.heap.size+1->LH M w0 w' (L++[.c w.heap.size cs.toList T]) D->K w'):fH w (.cells cs T) K:=hK _ (size_alloc _ _) (H.alloc _)
theorem LH.Zj (H:LH M w0 w L D) {o:Obj} {K:World->Prop} (hK:∀w',w'.heap.size=w.heap.size+1->LH M w0 w' L D->w'.heap[w.heap.size]? =some o->K w'):fH w o K:=hK _ (size_alloc _ _) (H.pI (Fr.alloc _ _ _)) (mO w o)
theorem LH.dr (H:LH M w0 w L D) {K:World->Prop} (hK:∀w',LH M w0 w' L D->K w'):vQ w K:=hK _ H.drew
theorem LH.pu (H:LH M w0 w L D) (i:Nat) {b:Nat} {o o':Obj} {K:World->Prop} (hi:L[i]? =some (.ob b o)) (hK:∀w',LH M w0 w' (L.set i (.ob b o')) D->K w'):LN w b o o' K:=
 ⟨H.ob i hi,hK _ (H.D2 i (.ob b o') hi ((Fr.put w b o').mono λx _ e=>by simp [En.ob,e]) (Vs (H.ob i hi) o') (λb hb=>.inl hb))⟩
theorem LH.ap (H:LH M w0 w L D) (i:Nat) {P:Program} {t ty e:TypeId} {z:Value} {sz bytes:Nat} (el:iy P t e z sz bytes) {s src:Sl} {xs news:List Value} {K:Sl->World->Prop}
  (hi:L[i]? =some (.row e sz s xs)) (hr:o7 w src news) (hl:news.length=src.n *sz) (h1:∀u∈news,u.oneCell'=true) (hb:(s.n+src.n) *bytes<=140737488355328)
  (hK:∀s' w',LH M w0 w' (L.set i (.row e sz s' (xs++news))) D->s'.n=s.n+src.n->(s'.a=none->s.a=none/\src.n=0)->K s' w'):
  ∃s' w',(Builtin.append_ #[t,t] ty #[s.v,src.v]).run P w=.ok s'.v w'/\K s' w':=by
 obtain ⟨s',w',g1,g2,g3,g4,g5,g6⟩:=qF (ty:=ty) el (H.get i hi) hr hl h1 hb
 exact ⟨s',w',g1,hK s' w' (H.D2 i (.row e sz s' (xs++news)) hi g4 g2 g5) g3 g6⟩
theorem LH.YT (H:LH M w0 w L D) (i:Nat) {P:Program} {t ty e:TypeId} {z:Value} {sz bytes:Nat} (el:iy P t e z sz bytes) {T:TypeId} {s:Sl} {xs:List Value} {news:Array Value} {K:Sl->World->Prop}
  (hi:L[i]? =some (.row e sz s xs)) (hK:∀s' w',LH M w0 w' (L.set i (.row e sz s' (xs++news.toList))) D->s'.n=s.n+1->s'.a≠none->K s' w') (hb:(s.n+1) *bytes<=140737488355328) (hl:news.size=sz:=by rfl) (h1:∀u∈news.toList,u.oneCell'=true:=by simp [Value.oneCell']):
  fH w (.cells news T) λw1=>∃s' w',(Builtin.append_ #[t,t] ty #[s.v,.slice (some (Addr.mk w.heap.size 0 none)) 1 1]).run P w1=.ok s'.v w'/\K s' w':=by
 have H1:LH M w0 (w.alloc (.cells news T)) L D:=H.pI (Fr.alloc _ _ _)
 refine H1.ap i el (src:=⟨some (bD w.heap.size),1,1⟩) (ty:=ty) (K:=K) (news:=news.toList) hi ((Row.made w T 1 1 news.toList).MT) (by simpa using hl) h1 hb (λs' w' h hn rr=>hK s' w' h hn λh0=>by have:=(rr h0).2;simp at this)
theorem LH.n7 (H:LH M w0 w L D) (e:TypeId) (sz:Nat):LH M w0 w (L++[.row e sz ⟨none,0,0⟩ []]) D:=H.push _ (Fr.refl _ _) (aO.nil w e sz) (λb hb=>by simp [En.row,aZ] at hb)
end
theorem aO.ow1 {w:World} {e:TypeId} {s:Sl} {vs:List Value} (h:aO w e 1 s vs):Ow w e s vs:=⟨by have:=h.len;omega,h⟩
theorem aO.rd1 {w:World} {e:TypeId} {s:Sl} {vs:List Value} (h:aO w e 1 s vs):Rd w s vs:=h.ow1.rd
abbrev F0:Nat->Prop:=λ_=>False
theorem LH.take {M:Nat->Prop} {w0 w:World} {L D:List En} (H:LH M w0 w L D) (n:Nat):LH M w0 w (L.take n) D:=
 ⟨H.fr,λe he=>H.own e (Ti he),H.rd,λe he=>H.new e (Ti he),by
  have:=H.nd
  rw [<-List.take_append_drop n L,r8,Bj] at this
  exact this.1,λe he b hb e' mG=>H.dj e he b hb e' (Ti mG)⟩
theorem aJ {a b:Int} {A B:Prop} (h1:a=b->A) (h2:a≠b->B):aG (a==b) A B:=bA (λh=>h1 (by simpa using h)) (λh=>h2 (by simpa using h))
theorem dX {a b:Int} {A B:Prop} (h1:a≠b->A) (h2:a=b->B):aG (a !=b) A B:=bA (λh=>h1 (by simpa using h)) (λh=>h2 (by simpa using h))
theorem aN {p:Prop} [Decidable p] {A B:Prop} (h1:p->A) (h2:¬p->B):aG (decide p) A B:=bA (λh=>h1 (of_decide_eq_true h)) (λh=>h2 (of_decide_eq_false h))
theorem eT {b:Bool} {A B:Prop} (h1:b=false->A) (h2:b=true->B):aG (!b) A B:=bA (λh=>h1 (by simpa using h)) (λh=>h2 (by simpa using h))
theorem LH.uA {M:Nat->Prop} {w0 w:World} {L D:List En} (H:LH M w0 w L D) (i j:Nat) {b:Nat} {vs:List Value} {T:TypeId} {v:Value} (hi:D[i]? =some (.c b vs T):=by rfl) (hj:vs[j]? =some v:=by rfl):w.cell? ((bD b).add j)=some v:=
 cellAt (p:=bD b) (show w.heap[b]? =_ from H.rd _ (cR hi)) rfl (by simpa using hj)
theorem LH.WX {M:Nat->Prop} {w0 w w':World} {L D:List En} (H:LH M w0 w L D) (i:Nat) {b:Nat} {vs AL:List Value} {T:TypeId} (f:Fr (·=b) w w') (h:w'.heap[b]? =some (.cells AL.toArray T (0,0))) (hi:L[i]? =some (.c b vs T):=by rfl):LH M w0 w' (L.set i (.c b AL T)) D:=
 H.D2 i (.c b AL T) hi (f.mono λx _ e=>by simp [En.ob,e]) h (λb hb=>.inl hb)
theorem LH.iQ {M:Nat->Prop} {w0 w:World} {L D:List En} (H:LH M w0 w L D) {e:TypeId} {sz n:Nat} {cs:List Value} (hc:cs.length=n *sz) (hn:n<=maxLen) {K:World->Prop} (hK:∀w',LH M w0 w' (L++[.row e sz ⟨some (bD w.heap.size),n,n⟩ cs]) D->K w'):fH w (.cells cs.toArray e) K:=
 hK _ (H.push _ (Fr.alloc _ _ _) (aO.made w e sz n cs hc hn) (λb hb=>by simp [En.row,aZ] at hb;omega))
def o3 (P:Program) (o:Oper) (E:Env) (w:World) (K:Env->World->Prop):Prop:=
 bif calm P o then qT P o E w λv _=>K (E.put o.dst v) w else mM P o E w λv w'=>K (E.put o.dst v) w'
def zc (ops:Array Oper):Bool:=(List.range ops.size).all λi=>match ops[i]? with
 |some o=>o.guard.isNone&&o.after.toList.all λe=>!(Region.binds .any e)||Nat.blt e.on i
 |none=>true
abbrev jy (L:Nat->Bool) (i:Nat):Nat->Bool:=λj=>Nat.beq j i||L j
section
variable {P:Program} {ops:Array Oper} {n:Cx} {K:Env->World->Prop}
theorem sZ (h:zc ops=true) {i:Nat} {o:Oper} (ho:ops[i]? =some o):o.guard=none/\∀e∈o.after,Region.binds .any e=true->e.on<i:=by
 unfold zc at h
 have hi:i<ops.size:=(Array.getElem?_eq_some_iff.1 ho).1
 have:=wD.1 h i (List.mem_range.2 hi)
 rw [ho] at this
 simp only [Bool.and_eq_true] at this
 refine ⟨by simpa using this.1,λe he hb=>?_⟩
 have:=wD.1 this.2 e (by simpa using he)
 rw [hb] at this
 simpa using this
theorem Oz {i:Nat} {o:Oper} {a:Act} {E:Env} {w:World} {Kh:Env->World->Prop} {K':Act->World->Prop} {Q:Exit->Act->World->Prop}
  (hn:gI n ops=true) (ho:ops[i]? =some o) (hg:o.guard=none) (ha:Ag n a E) (h:o3 P o E w Kh) (next:∀a' E' w',Ag n a' E'->Kh E' w'->K' a' w'):wpOp P ops Q i K' a w:=by
 have ot:=Region.noSelect_spec (ops:=ops) (by unfold gI at hn;rw [Bool.and_eq_true] at hn;exact hn.1)
 have hw:Region.wanted o (yielded ops a.tmps)=true:=by simp [Region.wanted,hg]
 unfold o3 at h
 cases hc:calm P o with
 |true=>
  rw [hc] at h
  simp only [cond_true] at h
  obtain ⟨v,Ss,hk,wg,LK⟩:=pO (λcs b=>ot i o cs b ho) ha h
  unfold wpOp
  simp only [ho,hw,if_true]
  refine .inl ?_
  unfold Oper.wp
  rw [LK w wg]
  exact next _ _ _ (ha.put v (dU hn ho)) hk
 |false=>
  rw [hc] at h
  simp only [cond_false] at h
  exact tS ho hw (ir (λcs b=>ot i o cs b ho) ha h) λv w' hv=>next _ _ _ (ha.put v (dU hn ho)) hv
theorem Lz (hn:gI n ops=true) (hb:zc ops=true) (J:(Nat->Bool)->Env->World->Prop)
  (step:∀L E w i o,ops[i]? =some o->L i=false->(∀e∈o.after,Region.binds .any e=true->L e.on=true)->J L E w->o3 P o E w λE' w'=>J (jy L i) E' w')
  (fin:∀L E w,(∀i,i<ops.size->L i=true)->J L E w->K E w):
  ∀(fuel:Nat) (listed:Array Bool) (a:Act) (E:Env) (w:World),listed.size=ops.size->Ag n a E->J (λj=>listed.getD j false) E w->((List.range ops.size).filter λj=>!listed.getD j false).length<=fuel->
   wpAny P .any ops (g9 n K) fuel listed a w:=by
 have done:∀(listed:Array Bool) (a:Act) (E:Env) (w:World),listed.size=ops.size->Ag n a E->J (λj=>listed.getD j false) E w->Region.ready .any ops listed=[]->g9 n K .normal a w:=by
  intro listed a E w hs ha hJ hr
  refine ⟨E,ha,fin _ E w (λi=>?_) hJ⟩
  induction i using Nat.strongRecOn with
  |_ i ih=>
   intro hi
   cases hl:listed.getD i false with
   |true=>rfl
   |false=>
    exfalso
    have ho:ops[i]? =some ops[i]:=Array.getElem?_eq_getElem hi
    have hm:i∈Region.ready .any ops listed:=mem_ready.2 ⟨by
     have lV:i<listed.size:=by omega
     simp [lV] at hl ⊢
     exact hl,_,ho,λe he hbi=>ih e.on ((sZ hb ho).2 e he hbi) (Nat.lt_trans ((sZ hb ho).2 e he hbi) hi)⟩
    rw [hr] at hm
    cases hm
 intro fuel
 induction fuel with
 |zero=>
  intro listed a E w hs ha hJ hf
  have hall:∀i,i<ops.size->listed.getD i false=true:=λi hi=>by
   cases hl:listed.getD i false with
   |true=>rfl
   |false=>
    have:i∈(List.range ops.size).filter λj=>!listed.getD j false:=List.mem_filter.2 ⟨List.mem_range.2 hi,by rw [hl];rfl⟩
    rw [List.length_eq_zero_iff.1 (Nat.le_zero.1 hf)] at this
    cases this
  refine ⟨?_,E,ha,fin _ E w hall hJ⟩
  cases hr:Region.ready .any ops listed with
  |nil=>rfl
  |cons i l=>
   have hm:i∈Region.ready .any ops listed:=by rw [hr];simp
   obtain ⟨h0,o,ho,_⟩:=mem_ready.1 hm
   have hi:=(Array.getElem?_eq_some_iff.1 ho).1
   have h1:=hall i hi
   have lV:i<listed.size:=by omega
   simp [lV] at h0 h1
   rw [h0] at h1
   cases h1
 |succ fuel ih=>
  intro listed a E w hs ha hJ hf
  refine ⟨done listed a E w hs ha hJ,λi hi=>?_⟩
  obtain ⟨h0,o,ho,hall⟩:=mem_ready.1 hi
  have lV:i<ops.size:=(Array.getElem?_eq_some_iff.1 ho).1
  have hli:i<listed.size:=by omega
  have v9:listed.getD i false=false:=by simp [hli] at h0 ⊢;exact h0
  refine Oz hn ho (sZ hb ho).1 ha (step _ E w i o ho v9 hall hJ) λa' E' w' yi wU=>?_
  have he:(jy (λj=>listed.getD j false) i)=λj=>(listed.setIfInBounds i true).getD j false:=by
   funext j
   by_cases hj:i=j
   .subst hj
    simp [jy,hli]
   .have:Nat.beq j i=false:=by rw [<-Bool.not_eq_true,Nat.beq_eq];exact λh=>hj h.symm
    rw [getD_set_ne false hj]
    simp [jy,this]
  rw [he] at wU
  refine ih _ a' E' w' (by simpa using hs) yi wU ?_
  have ru:((List.range ops.size).filter λj=>!(listed.setIfInBounds i true).getD j false)=((List.range ops.size).filter λj=>!listed.getD j false).filter λj=>!(Nat.beq j i):=by
   rw [List.filter_filter]
   refine List.filter_congr λj _=>?_
   rw [<-congrFun he j]
   simp only [jy,Bool.not_or]
  have aa7:(((List.range ops.size).filter λj=>!listed.getD j false).filter λj=>!(Nat.beq j i)).length<((List.range ops.size).filter λj=>!listed.getD j false).length:=by
   refine List.length_filter_lt_length_iff_exists.2 ⟨i,List.mem_filter.2 ⟨List.mem_range.2 lV,by rw [v9];rfl⟩,?_⟩
   have:Nat.beq i i=true:=Nat.beq_refl i
   simp [this]
  rw [ru]
  omega
theorem Bn {c:Code} {id:Nat} {a:Act} {E:Env} {w:World} (J:(Nat->Bool)->Env->World->Prop) (hm:P.follows .mixedOrders=true) (hc:c=.region id ops true) (hn:gI n ops=true) (hb:zc ops=true) (ha:Ag n a E)
  (h0:J (λ_=>false) E w.drew)
  (step:∀L E w i o,ops[i]? =some o->L i=false->(∀e∈o.after,Region.binds .any e=true->L e.on=true)->J L E w->o3 P o E w λE' w'=>J (jy L i) E' w')
  (fin:∀L E w,(∀i,i<ops.size->L i=true)->J L E w->K E w):c.wpIn (FW n) 0 P (g9 n K) a w:=by
 subst hc
 have hz:(λj=>(Array.replicate ops.size false).getD j false)=λ_=>false:=by
  funext j
  by_cases hj:j<ops.size<;>simp [hj]
 have h2:=Lz (K:=K) hn hb J step fin ops.size (Array.replicate ops.size false) a E w.drew (by simp) ha (by rw [hz];exact h0) (Nat.le_trans (List.length_filter_le _ _) (by simp))
 refine wpIn_region_draw λt=>?_
 refine qy hn (λ⟨_,_,h⟩=>h) _ _ _ ?_
 simp only [Region.schedule,hm,Bool.true_or,if_true]
 exact wpAny_sound ops.size t _ a _ h2
def Vx (P:Program) (n:Nat) (c:Code):Bool:=match c with
 |.region _ ops d=>d&&(P.follows .mixedOrders&&(gI n ops&&zc ops))
 |_=>false
def igK (P:Program) (c:Code) (K:Env->World->Prop) (E:Env) (w:World):Prop:=
 ∃J:(Nat->Bool)->Env->World->Prop,J (λ_=>false) E w.drew/\
  (∀L E w i o,(Code.ops c)[i]? =some o->L i=false->(∀e∈o.after,Region.binds .any e=true->L e.on=true)->J L E w->o3 P o E w λE' w'=>J (jy L i) E' w')/\
  ∀L E w,(∀i,i<(Code.ops c).size->L i=true)->J L E w->K E w
abbrev Yp (P:Program) (c:Code) (K:Env->World->Prop) (E:Env) (w:World):Prop:=igK P (Code.fst c) K E w
variable {Q:Exit->Act->World->Prop} {E:Env} {w:World}
theorem ig (c:Code) (hc:Vx P n c=true) (h:igK P c K E w) (hk:∀E' w' a',Ag n a' E'->K E' w'->Q .normal a' w'):WP P n c Q E w:=by
 obtain ⟨J,h0,step,fin⟩:=h
 unfold Vx at hc
 split at hc
 .rename_i id ops d
  simp only [Bool.and_eq_true] at hc
  obtain ⟨rfl,h2,h3,h4⟩:=hc
  exact λa ha=>wpIn_mono (Bn J h2 rfl h3 h4 ha h0 step fin) λe a' w' he=>by
   cases e with
   |normal=>obtain ⟨E',hA,hK⟩:=he;exact hk E' w' a' hA hK
   |_=>exact he.elim
 .cases hc
theorem si (c:Code) (hc:(Fb c&&Vx P n (Code.fst c))=true) (h:Yp P c K E w) (hk:∀E' w',K E' w'->WP P n (Code.snd c) Q E' w'):WP P n c Q E w:=
 WP.seq (DH (wZ hc).1) (ig _ (wZ hc).2 h λE' w' a' hA hK=>nx hA (hk E' w' hK))
end
def rowOf (o:Oper):Op×Option Nat×TypeId×List Nat:=(o.op,o.dst,o.type,(o.after.toList.filter λe=>Region.binds .any e).map (·.on))
def allI {α:Type} (F:Nat->α->Prop):List α->Nat->Prop
 |[],_=>True
 |a::l,i=>F i a/\allI F l (i+1)
theorem Ea {α:Type} {F:Nat->α->Prop}:∀{l:List α} {n i:Nat} {a:α},allI F l n->l[i]? =some a->F (n+i) a
 |[],_,i,a,_,h=>by simp at h
 |b::l,n,0,a,h,hi=>by simp at hi;subst hi;exact h.1
 |b::l,n,i+1,a,h,hi=>by
  have:=Ea (i:=i) h.2 (by simpa using hi)
  rwa [show n+1+i=n+(i+1) by omega] at this
section
variable {P:Program} {K:Env->World->Prop} {E:Env} {w:World}
def Pe (P:Program) (J:(Nat->Bool)->Env->World->Prop) (i:Nat) (r:Op×Option Nat×TypeId×List Nat):Prop:=
 ∀L E w o,o.op=r.1->o.dst=r.2.1->o.type=r.2.2.1->L i=false->(∀j∈r.2.2.2,L j=true)->J L E w->o3 P o E w λE' w'=>J (jy L i) E' w'
theorem Nu {c:Code} (TJ:List (Op×Option Nat×TypeId×List Nat)) (ht:(Code.ops c).toList.map rowOf=TJ) (J:(Nat->Bool)->Env->World->Prop) (h0:J (λ_=>false) E w.drew) (step:allI (Pe P J) TJ 0)
  (fin:∀L E w,(∀i,i<TJ.length->L i=true)->J L E w->K E w):igK P c K E w:=by
 refine ⟨J,h0,λL E w i o ho hi hd hJ=>?_,λL E w hL hJ=>fin L E w (λi hi=>hL i ?_) hJ⟩
 .have hr:TJ[i]? =some (rowOf o):=by rw [<-ht,List.getElem?_map,Array.getElem?_toList,ho];rfl
  have:=Ea step hr
  rw [Nat.zero_add] at this
  refine this L E w o rfl rfl rfl hi (λj hj=>?_) hJ
  obtain ⟨e,he,rfl⟩:=pX.1 hj
  obtain ⟨h1,h2⟩:=List.mem_filter.1 he
  exact hd e (by simpa using h1) h2
 .rw [<-ht,List.length_map] at hi
  simpa using hi
theorem wH {o:Oper} {t:Nat} {v:Value} (ho:o.op=.move (.tmp t)\/o.op=.assign (.tmp t)) (ht:E.get? t=some v) (h:K (E.put o.dst v) w):o3 P o E w K:=by
 obtain ⟨dst,op,ty,pos,after,guard⟩:=o
 have ev:E.ev (.tmp t)=v:=by simp [Env.ev,Env.val,ht]
 rcases ho with ho|ho<;>(simp only at ho;subst ho)
 .show iB P _ E (λv _=>K (E.put dst v) w)
  have hc:E.gh ⟨dst,.move (.tmp t),ty,pos,after,guard⟩=true:=by simp [Env.gh,Op.operands,Env.val,ht]
  unfold iB
  rw [hc]
  show K (E.put dst (E.ev (.tmp t))) w
  rw [ev];exact h
 .show iB P _ E (λv _=>K (E.put dst v) w)
  have hc:E.gh ⟨dst,.assign (.tmp t),ty,pos,after,guard⟩=true:=by simp [Env.gh,Op.operands,Env.val,ht]
  unfold iB
  rw [hc]
  show K (E.put dst (E.ev (.tmp t))) w
  rw [ev];exact h
theorem Av {o:Oper} {T:TypeId} {t:Nat} {p:Addr} (ho:o.op=.load T (.tmp t)) (ht:E.get? t=some (.pointer (some p))) (h:Bd P T p w λv _=>K (E.put o.dst v) w):o3 P o E w K:=by
 obtain ⟨dst,op,ty,pos,after,guard⟩:=o
 simp only at ho
 subst ho
 show (match E.val (.tmp t) with |some (.pointer (some p))=>Bd P T p w (λv _=>K (E.put dst v) w)|_=>False)
 rw [show E.val (.tmp t)=some (.pointer (some p)) from ht]
 exact h
theorem VG {o:Oper} {f t1 t2:Nat} {v1 v2:Value} (ho:o.op=.makeFunc (.func f) #[] #[.tmp t1,.tmp t2]) (h1:E.get? t1=some v1) (h2:E.get? t2=some v2) (h:K (E.put o.dst (.func (.func f) #[] #[v1,v2])) w):o3 P o E w K:=by
 obtain ⟨dst,op,ty,pos,after,guard⟩:=o
 simp only at ho
 subst ho
 show iB P _ E (λv _=>K (E.put dst v) w)
 have hc:E.gh ⟨dst,.makeFunc (.func f) #[] #[.tmp t1,.tmp t2],ty,pos,after,guard⟩=true:=by simp [Env.gh,Op.operands,Env.val,h1,h2]
 unfold iB
 rw [hc]
 show K (E.put dst (.func (.func f) (#[].map E.ev) (#[.tmp t1,.tmp t2].map E.ev))) w
 have e1:E.ev (.tmp t1)=v1:=by simp [Env.ev,Env.val,h1]
 have e2:E.ev (.tmp t2)=v2:=by simp [Env.ev,Env.val,h2]
 simp only [List.map_toArray,List.map_cons,List.map_nil,e1,e2]
 exact h
theorem VH {o:Oper} {T:TypeId} (ho:o.op=.makeMap T none) (h:K (E.put o.dst (.map (some w.heap.size))) (w.alloc (.map #[] 0))):o3 P o E w K:=by
 obtain ⟨dst,op,ty,pos,after,guard⟩:=o
 simp only at ho
 subst ho
 have hc:E.gh ⟨dst,.makeMap T none,ty,pos,after,guard⟩=true:=by simp [Env.gh,Op.operands]
 have he:xm P ⟨dst,.makeMap T none,ty,pos,after,guard⟩ E w (λv w'=>K (E.put dst v) w'):=by
  unfold xm
  rw [hc]
  exact h
 unfold o3
 simp only [calm,cond_false]
 unfold mM
 exact he
theorem tL {o:Oper} {T:TypeId} {m k v:Operand} {m' k' v':Value} (ho:o.op=.insert T m k v) (hm:E.val m=some m') (hk:E.val k=some k') (hv:E.val v=some v') (h:∃w',(Instr.mapUpdate T m' k' v').run P w=.ok () w'/\K (E.put o.dst undef) w'):o3 P o E w K:=by
 obtain ⟨dst,op,ty,pos,after,guard⟩:=o
 simp only at ho
 subst ho
 show (match E.val m,E.val k,E.val v with |some m,some k,some v=>ED P (Instr.mapUpdate T m k v) w (λv w'=>K (E.put dst v) w')|_,_,_=>False)
 rw [hm,hk,hv]
 exact h
theorem Au {o:Oper} {t a b f:Nat} {ts:Array TypeId} {first captured:Array Value} {x y:Value} (ho:o.op=.call ⟨.value (.tmp t),#[.tmp a,.tmp b],ts⟩) (ht:E.get? t=some (.func (.func f) first captured)) (ha:E.get? a=some x) (hb:E.get? b=some y) (hc:fK P f=true)
  (h:Calls P f (first++#[x,y]++captured) w λe w'=>vV (zeroOf P o.type) λv=>e=.returned v/\K (E.put o.dst v) w'):o3 P o E w K:=by
 obtain ⟨dst,op,ty,pos,after,guard⟩:=o
 simp only at ho
 subst ho
 show hU (E.gh ⟨dst,.call ⟨.value (.tmp t),#[.tmp a,.tmp b],ts⟩,ty,pos,after,guard⟩) (match E.get? t with
  |some (.func (.func f) first captured)=>hU (fK P f) (uS P f (first++(#[Operand.tmp a,.tmp b]).map E.ev++captured) (zeroOf P ty) w (λv w'=>K (E.put dst v) w'))
  |_=>False)
 have Xr:E.gh ⟨dst,.call ⟨.value (.tmp t),#[.tmp a,.tmp b],ts⟩,ty,pos,after,guard⟩=true:=by simp [Env.gh,Op.operands,Call.operands,Env.val,ht,ha,hb]
 rw [Xr,ht]
 show hU (fK P f) _
 rw [hc]
 have e1:E.ev (.tmp a)=x:=by simp [Env.ev,Env.val,ha]
 have e2:E.ev (.tmp b)=y:=by simp [Env.ev,Env.val,hb]
 show uS P f _ _ w _
 simp only [List.map_toArray,List.map_cons,List.map_nil,e1,e2]
 exact h
def vA (T:List (Nat×Nat×Value)) (L:Nat->Bool) (E:Env):Prop:=∀q∈T,(bif Nat.beq q.1 0 then true else L (q.1 - 1))=true->E.get? q.2.1=some q.2.2
theorem vA.get {T:List (Nat×Nat×Value)} {L:Nat->Bool} (h:vA T L E) {i d:Nat} {v:Value} (hq:(i,d,v)∈T) (hi:(bif Nat.beq i 0 then true else L (i - 1))=true):E.get? d=some v:=h _ hq hi
theorem eW {E:Env} {d t:Nat} {v:Value} (h:d≠t):(E.put (some d) v).get? t=E.get? t:=by
 have:Nat.beq d t=false:=by rw [<-Bool.not_eq_true,Nat.beq_eq];exact h
 simp only [Env.put,Env.get?,this,cond_false]
theorem tY {E:Env} {d:Nat} {v:Value}:(E.put (some d) v).get? d=some v:=by simp [Env.put,Env.get?]
theorem vA.fill {T:List (Nat×Nat×Value)} {L:Nat->Bool} (h:vA T L E) {i d:Nat} {v:Value} (h1:∀q∈T,q.1=i+1->q=(i+1,d,v)) (h2:∀q∈T,q.2.1=d->q.1=i+1):vA T (jy L i) (E.put (some d) v):=by
 intro q hq hc
 by_cases hd:q.2.1=d
 .obtain rfl:=h1 q hq (h2 q hq hd)
  exact tY
 .rw [eW (λe=>hd e.symm)]
  refine h q hq ?_
  by_cases h0:q.1=0
  .rw [h0];rfl
  .have hb:Nat.beq q.1 0=false:=by rw [<-Bool.not_eq_true,Nat.beq_eq];exact h0
   rw [hb] at hc ⊢
   have ie:q.1 - 1≠i:=λe=>hd (by rw [h1 q hq (by omega)])
   have:Nat.beq (q.1 - 1) i=false:=by rw [<-Bool.not_eq_true,Nat.beq_eq];exact ie
   simpa [jy,this] using hc
theorem vA.pass {T:List (Nat×Nat×Value)} {L:Nat->Bool} (h:vA T L E) {i:Nat} {d:Option Nat} {v:Value} (h1:∀q∈T,q.1≠i+1) (h2:∀q∈T,d≠some q.2.1):vA T (jy L i) (E.put d v):=by
 intro q hq hc
 have he:(E.put d v).get? q.2.1=E.get? q.2.1:=by
  cases d with
  |none=>rfl
  |some d=>exact eW λe=>h2 q hq (by rw [e])
 rw [he]
 refine h q hq ?_
 by_cases h0:q.1=0
 .rw [h0];rfl
 .have hb:Nat.beq q.1 0=false:=by rw [<-Bool.not_eq_true,Nat.beq_eq];exact h0
  rw [hb] at hc ⊢
  have ie:q.1 - 1≠i:=λe=>h1 q hq (by omega)
  have:Nat.beq (q.1 - 1) i=false:=by rw [<-Bool.not_eq_true,Nat.beq_eq];exact ie
  simpa [jy,this] using hc
end
structure LC (w:World) (L:List (Nat×List Value×TypeId)):Prop where
 own:∀(i:Nat) (x:Nat×List Value×TypeId),L[i]? =some x->w.heap[x.1]? =some (.cells x.2.1.toArray x.2.2 (0,0))
 dj:∀(i j:Nat) (x y:Nat×List Value×TypeId),L[i]? =some x->L[j]? =some y->x.1=y.1->i=j
abbrev qi (L:List (Nat×List Value×TypeId)):List Nat:=L.map (·.1)
def loc (bs:List Nat) (w:World) (K:World->Prop):Prop:=∀w',Fr (·∈bs) w w'->K w'
def bE (bs:List Nat) (w:World) (K:Nat->World->Prop):Prop:=∀b w',w.heap.size<=b->w'.heap.size=b+1->Fr (·∈bs) w w'->K b w'
def fE (bs:List Nat) (P:Program) (f:FuncId) (args:Array Value) (w:World) (K:aD):Prop:=∃M:Nat->Prop,(∀b∈bs,¬M b)/\Calls P f args w λr w'=>Fr M w w'/\K r w'
def kept (bs:List Nat) (w w':World):Prop:=∀b∈bs,w'.heap[b]? =w.heap[b]?
theorem NZ {q:Option Addr} {K K':Addr->Prop} (h:aW q K) (f:∀p,K p->K' p):aW q K':=by
 cases q with
 |none=>exact h
 |some p=>exact f p h
theorem JP {t:Bool} {A B A' B':Prop} (h:aG t A B) (h1:A->A') (h2:B->B'):aG t A' B':=Ol h1 h2 h
theorem pZ {w:World} {p:Addr} {v:Value} {K K':World->Prop} (h:bT w p v K) (f:∀w1,K w1->K' w1):bT w p v K':=⟨h.1,h.2.1,f _ h.2.2⟩
section
variable {w wT:World} {L:List (Nat×List Value×TypeId)}
theorem LC.nil (w:World):LC w []:=⟨λi x h=>by simp at h,λi j x y h=>by simp at h⟩
theorem LC.blk (H:LC w L) {b:Nat} (hb:b∈qi L):∃(i:Nat) (x:Nat×List Value×TypeId),L[i]? =some x/\x.1=b:=by
 obtain ⟨x,hx,rfl⟩:=pX.1 hb
 obtain ⟨i,hi⟩:=LO.1 hx
 exact ⟨i,x,hi,rfl⟩
theorem LC.lt (H:LC w L) {b:Nat} (hb:b∈qi L):b<w.heap.size:=by
 obtain ⟨i,x,hi,rfl⟩:=H.blk hb
 exact gq (H.own i x hi)
theorem LC.yj {w':World} (H:LC w L) (h:kept (qi L) w w'):LC w' L:=
 ⟨λi x hi=>by rw [h x.1 (pX.2 ⟨x,cR hi,rfl⟩)];exact H.own i x hi,H.dj⟩
theorem LC.fr {M:Nat->Prop} {w':World} (H:LC w L) (f:Fr M w w') (hm:∀b∈qi L,¬M b):LC w' L:=H.yj λb hb=>f.gY b (H.lt hb) (hm b hb)
theorem LC.pick (H:LC w L) (is:List Nat) (hn:is.Nodup):LC w (is.filterMap λi=>L[i]?):=by
 induction is with
 |nil=>exact LC.nil w
 |cons k is ih=>
  have ih:=ih (List.nodup_cons.1 hn).2
  cases hk:L[k]? with
  |none=>rw [List.filterMap_cons_none hk];exact ih
  |some x=>
   rw [List.filterMap_cons_some hk]
   have back:∀(j:Nat) y,(is.filterMap λi=>L[i]?)[j]? =some y->y.1≠x.1:=by
    intro j y hy e
    obtain ⟨m,hm,hmy⟩:=List.mem_filterMap.1 (cR hy)
    have:=H.dj m k y x hmy hk e
    subst this
    exact (List.nodup_cons.1 hn).1 hm
   refine ⟨λi y hi=>?_,λi j y z hi hj e=>?_⟩
   .cases i with
    |zero=>simp at hi;subst hi;exact H.own k x hk
    |succ i=>exact ih.own i y (by simpa using hi)
   .cases i with
    |zero=>
     cases j with
     |zero=>rfl
     |succ j=>simp at hi;subst hi;exact absurd e.symm (back j z (by simpa using hj))
    |succ i=>
     cases j with
     |zero=>simp at hj;subst hj;exact absurd e (back i y (by simpa using hi))
     |succ j=>rw [ih.dj i j y z (by simpa using hi) (by simpa using hj) e]
theorem LC.ld (H:LC w L) (i j:Nat) {b:Nat} {vs:List Value} {T:TypeId} {v:Value} (hi:L[i]? =some (b,vs,T):=by rfl) (hj:vs[j]? =some v:=by rfl):w.cell? ((bD b).add j)=some v:=
 cellAt (p:=bD b) (H.own i _ hi) rfl (by simpa using hj)
theorem LC.HR (H:LC w L) (i:Nat) {b:Nat} {vs:List Value} {T:TypeId} {v:Value} (hi:L[i]? =some (b,vs,T):=by rfl) (hj:vs[0]? =some v:=by rfl):w.cell? (bD b)=some v:=by
 have:=H.ld i 0 hi hj
 rwa [uN] at this
theorem LC.alloc (H:LC w L) (o:Obj):LC (w.alloc o) L:=H.fr (M:=λ_=>False) (Fr.alloc _ _ _) (λ_ _ h=>h)
theorem LC.push (H:LC w L) (cs:Array Value) (T:TypeId):LC (w.alloc (.cells cs T)) (L++[(w.heap.size,cs.toList,T)]):=by
 have H1:=H.alloc (.cells cs T)
 have AT:∀(i:Nat) x,L[i]? =some x->x.1<w.heap.size:=λi x hi=>gq (H.own i x hi)
 have ix:∀(i:Nat) x,(L++[(w.heap.size,cs.toList,T)])[i]? =some x->(L[i]? =some x)\/(i=L.length/\x=(w.heap.size,cs.toList,T)):=by
  intro i x hi
  rw [List.getElem?_append] at hi
  split at hi
  .exact .inl hi
  .rename_i hl
   right
   have:i - L.length=0:=by
    rcases Nat.eq_zero_or_pos (i - L.length) with h|h
    .exact h
    .rw [List.getElem?_eq_none (by simp;omega)] at hi;cases hi
   rw [this] at hi
   simp at hi
   exact ⟨by omega,hi.symm⟩
 refine ⟨λi x hi=>?_,λi j x y hi hj e=>?_⟩
 .rcases ix i x hi with h|⟨_,rfl⟩
  .exact H1.own i x h
  .simp only [Array.toArray_toList]
   exact mO w _
 .rcases ix i x hi with h|⟨h,rfl⟩
  .rcases ix j y hj with h'|⟨h',rfl⟩
   .exact H.dj i j x y h h' e
   .have:=AT i x h;simp only at e;omega
  .rcases ix j y hj with h'|⟨h',rfl⟩
   .have:=AT j y h';simp only at e;omega
   .omega
theorem LC.Ep (H:LC w L) {P:Program} {g:FuncId} {args:Array Value} {K K':aD} (h:fE (qi L) P g args w K') (hk:∀r w',LC w' L->K' r w'->K r w'):Calls P g args w K:=by
 obtain ⟨M,hm,hc⟩:=h
 exact hc.mono λr w' ⟨f,h'⟩=>hk r w' (H.fr f hm) h'
theorem LC.W5 (H:LC w L) {K:World->Prop} (f:Fr (·∈qi L) wT w) (hk:∀w1,LC w1 L->Fr (·∈qi L) wT w1->K w1):vQ w K:=hk _ (H.fr (M:=λ_=>False) (Fr.drew _ _) (λ_ _ h=>h)) (f.AV (Fr.drew _ _))
theorem Hc (L:List (Nat×List Value×TypeId)) (i:Nat) {b:Nat} {vs AL:List Value} {T:TypeId} (hi:L[i]? =some (b,vs,T)):qi (L.set i (b,AL,T))=qi L:=by
 apply List.ext_getElem?
 intro k
 simp only [qi,List.getElem?_map,Zm]
 split
 .rename_i e
  subst e
  rw [hi]
  split
  .rfl
  .rename_i h;exact absurd (ov.1 hi).1 h
 .rfl
theorem LC.set (H:LC w L) (i j:Nat) {b:Nat} {vs:List Value} {T:TypeId} {v:Value} (hi:L[i]? =some (b,vs,T)) (hj:j<vs.length) (f:Fr (·∈qi L) wT w):
  (w.cell? ((bD b).add j)).isSome=true/\w.frozen? ((bD b).add j)=false/\LC (w.setCell ((bD b).add j) v) (L.set i (b,vs.set j v,T))/\Fr (·∈qi (L.set i (b,vs.set j v,T))) wT (w.setCell ((bD b).add j) v):=by
 obtain ⟨x1,x2,x3,x4⟩:=JR (H.own i _ hi) j (by simpa using hj) v
 have hb:b∈qi L:=pX.2 ⟨_,cR hi,rfl⟩
 refine ⟨x1,x2,⟨λk x hk=>?_,λk m x y hk hm e=>?_⟩,?_⟩
 .rw [Zm] at hk
  split at hk
  .split at hk
   .cases hk
    simp only
    rw [x3]
    simp
   .cases hk
  .rename_i ie
   have:=x4.gY x.1 (gq (H.own k x hk)) (λe=>ie (H.dj i k _ x hi hk e.symm))
   rw [this]
   exact H.own k x hk
 .have g:∀(k:Nat) x,(L.set i (b,vs.set j v,T))[k]? =some x->∃y,L[k]? =some y/\y.1=x.1:=by
   intro k x hk
   rw [Zm] at hk
   split at hk
   .rename_i e;subst e
    split at hk
    .cases hk;exact ⟨_,hi,rfl⟩
    .cases hk
   .exact ⟨x,hk,rfl⟩
  obtain ⟨x',h1,e1⟩:=g k x hk
  obtain ⟨y',h2,e2⟩:=g m y hm
  exact H.dj k m x' y' h1 h2 (by rw [e1,e2,e])
 .rw [Hc L i hi]
  exact f.trans x4 λx _ e=>e▸hb
theorem nN {bs:List Nat} {P:Program} {f:FuncId} {args:Array Value} {K:aD} (h:Calls P f args w λr w'=>bG w w'/\K r w'):fE bs P f args w K:=⟨λ_=>False,λ_ _ h=>h,h⟩
end
def En.g (b:Nat):En:=⟨[b],λw=>b<w.heap.size,λw w' h hp=>(by
  have:=h b (by simp) hp
  rcases Nat.lt_or_ge b w'.heap.size with h1|h1
  .exact h1
  .rw [Array.getElem?_eq_none h1,Array.getElem?_eq_getElem hp] at this;cases this),λw hp x hx=>by simp at hx;subst hx;exact hp,by simp⟩
section
variable {M:Nat->Prop} {w0 w:World} {L D:List En} {bs:List Nat}
theorem LH.ghost (H:LH M w0 w L D) {w':World} (f:Fr (·∈bs) w w') (ke:∀b∈bs,En.g b∈L):LH M w0 w' L D:=by
 refine ⟨H.fr.trans f λx hx hm=>(H.new _ (ke x hm) x (by simp [En.g])).resolve_left (by omega),λe he=>?_,λe he=>?_,H.new,H.nd,H.dj⟩
 .by_cases hg:∃b∈bs,b∈e.fp
  .obtain ⟨b,hb,rS⟩:=hg
   obtain ⟨i,hi⟩:=LO.1 he
   obtain ⟨j,hj⟩:=LO.1 (ke b hb)
   have yG:i=j:=by
    rcases Nat.decEq i j with h|h
    .exact absurd (by simp [En.g]) (pQ H.nd hi hj h b rS)
    .exact h
   subst yG
   rw [hi] at hj
   cases hj
   exact Nat.lt_of_lt_of_le (H.own _ he) f.size
  .exact e.st w w' (λb hb hl=>f.gY b hl λhm=>hg ⟨b,hm,hb⟩) (H.own e he)
 .exact e.st w w' (λb hb hl=>f.gY b hl λhm=>H.dj e he b hb _ (ke b hm) (by simp [En.g])) (H.rd e he)
theorem LH.aL (H:LH M w0 w L D) {K:World->Prop} (hk:∀w1,LH M w0 w1 L D->K w1) (ke:∀b∈bs,En.g b∈L:=by simp):loc bs w K:=λ_ f=>hk _ (H.ghost f ke)
theorem LH.bF (H:LH M w0 w L D) {K:Nat->World->Prop} (hk:∀b w1,LH M w0 w1 (L++[.g b]) D->K b w1) (ke:∀b∈bs,En.g b∈L:=by simp):bE bs w K:=λb w1 h1 h2 f=>hk b w1 (by
 have H1:=H.ghost f ke
 refine ⟨H1.fr,λe he=>?_,H1.rd,λe he x hx=>?_,?_,λe he x hx e' mG E6=>?_⟩
 .rcases fS.1 he with he|he
  .exact H1.own e he
  .simp at he;subst he;show b<_;omega
 .rcases fS.1 he with he|he
  .exact H.new e he x hx
  .simp at he;subst he;simp [En.g] at hx;subst hx;exact .inl (Nat.le_trans H.fr.size h1)
 .rw [r8,Bj]
  refine ⟨H.nd,by simp [En.g],λx hx y hy=>?_⟩
  have:=H.Ie x hx
  simp [En.g] at hy
  omega
 .rcases fS.1 mG with mG|mG
  .exact H.dj e he x hx e' mG E6
  .simp at mG;subst mG;simp [En.g] at E6;subst E6
   have:=e.lt w (H.rd e he) x hx
   omega)
theorem LH.aK (H:LH M w0 w L D) {P:Program} {g:FuncId} {args:Array Value} {A K:aD} (hc:Calls P g args w λr w'=>A r w'/\bG w w') (hk:∀r w',A r w'->LH M w0 w' L D->K r w'):fE bs P g args w K:=
 nN (hc.mono λr w' ⟨ha,f⟩=>⟨f,hk r w' ha (H.pI f)⟩)
theorem LH.call (H:LH M w0 w L D) {P:Program} {g:FuncId} {args:Array Value} {A K:aD} (hc:Calls P g args w λr w'=>A r w'/\bG w w') (hk:∀r w',A r w'->LH M w0 w' L D->K r w'):Calls P g args w K:=
 hc.mono λr w' ⟨ha,f⟩=>hk r w' ha (H.pI f)
theorem LH.Tc (H:LH M w0 w L D) {w':World} (f:bG w w') {e:TypeId} {sz:Nat} {s:Sl} {vs:List Value} (h:aO w' e sz s vs) (hn:∀b∈aZ s,w.heap.size<=b):LH M w0 w' (L++[.row e sz s vs]) D:=H.push (.row e sz s vs) f h hn
theorem LH.apk (H:LH M w0 w L D) (i:Nat) {P:Program} {t ty e:TypeId} {z:Value} {sz bytes:Nat} (el:iy P t e z sz bytes) {s src:Sl} {xs news:List Value} {K:Sl->World->Prop}
  (hi:L[i]? =some (.row e sz s xs)) (hr:o7 w src news) (hl:news.length=src.n *sz) (h1:∀u∈news,u.oneCell'=true) (hb:(s.n+src.n) *bytes<=140737488355328)
  (hK:∀s' w',LH M w0 w' (L.set i (.row e sz s' (xs++news))) D->s'.n=s.n+src.n->(s'.a=none->s.a=none/\src.n=0)->(∀b,En.g b∈L->w'.heap[b]? =w.heap[b]?)->K s' w'):
  ∃s' w',(Builtin.append_ #[t,t] ty #[s.v,src.v]).run P w=.ok s'.v w'/\K s' w':=by
 obtain ⟨s',w',g1,g2,g3,g4,g5,g6⟩:=qF (ty:=ty) el (H.get i hi) hr hl h1 hb
 refine ⟨s',w',g1,hK s' w' (H.D2 i (.row e sz s' (xs++news)) hi g4 g2 g5) g3 g6 λb hb=>?_⟩
 refine g4.gY b (H.own _ hb) λhm=>?_
 obtain ⟨j,hj⟩:=LO.1 hb
 by_cases yG:i=j
 .subst yG
  rw [hi] at hj
  cases HE:(En.row e sz s xs) with
  |mk fp P' st lt nd=>
   have e1:En.row e sz s xs=En.g b:=Option.some.inj hj
   have e2:(En.row e sz s xs).P=(En.g b).P:=by rw [e1]
   have e3:=congrFun e2 w
   have e4:(En.row e sz s xs).P (w.alloc (.cells #[] e))=(En.g b).P (w.alloc (.cells #[] e)):=by rw [e1]
   have f1:(En.row e sz s xs).fp=(En.g b).fp:=by rw [e1]
   have KE:(En.g b).P ({w with heap:=Array.replicate (b+1) (.map #[] 0)}):=by show b<_;simp
   rw [<-e2] at KE
   have hty:=(aO.row (show aO ({w with heap:=Array.replicate (b+1) (.map #[] 0)}) e sz s xs from KE)).VT b hm
   obtain ⟨cs,f,hc⟩:=hty
   simp at hc
 .exact pQ H.nd hi hj yG b hm (by simp [En.g])
end
def jU (sz:Nat) (w:World) (s:Sl) (vs:List Value):Prop:=vs.length=s.n *sz/\s.n<=s.c/\o7 w s vs
theorem jU.fr {sz:Nat} {M:Nat->Prop} {w w':World} {s:Sl} {vs:List Value} (h:jU sz w s vs) (hf:Fr M w w') (hn:∀b∈aZ s,¬M b):jU sz w' s vs:=⟨h.1,h.2.1,h.2.2.fr hf hn⟩
theorem jU.pI {sz:Nat} {w w':World} {s:Sl} {vs:List Value} (h:jU sz w s vs) (hf:bG w w'):jU sz w' s vs:=h.fr hf λ_ _ h=>h
theorem aO.iD {w:World} {e:TypeId} {sz:Nat} {s:Sl} {vs:List Value} (h:aO w e sz s vs):jU sz w s vs:=⟨h.len,h.cap,h.row.MT⟩
theorem jU.nil (sz:Nat) (w:World):jU sz w ⟨none,0,0⟩ []:=⟨by simp,Nat.le_refl _,o7.nil w⟩
def En.iD (sz:Nat) (s:Sl) (vs:List Value):En:=⟨if vs=[] then [] else aZ s,λw=>jU sz w s vs,λw w' h hp=>by
  refine ⟨hp.1,hp.2.1,hp.2.2.1,λi v hi=>?_⟩
  obtain ⟨p,ha,hc⟩:=hp.2.2.2 i v hi
  have ie:vs≠[]:=λe=>by subst e;simp at hi
  rw [if_neg ie] at h
  have:=h p.block (by simp [aZ,ha]) (by have:=pP hc;rwa [gP] at this)
  refine ⟨p,ha,?_⟩
  unfold World.cell? at hc ⊢
  rw [gP] at hc ⊢
  rw [this];exact hc,λw hp b hb=>by
  split at hb
  .cases hb
  .rename_i ie
   have h0:0<vs.length:=List.length_pos_iff.2 ie
   obtain ⟨p,ha,hc⟩:=hp.2.2.2 0 vs[0] (g8 h0)
   simp [aZ,ha] at hb
   subst hb
   have:=pP hc
   rwa [gP] at this,by split<;>(try simp);unfold aZ;split<;>simp⟩
def Ay (sz:Nat) (s:Sl) (l h:Nat):Sl:=⟨if s.c=l then s.a else s.a.map (·.add (l *sz)),h - l,s.c - l⟩
theorem jU.sub {sz:Nat} {w:World} {s:Sl} {vs:List Value} (h:jU sz w s vs) (l hi:Nat) (hl:l<=hi) (hh:hi<=s.n):jU sz w (Ay sz s l hi) ((vs.take (hi *sz)).drop (l *sz)):=by
 obtain ⟨h1,h2,h3,h4⟩:=h
 have e1:hi *sz<=s.n *sz:=Nat.mul_le_mul_right _ hh
 refine ⟨?_,?_,?_,λi v hv=>?_⟩
 .rw [List.length_drop,List.length_take,h1,Nat.min_eq_left e1]
  show _=(hi - l) *sz
  rw [Nat.sub_mul]
 .show hi - l<=s.c - l
  omega
 .intro ha
  unfold Ay at ha ⊢
  simp only at ha ⊢
  split at ha
  .have:=h3 ha;omega
  .cases hs:s.a with
   |none=>have:=h3 hs;omega
   |some p=>rw [hs] at ha;cases ha
 .rw [List.getElem?_drop] at hv
  have lV:l *sz+i<hi *sz:=by
   have:=(ov.1 hv).1
   rw [List.length_take] at this
   omega
  rw [Vv,if_pos lV] at hv
  obtain ⟨p,hp,hc⟩:=h4 _ _ hv
  have ie:s.c≠l:=λe=>by
   have:hi<=l:=by omega
   have:=Nat.mul_le_mul_right sz this
   omega
  refine ⟨p.add (l *sz),?_,?_⟩
  .unfold Ay
   simp only
   rw [if_neg ie,hp]
   rfl
  .rw [add_add];exact hc
def Jy:List Nat->List Nat
 |[]=>[]
 |a::l=>if a∈Jy l then Jy l else a::Jy l
theorem aH {x:Nat}:∀{l:List Nat},x∈Jy l↔x∈l
 |[]=>Iff.rfl
 |a::l=>by
  unfold Jy
  split
  .rename_i h
   rw [aH,cS]
   exact ⟨.inr,λh'=>h'.elim (λe=>by subst e;exact aH.1 h) id⟩
  .rw [cS,cS,aH]
theorem l8:∀l:List Nat,(Jy l).Nodup
 |[]=>.nil
 |a::l=>by
  unfold Jy
  split
  .exact l8 l
  .rename_i h
   exact List.nodup_cons.2 ⟨h,l8 l⟩
def En.all (es:List En):En:=⟨Jy (es.flatMap (·.fp)),λw=>∀e∈es,e.P w,λw w' h hp e he=>e.st w w' (λb hb hl=>h b (aH.2 (mI.2 ⟨e,he,hb⟩)) hl) (hp e he),
 λw hp b hb=>(by
  obtain ⟨e,he,rS⟩:=mI.1 (aH.1 hb)
  exact e.lt w (hp e he) b rS),l8 _⟩
section
variable {M:Nat->Prop} {w0 w:World} {L D:List En} {bs:List Nat}
structure LU (M:Nat->Prop) (w0 w w':World) (L D:List En):Prop where
 own:∀e:En,e.P w'->(∀b∈e.fp,w.heap.size<=b)->LH M w0 w' (L++[e]) D
 rd:∀e:En,e.P w'->(∀b∈e.fp,w.heap.size<=b)->LH M w0 w' L (D++[e])
theorem LH.fresh (H:LH M w0 w L D) {w':World} (f:bG w w'):LU M w0 w w' L D:=⟨λe h1 h2=>H.push e f h1 h2,λe h1 h2=>H.nf e f h1 λb hb=>.inl (h2 b hb)⟩
theorem LH.ri (H:LH M w0 w L D) {P:Program} {g:FuncId} {args:Array Value} {A K:aD} (hc:Calls P g args w λr w'=>A r w'/\bG w w') (hk:∀r w',A r w'->LH M w0 w' L D->LU M w0 w w' L D->K r w'):fE bs P g args w K:=
 nN (hc.mono λr w' ⟨ha,f⟩=>⟨f,hk r w' ha (H.pI f) (H.fresh f)⟩)
theorem LH.BG (H:LH M w0 w L D) {P:Program} {g:FuncId} {args:Array Value} {A K:aD} (hc:Calls P g args w λr w'=>A r w'/\bG w w') (hk:∀r w',A r w'->LH M w0 w' L D->LU M w0 w w' L D->K r w'):Calls P g args w K:=
 hc.mono λr w' ⟨ha,f⟩=>hk r w' ha (H.pI f) (H.fresh f)
end
theorem Ah {sz:Nat} {s:Sl} {vs:List Value} {n:Nat} (h:∀b∈aZ s,n<=b):∀b∈(En.iD sz s vs).fp,n<=b:=λb hb=>by
 have:b∈(if vs=[] then [] else aZ s):=hb
 split at this
 .cases this
 .exact h b this
section
variable {M:Nat->Prop} {w0 w:World} {L D:List En} {bs:List Nat}
theorem LH.Kc (H:LH M w0 w L D) (i:Nat) {P:Program} {t ty e:TypeId} {z:Value} {sz bytes:Nat} (el:iy P t e z sz bytes) {s src:Sl} {xs news:List Value} {K:Sl->World->Prop}
  (hi:L[i]? =some (.row e sz s xs)) (hr:jU sz w src news) (h1:∀u∈news,u.oneCell'=true) (hb:(s.n+src.n) *bytes<=140737488355328)
  (hK:∀s' w',LH M w0 w' (L.set i (.row e sz s' (xs++news))) D->K s' w') (ke:∀b∈bs,En.g b∈L:=by simp):
  ∃s' w',(Builtin.append_ #[t,t] ty #[s.v,src.v]).run P w=.ok s'.v w'/\kept bs w w'/\K s' w':=
 H.apk i el (K:=λs' w'=>kept bs w w'/\K s' w') hi hr.2.2 hr.1 h1 hb λs' w' h _ _ hk=>⟨λb eG=>hk b (ke b eG),hK s' w' h⟩
theorem LH.uj (H:LH M w0 w L D) (i:Nat) {P:Program} {t ty e:TypeId} {z:Value} {sz bytes:Nat} (el:iy P t e z sz bytes) {T:TypeId} {s:Sl} {xs:List Value} {news:Array Value} {K:Sl->World->Prop}
  (hi:L[i]? =some (.row e sz s xs)) (hK:∀s' w',LH M w0 w' (L.set i (.row e sz s' (xs++news.toList))) D->K s' w') (hb:(s.n+1) *bytes<=140737488355328) (hl:news.size=sz:=by rfl) (h1:∀u∈news.toList,u.oneCell'=true:=by simp [Value.oneCell']) (ke:∀b∈bs,En.g b∈L:=by simp):
  fH w (.cells news T) λw1=>∃s' w',(Builtin.append_ #[t,t] ty #[s.v,.slice (some (Addr.mk w.heap.size 0 none)) 1 1]).run P w1=.ok s'.v w'/\kept bs w1 w'/\K s' w':=by
 have H1:LH M w0 (w.alloc (.cells news T)) L D:=H.pI (Fr.alloc _ _ _)
 exact H1.Kc i el (src:=⟨some (bD w.heap.size),1,1⟩) (ty:=ty) (K:=K) (news:=news.toList) hi ⟨by simpa using hl,Nat.le_refl _,(Row.made w T 1 1 news.toList).MT⟩ h1 hb hK ke
end
theorem Dz {w:World} {e:TypeId} {sz:Nat} {s:Sl} {vs:List Value} (h:aO w e sz s vs) (i:Nat) (hi:i<vs.length) (v:Value):
  ∃p,s.a=some p/\p.block∈aZ s/\(w.cell? (p.add i)).isSome=true/\w.frozen? (p.add i)=false/\aO (w.setCell (p.add i) v) e sz s (vs.set i v)/\Fr (·∈aZ s) w (w.setCell (p.add i) v):=by
 have hl:=h.len
 rcases h.cases with ⟨rfl,rfl⟩|⟨g,cur,ha,hg,h1,h2,h3,h4⟩
 .simp at hi
 .have hle:s.n *sz<=s.c *sz:=Nat.mul_le_mul_right _ h1
  have mH:i<cur.size:=by omega
  have hb:g∈aZ s:=by simp [aZ,ha]
  refine ⟨⟨g,0,none⟩,ha,hb,?_,frozenAt (p:=⟨g,0,none⟩) hg,?_,Fr.set _ _ _ (by rw [gP];exact hb)⟩
  .rw [cellAt (p:=⟨g,0,none⟩) (v:=cur[i]) hg rfl (by simp [mH])];rfl
  .refine ⟨by simpa using h.1,.inr ⟨g,s.c,cur.setIfInBounds i v,?_,Nat.zero_le _,?_,h1,h2,by simpa using h3,?_⟩⟩
   .obtain ⟨a,n,c⟩:=s
    simp only at ha
    subst ha;rfl
   .have:=setAt (p:=⟨g,0,none⟩) (i:=i) (v:=v) hg rfl
    simpa using this
   .rw [Array.toList_setIfInBounds,List.take_set,h4]
section
variable {M:Nat->Prop} {w0 w:World} {L D:List En} {bs:List Nat}
theorem LH.vZ (H:LH M w0 w L D) {i:Nat} {e:TypeId} {sz:Nat} {s:Sl} {xs:List Value} (hi:L[i]? =some (.row e sz s xs)) {b:Nat} (hb:En.g b∈L):b∉aZ s:=λhm=>by
 obtain ⟨j,hj⟩:=LO.1 hb
 by_cases yG:i=j
 .subst yG
  rw [hi] at hj
  have e1:En.row e sz s xs=En.g b:=Option.some.inj hj
  have e2:(En.row e sz s xs).P=(En.g b).P:=by rw [e1]
  have KE:(En.g b).P ({w with heap:=Array.replicate (b+1) (.map #[] 0)}):=by show b<_;simp
  rw [<-e2] at KE
  obtain ⟨cs,f,hc⟩:=(aO.row (show aO ({w with heap:=Array.replicate (b+1) (.map #[] 0)}) e sz s xs from KE)).VT b hm
  simp at hc
 .exact pQ H.nd hi hj yG b hm (by simp [En.g])
theorem LH.Cr (H:LH M w0 w L D) (i a c:Nat) {e:TypeId} {sz:Nat} {s:Sl} {xs:List Value} {v:Value} {p:Addr} {K:World->Prop} (hi:L[i]? =some (.row e sz s xs)) (hp:s.a=some p) (hj:a+c<xs.length)
  (hK:∀w',LH M w0 w' (L.set i (.row e sz s (xs.set (a+c) v))) D->K w') (ke:∀b∈bs,En.g b∈L:=by simp):bT w ((p.add a).add c) v λw1=>kept bs w w1/\K w1:=by
 obtain ⟨q,hq,hqb,x1,x2,x3,x4⟩:=Dz (H.get i hi) (a+c) hj v
 rw [hp] at hq
 cases hq
 rw [add_add]
 refine ⟨x1,x2,λb hb=>?_,hK _ (H.D2 i (.row e sz s (xs.set (a+c) v)) hi x4 x3 (λb hb=>.inl hb))⟩
 exact x4.gY b (H.own _ (ke b hb)) λhm=>H.vZ hi (ke b hb) hm
end
def tJ:List Bool->List En->List En
 |true::m,a::l=>a::tJ m l
 |false::m,_::l=>tJ m l
 |_,_=>[]
theorem qg:∀(m:List Bool) (l:List En),(tJ m l).Sublist l
 |[],l=>by unfold tJ;exact List.nil_sublist _
 |true::m,[]=>by unfold tJ;exact List.nil_sublist _
 |false::m,[]=>by unfold tJ;exact List.nil_sublist _
 |true::m,a::l=>by unfold tJ;exact (qg m l).cons_cons a
 |false::m,a::l=>by unfold tJ;exact (qg m l).cons a
theorem OA {α β:Type} {f:α->List β} {l m:List α} (h:l.Sublist m):(l.flatMap f).Sublist (m.flatMap f):=by
 induction h with
 |slnil=>exact List.Sublist.refl _
 |cons a _ ih=>rw [vw];exact ih.trans (List.sublist_append_right _ _)
 |cons_cons a _ ih=>rw [vw,vw];exact (List.Sublist.refl _).append ih
theorem LH.tJ {M:Nat->Prop} {w0 w:World} {L D:List En} (H:LH M w0 w L D) (m:List Bool):LH M w0 w (tJ m L) D:=
 ⟨H.fr,λe he=>H.own e ((qg m L).subset he),H.rd,λe he=>H.new e ((qg m L).subset he),(OA (qg m L)).nodup H.nd,λe he b hb e' mG=>H.dj e he b hb e' ((qg m L).subset mG)⟩
theorem uE {s:Sl} {vs:List Value} {n:Nat} (h:∀b∈aZ s,n<=b):∀b∈(En.rd s vs).fp,n<=b:=λb hb=>by
 have:b∈(if vs=[] then [] else aZ s):=hb
 split at this
 .cases this
 .exact h b this
theorem oB {M:Nat->Prop} {w0 w:World} {L D:List En} (H:LH M w0 w L D) {i:Nat} {e:En} (hi:L[i]? =some e) (tj:∀(b:Nat),¬e.P ({w with heap:=Array.replicate (b+1) (.map #[] 0)})) {b:Nat} (hb:En.g b∈L):b∉e.fp:=by
 obtain ⟨j,hj⟩:=LO.1 hb
 by_cases yG:i=j
 .subst yG
  rw [hi] at hj
  have e1:e=En.g b:=Option.some.inj hj
  exfalso
  refine tj b ?_
  rw [e1]
  show b<_
  simp
 .intro hm
  exact pQ H.nd hi hj yG b hm (by simp [En.g])
end Go.W
