import Derived.OrdersHeld
import Derived.OrdersIn
import Derived.RangeFuncLeaves
import Derived.RangeFuncRecord
import Derived.RangeFuncSeq
import Derived.WalkKit
import Derived.Laws.AppendOwn
import Derived.Laws.StructEq
import Derived.KernelRfl
import Derived.Below
import Derived.OwnWalk
import Derived.IntWalk
import Derived.Laws.AppendOwnNone
set_option linter.unusedVariables false
set_option linter.defProp false
namespace Go.W
open Go renaming World->aA,Calls->aH,Program->aQ,Value->aD,TypeId->aP,Ending->cD
open Go.IntKind renaming wrap->aC
open _root_.ByteArray renaming mk->aE
open Go.Ending renaming returned->aJ
open List renaming mem_append->gg,mem_cons->dT,mem_of_getElem?->dI,getElem?_eq_getElem->ie,getElem?_eq_some_iff->nY,mem_append_right->wL,mem_flatMap->nG,mem_map->pN,mem_of_mem_take->U9,mem_singleton->IW,flatMap_append->rS,flatMap_cons->rT,mem_iff_getElem?->O2,getElem?_set->qgT,mem_or_eq_of_mem_set->qmO,nodup_append->zH,mem_cons_of_mem->mG,mem_cons_self->DL,all_eq_true->wo,getElem?_take->Zj,eq_nil_of_length_eq_zero->Zi
def aI {c:Prop}{h:Decidable c}(x:¬c){α:Sort _}{t e:α}:ite c t e=e:=_root_.if_neg x
def aN {c:Prop}{h:Decidable c}(x:c){α:Sort _}{t e:α}:ite c t e=t:=_root_.if_pos x
def aK {p:Prop}[i:Decidable p](x:¬p):decide p=false:=_root_.decide_eq_false x
def aO {p:Prop}[i:Decidable p](x:p):decide p=true:=_root_.decide_eq_true x
abbrev Env:=List (Nat×aD)
def Env.get? :Env->Nat->Option aD
 |[],_=>none
 |(k,v)::E,t=>bif Nat.beq k t then some v else Env.get? E t
def Env.val (E:Env):Operand->Option aD
 |.tmp t=>E.get? t
 |.const v=>some v
 |.global g=>some (.pointer (some ⟨g,0,none⟩))
 |.func f=>some (.func (.func f) #[] #[])
def Env.ev (E:Env) (x:Operand):aD:=(E.val x).getD undef
def Env.put (E:Env) (d:Option Nat) (v:aD):Env:=
 match d with
 |some d=>(d,v)::E
 |none=>E
def Env.fT (E:Env) (o:Oper):Bool:=o.op.operands.toList.all λx=>(E.val x).isSome
structure Cx where
 n:Nat
 ds:List Deferred
 ro:Option Nat
instance:CoeHead Cx Nat:=⟨Cx.n⟩
abbrev cx (n:Nat):Cx:=⟨n,[],none⟩
abbrev FW (n:Cx):Fence:={Fence.wide with round:=n.ro}
structure Ag (n:Cx) (a:Act) (E:Env):Prop where
 defers:a.defers=n.ds
 size:a.tmps.size=n.n
 get:∀t v,E.get? t=some v->a.tmps[t]? =some v
def Ag.val {n:Cx} {a:Act} {E:Env} (h:Ag n a E) {x:Operand} {v:aD} (hx:E.val x=some v):a.eval x=v:=by
 cases x with
 |tmp t=>have:=h.get t v hx;simp [Act.eval,this]
 |const u=>simpa [Env.val,Act.eval] using hx
 |global g=>simpa [Env.val,Act.eval] using hx
 |func f=>simpa [Env.val,Act.eval] using hx
def Ag.ev {n:Cx} {a:Act} {E:Env} (h:Ag n a E) {x:Operand} (hx:(E.val x).isSome=true):a.eval x=E.ev x:=by
 obtain ⟨v,hv⟩:=Option.isSome_iff_exists.1 hx
 rw [h.val hv,Env.ev,hv];rfl
def Ag.put {n:Cx} {a:Act} {E:Env} (h:Ag n a E) {d:Option Nat} (v:aD) (hd:∀t,d=some t->t<n.n):Ag n (a.put d v) (E.put d v):=by
 cases d with
 |none=>exact h
 |some t=>
  refine ⟨h.defers,by simp [Act.put,h.size],?_⟩
  intro s u hs
  have ht:t<a.tmps.size:=by rw [h.size];exact hd t rfl
  simp only [Env.put,Env.get?] at hs
  by_cases e:t=s
  .subst e
   simp at hs
   simp [Act.put,ht,hs]
  .have:Nat.beq t s=false:=by rw [<-Bool.not_eq_true,Nat.beq_eq];exact e
   simp only [this,cond_false] at hs
   simpa [Act.put,Array.getElem?_setIfInBounds_ne e] using h.get s u hs
def Ag.nil {n:Cx} {a:Act} {E:Env} (h:Ag n a E):Ag n a []:=⟨h.defers,h.size,λ_ _ h=>by simp [Env.get?] at h⟩
def Ag.cons {n:Cx} {a:Act} {E F:Env} (h:Ag n a E) {t:Nat} {v:aD} (ht:E.get? t=some v) (hF:Ag n a F):Ag n a ((t,v)::F):=by
 refine ⟨h.defers,h.size,?_⟩
 intro s u hs
 simp only [Env.get?] at hs
 by_cases e:t=s
 .subst e;simp at hs;subst hs;exact h.get _ _ ht
 .have:Nat.beq t s=false:=by rw [<-Bool.not_eq_true,Nat.beq_eq];exact e
  simp only [this,cond_false] at hs
  exact hF.get s u hs
def Ag.execOp {n:Cx} {a:Act} {E:Env} (h:Ag n a E) {o:Oper} (hs:∀cs b,o.op≠.select cs b) (hc:E.fT o=true):execOp a.eval o=execOp E.ev o:=
 execOp_congr o hs λx hx=>h.ev (by
  have:=wo.1 hc x (by simpa using hx)
  exact this)
structure Sl where
 a:Option Addr
 n:Nat
 c:Nat
abbrev Sl.v (s:Sl):aD:=.slice s.a s.n s.c
abbrev aT:=cD->aA->Prop
structure Fv where
 n:Nat
 bs:Array aD
 cs:Array aD
abbrev Fv.v (f:Fv):aD:=.func (.func f.n) f.bs f.cs
def BJ (z:aD) (K:aD->Prop):Prop:=
 match z with
 |.int k _=>∃n:Int,K (.int k n)
 |.bool _=>∃b:Bool,K (.bool b)
 |.string _=>∃s:ByteArray,K (.string s)
 |.slice _ _ _=>∃s:Sl,K s.v
 |.pointer _=>∃a:Option Addr,K (.pointer a)
 |.map _=>∃r:Option Nat,K (.map r)
 |_=>∃v:aD,K v
def AX:List aD->(List aD->Prop)->Prop
 |[],K=>K []
 |z::zs,K=>BJ z λv=>AX zs λvs=>K (v::vs)
def Fs (z:aD) (K:aD->Prop):Prop:=
 match z with
 |.agg cs=>AX cs.toList λvs=>K (.agg vs.toArray)
 |z=>BJ z K
def Ft:List aD->(List aD->Prop)->Prop
 |[],K=>K []
 |z::zs,K=>Fs z λv=>Ft zs λvs=>K (v::vs)
def yi (z:aD) (K:aD->Prop):Prop:=
 match z with
 |.tuple zs=>Ft zs.toList λvs=>K (.tuple vs.toArray)
 |z=>Fs z K
def vd {z:aD} {K:aD->Prop} (h:BJ z K):∃v,K v:=by
 unfold BJ at h
 split at h
 .obtain ⟨n,h⟩:=h;exact ⟨_,h⟩
 .obtain ⟨n,h⟩:=h;exact ⟨_,h⟩
 .obtain ⟨n,h⟩:=h;exact ⟨_,h⟩
 .obtain ⟨n,h⟩:=h;exact ⟨_,h⟩
 .obtain ⟨n,h⟩:=h;exact ⟨_,h⟩
 .obtain ⟨n,h⟩:=h;exact ⟨_,h⟩
 .exact h
def tJ:∀{zs:List aD} {K:List aD->Prop},AX zs K->∃vs,vs.length=zs.length/\K vs
 |[],_,h=>⟨[],rfl,h⟩
 |_::_,_,h=>by
  obtain ⟨v,h⟩:=vd h
  obtain ⟨vs,hl,h⟩:=tJ h
  exact ⟨v::vs,by simp [hl],h⟩
def z9 {z:aD} {K:aD->Prop} (h:Fs z K):∃v,K v:=by
 unfold Fs at h
 split at h
 .obtain ⟨vs,_,h⟩:=tJ h;exact ⟨_,h⟩
 .exact vd h
def yj:∀{zs:List aD} {K:List aD->Prop},Ft zs K->∃vs,K vs
 |[],_,h=>⟨[],h⟩
 |_::_,_,h=>by
  obtain ⟨v,h⟩:=z9 h
  obtain ⟨vs,h⟩:=yj h
  exact ⟨v::vs,h⟩
def oE {z:aD} {K:aD->Prop} (h:yi z K):∃v,K v:=by
 unfold yi at h
 split at h
 .obtain ⟨vs,h⟩:=yj h;exact ⟨_,h⟩
 .exact z9 h
def iW (b:Bool) (p:Prop):Prop:=match b with |true=>p|false=>False
def cU {b:Bool} {p:Prop} (h:iW b p):b=true/\p:=by
 cases b
 .exact h.elim
 .exact ⟨rfl,h⟩
def aW (t:Bool) (A B:Prop):Prop:=match t with |true=>A|false=>B
def bR {t:Bool} {A B:Prop} (h1:t=true->A) (h2:t=false->B):aW t A B:=by
 cases t
 .exact h2 rfl
 .exact h1 rfl
def bF {t:Bool} {A B:Prop} (ht:t=true) (h:A):aW t A B:=by subst ht;exact h
def aX {t:Bool} {A B:Prop} (ht:t=false) (h:B):aW t A B:=by subst ht;exact h
def gT (q:Option Addr) (K:Addr->Prop):Prop:=match q with |some p=>K p|none=>False
def zB {q:Option Addr} {K:Addr->Prop} (h:gT q K):∃p,q=some p/\K p:=by
 cases q with
 |none=>exact h.elim
 |some p=>exact ⟨p,rfl,h⟩
def Nj:List Prop->Prop->Prop
 |[],p=>p
 |q::l,p=>q/\Nj l p
def rn:∀{l:List Prop} {p:Prop},Nj l p->(∀q∈l,q)/\p
 |[],_,h=>⟨λ_ h=>(by cases h),h⟩
 |_::_,_,h=>⟨λq hq=>by
   rcases dT.1 hq with rfl|hq
   .exact h.1
   .exact (rn h.2).1 q hq,(rn h.2).2⟩
def rh {α:Type} (P:aQ):Sem α->Option α
 |.pure a=>some a
 |.program k=>rh P (k P)
 |_=>none
def wK {α:Type} {P:aQ}:∀{s:Sem α} {a:α},rh P s=some a->∀w,s.run P w=.ok a w
 |.pure _,_,h,w=>by simp [rh] at h;subst h;rfl
 |.program k,_,h,w=>by simp only [rh] at h;exact wK h w
 |.load ..,_,h,_|.store ..,_,h,_|.new ..,_,h,_|.shape ..,_,h,_|.freeze ..,_,h,_|.frozen ..,_,h,_|.getObj ..,_,h,_|.setObj ..,_,h,_
 |.choose ..,_,h,_|.sys ..,_,h,_|.mark ..,_,h,_|.halt ..,_,h,_=>by simp [rh] at h
def zeroOf (P:aQ) (t:aP):aD:=((P.info? t).bind (·.zero)).getD undef
def calm (P:aQ) (o:Oper):Bool:=
 match o.op with
 |.convert s d _=>match P.underlying s,P.underlying d with
  |some (.slice _),some (.slice _)=>false
  |some .string,some (.slice _)=>false
  |_,_=>true
 |.move _|.assign _|.pick ..|.build ..|.load ..|.nilCheck _|.binOp ..|.unOp ..|.makeInterface ..|.makeFunc ..|.slice ..|.fieldAddr ..|.field ..|.indexAddr ..|.index ..
 |.lookup ..|.typeAssert ..|.extract ..=>true
 |.call {callee:=.builtin b,..}=>match b with |.len|.cap|.min|.max=>true|_=>false
 |_=>false
def Bn (x:Option aD) (y ace:Nat) (K:Nat->Prop):Prop:=
 match x with
 |none=>K ace
 |some (.int _ i)=>0<=i/\i<=(y:Int)/\K i.toNat
 |_=>False
def J0 (P:aQ) (T:aP):Option Bool:=
 match P.underlying T with
 |some (.struct _)|some (.array _ _)=>some true
 |some _=>some false
 |none=>none
def Lr (P:aQ) (T:aP):Bool:=
 match zeroOf P T with
 |.agg cs=>J0 P T==some true&&(match P.info? T with |some i=>i.size==cs.size|none=>false)
 |_=>J0 P T==some false
def DH (P:aQ) (T:aP) (p:Addr) (w:aA) (K:aD->List (aA->Prop)->Prop):Prop:=
 iW (Lr P T)<|match zeroOf P T with
 |.agg cs=>AX cs.toList λvs=>Nj (vs.zipIdx.map λ(v,i)=>w.cell? (p.add i)=some v) (K (.agg vs.toArray) (vs.zipIdx.map λ(v,i)=>λw'=>w'.cell? (p.add i)=some v))
 |.nilFunc=>∃f:Fv,w.cell? p=some f.v/\K f.v [λw'=>w'.cell? p=some f.v]
 |z=>BJ z λv=>w.cell? p=some v/\K v [λw'=>w'.cell? p=some v]
def iU (P:aQ) (o:Oper) (E:Env) (K:aD->List (aA->Prop)->Prop):Prop:=
 iW (E.fT o) (match rh P (execOp E.ev o) with |some (.value v)=>K v []|_=>False)
def Yk (z:aD) (K:aD->Prop):Prop:=
 match z with
 |.nilFunc=>∃f:Fv,K f.v
 |z=>yi z K
def NC {z:aD} {K:aD->Prop} (h:Yk z K):∃v,K v:=by
 unfold Yk at h
 split at h
 .obtain ⟨f,h⟩:=h;exact ⟨_,h⟩
 .exact oE h
def xC (P:aQ) (s:Sem aD) (z:aD) (w:aA) (K:aD->List (aA->Prop)->Prop):Prop:=
 Yk z λv=>s.run P w=.ok v w/\K v [λw'=>s.run P w'=.ok v w']
def yf (P:aQ) (T:aP):Option Nat:=
 match P.underlying T with
 |some (.slice e)=>(P.info? e).map (·.size)
 |_=>none
def E4 (P:aQ) (T:aP):Option (Nat×Nat):=
 match P.underlying T with
 |some (.array n e)=>(P.info? e).map λi=>(n,i.size)
 |_=>none
def E5 {P:aQ} {T:aP} {n sz:Nat} (h:E4 P T=some (n,sz)):∃e inf,P.underlying T=some (.array n e)/\P.info? e=some inf/\sz=inf.size:=by
 unfold E4 at h
 split at h
 .rename_i m e hu
  obtain ⟨inf,hi,he⟩:=Option.map_eq_some_iff.1 h
  cases he
  exact ⟨e,inf,hu,hi,rfl⟩
 .cases h
def isConst:Operand->Bool
 |.const _=>true
 |_=>false
def yy (P:aQ) (T:aP) (c:aD):Bool:=
 match P.underlying T,c with
 |some (.slice _),.slice none _ _=>true
 |some (.pointer _),.pointer none=>true
 |some (.map _ _),.map none=>true
 |_,_=>false
def wJ:Option aD->aD->Option Bool
 |some (.slice a _ _),.slice none _ _=>some a.isNone
 |some (.pointer a),.pointer none=>some a.isNone
 |some (.map r),.map none=>some r.isNone
 |_,_=>none
def Qs (P:aQ) (xs ys:Array aD):List Field->Option Bool
 |[]=>some true
 |f::fs=>bif f.name=="_" then none else match P.underlying f.type,xs[f.offset]?,ys[f.offset]?,Qs P xs ys fs with
  |some (.int _),some (.int k a),some (.int k' b),some r=>bif decide (k=k') then some ((a==b)&&r) else none
  |some .string,some (.string a),some (.string b),some r=>some ((a.toList==b.toList)&&r)
  |some .bool,some (.bool a),some (.bool b),some r=>some ((a==b)&&r)
  |_,_,_,_=>none
def Pr (P:aQ) (T:aP) (xs ys:Array aD):Option Bool:=match P.underlying T with
 |some (.struct fs)=>bif (!P.stoodInHeld T&&!P.eqGuardType P.depth T) then Qs P xs ys fs.toList else none
 |_=>none
def NB (P:aQ) (o:Oper) (E:Env) (T:aP) (x y:Operand) (neg:Bool) (K:aD->List (aA->Prop)->Prop):Prop:=match E.val x,E.val y with
 |some (.agg xs),some (.agg ys)=>match Pr P T xs ys with
  |some b=>K (.bool (bif neg then !b else b)) []
  |none=>False
 |_,_=>iU P o E K
def RB (P:aQ) (e:aP):Bool:=match P.underlying e,P.info? e with
 |some (.int _),some i=>i.size==1
 |_,_=>false
def sD (P:aQ) (o:Oper) (E:Env) (w:aA) (K:aD->List (aA->Prop)->Prop):Prop:=
 match o.op with
 |.load T x=>match E.val x with
  |some (.pointer (some p))=>DH P T p w K
  |_=>False
 |.nilCheck x=>match E.val x with
  |some (.pointer q)=>gT q λp=>K (.pointer (some p)) []
  |_=>iU P o E K
 |.indexAddr T x ix=>match E.val x,E.val ix with
  |some (.slice a n _),some (.int _ i)=>match yf P T with
   |some sz=>0<=i/\i<(n:Int)/\gT a λp=>K (.pointer (some (p.add (i.toNat *sz)))) []
   |none=>False
  |some (.pointer (some p)),some (.int _ i)=>match E4 P T with
   |some (n,sz)=>0<=i/\i<(n:Int)/\K (.pointer (some (p.add (i.toNat *sz)))) []
   |none=>False
  |_,_=>iU P o E K
 |.index T x ix=>match P.underlying T,E.val x,E.val ix with
  |some .string,some (.string s),some (.int _ i)=>0<=i/\∃b:UInt8,s[i.toNat]? =some b/\K (.int .u8 b.toNat) []
  |some (.array n e),some (.agg cs),some (.int _ i)=>iW (RB P e) (0<=i/\i<((n:Nat):Int)/\∃a:Int,cs[i.toNat]? =some (.int .i64 a)/\K (.int .i64 a) [])
  |_,_,_=>iU P o E K
 |.slice T x lo hi mx=>iW (E.fT o) (match P.underlying T,E.val x with
  |some (.slice _),some (.slice a n c)=>match yf P T with
   |some sz=>Bn (mx.map E.ev) c c λm=>Bn (hi.map E.ev) m n λh=>iW (mx.isNone||hi.isSome) (Bn (lo.map E.ev) h 0 λl=>
     K (.slice (if m=l then a else a.map (·.add (l *sz))) (h - l) (m - l)) [])
   |none=>False
  |some .string,some (.string s)=>iW mx.isNone (Bn (hi.map E.ev) s.size s.size λh=>Bn (lo.map E.ev) h 0 λl=>K (.string (s.extract l h)) [])
  |_,_=>False)
 |.binOp .quo _ x y _=>bif isConst y then iU P o E K else match E.val x,E.val y with
  |some (.int k a),some (.int k' b)=>iW (k==k') (b≠0/\K (.int k (k.wrap (a.tdiv b))) [])
  |_,_=>False
 |.binOp .rem _ x y _=>bif isConst y then iU P o E K else match E.val x,E.val y with
  |some (.int k a),some (.int k' b)=>iW (k==k') (b≠0/\K (.int k (a.tmod b)) [])
  |_,_=>False
 |.binOp .eql T x (.const c) _=>bif yy P T c then (match wJ (E.val x) c with
  |some b=>K (.bool b) []
  |none=>False) else NB P o E T x (.const c) false K
 |.binOp .neq T x (.const c) _=>bif yy P T c then (match wJ (E.val x) c with
  |some b=>K (.bool !b) []
  |none=>False) else NB P o E T x (.const c) true K
 |.binOp .eql T x y _=>NB P o E T x y false K
 |.binOp .neq T x y _=>match P.underlying T,E.val x,E.val y with
  |some (.pointer _),some (.pointer p),some (.pointer q)=>xC P (binOp .neq T (.pointer p) (.pointer q)) (.bool true) w K
  |_,_,_=>NB P o E T x y true K
 |.binOp .add _ x y _=>match E.val x,E.val y with
  |some (.string s),some (.string t)=>¬(((s.size+t.size:Nat):Int)>IntKind.i64.max)/\K (.string (s++t)) []
  |_,_=>iU P o E K
 |.binOp .shl _ x y _=>bif isConst y then iU P o E K else match E.val x,E.val y with
  |some (.int k a),some (.int _ b)=>¬b<0/\K (.int k (k.wrap (a *2^(min b.toNat k.bits)))) []
  |_,_=>False
 |.binOp .shr _ x y _=>bif isConst y then iU P o E K else match E.val x,E.val y with
  |some (.int k a),some (.int _ b)=>¬b<0/\K (.int k (a.fdiv (2^(min b.toNat k.bits)))) []
  |_,_=>False
 |.lookup T x ix ok=>match E.val x,E.val ix with
  |some m,some k=>xC P (Instr.lookup T m k ok) (zeroOf P o.type) w K
  |_,_=>False
 |.convert s d x=>match P.underlying s,P.underlying d,E.val x with
  |some (.slice _),some .string,some v=>xC P (convert s d v) (.string (aE #[])) w K
  |some (.pointer _),some .unsafePointer,some v=>xC P (convert s d v) (.pointer none) w K
  |some .unsafePointer,some (.pointer _),some v=>xC P (convert s d v) (.pointer none) w K
  |_,_,_=>iU P o E K
 |.call {callee:=.builtin .len,args,argTypes}=>match args.toList,argTypes.toList with
  |[x],[T]=>match P.underlying T,E.val x with
   |some (.map _ _),some m=>xC P (Builtin.len_ #[T] o.type #[m]) (.int .i64 0) w K
   |_,_=>iU P o E K
  |_,_=>iU P o E K
 |_=>iU P o E K
def Ld (p:Addr):List aD->Nat->aA->(aA->Prop)->Prop
 |[],_,w,K=>K w
 |v::vs,i,w,K=>(w.cell? (p.add i)).isSome=true/\w.frozen? (p.add i)=false/\Ld p vs (i+1) (w.setCell (p.add i) v) K
def vc (P:aQ) (o:Oper) (E:Env) (w:aA) (K:aD->aA->Prop):Prop:=
 iW (E.fT o) (match (execOp E.ev o).run P w with
  |.ok (.value v) w'=>K v w'
  |.ok .skip w'=>K undef w'
  |_=>False)
def HD (P:aQ) (s:Sem aD) (z:aD) (w:aA) (K:aD->aA->Prop):Prop:=
 yi z λv=>∃w',s.run P w=.ok v w'/\K v w'
def HC (P:aQ) (s:Sem Unit) (w:aA) (K:aD->aA->Prop):Prop:=
 ∃w',s.run P w=.ok () w'/\K undef w'
def gq (P:aQ) (f:FuncId):Bool:=match P.funcs[f]? with |some fn=>fn.body.isSome&&!(fn.name=="runtime.NumGoroutine")|none=>false
def LU (P:aQ) (f:FuncId) (args:Array aD) (z:aD) (w:aA) (K:aD->aA->Prop):Prop:=
 yi z λv=>∃w',(callFunc f args).run P w=.ok (.value v) w'/\K v w'
def wZ (P:aQ) (f:FuncId) (args:Array aD) (z:aD) (w:aA) (K:aD->aA->Prop):Prop:=
 aH P f args w λe w'=>yi z λv=>e=aJ v/\K v w'
def vX:aD->Bool
 |.agg _=>false
 |.tuple _=>false
 |_=>true
def nO (P:aQ) (o:Oper) (E:Env) (w:aA) (K:aD->aA->Prop):Prop:=
 match o.op with
 |.store T x y=>match E.val x,E.val y with
  |some (.pointer (some p)),some v=>iW (v.cells.size==(match P.info? T with |some i=>i.size|none=>0)&&v.cells.toList.all vX&&(P.info? T).isSome) (Ld p v.cells.toList 0 w λw'=>K undef w')
  |_,_=>False
 |.mapUpdate T m k v|.insert T m k v=>match E.val m,E.val k,E.val v with
  |some m,some k,some v=>HC P (Instr.mapUpdate T m k v) w K
  |_,_,_=>False
 |.call {callee:=.builtin b,args,argTypes}=>iW (E.fT o) (match b with
  |.append=>HD P (Builtin.append_ argTypes o.type (args.map E.ev)) (.slice none 0 0) w K
  |.copy=>HD P (Builtin.copy_ argTypes o.type (args.map E.ev)) (.int .i64 0) w K
  |.unsafeSliceData=>HD P (Builtin.unsafeSliceData_ argTypes o.type (args.map E.ev)) (.pointer none) w K
  |.unsafeString=>HD P (Builtin.unsafeString_ argTypes o.type (args.map E.ev)) (.string (aE #[])) w K
  |.delete=>∃w',(Builtin.delete_ argTypes o.type (args.map E.ev)).run P w=.ok undef w'/\K undef w'
  |.clear=>∃w',(Builtin.clear_ argTypes o.type (args.map E.ev)).run P w=.ok (.tuple #[]) w'/\K (.tuple #[]) w'
  |_=>False)
 |.call {callee:=.value (.func f),args,..}=>iW (E.fT o) (bif gq P f then wZ P f (args.map E.ev) (zeroOf P o.type) w K else LU P f (args.map E.ev) (zeroOf P o.type) w K)
 |.call {callee:=.value (.tmp t),args,..}=>iW (E.fT o) (match E.get? t with
  |some (.func (.func f) first captured)=>iW (gq P f) (wZ P f (first++args.map E.ev++captured) (zeroOf P o.type) w K)
  |_=>False)
 |.makeSlice T l c=>match E.val l,E.val c with
  |some l,some c=>HD P (Instr.makeSlice T l c) (.slice none 0 0) w K
  |_,_=>False
 |.range T x=>match E.val x with
  |some x=>∃v w',(Instr.range T x).run P w=.ok v w'/\K v w'
  |_=>False
 |.next it s=>match E.val it with
  |some it=>(∃w',(Instr.next it s o.type).run P w=.ok (.tuple #[.bool false]) w'/\K (.tuple #[.bool false]) w')\/
    (match s with
     |true=>∃(i c:Int) (w':aA),(Instr.next it s o.type).run P w=.ok (.tuple #[.bool true,.int .i64 i,.int .i32 c]) w'/\K (.tuple #[.bool true,.int .i64 i,.int .i32 c]) w'
     |false=>∃(x y:aD) (w':aA),(Instr.next it s o.type).run P w=.ok (.tuple #[.bool true,x,y]) w'/\K (.tuple #[.bool true,x,y]) w')
  |_=>False
 |.entry it=>match E.val it with
  |some it=>∃(x y:aD) (w':aA),(Instr.entry it).run P w=.ok (.tuple #[x,y]) w'/\K (.tuple #[x,y]) w'
  |_=>False
 |.convert s d x=>match E.val x with
  |some v=>HD P (convert s d v) (.slice none 0 0) w K
  |_=>False
 |_=>vc P o E w K
def VR (P:aQ) (l:Nat) (args:Array aD) (w:aA) (K:aD->aA->Prop):Prop:=
 YieldAt Fence.wide 0 P l args w λe w'=>∃b:Bool,e=aJ (.bool b)/\K (.bool b) w'
def zh (P:aQ) (o:Oper) (E:Env) (w:aA) (K:aD->aA->Prop):Prop:=
 match o.op with
 |.call {callee:=.value (.tmp t),args,..}=>match E.get? t with
  |some (.func (.yield l) fs cs)=>iW (E.fT o&&(Nat.beq fs.size 0&&Nat.beq cs.size 0)) (VR P l (args.map E.ev) w K)
  |_=>nO P o E w K
 |_=>nO P o E w K
abbrev cY (w:aA) (p:Addr) (v:aD) (K:aA->Prop):Prop:=(w.cell? p).isSome=true/\w.frozen? p=false/\K (w.setCell p v)
abbrev gi (w:aA) (o:Obj) (K:aA->Prop):Prop:=K (w.alloc o)
abbrev O0 (w:aA) (l:Nat) (a b:Obj) (K:aA->Prop):Prop:=w.heap[l]? =some a/\K (w.putObj l b)
abbrev wy (w:aA) (K:aA->Prop):Prop:=K w.drew
def Er {P:aQ} {T:aP} {b:Bool} (h:J0 P T=some b) (w:aA):(isAgg T).run P w=.ok b w:=by
 unfold J0 at h
 unfold isAgg
 cases hu:P.underlying T with
 |none=>rw [hu] at h;cases h
 |some d=>rw [hu] at h;cases d<;>simp [run_underlying hu] at h ⊢<;>first |exact h|simp [<-h]
def qK {P:aQ} {T:aP} {p:Addr} {v:aD} {w:aA} (ha:J0 P T=some false) (hc:w.cell? p=some v):(loadVar T p).run P w=.ok v w:=by
 simp [loadVar,Er ha,hc]
def uw {P:aQ} {T:aP} {p:Addr} {vs:List aD} {i:TypeInfo} {w:aA} (ha:J0 P T=some true) (hi:P.info? T=some i) (hs:i.size=vs.length)
  (hc:∀j v,vs[j]? =some v->w.cell? (p.add j)=some v):(loadVar T p).run P w=.ok (.agg vs.toArray) w:=by
 have:=run_loadCells_list (P:=P) w p vs hc
 simp [loadVar,Er ha,sizeOf,typeInfo,hi,hs,this]
def Calm (P:aQ) (o:Oper) (ρ:Operand->aD) (w:aA) (v:aD) (hs:List (aA->Prop)):Prop:=
 (∀S∈hs,S w)/\∀w',(∀S∈hs,S w')->(execOp ρ o).run P w'=.ok (.value v) w'
def yH {P:aQ} {o:Oper} {E:Env} {w:aA} {n:Cx} {a:Act} {K:aD->List (aA->Prop)->Prop} (hs:∀cs b,o.op≠.select cs b)
  (ha:Ag n a E) (h:iU P o E K):∃v S,K v S/\Calm P o a.eval w v S:=by
 obtain ⟨hc,h⟩:=cU h
 split at h
 .rename_i v hv
  refine ⟨v,[],h,λS hS=>(by cases hS),λw' _=>?_⟩
  rw [ha.execOp hs hc]
  exact wK hv w'
 .exact h.elim
def nH {P:aQ} {s:Sem aD} {z:aD} {w:aA} {K:aD->List (aA->Prop)->Prop} {o:Oper} {ρ:Operand->aD} (ho:execOp ρ o=(do pure (.value (<-s))))
  (h:xC P s z w K):∃v S,K v S/\Calm P o ρ w v S:=by
 obtain ⟨v,hv,hk⟩:=NC h
 refine ⟨v,_,hk,λS hS=>?_,λw' GK=>?_⟩
 .simp at hS;subst hS;exact hv
 .have hr:s.run P w'=.ok v w':=GK _ (IW.2 rfl)
  rw [ho];simp [hr]
def qn {P:aQ} {x:Option aD} {y d:Nat} {K:Nat->Prop} (h:Bn x y d K):∃l,K l/\((x=none/\l=d)\/∃v,x=some v/\∀code w,(Instr.sliceBound v y code).run P w=.ok l w):=by
 unfold Bn at h
 split at h
 .exact ⟨d,h,.inl ⟨rfl,rfl⟩⟩
 .rename_i k i
  obtain ⟨h0,h1,h2⟩:=h
  refine ⟨_,h2,.inr ⟨_,rfl,λcode w=>?_⟩⟩
  simp [Instr.sliceBound,asIntOf,h0,h1]
 .exact h.elim
def ux {P:aQ} {isS:Bool} {n c m h l:Nat} {L H M:Option aD} {w:aA}
  (hm:(M=none/\m=c)\/∃v,M=some v/\∀code w,(Instr.sliceBound v c code).run P w=.ok m w)
  (hh:(H=none/\h=n)\/∃v,H=some v/\∀code w,(Instr.sliceBound v m code).run P w=.ok h w)
  (hl:(L=none/\l=0)\/∃v,L=some v/\∀code w,(Instr.sliceBound v h code).run P w=.ok l w)
  (hmh:M≠none->H=none->False):(Instr.sliceBounds isS n c L H M).run P w=.ok (l,h,m) w:=by
 unfold Instr.sliceBounds
 rcases hm with ⟨rfl,rfl⟩|⟨v1,rfl,r1⟩<;>rcases hh with ⟨rfl,rfl⟩|⟨v2,rfl,r2⟩<;>rcases hl with ⟨rfl,rfl⟩|⟨v3,rfl,r3⟩<;>first |(simp [*];done)|(exact (hmh (λh=>by cases h) rfl).elim)
def xm {P:aQ} {T:aP} {p:Addr} {w:aA} {K:aD->List (aA->Prop)->Prop} (h:DH P T p w K):
  ∃v S,K v S/\(∀s∈S,s w)/\∀w',(∀s∈S,s w')->(loadVar T p).run P w'=.ok v w':=by
 obtain ⟨ho,h⟩:=cU h
 unfold Lr at ho
 cases hz:zeroOf P T with
 |agg cs=>
  rw [hz] at h ho
  simp only at h ho
  obtain ⟨vs,hl,h⟩:=tJ h
  obtain ⟨hc,hk⟩:=rn h
  rw [Bool.and_eq_true] at ho
  obtain ⟨ha,hi⟩:=ho
  cases vk:P.info? T with
  |none=>rw [vk] at hi;simp at hi
  |some i=>
   rw [vk] at hi
   simp at hi ha
   refine ⟨_,_,hk,?_,λw' GK=>?_⟩
   .intro s hs
    obtain ⟨⟨v,j⟩,hm,rfl⟩:=pN.1 hs
    exact hc _ (pN.2 ⟨(v,j),hm,rfl⟩)
   .refine uw ha vk (by rw [hi,hl];simp) (λj v hj=>?_)
    have:=GK _ (pN.2 ⟨(v,j),List.mem_zipIdx_iff_getElem?.2 hj,rfl⟩)
    exact this
 |nilFunc=>
  rw [hz] at h ho
  obtain ⟨f,hc,hk⟩:=h
  simp at ho
  refine ⟨f.v,_,hk,λs hs=>?_,λw' GK=>?_⟩
  .simp at hs;subst hs;exact hc
  .exact qK ho (GK _ (IW.2 rfl))
 |_=>
  rw [hz] at h ho
  try simp only at h
  try simp only at ho
  obtain ⟨v,hc,hk⟩:=vd h
  simp at ho
  refine ⟨v,_,hk,λs hs=>?_,λw' GK=>?_⟩
  .simp at hs;subst hs;exact hc
  .exact qK ho (GK _ (IW.2 rfl))
def wz {P:aQ} {T:aP} {sz:Nat} (h:yf P T=some sz):∃e i,P.underlying T=some (.slice e)/\P.info? e=some i/\i.size=sz:=by
 unfold yf at h
 split at h
 .rename_i e he
  cases hi:P.info? e with
  |none=>rw [hi] at h;cases h
  |some i=>rw [hi] at h;simp at h;exact ⟨e,i,he,hi,h⟩
 .cases h
def su {v c:aD} {b:Bool} (h:wJ (some v) c=some b):(∃a n m n' m',v=.slice a n m/\c=.slice none n' m'/\b=a.isNone)\/(∃a,v=.pointer a/\c=.pointer none/\b=a.isNone)\/(∃r,v=.map r/\c=.map none/\b=r.isNone):=by
 unfold wJ at h
 split at h
 .rename_i a n m n' m' hv
  cases hv;cases h
  exact .inl ⟨_,_,_,_,_,rfl,rfl,rfl⟩
 .rename_i a hv
  cases hv;cases h
  exact .inr (.inl ⟨_,rfl,rfl,rfl⟩)
 .rename_i a hv
  cases hv;cases h
  exact .inr (.inr ⟨_,rfl,rfl,rfl⟩)
 .cases h
def Ak {P:aQ} {T:aP} {c v:aD} {b:Bool} (hn:yy P T c=true) (hb:wJ (some v) c=some b) (w:aA):(Op.equal T v c).run P w=.ok b w:=by
 unfold Op.equal Op.maxDepth Op.equalIn
 cases hu:P.underlying T with
 |none=>simp [yy,hu] at hn
 |some d=>
  simp only [Sem.run_bind,run_underlying hu,Result.andThen_ok]
  unfold yy at hn
  rw [hu] at hn
  rcases su hb with ⟨a,n,m,n',m',rfl,rfl,rfl⟩|⟨a,rfl,rfl,rfl⟩|⟨a,rfl,rfl,rfl⟩<;>cases d<;>first |(cases hn;done)|(cases a<;>rfl)
def N8 {P:aQ} {T:aP} {c v:aD} {b:Bool} (hn:yy P T c=true) (hb:wJ (some v) c=some b) (w:aA):(binOp .eql T v c).run P w=.ok (.bool b) w:=by
 have:=Ak hn hb w
 rcases su hb with ⟨a,n,m,n',m',rfl,rfl,rfl⟩|⟨a,rfl,rfl,rfl⟩|⟨a,rfl,rfl,rfl⟩<;>simp [binOp,this]
def KH {P:aQ} {T:aP} {c v:aD} {b:Bool} (hn:yy P T c=true) (hb:wJ (some v) c=some b) (w:aA):(binOp .neq T v c).run P w=.ok (.bool !b) w:=by
 have:=Ak hn hb w
 rcases su hb with ⟨a,n,m,n',m',rfl,rfl,rfl⟩|⟨a,rfl,rfl,rfl⟩|⟨a,rfl,rfl,rfl⟩<;>simp [binOp,this]
def Al {P:aQ} {op:BinOp} {T:aP} {c v:aD} {b:Bool} {p q:Operand} (hb:wJ (some v) c=some b) (w:aA):(eqGuard op T p q v c).run P w=.ok () w:=by
 rcases su hb with ⟨a,n,m,n',m',rfl,rfl,rfl⟩|⟨a,rfl,rfl,rfl⟩|⟨a,rfl,rfl,rfl⟩<;>cases op<;>rfl
set_option maxHeartbeats 1000000 in
def nI {P:aQ} {t:aP} {u:TypeDesc} (h:P.underlying t=some u) (hu:(match u with |.struct _|.array _ _=>true|_=>false)=false) {xs:Array aD} {off:Nat} {v:aD} (hx:xs[off]? =some v) (w:aA):(part t xs off).run P w=.ok v w:=by
 unfold part isAgg
 cases u<;>first |(simp at hu;done)|simp [run_underlying h,hx]
def tH {P:aQ} {xs ys:Array aD} (d:Nat) (w:aA):∀(fs:List Field) (b:Bool),Qs P xs ys fs=some b->(Op.eqFields (d+1) xs ys fs).run P w=.ok b w
 |[],b,h=>by
  simp [Qs] at h
  subst h
  rfl
 |f::fs,b,h=>by
  unfold Qs at h
  cases hn:(f.name=="_") with
  |true=>rw [hn] at h;cases h
  |false=>
   rw [hn] at h
   simp only [cond_false] at h
   have zp:f.name≠"_":=by simpa using hn
   unfold Op.eqFields
   rw [aN zp]
   split at h
   .rename_i k0 k a k' b' r hu hx hy hr
    cases hk:decide (k=k') with
    |false=>rw [hk] at h;cases h
    |true=>
     rw [hk] at h
     have xM:=of_decide_eq_true hk
     subst xM
     simp only [cond_true,Option.some.injEq] at h
     subst h
     have ih:=tH d w fs r hr
     simp only [Sem.run_bind,nI hu rfl hx w,nI hu rfl hy w,Result.andThen_ok,run_equalIn_int w d f.type k k0 a b' hu]
     cases NP:(a==b')<;>simp [ih]
   .rename_i a b' r hu hx hy hr
    simp only [Option.some.injEq] at h
    subst h
    have ih:=tH d w fs r hr
    simp only [Sem.run_bind,nI hu rfl hx w,nI hu rfl hy w,Result.andThen_ok,run_equalIn_string w d f.type a b' hu]
    cases NP:(a.toList==b'.toList)<;>simp [ih]
   .rename_i a b' r hu hx hy hr
    simp only [Option.some.injEq] at h
    subst h
    have ih:=tH d w fs r hr
    simp only [Sem.run_bind,nI hu rfl hx w,nI hu rfl hy w,Result.andThen_ok,run_equalIn_bool w d f.type a b' hu]
    cases NP:(a==b')<;>simp [ih]
   .cases h
def GY {P:aQ} {T:aP} {xs ys:Array aD} {b:Bool} (h:Pr P T xs ys=some b) (w:aA):P.eqGuardType P.depth T=false/\(Op.equalIn 10000 T (.agg xs) (.agg ys)).run P w=.ok b w:=by
 unfold Pr at h
 split at h
 .rename_i fs hu
  cases hg:(!P.stoodInHeld T&&!P.eqGuardType P.depth T) with
  |false=>rw [hg] at h;cases h
  |true=>
   rw [hg] at h
   simp only [cond_true] at h
   rw [Bool.and_eq_true] at hg
   have h1:P.stoodInHeld T=false:=by simpa using hg.1
   have h2:P.eqGuardType P.depth T=false:=by simpa using hg.2
   have hf:P.fieldsOf T=fs:=by unfold Program.fieldsOf;rw [hu]
   refine ⟨h2,?_⟩
   rw [run_equalIn_struct w 9999 T xs ys (by rw [hf];exact hu) h1,hf]
   exact tH 9998 w _ _ h
 .cases h
def tI {P:aQ} {o:Oper} {E:Env} {w:aA} {n:Cx} {a:Act} {K:aD->List (aA->Prop)->Prop} {op:BinOp} {T U:aP} {x y:Operand} {neg:Bool} (hs:∀cs b,o.op≠.select cs b)
  (ha:Ag n a E) (fB:o.op=.binOp op T x y U) (hb:(op=.eql/\neg=false)\/(op=.neq/\neg=true)) (h:NB P o E T x y neg K):∃v S,K v S/\Calm P o a.eval w v S:=by
 unfold NB at h
 split at h
 .rename_i xs ys hx hy
  split at h
  .rename_i b he
   refine ⟨_,_,h,λS hS=>(by cases hS),λw' _=>?_⟩
   obtain ⟨h1,h2⟩:=GY he w'
   have e1:execOp a.eval o=(do pure (.value (<-(do eqGuard op T x y (.agg xs) (.agg ys);binOp op T (.agg xs) (.agg ys))))):=by
    simp only [execOp,fB,ha.val hx,ha.val hy]
   rw [e1]
   rcases hb with ⟨rfl,rfl⟩|⟨rfl,rfl⟩
   .simp only [Sem.run_bind,run_eqGuard_agg w' _ T x y xs ys h1,Result.andThen_ok,run_eql_struct,h2]
    rfl
   .simp only [Sem.run_bind,run_eqGuard_agg w' _ T x y xs ys h1,Result.andThen_ok,run_neq_struct,h2]
    rfl
  .exact h.elim
 .exact yH hs ha h
def qV {P:aQ} {o:Oper} {E:Env} {w:aA} {n:Cx} {a:Act} {K:aD->List (aA->Prop)->Prop} (hs:∀cs b,o.op≠.select cs b)
  (ha:Ag n a E) (h:sD P o E w K):∃v S,K v S/\Calm P o a.eval w v S:=by
 have pure':iU P o E K->∃v S,K v S/\Calm P o a.eval w v S:=yH hs ha
 unfold sD at h
 split at h
 .
  rename_i T x fB
  split at h
  .rename_i p hx
   obtain ⟨v,S,hk,h1,h2⟩:=xm h
   refine ⟨v,S,hk,h1,λw' GK=>?_⟩
   simp [execOp,fB,Instr.loadAt,ha.val hx,Instr.sureAddr,h2 w' GK]
  .exact h.elim
 .
  rename_i x fB
  split at h
  .rename_i q hx
   obtain ⟨p,rfl,hk⟩:=zB h
   refine ⟨_,_,hk,λS hS=>(by cases hS),λw' _=>?_⟩
   simp [execOp,fB,ha.val hx]
  .exact pure' h
 .
  rename_i T x ix fB
  split at h
  .rename_i b n c k i hx hi
   split at h
   .rename_i sz ni
    obtain ⟨h0,h1,h⟩:=h
    obtain ⟨p,rfl,hk⟩:=zB h
    obtain ⟨e,inf,hu,vk,rfl⟩:=wz ni
    refine ⟨_,_,hk,λS hS=>(by cases hS),λw' _=>?_⟩
    simp [execOp,fB,ha.val hx,ha.val hi,Instr.indexAt,asIntOf,run_underlying hu,h0,h1,sizeOf,typeInfo,vk]
   .exact h.elim
  .rename_i p k i hx hi
   split at h
   .rename_i n sz ni
    obtain ⟨h0,h1,hk⟩:=h
    obtain ⟨e,inf,hu,vk,rfl⟩:=E5 ni
    refine ⟨_,_,hk,λS hS=>(by cases hS),λw' _=>?_⟩
    simp [execOp,fB,ha.val hx,ha.val hi,Instr.indexAt,Instr.sureAddr,asIntOf,run_underlying hu,h0,h1,sizeOf,typeInfo,vk]
   .exact h.elim
  .exact pure' h
 .
  rename_i T x ix fB
  split at h
  .rename_i s k i hu hx hi
   obtain ⟨h0,b,hb,hk⟩:=h
   refine ⟨_,_,hk,λS hS=>(by cases hS),λw' _=>?_⟩
   simp [execOp,fB,ha.val hx,ha.val hi,Instr.index,asIntOf,run_underlying hu,h0,hb]
  .rename_i n e cs k i hu hx hi
   obtain ⟨h1,h0,hn,b,hb,hk⟩:=cU h
   unfold RB at h1
   split at h1
   .rename_i y inf hue vk
    have h1:inf.size=1:=by simpa using h1
    refine ⟨_,_,hk,λS hS=>(by cases hS),λw' _=>?_⟩
    simp [execOp,fB,ha.val hx,ha.val hi,Instr.index,asIntOf,run_underlying hu,h0,hn,sizeOf,typeInfo,vk,h1,part,isAgg,run_underlying hue,hb]
   .cases h1
  .exact pure' h
 .
  rename_i T x lo hi mx fB
  obtain ⟨acv,h⟩:=cU h
  have QL:∀y∈o.op.operands,(E.val y).isSome=true:=λy hy=>wo.1 acv y (by simpa using hy)
  have uF:lo.map a.eval=lo.map E.ev:=by
   cases lo with
   |none=>rfl
   |some y=>simp only [Option.map_some];rw [ha.ev (QL y (by rw [fB];simp [Op.operands]))]
  have Ue:hi.map a.eval=hi.map E.ev:=by
   cases hi with
   |none=>rfl
   |some y=>simp only [Option.map_some];rw [ha.ev (QL y (by rw [fB];simp [Op.operands]))]
  have hmx:mx.map a.eval=mx.map E.ev:=by
   cases mx with
   |none=>rfl
   |some y=>simp only [Option.map_some];rw [ha.ev (QL y (by rw [fB];simp [Op.operands]))]
  split at h
  .rename_i e b n c hu hx
   split at h
   .rename_i sz ni
    obtain ⟨m,h,hm⟩:=qn (P:=P) h
    obtain ⟨hh,h,hhm⟩:=qn (P:=P) h
    obtain ⟨hmh,h⟩:=cU h
    obtain ⟨l,hk,hl⟩:=qn (P:=P) h
    obtain ⟨e',inf,hu',vk,rfl⟩:=wz ni
    rw [hu'] at hu
    cases hu
    refine ⟨_,_,hk,λS hS=>(by cases hS),λw' _=>?_⟩
    have NY:(Instr.sliceBounds true n c (lo.map E.ev) (hi.map E.ev) (mx.map E.ev)).run P w'=.ok (l,hh,m) w':=by
     refine ux hm hhm hl ?_
     intro h1 h2
     cases mx<;>cases hi<;>simp_all
    simp only [execOp,fB,ha.val hx,uF,Ue,hmx]
    simp [Instr.sliceAt,run_underlying hu',Instr.slice,NY,sizeOf,typeInfo,vk]
   .exact h.elim
  .rename_i s hu hx
   obtain ⟨hmn,h'⟩:=cU h
   clear h
   have acG:mx=none:=by simpa using hmn
   subst acG
   obtain ⟨hh,h,hhm⟩:=qn (P:=P) h'
   obtain ⟨l,hk,hl⟩:=qn (P:=P) h
   refine ⟨_,_,hk,λS hS=>(by cases hS),λw' _=>?_⟩
   have NY:(Instr.sliceBounds false s.size s.size (lo.map E.ev) (hi.map E.ev) none).run P w'=.ok (l,hh,s.size) w':=by
    exact ux (.inl ⟨rfl,rfl⟩) hhm hl (λh1 _=>absurd rfl h1)
   simp only [execOp,fB,ha.val hx,uF,Ue]
   simp [Instr.sliceAt,run_underlying hu,Instr.slice,NY]
  .exact h.elim
 .
  rename_i T x y U fB
  cases hc:isConst y with
  |true=>rw [hc] at h;exact pure' h
  |false=>
   rw [hc] at h
   simp only [cond_false] at h
   split at h
   .rename_i k i k' j hx hy
    obtain ⟨YA,hj,hk⟩:=cU h
    have YB:k=k':=by simpa using YA
    subst YB
    refine ⟨_,_,hk,λS hS=>(by cases hS),λw' _=>?_⟩
    simp [execOp,fB,ha.val hx,ha.val hy,eqGuard,binOp,Op.intDiv,hj]
   .exact h.elim
 .
  rename_i T x y U fB
  cases hc:isConst y with
  |true=>rw [hc] at h;exact pure' h
  |false=>
   rw [hc] at h
   simp only [cond_false] at h
   split at h
   .rename_i k i k' j hx hy
    obtain ⟨YA,hj,hk⟩:=cU h
    have YB:k=k':=by simpa using YA
    subst YB
    refine ⟨_,_,hk,λS hS=>(by cases hS),λw' _=>?_⟩
    simp [execOp,fB,ha.val hx,ha.val hy,eqGuard,binOp,Op.intDiv,hj]
   .exact h.elim
 .
  rename_i T x c U fB
  cases hn:yy P T c with
  |false=>rw [hn] at h;exact tI hs ha fB (.inl ⟨rfl,rfl⟩) h
  |true=>
   rw [hn] at h
   simp only [cond_true] at h
   split at h
   .rename_i b hb
    refine ⟨_,_,h,λS hS=>(by cases hS),λw' _=>?_⟩
    cases hx:E.val x with
    |none=>rw [hx] at hb;simp [wJ] at hb
    |some v=>
     rw [hx] at hb
     have e1:execOp a.eval o=(do pure (.value (<-(do eqGuard .eql T x (.const c) v c;binOp .eql T v c)))):=by
      simp only [execOp,fB,ha.val hx];rfl
     rw [e1]
     simp [Al hb w',N8 hn hb w']
   .exact h.elim
 .
  rename_i T x c U fB
  cases hn:yy P T c with
  |false=>rw [hn] at h;exact tI hs ha fB (.inr ⟨rfl,rfl⟩) h
  |true=>
   rw [hn] at h
   simp only [cond_true] at h
   split at h
   .rename_i b hb
    refine ⟨_,_,h,λS hS=>(by cases hS),λw' _=>?_⟩
    cases hx:E.val x with
    |none=>rw [hx] at hb;simp [wJ] at hb
    |some v=>
     rw [hx] at hb
     have e1:execOp a.eval o=(do pure (.value (<-(do eqGuard .neq T x (.const c) v c;binOp .neq T v c)))):=by
      simp only [execOp,fB,ha.val hx];rfl
     rw [e1]
     simp [Al hb w',KH hn hb w']
   .exact h.elim
 .
  rename_i T x y U _ fB
  exact tI hs ha fB (.inl ⟨rfl,rfl⟩) h
 .rename_i T x y U _ fB
  split at h
  .rename_i p q hu hx hy
   refine nH ?_ h
   simp only [execOp,fB,ha.val hx,ha.val hy]
   rfl
  .exact tI hs ha fB (.inr ⟨rfl,rfl⟩) h
 .
  rename_i T x y U fB
  split at h
  .rename_i s t hx hy
   obtain ⟨h0,hk⟩:=h
   refine ⟨_,_,hk,λS hS=>(by cases hS),λw' _=>?_⟩
   have e1:execOp a.eval o=(do pure (.value (<-(do eqGuard .add T x y (.string s) (.string t);binOp .add T (.string s) (.string t))))):=by
    simp only [execOp,fB,ha.val hx,ha.val hy]
   rw [e1]
   simp only [eqGuard,binOp,Op.stringOp,h0]
   rfl
  .exact pure' h
 .
  rename_i T x y U fB
  cases hc:isConst y with
  |true=>rw [hc] at h;exact pure' h
  |false=>
   rw [hc] at h
   simp only [cond_false] at h
   split at h
   .rename_i k i k' j hx hy
    obtain ⟨hj,hk⟩:=h
    refine ⟨_,_,hk,λS hS=>(by cases hS),λw' _=>?_⟩
    simp [execOp,fB,ha.val hx,ha.val hy,eqGuard,binOp,Op.shift,hj]
   .exact h.elim
 .
  rename_i T x y U fB
  cases hc:isConst y with
  |true=>rw [hc] at h;exact pure' h
  |false=>
   rw [hc] at h
   simp only [cond_false] at h
   split at h
   .rename_i k i k' j hx hy
    obtain ⟨hj,hk⟩:=h
    refine ⟨_,_,hk,λS hS=>(by cases hS),λw' _=>?_⟩
    simp [execOp,fB,ha.val hx,ha.val hy,eqGuard,binOp,Op.shift,hj]
   .exact h.elim
 .
  rename_i T x ix ok fB
  split at h
  .rename_i m k hx hi
   exact nH (by simp [execOp,fB,ha.val hx,ha.val hi]) h
  .exact h.elim
 .
  rename_i s d x fB
  split at h
  .rename_i e v hsu hdu hx
   exact nH (by simp [execOp,fB,ha.val hx]) h
  .rename_i e v hsu hdu hx
   exact nH (by simp [execOp,fB,ha.val hx]) h
  .rename_i e v hsu hdu hx
   exact nH (by simp [execOp,fB,ha.val hx]) h
  .exact pure' h
 .
  rename_i args Xy fB
  split at h
  .rename_i x T hx hT
   split at h
   .rename_i kt et m hu hm
    refine nH ?_ h
    have e1:args=#[x]:=by rw [<-Array.toArray_toList (xs:=args),hx]
    have e2:Xy=#[T]:=by rw [<-Array.toArray_toList (xs:=Xy),hT]
    simp [execOp,fB,e1,e2,resolve,invoke,builtin,ha.val hm]
   .exact pure' h
  .exact pure' h
 .exact pure' h
def CI {P:aQ} {p:Addr}:∀{vs:List aD} {i:Nat} {w:aA} {K:aA->Prop},vs.all vX=true->Ld p vs i w K->
  ∃w',(storeCells p vs i).run P w=.ok () w'/\K w'
 |[],i,w,K,_,h=>⟨w,by simp [storeCells],h⟩
 |v::vs,i,w,K,h1,h=>by
  obtain ⟨hc,hf,h⟩:=h
  rw [List.all_cons,Bool.and_eq_true] at h1
  obtain ⟨w',hr,hk⟩:=CI (P:=P) h1.2 h
  refine ⟨w',?_,hk⟩
  obtain ⟨u,hu⟩:=Option.isSome_iff_exists.1 hc
  have If:(store (p.add i) v).run P w=.ok () (w.setCell (p.add i) v):=by
   have h0:=h1.1
   cases v<;>first |(simp [vX] at h0;done)|simp [store,Sem.run,hu,hf]
  simp [storeCells,If,hr]
def n9 {P:aQ} {f:FuncId} (h:gq P f=true) (args:Array aD) (w:aA):(callFunc f args).run P w=.ok (.enter f args) w:=by
 unfold gq at h
 cases hf:P.funcs[f]? with
 |none=>rw [hf] at h;cases h
 |some fn=>
  rw [hf] at h
  simp at h
  obtain ⟨h1,h2⟩:=h
  have h3:fn.body≠none:=by intro hb;rw [hb] at h1;cases h1
  simp [callFunc,hf,h2,h3]
def Ag.args {n:Cx} {a:Act} {E:Env} (h:Ag n a E) {args:Array Operand} (hc:∀x∈args,(E.val x).isSome=true):args.map a.eval=args.map E.ev:=
 Array.map_congr_left λx hx=>h.ev (hc x hx)
def uN (P:aQ) (o:Oper) (a:Act) (w:aA) (K:aD->aA->Prop):Prop:=
 ∀Q:Exit->Act->aA->Prop,o.wp P a w (λa' w'=>∃v,a'=a.put o.dst v/\K v w') Q
def ya {P:aQ} {f:FuncId} {args:Array aD} {z:aD} {w:aA} {K:aD->aA->Prop} {o:Oper} {a:Act}
  (mE:(execOp a.eval o).run P w=.ok (.enter f args) w) (h:wZ P f args z w K):uN P o a w K:=by
 intro Q
 unfold Oper.wp
 rw [mE]
 simp only [Oper.upon]
 refine Calls.mono h λe w' he=>?_
 obtain ⟨v,rfl,hk⟩:=oE he
 exact ⟨v,rfl,hk⟩
def pV {P:aQ} {s:Sem aD} {z:aD} {w:aA} {K:aD->aA->Prop} {o:Oper} {a:Act}
  (mE:execOp a.eval o=(do pure (.value (<-s)))) (h:HD P s z w K):uN P o a w K:=by
 intro Q
 obtain ⟨v,w',hr,hk⟩:=oE h
 unfold Oper.wp
 rw [mE]
 simp only [Sem.run_bind,hr,Result.andThen_ok,Sem.run_pure,Oper.upon]
 exact ⟨v,rfl,hk⟩
set_option maxHeartbeats 1000000 in
def jg {P:aQ} {o:Oper} {E:Env} {w:aA} {n:Cx} {a:Act} {K:aD->aA->Prop} (hs:∀cs b,o.op≠.select cs b)
  (ha:Ag n a E) (h:nO P o E w K):uN P o a w K:=by
 unfold nO at h
 split at h
 .
  rename_i T x y fB
  split at h
  .rename_i p v hx hy
   obtain ⟨hb,h⟩:=cU h
   rw [Bool.and_eq_true,Bool.and_eq_true] at hb
   obtain ⟨⟨L7,Dm⟩,hb3⟩:=hb
   obtain ⟨i,hi⟩:=Option.isSome_iff_exists.1 hb3
   rw [hi] at L7
   have acr:v.cells.size=i.size:=by simpa using L7
   obtain ⟨w',hr,hk⟩:=CI (P:=P) Dm h
   intro Q
   unfold Oper.wp
   have:(execOp a.eval o).run P w=.ok .skip w':=by
    simp [execOp,fB,Instr.storeAt,ha.val hx,ha.val hy,Instr.sureAddr,storeVar,sizeOf,typeInfo,hi,acr,hr]
   rw [this]
   simp only [Oper.upon]
   exact ⟨_,rfl,hk⟩
  .exact h.elim
 .
  rename_i T m k v fB
  split at h
  .rename_i mv kv vv hm hk hv
   obtain ⟨w',hr,hK⟩:=h
   intro Q
   unfold Oper.wp
   have:(execOp a.eval o).run P w=.ok .skip w':=by simp [execOp,fB,ha.val hm,ha.val hk,ha.val hv,hr]
   rw [this]
   simp only [Oper.upon]
   exact ⟨_,rfl,hK⟩
  .exact h.elim
 .
  rename_i T m k v fB
  split at h
  .rename_i mv kv vv hm hk hv
   obtain ⟨w',hr,hK⟩:=h
   intro Q
   unfold Oper.wp
   have:(execOp a.eval o).run P w=.ok .skip w':=by simp [execOp,fB,ha.val hm,ha.val hk,ha.val hv,hr]
   rw [this]
   simp only [Oper.upon]
   exact ⟨_,rfl,hK⟩
  .exact h.elim
 .
  rename_i b args Xy fB
  obtain ⟨hc,h⟩:=cU h
  have hargs:args.map a.eval=args.map E.ev:=ha.args λx hx=>wo.1 hc x (by rw [fB];simp [Op.operands,Call.operands,hx])
  split at h
  .exact pV (by simp [execOp,fB,resolve,invoke,builtin,hargs]) h
  .exact pV (by simp [execOp,fB,resolve,invoke,builtin,hargs]) h
  .exact pV (by simp [execOp,fB,resolve,invoke,builtin,hargs]) h
  .exact pV (by simp [execOp,fB,resolve,invoke,builtin,hargs]) h
  .obtain ⟨w',hr,hk⟩:=h
   intro Q
   unfold Oper.wp
   have:(execOp a.eval o).run P w=.ok (.value undef) w':=by simp [execOp,fB,resolve,invoke,builtin,hargs,hr]
   rw [this]
   simp only [Oper.upon]
   exact ⟨_,rfl,hk⟩
  .obtain ⟨w',hr,hk⟩:=h
   intro Q
   unfold Oper.wp
   have:(execOp a.eval o).run P w=.ok (.value (.tuple #[])) w':=by simp [execOp,fB,resolve,invoke,builtin,hargs,hr]
   rw [this]
   simp only [Oper.upon]
   exact ⟨_,rfl,hk⟩
  .exact h.elim
 .
  rename_i f args Xy fB
  obtain ⟨hc,h⟩:=cU h
  have hargs:args.map a.eval=args.map E.ev:=ha.args λx hx=>wo.1 hc x (by rw [fB];simp [Op.operands,Call.operands,hx])
  cases Ek:gq P f with
  |true=>
   rw [Ek] at h
   refine ya ?_ h
   simp [execOp,fB,resolve,Act.eval,Deferred.ofValue,invoke,hargs,n9 Ek]
  |false=>
   rw [Ek,cond_false] at h
   unfold LU at h
   obtain ⟨v,w',hr,hk⟩:=oE h
   intro Q
   unfold Oper.wp
   have:(execOp a.eval o).run P w=.ok (.value v) w':=by simp [execOp,fB,resolve,Act.eval,Deferred.ofValue,invoke,hargs,hr]
   rw [this]
   simp only [Oper.upon]
   exact ⟨_,rfl,hk⟩
 .
  rename_i t args Xy fB
  obtain ⟨hc,h⟩:=cU h
  have hargs:args.map a.eval=args.map E.ev:=ha.args λx hx=>wo.1 hc x (by rw [fB];simp [Op.operands,Call.operands,hx])
  split at h
  .rename_i f first captured hf
   obtain ⟨Ek,h⟩:=cU h
   have Ud:a.eval (.tmp t)=.func (.func f) first captured:=ha.val (x:=.tmp t) hf
   refine ya ?_ h
   simp [execOp,fB,resolve,Ud,Deferred.ofValue,invoke,hargs,n9 Ek]
  .exact h.elim
 .
  rename_i T l c fB
  split at h
  .rename_i lv cv hl hc
   exact pV (by simp [execOp,fB,ha.val hl,ha.val hc]) h
  .exact h.elim
 .
  rename_i T x fB
  split at h
  .rename_i xv hx
   obtain ⟨v,w',hr,hk⟩:=h
   intro Q
   unfold Oper.wp
   have:(execOp a.eval o).run P w=.ok (.value v) w':=by simp [execOp,fB,ha.val hx,hr]
   rw [this]
   simp only [Oper.upon]
   exact ⟨_,rfl,hk⟩
  .exact h.elim
 .
  rename_i it s fB
  split at h
  .rename_i iv hi
   have fin:∀(v:aD) (w':aA),(Instr.next iv s o.type).run P w=.ok v w'->K v w'->uN P o a w K:=λv w' hr hk Q=>by
    unfold Oper.wp
    have:(execOp a.eval o).run P w=.ok (.value v) w':=by simp [execOp,fB,ha.val hi,hr]
    rw [this]
    simp only [Oper.upon]
    exact ⟨_,rfl,hk⟩
   rcases h with ⟨w',hr,hk⟩|h
   .exact fin _ _ hr hk
   .split at h
    .obtain ⟨i,c,w',hr,hk⟩:=h;exact fin _ _ hr hk
    .obtain ⟨i,c,w',hr,hk⟩:=h;exact fin _ _ hr hk
  .exact h.elim
 .
  rename_i it fB
  split at h
  .rename_i iv hi
   obtain ⟨x,y,w',hr,hk⟩:=h
   intro Q
   unfold Oper.wp
   have:(execOp a.eval o).run P w=.ok (.value (.tuple #[x,y])) w':=by simp [execOp,fB,ha.val hi,hr]
   rw [this]
   simp only [Oper.upon]
   exact ⟨_,rfl,hk⟩
  .exact h.elim
 .
  rename_i s d x fB
  split at h
  .rename_i v hx
   exact pV (by simp [execOp,fB,ha.val hx]) h
  .exact h.elim
 .
  obtain ⟨hc,h⟩:=cU h
  intro Q
  unfold Oper.wp
  rw [ha.execOp hs hc]
  generalize (execOp E.ev o).run P w=r at h
  split at h
  .simp only [Oper.upon];exact ⟨_,rfl,h⟩
  .simp only [Oper.upon];exact ⟨_,rfl,h⟩
  .exact h.elim
def EW (P:aQ) (n:Cx) (o:Oper) (a:Act) (w:aA) (K:aD->aA->Prop):Prop:=
 ∀Q:Exit->Act->aA->Prop,o.wpIn (FW n) 0 P a w (λa' w'=>∃v,a'=a.put o.dst v/\K v w') Q
def By {n:Cx} {P:aQ} {f:FuncId} {args:Array aD} {w:aA} {R:cD->aA->Prop} (h:aH P f args w R):CallsIn (FW n) 0 P f args w R:=by
 have h1:CallsIn Fence.wide 0 P f args w R:=callsIn_wide.2 h
 obtain ⟨n,ds,ro⟩:=n
 cases ro with
 |none=>exact h1
 |some l=>exact h1
def Oo {n:Cx} {P:aQ} {row:String} {args:Array aD} {w:aA} {R:aD->aA->Prop} (h:Rows P row args w R):RowsIn (FW n) 0 P row args w R:=by
 intro c cs _
 obtain ⟨v,w',hr,hs⟩:=h c cs
 refine ⟨v,w',hr,?_⟩
 have:=stepsIn_wide.2 hs
 obtain ⟨n,ds,ro⟩:=n
 cases ro with
 |none=>exact this
 |some l=>exact this
def K6 {n:Cx} {P:aQ} {l:Nat} {f:FuncId} {tmps:Array aD} {assign body:Code} {w:aA} {R:cD->aA->Prop} (h:RoundIn Fence.wide 0 P l f tmps assign body w R):RoundIn (FW n) 0 P l f tmps assign body w R:=by
 obtain ⟨n,ds,ro⟩:=n
 cases ro with
 |none=>exact h
 |some l=>exact h
def XC {P:aQ} {n:Cx} {o:Oper} {a:Act} {w:aA} {K:Act->aA->Prop} {Q:Exit->Act->aA->Prop} (hd:∀c,o.op≠.defer c) (h:o.wp P a w K Q):o.wpIn (FW n) 0 P a w K Q:=by
 refine ⟨λ_ _=>trivial,?_⟩
 rw [Oper.semAt_eq _ _ _ hd]
 unfold Oper.wp at h
 generalize (execOp a.eval o).run P w=r at *
 cases r with
 |ok nx w'=>
  cases nx<;>simp only [Oper.upon,Oper.uponIn] at h ⊢
  case value=>exact h
  case skip=>exact h
  case defer=>exact h
  case enter f args=>exact ⟨λh=>(by cases h),By h⟩
  case row row args=>exact ⟨λh=>(by cases h),Oo h⟩
 |halt x w'=>
  cases x<;>simp only [Oper.upon,Oper.uponIn] at h ⊢
  exact h
def uN.in {P:aQ} {n:Cx} {o:Oper} {a:Act} {w:aA} {K:aD->aA->Prop} (hd:∀c,o.op≠.defer c) (h:uN P o a w K):EW P n o a w K:=λQ=>XC hd (h Q)
def ye {P:aQ} {o:Oper} {E:Env} {w:aA} {n:Cx} {a:Act} {K:aD->aA->Prop} (hs:∀cs b,o.op≠.select cs b) (hd:∀c,o.op≠.defer c)
  (ha:Ag n a E) (h:zh P o E w K):EW P n o a w K:=by
 unfold zh at h
 split at h
 .rename_i t args Xy fB
  split at h
  .rename_i l fs cs hf
   obtain ⟨hb,hyv⟩:=cU h
   clear h
   simp only [Bool.and_eq_true,Nat.beq_eq] at hb
   obtain ⟨hc,h1,h2⟩:=hb
   have e1:fs=#[]:=Array.eq_empty_of_size_eq_zero h1
   have e2:cs=#[]:=Array.eq_empty_of_size_eq_zero h2
   subst e1 e2
   have hargs:args.map a.eval=args.map E.ev:=ha.args λx hx=>wo.1 hc x (by rw [fB];simp [Op.operands,Call.operands,hx])
   have Ud:a.eval (.tmp t)=.func (.yield l) #[] #[]:=ha.val (x:=.tmp t) hf
   intro Q
   obtain ⟨fn,tmps,assign,body,hy,hR⟩:=hyv
   refine ⟨λ_ _=>trivial,?_⟩
   rw [Oper.semAt_eq _ _ _ hd]
   have:(execOp a.eval o).run P w=.ok (.round l fn tmps assign body) w:=by
    simp [execOp,fB,resolve,Ud,Deferred.ofValue,invoke,hargs,hy]
   rw [this,Oper.uponIn_round]
   refine ⟨λh=>(by cases h),K6 (hR.mono ?_)⟩
   rintro e w' ⟨b,rfl,hk⟩
   exact ⟨_,rfl,hk⟩
  .exact (jg hs ha h).in hd
 .exact (jg hs ha h).in hd
def RD (ops:Array Oper) (i j:Nat):Bool:=match ops[j]? with |some o=>o.after.toList.any λe=>Nat.beq e.on i&&Region.binds .any e|none=>false
def UZ (ops:Array Oper):Nat->Nat->Nat->Bool
 |0,i,j=>RD ops i j
 |f+1,i,j=>bif RD ops i j then true else match ops[j]? with |some o=>o.after.toList.any λe=>bif Region.binds .any e then UZ ops f i e.on else false|none=>false
def uH (ops:Array Oper) (i j:Nat):Bool:=UZ ops 4 i j
def Down (ops:Array Oper) (listed:Array Bool):Prop:=∀(k:Nat) (o:Oper),ops[k]? =some o->listed.getD k false=true->∀e∈o.after,Region.binds .any e=true->listed.getD e.on false=true
def Down.zero (ops:Array Oper) (n:Nat):Down ops (Array.replicate n false):=λk o _ hk=>by
 exfalso
 by_cases h:k<n
 .simp [h] at hk
 .simp [h] at hk
def Down.set {ops:Array Oper} {listed:Array Bool} (hd:Down ops listed) {i:Nat} (hi:i∈Region.ready .any ops listed):Down ops (listed.setIfInBounds i true):=λk o ho hk e he hb=>by
 obtain ⟨_,oi,hoi,hall⟩:=mem_ready.1 hi
 by_cases Ug:i=k
 .subst Ug
  rw [hoi] at ho
  cases ho
  exact getD_set_true (hall e he hb)
 .rw [getD_set_ne false Ug] at hk
  exact getD_set_true (hd k o ho hk e he hb)
def An {ops:Array Oper} {listed:Array Bool} {i j:Nat} (hall:∀o,ops[j]? =some o->∀e∈o.after,Region.binds .any e=true->listed.getD e.on false=true) (h:RD ops i j=true):listed.getD i false=true:=by
 unfold RD at h
 cases ho:ops[j]? with
 |none=>rw [ho] at h;cases h
 |some o=>
  rw [ho] at h
  obtain ⟨e,he,Wm⟩:=List.any_eq_true.1 h
  rw [Bool.and_eq_true] at Wm
  have hei:e.on=i:=by have:=Wm.1;rwa [Nat.beq_eq] at this
  have:=hall o ho e (by simpa using he) Wm.2
  rwa [hei] at this
def Ao {ops:Array Oper} {listed:Array Bool} (hd:Down ops listed) {i:Nat}:∀(f j:Nat),(∀o,ops[j]? =some o->∀e∈o.after,Region.binds .any e=true->listed.getD e.on false=true)->UZ ops f i j=true->listed.getD i false=true
 |0,j,hall,h=>An hall h
 |f+1,j,hall,h=>by
  unfold UZ at h
  cases hdi:RD ops i j with
  |true=>exact An hall hdi
  |false=>
   rw [hdi] at h
   cases ho:ops[j]? with
   |none=>rw [ho] at h;cases h
   |some o=>
    rw [ho] at h
    obtain ⟨e,he,Wm⟩:=List.any_eq_true.1 h
    cases hb:Region.binds .any e with
    |false=>rw [hb] at Wm;cases Wm
    |true=>
     rw [hb] at Wm
     have hl:=hall o ho e (by simpa using he) hb
     exact Ao hd f e.on (λo' ho' e' lM fA=>hd e.on o' ho' hl e' lM fA) Wm
abbrev nS:=List (Nat×(aA->Prop))
def heldBy (ops:Array Oper) (j:Nat) (w:aA):nS->List Prop
 |[]=>[]
 |(i,S)::H=>bif uH ops i j then heldBy ops j w H else S w::heldBy ops j w H
def fQ (ops:Array Oper) (j:Nat):nS->nS
 |[]=>[]
 |(i,S)::H=>bif uH ops i j then fQ ops j H else (i,S)::fQ ops j H
def zn {ops:Array Oper} {j:Nat} {w:aA}:∀{H:nS} {p:Nat×(aA->Prop)},p∈H->uH ops p.1 j=false->p.2 w∈heldBy ops j w H
 |(i,S)::H,p,h,ho=>by
  unfold heldBy
  rcases dT.1 h with rfl|h
  .simp only at ho;rw [ho];exact DL
  .have:=zn (H:=H) (w:=w) h ho
   cases uH ops i j
   .exact mG _ this
   .exact this
def dP {ops:Array Oper} {j:Nat}:∀{H:nS} {p:Nat×(aA->Prop)},p∈fQ ops j H↔p∈H/\uH ops p.1 j=false
 |[],p=>by simp [fQ]
 |(i,S)::H,p=>by
  unfold fQ
  cases ho:uH ops i j with
  |true=>
   simp only [cond_true]
   rw [dP]
   constructor
   .rintro ⟨h1,h2⟩;exact ⟨mG _ h1,h2⟩
   .rintro ⟨h1,h2⟩
    rcases dT.1 h1 with rfl|h1
    .simp only at h2;rw [ho] at h2;cases h2
    .exact ⟨h1,h2⟩
  |false=>
   simp only [cond_false,dT]
   rw [dP]
   constructor
   .rintro (rfl|⟨h1,h2⟩)
    .exact ⟨.inl rfl,ho⟩
    .exact ⟨.inr h1,h2⟩
   .rintro ⟨rfl|h1,h2⟩
    .exact .inl rfl
    .exact .inr ⟨h1,h2⟩
section
variable {P:aQ} {ops:Array Oper} {Q:Exit->Act->aA->Prop}
def eK (P:aQ) (ops:Array Oper) (Q:Exit->Act->aA->Prop):Nat->nS->Array Bool->Act->aA->Prop
 |0,_,listed,a,w=>Down ops listed->Region.ready .any ops listed=[]/\Q .normal a w
 |fuel+1,H,listed,a,w=>Down ops listed->
  (Region.ready .any ops listed=[]->Q .normal a w)/\
  ∀i∈Region.ready .any ops listed,wpOp P ops Q i (λa' w'=>(∀p∈fQ ops i H,p.2 w')/\eK P ops Q fuel (fQ ops i H) (listed.setIfInBounds i true) a' w') a w
def pM:∀(fuel:Nat) (H:nS) (listed:Array Bool) (a:Act) (w:aA),Down ops listed->eK P ops Q fuel H listed a w->wpAny P .any ops Q fuel listed a w
 |0,_,_,_,_,hd,h=>h hd
 |fuel+1,_,_,_,_,hd,h=>⟨(h hd).1,λi hi=>wpOp_mono (λa' w' h'=>pM fuel _ _ a' w' (hd.set hi) h'.2) ((h hd).2 i hi)⟩
def ui:∀(fuel:Nat) (H H':nS) (listed:Array Bool) (a:Act) (w:aA),(∀p∈H',p∈H)->eK P ops Q fuel H listed a w->eK P ops Q fuel H' listed a w
 |0,_,_,_,_,_,_,h=>h
 |fuel+1,H,H',listed,a,w,hs,h=>λhd=>⟨(h hd).1,λi hi=>wpOp_mono (λa' w' h'=>by
   have rU:∀p∈fQ ops i H',p∈fQ ops i H:=λp hp=>dP.2 ⟨hs p (dP.1 hp).1,(dP.1 hp).2⟩
   exact ⟨λp hp=>h'.1 p (rU p hp),ui fuel _ _ _ a' w' rU h'.2⟩) ((h hd).2 i hi)⟩
def Rv {i j:Nat} {listed:Array Bool} (hd:Down ops listed) (hi:listed.getD i true=false) (hj:j∈Region.ready .any ops listed):uH ops i j=false:=by
 obtain ⟨_,oj,hoj,hall⟩:=mem_ready.1 hj
 cases ho:uH ops i j with
 |false=>rfl
 |true=>
  have this:=Ao hd 4 j (λo ho' e he hb=>by rw [hoj] at ho';cases ho';exact hall e he hb) ho
  rcases Nat.lt_or_ge i listed.size with h'|h'
  .simp [h'] at hi this;rw [hi] at this;cases this
  .simp [Array.getElem?_eq_none h'] at this
def sS {i:Nat} {oi:Oper} {v:aD} {Ss:List (aA->Prop)} (hi:ops[i]? =some oi) (pP:∀(j:Nat) (o:Oper) cs b,ops[j]? =some o->o.op≠.select cs b)
  (hQ:∀c a w,Q (.panic c) (a.put oi.dst v) w->Q (.panic c) a w):
  ∀(fuel:Nat) (H:nS) (listed:Array Bool) (a:Act) (w:aA),
   (∀j oj,ops[j]? =some oj->j≠i->listed.getD j true=false->(∀e∈oj.after,Region.binds .any e=true->e.on≠i)->oi.apart ops oj=true)->
   i∈Region.ready .any ops listed->YieldsIf P ops (λw=>∀S∈Ss,S w) oi v a->(∀S∈Ss,S w)->(∀p∈H,p.2 w)->
   eK P ops Q fuel (Ss.map (λS=>(i,S))++H) (listed.setIfInBounds i true) (a.put oi.dst v) w->eK P ops Q (fuel+1) H listed a w:=by
 intro fuel
 induction fuel with
 |zero=>
  intro H listed a w _ hr hy hS hH G hd
  refine ⟨λh=>(by rw [h] at hr;cases hr),λj hj=>?_⟩
  by_cases GH:j=i
  .subst GH
   exact hy.wpOp hi hS ⟨λp hp=>hH p (dP.1 hp).1,G⟩
  .have:=ready_mono hj GH
   rw [(G (hd.set hr)).1] at this
   cases this
 |succ fuel ih=>
  intro H listed a w Wo hr hy hS hH G hd
  refine ⟨λh=>(by rw [h] at hr;cases hr),λj hj=>?_⟩
  by_cases GH:j=i
  .subst GH
   refine hy.wpOp hi hS ⟨λp hp=>hH p (dP.1 hp).1,?_⟩
   exact ui _ _ _ _ _ _ (λp hp=>wL _ (dP.1 hp).1) G
  .have h1:=(G (hd.set hr)).2 j (ready_mono hj GH)
   obtain ⟨aaN,oj,hoj,hall⟩:=mem_ready.1 hj
   have h0:=(mem_ready.1 hr).1
   have acI:∀e∈oj.after,Region.binds .any e=true->e.on≠i:=λe he hb heq=>by
    have h1:=hall e he hb
    rw [heq] at h1
    rcases Nat.lt_or_ge i listed.size with h'|h'
    .simp [h'] at h0 h1;rw [h0] at h1;cases h1
    .simp [Array.getElem?_eq_none h'] at h1
   have aaT:uH ops i j=false:=Rv hd h0 hj
   have h2:=wpOp_putIf hoj (Wo j oj hoj GH aaN acI) (λcs b=>pP i oi cs b hi) (λcs b=>pP j oj cs b hoj) hQ hy h1
   have Yw:∀k ok,ops[k]? =some ok->k≠i->(listed.setIfInBounds j true).getD k true=false->
     (∀e∈ok.after,Region.binds .any e=true->e.on≠i)->oi.apart ops ok=true:=λk ok hk Ug DG tz=>by
    refine Wo k ok hk Ug ?_ tz
    by_cases hjk:j=k
    .subst hjk;exact aaN
    .rw [getD_set_ne true hjk] at DG;exact DG
   refine wpOp_mono (λa' w' h3=>?_) h2
   obtain ⟨hy',Wt,yr⟩:=h3
   have NO:∀p∈fQ ops j H,p.2 w':=λp hp=>Wt p (dP.2 ⟨wL _ (dP.1 hp).1,(dP.1 hp).2⟩)
   have hS':∀S∈Ss,S w':=λS hSm=>Wt (i,S) (dP.2 ⟨List.mem_append_left _ (pN.2 ⟨S,hSm,rfl⟩),aaT⟩)
   refine ⟨NO,ih (fQ ops j H) (listed.setIfInBounds j true) a' w' Yw (ready_mono hr (Ne.symm GH)) hy' hS' NO ?_⟩
   rw [Array.setIfInBounds_comm _ _ GH]
   refine ui _ _ _ _ _ _ (λp hp=>?_) yr
   rcases gg.1 hp with hp|hp
   .obtain ⟨S,hSm,rfl⟩:=pN.1 hp
    exact dP.2 ⟨List.mem_append_left _ hp,aaT⟩
   .exact dP.2 ⟨wL _ (dP.1 hp).1,(dP.1 hp).2⟩
end
def rE (ops:Array Oper) (j:Nat):Option Nat:=(ops[j]?).bind (·.dst)
def ug (P:aQ) (ops:Array Oper) (draw:Bool) (i:Nat) (o:Oper) (E:Env) (w:aA) (H:nS) (K:Env->aA->nS->Prop):Prop:=
 bif calm P o then sD P o E w λv Ss=>K (E.put o.dst v) w (bif draw then Ss.map (λS=>(i,S))++H else H)
 else (bif draw then nO else zh) P o E w λv w'=>Nj (heldBy ops i w' H) (K (E.put o.dst v) w' (fQ ops i H))
def ov (P:aQ) (ops:Array Oper) (draw:Bool) (i:Nat) (o:Oper) (d:Nat) (want t:Bool) (E:Env) (w:aA) (H:nS) (K:Env->aA->nS->Prop):Prop:=
 bif (t==want) then ug P ops draw i o ((d,.bool t)::E) w H K else K (Env.put ((d,.bool t)::E) o.dst undef) w (bif calm P o then H else fQ ops i H)
def nQ (P:aQ) (ops:Array Oper) (draw:Bool) (K:Env->aA->Prop):List Nat->Env->aA->nS->Prop
 |[],E,w,_=>K E w
 |i::l,E,w,H=>
  match ops[i]? with
  |none=>False
  |some o=>match o.guard with
   |none=>ug P ops draw i o E w H λE' w' H'=>nQ P ops draw K l E' w' H'
   |some (j,want)=>match rE ops j with
    |none=>False
    |some d=>match E.get? d with
     |some (.bool t)=>aW t (ov P ops draw i o d want true E w H λE' w' H'=>nQ P ops draw K l E' w' H') (ov P ops draw i o d want false E w H λE' w' H'=>nQ P ops draw K l E' w' H')
     |some (.tuple _)=>nQ P ops draw K l (Env.put E o.dst undef) w (bif calm P o then H else fQ ops i H)
     |_=>False
def tY (P:aQ) (ops:Array Oper):List Nat->Array Bool->Bool
 |[],listed=>(Region.ready .any ops listed).isEmpty
 |i::l,listed=>(match ops[i]? with
   |some o=>bif calm P o then Region.free .any ops listed i&&(Region.ready .any ops listed).contains i else Region.ready .any ops listed==[i]
   |none=>false)&&tY P ops l (listed.setIfInBounds i true)
def Mu (o:Oper):Bool:=match o.op with |.defer _=>false|_=>true
def ia (n:Nat) (ops:Array Oper):Bool:=Region.noSelect ops&&ops.toList.all λo=>Mu o&&match o.dst with |some d=>Nat.blt d n|none=>true
def eR {n:Nat} {ops:Array Oper} (h:ia n ops=true) {i:Nat} {o:Oper} (ho:ops[i]? =some o):∀t,o.dst=some t->t<n:=by
 intro t ht
 unfold ia at h
 rw [Bool.and_eq_true] at h
 have:=wo.1 h.2 o (by simpa using Array.mem_of_getElem? ho)
 rw [ht,Bool.and_eq_true] at this
 simpa using this.2
def oV {n:Nat} {ops:Array Oper} (h:ia n ops=true) {i:Nat} {o:Oper} (ho:ops[i]? =some o):∀c,o.op≠.defer c:=by
 intro c hc
 unfold ia at h
 rw [Bool.and_eq_true] at h
 have:=wo.1 h.2 o (by simpa using Array.mem_of_getElem? ho)
 rw [Bool.and_eq_true] at this
 have:=this.1
 unfold Mu at this
 rw [hc] at this
 cases this
def iP (n:Cx) (K:Env->aA->Prop):Exit->Act->aA->Prop
 |.normal,a,w=>∃E,Ag n a E/\K E w
 |_,_,_=>False
def oP {n:Cx} {a:Act} {E:Env} (ha:Ag n a E) {ops:Array Oper} {j d:Nat} {t:Bool} (hd:rE ops j=some d) (ht:E.get? d=some (.bool t)):yielded ops a.tmps j=some t:=by
 unfold yielded
 unfold rE at hd
 rw [hd]
 simp [ha.get _ _ ht]
def kn {n:Cx} {a:Act} {E:Env} (ha:Ag n a E) {ops:Array Oper} {j d:Nat} {vs:Array aD} (hd:rE ops j=some d) (ht:E.get? d=some (.tuple vs)):yielded ops a.tmps j=none:=by
 unfold yielded
 unfold rE at hd
 rw [hd]
 simp [ha.get _ _ ht]
def Ag.same {n:Cx} {a:Act} {E:Env} (ha:Ag n a E) {d:Nat} {v:aD} (hd:E.get? d=some v):Ag n a ((d,v)::E):=ha.cons hd ha
section
variable {P:aQ} {ops:Array Oper} {n:Cx} {K:Env->aA->Prop}
def vL {i:Nat} {o:Oper} {a:Act} {w:aA} {Kv:aD->aA->Prop} {K':Act->aA->Prop} {Q:Exit->Act->aA->Prop} (ho:ops[i]? =some o)
  (hw:Region.wanted o (yielded ops a.tmps)=true) (h:uN P o a w Kv) (hk:∀v w',Kv v w'->K' (a.put o.dst v) w'):wpOp P ops Q i K' a w:=by
 unfold wpOp
 simp only [ho,hw,if_true]
 exact .inl (Oper.wp_mono (λa' w'=>by rintro ⟨v,rfl,hv⟩;exact hk v w' hv) (h Q))
def oB {i:Nat} {o:Oper} {a:Act} {E:Env} {w:aA} {H:nS} {Kh:Env->aA->nS->Prop} {listed:Array Bool} {fuel:Nat} {Q:Exit->Act->aA->Prop}
  (hn:ia n ops=true) (ho:ops[i]? =some o) (eL:(bif calm P o then Region.free .any ops listed i&&(Region.ready .any ops listed).contains i else Region.ready .any ops listed==[i])=true)
  (hQ:∀c a w,Q (.panic c) a w=False) (ha:Ag n a E) (hH:∀p∈H,p.2 w) (qp:Region.wanted o (yielded ops a.tmps)=true)
  (h:ug P ops true i o E w H Kh)
  (next:∀a' E' w' H',Ag n a' E'->(∀p∈H',p.2 w')->Kh E' w' H'->eK P ops Q fuel H' (listed.setIfInBounds i true) a' w'):eK P ops Q (fuel+1) H listed a w:=by
 have pP:=Region.noSelect_spec (ops:=ops) (by unfold ia at hn;rw [Bool.and_eq_true] at hn;exact hn.1)
 unfold ug at h
 cases hc:calm P o with
 |true=>
  rw [hc] at h eL
  simp only [cond_true] at h eL
  rw [Bool.and_eq_true] at eL
  obtain ⟨v,Ss,hk,zq,JJ⟩:=qV (λcs b=>pP i o cs b ho) ha h
  refine sS (v:=v) (Ss:=Ss) ho pP (by simp [hQ]) fuel H listed a w (Region.free_spec ho eL.1) (by simpa using eL.2) (.inl ⟨qp,λw' GK=>JJ w' GK⟩) zq hH ?_
  refine next _ _ _ _ (ha.put v (eR hn ho)) ?_ hk
  intro p hp
  rcases gg.1 hp with hp|hp
  .obtain ⟨S,hSm,rfl⟩:=pN.1 hp;exact zq S hSm
  .exact hH p hp
 |false=>
  rw [hc] at h eL
  simp only [cond_false,cond_true] at h eL
  have hr:Region.ready .any ops listed=[i]:=by simpa using eL
  refine λ_=>⟨λh0=>(by rw [hr] at h0;cases h0),λj hj=>?_⟩
  rw [hr] at hj
  obtain rfl:=IW.1 hj
  refine vL ho qp (jg (λcs b=>pP j o cs b ho) ha h) λv w' hv=>?_
  obtain ⟨h1,h2⟩:=rn hv
  have NO:∀p∈fQ ops j H,p.2 w':=λp hp=>h1 _ (zn (dP.1 hp).1 (dP.1 hp).2)
  exact ⟨NO,next _ _ _ _ (ha.put v (eR hn ho)) NO h2⟩
def lU {i:Nat} {o:Oper} {a:Act} {w:aA} {H:nS} {listed:Array Bool} {fuel:Nat} {Q:Exit->Act->aA->Prop}
  (hn:ia n ops=true) (ho:ops[i]? =some o) (eL:(bif calm P o then Region.free .any ops listed i&&(Region.ready .any ops listed).contains i else Region.ready .any ops listed==[i])=true)
  (hQ:∀c a w,Q (.panic c) a w=False) (hH:∀p∈H,p.2 w) (qp:Region.wanted o (yielded ops a.tmps)=false)
  (next:eK P ops Q fuel (bif calm P o then H else fQ ops i H) (listed.setIfInBounds i true) (a.put o.dst undef) w):eK P ops Q (fuel+1) H listed a w:=by
 have pP:=Region.noSelect_spec (ops:=ops) (by unfold ia at hn;rw [Bool.and_eq_true] at hn;exact hn.1)
 cases hc:calm P o with
 |true=>
  rw [hc] at eL next
  simp only [cond_true] at eL next
  rw [Bool.and_eq_true] at eL
  exact sS (v:=undef) (Ss:=[]) ho pP (by simp [hQ]) fuel H listed a w (Region.free_spec ho eL.1) (by simpa using eL.2) (.inr ⟨qp,rfl⟩) (λS hS=>(by cases hS)) hH (by simpa using next)
 |false=>
  rw [hc] at eL next
  simp only [cond_false] at eL next
  have hr:Region.ready .any ops listed=[i]:=by simpa using eL
  refine λ_=>⟨λh0=>(by rw [hr] at h0;cases h0),λj hj=>?_⟩
  rw [hr] at hj
  obtain rfl:=IW.1 hj
  unfold wpOp
  simp only [ho,qp]
  exact ⟨λp hp=>hH p (dP.1 hp).1,next⟩
def vB (hn:ia n ops=true):∀(l:List Nat) (listed:Array Bool) (E:Env) (w:aA) (H:nS) (a:Act),tY P ops l listed=true->Ag n a E->(∀p∈H,p.2 w)->
  nQ P ops true K l E w H->eK P ops (iP n K) l.length H listed a w
 |[],listed,E,w,H,a,eL,ha,_,h=>λ_=>⟨by simpa [tY] using eL,E,ha,h⟩
 |i::l,listed,E,w,H,a,eL,ha,hH,h=>by
  unfold tY at eL
  rw [Bool.and_eq_true] at eL
  obtain ⟨eL,yr⟩:=eL
  unfold nQ at h
  cases ho:ops[i]? with
  |none=>rw [ho] at h;exact h.elim
  |some o=>
   rw [ho] at h eL
   simp only at h eL
   have next:∀a' E' w' H',Ag n a' E'->(∀p∈H',p.2 w')->nQ P ops true K l E' w' H'->eK P ops (iP n K) l.length H' (listed.setIfInBounds i true) a' w':=
    λa' E' w' H' hA T8 hR=>vB hn l _ E' w' H' a' yr hA T8 hR
   cases hg:o.guard with
   |none=>
    rw [hg] at h
    simp only at h
    exact oB hn ho eL (λ_ _ _=>rfl) ha hH (by simp [Region.wanted,hg]) h next
   |some jw=>
    obtain ⟨j,want⟩:=jw
    rw [hg] at h
    simp only at h
    cases hd:rE ops j with
    |none=>rw [hd] at h;exact h.elim
    |some d=>
     rw [hd] at h
     simp only at h
     split at h
     .rename_i t ht
      have hy:=oP ha hd ht
      have nh:ov P ops true i o d want t E w H λE' w' H'=>nQ P ops true K l E' w' H':=by
       cases t
       .exact h
       .exact h
      unfold ov at nh
      cases hb:(t==want) with
      |true=>
       rw [hb] at nh
       exact oB hn ho eL (λ_ _ _=>rfl) (ha.same ht) hH (by simp [Region.wanted,hg,hy];simpa using hb) nh next
      |false=>
       rw [hb] at nh
       simp only [cond_false] at nh
       refine lU hn ho eL (λ_ _ _=>rfl) hH (by simp [Region.wanted,hg,hy];simpa using hb) ?_
       refine next _ _ _ _ ((ha.same ht).put undef (eR hn ho)) ?_ nh
       intro p hp
       cases NR:calm P o
       .rw [NR] at hp;exact hH p (dP.1 hp).1
       .rw [NR] at hp;exact hH p hp
     .rename_i vs ht
      have hy:=kn ha hd ht
      refine lU hn ho eL (λ_ _ _=>rfl) hH (by simp [Region.wanted,hg,hy]) ?_
      refine next _ _ _ _ (ha.put undef (eR hn ho)) ?_ h
      intro p hp
      cases NR:calm P o
      .rw [NR] at hp;exact hH p (dP.1 hp).1
      .rw [NR] at hp;exact hH p hp
     .exact h.elim
def uj {i:Nat} {o:Oper} {a:Act} {w:aA} {Kv:aD->aA->Prop} {K':Act->aA->Prop} {Q:Exit->Act->aA->Prop} (ho:ops[i]? =some o)
  (hw:Region.wanted o (yielded ops a.tmps)=true) (h:EW P n o a w Kv) (hk:∀v w',Kv v w'->K' (a.put o.dst v) w'):wpOpIn (FW n) 0 P ops Q i K' a w:=by
 unfold wpOpIn
 simp only [ho,hw,if_true]
 exact Oper.wpIn_mono (λa' w'=>by rintro ⟨v,rfl,hv⟩;exact hk v w' hv) (h Q)
def uy {i:Nat} {o:Oper} {a:Act} {E:Env} {w:aA} {Kh:Env->aA->nS->Prop} {rest:List Nat} {Q:Exit->Act->aA->Prop}
  (hn:ia n ops=true) (ho:ops[i]? =some o) (ha:Ag n a E) (qp:Region.wanted o (yielded ops a.tmps)=true) (h:ug P ops false i o E w [] Kh)
  (next:∀a' E' w',Ag n a' E'->Kh E' w' []->wpOpsIn (FW n) 0 P ops Q rest a' w'):wpOpsIn (FW n) 0 P ops Q (i::rest) a w:=by
 have pP:=Region.noSelect_spec (ops:=ops) (by unfold ia at hn;rw [Bool.and_eq_true] at hn;exact hn.1)
 rw [wpOpsIn_cons]
 unfold ug at h
 cases hc:calm P o with
 |true=>
  rw [hc] at h
  simp only [cond_true,cond_false] at h
  obtain ⟨v,Ss,hk,zq,JJ⟩:=qV (λcs b=>pP i o cs b ho) ha h
  refine uj (Kv:=λv' w'=>v'=v/\w'=w) ho qp ?_ ?_
  .refine uN.in (oV hn ho) λQ'=>?_
   unfold Oper.wp
   rw [JJ w zq]
   exact ⟨v,rfl,rfl,rfl⟩
  .rintro v' w' ⟨rfl,rfl⟩
   exact next _ _ _ (ha.put _ (eR hn ho)) hk
 |false=>
  rw [hc] at h
  simp only [cond_false,heldBy,Nj,fQ] at h
  exact uj ho qp (ye (λcs b=>pP i o cs b ho) (oV hn ho) ha h) λv w' hv=>next _ _ _ (ha.put v (eR hn ho)) hv
def vC (hn:ia n ops=true):∀(l:List Nat) (E:Env) (w:aA) (a:Act),Ag n a E->nQ P ops false K l E w []->wpOpsIn (FW n) 0 P ops (iP n K) l a w
 |[],E,w,a,ha,h=>⟨E,ha,h⟩
 |i::l,E,w,a,ha,h=>by
  unfold nQ at h
  cases ho:ops[i]? with
  |none=>rw [ho] at h;exact h.elim
  |some o=>
   rw [ho] at h
   simp only at h
   have next:∀a' E' w',Ag n a' E'->nQ P ops false K l E' w' []->wpOpsIn (FW n) 0 P ops (iP n K) l a' w':=λa' E' w' hA hR=>vC hn l E' w' a' hA hR
   cases hg:o.guard with
   |none=>
    rw [hg] at h
    simp only at h
    exact uy (Kh:=λE' w' H'=>nQ P ops false K l E' w' H') hn ho ha (by simp [Region.wanted,hg]) h next
   |some jw=>
    obtain ⟨j,want⟩:=jw
    rw [hg] at h
    simp only at h
    cases hd:rE ops j with
    |none=>rw [hd] at h;exact h.elim
    |some d=>
     rw [hd] at h
     simp only at h
     split at h
     .rename_i t ht
      have hy:=oP ha hd ht
      have nh:ov P ops false i o d want t E w [] λE' w' H'=>nQ P ops false K l E' w' H':=by
       cases t
       .exact h
       .exact h
      unfold ov at nh
      cases hb:(t==want) with
      |true=>
       rw [hb] at nh
       exact uy (Kh:=λE' w' H'=>nQ P ops false K l E' w' H') hn ho (ha.same ht) (by simp [Region.wanted,hg,hy];simpa using hb) nh next
      |false=>
       rw [hb] at nh
       simp only [cond_false] at nh
       have Z6:(bif calm P o then ([]:nS) else fQ ops i [])=[]:=by cases calm P o<;>rfl
       rw [Z6] at nh
       rw [wpOpsIn_cons]
       unfold wpOpIn
       have hw:Region.wanted o (yielded ops a.tmps)=false:=by simp [Region.wanted,hg,hy];simpa using hb
       simp only [ho,hw]
       exact ⟨λ_ _=>trivial,next _ _ _ ((ha.same ht).put undef (eR hn ho)) nh⟩
     .rename_i vs ht
      have hy:=kn ha hd ht
      have Z6:(bif calm P o then ([]:nS) else fQ ops i [])=[]:=by cases calm P o<;>rfl
      rw [Z6] at h
      rw [wpOpsIn_cons]
      unfold wpOpIn
      have hw:Region.wanted o (yielded ops a.tmps)=false:=by simp [Region.wanted,hg,hy]
      simp only [ho,hw]
      exact ⟨λ_ _=>trivial,next _ _ _ (ha.put undef (eR hn ho)) h⟩
     .exact h.elim
def De {c:Code} {id:Nat} {a:Act} {E:Env} {w:aA} (hc:c=.region id ops false) (hn:ia n ops=true) (ha:Ag n a E)
  (h:nQ P ops false K (List.range ops.size) E w []):c.wpIn (FW n) 0 P (iP n K) a w:=by
 subst hc
 exact wpIn_region (vC hn _ E w a ha h)
def rQ (hn:ia n ops=true) {Q:Exit->Act->aA->Prop} (hQ:¬LetsOut Q):∀(l:List Nat) (a:Act) (w:aA),wpOps P ops Q l a w->wpOpsIn (FW n) 0 P ops Q l a w
 |[],a,w,h=>h
 |i::l,a,w,h=>by
  rw [wpOps_cons] at h
  rw [wpOpsIn_cons]
  unfold wpOp at h
  unfold wpOpIn
  cases ho:ops[i]? with
  |none=>rw [ho] at h;exact rQ hn hQ l a w h
  |some o=>
   rw [ho] at h
   simp only at h ⊢
   split
   .rename_i hw
    rw [aN hw] at h
    rcases h with h|h
    .exact Oper.wpIn_mono (λa' w' h'=>rQ hn hQ l a' w' h') (XC (oV hn ho) h)
    .exact absurd h.2 hQ
   .rename_i hw
    rw [aI hw] at h
    exact ⟨λ_ _=>trivial,rQ hn hQ l _ w h⟩
def AP {c:Code} {id:Nat} {a:Act} {E:Env} {w:aA} {l:List Nat} (hm:P.follows .mixedOrders=true) (hc:c=.region id ops true) (hn:ia n ops=true)
  (hl:tY P ops l (Array.replicate ops.size false)=true) (ni:l.length=ops.size) (ha:Ag n a E) (h:nQ P ops true K l E w.drew []):c.wpIn (FW n) 0 P (iP n K) a w:=by
 subst hc
 have h1:=vB hn l _ E _ [] a hl ha (λp hp=>(by cases hp)) h
 rw [ni] at h1
 have h2:=pM _ [] _ _ _ (Down.zero _ _) h1
 refine wpIn_region_draw λt=>?_
 refine rQ hn (λ⟨_,_,h⟩=>h) _ _ _ ?_
 simp only [Region.schedule,hm,Bool.true_or,if_true]
 exact wpAny_sound ops.size t _ a _ h2
end
section
variable {P:aQ} {n:Cx}
def Code.aaY:Code->Bool->Bool
 |.region _ _ d,b=>d==b
 |_,_=>false
def Code.ops:Code->Array Oper
 |.region _ ops _=>ops
 |_=>#[]
def Code.fst:Code->Code
 |.seq a _=>a
 |.cond _ a _=>a
 |.block _ a=>a
 |.loop a=>a
 |.scope a=>a
 |c=>c
def Code.snd:Code->Code
 |.seq _ b=>b
 |.cond _ _ b=>b
 |c=>c
def Code.asn:Code->Code
 |.rangeFunc _ _ a _=>a
 |c=>c
def Code.bdy:Code->Code
 |.rangeFunc _ _ _ b=>b
 |c=>c
abbrev Dg (P:aQ) (n:Cx) (c:Code) (Q:Exit->Act->aA->Prop) (a:Act) (w:aA):Prop:=c.wpIn (FW n) 0 P Q a w
def WP (P:aQ) (n:Cx) (c:Code) (Q:Exit->Act->aA->Prop) (E:Env) (w:aA):Prop:=∀a,Ag n a E->Dg P n c Q a w
def WP.region {c:Code} {Q:Exit->Act->aA->Prop} {E:Env} {w:aA} {ops:Array Oper} {id:Nat} (K:Env->aA->Prop) (hc:c=.region id ops false) (hn:ia n ops=true)
  (h:nQ P ops false K (List.range ops.size) E w []) (hk:∀E' w' a',Ag n a' E'->K E' w'->Q .normal a' w'):WP P n c Q E w:=λa ha=>
 wpIn_mono (De hc hn ha h) λe a' w' he=>by
  cases e with
  |normal=>obtain ⟨E',hA,hK⟩:=he;exact hk E' w' a' hA hK
  |_=>exact he.elim
def WP.Va {c:Code} {Q:Exit->Act->aA->Prop} {E:Env} {w:aA} {ops:Array Oper} {id:Nat} {l:List Nat} (K:Env->aA->Prop) (hm:P.follows .mixedOrders=true) (hc:c=.region id ops true) (hn:ia n ops=true)
  (hl:tY P ops l (Array.replicate ops.size false)=true) (ni:l.length=ops.size)
  (h:nQ P ops true K l E w.drew []) (hk:∀E' w' a',Ag n a' E'->K E' w'->Q .normal a' w'):WP P n c Q E w:=λa ha=>
 wpIn_mono (AP hm hc hn hl ni ha h) λe a' w' he=>by
  cases e with
  |normal=>obtain ⟨E',hA,hK⟩:=he;exact hk E' w' a' hA hK
  |_=>exact he.elim
def K3 (n:Nat) (c:Code):Bool:=match c with |.region _ ops d=>!d&&ia n ops|_=>false
def Zk (P:aQ) (n:Nat) (c:Code) (l:List Nat):Bool:=match c with
 |.region _ ops d=>d&&(P.follows .mixedOrders&&(ia n ops&&(tY P ops l (Array.replicate ops.size false)&&Nat.beq l.length ops.size)))
 |_=>false
def WP.WZ {c:Code} {Q:Exit->Act->aA->Prop} {E:Env} {w:aA} (K:Env->aA->Prop) (hc:K3 n c=true)
  (h:nQ P (Code.ops c) false K (List.range (Code.ops c).size) E w []) (hk:∀E' w' a',Ag n a' E'->K E' w'->Q .normal a' w'):WP P n c Q E w:=by
 unfold K3 at hc
 split at hc
 .rename_i id ops d
  rw [Bool.and_eq_true] at hc
  obtain ⟨h1,h2⟩:=hc
  have h3:d=false:=by simpa using h1
  subst h3
  exact WP.region K rfl h2 h hk
 .cases hc
def WP.draw {c:Code} {Q:Exit->Act->aA->Prop} {E:Env} {w:aA} (l:List Nat) (K:Env->aA->Prop) (hc:Zk P n c l=true)
  (h:nQ P (Code.ops c) true K l E w.drew []) (hk:∀E' w' a',Ag n a' E'->K E' w'->Q .normal a' w'):WP P n c Q E w:=by
 unfold Zk at hc
 split at hc
 .rename_i id ops d
  simp only [Bool.and_eq_true] at hc
  obtain ⟨rfl,h2,h3,h4,h5⟩:=hc
  rw [Nat.beq_eq] at h5
  exact WP.Va K h2 rfl h3 h4 h5 h hk
 .cases hc
def WP.at {c:Code} {Q:Exit->Act->aA->Prop} {E:Env} {w:aA} {a:Act} (h:WP P n c Q E w) (ha:Ag n a E):Dg P n c Q a w:=h a ha
def WP.seq {c x y:Code} {Q:Exit->Act->aA->Prop} {E:Env} {w:aA} (hc:c=.seq x y) (h:WP P n x (Exit.then (Dg P n y Q) Q) E w):WP P n c Q E w:=λa ha=>by
 subst hc;exact wpIn_seq (h a ha)
def WP.cond {c x y:Code} {o:Operand} {Q:Exit->Act->aA->Prop} {E:Env} {w:aA} {t:Bool} (hc:c=.cond o x y) (ho:E.val o=some (.bool t)) (h:aW t (WP P n x Q E w) (WP P n y Q E w)):WP P n c Q E w:=λa ha=>by
 subst hc
 refine wpIn_cond_split (ha.val ho) (λht=>?_) (λht=>?_)
 .subst ht;exact h a ha
 .subst ht;exact h a ha
def nN (v:Option aD) (A B:Prop):Prop:=match v with |some (.bool t)=>aW t A B|_=>False
def WP.nN {c x y:Code} {o:Operand} {Q:Exit->Act->aA->Prop} {E:Env} {w:aA} {A B:Prop} (hc:c=.cond o x y) (h1:A->WP P n x Q E w) (h2:B->WP P n y Q E w) (h:nN (E.val o) A B):WP P n c Q E w:=by
 unfold W.nN at h
 split at h
 .rename_i t ht
  refine WP.cond hc ht ?_
  cases t
  .exact h2 h
  .exact h1 h
 .exact h.elim
def WP.block {c x:Code} {id:Nat} {Q:Exit->Act->aA->Prop} {E:Env} {w:aA} (hc:c=.block id x) (h:WP P n x (Exit.inBlock id Q) E w):WP P n c Q E w:=λa ha=>by
 subst hc;exact wpIn_block (h a ha)
def WP.skip {c:Code} {Q:Exit->Act->aA->Prop} {E:Env} {w:aA} (hc:c=.skip) (h:∀a,Ag n a E->Q .normal a w):WP P n c Q E w:=λa ha=>by
 subst hc;exact wpIn_skip (h a ha)
def WP.exit {c:Code} {id:Nat} {Q:Exit->Act->aA->Prop} {E:Env} {w:aA} (hc:c=.exit id) (h:∀a,Ag n a E->Q (.exit id) a w):WP P n c Q E w:=λa ha=>by
 subst hc;exact wpIn_exit (h a ha)
def WP.ret {c:Code} {Q:Exit->Act->aA->Prop} {E:Env} {w:aA} (hc:c=.ret) (h:∀a,Ag n a E->Q .ret a w):WP P n c Q E w:=λa ha=>by
 subst hc;exact wpIn_ret (h a ha)
def uQ (P:aQ) (n:Cx) (c:Code) (Q:Exit->Act->aA->Prop) (a:Act) (w:aA):Prop:=
 ∀(b:Frame) (k:List Item) (cs:List Frame),b.roundOf=n.ro->∃e a' w',Q e a' w'/\ArrivesIn (Machine.fenced P (FW n)) P (lone (b.atR a (.code c::.inLoop c::k)) cs w) b k cs e a' w'
def Vd (n:Cx) (m:Nat):(FW n).room m:=room_wide m
def y0 {c:Code} {Q:Exit->Act->aA->Prop} {a:Act} {w:aA} (h:uQ P n c Q a w):Dg P n (Code.loop c) Q a w:=λb k cs hro hb hr=>by
 obtain ⟨e,a',w',hq,DB⟩:=h b k cs hro
 exact ⟨e,a',w',hq,.of_steps (.one (fenced_calm hb hr rfl) stepR_loop) DB⟩
def Ai {c:Code} {Q:Exit->Act->aA->Prop} {a:Act} {w:aA} (h:Dg P n c (Exit.then (uQ P n c Q) Q) a w):uQ P n c Q a w:=by
 intro b k cs hro
 have hb:(FW n).fn b.fn:=trivial
 have hr:(FW n).room (cs.length+1+0):=Vd n _
 obtain ⟨e,a₁,w₁,hq,DB⟩:=h b (.inLoop c::k) cs hro hb hr
 cases e with
 |normal=>
  obtain ⟨e₂,a₂,w₂,hq₂,DB₂⟩:=hq b k cs hro
  exact ⟨e₂,a₂,w₂,hq₂,.of_steps (StepsIn.trans DB (.one (fenced_calm hb hr rfl) stepR_inLoop)) DB₂⟩
 |exit id=>exact ⟨_,a₁,w₁,hq,.pass (x:=.inLoop c) rfl (λ_ _=>.inl (by simp)) DB⟩
 |goto l=>exact ⟨_,a₁,w₁,hq,.pass (x:=.inLoop c) rfl (λ_ _=>.inl (by simp)) DB⟩
 |ret=>exact ⟨_,a₁,w₁,hq,.pass (x:=.inLoop c) rfl (λ_ _=>.inl (by simp)) DB⟩
 |panic ch=>exact ⟨_,a₁,w₁,hq,.pass (x:=.inLoop c) rfl (λ_ _=>.inl (by simp)) DB⟩
 |outgrown=>exact ⟨_,a₁,w₁,hq,.pass (x:=.inLoop c) rfl (λ_ _=>.inl (by simp)) DB⟩
def LP (P:aQ) (n:Cx) (c:Code) (Q:Exit->Act->aA->Prop) (E:Env) (w:aA):Prop:=∀a,Ag n a E->uQ P n c Q a w
def WP.loop {c x:Code} {Q:Exit->Act->aA->Prop} {E:Env} {w:aA} (hc:c=.loop x) (h:LP P n x Q E w):WP P n c Q E w:=λa ha=>by
 subst hc;exact y0 (h a ha)
def LP.step {c:Code} {Q:Exit->Act->aA->Prop} {E:Env} {w:aA} (h:WP P n c (Exit.then (uQ P n c Q) Q) E w):LP P n c Q E w:=λa ha=>Ai (h a ha)
def RG:List aD->aD
 |[v]=>v
 |vs=>.tuple vs.toArray
def Cv (P:aQ) (E:Env) (w:aA):List ResultVar->(List aD->Prop)->Prop
 |[],K=>K []
 |.tmp t::l,K=>match E.get? t with
  |some v=>Cv P E w l λvs=>K (v::vs)
  |none=>False
 |.cell x T::l,K=>match E.get? x with
  |some (.pointer (some p))=>DH P T p w λv _=>Cv P E w l λvs=>K (v::vs)
  |_=>False
def pB (P:aQ) (fn:Func) (E:Env) (w:aA) (K:aD->Prop):Prop:=Cv P E w fn.results.toList λvs=>K (RG vs)
def At (tmps:Array aD):ResultVar->Sem aD
 |.tmp t=>pure (tmps.getD t undef)
 |.cell a t=>do loadVar t (<-asAddr (tmps.getD a undef))
def Cu (fn:Func) (tmps:Array aD):results fn tmps=(do let vs <-fn.results.mapM (At tmps);pure (if h:vs.size=1 then vs[0] else .tuple vs)):=by
 unfold results
 congr 1
def vA {a:Act} {E:Env} (ha:Ag n a E) (w:aA):∀{l:List ResultVar} {K:List aD->Prop},Cv P E w l K->
  ∃vs,(l.mapM (At a.tmps)).run P w=.ok vs w/\K vs
 |[],K,h=>⟨[],by simp,h⟩
 |.tmp t::l,K,h=>by
  unfold Cv at h
  split at h
  .rename_i v hv
   obtain ⟨vs,hr,hk⟩:=vA ha w h
   refine ⟨v::vs,?_,hk⟩
   have hg:=ha.get t v hv
   simp [List.mapM_cons,At,hr,hg]
  .exact h.elim
 |.cell x T::l,K,h=>by
  unfold Cv at h
  split at h
  .rename_i p hp
   obtain ⟨v,S,h,zq,JJ⟩:=xm h
   obtain ⟨vs,hr,hk⟩:=vA ha w h
   refine ⟨v::vs,?_,hk⟩
   have hg:=ha.get x _ hp
   simp [List.mapM_cons,At,hr,hg,asAddr,JJ w zq]
  .exact h.elim
def zJ {fn:Func} {a:Act} {E:Env} {w:aA} {R:cD->aA->Prop} (ha:Ag n a E) (h:pB P fn E w λv=>R (aJ v) w):
  ∃v,(results fn a.tmps).run P w=.ok v w/\R (aJ v) w:=by
 obtain ⟨vs,hr,hk⟩:=vA ha w h
 refine ⟨_,?_,hk⟩
 rw [Cu,<-Array.toArray_toList (xs:=fn.results),List.mapM_toArray]
 simp only [Sem.run_bind,Sem.run_map,hr,Result.andThen_ok,Sem.run_pure]
 congr 1
 cases vs with
 |nil=>rfl
 |cons v vs=>cases vs<;>rfl
def iM {m:Nat} {fn:Func} {a:Act} {E:Env} {w:aA} {R:cD->aA->Prop} (ha:Ag (cx m) a E) (h:pB P fn E w λv=>R (aJ v) w):
  a.defers=[]/\∃v,(results fn a.tmps).run P w=.ok v w/\R (aJ v) w:=⟨ha.defers,zJ ha h⟩
def Hl {f:FuncId} {fn:Func} {c:Code} {args:Array aD} {w:aA} {R:cD->aA->Prop} {E:Env} (hf:P.funcs[f]? =some fn) (hb:fn.body=some c) (ni:args.size<=fn.ntmps)
  (hE:∀t v,E.get? t=some v->args[t]? =some v) (h:WP P (cx fn.ntmps) c (bodyPost P fn R) E w):aH P f args w R:=by
 refine calls_of_wp hf hb (wpIn_wide.1 (h _ ⟨rfl,by simp;omega,?_⟩))
 intro t v ht
 have:=hE t v ht
 have jO:t<args.size:=by
  rcases Nat.lt_or_ge t args.size with h'|h'
  .exact h'
  .rw [Array.getElem?_eq_none h'] at this;cases this
 rw [Array.getElem?_append_left jO]
 exact this
def qN:Nat->List aD->Env
 |_,[]=>[]
 |i,v::l=>(i,v)::qN (i+1) l
def zi:∀(l:List aD) (i t:Nat) (v:aD),(qN i l).get? t=some v->i<=t/\l[t - i]? =some v
 |[],_,_,_,h=>by simp [qN,Env.get?] at h
 |u::l,i,t,v,h=>by
  simp only [qN,Env.get?] at h
  by_cases e:i=t
  .subst e;simp at h;subst h;simp
  .have hb:Nat.beq i t=false:=by rw [<-Bool.not_eq_true,Nat.beq_eq];exact e
   simp only [hb,cond_false] at h
   obtain ⟨h1,h2⟩:=zi l (i+1) t v h
   refine ⟨by omega,?_⟩
   rw [show t - i=(t - (i+1))+1 by omega]
   simpa using h2
def jR {f:FuncId} {fn:Func} {c:Code} {args:List aD} {w:aA} {R:cD->aA->Prop} (hf:P.funcs[f]? =some fn) (hb:fn.body=some c) (ni:Nat.ble args.length fn.ntmps=true)
  (h:WP P (cx fn.ntmps) c (bodyPost P fn R) (qN 0 args) w):aH P f args.toArray w R:=
 Hl hf hb (by simpa using Nat.le_of_ble_eq_true ni) (λt v ht=>by
  have:=(zi args 0 t v ht).2
  simpa using this) h
def R3 {t:Bool} {A B A' B':Prop} (h1:A->A') (h2:B->B') (h:aW t A B):aW t A' B':=by
 cases t
 .exact h2 h
 .exact h1 h
def asInt (k:IntKind) (v:Option aD) (K:Int->Prop):Prop:=match v with |some (.int k' n)=>iW (k'==k) (K n)|_=>False
def mK {k:IntKind} {v:Option aD} {K:Int->Prop} (h:asInt k v K):∃n,v=some (.int k n)/\K n:=by
 unfold asInt at h
 split at h
 .obtain ⟨h1,h2⟩:=cU h
  have h3:=eq_of_beq h1
  subst h3
  exact ⟨_,rfl,h2⟩
 .exact h.elim
def Bi (v:Option aD) (K:ByteArray->Prop):Prop:=match v with |some (.string b)=>K b|_=>False
def rz {v:Option aD} {K:ByteArray->Prop} (h:Bi v K):∃b,v=some (.string b)/\K b:=by
 unfold Bi at h
 split at h
 .exact ⟨_,rfl,h⟩
 .exact h.elim
def asSlice (v:Option aD) (K:Sl->Prop):Prop:=match v with |some (.slice a n c)=>K ⟨a,n,c⟩|_=>False
def xV {v:Option aD} {K:Sl->Prop} (h:asSlice v K):∃s:Sl,v=some s.v/\K s:=by
 unfold asSlice at h
 split at h
 .exact ⟨⟨_,_,_⟩,rfl,h⟩
 .exact h.elim
def G1 (v:Option aD) (K:Option Addr->Prop):Prop:=match v with |some (.pointer a)=>K a|_=>False
def Bh {v:Option aD} {K:Option Addr->Prop} (h:G1 v K):∃a,v=some (.pointer a)/\K a:=by
 unfold G1 at h
 split at h
 .exact ⟨_,rfl,h⟩
 .exact h.elim
def gY (v:Option aD) (K:Addr->Prop):Prop:=match v with |some (.pointer (some a))=>K a|_=>False
def cJ {v:Option aD} {K:Addr->Prop} (h:gY v K):∃a,v=some (.pointer (some a))/\K a:=by
 unfold gY at h
 split at h
 .exact ⟨_,rfl,h⟩
 .exact h.elim
def Pu (v:Option aD) (K:Option Nat->Prop):Prop:=match v with |some (.map a)=>K a|_=>False
def J2 {v:Option aD} {K:Option Nat->Prop} (h:Pu v K):∃a,v=some (.map a)/\K a:=by
 unfold Pu at h
 split at h
 .exact ⟨_,rfl,h⟩
 .exact h.elim
def asAgg (v:Option aD) (K:List aD->Prop):Prop:=match v with |some (.agg cs)=>K cs.toList|_=>False
def J1 {v:Option aD} {K:List aD->Prop} (h:asAgg v K):∃cs:List aD,v=some (.agg cs.toArray)/\K cs:=by
 unfold asAgg at h
 split at h
 .exact ⟨_,rfl,h⟩
 .exact h.elim
def E6 (f:FuncId) (v:Option aD) (K:List aD->List aD->Prop):Prop:=match v with |some (.func (.func g) fs cs)=>iW (Nat.beq g f) (K fs.toList cs.toList)|_=>False
def G0 {f:FuncId} {v:Option aD} {K:List aD->List aD->Prop} (h:E6 f v K):∃fs cs:List aD,v=some (.func (.func f) fs.toArray cs.toArray)/\K fs cs:=by
 unfold E6 at h
 split at h
 .obtain ⟨h1,h2⟩:=cU h
  rw [Nat.beq_eq] at h1
  subst h1
  exact ⟨_,_,rfl,h2⟩
 .exact h.elim
def uV (l:List aD) (K:aD->List aD->Prop):Prop:=match l with |v::r=>K v r|[]=>False
def oQ {l:List aD} {K:aD->List aD->Prop} (h:uV l K):∃v r,l=v::r/\K v r:=by
 cases l with
 |nil=>exact h.elim
 |cons v r=>exact ⟨v,r,rfl,h⟩
def DU (l:List aD) (K:Prop):Prop:=match l with |[]=>K|_=>False
def wW {l:List aD} {K:Prop} (h:DU l K):l=[]/\K:=by
 cases l with
 |nil=>exact ⟨rfl,h⟩
 |cons v r=>exact h.elim
end
def za (k:IntKind) (x y:Int):Int:=k.wrap ((BitVec.ofInt k.bits x&&& BitVec.ofInt k.bits y).toNat:Int)
def bOr (k:IntKind) (x y:Int):Int:=k.wrap ((BitVec.ofInt k.bits x|||BitVec.ofInt k.bits y).toNat:Int)
def Tn (k:IntKind) (x y:Int):Int:=k.wrap ((BitVec.ofInt k.bits x^^^BitVec.ofInt k.bits y).toNat:Int)
inductive Tr where
 |nil
 |one (i:Nat) (t:Tr)
 |fork (a b:Tr)
def Tr.qO:Tr->List Nat
 |.nil=>[]
 |.one i _=>[i]
 |.fork a b=>a.qO++b.qO
def Tr.len:Tr->Nat
 |.nil=>0
 |.one _ t=>t.len+1
 |.fork a _=>a.len
def BZ (P:aQ) (ops:Array Oper) (i:Nat) (E:Env) (w:aA) (H:nS) (Kn:Env->aA->nS->Prop):Prop:=
 match ops[i]? with
 |none=>False
 |some o=>match o.guard with
  |none=>ug P ops true i o E w H Kn
  |some (j,want)=>match rE ops j with
   |none=>False
   |some d=>match E.get? d with
    |some (.bool t)=>aW t (ov P ops true i o d want true E w H Kn) (ov P ops true i o d want false E w H Kn)
    |some (.tuple _)=>Kn (Env.put E o.dst undef) w (bif calm P o then H else fQ ops i H)
    |_=>False
def uh (P:aQ) (ops:Array Oper) (K:Env->aA->Prop):Tr->Env->aA->nS->Prop
 |.nil,E,w,_=>K E w
 |.one i t,E,w,H=>BZ P ops i E w H λE' w' H'=>uh P ops K t E' w' H'
 |.fork a b,E,w,H=>uh P ops K a E w H/\uh P ops K b E w H
def lI (P:aQ) (ops:Array Oper):Tr->Bool->Array Bool->Bool
 |.nil,alt,listed=>!alt&&(Region.ready .any ops listed).isEmpty
 |.one i t,alt,listed=>(match ops[i]? with
   |some o=>bif alt then !calm P o else bif calm P o then Region.free .any ops listed i&&(Region.ready .any ops listed).contains i else Region.ready .any ops listed==[i]
   |none=>false)&&lI P ops t false (listed.setIfInBounds i true)
 |.fork a b,alt,listed=>(alt||Region.ready .any ops listed==(Tr.fork a b).qO)&&(Nat.beq a.len b.len&&(lI P ops a true listed&&lI P ops b true listed))
section
variable {P:aQ} {ops:Array Oper} {n:Cx} {K:Env->aA->Prop}
def MS {i:Nat} {o:Oper} {a:Act} {E:Env} {w:aA} {H:nS} {Kh:Env->aA->nS->Prop} {listed:Array Bool} {fuel:Nat} {Q:Exit->Act->aA->Prop}
  (hn:ia n ops=true) (ho:ops[i]? =some o) (hc:calm P o=false) (ha:Ag n a E) (qp:Region.wanted o (yielded ops a.tmps)=true)
  (h:ug P ops true i o E w H Kh)
  (next:∀a' E' w' H',Ag n a' E'->(∀p∈H',p.2 w')->Kh E' w' H'->eK P ops Q fuel H' (listed.setIfInBounds i true) a' w'):
  wpOp P ops Q i (λa' w'=>(∀p∈fQ ops i H,p.2 w')/\eK P ops Q fuel (fQ ops i H) (listed.setIfInBounds i true) a' w') a w:=by
 have pP:=Region.noSelect_spec (ops:=ops) (by unfold ia at hn;rw [Bool.and_eq_true] at hn;exact hn.1)
 unfold ug at h
 rw [hc] at h
 simp only [cond_false,cond_true] at h
 refine vL ho qp (jg (λcs b=>pP i o cs b ho) ha h) λv w' hv=>?_
 obtain ⟨h1,h2⟩:=rn hv
 have NO:∀p∈fQ ops i H,p.2 w':=λp hp=>h1 _ (zn (dP.1 hp).1 (dP.1 hp).2)
 exact ⟨NO,next _ _ _ _ (ha.put v (eR hn ho)) NO h2⟩
def Gp {i:Nat} {o:Oper} {a:Act} {w:aA} {H:nS} {listed:Array Bool} {fuel:Nat} {Q:Exit->Act->aA->Prop}
  (ho:ops[i]? =some o) (hH:∀p∈H,p.2 w) (qp:Region.wanted o (yielded ops a.tmps)=false)
  (next:eK P ops Q fuel (fQ ops i H) (listed.setIfInBounds i true) (a.put o.dst undef) w):
  wpOp P ops Q i (λa' w'=>(∀p∈fQ ops i H,p.2 w')/\eK P ops Q fuel (fQ ops i H) (listed.setIfInBounds i true) a' w') a w:=by
 unfold wpOp
 simp only [ho,qp]
 exact ⟨λp hp=>hH p (dP.1 hp).1,next⟩
def QP (hn:ia n ops=true) {i:Nat} {o:Oper} {E:Env} {w:aA} {H:nS} {a:Act} {Kn:Env->aA->nS->Prop} {listed:Array Bool} {fuel:Nat} (ho:ops[i]? =some o)
  (eL:(bif calm P o then Region.free .any ops listed i&&(Region.ready .any ops listed).contains i else Region.ready .any ops listed==[i])=true) (ha:Ag n a E) (hH:∀p∈H,p.2 w) (h:BZ P ops i E w H Kn)
  (next:∀a' E' w' H',Ag n a' E'->(∀p∈H',p.2 w')->Kn E' w' H'->eK P ops (iP n K) fuel H' (listed.setIfInBounds i true) a' w'):eK P ops (iP n K) (fuel+1) H listed a w:=by
 unfold BZ at h
 rw [ho] at h
 simp only at h
 cases hg:o.guard with
 |none=>
  rw [hg] at h
  simp only at h
  exact oB hn ho eL (λ_ _ _=>rfl) ha hH (by simp [Region.wanted,hg]) h next
 |some jw=>
  obtain ⟨j,want⟩:=jw
  rw [hg] at h
  simp only at h
  cases hd:rE ops j with
  |none=>rw [hd] at h;exact h.elim
  |some d=>
   rw [hd] at h
   simp only at h
   split at h
   .rename_i t ht
    have hy:=oP ha hd ht
    have nh:ov P ops true i o d want t E w H Kn:=by
     cases t
     .exact h
     .exact h
    unfold ov at nh
    cases hb:(t==want) with
    |true=>
     rw [hb] at nh
     exact oB hn ho eL (λ_ _ _=>rfl) (ha.same ht) hH (by simp [Region.wanted,hg,hy];simpa using hb) nh next
    |false=>
     rw [hb] at nh
     simp only [cond_false] at nh
     refine lU hn ho eL (λ_ _ _=>rfl) hH (by simp [Region.wanted,hg,hy];simpa using hb) ?_
     refine next _ _ _ _ ((ha.same ht).put undef (eR hn ho)) ?_ nh
     intro p hp
     cases NR:calm P o
     .rw [NR] at hp;exact hH p (dP.1 hp).1
     .rw [NR] at hp;exact hH p hp
   .rename_i vs ht
    have hy:=kn ha hd ht
    refine lU hn ho eL (λ_ _ _=>rfl) hH (by simp [Region.wanted,hg,hy]) ?_
    refine next _ _ _ _ (ha.put undef (eR hn ho)) ?_ h
    intro p hp
    cases NR:calm P o
    .rw [NR] at hp;exact hH p (dP.1 hp).1
    .rw [NR] at hp;exact hH p hp
   .exact h.elim
def Ub (hn:ia n ops=true) {i:Nat} {o:Oper} {E:Env} {w:aA} {H:nS} {a:Act} {Kn:Env->aA->nS->Prop} {listed:Array Bool} {fuel:Nat} (ho:ops[i]? =some o)
  (hc:calm P o=false) (ha:Ag n a E) (hH:∀p∈H,p.2 w) (h:BZ P ops i E w H Kn)
  (next:∀a' E' w' H',Ag n a' E'->(∀p∈H',p.2 w')->Kn E' w' H'->eK P ops (iP n K) fuel H' (listed.setIfInBounds i true) a' w'):
  wpOp P ops (iP n K) i (λa' w'=>(∀p∈fQ ops i H,p.2 w')/\eK P ops (iP n K) fuel (fQ ops i H) (listed.setIfInBounds i true) a' w') a w:=by
 unfold BZ at h
 rw [ho] at h
 simp only at h
 have hHd:∀p∈fQ ops i H,p.2 w:=λp hp=>hH p (dP.1 hp).1
 cases hg:o.guard with
 |none=>
  rw [hg] at h
  simp only at h
  exact MS hn ho hc ha (by simp [Region.wanted,hg]) h next
 |some jw=>
  obtain ⟨j,want⟩:=jw
  rw [hg] at h
  simp only at h
  cases hd:rE ops j with
  |none=>rw [hd] at h;exact h.elim
  |some d=>
   rw [hd] at h
   simp only at h
   split at h
   .rename_i t ht
    have hy:=oP ha hd ht
    have nh:ov P ops true i o d want t E w H Kn:=by
     cases t
     .exact h
     .exact h
    unfold ov at nh
    cases hb:(t==want) with
    |true=>
     rw [hb] at nh
     exact MS hn ho hc (ha.same ht) (by simp [Region.wanted,hg,hy];simpa using hb) nh next
    |false=>
     rw [hb,hc] at nh
     simp only [cond_false] at nh
     exact Gp ho hH (by simp [Region.wanted,hg,hy];simpa using hb) (next _ _ _ _ ((ha.same ht).put undef (eR hn ho)) hHd nh)
   .rename_i vs ht
    have hy:=kn ha hd ht
    rw [hc] at h
    simp only [cond_false] at h
    exact Gp ho hH (by simp [Region.wanted,hg,hy]) (next _ _ _ _ (ha.put undef (eR hn ho)) hHd h)
   .exact h.elim
def CU:∀(t:Tr) (listed:Array Bool),lI P ops t true listed=true->∃m,t.len=m+1
 |.nil,listed,h=>by simp [lI] at h
 |.one i t,listed,_=>⟨t.len,rfl⟩
 |.fork a b,listed,h=>by
  unfold lI at h
  simp only [Bool.and_eq_true] at h
  exact CU a listed h.2.2.1
def xH:∀(t:Tr) (listed:Array Bool),lI P ops t true listed=true->t.qO≠[]
 |.nil,listed,h=>by simp [lI] at h
 |.one i t,listed,_=>by simp [Tr.qO]
 |.fork a b,listed,h=>by
  unfold lI at h
  simp only [Bool.and_eq_true] at h
  have:=xH a listed h.2.2.1
  simp [Tr.qO,this]
def rN (hn:ia n ops=true):∀(t:Tr) (alt:Bool) (listed:Array Bool) (E:Env) (w:aA) (H:nS) (a:Act) (m:Nat),lI P ops t alt listed=true->Ag n a E->(∀p∈H,p.2 w)->uh P ops K t E w H->
  (alt=false->t.len=m->eK P ops (iP n K) m H listed a w)/\
  (alt=true->t.len=m+1->∀i∈t.qO,wpOp P ops (iP n K) i (λa' w'=>(∀p∈fQ ops i H,p.2 w')/\eK P ops (iP n K) m (fQ ops i H) (listed.setIfInBounds i true) a' w') a w)
 |.nil,alt,listed,E,w,H,a,m,eL,ha,hH,h=>by
  unfold lI at eL
  rw [Bool.and_eq_true] at eL
  refine ⟨λ_ hm=>?_,λe=>?_⟩
  .subst hm
   exact λ_=>⟨by simpa using eL.2,E,ha,h⟩
  .subst e;simp at eL
 |.one i t,alt,listed,E,w,H,a,m,eL,ha,hH,h=>by
  unfold lI at eL
  rw [Bool.and_eq_true] at eL
  obtain ⟨eL,yr⟩:=eL
  cases ho:ops[i]? with
  |none=>rw [ho] at eL;cases eL
  |some o=>
   rw [ho] at eL
   simp only at eL
   unfold uh at h
   refine ⟨λe hm=>?_,λe hm j hj=>?_⟩
   .subst e hm
    exact QP hn ho eL ha hH h λa' E' w' H' hA T8 hR=>(rN hn t false _ E' w' H' a' _ yr hA T8 hR).1 rfl rfl
   .subst e
    rw [cond_true] at eL
    obtain rfl:=IW.1 hj
    have Ky:t.len=m:=by simpa [Tr.len] using hm
    exact Ub hn ho (by simpa using eL) ha hH h λa' E' w' H' hA T8 hR=>(rN hn t false _ E' w' H' a' _ yr hA T8 hR).1 rfl Ky
 |.fork x y,alt,listed,E,w,H,a,m,eL,ha,hH,h=>by
  unfold lI at eL
  simp only [Bool.and_eq_true] at eL
  obtain ⟨hr,hl,hx,hy⟩:=eL
  rw [Nat.beq_eq] at hl
  unfold uh at h
  have both:∀k,x.len=k+1->∀i∈(Tr.fork x y).qO,wpOp P ops (iP n K) i (λa' w'=>(∀p∈fQ ops i H,p.2 w')/\eK P ops (iP n K) k (fQ ops i H) (listed.setIfInBounds i true) a' w') a w:=λk hk i hi=>by
   rcases gg.1 hi with hi|hi
   .exact (rN hn x true listed E w H a k hx ha hH h.1).2 rfl hk i hi
   .exact (rN hn y true listed E w H a k hy ha hH h.2).2 rfl (hl▸hk) i hi
  refine ⟨λe hm=>?_,λ_ hm=>both m hm⟩
  subst e
  obtain ⟨k,hk⟩:=CU x listed hx
  have Ky:m=k+1:=by rw [<-hm,<-hk];rfl
  subst Ky
  have hr':Region.ready .any ops listed=(Tr.fork x y).qO:=by simpa using hr
  have jx:(Tr.fork x y).qO≠[]:=by have:=xH x listed hx;simp [Tr.qO,this]
  exact λ_=>⟨λh0=>absurd (hr'▸h0) jx,λi hi=>both k hk i (hr'▸hi)⟩
def Df {c:Code} {id:Nat} {a:Act} {E:Env} {w:aA} {t:Tr} (hm:P.follows .mixedOrders=true) (hc:c=.region id ops true) (hn:ia n ops=true)
  (hl:lI P ops t false (Array.replicate ops.size false)=true) (ni:t.len=ops.size) (ha:Ag n a E) (h:uh P ops K t E w.drew []):c.wpIn (FW n) 0 P (iP n K) a w:=by
 subst hc
 have h1:=(rN hn t false _ E _ [] a _ hl ha (λp hp=>(by cases hp)) h).1 rfl ni
 have h2:=pM _ [] _ _ _ (Down.zero _ _) h1
 refine wpIn_region_draw λt=>?_
 refine rQ hn (λ⟨_,_,h⟩=>h) _ _ _ ?_
 simp only [Region.schedule,hm,Bool.true_or,if_true]
 exact wpAny_sound ops.size t _ a _ h2
def EG (P:aQ) (n:Nat) (c:Code) (t:Tr):Bool:=match c with
 |.region _ ops d=>d&&(P.follows .mixedOrders&&(ia n ops&&(lI P ops t false (Array.replicate ops.size false)&&Nat.beq t.len ops.size)))
 |_=>false
def WP.tree {c:Code} {Q:Exit->Act->aA->Prop} {E:Env} {w:aA} (t:Tr) (K:Env->aA->Prop) (hc:EG P n c t=true)
  (h:uh P (Code.ops c) K t E w.drew []) (hk:∀E' w' a',Ag n a' E'->K E' w'->Q .normal a' w'):WP P n c Q E w:=by
 unfold EG at hc
 split at hc
 .rename_i id ops d
  simp only [Bool.and_eq_true] at hc
  obtain ⟨rfl,h2,h3,h4,h5⟩:=hc
  rw [Nat.beq_eq] at h5
  exact λa ha=>wpIn_mono (Df h2 rfl h3 h4 h5 ha h) λe a' w' he=>by
   cases e with
   |normal=>obtain ⟨E',hA,hK⟩:=he;exact hk E' w' a' hA hK
   |_=>exact he.elim
 .cases hc
end
section
variable {P:aQ}
def lo (r:Loop) (st:LoopState) (pe:Option Code):Obj:=.loop {r with state:=st,pending:=pe}
structure Pl (r:Loop) (m:Nat) (ps:Array Tmp) (assign body:Code) (E:Env):Prop where
 ps:r.params=ps
 assign:r.assign=assign
 body:r.body=body
 size:r.tmps.size=m
 get:∀t v,E.get? t=some v->r.tmps[t]? =some v
def IQ:Env->List Nat->List aD->Env
 |E,p::ps,v::vs=>IQ ((p,v)::E) ps vs
 |E,_,_=>E
def ME {m l:Nat}:∀(ps:List Nat) (vs:List aD) (E:Env) (tmps:Array aD),tmps.size=m->(∀p∈ps,p<m)->(∀t v,E.get? t=some v->tmps[t]? =some v)->
  Ag ⟨m,[],some l⟩ {tmps:=(ps.zip vs).foldl (λt (p,v)=>t.setIfInBounds p v) tmps,defers:=[]} (IQ E ps vs)
 |[],vs,E,tmps,hs,_,hE=>⟨rfl,by simpa using hs,by cases vs<;>simpa [IQ] using hE⟩
 |p::ps,[],E,tmps,hs,_,hE=>⟨rfl,by simpa using hs,by simpa [IQ] using hE⟩
 |p::ps,v::vs,E,tmps,hs,hp,hE=>by
  simp only [List.zip_cons_cons,List.foldl_cons,IQ]
  refine ME ps vs _ _ (by simpa using hs) (λq hq=>hp q (by simp [hq])) ?_
  have:=(Ag.put (n:=⟨m,[],some l⟩) (a:={tmps:=tmps,defers:=[]}) (E:=E) ⟨rfl,hs,hE⟩ (d:=some p) v (λt ht=>by cases ht;exact hp p (by simp))).get
  simpa [Env.put,Act.put] using this
def zV (P:aQ) (l:Nat) (args:Array aD) (w:aA) (K:Bool->aA->Prop):Prop:=
 YieldAt Fence.wide 0 P l args w λe w'=>∃b:Bool,e=aJ (.bool b)/\K b w'
def EZ (P:aQ) (m l:Nat) (r:Loop) (body:Code) (Q:Exit->Act->aA->Prop):Exit->Act->aA->Prop:=
 Exit.then (λa₁ w₁=>w₁.heap[l]? =some (lo r .ready none)/\Dg P ⟨m,[],some l⟩ body Q a₁ (w₁.putObj l (lo r .busy none))) (λ_ _ _=>False)
def SI {m l:Nat} {r:Loop} {ps:Array Tmp} {assign body:Code} {E:Env} {args:List aD} {w:aA} {R:cD->aA->Prop} {K:Bool->aA->Prop} (hr:Pl r m ps assign body E) (hl:w.heap[l]? =some (lo r .ready none))
  (ni:args.length=ps.size) (jO:ps.toList.all (λp=>Nat.blt p m)=true) (hK:∀e w',R e w'->∃b:Bool,e=aJ (.bool b)/\K b w')
  (h:WP P ⟨m,[],some l⟩ assign (EZ P m l r body (roundPost P l R)) (IQ E ps.toList args) w):zV P l args.toArray w K:=by
 have mE:=run_yield (P:=P) (w:=w) (args:=args.toArray) hl (by simp [hr.ps,ni])
 refine ⟨_,_,_,_,mE,RoundIn.mono (roundIn_of_wpIn (R:=R) trivial ?_) hK⟩
 simp only [lo,hr.ps,hr.assign,hr.body]
 have hag:Ag ⟨m,[],some l⟩ {tmps:=(ps.zip args.toArray).foldl (λt (p,v)=>t.setIfInBounds p v) r.tmps,defers:=[]} (IQ E ps.toList args):=by
  have:=ME (m:=m) (l:=l) ps.toList args E r.tmps hr.size (λp hp=>by simpa using wo.1 jO p hp) hr.get
  rw [<-Array.foldl_toList]
  simpa using this
 refine wpIn_mono (h _ hag) λe a' w' he=>?_
 cases e with
 |normal=>
  obtain ⟨h1,h2⟩:=he
  exact ⟨_,run_beginRound h1 rfl,h2⟩
 |_=>exact he.elim
def Om {l:Nat} {r:Loop} {a:Act} {w:aA} {R:cD->aA->Prop} (hl:w.heap[l]? =some (lo r .busy none)) (h:R (aJ (.bool true)) (w.putObj l (lo r .ready none))):roundPost P l R .normal a w:=
 ⟨_,_,run_endRound none hl,h⟩
def On {l:Nat} {r:Loop} {a:Act} {w:aA} {R:cD->aA->Prop} (hl:w.heap[l]? =some (lo r .busy none)) (h:R (aJ (.bool false)) (w.putObj l (lo r .done (some .ret)))):roundPost P l R .ret a w:=
 ⟨_,_,run_endRound (some .ret) hl,h⟩
abbrev marked (m D:Nat):Cx:=⟨m,[{target:=.collected D,args:=#[]}],none⟩
def xR (w2:aA) (l:Nat) (o:LoopState->Option Code->Obj) (N:aA->Prop) (X:Nat->aA->Prop) (T:aA->Prop):Prop:=
 (w2.heap[l]? =some (o .ready none)/\N (w2.putObj l (o .exhausted none)))\/
 (∃id,w2.heap[l]? =some (o .done (some (.exit id)))/\X id (w2.putObj l (o .exhausted (some (.exit id)))))\/
 (w2.heap[l]? =some (o .done (some .ret))/\T (w2.putObj l (o .exhausted (some .ret))))
def WP.range {m:Nat} {c:Code} {g:Operand} {ps:Array Tmp} {assign body:Code} {gf:Nat} {lb:Array aD} {Q:Exit->Act->aA->Prop} {E:Env} {w:aA} (N:aA->Prop) (X:Nat->aA->Prop) (T:aA->Prop)
  (hc:c=.rangeFunc g ps assign body) (hg:E.val g=some (.func (.func gf) #[] lb)) (Ek:gq P gf=true)
  (hN:∀w',N w'->∀a,Ag (marked m w.heap.size) a E->Q .normal a w') (hX:∀id w',X id w'->∀a,Ag (marked m w.heap.size) a E->Q (.exit id) a w') (hT:∀w',T w'->∀a,Ag (marked m w.heap.size) a E->Q .ret a w')
  (h:∀r:Loop,Pl r m ps assign body E->aH P gf (#[.func (.yield (w.heap.size+1)) #[] #[]]++lb) ((w.alloc (.deferred (some []))).alloc (lo r .ready none)) λe w2=>(∃v,e=aJ v)/\xR w2 (w.heap.size+1) (lo r) N X T):
  WP P (cx m) c Q E w:=by
 subst hc
 intro a ha
 have hag:Ag (marked m w.heap.size) {a with defers:=[{target:=.collected w.heap.size,args:=#[]}]++a.defers} E:=⟨by show _++a.defers=_;rw [ha.defers];rfl,ha.size,ha.get⟩
 have hgv:a.eval g=.func (.func gf) #[] lb:=ha.val hg
 refine wpIn_rangeFunc (F:=FW (cx m)) (n:=0) λfn _=>?_
 obtain ⟨r,hr⟩:∃r:Loop,r={state:=.ready,pending:=none,fn,tmps:=a.tmps,params:=ps,assign,body,defers:=w.heap.size}:=⟨_,rfl⟩
 have acQ:Pl r m ps assign body E:=by subst hr;exact ⟨rfl,rfl,rfl,ha.size,ha.get⟩
 have aaK:=h r acQ
 have e1:(Instr.enterLoop fn a.tmps ps assign body none).run P w=.ok (w.heap.size+1,[{target:=.collected w.heap.size,args:=#[]}]) ((w.alloc (.deferred (some []))).alloc (lo r .ready none)):=by
  rw [run_enterLoop_outer];subst hr;rfl
 generalize hW1:(w.alloc (.deferred (some []))).alloc (lo r .ready none)=W1 at *
 have e2:(resolve a.eval (rangeCall g (w.heap.size+1)) 0).run P W1=.ok {target:=.fn (.func gf) lb,args:=#[.func (.yield (w.heap.size+1)) #[] #[]]} W1:=by
  simp only [resolve,hgv]
  simp [go_sem]
 have e3:(invoke (.fn (.func gf) lb) #[.func (.yield (w.heap.size+1)) #[] #[]]).run P W1=.ok (.enter gf (#[.func (.yield (w.heap.size+1)) #[] #[]]++lb)) W1:=by
  simp [invoke,go_sem,n9 Ek]
 have e4:CallsIn (FW (cx m)) 0 P gf (#[.func (.yield (w.heap.size+1)) #[] #[]]++lb) W1 (rangePost (FW (cx m)) 0 P (w.heap.size+1) Q {a with defers:=[{target:=.collected w.heap.size,args:=#[]}]++a.defers}):=by
  refine By (n:=cx m) (aaK.mono ?_)
  rintro e w2 ⟨⟨v,rfl⟩,acy⟩
  rcases acy with ⟨h1,h2⟩|⟨id,h1,h2⟩|⟨h1,h2⟩
  .exact ⟨_,_,run_endLoop (r:={r with state:=.ready,pending:=none}) h1 (by simp),hN _ h2 _ hag⟩
  .exact ⟨_,_,run_endLoop (r:={r with state:=.done,pending:=some (.exit id)}) h1 (by simp),wpIn_exit (hX id _ h2 _ hag)⟩
  .exact ⟨_,_,run_endLoop (r:={r with state:=.done,pending:=some .ret}) h1 (by simp),wpIn_ret (hT _ h2 _ hag)⟩
 exact ⟨_,_,_,_,_,_,_,_,e1,e2,λ_ _=>trivial,e3,λh=>(by cases h),e4⟩
def K5 (P:aQ) (fn:Func) (E:Env) (w:aA) (D:Nat) (R:aT):Prop:=
 w.heap[D]? =some (.deferred (some []))/\pB P fn E (w.putObj D (.deferred none)) λv=>R (aJ v) (w.putObj D (.deferred none))
def Cb {fn:Func} {tmps:Array aD} {R:cD->aA->Prop} {w:aA} {v:aD} (h:(results fn tmps).run P w=.ok v w) (hr:R (aJ v) w):LeavesInM Fence.wide 0 P fn tmps R [] .returning w:=by
 show LeavesIn _ _ _ _ _ _ _ _ _
 simp only [LeavesIn]
 exact ⟨v,h,hr⟩
def K4 {m:Nat} {fn:Func} {a:Act} {E:Env} {w:aA} {R:aT} (ha:Ag (cx m) a E) (h:pB P fn E w λv=>R (aJ v) w):LeavesInM Fence.wide 0 P fn a.tmps R a.defers .returning w:=by
 obtain ⟨v,h1,h2⟩:=zJ ha h
 rw [ha.defers]
 exact Cb h1 h2
def ub {m D:Nat} {fn:Func} {a:Act} {E:Env} {w:aA} {R:aT} (ha:Ag (marked m D) a E) (h:K5 P fn E w D R):LeavesInM Fence.wide 0 P fn a.tmps R a.defers .returning w:=by
 obtain ⟨h0,h⟩:=h
 obtain ⟨v,h1,h2⟩:=zJ (n:=marked m D) ha h
 rw [ha.defers]
 exact ⟨by simp,.inl ⟨D,_,rfl,run_takeDeferred h0,Cb h1 h2⟩⟩
def Fh {f:FuncId} {fn:Func} {c:Code} {args:List aD} {w:aA} {R:cD->aA->Prop} (hf:P.funcs[f]? =some fn) (hb:fn.body=some c) (ni:Nat.ble args.length fn.ntmps=true)
  (h:WP P (cx fn.ntmps) c (bodyPostM Fence.wide 0 P fn R) (qN 0 args) w):aH P f args.toArray w R:=by
 have hs:=Nat.le_of_ble_eq_true ni
 refine callsIn_wide.1 (callsIn_of_wp_marks (n:=0) hf hb trivial (h _ ⟨rfl,by simp;omega,?_⟩))
 intro t v ht
 have:=(zi args 0 t v ht).2
 have jO:t<args.length:=(nY.1 this).1
 rw [Array.getElem?_append_left (by simpa using jO)]
 simpa using this
def E7 (v:Option aD) (K:Nat->Prop):Prop:=match v with |some (.func (.yield l) fs cs)=>iW (Nat.beq fs.size 0&&Nat.beq cs.size 0) (K l)|_=>False
def E8 {v:Option aD} {K:Nat->Prop} (h:E7 v K):∃l,v=some (.func (.yield l) #[] #[])/\K l:=by
 unfold E7 at h
 split at h
 .rename_i l fs cs
  obtain ⟨hb,hk⟩:=cU h
  simp only [Bool.and_eq_true,Nat.beq_eq] at hb
  have e1:fs=#[]:=Array.eq_empty_of_size_eq_zero hb.1
  have e2:cs=#[]:=Array.eq_empty_of_size_eq_zero hb.2
  subst e1 e2
  exact ⟨l,rfl,hk⟩
 .exact h.elim
end
abbrev _root_.Go.Code.sn (c:Code):Code:=Code.snd c
abbrev _root_.Go.Code.fs (c:Code):Code:=Code.fst c
abbrev _root_.Go.Value.i (x:Int):aD:=.int .i64 x
abbrev _root_.Go.Value.u (x:Int):aD:=.int .u64 x
abbrev _root_.Go.Value.s0:aD:=.string (aE #[])
abbrev nb (w:aA):Addr:=⟨w.heap.size,0,none⟩
section
variable {P:aQ} {n:Cx} {Q:Exit->Act->aA->Prop} {E:Env} {w:aA} {K:Env->aA->Prop}
def W0 (P:aQ) (c:Code) (K:Env->aA->Prop) (E:Env) (w:aA):Prop:=nQ P (Code.ops c) false K (List.range (Code.ops c).size) E w []
def dgK (P:aQ) (c:Code) (l:List Nat) (K:Env->aA->Prop) (E:Env) (w:aA):Prop:=nQ P (Code.ops c) true K l E w.drew []
def tgK (P:aQ) (c:Code) (t:Tr) (K:Env->aA->Prop) (E:Env) (w:aA):Prop:=uh P (Code.ops c) K t E w.drew []
abbrev ue (P:aQ) (c:Code) (K:Env->aA->Prop) (E:Env) (w:aA):Prop:=W0 P (Code.fst c) K E w
abbrev sdK (P:aQ) (c:Code) (l:List Nat) (K:Env->aA->Prop) (E:Env) (w:aA):Prop:=dgK P (Code.fst c) l K E w
abbrev stK (P:aQ) (c:Code) (t:Tr) (K:Env->aA->Prop) (E:Env) (w:aA):Prop:=tgK P (Code.fst c) t K E w
def Es:Code->Bool
 |.seq _ _=>true
 |_=>false
def CE {c:Code} (h:Es c=true):c=.seq (Code.fst c) (Code.snd c):=by cases c<;>first |rfl|cases h
def uU {a b:Bool} (h:(a&&b)=true):a=true/\b=true:=by simpa using h
def rg (c:Code) (hc:K3 n c=true) (h:W0 P c K E w) (hk:∀E' w' a',Ag n a' E'->K E' w'->Q .normal a' w'):WP P n c Q E w:=WP.WZ K hc h hk
def sr (c:Code) (h:ue P c K E w) (hk:∀E' w',K E' w'->WP P n (Code.snd c) Q E' w') (hc:(Es c&&K3 n (Code.fst c))=true:=by kernel_rfl):WP P n c Q E w:=
 WP.seq (CE (uU hc).1) (WP.WZ K (uU hc).2 h λE' w' a' hA hK=>hk E' w' hK a' hA)
def sd (c:Code) {l:List Nat} (hc:(Es c&&Zk P n (Code.fst c) l)=true) (h:sdK P c l K E w) (hk:∀E' w',K E' w'->WP P n (Code.snd c) Q E' w'):WP P n c Q E w:=
 WP.seq (CE (uU hc).1) (WP.draw l K (uU hc).2 h λE' w' a' hA hK=>hk E' w' hK a' hA)
def st (c:Code) {t:Tr} (hc:(Es c&&EG P n (Code.fst c) t)=true) (h:stK P c t K E w) (hk:∀E' w',K E' w'->WP P n (Code.snd c) Q E' w'):WP P n c Q E w:=
 WP.seq (CE (uU hc).1) (WP.tree t K (uU hc).2 h λE' w' a' hA hK=>hk E' w' hK a' hA)
def sq (c:Code) (h:WP P n (Code.fst c) (Exit.then (Dg P n (Code.snd c) Q) Q) E w) (hc:Es c=true:=by kernel_rfl):WP P n c Q E w:=WP.seq (CE hc) h
def bk (c:Code) (id:Nat) (hc:c=.block id (Code.fst c)) (h:WP P n (Code.fst c) (Exit.inBlock id Q) E w):WP P n c Q E w:=WP.block hc h
def cn (c:Code) {o:Operand} {A B:Prop} (h:nN (E.val o) A B) (h1:A->WP P n (Code.fst c) Q E w) (h2:B->WP P n (Code.snd c) Q E w) (hc:c=.cond o (Code.fst c) (Code.snd c):=by kernel_rfl):WP P n c Q E w:=WP.nN hc h1 h2 h
def sk (c:Code) (h:∀a,Ag n a E->Q .normal a w) (hc:c=.skip:=by kernel_rfl):WP P n c Q E w:=WP.skip hc h
def xt (c:Code) (id:Nat) (hc:c=.exit id) (h:∀a,Ag n a E->Q (.exit id) a w):WP P n c Q E w:=WP.exit hc h
def rt (c:Code) (h:∀a,Ag n a E->Q .ret a w) (hc:c=.ret:=by kernel_rfl):WP P n c Q E w:=WP.ret hc h
def lp (c:Code) (hc:c=.loop (Code.fst c)) (h:LP P n (Code.fst c) Q E w):WP P n c Q E w:=WP.loop hc h
def nx {c:Code} {a:Act} (ha:Ag n a E) (h:WP P n c Q E w):Exit.then (Dg P n c Q) Q .normal a w:=h a ha
end
open Go.RowKit
structure Fr (M:Nat->Prop) (w w':aA):Prop where
 os:w'.os=w.os
 tape:w'.tape=w.tape
 output:w'.output=w.output
 size:w.heap.size<=w'.heap.size
 ic:∀b,b<w.heap.size->¬M b->w'.heap[b]? =w.heap[b]?
def Fr.refl (M:Nat->Prop) (w:aA):Fr M w w:=⟨rfl,rfl,rfl,Nat.le_refl _,λ_ _ _=>rfl⟩
def Fr.trans {M M':Nat->Prop} {a b c:aA} (h:Fr M a b) (k:Fr M' b c) (hm:∀x,x<a.heap.size->M' x->M x):Fr M a c:=
 ⟨k.os.trans h.os,k.tape.trans h.tape,k.output.trans h.output,Nat.le_trans h.size k.size,
  λx hx hn=>(k.ic x (Nat.lt_of_lt_of_le hx h.size) (λe=>hn (hm x hx e))).trans (h.ic x hx hn)⟩
def Fr.mono {M M':Nat->Prop} {a b:aA} (h:Fr M a b) (hm:∀x,x<a.heap.size->M x->M' x):Fr M' a b:=
 ⟨h.os,h.tape,h.output,h.size,λx hx hn=>h.ic x hx (λe=>hn (hm x hx e))⟩
def Fr.drew (M:Nat->Prop) (w:aA):Fr M w w.drew:=⟨rfl,rfl,rfl,Nat.le_refl _,λ_ _ _=>rfl⟩
def Fr.alloc (M:Nat->Prop) (w:aA) (o:Obj):Fr M w (w.alloc o):=⟨rfl,rfl,rfl,by simp,λk hk _=>_root_.Go.heap_alloc_old w o k hk⟩
def Fr.set {M:Nat->Prop} (w:aA) (p:Addr) (v:aD) (h:M p.block):Fr M w (w.setCell p v):=
 ⟨rfl,rfl,rfl,by simp [World.setCell],λk _ hn=>Below.heap_setCell w p v k (λe=>hn (e▸h))⟩
def Fr.grown {M:Nat->Prop} {w w':aA} {r:Option Nat} (h:w.grownBy w' r) (hm:∀b,r=some b->M b):Fr M w w':=
 ⟨h.os,h.tape,h.output,h.size,λb hb hn=>h.block b hb (λe=>hn (hm b e.symm))⟩
def Fr.setObj {M:Nat->Prop} (w:aA) (r:Nat) (o:Obj) (h:M r):Fr M w {w with heap:=w.heap.setIfInBounds r o}:=
 ⟨rfl,rfl,rfl,by simp,λk _ hn=>by
  have:r≠k:=λe=>hn (e▸h)
  simp [Array.getElem?_setIfInBounds_ne this]⟩
def Fr.below {w w':aA} (h:Fr (λ_=>False) w w'):Below w.heap.size w w':=⟨h.os,h.tape,h.output,h.size,λk hk=>h.ic k hk (λe=>e)⟩
def Fr.at {M:Nat->Prop} {w w':aA} (h:Fr M w w') {b:Nat} {o:Obj} (hb:w.heap[b]? =some o) (hn:¬M b):w'.heap[b]? =some o:=
 (h.ic b (Array.getElem?_eq_some_iff.1 hb).1 hn).trans hb
def gh {w:aA} {b:Nat} {o:Obj} (hb:w.heap[b]? =some o):b<w.heap.size:=(Array.getElem?_eq_some_iff.1 hb).1
def mM (w:aA) (o:Obj):(w.alloc o).heap[w.heap.size]? =some o:=_root_.Go.heap_alloc_new w o
def size_alloc (w:aA) (o:Obj):(w.alloc o).heap.size=w.heap.size+1:=by simp
def cellAt {w:aA} {p:Addr} {cs:Array aD} {T:aP} {f:Nat×Nat} {i:Nat} {v:aD} (h:w.heap[p.block]? =some (.cells cs T f)) (hs:p.spot=none) (hi:cs[p.off+i]? =some v):
  w.cell? (p.add i)=some v:=by
 unfold Addr.add
 split
 .rename_i h0
  subst h0
  simp [World.cell?,h,hs]
  simpa using hi
 .simp [World.cell?,h,hi]
def frozenAt {w:aA} {p:Addr} {cs:Array aD} {T:aP} {i:Nat} (h:w.heap[p.block]? =some (.cells cs T (0,0))):w.frozen? (p.add i)=false:=by
 unfold Addr.add
 split<;>simp [World.frozen?,h]
def setAt {w:aA} {p:Addr} {cs:Array aD} {T:aP} {f:Nat×Nat} {i:Nat} {v:aD} (h:w.heap[p.block]? =some (.cells cs T f)) (hs:p.spot=none):
  (w.setCell (p.add i) v).heap[p.block]? =some (.cells (cs.setIfInBounds (p.off+i) v) T f):=by
 have hb:(p.add i).block=p.block:=by unfold Addr.add;split<;>rfl
 have hsp:(p.add i).spot=none:=by unfold Addr.add;split<;>simp [hs]
 have ho:(p.add i).off=p.off+i:=by unfold Addr.add;split<;>simp_all
 simp [World.setCell,hb,h,hsp,ho,Array.getElem?_modify]
def iu (p:Addr) (i:Nat):(p.add i).block=p.block:=by unfold Addr.add;split<;>rfl
def bQ (s:Sl):List Nat:=match s.a with |some p=>[p.block]|none=>[]
def Row (w:aA) (T:aP) (s:Sl) (vs:List aD):Prop:=
 (s.a=none/\s.n=0/\s.c=0/\vs=[])\/∃b o cs f,s.a=some ⟨b,o,none⟩/\w.heap[b]? =some (.cells cs T f)/\∀i v,vs[i]? =some v->cs[o+i]? =some v
def Row.nil (w:aA) (T:aP):Row w T ⟨none,0,0⟩ []:=.inl ⟨rfl,rfl,rfl,rfl⟩
def Row.ic {w w':aA} {T:aP} {s:Sl} {vs:List aD} (h:Row w T s vs) (hk:∀b∈bQ s,b<w.heap.size->w'.heap[b]? =w.heap[b]?):Row w' T s vs:=by
 rcases h with h|⟨b,o,cs,f,ha,hb,hc⟩
 .exact .inl h
 .exact .inr ⟨b,o,cs,f,ha,(hk b (by simp [bQ,ha]) (gh hb)).trans hb,hc⟩
def Row.fr {M:Nat->Prop} {w w':aA} {T:aP} {s:Sl} {vs:List aD} (h:Row w T s vs) (hf:Fr M w w') (hn:∀b∈bQ s,¬M b):Row w' T s vs:=
 h.ic λb hb hl=>hf.ic b hl (hn b hb)
def Row.lt {w:aA} {T:aP} {s:Sl} {vs:List aD} (h:Row w T s vs):∀b∈bQ s,b<w.heap.size:=by
 rcases h with ⟨ha,_⟩|⟨b,o,cs,f,ha,hb,hc⟩
 .simp [bQ,ha]
 .simp [bQ,ha];exact gh hb
def Row.cell {w:aA} {T:aP} {s:Sl} {vs:List aD} {i:Nat} {v:aD} (h:Row w T s vs) (hi:vs[i]? =some v):∃p,s.a=some p/\w.cell? (p.add i)=some v:=by
 rcases h with ⟨_,_,_,rfl⟩|⟨b,o,cs,f,ha,hb,hc⟩
 .cases hi
 .exact ⟨_,ha,cellAt (p:=⟨b,o,none⟩) hb rfl (hc i v hi)⟩
def Row.gT {w:aA} {T:aP} {s:Sl} {vs:List aD} {i:Nat} {v:aD} {K:Addr->Prop} (h:Row w T s vs) (hi:vs[i]? =some v) (hk:∀p,s.a=some p->(∀(j:Nat) (u:aD),vs[j]? =some u->w.cell? (p.add j)=some u)->K p):W.gT s.a K:=by
 rcases h with ⟨_,_,_,rfl⟩|⟨b,o,cs,f,ha,hb,hc⟩
 .cases hi
 .rw [ha]
  exact hk _ ha λj u hj=>cellAt (p:=⟨b,o,none⟩) hb rfl (hc j u hj)
def bD (w:aA) (e:aP) (sz:Nat) (s:Sl) (xs:List aD):Prop:=w.ownsRow 0 e sz s.v s.n xs
def bD.nil (w:aA) (e:aP) (sz:Nat):bD w e sz ⟨none,0,0⟩ []:=World.ownsRow_nil w 0 e sz
def bD.len {w:aA} {e:aP} {sz:Nat} {s:Sl} {xs:List aD} (h:bD w e sz s xs):xs.length=s.n *sz:=h.1
def bD.cases {w:aA} {e:aP} {sz:Nat} {s:Sl} {xs:List aD} (h:bD w e sz s xs):
  (s=⟨none,0,0⟩/\xs=[])\/∃g cur,s.a=some ⟨g,0,none⟩/\w.heap[g]? =some (.cells cur e (0,0))/\s.n<=s.c/\s.c<=maxLen/\cur.size=s.c *sz/\cur.toList.take (s.n *sz)=xs:=by
 obtain ⟨a,n,c⟩:=s
 obtain ⟨hl,h⟩:=h
 rcases h with ⟨h1,h2⟩|⟨g,cap,cur,h1,_,h2,h3,h4,h5,h6⟩
 .cases h1
  exact .inl ⟨rfl,Zi (by simpa using hl)⟩
 .cases h1
  exact .inr ⟨g,cur,rfl,h2,h3,h4,h5,h6⟩
def bD.row {w:aA} {e:aP} {sz:Nat} {s:Sl} {xs:List aD} (h:bD w e sz s xs):Row w e s xs:=by
 rcases h.cases with ⟨rfl,rfl⟩|⟨g,cur,ha,hg,_,_,_,ht⟩
 .exact .inl ⟨rfl,rfl,rfl,rfl⟩
 .refine .inr ⟨g,0,cur,(0,0),ha,hg,λi v hi=>?_⟩
  rw [<-ht,Zj] at hi
  split at hi
  .simpa using hi
  .cases hi
def bD.ic {w w':aA} {e:aP} {sz:Nat} {s:Sl} {xs:List aD} (h:bD w e sz s xs) (hk:∀b∈bQ s,b<w.heap.size->w'.heap[b]? =w.heap[b]?):bD w' e sz s xs:=by
 obtain ⟨hl,h⟩:=h
 refine ⟨hl,?_⟩
 rcases h with h|⟨g,cap,cur,h1,h2,h3,r⟩
 .exact .inl h
 .have ha:s.a=some ⟨g,0,none⟩:=(Value.slice.inj h1).1
  exact .inr ⟨g,cap,cur,h1,h2,(hk g (by simp [bQ,ha]) (gh h3)).trans h3,r⟩
def bD.fr {M:Nat->Prop} {w w':aA} {e:aP} {sz:Nat} {s:Sl} {xs:List aD} (h:bD w e sz s xs) (hf:Fr M w w') (hn:∀b∈bQ s,¬M b):bD w' e sz s xs:=
 h.ic λb hb hl=>hf.ic b hl (hn b hb)
def bD.lt {w:aA} {e:aP} {sz:Nat} {s:Sl} {xs:List aD} (h:bD w e sz s xs):∀b∈bQ s,b<w.heap.size:=h.row.lt
def bD.made (w:aA) (e:aP) (sz n:Nat) (cs:List aD) (hc:cs.length=n *sz) (hn:n<=maxLen):bD (w.alloc (.cells cs.toArray e)) e sz ⟨some ⟨w.heap.size,0,none⟩,n,n⟩ cs:=
 ⟨hc,.inr ⟨w.heap.size,n,cs.toArray,rfl,Nat.zero_le _,mM w _,Nat.le_refl _,hn,by simpa using hc,by rw [<-hc];simp⟩⟩
def Row.made (w:aA) (e:aP) (n c:Nat) (cs:List aD):Row (w.alloc (.cells cs.toArray e)) e ⟨some ⟨w.heap.size,0,none⟩,n,c⟩ cs:=
 .inr ⟨w.heap.size,0,cs.toArray,(0,0),rfl,mM w _,λi v hi=>by simpa using hi⟩
def xy (s:Sl):s.v.ownBlock=s.a.map (·.block):=by
 obtain ⟨a,n,c⟩:=s
 cases a<;>rfl
structure jb (P:aQ) (t e:aP) (z:aD) (sz bytes:Nat):Prop where
 ht:P.underlying t=some (.slice e)
 hi:(P.info? e).map (λi=>(i.zero,i.size,i.bytes))=some (some z,sz,bytes)
 hz:z.cells.size=sz
 hs:0<sz
 hb:0<bytes
def XX {P:aQ} {t ty e:aP} {z:aD} {sz bytes:Nat} (el:jb P t e z sz bytes) {w:aA} {s src:Sl} {xs news:List aD}
  {T:aP} (ho:bD w e sz s xs) (hr:Row w T src news) (hl:news.length=src.n *sz) (h1:∀u∈news,u.oneCell'=true) (hb:(s.n+src.n) *bytes<=140737488355328):
  ∃s' w',(Builtin.append_ #[t,t] ty #[s.v,src.v]).run P w=.ok s'.v w'/\bD w' e sz s' (xs++news)/\s'.n=s.n+src.n/\Fr (λb=>b∈bQ s) w w'/\
   (∀b∈bQ s',b∈bQ s\/w.heap.size<=b)/\(s'.a=none->s.a=none/\src.n=0):=by
 obtain ⟨i,hi,hz,ni,Ks⟩:=info_parts el.hi
 have BX:s.n+src.n<=140737488355328:=by
  have:=Nat.le_mul_of_pos_right (s.n+src.n) el.hb
  omega
 rcases hr with ⟨ha,hn,hc,rfl⟩|⟨b,o,cs,f,ha,hbk,hcs⟩
 .
  obtain ⟨sa,sn,sc⟩:=src
  simp only at ha hn hc
  subst ha hn hc
  have:=run_append_owned_none (P:=P) (w:=w) 0 t ty e i sz el.ht hi s.v s.n xs ho
  refine ⟨s,w,this,by simpa using ho,by simp,Fr.refl _ _,λb hb=>.inl hb,λh=>⟨h,rfl⟩⟩
 .obtain ⟨sa,sn,sc⟩:=src
  simp only at ha hl hb BX
  subst ha
  have yq:∀j u,news[j]? =some u->w.cell? ((⟨b,o,none⟩:Addr).add j)=some u:=λj u hj=>cellAt (p:=⟨b,o,none⟩) hbk rfl (hcs j u hj)
  obtain ⟨v',w',mE,DE,hgr,NV⟩:=run_append_own (P:=P) w 0 t ty e i z sz bytes el.ht hi hz ni Ks el.hz el.hs s.v s.n xs ho ⟨b,o,none⟩ sn sc news hl yq h1 (by unfold maxLen;omega) hb (Nat.zero_le _)
  have hv:∃s':Sl,v'=s'.v/\s'.n=s.n+sn/\(s'.a=none->v'=.slice none 0 0):=by
   rcases DE.2 with ⟨h1,h2⟩|⟨g,cap,cur,h1,_⟩
   .exact ⟨⟨none,0,0⟩,h1,by show 0=_;omega,λ_=>h1⟩
   .exact ⟨⟨_,_,_⟩,h1,rfl,λh=>by cases h⟩
  obtain ⟨s',rfl,zp,YH⟩:=hv
  refine ⟨s',w',mE,?_,zp,?_,?_,?_⟩
  .unfold bD;rw [zp];exact DE
  .refine Fr.grown hgr λg hg=>?_
   rw [xy] at hg
   cases B1:s.a with
   |none=>simp [B1] at hg
   |some p=>simp [B1] at hg;simp [bQ,B1,hg]
  .
   intro g hg
   rcases ho.cases with ⟨rfl,rfl⟩|⟨g0,cur,Wp,hgg,hnc,hcm,Kt,Ta⟩
   .
    obtain ⟨v2,w2,Ic,Ib,_,_⟩:=run_append_own (P:=P) w w.heap.size t ty e i z sz bytes el.ht hi hz ni Ks el.hz el.hs (.slice none 0 0) 0 [] (World.ownsRow_nil w _ e sz) ⟨b,o,none⟩ sn sc news hl yq h1 (by unfold maxLen;omega) (by simpa using hb) (Nat.le_refl _)
    have e1:(Result.ok s'.v w':Result aD)=.ok v2 w2:=mE.symm.trans Ic
    have e2:=(Result.ok.inj e1).1
    subst e2
    rcases Ib.2 with ⟨h1,_⟩|⟨g2,aax,aaA,h1,h2,_⟩
    .have:s'.a=none:=(Value.slice.inj h1).1
     simp [bQ,this] at hg
    .have:s'.a=some ⟨g2,0,none⟩:=(Value.slice.inj h1).1
     simp [bQ,this] at hg
     exact .inr (hg▸h2)
   .obtain ⟨sa0,Ov,R1⟩:=s
    simp only at Wp hnc Kt Ta hb BX
    subst Wp
    by_cases B0:Ov+sn<=R1
    .subst ni
     have xl:Ov *i.size+news.length<=cur.size:=by rw [hl,Kt,<-Nat.add_mul];exact Nat.mul_le_mul_right _ B0
     have FI:=run_append_room (P:=P) w t ty e i el.ht hi g0 Ov R1 cur hgg ⟨b,o,none⟩ sn sc news hl yq h1 B0 xl
     have e1:=mE.symm.trans FI
     have:s'.a=some ⟨g0,0,none⟩:=(Value.slice.inj (Result.ok.inj e1).1).1
     simp [bQ,this] at hg ⊢
     exact .inl hg
    .subst ni
     have holds:∀j u,xs[j]? =some u->w.cell? ((⟨g0,0,none⟩:Addr).add j)=some u:=World.ownsRow.cells (g:=g0) ho rfl
     have FI:=run_append_grow (P:=P) w t ty e i z el.ht hi hz ⟨g0,0,none⟩ Ov R1 xs ho.len holds ⟨b,o,none⟩ sn sc news hl yq (by omega) (by omega) (growslice_fits (by omega) (by rw [Ks];exact hb))
     have e1:=mE.symm.trans FI
     have:s'.a=some ⟨w.heap.size,0,none⟩:=(Value.slice.inj (Result.ok.inj e1).1).1
     simp [bQ,this] at hg
     exact .inr (by omega)
  .intro h
   have:=NV.1 (YH h)
   refine ⟨?_,this.2⟩
   exact (Value.slice.inj this.1).1
def Row.typ {w:aA} {T:aP} {s:Sl} {vs:List aD} (h:Row w T s vs):∀b∈bQ s,∃cs f,w.heap[b]? =some (.cells cs T f):=by
 rcases h with ⟨ha,_⟩|⟨b,o,cs,f,ha,hb,hc⟩
 .simp [bQ,ha]
 .intro b' fA
  have hbb:b'=b:=by simpa [bQ,ha] using fA
  subst hbb
  exact ⟨cs,f,hb⟩
def Row.one (w:aA) (e:aP) (cs:List aD):Row (w.alloc (.cells cs.toArray e)) e ⟨some ⟨w.heap.size,0,none⟩,1,1⟩ cs:=Row.made w e 1 1 cs
def sU {α β:Type} (R:α->β->Prop):List α->List β->Prop
 |[],[]=>True
 |a::l,b::m=>R a b/\sU R l m
 |_,_=>False
def sU.length {α β:Type} {R:α->β->Prop}:∀{l:List α} {m:List β},sU R l m->l.length=m.length
 |[],[],_=>rfl
 |_::_,_::_,h=>by simp [sU.length h.2]
 |[],_::_,h=>h.elim
 |_::_,[],h=>h.elim
def sU.mono {α β:Type} {R R':α->β->Prop}:∀{l:List α} {m:List β},sU R l m->(∀a∈l,∀b∈m,R a b->R' a b)->sU R' l m
 |[],[],_,_=>trivial
 |_::_,_::_,h,k=>⟨k _ DL _ DL h.1,sU.mono h.2 λa ha b hb=>k a (mG _ ha) b (mG _ hb)⟩
 |[],_::_,h,_=>h.elim
 |_::_,[],h,_=>h.elim
def sU.append {α β:Type} {R:α->β->Prop}:∀{l:List α} {m:List β} {l':List α} {m':List β},sU R l m->sU R l' m'->sU R (l++l') (m++m')
 |[],[],_,_,_,h'=>h'
 |_::_,_::_,_,_,h,h'=>⟨h.1,sU.append h.2 h'⟩
 |[],_::_,_,_,h,_=>h.elim
 |_::_,[],_,_,h,_=>h.elim
def sU.drop {α β:Type} {R:α->β->Prop}:∀(k:Nat) {l:List α} {m:List β},sU R l m->sU R (l.drop k) (m.drop k)
 |0,_,_,h=>h
 |_+1,[],[],_=>trivial
 |k+1,_::_,_::_,h=>sU.drop k h.2
 |_+1,[],_::_,h=>h.elim
 |_+1,_::_,[],h=>h.elim
def sU.get {α β:Type} {R:α->β->Prop}:∀{l:List α} {m:List β} {i:Nat} {a:α},sU R l m->l[i]? =some a->∃b,m[i]? =some b/\R a b
 |_::_,b::_,0,_,h,e=>by simp at e;subst e;exact ⟨b,by simp,h.1⟩
 |_::_,_::_,i+1,a,h,e=>by simpa using sU.get h.2 (i:=i) (a:=a) (by simpa using e)
 |[],_,_,_,_,e=>by simp at e
 |_::_,[],_,_,h,_=>h.elim
def sV (kd:IntKind) (es:Array MapEntry) (ms:List (Int×aD)):Prop:=es.toList.map (λe=>(e.key,e.val))=ms.map λp=>(Value.int kd p.1,p.2)
def wm (ms:List (Int×aD)) (k:Int):Option aD:=(ms.find? λp=>p.1==k).map (·.2)
def se {kd:IntKind} {k:Int}:∀{es:List MapEntry} {ms:List (Int×aD)} {i:Nat},es.map (λe=>(e.key,e.val))=ms.map (λp=>(Value.int kd p.1,p.2))->
  Instr.findNow (.int kd) (.int kd k) es i=some ((ms.findIdx? λp=>p.1==k).bind λj=>(ms[j]?).map λp=>(i+j,p.2))
 |[],[],i,_=>rfl
 |[],_::_,_,h=>by simp at h
 |_::_,[],_,h=>by simp at h
 |e::es,p::ms,i,h=>by
  simp only [List.map_cons,List.cons.injEq,Prod.mk.injEq] at h
  obtain ⟨⟨h1,h2⟩,h3⟩:=h
  have ih:=se (kd:=kd) (k:=k) (i:=i+1) h3
  unfold Instr.findNow
  simp only [h1,Instr.sameNow,if_true]
  by_cases hk:p.1=k
  .have e1:(k==p.1)=true:=by simp [hk]
   have e2:(p.1==k)=true:=by simp [hk]
   simp [e1,List.findIdx?_cons,e2,h2]
  .have e1:(k==p.1)=false:=by simp;exact λh=>hk h.symm
   have e2:(p.1==k)=false:=by simpa using hk
   simp only [e1,ih,List.findIdx?_cons,e2,Bool.false_eq_true,if_false]
   congr 1
   cases hf:ms.findIdx? (λp=>p.1==k) with
   |none=>simp
   |some j=>simp [Nat.add_assoc,Nat.add_comm 1 j]
def Cg {ms:List (Int×aD)} {k:Int} {i:Nat}:(((ms.findIdx? λp=>p.1==k).bind λj=>(ms[j]?).map λp=>(i+j,p.2)).map (·.2))=wm ms k:=by
 unfold wm
 induction ms generalizing i with
 |nil=>rfl
 |cons p ms ih=>
  by_cases hk:p.1=k
  .have e2:(p.1==k)=true:=by simp [hk]
   simp [List.findIdx?_cons,e2]
  .have e2:(p.1==k)=false:=by simpa using hk
   simp only [List.findIdx?_cons,e2,Bool.false_eq_true,if_false,List.find?_cons]
   rw [<-ih (i:=i+1)]
   cases hf:ms.findIdx? (λp=>p.1==k) with
   |none=>simp
   |some j=>simp [Function.comp_def]
structure GW (P:aQ) (T kt et:aP) (kd:IntKind) (z:aD):Prop where
 hT:P.underlying T=some (.map kt et)
 hk:P.underlying kt=some (.int kd)
 hz:(P.info? et).map (·.zero)=some (some z)
def tD {P:aQ} {kt:aP} {kd:IntKind} (hk:P.underlying kt=some (.int kd)) (b:Bool) (k:Int) (w:aA):(Instr.checkKey b 10000 kt (.int kd k)).run P w=.ok () w:=by
 unfold Instr.checkKey
 simp [run_underlying hk]
def sT {P:aQ} {et:aP} {z:aD} (hz:(P.info? et).map (·.zero)=some (some z)) (w:aA):(zeroValue et).run P w=.ok z w:=by
 obtain ⟨i,hi,hzz⟩:=Option.map_eq_some_iff.1 hz
 simp [zeroValue,typeInfo,hi,hzz]
def wI {P:aQ} {T kt et:aP} {kd:IntKind} {z:aD} (mo:GW P T kt et kd z) {w:aA} {mb:Nat} {es:Array MapEntry} {clock:Nat} {ms:List (Int×aD)}
  (hm:w.heap[mb]? =some (.map es clock)) (wF:sV kd es ms) (k:Int) (v:aD) (tz:wm ms k=none):
  ∃w' Ec,(Instr.mapUpdate T (.map (some mb)) (.int kd k) v).run P w=.ok () w'/\w'.heap[mb]? =some (.map Ec (clock+1))/\sV kd Ec (ms++[(k,v)])/\Fr (λb=>b=mb) w w'/\w'.heap.size=w.heap.size:=by
 have hf:=se (k:=k) (i:=0) wF
 have hg:(getObj mb).run P w=.ok (.map es clock) w:=by simp [getObj,Sem.run,hm]
 have Ad:=Cg (ms:=ms) (k:=k) (i:=0)
 have jO:=gh hm
 have hr:((ms.findIdx? λp=>p.1==k).bind λj=>(ms[j]?).map λp=>(0+j,p.2))=none:=by
  rw [tz] at Ad;simpa using Ad
 refine ⟨{w with heap:=w.heap.setIfInBounds mb (.map (es.push {key:=.int kd k,val:=v,born:=clock}) (clock+1))},es.push {key:=.int kd k,val:=v,born:=clock},?_,by simp [jO],?_,Fr.setObj w mb _ rfl,by simp⟩
 .unfold Instr.mapUpdate Instr.findKey
  simp only [Sem.run_bind,run_underlying mo.hT,Result.andThen_ok,hg,tD mo.hk,run_underlying mo.hk,hf,hr]
  simp [setObj,Sem.run,hm]
 .unfold sV at wF ⊢
  simp [wF]
def EA {P:aQ} {t e:aP} {z:aD} {sz bytes:Nat} (el:jb P t e z sz bytes) (w:aA) (n:Nat) (hb:n *bytes<=140737488355328):
  ∃w',(Instr.makeSlice t (.int .i64 (n:Int)) (.int .i64 (n:Int))).run P w=.ok (.slice (some ⟨w.heap.size,0,none⟩) n n) w'/\bD w' e sz ⟨some ⟨w.heap.size,0,none⟩,n,n⟩ (madeCells z.cells (n *sz)).toList/\Fr (λ_=>False) w w':=by
 obtain ⟨i,hi,hz,ni,Ks⟩:=info_parts el.hi
 have L8:n<=140737488355328:=by
  have:=Nat.le_mul_of_pos_right n el.hb
  omega
 obtain ⟨w',h1,h2,h3⟩:=run_make_full (P:=P) w 0 t e i z sz el.ht hi hz ni .i64 .i64 n (by rw [Ks,Nat.mul_comm];omega) (by unfold maxLen;omega) (Nat.zero_le _)
 exact ⟨w',h1,h2,Fr.grown h3 λ_ h=>by cases h⟩
def wH (z:aD) (n:Nat) (hz:z.cells=#[z]):(madeCells z.cells (n *1)).toList=List.replicate n z:=by
 rw [hz]
 apply List.ext_getElem?
 intro i
 by_cases h:i<n
 .simp [madeCells,h,Nat.mod_one]
 .simp [madeCells,h]
abbrev bW (w w':aA):Prop:=Fr (λ_=>False) w w'
abbrev bO (b:Nat):Addr:=⟨b,0,none⟩
def hV (b:UInt8):aD:=.int .u8 (b.toNat:Int)
def l4 (n:Int):aD:=.int .i64 n
def Np (bs:List UInt8):∀u∈bs.map hV,u.oneCell'=true:=by
 intro u hu;obtain ⟨b,_,rfl⟩:=pN.1 hu;rfl
def Fr.Az {M:Nat->Prop} {a b c:aA} (h:Fr M a b) (k:bW b c):Fr M a c:=h.trans k λ_ _ h=>h.elim
def Fr.of0 {M:Nat->Prop} {a b:aA} (h:bW a b):Fr M a b:=h.mono λ_ _ h=>h.elim
def Fr.new {M:Nat->Prop} {a b:aA} (h:Fr M a b) (hn:∀x,x<a.heap.size->¬M x):bW a b:=h.mono λx hx hm=>hn x hx hm
def qW {w:aA} {p:Addr} {v:aD} (hc:w.cell? p=some v):p.block<w.heap.size:=by
 unfold World.cell? at hc
 cases e:w.heap[p.block]? with
 |none=>rw [e] at hc;simp at hc
 |some o=>exact (Array.getElem?_eq_some_iff.1 e).1
def TH {M:Nat->Prop} {w w':aA} (h:Fr M w w') {p:Addr} {v:aD} (hc:w.cell? p=some v) (hn:¬M p.block):w'.cell? p=some v:=by
 have:=h.ic p.block (qW hc) hn
 unfold World.cell? at hc ⊢
 rw [this];exact hc
def add_add (p:Addr) (i j:Nat):(p.add i).add j=p.add (i+j):=by
 unfold Addr.add
 by_cases h1:i=0<;>by_cases h2:j=0<;>simp [h1,h2,Nat.add_assoc]
def xS (p:Addr):p.add 0=p:=by simp [Addr.add]
def qR (w:aA) (s:Sl) (vs:List aD):Prop:=(s.a=none->s.n=0/\s.c=0)/\∀i v,vs[i]? =some v->∃p,s.a=some p/\w.cell? (p.add i)=some v
def qR.nil (w:aA):qR w ⟨none,0,0⟩ []:=⟨λ_=>⟨rfl,rfl⟩,λi v h=>by simp at h⟩
def Row.Ql {w:aA} {T:aP} {s:Sl} {vs:List aD} (h:Row w T s vs):qR w s vs:=by
 refine ⟨λha=>?_,λi v hi=>h.cell hi⟩
 rcases h with ⟨_,h1,h2,_⟩|⟨b,o,cs,f,hb,_⟩
 .exact ⟨h1,h2⟩
 .rw [ha] at hb;cases hb
def qR.fr {M:Nat->Prop} {w w':aA} {s:Sl} {vs:List aD} (h:qR w s vs) (hf:Fr M w w') (hn:∀b∈bQ s,¬M b):qR w' s vs:=
 ⟨h.1,λi v hi=>by
  obtain ⟨p,hp,hc⟩:=h.2 i v hi
  exact ⟨p,hp,TH hf hc (by rw [iu];exact hn _ (by simp [bQ,hp]))⟩⟩
def qR.get {w:aA} {s:Sl} {vs:List aD} (h:qR w s vs) {i j:Nat} {v:aD} (hi:vs[i]? =some v) (hj:j=i *1) {K:Addr->Prop} (hk:∀p,s.a=some p->w.cell? (p.add j)=some v->K p):W.gT s.a K:=by
 obtain ⟨p,hp,hc⟩:=h.2 i v hi
 rw [hp]
 rw [Nat.mul_one] at hj;subst hj
 exact hk p hp hc
def sub (s:Sl) (l h:Nat):Sl:=⟨if s.c=l then s.a else s.a.map (·.add (l *1)),h - l,s.c - l⟩
def qR.sub {w:aA} {s:Sl} {vs:List aD} (h:qR w s vs) (l hi:Nat) (h1:vs.length<=s.n) (h2:s.n<=s.c) (hl:l<=hi) (hh:hi<=s.c):qR w (sub s l hi) ((vs.take hi).drop l):=by
 refine ⟨λha=>?_,λi v hv=>?_⟩
 .have:s.a=none:=by
   unfold W.sub at ha
   simp only at ha
   split at ha
   .exact ha
   .simpa using ha
  obtain ⟨e1,e2⟩:=h.1 this
  unfold W.sub
  simp only
  omega
 .rw [List.getElem?_drop,Zj] at hv
  split at hv
  .rename_i jO
   obtain ⟨p,hp,hc⟩:=h.2 _ _ hv
   have hlen:=(nY.1 hv).1
   unfold W.sub
   simp only [hp]
   rw [aI (by omega)]
   exact ⟨_,rfl,by rw [add_add,Nat.mul_one];exact hc⟩
  .cases hv
def r6 {P:aQ} {t ty e:aP} {z:aD} {sz bytes:Nat} (el:jb P t e z sz bytes) {w:aA} {s src:Sl} {xs news:List aD}
  (ho:bD w e sz s xs) (hr:qR w src news) (hl:news.length=src.n *sz) (h1:∀u∈news,u.oneCell'=true) (hb:(s.n+src.n) *bytes<=140737488355328):
  ∃s' w',(Builtin.append_ #[t,t] ty #[s.v,src.v]).run P w=.ok s'.v w'/\bD w' e sz s' (xs++news)/\s'.n=s.n+src.n/\Fr (λb=>b∈bQ s) w w'/\
   (∀b∈bQ s',b∈bQ s\/w.heap.size<=b)/\(s'.a=none->s.a=none/\src.n=0):=by
 obtain ⟨i,hi,hz,ni,Ks⟩:=info_parts el.hi
 have BX:s.n+src.n<=140737488355328:=by
  have:=Nat.le_mul_of_pos_right (s.n+src.n) el.hb
  omega
 obtain ⟨sa,sn,sc⟩:=src
 cases sa with
 |none=>
  obtain ⟨e1,e2⟩:=hr.1 rfl
  simp only at e1 e2
  subst e1 e2
  have NV:news=[]:=Zi (by simpa using hl)
  subst NV
  have:=run_append_owned_none (P:=P) (w:=w) 0 t ty e i sz el.ht hi s.v s.n xs ho
  exact ⟨s,w,this,by simpa using ho,by simp,Fr.refl _ _,λb hb=>.inl hb,λh=>⟨h,rfl⟩⟩
 |some q=>
  simp only at hl hb BX
  have yq:∀j u,news[j]? =some u->w.cell? (q.add j)=some u:=λj u hj=>by
   obtain ⟨p,hp,hc⟩:=hr.2 j u hj
   cases hp;exact hc
  obtain ⟨v',w',mE,DE,hgr,NV⟩:=run_append_own (P:=P) w 0 t ty e i z sz bytes el.ht hi hz ni Ks el.hz el.hs s.v s.n xs ho q sn sc news hl yq h1 (by unfold maxLen;omega) hb (Nat.zero_le _)
  have hv:∃s':Sl,v'=s'.v/\s'.n=s.n+sn/\(s'.a=none->v'=.slice none 0 0):=by
   rcases DE.2 with ⟨h1,h2⟩|⟨g,cap,cur,h1,_⟩
   .exact ⟨⟨none,0,0⟩,h1,by show 0=_;omega,λ_=>h1⟩
   .exact ⟨⟨_,_,_⟩,h1,rfl,λh=>by cases h⟩
  obtain ⟨s',rfl,zp,YH⟩:=hv
  refine ⟨s',w',mE,?_,zp,?_,?_,?_⟩
  .unfold bD;rw [zp];exact DE
  .refine Fr.grown hgr λg hg=>?_
   rw [xy] at hg
   cases B1:s.a with
   |none=>simp [B1] at hg
   |some p=>simp [B1] at hg;simp [bQ,B1,hg]
  .intro g hg
   rcases ho.cases with ⟨rfl,rfl⟩|⟨g0,cur,Wp,hgg,hnc,hcm,Kt,Ta⟩
   .obtain ⟨v2,w2,Ic,Ib,_,_⟩:=run_append_own (P:=P) w w.heap.size t ty e i z sz bytes el.ht hi hz ni Ks el.hz el.hs (.slice none 0 0) 0 [] (World.ownsRow_nil w _ e sz) q sn sc news hl yq h1 (by unfold maxLen;omega) (by simpa using hb) (Nat.le_refl _)
    have e1:(Result.ok s'.v w':Result aD)=.ok v2 w2:=mE.symm.trans Ic
    have e2:=(Result.ok.inj e1).1
    subst e2
    rcases Ib.2 with ⟨h1,_⟩|⟨g2,aax,aaA,h1,h2,_⟩
    .have:s'.a=none:=(Value.slice.inj h1).1
     simp [bQ,this] at hg
    .have:s'.a=some ⟨g2,0,none⟩:=(Value.slice.inj h1).1
     simp [bQ,this] at hg
     exact .inr (hg▸h2)
   .obtain ⟨sa0,Ov,R1⟩:=s
    simp only at Wp hnc Kt Ta hb BX
    subst Wp
    by_cases B0:Ov+sn<=R1
    .subst ni
     have xl:Ov *i.size+news.length<=cur.size:=by rw [hl,Kt,<-Nat.add_mul];exact Nat.mul_le_mul_right _ B0
     have FI:=run_append_room (P:=P) w t ty e i el.ht hi g0 Ov R1 cur hgg q sn sc news hl yq h1 B0 xl
     have e1:=mE.symm.trans FI
     have:s'.a=some ⟨g0,0,none⟩:=(Value.slice.inj (Result.ok.inj e1).1).1
     simp [bQ,this] at hg ⊢
     exact .inl hg
    .subst ni
     have holds:∀j u,xs[j]? =some u->w.cell? ((⟨g0,0,none⟩:Addr).add j)=some u:=World.ownsRow.cells (g:=g0) ho rfl
     have FI:=run_append_grow (P:=P) w t ty e i z el.ht hi hz ⟨g0,0,none⟩ Ov R1 xs ho.len holds q sn sc news hl yq (by omega) (by omega) (growslice_fits (by omega) (by rw [Ks];exact hb))
     have e1:=mE.symm.trans FI
     have:s'.a=some ⟨w.heap.size,0,none⟩:=(Value.slice.inj (Result.ok.inj e1).1).1
     simp [bQ,this] at hg
     exact .inr (by omega)
  .intro h
   have:=NV.1 (YH h)
   refine ⟨?_,this.2⟩
   exact (Value.slice.inj this.1).1
def bD.cap {w:aA} {e:aP} {sz:Nat} {s:Sl} {xs:List aD} (h:bD w e sz s xs):s.n<=s.c:=by
 rcases h.cases with ⟨rfl,_⟩|⟨g,cur,_,_,h,_⟩
 .exact Nat.le_refl _
 .exact h
def Rd (w:aA) (s:Sl) (vs:List aD):Prop:=s.n=vs.length/\s.n<=s.c/\qR w s vs
def Ow (w:aA) (e:aP) (s:Sl) (vs:List aD):Prop:=s.n=vs.length/\bD w e 1 s vs
def Ow.rd {w:aA} {e:aP} {s:Sl} {vs:List aD} (h:Ow w e s vs):Rd w s vs:=⟨h.1,h.2.cap,h.2.row.Ql⟩
def Rd.fr {M:Nat->Prop} {w w':aA} {s:Sl} {vs:List aD} (h:Rd w s vs) (hf:Fr M w w') (hn:∀b∈bQ s,¬M b):Rd w' s vs:=⟨h.1,h.2.1,h.2.2.fr hf hn⟩
def Ow.fr {M:Nat->Prop} {w w':aA} {e:aP} {s:Sl} {vs:List aD} (h:Ow w e s vs) (hf:Fr M w w') (hn:∀b∈bQ s,¬M b):Ow w' e s vs:=⟨h.1,h.2.fr hf hn⟩
def Rd.qx {w w':aA} {s:Sl} {vs:List aD} (h:Rd w s vs) (hf:bW w w'):Rd w' s vs:=h.fr hf λ_ _ h=>h
def Ow.qx {w w':aA} {e:aP} {s:Sl} {vs:List aD} (h:Ow w e s vs) (hf:bW w w'):Ow w' e s vs:=h.fr hf λ_ _ h=>h
def Rd.nil (w:aA):Rd w ⟨none,0,0⟩ []:=⟨rfl,Nat.le_refl _,qR.nil w⟩
def Ow.nil (w:aA) (e:aP):Ow w e ⟨none,0,0⟩ []:=⟨rfl,bD.nil w _ _⟩
def Ow.lt {w:aA} {e:aP} {s:Sl} {vs:List aD} (h:Ow w e s vs):∀b∈bQ s,b<w.heap.size:=h.2.lt
def Ow.made (w:aA) (e:aP) (cs:List aD) (n:Nat) (hn:n=cs.length) (hl:n<=1000000):Ow (w.alloc (.cells cs.toArray e)) e ⟨some ⟨w.heap.size,0,none⟩,n,n⟩ cs:=
 ⟨hn,bD.made w e 1 n cs (by omega) (by unfold maxLen;omega)⟩
def Rd.get {w:aA} {s:Sl} {vs:List aD} (h:Rd w s vs) {i j:Nat} {v:aD} (hi:vs[i]? =some v) (hj:j=i *1) {K:Addr->Prop} (hk:∀p,s.a=some p->w.cell? (p.add j)=some v->K p):W.gT s.a K:=h.2.2.get hi hj hk
def Rd.sub {w:aA} {s:Sl} {vs:List aD} (h:Rd w s vs) (l hi:Nat) (hl:l<=hi) (hh:hi<=vs.length):Rd w (sub s l hi) ((vs.take hi).drop l):=by
 have h1:=h.1
 have h2:=h.2.1
 refine ⟨?_,?_,h.2.2.sub l hi (by omega) h.2.1 hl (by omega)⟩
 .unfold W.sub;simp;omega
 .unfold W.sub;simp;omega
def Nk {t ty e:aP} {z:aD} {bytes:Nat} {P:aQ} (el:jb P t e z 1 bytes) {w:aA} {s src:Sl} {xs ys:List aD} (ho:Ow w e s xs) (hr:Rd w src ys) (h1:∀u∈ys,u.oneCell'=true) (hb:(xs.length+ys.length) *bytes<=140737488355328):
  ∃s' w',(Builtin.append_ #[t,t] ty #[s.v,src.v]).run P w=.ok s'.v w'/\Ow w' e s' (xs++ys)/\Fr (λb=>b∈bQ s) w w'/\(∀b∈bQ s',b∈bQ s\/w.heap.size<=b)/\(s'.a=none->s.a=none/\ys=[]):=by
 obtain ⟨s',w',g1,g2,g3,g4,g5,g6⟩:=r6 (ty:=ty) el ho.2 hr.2.2 (by rw [hr.1];omega) h1 (by rw [ho.1,hr.1];exact hb)
 refine ⟨s',w',g1,⟨?_,g2⟩,g4,g5,λh=>⟨(g6 h).1,?_⟩⟩
 .rw [g3,ho.1,hr.1];simp
 .have:=(g6 h).2
  rw [hr.1] at this
  exact Zi this
def BP {α:Type} (f:α->List aD) (sz:Nat) (hf:∀a,(f a).length=sz):∀(cs:List α) (i j:Nat) (a:α),cs[i]? =some a->j<sz->(cs.flatMap f)[i *sz+j]? =(f a)[j]?
 |[],i,j,a,h,_=>by simp at h
 |c::cs,0,j,a,h,hj=>by
  simp at h
  subst h
  rw [rT,Nat.zero_mul,Nat.zero_add,List.getElem?_append_left (by rw [hf];exact hj)]
 |c::cs,i+1,j,a,h,hj=>by
  rw [rT,List.getElem?_append_right (by rw [hf,Nat.succ_mul];omega),hf,show (i+1) *sz+j - sz=i *sz+j by rw [Nat.succ_mul];omega]
  exact BP f sz hf cs i j a (by simpa using h) hj
def qo {α:Type} (f:α->List aD) (sz:Nat) (hf:∀a,(f a).length=sz) (cs:List α):(cs.flatMap f).length=cs.length *sz:=by
 induction cs with
 |nil=>simp
 |cons c cs ih=>rw [rT,List.length_append,ih,hf,List.length_cons,Nat.succ_mul];omega
def qR.elem {α:Type} {f:α->List aD} {sz:Nat} (hf:∀a,(f a).length=sz) (hs:0<sz) {w:aA} {s:Sl} {cs:List α} (h:qR w s (cs.flatMap f)) {i:Nat} {a:α} (hi:cs[i]? =some a) {K:Addr->Prop}
  (hk:∀p,s.a=some p->(∀j v,(f a)[j]? =some v->w.cell? ((p.add (i *sz)).add j)=some v)->K p):W.gT s.a K:=by
 obtain ⟨v0,Ut⟩:∃v,(f a)[0]? =some v:=⟨_,ie (by rw [hf];exact hs)⟩
 obtain ⟨p,hp,_⟩:=h.2 (i *sz+0) v0 (by rw [BP f sz hf cs i 0 a hi hs];exact Ut)
 rw [hp]
 refine hk p hp λj v hv=>?_
 have hj:j<sz:=by have:=(nY.1 hv).1;rwa [hf] at this
 obtain ⟨q,hq,hc⟩:=h.2 (i *sz+j) v (by rw [BP f sz hf cs i j a hi hj];exact hv)
 rw [hp] at hq
 cases hq
 rw [add_add];exact hc
def I7 {w:aA} {b:Nat} {cs:Array aD} {T:aP} (h:w.heap[b]? =some (.cells cs T (0,0))) (i:Nat) (hi:i<cs.size) (v:aD):
  (w.cell? ((bO b).add i)).isSome=true/\w.frozen? ((bO b).add i)=false/\(w.setCell ((bO b).add i) v).heap[b]? =some (.cells (cs.setIfInBounds i v) T (0,0))/\Fr (·=b) w (w.setCell ((bO b).add i) v):=by
 refine ⟨?_,frozenAt (p:=bO b) h,?_,Fr.set _ _ _ (iu _ _)⟩
 .rw [cellAt (p:=bO b) (v:=cs[i]) h rfl (by simp [hi])];rfl
 .have:=setAt (p:=bO b) (i:=i) (v:=v) h rfl
  simpa using this
def Fr.put (w:aA) (l:Nat) (o:Obj):Fr (·=l) w (w.putObj l o):=⟨rfl,rfl,rfl,by simp [World.putObj],λk _ hn=>by
 have:l≠k:=λe=>hn e.symm
 simp [World.putObj,Array.getElem?_setIfInBounds_ne this]⟩
def Zf {w:aA} {l:Nat} {x:Obj} (h:w.heap[l]? =some x) (o:Obj):(w.putObj l o).heap[l]? =some o:=by
 have:=gh h
 simp [World.putObj,this]
def Pw (x y:Nat) (hx:x<18446744073709551616) (hy:y<18446744073709551616):za .u64 (x:Int) (y:Int)=((x&&& y:Nat):Int):=by
 unfold za
 have h1:(BitVec.ofInt (IntKind.bits .u64) (x:Int)&&& BitVec.ofInt (IntKind.bits .u64) (y:Int)).toNat=x&&& y:=by
  show (BitVec.ofInt 64 (x:Int)&&& BitVec.ofInt 64 (y:Int)).toNat=_
  rw [BitVec.toNat_and,BitVec.ofInt_natCast,BitVec.ofInt_natCast,BitVec.toNat_ofNat,BitVec.toNat_ofNat,Nat.mod_eq_of_lt hx,Nat.mod_eq_of_lt hy]
 rw [h1]
 have:x&&& y<=x:=Nat.and_le_left
 exact IntWalk.u64_in _ (by omega)
def G3 (x y:Nat) (hx:x<18446744073709551616) (hy:y<18446744073709551616):Tn .u64 (x:Int) (y:Int)=((x^^^y:Nat):Int):=by
 unfold Tn
 have h1:(BitVec.ofInt (IntKind.bits .u64) (x:Int)^^^BitVec.ofInt (IntKind.bits .u64) (y:Int)).toNat=x^^^y:=by
  show (BitVec.ofInt 64 (x:Int)^^^BitVec.ofInt 64 (y:Int)).toNat=_
  rw [BitVec.toNat_xor,BitVec.ofInt_natCast,BitVec.ofInt_natCast,BitVec.toNat_ofNat,BitVec.toNat_ofNat,Nat.mod_eq_of_lt hx,Nat.mod_eq_of_lt hy]
 rw [h1]
 have:x^^^y<2^64:=Nat.xor_lt_two_pow hx hy
 exact IntWalk.u64_in _ (by omega)
def SH (x:Nat) (hx:x<18446744073709551616):x^^^18446744073709551615=18446744073709551615 - x:=by
 have h1:=BitVec.toNat_not (x:=BitVec.ofNat 64 x)
 have h2:(~~~ (BitVec.ofNat 64 x))=BitVec.ofNat 64 x^^^BitVec.allOnes 64:=(BitVec.xor_allOnes).symm
 rw [h2,BitVec.toNat_xor,BitVec.toNat_ofNat,Nat.mod_eq_of_lt hx,BitVec.toNat_allOnes] at h1
 omega
def J4 (n:Nat) (h:n<256):bOr .u8 (n:Int) 128=((n%128+128:Nat):Int):=by
 have h':∀x:Fin 256,bOr .u8 (x.val:Int) 128=((x.val%128+128:Nat):Int):=by decide+kernel
 exact h' ⟨n,h⟩
def Sy (n:Nat):aC .u8 (n:Int)=((n%256:Nat):Int):=by rw [IntKind.wrap_u8];omega
def M5 (n:Nat) (h:n<18446744073709551616):aC .u64 (n:Int)=(n:Int):=IntWalk.u64_in _ (by omega)
def yk (n m:Nat) (h:0<m):Int.fdiv (n:Int) (m:Int)=((n / m:Nat):Int):=by
 rw [Int.fdiv_eq_ediv_of_nonneg _ (by omega)];rfl
def bP (i:Nat) (h:i<9223372036854775807):aC .i64 ((i:Int)+1)=((i+1:Nat):Int):=by rw [IntWalk.i64_in _ (by omega)];omega
structure En where
 fp:List Nat
 P:aA->Prop
 st:∀w w',(∀b∈fp,b<w.heap.size->w'.heap[b]? =w.heap[b]?)->P w->P w'
 lt:∀w,P w->∀b∈fp,b<w.heap.size
 nd:fp.Nodup
def En.ob (b:Nat) (o:Obj):En:=⟨[b],λw=>w.heap[b]? =some o,λw w' h hp=>(h b (by simp) (gh hp)).trans hp,λw hp x hx=>by simp at hx;subst hx;exact gh hp,by simp⟩
abbrev En.c (b:Nat) (vs:List aD) (T:aP):En:=.ob b (.cells vs.toArray T (0,0))
def En.row (e:aP) (sz:Nat) (s:Sl) (vs:List aD):En:=⟨bQ s,λw=>bD w e sz s vs,λ_ _ h hp=>hp.ic h,λ_ hp=>hp.lt,by unfold bQ;split<;>simp⟩
def En.rd (s:Sl) (vs:List aD):En:=⟨if vs=[] then [] else bQ s,λw=>Rd w s vs,λw w' h hp=>by
  refine ⟨hp.1,hp.2.1,hp.2.2.1,λi v hi=>?_⟩
  obtain ⟨p,ha,hc⟩:=hp.2.2.2 i v hi
  have jx:vs≠[]:=λe=>by subst e;simp at hi
  rw [aI jx] at h
  have:=h p.block (by simp [bQ,ha]) (by have:=qW hc;rwa [iu] at this)
  refine ⟨p,ha,?_⟩
  unfold World.cell? at hc ⊢
  rw [iu] at hc ⊢
  rw [this];exact hc,λw hp b hb=>by
  split at hb
  .cases hb
  .rename_i jx
   have h0:0<vs.length:=List.length_pos_iff.2 jx
   obtain ⟨p,ha,hc⟩:=hp.2.2.2 0 vs[0] (ie h0)
   simp [bQ,ha] at hb
   subst hb
   have:=qW hc
   rwa [iu] at this,by split<;>(try simp);unfold bQ;split<;>simp⟩
structure LH (M:Nat->Prop) (w0 w:aA) (L D:List En):Prop where
 fr:Fr M w0 w
 own:∀e∈L,e.P w
 rd:∀e∈D,e.P w
 new:∀e∈L,∀b∈e.fp,w0.heap.size<=b\/M b
 nd:(L.flatMap (·.fp)).Nodup
 dj:∀e∈D,∀b∈e.fp,∀e'∈L,b∉e'.fp
def LH.start {M:Nat->Prop} {w:aA} (D:List En) (h:∀e∈D,e.P w):LH M w w [] D:=⟨Fr.refl _ _,by simp,h,by simp,by simp,by simp⟩
def LH.uf {M:Nat->Prop} {w:aA} (L D:List En) (hl:∀e∈L,e.P w/\∀b∈e.fp,M b) (hn:(L.flatMap (·.fp)).Nodup) (h:∀e∈D,e.P w/\∀b∈e.fp,∀e'∈L,b∉e'.fp):LH M w w L D:=
 ⟨Fr.refl _ _,λe he=>(hl e he).1,λe he=>(h e he).1,λe he b hb=>.inr ((hl e he).2 b hb),hn,λe he=>(h e he).2⟩
def LH.qx {M:Nat->Prop} {w0 w w':aA} {L D:List En} (H:LH M w0 w L D) (f:bW w w'):LH M w0 w' L D:=
 ⟨H.fr.Az f,λe he=>e.st w w' (λb _ hl=>f.ic b hl id) (H.own e he),λe he=>e.st w w' (λb _ hl=>f.ic b hl id) (H.rd e he),H.new,H.nd,H.dj⟩
def LH.drew {M:Nat->Prop} {w0 w:aA} {L D:List En} (H:LH M w0 w L D):LH M w0 w.drew L D:=H.qx (Fr.drew _ _)
def zy {α:Type} {f:α->List Nat}:∀{L:List α} {i:Nat} {e e':α},L[i]? =some e->(L.flatMap f).Nodup->(f e').Nodup->(∀x∈f e',x∈f e\/x∉L.flatMap f)->((L.set i e').flatMap f).Nodup
 |[],i,e,e',h,_,_,_=>by simp at h
 |a::L,0,e,e',h,hn,h',hs=>by
  simp at h;subst h
  simp only [List.set_cons_zero,rT,zH] at hn ⊢
  refine ⟨h',hn.2.1,λx hx y hy=>?_⟩
  rintro rfl
  rcases hs x hx with h|h
  .exact hn.2.2 x h x hy rfl
  .exact h (by simp only [rT,gg];exact .inr hy)
 |a::L,i+1,e,e',h,hn,h',hs=>by
  simp only [List.getElem?_cons_succ] at h
  simp only [List.set_cons_succ,rT,zH] at hn ⊢
  refine ⟨hn.1,zy h hn.2.1 h' (λx hx=>(hs x hx).imp id λh hm=>h (by simp only [rT,gg];exact .inr hm)),λx hx y hy=>?_⟩
  rintro rfl
  obtain ⟨g,hg,hxg⟩:=nG.1 hy
  rcases qmO hg with hg|rfl
  .exact hn.2.2 x hx x (nG.2 ⟨g,hg,hxg⟩) rfl
  .rcases hs x hxg with h1|h1
   .exact hn.2.2 x hx x (nG.2 ⟨e,dI h,h1⟩) rfl
   .exact h1 (by simp only [rT,gg];exact .inl hx)
def LH.KR {M:Nat->Prop} {w0 w:aA} {L D:List En} (H:LH M w0 w L D):∀b∈L.flatMap (·.fp),b<w.heap.size:=λb hb=>by
 obtain ⟨e,he,hb⟩:=nG.1 hb
 exact e.lt w (H.own e he) b hb
def qX {L:List En} (hn:(L.flatMap (·.fp)).Nodup):∀{i:Nat} {e:En},L[i]? =some e->∀{j:Nat} {g:En},L[j]? =some g->i≠j->∀b∈e.fp,b∉g.fp:=by
 induction L with
 |nil=>intro i e h;simp at h
 |cons a L ih=>
  simp only [rT,zH] at hn
  intro i e hi j g hj jx b hb fA
  cases i with
  |zero=>
   simp at hi;subst hi
   cases j with
   |zero=>exact jx rfl
   |succ j=>exact hn.2.2 b hb b (nG.2 ⟨g,dI (by simpa using hj),fA⟩) rfl
  |succ i=>
   cases j with
   |zero=>
    simp at hj;subst hj
    exact hn.2.2 b fA b (nG.2 ⟨e,dI (by simpa using hi),hb⟩) rfl
   |succ j=>exact ih hn.2.1 (by simpa using hi) (by simpa using hj) (by omega) b hb fA
def LH.CX {M:Nat->Prop} {w0 w w':aA} {L D:List En} (H:LH M w0 w L D) {e:En} (i:Nat) (e':En) (hi:L[i]? =some e) (f:Fr (·∈e.fp) w w') (hP:e'.P w') (FD:∀b∈e'.fp,b∈e.fp\/w.heap.size<=b):LH M w0 w' (L.set i e') D:=by
 have hm:=dI hi
 have El:Fr M w0 w':=H.fr.trans f λx hx Ky=>(H.new e hm x Ky).resolve_left (by omega)
 refine ⟨El,λg hg=>?_,λg hg=>?_,λg hg b hb=>?_,zy hi H.nd e'.nd λx hx=>?_,λg hg b hb g' nh fA=>?_⟩
 .obtain ⟨j,hj⟩:=O2.1 hg
  rw [qgT] at hj
  split at hj
  .split at hj
   .cases hj;exact hP
   .cases hj
  .rename_i jx
   refine g.st w w' (λb hb hl=>f.ic b hl λtM=>qX H.nd hi hj jx b tM hb) (H.own g (dI hj))
 .exact g.st w w' (λb hb hl=>f.ic b hl λtM=>H.dj g hg b hb e hm tM) (H.rd g hg)
 .rcases qmO hg with hg|rfl
  .exact H.new g hg b hb
  .rcases FD b hb with h|h
   .exact H.new e hm b h
   .exact .inl (Nat.le_trans H.fr.size h)
 .rcases FD x hx with h|h
  .exact .inl h
  .exact .inr λFK=>by have:=H.KR x FK;omega
 .rcases qmO nh with nh|rfl
  .exact H.dj g hg b hb g' nh fA
  .rcases FD b fA with h|h
   .exact H.dj g hg b hb e hm h
   .have:=g.lt w (H.rd g hg) b hb;omega
def LH.push {M:Nat->Prop} {w0 w w':aA} {L D:List En} (H:LH M w0 w L D) (e:En) (f:bW w w') (hP:e.P w') (FD:∀b∈e.fp,w.heap.size<=b):LH M w0 w' (L++[e]) D:=by
 have H':=H.qx f
 refine ⟨H'.fr,λg hg=>?_,H'.rd,λg hg b hb=>?_,?_,λg hg b hb g' nh fA=>?_⟩
 .rcases gg.1 hg with hg|hg
  .exact H'.own g hg
  .simp at hg;subst hg;exact hP
 .rcases gg.1 hg with hg|hg
  .exact H.new g hg b hb
  .simp at hg;subst hg;exact .inl (Nat.le_trans H.fr.size (FD b hb))
 .rw [rS,zH]
  refine ⟨H.nd,by simpa using e.nd,λx hx y hy=>?_⟩
  rintro rfl
  have h1:=H.KR x hx
  have h2:=FD x (by simpa using hy)
  omega
 .rcases gg.1 nh with nh|nh
  .exact H.dj g hg b hb g' nh fA
  .simp at nh;subst nh
   have h1:=g.lt w (H.rd g hg) b hb
   have h2:=FD b fA
   omega
def LH.alloc {M:Nat->Prop} {w0 w:aA} {L D:List En} (H:LH M w0 w L D) (o:Obj):LH M w0 (w.alloc o) (L++[.ob w.heap.size o]) D:=
 H.push _ (Fr.alloc _ _ _) (mM w o) (λb hb=>by simp [En.ob] at hb;omega)
def LH.pS {M:Nat->Prop} {w0 w w':aA} {L D:List En} (H:LH M w0 w L D) (e:En) (f:bW w w') (hP:e.P w') (hd:∀b∈e.fp,w.heap.size<=b\/(b<w0.heap.size/\¬M b)\/∃g∈D,b∈g.fp):LH M w0 w' L (D++[e]):=by
 have H':=H.qx f
 refine ⟨H'.fr,H'.own,λg hg=>?_,H'.new,H'.nd,λg hg b hb g' nh fA=>?_⟩
 .rcases gg.1 hg with hg|hg
  .exact H'.rd g hg
  .simp at hg;subst hg;exact hP
 .rcases gg.1 hg with hg|hg
  .exact H.dj g hg b hb g' nh fA
  .simp at hg;subst hg
   rcases hd b hb with h|⟨h,hm⟩|⟨q,hq,hbq⟩
   .have:=g'.lt w (H.own g' nh) b fA;omega
   .exact (H.new g' nh b fA).elim (λh'=>by omega) hm
   .exact H.dj q hq b hbq g' nh fA
def LH.forget {M:Nat->Prop} {w0 w:aA} {L D:List En} (H:LH M w0 w L D) (D':List En) (h:∀e∈D',e∈D):LH M w0 w L D':=⟨H.fr,H.own,λe he=>H.rd e (h e he),H.new,H.nd,λe he=>H.dj e (h e he)⟩
def oh {α:Type} {a:α}:∀{l:List α} {i:Nat},a∈l.eraseIdx i->a∈l
 |[],_,h=>by simp at h
 |b::l,0,h=>by simp at h;simp [h]
 |b::l,i+1,h=>by
  simp at h
  rcases h with h|h
  .simp [h]
  .exact mG _ (oh h)
def Am {α:Type} {f:α->List Nat}:∀{L:List α} {i:Nat},(L.flatMap f).Nodup->((L.eraseIdx i).flatMap f).Nodup
 |[],i,h=>by simp
 |a::L,0,h=>by simp only [rT,zH] at h;exact h.2.1
 |a::L,i+1,h=>by
  simp only [List.eraseIdx_cons_succ,rT,zH] at h ⊢
  refine ⟨h.1,Am h.2.1,λx hx y hy=>h.2.2 x hx y ?_⟩
  obtain ⟨g,hg,hxg⟩:=nG.1 hy
  exact nG.2 ⟨g,oh hg,hxg⟩
def HF {α:Type} {f:α->List Nat}:∀{L:List α} {i:Nat} {e:α},L[i]? =some e->(L.flatMap f).Nodup->∀b∈f e,∀g∈L.eraseIdx i,b∉f g
 |[],i,e,h,_=>by simp at h
 |a::L,0,e,h,hn=>by
  simp at h;subst h
  simp only [rT,zH] at hn
  intro b hb g hg fA
  exact hn.2.2 b hb b (nG.2 ⟨g,by simpa using hg,fA⟩) rfl
 |a::L,i+1,e,h,hn=>by
  simp only [rT,zH] at hn
  intro b hb g hg fA
  simp only [List.getElem?_cons_succ] at h
  simp only [List.eraseIdx_cons_succ,dT] at hg
  rcases hg with rfl|hg
  .exact hn.2.2 b fA b (nG.2 ⟨e,dI h,hb⟩) rfl
  .exact HF h hn.2.1 b hb g hg fA
def LH.freeze {M:Nat->Prop} {w0 w:aA} {L D:List En} (H:LH M w0 w L D) {e:En} (i:Nat) (e':En) (hi:L[i]? =some e) (hP:e'.P w) (FD:∀b∈e'.fp,b∈e.fp):LH M w0 w (L.eraseIdx i) (D++[e']):=by
 refine ⟨H.fr,λg hg=>H.own g (oh hg),λg hg=>?_,λg hg=>H.new g (oh hg),Am H.nd,λg hg b hb g' nh=>?_⟩
 .rcases gg.1 hg with hg|hg
  .exact H.rd g hg
  .simp at hg;subst hg;exact hP
 .rcases gg.1 hg with hg|hg
  .exact H.dj g hg b hb g' (oh nh)
  .simp at hg;subst hg
   exact HF hi H.nd b (FD b hb) g' nh
def LH.get {M:Nat->Prop} {w0 w:aA} {L D:List En} (H:LH M w0 w L D) (i:Nat) {e:En} (hi:L[i]? =some e:=by rfl):e.P w:=H.own e (dI hi)
def LH.getD {M:Nat->Prop} {w0 w:aA} {L D:List En} (H:LH M w0 w L D) (i:Nat) {e:En} (hi:D[i]? =some e:=by rfl):e.P w:=H.rd e (dI hi)
section
variable {M:Nat->Prop} {w0 w:aA} {L D:List En}
def LH.ob (H:LH M w0 w L D) (i:Nat) {b:Nat} {o:Obj} (hi:L[i]? =some (.ob b o):=by rfl):w.heap[b]? =some o:=H.own _ (dI hi)
def LH.ld (H:LH M w0 w L D) (i j:Nat) {b:Nat} {vs:List aD} {T:aP} {v:aD} (hi:L[i]? =some (.c b vs T):=by rfl) (hj:vs[j]? =some v:=by rfl):w.cell? ((bO b).add j)=some v:=
 cellAt (p:=bO b) (H.ob i hi) rfl (by simpa using hj)
def LH.KG (H:LH M w0 w L D) (i:Nat) {b:Nat} {vs:List aD} {T:aP} {v:aD} (hi:L[i]? =some (.c b vs T):=by rfl) (hj:vs[0]? =some v:=by rfl):w.cell? (bO b)=some v:=by
 have:=H.ld i 0 hi hj
 rwa [xS] at this
def LH.set (H:LH M w0 w L D) (i j:Nat) {b:Nat} {vs:List aD} {T:aP} {v:aD} (hi:L[i]? =some (.c b vs T)) (hj:j<vs.length):
  (w.cell? ((bO b).add j)).isSome=true/\w.frozen? ((bO b).add j)=false/\LH M w0 (w.setCell ((bO b).add j) v) (L.set i (.c b (vs.set j v) T)) D:=by
 obtain ⟨x1,x2,x3,x4⟩:=I7 (H.ob i hi) j (by simpa using hj) v
 exact ⟨x1,x2,H.CX i (.c b (vs.set j v) T) hi (x4.mono λx _ e=>by simp [En.ob,e]) (by show _=_;rw [x3];simp) (λb hb=>.inl hb)⟩
def LH.st (H:LH M w0 w L D) (i j:Nat) {b:Nat} {vs:List aD} {T:aP} {v:aD} {K:aA->Prop} (hi:L[i]? =some (.c b vs T)) (hK:∀w',LH M w0 w' (L.set i (.c b (vs.set j v) T)) D->K w') (hj:j<vs.length:=by simp):cY w ((bO b).add j) v K:=by
 obtain ⟨x1,x2,x3⟩:=H.set (v:=v) i j hi hj
 exact ⟨x1,x2,hK _ x3⟩
def LH.Gq (H:LH M w0 w L D) (i:Nat) {b:Nat} {vs:List aD} {T:aP} {v:aD} {K:aA->Prop} (hi:L[i]? =some (.c b vs T)) (hK:∀w',LH M w0 w' (L.set i (.c b (vs.set 0 v) T)) D->K w') (hj:0<vs.length:=by simp):cY w (bO b) v K:=by
 have:=H.st (v:=v) (K:=K) i 0 hi hK hj
 rwa [xS] at this
def LH.my (H:LH M w0 w L D) (i:Nat) {b:Nat} {a0 a1:aD} {T:aP} {v0 v1:aD} {K:aA->Prop} (hi:L[i]? =some (.c b [a0,a1] T)) (hK:∀w',LH M w0 w' (L.set i (.c b [v0,v1] T)) D->K w'):cY w (bO b) v0 λw1=>cY w1 ((bO b).add 1) v1 K:=by
 have hl:=(nY.1 hi).1
 exact H.Gq i hi (λw1 H1=>H1.st (vs:=[v0,a1]) (T:=T) i 1 (by simp [hl]) (λw2 H2=>hK w2 (by simpa using H2)))
def LH.nJ (H:LH M w0 w L D) (i:Nat) {b:Nat} {a0 a1 a2:aD} {T:aP} {v0 v1 v2:aD} {K:aA->Prop} (hi:L[i]? =some (.c b [a0,a1,a2] T)) (hK:∀w',LH M w0 w' (L.set i (.c b [v0,v1,v2] T)) D->K w'):cY w (bO b) v0 λw1=>cY w1 ((bO b).add 1) v1 λw2=>cY w2 ((bO b).add 2) v2 K:=by
 have hl:=(nY.1 hi).1
 exact H.Gq i hi (λw1 H1=>H1.st (vs:=[v0,a1,a2]) (T:=T) i 1 (by simp [hl]) (λw2 H2=>H2.st (vs:=[v0,v1,a2]) (T:=T) i 2 (by simp [hl]) (λw3 H3=>hK w3 (by simpa using H3))))
def LH.Gr (H:LH M w0 w L D) (i:Nat) {b:Nat} {a0 a1 a2 a3:aD} {T:aP} {v0 v1 v2 v3:aD} {K:aA->Prop} (hi:L[i]? =some (.c b [a0,a1,a2,a3] T)) (hK:∀w',LH M w0 w' (L.set i (.c b [v0,v1,v2,v3] T)) D->K w'):cY w (bO b) v0 λw1=>cY w1 ((bO b).add 1) v1 λw2=>cY w2 ((bO b).add 2) v2 λw3=>cY w3 ((bO b).add 3) v3 K:=by
 have hl:=(nY.1 hi).1
 exact H.Gq i hi (λw1 H1=>H1.st (vs:=[v0,a1,a2,a3]) (T:=T) i 1 (by simp [hl]) (λw2 H2=>H2.st (vs:=[v0,v1,a2,a3]) (T:=T) i 2 (by simp [hl]) (λw3 H3=>H3.st (vs:=[v0,v1,v2,a3]) (T:=T) i 3 (by simp [hl]) (λw4 H4=>hK w4 (by simpa using H4)))))
def LH.st5 (H:LH M w0 w L D) (i:Nat) {b:Nat} {a0 a1 a2 a3 a4:aD} {T:aP} {v0 v1 v2 v3 v4:aD} {K:aA->Prop} (hi:L[i]? =some (.c b [a0,a1,a2,a3,a4] T)) (hK:∀w',LH M w0 w' (L.set i (.c b [v0,v1,v2,v3,v4] T)) D->K w'):cY w (bO b) v0 λw1=>cY w1 ((bO b).add 1) v1 λw2=>cY w2 ((bO b).add 2) v2 λw3=>cY w3 ((bO b).add 3) v3 λw4=>cY w4 ((bO b).add 4) v4 K:=by
 have hl:=(nY.1 hi).1
 exact H.Gq i hi (λw1 H1=>H1.st (vs:=[v0,a1,a2,a3,a4]) (T:=T) i 1 (by simp [hl]) (λw2 H2=>H2.st (vs:=[v0,v1,a2,a3,a4]) (T:=T) i 2 (by simp [hl]) (λw3 H3=>H3.st (vs:=[v0,v1,v2,a3,a4]) (T:=T) i 3 (by simp [hl]) (λw4 H4=>H4.st (vs:=[v0,v1,v2,v3,a4]) (T:=T) i 4 (by simp [hl]) (λw5 H5=>hK w5 (by simpa using H5))))))
def LH.st8 (H:LH M w0 w L D) (i:Nat) {b:Nat} {a0 a1 a2 a3 a4 a5 a6 a7:aD} {T:aP} {v0 v1 v2 v3 v4 v5 v6 v7:aD} {K:aA->Prop} (hi:L[i]? =some (.c b [a0,a1,a2,a3,a4,a5,a6,a7] T)) (hK:∀w',LH M w0 w' (L.set i (.c b [v0,v1,v2,v3,v4,v5,v6,v7] T)) D->K w'):cY w (bO b) v0 λw1=>cY w1 ((bO b).add 1) v1 λw2=>cY w2 ((bO b).add 2) v2 λw3=>cY w3 ((bO b).add 3) v3 λw4=>cY w4 ((bO b).add 4) v4 λw5=>cY w5 ((bO b).add 5) v5 λw6=>cY w6 ((bO b).add 6) v6 λw7=>cY w7 ((bO b).add 7) v7 K:=by
 have hl:=(nY.1 hi).1
 exact H.Gq i hi (λw1 H1=>H1.st (vs:=[v0,a1,a2,a3,a4,a5,a6,a7]) (T:=T) i 1 (by simp [hl]) (λw2 H2=>H2.st (vs:=[v0,v1,a2,a3,a4,a5,a6,a7]) (T:=T) i 2 (by simp [hl]) (λw3 H3=>H3.st (vs:=[v0,v1,v2,a3,a4,a5,a6,a7]) (T:=T) i 3 (by simp [hl]) (λw4 H4=>H4.st (vs:=[v0,v1,v2,v3,a4,a5,a6,a7]) (T:=T) i 4 (by simp [hl]) (λw5 H5=>H5.st (vs:=[v0,v1,v2,v3,v4,a5,a6,a7]) (T:=T) i 5 (by simp [hl]) (λw6 H6=>H6.st (vs:=[v0,v1,v2,v3,v4,v5,a6,a7]) (T:=T) i 6 (by simp [hl]) (λw7 H7=>H7.st (vs:=[v0,v1,v2,v3,v4,v5,v6,a7]) (T:=T) i 7 (by simp [hl]) (λw8 H8=>hK w8 (by simpa using H8)))))))))
def LH.nw (H:LH M w0 w L D) {cs:Array aD} {T:aP} {K:aA->Prop} (hK:∀w',w'.heap.size=w.heap.size+1->LH M w0 w' (L++[.c w.heap.size cs.toList T]) D->K w'):gi w (.cells cs T) K:=hK _ (size_alloc _ _) (H.alloc _)
def LH.Y5 (H:LH M w0 w L D) {o:Obj} {K:aA->Prop} (hK:∀w',w'.heap.size=w.heap.size+1->LH M w0 w' L D->w'.heap[w.heap.size]? =some o->K w'):gi w o K:=hK _ (size_alloc _ _) (H.qx (Fr.alloc _ _ _)) (mM w o)
def LH.dr (H:LH M w0 w L D) {K:aA->Prop} (hK:∀w',LH M w0 w' L D->K w'):wy w K:=hK _ H.drew
def LH.pu (H:LH M w0 w L D) (i:Nat) {b:Nat} {o o':Obj} {K:aA->Prop} (hi:L[i]? =some (.ob b o)) (hK:∀w',LH M w0 w' (L.set i (.ob b o')) D->K w'):O0 w b o o' K:=
 ⟨H.ob i hi,hK _ (H.CX i (.ob b o') hi ((Fr.put w b o').mono λx _ e=>by simp [En.ob,e]) (Zf (H.ob i hi) o') (λb hb=>.inl hb))⟩
def LH.ap (H:LH M w0 w L D) (i:Nat) {P:aQ} {t ty e:aP} {z:aD} {sz bytes:Nat} (el:jb P t e z sz bytes) {s src:Sl} {xs news:List aD} {K:Sl->aA->Prop}
  (hi:L[i]? =some (.row e sz s xs)) (hr:qR w src news) (hl:news.length=src.n *sz) (h1:∀u∈news,u.oneCell'=true) (hb:(s.n+src.n) *bytes<=140737488355328)
  (hK:∀s' w',LH M w0 w' (L.set i (.row e sz s' (xs++news))) D->s'.n=s.n+src.n->(s'.a=none->s.a=none/\src.n=0)->K s' w'):
  ∃s' w',(Builtin.append_ #[t,t] ty #[s.v,src.v]).run P w=.ok s'.v w'/\K s' w':=by
 obtain ⟨s',w',g1,g2,g3,g4,g5,g6⟩:=r6 (ty:=ty) el (H.get i hi) hr hl h1 hb
 exact ⟨s',w',g1,hK s' w' (H.CX i (.row e sz s' (xs++news)) hi g4 g2 g5) g3 g6⟩
def LH.XW (H:LH M w0 w L D) (i:Nat) {P:aQ} {t ty e:aP} {z:aD} {sz bytes:Nat} (el:jb P t e z sz bytes) {T:aP} {s:Sl} {xs:List aD} {news:Array aD} {K:Sl->aA->Prop}
  (hi:L[i]? =some (.row e sz s xs)) (hK:∀s' w',LH M w0 w' (L.set i (.row e sz s' (xs++news.toList))) D->s'.n=s.n+1->s'.a≠none->K s' w') (hb:(s.n+1) *bytes<=140737488355328) (hl:news.size=sz:=by rfl) (h1:∀u∈news.toList,u.oneCell'=true:=by simp [Value.oneCell']):
  gi w (.cells news T) λw1=>∃s' w',(Builtin.append_ #[t,t] ty #[s.v,.slice (some (Addr.mk w.heap.size 0 none)) 1 1]).run P w1=.ok s'.v w'/\K s' w':=by
 have H1:LH M w0 (w.alloc (.cells news T)) L D:=H.qx (Fr.alloc _ _ _)
 refine H1.ap i el (src:=⟨some (bO w.heap.size),1,1⟩) (ty:=ty) (K:=K) (news:=news.toList) hi ((Row.made w T 1 1 news.toList).Ql) (by simpa using hl) h1 hb (λs' w' h hn wG=>hK s' w' h hn λh0=>by have:=(wG h0).2;simp at this)
def LH.qb (H:LH M w0 w L D) (e:aP) (sz:Nat):LH M w0 w (L++[.row e sz ⟨none,0,0⟩ []]) D:=H.push _ (Fr.refl _ _) (bD.nil w e sz) (λb hb=>by simp [En.row,bQ] at hb)
end
def bD.ow1 {w:aA} {e:aP} {s:Sl} {vs:List aD} (h:bD w e 1 s vs):Ow w e s vs:=⟨by have:=h.len;omega,h⟩
def bD.rd1 {w:aA} {e:aP} {s:Sl} {vs:List aD} (h:bD w e 1 s vs):Rd w s vs:=h.ow1.rd
abbrev F0:Nat->Prop:=λ_=>False
def LH.take {M:Nat->Prop} {w0 w:aA} {L D:List En} (H:LH M w0 w L D) (n:Nat):LH M w0 w (L.take n) D:=
 ⟨H.fr,λe he=>H.own e (U9 he),H.rd,λe he=>H.new e (U9 he),by
  have:=H.nd
  rw [<-List.take_append_drop n L,rS,zH] at this
  exact this.1,λe he b hb e' lM=>H.dj e he b hb e' (U9 lM)⟩
def aY {a b:Int} {A B:Prop} (h1:a=b->A) (h2:a≠b->B):aW (a==b) A B:=bR (λh=>h1 (by simpa using h)) (λh=>h2 (by simpa using h))
def gB {a b:Int} {A B:Prop} (h1:a≠b->A) (h2:a=b->B):aW (a !=b) A B:=bR (λh=>h1 (by simpa using h)) (λh=>h2 (by simpa using h))
def bA {p:Prop} [Decidable p] {A B:Prop} (h1:p->A) (h2:¬p->B):aW (decide p) A B:=bR (λh=>h1 (of_decide_eq_true h)) (λh=>h2 (of_decide_eq_false h))
def fP {b:Bool} {A B:Prop} (h1:b=false->A) (h2:b=true->B):aW (!b) A B:=bR (λh=>h1 (by simpa using h)) (λh=>h2 (by simpa using h))
def LH.y7 {M:Nat->Prop} {w0 w:aA} {L D:List En} (H:LH M w0 w L D) (i j:Nat) {b:Nat} {vs:List aD} {T:aP} {v:aD} (hi:D[i]? =some (.c b vs T):=by rfl) (hj:vs[j]? =some v:=by rfl):w.cell? ((bO b).add j)=some v:=
 cellAt (p:=bO b) (show w.heap[b]? =_ from H.rd _ (dI hi)) rfl (by simpa using hj)
def LH.aaw {M:Nat->Prop} {w0 w w':aA} {L D:List En} (H:LH M w0 w L D) (i:Nat) {b:Nat} {vs Da:List aD} {T:aP} (f:Fr (·=b) w w') (h:w'.heap[b]? =some (.cells Da.toArray T (0,0))) (hi:L[i]? =some (.c b vs T):=by rfl):LH M w0 w' (L.set i (.c b Da T)) D:=
 H.CX i (.c b Da T) hi (f.mono λx _ e=>by simp [En.ob,e]) h (λb hb=>.inl hb)
def LH.ko {M:Nat->Prop} {w0 w:aA} {L D:List En} (H:LH M w0 w L D) {e:aP} {sz n:Nat} {cs:List aD} (hc:cs.length=n *sz) (hn:n<=maxLen) {K:aA->Prop} (hK:∀w',LH M w0 w' (L++[.row e sz ⟨some (bO w.heap.size),n,n⟩ cs]) D->K w'):gi w (.cells cs.toArray e) K:=
 hK _ (H.push _ (Fr.alloc _ _ _) (bD.made w e sz n cs hc hn) (λb hb=>by simp [En.row,bQ] at hb;omega))
def oq (P:aQ) (o:Oper) (E:Env) (w:aA) (K:Env->aA->Prop):Prop:=
 bif calm P o then sD P o E w λv _=>K (E.put o.dst v) w else nO P o E w λv w'=>K (E.put o.dst v) w'
def Bm (ops:Array Oper):Bool:=(List.range ops.size).all λi=>match ops[i]? with
 |some o=>o.guard.isNone&&o.after.toList.all λe=>!(Region.binds .any e)||Nat.blt e.on i
 |none=>true
abbrev iB (L:Nat->Bool) (i:Nat):Nat->Bool:=λj=>Nat.beq j i||L j
section
variable {P:aQ} {ops:Array Oper} {n:Cx} {K:Env->aA->Prop}
def uY (h:Bm ops=true) {i:Nat} {o:Oper} (ho:ops[i]? =some o):o.guard=none/\∀e∈o.after,Region.binds .any e=true->e.on<i:=by
 unfold Bm at h
 have hi:i<ops.size:=(Array.getElem?_eq_some_iff.1 ho).1
 have:=wo.1 h i (List.mem_range.2 hi)
 rw [ho] at this
 simp only [Bool.and_eq_true] at this
 refine ⟨by simpa using this.1,λe he hb=>?_⟩
 have:=wo.1 this.2 e (by simpa using he)
 rw [hb] at this
 simpa using this
def Sg {i:Nat} {o:Oper} {a:Act} {E:Env} {w:aA} {Kh:Env->aA->Prop} {K':Act->aA->Prop} {Q:Exit->Act->aA->Prop}
  (hn:ia n ops=true) (ho:ops[i]? =some o) (hg:o.guard=none) (ha:Ag n a E) (h:oq P o E w Kh) (next:∀a' E' w',Ag n a' E'->Kh E' w'->K' a' w'):wpOp P ops Q i K' a w:=by
 have pP:=Region.noSelect_spec (ops:=ops) (by unfold ia at hn;rw [Bool.and_eq_true] at hn;exact hn.1)
 have hw:Region.wanted o (yielded ops a.tmps)=true:=by simp [Region.wanted,hg]
 unfold oq at h
 cases hc:calm P o with
 |true=>
  rw [hc] at h
  simp only [cond_true] at h
  obtain ⟨v,Ss,hk,zq,JJ⟩:=qV (λcs b=>pP i o cs b ho) ha h
  unfold wpOp
  simp only [ho,hw,if_true]
  refine .inl ?_
  unfold Oper.wp
  rw [JJ w zq]
  exact next _ _ _ (ha.put v (eR hn ho)) hk
 |false=>
  rw [hc] at h
  simp only [cond_false] at h
  exact vL ho hw (jg (λcs b=>pP i o cs b ho) ha h) λv w' hv=>next _ _ _ (ha.put v (eR hn ho)) hv
def ON (hn:ia n ops=true) (hb:Bm ops=true) (J:(Nat->Bool)->Env->aA->Prop)
  (step:∀L E w i o,ops[i]? =some o->L i=false->(∀e∈o.after,Region.binds .any e=true->L e.on=true)->J L E w->oq P o E w λE' w'=>J (iB L i) E' w')
  (fin:∀L E w,(∀i,i<ops.size->L i=true)->J L E w->K E w):
  ∀(fuel:Nat) (listed:Array Bool) (a:Act) (E:Env) (w:aA),listed.size=ops.size->Ag n a E->J (λj=>listed.getD j false) E w->((List.range ops.size).filter λj=>!listed.getD j false).length<=fuel->
   wpAny P .any ops (iP n K) fuel listed a w:=by
 have done:∀(listed:Array Bool) (a:Act) (E:Env) (w:aA),listed.size=ops.size->Ag n a E->J (λj=>listed.getD j false) E w->Region.ready .any ops listed=[]->iP n K .normal a w:=by
  intro listed a E w hs ha hJ hr
  refine ⟨E,ha,fin _ E w (λi=>?_) hJ⟩
  induction i using Nat.strongRecOn with
  |_ i ih=>
   intro hi
   cases hl:listed.getD i false with
   |true=>rfl
   |false=>
    exfalso
    have ho:ops[i]? =some ops[i]:=Array.getElem?_eq_getElem hi
    have hm:i∈Region.ready .any ops listed:=mem_ready.2 ⟨by
     have jO:i<listed.size:=by omega
     simp [jO] at hl ⊢
     exact hl,_,ho,λe he hbi=>ih e.on ((uY hb ho).2 e he hbi) (Nat.lt_trans ((uY hb ho).2 e he hbi) hi)⟩
    rw [hr] at hm
    cases hm
 intro fuel
 induction fuel with
 |zero=>
  intro listed a E w hs ha hJ hf
  have hall:∀i,i<ops.size->listed.getD i false=true:=λi hi=>by
   cases hl:listed.getD i false with
   |true=>rfl
   |false=>
    have:i∈(List.range ops.size).filter λj=>!listed.getD j false:=List.mem_filter.2 ⟨List.mem_range.2 hi,by rw [hl];rfl⟩
    rw [List.length_eq_zero_iff.1 (Nat.le_zero.1 hf)] at this
    cases this
  refine ⟨?_,E,ha,fin _ E w hall hJ⟩
  cases hr:Region.ready .any ops listed with
  |nil=>rfl
  |cons i l=>
   have hm:i∈Region.ready .any ops listed:=by rw [hr];simp
   obtain ⟨h0,o,ho,_⟩:=mem_ready.1 hm
   have hi:=(Array.getElem?_eq_some_iff.1 ho).1
   have h1:=hall i hi
   have jO:i<listed.size:=by omega
   simp [jO] at h0 h1
   rw [h0] at h1
   cases h1
 |succ fuel ih=>
  intro listed a E w hs ha hJ hf
  refine ⟨done listed a E w hs ha hJ,λi hi=>?_⟩
  obtain ⟨h0,o,ho,hall⟩:=mem_ready.1 hi
  have jO:i<ops.size:=(Array.getElem?_eq_some_iff.1 ho).1
  have hli:i<listed.size:=by omega
  have yn:listed.getD i false=false:=by simp [hli] at h0 ⊢;exact h0
  refine Sg hn ho (uY hb ho).1 ha (step _ E w i o ho yn hall hJ) λa' E' w' T' vT=>?_
  have he:(iB (λj=>listed.getD j false) i)=λj=>(listed.setIfInBounds i true).getD j false:=by
   funext j
   by_cases hj:i=j
   .subst hj
    simp [iB,hli]
   .have:Nat.beq j i=false:=by rw [<-Bool.not_eq_true,Nat.beq_eq];exact λh=>hj h.symm
    rw [getD_set_ne false hj]
    simp [iB,this]
  rw [he] at vT
  refine ih _ a' E' w' (by simpa using hs) T' vT ?_
  have rU:((List.range ops.size).filter λj=>!(listed.setIfInBounds i true).getD j false)=((List.range ops.size).filter λj=>!listed.getD j false).filter λj=>!(Nat.beq j i):=by
   rw [List.filter_filter]
   refine List.filter_congr λj _=>?_
   rw [<-congrFun he j]
   simp only [iB,Bool.not_or]
  have adp:(((List.range ops.size).filter λj=>!listed.getD j false).filter λj=>!(Nat.beq j i)).length<((List.range ops.size).filter λj=>!listed.getD j false).length:=by
   refine List.length_filter_lt_length_iff_exists.2 ⟨i,List.mem_filter.2 ⟨List.mem_range.2 jO,by rw [yn];rfl⟩,?_⟩
   have:Nat.beq i i=true:=Nat.beq_refl i
   simp [this]
  rw [rU]
  omega
def DN {c:Code} {id:Nat} {a:Act} {E:Env} {w:aA} (J:(Nat->Bool)->Env->aA->Prop) (hm:P.follows .mixedOrders=true) (hc:c=.region id ops true) (hn:ia n ops=true) (hb:Bm ops=true) (ha:Ag n a E)
  (h0:J (λ_=>false) E w.drew)
  (step:∀L E w i o,ops[i]? =some o->L i=false->(∀e∈o.after,Region.binds .any e=true->L e.on=true)->J L E w->oq P o E w λE' w'=>J (iB L i) E' w')
  (fin:∀L E w,(∀i,i<ops.size->L i=true)->J L E w->K E w):c.wpIn (FW n) 0 P (iP n K) a w:=by
 subst hc
 have hz:(λj=>(Array.replicate ops.size false).getD j false)=λ_=>false:=by
  funext j
  by_cases hj:j<ops.size<;>simp [hj]
 have h2:=ON (K:=K) hn hb J step fin ops.size (Array.replicate ops.size false) a E w.drew (by simp) ha (by rw [hz];exact h0) (Nat.le_trans (List.length_filter_le _ _) (by simp))
 refine wpIn_region_draw λt=>?_
 refine rQ hn (λ⟨_,_,h⟩=>h) _ _ _ ?_
 simp only [Region.schedule,hm,Bool.true_or,if_true]
 exact wpAny_sound ops.size t _ a _ h2
def Zl (P:aQ) (n:Nat) (c:Code):Bool:=match c with
 |.region _ ops d=>d&&(P.follows .mixedOrders&&(ia n ops&&Bm ops))
 |_=>false
def igK (P:aQ) (c:Code) (K:Env->aA->Prop) (E:Env) (w:aA):Prop:=
 ∃J:(Nat->Bool)->Env->aA->Prop,J (λ_=>false) E w.drew/\
  (∀L E w i o,(Code.ops c)[i]? =some o->L i=false->(∀e∈o.after,Region.binds .any e=true->L e.on=true)->J L E w->oq P o E w λE' w'=>J (iB L i) E' w')/\
  ∀L E w,(∀i,i<(Code.ops c).size->L i=true)->J L E w->K E w
abbrev Zo (P:aQ) (c:Code) (K:Env->aA->Prop) (E:Env) (w:aA):Prop:=igK P (Code.fst c) K E w
variable {Q:Exit->Act->aA->Prop} {E:Env} {w:aA}
def ig (c:Code) (hc:Zl P n c=true) (h:igK P c K E w) (hk:∀E' w' a',Ag n a' E'->K E' w'->Q .normal a' w'):WP P n c Q E w:=by
 obtain ⟨J,h0,step,fin⟩:=h
 unfold Zl at hc
 split at hc
 .rename_i id ops d
  simp only [Bool.and_eq_true] at hc
  obtain ⟨rfl,h2,h3,h4⟩:=hc
  exact λa ha=>wpIn_mono (DN J h2 rfl h3 h4 ha h0 step fin) λe a' w' he=>by
   cases e with
   |normal=>obtain ⟨E',hA,hK⟩:=he;exact hk E' w' a' hA hK
   |_=>exact he.elim
 .cases hc
def si (c:Code) (hc:(Es c&&Zl P n (Code.fst c))=true) (h:Zo P c K E w) (hk:∀E' w',K E' w'->WP P n (Code.snd c) Q E' w'):WP P n c Q E w:=
 WP.seq (CE (uU hc).1) (ig _ (uU hc).2 h λE' w' a' hA hK=>nx hA (hk E' w' hK))
end
def rowOf (o:Oper):Op×Option Nat×aP×List Nat:=(o.op,o.dst,o.type,(o.after.toList.filter λe=>Region.binds .any e).map (·.on))
def allI {α:Type} (F:Nat->α->Prop):List α->Nat->Prop
 |[],_=>True
 |a::l,i=>F i a/\allI F l (i+1)
def GZ {α:Type} {F:Nat->α->Prop}:∀{l:List α} {n i:Nat} {a:α},allI F l n->l[i]? =some a->F (n+i) a
 |[],_,i,a,_,h=>by simp at h
 |b::l,n,0,a,h,hi=>by simp at hi;subst hi;exact h.1
 |b::l,n,i+1,a,h,hi=>by
  have:=GZ (i:=i) h.2 (by simpa using hi)
  rwa [show n+1+i=n+(i+1) by omega] at this
section
variable {P:aQ} {K:Env->aA->Prop} {E:Env} {w:aA}
def Ni (P:aQ) (J:(Nat->Bool)->Env->aA->Prop) (i:Nat) (r:Op×Option Nat×aP×List Nat):Prop:=
 ∀L E w o,o.op=r.1->o.dst=r.2.1->o.type=r.2.2.1->L i=false->(∀j∈r.2.2.2,L j=true)->J L E w->oq P o E w λE' w'=>J (iB L i) E' w'
def KC {c:Code} (Xt:List (Op×Option Nat×aP×List Nat)) (ht:(Code.ops c).toList.map rowOf=Xt) (J:(Nat->Bool)->Env->aA->Prop) (h0:J (λ_=>false) E w.drew) (step:allI (Ni P J) Xt 0)
  (fin:∀L E w,(∀i,i<Xt.length->L i=true)->J L E w->K E w):igK P c K E w:=by
 refine ⟨J,h0,λL E w i o ho hi hd hJ=>?_,λL E w hL hJ=>fin L E w (λi hi=>hL i ?_) hJ⟩
 .have hr:Xt[i]? =some (rowOf o):=by rw [<-ht,List.getElem?_map,Array.getElem?_toList,ho];rfl
  have:=GZ step hr
  rw [Nat.zero_add] at this
  refine this L E w o rfl rfl rfl hi (λj hj=>?_) hJ
  obtain ⟨e,he,rfl⟩:=pN.1 hj
  obtain ⟨h1,h2⟩:=List.mem_filter.1 he
  exact hd e (by simpa using h1) h2
 .rw [<-ht,List.length_map] at hi
  simpa using hi
def vH {o:Oper} {t:Nat} {v:aD} (ho:o.op=.move (.tmp t)\/o.op=.assign (.tmp t)) (ht:E.get? t=some v) (h:K (E.put o.dst v) w):oq P o E w K:=by
 obtain ⟨dst,op,ty,pos,after,guard⟩:=o
 have ev:E.ev (.tmp t)=v:=by simp [Env.ev,Env.val,ht]
 rcases ho with ho|ho<;>(simp only at ho;subst ho)
 .show iU P _ E (λv _=>K (E.put dst v) w)
  have hc:E.fT ⟨dst,.move (.tmp t),ty,pos,after,guard⟩=true:=by simp [Env.fT,Op.operands,Env.val,ht]
  unfold iU
  rw [hc]
  show K (E.put dst (E.ev (.tmp t))) w
  rw [ev];exact h
 .show iU P _ E (λv _=>K (E.put dst v) w)
  have hc:E.fT ⟨dst,.assign (.tmp t),ty,pos,after,guard⟩=true:=by simp [Env.fT,Op.operands,Env.val,ht]
  unfold iU
  rw [hc]
  show K (E.put dst (E.ev (.tmp t))) w
  rw [ev];exact h
def Av {o:Oper} {T:aP} {t:Nat} {p:Addr} (ho:o.op=.load T (.tmp t)) (ht:E.get? t=some (.pointer (some p))) (h:DH P T p w λv _=>K (E.put o.dst v) w):oq P o E w K:=by
 obtain ⟨dst,op,ty,pos,after,guard⟩:=o
 simp only at ho
 subst ho
 show (match E.val (.tmp t) with |some (.pointer (some p))=>DH P T p w (λv _=>K (E.put dst v) w)|_=>False)
 rw [show E.val (.tmp t)=some (.pointer (some p)) from ht]
 exact h
def ZB {o:Oper} {f t1 t2:Nat} {v1 v2:aD} (ho:o.op=.makeFunc (.func f) #[] #[.tmp t1,.tmp t2]) (h1:E.get? t1=some v1) (h2:E.get? t2=some v2) (h:K (E.put o.dst (.func (.func f) #[] #[v1,v2])) w):oq P o E w K:=by
 obtain ⟨dst,op,ty,pos,after,guard⟩:=o
 simp only at ho
 subst ho
 show iU P _ E (λv _=>K (E.put dst v) w)
 have hc:E.fT ⟨dst,.makeFunc (.func f) #[] #[.tmp t1,.tmp t2],ty,pos,after,guard⟩=true:=by simp [Env.fT,Op.operands,Env.val,h1,h2]
 unfold iU
 rw [hc]
 show K (E.put dst (.func (.func f) (#[].map E.ev) (#[.tmp t1,.tmp t2].map E.ev))) w
 have e1:E.ev (.tmp t1)=v1:=by simp [Env.ev,Env.val,h1]
 have e2:E.ev (.tmp t2)=v2:=by simp [Env.ev,Env.val,h2]
 simp only [List.map_toArray,List.map_cons,List.map_nil,e1,e2]
 exact h
def Sc {o:Oper} {T:aP} (ho:o.op=.makeMap T none) (h:K (E.put o.dst (.map (some w.heap.size))) (w.alloc (.map #[] 0))):oq P o E w K:=by
 obtain ⟨dst,op,ty,pos,after,guard⟩:=o
 simp only at ho
 subst ho
 have hc:E.fT ⟨dst,.makeMap T none,ty,pos,after,guard⟩=true:=by simp [Env.fT,Op.operands]
 have he:vc P ⟨dst,.makeMap T none,ty,pos,after,guard⟩ E w (λv w'=>K (E.put dst v) w'):=by
  unfold vc
  rw [hc]
  exact h
 unfold oq
 simp only [calm,cond_false]
 unfold nO
 exact he
def vG {o:Oper} {T:aP} {m k v:Operand} {m' k' v':aD} (ho:o.op=.insert T m k v) (hm:E.val m=some m') (hk:E.val k=some k') (hv:E.val v=some v') (h:∃w',(Instr.mapUpdate T m' k' v').run P w=.ok () w'/\K (E.put o.dst undef) w'):oq P o E w K:=by
 obtain ⟨dst,op,ty,pos,after,guard⟩:=o
 simp only at ho
 subst ho
 show (match E.val m,E.val k,E.val v with |some m,some k,some v=>HC P (Instr.mapUpdate T m k v) w (λv w'=>K (E.put dst v) w')|_,_,_=>False)
 rw [hm,hk,hv]
 exact h
def CJ {o:Oper} {t a b f:Nat} {ts:Array aP} {first captured:Array aD} {x y:aD} (ho:o.op=.call ⟨.value (.tmp t),#[.tmp a,.tmp b],ts⟩) (ht:E.get? t=some (.func (.func f) first captured)) (ha:E.get? a=some x) (hb:E.get? b=some y) (hc:gq P f=true)
  (h:aH P f (first++#[x,y]++captured) w λe w'=>yi (zeroOf P o.type) λv=>e=aJ v/\K (E.put o.dst v) w'):oq P o E w K:=by
 obtain ⟨dst,op,ty,pos,after,guard⟩:=o
 simp only at ho
 subst ho
 show iW (E.fT ⟨dst,.call ⟨.value (.tmp t),#[.tmp a,.tmp b],ts⟩,ty,pos,after,guard⟩) (match E.get? t with
  |some (.func (.func f) first captured)=>iW (gq P f) (wZ P f (first++(#[Operand.tmp a,.tmp b]).map E.ev++captured) (zeroOf P ty) w (λv w'=>K (E.put dst v) w'))
  |_=>False)
 have hcv:E.fT ⟨dst,.call ⟨.value (.tmp t),#[.tmp a,.tmp b],ts⟩,ty,pos,after,guard⟩=true:=by simp [Env.fT,Op.operands,Call.operands,Env.val,ht,ha,hb]
 rw [hcv,ht]
 show iW (gq P f) _
 rw [hc]
 have e1:E.ev (.tmp a)=x:=by simp [Env.ev,Env.val,ha]
 have e2:E.ev (.tmp b)=y:=by simp [Env.ev,Env.val,hb]
 show wZ P f _ _ w _
 simp only [List.map_toArray,List.map_cons,List.map_nil,e1,e2]
 exact h
def uO (T:List (Nat×Nat×aD)) (L:Nat->Bool) (E:Env):Prop:=∀q∈T,(bif Nat.beq q.1 0 then true else L (q.1 - 1))=true->E.get? q.2.1=some q.2.2
def uO.get {T:List (Nat×Nat×aD)} {L:Nat->Bool} (h:uO T L E) {i d:Nat} {v:aD} (hq:(i,d,v)∈T) (hi:(bif Nat.beq i 0 then true else L (i - 1))=true):E.get? d=some v:=h _ hq hi
def dS {E:Env} {d t:Nat} {v:aD} (h:d≠t):(E.put (some d) v).get? t=E.get? t:=by
 have:Nat.beq d t=false:=by rw [<-Bool.not_eq_true,Nat.beq_eq];exact h
 simp only [Env.put,Env.get?,this,cond_false]
def qg {E:Env} {d:Nat} {v:aD}:(E.put (some d) v).get? d=some v:=by simp [Env.put,Env.get?]
def uO.fill {T:List (Nat×Nat×aD)} {L:Nat->Bool} (h:uO T L E) {i d:Nat} {v:aD} (h1:∀q∈T,q.1=i+1->q=(i+1,d,v)) (h2:∀q∈T,q.2.1=d->q.1=i+1):uO T (iB L i) (E.put (some d) v):=by
 intro q hq hc
 by_cases hd:q.2.1=d
 .obtain rfl:=h1 q hq (h2 q hq hd)
  exact qg
 .rw [dS (λe=>hd e.symm)]
  refine h q hq ?_
  by_cases h0:q.1=0
  .rw [h0];rfl
  .have hb:Nat.beq q.1 0=false:=by rw [<-Bool.not_eq_true,Nat.beq_eq];exact h0
   rw [hb] at hc ⊢
   have jx:q.1 - 1≠i:=λe=>hd (by rw [h1 q hq (by omega)])
   have:Nat.beq (q.1 - 1) i=false:=by rw [<-Bool.not_eq_true,Nat.beq_eq];exact jx
   simpa [iB,this] using hc
def uO.pass {T:List (Nat×Nat×aD)} {L:Nat->Bool} (h:uO T L E) {i:Nat} {d:Option Nat} {v:aD} (h1:∀q∈T,q.1≠i+1) (h2:∀q∈T,d≠some q.2.1):uO T (iB L i) (E.put d v):=by
 intro q hq hc
 have he:(E.put d v).get? q.2.1=E.get? q.2.1:=by
  cases d with
  |none=>rfl
  |some d=>exact dS λe=>h2 q hq (by rw [e])
 rw [he]
 refine h q hq ?_
 by_cases h0:q.1=0
 .rw [h0];rfl
 .have hb:Nat.beq q.1 0=false:=by rw [<-Bool.not_eq_true,Nat.beq_eq];exact h0
  rw [hb] at hc ⊢
  have jx:q.1 - 1≠i:=λe=>h1 q hq (by omega)
  have:Nat.beq (q.1 - 1) i=false:=by rw [<-Bool.not_eq_true,Nat.beq_eq];exact jx
  simpa [iB,this] using hc
end
structure LC (w:aA) (L:List (Nat×List aD×aP)):Prop where
 own:∀(i:Nat) (x:Nat×List aD×aP),L[i]? =some x->w.heap[x.1]? =some (.cells x.2.1.toArray x.2.2 (0,0))
 dj:∀(i j:Nat) (x y:Nat×List aD×aP),L[i]? =some x->L[j]? =some y->x.1=y.1->i=j
abbrev rB (L:List (Nat×List aD×aP)):List Nat:=L.map (·.1)
def loc (bs:List Nat) (w:aA) (K:aA->Prop):Prop:=∀w',Fr (·∈bs) w w'->K w'
def cB (bs:List Nat) (w:aA) (K:Nat->aA->Prop):Prop:=∀b w',w.heap.size<=b->w'.heap.size=b+1->Fr (·∈bs) w w'->K b w'
def fZ (bs:List Nat) (P:aQ) (f:FuncId) (args:Array aD) (w:aA) (K:aT):Prop:=∃M:Nat->Prop,(∀b∈bs,¬M b)/\aH P f args w λr w'=>Fr M w w'/\K r w'
def kept (bs:List Nat) (w w':aA):Prop:=∀b∈bs,w'.heap[b]? =w.heap[b]?
def RC {q:Option Addr} {K K':Addr->Prop} (h:gT q K) (f:∀p,K p->K' p):gT q K':=by
 cases q with
 |none=>exact h
 |some p=>exact f p h
def MO {t:Bool} {A B A' B':Prop} (h:aW t A B) (h1:A->A') (h2:B->B'):aW t A' B':=R3 h1 h2 h
def rj {w:aA} {p:Addr} {v:aD} {K K':aA->Prop} (h:cY w p v K) (f:∀w1,K w1->K' w1):cY w p v K':=⟨h.1,h.2.1,f _ h.2.2⟩
section
variable {w wT:aA} {L:List (Nat×List aD×aP)}
def LC.nil (w:aA):LC w []:=⟨λi x h=>by simp at h,λi j x y h=>by simp at h⟩
def LC.blk (H:LC w L) {b:Nat} (hb:b∈rB L):∃(i:Nat) (x:Nat×List aD×aP),L[i]? =some x/\x.1=b:=by
 obtain ⟨x,hx,rfl⟩:=pN.1 hb
 obtain ⟨i,hi⟩:=O2.1 hx
 exact ⟨i,x,hi,rfl⟩
def LC.lt (H:LC w L) {b:Nat} (hb:b∈rB L):b<w.heap.size:=by
 obtain ⟨i,x,hi,rfl⟩:=H.blk hb
 exact gh (H.own i x hi)
def LC.Ae {w':aA} (H:LC w L) (h:kept (rB L) w w'):LC w' L:=
 ⟨λi x hi=>by rw [h x.1 (pN.2 ⟨x,dI hi,rfl⟩)];exact H.own i x hi,H.dj⟩
def LC.fr {M:Nat->Prop} {w':aA} (H:LC w L) (f:Fr M w w') (hm:∀b∈rB L,¬M b):LC w' L:=H.Ae λb hb=>f.ic b (H.lt hb) (hm b hb)
def LC.pick (H:LC w L) (is:List Nat) (hn:is.Nodup):LC w (is.filterMap λi=>L[i]?):=by
 induction is with
 |nil=>exact LC.nil w
 |cons k is ih=>
  have ih:=ih (List.nodup_cons.1 hn).2
  cases hk:L[k]? with
  |none=>rw [List.filterMap_cons_none hk];exact ih
  |some x=>
   rw [List.filterMap_cons_some hk]
   have back:∀(j:Nat) y,(is.filterMap λi=>L[i]?)[j]? =some y->y.1≠x.1:=by
    intro j y hy e
    obtain ⟨m,hm,hmy⟩:=List.mem_filterMap.1 (dI hy)
    have:=H.dj m k y x hmy hk e
    subst this
    exact (List.nodup_cons.1 hn).1 hm
   refine ⟨λi y hi=>?_,λi j y z hi hj e=>?_⟩
   .cases i with
    |zero=>simp at hi;subst hi;exact H.own k x hk
    |succ i=>exact ih.own i y (by simpa using hi)
   .cases i with
    |zero=>
     cases j with
     |zero=>rfl
     |succ j=>simp at hi;subst hi;exact absurd e.symm (back j z (by simpa using hj))
    |succ i=>
     cases j with
     |zero=>simp at hj;subst hj;exact absurd e (back i y (by simpa using hi))
     |succ j=>rw [ih.dj i j y z (by simpa using hi) (by simpa using hj) e]
def LC.ld (H:LC w L) (i j:Nat) {b:Nat} {vs:List aD} {T:aP} {v:aD} (hi:L[i]? =some (b,vs,T):=by rfl) (hj:vs[j]? =some v:=by rfl):w.cell? ((bO b).add j)=some v:=
 cellAt (p:=bO b) (H.own i _ hi) rfl (by simpa using hj)
def LC.KG (H:LC w L) (i:Nat) {b:Nat} {vs:List aD} {T:aP} {v:aD} (hi:L[i]? =some (b,vs,T):=by rfl) (hj:vs[0]? =some v:=by rfl):w.cell? (bO b)=some v:=by
 have:=H.ld i 0 hi hj
 rwa [xS] at this
def LC.alloc (H:LC w L) (o:Obj):LC (w.alloc o) L:=H.fr (M:=λ_=>False) (Fr.alloc _ _ _) (λ_ _ h=>h)
def LC.push (H:LC w L) (cs:Array aD) (T:aP):LC (w.alloc (.cells cs T)) (L++[(w.heap.size,cs.toList,T)]):=by
 have H1:=H.alloc (.cells cs T)
 have GL:∀(i:Nat) x,L[i]? =some x->x.1<w.heap.size:=λi x hi=>gh (H.own i x hi)
 have ix:∀(i:Nat) x,(L++[(w.heap.size,cs.toList,T)])[i]? =some x->(L[i]? =some x)\/(i=L.length/\x=(w.heap.size,cs.toList,T)):=by
  intro i x hi
  rw [List.getElem?_append] at hi
  split at hi
  .exact .inl hi
  .rename_i hl
   right
   have:i - L.length=0:=by
    rcases Nat.eq_zero_or_pos (i - L.length) with h|h
    .exact h
    .rw [List.getElem?_eq_none (by simp;omega)] at hi;cases hi
   rw [this] at hi
   simp at hi
   exact ⟨by omega,hi.symm⟩
 refine ⟨λi x hi=>?_,λi j x y hi hj e=>?_⟩
 .rcases ix i x hi with h|⟨_,rfl⟩
  .exact H1.own i x h
  .simp only [Array.toArray_toList]
   exact mM w _
 .rcases ix i x hi with h|⟨h,rfl⟩
  .rcases ix j y hj with h'|⟨h',rfl⟩
   .exact H.dj i j x y h h' e
   .have:=GL i x h;simp only at e;omega
  .rcases ix j y hj with h'|⟨h',rfl⟩
   .have:=GL j y h';simp only at e;omega
   .omega
def LC.Hk (H:LC w L) {P:aQ} {g:FuncId} {args:Array aD} {K K':aT} (h:fZ (rB L) P g args w K') (hk:∀r w',LC w' L->K' r w'->K r w'):aH P g args w K:=by
 obtain ⟨M,hm,hc⟩:=h
 exact hc.mono λr w' ⟨f,h'⟩=>hk r w' (H.fr f hm) h'
def LC.drT (H:LC w L) {K:aA->Prop} (f:Fr (·∈rB L) wT w) (hk:∀w1,LC w1 L->Fr (·∈rB L) wT w1->K w1):wy w K:=hk _ (H.fr (M:=λ_=>False) (Fr.drew _ _) (λ_ _ h=>h)) (f.Az (Fr.drew _ _))
def J5 (L:List (Nat×List aD×aP)) (i:Nat) {b:Nat} {vs Da:List aD} {T:aP} (hi:L[i]? =some (b,vs,T)):rB (L.set i (b,Da,T))=rB L:=by
 apply List.ext_getElem?
 intro k
 simp only [rB,List.getElem?_map,qgT]
 split
 .rename_i e
  subst e
  rw [hi]
  split
  .rfl
  .rename_i h;exact absurd (nY.1 hi).1 h
 .rfl
def LC.set (H:LC w L) (i j:Nat) {b:Nat} {vs:List aD} {T:aP} {v:aD} (hi:L[i]? =some (b,vs,T)) (hj:j<vs.length) (f:Fr (·∈rB L) wT w):
  (w.cell? ((bO b).add j)).isSome=true/\w.frozen? ((bO b).add j)=false/\LC (w.setCell ((bO b).add j) v) (L.set i (b,vs.set j v,T))/\Fr (·∈rB (L.set i (b,vs.set j v,T))) wT (w.setCell ((bO b).add j) v):=by
 obtain ⟨x1,x2,x3,x4⟩:=I7 (H.own i _ hi) j (by simpa using hj) v
 have hb:b∈rB L:=pN.2 ⟨_,dI hi,rfl⟩
 refine ⟨x1,x2,⟨λk x hk=>?_,λk m x y hk hm e=>?_⟩,?_⟩
 .rw [qgT] at hk
  split at hk
  .split at hk
   .cases hk
    simp only
    rw [x3]
    simp
   .cases hk
  .rename_i jx
   have:=x4.ic x.1 (gh (H.own k x hk)) (λe=>jx (H.dj i k _ x hi hk e.symm))
   rw [this]
   exact H.own k x hk
 .have g:∀(k:Nat) x,(L.set i (b,vs.set j v,T))[k]? =some x->∃y,L[k]? =some y/\y.1=x.1:=by
   intro k x hk
   rw [qgT] at hk
   split at hk
   .rename_i e;subst e
    split at hk
    .cases hk;exact ⟨_,hi,rfl⟩
    .cases hk
   .exact ⟨x,hk,rfl⟩
  obtain ⟨x',h1,e1⟩:=g k x hk
  obtain ⟨y',h2,e2⟩:=g m y hm
  exact H.dj k m x' y' h1 h2 (by rw [e1,e2,e])
 .rw [J5 L i hi]
  exact f.trans x4 λx _ e=>e▸hb
def o7 {bs:List Nat} {P:aQ} {f:FuncId} {args:Array aD} {K:aT} (h:aH P f args w λr w'=>bW w w'/\K r w'):fZ bs P f args w K:=⟨λ_=>False,λ_ _ h=>h,h⟩
end
def En.g (b:Nat):En:=⟨[b],λw=>b<w.heap.size,λw w' h hp=>(by
  have:=h b (by simp) hp
  rcases Nat.lt_or_ge b w'.heap.size with h1|h1
  .exact h1
  .rw [Array.getElem?_eq_none h1,Array.getElem?_eq_getElem hp] at this;cases this),λw hp x hx=>by simp at hx;subst hx;exact hp,by simp⟩
section
variable {M:Nat->Prop} {w0 w:aA} {L D:List En} {bs:List Nat}
def LH.ghost (H:LH M w0 w L D) {w':aA} (f:Fr (·∈bs) w w') (kS:∀b∈bs,En.g b∈L):LH M w0 w' L D:=by
 refine ⟨H.fr.trans f λx hx hm=>(H.new _ (kS x hm) x (by simp [En.g])).resolve_left (by omega),λe he=>?_,λe he=>?_,H.new,H.nd,H.dj⟩
 .by_cases hg:∃b∈bs,b∈e.fp
  .obtain ⟨b,hb,tM⟩:=hg
   obtain ⟨i,hi⟩:=O2.1 he
   obtain ⟨j,hj⟩:=O2.1 (kS b hb)
   have Dn:i=j:=by
    rcases Nat.decEq i j with h|h
    .exact absurd (by simp [En.g]) (qX H.nd hi hj h b tM)
    .exact h
   subst Dn
   rw [hi] at hj
   cases hj
   exact Nat.lt_of_lt_of_le (H.own _ he) f.size
  .exact e.st w w' (λb hb hl=>f.ic b hl λhm=>hg ⟨b,hm,hb⟩) (H.own e he)
 .exact e.st w w' (λb hb hl=>f.ic b hl λhm=>H.dj e he b hb _ (kS b hm) (by simp [En.g])) (H.rd e he)
def LH.bH (H:LH M w0 w L D) {K:aA->Prop} (hk:∀w1,LH M w0 w1 L D->K w1) (kS:∀b∈bs,En.g b∈L:=by simp):loc bs w K:=λ_ f=>hk _ (H.ghost f kS)
def LH.cC (H:LH M w0 w L D) {K:Nat->aA->Prop} (hk:∀b w1,LH M w0 w1 (L++[.g b]) D->K b w1) (kS:∀b∈bs,En.g b∈L:=by simp):cB bs w K:=λb w1 h1 h2 f=>hk b w1 (by
 have H1:=H.ghost f kS
 refine ⟨H1.fr,λe he=>?_,H1.rd,λe he x hx=>?_,?_,λe he x hx e' lM FK=>?_⟩
 .rcases gg.1 he with he|he
  .exact H1.own e he
  .simp at he;subst he;show b<_;omega
 .rcases gg.1 he with he|he
  .exact H.new e he x hx
  .simp at he;subst he;simp [En.g] at hx;subst hx;exact .inl (Nat.le_trans H.fr.size h1)
 .rw [rS,zH]
  refine ⟨H.nd,by simp [En.g],λx hx y hy=>?_⟩
  have:=H.KR x hx
  simp [En.g] at hy
  omega
 .rcases gg.1 lM with lM|lM
  .exact H.dj e he x hx e' lM FK
  .simp at lM;subst lM;simp [En.g] at FK;subst FK
   have:=e.lt w (H.rd e he) x hx
   omega)
def LH.bC (H:LH M w0 w L D) {P:aQ} {g:FuncId} {args:Array aD} {A K:aT} (hc:aH P g args w λr w'=>A r w'/\bW w w') (hk:∀r w',A r w'->LH M w0 w' L D->K r w'):fZ bs P g args w K:=
 o7 (hc.mono λr w' ⟨ha,f⟩=>⟨f,hk r w' ha (H.qx f)⟩)
def LH.call (H:LH M w0 w L D) {P:aQ} {g:FuncId} {args:Array aD} {A K:aT} (hc:aH P g args w λr w'=>A r w'/\bW w w') (hk:∀r w',A r w'->LH M w0 w' L D->K r w'):aH P g args w K:=
 hc.mono λr w' ⟨ha,f⟩=>hk r w' ha (H.qx f)
def LH.RM (H:LH M w0 w L D) {w':aA} (f:bW w w') {e:aP} {sz:Nat} {s:Sl} {vs:List aD} (h:bD w' e sz s vs) (hn:∀b∈bQ s,w.heap.size<=b):LH M w0 w' (L++[.row e sz s vs]) D:=H.push (.row e sz s vs) f h hn
def LH.apk (H:LH M w0 w L D) (i:Nat) {P:aQ} {t ty e:aP} {z:aD} {sz bytes:Nat} (el:jb P t e z sz bytes) {s src:Sl} {xs news:List aD} {K:Sl->aA->Prop}
  (hi:L[i]? =some (.row e sz s xs)) (hr:qR w src news) (hl:news.length=src.n *sz) (h1:∀u∈news,u.oneCell'=true) (hb:(s.n+src.n) *bytes<=140737488355328)
  (hK:∀s' w',LH M w0 w' (L.set i (.row e sz s' (xs++news))) D->s'.n=s.n+src.n->(s'.a=none->s.a=none/\src.n=0)->(∀b,En.g b∈L->w'.heap[b]? =w.heap[b]?)->K s' w'):
  ∃s' w',(Builtin.append_ #[t,t] ty #[s.v,src.v]).run P w=.ok s'.v w'/\K s' w':=by
 obtain ⟨s',w',g1,g2,g3,g4,g5,g6⟩:=r6 (ty:=ty) el (H.get i hi) hr hl h1 hb
 refine ⟨s',w',g1,hK s' w' (H.CX i (.row e sz s' (xs++news)) hi g4 g2 g5) g3 g6 λb hb=>?_⟩
 refine g4.ic b (H.own _ hb) λhm=>?_
 obtain ⟨j,hj⟩:=O2.1 hb
 by_cases Dn:i=j
 .subst Dn
  rw [hi] at hj
  cases FD:(En.row e sz s xs) with
  |mk fp P' st lt nd=>
   have e1:En.row e sz s xs=En.g b:=Option.some.inj hj
   have e2:(En.row e sz s xs).P=(En.g b).P:=by rw [e1]
   have e3:=congrFun e2 w
   have e4:(En.row e sz s xs).P (w.alloc (.cells #[] e))=(En.g b).P (w.alloc (.cells #[] e)):=by rw [e1]
   have f1:(En.row e sz s xs).fp=(En.g b).fp:=by rw [e1]
   have SR:(En.g b).P ({w with heap:=Array.replicate (b+1) (.map #[] 0)}):=by show b<_;simp
   rw [<-e2] at SR
   have hty:=(bD.row (show bD ({w with heap:=Array.replicate (b+1) (.map #[] 0)}) e sz s xs from SR)).typ b hm
   obtain ⟨cs,f,hc⟩:=hty
   simp at hc
 .exact qX H.nd hi hj Dn b hm (by simp [En.g])
end
def lN (sz:Nat) (w:aA) (s:Sl) (vs:List aD):Prop:=vs.length=s.n *sz/\s.n<=s.c/\qR w s vs
def lN.fr {sz:Nat} {M:Nat->Prop} {w w':aA} {s:Sl} {vs:List aD} (h:lN sz w s vs) (hf:Fr M w w') (hn:∀b∈bQ s,¬M b):lN sz w' s vs:=⟨h.1,h.2.1,h.2.2.fr hf hn⟩
def lN.qx {sz:Nat} {w w':aA} {s:Sl} {vs:List aD} (h:lN sz w s vs) (hf:bW w w'):lN sz w' s vs:=h.fr hf λ_ _ h=>h
def bD.jG {w:aA} {e:aP} {sz:Nat} {s:Sl} {vs:List aD} (h:bD w e sz s vs):lN sz w s vs:=⟨h.len,h.cap,h.row.Ql⟩
def lN.nil (sz:Nat) (w:aA):lN sz w ⟨none,0,0⟩ []:=⟨by simp,Nat.le_refl _,qR.nil w⟩
def En.jG (sz:Nat) (s:Sl) (vs:List aD):En:=⟨if vs=[] then [] else bQ s,λw=>lN sz w s vs,λw w' h hp=>by
  refine ⟨hp.1,hp.2.1,hp.2.2.1,λi v hi=>?_⟩
  obtain ⟨p,ha,hc⟩:=hp.2.2.2 i v hi
  have jx:vs≠[]:=λe=>by subst e;simp at hi
  rw [aI jx] at h
  have:=h p.block (by simp [bQ,ha]) (by have:=qW hc;rwa [iu] at this)
  refine ⟨p,ha,?_⟩
  unfold World.cell? at hc ⊢
  rw [iu] at hc ⊢
  rw [this];exact hc,λw hp b hb=>by
  split at hb
  .cases hb
  .rename_i jx
   have h0:0<vs.length:=List.length_pos_iff.2 jx
   obtain ⟨p,ha,hc⟩:=hp.2.2.2 0 vs[0] (ie h0)
   simp [bQ,ha] at hb
   subst hb
   have:=qW hc
   rwa [iu] at this,by split<;>(try simp);unfold bQ;split<;>simp⟩
def Gt (sz:Nat) (s:Sl) (l h:Nat):Sl:=⟨if s.c=l then s.a else s.a.map (·.add (l *sz)),h - l,s.c - l⟩
def lN.sub {sz:Nat} {w:aA} {s:Sl} {vs:List aD} (h:lN sz w s vs) (l hi:Nat) (hl:l<=hi) (hh:hi<=s.n):lN sz w (Gt sz s l hi) ((vs.take (hi *sz)).drop (l *sz)):=by
 obtain ⟨h1,h2,h3,h4⟩:=h
 have e1:hi *sz<=s.n *sz:=Nat.mul_le_mul_right _ hh
 refine ⟨?_,?_,?_,λi v hv=>?_⟩
 .rw [List.length_drop,List.length_take,h1,Nat.min_eq_left e1]
  show _=(hi - l) *sz
  rw [Nat.sub_mul]
 .show hi - l<=s.c - l
  omega
 .intro ha
  unfold Gt at ha ⊢
  simp only at ha ⊢
  split at ha
  .have:=h3 ha;omega
  .cases hs:s.a with
   |none=>have:=h3 hs;omega
   |some p=>rw [hs] at ha;cases ha
 .rw [List.getElem?_drop] at hv
  have jO:l *sz+i<hi *sz:=by
   have:=(nY.1 hv).1
   rw [List.length_take] at this
   omega
  rw [Zj,aN jO] at hv
  obtain ⟨p,hp,hc⟩:=h4 _ _ hv
  have jx:s.c≠l:=λe=>by
   have:hi<=l:=by omega
   have:=Nat.mul_le_mul_right sz this
   omega
  refine ⟨p.add (l *sz),?_,?_⟩
  .unfold Gt
   simp only
   rw [aI jx,hp]
   rfl
  .rw [add_add];exact hc
def JL:List Nat->List Nat
 |[]=>[]
 |a::l=>if a∈JL l then JL l else a::JL l
def aV {x:Nat}:∀{l:List Nat},x∈JL l↔x∈l
 |[]=>Iff.rfl
 |a::l=>by
  unfold JL
  split
  .rename_i h
   rw [aV,dT]
   exact ⟨.inr,λh'=>h'.elim (λe=>by subst e;exact aV.1 h) id⟩
  .rw [dT,dT,aV]
def kM:∀l:List Nat,(JL l).Nodup
 |[]=>.nil
 |a::l=>by
  unfold JL
  split
  .exact kM l
  .rename_i h
   exact List.nodup_cons.2 ⟨h,kM l⟩
def En.all (es:List En):En:=⟨JL (es.flatMap (·.fp)),λw=>∀e∈es,e.P w,λw w' h hp e he=>e.st w w' (λb hb hl=>h b (aV.2 (nG.2 ⟨e,he,hb⟩)) hl) (hp e he),
 λw hp b hb=>(by
  obtain ⟨e,he,tM⟩:=nG.1 (aV.1 hb)
  exact e.lt w (hp e he) b tM),kM _⟩
section
variable {M:Nat->Prop} {w0 w:aA} {L D:List En} {bs:List Nat}
structure O6 (M:Nat->Prop) (w0 w w':aA) (L D:List En):Prop where
 own:∀e:En,e.P w'->(∀b∈e.fp,w.heap.size<=b)->LH M w0 w' (L++[e]) D
 rd:∀e:En,e.P w'->(∀b∈e.fp,w.heap.size<=b)->LH M w0 w' L (D++[e])
def LH.fresh (H:LH M w0 w L D) {w':aA} (f:bW w w'):O6 M w0 w w' L D:=⟨λe h1 h2=>H.push e f h1 h2,λe h1 h2=>H.pS e f h1 λb hb=>.inl (h2 b hb)⟩
def LH.rC (H:LH M w0 w L D) {P:aQ} {g:FuncId} {args:Array aD} {A K:aT} (hc:aH P g args w λr w'=>A r w'/\bW w w') (hk:∀r w',A r w'->LH M w0 w' L D->O6 M w0 w w' L D->K r w'):fZ bs P g args w K:=
 o7 (hc.mono λr w' ⟨ha,f⟩=>⟨f,hk r w' ha (H.qx f) (H.fresh f)⟩)
def LH.LJ (H:LH M w0 w L D) {P:aQ} {g:FuncId} {args:Array aD} {A K:aT} (hc:aH P g args w λr w'=>A r w'/\bW w w') (hk:∀r w',A r w'->LH M w0 w' L D->O6 M w0 w w' L D->K r w'):aH P g args w K:=
 hc.mono λr w' ⟨ha,f⟩=>hk r w' ha (H.qx f) (H.fresh f)
end
def Gf {sz:Nat} {s:Sl} {vs:List aD} {n:Nat} (h:∀b∈bQ s,n<=b):∀b∈(En.jG sz s vs).fp,n<=b:=λb hb=>by
 have:b∈(if vs=[] then [] else bQ s):=hb
 split at this
 .cases this
 .exact h b this
section
variable {M:Nat->Prop} {w0 w:aA} {L D:List En} {bs:List Nat}
def LH.OT (H:LH M w0 w L D) (i:Nat) {P:aQ} {t ty e:aP} {z:aD} {sz bytes:Nat} (el:jb P t e z sz bytes) {s src:Sl} {xs news:List aD} {K:Sl->aA->Prop}
  (hi:L[i]? =some (.row e sz s xs)) (hr:lN sz w src news) (h1:∀u∈news,u.oneCell'=true) (hb:(s.n+src.n) *bytes<=140737488355328)
  (hK:∀s' w',LH M w0 w' (L.set i (.row e sz s' (xs++news))) D->K s' w') (kS:∀b∈bs,En.g b∈L:=by simp):
  ∃s' w',(Builtin.append_ #[t,t] ty #[s.v,src.v]).run P w=.ok s'.v w'/\kept bs w w'/\K s' w':=
 H.apk i el (K:=λs' w'=>kept bs w w'/\K s' w') hi hr.2.2 hr.1 h1 hb λs' w' h _ _ hk=>⟨λb fA=>hk b (kS b fA),hK s' w' h⟩
def LH.wV (H:LH M w0 w L D) (i:Nat) {P:aQ} {t ty e:aP} {z:aD} {sz bytes:Nat} (el:jb P t e z sz bytes) {T:aP} {s:Sl} {xs:List aD} {news:Array aD} {K:Sl->aA->Prop}
  (hi:L[i]? =some (.row e sz s xs)) (hK:∀s' w',LH M w0 w' (L.set i (.row e sz s' (xs++news.toList))) D->K s' w') (hb:(s.n+1) *bytes<=140737488355328) (hl:news.size=sz:=by rfl) (h1:∀u∈news.toList,u.oneCell'=true:=by simp [Value.oneCell']) (kS:∀b∈bs,En.g b∈L:=by simp):
  gi w (.cells news T) λw1=>∃s' w',(Builtin.append_ #[t,t] ty #[s.v,.slice (some (Addr.mk w.heap.size 0 none)) 1 1]).run P w1=.ok s'.v w'/\kept bs w1 w'/\K s' w':=by
 have H1:LH M w0 (w.alloc (.cells news T)) L D:=H.qx (Fr.alloc _ _ _)
 exact H1.OT i el (src:=⟨some (bO w.heap.size),1,1⟩) (ty:=ty) (K:=K) (news:=news.toList) hi ⟨by simpa using hl,Nat.le_refl _,(Row.made w T 1 1 news.toList).Ql⟩ h1 hb hK kS
end
def Gc {w:aA} {e:aP} {sz:Nat} {s:Sl} {vs:List aD} (h:bD w e sz s vs) (i:Nat) (hi:i<vs.length) (v:aD):
  ∃p,s.a=some p/\p.block∈bQ s/\(w.cell? (p.add i)).isSome=true/\w.frozen? (p.add i)=false/\bD (w.setCell (p.add i) v) e sz s (vs.set i v)/\Fr (·∈bQ s) w (w.setCell (p.add i) v):=by
 have hl:=h.len
 rcases h.cases with ⟨rfl,rfl⟩|⟨g,cur,ha,hg,h1,h2,h3,h4⟩
 .simp at hi
 .have hle:s.n *sz<=s.c *sz:=Nat.mul_le_mul_right _ h1
  have ni:i<cur.size:=by omega
  have hb:g∈bQ s:=by simp [bQ,ha]
  refine ⟨⟨g,0,none⟩,ha,hb,?_,frozenAt (p:=⟨g,0,none⟩) hg,?_,Fr.set _ _ _ (by rw [iu];exact hb)⟩
  .rw [cellAt (p:=⟨g,0,none⟩) (v:=cur[i]) hg rfl (by simp [ni])];rfl
  .refine ⟨by simpa using h.1,.inr ⟨g,s.c,cur.setIfInBounds i v,?_,Nat.zero_le _,?_,h1,h2,by simpa using h3,?_⟩⟩
   .obtain ⟨a,n,c⟩:=s
    simp only at ha
    subst ha;rfl
   .have:=setAt (p:=⟨g,0,none⟩) (i:=i) (v:=v) hg rfl
    simpa using this
   .rw [Array.toList_setIfInBounds,List.take_set,h4]
section
variable {M:Nat->Prop} {w0 w:aA} {L D:List En} {bs:List Nat}
def LH.BS (H:LH M w0 w L D) {i:Nat} {e:aP} {sz:Nat} {s:Sl} {xs:List aD} (hi:L[i]? =some (.row e sz s xs)) {b:Nat} (hb:En.g b∈L):b∉bQ s:=λhm=>by
 obtain ⟨j,hj⟩:=O2.1 hb
 by_cases Dn:i=j
 .subst Dn
  rw [hi] at hj
  have e1:En.row e sz s xs=En.g b:=Option.some.inj hj
  have e2:(En.row e sz s xs).P=(En.g b).P:=by rw [e1]
  have SR:(En.g b).P ({w with heap:=Array.replicate (b+1) (.map #[] 0)}):=by show b<_;simp
  rw [<-e2] at SR
  obtain ⟨cs,f,hc⟩:=(bD.row (show bD ({w with heap:=Array.replicate (b+1) (.map #[] 0)}) e sz s xs from SR)).typ b hm
  simp at hc
 .exact qX H.nd hi hj Dn b hm (by simp [En.g])
def LH.Jf (H:LH M w0 w L D) (i a c:Nat) {e:aP} {sz:Nat} {s:Sl} {xs:List aD} {v:aD} {p:Addr} {K:aA->Prop} (hi:L[i]? =some (.row e sz s xs)) (hp:s.a=some p) (hj:a+c<xs.length)
  (hK:∀w',LH M w0 w' (L.set i (.row e sz s (xs.set (a+c) v))) D->K w') (kS:∀b∈bs,En.g b∈L:=by simp):cY w ((p.add a).add c) v λw1=>kept bs w w1/\K w1:=by
 obtain ⟨q,hq,hqb,x1,x2,x3,x4⟩:=Gc (H.get i hi) (a+c) hj v
 rw [hp] at hq
 cases hq
 rw [add_add]
 refine ⟨x1,x2,λb hb=>?_,hK _ (H.CX i (.row e sz s (xs.set (a+c) v)) hi x4 x3 (λb hb=>.inl hb))⟩
 exact x4.ic b (H.own _ (kS b hb)) λhm=>H.BS hi (kS b hb) hm
end
def vE:List Bool->List En->List En
 |true::m,a::l=>a::vE m l
 |false::m,_::l=>vE m l
 |_,_=>[]
def rv:∀(m:List Bool) (l:List En),(vE m l).Sublist l
 |[],l=>by unfold vE;exact List.nil_sublist _
 |true::m,[]=>by unfold vE;exact List.nil_sublist _
 |false::m,[]=>by unfold vE;exact List.nil_sublist _
 |true::m,a::l=>by unfold vE;exact (rv m l).cons_cons a
 |false::m,a::l=>by unfold vE;exact (rv m l).cons a
def Si {α β:Type} {f:α->List β} {l m:List α} (h:l.Sublist m):(l.flatMap f).Sublist (m.flatMap f):=by
 induction h with
 |slnil=>exact List.Sublist.refl _
 |cons a _ ih=>rw [rT];exact ih.trans (List.sublist_append_right _ _)
 |cons_cons a _ ih=>rw [rT,rT];exact (List.Sublist.refl _).append ih
def LH.vE {M:Nat->Prop} {w0 w:aA} {L D:List En} (H:LH M w0 w L D) (m:List Bool):LH M w0 w (vE m L) D:=
 ⟨H.fr,λe he=>H.own e ((rv m L).subset he),H.rd,λe he=>H.new e ((rv m L).subset he),(Si (rv m L)).nodup H.nd,λe he b hb e' lM=>H.dj e he b hb e' ((rv m L).subset lM)⟩
def IY {s:Sl} {vs:List aD} {n:Nat} (h:∀b∈bQ s,n<=b):∀b∈(En.rd s vs).fp,n<=b:=λb hb=>by
 have:b∈(if vs=[] then [] else bQ s):=hb
 split at this
 .cases this
 .exact h b this
def lW {M:Nat->Prop} {w0 w:aA} {L D:List En} (H:LH M w0 w L D) {i:Nat} {e:En} (hi:L[i]? =some e) (tz:∀(b:Nat),¬e.P ({w with heap:=Array.replicate (b+1) (.map #[] 0)})) {b:Nat} (hb:En.g b∈L):b∉e.fp:=by
 obtain ⟨j,hj⟩:=O2.1 hb
 by_cases Dn:i=j
 .subst Dn
  rw [hi] at hj
  have e1:e=En.g b:=Option.some.inj hj
  exfalso
  refine tz b ?_
  rw [e1]
  show b<_
  simp
 .intro hm
  exact qX H.nd hi hj Dn b hm (by simp [En.g])
abbrev bY (s:Sl)(i:Int)(K:Addr->Prop):Prop:=0<=i/\i<((s.n:Nat):Int)/\gT s.a K
end Go.W
