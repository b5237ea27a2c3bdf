import Derived.OrdersHeld
import Derived.OrdersIn
import Derived.RangeFuncLeaves
import Derived.RangeFuncRecord
import Derived.RangeFuncSeq
import Derived.WalkKit
import Derived.Laws.AppendOwn
import Derived.Laws.StructEq
import Derived.KernelRfl
import Derived.Below
import Derived.OwnWalk
import Derived.IntWalk
import Derived.Laws.AppendOwnNone
set_option linter.unusedVariables false
set_option linter.defProp false
namespace Go.W
open Go renaming World->I,Calls->ai,Program->aM,Value->ae,TypeId->aG,Ending->dA,FuncId->bJ,IntKind->jv
open Go.IntKind renaming wrap->ab
open _root_.ByteArray renaming mk->az
open Go.Builtin renaming append_->bb
open _root_.Bool renaming and_eq_true->bn,not_eq_true->ju
open _root_.Nat renaming le_refl->bB,le_trans->bH,zero_le->dv,beq->cm,lt_of_lt_of_le->vp,mul_le_mul_right->kZ,beq_eq->ek
open _root_.Option.some renaming inj->fQ,injEq->eT
open _root_.Array renaming replicate->fy
open _root_.BitVec renaming ofInt->eJ
open Go.Region renaming wanted->cX,ready->en
open Go.Ending renaming returned->V
open List renaming mem_append->a5,mem_cons->aB,mem_of_getElem?->aI,getElem?_eq_getElem->bc,getElem?_eq_some_iff->cD,mem_append_right->eP,mem_flatMap->ch,mem_map->cQ,mem_of_mem_take->mr,mem_singleton->fJ,flatMap_append->dh,flatMap_cons->cO,mem_iff_getElem?->iQ,getElem?_set->yi,mem_or_eq_of_mem_set->De,nodup_append->gM,mem_cons_of_mem->ec,all_eq_true->f',getElem?_take->kc,eq_nil_of_length_eq_zero->mq
def af {c:Prop}{d:Decidable c}(x:¬c){α:Sort _}{t e:α}:ite c t e=e:=_root_.if_neg x
def aq {c:Prop}{d:Decidable c}(x:c){α:Sort _}{t e:α}:ite c t e=t:=_root_.if_pos x
def a0 {p:Prop}[i:Decidable p](x:¬p):decide p=false:=_root_.decide_eq_false x
def aW {p:Prop}[i:Decidable p](x:p):decide p=true:=_root_.decide_eq_true x
def a7 (p:Prop):(p∨False)=p:=_root_.or_false p
def ef {p:Prop}[i:Decidable p](x:decide p=true):p:=_root_.of_decide_eq_true x
def gS {p:Prop}[i:Decidable p](x:decide p=false):¬p:=_root_.of_decide_eq_false x
abbrev Env:=List (Nat×ae)
def Env.get? :Env->Nat->Option ae
 |[],_=>none
 |(d,v)::c,t=>bif cm d t then some v else Env.get? c t
def Env.val (E:Env):Operand->Option ae
 |.tmp t=>E.get? t
 |.const v=>some v
 |.global g=>some (.pointer (some ⟨g,0,none⟩))
 |.func f=>some (.func (.func f) #[] #[])
def Env.ev (E:Env) (x:Operand):ae:=(E.val x).getD undef
def Env.put (E:Env) (d:Option Nat) (v:ae):Env:=
 match d with
 |some d=>(d,v)::E
 |none=>E
def Env.eA (E:Env) (o:Oper):Bool:=o.op.operands.toList.all λc=>(E.val c).isSome
structure Cx where
 n:Nat
 ds:List Deferred
 ro:Option Nat
instance:CoeHead Cx Nat:=⟨Cx.n⟩
abbrev cx (n:Nat):Cx:=⟨n,[],none⟩
abbrev FW (n:Cx):Fence:={Fence.wide with round:=n.ro}
structure Ag (n:Cx) (a:Act) (E:Env):Prop where
 defers:a.defers=n.ds
 size:a.tmps.size=n.n
 get:∀t v,E.get? t=some v->a.tmps[t]? =some v
def Ag.val {n:Cx} {a:Act} {E:Env} (d:Ag n a E) {x:Operand} {v:ae} (c:E.val x=some v):a.eval x=v:=by
 cases x with
 |tmp t=>have:=d.get t v c;simp [Act.eval,this]
 |const e=>simpa [Env.val,Act.eval] using c
 |global g=>simpa [Env.val,Act.eval] using c
 |func f=>simpa [Env.val,Act.eval] using c
def Ag.ev {n:Cx} {a:Act} {E:Env} (d:Ag n a E) {x:Operand} (e:(E.val x).isSome=true):a.eval x=E.ev x:=by obtain ⟨v,c⟩:=Option.isSome_iff_exists.1 e;rw [d.val c,Env.ev,c];rfl
def Ag.put {n:Cx} {a:Act} {E:Env} (c:Ag n a E) {d:Option Nat} (v:ae) (j:∀t,d=some t->t<n.n):Ag n (a.put d v) (E.put d v):=by
 cases d with
 |none=>exact c
 |some t=>
  refine ⟨c.defers,by simp [Act.put,c.size],?_⟩;intro s q e;have k:t<a.tmps.size:=by rw [c.size];exact j t rfl
  simp only [Env.put,Env.get?] at e;by_cases h:t=s
  .subst h;simp at e;simp [Act.put,k,e]
  .have:cm t s=false:=by rw [<-ju,ek];exact h
   simp only [this,cond_false] at e;simpa [Act.put,Array.getElem?_setIfInBounds_ne h] using c.get s q e
def Ag.nil {n:Cx} {a:Act} {E:Env} (c:Ag n a E):Ag n a []:=⟨c.defers,c.size,λ_ _ c=>by simp [Env.get?] at c⟩
def Ag.cons {n:Cx} {a:Act} {E F:Env} (d:Ag n a E) {t:Nat} {v:ae} (j:E.get? t=some v) (h:Ag n a F):Ag n a ((t,v)::F):=by
 refine ⟨d.defers,d.size,?_⟩;intro s k c;simp only [Env.get?] at c;by_cases e:t=s
 .subst e;simp at c;subst c;exact d.get _ _ j
 .have:cm t s=false:=by rw [<-ju,ek];exact e
  simp only [this,cond_false] at c;exact h.get s k c
def Ag.execOp {n:Cx} {a:Act} {E:Env} (d:Ag n a E) {o:Oper} (h:∀c b,o.op≠.select c b) (e:E.eA o=true):execOp a.eval o=execOp E.ev o:=
 execOp_congr o h λk j=>d.ev (by have:=f'.1 e k (by simpa using j);exact this)
structure O where
 a:Option Addr
 n:Nat
 c:Nat
abbrev O.v (s:O):ae:=.slice s.a s.n s.c
abbrev aa:=dA->I->Prop
structure Fv where
 n:Nat
 bs:Array ae
 cs:Array ae
abbrev Fv.v (f:Fv):ae:=.func (.func f.n) f.bs f.cs
def tj (z:ae) (K:ae->Prop):Prop:=
 match z with
 |.int c _=>∃d:Int,K (.int c d)
 |.bool _=>∃b:Bool,K (.bool b)
 |.string _=>∃s:ByteArray,K (.string s)
 |.slice _ _ _=>∃s:O,K s.v
 |.pointer _=>∃a:Option Addr,K (.pointer a)
 |.map _=>∃r:Option Nat,K (.map r)
 |_=>∃v:ae,K v
def wx:List ae->(List ae->Prop)->Prop
 |[],c=>c []
 |e::h,c=>tj e λv=>wx h λd=>c (v::d)
def wy (z:ae) (K:ae->Prop):Prop:=
 match z with
 |.agg c=>wx c.toList λd=>K (.agg d.toArray)
 |z=>tj z K
def Ay:List ae->(List ae->Prop)->Prop
 |[],c=>c []
 |e::h,c=>wy e λv=>Ay h λd=>c (v::d)
def m3 (z:ae) (K:ae->Prop):Prop:=
 match z with
 |.tuple d=>Ay d.toList λc=>K (.tuple c.toArray)
 |z=>wy z K
def Aw {z:ae} {K:ae->Prop} (c:tj z K):∃v,K v:=by
 unfold tj at c;split at c
 .obtain ⟨d,c⟩:=c;exact ⟨_,c⟩
 .obtain ⟨d,c⟩:=c;exact ⟨_,c⟩
 .obtain ⟨d,c⟩:=c;exact ⟨_,c⟩
 .obtain ⟨d,c⟩:=c;exact ⟨_,c⟩
 .obtain ⟨d,c⟩:=c;exact ⟨_,c⟩
 .obtain ⟨d,c⟩:=c;exact ⟨_,c⟩
 .exact c
def Ax:∀{zs:List ae} {K:List ae->Prop},wx zs K->∃d,d.length=zs.length/\K d
 |[],_,c=>⟨[],rfl,c⟩
 |_::_,_,c=>by obtain ⟨v,c⟩:=Aw c;obtain ⟨d,e,c⟩:=Ax c;exact ⟨v::d,by simp [e],c⟩
def G' {z:ae} {K:ae->Prop} (c:wy z K):∃v,K v:=by
 unfold wy at c;split at c
 .obtain ⟨d,_,c⟩:=Ax c;exact ⟨_,c⟩
 .exact Aw c
def Ha:∀{zs:List ae} {K:List ae->Prop},Ay zs K->∃d,K d
 |[],_,c=>⟨[],c⟩
 |_::_,_,c=>by obtain ⟨v,c⟩:=G' c;obtain ⟨d,c⟩:=Ha c;exact ⟨v::d,c⟩
def pk {z:ae} {K:ae->Prop} (c:m3 z K):∃v,K v:=by
 unfold m3 at c;split at c
 .obtain ⟨d,c⟩:=Ha c;exact ⟨_,c⟩
 .exact G' c
def cH (b:Bool) (p:Prop):Prop:=match b with |true=>p|false=>False
def dB {b:Bool} {p:Prop} (c:cH b p):b=true/\p:=by
 cases b
 .exact c.elim
 .exact ⟨rfl,c⟩
def Y (t:Bool) (A B:Prop):Prop:=match t with |true=>A|false=>B
def bE {t:Bool} {A B:Prop} (c:t=true->A) (d:t=false->B):Y t A B:=by
 cases t
 .exact d rfl
 .exact c rfl
def bd {t:Bool} {A B:Prop} (d:t=true) (c:A):Y t A B:=by subst d;exact c
def a9 {t:Bool} {A B:Prop} (d:t=false) (c:B):Y t A B:=by subst d;exact c
def ct (c:Option Addr) (K:Addr->Prop):Prop:=match c with |some p=>K p|none=>False
def IW {c:Option Addr} {K:Addr->Prop} (d:ct c K):∃p,c=some p/\K p:=by
 cases c with
 |none=>exact d.elim
 |some p=>exact ⟨p,rfl,d⟩
def qK:List Prop->Prop->Prop
 |[],p=>p
 |c::l,p=>c/\qK l p
def qL:∀{l:List Prop} {p:Prop},qK l p->(∀e∈l,e)/\p
 |[],_,c=>⟨λ_ c=>(by cases c),c⟩
 |_::_,_,c=>⟨λe d=>by
   rcases aB.1 d with rfl|d
   .exact c.1
   .exact (qL c.2).1 e d,(qL c.2).2⟩
def pM {α:Type} (P:aM):Sem α->Option α
 |.pure a=>some a
 |.program c=>pM P (c P)
 |_=>none
def Jd {α:Type} {P:aM}:∀{s:Sem α} {a:α},pM P s=some a->∀d,s.run P d=.ok a d
 |.pure _,_,c,d=>by simp [pM] at c;subst c;rfl
 |.program e,_,c,d=>by simp only [pM] at c;exact Jd c d
 |.load ..,_,c,_|.store ..,_,c,_|.new ..,_,c,_|.shape ..,_,c,_|.freeze ..,_,c,_|.frozen ..,_,c,_|.getObj ..,_,c,_|.setObj ..,_,c,_
 |.choose ..,_,c,_|.sys ..,_,c,_|.mark ..,_,c,_|.halt ..,_,c,_=>by simp [pM] at c
def zeroOf (P:aM) (t:aG):ae:=((P.info? t).bind (·.zero)).getD undef
def calm (P:aM) (o:Oper):Bool:=
 match o.op with
 |.convert s c _=>match P.underlying s,P.underlying c with
  |some (.slice _),some (.slice _)=>false
  |some .string,some (.slice _)=>false
  |_,_=>true
 |.move _|.assign _|.pick ..|.build ..|.load ..|.nilCheck _|.binOp ..|.unOp ..|.makeInterface ..|.makeFunc ..|.slice ..|.fieldAddr ..|.field ..|.indexAddr ..|.index ..
 |.lookup ..|.typeAssert ..|.extract ..=>true
 |.call {callee:=.builtin b,..}=>match b with |.len|.cap|.min|.max=>true|_=>false
 |_=>false
def lW (x:Option ae) (y c:Nat) (K:Nat->Prop):Prop:=
 match x with
 |none=>K c
 |some (.int _ i)=>0<=i/\i<=(y:Int)/\K i.toNat
 |_=>False
def o0 (P:aM) (T:aG):Option Bool:=
 match P.underlying T with
 |some (.struct _)|some (.array _ _)=>some true
 |some _=>some false
 |none=>none
def vJ (P:aM) (T:aG):Bool:=
 match zeroOf P T with
 |.agg c=>o0 P T==some true&&(match P.info? T with |some i=>i.size==c.size|none=>false)
 |_=>o0 P T==some false
def ma (P:aM) (T:aG) (p:Addr) (w:I) (K:ae->List (I->Prop)->Prop):Prop:=
 cH (vJ P T)<|match zeroOf P T with
 |.agg e=>wx e.toList λd=>qK (d.zipIdx.map λ(v,i)=>w.cell? (p.add i)=some v) (K (.agg d.toArray) (d.zipIdx.map λ(v,i)=>λc=>c.cell? (p.add i)=some v))
 |.nilFunc=>∃f:Fv,w.cell? p=some f.v/\K f.v [λc=>c.cell? p=some f.v]
 |.nilIface=>(∃(t:aG) (x:ae),w.cell? p=some (.iface t x)/\K (.iface t x) [λc=>c.cell? p=some (.iface t x)])\/(w.cell? p=some .nilIface/\K .nilIface [λc=>c.cell? p=some .nilIface])
 |h=>tj h λv=>w.cell? p=some v/\K v [λc=>c.cell? p=some v]
def gv (P:aM) (o:Oper) (E:Env) (K:ae->List (I->Prop)->Prop):Prop:=
 cH (E.eA o) (match pM P (execOp E.ev o) with |some (.value v)=>K v []|_=>False)
def Az (z:ae) (K:ae->Prop):Prop:=
 match z with
 |.nilFunc=>∃f:Fv,K f.v
 |z=>m3 z K
def Px {z:ae} {K:ae->Prop} (c:Az z K):∃v,K v:=by
 unfold Az at c;split at c
 .obtain ⟨f,c⟩:=c;exact ⟨_,c⟩
 .exact pk c
def oB (P:aM) (s:Sem ae) (z:ae) (w:I) (K:ae->List (I->Prop)->Prop):Prop:=
 Az z λv=>s.run P w=.ok v w/\K v [λc=>s.run P c=.ok v c]
def wh (P:aM) (T:aG):Option Nat:=
 match P.underlying T with
 |some (.slice c)=>(P.info? c).map (·.size)
 |_=>none
def zt (P:aM) (T:aG):Option (Nat×Nat):=
 match P.underlying T with
 |some (.array d c)=>(P.info? c).map λi=>(d,i.size)
 |_=>none
def Nc {P:aM} {T:aG} {n sz:Nat} (d:zt P T=some (n,sz)):∃c inf,P.underlying T=some (.array n c)/\P.info? c=some inf/\sz=inf.size:=by
 unfold zt at d;split at d
 .rename_i m c j;obtain ⟨inf,h,e⟩:=Option.map_eq_some_iff.1 d;cases e;exact ⟨c,inf,j,h,rfl⟩
 .cases d
def isConst:Operand->Bool
 |.const _=>true
 |_=>false
def nj (P:aM) (T:aG) (c:ae):Bool:=
 match P.underlying T,c with
 |some (.slice _),.slice none _ _=>true
 |some (.pointer _),.pointer none=>true
 |some (.map _ _),.map none=>true
 |_,_=>false
def mi:Option ae->ae->Option Bool
 |some (.slice a _ _),.slice none _ _=>some a.isNone
 |some (.pointer a),.pointer none=>some a.isNone
 |some (.map r),.map none=>some r.isNone
 |_,_=>none
def ti (P:aM) (xs c:Array ae):List Field->Option Bool
 |[]=>some true
 |f::d=>bif f.name=="_" then none else match P.underlying f.type,xs[f.offset]?,c[f.offset]?,ti P xs c d with
  |some (.int _),some (.int e a),some (.int h b),some r=>bif decide (e=h) then some ((a==b)&&r) else none
  |some .string,some (.string a),some (.string b),some r=>some ((a.toList==b.toList)&&r)
  |some .bool,some (.bool a),some (.bool b),some r=>some ((a==b)&&r)
  |_,_,_,_=>none
def zp (P:aM) (T:aG) (xs d:Array ae):Option Bool:=match P.underlying T with
 |some (.struct c)=>bif (!P.stoodInHeld T&&!P.eqGuardType P.depth T) then ti P xs d c.toList else none
 |_=>none
def q9 (P:aM) (o:Oper) (E:Env) (T:aG) (x y:Operand) (neg:Bool) (K:ae->List (I->Prop)->Prop):Prop:=match E.val x,E.val y with
 |some (.agg c),some (.agg d)=>match zp P T c d with
  |some b=>K (.bool (bif neg then !b else b)) []
  |none=>False
 |_,_=>gv P o E K
def CL (P:aM) (e:aG):Bool:=match P.underlying e,P.info? e with
 |some .string,some i=>i.size==1
 |_,_=>false
def IT (P:aM) (e:aG):Bool:=match P.underlying e,P.info? e with
 |some (.int _),some i=>i.size==1
 |_,_=>false
def v8 (P:aM) (o:Oper) (E:Env) (w:I) (K:ae->List (I->Prop)->Prop):Prop:=
 match o.op with
 |.load d c=>match E.val c with
  |some (.pointer (some p))=>ma P d p w K
  |_=>False
 |.nilCheck c=>match E.val c with
  |some (.pointer C)=>ct C λp=>K (.pointer (some p)) []
  |_=>gv P o E K
 |.indexAddr d c u=>match E.val c,E.val u with
  |some (.slice a n _),some (.int _ i)=>match wh P d with
   |some y=>0<=i/\i<(n:Int)/\ct a λp=>K (.pointer (some (p.add (i.toNat *y)))) []
   |none=>False
  |some (.pointer (some p)),some (.int _ i)=>match zt P d with
   |some (n,y)=>0<=i/\i<(n:Int)/\K (.pointer (some (p.add (i.toNat *y)))) []
   |none=>False
  |_,_=>gv P o E K
 |.index d c u=>match P.underlying d,E.val c,E.val u with
  |some .string,some (.string s),some (.int _ i)=>0<=i/\∃b:UInt8,s[i.toNat]? =some b/\K (.int .u8 b.toNat) []
  |some (.array n A),some (.agg D),some (.int _ i)=>bif CL P A then 0<=i/\i<((n:Nat):Int)/\∃a:ByteArray,D[i.toNat]? =some (.string a)/\K (.string a) [] else cH (IT P A) (0<=i/\i<((n:Nat):Int)/\∃a:Int,D[i.toNat]? =some (.int .i64 a)/\K (.int .i64 a) [])
  |_,_,_=>gv P o E K
 |.slice d c lo q x=>cH (E.eA o) (match P.underlying d,E.val c with
  |some (.slice _),some (.slice a n j)=>match wh P d with
   |some y=>lW (x.map E.ev) j j λm=>lW (q.map E.ev) m n λk=>cH (x.isNone||q.isSome) (lW (lo.map E.ev) k 0 λl=>
     K (.slice (if m=l then a else a.map (·.add (l *y))) (k - l) (m - l)) [])
   |none=>False
  |some .string,some (.string s)=>cH x.isNone (lW (q.map E.ev) s.size s.size λk=>lW (lo.map E.ev) k 0 λl=>K (.string (s.extract l k)) [])
  |some (.array n A),some (.pointer (some p))=>match P.info? A with
   |some inf=>lW (x.map E.ev) n n λm=>lW (q.map E.ev) m n λk=>cH (x.isNone||q.isSome) (lW (lo.map E.ev) k 0 λl=>
     K (.slice (some (if m=l then p else p.add (l *inf.size))) (k - l) (m - l)) [])
   |none=>False
  |_,_=>False)
 |.binOp .quo _ c e _=>bif isConst e then gv P o E K else match E.val c,E.val e with
  |some (.int h a),some (.int B b)=>cH (h==B) (b≠0/\K (.int h (h.wrap (a.tdiv b))) [])
  |_,_=>False
 |.binOp .rem _ c e _=>bif isConst e then gv P o E K else match E.val c,E.val e with
  |some (.int h a),some (.int B b)=>cH (h==B) (b≠0/\K (.int h (a.tmod b)) [])
  |_,_=>False
 |.binOp .eql d c (.const j) _=>bif nj P d j then (match mi (E.val c) j with
  |some b=>K (.bool b) []
  |none=>False) else q9 P o E d c (.const j) false K
 |.binOp .neq d c (.const j) _=>bif nj P d j then (match mi (E.val c) j with
  |some b=>K (.bool !b) []
  |none=>False) else q9 P o E d c (.const j) true K
 |.binOp .eql d c e _=>q9 P o E d c e false K
 |.binOp .neq d c e _=>match P.underlying d,E.val c,E.val e with
  |some (.pointer _),some (.pointer p),some (.pointer C)=>oB P (binOp .neq d (.pointer p) (.pointer C)) (.bool true) w K
  |_,_,_=>q9 P o E d c e true K
 |.binOp .add _ c e _=>match E.val c,E.val e with
  |some (.string s),some (.string t)=>¬(((s.size+t.size:Nat):Int)>IntKind.i64.max)/\K (.string (s++t)) []
  |_,_=>gv P o E K
 |.binOp .shl _ c e _=>bif isConst e then gv P o E K else match E.val c,E.val e with
  |some (.int h a),some (.int _ b)=>¬b<0/\K (.int h (h.wrap (a *2^(min b.toNat h.bits)))) []
  |_,_=>False
 |.binOp .shr _ c e _=>bif isConst e then gv P o E K else match E.val c,E.val e with
  |some (.int h a),some (.int _ b)=>¬b<0/\K (.int h (a.fdiv (2^(min b.toNat h.bits)))) []
  |_,_=>False
 |.lookup d c u ok=>match E.val c,E.val u with
  |some m,some h=>oB P (Instr.lookup d m h ok) (zeroOf P o.type) w K
  |_,_=>False
 |.convert s z c=>match P.underlying s,P.underlying z,E.val c with
  |some (.slice _),some .string,some v=>oB P (convert s z v) (.string (az #[])) w K
  |some (.pointer _),some .unsafePointer,some v=>oB P (convert s z v) (.pointer none) w K
  |some .unsafePointer,some (.pointer _),some v=>oB P (convert s z v) (.pointer none) w K
  |_,_,_=>gv P o E K
 |.call {callee:=.builtin .len,args,argTypes}=>match args.toList,argTypes.toList with
  |[c],[d]=>match P.underlying d,E.val c with
   |some (.map _ _),some m=>oB P (Builtin.len_ #[d] o.type #[m]) (.int .i64 0) w K
   |_,_=>gv P o E K
  |_,_=>gv P o E K
 |_=>gv P o E K
def Qx (op:BinOp) (T:aG) (x y:Operand) (a b:ae):Sem ae:=do eqGuard op T x y a b;binOp op T a b
def AY (P:aM) (o:Oper):Bool:=match o.op with
 |.binOp .eql c _ _ _|.binOp .neq c _ _ _=>match P.underlying c with
  |some (.interface _)=>true
  |_=>false
 |_=>false
def HH (P:aM) (o:Oper) (E:Env) (w:I) (K:ae->List (I->Prop)->Prop):Prop:=match o.op with
 |.binOp h e c d _=>match E.val c,E.val d with
  |some a,some b=>oB P (Qx h e c d a b) (.bool true) w K
  |_,_=>False
 |_=>False
def lY (P:aM) (o:Oper) (E:Env) (w:I) (K:ae->List (I->Prop)->Prop):Prop:=bif AY P o then HH P o E w K else v8 P o E w K
def p' (p:Addr):List ae->Nat->I->(I->Prop)->Prop
 |[],_,c,d=>d c
 |v::e,i,c,d=>(c.cell? (p.add i)).isSome=true/\c.frozen? (p.add i)=false/\p' p e (i+1) (c.setCell (p.add i) v) d
def q' (P:aM) (o:Oper) (E:Env) (w:I) (K:ae->I->Prop):Prop:=
 cH (E.eA o) (match (execOp E.ev o).run P w with
  |.ok (.value v) c=>K v c
  |.ok .skip c=>K undef c
  |_=>False)
def pe (P:aM) (s:Sem ae) (z:ae) (w:I) (K:ae->I->Prop):Prop:=
 m3 z λv=>∃c,s.run P w=.ok v c/\K v c
def Gm (P:aM) (s:Sem Unit) (w:I) (K:ae->I->Prop):Prop:=
 ∃c,s.run P w=.ok () c/\K undef c
def gF (P:aM) (f:bJ):Bool:=match P.funcs[f]? with |some fn=>fn.body.isSome&&!(fn.name=="runtime.NumGoroutine")|none=>false
def wz (P:aM) (f:bJ) (args:Array ae) (z:ae) (w:I) (K:ae->I->Prop):Prop:=
 m3 z λv=>∃c,(callFunc f args).run P w=.ok (.value v) c/\K v c
def o' (P:aM) (f:bJ) (args:Array ae) (z:ae) (w:I) (K:ae->I->Prop):Prop:=
 ai P f args w λc d=>m3 z λv=>c=V v/\K v d
def rI:ae->Bool
 |.agg _=>false
 |.tuple _=>false
 |_=>true
def gH (P:aM) (o:Oper) (E:Env) (w:I) (K:ae->I->Prop):Prop:=
 match o.op with
 |.store d x y=>match E.val x,E.val y with
  |some (.pointer (some p)),some v=>cH (v.cells.size==(match P.info? d with |some i=>i.size|none=>0)&&v.cells.toList.all rI&&(P.info? d).isSome) (p' p v.cells.toList 0 w λw'=>K undef w')
  |_,_=>False
 |.mapUpdate d m e v|.insert d m e v=>match E.val m,E.val e,E.val v with
  |some m,some e,some v=>Gm P (Instr.mapUpdate d m e v) w K
  |_,_,_=>False
 |.call {callee:=.builtin b,args,argTypes}=>cH (E.eA o) (match b with
  |.append=>pe P (bb argTypes o.type (args.map E.ev)) (.slice none 0 0) w K
  |.copy=>pe P (Builtin.copy_ argTypes o.type (args.map E.ev)) (.int .i64 0) w K
  |.unsafeSliceData=>pe P (Builtin.unsafeSliceData_ argTypes o.type (args.map E.ev)) (.pointer none) w K
  |.unsafeString=>pe P (Builtin.unsafeString_ argTypes o.type (args.map E.ev)) (.string (az #[])) w K
  |.delete=>∃w',(Builtin.delete_ argTypes o.type (args.map E.ev)).run P w=.ok undef w'/\K undef w'
  |.clear=>∃w',(Builtin.clear_ argTypes o.type (args.map E.ev)).run P w=.ok (.tuple #[]) w'/\K (.tuple #[]) w'
  |_=>False)
 |.call {callee:=.value (.func f),args,..}=>cH (E.eA o) (bif gF P f then o' P f (args.map E.ev) (zeroOf P o.type) w K else wz P f (args.map E.ev) (zeroOf P o.type) w K)
 |.call {callee:=.value (.tmp t),args,..}=>cH (E.eA o) (match E.get? t with
  |some (.func (.func f) first captured)=>cH (gF P f) (o' P f (first++args.map E.ev++captured) (zeroOf P o.type) w K)
  |_=>False)
 |.makeSlice d l c=>match E.val l,E.val c with
  |some l,some c=>pe P (Instr.makeSlice d l c) (.slice none 0 0) w K
  |_,_=>False
 |.range d x=>match E.val x with
  |some x=>∃v w',(Instr.range d x).run P w=.ok v w'/\K v w'
  |_=>False
 |.next it s=>match E.val it with
  |some it=>(∃w',(Instr.next it s o.type).run P w=.ok (.tuple #[.bool false]) w'/\K (.tuple #[.bool false]) w')\/
    (match s with
     |true=>∃(i c:Int) (w':I),(Instr.next it s o.type).run P w=.ok (.tuple #[.bool true,.int .i64 i,.int .i32 c]) w'/\K (.tuple #[.bool true,.int .i64 i,.int .i32 c]) w'
     |false=>∃(x y:ae) (w':I),(Instr.next it s o.type).run P w=.ok (.tuple #[.bool true,x,y]) w'/\K (.tuple #[.bool true,x,y]) w')
  |_=>False
 |.entry it=>match E.val it with
  |some it=>∃(x y:ae) (w':I),(Instr.entry it).run P w=.ok (.tuple #[x,y]) w'/\K (.tuple #[x,y]) w'
  |_=>False
 |.convert s h x=>match E.val x with
  |some v=>pe P (convert s h v) (.slice none 0 0) w K
  |_=>False
 |_=>q' P o E w K
def Vu (P:aM) (l:Nat) (args:Array ae) (w:I) (K:ae->I->Prop):Prop:=
 YieldAt Fence.wide 0 P l args w λc d=>∃b:Bool,c=V (.bool b)/\K (.bool b) d
def qY (P:aM) (o:Oper) (E:Env) (w:I) (K:ae->I->Prop):Prop:=
 match o.op with
 |.call {callee:=.value (.tmp t),args,..}=>match E.get? t with
  |some (.func (.yield l) d c)=>cH (E.eA o&&(cm d.size 0&&cm c.size 0)) (Vu P l (args.map E.ev) w K)
  |_=>gH P o E w K
 |_=>gH P o E w K
abbrev av (w:I) (p:Addr) (v:ae) (K:I->Prop):Prop:=(w.cell? p).isSome=true/\w.frozen? p=false/\K (w.setCell p v)
abbrev aN (w:I) (o:Obj) (K:I->Prop):Prop:=K (w.alloc o)
abbrev g6 (w:I) (l:Nat) (a b:Obj) (K:I->Prop):Prop:=w.heap[l]? =some a/\K (w.putObj l b)
abbrev bY (w:I) (K:I->Prop):Prop:=K w.drew
def HU {P:aM} {T:aG} {b:Bool} (c:o0 P T=some b) (w:I):(isAgg T).run P w=.ok b w:=by
 unfold o0 at c;unfold isAgg;cases d:P.underlying T with
 |none=>rw [d] at c;cases c
 |some e=>rw [d] at c;cases e<;>simp [run_underlying d] at c ⊢<;>first |exact c|simp [<-c]
def uN {P:aM} {T:aG} {p:Addr} {v:ae} {w:I} (c:o0 P T=some false) (d:w.cell? p=some v):(loadVar T p).run P w=.ok v w:=by simp [loadVar,HU c,d]
def Kq {P:aM} {T:aG} {p:Addr} {vs:List ae} {i:TypeInfo} {w:I} (d:o0 P T=some true) (hi:P.info? T=some i) (h:i.size=vs.length)
  (e:∀c v,vs[c]? =some v->w.cell? (p.add c)=some v):(loadVar T p).run P w=.ok (.agg vs.toArray) w:=by have:=run_loadCells_list (P:=P) w p vs e;simp [loadVar,HU d,sizeOf,typeInfo,hi,h,this]
def Calm (P:aM) (o:Oper) (ρ:Operand->ae) (w:I) (v:ae) (e:List (I->Prop)):Prop:=
 (∀c∈e,c w)/\∀d,(∀c∈e,c d)->(execOp ρ o).run P d=.ok (.value v) d
def Je {P:aM} {o:Oper} {E:Env} {w:I} {n:Cx} {a:Act} {K:ae->List (I->Prop)->Prop} (q:∀e b,o.op≠.select e b)
  (j:Ag n a E) (c:gv P o E K):∃v d,K v d/\Calm P o a.eval w v d:=by
 obtain ⟨k,c⟩:=dB c;split at c
 .rename_i v u;refine ⟨v,[],c,λd h=>(by cases h),λx _=>?_⟩;rw [j.execOp q k];exact Jd u x
 .exact c.elim
def pO {P:aM} {s:Sem ae} {z:ae} {w:I} {K:ae->List (I->Prop)->Prop} {o:Oper} {ρ:Operand->ae} (k:execOp ρ o=(do pure (.value (<-s))))
  (h:oB P s z w K):∃v c,K v c/\Calm P o ρ w v c:=by
 obtain ⟨v,q,j⟩:=Px h;refine ⟨v,_,j,λc d=>?_,λe u=>?_⟩
 .simp at d;subst d;exact q
 .have n:s.run P e=.ok v e:=u _ (fJ.2 rfl);rw [k];simp [n]
def nU {P:aM} {x:Option ae} {y d:Nat} {K:Nat->Prop} (c:lW x y d K):∃l,K l/\((x=none/\l=d)\/∃v,x=some v/\∀code e,(Instr.sliceBound v y code).run P e=.ok l e):=by
 unfold lW at c;split at c
 .exact ⟨d,c,.inl ⟨rfl,rfl⟩⟩
 .rename_i n i;obtain ⟨h,j,k⟩:=c;refine ⟨_,k,.inr ⟨_,rfl,λcode e=>?_⟩⟩;simp [Instr.sliceBound,asIntOf,h,j]
 .exact c.elim
def DK {P:aM} {q:Bool} {n c m d l:Nat} {L H M:Option ae} {w:I}
  (j:(M=none/\m=c)\/∃v,M=some v/\∀code w,(Instr.sliceBound v c code).run P w=.ok m w)
  (e:(H=none/\d=n)\/∃v,H=some v/\∀code w,(Instr.sliceBound v m code).run P w=.ok d w)
  (h:(L=none/\l=0)\/∃v,L=some v/\∀code w,(Instr.sliceBound v d code).run P w=.ok l w)
  (k:M≠none->H=none->False):(Instr.sliceBounds q n c L H M).run P w=.ok (l,d,m) w:=by unfold Instr.sliceBounds;rcases j with ⟨rfl,rfl⟩|⟨z,rfl,u⟩<;>rcases e with ⟨rfl,rfl⟩|⟨A,rfl,x⟩<;>rcases h with ⟨rfl,rfl⟩|⟨B,rfl,y⟩<;>first |(simp [*];done)|(exact (k (λd=>by cases d) rfl).elim)
def A' {P:aM} {T:aG} {p:Addr} {w:I} {K:ae->List (I->Prop)->Prop} (d:ma P T p w K):
  ∃v x,K v x/\(∀s∈x,s w)/\∀n,(∀s∈x,s n)->(loadVar T p).run P n=.ok v n:=by
 obtain ⟨c,d⟩:=dB d;unfold vJ at c;cases u:zeroOf P T with
 |agg E=>
  rw [u] at d c;simp only at d c;obtain ⟨F,C,d⟩:=Ax d;obtain ⟨h,j⟩:=qL d;rw [bn] at c;obtain ⟨A,q⟩:=c;cases y:P.info? T with
  |none=>rw [y] at q;simp at q
  |some i=>
   rw [y] at q;simp at q A;refine ⟨_,_,j,?_,λn k=>?_⟩
   .intro s e;obtain ⟨⟨v,z⟩,D,rfl⟩:=cQ.1 e;exact h _ (cQ.2 ⟨(v,z),D,rfl⟩)
   .refine Kq A y (by rw [q,C];simp) (λz v B=>?_);have:=k _ (cQ.2 ⟨(v,z),List.mem_zipIdx_iff_getElem?.2 B,rfl⟩);exact this
 |nilIface=>
  rw [u] at d c;simp at c;rcases d with ⟨t,G,h,j⟩|⟨h,j⟩
  .refine ⟨_,_,j,λs e=>?_,λn k=>?_⟩
   .simp at e;subst e;exact h
   .exact uN c (k _ (fJ.2 rfl))
  .refine ⟨_,_,j,λs e=>?_,λn k=>?_⟩
   .simp at e;subst e;exact h
   .exact uN c (k _ (fJ.2 rfl))
 |nilFunc=>
  rw [u] at d c;obtain ⟨f,h,j⟩:=d;simp at c;refine ⟨f.v,_,j,λs e=>?_,λn k=>?_⟩
  .simp at e;subst e;exact h
  .exact uN c (k _ (fJ.2 rfl))
 |_=>
  rw [u] at d c;try simp only at d
  try simp only at c
  obtain ⟨v,h,j⟩:=Aw d;simp at c;refine ⟨v,_,j,λs e=>?_,λn k=>?_⟩
  .simp at e;subst e;exact h
  .exact uN c (k _ (fJ.2 rfl))
def Gt {P:aM} {T:aG} {sz:Nat} (c:wh P T=some sz):∃d i,P.underlying T=some (.slice d)/\P.info? d=some i/\i.size=sz:=by
 unfold wh at c;split at c
 .rename_i d h;cases e:P.info? d with
  |none=>rw [e] at c;cases c
  |some i=>rw [e] at c;simp at c;exact ⟨d,i,h,e,c⟩
 .cases c
def xX {v c:ae} {b:Bool} (d:mi (some v) c=some b):(∃a j m k h,v=.slice a j m/\c=.slice none k h/\b=a.isNone)\/(∃a,v=.pointer a/\c=.pointer none/\b=a.isNone)\/(∃r,v=.map r/\c=.map none/\b=r.isNone):=by
 unfold mi at d;split at d
 .rename_i a j m k h e;cases e;cases d;exact .inl ⟨_,_,_,_,_,rfl,rfl,rfl⟩
 .rename_i a e;cases e;cases d;exact .inr (.inl ⟨_,rfl,rfl,rfl⟩)
 .rename_i a e;cases e;cases d;exact .inr (.inr ⟨_,rfl,rfl,rfl⟩)
 .cases d
def IC {P:aM} {T:aG} {c v:ae} {b:Bool} (d:nj P T c=true) (j:mi (some v) c=some b) (w:I):(Op.equal T v c).run P w=.ok b w:=by
 unfold Op.equal Op.maxDepth Op.equalIn;cases e:P.underlying T with
 |none=>simp [nj,e] at d
 |some h=>
  simp only [Sem.run_bind,run_underlying e,Result.andThen_ok];unfold nj at d;rw [e] at d;rcases xX j with ⟨a,n,m,q,k,rfl,rfl,rfl⟩|⟨a,rfl,rfl,rfl⟩|⟨a,rfl,rfl,rfl⟩<;>cases h<;>first |(cases d;done)|(cases a<;>rfl)
def RO {P:aM} {T:aG} {c v:ae} {b:Bool} (e:nj P T c=true) (d:mi (some v) c=some b) (w:I):(binOp .eql T v c).run P w=.ok (.bool b) w:=by have:=IC e d w;rcases xX d with ⟨a,j,m,k,h,rfl,rfl,rfl⟩|⟨a,rfl,rfl,rfl⟩|⟨a,rfl,rfl,rfl⟩<;>simp [binOp,this]
def RP {P:aM} {T:aG} {c v:ae} {b:Bool} (e:nj P T c=true) (d:mi (some v) c=some b) (w:I):(binOp .neq T v c).run P w=.ok (.bool !b) w:=by have:=IC e d w;rcases xX d with ⟨a,j,m,k,h,rfl,rfl,rfl⟩|⟨a,rfl,rfl,rfl⟩|⟨a,rfl,rfl,rfl⟩<;>simp [binOp,this]
def ID {P:aM} {op:BinOp} {T:aG} {c v:ae} {b:Bool} {p e:Operand} (d:mi (some v) c=some b) (w:I):(eqGuard op T p e v c).run P w=.ok () w:=by rcases xX d with ⟨a,j,m,k,h,rfl,rfl,rfl⟩|⟨a,rfl,rfl,rfl⟩|⟨a,rfl,rfl,rfl⟩<;>cases op<;>rfl
set_option maxHeartbeats 1000000 in
def rY {P:aM} {t:aG} {u:TypeDesc} (c:P.underlying t=some u) (d:(match u with |.struct _|.array _ _=>true|_=>false)=false) {xs:Array ae} {off:Nat} {v:ae} (e:xs[off]? =some v) (w:I):(part t xs off).run P w=.ok v w:=by unfold part isAgg;cases u<;>first |(simp at d;done)|simp [run_underlying c,e]
def wu {P:aM} {xs B:Array ae} (d:Nat) (w:I):∀(j:List Field) (b:Bool),ti P xs B j=some b->(Op.eqFields (d+1) xs B j).run P w=.ok b w
 |[],b,c=>by simp [ti] at c;subst c;rfl
 |f::j,b,c=>by
  unfold ti at c;cases y:(f.name=="_") with
  |true=>rw [y] at c;cases c
  |false=>
   rw [y] at c;simp only [cond_false] at c;have D:f.name≠"_":=by simpa using y
   unfold Op.eqFields;rw [aq D];split at c
   .rename_i F A a E h r e n q k;cases x:decide (A=E) with
    |false=>rw [x] at c;cases c
    |true=>
     rw [x] at c;have C:=ef x;subst C;simp only [cond_true,eT] at c;subst c;have u:=wu d w j r k;simp only [Sem.run_bind,rY e rfl n w,rY e rfl q w,Result.andThen_ok,run_equalIn_int w d f.type A F a h e];cases z:(a==h)<;>simp [u]
   .rename_i a h r e n q k;simp only [eT] at c;subst c;have u:=wu d w j r k;simp only [Sem.run_bind,rY e rfl n w,rY e rfl q w,Result.andThen_ok,run_equalIn_string w d f.type a h e];cases z:(a.toList==h.toList)<;>simp [u]
   .rename_i a h r e n q k;simp only [eT] at c;subst c;have u:=wu d w j r k;simp only [Sem.run_bind,rY e rfl n w,rY e rfl q w,Result.andThen_ok,run_equalIn_bool w d f.type a h e];cases z:(a==h)<;>simp [u]
   .cases c
def M7 {P:aM} {T:aG} {xs e:Array ae} {b:Bool} (c:zp P T xs e=some b) (w:I):P.eqGuardType P.depth T=false/\(Op.equalIn 10000 T (.agg xs) (.agg e)).run P w=.ok b w:=by
 unfold zp at c;split at c
 .rename_i k j;cases d:(!P.stoodInHeld T&&!P.eqGuardType P.depth T) with
  |false=>rw [d] at c;cases c
  |true=>
   rw [d] at c;simp only [cond_true] at c;rw [bn] at d;have n:P.stoodInHeld T=false:=by simpa using d.1
   have q:P.eqGuardType P.depth T=false:=by simpa using d.2
   have h:P.fieldsOf T=k:=by unfold Program.fieldsOf;rw [j]
   refine ⟨q,?_⟩;rw [run_equalIn_struct w 9999 T xs e (by rw [h];exact j) n,h];exact wu 9998 w _ _ c
 .cases c
def wv {P:aM} {o:Oper} {E:Env} {w:I} {n:Cx} {a:Act} {K:ae->List (I->Prop)->Prop} {op:BinOp} {T z:aG} {x y:Operand} {neg:Bool} (H:∀A b,o.op≠.select A b)
  (j:Ag n a E) (G:o.op=.binOp op T x y z) (D:(op=.eql/\neg=false)\/(op=.neq/\neg=true)) (c:q9 P o E T x y neg K):∃v h,K v h/\Calm P o a.eval w v h:=by
 unfold q9 at c;split at c
 .rename_i d e J L;split at c
  .rename_i b F;refine ⟨_,_,c,λh C=>(by cases C),λk _=>?_⟩;obtain ⟨q,u⟩:=M7 F k;have B:execOp a.eval o=(do pure (.value (<-(do eqGuard op T x y (.agg d) (.agg e);binOp op T (.agg d) (.agg e))))):=by simp only [execOp,G,j.val J,j.val L]
   rw [B];rcases D with ⟨rfl,rfl⟩|⟨rfl,rfl⟩
   .simp only [Sem.run_bind,run_eqGuard_agg k _ T x y d e q,Result.andThen_ok,run_eql_struct,u];rfl
   .simp only [Sem.run_bind,run_eqGuard_agg k _ T x y d e q,Result.andThen_ok,run_neq_struct,u];rfl
  .exact c.elim
 .exact Je H j c
def OO {P:aM} {o:Oper} {E:Env} {w:I} {n:Cx} {a:Act} {K:ae->List (I->Prop)->Prop} (hs:∀cs b,o.op≠.select cs b)
  (h:Ag n a E) (c:v8 P o E w K):∃v u,K v u/\Calm P o a.eval w v u:=by
 have pure':gv P o E K->∃v u,K v u/\Calm P o a.eval w v u:=Je hs h;unfold v8 at c;split at c
 .
  rename_i x y e;split at c
  .rename_i p d;obtain ⟨v,u,k,B,h2⟩:=A' c;refine ⟨v,u,k,B,λq aw=>?_⟩;simp [execOp,e,Instr.loadAt,h.val d,Instr.sureAddr,h2 q aw]
  .exact c.elim
 .
  rename_i y e;split at c
  .rename_i ax d;obtain ⟨p,rfl,k⟩:=IW c;refine ⟨_,_,k,λu j=>(by cases j),λq _=>?_⟩;simp [execOp,e,h.val d]
  .exact pure' c
 .
  rename_i x y ix e;split at c
  .rename_i b n G N i d A;split at c
   .rename_i sz ac;obtain ⟨H,B,c⟩:=c;obtain ⟨p,rfl,k⟩:=IW c;obtain ⟨Q,inf,D,L,rfl⟩:=Gt ac;refine ⟨_,_,k,λu j=>(by cases j),λq _=>?_⟩;simp [execOp,e,h.val d,h.val A,Instr.indexAt,asIntOf,run_underlying D,H,B,sizeOf,typeInfo,L]
   .exact c.elim
  .rename_i p N i d A;split at c
   .rename_i n sz ac;obtain ⟨H,B,k⟩:=c;obtain ⟨Q,inf,D,L,rfl⟩:=Nc ac;refine ⟨_,_,k,λu j=>(by cases j),λq _=>?_⟩;simp [execOp,e,h.val d,h.val A,Instr.indexAt,Instr.sureAddr,asIntOf,run_underlying D,H,B,sizeOf,typeInfo,L]
   .exact c.elim
  .exact pure' c
 .
  rename_i x y ix e;split at c
  .rename_i s N i D d A;obtain ⟨H,b,C,k⟩:=c;refine ⟨_,_,k,λu j=>(by cases j),λq _=>?_⟩;simp [execOp,e,h.val d,h.val A,Instr.index,asIntOf,run_underlying D,H,C]
  .rename_i n Q cs N i D d A;cases Y:CL P Q with
   |true=>
    rw [Y] at c;obtain ⟨H,M,b,C,k⟩:=c;unfold CL at Y;split at Y
    .rename_i inf aj L;have B:inf.size=1:=by simpa using Y
     refine ⟨_,_,k,λu j=>(by cases j),λq _=>?_⟩;simp [execOp,e,h.val d,h.val A,Instr.index,asIntOf,run_underlying D,H,M,sizeOf,typeInfo,L,B,part,isAgg,run_underlying aj,C]
    .cases Y
   |false=>
   rw [Y] at c;obtain ⟨B,H,M,b,C,k⟩:=dB c;unfold IT at B;split at B
   .rename_i z inf aj L;have B:inf.size=1:=by simpa using B
    refine ⟨_,_,k,λu j=>(by cases j),λq _=>?_⟩;simp [execOp,e,h.val d,h.val A,Instr.index,asIntOf,run_underlying D,H,M,sizeOf,typeInfo,L,B,part,isAgg,run_underlying aj,C]
   .cases B
  .exact pure' c
 .
  rename_i x y lo A S e;obtain ⟨aq,c⟩:=dB c;have ad:∀z∈o.op.operands,(E.val z).isSome=true:=λz F=>f'.1 aq z (by simpa using F);have ai:lo.map a.eval=lo.map E.ev:=by
   cases lo with
   |none=>rfl
   |some z=>simp only [Option.map_some];rw [h.ev (ad z (by rw [e];simp [Op.operands]))]
  have af:A.map a.eval=A.map E.ev:=by
   cases A with
   |none=>rfl
   |some z=>simp only [Option.map_some];rw [h.ev (ad z (by rw [e];simp [Op.operands]))]
  have am:S.map a.eval=S.map E.ev:=by
   cases S with
   |none=>rfl
   |some z=>simp only [Option.map_some];rw [h.ev (ad z (by rw [e];simp [Op.operands]))]
  split at c
  .rename_i Q b n G D d;split at c
   .rename_i sz ac;obtain ⟨m,c,hm⟩:=nU (P:=P) c;obtain ⟨Z,c,aa⟩:=nU (P:=P) c;obtain ⟨ar,c⟩:=dB c;obtain ⟨l,k,hl⟩:=nU (P:=P) c;obtain ⟨e',inf,ao,L,rfl⟩:=Gt ac;rw [ao] at D;cases D;refine ⟨_,_,k,λu j=>(by cases j),λq _=>?_⟩;have ab:(Instr.sliceBounds true n G (lo.map E.ev) (A.map E.ev) (S.map E.ev)).run P q=.ok (l,Z,m) q:=by refine DK hm aa hl ?_;intro B h2;cases S<;>cases A<;>simp_all
    simp only [execOp,e,h.val d,ai,af,am];simp [Instr.sliceAt,run_underlying ao,Instr.slice,ab,sizeOf,typeInfo,L]
   .exact c.elim
  .rename_i s D d;obtain ⟨au,h'⟩:=dB c;clear c;have av:S=none:=by simpa using au
   subst av;obtain ⟨Z,c,aa⟩:=nU (P:=P) h';obtain ⟨l,k,hl⟩:=nU (P:=P) c;refine ⟨_,_,k,λu j=>(by cases j),λq _=>?_⟩;have ab:(Instr.sliceBounds false s.size s.size (lo.map E.ev) (A.map E.ev) none).run P q=.ok (l,Z,s.size) q:=by exact DK (.inl ⟨rfl,rfl⟩) aa hl (λB _=>absurd rfl B)
   simp only [execOp,e,h.val d,ai,af];simp [Instr.sliceAt,run_underlying D,Instr.slice,ab]
  .rename_i n Q p D d;split at c
   .rename_i inf L;obtain ⟨m,c,hm⟩:=nU (P:=P) c;obtain ⟨Z,c,aa⟩:=nU (P:=P) c;obtain ⟨ar,c⟩:=dB c;obtain ⟨l,k,hl⟩:=nU (P:=P) c;refine ⟨_,_,k,λu j=>(by cases j),λq _=>?_⟩;have ab:(Instr.sliceBounds false n n (lo.map E.ev) (A.map E.ev) (S.map E.ev)).run P q=.ok (l,Z,m) q:=by refine DK hm aa hl ?_;intro B h2;cases S<;>cases A<;>simp_all
    simp only [execOp,e,h.val d,ai,af,am];simp [Instr.sliceAt,Instr.sureAddr,run_underlying D,ab,sizeOf,typeInfo,L]
   .exact c.elim
  .exact c.elim
 .
  rename_i x y z O e;cases J:isConst z with
  |true=>rw [J] at c;exact pure' c
  |false=>
   rw [J] at c;simp only [cond_false] at c;split at c
   .rename_i N i k' ak d F;obtain ⟨ag,W,k⟩:=dB c;have ah:N=k':=by simpa using ag
    subst ah;refine ⟨_,_,k,λu j=>(by cases j),λq _=>?_⟩;simp [execOp,e,h.val d,h.val F,eqGuard,binOp,Op.intDiv,W]
   .exact c.elim
 .
  rename_i x y z O e;cases J:isConst z with
  |true=>rw [J] at c;exact pure' c
  |false=>
   rw [J] at c;simp only [cond_false] at c;split at c
   .rename_i N i k' ak d F;obtain ⟨ag,W,k⟩:=dB c;have ah:N=k':=by simpa using ag
    subst ah;refine ⟨_,_,k,λu j=>(by cases j),λq _=>?_⟩;simp [execOp,e,h.val d,h.val F,eqGuard,binOp,Op.intDiv,W]
   .exact c.elim
 .
  rename_i x y G O e;cases M:nj P x G with
  |false=>rw [M] at c;exact wv hs h e (.inl ⟨rfl,rfl⟩) c
  |true=>
   rw [M] at c;simp only [cond_true] at c;split at c
   .rename_i b C;refine ⟨_,_,c,λu j=>(by cases j),λq _=>?_⟩;cases d:E.val y with
    |none=>rw [d] at C;simp [mi] at C
    |some v=>
     rw [d] at C;have T:execOp a.eval o=(do pure (.value (<-(do eqGuard .eql x y (.const G) v G;binOp .eql x v G)))):=by simp only [execOp,e,h.val d];rfl
     rw [T];simp [ID C q,RO M C q]
   .exact c.elim
 .
  rename_i x y G O e;cases M:nj P x G with
  |false=>rw [M] at c;exact wv hs h e (.inr ⟨rfl,rfl⟩) c
  |true=>
   rw [M] at c;simp only [cond_true] at c;split at c
   .rename_i b C;refine ⟨_,_,c,λu j=>(by cases j),λq _=>?_⟩;cases d:E.val y with
    |none=>rw [d] at C;simp [mi] at C
    |some v=>
     rw [d] at C;have T:execOp a.eval o=(do pure (.value (<-(do eqGuard .neq x y (.const G) v G;binOp .neq x v G)))):=by simp only [execOp,e,h.val d];rfl
     rw [T];simp [ID C q,RP M C q]
   .exact c.elim
 .
  rename_i x y z O _ e;exact wv hs h e (.inl ⟨rfl,rfl⟩) c
 .rename_i x y z O _ e;split at c
  .rename_i p ax D d F;refine pO ?_ c;simp only [execOp,e,h.val d,h.val F];rfl
  .exact wv hs h e (.inr ⟨rfl,rfl⟩) c
 .
  rename_i x y z O e;split at c
  .rename_i s t d F;obtain ⟨H,k⟩:=c;refine ⟨_,_,k,λu j=>(by cases j),λq _=>?_⟩;have T:execOp a.eval o=(do pure (.value (<-(do eqGuard .add x y z (.string s) (.string t);binOp .add x (.string s) (.string t))))):=by simp only [execOp,e,h.val d,h.val F]
   rw [T];simp only [eqGuard,binOp,Op.stringOp,H];rfl
  .exact pure' c
 .
  rename_i x y z O e;cases J:isConst z with
  |true=>rw [J] at c;exact pure' c
  |false=>
   rw [J] at c;simp only [cond_false] at c;split at c
   .rename_i N i k' ak d F;obtain ⟨W,k⟩:=c;refine ⟨_,_,k,λu j=>(by cases j),λq _=>?_⟩;simp [execOp,e,h.val d,h.val F,eqGuard,binOp,Op.shift,W]
   .exact c.elim
 .
  rename_i x y z O e;cases J:isConst z with
  |true=>rw [J] at c;exact pure' c
  |false=>
   rw [J] at c;simp only [cond_false] at c;split at c
   .rename_i N i k' ak d F;obtain ⟨W,k⟩:=c;refine ⟨_,_,k,λu j=>(by cases j),λq _=>?_⟩;simp [execOp,e,h.val d,h.val F,eqGuard,binOp,Op.shift,W]
   .exact c.elim
 .
  rename_i x y ix ok e;split at c
  .rename_i m N d A;exact pO (by simp [execOp,e,h.val d,h.val A]) c
  .exact c.elim
 .
  rename_i s ay y e;split at c
  .rename_i Q v an al d;exact pO (by simp [execOp,e,h.val d]) c
  .rename_i Q v an al d;exact pO (by simp [execOp,e,h.val d]) c
  .rename_i Q v an al d;exact pO (by simp [execOp,e,h.val d]) c
  .exact pure' c
 .
  rename_i args ap e;split at c
  .rename_i y x d hT;split at c
   .rename_i kt et m D hm;refine pO ?_ c;have T:args=#[y]:=by rw [<-Array.toArray_toList (xs:=args),d]
    have e2:ap=#[x]:=by rw [<-Array.toArray_toList (xs:=ap),hT]
    simp [execOp,e,T,e2,resolve,invoke,builtin,h.val hm]
   .exact pure' c
  .exact pure' c
 .exact pure' c
def v9 {P:aM} {o:Oper} {E:Env} {w:I} {n:Cx} {a:Act} {K:ae->List (I->Prop)->Prop} (q:∀j b,o.op≠.select j b)
  (d:Ag n a E) (c:lY P o E w K):∃v e,K v e/\Calm P o a.eval w v e:=by
 unfold lY at c;cases h:AY P o with
 |false=>rw [h] at c;exact OO q d c
 |true=>
  rw [h] at c;simp only [cond_true] at c;unfold HH at c;split at c
  .rename_i A y C D z k;split at c
   .rename_i B v u x;refine pO ?_ c;simp only [execOp,k,d.val u,d.val x];rfl
   .exact c.elim
  .exact c.elim
def KX {P:aM} {p:Addr}:∀{vs:List ae} {i:Nat} {w:I} {K:I->Prop},vs.all rI=true->p' p vs i w K->
  ∃d,(storeCells p vs i).run P w=.ok () d/\K d
 |[],i,w,K,_,c=>⟨w,by simp [storeCells],c⟩
 |v::vs,i,w,K,e,c=>by
  obtain ⟨j,k,c⟩:=c;rw [List.all_cons,bn] at e;obtain ⟨d,q,n⟩:=KX (P:=P) e.2 c;refine ⟨d,?_,n⟩;obtain ⟨y,x⟩:=Option.isSome_iff_exists.1 j;have u:(store (p.add i) v).run P w=.ok () (w.setCell (p.add i) v):=by have h:=e.1;cases v<;>first |(simp [rI] at h;done)|simp [store,Sem.run,x,k]
  simp [storeCells,u,q]
def sO {P:aM} {f:bJ} (c:gF P f=true) (args:Array ae) (w:I):(callFunc f args).run P w=.ok (.enter f args) w:=by
 unfold gF at c;cases d:P.funcs[f]? with
 |none=>rw [d] at c;cases c
 |some fn=>
  rw [d] at c;simp at c;obtain ⟨e,h⟩:=c;have j:fn.body≠none:=by intro k;rw [k] at e;cases e
  simp [callFunc,d,h,j]
def Ag.args {n:Cx} {a:Act} {E:Env} (d:Ag n a E) {args:Array Operand} (e:∀c∈args,(E.val c).isSome=true):args.map a.eval=args.map E.ev:=
 Array.map_congr_left λc h=>d.ev (e c h)
def h0 (P:aM) (o:Oper) (a:Act) (w:I) (K:ae->I->Prop):Prop:=
 ∀c:Exit->Act->I->Prop,o.wp P a w (λd e=>∃v,d=a.put o.dst v/\K v e) c
def FT {P:aM} {f:bJ} {args:Array ae} {z:ae} {w:I} {K:ae->I->Prop} {o:Oper} {a:Act}
  (h:(execOp a.eval o).run P w=.ok (.enter f args) w) (c:o' P f args z w K):h0 P o a w K:=by intro j;unfold Oper.wp;rw [h];simp only [Oper.upon];refine Calls.mono c λk n d=>?_;obtain ⟨v,rfl,e⟩:=pk d;exact ⟨v,rfl,e⟩
def qW {P:aM} {s:Sem ae} {z:ae} {w:I} {K:ae->I->Prop} {o:Oper} {a:Act}
  (h:execOp a.eval o=(do pure (.value (<-s)))) (c:pe P s z w K):h0 P o a w K:=by intro j;obtain ⟨v,k,e,d⟩:=pk c;unfold Oper.wp;rw [h];simp only [Sem.run_bind,e,Result.andThen_ok,Sem.run_pure,Oper.upon];exact ⟨v,rfl,d⟩
set_option maxHeartbeats 1000000 in
def l0 {P:aM} {o:Oper} {E:Env} {w:I} {n:Cx} {a:Act} {K:ae->I->Prop} (hs:∀Q b,o.op≠.select Q b)
  (j:Ag n a E) (c:gH P o E w K):h0 P o a w K:=by
 unfold gH at c;split at c
 .
  rename_i C u O d;split at c
  .rename_i p v q hy;obtain ⟨J,c⟩:=dB c;rw [bn,bn] at J;obtain ⟨⟨L,T⟩,W⟩:=J;obtain ⟨i,A⟩:=Option.isSome_iff_exists.1 W;rw [A] at L;have S:v.cells.size=i.size:=by simpa using L
   obtain ⟨w',h,e⟩:=KX (P:=P) T c;intro y;unfold Oper.wp;have:(execOp a.eval o).run P w=.ok .skip w':=by simp [execOp,d,Instr.storeAt,j.val q,j.val hy,Instr.sureAddr,storeVar,sizeOf,typeInfo,A,S,h]
   rw [this];simp only [Oper.upon];exact ⟨_,rfl,e⟩
  .exact c.elim
 .
  rename_i C m aa v d;split at c
  .rename_i mv kv vv F e G;obtain ⟨w',h,D⟩:=c;intro y;unfold Oper.wp;have:(execOp a.eval o).run P w=.ok .skip w':=by simp [execOp,d,j.val F,j.val e,j.val G,h]
   rw [this];simp only [Oper.upon];exact ⟨_,rfl,D⟩
  .exact c.elim
 .
  rename_i C m aa v d;split at c
  .rename_i mv kv vv F e G;obtain ⟨w',h,D⟩:=c;intro y;unfold Oper.wp;have:(execOp a.eval o).run P w=.ok .skip w':=by simp [execOp,d,j.val F,j.val e,j.val G,h]
   rw [this];simp only [Oper.upon];exact ⟨_,rfl,D⟩
  .exact c.elim
 .
  rename_i b args N d;obtain ⟨z,c⟩:=dB c;have k:args.map a.eval=args.map E.ev:=j.args λu q=>f'.1 z u (by rw [d];simp [Op.operands,Call.operands,q]);split at c
  .exact qW (by simp [execOp,d,resolve,invoke,builtin,k]) c
  .exact qW (by simp [execOp,d,resolve,invoke,builtin,k]) c
  .exact qW (by simp [execOp,d,resolve,invoke,builtin,k]) c
  .exact qW (by simp [execOp,d,resolve,invoke,builtin,k]) c
  .obtain ⟨w',h,e⟩:=c;intro y;unfold Oper.wp;have:(execOp a.eval o).run P w=.ok (.value undef) w':=by simp [execOp,d,resolve,invoke,builtin,k,h]
   rw [this];simp only [Oper.upon];exact ⟨_,rfl,e⟩
  .obtain ⟨w',h,e⟩:=c;intro y;unfold Oper.wp;have:(execOp a.eval o).run P w=.ok (.value (.tuple #[])) w':=by simp [execOp,d,resolve,invoke,builtin,k,h]
   rw [this];simp only [Oper.upon];exact ⟨_,rfl,e⟩
  .exact c.elim
 .
  rename_i f args N d;obtain ⟨z,c⟩:=dB c;have k:args.map a.eval=args.map E.ev:=j.args λu q=>f'.1 z u (by rw [d];simp [Op.operands,Call.operands,q]);cases B:gF P f with
  |true=>
   rw [B] at c;refine FT ?_ c;simp [execOp,d,resolve,Act.eval,Deferred.ofValue,invoke,k,sO B]
  |false=>
   rw [B,cond_false] at c;unfold wz at c;obtain ⟨v,w',h,e⟩:=pk c;intro y;unfold Oper.wp;have:(execOp a.eval o).run P w=.ok (.value v) w':=by simp [execOp,d,resolve,Act.eval,Deferred.ofValue,invoke,k,h]
   rw [this];simp only [Oper.upon];exact ⟨_,rfl,e⟩
 .
  rename_i t args N d;obtain ⟨z,c⟩:=dB c;have k:args.map a.eval=args.map E.ev:=j.args λu q=>f'.1 z u (by rw [d];simp [Op.operands,Call.operands,q]);split at c
  .rename_i f first captured Y
   obtain ⟨B,c⟩:=dB c;have Z:a.eval (.tmp t)=.func (.func f) first captured:=j.val (x:=.tmp t) Y
   refine FT ?_ c;simp [execOp,d,resolve,Z,Deferred.ofValue,invoke,k,sO B]
  .exact c.elim
 .
  rename_i C l H d;split at c
  .rename_i lv cv hl z;exact qW (by simp [execOp,d,j.val hl,j.val z]) c
  .exact c.elim
 .
  rename_i C u d;split at c
  .rename_i xv q;obtain ⟨v,w',h,e⟩:=c;intro y;unfold Oper.wp;have:(execOp a.eval o).run P w=.ok (.value v) w':=by simp [execOp,d,j.val q,h]
   rw [this];simp only [Oper.upon];exact ⟨_,rfl,e⟩
  .exact c.elim
 .
  rename_i it s d;split at c
  .rename_i M A;have fin:∀(v:ae) (w':I),(Instr.next M s o.type).run P w=.ok v w'->K v w'->h0 P o a w K:=λv w' h e y=>by
    unfold Oper.wp;have:(execOp a.eval o).run P w=.ok (.value v) w':=by simp [execOp,d,j.val A,h]
    rw [this];simp only [Oper.upon];exact ⟨_,rfl,e⟩
   rcases c with ⟨w',h,e⟩|c
   .exact fin _ _ h e
   .split at c
    .obtain ⟨i,H,w',h,e⟩:=c;exact fin _ _ h e
    .obtain ⟨i,H,w',h,e⟩:=c;exact fin _ _ h e
  .exact c.elim
 .
  rename_i it d;split at c
  .rename_i M A;obtain ⟨u,O,w',h,e⟩:=c;intro y;unfold Oper.wp;have:(execOp a.eval o).run P w=.ok (.value (.tuple #[u,O])) w':=by simp [execOp,d,j.val A,h]
   rw [this];simp only [Oper.upon];exact ⟨_,rfl,e⟩
  .exact c.elim
 .
  rename_i s ab u d;split at c
  .rename_i v q;exact qW (by simp [execOp,d,j.val q]) c
  .exact c.elim
 .
  obtain ⟨z,c⟩:=dB c;intro y;unfold Oper.wp;rw [j.execOp hs z];generalize (execOp E.ev o).run P w=r at c;split at c
  .simp only [Oper.upon];exact ⟨_,rfl,c⟩
  .simp only [Oper.upon];exact ⟨_,rfl,c⟩
  .exact c.elim
def vq (P:aM) (n:Cx) (o:Oper) (a:Act) (w:I) (K:ae->I->Prop):Prop:=
 ∀c:Exit->Act->I->Prop,o.wpIn (FW n) 0 P a w (λd e=>∃v,d=a.put o.dst v/\K v e) c
def FU {n:Cx} {P:aM} {f:bJ} {args:Array ae} {w:I} {R:dA->I->Prop} (d:ai P f args w R):CallsIn (FW n) 0 P f args w R:=by
 have c:CallsIn Fence.wide 0 P f args w R:=callsIn_wide.2 d;obtain ⟨n,h,e⟩:=n;cases e with
 |none=>exact c
 |some l=>exact c
def TG {n:Cx} {P:aM} {row:String} {args:Array ae} {w:I} {R:ae->I->Prop} (e:Rows P row args w R):RowsIn (FW n) 0 P row args w R:=by
 intro c d _;obtain ⟨v,q,h,j⟩:=e c d;refine ⟨v,q,h,?_⟩;have:=stepsIn_wide.2 j;obtain ⟨n,u,k⟩:=n;cases k with
 |none=>exact this
 |some l=>exact this
def Tx {n:Cx} {P:aM} {l:Nat} {f:bJ} {tmps:Array ae} {assign body:Code} {w:I} {R:dA->I->Prop} (c:RoundIn Fence.wide 0 P l f tmps assign body w R):RoundIn (FW n) 0 P l f tmps assign body w R:=by
 obtain ⟨n,e,d⟩:=n;cases d with
 |none=>exact c
 |some l=>exact c
def Mx {P:aM} {n:Cx} {o:Oper} {a:Act} {w:I} {K:Act->I->Prop} {Q:Exit->Act->I->Prop} (e:∀d,o.op≠.defer d) (c:o.wp P a w K Q):o.wpIn (FW n) 0 P a w K Q:=by
 refine ⟨λ_ _=>trivial,?_⟩;rw [Oper.semAt_eq _ _ _ e];unfold Oper.wp at c;generalize (execOp a.eval o).run P w=r at *;cases r with
 |ok nx h=>
  cases nx<;>simp only [Oper.upon,Oper.uponIn] at c ⊢
  case value=>exact c
  case skip=>exact c
  case defer=>exact c
  case enter f args=>exact ⟨λc=>(by cases c),FU c⟩
  case row row args=>exact ⟨λc=>(by cases c),TG c⟩
 |halt j h=>
  cases j<;>simp only [Oper.upon,Oper.uponIn] at c ⊢;exact c
def h0.in {P:aM} {n:Cx} {o:Oper} {a:Act} {w:I} {K:ae->I->Prop} (h:∀d,o.op≠.defer d) (e:h0 P o a w K):vq P n o a w K:=λc=>Mx h (e c)
def Gr {P:aM} {o:Oper} {E:Env} {w:I} {n:Cx} {a:Act} {K:ae->I->Prop} (q:∀e b,o.op≠.select e b) (h:∀u,o.op≠.defer u)
  (d:Ag n a E) (c:qY P o E w K):vq P n o a w K:=by
 unfold qY at c;split at c
 .rename_i t args W k;split at c
  .rename_i l A e H;obtain ⟨j,O⟩:=dB c;clear c;simp only [bn,ek] at j;obtain ⟨G,B,C⟩:=j;have y:A=#[]:=Array.eq_empty_of_size_eq_zero B;have z:e=#[]:=Array.eq_empty_of_size_eq_zero C;subst y z;have F:args.map a.eval=args.map E.ev:=d.args λQ M=>f'.1 G Q (by rw [k];simp [Op.operands,Call.operands,M]);have J:a.eval (.tmp t)=.func (.yield l) #[] #[]:=d.val (x:=.tmp t) H;intro S;obtain ⟨fn,tmps,assign,body,N,D⟩:=O;refine ⟨λ_ _=>trivial,?_⟩;rw [Oper.semAt_eq _ _ _ h];have:(execOp a.eval o).run P w=.ok (.round l fn tmps assign body) w:=by simp [execOp,k,resolve,J,Deferred.ofValue,invoke,F,N]
   rw [this,Oper.uponIn_round];refine ⟨λc=>(by cases c),Tx (D.mono ?_)⟩;rintro T Y ⟨b,rfl,L⟩;exact ⟨_,rfl,L⟩
  .exact (l0 q d c).in h
 .exact (l0 q d c).in h
def ur (ops:Array Oper) (i j:Nat):Bool:=match ops[j]? with |some o=>o.after.toList.any λc=>cm c.on i&&Region.binds .any c|none=>false
def x' (ops:Array Oper):Nat->Nat->Nat->Bool
 |0,i,c=>ur ops i c
 |f+1,i,c=>bif ur ops i c then true else match ops[c]? with |some o=>o.after.toList.any λd=>bif Region.binds .any d then x' ops f i d.on else false|none=>false
def hQ (ops:Array Oper) (i j:Nat):Bool:=x' ops 4 i j
def Down (ops:Array Oper) (d:Array Bool):Prop:=∀(k:Nat) (o:Oper),ops[k]? =some o->d.getD k false=true->∀c∈o.after,Region.binds .any c=true->d.getD c.on false=true
def Down.zero (ops:Array Oper) (n:Nat):Down ops (fy n false):=λe o _ d=>by
 exfalso;by_cases c:e<n
 .simp [c] at d
 .simp [c] at d
def Down.set {ops:Array Oper} {d:Array Bool} (w:Down ops d) {i:Nat} (hi:i∈en .any ops d):Down ops (d.setIfInBounds i true):=λq o c k e j h=>by
 obtain ⟨_,y,x,u⟩:=mem_ready.1 hi;by_cases n:i=q
 .subst n;rw [x] at c;cases c;exact getD_set_true (u e j h)
 .rw [getD_set_ne false n] at k;exact getD_set_true (w q o c k e j h)
def IZ {ops:Array Oper} {k:Array Bool} {i j:Nat} (n:∀o,ops[j]? =some o->∀c∈o.after,Region.binds .any c=true->k.getD c.on false=true) (d:ur ops i j=true):k.getD i false=true:=by
 unfold ur at d;cases h:ops[j]? with
 |none=>rw [h] at d;cases d
 |some o=>
  rw [h] at d;obtain ⟨c,q,e⟩:=List.any_eq_true.1 d;rw [bn] at e;have u:c.on=i:=by have:=e.1;rwa [ek] at this
  have:=n o h c (by simpa using q) e.2
  rwa [u] at this
def I0 {ops:Array Oper} {q:Array Bool} (u:Down ops q) {i:Nat}:∀(f j:Nat),(∀o,ops[j]? =some o->∀d∈o.after,Region.binds .any d=true->q.getD d.on false=true)->x' ops f i j=true->q.getD i false=true
 |0,j,e,c=>IZ e c
 |f+1,j,e,c=>by
  unfold x' at c;cases w:ur ops i j with
  |true=>exact IZ e w
  |false=>
   rw [w] at c;cases n:ops[j]? with
   |none=>rw [n] at c;cases c
   |some o=>
    rw [n] at c;obtain ⟨d,z,h⟩:=List.any_eq_true.1 c;cases k:Region.binds .any d with
    |false=>rw [k] at h;cases h
    |true=>
     rw [k] at h;have B:=e o n d (by simpa using z) k;exact I0 u f d.on (λD C x A y=>u d.on D C B x A y) h
abbrev ea:=List (Nat×(I->Prop))
def heldBy (ops:Array Oper) (j:Nat) (w:I):ea->List Prop
 |[]=>[]
 |(i,d)::c=>bif hQ ops i j then heldBy ops j w c else d w::heldBy ops j w c
def cV (ops:Array Oper) (j:Nat):ea->ea
 |[]=>[]
 |(i,d)::c=>bif hQ ops i j then cV ops j c else (i,d)::cV ops j c
def AV {ops:Array Oper} {j:Nat} {w:I}:∀{H:ea} {p:Nat×(I->Prop)},p∈H->hQ ops p.1 j=false->p.2 w∈heldBy ops j w H
 |(i,e)::H,p,c,d=>by
  unfold heldBy;rcases aB.1 c with rfl|c
  .simp only at d;rw [d];exact List.mem_cons_self
  .have:=AV (H:=H) (w:=w) c d;cases hQ ops i j
   .exact ec _ this
   .exact this
def fe {ops:Array Oper} {j:Nat}:∀{H:ea} {p:Nat×(I->Prop)},p∈cV ops j H↔p∈H/\hQ ops p.1 j=false
 |[],p=>by simp [cV]
 |(i,h)::H,p=>by
  unfold cV;cases e:hQ ops i j with
  |true=>
   simp only [cond_true];rw [fe];constructor
   .rintro ⟨d,c⟩;exact ⟨ec _ d,c⟩
   .rintro ⟨d,c⟩;rcases aB.1 d with rfl|d
    .simp only at c;rw [e] at c;cases c
    .exact ⟨d,c⟩
  |false=>
   simp only [cond_false,aB];rw [fe];constructor
   .rintro (rfl|⟨d,c⟩)
    .exact ⟨.inl rfl,e⟩
    .exact ⟨.inr d,c⟩
   .rintro ⟨rfl|d,c⟩
    .exact .inl rfl
    .exact .inr ⟨d,c⟩
section
variable {P:aM} {ops:Array Oper} {Q:Exit->Act->I->Prop}
def d' (P:aM) (ops:Array Oper) (Q:Exit->Act->I->Prop):Nat->ea->Array Bool->Act->I->Prop
 |0,_,c,a,d=>Down ops c->en .any ops c=[]/\Q .normal a d
 |fuel+1,e,c,a,d=>Down ops c->
  (en .any ops c=[]->Q .normal a d)/\
  ∀i∈en .any ops c,wpOp P ops Q i (λj h=>(∀p∈cV ops i e,p.2 h)/\d' P ops Q fuel (cV ops i e) (c.setIfInBounds i true) j h) a d
def y1:∀(fuel:Nat) (H:ea) (e:Array Bool) (a:Act) (w:I),Down ops e->d' P ops Q fuel H e a w->wpAny P .any ops Q fuel e a w
 |0,_,_,_,_,c,d=>d c
 |fuel+1,_,_,_,_,c,d=>⟨(d c).1,λi h=>wpOp_mono (λj n k=>y1 fuel _ _ j n (c.set h) k.2) ((d c).2 i h)⟩
def Et:∀(fuel:Nat) (H c:ea) (h:Array Bool) (a:Act) (w:I),(∀p∈c,p∈H)->d' P ops Q fuel H h a w->d' P ops Q fuel c h a w
 |0,_,_,_,_,_,_,d=>d
 |fuel+1,H,c,h,a,w,x,d=>λk=>⟨(d k).1,λi u=>wpOp_mono (λq y j=>by have n:∀p∈cV ops i c,p∈cV ops i H:=λp e=>fe.2 ⟨x p (fe.1 e).1,(fe.1 e).2⟩;exact ⟨λp e=>j.1 p (n p e),Et fuel _ _ _ q y n j.2⟩) ((d k).2 i u)⟩
def R4 {i j:Nat} {c:Array Bool} (q:Down ops c) (hi:c.getD i true=false) (w:j∈en .any ops c):hQ ops i j=false:=by
 obtain ⟨_,z,y,k⟩:=mem_ready.1 w;cases x:hQ ops i j with
 |false=>rfl
 |true=>
  have this:=I0 q 4 j (λo e h u n=>by rw [y] at e;cases e;exact k h u n) x;rcases Nat.lt_or_ge i c.size with d|d
  .simp [d] at hi this;rw [hi] at this;cases this
  .simp [Array.getElem?_eq_none d] at this
def Es {i:Nat} {u:Oper} {v:ae} {Ss:List (I->Prop)} (hi:ops[i]? =some u) (ab:∀(j:Nat) (o:Oper) A b,ops[j]? =some o->o.op≠.select A b)
  (ad:∀N a w,Q (.panic N) (a.put u.dst v) w->Q (.panic N) a w):
  ∀(fuel:Nat) (H:ea) (k:Array Bool) (a:Act) (w:I),
   (∀j x,ops[j]? =some x->j≠i->k.getD j true=false->(∀e∈x.after,Region.binds .any e=true->e.on≠i)->u.apart ops x=true)->
   i∈en .any ops k->YieldsIf P ops (λw=>∀d∈Ss,d w) u v a->(∀d∈Ss,d w)->(∀p∈H,p.2 w)->
   d' P ops Q fuel (Ss.map (λd=>(i,d))++H) (k.setIfInBounds i true) (a.put u.dst v) w->d' P ops Q (fuel+1) H k a w:=by
 intro fuel;induction fuel with
 |zero=>
  intro H k a w _ h D K J z C;refine ⟨λE=>(by rw [E] at h;cases h),λj B=>?_⟩;by_cases n:j=i
  .subst n;exact D.wpOp hi K ⟨λp c=>J p (fe.1 c).1,z⟩
  .have:=ready_mono B n;rw [(z (C.set h)).1] at this;cases this
 |succ fuel ih=>
  intro H k a w T h D K J z C;refine ⟨λE=>(by rw [E] at h;cases h),λj B=>?_⟩;by_cases n:j=i
  .subst n;refine D.wpOp hi K ⟨λp c=>J p (fe.1 c).1,?_⟩;exact Et _ _ _ _ _ _ (λp c=>eP _ (fe.1 c).1) z
  .have q:=(z (C.set h)).2 j (ready_mono B n);obtain ⟨Z,x,L,ag⟩:=mem_ready.1 B;have G:=(mem_ready.1 h).1;have al:∀e∈x.after,Region.binds .any e=true->e.on≠i:=λe he hb ah=>by
    have q:=ag e he hb;rw [ah] at q;rcases Nat.lt_or_ge i k.size with F|F
    .simp [F] at G q;rw [G] at q;cases q
    .simp [Array.getElem?_eq_none F] at q
   have aa:hQ ops i j=false:=R4 C G B;have h2:=wpOp_putIf L (T j x L n Z al) (λA b=>ab i u A b hi) (λA b=>ab j x A b L) ad D q;have ai:∀y ok,ops[y]? =some ok->y≠i->(k.setIfInBounds j true).getD y true=false->
     (∀e∈ok.after,Region.binds .any e=true->e.on≠i)->u.apart ops ok=true:=λy ok hk aj ac ak=>by
    refine T y ok hk aj ?_ ak;by_cases Y:j=y
    .subst Y;exact Z
    .rw [getD_set_ne true Y] at ac;exact ac
   refine wpOp_mono (λa' M h3=>?_) h2;obtain ⟨an,W,am⟩:=h3;have O:∀p∈cV ops j H,p.2 M:=λp c=>W p (fe.2 ⟨eP _ (fe.1 c).1,(fe.1 c).2⟩);have af:∀d∈Ss,d M:=λd S=>W (i,d) (fe.2 ⟨List.mem_append_left _ (cQ.2 ⟨d,S,rfl⟩),aa⟩);refine ⟨O,ih (cV ops j H) (k.setIfInBounds j true) a' M ai (ready_mono h (Ne.symm n)) an af O ?_⟩;rw [Array.setIfInBounds_comm _ _ n];refine Et _ _ _ _ _ _ (λp c=>?_) am;rcases a5.1 c with c|c
   .obtain ⟨d,S,rfl⟩:=cQ.1 c;exact fe.2 ⟨List.mem_append_left _ c,aa⟩
   .exact fe.2 ⟨eP _ (fe.1 c).1,(fe.1 c).2⟩
end
def jd (ops:Array Oper) (j:Nat):Option Nat:=(ops[j]?).bind (·.dst)
def nC (P:aM) (ops:Array Oper) (draw:Bool) (i:Nat) (o:Oper) (E:Env) (w:I) (H:ea) (K:Env->I->ea->Prop):Prop:=
 bif calm P o then lY P o E w λv e=>K (E.put o.dst v) w (bif draw then e.map (λd=>(i,d))++H else H)
 else (bif draw then gH else qY) P o E w λv c=>qK (heldBy ops i c H) (K (E.put o.dst v) c (cV ops i H))
def kG (P:aM) (ops:Array Oper) (draw:Bool) (i:Nat) (o:Oper) (d:Nat) (want t:Bool) (E:Env) (w:I) (H:ea) (K:Env->I->ea->Prop):Prop:=
 bif (t==want) then nC P ops draw i o ((d,.bool t)::E) w H K else K (Env.put ((d,.bool t)::E) o.dst undef) w (bif calm P o then H else cV ops i H)
def gO (P:aM) (ops:Array Oper) (draw:Bool) (K:Env->I->Prop):List Nat->Env->I->ea->Prop
 |[],c,d,_=>K c d
 |i::l,c,d,h=>
  match ops[i]? with
  |none=>False
  |some o=>match o.guard with
   |none=>nC P ops draw i o c d h λe k j=>gO P ops draw K l e k j
   |some (q,want)=>match jd ops q with
    |none=>False
    |some n=>match c.get? n with
     |some (.bool t)=>Y t (kG P ops draw i o n want true c d h λe k j=>gO P ops draw K l e k j) (kG P ops draw i o n want false c d h λe k j=>gO P ops draw K l e k j)
     |some (.tuple _)=>gO P ops draw K l (Env.put c o.dst undef) d (bif calm P o then h else cV ops i h)
     |_=>False
def pK (P:aM) (ops:Array Oper):List Nat->Array Bool->Bool
 |[],c=>(en .any ops c).isEmpty
 |i::l,c=>(match ops[i]? with
   |some o=>bif calm P o then Region.free .any ops c i&&(en .any ops c).contains i else en .any ops c==[i]
   |none=>false)&&pK P ops l (c.setIfInBounds i true)
def IE (o:Oper):Bool:=match o.op with |.defer _=>false|_=>true
def dz (n:Nat) (ops:Array Oper):Bool:=Region.noSelect ops&&ops.toList.all λo=>IE o&&match o.dst with |some c=>Nat.blt c n|none=>true
def gu {n:Nat} {ops:Array Oper} (c:dz n ops=true) {i:Nat} {o:Oper} (d:ops[i]? =some o):∀t,o.dst=some t->t<n:=by intro t e;unfold dz at c;rw [bn] at c;have:=f'.1 c.2 o (by simpa using Array.mem_of_getElem? d);rw [e,bn] at this;simpa using this.2
def rL {n:Nat} {ops:Array Oper} (c:dz n ops=true) {i:Nat} {o:Oper} (h:ops[i]? =some o):∀d,o.op≠.defer d:=by intro d e;unfold dz at c;rw [bn] at c;have:=f'.1 c.2 o (by simpa using Array.mem_of_getElem? h);rw [bn] at this;have:=this.1;unfold IE at this;rw [e] at this;cases this
def gX (n:Cx) (K:Env->I->Prop):Exit->Act->I->Prop
 |.normal,a,d=>∃c,Ag n a c/\K c d
 |_,_,_=>False
def qm {n:Cx} {a:Act} {E:Env} (e:Ag n a E) {ops:Array Oper} {j d:Nat} {t:Bool} (c:jd ops j=some d) (h:E.get? d=some (.bool t)):yielded ops a.tmps j=some t:=by unfold yielded;unfold jd at c;rw [c];simp [e.get _ _ h]
def qn {n:Cx} {a:Act} {E:Env} (e:Ag n a E) {ops:Array Oper} {j d:Nat} {vs:Array ae} (c:jd ops j=some d) (h:E.get? d=some (.tuple vs)):yielded ops a.tmps j=none:=by unfold yielded;unfold jd at c;rw [c];simp [e.get _ _ h]
def Ag.same {n:Cx} {a:Act} {E:Env} (c:Ag n a E) {d:Nat} {v:ae} (e:E.get? d=some v):Ag n a ((d,v)::E):=c.cons e c
section
variable {P:aM} {ops:Array Oper} {n:Cx} {K:Env->I->Prop}
def vn {i:Nat} {o:Oper} {a:Act} {w:I} {Kv:ae->I->Prop} {K':Act->I->Prop} {Q:Exit->Act->I->Prop} (h:ops[i]? =some o)
  (k:cX o (yielded ops a.tmps)=true) (d:h0 P o a w Kv) (e:∀v c,Kv v c->K' (a.put o.dst v) c):wpOp P ops Q i K' a w:=by unfold wpOp;simp only [h,k,if_true];exact .inl (Oper.wp_mono (λn c=>by rintro ⟨v,rfl,j⟩;exact e v c j) (d Q))
def yB {i:Nat} {o:Oper} {a:Act} {E:Env} {w:I} {H:ea} {Kh:Env->I->ea->Prop} {j:Array Bool} {fuel:Nat} {Q:Exit->Act->I->Prop}
  (q:dz n ops=true) (h:ops[i]? =some o) (c:(bif calm P o then Region.free .any ops j i&&(en .any ops j).contains i else en .any ops j==[i])=true)
  (Z:∀T a w,Q (.panic T) a w=False) (u:Ag n a E) (D:∀p∈H,p.2 w) (M:cX o (yielded ops a.tmps)=true)
  (e:nC P ops true i o E w H Kh)
  (next:∀B A k x,Ag n B A->(∀p∈x,p.2 k)->Kh A k x->d' P ops Q fuel x (j.setIfInBounds i true) B k):d' P ops Q (fuel+1) H j a w:=by
 have z:=Region.noSelect_spec (ops:=ops) (by unfold dz at q;rw [bn] at q;exact q.1);unfold nC at e;cases G:calm P o with
 |true=>
  rw [G] at e c;simp only [cond_true] at e c;rw [bn] at c;obtain ⟨v,S,hk,L,ab⟩:=v9 (λy b=>z i o y b h) u e;refine Es (v:=v) (Ss:=S) h z (by simp [Z]) fuel H j a w (Region.free_spec h c.1) (by simpa using c.2) (.inl ⟨M,λk ac=>ab k ac⟩) L D ?_;refine next _ _ _ _ (u.put v (gu q h)) ?_ hk
  intro p d;rcases a5.1 d with d|d
  .obtain ⟨O,aa,rfl⟩:=cQ.1 d;exact L O aa
  .exact D p d
 |false=>
  rw [G] at e c;simp only [cond_false,cond_true] at e c;have K:en .any ops j=[i]:=by simpa using c
  refine λ_=>⟨λC=>(by rw [K] at C;cases C),λN J=>?_⟩;rw [K] at J;obtain rfl:=fJ.1 J;refine vn h M (l0 (λy b=>z N o y b h) u e) λv k hv=>?_;obtain ⟨W,Y⟩:=qL hv;have F:∀p∈cV ops N H,p.2 k:=λp d=>W _ (AV (fe.1 d).1 (fe.1 d).2);exact ⟨F,next _ _ _ _ (u.put v (gu q h)) F Y⟩
def uS {i:Nat} {o:Oper} {a:Act} {w:I} {H:ea} {d:Array Bool} {fuel:Nat} {Q:Exit->Act->I->Prop}
  (e:dz n ops=true) (h:ops[i]? =some o) (c:(bif calm P o then Region.free .any ops d i&&(en .any ops d).contains i else en .any ops d==[i])=true)
  (A:∀z a w,Q (.panic z) a w=False) (k:∀p∈H,p.2 w) (y:cX o (yielded ops a.tmps)=false)
  (next:d' P ops Q fuel (bif calm P o then H else cV ops i H) (d.setIfInBounds i true) (a.put o.dst undef) w):d' P ops Q (fuel+1) H d a w:=by
 have D:=Region.noSelect_spec (ops:=ops) (by unfold dz at e;rw [bn] at e;exact e.1);cases q:calm P o with
 |true=>
  rw [q] at c next
  simp only [cond_true] at c next
  rw [bn] at c;exact Es (v:=undef) (Ss:=[]) h D (by simp [A]) fuel H d a w (Region.free_spec h c.1) (by simpa using c.2) (.inr ⟨y,rfl⟩) (λE B=>(by cases B)) k (by simpa using next)
 |false=>
  rw [q] at c next
  simp only [cond_false] at c next
  have x:en .any ops d=[i]:=by simpa using c
  refine λ_=>⟨λj=>(by rw [x] at j;cases j),λF u=>?_⟩;rw [x] at u;obtain rfl:=fJ.1 u;unfold wpOp;simp only [h,y];exact ⟨λp C=>k p (fe.1 C).1,next⟩
def Ks (u:dz n ops=true):∀(l:List Nat) (D:Array Bool) (E:Env) (w:I) (H:ea) (a:Act),pK P ops l D=true->Ag n a E->(∀p∈H,p.2 w)->
  gO P ops true K l E w H->d' P ops (gX n K) l.length H D a w
 |[],D,E,w,H,a,d,j,_,c=>λ_=>⟨by simpa [pK] using d,E,j,c⟩
 |i::l,D,E,w,H,a,d,j,h,c=>by
  unfold pK at d;rw [bn] at d;obtain ⟨d,S⟩:=d;unfold gO at c;cases k:ops[i]? with
  |none=>rw [k] at c;exact c.elim
  |some o=>
   rw [k] at c d;simp only at c d;have next:∀F y x q,Ag n F y->(∀p∈q,p.2 x)->gO P ops true K l y x q->d' P ops (gX n K) l.length q (D.setIfInBounds i true) F x:=
    λF y x q N O Q=>Ks u l _ y x q F S N O Q
   cases z:o.guard with
   |none=>
    rw [z] at c;simp only at c;exact yB u k d (λ_ _ _=>rfl) j h (by simp [cX,z]) c next
   |some W=>
    obtain ⟨T,want⟩:=W;rw [z] at c;simp only at c;cases J:jd ops T with
    |none=>rw [J] at c;exact c.elim
    |some M=>
     rw [J] at c;simp only at c;split at c
     .rename_i t C;have L:=qm j J C;have A:kG P ops true i o M want t E w H λy x q=>gO P ops true K l y x q:=by
       cases t
       .exact c
       .exact c
      unfold kG at A;cases G:(t==want) with
      |true=>
       rw [G] at A;exact yB u k d (λ_ _ _=>rfl) (j.same C) h (by simp [cX,z,L];simpa using G) A next
      |false=>
       rw [G] at A;simp only [cond_false] at A;refine uS u k d (λ_ _ _=>rfl) h (by simp [cX,z,L];simpa using G) ?_;refine next _ _ _ _ ((j.same C).put undef (gu u k)) ?_ A
       intro p e;cases B:calm P o
       .rw [B] at e;exact h p (fe.1 e).1
       .rw [B] at e;exact h p e
     .rename_i Y C;have L:=qn j J C;refine uS u k d (λ_ _ _=>rfl) h (by simp [cX,z,L]) ?_;refine next _ _ _ _ (j.put undef (gu u k)) ?_ c
      intro p e;cases B:calm P o
      .rw [B] at e;exact h p (fe.1 e).1
      .rw [B] at e;exact h p e
     .exact c.elim
def y2 {i:Nat} {o:Oper} {a:Act} {w:I} {Kv:ae->I->Prop} {K':Act->I->Prop} {Q:Exit->Act->I->Prop} (h:ops[i]? =some o)
  (k:cX o (yielded ops a.tmps)=true) (d:vq P n o a w Kv) (e:∀v c,Kv v c->K' (a.put o.dst v) c):wpOpIn (FW n) 0 P ops Q i K' a w:=by unfold wpOpIn;simp only [h,k,if_true];exact Oper.wpIn_mono (λq c=>by rintro ⟨v,rfl,j⟩;exact e v c j) (d Q)
def K3 {i:Nat} {o:Oper} {a:Act} {E:Env} {w:I} {Kh:Env->I->ea->Prop} {rest:List Nat} {Q:Exit->Act->I->Prop}
  (e:dz n ops=true) (c:ops[i]? =some o) (j:Ag n a E) (z:cX o (yielded ops a.tmps)=true) (d:nC P ops false i o E w [] Kh)
  (next:∀u q h,Ag n u q->Kh q h []->wpOpsIn (FW n) 0 P ops Q rest u h):wpOpsIn (FW n) 0 P ops Q (i::rest) a w:=by
 have y:=Region.noSelect_spec (ops:=ops) (by unfold dz at e;rw [bn] at e;exact e.1);rw [wpOpsIn_cons];unfold nC at d;cases x:calm P o with
 |true=>
  rw [x] at d;simp only [cond_true,cond_false] at d;obtain ⟨v,H,B,C,D⟩:=v9 (λk b=>y i o k b c) j d;refine y2 (Kv:=λA h=>A=v/\h=w) c z ?_ ?_
  .refine h0.in (rL e c) λG=>?_;unfold Oper.wp;rw [D w C];exact ⟨v,rfl,rfl,rfl⟩
  .rintro A h ⟨rfl,rfl⟩;exact next _ _ _ (j.put _ (gu e c)) B
 |false=>
  rw [x] at d;simp only [cond_false,heldBy,qK,cV] at d;exact y2 c z (Gr (λk b=>y i o k b c) (rL e c) j d) λv h F=>next _ _ _ (j.put v (gu e c)) F
def Kt (x:dz n ops=true):∀(l:List Nat) (E:Env) (w:I) (a:Act),Ag n a E->gO P ops false K l E w []->wpOpsIn (FW n) 0 P ops (gX n K) l a w
 |[],E,w,a,h,c=>⟨E,h,c⟩
 |i::l,E,w,a,h,c=>by
  unfold gO at c;cases j:ops[i]? with
  |none=>rw [j] at c;exact c.elim
  |some o=>
   rw [j] at c;simp only at c;have next:∀z d e,Ag n z d->gO P ops false K l d e []->wpOpsIn (FW n) 0 P ops (gX n K) l z e:=λz d e H J=>Kt x l d e z H J
   cases q:o.guard with
   |none=>
    rw [q] at c;simp only at c;exact K3 (Kh:=λd e u=>gO P ops false K l d e u) x j h (by simp [cX,q]) c next
   |some M=>
    obtain ⟨L,want⟩:=M;rw [q] at c;simp only at c;cases B:jd ops L with
    |none=>rw [B] at c;exact c.elim
    |some G=>
     rw [B] at c;simp only at c;split at c
     .rename_i t y;have C:=qm h B y;have k:kG P ops false i o G want t E w [] λd e u=>gO P ops false K l d e u:=by
       cases t
       .exact c
       .exact c
      unfold kG at k;cases A:(t==want) with
      |true=>
       rw [A] at k;exact K3 (Kh:=λd e u=>gO P ops false K l d e u) x j (h.same y) (by simp [cX,q,C];simpa using A) k next
      |false=>
       rw [A] at k;simp only [cond_false] at k;have D:(bif calm P o then ([]:ea) else cV ops i [])=[]:=by cases calm P o<;>rfl
       rw [D] at k;rw [wpOpsIn_cons];unfold wpOpIn;have F:cX o (yielded ops a.tmps)=false:=by simp [cX,q,C];simpa using A
       simp only [j,F];exact ⟨λ_ _=>trivial,next _ _ _ ((h.same y).put undef (gu x j)) k⟩
     .rename_i N y;have C:=qn h B y;have D:(bif calm P o then ([]:ea) else cV ops i [])=[]:=by cases calm P o<;>rfl
      rw [D] at c;rw [wpOpsIn_cons];unfold wpOpIn;have F:cX o (yielded ops a.tmps)=false:=by simp [cX,q,C]
      simp only [j,F];exact ⟨λ_ _=>trivial,next _ _ _ (h.put undef (gu x j)) c⟩
     .exact c.elim
def Vo {c:Code} {id:Nat} {a:Act} {E:Env} {w:I} (h:c=.region id ops false) (j:dz n ops=true) (e:Ag n a E)
  (d:gO P ops false K (List.range ops.size) E w []):c.wpIn (FW n) 0 P (gX n K) a w:=by subst h;exact wpIn_region (Kt j _ E w a e d)
def qk (e:dz n ops=true) {Q:Exit->Act->I->Prop} (d:¬LetsOut Q):∀(l:List Nat) (a:Act) (w:I),wpOps P ops Q l a w->wpOpsIn (FW n) 0 P ops Q l a w
 |[],a,w,c=>c
 |i::l,a,w,c=>by
  rw [wpOps_cons] at c;rw [wpOpsIn_cons];unfold wpOp at c;unfold wpOpIn;cases h:ops[i]? with
  |none=>rw [h] at c;exact qk e d l a w c
  |some o=>
   rw [h] at c;simp only at c ⊢;split
   .rename_i j;rw [aq j] at c;rcases c with c|c
    .exact Oper.wpIn_mono (λk u q=>qk e d l k u q) (Mx (rL e h) c)
    .exact absurd c.2 d
   .rename_i j;rw [af j] at c;exact ⟨λ_ _=>trivial,qk e d l _ w c⟩
def Vn {c:Code} {id:Nat} {a:Act} {E:Env} {w:I} {l:List Nat} (x:P.follows .mixedOrders=true) (q:c=.region id ops true) (h:dz n ops=true)
  (u:pK P ops l (fy ops.size false)=true) (z:l.length=ops.size) (k:Ag n a E) (d:gO P ops true K l E w.drew []):c.wpIn (FW n) 0 P (gX n K) a w:=by subst q;have e:=Ks h l _ E _ [] a u k (λp y=>(by cases y)) d;rw [z] at e;have j:=y1 _ [] _ _ _ (Down.zero _ _) e;refine wpIn_region_draw λt=>?_;refine qk h (λ⟨_,_,d⟩=>d) _ _ _ ?_;simp only [Region.schedule,x,Bool.true_or,if_true];exact wpAny_sound ops.size t _ a _ j
end
section
variable {P:aM} {n:Cx}
def Code.ops:Code->Array Oper
 |.region _ ops _=>ops
 |_=>#[]
def Code.fst:Code->Code
 |.seq a _=>a
 |.cond _ a _=>a
 |.block _ a=>a
 |.loop a=>a
 |.scope a=>a
 |c=>c
def Code.snd:Code->Code
 |.seq _ b=>b
 |.cond _ _ b=>b
 |c=>c
def Code.zv:Code->Code
 |.rangeFunc _ _ a _=>a
 |c=>c
def Code.zy:Code->Code
 |.rangeFunc _ _ _ b=>b
 |c=>c
abbrev e3 (P:aM) (n:Cx) (c:Code) (Q:Exit->Act->I->Prop) (a:Act) (w:I):Prop:=c.wpIn (FW n) 0 P Q a w
def WP (P:aM) (n:Cx) (c:Code) (Q:Exit->Act->I->Prop) (E:Env) (w:I):Prop:=∀a,Ag n a E->e3 P n c Q a w
def WP.region {c:Code} {Q:Exit->Act->I->Prop} {E:Env} {w:I} {ops:Array Oper} {id:Nat} (K:Env->I->Prop) (x:c=.region id ops false) (z:dz n ops=true)
  (q:gO P ops false K (List.range ops.size) E w []) (y:∀d h e,Ag n e d->K d h->Q .normal e h):WP P n c Q E w:=λa u=>
 wpIn_mono (Vo x z u q) λk e h j=>by
  cases k with
  |normal=>obtain ⟨d,hA,hK⟩:=j;exact y d h e hA hK
  |_=>exact j.elim
def WP.To {c:Code} {Q:Exit->Act->I->Prop} {E:Env} {w:I} {ops:Array Oper} {id:Nat} {l:List Nat} (K:Env->I->Prop) (A:P.follows .mixedOrders=true) (x:c=.region id ops true) (B:dz n ops=true)
  (z:pK P ops l (fy ops.size false)=true) (C:l.length=ops.size)
  (q:gO P ops true K l E w.drew []) (y:∀d h e,Ag n e d->K d h->Q .normal e h):WP P n c Q E w:=λa u=>
 wpIn_mono (Vn A x B z C u q) λk e h j=>by
  cases k with
  |normal=>obtain ⟨d,hA,hK⟩:=j;exact y d h e hA hK
  |_=>exact j.elim
def pP (n:Nat) (c:Code):Bool:=match c with |.region _ ops d=>!d&&dz n ops|_=>false
def JJ (P:aM) (n:Nat) (c:Code) (l:List Nat):Bool:=match c with
 |.region _ ops d=>d&&(P.follows .mixedOrders&&(dz n ops&&(pK P ops l (fy ops.size false)&&cm l.length ops.size)))
 |_=>false
def WP.gN {c:Code} {Q:Exit->Act->I->Prop} {E:Env} {w:I} (K:Env->I->Prop) (d:pP n c=true)
  (q:gO P (Code.ops c) false K (List.range (Code.ops c).size) E w []) (z:∀e j h,Ag n h e->K e j->Q .normal h j):WP P n c Q E w:=by
 unfold pP at d;split at d
 .rename_i id ops k;rw [bn] at d;obtain ⟨u,x⟩:=d;have y:k=false:=by simpa using u
  subst y;exact WP.region K rfl x q z
 .cases d
def WP.draw {c:Code} {Q:Exit->Act->I->Prop} {E:Env} {w:I} (l:List Nat) (K:Env->I->Prop) (d:JJ P n c l=true)
  (q:gO P (Code.ops c) true K l E w.drew []) (z:∀e k h,Ag n h e->K e k->Q .normal h k):WP P n c Q E w:=by
 unfold JJ at d;split at d
 .rename_i id ops A;simp only [bn] at d;obtain ⟨rfl,u,x,y,j⟩:=d;rw [ek] at j;exact WP.To K u rfl x y j q z
 .cases d
def WP.at {c:Code} {Q:Exit->Act->I->Prop} {E:Env} {w:I} {a:Act} (d:WP P n c Q E w) (e:Ag n a E):e3 P n c Q a w:=d a e
def WP.seq {c x y:Code} {Q:Exit->Act->I->Prop} {E:Env} {w:I} (h:c=.seq x y) (d:WP P n x (Exit.then (e3 P n y Q) Q) E w):WP P n c Q E w:=λa e=>by subst h;exact wpIn_seq (d a e)
def WP.cond {c x y:Code} {o:Operand} {Q:Exit->Act->I->Prop} {E:Env} {w:I} {t:Bool} (j:c=.cond o x y) (k:E.val o=some (.bool t)) (h:Y t (WP P n x Q E w) (WP P n y Q E w)):WP P n c Q E w:=λa d=>by
 subst j;refine wpIn_cond_split (d.val k) (λe=>?_) (λe=>?_)
 .subst e;exact h a d
 .subst e;exact h a d
def g1 (v:Option ae) (A B:Prop):Prop:=match v with |some (.bool t)=>Y t A B|_=>False
def WP.g1 {c x y:Code} {o:Operand} {Q:Exit->Act->I->Prop} {E:Env} {w:I} {A B:Prop} (j:c=.cond o x y) (e:A->WP P n x Q E w) (h:B->WP P n y Q E w) (d:g1 (E.val o) A B):WP P n c Q E w:=by
 unfold W.g1 at d;split at d
 .rename_i t k;refine WP.cond j k ?_;cases t
  .exact h d
  .exact e d
 .exact d.elim
def WP.block {c x:Code} {id:Nat} {Q:Exit->Act->I->Prop} {E:Env} {w:I} (h:c=.block id x) (d:WP P n x (Exit.inBlock id Q) E w):WP P n c Q E w:=λa e=>by subst h;exact wpIn_block (d a e)
def WP.skip {c:Code} {Q:Exit->Act->I->Prop} {E:Env} {w:I} (h:c=.skip) (d:∀a,Ag n a E->Q .normal a w):WP P n c Q E w:=λa e=>by subst h;exact wpIn_skip (d a e)
def WP.exit {c:Code} {id:Nat} {Q:Exit->Act->I->Prop} {E:Env} {w:I} (h:c=.exit id) (d:∀a,Ag n a E->Q (.exit id) a w):WP P n c Q E w:=λa e=>by subst h;exact wpIn_exit (d a e)
def WP.ret {c:Code} {Q:Exit->Act->I->Prop} {E:Env} {w:I} (h:c=.ret) (d:∀a,Ag n a E->Q .ret a w):WP P n c Q E w:=λa e=>by subst h;exact wpIn_ret (d a e)
def jy (P:aM) (n:Cx) (c:Code) (Q:Exit->Act->I->Prop) (a:Act) (w:I):Prop:=
 ∀(b:Frame) (k:List Item) (cs:List Frame),b.roundOf=n.ro->∃e d h,Q e d h/\ArrivesIn (Machine.fenced P (FW n)) P (lone (b.atR a (.code c::.inLoop c::k)) cs w) b k cs e d h
def Tw (n:Cx) (m:Nat):(FW n).room m:=room_wide m
def My {c:Code} {Q:Exit->Act->I->Prop} {a:Act} {w:I} (j:jy P n c Q a w):e3 P n (Code.loop c) Q a w:=λb z e y q x=>by obtain ⟨h,d,A,u,k⟩:=j b z e y;exact ⟨h,d,A,u,.of_steps (.one (fenced_calm q x rfl) stepR_loop) k⟩
def Ih {c:Code} {Q:Exit->Act->I->Prop} {a:Act} {w:I} (z:e3 P n c (Exit.then (jy P n c Q) Q) a w):jy P n c Q a w:=by
 intro b y h u;have k:(FW n).fn b.fn:=trivial;have q:(FW n).room (h.length+1+0):=Tw n _;obtain ⟨j,a₁,w₁,e,d⟩:=z b (.inLoop c::y) h u k q;cases j with
 |normal=>
  obtain ⟨j₂,a₂,w₂,e₂,d₂⟩:=e b y h u;exact ⟨j₂,a₂,w₂,e₂,.of_steps (StepsIn.trans d (.one (fenced_calm k q rfl) stepR_inLoop)) d₂⟩
 |exit id=>exact ⟨_,a₁,w₁,e,.pass (x:=.inLoop c) rfl (λ_ _=>.inl (by simp)) d⟩
 |goto l=>exact ⟨_,a₁,w₁,e,.pass (x:=.inLoop c) rfl (λ_ _=>.inl (by simp)) d⟩
 |ret=>exact ⟨_,a₁,w₁,e,.pass (x:=.inLoop c) rfl (λ_ _=>.inl (by simp)) d⟩
 |panic A=>exact ⟨_,a₁,w₁,e,.pass (x:=.inLoop c) rfl (λ_ _=>.inl (by simp)) d⟩
 |outgrown=>exact ⟨_,a₁,w₁,e,.pass (x:=.inLoop c) rfl (λ_ _=>.inl (by simp)) d⟩
def LP (P:aM) (n:Cx) (c:Code) (Q:Exit->Act->I->Prop) (E:Env) (w:I):Prop:=∀a,Ag n a E->jy P n c Q a w
def WP.loop {c x:Code} {Q:Exit->Act->I->Prop} {E:Env} {w:I} (h:c=.loop x) (d:LP P n x Q E w):WP P n c Q E w:=λa e=>by subst h;exact My (d a e)
def LP.step {c:Code} {Q:Exit->Act->I->Prop} {E:Env} {w:I} (d:WP P n c (Exit.then (jy P n c Q) Q) E w):LP P n c Q E w:=λa e=>Ih (d a e)
def CZ:List ae->ae
 |[v]=>v
 |c=>.tuple c.toArray
def pR (P:aM) (E:Env) (w:I):List ResultVar->(List ae->Prop)->Prop
 |[],c=>c []
 |.tmp t::l,c=>match E.get? t with
  |some v=>pR P E w l λd=>c (v::d)
  |none=>False
 |.cell h e::l,c=>match E.get? h with
  |some (.pointer (some p))=>ma P e p w λv _=>pR P E w l λd=>c (v::d)
  |_=>False
def jU (P:aM) (fn:Func) (E:Env) (w:I) (K:ae->Prop):Prop:=pR P E w fn.results.toList λc=>K (CZ c)
def oD (tmps:Array ae):ResultVar->Sem ae
 |.tmp t=>pure (tmps.getD t undef)
 |.cell a t=>do loadVar t (<-asAddr (tmps.getD a undef))
def Kb (fn:Func) (tmps:Array ae):results fn tmps=(do let c <-fn.results.mapM (oD tmps);pure (if d:c.size=1 then c[0] else .tuple c)):=by unfold results;congr 1
def Ds {a:Act} {E:Env} (e:Ag n a E) (w:I):∀{l:List ResultVar} {K:List ae->Prop},pR P E w l K->
  ∃d,(l.mapM (oD a.tmps)).run P w=.ok d w/\K d
 |[],K,c=>⟨[],by simp,c⟩
 |.tmp t::l,K,c=>by
  unfold pR at c;split at c
  .rename_i v y;obtain ⟨d,k,j⟩:=Ds e w c;refine ⟨v::d,?_,j⟩;have h:=e.get t v y;simp [List.mapM_cons,oD,k,h]
  .exact c.elim
 |.cell z B::l,K,c=>by
  unfold pR at c;split at c
  .rename_i p q;obtain ⟨v,A,c,u,x⟩:=A' c;obtain ⟨d,k,j⟩:=Ds e w c;refine ⟨v::d,?_,j⟩;have h:=e.get z _ q;simp [List.mapM_cons,oD,k,h,asAddr,x w u]
  .exact c.elim
def Du {fn:Func} {a:Act} {E:Env} {w:I} {R:dA->I->Prop} (e:Ag n a E) (d:jU P fn E w λv=>R (V v) w):
  ∃v,(results fn a.tmps).run P w=.ok v w/\R (V v) w:=by
 obtain ⟨c,j,h⟩:=Ds e w d;refine ⟨_,?_,h⟩;rw [Kb,<-Array.toArray_toList (xs:=fn.results),List.mapM_toArray];simp only [Sem.run_bind,Sem.run_map,j,Result.andThen_ok,Sem.run_pure];congr 1;cases c with
 |nil=>rfl
 |cons v c=>cases c<;>rfl
def rU {m:Nat} {fn:Func} {a:Act} {E:Env} {w:I} {R:dA->I->Prop} (c:Ag (cx m) a E) (d:jU P fn E w λv=>R (V v) w):
  a.defers=[]/\∃v,(results fn a.tmps).run P w=.ok v w/\R (V v) w:=⟨c.defers,Du c d⟩
def OL {f:bJ} {fn:Func} {c:Code} {args:Array ae} {w:I} {R:dA->I->Prop} {E:Env} (k:P.funcs[f]? =some fn) (j:fn.body=some c) (u:args.size<=fn.ntmps)
  (h:∀t v,E.get? t=some v->args[t]? =some v) (e:WP P (cx fn.ntmps) c (bodyPost P fn R) E w):ai P f args w R:=by
 refine calls_of_wp k j (wpIn_wide.1 (e _ ⟨rfl,by simp;omega,?_⟩));intro t v q;have:=h t v q;have n:t<args.size:=by
  rcases Nat.lt_or_ge t args.size with d|d
  .exact d
  .rw [Array.getElem?_eq_none d] at this;cases this
 rw [Array.getElem?_append_left n];exact this
def ja:Nat->List ae->Env
 |_,[]=>[]
 |i,v::l=>(i,v)::ja (i+1) l
def Au:∀(l:List ae) (i t:Nat) (v:ae),(ja i l).get? t=some v->i<=t/\l[t - i]? =some v
 |[],_,_,_,c=>by simp [ja,Env.get?] at c
 |k::l,i,t,v,c=>by
  simp only [ja,Env.get?] at c;by_cases d:i=t
  .subst d;simp at c;subst c;simp
  .have h:cm i t=false:=by rw [<-ju,ek];exact d
   simp only [h,cond_false] at c;obtain ⟨j,e⟩:=Au l (i+1) t v c;refine ⟨by omega,?_⟩;rw [show t - i=(t - (i+1))+1 by omega];simpa using e
def sQ {f:bJ} {fn:Func} {c:Code} {args:List ae} {w:I} {R:dA->I->Prop} (h:P.funcs[f]? =some fn) (e:fn.body=some c) (j:Nat.ble args.length fn.ntmps=true)
  (d:WP P (cx fn.ntmps) c (bodyPost P fn R) (ja 0 args) w):ai P f args.toArray w R:=
 OL h e (by simpa using Nat.le_of_ble_eq_true j) (λt v k=>by have:=(Au args 0 t v k).2;simpa using this) d
def TW {t:Bool} {A B c d:Prop} (h:A->c) (j:B->d) (e:Y t A B):Y t c d:=by
 cases t
 .exact j e
 .exact h e
def asInt (k:jv) (v:Option ae) (K:Int->Prop):Prop:=match v with |some (.int c n)=>cH (c==k) (K n)|_=>False
def eK {k:jv} {v:Option ae} {K:Int->Prop} (c:asInt k v K):∃n,v=some (.int k n)/\K n:=by
 unfold asInt at c;split at c
 .obtain ⟨d,e⟩:=dB c;have h:=eq_of_beq d;subst h;exact ⟨_,rfl,e⟩
 .exact c.elim
def k7 (v:Option ae) (K:ByteArray->Prop):Prop:=match v with |some (.string b)=>K b|_=>False
def mS {v:Option ae} {K:ByteArray->Prop} (c:k7 v K):∃b,v=some (.string b)/\K b:=by
 unfold k7 at c;split at c
 .exact ⟨_,rfl,c⟩
 .exact c.elim
def asSlice (v:Option ae) (K:O->Prop):Prop:=match v with |some (.slice a n c)=>K ⟨a,n,c⟩|_=>False
def k6 {v:Option ae} {K:O->Prop} (c:asSlice v K):∃s:O,v=some s.v/\K s:=by
 unfold asSlice at c;split at c
 .exact ⟨⟨_,_,_⟩,rfl,c⟩
 .exact c.elim
def cf (v:Option ae) (K:Addr->Prop):Prop:=match v with |some (.pointer (some a))=>K a|_=>False
def cu {v:Option ae} {K:Addr->Prop} (c:cf v K):∃a,v=some (.pointer (some a))/\K a:=by
 unfold cf at c;split at c
 .exact ⟨_,rfl,c⟩
 .exact c.elim
def asAgg (v:Option ae) (K:List ae->Prop):Prop:=match v with |some (.agg c)=>K c.toList|_=>False
def Nf {v:Option ae} {K:List ae->Prop} (c:asAgg v K):∃d:List ae,v=some (.agg d.toArray)/\K d:=by
 unfold asAgg at c;split at c
 .exact ⟨_,rfl,c⟩
 .exact c.elim
def nS (f:bJ) (v:Option ae) (K:List ae->List ae->Prop):Prop:=match v with |some (.func (.func g) d c)=>cH (cm g f) (K d.toList c.toList)|_=>False
def zu {f:bJ} {v:Option ae} {K:List ae->List ae->Prop} (c:nS f v K):∃e d:List ae,v=some (.func (.func f) e.toArray d.toArray)/\K e d:=by
 unfold nS at c;split at c
 .obtain ⟨h,j⟩:=dB c;rw [ek] at h;subst h;exact ⟨_,_,rfl,j⟩
 .exact c.elim
def kz (l:List ae) (K:ae->List ae->Prop):Prop:=match l with |v::r=>K v r|[]=>False
def nR {l:List ae} {K:ae->List ae->Prop} (c:kz l K):∃v r,l=v::r/\K v r:=by
 cases l with
 |nil=>exact c.elim
 |cons v r=>exact ⟨v,r,rfl,c⟩
def jD (l:List ae) (K:Prop):Prop:=match l with |[]=>K|_=>False
def o1 {l:List ae} {K:Prop} (c:jD l K):l=[]/\K:=by
 cases l with
 |nil=>exact ⟨rfl,c⟩
 |cons v r=>exact c.elim
end
def iG (k:jv) (x y:Int):Int:=k.wrap ((eJ k.bits x&&& eJ k.bits y).toNat:Int)
def k9 (k:jv) (x y:Int):Int:=k.wrap ((eJ k.bits x|||eJ k.bits y).toNat:Int)
def i6 (k:jv) (x y:Int):Int:=k.wrap ((eJ k.bits x^^^eJ k.bits y).toNat:Int)
inductive Tr where
 |nil
 |one (i:Nat) (t:Tr)
 |fork (a b:Tr)
def Tr.iJ:Tr->List Nat
 |.nil=>[]
 |.one i _=>[i]
 |.fork a b=>a.iJ++b.iJ
def Tr.len:Tr->Nat
 |.nil=>0
 |.one _ t=>t.len+1
 |.fork a _=>a.len
def tv (P:aM) (ops:Array Oper) (i:Nat) (E:Env) (w:I) (H:ea) (c:Env->I->ea->Prop):Prop:=
 match ops[i]? with
 |none=>False
 |some o=>match o.guard with
  |none=>nC P ops true i o E w H c
  |some (e,want)=>match jd ops e with
   |none=>False
   |some d=>match E.get? d with
    |some (.bool t)=>Y t (kG P ops true i o d want true E w H c) (kG P ops true i o d want false E w H c)
    |some (.tuple _)=>c (Env.put E o.dst undef) w (bif calm P o then H else cV ops i H)
    |_=>False
def nE (P:aM) (ops:Array Oper) (K:Env->I->Prop):Tr->Env->I->ea->Prop
 |.nil,c,d,_=>K c d
 |.one i t,c,d,e=>tv P ops i c d e λh k j=>nE P ops K t h k j
 |.fork a b,c,d,e=>nE P ops K a c d e/\nE P ops K b c d e
def hy (P:aM) (ops:Array Oper):Tr->Bool->Array Bool->Bool
 |.nil,alt,c=>!alt&&(en .any ops c).isEmpty
 |.one i t,alt,c=>(match ops[i]? with
   |some o=>bif alt then !calm P o else bif calm P o then Region.free .any ops c i&&(en .any ops c).contains i else en .any ops c==[i]
   |none=>false)&&hy P ops t false (c.setIfInBounds i true)
 |.fork a b,alt,c=>(alt||en .any ops c==(Tr.fork a b).iJ)&&(cm a.len b.len&&(hy P ops a true c&&hy P ops b true c))
section
variable {P:aM} {ops:Array Oper} {n:Cx} {K:Env->I->Prop}
def K2 {i:Nat} {o:Oper} {a:Act} {E:Env} {w:I} {H:ea} {Kh:Env->I->ea->Prop} {z:Array Bool} {fuel:Nat} {Q:Exit->Act->I->Prop}
  (h:dz n ops=true) (k:ops[i]? =some o) (D:calm P o=false) (x:Ag n a E) (J:cX o (yielded ops a.tmps)=true)
  (e:nC P ops true i o E w H Kh)
  (next:∀d q c j,Ag n d q->(∀p∈j,p.2 c)->Kh q c j->d' P ops Q fuel j (z.setIfInBounds i true) d c):
  wpOp P ops Q i (λd c=>(∀p∈cV ops i H,p.2 c)/\d' P ops Q fuel (cV ops i H) (z.setIfInBounds i true) d c) a w:=by have F:=Region.noSelect_spec (ops:=ops) (by unfold dz at h;rw [bn] at h;exact h.1);unfold nC at e;rw [D] at e;simp only [cond_false,cond_true] at e;refine vn k J (l0 (λA b=>F i o A b k) x e) λv c G=>?_;obtain ⟨B,C⟩:=qL G;have u:∀p∈cV ops i H,p.2 c:=λp y=>B _ (AV (fe.1 y).1 (fe.1 y).2);exact ⟨u,next _ _ _ _ (x.put v (gu h k)) u C⟩
def DJ {i:Nat} {o:Oper} {a:Act} {w:I} {H:ea} {c:Array Bool} {fuel:Nat} {Q:Exit->Act->I->Prop}
  (j:ops[i]? =some o) (h:∀p∈H,p.2 w) (n:cX o (yielded ops a.tmps)=false)
  (next:d' P ops Q fuel (cV ops i H) (c.setIfInBounds i true) (a.put o.dst undef) w):
  wpOp P ops Q i (λe d=>(∀p∈cV ops i H,p.2 d)/\d' P ops Q fuel (cV ops i H) (c.setIfInBounds i true) e d) a w:=by unfold wpOp;simp only [j,n];exact ⟨λp k=>h p (fe.1 k).1,next⟩
def Qt (u:dz n ops=true) {i:Nat} {o:Oper} {E:Env} {w:I} {H:ea} {a:Act} {G:Env->I->ea->Prop} {z:Array Bool} {fuel:Nat} (h:ops[i]? =some o)
  (C:(bif calm P o then Region.free .any ops z i&&(en .any ops z).contains i else en .any ops z==[i])=true) (j:Ag n a E) (e:∀p∈H,p.2 w) (c:tv P ops i E w H G)
  (next:∀M L J F,Ag n M L->(∀p∈F,p.2 J)->G L J F->d' P ops (gX n K) fuel F (z.setIfInBounds i true) M J):d' P ops (gX n K) (fuel+1) H z a w:=by
 unfold tv at c;rw [h] at c;simp only at c;cases k:o.guard with
 |none=>
  rw [k] at c;simp only at c;exact yB u h C (λ_ _ _=>rfl) j e (by simp [cX,k]) c next
 |some Q=>
  obtain ⟨O,want⟩:=Q;rw [k] at c;simp only at c;cases B:jd ops O with
  |none=>rw [B] at c;exact c.elim
  |some N=>
   rw [B] at c;simp only at c;split at c
   .rename_i t y;have D:=qm j B y;have q:kG P ops true i o N want t E w H G:=by
     cases t
     .exact c
     .exact c
    unfold kG at q;cases A:(t==want) with
    |true=>
     rw [A] at q;exact yB u h C (λ_ _ _=>rfl) (j.same y) e (by simp [cX,k,D];simpa using A) q next
    |false=>
     rw [A] at q;simp only [cond_false] at q;refine uS u h C (λ_ _ _=>rfl) e (by simp [cX,k,D];simpa using A) ?_;refine next _ _ _ _ ((j.same y).put undef (gu u h)) ?_ q
     intro p d;cases x:calm P o
     .rw [x] at d;exact e p (fe.1 d).1
     .rw [x] at d;exact e p d
   .rename_i S y;have D:=qn j B y;refine uS u h C (λ_ _ _=>rfl) e (by simp [cX,k,D]) ?_;refine next _ _ _ _ (j.put undef (gu u h)) ?_ c
    intro p d;cases x:calm P o
    .rw [x] at d;exact e p (fe.1 d).1
    .rw [x] at d;exact e p d
   .exact c.elim
def Qu (A:dz n ops=true) {i:Nat} {o:Oper} {E:Env} {w:I} {H:ea} {a:Act} {D:Env->I->ea->Prop} {L:Array Bool} {fuel:Nat} (d:ops[i]? =some o)
  (y:calm P o=false) (e:Ag n a E) (F:∀p∈H,p.2 w) (c:tv P ops i E w H D)
  (next:∀u G k C,Ag n u G->(∀p∈C,p.2 k)->D G k C->d' P ops (gX n K) fuel C (L.setIfInBounds i true) u k):
  wpOp P ops (gX n K) i (λu k=>(∀p∈cV ops i H,p.2 k)/\d' P ops (gX n K) fuel (cV ops i H) (L.setIfInBounds i true) u k) a w:=by
 unfold tv at c;rw [d] at c;simp only at c;have J:∀p∈cV ops i H,p.2 w:=λp N=>F p (fe.1 N).1;cases h:o.guard with
 |none=>
  rw [h] at c;simp only at c;exact K2 A d y e (by simp [cX,h]) c next
 |some Q=>
  obtain ⟨O,want⟩:=Q;rw [h] at c;simp only at c;cases z:jd ops O with
  |none=>rw [z] at c;exact c.elim
  |some M=>
   rw [z] at c;simp only at c;split at c
   .rename_i t q;have B:=qm e z q;have j:kG P ops true i o M want t E w H D:=by
     cases t
     .exact c
     .exact c
    unfold kG at j;cases x:(t==want) with
    |true=>
     rw [x] at j;exact K2 A d y (e.same q) (by simp [cX,h,B];simpa using x) j next
    |false=>
     rw [x,y] at j;simp only [cond_false] at j;exact DJ d F (by simp [cX,h,B];simpa using x) (next _ _ _ _ ((e.same q).put undef (gu A d)) J j)
   .rename_i S q;have B:=qn e z q;rw [y] at c;simp only [cond_false] at c;exact DJ d F (by simp [cX,h,B]) (next _ _ _ _ (e.put undef (gu A d)) J c)
   .exact c.elim
def Ef:∀(t:Tr) (d:Array Bool),hy P ops t true d=true->∃m,t.len=m+1
 |.nil,d,c=>by simp [hy] at c
 |.one i t,d,_=>⟨t.len,rfl⟩
 |.fork a b,d,c=>by unfold hy at c;simp only [bn] at c;exact Ef a d c.2.2.1
def Ee:∀(t:Tr) (d:Array Bool),hy P ops t true d=true->t.iJ≠[]
 |.nil,d,c=>by simp [hy] at c
 |.one i t,d,_=>by simp [Tr.iJ]
 |.fork a b,d,c=>by unfold hy at c;simp only [bn] at c;have:=Ee a d c.2.2.1;simp [Tr.iJ,this]
def ve (B:dz n ops=true):∀(t:Tr) (alt:Bool) (d:Array Bool) (E:Env) (w:I) (H:ea) (a:Act) (m:Nat),hy P ops t alt d=true->Ag n a E->(∀p∈H,p.2 w)->nE P ops K t E w H->
  (alt=false->t.len=m->d' P ops (gX n K) m H d a w)/\
  (alt=true->t.len=m+1->∀i∈t.iJ,wpOp P ops (gX n K) i (λq j=>(∀p∈cV ops i H,p.2 j)/\d' P ops (gX n K) m (cV ops i H) (d.setIfInBounds i true) q j) a w)
 |.nil,alt,d,E,w,H,a,m,c,x,A,e=>by
  unfold hy at c;rw [bn] at c;refine ⟨λ_ h=>?_,λu=>?_⟩
  .subst h;exact λ_=>⟨by simpa using c.2,E,x,e⟩
  .subst u;simp at c
 |.one i t,alt,d,E,w,H,a,m,c,x,A,e=>by
  unfold hy at c;rw [bn] at c;obtain ⟨c,W⟩:=c;cases D:ops[i]? with
  |none=>rw [D] at c;cases c
  |some o=>
   rw [D] at c;simp only at c;unfold nE at e;refine ⟨λu h=>?_,λu h ac Z=>?_⟩
   .subst u h;exact Qt B D c x A e λq G j J L M N=>(ve B t false _ G j J q _ W L M N).1 rfl rfl
   .subst u;rw [cond_true] at c;obtain rfl:=fJ.1 Z;have O:t.len=m:=by simpa [Tr.len] using h
    exact Qu B D (by simpa using c) x A e λq G j J L M N=>(ve B t false _ G j J q _ W L M N).1 rfl O
 |.fork z F,alt,d,E,w,H,a,m,c,x,A,e=>by
  unfold hy at c;simp only [bn] at c;obtain ⟨hr,S,Q,ab⟩:=c;rw [ek] at S;unfold nE at e;have both:∀k,z.len=k+1->∀i∈(Tr.fork z F).iJ,wpOp P ops (gX n K) i (λq j=>(∀p∈cV ops i H,p.2 j)/\d' P ops (gX n K) k (cV ops i H) (d.setIfInBounds i true) q j) a w:=λk C i y=>by
   rcases a5.1 y with y|y
   .exact (ve B z true d E w H a k Q x A e.1).2 rfl C i y
   .exact (ve B F true d E w H a k ab x A e.2).2 rfl (S▸C) i y
  refine ⟨λu h=>?_,λ_ h=>both m h⟩;subst u;obtain ⟨k,C⟩:=Ef z d Q;have O:m=k+1:=by rw [<-h,<-C];rfl
  subst O;have T:en .any ops d=(Tr.fork z F).iJ:=by simpa using hr
  have aa:(Tr.fork z F).iJ≠[]:=by have:=Ee z d Q;simp [Tr.iJ,this]
  exact λ_=>⟨λY=>absurd (T▸Y) aa,λi y=>both k C i (T▸y)⟩
def Vp {c:Code} {id:Nat} {a:Act} {E:Env} {w:I} {t:Tr} (x:P.follows .mixedOrders=true) (q:c=.region id ops true) (e:dz n ops=true)
  (u:hy P ops t false (fy ops.size false)=true) (z:t.len=ops.size) (k:Ag n a E) (d:nE P ops K t E w.drew []):c.wpIn (FW n) 0 P (gX n K) a w:=by subst q;have h:=(ve e t false _ E _ [] a _ u k (λp y=>(by cases y)) d).1 rfl z;have j:=y1 _ [] _ _ _ (Down.zero _ _) h;refine wpIn_region_draw λt=>?_;refine qk e (λ⟨_,_,d⟩=>d) _ _ _ ?_;simp only [Region.schedule,x,Bool.true_or,if_true];exact wpAny_sound ops.size t _ a _ j
def rS (P:aM) (n:Nat) (c:Code) (t:Tr):Bool:=match c with
 |.region _ ops d=>d&&(P.follows .mixedOrders&&(dz n ops&&(hy P ops t false (fy ops.size false)&&cm t.len ops.size)))
 |_=>false
def WP.tree {c:Code} {Q:Exit->Act->I->Prop} {E:Env} {w:I} (t:Tr) (K:Env->I->Prop) (d:rS P n c t=true)
  (x:nE P (Code.ops c) K t E w.drew []) (C:∀e j h,Ag n h e->K e j->Q .normal h j):WP P n c Q E w:=by
 unfold rS at d;split at d
 .rename_i id ops D;simp only [bn] at d;obtain ⟨rfl,y,z,A,k⟩:=d;rw [ek] at k;exact λa B=>wpIn_mono (Vp y rfl z A k B x) λu h j q=>by
   cases u with
   |normal=>obtain ⟨e,hA,hK⟩:=q;exact C e j h hA hK
   |_=>exact q.elim
 .cases d
end
section
variable {P:aM}
def lo (r:Loop) (st:LoopState) (c:Option Code):Obj:=.loop {r with state:=st,pending:=c}
structure zi (r:Loop) (m:Nat) (ps:Array Tmp) (assign body:Code) (E:Env):Prop where
 ps:r.params=ps
 assign:r.assign=assign
 body:r.body=body
 size:r.tmps.size=m
 get:∀t v,E.get? t=some v->r.tmps[t]? =some v
def mo:Env->List Nat->List ae->Env
 |c,p::d,v::e=>mo ((p,v)::c) d e
 |c,_,_=>c
def Jh {m l:Nat}:∀(ps:List Nat) (vs:List ae) (E:Env) (tmps:Array ae),tmps.size=m->(∀p∈ps,p<m)->(∀t v,E.get? t=some v->tmps[t]? =some v)->
  Ag ⟨m,[],some l⟩ {tmps:=(ps.zip vs).foldl (λt (p,v)=>t.setIfInBounds p v) tmps,defers:=[]} (mo E ps vs)
 |[],vs,E,tmps,c,_,e=>⟨rfl,by simpa using c,by cases vs<;>simpa [mo] using e⟩
 |p::ps,[],E,tmps,c,_,e=>⟨rfl,by simpa using c,by simpa [mo] using e⟩
 |p::ps,v::vs,E,tmps,c,h,e=>by simp only [List.zip_cons_cons,List.foldl_cons,mo];refine Jh ps vs _ _ (by simpa using c) (λq j=>h q (by simp [j])) ?_;have:=(Ag.put (n:=⟨m,[],some l⟩) (a:={tmps:=tmps,defers:=[]}) (E:=E) ⟨rfl,c,e⟩ (d:=some p) v (λt k=>by cases k;exact h p (by simp))).get;simpa [Env.put,Act.put] using this
def kY (P:aM) (l:Nat) (args:Array ae) (w:I) (K:Bool->I->Prop):Prop:=
 YieldAt Fence.wide 0 P l args w λc d=>∃b:Bool,c=V (.bool b)/\K b d
def Vt {l:Nat} {args:Array ae} {w:I} {K K':Bool->I->Prop} (d:kY P l args w K) (k:∀b c,K b c->K' b c):kY P l args w K':=by obtain ⟨fn,tmps,assign,body,n,e⟩:=d;exact ⟨fn,tmps,assign,body,n,e.mono λq c ⟨b,j,h⟩=>⟨b,j,k b c h⟩⟩
def oX (P:aM) (m l:Nat) (r:Loop) (body:Code) (Q:Exit->Act->I->Prop):Exit->Act->I->Prop:=
 Exit.then (λa₁ c₁=>c₁.heap[l]? =some (lo r .ready none)/\e3 P ⟨m,[],some l⟩ body Q a₁ (c₁.putObj l (lo r .busy none))) (λ_ _ _=>False)
def Ev {m l:Nat} {r:Loop} {ps:Array Tmp} {assign body:Code} {E:Env} {args:List ae} {w:I} {R:dA->I->Prop} {K:Bool->I->Prop} (c:zi r m ps assign body E) (x:w.heap[l]? =some (lo r .ready none))
  (B:args.length=ps.size) (y:ps.toList.all (λp=>Nat.blt p m)=true) (q:∀d e,R d e->∃b:Bool,d=V (.bool b)/\K b e)
  (j:WP P ⟨m,[],some l⟩ assign (oX P m l r body (roundPost P l R)) (mo E ps.toList args) w):kY P l args.toArray w K:=by
 have A:=run_yield (P:=P) (w:=w) (args:=args.toArray) x (by simp [c.ps,B]);refine ⟨_,_,_,_,A,RoundIn.mono (roundIn_of_wpIn (R:=R) trivial ?_) q⟩;simp only [lo,c.ps,c.assign,c.body];have u:Ag ⟨m,[],some l⟩ {tmps:=(ps.zip args.toArray).foldl (λt (p,v)=>t.setIfInBounds p v) r.tmps,defers:=[]} (mo E ps.toList args):=by have:=Jh (m:=m) (l:=l) ps.toList args E r.tmps c.size (λp z=>by simpa using f'.1 y p z) c.get;rw [<-Array.foldl_toList];simpa using this
 refine wpIn_mono (j _ u) λd C e h=>?_;cases d with
 |normal=>
  obtain ⟨k,n⟩:=h;exact ⟨_,run_beginRound k rfl,n⟩
 |_=>exact h.elim
def Dw {l:Nat} {r:Loop} {a:Act} {w:I} {R:dA->I->Prop} (d:w.heap[l]? =some (lo r .busy none)) (c:R (V (.bool true)) (w.putObj l (lo r .ready none))):roundPost P l R .normal a w:=
 ⟨_,_,run_endRound none d,c⟩
def Ty {l:Nat} {r:Loop} {a:Act} {w:I} {R:dA->I->Prop} (d:w.heap[l]? =some (lo r .busy none)) (c:R (V (.bool false)) (w.putObj l (lo r .done (some .ret)))):roundPost P l R .ret a w:=
 ⟨_,_,run_endRound (some .ret) d,c⟩
abbrev marked (m D:Nat):Cx:=⟨m,[{target:=.collected D,args:=#[]}],none⟩
def qE (c:I) (l:Nat) (o:LoopState->Option Code->Obj) (N:I->Prop) (X:Nat->I->Prop) (T:I->Prop):Prop:=
 (c.heap[l]? =some (o .ready none)/\N (c.putObj l (o .exhausted none)))\/
 (∃id,c.heap[l]? =some (o .done (some (.exit id)))/\X id (c.putObj l (o .exhausted (some (.exit id)))))\/
 (c.heap[l]? =some (o .done (some .ret))/\T (c.putObj l (o .exhausted (some .ret))))
def WP.range {m:Nat} {c:Code} {g:Operand} {ps:Array Tmp} {assign body:Code} {gf:Nat} {lb:Array ae} {Q:Exit->Act->I->Prop} {E:Env} {w:I} (N:I->Prop) (X:Nat->I->Prop) (T:I->Prop)
  (J:c=.rangeFunc g ps assign body) (O:E.val g=some (.func (.func gf) #[] lb)) (K:gF P gf=true)
  (D:∀d,N d->∀a,Ag (marked m w.heap.size) a E->Q .normal a d) (H:∀id d,X id d->∀a,Ag (marked m w.heap.size) a E->Q (.exit id) a d) (G:∀d,T d->∀a,Ag (marked m w.heap.size) a E->Q .ret a d)
  (k:∀r:Loop,zi r m ps assign body E->ai P gf (#[.func (.yield (w.heap.size+1)) #[] #[]]++lb) ((w.alloc (.deferred (some []))).alloc (lo r .ready none)) λu y=>(∃v,u=V v)/\qE y (w.heap.size+1) (lo r) N X T):
  WP P (cx m) c Q E w:=by
 subst J;intro a e;have q:Ag (marked m w.heap.size) {a with defers:=[{target:=.collected w.heap.size,args:=#[]}]++a.defers} E:=⟨by show _++a.defers=_;rw [e.defers];rfl,e.size,e.get⟩;have S:a.eval g=.func (.func gf) #[] lb:=e.val O;refine wpIn_rangeFunc (F:=FW (cx m)) (n:=0) λfn _=>?_;obtain ⟨r,x⟩:∃r:Loop,r={state:=.ready,pending:=none,fn,tmps:=a.tmps,params:=ps,assign,body,defers:=w.heap.size}:=⟨_,rfl⟩;have W:zi r m ps assign body E:=by subst x;exact ⟨rfl,rfl,rfl,e.size,e.get⟩
 have L:=k r W;have z:(Instr.enterLoop fn a.tmps ps assign body none).run P w=.ok (w.heap.size+1,[{target:=.collected w.heap.size,args:=#[]}]) ((w.alloc (.deferred (some []))).alloc (lo r .ready none)):=by rw [run_enterLoop_outer];subst x;rfl
 generalize Y:(w.alloc (.deferred (some []))).alloc (lo r .ready none)=W1 at *;have A:(resolve a.eval (rangeCall g (w.heap.size+1)) 0).run P W1=.ok {target:=.fn (.func gf) lb,args:=#[.func (.yield (w.heap.size+1)) #[] #[]]} W1:=by simp only [resolve,S];simp [go_sem]
 have B:(invoke (.fn (.func gf) lb) #[.func (.yield (w.heap.size+1)) #[] #[]]).run P W1=.ok (.enter gf (#[.func (.yield (w.heap.size+1)) #[] #[]]++lb)) W1:=by simp [invoke,go_sem,sO K]
 have C:CallsIn (FW (cx m)) 0 P gf (#[.func (.yield (w.heap.size+1)) #[] #[]]++lb) W1 (rangePost (FW (cx m)) 0 P (w.heap.size+1) Q {a with defers:=[{target:=.collected w.heap.size,args:=#[]}]++a.defers}):=by
  refine FU (n:=cx m) (L.mono ?_);rintro u y ⟨⟨v,rfl⟩,M⟩;rcases M with ⟨h,j⟩|⟨id,h,j⟩|⟨h,j⟩
  .exact ⟨_,_,run_endLoop (r:={r with state:=.ready,pending:=none}) h (by simp),D _ j _ q⟩
  .exact ⟨_,_,run_endLoop (r:={r with state:=.done,pending:=some (.exit id)}) h (by simp),wpIn_exit (H id _ j _ q)⟩
  .exact ⟨_,_,run_endLoop (r:={r with state:=.done,pending:=some .ret}) h (by simp),wpIn_ret (G _ j _ q)⟩
 exact ⟨_,_,_,_,_,_,_,_,z,A,λ_ _=>trivial,B,λk=>(by cases k),C⟩
def uI (P:aM) (fn:Func) (E:Env) (w:I) (D:Nat) (R:aa):Prop:=
 w.heap[D]? =some (.deferred (some []))/\jU P fn E (w.putObj D (.deferred none)) λv=>R (V v) (w.putObj D (.deferred none))
def Ia {fn:Func} {tmps:Array ae} {R:dA->I->Prop} {w:I} {v:ae} (c:(results fn tmps).run P w=.ok v w) (d:R (V v) w):LeavesInM Fence.wide 0 P fn tmps R [] .returning w:=by show LeavesIn _ _ _ _ _ _ _ _ _;simp only [LeavesIn];exact ⟨v,c,d⟩
def Ts {m:Nat} {fn:Func} {a:Act} {E:Env} {w:I} {R:aa} (c:Ag (cx m) a E) (d:jU P fn E w λv=>R (V v) w):LeavesInM Fence.wide 0 P fn a.tmps R a.defers .returning w:=by obtain ⟨v,e,h⟩:=Du c d;rw [c.defers];exact Ia e h
def uJ {m D:Nat} {fn:Func} {a:Act} {E:Env} {w:I} {R:aa} (d:Ag (marked m D) a E) (c:uI P fn E w D R):LeavesInM Fence.wide 0 P fn a.tmps R a.defers .returning w:=by obtain ⟨e,c⟩:=c;obtain ⟨v,h,j⟩:=Du (n:=marked m D) d c;rw [d.defers];exact ⟨by simp,.inl ⟨D,_,rfl,run_takeDeferred e,Ia h j⟩⟩
def zW {f:bJ} {fn:Func} {c:Code} {args:List ae} {w:I} {R:dA->I->Prop} (h:P.funcs[f]? =some fn) (e:fn.body=some c) (k:Nat.ble args.length fn.ntmps=true)
  (d:WP P (cx fn.ntmps) c (bodyPostM Fence.wide 0 P fn R) (ja 0 args) w):ai P f args.toArray w R:=by have u:=Nat.le_of_ble_eq_true k;refine callsIn_wide.1 (callsIn_of_wp_marks (n:=0) h e trivial (d _ ⟨rfl,by simp;omega,?_⟩));intro t v q;have:=(Au args 0 t v q).2;have j:t<args.length:=(cD.1 this).1;rw [Array.getElem?_append_left (by simpa using j)];simpa using this
def o2 (v:Option ae) (K:Nat->Prop):Prop:=match v with |some (.func (.yield l) d c)=>cH (cm d.size 0&&cm c.size 0) (K l)|_=>False
def sH {v:Option ae} {K:Nat->Prop} (c:o2 v K):∃l,v=some (.func (.yield l) #[] #[])/\K l:=by
 unfold o2 at c;split at c
 .rename_i l k e;obtain ⟨d,n⟩:=dB c;simp only [bn,ek] at d;have h:k=#[]:=Array.eq_empty_of_size_eq_zero d.1;have j:e=#[]:=Array.eq_empty_of_size_eq_zero d.2;subst h j;exact ⟨l,rfl,n⟩
 .exact c.elim
end
abbrev _root_.Go.Code.sn (c:Code):Code:=Code.snd c
abbrev _root_.Go.Code.fs (c:Code):Code:=Code.fst c
abbrev _root_.Go.Value.i (x:Int):ae:=.int .i64 x
abbrev _root_.Go.Value.u (x:Int):ae:=.int .u64 x
abbrev _root_.Go.Value.s0:ae:=.string (az #[])
abbrev nb (w:I):Addr:=⟨w.heap.size,0,none⟩
section
variable {P:aM} {n:Cx} {Q:Exit->Act->I->Prop} {E:Env} {w:I} {K:Env->I->Prop}
def rV (P:aM) (c:Code) (K:Env->I->Prop) (E:Env) (w:I):Prop:=gO P (Code.ops c) false K (List.range (Code.ops c).size) E w []
def UT (P:aM) (c:Code) (t:Tr) (K:Env->I->Prop) (E:Env) (w:I):Prop:=nE P (Code.ops c) K t E w.drew []
abbrev dN (P:aM) (c:Code) (K:Env->I->Prop) (E:Env) (w:I):Prop:=rV P (Code.fst c) K E w
abbrev Ug (P:aM) (c:Code) (t:Tr) (K:Env->I->Prop) (E:Env) (w:I):Prop:=UT P (Code.fst c) t K E w
def tC:Code->Bool
 |.seq _ _=>true
 |_=>false
def yt {c:Code} (d:tC c=true):c=.seq (Code.fst c) (Code.snd c):=by cases c<;>first |rfl|cases d
def qM {a b:Bool} (c:(a&&b)=true):a=true/\b=true:=by simpa using c
def rg (c:Code) (k:pP n c=true) (j:rV P c K E w) (q:∀d h e,Ag n e d->K d h->Q .normal e h):WP P n c Q E w:=WP.gN K k j q
def sr (c:Code) (k:dN P c K E w) (x:∀d e,K d e->WP P n (Code.snd c) Q d e) (h:(tC c&&pP n (Code.fst c))=true:=by kernel_rfl):WP P n c Q E w:=
 WP.seq (yt (qM h).1) (WP.gN K (qM h).2 k λd e j q u=>x d e u j q)
def st (c:Code) {t:Tr} (h:(tC c&&rS P n (Code.fst c) t)=true) (k:Ug P c t K E w) (x:∀d e,K d e->WP P n (Code.snd c) Q d e):WP P n c Q E w:=
 WP.seq (yt (qM h).1) (WP.tree t K (qM h).2 k λd e j q u=>x d e u j q)
def sq (c:Code) (d:WP P n (Code.fst c) (Exit.then (e3 P n (Code.snd c) Q) Q) E w) (e:tC c=true:=by kernel_rfl):WP P n c Q E w:=WP.seq (yt e) d
def bk (c:Code) (id:Nat) (e:c=.block id (Code.fst c)) (d:WP P n (Code.fst c) (Exit.inBlock id Q) E w):WP P n c Q E w:=WP.block e d
def cn (c:Code) {o:Operand} {A B:Prop} (d:g1 (E.val o) A B) (e:A->WP P n (Code.fst c) Q E w) (h:B->WP P n (Code.snd c) Q E w) (j:c=.cond o (Code.fst c) (Code.snd c):=by kernel_rfl):WP P n c Q E w:=WP.g1 j e h d
def sk (c:Code) (d:∀a,Ag n a E->Q .normal a w) (e:c=.skip:=by kernel_rfl):WP P n c Q E w:=WP.skip e d
def xt (c:Code) (id:Nat) (e:c=.exit id) (d:∀a,Ag n a E->Q (.exit id) a w):WP P n c Q E w:=WP.exit e d
def rt (c:Code) (d:∀a,Ag n a E->Q .ret a w) (e:c=.ret:=by kernel_rfl):WP P n c Q E w:=WP.ret e d
def lp (c:Code) (e:c=.loop (Code.fst c)) (d:LP P n (Code.fst c) Q E w):WP P n c Q E w:=WP.loop e d
def nx {c:Code} {a:Act} (e:Ag n a E) (d:WP P n c Q E w):Exit.then (e3 P n c Q) Q .normal a w:=d a e
end
open Go.RowKit
structure Fr (M:Nat->Prop) (w w':I):Prop where
 os:w'.os=w.os
 tape:w'.tape=w.tape
 output:w'.output=w.output
 size:w.heap.size<=w'.heap.size
 ck:∀b,b<w.heap.size->¬M b->w'.heap[b]? =w.heap[b]?
def Fr.refl (M:Nat->Prop) (w:I):Fr M w w:=⟨rfl,rfl,rfl,bB _,λ_ _ _=>rfl⟩
def Fr.trans {M j:Nat->Prop} {a b c:I} (e:Fr M a b) (k:Fr j b c) (u:∀d,d<a.heap.size->j d->M d):Fr M a c:=
 ⟨k.os.trans e.os,k.tape.trans e.tape,k.output.trans e.output,bH e.size k.size,
  λd h n=>(k.ck d (vp h e.size) (λq=>n (u d h q))).trans (e.ck d h n)⟩
def Fr.mono {M e:Nat->Prop} {a b:I} (d:Fr M a b) (k:∀c,c<a.heap.size->M c->e c):Fr e a b:=
 ⟨d.os,d.tape,d.output,d.size,λc h n=>d.ck c h (λj=>n (k c h j))⟩
def Fr.drew (M:Nat->Prop) (w:I):Fr M w w.drew:=⟨rfl,rfl,rfl,bB _,λ_ _ _=>rfl⟩
def Fr.alloc (M:Nat->Prop) (w:I) (o:Obj):Fr M w (w.alloc o):=⟨rfl,rfl,rfl,by simp,λd c _=>_root_.Go.heap_alloc_old w o d c⟩
def Fr.set {M:Nat->Prop} (w:I) (p:Addr) (v:ae) (d:M p.block):Fr M w (w.setCell p v):=
 ⟨rfl,rfl,rfl,by simp [World.setCell],λh _ e=>Below.heap_setCell w p v h (λc=>e (c▸d))⟩
def Fr.grown {M:Nat->Prop} {w w':I} {r:Option Nat} (c:w.grownBy w' r) (h:∀b,r=some b->M b):Fr M w w':=
 ⟨c.os,c.tape,c.output,c.size,λb e j=>c.block b e (λd=>j (h b d.symm))⟩
def Fr.setObj {M:Nat->Prop} (w:I) (r:Nat) (o:Obj) (d:M r):Fr M w {w with heap:=w.heap.setIfInBounds r o}:=
 ⟨rfl,rfl,rfl,by simp,λh _ e=>by have:r≠h:=λc=>e (c▸d);simp [Array.getElem?_setIfInBounds_ne this]⟩
def Fr.below {w w':I} (c:Fr (λ_=>False) w w'):Below w.heap.size w w':=⟨c.os,c.tape,c.output,c.size,λh e=>c.ck h e (λd=>d)⟩
def Fr.at {M:Nat->Prop} {w w':I} (d:Fr M w w') {b:Nat} {o:Obj} (c:w.heap[b]? =some o) (e:¬M b):w'.heap[b]? =some o:=
 (d.ck b (Array.getElem?_eq_some_iff.1 c).1 e).trans c
def iK {w:I} {b:Nat} {o:Obj} (c:w.heap[b]? =some o):b<w.heap.size:=(Array.getElem?_eq_some_iff.1 c).1
def gJ (w:I) (o:Obj):(w.alloc o).heap[w.heap.size]? =some o:=_root_.Go.heap_alloc_new w o
def size_alloc (w:I) (o:Obj):(w.alloc o).heap.size=w.heap.size+1:=by simp
def cellAt {w:I} {p:Addr} {cs:Array ae} {T:aG} {f:Nat×Nat} {i:Nat} {v:ae} (c:w.heap[p.block]? =some (.cells cs T f)) (e:p.spot=none) (hi:cs[p.off+i]? =some v):
  w.cell? (p.add i)=some v:=by
 unfold Addr.add;split
 .rename_i d;subst d;simp [World.cell?,c,e];simpa using hi
 .simp [World.cell?,c,hi]
def frozenAt {w:I} {p:Addr} {cs:Array ae} {T:aG} {i:Nat} (c:w.heap[p.block]? =some (.cells cs T (0,0))):w.frozen? (p.add i)=false:=by unfold Addr.add;split<;>simp [World.frozen?,c]
def setAt {w:I} {p:Addr} {cs:Array ae} {T:aG} {f:Nat×Nat} {i:Nat} {v:ae} (c:w.heap[p.block]? =some (.cells cs T f)) (h:p.spot=none):
  (w.setCell (p.add i) v).heap[p.block]? =some (.cells (cs.setIfInBounds (p.off+i) v) T f):=by
 have d:(p.add i).block=p.block:=by unfold Addr.add;split<;>rfl
 have j:(p.add i).spot=none:=by unfold Addr.add;split<;>simp [h]
 have e:(p.add i).off=p.off+i:=by unfold Addr.add;split<;>simp_all
 simp [World.setCell,d,c,j,e,Array.getElem?_modify]
def iF (p:Addr) (i:Nat):(p.add i).block=p.block:=by unfold Addr.add;split<;>rfl
def ay (s:O):List Nat:=match s.a with |some p=>[p.block]|none=>[]
def Row (w:I) (T:aG) (s:O) (vs:List ae):Prop:=
 (s.a=none/\s.n=0/\s.c=0/\vs=[])\/∃b o d f,s.a=some ⟨b,o,none⟩/\w.heap[b]? =some (.cells d T f)/\∀i v,vs[i]? =some v->d[o+i]? =some v
def Row.lt {w:I} {T:aG} {s:O} {vs:List ae} (d:Row w T s vs):∀b∈ay s,b<w.heap.size:=by
 rcases d with ⟨c,_⟩|⟨b,o,h,f,c,e,j⟩
 .simp [ay,c]
 .simp [ay,c];exact iK e
def Row.cell {w:I} {T:aG} {s:O} {vs:List ae} {i:Nat} {v:ae} (c:Row w T s vs) (hi:vs[i]? =some v):∃p,s.a=some p/\w.cell? (p.add i)=some v:=by
 rcases c with ⟨_,_,_,rfl⟩|⟨b,o,j,f,d,e,h⟩
 .cases hi
 .exact ⟨_,d,cellAt (p:=⟨b,o,none⟩) e rfl (h i v hi)⟩
def aS (w:I) (e:aG) (sz:Nat) (s:O) (xs:List ae):Prop:=w.ownsRow 0 e sz s.v s.n xs
def aS.nil (w:I) (e:aG) (sz:Nat):aS w e sz ⟨none,0,0⟩ []:=World.ownsRow_nil w 0 e sz
def aS.len {w:I} {e:aG} {sz:Nat} {s:O} {xs:List ae} (c:aS w e sz s xs):xs.length=s.n *sz:=c.1
def aS.cases {w:I} {e:aG} {sz:Nat} {s:O} {xs:List ae} (d:aS w e sz s xs):
  (s=⟨none,0,0⟩/\xs=[])\/∃g cur,s.a=some ⟨g,0,none⟩/\w.heap[g]? =some (.cells cur e (0,0))/\s.n<=s.c/\s.c<=maxLen/\cur.size=s.c *sz/\cur.toList.take (s.n *sz)=xs:=by
 obtain ⟨a,A,z⟩:=s;obtain ⟨y,d⟩:=d;rcases d with ⟨h,j⟩|⟨g,cap,cur,h,_,j,k,q,u,x⟩
 .cases h;exact .inl ⟨rfl,mq (by simpa using y)⟩
 .cases h;exact .inr ⟨g,cur,rfl,j,k,q,u,x⟩
def aS.row {w:I} {e:aG} {sz:Nat} {s:O} {xs:List ae} (d:aS w e sz s xs):Row w e s xs:=by
 rcases d.cases with ⟨rfl,rfl⟩|⟨g,cur,h,j,_,_,_,k⟩
 .exact .inl ⟨rfl,rfl,rfl,rfl⟩
 .refine .inr ⟨g,0,cur,(0,0),h,j,λi v c=>?_⟩;rw [<-k,kc] at c;split at c
  .simpa using c
  .cases c
def aS.ck {w w':I} {e:aG} {sz:Nat} {s:O} {xs:List ae} (c:aS w e sz s xs) (n:∀b∈ay s,b<w.heap.size->w'.heap[b]? =w.heap[b]?):aS w' e sz s xs:=by
 obtain ⟨q,c⟩:=c;refine ⟨q,?_⟩;rcases c with c|⟨g,cap,cur,d,j,h,r⟩
 .exact .inl c
 .have k:s.a=some ⟨g,0,none⟩:=(Value.slice.inj d).1;exact .inr ⟨g,cap,cur,d,j,(n g (by simp [ay,k]) (iK h)).trans h,r⟩
def aS.fr {M:Nat->Prop} {w w':I} {e:aG} {sz:Nat} {s:O} {xs:List ae} (c:aS w e sz s xs) (h:Fr M w w') (k:∀b∈ay s,¬M b):aS w' e sz s xs:=
 c.ck λb d j=>h.ck b j (k b d)
def aS.lt {w:I} {e:aG} {sz:Nat} {s:O} {xs:List ae} (c:aS w e sz s xs):∀b∈ay s,b<w.heap.size:=c.row.lt
def aS.made (w:I) (e:aG) (sz n:Nat) (cs:List ae) (c:cs.length=n *sz) (d:n<=maxLen):aS (w.alloc (.cells cs.toArray e)) e sz ⟨some ⟨w.heap.size,0,none⟩,n,n⟩ cs:=
 ⟨c,.inr ⟨w.heap.size,n,cs.toArray,rfl,dv _,gJ w _,bB _,d,by simpa using c,by rw [<-c];simp⟩⟩
def Row.made (w:I) (e:aG) (n c:Nat) (cs:List ae):Row (w.alloc (.cells cs.toArray e)) e ⟨some ⟨w.heap.size,0,none⟩,n,c⟩ cs:=
 .inr ⟨w.heap.size,0,cs.toArray,(0,0),rfl,gJ w _,λi v d=>by simpa using d⟩
def I5 (s:O):s.v.ownBlock=s.a.map (·.block):=by obtain ⟨a,d,c⟩:=s;cases a<;>rfl
structure gy (P:aM) (t e:aG) (z:ae) (sz bytes:Nat):Prop where
 ht:P.underlying t=some (.slice e)
 hi:(P.info? e).map (λi=>(i.zero,i.size,i.bytes))=some (some z,sz,bytes)
 hz:z.cells.size=sz
 hs:0<sz
 hb:0<bytes
def Row.qi {w:I} {T:aG} {s:O} {vs:List ae} (h:Row w T s vs):∀b∈ay s,∃c f,w.heap[b]? =some (.cells c T f):=by
 rcases h with ⟨d,_⟩|⟨b,o,c,f,d,j,q⟩
 .simp [ay,d]
 .intro e k;have n:e=b:=by simpa [ay,d] using k
  subst n;exact ⟨c,f,j⟩
def qB (kd:jv) (es:Array MapEntry) (ms:List (Int×ae)):Prop:=es.toList.map (λc=>(c.key,c.val))=ms.map λp=>(Value.int kd p.1,p.2)
def j9 (ms:List (Int×ae)) (k:Int):Option ae:=(ms.find? λp=>p.1==k).map (·.2)
def AF {kd:jv} {k:Int}:∀{es:List MapEntry} {ms:List (Int×ae)} {i:Nat},es.map (λh=>(h.key,h.val))=ms.map (λp=>(Value.int kd p.1,p.2))->
  Instr.findNow (.int kd) (.int kd k) es i=some ((ms.findIdx? λp=>p.1==k).bind λe=>(ms[e]?).map λp=>(i+e,p.2))
 |[],[],i,_=>rfl
 |[],_::_,_,c=>by simp at c
 |_::_,[],_,c=>by simp at c
 |h::es,p::ms,i,c=>by
  simp only [List.map_cons,List.cons.injEq,Prod.mk.injEq] at c;obtain ⟨⟨q,u⟩,w⟩:=c;have x:=AF (kd:=kd) (k:=k) (i:=i+1) w;unfold Instr.findNow;simp only [q,Instr.sameNow,if_true];by_cases d:p.1=k
  .have j:(k==p.1)=true:=by simp [d]
   have n:(p.1==k)=true:=by simp [d]
   simp [j,List.findIdx?_cons,n,u]
  .have j:(k==p.1)=false:=by simp;exact λc=>d c.symm
   have n:(p.1==k)=false:=by simpa using d
   simp only [j,x,List.findIdx?_cons,n,Bool.false_eq_true,if_false];congr 1;cases y:ms.findIdx? (λp=>p.1==k) with
   |none=>simp
   |some e=>simp [Nat.add_assoc,Nat.add_comm 1 e]
def Im {ms:List (Int×ae)} {k:Int} {i:Nat}:(((ms.findIdx? λp=>p.1==k).bind λd=>(ms[d]?).map λp=>(i+d,p.2)).map (·.2))=j9 ms k:=by
 unfold j9;induction ms generalizing i with
 |nil=>rfl
 |cons p ms h=>
  by_cases e:p.1=k
  .have c:(p.1==k)=true:=by simp [e]
   simp [List.findIdx?_cons,c]
  .have c:(p.1==k)=false:=by simpa using e
   simp only [List.findIdx?_cons,c,Bool.false_eq_true,if_false,List.find?_cons];rw [<-h (i:=i+1)];cases j:ms.findIdx? (λp=>p.1==k) with
   |none=>simp
   |some d=>simp [Function.comp_def]
structure zf (P:aM) (T kt et:aG) (kd:jv) (z:ae):Prop where
 hT:P.underlying T=some (.map kt et)
 hk:P.underlying kt=some (.int kd)
 hz:(P.info? et).map (·.zero)=some (some z)
def F1 {P:aM} {c:aG} {kd:jv} (d:P.underlying c=some (.int kd)) (b:Bool) (k:Int) (w:I):(Instr.checkKey b 10000 c (.int kd k)).run P w=.ok () w:=by unfold Instr.checkKey;simp [run_underlying d]
def MD {P:aM} {c:aG} {z:ae} (e:(P.info? c).map (·.zero)=some (some z)) (w:I):(zeroValue c).run P w=.ok z w:=by obtain ⟨i,d,h⟩:=Option.map_eq_some_iff.1 e;simp [zeroValue,typeInfo,d,h]
def Ry {P:aM} {T E x:aG} {kd:jv} {z:ae} (j:zf P T E x kd z) {w:I} {c:Nat} {es:Array MapEntry} {clock:Nat} {ms:List (Int×ae)}
  (e:w.heap[c]? =some (.map es clock)) (h:qB kd es ms) (k:Int) (v:ae) (C:j9 ms k=none):
  ∃d n,(Instr.mapUpdate T (.map (some c)) (.int kd k) v).run P w=.ok () d/\d.heap[c]? =some (.map n (clock+1))/\qB kd n (ms++[(k,v)])/\Fr (λb=>b=c) w d/\d.heap.size=w.heap.size:=by
 have y:=AF (k:=k) (i:=0) h;have A:(getObj c).run P w=.ok (.map es clock) w:=by simp [getObj,Sem.run,e]
 have q:=Im (ms:=ms) (k:=k) (i:=0);have B:=iK e;have D:((ms.findIdx? λp=>p.1==k).bind λu=>(ms[u]?).map λp=>(0+u,p.2))=none:=by rw [C] at q;simpa using q
 refine ⟨{w with heap:=w.heap.setIfInBounds c (.map (es.push {key:=.int kd k,val:=v,born:=clock}) (clock+1))},es.push {key:=.int kd k,val:=v,born:=clock},?_,by simp [B],?_,Fr.setObj w c _ rfl,by simp⟩
 .unfold Instr.mapUpdate Instr.findKey;simp only [Sem.run_bind,run_underlying j.hT,Result.andThen_ok,A,F1 j.hk,run_underlying j.hk,y,D];simp [setObj,Sem.run,e]
 .unfold qB at h ⊢;simp [h]
def Rw {P:aM} {t e:aG} {z:ae} {sz bytes:Nat} (d:gy P t e z sz bytes) (w:I) (n:Nat) (B:n *bytes<=140737488355328):
  ∃c,(Instr.makeSlice t (.int .i64 (n:Int)) (.int .i64 (n:Int))).run P w=.ok (.slice (some ⟨w.heap.size,0,none⟩) n n) c/\aS c e sz ⟨some ⟨w.heap.size,0,none⟩,n,n⟩ (madeCells z.cells (n *sz)).toList/\Fr (λ_=>False) w c:=by
 obtain ⟨i,x,A,y,u⟩:=info_parts d.hi;have C:n<=140737488355328:=by have:=Nat.le_mul_of_pos_right n d.hb;omega
 obtain ⟨c,j,k,q⟩:=run_make_full (P:=P) w 0 t e i z sz d.ht x A y .i64 .i64 n (by rw [u,Nat.mul_comm];omega) (by unfold maxLen;omega) (dv _);exact ⟨c,j,k,Fr.grown q λ_ h=>by cases h⟩
abbrev ao (w w':I):Prop:=Fr (λ_=>False) w w'
abbrev aj (b:Nat):Addr:=⟨b,0,none⟩
def dD (b:UInt8):ae:=.int .u8 (b.toNat:Int)
def dp (n:Int):ae:=.int .i64 n
def Fc (bs:List UInt8):∀c∈bs.map dD,c.oneCell'=true:=by intro c d;obtain ⟨b,_,rfl⟩:=cQ.1 d;rfl
def HQ (l:List Int):∀c∈l.map dp,c.oneCell'=true:=by intro c d;obtain ⟨b,_,rfl⟩:=cQ.1 d;rfl
def Fr.cR {M:Nat->Prop} {a b c:I} (d:Fr M a b) (k:ao b c):Fr M a c:=d.trans k λ_ _ d=>d.elim
def Fr.nl {M:Nat->Prop} {a b:I} (c:ao a b):Fr M a b:=c.mono λ_ _ c=>c.elim
def Fr.kU {M:Nat->Prop} {a b c:I} (e:ao a b) (k:Fr M b c) (j:∀d,M d->a.heap.size<=d):ao a c:=e.trans k λd n h=>by have:=j d h;omega
def mY {w:I} {p:Addr} {v:ae} (c:w.cell? p=some v):p.block<w.heap.size:=by
 unfold World.cell? at c;cases d:w.heap[p.block]? with
 |none=>rw [d] at c;simp at c
 |some o=>exact (Array.getElem?_eq_some_iff.1 d).1
def OQ {M:Nat->Prop} {w w':I} (d:Fr M w w') {p:Addr} {v:ae} (c:w.cell? p=some v) (e:¬M p.block):w'.cell? p=some v:=by have:=d.ck p.block (mY c) e;unfold World.cell? at c ⊢;rw [this];exact c
def add_add (p:Addr) (i j:Nat):(p.add i).add j=p.add (i+j):=by unfold Addr.add;by_cases c:i=0<;>by_cases d:j=0<;>simp [c,d,Nat.add_assoc]
def hf (p:Addr):p.add 0=p:=by simp [Addr.add]
def fB (w:I) (s:O) (vs:List ae):Prop:=(s.a=none->s.n=0/\s.c=0)/\∀i v,vs[i]? =some v->∃p,s.a=some p/\w.cell? (p.add i)=some v
def fB.nil (w:I):fB w ⟨none,0,0⟩ []:=⟨λ_=>⟨rfl,rfl⟩,λi v c=>by simp at c⟩
def Row.qV {w:I} {T:aG} {s:O} {vs:List ae} (c:Row w T s vs):fB w s vs:=by
 refine ⟨λj=>?_,λi v k=>c.cell k⟩;rcases c with ⟨_,e,h,_⟩|⟨b,o,n,f,d,_⟩
 .exact ⟨e,h⟩
 .rw [j] at d;cases d
def fB.fr {M:Nat->Prop} {w w':I} {s:O} {vs:List ae} (c:fB w s vs) (h:Fr M w w') (k:∀b∈ay s,¬M b):fB w' s vs:=
 ⟨c.1,λi v j=>by obtain ⟨p,d,e⟩:=c.2 i v j;exact ⟨p,d,OQ h e (by rw [iF];exact k _ (by simp [ay,d]))⟩⟩
def fB.get {w:I} {s:O} {vs:List ae} (e:fB w s vs) {i j:Nat} {v:ae} (hi:vs[i]? =some v) (c:j=i *1) {K:Addr->Prop} (k:∀p,s.a=some p->w.cell? (p.add j)=some v->K p):W.ct s.a K:=by obtain ⟨p,d,h⟩:=e.2 i v hi;rw [d];rw [Nat.mul_one] at c;subst c;exact k p d h
def sub (s:O) (l d:Nat):O:=⟨if s.c=l then s.a else s.a.map (·.add (l *1)),d - l,s.c - l⟩
def fB.sub {w:I} {s:O} {vs:List ae} (h:fB w s vs) (l hi:Nat) (x:vs.length<=s.n) (y:s.n<=s.c) (A:l<=hi) (z:hi<=s.c):fB w (sub s l hi) ((vs.take hi).drop l):=by
 refine ⟨λd=>?_,λi v e=>?_⟩
 .have:s.a=none:=by
   unfold W.sub at d;simp only at d;split at d
   .exact d
   .simpa using d
  obtain ⟨q,u⟩:=h.1 this;unfold W.sub;simp only;omega
 .rw [List.getElem?_drop,kc] at e;split at e
  .rename_i B;obtain ⟨p,k,j⟩:=h.2 _ _ e;have hlen:=(cD.1 e).1;unfold W.sub;simp only [k];rw [af (by omega)];exact ⟨_,rfl,by rw [add_add,Nat.mul_one];exact j⟩
  .cases e
def vN {P:aM} {t ty e:aG} {z:ae} {sz bytes:Nat} (h:gy P t e z sz bytes) {w:I} {s src:O} {xs news:List ae}
  (A:aS w e sz s xs) (hr:fB w src news) (x:news.length=src.n *sz) (d:∀k∈news,k.oneCell'=true) (u:(s.n+src.n) *bytes<=140737488355328):
  ∃c C,(bb #[t,t] ty #[s.v,src.v]).run P w=.ok c.v C/\aS C e sz c (xs++news)/\c.n=s.n+src.n/\Fr (λb=>b∈ay s) w C/\
   (∀b∈ay c,b∈ay s\/w.heap.size<=b)/\(c.a=none->s.a=none/\src.n=0):=by
 obtain ⟨i,F,Y,L,Q⟩:=info_parts h.hi;have aa:s.n+src.n<=140737488355328:=by have:=Nat.le_mul_of_pos_right (s.n+src.n) h.hb;omega
 obtain ⟨sa,B,M⟩:=src;cases sa with
 |none=>
  obtain ⟨q,H⟩:=hr.1 rfl;simp only at q H;subst q H;have S:news=[]:=mq (by simpa using x);subst S;have:=run_append_owned_none (P:=P) (w:=w) 0 t ty e i sz h.ht F s.v s.n xs A;exact ⟨s,w,this,by simpa using A,by simp,Fr.refl _ _,λb u=>.inl u,λE=>⟨E,rfl⟩⟩
 |some G=>
  simp only at x u aa;have J:∀y k,news[y]? =some k->w.cell? (G.add y)=some k:=λy k hj=>by obtain ⟨p,hp,hc⟩:=hr.2 y k hj;cases hp;exact hc
  obtain ⟨v',C,K,af,aj,S⟩:=run_append_own (P:=P) w 0 t ty e i z sz bytes h.ht F Y L Q h.hz h.hs s.v s.n xs A G B M news x J d (by unfold maxLen;omega) u (dv _);have hv:∃c:O,v'=c.v/\c.n=s.n+B/\(c.a=none->v'=.slice none 0 0):=by
   rcases af.2 with ⟨d,h2⟩|⟨g,cap,cur,d,_⟩
   .exact ⟨⟨none,0,0⟩,d,by show 0=_;omega,λ_=>d⟩
   .exact ⟨⟨_,_,_⟩,d,rfl,λE=>by cases E⟩
  obtain ⟨c,rfl,ad,al⟩:=hv;refine ⟨c,C,K,?_,ad,?_,?_,?_⟩
  .unfold aS;rw [ad];exact af
  .refine Fr.grown aj λg j=>?_;rw [I5] at j;cases W:s.a with
   |none=>simp [W] at j
   |some p=>simp [W] at j;simp [ay,W,j]
  .intro g j;rcases A.cases with ⟨rfl,rfl⟩|⟨D,cur,ac,ai,ak,ar,ab,ao⟩
   .obtain ⟨v2,w2,an,am,_,_⟩:=run_append_own (P:=P) w w.heap.size t ty e i z sz bytes h.ht F Y L Q h.hz h.hs (.slice none 0 0) 0 [] (World.ownsRow_nil w _ e sz) G B M news x J d (by unfold maxLen;omega) (by simpa using u) (bB _);have q:(Result.ok c.v C:Result ae)=.ok v2 w2:=K.symm.trans an;have H:=(Result.ok.inj q).1;subst H;rcases am.2 with ⟨d,_⟩|⟨g2,ap,aq,d,h2,_⟩
    .have:c.a=none:=(Value.slice.inj d).1;simp [ay,this] at j
    .have:c.a=some ⟨g2,0,none⟩:=(Value.slice.inj d).1;simp [ay,this] at j;exact .inr (j▸h2)
   .obtain ⟨au,N,Z⟩:=s;simp only at ac ak ab ao u aa;subst ac;by_cases ag:N+B<=Z
    .subst L;have ah:N *i.size+news.length<=cur.size:=by rw [x,ab,<-Nat.add_mul];exact kZ _ ag
     have T:=run_append_room (P:=P) w t ty e i h.ht F D N Z cur ai G B M news x J d ag ah;have q:=K.symm.trans T;have:c.a=some ⟨D,0,none⟩:=(Value.slice.inj (Result.ok.inj q).1).1;simp [ay,this] at j ⊢;exact .inl j
    .subst L;have holds:∀y k,xs[y]? =some k->w.cell? ((⟨D,0,none⟩:Addr).add y)=some k:=World.ownsRow.cells (g:=D) A rfl;have T:=run_append_grow (P:=P) w t ty e i z h.ht F Y ⟨D,0,none⟩ N Z xs A.len holds G B M news x J (by omega) (by omega) (growslice_fits (by omega) (by rw [Q];exact u));have q:=K.symm.trans T;have:c.a=some ⟨w.heap.size,0,none⟩:=(Value.slice.inj (Result.ok.inj q).1).1;simp [ay,this] at j;exact .inr (by omega)
  .intro E;have:=S.1 (al E);refine ⟨?_,this.2⟩;exact (Value.slice.inj this.1).1
def aS.cap {w:I} {e:aG} {sz:Nat} {s:O} {xs:List ae} (d:aS w e sz s xs):s.n<=s.c:=by
 rcases d.cases with ⟨rfl,_⟩|⟨g,cur,_,_,d,_⟩
 .exact bB _
 .exact d
def Rd (w:I) (s:O) (vs:List ae):Prop:=s.n=vs.length/\s.n<=s.c/\fB w s vs
def Ow (w:I) (e:aG) (s:O) (vs:List ae):Prop:=s.n=vs.length/\aS w e 1 s vs
def Ow.rd {w:I} {e:aG} {s:O} {vs:List ae} (c:Ow w e s vs):Rd w s vs:=⟨c.1,c.2.cap,c.2.row.qV⟩
def Rd.fr {M:Nat->Prop} {w w':I} {s:O} {vs:List ae} (c:Rd w s vs) (d:Fr M w w') (e:∀b∈ay s,¬M b):Rd w' s vs:=⟨c.1,c.2.1,c.2.2.fr d e⟩
def Ow.fr {M:Nat->Prop} {w w':I} {e:aG} {s:O} {vs:List ae} (c:Ow w e s vs) (d:Fr M w w') (h:∀b∈ay s,¬M b):Ow w' e s vs:=⟨c.1,c.2.fr d h⟩
def Rd.bA {w w':I} {s:O} {vs:List ae} (c:Rd w s vs) (d:ao w w'):Rd w' s vs:=c.fr d λ_ _ c=>c
def Ow.bA {w w':I} {e:aG} {s:O} {vs:List ae} (c:Ow w e s vs) (d:ao w w'):Ow w' e s vs:=c.fr d λ_ _ c=>c
def Rd.nil (w:I):Rd w ⟨none,0,0⟩ []:=⟨rfl,bB _,fB.nil w⟩
def Ow.nil (w:I) (e:aG):Ow w e ⟨none,0,0⟩ []:=⟨rfl,aS.nil w _ _⟩
def Ow.lt {w:I} {e:aG} {s:O} {vs:List ae} (c:Ow w e s vs):∀b∈ay s,b<w.heap.size:=c.2.lt
def Ow.made (w:I) (e:aG) (cs:List ae) (n:Nat) (c:n=cs.length) (d:n<=1000000):Ow (w.alloc (.cells cs.toArray e)) e ⟨some ⟨w.heap.size,0,none⟩,n,n⟩ cs:=
 ⟨c,aS.made w e 1 n cs (by omega) (by unfold maxLen;omega)⟩
def Rd.get {w:I} {s:O} {vs:List ae} (c:Rd w s vs) {i j:Nat} {v:ae} (hi:vs[i]? =some v) (d:j=i *1) {K:Addr->Prop} (e:∀p,s.a=some p->w.cell? (p.add j)=some v->K p):W.ct s.a K:=c.2.2.get hi d e
def Rd.sub {w:I} {s:O} {vs:List ae} (c:Rd w s vs) (l hi:Nat) (d:l<=hi) (j:hi<=vs.length):Rd w (sub s l hi) ((vs.take hi).drop l):=by
 have e:=c.1;have h:=c.2.1;refine ⟨?_,?_,c.2.2.sub l hi (by omega) c.2.1 d (by omega)⟩
 .unfold W.sub;simp;omega
 .unfold W.sub;simp;omega
def EZ {t ty e:aG} {z:ae} {bytes:Nat} {P:aM} (u:gy P t e z 1 bytes) {w:I} {s src:O} {xs j:List ae} (k:Ow w e s xs) (d:Rd w src j) (D:∀F∈j,F.oneCell'=true) (E:(xs.length+j.length) *bytes<=140737488355328):
  ∃c h,(bb #[t,t] ty #[s.v,src.v]).run P w=.ok c.v h/\Ow h e c (xs++j)/\Fr (λb=>b∈ay s) w h/\(∀b∈ay c,b∈ay s\/w.heap.size<=b)/\(c.a=none->s.a=none/\j=[]):=by
 obtain ⟨c,h,x,y,A,B,C,n⟩:=vN (ty:=ty) u k.2 d.2.2 (by rw [d.1];omega) D (by rw [k.1,d.1];exact E);refine ⟨c,h,x,⟨?_,y⟩,B,C,λq=>⟨(n q).1,?_⟩⟩
 .rw [A,k.1,d.1];simp
 .have:=(n q).2;rw [d.1] at this;exact mq this
def AH {α:Type} (f:α->List ae) (sz:Nat) (d:∀a,(f a).length=sz):∀(cs:List α) (i j:Nat) (a:α),cs[i]? =some a->j<sz->(cs.flatMap f)[i *sz+j]? =(f a)[j]?
 |[],i,j,a,c,_=>by simp at c
 |h::cs,0,j,a,c,e=>by simp at c;subst c;rw [cO,Nat.zero_mul,Nat.zero_add,List.getElem?_append_left (by rw [d];exact e)]
 |h::cs,i+1,j,a,c,e=>by rw [cO,List.getElem?_append_right (by rw [d,Nat.succ_mul];omega),d,show (i+1) *sz+j - sz=i *sz+j by rw [Nat.succ_mul];omega];exact AH f sz d cs i j a (by simpa using c) e
def rf {α:Type} (f:α->List ae) (sz:Nat) (c:∀a,(f a).length=sz) (cs:List α):(cs.flatMap f).length=cs.length *sz:=by
 induction cs with
 |nil=>simp
 |cons e cs d=>rw [cO,List.length_append,d,c,List.length_cons,Nat.succ_mul];omega
def fB.elem {α:Type} {f:α->List ae} {sz:Nat} (d:∀a,(f a).length=sz) (k:0<sz) {w:I} {s:O} {cs:List α} (h:fB w s (cs.flatMap f)) {i:Nat} {a:α} (hi:cs[i]? =some a) {K:Addr->Prop}
  (x:∀p,s.a=some p->(∀c v,(f a)[c]? =some v->w.cell? ((p.add (i *sz)).add c)=some v)->K p):W.ct s.a K:=by
 obtain ⟨z,y⟩:∃v,(f a)[0]? =some v:=⟨_,bc (by rw [d];exact k)⟩;obtain ⟨p,e,_⟩:=h.2 (i *sz+0) z (by rw [AH f sz d cs i 0 a hi k];exact y);rw [e];refine x p e λc v n=>?_;have u:c<sz:=by have:=(cD.1 n).1;rwa [d] at this
 obtain ⟨A,j,q⟩:=h.2 (i *sz+c) v (by rw [AH f sz d cs i c a hi u];exact n);rw [e] at j;cases j;rw [add_add];exact q
def pY {w:I} {b:Nat} {cs:Array ae} {T:aG} (c:w.heap[b]? =some (.cells cs T (0,0))) (i:Nat) (hi:i<cs.size) (v:ae):
  (w.cell? ((aj b).add i)).isSome=true/\w.frozen? ((aj b).add i)=false/\(w.setCell ((aj b).add i) v).heap[b]? =some (.cells (cs.setIfInBounds i v) T (0,0))/\Fr (·=b) w (w.setCell ((aj b).add i) v):=by
 refine ⟨?_,frozenAt (p:=aj b) c,?_,Fr.set _ _ _ (iF _ _)⟩
 .rw [cellAt (p:=aj b) (v:=cs[i]) c rfl (by simp [hi])];rfl
 .have:=setAt (p:=aj b) (i:=i) (v:=v) c rfl;simpa using this
def Fr.put (w:I) (l:Nat) (o:Obj):Fr (·=l) w (w.putObj l o):=⟨rfl,rfl,rfl,by simp [World.putObj],λe _ d=>by have:l≠e:=λc=>d c.symm;simp [World.putObj,Array.getElem?_setIfInBounds_ne this]⟩
def uv {w:I} {l:Nat} {x:Obj} (c:w.heap[l]? =some x) (o:Obj):(w.putObj l o).heap[l]? =some o:=by have:=iK c;simp [World.putObj,this]
def Nh (x y:Nat) (d:x<18446744073709551616) (e:y<18446744073709551616):iG .u64 (x:Int) (y:Int)=((x&&& y:Nat):Int):=by
 unfold iG;have c:(eJ (IntKind.bits .u64) (x:Int)&&& eJ (IntKind.bits .u64) (y:Int)).toNat=x&&& y:=by show (eJ 64 (x:Int)&&& eJ 64 (y:Int)).toNat=_;rw [BitVec.toNat_and,BitVec.ofInt_natCast,BitVec.ofInt_natCast,BitVec.toNat_ofNat,BitVec.toNat_ofNat,Nat.mod_eq_of_lt d,Nat.mod_eq_of_lt e]
 rw [c];have:x&&& y<=x:=Nat.and_le_left;exact IntWalk.u64_in _ (by omega)
def E5 (x y:Nat) (c:x<18446744073709551616) (d:y<18446744073709551616):k9 .u64 (x:Int) (y:Int)=((x|||y:Nat):Int):=by
 unfold k9;have e:(eJ (IntKind.bits .u64) (x:Int)|||eJ (IntKind.bits .u64) (y:Int)).toNat=x|||y:=by show (eJ 64 (x:Int)|||eJ 64 (y:Int)).toNat=_;rw [BitVec.toNat_or,BitVec.ofInt_natCast,BitVec.ofInt_natCast,BitVec.toNat_ofNat,BitVec.toNat_ofNat,Nat.mod_eq_of_lt c,Nat.mod_eq_of_lt d]
 rw [e];have:x|||y<2^64:=Nat.or_lt_two_pow c d
 exact IntWalk.u64_in _ (by omega)
def vP (x y:Nat) (c:x<18446744073709551616) (d:y<18446744073709551616):i6 .u64 (x:Int) (y:Int)=((x^^^y:Nat):Int):=by
 unfold i6;have e:(eJ (IntKind.bits .u64) (x:Int)^^^eJ (IntKind.bits .u64) (y:Int)).toNat=x^^^y:=by show (eJ 64 (x:Int)^^^eJ 64 (y:Int)).toNat=_;rw [BitVec.toNat_xor,BitVec.ofInt_natCast,BitVec.ofInt_natCast,BitVec.toNat_ofNat,BitVec.toNat_ofNat,Nat.mod_eq_of_lt c,Nat.mod_eq_of_lt d]
 rw [e];have:x^^^y<2^64:=Nat.xor_lt_two_pow c d;exact IntWalk.u64_in _ (by omega)
def Vs (x:Nat) (e:x<18446744073709551616):x^^^18446744073709551615=18446744073709551615 - x:=by have c:=BitVec.toNat_not (x:=BitVec.ofNat 64 x);have d:(~~~ (BitVec.ofNat 64 x))=BitVec.ofNat 64 x^^^BitVec.allOnes 64:=(BitVec.xor_allOnes).symm;rw [d,BitVec.toNat_xor,BitVec.toNat_ofNat,Nat.mod_eq_of_lt e,BitVec.toNat_allOnes] at c;omega
def IY (n a i:Nat) (c:n<2^i):n|||(a *2^i)=n+a *2^i:=by rw [Nat.mul_comm a,Nat.or_comm,<-Nat.two_pow_add_eq_or_of_lt c,Nat.add_comm]
def Sb (x:Int):BitVec.toInt (eJ 64 x)=ab .i64 x:=by rw [BitVec.toInt_ofInt,IntKind.wrap_i64,show ((2^64:Nat))=18446744073709551616 from rfl];simp only [Int.bmod];split<;>omega
def MB (b:BitVec 64):ab .i64 (b.toNat:Int)=b.toInt:=by rw [IntKind.wrap_i64,BitVec.toInt_eq_toNat_bmod,show ((2^64:Nat))=18446744073709551616 from rfl];have:=b.isLt;simp only [Int.bmod];split<;>omega
def Nl (x:Int) (c:-9223372036854775808<=x/\x<=9223372036854775807):i6 .i64 x 0=x:=by unfold i6;show ab .i64 ((eJ 64 x^^^eJ 64 0).toNat:Int)=x;rw [show eJ 64 0=0#64 from rfl,BitVec.xor_zero,MB,Sb,IntWalk.i64_in _ c]
def Nk (x:Int) (c:-9223372036854775808<=x/\x<=9223372036854775807):i6 .i64 x (-1)=-x - 1:=by unfold i6;show ab .i64 ((eJ 64 x^^^eJ 64 (-1)).toNat:Int)=_;rw [show eJ 64 (-1)=BitVec.allOnes 64 from rfl,BitVec.xor_allOnes,MB,BitVec.toInt_not,BitVec.toNat_ofInt,show ((2^64:Nat))=18446744073709551616 from rfl];simp only [Int.bmod];split<;>omega
def Ni (c:UInt8):iG .u8 (c.toNat:Int) 127=((c.toNat%128:Nat):Int):=by
 have e:∀d:Fin 256,iG .u8 (d.val:Int) 127=((d.val%128:Nat):Int):=by decide+kernel
 exact e ⟨c.toNat,c.toNat_lt⟩
def Nj (n:Nat) (d:n<256):k9 .u8 (n:Int) 128=((n%128+128:Nat):Int):=by
 have e:∀c:Fin 256,k9 .u8 (c.val:Int) 128=((c.val%128+128:Nat):Int):=by decide+kernel
 exact e ⟨n,d⟩
def Ek (n:Nat):ab .u8 (n:Int)=((n%256:Nat):Int):=by rw [IntKind.wrap_u8];omega
def mD (n:Nat) (c:n<18446744073709551616):ab .u64 (n:Int)=(n:Int):=IntWalk.u64_in _ (by omega)
def AB (n m:Nat) (c:0<m):Int.fdiv (n:Int) (m:Int)=((n / m:Nat):Int):=by rw [Int.fdiv_eq_ediv_of_nonneg _ (by omega)];rfl
def bw (i:Nat) (c:i<9223372036854775807):ab .i64 ((i:Int)+1)=((i+1:Nat):Int):=by rw [IntWalk.i64_in _ (by omega)];omega
structure En where
 fp:List Nat
 P:I->Prop
 st:∀w w',(∀b∈fp,b<w.heap.size->w'.heap[b]? =w.heap[b]?)->P w->P w'
 lt:∀w,P w->∀b∈fp,b<w.heap.size
 nd:fp.Nodup
def En.ob (b:Nat) (o:Obj):En:=⟨[b],λd=>d.heap[b]? =some o,λd j h c=>(h b (by simp) (iK c)).trans c,λd c k e=>by simp at e;subst e;exact iK c,by simp⟩
abbrev En.c (b:Nat) (vs:List ae) (T:aG):En:=.ob b (.cells vs.toArray T (0,0))
def En.row (e:aG) (sz:Nat) (s:O) (vs:List ae):En:=⟨ay s,λh=>aS h e sz s vs,λ_ _ d c=>c.ck d,λ_ c=>c.lt,by unfold ay;split<;>simp⟩
def En.rd (s:O) (vs:List ae):En:=⟨if vs=[] then [] else ay s,λk=>Rd k s vs,λk x n d=>by
  refine ⟨d.1,d.2.1,d.2.2.1,λi v q=>?_⟩;obtain ⟨p,e,c⟩:=d.2.2.2 i v q;have j:vs≠[]:=λu=>by subst u;simp at q
  rw [af j] at n;have:=n p.block (by simp [ay,e]) (by have:=mY c;rwa [iF] at this);refine ⟨p,e,?_⟩;unfold World.cell? at c ⊢;rw [iF] at c ⊢;rw [this];exact c,λk d b h=>by
  split at h
  .cases h
  .rename_i j;have w:0<vs.length:=List.length_pos_iff.2 j;obtain ⟨p,e,c⟩:=d.2.2.2 0 vs[0] (bc w);simp [ay,e] at h;subst h;have:=mY c
   rwa [iF] at this,by split<;>(try simp);unfold ay;split<;>simp⟩
structure LH (M:Nat->Prop) (w0 w:I) (L D:List En):Prop where
 fr:Fr M w0 w
 own:∀e∈L,e.P w
 rd:∀e∈D,e.P w
 new:∀e∈L,∀b∈e.fp,w0.heap.size<=b\/M b
 nd:(L.flatMap (·.fp)).Nodup
 dj:∀e∈D,∀b∈e.fp,∀e'∈L,b∉e'.fp
def LH.start {M:Nat->Prop} {w:I} (D:List En) (d:∀c∈D,c.P w):LH M w w [] D:=⟨Fr.refl _ _,by simp,d,by simp,by simp,by simp⟩
def LH.u1 {M:Nat->Prop} {w:I} (L D:List En) (h:∀c∈L,c.P w/\∀b∈c.fp,M b) (n:(L.flatMap (·.fp)).Nodup) (e:∀c∈D,c.P w/\∀b∈c.fp,∀j∈L,b∉j.fp):LH M w w L D:=
 ⟨Fr.refl _ _,λc d=>(h c d).1,λc d=>(e c d).1,λc d b k=>.inr ((h c d).2 b k),n,λc d=>(e c d).2⟩
def LH.bA {M:Nat->Prop} {w0 w w':I} {L D:List En} (H:LH M w0 w L D) (f:ao w w'):LH M w0 w' L D:=
 ⟨H.fr.cR f,λc d=>c.st w w' (λb _ e=>f.ck b e id) (H.own c d),λc d=>c.st w w' (λb _ e=>f.ck b e id) (H.rd c d),H.new,H.nd,H.dj⟩
def LH.drew {M:Nat->Prop} {w0 w:I} {L D:List En} (H:LH M w0 w L D):LH M w0 w.drew L D:=H.bA (Fr.drew _ _)
def CE {α:Type} {f:α->List Nat}:∀{L:List α} {i:Nat} {e k:α},L[i]? =some e->(L.flatMap f).Nodup->(f k).Nodup->(∀d∈f k,d∈f e\/d∉L.flatMap f)->((L.set i k).flatMap f).Nodup
 |[],i,e,k,c,_,_,_=>by simp at c
 |a::L,0,e,k,c,h,u,n=>by
  simp at c;subst c;simp only [List.set_cons_zero,cO,gM] at h ⊢;refine ⟨u,h.2.1,λd j A q=>?_⟩;rintro rfl;rcases n d j with c|c
  .exact h.2.2 d c d q rfl
  .exact c (by simp only [cO,a5];exact .inr q)
 |a::L,i+1,e,k,c,h,u,n=>by
  simp only [List.getElem?_cons_succ] at c;simp only [List.set_cons_succ,cO,gM] at h ⊢;refine ⟨h.1,CE c h.2.1 u (λd j=>(n d j).imp id λc z=>c (by simp only [cO,a5];exact .inr z)),λd j A q=>?_⟩;rintro rfl;obtain ⟨g,x,y⟩:=ch.1 q;rcases De x with x|rfl
  .exact h.2.2 d j d (ch.2 ⟨g,x,y⟩) rfl
  .rcases n d y with w|w
   .exact h.2.2 d j d (ch.2 ⟨e,aI c,w⟩) rfl
   .exact w (by simp only [cO,a5];exact .inl j)
def LH.CW {M:Nat->Prop} {w0 w:I} {L D:List En} (H:LH M w0 w L D):∀b∈L.flatMap (·.fp),b<w.heap.size:=λb c=>by obtain ⟨d,e,c⟩:=ch.1 c;exact d.lt w (H.own d e) b c
def m1 {L:List En} (k:(L.flatMap (·.fp)).Nodup):∀{i:Nat} {e:En},L[i]? =some e->∀{j:Nat} {g:En},L[j]? =some g->i≠j->∀b∈e.fp,b∉g.fp:=by
 induction L with
 |nil=>intro i e h;simp at h
 |cons a L w=>
  simp only [cO,gM] at k;intro i e c j g d u b n q;cases i with
  |zero=>
   simp at c;subst c;cases j with
   |zero=>exact u rfl
   |succ j=>exact k.2.2 b n b (ch.2 ⟨g,aI (by simpa using d),q⟩) rfl
  |succ i=>
   cases j with
   |zero=>
    simp at d;subst d;exact k.2.2 b q b (ch.2 ⟨e,aI (by simpa using c),n⟩) rfl
   |succ j=>exact w k.2.1 (by simpa using c) (by simpa using d) (by omega) b n q
def LH.g9 {M:Nat->Prop} {w0 w w':I} {L D:List En} (H:LH M w0 w L D) {e:En} (i:Nat) (k:En) (hi:L[i]? =some e) (f:Fr (·∈e.fp) w w') (E:k.P w') (x:∀b∈k.fp,b∈e.fp\/w.heap.size<=b):LH M w0 w' (L.set i k) D:=by
 have n:=aI hi;have F:Fr M w0 w':=H.fr.trans f λq B G=>(H.new e n q G).resolve_left (by omega);refine ⟨F,λg c=>?_,λg c=>?_,λg c b d=>?_,CE hi H.nd k.nd λq B=>?_,λg c b d C y A=>?_⟩
 .obtain ⟨N,j⟩:=iQ.1 c;rw [yi] at j;split at j
  .split at j
   .cases j;exact E
   .cases j
  .rename_i J;refine g.st w w' (λb d z=>f.ck b z λu=>m1 H.nd hi j J b u d) (H.own g (aI j))
 .exact g.st w w' (λb d z=>f.ck b z λu=>H.dj g c b d e n u) (H.rd g c)
 .rcases De c with c|rfl
  .exact H.new g c b d
  .rcases x b d with h|h
   .exact H.new e n b h
   .exact .inl (bH H.fr.size h)
 .rcases x q B with h|h
  .exact .inl h
  .exact .inr λK=>by have:=H.CW q K;omega
 .rcases De y with y|rfl
  .exact H.dj g c b d C y A
  .rcases x b A with h|h
   .exact H.dj g c b d e n h
   .have:=g.lt w (H.rd g c) b d;omega
def LH.push {M:Nat->Prop} {w0 w w':I} {L D:List En} (H:LH M w0 w L D) (e:En) (f:ao w w') (z:e.P w') (k:∀b∈e.fp,w.heap.size<=b):LH M w0 w' (L++[e]) D:=by
 have j:=H.bA f;refine ⟨j.fr,λg c=>?_,j.rd,λg c b h=>?_,?_,λg c b h u d n=>?_⟩
 .rcases a5.1 c with c|c
  .exact j.own g c
  .simp at c;subst c;exact z
 .rcases a5.1 c with c|c
  .exact H.new g c b h
  .simp at c;subst c;exact .inl (bH H.fr.size (k b h))
 .rw [dh,gM];refine ⟨H.nd,by simpa using e.nd,λq A C B=>?_⟩;rintro rfl;have x:=H.CW q A;have y:=k q (by simpa using B);omega
 .rcases a5.1 d with d|d
  .exact H.dj g c b h u d n
  .simp at d;subst d;have x:=g.lt w (H.rd g c) b h;have y:=k b n;omega
def LH.alloc {M:Nat->Prop} {w0 w:I} {L D:List En} (H:LH M w0 w L D) (o:Obj):LH M w0 (w.alloc o) (L++[.ob w.heap.size o]) D:=
 H.push _ (Fr.alloc _ _ _) (gJ w o) (λb c=>by simp [En.ob] at c;omega)
def LH.fo {M:Nat->Prop} {w0 w w':I} {L D:List En} (H:LH M w0 w L D) (e:En) (f:ao w w') (u:e.P w') (y:∀b∈e.fp,w.heap.size<=b\/(b<w0.heap.size/\¬M b)\/∃g∈D,b∈g.fp):LH M w0 w' L (D++[e]):=by
 have d:=H.bA f;refine ⟨d.fr,d.own,λg c=>?_,d.new,d.nd,λg c b n h k j=>?_⟩
 .rcases a5.1 c with c|c
  .exact d.rd g c
  .simp at c;subst c;exact u
 .rcases a5.1 c with c|c
  .exact H.dj g c b n h k j
  .simp at c;subst c;rcases y b n with q|⟨q,z⟩|⟨B,A,x⟩
   .have:=h.lt w (H.own h k) b j;omega
   .exact (H.new h k b j).elim (λC=>by omega) z
   .exact H.dj B A b x h k j
def LH.forget {M:Nat->Prop} {w0 w:I} {L D:List En} (H:LH M w0 w L D) (e:List En) (h:∀c∈e,c∈D):LH M w0 w L e:=⟨H.fr,H.own,λc d=>H.rd c (h c d),H.new,H.nd,λc d=>H.dj c (h c d)⟩
def tI {α:Type} {a:α}:∀{l:List α} {i:Nat},a∈l.eraseIdx i->a∈l
 |[],_,c=>by simp at c
 |b::l,0,c=>by simp at c;simp [c]
 |b::l,i+1,c=>by
  simp at c;rcases c with c|c
  .simp [c]
  .exact ec _ (tI c)
def IL {α:Type} {f:α->List Nat}:∀{L:List α} {i:Nat},(L.flatMap f).Nodup->((L.eraseIdx i).flatMap f).Nodup
 |[],i,c=>by simp
 |a::L,0,c=>by simp only [cO,gM] at c;exact c.2.1
 |a::L,i+1,c=>by simp only [List.eraseIdx_cons_succ,cO,gM] at c ⊢;refine ⟨c.1,IL c.2.1,λk e n j=>c.2.2 k e n ?_⟩;obtain ⟨g,d,h⟩:=ch.1 j;exact ch.2 ⟨g,tI d,h⟩
def G9 {α:Type} {f:α->List Nat}:∀{L:List α} {i:Nat} {e:α},L[i]? =some e->(L.flatMap f).Nodup->∀b∈f e,∀g∈L.eraseIdx i,b∉f g
 |[],i,e,c,_=>by simp at c
 |a::L,0,e,c,h=>by simp at c;subst c;simp only [cO,gM] at h;intro b j g d k;exact h.2.2 b j b (ch.2 ⟨g,by simpa using d,k⟩) rfl
 |a::L,i+1,e,c,h=>by
  simp only [cO,gM] at h;intro b j g d k;simp only [List.getElem?_cons_succ] at c;simp only [List.eraseIdx_cons_succ,aB] at d;rcases d with rfl|d
  .exact h.2.2 b k b (ch.2 ⟨e,aI c,j⟩) rfl
  .exact G9 c h.2.1 b j g d k
def LH.freeze {M:Nat->Prop} {w0 w:I} {L D:List En} (H:LH M w0 w L D) {e:En} (i:Nat) (d:En) (hi:L[i]? =some e) (n:d.P w) (q:∀b∈d.fp,b∈e.fp):LH M w0 w (L.eraseIdx i) (D++[d]):=by
 refine ⟨H.fr,λg c=>H.own g (tI c),λg c=>?_,λg c=>H.new g (tI c),IL H.nd,λg c b j h k=>?_⟩
 .rcases a5.1 c with c|c
  .exact H.rd g c
  .simp at c;subst c;exact n
 .rcases a5.1 c with c|c
  .exact H.dj g c b j h (tI k)
  .simp at c;subst c;exact G9 hi H.nd b (q b j) h k
def LH.get {M:Nat->Prop} {w0 w:I} {L D:List En} (H:LH M w0 w L D) (i:Nat) {e:En} (hi:L[i]? =some e:=by rfl):e.P w:=H.own e (aI hi)
def LH.getD {M:Nat->Prop} {w0 w:I} {L D:List En} (H:LH M w0 w L D) (i:Nat) {e:En} (hi:D[i]? =some e:=by rfl):e.P w:=H.rd e (aI hi)
section
variable {M:Nat->Prop} {w0 w:I} {L D:List En}
def LH.ob (H:LH M w0 w L D) (i:Nat) {b:Nat} {o:Obj} (hi:L[i]? =some (.ob b o):=by rfl):w.heap[b]? =some o:=H.own _ (aI hi)
def LH.ld (H:LH M w0 w L D) (i j:Nat) {b:Nat} {vs:List ae} {T:aG} {v:ae} (hi:L[i]? =some (.c b vs T):=by rfl) (d:vs[j]? =some v:=by rfl):w.cell? ((aj b).add j)=some v:=
 cellAt (p:=aj b) (H.ob i hi) rfl (by simpa using d)
def LH.jN (H:LH M w0 w L D) (i:Nat) {b:Nat} {vs:List ae} {T:aG} {v:ae} (hi:L[i]? =some (.c b vs T):=by rfl) (d:vs[0]? =some v:=by rfl):w.cell? (aj b)=some v:=by
 have:=H.ld i 0 hi d
 rwa [hf] at this
def LH.set (H:LH M w0 w L D) (i j:Nat) {b:Nat} {vs:List ae} {T:aG} {v:ae} (hi:L[i]? =some (.c b vs T)) (h:j<vs.length):
  (w.cell? ((aj b).add j)).isSome=true/\w.frozen? ((aj b).add j)=false/\LH M w0 (w.setCell ((aj b).add j) v) (L.set i (.c b (vs.set j v) T)) D:=by obtain ⟨k,n,q,u⟩:=pY (H.ob i hi) j (by simpa using h) v;exact ⟨k,n,H.g9 i (.c b (vs.set j v) T) hi (u.mono λx _ d=>by simp [En.ob,d]) (by show _=_;rw [q];simp) (λb e=>.inl e)⟩
def LH.st (H:LH M w0 w L D) (i j:Nat) {b:Nat} {vs:List ae} {T:aG} {v:ae} {K:I->Prop} (hi:L[i]? =some (.c b vs T)) (e:∀d,LH M w0 d (L.set i (.c b (vs.set j v) T)) D->K d) (h:j<vs.length:=by simp):av w ((aj b).add j) v K:=by obtain ⟨k,n,q⟩:=H.set (v:=v) i j hi h;exact ⟨k,n,e _ q⟩
def LH.kQ (H:LH M w0 w L D) (i:Nat) {b:Nat} {vs:List ae} {T:aG} {v:ae} {K:I->Prop} (hi:L[i]? =some (.c b vs T)) (e:∀d,LH M w0 d (L.set i (.c b (vs.set 0 v) T)) D->K d) (h:0<vs.length:=by simp):av w (aj b) v K:=by
 have:=H.st (v:=v) (K:=K) i 0 hi e h
 rwa [hf] at this
def LH.DT (H:LH M w0 w L D) (i:Nat) {b:Nat} {B j e:ae} {T:aG} {d h n:ae} {K:I->Prop} (hi:L[i]? =some (.c b [B,j,e] T)) (C:∀q,LH M w0 q (L.set i (.c b [d,h,n] T)) D->K q):av w (aj b) d λu=>av u ((aj b).add 1) h λx=>av x ((aj b).add 2) n K:=by have k:=(cD.1 hi).1;exact H.kQ i hi (λu y=>y.st (vs:=[d,j,e]) (T:=T) i 1 (by simp [k]) (λx z=>z.st (vs:=[d,h,e]) (T:=T) i 2 (by simp [k]) (λE A=>C E (by simpa using A))))
def LH.jq (H:LH M w0 w L D) (i:Nat) {b:Nat} {G q j e:ae} {T:aG} {d h n u:ae} {K:I->Prop} (hi:L[i]? =some (.c b [G,q,j,e] T)) (J:∀x,LH M w0 x (L.set i (.c b [d,h,n,u] T)) D->K x):av w (aj b) d λy=>av y ((aj b).add 1) h λz=>av z ((aj b).add 2) n λA=>av A ((aj b).add 3) u K:=by have k:=(cD.1 hi).1;exact H.kQ i hi (λy B=>B.st (vs:=[d,q,j,e]) (T:=T) i 1 (by simp [k]) (λz C=>C.st (vs:=[d,h,j,e]) (T:=T) i 2 (by simp [k]) (λA E=>E.st (vs:=[d,h,n,e]) (T:=T) i 3 (by simp [k]) (λN F=>J N (by simpa using F)))))
def LH.KU (H:LH M w0 w L D) (i:Nat) {b:Nat} {P x q j e:ae} {T:aG} {d h n u y:ae} {K:I->Prop} (hi:L[i]? =some (.c b [P,x,q,j,e] T)) (Q:∀z,LH M w0 z (L.set i (.c b [d,h,n,u,y] T)) D->K z):av w (aj b) d λA=>av A ((aj b).add 1) h λB=>av B ((aj b).add 2) n λC=>av C ((aj b).add 3) u λE=>av E ((aj b).add 4) y K:=by have k:=(cD.1 hi).1;exact H.kQ i hi (λA F=>F.st (vs:=[d,x,q,j,e]) (T:=T) i 1 (by simp [k]) (λB G=>G.st (vs:=[d,h,q,j,e]) (T:=T) i 2 (by simp [k]) (λC J=>J.st (vs:=[d,h,n,j,e]) (T:=T) i 3 (by simp [k]) (λE N=>N.st (vs:=[d,h,n,u,e]) (T:=T) i 4 (by simp [k]) (λS O=>Q S (by simpa using O))))))
def LH.nw (H:LH M w0 w L D) {cs:Array ae} {T:aG} {K:I->Prop} (e:∀d,d.heap.size=w.heap.size+1->LH M w0 d (L++[.c w.heap.size cs.toList T]) D->K d):aN w (.cells cs T) K:=e _ (size_alloc _ _) (H.alloc _)
def LH.x4 (H:LH M w0 w L D) {o:Obj} {K:I->Prop} (d:∀c,c.heap.size=w.heap.size+1->LH M w0 c L D->c.heap[w.heap.size]? =some o->K c):aN w o K:=d _ (size_alloc _ _) (H.bA (Fr.alloc _ _ _)) (gJ w o)
def LH.dr (H:LH M w0 w L D) {K:I->Prop} (d:∀c,LH M w0 c L D->K c):bY w K:=d _ H.drew
def LH.pu (H:LH M w0 w L D) (i:Nat) {b:Nat} {o c:Obj} {K:I->Prop} (hi:L[i]? =some (.ob b o)) (h:∀d,LH M w0 d (L.set i (.ob b c)) D->K d):g6 w b o c K:=
 ⟨H.ob i hi,h _ (H.g9 i (.ob b c) hi ((Fr.put w b c).mono λk _ e=>by simp [En.ob,e]) (uv (H.ob i hi) c) (λb j=>.inl j))⟩
def LH.ap (H:LH M w0 w L D) (i:Nat) {P:aM} {t ty e:aG} {z:ae} {sz bytes:Nat} (h:gy P t e z sz bytes) {s src:O} {xs news:List ae} {K:O->I->Prop}
  (hi:L[i]? =some (.row e sz s xs)) (F:fB w src news) (E:news.length=src.n *sz) (A:∀G∈news,G.oneCell'=true) (C:(s.n+src.n) *bytes<=140737488355328)
  (B:∀c d,LH M w0 d (L.set i (.row e sz c (xs++news))) D->c.n=s.n+src.n->(c.a=none->s.a=none/\src.n=0)->K c d):
  ∃c d,(bb #[t,t] ty #[s.v,src.v]).run P w=.ok c.v d/\K c d:=by obtain ⟨c,d,j,k,q,u,x,y⟩:=vN (ty:=ty) h (H.get i hi) F E A C;exact ⟨c,d,j,B c d (H.g9 i (.row e sz c (xs++news)) hi u k x) q y⟩
def LH.zq (H:LH M w0 w L D) (i:Nat) {P:aM} {t ty e:aG} {z:ae} {sz bytes:Nat} (j:gy P t e z sz bytes) {T:aG} {s:O} {xs:List ae} {news:Array ae} {K:O->I->Prop}
  (hi:L[i]? =some (.row e sz s xs)) (x:∀c d,LH M w0 d (L.set i (.row e sz c (xs++news.toList))) D->c.n=s.n+1->c.a≠none->K c d) (y:(s.n+1) *bytes<=140737488355328) (A:news.size=sz:=by rfl) (u:∀E∈news.toList,E.oneCell'=true:=by simp [Value.oneCell']):
  aN w (.cells news T) λF=>∃c d,(bb #[t,t] ty #[s.v,.slice (some (Addr.mk w.heap.size 0 none)) 1 1]).run P F=.ok c.v d/\K c d:=by have h:LH M w0 (w.alloc (.cells news T)) L D:=H.bA (Fr.alloc _ _ _);refine h.ap i j (src:=⟨some (aj w.heap.size),1,1⟩) (ty:=ty) (K:=K) (news:=news.toList) hi ((Row.made w T 1 1 news.toList).qV) (by simpa using A) u y (λc d k B C=>x c d k B λq=>by have:=(C q).2;simp at this)
def LH.jP (H:LH M w0 w L D) (e:aG) (sz:Nat):LH M w0 w (L++[.row e sz ⟨none,0,0⟩ []]) D:=H.push _ (Fr.refl _ _) (aS.nil w e sz) (λb c=>by simp [En.row,ay] at c)
end
def aS.I4 {w:I} {e:aG} {s:O} {vs:List ae} (c:aS w e 1 s vs):Ow w e s vs:=⟨by have:=c.len;omega,c⟩
def aS.Jr {w:I} {e:aG} {s:O} {vs:List ae} (c:aS w e 1 s vs):Rd w s vs:=c.I4.rd
abbrev F0:Nat->Prop:=λ_=>False
def LH.take {M:Nat->Prop} {w0 w:I} {L D:List En} (H:LH M w0 w L D) (n:Nat):LH M w0 w (L.take n) D:=
 ⟨H.fr,λc d=>H.own c (mr d),H.rd,λc d=>H.new c (mr d),by
  have:=H.nd;rw [<-List.take_append_drop n L,dh,gM] at this;exact this.1,λc d b h e j=>H.dj c d b h e (mr j)⟩
def aO {a b:Int} {A B:Prop} (d:a=b->A) (e:a≠b->B):Y (a==b) A B:=bE (λc=>d (by simpa using c)) (λc=>e (by simpa using c))
def dG {a b:Int} {A B:Prop} (d:a≠b->A) (e:a=b->B):Y (a !=b) A B:=bE (λc=>d (by simpa using c)) (λc=>e (by simpa using c))
def aR {p:Prop} [Decidable p] {A B:Prop} (d:p->A) (e:¬p->B):Y (decide p) A B:=bE (λc=>d (ef c)) (λc=>e (gS c))
def dM {b:Bool} {A B:Prop} (d:b=false->A) (e:b=true->B):Y (!b) A B:=bE (λc=>d (by simpa using c)) (λc=>e (by simpa using c))
def LH.eh {M:Nat->Prop} {w0 w:I} {L D:List En} (H:LH M w0 w L D) (i j:Nat) {b:Nat} {vs:List ae} {T:aG} {v:ae} (hi:D[i]? =some (.c b vs T):=by rfl) (d:vs[j]? =some v:=by rfl):w.cell? ((aj b).add j)=some v:=
 cellAt (p:=aj b) (show w.heap[b]? =_ from H.rd _ (aI hi)) rfl (by simpa using d)
def LH.OK {M:Nat->Prop} {w0 w w':I} {L D:List En} (H:LH M w0 w L D) (i:Nat) {b:Nat} {vs d:List ae} {T:aG} (f:Fr (·=b) w w') (h:w'.heap[b]? =some (.cells d.toArray T (0,0))) (hi:L[i]? =some (.c b vs T):=by rfl):LH M w0 w' (L.set i (.c b d T)) D:=
 H.g9 i (.c b d T) hi (f.mono λk _ e=>by simp [En.ob,e]) h (λb j=>.inl j)
def LH.eb {M:Nat->Prop} {w0 w:I} {L D:List En} (H:LH M w0 w L D) {e:aG} {sz n:Nat} {cs:List ae} (j:cs.length=n *sz) (k:n<=maxLen) {K:I->Prop} (d:∀c,LH M w0 c (L++[.row e sz ⟨some (aj w.heap.size),n,n⟩ cs]) D->K c):aN w (.cells cs.toArray e) K:=
 d _ (H.push _ (Fr.alloc _ _ _) (aS.made w e sz n cs j k) (λb h=>by simp [En.row,ay] at h;omega))
def ix (P:aM) (o:Oper) (E:Env) (w:I) (K:Env->I->Prop):Prop:=
 bif calm P o then lY P o E w λv _=>K (E.put o.dst v) w else gH P o E w λv c=>K (E.put o.dst v) c
def sJ (ops:Array Oper):Bool:=(List.range ops.size).all λi=>match ops[i]? with
 |some o=>o.guard.isNone&&o.after.toList.all λc=>!(Region.binds .any c)||Nat.blt c.on i
 |none=>true
abbrev dc (L:Nat->Bool) (i:Nat):Nat->Bool:=λc=>cm c i||L c
section
variable {P:aM} {ops:Array Oper} {n:Cx} {K:Env->I->Prop}
def zx (d:sJ ops=true) {i:Nat} {o:Oper} (e:ops[i]? =some o):o.guard=none/\∀c∈o.after,Region.binds .any c=true->c.on<i:=by unfold sJ at d;have k:i<ops.size:=(Array.getElem?_eq_some_iff.1 e).1;have:=f'.1 d i (List.mem_range.2 k);rw [e] at this;simp only [bn] at this;refine ⟨by simpa using this.1,λc j h=>?_⟩;have:=f'.1 this.2 c (by simpa using j);rw [h] at this;simpa using this
def Uq {i:Nat} {o:Oper} {a:Act} {E:Env} {w:I} {Kh:Env->I->Prop} {K':Act->I->Prop} {Q:Exit->Act->I->Prop}
  (e:dz n ops=true) (d:ops[i]? =some o) (A:o.guard=none) (h:Ag n a E) (c:ix P o E w Kh) (next:∀u q k,Ag n u q->Kh q k->K' u k):wpOp P ops Q i K' a w:=by
 have y:=Region.noSelect_spec (ops:=ops) (by unfold dz at e;rw [bn] at e;exact e.1);have z:cX o (yielded ops a.tmps)=true:=by simp [cX,A]
 unfold ix at c;cases x:calm P o with
 |true=>
  rw [x] at c;simp only [cond_true] at c;obtain ⟨v,G,B,C,D⟩:=v9 (λj b=>y i o j b d) h c;unfold wpOp;simp only [d,z,if_true];refine .inl ?_;unfold Oper.wp;rw [D w C];exact next _ _ _ (h.put v (gu e d)) B
 |false=>
  rw [x] at c;simp only [cond_false] at c;exact vn d z (l0 (λj b=>y i o j b d) h c) λv k F=>next _ _ _ (h.put v (gu e d)) F
def Vk (hn:dz n ops=true) (J:sJ ops=true) (x:(Nat->Bool)->Env->I->Prop)
  (step:∀j E w i o,ops[i]? =some o->j i=false->(∀k∈o.after,Region.binds .any k=true->j k.on=true)->x j E w->ix P o E w λG O=>x (dc j i) G O)
  (fin:∀j E w,(∀i,i<ops.size->j i=true)->x j E w->K E w):
  ∀(fuel:Nat) (c:Array Bool) (a:Act) (E:Env) (w:I),c.size=ops.size->Ag n a E->x (λd=>c.getD d false) E w->((List.range ops.size).filter λd=>!c.getD d false).length<=fuel->
   wpAny P .any ops (gX n K) fuel c a w:=by
 have done:∀(c:Array Bool) (a:Act) (E:Env) (w:I),c.size=ops.size->Ag n a E->x (λd=>c.getD d false) E w->en .any ops c=[]->gX n K .normal a w:=by
  intro c a E w F u q M;refine ⟨E,u,fin _ E w (λi=>?_) q⟩;induction i using Nat.strongRecOn with
  |_ i N=>
   intro h;cases C:c.getD i false with
   |true=>rfl
   |false=>
    exfalso;have e:ops[i]? =some ops[i]:=Array.getElem?_eq_getElem h;have D:i∈en .any ops c:=mem_ready.2 ⟨by
     have A:i<c.size:=by omega
     simp [A] at C ⊢;exact C,_,e,λk z T=>N k.on ((zx J e).2 k z T) (Nat.lt_trans ((zx J e).2 k z T) h)⟩
    rw [M] at D;cases D
 intro fuel;induction fuel with
 |zero=>
  intro c a E w F u q W;have B:∀i,i<ops.size->c.getD i false=true:=λi h=>by
   cases C:c.getD i false with
   |true=>rfl
   |false=>
    have:i∈(List.range ops.size).filter λd=>!c.getD d false:=List.mem_filter.2 ⟨List.mem_range.2 h,by rw [C];rfl⟩;rw [List.length_eq_zero_iff.1 (Nat.le_zero.1 W)] at this;cases this
  refine ⟨?_,E,u,fin _ E w B q⟩;cases M:en .any ops c with
  |nil=>rfl
  |cons i l=>
   have D:i∈en .any ops c:=by rw [M];simp
   obtain ⟨y,o,e,_⟩:=mem_ready.1 D;have h:=(Array.getElem?_eq_some_iff.1 e).1;have H:=B i h;have A:i<c.size:=by omega
   simp [A] at y H;rw [y] at H;cases H
 |succ fuel N=>
  intro c a E w F u q W;refine ⟨done c a E w F u q,λi h=>?_⟩;obtain ⟨y,o,e,B⟩:=mem_ready.1 h;have A:i<ops.size:=(Array.getElem?_eq_some_iff.1 e).1;have Y:i<c.size:=by omega
  have Q:c.getD i false=false:=by simp [Y] at y ⊢;exact y
  refine Uq hn e (zx J e).1 u (step _ E w i o e Q B q) λZ G O ab S=>?_;have z:(dc (λd=>c.getD d false) i)=λd=>(c.setIfInBounds i true).getD d false:=by
   funext d;by_cases L:i=d
   .subst L;simp [dc,Y]
   .have:cm d i=false:=by rw [<-ju,ek];exact λaa=>L aa.symm
    rw [getD_set_ne false L];simp [dc,this]
  rw [z] at S;refine N _ Z G O (by simpa using F) ab S ?_;have ac:((List.range ops.size).filter λd=>!(c.setIfInBounds i true).getD d false)=((List.range ops.size).filter λd=>!c.getD d false).filter λd=>!(cm d i):=by rw [List.filter_filter];refine List.filter_congr λd _=>?_;rw [<-congrFun z d];simp only [dc,Bool.not_or]
  have ad:(((List.range ops.size).filter λd=>!c.getD d false).filter λd=>!(cm d i)).length<((List.range ops.size).filter λd=>!c.getD d false).length:=by refine List.length_filter_lt_length_iff_exists.2 ⟨i,List.mem_filter.2 ⟨List.mem_range.2 A,by rw [Q];rfl⟩,?_⟩;have:cm i i=true:=Nat.beq_refl i;simp [this]
  rw [ac];omega
def Vm {c:Code} {id:Nat} {a:Act} {E:Env} {w:I} (e:(Nat->Bool)->Env->I->Prop) (D:P.follows .mixedOrders=true) (B:c=.region id ops true) (k:dz n ops=true) (A:sJ ops=true) (z:Ag n a E)
  (x:e (λ_=>false) E w.drew)
  (step:∀d E w i o,ops[i]? =some o->d i=false->(∀j∈o.after,Region.binds .any j=true->d j.on=true)->e d E w->ix P o E w λq G=>e (dc d i) q G)
  (fin:∀d E w,(∀i,i<ops.size->d i=true)->e d E w->K E w):c.wpIn (FW n) 0 P (gX n K) a w:=by
 subst B;have F:(λh=>(fy ops.size false).getD h false)=λ_=>false:=by funext h;by_cases C:h<ops.size<;>simp [C]
 have y:=Vk (K:=K) k A e step fin ops.size (fy ops.size false) a E w.drew (by simp) z (by rw [F];exact x) (bH (List.length_filter_le _ _) (by simp));refine wpIn_region_draw λt=>?_;refine qk k (λ⟨_,_,u⟩=>u) _ _ _ ?_;simp only [Region.schedule,D,Bool.true_or,if_true];exact wpAny_sound ops.size t _ a _ y
def Dl (P:aM) (n:Nat) (c:Code):Bool:=match c with
 |.region _ ops d=>d&&(P.follows .mixedOrders&&(dz n ops&&sJ ops))
 |_=>false
def AZ (P:aM) (c:Code) (K:Env->I->Prop) (E:Env) (w:I):Prop:=
 ∃e:(Nat->Bool)->Env->I->Prop,e (λ_=>false) E w.drew/\
  (∀d E w i o,(Code.ops c)[i]? =some o->d i=false->(∀h∈o.after,Region.binds .any h=true->d h.on=true)->e d E w->ix P o E w λj k=>e (dc d i) j k)/\
  ∀d E w,(∀i,i<(Code.ops c).size->d i=true)->e d E w->K E w
abbrev uR (P:aM) (c:Code) (K:Env->I->Prop) (E:Env) (w:I):Prop:=AZ P (Code.fst c) K E w
variable {Q:Exit->Act->I->Prop} {E:Env} {w:I}
def ig (c:Code) (d:Dl P n c=true) (x:AZ P c K E w) (D:∀e j h,Ag n h e->K e j->Q .normal h j):WP P n c Q E w:=by
 obtain ⟨q,y,step,fin⟩:=x;unfold Dl at d;split at d
 .rename_i id ops F;simp only [bn] at d;obtain ⟨rfl,z,A,B⟩:=d;exact λa C=>wpIn_mono (Vm q z rfl A B C y step fin) λu h j k=>by
   cases u with
   |normal=>obtain ⟨e,hA,hK⟩:=k;exact D e j h hA hK
   |_=>exact k.elim
 .cases d
def si (c:Code) (h:(tC c&&Dl P n (Code.fst c))=true) (j:uR P c K E w) (u:∀d e,K d e->WP P n (Code.snd c) Q d e):WP P n c Q E w:=
 WP.seq (yt (qM h).1) (ig _ (qM h).2 j λd e x k q=>nx k (u d e q))
end
def rowOf (o:Oper):Op×Option Nat×aG×List Nat:=(o.op,o.dst,o.type,(o.after.toList.filter λc=>Region.binds .any c).map (·.on))
def allI {α:Type} (F:Nat->α->Prop):List α->Nat->Prop
 |[],_=>True
 |a::l,i=>F i a/\allI F l (i+1)
def EU {α:Type} {F:Nat->α->Prop}:∀{l:List α} {n i:Nat} {a:α},allI F l n->l[i]? =some a->F (n+i) a
 |[],_,i,a,_,c=>by simp at c
 |b::l,n,0,a,c,d=>by simp at d;subst d;exact c.1
 |b::l,n,i+1,a,c,d=>by
  have:=EU (i:=i) c.2 (by simpa using d)
  rwa [show n+1+i=n+(i+1) by omega] at this
section
variable {P:aM} {K:Env->I->Prop} {E:Env} {w:I}
def vC (P:aM) (d:(Nat->Bool)->Env->I->Prop) (i:Nat) (r:Op×Option Nat×aG×List Nat):Prop:=
 ∀c E w o,o.op=r.1->o.dst=r.2.1->o.type=r.2.2.1->c i=false->(∀h∈r.2.2.2,c h=true)->d c E w->ix P o E w λe j=>d (dc c i) e j
def HJ {c:Code} (j:List (Op×Option Nat×aG×List Nat)) (n:(Code.ops c).toList.map rowOf=j) (e:(Nat->Bool)->Env->I->Prop) (u:e (λ_=>false) E w.drew) (step:allI (vC P e) j 0)
  (fin:∀d E w,(∀i,i<j.length->d i=true)->e d E w->K E w):AZ P c K E w:=by
 refine ⟨e,u,λd E w i o D h A k=>?_,λd E w z k=>fin d E w (λi h=>z i ?_) k⟩
 .have F:j[i]? =some (rowOf o):=by rw [<-n,List.getElem?_map,Array.getElem?_toList,D];rfl
  have:=EU step F;rw [Nat.zero_add] at this;refine this d E w o rfl rfl rfl h (λG C=>?_) k;obtain ⟨q,B,rfl⟩:=cQ.1 C;obtain ⟨x,y⟩:=List.mem_filter.1 B;exact A q (by simpa using x) y
 .rw [<-n,List.length_map] at h;simpa using h
def nA {o:Oper} {t:Nat} {v:ae} (c:o.op=.move (.tmp t)\/o.op=.assign (.tmp t)) (e:E.get? t=some v) (j:K (E.put o.dst v) w):ix P o E w K:=by
 obtain ⟨dst,n,k,pos,after,guard⟩:=o;have h:E.ev (.tmp t)=v:=by simp [Env.ev,Env.val,e]
 rcases c with c|c<;>(simp only at c;subst c)
 .show gv P _ E (λv _=>K (E.put dst v) w);have d:E.eA ⟨dst,.move (.tmp t),k,pos,after,guard⟩=true:=by simp [Env.eA,Op.operands,Env.val,e]
  unfold gv;rw [d];show K (E.put dst (E.ev (.tmp t))) w;rw [h];exact j
 .show gv P _ E (λv _=>K (E.put dst v) w);have d:E.eA ⟨dst,.assign (.tmp t),k,pos,after,guard⟩=true:=by simp [Env.eA,Op.operands,Env.val,e]
  unfold gv;rw [d];show K (E.put dst (E.ev (.tmp t))) w;rw [h];exact j
def qb {o:Oper} {T:aG} {t:Nat} {p:Addr} (c:o.op=.load T (.tmp t)) (e:E.get? t=some (.pointer (some p))) (d:ma P T p w λv _=>K (E.put o.dst v) w):ix P o E w K:=by obtain ⟨dst,h,j,pos,after,guard⟩:=o;simp only at c;subst c;show (match E.val (.tmp t) with |some (.pointer (some p))=>ma P T p w (λv _=>K (E.put dst v) w)|_=>False);rw [show E.val (.tmp t)=some (.pointer (some p)) from e];exact d
def Ui {o:Oper} {f c t2:Nat} {d e:ae} (k:o.op=.makeFunc (.func f) #[] #[.tmp c,.tmp t2]) (h:E.get? c=some d) (j:E.get? t2=some e) (u:K (E.put o.dst (.func (.func f) #[] #[d,e])) w):ix P o E w K:=by
 obtain ⟨dst,z,y,pos,after,guard⟩:=o;simp only at k;subst k;show gv P _ E (λv _=>K (E.put dst v) w);have x:E.eA ⟨dst,.makeFunc (.func f) #[] #[.tmp c,.tmp t2],y,pos,after,guard⟩=true:=by simp [Env.eA,Op.operands,Env.val,h,j]
 unfold gv;rw [x];show K (E.put dst (.func (.func f) (#[].map E.ev) (#[.tmp c,.tmp t2].map E.ev))) w;have n:E.ev (.tmp c)=d:=by simp [Env.ev,Env.val,h]
 have q:E.ev (.tmp t2)=e:=by simp [Env.ev,Env.val,j]
 simp only [List.map_toArray,List.map_cons,List.map_nil,n,q];exact u
def Uj {o:Oper} {T:aG} (c:o.op=.makeMap T none) (e:K (E.put o.dst (.map (some w.heap.size))) (w.alloc (.map #[] 0))):ix P o E w K:=by
 obtain ⟨dst,n,d,pos,after,guard⟩:=o;simp only at c;subst c;have h:E.eA ⟨dst,.makeMap T none,d,pos,after,guard⟩=true:=by simp [Env.eA,Op.operands]
 have j:q' P ⟨dst,.makeMap T none,d,pos,after,guard⟩ E w (λv k=>K (E.put dst v) k):=by unfold q';rw [h];exact e
 unfold ix;simp only [calm,cond_false];unfold gH;exact j
def oG {o:Oper} {T:aG} {m k v:Operand} {h e j:ae} (d:o.op=.insert T m k v) (u:E.val m=some h) (q:E.val k=some e) (x:E.val v=some j) (n:∃c,(Instr.mapUpdate T h e j).run P w=.ok () c/\K (E.put o.dst undef) c):ix P o E w K:=by obtain ⟨dst,y,z,pos,after,guard⟩:=o;simp only at d;subst d;show (match E.val m,E.val k,E.val v with |some m,some k,some v=>Gm P (Instr.mapUpdate T m k v) w (λv c=>K (E.put dst v) c)|_,_,_=>False);rw [u,q,x];exact n
def DV {o:Oper} {t a b f:Nat} {ts:Array aG} {first captured:Array ae} {x y:ae} (j:o.op=.call ⟨.value (.tmp t),#[.tmp a,.tmp b],ts⟩) (k:E.get? t=some (.func (.func f) first captured)) (e:E.get? a=some x) (h:E.get? b=some y) (A:gF P f=true)
  (z:ai P f (first++#[x,y]++captured) w λn d=>m3 (zeroOf P o.type) λv=>n=V v/\K (E.put o.dst v) d):ix P o E w K:=by
 obtain ⟨dst,C,c,pos,after,guard⟩:=o;simp only at j;subst j;show cH (E.eA ⟨dst,.call ⟨.value (.tmp t),#[.tmp a,.tmp b],ts⟩,c,pos,after,guard⟩) (match E.get? t with
  |some (.func (.func f) first captured)=>cH (gF P f) (o' P f (first++(#[Operand.tmp a,.tmp b]).map E.ev++captured) (zeroOf P c) w (λv d=>K (E.put dst v) d))
  |_=>False)
 have B:E.eA ⟨dst,.call ⟨.value (.tmp t),#[.tmp a,.tmp b],ts⟩,c,pos,after,guard⟩=true:=by simp [Env.eA,Op.operands,Call.operands,Env.val,k,e,h]
 rw [B,k];show cH (gF P f) _;rw [A];have q:E.ev (.tmp a)=x:=by simp [Env.ev,Env.val,e]
 have u:E.ev (.tmp b)=y:=by simp [Env.ev,Env.val,h]
 show o' P f _ _ w _;simp only [List.map_toArray,List.map_cons,List.map_nil,q,u];exact z
def mL (T:List (Nat×Nat×ae)) (L:Nat->Bool) (E:Env):Prop:=∀c∈T,(bif cm c.1 0 then true else L (c.1 - 1))=true->E.get? c.2.1=some c.2.2
def mL.get {T:List (Nat×Nat×ae)} {L:Nat->Bool} (c:mL T L E) {i d:Nat} {v:ae} (e:(i,d,v)∈T) (hi:(bif cm i 0 then true else L (i - 1))=true):E.get? d=some v:=c _ e hi
def im {E:Env} {d t:Nat} {v:ae} (c:d≠t):(E.put (some d) v).get? t=E.get? t:=by
 have:cm d t=false:=by rw [<-ju,ek];exact c
 simp only [Env.put,Env.get?,this,cond_false]
def rk {E:Env} {d:Nat} {v:ae}:(E.put (some d) v).get? d=some v:=by simp [Env.put,Env.get?]
def mL.fill {T:List (Nat×Nat×ae)} {L:Nat->Bool} (u:mL T L E) {i d:Nat} {v:ae} (n:∀c∈T,c.1=i+1->c=(i+1,d,v)) (w:∀c∈T,c.2.1=d->c.1=i+1):mL T (dc L i) (E.put (some d) v):=by
 intro c e q;by_cases h:c.2.1=d
 .obtain rfl:=n c e (w c e h);exact rk
 .rw [im (λj=>h j.symm)];refine u c e ?_;by_cases k:c.1=0
  .rw [k];rfl
  .have x:cm c.1 0=false:=by rw [<-ju,ek];exact k
   rw [x] at q ⊢;have y:c.1 - 1≠i:=λj=>h (by rw [n c e (by omega)]);have:cm (c.1 - 1) i=false:=by rw [<-ju,ek];exact y
   simpa [dc,this] using q
def mL.pass {T:List (Nat×Nat×ae)} {L:Nat->Bool} (n:mL T L E) {i:Nat} {d:Option Nat} {v:ae} (q:∀c∈T,c.1≠i+1) (u:∀c∈T,d≠some c.2.1):mL T (dc L i) (E.put d v):=by
 intro c e k;have x:(E.put d v).get? c.2.1=E.get? c.2.1:=by
  cases d with
  |none=>rfl
  |some d=>exact im λh=>u c e (by rw [h])
 rw [x];refine n c e ?_;by_cases j:c.1=0
 .rw [j];rfl
 .have w:cm c.1 0=false:=by rw [<-ju,ek];exact j
  rw [w] at k ⊢;have y:c.1 - 1≠i:=λh=>q c e (by omega);have:cm (c.1 - 1) i=false:=by rw [<-ju,ek];exact y
  simpa [dc,this] using k
end
structure LC (w:I) (L:List (Nat×List ae×aG)):Prop where
 own:∀(i:Nat) (x:Nat×List ae×aG),L[i]? =some x->w.heap[x.1]? =some (.cells x.2.1.toArray x.2.2 (0,0))
 dj:∀(i j:Nat) (x y:Nat×List ae×aG),L[i]? =some x->L[j]? =some y->x.1=y.1->i=j
abbrev g0 (L:List (Nat×List ae×aG)):List Nat:=L.map (·.1)
def loc (bs:List Nat) (w:I) (K:I->Prop):Prop:=∀c,Fr (·∈bs) w c->K c
def aJ (bs:List Nat) (w:I) (K:Nat->I->Prop):Prop:=∀b c,w.heap.size<=b->c.heap.size=b+1->Fr (·∈bs) w c->K b c
def cU (bs:List Nat) (P:aM) (f:bJ) (args:Array ae) (w:I) (K:aa):Prop:=∃c:Nat->Prop,(∀b∈bs,¬c b)/\ai P f args w λr d=>Fr c w d/\K r d
def kept (bs:List Nat) (w w':I):Prop:=∀b∈bs,w'.heap[b]? =w.heap[b]?
def Si {c:Option Addr} {K K':Addr->Prop} (d:ct c K) (f:∀p,K p->K' p):ct c K':=by
 cases c with
 |none=>exact d
 |some p=>exact f p d
def Ku {t:Bool} {A B c d:Prop} (e:Y t A B) (h:A->c) (j:B->d):Y t c d:=TW h j e
def nz {w:I} {p:Addr} {v:ae} {K K':I->Prop} (c:av w p v K) (f:∀d,K d->K' d):av w p v K':=⟨c.1,c.2.1,f _ c.2.2⟩
section
variable {w wT:I} {L:List (Nat×List ae×aG)}
def LC.nil (w:I):LC w []:=⟨λi d c=>by simp at c,λi e d h c=>by simp at c⟩
def LC.Nu (H:LC w L) {b:Nat} (c:b∈g0 L):∃(i:Nat) (x:Nat×List ae×aG),L[i]? =some x/\x.1=b:=by obtain ⟨x,e,rfl⟩:=cQ.1 c;obtain ⟨i,d⟩:=iQ.1 e;exact ⟨i,x,d,rfl⟩
def LC.lt (H:LC w L) {b:Nat} (c:b∈g0 L):b<w.heap.size:=by obtain ⟨i,e,d,rfl⟩:=H.Nu c;exact iK (H.own i e d)
def LC.n9 {w':I} (H:LC w L) (e:kept (g0 L) w w'):LC w' L:=
 ⟨λi c d=>by rw [e c.1 (cQ.2 ⟨c,aI d,rfl⟩)];exact H.own i c d,H.dj⟩
def LC.fr {M:Nat->Prop} {w':I} (H:LC w L) (f:Fr M w w') (d:∀b∈g0 L,¬M b):LC w' L:=H.n9 λb c=>f.ck b (H.lt c) (d b c)
def LC.pick (H:LC w L) (is:List Nat) (x:is.Nodup):LC w (is.filterMap λi=>L[i]?):=by
 induction is with
 |nil=>exact LC.nil w
 |cons q is h=>
  have h:=h (List.nodup_cons.1 x).2;cases n:L[q]? with
  |none=>rw [List.filterMap_cons_none n];exact h
  |some u=>
   rw [List.filterMap_cons_some n];have back:∀(j:Nat) c,(is.filterMap λi=>L[i]?)[j]? =some c->c.1≠u.1:=by intro j c B e;obtain ⟨m,z,A⟩:=List.mem_filterMap.1 (aI B);have:=H.dj m q c u A n e;subst this;exact (List.nodup_cons.1 x).1 z
   refine ⟨λi c d=>?_,λi j c y d k e=>?_⟩
   .cases i with
    |zero=>simp at d;subst d;exact H.own q u n
    |succ i=>exact h.own i c (by simpa using d)
   .cases i with
    |zero=>
     cases j with
     |zero=>rfl
     |succ j=>simp at d;subst d;exact absurd e.symm (back j y (by simpa using k))
    |succ i=>
     cases j with
     |zero=>simp at k;subst k;exact absurd e (back i c (by simpa using d))
     |succ j=>rw [h.dj i j c y (by simpa using d) (by simpa using k) e]
def LC.alloc (H:LC w L) (o:Obj):LC (w.alloc o) L:=H.fr (M:=λ_=>False) (Fr.alloc _ _ _) (λ_ _ c=>c)
def LC.push (H:LC w L) (cs:Array ae) (T:aG):LC (w.alloc (.cells cs T)) (L++[(w.heap.size,cs.toList,T)]):=by
 have y:=H.alloc (.cells cs T);have x:∀(i:Nat) c,L[i]? =some c->c.1<w.heap.size:=λi c d=>iK (H.own i c d);have j:∀(i:Nat) c,(L++[(w.heap.size,cs.toList,T)])[i]? =some c->(L[i]? =some c)\/(i=L.length/\c=(w.heap.size,cs.toList,T)):=by
  intro i c d;rw [List.getElem?_append] at d;split at d
  .exact .inl d
  .rename_i z;right;have:i - L.length=0:=by
    rcases Nat.eq_zero_or_pos (i - L.length) with e|e
    .exact e
    .rw [List.getElem?_eq_none (by simp;omega)] at d;cases d
   rw [this] at d;simp at d;exact ⟨by omega,d.symm⟩
 refine ⟨λi c d=>?_,λi k c n d u q=>?_⟩
 .rcases j i c d with e|⟨_,rfl⟩
  .exact y.own i c e
  .simp only [Array.toArray_toList];exact gJ w _
 .rcases j i c d with e|⟨e,rfl⟩
  .rcases j k n u with h|⟨h,rfl⟩
   .exact H.dj i k c n e h q
   .have:=x i c e;simp only at q;omega
  .rcases j k n u with h|⟨h,rfl⟩
   .have:=x k n h;simp only at q;omega
   .omega
def zA (L:List (Nat×List ae×aG)) (i:Nat) {b:Nat} {vs e:List ae} {T:aG} (hi:L[i]? =some (b,vs,T)):g0 (L.set i (b,e,T))=g0 L:=by
 apply List.ext_getElem?;intro h;simp only [g0,List.getElem?_map,yi];split
 .rename_i c;subst c;rw [hi];split
  .rfl
  .rename_i d;exact absurd (cD.1 hi).1 d
 .rfl
def LC.set (H:LC w L) (i j:Nat) {b:Nat} {vs:List ae} {T:aG} {v:ae} (hi:L[i]? =some (b,vs,T)) (A:j<vs.length) (f:Fr (·∈g0 L) wT w):
  (w.cell? ((aj b).add j)).isSome=true/\w.frozen? ((aj b).add j)=false/\LC (w.setCell ((aj b).add j) v) (L.set i (b,vs.set j v,T))/\Fr (·∈g0 (L.set i (b,vs.set j v,T))) wT (w.setCell ((aj b).add j) v):=by
 obtain ⟨E,F,G,n⟩:=pY (H.own i _ hi) j (by simpa using A) v;have z:b∈g0 L:=cQ.2 ⟨_,aI hi,rfl⟩;refine ⟨E,F,⟨λk d c=>?_,λk m d h c B e=>?_⟩,?_⟩
 .rw [yi] at c;split at c
  .split at c
   .cases c;simp only;rw [G];simp
   .cases c
  .rename_i C;have:=n.ck d.1 (iK (H.own k d c)) (λe=>C (H.dj i k _ d hi c e.symm));rw [this];exact H.own k d c
 .have g:∀(k:Nat) d,(L.set i (b,vs.set j v,T))[k]? =some d->∃h,L[k]? =some h/\h.1=d.1:=by
   intro k d c;rw [yi] at c;split at c
   .rename_i e;subst e;split at c
    .cases c;exact ⟨_,hi,rfl⟩
    .cases c
   .exact ⟨d,c,rfl⟩
  obtain ⟨D,x,q⟩:=g k d c;obtain ⟨J,y,u⟩:=g m h B;exact H.dj k m D J x y (by rw [q,u,e])
 .rw [zA L i hi];exact f.trans n λd _ e=>e▸z
def iH {bs:List Nat} {P:aM} {f:bJ} {args:Array ae} {K:aa} (c:ai P f args w λr d=>ao w d/\K r d):cU bs P f args w K:=⟨λ_=>False,λ_ _ c=>c,c⟩
end
def En.g (b:Nat):En:=⟨[b],λe=>b<e.heap.size,λe k j c=>(by
  have:=j b (by simp) c;rcases Nat.lt_or_ge b k.heap.size with d|d
  .exact d
  .rw [Array.getElem?_eq_none d,Array.getElem?_eq_getElem c] at this;cases this),λe c n h=>by simp at h;subst h;exact c,by simp⟩
section
variable {M:Nat->Prop} {w0 w:I} {L D:List En} {bs:List Nat}
def LH.ghost (H:LH M w0 w L D) {w':I} (f:Fr (·∈bs) w w') (k:∀b∈bs,En.g b∈L):LH M w0 w' L D:=by
 refine ⟨H.fr.trans f λz C h=>(H.new _ (k z h) z (by simp [En.g])).resolve_left (by omega),λc d=>?_,λc d=>?_,H.new,H.nd,H.dj⟩
 .by_cases u:∃b∈bs,b∈c.fp
  .obtain ⟨b,e,A⟩:=u;obtain ⟨i,x⟩:=iQ.1 d;obtain ⟨y,n⟩:=iQ.1 (k b e);have B:i=y:=by
    rcases Nat.decEq i y with j|j
    .exact absurd (by simp [En.g]) (m1 H.nd x n j b A)
    .exact j
   subst B;rw [x] at n;cases n;exact vp (H.own _ d) f.size
  .exact c.st w w' (λb e q=>f.ck b q λh=>u ⟨b,h,e⟩) (H.own c d)
 .exact c.st w w' (λb e q=>f.ck b q λh=>H.dj c d b e _ (k b h) (by simp [En.g])) (H.rd c d)
def LH.au (H:LH M w0 w L D) {K:I->Prop} (e:∀c,LH M w0 c L D->K c) (d:∀b∈bs,En.g b∈L:=by simp):loc bs w K:=λ_ f=>e _ (H.ghost f d)
def LH.aL (H:LH M w0 w L D) {K:Nat->I->Prop} (z:∀b k,LH M w0 k (L++[.g b]) D->K b k) (y:∀b∈bs,En.g b∈L:=by simp):aJ bs w K:=λb k x B f=>z b k (by
 have n:=H.ghost f y;refine ⟨n.fr,λe c=>?_,n.rd,λe c j d=>?_,?_,λe c j d u h q=>?_⟩
 .rcases a5.1 c with c|c
  .exact n.own e c
  .simp at c;subst c;show b<_;omega
 .rcases a5.1 c with c|c
  .exact H.new e c j d
  .simp at c;subst c;simp [En.g] at d;subst d;exact .inl (bH H.fr.size x)
 .rw [dh,gM];refine ⟨H.nd,by simp [En.g],λj d C A=>?_⟩;have:=H.CW j d;simp [En.g] at A;omega
 .rcases a5.1 h with h|h
  .exact H.dj e c j d u h q
  .simp at h;subst h;simp [En.g] at q;subst q;have:=e.lt w (H.rd e c) j d;omega)
def LH.aA (H:LH M w0 w L D) {P:aM} {g:bJ} {args:Array ae} {A K:aa} (e:ai P g args w λr c=>A r c/\ao w c) (h:∀r c,A r c->LH M w0 c L D->K r c):cU bs P g args w K:=
 iH (e.mono λr c ⟨d,f⟩=>⟨f,h r c d (H.bA f)⟩)
def LH.call (H:LH M w0 w L D) {P:aM} {g:bJ} {args:Array ae} {A K:aa} (e:ai P g args w λr c=>A r c/\ao w c) (h:∀r c,A r c->LH M w0 c L D->K r c):ai P g args w K:=
 e.mono λr c ⟨d,f⟩=>h r c d (H.bA f)
def LH.SB (H:LH M w0 w L D) {w':I} (f:ao w w') {e:aG} {sz:Nat} {s:O} {vs:List ae} (c:aS w' e sz s vs) (d:∀b∈ay s,w.heap.size<=b):LH M w0 w' (L++[.row e sz s vs]) D:=H.push (.row e sz s vs) f c d
def LH.EY (H:LH M w0 w L D) (i:Nat) {P:aM} {t ty e:aG} {z:ae} {sz bytes:Nat} (B:gy P t e z sz bytes) {s src:O} {xs news:List ae} {K:O->I->Prop}
  (hi:L[i]? =some (.row e sz s xs)) (W:fB w src news) (T:news.length=src.n *sz) (N:∀aa∈news,aa.oneCell'=true) (h:(s.n+src.n) *bytes<=140737488355328)
  (Q:∀c d,LH M w0 d (L.set i (.row e sz c (xs++news))) D->c.n=s.n+src.n->(c.a=none->s.a=none/\src.n=0)->(∀b,En.g b∈L->d.heap[b]? =w.heap[b]?)->K c d):
  ∃c d,(bb #[t,t] ty #[s.v,src.v]).run P w=.ok c.v d/\K c d:=by
 obtain ⟨c,d,C,E,F,u,G,J⟩:=vN (ty:=ty) B (H.get i hi) W T N h;refine ⟨c,d,C,Q c d (H.g9 i (.row e sz c (xs++news)) hi u E G) F J λb h=>?_⟩;refine u.ck b (H.own _ h) λA=>?_;obtain ⟨Z,k⟩:=iQ.1 h;by_cases y:i=Z
 .subst y;rw [hi] at k;cases ac:(En.row e sz s xs) with
  |mk ab P' st lt ad=>
   have j:En.row e sz s xs=En.g b:=fQ k;have q:(En.row e sz s xs).P=(En.g b).P:=by rw [j]
   have e3:=congrFun q w;have e4:(En.row e sz s xs).P (w.alloc (.cells #[] e))=(En.g b).P (w.alloc (.cells #[] e)):=by rw [j]
   have f1:(En.row e sz s xs).fp=(En.g b).fp:=by rw [j]
   have x:(En.g b).P ({w with heap:=fy (b+1) (.map #[] 0)}):=by show b<_;simp
   rw [<-q] at x;have Y:=(aS.row (show aS ({w with heap:=fy (b+1) (.map #[] 0)}) e sz s xs from x)).qi b A;obtain ⟨cs,f,S⟩:=Y;simp at S
 .exact m1 H.nd hi k y b A (by simp [En.g])
end
def bL (sz:Nat) (w:I) (s:O) (vs:List ae):Prop:=vs.length=s.n *sz/\s.n<=s.c/\fB w s vs
def bL.fr {sz:Nat} {M:Nat->Prop} {w w':I} {s:O} {vs:List ae} (c:bL sz w s vs) (d:Fr M w w') (e:∀b∈ay s,¬M b):bL sz w' s vs:=⟨c.1,c.2.1,c.2.2.fr d e⟩
def bL.bA {sz:Nat} {w w':I} {s:O} {vs:List ae} (c:bL sz w s vs) (d:ao w w'):bL sz w' s vs:=c.fr d λ_ _ c=>c
def aS.bz {w:I} {e:aG} {sz:Nat} {s:O} {vs:List ae} (c:aS w e sz s vs):bL sz w s vs:=⟨c.len,c.cap,c.row.qV⟩
def bL.nil (sz:Nat) (w:I):bL sz w ⟨none,0,0⟩ []:=⟨by simp,bB _,fB.nil w⟩
def En.bz (sz:Nat) (s:O) (vs:List ae):En:=⟨if vs=[] then [] else ay s,λk=>bL sz k s vs,λk x n d=>by
  refine ⟨d.1,d.2.1,d.2.2.1,λi v q=>?_⟩;obtain ⟨p,e,c⟩:=d.2.2.2 i v q;have j:vs≠[]:=λu=>by subst u;simp at q
  rw [af j] at n;have:=n p.block (by simp [ay,e]) (by have:=mY c;rwa [iF] at this);refine ⟨p,e,?_⟩;unfold World.cell? at c ⊢;rw [iF] at c ⊢;rw [this];exact c,λk d b h=>by
  split at h
  .cases h
  .rename_i j;have w:0<vs.length:=List.length_pos_iff.2 j;obtain ⟨p,e,c⟩:=d.2.2.2 0 vs[0] (bc w);simp [ay,e] at h;subst h;have:=mY c
   rwa [iF] at this,by split<;>(try simp);unfold ay;split<;>simp⟩
def mz (sz:Nat) (s:O) (l d:Nat):O:=⟨if s.c=l then s.a else s.a.map (·.add (l *sz)),d - l,s.c - l⟩
def bL.sub {sz:Nat} {w:I} {s:O} {vs:List ae} (q:bL sz w s vs) (l hi:Nat) (F:l<=hi) (z:hi<=s.n):bL sz w (mz sz s l hi) ((vs.take (hi *sz)).drop (l *sz)):=by
 obtain ⟨u,E,h,x⟩:=q;have k:hi *sz<=s.n *sz:=kZ _ z;refine ⟨?_,?_,?_,λi v e=>?_⟩
 .rw [List.length_drop,List.length_take,u,Nat.min_eq_left k];show _=(hi - l) *sz;rw [Nat.sub_mul]
 .show hi - l<=s.c - l;omega
 .intro d;unfold mz at d ⊢;simp only at d ⊢;split at d
  .have:=h d;omega
  .cases j:s.a with
   |none=>have:=h j;omega
   |some p=>rw [j] at d;cases d
 .rw [List.getElem?_drop] at e;have A:l *sz+i<hi *sz:=by have:=(cD.1 e).1;rw [List.length_take] at this;omega
  rw [kc,aq A] at e;obtain ⟨p,C,y⟩:=x _ _ e;have B:s.c≠l:=λD=>by
   have:hi<=l:=by omega
   have:=kZ sz this;omega
  refine ⟨p.add (l *sz),?_,?_⟩
  .unfold mz;simp only;rw [af B,C];rfl
  .rw [add_add];exact y
def jj:List Nat->List Nat
 |[]=>[]
 |a::l=>if a∈jj l then jj l else a::jj l
def aT {x:Nat}:∀{l:List Nat},x∈jj l↔x∈l
 |[]=>Iff.rfl
 |a::l=>by
  unfold jj;split
  .rename_i d;rw [aT,aB];exact ⟨.inr,λe=>e.elim (λc=>by subst c;exact aT.1 d) id⟩
  .rw [aB,aB,aT]
def nk:∀l:List Nat,(jj l).Nodup
 |[]=>.nil
 |a::l=>by
  unfold jj;split
  .exact nk l
  .rename_i c;exact List.nodup_cons.2 ⟨c,nk l⟩
def En.all (es:List En):En:=⟨jj (es.flatMap (·.fp)),λd=>∀c∈es,c.P d,λd u k j c e=>c.st d u (λb h q=>k b (aT.2 (ch.2 ⟨c,e,h⟩)) q) (j c e),
 λd j b h=>(by obtain ⟨c,e,n⟩:=ch.1 (aT.1 h);exact c.lt d (j c e) b n),nk _⟩
section
variable {M:Nat->Prop} {w0 w:I} {L D:List En} {bs:List Nat}
structure so (M:Nat->Prop) (w0 w w':I) (L D:List En):Prop where
 own:∀e:En,e.P w'->(∀b∈e.fp,w.heap.size<=b)->LH M w0 w' (L++[e]) D
 rd:∀e:En,e.P w'->(∀b∈e.fp,w.heap.size<=b)->LH M w0 w' L (D++[e])
def LH.fresh (H:LH M w0 w L D) {w':I} (f:ao w w'):so M w0 w w' L D:=⟨λc d e=>H.push c f d e,λc d e=>H.fo c f d λb h=>.inl (e b h)⟩
def LH.jF (H:LH M w0 w L D) {P:aM} {g:bJ} {args:Array ae} {A K:aa} (e:ai P g args w λr c=>A r c/\ao w c) (h:∀r c,A r c->LH M w0 c L D->so M w0 w c L D->K r c):cU bs P g args w K:=
 iH (e.mono λr c ⟨d,f⟩=>⟨f,h r c d (H.bA f) (H.fresh f)⟩)
def LH.sP (H:LH M w0 w L D) {P:aM} {g:bJ} {args:Array ae} {A K:aa} (e:ai P g args w λr c=>A r c/\ao w c) (h:∀r c,A r c->LH M w0 c L D->so M w0 w c L D->K r c):ai P g args w K:=
 e.mono λr c ⟨d,f⟩=>h r c d (H.bA f) (H.fresh f)
end
def uB {sz:Nat} {s:O} {vs:List ae} {n:Nat} (c:∀b∈ay s,n<=b):∀b∈(En.bz sz s vs).fp,n<=b:=λb d=>by
 have:b∈(if vs=[] then [] else ay s):=d;split at this
 .cases this
 .exact c b this
section
variable {M:Nat->Prop} {w0 w:I} {L D:List En} {bs:List Nat}
def LH.j0 (H:LH M w0 w L D) (i:Nat) {P:aM} {t ty e:aG} {z:ae} {sz bytes:Nat} (j:gy P t e z sz bytes) {s src:O} {xs news:List ae} {K:O->I->Prop}
  (hi:L[i]? =some (.row e sz s xs)) (h:bL sz w src news) (q:∀C∈news,C.oneCell'=true) (x:(s.n+src.n) *bytes<=140737488355328)
  (u:∀d c,LH M w0 c (L.set i (.row e sz d (xs++news))) D->K d c) (A:∀b∈bs,En.g b∈L:=by simp):
  ∃d c,(bb #[t,t] ty #[s.v,src.v]).run P w=.ok d.v c/\kept bs w c/\K d c:=
 H.EY i j (K:=λd c=>kept bs w c/\K d c) hi h.2.2 h.1 q x λd c k _ _ B=>⟨λb y=>B b (A b y),u d c k⟩
def LH.i5 (H:LH M w0 w L D) (i:Nat) {P:aM} {t ty e:aG} {z:ae} {sz bytes:Nat} (k:gy P t e z sz bytes) {T:aG} {s:O} {xs:List ae} {news:Array ae} {K:O->I->Prop}
  (hi:L[i]? =some (.row e sz s xs)) (u:∀d c,LH M w0 c (L.set i (.row e sz d (xs++news.toList))) D->K d c) (x:(s.n+1) *bytes<=140737488355328) (A:news.size=sz:=by rfl) (q:∀B∈news.toList,B.oneCell'=true:=by simp [Value.oneCell']) (y:∀b∈bs,En.g b∈L:=by simp):
  aN w (.cells news T) λh=>∃d c,(bb #[t,t] ty #[s.v,.slice (some (Addr.mk w.heap.size 0 none)) 1 1]).run P h=.ok d.v c/\kept bs h c/\K d c:=by have j:LH M w0 (w.alloc (.cells news T)) L D:=H.bA (Fr.alloc _ _ _);exact j.j0 i k (src:=⟨some (aj w.heap.size),1,1⟩) (ty:=ty) (K:=K) (news:=news.toList) hi ⟨by simpa using A,bB _,(Row.made w T 1 1 news.toList).qV⟩ q x u y
end
def CX {w:I} {e:aG} {sz:Nat} {s:O} {vs:List ae} (h:aS w e sz s vs) (i:Nat) (hi:i<vs.length) (v:ae):
  ∃p,s.a=some p/\p.block∈ay s/\(w.cell? (p.add i)).isSome=true/\w.frozen? (p.add i)=false/\aS (w.setCell (p.add i) v) e sz s (vs.set i v)/\Fr (·∈ay s) w (w.setCell (p.add i) v):=by
 have B:=h.len;rcases h.cases with ⟨rfl,rfl⟩|⟨g,cur,d,j,k,u,x,y⟩
 .simp at hi
 .have C:s.n *sz<=s.c *sz:=kZ _ k;have z:i<cur.size:=by omega
  have q:g∈ay s:=by simp [ay,d]
  refine ⟨⟨g,0,none⟩,d,q,?_,frozenAt (p:=⟨g,0,none⟩) j,?_,Fr.set _ _ _ (by rw [iF];exact q)⟩
  .rw [cellAt (p:=⟨g,0,none⟩) (v:=cur[i]) j rfl (by simp [z])];rfl
  .refine ⟨by simpa using h.1,.inr ⟨g,s.c,cur.setIfInBounds i v,?_,dv _,?_,k,u,by simpa using x,?_⟩⟩
   .obtain ⟨a,D,A⟩:=s;simp only at d;subst d;rfl
   .have:=setAt (p:=⟨g,0,none⟩) (i:=i) (v:=v) j rfl;simpa using this
   .rw [Array.toList_setIfInBounds,List.take_set,y]
section
variable {M:Nat->Prop} {w0 w:I} {L D:List En} {bs:List Nat}
def LH.wF (H:LH M w0 w L D) {i:Nat} {e:aG} {sz:Nat} {s:O} {xs:List ae} (hi:L[i]? =some (.row e sz s xs)) {b:Nat} (q:En.g b∈L):b∉ay s:=λj=>by
 obtain ⟨x,c⟩:=iQ.1 q;by_cases h:i=x
 .subst h;rw [hi] at c;have k:En.row e sz s xs=En.g b:=fQ c;have n:(En.row e sz s xs).P=(En.g b).P:=by rw [k]
  have d:(En.g b).P ({w with heap:=fy (b+1) (.map #[] 0)}):=by show b<_;simp
  rw [<-n] at d;obtain ⟨y,f,u⟩:=(aS.row (show aS ({w with heap:=fy (b+1) (.map #[] 0)}) e sz s xs from d)).qi b j;simp at u
 .exact m1 H.nd hi c h b j (by simp [En.g])
def LH.r3 (H:LH M w0 w L D) (i a c:Nat) {e:aG} {sz:Nat} {s:O} {xs:List ae} {v:ae} {p:Addr} {K:I->Prop} (hi:L[i]? =some (.row e sz s xs)) (z:s.a=some p) (x:a+c<xs.length)
  (u:∀k,LH M w0 k (L.set i (.row e sz s (xs.set (a+c) v))) D->K k) (h:∀b∈bs,En.g b∈L:=by simp):av w ((p.add a).add c) v λn=>kept bs w n/\K n:=by obtain ⟨F,j,E,A,B,C,q⟩:=CX (H.get i hi) (a+c) x v;rw [z] at j;cases j;rw [add_add];refine ⟨A,B,λb d=>?_,u _ (H.g9 i (.row e sz s (xs.set (a+c) v)) hi q C (λb d=>.inl d))⟩;exact q.ck b (H.own _ (h b d)) λy=>H.wF hi (h b d) y
end
def lG:List Bool->List En->List En
 |true::m,a::l=>a::lG m l
 |false::m,_::l=>lG m l
 |_,_=>[]
def rZ:∀(m:List Bool) (l:List En),(lG m l).Sublist l
 |[],l=>by unfold lG;exact List.nil_sublist _
 |true::m,[]=>by unfold lG;exact List.nil_sublist _
 |false::m,[]=>by unfold lG;exact List.nil_sublist _
 |true::m,a::l=>by unfold lG;exact (rZ m l).cons_cons a
 |false::m,a::l=>by unfold lG;exact (rZ m l).cons a
def Uw {α β:Type} {f:α->List β} {l m:List α} (d:l.Sublist m):(l.flatMap f).Sublist (m.flatMap f):=by
 induction d with
 |slnil=>exact List.Sublist.refl _
 |cons a _ c=>rw [cO];exact c.trans (List.sublist_append_right _ _)
 |cons_cons a _ c=>rw [cO,cO];exact (List.Sublist.refl _).append c
def LH.lG {M:Nat->Prop} {w0 w:I} {L D:List En} (H:LH M w0 w L D) (m:List Bool):LH M w0 w (lG m L) D:=
 ⟨H.fr,λc d=>H.own c ((rZ m L).subset d),H.rd,λc d=>H.new c ((rZ m L).subset d),(Uw (rZ m L)).nodup H.nd,λc d b h e j=>H.dj c d b h e ((rZ m L).subset j)⟩
def oA {s:O} {vs:List ae} {n:Nat} (c:∀b∈ay s,n<=b):∀b∈(En.rd s vs).fp,n<=b:=λb d=>by
 have:b∈(if vs=[] then [] else ay s):=d;split at this
 .cases this
 .exact c b this
def n5 {M:Nat->Prop} {w0 w:I} {L D:List En} (H:LH M w0 w L D) {i:Nat} {e:En} (hi:L[i]? =some e) (n:∀(b:Nat),¬e.P ({w with heap:=fy (b+1) (.map #[] 0)})) {b:Nat} (j:En.g b∈L):b∉e.fp:=by
 obtain ⟨q,c⟩:=iQ.1 j;by_cases d:i=q
 .subst d;rw [hi] at c;have h:e=En.g b:=fQ c;exfalso;refine n b ?_;rw [h];show b<_;simp
 .intro k;exact m1 H.nd hi c d b k (by simp [En.g])
def CS {p:Addr} {K:Addr->Prop} (c:K p):ct (some p) K:=c
abbrev aw (s:O)(i:Int)(K:Addr->Prop):Prop:=0<=i/\i<((s.n:Nat):Int)/\ct s.a K
end Go.W
