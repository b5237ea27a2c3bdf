import Derived.Test.YtcifihepfadgfaaGreatDoorW
import Derived.KernelRfl
set_option linter.unusedVariables false
namespace Go.W
open List renaming mem_cons->cU,getElem?_eq_some_iff->nP,mem_map->o8,mem_cons_of_mem->qmCM
abbrev Lv:=List (Nat×List Value×TypeId)
abbrev Sv:=List (Nat×Option (Nat×Nat))
def Sv.get? :Sv->Nat->Option (Nat×Nat)
 |[],_=>none
 |(k,v)::S,t=>bif Nat.beq k t then v else Sv.get? S t
def Sv.at (S:Sv):Operand->Option (Nat×Nat)
 |.tmp t=>S.get? t
 |_=>none
def Sv.put (S:Sv) (d:Option Nat) (o:Option (Nat×Nat)):Sv:=match d with
 |some d=>(d,o)::S
 |none=>S
structure TS where
 E:Env
 S:Sv
 L:Lv
 w:World
 d:Bool
abbrev HT:=List (Nat×Option Nat×(World->Prop))
def xI (s:TS) (K:TS->Prop):Prop:=match s.d with
 |true=>loc (pD s.L) s.w λw=>K ⟨s.E,s.S,s.L,w,false⟩
 |false=>K s
def shp:Value->Value->Bool
 |.int k _,.int k' _=>k==k'
 |.bool _,.bool _=>true
 |.string _,.string _=>true
 |.slice _ _ _,.slice _ _ _=>true
 |.pointer _,.pointer _=>true
 |.map _,.map _=>true
 |.int ..,_|.bool _,_|.string _,_|.slice ..,_|.pointer _,_|.map _,_=>false
 |_,_=>true
def PV:List Value->List Value->Bool
 |[],[]=>true
 |z::zs,v::vs=>shp z v&&PV zs vs
 |_,_=>false
def ZY (P:Program) (T:TypeId) (cs:List Value) (j:Nat) (K:Value->Prop):Prop:=
 hO (Hl P T)<|match zeroOf P T with
 |.agg zs=>hO (PV zs.toList ((cs.drop j).take zs.size)) (K (.agg ((cs.drop j).take zs.size).toArray))
 |.nilFunc=>False
 |z=>match cs[j]? with
  |some v=>hO (shp z v) (K v)
  |none=>False
def DD (P:Program) (T:TypeId) (f:Nat):Option Nat:=match P.underlying T with
 |some (.struct fs)=>match fs[f]? with
  |some f=>match P.info? f.type with
   |some i=>bif Nat.beq i.size 0 then none else some f.offset
   |none=>none
  |none=>none
 |_=>none
def yj (P:Program) (o:Oper):Bool:=match o.op with
 |.load ..|.lookup ..=>true
 |.convert s d _=>match P.underlying s,P.underlying d with
  |some (.slice _),some .string=>true
  |_,_=>false
 |.call {callee:=.builtin .len,args,argTypes}=>match args.toList,argTypes.toList with
  |[_],[T]=>match P.underlying T with
   |some (.map _ _)=>true
   |_=>false
  |_,_=>false
 |_=>false
def Js (P:Program) (o:Oper) (s:TS) (K:Value->Option (Nat×Nat)->List (Option Nat×(World->Prop))->TS->Prop):Prop:=
 bif yj P o then xI s λs=>qo P o s.E s.w λv Ss=>K v none (Ss.map λS=>(none,S)) s else qo P o s.E s.w λv Ss=>K v none (Ss.map λS=>(none,S)) s
def Lp (P:Program) (o:Oper) (s:TS) (K:Value->Option (Nat×Nat)->List (Option Nat×(World->Prop))->TS->Prop):Prop:=
 match o.op with
 |.load T x=>match s.S.at x with
  |some (i,j)=>match s.L[i]? with
   |some X=>ZY P T X.2.1 j λv=>K v none [(some i,λw=>(loadVar T ((bD X.1).add j)).run P w=.ok v w)] s
   |none=>False
  |none=>Js P o s K
 |.move x|.assign x|.nilCheck x=>match s.S.at x with
  |some q=>K ((s.E.val x).getD undef) (some q) [] s
  |none=>Js P o s K
 |.fieldAddr T x f=>match s.S.at x with
  |some (i,j)=>match DD P T f,s.L[i]? with
   |some k,some X=>K (.pointer (some ((bD X.1).add (j+k)))) (some (i,j+k)) [] s
   |_,_=>False
  |none=>Js P o s K
 |_=>Js P o s K
def xr (L:Lv) (w w':World) (p:Prop):Prop:=match L with
 |[]=>p
 |L=>kept (pD L) w w'/\p
def yg:List Value->Nat->List Value->List Value
 |cs,_,[]=>cs
 |cs,j,v::vs=>yg (cs.set j v) (j+1) vs
def HZ (lv:List Nat) (d:Option Nat):Bool:=match d with
 |some d=>lv.any (Nat.beq d)
 |none=>false
def Uh (bs:List Nat) (p:Addr):List Value->Nat->World->(World->Prop)->Prop
 |[],_,w,K=>K w
 |v::vs,i,w,K=>bR w (p.add i) v λw1=>kept bs w w1/\Uh bs p vs (i+1) w1 K
def TV (s:TS) (cs:List Value) (T:TypeId) (K:Value->Option (Nat×Nat)->Option Nat->TS->Prop):Prop:=
 bH (pD s.L) s.w λb w'=>K (.pointer (some (bD b))) (some (s.L.length,0)) none ⟨s.E,s.S,s.L++[(b,cs,T)],w',false⟩
def Dl (P:Program) (f:FuncId) (args:Array Value) (z:Value) (s:TS) (K:Value->World->Prop):Prop:=match s.L with
 |[]=>tW P f args z s.w K
 |L=>fC (pD L) P f args s.w λe w'=>va z λv=>e=.returned v/\K v w'
def Td (P:Program) (lv:List Nat) (draw:Bool) (o:Oper) (s:TS) (K:Value->Option (Nat×Nat)->Option Nat->TS->Prop):Prop:=
 match o.op with
 |.store T x y=>match s.S.at x with
  |some (i,j)=>match s.L[i]?,s.E.val y with
   |some X,some v=>hO (v.cells.size==(match P.info? T with |some i=>i.size|none=>0)&&v.cells.toList.all tj&&(P.info? T).isSome&&Nat.ble (j+v.cells.size) X.2.1.length) (K undef none (some i) ⟨s.E,s.S,s.L.set i (X.1,yg X.2.1 j v.cells.toList,X.2.2),s.w,true⟩)
   |_,_=>False
  |none=>xI s λs=>match s.L with
   |[]=>mi P o s.E s.w λv w'=>K v none none ⟨s.E,s.S,s.L,w',false⟩
   |L=>match s.E.val x,s.E.val y with
    |some (.pointer (some p)),some v=>hO (v.cells.size==(match P.info? T with |some i=>i.size|none=>0)&&v.cells.toList.all tj&&(P.info? T).isSome) (Uh (pD L) p v.cells.toList 0 s.w λw'=>K undef none none ⟨s.E,s.S,s.L,w',false⟩)
    |_,_=>False
 |.alloc T=>bif HZ lv o.dst then hO ((P.info? T).bind (·.zero)).isSome (TV s (zeroOf P T).cells.toList T K) else xI s λs=>mi P o s.E s.w λv w'=>K v none none ⟨s.E,s.S,s.L,w',false⟩
 |.box T x=>bif HZ lv o.dst then (match s.E.val x with
   |some v=>TV s v.cells.toList T K
   |none=>False) else xI s λs=>mi P o s.E s.w λv w'=>K v none none ⟨s.E,s.S,s.L,w',false⟩
 |.buildSlice ..|.makeMap ..=>xI s λs=>mi P o s.E s.w λv w'=>K v none none ⟨s.E,s.S,s.L,w',false⟩
 |.call {callee:=.value (.func f),args,..}=>xI s λs=>hO (s.E.fT o) (bif fD P f then Dl P f (args.map s.E.ev) (zeroOf P o.type) s λv w'=>K v none none ⟨s.E,s.S,s.L,w',false⟩
   else HH P f (args.map s.E.ev) (zeroOf P o.type) s.w λv w'=>xr s.L s.w w' (K v none none ⟨s.E,s.S,s.L,w',false⟩))
 |.call {callee:=.value (.tmp t),args,..}=>xI s λs=>hO (s.E.fT o) (match s.E.get? t with
   |some (.func (.func f) first captured)=>hO (fD P f) (Dl P f (first++args.map s.E.ev++captured) (zeroOf P o.type) s λv w'=>K v none none ⟨s.E,s.S,s.L,w',false⟩)
   |_=>False)
 |_=>xI s λs=>(bif draw then mi else wk) P o s.E s.w λv w'=>xr s.L s.w w' (K v none none ⟨s.E,s.S,s.L,w',false⟩)
def DQ (ops:Array Oper) (j:Nat) (w:World):HT->List Prop
 |[]=>[]
 |(i,f,S)::H=>bif rZ ops i j||f.isSome then DQ ops j w H else S w::DQ ops j w H
def kK (ops:Array Oper) (j:Nat):HT->HT
 |[]=>[]
 |(i,f,S)::H=>bif rZ ops i j then kK ops j H else (i,f,S)::kK ops j H
def GJ (ops:Array Oper) (j:Nat) (s:TS) (H:HT) (K:TS->Prop):Prop:=
 bif H.any (λp=>!(rZ ops p.1 j)&&p.2.1.isNone) then xI s λs=>I6 (DQ ops j s.w H) (K s) else K s
def stepT (P:Program) (lv:List Nat) (ops:Array Oper) (draw:Bool) (i:Nat) (o:Oper) (s:TS) (H:HT) (K:TS->HT->Prop):Prop:=
 bif calm P o then Lp P o s λv q Ss s=>K ⟨s.E.put o.dst v,s.S.put o.dst q,s.L,s.w,s.d⟩ (bif draw then Ss.map (λS=>(i,S))++H else H)
 else Td P lv draw o s λv q m s=>hO (!((kK ops i H).any λp=>m.isSome&&p.2.1==m)) (GJ ops i s H λs=>K ⟨s.E.put o.dst v,s.S.put o.dst q,s.L,s.w,s.d⟩ (kK ops i H))
def qs (P:Program) (lv:List Nat) (ops:Array Oper) (draw:Bool) (i:Nat) (o:Oper) (d:Nat) (want t:Bool) (s:TS) (H:HT) (K:TS->HT->Prop):Prop:=
 bif (t==want) then stepT P lv ops draw i o ⟨(d,.bool t)::s.E,s.S,s.L,s.w,s.d⟩ H K else K ⟨Env.put ((d,.bool t)::s.E) o.dst undef,s.S.put o.dst none,s.L,s.w,s.d⟩ (bif calm P o then H else kK ops i H)
def runT (P:Program) (lv:List Nat) (ops:Array Oper) (draw:Bool) (K:TS->Prop):List Nat->TS->HT->Prop
 |[],s,_=>K s
 |i::l,s,H=>
  match ops[i]? with
  |none=>False
  |some o=>match o.guard with
   |none=>stepT P lv ops draw i o s H λs' H'=>runT P lv ops draw K l s' H'
   |some (j,want)=>match pK ops j with
    |none=>False
    |some d=>match s.E.get? d with
     |some (.bool t)=>aH t (qs P lv ops draw i o d want true s H λs' H'=>runT P lv ops draw K l s' H') (qs P lv ops draw i o d want false s H λs' H'=>runT P lv ops draw K l s' H')
     |some (.tuple _)=>runT P lv ops draw K l ⟨Env.put s.E o.dst undef,s.S.put o.dst none,s.L,s.w,s.d⟩ (bif calm P o then H else kK ops i H)
     |_=>False
def DP (P:Program) (lv:List Nat) (ops:Array Oper) (i:Nat) (s:TS) (H:HT) (Kn:TS->HT->Prop):Prop:=
 match ops[i]? with
 |none=>False
 |some o=>match o.guard with
  |none=>stepT P lv ops true i o s H Kn
  |some (j,want)=>match pK ops j with
   |none=>False
   |some d=>match s.E.get? d with
    |some (.bool t)=>aH t (qs P lv ops true i o d want true s H Kn) (qs P lv ops true i o d want false s H Kn)
    |some (.tuple _)=>Kn ⟨Env.put s.E o.dst undef,s.S.put o.dst none,s.L,s.w,s.d⟩ (bif calm P o then H else kK ops i H)
    |_=>False
def R6 (P:Program) (lv:List Nat) (ops:Array Oper) (K:TS->Prop):Tr->TS->HT->Prop
 |.nil,s,_=>K s
 |.one i t,s,H=>DP P lv ops i s H λs' H'=>R6 P lv ops K t s' H'
 |.fork a b,s,H=>R6 P lv ops K a s H/\R6 P lv ops K b s H
def Tr.sq:List Nat->Tr->Tr
 |[],t=>t
 |i::l,t=>.one i (Tr.sq l t)
def Vx (s:TS) (K:TS->Prop):Prop:=match s.L,s.d with
 |[],false=>K ⟨s.E,s.S,s.L,s.w.drew,false⟩
 |_,_=>K ⟨s.E,s.S,s.L,s.w,true⟩
section
variable {P:Program}
structure Inv (s:TS) (w:World):Prop where
 lc:LC w s.L
 rel:if s.d=true then Fr (·∈pD s.L) s.w w else w=s.w
 sl:∀t i j,s.S.get? t=some (i,j)->∃X,s.L[i]? =some X/\s.E.get? t=some (.pointer (some ((bD X.1).add j)))
theorem Inv.xI {s:TS} {w:World} {K:TS->Prop} (I:Inv s w) (h:W.xI s K):Inv ⟨s.E,s.S,s.L,w,false⟩ w/\K ⟨s.E,s.S,s.L,w,false⟩:=by
 refine ⟨⟨I.lc,by simp,I.sl⟩,?_⟩
 unfold W.xI at h
 have hr:=I.rel
 cases hd:s.d with
 |true=>
  rw [hd] at h hr
  exact h w (by simpa using hr)
 |false=>
  rw [hd] at h hr
  have:w=s.w:=by simpa using hr
  obtain ⟨E,S,L,w0,d⟩:=s
  simp only at hd this
  subst hd this
  exact h
theorem Inv.fr {s:TS} {w:World} (I:Inv s w):Fr (·∈pD s.L) s.w w:=by
 have hr:=I.rel
 cases hd:s.d with
 |true=>rw [hd] at hr;simpa using hr
 |false=>
  rw [hd] at hr
  have:w=s.w:=by simpa using hr
  subst this
  exact Fr.refl _ _
theorem Inv.at {s:TS} {w:World} (I:Inv s w) {x:Operand} {i j:Nat} (h:s.S.at x=some (i,j)):∃X,s.L[i]? =some X/\s.E.val x=some (.pointer (some ((bD X.1).add j)))/\w.heap[X.1]? =some (.cells X.2.1.toArray X.2.2 (0,0)):=by
 cases x with
 |tmp t=>
  obtain ⟨X,h1,h2⟩:=I.sl t i j h
  exact ⟨X,h1,h2,I.lc.own i X h1⟩
 |_=>cases h
theorem EK:∀{zs vs:List Value},PV zs vs=true->vs.length=zs.length
 |[],[],_=>rfl
 |z::zs,v::vs,h=>by
  unfold PV at h
  rw [Bool.and_eq_true] at h
  simp [EK h.2]
theorem Bi {T:TypeId} {cs:List Value} {j b:Nat} {ty:TypeId} {K:Value->Prop} (h:ZY P T cs j K):
  ∃v,K v/\∀w:World,w.heap[b]? =some (.cells cs.toArray ty (0,0))->(loadVar T ((bD b).add j)).run P w=.ok v w:=by
 obtain ⟨ho,h⟩:=bX h
 unfold Hl at ho
 have one:∀(v:Value),cs[j]? =some v->(Fz P T==some false)=true->∀w:World,w.heap[b]? =some (.cells cs.toArray ty (0,0))->(loadVar T ((bD b).add j)).run P w=.ok v w:=λv hv ha w hw=>
  oP (by simpa using ha) (cellAt (p:=bD b) hw rfl (by simpa using hv))
 cases hz:zeroOf P T with
 |agg zs=>
  rw [hz] at h ho
  simp only at h ho
  obtain ⟨hs,hk⟩:=bX h
  rw [Bool.and_eq_true] at ho
  obtain ⟨ha,hi⟩:=ho
  cases vj:P.info? T with
  |none=>rw [vj] at hi;simp at hi
  |some i=>
   rw [vj] at hi
   simp at hi ha
   refine ⟨_,hk,λw hw=>rN ha vj (by rw [hi,EK hs];simp) λk v XA=>?_⟩
   rw [add_add]
   refine cellAt (p:=bD b) hw rfl ?_
   rw [List.getElem?_take] at XA
   split at XA
   .simpa using XA
   .cases XA
 |nilFunc=>rw [hz] at h;exact h.elim
 |_=>
  rw [hz] at h ho
  simp only at h
  split at h
  .rename_i v hv
   exact ⟨v,(bX h).2,one v hv ho⟩
  .exact h.elim
theorem Dq {o:Oper} {E:Env} {w w':World} {K:Value->List (World->Prop)->Prop} (h:yj P o=false) (hc:qo P o E w K):qo P o E w' K:=by
 unfold qo at hc ⊢
 unfold yj at h
 split at hc<;>first |exact hc|skip
 all_goals rename_i eJ
 all_goals rw [eJ] at h
 .cases h
 .cases h
 .split
  .rename_i hs hd _
   simp only [hs,hd] at h
   cases h
  .split at hc
   .rename_i hs hd _
    simp only [hs,hd] at h
    cases h
   .exact hc
 .split
  .rename_i ha ht
   simp only [ha,ht] at h hc
   split
   .rename_i hu _
    simp only [hu] at h
    cases h
   .split at hc
    .rename_i hu _
     simp only [hu] at h
     cases h
    .exact hc
  .rename_i wD
   split at hc
   .rename_i ha ht
    exact (wD _ _ ha ht).elim
   .exact hc
def Hd (P:Program) (o:Oper) (a:Act) (s:TS) (w:World) (v:Value) (q:Option (Nat×Nat)) (Ss:List (Option Nat×(World->Prop))) (s':TS):Prop:=
 Inv s' w/\s'.E=s.E/\s'.S=s.S/\s'.L=s.L/\Calm P o a.eval w v (Ss.map (·.2))/\
 (∀p∈Ss,∀i,p.1=some i->∃X,s.L[i]? =some X/\∀w':World,w'.heap[X.1]? =some (.cells X.2.1.toArray X.2.2 (0,0))->p.2 w')/\
 (∀i j,q=some (i,j)->∃X,s.L[i]? =some X/\v=.pointer (some ((bD X.1).add j)))
section
variable {o:Oper} {n:Cx} {a:Act} {s:TS} {w:World} {K:Value->Option (Nat×Nat)->List (Option Nat×(World->Prop))->TS->Prop}
theorem FZ (hs:∀cs b,o.op≠.select cs b) (ha:Ag n a s.E) (I:Inv s w) (h:Js P o s K):∃v q Ss s',K v q Ss s'/\Hd P o a s w v q Ss s':=by
 have fin:∀(s':TS),s'.E=s.E->s'.S=s.S->s'.L=s.L->Inv s' w->qo P o s.E w (λv Ss=>K v none (Ss.map λS=>(none,S)) s')->∃v q Ss s',K v q Ss s'/\Hd P o a s w v q Ss s':=λs' e1 e2 e3 I' hc=>by
  obtain ⟨v,Ss,hv,tF⟩:=oV hs ha hc
  refine ⟨v,none,_,s',hv,I',e1,e2,e3,?_,λp hp i hi=>?_,λi j hq=>by cases hq⟩
  .rw [List.map_map]
   have:((λx:Option Nat×(World->Prop)=>x.2)∘λS=>((none:Option Nat),S))=id:=rfl
   rw [this,List.map_id]
   exact tF
  .obtain ⟨S,_,rfl⟩:=o8.1 hp
   cases hi
 unfold Js at h
 cases hw:yj P o with
 |true=>
  rw [hw,cond_true] at h
  obtain ⟨I',h'⟩:=I.xI h
  exact fin ⟨s.E,s.S,s.L,w,false⟩ rfl rfl rfl I' h'
 |false=>
  rw [hw,cond_false] at h
  exact fin s rfl rfl rfl I (Dq hw h)
theorem Dp (hs:∀cs b,o.op≠.select cs b) (ha:Ag n a s.E) (I:Inv s w) (h:Lp P o s K):∃v q Ss s',K v q Ss s'/\Hd P o a s w v q Ss s':=by
 have gen:=λh=>FZ (P:=P) (K:=K) hs ha I h
 have same:∀(x:Operand) (q:Nat×Nat),s.S.at x=some q->(∀w,(execOp a.eval o).run P w=.ok (.value (a.eval x)) w\/∀p,a.eval x≠.pointer (some p))->K ((s.E.val x).getD undef) (some q) [] s->∃v q Ss s',K v q Ss s'/\Hd P o a s w v q Ss s':=λx q hx hr hk=>by
  obtain ⟨X,h1,h2,_⟩:=I.at (i:=q.1) (j:=q.2) hx
  have he:=ha.val h2
  refine ⟨_,_,_,s,hk,I,rfl,rfl,rfl,⟨λS hS=>(by cases hS),λw' _=>?_⟩,λp hp=>(by cases hp),λi j hq=>?_⟩
  .rcases hr w' with hr|hr
   .rw [hr,h2,he];rfl
   .exact (hr _ he).elim
  .cases hq
   exact ⟨X,h1,by rw [h2];rfl⟩
 unfold Lp at h
 split at h
 .rename_i T x eJ
  split at h
  .rename_i i j hx
   obtain ⟨X,h1,h2,h3⟩:=I.at hx
   rw [h1] at h
   obtain ⟨v,hk,hv⟩:=Bi (b:=X.1) (ty:=X.2.2) h
   refine ⟨v,_,_,s,hk,I,rfl,rfl,rfl,⟨λS hS=>?_,λw' As=>?_⟩,λp hp i' vX=>?_,λi j hq=>by cases hq⟩
   .simp only [List.map_cons,List.map_nil,cU,List.not_mem_nil,or_false] at hS
    subst hS
    exact hv w h3
   .have:(loadVar T ((bD X.1).add j)).run P w'=.ok v w':=As (λw=>(loadVar T ((bD X.1).add j)).run P w=.ok v w) (by simp)
    simp [execOp,eJ,Instr.loadAt,ha.val h2,Instr.sureAddr,this]
   .simp only [cU,List.not_mem_nil,or_false] at hp
    subst hp
    cases vX
    exact ⟨X,h1,hv⟩
  .exact gen h
 .rename_i x eJ
  split at h
  .rename_i q hx
   exact same x q hx (λw=>.inl (by simp [execOp,eJ])) h
  .exact gen h
 .rename_i x eJ
  split at h
  .rename_i q hx
   exact same x q hx (λw=>.inl (by simp [execOp,eJ])) h
  .exact gen h
 .rename_i x eJ
  split at h
  .rename_i q hx
   refine same x q hx (λw=>?_) h
   obtain ⟨X,_,h2,_⟩:=I.at (i:=q.1) (j:=q.2) hx
   exact .inl (by simp [execOp,eJ,ha.val h2])
  .exact gen h
 .rename_i T x f eJ
  split at h
  .rename_i i j hx
   obtain ⟨X,h1,h2,h3⟩:=I.at hx
   split at h
   .rename_i k X' hk QU
    rw [h1] at QU
    cases QU
    refine ⟨_,_,_,s,h,I,rfl,rfl,rfl,⟨λS hS=>(by cases hS),λw' _=>?_⟩,λp hp=>(by cases hp),λi' j' hq=>?_⟩
    .unfold DD at hk
     split at hk
     .rename_i fs hu
      split at hk
      .rename_i fd hf
       split at hk
       .rename_i inf vj
        cases hz:Nat.beq inf.size 0 with
        |true=>rw [hz] at hk;cases hk
        |false=>
         rw [hz] at hk
         cases hk
         have iq:inf.size≠0:=λe=>by rw [e] at hz;cases hz
         simp [execOp,eJ,ha.val h2,Instr.fieldAt,run_underlying hu,hf,Instr.sureAddr,fieldPlace,sizeOf,typeInfo,vj,iq,add_add]
       .cases hk
      .cases hk
     .cases hk
    .cases hq
     exact ⟨X,h1,rfl⟩
   .exact h.elim
  .exact gen h
 .exact gen h
end
def I3 (s:TS) (K:Value->Option (Nat×Nat)->Option Nat->TS->Prop) (v:Value) (w':World):Prop:=
 ∃q m s',K v q m s'/\Inv s' w'/\s'.E=s.E/\s'.S=s.S/\(∀i X,s.L[i]? =some X->m≠some i->s'.L[i]? =some X)/\
  (∀i j,q=some (i,j)->∃X,s'.L[i]? =some X/\v=.pointer (some ((bD X.1).add j)))
theorem xF {o:Oper} {ρ:Operand->Value} {T:TypeId} {z:Value} (eJ:o.op=.alloc T) (hz:(P.info? T).bind (·.zero)=some z) (w:World):
  (execOp ρ o).run P w=.ok (.value (.pointer (some (bD w.heap.size)))) (w.alloc (.cells z.cells T)):=by
 cases hi:P.info? T with
 |none=>rw [hi] at hz;cases hz
 |some i=>
  rw [hi] at hz
  have O3:i.zero=some z:=hz
  simp [execOp,eJ,Instr.alloc,zeroValue,typeInfo,hi,O3,newVar,newRow]
theorem Bt {o:Oper} {ρ:Operand->Value} {T:TypeId} {x:Operand} (eJ:o.op=.box T x) (w:World):
  (execOp ρ o).run P w=.ok (.value (.pointer (some (bD w.heap.size)))) (w.alloc (.cells (ρ x).cells T)):=by
 simp [execOp,eJ,Instr.box,newVar,newRow]
theorem Gr {L:Lv} {w w':World} {p:Prop} (h:xr L w w' p) (H:LC w L):LC w' L/\p:=by
 cases L with
 |nil=>exact ⟨LC.nil _,h⟩
 |cons x L=>exact ⟨H.xr h.1,h.2⟩
section
variable {o:Oper} {n:Cx} {a:Act} {s:TS} {w:World} {K:Value->Option (Nat×Nat)->Option Nat->TS->Prop}
theorem yC {f:FuncId} {args:Array Value} {K:Value->World->Prop} (lH:(execOp a.eval o).run P w=.ok (.enter f args) w) (h:Calls P f args w λe w'=>∃v,e=.returned v/\K v w'):r7 P o a w K:=by
 intro Q
 unfold Oper.wp
 rw [lH]
 simp only [Oper.upon]
 refine Calls.mono h λe w' he=>?_
 obtain ⟨v,rfl,hk⟩:=he
 exact ⟨v,rfl,hk⟩
theorem yD {f:FuncId} {args:Array Value} {z:Value} {K:Value->World->Prop} (lH:(execOp a.eval o).run P w=.ok (.enter f args) w) (H:LC w s.L) (hw:s.w=w) (h:Dl P f args z s K):r7 P o a w λv w'=>LC w' s.L/\K v w':=by
 unfold Dl at h
 split at h
 .rename_i hL
  rw [hw] at h
  refine yC lH (Calls.mono h λe w' he=>?_)
  obtain ⟨v,rfl,hk⟩:=mI he
  exact ⟨v,rfl,by rw [hL];exact LC.nil _,hk⟩
 .rw [hw] at h
  obtain ⟨M,hm,hc⟩:=h
  refine yC lH (Calls.mono hc λe w' he=>?_)
  obtain ⟨f',hx⟩:=he
  obtain ⟨v,rfl,hk⟩:=mI hx
  exact ⟨v,rfl,H.fr f' hm,hk⟩
theorem Ei {cs:Array Value} {T:TypeId} (lH:(execOp a.eval o).run P w=.ok (.value (.pointer (some (bD w.heap.size)))) (w.alloc (.cells cs T))) (I:Inv s w) (h:TV s cs.toList T K):r7 P o a w (I3 s K):=by
 intro Q
 unfold Oper.wp
 rw [lH]
 simp only [Oper.upon]
 refine ⟨_,rfl,_,_,_,h w.heap.size (w.alloc (.cells cs T)) I.fr.size (size_alloc _ _) (I.fr.zM (Fr.alloc _ _ _)),⟨I.lc.push cs T,by simp,λt i j hq=>?_⟩,rfl,rfl,λi X hX _=>?_,λi j hq=>?_⟩
 .obtain ⟨X,h1,h2⟩:=I.sl t i j hq
  exact ⟨X,by rw [List.getElem?_append_left (nP.1 h1).1];exact h1,h2⟩
 .rw [List.getElem?_append_left (nP.1 hX).1];exact hX
 .cases hq
  exact ⟨(w.heap.size,cs.toList,T),by simp,by rw [tR]⟩
theorem RD {i j b:Nat} {T:TypeId} {wT:World} {K:World->Prop}:∀(vs:List Value) (k:Nat) (w:World) (L:Lv) (cs:List Value),LC w L->L[i]? =some (b,cs,T)->j+k+vs.length<=cs.length->Fr (·∈pD L) wT w->
  (∀w',LC w' (L.set i (b,yg cs (j+k) vs,T))->Fr (·∈pD L) wT w'->K w')->GX ((bD b).add j) vs k w K
 |[],k,w,L,cs,H,hi,hl,f,hk=>by
  refine hk w ?_ f
  have:L.set i (b,cs,T)=L:=by
   apply List.ext_getElem?
   intro m
   rw [List.getElem?_set]
   split
   .rename_i e
    subst e
    split
    .exact hi.symm
    .rename_i h;exact absurd (nP.1 hi).1 h
   .rfl
  rw [show yg cs (j+k) []=cs from rfl,this]
  exact H
 |v::vs,k,w,L,cs,H,hi,hl,f,hk=>by
  simp only [List.length_cons] at hl
  obtain ⟨x1,x2,x3,x4⟩:=H.set (v:=v) i (j+k) hi (by omega) f
  unfold GX
  rw [add_add]
  refine ⟨x1,x2,RD (i:=i) (T:=T) vs (k+1) _ _ (cs.set (j+k) v) x3 ?_ (by rw [List.length_set];omega) x4 λw' h1 h2=>?_⟩
  .rw [List.getElem?_set_self (nP.1 hi).1]
  .rw [List.set_set] at h1
   rw [FD L i hi] at h2
   exact hk w' h1 h2
theorem zv {L:Lv} {p:Addr} {K K':World->Prop} (hk:∀w',LC w' L->K w'->K' w'):∀(vs:List Value) (i:Nat) (w:World),LC w L->Uh (pD L) p vs i w K->GX p vs i w K'
 |[],_,w,H,h=>hk w H h
 |v::vs,i,w,H,h=>by
  obtain ⟨h1,h2,h3,h4⟩:=h
  exact ⟨h1,h2,zv hk vs (i+1) _ (H.xr h3) h4⟩
theorem Fl {b:Bool} {p:Prop} (h1:b=true) (h2:p):hO b p:=by subst h1;exact h2
theorem xm {E:Env} {T:TypeId} {x y:Operand} {p:Addr} {v:Value} {K:Value->World->Prop} (eJ:o.op=.store T x y) (hx:E.val x=some (.pointer (some p))) (hy:E.val y=some v)
  (hc:(v.cells.size==(match P.info? T with |some i=>i.size|none=>0)&&v.cells.toList.all tj&&(P.info? T).isSome)=true) (h:GX p v.cells.toList 0 w λw'=>K undef w'):mi P o E w K:=by
 unfold mi
 rw [eJ]
 simp only [hx,hy]
 exact Fl hc h
theorem Bu {ρ:Operand->Value} {nx:Next} {w':World} (eJ:(∃T,o.op=.alloc T)\/(∃T x,o.op=.box T x)\/(∃T l p,o.op=.buildSlice T l p)\/(∃T r,o.op=.makeMap T r)) (h:(execOp ρ o).run P w=.ok nx w'):bF w w':=by
 rcases eJ with ⟨T,eJ⟩|⟨T,x,eJ⟩|⟨T,l,p,eJ⟩|⟨T,r,eJ⟩
 .cases hz:(P.info? T).bind (·.zero) with
  |some z=>
   rw [xF eJ hz] at h
   cases h
   exact Fr.alloc _ _ _
  |none=>
   exfalso
   cases hi:P.info? T with
   |none=>simp [execOp,eJ,Instr.alloc,zeroValue,typeInfo,hi] at h
   |some i=>
    rw [hi] at hz
    have O3:i.zero=none:=hz
    simp [execOp,eJ,Instr.alloc,zeroValue,typeInfo,hi,O3] at h
 .rw [Bt eJ] at h
  cases h
  exact Fr.alloc _ _ _
 .cases hu:P.underlying T with
  |none=>simp [execOp,eJ,Instr.buildSlice,underlying,hu] at h
  |some u=>
   cases u<;>first |(simp [execOp,eJ,Instr.buildSlice,run_underlying hu] at h;done)|skip
   rename_i e
   cases hi:P.info? e with
   |none=>simp [execOp,eJ,Instr.buildSlice,run_underlying hu,sizeOf,typeInfo,hi] at h
   |some i=>
    by_cases Ge:l *i.size>2^24
    .simp [execOp,eJ,Instr.buildSlice,run_underlying hu,sizeOf,typeInfo,hi,Ge] at h
    by_cases h0:l *i.size=0
    .simp [execOp,eJ,Instr.buildSlice,run_underlying hu,sizeOf,typeInfo,hi,h0] at h
     split at h
     .simp [newRow] at h
      obtain ⟨_,rfl⟩:=h
      exact Fr.alloc _ _ _
     .simp at h
    .simp [execOp,eJ,Instr.buildSlice,run_underlying hu,sizeOf,typeInfo,hi,Ge,h0] at h
     cases hz:i.zero with
     |none=>simp [zeroValue,typeInfo,hi,hz] at h
     |some z=>
      simp [zeroValue,typeInfo,hi,hz] at h
      split at h
      .simp [newRow] at h
       obtain ⟨_,rfl⟩:=h
       exact Fr.alloc _ _ _
      .simp at h
 .cases r with
  |none=>
   simp [execOp,eJ,Instr.makeMap] at h
   obtain ⟨_,rfl⟩:=h
   exact Fr.alloc _ _ _
  |some r=>
   cases hu:P.underlying T with
   |none=>simp [execOp,eJ,Instr.makeMap,underlying,hu] at h
   |some u=>
    cases u<;>first |(simp [execOp,eJ,Instr.makeMap,run_underlying hu] at h;done)|skip
    cases hr:ρ r with
    |int k z=>
     simp [execOp,eJ,Instr.makeMap,run_underlying hu,hr,Go.asInt,Go.asIntOf] at h
     obtain ⟨_,rfl⟩:=h
     exact Fr.alloc _ _ _
    |pointer q=>cases q<;>simp [execOp,eJ,Instr.makeMap,run_underlying hu,hr,Go.asInt,Go.asIntOf] at h
    |_=>simp [execOp,eJ,Instr.makeMap,run_underlying hu,hr,Go.asInt,Go.asIntOf] at h
theorem MG {K:Value->World->Prop} (hs:∀cs b,o.op≠.select cs b) (ha:Ag n a s.E) (eJ:(∃T,o.op=.alloc T)\/(∃T x,o.op=.box T x)\/(∃T l p,o.op=.buildSlice T l p)\/(∃T r,o.op=.makeMap T r)) (h:mi P o s.E w K):r7 P o a w λv w'=>bF w w'/\K v w':=by
 have h':wu P o s.E w K:=by
  unfold mi at h
  rcases eJ with ⟨T,eJ⟩|⟨T,x,eJ⟩|⟨T,l,p,eJ⟩|⟨T,r,eJ⟩<;>rw [eJ] at h<;>exact h
 obtain ⟨hc,h'⟩:=bX h'
 intro Q
 unfold Oper.wp
 rw [ha.execOp hs hc]
 generalize hr:(execOp s.E.ev o).run P w=r at h'
 split at h'
 .simp only [Oper.upon];exact ⟨_,rfl,Bu eJ hr,h'⟩
 .simp only [Oper.upon];exact ⟨_,rfl,Bu eJ hr,h'⟩
 .exact h'.elim
theorem FP {draw:Bool} {lv:List Nat} (A:(Value->World->Prop)->Prop) (h0:∀K,r7 P o a w K->A K) (h1:∀K,(bif draw then mi else wk) P o s.E w K->A K) (hm:∀K K',(∀v w',K v w'->K' v w')->A K->A K')
  (hs:∀cs b,o.op≠.select cs b) (ha:Ag n a s.E) (I:Inv s w) (h:Td P lv draw o s K):A (I3 s K):=by
 have back:∀v w',LC w' s.L->K v none none ⟨s.E,s.S,s.L,w',false⟩->I3 s K v w':=λv w' H hk=>⟨none,none,_,hk,⟨H,by simp,I.sl⟩,rfl,rfl,λi X h _=>h,λi j hq=>by cases hq⟩
 have QL:∀v w',xr s.L w w' (K v none none ⟨s.E,s.S,s.L,w',false⟩)->I3 s K v w':=λv w' hk=>by
  obtain ⟨H,hk⟩:=Gr hk I.lc
  exact back v w' H hk
 have news:((∃T,o.op=.alloc T)\/(∃T x,o.op=.box T x)\/(∃T l p,o.op=.buildSlice T l p)\/(∃T r,o.op=.makeMap T r))->xI s (λs=>mi P o s.E s.w λv w'=>K v none none ⟨s.E,s.S,s.L,w',false⟩)->A (I3 s K):=λeJ h=>by
  obtain ⟨_,h'⟩:=I.xI h
  exact hm _ _ (λv w' ⟨f,hk⟩=>back v w' (I.lc.fr (M:=λ_=>False) f (λ_ _ h=>h)) hk) (h0 _ (MG hs ha eJ h'))
 unfold Td at h
 split at h
 .rename_i T x y eJ
  split at h
  .rename_i i j hx
   obtain ⟨X,g1,g2,_⟩:=I.at hx
   split at h
   .rename_i X' v QU hv
    rw [g1] at QU
    cases QU
    obtain ⟨hc,hk⟩:=bX h
    rw [Bool.and_eq_true] at hc
    obtain ⟨hc,hb⟩:=hc
    have hb:=Nat.le_of_ble_eq_true hb
    refine h0 _ (im hs ha (xm eJ g2 hv hc ?_))
    refine RD (i:=i) (T:=X.2.2) _ 0 w s.L X.2.1 I.lc g1 (by simpa using hb) I.fr λw' q1 q2=>?_
    refine ⟨none,some i,_,hk,⟨q1,?_,λt i' j' ht=>?_⟩,rfl,rfl,λi' Y hY iq=>?_,λi j hq=>by cases hq⟩
    .simp only [if_true]
     rw [FD s.L i g1]
     exact q2
    .obtain ⟨Y,y1,y2⟩:=I.sl t i' j' ht
     by_cases e:i=i'
     .subst e
      rw [g1] at y1
      cases y1
      exact ⟨_,List.getElem?_set_self (nP.1 g1).1,y2⟩
     .exact ⟨Y,by rw [List.getElem?_set_ne e];exact y1,y2⟩
    .have e:i≠i':=λe=>iq (by rw [e])
     show (s.L.set i _)[i']? =_
     rw [List.getElem?_set_ne e];exact hY
   .exact h.elim
  .obtain ⟨_,h'⟩:=I.xI h
   simp only at h'
   split at h'
   .rename_i hL
    exact hm _ _ (λv w' hk=>back v w' (hL▸LC.nil _) hk) (h0 _ (im hs ha h'))
   .split at h'
    .rename_i p v hx hy
     obtain ⟨hc,hk⟩:=bX h'
     exact hm _ _ (λv w' hk=>hk) (h0 _ (im hs ha (xm eJ hx hy hc (zv (K':=I3 s K undef) (λw' H hk=>back _ w' H hk) _ _ _ I.lc hk))))
    .exact h'.elim
 .rename_i T eJ
  cases hl:HZ lv o.dst with
  |true=>
   rw [hl,cond_true] at h
   obtain ⟨hz,h⟩:=bX h
   obtain ⟨z,hz⟩:=Option.isSome_iff_exists.1 hz
   have:zeroOf P T=z:=by unfold zeroOf;rw [hz];rfl
   rw [this] at h
   exact h0 _ (Ei (xF eJ hz w) I h)
  |false=>
   rw [hl,cond_false] at h
   exact news (.inl ⟨T,eJ⟩) h
 .rename_i T x eJ
  cases hl:HZ lv o.dst with
  |true=>
   rw [hl,cond_true] at h
   split at h
   .rename_i v hv
    have:=Bt (P:=P) (ρ:=a.eval) eJ w
    rw [ha.val hv] at this
    exact h0 _ (Ei this I h)
   .exact h.elim
  |false=>
   rw [hl,cond_false] at h
   exact news (.inr (.inl ⟨T,x,eJ⟩)) h
 .rename_i T l p eJ
  exact news (.inr (.inr (.inl ⟨T,l,p,eJ⟩))) h
 .rename_i T r eJ
  exact news (.inr (.inr (.inr ⟨T,r,eJ⟩))) h
 .rename_i f args R8 eJ
  obtain ⟨I',h⟩:=I.xI h
  obtain ⟨hc,h⟩:=bX h
  have hargs:args.map a.eval=args.map s.E.ev:=ha.args λx hx=>List.all_eq_true.1 hc x (by rw [eJ];simp [Op.operands,Call.operands,hx])
  cases A6:fD P f with
  |true=>
   rw [A6,cond_true] at h
   exact hm _ _ (λv w' ⟨H,hk⟩=>back v w' H hk) (h0 _ (yD (s:=⟨s.E,s.S,s.L,w,false⟩) (by simp [execOp,eJ,resolve,Act.eval,Deferred.ofValue,invoke,hargs,mh A6]) I.lc rfl h))
  |false=>
   rw [A6,cond_false] at h
   unfold HH at h
   obtain ⟨v,w',hr,hk⟩:=mI h
   refine hm _ _ QL (h0 _ λQ=>?_)
   unfold Oper.wp
   have:(execOp a.eval o).run P w=.ok (.value v) w':=by simp [execOp,eJ,resolve,Act.eval,Deferred.ofValue,invoke,hargs,hr]
   rw [this]
   simp only [Oper.upon]
   exact ⟨_,rfl,hk⟩
 .rename_i t args R8 eJ
  obtain ⟨I',h⟩:=I.xI h
  obtain ⟨hc,h⟩:=bX h
  have hargs:args.map a.eval=args.map s.E.ev:=ha.args λx hx=>List.all_eq_true.1 hc x (by rw [eJ];simp [Op.operands,Call.operands,hx])
  split at h
  .rename_i f first captured hf
   obtain ⟨A6,h⟩:=bX h
   have OT:a.eval (.tmp t)=.func (.func f) first captured:=ha.val (x:=.tmp t) hf
   exact hm _ _ (λv w' ⟨H,hk⟩=>back v w' H hk) (h0 _ (yD (s:=⟨s.E,s.S,s.L,w,false⟩) (by simp [execOp,eJ,resolve,OT,Deferred.ofValue,invoke,hargs,mh A6]) I.lc rfl h))
  .exact h.elim
 .obtain ⟨_,h'⟩:=I.xI h
  exact hm _ _ QL (h1 _ h')
end
def HI (s:TS) (H:HT) (w:World):Prop:=∀p∈H,p.2.2 w/\∀i,p.2.1=some i->∃X,s.L[i]? =some X/\∀w':World,w'.heap[X.1]? =some (.cells X.2.1.toArray X.2.2 (0,0))->p.2.2 w'
def nk (H:HT):lU:=H.map λp=>(p.1,p.2.2)
theorem pw {ops:Array Oper} {j:Nat}:∀H:HT,eP ops j (nk H)=nk (kK ops j H)
 |[]=>rfl
 |(i,f,S)::H=>by
  show eP ops j ((i,S)::nk H)=nk (kK ops j ((i,f,S)::H))
  unfold eP kK
  cases rZ ops i j
  .simp only [cond_false]
   rw [pw H];rfl
  .simp only [cond_true]
   exact pw H
theorem kz {ops:Array Oper} {j:Nat}:∀{H:HT} {p},p∈kK ops j H->p∈H/\rZ ops p.1 j=false
 |(i,f,S)::H,p,h=>by
  unfold kK at h
  cases ho:rZ ops i j with
  |true=>
   rw [ho,cond_true] at h
   exact ⟨qmCM _ (kz h).1,(kz h).2⟩
  |false=>
   rw [ho,cond_false] at h
   rcases cU.1 h with rfl|h
   .exact ⟨List.mem_cons_self,ho⟩
   .exact ⟨qmCM _ (kz h).1,(kz h).2⟩
theorem DR {ops:Array Oper} {j:Nat} {w:World}:∀{H:HT} {p},p∈H->rZ ops p.1 j=false->p.2.1=none->p.2.2 w∈DQ ops j w H
 |(i,f,S)::H,p,h,ho,hf=>by
  unfold DQ
  rcases cU.1 h with rfl|h
  .simp only at ho hf
   rw [ho,hf]
   exact List.mem_cons_self
  .have:=DR (w:=w) h ho hf
   cases (rZ ops i j||f.isSome)
   .exact qmCM _ this
   .exact this
theorem Inv.put {s:TS} {w:World} (I:Inv s w) (d:Option Nat) {v:Value} {q:Option (Nat×Nat)} (hq:∀i j,q=some (i,j)->∃X,s.L[i]? =some X/\v=.pointer (some ((bD X.1).add j))):Inv ⟨s.E.put d v,s.S.put d q,s.L,s.w,s.d⟩ w:=by
 refine ⟨I.lc,I.rel,λt i j ht=>?_⟩
 cases d with
 |none=>exact I.sl t i j ht
 |some d=>
  simp only [Sv.put,Sv.get?] at ht
  simp only [Env.put,Env.get?]
  cases hb:Nat.beq d t with
  |true=>
   rw [hb,cond_true] at ht
   obtain ⟨X,h1,h2⟩:=hq i j ht
   exact ⟨X,h1,by simp [h2]⟩
  |false=>
   rw [hb,cond_false] at ht
   obtain ⟨X,h1,h2⟩:=I.sl t i j ht
   exact ⟨X,h1,by simpa using h2⟩
theorem Cr {ops:Array Oper} {j:Nat} {s s1:TS} {w w':World} {m:Option Nat} {H:HT} {K:TS->Prop} (hH:HI s H w) (I:Inv s1 w') (hL:∀i X,s.L[i]? =some X->m≠some i->s1.L[i]? =some X)
  (hc:(!((kK ops j H).any λp=>m.isSome&&p.2.1==m))=true) (h:GJ ops j s1 H K):
  ∃s2,K s2/\Inv s2 w'/\s2.E=s1.E/\s2.S=s1.S/\s2.L=s1.L/\HI s2 (kK ops j H) w':=by
 have TQ:∀p∈kK ops j H,∀i,p.2.1=some i->∃X,s1.L[i]? =some X/\∀w':World,w'.heap[X.1]? =some (.cells X.2.1.toArray X.2.2 (0,0))->p.2.2 w':=λp hp i hi=>by
  obtain ⟨X,h1,h2⟩:=(hH p (kz hp).1).2 i hi
  refine ⟨X,hL i X h1 λe=>?_,h2⟩
  simp only [Bool.not_eq_true',List.any_eq_false] at hc
  exact hc p hp (by rw [e,hi];simp)
 have own:∀p∈kK ops j H,∀i,p.2.1=some i->p.2.2 w':=λp hp i hi=>by
  obtain ⟨X,h1,h2⟩:=TQ p hp i hi
  exact h2 w' (I.lc.own i X h1)
 unfold GJ at h
 cases ha:H.any (λp=>!(rZ ops p.1 j)&&p.2.1.isNone) with
 |true=>
  rw [ha,cond_true] at h
  obtain ⟨I',h'⟩:=I.xI h
  obtain ⟨q1,q2⟩:=pn h'
  refine ⟨_,q2,I',rfl,rfl,rfl,λp hp=>⟨?_,TQ p hp⟩⟩
  cases hf:p.2.1 with
  |none=>exact q1 _ (DR (kz hp).1 (kz hp).2 hf)
  |some i=>exact own p hp i hf
 |false=>
  rw [ha,cond_false] at h
  refine ⟨s1,h,I,rfl,rfl,rfl,λp hp=>⟨?_,TQ p hp⟩⟩
  cases hf:p.2.1 with
  |none=>
   exfalso
   rw [List.any_eq_false] at ha
   exact ha p (kz hp).1 (by rw [(kz hp).2,hf];rfl)
  |some i=>exact own p hp i hf
section
variable {ops:Array Oper} {n:Cx} {lv:List Nat}
theorem wW {o:Oper} {a:Act} {s:TS} {w:World} {H:HT} {K:TS->HT->Prop} {draw:Bool} {i:Nat} (A:(Value->World->Prop)->Prop) (h0:∀K,r7 P o a w K->A K) (h1:∀K,(bif draw then mi else wk) P o s.E w K->A K) (hm:∀K K',(∀v w',K v w'->K' v w')->A K->A K')
  (hs:∀cs b,o.op≠.select cs b) (ha:Ag n a s.E) (I:Inv s w) (hH:HI s H w) (hc:calm P o=false) (h:stepT P lv ops draw i o s H K):
  A λv w'=>∃s',K s' (kK ops i H)/\Inv s' w'/\HI s' (kK ops i H) w'/\s'.E=s.E.put o.dst v:=by
 unfold stepT at h
 rw [hc,cond_false] at h
 refine hm _ _ (λv w' he=>?_) (FP A h0 h1 hm hs ha I h)
 obtain ⟨q,m,s1,hk,I1,e1,e2,hL,hq⟩:=he
 obtain ⟨hb,hr⟩:=bX hk
 obtain ⟨s2,k2,I2,f1,f2,f3,H2⟩:=Cr hH I1 hL hb hr
 refine ⟨_,k2,I2.put o.dst λi j h=>?_,H2,by rw [f1,e1]⟩
 rw [f3]
 exact hq i j h
theorem zC {o:Oper} {a:Act} {s:TS} {w:World} {H:HT} {K:TS->HT->Prop} {draw:Bool} {i:Nat} (hs:∀cs b,o.op≠.select cs b) (ha:Ag n a s.E) (I:Inv s w) (hH:HI s H w) (hc:calm P o=true) (h:stepT P lv ops draw i o s H K):
  ∃v Ss s' H',K s' H'/\Inv s' w/\HI s' H' w/\s'.E=s.E.put o.dst v/\Calm P o a.eval w v Ss/\nk H'=(bif draw then Ss.map (λS=>(i,S))++nk H else nk H):=by
 unfold stepT at h
 rw [hc,cond_true] at h
 obtain ⟨v,q,Ss,s',hk,I',e1,e2,e3,tF,hl,hq⟩:=Dp hs ha I h
 refine ⟨v,Ss.map (·.2),_,_,hk,I'.put o.dst λi j h=>?_,λp hp=>?_,by rw [e1],tF,?_⟩
 .rw [e3];exact hq i j h
 .have Ac:p∈H->p.2.2 w/\∀i,p.2.1=some i->∃X,s'.L[i]? =some X/\∀w':World,w'.heap[X.1]? =some (.cells X.2.1.toArray X.2.2 (0,0))->p.2.2 w':=λhp=>by
   rw [e3];exact hH p hp
  cases draw with
  |false=>exact Ac hp
  |true=>
   rcases List.mem_append.1 hp with hp|hp
   .obtain ⟨S,hS,rfl⟩:=o8.1 hp
    refine ⟨tF.1 _ (o8.2 ⟨S,hS,rfl⟩),λi' vX=>?_⟩
    simp only
    rw [e3]
    exact hl S hS i' vX
   .exact Ac hp
 .cases draw with
  |false=>rfl
  |true=>simp [nk]
theorem wy {i d:Nat} {o:Oper} {want t:Bool} {s:TS} {H:HT} {K:TS->HT->Prop} {draw:Bool} (h:aH t (qs P lv ops draw i o d want true s H K) (qs P lv ops draw i o d want false s H K)):qs P lv ops draw i o d want t s H K:=by
 cases t
 .exact h
 .exact h
theorem Inv.same {s:TS} {w:World} (I:Inv s w) {d:Nat} {v:Value} (hd:s.E.get? d=some v):Inv ⟨(d,v)::s.E,s.S,s.L,s.w,s.d⟩ w:=by
 refine ⟨I.lc,I.rel,λt i j ht=>?_⟩
 obtain ⟨X,h1,h2⟩:=I.sl t i j ht
 refine ⟨X,h1,?_⟩
 simp only [Env.get?]
 by_cases e:d=t
 .subst e
  rw [hd] at h2
  cases h2
  simp
 .have hb:Nat.beq d t=false:=by rw [<-Bool.not_eq_true,Nat.beq_eq];exact e
  rw [hb,cond_false]
  exact h2
theorem Inv.skip {s:TS} {w:World} (I:Inv s w) (d:Option Nat):Inv ⟨s.E.put d undef,s.S.put d none,s.L,s.w,s.d⟩ w:=I.put d λi j h=>by cases h
theorem HI.skip {s s':TS} {w:World} {H:HT} (h:HI s H w) (e:s'.L=s.L):HI s' H w:=λp hp=>by rw [e];exact h p hp
theorem HI.drop {s:TS} {w:World} {H:HT} {j:Nat} (h:HI s H w):HI s (kK ops j H) w:=λp hp=>h p (kz hp).1
theorem HI.held {s:TS} {w:World} {H:HT} (h:HI s H w):∀p∈nk H,p.2 w:=λp hp=>by
 obtain ⟨q,hq,rfl⟩:=o8.1 hp
 exact (h q hq).1
theorem tq {K:TS->Prop} {Q:Exit->Act->World->Prop} (hn:gB n ops=true):∀(l:List Nat) (s:TS) (w:World) (a:Act),Ag n a s.E->Inv s w->runT P lv ops false K l s []->(∀s' w' a',Ag n a' s'.E->Inv s' w'->K s'->Q .normal a' w')->wpOpsIn (FW n) 0 P ops Q l a w
 |[],s,w,a,ha,I,h,hk=>hk s w a ha I h
 |i::l,s,w,a,ha,I,h,hk=>by
  have nM:=Region.noSelect_spec (ops:=ops) (by unfold gB at hn;rw [Bool.and_eq_true] at hn;exact hn.1)
  unfold runT at h
  cases ho:ops[i]? with
  |none=>rw [ho] at h;exact h.elim
  |some o=>
   rw [ho] at h
   simp only at h
   have step:∀(s:TS),Ag n a s.E->Inv s w->Region.wanted o (yielded ops a.tmps)=true->stepT P lv ops false i o s [] (λs' H'=>runT P lv ops false K l s' H')->wpOpsIn (FW n) 0 P ops Q (i::l) a w:=λs ha I hw h=>by
    rw [wpOpsIn_cons]
    cases hc:calm P o with
    |true=>
     obtain ⟨v,Ss,s',H',k1,I',_,e1,tF,Jv⟩:=zC (λcs b=>nM i o cs b ho) ha I (λp hp=>by cases hp) hc h
     have:H'=[]:=by cases H' with |nil=>rfl|cons x l=>cases Jv
     subst this
     refine rE (Kv:=λv' w'=>v'=v/\w'=w) ho hw ?_ ?_
     .refine r7.in (mT hn ho) λQ'=>?_
      unfold Oper.wp
      rw [tF.2 w tF.1]
      exact ⟨v,rfl,rfl,rfl⟩
     .rintro v' w' ⟨rfl,rfl⟩
      exact tq hn l s' _ _ (by rw [e1];exact ha.put _ (dO hn ho)) I' k1 hk
    |false=>
     refine rE ho hw (wW (draw:=false) (s:=s) (BE P n o a w) (λK hK=>hK.in (mT hn ho)) (λK hK=>uW (λcs b=>nM i o cs b ho) (mT hn ho) ha hK) (λK K' VL hA Q'=>Oper.wpIn_mono (λa' w' ⟨v,e,hv⟩=>⟨v,e,VL v w' hv⟩) (hA Q')) (λcs b=>nM i o cs b ho) ha I (λp hp=>by cases hp) hc h) λv w' ⟨s',k1,I',_,e1⟩=>?_
     exact tq hn l s' w' _ (by rw [e1];exact ha.put v (dO hn ho)) I' k1 hk
   have skip:∀(s:TS),Ag n a s.E->Inv s w->Region.wanted o (yielded ops a.tmps)=false->runT P lv ops false K l ⟨s.E.put o.dst undef,s.S.put o.dst none,s.L,s.w,s.d⟩ []->wpOpsIn (FW n) 0 P ops Q (i::l) a w:=λs ha I hw h=>by
    rw [wpOpsIn_cons]
    unfold wpOpIn
    simp only [ho,hw]
    exact ⟨λ_ _=>trivial,tq hn l _ w _ (ha.put undef (dO hn ho)) (I.skip o.dst) h hk⟩
   have UL:(bif calm P o then ([]:HT) else kK ops i [])=[]:=by cases calm P o<;>rfl
   cases hg:o.guard with
   |none=>
    rw [hg] at h
    exact step s ha I (by simp [Region.wanted,hg]) h
   |some jw=>
    obtain ⟨j,want⟩:=jw
    rw [hg] at h
    simp only at h
    cases hd:pK ops j with
    |none=>rw [hd] at h;exact h.elim
    |some d=>
     rw [hd] at h
     simp only at h
     split at h
     .rename_i t ht
      have hy:=mQ ha hd ht
      have lQ:=wy h
      unfold qs at lQ
      cases hb:(t==want) with
      |true=>
       rw [hb,cond_true] at lQ
       exact step _ (ha.same ht) (I.same ht) (by simp [Region.wanted,hg,hy];simpa using hb) lQ
      |false=>
       rw [hb,cond_false,UL] at lQ
       exact skip _ (ha.same ht) (I.same ht) (by simp [Region.wanted,hg,hy];simpa using hb) lQ
     .rename_i vs ht
      rw [UL] at h
      exact skip s ha I (by simp [Region.wanted,hg,jj ha hd ht]) h
     .exact h.elim
def qE (n:Cx) (K:TS->Prop):Exit->Act->World->Prop
 |.normal,a,w=>∃s,Ag n a s.E/\Inv s w/\K s
 |_,_,_=>False
theorem JH {o:Oper} {i:Nat} {H:HT}:(bif calm P o then nk H else eP ops i (nk H))=nk (bif calm P o then H else kK ops i H):=by
 cases calm P o
 .exact pw H
 .rfl
theorem HI.WT {o:Oper} {i:Nat} {s s':TS} {w:World} {H:HT} (h:HI s H w) (e:s'.L=s.L):HI s' (bif calm P o then H else kK ops i H) w:=by
 cases calm P o
 .exact h.drop.skip e
 .exact h.skip e
theorem Jz (hn:gB n ops=true) {K:TS->Prop} {i:Nat} {o:Oper} {s:TS} {w:World} {H:HT} {a:Act} {Kn:TS->HT->Prop} {listed:Array Bool} {fuel:Nat} (ho:ops[i]? =some o)
  (dP:(bif calm P o then Region.free .any ops listed i&&(Region.ready .any ops listed).contains i else Region.ready .any ops listed==[i])=true) (ha:Ag n a s.E) (I:Inv s w) (hH:HI s H w) (h:DP P lv ops i s H Kn)
  (next:∀a' s' w' H',Ag n a' s'.E->Inv s' w'->HI s' H' w'->Kn s' H'->dH P ops (qE n K) fuel (nk H') (listed.setIfInBounds i true) a' w'):dH P ops (qE n K) (fuel+1) (nk H) listed a w:=by
 have nM:=Region.noSelect_spec (ops:=ops) (by unfold gB at hn;rw [Bool.and_eq_true] at hn;exact hn.1)
 have hQ:∀c a w,qE n K (.panic c) a w=False:=λ_ _ _=>rfl
 have step:∀(s:TS),Ag n a s.E->Inv s w->HI s H w->Region.wanted o (yielded ops a.tmps)=true->stepT P lv ops true i o s H Kn->dH P ops (qE n K) (fuel+1) (nk H) listed a w:=λs ha I hH ou h=>by
  cases hc:calm P o with
  |true=>
   rw [hc,cond_true,Bool.and_eq_true] at dP
   obtain ⟨v,Ss,s',H',k1,I',So,e1,tF,Jv⟩:=zC (λcs b=>nM i o cs b ho) ha I hH hc h
   refine qB (v:=v) (Ss:=Ss) ho nM (by simp [hQ]) fuel (nk H) listed a w (Region.free_spec ho dP.1) (by simpa using dP.2) (.inl ⟨ou,λw' As=>tF.2 w' As⟩) tF.1 hH.held ?_
   rw [cond_true] at Jv
   rw [<-Jv]
   exact next _ s' w H' (by rw [e1];exact ha.put v (dO hn ho)) I' So k1
  |false=>
   rw [hc,cond_false] at dP
   have hr:Region.ready .any ops listed=[i]:=by simpa using dP
   refine λ_=>⟨λh0=>(by rw [hr] at h0;cases h0),λj hj=>?_⟩
   rw [hr] at hj
   obtain rfl:=List.mem_singleton.1 hj
   refine s9 ho ou (wW (draw:=true) (s:=s) (r7 P o a w) (λK hK=>hK) (λK hK=>im (λcs b=>nM j o cs b ho) ha hK) (λK K' VL hA Q'=>Oper.wp_mono (λa' w' ⟨v,e,hv⟩=>⟨v,e,VL v w' hv⟩) (hA Q')) (λcs b=>nM j o cs b ho) ha I hH hc h) λv w' ⟨s',k1,I',So,e1⟩=>?_
   rw [pw]
   exact ⟨So.held,next _ s' w' _ (by rw [e1];exact ha.put v (dO hn ho)) I' So k1⟩
 have skip:∀(s:TS),Ag n a s.E->Inv s w->HI s H w->Region.wanted o (yielded ops a.tmps)=false->Kn ⟨s.E.put o.dst undef,s.S.put o.dst none,s.L,s.w,s.d⟩ (bif calm P o then H else kK ops i H)->dH P ops (qE n K) (fuel+1) (nk H) listed a w:=λs ha I hH hw h=>by
  refine kr hn ho dP hQ hH.held hw ?_
  rw [JH]
  exact next _ _ w _ (ha.put undef (dO hn ho)) (I.skip o.dst) (hH.WT rfl) h
 unfold DP at h
 rw [ho] at h
 simp only at h
 cases hg:o.guard with
 |none=>
  rw [hg] at h
  exact step s ha I hH (by simp [Region.wanted,hg]) h
 |some jw=>
  obtain ⟨j,want⟩:=jw
  rw [hg] at h
  simp only at h
  cases hd:pK ops j with
  |none=>rw [hd] at h;exact h.elim
  |some d=>
   rw [hd] at h
   simp only at h
   split at h
   .rename_i t ht
    have hy:=mQ ha hd ht
    have lQ:=wy h
    unfold qs at lQ
    cases hb:(t==want) with
    |true=>
     rw [hb,cond_true] at lQ
     exact step _ (ha.same ht) (I.same ht) (hH.skip rfl) (by simp [Region.wanted,hg,hy];simpa using hb) lQ
    |false=>
     rw [hb,cond_false] at lQ
     exact skip _ (ha.same ht) (I.same ht) (hH.skip rfl) (by simp [Region.wanted,hg,hy];simpa using hb) lQ
   .rename_i vs ht
    exact skip s ha I hH (by simp [Region.wanted,hg,jj ha hd ht]) h
   .exact h.elim
theorem Me (hn:gB n ops=true) {K:TS->Prop} {i:Nat} {o:Oper} {s:TS} {w:World} {H:HT} {a:Act} {Kn:TS->HT->Prop} {listed:Array Bool} {fuel:Nat} (ho:ops[i]? =some o)
  (hc:calm P o=false) (ha:Ag n a s.E) (I:Inv s w) (hH:HI s H w) (h:DP P lv ops i s H Kn)
  (next:∀a' s' w' H',Ag n a' s'.E->Inv s' w'->HI s' H' w'->Kn s' H'->dH P ops (qE n K) fuel (nk H') (listed.setIfInBounds i true) a' w'):
  wpOp P ops (qE n K) i (λa' w'=>(∀p∈eP ops i (nk H),p.2 w')/\dH P ops (qE n K) fuel (eP ops i (nk H)) (listed.setIfInBounds i true) a' w') a w:=by
 have nM:=Region.noSelect_spec (ops:=ops) (by unfold gB at hn;rw [Bool.and_eq_true] at hn;exact hn.1)
 have step:∀(s:TS),Ag n a s.E->Inv s w->HI s H w->Region.wanted o (yielded ops a.tmps)=true->stepT P lv ops true i o s H Kn->wpOp P ops (qE n K) i (λa' w'=>(∀p∈eP ops i (nk H),p.2 w')/\dH P ops (qE n K) fuel (eP ops i (nk H)) (listed.setIfInBounds i true) a' w') a w:=λs ha I hH ou h=>by
  refine s9 ho ou (wW (draw:=true) (s:=s) (r7 P o a w) (λK hK=>hK) (λK hK=>im (λcs b=>nM i o cs b ho) ha hK) (λK K' VL hA Q'=>Oper.wp_mono (λa' w' ⟨v,e,hv⟩=>⟨v,e,VL v w' hv⟩) (hA Q')) (λcs b=>nM i o cs b ho) ha I hH hc h) λv w' ⟨s',k1,I',So,e1⟩=>?_
  rw [pw]
  exact ⟨So.held,next _ s' w' _ (by rw [e1];exact ha.put v (dO hn ho)) I' So k1⟩
 have skip:∀(s:TS),Ag n a s.E->Inv s w->HI s H w->Region.wanted o (yielded ops a.tmps)=false->Kn ⟨s.E.put o.dst undef,s.S.put o.dst none,s.L,s.w,s.d⟩ (bif calm P o then H else kK ops i H)->wpOp P ops (qE n K) i (λa' w'=>(∀p∈eP ops i (nk H),p.2 w')/\dH P ops (qE n K) fuel (eP ops i (nk H)) (listed.setIfInBounds i true) a' w') a w:=λs ha I hH hw h=>by
  refine CB ho hH.held hw ?_
  rw [hc,cond_false] at h
  rw [pw]
  exact next _ _ w _ (ha.put undef (dO hn ho)) (I.skip o.dst) (hH.drop.skip rfl) h
 unfold DP at h
 rw [ho] at h
 simp only at h
 cases hg:o.guard with
 |none=>
  rw [hg] at h
  exact step s ha I hH (by simp [Region.wanted,hg]) h
 |some jw=>
  obtain ⟨j,want⟩:=jw
  rw [hg] at h
  simp only at h
  cases hd:pK ops j with
  |none=>rw [hd] at h;exact h.elim
  |some d=>
   rw [hd] at h
   simp only at h
   split at h
   .rename_i t ht
    have hy:=mQ ha hd ht
    have lQ:=wy h
    unfold qs at lQ
    cases hb:(t==want) with
    |true=>
     rw [hb,cond_true] at lQ
     exact step _ (ha.same ht) (I.same ht) (hH.skip rfl) (by simp [Region.wanted,hg,hy];simpa using hb) lQ
    |false=>
     rw [hb,cond_false] at lQ
     exact skip _ (ha.same ht) (I.same ht) (hH.skip rfl) (by simp [Region.wanted,hg,hy];simpa using hb) lQ
   .rename_i vs ht
    exact skip s ha I hH (by simp [Region.wanted,hg,jj ha hd ht]) h
   .exact h.elim
theorem qT (hn:gB n ops=true) {K:TS->Prop}:∀(t:Tr) (alt:Bool) (listed:Array Bool) (s:TS) (w:World) (H:HT) (a:Act) (m:Nat),kf P ops t alt listed=true->Ag n a s.E->Inv s w->HI s H w->R6 P lv ops K t s H->
  (alt=false->t.len=m->dH P ops (qE n K) m (nk H) listed a w)/\
  (alt=true->t.len=m+1->∀i∈t.oR,wpOp P ops (qE n K) i (λa' w'=>(∀p∈eP ops i (nk H),p.2 w')/\dH P ops (qE n K) m (eP ops i (nk H)) (listed.setIfInBounds i true) a' w') a w)
 |.nil,alt,listed,s,w,H,a,m,dP,ha,I,hH,h=>by
  unfold kf at dP
  rw [Bool.and_eq_true] at dP
  refine ⟨λ_ hm=>?_,λe=>?_⟩
  .subst hm
   exact λ_=>⟨by simpa using dP.2,s,ha,I,h⟩
  .subst e;simp at dP
 |.one i t,alt,listed,s,w,H,a,m,dP,ha,I,hH,h=>by
  unfold kf at dP
  rw [Bool.and_eq_true] at dP
  obtain ⟨dP,vl⟩:=dP
  cases ho:ops[i]? with
  |none=>rw [ho] at dP;cases dP
  |some o=>
   rw [ho] at dP
   simp only at dP
   unfold R6 at h
   refine ⟨λe hm=>?_,λe hm j hj=>?_⟩
   .subst e hm
    exact Jz hn ho dP ha I hH h λa' s' w' H' hA hI OO hR=>(qT hn t false _ s' w' H' a' _ vl hA hI OO hR).1 rfl rfl
   .subst e
    rw [cond_true] at dP
    obtain rfl:=List.mem_singleton.1 hj
    have JD:t.len=m:=by simpa [Tr.len] using hm
    exact Me hn ho (by simpa using dP) ha I hH h λa' s' w' H' hA hI OO hR=>(qT hn t false _ s' w' H' a' _ vl hA hI OO hR).1 rfl JD
 |.fork x y,alt,listed,s,w,H,a,m,dP,ha,I,hH,h=>by
  unfold kf at dP
  simp only [Bool.and_eq_true] at dP
  obtain ⟨hr,hl,hx,hy⟩:=dP
  rw [Nat.beq_eq] at hl
  unfold R6 at h
  have both:∀k,x.len=k+1->∀i∈(Tr.fork x y).oR,wpOp P ops (qE n K) i (λa' w'=>(∀p∈eP ops i (nk H),p.2 w')/\dH P ops (qE n K) k (eP ops i (nk H)) (listed.setIfInBounds i true) a' w') a w:=λk hk i hi=>by
   rcases List.mem_append.1 hi with hi|hi
   .exact (qT hn x true listed s w H a k hx ha I hH h.1).2 rfl hk i hi
   .exact (qT hn y true listed s w H a k hy ha I hH h.2).2 rfl (hl▸hk) i hi
  refine ⟨λe hm=>?_,λ_ hm=>both m hm⟩
  subst e
  obtain ⟨k,hk⟩:=zN x listed hx
  have JD:m=k+1:=by rw [<-hm,<-hk];rfl
  subst JD
  have Wd:Region.ready .any ops listed=(Tr.fork x y).oR:=by simpa using hr
  have iq:(Tr.fork x y).oR≠[]:=by have:=ux x listed hx;simp [Tr.oR,this]
  exact λ_=>⟨λh0=>absurd (Wd▸h0) iq,λi hi=>both k hk i (Wd▸hi)⟩
theorem M0 {c:Code} {a:Act} {s:TS} {w:World} {K:TS->Prop} (hc:GK n c=true) (ha:Ag n a s.E) (I:Inv s w) (h:runT P lv (Code.ops c) false K (List.range (Code.ops c).size) s []):Ad P n c (qE n K) a w:=by
 unfold GK at hc
 split at hc
 .rename_i id ops d
  rw [Bool.and_eq_true] at hc
  obtain ⟨h1,h2⟩:=hc
  have h3:d=false:=by simpa using h1
  subst h3
  exact wpIn_region (tq h2 _ s w a ha I h λs' w' a' h1 h2 h3=>⟨s',h1,h2,h3⟩)
 .cases hc
theorem Inv.dr {s:TS} {w:World} {K:TS->Prop} (I:Inv s w) (h:Vx s K):∃s',K s'/\Inv s' w.drew/\s'.E=s.E:=by
 have lc:LC w.drew s.L:=I.lc.fr (M:=λ_=>False) (Fr.drew _ _) (λ_ _ h=>h)
 unfold Vx at h
 split at h
 .rename_i hL hd
  have hr:=I.rel
  rw [hd] at hr
  have:w=s.w:=by simpa using hr
  exact ⟨_,h,⟨lc,by simp [this],I.sl⟩,rfl⟩
 .exact ⟨_,h,⟨lc,by simpa using I.fr.zM (Fr.drew _ _),I.sl⟩,rfl⟩
theorem MZ {c:Code} {a:Act} {s:TS} {w:World} {K:TS->Prop} {t:Tr} (hc:Bq P n c t=true) (ha:Ag n a s.E) (I:Inv s w) (h:Vx s λs=>R6 P lv (Code.ops c) K t s []):Ad P n c (qE n K) a w:=by
 unfold Bq at hc
 split at hc
 .rename_i id ops d
  simp only [Bool.and_eq_true] at hc
  obtain ⟨rfl,hm,hn,hl,h5⟩:=hc
  rw [Nat.beq_eq] at h5
  obtain ⟨s',hk,I',e⟩:=I.dr h
  have h1:=(qT hn t false _ s' w.drew [] a _ hl (by rw [e];exact ha) I' (λp hp=>(by cases hp)) hk).1 rfl h5
  have h2:=nL _ [] _ _ _ (Down.zero _ _) h1
  refine wpIn_region_draw λt=>?_
  refine pU hn (λ⟨_,_,h⟩=>h) _ _ _ ?_
  simp only [Region.schedule,hm,Bool.true_or,if_true]
  exact wpAny_sound ops.size t _ a _ h2
 .cases hc
end
end
abbrev KT:=Exit->TS->Prop
structure NM where
 ord:Nat->Option Tr
 pt:List Bool->Option (TS->Prop)
 lv:List Nat
def RA (tb:NM) (q:List Bool) (f:TS->Prop) (s:TS):Prop:=match tb.pt q with
 |some F=>xI s F
 |none=>f s
def WO (tb:NM) (q:List Bool) (f:TS->Prop) (K:KT):KT:=λe s=>match e with
 |.normal=>RA tb q f s
 |e=>K e s
def Oe (id:Nat) (K:KT):KT:=λe s=>match e with
 |.exit XJ=>if XJ=id then K .normal s else K (.exit XJ) s
 |e=>K e s
def Dy (P:Program) (n:Cx) (tb:NM):Code->List Bool->KT->TS->Prop
 |.skip,_,K,s=>K .normal s
 |.region id ops true,_,K,s=>match tb.ord id with
  |some t=>hO (Bq P n (.region id ops true) t) (Vx s λs=>R6 P tb.lv ops (K .normal) t s [])
  |none=>False
 |.region id ops false,_,K,s=>hO (GK n (.region id ops false)) (runT P tb.lv ops false (K .normal) (List.range ops.size) s [])
 |.seq a b,q,K,s=>Dy P n tb a (false::q) (WO tb (true::q) (Dy P n tb b (true::q) K) K) s
 |.cond o a b,q,K,s=>pG (s.E.val o) (RA tb (false::q) (Dy P n tb a (false::q) K) s) (RA tb (true::q) (Dy P n tb b (true::q) K) s)
 |.block id a,q,K,s=>Dy P n tb a (false::q) (Oe id K) s
 |.loop _,q,_,s=>RA tb q (λ_=>False) s
 |.exit id,_,K,s=>K (.exit id) s
 |.ret,_,K,s=>K .ret s
 |_,_,_,_=>False
section
variable {P:Program} {n:Cx} {tb:NM}
def oO (P:Program) (n:Cx) (c0:Code) (Q0:Exit->Act->World->Prop):List Bool->Code×(Exit->Act->World->Prop)
 |[]=>(c0,Q0)
 |b::q=>match oO P n c0 Q0 q,b with
  |(.seq x y,Q),false=>(x,Exit.then (Ad P n y Q) Q)
  |(.seq _ y,Q),true=>(y,Q)
  |(.cond _ x _,Q),false=>(x,Q)
  |(.cond _ _ y,Q),true=>(y,Q)
  |(.block id x,Q),_=>(x,Exit.inBlock id Q)
  |(.loop x,Q),_=>(x,Exit.then (r8 P n x Q) Q)
  |(_,Q),_=>(.skip,Q)
def UA (P:Program) (n:Cx) (p:Code×(Exit->Act->World->Prop)) (a:Act) (w:World):Prop:=match p with
 |(.loop x,Q)=>r8 P n x Q a w
 |(c,Q)=>Ad P n c Q a w
theorem UA.wp {c:Code} {Q:Exit->Act->World->Prop} {a:Act} {w:World} (h:UA P n (c,Q) a w):Ad P n c Q a w:=by
 unfold UA at h
 split at h
 .rename_i x Q' e
  cases e
  exact vR h
 .rename_i c' Q' _ e
  cases e
  exact h
def KQ (n:Cx) (K:KT) (Q:Exit->Act->World->Prop):Prop:=∀e s w a,Ag n a s.E->Inv s w->K e s->Q e a w
def AG (P:Program) (n:Cx) (tb:NM) (c0:Code) (Q0:Exit->Act->World->Prop):Prop:=∀q F,tb.pt q=some F->∀s w a,Ag n a s.E->Inv s w->F s->UA P n (oO P n c0 Q0 q) a w
variable {c0:Code} {Q0:Exit->Act->World->Prop}
theorem qO (hT:AG P n tb c0 Q0) {q:List Bool} {c:Code} {Q:Exit->Act->World->Prop} (hp:oO P n c0 Q0 q=(c,Q)) {f:TS->Prop} {s:TS} {w:World} {a:Act} (ha:Ag n a s.E) (I:Inv s w) (hf:f s->Ad P n c Q a w) (h:RA tb q f s):Ad P n c Q a w:=by
 unfold RA at h
 split at h
 .rename_i F hF
  obtain ⟨I',h'⟩:=I.xI h
  have:=hT q F hF ⟨s.E,s.S,s.L,w,false⟩ w a ha I' h'
  rw [hp] at this
  exact this.wp
 .exact hf h
theorem vH {c:Code} {K:TS->Prop} {Q:Exit->Act->World->Prop} {a:Act} {w:World} (h:Ad P n c (qE n K) a w) (hk:∀s w a,Ag n a s.E->Inv s w->K s->Q .normal a w):Ad P n c Q a w:=
 wpIn_mono h λe a' w' he=>by
  cases e with
  |normal=>obtain ⟨s',hA,hI,hK⟩:=he;exact hk s' w' a' hA hI hK
  |_=>exact he.elim
theorem lG (hT:AG P n tb c0 Q0):∀(c:Code) (q:List Bool) (K:KT) (Q:Exit->Act->World->Prop) (s:TS) (w:World) (a:Act),oO P n c0 Q0 q=(c,Q)->KQ n K Q->Ag n a s.E->Inv s w->Dy P n tb c q K s->Ad P n c Q a w
 |.skip,q,K,Q,s,w,a,hp,hK,ha,I,h=>wpIn_skip (hK _ _ _ _ ha I h)
 |.region id ops true,q,K,Q,s,w,a,hp,hK,ha,I,h=>by
  unfold Dy at h
  split at h
  .obtain ⟨h1,h2⟩:=bX h
   exact vH (MZ (c:=.region id ops true) h1 ha I h2) λs w a h1 h2 h3=>hK _ _ _ _ h1 h2 h3
  .exact h.elim
 |.region id ops false,q,K,Q,s,w,a,hp,hK,ha,I,h=>by
  unfold Dy at h
  obtain ⟨h1,h2⟩:=bX h
  exact vH (M0 (c:=.region id ops false) h1 ha I h2) λs w a h1 h2 h3=>hK _ _ _ _ h1 h2 h3
 |.seq x y,q,K,Q,s,w,a,hp,hK,ha,I,h=>by
  unfold Dy at h
  have p1:oO P n c0 Q0 (false::q)=(x,Exit.then (Ad P n y Q) Q):=by unfold oO;rw [hp]
  have p2:oO P n c0 Q0 (true::q)=(y,Q):=by unfold oO;rw [hp]
  refine wpIn_seq (lG hT x (false::q) _ _ s w a p1 (λe s' w' a' xq I' hk=>?_) ha I h)
  cases e with
  |normal=>exact qO hT p2 xq I' (λh'=>lG hT y (true::q) K Q s' w' a' p2 hK xq I' h') hk
  |_=>exact hK _ _ _ _ xq I' hk
 |.cond o x y,q,K,Q,s,w,a,hp,hK,ha,I,h=>by
  unfold Dy at h
  have p1:oO P n c0 Q0 (false::q)=(x,Q):=by unfold oO;rw [hp]
  have p2:oO P n c0 Q0 (true::q)=(y,Q):=by unfold oO;rw [hp]
  unfold pG at h
  split at h
  .rename_i t ht
   refine wpIn_cond_split (ha.val ht) (λe=>?_) (λe=>?_)
   .subst e
    exact qO hT p1 ha I (λh'=>lG hT x (false::q) K Q s w a p1 hK ha I h') h
   .subst e
    exact qO hT p2 ha I (λh'=>lG hT y (true::q) K Q s w a p2 hK ha I h') h
  .exact h.elim
 |.block id x,q,K,Q,s,w,a,hp,hK,ha,I,h=>by
  unfold Dy at h
  have p1:oO P n c0 Q0 (false::q)=(x,Exit.inBlock id Q):=by unfold oO;rw [hp]
  refine wpIn_block (lG hT x (false::q) _ _ s w a p1 (λe s' w' a' xq I' hk=>?_) ha I h)
  cases e with
  |exit XJ=>
   simp only [Oe] at hk
   simp only [Exit.inBlock]
   split at hk
   .rename_i e;rw [if_pos e];exact hK _ _ _ _ xq I' hk
   .rename_i e;rw [if_neg e];exact hK _ _ _ _ xq I' hk
  |_=>exact hK _ _ _ _ xq I' hk
 |.loop x,q,K,Q,s,w,a,hp,hK,ha,I,h=>by
  unfold Dy at h
  exact qO hT hp ha I (λh'=>h'.elim) h
 |.exit id,q,K,Q,s,w,a,hp,hK,ha,I,h=>wpIn_exit (hK _ _ _ _ ha I h)
 |.ret,q,K,Q,s,w,a,hp,hK,ha,I,h=>wpIn_ret (hK _ _ _ _ ha I h)
 |.rangeFunc ..,_,_,_,_,_,_,_,_,_,_,h=>h.elim
 |.scope _,_,_,_,_,_,_,_,_,_,_,h=>h.elim
 |.label _,_,_,_,_,_,_,_,_,_,_,h=>h.elim
 |.goto _,_,_,_,_,_,_,_,_,_,_,h=>h.elim
 |.refuse _,_,_,_,_,_,_,_,_,_,_,h=>h.elim
def Ie (tb:NM) (q:List Bool) (K:KT):KT:=λe s=>match e with
 |.normal=>RA tb q (λ_=>False) s
 |e=>K e s
def O8 (P:Program) (n:Cx) (tb:NM) (c0:Code) (K0:KT):List Bool->Code×KT
 |[]=>(c0,K0)
 |b::q=>match O8 P n tb c0 K0 q,b with
  |(.seq x y,K),false=>(x,WO tb (true::q) (Dy P n tb y (true::q) K) K)
  |(.seq _ y,K),true=>(y,K)
  |(.cond _ x _,K),false=>(x,K)
  |(.cond _ _ y,K),true=>(y,K)
  |(.block id x,K),_=>(x,Oe id K)
  |(.loop x,K),_=>(x,Ie tb q K)
  |(_,K),_=>(.skip,K)
theorem wG (hT:AG P n tb c0 Q0) {K0:KT} (h0:KQ n K0 Q0):∀q:List Bool,(O8 P n tb c0 K0 q).1=(oO P n c0 Q0 q).1/\KQ n (O8 P n tb c0 K0 q).2 (oO P n c0 Q0 q).2
 |[]=>⟨rfl,h0⟩
 |b::q=>by
  obtain ⟨h1,h2⟩:=wG hT h0 q
  unfold O8 oO
  generalize hp:oO P n c0 Q0 q=p at h1 h2
  generalize O8 P n tb c0 K0 q=k at h1 h2
  obtain ⟨c,Q⟩:=p
  obtain ⟨c',K⟩:=k
  simp only at h1 h2
  subst h1
  cases c' with
  |seq x y=>
   cases b with
   |false=>
    refine ⟨rfl,λe s w a ha I hk=>?_⟩
    cases e with
    |normal=>
     have p2:oO P n c0 Q0 (true::q)=(y,Q):=by unfold oO;rw [hp]
     exact qO hT p2 ha I (λh'=>lG hT y (true::q) K Q s w a p2 h2 ha I h') hk
    |_=>exact h2 _ _ _ _ ha I hk
   |true=>exact ⟨rfl,h2⟩
  |cond o x y=>cases b<;>exact ⟨rfl,h2⟩
  |block id x=>
   cases b<;>(
    refine ⟨rfl,λe s w a ha I hk=>?_⟩
    cases e with
    |exit XJ=>
     simp only [Oe] at hk
     simp only [Exit.inBlock]
     split at hk
     .rename_i e;rw [if_pos e];exact h2 _ _ _ _ ha I hk
     .rename_i e;rw [if_neg e];exact h2 _ _ _ _ ha I hk
    |_=>exact h2 _ _ _ _ ha I hk)
  |loop x=>
   cases b<;>(
    refine ⟨rfl,λe s w a ha I hk=>?_⟩
    cases e with
    |normal=>
     simp only [Ie,RA] at hk
     split at hk
     .rename_i F hF
      obtain ⟨I',h'⟩:=I.xI hk
      have:=hT q F hF ⟨s.E,s.S,s.L,w,false⟩ w a ha I' h'
      rw [hp] at this
      exact this
     .exact hk.elim
    |_=>exact h2 _ _ _ _ ha I hk)
  |_=>cases b<;>exact ⟨rfl,h2⟩
def FO (P:Program) (n:Cx) (tb:NM) (c0:Code) (K0:KT) (q:List Bool) (s:TS):Prop:=match O8 P n tb c0 K0 q with
 |(.loop x,K)=>Dy P n tb x (false::q) (Ie tb q K) s
 |(c,K)=>Dy P n tb c q K s
theorem BY (hT:AG P n tb c0 Q0) {K0:KT} (h0:KQ n K0 Q0) {q:List Bool} {s:TS} {w:World} {a:Act} (ha:Ag n a s.E) (I:Inv s w) (h:FO P n tb c0 K0 q s):UA P n (oO P n c0 Q0 q) a w:=by
 obtain ⟨h1,h2⟩:=wG hT h0 q
 have h3:=wG hT h0 (false::q)
 unfold FO at h
 generalize hp:oO P n c0 Q0 q=p at h1 h2
 generalize hk:O8 P n tb c0 K0 q=k at h h1 h2
 obtain ⟨c,Q⟩:=p
 obtain ⟨c',K⟩:=k
 simp only at h1 h2
 subst h1
 cases c' with
 |loop x=>
  have p1:oO P n c0 Q0 (false::q)=(x,Exit.then (r8 P n x Q) Q):=by unfold oO;rw [hp]
  have k1:O8 P n tb c0 K0 (false::q)=(x,Ie tb q K):=by unfold O8;rw [hk]
  rw [p1,k1] at h3
  exact xu (lG hT x (false::q) _ _ s w a p1 h3.2 ha I h)
 |_=>exact lG hT _ q K Q s w a hp h2 ha I h
end
section
variable {P:Program}
def Ct (P:Program) (s:TS):List ResultVar->(List Value->Prop)->Prop
 |[],K=>K []
 |.tmp t::l,K=>match s.E.get? t with
  |some v=>Ct P s l λvs=>K (v::vs)
  |none=>False
 |.cell x T::l,K=>match s.S.get? x with
  |some (i,j)=>match s.L[i]? with
   |some X=>ZY P T X.2.1 j λv=>Ct P s l λvs=>K (v::vs)
   |none=>False
  |none=>match s.E.get? x with
   |some (.pointer (some p))=>At P T p s.w λv _=>Ct P s l λvs=>K (v::vs)
   |_=>False
def M1 (P:Program) (fn:Func) (R:aD):KT:=λe s=>match e with
 |.normal|.ret=>xI s λs=>Ct P s fn.results.toList λvs=>R (.returned (MQ vs)) s.w
 |_=>False
theorem uo {n:Cx} {a:Act} {s:TS} {w:World} (ha:Ag n a s.E) (I:Inv s w) (hw:s.w=w):∀{l:List ResultVar} {K:List Value->Prop},Ct P s l K->
  ∃vs,(l.mapM (xE a.tmps)).run P w=.ok vs w/\K vs
 |[],K,h=>⟨[],by simp,h⟩
 |.tmp t::l,K,h=>by
  unfold Ct at h
  split at h
  .rename_i v hv
   obtain ⟨vs,hr,hk⟩:=uo ha I hw h
   refine ⟨v::vs,?_,hk⟩
   have hg:=ha.get t v hv
   simp [List.mapM_cons,xE,hr,hg]
  .exact h.elim
 |.cell x T::l,K,h=>by
  have fin:∀(p:Addr) (v:Value),s.E.get? x=some (.pointer (some p))->(loadVar T p).run P w=.ok v w->(Ct P s l λvs=>K (v::vs))->∃vs,((ResultVar.cell x T::l).mapM (xE a.tmps)).run P w=.ok vs w/\K vs:=λp v hp hv h=>by
   obtain ⟨vs,hr,hk⟩:=uo ha I hw h
   refine ⟨v::vs,?_,hk⟩
   have hg:=ha.get x _ hp
   simp [List.mapM_cons,xE,hr,hg,asAddr,hv]
  unfold Ct at h
  split at h
  .rename_i i j hx
   obtain ⟨X,h1,h2⟩:=I.sl x i j hx
   rw [h1] at h
   obtain ⟨v,hk,hv⟩:=Bi (b:=X.1) (ty:=X.2.2) h
   exact fin _ v h2 (hv w (I.lc.own i X h1)) hk
  .split at h
   .rename_i p hp
    rw [hw] at h
    obtain ⟨v,S,h,vm,Kx⟩:=ue h
    exact fin p v hp (Kx w vm) h
   .exact h.elim
theorem zn {m:Nat} {fn:Func} {R:aD}:KQ (cx m) (M1 P fn R) (bodyPost P fn R):=by
 intro e s w a ha I h
 have go:(xI s λs=>Ct P s fn.results.toList λvs=>R (.returned (MQ vs)) s.w)->a.defers=[]/\∃v,(results fn a.tmps).run P w=.ok v w/\R (.returned v) w:=λh=>by
  obtain ⟨I',h'⟩:=I.xI h
  obtain ⟨vs,hr,hk⟩:=uo (s:=⟨s.E,s.S,s.L,w,false⟩) ha I' rfl h'
  refine ⟨ha.defers,_,?_,hk⟩
  rw [zl,<-Array.toArray_toList (xs:=fn.results),List.mapM_toArray]
  simp only [Sem.run_bind,Sem.run_map,hr,Result.andThen_ok,Sem.run_pure]
  congr 1
  cases vs with
  |nil=>rfl
  |cons v vs=>cases vs<;>rfl
 unfold M1 at h
 cases e with
 |normal=>exact go h
 |ret=>exact go h
 |_=>exact h.elim
theorem BW {f:FuncId} {fn:Func} {c:Code} {args:List Value} {w:World} {R:aD} {tb:NM} (hf:P.funcs[f]? =some fn) (hb:fn.body=some c) (me:Nat.ble args.length fn.ntmps=true)
  (hT:AG P (cx fn.ntmps) tb c (bodyPost P fn R)) (h:Dy P (cx fn.ntmps) tb c [] (M1 P fn R) ⟨rI 0 args,[],[],w,false⟩):Calls P f args.toArray w R:=
 oU hf hb me λa ha=>lG hT c [] _ _ _ w a rfl zn ha ⟨LC.nil _,by simp,λt i j h=>by cases h⟩ h
end
inductive Sh
 |i (k:IntKind)|b|st|s|p|r|m|v|f
def Sh.T:Sh->Type
 |.i _=>Int
 |.b=>Bool
 |.st=>ByteArray
 |.s=>Sl
 |.p=>Option Addr
 |.r=>Addr
 |.m=>Option Nat
 |.v=>Value
 |.f=>Fv
def Sh.val:(h:Sh)->h.T->Value
 |.i k,x=>.int k x
 |.b,x=>.bool x
 |.st,x=>.string x
 |.s,x=>Sl.v x
 |.p,x=>.pointer x
 |.r,x=>.pointer (some x)
 |.m,x=>.map x
 |.v,x=>x
 |.f,x=>Fv.v x
def Sh.rd (h:Sh) (v:Value) (K:h.T->Prop):Prop:=match h,v,K with
 |.i k,.int k' x,K=>hO (k'==k) (K x)
 |.b,.bool x,K=>K x
 |.st,.string x,K=>K x
 |.s,.slice a n c,K=>K ⟨a,n,c⟩
 |.p,.pointer x,K=>K x
 |.r,.pointer (some x),K=>K x
 |.m,.map x,K=>K x
 |.v,x,K=>K x
 |.f,.func (.func n) bs cs,K=>K ⟨n,bs,cs⟩
 |_,_,_=>False
theorem Sh.PB {h:Sh} {v:Value} {K:h.T->Prop} (hr:h.rd v K):∃x,v=h.val x/\K x:=by
 unfold Sh.rd at hr
 split at hr<;>first |exact hr.elim|skip
 .obtain ⟨h1,h2⟩:=bX hr
  have:=eq_of_beq h1
  subst this
  exact ⟨_,rfl,h2⟩
 all_goals exact ⟨_,rfl,hr⟩
inductive Tk
 |o (h:Sh)|a (k:Nat)|t (k:Nat)|g (n j k:Nat)
abbrev Tk.I:Tk:=.o (.i .i64)
abbrev Tk.U:Tk:=.o (.i .u64)
abbrev Tk.Y:Tk:=.o (.i .u8)
abbrev Tk.i (k:IntKind):Tk:=.o (.i k)
abbrev Tk.b:Tk:=.o .b
abbrev Tk.st:Tk:=.o .st
abbrev Tk.s:Tk:=.o .s
abbrev Tk.p:Tk:=.o .p
abbrev Tk.r:Tk:=.o .r
abbrev Tk.m:Tk:=.o .m
abbrev Tk.v:Tk:=.o .v
abbrev Tk.f:Tk:=.o .f
def Ae:List Tk->Type->Type
 |[],X=>X
 |.o h::l,X=>h.T->Ae l X
 |.a _::l,X=>Ae l X
 |.t _::l,X=>Ae l X
 |.g _ _ _::l,X=>Ae l X
inductive Sp
 |v (l:List Tk)
 |l (l:List Tk) (T:TypeId)
def Fo:List (Nat×Sp)->Type
 |[]=>World->aD->Prop
 |(_,.v ts)::l=>Ae ts (Fo l)
 |(_,.l ts _)::l=>Nat->Ae ts (Fo l)
def NW:(ts:List Tk)->(X:Type)->List Value->Ae ts X->(X->Prop)->Prop
 |[],_,[],F,K=>K F
 |.o h::ts,X,v::vs,F,K=>h.rd v λx=>NW ts X vs (F x) K
 |.a k::ts,X,.agg a::vs,F,K=>hO (Nat.beq a.toList.length k) (NW ts X (a.toList++vs) F K)
 |.t k::ts,X,.tuple a::vs,F,K=>hO (Nat.beq a.toList.length k) (NW ts X (a.toList++vs) F K)
 |.g n j k::ts,X,.func (.func m) bs cs::vs,F,K=>hO (Nat.beq n m&&Nat.beq bs.toList.length j&&Nat.beq cs.toList.length k) (NW ts X (bs.toList++(cs.toList++vs)) F K)
 |_,_,_,_,_=>False
def Pk:(ts:List Tk)->(X:Type)->(List Value->X)->Ae ts X
 |[],_,K=>K []
 |.o h::ts,X,K=>λx=>Pk ts X λvs=>K (h.val x::vs)
 |.a k::ts,X,K=>Pk ts X λvs=>K (.agg (vs.take k).toArray::vs.drop k)
 |.t k::ts,X,K=>Pk ts X λvs=>K (.tuple (vs.take k).toArray::vs.drop k)
 |.g n j k::ts,X,K=>Pk ts X λvs=>K (.func (.func n) (vs.take j).toArray ((vs.drop j).take k).toArray::(vs.drop j).drop k)
theorem Iv:∀{ts:List Tk} {X:Type} {vs:List Value} {K:List Value->X} {K2:X->Prop},NW ts X vs (Pk ts X K) K2->K2 (K vs):=by
 intro ts
 induction ts with
 |nil=>
  intro X vs K K2 hr
  cases vs with
  |nil=>exact hr
  |cons _ _=>exact hr.elim
 |cons t ts ih=>
  intro X vs K K2 hr
  cases t with
  |o h=>
   cases vs with
   |nil=>exact hr.elim
   |cons v vs=>
    obtain ⟨x,rfl,h'⟩:=Sh.PB hr
    exact ih (K:=λvs=>K (h.val x::vs)) h'
  |a k=>
   cases vs with
   |nil=>exact hr.elim
   |cons v vs=>
    cases v with
    |agg a=>
     obtain ⟨h1,h2⟩:=bX (show hO (Nat.beq a.toList.length k) (NW ts X (a.toList++vs) _ K2) from hr)
     rw [Nat.beq_eq] at h1
     have:=ih (K:=λvs=>K (.agg (vs.take k).toArray::vs.drop k)) h2
     rw [List.take_left' h1,List.drop_left' h1] at this
     exact this
    |_=>exact hr.elim
  |t k=>
   cases vs with
   |nil=>exact hr.elim
   |cons v vs=>
    cases v with
    |tuple a=>
     obtain ⟨h1,h2⟩:=bX (show hO (Nat.beq a.toList.length k) (NW ts X (a.toList++vs) _ K2) from hr)
     rw [Nat.beq_eq] at h1
     have:=ih (K:=λvs=>K (.tuple (vs.take k).toArray::vs.drop k)) h2
     rw [List.take_left' h1,List.drop_left' h1] at this
     exact this
    |_=>exact hr.elim
  |g n j k=>
   cases vs with
   |nil=>exact hr.elim
   |cons v vs=>
    cases v with
    |func fr bs cs=>
     cases fr with
     |func m=>
      obtain ⟨h1,h2⟩:=bX (show hO (Nat.beq n m&&Nat.beq bs.toList.length j&&Nat.beq cs.toList.length k) (NW ts X (bs.toList++(cs.toList++vs)) _ K2) from hr)
      rw [Bool.and_eq_true,Bool.and_eq_true,Nat.beq_eq,Nat.beq_eq,Nat.beq_eq] at h1
      obtain ⟨⟨h3,h4⟩,h5⟩:=h1
      have:=ih (K:=λvs=>K (.func (.func n) (vs.take j).toArray ((vs.drop j).take k).toArray::(vs.drop j).drop k)) h2
      rw [List.take_left' h4,List.drop_left' h4,List.take_left' h5,List.drop_left' h5,h3] at this
      exact this
     |_=>exact hr.elim
    |_=>exact hr.elim
def cG:(l:List (Nat×Sp))->Nat->(Env->Sv->Lv->World->aD->Prop)->Fo l
 |[],_,K=>K [] [] []
 |(t,.v ts)::l,n,K=>Pk ts (Fo l) λvs=>cG l n λE S L=>K ((t,vs.headD undef)::E) S L
 |(t,.l ts T)::l,n,K=>λb=>Pk ts (Fo l) λvs=>cG l (n+1) λE S L=>K ((t,.pointer (some (bD b)))::E) ((t,some (n,0))::S) ((b,vs,T)::L)
def xD:(l:List (Nat×Sp))->Fo l->TS->List Nat->World->aD->Prop
 |[],F,_,_,w,R=>F w R
 |(t,.v ts)::l,F,s,is,w,R=>match s.E.get? t with
  |some v=>NW ts (Fo l) [v] F λG=>xD l G s is w R
  |none=>False
 |(t,.l ts T)::l,F,s,is,w,R=>match s.S.get? t with
  |some (i,0)=>match s.L[i]? with
   |some X=>hO (Nat.beq X.2.2 T&&!is.any (Nat.beq i)) (NW ts (Fo l) X.2.1 (F X.1) λG=>xD l G s (i::is) w R)
   |none=>False
  |_=>False
theorem DF {E E':Env} {t:Nat} {v:Value} (ht:E'.get? t=some v) (h:∀t v,E.get? t=some v->E'.get? t=some v):∀t' v',Env.get? ((t,v)::E) t'=some v'->E'.get? t'=some v':=λt' v' hv=>by
 simp only [Env.get?] at hv
 cases hb:Nat.beq t t' with
 |true=>
  rw [hb,cond_true] at hv
  rw [Nat.beq_eq] at hb
  subst hb
  cases hv
  exact ht
 |false=>
  rw [hb,cond_false] at hv
  exact h t' v' hv
structure Yh (s:TS) (n:Nat) (is js:List Nat) (E:Env) (S:Sv):Prop where
 sub:∀t v,E.get? t=some v->s.E.get? t=some v
 nd:js.Nodup
 dj:∀j∈js,j∉is
 lt:∀j∈js,∃X,s.L[j]? =some X
 sl:∀t i k,S.get? t=some (i,k)->n<=i/\∃j,js[i - n]? =some j/\s.S.get? t=some (j,k)/\∃v,E.get? t=some v
theorem MX {s:TS} {w:World} (I:Inv s w) {R:aD}:∀{l:List (Nat×Sp)} {n:Nat} {K:Env->Sv->Lv->World->aD->Prop} {is:List Nat},xD l (cG l n K) s is w R->
  ∃E S js,Yh s n is js E S/\K E S (js.filterMap λj=>(s.L[j]? :Option (Nat×List Value×TypeId))) w R:=by
 intro l
 induction l with
 |nil=>
  intro n K is h
  exact ⟨[],[],[],⟨λt v h=>by (simp [Env.get?] at h),.nil,λ_ h=>by (cases h),λ_ h=>by (cases h),λt i k h=>by (cases h)⟩,h⟩
 |cons p l ih=>
  intro n K is h
  obtain ⟨t,sp⟩:=p
  cases sp with
  |v ts=>
   unfold xD at h
   split at h
   .rename_i v hv
    have h':=Iv (K:=λvs=>cG l n λE S L=>K ((t,vs.headD undef)::E) S L) h
    obtain ⟨E,S,js,hr,hk⟩:=ih h'
    refine ⟨(t,v)::E,S,js,⟨DF hv hr.sub,hr.nd,hr.dj,hr.lt,λt' i k hs=>?_⟩,hk⟩
    obtain ⟨h1,j,h2,h3,v',h4⟩:=hr.sl t' i k hs
    refine ⟨h1,j,h2,h3,?_⟩
    simp only [Env.get?]
    cases Nat.beq t t' with
    |true=>exact ⟨_,rfl⟩
    |false=>exact ⟨_,h4⟩
   .exact h.elim
  |l ts T=>
   unfold xD at h
   split at h
   .rename_i i hi
    split at h
    .rename_i X hX
     obtain ⟨h1,h2⟩:=bX h
     rw [Bool.and_eq_true,Nat.beq_eq,Bool.not_eq_true',List.any_eq_false] at h1
     have h':=Iv (K:=λvs=>cG l (n+1) λE S L=>K ((t,.pointer (some (bD X.1)))::E) ((t,some (n,0))::S) ((X.1,vs,T)::L)) h2
     obtain ⟨E,S,js,hr,hk⟩:=ih h'
     obtain ⟨X',QU,hp⟩:=I.sl t i 0 hi
     rw [hX] at QU
     cases QU
     refine ⟨(t,.pointer (some (bD X.1)))::E,(t,some (n,0))::S,i::js,⟨DF ?_ hr.sub,List.nodup_cons.2 ⟨λhm=>hr.dj i hm (by simp),hr.nd⟩,λj hj=>?_,λj hj=>?_,λt' i' k hs=>?_⟩,?_⟩
     .rw [hp,tR]
     .rcases cU.1 hj with rfl|hj
      .intro hm
       have:=h1.2 j hm
       simp at this
      .exact λhm=>hr.dj j hj (qmCM _ hm)
     .rcases cU.1 hj with rfl|hj
      .exact ⟨X,hX⟩
      .exact hr.lt j hj
     .simp only [Sv.get?] at hs
      cases hb:Nat.beq t t' with
      |true=>
       rw [hb,cond_true] at hs
       rw [Nat.beq_eq] at hb
       subst hb
       cases hs
       refine ⟨Nat.le_refl _,i,by simp,hi,.pointer (some (bD X.1)),?_⟩
       simp [Env.get?]
      |false=>
       rw [hb,cond_false] at hs
       obtain ⟨g1,j,g2,g3,v',g4⟩:=hr.sl t' i' k hs
       refine ⟨by omega,j,?_,g3,v',?_⟩
       .have:i' - n=(i' - (n+1))+1:=by omega
        rw [this,List.getElem?_cons_succ]
        exact g2
       .simp only [Env.get?,hb,cond_false]
        exact g4
     .have e:(X.1,X.2.1,T)=X:=by rw [<-h1.1]
      rw [List.filterMap_cons_some hX]
      simp only [e] at hk
      exact hk
    .exact h.elim
   .exact h.elim
theorem Yh.inv {s:TS} {w:World} (I:Inv s w) {js:List Nat} {E:Env} {S:Sv} (h:Yh s 0 [] js E S):Inv ⟨E,S,js.filterMap λj=>(s.L[j]? :Option (Nat×List Value×TypeId)),w,false⟩ w:=by
 refine ⟨I.lc.pick js h.nd,by simp,λt i k hs=>?_⟩
 obtain ⟨-,j,h2,h3,v,h4⟩:=h.sl t i k hs
 obtain ⟨X,hX,hp⟩:=I.sl t j k h3
 have:=h.sub t v h4
 rw [hp] at this
 cases this
 refine ⟨X,?_,h4⟩
 have all:∀(js:List Nat) (i:Nat),(∀j∈js,∃X,s.L[j]? =some X)->js[i]? =some j->(js.filterMap λj=>(s.L[j]? :Option (Nat×List Value×TypeId)))[i]? =some X:=by
  intro js
  induction js with
  |nil=>intro i _ hi;simp at hi
  |cons a js ih=>
   intro i hl hi
   obtain ⟨Y,hY⟩:=hl a (by simp)
   rw [List.filterMap_cons_some hY]
   cases i with
   |zero=>simp at hi;subst hi;rw [hX] at hY;cases hY;rfl
   |succ i=>simpa using ih i (λj hj=>hl j (qmCM _ hj)) (by simpa using hi)
 exact all js i h.lt (by simpa using h2)
def Fq:(ts:List Tk)->(X:Type)->(X->X->Prop)->Ae ts X->Ae ts X->Prop
 |[],_,r,F,G=>r F G
 |.o h::ts,X,r,F,G=>∀x:h.T,Fq ts X r (F x) (G x)
 |.a _::ts,X,r,F,G=>Fq ts X r F G
 |.t _::ts,X,r,F,G=>Fq ts X r F G
 |.g _ _ _::ts,X,r,F,G=>Fq ts X r F G
def Xk:(l:List (Nat×Sp))->Fo l->Fo l->Prop
 |[],F,G=>∀(w:World) (R:aD),F w R->G w R
 |(_,.v ts)::l,F,G=>Fq ts (Fo l) (Xk l) F G
 |(_,.l ts _)::l,F,G=>∀b:Nat,Fq ts (Fo l) (Xk l) (F b) (G b)
theorem HY:∀{ts:List Tk} {X:Type} {r:X->X->Prop} {K1 K2:List Value->X},(∀vs,r (K1 vs) (K2 vs))->Fq ts X r (Pk ts X K1) (Pk ts X K2):=by
 intro ts
 induction ts with
 |nil=>intro X r K1 K2 h;exact h []
 |cons t ts ih=>
  intro X r K1 K2 h
  cases t with
  |o hh=>intro x;exact ih λvs=>h _
  |a k=>exact ih λvs=>h _
  |t k=>exact ih λvs=>h _
  |g n j k=>exact ih λvs=>h _
theorem TM:∀{l:List (Nat×Sp)} {n:Nat} {K1 K2:Env->Sv->Lv->World->aD->Prop},(∀E S L w R,K1 E S L w R->K2 E S L w R)->Xk l (cG l n K1) (cG l n K2):=by
 intro l
 induction l with
 |nil=>intro n K1 K2 h w R;exact h _ _ _ w R
 |cons p l ih=>
  intro n K1 K2 h
  obtain ⟨t,sp⟩:=p
  cases sp with
  |v ts=>exact HY λvs=>ih λE S L w R=>h _ _ _ w R
  |l ts T=>intro b;exact HY λvs=>ih λE S L w R=>h _ _ _ w R
structure Fx where
 P:Program
 fn:Func
 ord:List (Nat×Tr)
 lv:List Nat
def Fx.c (X:Fx):Code:=X.fn.body.getD .skip
def Fx.n (X:Fx):Cx:=cx X.fn.ntmps
def lkO:List (Nat×Tr)->Nat->Option Tr
 |[],_=>none
 |(i,l)::o,j=>bif Nat.beq i j then some l else lkO o j
def Fx.at (X:Fx) (q:List Bool) (R:aD) (a:Act) (w:World):Prop:=UA X.P X.n (oO X.P X.n X.c (bodyPost X.P X.fn R) q) a w
def Fx.Sem (X:Fx) (q:List Bool) (E:Env) (S:Sv) (L:Lv) (w:World) (R:aD):Prop:=∀a,Ag X.n a E->Inv ⟨E,S,L,w,false⟩ w->X.at q R a w
structure NK (X:Fx) where
 q:List Bool
 sp:List (Nat×Sp)
 F:Fo sp
 ok:∀(R:aD) (s:TS) (w:World) (a:Act),Ag X.n a s.E->Inv s w->xD sp F s [] w R->X.at q R a w
def K4:List Bool->List Bool->Bool
 |[],[]=>true
 |a::l,b::m=>(match a,b with |true,true=>true|false,false=>true|_,_=>false)&&K4 l m
 |_,_=>false
theorem Hn:∀{l m:List Bool},K4 l m=true->l=m
 |[],[],_=>rfl
 |a::l,b::m,h=>by
  unfold K4 at h
  rw [Bool.and_eq_true] at h
  rw [Hn h.2]
  cases a<;>cases b<;>simp_all
 |[],_::_,h=>by cases h
 |_::_,[],h=>by cases h
def XN {X:Fx} (R:aD):List (NK X)->List Bool->Option (TS->Prop)
 |[],_=>none
 |e::es,q=>bif K4 e.q q then some λs=>match s.d with
  |true=>False
  |false=>xD e.sp e.F s [] s.w R else XN R es q
def Fx.R0 (X:Fx) (es:List (NK X)) (R:aD):NM:=⟨lkO X.ord,XN R es,X.lv⟩
theorem Fx.R1 {X:Fx} {es:List (NK X)} {R:aD}:AG X.P X.n (X.R0 es R) X.c (bodyPost X.P X.fn R):=by
 intro q F hF s w a ha I h
 have DH:XN R es q=some F:=hF
 clear hF
 induction es with
 |nil=>cases DH
 |cons e es ih=>
  unfold XN at DH
  cases hb:K4 e.q q with
  |true=>
   rw [hb,cond_true] at DH
   cases DH
   have:=Hn hb
   subst this
   cases hd:s.d with
   |true=>rw [hd] at h;exact h.elim
   |false=>
    rw [hd] at h
    have hr:=I.rel
    rw [hd] at hr
    have hw:w=s.w:=by simpa using hr
    rw [<-hw] at h
    exact e.ok R s w a ha I h
  |false=>
   rw [hb,cond_false] at DH
   exact ih DH
def Fx.X7 (X:Fx) (es:List (NK X)) (q:List Bool) (E:Env) (S:Sv) (L:Lv) (w:World) (R:aD):Prop:=FO X.P X.n (X.R0 es R) X.c (M1 X.P X.fn R) q ⟨E,S,L,w,false⟩
theorem Fx.HC {X:Fx} {es:List (NK X)} {q:List Bool} {E:Env} {S:Sv} {L:Lv} {w:World} {R:aD} (h:X.X7 es q E S L w R):X.Sem q E S L w R:=λa ha I=>BY (s:=⟨E,S,L,w,false⟩) (Fx.R1 (es:=es)) zn ha I h
theorem LL {X:Fx} {q:List Bool} {sp:List (Nat×Sp)} {K:Env->Sv->Lv->World->aD->Prop} (hk:∀E S L w R,K E S L w R->X.Sem q E S L w R) (R:aD) (s:TS) (w:World) (a:Act) (ha:Ag X.n a s.E) (I:Inv s w) (h:xD sp (cG sp 0 K) s [] w R):X.at q R a w:=by
 obtain ⟨E,S,js,hr,hK⟩:=MX I h
 exact hk _ _ _ _ _ hK a ⟨ha.defers,ha.size,λt v hv=>ha.get t v (hr.sub t v hv)⟩ (hr.inv I)
def fZ (X:Fx) (q:List Bool) (sp:List (Nat×Sp)) (F:Fo sp) (e:F=cG sp 0 (X.Sem q):=by kernel_rfl):NK X:=⟨q,sp,F,λR s w a ha I h=>by
 subst e;exact LL (λ_ _ _ _ _ h=>h) R s w a ha I h⟩
def bK (X:Fx) (es:List (NK X)) (q:List Bool) (sp:List (Nat×Sp)) (F:Fo sp) (e:F=cG sp 0 (X.X7 es q):=by kernel_rfl):NK X:=⟨q,sp,F,λR s w a ha I h=>by
 subst e;exact LL (λ_ _ _ _ _ h=>Fx.HC h) R s w a ha I h⟩
theorem dA {X:Fx} (es:List (NK X)) (q:List Bool) (sp:List (Nat×Sp)):Xk sp (cG sp 0 (X.X7 es q)) (cG sp 0 (X.Sem q)):=TM λ_ _ _ _ _ h=>Fx.HC h
theorem aP (X:Fx) (es:List (NK X)) {f:FuncId} {args:List Value} {w:World} {R:aD} {T:Prop} (h:T) (hf:X.P.funcs[f]? =some X.fn:=by kernel_rfl) (hb:X.fn.body=some X.c:=by kernel_rfl) (me:Nat.ble args.length X.fn.ntmps=true:=by kernel_rfl)
  (e:T=Dy X.P X.n (X.R0 es R) X.c [] (M1 X.P X.fn R) ⟨rI 0 args,[],[],w,false⟩:=by kernel_rfl):Calls X.P f args.toArray w R:=
 BW hf hb me Fx.R1 (e▸h)
def WI:Bool->List Nat->List Bool
 |_,[]=>[]
 |b,n::l=>List.replicate n b++WI (!b) l
abbrev bG (l:List Nat):List Bool:=WI true l
abbrev Ps:=List (Nat×Sp)
abbrev ls (l:List Nat):Tr:=Tr.sq l .nil
end Go.W
