import Derived.Test.YtcifihepfadgfaaGreatDoorW
import Derived.KernelRfl
set_option linter.unusedVariables false
namespace Go.W
open List renaming mem_cons->cS,getElem?_eq_some_iff->ov,mem_map->pX,mem_cons_of_mem->lr
abbrev Lv:=List (Nat×List Value×TypeId)
abbrev Sv:=List (Nat×Option (Nat×Nat))
def Sv.get? :Sv->Nat->Option (Nat×Nat)
 |[],_=>none
 |(k,v)::S,t=>bif Nat.beq k t then v else Sv.get? S t
def Sv.at (S:Sv):Operand->Option (Nat×Nat)
 |.tmp t=>S.get? t
 |_=>none
def Sv.put (S:Sv) (d:Option Nat) (o:Option (Nat×Nat)):Sv:=match d with
 |some d=>(d,o)::S
 |none=>S
structure TS where
 E:Env
 S:Sv
 L:Lv
 w:World
 d:Bool
abbrev HT:=List (Nat×Option Nat×(World->Prop))
def yy (s:TS) (K:TS->Prop):Prop:=match s.d with
 |true=>loc (qi s.L) s.w λw=>K ⟨s.E,s.S,s.L,w,false⟩
 |false=>K s
def shp:Value->Value->Bool
 |.int k _,.int k' _=>k==k'
 |.bool _,.bool _=>true
 |.string _,.string _=>true
 |.slice _ _ _,.slice _ _ _=>true
 |.pointer _,.pointer _=>true
 |.map _,.map _=>true
 |.int ..,_|.bool _,_|.string _,_|.slice ..,_|.pointer _,_|.map _,_=>false
 |_,_=>true
def Rp:List Value->List Value->Bool
 |[],[]=>true
 |z::zs,v::vs=>shp z v&&Rp zs vs
 |_,_=>false
def ldT (P:Program) (T:TypeId) (cs:List Value) (j:Nat) (K:Value->Prop):Prop:=
 hU (IK P T)<|match zeroOf P T with
 |.agg zs=>hU (Rp zs.toList ((cs.drop j).take zs.size)) (K (.agg ((cs.drop j).take zs.size).toArray))
 |.nilFunc=>False
 |z=>match cs[j]? with
  |some v=>hU (shp z v) (K v)
  |none=>False
def EI (P:Program) (T:TypeId) (f:Nat):Option Nat:=match P.underlying T with
 |some (.struct fs)=>match fs[f]? with
  |some f=>match P.info? f.type with
   |some i=>bif Nat.beq i.size 0 then none else some f.offset
   |none=>none
  |none=>none
 |_=>none
def y3 (P:Program) (o:Oper):Bool:=match o.op with
 |.load ..|.lookup ..=>true
 |.convert s d _=>match P.underlying s,P.underlying d with
  |some (.slice _),some .string=>true
  |some (.pointer _),some .unsafePointer=>true
  |some .unsafePointer,some (.pointer _)=>true
  |_,_=>false
 |.binOp .neq T _ y _=>bif isConst y then false else match P.underlying T with
  |some (.pointer _)=>true
  |_=>false
 |.call {callee:=.builtin .len,args,argTypes}=>match args.toList,argTypes.toList with
  |[_],[T]=>match P.underlying T with
   |some (.map _ _)=>true
   |_=>false
  |_,_=>false
 |_=>false
def KA (P:Program) (o:Oper) (s:TS) (K:Value->Option (Nat×Nat)->List (Option Nat×(World->Prop))->TS->Prop):Prop:=
 bif y3 P o then yy s λs=>qT P o s.E s.w λv Ss=>K v none (Ss.map λS=>(none,S)) s else qT P o s.E s.w λv Ss=>K v none (Ss.map λS=>(none,S)) s
def MH (P:Program) (o:Oper) (s:TS) (K:Value->Option (Nat×Nat)->List (Option Nat×(World->Prop))->TS->Prop):Prop:=
 match o.op with
 |.load T x=>match s.S.at x with
  |some (i,j)=>match s.L[i]? with
   |some X=>ldT P T X.2.1 j λv=>K v none [(some i,λw=>(loadVar T ((bD X.1).add j)).run P w=.ok v w)] s
   |none=>False
  |none=>KA P o s K
 |.move x|.assign x|.nilCheck x=>match s.S.at x with
  |some q=>K ((s.E.val x).getD undef) (some q) [] s
  |none=>KA P o s K
 |.fieldAddr T x f=>match s.S.at x with
  |some (i,j)=>match EI P T f,s.L[i]? with
   |some k,some X=>K (.pointer (some ((bD X.1).add (j+k)))) (some (i,j+k)) [] s
   |_,_=>False
  |none=>KA P o s K
 |_=>KA P o s K
def yj (L:Lv) (w w':World) (p:Prop):Prop:=match L with
 |[]=>p
 |L=>kept (qi L) w w'/\p
def yZ:List Value->Nat->List Value->List Value
 |cs,_,[]=>cs
 |cs,j,v::vs=>yZ (cs.set j v) (j+1) vs
def Jl (lv:List Nat) (d:Option Nat):Bool:=match d with
 |some d=>lv.any (Nat.beq d)
 |none=>false
def VF (bs:List Nat) (p:Addr):List Value->Nat->World->(World->Prop)->Prop
 |[],_,w,K=>K w
 |v::vs,i,w,K=>bT w (p.add i) v λw1=>kept bs w w1/\VF bs p vs (i+1) w1 K
def Vf (s:TS) (cs:List Value) (T:TypeId) (K:Value->Option (Nat×Nat)->Option Nat->TS->Prop):Prop:=
 bE (qi s.L) s.w λb w'=>K (.pointer (some (bD b))) (some (s.L.length,0)) none ⟨s.E,s.S,s.L++[(b,cs,T)],w',false⟩
def Ep (P:Program) (f:FuncId) (args:Array Value) (z:Value) (s:TS) (K:Value->World->Prop):Prop:=match s.L with
 |[]=>uS P f args z s.w K
 |L=>fE (qi L) P f args s.w λe w'=>vV z λv=>e=.returned v/\K v w'
def Ux (P:Program) (lv:List Nat) (draw:Bool) (o:Oper) (s:TS) (K:Value->Option (Nat×Nat)->Option Nat->TS->Prop):Prop:=
 match o.op with
 |.store T x y=>match s.S.at x with
  |some (i,j)=>match s.L[i]?,s.E.val y with
   |some X,some v=>hU (v.cells.size==(match P.info? T with |some i=>i.size|none=>0)&&v.cells.toList.all ua&&(P.info? T).isSome&&Nat.ble (j+v.cells.size) X.2.1.length) (K undef none (some i) ⟨s.E,s.S,s.L.set i (X.1,yZ X.2.1 j v.cells.toList,X.2.2),s.w,true⟩)
   |_,_=>False
  |none=>yy s λs=>match s.L with
   |[]=>mM P o s.E s.w λv w'=>K v none none ⟨s.E,s.S,s.L,w',false⟩
   |L=>match s.E.val x,s.E.val y with
    |some (.pointer (some p)),some v=>hU (v.cells.size==(match P.info? T with |some i=>i.size|none=>0)&&v.cells.toList.all ua&&(P.info? T).isSome) (VF (qi L) p v.cells.toList 0 s.w λw'=>K undef none none ⟨s.E,s.S,s.L,w',false⟩)
    |_,_=>False
 |.alloc T=>bif Jl lv o.dst then hU ((P.info? T).bind (·.zero)).isSome (Vf s (zeroOf P T).cells.toList T K) else yy s λs=>mM P o s.E s.w λv w'=>K v none none ⟨s.E,s.S,s.L,w',false⟩
 |.box T x=>bif Jl lv o.dst then (match s.E.val x with
   |some v=>Vf s v.cells.toList T K
   |none=>False) else yy s λs=>mM P o s.E s.w λv w'=>K v none none ⟨s.E,s.S,s.L,w',false⟩
 |.buildSlice ..|.makeMap ..=>yy s λs=>mM P o s.E s.w λv w'=>K v none none ⟨s.E,s.S,s.L,w',false⟩
 |.call {callee:=.value (.func f),args,..}=>yy s λs=>hU (s.E.gh o) (bif fK P f then Ep P f (args.map s.E.ev) (zeroOf P o.type) s λv w'=>K v none none ⟨s.E,s.S,s.L,w',false⟩
   else I5 P f (args.map s.E.ev) (zeroOf P o.type) s.w λv w'=>yj s.L s.w w' (K v none none ⟨s.E,s.S,s.L,w',false⟩))
 |.call {callee:=.value (.tmp t),args,..}=>yy s λs=>hU (s.E.gh o) (match s.E.get? t with
   |some (.func (.func f) first captured)=>hU (fK P f) (Ep P f (first++args.map s.E.ev++captured) (zeroOf P o.type) s λv w'=>K v none none ⟨s.E,s.S,s.L,w',false⟩)
   |_=>False)
 |_=>yy s λs=>(bif draw then mM else xj) P o s.E s.w λv w'=>yj s.L s.w w' (K v none none ⟨s.E,s.S,s.L,w',false⟩)
def EU (ops:Array Oper) (j:Nat) (w:World):HT->List Prop
 |[]=>[]
 |(i,f,S)::H=>bif sO ops i j||f.isSome then EU ops j w H else S w::EU ops j w H
def kU (ops:Array Oper) (j:Nat):HT->HT
 |[]=>[]
 |(i,f,S)::H=>bif sO ops i j then kU ops j H else (i,f,S)::kU ops j H
def Ik (ops:Array Oper) (j:Nat) (s:TS) (H:HT) (K:TS->Prop):Prop:=
 bif H.any (λp=>!(sO ops p.1 j)&&p.2.1.isNone) then yy s λs=>Kb (EU ops j s.w H) (K s) else K s
def stepT (P:Program) (lv:List Nat) (ops:Array Oper) (draw:Bool) (i:Nat) (o:Oper) (s:TS) (H:HT) (K:TS->HT->Prop):Prop:=
 bif calm P o then MH P o s λv q Ss s=>K ⟨s.E.put o.dst v,s.S.put o.dst q,s.L,s.w,s.d⟩ (bif draw then Ss.map (λS=>(i,S))++H else H)
 else Ux P lv draw o s λv q m s=>hU (!((kU ops i H).any λp=>m.isSome&&p.2.1==m)) (Ik ops i s H λs=>K ⟨s.E.put o.dst v,s.S.put o.dst q,s.L,s.w,s.d⟩ (kU ops i H))
def qV (P:Program) (lv:List Nat) (ops:Array Oper) (draw:Bool) (i:Nat) (o:Oper) (d:Nat) (want t:Bool) (s:TS) (H:HT) (K:TS->HT->Prop):Prop:=
 bif (t==want) then stepT P lv ops draw i o ⟨(d,.bool t)::s.E,s.S,s.L,s.w,s.d⟩ H K else K ⟨Env.put ((d,.bool t)::s.E) o.dst undef,s.S.put o.dst none,s.L,s.w,s.d⟩ (bif calm P o then H else kU ops i H)
def runT (P:Program) (lv:List Nat) (ops:Array Oper) (draw:Bool) (K:TS->Prop):List Nat->TS->HT->Prop
 |[],s,_=>K s
 |i::l,s,H=>
  match ops[i]? with
  |none=>False
  |some o=>match o.guard with
   |none=>stepT P lv ops draw i o s H λs' H'=>runT P lv ops draw K l s' H'
   |some (j,want)=>match qn ops j with
    |none=>False
    |some d=>match s.E.get? d with
     |some (.bool t)=>aG t (qV P lv ops draw i o d want true s H λs' H'=>runT P lv ops draw K l s' H') (qV P lv ops draw i o d want false s H λs' H'=>runT P lv ops draw K l s' H')
     |some (.tuple _)=>runT P lv ops draw K l ⟨Env.put s.E o.dst undef,s.S.put o.dst none,s.L,s.w,s.d⟩ (bif calm P o then H else kU ops i H)
     |_=>False
def ET (P:Program) (lv:List Nat) (ops:Array Oper) (i:Nat) (s:TS) (H:HT) (Kn:TS->HT->Prop):Prop:=
 match ops[i]? with
 |none=>False
 |some o=>match o.guard with
  |none=>stepT P lv ops true i o s H Kn
  |some (j,want)=>match qn ops j with
   |none=>False
   |some d=>match s.E.get? d with
    |some (.bool t)=>aG t (qV P lv ops true i o d want true s H Kn) (qV P lv ops true i o d want false s H Kn)
    |some (.tuple _)=>Kn ⟨Env.put s.E o.dst undef,s.S.put o.dst none,s.L,s.w,s.d⟩ (bif calm P o then H else kU ops i H)
    |_=>False
def TM (P:Program) (lv:List Nat) (ops:Array Oper) (K:TS->Prop):Tr->TS->HT->Prop
 |.nil,s,_=>K s
 |.one i t,s,H=>ET P lv ops i s H λs' H'=>TM P lv ops K t s' H'
 |.fork a b,s,H=>TM P lv ops K a s H/\TM P lv ops K b s H
def Tr.sq:List Nat->Tr->Tr
 |[],t=>t
 |i::l,t=>.one i (Tr.sq l t)
def W5 (s:TS) (K:TS->Prop):Prop:=match s.L,s.d with
 |[],false=>K ⟨s.E,s.S,s.L,s.w.drew,false⟩
 |_,_=>K ⟨s.E,s.S,s.L,s.w,true⟩
section
variable {P:Program}
structure Inv (s:TS) (w:World):Prop where
 lc:LC w s.L
 rel:if s.d=true then Fr (·∈qi s.L) s.w w else w=s.w
 sl:∀t i j,s.S.get? t=some (i,j)->∃X,s.L[i]? =some X/\s.E.get? t=some (.pointer (some ((bD X.1).add j)))
theorem Inv.yy {s:TS} {w:World} {K:TS->Prop} (I:Inv s w) (h:W.yy s K):Inv ⟨s.E,s.S,s.L,w,false⟩ w/\K ⟨s.E,s.S,s.L,w,false⟩:=by
 refine ⟨⟨I.lc,by simp,I.sl⟩,?_⟩
 unfold W.yy at h
 have hr:=I.rel
 cases hd:s.d with
 |true=>
  rw [hd] at h hr
  exact h w (by simpa using hr)
 |false=>
  rw [hd] at h hr
  have:w=s.w:=by simpa using hr
  obtain ⟨E,S,L,w0,d⟩:=s
  simp only at hd this
  subst hd this
  exact h
theorem Inv.fr {s:TS} {w:World} (I:Inv s w):Fr (·∈qi s.L) s.w w:=by
 have hr:=I.rel
 cases hd:s.d with
 |true=>rw [hd] at hr;simpa using hr
 |false=>
  rw [hd] at hr
  have:w=s.w:=by simpa using hr
  subst this
  exact Fr.refl _ _
theorem Inv.at {s:TS} {w:World} (I:Inv s w) {x:Operand} {i j:Nat} (h:s.S.at x=some (i,j)):∃X,s.L[i]? =some X/\s.E.val x=some (.pointer (some ((bD X.1).add j)))/\w.heap[X.1]? =some (.cells X.2.1.toArray X.2.2 (0,0)):=by
 cases x with
 |tmp t=>
  obtain ⟨X,h1,h2⟩:=I.sl t i j h
  exact ⟨X,h1,h2,I.lc.own i X h1⟩
 |_=>cases h
theorem FZ:∀{zs vs:List Value},Rp zs vs=true->vs.length=zs.length
 |[],[],_=>rfl
 |z::zs,v::vs,h=>by
  unfold Rp at h
  rw [Bool.and_eq_true] at h
  simp [FZ h.2]
theorem B8 {T:TypeId} {cs:List Value} {j b:Nat} {ty:TypeId} {K:Value->Prop} (h:ldT P T cs j K):
  ∃v,K v/\∀w:World,w.heap[b]? =some (.cells cs.toArray ty (0,0))->(loadVar T ((bD b).add j)).run P w=.ok v w:=by
 obtain ⟨ho,h⟩:=bX h
 unfold IK at ho
 have one:∀(v:Value),cs[j]? =some v->(G6 P T==some false)=true->∀w:World,w.heap[b]? =some (.cells cs.toArray ty (0,0))->(loadVar T ((bD b).add j)).run P w=.ok v w:=λv hv ha w hw=>
  pC (by simpa using ha) (cellAt (p:=bD b) hw rfl (by simpa using hv))
 cases hz:zeroOf P T with
 |agg zs=>
  rw [hz] at h ho
  simp only at h ho
  obtain ⟨hs,hk⟩:=bX h
  rw [Bool.and_eq_true] at ho
  obtain ⟨ha,hi⟩:=ho
  cases u0:P.info? T with
  |none=>rw [u0] at hi;simp at hi
  |some i=>
   rw [u0] at hi
   simp at hi ha
   refine ⟨_,hk,λw hw=>sE ha u0 (by rw [hi,FZ hs];simp) λk v Y5=>?_⟩
   rw [add_add]
   refine cellAt (p:=bD b) hw rfl ?_
   rw [List.getElem?_take] at Y5
   split at Y5
   .simpa using Y5
   .cases Y5
 |nilFunc=>rw [hz] at h;exact h.elim
 |_=>
  rw [hz] at h ho
  simp only at h
  split at h
  .rename_i v hv
   exact ⟨v,(bX h).2,one v hv ho⟩
  .exact h.elim
theorem Et {o:Oper} {E:Env} {w w':World} {K:Value->List (World->Prop)->Prop} (h:y3 P o=false) (hc:qT P o E w K):qT P o E w' K:=by
 unfold qT at hc ⊢
 unfold y3 at h
 split at hc<;>first |exact hc|skip
 all_goals rename_i eH
 all_goals rw [eH] at h
 .cases h
 .rename_i y _ tj
  cases y with
  |const c=>exact (tj c rfl).elim
  |_=>
   simp only [isConst,cond_false] at h
   split
   .rename_i hu _ _
    simp only [hu] at h
    cases h
   .split at hc
    .rename_i hu _ _
     simp only [hu] at h
     cases h
    .exact hc
 .cases h
 .split<;>first
   |(rename_i hs hd _;simp only [hs,hd] at h;cases h;done)
   |(split at hc<;>first
     |(rename_i hs hd _;simp only [hs,hd] at h;cases h;done)
     |exact hc)
 .split
  .rename_i ha ht
   simp only [ha,ht] at h hc
   split
   .rename_i hu _
    simp only [hu] at h
    cases h
   .split at hc
    .rename_i hu _
     simp only [hu] at h
     cases h
    .exact hc
  .rename_i tj
   split at hc
   .rename_i ha ht
    exact (tj _ _ ha ht).elim
   .exact hc
def ID (P:Program) (o:Oper) (a:Act) (s:TS) (w:World) (v:Value) (q:Option (Nat×Nat)) (Ss:List (Option Nat×(World->Prop))) (s':TS):Prop:=
 Inv s' w/\s'.E=s.E/\s'.S=s.S/\s'.L=s.L/\Calm P o a.eval w v (Ss.map (·.2))/\
 (∀p∈Ss,∀i,p.1=some i->∃X,s.L[i]? =some X/\∀w':World,w'.heap[X.1]? =some (.cells X.2.1.toArray X.2.2 (0,0))->p.2 w')/\
 (∀i j,q=some (i,j)->∃X,s.L[i]? =some X/\v=.pointer (some ((bD X.1).add j)))
section
variable {o:Oper} {n:Cx} {a:Act} {s:TS} {w:World} {K:Value->Option (Nat×Nat)->List (Option Nat×(World->Prop))->TS->Prop}
theorem Hu (hs:∀cs b,o.op≠.select cs b) (ha:Ag n a s.E) (I:Inv s w) (h:KA P o s K):∃v q Ss s',K v q Ss s'/\ID P o a s w v q Ss s':=by
 have fin:∀(s':TS),s'.E=s.E->s'.S=s.S->s'.L=s.L->Inv s' w->qT P o s.E w (λv Ss=>K v none (Ss.map λS=>(none,S)) s')->∃v q Ss s',K v q Ss s'/\ID P o a s w v q Ss s':=λs' e1 e2 e3 I' hc=>by
  obtain ⟨v,Ss,hv,uz⟩:=pO hs ha hc
  refine ⟨v,none,_,s',hv,I',e1,e2,e3,?_,λp hp i hi=>?_,λi j hq=>by cases hq⟩
  .rw [List.map_map]
   have:((λx:Option Nat×(World->Prop)=>x.2)∘λS=>((none:Option Nat),S))=id:=rfl
   rw [this,List.map_id]
   exact uz
  .obtain ⟨S,_,rfl⟩:=pX.1 hp
   cases hi
 unfold KA at h
 cases hw:y3 P o with
 |true=>
  rw [hw,cond_true] at h
  obtain ⟨I',h'⟩:=I.yy h
  exact fin ⟨s.E,s.S,s.L,w,false⟩ rfl rfl rfl I' h'
 |false=>
  rw [hw,cond_false] at h
  exact fin s rfl rfl rfl I (Et hw h)
theorem Es (hs:∀cs b,o.op≠.select cs b) (ha:Ag n a s.E) (I:Inv s w) (h:MH P o s K):∃v q Ss s',K v q Ss s'/\ID P o a s w v q Ss s':=by
 have gen:=λh=>Hu (P:=P) (K:=K) hs ha I h
 have same:∀(x:Operand) (q:Nat×Nat),s.S.at x=some q->(∀w,(execOp a.eval o).run P w=.ok (.value (a.eval x)) w\/∀p,a.eval x≠.pointer (some p))->K ((s.E.val x).getD undef) (some q) [] s->∃v q Ss s',K v q Ss s'/\ID P o a s w v q Ss s':=λx q hx hr hk=>by
  obtain ⟨X,h1,h2,_⟩:=I.at (i:=q.1) (j:=q.2) hx
  have he:=ha.val h2
  refine ⟨_,_,_,s,hk,I,rfl,rfl,rfl,⟨λS hS=>(by cases hS),λw' _=>?_⟩,λp hp=>(by cases hp),λi j hq=>?_⟩
  .rcases hr w' with hr|hr
   .rw [hr,h2,he];rfl
   .exact (hr _ he).elim
  .cases hq
   exact ⟨X,h1,by rw [h2];rfl⟩
 unfold MH at h
 split at h
 .rename_i T x eH
  split at h
  .rename_i i j hx
   obtain ⟨X,h1,h2,h3⟩:=I.at hx
   rw [h1] at h
   obtain ⟨v,hk,hv⟩:=B8 (b:=X.1) (ty:=X.2.2) h
   refine ⟨v,_,_,s,hk,I,rfl,rfl,rfl,⟨λS hS=>?_,λw' Bc=>?_⟩,λp hp i' wV=>?_,λi j hq=>by cases hq⟩
   .simp only [List.map_cons,List.map_nil,cS,List.not_mem_nil,or_false] at hS
    subst hS
    exact hv w h3
   .have:(loadVar T ((bD X.1).add j)).run P w'=.ok v w':=Bc (λw=>(loadVar T ((bD X.1).add j)).run P w=.ok v w) (by simp)
    simp [execOp,eH,Instr.loadAt,ha.val h2,Instr.sureAddr,this]
   .simp only [cS,List.not_mem_nil,or_false] at hp
    subst hp
    cases wV
    exact ⟨X,h1,hv⟩
  .exact gen h
 .rename_i x eH
  split at h
  .rename_i q hx
   exact same x q hx (λw=>.inl (by simp [execOp,eH])) h
  .exact gen h
 .rename_i x eH
  split at h
  .rename_i q hx
   exact same x q hx (λw=>.inl (by simp [execOp,eH])) h
  .exact gen h
 .rename_i x eH
  split at h
  .rename_i q hx
   refine same x q hx (λw=>?_) h
   obtain ⟨X,_,h2,_⟩:=I.at (i:=q.1) (j:=q.2) hx
   exact .inl (by simp [execOp,eH,ha.val h2])
  .exact gen h
 .rename_i T x f eH
  split at h
  .rename_i i j hx
   obtain ⟨X,h1,h2,h3⟩:=I.at hx
   split at h
   .rename_i k X' hk Sm
    rw [h1] at Sm
    cases Sm
    refine ⟨_,_,_,s,h,I,rfl,rfl,rfl,⟨λS hS=>(by cases hS),λw' _=>?_⟩,λp hp=>(by cases hp),λi' j' hq=>?_⟩
    .unfold EI at hk
     split at hk
     .rename_i fs hu
      split at hk
      .rename_i fd hf
       split at hk
       .rename_i inf u0
        cases hz:Nat.beq inf.size 0 with
        |true=>rw [hz] at hk;cases hk
        |false=>
         rw [hz] at hk
         cases hk
         have ie:inf.size≠0:=λe=>by rw [e] at hz;cases hz
         simp [execOp,eH,ha.val h2,Instr.fieldAt,run_underlying hu,hf,Instr.sureAddr,fieldPlace,sizeOf,typeInfo,u0,ie,add_add]
       .cases hk
      .cases hk
     .cases hk
    .cases hq
     exact ⟨X,h1,rfl⟩
   .exact h.elim
  .exact gen h
 .exact gen h
end
def J' (s:TS) (K:Value->Option (Nat×Nat)->Option Nat->TS->Prop) (v:Value) (w':World):Prop:=
 ∃q m s',K v q m s'/\Inv s' w'/\s'.E=s.E/\s'.S=s.S/\(∀i X,s.L[i]? =some X->m≠some i->s'.L[i]? =some X)/\
  (∀i j,q=some (i,j)->∃X,s'.L[i]? =some X/\v=.pointer (some ((bD X.1).add j)))
theorem yv {o:Oper} {ρ:Operand->Value} {T:TypeId} {z:Value} (eH:o.op=.alloc T) (hz:(P.info? T).bind (·.zero)=some z) (w:World):
  (execOp ρ o).run P w=.ok (.value (.pointer (some (bD w.heap.size)))) (w.alloc (.cells z.cells T)):=by
 cases hi:P.info? T with
 |none=>rw [hi] at hz;cases hz
 |some i=>
  rw [hi] at hz
  have Qp:i.zero=some z:=hz
  simp [execOp,eH,Instr.alloc,zeroValue,typeInfo,hi,Qp,newVar,newRow]
theorem Ck {o:Oper} {ρ:Operand->Value} {T:TypeId} {x:Operand} (eH:o.op=.box T x) (w:World):
  (execOp ρ o).run P w=.ok (.value (.pointer (some (bD w.heap.size)))) (w.alloc (.cells (ρ x).cells T)):=by
 simp [execOp,eH,Instr.box,newVar,newRow]
theorem HQ {L:Lv} {w w':World} {p:Prop} (h:yj L w w' p) (H:LC w L):LC w' L/\p:=by
 cases L with
 |nil=>exact ⟨LC.nil _,h⟩
 |cons x L=>exact ⟨H.yj h.1,h.2⟩
section
variable {o:Oper} {n:Cx} {a:Act} {s:TS} {w:World} {K:Value->Option (Nat×Nat)->Option Nat->TS->Prop}
theorem zl {f:FuncId} {args:Array Value} {K:Value->World->Prop} (l0:(execOp a.eval o).run P w=.ok (.enter f args) w) (h:Calls P f args w λe w'=>∃v,e=.returned v/\K v w'):sS P o a w K:=by
 intro Q
 unfold Oper.wp
 rw [l0]
 simp only [Oper.upon]
 refine Calls.mono h λe w' he=>?_
 obtain ⟨v,rfl,hk⟩:=he
 exact ⟨v,rfl,hk⟩
theorem zm {f:FuncId} {args:Array Value} {z:Value} {K:Value->World->Prop} (l0:(execOp a.eval o).run P w=.ok (.enter f args) w) (H:LC w s.L) (hw:s.w=w) (h:Ep P f args z s K):sS P o a w λv w'=>LC w' s.L/\K v w':=by
 unfold Ep at h
 split at h
 .rename_i hL
  rw [hw] at h
  refine zl l0 (Calls.mono h λe w' he=>?_)
  obtain ⟨v,rfl,hk⟩:=ni he
  exact ⟨v,rfl,by rw [hL];exact LC.nil _,hk⟩
 .rw [hw] at h
  obtain ⟨M,hm,hc⟩:=h
  refine zl l0 (Calls.mono hc λe w' he=>?_)
  obtain ⟨f',hx⟩:=he
  obtain ⟨v,rfl,hk⟩:=ni hx
  exact ⟨v,rfl,H.fr f' hm,hk⟩
theorem Fs {cs:Array Value} {T:TypeId} (l0:(execOp a.eval o).run P w=.ok (.value (.pointer (some (bD w.heap.size)))) (w.alloc (.cells cs T))) (I:Inv s w) (h:Vf s cs.toList T K):sS P o a w (J' s K):=by
 intro Q
 unfold Oper.wp
 rw [l0]
 simp only [Oper.upon]
 refine ⟨_,rfl,_,_,_,h w.heap.size (w.alloc (.cells cs T)) I.fr.size (size_alloc _ _) (I.fr.AV (Fr.alloc _ _ _)),⟨I.lc.push cs T,by simp,λt i j hq=>?_⟩,rfl,rfl,λi X hX _=>?_,λi j hq=>?_⟩
 .obtain ⟨X,h1,h2⟩:=I.sl t i j hq
  exact ⟨X,by rw [List.getElem?_append_left (ov.1 h1).1];exact h1,h2⟩
 .rw [List.getElem?_append_left (ov.1 hX).1];exact hX
 .cases hq
  exact ⟨(w.heap.size,cs.toList,T),by simp,by rw [uN]⟩
theorem Tl {i j b:Nat} {T:TypeId} {wT:World} {K:World->Prop}:∀(vs:List Value) (k:Nat) (w:World) (L:Lv) (cs:List Value),LC w L->L[i]? =some (b,cs,T)->j+k+vs.length<=cs.length->Fr (·∈qi L) wT w->
  (∀w',LC w' (L.set i (b,yZ cs (j+k) vs,T))->Fr (·∈qi L) wT w'->K w')->Iv ((bD b).add j) vs k w K
 |[],k,w,L,cs,H,hi,hl,f,hk=>by
  refine hk w ?_ f
  have:L.set i (b,cs,T)=L:=by
   apply List.ext_getElem?
   intro m
   rw [List.getElem?_set]
   split
   .rename_i e
    subst e
    split
    .exact hi.symm
    .rename_i h;exact absurd (ov.1 hi).1 h
   .rfl
  rw [show yZ cs (j+k) []=cs from rfl,this]
  exact H
 |v::vs,k,w,L,cs,H,hi,hl,f,hk=>by
  simp only [List.length_cons] at hl
  obtain ⟨x1,x2,x3,x4⟩:=H.set (v:=v) i (j+k) hi (by omega) f
  unfold Iv
  rw [add_add]
  refine ⟨x1,x2,Tl (i:=i) (T:=T) vs (k+1) _ _ (cs.set (j+k) v) x3 ?_ (by rw [List.length_set];omega) x4 λw' h1 h2=>?_⟩
  .rw [List.getElem?_set_self (ov.1 hi).1]
  .rw [List.set_set] at h1
   rw [Hc L i hi] at h2
   exact hk w' h1 h2
theorem As {L:Lv} {p:Addr} {K K':World->Prop} (hk:∀w',LC w' L->K w'->K' w'):∀(vs:List Value) (i:Nat) (w:World),LC w L->VF (qi L) p vs i w K->Iv p vs i w K'
 |[],_,w,H,h=>hk w H h
 |v::vs,i,w,H,h=>by
  obtain ⟨h1,h2,h3,h4⟩:=h
  exact ⟨h1,h2,As hk vs (i+1) _ (H.yj h3) h4⟩
theorem GQ {b:Bool} {p:Prop} (h1:b=true) (h2:p):hU b p:=by subst h1;exact h2
theorem ye {E:Env} {T:TypeId} {x y:Operand} {p:Addr} {v:Value} {K:Value->World->Prop} (eH:o.op=.store T x y) (hx:E.val x=some (.pointer (some p))) (hy:E.val y=some v)
  (hc:(v.cells.size==(match P.info? T with |some i=>i.size|none=>0)&&v.cells.toList.all ua&&(P.info? T).isSome)=true) (h:Iv p v.cells.toList 0 w λw'=>K undef w'):mM P o E w K:=by
 unfold mM
 rw [eH]
 simp only [hx,hy]
 exact GQ hc h
theorem Cl {ρ:Operand->Value} {nx:Next} {w':World} (eH:(∃T,o.op=.alloc T)\/(∃T x,o.op=.box T x)\/(∃T l p,o.op=.buildSlice T l p)\/(∃T r,o.op=.makeMap T r)) (h:(execOp ρ o).run P w=.ok nx w'):bG w w':=by
 rcases eH with ⟨T,eH⟩|⟨T,x,eH⟩|⟨T,l,p,eH⟩|⟨T,r,eH⟩
 .cases hz:(P.info? T).bind (·.zero) with
  |some z=>
   rw [yv eH hz] at h
   cases h
   exact Fr.alloc _ _ _
  |none=>
   exfalso
   cases hi:P.info? T with
   |none=>simp [execOp,eH,Instr.alloc,zeroValue,typeInfo,hi] at h
   |some i=>
    rw [hi] at hz
    have Qp:i.zero=none:=hz
    simp [execOp,eH,Instr.alloc,zeroValue,typeInfo,hi,Qp] at h
 .rw [Ck eH] at h
  cases h
  exact Fr.alloc _ _ _
 .cases hu:P.underlying T with
  |none=>simp [execOp,eH,Instr.buildSlice,underlying,hu] at h
  |some u=>
   cases u<;>first |(simp [execOp,eH,Instr.buildSlice,run_underlying hu] at h;done)|skip
   rename_i e
   cases hi:P.info? e with
   |none=>simp [execOp,eH,Instr.buildSlice,run_underlying hu,sizeOf,typeInfo,hi] at h
   |some i=>
    by_cases UO:l *i.size>2^24
    .simp [execOp,eH,Instr.buildSlice,run_underlying hu,sizeOf,typeInfo,hi,UO] at h
    by_cases h0:l *i.size=0
    .simp [execOp,eH,Instr.buildSlice,run_underlying hu,sizeOf,typeInfo,hi,h0] at h
     split at h
     .simp [newRow] at h
      obtain ⟨_,rfl⟩:=h
      exact Fr.alloc _ _ _
     .simp at h
    .simp [execOp,eH,Instr.buildSlice,run_underlying hu,sizeOf,typeInfo,hi,UO,h0] at h
     cases hz:i.zero with
     |none=>simp [zeroValue,typeInfo,hi,hz] at h
     |some z=>
      simp [zeroValue,typeInfo,hi,hz] at h
      split at h
      .simp [newRow] at h
       obtain ⟨_,rfl⟩:=h
       exact Fr.alloc _ _ _
      .simp at h
 .cases r with
  |none=>
   simp [execOp,eH,Instr.makeMap] at h
   obtain ⟨_,rfl⟩:=h
   exact Fr.alloc _ _ _
  |some r=>
   cases hu:P.underlying T with
   |none=>simp [execOp,eH,Instr.makeMap,underlying,hu] at h
   |some u=>
    cases u<;>first |(simp [execOp,eH,Instr.makeMap,run_underlying hu] at h;done)|skip
    cases hr:ρ r with
    |int k z=>
     simp [execOp,eH,Instr.makeMap,run_underlying hu,hr,Go.asInt,Go.asIntOf] at h
     obtain ⟨_,rfl⟩:=h
     exact Fr.alloc _ _ _
    |pointer q=>cases q<;>simp [execOp,eH,Instr.makeMap,run_underlying hu,hr,Go.asInt,Go.asIntOf] at h
    |_=>simp [execOp,eH,Instr.makeMap,run_underlying hu,hr,Go.asInt,Go.asIntOf] at h
theorem NR {K:Value->World->Prop} (hs:∀cs b,o.op≠.select cs b) (ha:Ag n a s.E) (eH:(∃T,o.op=.alloc T)\/(∃T x,o.op=.box T x)\/(∃T l p,o.op=.buildSlice T l p)\/(∃T r,o.op=.makeMap T r)) (h:mM P o s.E w K):sS P o a w λv w'=>bG w w'/\K v w':=by
 have h':xm P o s.E w K:=by
  unfold mM at h
  rcases eH with ⟨T,eH⟩|⟨T,x,eH⟩|⟨T,l,p,eH⟩|⟨T,r,eH⟩<;>rw [eH] at h<;>exact h
 obtain ⟨hc,h'⟩:=bX h'
 intro Q
 unfold Oper.wp
 rw [ha.execOp hs hc]
 generalize hr:(execOp s.E.ev o).run P w=r at h'
 split at h'
 .simp only [Oper.upon];exact ⟨_,rfl,Cl eH hr,h'⟩
 .simp only [Oper.upon];exact ⟨_,rfl,Cl eH hr,h'⟩
 .exact h'.elim
theorem Hm {draw:Bool} {lv:List Nat} (A:(Value->World->Prop)->Prop) (h0:∀K,sS P o a w K->A K) (h1:∀K,(bif draw then mM else xj) P o s.E w K->A K) (hm:∀K K',(∀v w',K v w'->K' v w')->A K->A K')
  (hs:∀cs b,o.op≠.select cs b) (ha:Ag n a s.E) (I:Inv s w) (h:Ux P lv draw o s K):A (J' s K):=by
 have back:∀v w',LC w' s.L->K v none none ⟨s.E,s.S,s.L,w',false⟩->J' s K v w':=λv w' H hk=>⟨none,none,_,hk,⟨H,by simp,I.sl⟩,rfl,rfl,λi X h _=>h,λi j hq=>by cases hq⟩
 have Sb:∀v w',yj s.L w w' (K v none none ⟨s.E,s.S,s.L,w',false⟩)->J' s K v w':=λv w' hk=>by
  obtain ⟨H,hk⟩:=HQ hk I.lc
  exact back v w' H hk
 have news:((∃T,o.op=.alloc T)\/(∃T x,o.op=.box T x)\/(∃T l p,o.op=.buildSlice T l p)\/(∃T r,o.op=.makeMap T r))->yy s (λs=>mM P o s.E s.w λv w'=>K v none none ⟨s.E,s.S,s.L,w',false⟩)->A (J' s K):=λeH h=>by
  obtain ⟨_,h'⟩:=I.yy h
  exact hm _ _ (λv w' ⟨f,hk⟩=>back v w' (I.lc.fr (M:=λ_=>False) f (λ_ _ h=>h)) hk) (h0 _ (NR hs ha eH h'))
 unfold Ux at h
 split at h
 .rename_i T x y eH
  split at h
  .rename_i i j hx
   obtain ⟨X,g1,g2,_⟩:=I.at hx
   split at h
   .rename_i X' v Sm hv
    rw [g1] at Sm
    cases Sm
    obtain ⟨hc,hk⟩:=bX h
    rw [Bool.and_eq_true] at hc
    obtain ⟨hc,hb⟩:=hc
    have hb:=Nat.le_of_ble_eq_true hb
    refine h0 _ (ir hs ha (ye eH g2 hv hc ?_))
    refine Tl (i:=i) (T:=X.2.2) _ 0 w s.L X.2.1 I.lc g1 (by simpa using hb) I.fr λw' q1 q2=>?_
    refine ⟨none,some i,_,hk,⟨q1,?_,λt i' j' ht=>?_⟩,rfl,rfl,λi' Y hY ie=>?_,λi j hq=>by cases hq⟩
    .simp only [if_true]
     rw [Hc s.L i g1]
     exact q2
    .obtain ⟨Y,y1,y2⟩:=I.sl t i' j' ht
     by_cases e:i=i'
     .subst e
      rw [g1] at y1
      cases y1
      exact ⟨_,List.getElem?_set_self (ov.1 g1).1,y2⟩
     .exact ⟨Y,by rw [List.getElem?_set_ne e];exact y1,y2⟩
    .have e:i≠i':=λe=>ie (by rw [e])
     show (s.L.set i _)[i']? =_
     rw [List.getElem?_set_ne e];exact hY
   .exact h.elim
  .obtain ⟨_,h'⟩:=I.yy h
   simp only at h'
   split at h'
   .rename_i hL
    exact hm _ _ (λv w' hk=>back v w' (hL▸LC.nil _) hk) (h0 _ (ir hs ha h'))
   .split at h'
    .rename_i p v hx hy
     obtain ⟨hc,hk⟩:=bX h'
     exact hm _ _ (λv w' hk=>hk) (h0 _ (ir hs ha (ye eH hx hy hc (As (K':=J' s K undef) (λw' H hk=>back _ w' H hk) _ _ _ I.lc hk))))
    .exact h'.elim
 .rename_i T eH
  cases hl:Jl lv o.dst with
  |true=>
   rw [hl,cond_true] at h
   obtain ⟨hz,h⟩:=bX h
   obtain ⟨z,hz⟩:=Option.isSome_iff_exists.1 hz
   have:zeroOf P T=z:=by unfold zeroOf;rw [hz];rfl
   rw [this] at h
   exact h0 _ (Fs (yv eH hz w) I h)
  |false=>
   rw [hl,cond_false] at h
   exact news (.inl ⟨T,eH⟩) h
 .rename_i T x eH
  cases hl:Jl lv o.dst with
  |true=>
   rw [hl,cond_true] at h
   split at h
   .rename_i v hv
    have:=Ck (P:=P) (ρ:=a.eval) eH w
    rw [ha.val hv] at this
    exact h0 _ (Fs this I h)
   .exact h.elim
  |false=>
   rw [hl,cond_false] at h
   exact news (.inr (.inl ⟨T,x,eH⟩)) h
 .rename_i T l p eH
  exact news (.inr (.inr (.inl ⟨T,l,p,eH⟩))) h
 .rename_i T r eH
  exact news (.inr (.inr (.inr ⟨T,r,eH⟩))) h
 .rename_i f args TO eH
  obtain ⟨I',h⟩:=I.yy h
  obtain ⟨hc,h⟩:=bX h
  have hargs:args.map a.eval=args.map s.E.ev:=ha.args λx hx=>List.all_eq_true.1 hc x (by rw [eH];simp [Op.operands,Call.operands,hx])
  cases BW:fK P f with
  |true=>
   rw [BW,cond_true] at h
   exact hm _ _ (λv w' ⟨H,hk⟩=>back v w' H hk) (h0 _ (zm (s:=⟨s.E,s.S,s.L,w,false⟩) (by simp [execOp,eH,resolve,Act.eval,Deferred.ofValue,invoke,hargs,mL BW]) I.lc rfl h))
  |false=>
   rw [BW,cond_false] at h
   unfold I5 at h
   obtain ⟨v,w',hr,hk⟩:=ni h
   refine hm _ _ Sb (h0 _ λQ=>?_)
   unfold Oper.wp
   have:(execOp a.eval o).run P w=.ok (.value v) w':=by simp [execOp,eH,resolve,Act.eval,Deferred.ofValue,invoke,hargs,hr]
   rw [this]
   simp only [Oper.upon]
   exact ⟨_,rfl,hk⟩
 .rename_i t args TO eH
  obtain ⟨I',h⟩:=I.yy h
  obtain ⟨hc,h⟩:=bX h
  have hargs:args.map a.eval=args.map s.E.ev:=ha.args λx hx=>List.all_eq_true.1 hc x (by rw [eH];simp [Op.operands,Call.operands,hx])
  split at h
  .rename_i f first captured hf
   obtain ⟨BW,h⟩:=bX h
   have Qd:a.eval (.tmp t)=.func (.func f) first captured:=ha.val (x:=.tmp t) hf
   exact hm _ _ (λv w' ⟨H,hk⟩=>back v w' H hk) (h0 _ (zm (s:=⟨s.E,s.S,s.L,w,false⟩) (by simp [execOp,eH,resolve,Qd,Deferred.ofValue,invoke,hargs,mL BW]) I.lc rfl h))
  .exact h.elim
 .obtain ⟨_,h'⟩:=I.yy h
  exact hm _ _ Sb (h1 _ h')
end
def HI (s:TS) (H:HT) (w:World):Prop:=∀p∈H,p.2.2 w/\∀i,p.2.1=some i->∃X,s.L[i]? =some X/\∀w':World,w'.heap[X.1]? =some (.cells X.2.1.toArray X.2.2 (0,0))->p.2.2 w'
def nR (H:HT):mq:=H.map λp=>(p.1,p.2.2)
theorem qe {ops:Array Oper} {j:Nat}:∀H:HT,eV ops j (nR H)=nR (kU ops j H)
 |[]=>rfl
 |(i,f,S)::H=>by
  show eV ops j ((i,S)::nR H)=nR (kU ops j ((i,f,S)::H))
  unfold eV kU
  cases sO ops i j
  .simp only [cond_false]
   rw [qe H];rfl
  .simp only [cond_true]
   exact qe H
theorem kJ {ops:Array Oper} {j:Nat}:∀{H:HT} {p},p∈kU ops j H->p∈H/\sO ops p.1 j=false
 |(i,f,S)::H,p,h=>by
  unfold kU at h
  cases ho:sO ops i j with
  |true=>
   rw [ho,cond_true] at h
   exact ⟨lr _ (kJ h).1,(kJ h).2⟩
  |false=>
   rw [ho,cond_false] at h
   rcases cS.1 h with rfl|h
   .exact ⟨List.mem_cons_self,ho⟩
   .exact ⟨lr _ (kJ h).1,(kJ h).2⟩
theorem EV {ops:Array Oper} {j:Nat} {w:World}:∀{H:HT} {p},p∈H->sO ops p.1 j=false->p.2.1=none->p.2.2 w∈EU ops j w H
 |(i,f,S)::H,p,h,ho,hf=>by
  unfold EU
  rcases cS.1 h with rfl|h
  .simp only at ho hf
   rw [ho,hf]
   exact List.mem_cons_self
  .have:=EV (w:=w) h ho hf
   cases (sO ops i j||f.isSome)
   .exact lr _ this
   .exact this
theorem Inv.put {s:TS} {w:World} (I:Inv s w) (d:Option Nat) {v:Value} {q:Option (Nat×Nat)} (hq:∀i j,q=some (i,j)->∃X,s.L[i]? =some X/\v=.pointer (some ((bD X.1).add j))):Inv ⟨s.E.put d v,s.S.put d q,s.L,s.w,s.d⟩ w:=by
 refine ⟨I.lc,I.rel,λt i j ht=>?_⟩
 cases d with
 |none=>exact I.sl t i j ht
 |some d=>
  simp only [Sv.put,Sv.get?] at ht
  simp only [Env.put,Env.get?]
  cases hb:Nat.beq d t with
  |true=>
   rw [hb,cond_true] at ht
   obtain ⟨X,h1,h2⟩:=hq i j ht
   exact ⟨X,h1,by simp [h2]⟩
  |false=>
   rw [hb,cond_false] at ht
   obtain ⟨X,h1,h2⟩:=I.sl t i j ht
   exact ⟨X,h1,by simpa using h2⟩
theorem DB {ops:Array Oper} {j:Nat} {s s1:TS} {w w':World} {m:Option Nat} {H:HT} {K:TS->Prop} (hH:HI s H w) (I:Inv s1 w') (hL:∀i X,s.L[i]? =some X->m≠some i->s1.L[i]? =some X)
  (hc:(!((kU ops j H).any λp=>m.isSome&&p.2.1==m))=true) (h:Ik ops j s1 H K):
  ∃s2,K s2/\Inv s2 w'/\s2.E=s1.E/\s2.S=s1.S/\s2.L=s1.L/\HI s2 (kU ops j H) w':=by
 have Vb:∀p∈kU ops j H,∀i,p.2.1=some i->∃X,s1.L[i]? =some X/\∀w':World,w'.heap[X.1]? =some (.cells X.2.1.toArray X.2.2 (0,0))->p.2.2 w':=λp hp i hi=>by
  obtain ⟨X,h1,h2⟩:=(hH p (kJ hp).1).2 i hi
  refine ⟨X,hL i X h1 λe=>?_,h2⟩
  simp only [Bool.not_eq_true',List.any_eq_false] at hc
  exact hc p hp (by rw [e,hi];simp)
 have own:∀p∈kU ops j H,∀i,p.2.1=some i->p.2.2 w':=λp hp i hi=>by
  obtain ⟨X,h1,h2⟩:=Vb p hp i hi
  exact h2 w' (I.lc.own i X h1)
 unfold Ik at h
 cases ha:H.any (λp=>!(sO ops p.1 j)&&p.2.1.isNone) with
 |true=>
  rw [ha,cond_true] at h
  obtain ⟨I',h'⟩:=I.yy h
  obtain ⟨q1,q2⟩:=qc h'
  refine ⟨_,q2,I',rfl,rfl,rfl,λp hp=>⟨?_,Vb p hp⟩⟩
  cases hf:p.2.1 with
  |none=>exact q1 _ (EV (kJ hp).1 (kJ hp).2 hf)
  |some i=>exact own p hp i hf
 |false=>
  rw [ha,cond_false] at h
  refine ⟨s1,h,I,rfl,rfl,rfl,λp hp=>⟨?_,Vb p hp⟩⟩
  cases hf:p.2.1 with
  |none=>
   exfalso
   rw [List.any_eq_false] at ha
   exact ha p (kJ hp).1 (by rw [(kJ hp).2,hf];rfl)
  |some i=>exact own p hp i hf
section
variable {ops:Array Oper} {n:Cx} {lv:List Nat}
theorem xT {o:Oper} {a:Act} {s:TS} {w:World} {H:HT} {K:TS->HT->Prop} {draw:Bool} {i:Nat} (A:(Value->World->Prop)->Prop) (h0:∀K,sS P o a w K->A K) (h1:∀K,(bif draw then mM else xj) P o s.E w K->A K) (hm:∀K K',(∀v w',K v w'->K' v w')->A K->A K')
  (hs:∀cs b,o.op≠.select cs b) (ha:Ag n a s.E) (I:Inv s w) (hH:HI s H w) (hc:calm P o=false) (h:stepT P lv ops draw i o s H K):
  A λv w'=>∃s',K s' (kU ops i H)/\Inv s' w'/\HI s' (kU ops i H) w'/\s'.E=s.E.put o.dst v:=by
 unfold stepT at h
 rw [hc,cond_false] at h
 refine hm _ _ (λv w' he=>?_) (Hm A h0 h1 hm hs ha I h)
 obtain ⟨q,m,s1,hk,I1,e1,e2,hL,hq⟩:=he
 obtain ⟨hb,hr⟩:=bX hk
 obtain ⟨s2,k2,I2,f1,f2,f3,H2⟩:=DB hH I1 hL hb hr
 refine ⟨_,k2,I2.put o.dst λi j h=>?_,H2,by rw [f1,e1]⟩
 rw [f3]
 exact hq i j h
theorem Ax {o:Oper} {a:Act} {s:TS} {w:World} {H:HT} {K:TS->HT->Prop} {draw:Bool} {i:Nat} (hs:∀cs b,o.op≠.select cs b) (ha:Ag n a s.E) (I:Inv s w) (hH:HI s H w) (hc:calm P o=true) (h:stepT P lv ops draw i o s H K):
  ∃v Ss s' H',K s' H'/\Inv s' w/\HI s' H' w/\s'.E=s.E.put o.dst v/\Calm P o a.eval w v Ss/\nR H'=(bif draw then Ss.map (λS=>(i,S))++nR H else nR H):=by
 unfold stepT at h
 rw [hc,cond_true] at h
 obtain ⟨v,q,Ss,s',hk,I',e1,e2,e3,uz,hl,hq⟩:=Es hs ha I h
 refine ⟨v,Ss.map (·.2),_,_,hk,I'.put o.dst λi j h=>?_,λp hp=>?_,by rw [e1],uz,?_⟩
 .rw [e3];exact hq i j h
 .have AT:p∈H->p.2.2 w/\∀i,p.2.1=some i->∃X,s'.L[i]? =some X/\∀w':World,w'.heap[X.1]? =some (.cells X.2.1.toArray X.2.2 (0,0))->p.2.2 w':=λhp=>by
   rw [e3];exact hH p hp
  cases draw with
  |false=>exact AT hp
  |true=>
   rcases List.mem_append.1 hp with hp|hp
   .obtain ⟨S,hS,rfl⟩:=pX.1 hp
    refine ⟨uz.1 _ (pX.2 ⟨S,hS,rfl⟩),λi' wV=>?_⟩
    simp only
    rw [e3]
    exact hl S hS i' wV
   .exact AT hp
 .cases draw with
  |false=>rfl
  |true=>simp [nR]
theorem xp {i d:Nat} {o:Oper} {want t:Bool} {s:TS} {H:HT} {K:TS->HT->Prop} {draw:Bool} (h:aG t (qV P lv ops draw i o d want true s H K) (qV P lv ops draw i o d want false s H K)):qV P lv ops draw i o d want t s H K:=by
 cases t
 .exact h
 .exact h
theorem Inv.same {s:TS} {w:World} (I:Inv s w) {d:Nat} {v:Value} (hd:s.E.get? d=some v):Inv ⟨(d,v)::s.E,s.S,s.L,s.w,s.d⟩ w:=by
 refine ⟨I.lc,I.rel,λt i j ht=>?_⟩
 obtain ⟨X,h1,h2⟩:=I.sl t i j ht
 refine ⟨X,h1,?_⟩
 simp only [Env.get?]
 by_cases e:d=t
 .subst e
  rw [hd] at h2
  cases h2
  simp
 .have hb:Nat.beq d t=false:=by rw [<-Bool.not_eq_true,Nat.beq_eq];exact e
  rw [hb,cond_false]
  exact h2
theorem Inv.skip {s:TS} {w:World} (I:Inv s w) (d:Option Nat):Inv ⟨s.E.put d undef,s.S.put d none,s.L,s.w,s.d⟩ w:=I.put d λi j h=>by cases h
theorem HI.skip {s s':TS} {w:World} {H:HT} (h:HI s H w) (e:s'.L=s.L):HI s' H w:=λp hp=>by rw [e];exact h p hp
theorem HI.drop {s:TS} {w:World} {H:HT} {j:Nat} (h:HI s H w):HI s (kU ops j H) w:=λp hp=>h p (kJ hp).1
theorem HI.held {s:TS} {w:World} {H:HT} (h:HI s H w):∀p∈nR H,p.2 w:=λp hp=>by
 obtain ⟨q,hq,rfl⟩:=pX.1 hp
 exact (h q hq).1
theorem ue {K:TS->Prop} {Q:Exit->Act->World->Prop} (hn:gI n ops=true):∀(l:List Nat) (s:TS) (w:World) (a:Act),Ag n a s.E->Inv s w->runT P lv ops false K l s []->(∀s' w' a',Ag n a' s'.E->Inv s' w'->K s'->Q .normal a' w')->wpOpsIn (FW n) 0 P ops Q l a w
 |[],s,w,a,ha,I,h,hk=>hk s w a ha I h
 |i::l,s,w,a,ha,I,h,hk=>by
  have ot:=Region.noSelect_spec (ops:=ops) (by unfold gI at hn;rw [Bool.and_eq_true] at hn;exact hn.1)
  unfold runT at h
  cases ho:ops[i]? with
  |none=>rw [ho] at h;exact h.elim
  |some o=>
   rw [ho] at h
   simp only at h
   have step:∀(s:TS),Ag n a s.E->Inv s w->Region.wanted o (yielded ops a.tmps)=true->stepT P lv ops false i o s [] (λs' H'=>runT P lv ops false K l s' H')->wpOpsIn (FW n) 0 P ops Q (i::l) a w:=λs ha I hw h=>by
    rw [wpOpsIn_cons]
    cases hc:calm P o with
    |true=>
     obtain ⟨v,Ss,s',H',k1,I',_,e1,uz,KD⟩:=Ax (λcs b=>ot i o cs b ho) ha I (λp hp=>by cases hp) hc h
     have:H'=[]:=by cases H' with |nil=>rfl|cons x l=>cases KD
     subst this
     refine ss (Kv:=λv' w'=>v'=v/\w'=w) ho hw ?_ ?_
     .refine sS.in (nH hn ho) λQ'=>?_
      unfold Oper.wp
      rw [uz.2 w uz.1]
      exact ⟨v,rfl,rfl,rfl⟩
     .rintro v' w' ⟨rfl,rfl⟩
      exact ue hn l s' _ _ (by rw [e1];exact ha.put _ (dU hn ho)) I' k1 hk
    |false=>
     refine ss ho hw (xT (draw:=false) (s:=s) (Cy P n o a w) (λK hK=>hK.in (nH hn ho)) (λK hK=>vR (λcs b=>ot i o cs b ho) (nH hn ho) ha hK) (λK K' Xl hA Q'=>Oper.wpIn_mono (λa' w' ⟨v,e,hv⟩=>⟨v,e,Xl v w' hv⟩) (hA Q')) (λcs b=>ot i o cs b ho) ha I (λp hp=>by cases hp) hc h) λv w' ⟨s',k1,I',_,e1⟩=>?_
     exact ue hn l s' w' _ (by rw [e1];exact ha.put v (dU hn ho)) I' k1 hk
   have skip:∀(s:TS),Ag n a s.E->Inv s w->Region.wanted o (yielded ops a.tmps)=false->runT P lv ops false K l ⟨s.E.put o.dst undef,s.S.put o.dst none,s.L,s.w,s.d⟩ []->wpOpsIn (FW n) 0 P ops Q (i::l) a w:=λs ha I hw h=>by
    rw [wpOpsIn_cons]
    unfold wpOpIn
    simp only [ho,hw]
    exact ⟨λ_ _=>trivial,ue hn l _ w _ (ha.put undef (dU hn ho)) (I.skip o.dst) h hk⟩
   have Wd:(bif calm P o then ([]:HT) else kU ops i [])=[]:=by cases calm P o<;>rfl
   cases hg:o.guard with
   |none=>
    rw [hg] at h
    exact step s ha I (by simp [Region.wanted,hg]) h
   |some jw=>
    obtain ⟨j,want⟩:=jw
    rw [hg] at h
    simp only at h
    cases hd:qn ops j with
    |none=>rw [hd] at h;exact h.elim
    |some d=>
     rw [hd] at h
     simp only at h
     split at h
     .rename_i t ht
      have hy:=nC ha hd ht
      have mP:=xp h
      unfold qV at mP
      cases hb:(t==want) with
      |true=>
       rw [hb,cond_true] at mP
       exact step _ (ha.same ht) (I.same ht) (by simp [Region.wanted,hg,hy];simpa using hb) mP
      |false=>
       rw [hb,cond_false,Wd] at mP
       exact skip _ (ha.same ht) (I.same ht) (by simp [Region.wanted,hg,hy];simpa using hb) mP
     .rename_i vs ht
      rw [Wd] at h
      exact skip s ha I (by simp [Region.wanted,hg,jB ha hd ht]) h
     .exact h.elim
def rf (n:Cx) (K:TS->Prop):Exit->Act->World->Prop
 |.normal,a,w=>∃s,Ag n a s.E/\Inv s w/\K s
 |_,_,_=>False
theorem KM {o:Oper} {i:Nat} {H:HT}:(bif calm P o then nR H else eV ops i (nR H))=nR (bif calm P o then H else kU ops i H):=by
 cases calm P o
 .exact qe H
 .rfl
theorem HI.Yr {o:Oper} {i:Nat} {s s':TS} {w:World} {H:HT} (h:HI s H w) (e:s'.L=s.L):HI s' (bif calm P o then H else kU ops i H) w:=by
 cases calm P o
 .exact h.drop.skip e
 .exact h.skip e
theorem KH (hn:gI n ops=true) {K:TS->Prop} {i:Nat} {o:Oper} {s:TS} {w:World} {H:HT} {a:Act} {Kn:TS->HT->Prop} {listed:Array Bool} {fuel:Nat} (ho:ops[i]? =some o)
  (dP:(bif calm P o then Region.free .any ops listed i&&(Region.ready .any ops listed).contains i else Region.ready .any ops listed==[i])=true) (ha:Ag n a s.E) (I:Inv s w) (hH:HI s H w) (h:ET P lv ops i s H Kn)
  (next:∀a' s' w' H',Ag n a' s'.E->Inv s' w'->HI s' H' w'->Kn s' H'->dL P ops (rf n K) fuel (nR H') (listed.setIfInBounds i true) a' w'):dL P ops (rf n K) (fuel+1) (nR H) listed a w:=by
 have ot:=Region.noSelect_spec (ops:=ops) (by unfold gI at hn;rw [Bool.and_eq_true] at hn;exact hn.1)
 have hQ:∀c a w,rf n K (.panic c) a w=False:=λ_ _ _=>rfl
 have step:∀(s:TS),Ag n a s.E->Inv s w->HI s H w->Region.wanted o (yielded ops a.tmps)=true->stepT P lv ops true i o s H Kn->dL P ops (rf n K) (fuel+1) (nR H) listed a w:=λs ha I hH oU h=>by
  cases hc:calm P o with
  |true=>
   rw [hc,cond_true,Bool.and_eq_true] at dP
   obtain ⟨v,Ss,s',H',k1,I',T4,e1,uz,KD⟩:=Ax (λcs b=>ot i o cs b ho) ha I hH hc h
   refine q8 (v:=v) (Ss:=Ss) ho ot (by simp [hQ]) fuel (nR H) listed a w (Region.free_spec ho dP.1) (by simpa using dP.2) (.inl ⟨oU,λw' Bc=>uz.2 w' Bc⟩) uz.1 hH.held ?_
   rw [cond_true] at KD
   rw [<-KD]
   exact next _ s' w H' (by rw [e1];exact ha.put v (dU hn ho)) I' T4 k1
  |false=>
   rw [hc,cond_false] at dP
   have hr:Region.ready .any ops listed=[i]:=by simpa using dP
   refine λ_=>⟨λh0=>(by rw [hr] at h0;cases h0),λj hj=>?_⟩
   rw [hr] at hj
   obtain rfl:=List.mem_singleton.1 hj
   refine tS ho oU (xT (draw:=true) (s:=s) (sS P o a w) (λK hK=>hK) (λK hK=>ir (λcs b=>ot j o cs b ho) ha hK) (λK K' Xl hA Q'=>Oper.wp_mono (λa' w' ⟨v,e,hv⟩=>⟨v,e,Xl v w' hv⟩) (hA Q')) (λcs b=>ot j o cs b ho) ha I hH hc h) λv w' ⟨s',k1,I',T4,e1⟩=>?_
   rw [qe]
   exact ⟨T4.held,next _ s' w' _ (by rw [e1];exact ha.put v (dU hn ho)) I' T4 k1⟩
 have skip:∀(s:TS),Ag n a s.E->Inv s w->HI s H w->Region.wanted o (yielded ops a.tmps)=false->Kn ⟨s.E.put o.dst undef,s.S.put o.dst none,s.L,s.w,s.d⟩ (bif calm P o then H else kU ops i H)->dL P ops (rf n K) (fuel+1) (nR H) listed a w:=λs ha I hH hw h=>by
  refine kG hn ho dP hQ hH.held hw ?_
  rw [KM]
  exact next _ _ w _ (ha.put undef (dU hn ho)) (I.skip o.dst) (hH.Yr rfl) h
 unfold ET at h
 rw [ho] at h
 simp only at h
 cases hg:o.guard with
 |none=>
  rw [hg] at h
  exact step s ha I hH (by simp [Region.wanted,hg]) h
 |some jw=>
  obtain ⟨j,want⟩:=jw
  rw [hg] at h
  simp only at h
  cases hd:qn ops j with
  |none=>rw [hd] at h;exact h.elim
  |some d=>
   rw [hd] at h
   simp only at h
   split at h
   .rename_i t ht
    have hy:=nC ha hd ht
    have mP:=xp h
    unfold qV at mP
    cases hb:(t==want) with
    |true=>
     rw [hb,cond_true] at mP
     exact step _ (ha.same ht) (I.same ht) (hH.skip rfl) (by simp [Region.wanted,hg,hy];simpa using hb) mP
    |false=>
     rw [hb,cond_false] at mP
     exact skip _ (ha.same ht) (I.same ht) (hH.skip rfl) (by simp [Region.wanted,hg,hy];simpa using hb) mP
   .rename_i vs ht
    exact skip s ha I hH (by simp [Region.wanted,hg,jB ha hd ht]) h
   .exact h.elim
theorem Nl (hn:gI n ops=true) {K:TS->Prop} {i:Nat} {o:Oper} {s:TS} {w:World} {H:HT} {a:Act} {Kn:TS->HT->Prop} {listed:Array Bool} {fuel:Nat} (ho:ops[i]? =some o)
  (hc:calm P o=false) (ha:Ag n a s.E) (I:Inv s w) (hH:HI s H w) (h:ET P lv ops i s H Kn)
  (next:∀a' s' w' H',Ag n a' s'.E->Inv s' w'->HI s' H' w'->Kn s' H'->dL P ops (rf n K) fuel (nR H') (listed.setIfInBounds i true) a' w'):
  wpOp P ops (rf n K) i (λa' w'=>(∀p∈eV ops i (nR H),p.2 w')/\dL P ops (rf n K) fuel (eV ops i (nR H)) (listed.setIfInBounds i true) a' w') a w:=by
 have ot:=Region.noSelect_spec (ops:=ops) (by unfold gI at hn;rw [Bool.and_eq_true] at hn;exact hn.1)
 have step:∀(s:TS),Ag n a s.E->Inv s w->HI s H w->Region.wanted o (yielded ops a.tmps)=true->stepT P lv ops true i o s H Kn->wpOp P ops (rf n K) i (λa' w'=>(∀p∈eV ops i (nR H),p.2 w')/\dL P ops (rf n K) fuel (eV ops i (nR H)) (listed.setIfInBounds i true) a' w') a w:=λs ha I hH oU h=>by
  refine tS ho oU (xT (draw:=true) (s:=s) (sS P o a w) (λK hK=>hK) (λK hK=>ir (λcs b=>ot i o cs b ho) ha hK) (λK K' Xl hA Q'=>Oper.wp_mono (λa' w' ⟨v,e,hv⟩=>⟨v,e,Xl v w' hv⟩) (hA Q')) (λcs b=>ot i o cs b ho) ha I hH hc h) λv w' ⟨s',k1,I',T4,e1⟩=>?_
  rw [qe]
  exact ⟨T4.held,next _ s' w' _ (by rw [e1];exact ha.put v (dU hn ho)) I' T4 k1⟩
 have skip:∀(s:TS),Ag n a s.E->Inv s w->HI s H w->Region.wanted o (yielded ops a.tmps)=false->Kn ⟨s.E.put o.dst undef,s.S.put o.dst none,s.L,s.w,s.d⟩ (bif calm P o then H else kU ops i H)->wpOp P ops (rf n K) i (λa' w'=>(∀p∈eV ops i (nR H),p.2 w')/\dL P ops (rf n K) fuel (eV ops i (nR H)) (listed.setIfInBounds i true) a' w') a w:=λs ha I hH hw h=>by
  refine DJ ho hH.held hw ?_
  rw [hc,cond_false] at h
  rw [qe]
  exact next _ _ w _ (ha.put undef (dU hn ho)) (I.skip o.dst) (hH.drop.skip rfl) h
 unfold ET at h
 rw [ho] at h
 simp only at h
 cases hg:o.guard with
 |none=>
  rw [hg] at h
  exact step s ha I hH (by simp [Region.wanted,hg]) h
 |some jw=>
  obtain ⟨j,want⟩:=jw
  rw [hg] at h
  simp only at h
  cases hd:qn ops j with
  |none=>rw [hd] at h;exact h.elim
  |some d=>
   rw [hd] at h
   simp only at h
   split at h
   .rename_i t ht
    have hy:=nC ha hd ht
    have mP:=xp h
    unfold qV at mP
    cases hb:(t==want) with
    |true=>
     rw [hb,cond_true] at mP
     exact step _ (ha.same ht) (I.same ht) (hH.skip rfl) (by simp [Region.wanted,hg,hy];simpa using hb) mP
    |false=>
     rw [hb,cond_false] at mP
     exact skip _ (ha.same ht) (I.same ht) (hH.skip rfl) (by simp [Region.wanted,hg,hy];simpa using hb) mP
   .rename_i vs ht
    exact skip s ha I hH (by simp [Region.wanted,hg,jB ha hd ht]) h
   .exact h.elim
theorem rG (hn:gI n ops=true) {K:TS->Prop}:∀(t:Tr) (alt:Bool) (listed:Array Bool) (s:TS) (w:World) (H:HT) (a:Act) (m:Nat),ky P ops t alt listed=true->Ag n a s.E->Inv s w->HI s H w->TM P lv ops K t s H->
  (alt=false->t.len=m->dL P ops (rf n K) m (nR H) listed a w)/\
  (alt=true->t.len=m+1->∀i∈t.pJ,wpOp P ops (rf n K) i (λa' w'=>(∀p∈eV ops i (nR H),p.2 w')/\dL P ops (rf n K) m (eV ops i (nR H)) (listed.setIfInBounds i true) a' w') a w)
 |.nil,alt,listed,s,w,H,a,m,dP,ha,I,hH,h=>by
  unfold ky at dP
  rw [Bool.and_eq_true] at dP
  refine ⟨λ_ hm=>?_,λe=>?_⟩
  .subst hm
   exact λ_=>⟨by simpa using dP.2,s,ha,I,h⟩
  .subst e;simp at dP
 |.one i t,alt,listed,s,w,H,a,m,dP,ha,I,hH,h=>by
  unfold ky at dP
  rw [Bool.and_eq_true] at dP
  obtain ⟨dP,we⟩:=dP
  cases ho:ops[i]? with
  |none=>rw [ho] at dP;cases dP
  |some o=>
   rw [ho] at dP
   simp only at dP
   unfold TM at h
   refine ⟨λe hm=>?_,λe hm j hj=>?_⟩
   .subst e hm
    exact KH hn ho dP ha I hH h λa' s' w' H' hA hI PZ hR=>(rG hn t false _ s' w' H' a' _ we hA hI PZ hR).1 rfl rfl
   .subst e
    rw [cond_true] at dP
    obtain rfl:=List.mem_singleton.1 hj
    have KI:t.len=m:=by simpa [Tr.len] using hm
    exact Nl hn ho (by simpa using dP) ha I hH h λa' s' w' H' hA hI PZ hR=>(rG hn t false _ s' w' H' a' _ we hA hI PZ hR).1 rfl KI
 |.fork x y,alt,listed,s,w,H,a,m,dP,ha,I,hH,h=>by
  unfold ky at dP
  simp only [Bool.and_eq_true] at dP
  obtain ⟨hr,hl,hx,hy⟩:=dP
  rw [Nat.beq_eq] at hl
  unfold TM at h
  have both:∀k,x.len=k+1->∀i∈(Tr.fork x y).pJ,wpOp P ops (rf n K) i (λa' w'=>(∀p∈eV ops i (nR H),p.2 w')/\dL P ops (rf n K) k (eV ops i (nR H)) (listed.setIfInBounds i true) a' w') a w:=λk hk i hi=>by
   rcases List.mem_append.1 hi with hi|hi
   .exact (rG hn x true listed s w H a k hx ha I hH h.1).2 rfl hk i hi
   .exact (rG hn y true listed s w H a k hy ha I hH h.2).2 rfl (hl▸hk) i hi
  refine ⟨λe hm=>?_,λ_ hm=>both m hm⟩
  subst e
  obtain ⟨k,hk⟩:=AH x listed hx
  have KI:m=k+1:=by rw [<-hm,<-hk];rfl
  subst KI
  have XL:Region.ready .any ops listed=(Tr.fork x y).pJ:=by simpa using hr
  have ie:(Tr.fork x y).pJ≠[]:=by have:=vn x listed hx;simp [Tr.pJ,this]
  exact λ_=>⟨λh0=>absurd (XL▸h0) ie,λi hi=>both k hk i (XL▸hi)⟩
theorem Oc {c:Code} {a:Act} {s:TS} {w:World} {K:TS->Prop} (hc:Il n c=true) (ha:Ag n a s.E) (I:Inv s w) (h:runT P lv (Code.ops c) false K (List.range (Code.ops c).size) s []):AW P n c (rf n K) a w:=by
 unfold Il at hc
 split at hc
 .rename_i id ops d
  rw [Bool.and_eq_true] at hc
  obtain ⟨h1,h2⟩:=hc
  have h3:d=false:=by simpa using h1
  subst h3
  exact wpIn_region (ue h2 _ s w a ha I h λs' w' a' h1 h2 h3=>⟨s',h1,h2,h3⟩)
 .cases hc
theorem Inv.dr {s:TS} {w:World} {K:TS->Prop} (I:Inv s w) (h:W5 s K):∃s',K s'/\Inv s' w.drew/\s'.E=s.E:=by
 have lc:LC w.drew s.L:=I.lc.fr (M:=λ_=>False) (Fr.drew _ _) (λ_ _ h=>h)
 unfold W5 at h
 split at h
 .rename_i hL hd
  have hr:=I.rel
  rw [hd] at hr
  have:w=s.w:=by simpa using hr
  exact ⟨_,h,⟨lc,by simp [this],I.sl⟩,rfl⟩
 .exact ⟨_,h,⟨lc,by simpa using I.fr.AV (Fr.drew _ _),I.sl⟩,rfl⟩
theorem Ob {c:Code} {a:Act} {s:TS} {w:World} {K:TS->Prop} {t:Tr} (hc:Ch P n c t=true) (ha:Ag n a s.E) (I:Inv s w) (h:W5 s λs=>TM P lv (Code.ops c) K t s []):AW P n c (rf n K) a w:=by
 unfold Ch at hc
 split at hc
 .rename_i id ops d
  simp only [Bool.and_eq_true] at hc
  obtain ⟨rfl,hm,hn,hl,h5⟩:=hc
  rw [Nat.beq_eq] at h5
  obtain ⟨s',hk,I',e⟩:=I.dr h
  have h1:=(rG hn t false _ s' w.drew [] a _ hl (by rw [e];exact ha) I' (λp hp=>(by cases hp)) hk).1 rfl h5
  have h2:=om _ [] _ _ _ (Down.zero _ _) h1
  refine wpIn_region_draw λt=>?_
  refine qy hn (λ⟨_,_,h⟩=>h) _ _ _ ?_
  simp only [Region.schedule,hm,Bool.true_or,if_true]
  exact wpAny_sound ops.size t _ a _ h2
 .cases hc
end
end
abbrev KT:=Exit->TS->Prop
structure OW where
 ord:Nat->Option Tr
 pt:List Bool->Option (TS->Prop)
 lv:List Nat
def Tb (tb:OW) (q:List Bool) (f:TS->Prop) (s:TS):Prop:=match tb.pt q with
 |some F=>yy s F
 |none=>f s
def Yn (tb:OW) (q:List Bool) (f:TS->Prop) (K:KT):KT:=λe s=>match e with
 |.normal=>Tb tb q f s
 |e=>K e s
def Pn (id:Nat) (K:KT):KT:=λe s=>match e with
 |.exit Zd=>if Zd=id then K .normal s else K (.exit Zd) s
 |e=>K e s
def EC (P:Program) (n:Cx) (tb:OW):Code->List Bool->KT->TS->Prop
 |.skip,_,K,s=>K .normal s
 |.region id ops true,_,K,s=>match tb.ord id with
  |some t=>hU (Ch P n (.region id ops true) t) (W5 s λs=>TM P tb.lv ops (K .normal) t s [])
  |none=>False
 |.region id ops false,_,K,s=>hU (Il n (.region id ops false)) (runT P tb.lv ops false (K .normal) (List.range ops.size) s [])
 |.seq a b,q,K,s=>EC P n tb a (false::q) (Yn tb (true::q) (EC P n tb b (true::q) K) K) s
 |.cond o a b,q,K,s=>qk (s.E.val o) (Tb tb (false::q) (EC P n tb a (false::q) K) s) (Tb tb (true::q) (EC P n tb b (true::q) K) s)
 |.block id a,q,K,s=>EC P n tb a (false::q) (Pn id K) s
 |.loop _,q,_,s=>Tb tb q (λ_=>False) s
 |.exit id,_,K,s=>K (.exit id) s
 |.ret,_,K,s=>K .ret s
 |_,_,_,_=>False
section
variable {P:Program} {n:Cx} {tb:OW}
def pB (P:Program) (n:Cx) (c0:Code) (Q0:Exit->Act->World->Prop):List Bool->Code×(Exit->Act->World->Prop)
 |[]=>(c0,Q0)
 |b::q=>match pB P n c0 Q0 q,b with
  |(.seq x y,Q),false=>(x,Exit.then (AW P n y Q) Q)
  |(.seq _ y,Q),true=>(y,Q)
  |(.cond _ x _,Q),false=>(x,Q)
  |(.cond _ _ y,Q),true=>(y,Q)
  |(.block id x,Q),_=>(x,Exit.inBlock id Q)
  |(.loop x,Q),_=>(x,Exit.then (sT P n x Q) Q)
  |(_,Q),_=>(.skip,Q)
def VZ (P:Program) (n:Cx) (p:Code×(Exit->Act->World->Prop)) (a:Act) (w:World):Prop:=match p with
 |(.loop x,Q)=>sT P n x Q a w
 |(c,Q)=>AW P n c Q a w
theorem VZ.wp {c:Code} {Q:Exit->Act->World->Prop} {a:Act} {w:World} (h:VZ P n (c,Q) a w):AW P n c Q a w:=by
 unfold VZ at h
 split at h
 .rename_i x Q' e
  cases e
  exact wQ h
 .rename_i c' Q' _ e
  cases e
  exact h
def KQ (n:Cx) (K:KT) (Q:Exit->Act->World->Prop):Prop:=∀e s w a,Ag n a s.E->Inv s w->K e s->Q e a w
def Bs (P:Program) (n:Cx) (tb:OW) (c0:Code) (Q0:Exit->Act->World->Prop):Prop:=∀q F,tb.pt q=some F->∀s w a,Ag n a s.E->Inv s w->F s->VZ P n (pB P n c0 Q0 q) a w
variable {c0:Code} {Q0:Exit->Act->World->Prop}
theorem rz (hT:Bs P n tb c0 Q0) {q:List Bool} {c:Code} {Q:Exit->Act->World->Prop} (hp:pB P n c0 Q0 q=(c,Q)) {f:TS->Prop} {s:TS} {w:World} {a:Act} (ha:Ag n a s.E) (I:Inv s w) (hf:f s->AW P n c Q a w) (h:Tb tb q f s):AW P n c Q a w:=by
 unfold Tb at h
 split at h
 .rename_i F hF
  obtain ⟨I',h'⟩:=I.yy h
  have:=hT q F hF ⟨s.E,s.S,s.L,w,false⟩ w a ha I' h'
  rw [hp] at this
  exact this.wp
 .exact hf h
theorem wE {c:Code} {K:TS->Prop} {Q:Exit->Act->World->Prop} {a:Act} {w:World} (h:AW P n c (rf n K) a w) (hk:∀s w a,Ag n a s.E->Inv s w->K s->Q .normal a w):AW P n c Q a w:=
 wpIn_mono h λe a' w' he=>by
  cases e with
  |normal=>obtain ⟨s',hA,hI,hK⟩:=he;exact hk s' w' a' hA hI hK
  |_=>exact he.elim
theorem lZ (hT:Bs P n tb c0 Q0):∀(c:Code) (q:List Bool) (K:KT) (Q:Exit->Act->World->Prop) (s:TS) (w:World) (a:Act),pB P n c0 Q0 q=(c,Q)->KQ n K Q->Ag n a s.E->Inv s w->EC P n tb c q K s->AW P n c Q a w
 |.skip,q,K,Q,s,w,a,hp,hK,ha,I,h=>wpIn_skip (hK _ _ _ _ ha I h)
 |.region id ops true,q,K,Q,s,w,a,hp,hK,ha,I,h=>by
  unfold EC at h
  split at h
  .obtain ⟨h1,h2⟩:=bX h
   exact wE (Ob (c:=.region id ops true) h1 ha I h2) λs w a h1 h2 h3=>hK _ _ _ _ h1 h2 h3
  .exact h.elim
 |.region id ops false,q,K,Q,s,w,a,hp,hK,ha,I,h=>by
  unfold EC at h
  obtain ⟨h1,h2⟩:=bX h
  exact wE (Oc (c:=.region id ops false) h1 ha I h2) λs w a h1 h2 h3=>hK _ _ _ _ h1 h2 h3
 |.seq x y,q,K,Q,s,w,a,hp,hK,ha,I,h=>by
  unfold EC at h
  have p1:pB P n c0 Q0 (false::q)=(x,Exit.then (AW P n y Q) Q):=by unfold pB;rw [hp]
  have p2:pB P n c0 Q0 (true::q)=(y,Q):=by unfold pB;rw [hp]
  refine wpIn_seq (lZ hT x (false::q) _ _ s w a p1 (λe s' w' a' yi I' hk=>?_) ha I h)
  cases e with
  |normal=>exact rz hT p2 yi I' (λh'=>lZ hT y (true::q) K Q s' w' a' p2 hK yi I' h') hk
  |_=>exact hK _ _ _ _ yi I' hk
 |.cond o x y,q,K,Q,s,w,a,hp,hK,ha,I,h=>by
  unfold EC at h
  have p1:pB P n c0 Q0 (false::q)=(x,Q):=by unfold pB;rw [hp]
  have p2:pB P n c0 Q0 (true::q)=(y,Q):=by unfold pB;rw [hp]
  unfold qk at h
  split at h
  .rename_i t ht
   refine wpIn_cond_split (ha.val ht) (λe=>?_) (λe=>?_)
   .subst e
    exact rz hT p1 ha I (λh'=>lZ hT x (false::q) K Q s w a p1 hK ha I h') h
   .subst e
    exact rz hT p2 ha I (λh'=>lZ hT y (true::q) K Q s w a p2 hK ha I h') h
  .exact h.elim
 |.block id x,q,K,Q,s,w,a,hp,hK,ha,I,h=>by
  unfold EC at h
  have p1:pB P n c0 Q0 (false::q)=(x,Exit.inBlock id Q):=by unfold pB;rw [hp]
  refine wpIn_block (lZ hT x (false::q) _ _ s w a p1 (λe s' w' a' yi I' hk=>?_) ha I h)
  cases e with
  |exit Zd=>
   simp only [Pn] at hk
   simp only [Exit.inBlock]
   split at hk
   .rename_i e;rw [if_pos e];exact hK _ _ _ _ yi I' hk
   .rename_i e;rw [if_neg e];exact hK _ _ _ _ yi I' hk
  |_=>exact hK _ _ _ _ yi I' hk
 |.loop x,q,K,Q,s,w,a,hp,hK,ha,I,h=>by
  unfold EC at h
  exact rz hT hp ha I (λh'=>h'.elim) h
 |.exit id,q,K,Q,s,w,a,hp,hK,ha,I,h=>wpIn_exit (hK _ _ _ _ ha I h)
 |.ret,q,K,Q,s,w,a,hp,hK,ha,I,h=>wpIn_ret (hK _ _ _ _ ha I h)
 |.rangeFunc ..,_,_,_,_,_,_,_,_,_,_,h=>h.elim
 |.scope _,_,_,_,_,_,_,_,_,_,_,h=>h.elim
 |.label _,_,_,_,_,_,_,_,_,_,_,h=>h.elim
 |.goto _,_,_,_,_,_,_,_,_,_,_,h=>h.elim
 |.refuse _,_,_,_,_,_,_,_,_,_,_,h=>h.elim
def Jq (tb:OW) (q:List Bool) (K:KT):KT:=λe s=>match e with
 |.normal=>Tb tb q (λ_=>False) s
 |e=>K e s
def Qw (P:Program) (n:Cx) (tb:OW) (c0:Code) (K0:KT):List Bool->Code×KT
 |[]=>(c0,K0)
 |b::q=>match Qw P n tb c0 K0 q,b with
  |(.seq x y,K),false=>(x,Yn tb (true::q) (EC P n tb y (true::q) K) K)
  |(.seq _ y,K),true=>(y,K)
  |(.cond _ x _,K),false=>(x,K)
  |(.cond _ _ y,K),true=>(y,K)
  |(.block id x,K),_=>(x,Pn id K)
  |(.loop x,K),_=>(x,Jq tb q K)
  |(_,K),_=>(.skip,K)
theorem xC (hT:Bs P n tb c0 Q0) {K0:KT} (h0:KQ n K0 Q0):∀q:List Bool,(Qw P n tb c0 K0 q).1=(pB P n c0 Q0 q).1/\KQ n (Qw P n tb c0 K0 q).2 (pB P n c0 Q0 q).2
 |[]=>⟨rfl,h0⟩
 |b::q=>by
  obtain ⟨h1,h2⟩:=xC hT h0 q
  unfold Qw pB
  generalize hp:pB P n c0 Q0 q=p at h1 h2
  generalize Qw P n tb c0 K0 q=k at h1 h2
  obtain ⟨c,Q⟩:=p
  obtain ⟨c',K⟩:=k
  simp only at h1 h2
  subst h1
  cases c' with
  |seq x y=>
   cases b with
   |false=>
    refine ⟨rfl,λe s w a ha I hk=>?_⟩
    cases e with
    |normal=>
     have p2:pB P n c0 Q0 (true::q)=(y,Q):=by unfold pB;rw [hp]
     exact rz hT p2 ha I (λh'=>lZ hT y (true::q) K Q s w a p2 h2 ha I h') hk
    |_=>exact h2 _ _ _ _ ha I hk
   |true=>exact ⟨rfl,h2⟩
  |cond o x y=>cases b<;>exact ⟨rfl,h2⟩
  |block id x=>
   cases b<;>(
    refine ⟨rfl,λe s w a ha I hk=>?_⟩
    cases e with
    |exit Zd=>
     simp only [Pn] at hk
     simp only [Exit.inBlock]
     split at hk
     .rename_i e;rw [if_pos e];exact h2 _ _ _ _ ha I hk
     .rename_i e;rw [if_neg e];exact h2 _ _ _ _ ha I hk
    |_=>exact h2 _ _ _ _ ha I hk)
  |loop x=>
   cases b<;>(
    refine ⟨rfl,λe s w a ha I hk=>?_⟩
    cases e with
    |normal=>
     simp only [Jq,Tb] at hk
     split at hk
     .rename_i F hF
      obtain ⟨I',h'⟩:=I.yy hk
      have:=hT q F hF ⟨s.E,s.S,s.L,w,false⟩ w a ha I' h'
      rw [hp] at this
      exact this
     .exact hk.elim
    |_=>exact h2 _ _ _ _ ha I hk)
  |_=>cases b<;>exact ⟨rfl,h2⟩
def Hk (P:Program) (n:Cx) (tb:OW) (c0:Code) (K0:KT) (q:List Bool) (s:TS):Prop:=match Qw P n tb c0 K0 q with
 |(.loop x,K)=>EC P n tb x (false::q) (Jq tb q K) s
 |(c,K)=>EC P n tb c q K s
theorem CW (hT:Bs P n tb c0 Q0) {K0:KT} (h0:KQ n K0 Q0) {q:List Bool} {s:TS} {w:World} {a:Act} (ha:Ag n a s.E) (I:Inv s w) (h:Hk P n tb c0 K0 q s):VZ P n (pB P n c0 Q0 q) a w:=by
 obtain ⟨h1,h2⟩:=xC hT h0 q
 have h3:=xC hT h0 (false::q)
 unfold Hk at h
 generalize hp:pB P n c0 Q0 q=p at h1 h2
 generalize hk:Qw P n tb c0 K0 q=k at h h1 h2
 obtain ⟨c,Q⟩:=p
 obtain ⟨c',K⟩:=k
 simp only at h1 h2
 subst h1
 cases c' with
 |loop x=>
  have p1:pB P n c0 Q0 (false::q)=(x,Exit.then (sT P n x Q) Q):=by unfold pB;rw [hp]
  have k1:Qw P n tb c0 K0 (false::q)=(x,Jq tb q K):=by unfold Qw;rw [hk]
  rw [p1,k1] at h3
  exact yk (lZ hT x (false::q) _ _ s w a p1 h3.2 ha I h)
 |_=>exact lZ hT _ q K Q s w a hp h2 ha I h
end
section
variable {P:Program}
def DC (P:Program) (s:TS):List ResultVar->(List Value->Prop)->Prop
 |[],K=>K []
 |.tmp t::l,K=>match s.E.get? t with
  |some v=>DC P s l λvs=>K (v::vs)
  |none=>False
 |.cell x T::l,K=>match s.S.get? x with
  |some (i,j)=>match s.L[i]? with
   |some X=>ldT P T X.2.1 j λv=>DC P s l λvs=>K (v::vs)
   |none=>False
  |none=>match s.E.get? x with
   |some (.pointer (some p))=>Bd P T p s.w λv _=>DC P s l λvs=>K (v::vs)
   |_=>False
def Od (P:Program) (fn:Func) (R:aD):KT:=λe s=>match e with
 |.normal|.ret=>yy s λs=>DC P s fn.results.toList λvs=>R (.returned (N2 vs)) s.w
 |_=>False
theorem vi {n:Cx} {a:Act} {s:TS} {w:World} (ha:Ag n a s.E) (I:Inv s w) (hw:s.w=w):∀{l:List ResultVar} {K:List Value->Prop},DC P s l K->
  ∃vs,(l.mapM (yu a.tmps)).run P w=.ok vs w/\K vs
 |[],K,h=>⟨[],by simp,h⟩
 |.tmp t::l,K,h=>by
  unfold DC at h
  split at h
  .rename_i v hv
   obtain ⟨vs,hr,hk⟩:=vi ha I hw h
   refine ⟨v::vs,?_,hk⟩
   have hg:=ha.get t v hv
   simp [List.mapM_cons,yu,hr,hg]
  .exact h.elim
 |.cell x T::l,K,h=>by
  have fin:∀(p:Addr) (v:Value),s.E.get? x=some (.pointer (some p))->(loadVar T p).run P w=.ok v w->(DC P s l λvs=>K (v::vs))->∃vs,((ResultVar.cell x T::l).mapM (yu a.tmps)).run P w=.ok vs w/\K vs:=λp v hp hv h=>by
   obtain ⟨vs,hr,hk⟩:=vi ha I hw h
   refine ⟨v::vs,?_,hk⟩
   have hg:=ha.get x _ hp
   simp [List.mapM_cons,yu,hr,hg,asAddr,hv]
  unfold DC at h
  split at h
  .rename_i i j hx
   obtain ⟨X,h1,h2⟩:=I.sl x i j hx
   rw [h1] at h
   obtain ⟨v,hk,hv⟩:=B8 (b:=X.1) (ty:=X.2.2) h
   exact fin _ v h2 (hv w (I.lc.own i X h1)) hk
  .split at h
   .rename_i p hp
    rw [hw] at h
    obtain ⟨v,S,h,wg,LK⟩:=u7 h
    exact fin p v hp (LK w wg) h
   .exact h.elim
theorem Ak {m:Nat} {fn:Func} {R:aD}:KQ (cx m) (Od P fn R) (bodyPost P fn R):=by
 intro e s w a ha I h
 have go:(yy s λs=>DC P s fn.results.toList λvs=>R (.returned (N2 vs)) s.w)->a.defers=[]/\∃v,(results fn a.tmps).run P w=.ok v w/\R (.returned v) w:=λh=>by
  obtain ⟨I',h'⟩:=I.yy h
  obtain ⟨vs,hr,hk⟩:=vi (s:=⟨s.E,s.S,s.L,w,false⟩) ha I' rfl h'
  refine ⟨ha.defers,_,?_,hk⟩
  rw [Ai,<-Array.toArray_toList (xs:=fn.results),List.mapM_toArray]
  simp only [Sem.run_bind,Sem.run_map,hr,Result.andThen_ok,Sem.run_pure]
  congr 1
  cases vs with
  |nil=>rfl
  |cons v vs=>cases vs<;>rfl
 unfold Od at h
 cases e with
 |normal=>exact go h
 |ret=>exact go h
 |_=>exact h.elim
theorem CU {f:FuncId} {fn:Func} {c:Code} {args:List Value} {w:World} {R:aD} {tb:OW} (hf:P.funcs[f]? =some fn) (hb:fn.body=some c) (mH:Nat.ble args.length fn.ntmps=true)
  (hT:Bs P (cx fn.ntmps) tb c (bodyPost P fn R)) (h:EC P (cx fn.ntmps) tb c [] (Od P fn R) ⟨sy 0 args,[],[],w,false⟩):Calls P f args.toArray w R:=
 pN hf hb mH λa ha=>lZ hT c [] _ _ _ w a rfl Ak ha ⟨LC.nil _,by simp,λt i j h=>by cases h⟩ h
end
inductive Sh
 |i (k:IntKind)|b|st|s|p|r|m|v|f
def Sh.T:Sh->Type
 |.i _=>Int
 |.b=>Bool
 |.st=>ByteArray
 |.s=>Sl
 |.p=>Option Addr
 |.r=>Addr
 |.m=>Option Nat
 |.v=>Value
 |.f=>Fv
def Sh.val:(h:Sh)->h.T->Value
 |.i k,x=>.int k x
 |.b,x=>.bool x
 |.st,x=>.string x
 |.s,x=>Sl.v x
 |.p,x=>.pointer x
 |.r,x=>.pointer (some x)
 |.m,x=>.map x
 |.v,x=>x
 |.f,x=>Fv.v x
def Sh.rd (h:Sh) (v:Value) (K:h.T->Prop):Prop:=match h,v,K with
 |.i k,.int k' x,K=>hU (k'==k) (K x)
 |.b,.bool x,K=>K x
 |.st,.string x,K=>K x
 |.s,.slice a n c,K=>K ⟨a,n,c⟩
 |.p,.pointer x,K=>K x
 |.r,.pointer (some x),K=>K x
 |.m,.map x,K=>K x
 |.v,x,K=>K x
 |.f,.func (.func n) bs cs,K=>K ⟨n,bs,cs⟩
 |_,_,_=>False
theorem Sh.QZ {h:Sh} {v:Value} {K:h.T->Prop} (hr:h.rd v K):∃x,v=h.val x/\K x:=by
 unfold Sh.rd at hr
 split at hr<;>first |exact hr.elim|skip
 .obtain ⟨h1,h2⟩:=bX hr
  have:=eq_of_beq h1
  subst this
  exact ⟨_,rfl,h2⟩
 all_goals exact ⟨_,rfl,hr⟩
inductive Tk
 |o (h:Sh)|a (k:Nat)|t (k:Nat)|g (n j k:Nat)
abbrev Tk.I:Tk:=.o (.i .i64)
abbrev Tk.U:Tk:=.o (.i .u64)
abbrev Tk.Y:Tk:=.o (.i .u8)
abbrev Tk.i (k:IntKind):Tk:=.o (.i k)
abbrev Tk.b:Tk:=.o .b
abbrev Tk.st:Tk:=.o .st
abbrev Tk.s:Tk:=.o .s
abbrev Tk.p:Tk:=.o .p
abbrev Tk.r:Tk:=.o .r
abbrev Tk.m:Tk:=.o .m
abbrev Tk.v:Tk:=.o .v
abbrev Tk.f:Tk:=.o .f
def AX:List Tk->Type->Type
 |[],X=>X
 |.o h::l,X=>h.T->AX l X
 |.a _::l,X=>AX l X
 |.t _::l,X=>AX l X
 |.g _ _ _::l,X=>AX l X
inductive Sp
 |v (l:List Tk)
 |l (l:List Tk) (T:TypeId)
def GU:List (Nat×Sp)->Type
 |[]=>World->aD->Prop
 |(_,.v ts)::l=>AX ts (GU l)
 |(_,.l ts _)::l=>Nat->AX ts (GU l)
def O6:(ts:List Tk)->(X:Type)->List Value->AX ts X->(X->Prop)->Prop
 |[],_,[],F,K=>K F
 |.o h::ts,X,v::vs,F,K=>h.rd v λx=>O6 ts X vs (F x) K
 |.a k::ts,X,.agg a::vs,F,K=>hU (Nat.beq a.toList.length k) (O6 ts X (a.toList++vs) F K)
 |.t k::ts,X,.tuple a::vs,F,K=>hU (Nat.beq a.toList.length k) (O6 ts X (a.toList++vs) F K)
 |.g n j k::ts,X,.func (.func m) bs cs::vs,F,K=>hU (Nat.beq n m&&Nat.beq bs.toList.length j&&Nat.beq cs.toList.length k) (O6 ts X (bs.toList++(cs.toList++vs)) F K)
 |_,_,_,_,_=>False
def QJ:(ts:List Tk)->(X:Type)->(List Value->X)->AX ts X
 |[],_,K=>K []
 |.o h::ts,X,K=>λx=>QJ ts X λvs=>K (h.val x::vs)
 |.a k::ts,X,K=>QJ ts X λvs=>K (.agg (vs.take k).toArray::vs.drop k)
 |.t k::ts,X,K=>QJ ts X λvs=>K (.tuple (vs.take k).toArray::vs.drop k)
 |.g n j k::ts,X,K=>QJ ts X λvs=>K (.func (.func n) (vs.take j).toArray ((vs.drop j).take k).toArray::(vs.drop j).drop k)
theorem JI:∀{ts:List Tk} {X:Type} {vs:List Value} {K:List Value->X} {K2:X->Prop},O6 ts X vs (QJ ts X K) K2->K2 (K vs):=by
 intro ts
 induction ts with
 |nil=>
  intro X vs K K2 hr
  cases vs with
  |nil=>exact hr
  |cons _ _=>exact hr.elim
 |cons t ts ih=>
  intro X vs K K2 hr
  cases t with
  |o h=>
   cases vs with
   |nil=>exact hr.elim
   |cons v vs=>
    obtain ⟨x,rfl,h'⟩:=Sh.QZ hr
    exact ih (K:=λvs=>K (h.val x::vs)) h'
  |a k=>
   cases vs with
   |nil=>exact hr.elim
   |cons v vs=>
    cases v with
    |agg a=>
     obtain ⟨h1,h2⟩:=bX (show hU (Nat.beq a.toList.length k) (O6 ts X (a.toList++vs) _ K2) from hr)
     rw [Nat.beq_eq] at h1
     have:=ih (K:=λvs=>K (.agg (vs.take k).toArray::vs.drop k)) h2
     rw [List.take_left' h1,List.drop_left' h1] at this
     exact this
    |_=>exact hr.elim
  |t k=>
   cases vs with
   |nil=>exact hr.elim
   |cons v vs=>
    cases v with
    |tuple a=>
     obtain ⟨h1,h2⟩:=bX (show hU (Nat.beq a.toList.length k) (O6 ts X (a.toList++vs) _ K2) from hr)
     rw [Nat.beq_eq] at h1
     have:=ih (K:=λvs=>K (.tuple (vs.take k).toArray::vs.drop k)) h2
     rw [List.take_left' h1,List.drop_left' h1] at this
     exact this
    |_=>exact hr.elim
  |g n j k=>
   cases vs with
   |nil=>exact hr.elim
   |cons v vs=>
    cases v with
    |func fr bs cs=>
     cases fr with
     |func m=>
      obtain ⟨h1,h2⟩:=bX (show hU (Nat.beq n m&&Nat.beq bs.toList.length j&&Nat.beq cs.toList.length k) (O6 ts X (bs.toList++(cs.toList++vs)) _ K2) from hr)
      rw [Bool.and_eq_true,Bool.and_eq_true,Nat.beq_eq,Nat.beq_eq,Nat.beq_eq] at h1
      obtain ⟨⟨h3,h4⟩,h5⟩:=h1
      have:=ih (K:=λvs=>K (.func (.func n) (vs.take j).toArray ((vs.drop j).take k).toArray::(vs.drop j).drop k)) h2
      rw [List.take_left' h4,List.drop_left' h4,List.take_left' h5,List.drop_left' h5,h3] at this
      exact this
     |_=>exact hr.elim
    |_=>exact hr.elim
def cG:(l:List (Nat×Sp))->Nat->(Env->Sv->Lv->World->aD->Prop)->GU l
 |[],_,K=>K [] [] []
 |(t,.v ts)::l,n,K=>QJ ts (GU l) λvs=>cG l n λE S L=>K ((t,vs.headD undef)::E) S L
 |(t,.l ts T)::l,n,K=>λb=>QJ ts (GU l) λvs=>cG l (n+1) λE S L=>K ((t,.pointer (some (bD b)))::E) ((t,some (n,0))::S) ((b,vs,T)::L)
def yt:(l:List (Nat×Sp))->GU l->TS->List Nat->World->aD->Prop
 |[],F,_,_,w,R=>F w R
 |(t,.v ts)::l,F,s,is,w,R=>match s.E.get? t with
  |some v=>O6 ts (GU l) [v] F λG=>yt l G s is w R
  |none=>False
 |(t,.l ts T)::l,F,s,is,w,R=>match s.S.get? t with
  |some (i,0)=>match s.L[i]? with
   |some X=>hU (Nat.beq X.2.2 T&&!is.any (Nat.beq i)) (O6 ts (GU l) X.2.1 (F X.1) λG=>yt l G s (i::is) w R)
   |none=>False
  |_=>False
theorem EK {E E':Env} {t:Nat} {v:Value} (ht:E'.get? t=some v) (h:∀t v,E.get? t=some v->E'.get? t=some v):∀t' v',Env.get? ((t,v)::E) t'=some v'->E'.get? t'=some v':=λt' v' hv=>by
 simp only [Env.get?] at hv
 cases hb:Nat.beq t t' with
 |true=>
  rw [hb,cond_true] at hv
  rw [Nat.beq_eq] at hb
  subst hb
  cases hv
  exact ht
 |false=>
  rw [hb,cond_false] at hv
  exact h t' v' hv
structure ZM (s:TS) (n:Nat) (is js:List Nat) (E:Env) (S:Sv):Prop where
 sub:∀t v,E.get? t=some v->s.E.get? t=some v
 nd:js.Nodup
 dj:∀j∈js,j∉is
 lt:∀j∈js,∃X,s.L[j]? =some X
 sl:∀t i k,S.get? t=some (i,k)->n<=i/\∃j,js[i - n]? =some j/\s.S.get? t=some (j,k)/\∃v,E.get? t=some v
theorem N' {s:TS} {w:World} (I:Inv s w) {R:aD}:∀{l:List (Nat×Sp)} {n:Nat} {K:Env->Sv->Lv->World->aD->Prop} {is:List Nat},yt l (cG l n K) s is w R->
  ∃E S js,ZM s n is js E S/\K E S (js.filterMap λj=>(s.L[j]? :Option (Nat×List Value×TypeId))) w R:=by
 intro l
 induction l with
 |nil=>
  intro n K is h
  exact ⟨[],[],[],⟨λt v h=>by (simp [Env.get?] at h),.nil,λ_ h=>by (cases h),λ_ h=>by (cases h),λt i k h=>by (cases h)⟩,h⟩
 |cons p l ih=>
  intro n K is h
  obtain ⟨t,sp⟩:=p
  cases sp with
  |v ts=>
   unfold yt at h
   split at h
   .rename_i v hv
    have h':=JI (K:=λvs=>cG l n λE S L=>K ((t,vs.headD undef)::E) S L) h
    obtain ⟨E,S,js,hr,hk⟩:=ih h'
    refine ⟨(t,v)::E,S,js,⟨EK hv hr.sub,hr.nd,hr.dj,hr.lt,λt' i k hs=>?_⟩,hk⟩
    obtain ⟨h1,j,h2,h3,v',h4⟩:=hr.sl t' i k hs
    refine ⟨h1,j,h2,h3,?_⟩
    simp only [Env.get?]
    cases Nat.beq t t' with
    |true=>exact ⟨_,rfl⟩
    |false=>exact ⟨_,h4⟩
   .exact h.elim
  |l ts T=>
   unfold yt at h
   split at h
   .rename_i i hi
    split at h
    .rename_i X hX
     obtain ⟨h1,h2⟩:=bX h
     rw [Bool.and_eq_true,Nat.beq_eq,Bool.not_eq_true',List.any_eq_false] at h1
     have h':=JI (K:=λvs=>cG l (n+1) λE S L=>K ((t,.pointer (some (bD X.1)))::E) ((t,some (n,0))::S) ((X.1,vs,T)::L)) h2
     obtain ⟨E,S,js,hr,hk⟩:=ih h'
     obtain ⟨X',Sm,hp⟩:=I.sl t i 0 hi
     rw [hX] at Sm
     cases Sm
     refine ⟨(t,.pointer (some (bD X.1)))::E,(t,some (n,0))::S,i::js,⟨EK ?_ hr.sub,List.nodup_cons.2 ⟨λhm=>hr.dj i hm (by simp),hr.nd⟩,λj hj=>?_,λj hj=>?_,λt' i' k hs=>?_⟩,?_⟩
     .rw [hp,uN]
     .rcases cS.1 hj with rfl|hj
      .intro hm
       have:=h1.2 j hm
       simp at this
      .exact λhm=>hr.dj j hj (lr _ hm)
     .rcases cS.1 hj with rfl|hj
      .exact ⟨X,hX⟩
      .exact hr.lt j hj
     .simp only [Sv.get?] at hs
      cases hb:Nat.beq t t' with
      |true=>
       rw [hb,cond_true] at hs
       rw [Nat.beq_eq] at hb
       subst hb
       cases hs
       refine ⟨Nat.le_refl _,i,by simp,hi,.pointer (some (bD X.1)),?_⟩
       simp [Env.get?]
      |false=>
       rw [hb,cond_false] at hs
       obtain ⟨g1,j,g2,g3,v',g4⟩:=hr.sl t' i' k hs
       refine ⟨by omega,j,?_,g3,v',?_⟩
       .have:i' - n=(i' - (n+1))+1:=by omega
        rw [this,List.getElem?_cons_succ]
        exact g2
       .simp only [Env.get?,hb,cond_false]
        exact g4
     .have e:(X.1,X.2.1,T)=X:=by rw [<-h1.1]
      rw [List.filterMap_cons_some hX]
      simp only [e] at hk
      exact hk
    .exact h.elim
   .exact h.elim
theorem ZM.inv {s:TS} {w:World} (I:Inv s w) {js:List Nat} {E:Env} {S:Sv} (h:ZM s 0 [] js E S):Inv ⟨E,S,js.filterMap λj=>(s.L[j]? :Option (Nat×List Value×TypeId)),w,false⟩ w:=by
 refine ⟨I.lc.pick js h.nd,by simp,λt i k hs=>?_⟩
 obtain ⟨-,j,h2,h3,v,h4⟩:=h.sl t i k hs
 obtain ⟨X,hX,hp⟩:=I.sl t j k h3
 have:=h.sub t v h4
 rw [hp] at this
 cases this
 refine ⟨X,?_,h4⟩
 have all:∀(js:List Nat) (i:Nat),(∀j∈js,∃X,s.L[j]? =some X)->js[i]? =some j->(js.filterMap λj=>(s.L[j]? :Option (Nat×List Value×TypeId)))[i]? =some X:=by
  intro js
  induction js with
  |nil=>intro i _ hi;simp at hi
  |cons a js ih=>
   intro i hl hi
   obtain ⟨Y,hY⟩:=hl a (by simp)
   rw [List.filterMap_cons_some hY]
   cases i with
   |zero=>simp at hi;subst hi;rw [hX] at hY;cases hY;rfl
   |succ i=>simpa using ih i (λj hj=>hl j (lr _ hj)) (by simpa using hi)
 exact all js i h.lt (by simpa using h2)
def GW:(ts:List Tk)->(X:Type)->(X->X->Prop)->AX ts X->AX ts X->Prop
 |[],_,r,F,G=>r F G
 |.o h::ts,X,r,F,G=>∀x:h.T,GW ts X r (F x) (G x)
 |.a _::ts,X,r,F,G=>GW ts X r F G
 |.t _::ts,X,r,F,G=>GW ts X r F G
 |.g _ _ _::ts,X,r,F,G=>GW ts X r F G
def YQ:(l:List (Nat×Sp))->GU l->GU l->Prop
 |[],F,G=>∀(w:World) (R:aD),F w R->G w R
 |(_,.v ts)::l,F,G=>GW ts (GU l) (YQ l) F G
 |(_,.l ts _)::l,F,G=>∀b:Nat,GW ts (GU l) (YQ l) (F b) (G b)
theorem Jk:∀{ts:List Tk} {X:Type} {r:X->X->Prop} {K1 K2:List Value->X},(∀vs,r (K1 vs) (K2 vs))->GW ts X r (QJ ts X K1) (QJ ts X K2):=by
 intro ts
 induction ts with
 |nil=>intro X r K1 K2 h;exact h []
 |cons t ts ih=>
  intro X r K1 K2 h
  cases t with
  |o hh=>intro x;exact ih λvs=>h _
  |a k=>exact ih λvs=>h _
  |t k=>exact ih λvs=>h _
  |g n j k=>exact ih λvs=>h _
theorem U8:∀{l:List (Nat×Sp)} {n:Nat} {K1 K2:Env->Sv->Lv->World->aD->Prop},(∀E S L w R,K1 E S L w R->K2 E S L w R)->YQ l (cG l n K1) (cG l n K2):=by
 intro l
 induction l with
 |nil=>intro n K1 K2 h w R;exact h _ _ _ w R
 |cons p l ih=>
  intro n K1 K2 h
  obtain ⟨t,sp⟩:=p
  cases sp with
  |v ts=>exact Jk λvs=>ih λE S L w R=>h _ _ _ w R
  |l ts T=>intro b;exact Jk λvs=>ih λE S L w R=>h _ _ _ w R
structure Fx where
 P:Program
 fn:Func
 ord:List (Nat×Tr)
 lv:List Nat
def Fx.c (X:Fx):Code:=X.fn.body.getD .skip
def Fx.n (X:Fx):Cx:=cx X.fn.ntmps
def lkO:List (Nat×Tr)->Nat->Option Tr
 |[],_=>none
 |(i,l)::o,j=>bif Nat.beq i j then some l else lkO o j
def Fx.at (X:Fx) (q:List Bool) (R:aD) (a:Act) (w:World):Prop:=VZ X.P X.n (pB X.P X.n X.c (bodyPost X.P X.fn R) q) a w
def Fx.Sem (X:Fx) (q:List Bool) (E:Env) (S:Sv) (L:Lv) (w:World) (R:aD):Prop:=∀a,Ag X.n a E->Inv ⟨E,S,L,w,false⟩ w->X.at q R a w
structure OU (X:Fx) where
 q:List Bool
 sp:List (Nat×Sp)
 F:GU sp
 ok:∀(R:aD) (s:TS) (w:World) (a:Act),Ag X.n a s.E->Inv s w->yt sp F s [] w R->X.at q R a w
def Mk:List Bool->List Bool->Bool
 |[],[]=>true
 |a::l,b::m=>(match a,b with |true,true=>true|false,false=>true|_,_=>false)&&Mk l m
 |_,_=>false
theorem IM:∀{l m:List Bool},Mk l m=true->l=m
 |[],[],_=>rfl
 |a::l,b::m,h=>by
  unfold Mk at h
  rw [Bool.and_eq_true] at h
  rw [IM h.2]
  cases a<;>cases b<;>simp_all
 |[],_::_,h=>by cases h
 |_::_,[],h=>by cases h
def Zh {X:Fx} (R:aD):List (OU X)->List Bool->Option (TS->Prop)
 |[],_=>none
 |e::es,q=>bif Mk e.q q then some λs=>match s.d with
  |true=>False
  |false=>yt e.sp e.F s [] s.w R else Zh R es q
def Fx.TJ (X:Fx) (es:List (OU X)) (R:aD):OW:=⟨lkO X.ord,Zh R es,X.lv⟩
theorem Fx.TK {X:Fx} {es:List (OU X)} {R:aD}:Bs X.P X.n (X.TJ es R) X.c (bodyPost X.P X.fn R):=by
 intro q F hF s w a ha I h
 have EM:Zh R es q=some F:=hF
 clear hF
 induction es with
 |nil=>cases EM
 |cons e es ih=>
  unfold Zh at EM
  cases hb:Mk e.q q with
  |true=>
   rw [hb,cond_true] at EM
   cases EM
   have:=IM hb
   subst this
   cases hd:s.d with
   |true=>rw [hd] at h;exact h.elim
   |false=>
    rw [hd] at h
    have hr:=I.rel
    rw [hd] at hr
    have hw:w=s.w:=by simpa using hr
    rw [<-hw] at h
    exact e.ok R s w a ha I h
  |false=>
   rw [hb,cond_false] at EM
   exact ih EM
def Fx.ZD (X:Fx) (es:List (OU X)) (q:List Bool) (E:Env) (S:Sv) (L:Lv) (w:World) (R:aD):Prop:=Hk X.P X.n (X.TJ es R) X.c (Od X.P X.fn R) q ⟨E,S,L,w,false⟩
theorem Fx.IY {X:Fx} {es:List (OU X)} {q:List Bool} {E:Env} {S:Sv} {L:Lv} {w:World} {R:aD} (h:X.ZD es q E S L w R):X.Sem q E S L w R:=λa ha I=>CW (s:=⟨E,S,L,w,false⟩) (Fx.TK (es:=es)) Ak ha I h
theorem MY {X:Fx} {q:List Bool} {sp:List (Nat×Sp)} {K:Env->Sv->Lv->World->aD->Prop} (hk:∀E S L w R,K E S L w R->X.Sem q E S L w R) (R:aD) (s:TS) (w:World) (a:Act) (ha:Ag X.n a s.E) (I:Inv s w) (h:yt sp (cG sp 0 K) s [] w R):X.at q R a w:=by
 obtain ⟨E,S,js,hr,hK⟩:=N' I h
 exact hk _ _ _ _ _ hK a ⟨ha.defers,ha.size,λt v hv=>ha.get t v (hr.sub t v hv)⟩ (hr.inv I)
def fU (X:Fx) (q:List Bool) (sp:List (Nat×Sp)) (F:GU sp) (e:F=cG sp 0 (X.Sem q):=by kernel_rfl):OU X:=⟨q,sp,F,λR s w a ha I h=>by
 subst e;exact MY (λ_ _ _ _ _ h=>h) R s w a ha I h⟩
def bK (X:Fx) (es:List (OU X)) (q:List Bool) (sp:List (Nat×Sp)) (F:GU sp) (e:F=cG sp 0 (X.ZD es q):=by kernel_rfl):OU X:=⟨q,sp,F,λR s w a ha I h=>by
 subst e;exact MY (λ_ _ _ _ _ h=>Fx.IY h) R s w a ha I h⟩
theorem cW {X:Fx} (es:List (OU X)) (q:List Bool) (sp:List (Nat×Sp)):YQ sp (cG sp 0 (X.ZD es q)) (cG sp 0 (X.Sem q)):=U8 λ_ _ _ _ _ h=>Fx.IY h
theorem aM (X:Fx) (es:List (OU X)) {f:FuncId} {args:List Value} {w:World} {R:aD} {T:Prop} (h:T) (hf:X.P.funcs[f]? =some X.fn:=by kernel_rfl) (hb:X.fn.body=some X.c:=by kernel_rfl) (mH:Nat.ble args.length X.fn.ntmps=true:=by kernel_rfl)
  (e:T=EC X.P X.n (X.TJ es R) X.c [] (Od X.P X.fn R) ⟨sy 0 args,[],[],w,false⟩:=by kernel_rfl):Calls X.P f args.toArray w R:=
 CU hf hb mH Fx.TK (e▸h)
def Yg:Bool->List Nat->List Bool
 |_,[]=>[]
 |b,n::l=>List.replicate n b++Yg (!b) l
abbrev bH (l:List Nat):List Bool:=Yg true l
abbrev Ps:=List (Nat×Sp)
abbrev ls (l:List Nat):Tr:=Tr.sq l .nil
end Go.W
