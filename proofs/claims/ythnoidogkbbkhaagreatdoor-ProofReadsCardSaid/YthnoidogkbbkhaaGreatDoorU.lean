import Derived.Test.YthnoidogkbbkhaaGreatDoorW
import Derived.KernelRfl
set_option linter.unusedVariables false
namespace Go.W
open List renaming mem_cons->qmC,getElem?_eq_some_iff->qgS,mem_map->qmM,mem_cons_of_mem->qmCM
abbrev Lv:=List (Nat×List Value×TypeId)
abbrev Sv:=List (Nat×Option (Nat×Nat))
def Sv.get? :Sv->Nat->Option (Nat×Nat)
 |[],_=>none
 |(k,v)::S,t=>bif Nat.beq k t then v else Sv.get? S t
def Sv.at (S:Sv):Operand->Option (Nat×Nat)
 |.tmp t=>S.get? t
 |_=>none
def Sv.put (S:Sv) (d:Option Nat) (o:Option (Nat×Nat)):Sv:=match d with
 |some d=>(d,o)::S
 |none=>S
structure TS where
 E:Env
 S:Sv
 L:Lv
 w:World
 d:Bool
abbrev HT:=List (Nat×Option Nat×(World->Prop))
def syn (s:TS) (K:TS->Prop):Prop:=match s.d with
 |true=>loc (bsOf s.L) s.w λw=>K ⟨s.E,s.S,s.L,w,false⟩
 |false=>K s
def shp:Value->Value->Bool
 |.int k _,.int k' _=>k==k'
 |.bool _,.bool _=>true
 |.string _,.string _=>true
 |.slice _ _ _,.slice _ _ _=>true
 |.pointer _,.pointer _=>true
 |.map _,.map _=>true
 |.int ..,_|.bool _,_|.string _,_|.slice ..,_|.pointer _,_|.map _,_=>false
 |_,_=>true
def shps:List Value->List Value->Bool
 |[],[]=>true
 |z::zs,v::vs=>shp z v&&shps zs vs
 |_,_=>false
def ldT (P:Program) (T:TypeId) (cs:List Value) (j:Nat) (K:Value->Prop):Prop:=
 AndT (aggOk P T)<|match zeroOf P T with
 |.agg zs=>AndT (shps zs.toList ((cs.drop j).take zs.size)) (K (.agg ((cs.drop j).take zs.size).toArray))
 |.nilFunc=>False
 |z=>match cs[j]? with
  |some v=>AndT (shp z v) (K v)
  |none=>False
def fieldOff (P:Program) (T:TypeId) (f:Nat):Option Nat:=match P.underlying T with
 |some (.struct fs)=>match fs[f]? with
  |some f=>match P.info? f.type with
   |some i=>bif Nat.beq i.size 0 then none else some f.offset
   |none=>none
  |none=>none
 |_=>none
def worldly0 (P:Program) (o:Oper):Bool:=match o.op with
 |.load ..|.lookup ..=>true
 |.convert s d _=>match P.underlying s,P.underlying d with
  |some (.slice _),some .string=>true
  |some (.pointer _),some .unsafePointer=>true
  |some .unsafePointer,some (.pointer _)=>true
  |_,_=>false
 |.binOp .neq T _ y _=>bif isConst y then false else match P.underlying T with
  |some (.pointer _)=>true
  |_=>false
 |.call {callee:=.builtin .len,args,argTypes}=>match args.toList,argTypes.toList with
  |[_],[T]=>match P.underlying T with
   |some (.map _ _)=>true
   |_=>false
  |_,_=>false
 |_=>false
def worldly (P:Program) (o:Oper):Bool:=ifcOp P o||worldly0 P o
def genT (P:Program) (o:Oper) (s:TS) (K:Value->Option (Nat×Nat)->List (Option Nat×(World->Prop))->TS->Prop):Prop:=
 bif worldly P o then syn s λs=>calmVC P o s.E s.w λv Ss=>K v none (Ss.map λS=>(none,S)) s else calmVC P o s.E s.w λv Ss=>K v none (Ss.map λS=>(none,S)) s
def calmT (P:Program) (o:Oper) (s:TS) (K:Value->Option (Nat×Nat)->List (Option Nat×(World->Prop))->TS->Prop):Prop:=
 match o.op with
 |.load T x=>match s.S.at x with
  |some (i,j)=>match s.L[i]? with
   |some X=>ldT P T X.2.1 j λv=>K v none [(some i,λw=>(loadVar T ((at0 X.1).add j)).run P w=.ok v w)] s
   |none=>False
  |none=>genT P o s K
 |.move x|.assign x|.nilCheck x=>match s.S.at x with
  |some q=>K ((s.E.val x).getD undef) (some q) [] s
  |none=>genT P o s K
 |.fieldAddr T x f=>match s.S.at x with
  |some (i,j)=>match fieldOff P T f,s.L[i]? with
   |some k,some X=>K (.pointer (some ((at0 X.1).add (j+k)))) (some (i,j+k)) [] s
   |_,_=>False
  |none=>genT P o s K
 |_=>genT P o s K
def keptT (L:Lv) (w w':World) (p:Prop):Prop:=match L with
 |[]=>p
 |L=>kept (bsOf L) w w'/\p
def setMany:List Value->Nat->List Value->List Value
 |cs,_,[]=>cs
 |cs,j,v::vs=>setMany (cs.set j v) (j+1) vs
def isLoc (lv:List Nat) (d:Option Nat):Bool:=match d with
 |some d=>lv.any (Nat.beq d)
 |none=>false
def stKs (bs:List Nat) (p:Addr):List Value->Nat->World->(World->Prop)->Prop
 |[],_,w,K=>K w
 |v::vs,i,w,K=>stV w (p.add i) v λw1=>kept bs w w1/\stKs bs p vs (i+1) w1 K
def newT (s:TS) (cs:List Value) (T:TypeId) (K:Value->Option (Nat×Nat)->Option Nat->TS->Prop):Prop:=
 newV (bsOf s.L) s.w λb w'=>K (.pointer (some (at0 b))) (some (s.L.length,0)) none ⟨s.E,s.S,s.L++[(b,cs,T)],w',false⟩
def callT (P:Program) (f:FuncId) (args:Array Value) (z:Value) (s:TS) (K:Value->World->Prop):Prop:=match s.L with
 |[]=>callVC P f args z s.w K
 |L=>callF (bsOf L) P f args s.w λe w'=>exAny z λv=>e=.returned v/\K v w'
def effT (P:Program) (lv:List Nat) (draw:Bool) (o:Oper) (s:TS) (K:Value->Option (Nat×Nat)->Option Nat->TS->Prop):Prop:=
 match o.op with
 |.store T x y=>match s.S.at x with
  |some (i,j)=>match s.L[i]?,s.E.val y with
   |some X,some v=>AndT (v.cells.size==(match P.info? T with |some i=>i.size|none=>0)&&v.cells.toList.all oneCell&&(P.info? T).isSome&&Nat.ble (j+v.cells.size) X.2.1.length) (K undef none (some i) ⟨s.E,s.S,s.L.set i (X.1,setMany X.2.1 j v.cells.toList,X.2.2),s.w,true⟩)
   |_,_=>False
  |none=>syn s λs=>match s.L with
   |[]=>effVC P o s.E s.w λv w'=>K v none none ⟨s.E,s.S,s.L,w',false⟩
   |L=>match s.E.val x,s.E.val y with
    |some (.pointer (some p)),some v=>AndT (v.cells.size==(match P.info? T with |some i=>i.size|none=>0)&&v.cells.toList.all oneCell&&(P.info? T).isSome) (stKs (bsOf L) p v.cells.toList 0 s.w λw'=>K undef none none ⟨s.E,s.S,s.L,w',false⟩)
    |_,_=>False
 |.alloc T=>bif isLoc lv o.dst then AndT ((P.info? T).bind (·.zero)).isSome (newT s (zeroOf P T).cells.toList T K) else syn s λs=>effVC P o s.E s.w λv w'=>K v none none ⟨s.E,s.S,s.L,w',false⟩
 |.box T x=>bif isLoc lv o.dst then (match s.E.val x with
   |some v=>newT s v.cells.toList T K
   |none=>False) else syn s λs=>effVC P o s.E s.w λv w'=>K v none none ⟨s.E,s.S,s.L,w',false⟩
 |.buildSlice ..|.makeMap ..=>syn s λs=>effVC P o s.E s.w λv w'=>K v none none ⟨s.E,s.S,s.L,w',false⟩
 |.call {callee:=.value (.func f),args,..}=>syn s λs=>AndT (s.E.covers o) (bif callable P f then callT P f (args.map s.E.ev) (zeroOf P o.type) s λv w'=>K v none none ⟨s.E,s.S,s.L,w',false⟩
   else extVC P f (args.map s.E.ev) (zeroOf P o.type) s.w λv w'=>keptT s.L s.w w' (K v none none ⟨s.E,s.S,s.L,w',false⟩))
 |.call {callee:=.value (.tmp t),args,..}=>syn s λs=>AndT (s.E.covers o) (match s.E.get? t with
   |some (.func (.func f) first captured)=>AndT (callable P f) (callT P f (first++args.map s.E.ev++captured) (zeroOf P o.type) s λv w'=>K v none none ⟨s.E,s.S,s.L,w',false⟩)
   |_=>False)
 |_=>syn s λs=>(bif draw then effVC else effVCy) P o s.E s.w λv w'=>keptT s.L s.w w' (K v none none ⟨s.E,s.S,s.L,w',false⟩)
def heldT (ops:Array Oper) (j:Nat) (w:World):HT->List Prop
 |[]=>[]
 |(i,f,S)::H=>bif ordT ops i j||f.isSome then heldT ops j w H else S w::heldT ops j w H
def dropT (ops:Array Oper) (j:Nat):HT->HT
 |[]=>[]
 |(i,f,S)::H=>bif ordT ops i j then dropT ops j H else (i,f,S)::dropT ops j H
def reHeld (ops:Array Oper) (j:Nat) (s:TS) (H:HT) (K:TS->Prop):Prop:=
 bif H.any (λp=>!(ordT ops p.1 j)&&p.2.1.isNone) then syn s λs=>andL (heldT ops j s.w H) (K s) else K s
def stepT (P:Program) (lv:List Nat) (ops:Array Oper) (draw:Bool) (i:Nat) (o:Oper) (s:TS) (H:HT) (K:TS->HT->Prop):Prop:=
 bif calm P o then calmT P o s λv q Ss s=>K ⟨s.E.put o.dst v,s.S.put o.dst q,s.L,s.w,s.d⟩ (bif draw then Ss.map (λS=>(i,S))++H else H)
 else effT P lv draw o s λv q m s=>AndT (!((dropT ops i H).any λp=>m.isSome&&p.2.1==m)) (reHeld ops i s H λs=>K ⟨s.E.put o.dst v,s.S.put o.dst q,s.L,s.w,s.d⟩ (dropT ops i H))
def guardT (P:Program) (lv:List Nat) (ops:Array Oper) (draw:Bool) (i:Nat) (o:Oper) (d:Nat) (want t:Bool) (s:TS) (H:HT) (K:TS->HT->Prop):Prop:=
 bif (t==want) then stepT P lv ops draw i o ⟨(d,.bool t)::s.E,s.S,s.L,s.w,s.d⟩ H K else K ⟨Env.put ((d,.bool t)::s.E) o.dst undef,s.S.put o.dst none,s.L,s.w,s.d⟩ (bif calm P o then H else dropT ops i H)
def runT (P:Program) (lv:List Nat) (ops:Array Oper) (draw:Bool) (K:TS->Prop):List Nat->TS->HT->Prop
 |[],s,_=>K s
 |i::l,s,H=>
  match ops[i]? with
  |none=>False
  |some o=>match o.guard with
   |none=>stepT P lv ops draw i o s H λs' H'=>runT P lv ops draw K l s' H'
   |some (j,want)=>match gslot ops j with
    |none=>False
    |some d=>match s.E.get? d with
     |some (.bool t)=>sel t (guardT P lv ops draw i o d want true s H λs' H'=>runT P lv ops draw K l s' H') (guardT P lv ops draw i o d want false s H λs' H'=>runT P lv ops draw K l s' H')
     |some (.tuple _)=>runT P lv ops draw K l ⟨Env.put s.E o.dst undef,s.S.put o.dst none,s.L,s.w,s.d⟩ (bif calm P o then H else dropT ops i H)
     |_=>False
def headT (P:Program) (lv:List Nat) (ops:Array Oper) (i:Nat) (s:TS) (H:HT) (Kn:TS->HT->Prop):Prop:=
 match ops[i]? with
 |none=>False
 |some o=>match o.guard with
  |none=>stepT P lv ops true i o s H Kn
  |some (j,want)=>match gslot ops j with
   |none=>False
   |some d=>match s.E.get? d with
    |some (.bool t)=>sel t (guardT P lv ops true i o d want true s H Kn) (guardT P lv ops true i o d want false s H Kn)
    |some (.tuple _)=>Kn ⟨Env.put s.E o.dst undef,s.S.put o.dst none,s.L,s.w,s.d⟩ (bif calm P o then H else dropT ops i H)
    |_=>False
def trT (P:Program) (lv:List Nat) (ops:Array Oper) (K:TS->Prop):Tr->TS->HT->Prop
 |.nil,s,_=>K s
 |.one i t,s,H=>headT P lv ops i s H λs' H'=>trT P lv ops K t s' H'
 |.fork a b,s,H=>trT P lv ops K a s H/\trT P lv ops K b s H
def Tr.sq:List Nat->Tr->Tr
 |[],t=>t
 |i::l,t=>.one i (Tr.sq l t)
def drT (s:TS) (K:TS->Prop):Prop:=match s.L,s.d with
 |[],false=>K ⟨s.E,s.S,s.L,s.w.drew,false⟩
 |_,_=>K ⟨s.E,s.S,s.L,s.w,true⟩
section
variable {P:Program}
structure Inv (s:TS) (w:World):Prop where
 lc:LC w s.L
 rel:if s.d=true then Fr (·∈bsOf s.L) s.w w else w=s.w
 sl:∀t i j,s.S.get? t=some (i,j)->∃X,s.L[i]? =some X/\s.E.get? t=some (.pointer (some ((at0 X.1).add j)))
theorem Inv.syn {s:TS} {w:World} {K:TS->Prop} (I:Inv s w) (h:W.syn s K):Inv ⟨s.E,s.S,s.L,w,false⟩ w/\K ⟨s.E,s.S,s.L,w,false⟩:=by
 refine ⟨⟨I.lc,by simp,I.sl⟩,?_⟩
 unfold W.syn at h
 have hr:=I.rel
 cases hd:s.d with
 |true=>
  rw [hd] at h hr
  exact h w (by simpa using hr)
 |false=>
  rw [hd] at h hr
  have:w=s.w:=by simpa using hr
  obtain ⟨E,S,L,w0,d⟩:=s
  simp only at hd this
  subst hd this
  exact h
theorem Inv.fr {s:TS} {w:World} (I:Inv s w):Fr (·∈bsOf s.L) s.w w:=by
 have hr:=I.rel
 cases hd:s.d with
 |true=>rw [hd] at hr;simpa using hr
 |false=>
  rw [hd] at hr
  have:w=s.w:=by simpa using hr
  subst this
  exact Fr.refl _ _
theorem Inv.at {s:TS} {w:World} (I:Inv s w) {x:Operand} {i j:Nat} (h:s.S.at x=some (i,j)):∃X,s.L[i]? =some X/\s.E.val x=some (.pointer (some ((at0 X.1).add j)))/\w.heap[X.1]? =some (.cells X.2.1.toArray X.2.2 (0,0)):=by
 cases x with
 |tmp t=>
  obtain ⟨X,h1,h2⟩:=I.sl t i j h
  exact ⟨X,h1,h2,I.lc.own i X h1⟩
 |_=>cases h
theorem shps_len:∀{zs vs:List Value},shps zs vs=true->vs.length=zs.length
 |[],[],_=>rfl
 |z::zs,v::vs,h=>by
  unfold shps at h
  rw [Bool.and_eq_true] at h
  simp [shps_len h.2]
theorem ldT_sound {T:TypeId} {cs:List Value} {j b:Nat} {ty:TypeId} {K:Value->Prop} (h:ldT P T cs j K):
  ∃v,K v/\∀w:World,w.heap[b]? =some (.cells cs.toArray ty (0,0))->(loadVar T ((at0 b).add j)).run P w=.ok v w:=by
 obtain ⟨ho,h⟩:=AndT_elim h
 unfold aggOk at ho
 have one:∀(v:Value),cs[j]? =some v->(aggT P T==some false)=true->∀w:World,w.heap[b]? =some (.cells cs.toArray ty (0,0))->(loadVar T ((at0 b).add j)).run P w=.ok v w:=λv hv ha w hw=>
  run_loadVar_one (by simpa using ha) (cellAt (p:=at0 b) hw rfl (by simpa using hv))
 cases hz:zeroOf P T with
 |agg zs=>
  rw [hz] at h ho
  simp only at h ho
  obtain ⟨hs,hk⟩:=AndT_elim h
  rw [Bool.and_eq_true] at ho
  obtain ⟨ha,hi⟩:=ho
  cases hin:P.info? T with
  |none=>rw [hin] at hi;simp at hi
  |some i=>
   rw [hin] at hi
   simp at hi ha
   refine ⟨_,hk,λw hw=>run_loadVar_agg ha hin (by rw [hi,shps_len hs];simp) λk v hkv=>?_⟩
   rw [add_add]
   refine cellAt (p:=at0 b) hw rfl ?_
   rw [List.getElem?_take] at hkv
   split at hkv
   .simpa using hkv
   .cases hkv
 |nilFunc=>rw [hz] at h;exact h.elim
 |_=>
  rw [hz] at h ho
  simp only at h
  split at h
  .rename_i v hv
   exact ⟨v,(AndT_elim h).2,one v hv ho⟩
  .exact h.elim
theorem calmVC_same {o:Oper} {E:Env} {w w':World} {K:Value->List (World->Prop)->Prop} (h:worldly P o=false) (hc:calmVC P o E w K):calmVC P o E w' K:=by
 unfold worldly at h
 rw [Bool.or_eq_false_iff] at h
 obtain ⟨h0,h⟩:=h
 unfold calmVC at hc ⊢
 rw [h0] at hc ⊢
 simp only [cond_false] at hc ⊢
 unfold calmVC0 at hc ⊢
 unfold worldly0 at h
 split at hc<;>first |exact hc|skip
 all_goals rename_i hop
 all_goals rw [hop] at h
 .cases h
 .rename_i y _ hno
  cases y with
  |const c=>exact (hno c rfl).elim
  |_=>
   simp only [isConst,cond_false] at h
   split
   .rename_i hu _ _
    simp only [hu] at h
    cases h
   .split at hc
    .rename_i hu _ _
     simp only [hu] at h
     cases h
    .exact hc
 .cases h
 .split<;>first
   |(rename_i hs hd _;simp only [hs,hd] at h;cases h;done)
   |(split at hc<;>first
     |(rename_i hs hd _;simp only [hs,hd] at h;cases h;done)
     |exact hc)
 .split
  .rename_i ha ht
   simp only [ha,ht] at h hc
   split
   .rename_i hu _
    simp only [hu] at h
    cases h
   .split at hc
    .rename_i hu _
     simp only [hu] at h
     cases h
    .exact hc
  .rename_i hno
   split at hc
   .rename_i ha ht
    exact (hno _ _ ha ht).elim
   .exact hc
def CalmS (P:Program) (o:Oper) (a:Act) (s:TS) (w:World) (v:Value) (q:Option (Nat×Nat)) (Ss:List (Option Nat×(World->Prop))) (s':TS):Prop:=
 Inv s' w/\s'.E=s.E/\s'.S=s.S/\s'.L=s.L/\Calm P o a.eval w v (Ss.map (·.2))/\
 (∀p∈Ss,∀i,p.1=some i->∃X,s.L[i]? =some X/\∀w':World,w'.heap[X.1]? =some (.cells X.2.1.toArray X.2.2 (0,0))->p.2 w')/\
 (∀i j,q=some (i,j)->∃X,s.L[i]? =some X/\v=.pointer (some ((at0 X.1).add j)))
section
variable {o:Oper} {n:Cx} {a:Act} {s:TS} {w:World} {K:Value->Option (Nat×Nat)->List (Option Nat×(World->Prop))->TS->Prop}
theorem genT_sound (hs:∀cs b,o.op≠.select cs b) (ha:Ag n a s.E) (I:Inv s w) (h:genT P o s K):∃v q Ss s',K v q Ss s'/\CalmS P o a s w v q Ss s':=by
 have fin:∀(s':TS),s'.E=s.E->s'.S=s.S->s'.L=s.L->Inv s' w->calmVC P o s.E w (λv Ss=>K v none (Ss.map λS=>(none,S)) s')->∃v q Ss s',K v q Ss s'/\CalmS P o a s w v q Ss s':=λs' e1 e2 e3 I' hc=>by
  obtain ⟨v,Ss,hv,hcalm⟩:=calmVC_sound hs ha hc
  refine ⟨v,none,_,s',hv,I',e1,e2,e3,?_,λp hp i hi=>?_,λi j hq=>by cases hq⟩
  .rw [List.map_map]
   have:((λx:Option Nat×(World->Prop)=>x.2)∘λS=>((none:Option Nat),S))=id:=rfl
   rw [this,List.map_id]
   exact hcalm
  .obtain ⟨S,_,rfl⟩:=qmM.1 hp
   cases hi
 unfold genT at h
 cases hw:worldly P o with
 |true=>
  rw [hw,cond_true] at h
  obtain ⟨I',h'⟩:=I.syn h
  exact fin ⟨s.E,s.S,s.L,w,false⟩ rfl rfl rfl I' h'
 |false=>
  rw [hw,cond_false] at h
  exact fin s rfl rfl rfl I (calmVC_same hw h)
theorem calmT_sound (hs:∀cs b,o.op≠.select cs b) (ha:Ag n a s.E) (I:Inv s w) (h:calmT P o s K):∃v q Ss s',K v q Ss s'/\CalmS P o a s w v q Ss s':=by
 have gen:=λh=>genT_sound (P:=P) (K:=K) hs ha I h
 have same:∀(x:Operand) (q:Nat×Nat),s.S.at x=some q->(∀w,(execOp a.eval o).run P w=.ok (.value (a.eval x)) w\/∀p,a.eval x≠.pointer (some p))->K ((s.E.val x).getD undef) (some q) [] s->∃v q Ss s',K v q Ss s'/\CalmS P o a s w v q Ss s':=λx q hx hr hk=>by
  obtain ⟨X,h1,h2,_⟩:=I.at (i:=q.1) (j:=q.2) hx
  have he:=ha.val h2
  refine ⟨_,_,_,s,hk,I,rfl,rfl,rfl,⟨λS hS=>(by cases hS),λw' _=>?_⟩,λp hp=>(by cases hp),λi j hq=>?_⟩
  .rcases hr w' with hr|hr
   .rw [hr,h2,he];rfl
   .exact (hr _ he).elim
  .cases hq
   exact ⟨X,h1,by rw [h2];rfl⟩
 unfold calmT at h
 split at h
 .rename_i T x hop
  split at h
  .rename_i i j hx
   obtain ⟨X,h1,h2,h3⟩:=I.at hx
   rw [h1] at h
   obtain ⟨v,hk,hv⟩:=ldT_sound (b:=X.1) (ty:=X.2.2) h
   refine ⟨v,_,_,s,hk,I,rfl,rfl,rfl,⟨λS hS=>?_,λw' hw'=>?_⟩,λp hp i' hi'=>?_,λi j hq=>by cases hq⟩
   .simp only [List.map_cons,List.map_nil,qmC,List.not_mem_nil,or_false] at hS
    subst hS
    exact hv w h3
   .have:(loadVar T ((at0 X.1).add j)).run P w'=.ok v w':=hw' (λw=>(loadVar T ((at0 X.1).add j)).run P w=.ok v w) (by simp)
    simp [execOp,hop,Instr.loadAt,ha.val h2,Instr.sureAddr,this]
   .simp only [qmC,List.not_mem_nil,or_false] at hp
    subst hp
    cases hi'
    exact ⟨X,h1,hv⟩
  .exact gen h
 .rename_i x hop
  split at h
  .rename_i q hx
   exact same x q hx (λw=>.inl (by simp [execOp,hop])) h
  .exact gen h
 .rename_i x hop
  split at h
  .rename_i q hx
   exact same x q hx (λw=>.inl (by simp [execOp,hop])) h
  .exact gen h
 .rename_i x hop
  split at h
  .rename_i q hx
   refine same x q hx (λw=>?_) h
   obtain ⟨X,_,h2,_⟩:=I.at (i:=q.1) (j:=q.2) hx
   exact .inl (by simp [execOp,hop,ha.val h2])
  .exact gen h
 .rename_i T x f hop
  split at h
  .rename_i i j hx
   obtain ⟨X,h1,h2,h3⟩:=I.at hx
   split at h
   .rename_i k X' hk hX'
    rw [h1] at hX'
    cases hX'
    refine ⟨_,_,_,s,h,I,rfl,rfl,rfl,⟨λS hS=>(by cases hS),λw' _=>?_⟩,λp hp=>(by cases hp),λi' j' hq=>?_⟩
    .unfold fieldOff at hk
     split at hk
     .rename_i fs hu
      split at hk
      .rename_i fd hf
       split at hk
       .rename_i inf hin
        cases hz:Nat.beq inf.size 0 with
        |true=>rw [hz] at hk;cases hk
        |false=>
         rw [hz] at hk
         cases hk
         have hne:inf.size≠0:=λe=>by rw [e] at hz;cases hz
         simp [execOp,hop,ha.val h2,Instr.fieldAt,run_underlying hu,hf,Instr.sureAddr,fieldPlace,sizeOf,typeInfo,hin,hne,add_add]
       .cases hk
      .cases hk
     .cases hk
    .cases hq
     exact ⟨X,h1,rfl⟩
   .exact h.elim
  .exact gen h
 .exact gen h
end
def EffS (s:TS) (K:Value->Option (Nat×Nat)->Option Nat->TS->Prop) (v:Value) (w':World):Prop:=
 ∃q m s',K v q m s'/\Inv s' w'/\s'.E=s.E/\s'.S=s.S/\(∀i X,s.L[i]? =some X->m≠some i->s'.L[i]? =some X)/\
  (∀i j,q=some (i,j)->∃X,s'.L[i]? =some X/\v=.pointer (some ((at0 X.1).add j)))
theorem run_allocOp {o:Oper} {ρ:Operand->Value} {T:TypeId} {z:Value} (hop:o.op=.alloc T) (hz:(P.info? T).bind (·.zero)=some z) (w:World):
  (execOp ρ o).run P w=.ok (.value (.pointer (some (at0 w.heap.size)))) (w.alloc (.cells z.cells T)):=by
 cases hi:P.info? T with
 |none=>rw [hi] at hz;cases hz
 |some i=>
  rw [hi] at hz
  have hz':i.zero=some z:=hz
  simp [execOp,hop,Instr.alloc,zeroValue,typeInfo,hi,hz',newVar,newRow]
theorem run_boxOp {o:Oper} {ρ:Operand->Value} {T:TypeId} {x:Operand} (hop:o.op=.box T x) (w:World):
  (execOp ρ o).run P w=.ok (.value (.pointer (some (at0 w.heap.size)))) (w.alloc (.cells (ρ x).cells T)):=by
 simp [execOp,hop,Instr.box,newVar,newRow]
theorem keptT_elim {L:Lv} {w w':World} {p:Prop} (h:keptT L w w' p) (H:LC w L):LC w' L/\p:=by
 cases L with
 |nil=>exact ⟨LC.nil _,h⟩
 |cons x L=>exact ⟨H.keptT h.1,h.2⟩
section
variable {o:Oper} {n:Cx} {a:Act} {s:TS} {w:World} {K:Value->Option (Nat×Nat)->Option Nat->TS->Prop}
theorem callF_acts {f:FuncId} {args:Array Value} {K:Value->World->Prop} (hrun:(execOp a.eval o).run P w=.ok (.enter f args) w) (h:Calls P f args w λe w'=>∃v,e=.returned v/\K v w'):Acts P o a w K:=by
 intro Q
 unfold Oper.wp
 rw [hrun]
 simp only [Oper.upon]
 refine Calls.mono h λe w' he=>?_
 obtain ⟨v,rfl,hk⟩:=he
 exact ⟨v,rfl,hk⟩
theorem callT_acts {f:FuncId} {args:Array Value} {z:Value} {K:Value->World->Prop} (hrun:(execOp a.eval o).run P w=.ok (.enter f args) w) (H:LC w s.L) (hw:s.w=w) (h:callT P f args z s K):Acts P o a w λv w'=>LC w' s.L/\K v w':=by
 unfold callT at h
 split at h
 .rename_i hL
  rw [hw] at h
  refine callF_acts hrun (Calls.mono h λe w' he=>?_)
  obtain ⟨v,rfl,hk⟩:=exAny_elim he
  exact ⟨v,rfl,by rw [hL];exact LC.nil _,hk⟩
 .rw [hw] at h
  obtain ⟨M,hm,hc⟩:=h
  refine callF_acts hrun (Calls.mono hc λe w' he=>?_)
  obtain ⟨f',hx⟩:=he
  obtain ⟨v,rfl,hk⟩:=exAny_elim hx
  exact ⟨v,rfl,H.fr f' hm,hk⟩
theorem new_acts {cs:Array Value} {T:TypeId} (hrun:(execOp a.eval o).run P w=.ok (.value (.pointer (some (at0 w.heap.size)))) (w.alloc (.cells cs T))) (I:Inv s w) (h:newT s cs.toList T K):Acts P o a w (EffS s K):=by
 intro Q
 unfold Oper.wp
 rw [hrun]
 simp only [Oper.upon]
 refine ⟨_,rfl,_,_,_,h w.heap.size (w.alloc (.cells cs T)) I.fr.size (size_alloc _ _) (I.fr.tr0 (Fr.alloc _ _ _)),⟨I.lc.push cs T,by simp,λt i j hq=>?_⟩,rfl,rfl,λi X hX _=>?_,λi j hq=>?_⟩
 .obtain ⟨X,h1,h2⟩:=I.sl t i j hq
  exact ⟨X,by rw [List.getElem?_append_left (qgS.1 h1).1];exact h1,h2⟩
 .rw [List.getElem?_append_left (qgS.1 hX).1];exact hX
 .cases hq
  exact ⟨(w.heap.size,cs.toList,T),by simp,by rw [add0]⟩
theorem stLoc {i j b:Nat} {T:TypeId} {wT:World} {K:World->Prop}:∀(vs:List Value) (k:Nat) (w:World) (L:Lv) (cs:List Value),LC w L->L[i]? =some (b,cs,T)->j+k+vs.length<=cs.length->Fr (·∈bsOf L) wT w->
  (∀w',LC w' (L.set i (b,setMany cs (j+k) vs,T))->Fr (·∈bsOf L) wT w'->K w')->stVC ((at0 b).add j) vs k w K
 |[],k,w,L,cs,H,hi,hl,f,hk=>by
  refine hk w ?_ f
  have:L.set i (b,cs,T)=L:=by
   apply List.ext_getElem?
   intro m
   rw [List.getElem?_set]
   split
   .rename_i e
    subst e
    split
    .exact hi.symm
    .rename_i h;exact absurd (qgS.1 hi).1 h
   .rfl
  rw [show setMany cs (j+k) []=cs from rfl,this]
  exact H
 |v::vs,k,w,L,cs,H,hi,hl,f,hk=>by
  simp only [List.length_cons] at hl
  obtain ⟨x1,x2,x3,x4⟩:=H.set (v:=v) i (j+k) hi (by omega) f
  unfold stVC
  rw [add_add]
  refine ⟨x1,x2,stLoc (i:=i) (T:=T) vs (k+1) _ _ (cs.set (j+k) v) x3 ?_ (by rw [List.length_set];omega) x4 λw' h1 h2=>?_⟩
  .rw [List.getElem?_set_self (qgS.1 hi).1]
  .rw [List.set_set] at h1
   rw [bs_set L i hi] at h2
   exact hk w' h1 h2
theorem stKs_sound {L:Lv} {p:Addr} {K K':World->Prop} (hk:∀w',LC w' L->K w'->K' w'):∀(vs:List Value) (i:Nat) (w:World),LC w L->stKs (bsOf L) p vs i w K->stVC p vs i w K'
 |[],_,w,H,h=>hk w H h
 |v::vs,i,w,H,h=>by
  obtain ⟨h1,h2,h3,h4⟩:=h
  exact ⟨h1,h2,stKs_sound hk vs (i+1) _ (H.keptT h3) h4⟩
theorem AndT_intro {b:Bool} {p:Prop} (h1:b=true) (h2:p):AndT b p:=by subst h1;exact h2
theorem effVC_store {E:Env} {T:TypeId} {x y:Operand} {p:Addr} {v:Value} {K:Value->World->Prop} (hop:o.op=.store T x y) (hx:E.val x=some (.pointer (some p))) (hy:E.val y=some v)
  (hc:(v.cells.size==(match P.info? T with |some i=>i.size|none=>0)&&v.cells.toList.all oneCell&&(P.info? T).isSome)=true) (h:stVC p v.cells.toList 0 w λw'=>K undef w'):effVC P o E w K:=by
 unfold effVC
 rw [hop]
 simp only [hx,hy]
 exact AndT_intro hc h
theorem run_newOp {ρ:Operand->Value} {nx:Next} {w':World} (hop:(∃T,o.op=.alloc T)\/(∃T x,o.op=.box T x)\/(∃T l p,o.op=.buildSlice T l p)\/(∃T r,o.op=.makeMap T r)) (h:(execOp ρ o).run P w=.ok nx w'):Fr0 w w':=by
 rcases hop with ⟨T,hop⟩|⟨T,x,hop⟩|⟨T,l,p,hop⟩|⟨T,r,hop⟩
 .cases hz:(P.info? T).bind (·.zero) with
  |some z=>
   rw [run_allocOp hop hz] at h
   cases h
   exact Fr.alloc _ _ _
  |none=>
   exfalso
   cases hi:P.info? T with
   |none=>simp [execOp,hop,Instr.alloc,zeroValue,typeInfo,hi] at h
   |some i=>
    rw [hi] at hz
    have hz':i.zero=none:=hz
    simp [execOp,hop,Instr.alloc,zeroValue,typeInfo,hi,hz'] at h
 .rw [run_boxOp hop] at h
  cases h
  exact Fr.alloc _ _ _
 .cases hu:P.underlying T with
  |none=>simp [execOp,hop,Instr.buildSlice,underlying,hu] at h
  |some u=>
   cases u<;>first |(simp [execOp,hop,Instr.buildSlice,run_underlying hu] at h;done)|skip
   rename_i e
   cases hi:P.info? e with
   |none=>simp [execOp,hop,Instr.buildSlice,run_underlying hu,sizeOf,typeInfo,hi] at h
   |some i=>
    by_cases hbig:l *i.size>2^24
    .simp [execOp,hop,Instr.buildSlice,run_underlying hu,sizeOf,typeInfo,hi,hbig] at h
    by_cases h0:l *i.size=0
    .simp [execOp,hop,Instr.buildSlice,run_underlying hu,sizeOf,typeInfo,hi,h0] at h
     split at h
     .simp [newRow] at h
      obtain ⟨_,rfl⟩:=h
      exact Fr.alloc _ _ _
     .simp at h
    .simp [execOp,hop,Instr.buildSlice,run_underlying hu,sizeOf,typeInfo,hi,hbig,h0] at h
     cases hz:i.zero with
     |none=>simp [zeroValue,typeInfo,hi,hz] at h
     |some z=>
      simp [zeroValue,typeInfo,hi,hz] at h
      split at h
      .simp [newRow] at h
       obtain ⟨_,rfl⟩:=h
       exact Fr.alloc _ _ _
      .simp at h
 .cases r with
  |none=>
   simp [execOp,hop,Instr.makeMap] at h
   obtain ⟨_,rfl⟩:=h
   exact Fr.alloc _ _ _
  |some r=>
   cases hu:P.underlying T with
   |none=>simp [execOp,hop,Instr.makeMap,underlying,hu] at h
   |some u=>
    cases u<;>first |(simp [execOp,hop,Instr.makeMap,run_underlying hu] at h;done)|skip
    cases hr:ρ r with
    |int k z=>
     simp [execOp,hop,Instr.makeMap,run_underlying hu,hr,Go.asInt,Go.asIntOf] at h
     obtain ⟨_,rfl⟩:=h
     exact Fr.alloc _ _ _
    |pointer q=>cases q<;>simp [execOp,hop,Instr.makeMap,run_underlying hu,hr,Go.asInt,Go.asIntOf] at h
    |_=>simp [execOp,hop,Instr.makeMap,run_underlying hu,hr,Go.asInt,Go.asIntOf] at h
theorem new_eval {K:Value->World->Prop} (hs:∀cs b,o.op≠.select cs b) (ha:Ag n a s.E) (hop:(∃T,o.op=.alloc T)\/(∃T x,o.op=.box T x)\/(∃T l p,o.op=.buildSlice T l p)\/(∃T r,o.op=.makeMap T r)) (h:effVC P o s.E w K):Acts P o a w λv w'=>Fr0 w w'/\K v w':=by
 have h':evalVC P o s.E w K:=by
  unfold effVC at h
  rcases hop with ⟨T,hop⟩|⟨T,x,hop⟩|⟨T,l,p,hop⟩|⟨T,r,hop⟩<;>rw [hop] at h<;>exact h
 obtain ⟨hc,h'⟩:=AndT_elim h'
 intro Q
 unfold Oper.wp
 rw [ha.execOp hs hc]
 generalize hr:(execOp s.E.ev o).run P w=r at h'
 split at h'
 .simp only [Oper.upon];exact ⟨_,rfl,run_newOp hop hr,h'⟩
 .simp only [Oper.upon];exact ⟨_,rfl,run_newOp hop hr,h'⟩
 .exact h'.elim
theorem effT_sound {draw:Bool} {lv:List Nat} (A:(Value->World->Prop)->Prop) (h0:∀K,Acts P o a w K->A K) (h1:∀K,(bif draw then effVC else effVCy) P o s.E w K->A K) (hm:∀K K',(∀v w',K v w'->K' v w')->A K->A K')
  (hs:∀cs b,o.op≠.select cs b) (ha:Ag n a s.E) (I:Inv s w) (h:effT P lv draw o s K):A (EffS s K):=by
 have back:∀v w',LC w' s.L->K v none none ⟨s.E,s.S,s.L,w',false⟩->EffS s K v w':=λv w' H hk=>⟨none,none,_,hk,⟨H,by simp,I.sl⟩,rfl,rfl,λi X h _=>h,λi j hq=>by cases hq⟩
 have back2:∀v w',keptT s.L w w' (K v none none ⟨s.E,s.S,s.L,w',false⟩)->EffS s K v w':=λv w' hk=>by
  obtain ⟨H,hk⟩:=keptT_elim hk I.lc
  exact back v w' H hk
 have news:((∃T,o.op=.alloc T)\/(∃T x,o.op=.box T x)\/(∃T l p,o.op=.buildSlice T l p)\/(∃T r,o.op=.makeMap T r))->syn s (λs=>effVC P o s.E s.w λv w'=>K v none none ⟨s.E,s.S,s.L,w',false⟩)->A (EffS s K):=λhop h=>by
  obtain ⟨_,h'⟩:=I.syn h
  exact hm _ _ (λv w' ⟨f,hk⟩=>back v w' (I.lc.fr (M:=λ_=>False) f (λ_ _ h=>h)) hk) (h0 _ (new_eval hs ha hop h'))
 unfold effT at h
 split at h
 .rename_i T x y hop
  split at h
  .rename_i i j hx
   obtain ⟨X,g1,g2,_⟩:=I.at hx
   split at h
   .rename_i X' v hX' hv
    rw [g1] at hX'
    cases hX'
    obtain ⟨hc,hk⟩:=AndT_elim h
    rw [Bool.and_eq_true] at hc
    obtain ⟨hc,hb⟩:=hc
    have hb:=Nat.le_of_ble_eq_true hb
    refine h0 _ (effVC_sound hs ha (effVC_store hop g2 hv hc ?_))
    refine stLoc (i:=i) (T:=X.2.2) _ 0 w s.L X.2.1 I.lc g1 (by simpa using hb) I.fr λw' q1 q2=>?_
    refine ⟨none,some i,_,hk,⟨q1,?_,λt i' j' ht=>?_⟩,rfl,rfl,λi' Y hY hne=>?_,λi j hq=>by cases hq⟩
    .simp only [if_true]
     rw [bs_set s.L i g1]
     exact q2
    .obtain ⟨Y,y1,y2⟩:=I.sl t i' j' ht
     by_cases e:i=i'
     .subst e
      rw [g1] at y1
      cases y1
      exact ⟨_,List.getElem?_set_self (qgS.1 g1).1,y2⟩
     .exact ⟨Y,by rw [List.getElem?_set_ne e];exact y1,y2⟩
    .have e:i≠i':=λe=>hne (by rw [e])
     show (s.L.set i _)[i']? =_
     rw [List.getElem?_set_ne e];exact hY
   .exact h.elim
  .obtain ⟨_,h'⟩:=I.syn h
   simp only at h'
   split at h'
   .rename_i hL
    exact hm _ _ (λv w' hk=>back v w' (hL▸LC.nil _) hk) (h0 _ (effVC_sound hs ha h'))
   .split at h'
    .rename_i p v hx hy
     obtain ⟨hc,hk⟩:=AndT_elim h'
     exact hm _ _ (λv w' hk=>hk) (h0 _ (effVC_sound hs ha (effVC_store hop hx hy hc (stKs_sound (K':=EffS s K undef) (λw' H hk=>back _ w' H hk) _ _ _ I.lc hk))))
    .exact h'.elim
 .rename_i T hop
  cases hl:isLoc lv o.dst with
  |true=>
   rw [hl,cond_true] at h
   obtain ⟨hz,h⟩:=AndT_elim h
   obtain ⟨z,hz⟩:=Option.isSome_iff_exists.1 hz
   have:zeroOf P T=z:=by unfold zeroOf;rw [hz];rfl
   rw [this] at h
   exact h0 _ (new_acts (run_allocOp hop hz w) I h)
  |false=>
   rw [hl,cond_false] at h
   exact news (.inl ⟨T,hop⟩) h
 .rename_i T x hop
  cases hl:isLoc lv o.dst with
  |true=>
   rw [hl,cond_true] at h
   split at h
   .rename_i v hv
    have:=run_boxOp (P:=P) (ρ:=a.eval) hop w
    rw [ha.val hv] at this
    exact h0 _ (new_acts this I h)
   .exact h.elim
  |false=>
   rw [hl,cond_false] at h
   exact news (.inr (.inl ⟨T,x,hop⟩)) h
 .rename_i T l p hop
  exact news (.inr (.inr (.inl ⟨T,l,p,hop⟩))) h
 .rename_i T r hop
  exact news (.inr (.inr (.inr ⟨T,r,hop⟩))) h
 .rename_i f args tys hop
  obtain ⟨I',h⟩:=I.syn h
  obtain ⟨hc,h⟩:=AndT_elim h
  have hargs:args.map a.eval=args.map s.E.ev:=ha.args λx hx=>List.all_eq_true.1 hc x (by rw [hop];simp [Op.operands,Call.operands,hx])
  cases hca:callable P f with
  |true=>
   rw [hca,cond_true] at h
   exact hm _ _ (λv w' ⟨H,hk⟩=>back v w' H hk) (h0 _ (callT_acts (s:=⟨s.E,s.S,s.L,w,false⟩) (by simp [execOp,hop,resolve,Act.eval,Deferred.ofValue,invoke,hargs,callable_spec hca]) I.lc rfl h))
  |false=>
   rw [hca,cond_false] at h
   unfold extVC at h
   obtain ⟨v,w',hr,hk⟩:=exAny_elim h
   refine hm _ _ back2 (h0 _ λQ=>?_)
   unfold Oper.wp
   have:(execOp a.eval o).run P w=.ok (.value v) w':=by simp [execOp,hop,resolve,Act.eval,Deferred.ofValue,invoke,hargs,hr]
   rw [this]
   simp only [Oper.upon]
   exact ⟨_,rfl,hk⟩
 .rename_i t args tys hop
  obtain ⟨I',h⟩:=I.syn h
  obtain ⟨hc,h⟩:=AndT_elim h
  have hargs:args.map a.eval=args.map s.E.ev:=ha.args λx hx=>List.all_eq_true.1 hc x (by rw [hop];simp [Op.operands,Call.operands,hx])
  split at h
  .rename_i f first captured hf
   obtain ⟨hca,h⟩:=AndT_elim h
   have hft:a.eval (.tmp t)=.func (.func f) first captured:=ha.val (x:=.tmp t) hf
   exact hm _ _ (λv w' ⟨H,hk⟩=>back v w' H hk) (h0 _ (callT_acts (s:=⟨s.E,s.S,s.L,w,false⟩) (by simp [execOp,hop,resolve,hft,Deferred.ofValue,invoke,hargs,callable_spec hca]) I.lc rfl h))
  .exact h.elim
 .obtain ⟨_,h'⟩:=I.syn h
  exact hm _ _ back2 (h1 _ h')
end
def HI (s:TS) (H:HT) (w:World):Prop:=∀p∈H,p.2.2 w/\∀i,p.2.1=some i->∃X,s.L[i]? =some X/\∀w':World,w'.heap[X.1]? =some (.cells X.2.1.toArray X.2.2 (0,0))->p.2.2 w'
def hsOf (H:HT):Held:=H.map λp=>(p.1,p.2.2)
theorem hsOf_drop {ops:Array Oper} {j:Nat}:∀H:HT,dropH ops j (hsOf H)=hsOf (dropT ops j H)
 |[]=>rfl
 |(i,f,S)::H=>by
  show dropH ops j ((i,S)::hsOf H)=hsOf (dropT ops j ((i,f,S)::H))
  unfold dropH dropT
  cases ordT ops i j
  .simp only [cond_false]
   rw [hsOf_drop H];rfl
  .simp only [cond_true]
   exact hsOf_drop H
theorem mem_dropT {ops:Array Oper} {j:Nat}:∀{H:HT} {p},p∈dropT ops j H->p∈H/\ordT ops p.1 j=false
 |(i,f,S)::H,p,h=>by
  unfold dropT at h
  cases ho:ordT ops i j with
  |true=>
   rw [ho,cond_true] at h
   exact ⟨qmCM _ (mem_dropT h).1,(mem_dropT h).2⟩
  |false=>
   rw [ho,cond_false] at h
   rcases qmC.1 h with rfl|h
   .exact ⟨List.mem_cons_self,ho⟩
   .exact ⟨qmCM _ (mem_dropT h).1,(mem_dropT h).2⟩
theorem heldT_of {ops:Array Oper} {j:Nat} {w:World}:∀{H:HT} {p},p∈H->ordT ops p.1 j=false->p.2.1=none->p.2.2 w∈heldT ops j w H
 |(i,f,S)::H,p,h,ho,hf=>by
  unfold heldT
  rcases qmC.1 h with rfl|h
  .simp only at ho hf
   rw [ho,hf]
   exact List.mem_cons_self
  .have:=heldT_of (w:=w) h ho hf
   cases (ordT ops i j||f.isSome)
   .exact qmCM _ this
   .exact this
theorem Inv.put {s:TS} {w:World} (I:Inv s w) (d:Option Nat) {v:Value} {q:Option (Nat×Nat)} (hq:∀i j,q=some (i,j)->∃X,s.L[i]? =some X/\v=.pointer (some ((at0 X.1).add j))):Inv ⟨s.E.put d v,s.S.put d q,s.L,s.w,s.d⟩ w:=by
 refine ⟨I.lc,I.rel,λt i j ht=>?_⟩
 cases d with
 |none=>exact I.sl t i j ht
 |some d=>
  simp only [Sv.put,Sv.get?] at ht
  simp only [Env.put,Env.get?]
  cases hb:Nat.beq d t with
  |true=>
   rw [hb,cond_true] at ht
   obtain ⟨X,h1,h2⟩:=hq i j ht
   exact ⟨X,h1,by simp [h2]⟩
  |false=>
   rw [hb,cond_false] at ht
   obtain ⟨X,h1,h2⟩:=I.sl t i j ht
   exact ⟨X,h1,by simpa using h2⟩
theorem reHeld_sound {ops:Array Oper} {j:Nat} {s s1:TS} {w w':World} {m:Option Nat} {H:HT} {K:TS->Prop} (hH:HI s H w) (I:Inv s1 w') (hL:∀i X,s.L[i]? =some X->m≠some i->s1.L[i]? =some X)
  (hc:(!((dropT ops j H).any λp=>m.isSome&&p.2.1==m))=true) (h:reHeld ops j s1 H K):
  ∃s2,K s2/\Inv s2 w'/\s2.E=s1.E/\s2.S=s1.S/\s2.L=s1.L/\HI s2 (dropT ops j H) w':=by
 have loc':∀p∈dropT ops j H,∀i,p.2.1=some i->∃X,s1.L[i]? =some X/\∀w':World,w'.heap[X.1]? =some (.cells X.2.1.toArray X.2.2 (0,0))->p.2.2 w':=λp hp i hi=>by
  obtain ⟨X,h1,h2⟩:=(hH p (mem_dropT hp).1).2 i hi
  refine ⟨X,hL i X h1 λe=>?_,h2⟩
  simp only [Bool.not_eq_true',List.any_eq_false] at hc
  exact hc p hp (by rw [e,hi];simp)
 have own:∀p∈dropT ops j H,∀i,p.2.1=some i->p.2.2 w':=λp hp i hi=>by
  obtain ⟨X,h1,h2⟩:=loc' p hp i hi
  exact h2 w' (I.lc.own i X h1)
 unfold reHeld at h
 cases ha:H.any (λp=>!(ordT ops p.1 j)&&p.2.1.isNone) with
 |true=>
  rw [ha,cond_true] at h
  obtain ⟨I',h'⟩:=I.syn h
  obtain ⟨q1,q2⟩:=andL_elim h'
  refine ⟨_,q2,I',rfl,rfl,rfl,λp hp=>⟨?_,loc' p hp⟩⟩
  cases hf:p.2.1 with
  |none=>exact q1 _ (heldT_of (mem_dropT hp).1 (mem_dropT hp).2 hf)
  |some i=>exact own p hp i hf
 |false=>
  rw [ha,cond_false] at h
  refine ⟨s1,h,I,rfl,rfl,rfl,λp hp=>⟨?_,loc' p hp⟩⟩
  cases hf:p.2.1 with
  |none=>
   exfalso
   rw [List.any_eq_false] at ha
   exact ha p (mem_dropT hp).1 (by rw [(mem_dropT hp).2,hf];rfl)
  |some i=>exact own p hp i hf
section
variable {ops:Array Oper} {n:Cx} {lv:List Nat}
theorem stepT_eff {o:Oper} {a:Act} {s:TS} {w:World} {H:HT} {K:TS->HT->Prop} {draw:Bool} {i:Nat} (A:(Value->World->Prop)->Prop) (h0:∀K,Acts P o a w K->A K) (h1:∀K,(bif draw then effVC else effVCy) P o s.E w K->A K) (hm:∀K K',(∀v w',K v w'->K' v w')->A K->A K')
  (hs:∀cs b,o.op≠.select cs b) (ha:Ag n a s.E) (I:Inv s w) (hH:HI s H w) (hc:calm P o=false) (h:stepT P lv ops draw i o s H K):
  A λv w'=>∃s',K s' (dropT ops i H)/\Inv s' w'/\HI s' (dropT ops i H) w'/\s'.E=s.E.put o.dst v:=by
 unfold stepT at h
 rw [hc,cond_false] at h
 refine hm _ _ (λv w' he=>?_) (effT_sound A h0 h1 hm hs ha I h)
 obtain ⟨q,m,s1,hk,I1,e1,e2,hL,hq⟩:=he
 obtain ⟨hb,hr⟩:=AndT_elim hk
 obtain ⟨s2,k2,I2,f1,f2,f3,H2⟩:=reHeld_sound hH I1 hL hb hr
 refine ⟨_,k2,I2.put o.dst λi j h=>?_,H2,by rw [f1,e1]⟩
 rw [f3]
 exact hq i j h
theorem stepT_calm {o:Oper} {a:Act} {s:TS} {w:World} {H:HT} {K:TS->HT->Prop} {draw:Bool} {i:Nat} (hs:∀cs b,o.op≠.select cs b) (ha:Ag n a s.E) (I:Inv s w) (hH:HI s H w) (hc:calm P o=true) (h:stepT P lv ops draw i o s H K):
  ∃v Ss s' H',K s' H'/\Inv s' w/\HI s' H' w/\s'.E=s.E.put o.dst v/\Calm P o a.eval w v Ss/\hsOf H'=(bif draw then Ss.map (λS=>(i,S))++hsOf H else hsOf H):=by
 unfold stepT at h
 rw [hc,cond_true] at h
 obtain ⟨v,q,Ss,s',hk,I',e1,e2,e3,hcalm,hl,hq⟩:=calmT_sound hs ha I h
 refine ⟨v,Ss.map (·.2),_,_,hk,I'.put o.dst λi j h=>?_,λp hp=>?_,by rw [e1],hcalm,?_⟩
 .rw [e3];exact hq i j h
 .have old:p∈H->p.2.2 w/\∀i,p.2.1=some i->∃X,s'.L[i]? =some X/\∀w':World,w'.heap[X.1]? =some (.cells X.2.1.toArray X.2.2 (0,0))->p.2.2 w':=λhp=>by
   rw [e3];exact hH p hp
  cases draw with
  |false=>exact old hp
  |true=>
   rcases List.mem_append.1 hp with hp|hp
   .obtain ⟨S,hS,rfl⟩:=qmM.1 hp
    refine ⟨hcalm.1 _ (qmM.2 ⟨S,hS,rfl⟩),λi' hi'=>?_⟩
    simp only
    rw [e3]
    exact hl S hS i' hi'
   .exact old hp
 .cases draw with
  |false=>rfl
  |true=>simp [hsOf]
theorem guardT_of {i d:Nat} {o:Oper} {want t:Bool} {s:TS} {H:HT} {K:TS->HT->Prop} {draw:Bool} (h:sel t (guardT P lv ops draw i o d want true s H K) (guardT P lv ops draw i o d want false s H K)):guardT P lv ops draw i o d want t s H K:=by
 cases t
 .exact h
 .exact h
theorem Inv.same {s:TS} {w:World} (I:Inv s w) {d:Nat} {v:Value} (hd:s.E.get? d=some v):Inv ⟨(d,v)::s.E,s.S,s.L,s.w,s.d⟩ w:=by
 refine ⟨I.lc,I.rel,λt i j ht=>?_⟩
 obtain ⟨X,h1,h2⟩:=I.sl t i j ht
 refine ⟨X,h1,?_⟩
 simp only [Env.get?]
 by_cases e:d=t
 .subst e
  rw [hd] at h2
  cases h2
  simp
 .have hb:Nat.beq d t=false:=by rw [<-Bool.not_eq_true,Nat.beq_eq];exact e
  rw [hb,cond_false]
  exact h2
theorem Inv.skip {s:TS} {w:World} (I:Inv s w) (d:Option Nat):Inv ⟨s.E.put d undef,s.S.put d none,s.L,s.w,s.d⟩ w:=I.put d λi j h=>by cases h
theorem HI.skip {s s':TS} {w:World} {H:HT} (h:HI s H w) (e:s'.L=s.L):HI s' H w:=λp hp=>by rw [e];exact h p hp
theorem HI.drop {s:TS} {w:World} {H:HT} {j:Nat} (h:HI s H w):HI s (dropT ops j H) w:=λp hp=>h p (mem_dropT hp).1
theorem HI.held {s:TS} {w:World} {H:HT} (h:HI s H w):∀p∈hsOf H,p.2 w:=λp hp=>by
 obtain ⟨q,hq,rfl⟩:=qmM.1 hp
 exact (h q hq).1
theorem runT_text {K:TS->Prop} {Q:Exit->Act->World->Prop} (hn:opsOk n ops=true):∀(l:List Nat) (s:TS) (w:World) (a:Act),Ag n a s.E->Inv s w->runT P lv ops false K l s []->(∀s' w' a',Ag n a' s'.E->Inv s' w'->K s'->Q .normal a' w')->wpOpsIn (FW n) 0 P ops Q l a w
 |[],s,w,a,ha,I,h,hk=>hk s w a ha I h
 |i::l,s,w,a,ha,I,h,hk=>by
  have hsel:=Region.noSelect_spec (ops:=ops) (by unfold opsOk at hn;rw [Bool.and_eq_true] at hn;exact hn.1)
  unfold runT at h
  cases ho:ops[i]? with
  |none=>rw [ho] at h;exact h.elim
  |some o=>
   rw [ho] at h
   simp only at h
   have step:∀(s:TS),Ag n a s.E->Inv s w->Region.wanted o (yielded ops a.tmps)=true->stepT P lv ops false i o s [] (λs' H'=>runT P lv ops false K l s' H')->wpOpsIn (FW n) 0 P ops Q (i::l) a w:=λs ha I hw h=>by
    rw [wpOpsIn_cons]
    cases hc:calm P o with
    |true=>
     obtain ⟨v,Ss,s',H',k1,I',_,e1,hcalm,hH'⟩:=stepT_calm (λcs b=>hsel i o cs b ho) ha I (λp hp=>by cases hp) hc h
     have:H'=[]:=by cases H' with |nil=>rfl|cons x l=>cases hH'
     subst this
     refine wpOpIn_eff (Kv:=λv' w'=>v'=v/\w'=w) ho hw ?_ ?_
     .refine Acts.in (opsOk_defer hn ho) λQ'=>?_
      unfold Oper.wp
      rw [hcalm.2 w hcalm.1]
      exact ⟨v,rfl,rfl,rfl⟩
     .rintro v' w' ⟨rfl,rfl⟩
      exact runT_text hn l s' _ _ (by rw [e1];exact ha.put _ (opsOk_dst hn ho)) I' k1 hk
    |false=>
     refine wpOpIn_eff ho hw (stepT_eff (draw:=false) (s:=s) (ActsIn P n o a w) (λK hK=>hK.in (opsOk_defer hn ho)) (λK hK=>effVCy_sound (λcs b=>hsel i o cs b ho) (opsOk_defer hn ho) ha hK) (λK K' hKK hA Q'=>Oper.wpIn_mono (λa' w' ⟨v,e,hv⟩=>⟨v,e,hKK v w' hv⟩) (hA Q')) (λcs b=>hsel i o cs b ho) ha I (λp hp=>by cases hp) hc h) λv w' ⟨s',k1,I',_,e1⟩=>?_
     exact runT_text hn l s' w' _ (by rw [e1];exact ha.put v (opsOk_dst hn ho)) I' k1 hk
   have skip:∀(s:TS),Ag n a s.E->Inv s w->Region.wanted o (yielded ops a.tmps)=false->runT P lv ops false K l ⟨s.E.put o.dst undef,s.S.put o.dst none,s.L,s.w,s.d⟩ []->wpOpsIn (FW n) 0 P ops Q (i::l) a w:=λs ha I hw h=>by
    rw [wpOpsIn_cons]
    unfold wpOpIn
    simp only [ho,hw]
    exact ⟨λ_ _=>trivial,runT_text hn l _ w _ (ha.put undef (opsOk_dst hn ho)) (I.skip o.dst) h hk⟩
   have hH0:(bif calm P o then ([]:HT) else dropT ops i [])=[]:=by cases calm P o<;>rfl
   cases hg:o.guard with
   |none=>
    rw [hg] at h
    exact step s ha I (by simp [Region.wanted,hg]) h
   |some jw=>
    obtain ⟨j,want⟩:=jw
    rw [hg] at h
    simp only at h
    cases hd:gslot ops j with
    |none=>rw [hd] at h;exact h.elim
    |some d=>
     rw [hd] at h
     simp only at h
     split at h
     .rename_i t ht
      have hy:=yielded_of ha hd ht
      have hg':=guardT_of h
      unfold guardT at hg'
      cases hb:(t==want) with
      |true=>
       rw [hb,cond_true] at hg'
       exact step _ (ha.same ht) (I.same ht) (by simp [Region.wanted,hg,hy];simpa using hb) hg'
      |false=>
       rw [hb,cond_false,hH0] at hg'
       exact skip _ (ha.same ht) (I.same ht) (by simp [Region.wanted,hg,hy];simpa using hb) hg'
     .rename_i vs ht
      rw [hH0] at h
      exact skip s ha I (by simp [Region.wanted,hg,yielded_tuple ha hd ht]) h
     .exact h.elim
def RegT (n:Cx) (K:TS->Prop):Exit->Act->World->Prop
 |.normal,a,w=>∃s,Ag n a s.E/\Inv s w/\K s
 |_,_,_=>False
theorem hsOf_skip {o:Oper} {i:Nat} {H:HT}:(bif calm P o then hsOf H else dropH ops i (hsOf H))=hsOf (bif calm P o then H else dropT ops i H):=by
 cases calm P o
 .exact hsOf_drop H
 .rfl
theorem HI.skipD {o:Oper} {i:Nat} {s s':TS} {w:World} {H:HT} (h:HI s H w) (e:s'.L=s.L):HI s' (bif calm P o then H else dropT ops i H) w:=by
 cases calm P o
 .exact h.drop.skip e
 .exact h.skip e
theorem headT_any (hn:opsOk n ops=true) {K:TS->Prop} {i:Nat} {o:Oper} {s:TS} {w:World} {H:HT} {a:Act} {Kn:TS->HT->Prop} {listed:Array Bool} {fuel:Nat} (ho:ops[i]? =some o)
  (hok:(bif calm P o then Region.free .any ops listed i&&(Region.ready .any ops listed).contains i else Region.ready .any ops listed==[i])=true) (ha:Ag n a s.E) (I:Inv s w) (hH:HI s H w) (h:headT P lv ops i s H Kn)
  (next:∀a' s' w' H',Ag n a' s'.E->Inv s' w'->HI s' H' w'->Kn s' H'->wpAnyHs P ops (RegT n K) fuel (hsOf H') (listed.setIfInBounds i true) a' w'):wpAnyHs P ops (RegT n K) (fuel+1) (hsOf H) listed a w:=by
 have hsel:=Region.noSelect_spec (ops:=ops) (by unfold opsOk at hn;rw [Bool.and_eq_true] at hn;exact hn.1)
 have hQ:∀c a w,RegT n K (.panic c) a w=False:=λ_ _ _=>rfl
 have step:∀(s:TS),Ag n a s.E->Inv s w->HI s H w->Region.wanted o (yielded ops a.tmps)=true->stepT P lv ops true i o s H Kn->wpAnyHs P ops (RegT n K) (fuel+1) (hsOf H) listed a w:=λs ha I hH hwant h=>by
  cases hc:calm P o with
  |true=>
   rw [hc,cond_true,Bool.and_eq_true] at hok
   obtain ⟨v,Ss,s',H',k1,I',HI',e1,hcalm,hH'⟩:=stepT_calm (λcs b=>hsel i o cs b ho) ha I hH hc h
   refine wpAnyHs_first (v:=v) (Ss:=Ss) ho hsel (by simp [hQ]) fuel (hsOf H) listed a w (Region.free_spec ho hok.1) (by simpa using hok.2) (.inl ⟨hwant,λw' hw'=>hcalm.2 w' hw'⟩) hcalm.1 hH.held ?_
   rw [cond_true] at hH'
   rw [<-hH']
   exact next _ s' w H' (by rw [e1];exact ha.put v (opsOk_dst hn ho)) I' HI' k1
  |false=>
   rw [hc,cond_false] at hok
   have hr:Region.ready .any ops listed=[i]:=by simpa using hok
   refine λ_=>⟨λh0=>(by rw [hr] at h0;cases h0),λj hj=>?_⟩
   rw [hr] at hj
   obtain rfl:=List.mem_singleton.1 hj
   refine wpOp_eff ho hwant (stepT_eff (draw:=true) (s:=s) (Acts P o a w) (λK hK=>hK) (λK hK=>effVC_sound (λcs b=>hsel j o cs b ho) ha hK) (λK K' hKK hA Q'=>Oper.wp_mono (λa' w' ⟨v,e,hv⟩=>⟨v,e,hKK v w' hv⟩) (hA Q')) (λcs b=>hsel j o cs b ho) ha I hH hc h) λv w' ⟨s',k1,I',HI',e1⟩=>?_
   rw [hsOf_drop]
   exact ⟨HI'.held,next _ s' w' _ (by rw [e1];exact ha.put v (opsOk_dst hn ho)) I' HI' k1⟩
 have skip:∀(s:TS),Ag n a s.E->Inv s w->HI s H w->Region.wanted o (yielded ops a.tmps)=false->Kn ⟨s.E.put o.dst undef,s.S.put o.dst none,s.L,s.w,s.d⟩ (bif calm P o then H else dropT ops i H)->wpAnyHs P ops (RegT n K) (fuel+1) (hsOf H) listed a w:=λs ha I hH hw h=>by
  refine skip_sound_draw hn ho hok hQ hH.held hw ?_
  rw [hsOf_skip]
  exact next _ _ w _ (ha.put undef (opsOk_dst hn ho)) (I.skip o.dst) (hH.skipD rfl) h
 unfold headT at h
 rw [ho] at h
 simp only at h
 cases hg:o.guard with
 |none=>
  rw [hg] at h
  exact step s ha I hH (by simp [Region.wanted,hg]) h
 |some jw=>
  obtain ⟨j,want⟩:=jw
  rw [hg] at h
  simp only at h
  cases hd:gslot ops j with
  |none=>rw [hd] at h;exact h.elim
  |some d=>
   rw [hd] at h
   simp only at h
   split at h
   .rename_i t ht
    have hy:=yielded_of ha hd ht
    have hg':=guardT_of h
    unfold guardT at hg'
    cases hb:(t==want) with
    |true=>
     rw [hb,cond_true] at hg'
     exact step _ (ha.same ht) (I.same ht) (hH.skip rfl) (by simp [Region.wanted,hg,hy];simpa using hb) hg'
    |false=>
     rw [hb,cond_false] at hg'
     exact skip _ (ha.same ht) (I.same ht) (hH.skip rfl) (by simp [Region.wanted,hg,hy];simpa using hb) hg'
   .rename_i vs ht
    exact skip s ha I hH (by simp [Region.wanted,hg,yielded_tuple ha hd ht]) h
   .exact h.elim
theorem headT_op (hn:opsOk n ops=true) {K:TS->Prop} {i:Nat} {o:Oper} {s:TS} {w:World} {H:HT} {a:Act} {Kn:TS->HT->Prop} {listed:Array Bool} {fuel:Nat} (ho:ops[i]? =some o)
  (hc:calm P o=false) (ha:Ag n a s.E) (I:Inv s w) (hH:HI s H w) (h:headT P lv ops i s H Kn)
  (next:∀a' s' w' H',Ag n a' s'.E->Inv s' w'->HI s' H' w'->Kn s' H'->wpAnyHs P ops (RegT n K) fuel (hsOf H') (listed.setIfInBounds i true) a' w'):
  wpOp P ops (RegT n K) i (λa' w'=>(∀p∈dropH ops i (hsOf H),p.2 w')/\wpAnyHs P ops (RegT n K) fuel (dropH ops i (hsOf H)) (listed.setIfInBounds i true) a' w') a w:=by
 have hsel:=Region.noSelect_spec (ops:=ops) (by unfold opsOk at hn;rw [Bool.and_eq_true] at hn;exact hn.1)
 have step:∀(s:TS),Ag n a s.E->Inv s w->HI s H w->Region.wanted o (yielded ops a.tmps)=true->stepT P lv ops true i o s H Kn->wpOp P ops (RegT n K) i (λa' w'=>(∀p∈dropH ops i (hsOf H),p.2 w')/\wpAnyHs P ops (RegT n K) fuel (dropH ops i (hsOf H)) (listed.setIfInBounds i true) a' w') a w:=λs ha I hH hwant h=>by
  refine wpOp_eff ho hwant (stepT_eff (draw:=true) (s:=s) (Acts P o a w) (λK hK=>hK) (λK hK=>effVC_sound (λcs b=>hsel i o cs b ho) ha hK) (λK K' hKK hA Q'=>Oper.wp_mono (λa' w' ⟨v,e,hv⟩=>⟨v,e,hKK v w' hv⟩) (hA Q')) (λcs b=>hsel i o cs b ho) ha I hH hc h) λv w' ⟨s',k1,I',HI',e1⟩=>?_
  rw [hsOf_drop]
  exact ⟨HI'.held,next _ s' w' _ (by rw [e1];exact ha.put v (opsOk_dst hn ho)) I' HI' k1⟩
 have skip:∀(s:TS),Ag n a s.E->Inv s w->HI s H w->Region.wanted o (yielded ops a.tmps)=false->Kn ⟨s.E.put o.dst undef,s.S.put o.dst none,s.L,s.w,s.d⟩ (bif calm P o then H else dropT ops i H)->wpOp P ops (RegT n K) i (λa' w'=>(∀p∈dropH ops i (hsOf H),p.2 w')/\wpAnyHs P ops (RegT n K) fuel (dropH ops i (hsOf H)) (listed.setIfInBounds i true) a' w') a w:=λs ha I hH hw h=>by
  refine skip_op ho hH.held hw ?_
  rw [hc,cond_false] at h
  rw [hsOf_drop]
  exact next _ _ w _ (ha.put undef (opsOk_dst hn ho)) (I.skip o.dst) (hH.drop.skip rfl) h
 unfold headT at h
 rw [ho] at h
 simp only at h
 cases hg:o.guard with
 |none=>
  rw [hg] at h
  exact step s ha I hH (by simp [Region.wanted,hg]) h
 |some jw=>
  obtain ⟨j,want⟩:=jw
  rw [hg] at h
  simp only at h
  cases hd:gslot ops j with
  |none=>rw [hd] at h;exact h.elim
  |some d=>
   rw [hd] at h
   simp only at h
   split at h
   .rename_i t ht
    have hy:=yielded_of ha hd ht
    have hg':=guardT_of h
    unfold guardT at hg'
    cases hb:(t==want) with
    |true=>
     rw [hb,cond_true] at hg'
     exact step _ (ha.same ht) (I.same ht) (hH.skip rfl) (by simp [Region.wanted,hg,hy];simpa using hb) hg'
    |false=>
     rw [hb,cond_false] at hg'
     exact skip _ (ha.same ht) (I.same ht) (hH.skip rfl) (by simp [Region.wanted,hg,hy];simpa using hb) hg'
   .rename_i vs ht
    exact skip s ha I hH (by simp [Region.wanted,hg,yielded_tuple ha hd ht]) h
   .exact h.elim
theorem trT_sound (hn:opsOk n ops=true) {K:TS->Prop}:∀(t:Tr) (alt:Bool) (listed:Array Bool) (s:TS) (w:World) (H:HT) (a:Act) (m:Nat),okTree P ops t alt listed=true->Ag n a s.E->Inv s w->HI s H w->trT P lv ops K t s H->
  (alt=false->t.len=m->wpAnyHs P ops (RegT n K) m (hsOf H) listed a w)/\
  (alt=true->t.len=m+1->∀i∈t.heads,wpOp P ops (RegT n K) i (λa' w'=>(∀p∈dropH ops i (hsOf H),p.2 w')/\wpAnyHs P ops (RegT n K) m (dropH ops i (hsOf H)) (listed.setIfInBounds i true) a' w') a w)
 |.nil,alt,listed,s,w,H,a,m,hok,ha,I,hH,h=>by
  unfold okTree at hok
  rw [Bool.and_eq_true] at hok
  refine ⟨λ_ hm=>?_,λe=>?_⟩
  .subst hm
   exact λ_=>⟨by simpa using hok.2,s,ha,I,h⟩
  .subst e;simp at hok
 |.one i t,alt,listed,s,w,H,a,m,hok,ha,I,hH,h=>by
  unfold okTree at hok
  rw [Bool.and_eq_true] at hok
  obtain ⟨hok,hrest⟩:=hok
  cases ho:ops[i]? with
  |none=>rw [ho] at hok;cases hok
  |some o=>
   rw [ho] at hok
   simp only at hok
   unfold trT at h
   refine ⟨λe hm=>?_,λe hm j hj=>?_⟩
   .subst e hm
    exact headT_any hn ho hok ha I hH h λa' s' w' H' hA hI hHH hR=>(trT_sound hn t false _ s' w' H' a' _ hrest hA hI hHH hR).1 rfl rfl
   .subst e
    rw [cond_true] at hok
    obtain rfl:=List.mem_singleton.1 hj
    have hm':t.len=m:=by simpa [Tr.len] using hm
    exact headT_op hn ho (by simpa using hok) ha I hH h λa' s' w' H' hA hI hHH hR=>(trT_sound hn t false _ s' w' H' a' _ hrest hA hI hHH hR).1 rfl hm'
 |.fork x y,alt,listed,s,w,H,a,m,hok,ha,I,hH,h=>by
  unfold okTree at hok
  simp only [Bool.and_eq_true] at hok
  obtain ⟨hr,hl,hx,hy⟩:=hok
  rw [Nat.beq_eq] at hl
  unfold trT at h
  have both:∀k,x.len=k+1->∀i∈(Tr.fork x y).heads,wpOp P ops (RegT n K) i (λa' w'=>(∀p∈dropH ops i (hsOf H),p.2 w')/\wpAnyHs P ops (RegT n K) k (dropH ops i (hsOf H)) (listed.setIfInBounds i true) a' w') a w:=λk hk i hi=>by
   rcases List.mem_append.1 hi with hi|hi
   .exact (trT_sound hn x true listed s w H a k hx ha I hH h.1).2 rfl hk i hi
   .exact (trT_sound hn y true listed s w H a k hy ha I hH h.2).2 rfl (hl▸hk) i hi
  refine ⟨λe hm=>?_,λ_ hm=>both m hm⟩
  subst e
  obtain ⟨k,hk⟩:=tree_len x listed hx
  have hm':m=k+1:=by rw [<-hm,<-hk];rfl
  subst hm'
  have hr':Region.ready .any ops listed=(Tr.fork x y).heads:=by simpa using hr
  have hne:(Tr.fork x y).heads≠[]:=by have:=tree_heads x listed hx;simp [Tr.heads,this]
  exact λ_=>⟨λh0=>absurd (hr'▸h0) hne,λi hi=>both k hk i (hr'▸hi)⟩
theorem reg_text {c:Code} {a:Act} {s:TS} {w:World} {K:TS->Prop} (hc:regT n c=true) (ha:Ag n a s.E) (I:Inv s w) (h:runT P lv (Code.ops c) false K (List.range (Code.ops c).size) s []):wpx P n c (RegT n K) a w:=by
 unfold regT at hc
 split at hc
 .rename_i id ops d
  rw [Bool.and_eq_true] at hc
  obtain ⟨h1,h2⟩:=hc
  have h3:d=false:=by simpa using h1
  subst h3
  exact wpIn_region (runT_text h2 _ s w a ha I h λs' w' a' h1 h2 h3=>⟨s',h1,h2,h3⟩)
 .cases hc
theorem Inv.dr {s:TS} {w:World} {K:TS->Prop} (I:Inv s w) (h:drT s K):∃s',K s'/\Inv s' w.drew/\s'.E=s.E:=by
 have lc:LC w.drew s.L:=I.lc.fr (M:=λ_=>False) (Fr.drew _ _) (λ_ _ h=>h)
 unfold drT at h
 split at h
 .rename_i hL hd
  have hr:=I.rel
  rw [hd] at hr
  have:w=s.w:=by simpa using hr
  exact ⟨_,h,⟨lc,by simp [this],I.sl⟩,rfl⟩
 .exact ⟨_,h,⟨lc,by simpa using I.fr.tr0 (Fr.drew _ _),I.sl⟩,rfl⟩
theorem reg_draw {c:Code} {a:Act} {s:TS} {w:World} {K:TS->Prop} {t:Tr} (hc:regTr P n c t=true) (ha:Ag n a s.E) (I:Inv s w) (h:drT s λs=>trT P lv (Code.ops c) K t s []):wpx P n c (RegT n K) a w:=by
 unfold regTr at hc
 split at hc
 .rename_i id ops d
  simp only [Bool.and_eq_true] at hc
  obtain ⟨rfl,hm,hn,hl,h5⟩:=hc
  rw [Nat.beq_eq] at h5
  obtain ⟨s',hk,I',e⟩:=I.dr h
  have h1:=(trT_sound hn t false _ s' w.drew [] a _ hl (by rw [e];exact ha) I' (λp hp=>(by cases hp)) hk).1 rfl h5
  have h2:=wpAny_of_helds _ [] _ _ _ (Down.zero _ _) h1
  refine wpIn_region_draw λt=>?_
  refine wpOps_in hn (λ⟨_,_,h⟩=>h) _ _ _ ?_
  simp only [Region.schedule,hm,Bool.true_or,if_true]
  exact wpAny_sound ops.size t _ a _ h2
 .cases hc
end
end
abbrev KT:=Exit->TS->Prop
structure Tab where
 ord:Nat->Option Tr
 pt:List Bool->Option (TS->Prop)
 lv:List Nat
def ptT (tb:Tab) (q:List Bool) (f:TS->Prop) (s:TS):Prop:=match tb.pt q with
 |some F=>syn s F
 |none=>f s
def seqK (tb:Tab) (q:List Bool) (f:TS->Prop) (K:KT):KT:=λe s=>match e with
 |.normal=>ptT tb q f s
 |e=>K e s
def blkK (id:Nat) (K:KT):KT:=λe s=>match e with
 |.exit id'=>if id'=id then K .normal s else K (.exit id') s
 |e=>K e s
def cvc (P:Program) (n:Cx) (tb:Tab):Code->List Bool->KT->TS->Prop
 |.skip,_,K,s=>K .normal s
 |.region id ops true,_,K,s=>match tb.ord id with
  |some t=>AndT (regTr P n (.region id ops true) t) (drT s λs=>trT P tb.lv ops (K .normal) t s [])
  |none=>False
 |.region id ops false,_,K,s=>AndT (regT n (.region id ops false)) (runT P tb.lv ops false (K .normal) (List.range ops.size) s [])
 |.seq a b,q,K,s=>cvc P n tb a (false::q) (seqK tb (true::q) (cvc P n tb b (true::q) K) K) s
 |.cond o a b,q,K,s=>condK (s.E.val o) (ptT tb (false::q) (cvc P n tb a (false::q) K) s) (ptT tb (true::q) (cvc P n tb b (true::q) K) s)
 |.block id a,q,K,s=>cvc P n tb a (false::q) (blkK id K) s
 |.loop _,q,_,s=>ptT tb q (λ_=>False) s
 |.exit id,_,K,s=>K (.exit id) s
 |.ret,_,K,s=>K .ret s
 |_,_,_,_=>False
section
variable {P:Program} {n:Cx} {tb:Tab}
def posC (P:Program) (n:Cx) (c0:Code) (Q0:Exit->Act->World->Prop):List Bool->Code×(Exit->Act->World->Prop)
 |[]=>(c0,Q0)
 |b::q=>match posC P n c0 Q0 q,b with
  |(.seq x y,Q),false=>(x,Exit.then (wpx P n y Q) Q)
  |(.seq _ y,Q),true=>(y,Q)
  |(.cond _ x _,Q),false=>(x,Q)
  |(.cond _ _ y,Q),true=>(y,Q)
  |(.block id x,Q),_=>(x,Exit.inBlock id Q)
  |(.loop x,Q),_=>(x,Exit.then (LoopWP P n x Q) Q)
  |(_,Q),_=>(.skip,Q)
def AtC (P:Program) (n:Cx) (p:Code×(Exit->Act->World->Prop)) (a:Act) (w:World):Prop:=match p with
 |(.loop x,Q)=>LoopWP P n x Q a w
 |(c,Q)=>wpx P n c Q a w
theorem AtC.wp {c:Code} {Q:Exit->Act->World->Prop} {a:Act} {w:World} (h:AtC P n (c,Q) a w):wpx P n c Q a w:=by
 unfold AtC at h
 split at h
 .rename_i x Q' e
  cases e
  exact wp_of_loopWP h
 .rename_i c' Q' _ e
  cases e
  exact h
def KQ (n:Cx) (K:KT) (Q:Exit->Act->World->Prop):Prop:=∀e s w a,Ag n a s.E->Inv s w->K e s->Q e a w
def TabOk (P:Program) (n:Cx) (tb:Tab) (c0:Code) (Q0:Exit->Act->World->Prop):Prop:=∀q F,tb.pt q=some F->∀s w a,Ag n a s.E->Inv s w->F s->AtC P n (posC P n c0 Q0 q) a w
variable {c0:Code} {Q0:Exit->Act->World->Prop}
theorem ptT_sound (hT:TabOk P n tb c0 Q0) {q:List Bool} {c:Code} {Q:Exit->Act->World->Prop} (hp:posC P n c0 Q0 q=(c,Q)) {f:TS->Prop} {s:TS} {w:World} {a:Act} (ha:Ag n a s.E) (I:Inv s w) (hf:f s->wpx P n c Q a w) (h:ptT tb q f s):wpx P n c Q a w:=by
 unfold ptT at h
 split at h
 .rename_i F hF
  obtain ⟨I',h'⟩:=I.syn h
  have:=hT q F hF ⟨s.E,s.S,s.L,w,false⟩ w a ha I' h'
  rw [hp] at this
  exact this.wp
 .exact hf h
theorem region_sound {c:Code} {K:TS->Prop} {Q:Exit->Act->World->Prop} {a:Act} {w:World} (h:wpx P n c (RegT n K) a w) (hk:∀s w a,Ag n a s.E->Inv s w->K s->Q .normal a w):wpx P n c Q a w:=
 wpIn_mono h λe a' w' he=>by
  cases e with
  |normal=>obtain ⟨s',hA,hI,hK⟩:=he;exact hk s' w' a' hA hI hK
  |_=>exact he.elim
theorem cvc_sound (hT:TabOk P n tb c0 Q0):∀(c:Code) (q:List Bool) (K:KT) (Q:Exit->Act->World->Prop) (s:TS) (w:World) (a:Act),posC P n c0 Q0 q=(c,Q)->KQ n K Q->Ag n a s.E->Inv s w->cvc P n tb c q K s->wpx P n c Q a w
 |.skip,q,K,Q,s,w,a,hp,hK,ha,I,h=>wpIn_skip (hK _ _ _ _ ha I h)
 |.region id ops true,q,K,Q,s,w,a,hp,hK,ha,I,h=>by
  unfold cvc at h
  split at h
  .obtain ⟨h1,h2⟩:=AndT_elim h
   exact region_sound (reg_draw (c:=.region id ops true) h1 ha I h2) λs w a h1 h2 h3=>hK _ _ _ _ h1 h2 h3
  .exact h.elim
 |.region id ops false,q,K,Q,s,w,a,hp,hK,ha,I,h=>by
  unfold cvc at h
  obtain ⟨h1,h2⟩:=AndT_elim h
  exact region_sound (reg_text (c:=.region id ops false) h1 ha I h2) λs w a h1 h2 h3=>hK _ _ _ _ h1 h2 h3
 |.seq x y,q,K,Q,s,w,a,hp,hK,ha,I,h=>by
  unfold cvc at h
  have p1:posC P n c0 Q0 (false::q)=(x,Exit.then (wpx P n y Q) Q):=by unfold posC;rw [hp]
  have p2:posC P n c0 Q0 (true::q)=(y,Q):=by unfold posC;rw [hp]
  refine wpIn_seq (cvc_sound hT x (false::q) _ _ s w a p1 (λe s' w' a' ha' I' hk=>?_) ha I h)
  cases e with
  |normal=>exact ptT_sound hT p2 ha' I' (λh'=>cvc_sound hT y (true::q) K Q s' w' a' p2 hK ha' I' h') hk
  |_=>exact hK _ _ _ _ ha' I' hk
 |.cond o x y,q,K,Q,s,w,a,hp,hK,ha,I,h=>by
  unfold cvc at h
  have p1:posC P n c0 Q0 (false::q)=(x,Q):=by unfold posC;rw [hp]
  have p2:posC P n c0 Q0 (true::q)=(y,Q):=by unfold posC;rw [hp]
  unfold condK at h
  split at h
  .rename_i t ht
   refine wpIn_cond_split (ha.val ht) (λe=>?_) (λe=>?_)
   .subst e
    exact ptT_sound hT p1 ha I (λh'=>cvc_sound hT x (false::q) K Q s w a p1 hK ha I h') h
   .subst e
    exact ptT_sound hT p2 ha I (λh'=>cvc_sound hT y (true::q) K Q s w a p2 hK ha I h') h
  .exact h.elim
 |.block id x,q,K,Q,s,w,a,hp,hK,ha,I,h=>by
  unfold cvc at h
  have p1:posC P n c0 Q0 (false::q)=(x,Exit.inBlock id Q):=by unfold posC;rw [hp]
  refine wpIn_block (cvc_sound hT x (false::q) _ _ s w a p1 (λe s' w' a' ha' I' hk=>?_) ha I h)
  cases e with
  |exit id'=>
   simp only [blkK] at hk
   simp only [Exit.inBlock]
   split at hk
   .rename_i e;rw [if_pos e];exact hK _ _ _ _ ha' I' hk
   .rename_i e;rw [if_neg e];exact hK _ _ _ _ ha' I' hk
  |_=>exact hK _ _ _ _ ha' I' hk
 |.loop x,q,K,Q,s,w,a,hp,hK,ha,I,h=>by
  unfold cvc at h
  exact ptT_sound hT hp ha I (λh'=>h'.elim) h
 |.exit id,q,K,Q,s,w,a,hp,hK,ha,I,h=>wpIn_exit (hK _ _ _ _ ha I h)
 |.ret,q,K,Q,s,w,a,hp,hK,ha,I,h=>wpIn_ret (hK _ _ _ _ ha I h)
 |.rangeFunc ..,_,_,_,_,_,_,_,_,_,_,h=>h.elim
 |.scope _,_,_,_,_,_,_,_,_,_,_,h=>h.elim
 |.label _,_,_,_,_,_,_,_,_,_,_,h=>h.elim
 |.goto _,_,_,_,_,_,_,_,_,_,_,h=>h.elim
 |.refuse _,_,_,_,_,_,_,_,_,_,_,h=>h.elim
def loopK (tb:Tab) (q:List Bool) (K:KT):KT:=λe s=>match e with
 |.normal=>ptT tb q (λ_=>False) s
 |e=>K e s
def kat (P:Program) (n:Cx) (tb:Tab) (c0:Code) (K0:KT):List Bool->Code×KT
 |[]=>(c0,K0)
 |b::q=>match kat P n tb c0 K0 q,b with
  |(.seq x y,K),false=>(x,seqK tb (true::q) (cvc P n tb y (true::q) K) K)
  |(.seq _ y,K),true=>(y,K)
  |(.cond _ x _,K),false=>(x,K)
  |(.cond _ _ y,K),true=>(y,K)
  |(.block id x,K),_=>(x,blkK id K)
  |(.loop x,K),_=>(x,loopK tb q K)
  |(_,K),_=>(.skip,K)
theorem kat_sound (hT:TabOk P n tb c0 Q0) {K0:KT} (h0:KQ n K0 Q0):∀q:List Bool,(kat P n tb c0 K0 q).1=(posC P n c0 Q0 q).1/\KQ n (kat P n tb c0 K0 q).2 (posC P n c0 Q0 q).2
 |[]=>⟨rfl,h0⟩
 |b::q=>by
  obtain ⟨h1,h2⟩:=kat_sound hT h0 q
  unfold kat posC
  generalize hp:posC P n c0 Q0 q=p at h1 h2
  generalize kat P n tb c0 K0 q=k at h1 h2
  obtain ⟨c,Q⟩:=p
  obtain ⟨c',K⟩:=k
  simp only at h1 h2
  subst h1
  cases c' with
  |seq x y=>
   cases b with
   |false=>
    refine ⟨rfl,λe s w a ha I hk=>?_⟩
    cases e with
    |normal=>
     have p2:posC P n c0 Q0 (true::q)=(y,Q):=by unfold posC;rw [hp]
     exact ptT_sound hT p2 ha I (λh'=>cvc_sound hT y (true::q) K Q s w a p2 h2 ha I h') hk
    |_=>exact h2 _ _ _ _ ha I hk
   |true=>exact ⟨rfl,h2⟩
  |cond o x y=>cases b<;>exact ⟨rfl,h2⟩
  |block id x=>
   cases b<;>(
    refine ⟨rfl,λe s w a ha I hk=>?_⟩
    cases e with
    |exit id'=>
     simp only [blkK] at hk
     simp only [Exit.inBlock]
     split at hk
     .rename_i e;rw [if_pos e];exact h2 _ _ _ _ ha I hk
     .rename_i e;rw [if_neg e];exact h2 _ _ _ _ ha I hk
    |_=>exact h2 _ _ _ _ ha I hk)
  |loop x=>
   cases b<;>(
    refine ⟨rfl,λe s w a ha I hk=>?_⟩
    cases e with
    |normal=>
     simp only [loopK,ptT] at hk
     split at hk
     .rename_i F hF
      obtain ⟨I',h'⟩:=I.syn hk
      have:=hT q F hF ⟨s.E,s.S,s.L,w,false⟩ w a ha I' h'
      rw [hp] at this
      exact this
     .exact hk.elim
    |_=>exact h2 _ _ _ _ ha I hk)
  |_=>cases b<;>exact ⟨rfl,h2⟩
def condAt (P:Program) (n:Cx) (tb:Tab) (c0:Code) (K0:KT) (q:List Bool) (s:TS):Prop:=match kat P n tb c0 K0 q with
 |(.loop x,K)=>cvc P n tb x (false::q) (loopK tb q K) s
 |(c,K)=>cvc P n tb c q K s
theorem condAt_sound (hT:TabOk P n tb c0 Q0) {K0:KT} (h0:KQ n K0 Q0) {q:List Bool} {s:TS} {w:World} {a:Act} (ha:Ag n a s.E) (I:Inv s w) (h:condAt P n tb c0 K0 q s):AtC P n (posC P n c0 Q0 q) a w:=by
 obtain ⟨h1,h2⟩:=kat_sound hT h0 q
 have h3:=kat_sound hT h0 (false::q)
 unfold condAt at h
 generalize hp:posC P n c0 Q0 q=p at h1 h2
 generalize hk:kat P n tb c0 K0 q=k at h h1 h2
 obtain ⟨c,Q⟩:=p
 obtain ⟨c',K⟩:=k
 simp only at h1 h2
 subst h1
 cases c' with
 |loop x=>
  have p1:posC P n c0 Q0 (false::q)=(x,Exit.then (LoopWP P n x Q) Q):=by unfold posC;rw [hp]
  have k1:kat P n tb c0 K0 (false::q)=(x,loopK tb q K):=by unfold kat;rw [hk]
  rw [p1,k1] at h3
  exact loopWP_step (cvc_sound hT x (false::q) _ _ s w a p1 h3.2 ha I h)
 |_=>exact cvc_sound hT _ q K Q s w a hp h2 ha I h
end
section
variable {P:Program}
def retT (P:Program) (s:TS):List ResultVar->(List Value->Prop)->Prop
 |[],K=>K []
 |.tmp t::l,K=>match s.E.get? t with
  |some v=>retT P s l λvs=>K (v::vs)
  |none=>False
 |.cell x T::l,K=>match s.S.get? x with
  |some (i,j)=>match s.L[i]? with
   |some X=>ldT P T X.2.1 j λv=>retT P s l λvs=>K (v::vs)
   |none=>False
  |none=>match s.E.get? x with
   |some (.pointer (some p))=>ldVC P T p s.w λv _=>retT P s l λvs=>K (v::vs)
   |_=>False
def retK (P:Program) (fn:Func) (R:Post):KT:=λe s=>match e with
 |.normal|.ret=>syn s λs=>retT P s fn.results.toList λvs=>R (.returned (packR vs)) s.w
 |_=>False
theorem retT_sound {n:Cx} {a:Act} {s:TS} {w:World} (ha:Ag n a s.E) (I:Inv s w) (hw:s.w=w):∀{l:List ResultVar} {K:List Value->Prop},retT P s l K->
  ∃vs,(l.mapM (resOf a.tmps)).run P w=.ok vs w/\K vs
 |[],K,h=>⟨[],by simp,h⟩
 |.tmp t::l,K,h=>by
  unfold retT at h
  split at h
  .rename_i v hv
   obtain ⟨vs,hr,hk⟩:=retT_sound ha I hw h
   refine ⟨v::vs,?_,hk⟩
   have hg:=ha.get t v hv
   simp [List.mapM_cons,resOf,hr,hg]
  .exact h.elim
 |.cell x T::l,K,h=>by
  have fin:∀(p:Addr) (v:Value),s.E.get? x=some (.pointer (some p))->(loadVar T p).run P w=.ok v w->(retT P s l λvs=>K (v::vs))->∃vs,((ResultVar.cell x T::l).mapM (resOf a.tmps)).run P w=.ok vs w/\K vs:=λp v hp hv h=>by
   obtain ⟨vs,hr,hk⟩:=retT_sound ha I hw h
   refine ⟨v::vs,?_,hk⟩
   have hg:=ha.get x _ hp
   simp [List.mapM_cons,resOf,hr,hg,asAddr,hv]
  unfold retT at h
  split at h
  .rename_i i j hx
   obtain ⟨X,h1,h2⟩:=I.sl x i j hx
   rw [h1] at h
   obtain ⟨v,hk,hv⟩:=ldT_sound (b:=X.1) (ty:=X.2.2) h
   exact fin _ v h2 (hv w (I.lc.own i X h1)) hk
  .split at h
   .rename_i p hp
    rw [hw] at h
    obtain ⟨v,S,h,hs1,hs2⟩:=ldVC_sound h
    exact fin p v hp (hs2 w hs1) h
   .exact h.elim
theorem retK_sound {m:Nat} {fn:Func} {R:Post}:KQ (cx m) (retK P fn R) (bodyPost P fn R):=by
 intro e s w a ha I h
 have go:(syn s λs=>retT P s fn.results.toList λvs=>R (.returned (packR vs)) s.w)->a.defers=[]/\∃v,(results fn a.tmps).run P w=.ok v w/\R (.returned v) w:=λh=>by
  obtain ⟨I',h'⟩:=I.syn h
  obtain ⟨vs,hr,hk⟩:=retT_sound (s:=⟨s.E,s.S,s.L,w,false⟩) ha I' rfl h'
  refine ⟨ha.defers,_,?_,hk⟩
  rw [results_eq,<-Array.toArray_toList (xs:=fn.results),List.mapM_toArray]
  simp only [Sem.run_bind,Sem.run_map,hr,Result.andThen_ok,Sem.run_pure]
  congr 1
  cases vs with
  |nil=>rfl
  |cons v vs=>cases vs<;>rfl
 unfold retK at h
 cases e with
 |normal=>exact go h
 |ret=>exact go h
 |_=>exact h.elim
theorem calls_of_cvc {f:FuncId} {fn:Func} {c:Code} {args:List Value} {w:World} {R:Post} {tb:Tab} (hf:P.funcs[f]? =some fn) (hb:fn.body=some c) (hsz:Nat.ble args.length fn.ntmps=true)
  (hT:TabOk P (cx fn.ntmps) tb c (bodyPost P fn R)) (h:cvc P (cx fn.ntmps) tb c [] (retK P fn R) ⟨envOf 0 args,[],[],w,false⟩):Calls P f args.toArray w R:=
 calls_of_WP' hf hb hsz λa ha=>cvc_sound hT c [] _ _ _ w a rfl retK_sound ha ⟨LC.nil _,by simp,λt i j h=>by cases h⟩ h
end
inductive Sh
 |i (k:IntKind)|b|st|s|p|r|m|v|f
def Sh.T:Sh->Type
 |.i _=>Int
 |.b=>Bool
 |.st=>ByteArray
 |.s=>Sl
 |.p=>Option Addr
 |.r=>Addr
 |.m=>Option Nat
 |.v=>Value
 |.f=>Fv
def Sh.val:(h:Sh)->h.T->Value
 |.i k,x=>.int k x
 |.b,x=>.bool x
 |.st,x=>.string x
 |.s,x=>Sl.v x
 |.p,x=>.pointer x
 |.r,x=>.pointer (some x)
 |.m,x=>.map x
 |.v,x=>x
 |.f,x=>Fv.v x
def Sh.rd (h:Sh) (v:Value) (K:h.T->Prop):Prop:=match h,v,K with
 |.i k,.int k' x,K=>AndT (k'==k) (K x)
 |.b,.bool x,K=>K x
 |.st,.string x,K=>K x
 |.s,.slice a n c,K=>K ⟨a,n,c⟩
 |.p,.pointer x,K=>K x
 |.r,.pointer (some x),K=>K x
 |.m,.map x,K=>K x
 |.v,x,K=>K x
 |.f,.func (.func n) bs cs,K=>K ⟨n,bs,cs⟩
 |_,_,_=>False
theorem Sh.rd_elim {h:Sh} {v:Value} {K:h.T->Prop} (hr:h.rd v K):∃x,v=h.val x/\K x:=by
 unfold Sh.rd at hr
 split at hr<;>first |exact hr.elim|skip
 .obtain ⟨h1,h2⟩:=AndT_elim hr
  have:=eq_of_beq h1
  subst this
  exact ⟨_,rfl,h2⟩
 all_goals exact ⟨_,rfl,hr⟩
inductive Tk
 |o (h:Sh)|a (k:Nat)|t (k:Nat)|g (n j k:Nat)
abbrev Tk.I:Tk:=.o (.i .i64)
abbrev Tk.U:Tk:=.o (.i .u64)
abbrev Tk.Y:Tk:=.o (.i .u8)
abbrev Tk.i (k:IntKind):Tk:=.o (.i k)
abbrev Tk.b:Tk:=.o .b
abbrev Tk.st:Tk:=.o .st
abbrev Tk.s:Tk:=.o .s
abbrev Tk.p:Tk:=.o .p
abbrev Tk.r:Tk:=.o .r
abbrev Tk.m:Tk:=.o .m
abbrev Tk.v:Tk:=.o .v
abbrev Tk.f:Tk:=.o .f
def Curs:List Tk->Type->Type
 |[],X=>X
 |.o h::l,X=>h.T->Curs l X
 |.a _::l,X=>Curs l X
 |.t _::l,X=>Curs l X
 |.g _ _ _::l,X=>Curs l X
inductive Sp
 |v (l:List Tk)
 |l (l:List Tk) (T:TypeId)
def Cur:List (Nat×Sp)->Type
 |[]=>World->Post->Prop
 |(_,.v ts)::l=>Curs ts (Cur l)
 |(_,.l ts _)::l=>Nat->Curs ts (Cur l)
def rds:(ts:List Tk)->(X:Type)->List Value->Curs ts X->(X->Prop)->Prop
 |[],_,[],F,K=>K F
 |.o h::ts,X,v::vs,F,K=>h.rd v λx=>rds ts X vs (F x) K
 |.a k::ts,X,.agg a::vs,F,K=>AndT (Nat.beq a.toList.length k) (rds ts X (a.toList++vs) F K)
 |.t k::ts,X,.tuple a::vs,F,K=>AndT (Nat.beq a.toList.length k) (rds ts X (a.toList++vs) F K)
 |.g n j k::ts,X,.func (.func m) bs cs::vs,F,K=>AndT (Nat.beq n m&&Nat.beq bs.toList.length j&&Nat.beq cs.toList.length k) (rds ts X (bs.toList++(cs.toList++vs)) F K)
 |_,_,_,_,_=>False
def mks:(ts:List Tk)->(X:Type)->(List Value->X)->Curs ts X
 |[],_,K=>K []
 |.o h::ts,X,K=>λx=>mks ts X λvs=>K (h.val x::vs)
 |.a k::ts,X,K=>mks ts X λvs=>K (.agg (vs.take k).toArray::vs.drop k)
 |.t k::ts,X,K=>mks ts X λvs=>K (.tuple (vs.take k).toArray::vs.drop k)
 |.g n j k::ts,X,K=>mks ts X λvs=>K (.func (.func n) (vs.take j).toArray ((vs.drop j).take k).toArray::(vs.drop j).drop k)
theorem rds_mks:∀{ts:List Tk} {X:Type} {vs:List Value} {K:List Value->X} {K2:X->Prop},rds ts X vs (mks ts X K) K2->K2 (K vs):=by
 intro ts
 induction ts with
 |nil=>
  intro X vs K K2 hr
  cases vs with
  |nil=>exact hr
  |cons _ _=>exact hr.elim
 |cons t ts ih=>
  intro X vs K K2 hr
  cases t with
  |o h=>
   cases vs with
   |nil=>exact hr.elim
   |cons v vs=>
    obtain ⟨x,rfl,h'⟩:=Sh.rd_elim hr
    exact ih (K:=λvs=>K (h.val x::vs)) h'
  |a k=>
   cases vs with
   |nil=>exact hr.elim
   |cons v vs=>
    cases v with
    |agg a=>
     obtain ⟨h1,h2⟩:=AndT_elim (show AndT (Nat.beq a.toList.length k) (rds ts X (a.toList++vs) _ K2) from hr)
     rw [Nat.beq_eq] at h1
     have:=ih (K:=λvs=>K (.agg (vs.take k).toArray::vs.drop k)) h2
     rw [List.take_left' h1,List.drop_left' h1] at this
     exact this
    |_=>exact hr.elim
  |t k=>
   cases vs with
   |nil=>exact hr.elim
   |cons v vs=>
    cases v with
    |tuple a=>
     obtain ⟨h1,h2⟩:=AndT_elim (show AndT (Nat.beq a.toList.length k) (rds ts X (a.toList++vs) _ K2) from hr)
     rw [Nat.beq_eq] at h1
     have:=ih (K:=λvs=>K (.tuple (vs.take k).toArray::vs.drop k)) h2
     rw [List.take_left' h1,List.drop_left' h1] at this
     exact this
    |_=>exact hr.elim
  |g n j k=>
   cases vs with
   |nil=>exact hr.elim
   |cons v vs=>
    cases v with
    |func fr bs cs=>
     cases fr with
     |func m=>
      obtain ⟨h1,h2⟩:=AndT_elim (show AndT (Nat.beq n m&&Nat.beq bs.toList.length j&&Nat.beq cs.toList.length k) (rds ts X (bs.toList++(cs.toList++vs)) _ K2) from hr)
      rw [Bool.and_eq_true,Bool.and_eq_true,Nat.beq_eq,Nat.beq_eq,Nat.beq_eq] at h1
      obtain ⟨⟨h3,h4⟩,h5⟩:=h1
      have:=ih (K:=λvs=>K (.func (.func n) (vs.take j).toArray ((vs.drop j).take k).toArray::(vs.drop j).drop k)) h2
      rw [List.take_left' h4,List.drop_left' h4,List.take_left' h5,List.drop_left' h5,h3] at this
      exact this
     |_=>exact hr.elim
    |_=>exact hr.elim
def mkCur:(l:List (Nat×Sp))->Nat->(Env->Sv->Lv->World->Post->Prop)->Cur l
 |[],_,K=>K [] [] []
 |(t,.v ts)::l,n,K=>mks ts (Cur l) λvs=>mkCur l n λE S L=>K ((t,vs.headD undef)::E) S L
 |(t,.l ts T)::l,n,K=>λb=>mks ts (Cur l) λvs=>mkCur l (n+1) λE S L=>K ((t,.pointer (some (at0 b)))::E) ((t,some (n,0))::S) ((b,vs,T)::L)
def rdCur:(l:List (Nat×Sp))->Cur l->TS->List Nat->World->Post->Prop
 |[],F,_,_,w,R=>F w R
 |(t,.v ts)::l,F,s,is,w,R=>match s.E.get? t with
  |some v=>rds ts (Cur l) [v] F λG=>rdCur l G s is w R
  |none=>False
 |(t,.l ts T)::l,F,s,is,w,R=>match s.S.get? t with
  |some (i,0)=>match s.L[i]? with
   |some X=>AndT (Nat.beq X.2.2 T&&!is.any (Nat.beq i)) (rds ts (Cur l) X.2.1 (F X.1) λG=>rdCur l G s (i::is) w R)
   |none=>False
  |_=>False
theorem get_cons {E E':Env} {t:Nat} {v:Value} (ht:E'.get? t=some v) (h:∀t v,E.get? t=some v->E'.get? t=some v):∀t' v',Env.get? ((t,v)::E) t'=some v'->E'.get? t'=some v':=λt' v' hv=>by
 simp only [Env.get?] at hv
 cases hb:Nat.beq t t' with
 |true=>
  rw [hb,cond_true] at hv
  rw [Nat.beq_eq] at hb
  subst hb
  cases hv
  exact ht
 |false=>
  rw [hb,cond_false] at hv
  exact h t' v' hv
structure RdS (s:TS) (n:Nat) (is js:List Nat) (E:Env) (S:Sv):Prop where
 sub:∀t v,E.get? t=some v->s.E.get? t=some v
 nd:js.Nodup
 dj:∀j∈js,j∉is
 lt:∀j∈js,∃X,s.L[j]? =some X
 sl:∀t i k,S.get? t=some (i,k)->n<=i/\∃j,js[i - n]? =some j/\s.S.get? t=some (j,k)/\∃v,E.get? t=some v
theorem rdCur_mk {s:TS} {w:World} (I:Inv s w) {R:Post}:∀{l:List (Nat×Sp)} {n:Nat} {K:Env->Sv->Lv->World->Post->Prop} {is:List Nat},rdCur l (mkCur l n K) s is w R->
  ∃E S js,RdS s n is js E S/\K E S (js.filterMap λj=>(s.L[j]? :Option (Nat×List Value×TypeId))) w R:=by
 intro l
 induction l with
 |nil=>
  intro n K is h
  exact ⟨[],[],[],⟨λt v h=>by (simp [Env.get?] at h),.nil,λ_ h=>by (cases h),λ_ h=>by (cases h),λt i k h=>by (cases h)⟩,h⟩
 |cons p l ih=>
  intro n K is h
  obtain ⟨t,sp⟩:=p
  cases sp with
  |v ts=>
   unfold rdCur at h
   split at h
   .rename_i v hv
    have h':=rds_mks (K:=λvs=>mkCur l n λE S L=>K ((t,vs.headD undef)::E) S L) h
    obtain ⟨E,S,js,hr,hk⟩:=ih h'
    refine ⟨(t,v)::E,S,js,⟨get_cons hv hr.sub,hr.nd,hr.dj,hr.lt,λt' i k hs=>?_⟩,hk⟩
    obtain ⟨h1,j,h2,h3,v',h4⟩:=hr.sl t' i k hs
    refine ⟨h1,j,h2,h3,?_⟩
    simp only [Env.get?]
    cases Nat.beq t t' with
    |true=>exact ⟨_,rfl⟩
    |false=>exact ⟨_,h4⟩
   .exact h.elim
  |l ts T=>
   unfold rdCur at h
   split at h
   .rename_i i hi
    split at h
    .rename_i X hX
     obtain ⟨h1,h2⟩:=AndT_elim h
     rw [Bool.and_eq_true,Nat.beq_eq,Bool.not_eq_true',List.any_eq_false] at h1
     have h':=rds_mks (K:=λvs=>mkCur l (n+1) λE S L=>K ((t,.pointer (some (at0 X.1)))::E) ((t,some (n,0))::S) ((X.1,vs,T)::L)) h2
     obtain ⟨E,S,js,hr,hk⟩:=ih h'
     obtain ⟨X',hX',hp⟩:=I.sl t i 0 hi
     rw [hX] at hX'
     cases hX'
     refine ⟨(t,.pointer (some (at0 X.1)))::E,(t,some (n,0))::S,i::js,⟨get_cons ?_ hr.sub,List.nodup_cons.2 ⟨λhm=>hr.dj i hm (by simp),hr.nd⟩,λj hj=>?_,λj hj=>?_,λt' i' k hs=>?_⟩,?_⟩
     .rw [hp,add0]
     .rcases qmC.1 hj with rfl|hj
      .intro hm
       have:=h1.2 j hm
       simp at this
      .exact λhm=>hr.dj j hj (qmCM _ hm)
     .rcases qmC.1 hj with rfl|hj
      .exact ⟨X,hX⟩
      .exact hr.lt j hj
     .simp only [Sv.get?] at hs
      cases hb:Nat.beq t t' with
      |true=>
       rw [hb,cond_true] at hs
       rw [Nat.beq_eq] at hb
       subst hb
       cases hs
       refine ⟨Nat.le_refl _,i,by simp,hi,.pointer (some (at0 X.1)),?_⟩
       simp [Env.get?]
      |false=>
       rw [hb,cond_false] at hs
       obtain ⟨g1,j,g2,g3,v',g4⟩:=hr.sl t' i' k hs
       refine ⟨by omega,j,?_,g3,v',?_⟩
       .have:i' - n=(i' - (n+1))+1:=by omega
        rw [this,List.getElem?_cons_succ]
        exact g2
       .simp only [Env.get?,hb,cond_false]
        exact g4
     .have e:(X.1,X.2.1,T)=X:=by rw [<-h1.1]
      rw [List.filterMap_cons_some hX]
      simp only [e] at hk
      exact hk
    .exact h.elim
   .exact h.elim
theorem RdS.inv {s:TS} {w:World} (I:Inv s w) {js:List Nat} {E:Env} {S:Sv} (h:RdS s 0 [] js E S):Inv ⟨E,S,js.filterMap λj=>(s.L[j]? :Option (Nat×List Value×TypeId)),w,false⟩ w:=by
 refine ⟨I.lc.pick js h.nd,by simp,λt i k hs=>?_⟩
 obtain ⟨-,j,h2,h3,v,h4⟩:=h.sl t i k hs
 obtain ⟨X,hX,hp⟩:=I.sl t j k h3
 have:=h.sub t v h4
 rw [hp] at this
 cases this
 refine ⟨X,?_,h4⟩
 have all:∀(js:List Nat) (i:Nat),(∀j∈js,∃X,s.L[j]? =some X)->js[i]? =some j->(js.filterMap λj=>(s.L[j]? :Option (Nat×List Value×TypeId)))[i]? =some X:=by
  intro js
  induction js with
  |nil=>intro i _ hi;simp at hi
  |cons a js ih=>
   intro i hl hi
   obtain ⟨Y,hY⟩:=hl a (by simp)
   rw [List.filterMap_cons_some hY]
   cases i with
   |zero=>simp at hi;subst hi;rw [hX] at hY;cases hY;rfl
   |succ i=>simpa using ih i (λj hj=>hl j (qmCM _ hj)) (by simpa using hi)
 exact all js i h.lt (by simpa using h2)
def Imps:(ts:List Tk)->(X:Type)->(X->X->Prop)->Curs ts X->Curs ts X->Prop
 |[],_,r,F,G=>r F G
 |.o h::ts,X,r,F,G=>∀x:h.T,Imps ts X r (F x) (G x)
 |.a _::ts,X,r,F,G=>Imps ts X r F G
 |.t _::ts,X,r,F,G=>Imps ts X r F G
 |.g _ _ _::ts,X,r,F,G=>Imps ts X r F G
def Imp:(l:List (Nat×Sp))->Cur l->Cur l->Prop
 |[],F,G=>∀(w:World) (R:Post),F w R->G w R
 |(_,.v ts)::l,F,G=>Imps ts (Cur l) (Imp l) F G
 |(_,.l ts _)::l,F,G=>∀b:Nat,Imps ts (Cur l) (Imp l) (F b) (G b)
theorem imps_mk:∀{ts:List Tk} {X:Type} {r:X->X->Prop} {K1 K2:List Value->X},(∀vs,r (K1 vs) (K2 vs))->Imps ts X r (mks ts X K1) (mks ts X K2):=by
 intro ts
 induction ts with
 |nil=>intro X r K1 K2 h;exact h []
 |cons t ts ih=>
  intro X r K1 K2 h
  cases t with
  |o hh=>intro x;exact ih λvs=>h _
  |a k=>exact ih λvs=>h _
  |t k=>exact ih λvs=>h _
  |g n j k=>exact ih λvs=>h _
theorem imp_mk:∀{l:List (Nat×Sp)} {n:Nat} {K1 K2:Env->Sv->Lv->World->Post->Prop},(∀E S L w R,K1 E S L w R->K2 E S L w R)->Imp l (mkCur l n K1) (mkCur l n K2):=by
 intro l
 induction l with
 |nil=>intro n K1 K2 h w R;exact h _ _ _ w R
 |cons p l ih=>
  intro n K1 K2 h
  obtain ⟨t,sp⟩:=p
  cases sp with
  |v ts=>exact imps_mk λvs=>ih λE S L w R=>h _ _ _ w R
  |l ts T=>intro b;exact imps_mk λvs=>ih λE S L w R=>h _ _ _ w R
structure Fx where
 P:Program
 fn:Func
 ord:List (Nat×Tr)
 lv:List Nat
def Fx.c (X:Fx):Code:=X.fn.body.getD .skip
def Fx.n (X:Fx):Cx:=cx X.fn.ntmps
def lkO:List (Nat×Tr)->Nat->Option Tr
 |[],_=>none
 |(i,l)::o,j=>bif Nat.beq i j then some l else lkO o j
def Fx.at (X:Fx) (q:List Bool) (R:Post) (a:Act) (w:World):Prop:=AtC X.P X.n (posC X.P X.n X.c (bodyPost X.P X.fn R) q) a w
def Fx.Sem (X:Fx) (q:List Bool) (E:Env) (S:Sv) (L:Lv) (w:World) (R:Post):Prop:=∀a,Ag X.n a E->Inv ⟨E,S,L,w,false⟩ w->X.at q R a w
structure Ent (X:Fx) where
 q:List Bool
 sp:List (Nat×Sp)
 F:Cur sp
 ok:∀(R:Post) (s:TS) (w:World) (a:Act),Ag X.n a s.E->Inv s w->rdCur sp F s [] w R->X.at q R a w
def beqQ:List Bool->List Bool->Bool
 |[],[]=>true
 |a::l,b::m=>(match a,b with |true,true=>true|false,false=>true|_,_=>false)&&beqQ l m
 |_,_=>false
theorem beqQ_eq:∀{l m:List Bool},beqQ l m=true->l=m
 |[],[],_=>rfl
 |a::l,b::m,h=>by
  unfold beqQ at h
  rw [Bool.and_eq_true] at h
  rw [beqQ_eq h.2]
  cases a<;>cases b<;>simp_all
 |[],_::_,h=>by cases h
 |_::_,[],h=>by cases h
def lkE {X:Fx} (R:Post):List (Ent X)->List Bool->Option (TS->Prop)
 |[],_=>none
 |e::es,q=>bif beqQ e.q q then some λs=>match s.d with
  |true=>False
  |false=>rdCur e.sp e.F s [] s.w R else lkE R es q
def Fx.tab (X:Fx) (es:List (Ent X)) (R:Post):Tab:=⟨lkO X.ord,lkE R es,X.lv⟩
theorem Fx.tabOk {X:Fx} {es:List (Ent X)} {R:Post}:TabOk X.P X.n (X.tab es R) X.c (bodyPost X.P X.fn R):=by
 intro q F hF s w a ha I h
 have hF':lkE R es q=some F:=hF
 clear hF
 induction es with
 |nil=>cases hF'
 |cons e es ih=>
  unfold lkE at hF'
  cases hb:beqQ e.q q with
  |true=>
   rw [hb,cond_true] at hF'
   cases hF'
   have:=beqQ_eq hb
   subst this
   cases hd:s.d with
   |true=>rw [hd] at h;exact h.elim
   |false=>
    rw [hd] at h
    have hr:=I.rel
    rw [hd] at hr
    have hw:w=s.w:=by simpa using hr
    rw [<-hw] at h
    exact e.ok R s w a ha I h
  |false=>
   rw [hb,cond_false] at hF'
   exact ih hF'
def Fx.Cnd (X:Fx) (es:List (Ent X)) (q:List Bool) (E:Env) (S:Sv) (L:Lv) (w:World) (R:Post):Prop:=condAt X.P X.n (X.tab es R) X.c (retK X.P X.fn R) q ⟨E,S,L,w,false⟩
theorem Fx.cnd_sem {X:Fx} {es:List (Ent X)} {q:List Bool} {E:Env} {S:Sv} {L:Lv} {w:World} {R:Post} (h:X.Cnd es q E S L w R):X.Sem q E S L w R:=λa ha I=>condAt_sound (s:=⟨E,S,L,w,false⟩) (Fx.tabOk (es:=es)) retK_sound ha I h
theorem ent_ok {X:Fx} {q:List Bool} {sp:List (Nat×Sp)} {K:Env->Sv->Lv->World->Post->Prop} (hk:∀E S L w R,K E S L w R->X.Sem q E S L w R) (R:Post) (s:TS) (w:World) (a:Act) (ha:Ag X.n a s.E) (I:Inv s w) (h:rdCur sp (mkCur sp 0 K) s [] w R):X.at q R a w:=by
 obtain ⟨E,S,js,hr,hK⟩:=rdCur_mk I h
 exact hk _ _ _ _ _ hK a ⟨ha.defers,ha.size,λt v hv=>ha.get t v (hr.sub t v hv)⟩ (hr.inv I)
def entL (X:Fx) (q:List Bool) (sp:List (Nat×Sp)) (F:Cur sp) (e:F=mkCur sp 0 (X.Sem q):=by kernel_rfl):Ent X:=⟨q,sp,F,λR s w a ha I h=>by
 subst e;exact ent_ok (λ_ _ _ _ _ h=>h) R s w a ha I h⟩
def entS (X:Fx) (es:List (Ent X)) (q:List Bool) (sp:List (Nat×Sp)) (F:Cur sp) (e:F=mkCur sp 0 (X.Cnd es q):=by kernel_rfl):Ent X:=⟨q,sp,F,λR s w a ha I h=>by
 subst e;exact ent_ok (λ_ _ _ _ _ h=>Fx.cnd_sem h) R s w a ha I h⟩
theorem stepL {X:Fx} (es:List (Ent X)) (q:List Bool) (sp:List (Nat×Sp)):Imp sp (mkCur sp 0 (X.Cnd es q)) (mkCur sp 0 (X.Sem q)):=imp_mk λ_ _ _ _ _ h=>Fx.cnd_sem h
theorem callsX (X:Fx) (es:List (Ent X)) {f:FuncId} {args:List Value} {w:World} {R:Post} {T:Prop} (h:T) (hf:X.P.funcs[f]? =some X.fn:=by kernel_rfl) (hb:X.fn.body=some X.c:=by kernel_rfl) (hsz:Nat.ble args.length X.fn.ntmps=true:=by kernel_rfl)
  (e:T=cvc X.P X.n (X.tab es R) X.c [] (retK X.P X.fn R) ⟨envOf 0 args,[],[],w,false⟩:=by kernel_rfl):Calls X.P f args.toArray w R:=
 calls_of_cvc hf hb hsz Fx.tabOk (e▸h)
def pthB:Bool->List Nat->List Bool
 |_,[]=>[]
 |b,n::l=>List.replicate n b++pthB (!b) l
abbrev pth (l:List Nat):List Bool:=pthB true l
abbrev Ps:=List (Nat×Sp)
abbrev ls (l:List Nat):Tr:=Tr.sq l .nil
end Go.W
