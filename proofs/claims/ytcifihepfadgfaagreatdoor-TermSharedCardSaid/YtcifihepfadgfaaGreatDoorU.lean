import Derived.Test.YtcifihepfadgfaaGreatDoorW
import Derived.KernelRfl
set_option linter.unusedVariables false
namespace Go.W
open List renaming mem_cons->cU,getElem?_eq_some_iff->oN,mem_map->oT,mem_cons_of_mem->qmCM
abbrev Lv:=List (Nat×List Value×TypeId)
abbrev Sv:=List (Nat×Option (Nat×Nat))
def Sv.get? :Sv->Nat->Option (Nat×Nat)
 |[],_=>none
 |(k,v)::S,t=>bif Nat.beq k t then v else Sv.get? S t
def Sv.at (S:Sv):Operand->Option (Nat×Nat)
 |.tmp t=>S.get? t
 |_=>none
def Sv.put (S:Sv) (d:Option Nat) (o:Option (Nat×Nat)):Sv:=match d with
 |some d=>(d,o)::S
 |none=>S
structure TS where
 E:Env
 S:Sv
 L:Lv
 w:World
 d:Bool
abbrev HT:=List (Nat×Option Nat×(World->Prop))
def xD (s:TS) (K:TS->Prop):Prop:=match s.d with
 |true=>loc (pE s.L) s.w λw=>K ⟨s.E,s.S,s.L,w,false⟩
 |false=>K s
def shp:Value->Value->Bool
 |.int k _,.int k' _=>k==k'
 |.bool _,.bool _=>true
 |.string _,.string _=>true
 |.slice _ _ _,.slice _ _ _=>true
 |.pointer _,.pointer _=>true
 |.map _,.map _=>true
 |.int ..,_|.bool _,_|.string _,_|.slice ..,_|.pointer _,_|.map _,_=>false
 |_,_=>true
def Qd:List Value->List Value->Bool
 |[],[]=>true
 |z::zs,v::vs=>shp z v&&Qd zs vs
 |_,_=>false
def Z3 (P:Program) (T:TypeId) (cs:List Value) (j:Nat) (K:Value->Prop):Prop:=
 hG (Hr P T)<|match zeroOf P T with
 |.agg zs=>hG (Qd zs.toList ((cs.drop j).take zs.size)) (K (.agg ((cs.drop j).take zs.size).toArray))
 |.nilFunc=>False
 |z=>match cs[j]? with
  |some v=>hG (shp z v) (K v)
  |none=>False
def DL (P:Program) (T:TypeId) (f:Nat):Option Nat:=match P.underlying T with
 |some (.struct fs)=>match fs[f]? with
  |some f=>match P.info? f.type with
   |some i=>bif Nat.beq i.size 0 then none else some f.offset
   |none=>none
  |none=>none
 |_=>none
def yg (P:Program) (o:Oper):Bool:=match o.op with
 |.load ..|.lookup ..=>true
 |.convert s d _=>match P.underlying s,P.underlying d with
  |some (.slice _),some .string=>true
  |_,_=>false
 |.call {callee:=.builtin .len,args,argTypes}=>match args.toList,argTypes.toList with
  |[_],[T]=>match P.underlying T with
   |some (.map _ _)=>true
   |_=>false
  |_,_=>false
 |_=>false
def Jx (P:Program) (o:Oper) (s:TS) (K:Value->Option (Nat×Nat)->List (Option Nat×(World->Prop))->TS->Prop):Prop:=
 bif yg P o then xD s λs=>qk P o s.E s.w λv Ss=>K v none (Ss.map λS=>(none,S)) s else qk P o s.E s.w λv Ss=>K v none (Ss.map λS=>(none,S)) s
def Lw (P:Program) (o:Oper) (s:TS) (K:Value->Option (Nat×Nat)->List (Option Nat×(World->Prop))->TS->Prop):Prop:=
 match o.op with
 |.load T x=>match s.S.at x with
  |some (i,j)=>match s.L[i]? with
   |some X=>Z3 P T X.2.1 j λv=>K v none [(some i,λw=>(loadVar T ((bF X.1).add j)).run P w=.ok v w)] s
   |none=>False
  |none=>Jx P o s K
 |.move x|.assign x|.nilCheck x=>match s.S.at x with
  |some q=>K ((s.E.val x).getD undef) (some q) [] s
  |none=>Jx P o s K
 |.fieldAddr T x f=>match s.S.at x with
  |some (i,j)=>match DL P T f,s.L[i]? with
   |some k,some X=>K (.pointer (some ((bF X.1).add (j+k)))) (some (i,j+k)) [] s
   |_,_=>False
  |none=>Jx P o s K
 |_=>Jx P o s K
def xj (L:Lv) (w w':World) (p:Prop):Prop:=match L with
 |[]=>p
 |L=>kept (pE L) w w'/\p
def ye:List Value->Nat->List Value->List Value
 |cs,_,[]=>cs
 |cs,j,v::vs=>ye (cs.set j v) (j+1) vs
def If (lv:List Nat) (d:Option Nat):Bool:=match d with
 |some d=>lv.any (Nat.beq d)
 |none=>false
def Uq (bs:List Nat) (p:Addr):List Value->Nat->World->(World->Prop)->Prop
 |[],_,w,K=>K w
 |v::vs,i,w,K=>bX w (p.add i) v λw1=>kept bs w w1/\Uq bs p vs (i+1) w1 K
def T1 (s:TS) (cs:List Value) (T:TypeId) (K:Value->Option (Nat×Nat)->Option Nat->TS->Prop):Prop:=
 bE (pE s.L) s.w λb w'=>K (.pointer (some (bF b))) (some (s.L.length,0)) none ⟨s.E,s.S,s.L++[(b,cs,T)],w',false⟩
def Du (P:Program) (f:FuncId) (args:Array Value) (z:Value) (s:TS) (K:Value->World->Prop):Prop:=match s.L with
 |[]=>tV P f args z s.w K
 |L=>fV (pE L) P f args s.w λe w'=>u9 z λv=>e=.returned v/\K v w'
def Tm (P:Program) (lv:List Nat) (draw:Bool) (o:Oper) (s:TS) (K:Value->Option (Nat×Nat)->Option Nat->TS->Prop):Prop:=
 match o.op with
 |.store T x y=>match s.S.at x with
  |some (i,j)=>match s.L[i]?,s.E.val y with
   |some X,some v=>hG (v.cells.size==(match P.info? T with |some i=>i.size|none=>0)&&v.cells.toList.all tg&&(P.info? T).isSome&&Nat.ble (j+v.cells.size) X.2.1.length) (K undef none (some i) ⟨s.E,s.S,s.L.set i (X.1,ye X.2.1 j v.cells.toList,X.2.2),s.w,true⟩)
   |_,_=>False
  |none=>xD s λs=>match s.L with
   |[]=>me P o s.E s.w λv w'=>K v none none ⟨s.E,s.S,s.L,w',false⟩
   |L=>match s.E.val x,s.E.val y with
    |some (.pointer (some p)),some v=>hG (v.cells.size==(match P.info? T with |some i=>i.size|none=>0)&&v.cells.toList.all tg&&(P.info? T).isSome) (Uq (pE L) p v.cells.toList 0 s.w λw'=>K undef none none ⟨s.E,s.S,s.L,w',false⟩)
    |_,_=>False
 |.alloc T=>bif If lv o.dst then hG ((P.info? T).bind (·.zero)).isSome (T1 s (zeroOf P T).cells.toList T K) else xD s λs=>me P o s.E s.w λv w'=>K v none none ⟨s.E,s.S,s.L,w',false⟩
 |.box T x=>bif If lv o.dst then (match s.E.val x with
   |some v=>T1 s v.cells.toList T K
   |none=>False) else xD s λs=>me P o s.E s.w λv w'=>K v none none ⟨s.E,s.S,s.L,w',false⟩
 |.buildSlice ..|.makeMap ..=>xD s λs=>me P o s.E s.w λv w'=>K v none none ⟨s.E,s.S,s.L,w',false⟩
 |.call {callee:=.value (.func f),args,..}=>xD s λs=>hG (s.E.fT o) (bif fC P f then Du P f (args.map s.E.ev) (zeroOf P o.type) s λv w'=>K v none none ⟨s.E,s.S,s.L,w',false⟩
   else HM P f (args.map s.E.ev) (zeroOf P o.type) s.w λv w'=>xj s.L s.w w' (K v none none ⟨s.E,s.S,s.L,w',false⟩))
 |.call {callee:=.value (.tmp t),args,..}=>xD s λs=>hG (s.E.fT o) (match s.E.get? t with
   |some (.func (.func f) first captured)=>hG (fC P f) (Du P f (first++args.map s.E.ev++captured) (zeroOf P o.type) s λv w'=>K v none none ⟨s.E,s.S,s.L,w',false⟩)
   |_=>False)
 |_=>xD s λs=>(bif draw then me else we) P o s.E s.w λv w'=>xj s.L s.w w' (K v none none ⟨s.E,s.S,s.L,w',false⟩)
def DY (ops:Array Oper) (j:Nat) (w:World):HT->List Prop
 |[]=>[]
 |(i,f,S)::H=>bif rW ops i j||f.isSome then DY ops j w H else S w::DY ops j w H
def kJ (ops:Array Oper) (j:Nat):HT->HT
 |[]=>[]
 |(i,f,S)::H=>bif rW ops i j then kJ ops j H else (i,f,S)::kJ ops j H
def GU (ops:Array Oper) (j:Nat) (s:TS) (H:HT) (K:TS->Prop):Prop:=
 bif H.any (λp=>!(rW ops p.1 j)&&p.2.1.isNone) then xD s λs=>Jd (DY ops j s.w H) (K s) else K s
def stepT (P:Program) (lv:List Nat) (ops:Array Oper) (draw:Bool) (i:Nat) (o:Oper) (s:TS) (H:HT) (K:TS->HT->Prop):Prop:=
 bif calm P o then Lw P o s λv q Ss s=>K ⟨s.E.put o.dst v,s.S.put o.dst q,s.L,s.w,s.d⟩ (bif draw then Ss.map (λS=>(i,S))++H else H)
 else Tm P lv draw o s λv q m s=>hG (!((kJ ops i H).any λp=>m.isSome&&p.2.1==m)) (GU ops i s H λs=>K ⟨s.E.put o.dst v,s.S.put o.dst q,s.L,s.w,s.d⟩ (kJ ops i H))
def qm (P:Program) (lv:List Nat) (ops:Array Oper) (draw:Bool) (i:Nat) (o:Oper) (d:Nat) (want t:Bool) (s:TS) (H:HT) (K:TS->HT->Prop):Prop:=
 bif (t==want) then stepT P lv ops draw i o ⟨(d,.bool t)::s.E,s.S,s.L,s.w,s.d⟩ H K else K ⟨Env.put ((d,.bool t)::s.E) o.dst undef,s.S.put o.dst none,s.L,s.w,s.d⟩ (bif calm P o then H else kJ ops i H)
def runT (P:Program) (lv:List Nat) (ops:Array Oper) (draw:Bool) (K:TS->Prop):List Nat->TS->HT->Prop
 |[],s,_=>K s
 |i::l,s,H=>
  match ops[i]? with
  |none=>False
  |some o=>match o.guard with
   |none=>stepT P lv ops draw i o s H λs' H'=>runT P lv ops draw K l s' H'
   |some (j,want)=>match pK ops j with
    |none=>False
    |some d=>match s.E.get? d with
     |some (.bool t)=>aF t (qm P lv ops draw i o d want true s H λs' H'=>runT P lv ops draw K l s' H') (qm P lv ops draw i o d want false s H λs' H'=>runT P lv ops draw K l s' H')
     |some (.tuple _)=>runT P lv ops draw K l ⟨Env.put s.E o.dst undef,s.S.put o.dst none,s.L,s.w,s.d⟩ (bif calm P o then H else kJ ops i H)
     |_=>False
def DX (P:Program) (lv:List Nat) (ops:Array Oper) (i:Nat) (s:TS) (H:HT) (Kn:TS->HT->Prop):Prop:=
 match ops[i]? with
 |none=>False
 |some o=>match o.guard with
  |none=>stepT P lv ops true i o s H Kn
  |some (j,want)=>match pK ops j with
   |none=>False
   |some d=>match s.E.get? d with
    |some (.bool t)=>aF t (qm P lv ops true i o d want true s H Kn) (qm P lv ops true i o d want false s H Kn)
    |some (.tuple _)=>Kn ⟨Env.put s.E o.dst undef,s.S.put o.dst none,s.L,s.w,s.d⟩ (bif calm P o then H else kJ ops i H)
    |_=>False
def Sf (P:Program) (lv:List Nat) (ops:Array Oper) (K:TS->Prop):Tr->TS->HT->Prop
 |.nil,s,_=>K s
 |.one i t,s,H=>DX P lv ops i s H λs' H'=>Sf P lv ops K t s' H'
 |.fork a b,s,H=>Sf P lv ops K a s H/\Sf P lv ops K b s H
def Tr.sq:List Nat->Tr->Tr
 |[],t=>t
 |i::l,t=>.one i (Tr.sq l t)
def VJ (s:TS) (K:TS->Prop):Prop:=match s.L,s.d with
 |[],false=>K ⟨s.E,s.S,s.L,s.w.drew,false⟩
 |_,_=>K ⟨s.E,s.S,s.L,s.w,true⟩
section
variable {P:Program}
structure Inv (s:TS) (w:World):Prop where
 lc:LC w s.L
 rel:if s.d=true then Fr (·∈pE s.L) s.w w else w=s.w
 sl:∀t i j,s.S.get? t=some (i,j)->∃X,s.L[i]? =some X/\s.E.get? t=some (.pointer (some ((bF X.1).add j)))
theorem Inv.xD {s:TS} {w:World} {K:TS->Prop} (I:Inv s w) (h:W.xD s K):Inv ⟨s.E,s.S,s.L,w,false⟩ w/\K ⟨s.E,s.S,s.L,w,false⟩:=by
 refine ⟨⟨I.lc,by simp,I.sl⟩,?_⟩
 unfold W.xD at h
 have hr:=I.rel
 cases hd:s.d with
 |true=>
  rw [hd] at h hr
  exact h w (by simpa using hr)
 |false=>
  rw [hd] at h hr
  have:w=s.w:=by simpa using hr
  obtain ⟨E,S,L,w0,d⟩:=s
  simp only at hd this
  subst hd this
  exact h
theorem Inv.fr {s:TS} {w:World} (I:Inv s w):Fr (·∈pE s.L) s.w w:=by
 have hr:=I.rel
 cases hd:s.d with
 |true=>rw [hd] at hr;simpa using hr
 |false=>
  rw [hd] at hr
  have:w=s.w:=by simpa using hr
  subst this
  exact Fr.refl _ _
theorem Inv.at {s:TS} {w:World} (I:Inv s w) {x:Operand} {i j:Nat} (h:s.S.at x=some (i,j)):∃X,s.L[i]? =some X/\s.E.val x=some (.pointer (some ((bF X.1).add j)))/\w.heap[X.1]? =some (.cells X.2.1.toArray X.2.2 (0,0)):=by
 cases x with
 |tmp t=>
  obtain ⟨X,h1,h2⟩:=I.sl t i j h
  exact ⟨X,h1,h2,I.lc.own i X h1⟩
 |_=>cases h
theorem ER:∀{zs vs:List Value},Qd zs vs=true->vs.length=zs.length
 |[],[],_=>rfl
 |z::zs,v::vs,h=>by
  unfold Qd at h
  rw [Bool.and_eq_true] at h
  simp [ER h.2]
theorem Bh {T:TypeId} {cs:List Value} {j b:Nat} {ty:TypeId} {K:Value->Prop} (h:Z3 P T cs j K):
  ∃v,K v/\∀w:World,w.heap[b]? =some (.cells cs.toArray ty (0,0))->(loadVar T ((bF b).add j)).run P w=.ok v w:=by
 obtain ⟨ho,h⟩:=bY h
 unfold Hr at ho
 have one:∀(v:Value),cs[j]? =some v->(FI P T==some false)=true->∀w:World,w.heap[b]? =some (.cells cs.toArray ty (0,0))->(loadVar T ((bF b).add j)).run P w=.ok v w:=λv hv ha w hw=>
  oO (by simpa using ha) (cellAt (p:=bF b) hw rfl (by simpa using hv))
 cases hz:zeroOf P T with
 |agg zs=>
  rw [hz] at h ho
  simp only at h ho
  obtain ⟨hs,hk⟩:=bY h
  rw [Bool.and_eq_true] at ho
  obtain ⟨ha,hi⟩:=ho
  cases vf:P.info? T with
  |none=>rw [vf] at hi;simp at hi
  |some i=>
   rw [vf] at hi
   simp at hi ha
   refine ⟨_,hk,λw hw=>rK ha vf (by rw [hi,ER hs];simp) λk v XI=>?_⟩
   rw [add_add]
   refine cellAt (p:=bF b) hw rfl ?_
   rw [List.getElem?_take] at XI
   split at XI
   .simpa using XI
   .cases XI
 |nilFunc=>rw [hz] at h;exact h.elim
 |_=>
  rw [hz] at h ho
  simp only at h
  split at h
  .rename_i v hv
   exact ⟨v,(bY h).2,one v hv ho⟩
  .exact h.elim
theorem Dy {o:Oper} {E:Env} {w w':World} {K:Value->List (World->Prop)->Prop} (h:yg P o=false) (hc:qk P o E w K):qk P o E w' K:=by
 unfold qk at hc ⊢
 unfold yg at h
 split at hc<;>first |exact hc|skip
 all_goals rename_i eN
 all_goals rw [eN] at h
 .cases h
 .cases h
 .split
  .rename_i hs hd _
   simp only [hs,hd] at h
   cases h
  .split at hc
   .rename_i hs hd _
    simp only [hs,hd] at h
    cases h
   .exact hc
 .split
  .rename_i ha ht
   simp only [ha,ht] at h hc
   split
   .rename_i hu _
    simp only [hu] at h
    cases h
   .split at hc
    .rename_i hu _
     simp only [hu] at h
     cases h
    .exact hc
  .rename_i wx
   split at hc
   .rename_i ha ht
    exact (wx _ _ ha ht).elim
   .exact hc
def Hl (P:Program) (o:Oper) (a:Act) (s:TS) (w:World) (v:Value) (q:Option (Nat×Nat)) (Ss:List (Option Nat×(World->Prop))) (s':TS):Prop:=
 Inv s' w/\s'.E=s.E/\s'.S=s.S/\s'.L=s.L/\Calm P o a.eval w v (Ss.map (·.2))/\
 (∀p∈Ss,∀i,p.1=some i->∃X,s.L[i]? =some X/\∀w':World,w'.heap[X.1]? =some (.cells X.2.1.toArray X.2.2 (0,0))->p.2 w')/\
 (∀i j,q=some (i,j)->∃X,s.L[i]? =some X/\v=.pointer (some ((bF X.1).add j)))
section
variable {o:Oper} {n:Cx} {a:Act} {s:TS} {w:World} {K:Value->Option (Nat×Nat)->List (Option Nat×(World->Prop))->TS->Prop}
theorem Gh (hs:∀cs b,o.op≠.select cs b) (ha:Ag n a s.E) (I:Inv s w) (h:Jx P o s K):∃v q Ss s',K v q Ss s'/\Hl P o a s w v q Ss s':=by
 have fin:∀(s':TS),s'.E=s.E->s'.S=s.S->s'.L=s.L->Inv s' w->qk P o s.E w (λv Ss=>K v none (Ss.map λS=>(none,S)) s')->∃v q Ss s',K v q Ss s'/\Hl P o a s w v q Ss s':=λs' e1 e2 e3 I' hc=>by
  obtain ⟨v,Ss,hv,tF⟩:=oX hs ha hc
  refine ⟨v,none,_,s',hv,I',e1,e2,e3,?_,λp hp i hi=>?_,λi j hq=>by cases hq⟩
  .rw [List.map_map]
   have:((λx:Option Nat×(World->Prop)=>x.2)∘λS=>((none:Option Nat),S))=id:=rfl
   rw [this,List.map_id]
   exact tF
  .obtain ⟨S,_,rfl⟩:=oT.1 hp
   cases hi
 unfold Jx at h
 cases hw:yg P o with
 |true=>
  rw [hw,cond_true] at h
  obtain ⟨I',h'⟩:=I.xD h
  exact fin ⟨s.E,s.S,s.L,w,false⟩ rfl rfl rfl I' h'
 |false=>
  rw [hw,cond_false] at h
  exact fin s rfl rfl rfl I (Dy hw h)
theorem Dx (hs:∀cs b,o.op≠.select cs b) (ha:Ag n a s.E) (I:Inv s w) (h:Lw P o s K):∃v q Ss s',K v q Ss s'/\Hl P o a s w v q Ss s':=by
 have gen:=λh=>Gh (P:=P) (K:=K) hs ha I h
 have same:∀(x:Operand) (q:Nat×Nat),s.S.at x=some q->(∀w,(execOp a.eval o).run P w=.ok (.value (a.eval x)) w\/∀p,a.eval x≠.pointer (some p))->K ((s.E.val x).getD undef) (some q) [] s->∃v q Ss s',K v q Ss s'/\Hl P o a s w v q Ss s':=λx q hx hr hk=>by
  obtain ⟨X,h1,h2,_⟩:=I.at (i:=q.1) (j:=q.2) hx
  have he:=ha.val h2
  refine ⟨_,_,_,s,hk,I,rfl,rfl,rfl,⟨λS hS=>(by cases hS),λw' _=>?_⟩,λp hp=>(by cases hp),λi j hq=>?_⟩
  .rcases hr w' with hr|hr
   .rw [hr,h2,he];rfl
   .exact (hr _ he).elim
  .cases hq
   exact ⟨X,h1,by rw [h2];rfl⟩
 unfold Lw at h
 split at h
 .rename_i T x eN
  split at h
  .rename_i i j hx
   obtain ⟨X,h1,h2,h3⟩:=I.at hx
   rw [h1] at h
   obtain ⟨v,hk,hv⟩:=Bh (b:=X.1) (ty:=X.2.2) h
   refine ⟨v,_,_,s,hk,I,rfl,rfl,rfl,⟨λS hS=>?_,λw' As=>?_⟩,λp hp i' vT=>?_,λi j hq=>by cases hq⟩
   .simp only [List.map_cons,List.map_nil,cU,List.not_mem_nil,or_false] at hS
    subst hS
    exact hv w h3
   .have:(loadVar T ((bF X.1).add j)).run P w'=.ok v w':=As (λw=>(loadVar T ((bF X.1).add j)).run P w=.ok v w) (by simp)
    simp [execOp,eN,Instr.loadAt,ha.val h2,Instr.sureAddr,this]
   .simp only [cU,List.not_mem_nil,or_false] at hp
    subst hp
    cases vT
    exact ⟨X,h1,hv⟩
  .exact gen h
 .rename_i x eN
  split at h
  .rename_i q hx
   exact same x q hx (λw=>.inl (by simp [execOp,eN])) h
  .exact gen h
 .rename_i x eN
  split at h
  .rename_i q hx
   exact same x q hx (λw=>.inl (by simp [execOp,eN])) h
  .exact gen h
 .rename_i x eN
  split at h
  .rename_i q hx
   refine same x q hx (λw=>?_) h
   obtain ⟨X,_,h2,_⟩:=I.at (i:=q.1) (j:=q.2) hx
   exact .inl (by simp [execOp,eN,ha.val h2])
  .exact gen h
 .rename_i T x f eN
  split at h
  .rename_i i j hx
   obtain ⟨X,h1,h2,h3⟩:=I.at hx
   split at h
   .rename_i k X' hk Ra
    rw [h1] at Ra
    cases Ra
    refine ⟨_,_,_,s,h,I,rfl,rfl,rfl,⟨λS hS=>(by cases hS),λw' _=>?_⟩,λp hp=>(by cases hp),λi' j' hq=>?_⟩
    .unfold DL at hk
     split at hk
     .rename_i fs hu
      split at hk
      .rename_i fd hf
       split at hk
       .rename_i inf vf
        cases hz:Nat.beq inf.size 0 with
        |true=>rw [hz] at hk;cases hk
        |false=>
         rw [hz] at hk
         cases hk
         have hM:inf.size≠0:=λe=>by rw [e] at hz;cases hz
         simp [execOp,eN,ha.val h2,Instr.fieldAt,run_underlying hu,hf,Instr.sureAddr,fieldPlace,sizeOf,typeInfo,vf,hM,add_add]
       .cases hk
      .cases hk
     .cases hk
    .cases hq
     exact ⟨X,h1,rfl⟩
   .exact h.elim
  .exact gen h
 .exact gen h
end
def Ja (s:TS) (K:Value->Option (Nat×Nat)->Option Nat->TS->Prop) (v:Value) (w':World):Prop:=
 ∃q m s',K v q m s'/\Inv s' w'/\s'.E=s.E/\s'.S=s.S/\(∀i X,s.L[i]? =some X->m≠some i->s'.L[i]? =some X)/\
  (∀i j,q=some (i,j)->∃X,s'.L[i]? =some X/\v=.pointer (some ((bF X.1).add j)))
theorem xA {o:Oper} {ρ:Operand->Value} {T:TypeId} {z:Value} (eN:o.op=.alloc T) (hz:(P.info? T).bind (·.zero)=some z) (w:World):
  (execOp ρ o).run P w=.ok (.value (.pointer (some (bF w.heap.size)))) (w.alloc (.cells z.cells T)):=by
 cases hi:P.info? T with
 |none=>rw [hi] at hz;cases hz
 |some i=>
  rw [hi] at hz
  have Pa:i.zero=some z:=hz
  simp [execOp,eN,Instr.alloc,zeroValue,typeInfo,hi,Pa,newVar,newRow]
theorem Bq {o:Oper} {ρ:Operand->Value} {T:TypeId} {x:Operand} (eN:o.op=.box T x) (w:World):
  (execOp ρ o).run P w=.ok (.value (.pointer (some (bF w.heap.size)))) (w.alloc (.cells (ρ x).cells T)):=by
 simp [execOp,eN,Instr.box,newVar,newRow]
theorem GA {L:Lv} {w w':World} {p:Prop} (h:xj L w w' p) (H:LC w L):LC w' L/\p:=by
 cases L with
 |nil=>exact ⟨LC.nil _,h⟩
 |cons x L=>exact ⟨H.xj h.1,h.2⟩
section
variable {o:Oper} {n:Cx} {a:Act} {s:TS} {w:World} {K:Value->Option (Nat×Nat)->Option Nat->TS->Prop}
theorem yz {f:FuncId} {args:Array Value} {K:Value->World->Prop} (lI:(execOp a.eval o).run P w=.ok (.enter f args) w) (h:Calls P f args w λe w'=>∃v,e=.returned v/\K v w'):rZ P o a w K:=by
 intro Q
 unfold Oper.wp
 rw [lI]
 simp only [Oper.upon]
 refine Calls.mono h λe w' he=>?_
 obtain ⟨v,rfl,hk⟩:=he
 exact ⟨v,rfl,hk⟩
theorem yA {f:FuncId} {args:Array Value} {z:Value} {K:Value->World->Prop} (lI:(execOp a.eval o).run P w=.ok (.enter f args) w) (H:LC w s.L) (hw:s.w=w) (h:Du P f args z s K):rZ P o a w λv w'=>LC w' s.L/\K v w':=by
 unfold Du at h
 split at h
 .rename_i hL
  rw [hw] at h
  refine yz lI (Calls.mono h λe w' he=>?_)
  obtain ⟨v,rfl,hk⟩:=mH he
  exact ⟨v,rfl,by rw [hL];exact LC.nil _,hk⟩
 .rw [hw] at h
  obtain ⟨M,hm,hc⟩:=h
  refine yz lI (Calls.mono hc λe w' he=>?_)
  obtain ⟨f',hx⟩:=he
  obtain ⟨v,rfl,hk⟩:=mH hx
  exact ⟨v,rfl,H.fr f' hm,hk⟩
theorem Es {cs:Array Value} {T:TypeId} (lI:(execOp a.eval o).run P w=.ok (.value (.pointer (some (bF w.heap.size)))) (w.alloc (.cells cs T))) (I:Inv s w) (h:T1 s cs.toList T K):rZ P o a w (Ja s K):=by
 intro Q
 unfold Oper.wp
 rw [lI]
 simp only [Oper.upon]
 refine ⟨_,rfl,_,_,_,h w.heap.size (w.alloc (.cells cs T)) I.fr.size (size_alloc _ _) (I.fr.Ab (Fr.alloc _ _ _)),⟨I.lc.push cs T,by simp,λt i j hq=>?_⟩,rfl,rfl,λi X hX _=>?_,λi j hq=>?_⟩
 .obtain ⟨X,h1,h2⟩:=I.sl t i j hq
  exact ⟨X,by rw [List.getElem?_append_left (oN.1 h1).1];exact h1,h2⟩
 .rw [List.getElem?_append_left (oN.1 hX).1];exact hX
 .cases hq
  exact ⟨(w.heap.size,cs.toList,T),by simp,by rw [uH]⟩
theorem RM {i j b:Nat} {T:TypeId} {wT:World} {K:World->Prop}:∀(vs:List Value) (k:Nat) (w:World) (L:Lv) (cs:List Value),LC w L->L[i]? =some (b,cs,T)->j+k+vs.length<=cs.length->Fr (·∈pE L) wT w->
  (∀w',LC w' (L.set i (b,ye cs (j+k) vs,T))->Fr (·∈pE L) wT w'->K w')->G9 ((bF b).add j) vs k w K
 |[],k,w,L,cs,H,hi,hl,f,hk=>by
  refine hk w ?_ f
  have:L.set i (b,cs,T)=L:=by
   apply List.ext_getElem?
   intro m
   rw [List.getElem?_set]
   split
   .rename_i e
    subst e
    split
    .exact hi.symm
    .rename_i h;exact absurd (oN.1 hi).1 h
   .rfl
  rw [show ye cs (j+k) []=cs from rfl,this]
  exact H
 |v::vs,k,w,L,cs,H,hi,hl,f,hk=>by
  simp only [List.length_cons] at hl
  obtain ⟨x1,x2,x3,x4⟩:=H.set (v:=v) i (j+k) hi (by omega) f
  unfold G9
  rw [add_add]
  refine ⟨x1,x2,RM (i:=i) (T:=T) vs (k+1) _ _ (cs.set (j+k) v) x3 ?_ (by rw [List.length_set];omega) x4 λw' h1 h2=>?_⟩
  .rw [List.getElem?_set_self (oN.1 hi).1]
  .rw [List.set_set] at h1
   rw [FO L i hi] at h2
   exact hk w' h1 h2
theorem zw {L:Lv} {p:Addr} {K K':World->Prop} (hk:∀w',LC w' L->K w'->K' w'):∀(vs:List Value) (i:Nat) (w:World),LC w L->Uq (pE L) p vs i w K->G9 p vs i w K'
 |[],_,w,H,h=>hk w H h
 |v::vs,i,w,H,h=>by
  obtain ⟨h1,h2,h3,h4⟩:=h
  exact ⟨h1,h2,zw hk vs (i+1) _ (H.xj h3) h4⟩
theorem FA {b:Bool} {p:Prop} (h1:b=true) (h2:p):hG b p:=by subst h1;exact h2
theorem xf {E:Env} {T:TypeId} {x y:Operand} {p:Addr} {v:Value} {K:Value->World->Prop} (eN:o.op=.store T x y) (hx:E.val x=some (.pointer (some p))) (hy:E.val y=some v)
  (hc:(v.cells.size==(match P.info? T with |some i=>i.size|none=>0)&&v.cells.toList.all tg&&(P.info? T).isSome)=true) (h:G9 p v.cells.toList 0 w λw'=>K undef w'):me P o E w K:=by
 unfold me
 rw [eN]
 simp only [hx,hy]
 exact FA hc h
theorem Br {ρ:Operand->Value} {nx:Next} {w':World} (eN:(∃T,o.op=.alloc T)\/(∃T x,o.op=.box T x)\/(∃T l p,o.op=.buildSlice T l p)\/(∃T r,o.op=.makeMap T r)) (h:(execOp ρ o).run P w=.ok nx w'):bI w w':=by
 rcases eN with ⟨T,eN⟩|⟨T,x,eN⟩|⟨T,l,p,eN⟩|⟨T,r,eN⟩
 .cases hz:(P.info? T).bind (·.zero) with
  |some z=>
   rw [xA eN hz] at h
   cases h
   exact Fr.alloc _ _ _
  |none=>
   exfalso
   cases hi:P.info? T with
   |none=>simp [execOp,eN,Instr.alloc,zeroValue,typeInfo,hi] at h
   |some i=>
    rw [hi] at hz
    have Pa:i.zero=none:=hz
    simp [execOp,eN,Instr.alloc,zeroValue,typeInfo,hi,Pa] at h
 .rw [Bq eN] at h
  cases h
  exact Fr.alloc _ _ _
 .cases hu:P.underlying T with
  |none=>simp [execOp,eN,Instr.buildSlice,underlying,hu] at h
  |some u=>
   cases u<;>first |(simp [execOp,eN,Instr.buildSlice,run_underlying hu] at h;done)|skip
   rename_i e
   cases hi:P.info? e with
   |none=>simp [execOp,eN,Instr.buildSlice,run_underlying hu,sizeOf,typeInfo,hi] at h
   |some i=>
    by_cases Mh:l *i.size>2^24
    .simp [execOp,eN,Instr.buildSlice,run_underlying hu,sizeOf,typeInfo,hi,Mh] at h
    by_cases h0:l *i.size=0
    .simp [execOp,eN,Instr.buildSlice,run_underlying hu,sizeOf,typeInfo,hi,h0] at h
     split at h
     .simp [newRow] at h
      obtain ⟨_,rfl⟩:=h
      exact Fr.alloc _ _ _
     .simp at h
    .simp [execOp,eN,Instr.buildSlice,run_underlying hu,sizeOf,typeInfo,hi,Mh,h0] at h
     cases hz:i.zero with
     |none=>simp [zeroValue,typeInfo,hi,hz] at h
     |some z=>
      simp [zeroValue,typeInfo,hi,hz] at h
      split at h
      .simp [newRow] at h
       obtain ⟨_,rfl⟩:=h
       exact Fr.alloc _ _ _
      .simp at h
 .cases r with
  |none=>
   simp [execOp,eN,Instr.makeMap] at h
   obtain ⟨_,rfl⟩:=h
   exact Fr.alloc _ _ _
  |some r=>
   cases hu:P.underlying T with
   |none=>simp [execOp,eN,Instr.makeMap,underlying,hu] at h
   |some u=>
    cases u<;>first |(simp [execOp,eN,Instr.makeMap,run_underlying hu] at h;done)|skip
    cases hr:ρ r with
    |int k z=>
     simp [execOp,eN,Instr.makeMap,run_underlying hu,hr,Go.asInt,Go.asIntOf] at h
     obtain ⟨_,rfl⟩:=h
     exact Fr.alloc _ _ _
    |pointer q=>cases q<;>simp [execOp,eN,Instr.makeMap,run_underlying hu,hr,Go.asInt,Go.asIntOf] at h
    |_=>simp [execOp,eN,Instr.makeMap,run_underlying hu,hr,Go.asInt,Go.asIntOf] at h
theorem MP {K:Value->World->Prop} (hs:∀cs b,o.op≠.select cs b) (ha:Ag n a s.E) (eN:(∃T,o.op=.alloc T)\/(∃T x,o.op=.box T x)\/(∃T l p,o.op=.buildSlice T l p)\/(∃T r,o.op=.makeMap T r)) (h:me P o s.E w K):rZ P o a w λv w'=>bI w w'/\K v w':=by
 have h':wi P o s.E w K:=by
  unfold me at h
  rcases eN with ⟨T,eN⟩|⟨T,x,eN⟩|⟨T,l,p,eN⟩|⟨T,r,eN⟩<;>rw [eN] at h<;>exact h
 obtain ⟨hc,h'⟩:=bY h'
 intro Q
 unfold Oper.wp
 rw [ha.execOp hs hc]
 generalize hr:(execOp s.E.ev o).run P w=r at h'
 split at h'
 .simp only [Oper.upon];exact ⟨_,rfl,Br eN hr,h'⟩
 .simp only [Oper.upon];exact ⟨_,rfl,Br eN hr,h'⟩
 .exact h'.elim
theorem Ga {draw:Bool} {lv:List Nat} (A:(Value->World->Prop)->Prop) (h0:∀K,rZ P o a w K->A K) (h1:∀K,(bif draw then me else we) P o s.E w K->A K) (hm:∀K K',(∀v w',K v w'->K' v w')->A K->A K')
  (hs:∀cs b,o.op≠.select cs b) (ha:Ag n a s.E) (I:Inv s w) (h:Tm P lv draw o s K):A (Ja s K):=by
 have back:∀v w',LC w' s.L->K v none none ⟨s.E,s.S,s.L,w',false⟩->Ja s K v w':=λv w' H hk=>⟨none,none,_,hk,⟨H,by simp,I.sl⟩,rfl,rfl,λi X h _=>h,λi j hq=>by cases hq⟩
 have QU:∀v w',xj s.L w w' (K v none none ⟨s.E,s.S,s.L,w',false⟩)->Ja s K v w':=λv w' hk=>by
  obtain ⟨H,hk⟩:=GA hk I.lc
  exact back v w' H hk
 have news:((∃T,o.op=.alloc T)\/(∃T x,o.op=.box T x)\/(∃T l p,o.op=.buildSlice T l p)\/(∃T r,o.op=.makeMap T r))->xD s (λs=>me P o s.E s.w λv w'=>K v none none ⟨s.E,s.S,s.L,w',false⟩)->A (Ja s K):=λeN h=>by
  obtain ⟨_,h'⟩:=I.xD h
  exact hm _ _ (λv w' ⟨f,hk⟩=>back v w' (I.lc.fr (M:=λ_=>False) f (λ_ _ h=>h)) hk) (h0 _ (MP hs ha eN h'))
 unfold Tm at h
 split at h
 .rename_i T x y eN
  split at h
  .rename_i i j hx
   obtain ⟨X,g1,g2,_⟩:=I.at hx
   split at h
   .rename_i X' v Ra hv
    rw [g1] at Ra
    cases Ra
    obtain ⟨hc,hk⟩:=bY h
    rw [Bool.and_eq_true] at hc
    obtain ⟨hc,hb⟩:=hc
    have hb:=Nat.le_of_ble_eq_true hb
    refine h0 _ (ib hs ha (xf eN g2 hv hc ?_))
    refine RM (i:=i) (T:=X.2.2) _ 0 w s.L X.2.1 I.lc g1 (by simpa using hb) I.fr λw' q1 q2=>?_
    refine ⟨none,some i,_,hk,⟨q1,?_,λt i' j' ht=>?_⟩,rfl,rfl,λi' Y hY hM=>?_,λi j hq=>by cases hq⟩
    .simp only [if_true]
     rw [FO s.L i g1]
     exact q2
    .obtain ⟨Y,y1,y2⟩:=I.sl t i' j' ht
     by_cases e:i=i'
     .subst e
      rw [g1] at y1
      cases y1
      exact ⟨_,List.getElem?_set_self (oN.1 g1).1,y2⟩
     .exact ⟨Y,by rw [List.getElem?_set_ne e];exact y1,y2⟩
    .have e:i≠i':=λe=>hM (by rw [e])
     show (s.L.set i _)[i']? =_
     rw [List.getElem?_set_ne e];exact hY
   .exact h.elim
  .obtain ⟨_,h'⟩:=I.xD h
   simp only at h'
   split at h'
   .rename_i hL
    exact hm _ _ (λv w' hk=>back v w' (hL▸LC.nil _) hk) (h0 _ (ib hs ha h'))
   .split at h'
    .rename_i p v hx hy
     obtain ⟨hc,hk⟩:=bY h'
     exact hm _ _ (λv w' hk=>hk) (h0 _ (ib hs ha (xf eN hx hy hc (zw (K':=Ja s K undef) (λw' H hk=>back _ w' H hk) _ _ _ I.lc hk))))
    .exact h'.elim
 .rename_i T eN
  cases hl:If lv o.dst with
  |true=>
   rw [hl,cond_true] at h
   obtain ⟨hz,h⟩:=bY h
   obtain ⟨z,hz⟩:=Option.isSome_iff_exists.1 hz
   have:zeroOf P T=z:=by unfold zeroOf;rw [hz];rfl
   rw [this] at h
   exact h0 _ (Es (xA eN hz w) I h)
  |false=>
   rw [hl,cond_false] at h
   exact news (.inl ⟨T,eN⟩) h
 .rename_i T x eN
  cases hl:If lv o.dst with
  |true=>
   rw [hl,cond_true] at h
   split at h
   .rename_i v hv
    have:=Bq (P:=P) (ρ:=a.eval) eN w
    rw [ha.val hv] at this
    exact h0 _ (Es this I h)
   .exact h.elim
  |false=>
   rw [hl,cond_false] at h
   exact news (.inr (.inl ⟨T,x,eN⟩)) h
 .rename_i T l p eN
  exact news (.inr (.inr (.inl ⟨T,l,p,eN⟩))) h
 .rename_i T r eN
  exact news (.inr (.inr (.inr ⟨T,r,eN⟩))) h
 .rename_i f args Si eN
  obtain ⟨I',h⟩:=I.xD h
  obtain ⟨hc,h⟩:=bY h
  have hargs:args.map a.eval=args.map s.E.ev:=ha.args λx hx=>List.all_eq_true.1 hc x (by rw [eN];simp [Op.operands,Call.operands,hx])
  cases A6:fC P f with
  |true=>
   rw [A6,cond_true] at h
   exact hm _ _ (λv w' ⟨H,hk⟩=>back v w' H hk) (h0 _ (yA (s:=⟨s.E,s.S,s.L,w,false⟩) (by simp [execOp,eN,resolve,Act.eval,Deferred.ofValue,invoke,hargs,l9 A6]) I.lc rfl h))
  |false=>
   rw [A6,cond_false] at h
   unfold HM at h
   obtain ⟨v,w',hr,hk⟩:=mH h
   refine hm _ _ QU (h0 _ λQ=>?_)
   unfold Oper.wp
   have:(execOp a.eval o).run P w=.ok (.value v) w':=by simp [execOp,eN,resolve,Act.eval,Deferred.ofValue,invoke,hargs,hr]
   rw [this]
   simp only [Oper.upon]
   exact ⟨_,rfl,hk⟩
 .rename_i t args Si eN
  obtain ⟨I',h⟩:=I.xD h
  obtain ⟨hc,h⟩:=bY h
  have hargs:args.map a.eval=args.map s.E.ev:=ha.args λx hx=>List.all_eq_true.1 hc x (by rw [eN];simp [Op.operands,Call.operands,hx])
  split at h
  .rename_i f first captured hf
   obtain ⟨A6,h⟩:=bY h
   have O1:a.eval (.tmp t)=.func (.func f) first captured:=ha.val (x:=.tmp t) hf
   exact hm _ _ (λv w' ⟨H,hk⟩=>back v w' H hk) (h0 _ (yA (s:=⟨s.E,s.S,s.L,w,false⟩) (by simp [execOp,eN,resolve,O1,Deferred.ofValue,invoke,hargs,l9 A6]) I.lc rfl h))
  .exact h.elim
 .obtain ⟨_,h'⟩:=I.xD h
  exact hm _ _ QU (h1 _ h')
end
def HI (s:TS) (H:HT) (w:World):Prop:=∀p∈H,p.2.2 w/\∀i,p.2.1=some i->∃X,s.L[i]? =some X/\∀w':World,w'.heap[X.1]? =some (.cells X.2.1.toArray X.2.2 (0,0))->p.2.2 w'
def nl (H:HT):lT:=H.map λp=>(p.1,p.2.2)
theorem py {ops:Array Oper} {j:Nat}:∀H:HT,eR ops j (nl H)=nl (kJ ops j H)
 |[]=>rfl
 |(i,f,S)::H=>by
  show eR ops j ((i,S)::nl H)=nl (kJ ops j ((i,f,S)::H))
  unfold eR kJ
  cases rW ops i j
  .simp only [cond_false]
   rw [py H];rfl
  .simp only [cond_true]
   exact py H
theorem kA {ops:Array Oper} {j:Nat}:∀{H:HT} {p},p∈kJ ops j H->p∈H/\rW ops p.1 j=false
 |(i,f,S)::H,p,h=>by
  unfold kJ at h
  cases ho:rW ops i j with
  |true=>
   rw [ho,cond_true] at h
   exact ⟨qmCM _ (kA h).1,(kA h).2⟩
  |false=>
   rw [ho,cond_false] at h
   rcases cU.1 h with rfl|h
   .exact ⟨List.mem_cons_self,ho⟩
   .exact ⟨qmCM _ (kA h).1,(kA h).2⟩
theorem DZ {ops:Array Oper} {j:Nat} {w:World}:∀{H:HT} {p},p∈H->rW ops p.1 j=false->p.2.1=none->p.2.2 w∈DY ops j w H
 |(i,f,S)::H,p,h,ho,hf=>by
  unfold DY
  rcases cU.1 h with rfl|h
  .simp only at ho hf
   rw [ho,hf]
   exact List.mem_cons_self
  .have:=DZ (w:=w) h ho hf
   cases (rW ops i j||f.isSome)
   .exact qmCM _ this
   .exact this
theorem Inv.put {s:TS} {w:World} (I:Inv s w) (d:Option Nat) {v:Value} {q:Option (Nat×Nat)} (hq:∀i j,q=some (i,j)->∃X,s.L[i]? =some X/\v=.pointer (some ((bF X.1).add j))):Inv ⟨s.E.put d v,s.S.put d q,s.L,s.w,s.d⟩ w:=by
 refine ⟨I.lc,I.rel,λt i j ht=>?_⟩
 cases d with
 |none=>exact I.sl t i j ht
 |some d=>
  simp only [Sv.put,Sv.get?] at ht
  simp only [Env.put,Env.get?]
  cases hb:Nat.beq d t with
  |true=>
   rw [hb,cond_true] at ht
   obtain ⟨X,h1,h2⟩:=hq i j ht
   exact ⟨X,h1,by simp [h2]⟩
  |false=>
   rw [hb,cond_false] at ht
   obtain ⟨X,h1,h2⟩:=I.sl t i j ht
   exact ⟨X,h1,by simpa using h2⟩
theorem Cr {ops:Array Oper} {j:Nat} {s s1:TS} {w w':World} {m:Option Nat} {H:HT} {K:TS->Prop} (hH:HI s H w) (I:Inv s1 w') (hL:∀i X,s.L[i]? =some X->m≠some i->s1.L[i]? =some X)
  (hc:(!((kJ ops j H).any λp=>m.isSome&&p.2.1==m))=true) (h:GU ops j s1 H K):
  ∃s2,K s2/\Inv s2 w'/\s2.E=s1.E/\s2.S=s1.S/\s2.L=s1.L/\HI s2 (kJ ops j H) w':=by
 have TX:∀p∈kJ ops j H,∀i,p.2.1=some i->∃X,s1.L[i]? =some X/\∀w':World,w'.heap[X.1]? =some (.cells X.2.1.toArray X.2.2 (0,0))->p.2.2 w':=λp hp i hi=>by
  obtain ⟨X,h1,h2⟩:=(hH p (kA hp).1).2 i hi
  refine ⟨X,hL i X h1 λe=>?_,h2⟩
  simp only [Bool.not_eq_true',List.any_eq_false] at hc
  exact hc p hp (by rw [e,hi];simp)
 have own:∀p∈kJ ops j H,∀i,p.2.1=some i->p.2.2 w':=λp hp i hi=>by
  obtain ⟨X,h1,h2⟩:=TX p hp i hi
  exact h2 w' (I.lc.own i X h1)
 unfold GU at h
 cases ha:H.any (λp=>!(rW ops p.1 j)&&p.2.1.isNone) with
 |true=>
  rw [ha,cond_true] at h
  obtain ⟨I',h'⟩:=I.xD h
  obtain ⟨q1,q2⟩:=pn h'
  refine ⟨_,q2,I',rfl,rfl,rfl,λp hp=>⟨?_,TX p hp⟩⟩
  cases hf:p.2.1 with
  |none=>exact q1 _ (DZ (kA hp).1 (kA hp).2 hf)
  |some i=>exact own p hp i hf
 |false=>
  rw [ha,cond_false] at h
  refine ⟨s1,h,I,rfl,rfl,rfl,λp hp=>⟨?_,TX p hp⟩⟩
  cases hf:p.2.1 with
  |none=>
   exfalso
   rw [List.any_eq_false] at ha
   exact ha p (kA hp).1 (by rw [(kA hp).2,hf];rfl)
  |some i=>exact own p hp i hf
section
variable {ops:Array Oper} {n:Cx} {lv:List Nat}
theorem wP {o:Oper} {a:Act} {s:TS} {w:World} {H:HT} {K:TS->HT->Prop} {draw:Bool} {i:Nat} (A:(Value->World->Prop)->Prop) (h0:∀K,rZ P o a w K->A K) (h1:∀K,(bif draw then me else we) P o s.E w K->A K) (hm:∀K K',(∀v w',K v w'->K' v w')->A K->A K')
  (hs:∀cs b,o.op≠.select cs b) (ha:Ag n a s.E) (I:Inv s w) (hH:HI s H w) (hc:calm P o=false) (h:stepT P lv ops draw i o s H K):
  A λv w'=>∃s',K s' (kJ ops i H)/\Inv s' w'/\HI s' (kJ ops i H) w'/\s'.E=s.E.put o.dst v:=by
 unfold stepT at h
 rw [hc,cond_false] at h
 refine hm _ _ (λv w' he=>?_) (Ga A h0 h1 hm hs ha I h)
 obtain ⟨q,m,s1,hk,I1,e1,e2,hL,hq⟩:=he
 obtain ⟨hb,hr⟩:=bY hk
 obtain ⟨s2,k2,I2,f1,f2,f3,H2⟩:=Cr hH I1 hL hb hr
 refine ⟨_,k2,I2.put o.dst λi j h=>?_,H2,by rw [f1,e1]⟩
 rw [f3]
 exact hq i j h
theorem zE {o:Oper} {a:Act} {s:TS} {w:World} {H:HT} {K:TS->HT->Prop} {draw:Bool} {i:Nat} (hs:∀cs b,o.op≠.select cs b) (ha:Ag n a s.E) (I:Inv s w) (hH:HI s H w) (hc:calm P o=true) (h:stepT P lv ops draw i o s H K):
  ∃v Ss s' H',K s' H'/\Inv s' w/\HI s' H' w/\s'.E=s.E.put o.dst v/\Calm P o a.eval w v Ss/\nl H'=(bif draw then Ss.map (λS=>(i,S))++nl H else nl H):=by
 unfold stepT at h
 rw [hc,cond_true] at h
 obtain ⟨v,q,Ss,s',hk,I',e1,e2,e3,tF,hl,hq⟩:=Dx hs ha I h
 refine ⟨v,Ss.map (·.2),_,_,hk,I'.put o.dst λi j h=>?_,λp hp=>?_,by rw [e1],tF,?_⟩
 .rw [e3];exact hq i j h
 .have Aa:p∈H->p.2.2 w/\∀i,p.2.1=some i->∃X,s'.L[i]? =some X/\∀w':World,w'.heap[X.1]? =some (.cells X.2.1.toArray X.2.2 (0,0))->p.2.2 w':=λhp=>by
   rw [e3];exact hH p hp
  cases draw with
  |false=>exact Aa hp
  |true=>
   rcases List.mem_append.1 hp with hp|hp
   .obtain ⟨S,hS,rfl⟩:=oT.1 hp
    refine ⟨tF.1 _ (oT.2 ⟨S,hS,rfl⟩),λi' vT=>?_⟩
    simp only
    rw [e3]
    exact hl S hS i' vT
   .exact Aa hp
 .cases draw with
  |false=>rfl
  |true=>simp [nl]
theorem wk {i d:Nat} {o:Oper} {want t:Bool} {s:TS} {H:HT} {K:TS->HT->Prop} {draw:Bool} (h:aF t (qm P lv ops draw i o d want true s H K) (qm P lv ops draw i o d want false s H K)):qm P lv ops draw i o d want t s H K:=by
 cases t
 .exact h
 .exact h
theorem Inv.same {s:TS} {w:World} (I:Inv s w) {d:Nat} {v:Value} (hd:s.E.get? d=some v):Inv ⟨(d,v)::s.E,s.S,s.L,s.w,s.d⟩ w:=by
 refine ⟨I.lc,I.rel,λt i j ht=>?_⟩
 obtain ⟨X,h1,h2⟩:=I.sl t i j ht
 refine ⟨X,h1,?_⟩
 simp only [Env.get?]
 by_cases e:d=t
 .subst e
  rw [hd] at h2
  cases h2
  simp
 .have hb:Nat.beq d t=false:=by rw [<-Bool.not_eq_true,Nat.beq_eq];exact e
  rw [hb,cond_false]
  exact h2
theorem Inv.skip {s:TS} {w:World} (I:Inv s w) (d:Option Nat):Inv ⟨s.E.put d undef,s.S.put d none,s.L,s.w,s.d⟩ w:=I.put d λi j h=>by cases h
theorem HI.skip {s s':TS} {w:World} {H:HT} (h:HI s H w) (e:s'.L=s.L):HI s' H w:=λp hp=>by rw [e];exact h p hp
theorem HI.drop {s:TS} {w:World} {H:HT} {j:Nat} (h:HI s H w):HI s (kJ ops j H) w:=λp hp=>h p (kA hp).1
theorem HI.held {s:TS} {w:World} {H:HT} (h:HI s H w):∀p∈nl H,p.2 w:=λp hp=>by
 obtain ⟨q,hq,rfl⟩:=oT.1 hp
 exact (h q hq).1
theorem tj {K:TS->Prop} {Q:Exit->Act->World->Prop} (hn:gA n ops=true):∀(l:List Nat) (s:TS) (w:World) (a:Act),Ag n a s.E->Inv s w->runT P lv ops false K l s []->(∀s' w' a',Ag n a' s'.E->Inv s' w'->K s'->Q .normal a' w')->wpOpsIn (FW n) 0 P ops Q l a w
 |[],s,w,a,ha,I,h,hk=>hk s w a ha I h
 |i::l,s,w,a,ha,I,h,hk=>by
  have nM:=Region.noSelect_spec (ops:=ops) (by unfold gA at hn;rw [Bool.and_eq_true] at hn;exact hn.1)
  unfold runT at h
  cases ho:ops[i]? with
  |none=>rw [ho] at h;exact h.elim
  |some o=>
   rw [ho] at h
   simp only at h
   have step:∀(s:TS),Ag n a s.E->Inv s w->Region.wanted o (yielded ops a.tmps)=true->stepT P lv ops false i o s [] (λs' H'=>runT P lv ops false K l s' H')->wpOpsIn (FW n) 0 P ops Q (i::l) a w:=λs ha I hw h=>by
    rw [wpOpsIn_cons]
    cases hc:calm P o with
    |true=>
     obtain ⟨v,Ss,s',H',k1,I',_,e1,tF,JA⟩:=zE (λcs b=>nM i o cs b ho) ha I (λp hp=>by cases hp) hc h
     have:H'=[]:=by cases H' with |nil=>rfl|cons x l=>cases JA
     subst this
     refine rD (Kv:=λv' w'=>v'=v/\w'=w) ho hw ?_ ?_
     .refine rZ.in (mV hn ho) λQ'=>?_
      unfold Oper.wp
      rw [tF.2 w tF.1]
      exact ⟨v,rfl,rfl,rfl⟩
     .rintro v' w' ⟨rfl,rfl⟩
      exact tj hn l s' _ _ (by rw [e1];exact ha.put _ (dR hn ho)) I' k1 hk
    |false=>
     refine rD ho hw (wP (draw:=false) (s:=s) (BC P n o a w) (λK hK=>hK.in (mV hn ho)) (λK hK=>uV (λcs b=>nM i o cs b ho) (mV hn ho) ha hK) (λK K' VW hA Q'=>Oper.wpIn_mono (λa' w' ⟨v,e,hv⟩=>⟨v,e,VW v w' hv⟩) (hA Q')) (λcs b=>nM i o cs b ho) ha I (λp hp=>by cases hp) hc h) λv w' ⟨s',k1,I',_,e1⟩=>?_
     exact tj hn l s' w' _ (by rw [e1];exact ha.put v (dR hn ho)) I' k1 hk
   have skip:∀(s:TS),Ag n a s.E->Inv s w->Region.wanted o (yielded ops a.tmps)=false->runT P lv ops false K l ⟨s.E.put o.dst undef,s.S.put o.dst none,s.L,s.w,s.d⟩ []->wpOpsIn (FW n) 0 P ops Q (i::l) a w:=λs ha I hw h=>by
    rw [wpOpsIn_cons]
    unfold wpOpIn
    simp only [ho,hw]
    exact ⟨λ_ _=>trivial,tj hn l _ w _ (ha.put undef (dR hn ho)) (I.skip o.dst) h hk⟩
   have UX:(bif calm P o then ([]:HT) else kJ ops i [])=[]:=by cases calm P o<;>rfl
   cases hg:o.guard with
   |none=>
    rw [hg] at h
    exact step s ha I (by simp [Region.wanted,hg]) h
   |some jw=>
    obtain ⟨j,want⟩:=jw
    rw [hg] at h
    simp only at h
    cases hd:pK ops j with
    |none=>rw [hd] at h;exact h.elim
    |some d=>
     rw [hd] at h
     simp only at h
     split at h
     .rename_i t ht
      have hy:=mQ ha hd ht
      have lQ:=wk h
      unfold qm at lQ
      cases hb:(t==want) with
      |true=>
       rw [hb,cond_true] at lQ
       exact step _ (ha.same ht) (I.same ht) (by simp [Region.wanted,hg,hy];simpa using hb) lQ
      |false=>
       rw [hb,cond_false,UX] at lQ
       exact skip _ (ha.same ht) (I.same ht) (by simp [Region.wanted,hg,hy];simpa using hb) lQ
     .rename_i vs ht
      rw [UX] at h
      exact skip s ha I (by simp [Region.wanted,hg,jl ha hd ht]) h
     .exact h.elim
def qC (n:Cx) (K:TS->Prop):Exit->Act->World->Prop
 |.normal,a,w=>∃s,Ag n a s.E/\Inv s w/\K s
 |_,_,_=>False
theorem JK {o:Oper} {i:Nat} {H:HT}:(bif calm P o then nl H else eR ops i (nl H))=nl (bif calm P o then H else kJ ops i H):=by
 cases calm P o
 .exact py H
 .rfl
theorem HI.W3 {o:Oper} {i:Nat} {s s':TS} {w:World} {H:HT} (h:HI s H w) (e:s'.L=s.L):HI s' (bif calm P o then H else kJ ops i H) w:=by
 cases calm P o
 .exact h.drop.skip e
 .exact h.skip e
theorem JD (hn:gA n ops=true) {K:TS->Prop} {i:Nat} {o:Oper} {s:TS} {w:World} {H:HT} {a:Act} {Kn:TS->HT->Prop} {listed:Array Bool} {fuel:Nat} (ho:ops[i]? =some o)
  (dN:(bif calm P o then Region.free .any ops listed i&&(Region.ready .any ops listed).contains i else Region.ready .any ops listed==[i])=true) (ha:Ag n a s.E) (I:Inv s w) (hH:HI s H w) (h:DX P lv ops i s H Kn)
  (next:∀a' s' w' H',Ag n a' s'.E->Inv s' w'->HI s' H' w'->Kn s' H'->dI P ops (qC n K) fuel (nl H') (listed.setIfInBounds i true) a' w'):dI P ops (qC n K) (fuel+1) (nl H) listed a w:=by
 have nM:=Region.noSelect_spec (ops:=ops) (by unfold gA at hn;rw [Bool.and_eq_true] at hn;exact hn.1)
 have hQ:∀c a w,qC n K (.panic c) a w=False:=λ_ _ _=>rfl
 have step:∀(s:TS),Ag n a s.E->Inv s w->HI s H w->Region.wanted o (yielded ops a.tmps)=true->stepT P lv ops true i o s H Kn->dI P ops (qC n K) (fuel+1) (nl H) listed a w:=λs ha I hH om h=>by
  cases hc:calm P o with
  |true=>
   rw [hc,cond_true,Bool.and_eq_true] at dN
   obtain ⟨v,Ss,s',H',k1,I',SD,e1,tF,JA⟩:=zE (λcs b=>nM i o cs b ho) ha I hH hc h
   refine qy (v:=v) (Ss:=Ss) ho nM (by simp [hQ]) fuel (nl H) listed a w (Region.free_spec ho dN.1) (by simpa using dN.2) (.inl ⟨om,λw' As=>tF.2 w' As⟩) tF.1 hH.held ?_
   rw [cond_true] at JA
   rw [<-JA]
   exact next _ s' w H' (by rw [e1];exact ha.put v (dR hn ho)) I' SD k1
  |false=>
   rw [hc,cond_false] at dN
   have hr:Region.ready .any ops listed=[i]:=by simpa using dN
   refine λ_=>⟨λh0=>(by rw [hr] at h0;cases h0),λj hj=>?_⟩
   rw [hr] at hj
   obtain rfl:=List.mem_singleton.1 hj
   refine sZ ho om (wP (draw:=true) (s:=s) (rZ P o a w) (λK hK=>hK) (λK hK=>ib (λcs b=>nM j o cs b ho) ha hK) (λK K' VW hA Q'=>Oper.wp_mono (λa' w' ⟨v,e,hv⟩=>⟨v,e,VW v w' hv⟩) (hA Q')) (λcs b=>nM j o cs b ho) ha I hH hc h) λv w' ⟨s',k1,I',SD,e1⟩=>?_
   rw [py]
   exact ⟨SD.held,next _ s' w' _ (by rw [e1];exact ha.put v (dR hn ho)) I' SD k1⟩
 have skip:∀(s:TS),Ag n a s.E->Inv s w->HI s H w->Region.wanted o (yielded ops a.tmps)=false->Kn ⟨s.E.put o.dst undef,s.S.put o.dst none,s.L,s.w,s.d⟩ (bif calm P o then H else kJ ops i H)->dI P ops (qC n K) (fuel+1) (nl H) listed a w:=λs ha I hH hw h=>by
  refine ku hn ho dN hQ hH.held hw ?_
  rw [JK]
  exact next _ _ w _ (ha.put undef (dR hn ho)) (I.skip o.dst) (hH.W3 rfl) h
 unfold DX at h
 rw [ho] at h
 simp only at h
 cases hg:o.guard with
 |none=>
  rw [hg] at h
  exact step s ha I hH (by simp [Region.wanted,hg]) h
 |some jw=>
  obtain ⟨j,want⟩:=jw
  rw [hg] at h
  simp only at h
  cases hd:pK ops j with
  |none=>rw [hd] at h;exact h.elim
  |some d=>
   rw [hd] at h
   simp only at h
   split at h
   .rename_i t ht
    have hy:=mQ ha hd ht
    have lQ:=wk h
    unfold qm at lQ
    cases hb:(t==want) with
    |true=>
     rw [hb,cond_true] at lQ
     exact step _ (ha.same ht) (I.same ht) (hH.skip rfl) (by simp [Region.wanted,hg,hy];simpa using hb) lQ
    |false=>
     rw [hb,cond_false] at lQ
     exact skip _ (ha.same ht) (I.same ht) (hH.skip rfl) (by simp [Region.wanted,hg,hy];simpa using hb) lQ
   .rename_i vs ht
    exact skip s ha I hH (by simp [Region.wanted,hg,jl ha hd ht]) h
   .exact h.elim
theorem Ml (hn:gA n ops=true) {K:TS->Prop} {i:Nat} {o:Oper} {s:TS} {w:World} {H:HT} {a:Act} {Kn:TS->HT->Prop} {listed:Array Bool} {fuel:Nat} (ho:ops[i]? =some o)
  (hc:calm P o=false) (ha:Ag n a s.E) (I:Inv s w) (hH:HI s H w) (h:DX P lv ops i s H Kn)
  (next:∀a' s' w' H',Ag n a' s'.E->Inv s' w'->HI s' H' w'->Kn s' H'->dI P ops (qC n K) fuel (nl H') (listed.setIfInBounds i true) a' w'):
  wpOp P ops (qC n K) i (λa' w'=>(∀p∈eR ops i (nl H),p.2 w')/\dI P ops (qC n K) fuel (eR ops i (nl H)) (listed.setIfInBounds i true) a' w') a w:=by
 have nM:=Region.noSelect_spec (ops:=ops) (by unfold gA at hn;rw [Bool.and_eq_true] at hn;exact hn.1)
 have step:∀(s:TS),Ag n a s.E->Inv s w->HI s H w->Region.wanted o (yielded ops a.tmps)=true->stepT P lv ops true i o s H Kn->wpOp P ops (qC n K) i (λa' w'=>(∀p∈eR ops i (nl H),p.2 w')/\dI P ops (qC n K) fuel (eR ops i (nl H)) (listed.setIfInBounds i true) a' w') a w:=λs ha I hH om h=>by
  refine sZ ho om (wP (draw:=true) (s:=s) (rZ P o a w) (λK hK=>hK) (λK hK=>ib (λcs b=>nM i o cs b ho) ha hK) (λK K' VW hA Q'=>Oper.wp_mono (λa' w' ⟨v,e,hv⟩=>⟨v,e,VW v w' hv⟩) (hA Q')) (λcs b=>nM i o cs b ho) ha I hH hc h) λv w' ⟨s',k1,I',SD,e1⟩=>?_
  rw [py]
  exact ⟨SD.held,next _ s' w' _ (by rw [e1];exact ha.put v (dR hn ho)) I' SD k1⟩
 have skip:∀(s:TS),Ag n a s.E->Inv s w->HI s H w->Region.wanted o (yielded ops a.tmps)=false->Kn ⟨s.E.put o.dst undef,s.S.put o.dst none,s.L,s.w,s.d⟩ (bif calm P o then H else kJ ops i H)->wpOp P ops (qC n K) i (λa' w'=>(∀p∈eR ops i (nl H),p.2 w')/\dI P ops (qC n K) fuel (eR ops i (nl H)) (listed.setIfInBounds i true) a' w') a w:=λs ha I hH hw h=>by
  refine CB ho hH.held hw ?_
  rw [hc,cond_false] at h
  rw [py]
  exact next _ _ w _ (ha.put undef (dR hn ho)) (I.skip o.dst) (hH.drop.skip rfl) h
 unfold DX at h
 rw [ho] at h
 simp only at h
 cases hg:o.guard with
 |none=>
  rw [hg] at h
  exact step s ha I hH (by simp [Region.wanted,hg]) h
 |some jw=>
  obtain ⟨j,want⟩:=jw
  rw [hg] at h
  simp only at h
  cases hd:pK ops j with
  |none=>rw [hd] at h;exact h.elim
  |some d=>
   rw [hd] at h
   simp only at h
   split at h
   .rename_i t ht
    have hy:=mQ ha hd ht
    have lQ:=wk h
    unfold qm at lQ
    cases hb:(t==want) with
    |true=>
     rw [hb,cond_true] at lQ
     exact step _ (ha.same ht) (I.same ht) (hH.skip rfl) (by simp [Region.wanted,hg,hy];simpa using hb) lQ
    |false=>
     rw [hb,cond_false] at lQ
     exact skip _ (ha.same ht) (I.same ht) (hH.skip rfl) (by simp [Region.wanted,hg,hy];simpa using hb) lQ
   .rename_i vs ht
    exact skip s ha I hH (by simp [Region.wanted,hg,jl ha hd ht]) h
   .exact h.elim
theorem qS (hn:gA n ops=true) {K:TS->Prop}:∀(t:Tr) (alt:Bool) (listed:Array Bool) (s:TS) (w:World) (H:HT) (a:Act) (m:Nat),kg P ops t alt listed=true->Ag n a s.E->Inv s w->HI s H w->Sf P lv ops K t s H->
  (alt=false->t.len=m->dI P ops (qC n K) m (nl H) listed a w)/\
  (alt=true->t.len=m+1->∀i∈t.oS,wpOp P ops (qC n K) i (λa' w'=>(∀p∈eR ops i (nl H),p.2 w')/\dI P ops (qC n K) m (eR ops i (nl H)) (listed.setIfInBounds i true) a' w') a w)
 |.nil,alt,listed,s,w,H,a,m,dN,ha,I,hH,h=>by
  unfold kg at dN
  rw [Bool.and_eq_true] at dN
  refine ⟨λ_ hm=>?_,λe=>?_⟩
  .subst hm
   exact λ_=>⟨by simpa using dN.2,s,ha,I,h⟩
  .subst e;simp at dN
 |.one i t,alt,listed,s,w,H,a,m,dN,ha,I,hH,h=>by
  unfold kg at dN
  rw [Bool.and_eq_true] at dN
  obtain ⟨dN,vi⟩:=dN
  cases ho:ops[i]? with
  |none=>rw [ho] at dN;cases dN
  |some o=>
   rw [ho] at dN
   simp only at dN
   unfold Sf at h
   refine ⟨λe hm=>?_,λe hm j hj=>?_⟩
   .subst e hm
    exact JD hn ho dN ha I hH h λa' s' w' H' hA hI OW hR=>(qS hn t false _ s' w' H' a' _ vi hA hI OW hR).1 rfl rfl
   .subst e
    rw [cond_true] at dN
    obtain rfl:=List.mem_singleton.1 hj
    have JG:t.len=m:=by simpa [Tr.len] using hm
    exact Ml hn ho (by simpa using dN) ha I hH h λa' s' w' H' hA hI OW hR=>(qS hn t false _ s' w' H' a' _ vi hA hI OW hR).1 rfl JG
 |.fork x y,alt,listed,s,w,H,a,m,dN,ha,I,hH,h=>by
  unfold kg at dN
  simp only [Bool.and_eq_true] at dN
  obtain ⟨hr,hl,hx,hy⟩:=dN
  rw [Nat.beq_eq] at hl
  unfold Sf at h
  have both:∀k,x.len=k+1->∀i∈(Tr.fork x y).oS,wpOp P ops (qC n K) i (λa' w'=>(∀p∈eR ops i (nl H),p.2 w')/\dI P ops (qC n K) k (eR ops i (nl H)) (listed.setIfInBounds i true) a' w') a w:=λk hk i hi=>by
   rcases List.mem_append.1 hi with hi|hi
   .exact (qS hn x true listed s w H a k hx ha I hH h.1).2 rfl hk i hi
   .exact (qS hn y true listed s w H a k hy ha I hH h.2).2 rfl (hl▸hk) i hi
  refine ⟨λe hm=>?_,λ_ hm=>both m hm⟩
  subst e
  obtain ⟨k,hk⟩:=zO x listed hx
  have JG:m=k+1:=by rw [<-hm,<-hk];rfl
  subst JG
  have Wk:Region.ready .any ops listed=(Tr.fork x y).oS:=by simpa using hr
  have hM:(Tr.fork x y).oS≠[]:=by have:=uv x listed hx;simp [Tr.oS,this]
  exact λ_=>⟨λh0=>absurd (Wk▸h0) hM,λi hi=>both k hk i (Wk▸hi)⟩
theorem Na {c:Code} {a:Act} {s:TS} {w:World} {K:TS->Prop} (hc:GV n c=true) (ha:Ag n a s.E) (I:Inv s w) (h:runT P lv (Code.ops c) false K (List.range (Code.ops c).size) s []):Ac P n c (qC n K) a w:=by
 unfold GV at hc
 split at hc
 .rename_i id ops d
  rw [Bool.and_eq_true] at hc
  obtain ⟨h1,h2⟩:=hc
  have h3:d=false:=by simpa using h1
  subst h3
  exact wpIn_region (tj h2 _ s w a ha I h λs' w' a' h1 h2 h3=>⟨s',h1,h2,h3⟩)
 .cases hc
theorem Inv.dr {s:TS} {w:World} {K:TS->Prop} (I:Inv s w) (h:VJ s K):∃s',K s'/\Inv s' w.drew/\s'.E=s.E:=by
 have lc:LC w.drew s.L:=I.lc.fr (M:=λ_=>False) (Fr.drew _ _) (λ_ _ h=>h)
 unfold VJ at h
 split at h
 .rename_i hL hd
  have hr:=I.rel
  rw [hd] at hr
  have:w=s.w:=by simpa using hr
  exact ⟨_,h,⟨lc,by simp [this],I.sl⟩,rfl⟩
 .exact ⟨_,h,⟨lc,by simpa using I.fr.Ab (Fr.drew _ _),I.sl⟩,rfl⟩
theorem M9 {c:Code} {a:Act} {s:TS} {w:World} {K:TS->Prop} {t:Tr} (hc:Bn P n c t=true) (ha:Ag n a s.E) (I:Inv s w) (h:VJ s λs=>Sf P lv (Code.ops c) K t s []):Ac P n c (qC n K) a w:=by
 unfold Bn at hc
 split at hc
 .rename_i id ops d
  simp only [Bool.and_eq_true] at hc
  obtain ⟨rfl,hm,hn,hl,h5⟩:=hc
  rw [Nat.beq_eq] at h5
  obtain ⟨s',hk,I',e⟩:=I.dr h
  have h1:=(qS hn t false _ s' w.drew [] a _ hl (by rw [e];exact ha) I' (λp hp=>(by cases hp)) hk).1 rfl h5
  have h2:=nL _ [] _ _ _ (Down.zero _ _) h1
  refine wpIn_region_draw λt=>?_
  refine pS hn (λ⟨_,_,h⟩=>h) _ _ _ ?_
  simp only [Region.schedule,hm,Bool.true_or,if_true]
  exact wpAny_sound ops.size t _ a _ h2
 .cases hc
end
end
abbrev KT:=Exit->TS->Prop
structure NV where
 ord:Nat->Option Tr
 pt:List Bool->Option (TS->Prop)
 lv:List Nat
def RJ (tb:NV) (q:List Bool) (f:TS->Prop) (s:TS):Prop:=match tb.pt q with
 |some F=>xD s F
 |none=>f s
def WY (tb:NV) (q:List Bool) (f:TS->Prop) (K:KT):KT:=λe s=>match e with
 |.normal=>RJ tb q f s
 |e=>K e s
def Om (id:Nat) (K:KT):KT:=λe s=>match e with
 |.exit XS=>if XS=id then K .normal s else K (.exit XS) s
 |e=>K e s
def DG (P:Program) (n:Cx) (tb:NV):Code->List Bool->KT->TS->Prop
 |.skip,_,K,s=>K .normal s
 |.region id ops true,_,K,s=>match tb.ord id with
  |some t=>hG (Bn P n (.region id ops true) t) (VJ s λs=>Sf P tb.lv ops (K .normal) t s [])
  |none=>False
 |.region id ops false,_,K,s=>hG (GV n (.region id ops false)) (runT P tb.lv ops false (K .normal) (List.range ops.size) s [])
 |.seq a b,q,K,s=>DG P n tb a (false::q) (WY tb (true::q) (DG P n tb b (true::q) K) K) s
 |.cond o a b,q,K,s=>pH (s.E.val o) (RJ tb (false::q) (DG P n tb a (false::q) K) s) (RJ tb (true::q) (DG P n tb b (true::q) K) s)
 |.block id a,q,K,s=>DG P n tb a (false::q) (Om id K) s
 |.loop _,q,_,s=>RJ tb q (λ_=>False) s
 |.exit id,_,K,s=>K (.exit id) s
 |.ret,_,K,s=>K .ret s
 |_,_,_,_=>False
section
variable {P:Program} {n:Cx} {tb:NV}
def oM (P:Program) (n:Cx) (c0:Code) (Q0:Exit->Act->World->Prop):List Bool->Code×(Exit->Act->World->Prop)
 |[]=>(c0,Q0)
 |b::q=>match oM P n c0 Q0 q,b with
  |(.seq x y,Q),false=>(x,Exit.then (Ac P n y Q) Q)
  |(.seq _ y,Q),true=>(y,Q)
  |(.cond _ x _,Q),false=>(x,Q)
  |(.cond _ _ y,Q),true=>(y,Q)
  |(.block id x,Q),_=>(x,Exit.inBlock id Q)
  |(.loop x,Q),_=>(x,Exit.then (r6 P n x Q) Q)
  |(_,Q),_=>(.skip,Q)
def UI (P:Program) (n:Cx) (p:Code×(Exit->Act->World->Prop)) (a:Act) (w:World):Prop:=match p with
 |(.loop x,Q)=>r6 P n x Q a w
 |(c,Q)=>Ac P n c Q a w
theorem UI.wp {c:Code} {Q:Exit->Act->World->Prop} {a:Act} {w:World} (h:UI P n (c,Q) a w):Ac P n c Q a w:=by
 unfold UI at h
 split at h
 .rename_i x Q' e
  cases e
  exact vP h
 .rename_i c' Q' _ e
  cases e
  exact h
def KQ (n:Cx) (K:KT) (Q:Exit->Act->World->Prop):Prop:=∀e s w a,Ag n a s.E->Inv s w->K e s->Q e a w
def AG (P:Program) (n:Cx) (tb:NV) (c0:Code) (Q0:Exit->Act->World->Prop):Prop:=∀q F,tb.pt q=some F->∀s w a,Ag n a s.E->Inv s w->F s->UI P n (oM P n c0 Q0 q) a w
variable {c0:Code} {Q0:Exit->Act->World->Prop}
theorem qN (hT:AG P n tb c0 Q0) {q:List Bool} {c:Code} {Q:Exit->Act->World->Prop} (hp:oM P n c0 Q0 q=(c,Q)) {f:TS->Prop} {s:TS} {w:World} {a:Act} (ha:Ag n a s.E) (I:Inv s w) (hf:f s->Ac P n c Q a w) (h:RJ tb q f s):Ac P n c Q a w:=by
 unfold RJ at h
 split at h
 .rename_i F hF
  obtain ⟨I',h'⟩:=I.xD h
  have:=hT q F hF ⟨s.E,s.S,s.L,w,false⟩ w a ha I' h'
  rw [hp] at this
  exact this.wp
 .exact hf h
theorem vD {c:Code} {K:TS->Prop} {Q:Exit->Act->World->Prop} {a:Act} {w:World} (h:Ac P n c (qC n K) a w) (hk:∀s w a,Ag n a s.E->Inv s w->K s->Q .normal a w):Ac P n c Q a w:=
 wpIn_mono h λe a' w' he=>by
  cases e with
  |normal=>obtain ⟨s',hA,hI,hK⟩:=he;exact hk s' w' a' hA hI hK
  |_=>exact he.elim
theorem lH (hT:AG P n tb c0 Q0):∀(c:Code) (q:List Bool) (K:KT) (Q:Exit->Act->World->Prop) (s:TS) (w:World) (a:Act),oM P n c0 Q0 q=(c,Q)->KQ n K Q->Ag n a s.E->Inv s w->DG P n tb c q K s->Ac P n c Q a w
 |.skip,q,K,Q,s,w,a,hp,hK,ha,I,h=>wpIn_skip (hK _ _ _ _ ha I h)
 |.region id ops true,q,K,Q,s,w,a,hp,hK,ha,I,h=>by
  unfold DG at h
  split at h
  .obtain ⟨h1,h2⟩:=bY h
   exact vD (M9 (c:=.region id ops true) h1 ha I h2) λs w a h1 h2 h3=>hK _ _ _ _ h1 h2 h3
  .exact h.elim
 |.region id ops false,q,K,Q,s,w,a,hp,hK,ha,I,h=>by
  unfold DG at h
  obtain ⟨h1,h2⟩:=bY h
  exact vD (Na (c:=.region id ops false) h1 ha I h2) λs w a h1 h2 h3=>hK _ _ _ _ h1 h2 h3
 |.seq x y,q,K,Q,s,w,a,hp,hK,ha,I,h=>by
  unfold DG at h
  have p1:oM P n c0 Q0 (false::q)=(x,Exit.then (Ac P n y Q) Q):=by unfold oM;rw [hp]
  have p2:oM P n c0 Q0 (true::q)=(y,Q):=by unfold oM;rw [hp]
  refine wpIn_seq (lH hT x (false::q) _ _ s w a p1 (λe s' w' a' xi I' hk=>?_) ha I h)
  cases e with
  |normal=>exact qN hT p2 xi I' (λh'=>lH hT y (true::q) K Q s' w' a' p2 hK xi I' h') hk
  |_=>exact hK _ _ _ _ xi I' hk
 |.cond o x y,q,K,Q,s,w,a,hp,hK,ha,I,h=>by
  unfold DG at h
  have p1:oM P n c0 Q0 (false::q)=(x,Q):=by unfold oM;rw [hp]
  have p2:oM P n c0 Q0 (true::q)=(y,Q):=by unfold oM;rw [hp]
  unfold pH at h
  split at h
  .rename_i t ht
   refine wpIn_cond_split (ha.val ht) (λe=>?_) (λe=>?_)
   .subst e
    exact qN hT p1 ha I (λh'=>lH hT x (false::q) K Q s w a p1 hK ha I h') h
   .subst e
    exact qN hT p2 ha I (λh'=>lH hT y (true::q) K Q s w a p2 hK ha I h') h
  .exact h.elim
 |.block id x,q,K,Q,s,w,a,hp,hK,ha,I,h=>by
  unfold DG at h
  have p1:oM P n c0 Q0 (false::q)=(x,Exit.inBlock id Q):=by unfold oM;rw [hp]
  refine wpIn_block (lH hT x (false::q) _ _ s w a p1 (λe s' w' a' xi I' hk=>?_) ha I h)
  cases e with
  |exit XS=>
   simp only [Om] at hk
   simp only [Exit.inBlock]
   split at hk
   .rename_i e;rw [if_pos e];exact hK _ _ _ _ xi I' hk
   .rename_i e;rw [if_neg e];exact hK _ _ _ _ xi I' hk
  |_=>exact hK _ _ _ _ xi I' hk
 |.loop x,q,K,Q,s,w,a,hp,hK,ha,I,h=>by
  unfold DG at h
  exact qN hT hp ha I (λh'=>h'.elim) h
 |.exit id,q,K,Q,s,w,a,hp,hK,ha,I,h=>wpIn_exit (hK _ _ _ _ ha I h)
 |.ret,q,K,Q,s,w,a,hp,hK,ha,I,h=>wpIn_ret (hK _ _ _ _ ha I h)
 |.rangeFunc ..,_,_,_,_,_,_,_,_,_,_,h=>h.elim
 |.scope _,_,_,_,_,_,_,_,_,_,_,h=>h.elim
 |.label _,_,_,_,_,_,_,_,_,_,_,h=>h.elim
 |.goto _,_,_,_,_,_,_,_,_,_,_,h=>h.elim
 |.refuse _,_,_,_,_,_,_,_,_,_,_,h=>h.elim
def Ij (tb:NV) (q:List Bool) (K:KT):KT:=λe s=>match e with
 |.normal=>RJ tb q (λ_=>False) s
 |e=>K e s
def Pf (P:Program) (n:Cx) (tb:NV) (c0:Code) (K0:KT):List Bool->Code×KT
 |[]=>(c0,K0)
 |b::q=>match Pf P n tb c0 K0 q,b with
  |(.seq x y,K),false=>(x,WY tb (true::q) (DG P n tb y (true::q) K) K)
  |(.seq _ y,K),true=>(y,K)
  |(.cond _ x _,K),false=>(x,K)
  |(.cond _ _ y,K),true=>(y,K)
  |(.block id x,K),_=>(x,Om id K)
  |(.loop x,K),_=>(x,Ij tb q K)
  |(_,K),_=>(.skip,K)
theorem wA (hT:AG P n tb c0 Q0) {K0:KT} (h0:KQ n K0 Q0):∀q:List Bool,(Pf P n tb c0 K0 q).1=(oM P n c0 Q0 q).1/\KQ n (Pf P n tb c0 K0 q).2 (oM P n c0 Q0 q).2
 |[]=>⟨rfl,h0⟩
 |b::q=>by
  obtain ⟨h1,h2⟩:=wA hT h0 q
  unfold Pf oM
  generalize hp:oM P n c0 Q0 q=p at h1 h2
  generalize Pf P n tb c0 K0 q=k at h1 h2
  obtain ⟨c,Q⟩:=p
  obtain ⟨c',K⟩:=k
  simp only at h1 h2
  subst h1
  cases c' with
  |seq x y=>
   cases b with
   |false=>
    refine ⟨rfl,λe s w a ha I hk=>?_⟩
    cases e with
    |normal=>
     have p2:oM P n c0 Q0 (true::q)=(y,Q):=by unfold oM;rw [hp]
     exact qN hT p2 ha I (λh'=>lH hT y (true::q) K Q s w a p2 h2 ha I h') hk
    |_=>exact h2 _ _ _ _ ha I hk
   |true=>exact ⟨rfl,h2⟩
  |cond o x y=>cases b<;>exact ⟨rfl,h2⟩
  |block id x=>
   cases b<;>(
    refine ⟨rfl,λe s w a ha I hk=>?_⟩
    cases e with
    |exit XS=>
     simp only [Om] at hk
     simp only [Exit.inBlock]
     split at hk
     .rename_i e;rw [if_pos e];exact h2 _ _ _ _ ha I hk
     .rename_i e;rw [if_neg e];exact h2 _ _ _ _ ha I hk
    |_=>exact h2 _ _ _ _ ha I hk)
  |loop x=>
   cases b<;>(
    refine ⟨rfl,λe s w a ha I hk=>?_⟩
    cases e with
    |normal=>
     simp only [Ij,RJ] at hk
     split at hk
     .rename_i F hF
      obtain ⟨I',h'⟩:=I.xD hk
      have:=hT q F hF ⟨s.E,s.S,s.L,w,false⟩ w a ha I' h'
      rw [hp] at this
      exact this
     .exact hk.elim
    |_=>exact h2 _ _ _ _ ha I hk)
  |_=>cases b<;>exact ⟨rfl,h2⟩
def F9 (P:Program) (n:Cx) (tb:NV) (c0:Code) (K0:KT) (q:List Bool) (s:TS):Prop:=match Pf P n tb c0 K0 q with
 |(.loop x,K)=>DG P n tb x (false::q) (Ij tb q K) s
 |(c,K)=>DG P n tb c q K s
theorem B0 (hT:AG P n tb c0 Q0) {K0:KT} (h0:KQ n K0 Q0) {q:List Bool} {s:TS} {w:World} {a:Act} (ha:Ag n a s.E) (I:Inv s w) (h:F9 P n tb c0 K0 q s):UI P n (oM P n c0 Q0 q) a w:=by
 obtain ⟨h1,h2⟩:=wA hT h0 q
 have h3:=wA hT h0 (false::q)
 unfold F9 at h
 generalize hp:oM P n c0 Q0 q=p at h1 h2
 generalize hk:Pf P n tb c0 K0 q=k at h h1 h2
 obtain ⟨c,Q⟩:=p
 obtain ⟨c',K⟩:=k
 simp only at h1 h2
 subst h1
 cases c' with
 |loop x=>
  have p1:oM P n c0 Q0 (false::q)=(x,Exit.then (r6 P n x Q) Q):=by unfold oM;rw [hp]
  have k1:Pf P n tb c0 K0 (false::q)=(x,Ij tb q K):=by unfold Pf;rw [hk]
  rw [p1,k1] at h3
  exact xk (lH hT x (false::q) _ _ s w a p1 h3.2 ha I h)
 |_=>exact lH hT _ q K Q s w a hp h2 ha I h
end
section
variable {P:Program}
def Ct (P:Program) (s:TS):List ResultVar->(List Value->Prop)->Prop
 |[],K=>K []
 |.tmp t::l,K=>match s.E.get? t with
  |some v=>Ct P s l λvs=>K (v::vs)
  |none=>False
 |.cell x T::l,K=>match s.S.get? x with
  |some (i,j)=>match s.L[i]? with
   |some X=>Z3 P T X.2.1 j λv=>Ct P s l λvs=>K (v::vs)
   |none=>False
  |none=>match s.E.get? x with
   |some (.pointer (some p))=>At P T p s.w λv _=>Ct P s l λvs=>K (v::vs)
   |_=>False
def Nb (P:Program) (fn:Func) (R:aD):KT:=λe s=>match e with
 |.normal|.ret=>xD s λs=>Ct P s fn.results.toList λvs=>R (.returned (M0 vs)) s.w
 |_=>False
theorem um {n:Cx} {a:Act} {s:TS} {w:World} (ha:Ag n a s.E) (I:Inv s w) (hw:s.w=w):∀{l:List ResultVar} {K:List Value->Prop},Ct P s l K->
  ∃vs,(l.mapM (xx a.tmps)).run P w=.ok vs w/\K vs
 |[],K,h=>⟨[],by simp,h⟩
 |.tmp t::l,K,h=>by
  unfold Ct at h
  split at h
  .rename_i v hv
   obtain ⟨vs,hr,hk⟩:=um ha I hw h
   refine ⟨v::vs,?_,hk⟩
   have hg:=ha.get t v hv
   simp [List.mapM_cons,xx,hr,hg]
  .exact h.elim
 |.cell x T::l,K,h=>by
  have fin:∀(p:Addr) (v:Value),s.E.get? x=some (.pointer (some p))->(loadVar T p).run P w=.ok v w->(Ct P s l λvs=>K (v::vs))->∃vs,((ResultVar.cell x T::l).mapM (xx a.tmps)).run P w=.ok vs w/\K vs:=λp v hp hv h=>by
   obtain ⟨vs,hr,hk⟩:=um ha I hw h
   refine ⟨v::vs,?_,hk⟩
   have hg:=ha.get x _ hp
   simp [List.mapM_cons,xx,hr,hg,asAddr,hv]
  unfold Ct at h
  split at h
  .rename_i i j hx
   obtain ⟨X,h1,h2⟩:=I.sl x i j hx
   rw [h1] at h
   obtain ⟨v,hk,hv⟩:=Bh (b:=X.1) (ty:=X.2.2) h
   exact fin _ v h2 (hv w (I.lc.own i X h1)) hk
  .split at h
   .rename_i p hp
    rw [hw] at h
    obtain ⟨v,S,h,vj,KB⟩:=ud h
    exact fin p v hp (KB w vj) h
   .exact h.elim
theorem zo {m:Nat} {fn:Func} {R:aD}:KQ (cx m) (Nb P fn R) (bodyPost P fn R):=by
 intro e s w a ha I h
 have go:(xD s λs=>Ct P s fn.results.toList λvs=>R (.returned (M0 vs)) s.w)->a.defers=[]/\∃v,(results fn a.tmps).run P w=.ok v w/\R (.returned v) w:=λh=>by
  obtain ⟨I',h'⟩:=I.xD h
  obtain ⟨vs,hr,hk⟩:=um (s:=⟨s.E,s.S,s.L,w,false⟩) ha I' rfl h'
  refine ⟨ha.defers,_,?_,hk⟩
  rw [zm,<-Array.toArray_toList (xs:=fn.results),List.mapM_toArray]
  simp only [Sem.run_bind,Sem.run_map,hr,Result.andThen_ok,Sem.run_pure]
  congr 1
  cases vs with
  |nil=>rfl
  |cons v vs=>cases vs<;>rfl
 unfold Nb at h
 cases e with
 |normal=>exact go h
 |ret=>exact go h
 |_=>exact h.elim
theorem BY {f:FuncId} {fn:Func} {c:Code} {args:List Value} {w:World} {R:aD} {tb:NV} (hf:P.funcs[f]? =some fn) (hb:fn.body=some c) (l8:Nat.ble args.length fn.ntmps=true)
  (hT:AG P (cx fn.ntmps) tb c (bodyPost P fn R)) (h:DG P (cx fn.ntmps) tb c [] (Nb P fn R) ⟨rF 0 args,[],[],w,false⟩):Calls P f args.toArray w R:=
 oW hf hb l8 λa ha=>lH hT c [] _ _ _ w a rfl zo ha ⟨LC.nil _,by simp,λt i j h=>by cases h⟩ h
end
inductive Sh
 |i (k:IntKind)|b|st|s|p|r|m|v|f
def Sh.T:Sh->Type
 |.i _=>Int
 |.b=>Bool
 |.st=>ByteArray
 |.s=>Sl
 |.p=>Option Addr
 |.r=>Addr
 |.m=>Option Nat
 |.v=>Value
 |.f=>Fv
def Sh.val:(h:Sh)->h.T->Value
 |.i k,x=>.int k x
 |.b,x=>.bool x
 |.st,x=>.string x
 |.s,x=>Sl.v x
 |.p,x=>.pointer x
 |.r,x=>.pointer (some x)
 |.m,x=>.map x
 |.v,x=>x
 |.f,x=>Fv.v x
def Sh.rd (h:Sh) (v:Value) (K:h.T->Prop):Prop:=match h,v,K with
 |.i k,.int k' x,K=>hG (k'==k) (K x)
 |.b,.bool x,K=>K x
 |.st,.string x,K=>K x
 |.s,.slice a n c,K=>K ⟨a,n,c⟩
 |.p,.pointer x,K=>K x
 |.r,.pointer (some x),K=>K x
 |.m,.map x,K=>K x
 |.v,x,K=>K x
 |.f,.func (.func n) bs cs,K=>K ⟨n,bs,cs⟩
 |_,_,_=>False
theorem Sh.PK {h:Sh} {v:Value} {K:h.T->Prop} (hr:h.rd v K):∃x,v=h.val x/\K x:=by
 unfold Sh.rd at hr
 split at hr<;>first |exact hr.elim|skip
 .obtain ⟨h1,h2⟩:=bY hr
  have:=eq_of_beq h1
  subst this
  exact ⟨_,rfl,h2⟩
 all_goals exact ⟨_,rfl,hr⟩
inductive Tk
 |o (h:Sh)|a (k:Nat)|t (k:Nat)|g (n j k:Nat)
abbrev Tk.I:Tk:=.o (.i .i64)
abbrev Tk.U:Tk:=.o (.i .u64)
abbrev Tk.Y:Tk:=.o (.i .u8)
abbrev Tk.i (k:IntKind):Tk:=.o (.i k)
abbrev Tk.b:Tk:=.o .b
abbrev Tk.st:Tk:=.o .st
abbrev Tk.s:Tk:=.o .s
abbrev Tk.p:Tk:=.o .p
abbrev Tk.r:Tk:=.o .r
abbrev Tk.m:Tk:=.o .m
abbrev Tk.v:Tk:=.o .v
abbrev Tk.f:Tk:=.o .f
def Ad:List Tk->Type->Type
 |[],X=>X
 |.o h::l,X=>h.T->Ad l X
 |.a _::l,X=>Ad l X
 |.t _::l,X=>Ad l X
 |.g _ _ _::l,X=>Ad l X
inductive Sp
 |v (l:List Tk)
 |l (l:List Tk) (T:TypeId)
def FB:List (Nat×Sp)->Type
 |[]=>World->aD->Prop
 |(_,.v ts)::l=>Ad ts (FB l)
 |(_,.l ts _)::l=>Nat->Ad ts (FB l)
def N5:(ts:List Tk)->(X:Type)->List Value->Ad ts X->(X->Prop)->Prop
 |[],_,[],F,K=>K F
 |.o h::ts,X,v::vs,F,K=>h.rd v λx=>N5 ts X vs (F x) K
 |.a k::ts,X,.agg a::vs,F,K=>hG (Nat.beq a.toList.length k) (N5 ts X (a.toList++vs) F K)
 |.t k::ts,X,.tuple a::vs,F,K=>hG (Nat.beq a.toList.length k) (N5 ts X (a.toList++vs) F K)
 |.g n j k::ts,X,.func (.func m) bs cs::vs,F,K=>hG (Nat.beq n m&&Nat.beq bs.toList.length j&&Nat.beq cs.toList.length k) (N5 ts X (bs.toList++(cs.toList++vs)) F K)
 |_,_,_,_,_=>False
def Pu:(ts:List Tk)->(X:Type)->(List Value->X)->Ad ts X
 |[],_,K=>K []
 |.o h::ts,X,K=>λx=>Pu ts X λvs=>K (h.val x::vs)
 |.a k::ts,X,K=>Pu ts X λvs=>K (.agg (vs.take k).toArray::vs.drop k)
 |.t k::ts,X,K=>Pu ts X λvs=>K (.tuple (vs.take k).toArray::vs.drop k)
 |.g n j k::ts,X,K=>Pu ts X λvs=>K (.func (.func n) (vs.take j).toArray ((vs.drop j).take k).toArray::(vs.drop j).drop k)
theorem IB:∀{ts:List Tk} {X:Type} {vs:List Value} {K:List Value->X} {K2:X->Prop},N5 ts X vs (Pu ts X K) K2->K2 (K vs):=by
 intro ts
 induction ts with
 |nil=>
  intro X vs K K2 hr
  cases vs with
  |nil=>exact hr
  |cons _ _=>exact hr.elim
 |cons t ts ih=>
  intro X vs K K2 hr
  cases t with
  |o h=>
   cases vs with
   |nil=>exact hr.elim
   |cons v vs=>
    obtain ⟨x,rfl,h'⟩:=Sh.PK hr
    exact ih (K:=λvs=>K (h.val x::vs)) h'
  |a k=>
   cases vs with
   |nil=>exact hr.elim
   |cons v vs=>
    cases v with
    |agg a=>
     obtain ⟨h1,h2⟩:=bY (show hG (Nat.beq a.toList.length k) (N5 ts X (a.toList++vs) _ K2) from hr)
     rw [Nat.beq_eq] at h1
     have:=ih (K:=λvs=>K (.agg (vs.take k).toArray::vs.drop k)) h2
     rw [List.take_left' h1,List.drop_left' h1] at this
     exact this
    |_=>exact hr.elim
  |t k=>
   cases vs with
   |nil=>exact hr.elim
   |cons v vs=>
    cases v with
    |tuple a=>
     obtain ⟨h1,h2⟩:=bY (show hG (Nat.beq a.toList.length k) (N5 ts X (a.toList++vs) _ K2) from hr)
     rw [Nat.beq_eq] at h1
     have:=ih (K:=λvs=>K (.tuple (vs.take k).toArray::vs.drop k)) h2
     rw [List.take_left' h1,List.drop_left' h1] at this
     exact this
    |_=>exact hr.elim
  |g n j k=>
   cases vs with
   |nil=>exact hr.elim
   |cons v vs=>
    cases v with
    |func fr bs cs=>
     cases fr with
     |func m=>
      obtain ⟨h1,h2⟩:=bY (show hG (Nat.beq n m&&Nat.beq bs.toList.length j&&Nat.beq cs.toList.length k) (N5 ts X (bs.toList++(cs.toList++vs)) _ K2) from hr)
      rw [Bool.and_eq_true,Bool.and_eq_true,Nat.beq_eq,Nat.beq_eq,Nat.beq_eq] at h1
      obtain ⟨⟨h3,h4⟩,h5⟩:=h1
      have:=ih (K:=λvs=>K (.func (.func n) (vs.take j).toArray ((vs.drop j).take k).toArray::(vs.drop j).drop k)) h2
      rw [List.take_left' h4,List.drop_left' h4,List.take_left' h5,List.drop_left' h5,h3] at this
      exact this
     |_=>exact hr.elim
    |_=>exact hr.elim
def cJ:(l:List (Nat×Sp))->Nat->(Env->Sv->Lv->World->aD->Prop)->FB l
 |[],_,K=>K [] [] []
 |(t,.v ts)::l,n,K=>Pu ts (FB l) λvs=>cJ l n λE S L=>K ((t,vs.headD undef)::E) S L
 |(t,.l ts T)::l,n,K=>λb=>Pu ts (FB l) λvs=>cJ l (n+1) λE S L=>K ((t,.pointer (some (bF b)))::E) ((t,some (n,0))::S) ((b,vs,T)::L)
def xw:(l:List (Nat×Sp))->FB l->TS->List Nat->World->aD->Prop
 |[],F,_,_,w,R=>F w R
 |(t,.v ts)::l,F,s,is,w,R=>match s.E.get? t with
  |some v=>N5 ts (FB l) [v] F λG=>xw l G s is w R
  |none=>False
 |(t,.l ts T)::l,F,s,is,w,R=>match s.S.get? t with
  |some (i,0)=>match s.L[i]? with
   |some X=>hG (Nat.beq X.2.2 T&&!is.any (Nat.beq i)) (N5 ts (FB l) X.2.1 (F X.1) λG=>xw l G s (i::is) w R)
   |none=>False
  |_=>False
theorem DN {E E':Env} {t:Nat} {v:Value} (ht:E'.get? t=some v) (h:∀t v,E.get? t=some v->E'.get? t=some v):∀t' v',Env.get? ((t,v)::E) t'=some v'->E'.get? t'=some v':=λt' v' hv=>by
 simp only [Env.get?] at hv
 cases hb:Nat.beq t t' with
 |true=>
  rw [hb,cond_true] at hv
  rw [Nat.beq_eq] at hb
  subst hb
  cases hv
  exact ht
 |false=>
  rw [hb,cond_false] at hv
  exact h t' v' hv
structure Yo (s:TS) (n:Nat) (is js:List Nat) (E:Env) (S:Sv):Prop where
 sub:∀t v,E.get? t=some v->s.E.get? t=some v
 nd:js.Nodup
 dj:∀j∈js,j∉is
 lt:∀j∈js,∃X,s.L[j]? =some X
 sl:∀t i k,S.get? t=some (i,k)->n<=i/\∃j,js[i - n]? =some j/\s.S.get? t=some (j,k)/\∃v,E.get? t=some v
theorem M7 {s:TS} {w:World} (I:Inv s w) {R:aD}:∀{l:List (Nat×Sp)} {n:Nat} {K:Env->Sv->Lv->World->aD->Prop} {is:List Nat},xw l (cJ l n K) s is w R->
  ∃E S js,Yo s n is js E S/\K E S (js.filterMap λj=>(s.L[j]? :Option (Nat×List Value×TypeId))) w R:=by
 intro l
 induction l with
 |nil=>
  intro n K is h
  exact ⟨[],[],[],⟨λt v h=>by (simp [Env.get?] at h),.nil,λ_ h=>by (cases h),λ_ h=>by (cases h),λt i k h=>by (cases h)⟩,h⟩
 |cons p l ih=>
  intro n K is h
  obtain ⟨t,sp⟩:=p
  cases sp with
  |v ts=>
   unfold xw at h
   split at h
   .rename_i v hv
    have h':=IB (K:=λvs=>cJ l n λE S L=>K ((t,vs.headD undef)::E) S L) h
    obtain ⟨E,S,js,hr,hk⟩:=ih h'
    refine ⟨(t,v)::E,S,js,⟨DN hv hr.sub,hr.nd,hr.dj,hr.lt,λt' i k hs=>?_⟩,hk⟩
    obtain ⟨h1,j,h2,h3,v',h4⟩:=hr.sl t' i k hs
    refine ⟨h1,j,h2,h3,?_⟩
    simp only [Env.get?]
    cases Nat.beq t t' with
    |true=>exact ⟨_,rfl⟩
    |false=>exact ⟨_,h4⟩
   .exact h.elim
  |l ts T=>
   unfold xw at h
   split at h
   .rename_i i hi
    split at h
    .rename_i X hX
     obtain ⟨h1,h2⟩:=bY h
     rw [Bool.and_eq_true,Nat.beq_eq,Bool.not_eq_true',List.any_eq_false] at h1
     have h':=IB (K:=λvs=>cJ l (n+1) λE S L=>K ((t,.pointer (some (bF X.1)))::E) ((t,some (n,0))::S) ((X.1,vs,T)::L)) h2
     obtain ⟨E,S,js,hr,hk⟩:=ih h'
     obtain ⟨X',Ra,hp⟩:=I.sl t i 0 hi
     rw [hX] at Ra
     cases Ra
     refine ⟨(t,.pointer (some (bF X.1)))::E,(t,some (n,0))::S,i::js,⟨DN ?_ hr.sub,List.nodup_cons.2 ⟨λhm=>hr.dj i hm (by simp),hr.nd⟩,λj hj=>?_,λj hj=>?_,λt' i' k hs=>?_⟩,?_⟩
     .rw [hp,uH]
     .rcases cU.1 hj with rfl|hj
      .intro hm
       have:=h1.2 j hm
       simp at this
      .exact λhm=>hr.dj j hj (qmCM _ hm)
     .rcases cU.1 hj with rfl|hj
      .exact ⟨X,hX⟩
      .exact hr.lt j hj
     .simp only [Sv.get?] at hs
      cases hb:Nat.beq t t' with
      |true=>
       rw [hb,cond_true] at hs
       rw [Nat.beq_eq] at hb
       subst hb
       cases hs
       refine ⟨Nat.le_refl _,i,by simp,hi,.pointer (some (bF X.1)),?_⟩
       simp [Env.get?]
      |false=>
       rw [hb,cond_false] at hs
       obtain ⟨g1,j,g2,g3,v',g4⟩:=hr.sl t' i' k hs
       refine ⟨by omega,j,?_,g3,v',?_⟩
       .have:i' - n=(i' - (n+1))+1:=by omega
        rw [this,List.getElem?_cons_succ]
        exact g2
       .simp only [Env.get?,hb,cond_false]
        exact g4
     .have e:(X.1,X.2.1,T)=X:=by rw [<-h1.1]
      rw [List.filterMap_cons_some hX]
      simp only [e] at hk
      exact hk
    .exact h.elim
   .exact h.elim
theorem Yo.inv {s:TS} {w:World} (I:Inv s w) {js:List Nat} {E:Env} {S:Sv} (h:Yo s 0 [] js E S):Inv ⟨E,S,js.filterMap λj=>(s.L[j]? :Option (Nat×List Value×TypeId)),w,false⟩ w:=by
 refine ⟨I.lc.pick js h.nd,by simp,λt i k hs=>?_⟩
 obtain ⟨-,j,h2,h3,v,h4⟩:=h.sl t i k hs
 obtain ⟨X,hX,hp⟩:=I.sl t j k h3
 have:=h.sub t v h4
 rw [hp] at this
 cases this
 refine ⟨X,?_,h4⟩
 have all:∀(js:List Nat) (i:Nat),(∀j∈js,∃X,s.L[j]? =some X)->js[i]? =some j->(js.filterMap λj=>(s.L[j]? :Option (Nat×List Value×TypeId)))[i]? =some X:=by
  intro js
  induction js with
  |nil=>intro i _ hi;simp at hi
  |cons a js ih=>
   intro i hl hi
   obtain ⟨Y,hY⟩:=hl a (by simp)
   rw [List.filterMap_cons_some hY]
   cases i with
   |zero=>simp at hi;subst hi;rw [hX] at hY;cases hY;rfl
   |succ i=>simpa using ih i (λj hj=>hl j (qmCM _ hj)) (by simpa using hi)
 exact all js i h.lt (by simpa using h2)
def FD:(ts:List Tk)->(X:Type)->(X->X->Prop)->Ad ts X->Ad ts X->Prop
 |[],_,r,F,G=>r F G
 |.o h::ts,X,r,F,G=>∀x:h.T,FD ts X r (F x) (G x)
 |.a _::ts,X,r,F,G=>FD ts X r F G
 |.t _::ts,X,r,F,G=>FD ts X r F G
 |.g _ _ _::ts,X,r,F,G=>FD ts X r F G
def Xv:(l:List (Nat×Sp))->FB l->FB l->Prop
 |[],F,G=>∀(w:World) (R:aD),F w R->G w R
 |(_,.v ts)::l,F,G=>FD ts (FB l) (Xv l) F G
 |(_,.l ts _)::l,F,G=>∀b:Nat,FD ts (FB l) (Xv l) (F b) (G b)
theorem Ie:∀{ts:List Tk} {X:Type} {r:X->X->Prop} {K1 K2:List Value->X},(∀vs,r (K1 vs) (K2 vs))->FD ts X r (Pu ts X K1) (Pu ts X K2):=by
 intro ts
 induction ts with
 |nil=>intro X r K1 K2 h;exact h []
 |cons t ts ih=>
  intro X r K1 K2 h
  cases t with
  |o hh=>intro x;exact ih λvs=>h _
  |a k=>exact ih λvs=>h _
  |t k=>exact ih λvs=>h _
  |g n j k=>exact ih λvs=>h _
theorem TT:∀{l:List (Nat×Sp)} {n:Nat} {K1 K2:Env->Sv->Lv->World->aD->Prop},(∀E S L w R,K1 E S L w R->K2 E S L w R)->Xv l (cJ l n K1) (cJ l n K2):=by
 intro l
 induction l with
 |nil=>intro n K1 K2 h w R;exact h _ _ _ w R
 |cons p l ih=>
  intro n K1 K2 h
  obtain ⟨t,sp⟩:=p
  cases sp with
  |v ts=>exact Ie λvs=>ih λE S L w R=>h _ _ _ w R
  |l ts T=>intro b;exact Ie λvs=>ih λE S L w R=>h _ _ _ w R
structure Fx where
 P:Program
 fn:Func
 ord:List (Nat×Tr)
 lv:List Nat
def Fx.c (X:Fx):Code:=X.fn.body.getD .skip
def Fx.n (X:Fx):Cx:=cx X.fn.ntmps
def lkO:List (Nat×Tr)->Nat->Option Tr
 |[],_=>none
 |(i,l)::o,j=>bif Nat.beq i j then some l else lkO o j
def Fx.at (X:Fx) (q:List Bool) (R:aD) (a:Act) (w:World):Prop:=UI X.P X.n (oM X.P X.n X.c (bodyPost X.P X.fn R) q) a w
def Fx.Sem (X:Fx) (q:List Bool) (E:Env) (S:Sv) (L:Lv) (w:World) (R:aD):Prop:=∀a,Ag X.n a E->Inv ⟨E,S,L,w,false⟩ w->X.at q R a w
structure NT (X:Fx) where
 q:List Bool
 sp:List (Nat×Sp)
 F:FB sp
 ok:∀(R:aD) (s:TS) (w:World) (a:Act),Ag X.n a s.E->Inv s w->xw sp F s [] w R->X.at q R a w
def La:List Bool->List Bool->Bool
 |[],[]=>true
 |a::l,b::m=>(match a,b with |true,true=>true|false,false=>true|_,_=>false)&&La l m
 |_,_=>false
theorem Hu:∀{l m:List Bool},La l m=true->l=m
 |[],[],_=>rfl
 |a::l,b::m,h=>by
  unfold La at h
  rw [Bool.and_eq_true] at h
  rw [Hu h.2]
  cases a<;>cases b<;>simp_all
 |[],_::_,h=>by cases h
 |_::_,[],h=>by cases h
def XW {X:Fx} (R:aD):List (NT X)->List Bool->Option (TS->Prop)
 |[],_=>none
 |e::es,q=>bif La e.q q then some λs=>match s.d with
  |true=>False
  |false=>xw e.sp e.F s [] s.w R else XW R es q
def Fx.Sc (X:Fx) (es:List (NT X)) (R:aD):NV:=⟨lkO X.ord,XW R es,X.lv⟩
theorem Fx.Sd {X:Fx} {es:List (NT X)} {R:aD}:AG X.P X.n (X.Sc es R) X.c (bodyPost X.P X.fn R):=by
 intro q F hF s w a ha I h
 have DP:XW R es q=some F:=hF
 clear hF
 induction es with
 |nil=>cases DP
 |cons e es ih=>
  unfold XW at DP
  cases hb:La e.q q with
  |true=>
   rw [hb,cond_true] at DP
   cases DP
   have:=Hu hb
   subst this
   cases hd:s.d with
   |true=>rw [hd] at h;exact h.elim
   |false=>
    rw [hd] at h
    have hr:=I.rel
    rw [hd] at hr
    have hw:w=s.w:=by simpa using hr
    rw [<-hw] at h
    exact e.ok R s w a ha I h
  |false=>
   rw [hb,cond_false] at DP
   exact ih DP
def Fx.Yf (X:Fx) (es:List (NT X)) (q:List Bool) (E:Env) (S:Sv) (L:Lv) (w:World) (R:aD):Prop:=F9 X.P X.n (X.Sc es R) X.c (Nb X.P X.fn R) q ⟨E,S,L,w,false⟩
theorem Fx.HH {X:Fx} {es:List (NT X)} {q:List Bool} {E:Env} {S:Sv} {L:Lv} {w:World} {R:aD} (h:X.Yf es q E S L w R):X.Sem q E S L w R:=λa ha I=>B0 (s:=⟨E,S,L,w,false⟩) (Fx.Sd (es:=es)) zo ha I h
theorem LS {X:Fx} {q:List Bool} {sp:List (Nat×Sp)} {K:Env->Sv->Lv->World->aD->Prop} (hk:∀E S L w R,K E S L w R->X.Sem q E S L w R) (R:aD) (s:TS) (w:World) (a:Act) (ha:Ag X.n a s.E) (I:Inv s w) (h:xw sp (cJ sp 0 K) s [] w R):X.at q R a w:=by
 obtain ⟨E,S,js,hr,hK⟩:=M7 I h
 exact hk _ _ _ _ _ hK a ⟨ha.defers,ha.size,λt v hv=>ha.get t v (hr.sub t v hv)⟩ (hr.inv I)
def fZ (X:Fx) (q:List Bool) (sp:List (Nat×Sp)) (F:FB sp) (e:F=cJ sp 0 (X.Sem q):=by kernel_rfl):NT X:=⟨q,sp,F,λR s w a ha I h=>by
 subst e;exact LS (λ_ _ _ _ _ h=>h) R s w a ha I h⟩
def bK (X:Fx) (es:List (NT X)) (q:List Bool) (sp:List (Nat×Sp)) (F:FB sp) (e:F=cJ sp 0 (X.Yf es q):=by kernel_rfl):NT X:=⟨q,sp,F,λR s w a ha I h=>by
 subst e;exact LS (λ_ _ _ _ _ h=>Fx.HH h) R s w a ha I h⟩
theorem dD {X:Fx} (es:List (NT X)) (q:List Bool) (sp:List (Nat×Sp)):Xv sp (cJ sp 0 (X.Yf es q)) (cJ sp 0 (X.Sem q)):=TT λ_ _ _ _ _ h=>Fx.HH h
theorem aO (X:Fx) (es:List (NT X)) {f:FuncId} {args:List Value} {w:World} {R:aD} {T:Prop} (h:T) (hf:X.P.funcs[f]? =some X.fn:=by kernel_rfl) (hb:X.fn.body=some X.c:=by kernel_rfl) (l8:Nat.ble args.length X.fn.ntmps=true:=by kernel_rfl)
  (e:T=DG X.P X.n (X.Sc es R) X.c [] (Nb X.P X.fn R) ⟨rF 0 args,[],[],w,false⟩:=by kernel_rfl):Calls X.P f args.toArray w R:=
 BY hf hb l8 Fx.Sd (e▸h)
def WS:Bool->List Nat->List Bool
 |_,[]=>[]
 |b,n::l=>List.replicate n b++WS (!b) l
abbrev bH (l:List Nat):List Bool:=WS true l
abbrev Ps:=List (Nat×Sp)
abbrev ls (l:List Nat):Tr:=Tr.sq l .nil
end Go.W
