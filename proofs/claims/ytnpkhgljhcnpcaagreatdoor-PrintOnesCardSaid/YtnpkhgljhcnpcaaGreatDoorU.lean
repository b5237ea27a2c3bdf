import Derived.Test.YtnpkhgljhcnpcaaGreatDoorW
import Derived.KernelRfl
set_option linter.unusedVariables false
set_option linter.defProp false
namespace Go.W
open Go renaming World->aA,Program->aQ,Value->aD,TypeId->aP
open Go.Ending renaming returned->aJ
open List renaming mem_cons->dT,getElem?_eq_some_iff->nY,mem_map->pN,mem_cons_of_mem->mG
abbrev Lv:=List (Nat×List aD×aP)
abbrev Sv:=List (Nat×Option (Nat×Nat))
def Sv.get? :Sv->Nat->Option (Nat×Nat)
 |[],_=>none
 |(k,v)::S,t=>bif Nat.beq k t then v else Sv.get? S t
def Sv.at (S:Sv):Operand->Option (Nat×Nat)
 |.tmp t=>S.get? t
 |_=>none
def Sv.put (S:Sv) (d:Option Nat) (o:Option (Nat×Nat)):Sv:=match d with
 |some d=>(d,o)::S
 |none=>S
structure TS where
 E:Env
 S:Sv
 L:Lv
 w:aA
 d:Bool
abbrev HT:=List (Nat×Option Nat×(aA->Prop))
def Ax (s:TS) (K:TS->Prop):Prop:=match s.d with
 |true=>loc (rB s.L) s.w λw=>K ⟨s.E,s.S,s.L,w,false⟩
 |false=>K s
def shp:aD->aD->Bool
 |.int k _,.int k' _=>k==k'
 |.bool _,.bool _=>true
 |.string _,.string _=>true
 |.slice _ _ _,.slice _ _ _=>true
 |.pointer _,.pointer _=>true
 |.map _,.map _=>true
 |.int ..,_|.bool _,_|.string _,_|.slice ..,_|.pointer _,_|.map _,_=>false
 |_,_=>true
def Vp:List aD->List aD->Bool
 |[],[]=>true
 |z::zs,v::vs=>shp z v&&Vp zs vs
 |_,_=>false
def ldT (P:aQ) (T:aP) (cs:List aD) (j:Nat) (K:aD->Prop):Prop:=
 iW (Lr P T)<|match zeroOf P T with
 |.agg zs=>iW (Vp zs.toList ((cs.drop j).take zs.size)) (K (.agg ((cs.drop j).take zs.size).toArray))
 |.nilFunc=>False
 |z=>match cs[j]? with
  |some v=>iW (shp z v) (K v)
  |none=>False
def HH (P:aQ) (T:aP) (f:Nat):Option Nat:=match P.underlying T with
 |some (.struct fs)=>match fs[f]? with
  |some f=>match P.info? f.type with
   |some i=>bif Nat.beq i.size 0 then none else some f.offset
   |none=>none
  |none=>none
 |_=>none
def A9 (P:aQ) (o:Oper):Bool:=match o.op with
 |.load ..|.lookup ..=>true
 |.convert s d _=>match P.underlying s,P.underlying d with
  |some (.slice _),some .string=>true
  |some (.pointer _),some .unsafePointer=>true
  |some .unsafePointer,some (.pointer _)=>true
  |_,_=>false
 |.binOp .neq T _ y _=>bif isConst y then false else match P.underlying T with
  |some (.pointer _)=>true
  |_=>false
 |.call {callee:=.builtin .len,args,argTypes}=>match args.toList,argTypes.toList with
  |[_],[T]=>match P.underlying T with
   |some (.map _ _)=>true
   |_=>false
  |_,_=>false
 |_=>false
def NL (P:aQ) (o:Oper) (s:TS) (K:aD->Option (Nat×Nat)->List (Option Nat×(aA->Prop))->TS->Prop):Prop:=
 bif A9 P o then Ax s λs=>sD P o s.E s.w λv Ss=>K v none (Ss.map λS=>(none,S)) s else sD P o s.E s.w λv Ss=>K v none (Ss.map λS=>(none,S)) s
def P9 (P:aQ) (o:Oper) (s:TS) (K:aD->Option (Nat×Nat)->List (Option Nat×(aA->Prop))->TS->Prop):Prop:=
 match o.op with
 |.load T x=>match s.S.at x with
  |some (i,j)=>match s.L[i]? with
   |some X=>ldT P T X.2.1 j λv=>K v none [(some i,λw=>(loadVar T ((bO X.1).add j)).run P w=.ok v w)] s
   |none=>False
  |none=>NL P o s K
 |.move x|.assign x|.nilCheck x=>match s.S.at x with
  |some q=>K ((s.E.val x).getD undef) (some q) [] s
  |none=>NL P o s K
 |.fieldAddr T x f=>match s.S.at x with
  |some (i,j)=>match HH P T f,s.L[i]? with
   |some k,some X=>K (.pointer (some ((bO X.1).add (j+k)))) (some (i,j+k)) [] s
   |_,_=>False
  |none=>NL P o s K
 |_=>NL P o s K
def Ae (L:Lv) (w w':aA) (p:Prop):Prop:=match L with
 |[]=>p
 |L=>kept (rB L) w w'/\p
def A6:List aD->Nat->List aD->List aD
 |cs,_,[]=>cs
 |cs,j,v::vs=>A6 (cs.set j v) (j+1) vs
def Mf (lv:List Nat) (d:Option Nat):Bool:=match d with
 |some d=>lv.any (Nat.beq d)
 |none=>false
def Zy (bs:List Nat) (p:Addr):List aD->Nat->aA->(aA->Prop)->Prop
 |[],_,w,K=>K w
 |v::vs,i,w,K=>cY w (p.add i) v λw1=>kept bs w w1/\Zy bs p vs (i+1) w1 K
def Y1 (s:TS) (cs:List aD) (T:aP) (K:aD->Option (Nat×Nat)->Option Nat->TS->Prop):Prop:=
 cB (rB s.L) s.w λb w'=>K (.pointer (some (bO b))) (some (s.L.length,0)) none ⟨s.E,s.S,s.L++[(b,cs,T)],w',false⟩
def Hk (P:aQ) (f:FuncId) (args:Array aD) (z:aD) (s:TS) (K:aD->aA->Prop):Prop:=match s.L with
 |[]=>wZ P f args z s.w K
 |L=>fZ (rB L) P f args s.w λe w'=>yi z λv=>e=aJ v/\K v w'
def Yg (P:aQ) (lv:List Nat) (draw:Bool) (o:Oper) (s:TS) (K:aD->Option (Nat×Nat)->Option Nat->TS->Prop):Prop:=
 match o.op with
 |.store T x y=>match s.S.at x with
  |some (i,j)=>match s.L[i]?,s.E.val y with
   |some X,some v=>iW (v.cells.size==(match P.info? T with |some i=>i.size|none=>0)&&v.cells.toList.all vX&&(P.info? T).isSome&&Nat.ble (j+v.cells.size) X.2.1.length) (K undef none (some i) ⟨s.E,s.S,s.L.set i (X.1,A6 X.2.1 j v.cells.toList,X.2.2),s.w,true⟩)
   |_,_=>False
  |none=>Ax s λs=>match s.L with
   |[]=>nO P o s.E s.w λv w'=>K v none none ⟨s.E,s.S,s.L,w',false⟩
   |L=>match s.E.val x,s.E.val y with
    |some (.pointer (some p)),some v=>iW (v.cells.size==(match P.info? T with |some i=>i.size|none=>0)&&v.cells.toList.all vX&&(P.info? T).isSome) (Zy (rB L) p v.cells.toList 0 s.w λw'=>K undef none none ⟨s.E,s.S,s.L,w',false⟩)
    |_,_=>False
 |.alloc T=>bif Mf lv o.dst then iW ((P.info? T).bind (·.zero)).isSome (Y1 s (zeroOf P T).cells.toList T K) else Ax s λs=>nO P o s.E s.w λv w'=>K v none none ⟨s.E,s.S,s.L,w',false⟩
 |.box T x=>bif Mf lv o.dst then (match s.E.val x with
   |some v=>Y1 s v.cells.toList T K
   |none=>False) else Ax s λs=>nO P o s.E s.w λv w'=>K v none none ⟨s.E,s.S,s.L,w',false⟩
 |.buildSlice ..|.makeMap ..=>Ax s λs=>nO P o s.E s.w λv w'=>K v none none ⟨s.E,s.S,s.L,w',false⟩
 |.call {callee:=.value (.func f),args,..}=>Ax s λs=>iW (s.E.fT o) (bif gq P f then Hk P f (args.map s.E.ev) (zeroOf P o.type) s λv w'=>K v none none ⟨s.E,s.S,s.L,w',false⟩
   else LU P f (args.map s.E.ev) (zeroOf P o.type) s.w λv w'=>Ae s.L s.w w' (K v none none ⟨s.E,s.S,s.L,w',false⟩))
 |.call {callee:=.value (.tmp t),args,..}=>Ax s λs=>iW (s.E.fT o) (match s.E.get? t with
   |some (.func (.func f) first captured)=>iW (gq P f) (Hk P f (first++args.map s.E.ev++captured) (zeroOf P o.type) s λv w'=>K v none none ⟨s.E,s.S,s.L,w',false⟩)
   |_=>False)
 |_=>Ax s λs=>(bif draw then nO else zh) P o s.E s.w λv w'=>Ae s.L s.w w' (K v none none ⟨s.E,s.S,s.L,w',false⟩)
def HR (ops:Array Oper) (j:Nat) (w:aA):HT->List Prop
 |[]=>[]
 |(i,f,S)::H=>bif uH ops i j||f.isSome then HR ops j w H else S w::HR ops j w H
def mi (ops:Array Oper) (j:Nat):HT->HT
 |[]=>[]
 |(i,f,S)::H=>bif uH ops i j then mi ops j H else (i,f,S)::mi ops j H
def KZ (ops:Array Oper) (j:Nat) (s:TS) (H:HT) (K:TS->Prop):Prop:=
 bif H.any (λp=>!(uH ops p.1 j)&&p.2.1.isNone) then Ax s λs=>Nj (HR ops j s.w H) (K s) else K s
def stepT (P:aQ) (lv:List Nat) (ops:Array Oper) (draw:Bool) (i:Nat) (o:Oper) (s:TS) (H:HT) (K:TS->HT->Prop):Prop:=
 bif calm P o then P9 P o s λv q Ss s=>K ⟨s.E.put o.dst v,s.S.put o.dst q,s.L,s.w,s.d⟩ (bif draw then Ss.map (λS=>(i,S))++H else H)
 else Yg P lv draw o s λv q m s=>iW (!((mi ops i H).any λp=>m.isSome&&p.2.1==m)) (KZ ops i s H λs=>K ⟨s.E.put o.dst v,s.S.put o.dst q,s.L,s.w,s.d⟩ (mi ops i H))
def sG (P:aQ) (lv:List Nat) (ops:Array Oper) (draw:Bool) (i:Nat) (o:Oper) (d:Nat) (want t:Bool) (s:TS) (H:HT) (K:TS->HT->Prop):Prop:=
 bif (t==want) then stepT P lv ops draw i o ⟨(d,.bool t)::s.E,s.S,s.L,s.w,s.d⟩ H K else K ⟨Env.put ((d,.bool t)::s.E) o.dst undef,s.S.put o.dst none,s.L,s.w,s.d⟩ (bif calm P o then H else mi ops i H)
def runT (P:aQ) (lv:List Nat) (ops:Array Oper) (draw:Bool) (K:TS->Prop):List Nat->TS->HT->Prop
 |[],s,_=>K s
 |i::l,s,H=>
  match ops[i]? with
  |none=>False
  |some o=>match o.guard with
   |none=>stepT P lv ops draw i o s H λs' H'=>runT P lv ops draw K l s' H'
   |some (j,want)=>match rE ops j with
    |none=>False
    |some d=>match s.E.get? d with
     |some (.bool t)=>aW t (sG P lv ops draw i o d want true s H λs' H'=>runT P lv ops draw K l s' H') (sG P lv ops draw i o d want false s H λs' H'=>runT P lv ops draw K l s' H')
     |some (.tuple _)=>runT P lv ops draw K l ⟨Env.put s.E o.dst undef,s.S.put o.dst none,s.L,s.w,s.d⟩ (bif calm P o then H else mi ops i H)
     |_=>False
def HQ (P:aQ) (lv:List Nat) (ops:Array Oper) (i:Nat) (s:TS) (H:HT) (Kn:TS->HT->Prop):Prop:=
 match ops[i]? with
 |none=>False
 |some o=>match o.guard with
  |none=>stepT P lv ops true i o s H Kn
  |some (j,want)=>match rE ops j with
   |none=>False
   |some d=>match s.E.get? d with
    |some (.bool t)=>aW t (sG P lv ops true i o d want true s H Kn) (sG P lv ops true i o d want false s H Kn)
    |some (.tuple _)=>Kn ⟨Env.put s.E o.dst undef,s.S.put o.dst none,s.L,s.w,s.d⟩ (bif calm P o then H else mi ops i H)
    |_=>False
def Xw (P:aQ) (lv:List Nat) (ops:Array Oper) (K:TS->Prop):Tr->TS->HT->Prop
 |.nil,s,_=>K s
 |.one i t,s,H=>HQ P lv ops i s H λs' H'=>Xw P lv ops K t s' H'
 |.fork a b,s,H=>Xw P lv ops K a s H/\Xw P lv ops K b s H
def Tr.sq:List Nat->Tr->Tr
 |[],t=>t
 |i::l,t=>.one i (Tr.sq l t)
def drT (s:TS) (K:TS->Prop):Prop:=match s.L,s.d with
 |[],false=>K ⟨s.E,s.S,s.L,s.w.drew,false⟩
 |_,_=>K ⟨s.E,s.S,s.L,s.w,true⟩
section
variable {P:aQ}
structure Inv (s:TS) (w:aA):Prop where
 lc:LC w s.L
 rel:if s.d=true then Fr (·∈rB s.L) s.w w else w=s.w
 sl:∀t i j,s.S.get? t=some (i,j)->∃X,s.L[i]? =some X/\s.E.get? t=some (.pointer (some ((bO X.1).add j)))
def Inv.Ax {s:TS} {w:aA} {K:TS->Prop} (I:Inv s w) (h:W.Ax s K):Inv ⟨s.E,s.S,s.L,w,false⟩ w/\K ⟨s.E,s.S,s.L,w,false⟩:=by
 refine ⟨⟨I.lc,by simp,I.sl⟩,?_⟩
 unfold W.Ax at h
 have hr:=I.rel
 cases hd:s.d with
 |true=>
  rw [hd] at h hr
  exact h w (by simpa using hr)
 |false=>
  rw [hd] at h hr
  have:w=s.w:=by simpa using hr
  obtain ⟨E,S,L,w0,d⟩:=s
  simp only at hd this
  subst hd this
  exact h
def Inv.fr {s:TS} {w:aA} (I:Inv s w):Fr (·∈rB s.L) s.w w:=by
 have hr:=I.rel
 cases hd:s.d with
 |true=>rw [hd] at hr;simpa using hr
 |false=>
  rw [hd] at hr
  have:w=s.w:=by simpa using hr
  subst this
  exact Fr.refl _ _
def Inv.at {s:TS} {w:aA} (I:Inv s w) {x:Operand} {i j:Nat} (h:s.S.at x=some (i,j)):∃X,s.L[i]? =some X/\s.E.val x=some (.pointer (some ((bO X.1).add j)))/\w.heap[X.1]? =some (.cells X.2.1.toArray X.2.2 (0,0)):=by
 cases x with
 |tmp t=>
  obtain ⟨X,h1,h2⟩:=I.sl t i j h
  exact ⟨X,h1,h2,I.lc.own i X h1⟩
 |_=>cases h
def Ja:∀{zs vs:List aD},Vp zs vs=true->vs.length=zs.length
 |[],[],_=>rfl
 |z::zs,v::vs,h=>by
  unfold Vp at h
  rw [Bool.and_eq_true] at h
  simp [Ja h.2]
def Ex {T:aP} {cs:List aD} {j b:Nat} {ty:aP} {K:aD->Prop} (h:ldT P T cs j K):
  ∃v,K v/\∀w:aA,w.heap[b]? =some (.cells cs.toArray ty (0,0))->(loadVar T ((bO b).add j)).run P w=.ok v w:=by
 obtain ⟨ho,h⟩:=cU h
 unfold Lr at ho
 have one:∀(v:aD),cs[j]? =some v->(J0 P T==some false)=true->∀w:aA,w.heap[b]? =some (.cells cs.toArray ty (0,0))->(loadVar T ((bO b).add j)).run P w=.ok v w:=λv hv ha w hw=>
  qK (by simpa using ha) (cellAt (p:=bO b) hw rfl (by simpa using hv))
 cases hz:zeroOf P T with
 |agg zs=>
  rw [hz] at h ho
  simp only at h ho
  obtain ⟨hs,hk⟩:=cU h
  rw [Bool.and_eq_true] at ho
  obtain ⟨ha,hi⟩:=ho
  cases vk:P.info? T with
  |none=>rw [vk] at hi;simp at hi
  |some i=>
   rw [vk] at hi
   simp at hi ha
   refine ⟨_,hk,λw hw=>uw ha vk (by rw [hi,Ja hs];simp) λk v hkv=>?_⟩
   rw [add_add]
   refine cellAt (p:=bO b) hw rfl ?_
   rw [List.getElem?_take] at hkv
   split at hkv
   .simpa using hkv
   .cases hkv
 |nilFunc=>rw [hz] at h;exact h.elim
 |_=>
  rw [hz] at h ho
  simp only at h
  split at h
  .rename_i v hv
   exact ⟨v,(cU h).2,one v hv ho⟩
  .exact h.elim
def Hn {o:Oper} {E:Env} {w w':aA} {K:aD->List (aA->Prop)->Prop} (h:A9 P o=false) (hc:sD P o E w K):sD P o E w' K:=by
 unfold sD at hc ⊢
 unfold A9 at h
 split at hc<;>first |exact hc|skip
 all_goals rename_i fB
 all_goals rw [fB] at h
 .cases h
 .rename_i y _ tz
  cases y with
  |const c=>exact (tz c rfl).elim
  |_=>
   simp only [isConst,cond_false] at h
   split
   .rename_i hu _ _
    simp only [hu] at h
    cases h
   .split at hc
    .rename_i hu _ _
     simp only [hu] at h
     cases h
    .exact hc
 .cases h
 .split<;>first
   |(rename_i hs hd _;simp only [hs,hd] at h;cases h;done)
   |(split at hc<;>first
     |(rename_i hs hd _;simp only [hs,hd] at h;cases h;done)
     |exact hc)
 .split
  .rename_i ha ht
   simp only [ha,ht] at h hc
   split
   .rename_i hu _
    simp only [hu] at h
    cases h
   .split at hc
    .rename_i hu _
     simp only [hu] at h
     cases h
    .exact hc
  .rename_i tz
   split at hc
   .rename_i ha ht
    exact (tz _ _ ha ht).elim
   .exact hc
def Ll (P:aQ) (o:Oper) (a:Act) (s:TS) (w:aA) (v:aD) (q:Option (Nat×Nat)) (Ss:List (Option Nat×(aA->Prop))) (s':TS):Prop:=
 Inv s' w/\s'.E=s.E/\s'.S=s.S/\s'.L=s.L/\Calm P o a.eval w v (Ss.map (·.2))/\
 (∀p∈Ss,∀i,p.1=some i->∃X,s.L[i]? =some X/\∀w':aA,w'.heap[X.1]? =some (.cells X.2.1.toArray X.2.2 (0,0))->p.2 w')/\
 (∀i j,q=some (i,j)->∃X,s.L[i]? =some X/\v=.pointer (some ((bO X.1).add j)))
section
variable {o:Oper} {n:Cx} {a:Act} {s:TS} {w:aA} {K:aD->Option (Nat×Nat)->List (Option Nat×(aA->Prop))->TS->Prop}
def Ko (hs:∀cs b,o.op≠.select cs b) (ha:Ag n a s.E) (I:Inv s w) (h:NL P o s K):∃v q Ss s',K v q Ss s'/\Ll P o a s w v q Ss s':=by
 have fin:∀(s':TS),s'.E=s.E->s'.S=s.S->s'.L=s.L->Inv s' w->sD P o s.E w (λv Ss=>K v none (Ss.map λS=>(none,S)) s')->∃v q Ss s',K v q Ss s'/\Ll P o a s w v q Ss s':=λs' e1 e2 e3 I' hc=>by
  obtain ⟨v,Ss,hv,wD⟩:=qV hs ha hc
  refine ⟨v,none,_,s',hv,I',e1,e2,e3,?_,λp hp i hi=>?_,λi j hq=>by cases hq⟩
  .rw [List.map_map]
   have:((λx:Option Nat×(aA->Prop)=>x.2)∘λS=>((none:Option Nat),S))=id:=rfl
   rw [this,List.map_id]
   exact wD
  .obtain ⟨S,_,rfl⟩:=pN.1 hp
   cases hi
 unfold NL at h
 cases hw:A9 P o with
 |true=>
  rw [hw,cond_true] at h
  obtain ⟨I',h'⟩:=I.Ax h
  exact fin ⟨s.E,s.S,s.L,w,false⟩ rfl rfl rfl I' h'
 |false=>
  rw [hw,cond_false] at h
  exact fin s rfl rfl rfl I (Hn hw h)
def Hm (hs:∀cs b,o.op≠.select cs b) (ha:Ag n a s.E) (I:Inv s w) (h:P9 P o s K):∃v q Ss s',K v q Ss s'/\Ll P o a s w v q Ss s':=by
 have gen:=λh=>Ko (P:=P) (K:=K) hs ha I h
 have same:∀(x:Operand) (q:Nat×Nat),s.S.at x=some q->(∀w,(execOp a.eval o).run P w=.ok (.value (a.eval x)) w\/∀p,a.eval x≠.pointer (some p))->K ((s.E.val x).getD undef) (some q) [] s->∃v q Ss s',K v q Ss s'/\Ll P o a s w v q Ss s':=λx q hx hr hk=>by
  obtain ⟨X,h1,h2,_⟩:=I.at (i:=q.1) (j:=q.2) hx
  have he:=ha.val h2
  refine ⟨_,_,_,s,hk,I,rfl,rfl,rfl,⟨λS hS=>(by cases hS),λw' _=>?_⟩,λp hp=>(by cases hp),λi j hq=>?_⟩
  .rcases hr w' with hr|hr
   .rw [hr,h2,he];rfl
   .exact (hr _ he).elim
  .cases hq
   exact ⟨X,h1,by rw [h2];rfl⟩
 unfold P9 at h
 split at h
 .rename_i T x fB
  split at h
  .rename_i i j hx
   obtain ⟨X,h1,h2,h3⟩:=I.at hx
   rw [h1] at h
   obtain ⟨v,hk,hv⟩:=Ex (b:=X.1) (ty:=X.2.2) h
   refine ⟨v,_,_,s,hk,I,rfl,rfl,rfl,⟨λS hS=>?_,λw' GK=>?_⟩,λp hp i' y6=>?_,λi j hq=>by cases hq⟩
   .simp only [List.map_cons,List.map_nil,dT,List.not_mem_nil,or_false] at hS
    subst hS
    exact hv w h3
   .have:(loadVar T ((bO X.1).add j)).run P w'=.ok v w':=GK (λw=>(loadVar T ((bO X.1).add j)).run P w=.ok v w) (by simp)
    simp [execOp,fB,Instr.loadAt,ha.val h2,Instr.sureAddr,this]
   .simp only [dT,List.not_mem_nil,or_false] at hp
    subst hp
    cases y6
    exact ⟨X,h1,hv⟩
  .exact gen h
 .rename_i x fB
  split at h
  .rename_i q hx
   exact same x q hx (λw=>.inl (by simp [execOp,fB])) h
  .exact gen h
 .rename_i x fB
  split at h
  .rename_i q hx
   exact same x q hx (λw=>.inl (by simp [execOp,fB])) h
  .exact gen h
 .rename_i x fB
  split at h
  .rename_i q hx
   refine same x q hx (λw=>?_) h
   obtain ⟨X,_,h2,_⟩:=I.at (i:=q.1) (j:=q.2) hx
   exact .inl (by simp [execOp,fB,ha.val h2])
  .exact gen h
 .rename_i T x f fB
  split at h
  .rename_i i j hx
   obtain ⟨X,h1,h2,h3⟩:=I.at hx
   split at h
   .rename_i k X' hk Wj
    rw [h1] at Wj
    cases Wj
    refine ⟨_,_,_,s,h,I,rfl,rfl,rfl,⟨λS hS=>(by cases hS),λw' _=>?_⟩,λp hp=>(by cases hp),λi' j' hq=>?_⟩
    .unfold HH at hk
     split at hk
     .rename_i fs hu
      split at hk
      .rename_i fd hf
       split at hk
       .rename_i inf vk
        cases hz:Nat.beq inf.size 0 with
        |true=>rw [hz] at hk;cases hk
        |false=>
         rw [hz] at hk
         cases hk
         have jx:inf.size≠0:=λe=>by rw [e] at hz;cases hz
         simp [execOp,fB,ha.val h2,Instr.fieldAt,run_underlying hu,hf,Instr.sureAddr,fieldPlace,sizeOf,typeInfo,vk,jx,add_add]
       .cases hk
      .cases hk
     .cases hk
    .cases hq
     exact ⟨X,h1,rfl⟩
   .exact h.elim
  .exact gen h
 .exact gen h
end
def Nc (s:TS) (K:aD->Option (Nat×Nat)->Option Nat->TS->Prop) (v:aD) (w':aA):Prop:=
 ∃q m s',K v q m s'/\Inv s' w'/\s'.E=s.E/\s'.S=s.S/\(∀i X,s.L[i]? =some X->m≠some i->s'.L[i]? =some X)/\
  (∀i j,q=some (i,j)->∃X,s'.L[i]? =some X/\v=.pointer (some ((bO X.1).add j)))
def Au {o:Oper} {ρ:Operand->aD} {T:aP} {z:aD} (fB:o.op=.alloc T) (hz:(P.info? T).bind (·.zero)=some z) (w:aA):
  (execOp ρ o).run P w=.ok (.value (.pointer (some (bO w.heap.size)))) (w.alloc (.cells z.cells T)):=by
 cases hi:P.info? T with
 |none=>rw [hi] at hz;cases hz
 |some i=>
  rw [hi] at hz
  have Uu:i.zero=some z:=hz
  simp [execOp,fB,Instr.alloc,zeroValue,typeInfo,hi,Uu,newVar,newRow]
def EJ {o:Oper} {ρ:Operand->aD} {T:aP} {x:Operand} (fB:o.op=.box T x) (w:aA):
  (execOp ρ o).run P w=.ok (.value (.pointer (some (bO w.heap.size)))) (w.alloc (.cells (ρ x).cells T)):=by
 simp [execOp,fB,Instr.box,newVar,newRow]
def KF {L:Lv} {w w':aA} {p:Prop} (h:Ae L w w' p) (H:LC w L):LC w' L/\p:=by
 cases L with
 |nil=>exact ⟨LC.nil _,h⟩
 |cons x L=>exact ⟨H.Ae h.1,h.2⟩
section
variable {o:Oper} {n:Cx} {a:Act} {s:TS} {w:aA} {K:aD->Option (Nat×Nat)->Option Nat->TS->Prop}
def Bv {f:FuncId} {args:Array aD} {K:aD->aA->Prop} (mE:(execOp a.eval o).run P w=.ok (.enter f args) w) (h:Calls P f args w λe w'=>∃v,e=aJ v/\K v w'):uN P o a w K:=by
 intro Q
 unfold Oper.wp
 rw [mE]
 simp only [Oper.upon]
 refine Calls.mono h λe w' he=>?_
 obtain ⟨v,rfl,hk⟩:=he
 exact ⟨v,rfl,hk⟩
def Bw {f:FuncId} {args:Array aD} {z:aD} {K:aD->aA->Prop} (mE:(execOp a.eval o).run P w=.ok (.enter f args) w) (H:LC w s.L) (hw:s.w=w) (h:Hk P f args z s K):uN P o a w λv w'=>LC w' s.L/\K v w':=by
 unfold Hk at h
 split at h
 .rename_i hL
  rw [hw] at h
  refine Bv mE (Calls.mono h λe w' he=>?_)
  obtain ⟨v,rfl,hk⟩:=oE he
  exact ⟨v,rfl,by rw [hL];exact LC.nil _,hk⟩
 .rw [hw] at h
  obtain ⟨M,hm,hc⟩:=h
  refine Bv mE (Calls.mono hc λe w' he=>?_)
  obtain ⟨f',hx⟩:=he
  obtain ⟨v,rfl,hk⟩:=oE hx
  exact ⟨v,rfl,H.fr f' hm,hk⟩
def Iz {cs:Array aD} {T:aP} (mE:(execOp a.eval o).run P w=.ok (.value (.pointer (some (bO w.heap.size)))) (w.alloc (.cells cs T))) (I:Inv s w) (h:Y1 s cs.toList T K):uN P o a w (Nc s K):=by
 intro Q
 unfold Oper.wp
 rw [mE]
 simp only [Oper.upon]
 refine ⟨_,rfl,_,_,_,h w.heap.size (w.alloc (.cells cs T)) I.fr.size (size_alloc _ _) (I.fr.Az (Fr.alloc _ _ _)),⟨I.lc.push cs T,by simp,λt i j hq=>?_⟩,rfl,rfl,λi X hX _=>?_,λi j hq=>?_⟩
 .obtain ⟨X,h1,h2⟩:=I.sl t i j hq
  exact ⟨X,by rw [List.getElem?_append_left (nY.1 h1).1];exact h1,h2⟩
 .rw [List.getElem?_append_left (nY.1 hX).1];exact hX
 .cases hq
  exact ⟨(w.heap.size,cs.toList,T),by simp,by rw [xS]⟩
def W3 {i j b:Nat} {T:aP} {wT:aA} {K:aA->Prop}:∀(vs:List aD) (k:Nat) (w:aA) (L:Lv) (cs:List aD),LC w L->L[i]? =some (b,cs,T)->j+k+vs.length<=cs.length->Fr (·∈rB L) wT w->
  (∀w',LC w' (L.set i (b,A6 cs (j+k) vs,T))->Fr (·∈rB L) wT w'->K w')->Ld ((bO b).add j) vs k w K
 |[],k,w,L,cs,H,hi,hl,f,hk=>by
  refine hk w ?_ f
  have:L.set i (b,cs,T)=L:=by
   apply List.ext_getElem?
   intro m
   rw [List.getElem?_set]
   split
   .rename_i e
    subst e
    split
    .exact hi.symm
    .rename_i h;exact absurd (nY.1 hi).1 h
   .rfl
  rw [show A6 cs (j+k) []=cs from rfl,this]
  exact H
 |v::vs,k,w,L,cs,H,hi,hl,f,hk=>by
  simp only [List.length_cons] at hl
  obtain ⟨x1,x2,x3,x4⟩:=H.set (v:=v) i (j+k) hi (by omega) f
  unfold Ld
  rw [add_add]
  refine ⟨x1,x2,W3 (i:=i) (T:=T) vs (k+1) _ _ (cs.set (j+k) v) x3 ?_ (by rw [List.length_set];omega) x4 λw' h1 h2=>?_⟩
  .rw [List.getElem?_set_self (nY.1 hi).1]
  .rw [List.set_set] at h1
   rw [J5 L i hi] at h2
   exact hk w' h1 h2
def CH {L:Lv} {p:Addr} {K K':aA->Prop} (hk:∀w',LC w' L->K w'->K' w'):∀(vs:List aD) (i:Nat) (w:aA),LC w L->Zy (rB L) p vs i w K->Ld p vs i w K'
 |[],_,w,H,h=>hk w H h
 |v::vs,i,w,H,h=>by
  obtain ⟨h1,h2,h3,h4⟩:=h
  exact ⟨h1,h2,CH hk vs (i+1) _ (H.Ae h3) h4⟩
def JO {b:Bool} {p:Prop} (h1:b=true) (h2:p):iW b p:=by subst h1;exact h2
def z7 {E:Env} {T:aP} {x y:Operand} {p:Addr} {v:aD} {K:aD->aA->Prop} (fB:o.op=.store T x y) (hx:E.val x=some (.pointer (some p))) (hy:E.val y=some v)
  (hc:(v.cells.size==(match P.info? T with |some i=>i.size|none=>0)&&v.cells.toList.all vX&&(P.info? T).isSome)=true) (h:Ld p v.cells.toList 0 w λw'=>K undef w'):nO P o E w K:=by
 unfold nO
 rw [fB]
 simp only [hx,hy]
 exact JO hc h
def EK {ρ:Operand->aD} {nx:Next} {w':aA} (fB:(∃T,o.op=.alloc T)\/(∃T x,o.op=.box T x)\/(∃T l p,o.op=.buildSlice T l p)\/(∃T r,o.op=.makeMap T r)) (h:(execOp ρ o).run P w=.ok nx w'):bW w w':=by
 rcases fB with ⟨T,fB⟩|⟨T,x,fB⟩|⟨T,l,p,fB⟩|⟨T,r,fB⟩
 .cases hz:(P.info? T).bind (·.zero) with
  |some z=>
   rw [Au fB hz] at h
   cases h
   exact Fr.alloc _ _ _
  |none=>
   exfalso
   cases hi:P.info? T with
   |none=>simp [execOp,fB,Instr.alloc,zeroValue,typeInfo,hi] at h
   |some i=>
    rw [hi] at hz
    have Uu:i.zero=none:=hz
    simp [execOp,fB,Instr.alloc,zeroValue,typeInfo,hi,Uu] at h
 .rw [EJ fB] at h
  cases h
  exact Fr.alloc _ _ _
 .cases hu:P.underlying T with
  |none=>simp [execOp,fB,Instr.buildSlice,underlying,hu] at h
  |some u=>
   cases u<;>first |(simp [execOp,fB,Instr.buildSlice,run_underlying hu] at h;done)|skip
   rename_i e
   cases hi:P.info? e with
   |none=>simp [execOp,fB,Instr.buildSlice,run_underlying hu,sizeOf,typeInfo,hi] at h
   |some i=>
    by_cases FC:l *i.size>2^24
    .simp [execOp,fB,Instr.buildSlice,run_underlying hu,sizeOf,typeInfo,hi,FC] at h
    by_cases h0:l *i.size=0
    .simp [execOp,fB,Instr.buildSlice,run_underlying hu,sizeOf,typeInfo,hi,h0] at h
     split at h
     .simp [newRow] at h
      obtain ⟨_,rfl⟩:=h
      exact Fr.alloc _ _ _
     .simp at h
    .simp [execOp,fB,Instr.buildSlice,run_underlying hu,sizeOf,typeInfo,hi,FC,h0] at h
     cases hz:i.zero with
     |none=>simp [zeroValue,typeInfo,hi,hz] at h
     |some z=>
      simp [zeroValue,typeInfo,hi,hz] at h
      split at h
      .simp [newRow] at h
       obtain ⟨_,rfl⟩:=h
       exact Fr.alloc _ _ _
      .simp at h
 .cases r with
  |none=>
   simp [execOp,fB,Instr.makeMap] at h
   obtain ⟨_,rfl⟩:=h
   exact Fr.alloc _ _ _
  |some r=>
   cases hu:P.underlying T with
   |none=>simp [execOp,fB,Instr.makeMap,underlying,hu] at h
   |some u=>
    cases u<;>first |(simp [execOp,fB,Instr.makeMap,run_underlying hu] at h;done)|skip
    cases hr:ρ r with
    |int k z=>
     simp [execOp,fB,Instr.makeMap,run_underlying hu,hr,Go.asInt,Go.asIntOf] at h
     obtain ⟨_,rfl⟩:=h
     exact Fr.alloc _ _ _
    |pointer q=>cases q<;>simp [execOp,fB,Instr.makeMap,run_underlying hu,hr,Go.asInt,Go.asIntOf] at h
    |_=>simp [execOp,fB,Instr.makeMap,run_underlying hu,hr,Go.asInt,Go.asIntOf] at h
def Rr {K:aD->aA->Prop} (hs:∀cs b,o.op≠.select cs b) (ha:Ag n a s.E) (fB:(∃T,o.op=.alloc T)\/(∃T x,o.op=.box T x)\/(∃T l p,o.op=.buildSlice T l p)\/(∃T r,o.op=.makeMap T r)) (h:nO P o s.E w K):uN P o a w λv w'=>bW w w'/\K v w':=by
 have h':vc P o s.E w K:=by
  unfold nO at h
  rcases fB with ⟨T,fB⟩|⟨T,x,fB⟩|⟨T,l,p,fB⟩|⟨T,r,fB⟩<;>rw [fB] at h<;>exact h
 obtain ⟨hc,h'⟩:=cU h'
 intro Q
 unfold Oper.wp
 rw [ha.execOp hs hc]
 generalize hr:(execOp s.E.ev o).run P w=r at h'
 split at h'
 .simp only [Oper.upon];exact ⟨_,rfl,EK fB hr,h'⟩
 .simp only [Oper.upon];exact ⟨_,rfl,EK fB hr,h'⟩
 .exact h'.elim
def Kf {draw:Bool} {lv:List Nat} (A:(aD->aA->Prop)->Prop) (h0:∀K,uN P o a w K->A K) (h1:∀K,(bif draw then nO else zh) P o s.E w K->A K) (hm:∀K K',(∀v w',K v w'->K' v w')->A K->A K')
  (hs:∀cs b,o.op≠.select cs b) (ha:Ag n a s.E) (I:Inv s w) (h:Yg P lv draw o s K):A (Nc s K):=by
 have back:∀v w',LC w' s.L->K v none none ⟨s.E,s.S,s.L,w',false⟩->Nc s K v w':=λv w' H hk=>⟨none,none,_,hk,⟨H,by simp,I.sl⟩,rfl,rfl,λi X h _=>h,λi j hq=>by cases hq⟩
 have V':∀v w',Ae s.L w w' (K v none none ⟨s.E,s.S,s.L,w',false⟩)->Nc s K v w':=λv w' hk=>by
  obtain ⟨H,hk⟩:=KF hk I.lc
  exact back v w' H hk
 have news:((∃T,o.op=.alloc T)\/(∃T x,o.op=.box T x)\/(∃T l p,o.op=.buildSlice T l p)\/(∃T r,o.op=.makeMap T r))->Ax s (λs=>nO P o s.E s.w λv w'=>K v none none ⟨s.E,s.S,s.L,w',false⟩)->A (Nc s K):=λfB h=>by
  obtain ⟨_,h'⟩:=I.Ax h
  exact hm _ _ (λv w' ⟨f,hk⟩=>back v w' (I.lc.fr (M:=λ_=>False) f (λ_ _ h=>h)) hk) (h0 _ (Rr hs ha fB h'))
 unfold Yg at h
 split at h
 .rename_i T x y fB
  split at h
  .rename_i i j hx
   obtain ⟨X,g1,g2,_⟩:=I.at hx
   split at h
   .rename_i X' v Wj hv
    rw [g1] at Wj
    cases Wj
    obtain ⟨hc,hk⟩:=cU h
    rw [Bool.and_eq_true] at hc
    obtain ⟨hc,hb⟩:=hc
    have hb:=Nat.le_of_ble_eq_true hb
    refine h0 _ (jg hs ha (z7 fB g2 hv hc ?_))
    refine W3 (i:=i) (T:=X.2.2) _ 0 w s.L X.2.1 I.lc g1 (by simpa using hb) I.fr λw' q1 q2=>?_
    refine ⟨none,some i,_,hk,⟨q1,?_,λt i' j' ht=>?_⟩,rfl,rfl,λi' Y hY jx=>?_,λi j hq=>by cases hq⟩
    .simp only [if_true]
     rw [J5 s.L i g1]
     exact q2
    .obtain ⟨Y,y1,y2⟩:=I.sl t i' j' ht
     by_cases e:i=i'
     .subst e
      rw [g1] at y1
      cases y1
      exact ⟨_,List.getElem?_set_self (nY.1 g1).1,y2⟩
     .exact ⟨Y,by rw [List.getElem?_set_ne e];exact y1,y2⟩
    .have e:i≠i':=λe=>jx (by rw [e])
     show (s.L.set i _)[i']? =_
     rw [List.getElem?_set_ne e];exact hY
   .exact h.elim
  .obtain ⟨_,h'⟩:=I.Ax h
   simp only at h'
   split at h'
   .rename_i hL
    exact hm _ _ (λv w' hk=>back v w' (hL▸LC.nil _) hk) (h0 _ (jg hs ha h'))
   .split at h'
    .rename_i p v hx hy
     obtain ⟨hc,hk⟩:=cU h'
     exact hm _ _ (λv w' hk=>hk) (h0 _ (jg hs ha (z7 fB hx hy hc (CH (K':=Nc s K undef) (λw' H hk=>back _ w' H hk) _ _ _ I.lc hk))))
    .exact h'.elim
 .rename_i T fB
  cases hl:Mf lv o.dst with
  |true=>
   rw [hl,cond_true] at h
   obtain ⟨hz,h⟩:=cU h
   obtain ⟨z,hz⟩:=Option.isSome_iff_exists.1 hz
   have:zeroOf P T=z:=by unfold zeroOf;rw [hz];rfl
   rw [this] at h
   exact h0 _ (Iz (Au fB hz w) I h)
  |false=>
   rw [hl,cond_false] at h
   exact news (.inl ⟨T,fB⟩) h
 .rename_i T x fB
  cases hl:Mf lv o.dst with
  |true=>
   rw [hl,cond_true] at h
   split at h
   .rename_i v hv
    have:=EJ (P:=P) (ρ:=a.eval) fB w
    rw [ha.val hv] at this
    exact h0 _ (Iz this I h)
   .exact h.elim
  |false=>
   rw [hl,cond_false] at h
   exact news (.inr (.inl ⟨T,x,fB⟩)) h
 .rename_i T l p fB
  exact news (.inr (.inr (.inl ⟨T,l,p,fB⟩))) h
 .rename_i T r fB
  exact news (.inr (.inr (.inr ⟨T,r,fB⟩))) h
 .rename_i f args Xy fB
  obtain ⟨I',h⟩:=I.Ax h
  obtain ⟨hc,h⟩:=cU h
  have hargs:args.map a.eval=args.map s.E.ev:=ha.args λx hx=>List.all_eq_true.1 hc x (by rw [fB];simp [Op.operands,Call.operands,hx])
  cases Ek:gq P f with
  |true=>
   rw [Ek,cond_true] at h
   exact hm _ _ (λv w' ⟨H,hk⟩=>back v w' H hk) (h0 _ (Bw (s:=⟨s.E,s.S,s.L,w,false⟩) (by simp [execOp,fB,resolve,Act.eval,Deferred.ofValue,invoke,hargs,n9 Ek]) I.lc rfl h))
  |false=>
   rw [Ek,cond_false] at h
   unfold LU at h
   obtain ⟨v,w',hr,hk⟩:=oE h
   refine hm _ _ V' (h0 _ λQ=>?_)
   unfold Oper.wp
   have:(execOp a.eval o).run P w=.ok (.value v) w':=by simp [execOp,fB,resolve,Act.eval,Deferred.ofValue,invoke,hargs,hr]
   rw [this]
   simp only [Oper.upon]
   exact ⟨_,rfl,hk⟩
 .rename_i t args Xy fB
  obtain ⟨I',h⟩:=I.Ax h
  obtain ⟨hc,h⟩:=cU h
  have hargs:args.map a.eval=args.map s.E.ev:=ha.args λx hx=>List.all_eq_true.1 hc x (by rw [fB];simp [Op.operands,Call.operands,hx])
  split at h
  .rename_i f first captured hf
   obtain ⟨Ek,h⟩:=cU h
   have Ud:a.eval (.tmp t)=.func (.func f) first captured:=ha.val (x:=.tmp t) hf
   exact hm _ _ (λv w' ⟨H,hk⟩=>back v w' H hk) (h0 _ (Bw (s:=⟨s.E,s.S,s.L,w,false⟩) (by simp [execOp,fB,resolve,Ud,Deferred.ofValue,invoke,hargs,n9 Ek]) I.lc rfl h))
  .exact h.elim
 .obtain ⟨_,h'⟩:=I.Ax h
  exact hm _ _ V' (h1 _ h')
end
def HI (s:TS) (H:HT) (w:aA):Prop:=∀p∈H,p.2.2 w/\∀i,p.2.1=some i->∃X,s.L[i]? =some X/\∀w':aA,w'.heap[X.1]? =some (.cells X.2.1.toArray X.2.2 (0,0))->p.2.2 w'
def pg (H:HT):nS:=H.map λp=>(p.1,p.2.2)
def rr {ops:Array Oper} {j:Nat}:∀H:HT,fQ ops j (pg H)=pg (mi ops j H)
 |[]=>rfl
 |(i,f,S)::H=>by
  show fQ ops j ((i,S)::pg H)=pg (mi ops j ((i,f,S)::H))
  unfold fQ mi
  cases uH ops i j
  .simp only [cond_false]
   rw [rr H];rfl
  .simp only [cond_true]
   exact rr H
def lY {ops:Array Oper} {j:Nat}:∀{H:HT} {p},p∈mi ops j H->p∈H/\uH ops p.1 j=false
 |(i,f,S)::H,p,h=>by
  unfold mi at h
  cases ho:uH ops i j with
  |true=>
   rw [ho,cond_true] at h
   exact ⟨mG _ (lY h).1,(lY h).2⟩
  |false=>
   rw [ho,cond_false] at h
   rcases dT.1 h with rfl|h
   .exact ⟨List.mem_cons_self,ho⟩
   .exact ⟨mG _ (lY h).1,(lY h).2⟩
def HU {ops:Array Oper} {j:Nat} {w:aA}:∀{H:HT} {p},p∈H->uH ops p.1 j=false->p.2.1=none->p.2.2 w∈HR ops j w H
 |(i,f,S)::H,p,h,ho,hf=>by
  unfold HR
  rcases dT.1 h with rfl|h
  .simp only at ho hf
   rw [ho,hf]
   exact List.mem_cons_self
  .have:=HU (w:=w) h ho hf
   cases (uH ops i j||f.isSome)
   .exact mG _ this
   .exact this
def Inv.put {s:TS} {w:aA} (I:Inv s w) (d:Option Nat) {v:aD} {q:Option (Nat×Nat)} (hq:∀i j,q=some (i,j)->∃X,s.L[i]? =some X/\v=.pointer (some ((bO X.1).add j))):Inv ⟨s.E.put d v,s.S.put d q,s.L,s.w,s.d⟩ w:=by
 refine ⟨I.lc,I.rel,λt i j ht=>?_⟩
 cases d with
 |none=>exact I.sl t i j ht
 |some d=>
  simp only [Sv.put,Sv.get?] at ht
  simp only [Env.put,Env.get?]
  cases hb:Nat.beq d t with
  |true=>
   rw [hb,cond_true] at ht
   obtain ⟨X,h1,h2⟩:=hq i j ht
   exact ⟨X,h1,by simp [h2]⟩
  |false=>
   rw [hb,cond_false] at ht
   obtain ⟨X,h1,h2⟩:=I.sl t i j ht
   exact ⟨X,h1,by simpa using h2⟩
def Gg {ops:Array Oper} {j:Nat} {s s1:TS} {w w':aA} {m:Option Nat} {H:HT} {K:TS->Prop} (hH:HI s H w) (I:Inv s1 w') (hL:∀i X,s.L[i]? =some X->m≠some i->s1.L[i]? =some X)
  (hc:(!((mi ops j H).any λp=>m.isSome&&p.2.1==m))=true) (h:KZ ops j s1 H K):
  ∃s2,K s2/\Inv s2 w'/\s2.E=s1.E/\s2.S=s1.S/\s2.L=s1.L/\HI s2 (mi ops j H) w':=by
 have YU:∀p∈mi ops j H,∀i,p.2.1=some i->∃X,s1.L[i]? =some X/\∀w':aA,w'.heap[X.1]? =some (.cells X.2.1.toArray X.2.2 (0,0))->p.2.2 w':=λp hp i hi=>by
  obtain ⟨X,h1,h2⟩:=(hH p (lY hp).1).2 i hi
  refine ⟨X,hL i X h1 λe=>?_,h2⟩
  simp only [Bool.not_eq_true',List.any_eq_false] at hc
  exact hc p hp (by rw [e,hi];simp)
 have own:∀p∈mi ops j H,∀i,p.2.1=some i->p.2.2 w':=λp hp i hi=>by
  obtain ⟨X,h1,h2⟩:=YU p hp i hi
  exact h2 w' (I.lc.own i X h1)
 unfold KZ at h
 cases ha:H.any (λp=>!(uH ops p.1 j)&&p.2.1.isNone) with
 |true=>
  rw [ha,cond_true] at h
  obtain ⟨I',h'⟩:=I.Ax h
  obtain ⟨q1,q2⟩:=rn h'
  refine ⟨_,q2,I',rfl,rfl,rfl,λp hp=>⟨?_,YU p hp⟩⟩
  cases hf:p.2.1 with
  |none=>exact q1 _ (HU (lY hp).1 (lY hp).2 hf)
  |some i=>exact own p hp i hf
 |false=>
  rw [ha,cond_false] at h
  refine ⟨s1,h,I,rfl,rfl,rfl,λp hp=>⟨?_,YU p hp⟩⟩
  cases hf:p.2.1 with
  |none=>
   exfalso
   rw [List.any_eq_false] at ha
   exact ha p (lY hp).1 (by rw [(lY hp).2,hf];rfl)
  |some i=>exact own p hp i hf
section
variable {ops:Array Oper} {n:Cx} {lv:List Nat}
def zP {o:Oper} {a:Act} {s:TS} {w:aA} {H:HT} {K:TS->HT->Prop} {draw:Bool} {i:Nat} (A:(aD->aA->Prop)->Prop) (h0:∀K,uN P o a w K->A K) (h1:∀K,(bif draw then nO else zh) P o s.E w K->A K) (hm:∀K K',(∀v w',K v w'->K' v w')->A K->A K')
  (hs:∀cs b,o.op≠.select cs b) (ha:Ag n a s.E) (I:Inv s w) (hH:HI s H w) (hc:calm P o=false) (h:stepT P lv ops draw i o s H K):
  A λv w'=>∃s',K s' (mi ops i H)/\Inv s' w'/\HI s' (mi ops i H) w'/\s'.E=s.E.put o.dst v:=by
 unfold stepT at h
 rw [hc,cond_false] at h
 refine hm _ _ (λv w' he=>?_) (Kf A h0 h1 hm hs ha I h)
 obtain ⟨q,m,s1,hk,I1,e1,e2,hL,hq⟩:=he
 obtain ⟨hb,hr⟩:=cU hk
 obtain ⟨s2,k2,I2,f1,f2,f3,H2⟩:=Gg hH I1 hL hb hr
 refine ⟨_,k2,I2.put o.dst λi j h=>?_,H2,by rw [f1,e1]⟩
 rw [f3]
 exact hq i j h
def CL {o:Oper} {a:Act} {s:TS} {w:aA} {H:HT} {K:TS->HT->Prop} {draw:Bool} {i:Nat} (hs:∀cs b,o.op≠.select cs b) (ha:Ag n a s.E) (I:Inv s w) (hH:HI s H w) (hc:calm P o=true) (h:stepT P lv ops draw i o s H K):
  ∃v Ss s' H',K s' H'/\Inv s' w/\HI s' H' w/\s'.E=s.E.put o.dst v/\Calm P o a.eval w v Ss/\pg H'=(bif draw then Ss.map (λS=>(i,S))++pg H else pg H):=by
 unfold stepT at h
 rw [hc,cond_true] at h
 obtain ⟨v,q,Ss,s',hk,I',e1,e2,e3,wD,hl,hq⟩:=Hm hs ha I h
 refine ⟨v,Ss.map (·.2),_,_,hk,I'.put o.dst λi j h=>?_,λp hp=>?_,by rw [e1],wD,?_⟩
 .rw [e3];exact hq i j h
 .have GL:p∈H->p.2.2 w/\∀i,p.2.1=some i->∃X,s'.L[i]? =some X/\∀w':aA,w'.heap[X.1]? =some (.cells X.2.1.toArray X.2.2 (0,0))->p.2.2 w':=λhp=>by
   rw [e3];exact hH p hp
  cases draw with
  |false=>exact GL hp
  |true=>
   rcases List.mem_append.1 hp with hp|hp
   .obtain ⟨S,hS,rfl⟩:=pN.1 hp
    refine ⟨wD.1 _ (pN.2 ⟨S,hS,rfl⟩),λi' y6=>?_⟩
    simp only
    rw [e3]
    exact hl S hS i' y6
   .exact GL hp
 .cases draw with
  |false=>rfl
  |true=>simp [pg]
def zl {i d:Nat} {o:Oper} {want t:Bool} {s:TS} {H:HT} {K:TS->HT->Prop} {draw:Bool} (h:aW t (sG P lv ops draw i o d want true s H K) (sG P lv ops draw i o d want false s H K)):sG P lv ops draw i o d want t s H K:=by
 cases t
 .exact h
 .exact h
def Inv.same {s:TS} {w:aA} (I:Inv s w) {d:Nat} {v:aD} (hd:s.E.get? d=some v):Inv ⟨(d,v)::s.E,s.S,s.L,s.w,s.d⟩ w:=by
 refine ⟨I.lc,I.rel,λt i j ht=>?_⟩
 obtain ⟨X,h1,h2⟩:=I.sl t i j ht
 refine ⟨X,h1,?_⟩
 simp only [Env.get?]
 by_cases e:d=t
 .subst e
  rw [hd] at h2
  cases h2
  simp
 .have hb:Nat.beq d t=false:=by rw [<-Bool.not_eq_true,Nat.beq_eq];exact e
  rw [hb,cond_false]
  exact h2
def Inv.skip {s:TS} {w:aA} (I:Inv s w) (d:Option Nat):Inv ⟨s.E.put d undef,s.S.put d none,s.L,s.w,s.d⟩ w:=I.put d λi j h=>by cases h
def HI.skip {s s':TS} {w:aA} {H:HT} (h:HI s H w) (e:s'.L=s.L):HI s' H w:=λp hp=>by rw [e];exact h p hp
def HI.drop {s:TS} {w:aA} {H:HT} {j:Nat} (h:HI s H w):HI s (mi ops j H) w:=λp hp=>h p (lY hp).1
def HI.held {s:TS} {w:aA} {H:HT} (h:HI s H w):∀p∈pg H,p.2 w:=λp hp=>by
 obtain ⟨q,hq,rfl⟩:=pN.1 hp
 exact (h q hq).1
def wc {K:TS->Prop} {Q:Exit->Act->aA->Prop} (hn:ia n ops=true):∀(l:List Nat) (s:TS) (w:aA) (a:Act),Ag n a s.E->Inv s w->runT P lv ops false K l s []->(∀s' w' a',Ag n a' s'.E->Inv s' w'->K s'->Q .normal a' w')->wpOpsIn (FW n) 0 P ops Q l a w
 |[],s,w,a,ha,I,h,hk=>hk s w a ha I h
 |i::l,s,w,a,ha,I,h,hk=>by
  have pP:=Region.noSelect_spec (ops:=ops) (by unfold ia at hn;rw [Bool.and_eq_true] at hn;exact hn.1)
  unfold runT at h
  cases ho:ops[i]? with
  |none=>rw [ho] at h;exact h.elim
  |some o=>
   rw [ho] at h
   simp only at h
   have step:∀(s:TS),Ag n a s.E->Inv s w->Region.wanted o (yielded ops a.tmps)=true->stepT P lv ops false i o s [] (λs' H'=>runT P lv ops false K l s' H')->wpOpsIn (FW n) 0 P ops Q (i::l) a w:=λs ha I hw h=>by
    rw [wpOpsIn_cons]
    cases hc:calm P o with
    |true=>
     obtain ⟨v,Ss,s',H',k1,I',_,e1,wD,NO⟩:=CL (λcs b=>pP i o cs b ho) ha I (λp hp=>by cases hp) hc h
     have:H'=[]:=by cases H' with |nil=>rfl|cons x l=>cases NO
     subst this
     refine uj (Kv:=λv' w'=>v'=v/\w'=w) ho hw ?_ ?_
     .refine uN.in (oV hn ho) λQ'=>?_
      unfold Oper.wp
      rw [wD.2 w wD.1]
      exact ⟨v,rfl,rfl,rfl⟩
     .rintro v' w' ⟨rfl,rfl⟩
      exact wc hn l s' _ _ (by rw [e1];exact ha.put _ (eR hn ho)) I' k1 hk
    |false=>
     refine uj ho hw (zP (draw:=false) (s:=s) (EW P n o a w) (λK hK=>hK.in (oV hn ho)) (λK hK=>ye (λcs b=>pP i o cs b ho) (oV hn ho) ha hK) (λK K' hKK hA Q'=>Oper.wpIn_mono (λa' w' ⟨v,e,hv⟩=>⟨v,e,hKK v w' hv⟩) (hA Q')) (λcs b=>pP i o cs b ho) ha I (λp hp=>by cases hp) hc h) λv w' ⟨s',k1,I',_,e1⟩=>?_
     exact wc hn l s' w' _ (by rw [e1];exact ha.put v (eR hn ho)) I' k1 hk
   have skip:∀(s:TS),Ag n a s.E->Inv s w->Region.wanted o (yielded ops a.tmps)=false->runT P lv ops false K l ⟨s.E.put o.dst undef,s.S.put o.dst none,s.L,s.w,s.d⟩ []->wpOpsIn (FW n) 0 P ops Q (i::l) a w:=λs ha I hw h=>by
    rw [wpOpsIn_cons]
    unfold wpOpIn
    simp only [ho,hw]
    exact ⟨λ_ _=>trivial,wc hn l _ w _ (ha.put undef (eR hn ho)) (I.skip o.dst) h hk⟩
   have Z6:(bif calm P o then ([]:HT) else mi ops i [])=[]:=by cases calm P o<;>rfl
   cases hg:o.guard with
   |none=>
    rw [hg] at h
    exact step s ha I (by simp [Region.wanted,hg]) h
   |some jw=>
    obtain ⟨j,want⟩:=jw
    rw [hg] at h
    simp only at h
    cases hd:rE ops j with
    |none=>rw [hd] at h;exact h.elim
    |some d=>
     rw [hd] at h
     simp only at h
     split at h
     .rename_i t ht
      have hy:=oP ha hd ht
      have nh:=zl h
      unfold sG at nh
      cases hb:(t==want) with
      |true=>
       rw [hb,cond_true] at nh
       exact step _ (ha.same ht) (I.same ht) (by simp [Region.wanted,hg,hy];simpa using hb) nh
      |false=>
       rw [hb,cond_false,Z6] at nh
       exact skip _ (ha.same ht) (I.same ht) (by simp [Region.wanted,hg,hy];simpa using hb) nh
     .rename_i vs ht
      rw [Z6] at h
      exact skip s ha I (by simp [Region.wanted,hg,kn ha hd ht]) h
     .exact h.elim
def sW (n:Cx) (K:TS->Prop):Exit->Act->aA->Prop
 |.normal,a,w=>∃s,Ag n a s.E/\Inv s w/\K s
 |_,_,_=>False
def NX {o:Oper} {i:Nat} {H:HT}:(bif calm P o then pg H else fQ ops i (pg H))=pg (bif calm P o then H else mi ops i H):=by
 cases calm P o
 .exact rr H
 .rfl
def HI.abp {o:Oper} {i:Nat} {s s':TS} {w:aA} {H:HT} (h:HI s H w) (e:s'.L=s.L):HI s' (bif calm P o then H else mi ops i H) w:=by
 cases calm P o
 .exact h.drop.skip e
 .exact h.skip e
def NS (hn:ia n ops=true) {K:TS->Prop} {i:Nat} {o:Oper} {s:TS} {w:aA} {H:HT} {a:Act} {Kn:TS->HT->Prop} {listed:Array Bool} {fuel:Nat} (ho:ops[i]? =some o)
  (eL:(bif calm P o then Region.free .any ops listed i&&(Region.ready .any ops listed).contains i else Region.ready .any ops listed==[i])=true) (ha:Ag n a s.E) (I:Inv s w) (hH:HI s H w) (h:HQ P lv ops i s H Kn)
  (next:∀a' s' w' H',Ag n a' s'.E->Inv s' w'->HI s' H' w'->Kn s' H'->eK P ops (sW n K) fuel (pg H') (listed.setIfInBounds i true) a' w'):eK P ops (sW n K) (fuel+1) (pg H) listed a w:=by
 have pP:=Region.noSelect_spec (ops:=ops) (by unfold ia at hn;rw [Bool.and_eq_true] at hn;exact hn.1)
 have hQ:∀c a w,sW n K (.panic c) a w=False:=λ_ _ _=>rfl
 have step:∀(s:TS),Ag n a s.E->Inv s w->HI s H w->Region.wanted o (yielded ops a.tmps)=true->stepT P lv ops true i o s H Kn->eK P ops (sW n K) (fuel+1) (pg H) listed a w:=λs ha I hH qp h=>by
  cases hc:calm P o with
  |true=>
   rw [hc,cond_true,Bool.and_eq_true] at eL
   obtain ⟨v,Ss,s',H',k1,I',XM,e1,wD,NO⟩:=CL (λcs b=>pP i o cs b ho) ha I hH hc h
   refine sS (v:=v) (Ss:=Ss) ho pP (by simp [hQ]) fuel (pg H) listed a w (Region.free_spec ho eL.1) (by simpa using eL.2) (.inl ⟨qp,λw' GK=>wD.2 w' GK⟩) wD.1 hH.held ?_
   rw [cond_true] at NO
   rw [<-NO]
   exact next _ s' w H' (by rw [e1];exact ha.put v (eR hn ho)) I' XM k1
  |false=>
   rw [hc,cond_false] at eL
   have hr:Region.ready .any ops listed=[i]:=by simpa using eL
   refine λ_=>⟨λh0=>(by rw [hr] at h0;cases h0),λj hj=>?_⟩
   rw [hr] at hj
   obtain rfl:=List.mem_singleton.1 hj
   refine vL ho qp (zP (draw:=true) (s:=s) (uN P o a w) (λK hK=>hK) (λK hK=>jg (λcs b=>pP j o cs b ho) ha hK) (λK K' hKK hA Q'=>Oper.wp_mono (λa' w' ⟨v,e,hv⟩=>⟨v,e,hKK v w' hv⟩) (hA Q')) (λcs b=>pP j o cs b ho) ha I hH hc h) λv w' ⟨s',k1,I',XM,e1⟩=>?_
   rw [rr]
   exact ⟨XM.held,next _ s' w' _ (by rw [e1];exact ha.put v (eR hn ho)) I' XM k1⟩
 have skip:∀(s:TS),Ag n a s.E->Inv s w->HI s H w->Region.wanted o (yielded ops a.tmps)=false->Kn ⟨s.E.put o.dst undef,s.S.put o.dst none,s.L,s.w,s.d⟩ (bif calm P o then H else mi ops i H)->eK P ops (sW n K) (fuel+1) (pg H) listed a w:=λs ha I hH hw h=>by
  refine lU hn ho eL hQ hH.held hw ?_
  rw [NX]
  exact next _ _ w _ (ha.put undef (eR hn ho)) (I.skip o.dst) (hH.abp rfl) h
 unfold HQ at h
 rw [ho] at h
 simp only at h
 cases hg:o.guard with
 |none=>
  rw [hg] at h
  exact step s ha I hH (by simp [Region.wanted,hg]) h
 |some jw=>
  obtain ⟨j,want⟩:=jw
  rw [hg] at h
  simp only at h
  cases hd:rE ops j with
  |none=>rw [hd] at h;exact h.elim
  |some d=>
   rw [hd] at h
   simp only at h
   split at h
   .rename_i t ht
    have hy:=oP ha hd ht
    have nh:=zl h
    unfold sG at nh
    cases hb:(t==want) with
    |true=>
     rw [hb,cond_true] at nh
     exact step _ (ha.same ht) (I.same ht) (hH.skip rfl) (by simp [Region.wanted,hg,hy];simpa using hb) nh
    |false=>
     rw [hb,cond_false] at nh
     exact skip _ (ha.same ht) (I.same ht) (hH.skip rfl) (by simp [Region.wanted,hg,hy];simpa using hb) nh
   .rename_i vs ht
    exact skip s ha I hH (by simp [Region.wanted,hg,kn ha hd ht]) h
   .exact h.elim
def QO (hn:ia n ops=true) {K:TS->Prop} {i:Nat} {o:Oper} {s:TS} {w:aA} {H:HT} {a:Act} {Kn:TS->HT->Prop} {listed:Array Bool} {fuel:Nat} (ho:ops[i]? =some o)
  (hc:calm P o=false) (ha:Ag n a s.E) (I:Inv s w) (hH:HI s H w) (h:HQ P lv ops i s H Kn)
  (next:∀a' s' w' H',Ag n a' s'.E->Inv s' w'->HI s' H' w'->Kn s' H'->eK P ops (sW n K) fuel (pg H') (listed.setIfInBounds i true) a' w'):
  wpOp P ops (sW n K) i (λa' w'=>(∀p∈fQ ops i (pg H),p.2 w')/\eK P ops (sW n K) fuel (fQ ops i (pg H)) (listed.setIfInBounds i true) a' w') a w:=by
 have pP:=Region.noSelect_spec (ops:=ops) (by unfold ia at hn;rw [Bool.and_eq_true] at hn;exact hn.1)
 have step:∀(s:TS),Ag n a s.E->Inv s w->HI s H w->Region.wanted o (yielded ops a.tmps)=true->stepT P lv ops true i o s H Kn->wpOp P ops (sW n K) i (λa' w'=>(∀p∈fQ ops i (pg H),p.2 w')/\eK P ops (sW n K) fuel (fQ ops i (pg H)) (listed.setIfInBounds i true) a' w') a w:=λs ha I hH qp h=>by
  refine vL ho qp (zP (draw:=true) (s:=s) (uN P o a w) (λK hK=>hK) (λK hK=>jg (λcs b=>pP i o cs b ho) ha hK) (λK K' hKK hA Q'=>Oper.wp_mono (λa' w' ⟨v,e,hv⟩=>⟨v,e,hKK v w' hv⟩) (hA Q')) (λcs b=>pP i o cs b ho) ha I hH hc h) λv w' ⟨s',k1,I',XM,e1⟩=>?_
  rw [rr]
  exact ⟨XM.held,next _ s' w' _ (by rw [e1];exact ha.put v (eR hn ho)) I' XM k1⟩
 have skip:∀(s:TS),Ag n a s.E->Inv s w->HI s H w->Region.wanted o (yielded ops a.tmps)=false->Kn ⟨s.E.put o.dst undef,s.S.put o.dst none,s.L,s.w,s.d⟩ (bif calm P o then H else mi ops i H)->wpOp P ops (sW n K) i (λa' w'=>(∀p∈fQ ops i (pg H),p.2 w')/\eK P ops (sW n K) fuel (fQ ops i (pg H)) (listed.setIfInBounds i true) a' w') a w:=λs ha I hH hw h=>by
  refine Gp ho hH.held hw ?_
  rw [hc,cond_false] at h
  rw [rr]
  exact next _ _ w _ (ha.put undef (eR hn ho)) (I.skip o.dst) (hH.drop.skip rfl) h
 unfold HQ at h
 rw [ho] at h
 simp only at h
 cases hg:o.guard with
 |none=>
  rw [hg] at h
  exact step s ha I hH (by simp [Region.wanted,hg]) h
 |some jw=>
  obtain ⟨j,want⟩:=jw
  rw [hg] at h
  simp only at h
  cases hd:rE ops j with
  |none=>rw [hd] at h;exact h.elim
  |some d=>
   rw [hd] at h
   simp only at h
   split at h
   .rename_i t ht
    have hy:=oP ha hd ht
    have nh:=zl h
    unfold sG at nh
    cases hb:(t==want) with
    |true=>
     rw [hb,cond_true] at nh
     exact step _ (ha.same ht) (I.same ht) (hH.skip rfl) (by simp [Region.wanted,hg,hy];simpa using hb) nh
    |false=>
     rw [hb,cond_false] at nh
     exact skip _ (ha.same ht) (I.same ht) (hH.skip rfl) (by simp [Region.wanted,hg,hy];simpa using hb) nh
   .rename_i vs ht
    exact skip s ha I hH (by simp [Region.wanted,hg,kn ha hd ht]) h
   .exact h.elim
def tt (hn:ia n ops=true) {K:TS->Prop}:∀(t:Tr) (alt:Bool) (listed:Array Bool) (s:TS) (w:aA) (H:HT) (a:Act) (m:Nat),lI P ops t alt listed=true->Ag n a s.E->Inv s w->HI s H w->Xw P lv ops K t s H->
  (alt=false->t.len=m->eK P ops (sW n K) m (pg H) listed a w)/\
  (alt=true->t.len=m+1->∀i∈t.qO,wpOp P ops (sW n K) i (λa' w'=>(∀p∈fQ ops i (pg H),p.2 w')/\eK P ops (sW n K) m (fQ ops i (pg H)) (listed.setIfInBounds i true) a' w') a w)
 |.nil,alt,listed,s,w,H,a,m,eL,ha,I,hH,h=>by
  unfold lI at eL
  rw [Bool.and_eq_true] at eL
  refine ⟨λ_ hm=>?_,λe=>?_⟩
  .subst hm
   exact λ_=>⟨by simpa using eL.2,s,ha,I,h⟩
  .subst e;simp at eL
 |.one i t,alt,listed,s,w,H,a,m,eL,ha,I,hH,h=>by
  unfold lI at eL
  rw [Bool.and_eq_true] at eL
  obtain ⟨eL,yr⟩:=eL
  cases ho:ops[i]? with
  |none=>rw [ho] at eL;cases eL
  |some o=>
   rw [ho] at eL
   simp only at eL
   unfold Xw at h
   refine ⟨λe hm=>?_,λe hm j hj=>?_⟩
   .subst e hm
    exact NS hn ho eL ha I hH h λa' s' w' H' hA hI T8 hR=>(tt hn t false _ s' w' H' a' _ yr hA hI T8 hR).1 rfl rfl
   .subst e
    rw [cond_true] at eL
    obtain rfl:=List.mem_singleton.1 hj
    have Ky:t.len=m:=by simpa [Tr.len] using hm
    exact QO hn ho (by simpa using eL) ha I hH h λa' s' w' H' hA hI T8 hR=>(tt hn t false _ s' w' H' a' _ yr hA hI T8 hR).1 rfl Ky
 |.fork x y,alt,listed,s,w,H,a,m,eL,ha,I,hH,h=>by
  unfold lI at eL
  simp only [Bool.and_eq_true] at eL
  obtain ⟨hr,hl,hx,hy⟩:=eL
  rw [Nat.beq_eq] at hl
  unfold Xw at h
  have both:∀k,x.len=k+1->∀i∈(Tr.fork x y).qO,wpOp P ops (sW n K) i (λa' w'=>(∀p∈fQ ops i (pg H),p.2 w')/\eK P ops (sW n K) k (fQ ops i (pg H)) (listed.setIfInBounds i true) a' w') a w:=λk hk i hi=>by
   rcases List.mem_append.1 hi with hi|hi
   .exact (tt hn x true listed s w H a k hx ha I hH h.1).2 rfl hk i hi
   .exact (tt hn y true listed s w H a k hy ha I hH h.2).2 rfl (hl▸hk) i hi
  refine ⟨λe hm=>?_,λ_ hm=>both m hm⟩
  subst e
  obtain ⟨k,hk⟩:=CU x listed hx
  have Ky:m=k+1:=by rw [<-hm,<-hk];rfl
  subst Ky
  have hr':Region.ready .any ops listed=(Tr.fork x y).qO:=by simpa using hr
  have jx:(Tr.fork x y).qO≠[]:=by have:=xH x listed hx;simp [Tr.qO,this]
  exact λ_=>⟨λh0=>absurd (hr'▸h0) jx,λi hi=>both k hk i (hr'▸hi)⟩
def RU {c:Code} {a:Act} {s:TS} {w:aA} {K:TS->Prop} (hc:K3 n c=true) (ha:Ag n a s.E) (I:Inv s w) (h:runT P lv (Code.ops c) false K (List.range (Code.ops c).size) s []):Dg P n c (sW n K) a w:=by
 unfold K3 at hc
 split at hc
 .rename_i id ops d
  rw [Bool.and_eq_true] at hc
  obtain ⟨h1,h2⟩:=hc
  have h3:d=false:=by simpa using h1
  subst h3
  exact wpIn_region (wc h2 _ s w a ha I h λs' w' a' h1 h2 h3=>⟨s',h1,h2,h3⟩)
 .cases hc
def Inv.dr {s:TS} {w:aA} {K:TS->Prop} (I:Inv s w) (h:drT s K):∃s',K s'/\Inv s' w.drew/\s'.E=s.E:=by
 have lc:LC w.drew s.L:=I.lc.fr (M:=λ_=>False) (Fr.drew _ _) (λ_ _ h=>h)
 unfold drT at h
 split at h
 .rename_i hL hd
  have hr:=I.rel
  rw [hd] at hr
  have:w=s.w:=by simpa using hr
  exact ⟨_,h,⟨lc,by simp [this],I.sl⟩,rfl⟩
 .exact ⟨_,h,⟨lc,by simpa using I.fr.Az (Fr.drew _ _),I.sl⟩,rfl⟩
def RT {c:Code} {a:Act} {s:TS} {w:aA} {K:TS->Prop} {t:Tr} (hc:EG P n c t=true) (ha:Ag n a s.E) (I:Inv s w) (h:drT s λs=>Xw P lv (Code.ops c) K t s []):Dg P n c (sW n K) a w:=by
 unfold EG at hc
 split at hc
 .rename_i id ops d
  simp only [Bool.and_eq_true] at hc
  obtain ⟨rfl,hm,hn,hl,h5⟩:=hc
  rw [Nat.beq_eq] at h5
  obtain ⟨s',hk,I',e⟩:=I.dr h
  have h1:=(tt hn t false _ s' w.drew [] a _ hl (by rw [e];exact ha) I' (λp hp=>(by cases hp)) hk).1 rfl h5
  have h2:=pM _ [] _ _ _ (Down.zero _ _) h1
  refine wpIn_region_draw λt=>?_
  refine rQ hn (λ⟨_,_,h⟩=>h) _ _ _ ?_
  simp only [Region.schedule,hm,Bool.true_or,if_true]
  exact wpAny_sound ops.size t _ a _ h2
 .cases hc
end
end
abbrev KT:=Exit->TS->Prop
structure SQ where
 ord:Nat->Option Tr
 pt:List Bool->Option (TS->Prop)
 lv:List Nat
def WU (tb:SQ) (q:List Bool) (f:TS->Prop) (s:TS):Prop:=match tb.pt q with
 |some F=>Ax s F
 |none=>f s
def abm (tb:SQ) (q:List Bool) (f:TS->Prop) (K:KT):KT:=λe s=>match e with
 |.normal=>WU tb q f s
 |e=>K e s
def Tu (id:Nat) (K:KT):KT:=λe s=>match e with
 |.exit id'=>if id'=id then K .normal s else K (.exit id') s
 |e=>K e s
def Hz (P:aQ) (n:Cx) (tb:SQ):Code->List Bool->KT->TS->Prop
 |.skip,_,K,s=>K .normal s
 |.region id ops true,_,K,s=>match tb.ord id with
  |some t=>iW (EG P n (.region id ops true) t) (drT s λs=>Xw P tb.lv ops (K .normal) t s [])
  |none=>False
 |.region id ops false,_,K,s=>iW (K3 n (.region id ops false)) (runT P tb.lv ops false (K .normal) (List.range ops.size) s [])
 |.seq a b,q,K,s=>Hz P n tb a (false::q) (abm tb (true::q) (Hz P n tb b (true::q) K) K) s
 |.cond o a b,q,K,s=>nN (s.E.val o) (WU tb (false::q) (Hz P n tb a (false::q) K) s) (WU tb (true::q) (Hz P n tb b (true::q) K) s)
 |.block id a,q,K,s=>Hz P n tb a (false::q) (Tu id K) s
 |.loop _,q,_,s=>WU tb q (λ_=>False) s
 |.exit id,_,K,s=>K (.exit id) s
 |.ret,_,K,s=>K .ret s
 |_,_,_,_=>False
section
variable {P:aQ} {n:Cx} {tb:SQ}
def qJ (P:aQ) (n:Cx) (c0:Code) (Q0:Exit->Act->aA->Prop):List Bool->Code×(Exit->Act->aA->Prop)
 |[]=>(c0,Q0)
 |b::q=>match qJ P n c0 Q0 q,b with
  |(.seq x y,Q),false=>(x,Exit.then (Dg P n y Q) Q)
  |(.seq _ y,Q),true=>(y,Q)
  |(.cond _ x _,Q),false=>(x,Q)
  |(.cond _ _ y,Q),true=>(y,Q)
  |(.block id x,Q),_=>(x,Exit.inBlock id Q)
  |(.loop x,Q),_=>(x,Exit.then (uQ P n x Q) Q)
  |(_,Q),_=>(.skip,Q)
def ZU (P:aQ) (n:Cx) (p:Code×(Exit->Act->aA->Prop)) (a:Act) (w:aA):Prop:=match p with
 |(.loop x,Q)=>uQ P n x Q a w
 |(c,Q)=>Dg P n c Q a w
def ZU.wp {c:Code} {Q:Exit->Act->aA->Prop} {a:Act} {w:aA} (h:ZU P n (c,Q) a w):Dg P n c Q a w:=by
 unfold ZU at h
 split at h
 .rename_i x Q' e
  cases e
  exact y0 h
 .rename_i c' Q' _ e
  cases e
  exact h
def KQ (n:Cx) (K:KT) (Q:Exit->Act->aA->Prop):Prop:=∀e s w a,Ag n a s.E->Inv s w->K e s->Q e a w
def DR (P:aQ) (n:Cx) (tb:SQ) (c0:Code) (Q0:Exit->Act->aA->Prop):Prop:=∀q F,tb.pt q=some F->∀s w a,Ag n a s.E->Inv s w->F s->ZU P n (qJ P n c0 Q0 q) a w
variable {c0:Code} {Q0:Exit->Act->aA->Prop}
def tg (hT:DR P n tb c0 Q0) {q:List Bool} {c:Code} {Q:Exit->Act->aA->Prop} (hp:qJ P n c0 Q0 q=(c,Q)) {f:TS->Prop} {s:TS} {w:aA} {a:Act} (ha:Ag n a s.E) (I:Inv s w) (hf:f s->Dg P n c Q a w) (h:WU tb q f s):Dg P n c Q a w:=by
 unfold WU at h
 split at h
 .rename_i F hF
  obtain ⟨I',h'⟩:=I.Ax h
  have:=hT q F hF ⟨s.E,s.S,s.L,w,false⟩ w a ha I' h'
  rw [hp] at this
  exact this.wp
 .exact hf h
def yL {c:Code} {K:TS->Prop} {Q:Exit->Act->aA->Prop} {a:Act} {w:aA} (h:Dg P n c (sW n K) a w) (hk:∀s w a,Ag n a s.E->Inv s w->K s->Q .normal a w):Dg P n c Q a w:=
 wpIn_mono h λe a' w' he=>by
  cases e with
  |normal=>obtain ⟨s',hA,hI,hK⟩:=he;exact hk s' w' a' hA hI hK
  |_=>exact he.elim
def nu (hT:DR P n tb c0 Q0):∀(c:Code) (q:List Bool) (K:KT) (Q:Exit->Act->aA->Prop) (s:TS) (w:aA) (a:Act),qJ P n c0 Q0 q=(c,Q)->KQ n K Q->Ag n a s.E->Inv s w->Hz P n tb c q K s->Dg P n c Q a w
 |.skip,q,K,Q,s,w,a,hp,hK,ha,I,h=>wpIn_skip (hK _ _ _ _ ha I h)
 |.region id ops true,q,K,Q,s,w,a,hp,hK,ha,I,h=>by
  unfold Hz at h
  split at h
  .obtain ⟨h1,h2⟩:=cU h
   exact yL (RT (c:=.region id ops true) h1 ha I h2) λs w a h1 h2 h3=>hK _ _ _ _ h1 h2 h3
  .exact h.elim
 |.region id ops false,q,K,Q,s,w,a,hp,hK,ha,I,h=>by
  unfold Hz at h
  obtain ⟨h1,h2⟩:=cU h
  exact yL (RU (c:=.region id ops false) h1 ha I h2) λs w a h1 h2 h3=>hK _ _ _ _ h1 h2 h3
 |.seq x y,q,K,Q,s,w,a,hp,hK,ha,I,h=>by
  unfold Hz at h
  have p1:qJ P n c0 Q0 (false::q)=(x,Exit.then (Dg P n y Q) Q):=by unfold qJ;rw [hp]
  have p2:qJ P n c0 Q0 (true::q)=(y,Q):=by unfold qJ;rw [hp]
  refine wpIn_seq (nu hT x (false::q) _ _ s w a p1 (λe s' w' a' T' I' hk=>?_) ha I h)
  cases e with
  |normal=>exact tg hT p2 T' I' (λh'=>nu hT y (true::q) K Q s' w' a' p2 hK T' I' h') hk
  |_=>exact hK _ _ _ _ T' I' hk
 |.cond o x y,q,K,Q,s,w,a,hp,hK,ha,I,h=>by
  unfold Hz at h
  have p1:qJ P n c0 Q0 (false::q)=(x,Q):=by unfold qJ;rw [hp]
  have p2:qJ P n c0 Q0 (true::q)=(y,Q):=by unfold qJ;rw [hp]
  unfold nN at h
  split at h
  .rename_i t ht
   refine wpIn_cond_split (ha.val ht) (λe=>?_) (λe=>?_)
   .subst e
    exact tg hT p1 ha I (λh'=>nu hT x (false::q) K Q s w a p1 hK ha I h') h
   .subst e
    exact tg hT p2 ha I (λh'=>nu hT y (true::q) K Q s w a p2 hK ha I h') h
  .exact h.elim
 |.block id x,q,K,Q,s,w,a,hp,hK,ha,I,h=>by
  unfold Hz at h
  have p1:qJ P n c0 Q0 (false::q)=(x,Exit.inBlock id Q):=by unfold qJ;rw [hp]
  refine wpIn_block (nu hT x (false::q) _ _ s w a p1 (λe s' w' a' T' I' hk=>?_) ha I h)
  cases e with
  |exit id'=>
   simp only [Tu] at hk
   simp only [Exit.inBlock]
   split at hk
   .rename_i e;rw [aN e];exact hK _ _ _ _ T' I' hk
   .rename_i e;rw [aI e];exact hK _ _ _ _ T' I' hk
  |_=>exact hK _ _ _ _ T' I' hk
 |.loop x,q,K,Q,s,w,a,hp,hK,ha,I,h=>by
  unfold Hz at h
  exact tg hT hp ha I (λh'=>h'.elim) h
 |.exit id,q,K,Q,s,w,a,hp,hK,ha,I,h=>wpIn_exit (hK _ _ _ _ ha I h)
 |.ret,q,K,Q,s,w,a,hp,hK,ha,I,h=>wpIn_ret (hK _ _ _ _ ha I h)
 |.rangeFunc ..,_,_,_,_,_,_,_,_,_,_,h=>h.elim
 |.scope _,_,_,_,_,_,_,_,_,_,_,h=>h.elim
 |.label _,_,_,_,_,_,_,_,_,_,_,h=>h.elim
 |.goto _,_,_,_,_,_,_,_,_,_,_,h=>h.elim
 |.refuse _,_,_,_,_,_,_,_,_,_,_,h=>h.elim
def Ml (tb:SQ) (q:List Bool) (K:KT):KT:=λe s=>match e with
 |.normal=>WU tb q (λ_=>False) s
 |e=>K e s
def Uz (P:aQ) (n:Cx) (tb:SQ) (c0:Code) (K0:KT):List Bool->Code×KT
 |[]=>(c0,K0)
 |b::q=>match Uz P n tb c0 K0 q,b with
  |(.seq x y,K),false=>(x,abm tb (true::q) (Hz P n tb y (true::q) K) K)
  |(.seq _ y,K),true=>(y,K)
  |(.cond _ x _,K),false=>(x,K)
  |(.cond _ _ y,K),true=>(y,K)
  |(.block id x,K),_=>(x,Tu id K)
  |(.loop x,K),_=>(x,Ml tb q K)
  |(_,K),_=>(.skip,K)
def zu (hT:DR P n tb c0 Q0) {K0:KT} (h0:KQ n K0 Q0):∀q:List Bool,(Uz P n tb c0 K0 q).1=(qJ P n c0 Q0 q).1/\KQ n (Uz P n tb c0 K0 q).2 (qJ P n c0 Q0 q).2
 |[]=>⟨rfl,h0⟩
 |b::q=>by
  obtain ⟨h1,h2⟩:=zu hT h0 q
  unfold Uz qJ
  generalize hp:qJ P n c0 Q0 q=p at h1 h2
  generalize Uz P n tb c0 K0 q=k at h1 h2
  obtain ⟨c,Q⟩:=p
  obtain ⟨c',K⟩:=k
  simp only at h1 h2
  subst h1
  cases c' with
  |seq x y=>
   cases b with
   |false=>
    refine ⟨rfl,λe s w a ha I hk=>?_⟩
    cases e with
    |normal=>
     have p2:qJ P n c0 Q0 (true::q)=(y,Q):=by unfold qJ;rw [hp]
     exact tg hT p2 ha I (λh'=>nu hT y (true::q) K Q s w a p2 h2 ha I h') hk
    |_=>exact h2 _ _ _ _ ha I hk
   |true=>exact ⟨rfl,h2⟩
  |cond o x y=>cases b<;>exact ⟨rfl,h2⟩
  |block id x=>
   cases b<;>(
    refine ⟨rfl,λe s w a ha I hk=>?_⟩
    cases e with
    |exit id'=>
     simp only [Tu] at hk
     simp only [Exit.inBlock]
     split at hk
     .rename_i e;rw [aN e];exact h2 _ _ _ _ ha I hk
     .rename_i e;rw [aI e];exact h2 _ _ _ _ ha I hk
    |_=>exact h2 _ _ _ _ ha I hk)
  |loop x=>
   cases b<;>(
    refine ⟨rfl,λe s w a ha I hk=>?_⟩
    cases e with
    |normal=>
     simp only [Ml,WU] at hk
     split at hk
     .rename_i F hF
      obtain ⟨I',h'⟩:=I.Ax hk
      have:=hT q F hF ⟨s.E,s.S,s.L,w,false⟩ w a ha I' h'
      rw [hp] at this
      exact this
     .exact hk.elim
    |_=>exact h2 _ _ _ _ ha I hk)
  |_=>cases b<;>exact ⟨rfl,h2⟩
def Ke (P:aQ) (n:Cx) (tb:SQ) (c0:Code) (K0:KT) (q:List Bool) (s:TS):Prop:=match Uz P n tb c0 K0 q with
 |(.loop x,K)=>Hz P n tb x (false::q) (Ml tb q K) s
 |(c,K)=>Hz P n tb c q K s
def Fk (hT:DR P n tb c0 Q0) {K0:KT} (h0:KQ n K0 Q0) {q:List Bool} {s:TS} {w:aA} {a:Act} (ha:Ag n a s.E) (I:Inv s w) (h:Ke P n tb c0 K0 q s):ZU P n (qJ P n c0 Q0 q) a w:=by
 obtain ⟨h1,h2⟩:=zu hT h0 q
 have h3:=zu hT h0 (false::q)
 unfold Ke at h
 generalize hp:qJ P n c0 Q0 q=p at h1 h2
 generalize hk:Uz P n tb c0 K0 q=k at h h1 h2
 obtain ⟨c,Q⟩:=p
 obtain ⟨c',K⟩:=k
 simp only at h1 h2
 subst h1
 cases c' with
 |loop x=>
  have p1:qJ P n c0 Q0 (false::q)=(x,Exit.then (uQ P n x Q) Q):=by unfold qJ;rw [hp]
  have k1:Uz P n tb c0 K0 (false::q)=(x,Ml tb q K):=by unfold Uz;rw [hk]
  rw [p1,k1] at h3
  exact Ai (nu hT x (false::q) _ _ s w a p1 h3.2 ha I h)
 |_=>exact nu hT _ q K Q s w a hp h2 ha I h
end
section
variable {P:aQ}
def Gh (P:aQ) (s:TS):List ResultVar->(List aD->Prop)->Prop
 |[],K=>K []
 |.tmp t::l,K=>match s.E.get? t with
  |some v=>Gh P s l λvs=>K (v::vs)
  |none=>False
 |.cell x T::l,K=>match s.S.get? x with
  |some (i,j)=>match s.L[i]? with
   |some X=>ldT P T X.2.1 j λv=>Gh P s l λvs=>K (v::vs)
   |none=>False
  |none=>match s.E.get? x with
   |some (.pointer (some p))=>DH P T p s.w λv _=>Gh P s l λvs=>K (v::vs)
   |_=>False
def RV (P:aQ) (fn:Func) (R:aT):KT:=λe s=>match e with
 |.normal|.ret=>Ax s λs=>Gh P s fn.results.toList λvs=>R (aJ (RG vs)) s.w
 |_=>False
def xD {n:Cx} {a:Act} {s:TS} {w:aA} (ha:Ag n a s.E) (I:Inv s w) (hw:s.w=w):∀{l:List ResultVar} {K:List aD->Prop},Gh P s l K->
  ∃vs,(l.mapM (At a.tmps)).run P w=.ok vs w/\K vs
 |[],K,h=>⟨[],by simp,h⟩
 |.tmp t::l,K,h=>by
  unfold Gh at h
  split at h
  .rename_i v hv
   obtain ⟨vs,hr,hk⟩:=xD ha I hw h
   refine ⟨v::vs,?_,hk⟩
   have hg:=ha.get t v hv
   simp [List.mapM_cons,At,hr,hg]
  .exact h.elim
 |.cell x T::l,K,h=>by
  have fin:∀(p:Addr) (v:aD),s.E.get? x=some (.pointer (some p))->(loadVar T p).run P w=.ok v w->(Gh P s l λvs=>K (v::vs))->∃vs,((ResultVar.cell x T::l).mapM (At a.tmps)).run P w=.ok vs w/\K vs:=λp v hp hv h=>by
   obtain ⟨vs,hr,hk⟩:=xD ha I hw h
   refine ⟨v::vs,?_,hk⟩
   have hg:=ha.get x _ hp
   simp [List.mapM_cons,At,hr,hg,asAddr,hv]
  unfold Gh at h
  split at h
  .rename_i i j hx
   obtain ⟨X,h1,h2⟩:=I.sl x i j hx
   rw [h1] at h
   obtain ⟨v,hk,hv⟩:=Ex (b:=X.1) (ty:=X.2.2) h
   exact fin _ v h2 (hv w (I.lc.own i X h1)) hk
  .split at h
   .rename_i p hp
    rw [hw] at h
    obtain ⟨v,S,h,zq,JJ⟩:=xm h
    exact fin p v hp (JJ w zq) h
   .exact h.elim
def Cw {m:Nat} {fn:Func} {R:aT}:KQ (cx m) (RV P fn R) (bodyPost P fn R):=by
 intro e s w a ha I h
 have go:(Ax s λs=>Gh P s fn.results.toList λvs=>R (aJ (RG vs)) s.w)->a.defers=[]/\∃v,(results fn a.tmps).run P w=.ok v w/\R (aJ v) w:=λh=>by
  obtain ⟨I',h'⟩:=I.Ax h
  obtain ⟨vs,hr,hk⟩:=xD (s:=⟨s.E,s.S,s.L,w,false⟩) ha I' rfl h'
  refine ⟨ha.defers,_,?_,hk⟩
  rw [Cu,<-Array.toArray_toList (xs:=fn.results),List.mapM_toArray]
  simp only [Sem.run_bind,Sem.run_map,hr,Result.andThen_ok,Sem.run_pure]
  congr 1
  cases vs with
  |nil=>rfl
  |cons v vs=>cases vs<;>rfl
 unfold RV at h
 cases e with
 |normal=>exact go h
 |ret=>exact go h
 |_=>exact h.elim
def Fi {f:FuncId} {fn:Func} {c:Code} {args:List aD} {w:aA} {R:aT} {tb:SQ} (hf:P.funcs[f]? =some fn) (hb:fn.body=some c) (ni:Nat.ble args.length fn.ntmps=true)
  (hT:DR P (cx fn.ntmps) tb c (bodyPost P fn R)) (h:Hz P (cx fn.ntmps) tb c [] (RV P fn R) ⟨qN 0 args,[],[],w,false⟩):Calls P f args.toArray w R:=
 jR hf hb ni λa ha=>nu hT c [] _ _ _ w a rfl Cw ha ⟨LC.nil _,by simp,λt i j h=>by cases h⟩ h
end
inductive Sh
 |i (k:IntKind)|b|st|s|p|r|m|v|f
def Sh.T:Sh->Type
 |.i _=>Int
 |.b=>Bool
 |.st=>ByteArray
 |.s=>Sl
 |.p=>Option Addr
 |.r=>Addr
 |.m=>Option Nat
 |.v=>aD
 |.f=>Fv
def Sh.val:(h:Sh)->h.T->aD
 |.i k,x=>.int k x
 |.b,x=>.bool x
 |.st,x=>.string x
 |.s,x=>Sl.v x
 |.p,x=>.pointer x
 |.r,x=>.pointer (some x)
 |.m,x=>.map x
 |.v,x=>x
 |.f,x=>Fv.v x
def Sh.rd (h:Sh) (v:aD) (K:h.T->Prop):Prop:=match h,v,K with
 |.i k,.int k' x,K=>iW (k'==k) (K x)
 |.b,.bool x,K=>K x
 |.st,.string x,K=>K x
 |.s,.slice a n c,K=>K ⟨a,n,c⟩
 |.p,.pointer x,K=>K x
 |.r,.pointer (some x),K=>K x
 |.m,.map x,K=>K x
 |.v,x,K=>K x
 |.f,.func (.func n) bs cs,K=>K ⟨n,bs,cs⟩
 |_,_,_=>False
def Sh.U' {h:Sh} {v:aD} {K:h.T->Prop} (hr:h.rd v K):∃x,v=h.val x/\K x:=by
 unfold Sh.rd at hr
 split at hr<;>first |exact hr.elim|skip
 .obtain ⟨h1,h2⟩:=cU hr
  have:=eq_of_beq h1
  subst this
  exact ⟨_,rfl,h2⟩
 all_goals exact ⟨_,rfl,hr⟩
inductive Tk
 |o (h:Sh)|a (k:Nat)|t (k:Nat)|g (n j k:Nat)
abbrev Tk.I:Tk:=.o (.i .i64)
abbrev Tk.U:Tk:=.o (.i .u64)
abbrev Tk.Y:Tk:=.o (.i .u8)
abbrev Tk.i (k:IntKind):Tk:=.o (.i k)
abbrev Tk.b:Tk:=.o .b
abbrev Tk.st:Tk:=.o .st
abbrev Tk.s:Tk:=.o .s
abbrev Tk.p:Tk:=.o .p
abbrev Tk.r:Tk:=.o .r
abbrev Tk.m:Tk:=.o .m
abbrev Tk.v:Tk:=.o .v
abbrev Tk.f:Tk:=.o .f
def Dq:List Tk->Type->Type
 |[],X=>X
 |.o h::l,X=>h.T->Dq l X
 |.a _::l,X=>Dq l X
 |.t _::l,X=>Dq l X
 |.g _ _ _::l,X=>Dq l X
inductive Sp
 |v (l:List Tk)
 |l (l:List Tk) (T:aP)
def JR:List (Nat×Sp)->Type
 |[]=>aA->aT->Prop
 |(_,.v ts)::l=>Dq ts (JR l)
 |(_,.l ts _)::l=>Nat->Dq ts (JR l)
def Tc:(ts:List Tk)->(X:Type)->List aD->Dq ts X->(X->Prop)->Prop
 |[],_,[],F,K=>K F
 |.o h::ts,X,v::vs,F,K=>h.rd v λx=>Tc ts X vs (F x) K
 |.a k::ts,X,.agg a::vs,F,K=>iW (Nat.beq a.toList.length k) (Tc ts X (a.toList++vs) F K)
 |.t k::ts,X,.tuple a::vs,F,K=>iW (Nat.beq a.toList.length k) (Tc ts X (a.toList++vs) F K)
 |.g n j k::ts,X,.func (.func m) bs cs::vs,F,K=>iW (Nat.beq n m&&Nat.beq bs.toList.length j&&Nat.beq cs.toList.length k) (Tc ts X (bs.toList++(cs.toList++vs)) F K)
 |_,_,_,_,_=>False
def UN:(ts:List Tk)->(X:Type)->(List aD->X)->Dq ts X
 |[],_,K=>K []
 |.o h::ts,X,K=>λx=>UN ts X λvs=>K (h.val x::vs)
 |.a k::ts,X,K=>UN ts X λvs=>K (.agg (vs.take k).toArray::vs.drop k)
 |.t k::ts,X,K=>UN ts X λvs=>K (.tuple (vs.take k).toArray::vs.drop k)
 |.g n j k::ts,X,K=>UN ts X λvs=>K (.func (.func n) (vs.take j).toArray ((vs.drop j).take k).toArray::(vs.drop j).drop k)
def MH:∀{ts:List Tk} {X:Type} {vs:List aD} {K:List aD->X} {K2:X->Prop},Tc ts X vs (UN ts X K) K2->K2 (K vs):=by
 intro ts
 induction ts with
 |nil=>
  intro X vs K K2 hr
  cases vs with
  |nil=>exact hr
  |cons _ _=>exact hr.elim
 |cons t ts ih=>
  intro X vs K K2 hr
  cases t with
  |o h=>
   cases vs with
   |nil=>exact hr.elim
   |cons v vs=>
    obtain ⟨x,rfl,h'⟩:=Sh.U' hr
    exact ih (K:=λvs=>K (h.val x::vs)) h'
  |a k=>
   cases vs with
   |nil=>exact hr.elim
   |cons v vs=>
    cases v with
    |agg a=>
     obtain ⟨h1,h2⟩:=cU (show iW (Nat.beq a.toList.length k) (Tc ts X (a.toList++vs) _ K2) from hr)
     rw [Nat.beq_eq] at h1
     have:=ih (K:=λvs=>K (.agg (vs.take k).toArray::vs.drop k)) h2
     rw [List.take_left' h1,List.drop_left' h1] at this
     exact this
    |_=>exact hr.elim
  |t k=>
   cases vs with
   |nil=>exact hr.elim
   |cons v vs=>
    cases v with
    |tuple a=>
     obtain ⟨h1,h2⟩:=cU (show iW (Nat.beq a.toList.length k) (Tc ts X (a.toList++vs) _ K2) from hr)
     rw [Nat.beq_eq] at h1
     have:=ih (K:=λvs=>K (.tuple (vs.take k).toArray::vs.drop k)) h2
     rw [List.take_left' h1,List.drop_left' h1] at this
     exact this
    |_=>exact hr.elim
  |g n j k=>
   cases vs with
   |nil=>exact hr.elim
   |cons v vs=>
    cases v with
    |func fr bs cs=>
     cases fr with
     |func m=>
      obtain ⟨h1,h2⟩:=cU (show iW (Nat.beq n m&&Nat.beq bs.toList.length j&&Nat.beq cs.toList.length k) (Tc ts X (bs.toList++(cs.toList++vs)) _ K2) from hr)
      rw [Bool.and_eq_true,Bool.and_eq_true,Nat.beq_eq,Nat.beq_eq,Nat.beq_eq] at h1
      obtain ⟨⟨h3,h4⟩,h5⟩:=h1
      have:=ih (K:=λvs=>K (.func (.func n) (vs.take j).toArray ((vs.drop j).take k).toArray::(vs.drop j).drop k)) h2
      rw [List.take_left' h4,List.drop_left' h4,List.take_left' h5,List.drop_left' h5,h3] at this
      exact this
     |_=>exact hr.elim
    |_=>exact hr.elim
def dD:(l:List (Nat×Sp))->Nat->(Env->Sv->Lv->aA->aT->Prop)->JR l
 |[],_,K=>K [] [] []
 |(t,.v ts)::l,n,K=>UN ts (JR l) λvs=>dD l n λE S L=>K ((t,vs.headD undef)::E) S L
 |(t,.l ts T)::l,n,K=>λb=>UN ts (JR l) λvs=>dD l (n+1) λE S L=>K ((t,.pointer (some (bO b)))::E) ((t,some (n,0))::S) ((b,vs,T)::L)
def As:(l:List (Nat×Sp))->JR l->TS->List Nat->aA->aT->Prop
 |[],F,_,_,w,R=>F w R
 |(t,.v ts)::l,F,s,is,w,R=>match s.E.get? t with
  |some v=>Tc ts (JR l) [v] F λG=>As l G s is w R
  |none=>False
 |(t,.l ts T)::l,F,s,is,w,R=>match s.S.get? t with
  |some (i,0)=>match s.L[i]? with
   |some X=>iW (Nat.beq X.2.2 T&&!is.any (Nat.beq i)) (Tc ts (JR l) X.2.1 (F X.1) λG=>As l G s (i::is) w R)
   |none=>False
  |_=>False
def HK {E E':Env} {t:Nat} {v:aD} (ht:E'.get? t=some v) (h:∀t v,E.get? t=some v->E'.get? t=some v):∀t' v',Env.get? ((t,v)::E) t'=some v'->E'.get? t'=some v':=λt' v' hv=>by
 simp only [Env.get?] at hv
 cases hb:Nat.beq t t' with
 |true=>
  rw [hb,cond_true] at hv
  rw [Nat.beq_eq] at hb
  subst hb
  cases hv
  exact ht
 |false=>
  rw [hb,cond_false] at hv
  exact h t' v' hv
structure RdS (s:TS) (n:Nat) (is js:List Nat) (E:Env) (S:Sv):Prop where
 sub:∀t v,E.get? t=some v->s.E.get? t=some v
 nd:js.Nodup
 dj:∀j∈js,j∉is
 lt:∀j∈js,∃X,s.L[j]? =some X
 sl:∀t i k,S.get? t=some (i,k)->n<=i/\∃j,js[i - n]? =some j/\s.S.get? t=some (j,k)/\∃v,E.get? t=some v
def RR {s:TS} {w:aA} (I:Inv s w) {R:aT}:∀{l:List (Nat×Sp)} {n:Nat} {K:Env->Sv->Lv->aA->aT->Prop} {is:List Nat},As l (dD l n K) s is w R->
  ∃E S js,RdS s n is js E S/\K E S (js.filterMap λj=>(s.L[j]? :Option (Nat×List aD×aP))) w R:=by
 intro l
 induction l with
 |nil=>
  intro n K is h
  exact ⟨[],[],[],⟨λt v h=>by (simp [Env.get?] at h),.nil,λ_ h=>by (cases h),λ_ h=>by (cases h),λt i k h=>by (cases h)⟩,h⟩
 |cons p l ih=>
  intro n K is h
  obtain ⟨t,sp⟩:=p
  cases sp with
  |v ts=>
   unfold As at h
   split at h
   .rename_i v hv
    have h':=MH (K:=λvs=>dD l n λE S L=>K ((t,vs.headD undef)::E) S L) h
    obtain ⟨E,S,js,hr,hk⟩:=ih h'
    refine ⟨(t,v)::E,S,js,⟨HK hv hr.sub,hr.nd,hr.dj,hr.lt,λt' i k hs=>?_⟩,hk⟩
    obtain ⟨h1,j,h2,h3,v',h4⟩:=hr.sl t' i k hs
    refine ⟨h1,j,h2,h3,?_⟩
    simp only [Env.get?]
    cases Nat.beq t t' with
    |true=>exact ⟨_,rfl⟩
    |false=>exact ⟨_,h4⟩
   .exact h.elim
  |l ts T=>
   unfold As at h
   split at h
   .rename_i i hi
    split at h
    .rename_i X hX
     obtain ⟨h1,h2⟩:=cU h
     rw [Bool.and_eq_true,Nat.beq_eq,Bool.not_eq_true',List.any_eq_false] at h1
     have h':=MH (K:=λvs=>dD l (n+1) λE S L=>K ((t,.pointer (some (bO X.1)))::E) ((t,some (n,0))::S) ((X.1,vs,T)::L)) h2
     obtain ⟨E,S,js,hr,hk⟩:=ih h'
     obtain ⟨X',Wj,hp⟩:=I.sl t i 0 hi
     rw [hX] at Wj
     cases Wj
     refine ⟨(t,.pointer (some (bO X.1)))::E,(t,some (n,0))::S,i::js,⟨HK ?_ hr.sub,List.nodup_cons.2 ⟨λhm=>hr.dj i hm (by simp),hr.nd⟩,λj hj=>?_,λj hj=>?_,λt' i' k hs=>?_⟩,?_⟩
     .rw [hp,xS]
     .rcases dT.1 hj with rfl|hj
      .intro hm
       have:=h1.2 j hm
       simp at this
      .exact λhm=>hr.dj j hj (mG _ hm)
     .rcases dT.1 hj with rfl|hj
      .exact ⟨X,hX⟩
      .exact hr.lt j hj
     .simp only [Sv.get?] at hs
      cases hb:Nat.beq t t' with
      |true=>
       rw [hb,cond_true] at hs
       rw [Nat.beq_eq] at hb
       subst hb
       cases hs
       refine ⟨Nat.le_refl _,i,by simp,hi,.pointer (some (bO X.1)),?_⟩
       simp [Env.get?]
      |false=>
       rw [hb,cond_false] at hs
       obtain ⟨g1,j,g2,g3,v',g4⟩:=hr.sl t' i' k hs
       refine ⟨by omega,j,?_,g3,v',?_⟩
       .have:i' - n=(i' - (n+1))+1:=by omega
        rw [this,List.getElem?_cons_succ]
        exact g2
       .simp only [Env.get?,hb,cond_false]
        exact g4
     .have e:(X.1,X.2.1,T)=X:=by rw [<-h1.1]
      rw [List.filterMap_cons_some hX]
      simp only [e] at hk
      exact hk
    .exact h.elim
   .exact h.elim
def RdS.inv {s:TS} {w:aA} (I:Inv s w) {js:List Nat} {E:Env} {S:Sv} (h:RdS s 0 [] js E S):Inv ⟨E,S,js.filterMap λj=>(s.L[j]? :Option (Nat×List aD×aP)),w,false⟩ w:=by
 refine ⟨I.lc.pick js h.nd,by simp,λt i k hs=>?_⟩
 obtain ⟨-,j,h2,h3,v,h4⟩:=h.sl t i k hs
 obtain ⟨X,hX,hp⟩:=I.sl t j k h3
 have:=h.sub t v h4
 rw [hp] at this
 cases this
 refine ⟨X,?_,h4⟩
 have all:∀(js:List Nat) (i:Nat),(∀j∈js,∃X,s.L[j]? =some X)->js[i]? =some j->(js.filterMap λj=>(s.L[j]? :Option (Nat×List aD×aP)))[i]? =some X:=by
  intro js
  induction js with
  |nil=>intro i _ hi;simp at hi
  |cons a js ih=>
   intro i hl hi
   obtain ⟨Y,hY⟩:=hl a (by simp)
   rw [List.filterMap_cons_some hY]
   cases i with
   |zero=>simp at hi;subst hi;rw [hX] at hY;cases hY;rfl
   |succ i=>simpa using ih i (λj hj=>hl j (mG _ hj)) (by simpa using hi)
 exact all js i h.lt (by simpa using h2)
def JV:(ts:List Tk)->(X:Type)->(X->X->Prop)->Dq ts X->Dq ts X->Prop
 |[],_,r,F,G=>r F G
 |.o h::ts,X,r,F,G=>∀x:h.T,JV ts X r (F x) (G x)
 |.a _::ts,X,r,F,G=>JV ts X r F G
 |.t _::ts,X,r,F,G=>JV ts X r F G
 |.g _ _ _::ts,X,r,F,G=>JV ts X r F G
def Imp:(l:List (Nat×Sp))->JR l->JR l->Prop
 |[],F,G=>∀(w:aA) (R:aT),F w R->G w R
 |(_,.v ts)::l,F,G=>JV ts (JR l) (Imp l) F G
 |(_,.l ts _)::l,F,G=>∀b:Nat,JV ts (JR l) (Imp l) (F b) (G b)
def Me:∀{ts:List Tk} {X:Type} {r:X->X->Prop} {K1 K2:List aD->X},(∀vs,r (K1 vs) (K2 vs))->JV ts X r (UN ts X K1) (UN ts X K2):=by
 intro ts
 induction ts with
 |nil=>intro X r K1 K2 h;exact h []
 |cons t ts ih=>
  intro X r K1 K2 h
  cases t with
  |o hh=>intro x;exact ih λvs=>h _
  |a k=>exact ih λvs=>h _
  |t k=>exact ih λvs=>h _
  |g n j k=>exact ih λvs=>h _
def YP:∀{l:List (Nat×Sp)} {n:Nat} {K1 K2:Env->Sv->Lv->aA->aT->Prop},(∀E S L w R,K1 E S L w R->K2 E S L w R)->Imp l (dD l n K1) (dD l n K2):=by
 intro l
 induction l with
 |nil=>intro n K1 K2 h w R;exact h _ _ _ w R
 |cons p l ih=>
  intro n K1 K2 h
  obtain ⟨t,sp⟩:=p
  cases sp with
  |v ts=>exact Me λvs=>ih λE S L w R=>h _ _ _ w R
  |l ts T=>intro b;exact Me λvs=>ih λE S L w R=>h _ _ _ w R
structure Fx where
 P:aQ
 fn:Func
 ord:List (Nat×Tr)
 lv:List Nat
def Fx.c (X:Fx):Code:=X.fn.body.getD .skip
def Fx.n (X:Fx):Cx:=cx X.fn.ntmps
def lkO:List (Nat×Tr)->Nat->Option Tr
 |[],_=>none
 |(i,l)::o,j=>bif Nat.beq i j then some l else lkO o j
def Fx.at (X:Fx) (q:List Bool) (R:aT) (a:Act) (w:aA):Prop:=ZU X.P X.n (qJ X.P X.n X.c (bodyPost X.P X.fn R) q) a w
def Fx.Sem (X:Fx) (q:List Bool) (E:Env) (S:Sv) (L:Lv) (w:aA) (R:aT):Prop:=∀a,Ag X.n a E->Inv ⟨E,S,L,w,false⟩ w->X.at q R a w
structure SO (X:Fx) where
 q:List Bool
 sp:List (Nat×Sp)
 F:JR sp
 ok:∀(R:aT) (s:TS) (w:aA) (a:Act),Ag X.n a s.E->Inv s w->As sp F s [] w R->X.at q R a w
def PA:List Bool->List Bool->Bool
 |[],[]=>true
 |a::l,b::m=>(match a,b with |true,true=>true|false,false=>true|_,_=>false)&&PA l m
 |_,_=>false
def Ly:∀{l m:List Bool},PA l m=true->l=m
 |[],[],_=>rfl
 |a::l,b::m,h=>by
  unfold PA at h
  rw [Bool.and_eq_true] at h
  rw [Ly h.2]
  cases a<;>cases b<;>simp_all
 |[],_::_,h=>by cases h
 |_::_,[],h=>by cases h
def lkE {X:Fx} (R:aT):List (SO X)->List Bool->Option (TS->Prop)
 |[],_=>none
 |e::es,q=>bif PA e.q q then some λs=>match s.d with
  |true=>False
  |false=>As e.sp e.F s [] s.w R else lkE R es q
def Fx.Xt (X:Fx) (es:List (SO X)) (R:aT):SQ:=⟨lkO X.ord,lkE R es,X.lv⟩
def Fx.Xu {X:Fx} {es:List (SO X)} {R:aT}:DR X.P X.n (X.Xt es R) X.c (bodyPost X.P X.fn R):=by
 intro q F hF s w a ha I h
 have HM:lkE R es q=some F:=hF
 clear hF
 induction es with
 |nil=>cases HM
 |cons e es ih=>
  unfold lkE at HM
  cases hb:PA e.q q with
  |true=>
   rw [hb,cond_true] at HM
   cases HM
   have:=Ly hb
   subst this
   cases hd:s.d with
   |true=>rw [hd] at h;exact h.elim
   |false=>
    rw [hd] at h
    have hr:=I.rel
    rw [hd] at hr
    have hw:w=s.w:=by simpa using hr
    rw [<-hw] at h
    exact e.ok R s w a ha I h
  |false=>
   rw [hb,cond_false] at HM
   exact ih HM
def Fx.Cnd (X:Fx) (es:List (SO X)) (q:List Bool) (E:Env) (S:Sv) (L:Lv) (w:aA) (R:aT):Prop:=Ke X.P X.n (X.Xt es R) X.c (RV X.P X.fn R) q ⟨E,S,L,w,false⟩
def Fx.LN {X:Fx} {es:List (SO X)} {q:List Bool} {E:Env} {S:Sv} {L:Lv} {w:aA} {R:aT} (h:X.Cnd es q E S L w R):X.Sem q E S L w R:=λa ha I=>Fk (s:=⟨E,S,L,w,false⟩) (Fx.Xu (es:=es)) Cw ha I h
def Qr {X:Fx} {q:List Bool} {sp:List (Nat×Sp)} {K:Env->Sv->Lv->aA->aT->Prop} (hk:∀E S L w R,K E S L w R->X.Sem q E S L w R) (R:aT) (s:TS) (w:aA) (a:Act) (ha:Ag X.n a s.E) (I:Inv s w) (h:As sp (dD sp 0 K) s [] w R):X.at q R a w:=by
 obtain ⟨E,S,js,hr,hK⟩:=RR I h
 exact hk _ _ _ _ _ hK a ⟨ha.defers,ha.size,λt v hv=>ha.get t v (hr.sub t v hv)⟩ (hr.inv I)
def gI (X:Fx) (q:List Bool) (sp:List (Nat×Sp)) (F:JR sp) (e:F=dD sp 0 (X.Sem q):=by kernel_rfl):SO X:=⟨q,sp,F,λR s w a ha I h=>by
 subst e;exact Qr (λ_ _ _ _ _ h=>h) R s w a ha I h⟩
def bX (X:Fx) (es:List (SO X)) (q:List Bool) (sp:List (Nat×Sp)) (F:JR sp) (e:F=dD sp 0 (X.Cnd es q):=by kernel_rfl):SO X:=⟨q,sp,F,λR s w a ha I h=>by
 subst e;exact Qr (λ_ _ _ _ _ h=>Fx.LN h) R s w a ha I h⟩
def dV {X:Fx} (es:List (SO X)) (q:List Bool) (sp:List (Nat×Sp)):Imp sp (dD sp 0 (X.Cnd es q)) (dD sp 0 (X.Sem q)):=YP λ_ _ _ _ _ h=>Fx.LN h
def aZ (X:Fx) (es:List (SO X)) {f:FuncId} {args:List aD} {w:aA} {R:aT} {T:Prop} (h:T) (hf:X.P.funcs[f]? =some X.fn:=by kernel_rfl) (hb:X.fn.body=some X.c:=by kernel_rfl) (ni:Nat.ble args.length X.fn.ntmps=true:=by kernel_rfl)
  (e:T=Hz X.P X.n (X.Xt es R) X.c [] (RV X.P X.fn R) ⟨qN 0 args,[],[],w,false⟩:=by kernel_rfl):Calls X.P f args.toArray w R:=
 Fi hf hb ni Fx.Xu (e▸h)
def abi:Bool->List Nat->List Bool
 |_,[]=>[]
 |b,n::l=>List.replicate n b++abi (!b) l
abbrev bV (l:List Nat):List Bool:=abi true l
abbrev Ps:=List (Nat×Sp)
abbrev ls (l:List Nat):Tr:=Tr.sq l .nil
end Go.W
