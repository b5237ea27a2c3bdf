import Derived.Test.YtjakeaplbkhjmaaGreatDoorW
import Derived.KernelRfl
import Derived.Test.YtjakeaplbkhjmaaGreatDoorProg
import Derived.Lib.AppendStr
import Derived.Laws.IdiomStrings
import Derived.IntWalk
set_option linter.unusedVariables false
set_option linter.defProp false
noncomputable section
namespace Go.W
open Go renaming World->J,Calls->aj,Program->au,Value->V,TypeId->aE,Ending->cR,FuncId->bX,IntKind->hY
open Go.IntKind renaming wrap->aD
open Go.IntWalk renaming i64_in->br
open _root_.Bool renaming and_eq_true->be
open _root_.Nat renaming le_refl->bm,le_trans->bD,beq->bH,beq_eq->eA
open Go.Region renaming wanted->ct,ready->dY
open Go.Proofs.Tryz renaming prog->U
open _root_.Decidable renaming decide->ai
open Go.Ending renaming returned->ad
open List renaming mem_append->aK,mem_cons->aF,not_mem_nil->a5,mem_of_getElem?->aA,getElem?_eq_getElem->a0,mem_append_left->bV,mem_singleton->b',mem_cons_of_mem->cJ,drop_eq_getElem_cons->dy,take_add_one->g5,drop_of_length_le->dw
abbrev Lv:=List (Nat×List V×aE)
abbrev Sv:=List (Nat×Option (Nat×Nat))
def Sv.get? :Sv->Nat->Option (Nat×Nat)
 |[],_=>none
 |(e,v)::d,t=>bif bH e t then v else Sv.get? d t
def Sv.at(S:Sv):Operand->Option (Nat×Nat)
 |.tmp t=>S.get? t
 |_=>none
def Sv.put(S:Sv)(d:Option Nat)(o:Option (Nat×Nat)):Sv:=match d with
 |some d=>(d,o)::S
 |none=>S
structure TS where
 E:Env
 S:Sv
 L:Lv
 w:J
 d:Bool
abbrev HT:=List (Nat×Option Nat×(J->Prop))
def fB(s:TS)(K:TS->Prop):Prop:=match s.d with
 |true=>loc (h5 s.L) s.w λe=>K ⟨s.E,s.S,s.L,e,false⟩
 |false=>K s
def RJ:V->V->Bool
 |.int d _,.int e _=>d==e
 |.bool _,.bool _=>true
 |.string _,.string _=>true
 |.slice _ _ _,.slice _ _ _=>true
 |.pointer _,.pointer _=>true
 |.map _,.map _=>true
 |.int ..,_|.bool _,_|.string _,_|.slice ..,_|.pointer _,_|.map _,_=>false
 |_,_=>true
def AU:List V->List V->Bool
 |[],[]=>true
 |e::h,v::d=>RJ e v&&AU h d
 |_,_=>false
def Ej(P:au)(T:aE)(cs:List V)(j:Nat)(K:V->Prop):Prop:=
 cL (yz P T)<|match zeroOf P T with
 |.agg d=>cL (AU d.toList ((cs.drop j).take d.size)) (K (.agg ((cs.drop j).take d.size).toArray))
 |.nilFunc=>False
 |e=>match cs[j]? with
  |some v=>cL (RJ e v) (K v)
  |none=>False
def Kp(P:au)(T:aE)(f:Nat):Option Nat:=match P.underlying T with
 |some (.struct d)=>match d[f]? with
  |some f=>match P.info? f.type with
   |some i=>bif bH i.size 0 then none else some f.offset
   |none=>none
  |none=>none
 |_=>none
def Tn(P:au)(o:Oper):Bool:=match o.op with
 |.load ..|.lookup ..=>true
 |.convert s e _=>match P.underlying s,P.underlying e with
  |some (.slice _),some .string=>true
  |some (.pointer _),some .unsafePointer=>true
  |some .unsafePointer,some (.pointer _)=>true
  |_,_=>false
 |.binOp .neq d _ h _=>bif isConst h then false else match P.underlying d with
  |some (.pointer _)=>true
  |_=>false
 |.call {callee:=.builtin .len,args,argTypes}=>match args.toList,argTypes.toList with
  |[_],[d]=>match P.underlying d with
   |some (.map _ _)=>true
   |_=>false
  |_,_=>false
 |_=>false
def Bw(P:au)(o:Oper):Bool:=DY P o||Tn P o
def ua(P:au)(o:Oper)(s:TS)(K:V->Option (Nat×Nat)->List (Option Nat×(J->Prop))->TS->Prop):Prop:=
 bif Bw P o then fB s λs=>nU P o s.E s.w λv e=>K v none (e.map λd=>(none,d)) s else nU P o s.E s.w λv e=>K v none (e.map λd=>(none,d)) s
def CG(P:au)(o:Oper)(s:TS)(K:V->Option (Nat×Nat)->List (Option Nat×(J->Prop))->TS->Prop):Prop:=
 match o.op with
 |.load h d=>match s.S.at d with
  |some (i,e)=>match s.L[i]? with
   |some X=>Ej P h X.2.1 e λv=>K v none [(some i,λk=>(loadVar h ((ab X.1).add e)).run P k=.ok v k)] s
   |none=>False
  |none=>ua P o s K
 |.move d|.assign d|.nilCheck d=>match s.S.at d with
  |some q=>K ((s.E.val d).getD undef) (some q) [] s
  |none=>ua P o s K
 |.fieldAddr h d f=>match s.S.at d with
  |some (i,e)=>match Kp P h f,s.L[i]? with
   |some j,some X=>K (.pointer (some ((ab X.1).add (e+j)))) (some (i,e+j)) [] s
   |_,_=>False
  |none=>ua P o s K
 |_=>ua P o s K
def o5(L:Lv)(w w':J)(p:Prop):Prop:=match L with
 |[]=>p
 |L=>kept (h5 L) w w'/\p
def AQ:List V->Nat->List V->List V
 |d,_,[]=>d
 |d,e,v::h=>AQ (d.set e v) (e+1) h
def zg(e:List Nat)(d:Option Nat):Bool:=match d with
 |some d=>e.any (bH d)
 |none=>false
def GK(bs:List Nat)(p:Addr):List V->Nat->J->(J->Prop)->Prop
 |[],_,d,e=>e d
 |v::j,i,d,e=>aM d (p.add i) v λh=>kept bs d h/\GK bs p j (i+1) h e
abbrev Pk:=Option (aB×List bX)
structure Lk where
 l:List Nat
 pk:Pk
def Pk.of(p:Pk)(f:bX):Option aB:=match p with
 |some (d,l)=>bif l.any (bH f)then some d else none
 |none=>none
def Pk.F(p:Pk):aB:=match p with
 |some (d,_)=>d
 |none=>λ_ _=>False
def mx(bs:List Nat)(P:au)(f:bX)(args:Array V)(R:aB)(w:J)(K:aB):Prop:=
 aj P f args w λr d=>(∃c,r=.panicked c/\R (.panicked c) d)\/((∃v,r=ad v)/\kept bs w d/\K r d)
def Fk(s:TS)(cs:List V)(T:aE)(K:V->Option (Nat×Nat)->Option Nat->TS->Prop):Prop:=
 uA (h5 s.L) s.w λb d=>K (.pointer (some (ab b))) (some (s.L.length,0)) none ⟨s.E,s.S,s.L++[(b,cs,T)],d,false⟩
def yO(P:au)(k:Pk)(f:bX)(args:Array V)(z:V)(s:TS)(K:V->J->Prop):Prop:=match k.of f with
 |some j=>mx (h5 s.L) P f args j s.w λd e=>n5 z λv=>d=ad v/\K v e
 |none=>match s.L with
  |[]=>rh P f args z s.w K
  |h=>fH (h5 h) P f args s.w λd e=>n5 z λv=>d=ad v/\K v e
def De(P:au)(j:Lk)(draw:Bool)(o:Oper)(s:TS)(K:V->Option (Nat×Nat)->Option Nat->TS->Prop):Prop:=
 match o.op with
 |.store e h q=>match s.S.at h with
  |some (i,k)=>match s.L[i]?,s.E.val q with
   |some X,some v=>cL (v.cells.size==(match P.info? e with |some i=>i.size|none=>0)&&v.cells.toList.all uE&&(P.info? e).isSome&&Nat.ble (k+v.cells.size) X.2.1.length) (K undef none (some i) ⟨s.E,s.S,s.L.set i (X.1,AQ X.2.1 k v.cells.toList,X.2.2),s.w,true⟩)
   |_,_=>False
  |none=>fB s λs=>match s.L with
   |[]=>hM P o s.E s.w λv d=>K v none none ⟨s.E,s.S,s.L,d,false⟩
   |x=>match s.E.val h,s.E.val q with
    |some (.pointer (some p)),some v=>cL (v.cells.size==(match P.info? e with |some i=>i.size|none=>0)&&v.cells.toList.all uE&&(P.info? e).isSome) (GK (h5 x) p v.cells.toList 0 s.w λd=>K undef none none ⟨s.E,s.S,s.L,d,false⟩)
    |_,_=>False
 |.alloc e=>bif zg j.l o.dst then cL ((P.info? e).bind (·.zero)).isSome (Fk s (zeroOf P e).cells.toList e K)else fB s λs=>hM P o s.E s.w λv d=>K v none none ⟨s.E,s.S,s.L,d,false⟩
 |.box e h=>bif zg j.l o.dst then(match s.E.val h with
   |some v=>Fk s v.cells.toList e K
   |none=>False)else fB s λs=>hM P o s.E s.w λv d=>K v none none ⟨s.E,s.S,s.L,d,false⟩
 |.buildSlice ..|.makeMap ..=>fB s λs=>hM P o s.E s.w λv d=>K v none none ⟨s.E,s.S,s.L,d,false⟩
 |.call {callee:=.value (.func f),args,..}=>fB s λs=>cL (s.E.e0 o) (bif hg P f then yO P j.pk f (args.map s.E.ev) (zeroOf P o.type) s λv d=>K v none none ⟨s.E,s.S,s.L,d,false⟩
   else y6 P f (args.map s.E.ev) (zeroOf P o.type) s.w λv d=>o5 s.L s.w d (K v none none ⟨s.E,s.S,s.L,d,false⟩))
 |.call {callee:=.value (.tmp t),args,..}=>fB s λs=>cL (s.E.e0 o) (match s.E.get? t with
   |some (.func (.func f) first captured)=>cL (hg P f) (yO P j.pk f (first++args.map s.E.ev++captured) (zeroOf P o.type) s λv d=>K v none none ⟨s.E,s.S,s.L,d,false⟩)
   |_=>False)
 |.panic h=>fB s λs=>match s.E.val h,j.pk with
  |some (.iface t v),some (y,_)=>y (.panicked [{v:=.iface t v,recovered:=false}]) s.w
  |_,_=>False
 |_=>fB s λs=>(bif draw then hM else tJ) P o s.E s.w λv d=>o5 s.L s.w d (K v none none ⟨s.E,s.S,s.L,d,false⟩)
def wK(ops:Array Oper)(j:Nat)(w:J):HT->List Prop
 |[]=>[]
 |(i,f,e)::d=>bif jX ops i j||f.isSome then wK ops j w d else e w::wK ops j w d
def gA(ops:Array Oper)(j:Nat):HT->HT
 |[]=>[]
 |(i,f,e)::d=>bif jX ops i j then gA ops j d else(i,f,e)::gA ops j d
def F9(ops:Array Oper)(j:Nat)(s:TS)(H:HT)(K:TS->Prop):Prop:=
 bif H.any (λp=>!(jX ops p.1 j)&&p.2.1.isNone)then fB s λs=>te (wK ops j s.w H) (K s)else K s
def stepT(P:au)(k:Lk)(ops:Array Oper)(draw:Bool)(i:Nat)(o:Oper)(s:TS)(H:HT)(K:TS->HT->Prop):Prop:=
 bif calm P o then CG P o s λv e j s=>K ⟨s.E.put o.dst v,s.S.put o.dst e,s.L,s.w,s.d⟩ (bif draw then j.map (λh=>(i,h))++H else H)
 else De P k draw o s λv e m s=>cL (!((gA ops i H).any λp=>m.isSome&&p.2.1==m)) (F9 ops i s H λs=>K ⟨s.E.put o.dst v,s.S.put o.dst e,s.L,s.w,s.d⟩ (gA ops i H))
def n8(P:au)(e:Lk)(ops:Array Oper)(draw:Bool)(i:Nat)(o:Oper)(d:Nat)(want t:Bool)(s:TS)(H:HT)(K:TS->HT->Prop):Prop:=
 bif (t==want)then stepT P e ops draw i o ⟨(d,.bool t)::s.E,s.S,s.L,s.w,s.d⟩ H K else K ⟨Env.put ((d,.bool t)::s.E) o.dst undef,s.S.put o.dst none,s.L,s.w,s.d⟩ (bif calm P o then H else gA ops i H)
def runT(P:au)(e:Lk)(ops:Array Oper)(draw:Bool)(K:TS->Prop):List Nat->TS->HT->Prop
 |[],s,_=>K s
 |i::l,s,h=>
  match ops[i]? with
  |none=>False
  |some o=>match o.guard with
   |none=>stepT P e ops draw i o s h λk j=>runT P e ops draw K l k j
   |some (x,want)=>match kr ops x with
    |none=>False
    |some q=>match s.E.get? q with
     |some (.bool t)=>bB t (n8 P e ops draw i o q want true s h λk j=>runT P e ops draw K l k j) (n8 P e ops draw i o q want false s h λk j=>runT P e ops draw K l k j)
     |some (.tuple _)=>runT P e ops draw K l ⟨Env.put s.E o.dst undef,s.S.put o.dst none,s.L,s.w,s.d⟩ (bif calm P o then h else gA ops i h)
     |_=>False
def wI(P:au)(j:Lk)(ops:Array Oper)(i:Nat)(s:TS)(H:HT)(e:TS->HT->Prop):Prop:=
 match ops[i]? with
 |none=>False
 |some o=>match o.guard with
  |none=>stepT P j ops true i o s H e
  |some (k,want)=>match kr ops k with
   |none=>False
   |some h=>match s.E.get? h with
    |some (.bool t)=>bB t (n8 P j ops true i o h want true s H e) (n8 P j ops true i o h want false s H e)
    |some (.tuple _)=>e ⟨Env.put s.E o.dst undef,s.S.put o.dst none,s.L,s.w,s.d⟩ (bif calm P o then H else gA ops i H)
    |_=>False
def qJ(P:au)(e:Lk)(ops:Array Oper)(K:TS->Prop):Tr->TS->HT->Prop
 |.nil,s,_=>K s
 |.one i t,s,d=>wI P e ops i s d λj h=>qJ P e ops K t j h
 |.fork a b,s,d=>qJ P e ops K a s d/\qJ P e ops K b s d
def Tr.sq:List Nat->Tr->Tr
 |[],t=>t
 |i::l,t=>.one i (Tr.sq l t)
def yW(s:TS)(K:TS->Prop):Prop:=match s.L,s.d with
 |[],false=>K ⟨s.E,s.S,s.L,s.w.drew,false⟩
 |_,_=>K ⟨s.E,s.S,s.L,s.w,true⟩
section
variable {P:au}
structure Inv(s:TS)(w:J):Prop where
 lc:LC w s.L
 rel:if s.d=true then Fr (·∈h5 s.L) s.w w else w=s.w
 sl:∀t i j,s.S.get? t=some (i,j)->∃X,s.L[i]? =some X/\s.E.get? t=some (.pointer (some ((ab X.1).add j)))
def Inv.fB{s:TS}{w:J}{K:TS->Prop}(h:Inv s w)(e:W.fB s K):Inv ⟨s.E,s.S,s.L,w,false⟩ w/\K ⟨s.E,s.S,s.L,w,false⟩:=by
 refine⟨⟨h.lc,gs,h.sl⟩,?_⟩;unfold W.fB at e;have k:=h.rel;cases j:s.d with
 |true=>
  rw[j]at e k;exact e w (by grind)
 |false=>
  rw[j]at e k;have:w=s.w:=by grind
  obtain⟨q,y,x,A,z⟩:=s
  grind
def Inv.fr{s:TS}{w:J}(e:Inv s w):Fr (·∈h5 s.L) s.w w:=by
 have j:=e.rel;cases h:s.d with
 |true=>grind
 |false=>
  rw[h]at j;have:w=s.w:=by grind
  subst this;exact Fr.refl _ _
def Inv.at{s:TS}{w:J}(d:Inv s w){x:Operand}{i j:Nat}(e:s.S.at x=some (i,j)):∃X,s.L[i]? =some X/\s.E.val x=some (.pointer (some ((ab X.1).add j)))/\w.heap[X.1]? =some (.cells X.2.1.toArray X.2.2 (0,0)):=by
 cases x with
 |tmp t=>
  obtain⟨X,h,k⟩:=d.sl t i j e;exact⟨X,h,k,d.lc.own i X h⟩
 |_=>cases e
def RK:∀{e vs:List V},AU e vs=true->vs.length=e.length
 |[],[],_=>rfl
 |h::e,v::vs,d=>by unfold AU at d;rw[be]at d;simp[RK d.2]
def Lq{T:aE}{cs:List V}{j b:Nat}{ty:aE}{K:V->Prop}(d:Ej P T cs j K):
  ∃v,K v/\∀e:J,e.heap[b]? =some (.cells cs.toArray ty (0,0))->(loadVar T ((ab b).add j)).run P e=.ok v e:=by
 obtain⟨h,d⟩:=dC d;unfold yz at h;have one:∀(v:V),cs[j]? =some v->(q3 P T==some false)=true->∀e:J,e.heap[b]? =some (.cells cs.toArray ty (0,0))->(loadVar T ((ab b).add j)).run P e=.ok v e:=λv y k e w=>
  xD (by grind) (cellAt (p:=ab b) w rfl (by grind))
 cases z:zeroOf P T with
 |agg E=>
  rw[z]at d h;simp only at d h;obtain⟨B,A⟩:=dC d;rw[be]at h;obtain⟨k,q⟩:=h;cases x:P.info? T with
  |none=>grind
  |some i=>
   rw[x]at q;simp at q k;refine⟨_,A,λe w=>Rk k x (by rw[q,RK B];simp) λD v C=>?_⟩;rw[add_add];refine cellAt (p:=ab b) w rfl ?_
   grind
 |nilFunc=>grind
 |_=>
  rw[z]at d h;simp only at d;split at d
  .rename_i v y;exact⟨v,(dC d).2,one v y h⟩
  .exact d.elim
def VC{o:Oper}{E:Env}{w w':J}{K:V->List (J->Prop)->Prop}(d:Bw P o=false)(e:nU P o E w K):nU P o E w' K:=by
 unfold Bw at d;rw[Bool.or_eq_false_iff]at d;obtain⟨h,d⟩:=d;unfold nU at e ⊢;rw[h]at e ⊢;simp only[cond_false]at e ⊢;unfold yR at e ⊢;unfold Tn at d;split at e<;>first |exact e|skip
 all_goals rename_i j
 all_goals rw[j]at d
 .cases d
 .rename_i k _ q;cases k with
  |const c=>grind
  |_=>
   simp only[isConst,cond_false]at d
   grind
 .cases d
 .grind
 grind
def yi(P:au)(o:Oper)(a:Act)(s:TS)(w:J)(v:V)(q:Option (Nat×Nat))(Ss:List (Option Nat×(J->Prop)))(d:TS):Prop:=
 Inv d w/\d.E=s.E/\d.S=s.S/\d.L=s.L/\Calm P o a.eval w v (Ss.map (·.2))/\
 (∀p∈Ss,∀i,p.1=some i->∃X,s.L[i]? =some X/\∀h:J,h.heap[X.1]? =some (.cells X.2.1.toArray X.2.2 (0,0))->p.2 h)/\
 (∀i e,q=some (i,e)->∃X,s.L[i]? =some X/\v=.pointer (some ((ab X.1).add e)))
section
variable {o:Oper} {n:Cx} {a:Act} {s:TS} {w:J} {K:V->Option (Nat×Nat)->List (Option Nat×(J->Prop))->TS->Prop}
def WO(H:∀z b,o.op≠.select z b)(D:Ag n a s.E)(x:Inv s w)(h:ua P o s K):∃v j e d,K v j e d/\yi P o a s w v j e d:=by
 have fin:∀(d:TS),d.E=s.E->d.S=s.S->d.L=s.L->Inv d w->nU P o s.E w (λv e=>K v none (e.map λk=>(none,k)) d)->∃v j e d,K v j e d/\yi P o a s w v j e d:=λd A B C y F=>by
  obtain⟨v,e,I,O⟩:=yS H D F;refine⟨v,none,_,d,I,y,A,B,C,?_,λp T i Q=>?_,λi W G=>by cases G⟩
  .rw [List.map_map];have:((λM:Option Nat×(J->Prop)=>M.2)∘λk=>((none:Option Nat),k))=id:=rfl;rw[this,List.map_id];omega
  grind
 unfold ua at h;cases q:Bw P o with
 |true=>
  rw[q,cond_true]at h;obtain⟨y,N⟩:=x.fB h
  grind
 |false=>
  rw[q,cond_false]at h;exact fin s rfl rfl rfl x (VC q h)
def VA(hs:∀T b,o.op≠.select T b)(B:Ag n a s.E)(y:Inv s w)(d:CG P o s K):∃v q A D,K v q A D/\yi P o a s w v q A D:=by
 have gen:=λd=>WO (P:=P) (K:=K) hs B y d;have same:∀(x:Operand) (q:Nat×Nat),s.S.at x=some q->(∀w,(execOp a.eval o).run P w=.ok (.value (a.eval x)) w\/∀p,a.eval x≠.pointer (some p))->K ((s.E.val x).getD undef) (some q) [] s->∃v q A D,K v q A D/\yi P o a s w v q A D:=λx q e hr h=>by
  obtain⟨X,F,z,_⟩:=y.at (i:=q.1) (j:=q.2) e;have he:=B.val z;refine⟨_,_,_,s,h,y,rfl,rfl,rfl,⟨λO G=>(by cases G),λI _=>?_⟩,λp H=>(by cases H),λi C M=>?_⟩
  .grind
  grind
 unfold CG at d;split at d
 .rename_i L x k;split at d
  .rename_i i C e;obtain⟨X,F,z,Y⟩:=y.at e;rw[F]at d;obtain⟨v,h,hv⟩:=Lq (b:=X.1) (ty:=X.2.2) d;refine⟨v,_,_,s,h,y,rfl,rfl,rfl,⟨λO G=>?_,λI ae=>?_⟩,λp H i' af=>?_,λi C M=>by cases M⟩
   .grind
   .have:(loadVar L ((ab X.1).add C)).run P I=.ok v I:=ae (λw=>(loadVar L ((ab X.1).add C)).run P w=.ok v w) gs;simp[execOp,k,Instr.loadAt,B.val z,Instr.sureAddr,this]
   grind
  grind
 .rename_i x k;split at d
  .rename_i q e;exact same x q e (λw=>.inl (by simp[execOp,k])) d
  grind
 .rename_i x k;split at d
  .rename_i q e;exact same x q e (λw=>.inl (by simp[execOp,k])) d
  grind
 .rename_i x k;split at d
  .rename_i q e;refine same x q e (λw=>?_) d;obtain⟨X,_,z,_⟩:=y.at (i:=q.1) (j:=q.2) e;exact .inl (by simp[execOp,k,B.val z])
  grind
 .rename_i L x f k;split at d
  .rename_i i C e;obtain⟨X,F,z,Y⟩:=y.at e;split at d
   .rename_i ag X' h Q;rw[F]at Q;cases Q;refine⟨_,_,_,s,d,y,rfl,rfl,rfl,⟨λO G=>(by cases G),λI _=>?_⟩,λp H=>(by cases H),λi' j' M=>?_⟩
    .unfold Kp at h;split at h
     .rename_i fs hu;split at h
      .rename_i fd Z;split at h
       .rename_i inf aa;cases N:bH inf.size 0 with
        |true=>grind
        |false=>
         rw[N]at h;cases h;have ac:inf.size≠0:=λW=>by rw[W]at N;cases N
         simp[execOp,k,B.val z,Instr.fieldAt,run_underlying hu,Z,Instr.sureAddr,fieldPlace,sizeOf,typeInfo,aa,ac,add_add]
       grind
      grind
     grind
    grind
   grind
  grind
 grind
end
def sY(s:TS)(K:V->Option (Nat×Nat)->Option Nat->TS->Prop)(v:V)(w':J):Prop:=
 ∃h m d,K v h m d/\Inv d w'/\d.E=s.E/\d.S=s.S/\(∀i X,s.L[i]? =some X->m≠some i->d.L[i]? =some X)/\
  (∀i e,h=some (i,e)->∃X,d.L[i]? =some X/\v=.pointer (some ((ab X.1).add e)))
def Rh{o:Oper}{ρ:Operand->V}{T:aE}{z:V}(h:o.op=.alloc T)(e:(P.info? T).bind (·.zero)=some z)(w:J):
  (execOp ρ o).run P w=.ok (.value (.pointer (some (ab w.heap.size)))) (w.alloc (.cells z.cells T)):=by
 cases d:P.info? T with
 |none=>grind
 |some i=>
  rw[d]at e;have j:i.zero=some z:=e;simp[execOp,h,Instr.alloc,zeroValue,typeInfo,d,j,newVar,newRow]
def Ri{o:Oper}{ρ:Operand->V}{T:aE}{x:Operand}(d:o.op=.box T x)(w:J):
  (execOp ρ o).run P w=.ok (.value (.pointer (some (ab w.heap.size)))) (w.alloc (.cells (ρ x).cells T)):=by simp[execOp,d,Instr.box,newVar,newRow]
def XH{L:Lv}{w w':J}{p:Prop}(d:o5 L w w' p)(H:LC w L):LC w' L/\p:=by
 cases L with
 |nil=>exact⟨LC.nil _,d⟩
 |cons e L=>exact⟨H.o5 d.1,d.2⟩
section
variable {o:Oper} {n:Cx} {a:Act} {s:TS} {w:J} {K:V->Option (Nat×Nat)->Option Nat->TS->Prop}
def I4{f:bX}{args:Array V}{K:V->J->Prop}(j:(execOp a.eval o).run P w=.ok (.enter f args) w)(h:aj P f args w λd e=>∃v,d=ad v/\K v e):jh P o a w K:=by
 intro k;unfold Oper.wp;rw[j];simp only[Oper.upon];refine Calls.mono h λd e q=>?_
 grind
def qM(F:aB)(P:au)(o:Oper)(a:Act)(w:J)(K:V->J->Prop):Prop:=
 ∀e:Exit->Act->J->Prop,(∀c d,F (.panicked c) d->e (.panic c) a d)->o.wp P a w (λh d=>∃v,h=a.put o.dst v/\K v d) e
def jh.p{F:aB}{K:V->J->Prop}(e:jh P o a w K):qM F P o a w K:=λd _=>e d
def I5{A:Pk}{f:bX}{args:Array V}{z:V}{K:V->J->Prop}(q:(execOp a.eval o).run P w=.ok (.enter f args) w)(H:LC w s.L)(x:s.w=w)(d:yO P A f args z s K):qM A.F P o a w λv h=>LC h s.L/\K v h:=by
 unfold yO at d;split at d
 .rename_i D e;intro W M;rw[x]at d;unfold Oper.wp;rw[q];simp only[Oper.upon];refine Calls.mono d λB h j=>?_;have G:A.F=D:=by
   unfold Pk.of at e;split at e
   .rename_i Y l;cases C:l.any (bH f)with
    |true=>rw[C]at e;cases e;rfl
    |false=>rw[C]at e;cases e
   .cases e
  rcases j with⟨c,rfl,S⟩|⟨_,O,y⟩
  .exact M c h (by rw[G];exact S)
  .obtain ⟨v,rfl,k⟩:=qf y;exact⟨v,rfl,H.o5 O,k⟩
 split at d
 .rename_i I;rw[x]at d;refine jh.p (I4 q (Calls.mono d λB h j=>?_));obtain⟨v,rfl,k⟩:=qf j;exact⟨v,rfl,by rw[I];exact LC.nil _,k⟩
 .rw [x]at d;obtain⟨T,Q,N⟩:=d;refine jh.p (I4 q (Calls.mono N λB h j=>?_));obtain⟨E,y⟩:=j;obtain⟨v,rfl,k⟩:=qf y;exact⟨v,rfl,H.fr E Q,k⟩
def ON{cs:Array V}{T:aE}(k:(execOp a.eval o).run P w=.ok (.value (.pointer (some (ab w.heap.size)))) (w.alloc (.cells cs T)))(d:Inv s w)(j:Fk s cs.toList T K):jh P o a w (sY s K):=by
 intro q;unfold Oper.wp;rw[k];simp only[Oper.upon];refine⟨_,rfl,_,_,_,j w.heap.size (w.alloc (.cells cs T)) d.fr.size (size_alloc _ _) (d.fr.g' (Fr.alloc _ _ _)),⟨d.lc.push cs T,gs,λt i h e=>?_⟩,rfl,rfl,λi X z _=>?_,λi h e=>?_⟩
 .obtain ⟨X,x,y⟩:=d.sl t i h e
  grind
 .grind
 .cases e;exact⟨(w.heap.size,cs.toList,T),gs,by rw[jm]⟩
def R0{i j b:Nat}{T:aE}{A:J}{K:J->Prop}:∀(vs:List V) (k:Nat) (w:J) (L:Lv) (cs:List V),LC w L->L[i]? =some (b,cs,T)->j+k+vs.length<=cs.length->Fr (·∈h5 L) A w->
  (∀d,LC d (L.set i (b,AQ cs (j+k) vs,T))->Fr (·∈h5 L) A d->K d)->sA ((ab b).add j) vs k w K
 |[],k,w,L,cs,e,h,z,f,q=>by
  refine q w ?_ f;have:L.set i (b,cs,T)=L:=by
   apply List.ext_getElem?
   grind
  rw[show AQ cs (j+k) []=cs from rfl,this];exact e
 |v::vs,k,w,L,cs,e,h,z,f,q=>by
  simp only[List.length_cons]at z;obtain⟨B,C,D,E⟩:=e.set (v:=v) i (j+k) h io f
  unfold sA;rw[add_add];refine⟨B,C,R0 (i:=i) (T:=T) vs (k+1) _ _ (cs.set (j+k) v) D ?_ (by grind) E λd x y=>?_⟩
  .grind
  .rw [List.set_set]at x;rw[Ck L i h]at y;exact q d x y
def RZ{L:Lv}{p:Addr}{K K':J->Prop}(j:∀h,LC h L->K h->K' h):∀(vs:List V) (i:Nat) (w:J),LC w L->GK (h5 L) p vs i w K->sA p vs i w K'
 |[],_,w,d,e=>j w d e
 |v::vs,i,w,d,e=>by obtain⟨k,q,x,y⟩:=e;exact⟨k,q,RZ j vs (i+1) _ (d.o5 x) y⟩
def Tt{b:Bool}{p:Prop}(d:b=true)(e:p):cL b p:=by subst d;exact e
def Jy{E:Env}{T:aE}{x y:Operand}{p:Addr}{v:V}{K:V->J->Prop}(h:o.op=.store T x y)(j:E.val x=some (.pointer (some p)))(k:E.val y=some v)(e:(v.cells.size==(match P.info? T with |some i=>i.size|none=>0)&&v.cells.toList.all uE&&(P.info? T).isSome)=true)(d:sA p v.cells.toList 0 w λq=>K undef q):hM P o E w K:=by unfold hM;rw[h];simp only[j,k];exact Tt e d
def Rl{ρ:Operand->V}{nx:Next}{w':J}(e:(∃h,o.op=.alloc h)\/(∃h A,o.op=.box h A)\/(∃h l p,o.op=.buildSlice h l p)\/(∃h r,o.op=.makeMap h r))(d:(execOp ρ o).run P w=.ok nx w'):ag w w':=by
 rcases e with⟨h,e⟩|⟨h,A,e⟩|⟨h,l,p,e⟩|⟨h,r,e⟩
 .cases q:(P.info? h).bind (·.zero)with
  |some B=>
   rw[Rh e q]at d;cases d;exact Fr.alloc _ _ _
  |none=>
   exfalso;cases k:P.info? h with
   |none=>simp[execOp,e,Instr.alloc,zeroValue,typeInfo,k]at d
   |some i=>
    rw[k]at q;have D:i.zero=none:=q;simp[execOp,e,Instr.alloc,zeroValue,typeInfo,k,D]at d
 .rw [Ri e]at d;cases d;exact Fr.alloc _ _ _
 .cases j:P.underlying h with
  |none=>simp[execOp,e,Instr.buildSlice,underlying,j]at d
  |some u=>
   cases u<;>first |(simp[execOp,e,Instr.buildSlice,run_underlying j]at d;done)|skip
   rename_i C;cases k:P.info? C with
   |none=>simp[execOp,e,Instr.buildSlice,run_underlying j,sizeOf,typeInfo,k]at d
   |some i=>
    by_cases z:l *i.size>2^24
    .simp [execOp,e,Instr.buildSlice,run_underlying j,sizeOf,typeInfo,k,z]at d
    by_cases y:l *i.size=0
    .simp [execOp,e,Instr.buildSlice,run_underlying j,sizeOf,typeInfo,k,y]at d;split at d
     .simp [newRow]at d;obtain⟨_,rfl⟩:=d;exact Fr.alloc _ _ _
     .simp at d
    .simp [execOp,e,Instr.buildSlice,run_underlying j,sizeOf,typeInfo,k,z,y]at d;cases q:i.zero with
     |none=>simp[zeroValue,typeInfo,k,q]at d
     |some B=>
      simp[zeroValue,typeInfo,k,q]at d;split at d
      .simp [newRow]at d;obtain⟨_,rfl⟩:=d;exact Fr.alloc _ _ _
      .simp at d
 .cases r with
  |none=>
   simp[execOp,e,Instr.makeMap]at d;obtain⟨_,rfl⟩:=d;exact Fr.alloc _ _ _
  |some r=>
   cases j:P.underlying h with
   |none=>simp[execOp,e,Instr.makeMap,underlying,j]at d
   |some u=>
    cases u<;>first |(simp[execOp,e,Instr.makeMap,run_underlying j]at d;done)|skip
    cases x:ρ r with
    |int F B=>
     simp[execOp,e,Instr.makeMap,run_underlying j,x,Go.asInt,Go.asIntOf]at d;obtain⟨_,rfl⟩:=d;exact Fr.alloc _ _ _
    |pointer E=>cases E<;>simp[execOp,e,Instr.makeMap,run_underlying j,x,Go.asInt,Go.asIntOf]at d
    |_=>simp[execOp,e,Instr.makeMap,run_underlying j,x,Go.asInt,Go.asIntOf]at d
def Y7{K:V->J->Prop}(A:∀q b,o.op≠.select q b)(y:Ag n a s.E)(h:(∃d,o.op=.alloc d)\/(∃d B,o.op=.box d B)\/(∃d l p,o.op=.buildSlice d l p)\/(∃d r,o.op=.makeMap d r))(x:hM P o s.E w K):jh P o a w λv k=>ag w k/\K v k:=by
 have e:tT P o s.E w K:=by
  unfold hM at x
  grind
 obtain⟨z,e⟩:=dC e;intro C;unfold Oper.wp;rw[y.execOp A z];generalize j:(execOp s.E.ev o).run P w=r at e;split at e
 .simp only[Oper.upon];exact⟨_,rfl,Rl h j,e⟩
 .simp only[Oper.upon];exact⟨_,rfl,Rl h j,e⟩
 grind
def Wb{draw:Bool}{lv:Lk}(A:(V->J->Prop)->Prop)(hp:∀K,qM lv.pk.F P o a w K->A K)(h1:∀K,(bif draw then hM else tJ) P o s.E w K->A K)(H:∀K ab,(∀v e,K v e->ab v e)->A K->A ab)(hs:∀cs b,o.op≠.select cs b)(D:Ag n a s.E)(k:Inv s w)(d:De P lv draw o s K):A (sY s K):=by
 have G:∀K,jh P o a w K->A K:=λK d=>hp K d.p;have back:∀v e,LC e s.L->K v none none ⟨s.E,s.S,s.L,e,false⟩->sY s K v e:=λv e C h=>⟨none,none,_,h,⟨C,gs,k.sl⟩,rfl,rfl,λi X d _=>d,λi ag hq=>by cases hq⟩;have ae:∀v e,o5 s.L w e (K v none none ⟨s.E,s.S,s.L,e,false⟩)->sY s K v e:=λv e h=>by obtain⟨C,h⟩:=XH h k.lc;exact back v e C h
 have news:((∃q,o.op=.alloc q)\/(∃q B,o.op=.box q B)\/(∃q l p,o.op=.buildSlice q l p)\/(∃q r,o.op=.makeMap q r))->fB s (λs=>hM P o s.E s.w λv e=>K v none none ⟨s.E,s.S,s.L,e,false⟩)->A (sY s K):=λj d=>by obtain⟨_,y⟩:=k.fB d;exact H _ _ (λv e ⟨f,h⟩=>back v e (k.lc.fr (M:=λ_=>False) f (λ_ _ d=>d)) h) (G _ (Y7 hs D j y))
 unfold De at d;split at d
 .rename_i q B ar j;split at d
  .rename_i i ag I;obtain⟨X,O,g2,_⟩:=k.at I;split at d
   .rename_i X' v af Y;rw[O]at af;cases af;obtain⟨z,h⟩:=dC d;rw[be]at z;obtain⟨z,hb⟩:=z;have hb:=Nat.le_of_ble_eq_true hb;refine G _ (nX hs D (Jy j g2 Y z ?_));refine R0 (i:=i) (T:=X.2.2) _ 0 w s.L X.2.1 k.lc O (by simpa using hb) k.fr λe q1 q2=>?_;refine⟨none,some i,_,h,⟨q1,?_,λt Z j' ht=>?_⟩,rfl,rfl,λZ ac hY an=>?_,λi ag hq=>by cases hq⟩
    .simp only[if_true];rw[Ck s.L i O];exact q2
    .obtain ⟨ac,y1,y2⟩:=k.sl t Z j' ht;by_cases N:i=Z
     .subst N;rw[O]at y1;cases y1;exact⟨_,List.getElem?_set_self (List.getElem?_eq_some_iff.1 O).1,y2⟩
     .exact ⟨ac,by rw[List.getElem?_set_ne N];exact y1,y2⟩
    .have N:i≠Z:=λN=>an (by rw[N]);show(s.L.set i _)[Z]? =_;rw[List.getElem?_set_ne N];exact hY
   .exact d.elim
  .obtain ⟨_,y⟩:=k.fB d;simp only at y;split at y
   .rename_i hL;exact H _ _ (λv e h=>back v e (hL▸LC.nil _) h) (G _ (nX hs D y))
   .split at y
    .rename_i p v I hy;obtain⟨z,h⟩:=dC y;exact H _ _ (λv e h=>h) (G _ (nX hs D (Jy j I hy z (RZ (K':=sY s K undef) (λe C h=>back _ e C h) _ _ _ k.lc h))))
    .exact y.elim
 .rename_i q j;cases W:zg lv.l o.dst with
  |true=>
   rw[W,cond_true]at d;obtain⟨hz,d⟩:=dC d;obtain⟨aq,hz⟩:=Option.isSome_iff_exists.1 hz;have:zeroOf P q=aq:=by unfold zeroOf;rw[hz];rfl
   rw[this]at d;exact G _ (ON (Rh j hz w) k d)
  |false=>
   rw[W,cond_false]at d;exact news (.inl ⟨q,j⟩) d
 .rename_i q B j;cases W:zg lv.l o.dst with
  |true=>
   rw[W,cond_true]at d;split at d
   .rename_i v Y;have:=Ri (P:=P) (ρ:=a.eval) j w;rw[D.val Y]at this;exact G _ (ON this k d)
   .exact d.elim
  |false=>
   rw[W,cond_false]at d;exact news (.inr (.inl ⟨q,B,j⟩)) d
 .rename_i q l p j;exact news (.inr (.inr (.inl ⟨q,l,p,j⟩))) d
 .rename_i q r j;exact news (.inr (.inr (.inr ⟨q,r,j⟩))) d
 .rename_i f args ap j;obtain⟨I',d⟩:=k.fB d;obtain⟨z,d⟩:=dC d;have aa:args.map a.eval=args.map s.E.ev:=D.args λB I=>List.all_eq_true.1 z B (by rw[j];simp[Op.operands,Call.operands,I]);cases Q:hg P f with
  |true=>
   rw[Q,cond_true]at d;exact H _ _ (λv e ⟨C,h⟩=>back v e C h) (hp _ (I5 (s:=⟨s.E,s.S,s.L,w,false⟩) (by simp[execOp,j,resolve,Act.eval,Deferred.ofValue,invoke,aa,tv Q]) k.lc rfl d))
  |false=>
   rw[Q,cond_false]at d;unfold y6 at d;obtain⟨v,e,hr,h⟩:=qf d;refine H _ _ ae (G _ λah=>?_);unfold Oper.wp;have:(execOp a.eval o).run P w=.ok (.value v) e:=by simp[execOp,j,resolve,Act.eval,Deferred.ofValue,invoke,aa,hr]
   rw[this];simp only[Oper.upon];exact⟨_,rfl,h⟩
 .rename_i t args ap j;obtain⟨I',d⟩:=k.fB d;obtain⟨z,d⟩:=dC d;have aa:args.map a.eval=args.map s.E.ev:=D.args λB I=>List.all_eq_true.1 z B (by rw[j];simp[Op.operands,Call.operands,I]);split at d
  .rename_i f first captured hf
   obtain⟨Q,d⟩:=dC d;have am:a.eval (.tmp t)=.func (.func f) first captured:=D.val (x:=.tmp t) hf
   exact H _ _ (λv e ⟨C,h⟩=>back v e C h) (hp _ (I5 (s:=⟨s.E,s.S,s.L,w,false⟩) (by simp[execOp,j,resolve,am,Deferred.ofValue,invoke,aa,tv Q]) k.lc rfl d))
  .exact d.elim
 .rename_i B j;obtain⟨I',y⟩:=k.fB d;split at y
  .rename_i t v R l Y ao;refine hp _ λah hQ=>?_;have hF:lv.pk.F=R:=by rw[ao];rfl
   rw[hF]at hQ;have ak:a.eval B=.iface t v:=D.val Y;unfold Oper.wp;have:(execOp a.eval o).run P w=.halt (.panic (.iface t v)) w:=by simp[execOp,j,ak,Instr.panic,goPanic,Sem.run]
   rw[this];exact hQ _ w y
  .exact y.elim
 .obtain ⟨_,y⟩:=k.fB d;exact H _ _ ae (h1 _ y)
end
def HI(s:TS)(H:HT)(w:J):Prop:=∀p∈H,p.2.2 w/\∀i,p.2.1=some i->∃X,s.L[i]? =some X/\∀d:J,d.heap[X.1]? =some (.cells X.2.1.toArray X.2.2 (0,0))->p.2.2 d
def fe(H:HT):ep:=H.map λp=>(p.1,p.2.2)
def ue{ops:Array Oper}{j:Nat}:∀d:HT,cV ops j (fe d)=fe (gA ops j d)
 |[]=>rfl
 |(i,f,e)::d=>by
  show cV ops j ((i,e)::fe d)=fe (gA ops j ((i,f,e)::d));unfold cV gA;cases jX ops i j
  .simp only[cond_false];rw[ue d];rfl
  .simp only[cond_true];exact ue d
def oc{ops:Array Oper}{j:Nat}:∀{H:HT} {p},p∈gA ops j H->p∈H/\jX ops p.1 j=false
 |(i,f,h)::H,p,d=>by
  unfold gA at d;cases e:jX ops i j with
  |true=>
   rw[e,cond_true]at d;exact⟨cJ _ (oc d).1,(oc d).2⟩
  |false=>
   rw[e,cond_false]at d;rcases aF.1 d with rfl|d
   .grind
   .exact ⟨cJ _ (oc d).1,(oc d).2⟩
def KI{ops:Array Oper}{j:Nat}{w:J}:∀{H:HT} {p},p∈H->jX ops p.1 j=false->p.2.1=none->p.2.2 w∈wK ops j w H
 |(i,f,k)::H,p,d,h,e=>by
  unfold wK;rcases aF.1 d with rfl|d
  .grind
  .have:=KI (w:=w) d h e
   grind
def Inv.put{s:TS}{w:J}(h:Inv s w)(d:Option Nat){v:V}{q:Option (Nat×Nat)}(z:∀i e,q=some (i,e)->∃X,s.L[i]? =some X/\v=.pointer (some ((ab X.1).add e))):Inv ⟨s.E.put d v,s.S.put d q,s.L,s.w,s.d⟩ w:=by
 refine⟨h.lc,h.rel,λt i e j=>?_⟩;cases d with
 |none=>exact h.sl t i e j
 |some d=>
  simp only[Sv.put,Sv.get?]at j;simp only[Env.put,Env.get?];cases k:bH d t with
  |true=>
   grind
  |false=>
   rw[k,cond_false]at j;obtain⟨X,x,y⟩:=h.sl t i e j
   grind
def aaC{ops:Array Oper}{j:Nat}{s e:TS}{w w':J}{m:Option Nat}{H:HT}{K:TS->Prop}(G:HI s H w)(x:Inv e w')(N:∀i X,s.L[i]? =some X->m≠some i->e.L[i]? =some X)(O:(!((gA ops j H).any λp=>m.isSome&&p.2.1==m))=true)(k:F9 ops j e H K):
  ∃h,K h/\Inv h w'/\h.E=e.E/\h.S=e.S/\h.L=e.L/\HI h (gA ops j H) w':=by
 have A:∀p∈gA ops j H,∀i,p.2.1=some i->∃X,e.L[i]? =some X/\∀w':J,w'.heap[X.1]? =some (.cells X.2.1.toArray X.2.2 (0,0))->p.2.2 w':=λp d i z=>by
  obtain⟨X,B,C⟩:=(G p (oc d).1).2 i z
  grind
 have own:∀p∈gA ops j H,∀i,p.2.1=some i->p.2.2 w':=λp d i z=>by obtain⟨X,B,C⟩:=A p d i z;exact C w' (x.lc.own i X B)
 unfold F9 at k;cases q:H.any (λp=>!(jX ops p.1 j)&&p.2.1.isNone)with
 |true=>
  rw[q,cond_true]at k;obtain⟨D,F⟩:=x.fB k;obtain⟨I,M⟩:=tf F;refine⟨_,M,D,rfl,rfl,rfl,λp d=>⟨?_,A p d⟩⟩;cases y:p.2.1 with
  |none=>exact I _ (KI (oc d).1 (oc d).2 y)
  |some i=>grind
 |false=>
  rw[q,cond_false]at k;refine⟨e,k,x,rfl,rfl,rfl,λp d=>⟨?_,A p d⟩⟩;cases y:p.2.1 with
  |none=>
   exfalso;rw[List.any_eq_false]at q;exact q p (oc d).1 (by rw[(oc d).2,y];rfl)
  |some i=>grind
section
variable {ops:Array Oper} {n:Cx} {lv:Lk}
def GO{o:Oper}{a:Act}{s:TS}{w:J}{H:HT}{K:TS->HT->Prop}{draw:Bool}{i:Nat}(A:(V->J->Prop)->Prop)(W:∀K,qM lv.pk.F P o a w K->A K)(I:∀K,(bif draw then hM else tJ) P o s.E w K->A K)(k:∀K j,(∀v d,K v d->j v d)->A K->A j)(hs:∀B b,o.op≠.select B b)(N:Ag n a s.E)(x:Inv s w)(L:HI s H w)(Q:calm P o=false)(e:stepT P lv ops draw i o s H K):
  A λv d=>∃h,K h (gA ops i H)/\Inv h d/\HI h (gA ops i H) d/\h.E=s.E.put o.dst v:=by unfold stepT at e;rw[Q,cond_false]at e;refine k _ _ (λv d S=>?_) (Wb A W I k hs N x e);obtain⟨ab,m,s1,T,y,C,e2,M,Y⟩:=S;obtain⟨O,Z⟩:=dC T;obtain⟨s2,k2,z,D,f2,G,q⟩:=aaC L y M O Z;refine⟨_,k2,z.put o.dst λi aa e=>?_,q,by rw[D,C]⟩;rw[G];exact Y i aa e
def R4{o:Oper}{a:Act}{s:TS}{w:J}{H:HT}{K:TS->HT->Prop}{draw:Bool}{i:Nat}(O:∀B b,o.op≠.select B b)(I:Ag n a s.E)(z:Inv s w)(F:HI s H w)(M:calm P o=true)(j:stepT P lv ops draw i o s H K):
  ∃v h e k,K e k/\Inv e w/\HI e k w/\e.E=s.E.put o.dst v/\Calm P o a.eval w v h/\fe k=(bif draw then h.map (λq=>(i,q))++fe H else fe H):=by
 unfold stepT at j;rw[M,cond_true]at j;obtain⟨v,ab,h,e,N,A,C,Q,D,x,T,W⟩:=VA O I z j;refine⟨v,h.map (·.2),_,_,N,A.put o.dst λi Z j=>?_,λp d=>?_,by rw[C],x,?_⟩
 .grind
 .have aa:p∈H->p.2.2 w/\∀i,p.2.1=some i->∃X,e.L[i]? =some X/\∀y:J,y.heap[X.1]? =some (.cells X.2.1.toArray X.2.2 (0,0))->p.2.2 y:=λd=>by rw[D];exact F p d
  cases draw with
  |false=>grind
  |true=>
   rcases aK.1 d with d|d
   .obtain ⟨q,G,rfl⟩:=List.mem_map.1 d;refine⟨x.1 _ (List.mem_map.2 ⟨q,G,rfl⟩),λY S=>?_⟩
    grind
   grind
 .cases draw with
  |false=>rfl
  |true=>simp[fe]
def DS{i d:Nat}{o:Oper}{want t:Bool}{s:TS}{H:HT}{K:TS->HT->Prop}{draw:Bool}(e:bB t (n8 P lv ops draw i o d want true s H K) (n8 P lv ops draw i o d want false s H K)):n8 P lv ops draw i o d want t s H K:=by
 cases t
 .exact e
 .exact e
def Inv.same{s:TS}{w:J}(e:Inv s w){d:Nat}{v:V}(hd:s.E.get? d=some v):Inv ⟨(d,v)::s.E,s.S,s.L,s.w,s.d⟩ w:=by
 refine⟨e.lc,e.rel,λt i q k=>?_⟩;obtain⟨X,j,x⟩:=e.sl t i q k;refine⟨X,j,?_⟩;simp only[Env.get?];by_cases h:d=t
 .grind
 .have y:bH d t=false:=by rw[<-Bool.not_eq_true,eA];exact h
  grind
def Inv.skip{s:TS}{w:J}(e:Inv s w)(d:Option Nat):Inv ⟨s.E.put d undef,s.S.put d none,s.L,s.w,s.d⟩ w:=e.put d λi j h=>by cases h
def HI.skip{s d:TS}{w:J}{H:HT}(h:HI s H w)(e:d.L=s.L):HI d H w:=λp j=>by rw[e];exact h p j
def HI.drop{s:TS}{w:J}{H:HT}{j:Nat}(d:HI s H w):HI s (gA ops j H) w:=λp e=>d p (oc e).1
def HI.held{s:TS}{w:J}{H:HT}(d:HI s H w):∀p∈fe H,p.2 w:=λp e=>by obtain⟨j,h,rfl⟩:=List.mem_map.1 e;exact(d j h).1
def s9(n:Cx)(F:aB)(Q:Exit->Act->J->Prop):Prop:=∀c (a:Act) w,a.defers=n.ds->F (.panicked c) w->Q (.panic c) a w
def Hn(F:aB)(P:au)(n:Cx)(o:Oper)(a:Act)(w:J)(K:V->J->Prop):Prop:=
 ∀e:Exit->Act->J->Prop,(∀c d,F (.panicked c) d->e (.panic c) a d)->o.wpIn (FW n) 0 P a w (λh d=>∃v,h=a.put o.dst v/\K v d) e
def ac9{F:aB}{i:Nat}{o:Oper}{a:Act}{w:J}{Kv:V->J->Prop}{K':Act->J->Prop}{Q:Exit->Act->J->Prop}(h:s9 n F Q)(hd:a.defers=n.ds)(q:ops[i]? =some o)(y:ct o (yielded ops a.tmps)=true)(e:Hn F P n o a w Kv)(k:∀v d,Kv v d->K' (a.put o.dst v) d):wpOpIn (FW n) 0 P ops Q i K' a w:=by unfold wpOpIn;simp only[q,y,if_true];exact Oper.wpIn_mono (λz d=>by rintro⟨v,rfl,x⟩;exact k v d x) (e Q λc d j=>h c a d hd j)
def To{F:aB}{i:Nat}{o:Oper}{a:Act}{w:J}{Kv:V->J->Prop}{K':Act->J->Prop}{Q:Exit->Act->J->Prop}(h:s9 n F Q)(hd:a.defers=n.ds)(q:ops[i]? =some o)(y:ct o (yielded ops a.tmps)=true)(e:qM F P o a w Kv)(k:∀v d,Kv v d->K' (a.put o.dst v) d):wpOp P ops Q i K' a w:=by unfold wpOp;simp only[q,y,if_true];exact .inl (Oper.wp_mono (λz d=>by rintro⟨v,rfl,x⟩;exact k v d x) (e Q λc d j=>h c a d hd j))
def AG{K:TS->Prop}{Q:Exit->Act->J->Prop}(I:s9 n lv.pk.F Q)(k:du n ops=true):∀(l:List Nat) (s:TS) (w:J) (a:Act),Ag n a s.E->Inv s w->runT P lv ops false K l s []->(∀x y W,Ag n W x.E->Inv x y->K x->Q .normal W y)->wpOpsIn (FW n) 0 P ops Q l a w
 |[],s,w,a,h,q,e,G=>G s w a h q e
 |i::l,s,w,a,h,q,e,G=>by
  have aa:=Region.noSelect_spec (ops:=ops) (by unfold du at k;rw[be]at k;exact k.1);unfold runT at e;cases j:ops[i]? with
  |none=>rw[j]at e;exact e.elim
  |some o=>
   rw[j]at e;simp only at e;have step:∀(s:TS),Ag n a s.E->Inv s w->ct o (yielded ops a.tmps)=true->stepT P lv ops false i o s [] (λx H=>runT P lv ops false K l x H)->wpOpsIn (FW n) 0 P ops Q (i::l) a w:=λs h q O e=>by
    rw[wpOpsIn_cons];cases hc:calm P o with
    |true=>
     obtain⟨v,Ss,x,H,k1,T,_,Y,ac,af⟩:=R4 (λC b=>aa i o C b j) h q (λp hp=>by cases hp) hc e;have:H=[]:=by cases H with |nil=>rfl|cons am l=>cases af
     subst this;refine Hj (Kv:=λv' y=>v'=v/\y=w) j O ?_ ?_
     .refine jh.in (uG k j) λA=>?_;unfold Oper.wp;rw[ac.2 w ac.1];exact⟨v,rfl,rfl,rfl⟩
     .rintro v' y ⟨rfl,rfl⟩;exact AG I k l x _ _ (by rw[Y];exact h.put _ (g3 k j)) T k1 G
    |false=>
     refine ac9 I h.defers j O (GO (draw:=false) (s:=s) (Hn lv.pk.F P n o a w) (λK Z A hq=>Hl (uG k j) (Z A hq)) (λK Z A _=>Jz (λC b=>aa i o C b j) (uG k j) h Z A) (λK K' ag hA A hq=>Oper.wpIn_mono (λW y ⟨v,ae,hv⟩=>⟨v,ae,ag v y hv⟩) (hA A hq)) (λC b=>aa i o C b j) h q (λp hp=>by cases hp) hc e) λv y ⟨x,k1,T,_,Y⟩=>?_;exact AG I k l x y _ (by rw[Y];exact h.put v (g3 k j)) T k1 G
   have skip:∀(s:TS),Ag n a s.E->Inv s w->ct o (yielded ops a.tmps)=false->runT P lv ops false K l ⟨s.E.put o.dst undef,s.S.put o.dst none,s.L,s.w,s.d⟩ []->wpOpsIn (FW n) 0 P ops Q (i::l) a w:=λs h q O e=>by rw[wpOpsIn_cons];unfold wpOpIn;simp only[j,O];exact⟨λ_ _=>trivial,AG I k l _ w _ (h.put undef (g3 k j)) (q.skip o.dst) e G⟩
   have ab:(bif calm P o then([]:HT)else gA ops i [])=[]:=by cases calm P o<;>rfl
   cases B:o.guard with
   |none=>
    rw[B]at e;exact step s h q (by simp[ct,B]) e
   |some jw=>
    obtain⟨ah,want⟩:=jw;rw[B]at e;simp only at e;cases N:kr ops ah with
    |none=>rw[N]at e;exact e.elim
    |some ak=>
     rw[N]at e;simp only at e;split at e
     .rename_i t z;have hy:=sR h N z;have D:=DS e;unfold n8 at D;cases M:(t==want)with
      |true=>
       rw[M,cond_true]at D;exact step _ (h.same z) (q.same z) (by simp[ct,B,hy];simpa using M) D
      |false=>
       rw[M,cond_false,ab]at D;exact skip _ (h.same z) (q.same z) (by simp[ct,B,hy];simpa using M) D
     .rename_i vs z;rw[ab]at e;exact skip s h q (by simp[ct,B,sS h N z]) e
     .exact e.elim
def fF(n:Cx)(F:aB)(K:TS->Prop):Exit->Act->J->Prop
 |.normal,a,d=>∃s,Ag n a s.E/\Inv s d/\K s
 |.panic c,a,d=>a.defers=n.ds/\F (.panicked c) d
 |_,_,_=>False
def fF.q{F:aB}{K:TS->Prop}:s9 n F (fF n F K):=λ_ _ _ d e=>⟨d,e⟩
def fF.put{F:aB}{K:TS->Prop}{c:List PanicEntry}{a:Act}{w:J}{d:Option Nat}{v:V}(e:fF n F K (.panic c) (a.put d v) w):fF n F K (.panic c) a w:=by cases d<;>exact e
def abq{i:Nat}{o:Oper}{a:Act}{w:J}{H:ep}{e:Array Bool}{fuel:Nat}{Q:Exit->Act->J->Prop}(h:du n ops=true)(j:ops[i]? =some o)(d:(bif calm P o then Region.free .any ops e i&&(dY .any ops e).contains i else dY .any ops e==[i])=true)(B:∀c a w,Q (.panic c) (a.put o.dst undef) w->Q (.panic c) a w)(q:∀p∈H,p.2 w)(A:ct o (yielded ops a.tmps)=false)(next:eh P ops Q fuel (bif calm P o then H else cV ops i H) (e.setIfInBounds i true) (a.put o.dst undef) w):eh P ops Q (fuel+1) H e a w:=by
 have E:=Region.noSelect_spec (ops:=ops) (by unfold du at h;rw[be]at h;exact h.1);cases x:calm P o with
 |true=>
  rw[x]at d next
  simp only[cond_true]at d next
  rw[be]at d;exact Bx (v:=undef) (Ss:=[]) j E B fuel H e a w (Region.free_spec j d.1) (by simpa using d.2) (.inr ⟨A,rfl⟩) (λF C=>(by cases C)) q (by simpa using next)
 |false=>
  rw[x]at d next
  simp only[cond_false]at d next
  have z:dY .any ops e=[i]:=by simpa using d
  refine λ_=>⟨λk=>(by rw[z]at k;cases k),λG y=>?_⟩;rw[z]at y;obtain rfl:=b'.1 y;unfold wpOp;simp only[j,A];exact⟨λp D=>q p (fy.1 D).1,next⟩
def Xo{o:Oper}{i:Nat}{H:HT}:(bif calm P o then fe H else cV ops i (fe H))=fe (bif calm P o then H else gA ops i H):=by
 cases calm P o
 .exact ue H
 .rfl
def HI.AW{o:Oper}{i:Nat}{s h:TS}{w:J}{H:HT}(d:HI s H w)(e:h.L=s.L):HI h (bif calm P o then H else gA ops i H) w:=by
 cases calm P o
 .exact d.drop.skip e
 .exact d.skip e
def Xe(B:du n ops=true){K:TS->Prop}{i:Nat}{o:Oper}{s:TS}{w:J}{H:HT}{a:Act}{Q:TS->HT->Prop}{y:Array Bool}{fuel:Nat}(k:ops[i]? =some o)(G:(bif calm P o then Region.free .any ops y i&&(dY .any ops y).contains i else dY .any ops y==[i])=true)(h:Ag n a s.E)(x:Inv s w)(j:HI s H w)(e:wI P lv ops i s H Q)(next:∀a' A z I,Ag n a' A.E->Inv A z->HI A I z->Q A I->eh P ops (fF n lv.pk.F K) fuel (fe I) (y.setIfInBounds i true) a' z):eh P ops (fF n lv.pk.F K) (fuel+1) (fe H) y a w:=by
 have Z:=Region.noSelect_spec (ops:=ops) (by unfold du at B;rw[be]at B;exact B.1);have step:∀(s:TS),Ag n a s.E->Inv s w->HI s H w->ct o (yielded ops a.tmps)=true->stepT P lv ops true i o s H Q->eh P ops (fF n lv.pk.F K) (fuel+1) (fe H) y a w:=λs h x j ae e=>by
  cases W:calm P o with
  |true=>
   rw[W,cond_true,be]at G;obtain⟨v,af,A,I,k1,I',O,e1,ac,ab⟩:=R4 (λM b=>Z i o M b k) h x j W e;refine Bx (v:=v) (Ss:=af) k Z (λ_ _ _ e=>e.put) fuel (fe H) y a w (Region.free_spec k G.1) (by simpa using G.2) (.inl ⟨ae,λz ak=>ac.2 z ak⟩) ac.1 j.held ?_;rw[cond_true]at ab;rw[<-ab];exact next _ A w I (by rw[e1];exact h.put v (g3 B k)) I' O k1
  |false=>
   rw[W,cond_false]at G;have hr:dY .any ops y=[i]:=by simpa using G
   refine λ_=>⟨λh0=>(by rw[hr]at h0;cases h0),λaa hj=>?_⟩;rw[hr]at hj;obtain rfl:=b'.1 hj;refine To fF.q h.defers k ae (GO (draw:=true) (s:=s) (qM lv.pk.F P o a w) (λK hK=>hK) (λK hK=>(nX (λM b=>Z aa o M b k) h hK).p) (λK K' ah hA Q' hq=>Oper.wp_mono (λa' z ⟨v,ag,hv⟩=>⟨v,ag,ah v z hv⟩) (hA Q' hq)) (λM b=>Z aa o M b k) h x j W e) λv z ⟨A,k1,I',O,e1⟩=>?_;rw[ue];exact⟨O.held,next _ A z _ (by rw[e1];exact h.put v (g3 B k)) I' O k1⟩
 have skip:∀(s:TS),Ag n a s.E->Inv s w->HI s H w->ct o (yielded ops a.tmps)=false->Q ⟨s.E.put o.dst undef,s.S.put o.dst none,s.L,s.w,s.d⟩ (bif calm P o then H else gA ops i H)->eh P ops (fF n lv.pk.F K) (fuel+1) (fe H) y a w:=λs h x j hw e=>by refine abq B k G (λ_ _ _ e=>e.put) j.held hw ?_;rw[Xo];exact next _ _ w _ (h.put undef (g3 B k)) (x.skip o.dst) (j.AW rfl) e
 unfold wI at e;rw[k]at e;simp only at e;cases D:o.guard with
 |none=>
  rw[D]at e;exact step s h x j (by simp[ct,D]) e
 |some jw=>
  obtain⟨aa,want⟩:=jw;rw[D]at e;simp only at e;cases Y:kr ops aa with
  |none=>rw[Y]at e;exact e.elim
  |some am=>
   rw[Y]at e;simp only at e;split at e
   .rename_i t C;have hy:=sR h Y C;have N:=DS e;unfold n8 at N;cases T:(t==want)with
    |true=>
     rw[T,cond_true]at N;exact step _ (h.same C) (x.same C) (j.skip rfl) (by simp[ct,D,hy];simpa using T) N
    |false=>
     rw[T,cond_false]at N;exact skip _ (h.same C) (x.same C) (j.skip rfl) (by simp[ct,D,hy];simpa using T) N
   .rename_i vs C;exact skip s h x j (by simp[ct,D,sS h Y C]) e
   .exact e.elim
def Xf(G:du n ops=true){K:TS->Prop}{i:Nat}{o:Oper}{s:TS}{w:J}{H:HT}{a:Act}{I:TS->HT->Prop}{O:Array Bool}{fuel:Nat}(z:ops[i]? =some o)(Z:calm P o=false)(j:Ag n a s.E)(y:Inv s w)(x:HI s H w)(e:wI P lv ops i s H I)(next:∀k C h Q,Ag n k C.E->Inv C h->HI C Q h->I C Q->eh P ops (fF n lv.pk.F K) fuel (fe Q) (O.setIfInBounds i true) k h):
  wpOp P ops (fF n lv.pk.F K) i (λk h=>(∀p∈cV ops i (fe H),p.2 h)/\eh P ops (fF n lv.pk.F K) fuel (cV ops i (fe H)) (O.setIfInBounds i true) k h) a w:=by
 have aa:=Region.noSelect_spec (ops:=ops) (by unfold du at G;rw[be]at G;exact G.1);have step:∀(s:TS),Ag n a s.E->Inv s w->HI s H w->ct o (yielded ops a.tmps)=true->stepT P lv ops true i o s H I->wpOp P ops (fF n lv.pk.F K) i (λk h=>(∀p∈cV ops i (fe H),p.2 h)/\eh P ops (fF n lv.pk.F K) fuel (cV ops i (fe H)) (O.setIfInBounds i true) k h) a w:=λs j y x ae e=>by refine To fF.q j.defers z ae (GO (draw:=true) (s:=s) (qM lv.pk.F P o a w) (λK W=>W) (λK W=>(nX (λT b=>aa i o T b z) j W).p) (λK K' ac hA Q' hq=>Oper.wp_mono (λk h ⟨v,ab,hv⟩=>⟨v,ab,ac v h hv⟩) (hA Q' hq)) (λT b=>aa i o T b z) j y x Z e) λv h ⟨C,k1,I',Y,e1⟩=>?_;rw[ue];exact⟨Y.held,next _ C h _ (by rw[e1];exact j.put v (g3 G z)) I' Y k1⟩
 have skip:∀(s:TS),Ag n a s.E->Inv s w->HI s H w->ct o (yielded ops a.tmps)=false->I ⟨s.E.put o.dst undef,s.S.put o.dst none,s.L,s.w,s.d⟩ (bif calm P o then H else gA ops i H)->wpOp P ops (fF n lv.pk.F K) i (λk h=>(∀p∈cV ops i (fe H),p.2 h)/\eh P ops (fF n lv.pk.F K) fuel (cV ops i (fe H)) (O.setIfInBounds i true) k h) a w:=λs j y x hw e=>by refine GC z x.held hw ?_;rw[Z,cond_false]at e;rw[ue];exact next _ _ w _ (j.put undef (g3 G z)) (y.skip o.dst) (x.drop.skip rfl) e
 unfold wI at e;rw[z]at e;simp only at e;cases B:o.guard with
 |none=>
  rw[B]at e;exact step s j y x (by simp[ct,B]) e
 |some jw=>
  obtain⟨af,want⟩:=jw;rw[B]at e;simp only at e;cases N:kr ops af with
  |none=>rw[N]at e;exact e.elim
  |some ag=>
   rw[N]at e;simp only at e;split at e
   .rename_i t A;have hy:=sR j N A;have D:=DS e;unfold n8 at D;cases M:(t==want)with
    |true=>
     rw[M,cond_true]at D;exact step _ (j.same A) (y.same A) (x.skip rfl) (by simp[ct,B,hy];simpa using M) D
    |false=>
     rw[M,cond_false]at D;exact skip _ (j.same A) (y.same A) (x.skip rfl) (by simp[ct,B,hy];simpa using M) D
   .rename_i vs A;exact skip s j y x (by simp[ct,B,sS j N A]) e
   .exact e.elim
def xY(G:du n ops=true){K:TS->Prop}:∀(t:Tr) (alt:Bool) (e:Array Bool) (s:TS) (w:J) (H:HT) (a:Act) (m:Nat),iD P ops t alt e=true->Ag n a s.E->Inv s w->HI s H w->qJ P lv ops K t s H->
  (alt=false->t.len=m->eh P ops (fF n lv.pk.F K) m (fe H) e a w)/\
  (alt=true->t.len=m+1->∀i∈t.jT,wpOp P ops (fF n lv.pk.F K) i (λy k=>(∀p∈cV ops i (fe H),p.2 k)/\eh P ops (fF n lv.pk.F K) m (cV ops i (fe H)) (e.setIfInBounds i true) y k) a w)
 |.nil,alt,e,s,w,H,a,m,d,A,x,D,h=>by
  unfold iD at d;rw[be]at d;refine⟨λ_ j=>?_,λz=>?_⟩
  .subst j;exact λ_=>⟨by simpa using d.2,s,A,x,h⟩
  .subst z;simp at d
 |.one i t,alt,e,s,w,H,a,m,d,A,x,D,h=>by
  unfold iD at d;rw[be]at d;obtain⟨d,ab⟩:=d;cases L:ops[i]? with
  |none=>rw[L]at d;cases d
  |some o=>
   rw[L]at d;simp only at d;unfold qJ at h;refine⟨λz j=>?_,λz j ae hj=>?_⟩
   .subst z j;exact Xe G L d A x D h λy Z k N O S Q T=>(xY G t false _ Z k N y _ ab O S Q T).1 rfl rfl
   .subst z;rw[cond_true]at d;obtain rfl:=b'.1 hj;have W:t.len=m:=by simpa[Tr.len]using j
    exact Xf G L (by simpa using d) A x D h λy Z k N O S Q T=>(xY G t false _ Z k N y _ ab O S Q T).1 rfl W
 |.fork C M,alt,e,s,w,H,a,m,d,A,x,D,h=>by
  unfold iD at d;simp only[be]at d;obtain⟨hr,hl,Y,hy⟩:=d;rw[eA]at hl;unfold qJ at h;have both:∀q,C.len=q+1->∀i∈(Tr.fork C M).jT,wpOp P ops (fF n lv.pk.F K) i (λy k=>(∀p∈cV ops i (fe H),p.2 k)/\eh P ops (fF n lv.pk.F K) q (cV ops i (fe H)) (e.setIfInBounds i true) y k) a w:=λq I i B=>by
   rcases aK.1 B with B|B
   .exact (xY G C true e s w H a q Y A x D h.1).2 rfl I i B
   .exact (xY G M true e s w H a q hy A x D h.2).2 rfl (hl▸I) i B
  refine⟨λz j=>?_,λ_ j=>both m j⟩;subst z;obtain⟨q,I⟩:=G9 C e Y;have W:m=q+1:=by rw[<-j,<-I];rfl
  subst W;have aa:dY .any ops e=(Tr.fork C M).jT:=by simpa using hr
  have ac:(Tr.fork C M).jT≠[]:=by have:=G8 C e Y;simp[Tr.jT,this]
  exact λ_=>⟨λh0=>absurd (aa▸h0) ac,λi B=>both q I i (aa▸B)⟩
def aaF{c:Code}{a:Act}{s:TS}{w:J}{K:TS->Prop}(d:sb n c=true)(z:Ag n a s.E)(k:Inv s w)(y:runT P lv (Code.ops c) false K (List.range (Code.ops c).size) s []):gT P n c (fF n lv.pk.F K) a w:=by
 unfold sb at d;split at d
 .rename_i id ops x;rw[be]at d;obtain⟨e,h⟩:=d;have j:x=false:=by simpa using e
  subst j;exact wpIn_region (AG fF.q h _ s w a z k y λA C B e h j=>⟨A,e,h,j⟩)
 .cases d
def Inv.dr{s:TS}{w:J}{K:TS->Prop}(e:Inv s w)(d:yW s K):∃h,K h/\Inv h w.drew/\h.E=s.E:=by
 have lc:LC w.drew s.L:=e.lc.fr (M:=λ_=>False) (Fr.drew _ _) (λ_ _ d=>d);unfold yW at d;split at d
 .rename_i q j;have k:=e.rel;rw[j]at k;have:w=s.w:=by grind
  exact⟨_,d,⟨lc,by grind,e.sl⟩,rfl⟩
 .exact ⟨_,d,⟨lc,by simpa using e.fr.g' (Fr.drew _ _),e.sl⟩,rfl⟩
def aaD{c:Code}{a:Act}{s:TS}{w:J}{K:TS->Prop}{t:Tr}(d:uV P n c t=true)(A:Ag n a s.E)(k:Inv s w)(e:yW s λs=>qJ P lv (Code.ops c) K t s []):gT P n c (fF n lv.pk.F K) a w:=by
 unfold uV at d;split at d
 .rename_i id ops I;simp only[be]at d;obtain⟨rfl,D,j,C,h⟩:=d;rw[eA]at h;obtain⟨H,B,q,x⟩:=k.dr e;have y:=(xY j t false _ H w.drew [] a _ C (by rw[x];exact A) q (λp G=>(by cases G)) B).1 rfl h;have z:=ye _ [] _ _ _ (Down.zero _ _) y;refine wpIn_region_draw λt=>?_;refine sP j (λ⟨_,_,e⟩=>e) _ _ _ ?_;simp only[Region.schedule,D,Bool.true_or,if_true];exact wpAny_sound ops.size t _ a _ z
 .cases d
end
end
abbrev KT:=Exit->TS->Prop
structure nR where
 ord:Nat->Option Tr
 pt:List Bool->Option (TS->Prop)
 lv:Lk
def qx(e:nR)(q:List Bool)(f:TS->Prop)(s:TS):Prop:=match e.pt q with
 |some d=>fB s d
 |none=>f s
def Rw(e:nR)(q:List Bool)(f:TS->Prop)(K:KT):KT:=λd s=>match d with
 |.normal=>qx e q f s
 |d=>K d s
def yH(id:Nat)(K:KT):KT:=λd s=>match d with
 |.exit e=>if e=id then K .normal s else K (.exit e) s
 |d=>K d s
def iW(P:au)(n:Cx)(h:nR):Code->List Bool->KT->TS->Prop
 |.skip,_,d,s=>d .normal s
 |.region id ops true,_,d,s=>match h.ord id with
  |some t=>cL (uV P n (.region id ops true) t) (yW s λs=>qJ P h.lv ops (d .normal) t s [])
  |none=>False
 |.region id ops false,_,d,s=>cL (sb n (.region id ops false)) (runT P h.lv ops false (d .normal) (List.range ops.size) s [])
 |.seq a b,e,d,s=>iW P n h a (false::e) (Rw h (true::e) (iW P n h b (true::e) d) d) s
 |.cond o a b,e,d,s=>iu (s.E.val o) (qx h (false::e) (iW P n h a (false::e) d) s) (qx h (true::e) (iW P n h b (true::e) d) s)
 |.block id a,e,d,s=>iW P n h a (false::e) (yH id d) s
 |.loop _,e,_,s=>qx h e (λ_=>False) s
 |.exit id,_,d,s=>d (.exit id) s
 |.ret,_,d,s=>d .ret s
 |_,_,_,_=>False
section
variable {P:au} {n:Cx} {tb:nR}
def gp(P:au)(n:Cx)(k:Code)(j:Exit->Act->J->Prop):List Bool->Code×(Exit->Act->J->Prop)
 |[]=>(k,j)
 |b::q=>match gp P n k j q,b with
  |(.seq e h,d),false=>(e,Exit.then (gT P n h d) d)
  |(.seq _ h,d),true=>(h,d)
  |(.cond _ e _,d),false=>(e,d)
  |(.cond _ _ h,d),true=>(h,d)
  |(.block id e,d),_=>(e,Exit.inBlock id d)
  |(.loop e,d),_=>(e,Exit.then (pT P n e d) d)
  |(_,d),_=>(.skip,d)
def sV(P:au)(n:Cx)(p:Code×(Exit->Act->J->Prop))(a:Act)(w:J):Prop:=match p with
 |(.loop e,d)=>pT P n e d a w
 |(c,d)=>gT P n c d a w
def sV.wp{c:Code}{Q:Exit->Act->J->Prop}{a:Act}{w:J}(d:sV P n (c,Q) a w):gT P n c Q a w:=by
 unfold sV at d;split at d
 .rename_i j h e;cases e;exact Tp d
 grind
def KQ(n:Cx)(F:aB)(K:KT)(Q:Exit->Act->J->Prop):Prop:=(∀d s e a,Ag n a s.E->Inv s e->K d s->Q d a e)/\s9 n F Q
def ta(P:au)(n:Cx)(tb:nR)(k:Code)(j:Exit->Act->J->Prop):Prop:=∀e d,tb.pt e=some d->∀s h a,Ag n a s.E->Inv s h->d s->sV P n (gp P n k j e) a h
variable {c0:Code} {Q0:Exit->Act->J->Prop}
def xk(y:ta P n tb c0 Q0){q:List Bool}{c:Code}{Q:Exit->Act->J->Prop}(A:gp P n c0 Q0 q=(c,Q)){f:TS->Prop}{s:TS}{w:J}{a:Act}(z:Ag n a s.E)(h:Inv s w)(B:f s->gT P n c Q a w)(d:qx tb q f s):gT P n c Q a w:=by
 unfold qx at d;split at d
 .rename_i e x;obtain⟨j,k⟩:=h.fB d;have:=y q e x ⟨s.E,s.S,s.L,w,false⟩ w a z j k;rw[A]at this;exact this.wp
 grind
def QU{F:aB}{c:Code}{K:TS->Prop}{Q:Exit->Act->J->Prop}{a:Act}{w:J}(x:s9 n F Q)(k:gT P n c (fF n F K) a w)(q:∀s w a,Ag n a s.E->Inv s w->K s->Q .normal a w):gT P n c Q a w:=
 wpIn_mono k λj e h d=>by
  cases j with
  |normal=>obtain⟨s',hA,hI,hK⟩:=d;exact q s' h e hA hI hK
  |panic c=>exact x c e h d.1 d.2
  |_=>exact d.elim
def oV(A:ta P n tb c0 Q0):∀(c:Code) (q:List Bool) (K:KT) (Q:Exit->Act->J->Prop) (s:TS) (w:J) (a:Act),gp P n c0 Q0 q=(c,Q)->KQ n tb.lv.pk.F K Q->Ag n a s.E->Inv s w->iW P n tb c q K s->gT P n c Q a w
 |.skip,q,K,Q,s,w,a,k,e,h,j,d=>wpIn_skip (e.1 _ _ _ _ h j d)
 |.region id ops true,q,K,Q,s,w,a,k,e,h,j,d=>by
  unfold iW at d;split at d
  .obtain ⟨y,z⟩:=dC d;exact QU e.2 (aaD (c:=.region id ops true) y h j z) λs w a y z N=>e.1 _ _ _ _ y z N
  .exact d.elim
 |.region id ops false,q,K,Q,s,w,a,k,e,h,j,d=>by unfold iW at d;obtain⟨y,z⟩:=dC d;exact QU e.2 (aaF (c:=.region id ops false) y h j z) λs w a y z N=>e.1 _ _ _ _ y z N
 |.seq B L,q,K,Q,s,w,a,k,e,h,j,d=>by
  unfold iW at d;have I:gp P n c0 Q0 (false::q)=(B,Exit.then (gT P n L Q) Q):=by unfold gp;rw[k]
  have M:gp P n c0 Q0 (true::q)=(L,Q):=by unfold gp;rw[k]
  refine wpIn_seq (oV A B (false::q) _ _ s w a I ⟨λx S T O H D C=>?_,λc a w y z=>e.2 c a w y z⟩ h j d);cases x with
  |normal=>exact xk A M H D (λG=>oV A L (true::q) K Q S T O M e H D G) C
  |_=>exact e.1 _ _ _ _ H D C
 |.cond o B L,q,K,Q,s,w,a,k,e,h,j,d=>by
  unfold iW at d;have I:gp P n c0 Q0 (false::q)=(B,Q):=by unfold gp;rw[k]
  have M:gp P n c0 Q0 (true::q)=(L,Q):=by unfold gp;rw[k]
  unfold iu at d;split at d
  .rename_i t W;refine wpIn_cond_split (h.val W) (λx=>?_) (λx=>?_)
   .subst x;exact xk A I h j (λG=>oV A B (false::q) K Q s w a I e h j G) d
   .subst x;exact xk A M h j (λG=>oV A L (true::q) K Q s w a M e h j G) d
  .exact d.elim
 |.block id B,q,K,Q,s,w,a,k,e,h,j,d=>by
  unfold iW at d;have I:gp P n c0 Q0 (false::q)=(B,Exit.inBlock id Q):=by unfold gp;rw[k]
  refine wpIn_block (oV A B (false::q) _ _ s w a I ⟨λx S T O H D C=>?_,λc a w y z=>e.2 c a w y z⟩ h j d);cases x with
  |exit Y=>
   simp only[yH]at C;simp only[Exit.inBlock];split at C
   .rename_i x;rw[af x];exact e.1 _ _ _ _ H D C
   .rename_i x;rw[aa x];exact e.1 _ _ _ _ H D C
  |_=>exact e.1 _ _ _ _ H D C
 |.loop B,q,K,Q,s,w,a,k,e,h,j,d=>by unfold iW at d;exact xk A k h j (λG=>G.elim) d
 |.exit id,q,K,Q,s,w,a,k,e,h,j,d=>wpIn_exit (e.1 _ _ _ _ h j d)
 |.ret,q,K,Q,s,w,a,k,e,h,j,d=>wpIn_ret (e.1 _ _ _ _ h j d)
 |.rangeFunc ..,_,_,_,_,_,_,_,_,_,_,d=>d.elim
 |.scope _,_,_,_,_,_,_,_,_,_,_,d=>d.elim
 |.label _,_,_,_,_,_,_,_,_,_,_,d=>d.elim
 |.goto _,_,_,_,_,_,_,_,_,_,_,d=>d.elim
 |.refuse _,_,_,_,_,_,_,_,_,_,_,d=>d.elim
def zx(tb:nR)(q:List Bool)(K:KT):KT:=λd s=>match d with
 |.normal=>qx tb q (λ_=>False) s
 |d=>K d s
def o4(P:au)(n:Cx)(tb:nR)(c0:Code)(k:KT):List Bool->Code×KT
 |[]=>(c0,k)
 |b::j=>match o4 P n tb c0 k j,b with
  |(.seq e h,d),false=>(e,Rw tb (true::j) (iW P n tb h (true::j) d) d)
  |(.seq _ h,d),true=>(h,d)
  |(.cond _ e _,d),false=>(e,d)
  |(.cond _ _ h,d),true=>(h,d)
  |(.block id e,d),_=>(e,yH id d)
  |(.loop e,d),_=>(e,zx tb j d)
  |(_,d),_=>(.skip,d)
def Ea(C:ta P n tb c0 Q0){A:KT}(K:KQ n tb.lv.pk.F A Q0):∀h:List Bool,(o4 P n tb c0 A h).1=(gp P n c0 Q0 h).1/\KQ n tb.lv.pk.F (o4 P n tb c0 A h).2 (gp P n c0 Q0 h).2
 |[]=>⟨rfl,K⟩
 |b::h=>by
  obtain⟨B,d⟩:=Ea C K h;unfold o4 gp;generalize M:gp P n c0 Q0 h=p at B d;generalize o4 P n tb c0 A h=k at B d;obtain⟨c,I⟩:=p;obtain⟨W,T⟩:=k;simp only at B d;subst B;cases W with
  |seq G H=>
   cases b with
   |false=>
    refine⟨rfl,λx s j a w q e=>?_,λc a j y z=>d.2 c a j y z⟩;cases x with
    |normal=>
     have N:gp P n c0 Q0 (true::h)=(H,I):=by unfold gp;rw[M]
     exact xk C N w q (λD=>oV C H (true::h) T I s j a N d w q D) e
    |_=>exact d.1 _ _ _ _ w q e
   |true=>exact⟨rfl,d⟩
  |cond o G H=>cases b<;>exact⟨rfl,d⟩
  |block id G=>
   cases b<;>(
    refine⟨rfl,λx s j a w q e=>?_,λc a j y z=>d.2 c a j y z⟩;cases x with
    |exit Z=>
     simp only[yH]at e;simp only[Exit.inBlock];split at e
     .rename_i x;rw[af x];exact d.1 _ _ _ _ w q e
     .rename_i x;rw[aa x];exact d.1 _ _ _ _ w q e
    |_=>exact d.1 _ _ _ _ w q e)
  |loop G=>
   cases b<;>(
    refine⟨rfl,λx s j a w q e=>?_,λc a j y z=>d.2 c a j y z⟩;cases x with
    |normal=>
     simp only[zx,qx]at e;split at e
     .rename_i O Y;obtain⟨Q,D⟩:=q.fB e;have:=C h O Y ⟨s.E,s.S,s.L,j,false⟩ j a w Q D;rw[M]at this;exact this
     .exact e.elim
    |_=>exact d.1 _ _ _ _ w q e)
  |_=>cases b<;>exact⟨rfl,d⟩
def CX(P:au)(n:Cx)(tb:nR)(c0:Code)(e:KT)(q:List Bool)(s:TS):Prop:=match o4 P n tb c0 e q with
 |(.loop h,d)=>iW P n tb h (false::q) (zx tb q d) s
 |(c,d)=>iW P n tb c q d s
def VT(x:ta P n tb c0 Q0){d:KT}(C:KQ n tb.lv.pk.F d Q0){q:List Bool}{s:TS}{w:J}{a:Act}(G:Ag n a s.E)(A:Inv s w)(e:CX P n tb c0 d q s):sV P n (gp P n c0 Q0 q) a w:=by
 obtain⟨h,j⟩:=Ea x C q;have D:=Ea x C (false::q);unfold CX at e;generalize H:gp P n c0 Q0 q=p at h j;generalize L:o4 P n tb c0 d q=k at e h j;obtain⟨c,z⟩:=p;obtain⟨K,B⟩:=k;simp only at h j;subst h;cases K with
 |loop y=>
  have I:gp P n c0 Q0 (false::q)=(y,Exit.then (pT P n y z) z):=by unfold gp;rw[H]
  have M:o4 P n tb c0 d (false::q)=(y,zx tb q B):=by unfold o4;rw[L]
  rw[I,M]at D;exact LR (oV x y (false::q) _ _ s w a I D.2 G A e)
 |_=>exact oV x _ q B z s w a H j G A e
end
section
variable {P:au}
def pA(P:au)(s:TS):List ResultVar->(List V->Prop)->Prop
 |[],d=>d []
 |.tmp t::l,d=>match s.E.get? t with
  |some v=>pA P s l λe=>d (v::e)
  |none=>False
 |.cell j h::l,d=>match s.S.get? j with
  |some (i,k)=>match s.L[i]? with
   |some X=>Ej P h X.2.1 k λv=>pA P s l λe=>d (v::e)
   |none=>False
  |none=>match s.E.get? j with
   |some (.pointer (some p))=>n9 P h p s.w λv _=>pA P s l λe=>d (v::e)
   |_=>False
def uY(P:au)(fn:Func)(R:aB):KT:=λd s=>match d with
 |.normal|.ret=>fB s λs=>pA P s fn.results.toList λe=>R (ad (FP e)) s.w
 |_=>False
def Gj{n:Cx}{a:Act}{s:TS}{w:J}(q:Ag n a s.E)(k:Inv s w)(B:s.w=w):∀{l:List ResultVar} {K:List V->Prop},pA P s l K->
  ∃e,(l.mapM (py a.tmps)).run P w=.ok e w/\K e
 |[],K,d=>⟨[],gs,d⟩
 |.tmp t::l,K,d=>by
  unfold pA at d;split at d
  .rename_i v j;obtain⟨e,A,h⟩:=Gj q k B d;refine⟨v::e,?_,h⟩;have y:=q.get t v j;simp[List.mapM_cons,py,A,y]
  grind
 |.cell x C::l,K,d=>by
  have fin:∀(p:Addr) (v:V),s.E.get? x=some (.pointer (some p))->(loadVar C p).run P w=.ok v w->(pA P s l λe=>K (v::e))->∃e,((ResultVar.cell x C::l).mapM (py a.tmps)).run P w=.ok e w/\K e:=λp v z j d=>by obtain⟨e,A,h⟩:=Gj q k B d;refine⟨v::e,?_,h⟩;have y:=q.get x _ z;simp[List.mapM_cons,py,A,y,asAddr,j]
  unfold pA at d;split at d
  .rename_i i L I;obtain⟨X,D,F⟩:=k.sl x i L I;rw[D]at d;obtain⟨v,h,j⟩:=Lq (b:=X.1) (ty:=X.2.2) d;exact fin _ v F (j w (k.lc.own i X D)) h
  .split at d
   .rename_i p z;rw[B]at d;obtain⟨v,M,d,G,H⟩:=Ek d;exact fin p v z (H w G) d
   grind
def QW{m:Nat}{fn:Func}{F R:aB}(B:∀c d,F (.panicked c) d->R (.panicked c) d):KQ (cx m) F (uY P fn R) (bodyPost P fn R):=by
 refine⟨?_,λc a d z A=>⟨z,B c d A⟩⟩;intro x s d a j k e;have go:(fB s λs=>pA P s fn.results.toList λh=>R (ad (FP h)) s.w)->a.defers=[]/\∃v,(results fn a.tmps).run P d=.ok v d/\R (ad v) d:=λe=>by
  obtain⟨q,y⟩:=k.fB e;obtain⟨h,D,C⟩:=Gj (s:=⟨s.E,s.S,s.L,d,false⟩) j q rfl y;refine⟨j.defers,_,?_,C⟩;rw[Gh,<-Array.toArray_toList (xs:=fn.results),List.mapM_toArray];simp only[Sem.run_bind,Sem.run_map,D,Result.andThen_ok,Sem.run_pure];congr 1;cases h with
  |nil=>rfl
  |cons v h=>cases h<;>rfl
 unfold uY at e;cases x with
 |normal=>exact go e
 |ret=>exact go e
 |_=>exact e.elim
def Vy{f:bX}{fn:Func}{c:Code}{args:List V}{w:J}{R:aB}{e:nR}(h:∀c w,e.lv.pk.F (.panicked c) w->R (.panicked c) w)(x:P.funcs[f]? =some fn)(q:fn.body=some c)(y:Nat.ble args.length fn.ntmps=true)(j:ta P (cx fn.ntmps) e c (bodyPost P fn R))(d:iW P (cx fn.ntmps) e c [] (uY P fn R) ⟨kp 0 args,[],[],w,false⟩):aj P f args.toArray w R:=
 vY x q y λa k=>oV j c [] _ _ _ w a rfl (QW h) k ⟨LC.nil _,gs,λt i z d=>by cases d⟩ d
end
inductive Sh
 |i (k:hY)|b|st|s|p|r|m|v|f
abbrev Sh.T:Sh->Type
 |.i _=>Int
 |.b=>Bool
 |.st=>ByteArray
 |.s=>Sl
 |.p=>Option Addr
 |.r=>Addr
 |.m=>Option Nat
 |.v=>V
 |.f=>Fv
def Sh.val:(e:Sh)->e.T->V
 |.i h,d=>.int h d
 |.b,d=>.bool d
 |.st,d=>.string d
 |.s,d=>Sl.v d
 |.p,d=>.pointer d
 |.r,d=>.pointer (some d)
 |.m,d=>.map d
 |.v,d=>d
 |.f,d=>Fv.v d
def Sh.rd(e:Sh)(v:V)(K:e.T->Prop):Prop:=match e,v,K with
 |.i k,.int q d,K=>cL (q==k) (K d)
 |.b,.bool d,K=>K d
 |.st,.string d,K=>K d
 |.s,.slice a n c,K=>K ⟨a,n,c⟩
 |.p,.pointer d,K=>K d
 |.r,.pointer (some d),K=>K d
 |.m,.map d,K=>K d
 |.v,d,K=>K d
 |.f,.func (.func n) h j,K=>K ⟨n,h,j⟩
 |_,_,_=>False
def Sh.aaB{e:Sh}{v:V}{K:e.T->Prop}(d:e.rd v K):∃h,v=e.val h/\K h:=by
 unfold Sh.rd at d;split at d<;>first |exact d.elim|skip
 .obtain ⟨j,k⟩:=dC d;have:=eq_of_beq j;subst this;exact⟨_,rfl,k⟩
 all_goals exact⟨_,rfl,d⟩
inductive Tk
 |o (h:Sh)|a (k:Nat)|t (k:Nat)|g (n j k:Nat)
abbrev Tk.I:Tk:=.o (.i .i64)
abbrev Tk.U:Tk:=.o (.i .u64)
abbrev Tk.Y:Tk:=.o (.i .u8)
abbrev Tk.i(k:hY):Tk:=.o (.i k)
abbrev Tk.b:Tk:=.o .b
abbrev Tk.st:Tk:=.o .st
abbrev Tk.s:Tk:=.o .s
abbrev Tk.p:Tk:=.o .p
abbrev Tk.r:Tk:=.o .r
abbrev Tk.m:Tk:=.o .m
abbrev Tk.v:Tk:=.o .v
abbrev Tk.f:Tk:=.o .f
abbrev mi:List Tk->Type->Type
 |[],X=>X
 |.o d::l,X=>d.T->mi l X
 |.a _::l,X=>mi l X
 |.t _::l,X=>mi l X
 |.g _ _ _::l,X=>mi l X
inductive Sp
 |v (l:List Tk)
 |l (l:List Tk) (T:aE)
abbrev Sp.I:Sp:=.v [.I]
abbrev Sp.U:Sp:=.v [.U]
abbrev Sp.Y:Sp:=.v [.Y]
abbrev Sp.b:Sp:=.v [.b]
abbrev Sp.st:Sp:=.v [.st]
abbrev Sp.s:Sp:=.v [.s]
abbrev Sp.p:Sp:=.v [.p]
abbrev Sp.r:Sp:=.v [.r]
abbrev Sp.m:Sp:=.v [.m]
abbrev Sp.f:Sp:=.v [.f]
abbrev gU:List (Nat×Sp)->Type
 |[]=>J->aB->Prop
 |(_,.v d)::l=>mi d (gU l)
 |(_,.l d _)::l=>Nat->mi d (gU l)
def ou:(ts:List Tk)->(X:Type)->List V->mi ts X->(X->Prop)->Prop
 |[],_,[],d,e=>e d
 |.o w::ts,X,v::h,d,e=>w.rd v λy=>ou ts X h (d y) e
 |.a j::ts,X,.agg a::h,d,e=>cL (bH a.toList.length j) (ou ts X (a.toList++h) d e)
 |.t j::ts,X,.tuple a::h,d,e=>cL (bH a.toList.length j) (ou ts X (a.toList++h) d e)
 |.g n x j::ts,X,.func (.func m) k q::h,d,e=>cL (bH n m&&bH k.toList.length x&&bH q.toList.length j) (ou ts X (k.toList++(q.toList++h)) d e)
 |_,_,_,_,_=>False
def pa:(ts:List Tk)->(X:Type)->(List V->X)->mi ts X
 |[],_,e=>e []
 |.o k::ts,X,e=>λq=>pa ts X λd=>e (k.val q::d)
 |.a h::ts,X,e=>pa ts X λd=>e (.agg (d.take h).toArray::d.drop h)
 |.t h::ts,X,e=>pa ts X λd=>e (.tuple (d.take h).toArray::d.drop h)
 |.g n j h::ts,X,e=>pa ts X λd=>e (.func (.func n) (d.take j).toArray ((d.drop j).take h).toArray::(d.drop j).drop h)
def Qt:∀{ts:List Tk} {X:Type} {vs:List V} {K:List V->X} {j:X->Prop},ou ts X vs (pa ts X K) j->j (K vs):=by
 intro ts;induction ts with
 |nil=>
  intro X vs K j d;cases vs with
  |nil=>exact d
  |cons _ _=>exact d.elim
 |cons t ts q=>
  intro X vs K j d;cases t with
  |o C=>
   cases vs with
   |nil=>exact d.elim
   |cons v vs=>
    obtain⟨F,rfl,D⟩:=Sh.aaB d;exact q (K:=λvs=>K (C.val F::vs)) D
  |a e=>
   cases vs with
   |nil=>exact d.elim
   |cons v vs=>
    cases v with
    |agg a=>
     obtain⟨h,k⟩:=dC (show cL (bH a.toList.length e) (ou ts X (a.toList++vs) _ j)from d);rw[eA]at h;have:=q (K:=λvs=>K (.agg (vs.take e).toArray::vs.drop e)) k;rw[List.take_left' h,List.drop_left' h]at this;omega
    |_=>exact d.elim
  |t e=>
   cases vs with
   |nil=>exact d.elim
   |cons v vs=>
    cases v with
    |tuple a=>
     obtain⟨h,k⟩:=dC (show cL (bH a.toList.length e) (ou ts X (a.toList++vs) _ j)from d);rw[eA]at h;have:=q (K:=λvs=>K (.tuple (vs.take e).toArray::vs.drop e)) k;rw[List.take_left' h,List.drop_left' h]at this;omega
    |_=>exact d.elim
  |g n w e=>
   cases vs with
   |nil=>exact d.elim
   |cons v vs=>
    cases v with
    |func B x y=>
     cases B with
     |func m=>
      obtain⟨h,k⟩:=dC (show cL (bH n m&&bH x.toList.length w&&bH y.toList.length e) (ou ts X (x.toList++(y.toList++vs)) _ j)from d);rw[be,be,eA,eA,eA]at h;obtain⟨⟨E,z⟩,A⟩:=h;have:=q (K:=λvs=>K (.func (.func n) (vs.take w).toArray ((vs.drop w).take e).toArray::(vs.drop w).drop e)) k;rw[List.take_left' z,List.drop_left' z,List.take_left' A,List.drop_left' A,E]at this;omega
     |_=>exact d.elim
    |_=>exact d.elim
def jy:(l:List (Nat×Sp))->Nat->(Env->Sv->Lv->J->aB->Prop)->gU l
 |[],_,d=>d [] [] []
 |(t,.v k)::l,n,d=>pa k (gU l) λq=>jy l n λe j h=>d ((t,q.headD undef)::e) j h
 |(t,.l k w)::l,n,d=>λb=>pa k (gU l) λq=>jy l (n+1) λe j h=>d ((t,.pointer (some (ab b)))::e) ((t,some (n,0))::j) ((b,q,w)::h)
def qz:(l:List (Nat×Sp))->gU l->TS->List Nat->J->aB->Prop
 |[],d,_,_,h,e=>d h e
 |(t,.v k)::l,d,s,is,h,e=>match s.E.get? t with
  |some v=>ou k (gU l) [v] d λj=>qz l j s is h e
  |none=>False
 |(t,.l k q)::l,d,s,is,h,e=>match s.S.get? t with
  |some (i,0)=>match s.L[i]? with
   |some X=>cL (bH X.2.2 q&&!is.any (bH i)) (ou k (gU l) X.2.1 (d X.1) λj=>qz l j s (i::is) h e)
   |none=>False
  |_=>False
def KA{E E':Env}{t:Nat}{v:V}(q:E'.get? t=some v)(k:∀t v,E.get? t=some v->E'.get? t=some v):∀d e,Env.get? ((t,v)::E) d=some e->E'.get? d=some e:=λd e j=>by
 simp only[Env.get?]at j;cases h:bH t d with
 |true=>
  rw[h,cond_true]at j;rw[eA]at h
  grind
 |false=>
  grind
structure dE(s:TS)(n:Nat)(is js:List Nat)(E:Env)(S:Sv):Prop where
 sub:∀t v,E.get? t=some v->s.E.get? t=some v
 nd:js.Nodup
 dj:∀j∈js,j∉is
 lt:∀j∈js,∃X,s.L[j]? =some X
 sl:∀t i k,S.get? t=some (i,k)->n<=i/\∃j,js[i - n]? =some j/\s.S.get? t=some (j,k)/\∃v,E.get? t=some v
def aaA{s:TS}{w:J}(Q:Inv s w){R:aB}:∀{l:List (Nat×Sp)} {n:Nat} {K:Env->Sv->Lv->J->aB->Prop} {is:List Nat},qz l (jy l n K) s is w R->
  ∃h j y,dE s n is y h j/\K h j (y.filterMap λk=>(s.L[k]? :Option (Nat×List V×aE))) w R:=by
 intro l;induction l with
 |nil=>
  intro n K is d;exact⟨[],[],[],⟨λt v d=>by(simp[Env.get?]at d),.nil,λ_ d=>by grind,λ_ d=>by grind,λt i C d=>by(cases d)⟩,d⟩
 |cons p l O=>
  intro n K is d;obtain⟨t,sp⟩:=p;cases sp with
  |v ts=>
   unfold qz at d;split at d
   .rename_i v hv;have F:=Qt (K:=λH=>jy l n λh j E=>K ((t,H.headD undef)::h) j E) d;obtain⟨h,j,y,e,N⟩:=O F;refine⟨(t,v)::h,j,y,⟨KA hv e.sub,e.nd,e.dj,e.lt,λD i C x=>?_⟩,N⟩;obtain⟨B,k,G,Y,P,h4⟩:=e.sl D i C x;refine⟨B,k,G,Y,?_⟩;simp only[Env.get?]
    grind
   grind
  |l ts S=>
   unfold qz at d;split at d
   .rename_i i M;split at d
    .rename_i X Z;obtain⟨B,G⟩:=dC d;rw[be,eA,Bool.not_eq_true',List.any_eq_false]at B;have F:=Qt (K:=λH=>jy l (n+1) λh j E=>K ((t,.pointer (some (ab X.1)))::h) ((t,some (n,0))::j) ((X.1,H,S)::E)) G;obtain⟨h,j,y,e,N⟩:=O F;obtain⟨X',I,hp⟩:=Q.sl t i 0 M;rw[Z]at I;cases I;refine⟨(t,.pointer (some (ab X.1)))::h,(t,some (n,0))::j,i::y,⟨KA ?_ e.sub,List.nodup_cons.2 ⟨λA=>e.dj i A gs,e.nd⟩,λk q=>?_,λk q=>?_,λD i' C x=>?_⟩,?_⟩
     .rw [hp,jm]
     .rcases aF.1 q with rfl|q
      .intro A;have:=B.2 k A;simp at this
      .exact λA=>e.dj k q (cJ _ A)
     .rcases aF.1 q with rfl|q
      .grind
      .exact e.lt k q
     .simp only[Sv.get?]at x;cases z:bH t D with
      |true=>
       rw[z,cond_true]at x;rw[eA]at z;subst z;cases x;refine⟨bm _,i,gs,M,.pointer (some (ab X.1)),?_⟩;simp[Env.get?]
      |false=>
       rw[z,cond_false]at x;obtain⟨g1,k,g2,T,P,W⟩:=e.sl D i' C x;refine⟨io,k,?_,T,P,?_⟩
       .grind
       .simp only[Env.get?,z,cond_false];exact W
     grind
    grind
   grind
def dE.inv{s:TS}{w:J}(j:Inv s w){d:List Nat}{E:Env}{S:Sv}(h:dE s 0 [] d E S):Inv ⟨E,S,d.filterMap λe=>(s.L[e]? :Option (Nat×List V×aE)),w,false⟩ w:=by
 refine⟨j.lc.pick d h.nd,gs,λt i q A=>?_⟩;obtain⟨-,e,C,x,v,k⟩:=h.sl t i q A;obtain⟨X,D,z⟩:=j.sl t e q x;have:=h.sub t v k;rw[z]at this;cases this;refine⟨X,?_,k⟩;have all:∀(d:List Nat) (i:Nat),(∀e∈d,∃X,s.L[e]? =some X)->d[i]? =some e->(d.filterMap λe=>(s.L[e]? :Option (Nat×List V×aE)))[i]? =some X:=by
  intro d;induction d with
  |nil=>grind
  |cons a d H=>
   intro i y G;obtain⟨B,F⟩:=y a gs
   grind
 exact all d i h.lt io
def qQ:(ts:List Tk)->(X:Type)->(X->X->Prop)->mi ts X->mi ts X->Prop
 |[],_,r,d,e=>r d e
 |.o j::ts,X,r,d,e=>∀h:j.T,qQ ts X r (d h) (e h)
 |.a _::ts,X,r,d,e=>qQ ts X r d e
 |.t _::ts,X,r,d,e=>qQ ts X r d e
 |.g _ _ _::ts,X,r,d,e=>qQ ts X r d e
def vA:(l:List (Nat×Sp))->gU l->gU l->Prop
 |[],d,e=>∀(w:J) (R:aB),d w R->e w R
 |(_,.v h)::l,d,e=>qQ h (gU l) (vA l) d e
 |(_,.l h _)::l,d,e=>∀b:Nat,qQ h (gU l) (vA l) (d b) (e b)
def KR:∀{ts:List Tk} {X:Type} {r:X->X->Prop} {h j:List V->X},(∀e,r (h e) (j e))->qQ ts X r (pa ts X h) (pa ts X j):=by
 intro ts;induction ts with
 |nil=>intro X r h j d;exact d []
 |cons t ts k=>
  intro X r h j d;cases t with
  |o w=>intro x;exact k λe=>d _
  |a q=>exact k λe=>d _
  |t q=>exact k λe=>d _
  |g n y q=>exact k λe=>d _
def Xp:∀{l:List (Nat×Sp)} {n:Nat} {j k:Env->Sv->Lv->J->aB->Prop},(∀h w q e d,j h w q e d->k h w q e d)->vA l (jy l n j) (jy l n k):=by
 intro l;induction l with
 |nil=>intro n j k x e d;exact x _ _ _ e d
 |cons p l y=>
  intro n j k x;obtain⟨t,z⟩:=p;cases z with
  |v A=>exact KR λB=>y λh w q e d=>x _ _ _ e d
  |l A C=>intro b;exact KR λB=>y λh w q e d=>x _ _ _ e d
structure Fx where
 P:au
 fn:Func
 ord:List (Nat×Tr)
 lv:List Nat
 pn:Option (List bX):=none
def Fx.pk(X:Fx)(R:aB):Pk:=match X.pn with
 |some l=>some (R,l)
 |none=>none
def Fx.PQ{X:Fx}{R:aB}(c:List PanicEntry)(w:J)(d:(X.pk R).F (.panicked c) w):R (.panicked c) w:=by
 unfold Fx.pk at d;split at d
 .exact d
 .exact d.elim
def Fx.c(X:Fx):Code:=X.fn.body.getD .skip
def Fx.n(X:Fx):Cx:=cx X.fn.ntmps
def Et:List (Nat×Tr)->Nat->Option Tr
 |[],_=>none
 |(i,l)::o,d=>bif bH i d then some l else Et o d
def Fx.at(X:Fx)(q:List Bool)(R:aB)(a:Act)(w:J):Prop:=sV X.P X.n (gp X.P X.n X.c (bodyPost X.P X.fn R) q) a w
def Fx.Sem(X:Fx)(q:List Bool)(E:Env)(S:Sv)(L:Lv)(w:J)(R:aB):Prop:=∀a,Ag X.n a E->Inv ⟨E,S,L,w,false⟩ w->X.at q R a w
structure gw(X:Fx) where
 q:List Bool
 sp:List (Nat×Sp)
 F:gU sp
 ok:∀(R:aB) (s:TS) (w:J) (a:Act),Ag X.n a s.E->Inv s w->qz sp F s [] w R->X.at q R a w
def tq:List Bool->List Bool->Bool
 |[],[]=>true
 |a::l,b::m=>(match a,b with |true,true=>true|false,false=>true|_,_=>false)&&tq l m
 |_,_=>false
def If:∀{l m:List Bool},tq l m=true->l=m
 |[],[],_=>rfl
 |a::l,b::m,d=>by
  unfold tq at d;rw[be]at d;rw[If d.2]
  grind
 |[],_::_,d=>by cases d
 |_::_,[],d=>by cases d
def zv{X:Fx}(R:aB):List (gw X)->List Bool->Option (TS->Prop)
 |[],_=>none
 |e::j,h=>bif tq e.q h then some λs=>match s.d with
  |true=>False
  |false=>qz e.sp e.F s [] s.w R else zv R j h
def Fx.A'(X:Fx)(es:List (gw X))(R:aB):nR:=⟨Et X.ord,zv R es,X.lv,X.pk R⟩
def Fx.Sj{X:Fx}{es:List (gw X)}{R:aB}:ta X.P X.n (X.A' es R) X.c (bodyPost X.P X.fn R):=by
 intro A C x s B a D j h;have e:zv R es A=some C:=x;clear x;induction es with
 |nil=>cases e
 |cons k es G=>
  unfold zv at e;cases y:tq k.q A with
  |true=>
   rw[y,cond_true]at e;cases e;have:=If y;subst this;cases z:s.d with
   |true=>grind
   |false=>
    rw[z]at h;have E:=j.rel;rw[z]at E;have F:B=s.w:=by grind
    rw[<-F]at h;exact k.ok R s B a D j h
  |false=>
   grind
def Fx.vz(X:Fx)(es:List (gw X))(q:List Bool)(E:Env)(S:Sv)(L:Lv)(w:J)(R:aB):Prop:=CX X.P X.n (X.A' es R) X.c (uY X.P X.fn R) q ⟨E,S,L,w,false⟩
def Fx.Jm{X:Fx}{es:List (gw X)}{q:List Bool}{E:Env}{S:Sv}{L:Lv}{w:J}{R:aB}(e:X.vz es q E S L w R):X.Sem q E S L w R:=λa h d=>VT (s:=⟨E,S,L,w,false⟩) (Fx.Sj (es:=es)) (QW Fx.PQ) h d e
def JC{X:Fx}{q:List Bool}{y:List (Nat×Sp)}{K:Env->Sv->Lv->J->aB->Prop}(B:∀d e k w R,K d e k w R->X.Sem q d e k w R)(R:aB)(s:TS)(w:J)(a:Act)(h:Ag X.n a s.E)(j:Inv s w)(z:qz y (jy y 0 K) s [] w R):X.at q R a w:=by obtain⟨d,e,D,x,A⟩:=aaA j z;exact B _ _ _ _ _ A a ⟨h.defers,h.size,λt v C=>h.get t v (x.sub t v C)⟩ (x.inv j)
def Wm(X:Fx)(q:List Bool)(h:List (Nat×Sp))(F:gU h)(e:F=jy h 0 (X.Sem q):=by kernel_rfl):gw X:=⟨q,h,F,λk s x a w j d=>by subst e;exact JC (λ_ _ _ _ _ d=>d) k s x a w j d⟩
def Wn(X:Fx)(es:List (gw X))(q:List Bool)(h:List (Nat×Sp))(F:gU h)(e:F=jy h 0 (X.vz es q):=by kernel_rfl):gw X:=⟨q,h,F,λk s x a w j d=>by subst e;exact JC (λ_ _ _ _ _ d=>Fx.Jm d) k s x a w j d⟩
def ab4{X:Fx}(es:List (gw X))(q:List Bool)(d:List (Nat×Sp)):vA d (jy d 0 (X.vz es q)) (jy d 0 (X.Sem q)):=Xp λ_ _ _ _ _ e=>Fx.Jm e
def Vw(X:Fx)(es:List (gw X)){f:bX}{args:List V}{w:J}{R:aB}{T:Prop}(d:T)(j:X.P.funcs[f]? =some X.fn:=by kernel_rfl)(h:X.fn.body=some X.c:=by kernel_rfl)(k:Nat.ble args.length X.fn.ntmps=true:=by kernel_rfl)(e:T=iW X.P X.n (X.A' es R) X.c [] (uY X.P X.fn R) ⟨kp 0 args,[],[],w,false⟩:=by kernel_rfl):aj X.P f args.toArray w R:=
 Vy Fx.PQ j h k Fx.Sj (e▸d)
def PZ:Bool->List Nat->List Bool
 |_,[]=>[]
 |b,n::l=>List.replicate n b++PZ (!b) l
abbrev ot(l:List Nat):List Bool:=PZ true l
abbrev Ps:=List (Nat×Sp)
abbrev ls(l:List Nat):Tr:=Tr.sq l .nil
abbrev lr(n:Nat):Tr:=ls (List.range n)
set_option maxRecDepth 100000
open Go
inductive Oc:Type 1
 |leaf (p:Prop)
 |ex (α:Type) (K:α->Oc)
 |and (p:Prop) (K:Oc)
 |at (b:Bool) (K:Oc)
 |bB (t:Bool) (a b:Oc)
 |nw (bs:List Nat) (w:J) (K:Nat->J->Oc)
 |al (w:J) (o:Obj) (K:J->Oc)
 |st (w:J) (p:Addr) (v:V) (K:J->Oc)
 |lc (bs:List Nat) (w:J) (K:J->Oc)
 |dr (w:J) (K:J->Oc)
 |cf (bs:List Nat) (P:au) (f:bX) (xs:Array V) (w:J) (K:cR->J->Oc)
 |ca (P:au) (f:bX) (xs:Array V) (w:J) (K:cR->J->Oc)
 |cp (bs:List Nat) (P:au) (f:bX) (xs:Array V) (R:aB) (w:J) (K:cR->J->Oc)
 |op (q:Option Addr) (K:Addr->Oc)
 |or (a b:Oc)
 |cj (a b:Oc)
 |all (α:Type) (K:α->Oc)
 |im (K:Oc) (p:Prop)
inductive Nf:Oc->Prop->Prop
 |leaf {p}:Nf (.leaf p) p
 |ex {α K} {Q:α->Prop} (h:∀x,Nf (K x) (Q x)):Nf (.ex α K) (∃x,Q x)
 |and {p K Q} (h:Nf K Q):Nf (.and p K) (p/\Q)
 |at {b K Q} (h:Nf K Q):Nf (.at b K) (cL b Q)
 |bB {t a b A B} (h1:Nf a A) (h2:Nf b B):Nf (.bB t a b) (bB t A B)
 |nw {bs w K} {Q:Nat->J->Prop} (h:∀b w1,Nf (K b w1) (Q b w1)):Nf (.nw bs w K) (uA bs w λb w1=>Q b w1)
 |al {w o K} {Q:J->Prop} (h:∀w1,Nf (K w1) (Q w1)):Nf (.al w o K) (c9 w o λw1=>Q w1)
 |st {w p v K} {Q:J->Prop} (h:∀w1,Nf (K w1) (Q w1)):Nf (.st w p v K) (aM w p v λw1=>Q w1)
 |lc {bs w K} {Q:J->Prop} (h:∀w1,Nf (K w1) (Q w1)):Nf (.lc bs w K) (loc bs w λw1=>Q w1)
 |dr {w K} {Q:J->Prop} (h:∀w1,Nf (K w1) (Q w1)):Nf (.dr w K) (tI w λw1=>Q w1)
 |cf {bs P f xs w K} {Q:cR->J->Prop} (h:∀r w1,Nf (K r w1) (Q r w1)):Nf (.cf bs P f xs w K) (fH bs P f xs w λr w1=>Q r w1)
 |ca {P f xs w K} {Q:cR->J->Prop} (h:∀r w1,Nf (K r w1) (Q r w1)):Nf (.ca P f xs w K) (aj P f xs w λr w1=>Q r w1)
 |cp {bs P f xs R w K} {Q:cR->J->Prop} (h:∀r w1,Nf (K r w1) (Q r w1)):Nf (.cp bs P f xs R w K) (mx bs P f xs R w λr w1=>Q r w1)
 |op {q K} {Q:Addr->Prop} (h:∀p,Nf (K p) (Q p)):Nf (.op q K) (dv q λp=>Q p)
 |or {a b A B} (h1:Nf a A) (h2:Nf b B):Nf (.or a b) (A\/B)
 |cj {a b A B} (h1:Nf a A) (h2:Nf b B):Nf (.cj a b) (A/\B)
 |all {α K} {Q:α->Prop} (h:∀x,Nf (K x) (Q x)):Nf (.all α K) (∀{x},Q x)
 |im {K Q p} (h:Nf K Q):Nf (.im K p) (Q->p)
inductive DV
 |i (k:hY) (x:Int)|kb (x:Bool)|b (x:Bool)|st (x:ByteArray)|sl (s:Sl)|s3 (a:Option Addr) (n c:Nat)
 |p (x:Option Addr)|r (x:Addr) (l:Option (Nat×Nat))|m (x:Option Nat)|v (x:V)|f (x:Fv)
 |a (l:List DV)|t (l:List DV)|g (n:bX) (bs cs:List DV)|nf|ni|fc (t:aE) (x:DV)|u
mutual
def DV.o:DV->(V->Oc)->Oc
 |.i x e,d=>d (.int x e)
 |.kb e,d=>d (.bool e)
 |.b e,d=>d (.bool e)
 |.st e,d=>d (.string e)
 |.sl s,d=>d s.v
 |.s3 e q w,d=>d (.slice e q w)
 |.p e,d=>d (.pointer e)
 |.r e _,d=>d (.pointer (some e))
 |.m e,d=>d (.map e)
 |.v e,d=>d e
 |.f e,d=>d e.v
 |.a l,d=>DV.os l λk=>d (.agg k.toArray)
 |.t l,d=>DV.os l λk=>d (.tuple k.toArray)
 |.g n h j,d=>DV.os h λh=>DV.os j λj=>d (.func (.func n) h.toArray j.toArray)
 |.nf,d=>d .nilFunc
 |.ni,d=>d .nilIface
 |.fc q e,d=>DV.o e λw=>d (.iface q w)
 |.u,d=>d undef
def DV.os:List DV->(List V->Oc)->Oc
 |[],d=>d []
 |h::l,d=>DV.o h λv=>DV.os l λe=>d (v::e)
end
def uD:List V->(List DV->Oc)->Oc
 |[],d=>d []
 |v::l,d=>uD l λh=>d ((match v with
  |.int j e=>.i j e
  |.bool true=>.kb true
  |.bool false=>.kb false
  |.string s=>.st s
  |.slice a n c=>.s3 a n c
  |.pointer (some p)=>.r p none
  |.pointer none=>.p none
  |.map e=>.m e
  |.nilFunc=>.nf
  |.nilIface=>.ni
  |v=>.v v)::h)
def z5(v:V)(K:DV->Oc):Oc:=match v with
 |.agg d=>uD d.toList λl=>K (.a l)
 |.tuple d=>uD d.toList λl=>K (.t l)
 |.func (.func n) h d=>uD h.toList λh=>uD d.toList λd=>K (.g n h d)
 |.iface t e=>uD [e] λl=>K (.fc t (l.headD .u))
 |.int j e=>K (.i j e)
 |.bool true=>K (.kb true)
 |.bool false=>K (.kb false)
 |.string s=>K (.st s)
 |.slice a n c=>K (.s3 a n c)
 |.pointer (some p)=>K (.r p none)
 |.pointer none=>K (.p none)
 |.map e=>K (.m e)
 |.nilFunc=>K .nf
 |.nilIface=>K .ni
 |v=>K (.v v)
inductive Fc
 |c (p:Addr) (v:V)|r (s:Sem V) (v:V)|n
abbrev DE:=List (Nat×DV)
abbrev DL:=List (Nat×List DV×aE)
abbrev DH:=List (Nat×Option Nat×Fc)
def q7:DL->(List Nat->Oc)->Oc
 |[],d=>d []
 |(b,_,_)::e,d=>q7 e λh=>d (b::h)
def g9(d:Bool)(L:DL)(w:J)(K:J->Oc):Oc:=match d with
 |true=>q7 L λe=>.lc e w K
 |false=>K w
def getD:DE->Nat->(DV->Oc)->Oc
 |[],_,_=>.leaf False
 |(h,v)::e,t,d=>match bH h t with
  |true=>d v
  |false=>getD e t d
def jV{α:Type}:List α->Nat->Option α
 |[],_=>none
 |a::l,n=>match bH n 0 with
  |true=>some a
  |false=>jV l (n - 1)
def RB{α:Type}:List α->Nat->α->List α
 |[],_,_=>[]
 |a::l,n,d=>match bH n 0 with
  |true=>d::l
  |false=>a::RB l (n - 1) d
def Ao(t:Option Nat)(v:DV)(E:DE)(K:DE->Oc):Oc:=match t with
 |some t=>K ((t,v)::E)
 |none=>K E
def Mb:List Nat->Nat->Bool
 |[],_=>false
 |a::l,n=>match bH a n with
  |true=>true
  |false=>Mb l n
def K2(d:List Nat):Option Nat->Bool
 |some t=>Mb d t
 |none=>false
def dm(E:DE):Operand->(DV->Oc)->Oc
 |.tmp t,d=>getD E t d
 |.const v,d=>z5 v d
 |.func f,d=>d (.g f [] [])
 |.global g,d=>d (.r ⟨g,0,none⟩ none)
def pN(E:DE):List Operand->(List DV->Oc)->Oc
 |[],d=>d []
 |h::l,d=>dm E h λv=>pN E l λe=>d (v::e)
def Dv(z:V)(K:DV->Oc):Oc:=match z with
 |.int e _=>.ex Int λd=>K (.i e d)
 |.bool _=>.ex Bool λd=>K (.b d)
 |.string _=>.ex ByteArray λd=>K (.st d)
 |.slice _ _ _=>.ex Sl λd=>K (.sl d)
 |.pointer _=>.ex (Option Addr) λd=>K (.p d)
 |.map _=>.ex (Option Nat) λd=>K (.m d)
 |_=>.ex V λd=>K (.v d)
def Du:List V->(List DV->Oc)->Oc
 |[],d=>d []
 |h::j,d=>Dv h λv=>Du j λe=>d (v::e)
def Kc(z:V)(K:DV->Oc):Oc:=match z with
 |.agg d=>Du d.toList λl=>K (.a l)
 |z=>Dv z K
def Kf:List V->(List DV->Oc)->Oc
 |[],d=>d []
 |h::j,d=>Kc h λv=>Kf j λe=>d (v::e)
def tU(z:V)(K:DV->Oc):Oc:=match z with
 |.tuple d=>Kf d.toList λl=>K (.t l)
 |z=>Kc z K
def OE:List Nat:=[0,1,2,3,4,5,6,7,8,9,10,11,12,13,14,15,16,17,18,19,20,21,22,23,24,25,26,27,28,29,30,31,32,33,34,35,36,37,38,39,40,41,42,43,44,45,46,47,48,49,50,51,52,53,54,55,56,57,58,59,60,61,62,63]
def Kk(p:Addr):List Nat->List DV->(List Fc->Oc)->Oc
 |n::e,v::h,d=>DV.o v λj=>Kk p e h λl=>d (.c (p.add n) j::l)
 |_,_,d=>d []
def AN(P:au)(w:J)(K:Oc):List Fc->Oc
 |[]=>K
 |.c p v::l=>.and (w.cell? p=some v) (AN P w K l)
 |.r s v::l=>.and (s.run P w=.ok v w) (AN P w K l)
 |.n::l=>AN P w K l
def LN(P:au)(T:aE)(p:Addr)(w:J)(K:DV->List Fc->Oc):Oc:=match P.info? T with
 |some ⟨_,_,_,_,_,_,_,some e,_,_⟩=>match e with
  |.agg q=>Du q.toList λj=>Kk p OE j λk=>AN P w (K (.a j) k) k
  |.nilFunc=>.ex Fv λf=>.and (w.cell? p=some f.v) (K (.f f) [.c p f.v])
  |.nilIface=>.or (.ex aE λt=>.ex V λd=>.and (w.cell? p=some (.iface t d)) (K (.v (.iface t d)) [.c p (.iface t d)])) (.and (w.cell? p=some .nilIface) (K (.v .nilIface) [.c p .nilIface]))
  |e=>Dv e λh=>DV.o h λv=>.and (w.cell? p=some v) (K h [.c p v])
 |_=>.leaf False
def mX{α:Type}:List α->Nat->Nat->List α
 |[],_,_=>[]
 |a::l,d,n=>match bH d 0 with
  |true=>match bH n 0 with
   |true=>[]
   |false=>a::mX l 0 (n - 1)
  |false=>mX l (d - 1) n
def Af:List DV->Nat->List DV->List DV
 |l,_,[]=>l
 |[],_,_=>[]
 |a::l,d,x::e=>match bH d 0 with
  |true=>x::Af l 0 e
  |false=>a::Af l (d - 1) (x::e)
def DV.cs:DV->List DV
 |.a l=>l
 |d=>[d]
def LO(P:au)(T:aE)(cs:List DV)(j:Nat)(K:DV->Oc):Oc:=match P.info? T with
 |some ⟨_,_,n,_,_,_,_,some d,_,_⟩=>match d with
  |.agg _=>K (.a (mX cs j n))
  |_=>match jV cs j with
   |some v=>K v
   |none=>.leaf False
 |_=>.leaf False
def kQ(P:au)(T:aE):TypeDesc:=match P.info? T with
 |some ⟨.named _ u,_,_,_,_,_,_,_,_,_⟩=>(match P.info? u with
  |some ⟨d,_,_,_,_,_,_,_,_,_⟩=>d
  |none=>.invalid)
 |some ⟨d,_,_,_,_,_,_,_,_,_⟩=>d
 |none=>.invalid
def u6(P:au)(T:aE)(K:Nat->Oc):Oc:=match P.info? T with
 |some ⟨_,_,n,_,_,_,_,_,_,_⟩=>K n
 |none=>.leaf False
def BA(P:au)(T:aE)(K:V->Oc):Oc:=match P.info? T with
 |some ⟨_,_,_,_,_,_,_,some d,_,_⟩=>K d
 |_=>.leaf False
def Ko(P:au)(T:aE)(f:Nat)(K:aE->Nat->Oc):Oc:=match kQ P T with
 |.struct d=>match jV d.toList f with
  |some ⟨_,t,off,_,_,_,_⟩=>K t off
  |none=>.leaf False
 |_=>.leaf False
def DV.ri:DV->(Int->Oc)->Oc
 |.i _ e,d=>d e
 |_,_=>.leaf False
def nn(E:DE)(x:Option Operand)(y d:Nat)(K:Nat->Oc):Oc:=match x with
 |none=>K d
 |some o=>dm E o λv=>v.ri λi=>.and (0<=i) (.and (i<=(y:Int)) (K i.toNat))
def uZ(P:au)(s:Sem V)(z:V)(w:J)(K:DV->List Fc->Oc):Oc:=match z with
 |.nilFunc=>.ex Fv λf=>.and (s.run P w=.ok f.v w) (K (.f f) [.r s f.v])
 |z=>tU z λd=>DV.o d λv=>.and (s.run P w=.ok v w) (K d [.r s v])
def minD(a b:Nat)(K:Nat->Oc):Oc:=match Nat.ble a b with
 |true=>K a
 |false=>K b
def Un:hY->Nat
 |.i8|.u8=>8
 |.i16|.u16=>16
 |.i32|.u32=>32
 |_=>64
def RH(d:Bool)(k:hY)(y:Int)(K:Nat->Oc):Oc:=match d with
 |true=>match y with
  |.ofNat m=>minD (@OfNat.ofNat Nat m (instOfNatNat m)) (Un k) K
  |.negSucc _=>.leaf False
 |false=>.and (¬y<0) (K (min y.toNat k.bits))
def VL(op:BinOp)(a b:Int)(K:Bool->Oc):Oc:=match op with
 |.eql=>K (a==b)
 |.neq=>K (a !=b)
 |.lss=>K (ai (a<b))
 |.leq=>K (ai (a<=b))
 |.gtr=>K (ai (a>b))
 |.geq=>K (ai (a>=b))
 |_=>.leaf False
def Ul(op:BinOp)(d:Bool)(k:hY)(a b:Int)(K:DV->Oc):Oc:=match op with
 |.add=>K (.i k (k.wrap (a+b)))
 |.sub=>K (.i k (k.wrap (a - b)))
 |.mul=>K (.i k (k.wrap (a *b)))
 |.quo=>match d with
  |true=>K (.i k (k.wrap (a.tdiv b)))
  |false=>.and (b≠0) (K (.i k (k.wrap (a.tdiv b))))
 |.rem=>match d with
  |true=>K (.i k (a.tmod b))
  |false=>.and (b≠0) (K (.i k (a.tmod b)))
 |.and=>K (.i k (q6 k a b))
 |.or=>K (.i k (tl k a b))
 |.xor=>K (.i k (Ib k a b))
 |.andNot=>K (.i k (Uh k a b))
 |.shl=>RH d k b λn=>K (.i k (k.wrap (a *2^n)))
 |.shr=>RH d k b λn=>K (.i k (a.fdiv (2^n)))
 |op=>VL op a b λt=>K (.b t)
def Um(op:BinOp)(a b:ByteArray)(K:DV->Oc):Oc:=match op with
 |.add=>.and (¬(((a.size+b.size:Nat):Int)>IntKind.i64.max)) (K (.st (a++b)))
 |.eql=>K (.b (a.toList==b.toList))
 |.neq=>K (.b (!(a.toList==b.toList)))
 |.lss=>K (.b (Op.bytesLess a.toList b.toList))
 |.leq=>K (.b (Op.bytesLess a.toList b.toList||a.toList==b.toList))
 |.gtr=>K (.b (!(Op.bytesLess a.toList b.toList||a.toList==b.toList)))
 |.geq=>K (.b (!(Op.bytesLess a.toList b.toList)))
 |_=>.leaf False
def DV.rb:DV->Bool
 |.kb d=>d
 |.b d=>d
 |_=>false
def tP:List DV->List DV->List Field->(Bool->Oc)->Oc
 |e,h,⟨_,_,off,_,_,_,_⟩::j,d=>match jV e off,jV h off with
  |some (.i _ a),some (.i _ b)=>tP e h j λr=>d ((a==b)&&r)
  |some (.st a),some (.st b)=>tP e h j λr=>d ((a.toList==b.toList)&&r)
  |some k,some q=>tP e h j λr=>d ((k.rb==q.rb)&&r)
  |_,_=>.leaf False
 |_,_,[],d=>d true
def Dq(P:au):List DV->List DV->List Field->(Bool->Oc)->Oc
 |e,h,⟨n,q,off,a,b,c,w⟩::k,d=>match kQ P q with
  |.struct x=>tP (e.drop off) (h.drop off) x.toList λj=>Dq P e h k λr=>d (j&&r)
  |_=>tP e h [⟨n,q,off,a,b,c,w⟩] λj=>Dq P e h k λr=>d (j&&r)
 |_,_,[],d=>d true
def K3(P:au):List Field->Bool
 |[]=>false
 |⟨_,e,_,_,_,_,_⟩::d=>match kQ P e with
  |.struct _=>true
  |_=>K3 P d
def J9(P:au)(xs e:List DV)(d:List Field)(K:Bool->Oc):Oc:=match K3 P d with
 |true=>Dq P xs e d K
 |false=>tP xs e d K
def D4:Operand->Bool
 |.const _=>true
 |_=>false
def Ci(P:au)(op:BinOp)(T:aE)(x y:Operand)(a b:DV)(w:J)(K:DV->List Fc->Oc):Oc:=match a,b with
 |.i j a,.i _ b=>Ul op (D4 y) j a b λv=>K v []
 |.st a,.st b=>Um op a b λv=>K v []
 |.sl s,.s3 none _ _=>match op with
  |.eql=>K (.b s.a.isNone) []
  |_=>K (.b (!s.a.isNone)) []
 |.s3 (some _) _ _,.s3 none _ _=>match op with
  |.eql=>K (.kb false) []
  |_=>K (.kb true) []
 |.s3 a _ _,.s3 none _ _=>match op with
  |.eql=>K (.b a.isNone) []
  |_=>K (.b (!a.isNone)) []
 |.r _ _,.p none=>match op with
  |.eql=>K (.kb false) []
  |_=>K (.kb true) []
 |.m a,.m none=>match op with
  |.eql=>K (.b a.isNone) []
  |_=>K (.b (!a.isNone)) []
 |.a e,.a h=>match kQ P T,op with
  |.struct d,.eql=>J9 P e h d.toList λr=>K (.b r) []
  |.struct d,_=>J9 P e h d.toList λr=>K (.b (!r)) []
  |_,_=>.leaf False
 |a,b=>match D4 y,a,b,op with
  |true,.p a,.p none,.eql=>K (.b a.isNone) []
  |true,.p a,.p none,_=>K (.b (!a.isNone)) []
  |_,.p _,_,.neq|_,.r _ _,_,.neq=>DV.o a λa=>DV.o b λb=>uZ P (binOp .neq T a b) (.bool true) w K
  |_,_,_,op=>match kQ P T with
   |.interface _=>DV.o a λa=>DV.o b λb=>uZ P (zd op T x y a b) (.bool true) w K
   |.bool=>match op with
    |.eql=>K (.b (a.rb==b.rb)) []
    |_=>K (.b (!(a.rb==b.rb))) []
   |_=>.leaf False
def zE(h:Bool):DV->List DV->(DV->Oc)->Oc
 |r,[],d=>d r
 |.i j r,.i _ e::l,d=>match h with
  |true=>zE h (.i j (if r<e then e else r)) l d
  |false=>zE h (.i j (if e<r then e else r)) l d
 |_,_,_=>.leaf False
def Zz(d:List Field)(n:Nat):Nat:=match jV d n with
 |some ⟨_,_,off,_,_,_,_⟩=>off
 |none=>0
def An(E:DE)(off:Nat->Nat):List (Nat×Operand)->List DV->(List DV->Oc)->Oc
 |[],e,d=>d e
 |(i,h)::l,e,d=>dm E h λv=>An E off l (Af e (off i) v.cs) d
def wE:List DV->(List DV->Oc)->Oc
 |[],d=>d []
 |v::l,d=>wE l λl=>d (v::l)
def QV:Nat->List DV->List DV
 |0,_=>[]
 |n+1,l=>l++QV n l
def I9(P:au)(op:Op)(ty:aE)(E:DE)(L:DL)(w:J)(d:Bool)(K:DV->List (Option Nat×Fc)->J->Bool->Oc):Option Oc:=match op with
 |.move e|.assign e=>some (dm E e λv=>K v [] w d)
 |.pick c a b=>some (dm E c λc=>match c with
  |.kb true=>dm E a λv=>K v [] w d
  |.kb false=>dm E b λv=>K v [] w d
  |_=>.leaf False)
 |.load h e=>some (dm E e λa=>match a with
  |.r _ (some (i,G))=>match jV L i with
   |some (_,A,_)=>LO P h A G λv=>K v [(some i,.n)] w d
   |none=>.leaf False
  |.r p none=>g9 d L w λw=>LN P h p w λv j=>K v (j.map λf=>(none,f)) w false
  |_=>.leaf False)
 |.nilCheck e=>some (dm E e λa=>match a with
  |.p M=>.op M λp=>K (.r p none) [] w d
  |a=>K a [] w d)
 |.fieldAddr h e f=>some (dm E e λa=>match a with
  |.r p l=>Ko P h f λ_ off=>match l with
   |some (i,G)=>K (.r (p.add off) (some (i,Nat.add G off))) [] w d
   |none=>K (.r (p.add off) none) [] w d
  |_=>.leaf False)
 |.field h e f=>some (dm E e λa=>match a with
  |.a l=>Ko P h f λt off=>match P.info? t with
   |some ⟨_,_,n,_,_,_,_,some B,_,_⟩=>match B with
    |.agg _=>wE (mX l off n) λl=>K (.a l) [] w d
    |_=>match jV l off with
     |some v=>K v [] w d
     |none=>.leaf False
   |_=>.leaf False
  |_=>.leaf False)
 |.indexAddr h e C=>some (dm E e λa=>dm E C λi=>i.ri λi=>match a,kQ P h with
  |.sl s,.slice k=>u6 P k λy=>.and (0<=i) (.and (i<(s.n:Int)) (.op s.a λp=>K (.r (p.add (i.toNat *y)) none) [] w d))
  |.s3 a n _,.slice k=>u6 P k λy=>.and (0<=i) (.and (i<(n:Int)) (.op a λp=>K (.r (p.add (i.toNat *y)) none) [] w d))
  |.r p _,.array n k=>u6 P k λy=>.and (0<=i) (.and (i<(n:Int)) (K (.r (p.add (i.toNat *y)) none) [] w d))
  |_,_=>.leaf False)
 |.index h e C=>some (dm E e λa=>dm E C λi=>i.ri λi=>match a,kQ P h with
  |.st s,.string=>.and (0<=i) (.ex UInt8 λb=>.and (s[i.toNat]? =some b) (K (.i .u8 (b.toNat:Int)) [] w d))
  |.a A,.array n k=>match kQ P k with
   |.string=>DV.os A λq=>.and (0<=i) (.and (i<(n:Int)) (.ex ByteArray λb=>.and (q.toArray[i.toNat]? =some (.string b)) (K (.st b) [] w d)))
   |_=>DV.os A λq=>.and (0<=i) (.and (i<(n:Int)) (.ex Int λb=>.and (q.toArray[i.toNat]? =some (.int .i64 b)) (K (.i .i64 b) [] w d)))
  |_,_=>.leaf False)
 |.slice h e lo F H=>some (dm E e λa=>match a,kQ P h with
  |.sl s,.slice k=>u6 P k λy=>nn E H s.c s.c λm=>nn E F m s.n λx=>nn E lo x 0 λl=>K (.s3 (if m=l then s.a else s.a.map (·.add (l *y))) (x - l) (m - l)) [] w d
  |.s3 a n c,.slice k=>u6 P k λy=>nn E H c c λm=>nn E F m n λx=>nn E lo x 0 λl=>K (.s3 (if m=l then a else a.map (·.add (l *y))) (x - l) (m - l)) [] w d
  |.st s,.string=>nn E F s.size s.size λx=>nn E lo x 0 λl=>K (.st (s.extract l x)) [] w d
  |.r p _,.array n k=>u6 P k λy=>nn E H n n λm=>nn E F m n λx=>nn E lo x 0 λl=>K (.s3 (some (if m=l then p else p.add (l *y))) (x - l) (m - l)) [] w d
  |_,_=>.leaf False)
 |.extract e n=>some (dm E e λa=>match a with
  |.t l=>match jV l n with
   |some v=>K v [] w d
   |none=>.leaf False
  |_=>.leaf False)
 |.build h I=>some (BA P h λB=>z5 B λB=>match kQ P h with
  |.struct j=>An E (Zz j.toList) I.toList B.cs λl=>wE l λl=>K (.a l) [] w d
  |.array _ k=>match P.info? k with
   |some ⟨_,_,n,_,_,_,_,_,_,_⟩=>An E (λi=>Nat.mul i n) I.toList B.cs λl=>wE l λl=>K (.a l) [] w d
   |none=>.leaf False
  |_=>.leaf False)
 |.unOp f _ e=>some (dm E e λa=>match f,a with
  |.not,.kb true=>K (.kb false) [] w d
  |.not,.kb false=>K (.kb true) [] w d
  |.not,.b e=>K (.b (!e)) [] w d
  |.neg,.i z e=>K (.i z (z.wrap (0 - e))) [] w d
  |.xor,.i z e=>K (.i z (Ib z (if IntKind.signed z then -1 else IntKind.max z) e)) [] w d
  |_,_=>.leaf False)
 |.binOp f h e D _=>some (dm E e λa=>dm E D λb=>match kQ P h,f with
  |.interface _,_|.pointer _,.neq=>match D4 D with
   |true=>Ci P f h e D a b w λv j=>K v (j.map λf=>(none,f)) w d
   |false=>g9 d L w λw=>Ci P f h e D a b w λv j=>K v (j.map λf=>(none,f)) w false
  |_,_=>Ci P f h e D a b w λv j=>K v (j.map λf=>(none,f)) w d)
 |.convert s t e=>match kQ P s,kQ P t with
  |.slice _,.slice _|.string,.slice _=>none
  |.slice _,.string=>some (dm E e λa=>DV.o a λv=>g9 d L w λw=>uZ P (convert s t v) (.string (ByteArray.mk #[])) w λv j=>K v (j.map λf=>(none,f)) w false)
  |.pointer _,.unsafePointer|.unsafePointer,.pointer _=>some (dm E e λa=>DV.o a λv=>g9 d L w λw=>uZ P (convert s t v) (.pointer none) w λv j=>K v (j.map λf=>(none,f)) w false)
  |_,.int z=>some (dm E e λa=>a.ri λe=>K (.i z (z.wrap e)) [] w d)
  |_,_=>some (dm E e λv=>K v [] w d)
 |.makeInterface h e=>some (dm E e λv=>K (.fc h v) [] w d)
 |.makeFunc (.func n) j A=>some (pN E j.toList λj=>pN E A.toList λA=>K (.g n j A) [] w d)
 |.lookup h e C ok=>some (dm E e λa=>DV.o a λa=>dm E C λb=>DV.o b λb=>g9 d L w λw=>BA P ty λB=>uZ P (Instr.lookup h a b ok) B w λv j=>K v (j.map λf=>(none,f)) w false)
 |.call {callee:=.builtin .len,args,argTypes}=>some (pN E args.toList λq=>match q,argTypes.toList with
  |[v],[h]=>match v,kQ P h with
   |.sl s,_=>K (.i .i64 (s.n:Int)) [] w d
   |.s3 _ n _,_=>K (.i .i64 (n:Int)) [] w d
   |.st s,_=>K (.i .i64 (s.size:Int)) [] w d
   |_,.array n _=>K (.i .i64 (n:Int)) [] w d
   |v,.map _ _=>DV.o v λm=>g9 d L w λw=>uZ P (Builtin.len_ #[h] ty #[m]) (.int .i64 0) w λv j=>K v (j.map λf=>(none,f)) w false
   |_,_=>.leaf False
  |_,_=>.leaf False)
 |.call {callee:=.builtin .cap,args,..}=>some (pN E args.toList λq=>match q with
  |[.sl s]=>K (.i .i64 (s.c:Int)) [] w d
  |[.s3 _ _ c]=>K (.i .i64 (c:Int)) [] w d
  |_=>.leaf False)
 |.call {callee:=.builtin .min,args,..}=>some (pN E args.toList λq=>match q with
  |v::q=>zE false v q λv=>K v [] w d
  |_=>.leaf False)
 |.call {callee:=.builtin .max,args,..}=>some (pN E args.toList λq=>match q with
  |v::q=>zE true v q λv=>K v [] w d
  |_=>.leaf False)
 |_=>none
def mJ(L:DL)(w w':J)(K:Oc):Oc:=match L with
 |[]=>K
 |L=>q7 L λd=>.and (kept d w w') K
def GS(L:DL)(p:Addr):List Nat->List DV->J->(J->Oc)->Oc
 |n::j,v::k,d,h=>DV.o v λq=>match bH n 0 with
  |true=>.st d p q λe=>mJ L d e (GS L p j k e h)
  |false=>.st d (p.add n) q λe=>mJ L d e (GS L p j k e h)
 |_,_,d,h=>h d
def tG(P:au)(L:DL)(s:Sem V)(z:V)(w:J)(K:DV->J->Oc):Oc:=
 tU z λe=>DV.o e λv=>.ex J λd=>.and (s.run P w=.ok v d) (mJ L w d (K e d))
def I3(P:au)(k:Pk)(L:DL)(f:bX)(xs:Array V)(z:V)(w:J)(K:DV->J->Oc):Oc:=match k.of f with
 |some j=>q7 L λh=>.cp h P f xs j w λr e=>tU z λd=>DV.o d λv=>.and (r=ad v) (K d e)
 |none=>match L with
  |[]=>.ca P f xs w λr e=>tU z λd=>DV.o d λv=>.and (r=ad v) (K d e)
  |L=>q7 L λh=>.cf h P f xs w λr e=>tU z λd=>DV.o d λv=>.and (r=ad v) (K d e)
def Us(P:au)(f:bX):Bool:=match P.funcs[f]? with
 |some fn=>fn.body.isSome
 |none=>false
def Wa(P:au)(z:Lk)(dst:Option Nat)(op:Op)(ty:aE)(E:DE)(L:DL)(w:J)(d:Bool)(K:DV->DL->J->Bool->Oc):Oc:=match op with
 |.store _ h N=>dm E h λa=>dm E N λv=>match a with
  |.r _ (some (i,H))=>match jV L i with
   |some (b,y,j)=>wE (Af y H v.cs) λy=>K .u (RB L i (b,y,j)) w true
   |none=>.leaf False
  |.r p none=>g9 d L w λw=>GS L p OE v.cs w λe=>K .u L e false
  |_=>.leaf False
 |.alloc j=>BA P j λq=>z5 q λq=>match K2 z.l dst with
  |true=>q7 L λC=>.nw C w λb e=>K (.r (ab b) (some (L.length,0))) (L++[(b,q.cs,j)]) e false
  |false=>g9 d L w λw=>DV.os q.cs λk=>.al w (.cells k.toArray j) λe=>K (.r (nb w) none) L e false
 |.box j h=>dm E h λq=>match K2 z.l dst with
  |true=>q7 L λC=>.nw C w λb e=>K (.r (ab b) (some (L.length,0))) (L++[(b,q.cs,j)]) e false
  |false=>g9 d L w λw=>DV.os q.cs λk=>.al w (.cells k.toArray j) λe=>K (.r (nb w) none) L e false
 |.buildSlice j n I=>match kQ P j with
  |.slice D=>match P.info? D with
   |some ⟨_,_,M,_,_,_,_,some q,_,_⟩=>z5 q λq=>An E (λi=>Nat.mul i M) I.toList (QV n q.cs) λl=>DV.os l λk=>g9 d L w λw=>.al w (.cells k.toArray D) λe=>K (.s3 (some (nb w)) n n) L e false
   |_=>.leaf False
  |_=>.leaf False
 |.makeMap _ _=>g9 d L w λw=>.al w (.map #[] 0) λe=>K (.m (some w.heap.size)) L e false
 |.mapUpdate j m x v|.insert j m x v=>dm E m λm=>DV.o m λm=>dm E x λx=>DV.o x λx=>dm E v λv=>DV.o v λv=>g9 d L w λw=>
   .ex J λe=>.and ((Instr.mapUpdate j m x v).run P w=.ok () e) (mJ L w e (K .u L e false))
 |.call {callee:=.builtin b,args,argTypes}=>pN E args.toList λk=>DV.os k λk=>g9 d L w λw=>match b with
  |.append=>tG P L (Builtin.append_ argTypes ty k.toArray) (.slice none 0 0) w λv e=>K v L e false
  |.copy=>tG P L (Builtin.copy_ argTypes ty k.toArray) (.int .i64 0) w λv e=>K v L e false
  |.unsafeSliceData=>tG P L (Builtin.unsafeSliceData_ argTypes ty k.toArray) (.pointer none) w λv e=>K v L e false
  |.unsafeString=>tG P L (Builtin.unsafeString_ argTypes ty k.toArray) (.string (ByteArray.mk #[])) w λv e=>K v L e false
  |.delete=>.ex J λe=>.and ((Builtin.delete_ argTypes ty k.toArray).run P w=.ok undef e) (mJ L w e (K .u L e false))
  |.clear=>.ex J λe=>.and ((Builtin.clear_ argTypes ty k.toArray).run P w=.ok (.tuple #[]) e) (mJ L w e (K (.t []) L e false))
  |_=>.leaf False
 |.call {callee:=.value h,args,..}=>dm E h λf=>pN E args.toList λk=>BA P ty λq=>g9 d L w λw=>match f with
  |.g n G y=>DV.os (G++k++y) λB=>match Us P n with
   |true=>I3 P z.pk L n B.toArray q w λv e=>K v L e false
   |false=>tU q λr=>DV.o r λv=>.ex J λe=>.and ((callFunc n B.toArray).run P w=.ok (.value v) e) (mJ L w e (K r L e false))
  |.f A=>DV.os k λB=>.at (hg P A.n) (I3 P z.pk L A.n (A.bs++B.toArray++A.cs) q w λv e=>K v L e false)
  |_=>.leaf False
 |.makeSlice j l c=>dm E l λl=>DV.o l λl=>dm E c λc=>DV.o c λc=>g9 d L w λw=>tG P L (Instr.makeSlice j l c) (.slice none 0 0) w λv e=>K v L e false
 |.convert s t h=>dm E h λh=>DV.o h λh=>g9 d L w λw=>tG P L (convert s t h) (.slice none 0 0) w λv e=>K v L e false
 |.range j h=>dm E h λh=>DV.o h λh=>g9 d L w λw=>.ex V λv=>.ex J λe=>.and ((Instr.range j h).run P w=.ok v e) (mJ L w e (K (.v v) L e false))
 |.next it s=>dm E it λh=>DV.o h λit=>g9 d L w λw=>.or (.ex J λe=>.and ((Instr.next it s ty).run P w=.ok (.tuple #[.bool false]) e) (mJ L w e (K (.t [.kb false]) L e false)))
   (match s with
    |true=>.ex Int λi=>.ex Int λc=>.ex J λe=>.and ((Instr.next it true ty).run P w=.ok (.tuple #[.bool true,.int .i64 i,.int .i32 c]) e) (mJ L w e (K (.t [.kb true,.i .i64 i,.i .i32 c]) L e false))
    |false=>.ex V λi=>.ex V λc=>.ex J λe=>.and ((Instr.next it false ty).run P w=.ok (.tuple #[.bool true,i,c]) e) (mJ L w e (K (.t [.kb true,.v i,.v c]) L e false)))
 |.entry it=>dm E it λh=>DV.o h λit=>g9 d L w λw=>.ex V λi=>.ex V λc=>.ex J λe=>.and ((Instr.entry it).run P w=.ok (.tuple #[i,c]) e) (mJ L w e (K (.t [.v i,.v c]) L e false))
 |.panic h=>dm E h λv=>DV.o v λv=>g9 d L w λw=>match z.pk with
  |some (F,_)=>.leaf (F (.panicked [{v:=v,recovered:=false}]) w)
  |none=>.leaf False
 |_=>.leaf False
def vQ:List Edge->(Nat->Bool)->Bool
 |[],_=>false
 |⟨_,.textOnly _⟩::l,p=>vQ l p
 |⟨_,.gcOnly _⟩::l,p=>vQ l p
 |⟨d,_⟩::l,p=>match p d with
  |true=>true
  |false=>vQ l p
def Ad(ops:List Oper):Nat->Nat->Nat->Bool
 |0,i,h=>match jV ops h with
  |some ⟨_,_,_,_,e,_⟩=>vQ e.toList λd=>bH d i
  |none=>false
 |f+1,i,h=>match jV ops h with
  |some ⟨_,_,_,_,e,_⟩=>vQ e.toList λd=>match bH d i with
   |true=>true
   |false=>Ad ops f i d
  |none=>false
def wc(ops:List Oper)(j:Nat):DH->(DH->Oc)->Oc
 |[],e=>e []
 |(i,f,h)::d,e=>match Ad ops 4 i j with
  |true=>wc ops j d e
  |false=>wc ops j d λd=>e ((i,f,h)::d)
def B9(ops:List Oper)(j:Nat):DH->Bool
 |[]=>false
 |(i,none,_)::d=>match Ad ops 4 i j with
  |true=>B9 ops j d
  |false=>true
 |_::d=>B9 ops j d
def ud(P:au)(ops:List Oper)(j:Nat)(w:J)(K:Oc):DH->Oc
 |[]=>K
 |(i,none,e)::d=>match Ad ops 4 i j with
  |true=>ud P ops j w K d
  |false=>match e with
   |.c p v=>.and (w.cell? p=some v) (ud P ops j w K d)
   |.r s v=>.and (s.run P w=.ok v w) (ud P ops j w K d)
   |.n=>ud P ops j w K d
 |_::d=>ud P ops j w K d
abbrev DJ:=DE->DL->J->Bool->DH->Oc
def HL(draw:Bool)(i:Nat):List (Option Nat×Fc)->DH->(DH->Oc)->Oc
 |[],d,e=>e d
 |(f,h)::l,d,e=>match draw with
  |true=>HL draw i l d λd=>e ((i,f,h)::d)
  |false=>e d
def R7(P:au)(j:Lk)(ops:List Oper)(draw:Bool)(i:Nat)(o:Oper)(E:DE)(L:DL)(w:J)(d:Bool)(H:DH)(K:DJ):Oc:=match o with
 |⟨dst,op,e,_,_,_⟩=>match I9 P op e E L w d λv h w d=>Ao dst v E λE=>HL draw i h H λH=>K E L w d H with
  |some r=>r
  |none=>Wa P j dst op e E L w d λv L w d=>match B9 ops i H with
   |true=>g9 d L w λw=>ud P ops i w (Ao dst v E λE=>wc ops i H λH=>K E L w false H) H
   |false=>Ao dst v E λE=>wc ops i H λH=>K E L w d H
def Vz(P:au)(op:Op)(ty:aE)(E:DE)(L:DL)(w:J):Bool:=match I9 P op ty E L w false λ_ _ _ _=>.leaf True with
 |some _=>true
 |none=>false
def AW(P:au)(ops:List Oper)(i:Nat)(o:Oper)(E:DE)(L:DL)(w:J)(d:Bool)(H:DH)(K:DJ):Oc:=match o with
 |⟨dst,op,e,_,_,_⟩=>Ao dst .u E λE=>match Vz P op e E L w with
  |true=>K E L w d H
  |false=>wc ops i H λH=>K E L w d H
def DR(P:au)(e:Lk)(ops:List Oper)(draw:Bool)(i:Nat)(o:Oper)(t:Nat)(want b:Bool)(E:DE)(L:DL)(w:J)(d:Bool)(H:DH)(K:DJ):Oc:=match want,b with
 |true,true|false,false=>R7 P e ops draw i o ((t,.kb b)::E) L w d H K
 |_,_=>AW P ops i o ((t,.kb b)::E) L w d H K
def headD(P:au)(e:Lk)(ops:List Oper)(draw:Bool)(i:Nat)(E:DE)(L:DL)(w:J)(d:Bool)(H:DH)(K:DJ):Oc:=match jV ops i with
 |none=>.leaf False
 |some o=>match o.guard with
  |none=>R7 P e ops draw i o E L w d H K
  |some (h,want)=>match jV ops h with
   |some ⟨some t,_,_,_,_,_⟩=>getD E t λv=>match v with
    |.kb b=>DR P e ops draw i o t want b E L w d H K
    |.b b=>.bB b (DR P e ops draw i o t want true E L w d H K) (DR P e ops draw i o t want false E L w d H K)
    |_=>AW P ops i o E L w d H K
   |_=>.leaf False
def Rn(P:au)(k:Lk)(ops:List Oper)(K:DE->DL->J->Bool->Oc):List Oper->Nat->DE->DL->J->Bool->Oc
 |[],_,d,e,j,h=>K d e j h
 |_::l,i,d,e,j,h=>headD P k ops false i d e j h [] λd e j h _=>Rn P k ops K l (i+1) d e j h
def Bg(P:au)(q:Lk)(ops:List Oper)(K:DE->DL->J->Bool->Oc):Tr->DE->DL->J->Bool->DH->Oc
 |.nil,d,e,j,h,_=>K d e j h
 |.one i t,d,e,j,h,k=>headD P q ops true i d e j h k λd e j h k=>Bg P q ops K t d e j h k
 |.fork a b,d,e,j,h,k=>.cj (Bg P q ops K a d e j h k) (Bg P q ops K b d e j h k)
def V'(L:DL)(w:J)(d:Bool)(K:J->Bool->Oc):Oc:=match L,d with
 |[],false=>.dr w λw=>K w false
 |_,_=>K w true
def eD:(ts:List Tk)->(X:Type)->List DV->mi ts X->(X->Oc)->Oc
 |[],_,_,d,e=>e d
 |.a _::ts,X,.a l::h,d,e=>eD ts X (l++h) d e
 |.t _::ts,X,.t l::h,d,e=>eD ts X (l++h) d e
 |.g _ _ _::ts,X,.g _ k q::h,d,e=>eD ts X (k++(q++h)) d e
 |.o (.i _)::ts,X,.i _ j::h,d,e=>eD ts X h (d j) e
 |.o .b::ts,X,.b j::h,d,e=>eD ts X h (d j) e
 |.o .b::ts,X,.kb j::h,d,e=>eD ts X h (d j) e
 |.o .st::ts,X,.st j::h,d,e=>eD ts X h (d j) e
 |.o .s::ts,X,.sl j::h,d,e=>eD ts X h (d j) e
 |.o .s::ts,X,.s3 a n c::h,d,e=>eD ts X h (d ⟨a,n,c⟩) e
 |.o .p::ts,X,.p j::h,d,e=>eD ts X h (d j) e
 |.o .p::ts,X,.r j _::h,d,e=>eD ts X h (d (some j)) e
 |.o .r::ts,X,.r j _::h,d,e=>eD ts X h (d j) e
 |.o .m::ts,X,.m j::h,d,e=>eD ts X h (d j) e
 |.o .f::ts,X,.f j::h,d,e=>eD ts X h (d j) e
 |.o .f::ts,X,.g n k q::h,d,e=>DV.os k λk=>DV.os q λq=>eD ts X h (d ⟨n,k.toArray,q.toArray⟩) e
 |.o .v::ts,X,v::h,d,e=>DV.o v λj=>eD ts X h (d j) e
 |_,_,_,_,_=>.leaf False
def B':(l:List (Nat×Sp))->gU l->DE->DL->J->aB->Oc
 |[],e,_,_,j,h=>.leaf (e j h)
 |(t,.v w)::l,e,d,k,j,h=>getD d t λv=>eD w (gU l) [v] e λq=>B' l q d k j h
 |(t,.l w _)::l,e,d,k,j,h=>getD d t λv=>match v with
  |.r _ (some (i,_))=>match jV k i with
   |some (b,x,_)=>eD w (gU l) x (e b) λq=>B' l q d k j h
   |none=>.leaf False
  |_=>.leaf False
abbrev DK:=Exit->DE->DL->J->Bool->Oc
section
variable (X:Fx) (es:List (gw X)) (R:aB)
def oq{X:Fx}(R:aB):List (gw X)->List Bool->DE->DL->J->Bool->Oc->Oc
 |[],_,_,_,_,_,f=>f
 |k::es,w,h,e,d,j,f=>match tq k.q w with
  |true=>match k with
   |⟨_,y,x,_⟩=>g9 j e d λd=>B' y x h e d R
  |false=>oq R es w h e d j f
def nV(P:au)(ord:List (Nat×Tr))(w:Lk):Code->List Bool->DK->DE->DL->J->Bool->Oc
 |.skip,_,k,h,j,e,d=>k .normal h j e d
 |.region id ops true,_,k,h,j,e,d=>match Et ord id with
  |some t=>V' j e d λe d=>Bg P w ops.toList (λh j e d=>k .normal h j e d) t h j e d []
  |none=>.leaf False
 |.region _ ops false,_,k,h,j,e,d=>Rn P w ops.toList (λh j e d=>k .normal h j e d) ops.toList 0 h j e d
 |.seq a b,q,k,h,j,e,d=>nV P ord w a (false::q) (λx h j e d=>match x with
  |.normal=>oq R es (true::q) h j e d (nV P ord w b (true::q) k h j e d)
  |x=>k x h j e d) h j e d
 |.cond o a b,q,k,h,j,e,d=>dm h o λv=>match v with
  |.kb true=>oq R es (false::q) h j e d (nV P ord w a (false::q) k h j e d)
  |.kb false=>oq R es (true::q) h j e d (nV P ord w b (true::q) k h j e d)
  |.b t=>.bB t (oq R es (false::q) h j e d (nV P ord w a (false::q) k h j e d)) (oq R es (true::q) h j e d (nV P ord w b (true::q) k h j e d))
  |_=>.leaf False
 |.block id a,q,k,h,j,e,d=>nV P ord w a (false::q) (λx h j e d=>match x with
  |.exit y=>match bH y id with
   |true=>k .normal h j e d
   |false=>k (.exit y) h j e d
  |x=>k x h j e d) h j e d
 |.loop _,q,_,h,j,e,d=>oq R es q h j e d (.leaf False)
 |.exit id,_,k,h,j,e,d=>k (.exit id) h j e d
 |.ret,_,k,h,j,e,d=>k .ret h j e d
 |_,_,_,_,_,_,_=>.leaf False
def AA(P:au)(E:DE)(L:DL)(w:J):List ResultVar->(List DV->Oc)->Oc
 |[],d=>d []
 |.tmp t::l,d=>getD E t λv=>AA P E L w l λe=>d (v::e)
 |.cell q h::l,d=>getD E q λv=>match v with
  |.r _ (some (i,k))=>match jV L i with
   |some (_,j,_)=>LO P h j k λv=>AA P E L w l λe=>d (v::e)
   |none=>.leaf False
  |.r p none=>LN P h p w λv _=>AA P E L w l λe=>d (v::e)
  |_=>.leaf False
def aaL(P:au)(fn:Func):DK:=λq j h e k=>match q with
 |.normal|.ret=>g9 k h e λe=>AA P j h e fn.results.toList λd=>match d with
  |[v]=>DV.o v λv=>.leaf (R (ad v) e)
  |d=>DV.os d λd=>.leaf (R (ad (.tuple d.toArray)) e)
 |_=>.leaf False
def Lb(P:au)(ord:List (Nat×Tr))(C:Lk)(A:Code)(z:DK):List Bool->Code×DK
 |[]=>(A,z)
 |b::y=>match Lb P ord C A z y,b with
  |(.seq w x,d),false=>(w,λe h j q k=>match e with
   |.normal=>oq R es (true::y) h j q k (nV X es R P ord C x (true::y) d h j q k)
   |e=>d e h j q k)
  |(.seq _ x,d),true=>(x,d)
  |(.cond _ w _,d),false=>(w,d)
  |(.cond _ _ x,d),true=>(x,d)
  |(.block id w,d),_=>(w,λe h j q k=>match e with
   |.exit B=>match bH B id with
    |true=>d .normal h j q k
    |false=>d (.exit B) h j q k
   |e=>d e h j q k)
  |(.loop w,d),_=>(w,λe h j q k=>match e with
   |.normal=>oq R es y h j q k (.leaf False)
   |e=>d e h j q k)
  |(_,d),_=>(.skip,d)
def Tj(R:aB)(X:Fx)(K:au->Func->List (Nat×Tr)->Lk->Oc):Oc:=match X with
 |⟨d,fn,ord,e,some l⟩=>K d fn ord ⟨e,some (R,l)⟩
 |⟨d,fn,ord,e,none⟩=>K d fn ord ⟨e,none⟩
def CY(q:List Bool)(E:DE)(L:DL)(w:J):Oc:=Tj R X λd fn ord j=>match fn.body with
  |some c=>match Lb X es R d ord j c (aaL R d fn) q with
   |(.loop x,e)=>nV X es R d ord j x (false::q) (λh E L w k=>match h with
    |.normal=>oq R es q E L w k (.leaf False)
    |h=>e h E L w k) E L w false
   |(c,e)=>nV X es R d ord j c q e E L w false
  |none=>.leaf False
end
abbrev h0:List Tk->Type->Type
 |[],X=>X
 |.o (.i _)::l,X=>Int->h0 l X
 |.o .b::l,X=>Bool->h0 l X
 |.o .st::l,X=>ByteArray->h0 l X
 |.o .s::l,X=>Sl->h0 l X
 |.o .p::l,X=>Option Addr->h0 l X
 |.o .r::l,X=>Addr->h0 l X
 |.o .m::l,X=>Option Nat->h0 l X
 |.o .v::l,X=>V->h0 l X
 |.o .f::l,X=>Fv->h0 l X
 |.a _::l,X=>h0 l X
 |.t _::l,X=>h0 l X
 |.g _ _ _::l,X=>h0 l X
abbrev m8:List (Nat×Sp)->Type
 |[]=>J->aB->Prop
 |(_,.v d)::l=>h0 d (m8 l)
 |(_,.l d _)::l=>Nat->h0 d (m8 l)
def tE:∀(ts:List Tk) (X:Type),mi ts X=h0 ts X
 |[],_=>rfl
 |.o e::ts,X=>by cases e<;>exact congrArg (λd=>_->d) (tE ts X)
 |.a _::ts,X=>tE ts X
 |.t _::ts,X=>tE ts X
 |.g _ _ _::ts,X=>tE ts X
def C':∀l:List (Nat×Sp),gU l=m8 l
 |[]=>rfl
 |(_,.v d)::l=>(tE d (gU l)).trans (congrArg (h0 d) (C' l))
 |(_,.l d _)::l=>congrArg (λe=>Nat->e) ((tE d (gU l)).trans (congrArg (h0 d) (C' l)))
def kU:(ts:List Tk)->(X:Type)->h0 ts X->(List DV->X->Prop)->Prop
 |[],_,h,j=>j [] h
 |.o (.i q)::ts,X,h,j=>∀e:Int,kU ts X (h e) λd k=>j (.i q e::d) k
 |.o .b::ts,X,h,j=>∀e:Bool,kU ts X (h e) λd k=>j (.b e::d) k
 |.o .st::ts,X,h,j=>∀e:ByteArray,kU ts X (h e) λd k=>j (.st e::d) k
 |.o .s::ts,X,h,j=>∀e:Sl,kU ts X (h e) λd k=>j (.sl e::d) k
 |.o .p::ts,X,h,j=>∀e:Option Addr,kU ts X (h e) λd k=>j (.p e::d) k
 |.o .r::ts,X,h,j=>∀e:Addr,kU ts X (h e) λd k=>j (.r e none::d) k
 |.o .m::ts,X,h,j=>∀e:Option Nat,kU ts X (h e) λd k=>j (.m e::d) k
 |.o .v::ts,X,h,j=>∀e:V,kU ts X (h e) λd k=>j (.v e::d) k
 |.o .f::ts,X,h,j=>∀e:Fv,kU ts X (h e) λd k=>j (.f e::d) k
 |.a q::ts,X,h,j=>kU ts X h λd k=>j (.a (mX d 0 q)::d.drop q) k
 |.t q::ts,X,h,j=>kU ts X h λd k=>j (.t (mX d 0 q)::d.drop q) k
 |.g n w q::ts,X,h,j=>kU ts X h λd k=>j (.g n (mX d 0 w) (mX d w q)::d.drop (w+q)) k
def BU(G:DE->DL->J->aB->Oc):(l:List (Nat×Sp))->m8 l->DE->DL->Prop
 |[],d,h,e=>∀(w:J) (R:aB),Nf (G h e w R) (d w R)
 |(t,.v j)::l,d,h,e=>kU j (m8 l) d λk d=>match k with
  |v::_=>BU G l d ((t,v)::h) e
  |[]=>False
 |(t,.l j q)::l,d,h,e=>∀b:Nat,kU j (m8 l) (d b) λk d=>BU G l d ((t,.r (ab b) (some (e.length,0)))::h) (e++[(b,k,q)])
def ka:(ts:List Tk)->(X:Type)->h0 ts X->(List DV->X->Oc)->Oc
 |[],_,h,j=>j [] h
 |.o (.i q)::ts,X,h,j=>.all Int λe=>ka ts X (h e) λd k=>j (.i q e::d) k
 |.o .b::ts,X,h,j=>.all Bool λe=>ka ts X (h e) λd k=>j (.b e::d) k
 |.o .st::ts,X,h,j=>.all ByteArray λe=>ka ts X (h e) λd k=>j (.st e::d) k
 |.o .s::ts,X,h,j=>.all Sl λe=>ka ts X (h e) λd k=>j (.sl e::d) k
 |.o .p::ts,X,h,j=>.all (Option Addr) λe=>ka ts X (h e) λd k=>j (.p e::d) k
 |.o .r::ts,X,h,j=>.all Addr λe=>ka ts X (h e) λd k=>j (.r e none::d) k
 |.o .m::ts,X,h,j=>.all (Option Nat) λe=>ka ts X (h e) λd k=>j (.m e::d) k
 |.o .v::ts,X,h,j=>.all V λe=>ka ts X (h e) λd k=>j (.v e::d) k
 |.o .f::ts,X,h,j=>.all Fv λe=>ka ts X (h e) λd k=>j (.f e::d) k
 |.a q::ts,X,h,j=>ka ts X h λd k=>j (.a (mX d 0 q)::d.drop q) k
 |.t q::ts,X,h,j=>ka ts X h λd k=>j (.t (mX d 0 q)::d.drop q) k
 |.g n w q::ts,X,h,j=>ka ts X h λd k=>j (.g n (mX d 0 w) (mX d w q)::d.drop (w+q)) k
def B7(G:DE->DL->J->aB->Oc):(l:List (Nat×Sp))->m8 l->DE->DL->Oc
 |[],d,h,e=>.all J λw=>.all aB λq=>.im (G h e w q) (d w q)
 |(t,.v j)::l,d,h,e=>ka j (m8 l) d λk d=>match k with
  |v::_=>B7 G l d ((t,v)::h) e
  |[]=>.leaf False
 |(t,.l j x)::l,d,h,e=>.all Nat λb=>ka j (m8 l) (d b) λk d=>B7 G l d ((t,.r (ab b) (some (e.length,0)))::h) (e++[(b,k,x)])
def mb:(ts:List Tk)->h0 ts Unit
 |[]=>()
 |.o (.i _)::ts=>λ_=>mb ts
 |.o .b::ts=>λ_=>mb ts
 |.o .st::ts=>λ_=>mb ts
 |.o .s::ts=>λ_=>mb ts
 |.o .p::ts=>λ_=>mb ts
 |.o .r::ts=>λ_=>mb ts
 |.o .m::ts=>λ_=>mb ts
 |.o .v::ts=>λ_=>mb ts
 |.o .f::ts=>λ_=>mb ts
 |.a _::ts=>mb ts
 |.t _::ts=>mb ts
 |.g _ _ _::ts=>mb ts
def J7:Nat->List DV->DE
 |_,[]=>[]
 |n,v::d=>(n,v)::J7 (n+1) d
def ZA(X:Fx)(es:List (gw X))(f:bX)(ts:List Tk):Oc:=ka ts Unit (mb ts) λe _=>.all J λh=>.all aB λd=>Tj d X λj _ _ _=>DV.os e λk=>.im (CY X es d [] (J7 0 e) [] h) (aj j f k.toArray h d)
abbrev At(X:Fx)(_:List (gw X))(_:List Nat)(d:Ps):Type:=m8 d
abbrev ay(P:au)(fn:Func)(ord:List (Nat×Tr))(d:List Nat)(e:Option (List bX):=none):List (gw ⟨P,fn,ord,d,e⟩):=[]
section
variable {X:Fx}
abbrev ah(es:List (gw X))(q:List Nat)(d:Ps){F:m8 d}(_:BU (λe h k j=>CY X es j (ot q) e h k) d F [] []:=by repeat' first |(intro)|((conv=>arg 1;whnf);first |exact Nf.leaf|apply Nf.bB|apply Nf.and|apply Nf.ex|apply Nf.cf|apply Nf.ca|apply Nf.cp|apply Nf.nw|apply Nf.st|apply Nf.lc|apply Nf.op|apply Nf.all|apply Nf.im|apply Nf.al|apply Nf.dr|apply Nf.at|apply Nf.or|apply Nf.cj)):At X es q d:=F
abbrev bu(es:List (gw X))(q:List Nat)(d:Ps):At X es q d:=cast (C' d) (jy d 0 (X.Sem (ot q)))
abbrev ak{es:List (gw X)}{q:List Nat}{d:Ps}(G:At X es q d){F:gU d}(_:HEq G F:=by exact HEq.rfl)(e:F=jy d 0 (X.vz es (ot q)):=by kernel_rfl):List (gw X):=Wn X es (ot q) d F e::es
abbrev bt{es:List (gw X)}{q:List Nat}{d:Ps}(G:At X es q d){F:gU d}(_:HEq G F:=by exact HEq.rfl)(e:F=jy d 0 (X.Sem (ot q)):=by kernel_rfl):List (gw X):=Wm X (ot q) d F e::es
def sU:(ts:List Tk)->(List V->Prop)->Prop
 |[],e=>e []
 |.o k::ts,e=>∀q:k.T,sU ts λd=>e (k.val q::d)
 |.a h::ts,e=>sU ts λd=>e (.agg (d.take h).toArray::d.drop h)
 |.t h::ts,e=>sU ts λd=>e (.tuple (d.take h).toArray::d.drop h)
 |.g n j h::ts,e=>sU ts λd=>e (.func (.func n) (d.take j).toArray ((d.drop j).take h).toArray::(d.drop j).drop h)
def vP:∀{ts:List Tk} {K:List V->Prop},(∀e,K e)->sU ts K
 |[],_,d=>d []
 |.o _::ts,_,d=>λ_=>vP (ts:=ts) λ_=>d _
 |.a _::ts,_,d=>vP (ts:=ts) λ_=>d _
 |.t _::ts,_,d=>vP (ts:=ts) λ_=>d _
 |.g _ _ _::ts,_,d=>vP (ts:=ts) λ_=>d _
def aC(es:List (gw X))(f:bX)(ts:List Tk){T:Prop}(_:Nf (ZA X es f ts) T:=by repeat' first |(intro)|((conv=>arg 1;whnf);first |exact Nf.leaf|apply Nf.bB|apply Nf.and|apply Nf.ex|apply Nf.cf|apply Nf.ca|apply Nf.cp|apply Nf.nw|apply Nf.st|apply Nf.lc|apply Nf.op|apply Nf.all|apply Nf.im|apply Nf.al|apply Nf.dr|apply Nf.at|apply Nf.or|apply Nf.cj))(k:X.P.funcs[f]? =some X.fn:=by kernel_rfl)(j:X.fn.body=some X.c:=by kernel_rfl)(e:(sU ts λd=>∀(w:J) (R:aB),cL (Nat.ble d.length X.fn.ntmps) (iW X.P X.n (X.A' es R) X.c [] (uY X.P X.fn R) ⟨kp 0 d,[],[],w,false⟩)->aj X.P f d.toArray w R)=T:=by kernel_rfl):T:=
 e▸vP λ_ _ _ h=>Vw X es (dC h).2 k j (dC h).1 rfl
def bF(es:List (gw X)){w:List (gw X)}{q:List Nat}{d:Ps}(F:At X w q d){T:Prop}(_:Nf (B7 (λh j x k=>CY X es k (ot q) h j x) d F [] []) T:=by repeat' first |(intro)|((conv=>arg 1;whnf);first |exact Nf.leaf|apply Nf.bB|apply Nf.and|apply Nf.ex|apply Nf.cf|apply Nf.ca|apply Nf.cp|apply Nf.nw|apply Nf.st|apply Nf.lc|apply Nf.op|apply Nf.all|apply Nf.im|apply Nf.al|apply Nf.dr|apply Nf.at|apply Nf.or|apply Nf.cj))(e:vA d (jy d 0 (X.vz es (ot q))) (jy d 0 (X.Sem (ot q)))=T:=by kernel_rfl):T:=e▸ab4 es (ot q) d
end
end Go.W
set_option maxHeartbeats 2000000
set_option maxRecDepth 100000
namespace Go.Proofs.YtjakeaplbkhjmaaGreatDoor
open Go renaming World->J,Calls->aj,Program->au,Value->V,TypeId->aE,Ending->cR,FuncId->bX,IntKind->hY
open Go.IntKind renaming wrap->aD
open Go.IntWalk renaming i64_in->br
open _root_.Bool renaming and_eq_true->be
open _root_.Nat renaming le_refl->bm,le_trans->bD,beq->bH,beq_eq->eA
open Go.Region renaming wanted->ct,ready->dY
open Go.Proofs.Tryz renaming prog->U
open _root_.Decidable renaming decide->ai
open Go.Ending renaming returned->ad
open List renaming mem_append->aK,mem_cons->aF,not_mem_nil->a5,mem_of_getElem?->aA,getElem?_eq_getElem->a0,mem_append_left->bV,mem_singleton->b',mem_cons_of_mem->cJ,drop_eq_getElem_cons->dy,take_add_one->g5,drop_of_length_le->dw
open Go Go.W
def mp{a b:Prop}(d:a)(e:a=b:=by kernel_rfl):b:=e▸d
abbrev kS:=Exit->Act->J->Prop
abbrev Hv(P:au)(n:Nat)(K:Env->J->aB->Prop)(c:Code)(Q:aB->kS):Prop:=∀(R:aB) (E:Env) (w:J),K E w R->WP P (cx n) c (Q R) E w
abbrev Hy(P:au)(n:Nat)(K:Env->J->aB->Prop)(c:Code)(Q:aB->kS):Prop:=∀(R:aB) (E:Env) (w:J),K E w R->LP P (cx n) c (Q R) E w
abbrev jx(w:J)(p:Addr)(K:Int->Int->Int->Sl->Prop):Prop:=∃d:Int,∃e:Int,∃h:Int,∃j:Sl,w.cell? (p.add 0)=some (.i d)/\w.cell? (p.add 1)=some (.int .u8 e)/\w.cell? (p.add 2)=some (.int .u8 h)/\w.cell? (p.add 3)=some (j.v)/\K d e h j
abbrev Lo(w:J)(p:Addr)(K:Int->Int->Int->ByteArray->Int->Prop):Prop:=∃d:Int,∃e:Int,∃h:Int,∃j:ByteArray,∃k:Int,w.cell? (p.add 0)=some (.int .u8 d)/\w.cell? (p.add 1)=some (.int .u8 e)/\w.cell? (p.add 2)=some (.int .u8 h)/\w.cell? (p.add 3)=some (.string j)/\w.cell? (p.add 4)=some (.i k)/\K d e h j k
abbrev Lm(w:J)(p:Addr)(K:Int->Int->Int->Prop):Prop:=∃d:Int,∃e:Int,∃h:Int,w.cell? (p.add 0)=some (.i d)/\w.cell? (p.add 1)=some (.i e)/\w.cell? (p.add 2)=some (.i h)/\K d e h
abbrev Ln(w:J)(p:Addr)(K:Int->ByteArray->Int->Prop):Prop:=∃d:Int,∃e:ByteArray,∃h:Int,w.cell? (p.add 0)=some (.i d)/\w.cell? (p.add 1)=some (.string e)/\w.cell? (p.add 2)=some (.i h)/\K d e h
abbrev X3(w:J)(p:Addr)(K:Int->Int->Prop):Prop:=∃d:Int,∃e:Int,w.cell? (p.add 0)=some (.i d)/\w.cell? (p.add 1)=some (.i e)/\K d e
abbrev I1(f:bX)(xs:Array V)(w:J)(K:Bool->J->Prop):Prop:=aj U f xs w λe h=>∃d:Bool,e=ad (.bool d)/\K d h
abbrev Vr(f:bX)(xs:Array V)(w:J)(K:Int->J->Prop):Prop:=aj U f xs w λe h=>∃d:Int,e=ad (.i d)/\K d h
abbrev VE(bs:List Nat)(f:bX)(xs:Array V)(w:J)(K:Int->J->Prop):Prop:=fH bs U f xs w λe h=>∃d:Int,e=ad (.i d)/\K d h
abbrev yN(f:bX)(xs:Array V)(w:J)(K:Int->Int->Int->Sl->J->Prop):Prop:=aj U f xs w λk q=>∃d:Int,∃e:Int,∃h:Int,∃j:Sl,k=ad (.agg #[.i d,.int .u8 e,.int .u8 h,j.v])/\K d e h j q
abbrev tz(bs:List Nat)(f:bX)(xs:Array V)(w:J)(K:Int->Int->Int->Sl->J->Prop):Prop:=fH bs U f xs w λk q=>∃d:Int,∃e:Int,∃h:Int,∃j:Sl,k=ad (.agg #[.i d,.int .u8 e,.int .u8 h,j.v])/\K d e h j q
abbrev Vs(f:bX)(xs:Array V)(w:J)(K:Int->Int->Int->ByteArray->Int->Int->J->Prop):Prop:=aj U f xs w λx y=>∃d:Int,∃e:Int,∃h:Int,∃j:ByteArray,∃k:Int,∃q:Int,x=ad (.tuple #[.agg #[.int .u8 d,.int .u8 e,.int .u8 h,.string j,.i k],.i q])/\K d e h j k q y
abbrev Vt(f:bX)(xs:Array V)(w:J)(K:(Option Addr)->J->Prop):Prop:=aj U f xs w λe h=>∃d:Option Addr,e=ad (.pointer d)/\K d h
abbrev CE(f:bX)(xs:Array V)(w:J)(K:V->J->Prop):Prop:=aj U f xs w λe h=>∃d:V,e=ad (d)/\K d h
abbrev VF(bs:List Nat)(f:bX)(xs:Array V)(w:J)(K:Int->Int->Int->Sl->Int->J->Prop):Prop:=fH bs U f xs w λq x=>∃d:Int,∃e:Int,∃h:Int,∃j:Sl,∃k:Int,q=ad (.tuple #[.agg #[.i d,.int .u8 e,.int .u8 h,j.v],.i k])/\K d e h j k x
abbrev I2(f:bX)(xs:Array V)(w:J)(K:ByteArray->J->Prop):Prop:=aj U f xs w λe h=>∃d:ByteArray,e=ad (.string d)/\K d h
abbrev CH(bs:List Nat)(f:bX)(xs:Array V)(w:J)(K:ByteArray->J->Prop):Prop:=fH bs U f xs w λe h=>∃d:ByteArray,e=ad (.string d)/\K d h
abbrev A2(w:J)(p:Addr)(d e h:V)(K:J->Prop):Prop:=aM w p d λw=>aM w (p.add 1) e λw=>aM w (p.add 2) h λw=>K w
abbrev nG(w:J)(p:Addr)(d e h j:V)(K:J->Prop):Prop:=aM w p d λw=>aM w (p.add 1) e λw=>aM w (p.add 2) h λw=>aM w (p.add 3) j λw=>K w
abbrev R1(w:J)(p:Addr)(d e h j k:V)(K:J->Prop):Prop:=aM w p d λw=>aM w (p.add 1) e λw=>aM w (p.add 2) h λw=>aM w (p.add 3) j λw=>aM w (p.add 4) k λw=>K w
abbrev nJ:Nat:=0
abbrev G':Nat:=1
abbrev bA:Nat:=3
abbrev acM:Nat:=4
abbrev hV:Nat:=5
abbrev fD:Nat:=9
abbrev acV:Nat:=22
abbrev qL:Nat:=25
abbrev ha:Nat:=26
abbrev db:Nat:=30
abbrev acS:Nat:=32
abbrev mZ:Nat:=34
abbrev Bk:Nat:=35
abbrev acU:Nat:=42
abbrev acR:Nat:=46
abbrev qK:Nat:=52
abbrev acN:Nat:=57
abbrev je:Nat:=60
abbrev ya:Nat:=61
abbrev Hc:Nat:=65
abbrev Hb:Nat:=66
abbrev SY:Nat:=67
abbrev acQ:Nat:=69
abbrev cb:Nat:=73
abbrev bW:Nat:=75
abbrev sK:Nat:=77
abbrev jK:Nat:=78
abbrev kP:Nat:=102
abbrev vr:Nat:=114
abbrev acP:Nat:=119
abbrev acT:Nat:=123
abbrev acW:Nat:=137
abbrev jf:Nat:=139
abbrev acO:Nat:=140
abbrev ma:Nat:=142
abbrev SV:Nat:=144
abbrev dc:Nat:=147
abbrev aI:Nat:=149
abbrev Bj:Nat:=173
abbrev SU:Nat:=176
abbrev pM:Nat:=179
abbrev acL:Nat:=212
abbrev Bi:Nat:=213
abbrev jg:Nat:=219
abbrev aV:Nat:=221
abbrev iK:Nat:=237
abbrev acX:Nat:=238
abbrev yb:Nat:=240
abbrev oA:Nat:=245
abbrev kO:Nat:=253
abbrev nK:Nat:=264
abbrev Ha:Nat:=271
abbrev EC:Nat:=3
abbrev Nk:Nat:=4
abbrev wZ:Nat:=5
abbrev Nq:Nat:=6
abbrev zM:Nat:=7
abbrev M2:Nat:=8
abbrev Nj:Nat:=9
abbrev Mq:Nat:=10
abbrev Mp:Nat:=11
abbrev M0:Nat:=12
abbrev Ni:Nat:=13
abbrev Nm:Nat:=14
abbrev Mt:Nat:=15
abbrev Nu:Nat:=16
abbrev Nz:Nat:=17
abbrev NC:Nat:=18
abbrev Y0:Nat:=19
abbrev EZ:Nat:=20
abbrev M1:Nat:=21
abbrev EF:Nat:=22
abbrev MY:Nat:=23
abbrev MT:Nat:=24
abbrev MR:Nat:=25
abbrev EE:Nat:=26
abbrev Nl:Nat:=27
abbrev Nh:Nat:=28
abbrev Nn:Nat:=29
abbrev No:Nat:=30
abbrev rQ:Nat:=31
abbrev pd:Nat:=32
abbrev Ff:Nat:=33
abbrev zL:Nat:=34
abbrev Ny:Nat:=35
abbrev NA:Nat:=36
abbrev Ns:Nat:=37
abbrev Nv:Nat:=38
abbrev ND:Nat:=39
abbrev Oh:Nat:=40
abbrev uv:Nat:=41
abbrev NI:Nat:=42
abbrev EP:Nat:=43
abbrev pe:Nat:=44
abbrev Nb:Nat:=45
abbrev M9:Nat:=46
abbrev Ng:Nat:=47
abbrev Na:Nat:=48
abbrev MS:Nat:=49
abbrev M3:Nat:=50
abbrev MV:Nat:=51
abbrev EN:Nat:=52
abbrev Nw:Nat:=53
abbrev Nr:Nat:=54
abbrev mM:Nat:=55
abbrev ES:Nat:=56
abbrev ET:Nat:=57
abbrev E1:Nat:=58
abbrev qo:Nat:=59
abbrev jz:Nat:=60
abbrev M4:Nat:=61
abbrev Mz:Nat:=62
abbrev MW:Nat:=63
abbrev MX:Nat:=64
abbrev Nc:Nat:=65
abbrev M5:Nat:=66
abbrev M8:Nat:=67
abbrev M6:Nat:=68
abbrev M':Nat:=69
abbrev Mw:Nat:=70
abbrev ur:Nat:=71
abbrev Od:Nat:=72
abbrev w5:Nat:=73
abbrev Nt:Nat:=74
abbrev zO:Nat:=75
abbrev w6:Nat:=76
abbrev uu:Nat:=77
abbrev NG:Nat:=78
abbrev EU:Nat:=79
abbrev E0:Nat:=80
abbrev rR:Nat:=81
abbrev Oa:Nat:=82
abbrev pc:Nat:=83
abbrev qn:Nat:=84
abbrev w3:Nat:=85
abbrev MU:Nat:=86
abbrev M7:Nat:=87
abbrev MZ:Nat:=88
abbrev MQ:Nat:=89
abbrev My:Nat:=90
abbrev Mx:Nat:=91
abbrev Oe:Nat:=92
abbrev OD:Nat:=93
abbrev Of:Nat:=94
abbrev EV:Nat:=95
abbrev EX:Nat:=96
abbrev ER:Nat:=97
abbrev YW:Nat:=98
abbrev EI:Nat:=100
abbrev Mu:Nat:=101
abbrev MG:Nat:=102
abbrev MH:Nat:=103
abbrev Mr:Nat:=104
abbrev w4:Nat:=105
abbrev MA:Nat:=106
abbrev EK:Nat:=107
abbrev MN:Nat:=108
abbrev EH:Nat:=109
abbrev MB:Nat:=110
abbrev ME:Nat:=111
abbrev Og:Nat:=112
abbrev Ou:Nat:=113
abbrev N2:Nat:=114
abbrev NH:Nat:=115
abbrev zN:Nat:=116
abbrev Ob:Nat:=117
abbrev EW:Nat:=118
abbrev EO:Nat:=119
abbrev MJ:Nat:=125
abbrev MD:Nat:=126
abbrev EG:Nat:=127
abbrev MK:Nat:=128
abbrev ML:Nat:=129
abbrev zI:Nat:=130
abbrev MP:Nat:=131
abbrev w2:Nat:=132
abbrev MF:Nat:=133
abbrev Ov:Nat:=134
abbrev Fg:Nat:=135
abbrev Ot:Nat:=136
abbrev YX:Nat:=137
abbrev EY:Nat:=138
abbrev MC:Nat:=142
abbrev zK:Nat:=143
abbrev MO:Nat:=144
abbrev Ol:Nat:=145
abbrev OB:Nat:=146
abbrev Oz:Nat:=147
abbrev Oy:Nat:=148
abbrev Ox:Nat:=149
abbrev OA:Nat:=150
abbrev N7:Nat:=151
abbrev Np:Nat:=152
abbrev NJ:Nat:=154
abbrev E2:Nat:=155
abbrev NK:Nat:=156
abbrev MI:Nat:=158
abbrev zJ:Nat:=159
abbrev MM:Nat:=160
abbrev Oo:Nat:=161
abbrev OC:Nat:=162
abbrev Om:Nat:=163
abbrev zU:Nat:=164
abbrev On:Nat:=165
abbrev Oj:Nat:=166
abbrev Oi:Nat:=167
abbrev Oq:Nat:=168
abbrev Fh:Nat:=169
abbrev N1:Nat:=170
abbrev E9:Nat:=171
abbrev zS:Nat:=172
abbrev E5:Nat:=173
abbrev Fe:Nat:=174
abbrev NL:Nat:=175
abbrev NW:Nat:=176
abbrev E6:Nat:=177
abbrev NR:Nat:=178
abbrev zT:Nat:=179
abbrev EJ:Nat:=181
abbrev rT:Nat:=182
abbrev Fb:Nat:=183
abbrev NZ:Nat:=184
abbrev E8:Nat:=185
abbrev Fa:Nat:=186
abbrev NV:Nat:=187
abbrev NS:Nat:=188
abbrev NU:Nat:=189
abbrev zR:Nat:=190
abbrev NP:Nat:=191
abbrev NY:Nat:=192
abbrev E3:Nat:=193
abbrev w7:Nat:=194
abbrev zP:Nat:=195
abbrev zQ:Nat:=196
abbrev NQ:Nat:=197
abbrev N5:Nat:=198
abbrev E4:Nat:=199
abbrev rS:Nat:=200
abbrev N9:Nat:=201
abbrev eR:Nat:=202
abbrev N3:Nat:=203
abbrev ux:Nat:=204
abbrev uy:Nat:=205
abbrev NM:Nat:=206
abbrev EM:Nat:=211
abbrev N0:Nat:=212
abbrev NN:Nat:=213
abbrev E7:Nat:=214
abbrev N6:Nat:=215
abbrev uw:Nat:=216
abbrev N8:Nat:=217
abbrev Y1:Nat:=218
abbrev NB:Nat:=219
abbrev EB:Nat:=220
abbrev Mo:Nat:=221
abbrev Mn:Nat:=222
abbrev N4:Nat:=223
abbrev NO:Nat:=224
abbrev YZ:Nat:=226
abbrev NX:Nat:=230
abbrev N':Nat:=231
abbrev YV:Nat:=240
abbrev YU:Nat:=241
namespace JE
abbrev S0:=ah (ay U Tryz.f5 [] []) [2] [(0,.I),(1,.I)]
abbrev t1:=ak S0
def ok:=aC t1 wZ [.I,.I]
end JE
namespace wh
def L0:=bu (ay U Tryz.f104 [] []) [0,1,1,1,1] [(0,.s),(1,.I),(5,.I)]
abbrev t1:=bt L0
def cr:=bF t1 L0
def ok:=aC t1 Mr [.s,.I]
end wh
namespace n0
def L0:=bu (ay U Tryz.f22 [(6,lr 9)] []) [0,1,1,1,2] [(0,.s),(1,.s),(5,.I)]
abbrev t1:=bt L0
def cr:=bF t1 L0
def ok:=aC t1 EF [.s,.s]
end n0
open Go Go.W Go.RowKit Go.Lib
def qd:fQ U vr hV (.int .u8 0) 1 1:=⟨by kernel_rfl,by kernel_rfl,rfl,dl,dl⟩
def ry:fQ U acV bA (.int .i64 0) 1 8:=⟨by kernel_rfl,by kernel_rfl,rfl,dl,dl⟩
abbrev Bytes(w:J)(s:Sl)(bs:List UInt8):Prop:=Rd w s (bs.map jR)
abbrev bI(w:J)(s:Sl)(l:List Int):Prop:=Rd w s (l.map bE)
def Bytes.len{w:J}{s:Sl}{bs:List UInt8}(d:Bytes w s bs):s.n=bs.length:=by simpa using d.1
def bI.len{w:J}{s:Sl}{bs:List Int}(d:bI w s bs):s.n=bs.length:=by simpa using d.1
def Bytes.cell{w:J}{s:Sl}{bs:List UInt8}(d:Bytes w s bs){i j:Nat}{b:UInt8}(hi:bs[i]? =some b)(e:j=i *1){K:Addr->Prop}(h:∀p,s.a=some p->w.cell? (p.add j)=some (.int .u8 (b.toNat:Int))->K p):W.dv s.a K:=
 Rd.get d (i:=i) (v:=jR b) (by simp[hi]) e h
def bI.cell{w:J}{s:Sl}{l:List Int}(d:bI w s l){i j:Nat}{b:Int}(hi:l[i]? =some b)(e:j=i *1){K:Addr->Prop}(h:∀p,s.a=some p->w.cell? (p.add j)=some (.int .i64 b)->K p):W.dv s.a K:=
 Rd.get d (i:=i) (v:=bE b) (by simp[hi]) e h
def bl(s:ByteArray):List UInt8:=s.data.toList
def ba(l:List UInt8):ByteArray:=⟨l.toArray⟩
def lM(l:List UInt8):bl (ba l)=l:=rfl
def kZ(s:ByteArray):ba (bl s)=s:=rfl
def cZ(s:ByteArray):(bl s).length=s.size:=rfl
def bc(l:List UInt8):(ba l).size=l.length:=by simp[ba,ByteArray.size]
def A7:Tryz.prog.underlying fD=some .string:=by kernel_rfl
def He:Tryz.prog.underlying hV=some (.int .u8):=by kernel_rfl
def tt{w:J}{s:Sl}{bs:List UInt8}(d:Bytes w s bs):(Go.convert vr fD s.v).run U w=.ok (.string (ba bs)) w:=by
 obtain⟨a,n,c⟩:=s;have h:=Bytes.len d;simp only at h;subst h;cases a with
 |none=>
  obtain⟨e,k⟩:=d.2.2.1 rfl;simp only at e k;obtain rfl:bs=[]:=List.eq_nil_of_length_eq_zero e;rw[run_convert_bytes_string (P:=U) w vr fD hV _ _ _ qd.ht He A7];rfl
 |some p=>
  refine run_convert_bytes_back (P:=U) w vr fD hV p c bs qd.ht He A7 λj x=>?_;obtain⟨z,y,q⟩:=d.2.2.2 j (jR bs[j]) (by simp[a0 x]);cases y;exact q
def R'(w:J)(t:ByteArray):∃e d,(Go.convert fD vr (.string t)).run U w=.ok e.v d/\Bytes d e (bl t)/\ag w d/\(∀b∈aR e,w.heap.size<=b/\b<d.heap.size):=by
 refine⟨⟨some ⟨w.heap.size,0,none⟩,t.size,grownCap w t.size 0 hV⟩,_,run_bytes_of_string (P:=U) w fD vr hV t A7 qd.ht He,⟨?_,?_,?_⟩,?_,?_⟩
 .simp [cZ]
 .exact grownCap_ge w t.size 0 _
 .refine Row.rs (T:=hV) (.inr ⟨w.heap.size,0,_,_,rfl,qj w.drew _,λi v h=>?_⟩);rw[Nat.zero_add,bytesRow,Array.getElem?_append];have k:i<t.data.size:=by have:=(List.getElem?_eq_some_iff.1 h).1;simpa[bl]using this
  rw[af (by simpa using k)];simpa[bl,jR]using h
 .exact (Fr.drew _ w).g' (Fr.alloc _ _ _)
 .intro b j;simp[aR]at j;have:(w.drew.alloc (.cells (bytesRow t (grownCap w t.size 0 hV)) hV ((bytesRow t (grownCap w t.size 0 hV)).size,(bytesRow t (grownCap w t.size 0 hV)).size+1))).heap.size=w.heap.size+1:=size_alloc _ _;omega
def F8{w:J}{s:Sl}{vs:List V}(k:s.n=vs.length)(j:s.n<=s.c)(d:s.a=none->s.c=0)(h:∀i v,vs[i]? =some v->∃p,s.a=some p/\w.cell? (p.add i)=some v):Rd w s vs:=
 ⟨k,j,λe=>⟨by have:=d e;omega,d e⟩,h⟩
def ArgNums(w:J)(s:Sl):Prop:=∃l:List Int,bI w s l/\l.length<=9223372036854775807/\∀d∈l,-9223372036854775808<=d/\d<=9223372036854775807
def arg_nums_nil(w:J):ArgNums w ⟨none,0,0⟩:=⟨[],Rd.nil w,gs,gs⟩
def arg_nums(w:J)(x:Addr)(len cap:Nat)(zs:List Int)(A:len<=zs.length)(k:len<=cap)(z:cap<=maxLen)(j:∀i,i<zs.length->w.cell? (x.add i)=some (.int .i64 (zs.getD i 0)))(y:∀n∈zs,IntKind.min .i64<=n/\n<=IntKind.max .i64):ArgNums w ⟨some x,len,cap⟩:=by
 refine⟨zs.take len,F8 (by simp;omega) k (λh=>by cases h) (λi v d=>?_),?_,λn q=>y n (List.mem_of_mem_take q)⟩
 .rw [List.getElem?_map,List.getElem?_take]at d;split at d
  .have e:i<zs.length:=io
   refine⟨x,rfl,?_⟩;rw[j i e,List.getD_eq_getElem?_getD];rw[a0 e]at d ⊢;simpa[bE]using d
  .simp at d
 .have:len<=maxLen:=io
  unfold maxLen at this;simp;omega
def dx(n m:Int):Int:=if n<0 then Int.tmod (0 - (n+1)) m else Int.tmod n m
def jQ(n m:Int)(d:1<=m):0<=dx n m/\dx n m<m:=by
 unfold dx;split
 .exact ⟨Int.tmod_nonneg _ io,Int.tmod_lt_of_pos _ io⟩
 .exact ⟨Int.tmod_nonneg _ io,Int.tmod_lt_of_pos _ io⟩
abbrev cO(n:Int):Prop:=-9223372036854775808<=n/\n<=9223372036854775807
def HX(n m:Int)(w:J)(q:1<=m)(d:cO n):
  aj U wZ #[.int .i64 n,.int .i64 m] w λr h=>r=ad (.int .i64 (dx n m))/\w=h:=by
 obtain⟨j,k⟩:=d;refine JE.ok ?_;refine bq (λd=>?_) (λd=>?_)
 .have e:n<0:=by simpa using d
  refine⟨io,?_,rfl⟩;rw[show aD .i64 (n+1)=n+1 from br _ io,show aD .i64 (0 - (n+1))=0 - (n+1)from br _ io];unfold dx;rw[af e]
 .have e:¬n<0:=by simpa using d
  refine⟨io,?_,rfl⟩;unfold dx;rw[aa e]
def abh{w:J}{s t:Sl}{a b:List Int}(z:bI w s a)(A:bI w t b)(H:a.length<=1000000000000):
  aj U EF #[s.v,t.v] w λr e=>r=ad (.bool (ai (a=b)))/\ag w e:=by
 have j:=bI.len z;have y:=bI.len A;refine n0.ok ?_;refine bq (λd=>?_) (λd=>?_)
 .refine ⟨?_,Fr.refl _ _⟩;have:a≠b:=λh=>by subst h;rw[j,y]at d;simp at d
  simp[this]
 .have hlen:a.length=b.length:=by rw[j,y]at d;simp at d;omega
  have main:∀(n i:Nat),i+n=a.length->a.take i=b.take i->∀e,ag w e->n0.L0 s t (i:Int) e λr e=>r=ad (.bool (ai (a=b)))/\ag w e:=by
   intro n;induction n with
   |zero=>
    intro i D q e x;refine n0.cr ?_;refine aW (by rw[j];simp;omega) ⟨?_,x⟩;rw[List.take_of_length_le io,List.take_of_length_le io]at q;simp[q]
   |succ n G=>
    intro i D q e x;have B:a[i]? =some a[i]:=a0 io;have C:b[i]? =some b[i]:=a0 io;refine n0.cr ?_;have k:ag w e.drew:=x.g' (Fr.drew _ _);refine aU (by rw[j];simp;omega) ⟨io,by rw[j];omega,bI.cell (z.cC k) B gs λp _ E=>⟨_,E,io,by rw[y];omega,bI.cell (A.cC k) C gs λI _ F=>⟨_,F,bq (λd=>?_) (λd=>?_)⟩⟩⟩
    .refine ⟨?_,k⟩;have:a≠b:=λh=>by subst h;simp at d
     simp[this]
    .show n0.L0 s t (aD .i64 ((i:Int)+1)) _ _;rw[show aD .i64 ((i:Int)+1)=((i+1:Nat):Int)from by rw[br _ io];omega];refine G (i+1) io ?_ _ k;have h:a[i]=b[i]:=by simpa using d
     rw[g5,g5,B,C,q,h]
  exact main a.length 0 io gs w (Fr.refl _ _)
def bT{w:J}(D:List En)(e:∀d∈D,d.P w):O F0 w w [] D:=O.start D e
inductive Rx where
 |mk (k:Int) (lo hi:UInt8) (l:List Rx)
inductive I where
 |mk (k:Int) (lo hi:UInt8) (s:Sl) (l:List I)
namespace I
def k:I->Int|.mk k _ _ _ _=>k
def lo:I->UInt8|.mk _ lo _ _ _=>lo
def hi:I->UInt8|.mk _ _ hi _ _=>hi
def s:I->Sl|.mk _ _ _ s _=>s
def l:I->List I|.mk _ _ _ _ l=>l
mutual
def rx:I->Rx|.mk k lo hi _ l=>.mk k lo hi (ao l)
def ao:List I->List Rx
 |[]=>[]
 |t::l=>t.rx::ao l
end
mutual
def sz:I->Nat|.mk _ _ _ _ l=>1+a3 l
def a3:List I->Nat
 |[]=>0
 |t::l=>t.sz+a3 l
end
def c(t:I):List V:=[.int .i64 t.k,.int .u8 (t.lo.toNat:Int),.int .u8 (t.hi.toNat:Int),t.s.v]
abbrev v(t:I):V:=.agg #[.int .i64 t.k,.int .u8 (t.lo.toNat:Int),.int .u8 (t.hi.toNat:Int),t.s.v]
abbrev row(s:Sl)(l:List I):En:=.a2 4 s (l.flatMap c)
mutual
def P(w:J):I->Prop|.mk _ _ _ s l=>bo 4 w s (l.flatMap c)/\Ps w l
def Ps(w:J):List I->Prop
 |[]=>True
 |t::l=>P w t/\Ps w l
end
mutual
def fp:I->List Nat|.mk _ _ _ s l=>(row s l).fp++bd l
def bd:List I->List Nat
 |[]=>[]
 |t::l=>fp t++bd l
end
def pZ(t:I):(c t).length=4:=rfl
def hL(l:List I):(l.flatMap c).length=l.length *4:=o1 c 4 pZ l
def cw{w:J}{s:Sl}{l:List I}(d:bo 4 w s (l.flatMap c)):s.n=l.length:=by have:=d.1;rw[hL]at this;omega
def fN:∀l:List I,ao l=l.map rx
 |[]=>rfl
 |t::l=>by unfold ao;rw[fN l];rfl
mutual
def cD{w w':J}:∀(t:I),(∀b∈t.fp,b<w.heap.size->w'.heap[b]? =w.heap[b]?)->P w t->P w' t
 |.mk k lo hi s l,d,h=>by unfold fp at d;unfold P at h ⊢;exact⟨(row s l).st w w' (λb e=>d b (bV _ e)) h.1,keeps l (λb e=>d b (List.mem_append_right _ e)) h.2⟩
def keeps{w w':J}:∀(l:List I),(∀b∈bd l,b<w.heap.size->w'.heap[b]? =w.heap[b]?)->Ps w l->Ps w' l
 |[],_,_=>by unfold Ps;trivial
 |t::l,d,h=>by unfold bd at d;unfold Ps at h ⊢;exact⟨cD t (λb e=>d b (bV _ e)) h.1,keeps l (λb e=>d b (List.mem_append_right _ e)) h.2⟩
end
mutual
def lt{w:J}:∀(t:I),P w t->∀b∈t.fp,b<w.heap.size
 |.mk k lo hi s l,e,b,d=>by
  unfold fp at d;unfold P at e;rcases aK.1 d with d|d
  .exact (row s l).lt w e.1 b d
  .exact Eu l e.2 b d
def Eu{w:J}:∀(l:List I),Ps w l->∀b∈bd l,b<w.heap.size
 |[],_,b,d=>by unfold bd at d;cases d
 |t::l,e,b,d=>by
  unfold bd at d;unfold Ps at e;rcases aK.1 d with d|d
  .exact lt t e.1 b d
  .exact Eu l e.2 b d
end
def P.cC{w w':J}{t:I}(d:P w t)(f:ag w w'):P w' t:=cD t (λb _ e=>f.cD b e id) d
def Ps.cC{w w':J}{l:List I}(d:Ps w l)(f:ag w w'):Ps w' l:=keeps l (λb _ e=>f.cD b e id) d
def Ps.get{w:J}:∀{l:List I},Ps w l->∀{i:Nat} {t:I},l[i]? =some t->P w t
 |[],_,i,t,d=>by simp at d
 |a::l,e,0,t,d=>by unfold Ps at e;simp at d;subst d;exact e.1
 |a::l,e,i+1,t,d=>by unfold Ps at e;exact Ps.get e.2 (by simpa using d)
def Ps.mem{w:J}{l:List I}(d:Ps w l){t:I}(e:t∈l):P w t:=by obtain⟨i,hi⟩:=List.mem_iff_getElem?.1 e;exact d.get hi
def jD{w:J}:∀{l:List I},(∀t∈l,P w t)->Ps w l
 |[],_=>by unfold Ps;trivial
 |t::l,d=>by unfold Ps;exact⟨d t gs,jD λh e=>d h (by simp[e])⟩
def bS:∀{l:List I} {b:Nat},b∈bd l↔∃t∈l,b∈t.fp
 |[],b=>by unfold bd;simp
 |t::l,b=>by unfold bd;rw[aK,bS];simp
def eJ:∀{l:List I} {t:I},t∈l->t.sz<=a3 l
 |a::l,t,d=>by
  unfold a3;rcases aF.1 d with rfl|d
  .omega
  .have:=eJ d;omega
def mU(t:I):1<=t.sz:=by cases t;unfold sz;omega
def ga:∀l:List I,l.length<=a3 l
 |[]=>gs
 |t::l=>by have:=ga l;have:=mU t;unfold a3;simp only[List.length_cons];omega
def P.parts{w:J}{t:I}(d:P w t):bo 4 w t.s (t.l.flatMap c)/\Ps w t.l:=by cases t;unfold P at d;exact d
def gC{t:I}{b:Nat}:b∈t.fp↔b∈(row t.s t.l).fp\/b∈bd t.l:=by cases t;unfold fp;exact aK
def iJ(t:I):t.sz=1+a3 t.l:=by cases t;rfl
def fi(t:I):t.rx=.mk t.k t.lo t.hi (ao t.l):=by cases t;rfl
structure hZ(w:J)(p:Addr)(i:Nat)(t:I):Prop where
 c0:w.cell? ((p.add (i *4)).add 0)=some (.int .i64 t.k)
 c1:w.cell? ((p.add (i *4)).add 1)=some (.int .u8 (t.lo.toNat:Int))
 c2:w.cell? ((p.add (i *4)).add 2)=some (.int .u8 (t.hi.toNat:Int))
 c3:w.cell? ((p.add (i *4)).add 3)=some t.s.v
def aT{w:J}{s:Sl}{l:List I}(e:bo 4 w s (l.flatMap c)){i:Nat}{t:I}(hi:l[i]? =some t){K:Addr->Prop}(h:∀p,s.a=some p->hZ w p i t->K p):dv s.a K:=
 fq.elem (f:=c) (sz:=4) pZ io e.2.2 hi λp j d=>h p j ⟨d 0 _ rfl,d 1 _ rfl,d 2 _ rfl,d 3 _ rfl⟩
def again{w:J}{s:Sl}{l:List I}(q:bo 4 w s (l.flatMap c)){i:Nat}{t:I}(hi:l[i]? =some t){p:Addr}(y:s.a=some p):hZ w p i t:=by have h:=aT q hi (K:=λe=>∃j,s.a=some j/\hZ w j i t) (λe d x=>⟨e,d,x⟩);rw[y]at h;obtain⟨e,d,k⟩:=h;cases d;exact k
end I
def _root_.Go.W.En.tree(t:I):En:=⟨mO t.fp,λh=>t.P h,λh k j e=>I.cD t (λb d=>j b (a7.2 d)) e,λh e b d=>I.lt t e b (a7.1 d),uB _⟩
def _root_.Go.W.En.trees(l:List I):En:=⟨mO (I.bd l),λh=>I.Ps h l,λh k j e=>I.keeps l (λb d=>j b (a7.2 d)) e,λh e b d=>I.Eu l e b (a7.1 d),uB _⟩
namespace Rx
def k:Rx->Int|.mk k _ _ _=>k
def lo:Rx->UInt8|.mk _ lo _ _=>lo
def hi:Rx->UInt8|.mk _ _ hi _=>hi
def l:Rx->List Rx|.mk _ _ _ l=>l
mutual
def sz:Rx->Nat|.mk _ _ _ l=>1+a3 l
def a3:List Rx->Nat
 |[]=>0
 |t::l=>t.sz+a3 l
end
end Rx
mutual
def I.ek:∀t:I,t.rx.sz=t.sz
 |.mk e lo d s l=>by unfold I.rx Rx.sz I.sz;rw[I.xF l]
def I.xF:∀l:List I,Rx.a3 (I.ao l)=I.a3 l
 |[]=>rfl
 |t::l=>by unfold I.ao Rx.a3 I.a3;rw[I.ek t,I.xF l]
end
namespace CQ
def ok:=aC (ay U Tryz.f240 [] []) YV [.I]
end CQ
namespace CP
def ok:=aC (ay U Tryz.f241 [] []) YU [.Y]
end CP
namespace Jj
def ok:=aC (ay U Tryz.f221 [] []) Mo [.I,.I]
end Jj
namespace Ji
def ok:=aC (ay U Tryz.f222 [] []) Mn [.Y,.Y]
end Ji
namespace v3
def L0:=bu (ay U Tryz.f220 [] []) [0,1,1,1,2] [(3,.I),(6,.s),(7,.I),(8,.I)]
abbrev t1:=bt L0
def cr:=bF t1 L0
def ok:=aC t1 EB [.s]
end v3
namespace Qv
def aq:=aC (ay U Tryz.f202 [(1,ls [0,1,2,3,5,6,7,8,10,11,12,13,4,9,14,15,16,17])] [2,3]) eR [.a 4,.I,.Y,.Y,.s,.a 4,.I,.Y,.Y,.s]
end Qv
namespace xK
def a4:=bu (ay U Tryz.f223 [] [8,9]) [0,1,1,1,1] [(0,.s),(1,.s),(2,.v [.g eR 0 0]),(11,.s),(12,.I),(13,.I)]
abbrev t1:=bt a4
def bR:=bF t1 a4
def aq:=aC t1 N4 [.s,.s,.g eR 0 0]
end xK
namespace Qz
def aq:=aC (ay U Tryz.f200 [] [2,3]) rS [.a 4,.I,.Y,.Y,.s,.a 4,.I,.Y,.Y,.s]
end Qz
def cB(a b:Int):Int:=if a<b then -1 else if b<a then 1 else 0
def ej:List Int->Int
 |[]=>0
 |c::l=>if c≠0 then c else ej l
def U3(a b:Int)(w:J):aj U Mo #[.int .i64 a,.int .i64 b] w λr k=>r=ad (.int .i64 (cB a b))/\ag w k:=by
 refine Jj.ok (CQ.ok ⟨_,rfl,CQ.ok ⟨_,rfl,?_⟩⟩);have h:(a !=a)=false:=gs
 have j:(b !=b)=false:=gs
 rw[h,j];refine aW rfl (aW rfl (aY (λd=>⟨?_,Fr.refl _ _⟩) (λd=>aY (λe=>⟨?_,Fr.refl _ _⟩) (λe=>⟨?_,Fr.refl _ _⟩))))
 .unfold cB;rw[af d]
 .unfold cB;rw[aa d,af e]
 .unfold cB;rw[aa d,aa e]
def I0(a b:Int)(w:J):aj U Mn #[.int .u8 a,.int .u8 b] w λr k=>r=ad (.int .i64 (cB a b))/\ag w k:=by
 refine Ji.ok (CP.ok ⟨_,rfl,CP.ok ⟨_,rfl,?_⟩⟩);have h:(a !=a)=false:=gs
 have j:(b !=b)=false:=gs
 rw[h,j];refine aW rfl (aW rfl (aY (λd=>⟨?_,Fr.refl _ _⟩) (λd=>aY (λe=>⟨?_,Fr.refl _ _⟩) (λe=>⟨?_,Fr.refl _ _⟩))))
 .unfold cB;rw[af d]
 .unfold cB;rw[aa d,af e]
 .unfold cB;rw[aa d,aa e]
def ZM{w:J}{s:Sl}{l:List Int}(k:bI w s l)(A:l.length<=1000000):aj U EB #[s.v] w λr j=>r=ad (.int .i64 (ej l))/\ag w j:=by
 refine v3.ok ?_;have B:=bI.len k;have loop:∀(d i:Nat),i+d=l.length->ej (l.drop i)=ej l->v3.L0 0 s (s.n:Int) (i:Int) w λr j=>r=ad (.int .i64 (ej l))/\ag w j:=by
  intro d;induction d with
  |zero=>
   intro i x e;rw[dw io]at e;exact v3.cr (aW (aS io) ⟨by rw[<-e];rfl,Fr.refl _ _⟩)
  |succ d z=>
   intro i x e;have q:l[i]? =some (l[i]'io):=a0 io;rw[dy io]at e;generalize l[i]'io=c at q e;refine v3.cr (aU (aQ io) ⟨io,io,bI.cell k q gs λp _ y=>⟨c,y,cz (λh=>?_) (λh=>?_)⟩⟩)
   .refine ⟨?_,Fr.refl _ _⟩;rw[<-e];unfold ej;rw[af h]
   .rw [bp _ io];refine z (i+1) io ?_;rw[<-e];conv=>rhs;unfold ej
    rw[aa (by simpa using h)]
 exact loop l.length 0 io gs
def Zw(w:J)(l:List Int)(n:Nat)(d:n=l.length):bI (w.alloc (.cells (l.map bE).toArray bA)) ⟨some (ab w.heap.size),n,n⟩ l:=
 ⟨by simp[d],bm _,(Row.made w bA n n (l.map bE)).rs⟩
section
variable {M:Nat->Prop} {w0 w:J} {L D:List En} {bs:List Nat}
def _root_.Go.W.O.or(H:O M w0 w L D){l:List Int}{n:Nat}{K:aB}(k:n=l.length)(j:l.length<=1000000)(h:∀d,O M w0 d L D->K (ad (.int .i64 (ej l))) d):
  c9 w (.cells (l.map bE).toArray bA) λx=>fH bs U EB #[.slice (some (Addr.mk w.heap.size 0 none)) n n] x K:=
 (H.cC (Fr.alloc _ _ _)).av (ZM (s:=⟨some (ab w.heap.size),n,n⟩) (Zw w l n k) j) λ_ d q e=>q▸h d e
end
mutual
def bn:Rx->Rx->Int
 |.mk e lo d l,b=>if ej [cB e b.k,cB lo.toNat b.lo.toNat,cB d.toNat b.hi.toNat]≠0 then ej [cB e b.k,cB lo.toNat b.lo.toNat,cB d.toNat b.hi.toNat]else cmpL l b.l
def cmpL:List Rx->List Rx->Int
 |[],[]=>0
 |[],_::_=>-1
 |_::_,[]=>1
 |a::l,b::m=>if bn a b≠0 then bn a b else cmpL l m
end
abbrev Hq(n:Nat):Prop:=∀(a b:I) (w:J),a.sz<=n->a.P w->b.P w->aj U eR #[a.v,b.v] w λr d=>r=ad (.int .i64 (bn a.rx b.rx))/\ag w d
def Ux(n:Nat)(hn:n<=1000000)(W:Hq n)(h lb:List I)(j k:Sl)(w:J)(G:bo 4 w j (h.flatMap I.c))(H:bo 4 w k (lb.flatMap I.c))(Z:I.Ps w h)(pb:I.Ps w lb)(hs:I.a3 h<=n):
  aj U N4 #[j.v,k.v,.func (.func eR) #[] #[]] w λr E=>r=ad (.int .i64 (cmpL (I.ao h) (I.ao lb)))/\ag w E:=by
 have na:=I.cw G;have nb:=I.cw H;have hl:=I.ga h;have loop:∀(d i:Nat) (A:J),i+d=h.length->i<=lb.length->cmpL (I.ao (h.drop i)) (I.ao (lb.drop i))=cmpL (I.ao h) (I.ao lb)->O F0 w A [] [I.row j h,I.row k lb,.trees h,.trees lb]->
   xK.a4 j k j (j.n:Int) (i:Int) A λr E=>r=ad (.int .i64 (cmpL (I.ao h) (I.ao lb)))/\ag w E:=by
  intro d;induction d with
  |zero=>
   intro i A P Q e q;rw[dw io]at e;refine xK.bR (aW (aS io) (aY (λM=>⟨?_,q.fr⟩) (λM=>⟨?_,q.fr⟩)))
   .rw [dy io]at e;rw[<-e];rfl
   .rw [dw io]at e;rw[<-e];rfl
  |succ d Y=>
   intro i A P Q e q;have y:h[i]? =some (h[i]'io):=a0 io;rw[dy io]at e;generalize h[i]'io=a at y e;refine xK.bR (aU (aQ io) ⟨io,io,?_⟩);refine I.aT (q.getD 0) y λp hp c=>⟨_,_,_,_,c.c0,c.c1,c.c2,c.c3,q.ax λb8 w2 B=>aY (λN=>B.ae λw3 x=>⟨?_,x.fr⟩) (λS=>⟨io,io,?_⟩)⟩
   .have ac:(k.n:Int)<=(i:Int):=N;rw[dw (by omega:lb.length<=i)]at e;rw[<-e];rfl
   .have ah:¬(k.n:Int)<=(i:Int):=S;have z:lb[i]? =some (lb[i]'io):=a0 io;rw[dy (by omega:i<lb.length)]at e;generalize lb[i]'io=b at z e;refine I.aT (B.getD 1) z λak T _=>B.ae λw3 x=>?_;have c:=I.again (x.getD 1) z T;refine⟨_,_,_,_,c.c0,c.c1,c.c2,c.c3,x.ax λb9 w4 K=>K.ae λw5 C=>?_⟩;have am:=I.eJ (aA y);refine C.av (W a b w5 io (I.Ps.get (C.getD 2) y) (I.Ps.get (C.getD 3) z)) ?_;rintro _ w6 rfl F;have L:cmpL (I.ao (a::h.drop (i+1))) (I.ao (b::lb.drop (i+1)))=if bn a.rx b.rx≠0 then bn a.rx b.rx else cmpL (I.ao (h.drop (i+1))) (I.ao (lb.drop (i+1))):=rfl;rw[L]at e;refine⟨_,rfl,cz (λD=>⟨?_,F.fr⟩) (λD=>?_)⟩
    .rw [af D]at e;rw[e]
    .rw [aa (by simpa using D)]at e;rw[bp _ io];exact Y (i+1) w6 io io e (F.take 0)
 exact xK.aq (loop h.length 0 w io io gs (bT _ (by
  intro ab e;simp only[aF,a5,a9]at e;rcases e with rfl|rfl|rfl|rfl
  .exact G
  .exact H
  .exact Z
  .exact pb)))
def Ip:∀n:Nat,n<=1000000->Hq n
 |0,_=>λa b L q _ _=>absurd q (by have:=I.mU a;omega)
 |n+1,Y=>λa b L q x z=>by
  have K:=Ip n io;have Z:=I.iJ a;have T:=x.parts;have W:=z.parts;refine Qv.aq ((bT [.tree a,.tree b] (by
   intro e w;simp only[aF,a5,a9]at w;rcases w with rfl|rfl
   .exact x
   .exact z)).ax λQ w1 B=>B.ax λS w2 C=>C.ae λM D=>D.av (U3 _ _ M) ?_)
  rintro _ N rfl E;refine⟨_,rfl,E.av (I0 _ _ N) ?_⟩;rintro _ O rfl F;refine⟨_,rfl,F.av (I0 _ _ O) ?_⟩;rintro _ w6 rfl G;refine⟨_,rfl,G.or (l:=[cB a.k b.k,cB a.lo.toNat b.lo.toNat,cB a.hi.toNat b.hi.toNat]) rfl gs λj d=>?_⟩;have e:bn a.rx b.rx=if ej [cB a.k b.k,cB a.lo.toNat b.lo.toNat,cB a.hi.toNat b.hi.toNat]≠0 then ej [cB a.k b.k,cB a.lo.toNat b.lo.toNat,cB a.hi.toNat b.hi.toNat]else cmpL (I.ao a.l) (I.ao b.l):=by rw[I.fi a,I.fi b];unfold bn;rfl
  refine⟨_,rfl,cz (λh=>⟨?_,d.fr⟩) (λh=>?_)⟩
  .rw [e,af h]
  .have y:a.P j:=d.getD 0;have A:b.P j:=d.getD 1;refine d.av (Ux n io K a.l b.l a.s b.s j y.parts.1 A.parts.1 y.parts.2 A.parts.2 io) ?_;rintro _ w8 rfl H;refine⟨_,rfl,?_,H.fr⟩;rw[e,aa (by simpa using h)]
def Io(a b:I)(w:J)(d:a.sz<=1000000)(e:a.P w)(h:b.P w):aj U eR #[a.v,b.v] w λr j=>r=ad (.int .i64 (bn a.rx b.rx))/\ag w j:=Ip 1000000 (bm _) a b w d e h
def vV(a b:I)(w:J)(k:a.sz<=1000000)(q:a.P w)(x:b.P w):aj U rS #[a.v,b.v] w λr y=>r=ad (.bool (bn a.rx b.rx==0))/\ag w y:=by
 refine Qz.aq ((bT [.tree a,.tree b] (by
  intro C e;simp only[aF,a5,a9]at e;rcases e with rfl|rfl
  .exact q
  .exact x)).ax λA D h=>h.ax λB z d=>d.av (Io a b z k (d.getD 0) (d.getD 1)) ?_)
 rintro _ E rfl j;exact⟨_,rfl,rfl,j.fr⟩
namespace xr
def cu:=bu (ay U Tryz.f191 [] [2]) [0,1,1,1,2] [(1,.I),(2,.l [.I,.Y,.Y,.s] aV),(5,.I)]
abbrev t1:=bt cu
abbrev bC:=ah t1 [3] [(1,.I)]
abbrev t2:=ak bC
def dQ:=bF t2 cu
abbrev a1:=ah t2 [2] [(1,.I),(2,.l [.I,.Y,.Y,.s] aV)]
abbrev t3:=ak a1
def aq:=aC t3 NP [.a 4,.I,.Y,.Y,.s,.I]
end xr
namespace QT
def aq:=aC (ay U Tryz.f174 [] [1]) Fe [.a 4,.I,.Y,.Y,.s]
end QT
namespace nE
abbrev P0:Ps:=[]
abbrev a1:=ah (ay U Tryz.f192 [] [1,4]) [0,1,1,1,1] P0
abbrev t1:=ak a1
abbrev P1:Ps:=[(1,.l [.I,.Y,.Y,.s] aV)]
abbrev bC:=ah t1 [0,1,1,1,1,1,2] P1
abbrev t2:=ak bC
def iO:=bu t2 [0,1,1,1,3] [(52,.s),(53,.I),(54,.I)]
abbrev t3:=bt iO
def mj:=bF t3 iO
abbrev ft:=ah t3 [3] P1
abbrev t4:=ak ft
abbrev ng:=ah t4 [0,1,7,1,1,1,2] P1
abbrev t5:=ak ng
abbrev qX:=ah t5 [8,1,1,1,2] P0
abbrev t6:=ak qX
abbrev P2:Ps:=[(1,.l [.I,.Y,.Y,.s] aV),(19,.I)]
abbrev kW:=ah t6 [6,1,1,1,2] P2
abbrev t7:=ak kW
abbrev cF:=ah t7 [2,1,1,1,2] P2
abbrev t8:=ak cF
abbrev bh:=ah t8 [2] P1
abbrev t9:=ak bh
def aq:=aC t9 NY [.a 4,.I,.Y,.Y,.s]
end nE
namespace Qx
def aq:=aC (ay U Tryz.f175 [] [1]) NL [.a 4,.I,.Y,.Y,.s]
end Qx
namespace xq
def a4:=bu (ay U Tryz.f193 [] [1,2,5]) [0,1,1,1,2] [(1,.l [.I,.Y,.Y,.s] aV),(2,.l [.I,.Y,.Y,.s] aV),(3,.s),(7,.s),(8,.I),(9,.I)]
abbrev t1:=bt a4
def bR:=bF t1 a4
def aq:=aC t1 E3 [.a 4,.I,.Y,.Y,.s]
end xq
namespace QJ
def aq:=aC (ay U Tryz.f176 [] [1,2]) NW [.a 4,.I,.Y,.Y,.s]
end QJ
def gH{w:J}{t:I}(e:t.P w):O F0 w w [] [.tree t]:=bT _ (by intro h d;simp only[aF,a5,a9]at d;subst d;exact e)
def gg(w:J)(x:Rx)(r:cR)(w':J):Prop:=∃t:I,r=ad t.v/\t.rx=x/\t.P w'/\∀b∈t.fp,w.heap.size<=b
section
variable {M:Nat->Prop} {w0 w:J} {L D:List En} {bs:List Nat}
def _root_.Go.W.O.su(H:O M w0 w L D)(i j:Nat){ts:List I}{t:I}(hi:D[i]? =some (.trees ts):=by rfl)(h:D[j]? =some (.tree t):=by rfl):O M w0 w L (D++[.trees (ts++[t])]):=by
 refine H.ec _ (Fr.refl _ _) (I.jD λk d=>?_) λb q=>.inr (.inr ?_)
 .rcases aK.1 d with d|d
  .exact I.Ps.mem (H.getD i hi) d
  .simp at d;subst d;exact H.getD j h
 .obtain ⟨k,d,e⟩:=I.bS.1 (a7.1 q);rcases aK.1 d with d|d
  .exact ⟨_,aA hi,a7.2 (I.bS.2 ⟨k,d,e⟩)⟩
  .simp at d;rw[d]at e;exact⟨_,aA h,a7.2 e⟩
def gL{e:aE}{s:Sl}{vs:List V}{b:Nat}(d:b∈(En.a2 4 s vs).fp):b∈(En.row e 4 s vs).fp:=by
 have:b∈(if vs=[]then[]else aR s):=d;split at this
 .grind
 .exact this
def _root_.Go.W.O.sg(H:O M w0 w L D)(i j:Nat){e:aE}{s:Sl}{ts:List I}(k:Int)(lo hi:UInt8)(q:L[i]? =some (.row e 4 s (ts.flatMap I.c)):=by rfl)(x:D[j]? =some (.trees ts):=by rfl):O M w0 w (L.eraseIdx i) (D++[I.row s ts]++[.tree (.mk k lo hi s ts)]):=by
 have y:=H.freeze i (I.row s ts) q (aL.a2 (H.get i q)) λb h=>gL h;refine y.ec _ (Fr.refl _ _) ?_ λb h=>.inr (.inr ?_)
 .show I.P w _;unfold I.P;exact⟨aL.a2 (H.get i q),H.getD j x⟩
 .have d:=a7.1 h;unfold I.fp at d;rcases aK.1 d with d|d
  .grind
  .exact ⟨_,bV _ (aA x),a7.2 d⟩
end
def tu(l:List I):∀u∈l.flatMap I.c,u.oneCell'=true:=λu e=>by obtain⟨h,_,d⟩:=List.mem_flatMap.1 e;simp only[I.c,aF,a5,a9]at d;rcases d with rfl|rfl|rfl|rfl<;>rfl
def rz:fQ U jg aV (.agg #[.int .i64 0,.int .u8 0,.int .u8 0,.slice none 0 0]) 4 40:=⟨by kernel_rfl,by kernel_rfl,rfl,dl,dl⟩
def nq(l:List I)(t:I):(l++[t]).flatMap I.c=l.flatMap I.c++t.c:=gs
def kG(l m:List I):I.ao (l++m)=I.ao l++I.ao m:=by simp[I.fN]
def vi:∀(l m:List I),I.a3 (l++m)=I.a3 l+I.a3 m
 |[],m=>by simp[I.a3]
 |t::l,m=>by show t.sz+I.a3 (l++m)=t.sz+I.a3 l+I.a3 m;rw[vi l m];omega
def A8(l:List I)(i:Nat):I.a3 (l.take i)<=I.a3 l:=by have:=vi (l.take i) (l.drop i);rw[List.take_append_drop]at this;omega
abbrev Tw(n:Nat):Prop:=∀(t:I) (x:Nat) (w:J),t.sz<=n->x<=1000000->t.P w->aj U NP #[t.v,.int .i64 (x:Int)] w λr d=>r=ad (.int .i64 (max ((x:Int) - t.sz) (-1)))/\ag w d
def IC:∀n:Nat,n<=1000000->Tw n
 |0,_=>λt x z A _ _=>absurd A (by have:=I.mU t;omega)
 |n+1,Z=>λt x z A hx S=>by
  have M:=IC n io;have hs:=I.iJ t;have Y:=I.ga t.l;have loop:∀(d i:Nat) (y:Int) (j:Nat) (e:J),i+d=t.l.length->-1<=y->y<=1000000->max (y - I.a3 (t.l.drop i)) (-1)=max ((x:Int) - t.sz) (-1)->O F0 z e [.g j] [.tree t]->
    xr.cu y j t.k t.lo.toNat t.hi.toNat t.s (i:Int) e λr T=>r=ad (.int .i64 (max ((x:Int) - t.sz) (-1)))/\ag z T:=by
   intro d;induction d with
   |zero=>
    intro i y j e G H L q h;have Q:=I.cw (show t.P e from h.getD 0).parts.1;rw[dw io]at q;refine xr.dQ (aW (aS io) ⟨?_,h.fr⟩);rw[<-q];congr 2;simp only[I.a3];omega
   |succ d N=>
    intro i y j e G H L q h;have Q:=I.cw (show t.P e from h.getD 0).parts.1;have w:t.l[i]? =some (t.l[i]'io):=a0 io;rw[dy io]at q;generalize t.l[i]'io=a at w q;have aa:=I.eJ (aA w);unfold I.a3 at q;refine xr.dQ (aU (aQ io) (aY (λB=>⟨io,io,?_⟩) (λB=>⟨?_,h.fr⟩)))
    .have C:t.P e:=h.getD 0;refine I.aT C.parts.1 w λp hp c=>⟨_,_,_,_,c.c0,c.c1,c.c2,c.c3,?_⟩;have K:0<=y:=B;obtain⟨m,rfl⟩:=Int.eq_ofNat_of_zero_le K;refine h.av (M a m e io io (C.parts.2.get w)) ?_;rintro _ W rfl E;refine⟨_,rfl,?_⟩;rw[bp _ io];refine N (i+1) _ j W io io io ?_ E;omega
    grind
  have F:aD .i64 ((x:Int) - 1)=(x:Int) - 1:=br _ io;refine xr.aq ((gH S).ax λj e D=>?_);rw[F];refine loop t.l.length 0 _ j e io io io ?_ D
  grind
def CD(t:I)(w:J)(h:t.sz<=1000000)(j:t.P w):aj U Fe #[t.v] w λr k=>r=ad (.bool (ai (64<t.sz)))/\ag w k:=by
 refine QT.aq ((gH j).ax λx q d=>d.av (IC 1000000 (bm _) t 64 q h io (d.getD 0)) ?_);rintro _ y rfl e;refine⟨_,rfl,?_,e.fr⟩;congr 2
 grind
mutual
def cN:Rx->Bool
 |.mk d lo e l=>!(d !=2&&(lo !=0||e !=0))&&(if d=0\/d=1 then l.isEmpty else if d=2 then l.isEmpty&&ai (lo.toNat<=e.toNat)else if d=3\/d=4\/d=5 then dT l else if d=6\/d=7 then l.length==1&&dT l else false)
def dT:List Rx->Bool
 |[]=>true
 |t::l=>cN t&&dT l
end
abbrev TH(n:Nat):Prop:=∀(t:I) (w:J),t.sz<=n->t.P w->aj U NY #[t.v] w λr d=>r=ad (.bool (cN t.rx))/\ag w d
def Dh(l:List I):(I.ao l).isEmpty=((l.length:Int)==0):=by
 rw[I.fN];cases l with
 |nil=>rfl
 |cons a l=>
  grind
def IN:∀n:Nat,n<=1000000->TH n
 |0,_=>λt q S _=>absurd S (by have:=I.mU t;omega)
 |n+1,C=>λt q S pt=>by
  have ih:=IN n io;have hs:=I.iJ t;have hl:=I.ga t.l;have K:=I.cw pt.parts.1;have loop:∀(b:Bool),cN t.rx=(b&&dT (I.ao t.l))->b=true->∀(d i:Nat) (h:J),i+d=t.l.length->dT (I.ao (t.l.drop i))=dT (I.ao t.l)->O F0 q h [] [.tree t]->
    nE.iO t.s (t.s.n:Int) (i:Int) h λr j=>r=ad (.bool (cN t.rx))/\ag q j:=by
   intro b x aa d;subst aa;rw[Bool.true_and]at x;induction d with
   |zero=>
    intro i h ac y A;rw[dw io]at y;refine nE.mj (aW (aS io) ⟨?_,A.fr⟩);rw[x,<-y];rfl
   |succ d ak=>
    intro i h ac y A;have B:t.l[i]? =some (t.l[i]'io):=a0 io;rw[dy io]at y;generalize t.l[i]'io=a at B y;have an:=I.eJ (aA B);have T:(cN a.rx&&dT (I.ao (t.l.drop (i+1))))=dT (I.ao t.l):=y;have am:t.P h:=A.getD 0;refine nE.mj (aU (aQ io) ⟨io,io,?_⟩);refine I.aT am.parts.1 B λp hp c=>⟨_,_,_,_,c.c0,c.c1,c.c2,c.c3,A.ax λb4 w2 H2=>H2.ae λw3 M=>M.av (ih a w3 io ((show t.P w3 from M.getD 0).parts.2.get B)) ?_⟩;rintro _ w4 rfl N;refine⟨_,rfl,eO (λhf=>⟨?_,N.fr⟩) (λht=>?_)⟩
    .grind
    .rw [bp _ io];rw[ht,Bool.true_and]at T;exact ak (i+1) w4 io T (N.take 0)
  have er:=I.fi t;have nz:∀z:UInt8,((z.toNat:Int) !=0)=(z !=0):=λz=>by
   by_cases W:z=0
   .subst W;rfl
   .have H:(z !=0)=true:=by grind
    rw[H];have:z.toNat≠0:=λh0=>W (UInt8.toNat_inj.1 (by grind))
    grind
  refine nE.aq ((gH pt).ax λw h L=>?_);have out:∀b:Bool,cN t.rx=b->(Ending.returned (.bool b)=ad (.bool (cN t.rx))/\ag q h):=λb x=>⟨by rw[x],L.fr⟩;have F:cN t.rx=dT (I.ao t.l)->nE.ft w t.k t.lo.toNat t.hi.toNat t.s h λr j=>r=ad (.bool (cN t.rx))/\ag q j:=λx=>loop true (by grind) rfl t.l.length 0 h io gs (L.take 0);have s1:(t.k !=2&&(t.lo !=0||t.hi !=0))=false->nE.bh w t.k t.lo.toNat t.hi.toNat t.s h λr j=>r=ad (.bool (cN t.rx))/\ag q j:=by
   intro h0;have eg:cN t.rx=(if t.k=0\/t.k=1 then(I.ao t.l).isEmpty else if t.k=2 then(I.ao t.l).isEmpty&&ai (t.lo.toNat<=t.hi.toNat)else if t.k=3\/t.k=4\/t.k=5 then dT (I.ao t.l)else if t.k=6\/t.k=7 then(I.ao t.l).length==1&&dT (I.ao t.l)else false):=by
    rw[er];unfold cN
    grind
   have s2:t.k=0\/t.k=1->nE.bC w t.k t.lo.toNat t.hi.toNat t.s h λr j=>r=ad (.bool (cN t.rx))/\ag q j:=λe=>out _ (by rw[eg,af e,Dh,K]);have s7:t.k=6\/t.k=7->nE.ng w t.k t.lo.toNat t.hi.toNat t.s h λr j=>r=ad (.bool (cN t.rx))/\ag q j:=λe=>by
    have e7:cN t.rx=((I.ao t.l).length==1&&dT (I.ao t.l)):=by grind
    have el:(I.ao t.l).length=t.s.n:=by rw[I.fN];grind
    refine cz (λH=>out false ?_) (λH=>F ?_)
    .grind
    grind
   have s6:t.k≠0->t.k≠1->t.k≠2->t.k≠3->t.k≠4->t.k≠5->nE.kW w t.k t.lo.toNat t.hi.toNat t.s t.k h λr j=>r=ad (.bool (cN t.rx))/\ag q j:=λD E Y Z k4 k5=>
    aw (λe=>aU (by grind) (s7 (.inl e))) (λk6=>aw (λe=>s7 (.inr e)) (λk7=>out false (by grind)))
   have G:t.k=3\/t.k=4\/t.k=5->cN t.rx=dT (I.ao t.l):=λe=>by grind
   have s3:t.k≠0->t.k≠1->nE.cF w t.k t.lo.toNat t.hi.toNat t.s t.k h λr j=>r=ad (.bool (cN t.rx))/\ag q j:=λD E=>
    aw (λe=>by
     have Q:cN t.rx=((I.ao t.l).isEmpty&&ai (t.lo.toNat<=t.hi.toNat)):=by grind
     refine bq (λC=>out _ ?_) (λC=>out false ?_)
     .rw [Q,Dh,<-K,C,Bool.true_and]
      grind
     .rw [Q,Dh,<-K,C];rfl)
    (λY=>aw (λe=>aU (by grind) (F (G (.inl e)))) (λZ=>aw (λe=>aU (by grind) (F (G (.inr (.inl e))))) (λk4=>aw (λe=>F (G (.inr (.inr e)))) (λk5=>s6 D E Y Z k4 k5))))
   exact aw (λe=>aU (by grind) (s2 (.inl e))) (λD=>aw (λe=>s2 (.inr e)) (λE=>s3 D E))
  have bad:(t.k !=2&&(t.lo !=0||t.hi !=0))=true->cN t.rx=false:=λx=>by
   rw[er];unfold cN
   grind
  refine bq (λh2=>bq (λah=>out false (bad ?_)) (λah=>bq (λab=>out false (bad ?_)) (λab=>s1 ?_))) (λh2=>s1 ?_)
  .grind
  .grind
  .grind
  grind
def iL(x:Rx):Int:=if 64<x.sz then 4 else if cN x then 0 else 1
def Cp(t:I)(w:J)(q:t.sz<=1000000)(x:t.P w):aj U NL #[t.v] w λr y=>r=ad (.int .i64 (iL t.rx))/\ag w y:=by
 refine Qx.aq ((gH x).ax λB z j=>j.av (CD t z q (j.getD 0)) ?_);rintro _ A rfl e;refine⟨_,rfl,aY (λd=>⟨?_,e.fr⟩) (λd=>e.av (IN 1000000 (bm _) t A q (e.getD 0)) ?_)⟩
 .unfold iL;rw[I.ek,af d]
 rintro _ C rfl k;refine⟨_,rfl,eO (λh=>⟨?_,k.fr⟩) (λh=>⟨?_,k.fr⟩)⟩
 .unfold iL;rw[I.ek,aa d,h];rfl
 .unfold iL;rw[I.ek,aa d,h];rfl
abbrev Tx(n:Nat):Prop:=∀(t:I) (w:J),t.sz<=n->t.P w->aj U E3 #[t.v] w λr d=>gg w t.rx r d/\ag w d
def IB:∀n:Nat,n<=1000000->Tx n
 |0,_=>λt A G _=>absurd G (by have:=I.mU t;omega)
 |n+1,hn=>λt A G L=>by
  have ih:=IB n io;have hs:=I.iJ t;have hl:=I.ga t.l;have nr:=I.cw L.parts.1;have loop:∀(d i:Nat) (ks:List I) (sl:Sl) (j q:Nat) (x:J),i+d=t.l.length->ks.length=i->I.ao ks=I.ao (t.l.take i)->(∀b∈I.bd ks,A.heap.size<=b)->O F0 A x [.g j,.g q,.row aV 4 sl (ks.flatMap I.c)] [.tree t,.trees ks]->
    xq.a4 j t.k t.lo.toNat t.hi.toNat t.s q 0 0 0 ⟨none,0,0⟩ sl t.s (t.s.n:Int) (i:Int) x λr M=>gg A t.rx r M/\ag A M:=by
   intro d;induction d with
   |zero=>
    intro i ks sl j q x Y Z H K B;refine xq.bR (aW (aS io) (B.ae λD h=>⟨⟨.mk t.k t.lo t.hi sl ks,rfl,?_,?_,λb e=>?_⟩,h.fr⟩))
    .rw [I.fi t];unfold I.rx
     grind
    .unfold I.P;exact⟨aL.a2 (h.get 2),h.getD 1⟩
    .unfold I.fp at e;rcases aK.1 e with e|e
     .exact (h.new _ (aA (i:=2) rfl) b (gL e)).resolve_right id
     grind
   |succ d aa=>
    intro i ks sl j q x Y Z H K B;have z:t.l[i]? =some (t.l[i]'io):=a0 io;generalize t.l[i]'io=a at z;have af:=I.eJ (aA z);have ab:t.P x:=B.getD 0;refine xq.bR (aU (aQ io) ⟨io,io,?_⟩);refine I.aT ab.parts.1 z λp hp c=>⟨_,_,_,_,c.c0,c.c1,c.c2,c.c3,B.ax λb5 D h=>h.ae λN y=>y.hh (ih a N io ((show t.P N from y.getD 0).parts.2.get z)) ?_⟩;rintro _ w4 ⟨u,rfl,hu,pu,F⟩ _ Q;have C:=Q.rd (.tree u) pu λb e=>F b (a7.1 e);have ac:=I.cw (C.get 2:aL _ _ _ _ _).a2;refine⟨_,_,_,_,rfl,C.jn 2 rz rfl (λs' w5 T=>?_) io⟩;have W:=(T.su 1 2).take 3;rw[bp _ io];refine aa (i+1) (ks++[u]) s' j q w5 io (by grind) ?_ ?_ ?_
    .rw [kG,H,g5,z,kG];simp[I.ao,hu]
    .intro b e;obtain⟨t',w,E⟩:=I.bS.1 e;rcases aK.1 w with w|w
     .exact K b (I.bS.2 ⟨t',w,E⟩)
     .simp at w;rw[w]at E;exact bD y.fr.size (F b E)
    .rw [nq];exact W.forget _ gs
  refine xq.aq ((gH L).ax λj x S=>S.ax λq D h=>?_);have y:=h.hP aV 4;have C:=y.ec (.trees []) (Fr.refl _ _) (by show I.Ps D [];unfold I.Ps;trivial) (λb e=>by
   have:=a7.1 e;unfold I.bd at this
   grind)
  exact loop t.l.length 0 [] ⟨none,0,0⟩ j q D io rfl rfl (λb e=>by unfold I.bd at e;cases e) C
def UQ(t:I)(w:J)(e:t.sz<=1000000)(h:t.P w):aj U E3 #[t.v] w λr d=>gg w t.rx r d/\ag w d:=IB 1000000 (bm _) t w e h
def fK:Rx:=.mk 0 0 0 []
def o7(x:Rx):Int:=if 64<x.sz then 4 else 0
def o8(x:Rx):Rx:=if 64<x.sz then fK else x
def HF(w:J)(x:Rx)(c:Int)(r:cR)(w':J):Prop:=∃t:I,r=ad (.tuple #[t.v,.int .i64 c])/\t.rx=x/\t.P w'/\∀b∈t.fp,w.heap.size<=b
def OY(w:J):(I.mk 0 0 0 ⟨none,0,0⟩ []).P w:=by unfold I.P I.Ps;exact⟨bo.nil 4 w,trivial⟩
def OX{b:Nat}(d:b∈(I.mk 0 0 0 ⟨none,0,0⟩ []).fp):False:=by unfold I.fp I.bd at d;simp[En.a2]at d
def U7(t:I)(w:J)(y:t.sz<=1000000)(D:t.P w):aj U NW #[t.v] w λr z=>HF w (o8 t.rx) (o7 t.rx) r z/\ag w z:=by
 refine QJ.aq ((gH D).ax λK M B=>B.ax λL F k=>k.av (CD t F y (k.getD 0)) ?_);rintro _ G rfl h;refine⟨_,rfl,aY (λe=>h.ae λH j=>⟨⟨.mk 0 0 0 ⟨none,0,0⟩ [],?_,?_,OY _,λb d=>(OX d).elim⟩,j.fr⟩) (λe=>h.hh (UQ t G y (h.getD 0)) ?_)⟩
 .unfold o7;rw[I.ek,af e];rfl
 .unfold o8;rw[I.ek,af e];rfl
 rintro _ H ⟨u,rfl,C,E,x⟩ _ A;have j:=A.rd (.tree u) E λb d=>x b (a7.1 d);refine⟨_,_,_,_,rfl,j.ae λN q=>⟨⟨u,?_,?_,q.getD 1,λb d=>bD h.fr.size (x b d)⟩,q.fr⟩⟩
 .unfold o7;rw[I.ek,aa e]
 .unfold o8;rw[I.ek,aa e,C]
namespace QA
def aq:=aC (ay U Tryz.f216 [] [2]) uw [.a 4,.I,.Y,.Y,.s,.r]
end QA
namespace xM
def L0:=bu (ay U Tryz.f217 [] []) [0,1,1,1,1] [(0,.s),(1,.f),(7,.I),(8,.I)]
abbrev t1:=bt L0
def cr:=bF t1 L0
def ok:=aC t1 N8 [.s,.f]
end xM
namespace RP
def ok:=aC (ay U Tryz.f198 [] []) N5 [.s,.f]
end RP
namespace ss
abbrev P0:Ps:=[(0,.s),(1,.v [.g uw 0 1,.r]),(5,.I),(6,.I)]
def a4:=bu (ay U Tryz.f215 [] [7]) [0,1,1,1,3] P0
abbrev t1:=bt a4
abbrev bh:=ah t1 [2,2,1,1,3] P0
abbrev t2:=ak bh
def bR:=bF t2 a4
def aq:=aC t2 N6 [.s,.g uw 0 1,.r]
end ss
namespace ox
def L0:=bu (ay U Tryz.f203 [(6,lr 11),(11,lr 12)] []) [0,1,1,1,2] [(0,.s),(1,.v [.g rS 0 0]),(5,.I)]
abbrev t1:=bt L0
abbrev P0:Ps:=[(0,.s),(1,.v [.g rS 0 0]),(5,.I),(6,.s),(7,.I)]
def L2:=bu t1 [0,1,1,1,1,1,1,2,1,2,1,1,2] P0
abbrev t2:=bt L2
abbrev S3:=ah t2 [2,2,1,1,1,1,1,2,1,2,1,1,2] P0
abbrev t3:=ak S3
def oL:=bF t3 L2
abbrev S1:=ah t3 [1,1,1,2,1,2,1,1,2] [(0,.s),(1,.v [.g rS 0 0]),(5,.I),(6,.s)]
abbrev t4:=ak S1
def cr:=bF t4 L0
def ok:=aC t4 N3 [.s,.g rS 0 0]
end ox
namespace sc
abbrev P0:Ps:=[(2,.l [.I,.Y,.Y,.s] aV),(3,.r),(5,.s),(9,.s),(10,.I),(11,.I)]
def a4:=bu (ay U Tryz.f197 [] [2,7]) [0,1,1,1,2] P0
abbrev t1:=bt a4
abbrev bh:=ah t1 [3,2,1,1,2] P0
abbrev t2:=ak bh
def bR:=bF t2 a4
def aq:=aC t2 NQ [.a 4,.I,.Y,.Y,.s,.a 4,.I,.Y,.Y,.s]
end sc
namespace QC
def aq:=aC (ay U Tryz.f194 [] [1,2]) w7 [.a 4,.I,.Y,.Y,.s]
end QC
namespace QD
def ok:=aC (ay U Tryz.f195 [] []) zP [.a 4,.I,.Y,.Y,.s,.a 4,.I,.Y,.Y,.s]
end QD
namespace Gd
abbrev a1:=ah (ay U Tryz.f196 [] [3,4]) [4] [(1,.r),(3,.l [.I,.Y,.Y,.s] aV),(4,.l [.I,.Y,.Y,.s] aV),(5,.s)]
abbrev t1:=ak a1
def aq:=aC t1 zQ [.a 4,.I,.Y,.Y,.s,.r,.r]
end Gd
namespace QE
def aq:=aC (ay U Tryz.f199 [] [2]) E4 [.a 4,.I,.Y,.Y,.s,.r]
end QE
namespace QF
def aq:=aC (ay U Tryz.f204 [] [1,2]) ux [.a 4,.I,.Y,.Y,.s]
end QF
namespace Ay
abbrev a1:=ah (ay U Tryz.f205 [] [3,4,5]) [0,1,1,1,2] [(1,.r),(4,.l [.I,.Y,.Y,.s] aV)]
abbrev t1:=ak a1
abbrev bh:=ah t1 [0,1,1,1,3] [(4,.l [.I,.Y,.Y,.s] aV),(5,.l [.I,.Y,.Y,.s] aV)]
abbrev t2:=ak bh
def aq:=aC t2 uy [.a 4,.I,.Y,.Y,.s,.r,.r]
end Ay
namespace xv
def L0:=bu (ay U Tryz.f177 [(5,lr 9)] []) [0,1,1,1,2] [(0,.m),(3,.r),(4,.r),(5,.r),(16,.s),(17,.I),(18,.I)]
abbrev t1:=bt L0
def cr:=bF t1 L0
def ok:=aC t1 E6 [.m,.a 4,.I,.Y,.Y,.s]
end xv
end Go.Proofs.YtjakeaplbkhjmaaGreatDoor
end
