import Derived.Test.YtkbmpalepmakmaaGreatDoorW
import Derived.KernelRfl
import Derived.Test.YtkbmpalepmakmaaGreatDoorProg
import Derived.Lib.AppendStr
import Derived.Laws.IdiomStrings
import Derived.IntWalk
set_option linter.unusedVariables false
set_option linter.defProp false
noncomputable section
namespace Go.W
open Go renaming World->I,Calls->ah,Program->au,Value->V,TypeId->aD,Ending->cZ,FuncId->b5,IntKind->h5
open Go.IntKind renaming wrap->aE
open Go.IntWalk renaming i64_in->bH
open Go.Builtin renaming append_->fL
open _root_.Bool renaming and_eq_true->bf
open _root_.Nat renaming le_refl->bz,le_trans->bI,beq->bQ,beq_eq->eE
open Go.Region renaming wanted->cz,ready->ec
open Go.Proofs.Tryz renaming prog->U
open _root_.Decidable renaming decide->ak
open Go.Ending renaming returned->ab
open List renaming mem_append->aP,mem_cons->aF,not_mem_nil->aW,mem_of_getElem?->ay,getElem?_eq_getElem->a0,mem_append_left->cm,mem_singleton->cK,mem_cons_of_mem->dJ,drop_eq_getElem_cons->dG,take_add_one->ha,drop_of_length_le->dH
abbrev Lv:=List (Nat×List V×aD)
abbrev Sv:=List (Nat×Option (Nat×Nat))
def Sv.get? :Sv->Nat->Option (Nat×Nat)
 |[],_=>none
 |(e,v)::d,t=>bif bQ e t then v else Sv.get? d t
def Sv.at(S:Sv):Operand->Option (Nat×Nat)
 |.tmp t=>S.get? t
 |_=>none
def Sv.put(S:Sv)(d:Option Nat)(o:Option (Nat×Nat)):Sv:=match d with
 |some d=>(d,o)::S
 |none=>S
structure TS where
 E:Env
 S:Sv
 L:Lv
 w:I
 d:Bool
abbrev HT:=List (Nat×Option Nat×(I->Prop))
def fJ(s:TS)(K:TS->Prop):Prop:=match s.d with
 |true=>loc (h' s.L) s.w λe=>K ⟨s.E,s.S,s.L,e,false⟩
 |false=>K s
def TB:V->V->Bool
 |.int d _,.int e _=>d==e
 |.bool _,.bool _=>true
 |.string _,.string _=>true
 |.slice _ _ _,.slice _ _ _=>true
 |.pointer _,.pointer _=>true
 |.map _,.map _=>true
 |.int ..,_|.bool _,_|.string _,_|.slice ..,_|.pointer _,_|.map _,_=>false
 |_,_=>true
def BO:List V->List V->Bool
 |[],[]=>true
 |e::h,v::d=>TB e v&&BO h d
 |_,_=>false
def Fp(P:au)(T:aD)(cs:List V)(j:Nat)(K:V->Prop):Prop:=
 cS (zp P T)<|match zeroOf P T with
 |.agg d=>cS (BO d.toList ((cs.drop j).take d.size)) (K (.agg ((cs.drop j).take d.size).toArray))
 |.nilFunc=>False
 |e=>match cs[j]? with
  |some v=>cS (TB e v) (K v)
  |none=>False
def LM(P:au)(T:aD)(f:Nat):Option Nat:=match P.underlying T with
 |some (.struct d)=>match d[f]? with
  |some f=>match P.info? f.type with
   |some i=>bif bQ i.size 0 then none else some f.offset
   |none=>none
  |none=>none
 |_=>none
def Vf(P:au)(o:Oper):Bool:=match o.op with
 |.load ..|.lookup ..=>true
 |.convert s e _=>match P.underlying s,P.underlying e with
  |some (.slice _),some .string=>true
  |some (.pointer _),some .unsafePointer=>true
  |some .unsafePointer,some (.pointer _)=>true
  |_,_=>false
 |.binOp .neq d _ h _=>bif isConst h then false else match P.underlying d with
  |some (.pointer _)=>true
  |_=>false
 |.call {callee:=.builtin .len,args,argTypes}=>match args.toList,argTypes.toList with
  |[_],[d]=>match P.underlying d with
   |some (.map _ _)=>true
   |_=>false
  |_,_=>false
 |_=>false
def Cu(P:au)(o:Oper):Bool:=EX P o||Vf P o
def uY(P:au)(o:Oper)(s:TS)(K:V->Option (Nat×Nat)->List (Option Nat×(I->Prop))->TS->Prop):Prop:=
 bif Cu P o then fJ s λs=>oD P o s.E s.w λv e=>K v none (e.map λd=>(none,d)) s else oD P o s.E s.w λv e=>K v none (e.map λd=>(none,d)) s
def DU(P:au)(o:Oper)(s:TS)(K:V->Option (Nat×Nat)->List (Option Nat×(I->Prop))->TS->Prop):Prop:=
 match o.op with
 |.load h d=>match s.S.at d with
  |some (i,e)=>match s.L[i]? with
   |some X=>Fp P h X.2.1 e λv=>K v none [(some i,λk=>(loadVar h ((aa X.1).add e)).run P k=.ok v k)] s
   |none=>False
  |none=>uY P o s K
 |.move d|.assign d|.nilCheck d=>match s.S.at d with
  |some q=>K ((s.E.val d).getD undef) (some q) [] s
  |none=>uY P o s K
 |.fieldAddr h d f=>match s.S.at d with
  |some (i,e)=>match LM P h f,s.L[i]? with
   |some j,some X=>K (.pointer (some ((aa X.1).add (e+j)))) (some (i,e+j)) [] s
   |_,_=>False
  |none=>uY P o s K
 |_=>uY P o s K
def pS(L:Lv)(w w':I)(p:Prop):Prop:=match L with
 |[]=>p
 |L=>kept (h' L) w w'/\p
def BK:List V->Nat->List V->List V
 |d,_,[]=>d
 |d,e,v::h=>BK (d.set e v) (e+1) h
def Af(e:List Nat)(d:Option Nat):Bool:=match d with
 |some d=>e.any (bQ d)
 |none=>false
def HW(bs:List Nat)(p:Addr):List V->Nat->I->(I->Prop)->Prop
 |[],_,d,e=>e d
 |v::j,i,d,e=>aL d (p.add i) v λh=>kept bs d h/\HW bs p j (i+1) h e
abbrev Pk:=Option (aC×List b5)
structure Lk where
 l:List Nat
 pk:Pk
def Pk.of(p:Pk)(f:b5):Option aC:=match p with
 |some (d,l)=>bif l.any (bQ f)then some d else none
 |none=>none
def Pk.F(p:Pk):aC:=match p with
 |some (d,_)=>d
 |none=>λ_ _=>False
def mV(bs:List Nat)(P:au)(f:b5)(args:Array V)(R:aC)(w:I)(K:aC):Prop:=
 ah P f args w λr d=>(∃c,r=.panicked c/\R (.panicked c) d)\/((∃v,r=ab v)/\kept bs w d/\K r d)
def Gs(s:TS)(cs:List V)(T:aD)(K:V->Option (Nat×Nat)->Option Nat->TS->Prop):Prop:=
 vk (h' s.L) s.w λb d=>K (.pointer (some (aa b))) (some (s.L.length,0)) none ⟨s.E,s.S,s.L++[(b,cs,T)],d,false⟩
def zK(P:au)(q:Pk)(f:b5)(args:Array V)(h:V)(s:TS)(K:V->I->Prop):Prop:=match q.of f with
 |some k=>mV (h' s.L) P f args k s.w λd e=>oM h λv=>d=ab v/\K v e
 |none=>match s.L with
  |[]=>r4 P f args h s.w K
  |j=>e8 (h' j) P f args s.w λd e=>oM h λv=>d=ab v/\K v e
def Eg(P:au)(j:Lk)(draw:Bool)(o:Oper)(s:TS)(K:V->Option (Nat×Nat)->Option Nat->TS->Prop):Prop:=
 match o.op with
 |.store e h q=>match s.S.at h with
  |some (i,k)=>match s.L[i]?,s.E.val q with
   |some X,some v=>cS (v.cells.size==(match P.info? e with |some i=>i.size|none=>0)&&v.cells.toList.all vo&&(P.info? e).isSome&&Nat.ble (k+v.cells.size) X.2.1.length) (K undef none (some i) ⟨s.E,s.S,s.L.set i (X.1,BK X.2.1 k v.cells.toList,X.2.2),s.w,true⟩)
   |_,_=>False
  |none=>fJ s λs=>match s.L with
   |[]=>hV P o s.E s.w λv d=>K v none none ⟨s.E,s.S,s.L,d,false⟩
   |x=>match s.E.val h,s.E.val q with
    |some (.pointer (some p)),some v=>cS (v.cells.size==(match P.info? e with |some i=>i.size|none=>0)&&v.cells.toList.all vo&&(P.info? e).isSome) (HW (h' x) p v.cells.toList 0 s.w λd=>K undef none none ⟨s.E,s.S,s.L,d,false⟩)
    |_,_=>False
 |.alloc e=>bif Af j.l o.dst then cS ((P.info? e).bind (·.zero)).isSome (Gs s (zeroOf P e).cells.toList e K)else fJ s λs=>hV P o s.E s.w λv d=>K v none none ⟨s.E,s.S,s.L,d,false⟩
 |.box e h=>bif Af j.l o.dst then(match s.E.val h with
   |some v=>Gs s v.cells.toList e K
   |none=>False)else fJ s λs=>hV P o s.E s.w λv d=>K v none none ⟨s.E,s.S,s.L,d,false⟩
 |.buildSlice ..|.makeMap ..=>fJ s λs=>hV P o s.E s.w λv d=>K v none none ⟨s.E,s.S,s.L,d,false⟩
 |.call {callee:=.value (.func f),args,..}=>fJ s λs=>cS (s.E.e9 o) (bif hv P f then zK P j.pk f (args.map s.E.ev) (zeroOf P o.type) s λv d=>K v none none ⟨s.E,s.S,s.L,d,false⟩
   else z6 P f (args.map s.E.ev) (zeroOf P o.type) s.w λv d=>pS s.L s.w d (K v none none ⟨s.E,s.S,s.L,d,false⟩))
 |.call {callee:=.value (.tmp t),args,..}=>fJ s λs=>cS (s.E.e9 o) (match s.E.get? t with
   |some (.func (.func f) first captured)=>cS (hv P f) (zK P j.pk f (first++args.map s.E.ev++captured) (zeroOf P o.type) s λv d=>K v none none ⟨s.E,s.S,s.L,d,false⟩)
   |_=>False)
 |.panic h=>fJ s λs=>match s.E.val h,j.pk with
  |some (.iface t v),some (y,_)=>y (.panicked [{v:=.iface t v,recovered:=false}]) s.w
  |_,_=>False
 |_=>fJ s λs=>(bif draw then hV else uF) P o s.E s.w λv d=>pS s.L s.w d (K v none none ⟨s.E,s.S,s.L,d,false⟩)
def xo(ops:Array Oper)(j:Nat)(w:I):HT->List Prop
 |[]=>[]
 |(i,f,e)::d=>bif j3 ops i j||f.isSome then xo ops j w d else e w::xo ops j w d
def gN(ops:Array Oper)(j:Nat):HT->HT
 |[]=>[]
 |(i,f,e)::d=>bif j3 ops i j then gN ops j d else(i,f,e)::gN ops j d
def Hk(ops:Array Oper)(j:Nat)(s:TS)(H:HT)(K:TS->Prop):Prop:=
 bif H.any (λp=>!(j3 ops p.1 j)&&p.2.1.isNone)then fJ s λs=>ud (xo ops j s.w H) (K s)else K s
def stepT(P:au)(k:Lk)(ops:Array Oper)(draw:Bool)(i:Nat)(o:Oper)(s:TS)(H:HT)(K:TS->HT->Prop):Prop:=
 bif calm P o then DU P o s λv e j s=>K ⟨s.E.put o.dst v,s.S.put o.dst e,s.L,s.w,s.d⟩ (bif draw then j.map (λh=>(i,h))++H else H)
 else Eg P k draw o s λv e m s=>cS (!((gN ops i H).any λp=>m.isSome&&p.2.1==m)) (Hk ops i s H λs=>K ⟨s.E.put o.dst v,s.S.put o.dst e,s.L,s.w,s.d⟩ (gN ops i H))
def oO(P:au)(e:Lk)(ops:Array Oper)(draw:Bool)(i:Nat)(o:Oper)(d:Nat)(want t:Bool)(s:TS)(H:HT)(K:TS->HT->Prop):Prop:=
 bif (t==want)then stepT P e ops draw i o ⟨(d,.bool t)::s.E,s.S,s.L,s.w,s.d⟩ H K else K ⟨Env.put ((d,.bool t)::s.E) o.dst undef,s.S.put o.dst none,s.L,s.w,s.d⟩ (bif calm P o then H else gN ops i H)
def runT(P:au)(e:Lk)(ops:Array Oper)(draw:Bool)(K:TS->Prop):List Nat->TS->HT->Prop
 |[],s,_=>K s
 |i::l,s,h=>
  match ops[i]? with
  |none=>False
  |some o=>match o.guard with
   |none=>stepT P e ops draw i o s h λk j=>runT P e ops draw K l k j
   |some (x,want)=>match kO ops x with
    |none=>False
    |some q=>match s.E.get? q with
     |some (.bool t)=>bK t (oO P e ops draw i o q want true s h λk j=>runT P e ops draw K l k j) (oO P e ops draw i o q want false s h λk j=>runT P e ops draw K l k j)
     |some (.tuple _)=>runT P e ops draw K l ⟨Env.put s.E o.dst undef,s.S.put o.dst none,s.L,s.w,s.d⟩ (bif calm P o then h else gN ops i h)
     |_=>False
def xm(P:au)(j:Lk)(ops:Array Oper)(i:Nat)(s:TS)(H:HT)(e:TS->HT->Prop):Prop:=
 match ops[i]? with
 |none=>False
 |some o=>match o.guard with
  |none=>stepT P j ops true i o s H e
  |some (k,want)=>match kO ops k with
   |none=>False
   |some h=>match s.E.get? h with
    |some (.bool t)=>bK t (oO P j ops true i o h want true s H e) (oO P j ops true i o h want false s H e)
    |some (.tuple _)=>e ⟨Env.put s.E o.dst undef,s.S.put o.dst none,s.L,s.w,s.d⟩ (bif calm P o then H else gN ops i H)
    |_=>False
def rA(P:au)(e:Lk)(ops:Array Oper)(K:TS->Prop):Tr->TS->HT->Prop
 |.nil,s,_=>K s
 |.one i t,s,d=>xm P e ops i s d λj h=>rA P e ops K t j h
 |.fork a b,s,d=>rA P e ops K a s d/\rA P e ops K b s d
def Tr.sq:List Nat->Tr->Tr
 |[],t=>t
 |i::l,t=>.one i (Tr.sq l t)
def zT(s:TS)(K:TS->Prop):Prop:=match s.L,s.d with
 |[],false=>K ⟨s.E,s.S,s.L,s.w.drew,false⟩
 |_,_=>K ⟨s.E,s.S,s.L,s.w,true⟩
section
variable {P:au}
structure Inv(s:TS)(w:I):Prop where
 lc:LC w s.L
 rel:if s.d=true then Fr (·∈h' s.L) s.w w else w=s.w
 sl:∀t i j,s.S.get? t=some (i,j)->∃X,s.L[i]? =some X/\s.E.get? t=some (.pointer (some ((aa X.1).add j)))
def Inv.fJ{s:TS}{w:I}{K:TS->Prop}(h:Inv s w)(e:W.fJ s K):Inv ⟨s.E,s.S,s.L,w,false⟩ w/\K ⟨s.E,s.S,s.L,w,false⟩:=by
 refine⟨⟨h.lc,us,h.sl⟩,?_⟩;unfold W.fJ at e;have k:=h.rel;cases j:s.d with
 |true=>
  rw[j]at e k;exact e w (by grind)
 |false=>
  rw[j]at e k;have:w=s.w:=by grind
  obtain⟨q,y,x,A,z⟩:=s
  grind
def Inv.fr{s:TS}{w:I}(e:Inv s w):Fr (·∈h' s.L) s.w w:=by
 have j:=e.rel;cases h:s.d with
 |true=>grind
 |false=>
  rw[h]at j;have:w=s.w:=by grind
  subst this;exact Fr.refl _ _
def Inv.at{s:TS}{w:I}(d:Inv s w){x:Operand}{i j:Nat}(e:s.S.at x=some (i,j)):∃X,s.L[i]? =some X/\s.E.val x=some (.pointer (some ((aa X.1).add j)))/\w.heap[X.1]? =some (.cells X.2.1.toArray X.2.2 (0,0)):=by
 cases x with
 |tmp t=>
  obtain⟨X,h,k⟩:=d.sl t i j e;exact⟨X,h,k,d.lc.own i X h⟩
 |_=>cases e
def TC:∀{e vs:List V},BO e vs=true->vs.length=e.length
 |[],[],_=>rfl
 |h::e,v::vs,d=>by unfold BO at d;rw[bf]at d;simp[TC d.2]
def MU{T:aD}{cs:List V}{j b:Nat}{ty:aD}{K:V->Prop}(d:Fp P T cs j K):
  ∃v,K v/\∀e:I,e.heap[b]? =some (.cells cs.toArray ty (0,0))->(loadVar T ((aa b).add j)).run P e=.ok v e:=by
 obtain⟨h,d⟩:=dP d;unfold zp at h;have one:∀(v:V),cs[j]? =some v->(rV P T==some false)=true->∀e:I,e.heap[b]? =some (.cells cs.toArray ty (0,0))->(loadVar T ((aa b).add j)).run P e=.ok v e:=λv y k e w=>
  yq (by grind) (cellAt (p:=aa b) w rfl (by grind))
 cases z:zeroOf P T with
 |agg E=>
  rw[z]at d h;simp only at d h;obtain⟨B,A⟩:=dP d;rw[bf]at h;obtain⟨k,q⟩:=h;cases x:P.info? T with
  |none=>grind
  |some i=>
   rw[x]at q;simp at q k;refine⟨_,A,λe w=>Td k x (by rw[q,TC B];simp) λD v C=>?_⟩;rw[add_add];refine cellAt (p:=aa b) w rfl ?_
   grind
 |nilFunc=>grind
 |_=>
  rw[z]at d h;simp only at d;split at d
  .rename_i v y;exact⟨v,(dP d).2,one v y h⟩
  .exact d.elim
def XH{o:Oper}{E:Env}{w w':I}{K:V->List (I->Prop)->Prop}(d:Cu P o=false)(e:oD P o E w K):oD P o E w' K:=by
 unfold Cu at d;rw[Bool.or_eq_false_iff]at d;obtain⟨h,d⟩:=d;unfold oD at e ⊢;rw[h]at e ⊢;simp only[cond_false]at e ⊢;unfold zM at e ⊢;unfold Vf at d;split at e<;>first |exact e|skip
 all_goals rename_i j
 all_goals rw[j]at d
 .cases d
 .rename_i k _ q;cases k with
  |const c=>grind
  |_=>
   simp only[isConst,cond_false]at d
   grind
 .cases d
 .grind
 grind
def y2(P:au)(o:Oper)(a:Act)(s:TS)(w:I)(v:V)(q:Option (Nat×Nat))(Ss:List (Option Nat×(I->Prop)))(d:TS):Prop:=
 Inv d w/\d.E=s.E/\d.S=s.S/\d.L=s.L/\Calm P o a.eval w v (Ss.map (·.2))/\
 (∀p∈Ss,∀i,p.1=some i->∃X,s.L[i]? =some X/\∀h:I,h.heap[X.1]? =some (.cells X.2.1.toArray X.2.2 (0,0))->p.2 h)/\
 (∀i e,q=some (i,e)->∃X,s.L[i]? =some X/\v=.pointer (some ((aa X.1).add e)))
section
variable {o:Oper} {n:Cx} {a:Act} {s:TS} {w:I} {K:V->Option (Nat×Nat)->List (Option Nat×(I->Prop))->TS->Prop}
def YP(H:∀z b,o.op≠.select z b)(D:Ag n a s.E)(x:Inv s w)(h:uY P o s K):∃v j e d,K v j e d/\y2 P o a s w v j e d:=by
 have fin:∀(d:TS),d.E=s.E->d.S=s.S->d.L=s.L->Inv d w->oD P o s.E w (λv e=>K v none (e.map λk=>(none,k)) d)->∃v j e d,K v j e d/\y2 P o a s w v j e d:=λd A B C y F=>by
  obtain⟨v,e,J,O⟩:=zN H D F;refine⟨v,none,_,d,J,y,A,B,C,?_,λp T i Q=>?_,λi W G=>by cases G⟩
  .rw [List.map_map];have:((λM:Option Nat×(I->Prop)=>M.2)∘λk=>((none:Option Nat),k))=id:=rfl;rw[this,List.map_id];omega
  grind
 unfold uY at h;cases q:Cu P o with
 |true=>
  rw[q,cond_true]at h;obtain⟨y,N⟩:=x.fJ h
  grind
 |false=>
  rw[q,cond_false]at h;exact fin s rfl rfl rfl x (XH q h)
def XF(hs:∀T b,o.op≠.select T b)(B:Ag n a s.E)(y:Inv s w)(d:DU P o s K):∃v q A D,K v q A D/\y2 P o a s w v q A D:=by
 have gen:=λd=>YP (P:=P) (K:=K) hs B y d;have same:∀(x:Operand) (q:Nat×Nat),s.S.at x=some q->(∀w,(execOp a.eval o).run P w=.ok (.value (a.eval x)) w\/∀p,a.eval x≠.pointer (some p))->K ((s.E.val x).getD undef) (some q) [] s->∃v q A D,K v q A D/\y2 P o a s w v q A D:=λx q e hr h=>by
  obtain⟨X,F,z,_⟩:=y.at (i:=q.1) (j:=q.2) e;have he:=B.val z;refine⟨_,_,_,s,h,y,rfl,rfl,rfl,⟨λO G=>(by cases G),λJ _=>?_⟩,λp H=>(by cases H),λi C M=>?_⟩
  .grind
  grind
 unfold DU at d;split at d
 .rename_i L x k;split at d
  .rename_i i C e;obtain⟨X,F,z,Y⟩:=y.at e;rw[F]at d;obtain⟨v,h,hv⟩:=MU (b:=X.1) (ty:=X.2.2) d;refine⟨v,_,_,s,h,y,rfl,rfl,rfl,⟨λO G=>?_,λJ ae=>?_⟩,λp H i' af=>?_,λi C M=>by cases M⟩
   .grind
   .have:(loadVar L ((aa X.1).add C)).run P J=.ok v J:=ae (λw=>(loadVar L ((aa X.1).add C)).run P w=.ok v w) us;simp[execOp,k,Instr.loadAt,B.val z,Instr.sureAddr,this]
   grind
  grind
 .rename_i x k;split at d
  .rename_i q e;exact same x q e (λw=>.inl (by simp[execOp,k])) d
  grind
 .rename_i x k;split at d
  .rename_i q e;exact same x q e (λw=>.inl (by simp[execOp,k])) d
  grind
 .rename_i x k;split at d
  .rename_i q e;refine same x q e (λw=>?_) d;obtain⟨X,_,z,_⟩:=y.at (i:=q.1) (j:=q.2) e;exact .inl (by simp[execOp,k,B.val z])
  grind
 .rename_i L x f k;split at d
  .rename_i i C e;obtain⟨X,F,z,Y⟩:=y.at e;split at d
   .rename_i ag X' h Q;rw[F]at Q;cases Q;refine⟨_,_,_,s,d,y,rfl,rfl,rfl,⟨λO G=>(by cases G),λJ _=>?_⟩,λp H=>(by cases H),λi' j' M=>?_⟩
    .unfold LM at h;split at h
     .rename_i fs hu;split at h
      .rename_i fd Z;split at h
       .rename_i inf ac;cases N:bQ inf.size 0 with
        |true=>grind
        |false=>
         rw[N]at h;cases h;have ad:inf.size≠0:=λW=>by rw[W]at N;cases N
         simp[execOp,k,B.val z,Instr.fieldAt,run_underlying hu,Z,Instr.sureAddr,fieldPlace,sizeOf,typeInfo,ac,ad,add_add]
       grind
      grind
     grind
    grind
   grind
  grind
 grind
end
def tT(s:TS)(K:V->Option (Nat×Nat)->Option Nat->TS->Prop)(v:V)(w':I):Prop:=
 ∃h m d,K v h m d/\Inv d w'/\d.E=s.E/\d.S=s.S/\(∀i X,s.L[i]? =some X->m≠some i->d.L[i]? =some X)/\
  (∀i e,h=some (i,e)->∃X,d.L[i]? =some X/\v=.pointer (some ((aa X.1).add e)))
def Ta{o:Oper}{ρ:Operand->V}{T:aD}{d:V}(j:o.op=.alloc T)(h:(P.info? T).bind (·.zero)=some d)(w:I):
  (execOp ρ o).run P w=.ok (.value (.pointer (some (aa w.heap.size)))) (w.alloc (.cells d.cells T)):=by
 cases e:P.info? T with
 |none=>grind
 |some i=>
  rw[e]at h;have k:i.zero=some d:=h;simp[execOp,j,Instr.alloc,zeroValue,typeInfo,e,k,newVar,newRow]
def Tb{o:Oper}{ρ:Operand->V}{T:aD}{x:Operand}(d:o.op=.box T x)(w:I):
  (execOp ρ o).run P w=.ok (.value (.pointer (some (aa w.heap.size)))) (w.alloc (.cells (ρ x).cells T)):=by simp[execOp,d,Instr.box,newVar,newRow]
def ZH{L:Lv}{w w':I}{p:Prop}(d:pS L w w' p)(H:LC w L):LC w' L/\p:=by
 cases L with
 |nil=>exact⟨LC.nil _,d⟩
 |cons e L=>exact⟨H.pS d.1,d.2⟩
section
variable {o:Oper} {n:Cx} {a:Act} {s:TS} {w:I} {K:V->Option (Nat×Nat)->Option Nat->TS->Prop}
def J8{f:b5}{args:Array V}{K:V->I->Prop}(j:(execOp a.eval o).run P w=.ok (.enter f args) w)(h:ah P f args w λd e=>∃v,d=ab v/\K v e):jj P o a w K:=by
 intro k;unfold Oper.wp;rw[j];simp only[Oper.upon];refine Calls.mono h λd e q=>?_
 grind
def rF(F:aC)(P:au)(o:Oper)(a:Act)(w:I)(K:V->I->Prop):Prop:=
 ∀e:Exit->Act->I->Prop,(∀c d,F (.panicked c) d->e (.panic c) a d)->o.wp P a w (λh d=>∃v,h=a.put o.dst v/\K v d) e
def jj.p{F:aC}{K:V->I->Prop}(e:jj P o a w K):rF F P o a w K:=λd _=>e d
def J9{z:Pk}{f:b5}{args:Array V}{S:V}{K:V->I->Prop}(q:(execOp a.eval o).run P w=.ok (.enter f args) w)(H:LC w s.L)(x:s.w=w)(d:zK P z f args S s K):rF z.F P o a w λv h=>LC h s.L/\K v h:=by
 unfold zK at d;split at d
 .rename_i C e;intro W J;rw[x]at d;unfold Oper.wp;rw[q];simp only[Oper.upon];refine Calls.mono d λA h j=>?_;have E:z.F=C:=by
   unfold Pk.of at e;split at e
   .rename_i Y l;cases B:l.any (bQ f)with
    |true=>rw[B]at e;cases e;rfl
    |false=>rw[B]at e;cases e
   .cases e
  rcases j with⟨c,rfl,Q⟩|⟨_,N,y⟩
  .exact J c h (by rw[E];exact Q)
  .obtain ⟨v,rfl,k⟩:=qW y;exact⟨v,rfl,H.pS N,k⟩
 split at d
 .rename_i G;rw[x]at d;refine jj.p (J8 q (Calls.mono d λA h j=>?_));obtain⟨v,rfl,k⟩:=qW j;exact⟨v,rfl,by rw[G];exact LC.nil _,k⟩
 .rw [x]at d;obtain⟨T,O,M⟩:=d;refine jj.p (J8 q (Calls.mono M λA h j=>?_));obtain⟨D,y⟩:=j;obtain⟨v,rfl,k⟩:=qW y;exact⟨v,rfl,H.fr D O,k⟩
def Qs{cs:Array V}{T:aD}(k:(execOp a.eval o).run P w=.ok (.value (.pointer (some (aa w.heap.size)))) (w.alloc (.cells cs T)))(d:Inv s w)(j:Gs s cs.toList T K):jj P o a w (tT s K):=by
 intro q;unfold Oper.wp;rw[k];simp only[Oper.upon];refine⟨_,rfl,_,_,_,j w.heap.size (w.alloc (.cells cs T)) d.fr.size (size_alloc _ _) (d.fr.gq (Fr.alloc _ _ _)),⟨d.lc.push cs T,us,λt i h e=>?_⟩,rfl,rfl,λi X z _=>?_,λi h e=>?_⟩
 .obtain ⟨X,x,y⟩:=d.sl t i h e
  grind
 .grind
 .cases e;exact⟨(w.heap.size,cs.toList,T),us,by rw[iV]⟩
def TZ{i j b:Nat}{T:aD}{A:I}{K:I->Prop}:∀(vs:List V) (k:Nat) (w:I) (L:Lv) (cs:List V),LC w L->L[i]? =some (b,cs,T)->j+k+vs.length<=cs.length->Fr (·∈h' L) A w->
  (∀d,LC d (L.set i (b,BK cs (j+k) vs,T))->Fr (·∈h' L) A d->K d)->tn ((aa b).add j) vs k w K
 |[],k,w,L,cs,e,h,z,f,q=>by
  refine q w ?_ f;have:L.set i (b,cs,T)=L:=by
   apply List.ext_getElem?
   grind
  rw[show BK cs (j+k) []=cs from rfl,this];exact e
 |v::vs,k,w,L,cs,e,h,z,f,q=>by
  simp only[List.length_cons]at z;obtain⟨B,C,D,E⟩:=e.set (v:=v) i (j+k) h io f
  unfold tn;rw[add_add];refine⟨B,C,TZ (i:=i) (T:=T) vs (k+1) _ _ (cs.set (j+k) v) D ?_ (by grind) E λd x y=>?_⟩
  .grind
  .rw [List.set_set]at x;rw[Dt L i h]at y;exact q d x y
def TY{L:Lv}{p:Addr}{K K':I->Prop}(j:∀h,LC h L->K h->K' h):∀(vs:List V) (i:Nat) (w:I),LC w L->HW (h' L) p vs i w K->tn p vs i w K'
 |[],_,w,d,e=>j w d e
 |v::vs,i,w,d,e=>by obtain⟨k,q,x,y⟩:=e;exact⟨k,q,TY j vs (i+1) _ (d.pS x) y⟩
def Vn{b:Bool}{p:Prop}(d:b=true)(e:p):cS b p:=by subst d;exact e
def KM{E:Env}{T:aD}{x y:Operand}{p:Addr}{v:V}{K:V->I->Prop}(h:o.op=.store T x y)(j:E.val x=some (.pointer (some p)))(k:E.val y=some v)(e:(v.cells.size==(match P.info? T with |some i=>i.size|none=>0)&&v.cells.toList.all vo&&(P.info? T).isSome)=true)(d:tn p v.cells.toList 0 w λq=>K undef q):hV P o E w K:=by unfold hV;rw[h];simp only[j,k];exact Vn e d
def Te{ρ:Operand->V}{nx:Next}{w':I}(e:(∃h,o.op=.alloc h)\/(∃h A,o.op=.box h A)\/(∃h l p,o.op=.buildSlice h l p)\/(∃h r,o.op=.makeMap h r))(d:(execOp ρ o).run P w=.ok nx w'):af w w':=by
 rcases e with⟨h,e⟩|⟨h,A,e⟩|⟨h,l,p,e⟩|⟨h,r,e⟩
 .cases q:(P.info? h).bind (·.zero)with
  |some B=>
   rw[Ta e q]at d;cases d;exact Fr.alloc _ _ _
  |none=>
   exfalso;cases k:P.info? h with
   |none=>simp[execOp,e,Instr.alloc,zeroValue,typeInfo,k]at d
   |some i=>
    rw[k]at q;have D:i.zero=none:=q;simp[execOp,e,Instr.alloc,zeroValue,typeInfo,k,D]at d
 .rw [Tb e]at d;cases d;exact Fr.alloc _ _ _
 .cases j:P.underlying h with
  |none=>simp[execOp,e,Instr.buildSlice,underlying,j]at d
  |some u=>
   cases u<;>first |(simp[execOp,e,Instr.buildSlice,run_underlying j]at d;done)|skip
   rename_i C;cases k:P.info? C with
   |none=>simp[execOp,e,Instr.buildSlice,run_underlying j,sizeOf,typeInfo,k]at d
   |some i=>
    by_cases z:l *i.size>2^24
    .simp [execOp,e,Instr.buildSlice,run_underlying j,sizeOf,typeInfo,k,z]at d
    by_cases y:l *i.size=0
    .simp [execOp,e,Instr.buildSlice,run_underlying j,sizeOf,typeInfo,k,y]at d;split at d
     .simp [newRow]at d;obtain⟨_,rfl⟩:=d;exact Fr.alloc _ _ _
     .simp at d
    .simp [execOp,e,Instr.buildSlice,run_underlying j,sizeOf,typeInfo,k,z,y]at d;cases q:i.zero with
     |none=>simp[zeroValue,typeInfo,k,q]at d
     |some B=>
      simp[zeroValue,typeInfo,k,q]at d;split at d
      .simp [newRow]at d;obtain⟨_,rfl⟩:=d;exact Fr.alloc _ _ _
      .simp at d
 .cases r with
  |none=>
   simp[execOp,e,Instr.makeMap]at d;obtain⟨_,rfl⟩:=d;exact Fr.alloc _ _ _
  |some r=>
   cases j:P.underlying h with
   |none=>simp[execOp,e,Instr.makeMap,underlying,j]at d
   |some u=>
    cases u<;>first |(simp[execOp,e,Instr.makeMap,run_underlying j]at d;done)|skip
    cases x:ρ r with
    |int F B=>
     simp[execOp,e,Instr.makeMap,run_underlying j,x,Go.asInt,Go.asIntOf]at d;obtain⟨_,rfl⟩:=d;exact Fr.alloc _ _ _
    |pointer E=>cases E<;>simp[execOp,e,Instr.makeMap,run_underlying j,x,Go.asInt,Go.asIntOf]at d
    |_=>simp[execOp,e,Instr.makeMap,run_underlying j,x,Go.asInt,Go.asIntOf]at d
def aba{K:V->I->Prop}(A:∀q b,o.op≠.select q b)(y:Ag n a s.E)(h:(∃d,o.op=.alloc d)\/(∃d B,o.op=.box d B)\/(∃d l p,o.op=.buildSlice d l p)\/(∃d r,o.op=.makeMap d r))(x:hV P o s.E w K):jj P o a w λv k=>af w k/\K v k:=by
 have e:uP P o s.E w K:=by
  unfold hV at x
  grind
 obtain⟨z,e⟩:=dP e;intro C;unfold Oper.wp;rw[y.execOp A z];generalize j:(execOp s.E.ev o).run P w=r at e;split at e
 .simp only[Oper.upon];exact⟨_,rfl,Te h j,e⟩
 .simp only[Oper.upon];exact⟨_,rfl,Te h j,e⟩
 grind
def Yd{draw:Bool}{lv:Lk}(A:(V->I->Prop)->Prop)(hp:∀K,rF lv.pk.F P o a w K->A K)(h1:∀K,(bif draw then hV else uF) P o s.E w K->A K)(H:∀K ac,(∀v e,K v e->ac v e)->A K->A ac)(hs:∀cs b,o.op≠.select cs b)(D:Ag n a s.E)(k:Inv s w)(d:Eg P lv draw o s K):A (tT s K):=by
 have G:∀K,jj P o a w K->A K:=λK d=>hp K d.p;have back:∀v e,LC e s.L->K v none none ⟨s.E,s.S,s.L,e,false⟩->tT s K v e:=λv e C h=>⟨none,none,_,h,⟨C,us,k.sl⟩,rfl,rfl,λi X d _=>d,λi ag hq=>by cases hq⟩;have ae:∀v e,pS s.L w e (K v none none ⟨s.E,s.S,s.L,e,false⟩)->tT s K v e:=λv e h=>by obtain⟨C,h⟩:=ZH h k.lc;exact back v e C h
 have news:((∃q,o.op=.alloc q)\/(∃q B,o.op=.box q B)\/(∃q l p,o.op=.buildSlice q l p)\/(∃q r,o.op=.makeMap q r))->fJ s (λs=>hV P o s.E s.w λv e=>K v none none ⟨s.E,s.S,s.L,e,false⟩)->A (tT s K):=λj d=>by obtain⟨_,y⟩:=k.fJ d;exact H _ _ (λv e ⟨f,h⟩=>back v e (k.lc.fr (M:=λ_=>False) f (λ_ _ d=>d)) h) (G _ (aba hs D j y))
 unfold Eg at d;split at d
 .rename_i q B ar j;split at d
  .rename_i i ag J;obtain⟨X,O,g2,_⟩:=k.at J;split at d
   .rename_i X' v af Y;rw[O]at af;cases af;obtain⟨z,h⟩:=dP d;rw[bf]at z;obtain⟨z,hb⟩:=z;have hb:=Nat.le_of_ble_eq_true hb;refine G _ (oF hs D (KM j g2 Y z ?_));refine TZ (i:=i) (T:=X.2.2) _ 0 w s.L X.2.1 k.lc O (by simpa using hb) k.fr λe q1 q2=>?_;refine⟨none,some i,_,h,⟨q1,?_,λt Z j' ht=>?_⟩,rfl,rfl,λZ ad hY an=>?_,λi ag hq=>by cases hq⟩
    .simp only[if_true];rw[Dt s.L i O];exact q2
    .obtain ⟨ad,y1,y2⟩:=k.sl t Z j' ht;by_cases N:i=Z
     .subst N;rw[O]at y1;cases y1;exact⟨_,List.getElem?_set_self (List.getElem?_eq_some_iff.1 O).1,y2⟩
     .exact ⟨ad,by rw[List.getElem?_set_ne N];exact y1,y2⟩
    .have N:i≠Z:=λN=>an (by rw[N]);show(s.L.set i _)[Z]? =_;rw[List.getElem?_set_ne N];exact hY
   .exact d.elim
  .obtain ⟨_,y⟩:=k.fJ d;simp only at y;split at y
   .rename_i hL;exact H _ _ (λv e h=>back v e (hL▸LC.nil _) h) (G _ (oF hs D y))
   .split at y
    .rename_i p v J hy;obtain⟨z,h⟩:=dP y;exact H _ _ (λv e h=>h) (G _ (oF hs D (KM j J hy z (TY (K':=tT s K undef) (λe C h=>back _ e C h) _ _ _ k.lc h))))
    .exact y.elim
 .rename_i q j;cases W:Af lv.l o.dst with
  |true=>
   rw[W,cond_true]at d;obtain⟨hz,d⟩:=dP d;obtain⟨aq,hz⟩:=Option.isSome_iff_exists.1 hz;have:zeroOf P q=aq:=by unfold zeroOf;rw[hz];rfl
   rw[this]at d;exact G _ (Qs (Ta j hz w) k d)
  |false=>
   rw[W,cond_false]at d;exact news (.inl ⟨q,j⟩) d
 .rename_i q B j;cases W:Af lv.l o.dst with
  |true=>
   rw[W,cond_true]at d;split at d
   .rename_i v Y;have:=Tb (P:=P) (ρ:=a.eval) j w;rw[D.val Y]at this;exact G _ (Qs this k d)
   .exact d.elim
  |false=>
   rw[W,cond_false]at d;exact news (.inr (.inl ⟨q,B,j⟩)) d
 .rename_i q l p j;exact news (.inr (.inr (.inl ⟨q,l,p,j⟩))) d
 .rename_i q r j;exact news (.inr (.inr (.inr ⟨q,r,j⟩))) d
 .rename_i f args ap j;obtain⟨I',d⟩:=k.fJ d;obtain⟨z,d⟩:=dP d;have aa:args.map a.eval=args.map s.E.ev:=D.args λB J=>List.all_eq_true.1 z B (by rw[j];simp[Op.operands,Call.operands,J]);cases Q:hv P f with
  |true=>
   rw[Q,cond_true]at d;exact H _ _ (λv e ⟨C,h⟩=>back v e C h) (hp _ (J9 (s:=⟨s.E,s.S,s.L,w,false⟩) (by simp[execOp,j,resolve,Act.eval,Deferred.ofValue,invoke,aa,ur Q]) k.lc rfl d))
  |false=>
   rw[Q,cond_false]at d;unfold z6 at d;obtain⟨v,e,hr,h⟩:=qW d;refine H _ _ ae (G _ λai=>?_);unfold Oper.wp;have:(execOp a.eval o).run P w=.ok (.value v) e:=by simp[execOp,j,resolve,Act.eval,Deferred.ofValue,invoke,aa,hr]
   rw[this];simp only[Oper.upon];exact⟨_,rfl,h⟩
 .rename_i t args ap j;obtain⟨I',d⟩:=k.fJ d;obtain⟨z,d⟩:=dP d;have aa:args.map a.eval=args.map s.E.ev:=D.args λB J=>List.all_eq_true.1 z B (by rw[j];simp[Op.operands,Call.operands,J]);split at d
  .rename_i f first captured hf
   obtain⟨Q,d⟩:=dP d;have am:a.eval (.tmp t)=.func (.func f) first captured:=D.val (x:=.tmp t) hf
   exact H _ _ (λv e ⟨C,h⟩=>back v e C h) (hp _ (J9 (s:=⟨s.E,s.S,s.L,w,false⟩) (by simp[execOp,j,resolve,am,Deferred.ofValue,invoke,aa,ur Q]) k.lc rfl d))
  .exact d.elim
 .rename_i B j;obtain⟨I',y⟩:=k.fJ d;split at y
  .rename_i t v R l Y ao;refine hp _ λai hQ=>?_;have hF:lv.pk.F=R:=by rw[ao];rfl
   rw[hF]at hQ;have aj:a.eval B=.iface t v:=D.val Y;unfold Oper.wp;have:(execOp a.eval o).run P w=.halt (.panic (.iface t v)) w:=by simp[execOp,j,aj,Instr.panic,goPanic,Sem.run]
   rw[this];exact hQ _ w y
  .exact y.elim
 .obtain ⟨_,y⟩:=k.fJ d;exact H _ _ ae (h1 _ y)
end
def HI(s:TS)(H:HT)(w:I):Prop:=∀p∈H,p.2.2 w/\∀i,p.2.1=some i->∃X,s.L[i]? =some X/\∀d:I,d.heap[X.1]? =some (.cells X.2.1.toArray X.2.2 (0,0))->p.2.2 d
def ft(H:HT):eA:=H.map λp=>(p.1,p.2.2)
def u2{ops:Array Oper}{j:Nat}:∀d:HT,c' ops j (ft d)=ft (gN ops j d)
 |[]=>rfl
 |(i,f,e)::d=>by
  show c' ops j ((i,e)::ft d)=ft (gN ops j ((i,f,e)::d));unfold c' gN;cases j3 ops i j
  .simp only[cond_false];rw[u2 d];rfl
  .simp only[cond_true];exact u2 d
def oT{ops:Array Oper}{j:Nat}:∀{H:HT} {p},p∈gN ops j H->p∈H/\j3 ops p.1 j=false
 |(i,f,h)::H,p,d=>by
  unfold gN at d;cases e:j3 ops i j with
  |true=>
   rw[e,cond_true]at d;exact⟨dJ _ (oT d).1,(oT d).2⟩
  |false=>
   rw[e,cond_false]at d;rcases aF.1 d with rfl|d
   .grind
   .exact ⟨dJ _ (oT d).1,(oT d).2⟩
def Mc{ops:Array Oper}{j:Nat}{w:I}:∀{H:HT} {p},p∈H->j3 ops p.1 j=false->p.2.1=none->p.2.2 w∈xo ops j w H
 |(i,f,k)::H,p,d,h,e=>by
  unfold xo;rcases aF.1 d with rfl|d
  .grind
  .have:=Mc (w:=w) d h e
   grind
def Inv.put{s:TS}{w:I}(h:Inv s w)(d:Option Nat){v:V}{q:Option (Nat×Nat)}(z:∀i e,q=some (i,e)->∃X,s.L[i]? =some X/\v=.pointer (some ((aa X.1).add e))):Inv ⟨s.E.put d v,s.S.put d q,s.L,s.w,s.d⟩ w:=by
 refine⟨h.lc,h.rel,λt i e j=>?_⟩;cases d with
 |none=>exact h.sl t i e j
 |some d=>
  simp only[Sv.put,Sv.get?]at j;simp only[Env.put,Env.get?];cases k:bQ d t with
  |true=>
   grind
  |false=>
   rw[k,cond_false]at j;obtain⟨X,x,y⟩:=h.sl t i e j
   grind
def acK{ops:Array Oper}{j:Nat}{s e:TS}{w w':I}{m:Option Nat}{H:HT}{K:TS->Prop}(G:HI s H w)(x:Inv e w')(N:∀i X,s.L[i]? =some X->m≠some i->e.L[i]? =some X)(O:(!((gN ops j H).any λp=>m.isSome&&p.2.1==m))=true)(k:Hk ops j e H K):
  ∃h,K h/\Inv h w'/\h.E=e.E/\h.S=e.S/\h.L=e.L/\HI h (gN ops j H) w':=by
 have A:∀p∈gN ops j H,∀i,p.2.1=some i->∃X,e.L[i]? =some X/\∀w':I,w'.heap[X.1]? =some (.cells X.2.1.toArray X.2.2 (0,0))->p.2.2 w':=λp d i z=>by
  obtain⟨X,B,C⟩:=(G p (oT d).1).2 i z
  grind
 have own:∀p∈gN ops j H,∀i,p.2.1=some i->p.2.2 w':=λp d i z=>by obtain⟨X,B,C⟩:=A p d i z;exact C w' (x.lc.own i X B)
 unfold Hk at k;cases q:H.any (λp=>!(j3 ops p.1 j)&&p.2.1.isNone)with
 |true=>
  rw[q,cond_true]at k;obtain⟨D,F⟩:=x.fJ k;obtain⟨J,M⟩:=ue F;refine⟨_,M,D,rfl,rfl,rfl,λp d=>⟨?_,A p d⟩⟩;cases y:p.2.1 with
  |none=>exact J _ (Mc (oT d).1 (oT d).2 y)
  |some i=>grind
 |false=>
  rw[q,cond_false]at k;refine⟨e,k,x,rfl,rfl,rfl,λp d=>⟨?_,A p d⟩⟩;cases y:p.2.1 with
  |none=>
   exfalso;rw[List.any_eq_false]at q;exact q p (oT d).1 (by rw[(oT d).2,y];rfl)
  |some i=>grind
section
variable {ops:Array Oper} {n:Cx} {lv:Lk}
def H0{o:Oper}{a:Act}{s:TS}{w:I}{H:HT}{K:TS->HT->Prop}{draw:Bool}{i:Nat}(A:(V->I->Prop)->Prop)(W:∀K,rF lv.pk.F P o a w K->A K)(J:∀K,(bif draw then hV else uF) P o s.E w K->A K)(k:∀K j,(∀v d,K v d->j v d)->A K->A j)(hs:∀B b,o.op≠.select B b)(N:Ag n a s.E)(x:Inv s w)(L:HI s H w)(Q:calm P o=false)(e:stepT P lv ops draw i o s H K):
  A λv d=>∃h,K h (gN ops i H)/\Inv h d/\HI h (gN ops i H) d/\h.E=s.E.put o.dst v:=by unfold stepT at e;rw[Q,cond_false]at e;refine k _ _ (λv d S=>?_) (Yd A W J k hs N x e);obtain⟨ac,m,s1,T,y,C,e2,M,Y⟩:=S;obtain⟨O,Z⟩:=dP T;obtain⟨s2,k2,z,D,f2,G,q⟩:=acK L y M O Z;refine⟨_,k2,z.put o.dst λi aa e=>?_,q,by rw[D,C]⟩;rw[G];exact Y i aa e
def T5{o:Oper}{a:Act}{s:TS}{w:I}{H:HT}{K:TS->HT->Prop}{draw:Bool}{i:Nat}(O:∀B b,o.op≠.select B b)(J:Ag n a s.E)(z:Inv s w)(F:HI s H w)(M:calm P o=true)(j:stepT P lv ops draw i o s H K):
  ∃v h e k,K e k/\Inv e w/\HI e k w/\e.E=s.E.put o.dst v/\Calm P o a.eval w v h/\ft k=(bif draw then h.map (λq=>(i,q))++ft H else ft H):=by
 unfold stepT at j;rw[M,cond_true]at j;obtain⟨v,ac,h,e,N,A,C,Q,D,x,T,W⟩:=XF O J z j;refine⟨v,h.map (·.2),_,_,N,A.put o.dst λi Z j=>?_,λp d=>?_,by rw[C],x,?_⟩
 .grind
 .have aa:p∈H->p.2.2 w/\∀i,p.2.1=some i->∃X,e.L[i]? =some X/\∀y:I,y.heap[X.1]? =some (.cells X.2.1.toArray X.2.2 (0,0))->p.2.2 y:=λd=>by rw[D];exact F p d
  cases draw with
  |false=>grind
  |true=>
   rcases aP.1 d with d|d
   .obtain ⟨q,G,rfl⟩:=List.mem_map.1 d;refine⟨x.1 _ (List.mem_map.2 ⟨q,G,rfl⟩),λY S=>?_⟩
    grind
   grind
 .cases draw with
  |false=>rfl
  |true=>simp[ft]
def EU{i d:Nat}{o:Oper}{want t:Bool}{s:TS}{H:HT}{K:TS->HT->Prop}{draw:Bool}(e:bK t (oO P lv ops draw i o d want true s H K) (oO P lv ops draw i o d want false s H K)):oO P lv ops draw i o d want t s H K:=by
 cases t
 .exact e
 .exact e
def Inv.same{s:TS}{w:I}(e:Inv s w){d:Nat}{v:V}(hd:s.E.get? d=some v):Inv ⟨(d,v)::s.E,s.S,s.L,s.w,s.d⟩ w:=by
 refine⟨e.lc,e.rel,λt i q k=>?_⟩;obtain⟨X,j,x⟩:=e.sl t i q k;refine⟨X,j,?_⟩;simp only[Env.get?];by_cases h:d=t
 .grind
 .have y:bQ d t=false:=by rw[<-Bool.not_eq_true,eE];exact h
  grind
def Inv.skip{s:TS}{w:I}(e:Inv s w)(d:Option Nat):Inv ⟨s.E.put d undef,s.S.put d none,s.L,s.w,s.d⟩ w:=e.put d λi j h=>by cases h
def HI.skip{s d:TS}{w:I}{H:HT}(h:HI s H w)(e:d.L=s.L):HI d H w:=λp j=>by rw[e];exact h p j
def HI.drop{s:TS}{w:I}{H:HT}{j:Nat}(d:HI s H w):HI s (gN ops j H) w:=λp e=>d p (oT e).1
def HI.held{s:TS}{w:I}{H:HT}(d:HI s H w):∀p∈ft H,p.2 w:=λp e=>by obtain⟨j,h,rfl⟩:=List.mem_map.1 e;exact(d j h).1
def ua(n:Cx)(F:aC)(Q:Exit->Act->I->Prop):Prop:=∀c (a:Act) w,a.defers=n.ds->F (.panicked c) w->Q (.panic c) a w
def IB(F:aC)(P:au)(n:Cx)(o:Oper)(a:Act)(w:I)(K:V->I->Prop):Prop:=
 ∀e:Exit->Act->I->Prop,(∀c d,F (.panicked c) d->e (.panic c) a d)->o.wpIn (FW n) 0 P a w (λh d=>∃v,h=a.put o.dst v/\K v d) e
def afi{F:aC}{i:Nat}{o:Oper}{a:Act}{w:I}{Kv:V->I->Prop}{K':Act->I->Prop}{Q:Exit->Act->I->Prop}(h:ua n F Q)(hd:a.defers=n.ds)(q:ops[i]? =some o)(y:cz o (yielded ops a.tmps)=true)(e:IB F P n o a w Kv)(k:∀v d,Kv v d->K' (a.put o.dst v) d):wpOpIn (FW n) 0 P ops Q i K' a w:=by unfold wpOpIn;simp only[q,y,if_true];exact Oper.wpIn_mono (λz d=>by rintro⟨v,rfl,x⟩;exact k v d x) (e Q λc d j=>h c a d hd j)
def Vh{F:aC}{i:Nat}{o:Oper}{a:Act}{w:I}{Kv:V->I->Prop}{K':Act->I->Prop}{Q:Exit->Act->I->Prop}(h:ua n F Q)(hd:a.defers=n.ds)(q:ops[i]? =some o)(y:cz o (yielded ops a.tmps)=true)(e:rF F P o a w Kv)(k:∀v d,Kv v d->K' (a.put o.dst v) d):wpOp P ops Q i K' a w:=by unfold wpOp;simp only[q,y,if_true];exact .inl (Oper.wp_mono (λz d=>by rintro⟨v,rfl,x⟩;exact k v d x) (e Q λc d j=>h c a d hd j))
def BB{K:TS->Prop}{Q:Exit->Act->I->Prop}(J:ua n lv.pk.F Q)(k:dE n ops=true):∀(l:List Nat) (s:TS) (w:I) (a:Act),Ag n a s.E->Inv s w->runT P lv ops false K l s []->(∀x y W,Ag n W x.E->Inv x y->K x->Q .normal W y)->wpOpsIn (FW n) 0 P ops Q l a w
 |[],s,w,a,h,q,e,G=>G s w a h q e
 |i::l,s,w,a,h,q,e,G=>by
  have aa:=Region.noSelect_spec (ops:=ops) (by unfold dE at k;rw[bf]at k;exact k.1);unfold runT at e;cases j:ops[i]? with
  |none=>rw[j]at e;exact e.elim
  |some o=>
   rw[j]at e;simp only at e;have step:∀(s:TS),Ag n a s.E->Inv s w->cz o (yielded ops a.tmps)=true->stepT P lv ops false i o s [] (λx H=>runT P lv ops false K l x H)->wpOpsIn (FW n) 0 P ops Q (i::l) a w:=λs h q O e=>by
    rw[wpOpsIn_cons];cases hc:calm P o with
    |true=>
     obtain⟨v,Ss,x,H,k1,T,_,Y,ad,af⟩:=T5 (λC b=>aa i o C b j) h q (λp hp=>by cases hp) hc e;have:H=[]:=by cases H with |nil=>rfl|cons am l=>cases af
     subst this;refine Ix (Kv:=λv' y=>v'=v/\y=w) j O ?_ ?_
     .refine jj.in (vq k j) λA=>?_;unfold Oper.wp;rw[ad.2 w ad.1];exact⟨v,rfl,rfl,rfl⟩
     .rintro v' y ⟨rfl,rfl⟩;exact BB J k l x _ _ (by rw[Y];exact h.put _ (g9 k j)) T k1 G
    |false=>
     refine afi J h.defers j O (H0 (draw:=false) (s:=s) (IB lv.pk.F P n o a w) (λK Z A hq=>Iz (vq k j) (Z A hq)) (λK Z A _=>KN (λC b=>aa i o C b j) (vq k j) h Z A) (λK K' ag hA A hq=>Oper.wpIn_mono (λW y ⟨v,ae,hv⟩=>⟨v,ae,ag v y hv⟩) (hA A hq)) (λC b=>aa i o C b j) h q (λp hp=>by cases hp) hc e) λv y ⟨x,k1,T,_,Y⟩=>?_;exact BB J k l x y _ (by rw[Y];exact h.put v (g9 k j)) T k1 G
   have skip:∀(s:TS),Ag n a s.E->Inv s w->cz o (yielded ops a.tmps)=false->runT P lv ops false K l ⟨s.E.put o.dst undef,s.S.put o.dst none,s.L,s.w,s.d⟩ []->wpOpsIn (FW n) 0 P ops Q (i::l) a w:=λs h q O e=>by rw[wpOpsIn_cons];unfold wpOpIn;simp only[j,O];exact⟨λ_ _=>trivial,BB J k l _ w _ (h.put undef (g9 k j)) (q.skip o.dst) e G⟩
   have ac:(bif calm P o then([]:HT)else gN ops i [])=[]:=by cases calm P o<;>rfl
   cases B:o.guard with
   |none=>
    rw[B]at e;exact step s h q (by simp[cz,B]) e
   |some jw=>
    obtain⟨ai,want⟩:=jw;rw[B]at e;simp only at e;cases N:kO ops ai with
    |none=>rw[N]at e;exact e.elim
    |some aj=>
     rw[N]at e;simp only at e;split at e
     .rename_i t z;have hy:=tN h N z;have D:=EU e;unfold oO at D;cases M:(t==want)with
      |true=>
       rw[M,cond_true]at D;exact step _ (h.same z) (q.same z) (by simp[cz,B,hy];simpa using M) D
      |false=>
       rw[M,cond_false,ac]at D;exact skip _ (h.same z) (q.same z) (by simp[cz,B,hy];simpa using M) D
     .rename_i vs z;rw[ac]at e;exact skip s h q (by simp[cz,B,tO h N z]) e
     .exact e.elim
def fO(n:Cx)(F:aC)(K:TS->Prop):Exit->Act->I->Prop
 |.normal,a,d=>∃s,Ag n a s.E/\Inv s d/\K s
 |.panic c,a,d=>a.defers=n.ds/\F (.panicked c) d
 |_,_,_=>False
def fO.q{F:aC}{K:TS->Prop}:ua n F (fO n F K):=λ_ _ _ d e=>⟨d,e⟩
def fO.put{F:aC}{K:TS->Prop}{c:List PanicEntry}{a:Act}{w:I}{d:Option Nat}{v:V}(e:fO n F K (.panic c) (a.put d v) w):fO n F K (.panic c) a w:=by cases d<;>exact e
def adx{i:Nat}{o:Oper}{a:Act}{w:I}{H:eA}{e:Array Bool}{fuel:Nat}{Q:Exit->Act->I->Prop}(h:dE n ops=true)(j:ops[i]? =some o)(d:(bif calm P o then Region.free .any ops e i&&(ec .any ops e).contains i else ec .any ops e==[i])=true)(B:∀c a w,Q (.panic c) (a.put o.dst undef) w->Q (.panic c) a w)(q:∀p∈H,p.2 w)(A:cz o (yielded ops a.tmps)=false)(next:ei P ops Q fuel (bif calm P o then H else c' ops i H) (e.setIfInBounds i true) (a.put o.dst undef) w):ei P ops Q (fuel+1) H e a w:=by
 have E:=Region.noSelect_spec (ops:=ops) (by unfold dE at h;rw[bf]at h;exact h.1);cases x:calm P o with
 |true=>
  rw[x]at d next
  simp only[cond_true]at d next
  rw[bf]at d;exact Cv (v:=undef) (Ss:=[]) j E B fuel H e a w (Region.free_spec j d.1) (by simpa using d.2) (.inr ⟨A,rfl⟩) (λF C=>(by cases C)) q (by simpa using next)
 |false=>
  rw[x]at d next
  simp only[cond_false]at d next
  have z:ec .any ops e=[i]:=by simpa using d
  refine λ_=>⟨λk=>(by rw[z]at k;cases k),λG y=>?_⟩;rw[z]at y;obtain rfl:=cK.1 y;unfold wpOp;simp only[j,A];exact⟨λp D=>q p (fF.1 D).1,next⟩
def Zm{o:Oper}{i:Nat}{H:HT}:(bif calm P o then ft H else c' ops i (ft H))=ft (bif calm P o then H else gN ops i H):=by
 cases calm P o
 .exact u2 H
 .rfl
def HI.BQ{o:Oper}{i:Nat}{s h:TS}{w:I}{H:HT}(d:HI s H w)(e:h.L=s.L):HI h (bif calm P o then H else gN ops i H) w:=by
 cases calm P o
 .exact d.drop.skip e
 .exact d.skip e
def Zb(B:dE n ops=true){K:TS->Prop}{i:Nat}{o:Oper}{s:TS}{w:I}{H:HT}{a:Act}{Q:TS->HT->Prop}{y:Array Bool}{fuel:Nat}(k:ops[i]? =some o)(G:(bif calm P o then Region.free .any ops y i&&(ec .any ops y).contains i else ec .any ops y==[i])=true)(h:Ag n a s.E)(x:Inv s w)(j:HI s H w)(e:xm P lv ops i s H Q)(next:∀a' A z J,Ag n a' A.E->Inv A z->HI A J z->Q A J->ei P ops (fO n lv.pk.F K) fuel (ft J) (y.setIfInBounds i true) a' z):ei P ops (fO n lv.pk.F K) (fuel+1) (ft H) y a w:=by
 have Z:=Region.noSelect_spec (ops:=ops) (by unfold dE at B;rw[bf]at B;exact B.1);have step:∀(s:TS),Ag n a s.E->Inv s w->HI s H w->cz o (yielded ops a.tmps)=true->stepT P lv ops true i o s H Q->ei P ops (fO n lv.pk.F K) (fuel+1) (ft H) y a w:=λs h x j ae e=>by
  cases W:calm P o with
  |true=>
   rw[W,cond_true,bf]at G;obtain⟨v,af,A,J,k1,I',O,e1,ad,ac⟩:=T5 (λM b=>Z i o M b k) h x j W e;refine Cv (v:=v) (Ss:=af) k Z (λ_ _ _ e=>e.put) fuel (ft H) y a w (Region.free_spec k G.1) (by simpa using G.2) (.inl ⟨ae,λz aj=>ad.2 z aj⟩) ad.1 j.held ?_;rw[cond_true]at ac;rw[<-ac];exact next _ A w J (by rw[e1];exact h.put v (g9 B k)) I' O k1
  |false=>
   rw[W,cond_false]at G;have hr:ec .any ops y=[i]:=by simpa using G
   refine λ_=>⟨λh0=>(by rw[hr]at h0;cases h0),λaa hj=>?_⟩;rw[hr]at hj;obtain rfl:=cK.1 hj;refine Vh fO.q h.defers k ae (H0 (draw:=true) (s:=s) (rF lv.pk.F P o a w) (λK hK=>hK) (λK hK=>(oF (λM b=>Z aa o M b k) h hK).p) (λK K' ai hA Q' hq=>Oper.wp_mono (λa' z ⟨v,ag,hv⟩=>⟨v,ag,ai v z hv⟩) (hA Q' hq)) (λM b=>Z aa o M b k) h x j W e) λv z ⟨A,k1,I',O,e1⟩=>?_;rw[u2];exact⟨O.held,next _ A z _ (by rw[e1];exact h.put v (g9 B k)) I' O k1⟩
 have skip:∀(s:TS),Ag n a s.E->Inv s w->HI s H w->cz o (yielded ops a.tmps)=false->Q ⟨s.E.put o.dst undef,s.S.put o.dst none,s.L,s.w,s.d⟩ (bif calm P o then H else gN ops i H)->ei P ops (fO n lv.pk.F K) (fuel+1) (ft H) y a w:=λs h x j hw e=>by refine adx B k G (λ_ _ _ e=>e.put) j.held hw ?_;rw[Zm];exact next _ _ w _ (h.put undef (g9 B k)) (x.skip o.dst) (j.BQ rfl) e
 unfold xm at e;rw[k]at e;simp only at e;cases D:o.guard with
 |none=>
  rw[D]at e;exact step s h x j (by simp[cz,D]) e
 |some jw=>
  obtain⟨aa,want⟩:=jw;rw[D]at e;simp only at e;cases Y:kO ops aa with
  |none=>rw[Y]at e;exact e.elim
  |some am=>
   rw[Y]at e;simp only at e;split at e
   .rename_i t C;have hy:=tN h Y C;have N:=EU e;unfold oO at N;cases T:(t==want)with
    |true=>
     rw[T,cond_true]at N;exact step _ (h.same C) (x.same C) (j.skip rfl) (by simp[cz,D,hy];simpa using T) N
    |false=>
     rw[T,cond_false]at N;exact skip _ (h.same C) (x.same C) (j.skip rfl) (by simp[cz,D,hy];simpa using T) N
   .rename_i vs C;exact skip s h x j (by simp[cz,D,tO h Y C]) e
   .exact e.elim
def Zc(G:dE n ops=true){K:TS->Prop}{i:Nat}{o:Oper}{s:TS}{w:I}{H:HT}{a:Act}{J:TS->HT->Prop}{O:Array Bool}{fuel:Nat}(z:ops[i]? =some o)(Z:calm P o=false)(j:Ag n a s.E)(y:Inv s w)(x:HI s H w)(e:xm P lv ops i s H J)(next:∀k C h Q,Ag n k C.E->Inv C h->HI C Q h->J C Q->ei P ops (fO n lv.pk.F K) fuel (ft Q) (O.setIfInBounds i true) k h):
  wpOp P ops (fO n lv.pk.F K) i (λk h=>(∀p∈c' ops i (ft H),p.2 h)/\ei P ops (fO n lv.pk.F K) fuel (c' ops i (ft H)) (O.setIfInBounds i true) k h) a w:=by
 have aa:=Region.noSelect_spec (ops:=ops) (by unfold dE at G;rw[bf]at G;exact G.1);have step:∀(s:TS),Ag n a s.E->Inv s w->HI s H w->cz o (yielded ops a.tmps)=true->stepT P lv ops true i o s H J->wpOp P ops (fO n lv.pk.F K) i (λk h=>(∀p∈c' ops i (ft H),p.2 h)/\ei P ops (fO n lv.pk.F K) fuel (c' ops i (ft H)) (O.setIfInBounds i true) k h) a w:=λs j y x ae e=>by refine Vh fO.q j.defers z ae (H0 (draw:=true) (s:=s) (rF lv.pk.F P o a w) (λK W=>W) (λK W=>(oF (λT b=>aa i o T b z) j W).p) (λK K' ad hA Q' hq=>Oper.wp_mono (λk h ⟨v,ac,hv⟩=>⟨v,ac,ad v h hv⟩) (hA Q' hq)) (λT b=>aa i o T b z) j y x Z e) λv h ⟨C,k1,I',Y,e1⟩=>?_;rw[u2];exact⟨Y.held,next _ C h _ (by rw[e1];exact j.put v (g9 G z)) I' Y k1⟩
 have skip:∀(s:TS),Ag n a s.E->Inv s w->HI s H w->cz o (yielded ops a.tmps)=false->J ⟨s.E.put o.dst undef,s.S.put o.dst none,s.L,s.w,s.d⟩ (bif calm P o then H else gN ops i H)->wpOp P ops (fO n lv.pk.F K) i (λk h=>(∀p∈c' ops i (ft H),p.2 h)/\ei P ops (fO n lv.pk.F K) fuel (c' ops i (ft H)) (O.setIfInBounds i true) k h) a w:=λs j y x hw e=>by refine HN z x.held hw ?_;rw[Z,cond_false]at e;rw[u2];exact next _ _ w _ (j.put undef (g9 G z)) (y.skip o.dst) (x.drop.skip rfl) e
 unfold xm at e;rw[z]at e;simp only at e;cases B:o.guard with
 |none=>
  rw[B]at e;exact step s j y x (by simp[cz,B]) e
 |some jw=>
  obtain⟨af,want⟩:=jw;rw[B]at e;simp only at e;cases N:kO ops af with
  |none=>rw[N]at e;exact e.elim
  |some ag=>
   rw[N]at e;simp only at e;split at e
   .rename_i t A;have hy:=tN j N A;have D:=EU e;unfold oO at D;cases M:(t==want)with
    |true=>
     rw[M,cond_true]at D;exact step _ (j.same A) (y.same A) (x.skip rfl) (by simp[cz,B,hy];simpa using M) D
    |false=>
     rw[M,cond_false]at D;exact skip _ (j.same A) (y.same A) (x.skip rfl) (by simp[cz,B,hy];simpa using M) D
   .rename_i vs A;exact skip s j y x (by simp[cz,B,tO j N A]) e
   .exact e.elim
def yN(G:dE n ops=true){K:TS->Prop}:∀(t:Tr) (alt:Bool) (e:Array Bool) (s:TS) (w:I) (H:HT) (a:Act) (m:Nat),iI P ops t alt e=true->Ag n a s.E->Inv s w->HI s H w->rA P lv ops K t s H->
  (alt=false->t.len=m->ei P ops (fO n lv.pk.F K) m (ft H) e a w)/\
  (alt=true->t.len=m+1->∀i∈t.jY,wpOp P ops (fO n lv.pk.F K) i (λy k=>(∀p∈c' ops i (ft H),p.2 k)/\ei P ops (fO n lv.pk.F K) m (c' ops i (ft H)) (e.setIfInBounds i true) y k) a w)
 |.nil,alt,e,s,w,H,a,m,d,A,x,D,h=>by
  unfold iI at d;rw[bf]at d;refine⟨λ_ j=>?_,λz=>?_⟩
  .subst j;exact λ_=>⟨by simpa using d.2,s,A,x,h⟩
  .subst z;simp at d
 |.one i t,alt,e,s,w,H,a,m,d,A,x,D,h=>by
  unfold iI at d;rw[bf]at d;obtain⟨d,ac⟩:=d;cases L:ops[i]? with
  |none=>rw[L]at d;cases d
  |some o=>
   rw[L]at d;simp only at d;unfold rA at h;refine⟨λz j=>?_,λz j ae hj=>?_⟩
   .subst z j;exact Zb G L d A x D h λy Z k N O S Q T=>(yN G t false _ Z k N y _ ac O S Q T).1 rfl rfl
   .subst z;rw[cond_true]at d;obtain rfl:=cK.1 hj;have W:t.len=m:=by simpa[Tr.len]using j
    exact Zc G L (by simpa using d) A x D h λy Z k N O S Q T=>(yN G t false _ Z k N y _ ac O S Q T).1 rfl W
 |.fork C M,alt,e,s,w,H,a,m,d,A,x,D,h=>by
  unfold iI at d;simp only[bf]at d;obtain⟨hr,hl,Y,hy⟩:=d;rw[eE]at hl;unfold rA at h;have both:∀q,C.len=q+1->∀i∈(Tr.fork C M).jY,wpOp P ops (fO n lv.pk.F K) i (λy k=>(∀p∈c' ops i (ft H),p.2 k)/\ei P ops (fO n lv.pk.F K) q (c' ops i (ft H)) (e.setIfInBounds i true) y k) a w:=λq J i B=>by
   rcases aP.1 B with B|B
   .exact (yN G C true e s w H a q Y A x D h.1).2 rfl J i B
   .exact (yN G M true e s w H a q hy A x D h.2).2 rfl (hl▸J) i B
  refine⟨λz j=>?_,λ_ j=>both m j⟩;subst z;obtain⟨q,J⟩:=Ii C e Y;have W:m=q+1:=by rw[<-j,<-J];rfl
  subst W;have aa:ec .any ops e=(Tr.fork C M).jY:=by simpa using hr
  have ad:(Tr.fork C M).jY≠[]:=by have:=Ih C e Y;simp[Tr.jY,this]
  exact λ_=>⟨λh0=>absurd (aa▸h0) ad,λi B=>both q J i (aa▸B)⟩
def acN{c:Code}{a:Act}{s:TS}{w:I}{K:TS->Prop}(d:s9 n c=true)(z:Ag n a s.E)(k:Inv s w)(y:runT P lv (Code.ops c) false K (List.range (Code.ops c).size) s []):g2 P n c (fO n lv.pk.F K) a w:=by
 unfold s9 at d;split at d
 .rename_i id ops x;rw[bf]at d;obtain⟨e,h⟩:=d;have j:x=false:=by simpa using e
  subst j;exact wpIn_region (BB fO.q h _ s w a z k y λA C B e h j=>⟨A,e,h,j⟩)
 .cases d
def Inv.dr{s:TS}{w:I}{K:TS->Prop}(e:Inv s w)(d:zT s K):∃h,K h/\Inv h w.drew/\h.E=s.E:=by
 have lc:LC w.drew s.L:=e.lc.fr (M:=λ_=>False) (Fr.drew _ _) (λ_ _ d=>d);unfold zT at d;split at d
 .rename_i q j;have k:=e.rel;rw[j]at k;have:w=s.w:=by grind
  exact⟨_,d,⟨lc,by grind,e.sl⟩,rfl⟩
 .exact ⟨_,d,⟨lc,by simpa using e.fr.gq (Fr.drew _ _),e.sl⟩,rfl⟩
def acL{c:Code}{a:Act}{s:TS}{w:I}{K:TS->Prop}{t:Tr}(d:vE P n c t=true)(A:Ag n a s.E)(k:Inv s w)(e:zT s λs=>rA P lv (Code.ops c) K t s []):g2 P n c (fO n lv.pk.F K) a w:=by
 unfold vE at d;split at d
 .rename_i id ops J;simp only[bf]at d;obtain⟨rfl,D,j,C,h⟩:=d;rw[eE]at h;obtain⟨H,B,q,x⟩:=k.dr e;have y:=(yN j t false _ H w.drew [] a _ C (by rw[x];exact A) q (λp G=>(by cases G)) B).1 rfl h;have z:=yW _ [] _ _ _ (Down.zero _ _) y;refine wpIn_region_draw λt=>?_;refine tL j (λ⟨_,_,e⟩=>e) _ _ _ ?_;simp only[Region.schedule,D,Bool.true_or,if_true];exact wpAny_sound ops.size t _ a _ z
 .cases d
end
end
abbrev KT:=Exit->TS->Prop
structure oA where
 ord:Nat->Option Tr
 pt:List Bool->Option (TS->Prop)
 lv:Lk
def rk(e:oA)(q:List Bool)(f:TS->Prop)(s:TS):Prop:=match e.pt q with
 |some d=>fJ s d
 |none=>f s
def Tq(e:oA)(q:List Bool)(f:TS->Prop)(K:KT):KT:=λd s=>match d with
 |.normal=>rk e q f s
 |d=>K d s
def zD(id:Nat)(K:KT):KT:=λd s=>match d with
 |.exit e=>if e=id then K .normal s else K (.exit e) s
 |d=>K d s
def iY(P:au)(n:Cx)(h:oA):Code->List Bool->KT->TS->Prop
 |.skip,_,d,s=>d .normal s
 |.region id ops true,_,d,s=>match h.ord id with
  |some t=>cS (vE P n (.region id ops true) t) (zT s λs=>rA P h.lv ops (d .normal) t s [])
  |none=>False
 |.region id ops false,_,d,s=>cS (s9 n (.region id ops false)) (runT P h.lv ops false (d .normal) (List.range ops.size) s [])
 |.seq a b,e,d,s=>iY P n h a (false::e) (Tq h (true::e) (iY P n h b (true::e) d) d) s
 |.cond o a b,e,d,s=>iA (s.E.val o) (rk h (false::e) (iY P n h a (false::e) d) s) (rk h (true::e) (iY P n h b (true::e) d) s)
 |.block id a,e,d,s=>iY P n h a (false::e) (zD id d) s
 |.loop _,e,_,s=>rk h e (λ_=>False) s
 |.exit id,_,d,s=>d (.exit id) s
 |.ret,_,d,s=>d .ret s
 |_,_,_,_=>False
section
variable {P:au} {n:Cx} {tb:oA}
def gD(P:au)(n:Cx)(k:Code)(j:Exit->Act->I->Prop):List Bool->Code×(Exit->Act->I->Prop)
 |[]=>(k,j)
 |b::q=>match gD P n k j q,b with
  |(.seq e h,d),false=>(e,Exit.then (g2 P n h d) d)
  |(.seq _ h,d),true=>(h,d)
  |(.cond _ e _,d),false=>(e,d)
  |(.cond _ _ h,d),true=>(h,d)
  |(.block id e,d),_=>(e,Exit.inBlock id d)
  |(.loop e,d),_=>(e,Exit.then (qG P n e d) d)
  |(_,d),_=>(.skip,d)
def tQ(P:au)(n:Cx)(p:Code×(Exit->Act->I->Prop))(a:Act)(w:I):Prop:=match p with
 |(.loop e,d)=>qG P n e d a w
 |(c,d)=>g2 P n c d a w
def tQ.wp{c:Code}{Q:Exit->Act->I->Prop}{a:Act}{w:I}(d:tQ P n (c,Q) a w):g2 P n c Q a w:=by
 unfold tQ at d;split at d
 .rename_i j h e;cases e;exact Vi d
 grind
def KQ(n:Cx)(F:aC)(K:KT)(Q:Exit->Act->I->Prop):Prop:=(∀d s e a,Ag n a s.E->Inv s e->K d s->Q d a e)/\ua n F Q
def ub(P:au)(n:Cx)(tb:oA)(k:Code)(j:Exit->Act->I->Prop):Prop:=∀e d,tb.pt e=some d->∀s h a,Ag n a s.E->Inv s h->d s->tQ P n (gD P n k j e) a h
variable {c0:Code} {Q0:Exit->Act->I->Prop}
def yc(y:ub P n tb c0 Q0){q:List Bool}{c:Code}{Q:Exit->Act->I->Prop}(A:gD P n c0 Q0 q=(c,Q)){f:TS->Prop}{s:TS}{w:I}{a:Act}(z:Ag n a s.E)(h:Inv s w)(B:f s->g2 P n c Q a w)(d:rk tb q f s):g2 P n c Q a w:=by
 unfold rk at d;split at d
 .rename_i e x;obtain⟨j,k⟩:=h.fJ d;have:=y q e x ⟨s.E,s.S,s.L,w,false⟩ w a z j k;rw[A]at this;exact this.wp
 grind
def SC{F:aC}{c:Code}{K:TS->Prop}{Q:Exit->Act->I->Prop}{a:Act}{w:I}(x:ua n F Q)(k:g2 P n c (fO n F K) a w)(q:∀s w a,Ag n a s.E->Inv s w->K s->Q .normal a w):g2 P n c Q a w:=
 wpIn_mono k λj e h d=>by
  cases j with
  |normal=>obtain⟨s',hA,hI,hK⟩:=d;exact q s' h e hA hI hK
  |panic c=>exact x c e h d.1 d.2
  |_=>exact d.elim
def pF(A:ub P n tb c0 Q0):∀(c:Code) (q:List Bool) (K:KT) (Q:Exit->Act->I->Prop) (s:TS) (w:I) (a:Act),gD P n c0 Q0 q=(c,Q)->KQ n tb.lv.pk.F K Q->Ag n a s.E->Inv s w->iY P n tb c q K s->g2 P n c Q a w
 |.skip,q,K,Q,s,w,a,k,e,h,j,d=>wpIn_skip (e.1 _ _ _ _ h j d)
 |.region id ops true,q,K,Q,s,w,a,k,e,h,j,d=>by
  unfold iY at d;split at d
  .obtain ⟨y,z⟩:=dP d;exact SC e.2 (acL (c:=.region id ops true) y h j z) λs w a y z N=>e.1 _ _ _ _ y z N
  .exact d.elim
 |.region id ops false,q,K,Q,s,w,a,k,e,h,j,d=>by unfold iY at d;obtain⟨y,z⟩:=dP d;exact SC e.2 (acN (c:=.region id ops false) y h j z) λs w a y z N=>e.1 _ _ _ _ y z N
 |.seq B L,q,K,Q,s,w,a,k,e,h,j,d=>by
  unfold iY at d;have J:gD P n c0 Q0 (false::q)=(B,Exit.then (g2 P n L Q) Q):=by unfold gD;rw[k]
  have M:gD P n c0 Q0 (true::q)=(L,Q):=by unfold gD;rw[k]
  refine wpIn_seq (pF A B (false::q) _ _ s w a J ⟨λx S T O H D C=>?_,λc a w y z=>e.2 c a w y z⟩ h j d);cases x with
  |normal=>exact yc A M H D (λG=>pF A L (true::q) K Q S T O M e H D G) C
  |_=>exact e.1 _ _ _ _ H D C
 |.cond o B L,q,K,Q,s,w,a,k,e,h,j,d=>by
  unfold iY at d;have J:gD P n c0 Q0 (false::q)=(B,Q):=by unfold gD;rw[k]
  have M:gD P n c0 Q0 (true::q)=(L,Q):=by unfold gD;rw[k]
  unfold iA at d;split at d
  .rename_i t W;refine wpIn_cond_split (h.val W) (λx=>?_) (λx=>?_)
   .subst x;exact yc A J h j (λG=>pF A B (false::q) K Q s w a J e h j G) d
   .subst x;exact yc A M h j (λG=>pF A L (true::q) K Q s w a M e h j G) d
  .exact d.elim
 |.block id B,q,K,Q,s,w,a,k,e,h,j,d=>by
  unfold iY at d;have J:gD P n c0 Q0 (false::q)=(B,Exit.inBlock id Q):=by unfold gD;rw[k]
  refine wpIn_block (pF A B (false::q) _ _ s w a J ⟨λx S T O H D C=>?_,λc a w y z=>e.2 c a w y z⟩ h j d);cases x with
  |exit Y=>
   simp only[zD]at C;simp only[Exit.inBlock];split at C
   .rename_i x;rw[ag x];exact e.1 _ _ _ _ H D C
   .rename_i x;rw[ad x];exact e.1 _ _ _ _ H D C
  |_=>exact e.1 _ _ _ _ H D C
 |.loop B,q,K,Q,s,w,a,k,e,h,j,d=>by unfold iY at d;exact yc A k h j (λG=>G.elim) d
 |.exit id,q,K,Q,s,w,a,k,e,h,j,d=>wpIn_exit (e.1 _ _ _ _ h j d)
 |.ret,q,K,Q,s,w,a,k,e,h,j,d=>wpIn_ret (e.1 _ _ _ _ h j d)
 |.rangeFunc ..,_,_,_,_,_,_,_,_,_,_,d=>d.elim
 |.scope _,_,_,_,_,_,_,_,_,_,_,d=>d.elim
 |.label _,_,_,_,_,_,_,_,_,_,_,d=>d.elim
 |.goto _,_,_,_,_,_,_,_,_,_,_,d=>d.elim
 |.refuse _,_,_,_,_,_,_,_,_,_,_,d=>d.elim
def Az(tb:oA)(q:List Bool)(K:KT):KT:=λd s=>match d with
 |.normal=>rk tb q (λ_=>False) s
 |d=>K d s
def pR(P:au)(n:Cx)(tb:oA)(c0:Code)(k:KT):List Bool->Code×KT
 |[]=>(c0,k)
 |b::j=>match pR P n tb c0 k j,b with
  |(.seq e h,d),false=>(e,Tq tb (true::j) (iY P n tb h (true::j) d) d)
  |(.seq _ h,d),true=>(h,d)
  |(.cond _ e _,d),false=>(e,d)
  |(.cond _ _ h,d),true=>(h,d)
  |(.block id e,d),_=>(e,zD id d)
  |(.loop e,d),_=>(e,Az tb j d)
  |(_,d),_=>(.skip,d)
def Ff(C:ub P n tb c0 Q0){A:KT}(K:KQ n tb.lv.pk.F A Q0):∀h:List Bool,(pR P n tb c0 A h).1=(gD P n c0 Q0 h).1/\KQ n tb.lv.pk.F (pR P n tb c0 A h).2 (gD P n c0 Q0 h).2
 |[]=>⟨rfl,K⟩
 |b::h=>by
  obtain⟨B,d⟩:=Ff C K h;unfold pR gD;generalize M:gD P n c0 Q0 h=p at B d;generalize pR P n tb c0 A h=k at B d;obtain⟨c,J⟩:=p;obtain⟨W,T⟩:=k;simp only at B d;subst B;cases W with
  |seq G H=>
   cases b with
   |false=>
    refine⟨rfl,λx s j a w q e=>?_,λc a j y z=>d.2 c a j y z⟩;cases x with
    |normal=>
     have N:gD P n c0 Q0 (true::h)=(H,J):=by unfold gD;rw[M]
     exact yc C N w q (λD=>pF C H (true::h) T J s j a N d w q D) e
    |_=>exact d.1 _ _ _ _ w q e
   |true=>exact⟨rfl,d⟩
  |cond o G H=>cases b<;>exact⟨rfl,d⟩
  |block id G=>
   cases b<;>(
    refine⟨rfl,λx s j a w q e=>?_,λc a j y z=>d.2 c a j y z⟩;cases x with
    |exit Z=>
     simp only[zD]at e;simp only[Exit.inBlock];split at e
     .rename_i x;rw[ag x];exact d.1 _ _ _ _ w q e
     .rename_i x;rw[ad x];exact d.1 _ _ _ _ w q e
    |_=>exact d.1 _ _ _ _ w q e)
  |loop G=>
   cases b<;>(
    refine⟨rfl,λx s j a w q e=>?_,λc a j y z=>d.2 c a j y z⟩;cases x with
    |normal=>
     simp only[Az,rk]at e;split at e
     .rename_i O Y;obtain⟨Q,D⟩:=q.fJ e;have:=C h O Y ⟨s.E,s.S,s.L,j,false⟩ j a w Q D;rw[M]at this;exact this
     .exact e.elim
    |_=>exact d.1 _ _ _ _ w q e)
  |_=>cases b<;>exact⟨rfl,d⟩
def Eb(P:au)(n:Cx)(tb:oA)(c0:Code)(e:KT)(q:List Bool)(s:TS):Prop:=match pR P n tb c0 e q with
 |(.loop h,d)=>iY P n tb h (false::q) (Az tb q d) s
 |(c,d)=>iY P n tb c q d s
def XU(x:ub P n tb c0 Q0){d:KT}(C:KQ n tb.lv.pk.F d Q0){q:List Bool}{s:TS}{w:I}{a:Act}(G:Ag n a s.E)(A:Inv s w)(e:Eb P n tb c0 d q s):tQ P n (gD P n c0 Q0 q) a w:=by
 obtain⟨h,j⟩:=Ff x C q;have D:=Ff x C (false::q);unfold Eb at e;generalize H:gD P n c0 Q0 q=p at h j;generalize L:pR P n tb c0 d q=k at e h j;obtain⟨c,z⟩:=p;obtain⟨K,B⟩:=k;simp only at h j;subst h;cases K with
 |loop y=>
  have J:gD P n c0 Q0 (false::q)=(y,Exit.then (qG P n y z) z):=by unfold gD;rw[H]
  have M:pR P n tb c0 d (false::q)=(y,Az tb q B):=by unfold pR;rw[L]
  rw[J,M]at D;exact Nj (pF x y (false::q) _ _ s w a J D.2 G A e)
 |_=>exact pF x _ q B z s w a H j G A e
end
section
variable {P:au}
def ql(P:au)(s:TS):List ResultVar->(List V->Prop)->Prop
 |[],d=>d []
 |.tmp t::l,d=>match s.E.get? t with
  |some v=>ql P s l λe=>d (v::e)
  |none=>False
 |.cell j h::l,d=>match s.S.get? j with
  |some (i,k)=>match s.L[i]? with
   |some X=>Fp P h X.2.1 k λv=>ql P s l λe=>d (v::e)
   |none=>False
  |none=>match s.E.get? j with
   |some (.pointer (some p))=>oQ P h p s.w λv _=>ql P s l λe=>d (v::e)
   |_=>False
def vG(P:au)(fn:Func)(R:aC):KT:=λd s=>match d with
 |.normal|.ret=>fJ s λs=>ql P s fn.results.toList λe=>R (ab (GU e)) s.w
 |_=>False
def Hv{n:Cx}{a:Act}{s:TS}{w:I}(q:Ag n a s.E)(k:Inv s w)(B:s.w=w):∀{l:List ResultVar} {K:List V->Prop},ql P s l K->
  ∃e,(l.mapM (qk a.tmps)).run P w=.ok e w/\K e
 |[],K,d=>⟨[],us,d⟩
 |.tmp t::l,K,d=>by
  unfold ql at d;split at d
  .rename_i v j;obtain⟨e,A,h⟩:=Hv q k B d;refine⟨v::e,?_,h⟩;have y:=q.get t v j;simp[List.mapM_cons,qk,A,y]
  grind
 |.cell x C::l,K,d=>by
  have fin:∀(p:Addr) (v:V),s.E.get? x=some (.pointer (some p))->(loadVar C p).run P w=.ok v w->(ql P s l λe=>K (v::e))->∃e,((ResultVar.cell x C::l).mapM (qk a.tmps)).run P w=.ok e w/\K e:=λp v z j d=>by obtain⟨e,A,h⟩:=Hv q k B d;refine⟨v::e,?_,h⟩;have y:=q.get x _ z;simp[List.mapM_cons,qk,A,y,asAddr,j]
  unfold ql at d;split at d
  .rename_i i L J;obtain⟨X,D,F⟩:=k.sl x i L J;rw[D]at d;obtain⟨v,h,j⟩:=MU (b:=X.1) (ty:=X.2.2) d;exact fin _ v F (j w (k.lc.own i X D)) h
  .split at d
   .rename_i p z;rw[B]at d;obtain⟨v,M,d,G,H⟩:=Fq d;exact fin p v z (H w G) d
   grind
def SE{m:Nat}{fn:Func}{F R:aC}(B:∀c d,F (.panicked c) d->R (.panicked c) d):KQ (cx m) F (vG P fn R) (bodyPost P fn R):=by
 refine⟨?_,λc a d z A=>⟨z,B c d A⟩⟩;intro x s d a j k e;have go:(fJ s λs=>ql P s fn.results.toList λh=>R (ab (GU h)) s.w)->a.defers=[]/\∃v,(results fn a.tmps).run P d=.ok v d/\R (ab v) d:=λe=>by
  obtain⟨q,y⟩:=k.fJ e;obtain⟨h,D,C⟩:=Hv (s:=⟨s.E,s.S,s.L,d,false⟩) j q rfl y;refine⟨j.defers,_,?_,C⟩;rw[Ht,<-Array.toArray_toList (xs:=fn.results),List.mapM_toArray];simp only[Sem.run_bind,Sem.run_map,D,Result.andThen_ok,Sem.run_pure];congr 1;cases h with
  |nil=>rfl
  |cons v h=>cases h<;>rfl
 unfold vG at e;cases x with
 |normal=>exact go e
 |ret=>exact go e
 |_=>exact e.elim
def XD{f:b5}{fn:Func}{c:Code}{args:List V}{w:I}{R:aC}{e:oA}(h:∀c w,e.lv.pk.F (.panicked c) w->R (.panicked c) w)(x:P.funcs[f]? =some fn)(q:fn.body=some c)(y:Nat.ble args.length fn.ntmps=true)(j:ub P (cx fn.ntmps) e c (bodyPost P fn R))(d:iY P (cx fn.ntmps) e c [] (vG P fn R) ⟨kL 0 args,[],[],w,false⟩):ah P f args.toArray w R:=
 wP x q y λa k=>pF j c [] _ _ _ w a rfl (SE h) k ⟨LC.nil _,us,λt i z d=>by cases d⟩ d
end
inductive Sh
 |i (k:h5)|b|st|s|p|r|m|v|f
abbrev Sh.T:Sh->Type
 |.i _=>Int
 |.b=>Bool
 |.st=>ByteArray
 |.s=>Sl
 |.p=>Option Addr
 |.r=>Addr
 |.m=>Option Nat
 |.v=>V
 |.f=>Fv
def Sh.val:(e:Sh)->e.T->V
 |.i h,d=>.int h d
 |.b,d=>.bool d
 |.st,d=>.string d
 |.s,d=>Sl.v d
 |.p,d=>.pointer d
 |.r,d=>.pointer (some d)
 |.m,d=>.map d
 |.v,d=>d
 |.f,d=>Fv.v d
def Sh.rd(e:Sh)(v:V)(K:e.T->Prop):Prop:=match e,v,K with
 |.i k,.int q d,K=>cS (q==k) (K d)
 |.b,.bool d,K=>K d
 |.st,.string d,K=>K d
 |.s,.slice a n c,K=>K ⟨a,n,c⟩
 |.p,.pointer d,K=>K d
 |.r,.pointer (some d),K=>K d
 |.m,.map d,K=>K d
 |.v,d,K=>K d
 |.f,.func (.func n) h j,K=>K ⟨n,h,j⟩
 |_,_,_=>False
def Sh.acJ{e:Sh}{v:V}{K:e.T->Prop}(d:e.rd v K):∃h,v=e.val h/\K h:=by
 unfold Sh.rd at d;split at d<;>first |exact d.elim|skip
 .obtain ⟨j,k⟩:=dP d;have:=eq_of_beq j;subst this;exact⟨_,rfl,k⟩
 all_goals exact⟨_,rfl,d⟩
inductive Tk
 |o (h:Sh)|a (k:Nat)|t (k:Nat)|g (n j k:Nat)
abbrev Tk.I:Tk:=.o (.i .i64)
abbrev Tk.U:Tk:=.o (.i .u64)
abbrev Tk.Y:Tk:=.o (.i .u8)
abbrev Tk.i(k:h5):Tk:=.o (.i k)
abbrev Tk.b:Tk:=.o .b
abbrev Tk.st:Tk:=.o .st
abbrev Tk.s:Tk:=.o .s
abbrev Tk.p:Tk:=.o .p
abbrev Tk.r:Tk:=.o .r
abbrev Tk.m:Tk:=.o .m
abbrev Tk.v:Tk:=.o .v
abbrev Tk.f:Tk:=.o .f
abbrev mP:List Tk->Type->Type
 |[],X=>X
 |.o d::l,X=>d.T->mP l X
 |.a _::l,X=>mP l X
 |.t _::l,X=>mP l X
 |.g _ _ _::l,X=>mP l X
inductive Sp
 |v (l:List Tk)
 |l (l:List Tk) (T:aD)
abbrev Sp.I:Sp:=.v [.I]
abbrev Sp.U:Sp:=.v [.U]
abbrev Sp.Y:Sp:=.v [.Y]
abbrev Sp.b:Sp:=.v [.b]
abbrev Sp.st:Sp:=.v [.st]
abbrev Sp.s:Sp:=.v [.s]
abbrev Sp.p:Sp:=.v [.p]
abbrev Sp.r:Sp:=.v [.r]
abbrev Sp.m:Sp:=.v [.m]
abbrev Sp.f:Sp:=.v [.f]
abbrev g3:List (Nat×Sp)->Type
 |[]=>I->aC->Prop
 |(_,.v d)::l=>mP d (g3 l)
 |(_,.l d _)::l=>Nat->mP d (g3 l)
def o3:(ts:List Tk)->(X:Type)->List V->mP ts X->(X->Prop)->Prop
 |[],_,[],d,e=>e d
 |.o w::ts,X,v::h,d,e=>w.rd v λy=>o3 ts X h (d y) e
 |.a j::ts,X,.agg a::h,d,e=>cS (bQ a.toList.length j) (o3 ts X (a.toList++h) d e)
 |.t j::ts,X,.tuple a::h,d,e=>cS (bQ a.toList.length j) (o3 ts X (a.toList++h) d e)
 |.g n x j::ts,X,.func (.func m) k q::h,d,e=>cS (bQ n m&&bQ k.toList.length x&&bQ q.toList.length j) (o3 ts X (k.toList++(q.toList++h)) d e)
 |_,_,_,_,_=>False
def pY:(ts:List Tk)->(X:Type)->(List V->X)->mP ts X
 |[],_,e=>e []
 |.o k::ts,X,e=>λq=>pY ts X λd=>e (k.val q::d)
 |.a h::ts,X,e=>pY ts X λd=>e (.agg (d.take h).toArray::d.drop h)
 |.t h::ts,X,e=>pY ts X λd=>e (.tuple (d.take h).toArray::d.drop h)
 |.g n j h::ts,X,e=>pY ts X λd=>e (.func (.func n) (d.take j).toArray ((d.drop j).take h).toArray::(d.drop j).drop h)
def R6:∀{ts:List Tk} {X:Type} {vs:List V} {K:List V->X} {j:X->Prop},o3 ts X vs (pY ts X K) j->j (K vs):=by
 intro ts;induction ts with
 |nil=>
  intro X vs K j d;cases vs with
  |nil=>exact d
  |cons _ _=>exact d.elim
 |cons t ts q=>
  intro X vs K j d;cases t with
  |o C=>
   cases vs with
   |nil=>exact d.elim
   |cons v vs=>
    obtain⟨F,rfl,D⟩:=Sh.acJ d;exact q (K:=λvs=>K (C.val F::vs)) D
  |a e=>
   cases vs with
   |nil=>exact d.elim
   |cons v vs=>
    cases v with
    |agg a=>
     obtain⟨h,k⟩:=dP (show cS (bQ a.toList.length e) (o3 ts X (a.toList++vs) _ j)from d);rw[eE]at h;have:=q (K:=λvs=>K (.agg (vs.take e).toArray::vs.drop e)) k;rw[List.take_left' h,List.drop_left' h]at this;omega
    |_=>exact d.elim
  |t e=>
   cases vs with
   |nil=>exact d.elim
   |cons v vs=>
    cases v with
    |tuple a=>
     obtain⟨h,k⟩:=dP (show cS (bQ a.toList.length e) (o3 ts X (a.toList++vs) _ j)from d);rw[eE]at h;have:=q (K:=λvs=>K (.tuple (vs.take e).toArray::vs.drop e)) k;rw[List.take_left' h,List.drop_left' h]at this;omega
    |_=>exact d.elim
  |g n w e=>
   cases vs with
   |nil=>exact d.elim
   |cons v vs=>
    cases v with
    |func B x y=>
     cases B with
     |func m=>
      obtain⟨h,k⟩:=dP (show cS (bQ n m&&bQ x.toList.length w&&bQ y.toList.length e) (o3 ts X (x.toList++(y.toList++vs)) _ j)from d);rw[bf,bf,eE,eE,eE]at h;obtain⟨⟨E,z⟩,A⟩:=h;have:=q (K:=λvs=>K (.func (.func n) (vs.take w).toArray ((vs.drop w).take e).toArray::(vs.drop w).drop e)) k;rw[List.take_left' z,List.drop_left' z,List.take_left' A,List.drop_left' A,E]at this;omega
     |_=>exact d.elim
    |_=>exact d.elim
def jB:(l:List (Nat×Sp))->Nat->(Env->Sv->Lv->I->aC->Prop)->g3 l
 |[],_,d=>d [] [] []
 |(t,.v k)::l,n,d=>pY k (g3 l) λq=>jB l n λe j h=>d ((t,q.headD undef)::e) j h
 |(t,.l k w)::l,n,d=>λb=>pY k (g3 l) λq=>jB l (n+1) λe j h=>d ((t,.pointer (some (aa b)))::e) ((t,some (n,0))::j) ((b,q,w)::h)
def rm:(l:List (Nat×Sp))->g3 l->TS->List Nat->I->aC->Prop
 |[],d,_,_,h,e=>d h e
 |(t,.v k)::l,d,s,is,h,e=>match s.E.get? t with
  |some v=>o3 k (g3 l) [v] d λj=>rm l j s is h e
  |none=>False
 |(t,.l k q)::l,d,s,is,h,e=>match s.S.get? t with
  |some (i,0)=>match s.L[i]? with
   |some X=>cS (bQ X.2.2 q&&!is.any (bQ i)) (o3 k (g3 l) X.2.1 (d X.1) λj=>rm l j s (i::is) h e)
   |none=>False
  |_=>False
def LZ{E E':Env}{t:Nat}{v:V}(q:E'.get? t=some v)(k:∀t v,E.get? t=some v->E'.get? t=some v):∀d e,Env.get? ((t,v)::E) d=some e->E'.get? d=some e:=λd e j=>by
 simp only[Env.get?]at j;cases h:bQ t d with
 |true=>
  rw[h,cond_true]at j;rw[eE]at h
  grind
 |false=>
  grind
structure fN(s:TS)(n:Nat)(is js:List Nat)(E:Env)(S:Sv):Prop where
 sub:∀t v,E.get? t=some v->s.E.get? t=some v
 nd:js.Nodup
 dj:∀j∈js,j∉is
 lt:∀j∈js,∃X,s.L[j]? =some X
 sl:∀t i k,S.get? t=some (i,k)->n<=i/\∃j,js[i - n]? =some j/\s.S.get? t=some (j,k)/\∃v,E.get? t=some v
def acI{s:TS}{w:I}(Q:Inv s w){R:aC}:∀{l:List (Nat×Sp)} {n:Nat} {K:Env->Sv->Lv->I->aC->Prop} {is:List Nat},rm l (jB l n K) s is w R->
  ∃h j y,fN s n is y h j/\K h j (y.filterMap λk=>(s.L[k]? :Option (Nat×List V×aD))) w R:=by
 intro l;induction l with
 |nil=>
  intro n K is d;exact⟨[],[],[],⟨λt v d=>by(simp[Env.get?]at d),.nil,λ_ d=>by grind,λ_ d=>by grind,λt i C d=>by(cases d)⟩,d⟩
 |cons p l O=>
  intro n K is d;obtain⟨t,sp⟩:=p;cases sp with
  |v ts=>
   unfold rm at d;split at d
   .rename_i v hv;have F:=R6 (K:=λH=>jB l n λh j E=>K ((t,H.headD undef)::h) j E) d;obtain⟨h,j,y,e,N⟩:=O F;refine⟨(t,v)::h,j,y,⟨LZ hv e.sub,e.nd,e.dj,e.lt,λD i C x=>?_⟩,N⟩;obtain⟨B,k,G,Y,P,h4⟩:=e.sl D i C x;refine⟨B,k,G,Y,?_⟩;simp only[Env.get?]
    grind
   grind
  |l ts S=>
   unfold rm at d;split at d
   .rename_i i M;split at d
    .rename_i X Z;obtain⟨B,G⟩:=dP d;rw[bf,eE,Bool.not_eq_true',List.any_eq_false]at B;have F:=R6 (K:=λH=>jB l (n+1) λh j E=>K ((t,.pointer (some (aa X.1)))::h) ((t,some (n,0))::j) ((X.1,H,S)::E)) G;obtain⟨h,j,y,e,N⟩:=O F;obtain⟨X',J,hp⟩:=Q.sl t i 0 M;rw[Z]at J;cases J;refine⟨(t,.pointer (some (aa X.1)))::h,(t,some (n,0))::j,i::y,⟨LZ ?_ e.sub,List.nodup_cons.2 ⟨λA=>e.dj i A us,e.nd⟩,λk q=>?_,λk q=>?_,λD i' C x=>?_⟩,?_⟩
     .rw [hp,iV]
     .rcases aF.1 q with rfl|q
      .intro A;have:=B.2 k A;simp at this
      .exact λA=>e.dj k q (dJ _ A)
     .rcases aF.1 q with rfl|q
      .grind
      .exact e.lt k q
     .simp only[Sv.get?]at x;cases z:bQ t D with
      |true=>
       rw[z,cond_true]at x;rw[eE]at z;subst z;cases x;refine⟨bz _,i,us,M,.pointer (some (aa X.1)),?_⟩;simp[Env.get?]
      |false=>
       rw[z,cond_false]at x;obtain⟨g1,k,g2,T,P,W⟩:=e.sl D i' C x;refine⟨io,k,?_,T,P,?_⟩
       .grind
       .simp only[Env.get?,z,cond_false];exact W
     grind
    grind
   grind
def fN.inv{s:TS}{w:I}(j:Inv s w){d:List Nat}{E:Env}{S:Sv}(h:fN s 0 [] d E S):Inv ⟨E,S,d.filterMap λe=>(s.L[e]? :Option (Nat×List V×aD)),w,false⟩ w:=by
 refine⟨j.lc.pick d h.nd,us,λt i q A=>?_⟩;obtain⟨-,e,C,x,v,k⟩:=h.sl t i q A;obtain⟨X,D,z⟩:=j.sl t e q x;have:=h.sub t v k;rw[z]at this;cases this;refine⟨X,?_,k⟩;have all:∀(d:List Nat) (i:Nat),(∀e∈d,∃X,s.L[e]? =some X)->d[i]? =some e->(d.filterMap λe=>(s.L[e]? :Option (Nat×List V×aD)))[i]? =some X:=by
  intro d;induction d with
  |nil=>grind
  |cons a d H=>
   intro i y G;obtain⟨B,F⟩:=y a us
   grind
 exact all d i h.lt io
def rJ:(ts:List Tk)->(X:Type)->(X->X->Prop)->mP ts X->mP ts X->Prop
 |[],_,r,d,e=>r d e
 |.o j::ts,X,r,d,e=>∀h:j.T,rJ ts X r (d h) (e h)
 |.a _::ts,X,r,d,e=>rJ ts X r d e
 |.t _::ts,X,r,d,e=>rJ ts X r d e
 |.g _ _ _::ts,X,r,d,e=>rJ ts X r d e
def wj:(l:List (Nat×Sp))->g3 l->g3 l->Prop
 |[],d,e=>∀(w:I) (R:aC),d w R->e w R
 |(_,.v h)::l,d,e=>rJ h (g3 l) (wj l) d e
 |(_,.l h _)::l,d,e=>∀b:Nat,rJ h (g3 l) (wj l) (d b) (e b)
def Mj:∀{ts:List Tk} {X:Type} {r:X->X->Prop} {h j:List V->X},(∀e,r (h e) (j e))->rJ ts X r (pY ts X h) (pY ts X j):=by
 intro ts;induction ts with
 |nil=>intro X r h j d;exact d []
 |cons t ts k=>
  intro X r h j d;cases t with
  |o w=>intro x;exact k λe=>d _
  |a q=>exact k λe=>d _
  |t q=>exact k λe=>d _
  |g n y q=>exact k λe=>d _
def Zp:∀{l:List (Nat×Sp)} {n:Nat} {j k:Env->Sv->Lv->I->aC->Prop},(∀h w q e d,j h w q e d->k h w q e d)->wj l (jB l n j) (jB l n k):=by
 intro l;induction l with
 |nil=>intro n j k x e d;exact x _ _ _ e d
 |cons p l y=>
  intro n j k x;obtain⟨t,z⟩:=p;cases z with
  |v A=>exact Mj λB=>y λh w q e d=>x _ _ _ e d
  |l A C=>intro b;exact Mj λB=>y λh w q e d=>x _ _ _ e d
structure Fx where
 P:au
 fn:Func
 ord:List (Nat×Tr)
 lv:List Nat
 pn:Option (List b5):=none
def Fx.pk(X:Fx)(R:aC):Pk:=match X.pn with
 |some l=>some (R,l)
 |none=>none
def Fx.Ry{X:Fx}{R:aC}(c:List PanicEntry)(w:I)(d:(X.pk R).F (.panicked c) w):R (.panicked c) w:=by
 unfold Fx.pk at d;split at d
 .exact d
 .exact d.elim
def Fx.c(X:Fx):Code:=X.fn.body.getD .skip
def Fx.n(X:Fx):Cx:=cx X.fn.ntmps
def Fy:List (Nat×Tr)->Nat->Option Tr
 |[],_=>none
 |(i,l)::o,d=>bif bQ i d then some l else Fy o d
def Fx.at(X:Fx)(q:List Bool)(R:aC)(a:Act)(w:I):Prop:=tQ X.P X.n (gD X.P X.n X.c (bodyPost X.P X.fn R) q) a w
def Fx.Sem(X:Fx)(q:List Bool)(E:Env)(S:Sv)(L:Lv)(w:I)(R:aC):Prop:=∀a,Ag X.n a E->Inv ⟨E,S,L,w,false⟩ w->X.at q R a w
structure gI(X:Fx) where
 q:List Bool
 sp:List (Nat×Sp)
 F:g3 sp
 ok:∀(R:aC) (s:TS) (w:I) (a:Act),Ag X.n a s.E->Inv s w->rm sp F s [] w R->X.at q R a w
def uk:List Bool->List Bool->Bool
 |[],[]=>true
 |a::l,b::m=>(match a,b with |true,true=>true|false,false=>true|_,_=>false)&&uk l m
 |_,_=>false
def Jn:∀{l m:List Bool},uk l m=true->l=m
 |[],[],_=>rfl
 |a::l,b::m,d=>by
  unfold uk at d;rw[bf]at d;rw[Jn d.2]
  grind
 |[],_::_,d=>by cases d
 |_::_,[],d=>by cases d
def Ax{X:Fx}(R:aC):List (gI X)->List Bool->Option (TS->Prop)
 |[],_=>none
 |e::j,h=>bif uk e.q h then some λs=>match s.d with
  |true=>False
  |false=>rm e.sp e.F s [] s.w R else Ax R j h
def Fx.B4(X:Fx)(es:List (gI X))(R:aC):oA:=⟨Fy X.ord,Ax R es,X.lv,X.pk R⟩
def Fx.Un{X:Fx}{es:List (gI X)}{R:aC}:ub X.P X.n (X.B4 es R) X.c (bodyPost X.P X.fn R):=by
 intro A C x s B a D j h;have e:Ax R es A=some C:=x;clear x;induction es with
 |nil=>cases e
 |cons k es G=>
  unfold Ax at e;cases y:uk k.q A with
  |true=>
   rw[y,cond_true]at e;cases e;have:=Jn y;subst this;cases z:s.d with
   |true=>grind
   |false=>
    rw[z]at h;have E:=j.rel;rw[z]at E;have F:B=s.w:=by grind
    rw[<-F]at h;exact k.ok R s B a D j h
  |false=>
   grind
def Fx.wi(X:Fx)(es:List (gI X))(q:List Bool)(E:Env)(S:Sv)(L:Lv)(w:I)(R:aC):Prop:=Eb X.P X.n (X.B4 es R) X.c (vG X.P X.fn R) q ⟨E,S,L,w,false⟩
def Fx.Kx{X:Fx}{es:List (gI X)}{q:List Bool}{E:Env}{S:Sv}{L:Lv}{w:I}{R:aC}(e:X.wi es q E S L w R):X.Sem q E S L w R:=λa h d=>XU (s:=⟨E,S,L,w,false⟩) (Fx.Un (es:=es)) (SE Fx.Ry) h d e
def KS{X:Fx}{q:List Bool}{y:List (Nat×Sp)}{K:Env->Sv->Lv->I->aC->Prop}(B:∀d e k w R,K d e k w R->X.Sem q d e k w R)(R:aC)(s:TS)(w:I)(a:Act)(h:Ag X.n a s.E)(j:Inv s w)(z:rm y (jB y 0 K) s [] w R):X.at q R a w:=by obtain⟨d,e,D,x,A⟩:=acI j z;exact B _ _ _ _ _ A a ⟨h.defers,h.size,λt v C=>h.get t v (x.sub t v C)⟩ (x.inv j)
def Yo(X:Fx)(q:List Bool)(h:List (Nat×Sp))(F:g3 h)(e:F=jB h 0 (X.Sem q):=by kernel_rfl):gI X:=⟨q,h,F,λk s x a w j d=>by subst e;exact KS (λ_ _ _ _ _ d=>d) k s x a w j d⟩
def Yp(X:Fx)(es:List (gI X))(q:List Bool)(h:List (Nat×Sp))(F:g3 h)(e:F=jB h 0 (X.wi es q):=by kernel_rfl):gI X:=⟨q,h,F,λk s x a w j d=>by subst e;exact KS (λ_ _ _ _ _ d=>Fx.Kx d) k s x a w j d⟩
def ad5{X:Fx}(es:List (gI X))(q:List Bool)(d:List (Nat×Sp)):wj d (jB d 0 (X.wi es q)) (jB d 0 (X.Sem q)):=Zp λ_ _ _ _ _ e=>Fx.Kx e
def XB(X:Fx)(es:List (gI X)){f:b5}{args:List V}{w:I}{R:aC}{T:Prop}(d:T)(j:X.P.funcs[f]? =some X.fn:=by kernel_rfl)(h:X.fn.body=some X.c:=by kernel_rfl)(k:Nat.ble args.length X.fn.ntmps=true:=by kernel_rfl)(e:T=iY X.P X.n (X.B4 es R) X.c [] (vG X.P X.fn R) ⟨kL 0 args,[],[],w,false⟩:=by kernel_rfl):ah X.P f args.toArray w R:=
 XD Fx.Ry j h k Fx.Un (e▸d)
def RH:Bool->List Nat->List Bool
 |_,[]=>[]
 |b,n::l=>List.replicate n b++RH (!b) l
abbrev o2(l:List Nat):List Bool:=RH true l
abbrev Ps:=List (Nat×Sp)
abbrev ls(l:List Nat):Tr:=Tr.sq l .nil
abbrev lr(n:Nat):Tr:=ls (List.range n)
set_option maxRecDepth 100000
open Go
inductive Oc:Type 1
 |leaf (p:Prop)
 |ex (α:Type) (K:α->Oc)
 |and (p:Prop) (K:Oc)
 |at (b:Bool) (K:Oc)
 |bK (t:Bool) (a b:Oc)
 |nw (bs:List Nat) (w:I) (K:Nat->I->Oc)
 |al (w:I) (o:Obj) (K:I->Oc)
 |st (w:I) (p:Addr) (v:V) (K:I->Oc)
 |lc (bs:List Nat) (w:I) (K:I->Oc)
 |dr (w:I) (K:I->Oc)
 |cf (bs:List Nat) (P:au) (f:b5) (xs:Array V) (w:I) (K:cZ->I->Oc)
 |ca (P:au) (f:b5) (xs:Array V) (w:I) (K:cZ->I->Oc)
 |cp (bs:List Nat) (P:au) (f:b5) (xs:Array V) (R:aC) (w:I) (K:cZ->I->Oc)
 |op (q:Option Addr) (K:Addr->Oc)
 |or (a b:Oc)
 |cj (a b:Oc)
 |all (α:Type) (K:α->Oc)
 |im (K:Oc) (p:Prop)
inductive Nf:Oc->Prop->Prop
 |leaf {p}:Nf (.leaf p) p
 |ex {α K} {Q:α->Prop} (h:∀x,Nf (K x) (Q x)):Nf (.ex α K) (∃x,Q x)
 |and {p K Q} (h:Nf K Q):Nf (.and p K) (p/\Q)
 |at {b K Q} (h:Nf K Q):Nf (.at b K) (cS b Q)
 |bK {t a b A B} (h1:Nf a A) (h2:Nf b B):Nf (.bK t a b) (bK t A B)
 |nw {bs w K} {Q:Nat->I->Prop} (h:∀b w1,Nf (K b w1) (Q b w1)):Nf (.nw bs w K) (vk bs w λb w1=>Q b w1)
 |al {w o K} {Q:I->Prop} (h:∀w1,Nf (K w1) (Q w1)):Nf (.al w o K) (dh w o λw1=>Q w1)
 |st {w p v K} {Q:I->Prop} (h:∀w1,Nf (K w1) (Q w1)):Nf (.st w p v K) (aL w p v λw1=>Q w1)
 |lc {bs w K} {Q:I->Prop} (h:∀w1,Nf (K w1) (Q w1)):Nf (.lc bs w K) (loc bs w λw1=>Q w1)
 |dr {w K} {Q:I->Prop} (h:∀w1,Nf (K w1) (Q w1)):Nf (.dr w K) (uE w λw1=>Q w1)
 |cf {bs P f xs w K} {Q:cZ->I->Prop} (h:∀r w1,Nf (K r w1) (Q r w1)):Nf (.cf bs P f xs w K) (e8 bs P f xs w λr w1=>Q r w1)
 |ca {P f xs w K} {Q:cZ->I->Prop} (h:∀r w1,Nf (K r w1) (Q r w1)):Nf (.ca P f xs w K) (ah P f xs w λr w1=>Q r w1)
 |cp {bs P f xs R w K} {Q:cZ->I->Prop} (h:∀r w1,Nf (K r w1) (Q r w1)):Nf (.cp bs P f xs R w K) (mV bs P f xs R w λr w1=>Q r w1)
 |op {q K} {Q:Addr->Prop} (h:∀p,Nf (K p) (Q p)):Nf (.op q K) (ea q λp=>Q p)
 |or {a b A B} (h1:Nf a A) (h2:Nf b B):Nf (.or a b) (A\/B)
 |cj {a b A B} (h1:Nf a A) (h2:Nf b B):Nf (.cj a b) (A/\B)
 |all {α K} {Q:α->Prop} (h:∀x,Nf (K x) (Q x)):Nf (.all α K) (∀{x},Q x)
 |im {K Q p} (h:Nf K Q):Nf (.im K p) (Q->p)
inductive DV
 |i (k:h5) (x:Int)|kb (x:Bool)|b (x:Bool)|st (x:ByteArray)|sl (s:Sl)|s3 (a:Option Addr) (n c:Nat)
 |p (x:Option Addr)|r (x:Addr) (l:Option (Nat×Nat))|m (x:Option Nat)|v (x:V)|f (x:Fv)
 |a (l:List DV)|t (l:List DV)|g (n:b5) (bs cs:List DV)|nf|ni|fc (t:aD) (x:DV)|u
mutual
def DV.o:DV->(V->Oc)->Oc
 |.i x e,d=>d (.int x e)
 |.kb e,d=>d (.bool e)
 |.b e,d=>d (.bool e)
 |.st e,d=>d (.string e)
 |.sl s,d=>d s.v
 |.s3 e q w,d=>d (.slice e q w)
 |.p e,d=>d (.pointer e)
 |.r e _,d=>d (.pointer (some e))
 |.m e,d=>d (.map e)
 |.v e,d=>d e
 |.f e,d=>d e.v
 |.a l,d=>DV.os l λk=>d (.agg k.toArray)
 |.t l,d=>DV.os l λk=>d (.tuple k.toArray)
 |.g n h j,d=>DV.os h λh=>DV.os j λj=>d (.func (.func n) h.toArray j.toArray)
 |.nf,d=>d .nilFunc
 |.ni,d=>d .nilIface
 |.fc q e,d=>DV.o e λw=>d (.iface q w)
 |.u,d=>d undef
def DV.os:List DV->(List V->Oc)->Oc
 |[],d=>d []
 |h::l,d=>DV.o h λv=>DV.os l λe=>d (v::e)
end
def vn:List V->(List DV->Oc)->Oc
 |[],d=>d []
 |v::l,d=>vn l λh=>d ((match v with
  |.int j e=>.i j e
  |.bool true=>.kb true
  |.bool false=>.kb false
  |.string s=>.st s
  |.slice a n c=>.s3 a n c
  |.pointer (some p)=>.r p none
  |.pointer none=>.p none
  |.map e=>.m e
  |.nilFunc=>.nf
  |.nilIface=>.ni
  |v=>.v v)::h)
def A6(v:V)(K:DV->Oc):Oc:=match v with
 |.agg d=>vn d.toList λl=>K (.a l)
 |.tuple d=>vn d.toList λl=>K (.t l)
 |.func (.func n) h d=>vn h.toList λh=>vn d.toList λd=>K (.g n h d)
 |.iface t e=>vn [e] λl=>K (.fc t (l.headD .u))
 |.int j e=>K (.i j e)
 |.bool true=>K (.kb true)
 |.bool false=>K (.kb false)
 |.string s=>K (.st s)
 |.slice a n c=>K (.s3 a n c)
 |.pointer (some p)=>K (.r p none)
 |.pointer none=>K (.p none)
 |.map e=>K (.m e)
 |.nilFunc=>K .nf
 |.nilIface=>K .ni
 |v=>K (.v v)
inductive Fc
 |c (p:Addr) (v:V)|r (s:Sem V) (v:V)|n
abbrev DE:=List (Nat×DV)
abbrev DL:=List (Nat×List DV×aD)
abbrev DH:=List (Nat×Option Nat×Fc)
def rY:DL->(List Nat->Oc)->Oc
 |[],d=>d []
 |(b,_,_)::e,d=>rY e λh=>d (b::h)
def hl(d:Bool)(L:DL)(w:I)(K:I->Oc):Oc:=match d with
 |true=>rY L λe=>.lc e w K
 |false=>K w
def getD:DE->Nat->(DV->Oc)->Oc
 |[],_,_=>.leaf False
 |(h,v)::e,t,d=>match bQ h t with
  |true=>d v
  |false=>getD e t d
def j0{α:Type}:List α->Nat->Option α
 |[],_=>none
 |a::l,n=>match bQ n 0 with
  |true=>some a
  |false=>j0 l (n - 1)
def Tv{α:Type}:List α->Nat->α->List α
 |[],_,_=>[]
 |a::l,n,d=>match bQ n 0 with
  |true=>d::l
  |false=>a::Tv l (n - 1) d
def Bo(t:Option Nat)(v:DV)(E:DE)(K:DE->Oc):Oc:=match t with
 |some t=>K ((t,v)::E)
 |none=>K E
def NA:List Nat->Nat->Bool
 |[],_=>false
 |a::l,n=>match bQ a n with
  |true=>true
  |false=>NA l n
def Mw(d:List Nat):Option Nat->Bool
 |some t=>NA d t
 |none=>false
def dC(E:DE):Operand->(DV->Oc)->Oc
 |.tmp t,d=>getD E t d
 |.const v,d=>A6 v d
 |.func f,d=>d (.g f [] [])
 |.global g,d=>d (.r ⟨g,0,none⟩ none)
def qz(E:DE):List Operand->(List DV->Oc)->Oc
 |[],d=>d []
 |h::l,d=>dC E h λv=>qz E l λe=>d (v::e)
def Ey(h:V)(K:DV->Oc):Oc:=match h with
 |.int e _=>.ex Int λd=>K (.i e d)
 |.bool _=>.ex Bool λd=>K (.b d)
 |.string _=>.ex ByteArray λd=>K (.st d)
 |.slice _ _ _=>.ex Sl λd=>K (.sl d)
 |.pointer _=>.ex (Option Addr) λd=>K (.p d)
 |.map _=>.ex (Option Nat) λd=>K (.m d)
 |_=>.ex V λd=>K (.v d)
def Ex:List V->(List DV->Oc)->Oc
 |[],d=>d []
 |h::j,d=>Ey h λv=>Ex j λe=>d (v::e)
def Lx(d:V)(K:DV->Oc):Oc:=match d with
 |.agg e=>Ex e.toList λl=>K (.a l)
 |d=>Ey d K
def LA:List V->(List DV->Oc)->Oc
 |[],d=>d []
 |h::j,d=>Lx h λv=>LA j λe=>d (v::e)
def uQ(d:V)(K:DV->Oc):Oc:=match d with
 |.tuple e=>LA e.toList λl=>K (.t l)
 |d=>Lx d K
def Qk:List Nat:=[0,1,2,3,4,5,6,7,8,9,10,11,12,13,14,15,16,17,18,19,20,21,22,23,24,25,26,27,28,29,30,31,32,33,34,35,36,37,38,39,40,41,42,43,44,45,46,47,48,49,50,51,52,53,54,55,56,57,58,59,60,61,62,63]
def LG(p:Addr):List Nat->List DV->(List Fc->Oc)->Oc
 |n::e,v::h,d=>DV.o v λj=>LG p e h λl=>d (.c (p.add n) j::l)
 |_,_,d=>d []
def BI(P:au)(w:I)(K:Oc):List Fc->Oc
 |[]=>K
 |.c p v::l=>.and (w.cell? p=some v) (BI P w K l)
 |.r s v::l=>.and (s.run P w=.ok v w) (BI P w K l)
 |.n::l=>BI P w K l
def Ng(P:au)(T:aD)(p:Addr)(w:I)(K:DV->List Fc->Oc):Oc:=match P.info? T with
 |some ⟨_,_,_,_,_,_,_,some e,_,_⟩=>match e with
  |.agg q=>Ex q.toList λj=>LG p Qk j λk=>BI P w (K (.a j) k) k
  |.nilFunc=>.ex Fv λf=>.and (w.cell? p=some f.v) (K (.f f) [.c p f.v])
  |.nilIface=>.or (.ex aD λt=>.ex V λd=>.and (w.cell? p=some (.iface t d)) (K (.v (.iface t d)) [.c p (.iface t d)])) (.and (w.cell? p=some .nilIface) (K (.v .nilIface) [.c p .nilIface]))
  |e=>Ey e λh=>DV.o h λv=>.and (w.cell? p=some v) (K h [.c p v])
 |_=>.leaf False
def nC{α:Type}:List α->Nat->Nat->List α
 |[],_,_=>[]
 |a::l,d,n=>match bQ d 0 with
  |true=>match bQ n 0 with
   |true=>[]
   |false=>a::nC l 0 (n - 1)
  |false=>nC l (d - 1) n
def Bg:List DV->Nat->List DV->List DV
 |l,_,[]=>l
 |[],_,_=>[]
 |a::l,d,x::e=>match bQ d 0 with
  |true=>x::Bg l 0 e
  |false=>a::Bg l (d - 1) (x::e)
def DV.cs:DV->List DV
 |.a l=>l
 |d=>[d]
def Nh(P:au)(T:aD)(cs:List DV)(j:Nat)(K:DV->Oc):Oc:=match P.info? T with
 |some ⟨_,_,n,_,_,_,_,some d,_,_⟩=>match d with
  |.agg _=>K (.a (nC cs j n))
  |_=>match j0 cs j with
   |some v=>K v
   |none=>.leaf False
 |_=>.leaf False
def lj(P:au)(T:aD):TypeDesc:=match P.info? T with
 |some ⟨.named _ u,_,_,_,_,_,_,_,_,_⟩=>(match P.info? u with
  |some ⟨d,_,_,_,_,_,_,_,_,_⟩=>d
  |none=>.invalid)
 |some ⟨d,_,_,_,_,_,_,_,_,_⟩=>d
 |none=>.invalid
def vP(P:au)(T:aD)(K:Nat->Oc):Oc:=match P.info? T with
 |some ⟨_,_,n,_,_,_,_,_,_,_⟩=>K n
 |none=>.leaf False
def CA(P:au)(T:aD)(K:V->Oc):Oc:=match P.info? T with
 |some ⟨_,_,_,_,_,_,_,some d,_,_⟩=>K d
 |_=>.leaf False
def LL(P:au)(T:aD)(f:Nat)(K:aD->Nat->Oc):Oc:=match lj P T with
 |.struct d=>match j0 d.toList f with
  |some ⟨_,t,off,_,_,_,_⟩=>K t off
  |none=>.leaf False
 |_=>.leaf False
def DV.ri:DV->(Int->Oc)->Oc
 |.i _ e,d=>d e
 |_,_=>.leaf False
def nU(E:DE)(x:Option Operand)(y d:Nat)(K:Nat->Oc):Oc:=match x with
 |none=>K d
 |some o=>dC E o λv=>v.ri λi=>.and (0<=i) (.and (i<=(y:Int)) (K i.toNat))
def vH(P:au)(s:Sem V)(d:V)(w:I)(K:DV->List Fc->Oc):Oc:=match d with
 |.nilFunc=>.ex Fv λf=>.and (s.run P w=.ok f.v w) (K (.f f) [.r s f.v])
 |d=>uQ d λe=>DV.o e λv=>.and (s.run P w=.ok v w) (K e [.r s v])
def minD(a b:Nat)(K:Nat->Oc):Oc:=match Nat.ble a b with
 |true=>K a
 |false=>K b
def Wq:h5->Nat
 |.i8|.u8=>8
 |.i16|.u16=>16
 |.i32|.u32=>32
 |_=>64
def Tz(d:Bool)(k:h5)(y:Int)(K:Nat->Oc):Oc:=match d with
 |true=>match y with
  |.ofNat m=>minD (@OfNat.ofNat Nat m (instOfNatNat m)) (Wq k) K
  |.negSucc _=>.leaf False
 |false=>.and (¬y<0) (K (min y.toNat k.bits))
def XN(op:BinOp)(a b:Int)(K:Bool->Oc):Oc:=match op with
 |.eql=>K (a==b)
 |.neq=>K (a !=b)
 |.lss=>K (ak (a<b))
 |.leq=>K (ak (a<=b))
 |.gtr=>K (ak (a>b))
 |.geq=>K (ak (a>=b))
 |_=>.leaf False
def Wo(op:BinOp)(d:Bool)(k:h5)(a b:Int)(K:DV->Oc):Oc:=match op with
 |.add=>K (.i k (k.wrap (a+b)))
 |.sub=>K (.i k (k.wrap (a - b)))
 |.mul=>K (.i k (k.wrap (a *b)))
 |.quo=>match d with
  |true=>K (.i k (k.wrap (a.tdiv b)))
  |false=>.and (b≠0) (K (.i k (k.wrap (a.tdiv b))))
 |.rem=>match d with
  |true=>K (.i k (a.tmod b))
  |false=>.and (b≠0) (K (.i k (a.tmod b)))
 |.and=>K (.i k (rX k a b))
 |.or=>K (.i k (qM k a b))
 |.xor=>K (.i k (wI k a b))
 |.andNot=>K (.i k (Wd k a b))
 |.shl=>Tz d k b λn=>K (.i k (k.wrap (a *2^n)))
 |.shr=>Tz d k b λn=>K (.i k (a.fdiv (2^n)))
 |op=>XN op a b λt=>K (.b t)
def Wp(op:BinOp)(a b:ByteArray)(K:DV->Oc):Oc:=match op with
 |.add=>.and (¬(((a.size+b.size:Nat):Int)>IntKind.i64.max)) (K (.st (a++b)))
 |.eql=>K (.b (a.toList==b.toList))
 |.neq=>K (.b (!(a.toList==b.toList)))
 |.lss=>K (.b (Op.bytesLess a.toList b.toList))
 |.leq=>K (.b (Op.bytesLess a.toList b.toList||a.toList==b.toList))
 |.gtr=>K (.b (!(Op.bytesLess a.toList b.toList||a.toList==b.toList)))
 |.geq=>K (.b (!(Op.bytesLess a.toList b.toList)))
 |_=>.leaf False
def DV.rb:DV->Bool
 |.kb d=>d
 |.b d=>d
 |_=>false
def uL:List DV->List DV->List Field->(Bool->Oc)->Oc
 |e,h,⟨_,_,off,_,_,_,_⟩::j,d=>match j0 e off,j0 h off with
  |some (.i _ a),some (.i _ b)=>uL e h j λr=>d ((a==b)&&r)
  |some (.st a),some (.st b)=>uL e h j λr=>d ((a.toList==b.toList)&&r)
  |some k,some q=>uL e h j λr=>d ((k.rb==q.rb)&&r)
  |_,_=>.leaf False
 |_,_,[],d=>d true
def Et(P:au):List DV->List DV->List Field->(Bool->Oc)->Oc
 |e,h,⟨n,q,off,a,b,c,w⟩::k,d=>match lj P q with
  |.struct x=>uL (e.drop off) (h.drop off) x.toList λj=>Et P e h k λr=>d (j&&r)
  |_=>uL e h [⟨n,q,off,a,b,c,w⟩] λj=>Et P e h k λr=>d (j&&r)
 |_,_,[],d=>d true
def Mx(P:au):List Field->Bool
 |[]=>false
 |⟨_,e,_,_,_,_,_⟩::d=>match lj P e with
  |.struct _=>true
  |_=>Mx P d
def Ls(P:au)(xs e:List DV)(d:List Field)(K:Bool->Oc):Oc:=match Mx P d with
 |true=>Et P xs e d K
 |false=>uL xs e d K
def E7:Operand->Bool
 |.const _=>true
 |_=>false
def Dq(P:au)(op:BinOp)(T:aD)(x y:Operand)(a b:DV)(w:I)(K:DV->List Fc->Oc):Oc:=match a,b with
 |.i j a,.i _ b=>Wo op (E7 y) j a b λv=>K v []
 |.st a,.st b=>Wp op a b λv=>K v []
 |.sl s,.s3 none _ _=>match op with
  |.eql=>K (.b s.a.isNone) []
  |_=>K (.b (!s.a.isNone)) []
 |.s3 (some _) _ _,.s3 none _ _=>match op with
  |.eql=>K (.kb false) []
  |_=>K (.kb true) []
 |.s3 a _ _,.s3 none _ _=>match op with
  |.eql=>K (.b a.isNone) []
  |_=>K (.b (!a.isNone)) []
 |.r _ _,.p none=>match op with
  |.eql=>K (.kb false) []
  |_=>K (.kb true) []
 |.m a,.m none=>match op with
  |.eql=>K (.b a.isNone) []
  |_=>K (.b (!a.isNone)) []
 |.a e,.a h=>match lj P T,op with
  |.struct d,.eql=>Ls P e h d.toList λr=>K (.b r) []
  |.struct d,_=>Ls P e h d.toList λr=>K (.b (!r)) []
  |_,_=>.leaf False
 |a,b=>match E7 y,a,b,op with
  |true,.p a,.p none,.eql=>K (.b a.isNone) []
  |true,.p a,.p none,_=>K (.b (!a.isNone)) []
  |_,.p _,_,.neq|_,.r _ _,_,.neq=>DV.o a λa=>DV.o b λb=>vH P (binOp .neq T a b) (.bool true) w K
  |_,_,_,op=>match lj P T with
   |.interface _=>DV.o a λa=>DV.o b λb=>vH P (Ad op T x y a b) (.bool true) w K
   |.bool=>match op with
    |.eql=>K (.b (a.rb==b.rb)) []
    |_=>K (.b (!(a.rb==b.rb))) []
   |_=>.leaf False
def AG(h:Bool):DV->List DV->(DV->Oc)->Oc
 |r,[],d=>d r
 |.i j r,.i _ e::l,d=>match h with
  |true=>AG h (.i j (if r<e then e else r)) l d
  |false=>AG h (.i j (if e<r then e else r)) l d
 |_,_,_=>.leaf False
def abI(d:List Field)(n:Nat):Nat:=match j0 d n with
 |some ⟨_,_,off,_,_,_,_⟩=>off
 |none=>0
def Bn(E:DE)(off:Nat->Nat):List (Nat×Operand)->List DV->(List DV->Oc)->Oc
 |[],e,d=>d e
 |(i,h)::l,e,d=>dC E h λv=>Bn E off l (Bg e (off i) v.cs) d
def xi:List DV->(List DV->Oc)->Oc
 |[],d=>d []
 |v::l,d=>xi l λl=>d (v::l)
def SD:Nat->List DV->List DV
 |0,_=>[]
 |n+1,l=>l++SD n l
def Kc(P:au)(op:Op)(ty:aD)(E:DE)(L:DL)(w:I)(d:Bool)(K:DV->List (Option Nat×Fc)->I->Bool->Oc):Option Oc:=match op with
 |.move e|.assign e=>some (dC E e λv=>K v [] w d)
 |.pick c a b=>some (dC E c λc=>match c with
  |.kb true=>dC E a λv=>K v [] w d
  |.kb false=>dC E b λv=>K v [] w d
  |_=>.leaf False)
 |.load h e=>some (dC E e λa=>match a with
  |.r _ (some (i,G))=>match j0 L i with
   |some (_,A,_)=>Nh P h A G λv=>K v [(some i,.n)] w d
   |none=>.leaf False
  |.r p none=>hl d L w λw=>Ng P h p w λv j=>K v (j.map λf=>(none,f)) w false
  |_=>.leaf False)
 |.nilCheck e=>some (dC E e λa=>match a with
  |.p M=>.op M λp=>K (.r p none) [] w d
  |a=>K a [] w d)
 |.fieldAddr h e f=>some (dC E e λa=>match a with
  |.r p l=>LL P h f λ_ off=>match l with
   |some (i,G)=>K (.r (p.add off) (some (i,Nat.add G off))) [] w d
   |none=>K (.r (p.add off) none) [] w d
  |_=>.leaf False)
 |.field h e f=>some (dC E e λa=>match a with
  |.a l=>LL P h f λt off=>match P.info? t with
   |some ⟨_,_,n,_,_,_,_,some B,_,_⟩=>match B with
    |.agg _=>xi (nC l off n) λl=>K (.a l) [] w d
    |_=>match j0 l off with
     |some v=>K v [] w d
     |none=>.leaf False
   |_=>.leaf False
  |_=>.leaf False)
 |.indexAddr h e C=>some (dC E e λa=>dC E C λi=>i.ri λi=>match a,lj P h with
  |.sl s,.slice k=>vP P k λy=>.and (0<=i) (.and (i<(s.n:Int)) (.op s.a λp=>K (.r (p.add (i.toNat *y)) none) [] w d))
  |.s3 a n _,.slice k=>vP P k λy=>.and (0<=i) (.and (i<(n:Int)) (.op a λp=>K (.r (p.add (i.toNat *y)) none) [] w d))
  |.r p _,.array n k=>vP P k λy=>.and (0<=i) (.and (i<(n:Int)) (K (.r (p.add (i.toNat *y)) none) [] w d))
  |_,_=>.leaf False)
 |.index h e C=>some (dC E e λa=>dC E C λi=>i.ri λi=>match a,lj P h with
  |.st s,.string=>.and (0<=i) (.ex UInt8 λb=>.and (s[i.toNat]? =some b) (K (.i .u8 (b.toNat:Int)) [] w d))
  |.a A,.array n k=>match lj P k with
   |.string=>DV.os A λq=>.and (0<=i) (.and (i<(n:Int)) (.ex ByteArray λb=>.and (q.toArray[i.toNat]? =some (.string b)) (K (.st b) [] w d)))
   |_=>DV.os A λq=>.and (0<=i) (.and (i<(n:Int)) (.ex Int λb=>.and (q.toArray[i.toNat]? =some (.int .i64 b)) (K (.i .i64 b) [] w d)))
  |_,_=>.leaf False)
 |.slice h e lo F H=>some (dC E e λa=>match a,lj P h with
  |.sl s,.slice k=>vP P k λy=>nU E H s.c s.c λm=>nU E F m s.n λx=>nU E lo x 0 λl=>K (.s3 (if m=l then s.a else s.a.map (·.add (l *y))) (x - l) (m - l)) [] w d
  |.s3 a n c,.slice k=>vP P k λy=>nU E H c c λm=>nU E F m n λx=>nU E lo x 0 λl=>K (.s3 (if m=l then a else a.map (·.add (l *y))) (x - l) (m - l)) [] w d
  |.st s,.string=>nU E F s.size s.size λx=>nU E lo x 0 λl=>K (.st (s.extract l x)) [] w d
  |.r p _,.array n k=>vP P k λy=>nU E H n n λm=>nU E F m n λx=>nU E lo x 0 λl=>K (.s3 (some (if m=l then p else p.add (l *y))) (x - l) (m - l)) [] w d
  |_,_=>.leaf False)
 |.extract e n=>some (dC E e λa=>match a with
  |.t l=>match j0 l n with
   |some v=>K v [] w d
   |none=>.leaf False
  |_=>.leaf False)
 |.build h J=>some (CA P h λB=>A6 B λB=>match lj P h with
  |.struct j=>Bn E (abI j.toList) J.toList B.cs λl=>xi l λl=>K (.a l) [] w d
  |.array _ k=>match P.info? k with
   |some ⟨_,_,n,_,_,_,_,_,_,_⟩=>Bn E (λi=>Nat.mul i n) J.toList B.cs λl=>xi l λl=>K (.a l) [] w d
   |none=>.leaf False
  |_=>.leaf False)
 |.unOp f _ e=>some (dC E e λa=>match f,a with
  |.not,.kb true=>K (.kb false) [] w d
  |.not,.kb false=>K (.kb true) [] w d
  |.not,.b e=>K (.b (!e)) [] w d
  |.neg,.i z e=>K (.i z (z.wrap (0 - e))) [] w d
  |.xor,.i z e=>K (.i z (wI z (if IntKind.signed z then -1 else IntKind.max z) e)) [] w d
  |_,_=>.leaf False)
 |.binOp f h e D _=>some (dC E e λa=>dC E D λb=>match lj P h,f with
  |.interface _,_|.pointer _,.neq=>match E7 D with
   |true=>Dq P f h e D a b w λv j=>K v (j.map λf=>(none,f)) w d
   |false=>hl d L w λw=>Dq P f h e D a b w λv j=>K v (j.map λf=>(none,f)) w false
  |_,_=>Dq P f h e D a b w λv j=>K v (j.map λf=>(none,f)) w d)
 |.convert s t e=>match lj P s,lj P t with
  |.slice _,.slice _|.string,.slice _=>none
  |.slice _,.string=>some (dC E e λa=>DV.o a λv=>hl d L w λw=>vH P (convert s t v) (.string (ByteArray.mk #[])) w λv j=>K v (j.map λf=>(none,f)) w false)
  |.pointer _,.unsafePointer|.unsafePointer,.pointer _=>some (dC E e λa=>DV.o a λv=>hl d L w λw=>vH P (convert s t v) (.pointer none) w λv j=>K v (j.map λf=>(none,f)) w false)
  |_,.int z=>some (dC E e λa=>a.ri λe=>K (.i z (z.wrap e)) [] w d)
  |_,_=>some (dC E e λv=>K v [] w d)
 |.makeInterface h e=>some (dC E e λv=>K (.fc h v) [] w d)
 |.makeFunc (.func n) j A=>some (qz E j.toList λj=>qz E A.toList λA=>K (.g n j A) [] w d)
 |.lookup h e C ok=>some (dC E e λa=>DV.o a λa=>dC E C λb=>DV.o b λb=>hl d L w λw=>CA P ty λB=>vH P (Instr.lookup h a b ok) B w λv j=>K v (j.map λf=>(none,f)) w false)
 |.call {callee:=.builtin .len,args,argTypes}=>some (qz E args.toList λq=>match q,argTypes.toList with
  |[v],[h]=>match v,lj P h with
   |.sl s,_=>K (.i .i64 (s.n:Int)) [] w d
   |.s3 _ n _,_=>K (.i .i64 (n:Int)) [] w d
   |.st s,_=>K (.i .i64 (s.size:Int)) [] w d
   |_,.array n _=>K (.i .i64 (n:Int)) [] w d
   |v,.map _ _=>DV.o v λm=>hl d L w λw=>vH P (Builtin.len_ #[h] ty #[m]) (.int .i64 0) w λv j=>K v (j.map λf=>(none,f)) w false
   |_,_=>.leaf False
  |_,_=>.leaf False)
 |.call {callee:=.builtin .cap,args,..}=>some (qz E args.toList λq=>match q with
  |[.sl s]=>K (.i .i64 (s.c:Int)) [] w d
  |[.s3 _ _ c]=>K (.i .i64 (c:Int)) [] w d
  |_=>.leaf False)
 |.call {callee:=.builtin .min,args,..}=>some (qz E args.toList λq=>match q with
  |v::q=>AG false v q λv=>K v [] w d
  |_=>.leaf False)
 |.call {callee:=.builtin .max,args,..}=>some (qz E args.toList λq=>match q with
  |v::q=>AG true v q λv=>K v [] w d
  |_=>.leaf False)
 |_=>none
def na(L:DL)(w w':I)(K:Oc):Oc:=match L with
 |[]=>K
 |L=>rY L λd=>.and (kept d w w') K
def H3(L:DL)(p:Addr):List Nat->List DV->I->(I->Oc)->Oc
 |n::j,v::k,d,h=>DV.o v λq=>match bQ n 0 with
  |true=>.st d p q λe=>na L d e (H3 L p j k e h)
  |false=>.st d (p.add n) q λe=>na L d e (H3 L p j k e h)
 |_,_,d,h=>h d
def uC(P:au)(L:DL)(s:Sem V)(h:V)(w:I)(K:DV->I->Oc):Oc:=
 uQ h λe=>DV.o e λv=>.ex I λd=>.and (s.run P w=.ok v d) (na L w d (K e d))
def J7(P:au)(q:Pk)(L:DL)(f:b5)(xs:Array V)(j:V)(w:I)(K:DV->I->Oc):Oc:=match q.of f with
 |some k=>rY L λh=>.cp h P f xs k w λr e=>uQ j λd=>DV.o d λv=>.and (r=ab v) (K d e)
 |none=>match L with
  |[]=>.ca P f xs w λr e=>uQ j λd=>DV.o d λv=>.and (r=ab v) (K d e)
  |L=>rY L λh=>.cf h P f xs w λr e=>uQ j λd=>DV.o d λv=>.and (r=ab v) (K d e)
def Wv(P:au)(f:b5):Bool:=match P.funcs[f]? with
 |some fn=>fn.body.isSome
 |none=>false
def Yc(P:au)(z:Lk)(dst:Option Nat)(op:Op)(ty:aD)(E:DE)(L:DL)(w:I)(d:Bool)(K:DV->DL->I->Bool->Oc):Oc:=match op with
 |.store _ h N=>dC E h λa=>dC E N λv=>match a with
  |.r _ (some (i,H))=>match j0 L i with
   |some (b,y,j)=>xi (Bg y H v.cs) λy=>K .u (Tv L i (b,y,j)) w true
   |none=>.leaf False
  |.r p none=>hl d L w λw=>H3 L p Qk v.cs w λe=>K .u L e false
  |_=>.leaf False
 |.alloc j=>CA P j λq=>A6 q λq=>match Mw z.l dst with
  |true=>rY L λC=>.nw C w λb e=>K (.r (aa b) (some (L.length,0))) (L++[(b,q.cs,j)]) e false
  |false=>hl d L w λw=>DV.os q.cs λk=>.al w (.cells k.toArray j) λe=>K (.r (nb w) none) L e false
 |.box j h=>dC E h λq=>match Mw z.l dst with
  |true=>rY L λC=>.nw C w λb e=>K (.r (aa b) (some (L.length,0))) (L++[(b,q.cs,j)]) e false
  |false=>hl d L w λw=>DV.os q.cs λk=>.al w (.cells k.toArray j) λe=>K (.r (nb w) none) L e false
 |.buildSlice j n J=>match lj P j with
  |.slice D=>match P.info? D with
   |some ⟨_,_,M,_,_,_,_,some q,_,_⟩=>A6 q λq=>Bn E (λi=>Nat.mul i M) J.toList (SD n q.cs) λl=>DV.os l λk=>hl d L w λw=>.al w (.cells k.toArray D) λe=>K (.s3 (some (nb w)) n n) L e false
   |_=>.leaf False
  |_=>.leaf False
 |.makeMap _ _=>hl d L w λw=>.al w (.map #[] 0) λe=>K (.m (some w.heap.size)) L e false
 |.mapUpdate j m x v|.insert j m x v=>dC E m λm=>DV.o m λm=>dC E x λx=>DV.o x λx=>dC E v λv=>DV.o v λv=>hl d L w λw=>
   .ex I λe=>.and ((Instr.mapUpdate j m x v).run P w=.ok () e) (na L w e (K .u L e false))
 |.call {callee:=.builtin b,args,argTypes}=>qz E args.toList λk=>DV.os k λk=>hl d L w λw=>match b with
  |.append=>uC P L (fL argTypes ty k.toArray) (.slice none 0 0) w λv e=>K v L e false
  |.copy=>uC P L (Builtin.copy_ argTypes ty k.toArray) (.int .i64 0) w λv e=>K v L e false
  |.unsafeSliceData=>uC P L (Builtin.unsafeSliceData_ argTypes ty k.toArray) (.pointer none) w λv e=>K v L e false
  |.unsafeString=>uC P L (Builtin.unsafeString_ argTypes ty k.toArray) (.string (ByteArray.mk #[])) w λv e=>K v L e false
  |.delete=>.ex I λe=>.and ((Builtin.delete_ argTypes ty k.toArray).run P w=.ok undef e) (na L w e (K .u L e false))
  |.clear=>.ex I λe=>.and ((Builtin.clear_ argTypes ty k.toArray).run P w=.ok (.tuple #[]) e) (na L w e (K (.t []) L e false))
  |_=>.leaf False
 |.call {callee:=.value h,args,..}=>dC E h λf=>qz E args.toList λk=>CA P ty λq=>hl d L w λw=>match f with
  |.g n G y=>DV.os (G++k++y) λB=>match Wv P n with
   |true=>J7 P z.pk L n B.toArray q w λv e=>K v L e false
   |false=>uQ q λr=>DV.o r λv=>.ex I λe=>.and ((callFunc n B.toArray).run P w=.ok (.value v) e) (na L w e (K r L e false))
  |.f A=>DV.os k λB=>.at (hv P A.n) (J7 P z.pk L A.n (A.bs++B.toArray++A.cs) q w λv e=>K v L e false)
  |_=>.leaf False
 |.makeSlice j l c=>dC E l λl=>DV.o l λl=>dC E c λc=>DV.o c λc=>hl d L w λw=>uC P L (Instr.makeSlice j l c) (.slice none 0 0) w λv e=>K v L e false
 |.convert s t h=>dC E h λh=>DV.o h λh=>hl d L w λw=>uC P L (convert s t h) (.slice none 0 0) w λv e=>K v L e false
 |.range j h=>dC E h λh=>DV.o h λh=>hl d L w λw=>.ex V λv=>.ex I λe=>.and ((Instr.range j h).run P w=.ok v e) (na L w e (K (.v v) L e false))
 |.next it s=>dC E it λh=>DV.o h λit=>hl d L w λw=>.or (.ex I λe=>.and ((Instr.next it s ty).run P w=.ok (.tuple #[.bool false]) e) (na L w e (K (.t [.kb false]) L e false)))
   (match s with
    |true=>.ex Int λi=>.ex Int λc=>.ex I λe=>.and ((Instr.next it true ty).run P w=.ok (.tuple #[.bool true,.int .i64 i,.int .i32 c]) e) (na L w e (K (.t [.kb true,.i .i64 i,.i .i32 c]) L e false))
    |false=>.ex V λi=>.ex V λc=>.ex I λe=>.and ((Instr.next it false ty).run P w=.ok (.tuple #[.bool true,i,c]) e) (na L w e (K (.t [.kb true,.v i,.v c]) L e false)))
 |.entry it=>dC E it λh=>DV.o h λit=>hl d L w λw=>.ex V λi=>.ex V λc=>.ex I λe=>.and ((Instr.entry it).run P w=.ok (.tuple #[i,c]) e) (na L w e (K (.t [.v i,.v c]) L e false))
 |.panic h=>dC E h λv=>DV.o v λv=>hl d L w λw=>match z.pk with
  |some (F,_)=>.leaf (F (.panicked [{v:=v,recovered:=false}]) w)
  |none=>.leaf False
 |_=>.leaf False
def wF:List Edge->(Nat->Bool)->Bool
 |[],_=>false
 |⟨_,.textOnly _⟩::l,p=>wF l p
 |⟨_,.gcOnly _⟩::l,p=>wF l p
 |⟨d,_⟩::l,p=>match p d with
  |true=>true
  |false=>wF l p
def Be(ops:List Oper):Nat->Nat->Nat->Bool
 |0,i,h=>match j0 ops h with
  |some ⟨_,_,_,_,e,_⟩=>wF e.toList λd=>bQ d i
  |none=>false
 |f+1,i,h=>match j0 ops h with
  |some ⟨_,_,_,_,e,_⟩=>wF e.toList λd=>match bQ d i with
   |true=>true
   |false=>Be ops f i d
  |none=>false
def wZ(ops:List Oper)(j:Nat):DH->(DH->Oc)->Oc
 |[],e=>e []
 |(i,f,h)::d,e=>match Be ops 4 i j with
  |true=>wZ ops j d e
  |false=>wZ ops j d λd=>e ((i,f,h)::d)
def Dj(ops:List Oper)(j:Nat):DH->Bool
 |[]=>false
 |(i,none,_)::d=>match Be ops 4 i j with
  |true=>Dj ops j d
  |false=>true
 |_::d=>Dj ops j d
def u1(P:au)(ops:List Oper)(j:Nat)(w:I)(K:Oc):DH->Oc
 |[]=>K
 |(i,none,e)::d=>match Be ops 4 i j with
  |true=>u1 P ops j w K d
  |false=>match e with
   |.c p v=>.and (w.cell? p=some v) (u1 P ops j w K d)
   |.r s v=>.and (s.run P w=.ok v w) (u1 P ops j w K d)
   |.n=>u1 P ops j w K d
 |_::d=>u1 P ops j w K d
abbrev DJ:=DE->DL->I->Bool->DH->Oc
def I3(draw:Bool)(i:Nat):List (Option Nat×Fc)->DH->(DH->Oc)->Oc
 |[],d,e=>e d
 |(f,h)::l,d,e=>match draw with
  |true=>I3 draw i l d λd=>e ((i,f,h)::d)
  |false=>e d
def T8(P:au)(j:Lk)(ops:List Oper)(draw:Bool)(i:Nat)(o:Oper)(E:DE)(L:DL)(w:I)(d:Bool)(H:DH)(K:DJ):Oc:=match o with
 |⟨dst,op,e,_,_,_⟩=>match Kc P op e E L w d λv h w d=>Bo dst v E λE=>I3 draw i h H λH=>K E L w d H with
  |some r=>r
  |none=>Yc P j dst op e E L w d λv L w d=>match Dj ops i H with
   |true=>hl d L w λw=>u1 P ops i w (Bo dst v E λE=>wZ ops i H λH=>K E L w false H) H
   |false=>Bo dst v E λE=>wZ ops i H λH=>K E L w d H
def XE(P:au)(op:Op)(ty:aD)(E:DE)(L:DL)(w:I):Bool:=match Kc P op ty E L w false λ_ _ _ _=>.leaf True with
 |some _=>true
 |none=>false
def BQ(P:au)(ops:List Oper)(i:Nat)(o:Oper)(E:DE)(L:DL)(w:I)(d:Bool)(H:DH)(K:DJ):Oc:=match o with
 |⟨dst,op,e,_,_,_⟩=>Bo dst .u E λE=>match XE P op e E L w with
  |true=>K E L w d H
  |false=>wZ ops i H λH=>K E L w d H
def ET(P:au)(e:Lk)(ops:List Oper)(draw:Bool)(i:Nat)(o:Oper)(t:Nat)(want b:Bool)(E:DE)(L:DL)(w:I)(d:Bool)(H:DH)(K:DJ):Oc:=match want,b with
 |true,true|false,false=>T8 P e ops draw i o ((t,.kb b)::E) L w d H K
 |_,_=>BQ P ops i o ((t,.kb b)::E) L w d H K
def headD(P:au)(e:Lk)(ops:List Oper)(draw:Bool)(i:Nat)(E:DE)(L:DL)(w:I)(d:Bool)(H:DH)(K:DJ):Oc:=match j0 ops i with
 |none=>.leaf False
 |some o=>match o.guard with
  |none=>T8 P e ops draw i o E L w d H K
  |some (h,want)=>match j0 ops h with
   |some ⟨some t,_,_,_,_,_⟩=>getD E t λv=>match v with
    |.kb b=>ET P e ops draw i o t want b E L w d H K
    |.b b=>.bK b (ET P e ops draw i o t want true E L w d H K) (ET P e ops draw i o t want false E L w d H K)
    |_=>BQ P ops i o E L w d H K
   |_=>.leaf False
def Tg(P:au)(k:Lk)(ops:List Oper)(K:DE->DL->I->Bool->Oc):List Oper->Nat->DE->DL->I->Bool->Oc
 |[],_,d,e,j,h=>K d e j h
 |_::l,i,d,e,j,h=>headD P k ops false i d e j h [] λd e j h _=>Tg P k ops K l (i+1) d e j h
def B'(P:au)(q:Lk)(ops:List Oper)(K:DE->DL->I->Bool->Oc):Tr->DE->DL->I->Bool->DH->Oc
 |.nil,d,e,j,h,_=>K d e j h
 |.one i t,d,e,j,h,k=>headD P q ops true i d e j h k λd e j h k=>B' P q ops K t d e j h k
 |.fork a b,d,e,j,h,k=>.cj (B' P q ops K a d e j h k) (B' P q ops K b d e j h k)
def Yb(L:DL)(w:I)(d:Bool)(K:I->Bool->Oc):Oc:=match L,d with
 |[],false=>.dr w λw=>K w false
 |_,_=>K w true
def eI:(ts:List Tk)->(X:Type)->List DV->mP ts X->(X->Oc)->Oc
 |[],_,_,d,e=>e d
 |.a _::ts,X,.a l::h,d,e=>eI ts X (l++h) d e
 |.t _::ts,X,.t l::h,d,e=>eI ts X (l++h) d e
 |.g _ _ _::ts,X,.g _ k q::h,d,e=>eI ts X (k++(q++h)) d e
 |.o (.i _)::ts,X,.i _ j::h,d,e=>eI ts X h (d j) e
 |.o .b::ts,X,.b j::h,d,e=>eI ts X h (d j) e
 |.o .b::ts,X,.kb j::h,d,e=>eI ts X h (d j) e
 |.o .st::ts,X,.st j::h,d,e=>eI ts X h (d j) e
 |.o .s::ts,X,.sl j::h,d,e=>eI ts X h (d j) e
 |.o .s::ts,X,.s3 a n c::h,d,e=>eI ts X h (d ⟨a,n,c⟩) e
 |.o .p::ts,X,.p j::h,d,e=>eI ts X h (d j) e
 |.o .p::ts,X,.r j _::h,d,e=>eI ts X h (d (some j)) e
 |.o .r::ts,X,.r j _::h,d,e=>eI ts X h (d j) e
 |.o .m::ts,X,.m j::h,d,e=>eI ts X h (d j) e
 |.o .f::ts,X,.f j::h,d,e=>eI ts X h (d j) e
 |.o .f::ts,X,.g n k q::h,d,e=>DV.os k λk=>DV.os q λq=>eI ts X h (d ⟨n,k.toArray,q.toArray⟩) e
 |.o .v::ts,X,v::h,d,e=>DV.o v λj=>eI ts X h (d j) e
 |_,_,_,_,_=>.leaf False
def Dk:(l:List (Nat×Sp))->g3 l->DE->DL->I->aC->Oc
 |[],e,_,_,j,h=>.leaf (e j h)
 |(t,.v w)::l,e,d,k,j,h=>getD d t λv=>eI w (g3 l) [v] e λq=>Dk l q d k j h
 |(t,.l w _)::l,e,d,k,j,h=>getD d t λv=>match v with
  |.r _ (some (i,_))=>match j0 k i with
   |some (b,x,_)=>eI w (g3 l) x (e b) λq=>Dk l q d k j h
   |none=>.leaf False
  |_=>.leaf False
abbrev DK:=Exit->DE->DL->I->Bool->Oc
section
variable (X:Fx) (es:List (gI X)) (R:aC)
def o1{X:Fx}(R:aC):List (gI X)->List Bool->DE->DL->I->Bool->Oc->Oc
 |[],_,_,_,_,_,f=>f
 |k::es,w,h,e,d,j,f=>match uk k.q w with
  |true=>match k with
   |⟨_,y,x,_⟩=>hl j e d λd=>Dk y x h e d R
  |false=>o1 R es w h e d j f
def oE(P:au)(ord:List (Nat×Tr))(w:Lk):Code->List Bool->DK->DE->DL->I->Bool->Oc
 |.skip,_,k,h,j,e,d=>k .normal h j e d
 |.region id ops true,_,k,h,j,e,d=>match Fy ord id with
  |some t=>Yb j e d λe d=>B' P w ops.toList (λh j e d=>k .normal h j e d) t h j e d []
  |none=>.leaf False
 |.region _ ops false,_,k,h,j,e,d=>Tg P w ops.toList (λh j e d=>k .normal h j e d) ops.toList 0 h j e d
 |.seq a b,q,k,h,j,e,d=>oE P ord w a (false::q) (λx h j e d=>match x with
  |.normal=>o1 R es (true::q) h j e d (oE P ord w b (true::q) k h j e d)
  |x=>k x h j e d) h j e d
 |.cond o a b,q,k,h,j,e,d=>dC h o λv=>match v with
  |.kb true=>o1 R es (false::q) h j e d (oE P ord w a (false::q) k h j e d)
  |.kb false=>o1 R es (true::q) h j e d (oE P ord w b (true::q) k h j e d)
  |.b t=>.bK t (o1 R es (false::q) h j e d (oE P ord w a (false::q) k h j e d)) (o1 R es (true::q) h j e d (oE P ord w b (true::q) k h j e d))
  |_=>.leaf False
 |.block id a,q,k,h,j,e,d=>oE P ord w a (false::q) (λx h j e d=>match x with
  |.exit y=>match bQ y id with
   |true=>k .normal h j e d
   |false=>k (.exit y) h j e d
  |x=>k x h j e d) h j e d
 |.loop _,q,_,h,j,e,d=>o1 R es q h j e d (.leaf False)
 |.exit id,_,k,h,j,e,d=>k (.exit id) h j e d
 |.ret,_,k,h,j,e,d=>k .ret h j e d
 |_,_,_,_,_,_,_=>.leaf False
def Bw(P:au)(E:DE)(L:DL)(w:I):List ResultVar->(List DV->Oc)->Oc
 |[],d=>d []
 |.tmp t::l,d=>getD E t λv=>Bw P E L w l λe=>d (v::e)
 |.cell q h::l,d=>getD E q λv=>match v with
  |.r _ (some (i,k))=>match j0 L i with
   |some (_,j,_)=>Nh P h j k λv=>Bw P E L w l λe=>d (v::e)
   |none=>.leaf False
  |.r p none=>Ng P h p w λv _=>Bw P E L w l λe=>d (v::e)
  |_=>.leaf False
def acS(P:au)(fn:Func):DK:=λq j h e k=>match q with
 |.normal|.ret=>hl k h e λe=>Bw P j h e fn.results.toList λd=>match d with
  |[v]=>DV.o v λv=>.leaf (R (ab v) e)
  |d=>DV.os d λd=>.leaf (R (ab (.tuple d.toArray)) e)
 |_=>.leaf False
def MG(P:au)(ord:List (Nat×Tr))(C:Lk)(A:Code)(z:DK):List Bool->Code×DK
 |[]=>(A,z)
 |b::y=>match MG P ord C A z y,b with
  |(.seq w x,d),false=>(w,λe h j q k=>match e with
   |.normal=>o1 R es (true::y) h j q k (oE X es R P ord C x (true::y) d h j q k)
   |e=>d e h j q k)
  |(.seq _ x,d),true=>(x,d)
  |(.cond _ w _,d),false=>(w,d)
  |(.cond _ _ x,d),true=>(x,d)
  |(.block id w,d),_=>(w,λe h j q k=>match e with
   |.exit B=>match bQ B id with
    |true=>d .normal h j q k
    |false=>d (.exit B) h j q k
   |e=>d e h j q k)
  |(.loop w,d),_=>(w,λe h j q k=>match e with
   |.normal=>o1 R es y h j q k (.leaf False)
   |e=>d e h j q k)
  |(_,d),_=>(.skip,d)
def Vc(R:aC)(X:Fx)(K:au->Func->List (Nat×Tr)->Lk->Oc):Oc:=match X with
 |⟨d,fn,ord,e,some l⟩=>K d fn ord ⟨e,some (R,l)⟩
 |⟨d,fn,ord,e,none⟩=>K d fn ord ⟨e,none⟩
def Ec(q:List Bool)(E:DE)(L:DL)(w:I):Oc:=Vc R X λd fn ord j=>match fn.body with
  |some c=>match MG X es R d ord j c (acS R d fn) q with
   |(.loop x,e)=>oE X es R d ord j x (false::q) (λh E L w k=>match h with
    |.normal=>o1 R es q E L w k (.leaf False)
    |h=>e h E L w k) E L w false
   |(c,e)=>oE X es R d ord j c q e E L w false
  |none=>.leaf False
end
abbrev h7:List Tk->Type->Type
 |[],X=>X
 |.o (.i _)::l,X=>Int->h7 l X
 |.o .b::l,X=>Bool->h7 l X
 |.o .st::l,X=>ByteArray->h7 l X
 |.o .s::l,X=>Sl->h7 l X
 |.o .p::l,X=>Option Addr->h7 l X
 |.o .r::l,X=>Addr->h7 l X
 |.o .m::l,X=>Option Nat->h7 l X
 |.o .v::l,X=>V->h7 l X
 |.o .f::l,X=>Fv->h7 l X
 |.a _::l,X=>h7 l X
 |.t _::l,X=>h7 l X
 |.g _ _ _::l,X=>h7 l X
abbrev nK:List (Nat×Sp)->Type
 |[]=>I->aC->Prop
 |(_,.v d)::l=>h7 d (nK l)
 |(_,.l d _)::l=>Nat->h7 d (nK l)
def uA:∀(ts:List Tk) (X:Type),mP ts X=h7 ts X
 |[],_=>rfl
 |.o e::ts,X=>by cases e<;>exact congrArg (λd=>_->d) (uA ts X)
 |.a _::ts,X=>uA ts X
 |.t _::ts,X=>uA ts X
 |.g _ _ _::ts,X=>uA ts X
def Ed:∀l:List (Nat×Sp),g3 l=nK l
 |[]=>rfl
 |(_,.v d)::l=>(uA d (g3 l)).trans (congrArg (h7 d) (Ed l))
 |(_,.l d _)::l=>congrArg (λe=>Nat->e) ((uA d (g3 l)).trans (congrArg (h7 d) (Ed l)))
def lq:(ts:List Tk)->(X:Type)->h7 ts X->(List DV->X->Prop)->Prop
 |[],_,h,j=>j [] h
 |.o (.i q)::ts,X,h,j=>∀e:Int,lq ts X (h e) λd k=>j (.i q e::d) k
 |.o .b::ts,X,h,j=>∀e:Bool,lq ts X (h e) λd k=>j (.b e::d) k
 |.o .st::ts,X,h,j=>∀e:ByteArray,lq ts X (h e) λd k=>j (.st e::d) k
 |.o .s::ts,X,h,j=>∀e:Sl,lq ts X (h e) λd k=>j (.sl e::d) k
 |.o .p::ts,X,h,j=>∀e:Option Addr,lq ts X (h e) λd k=>j (.p e::d) k
 |.o .r::ts,X,h,j=>∀e:Addr,lq ts X (h e) λd k=>j (.r e none::d) k
 |.o .m::ts,X,h,j=>∀e:Option Nat,lq ts X (h e) λd k=>j (.m e::d) k
 |.o .v::ts,X,h,j=>∀e:V,lq ts X (h e) λd k=>j (.v e::d) k
 |.o .f::ts,X,h,j=>∀e:Fv,lq ts X (h e) λd k=>j (.f e::d) k
 |.a q::ts,X,h,j=>lq ts X h λd k=>j (.a (nC d 0 q)::d.drop q) k
 |.t q::ts,X,h,j=>lq ts X h λd k=>j (.t (nC d 0 q)::d.drop q) k
 |.g n w q::ts,X,h,j=>lq ts X h λd k=>j (.g n (nC d 0 w) (nC d w q)::d.drop (w+q)) k
def CU(G:DE->DL->I->aC->Oc):(l:List (Nat×Sp))->nK l->DE->DL->Prop
 |[],d,h,e=>∀(w:I) (R:aC),Nf (G h e w R) (d w R)
 |(t,.v j)::l,d,h,e=>lq j (nK l) d λk d=>match k with
  |v::_=>CU G l d ((t,v)::h) e
  |[]=>False
 |(t,.l j q)::l,d,h,e=>∀b:Nat,lq j (nK l) (d b) λk d=>CU G l d ((t,.r (aa b) (some (e.length,0)))::h) (e++[(b,k,q)])
def kD:(ts:List Tk)->(X:Type)->h7 ts X->(List DV->X->Oc)->Oc
 |[],_,h,j=>j [] h
 |.o (.i q)::ts,X,h,j=>.all Int λe=>kD ts X (h e) λd k=>j (.i q e::d) k
 |.o .b::ts,X,h,j=>.all Bool λe=>kD ts X (h e) λd k=>j (.b e::d) k
 |.o .st::ts,X,h,j=>.all ByteArray λe=>kD ts X (h e) λd k=>j (.st e::d) k
 |.o .s::ts,X,h,j=>.all Sl λe=>kD ts X (h e) λd k=>j (.sl e::d) k
 |.o .p::ts,X,h,j=>.all (Option Addr) λe=>kD ts X (h e) λd k=>j (.p e::d) k
 |.o .r::ts,X,h,j=>.all Addr λe=>kD ts X (h e) λd k=>j (.r e none::d) k
 |.o .m::ts,X,h,j=>.all (Option Nat) λe=>kD ts X (h e) λd k=>j (.m e::d) k
 |.o .v::ts,X,h,j=>.all V λe=>kD ts X (h e) λd k=>j (.v e::d) k
 |.o .f::ts,X,h,j=>.all Fv λe=>kD ts X (h e) λd k=>j (.f e::d) k
 |.a q::ts,X,h,j=>kD ts X h λd k=>j (.a (nC d 0 q)::d.drop q) k
 |.t q::ts,X,h,j=>kD ts X h λd k=>j (.t (nC d 0 q)::d.drop q) k
 |.g n w q::ts,X,h,j=>kD ts X h λd k=>j (.g n (nC d 0 w) (nC d w q)::d.drop (w+q)) k
def Dh(G:DE->DL->I->aC->Oc):(l:List (Nat×Sp))->nK l->DE->DL->Oc
 |[],d,h,e=>.all I λw=>.all aC λq=>.im (G h e w q) (d w q)
 |(t,.v j)::l,d,h,e=>kD j (nK l) d λk d=>match k with
  |v::_=>Dh G l d ((t,v)::h) e
  |[]=>.leaf False
 |(t,.l j x)::l,d,h,e=>.all Nat λb=>kD j (nK l) (d b) λk d=>Dh G l d ((t,.r (aa b) (some (e.length,0)))::h) (e++[(b,k,x)])
def mK:(ts:List Tk)->h7 ts Unit
 |[]=>()
 |.o (.i _)::ts=>λ_=>mK ts
 |.o .b::ts=>λ_=>mK ts
 |.o .st::ts=>λ_=>mK ts
 |.o .s::ts=>λ_=>mK ts
 |.o .p::ts=>λ_=>mK ts
 |.o .r::ts=>λ_=>mK ts
 |.o .m::ts=>λ_=>mK ts
 |.o .v::ts=>λ_=>mK ts
 |.o .f::ts=>λ_=>mK ts
 |.a _::ts=>mK ts
 |.t _::ts=>mK ts
 |.g _ _ _::ts=>mK ts
def Lq:Nat->List DV->DE
 |_,[]=>[]
 |n,v::d=>(n,v)::Lq (n+1) d
def A8(X:Fx)(es:List (gI X))(f:b5)(ts:List Tk):Oc:=kD ts Unit (mK ts) λe _=>.all I λh=>.all aC λd=>Vc d X λj _ _ _=>DV.os e λk=>.im (Ec X es d [] (Lq 0 e) [] h) (ah j f k.toArray h d)
abbrev At(X:Fx)(_:List (gI X))(_:List Nat)(d:Ps):Type:=nK d
abbrev aA(P:au)(fn:Func)(ord:List (Nat×Tr))(d:List Nat)(e:Option (List b5):=none):List (gI ⟨P,fn,ord,d,e⟩):=[]
section
variable {X:Fx}
abbrev ai(es:List (gI X))(q:List Nat)(d:Ps){F:nK d}(_:CU (λe h k j=>Ec X es j (o2 q) e h k) d F [] []:=by repeat' first |(intro)|((conv=>arg 1;whnf);first |exact Nf.leaf|apply Nf.bK|apply Nf.and|apply Nf.ex|apply Nf.cf|apply Nf.ca|apply Nf.cp|apply Nf.nw|apply Nf.st|apply Nf.lc|apply Nf.op|apply Nf.all|apply Nf.im|apply Nf.al|apply Nf.dr|apply Nf.at|apply Nf.or|apply Nf.cj)):At X es q d:=F
abbrev bD(es:List (gI X))(q:List Nat)(d:Ps):At X es q d:=cast (Ed d) (jB d 0 (X.Sem (o2 q)))
abbrev aj{es:List (gI X)}{q:List Nat}{d:Ps}(G:At X es q d){F:g3 d}(_:HEq G F:=by exact HEq.rfl)(e:F=jB d 0 (X.wi es (o2 q)):=by kernel_rfl):List (gI X):=Yp X es (o2 q) d F e::es
abbrev bB{es:List (gI X)}{q:List Nat}{d:Ps}(G:At X es q d){F:g3 d}(_:HEq G F:=by exact HEq.rfl)(e:F=jB d 0 (X.Sem (o2 q)):=by kernel_rfl):List (gI X):=Yo X (o2 q) d F e::es
def tP:(ts:List Tk)->(List V->Prop)->Prop
 |[],e=>e []
 |.o k::ts,e=>∀q:k.T,tP ts λd=>e (k.val q::d)
 |.a h::ts,e=>tP ts λd=>e (.agg (d.take h).toArray::d.drop h)
 |.t h::ts,e=>tP ts λd=>e (.tuple (d.take h).toArray::d.drop h)
 |.g n j h::ts,e=>tP ts λd=>e (.func (.func n) (d.take j).toArray ((d.drop j).take h).toArray::(d.drop j).drop h)
def wE:∀{ts:List Tk} {K:List V->Prop},(∀e,K e)->tP ts K
 |[],_,d=>d []
 |.o _::ts,_,d=>λ_=>wE (ts:=ts) λ_=>d _
 |.a _::ts,_,d=>wE (ts:=ts) λ_=>d _
 |.t _::ts,_,d=>wE (ts:=ts) λ_=>d _
 |.g _ _ _::ts,_,d=>wE (ts:=ts) λ_=>d _
def aB(es:List (gI X))(f:b5)(ts:List Tk){T:Prop}(_:Nf (A8 X es f ts) T:=by repeat' first |(intro)|((conv=>arg 1;whnf);first |exact Nf.leaf|apply Nf.bK|apply Nf.and|apply Nf.ex|apply Nf.cf|apply Nf.ca|apply Nf.cp|apply Nf.nw|apply Nf.st|apply Nf.lc|apply Nf.op|apply Nf.all|apply Nf.im|apply Nf.al|apply Nf.dr|apply Nf.at|apply Nf.or|apply Nf.cj))(k:X.P.funcs[f]? =some X.fn:=by kernel_rfl)(j:X.fn.body=some X.c:=by kernel_rfl)(e:(tP ts λd=>∀(w:I) (R:aC),cS (Nat.ble d.length X.fn.ntmps) (iY X.P X.n (X.B4 es R) X.c [] (vG X.P X.fn R) ⟨kL 0 d,[],[],w,false⟩)->ah X.P f d.toArray w R)=T:=by kernel_rfl):T:=
 e▸wE λ_ _ _ h=>XB X es (dP h).2 k j (dP h).1 rfl
def bO(es:List (gI X)){w:List (gI X)}{q:List Nat}{d:Ps}(F:At X w q d){T:Prop}(_:Nf (Dh (λh j x k=>Ec X es k (o2 q) h j x) d F [] []) T:=by repeat' first |(intro)|((conv=>arg 1;whnf);first |exact Nf.leaf|apply Nf.bK|apply Nf.and|apply Nf.ex|apply Nf.cf|apply Nf.ca|apply Nf.cp|apply Nf.nw|apply Nf.st|apply Nf.lc|apply Nf.op|apply Nf.all|apply Nf.im|apply Nf.al|apply Nf.dr|apply Nf.at|apply Nf.or|apply Nf.cj))(e:wj d (jB d 0 (X.wi es (o2 q))) (jB d 0 (X.Sem (o2 q)))=T:=by kernel_rfl):T:=e▸ad5 es (o2 q) d
end
end Go.W
set_option maxHeartbeats 2000000
set_option maxRecDepth 100000
namespace Go.Proofs.YtkbmpalepmakmaaGreatDoor
open Go renaming World->I,Calls->ah,Program->au,Value->V,TypeId->aD,Ending->cZ,FuncId->b5,IntKind->h5
open Go.IntKind renaming wrap->aE
open Go.IntWalk renaming i64_in->bH
open Go.Builtin renaming append_->fL
open _root_.Bool renaming and_eq_true->bf
open _root_.Nat renaming le_refl->bz,le_trans->bI,beq->bQ,beq_eq->eE
open Go.Region renaming wanted->cz,ready->ec
open Go.Proofs.Tryz renaming prog->U
open _root_.Decidable renaming decide->ak
open Go.Ending renaming returned->ab
open List renaming mem_append->aP,mem_cons->aF,not_mem_nil->aW,mem_of_getElem?->ay,getElem?_eq_getElem->a0,mem_append_left->cm,mem_singleton->cK,mem_cons_of_mem->dJ,drop_eq_getElem_cons->dG,take_add_one->ha,drop_of_length_le->dH
open Go Go.W
def mp{a b:Prop}(d:a)(e:a=b:=by kernel_rfl):b:=e▸d
abbrev ln:=Exit->Act->I->Prop
abbrev IJ(P:au)(n:Nat)(K:Env->I->aC->Prop)(c:Code)(Q:aC->ln):Prop:=∀(R:aC) (E:Env) (w:I),K E w R->WP P (cx n) c (Q R) E w
abbrev IN(P:au)(n:Nat)(K:Env->I->aC->Prop)(c:Code)(Q:aC->ln):Prop:=∀(R:aC) (E:Env) (w:I),K E w R->LP P (cx n) c (Q R) E w
abbrev jA(w:I)(p:Addr)(K:Int->Int->Int->Sl->Prop):Prop:=∃d:Int,∃e:Int,∃h:Int,∃j:Sl,w.cell? (p.add 0)=some (.i d)/\w.cell? (p.add 1)=some (.int .u8 e)/\w.cell? (p.add 2)=some (.int .u8 h)/\w.cell? (p.add 3)=some (j.v)/\K d e h j
abbrev MS(w:I)(p:Addr)(K:Int->Int->Int->ByteArray->Int->Prop):Prop:=∃d:Int,∃e:Int,∃h:Int,∃j:ByteArray,∃k:Int,w.cell? (p.add 0)=some (.int .u8 d)/\w.cell? (p.add 1)=some (.int .u8 e)/\w.cell? (p.add 2)=some (.int .u8 h)/\w.cell? (p.add 3)=some (.string j)/\w.cell? (p.add 4)=some (.i k)/\K d e h j k
abbrev MQ(w:I)(p:Addr)(K:Int->Int->Int->Prop):Prop:=∃d:Int,∃e:Int,∃h:Int,w.cell? (p.add 0)=some (.i d)/\w.cell? (p.add 1)=some (.i e)/\w.cell? (p.add 2)=some (.i h)/\K d e h
abbrev MR(w:I)(p:Addr)(K:Int->ByteArray->Int->Prop):Prop:=∃d:Int,∃e:ByteArray,∃h:Int,w.cell? (p.add 0)=some (.i d)/\w.cell? (p.add 1)=some (.string e)/\w.cell? (p.add 2)=some (.i h)/\K d e h
abbrev Z5(w:I)(p:Addr)(K:Int->Int->Prop):Prop:=∃d:Int,∃e:Int,w.cell? (p.add 0)=some (.i d)/\w.cell? (p.add 1)=some (.i e)/\K d e
abbrev J5(f:b5)(xs:Array V)(w:I)(K:Bool->I->Prop):Prop:=ah U f xs w λe h=>∃d:Bool,e=ab (.bool d)/\K d h
abbrev Xy(f:b5)(xs:Array V)(w:I)(K:Int->I->Prop):Prop:=ah U f xs w λe h=>∃d:Int,e=ab (.i d)/\K d h
abbrev XJ(bs:List Nat)(f:b5)(xs:Array V)(w:I)(K:Int->I->Prop):Prop:=e8 bs U f xs w λe h=>∃d:Int,e=ab (.i d)/\K d h
abbrev zJ(f:b5)(xs:Array V)(w:I)(K:Int->Int->Int->Sl->I->Prop):Prop:=ah U f xs w λk q=>∃d:Int,∃e:Int,∃h:Int,∃j:Sl,k=ab (.agg #[.i d,.int .u8 e,.int .u8 h,j.v])/\K d e h j q
abbrev uv(bs:List Nat)(f:b5)(xs:Array V)(w:I)(K:Int->Int->Int->Sl->I->Prop):Prop:=e8 bs U f xs w λk q=>∃d:Int,∃e:Int,∃h:Int,∃j:Sl,k=ab (.agg #[.i d,.int .u8 e,.int .u8 h,j.v])/\K d e h j q
abbrev Xz(f:b5)(xs:Array V)(w:I)(K:Int->Int->Int->ByteArray->Int->Int->I->Prop):Prop:=ah U f xs w λx y=>∃d:Int,∃e:Int,∃h:Int,∃j:ByteArray,∃k:Int,∃q:Int,x=ab (.tuple #[.agg #[.int .u8 d,.int .u8 e,.int .u8 h,.string j,.i k],.i q])/\K d e h j k q y
abbrev XA(f:b5)(xs:Array V)(w:I)(K:(Option Addr)->I->Prop):Prop:=ah U f xs w λe h=>∃d:Option Addr,e=ab (.pointer d)/\K d h
abbrev DS(f:b5)(xs:Array V)(w:I)(K:V->I->Prop):Prop:=ah U f xs w λe h=>∃d:V,e=ab (d)/\K d h
abbrev XK(bs:List Nat)(f:b5)(xs:Array V)(w:I)(K:Int->Int->Int->Sl->Int->I->Prop):Prop:=e8 bs U f xs w λq x=>∃d:Int,∃e:Int,∃h:Int,∃j:Sl,∃k:Int,q=ab (.tuple #[.agg #[.i d,.int .u8 e,.int .u8 h,j.v],.i k])/\K d e h j k x
abbrev J6(f:b5)(xs:Array V)(w:I)(K:ByteArray->I->Prop):Prop:=ah U f xs w λe h=>∃d:ByteArray,e=ab (.string d)/\K d h
abbrev DW(bs:List Nat)(f:b5)(xs:Array V)(w:I)(K:ByteArray->I->Prop):Prop:=e8 bs U f xs w λe h=>∃d:ByteArray,e=ab (.string d)/\K d h
abbrev BU(w:I)(p:Addr)(d e h:V)(K:I->Prop):Prop:=aL w p d λw=>aL w (p.add 1) e λw=>aL w (p.add 2) h λw=>K w
abbrev oe(w:I)(p:Addr)(d e h j:V)(K:I->Prop):Prop:=aL w p d λw=>aL w (p.add 1) e λw=>aL w (p.add 2) h λw=>aL w (p.add 3) j λw=>K w
abbrev T0(w:I)(p:Addr)(d e h j k:V)(K:I->Prop):Prop:=aL w p d λw=>aL w (p.add 1) e λw=>aL w (p.add 2) h λw=>aL w (p.add 3) j λw=>aL w (p.add 4) k λw=>K w
abbrev om:Nat:=0
abbrev Ij:Nat:=1
abbrev bF:Nat:=3
abbrev aeP:Nat:=4
abbrev ez:Nat:=5
abbrev eD:Nat:=9
abbrev aeX:Nat:=22
abbrev aeV:Nat:=23
abbrev l3:Nat:=30
abbrev Cf:Nat:=31
abbrev Cd:Nat:=33
abbrev hn:Nat:=34
abbrev cd:Nat:=41
abbrev ke:Nat:=43
abbrev bP:Nat:=48
abbrev rC:Nat:=63
abbrev yR:Nat:=66
abbrev Il:Nat:=70
abbrev Cc:Nat:=71
abbrev UX:Nat:=72
abbrev aeU:Nat:=74
abbrev aeW:Nat:=81
abbrev hO:Nat:=88
abbrev aeQ:Nat:=92
abbrev dz:Nat:=95
abbrev jf:Nat:=97
abbrev lh:Nat:=101
abbrev aeR:Nat:=105
abbrev tE:Nat:=107
abbrev dq:Nat:=113
abbrev aI:Nat:=115
abbrev aeT:Nat:=135
abbrev aeY:Nat:=157
abbrev jg:Nat:=159
abbrev aeS:Nat:=160
abbrev mJ:Nat:=162
abbrev UW:Nat:=164
abbrev wa:Nat:=168
abbrev aeO:Nat:=172
abbrev Cb:Nat:=173
abbrev Ce:Nat:=183
abbrev UU:Nat:=186
abbrev qy:Nat:=189
abbrev jh:Nat:=226
abbrev aO:Nat:=228
abbrev iL:Nat:=243
abbrev aeZ:Nat:=244
abbrev yS:Nat:=246
abbrev o':Nat:=251
abbrev lg:Nat:=259
abbrev oo:Nat:=275
abbrev Ik:Nat:=282
abbrev FH:Nat:=3
abbrev On:Nat:=4
abbrev xG:Nat:=5
abbrev Oh:Nat:=6
abbrev OJ:Nat:=7
abbrev OH:Nat:=8
abbrev q8:Nat:=9
abbrev NQ:Nat:=10
abbrev PD:Nat:=11
abbrev OD:Nat:=12
abbrev OA:Nat:=13
abbrev Of:Nat:=14
abbrev OF:Nat:=15
abbrev OC:Nat:=16
abbrev Og:Nat:=17
abbrev FI:Nat:=18
abbrev OG:Nat:=19
abbrev OI:Nat:=20
abbrev OK:Nat:=21
abbrev OL:Nat:=22
abbrev ON:Nat:=23
abbrev OY:Nat:=24
abbrev aa4:Nat:=25
abbrev F7:Nat:=26
abbrev FK:Nat:=27
abbrev PZ:Nat:=28
abbrev PI:Nat:=29
abbrev PY:Nat:=30
abbrev PK:Nat:=31
abbrev Ou:Nat:=32
abbrev NX:Nat:=33
abbrev Ol:Nat:=34
abbrev Om:Nat:=35
abbrev OE:Nat:=36
abbrev Ot:Nat:=37
abbrev Oj:Nat:=38
abbrev OR:Nat:=39
abbrev OV:Nat:=40
abbrev OZ:Nat:=41
abbrev PG:Nat:=42
abbrev vd:Nat:=43
abbrev O2:Nat:=44
abbrev FV:Nat:=45
abbrev p':Nat:=46
abbrev PL:Nat:=47
abbrev PN:Nat:=48
abbrev PJ:Nat:=49
abbrev Pm:Nat:=50
abbrev pZ:Nat:=51
abbrev q7:Nat:=52
abbrev xI:Nat:=53
abbrev Oi:Nat:=54
abbrev Ov:Nat:=55
abbrev Oz:Nat:=56
abbrev Ox:Nat:=57
abbrev OB:Nat:=58
abbrev NU:Nat:=59
abbrev Oq:Nat:=60
abbrev sK:Nat:=61
abbrev p9:Nat:=62
abbrev Gk:Nat:=63
abbrev xM:Nat:=64
abbrev OU:Nat:=65
abbrev OW:Nat:=66
abbrev OP:Nat:=67
abbrev OS:Nat:=68
abbrev nh:Nat:=69
abbrev FZ:Nat:=70
abbrev F1:Nat:=71
abbrev F9:Nat:=72
abbrev q9:Nat:=73
abbrev jD:Nat:=74
abbrev PX:Nat:=75
abbrev P8:Nat:=76
abbrev Gm:Nat:=77
abbrev FO:Nat:=78
abbrev NS:Nat:=79
abbrev N4:Nat:=80
abbrev N5:Nat:=81
abbrev Oy:Nat:=82
abbrev Oo:Nat:=83
abbrev Oe:Nat:=84
abbrev NW:Nat:=85
abbrev NV:Nat:=86
abbrev FT:Nat:=87
abbrev OT:Nat:=88
abbrev OO:Nat:=89
abbrev AP:Nat:=90
abbrev xN:Nat:=91
abbrev vc:Nat:=92
abbrev O0:Nat:=93
abbrev F2:Nat:=94
abbrev F8:Nat:=95
abbrev sL:Nat:=96
abbrev Py:Nat:=97
abbrev Qe:Nat:=98
abbrev Qg:Nat:=99
abbrev PQ:Nat:=100
abbrev Qc:Nat:=101
abbrev Qa:Nat:=102
abbrev P':Nat:=103
abbrev P9:Nat:=104
abbrev Qb:Nat:=105
abbrev N7:Nat:=106
abbrev N1:Nat:=107
abbrev FL:Nat:=108
abbrev N8:Nat:=109
abbrev NR:Nat:=110
abbrev xJ:Nat:=111
abbrev NY:Nat:=112
abbrev FQ:Nat:=113
abbrev Oa:Nat:=114
abbrev FN:Nat:=115
abbrev NZ:Nat:=116
abbrev N2:Nat:=117
abbrev vb:Nat:=118
abbrev PA:Nat:=119
abbrev xK:Nat:=120
abbrev OQ:Nat:=121
abbrev Qf:Nat:=122
abbrev PC:Nat:=123
abbrev F3:Nat:=124
abbrev F5:Nat:=125
abbrev FY:Nat:=126
abbrev aa0:Nat:=127
abbrev Qh:Nat:=129
abbrev Gp:Nat:=130
abbrev Qj:Nat:=131
abbrev Qi:Nat:=132
abbrev Pn:Nat:=133
abbrev PV:Nat:=134
abbrev Qd:Nat:=135
abbrev PT:Nat:=136
abbrev AV:Nat:=137
abbrev PU:Nat:=138
abbrev PO:Nat:=139
abbrev PH:Nat:=140
abbrev PW:Nat:=141
abbrev Gn:Nat:=142
abbrev N9:Nat:=143
abbrev AL:Nat:=144
abbrev Od:Nat:=145
abbrev xH:Nat:=146
abbrev N3:Nat:=147
abbrev PB:Nat:=148
abbrev PF:Nat:=149
abbrev P7:Nat:=150
abbrev Po:Nat:=151
abbrev O1:Nat:=152
abbrev AO:Nat:=153
abbrev Pz:Nat:=154
abbrev F4:Nat:=155
abbrev FU:Nat:=156
abbrev O3:Nat:=162
abbrev F':Nat:=163
abbrev O4:Nat:=164
abbrev N0:Nat:=165
abbrev AN:Nat:=166
abbrev Ob:Nat:=167
abbrev Gl:Nat:=168
abbrev P6:Nat:=169
abbrev aa1:Nat:=170
abbrev F6:Nat:=171
abbrev Pl:Nat:=175
abbrev Gg:Nat:=176
abbrev AT:Nat:=177
abbrev Gc:Nat:=178
abbrev Gj:Nat:=179
abbrev O5:Nat:=180
abbrev Pe:Nat:=181
abbrev Gd:Nat:=182
abbrev Pa:Nat:=183
abbrev AU:Nat:=184
abbrev N6:Nat:=185
abbrev AM:Nat:=186
abbrev N':Nat:=187
abbrev Pu:Nat:=188
abbrev OM:Nat:=189
abbrev sN:Nat:=192
abbrev Gi:Nat:=193
abbrev Ph:Nat:=194
abbrev Gf:Nat:=195
abbrev Gh:Nat:=196
abbrev Pd:Nat:=197
abbrev Pb:Nat:=198
abbrev Pc:Nat:=199
abbrev AS:Nat:=200
abbrev O9:Nat:=201
abbrev Pg:Nat:=202
abbrev Ga:Nat:=203
abbrev xO:Nat:=204
abbrev AQ:Nat:=205
abbrev AR:Nat:=206
abbrev O':Nat:=207
abbrev Pr:Nat:=208
abbrev Gb:Nat:=209
abbrev sM:Nat:=210
abbrev Pw:Nat:=211
abbrev eW:Nat:=212
abbrev Pp:Nat:=213
abbrev vf:Nat:=214
abbrev vh:Nat:=215
abbrev O6:Nat:=216
abbrev FP:Nat:=217
abbrev Pj:Nat:=219
abbrev O7:Nat:=220
abbrev Ge:Nat:=221
abbrev Pt:Nat:=222
abbrev ve:Nat:=223
abbrev Pv:Nat:=224
abbrev aa5:Nat:=225
abbrev OX:Nat:=226
abbrev FG:Nat:=227
abbrev NP:Nat:=228
abbrev NO:Nat:=229
abbrev Pq:Nat:=230
abbrev O8:Nat:=231
abbrev FR:Nat:=232
abbrev Pf:Nat:=237
abbrev Px:Nat:=238
abbrev aa3:Nat:=247
abbrev aaZ:Nat:=248
abbrev aaY:Nat:=249
namespace KV
abbrev S0:=ai (aA U Tryz.f5 [] []) [2] [(0,.I),(1,.I)]
abbrev t1:=aj S0
def ok:=aB t1 xG [.I,.I]
end KV
namespace w3
def L0:=bD (aA U Tryz.f110 [] []) [0,1,1,1,1] [(0,.s),(1,.I),(5,.I)]
abbrev t1:=bB L0
def cH:=bO t1 L0
def ok:=aB t1 NR [.s,.I]
end w3
namespace oJ
def L0:=bD (aA U Tryz.f27 [(6,lr 9)] []) [0,1,1,1,2] [(0,.s),(1,.s),(5,.I)]
abbrev t1:=bB L0
def cH:=bO t1 L0
def ok:=aB t1 FK [.s,.s]
end oJ
open Go Go.W Go.RowKit Go.Lib
def mf:gg U hO ez (.int .u8 0) 1 1:=⟨by kernel_rfl,by kernel_rfl,rfl,dl,dl⟩
def pK:gg U aeX bF (.int .i64 0) 1 8:=⟨by kernel_rfl,by kernel_rfl,rfl,dl,dl⟩
abbrev Bytes(w:I)(s:Sl)(bs:List UInt8):Prop:=Rd w s (bs.map gh)
abbrev mM(w:I)(s:Sl)(bs:List UInt8):Prop:=Ow w ez s (bs.map gh)
abbrev bJ(w:I)(s:Sl)(l:List Int):Prop:=Rd w s (l.map bX)
def Bytes.len{w:I}{s:Sl}{bs:List UInt8}(d:Bytes w s bs):s.n=bs.length:=by simpa using d.1
def bJ.len{w:I}{s:Sl}{bs:List Int}(d:bJ w s bs):s.n=bs.length:=by simpa using d.1
def Bytes.cell{w:I}{s:Sl}{bs:List UInt8}(d:Bytes w s bs){i j:Nat}{b:UInt8}(hi:bs[i]? =some b)(e:j=i *1){K:Addr->Prop}(h:∀p,s.a=some p->w.cell? (p.add j)=some (.int .u8 (b.toNat:Int))->K p):W.ea s.a K:=
 Rd.get d (i:=i) (v:=gh b) (by grind) e h
def bJ.cell{w:I}{s:Sl}{l:List Int}(d:bJ w s l){i j:Nat}{b:Int}(hi:l[i]? =some b)(e:j=i *1){K:Addr->Prop}(h:∀p,s.a=some p->w.cell? (p.add j)=some (.int .i64 b)->K p):W.ea s.a K:=
 Rd.get d (i:=i) (v:=bX b) (by grind) e h
def I'{ty:aD}{w:I}{s src:Sl}{xs h:List UInt8}(z:mM w s xs)(A:Bytes w src h)(C:xs.length+h.length<=140737488355328):
  ∃d e,(fL #[hO,hO] ty #[s.v,src.v]).run U w=.ok d.v e/\mM e d (xs++h)/\Fr (λb=>b∈aG s) w e/\(∀b∈aG d,b∈aG s\/w.heap.size<=b)/\(d.a=none->s.a=none/\h=[]):=by obtain⟨d,e,q,B,x,y,j⟩:=V8 (ty:=ty) mf z A (Wy _) (by grind);exact⟨d,e,q,by grind,x,y,λk=>⟨(j k).1,by simpa using(j k).2⟩⟩
def abR(w:I)(T:aD)(cs:List V)(d:cs.length<=1000000):Rd (w.alloc (.cells cs.toArray T)) ⟨some ⟨w.heap.size,0,none⟩,cs.length,cs.length⟩ cs:=(Ow.made w T cs _ rfl d).rd
def abQ(w:I)(b:UInt8):Bytes (w.alloc (.cells #[.int .u8 (b.toNat:Int)] ez)) ⟨some ⟨w.heap.size,0,none⟩,1,1⟩ [b]:=abR w ez [gh b] us
def bl(s:ByteArray):List UInt8:=s.data.toList
def ba(l:List UInt8):ByteArray:=⟨l.toArray⟩
def kE(l:List UInt8):bl (ba l)=l:=rfl
def jW(s:ByteArray):ba (bl s)=s:=rfl
def dd(s:ByteArray):(bl s).length=s.size:=rfl
def bC(l:List UInt8):(ba l).size=l.length:=by simp[ba,ByteArray.size]
def ad7(s:ByteArray):strCells s=(bl s).map gh:=by simp[strCells,bl,gh]
def tt:Tryz.prog.underlying eD=some .string:=by kernel_rfl
def Ip:Tryz.prog.underlying ez=some (.int .u8):=by kernel_rfl
def V9{ty:aD}{w:I}{s:Sl}{xs:List UInt8}(y:mM w s xs)(t:ByteArray)(hb:xs.length+t.size<=140737488355328):
  ∃d e,(fL #[hO,eD] ty #[s.v,.string t]).run U w=.ok d.v e/\mM e d (xs++bl t)/\Fr (λb=>b∈aG s) w e/\(∀b∈aG d,b∈aG s\/w.heap.size<=b):=by
 obtain⟨i,B,L,K,T⟩:=info_parts mf.hi;have G:s.n=xs.length:=by simpa using y.1
 have main:∀base,base<=w.heap.size->w.ownsRow base ez 1 s.v s.n (xs.map gh)->∃x e,(fL #[hO,eD] ty #[s.v,.string t]).run U w=.ok x e/\e.ownsRow base ez 1 x (s.n+t.size) (xs.map gh++strCells t)/\w.grownBy e s.v.ownBlock/\(x=.slice none 0 0↔s.v=.slice none 0 0/\t.size=0):=
  λbase S Q=>run_append_own_string (P:=U) w base hO eD ty ez i mf.ht tt B L K T s.v s.n (xs.map gh) Q t (by unfold maxLen;omega) io S
 obtain⟨x,e,z,H,aa,ao⟩:=main 0 (Nat.zero_le _) y.2;have hv:∃d:Sl,x=d.v/\d.n=s.n+t.size:=by
  rcases H.2 with⟨j,A⟩|⟨g,cap,cur,j,_⟩
  .grind
  .exact ⟨⟨_,_,_⟩,j,rfl⟩
 obtain⟨d,rfl,ac⟩:=hv;have Y:Fr (λb=>b∈aG s) w e:=by
  refine Fr.grown aa λg h=>?_;rw[Q']at h;cases J:s.a with
  |none=>grind
  |some p=>simp[J]at h;simp[aG,J,h]
 refine⟨d,e,z,⟨?_,?_⟩,Y,?_⟩
 .rw [ac,G];simp[dd]
 .have A:=H;rw[ad7,<-List.map_append]at A;unfold aJ;grind
 .intro g h;rcases y.2.cases with⟨rfl,hx⟩|⟨q,cur,F,Z,ad,an,W,ai⟩
  .obtain ⟨v2,w2,ag,ae,_,_⟩:=main w.heap.size (bz _) (by rw[hx];exact World.ownsRow_nil w _ _ _);have k:(Result.ok d.v e:Result V)=.ok v2 w2:=z.symm.trans ag;have N:=(Result.ok.inj k).1;subst N;rcases ae.2 with⟨j,_⟩|⟨O,aj,am,j,A,_⟩
   .have:d.a=none:=(Value.slice.inj j).1;simp[aG,this]at h
   .have:d.a=some ⟨O,0,none⟩:=(Value.slice.inj j).1;simp[aG,this]at h;omega
  .obtain ⟨ap,E,D⟩:=s;simp only at F ad W ai G;subst F;by_cases af:E+t.size<=D
   .have C:=run_append_room_string (P:=U) w hO eD ty ez i mf.ht tt B K q E D cur Z t af io;have k:=z.symm.trans C;have:d.a=some ⟨q,0,none⟩:=(Value.slice.inj (Result.ok.inj k).1).1;simp[aG,this]at h ⊢;omega
   .have holds:∀M u,(xs.map gh)[M]? =some u->w.cell? ((⟨q,0,none⟩:Addr).add M)=some u:=World.ownsRow.cells (g:=q) y.2 rfl;have C:=run_append_grow_string (P:=U) w hO eD ty ez i (.int .u8 0) mf.ht tt B L ⟨q,0,none⟩ E D (xs.map gh) (by grind) holds t io io (growslice_fits io (by grind));have k:=z.symm.trans C;have:d.a=some ⟨w.heap.size,0,none⟩:=(Value.slice.inj (Result.ok.inj k).1).1;simp[aG,this]at h;omega
def rZ{w:I}{s:Sl}{bs:List UInt8}(d:Bytes w s bs):(Go.convert hO eD s.v).run U w=.ok (.string (ba bs)) w:=by
 obtain⟨a,n,c⟩:=s;have h:=Bytes.len d;simp only at h;subst h;cases a with
 |none=>
  obtain⟨e,k⟩:=d.2.2.1 rfl;simp only at e k;obtain rfl:bs=[]:=List.eq_nil_of_length_eq_zero e;rw[run_convert_bytes_string (P:=U) w hO eD ez _ _ _ mf.ht Ip tt];rfl
 |some p=>
  refine run_convert_bytes_back (P:=U) w hO eD ez p c bs mf.ht Ip tt λj y=>?_;obtain⟨z,x,q⟩:=d.2.2.2 j (gh bs[j]) (by grind);cases x;exact q
def Ub(w:I)(t:ByteArray):∃e d,(Go.convert eD hO (.string t)).run U w=.ok e.v d/\Bytes d e (bl t)/\af w d/\(∀b∈aG e,w.heap.size<=b/\b<d.heap.size):=by
 refine⟨⟨some ⟨w.heap.size,0,none⟩,t.size,grownCap w t.size 0 ez⟩,_,run_bytes_of_string (P:=U) w eD hO ez t tt mf.ht Ip,⟨?_,?_,?_⟩,?_,?_⟩
 .simp [dd]
 .exact grownCap_ge w t.size 0 _
 .refine Row.r9 (T:=ez) (.inr ⟨w.heap.size,0,_,_,rfl,m8 w.drew _,λi v h=>?_⟩);rw[Nat.zero_add,bytesRow,Array.getElem?_append];have k:i<t.data.size:=by have:=(List.getElem?_eq_some_iff.1 h).1;simpa[bl]using this
  rw[ag (by grind)];simpa[bl,gh]using h
 .exact (Fr.drew _ w).gq (Fr.alloc _ _ _)
 .intro b j;simp[aG]at j;have:(w.drew.alloc (.cells (bytesRow t (grownCap w t.size 0 ez)) ez ((bytesRow t (grownCap w t.size 0 ez)).size,(bytesRow t (grownCap w t.size 0 ez)).size+1))).heap.size=w.heap.size+1:=size_alloc _ _;omega
def Hj{w:I}{s:Sl}{vs:List V}(k:s.n=vs.length)(j:s.n<=s.c)(e:s.a=none->s.c=0)(d:∀i v,vs[i]? =some v->∃p,s.a=some p/\w.cell? (p.add i)=some v):Rd w s vs:=
 ⟨k,j,λh=>⟨by grind,e h⟩,d⟩
def ArgNums(w:I)(s:Sl):Prop:=∃l:List Int,bJ w s l/\l.length<=9223372036854775807/\∀d∈l,-9223372036854775808<=d/\d<=9223372036854775807
def arg_nums_nil(w:I):ArgNums w ⟨none,0,0⟩:=⟨[],Rd.nil w,us,us⟩
def arg_nums(w:I)(x:Addr)(len cap:Nat)(zs:List Int)(A:len<=zs.length)(k:len<=cap)(z:cap<=maxLen)(j:∀i,i<zs.length->w.cell? (x.add i)=some (.int .i64 (zs.getD i 0)))(y:∀n∈zs,IntKind.min .i64<=n/\n<=IntKind.max .i64):ArgNums w ⟨some x,len,cap⟩:=by
 refine⟨zs.take len,Hj (by grind) k (λh=>by cases h) (λi v d=>?_),?_,λn q=>y n (List.mem_of_mem_take q)⟩
 .rw [List.getElem?_map,List.getElem?_take]at d;split at d
  .have e:i<zs.length:=io
   refine⟨x,rfl,?_⟩;rw[j i e,List.getD_eq_getElem?_getD];rw[a0 e]at d ⊢;simpa[bX]using d
  grind
 .have:len<=maxLen:=io
  unfold maxLen at this
  grind
def Vz(w:I)(bs:List UInt8):aC:=λr d=>∃s:Sl,r=ab s.v/\mM d s bs/\af w d/\∀b∈aG s,w.heap.size<=b
def fP(n m:Int):Int:=if n<0 then Int.tmod (0 - (n+1)) m else Int.tmod n m
def ly(n m:Int)(d:1<=m):0<=fP n m/\fP n m<m:=by
 unfold fP;split
 .exact ⟨Int.tmod_nonneg _ io,Int.tmod_lt_of_pos _ io⟩
 .exact ⟨Int.tmod_nonneg _ io,Int.tmod_lt_of_pos _ io⟩
abbrev cE(n:Int):Prop:=-9223372036854775808<=n/\n<=9223372036854775807
def Jb(n m:Int)(w:I)(q:1<=m)(d:cE n):
  ah U xG #[.int .i64 n,.int .i64 m] w λr h=>r=ab (.int .i64 (fP n m))/\w=h:=by
 obtain⟨j,k⟩:=d;refine KV.ok ?_;refine bm (λd=>?_) (λd=>?_)
 .have e:n<0:=by simpa using d
  refine⟨io,?_,rfl⟩;rw[show aE .i64 (n+1)=n+1 from bH _ io,show aE .i64 (0 - (n+1))=0 - (n+1)from bH _ io];unfold fP;rw[ag e]
 .have e:¬n<0:=by simpa using d
  refine⟨io,?_,rfl⟩;unfold fP;rw[ad e]
def adq{w:I}{s t:Sl}{a b:List Int}(z:bJ w s a)(A:bJ w t b)(H:a.length<=1000000000000):
  ah U FK #[s.v,t.v] w λr e=>r=ab (.bool (ak (a=b)))/\af w e:=by
 have j:=bJ.len z;have y:=bJ.len A;refine oJ.ok ?_;refine bm (λd=>?_) (λd=>?_)
 .refine ⟨?_,Fr.refl _ _⟩;have:a≠b:=λh=>by subst h;rw[j,y]at d;simp at d
  simp[this]
 .have hlen:a.length=b.length:=by rw[j,y]at d;simp at d;omega
  have main:∀(n i:Nat),i+n=a.length->a.take i=b.take i->∀e,af w e->oJ.L0 s t (i:Int) e λr e=>r=ab (.bool (ak (a=b)))/\af w e:=by
   intro n;induction n with
   |zero=>
    intro i D q e x;refine oJ.cH ?_;refine aT (by rw[j];simp;omega) ⟨?_,x⟩;rw[List.take_of_length_le io,List.take_of_length_le io]at q;simp[q]
   |succ n G=>
    intro i D q e x;have B:a[i]? =some a[i]:=a0 io;have C:b[i]? =some b[i]:=a0 io;refine oJ.cH ?_;have k:af w e.drew:=x.gq (Fr.drew _ _);refine aR (by rw[j];simp;omega) ⟨io,by rw[j];omega,bJ.cell (z.cB k) B us λp _ E=>⟨_,E,io,by rw[y];omega,bJ.cell (A.cB k) C us λJ _ F=>⟨_,F,bm (λd=>?_) (λd=>?_)⟩⟩⟩
    .refine ⟨?_,k⟩;have:a≠b:=λh=>by subst h;simp at d
     simp[this]
    .show oJ.L0 s t (aE .i64 ((i:Int)+1)) _ _;rw[show aE .i64 ((i:Int)+1)=((i+1:Nat):Int)from by rw[bH _ io];omega];refine G (i+1) io ?_ _ k;have h:a[i]=b[i]:=by simpa using d
     rw[ha,ha,B,C,q,h]
  exact main a.length 0 io us w (Fr.refl _ _)
def bZ{w:I}(D:List En)(e:∀d∈D,d.P w):O F0 w w [] D:=O.start D e
inductive Rx where
 |mk (k:Int) (lo hi:UInt8) (l:List Rx)
inductive J where
 |mk (k:Int) (lo hi:UInt8) (s:Sl) (l:List J)
namespace J
def k:J->Int|.mk k _ _ _ _=>k
def lo:J->UInt8|.mk _ lo _ _ _=>lo
def hi:J->UInt8|.mk _ _ hi _ _=>hi
def s:J->Sl|.mk _ _ _ s _=>s
def l:J->List J|.mk _ _ _ _ l=>l
mutual
def rx:J->Rx|.mk k lo hi _ l=>.mk k lo hi (ao l)
def ao:List J->List Rx
 |[]=>[]
 |t::l=>t.rx::ao l
end
mutual
def sz:J->Nat|.mk _ _ _ _ l=>1+a1 l
def a1:List J->Nat
 |[]=>0
 |t::l=>t.sz+a1 l
end
def c(t:J):List V:=[.int .i64 t.k,.int .u8 (t.lo.toNat:Int),.int .u8 (t.hi.toNat:Int),t.s.v]
abbrev v(t:J):V:=.agg #[.int .i64 t.k,.int .u8 (t.lo.toNat:Int),.int .u8 (t.hi.toNat:Int),t.s.v]
abbrev row(s:Sl)(l:List J):En:=.a9 4 s (l.flatMap c)
mutual
def P(w:I):J->Prop|.mk _ _ _ s l=>bA 4 w s (l.flatMap c)/\Ps w l
def Ps(w:I):List J->Prop
 |[]=>True
 |t::l=>P w t/\Ps w l
end
mutual
def fp:J->List Nat|.mk _ _ _ s l=>(row s l).fp++be l
def be:List J->List Nat
 |[]=>[]
 |t::l=>fp t++be l
end
def qP(t:J):(c t).length=4:=rfl
def hU(l:List J):(l.flatMap c).length=l.length *4:=pO c 4 qP l
def cw{w:I}{s:Sl}{l:List J}(d:bA 4 w s (l.flatMap c)):s.n=l.length:=by have:=d.1;rw[hU]at this;omega
def fY:∀l:List J,ao l=l.map rx
 |[]=>rfl
 |t::l=>by unfold ao;rw[fY l];rfl
mutual
def cv{w w':I}:∀(t:J),(∀b∈t.fp,b<w.heap.size->w'.heap[b]? =w.heap[b]?)->P w t->P w' t
 |.mk k lo hi s l,d,h=>by unfold fp at d;unfold P at h ⊢;exact⟨(row s l).st w w' (λb e=>d b (cm _ e)) h.1,keeps l (λb e=>d b (List.mem_append_right _ e)) h.2⟩
def keeps{w w':I}:∀(l:List J),(∀b∈be l,b<w.heap.size->w'.heap[b]? =w.heap[b]?)->Ps w l->Ps w' l
 |[],_,_=>by unfold Ps;trivial
 |t::l,d,h=>by unfold be at d;unfold Ps at h ⊢;exact⟨cv t (λb e=>d b (cm _ e)) h.1,keeps l (λb e=>d b (List.mem_append_right _ e)) h.2⟩
end
mutual
def lt{w:I}:∀(t:J),P w t->∀b∈t.fp,b<w.heap.size
 |.mk k lo hi s l,e,b,d=>by
  unfold fp at d;unfold P at e;rcases aP.1 d with d|d
  .exact (row s l).lt w e.1 b d
  .exact Fz l e.2 b d
def Fz{w:I}:∀(l:List J),Ps w l->∀b∈be l,b<w.heap.size
 |[],_,b,d=>by unfold be at d;cases d
 |t::l,e,b,d=>by
  unfold be at d;unfold Ps at e;rcases aP.1 d with d|d
  .exact lt t e.1 b d
  .exact Fz l e.2 b d
end
def P.cB{w w':I}{t:J}(d:P w t)(f:af w w'):P w' t:=cv t (λb _ e=>f.cv b e id) d
def Ps.cB{w w':I}{l:List J}(d:Ps w l)(f:af w w'):Ps w' l:=keeps l (λb _ e=>f.cv b e id) d
def Ps.get{w:I}:∀{l:List J},Ps w l->∀{i:Nat} {t:J},l[i]? =some t->P w t
 |[],_,i,t,d=>by simp at d
 |a::l,e,0,t,d=>by unfold Ps at e;simp at d;subst d;exact e.1
 |a::l,e,i+1,t,d=>by unfold Ps at e;exact Ps.get e.2 (by simpa using d)
def Ps.mem{w:I}{l:List J}(d:Ps w l){t:J}(e:t∈l):P w t:=by obtain⟨i,hi⟩:=List.mem_iff_getElem?.1 e;exact d.get hi
def jL{w:I}:∀{l:List J},(∀t∈l,P w t)->Ps w l
 |[],_=>by unfold Ps;trivial
 |t::l,d=>by unfold Ps;exact⟨d t us,jL λh e=>d h (by simp[e])⟩
def b0:∀{l:List J} {b:Nat},b∈be l↔∃t∈l,b∈t.fp
 |[],b=>by unfold be;simp
 |t::l,b=>by unfold be;rw[aP,b0];simp
def eM:∀{l:List J} {t:J},t∈l->t.sz<=a1 l
 |a::l,t,d=>by
  unfold a1;rcases aF.1 d with rfl|d
  .omega
  .have:=eM d;omega
def nA(t:J):1<=t.sz:=by cases t;unfold sz;omega
def gp:∀l:List J,l.length<=a1 l
 |[]=>us
 |t::l=>by have:=gp l;have:=nA t;unfold a1;simp only[List.length_cons];omega
def P.parts{w:I}{t:J}(d:P w t):bA 4 w t.s (t.l.flatMap c)/\Ps w t.l:=by cases t;unfold P at d;exact d
def gP{t:J}{b:Nat}:b∈t.fp↔b∈(row t.s t.l).fp\/b∈be t.l:=by cases t;unfold fp;exact aP
def iK(t:J):t.sz=1+a1 t.l:=by cases t;rfl
def fw(t:J):t.rx=.mk t.k t.lo t.hi (ao t.l):=by cases t;rfl
structure h6(w:I)(p:Addr)(i:Nat)(t:J):Prop where
 c0:w.cell? ((p.add (i *4)).add 0)=some (.int .i64 t.k)
 c1:w.cell? ((p.add (i *4)).add 1)=some (.int .u8 (t.lo.toNat:Int))
 c2:w.cell? ((p.add (i *4)).add 2)=some (.int .u8 (t.hi.toNat:Int))
 c3:w.cell? ((p.add (i *4)).add 3)=some t.s.v
def a4{w:I}{s:Sl}{l:List J}(e:bA 4 w s (l.flatMap c)){i:Nat}{t:J}(hi:l[i]? =some t){K:Addr->Prop}(h:∀p,s.a=some p->h6 w p i t->K p):ea s.a K:=
 gb.elem (f:=c) (sz:=4) qP io e.2.2 hi λp j d=>h p j ⟨d 0 _ rfl,d 1 _ rfl,d 2 _ rfl,d 3 _ rfl⟩
def again{w:I}{s:Sl}{l:List J}(q:bA 4 w s (l.flatMap c)){i:Nat}{t:J}(hi:l[i]? =some t){p:Addr}(y:s.a=some p):h6 w p i t:=by have h:=a4 q hi (K:=λe=>∃j,s.a=some j/\h6 w j i t) (λe d x=>⟨e,d,x⟩);rw[y]at h;obtain⟨e,d,k⟩:=h;cases d;exact k
end J
def _root_.Go.W.En.tree(t:J):En:=⟨mz t.fp,λh=>t.P h,λh k j e=>J.cv t (λb d=>j b (aU.2 d)) e,λh e b d=>J.lt t e b (aU.1 d),rf _⟩
def _root_.Go.W.En.trees(l:List J):En:=⟨mz (J.be l),λh=>J.Ps h l,λh k j e=>J.keeps l (λb d=>j b (aU.2 d)) e,λh e b d=>J.Fz l e b (aU.1 d),rf _⟩
namespace Rx
def k:Rx->Int|.mk k _ _ _=>k
def lo:Rx->UInt8|.mk _ lo _ _=>lo
def hi:Rx->UInt8|.mk _ _ hi _=>hi
def l:Rx->List Rx|.mk _ _ _ l=>l
mutual
def sz:Rx->Nat|.mk _ _ _ l=>1+a1 l
def a1:List Rx->Nat
 |[]=>0
 |t::l=>t.sz+a1 l
end
end Rx
mutual
def J.eu:∀t:J,t.rx.sz=t.sz
 |.mk e lo d s l=>by unfold J.rx Rx.sz J.sz;rw[J.ys l]
def J.ys:∀l:List J,Rx.a1 (J.ao l)=J.a1 l
 |[]=>rfl
 |t::l=>by unfold J.ao Rx.a1 J.a1;rw[J.eu t,J.ys l]
end
namespace D5
def ok:=aB (aA U Tryz.f248 [] []) aaZ [.I]
end D5
namespace D4
def ok:=aB (aA U Tryz.f249 [] []) aaY [.Y]
end D4
namespace Ks
def ok:=aB (aA U Tryz.f228 [] []) NP [.I,.I]
end Ks
namespace Kr
def ok:=aB (aA U Tryz.f229 [] []) NO [.Y,.Y]
end Kr
namespace wR
def L0:=bD (aA U Tryz.f227 [] []) [0,1,1,1,2] [(3,.I),(6,.s),(7,.I),(8,.I)]
abbrev t1:=bB L0
def cH:=bO t1 L0
def ok:=aB t1 FG [.s]
end wR
namespace R8
def aq:=aB (aA U Tryz.f212 [(1,ls [0,1,2,3,5,6,7,8,10,11,12,13,4,9,14,15,16,17])] [2,3]) eW [.a 4,.I,.Y,.Y,.s,.a 4,.I,.Y,.Y,.s]
end R8
namespace yw
def aX:=bD (aA U Tryz.f230 [] [8,9]) [0,1,1,1,1] [(0,.s),(1,.s),(2,.v [.g eW 0 0]),(11,.s),(12,.I),(13,.I)]
abbrev t1:=bB aX
def bR:=bO t1 aX
def aq:=aB t1 Pq [.s,.s,.g eW 0 0]
end yw
namespace Sb
def aq:=aB (aA U Tryz.f210 [] [2,3]) sM [.a 4,.I,.Y,.Y,.s,.a 4,.I,.Y,.Y,.s]
end Sb
def cI(a b:Int):Int:=if a<b then -1 else if b<a then 1 else 0
def ep:List Int->Int
 |[]=>0
 |c::l=>if c≠0 then c else ep l
def W7(a b:Int)(w:I):ah U NP #[.int .i64 a,.int .i64 b] w λr k=>r=ab (.int .i64 (cI a b))/\af w k:=by
 refine Ks.ok (D5.ok ⟨_,rfl,D5.ok ⟨_,rfl,?_⟩⟩);have h:(a !=a)=false:=us
 have j:(b !=b)=false:=us
 rw[h,j];refine aT rfl (aT rfl (aS (λd=>⟨?_,Fr.refl _ _⟩) (λd=>aS (λe=>⟨?_,Fr.refl _ _⟩) (λe=>⟨?_,Fr.refl _ _⟩))))
 .unfold cI;rw[ag d]
 .unfold cI;rw[ad d,ag e]
 .unfold cI;rw[ad d,ad e]
def J4(a b:Int)(w:I):ah U NO #[.int .u8 a,.int .u8 b] w λr k=>r=ab (.int .i64 (cI a b))/\af w k:=by
 refine Kr.ok (D4.ok ⟨_,rfl,D4.ok ⟨_,rfl,?_⟩⟩);have h:(a !=a)=false:=us
 have j:(b !=b)=false:=us
 rw[h,j];refine aT rfl (aT rfl (aS (λd=>⟨?_,Fr.refl _ _⟩) (λd=>aS (λe=>⟨?_,Fr.refl _ _⟩) (λe=>⟨?_,Fr.refl _ _⟩))))
 .unfold cI;rw[ag d]
 .unfold cI;rw[ad d,ag e]
 .unfold cI;rw[ad d,ad e]
def ab1{w:I}{s:Sl}{l:List Int}(k:bJ w s l)(A:l.length<=1000000):ah U FG #[s.v] w λr j=>r=ab (.int .i64 (ep l))/\af w j:=by
 refine wR.ok ?_;have B:=bJ.len k;have loop:∀(d i:Nat),i+d=l.length->ep (l.drop i)=ep l->wR.L0 0 s (s.n:Int) (i:Int) w λr j=>r=ab (.int .i64 (ep l))/\af w j:=by
  intro d;induction d with
  |zero=>
   intro i x e;rw[dH io]at e;exact wR.cH (aT (a7 io) ⟨by rw[<-e];rfl,Fr.refl _ _⟩)
  |succ d z=>
   intro i x e;have q:l[i]? =some (l[i]'io):=a0 io;rw[dG io]at e;generalize l[i]'io=c at q e;refine wR.cH (aR (a6 io) ⟨io,io,bJ.cell k q us λp _ y=>⟨c,y,cq (λh=>?_) (λh=>?_)⟩⟩)
   .refine ⟨?_,Fr.refl _ _⟩;rw[<-e];unfold ep;rw[ag h]
   .rw [bt _ io];refine z (i+1) io ?_;rw[<-e];conv=>rhs;unfold ep
    rw[ad (by simpa using h)]
 exact loop l.length 0 io us
def abF(w:I)(l:List Int)(n:Nat)(d:n=l.length):bJ (w.alloc (.cells (l.map bX).toArray bF)) ⟨some (aa w.heap.size),n,n⟩ l:=
 ⟨by simp[d],bz _,(Row.made w bF n n (l.map bX)).r9⟩
section
variable {M:Nat->Prop} {w0 w:I} {L D:List En} {bs:List Nat}
def _root_.Go.W.O.or(H:O M w0 w L D){l:List Int}{n:Nat}{K:aC}(k:n=l.length)(j:l.length<=1000000)(h:∀d,O M w0 d L D->K (ab (.int .i64 (ep l))) d):
  dh w (.cells (l.map bX).toArray bF) λx=>e8 bs U FG #[.slice (some (Addr.mk w.heap.size 0 none)) n n] x K:=
 (H.cB (Fr.alloc _ _ _)).av (ab1 (s:=⟨some (aa w.heap.size),n,n⟩) (abF w l n k) j) λ_ d q e=>q▸h d e
end
mutual
def bj:Rx->Rx->Int
 |.mk e lo d l,b=>if ep [cI e b.k,cI lo.toNat b.lo.toNat,cI d.toNat b.hi.toNat]≠0 then ep [cI e b.k,cI lo.toNat b.lo.toNat,cI d.toNat b.hi.toNat]else cmpL l b.l
def cmpL:List Rx->List Rx->Int
 |[],[]=>0
 |[],_::_=>-1
 |_::_,[]=>1
 |a::l,b::m=>if bj a b≠0 then bj a b else cmpL l m
end
abbrev IE(n:Nat):Prop:=∀(a b:J) (w:I),a.sz<=n->a.P w->b.P w->ah U eW #[a.v,b.v] w λr d=>r=ab (.int .i64 (bj a.rx b.rx))/\af w d
def WC(n:Nat)(hn:n<=1000000)(W:IE n)(h lb:List J)(j k:Sl)(w:I)(G:bA 4 w j (h.flatMap J.c))(H:bA 4 w k (lb.flatMap J.c))(Z:J.Ps w h)(pb:J.Ps w lb)(hs:J.a1 h<=n):
  ah U Pq #[j.v,k.v,.func (.func eW) #[] #[]] w λr E=>r=ab (.int .i64 (cmpL (J.ao h) (J.ao lb)))/\af w E:=by
 have na:=J.cw G;have nb:=J.cw H;have hl:=J.gp h;have loop:∀(d i:Nat) (A:I),i+d=h.length->i<=lb.length->cmpL (J.ao (h.drop i)) (J.ao (lb.drop i))=cmpL (J.ao h) (J.ao lb)->O F0 w A [] [J.row j h,J.row k lb,.trees h,.trees lb]->
   yw.aX j k j (j.n:Int) (i:Int) A λr E=>r=ab (.int .i64 (cmpL (J.ao h) (J.ao lb)))/\af w E:=by
  intro d;induction d with
  |zero=>
   intro i A P Q e q;rw[dH io]at e;refine yw.bR (aT (a7 io) (aS (λM=>⟨?_,q.fr⟩) (λM=>⟨?_,q.fr⟩)))
   .rw [dG io]at e;rw[<-e];rfl
   .rw [dH io]at e;rw[<-e];rfl
  |succ d Y=>
   intro i A P Q e q;have y:h[i]? =some (h[i]'io):=a0 io;rw[dG io]at e;generalize h[i]'io=a at y e;refine yw.bR (aR (a6 io) ⟨io,io,?_⟩);refine J.a4 (q.getD 0) y λp hp c=>⟨_,_,_,_,c.c0,c.c1,c.c2,c.c3,q.aw λb8 w2 B=>aS (λN=>B.ae λw3 x=>⟨?_,x.fr⟩) (λS=>⟨io,io,?_⟩)⟩
   .have ac:(k.n:Int)<=(i:Int):=N;rw[dH (by omega:lb.length<=i)]at e;rw[<-e];rfl
   .have ai:¬(k.n:Int)<=(i:Int):=S;have z:lb[i]? =some (lb[i]'io):=a0 io;rw[dG (by omega:i<lb.length)]at e;generalize lb[i]'io=b at z e;refine J.a4 (B.getD 1) z λaj T _=>B.ae λw3 x=>?_;have c:=J.again (x.getD 1) z T;refine⟨_,_,_,_,c.c0,c.c1,c.c2,c.c3,x.aw λb9 w4 K=>K.ae λw5 C=>?_⟩;have am:=J.eM (ay y);refine C.av (W a b w5 io (J.Ps.get (C.getD 2) y) (J.Ps.get (C.getD 3) z)) ?_;rintro _ w6 rfl F;have L:cmpL (J.ao (a::h.drop (i+1))) (J.ao (b::lb.drop (i+1)))=if bj a.rx b.rx≠0 then bj a.rx b.rx else cmpL (J.ao (h.drop (i+1))) (J.ao (lb.drop (i+1))):=rfl;rw[L]at e;refine⟨_,rfl,cq (λD=>⟨?_,F.fr⟩) (λD=>?_)⟩
    .rw [ag D]at e;rw[e]
    .rw [ad (by simpa using D)]at e;rw[bt _ io];exact Y (i+1) w6 io io e (F.take 0)
 exact yw.aq (loop h.length 0 w io io us (bZ _ (by
  intro aa e;simp only[aF,aW,a2]at e;rcases e with rfl|rfl|rfl|rfl
  .exact G
  .exact H
  .exact Z
  .exact pb)))
def Jy:∀n:Nat,n<=1000000->IE n
 |0,_=>λa b L q _ _=>absurd q (by have:=J.nA a;omega)
 |n+1,Y=>λa b L q x z=>by
  have K:=Jy n io;have Z:=J.iK a;have T:=x.parts;have W:=z.parts;refine R8.aq ((bZ [.tree a,.tree b] (by
   intro e w;simp only[aF,aW,a2]at w;rcases w with rfl|rfl
   .exact x
   .exact z)).aw λQ w1 B=>B.aw λS w2 C=>C.ae λM D=>D.av (W7 _ _ M) ?_)
  rintro _ N rfl E;refine⟨_,rfl,E.av (J4 _ _ N) ?_⟩;rintro _ O rfl F;refine⟨_,rfl,F.av (J4 _ _ O) ?_⟩;rintro _ w6 rfl G;refine⟨_,rfl,G.or (l:=[cI a.k b.k,cI a.lo.toNat b.lo.toNat,cI a.hi.toNat b.hi.toNat]) rfl us λj d=>?_⟩;have e:bj a.rx b.rx=if ep [cI a.k b.k,cI a.lo.toNat b.lo.toNat,cI a.hi.toNat b.hi.toNat]≠0 then ep [cI a.k b.k,cI a.lo.toNat b.lo.toNat,cI a.hi.toNat b.hi.toNat]else cmpL (J.ao a.l) (J.ao b.l):=by rw[J.fw a,J.fw b];unfold bj;rfl
  refine⟨_,rfl,cq (λh=>⟨?_,d.fr⟩) (λh=>?_)⟩
  .rw [e,ag h]
  .have y:a.P j:=d.getD 0;have A:b.P j:=d.getD 1;refine d.av (WC n io K a.l b.l a.s b.s j y.parts.1 A.parts.1 y.parts.2 A.parts.2 io) ?_;rintro _ w8 rfl H;refine⟨_,rfl,?_,H.fr⟩;rw[e,ad (by simpa using h)]
def Jx(a b:J)(w:I)(d:a.sz<=1000000)(e:a.P w)(h:b.P w):ah U eW #[a.v,b.v] w λr j=>r=ab (.int .i64 (bj a.rx b.rx))/\af w j:=Jy 1000000 (bz _) a b w d e h
def wL(a b:J)(w:I)(k:a.sz<=1000000)(q:a.P w)(x:b.P w):ah U sM #[a.v,b.v] w λr y=>r=ab (.bool (bj a.rx b.rx==0))/\af w y:=by
 refine Sb.aq ((bZ [.tree a,.tree b] (by
  intro C e;simp only[aF,aW,a2]at e;rcases e with rfl|rfl
  .exact q
  .exact x)).aw λA D h=>h.aw λB z d=>d.av (Jx a b z k (d.getD 0) (d.getD 1)) ?_)
 rintro _ E rfl j;exact⟨_,rfl,rfl,j.fr⟩
namespace yh
def cA:=bD (aA U Tryz.f201 [] [2]) [0,1,1,1,2] [(1,.I),(2,.l [.I,.Y,.Y,.s] aO),(5,.I)]
abbrev t1:=bB cA
abbrev bL:=ai t1 [3] [(1,.I)]
abbrev t2:=aj bL
def dU:=bO t2 cA
abbrev aV:=ai t2 [2] [(1,.I),(2,.l [.I,.Y,.Y,.s] aO)]
abbrev t3:=aj aV
def aq:=aB t3 O9 [.a 4,.I,.Y,.Y,.s,.I]
end yh
namespace SB
def aq:=aB (aA U Tryz.f179 [] [1]) Gj [.a 4,.I,.Y,.Y,.s]
end SB
namespace oc
abbrev P0:Ps:=[]
abbrev aV:=ai (aA U Tryz.f202 [] [1,4]) [0,1,1,1,1] P0
abbrev t1:=aj aV
abbrev P1:Ps:=[(1,.l [.I,.Y,.Y,.s] aO)]
abbrev bL:=ai t1 [0,1,1,1,1,1,2] P1
abbrev t2:=aj bL
def iQ:=bD t2 [0,1,1,1,3] [(52,.s),(53,.I),(54,.I)]
abbrev t3:=bB iQ
def mQ:=bO t3 iQ
abbrev gw:=ai t3 [3] P1
abbrev t4:=aj gw
abbrev nO:=ai t4 [0,1,7,1,1,1,2] P1
abbrev t5:=aj nO
abbrev rO:=ai t5 [8,1,1,1,2] P0
abbrev t6:=aj rO
abbrev P2:Ps:=[(1,.l [.I,.Y,.Y,.s] aO),(19,.I)]
abbrev lu:=ai t6 [6,1,1,1,2] P2
abbrev t7:=aj lu
abbrev cM:=ai t7 [2,1,1,1,2] P2
abbrev t8:=aj cM
abbrev bg:=ai t8 [2] P1
abbrev t9:=aj bg
def aq:=aB t9 Pg [.a 4,.I,.Y,.Y,.s]
end oc
namespace R'
def aq:=aB (aA U Tryz.f180 [] [1]) O5 [.a 4,.I,.Y,.Y,.s]
end R'
namespace yg
def aX:=bD (aA U Tryz.f203 [] [1,2,5]) [0,1,1,1,2] [(1,.l [.I,.Y,.Y,.s] aO),(2,.l [.I,.Y,.Y,.s] aO),(3,.s),(7,.s),(8,.I),(9,.I)]
abbrev t1:=bB aX
def bR:=bO t1 aX
def aq:=aB t1 Ga [.a 4,.I,.Y,.Y,.s]
end yg
namespace Sn
def aq:=aB (aA U Tryz.f181 [] [1,2]) Pe [.a 4,.I,.Y,.Y,.s]
end Sn
def gT{w:I}{t:J}(e:t.P w):O F0 w w [] [.tree t]:=bZ _ (by intro h d;simp only[aF,aW,a2]at d;subst d;exact e)
def gv(w:I)(x:Rx)(r:cZ)(w':I):Prop:=∃t:J,r=ab t.v/\t.rx=x/\t.P w'/\∀b∈t.fp,w.heap.size<=b
section
variable {M:Nat->Prop} {w0 w:I} {L D:List En} {bs:List Nat}
def _root_.Go.W.O.th(H:O M w0 w L D)(i j:Nat){ts:List J}{t:J}(hi:D[i]? =some (.trees ts):=by rfl)(h:D[j]? =some (.tree t):=by rfl):O M w0 w L (D++[.trees (ts++[t])]):=by
 refine H.eO _ (Fr.refl _ _) (J.jL λk d=>?_) λb q=>.inr (.inr ?_)
 .rcases aP.1 d with d|d
  .exact J.Ps.mem (H.getD i hi) d
  .simp at d;subst d;exact H.getD j h
 .obtain ⟨k,d,e⟩:=J.b0.1 (aU.1 q);rcases aP.1 d with d|d
  .exact ⟨_,ay hi,aU.2 (J.b0.2 ⟨k,d,e⟩)⟩
  .simp at d;rw[d]at e;exact⟨_,ay h,aU.2 e⟩
def gY{e:aD}{s:Sl}{vs:List V}{b:Nat}(d:b∈(En.a9 4 s vs).fp):b∈(En.row e 4 s vs).fp:=by
 have:b∈(if vs=[]then[]else aG s):=d;split at this
 .grind
 .exact this
def _root_.Go.W.O.td(H:O M w0 w L D)(i j:Nat){e:aD}{s:Sl}{ts:List J}(k:Int)(lo hi:UInt8)(q:L[i]? =some (.row e 4 s (ts.flatMap J.c)):=by rfl)(x:D[j]? =some (.trees ts):=by rfl):O M w0 w (L.eraseIdx i) (D++[J.row s ts]++[.tree (.mk k lo hi s ts)]):=by
 have y:=H.freeze i (J.row s ts) q (aJ.a9 (H.get i q)) λb h=>gY h;refine y.eO _ (Fr.refl _ _) ?_ λb h=>.inr (.inr ?_)
 .show J.P w _;unfold J.P;exact⟨aJ.a9 (H.get i q),H.getD j x⟩
 .have d:=aU.1 h;unfold J.fp at d;rcases aP.1 d with d|d
  .grind
  .exact ⟨_,cm _ (ay x),aU.2 d⟩
end
def uq(l:List J):∀u∈l.flatMap J.c,u.oneCell'=true:=λu e=>by obtain⟨h,_,d⟩:=List.mem_flatMap.1 e;simp only[J.c,aF,aW,a2]at d;rcases d with rfl|rfl|rfl|rfl<;>rfl
def sa:gg U jh aO (.agg #[.int .i64 0,.int .u8 0,.int .u8 0,.slice none 0 0]) 4 40:=⟨by kernel_rfl,by kernel_rfl,rfl,dl,dl⟩
def nW(l:List J)(t:J):(l++[t]).flatMap J.c=l.flatMap J.c++t.c:=us
def k0(l m:List J):J.ao (l++m)=J.ao l++J.ao m:=by simp[J.fY]
def vX:∀(l m:List J),J.a1 (l++m)=J.a1 l+J.a1 m
 |[],m=>by simp[J.a1]
 |t::l,m=>by show t.sz+J.a1 (l++m)=t.sz+J.a1 l+J.a1 m;rw[vX l m];omega
def BZ(l:List J)(i:Nat):J.a1 (l.take i)<=J.a1 l:=by have:=vX (l.take i) (l.drop i);rw[List.take_append_drop]at this;omega
abbrev Vq(n:Nat):Prop:=∀(t:J) (x:Nat) (w:I),t.sz<=n->x<=1000000->t.P w->ah U O9 #[t.v,.int .i64 (x:Int)] w λr d=>r=ab (.int .i64 (max ((x:Int) - t.sz) (-1)))/\af w d
def JJ:∀n:Nat,n<=1000000->Vq n
 |0,_=>λt x z A _ _=>absurd A (by have:=J.nA t;omega)
 |n+1,Z=>λt x z A hx S=>by
  have M:=JJ n io;have hs:=J.iK t;have Y:=J.gp t.l;have loop:∀(d i:Nat) (y:Int) (j:Nat) (e:I),i+d=t.l.length->-1<=y->y<=1000000->max (y - J.a1 (t.l.drop i)) (-1)=max ((x:Int) - t.sz) (-1)->O F0 z e [.g j] [.tree t]->
    yh.cA y j t.k t.lo.toNat t.hi.toNat t.s (i:Int) e λr T=>r=ab (.int .i64 (max ((x:Int) - t.sz) (-1)))/\af z T:=by
   intro d;induction d with
   |zero=>
    intro i y j e G H L q h;have Q:=J.cw (show t.P e from h.getD 0).parts.1;rw[dH io]at q;refine yh.dU (aT (a7 io) ⟨?_,h.fr⟩);rw[<-q];congr 2;simp only[J.a1];omega
   |succ d N=>
    intro i y j e G H L q h;have Q:=J.cw (show t.P e from h.getD 0).parts.1;have w:t.l[i]? =some (t.l[i]'io):=a0 io;rw[dG io]at q;generalize t.l[i]'io=a at w q;have aa:=J.eM (ay w);unfold J.a1 at q;refine yh.dU (aR (a6 io) (aS (λB=>⟨io,io,?_⟩) (λB=>⟨?_,h.fr⟩)))
    .have C:t.P e:=h.getD 0;refine J.a4 C.parts.1 w λp hp c=>⟨_,_,_,_,c.c0,c.c1,c.c2,c.c3,?_⟩;have K:0<=y:=B;obtain⟨m,rfl⟩:=Int.eq_ofNat_of_zero_le K;refine h.av (M a m e io io (C.parts.2.get w)) ?_;rintro _ W rfl E;refine⟨_,rfl,?_⟩;rw[bt _ io];refine N (i+1) _ j W io io io ?_ E;omega
    grind
  have F:aE .i64 ((x:Int) - 1)=(x:Int) - 1:=bH _ io;refine yh.aq ((gT S).aw λj e D=>?_);rw[F];refine loop t.l.length 0 _ j e io io io ?_ D
  grind
def DR(t:J)(w:I)(h:t.sz<=1000000)(j:t.P w):ah U Gj #[t.v] w λr k=>r=ab (.bool (ak (64<t.sz)))/\af w k:=by
 refine SB.aq ((gT j).aw λx q d=>d.av (JJ 1000000 (bz _) t 64 q h io (d.getD 0)) ?_);rintro _ y rfl e;refine⟨_,rfl,?_,e.fr⟩;congr 2
 grind
mutual
def cU:Rx->Bool
 |.mk d lo e l=>!(d !=2&&(lo !=0||e !=0))&&(if d=0\/d=1 then l.isEmpty else if d=2 then l.isEmpty&&ak (lo.toNat<=e.toNat)else if d=3\/d=4\/d=5 then dX l else if d=6\/d=7 then l.length==1&&dX l else false)
def dX:List Rx->Bool
 |[]=>true
 |t::l=>cU t&&dX l
end
abbrev VD(n:Nat):Prop:=∀(t:J) (w:I),t.sz<=n->t.P w->ah U Pg #[t.v] w λr d=>r=ab (.bool (cU t.rx))/\af w d
def Ej(l:List J):(J.ao l).isEmpty=((l.length:Int)==0):=by
 rw[J.fY];cases l with
 |nil=>rfl
 |cons a l=>
  grind
def JU:∀n:Nat,n<=1000000->VD n
 |0,_=>λt q S _=>absurd S (by have:=J.nA t;omega)
 |n+1,C=>λt q S pt=>by
  have ih:=JU n io;have hs:=J.iK t;have hl:=J.gp t.l;have K:=J.cw pt.parts.1;have loop:∀(b:Bool),cU t.rx=(b&&dX (J.ao t.l))->b=true->∀(d i:Nat) (h:I),i+d=t.l.length->dX (J.ao (t.l.drop i))=dX (J.ao t.l)->O F0 q h [] [.tree t]->
    oc.iQ t.s (t.s.n:Int) (i:Int) h λr j=>r=ab (.bool (cU t.rx))/\af q j:=by
   intro b x aa d;subst aa;rw[Bool.true_and]at x;induction d with
   |zero=>
    intro i h ad y A;rw[dH io]at y;refine oc.mQ (aT (a7 io) ⟨?_,A.fr⟩);rw[x,<-y];rfl
   |succ d aj=>
    intro i h ad y A;have B:t.l[i]? =some (t.l[i]'io):=a0 io;rw[dG io]at y;generalize t.l[i]'io=a at B y;have an:=J.eM (ay B);have T:(cU a.rx&&dX (J.ao (t.l.drop (i+1))))=dX (J.ao t.l):=y;have am:t.P h:=A.getD 0;refine oc.mQ (aR (a6 io) ⟨io,io,?_⟩);refine J.a4 am.parts.1 B λp hp c=>⟨_,_,_,_,c.c0,c.c1,c.c2,c.c3,A.aw λb4 w2 H2=>H2.ae λw3 M=>M.av (ih a w3 io ((show t.P w3 from M.getD 0).parts.2.get B)) ?_⟩;rintro _ w4 rfl N;refine⟨_,rfl,eS (λhf=>⟨?_,N.fr⟩) (λht=>?_)⟩
    .grind
    .rw [bt _ io];rw[ht,Bool.true_and]at T;exact aj (i+1) w4 io T (N.take 0)
  have er:=J.fw t;have nz:∀z:UInt8,((z.toNat:Int) !=0)=(z !=0):=λz=>by
   by_cases W:z=0
   .subst W;rfl
   .have H:(z !=0)=true:=by grind
    rw[H];have:z.toNat≠0:=λh0=>W (UInt8.toNat_inj.1 (by grind))
    grind
  refine oc.aq ((gT pt).aw λw h L=>?_);have out:∀b:Bool,cU t.rx=b->(Ending.returned (.bool b)=ab (.bool (cU t.rx))/\af q h):=λb x=>⟨by rw[x],L.fr⟩;have F:cU t.rx=dX (J.ao t.l)->oc.gw w t.k t.lo.toNat t.hi.toNat t.s h λr j=>r=ab (.bool (cU t.rx))/\af q j:=λx=>loop true (by grind) rfl t.l.length 0 h io us (L.take 0);have s1:(t.k !=2&&(t.lo !=0||t.hi !=0))=false->oc.bg w t.k t.lo.toNat t.hi.toNat t.s h λr j=>r=ab (.bool (cU t.rx))/\af q j:=by
   intro h0;have eg:cU t.rx=(if t.k=0\/t.k=1 then(J.ao t.l).isEmpty else if t.k=2 then(J.ao t.l).isEmpty&&ak (t.lo.toNat<=t.hi.toNat)else if t.k=3\/t.k=4\/t.k=5 then dX (J.ao t.l)else if t.k=6\/t.k=7 then(J.ao t.l).length==1&&dX (J.ao t.l)else false):=by
    rw[er];unfold cU
    grind
   have s2:t.k=0\/t.k=1->oc.bL w t.k t.lo.toNat t.hi.toNat t.s h λr j=>r=ab (.bool (cU t.rx))/\af q j:=λe=>out _ (by rw[eg,ag e,Ej,K]);have s7:t.k=6\/t.k=7->oc.nO w t.k t.lo.toNat t.hi.toNat t.s h λr j=>r=ab (.bool (cU t.rx))/\af q j:=λe=>by
    have e7:cU t.rx=((J.ao t.l).length==1&&dX (J.ao t.l)):=by grind
    have el:(J.ao t.l).length=t.s.n:=by rw[J.fY];grind
    refine cq (λH=>out false ?_) (λH=>F ?_)
    .grind
    grind
   have s6:t.k≠0->t.k≠1->t.k≠2->t.k≠3->t.k≠4->t.k≠5->oc.lu w t.k t.lo.toNat t.hi.toNat t.s t.k h λr j=>r=ab (.bool (cU t.rx))/\af q j:=λD E Y Z k4 k5=>
    ax (λe=>aR (by grind) (s7 (.inl e))) (λk6=>ax (λe=>s7 (.inr e)) (λk7=>out false (by grind)))
   have G:t.k=3\/t.k=4\/t.k=5->cU t.rx=dX (J.ao t.l):=λe=>by grind
   have s3:t.k≠0->t.k≠1->oc.cM w t.k t.lo.toNat t.hi.toNat t.s t.k h λr j=>r=ab (.bool (cU t.rx))/\af q j:=λD E=>
    ax (λe=>by
     have Q:cU t.rx=((J.ao t.l).isEmpty&&ak (t.lo.toNat<=t.hi.toNat)):=by grind
     refine bm (λC=>out _ ?_) (λC=>out false ?_)
     .rw [Q,Ej,<-K,C,Bool.true_and]
      grind
     .rw [Q,Ej,<-K,C];rfl)
    (λY=>ax (λe=>aR (by grind) (F (G (.inl e)))) (λZ=>ax (λe=>aR (by grind) (F (G (.inr (.inl e))))) (λk4=>ax (λe=>F (G (.inr (.inr e)))) (λk5=>s6 D E Y Z k4 k5))))
   exact ax (λe=>aR (by grind) (s2 (.inl e))) (λD=>ax (λe=>s2 (.inr e)) (λE=>s3 D E))
  have bad:(t.k !=2&&(t.lo !=0||t.hi !=0))=true->cU t.rx=false:=λx=>by
   rw[er];unfold cU
   grind
  refine bm (λh2=>bm (λai=>out false (bad ?_)) (λai=>bm (λac=>out false (bad ?_)) (λac=>s1 ?_))) (λh2=>s1 ?_)
  .grind
  .grind
  .grind
  grind
def iM(x:Rx):Int:=if 64<x.sz then 4 else if cU x then 0 else 1
def DA(t:J)(w:I)(q:t.sz<=1000000)(x:t.P w):ah U O5 #[t.v] w λr y=>r=ab (.int .i64 (iM t.rx))/\af w y:=by
 refine R'.aq ((gT x).aw λB z j=>j.av (DR t z q (j.getD 0)) ?_);rintro _ A rfl e;refine⟨_,rfl,aS (λd=>⟨?_,e.fr⟩) (λd=>e.av (JU 1000000 (bz _) t A q (e.getD 0)) ?_)⟩
 .unfold iM;rw[J.eu,ag d]
 rintro _ C rfl k;refine⟨_,rfl,eS (λh=>⟨?_,k.fr⟩) (λh=>⟨?_,k.fr⟩)⟩
 .unfold iM;rw[J.eu,ad d,h];rfl
 .unfold iM;rw[J.eu,ad d,h];rfl
abbrev Vr(n:Nat):Prop:=∀(t:J) (w:I),t.sz<=n->t.P w->ah U Ga #[t.v] w λr d=>gv w t.rx r d/\af w d
def JI:∀n:Nat,n<=1000000->Vr n
 |0,_=>λt A G _=>absurd G (by have:=J.nA t;omega)
 |n+1,hn=>λt A G L=>by
  have ih:=JI n io;have hs:=J.iK t;have hl:=J.gp t.l;have nr:=J.cw L.parts.1;have loop:∀(d i:Nat) (ks:List J) (sl:Sl) (j q:Nat) (x:I),i+d=t.l.length->ks.length=i->J.ao ks=J.ao (t.l.take i)->(∀b∈J.be ks,A.heap.size<=b)->O F0 A x [.g j,.g q,.row aO 4 sl (ks.flatMap J.c)] [.tree t,.trees ks]->
    yg.aX j t.k t.lo.toNat t.hi.toNat t.s q 0 0 0 ⟨none,0,0⟩ sl t.s (t.s.n:Int) (i:Int) x λr M=>gv A t.rx r M/\af A M:=by
   intro d;induction d with
   |zero=>
    intro i ks sl j q x Y Z H K B;refine yg.bR (aT (a7 io) (B.ae λD h=>⟨⟨.mk t.k t.lo t.hi sl ks,rfl,?_,?_,λb e=>?_⟩,h.fr⟩))
    .rw [J.fw t];unfold J.rx
     grind
    .unfold J.P;exact⟨aJ.a9 (h.get 2),h.getD 1⟩
    .unfold J.fp at e;rcases aP.1 e with e|e
     .exact (h.new _ (ay (i:=2) rfl) b (gY e)).resolve_right id
     grind
   |succ d aa=>
    intro i ks sl j q x Y Z H K B;have z:t.l[i]? =some (t.l[i]'io):=a0 io;generalize t.l[i]'io=a at z;have ag:=J.eM (ay z);have ac:t.P x:=B.getD 0;refine yg.bR (aR (a6 io) ⟨io,io,?_⟩);refine J.a4 ac.parts.1 z λp hp c=>⟨_,_,_,_,c.c0,c.c1,c.c2,c.c3,B.aw λb5 D h=>h.ae λN y=>y.g5 (ih a N io ((show t.P N from y.getD 0).parts.2.get z)) ?_⟩;rintro _ w4 ⟨u,rfl,hu,pu,F⟩ _ Q;have C:=Q.rd (.tree u) pu λb e=>F b (aU.1 e);have ad:=J.cw (C.get 2:aJ _ _ _ _ _).a9;refine⟨_,_,_,_,rfl,C.jo 2 sa rfl (λs' w5 T=>?_) io⟩;have W:=(T.th 1 2).take 3;rw[bt _ io];refine aa (i+1) (ks++[u]) s' j q w5 io (by grind) ?_ ?_ ?_
    .rw [k0,H,ha,z,k0];simp[J.ao,hu]
    .intro b e;obtain⟨t',w,E⟩:=J.b0.1 e;rcases aP.1 w with w|w
     .exact K b (J.b0.2 ⟨t',w,E⟩)
     .simp at w;rw[w]at E;exact bI y.fr.size (F b E)
    .rw [nW];exact W.forget _ us
  refine yg.aq ((gT L).aw λj x S=>S.aw λq D h=>?_);have y:=h.iH aO 4;have C:=y.eO (.trees []) (Fr.refl _ _) (by show J.Ps D [];unfold J.Ps;trivial) (λb e=>by
   have:=aU.1 e;unfold J.be at this
   grind)
  exact loop t.l.length 0 [] ⟨none,0,0⟩ j q D io rfl rfl (λb e=>by unfold J.be at e;cases e) C
def WU(t:J)(w:I)(e:t.sz<=1000000)(h:t.P w):ah U Ga #[t.v] w λr d=>gv w t.rx r d/\af w d:=JI 1000000 (bz _) t w e h
def fT:Rx:=.mk 0 0 0 []
def pU(x:Rx):Int:=if 64<x.sz then 4 else 0
def pV(x:Rx):Rx:=if 64<x.sz then fT else x
def IY(w:I)(x:Rx)(c:Int)(r:cZ)(w':I):Prop:=∃t:J,r=ab (.tuple #[t.v,.int .i64 c])/\t.rx=x/\t.P w'/\∀b∈t.fp,w.heap.size<=b
def QC(w:I):(J.mk 0 0 0 ⟨none,0,0⟩ []).P w:=by unfold J.P J.Ps;exact⟨bA.nil 4 w,trivial⟩
def QB{b:Nat}(d:b∈(J.mk 0 0 0 ⟨none,0,0⟩ []).fp):False:=by unfold J.fp J.be at d;simp[En.a9]at d
def Xd(t:J)(w:I)(y:t.sz<=1000000)(D:t.P w):ah U Pe #[t.v] w λr z=>IY w (pV t.rx) (pU t.rx) r z/\af w z:=by
 refine Sn.aq ((gT D).aw λK M B=>B.aw λL F k=>k.av (DR t F y (k.getD 0)) ?_);rintro _ G rfl h;refine⟨_,rfl,aS (λe=>h.ae λH j=>⟨⟨.mk 0 0 0 ⟨none,0,0⟩ [],?_,?_,QC _,λb d=>(QB d).elim⟩,j.fr⟩) (λe=>h.g5 (WU t G y (h.getD 0)) ?_)⟩
 .unfold pU;rw[J.eu,ag e];rfl
 .unfold pV;rw[J.eu,ag e];rfl
 rintro _ H ⟨u,rfl,C,E,x⟩ _ A;have j:=A.rd (.tree u) E λb d=>x b (aU.1 d);refine⟨_,_,_,_,rfl,j.ae λN q=>⟨⟨u,?_,?_,q.getD 1,λb d=>bI h.fr.size (x b d)⟩,q.fr⟩⟩
 .unfold pU;rw[J.eu,ad e]
 .unfold pV;rw[J.eu,ad e,C]
namespace Sc
def aq:=aB (aA U Tryz.f223 [] [2]) ve [.a 4,.I,.Y,.Y,.s,.r]
end Sc
namespace yy
def L0:=bD (aA U Tryz.f224 [] []) [0,1,1,1,1] [(0,.s),(1,.f),(7,.I),(8,.I)]
abbrev t1:=bB L0
def cH:=bO t1 L0
def ok:=aB t1 Pv [.s,.f]
end yy
namespace TJ
def ok:=aB (aA U Tryz.f208 [] []) Pr [.s,.f]
end TJ
namespace tg
abbrev P0:Ps:=[(0,.s),(1,.v [.g ve 0 1,.r]),(5,.I),(6,.I)]
def aX:=bD (aA U Tryz.f222 [] [7]) [0,1,1,1,3] P0
abbrev t1:=bB aX
abbrev bg:=ai t1 [2,2,1,1,3] P0
abbrev t2:=aj bg
def bR:=bO t2 aX
def aq:=aB t2 Pt [.s,.g ve 0 1,.r]
end tg
namespace o6
def L0:=bD (aA U Tryz.f213 [(6,lr 11),(11,lr 12)] []) [0,1,1,1,2] [(0,.s),(1,.v [.g sM 0 0]),(5,.I)]
abbrev t1:=bB L0
abbrev P0:Ps:=[(0,.s),(1,.v [.g sM 0 0]),(5,.I),(6,.s),(7,.I)]
def L2:=bD t1 [0,1,1,1,1,1,1,2,1,2,1,1,2] P0
abbrev t2:=bB L2
abbrev S3:=ai t2 [2,2,1,1,1,1,1,2,1,2,1,1,2] P0
abbrev t3:=aj S3
def pq:=bO t3 L2
abbrev S1:=ai t3 [1,1,1,2,1,2,1,1,2] [(0,.s),(1,.v [.g sM 0 0]),(5,.I),(6,.s)]
abbrev t4:=aj S1
def cH:=bO t4 L0
def ok:=aB t4 Pp [.s,.g sM 0 0]
end o6
namespace ta
abbrev P0:Ps:=[(2,.l [.I,.Y,.Y,.s] aO),(3,.r),(5,.s),(9,.s),(10,.I),(11,.I)]
def aX:=bD (aA U Tryz.f207 [] [2,7]) [0,1,1,1,2] P0
abbrev t1:=bB aX
abbrev bg:=ai t1 [3,2,1,1,2] P0
abbrev t2:=aj bg
def bR:=bO t2 aX
def aq:=aB t2 O' [.a 4,.I,.Y,.Y,.s,.a 4,.I,.Y,.Y,.s]
end ta
namespace Se
def aq:=aB (aA U Tryz.f204 [] [1,2]) xO [.a 4,.I,.Y,.Y,.s]
end Se
namespace Sf
def ok:=aB (aA U Tryz.f205 [] []) AQ [.a 4,.I,.Y,.Y,.s,.a 4,.I,.Y,.Y,.s]
end Sf
namespace Hp
abbrev aV:=ai (aA U Tryz.f206 [] [3,4]) [4] [(1,.r),(3,.l [.I,.Y,.Y,.s] aO),(4,.l [.I,.Y,.Y,.s] aO),(5,.s)]
abbrev t1:=aj aV
def aq:=aB t1 AR [.a 4,.I,.Y,.Y,.s,.r,.r]
end Hp
namespace Sg
def aq:=aB (aA U Tryz.f209 [] [2]) Gb [.a 4,.I,.Y,.Y,.s,.r]
end Sg
namespace Si
def aq:=aB (aA U Tryz.f214 [] [1,2]) vf [.a 4,.I,.Y,.Y,.s]
end Si
namespace Bu
abbrev aV:=ai (aA U Tryz.f215 [] [3,4,5]) [0,1,1,1,2] [(1,.r),(4,.l [.I,.Y,.Y,.s] aO)]
abbrev t1:=aj aV
abbrev bg:=ai t1 [0,1,1,1,3] [(4,.l [.I,.Y,.Y,.s] aO),(5,.l [.I,.Y,.Y,.s] aO)]
abbrev t2:=aj bg
def aq:=aB t2 vh [.a 4,.I,.Y,.Y,.s,.r,.r]
end Bu
namespace yj
def L0:=bD (aA U Tryz.f182 [(5,lr 9)] []) [0,1,1,1,2] [(0,.m),(3,.r),(4,.r),(5,.r),(16,.s),(17,.I),(18,.I)]
abbrev t1:=bB L0
def cH:=bO t1 L0
def ok:=aB t1 Gd [.m,.a 4,.I,.Y,.Y,.s]
end yj
end Go.Proofs.YtkbmpalepmakmaaGreatDoor
end
