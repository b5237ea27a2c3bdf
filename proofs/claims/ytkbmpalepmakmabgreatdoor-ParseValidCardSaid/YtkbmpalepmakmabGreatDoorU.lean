import Derived.Test.YtkbmpalepmakmabGreatDoorW
import Derived.KernelRfl
import Derived.Test.YtkbmpalepmakmabGreatDoorProg
import Derived.Lib.AppendStr
import Derived.Laws.IdiomStrings
import Derived.IntWalk
set_option linter.unusedVariables false
set_option linter.defProp false
noncomputable section
namespace Go.W
open Go renaming World->I,Calls->ai,Program->au,Value->V,TypeId->aE,Ending->cW,FuncId->b3,IntKind->ij
open Go.IntKind renaming wrap->aB
open Go.IntWalk renaming i64_in->bo
open Go.Builtin renaming append_->fM
open _root_.Bool renaming and_eq_true->bd
open _root_.Nat renaming le_refl->bw,le_trans->bB,beq->bI,beq_eq->eJ
open Go.Region renaming wanted->cv,ready->ec
open Go.Proofs.Tryz renaming prog->U
open _root_.Decidable renaming decide->ak
open Go.Ending renaming returned->ad
open List renaming mem_append->aP,mem_cons->aF,not_mem_nil->aZ,mem_of_getElem?->aD,getElem?_eq_getElem->aY,mem_append_left->cm,mem_singleton->cy,mem_cons_of_mem->cP,drop_eq_getElem_cons->dw,take_add_one->fJ,drop_of_length_le->dy
abbrev Lv:=List (Nat×List V×aE)
abbrev Sv:=List (Nat×Option (Nat×Nat))
def Sv.get? :Sv->Nat->Option (Nat×Nat)
 |[],_=>none
 |(e,v)::d,t=>bif bI e t then v else Sv.get? d t
def Sv.at(S:Sv):Operand->Option (Nat×Nat)
 |.tmp t=>S.get? t
 |_=>none
def Sv.put(S:Sv)(d:Option Nat)(o:Option (Nat×Nat)):Sv:=match d with
 |some d=>(d,o)::S
 |none=>S
structure TS where
 E:Env
 S:Sv
 L:Lv
 w:I
 d:Bool
abbrev HT:=List (Nat×Option Nat×(I->Prop))
def fK(s:TS)(K:TS->Prop):Prop:=match s.d with
 |true=>loc (iq s.L) s.w λe=>K ⟨s.E,s.S,s.L,e,false⟩
 |false=>K s
def Tq:V->V->Bool
 |.int d _,.int e _=>d==e
 |.bool _,.bool _=>true
 |.string _,.string _=>true
 |.slice _ _ _,.slice _ _ _=>true
 |.pointer _,.pointer _=>true
 |.map _,.map _=>true
 |.int ..,_|.bool _,_|.string _,_|.slice ..,_|.pointer _,_|.map _,_=>false
 |_,_=>true
def BK:List V->List V->Bool
 |[],[]=>true
 |e::h,v::d=>Tq e v&&BK h d
 |_,_=>false
def E6(P:au)(T:aE)(cs:List V)(j:Nat)(K:V->Prop):Prop:=
 cM (zt P T)<|match zeroOf P T with
 |.agg d=>cM (BK d.toList ((cs.drop j).take d.size)) (K (.agg ((cs.drop j).take d.size).toArray))
 |.nilFunc=>False
 |e=>match cs[j]? with
  |some v=>cM (Tq e v) (K v)
  |none=>False
def Lt(P:au)(T:aE)(f:Nat):Option Nat:=match P.underlying T with
 |some (.struct d)=>match d[f]? with
  |some f=>match P.info? f.type with
   |some i=>bif bI i.size 0 then none else some f.offset
   |none=>none
  |none=>none
 |_=>none
def U8(P:au)(o:Oper):Bool:=match o.op with
 |.load ..|.lookup ..=>true
 |.convert s e _=>match P.underlying s,P.underlying e with
  |some (.slice _),some .string=>true
  |some (.pointer _),some .unsafePointer=>true
  |some .unsafePointer,some (.pointer _)=>true
  |_,_=>false
 |.binOp .neq d _ h _=>bif isConst h then false else match P.underlying d with
  |some (.pointer _)=>true
  |_=>false
 |.call {callee:=.builtin .len,args,argTypes}=>match args.toList,argTypes.toList with
  |[_],[d]=>match P.underlying d with
   |some (.map _ _)=>true
   |_=>false
  |_,_=>false
 |_=>false
def Ck(P:au)(o:Oper):Bool:=EJ P o||U8 P o
def u2(P:au)(o:Oper)(s:TS)(K:V->Option (Nat×Nat)->List (Option Nat×(I->Prop))->TS->Prop):Prop:=
 bif Ck P o then fK s λs=>oB P o s.E s.w λv e=>K v none (e.map λd=>(none,d)) s else oB P o s.E s.w λv e=>K v none (e.map λd=>(none,d)) s
def DC(P:au)(o:Oper)(s:TS)(K:V->Option (Nat×Nat)->List (Option Nat×(I->Prop))->TS->Prop):Prop:=
 match o.op with
 |.load h d=>match s.S.at d with
  |some (i,e)=>match s.L[i]? with
   |some X=>E6 P h X.2.1 e λv=>K v none [(some i,λk=>(loadVar h ((aa X.1).add e)).run P k=.ok v k)] s
   |none=>False
  |none=>u2 P o s K
 |.move d|.assign d|.nilCheck d=>match s.S.at d with
  |some q=>K ((s.E.val d).getD undef) (some q) [] s
  |none=>u2 P o s K
 |.fieldAddr h d f=>match s.S.at d with
  |some (i,e)=>match Lt P h f,s.L[i]? with
   |some j,some X=>K (.pointer (some ((aa X.1).add (e+j)))) (some (i,e+j)) [] s
   |_,_=>False
  |none=>u2 P o s K
 |_=>u2 P o s K
def pZ(L:Lv)(w w':I)(p:Prop):Prop:=match L with
 |[]=>p
 |L=>kept (iq L) w w'/\p
def BH:List V->Nat->List V->List V
 |d,_,[]=>d
 |d,e,v::h=>BH (d.set e v) (e+1) h
def Aj(e:List Nat)(d:Option Nat):Bool:=match d with
 |some d=>e.any (bI d)
 |none=>false
def HD(bs:List Nat)(p:Addr):List V->Nat->I->(I->Prop)->Prop
 |[],_,d,e=>e d
 |v::j,i,d,e=>aN d (p.add i) v λh=>kept bs d h/\HD bs p j (i+1) h e
abbrev Pk:=Option (aC×List b3)
structure Lk where
 l:List Nat
 pk:Pk
def Pk.of(p:Pk)(f:b3):Option aC:=match p with
 |some (d,l)=>bif l.any (bI f)then some d else none
 |none=>none
def Pk.F(p:Pk):aC:=match p with
 |some (d,_)=>d
 |none=>λ_ _=>False
def mX(bs:List Nat)(P:au)(f:b3)(args:Array V)(R:aC)(w:I)(K:aC):Prop:=
 ai P f args w λr d=>(∃c,r=.panicked c/\R (.panicked c) d)\/((∃v,r=ad v)/\kept bs w d/\K r d)
def Gb(s:TS)(cs:List V)(T:aE)(K:V->Option (Nat×Nat)->Option Nat->TS->Prop):Prop:=
 vr (iq s.L) s.w λb d=>K (.pointer (some (aa b))) (some (s.L.length,0)) none ⟨s.E,s.S,s.L++[(b,cs,T)],d,false⟩
def zL(P:au)(k:Pk)(f:b3)(args:Array V)(z:V)(s:TS)(K:V->I->Prop):Prop:=match k.of f with
 |some j=>mX (iq s.L) P f args j s.w λd e=>oK z λv=>d=ad v/\K v e
 |none=>match s.L with
  |[]=>sa P f args z s.w K
  |h=>fF (iq h) P f args s.w λd e=>oK z λv=>d=ad v/\K v e
def D4(P:au)(j:Lk)(draw:Bool)(o:Oper)(s:TS)(K:V->Option (Nat×Nat)->Option Nat->TS->Prop):Prop:=
 match o.op with
 |.store e h q=>match s.S.at h with
  |some (i,k)=>match s.L[i]?,s.E.val q with
   |some X,some v=>cM (v.cells.size==(match P.info? e with |some i=>i.size|none=>0)&&v.cells.toList.all vx&&(P.info? e).isSome&&Nat.ble (k+v.cells.size) X.2.1.length) (K undef none (some i) ⟨s.E,s.S,s.L.set i (X.1,BH X.2.1 k v.cells.toList,X.2.2),s.w,true⟩)
   |_,_=>False
  |none=>fK s λs=>match s.L with
   |[]=>h0 P o s.E s.w λv d=>K v none none ⟨s.E,s.S,s.L,d,false⟩
   |x=>match s.E.val h,s.E.val q with
    |some (.pointer (some p)),some v=>cM (v.cells.size==(match P.info? e with |some i=>i.size|none=>0)&&v.cells.toList.all vx&&(P.info? e).isSome) (HD (iq x) p v.cells.toList 0 s.w λd=>K undef none none ⟨s.E,s.S,s.L,d,false⟩)
    |_,_=>False
 |.alloc e=>bif Aj j.l o.dst then cM ((P.info? e).bind (·.zero)).isSome (Gb s (zeroOf P e).cells.toList e K)else fK s λs=>h0 P o s.E s.w λv d=>K v none none ⟨s.E,s.S,s.L,d,false⟩
 |.box e h=>bif Aj j.l o.dst then(match s.E.val h with
   |some v=>Gb s v.cells.toList e K
   |none=>False)else fK s λs=>h0 P o s.E s.w λv d=>K v none none ⟨s.E,s.S,s.L,d,false⟩
 |.buildSlice ..|.makeMap ..=>fK s λs=>h0 P o s.E s.w λv d=>K v none none ⟨s.E,s.S,s.L,d,false⟩
 |.call {callee:=.value (.func f),args,..}=>fK s λs=>cM (s.E.e7 o) (bif hy P f then zL P j.pk f (args.map s.E.ev) (zeroOf P o.type) s λv d=>K v none none ⟨s.E,s.S,s.L,d,false⟩
   else z8 P f (args.map s.E.ev) (zeroOf P o.type) s.w λv d=>pZ s.L s.w d (K v none none ⟨s.E,s.S,s.L,d,false⟩))
 |.call {callee:=.value (.tmp t),args,..}=>fK s λs=>cM (s.E.e7 o) (match s.E.get? t with
   |some (.func (.func f) first captured)=>cM (hy P f) (zL P j.pk f (first++args.map s.E.ev++captured) (zeroOf P o.type) s λv d=>K v none none ⟨s.E,s.S,s.L,d,false⟩)
   |_=>False)
 |.panic h=>fK s λs=>match s.E.val h,j.pk with
  |some (.iface t v),some (y,_)=>y (.panicked [{v:=.iface t v,recovered:=false}]) s.w
  |_,_=>False
 |_=>fK s λs=>(bif draw then h0 else uJ) P o s.E s.w λv d=>pZ s.L s.w d (K v none none ⟨s.E,s.S,s.L,d,false⟩)
def xC(ops:Array Oper)(j:Nat)(w:I):HT->List Prop
 |[]=>[]
 |(i,f,e)::d=>bif kh ops i j||f.isSome then xC ops j w d else e w::xC ops j w d
def gM(ops:Array Oper)(j:Nat):HT->HT
 |[]=>[]
 |(i,f,e)::d=>bif kh ops i j then gM ops j d else(i,f,e)::gM ops j d
def GY(ops:Array Oper)(j:Nat)(s:TS)(H:HT)(K:TS->Prop):Prop:=
 bif H.any (λp=>!(kh ops p.1 j)&&p.2.1.isNone)then fK s λs=>uj (xC ops j s.w H) (K s)else K s
def stepT(P:au)(k:Lk)(ops:Array Oper)(draw:Bool)(i:Nat)(o:Oper)(s:TS)(H:HT)(K:TS->HT->Prop):Prop:=
 bif calm P o then DC P o s λv e j s=>K ⟨s.E.put o.dst v,s.S.put o.dst e,s.L,s.w,s.d⟩ (bif draw then j.map (λh=>(i,h))++H else H)
 else D4 P k draw o s λv e m s=>cM (!((gM ops i H).any λp=>m.isSome&&p.2.1==m)) (GY ops i s H λs=>K ⟨s.E.put o.dst v,s.S.put o.dst e,s.L,s.w,s.d⟩ (gM ops i H))
def oM(P:au)(e:Lk)(ops:Array Oper)(draw:Bool)(i:Nat)(o:Oper)(d:Nat)(want t:Bool)(s:TS)(H:HT)(K:TS->HT->Prop):Prop:=
 bif (t==want)then stepT P e ops draw i o ⟨(d,.bool t)::s.E,s.S,s.L,s.w,s.d⟩ H K else K ⟨Env.put ((d,.bool t)::s.E) o.dst undef,s.S.put o.dst none,s.L,s.w,s.d⟩ (bif calm P o then H else gM ops i H)
def runT(P:au)(e:Lk)(ops:Array Oper)(draw:Bool)(K:TS->Prop):List Nat->TS->HT->Prop
 |[],s,_=>K s
 |i::l,s,h=>
  match ops[i]? with
  |none=>False
  |some o=>match o.guard with
   |none=>stepT P e ops draw i o s h λk j=>runT P e ops draw K l k j
   |some (x,want)=>match kU ops x with
    |none=>False
    |some q=>match s.E.get? q with
     |some (.bool t)=>bD t (oM P e ops draw i o q want true s h λk j=>runT P e ops draw K l k j) (oM P e ops draw i o q want false s h λk j=>runT P e ops draw K l k j)
     |some (.tuple _)=>runT P e ops draw K l ⟨Env.put s.E o.dst undef,s.S.put o.dst none,s.L,s.w,s.d⟩ (bif calm P o then h else gM ops i h)
     |_=>False
def xA(P:au)(j:Lk)(ops:Array Oper)(i:Nat)(s:TS)(H:HT)(e:TS->HT->Prop):Prop:=
 match ops[i]? with
 |none=>False
 |some o=>match o.guard with
  |none=>stepT P j ops true i o s H e
  |some (k,want)=>match kU ops k with
   |none=>False
   |some h=>match s.E.get? h with
    |some (.bool t)=>bD t (oM P j ops true i o h want true s H e) (oM P j ops true i o h want false s H e)
    |some (.tuple _)=>e ⟨Env.put s.E o.dst undef,s.S.put o.dst none,s.L,s.w,s.d⟩ (bif calm P o then H else gM ops i H)
    |_=>False
def rD(P:au)(e:Lk)(ops:Array Oper)(K:TS->Prop):Tr->TS->HT->Prop
 |.nil,s,_=>K s
 |.one i t,s,d=>xA P e ops i s d λj h=>rD P e ops K t j h
 |.fork a b,s,d=>rD P e ops K a s d/\rD P e ops K b s d
def Tr.sq:List Nat->Tr->Tr
 |[],t=>t
 |i::l,t=>.one i (Tr.sq l t)
def zU(s:TS)(K:TS->Prop):Prop:=match s.L,s.d with
 |[],false=>K ⟨s.E,s.S,s.L,s.w.drew,false⟩
 |_,_=>K ⟨s.E,s.S,s.L,s.w,true⟩
section
variable {P:au}
structure Inv(s:TS)(w:I):Prop where
 lc:LC w s.L
 rel:if s.d=true then Fr (·∈iq s.L) s.w w else w=s.w
 sl:∀t i j,s.S.get? t=some (i,j)->∃X,s.L[i]? =some X/\s.E.get? t=some (.pointer (some ((aa X.1).add j)))
def Inv.fK{s:TS}{w:I}{K:TS->Prop}(h:Inv s w)(e:W.fK s K):Inv ⟨s.E,s.S,s.L,w,false⟩ w/\K ⟨s.E,s.S,s.L,w,false⟩:=by
 refine⟨⟨h.lc,gs,h.sl⟩,?_⟩;unfold W.fK at e;have k:=h.rel;cases j:s.d with
 |true=>
  rw[j]at e k;exact e w (by grind)
 |false=>
  rw[j]at e k;have:w=s.w:=by grind
  obtain⟨q,y,x,A,z⟩:=s
  grind
def Inv.fr{s:TS}{w:I}(e:Inv s w):Fr (·∈iq s.L) s.w w:=by
 have j:=e.rel;cases h:s.d with
 |true=>grind
 |false=>
  rw[h]at j;have:w=s.w:=by grind
  subst this;exact Fr.refl _ _
def Inv.at{s:TS}{w:I}(d:Inv s w){x:Operand}{i j:Nat}(e:s.S.at x=some (i,j)):∃X,s.L[i]? =some X/\s.E.val x=some (.pointer (some ((aa X.1).add j)))/\w.heap[X.1]? =some (.cells X.2.1.toArray X.2.2 (0,0)):=by
 cases x with
 |tmp t=>
  obtain⟨X,h,k⟩:=d.sl t i j e;exact⟨X,h,k,d.lc.own i X h⟩
 |_=>cases e
def Ts:∀{e vs:List V},BK e vs=true->vs.length=e.length
 |[],[],_=>rfl
 |h::e,v::vs,d=>by unfold BK at d;rw[bd]at d;simp[Ts d.2]
def MD{T:aE}{cs:List V}{j b:Nat}{ty:aE}{K:V->Prop}(d:E6 P T cs j K):
  ∃v,K v/\∀e:I,e.heap[b]? =some (.cells cs.toArray ty (0,0))->(loadVar T ((aa b).add j)).run P e=.ok v e:=by
 obtain⟨h,d⟩:=dN d;unfold zt at h;have one:∀(v:V),cs[j]? =some v->(r0 P T==some false)=true->∀e:I,e.heap[b]? =some (.cells cs.toArray ty (0,0))->(loadVar T ((aa b).add j)).run P e=.ok v e:=λv y k e w=>
  yA (by grind) (cellAt (p:=aa b) w rfl (by grind))
 cases z:zeroOf P T with
 |agg E=>
  rw[z]at d h;simp only at d h;obtain⟨B,A⟩:=dN d;rw[bd]at h;obtain⟨k,q⟩:=h;cases x:P.info? T with
  |none=>grind
  |some i=>
   rw[x]at q;simp at q k;refine⟨_,A,λe w=>SO k x (by rw[q,Ts B];simp) λD v C=>?_⟩;rw[add_add];refine cellAt (p:=aa b) w rfl ?_
   grind
 |nilFunc=>grind
 |_=>
  rw[z]at d h;simp only at d;split at d
  .rename_i v y;exact⟨v,(dN d).2,one v y h⟩
  .exact d.elim
def XB{o:Oper}{E:Env}{w w':I}{K:V->List (I->Prop)->Prop}(d:Ck P o=false)(e:oB P o E w K):oB P o E w' K:=by
 unfold Ck at d;rw[Bool.or_eq_false_iff]at d;obtain⟨h,d⟩:=d;unfold oB at e ⊢;rw[h]at e ⊢;simp only[cond_false]at e ⊢;unfold zN at e ⊢;unfold U8 at d;split at e<;>first |exact e|skip
 all_goals rename_i j
 all_goals rw[j]at d
 .cases d
 .rename_i k _ q;cases k with
  |const c=>grind
  |_=>
   simp only[isConst,cond_false]at d
   grind
 .cases d
 .grind
 grind
def za(P:au)(o:Oper)(a:Act)(s:TS)(w:I)(v:V)(q:Option (Nat×Nat))(Ss:List (Option Nat×(I->Prop)))(d:TS):Prop:=
 Inv d w/\d.E=s.E/\d.S=s.S/\d.L=s.L/\Calm P o a.eval w v (Ss.map (·.2))/\
 (∀p∈Ss,∀i,p.1=some i->∃X,s.L[i]? =some X/\∀h:I,h.heap[X.1]? =some (.cells X.2.1.toArray X.2.2 (0,0))->p.2 h)/\
 (∀i e,q=some (i,e)->∃X,s.L[i]? =some X/\v=.pointer (some ((aa X.1).add e)))
section
variable {o:Oper} {n:Cx} {a:Act} {s:TS} {w:I} {K:V->Option (Nat×Nat)->List (Option Nat×(I->Prop))->TS->Prop}
def YT(H:∀z b,o.op≠.select z b)(D:Ag n a s.E)(x:Inv s w)(h:u2 P o s K):∃v j e d,K v j e d/\za P o a s w v j e d:=by
 have fin:∀(d:TS),d.E=s.E->d.S=s.S->d.L=s.L->Inv d w->oB P o s.E w (λv e=>K v none (e.map λk=>(none,k)) d)->∃v j e d,K v j e d/\za P o a s w v j e d:=λd A B C y F=>by
  obtain⟨v,e,J,O⟩:=zO H D F;refine⟨v,none,_,d,J,y,A,B,C,?_,λp T i Q=>?_,λi W G=>by cases G⟩
  .rw [List.map_map];have:((λM:Option Nat×(I->Prop)=>M.2)∘λk=>((none:Option Nat),k))=id:=rfl;rw[this,List.map_id];omega
  grind
 unfold u2 at h;cases q:Ck P o with
 |true=>
  rw[q,cond_true]at h;obtain⟨y,N⟩:=x.fK h
  grind
 |false=>
  rw[q,cond_false]at h;exact fin s rfl rfl rfl x (XB q h)
def Xz(hs:∀T b,o.op≠.select T b)(B:Ag n a s.E)(y:Inv s w)(d:DC P o s K):∃v q A D,K v q A D/\za P o a s w v q A D:=by
 have gen:=λd=>YT (P:=P) (K:=K) hs B y d;have same:∀(x:Operand) (q:Nat×Nat),s.S.at x=some q->(∀w,(execOp a.eval o).run P w=.ok (.value (a.eval x)) w\/∀p,a.eval x≠.pointer (some p))->K ((s.E.val x).getD undef) (some q) [] s->∃v q A D,K v q A D/\za P o a s w v q A D:=λx q e hr h=>by
  obtain⟨X,F,z,_⟩:=y.at (i:=q.1) (j:=q.2) e;have he:=B.val z;refine⟨_,_,_,s,h,y,rfl,rfl,rfl,⟨λO G=>(by cases G),λJ _=>?_⟩,λp H=>(by cases H),λi C M=>?_⟩
  .grind
  grind
 unfold DC at d;split at d
 .rename_i L x k;split at d
  .rename_i i C e;obtain⟨X,F,z,Y⟩:=y.at e;rw[F]at d;obtain⟨v,h,hv⟩:=MD (b:=X.1) (ty:=X.2.2) d;refine⟨v,_,_,s,h,y,rfl,rfl,rfl,⟨λO G=>?_,λJ ae=>?_⟩,λp H i' af=>?_,λi C M=>by cases M⟩
   .grind
   .have:(loadVar L ((aa X.1).add C)).run P J=.ok v J:=ae (λw=>(loadVar L ((aa X.1).add C)).run P w=.ok v w) gs;simp[execOp,k,Instr.loadAt,B.val z,Instr.sureAddr,this]
   grind
  grind
 .rename_i x k;split at d
  .rename_i q e;exact same x q e (λw=>.inl (by simp[execOp,k])) d
  grind
 .rename_i x k;split at d
  .rename_i q e;exact same x q e (λw=>.inl (by simp[execOp,k])) d
  grind
 .rename_i x k;split at d
  .rename_i q e;refine same x q e (λw=>?_) d;obtain⟨X,_,z,_⟩:=y.at (i:=q.1) (j:=q.2) e;exact .inl (by simp[execOp,k,B.val z])
  grind
 .rename_i L x f k;split at d
  .rename_i i C e;obtain⟨X,F,z,Y⟩:=y.at e;split at d
   .rename_i ag X' h Q;rw[F]at Q;cases Q;refine⟨_,_,_,s,d,y,rfl,rfl,rfl,⟨λO G=>(by cases G),λJ _=>?_⟩,λp H=>(by cases H),λi' j' M=>?_⟩
    .unfold Lt at h;split at h
     .rename_i fs hu;split at h
      .rename_i fd Z;split at h
       .rename_i inf ab;cases N:bI inf.size 0 with
        |true=>grind
        |false=>
         rw[N]at h;cases h;have ac:inf.size≠0:=λW=>by rw[W]at N;cases N
         simp[execOp,k,B.val z,Instr.fieldAt,run_underlying hu,Z,Instr.sureAddr,fieldPlace,sizeOf,typeInfo,ab,ac,add_add]
       grind
      grind
     grind
    grind
   grind
  grind
 grind
end
def tY(s:TS)(K:V->Option (Nat×Nat)->Option Nat->TS->Prop)(v:V)(w':I):Prop:=
 ∃h m d,K v h m d/\Inv d w'/\d.E=s.E/\d.S=s.S/\(∀i X,s.L[i]? =some X->m≠some i->d.L[i]? =some X)/\
  (∀i e,h=some (i,e)->∃X,d.L[i]? =some X/\v=.pointer (some ((aa X.1).add e)))
def SK{o:Oper}{ρ:Operand->V}{T:aE}{z:V}(h:o.op=.alloc T)(e:(P.info? T).bind (·.zero)=some z)(w:I):
  (execOp ρ o).run P w=.ok (.value (.pointer (some (aa w.heap.size)))) (w.alloc (.cells z.cells T)):=by
 cases d:P.info? T with
 |none=>grind
 |some i=>
  rw[d]at e;have j:i.zero=some z:=e;simp[execOp,h,Instr.alloc,zeroValue,typeInfo,d,j,newVar,newRow]
def SM{o:Oper}{ρ:Operand->V}{T:aE}{x:Operand}(d:o.op=.box T x)(w:I):
  (execOp ρ o).run P w=.ok (.value (.pointer (some (aa w.heap.size)))) (w.alloc (.cells (ρ x).cells T)):=by simp[execOp,d,Instr.box,newVar,newRow]
def ZI{L:Lv}{w w':I}{p:Prop}(d:pZ L w w' p)(H:LC w L):LC w' L/\p:=by
 cases L with
 |nil=>exact⟨LC.nil _,d⟩
 |cons e L=>exact⟨H.pZ d.1,d.2⟩
section
variable {o:Oper} {n:Cx} {a:Act} {s:TS} {w:I} {K:V->Option (Nat×Nat)->Option Nat->TS->Prop}
def JX{f:b3}{args:Array V}{K:V->I->Prop}(j:(execOp a.eval o).run P w=.ok (.enter f args) w)(h:ai P f args w λd e=>∃v,d=ad v/\K v e):jy P o a w K:=by
 intro k;unfold Oper.wp;rw[j];simp only[Oper.upon];refine Calls.mono h λd e q=>?_
 grind
def rL(F:aC)(P:au)(o:Oper)(a:Act)(w:I)(K:V->I->Prop):Prop:=
 ∀e:Exit->Act->I->Prop,(∀c d,F (.panicked c) d->e (.panic c) a d)->o.wp P a w (λh d=>∃v,h=a.put o.dst v/\K v d) e
def jy.p{F:aC}{K:V->I->Prop}(e:jy P o a w K):rL F P o a w K:=λd _=>e d
def JY{A:Pk}{f:b3}{args:Array V}{z:V}{K:V->I->Prop}(q:(execOp a.eval o).run P w=.ok (.enter f args) w)(H:LC w s.L)(x:s.w=w)(d:zL P A f args z s K):rL A.F P o a w λv h=>LC h s.L/\K v h:=by
 unfold zL at d;split at d
 .rename_i D e;intro W M;rw[x]at d;unfold Oper.wp;rw[q];simp only[Oper.upon];refine Calls.mono d λB h j=>?_;have G:A.F=D:=by
   unfold Pk.of at e;split at e
   .rename_i Y l;cases C:l.any (bI f)with
    |true=>rw[C]at e;cases e;rfl
    |false=>rw[C]at e;cases e
   .cases e
  rcases j with⟨c,rfl,S⟩|⟨_,O,y⟩
  .exact M c h (by rw[G];exact S)
  .obtain ⟨v,rfl,k⟩:=q0 y;exact⟨v,rfl,H.pZ O,k⟩
 split at d
 .rename_i J;rw[x]at d;refine jy.p (JX q (Calls.mono d λB h j=>?_));obtain⟨v,rfl,k⟩:=q0 j;exact⟨v,rfl,by rw[J];exact LC.nil _,k⟩
 .rw [x]at d;obtain⟨T,Q,N⟩:=d;refine jy.p (JX q (Calls.mono N λB h j=>?_));obtain⟨E,y⟩:=j;obtain⟨v,rfl,k⟩:=q0 y;exact⟨v,rfl,H.fr E Q,k⟩
def Qc{cs:Array V}{T:aE}(k:(execOp a.eval o).run P w=.ok (.value (.pointer (some (aa w.heap.size)))) (w.alloc (.cells cs T)))(d:Inv s w)(j:Gb s cs.toList T K):jy P o a w (tY s K):=by
 intro q;unfold Oper.wp;rw[k];simp only[Oper.upon];refine⟨_,rfl,_,_,_,j w.heap.size (w.alloc (.cells cs T)) d.fr.size (size_alloc _ _) (d.fr.gp (Fr.alloc _ _ _)),⟨d.lc.push cs T,gs,λt i h e=>?_⟩,rfl,rfl,λi X z _=>?_,λi h e=>?_⟩
 .obtain ⟨X,x,y⟩:=d.sl t i h e
  grind
 .grind
 .cases e;exact⟨(w.heap.size,cs.toList,T),gs,by rw[jD]⟩
def TJ{i j b:Nat}{T:aE}{A:I}{K:I->Prop}:∀(vs:List V) (k:Nat) (w:I) (L:Lv) (cs:List V),LC w L->L[i]? =some (b,cs,T)->j+k+vs.length<=cs.length->Fr (·∈iq L) A w->
  (∀d,LC d (L.set i (b,BH cs (j+k) vs,T))->Fr (·∈iq L) A d->K d)->tB ((aa b).add j) vs k w K
 |[],k,w,L,cs,e,h,z,f,q=>by
  refine q w ?_ f;have:L.set i (b,cs,T)=L:=by
   apply List.ext_getElem?
   grind
  rw[show BH cs (j+k) []=cs from rfl,this];exact e
 |v::vs,k,w,L,cs,e,h,z,f,q=>by
  simp only[List.length_cons]at z;obtain⟨B,C,D,E⟩:=e.set (v:=v) i (j+k) h io f
  unfold tB;rw[add_add];refine⟨B,C,TJ (i:=i) (T:=T) vs (k+1) _ _ (cs.set (j+k) v) D ?_ (by grind) E λd x y=>?_⟩
  .grind
  .rw [List.set_set]at x;rw[Dg L i h]at y;exact q d x y
def TI{L:Lv}{p:Addr}{K K':I->Prop}(j:∀h,LC h L->K h->K' h):∀(vs:List V) (i:Nat) (w:I),LC w L->HD (iq L) p vs i w K->tB p vs i w K'
 |[],_,w,d,e=>j w d e
 |v::vs,i,w,d,e=>by obtain⟨k,q,x,y⟩:=e;exact⟨k,q,TI j vs (i+1) _ (d.pZ x) y⟩
def Ve{b:Bool}{p:Prop}(d:b=true)(e:p):cM b p:=by subst d;exact e
def Ku{E:Env}{T:aE}{x y:Operand}{p:Addr}{v:V}{K:V->I->Prop}(h:o.op=.store T x y)(j:E.val x=some (.pointer (some p)))(k:E.val y=some v)(e:(v.cells.size==(match P.info? T with |some i=>i.size|none=>0)&&v.cells.toList.all vx&&(P.info? T).isSome)=true)(d:tB p v.cells.toList 0 w λq=>K undef q):h0 P o E w K:=by unfold h0;rw[h];simp only[j,k];exact Ve e d
def SP{ρ:Operand->V}{nx:Next}{w':I}(e:(∃h,o.op=.alloc h)\/(∃h A,o.op=.box h A)\/(∃h l p,o.op=.buildSlice h l p)\/(∃h r,o.op=.makeMap h r))(d:(execOp ρ o).run P w=.ok nx w'):af w w':=by
 rcases e with⟨h,e⟩|⟨h,A,e⟩|⟨h,l,p,e⟩|⟨h,r,e⟩
 .cases q:(P.info? h).bind (·.zero)with
  |some B=>
   rw[SK e q]at d;cases d;exact Fr.alloc _ _ _
  |none=>
   exfalso;cases k:P.info? h with
   |none=>simp[execOp,e,Instr.alloc,zeroValue,typeInfo,k]at d
   |some i=>
    rw[k]at q;have D:i.zero=none:=q;simp[execOp,e,Instr.alloc,zeroValue,typeInfo,k,D]at d
 .rw [SM e]at d;cases d;exact Fr.alloc _ _ _
 .cases j:P.underlying h with
  |none=>simp[execOp,e,Instr.buildSlice,underlying,j]at d
  |some u=>
   cases u<;>first |(simp[execOp,e,Instr.buildSlice,run_underlying j]at d;done)|skip
   rename_i C;cases k:P.info? C with
   |none=>simp[execOp,e,Instr.buildSlice,run_underlying j,sizeOf,typeInfo,k]at d
   |some i=>
    by_cases z:l *i.size>2^24
    .simp [execOp,e,Instr.buildSlice,run_underlying j,sizeOf,typeInfo,k,z]at d
    by_cases y:l *i.size=0
    .simp [execOp,e,Instr.buildSlice,run_underlying j,sizeOf,typeInfo,k,y]at d;split at d
     .simp [newRow]at d;obtain⟨_,rfl⟩:=d;exact Fr.alloc _ _ _
     .simp at d
    .simp [execOp,e,Instr.buildSlice,run_underlying j,sizeOf,typeInfo,k,z,y]at d;cases q:i.zero with
     |none=>simp[zeroValue,typeInfo,k,q]at d
     |some B=>
      simp[zeroValue,typeInfo,k,q]at d;split at d
      .simp [newRow]at d;obtain⟨_,rfl⟩:=d;exact Fr.alloc _ _ _
      .simp at d
 .cases r with
  |none=>
   simp[execOp,e,Instr.makeMap]at d;obtain⟨_,rfl⟩:=d;exact Fr.alloc _ _ _
  |some r=>
   cases j:P.underlying h with
   |none=>simp[execOp,e,Instr.makeMap,underlying,j]at d
   |some u=>
    cases u<;>first |(simp[execOp,e,Instr.makeMap,run_underlying j]at d;done)|skip
    cases x:ρ r with
    |int F B=>
     simp[execOp,e,Instr.makeMap,run_underlying j,x,Go.asInt,Go.asIntOf]at d;obtain⟨_,rfl⟩:=d;exact Fr.alloc _ _ _
    |pointer E=>cases E<;>simp[execOp,e,Instr.makeMap,run_underlying j,x,Go.asInt,Go.asIntOf]at d
    |_=>simp[execOp,e,Instr.makeMap,run_underlying j,x,Go.asInt,Go.asIntOf]at d
def aa3{K:V->I->Prop}(A:∀q b,o.op≠.select q b)(y:Ag n a s.E)(h:(∃d,o.op=.alloc d)\/(∃d B,o.op=.box d B)\/(∃d l p,o.op=.buildSlice d l p)\/(∃d r,o.op=.makeMap d r))(x:h0 P o s.E w K):jy P o a w λv k=>af w k/\K v k:=by
 have e:uT P o s.E w K:=by
  unfold h0 at x
  grind
 obtain⟨z,e⟩:=dN e;intro C;unfold Oper.wp;rw[y.execOp A z];generalize j:(execOp s.E.ev o).run P w=r at e;split at e
 .simp only[Oper.upon];exact⟨_,rfl,SP h j,e⟩
 .simp only[Oper.upon];exact⟨_,rfl,SP h j,e⟩
 grind
def Yd{draw:Bool}{lv:Lk}(A:(V->I->Prop)->Prop)(hp:∀K,rL lv.pk.F P o a w K->A K)(h1:∀K,(bif draw then h0 else uJ) P o s.E w K->A K)(H:∀K ab,(∀v e,K v e->ab v e)->A K->A ab)(hs:∀cs b,o.op≠.select cs b)(D:Ag n a s.E)(k:Inv s w)(d:D4 P lv draw o s K):A (tY s K):=by
 have G:∀K,jy P o a w K->A K:=λK d=>hp K d.p;have back:∀v e,LC e s.L->K v none none ⟨s.E,s.S,s.L,e,false⟩->tY s K v e:=λv e C h=>⟨none,none,_,h,⟨C,gs,k.sl⟩,rfl,rfl,λi X d _=>d,λi ag hq=>by cases hq⟩;have ae:∀v e,pZ s.L w e (K v none none ⟨s.E,s.S,s.L,e,false⟩)->tY s K v e:=λv e h=>by obtain⟨C,h⟩:=ZI h k.lc;exact back v e C h
 have news:((∃q,o.op=.alloc q)\/(∃q B,o.op=.box q B)\/(∃q l p,o.op=.buildSlice q l p)\/(∃q r,o.op=.makeMap q r))->fK s (λs=>h0 P o s.E s.w λv e=>K v none none ⟨s.E,s.S,s.L,e,false⟩)->A (tY s K):=λj d=>by obtain⟨_,y⟩:=k.fK d;exact H _ _ (λv e ⟨f,h⟩=>back v e (k.lc.fr (M:=λ_=>False) f (λ_ _ d=>d)) h) (G _ (aa3 hs D j y))
 unfold D4 at d;split at d
 .rename_i q B av j;split at d
  .rename_i i ag J;obtain⟨X,O,g2,_⟩:=k.at J;split at d
   .rename_i X' v af Y;rw[O]at af;cases af;obtain⟨z,h⟩:=dN d;rw[bd]at z;obtain⟨z,hb⟩:=z;have hb:=Nat.le_of_ble_eq_true hb;refine G _ (oD hs D (Ku j g2 Y z ?_));refine TJ (i:=i) (T:=X.2.2) _ 0 w s.L X.2.1 k.lc O (by simpa using hb) k.fr λe q1 q2=>?_;refine⟨none,some i,_,h,⟨q1,?_,λt Z j' ht=>?_⟩,rfl,rfl,λZ ac hY an=>?_,λi ag hq=>by cases hq⟩
    .simp only[if_true];rw[Dg s.L i O];exact q2
    .obtain ⟨ac,y1,y2⟩:=k.sl t Z j' ht;by_cases N:i=Z
     .subst N;rw[O]at y1;cases y1;exact⟨_,List.getElem?_set_self (List.getElem?_eq_some_iff.1 O).1,y2⟩
     .exact ⟨ac,by rw[List.getElem?_set_ne N];exact y1,y2⟩
    .have N:i≠Z:=λN=>an (by rw[N]);show(s.L.set i _)[Z]? =_;rw[List.getElem?_set_ne N];exact hY
   .exact d.elim
  .obtain ⟨_,y⟩:=k.fK d;simp only at y;split at y
   .rename_i hL;exact H _ _ (λv e h=>back v e (hL▸LC.nil _) h) (G _ (oD hs D y))
   .split at y
    .rename_i p v J ap;obtain⟨z,h⟩:=dN y;exact H _ _ (λv e h=>h) (G _ (oD hs D (Ku j J ap z (TI (K':=tY s K undef) (λe C h=>back _ e C h) _ _ _ k.lc h))))
    .exact y.elim
 .rename_i q j;cases W:Aj lv.l o.dst with
  |true=>
   rw[W,cond_true]at d;obtain⟨hz,d⟩:=dN d;obtain⟨ar,hz⟩:=Option.isSome_iff_exists.1 hz;have:zeroOf P q=ar:=by unfold zeroOf;rw[hz];rfl
   rw[this]at d;exact G _ (Qc (SK j hz w) k d)
  |false=>
   rw[W,cond_false]at d;exact news (.inl ⟨q,j⟩) d
 .rename_i q B j;cases W:Aj lv.l o.dst with
  |true=>
   rw[W,cond_true]at d;split at d
   .rename_i v Y;have:=SM (P:=P) (ρ:=a.eval) j w;rw[D.val Y]at this;exact G _ (Qc this k d)
   .exact d.elim
  |false=>
   rw[W,cond_false]at d;exact news (.inr (.inl ⟨q,B,j⟩)) d
 .rename_i q l p j;exact news (.inr (.inr (.inl ⟨q,l,p,j⟩))) d
 .rename_i q r j;exact news (.inr (.inr (.inr ⟨q,r,j⟩))) d
 .rename_i f args aq j;obtain⟨I',d⟩:=k.fK d;obtain⟨z,d⟩:=dN d;have aa:args.map a.eval=args.map s.E.ev:=D.args λB J=>List.all_eq_true.1 z B (by rw[j];simp[Op.operands,Call.operands,J]);cases Q:hy P f with
  |true=>
   rw[Q,cond_true]at d;exact H _ _ (λv e ⟨C,h⟩=>back v e C h) (hp _ (JY (s:=⟨s.E,s.S,s.L,w,false⟩) (by simp[execOp,j,resolve,Act.eval,Deferred.ofValue,invoke,aa,uy Q]) k.lc rfl d))
  |false=>
   rw[Q,cond_false]at d;unfold z8 at d;obtain⟨v,e,hr,h⟩:=q0 d;refine H _ _ ae (G _ λah=>?_);unfold Oper.wp;have:(execOp a.eval o).run P w=.ok (.value v) e:=by simp[execOp,j,resolve,Act.eval,Deferred.ofValue,invoke,aa,hr]
   rw[this];simp only[Oper.upon];exact⟨_,rfl,h⟩
 .rename_i t args aq j;obtain⟨I',d⟩:=k.fK d;obtain⟨z,d⟩:=dN d;have aa:args.map a.eval=args.map s.E.ev:=D.args λB J=>List.all_eq_true.1 z B (by rw[j];simp[Op.operands,Call.operands,J]);split at d
  .rename_i f first captured hf
   obtain⟨Q,d⟩:=dN d;have am:a.eval (.tmp t)=.func (.func f) first captured:=D.val (x:=.tmp t) hf
   exact H _ _ (λv e ⟨C,h⟩=>back v e C h) (hp _ (JY (s:=⟨s.E,s.S,s.L,w,false⟩) (by simp[execOp,j,resolve,am,Deferred.ofValue,invoke,aa,uy Q]) k.lc rfl d))
  .exact d.elim
 .rename_i B j;obtain⟨I',y⟩:=k.fK d;split at y
  .rename_i t v R l Y ao;refine hp _ λah hQ=>?_;have hF:lv.pk.F=R:=by rw[ao];rfl
   rw[hF]at hQ;have aj:a.eval B=.iface t v:=D.val Y;unfold Oper.wp;have:(execOp a.eval o).run P w=.halt (.panic (.iface t v)) w:=by simp[execOp,j,aj,Instr.panic,goPanic,Sem.run]
   rw[this];exact hQ _ w y
  .exact y.elim
 .obtain ⟨_,y⟩:=k.fK d;exact H _ _ ae (h1 _ y)
end
def HI(s:TS)(H:HT)(w:I):Prop:=∀p∈H,p.2.2 w/\∀i,p.2.1=some i->∃X,s.L[i]? =some X/\∀d:I,d.heap[X.1]? =some (.cells X.2.1.toArray X.2.2 (0,0))->p.2.2 d
def fk(H:HT):eC:=H.map λp=>(p.1,p.2.2)
def u5{ops:Array Oper}{j:Nat}:∀d:HT,c9 ops j (fk d)=fk (gM ops j d)
 |[]=>rfl
 |(i,f,e)::d=>by
  show c9 ops j ((i,e)::fk d)=fk (gM ops j ((i,f,e)::d));unfold c9 gM;cases kh ops i j
  .simp only[cond_false];rw[u5 d];rfl
  .simp only[cond_true];exact u5 d
def oQ{ops:Array Oper}{j:Nat}:∀{H:HT} {p},p∈gM ops j H->p∈H/\kh ops p.1 j=false
 |(i,f,h)::H,p,d=>by
  unfold gM at d;cases e:kh ops i j with
  |true=>
   rw[e,cond_true]at d;exact⟨cP _ (oQ d).1,(oQ d).2⟩
  |false=>
   rw[e,cond_false]at d;rcases aF.1 d with rfl|d
   .grind
   .exact ⟨cP _ (oQ d).1,(oQ d).2⟩
def LQ{ops:Array Oper}{j:Nat}{w:I}:∀{H:HT} {p},p∈H->kh ops p.1 j=false->p.2.1=none->p.2.2 w∈xC ops j w H
 |(i,f,k)::H,p,d,h,e=>by
  unfold xC;rcases aF.1 d with rfl|d
  .grind
  .have:=LQ (w:=w) d h e
   grind
def Inv.put{s:TS}{w:I}(h:Inv s w)(d:Option Nat){v:V}{q:Option (Nat×Nat)}(z:∀i e,q=some (i,e)->∃X,s.L[i]? =some X/\v=.pointer (some ((aa X.1).add e))):Inv ⟨s.E.put d v,s.S.put d q,s.L,s.w,s.d⟩ w:=by
 refine⟨h.lc,h.rel,λt i e j=>?_⟩;cases d with
 |none=>exact h.sl t i e j
 |some d=>
  simp only[Sv.put,Sv.get?]at j;simp only[Env.put,Env.get?];cases k:bI d t with
  |true=>
   grind
  |false=>
   rw[k,cond_false]at j;obtain⟨X,x,y⟩:=h.sl t i e j
   grind
def acz{ops:Array Oper}{j:Nat}{s e:TS}{w w':I}{m:Option Nat}{H:HT}{K:TS->Prop}(G:HI s H w)(x:Inv e w')(N:∀i X,s.L[i]? =some X->m≠some i->e.L[i]? =some X)(O:(!((gM ops j H).any λp=>m.isSome&&p.2.1==m))=true)(k:GY ops j e H K):
  ∃h,K h/\Inv h w'/\h.E=e.E/\h.S=e.S/\h.L=e.L/\HI h (gM ops j H) w':=by
 have A:∀p∈gM ops j H,∀i,p.2.1=some i->∃X,e.L[i]? =some X/\∀w':I,w'.heap[X.1]? =some (.cells X.2.1.toArray X.2.2 (0,0))->p.2.2 w':=λp d i z=>by
  obtain⟨X,B,C⟩:=(G p (oQ d).1).2 i z
  grind
 have own:∀p∈gM ops j H,∀i,p.2.1=some i->p.2.2 w':=λp d i z=>by obtain⟨X,B,C⟩:=A p d i z;exact C w' (x.lc.own i X B)
 unfold GY at k;cases q:H.any (λp=>!(kh ops p.1 j)&&p.2.1.isNone)with
 |true=>
  rw[q,cond_true]at k;obtain⟨D,F⟩:=x.fK k;obtain⟨J,M⟩:=uk F;refine⟨_,M,D,rfl,rfl,rfl,λp d=>⟨?_,A p d⟩⟩;cases y:p.2.1 with
  |none=>exact J _ (LQ (oQ d).1 (oQ d).2 y)
  |some i=>grind
 |false=>
  rw[q,cond_false]at k;refine⟨e,k,x,rfl,rfl,rfl,λp d=>⟨?_,A p d⟩⟩;cases y:p.2.1 with
  |none=>
   exfalso;rw[List.any_eq_false]at q;exact q p (oQ d).1 (by rw[(oQ d).2,y];rfl)
  |some i=>grind
section
variable {ops:Array Oper} {n:Cx} {lv:Lk}
def HH{o:Oper}{a:Act}{s:TS}{w:I}{H:HT}{K:TS->HT->Prop}{draw:Bool}{i:Nat}(A:(V->I->Prop)->Prop)(W:∀K,rL lv.pk.F P o a w K->A K)(J:∀K,(bif draw then h0 else uJ) P o s.E w K->A K)(k:∀K j,(∀v d,K v d->j v d)->A K->A j)(hs:∀B b,o.op≠.select B b)(N:Ag n a s.E)(x:Inv s w)(L:HI s H w)(Q:calm P o=false)(e:stepT P lv ops draw i o s H K):
  A λv d=>∃h,K h (gM ops i H)/\Inv h d/\HI h (gM ops i H) d/\h.E=s.E.put o.dst v:=by unfold stepT at e;rw[Q,cond_false]at e;refine k _ _ (λv d S=>?_) (Yd A W J k hs N x e);obtain⟨ab,m,s1,T,y,C,e2,M,Y⟩:=S;obtain⟨O,Z⟩:=dN T;obtain⟨s2,k2,z,D,f2,G,q⟩:=acz L y M O Z;refine⟨_,k2,z.put o.dst λi aa e=>?_,q,by rw[D,C]⟩;rw[G];exact Y i aa e
def TP{o:Oper}{a:Act}{s:TS}{w:I}{H:HT}{K:TS->HT->Prop}{draw:Bool}{i:Nat}(O:∀B b,o.op≠.select B b)(J:Ag n a s.E)(z:Inv s w)(F:HI s H w)(M:calm P o=true)(j:stepT P lv ops draw i o s H K):
  ∃v h e k,K e k/\Inv e w/\HI e k w/\e.E=s.E.put o.dst v/\Calm P o a.eval w v h/\fk k=(bif draw then h.map (λq=>(i,q))++fk H else fk H):=by
 unfold stepT at j;rw[M,cond_true]at j;obtain⟨v,ab,h,e,N,A,C,Q,D,x,T,W⟩:=Xz O J z j;refine⟨v,h.map (·.2),_,_,N,A.put o.dst λi Z j=>?_,λp d=>?_,by rw[C],x,?_⟩
 .grind
 .have aa:p∈H->p.2.2 w/\∀i,p.2.1=some i->∃X,e.L[i]? =some X/\∀y:I,y.heap[X.1]? =some (.cells X.2.1.toArray X.2.2 (0,0))->p.2.2 y:=λd=>by rw[D];exact F p d
  cases draw with
  |false=>grind
  |true=>
   rcases aP.1 d with d|d
   .obtain ⟨q,G,rfl⟩:=List.mem_map.1 d;refine⟨x.1 _ (List.mem_map.2 ⟨q,G,rfl⟩),λY S=>?_⟩
    grind
   grind
 .cases draw with
  |false=>rfl
  |true=>simp[fk]
def EG{i d:Nat}{o:Oper}{want t:Bool}{s:TS}{H:HT}{K:TS->HT->Prop}{draw:Bool}(e:bD t (oM P lv ops draw i o d want true s H K) (oM P lv ops draw i o d want false s H K)):oM P lv ops draw i o d want t s H K:=by
 cases t
 .exact e
 .exact e
def Inv.same{s:TS}{w:I}(e:Inv s w){d:Nat}{v:V}(hd:s.E.get? d=some v):Inv ⟨(d,v)::s.E,s.S,s.L,s.w,s.d⟩ w:=by
 refine⟨e.lc,e.rel,λt i q k=>?_⟩;obtain⟨X,j,x⟩:=e.sl t i q k;refine⟨X,j,?_⟩;simp only[Env.get?];by_cases h:d=t
 .grind
 .have y:bI d t=false:=by rw[<-Bool.not_eq_true,eJ];exact h
  grind
def Inv.skip{s:TS}{w:I}(e:Inv s w)(d:Option Nat):Inv ⟨s.E.put d undef,s.S.put d none,s.L,s.w,s.d⟩ w:=e.put d λi j h=>by cases h
def HI.skip{s d:TS}{w:I}{H:HT}(h:HI s H w)(e:d.L=s.L):HI d H w:=λp j=>by rw[e];exact h p j
def HI.drop{s:TS}{w:I}{H:HT}{j:Nat}(d:HI s H w):HI s (gM ops j H) w:=λp e=>d p (oQ e).1
def HI.held{s:TS}{w:I}{H:HT}(d:HI s H w):∀p∈fk H,p.2 w:=λp e=>by obtain⟨j,h,rfl⟩:=List.mem_map.1 e;exact(d j h).1
def ue(n:Cx)(F:aC)(Q:Exit->Act->I->Prop):Prop:=∀c (a:Act) w,a.defers=n.ds->F (.panicked c) w->Q (.panic c) a w
def Ih(F:aC)(P:au)(n:Cx)(o:Oper)(a:Act)(w:I)(K:V->I->Prop):Prop:=
 ∀e:Exit->Act->I->Prop,(∀c d,F (.panicked c) d->e (.panic c) a d)->o.wpIn (FW n) 0 P a w (λh d=>∃v,h=a.put o.dst v/\K v d) e
def afb{F:aC}{i:Nat}{o:Oper}{a:Act}{w:I}{Kv:V->I->Prop}{K':Act->I->Prop}{Q:Exit->Act->I->Prop}(h:ue n F Q)(hd:a.defers=n.ds)(q:ops[i]? =some o)(y:cv o (yielded ops a.tmps)=true)(e:Ih F P n o a w Kv)(k:∀v d,Kv v d->K' (a.put o.dst v) d):wpOpIn (FW n) 0 P ops Q i K' a w:=by unfold wpOpIn;simp only[q,y,if_true];exact Oper.wpIn_mono (λz d=>by rintro⟨v,rfl,x⟩;exact k v d x) (e Q λc d j=>h c a d hd j)
def U9{F:aC}{i:Nat}{o:Oper}{a:Act}{w:I}{Kv:V->I->Prop}{K':Act->I->Prop}{Q:Exit->Act->I->Prop}(h:ue n F Q)(hd:a.defers=n.ds)(q:ops[i]? =some o)(y:cv o (yielded ops a.tmps)=true)(e:rL F P o a w Kv)(k:∀v d,Kv v d->K' (a.put o.dst v) d):wpOp P ops Q i K' a w:=by unfold wpOp;simp only[q,y,if_true];exact .inl (Oper.wp_mono (λz d=>by rintro⟨v,rfl,x⟩;exact k v d x) (e Q λc d j=>h c a d hd j))
def By{K:TS->Prop}{Q:Exit->Act->I->Prop}(J:ue n lv.pk.F Q)(k:dD n ops=true):∀(l:List Nat) (s:TS) (w:I) (a:Act),Ag n a s.E->Inv s w->runT P lv ops false K l s []->(∀x y W,Ag n W x.E->Inv x y->K x->Q .normal W y)->wpOpsIn (FW n) 0 P ops Q l a w
 |[],s,w,a,h,q,e,G=>G s w a h q e
 |i::l,s,w,a,h,q,e,G=>by
  have aa:=Region.noSelect_spec (ops:=ops) (by unfold dD at k;rw[bd]at k;exact k.1);unfold runT at e;cases j:ops[i]? with
  |none=>rw[j]at e;exact e.elim
  |some o=>
   rw[j]at e;simp only at e;have step:∀(s:TS),Ag n a s.E->Inv s w->cv o (yielded ops a.tmps)=true->stepT P lv ops false i o s [] (λx H=>runT P lv ops false K l x H)->wpOpsIn (FW n) 0 P ops Q (i::l) a w:=λs h q O e=>by
    rw[wpOpsIn_cons];cases hc:calm P o with
    |true=>
     obtain⟨v,Ss,x,H,k1,T,_,Y,ac,af⟩:=TP (λC b=>aa i o C b j) h q (λp hp=>by cases hp) hc e;have:H=[]:=by cases H with |nil=>rfl|cons am l=>cases af
     subst this;refine Ic (Kv:=λv' y=>v'=v/\y=w) j O ?_ ?_
     .refine jy.in (vz k j) λA=>?_;unfold Oper.wp;rw[ac.2 w ac.1];exact⟨v,rfl,rfl,rfl⟩
     .rintro v' y ⟨rfl,rfl⟩;exact By J k l x _ _ (by rw[Y];exact h.put _ (hg k j)) T k1 G
    |false=>
     refine afb J h.defers j O (HH (draw:=false) (s:=s) (Ih lv.pk.F P n o a w) (λK Z A hq=>If (vz k j) (Z A hq)) (λK Z A _=>Kw (λC b=>aa i o C b j) (vz k j) h Z A) (λK K' ag hA A hq=>Oper.wpIn_mono (λW y ⟨v,ae,hv⟩=>⟨v,ae,ag v y hv⟩) (hA A hq)) (λC b=>aa i o C b j) h q (λp hp=>by cases hp) hc e) λv y ⟨x,k1,T,_,Y⟩=>?_;exact By J k l x y _ (by rw[Y];exact h.put v (hg k j)) T k1 G
   have skip:∀(s:TS),Ag n a s.E->Inv s w->cv o (yielded ops a.tmps)=false->runT P lv ops false K l ⟨s.E.put o.dst undef,s.S.put o.dst none,s.L,s.w,s.d⟩ []->wpOpsIn (FW n) 0 P ops Q (i::l) a w:=λs h q O e=>by rw[wpOpsIn_cons];unfold wpOpIn;simp only[j,O];exact⟨λ_ _=>trivial,By J k l _ w _ (h.put undef (hg k j)) (q.skip o.dst) e G⟩
   have ab:(bif calm P o then([]:HT)else gM ops i [])=[]:=by cases calm P o<;>rfl
   cases B:o.guard with
   |none=>
    rw[B]at e;exact step s h q (by simp[cv,B]) e
   |some jw=>
    obtain⟨ah,want⟩:=jw;rw[B]at e;simp only at e;cases N:kU ops ah with
    |none=>rw[N]at e;exact e.elim
    |some aj=>
     rw[N]at e;simp only at e;split at e
     .rename_i t z;have hy:=tR h N z;have D:=EG e;unfold oM at D;cases M:(t==want)with
      |true=>
       rw[M,cond_true]at D;exact step _ (h.same z) (q.same z) (by simp[cv,B,hy];simpa using M) D
      |false=>
       rw[M,cond_false,ab]at D;exact skip _ (h.same z) (q.same z) (by simp[cv,B,hy];simpa using M) D
     .rename_i vs z;rw[ab]at e;exact skip s h q (by simp[cv,B,tS h N z]) e
     .exact e.elim
def fP(n:Cx)(F:aC)(K:TS->Prop):Exit->Act->I->Prop
 |.normal,a,d=>∃s,Ag n a s.E/\Inv s d/\K s
 |.panic c,a,d=>a.defers=n.ds/\F (.panicked c) d
 |_,_,_=>False
def fP.q{F:aC}{K:TS->Prop}:ue n F (fP n F K):=λ_ _ _ d e=>⟨d,e⟩
def fP.put{F:aC}{K:TS->Prop}{c:List PanicEntry}{a:Act}{w:I}{d:Option Nat}{v:V}(e:fP n F K (.panic c) (a.put d v) w):fP n F K (.panic c) a w:=by cases d<;>exact e
def adn{i:Nat}{o:Oper}{a:Act}{w:I}{H:eC}{e:Array Bool}{fuel:Nat}{Q:Exit->Act->I->Prop}(h:dD n ops=true)(j:ops[i]? =some o)(d:(bif calm P o then Region.free .any ops e i&&(ec .any ops e).contains i else ec .any ops e==[i])=true)(B:∀c a w,Q (.panic c) (a.put o.dst undef) w->Q (.panic c) a w)(q:∀p∈H,p.2 w)(A:cv o (yielded ops a.tmps)=false)(next:ep P ops Q fuel (bif calm P o then H else c9 ops i H) (e.setIfInBounds i true) (a.put o.dst undef) w):ep P ops Q (fuel+1) H e a w:=by
 have E:=Region.noSelect_spec (ops:=ops) (by unfold dD at h;rw[bd]at h;exact h.1);cases x:calm P o with
 |true=>
  rw[x]at d next
  simp only[cond_true]at d next
  rw[bd]at d;exact Cl (v:=undef) (Ss:=[]) j E B fuel H e a w (Region.free_spec j d.1) (by simpa using d.2) (.inr ⟨A,rfl⟩) (λF C=>(by cases C)) q (by simpa using next)
 |false=>
  rw[x]at d next
  simp only[cond_false]at d next
  have z:ec .any ops e=[i]:=by simpa using d
  refine λ_=>⟨λk=>(by rw[z]at k;cases k),λG y=>?_⟩;rw[z]at y;obtain rfl:=cy.1 y;unfold wpOp;simp only[j,A];exact⟨λp D=>q p (fI.1 D).1,next⟩
def Zr{o:Oper}{i:Nat}{H:HT}:(bif calm P o then fk H else c9 ops i (fk H))=fk (bif calm P o then H else gM ops i H):=by
 cases calm P o
 .exact u5 H
 .rfl
def HI.BN{o:Oper}{i:Nat}{s h:TS}{w:I}{H:HT}(d:HI s H w)(e:h.L=s.L):HI h (bif calm P o then H else gM ops i H) w:=by
 cases calm P o
 .exact d.drop.skip e
 .exact d.skip e
def Zg(B:dD n ops=true){K:TS->Prop}{i:Nat}{o:Oper}{s:TS}{w:I}{H:HT}{a:Act}{Q:TS->HT->Prop}{y:Array Bool}{fuel:Nat}(k:ops[i]? =some o)(G:(bif calm P o then Region.free .any ops y i&&(ec .any ops y).contains i else ec .any ops y==[i])=true)(h:Ag n a s.E)(x:Inv s w)(j:HI s H w)(e:xA P lv ops i s H Q)(next:∀a' A z J,Ag n a' A.E->Inv A z->HI A J z->Q A J->ep P ops (fP n lv.pk.F K) fuel (fk J) (y.setIfInBounds i true) a' z):ep P ops (fP n lv.pk.F K) (fuel+1) (fk H) y a w:=by
 have Z:=Region.noSelect_spec (ops:=ops) (by unfold dD at B;rw[bd]at B;exact B.1);have step:∀(s:TS),Ag n a s.E->Inv s w->HI s H w->cv o (yielded ops a.tmps)=true->stepT P lv ops true i o s H Q->ep P ops (fP n lv.pk.F K) (fuel+1) (fk H) y a w:=λs h x j ae e=>by
  cases W:calm P o with
  |true=>
   rw[W,cond_true,bd]at G;obtain⟨v,af,A,J,k1,I',O,e1,ac,ab⟩:=TP (λM b=>Z i o M b k) h x j W e;refine Cl (v:=v) (Ss:=af) k Z (λ_ _ _ e=>e.put) fuel (fk H) y a w (Region.free_spec k G.1) (by simpa using G.2) (.inl ⟨ae,λz aj=>ac.2 z aj⟩) ac.1 j.held ?_;rw[cond_true]at ab;rw[<-ab];exact next _ A w J (by rw[e1];exact h.put v (hg B k)) I' O k1
  |false=>
   rw[W,cond_false]at G;have hr:ec .any ops y=[i]:=by simpa using G
   refine λ_=>⟨λh0=>(by rw[hr]at h0;cases h0),λaa hj=>?_⟩;rw[hr]at hj;obtain rfl:=cy.1 hj;refine U9 fP.q h.defers k ae (HH (draw:=true) (s:=s) (rL lv.pk.F P o a w) (λK hK=>hK) (λK hK=>(oD (λM b=>Z aa o M b k) h hK).p) (λK K' ah hA Q' hq=>Oper.wp_mono (λa' z ⟨v,ag,hv⟩=>⟨v,ag,ah v z hv⟩) (hA Q' hq)) (λM b=>Z aa o M b k) h x j W e) λv z ⟨A,k1,I',O,e1⟩=>?_;rw[u5];exact⟨O.held,next _ A z _ (by rw[e1];exact h.put v (hg B k)) I' O k1⟩
 have skip:∀(s:TS),Ag n a s.E->Inv s w->HI s H w->cv o (yielded ops a.tmps)=false->Q ⟨s.E.put o.dst undef,s.S.put o.dst none,s.L,s.w,s.d⟩ (bif calm P o then H else gM ops i H)->ep P ops (fP n lv.pk.F K) (fuel+1) (fk H) y a w:=λs h x j hw e=>by refine adn B k G (λ_ _ _ e=>e.put) j.held hw ?_;rw[Zr];exact next _ _ w _ (h.put undef (hg B k)) (x.skip o.dst) (j.BN rfl) e
 unfold xA at e;rw[k]at e;simp only at e;cases D:o.guard with
 |none=>
  rw[D]at e;exact step s h x j (by simp[cv,D]) e
 |some jw=>
  obtain⟨aa,want⟩:=jw;rw[D]at e;simp only at e;cases Y:kU ops aa with
  |none=>rw[Y]at e;exact e.elim
  |some am=>
   rw[Y]at e;simp only at e;split at e
   .rename_i t C;have hy:=tR h Y C;have N:=EG e;unfold oM at N;cases T:(t==want)with
    |true=>
     rw[T,cond_true]at N;exact step _ (h.same C) (x.same C) (j.skip rfl) (by simp[cv,D,hy];simpa using T) N
    |false=>
     rw[T,cond_false]at N;exact skip _ (h.same C) (x.same C) (j.skip rfl) (by simp[cv,D,hy];simpa using T) N
   .rename_i vs C;exact skip s h x j (by simp[cv,D,tS h Y C]) e
   .exact e.elim
def Zh(G:dD n ops=true){K:TS->Prop}{i:Nat}{o:Oper}{s:TS}{w:I}{H:HT}{a:Act}{J:TS->HT->Prop}{O:Array Bool}{fuel:Nat}(z:ops[i]? =some o)(Z:calm P o=false)(j:Ag n a s.E)(y:Inv s w)(x:HI s H w)(e:xA P lv ops i s H J)(next:∀k C h Q,Ag n k C.E->Inv C h->HI C Q h->J C Q->ep P ops (fP n lv.pk.F K) fuel (fk Q) (O.setIfInBounds i true) k h):
  wpOp P ops (fP n lv.pk.F K) i (λk h=>(∀p∈c9 ops i (fk H),p.2 h)/\ep P ops (fP n lv.pk.F K) fuel (c9 ops i (fk H)) (O.setIfInBounds i true) k h) a w:=by
 have aa:=Region.noSelect_spec (ops:=ops) (by unfold dD at G;rw[bd]at G;exact G.1);have step:∀(s:TS),Ag n a s.E->Inv s w->HI s H w->cv o (yielded ops a.tmps)=true->stepT P lv ops true i o s H J->wpOp P ops (fP n lv.pk.F K) i (λk h=>(∀p∈c9 ops i (fk H),p.2 h)/\ep P ops (fP n lv.pk.F K) fuel (c9 ops i (fk H)) (O.setIfInBounds i true) k h) a w:=λs j y x ae e=>by refine U9 fP.q j.defers z ae (HH (draw:=true) (s:=s) (rL lv.pk.F P o a w) (λK W=>W) (λK W=>(oD (λT b=>aa i o T b z) j W).p) (λK K' ac hA Q' hq=>Oper.wp_mono (λk h ⟨v,ab,hv⟩=>⟨v,ab,ac v h hv⟩) (hA Q' hq)) (λT b=>aa i o T b z) j y x Z e) λv h ⟨C,k1,I',Y,e1⟩=>?_;rw[u5];exact⟨Y.held,next _ C h _ (by rw[e1];exact j.put v (hg G z)) I' Y k1⟩
 have skip:∀(s:TS),Ag n a s.E->Inv s w->HI s H w->cv o (yielded ops a.tmps)=false->J ⟨s.E.put o.dst undef,s.S.put o.dst none,s.L,s.w,s.d⟩ (bif calm P o then H else gM ops i H)->wpOp P ops (fP n lv.pk.F K) i (λk h=>(∀p∈c9 ops i (fk H),p.2 h)/\ep P ops (fP n lv.pk.F K) fuel (c9 ops i (fk H)) (O.setIfInBounds i true) k h) a w:=λs j y x hw e=>by refine Hv z x.held hw ?_;rw[Z,cond_false]at e;rw[u5];exact next _ _ w _ (j.put undef (hg G z)) (y.skip o.dst) (x.drop.skip rfl) e
 unfold xA at e;rw[z]at e;simp only at e;cases B:o.guard with
 |none=>
  rw[B]at e;exact step s j y x (by simp[cv,B]) e
 |some jw=>
  obtain⟨af,want⟩:=jw;rw[B]at e;simp only at e;cases N:kU ops af with
  |none=>rw[N]at e;exact e.elim
  |some ag=>
   rw[N]at e;simp only at e;split at e
   .rename_i t A;have hy:=tR j N A;have D:=EG e;unfold oM at D;cases M:(t==want)with
    |true=>
     rw[M,cond_true]at D;exact step _ (j.same A) (y.same A) (x.skip rfl) (by simp[cv,B,hy];simpa using M) D
    |false=>
     rw[M,cond_false]at D;exact skip _ (j.same A) (y.same A) (x.skip rfl) (by simp[cv,B,hy];simpa using M) D
   .rename_i vs A;exact skip s j y x (by simp[cv,B,tS j N A]) e
   .exact e.elim
def yY(G:dD n ops=true){K:TS->Prop}:∀(t:Tr) (alt:Bool) (e:Array Bool) (s:TS) (w:I) (H:HT) (a:Act) (m:Nat),iU P ops t alt e=true->Ag n a s.E->Inv s w->HI s H w->rD P lv ops K t s H->
  (alt=false->t.len=m->ep P ops (fP n lv.pk.F K) m (fk H) e a w)/\
  (alt=true->t.len=m+1->∀i∈t.ka,wpOp P ops (fP n lv.pk.F K) i (λy k=>(∀p∈c9 ops i (fk H),p.2 k)/\ep P ops (fP n lv.pk.F K) m (c9 ops i (fk H)) (e.setIfInBounds i true) y k) a w)
 |.nil,alt,e,s,w,H,a,m,d,A,x,D,h=>by
  unfold iU at d;rw[bd]at d;refine⟨λ_ j=>?_,λz=>?_⟩
  .subst j;exact λ_=>⟨by simpa using d.2,s,A,x,h⟩
  .subst z;simp at d
 |.one i t,alt,e,s,w,H,a,m,d,A,x,D,h=>by
  unfold iU at d;rw[bd]at d;obtain⟨d,ab⟩:=d;cases L:ops[i]? with
  |none=>rw[L]at d;cases d
  |some o=>
   rw[L]at d;simp only at d;unfold rD at h;refine⟨λz j=>?_,λz j ae hj=>?_⟩
   .subst z j;exact Zg G L d A x D h λy Z k N O S Q T=>(yY G t false _ Z k N y _ ab O S Q T).1 rfl rfl
   .subst z;rw[cond_true]at d;obtain rfl:=cy.1 hj;have W:t.len=m:=by simpa[Tr.len]using j
    exact Zh G L (by simpa using d) A x D h λy Z k N O S Q T=>(yY G t false _ Z k N y _ ab O S Q T).1 rfl W
 |.fork C M,alt,e,s,w,H,a,m,d,A,x,D,h=>by
  unfold iU at d;simp only[bd]at d;obtain⟨hr,hl,Y,hy⟩:=d;rw[eJ]at hl;unfold rD at h;have both:∀q,C.len=q+1->∀i∈(Tr.fork C M).ka,wpOp P ops (fP n lv.pk.F K) i (λy k=>(∀p∈c9 ops i (fk H),p.2 k)/\ep P ops (fP n lv.pk.F K) q (c9 ops i (fk H)) (e.setIfInBounds i true) y k) a w:=λq J i B=>by
   rcases aP.1 B with B|B
   .exact (yY G C true e s w H a q Y A x D h.1).2 rfl J i B
   .exact (yY G M true e s w H a q hy A x D h.2).2 rfl (hl▸J) i B
  refine⟨λz j=>?_,λ_ j=>both m j⟩;subst z;obtain⟨q,J⟩:=HX C e Y;have W:m=q+1:=by rw[<-j,<-J];rfl
  subst W;have aa:ec .any ops e=(Tr.fork C M).ka:=by simpa using hr
  have ac:(Tr.fork C M).ka≠[]:=by have:=HW C e Y;simp[Tr.ka,this]
  exact λ_=>⟨λh0=>absurd (aa▸h0) ac,λi B=>both q J i (aa▸B)⟩
def acC{c:Code}{a:Act}{s:TS}{w:I}{K:TS->Prop}(d:ti n c=true)(z:Ag n a s.E)(k:Inv s w)(y:runT P lv (Code.ops c) false K (List.range (Code.ops c).size) s []):g5 P n c (fP n lv.pk.F K) a w:=by
 unfold ti at d;split at d
 .rename_i id ops x;rw[bd]at d;obtain⟨e,h⟩:=d;have j:x=false:=by simpa using e
  subst j;exact wpIn_region (By fP.q h _ s w a z k y λA C B e h j=>⟨A,e,h,j⟩)
 .cases d
def Inv.dr{s:TS}{w:I}{K:TS->Prop}(e:Inv s w)(d:zU s K):∃h,K h/\Inv h w.drew/\h.E=s.E:=by
 have lc:LC w.drew s.L:=e.lc.fr (M:=λ_=>False) (Fr.drew _ _) (λ_ _ d=>d);unfold zU at d;split at d
 .rename_i q j;have k:=e.rel;rw[j]at k;have:w=s.w:=by grind
  exact⟨_,d,⟨lc,by grind,e.sl⟩,rfl⟩
 .exact ⟨_,d,⟨lc,by simpa using e.fr.gp (Fr.drew _ _),e.sl⟩,rfl⟩
def acA{c:Code}{a:Act}{s:TS}{w:I}{K:TS->Prop}{t:Tr}(d:vO P n c t=true)(A:Ag n a s.E)(k:Inv s w)(e:zU s λs=>rD P lv (Code.ops c) K t s []):g5 P n c (fP n lv.pk.F K) a w:=by
 unfold vO at d;split at d
 .rename_i id ops J;simp only[bd]at d;obtain⟨rfl,D,j,C,h⟩:=d;rw[eJ]at h;obtain⟨H,B,q,x⟩:=k.dr e;have y:=(yY j t false _ H w.drew [] a _ C (by rw[x];exact A) q (λp G=>(by cases G)) B).1 rfl h;have z:=y7 _ [] _ _ _ (Down.zero _ _) y;refine wpIn_region_draw λt=>?_;refine tP j (λ⟨_,_,e⟩=>e) _ _ _ ?_;simp only[Region.schedule,D,Bool.true_or,if_true];exact wpAny_sound ops.size t _ a _ z
 .cases d
end
end
abbrev KT:=Exit->TS->Prop
structure ox where
 ord:Nat->Option Tr
 pt:List Bool->Option (TS->Prop)
 lv:Lk
def rn(e:ox)(q:List Bool)(f:TS->Prop)(s:TS):Prop:=match e.pt q with
 |some d=>fK s d
 |none=>f s
def Tf(e:ox)(q:List Bool)(f:TS->Prop)(K:KT):KT:=λd s=>match d with
 |.normal=>rn e q f s
 |d=>K d s
def zD(id:Nat)(K:KT):KT:=λd s=>match d with
 |.exit e=>if e=id then K .normal s else K (.exit e) s
 |d=>K d s
def ja(P:au)(n:Cx)(h:ox):Code->List Bool->KT->TS->Prop
 |.skip,_,d,s=>d .normal s
 |.region id ops true,_,d,s=>match h.ord id with
  |some t=>cM (vO P n (.region id ops true) t) (zU s λs=>rD P h.lv ops (d .normal) t s [])
  |none=>False
 |.region id ops false,_,d,s=>cM (ti n (.region id ops false)) (runT P h.lv ops false (d .normal) (List.range ops.size) s [])
 |.seq a b,e,d,s=>ja P n h a (false::e) (Tf h (true::e) (ja P n h b (true::e) d) d) s
 |.cond o a b,e,d,s=>iM (s.E.val o) (rn h (false::e) (ja P n h a (false::e) d) s) (rn h (true::e) (ja P n h b (true::e) d) s)
 |.block id a,e,d,s=>ja P n h a (false::e) (zD id d) s
 |.loop _,e,_,s=>rn h e (λ_=>False) s
 |.exit id,_,d,s=>d (.exit id) s
 |.ret,_,d,s=>d .ret s
 |_,_,_,_=>False
section
variable {P:au} {n:Cx} {tb:ox}
def gD(P:au)(n:Cx)(k:Code)(j:Exit->Act->I->Prop):List Bool->Code×(Exit->Act->I->Prop)
 |[]=>(k,j)
 |b::q=>match gD P n k j q,b with
  |(.seq e h,d),false=>(e,Exit.then (g5 P n h d) d)
  |(.seq _ h,d),true=>(h,d)
  |(.cond _ e _,d),false=>(e,d)
  |(.cond _ _ h,d),true=>(h,d)
  |(.block id e,d),_=>(e,Exit.inBlock id d)
  |(.loop e,d),_=>(e,Exit.then (qL P n e d) d)
  |(_,d),_=>(.skip,d)
def tU(P:au)(n:Cx)(p:Code×(Exit->Act->I->Prop))(a:Act)(w:I):Prop:=match p with
 |(.loop e,d)=>qL P n e d a w
 |(c,d)=>g5 P n c d a w
def tU.wp{c:Code}{Q:Exit->Act->I->Prop}{a:Act}{w:I}(d:tU P n (c,Q) a w):g5 P n c Q a w:=by
 unfold tU at d;split at d
 .rename_i j h e;cases e;exact U' d
 grind
def KQ(n:Cx)(F:aC)(K:KT)(Q:Exit->Act->I->Prop):Prop:=(∀d s e a,Ag n a s.E->Inv s e->K d s->Q d a e)/\ue n F Q
def ug(P:au)(n:Cx)(tb:ox)(k:Code)(j:Exit->Act->I->Prop):Prop:=∀e d,tb.pt e=some d->∀s h a,Ag n a s.E->Inv s h->d s->tU P n (gD P n k j e) a h
variable {c0:Code} {Q0:Exit->Act->I->Prop}
def ym(y:ug P n tb c0 Q0){q:List Bool}{c:Code}{Q:Exit->Act->I->Prop}(A:gD P n c0 Q0 q=(c,Q)){f:TS->Prop}{s:TS}{w:I}{a:Act}(z:Ag n a s.E)(h:Inv s w)(B:f s->g5 P n c Q a w)(d:rn tb q f s):g5 P n c Q a w:=by
 unfold rn at d;split at d
 .rename_i e x;obtain⟨j,k⟩:=h.fK d;have:=y q e x ⟨s.E,s.S,s.L,w,false⟩ w a z j k;rw[A]at this;exact this.wp
 grind
def Sq{F:aC}{c:Code}{K:TS->Prop}{Q:Exit->Act->I->Prop}{a:Act}{w:I}(x:ue n F Q)(k:g5 P n c (fP n F K) a w)(q:∀s w a,Ag n a s.E->Inv s w->K s->Q .normal a w):g5 P n c Q a w:=
 wpIn_mono k λj e h d=>by
  cases j with
  |normal=>obtain⟨s',hA,hI,hK⟩:=d;exact q s' h e hA hI hK
  |panic c=>exact x c e h d.1 d.2
  |_=>exact d.elim
def pN(A:ug P n tb c0 Q0):∀(c:Code) (q:List Bool) (K:KT) (Q:Exit->Act->I->Prop) (s:TS) (w:I) (a:Act),gD P n c0 Q0 q=(c,Q)->KQ n tb.lv.pk.F K Q->Ag n a s.E->Inv s w->ja P n tb c q K s->g5 P n c Q a w
 |.skip,q,K,Q,s,w,a,k,e,h,j,d=>wpIn_skip (e.1 _ _ _ _ h j d)
 |.region id ops true,q,K,Q,s,w,a,k,e,h,j,d=>by
  unfold ja at d;split at d
  .obtain ⟨y,z⟩:=dN d;exact Sq e.2 (acA (c:=.region id ops true) y h j z) λs w a y z N=>e.1 _ _ _ _ y z N
  .exact d.elim
 |.region id ops false,q,K,Q,s,w,a,k,e,h,j,d=>by unfold ja at d;obtain⟨y,z⟩:=dN d;exact Sq e.2 (acC (c:=.region id ops false) y h j z) λs w a y z N=>e.1 _ _ _ _ y z N
 |.seq B L,q,K,Q,s,w,a,k,e,h,j,d=>by
  unfold ja at d;have J:gD P n c0 Q0 (false::q)=(B,Exit.then (g5 P n L Q) Q):=by unfold gD;rw[k]
  have M:gD P n c0 Q0 (true::q)=(L,Q):=by unfold gD;rw[k]
  refine wpIn_seq (pN A B (false::q) _ _ s w a J ⟨λx S T O H D C=>?_,λc a w y z=>e.2 c a w y z⟩ h j d);cases x with
  |normal=>exact ym A M H D (λG=>pN A L (true::q) K Q S T O M e H D G) C
  |_=>exact e.1 _ _ _ _ H D C
 |.cond o B L,q,K,Q,s,w,a,k,e,h,j,d=>by
  unfold ja at d;have J:gD P n c0 Q0 (false::q)=(B,Q):=by unfold gD;rw[k]
  have M:gD P n c0 Q0 (true::q)=(L,Q):=by unfold gD;rw[k]
  unfold iM at d;split at d
  .rename_i t W;refine wpIn_cond_split (h.val W) (λx=>?_) (λx=>?_)
   .subst x;exact ym A J h j (λG=>pN A B (false::q) K Q s w a J e h j G) d
   .subst x;exact ym A M h j (λG=>pN A L (true::q) K Q s w a M e h j G) d
  .exact d.elim
 |.block id B,q,K,Q,s,w,a,k,e,h,j,d=>by
  unfold ja at d;have J:gD P n c0 Q0 (false::q)=(B,Exit.inBlock id Q):=by unfold gD;rw[k]
  refine wpIn_block (pN A B (false::q) _ _ s w a J ⟨λx S T O H D C=>?_,λc a w y z=>e.2 c a w y z⟩ h j d);cases x with
  |exit Y=>
   simp only[zD]at C;simp only[Exit.inBlock];split at C
   .rename_i x;rw[ag x];exact e.1 _ _ _ _ H D C
   .rename_i x;rw[ab x];exact e.1 _ _ _ _ H D C
  |_=>exact e.1 _ _ _ _ H D C
 |.loop B,q,K,Q,s,w,a,k,e,h,j,d=>by unfold ja at d;exact ym A k h j (λG=>G.elim) d
 |.exit id,q,K,Q,s,w,a,k,e,h,j,d=>wpIn_exit (e.1 _ _ _ _ h j d)
 |.ret,q,K,Q,s,w,a,k,e,h,j,d=>wpIn_ret (e.1 _ _ _ _ h j d)
 |.rangeFunc ..,_,_,_,_,_,_,_,_,_,_,d=>d.elim
 |.scope _,_,_,_,_,_,_,_,_,_,_,d=>d.elim
 |.label _,_,_,_,_,_,_,_,_,_,_,d=>d.elim
 |.goto _,_,_,_,_,_,_,_,_,_,_,d=>d.elim
 |.refuse _,_,_,_,_,_,_,_,_,_,_,d=>d.elim
def AA(tb:ox)(q:List Bool)(K:KT):KT:=λd s=>match d with
 |.normal=>rn tb q (λ_=>False) s
 |d=>K d s
def pY(P:au)(n:Cx)(tb:ox)(c0:Code)(k:KT):List Bool->Code×KT
 |[]=>(c0,k)
 |b::j=>match pY P n tb c0 k j,b with
  |(.seq e h,d),false=>(e,Tf tb (true::j) (ja P n tb h (true::j) d) d)
  |(.seq _ h,d),true=>(h,d)
  |(.cond _ e _,d),false=>(e,d)
  |(.cond _ _ h,d),true=>(h,d)
  |(.block id e,d),_=>(e,zD id d)
  |(.loop e,d),_=>(e,AA tb j d)
  |(_,d),_=>(.skip,d)
def EX(C:ug P n tb c0 Q0){A:KT}(K:KQ n tb.lv.pk.F A Q0):∀h:List Bool,(pY P n tb c0 A h).1=(gD P n c0 Q0 h).1/\KQ n tb.lv.pk.F (pY P n tb c0 A h).2 (gD P n c0 Q0 h).2
 |[]=>⟨rfl,K⟩
 |b::h=>by
  obtain⟨B,d⟩:=EX C K h;unfold pY gD;generalize M:gD P n c0 Q0 h=p at B d;generalize pY P n tb c0 A h=k at B d;obtain⟨c,J⟩:=p;obtain⟨W,T⟩:=k;simp only at B d;subst B;cases W with
  |seq G H=>
   cases b with
   |false=>
    refine⟨rfl,λx s j a w q e=>?_,λc a j y z=>d.2 c a j y z⟩;cases x with
    |normal=>
     have N:gD P n c0 Q0 (true::h)=(H,J):=by unfold gD;rw[M]
     exact ym C N w q (λD=>pN C H (true::h) T J s j a N d w q D) e
    |_=>exact d.1 _ _ _ _ w q e
   |true=>exact⟨rfl,d⟩
  |cond o G H=>cases b<;>exact⟨rfl,d⟩
  |block id G=>
   cases b<;>(
    refine⟨rfl,λx s j a w q e=>?_,λc a j y z=>d.2 c a j y z⟩;cases x with
    |exit Z=>
     simp only[zD]at e;simp only[Exit.inBlock];split at e
     .rename_i x;rw[ag x];exact d.1 _ _ _ _ w q e
     .rename_i x;rw[ab x];exact d.1 _ _ _ _ w q e
    |_=>exact d.1 _ _ _ _ w q e)
  |loop G=>
   cases b<;>(
    refine⟨rfl,λx s j a w q e=>?_,λc a j y z=>d.2 c a j y z⟩;cases x with
    |normal=>
     simp only[AA,rn]at e;split at e
     .rename_i O Y;obtain⟨Q,D⟩:=q.fK e;have:=C h O Y ⟨s.E,s.S,s.L,j,false⟩ j a w Q D;rw[M]at this;exact this
     .exact e.elim
    |_=>exact d.1 _ _ _ _ w q e)
  |_=>cases b<;>exact⟨rfl,d⟩
def DY(P:au)(n:Cx)(tb:ox)(c0:Code)(e:KT)(q:List Bool)(s:TS):Prop:=match pY P n tb c0 e q with
 |(.loop h,d)=>ja P n tb h (false::q) (AA tb q d) s
 |(c,d)=>ja P n tb c q d s
def XV(x:ug P n tb c0 Q0){d:KT}(C:KQ n tb.lv.pk.F d Q0){q:List Bool}{s:TS}{w:I}{a:Act}(G:Ag n a s.E)(A:Inv s w)(e:DY P n tb c0 d q s):tU P n (gD P n c0 Q0 q) a w:=by
 obtain⟨h,j⟩:=EX x C q;have D:=EX x C (false::q);unfold DY at e;generalize H:gD P n c0 Q0 q=p at h j;generalize L:pY P n tb c0 d q=k at e h j;obtain⟨c,z⟩:=p;obtain⟨K,B⟩:=k;simp only at h j;subst h;cases K with
 |loop y=>
  have J:gD P n c0 Q0 (false::q)=(y,Exit.then (qL P n y z) z):=by unfold gD;rw[H]
  have M:pY P n tb c0 d (false::q)=(y,AA tb q B):=by unfold pY;rw[L]
  rw[J,M]at D;exact MZ (pN x y (false::q) _ _ s w a J D.2 G A e)
 |_=>exact pN x _ q B z s w a H j G A e
end
section
variable {P:au}
def qq(P:au)(s:TS):List ResultVar->(List V->Prop)->Prop
 |[],d=>d []
 |.tmp t::l,d=>match s.E.get? t with
  |some v=>qq P s l λe=>d (v::e)
  |none=>False
 |.cell j h::l,d=>match s.S.get? j with
  |some (i,k)=>match s.L[i]? with
   |some X=>E6 P h X.2.1 k λv=>qq P s l λe=>d (v::e)
   |none=>False
  |none=>match s.E.get? j with
   |some (.pointer (some p))=>oO P h p s.w λv _=>qq P s l λe=>d (v::e)
   |_=>False
def vQ(P:au)(fn:Func)(R:aC):KT:=λd s=>match d with
 |.normal|.ret=>fK s λs=>qq P s fn.results.toList λe=>R (ad (GB e)) s.w
 |_=>False
def Hb{n:Cx}{a:Act}{s:TS}{w:I}(q:Ag n a s.E)(k:Inv s w)(B:s.w=w):∀{l:List ResultVar} {K:List V->Prop},qq P s l K->
  ∃e,(l.mapM (qp a.tmps)).run P w=.ok e w/\K e
 |[],K,d=>⟨[],gs,d⟩
 |.tmp t::l,K,d=>by
  unfold qq at d;split at d
  .rename_i v j;obtain⟨e,A,h⟩:=Hb q k B d;refine⟨v::e,?_,h⟩;have y:=q.get t v j;simp[List.mapM_cons,qp,A,y]
  grind
 |.cell x C::l,K,d=>by
  have fin:∀(p:Addr) (v:V),s.E.get? x=some (.pointer (some p))->(loadVar C p).run P w=.ok v w->(qq P s l λe=>K (v::e))->∃e,((ResultVar.cell x C::l).mapM (qp a.tmps)).run P w=.ok e w/\K e:=λp v z j d=>by obtain⟨e,A,h⟩:=Hb q k B d;refine⟨v::e,?_,h⟩;have y:=q.get x _ z;simp[List.mapM_cons,qp,A,y,asAddr,j]
  unfold qq at d;split at d
  .rename_i i L J;obtain⟨X,D,F⟩:=k.sl x i L J;rw[D]at d;obtain⟨v,h,j⟩:=MD (b:=X.1) (ty:=X.2.2) d;exact fin _ v F (j w (k.lc.own i X D)) h
  .split at d
   .rename_i p z;rw[B]at d;obtain⟨v,M,d,G,H⟩:=E7 d;exact fin p v z (H w G) d
   grind
def Su{m:Nat}{fn:Func}{F R:aC}(B:∀c d,F (.panicked c) d->R (.panicked c) d):KQ (cx m) F (vQ P fn R) (bodyPost P fn R):=by
 refine⟨?_,λc a d z A=>⟨z,B c d A⟩⟩;intro x s d a j k e;have go:(fK s λs=>qq P s fn.results.toList λh=>R (ad (GB h)) s.w)->a.defers=[]/\∃v,(results fn a.tmps).run P d=.ok v d/\R (ad v) d:=λe=>by
  obtain⟨q,y⟩:=k.fK e;obtain⟨h,D,C⟩:=Hb (s:=⟨s.E,s.S,s.L,d,false⟩) j q rfl y;refine⟨j.defers,_,?_,C⟩;rw[G',<-Array.toArray_toList (xs:=fn.results),List.mapM_toArray];simp only[Sem.run_bind,Sem.run_map,D,Result.andThen_ok,Sem.run_pure];congr 1;cases h with
  |nil=>rfl
  |cons v h=>cases h<;>rfl
 unfold vQ at e;cases x with
 |normal=>exact go e
 |ret=>exact go e
 |_=>exact e.elim
def Xx{f:b3}{fn:Func}{c:Code}{args:List V}{w:I}{R:aC}{e:ox}(h:∀c w,e.lv.pk.F (.panicked c) w->R (.panicked c) w)(x:P.funcs[f]? =some fn)(q:fn.body=some c)(y:Nat.ble args.length fn.ntmps=true)(j:ug P (cx fn.ntmps) e c (bodyPost P fn R))(d:ja P (cx fn.ntmps) e c [] (vQ P fn R) ⟨kS 0 args,[],[],w,false⟩):ai P f args.toArray w R:=
 wW x q y λa k=>pN j c [] _ _ _ w a rfl (Su h) k ⟨LC.nil _,gs,λt i z d=>by cases d⟩ d
end
inductive Sh
 |i (k:ij)|b|st|s|p|r|m|v|f
abbrev Sh.T:Sh->Type
 |.i _=>Int
 |.b=>Bool
 |.st=>ByteArray
 |.s=>Sl
 |.p=>Option Addr
 |.r=>Addr
 |.m=>Option Nat
 |.v=>V
 |.f=>Fv
def Sh.val:(e:Sh)->e.T->V
 |.i h,d=>.int h d
 |.b,d=>.bool d
 |.st,d=>.string d
 |.s,d=>Sl.v d
 |.p,d=>.pointer d
 |.r,d=>.pointer (some d)
 |.m,d=>.map d
 |.v,d=>d
 |.f,d=>Fv.v d
def Sh.rd(e:Sh)(v:V)(K:e.T->Prop):Prop:=match e,v,K with
 |.i k,.int q d,K=>cM (q==k) (K d)
 |.b,.bool d,K=>K d
 |.st,.string d,K=>K d
 |.s,.slice a n c,K=>K ⟨a,n,c⟩
 |.p,.pointer d,K=>K d
 |.r,.pointer (some d),K=>K d
 |.m,.map d,K=>K d
 |.v,d,K=>K d
 |.f,.func (.func n) h j,K=>K ⟨n,h,j⟩
 |_,_,_=>False
def Sh.acy{e:Sh}{v:V}{K:e.T->Prop}(d:e.rd v K):∃h,v=e.val h/\K h:=by
 unfold Sh.rd at d;split at d<;>first |exact d.elim|skip
 .obtain ⟨j,k⟩:=dN d;have:=eq_of_beq j;subst this;exact⟨_,rfl,k⟩
 all_goals exact⟨_,rfl,d⟩
inductive Tk
 |o (h:Sh)|a (k:Nat)|t (k:Nat)|g (n j k:Nat)
abbrev Tk.I:Tk:=.o (.i .i64)
abbrev Tk.U:Tk:=.o (.i .u64)
abbrev Tk.Y:Tk:=.o (.i .u8)
abbrev Tk.i(k:ij):Tk:=.o (.i k)
abbrev Tk.b:Tk:=.o .b
abbrev Tk.st:Tk:=.o .st
abbrev Tk.s:Tk:=.o .s
abbrev Tk.p:Tk:=.o .p
abbrev Tk.r:Tk:=.o .r
abbrev Tk.m:Tk:=.o .m
abbrev Tk.v:Tk:=.o .v
abbrev Tk.f:Tk:=.o .f
abbrev mQ:List Tk->Type->Type
 |[],X=>X
 |.o d::l,X=>d.T->mQ l X
 |.a _::l,X=>mQ l X
 |.t _::l,X=>mQ l X
 |.g _ _ _::l,X=>mQ l X
inductive Sp
 |v (l:List Tk)
 |l (l:List Tk) (T:aE)
abbrev Sp.I:Sp:=.v [.I]
abbrev Sp.U:Sp:=.v [.U]
abbrev Sp.Y:Sp:=.v [.Y]
abbrev Sp.b:Sp:=.v [.b]
abbrev Sp.st:Sp:=.v [.st]
abbrev Sp.s:Sp:=.v [.s]
abbrev Sp.p:Sp:=.v [.p]
abbrev Sp.r:Sp:=.v [.r]
abbrev Sp.m:Sp:=.v [.m]
abbrev Sp.f:Sp:=.v [.f]
abbrev g6:List (Nat×Sp)->Type
 |[]=>I->aC->Prop
 |(_,.v d)::l=>mQ d (g6 l)
 |(_,.l d _)::l=>Nat->mQ d (g6 l)
def o2:(ts:List Tk)->(X:Type)->List V->mQ ts X->(X->Prop)->Prop
 |[],_,[],d,e=>e d
 |.o w::ts,X,v::h,d,e=>w.rd v λy=>o2 ts X h (d y) e
 |.a j::ts,X,.agg a::h,d,e=>cM (bI a.toList.length j) (o2 ts X (a.toList++h) d e)
 |.t j::ts,X,.tuple a::h,d,e=>cM (bI a.toList.length j) (o2 ts X (a.toList++h) d e)
 |.g n x j::ts,X,.func (.func m) k q::h,d,e=>cM (bI n m&&bI k.toList.length x&&bI q.toList.length j) (o2 ts X (k.toList++(q.toList++h)) d e)
 |_,_,_,_,_=>False
def qd:(ts:List Tk)->(X:Type)->(List V->X)->mQ ts X
 |[],_,e=>e []
 |.o k::ts,X,e=>λq=>qd ts X λd=>e (k.val q::d)
 |.a h::ts,X,e=>qd ts X λd=>e (.agg (d.take h).toArray::d.drop h)
 |.t h::ts,X,e=>qd ts X λd=>e (.tuple (d.take h).toArray::d.drop h)
 |.g n j h::ts,X,e=>qd ts X λd=>e (.func (.func n) (d.take j).toArray ((d.drop j).take h).toArray::(d.drop j).drop h)
def RY:∀{ts:List Tk} {X:Type} {vs:List V} {K:List V->X} {j:X->Prop},o2 ts X vs (qd ts X K) j->j (K vs):=by
 intro ts;induction ts with
 |nil=>
  intro X vs K j d;cases vs with
  |nil=>exact d
  |cons _ _=>exact d.elim
 |cons t ts q=>
  intro X vs K j d;cases t with
  |o C=>
   cases vs with
   |nil=>exact d.elim
   |cons v vs=>
    obtain⟨F,rfl,D⟩:=Sh.acy d;exact q (K:=λvs=>K (C.val F::vs)) D
  |a e=>
   cases vs with
   |nil=>exact d.elim
   |cons v vs=>
    cases v with
    |agg a=>
     obtain⟨h,k⟩:=dN (show cM (bI a.toList.length e) (o2 ts X (a.toList++vs) _ j)from d);rw[eJ]at h;have:=q (K:=λvs=>K (.agg (vs.take e).toArray::vs.drop e)) k;rw[List.take_left' h,List.drop_left' h]at this;omega
    |_=>exact d.elim
  |t e=>
   cases vs with
   |nil=>exact d.elim
   |cons v vs=>
    cases v with
    |tuple a=>
     obtain⟨h,k⟩:=dN (show cM (bI a.toList.length e) (o2 ts X (a.toList++vs) _ j)from d);rw[eJ]at h;have:=q (K:=λvs=>K (.tuple (vs.take e).toArray::vs.drop e)) k;rw[List.take_left' h,List.drop_left' h]at this;omega
    |_=>exact d.elim
  |g n w e=>
   cases vs with
   |nil=>exact d.elim
   |cons v vs=>
    cases v with
    |func B x y=>
     cases B with
     |func m=>
      obtain⟨h,k⟩:=dN (show cM (bI n m&&bI x.toList.length w&&bI y.toList.length e) (o2 ts X (x.toList++(y.toList++vs)) _ j)from d);rw[bd,bd,eJ,eJ,eJ]at h;obtain⟨⟨E,z⟩,A⟩:=h;have:=q (K:=λvs=>K (.func (.func n) (vs.take w).toArray ((vs.drop w).take e).toArray::(vs.drop w).drop e)) k;rw[List.take_left' z,List.drop_left' z,List.take_left' A,List.drop_left' A,E]at this;omega
     |_=>exact d.elim
    |_=>exact d.elim
def jN:(l:List (Nat×Sp))->Nat->(Env->Sv->Lv->I->aC->Prop)->g6 l
 |[],_,d=>d [] [] []
 |(t,.v k)::l,n,d=>qd k (g6 l) λq=>jN l n λe j h=>d ((t,q.headD undef)::e) j h
 |(t,.l k w)::l,n,d=>λb=>qd k (g6 l) λq=>jN l (n+1) λe j h=>d ((t,.pointer (some (aa b)))::e) ((t,some (n,0))::j) ((b,q,w)::h)
def rq:(l:List (Nat×Sp))->g6 l->TS->List Nat->I->aC->Prop
 |[],d,_,_,h,e=>d h e
 |(t,.v k)::l,d,s,is,h,e=>match s.E.get? t with
  |some v=>o2 k (g6 l) [v] d λj=>rq l j s is h e
  |none=>False
 |(t,.l k q)::l,d,s,is,h,e=>match s.S.get? t with
  |some (i,0)=>match s.L[i]? with
   |some X=>cM (bI X.2.2 q&&!is.any (bI i)) (o2 k (g6 l) X.2.1 (d X.1) λj=>rq l j s (i::is) h e)
   |none=>False
  |_=>False
def LI{E E':Env}{t:Nat}{v:V}(q:E'.get? t=some v)(k:∀t v,E.get? t=some v->E'.get? t=some v):∀d e,Env.get? ((t,v)::E) d=some e->E'.get? d=some e:=λd e j=>by
 simp only[Env.get?]at j;cases h:bI t d with
 |true=>
  rw[h,cond_true]at j;rw[eJ]at h
  grind
 |false=>
  grind
structure cY(s:TS)(n:Nat)(is js:List Nat)(E:Env)(S:Sv):Prop where
 sub:∀t v,E.get? t=some v->s.E.get? t=some v
 nd:js.Nodup
 dj:∀j∈js,j∉is
 lt:∀j∈js,∃X,s.L[j]? =some X
 sl:∀t i k,S.get? t=some (i,k)->n<=i/\∃j,js[i - n]? =some j/\s.S.get? t=some (j,k)/\∃v,E.get? t=some v
def acx{s:TS}{w:I}(Q:Inv s w){R:aC}:∀{l:List (Nat×Sp)} {n:Nat} {K:Env->Sv->Lv->I->aC->Prop} {is:List Nat},rq l (jN l n K) s is w R->
  ∃h j y,cY s n is y h j/\K h j (y.filterMap λk=>(s.L[k]? :Option (Nat×List V×aE))) w R:=by
 intro l;induction l with
 |nil=>
  intro n K is d;exact⟨[],[],[],⟨λt v d=>by(simp[Env.get?]at d),.nil,λ_ d=>by grind,λ_ d=>by grind,λt i C d=>by(cases d)⟩,d⟩
 |cons p l O=>
  intro n K is d;obtain⟨t,sp⟩:=p;cases sp with
  |v ts=>
   unfold rq at d;split at d
   .rename_i v hv;have F:=RY (K:=λH=>jN l n λh j E=>K ((t,H.headD undef)::h) j E) d;obtain⟨h,j,y,e,N⟩:=O F;refine⟨(t,v)::h,j,y,⟨LI hv e.sub,e.nd,e.dj,e.lt,λD i C x=>?_⟩,N⟩;obtain⟨B,k,G,Y,P,h4⟩:=e.sl D i C x;refine⟨B,k,G,Y,?_⟩;simp only[Env.get?]
    grind
   grind
  |l ts S=>
   unfold rq at d;split at d
   .rename_i i M;split at d
    .rename_i X Z;obtain⟨B,G⟩:=dN d;rw[bd,eJ,Bool.not_eq_true',List.any_eq_false]at B;have F:=RY (K:=λH=>jN l (n+1) λh j E=>K ((t,.pointer (some (aa X.1)))::h) ((t,some (n,0))::j) ((X.1,H,S)::E)) G;obtain⟨h,j,y,e,N⟩:=O F;obtain⟨X',J,hp⟩:=Q.sl t i 0 M;rw[Z]at J;cases J;refine⟨(t,.pointer (some (aa X.1)))::h,(t,some (n,0))::j,i::y,⟨LI ?_ e.sub,List.nodup_cons.2 ⟨λA=>e.dj i A gs,e.nd⟩,λk q=>?_,λk q=>?_,λD i' C x=>?_⟩,?_⟩
     .rw [hp,jD]
     .rcases aF.1 q with rfl|q
      .intro A;have:=B.2 k A;simp at this
      .exact λA=>e.dj k q (cP _ A)
     .rcases aF.1 q with rfl|q
      .grind
      .exact e.lt k q
     .simp only[Sv.get?]at x;cases z:bI t D with
      |true=>
       rw[z,cond_true]at x;rw[eJ]at z;subst z;cases x;refine⟨bw _,i,gs,M,.pointer (some (aa X.1)),?_⟩;simp[Env.get?]
      |false=>
       rw[z,cond_false]at x;obtain⟨g1,k,g2,T,P,W⟩:=e.sl D i' C x;refine⟨io,k,?_,T,P,?_⟩
       .grind
       .simp only[Env.get?,z,cond_false];exact W
     grind
    grind
   grind
def cY.inv{s:TS}{w:I}(j:Inv s w){d:List Nat}{E:Env}{S:Sv}(h:cY s 0 [] d E S):Inv ⟨E,S,d.filterMap λe=>(s.L[e]? :Option (Nat×List V×aE)),w,false⟩ w:=by
 refine⟨j.lc.pick d h.nd,gs,λt i q A=>?_⟩;obtain⟨-,e,C,x,v,k⟩:=h.sl t i q A;obtain⟨X,D,z⟩:=j.sl t e q x;have:=h.sub t v k;rw[z]at this;cases this;refine⟨X,?_,k⟩;have all:∀(d:List Nat) (i:Nat),(∀e∈d,∃X,s.L[e]? =some X)->d[i]? =some e->(d.filterMap λe=>(s.L[e]? :Option (Nat×List V×aE)))[i]? =some X:=by
  intro d;induction d with
  |nil=>grind
  |cons a d H=>
   intro i y G;obtain⟨B,F⟩:=y a gs
   grind
 exact all d i h.lt io
def rP:(ts:List Tk)->(X:Type)->(X->X->Prop)->mQ ts X->mQ ts X->Prop
 |[],_,r,d,e=>r d e
 |.o j::ts,X,r,d,e=>∀h:j.T,rP ts X r (d h) (e h)
 |.a _::ts,X,r,d,e=>rP ts X r d e
 |.t _::ts,X,r,d,e=>rP ts X r d e
 |.g _ _ _::ts,X,r,d,e=>rP ts X r d e
def wx:(l:List (Nat×Sp))->g6 l->g6 l->Prop
 |[],d,e=>∀(w:I) (R:aC),d w R->e w R
 |(_,.v h)::l,d,e=>rP h (g6 l) (wx l) d e
 |(_,.l h _)::l,d,e=>∀b:Nat,rP h (g6 l) (wx l) (d b) (e b)
def LY:∀{ts:List Tk} {X:Type} {r:X->X->Prop} {h j:List V->X},(∀e,r (h e) (j e))->rP ts X r (qd ts X h) (qd ts X j):=by
 intro ts;induction ts with
 |nil=>intro X r h j d;exact d []
 |cons t ts k=>
  intro X r h j d;cases t with
  |o w=>intro x;exact k λe=>d _
  |a q=>exact k λe=>d _
  |t q=>exact k λe=>d _
  |g n y q=>exact k λe=>d _
def Zs:∀{l:List (Nat×Sp)} {n:Nat} {j k:Env->Sv->Lv->I->aC->Prop},(∀h w q e d,j h w q e d->k h w q e d)->wx l (jN l n j) (jN l n k):=by
 intro l;induction l with
 |nil=>intro n j k x e d;exact x _ _ _ e d
 |cons p l y=>
  intro n j k x;obtain⟨t,z⟩:=p;cases z with
  |v A=>exact LY λB=>y λh w q e d=>x _ _ _ e d
  |l A C=>intro b;exact LY λB=>y λh w q e d=>x _ _ _ e d
structure Fx where
 P:au
 fn:Func
 ord:List (Nat×Tr)
 lv:List Nat
 pn:Option (List b3):=none
def Fx.pk(X:Fx)(R:aC):Pk:=match X.pn with
 |some l=>some (R,l)
 |none=>none
def Fx.Rl{X:Fx}{R:aC}(c:List PanicEntry)(w:I)(d:(X.pk R).F (.panicked c) w):R (.panicked c) w:=by
 unfold Fx.pk at d;split at d
 .exact d
 .exact d.elim
def Fx.c(X:Fx):Code:=X.fn.body.getD .skip
def Fx.n(X:Fx):Cx:=cx X.fn.ntmps
def Fe:List (Nat×Tr)->Nat->Option Tr
 |[],_=>none
 |(i,l)::o,d=>bif bI i d then some l else Fe o d
def Fx.at(X:Fx)(q:List Bool)(R:aC)(a:Act)(w:I):Prop:=tU X.P X.n (gD X.P X.n X.c (bodyPost X.P X.fn R) q) a w
def Fx.Sem(X:Fx)(q:List Bool)(E:Env)(S:Sv)(L:Lv)(w:I)(R:aC):Prop:=∀a,Ag X.n a E->Inv ⟨E,S,L,w,false⟩ w->X.at q R a w
structure gI(X:Fx) where
 q:List Bool
 sp:List (Nat×Sp)
 F:g6 sp
 ok:∀(R:aC) (s:TS) (w:I) (a:Act),Ag X.n a s.E->Inv s w->rq sp F s [] w R->X.at q R a w
def uv:List Bool->List Bool->Bool
 |[],[]=>true
 |a::l,b::m=>(match a,b with |true,true=>true|false,false=>true|_,_=>false)&&uv l m
 |_,_=>false
def I':∀{l m:List Bool},uv l m=true->l=m
 |[],[],_=>rfl
 |a::l,b::m,d=>by
  unfold uv at d;rw[bd]at d;rw[I' d.2]
  grind
 |[],_::_,d=>by cases d
 |_::_,[],d=>by cases d
def Ay{X:Fx}(R:aC):List (gI X)->List Bool->Option (TS->Prop)
 |[],_=>none
 |e::j,h=>bif uv e.q h then some λs=>match s.d with
  |true=>False
  |false=>rq e.sp e.F s [] s.w R else Ay R j h
def Fx.BZ(X:Fx)(es:List (gI X))(R:aC):ox:=⟨Fe X.ord,Ay R es,X.lv,X.pk R⟩
def Fx.T'{X:Fx}{es:List (gI X)}{R:aC}:ug X.P X.n (X.BZ es R) X.c (bodyPost X.P X.fn R):=by
 intro A C x s B a D j h;have e:Ay R es A=some C:=x;clear x;induction es with
 |nil=>cases e
 |cons k es G=>
  unfold Ay at e;cases y:uv k.q A with
  |true=>
   rw[y,cond_true]at e;cases e;have:=I' y;subst this;cases z:s.d with
   |true=>grind
   |false=>
    rw[z]at h;have E:=j.rel;rw[z]at E;have F:B=s.w:=by grind
    rw[<-F]at h;exact k.ok R s B a D j h
  |false=>
   grind
def Fx.wv(X:Fx)(es:List (gI X))(q:List Bool)(E:Env)(S:Sv)(L:Lv)(w:I)(R:aC):Prop:=DY X.P X.n (X.BZ es R) X.c (vQ X.P X.fn R) q ⟨E,S,L,w,false⟩
def Fx.Kg{X:Fx}{es:List (gI X)}{q:List Bool}{E:Env}{S:Sv}{L:Lv}{w:I}{R:aC}(e:X.wv es q E S L w R):X.Sem q E S L w R:=λa h d=>XV (s:=⟨E,S,L,w,false⟩) (Fx.T' (es:=es)) (Su Fx.Rl) h d e
def KA{X:Fx}{q:List Bool}{y:List (Nat×Sp)}{K:Env->Sv->Lv->I->aC->Prop}(B:∀d e k w R,K d e k w R->X.Sem q d e k w R)(R:aC)(s:TS)(w:I)(a:Act)(h:Ag X.n a s.E)(j:Inv s w)(z:rq y (jN y 0 K) s [] w R):X.at q R a w:=by obtain⟨d,e,D,x,A⟩:=acx j z;exact B _ _ _ _ _ A a ⟨h.defers,h.size,λt v C=>h.get t v (x.sub t v C)⟩ (x.inv j)
def Yq(X:Fx)(q:List Bool)(h:List (Nat×Sp))(F:g6 h)(e:F=jN h 0 (X.Sem q):=by kernel_rfl):gI X:=⟨q,h,F,λk s x a w j d=>by subst e;exact KA (λ_ _ _ _ _ d=>d) k s x a w j d⟩
def Yr(X:Fx)(es:List (gI X))(q:List Bool)(h:List (Nat×Sp))(F:g6 h)(e:F=jN h 0 (X.wv es q):=by kernel_rfl):gI X:=⟨q,h,F,λk s x a w j d=>by subst e;exact KA (λ_ _ _ _ _ d=>Fx.Kg d) k s x a w j d⟩
def ad1{X:Fx}(es:List (gI X))(q:List Bool)(d:List (Nat×Sp)):wx d (jN d 0 (X.wv es q)) (jN d 0 (X.Sem q)):=Zs λ_ _ _ _ _ e=>Fx.Kg e
def Xv(X:Fx)(es:List (gI X)){f:b3}{args:List V}{w:I}{R:aC}{T:Prop}(d:T)(j:X.P.funcs[f]? =some X.fn:=by kernel_rfl)(h:X.fn.body=some X.c:=by kernel_rfl)(k:Nat.ble args.length X.fn.ntmps=true:=by kernel_rfl)(e:T=ja X.P X.n (X.BZ es R) X.c [] (vQ X.P X.fn R) ⟨kS 0 args,[],[],w,false⟩:=by kernel_rfl):ai X.P f args.toArray w R:=
 Xx Fx.Rl j h k Fx.T' (e▸d)
def Rv:Bool->List Nat->List Bool
 |_,[]=>[]
 |b,n::l=>List.replicate n b++Rv (!b) l
abbrev o0(l:List Nat):List Bool:=Rv true l
abbrev Ps:=List (Nat×Sp)
abbrev ls(l:List Nat):Tr:=Tr.sq l .nil
abbrev lr(n:Nat):Tr:=ls (List.range n)
set_option maxRecDepth 100000
open Go
inductive Oc:Type 1
 |leaf (p:Prop)
 |ex (α:Type) (K:α->Oc)
 |and (p:Prop) (K:Oc)
 |at (b:Bool) (K:Oc)
 |bD (t:Bool) (a b:Oc)
 |nw (bs:List Nat) (w:I) (K:Nat->I->Oc)
 |al (w:I) (o:Obj) (K:I->Oc)
 |st (w:I) (p:Addr) (v:V) (K:I->Oc)
 |lc (bs:List Nat) (w:I) (K:I->Oc)
 |dr (w:I) (K:I->Oc)
 |cf (bs:List Nat) (P:au) (f:b3) (xs:Array V) (w:I) (K:cW->I->Oc)
 |ca (P:au) (f:b3) (xs:Array V) (w:I) (K:cW->I->Oc)
 |cp (bs:List Nat) (P:au) (f:b3) (xs:Array V) (R:aC) (w:I) (K:cW->I->Oc)
 |op (q:Option Addr) (K:Addr->Oc)
 |or (a b:Oc)
 |cj (a b:Oc)
 |all (α:Type) (K:α->Oc)
 |im (K:Oc) (p:Prop)
inductive Nf:Oc->Prop->Prop
 |leaf {p}:Nf (.leaf p) p
 |ex {α K} {Q:α->Prop} (h:∀x,Nf (K x) (Q x)):Nf (.ex α K) (∃x,Q x)
 |and {p K Q} (h:Nf K Q):Nf (.and p K) (p/\Q)
 |at {b K Q} (h:Nf K Q):Nf (.at b K) (cM b Q)
 |bD {t a b A B} (h1:Nf a A) (h2:Nf b B):Nf (.bD t a b) (bD t A B)
 |nw {bs w K} {Q:Nat->I->Prop} (h:∀b w1,Nf (K b w1) (Q b w1)):Nf (.nw bs w K) (vr bs w λb w1=>Q b w1)
 |al {w o K} {Q:I->Prop} (h:∀w1,Nf (K w1) (Q w1)):Nf (.al w o K) (de w o λw1=>Q w1)
 |st {w p v K} {Q:I->Prop} (h:∀w1,Nf (K w1) (Q w1)):Nf (.st w p v K) (aN w p v λw1=>Q w1)
 |lc {bs w K} {Q:I->Prop} (h:∀w1,Nf (K w1) (Q w1)):Nf (.lc bs w K) (loc bs w λw1=>Q w1)
 |dr {w K} {Q:I->Prop} (h:∀w1,Nf (K w1) (Q w1)):Nf (.dr w K) (uI w λw1=>Q w1)
 |cf {bs P f xs w K} {Q:cW->I->Prop} (h:∀r w1,Nf (K r w1) (Q r w1)):Nf (.cf bs P f xs w K) (fF bs P f xs w λr w1=>Q r w1)
 |ca {P f xs w K} {Q:cW->I->Prop} (h:∀r w1,Nf (K r w1) (Q r w1)):Nf (.ca P f xs w K) (ai P f xs w λr w1=>Q r w1)
 |cp {bs P f xs R w K} {Q:cW->I->Prop} (h:∀r w1,Nf (K r w1) (Q r w1)):Nf (.cp bs P f xs R w K) (mX bs P f xs R w λr w1=>Q r w1)
 |op {q K} {Q:Addr->Prop} (h:∀p,Nf (K p) (Q p)):Nf (.op q K) (dJ q λp=>Q p)
 |or {a b A B} (h1:Nf a A) (h2:Nf b B):Nf (.or a b) (A\/B)
 |cj {a b A B} (h1:Nf a A) (h2:Nf b B):Nf (.cj a b) (A/\B)
 |all {α K} {Q:α->Prop} (h:∀x,Nf (K x) (Q x)):Nf (.all α K) (∀{x},Q x)
 |im {K Q p} (h:Nf K Q):Nf (.im K p) (Q->p)
inductive DV
 |i (k:ij) (x:Int)|kb (x:Bool)|b (x:Bool)|st (x:ByteArray)|sl (s:Sl)|s3 (a:Option Addr) (n c:Nat)
 |p (x:Option Addr)|r (x:Addr) (l:Option (Nat×Nat))|m (x:Option Nat)|v (x:V)|f (x:Fv)
 |a (l:List DV)|t (l:List DV)|g (n:b3) (bs cs:List DV)|nf|ni|fc (t:aE) (x:DV)|u
mutual
def DV.o:DV->(V->Oc)->Oc
 |.i x e,d=>d (.int x e)
 |.kb e,d=>d (.bool e)
 |.b e,d=>d (.bool e)
 |.st e,d=>d (.string e)
 |.sl s,d=>d s.v
 |.s3 e q w,d=>d (.slice e q w)
 |.p e,d=>d (.pointer e)
 |.r e _,d=>d (.pointer (some e))
 |.m e,d=>d (.map e)
 |.v e,d=>d e
 |.f e,d=>d e.v
 |.a l,d=>DV.os l λk=>d (.agg k.toArray)
 |.t l,d=>DV.os l λk=>d (.tuple k.toArray)
 |.g n h j,d=>DV.os h λh=>DV.os j λj=>d (.func (.func n) h.toArray j.toArray)
 |.nf,d=>d .nilFunc
 |.ni,d=>d .nilIface
 |.fc q e,d=>DV.o e λw=>d (.iface q w)
 |.u,d=>d undef
def DV.os:List DV->(List V->Oc)->Oc
 |[],d=>d []
 |h::l,d=>DV.o h λv=>DV.os l λe=>d (v::e)
end
def vv:List V->(List DV->Oc)->Oc
 |[],d=>d []
 |v::l,d=>vv l λh=>d ((match v with
  |.int j e=>.i j e
  |.bool true=>.kb true
  |.bool false=>.kb false
  |.string s=>.st s
  |.slice a n c=>.s3 a n c
  |.pointer (some p)=>.r p none
  |.pointer none=>.p none
  |.map e=>.m e
  |.nilFunc=>.nf
  |.nilIface=>.ni
  |v=>.v v)::h)
def A3(v:V)(K:DV->Oc):Oc:=match v with
 |.agg d=>vv d.toList λl=>K (.a l)
 |.tuple d=>vv d.toList λl=>K (.t l)
 |.func (.func n) h d=>vv h.toList λh=>vv d.toList λd=>K (.g n h d)
 |.iface t e=>vv [e] λl=>K (.fc t (l.headD .u))
 |.int j e=>K (.i j e)
 |.bool true=>K (.kb true)
 |.bool false=>K (.kb false)
 |.string s=>K (.st s)
 |.slice a n c=>K (.s3 a n c)
 |.pointer (some p)=>K (.r p none)
 |.pointer none=>K (.p none)
 |.map e=>K (.m e)
 |.nilFunc=>K .nf
 |.nilIface=>K .ni
 |v=>K (.v v)
inductive Fc
 |c (p:Addr) (v:V)|r (s:Sem V) (v:V)|n
abbrev DE:=List (Nat×DV)
abbrev DL:=List (Nat×List DV×aE)
abbrev DH:=List (Nat×Option Nat×Fc)
def r4:DL->(List Nat->Oc)->Oc
 |[],d=>d []
 |(b,_,_)::e,d=>r4 e λh=>d (b::h)
def hq(d:Bool)(L:DL)(w:I)(K:I->Oc):Oc:=match d with
 |true=>r4 L λe=>.lc e w K
 |false=>K w
def getD:DE->Nat->(DV->Oc)->Oc
 |[],_,_=>.leaf False
 |(h,v)::e,t,d=>match bI h t with
  |true=>d v
  |false=>getD e t d
def kf{α:Type}:List α->Nat->Option α
 |[],_=>none
 |a::l,n=>match bI n 0 with
  |true=>some a
  |false=>kf l (n - 1)
def Tj{α:Type}:List α->Nat->α->List α
 |[],_,_=>[]
 |a::l,n,d=>match bI n 0 with
  |true=>d::l
  |false=>a::Tj l (n - 1) d
def Bk(t:Option Nat)(v:DV)(E:DE)(K:DE->Oc):Oc:=match t with
 |some t=>K ((t,v)::E)
 |none=>K E
def Nh:List Nat->Nat->Bool
 |[],_=>false
 |a::l,n=>match bI a n with
  |true=>true
  |false=>Nh l n
def Me(d:List Nat):Option Nat->Bool
 |some t=>Nh d t
 |none=>false
def dB(E:DE):Operand->(DV->Oc)->Oc
 |.tmp t,d=>getD E t d
 |.const v,d=>A3 v d
 |.func f,d=>d (.g f [] [])
 |.global g,d=>d (.r ⟨g,0,none⟩ none)
def qD(E:DE):List Operand->(List DV->Oc)->Oc
 |[],d=>d []
 |h::l,d=>dB E h λv=>qD E l λe=>d (v::e)
def Ek(z:V)(K:DV->Oc):Oc:=match z with
 |.int e _=>.ex Int λd=>K (.i e d)
 |.bool _=>.ex Bool λd=>K (.b d)
 |.string _=>.ex ByteArray λd=>K (.st d)
 |.slice _ _ _=>.ex Sl λd=>K (.sl d)
 |.pointer _=>.ex (Option Addr) λd=>K (.p d)
 |.map _=>.ex (Option Nat) λd=>K (.m d)
 |_=>.ex V λd=>K (.v d)
def Ej:List V->(List DV->Oc)->Oc
 |[],d=>d []
 |h::j,d=>Ek h λv=>Ej j λe=>d (v::e)
def Lg(z:V)(K:DV->Oc):Oc:=match z with
 |.agg d=>Ej d.toList λl=>K (.a l)
 |z=>Ek z K
def Lj:List V->(List DV->Oc)->Oc
 |[],d=>d []
 |h::j,d=>Lg h λv=>Lj j λe=>d (v::e)
def uU(z:V)(K:DV->Oc):Oc:=match z with
 |.tuple d=>Lj d.toList λl=>K (.t l)
 |z=>Lg z K
def PZ:List Nat:=[0,1,2,3,4,5,6,7,8,9,10,11,12,13,14,15,16,17,18,19,20,21,22,23,24,25,26,27,28,29,30,31,32,33,34,35,36,37,38,39,40,41,42,43,44,45,46,47,48,49,50,51,52,53,54,55,56,57,58,59,60,61,62,63]
def Lo(p:Addr):List Nat->List DV->(List Fc->Oc)->Oc
 |n::e,v::h,d=>DV.o v λj=>Lo p e h λl=>d (.c (p.add n) j::l)
 |_,_,d=>d []
def BF(P:au)(w:I)(K:Oc):List Fc->Oc
 |[]=>K
 |.c p v::l=>.and (w.cell? p=some v) (BF P w K l)
 |.r s v::l=>.and (s.run P w=.ok v w) (BF P w K l)
 |.n::l=>BF P w K l
def MW(P:au)(T:aE)(p:Addr)(w:I)(K:DV->List Fc->Oc):Oc:=match P.info? T with
 |some ⟨_,_,_,_,_,_,_,some e,_,_⟩=>match e with
  |.agg q=>Ej q.toList λj=>Lo p PZ j λk=>BF P w (K (.a j) k) k
  |.nilFunc=>.ex Fv λf=>.and (w.cell? p=some f.v) (K (.f f) [.c p f.v])
  |.nilIface=>.or (.ex aE λt=>.ex V λd=>.and (w.cell? p=some (.iface t d)) (K (.v (.iface t d)) [.c p (.iface t d)])) (.and (w.cell? p=some .nilIface) (K (.v .nilIface) [.c p .nilIface]))
  |e=>Ek e λh=>DV.o h λv=>.and (w.cell? p=some v) (K h [.c p v])
 |_=>.leaf False
def ny{α:Type}:List α->Nat->Nat->List α
 |[],_,_=>[]
 |a::l,d,n=>match bI d 0 with
  |true=>match bI n 0 with
   |true=>[]
   |false=>a::ny l 0 (n - 1)
  |false=>ny l (d - 1) n
def Bc:List DV->Nat->List DV->List DV
 |l,_,[]=>l
 |[],_,_=>[]
 |a::l,d,x::e=>match bI d 0 with
  |true=>x::Bc l 0 e
  |false=>a::Bc l (d - 1) (x::e)
def DV.cs:DV->List DV
 |.a l=>l
 |d=>[d]
def MX(P:au)(T:aE)(cs:List DV)(j:Nat)(K:DV->Oc):Oc:=match P.info? T with
 |some ⟨_,_,n,_,_,_,_,some d,_,_⟩=>match d with
  |.agg _=>K (.a (ny cs j n))
  |_=>match kf cs j with
   |some v=>K v
   |none=>.leaf False
 |_=>.leaf False
def lu(P:au)(T:aE):TypeDesc:=match P.info? T with
 |some ⟨.named _ u,_,_,_,_,_,_,_,_,_⟩=>(match P.info? u with
  |some ⟨d,_,_,_,_,_,_,_,_,_⟩=>d
  |none=>.invalid)
 |some ⟨d,_,_,_,_,_,_,_,_,_⟩=>d
 |none=>.invalid
def vZ(P:au)(T:aE)(K:Nat->Oc):Oc:=match P.info? T with
 |some ⟨_,_,n,_,_,_,_,_,_,_⟩=>K n
 |none=>.leaf False
def Cp(P:au)(T:aE)(K:V->Oc):Oc:=match P.info? T with
 |some ⟨_,_,_,_,_,_,_,some d,_,_⟩=>K d
 |_=>.leaf False
def Ls(P:au)(T:aE)(f:Nat)(K:aE->Nat->Oc):Oc:=match lu P T with
 |.struct d=>match kf d.toList f with
  |some ⟨_,t,off,_,_,_,_⟩=>K t off
  |none=>.leaf False
 |_=>.leaf False
def DV.ri:DV->(Int->Oc)->Oc
 |.i _ e,d=>d e
 |_,_=>.leaf False
def nQ(E:DE)(x:Option Operand)(y d:Nat)(K:Nat->Oc):Oc:=match x with
 |none=>K d
 |some o=>dB E o λv=>v.ri λi=>.and (0<=i) (.and (i<=(y:Int)) (K i.toNat))
def vR(P:au)(s:Sem V)(z:V)(w:I)(K:DV->List Fc->Oc):Oc:=match z with
 |.nilFunc=>.ex Fv λf=>.and (s.run P w=.ok f.v w) (K (.f f) [.r s f.v])
 |z=>uU z λd=>DV.o d λv=>.and (s.run P w=.ok v w) (K d [.r s v])
def minD(a b:Nat)(K:Nat->Oc):Oc:=match Nat.ble a b with
 |true=>K a
 |false=>K b
def We:ij->Nat
 |.i8|.u8=>8
 |.i16|.u16=>16
 |.i32|.u32=>32
 |_=>64
def To(d:Bool)(k:ij)(y:Int)(K:Nat->Oc):Oc:=match d with
 |true=>match y with
  |.ofNat m=>minD (@OfNat.ofNat Nat m (instOfNatNat m)) (We k) K
  |.negSucc _=>.leaf False
 |false=>.and (¬y<0) (K (min y.toNat k.bits))
def XM(op:BinOp)(a b:Int)(K:Bool->Oc):Oc:=match op with
 |.eql=>K (a==b)
 |.neq=>K (a !=b)
 |.lss=>K (ak (a<b))
 |.leq=>K (ak (a<=b))
 |.gtr=>K (ak (a>b))
 |.geq=>K (ak (a>=b))
 |_=>.leaf False
def Wc(op:BinOp)(d:Bool)(k:ij)(a b:Int)(K:DV->Oc):Oc:=match op with
 |.add=>K (.i k (k.wrap (a+b)))
 |.sub=>K (.i k (k.wrap (a - b)))
 |.mul=>K (.i k (k.wrap (a *b)))
 |.quo=>match d with
  |true=>K (.i k (k.wrap (a.tdiv b)))
  |false=>.and (b≠0) (K (.i k (k.wrap (a.tdiv b))))
 |.rem=>match d with
  |true=>K (.i k (a.tmod b))
  |false=>.and (b≠0) (K (.i k (a.tmod b)))
 |.and=>K (.i k (r3 k a b))
 |.or=>K (.i k (qQ k a b))
 |.xor=>K (.i k (wP k a b))
 |.andNot=>K (.i k (V4 k a b))
 |.shl=>To d k b λn=>K (.i k (k.wrap (a *2^n)))
 |.shr=>To d k b λn=>K (.i k (a.fdiv (2^n)))
 |op=>XM op a b λt=>K (.b t)
def Wd(op:BinOp)(a b:ByteArray)(K:DV->Oc):Oc:=match op with
 |.add=>.and (¬(((a.size+b.size:Nat):Int)>IntKind.i64.max)) (K (.st (a++b)))
 |.eql=>K (.b (a.toList==b.toList))
 |.neq=>K (.b (!(a.toList==b.toList)))
 |.lss=>K (.b (Op.bytesLess a.toList b.toList))
 |.leq=>K (.b (Op.bytesLess a.toList b.toList||a.toList==b.toList))
 |.gtr=>K (.b (!(Op.bytesLess a.toList b.toList||a.toList==b.toList)))
 |.geq=>K (.b (!(Op.bytesLess a.toList b.toList)))
 |_=>.leaf False
def DV.rb:DV->Bool
 |.kb d=>d
 |.b d=>d
 |_=>false
def uP:List DV->List DV->List Field->(Bool->Oc)->Oc
 |e,h,⟨_,_,off,_,_,_,_⟩::j,d=>match kf e off,kf h off with
  |some (.i _ a),some (.i _ b)=>uP e h j λr=>d ((a==b)&&r)
  |some (.st a),some (.st b)=>uP e h j λr=>d ((a.toList==b.toList)&&r)
  |some k,some q=>uP e h j λr=>d ((k.rb==q.rb)&&r)
  |_,_=>.leaf False
 |_,_,[],d=>d true
def Ef(P:au):List DV->List DV->List Field->(Bool->Oc)->Oc
 |e,h,⟨n,q,off,a,b,c,w⟩::k,d=>match lu P q with
  |.struct x=>uP (e.drop off) (h.drop off) x.toList λj=>Ef P e h k λr=>d (j&&r)
  |_=>uP e h [⟨n,q,off,a,b,c,w⟩] λj=>Ef P e h k λr=>d (j&&r)
 |_,_,[],d=>d true
def Mf(P:au):List Field->Bool
 |[]=>false
 |⟨_,e,_,_,_,_,_⟩::d=>match lu P e with
  |.struct _=>true
  |_=>Mf P d
def Lc(P:au)(xs e:List DV)(d:List Field)(K:Bool->Oc):Oc:=match Mf P d with
 |true=>Ef P xs e d K
 |false=>uP xs e d K
def ER:Operand->Bool
 |.const _=>true
 |_=>false
def De(P:au)(op:BinOp)(T:aE)(x y:Operand)(a b:DV)(w:I)(K:DV->List Fc->Oc):Oc:=match a,b with
 |.i j a,.i _ b=>Wc op (ER y) j a b λv=>K v []
 |.st a,.st b=>Wd op a b λv=>K v []
 |.sl s,.s3 none _ _=>match op with
  |.eql=>K (.b s.a.isNone) []
  |_=>K (.b (!s.a.isNone)) []
 |.s3 (some _) _ _,.s3 none _ _=>match op with
  |.eql=>K (.kb false) []
  |_=>K (.kb true) []
 |.s3 a _ _,.s3 none _ _=>match op with
  |.eql=>K (.b a.isNone) []
  |_=>K (.b (!a.isNone)) []
 |.r _ _,.p none=>match op with
  |.eql=>K (.kb false) []
  |_=>K (.kb true) []
 |.m a,.m none=>match op with
  |.eql=>K (.b a.isNone) []
  |_=>K (.b (!a.isNone)) []
 |.a e,.a h=>match lu P T,op with
  |.struct d,.eql=>Lc P e h d.toList λr=>K (.b r) []
  |.struct d,_=>Lc P e h d.toList λr=>K (.b (!r)) []
  |_,_=>.leaf False
 |a,b=>match ER y,a,b,op with
  |true,.p a,.p none,.eql=>K (.b a.isNone) []
  |true,.p a,.p none,_=>K (.b (!a.isNone)) []
  |_,.p _,_,.neq|_,.r _ _,_,.neq=>DV.o a λa=>DV.o b λb=>vR P (binOp .neq T a b) (.bool true) w K
  |_,_,_,op=>match lu P T with
   |.interface _=>DV.o a λa=>DV.o b λb=>vR P (Af op T x y a b) (.bool true) w K
   |.bool=>match op with
    |.eql=>K (.b (a.rb==b.rb)) []
    |_=>K (.b (!(a.rb==b.rb))) []
   |_=>.leaf False
def AI(h:Bool):DV->List DV->(DV->Oc)->Oc
 |r,[],d=>d r
 |.i j r,.i _ e::l,d=>match h with
  |true=>AI h (.i j (if r<e then e else r)) l d
  |false=>AI h (.i j (if e<r then e else r)) l d
 |_,_,_=>.leaf False
def abz(d:List Field)(n:Nat):Nat:=match kf d n with
 |some ⟨_,_,off,_,_,_,_⟩=>off
 |none=>0
def Bj(E:DE)(off:Nat->Nat):List (Nat×Operand)->List DV->(List DV->Oc)->Oc
 |[],e,d=>d e
 |(i,h)::l,e,d=>dB E h λv=>Bj E off l (Bc e (off i) v.cs) d
def xu:List DV->(List DV->Oc)->Oc
 |[],d=>d []
 |v::l,d=>xu l λl=>d (v::l)
def Sr:Nat->List DV->List DV
 |0,_=>[]
 |n+1,l=>l++Sr n l
def J2(P:au)(op:Op)(ty:aE)(E:DE)(L:DL)(w:I)(d:Bool)(K:DV->List (Option Nat×Fc)->I->Bool->Oc):Option Oc:=match op with
 |.move e|.assign e=>some (dB E e λv=>K v [] w d)
 |.pick c a b=>some (dB E c λc=>match c with
  |.kb true=>dB E a λv=>K v [] w d
  |.kb false=>dB E b λv=>K v [] w d
  |_=>.leaf False)
 |.load h e=>some (dB E e λa=>match a with
  |.r _ (some (i,G))=>match kf L i with
   |some (_,A,_)=>MX P h A G λv=>K v [(some i,.n)] w d
   |none=>.leaf False
  |.r p none=>hq d L w λw=>MW P h p w λv j=>K v (j.map λf=>(none,f)) w false
  |_=>.leaf False)
 |.nilCheck e=>some (dB E e λa=>match a with
  |.p M=>.op M λp=>K (.r p none) [] w d
  |a=>K a [] w d)
 |.fieldAddr h e f=>some (dB E e λa=>match a with
  |.r p l=>Ls P h f λ_ off=>match l with
   |some (i,G)=>K (.r (p.add off) (some (i,Nat.add G off))) [] w d
   |none=>K (.r (p.add off) none) [] w d
  |_=>.leaf False)
 |.field h e f=>some (dB E e λa=>match a with
  |.a l=>Ls P h f λt off=>match P.info? t with
   |some ⟨_,_,n,_,_,_,_,some B,_,_⟩=>match B with
    |.agg _=>xu (ny l off n) λl=>K (.a l) [] w d
    |_=>match kf l off with
     |some v=>K v [] w d
     |none=>.leaf False
   |_=>.leaf False
  |_=>.leaf False)
 |.indexAddr h e C=>some (dB E e λa=>dB E C λi=>i.ri λi=>match a,lu P h with
  |.sl s,.slice k=>vZ P k λy=>.and (0<=i) (.and (i<(s.n:Int)) (.op s.a λp=>K (.r (p.add (i.toNat *y)) none) [] w d))
  |.s3 a n _,.slice k=>vZ P k λy=>.and (0<=i) (.and (i<(n:Int)) (.op a λp=>K (.r (p.add (i.toNat *y)) none) [] w d))
  |.r p _,.array n k=>vZ P k λy=>.and (0<=i) (.and (i<(n:Int)) (K (.r (p.add (i.toNat *y)) none) [] w d))
  |_,_=>.leaf False)
 |.index h e C=>some (dB E e λa=>dB E C λi=>i.ri λi=>match a,lu P h with
  |.st s,.string=>.and (0<=i) (.ex UInt8 λb=>.and (s[i.toNat]? =some b) (K (.i .u8 (b.toNat:Int)) [] w d))
  |.a A,.array n k=>match lu P k with
   |.string=>DV.os A λq=>.and (0<=i) (.and (i<(n:Int)) (.ex ByteArray λb=>.and (q.toArray[i.toNat]? =some (.string b)) (K (.st b) [] w d)))
   |_=>DV.os A λq=>.and (0<=i) (.and (i<(n:Int)) (.ex Int λb=>.and (q.toArray[i.toNat]? =some (.int .i64 b)) (K (.i .i64 b) [] w d)))
  |_,_=>.leaf False)
 |.slice h e lo F H=>some (dB E e λa=>match a,lu P h with
  |.sl s,.slice k=>vZ P k λy=>nQ E H s.c s.c λm=>nQ E F m s.n λx=>nQ E lo x 0 λl=>K (.s3 (if m=l then s.a else s.a.map (·.add (l *y))) (x - l) (m - l)) [] w d
  |.s3 a n c,.slice k=>vZ P k λy=>nQ E H c c λm=>nQ E F m n λx=>nQ E lo x 0 λl=>K (.s3 (if m=l then a else a.map (·.add (l *y))) (x - l) (m - l)) [] w d
  |.st s,.string=>nQ E F s.size s.size λx=>nQ E lo x 0 λl=>K (.st (s.extract l x)) [] w d
  |.r p _,.array n k=>vZ P k λy=>nQ E H n n λm=>nQ E F m n λx=>nQ E lo x 0 λl=>K (.s3 (some (if m=l then p else p.add (l *y))) (x - l) (m - l)) [] w d
  |_,_=>.leaf False)
 |.extract e n=>some (dB E e λa=>match a with
  |.t l=>match kf l n with
   |some v=>K v [] w d
   |none=>.leaf False
  |_=>.leaf False)
 |.build h J=>some (Cp P h λB=>A3 B λB=>match lu P h with
  |.struct j=>Bj E (abz j.toList) J.toList B.cs λl=>xu l λl=>K (.a l) [] w d
  |.array _ k=>match P.info? k with
   |some ⟨_,_,n,_,_,_,_,_,_,_⟩=>Bj E (λi=>Nat.mul i n) J.toList B.cs λl=>xu l λl=>K (.a l) [] w d
   |none=>.leaf False
  |_=>.leaf False)
 |.unOp f _ e=>some (dB E e λa=>match f,a with
  |.not,.kb true=>K (.kb false) [] w d
  |.not,.kb false=>K (.kb true) [] w d
  |.not,.b e=>K (.b (!e)) [] w d
  |.neg,.i z e=>K (.i z (z.wrap (0 - e))) [] w d
  |.xor,.i z e=>K (.i z (wP z (if IntKind.signed z then -1 else IntKind.max z) e)) [] w d
  |_,_=>.leaf False)
 |.binOp f h e D _=>some (dB E e λa=>dB E D λb=>match lu P h,f with
  |.interface _,_|.pointer _,.neq=>match ER D with
   |true=>De P f h e D a b w λv j=>K v (j.map λf=>(none,f)) w d
   |false=>hq d L w λw=>De P f h e D a b w λv j=>K v (j.map λf=>(none,f)) w false
  |_,_=>De P f h e D a b w λv j=>K v (j.map λf=>(none,f)) w d)
 |.convert s t e=>match lu P s,lu P t with
  |.slice _,.slice _|.string,.slice _=>none
  |.slice _,.string=>some (dB E e λa=>DV.o a λv=>hq d L w λw=>vR P (convert s t v) (.string (ByteArray.mk #[])) w λv j=>K v (j.map λf=>(none,f)) w false)
  |.pointer _,.unsafePointer|.unsafePointer,.pointer _=>some (dB E e λa=>DV.o a λv=>hq d L w λw=>vR P (convert s t v) (.pointer none) w λv j=>K v (j.map λf=>(none,f)) w false)
  |_,.int z=>some (dB E e λa=>a.ri λe=>K (.i z (z.wrap e)) [] w d)
  |_,_=>some (dB E e λv=>K v [] w d)
 |.makeInterface h e=>some (dB E e λv=>K (.fc h v) [] w d)
 |.makeFunc (.func n) j A=>some (qD E j.toList λj=>qD E A.toList λA=>K (.g n j A) [] w d)
 |.lookup h e C ok=>some (dB E e λa=>DV.o a λa=>dB E C λb=>DV.o b λb=>hq d L w λw=>Cp P ty λB=>vR P (Instr.lookup h a b ok) B w λv j=>K v (j.map λf=>(none,f)) w false)
 |.call {callee:=.builtin .len,args,argTypes}=>some (qD E args.toList λq=>match q,argTypes.toList with
  |[v],[h]=>match v,lu P h with
   |.sl s,_=>K (.i .i64 (s.n:Int)) [] w d
   |.s3 _ n _,_=>K (.i .i64 (n:Int)) [] w d
   |.st s,_=>K (.i .i64 (s.size:Int)) [] w d
   |_,.array n _=>K (.i .i64 (n:Int)) [] w d
   |v,.map _ _=>DV.o v λm=>hq d L w λw=>vR P (Builtin.len_ #[h] ty #[m]) (.int .i64 0) w λv j=>K v (j.map λf=>(none,f)) w false
   |_,_=>.leaf False
  |_,_=>.leaf False)
 |.call {callee:=.builtin .cap,args,..}=>some (qD E args.toList λq=>match q with
  |[.sl s]=>K (.i .i64 (s.c:Int)) [] w d
  |[.s3 _ _ c]=>K (.i .i64 (c:Int)) [] w d
  |_=>.leaf False)
 |.call {callee:=.builtin .min,args,..}=>some (qD E args.toList λq=>match q with
  |v::q=>AI false v q λv=>K v [] w d
  |_=>.leaf False)
 |.call {callee:=.builtin .max,args,..}=>some (qD E args.toList λq=>match q with
  |v::q=>AI true v q λv=>K v [] w d
  |_=>.leaf False)
 |_=>none
def m9(L:DL)(w w':I)(K:Oc):Oc:=match L with
 |[]=>K
 |L=>r4 L λd=>.and (kept d w w') K
def HK(L:DL)(p:Addr):List Nat->List DV->I->(I->Oc)->Oc
 |n::j,v::k,d,h=>DV.o v λq=>match bI n 0 with
  |true=>.st d p q λe=>m9 L d e (HK L p j k e h)
  |false=>.st d (p.add n) q λe=>m9 L d e (HK L p j k e h)
 |_,_,d,h=>h d
def uG(P:au)(L:DL)(s:Sem V)(z:V)(w:I)(K:DV->I->Oc):Oc:=
 uU z λe=>DV.o e λv=>.ex I λd=>.and (s.run P w=.ok v d) (m9 L w d (K e d))
def JW(P:au)(k:Pk)(L:DL)(f:b3)(xs:Array V)(z:V)(w:I)(K:DV->I->Oc):Oc:=match k.of f with
 |some j=>r4 L λh=>.cp h P f xs j w λr e=>uU z λd=>DV.o d λv=>.and (r=ad v) (K d e)
 |none=>match L with
  |[]=>.ca P f xs w λr e=>uU z λd=>DV.o d λv=>.and (r=ad v) (K d e)
  |L=>r4 L λh=>.cf h P f xs w λr e=>uU z λd=>DV.o d λv=>.and (r=ad v) (K d e)
def Wj(P:au)(f:b3):Bool:=match P.funcs[f]? with
 |some fn=>fn.body.isSome
 |none=>false
def Yc(P:au)(z:Lk)(dst:Option Nat)(op:Op)(ty:aE)(E:DE)(L:DL)(w:I)(d:Bool)(K:DV->DL->I->Bool->Oc):Oc:=match op with
 |.store _ h N=>dB E h λa=>dB E N λv=>match a with
  |.r _ (some (i,H))=>match kf L i with
   |some (b,y,j)=>xu (Bc y H v.cs) λy=>K .u (Tj L i (b,y,j)) w true
   |none=>.leaf False
  |.r p none=>hq d L w λw=>HK L p PZ v.cs w λe=>K .u L e false
  |_=>.leaf False
 |.alloc j=>Cp P j λq=>A3 q λq=>match Me z.l dst with
  |true=>r4 L λC=>.nw C w λb e=>K (.r (aa b) (some (L.length,0))) (L++[(b,q.cs,j)]) e false
  |false=>hq d L w λw=>DV.os q.cs λk=>.al w (.cells k.toArray j) λe=>K (.r (nb w) none) L e false
 |.box j h=>dB E h λq=>match Me z.l dst with
  |true=>r4 L λC=>.nw C w λb e=>K (.r (aa b) (some (L.length,0))) (L++[(b,q.cs,j)]) e false
  |false=>hq d L w λw=>DV.os q.cs λk=>.al w (.cells k.toArray j) λe=>K (.r (nb w) none) L e false
 |.buildSlice j n J=>match lu P j with
  |.slice D=>match P.info? D with
   |some ⟨_,_,M,_,_,_,_,some q,_,_⟩=>A3 q λq=>Bj E (λi=>Nat.mul i M) J.toList (Sr n q.cs) λl=>DV.os l λk=>hq d L w λw=>.al w (.cells k.toArray D) λe=>K (.s3 (some (nb w)) n n) L e false
   |_=>.leaf False
  |_=>.leaf False
 |.makeMap _ _=>hq d L w λw=>.al w (.map #[] 0) λe=>K (.m (some w.heap.size)) L e false
 |.mapUpdate j m x v|.insert j m x v=>dB E m λm=>DV.o m λm=>dB E x λx=>DV.o x λx=>dB E v λv=>DV.o v λv=>hq d L w λw=>
   .ex I λe=>.and ((Instr.mapUpdate j m x v).run P w=.ok () e) (m9 L w e (K .u L e false))
 |.call {callee:=.builtin b,args,argTypes}=>qD E args.toList λk=>DV.os k λk=>hq d L w λw=>match b with
  |.append=>uG P L (fM argTypes ty k.toArray) (.slice none 0 0) w λv e=>K v L e false
  |.copy=>uG P L (Builtin.copy_ argTypes ty k.toArray) (.int .i64 0) w λv e=>K v L e false
  |.unsafeSliceData=>uG P L (Builtin.unsafeSliceData_ argTypes ty k.toArray) (.pointer none) w λv e=>K v L e false
  |.unsafeString=>uG P L (Builtin.unsafeString_ argTypes ty k.toArray) (.string (ByteArray.mk #[])) w λv e=>K v L e false
  |.delete=>.ex I λe=>.and ((Builtin.delete_ argTypes ty k.toArray).run P w=.ok undef e) (m9 L w e (K .u L e false))
  |.clear=>.ex I λe=>.and ((Builtin.clear_ argTypes ty k.toArray).run P w=.ok (.tuple #[]) e) (m9 L w e (K (.t []) L e false))
  |_=>.leaf False
 |.call {callee:=.value h,args,..}=>dB E h λf=>qD E args.toList λk=>Cp P ty λq=>hq d L w λw=>match f with
  |.g n G y=>DV.os (G++k++y) λB=>match Wj P n with
   |true=>JW P z.pk L n B.toArray q w λv e=>K v L e false
   |false=>uU q λr=>DV.o r λv=>.ex I λe=>.and ((callFunc n B.toArray).run P w=.ok (.value v) e) (m9 L w e (K r L e false))
  |.f A=>DV.os k λB=>.at (hy P A.n) (JW P z.pk L A.n (A.bs++B.toArray++A.cs) q w λv e=>K v L e false)
  |_=>.leaf False
 |.makeSlice j l c=>dB E l λl=>DV.o l λl=>dB E c λc=>DV.o c λc=>hq d L w λw=>uG P L (Instr.makeSlice j l c) (.slice none 0 0) w λv e=>K v L e false
 |.convert s t h=>dB E h λh=>DV.o h λh=>hq d L w λw=>uG P L (convert s t h) (.slice none 0 0) w λv e=>K v L e false
 |.range j h=>dB E h λh=>DV.o h λh=>hq d L w λw=>.ex V λv=>.ex I λe=>.and ((Instr.range j h).run P w=.ok v e) (m9 L w e (K (.v v) L e false))
 |.next it s=>dB E it λh=>DV.o h λit=>hq d L w λw=>.or (.ex I λe=>.and ((Instr.next it s ty).run P w=.ok (.tuple #[.bool false]) e) (m9 L w e (K (.t [.kb false]) L e false)))
   (match s with
    |true=>.ex Int λi=>.ex Int λc=>.ex I λe=>.and ((Instr.next it true ty).run P w=.ok (.tuple #[.bool true,.int .i64 i,.int .i32 c]) e) (m9 L w e (K (.t [.kb true,.i .i64 i,.i .i32 c]) L e false))
    |false=>.ex V λi=>.ex V λc=>.ex I λe=>.and ((Instr.next it false ty).run P w=.ok (.tuple #[.bool true,i,c]) e) (m9 L w e (K (.t [.kb true,.v i,.v c]) L e false)))
 |.entry it=>dB E it λh=>DV.o h λit=>hq d L w λw=>.ex V λi=>.ex V λc=>.ex I λe=>.and ((Instr.entry it).run P w=.ok (.tuple #[i,c]) e) (m9 L w e (K (.t [.v i,.v c]) L e false))
 |.panic h=>dB E h λv=>DV.o v λv=>hq d L w λw=>match z.pk with
  |some (F,_)=>.leaf (F (.panicked [{v:=v,recovered:=false}]) w)
  |none=>.leaf False
 |_=>.leaf False
def wN:List Edge->(Nat->Bool)->Bool
 |[],_=>false
 |⟨_,.textOnly _⟩::l,p=>wN l p
 |⟨_,.gcOnly _⟩::l,p=>wN l p
 |⟨d,_⟩::l,p=>match p d with
  |true=>true
  |false=>wN l p
def Ba(ops:List Oper):Nat->Nat->Nat->Bool
 |0,i,h=>match kf ops h with
  |some ⟨_,_,_,_,e,_⟩=>wN e.toList λd=>bI d i
  |none=>false
 |f+1,i,h=>match kf ops h with
  |some ⟨_,_,_,_,e,_⟩=>wN e.toList λd=>match bI d i with
   |true=>true
   |false=>Ba ops f i d
  |none=>false
def w8(ops:List Oper)(j:Nat):DH->(DH->Oc)->Oc
 |[],e=>e []
 |(i,f,h)::d,e=>match Ba ops 4 i j with
  |true=>w8 ops j d e
  |false=>w8 ops j d λd=>e ((i,f,h)::d)
def CX(ops:List Oper)(j:Nat):DH->Bool
 |[]=>false
 |(i,none,_)::d=>match Ba ops 4 i j with
  |true=>CX ops j d
  |false=>true
 |_::d=>CX ops j d
def u4(P:au)(ops:List Oper)(j:Nat)(w:I)(K:Oc):DH->Oc
 |[]=>K
 |(i,none,e)::d=>match Ba ops 4 i j with
  |true=>u4 P ops j w K d
  |false=>match e with
   |.c p v=>.and (w.cell? p=some v) (u4 P ops j w K d)
   |.r s v=>.and (s.run P w=.ok v w) (u4 P ops j w K d)
   |.n=>u4 P ops j w K d
 |_::d=>u4 P ops j w K d
abbrev DJ:=DE->DL->I->Bool->DH->Oc
def ID(draw:Bool)(i:Nat):List (Option Nat×Fc)->DH->(DH->Oc)->Oc
 |[],d,e=>e d
 |(f,h)::l,d,e=>match draw with
  |true=>ID draw i l d λd=>e ((i,f,h)::d)
  |false=>e d
def TU(P:au)(j:Lk)(ops:List Oper)(draw:Bool)(i:Nat)(o:Oper)(E:DE)(L:DL)(w:I)(d:Bool)(H:DH)(K:DJ):Oc:=match o with
 |⟨dst,op,e,_,_,_⟩=>match J2 P op e E L w d λv h w d=>Bk dst v E λE=>ID draw i h H λH=>K E L w d H with
  |some r=>r
  |none=>Yc P j dst op e E L w d λv L w d=>match CX ops i H with
   |true=>hq d L w λw=>u4 P ops i w (Bk dst v E λE=>w8 ops i H λH=>K E L w false H) H
   |false=>Bk dst v E λE=>w8 ops i H λH=>K E L w d H
def Xy(P:au)(op:Op)(ty:aE)(E:DE)(L:DL)(w:I):Bool:=match J2 P op ty E L w false λ_ _ _ _=>.leaf True with
 |some _=>true
 |none=>false
def BN(P:au)(ops:List Oper)(i:Nat)(o:Oper)(E:DE)(L:DL)(w:I)(d:Bool)(H:DH)(K:DJ):Oc:=match o with
 |⟨dst,op,e,_,_,_⟩=>Bk dst .u E λE=>match Xy P op e E L w with
  |true=>K E L w d H
  |false=>w8 ops i H λH=>K E L w d H
def EF(P:au)(e:Lk)(ops:List Oper)(draw:Bool)(i:Nat)(o:Oper)(t:Nat)(want b:Bool)(E:DE)(L:DL)(w:I)(d:Bool)(H:DH)(K:DJ):Oc:=match want,b with
 |true,true|false,false=>TU P e ops draw i o ((t,.kb b)::E) L w d H K
 |_,_=>BN P ops i o ((t,.kb b)::E) L w d H K
def headD(P:au)(e:Lk)(ops:List Oper)(draw:Bool)(i:Nat)(E:DE)(L:DL)(w:I)(d:Bool)(H:DH)(K:DJ):Oc:=match kf ops i with
 |none=>.leaf False
 |some o=>match o.guard with
  |none=>TU P e ops draw i o E L w d H K
  |some (h,want)=>match kf ops h with
   |some ⟨some t,_,_,_,_,_⟩=>getD E t λv=>match v with
    |.kb b=>EF P e ops draw i o t want b E L w d H K
    |.b b=>.bD b (EF P e ops draw i o t want true E L w d H K) (EF P e ops draw i o t want false E L w d H K)
    |_=>BN P ops i o E L w d H K
   |_=>.leaf False
def SU(P:au)(k:Lk)(ops:List Oper)(K:DE->DL->I->Bool->Oc):List Oper->Nat->DE->DL->I->Bool->Oc
 |[],_,d,e,j,h=>K d e j h
 |_::l,i,d,e,j,h=>headD P k ops false i d e j h [] λd e j h _=>SU P k ops K l (i+1) d e j h
def B4(P:au)(q:Lk)(ops:List Oper)(K:DE->DL->I->Bool->Oc):Tr->DE->DL->I->Bool->DH->Oc
 |.nil,d,e,j,h,_=>K d e j h
 |.one i t,d,e,j,h,k=>headD P q ops true i d e j h k λd e j h k=>B4 P q ops K t d e j h k
 |.fork a b,d,e,j,h,k=>.cj (B4 P q ops K a d e j h k) (B4 P q ops K b d e j h k)
def Yb(L:DL)(w:I)(d:Bool)(K:I->Bool->Oc):Oc:=match L,d with
 |[],false=>.dr w λw=>K w false
 |_,_=>K w true
def eL:(ts:List Tk)->(X:Type)->List DV->mQ ts X->(X->Oc)->Oc
 |[],_,_,d,e=>e d
 |.a _::ts,X,.a l::h,d,e=>eL ts X (l++h) d e
 |.t _::ts,X,.t l::h,d,e=>eL ts X (l++h) d e
 |.g _ _ _::ts,X,.g _ k q::h,d,e=>eL ts X (k++(q++h)) d e
 |.o (.i _)::ts,X,.i _ j::h,d,e=>eL ts X h (d j) e
 |.o .b::ts,X,.b j::h,d,e=>eL ts X h (d j) e
 |.o .b::ts,X,.kb j::h,d,e=>eL ts X h (d j) e
 |.o .st::ts,X,.st j::h,d,e=>eL ts X h (d j) e
 |.o .s::ts,X,.sl j::h,d,e=>eL ts X h (d j) e
 |.o .s::ts,X,.s3 a n c::h,d,e=>eL ts X h (d ⟨a,n,c⟩) e
 |.o .p::ts,X,.p j::h,d,e=>eL ts X h (d j) e
 |.o .p::ts,X,.r j _::h,d,e=>eL ts X h (d (some j)) e
 |.o .r::ts,X,.r j _::h,d,e=>eL ts X h (d j) e
 |.o .m::ts,X,.m j::h,d,e=>eL ts X h (d j) e
 |.o .f::ts,X,.f j::h,d,e=>eL ts X h (d j) e
 |.o .f::ts,X,.g n k q::h,d,e=>DV.os k λk=>DV.os q λq=>eL ts X h (d ⟨n,k.toArray,q.toArray⟩) e
 |.o .v::ts,X,v::h,d,e=>DV.o v λj=>eL ts X h (d j) e
 |_,_,_,_,_=>.leaf False
def CY:(l:List (Nat×Sp))->g6 l->DE->DL->I->aC->Oc
 |[],e,_,_,j,h=>.leaf (e j h)
 |(t,.v w)::l,e,d,k,j,h=>getD d t λv=>eL w (g6 l) [v] e λq=>CY l q d k j h
 |(t,.l w _)::l,e,d,k,j,h=>getD d t λv=>match v with
  |.r _ (some (i,_))=>match kf k i with
   |some (b,x,_)=>eL w (g6 l) x (e b) λq=>CY l q d k j h
   |none=>.leaf False
  |_=>.leaf False
abbrev DK:=Exit->DE->DL->I->Bool->Oc
section
variable (X:Fx) (es:List (gI X)) (R:aC)
def oZ{X:Fx}(R:aC):List (gI X)->List Bool->DE->DL->I->Bool->Oc->Oc
 |[],_,_,_,_,_,f=>f
 |k::es,w,h,e,d,j,f=>match uv k.q w with
  |true=>match k with
   |⟨_,y,x,_⟩=>hq j e d λd=>CY y x h e d R
  |false=>oZ R es w h e d j f
def oC(P:au)(ord:List (Nat×Tr))(w:Lk):Code->List Bool->DK->DE->DL->I->Bool->Oc
 |.skip,_,k,h,j,e,d=>k .normal h j e d
 |.region id ops true,_,k,h,j,e,d=>match Fe ord id with
  |some t=>Yb j e d λe d=>B4 P w ops.toList (λh j e d=>k .normal h j e d) t h j e d []
  |none=>.leaf False
 |.region _ ops false,_,k,h,j,e,d=>SU P w ops.toList (λh j e d=>k .normal h j e d) ops.toList 0 h j e d
 |.seq a b,q,k,h,j,e,d=>oC P ord w a (false::q) (λx h j e d=>match x with
  |.normal=>oZ R es (true::q) h j e d (oC P ord w b (true::q) k h j e d)
  |x=>k x h j e d) h j e d
 |.cond o a b,q,k,h,j,e,d=>dB h o λv=>match v with
  |.kb true=>oZ R es (false::q) h j e d (oC P ord w a (false::q) k h j e d)
  |.kb false=>oZ R es (true::q) h j e d (oC P ord w b (true::q) k h j e d)
  |.b t=>.bD t (oZ R es (false::q) h j e d (oC P ord w a (false::q) k h j e d)) (oZ R es (true::q) h j e d (oC P ord w b (true::q) k h j e d))
  |_=>.leaf False
 |.block id a,q,k,h,j,e,d=>oC P ord w a (false::q) (λx h j e d=>match x with
  |.exit y=>match bI y id with
   |true=>k .normal h j e d
   |false=>k (.exit y) h j e d
  |x=>k x h j e d) h j e d
 |.loop _,q,_,h,j,e,d=>oZ R es q h j e d (.leaf False)
 |.exit id,_,k,h,j,e,d=>k (.exit id) h j e d
 |.ret,_,k,h,j,e,d=>k .ret h j e d
 |_,_,_,_,_,_,_=>.leaf False
def Bt(P:au)(E:DE)(L:DL)(w:I):List ResultVar->(List DV->Oc)->Oc
 |[],d=>d []
 |.tmp t::l,d=>getD E t λv=>Bt P E L w l λe=>d (v::e)
 |.cell q h::l,d=>getD E q λv=>match v with
  |.r _ (some (i,k))=>match kf L i with
   |some (_,j,_)=>MX P h j k λv=>Bt P E L w l λe=>d (v::e)
   |none=>.leaf False
  |.r p none=>MW P h p w λv _=>Bt P E L w l λe=>d (v::e)
  |_=>.leaf False
def acI(P:au)(fn:Func):DK:=λq j h e k=>match q with
 |.normal|.ret=>hq k h e λe=>Bt P j h e fn.results.toList λd=>match d with
  |[v]=>DV.o v λv=>.leaf (R (ad v) e)
  |d=>DV.os d λd=>.leaf (R (ad (.tuple d.toArray)) e)
 |_=>.leaf False
def Mm(P:au)(ord:List (Nat×Tr))(C:Lk)(A:Code)(z:DK):List Bool->Code×DK
 |[]=>(A,z)
 |b::y=>match Mm P ord C A z y,b with
  |(.seq w x,d),false=>(w,λe h j q k=>match e with
   |.normal=>oZ R es (true::y) h j q k (oC X es R P ord C x (true::y) d h j q k)
   |e=>d e h j q k)
  |(.seq _ x,d),true=>(x,d)
  |(.cond _ w _,d),false=>(w,d)
  |(.cond _ _ x,d),true=>(x,d)
  |(.block id w,d),_=>(w,λe h j q k=>match e with
   |.exit B=>match bI B id with
    |true=>d .normal h j q k
    |false=>d (.exit B) h j q k
   |e=>d e h j q k)
  |(.loop w,d),_=>(w,λe h j q k=>match e with
   |.normal=>oZ R es y h j q k (.leaf False)
   |e=>d e h j q k)
  |(_,d),_=>(.skip,d)
def U5(R:aC)(X:Fx)(K:au->Func->List (Nat×Tr)->Lk->Oc):Oc:=match X with
 |⟨d,fn,ord,e,some l⟩=>K d fn ord ⟨e,some (R,l)⟩
 |⟨d,fn,ord,e,none⟩=>K d fn ord ⟨e,none⟩
def DZ(q:List Bool)(E:DE)(L:DL)(w:I):Oc:=U5 R X λd fn ord j=>match fn.body with
  |some c=>match Mm X es R d ord j c (acI R d fn) q with
   |(.loop x,e)=>oC X es R d ord j x (false::q) (λh E L w k=>match h with
    |.normal=>oZ R es q E L w k (.leaf False)
    |h=>e h E L w k) E L w false
   |(c,e)=>oC X es R d ord j c q e E L w false
  |none=>.leaf False
end
abbrev il:List Tk->Type->Type
 |[],X=>X
 |.o (.i _)::l,X=>Int->il l X
 |.o .b::l,X=>Bool->il l X
 |.o .st::l,X=>ByteArray->il l X
 |.o .s::l,X=>Sl->il l X
 |.o .p::l,X=>Option Addr->il l X
 |.o .r::l,X=>Addr->il l X
 |.o .m::l,X=>Option Nat->il l X
 |.o .v::l,X=>V->il l X
 |.o .f::l,X=>Fv->il l X
 |.a _::l,X=>il l X
 |.t _::l,X=>il l X
 |.g _ _ _::l,X=>il l X
abbrev nI:List (Nat×Sp)->Type
 |[]=>I->aC->Prop
 |(_,.v d)::l=>il d (nI l)
 |(_,.l d _)::l=>Nat->il d (nI l)
def uE:∀(ts:List Tk) (X:Type),mQ ts X=il ts X
 |[],_=>rfl
 |.o e::ts,X=>by cases e<;>exact congrArg (λd=>_->d) (uE ts X)
 |.a _::ts,X=>uE ts X
 |.t _::ts,X=>uE ts X
 |.g _ _ _::ts,X=>uE ts X
def D1:∀l:List (Nat×Sp),g6 l=nI l
 |[]=>rfl
 |(_,.v d)::l=>(uE d (g6 l)).trans (congrArg (il d) (D1 l))
 |(_,.l d _)::l=>congrArg (λe=>Nat->e) ((uE d (g6 l)).trans (congrArg (il d) (D1 l)))
def lB:(ts:List Tk)->(X:Type)->il ts X->(List DV->X->Prop)->Prop
 |[],_,h,j=>j [] h
 |.o (.i q)::ts,X,h,j=>∀e:Int,lB ts X (h e) λd k=>j (.i q e::d) k
 |.o .b::ts,X,h,j=>∀e:Bool,lB ts X (h e) λd k=>j (.b e::d) k
 |.o .st::ts,X,h,j=>∀e:ByteArray,lB ts X (h e) λd k=>j (.st e::d) k
 |.o .s::ts,X,h,j=>∀e:Sl,lB ts X (h e) λd k=>j (.sl e::d) k
 |.o .p::ts,X,h,j=>∀e:Option Addr,lB ts X (h e) λd k=>j (.p e::d) k
 |.o .r::ts,X,h,j=>∀e:Addr,lB ts X (h e) λd k=>j (.r e none::d) k
 |.o .m::ts,X,h,j=>∀e:Option Nat,lB ts X (h e) λd k=>j (.m e::d) k
 |.o .v::ts,X,h,j=>∀e:V,lB ts X (h e) λd k=>j (.v e::d) k
 |.o .f::ts,X,h,j=>∀e:Fv,lB ts X (h e) λd k=>j (.f e::d) k
 |.a q::ts,X,h,j=>lB ts X h λd k=>j (.a (ny d 0 q)::d.drop q) k
 |.t q::ts,X,h,j=>lB ts X h λd k=>j (.t (ny d 0 q)::d.drop q) k
 |.g n w q::ts,X,h,j=>lB ts X h λd k=>j (.g n (ny d 0 w) (ny d w q)::d.drop (w+q)) k
def CJ(G:DE->DL->I->aC->Oc):(l:List (Nat×Sp))->nI l->DE->DL->Prop
 |[],d,h,e=>∀(w:I) (R:aC),Nf (G h e w R) (d w R)
 |(t,.v j)::l,d,h,e=>lB j (nI l) d λk d=>match k with
  |v::_=>CJ G l d ((t,v)::h) e
  |[]=>False
 |(t,.l j q)::l,d,h,e=>∀b:Nat,lB j (nI l) (d b) λk d=>CJ G l d ((t,.r (aa b) (some (e.length,0)))::h) (e++[(b,k,q)])
def kH:(ts:List Tk)->(X:Type)->il ts X->(List DV->X->Oc)->Oc
 |[],_,h,j=>j [] h
 |.o (.i q)::ts,X,h,j=>.all Int λe=>kH ts X (h e) λd k=>j (.i q e::d) k
 |.o .b::ts,X,h,j=>.all Bool λe=>kH ts X (h e) λd k=>j (.b e::d) k
 |.o .st::ts,X,h,j=>.all ByteArray λe=>kH ts X (h e) λd k=>j (.st e::d) k
 |.o .s::ts,X,h,j=>.all Sl λe=>kH ts X (h e) λd k=>j (.sl e::d) k
 |.o .p::ts,X,h,j=>.all (Option Addr) λe=>kH ts X (h e) λd k=>j (.p e::d) k
 |.o .r::ts,X,h,j=>.all Addr λe=>kH ts X (h e) λd k=>j (.r e none::d) k
 |.o .m::ts,X,h,j=>.all (Option Nat) λe=>kH ts X (h e) λd k=>j (.m e::d) k
 |.o .v::ts,X,h,j=>.all V λe=>kH ts X (h e) λd k=>j (.v e::d) k
 |.o .f::ts,X,h,j=>.all Fv λe=>kH ts X (h e) λd k=>j (.f e::d) k
 |.a q::ts,X,h,j=>kH ts X h λd k=>j (.a (ny d 0 q)::d.drop q) k
 |.t q::ts,X,h,j=>kH ts X h λd k=>j (.t (ny d 0 q)::d.drop q) k
 |.g n w q::ts,X,h,j=>kH ts X h λd k=>j (.g n (ny d 0 w) (ny d w q)::d.drop (w+q)) k
def CV(G:DE->DL->I->aC->Oc):(l:List (Nat×Sp))->nI l->DE->DL->Oc
 |[],d,h,e=>.all I λw=>.all aC λq=>.im (G h e w q) (d w q)
 |(t,.v j)::l,d,h,e=>kH j (nI l) d λk d=>match k with
  |v::_=>CV G l d ((t,v)::h) e
  |[]=>.leaf False
 |(t,.l j x)::l,d,h,e=>.all Nat λb=>kH j (nI l) (d b) λk d=>CV G l d ((t,.r (aa b) (some (e.length,0)))::h) (e++[(b,k,x)])
def mL:(ts:List Tk)->il ts Unit
 |[]=>()
 |.o (.i _)::ts=>λ_=>mL ts
 |.o .b::ts=>λ_=>mL ts
 |.o .st::ts=>λ_=>mL ts
 |.o .s::ts=>λ_=>mL ts
 |.o .p::ts=>λ_=>mL ts
 |.o .r::ts=>λ_=>mL ts
 |.o .m::ts=>λ_=>mL ts
 |.o .v::ts=>λ_=>mL ts
 |.o .f::ts=>λ_=>mL ts
 |.a _::ts=>mL ts
 |.t _::ts=>mL ts
 |.g _ _ _::ts=>mL ts
def La:Nat->List DV->DE
 |_,[]=>[]
 |n,v::d=>(n,v)::La (n+1) d
def okD(X:Fx)(es:List (gI X))(f:b3)(ts:List Tk):Oc:=kH ts Unit (mL ts) λe _=>.all I λh=>.all aC λd=>U5 d X λj _ _ _=>DV.os e λk=>.im (DZ X es d [] (La 0 e) [] h) (ai j f k.toArray h d)
abbrev At(X:Fx)(_:List (gI X))(_:List Nat)(d:Ps):Type:=nI d
abbrev ay(P:au)(fn:Func)(ord:List (Nat×Tr))(d:List Nat)(e:Option (List b3):=none):List (gI ⟨P,fn,ord,d,e⟩):=[]
section
variable {X:Fx}
abbrev ah(es:List (gI X))(q:List Nat)(d:Ps){F:nI d}(_:CJ (λe h k j=>DZ X es j (o0 q) e h k) d F [] []:=by repeat' first |(intro)|((conv=>arg 1;whnf);first |exact Nf.leaf|apply Nf.bD|apply Nf.and|apply Nf.ex|apply Nf.cf|apply Nf.ca|apply Nf.cp|apply Nf.nw|apply Nf.st|apply Nf.lc|apply Nf.op|apply Nf.all|apply Nf.im|apply Nf.al|apply Nf.dr|apply Nf.at|apply Nf.or|apply Nf.cj)):At X es q d:=F
abbrev bq(es:List (gI X))(q:List Nat)(d:Ps):At X es q d:=cast (D1 d) (jN d 0 (X.Sem (o0 q)))
abbrev aj{es:List (gI X)}{q:List Nat}{d:Ps}(G:At X es q d){F:g6 d}(_:HEq G F:=by exact HEq.rfl)(e:F=jN d 0 (X.wv es (o0 q)):=by kernel_rfl):List (gI X):=Yr X es (o0 q) d F e::es
abbrev bp{es:List (gI X)}{q:List Nat}{d:Ps}(G:At X es q d){F:g6 d}(_:HEq G F:=by exact HEq.rfl)(e:F=jN d 0 (X.Sem (o0 q)):=by kernel_rfl):List (gI X):=Yq X (o0 q) d F e::es
def tT:(ts:List Tk)->(List V->Prop)->Prop
 |[],e=>e []
 |.o k::ts,e=>∀q:k.T,tT ts λd=>e (k.val q::d)
 |.a h::ts,e=>tT ts λd=>e (.agg (d.take h).toArray::d.drop h)
 |.t h::ts,e=>tT ts λd=>e (.tuple (d.take h).toArray::d.drop h)
 |.g n j h::ts,e=>tT ts λd=>e (.func (.func n) (d.take j).toArray ((d.drop j).take h).toArray::(d.drop j).drop h)
def wM:∀{ts:List Tk} {K:List V->Prop},(∀e,K e)->tT ts K
 |[],_,d=>d []
 |.o _::ts,_,d=>λ_=>wM (ts:=ts) λ_=>d _
 |.a _::ts,_,d=>wM (ts:=ts) λ_=>d _
 |.t _::ts,_,d=>wM (ts:=ts) λ_=>d _
 |.g _ _ _::ts,_,d=>wM (ts:=ts) λ_=>d _
def aA(es:List (gI X))(f:b3)(ts:List Tk){T:Prop}(_:Nf (okD X es f ts) T:=by repeat' first |(intro)|((conv=>arg 1;whnf);first |exact Nf.leaf|apply Nf.bD|apply Nf.and|apply Nf.ex|apply Nf.cf|apply Nf.ca|apply Nf.cp|apply Nf.nw|apply Nf.st|apply Nf.lc|apply Nf.op|apply Nf.all|apply Nf.im|apply Nf.al|apply Nf.dr|apply Nf.at|apply Nf.or|apply Nf.cj))(k:X.P.funcs[f]? =some X.fn:=by kernel_rfl)(j:X.fn.body=some X.c:=by kernel_rfl)(e:(tT ts λd=>∀(w:I) (R:aC),cM (Nat.ble d.length X.fn.ntmps) (ja X.P X.n (X.BZ es R) X.c [] (vQ X.P X.fn R) ⟨kS 0 d,[],[],w,false⟩)->ai X.P f d.toArray w R)=T:=by kernel_rfl):T:=
 e▸wM λ_ _ _ h=>Xv X es (dN h).2 k j (dN h).1 rfl
def bE(es:List (gI X)){w:List (gI X)}{q:List Nat}{d:Ps}(F:At X w q d){T:Prop}(_:Nf (CV (λh j x k=>DZ X es k (o0 q) h j x) d F [] []) T:=by repeat' first |(intro)|((conv=>arg 1;whnf);first |exact Nf.leaf|apply Nf.bD|apply Nf.and|apply Nf.ex|apply Nf.cf|apply Nf.ca|apply Nf.cp|apply Nf.nw|apply Nf.st|apply Nf.lc|apply Nf.op|apply Nf.all|apply Nf.im|apply Nf.al|apply Nf.dr|apply Nf.at|apply Nf.or|apply Nf.cj))(e:wx d (jN d 0 (X.wv es (o0 q))) (jN d 0 (X.Sem (o0 q)))=T:=by kernel_rfl):T:=e▸ad1 es (o0 q) d
end
end Go.W
set_option maxHeartbeats 2000000
set_option maxRecDepth 100000
namespace Go.Proofs.YtkbmpalepmakmabGreatDoor
open Go renaming World->I,Calls->ai,Program->au,Value->V,TypeId->aE,Ending->cW,FuncId->b3,IntKind->ij
open Go.IntKind renaming wrap->aB
open Go.IntWalk renaming i64_in->bo
open Go.Builtin renaming append_->fM
open _root_.Bool renaming and_eq_true->bd
open _root_.Nat renaming le_refl->bw,le_trans->bB,beq->bI,beq_eq->eJ
open Go.Region renaming wanted->cv,ready->ec
open Go.Proofs.Tryz renaming prog->U
open _root_.Decidable renaming decide->ak
open Go.Ending renaming returned->ad
open List renaming mem_append->aP,mem_cons->aF,not_mem_nil->aZ,mem_of_getElem?->aD,getElem?_eq_getElem->aY,mem_append_left->cm,mem_singleton->cy,mem_cons_of_mem->cP,drop_eq_getElem_cons->dw,take_add_one->fJ,drop_of_length_le->dy
open Go Go.W
def mp{a b:Prop}(d:a)(e:a=b:=by kernel_rfl):b:=e▸d
abbrev ly:=Exit->Act->I->Prop
abbrev Iq(P:au)(n:Nat)(K:Env->I->aC->Prop)(c:Code)(Q:aC->ly):Prop:=∀(R:aC) (E:Env) (w:I),K E w R->WP P (cx n) c (Q R) E w
abbrev It(P:au)(n:Nat)(K:Env->I->aC->Prop)(c:Code)(Q:aC->ly):Prop:=∀(R:aC) (E:Env) (w:I),K E w R->LP P (cx n) c (Q R) E w
abbrev jM(w:I)(p:Addr)(K:Int->Int->Int->Sl->Prop):Prop:=∃d:Int,∃e:Int,∃h:Int,∃j:Sl,w.cell? (p.add 0)=some (.i d)/\w.cell? (p.add 1)=some (.int .u8 e)/\w.cell? (p.add 2)=some (.int .u8 h)/\w.cell? (p.add 3)=some (j.v)/\K d e h j
abbrev MB(w:I)(p:Addr)(K:Int->Int->Int->ByteArray->Int->Prop):Prop:=∃d:Int,∃e:Int,∃h:Int,∃j:ByteArray,∃k:Int,w.cell? (p.add 0)=some (.int .u8 d)/\w.cell? (p.add 1)=some (.int .u8 e)/\w.cell? (p.add 2)=some (.int .u8 h)/\w.cell? (p.add 3)=some (.string j)/\w.cell? (p.add 4)=some (.i k)/\K d e h j k
abbrev Mz(w:I)(p:Addr)(K:Int->Int->Int->Prop):Prop:=∃d:Int,∃e:Int,∃h:Int,w.cell? (p.add 0)=some (.i d)/\w.cell? (p.add 1)=some (.i e)/\w.cell? (p.add 2)=some (.i h)/\K d e h
abbrev MA(w:I)(p:Addr)(K:Int->ByteArray->Int->Prop):Prop:=∃d:Int,∃e:ByteArray,∃h:Int,w.cell? (p.add 0)=some (.i d)/\w.cell? (p.add 1)=some (.string e)/\w.cell? (p.add 2)=some (.i h)/\K d e h
abbrev Z3(w:I)(p:Addr)(K:Int->Int->Prop):Prop:=∃d:Int,∃e:Int,w.cell? (p.add 0)=some (.i d)/\w.cell? (p.add 1)=some (.i e)/\K d e
abbrev JU(f:b3)(xs:Array V)(w:I)(K:Bool->I->Prop):Prop:=ai U f xs w λe h=>∃d:Bool,e=ad (.bool d)/\K d h
abbrev Xp(f:b3)(xs:Array V)(w:I)(K:Int->I->Prop):Prop:=ai U f xs w λe h=>∃d:Int,e=ad (.i d)/\K d h
abbrev XD(bs:List Nat)(f:b3)(xs:Array V)(w:I)(K:Int->I->Prop):Prop:=fF bs U f xs w λe h=>∃d:Int,e=ad (.i d)/\K d h
abbrev zK(f:b3)(xs:Array V)(w:I)(K:Int->Int->Int->Sl->I->Prop):Prop:=ai U f xs w λk q=>∃d:Int,∃e:Int,∃h:Int,∃j:Sl,k=ad (.agg #[.i d,.int .u8 e,.int .u8 h,j.v])/\K d e h j q
abbrev uA(bs:List Nat)(f:b3)(xs:Array V)(w:I)(K:Int->Int->Int->Sl->I->Prop):Prop:=fF bs U f xs w λk q=>∃d:Int,∃e:Int,∃h:Int,∃j:Sl,k=ad (.agg #[.i d,.int .u8 e,.int .u8 h,j.v])/\K d e h j q
abbrev Xq(f:b3)(xs:Array V)(w:I)(K:Int->Int->Int->ByteArray->Int->Int->I->Prop):Prop:=ai U f xs w λx y=>∃d:Int,∃e:Int,∃h:Int,∃j:ByteArray,∃k:Int,∃q:Int,x=ad (.tuple #[.agg #[.int .u8 d,.int .u8 e,.int .u8 h,.string j,.i k],.i q])/\K d e h j k q y
abbrev Xr(f:b3)(xs:Array V)(w:I)(K:(Option Addr)->I->Prop):Prop:=ai U f xs w λe h=>∃d:Option Addr,e=ad (.pointer d)/\K d h
abbrev Dz(f:b3)(xs:Array V)(w:I)(K:V->I->Prop):Prop:=ai U f xs w λe h=>∃d:V,e=ad (d)/\K d h
abbrev XE(bs:List Nat)(f:b3)(xs:Array V)(w:I)(K:Int->Int->Int->Sl->Int->I->Prop):Prop:=fF bs U f xs w λq x=>∃d:Int,∃e:Int,∃h:Int,∃j:Sl,∃k:Int,q=ad (.tuple #[.agg #[.i d,.int .u8 e,.int .u8 h,j.v],.i k])/\K d e h j k x
abbrev JV(f:b3)(xs:Array V)(w:I)(K:ByteArray->I->Prop):Prop:=ai U f xs w λe h=>∃d:ByteArray,e=ad (.string d)/\K d h
abbrev DD(bs:List Nat)(f:b3)(xs:Array V)(w:I)(K:ByteArray->I->Prop):Prop:=fF bs U f xs w λe h=>∃d:ByteArray,e=ad (.string d)/\K d h
abbrev BS(w:I)(p:Addr)(d e h:V)(K:I->Prop):Prop:=aN w p d λw=>aN w (p.add 1) e λw=>aN w (p.add 2) h λw=>K w
abbrev n7(w:I)(p:Addr)(d e h j:V)(K:I->Prop):Prop:=aN w p d λw=>aN w (p.add 1) e λw=>aN w (p.add 2) h λw=>aN w (p.add 3) j λw=>K w
abbrev TL(w:I)(p:Addr)(d e h j k:V)(K:I->Prop):Prop:=aN w p d λw=>aN w (p.add 1) e λw=>aN w (p.add 2) h λw=>aN w (p.add 3) j λw=>aN w (p.add 4) k λw=>K w
abbrev oa:Nat:=0
abbrev HY:Nat:=1
abbrev bz:Nat:=3
abbrev aeJ:Nat:=4
abbrev eB:Nat:=5
abbrev eH:Nat:=9
abbrev aeT:Nat:=22
abbrev aeQ:Nat:=25
abbrev nB:Nat:=27
abbrev B9:Nat:=28
abbrev UJ:Nat:=30
abbrev hr:Nat:=31
abbrev cd:Nat:=36
abbrev ky:Nat:=38
abbrev bQ:Nat:=41
abbrev aeS:Nat:=43
abbrev aeP:Nat:=48
abbrev rF:Nat:=54
abbrev rG:Nat:=57
abbrev y2:Nat:=60
abbrev H0:Nat:=64
abbrev B7:Nat:=65
abbrev UI:Nat:=66
abbrev aeO:Nat:=68
abbrev tK:Nat:=76
abbrev aeK:Nat:=93
abbrev du:Nat:=96
abbrev ju:Nat:=98
abbrev lq:Nat:=102
abbrev aeL:Nat:=106
abbrev wj:Nat:=108
abbrev hR:Nat:=121
abbrev aeN:Nat:=131
abbrev aeI:Nat:=135
abbrev B6:Nat:=136
abbrev wk:Nat:=142
abbrev aeR:Nat:=146
abbrev aeU:Nat:=159
abbrev jv:Nat:=161
abbrev aeM:Nat:=162
abbrev mK:Nat:=164
abbrev UH:Nat:=166
abbrev di:Nat:=178
abbrev aJ:Nat:=180
abbrev jw:Nat:=199
abbrev aS:Nat:=201
abbrev B8:Nat:=213
abbrev UG:Nat:=216
abbrev qC:Nat:=218
abbrev iX:Nat:=237
abbrev aeV:Nat:=238
abbrev y3:Nat:=240
abbrev pc:Nat:=245
abbrev ln:Nat:=253
abbrev oc:Nat:=274
abbrev HZ:Nat:=281
abbrev Fo:Nat:=3
abbrev Ou:Nat:=4
abbrev xS:Nat:=5
abbrev xY:Nat:=6
abbrev Pq:Nat:=7
abbrev Ot:Nat:=8
abbrev Nw:Nat:=9
abbrev N':Nat:=10
abbrev Nv:Nat:=11
abbrev N8:Nat:=12
abbrev Oq:Nat:=13
abbrev Ox:Nat:=14
abbrev Nz:Nat:=15
abbrev OB:Nat:=16
abbrev OM:Nat:=17
abbrev aaV:Nat:=18
abbrev FN:Nat:=19
abbrev PF:Nat:=20
abbrev Pw:Nat:=21
abbrev Pu:Nat:=22
abbrev Pv:Nat:=23
abbrev N9:Nat:=24
abbrev Fq:Nat:=25
abbrev N6:Nat:=26
abbrev N1:Nat:=27
abbrev NZ:Nat:=28
abbrev Fp:Nat:=29
abbrev Ov:Nat:=30
abbrev Oo:Nat:=31
abbrev Oy:Nat:=32
abbrev Oz:Nat:=33
abbrev OF:Nat:=34
abbrev OJ:Nat:=35
abbrev ON:Nat:=36
abbrev Pr:Nat:=37
abbrev vj:Nat:=38
abbrev OQ:Nat:=39
abbrev FC:Nat:=40
abbrev qg:Nat:=41
abbrev PI:Nat:=42
abbrev F7:Nat:=43
abbrev PD:Nat:=44
abbrev Ol:Nat:=45
abbrev Oh:Nat:=46
abbrev On:Nat:=47
abbrev Oj:Nat:=48
abbrev N0:Nat:=49
abbrev Oa:Nat:=50
abbrev N3:Nat:=51
abbrev sU:Nat:=52
abbrev qf:Nat:=53
abbrev F5:Nat:=54
abbrev xX:Nat:=55
abbrev OI:Nat:=56
abbrev OK:Nat:=57
abbrev OD:Nat:=58
abbrev OG:Nat:=59
abbrev nc:Nat:=60
abbrev FE:Nat:=61
abbrev FF:Nat:=62
abbrev FP:Nat:=63
abbrev q':Nat:=64
abbrev jP:Nat:=65
abbrev Py:Nat:=66
abbrev PO:Nat:=67
abbrev PL:Nat:=68
abbrev PK:Nat:=69
abbrev PJ:Nat:=70
abbrev PN:Nat:=71
abbrev PT:Nat:=72
abbrev PV:Nat:=73
abbrev Ob:Nat:=74
abbrev NG:Nat:=75
abbrev N4:Nat:=76
abbrev N5:Nat:=77
abbrev Om:Nat:=78
abbrev Od:Nat:=79
abbrev Og:Nat:=80
abbrev Oe:Nat:=81
abbrev Oi:Nat:=82
abbrev NB:Nat:=83
abbrev FA:Nat:=84
abbrev OH:Nat:=85
abbrev OC:Nat:=86
abbrev AQ:Nat:=87
abbrev xZ:Nat:=88
abbrev vi:Nat:=89
abbrev OO:Nat:=90
abbrev FG:Nat:=91
abbrev FO:Nat:=92
abbrev sV:Nat:=93
abbrev Pj:Nat:=94
abbrev PB:Nat:=95
abbrev PU:Nat:=96
abbrev PQ:Nat:=97
abbrev Pz:Nat:=98
abbrev AW:Nat:=99
abbrev PA:Nat:=100
abbrev Px:Nat:=101
abbrev Pt:Nat:=102
abbrev PC:Nat:=103
abbrev F8:Nat:=104
abbrev PW:Nat:=105
abbrev F9:Nat:=106
abbrev PY:Nat:=107
abbrev PX:Nat:=108
abbrev O9:Nat:=109
abbrev qe:Nat:=110
abbrev q9:Nat:=111
abbrev xU:Nat:=112
abbrev N2:Nat:=113
abbrev Of:Nat:=114
abbrev N7:Nat:=115
abbrev NY:Nat:=116
abbrev ND:Nat:=117
abbrev NC:Nat:=118
abbrev vh:Nat:=119
abbrev Pm:Nat:=120
abbrev xW:Nat:=121
abbrev OE:Nat:=122
abbrev Po:Nat:=123
abbrev FH:Nat:=124
abbrev FK:Nat:=125
abbrev FD:Nat:=126
abbrev aaR:Nat:=127
abbrev OR:Nat:=129
abbrev FQ:Nat:=130
abbrev OS:Nat:=131
abbrev Fu:Nat:=132
abbrev NA:Nat:=133
abbrev NN:Nat:=134
abbrev NO:Nat:=135
abbrev Ny:Nat:=136
abbrev xV:Nat:=137
abbrev NH:Nat:=138
abbrev Fy:Nat:=139
abbrev NV:Nat:=140
abbrev Ft:Nat:=141
abbrev NI:Nat:=142
abbrev NL:Nat:=143
abbrev Pn:Nat:=144
abbrev Pp:Nat:=145
abbrev PH:Nat:=146
abbrev O':Nat:=147
abbrev OP:Nat:=148
abbrev AP:Nat:=149
abbrev Pl:Nat:=150
abbrev FI:Nat:=151
abbrev FB:Nat:=152
abbrev O8:Nat:=158
abbrev F1:Nat:=159
abbrev AU:Nat:=160
abbrev FU:Nat:=161
abbrev F4:Nat:=162
abbrev OT:Nat:=163
abbrev O3:Nat:=164
abbrev FV:Nat:=165
abbrev OZ:Nat:=166
abbrev AV:Nat:=167
abbrev NQ:Nat:=168
abbrev NK:Nat:=169
abbrev Fs:Nat:=170
abbrev NR:Nat:=171
abbrev NS:Nat:=172
abbrev AM:Nat:=173
abbrev NX:Nat:=174
abbrev xT:Nat:=175
abbrev NM:Nat:=176
abbrev F6:Nat:=177
abbrev PG:Nat:=178
abbrev aaS:Nat:=179
abbrev FL:Nat:=180
abbrev sX:Nat:=184
abbrev F3:Nat:=185
abbrev O6:Nat:=186
abbrev FZ:Nat:=187
abbrev F2:Nat:=188
abbrev O2:Nat:=189
abbrev O0:Nat:=190
abbrev O1:Nat:=191
abbrev AT:Nat:=192
abbrev OX:Nat:=193
abbrev O5:Nat:=194
abbrev FR:Nat:=195
abbrev x9:Nat:=196
abbrev AR:Nat:=197
abbrev AS:Nat:=198
abbrev OY:Nat:=199
abbrev Pc:Nat:=200
abbrev FT:Nat:=201
abbrev sW:Nat:=202
abbrev Pg:Nat:=203
abbrev eX:Nat:=204
abbrev Pa:Nat:=205
abbrev vl:Nat:=206
abbrev vm:Nat:=207
abbrev OU:Nat:=208
abbrev NJ:Nat:=209
abbrev AO:Nat:=210
abbrev NW:Nat:=211
abbrev Pe:Nat:=212
abbrev OA:Nat:=213
abbrev O7:Nat:=216
abbrev OV:Nat:=217
abbrev FY:Nat:=218
abbrev Pd:Nat:=219
abbrev vk:Nat:=220
abbrev Pf:Nat:=221
abbrev aaW:Nat:=222
abbrev OL:Nat:=223
abbrev Fl:Nat:=224
abbrev Nu:Nat:=225
abbrev Nt:Nat:=226
abbrev Pb:Nat:=227
abbrev OW:Nat:=228
abbrev NP:Nat:=229
abbrev AN:Nat:=230
abbrev NU:Nat:=231
abbrev O4:Nat:=233
abbrev Ph:Nat:=234
abbrev aaU:Nat:=243
abbrev aaQ:Nat:=244
abbrev aaP:Nat:=245
abbrev Fw:Nat:=246
abbrev Fz:Nat:=256
namespace KD
abbrev S0:=ah (ay U Tryz.f5 [] []) [2] [(0,.I),(1,.I)]
abbrev t1:=aj S0
def ok:=aA t1 xS [.I,.I]
end KD
namespace xb
def L0:=bq (ay U Tryz.f136 [] []) [0,1,1,1,1] [(0,.s),(1,.I),(5,.I)]
abbrev t1:=bp L0
def b':=bE t1 L0
def ok:=aA t1 Ny [.s,.I]
end xb
namespace oH
def L0:=bq (ay U Tryz.f25 [(6,lr 9)] []) [0,1,1,1,2] [(0,.s),(1,.s),(5,.I)]
abbrev t1:=bp L0
def b':=bE t1 L0
def ok:=aA t1 Fq [.s,.s]
end oH
open Go Go.W Go.RowKit Go.Lib
def mg:fO U hR eB (.int .u8 0) 1 1:=⟨by kernel_rfl,by kernel_rfl,rfl,dl,dl⟩
def sw:fO U aeT bz (.int .i64 0) 1 8:=⟨by kernel_rfl,by kernel_rfl,rfl,dl,dl⟩
abbrev Bytes(w:I)(s:Sl)(bs:List UInt8):Prop:=Rd w s (bs.map gb)
abbrev mO(w:I)(s:Sl)(bs:List UInt8):Prop:=Ow w eB s (bs.map gb)
abbrev bF(w:I)(s:Sl)(l:List Int):Prop:=Rd w s (l.map bC)
def Bytes.len{w:I}{s:Sl}{bs:List UInt8}(d:Bytes w s bs):s.n=bs.length:=by simpa using d.1
def bF.len{w:I}{s:Sl}{bs:List Int}(d:bF w s bs):s.n=bs.length:=by simpa using d.1
def Bytes.cell{w:I}{s:Sl}{bs:List UInt8}(d:Bytes w s bs){i j:Nat}{b:UInt8}(hi:bs[i]? =some b)(e:j=i *1){K:Addr->Prop}(h:∀p,s.a=some p->w.cell? (p.add j)=some (.int .u8 (b.toNat:Int))->K p):W.dJ s.a K:=
 Rd.get d (i:=i) (v:=gb b) (by grind) e h
def bF.cell{w:I}{s:Sl}{l:List Int}(d:bF w s l){i j:Nat}{b:Int}(hi:l[i]? =some b)(e:j=i *1){K:Addr->Prop}(h:∀p,s.a=some p->w.cell? (p.add j)=some (.int .i64 b)->K p):W.dJ s.a K:=
 Rd.get d (i:=i) (v:=bC b) (by grind) e h
def IM{ty:aE}{w:I}{s src:Sl}{xs h:List UInt8}(z:mO w s xs)(A:Bytes w src h)(C:xs.length+h.length<=140737488355328):
  ∃d e,(fM #[hR,hR] ty #[s.v,src.v]).run U w=.ok d.v e/\mO e d (xs++h)/\Fr (λb=>b∈aG s) w e/\(∀b∈aG d,b∈aG s\/w.heap.size<=b)/\(d.a=none->s.a=none/\h=[]):=by obtain⟨d,e,q,B,x,y,j⟩:=VW (ty:=ty) mg z A (Wn _) (by grind);exact⟨d,e,q,by grind,x,y,λk=>⟨(j k).1,by simpa using(j k).2⟩⟩
def abE(w:I)(T:aE)(cs:List V)(d:cs.length<=1000000):Rd (w.alloc (.cells cs.toArray T)) ⟨some ⟨w.heap.size,0,none⟩,cs.length,cs.length⟩ cs:=(Ow.made w T cs _ rfl d).rd
def abD(w:I)(b:UInt8):Bytes (w.alloc (.cells #[.int .u8 (b.toNat:Int)] eB)) ⟨some ⟨w.heap.size,0,none⟩,1,1⟩ [b]:=abE w eB [gb b] gs
def bl(s:ByteArray):List UInt8:=s.data.toList
def ba(l:List UInt8):ByteArray:=⟨l.toArray⟩
def j9(l:List UInt8):bl (ba l)=l:=rfl
def j8(s:ByteArray):ba (bl s)=s:=rfl
def cR(s:ByteArray):(bl s).length=s.size:=rfl
def be(l:List UInt8):(ba l).size=l.length:=by simp[ba,ByteArray.size]
def ad3(s:ByteArray):strCells s=(bl s).map gb:=by simp[strCells,bl,gb]
def tD:Tryz.prog.underlying eH=some .string:=by kernel_rfl
def H4:Tryz.prog.underlying eB=some (.int .u8):=by kernel_rfl
def VX{ty:aE}{w:I}{s:Sl}{xs:List UInt8}(y:mO w s xs)(t:ByteArray)(hb:xs.length+t.size<=140737488355328):
  ∃d e,(fM #[hR,eH] ty #[s.v,.string t]).run U w=.ok d.v e/\mO e d (xs++bl t)/\Fr (λb=>b∈aG s) w e/\(∀b∈aG d,b∈aG s\/w.heap.size<=b):=by
 obtain⟨i,B,L,K,T⟩:=info_parts mg.hi;have G:s.n=xs.length:=by simpa using y.1
 have main:∀base,base<=w.heap.size->w.ownsRow base eB 1 s.v s.n (xs.map gb)->∃x e,(fM #[hR,eH] ty #[s.v,.string t]).run U w=.ok x e/\e.ownsRow base eB 1 x (s.n+t.size) (xs.map gb++strCells t)/\w.grownBy e s.v.ownBlock/\(x=.slice none 0 0↔s.v=.slice none 0 0/\t.size=0):=
  λbase S Q=>run_append_own_string (P:=U) w base hR eH ty eB i mg.ht tD B L K T s.v s.n (xs.map gb) Q t (by unfold maxLen;omega) io S
 obtain⟨x,e,z,H,aa,ao⟩:=main 0 (Nat.zero_le _) y.2;have hv:∃d:Sl,x=d.v/\d.n=s.n+t.size:=by
  rcases H.2 with⟨j,A⟩|⟨g,cap,cur,j,_⟩
  .grind
  .exact ⟨⟨_,_,_⟩,j,rfl⟩
 obtain⟨d,rfl,ab⟩:=hv;have Y:Fr (λb=>b∈aG s) w e:=by
  refine Fr.grown aa λg h=>?_;rw[QQ]at h;cases J:s.a with
  |none=>grind
  |some p=>simp[J]at h;simp[aG,J,h]
 refine⟨d,e,z,⟨?_,?_⟩,Y,?_⟩
 .rw [ab,G];simp[cR]
 .have A:=H;rw[ad3,<-List.map_append]at A;unfold aK;grind
 .intro g h;rcases y.2.cases with⟨rfl,hx⟩|⟨q,cur,F,Z,ac,an,W,ah⟩
  .obtain ⟨v2,w2,ag,ae,_,_⟩:=main w.heap.size (bw _) (by rw[hx];exact World.ownsRow_nil w _ _ _);have k:(Result.ok d.v e:Result V)=.ok v2 w2:=z.symm.trans ag;have N:=(Result.ok.inj k).1;subst N;rcases ae.2 with⟨j,_⟩|⟨O,aj,am,j,A,_⟩
   .have:d.a=none:=(Value.slice.inj j).1;simp[aG,this]at h
   .have:d.a=some ⟨O,0,none⟩:=(Value.slice.inj j).1;simp[aG,this]at h;omega
  .obtain ⟨ap,E,D⟩:=s;simp only at F ac W ah G;subst F;by_cases af:E+t.size<=D
   .have C:=run_append_room_string (P:=U) w hR eH ty eB i mg.ht tD B K q E D cur Z t af io;have k:=z.symm.trans C;have:d.a=some ⟨q,0,none⟩:=(Value.slice.inj (Result.ok.inj k).1).1;simp[aG,this]at h ⊢;omega
   .have holds:∀M u,(xs.map gb)[M]? =some u->w.cell? ((⟨q,0,none⟩:Addr).add M)=some u:=World.ownsRow.cells (g:=q) y.2 rfl;have C:=run_append_grow_string (P:=U) w hR eH ty eB i (.int .u8 0) mg.ht tD B L ⟨q,0,none⟩ E D (xs.map gb) (by grind) holds t io io (growslice_fits io (by grind));have k:=z.symm.trans C;have:d.a=some ⟨w.heap.size,0,none⟩:=(Value.slice.inj (Result.ok.inj k).1).1;simp[aG,this]at h;omega
def r5{w:I}{s:Sl}{bs:List UInt8}(d:Bytes w s bs):(Go.convert hR eH s.v).run U w=.ok (.string (ba bs)) w:=by
 obtain⟨a,n,c⟩:=s;have h:=Bytes.len d;simp only at h;subst h;cases a with
 |none=>
  obtain⟨e,k⟩:=d.2.2.1 rfl;simp only at e k;obtain rfl:bs=[]:=List.eq_nil_of_length_eq_zero e;rw[run_convert_bytes_string (P:=U) w hR eH eB _ _ _ mg.ht H4 tD];rfl
 |some p=>
  refine run_convert_bytes_back (P:=U) w hR eH eB p c bs mg.ht H4 tD λj y=>?_;obtain⟨z,x,q⟩:=d.2.2.2 j (gb bs[j]) (by grind);cases x;exact q
def TX(w:I)(t:ByteArray):∃e d,(Go.convert eH hR (.string t)).run U w=.ok e.v d/\Bytes d e (bl t)/\af w d/\(∀b∈aG e,w.heap.size<=b/\b<d.heap.size):=by
 refine⟨⟨some ⟨w.heap.size,0,none⟩,t.size,grownCap w t.size 0 eB⟩,_,run_bytes_of_string (P:=U) w eH hR eB t tD mg.ht H4,⟨?_,?_,?_⟩,?_,?_⟩
 .simp [cR]
 .exact grownCap_ge w t.size 0 _
 .refine Row.sj (T:=eB) (.inr ⟨w.heap.size,0,_,_,rfl,m6 w.drew _,λi v h=>?_⟩);rw[Nat.zero_add,bytesRow,Array.getElem?_append];have k:i<t.data.size:=by have:=(List.getElem?_eq_some_iff.1 h).1;simpa[bl]using this
  rw[ag (by grind)];simpa[bl,gb]using h
 .exact (Fr.drew _ w).gp (Fr.alloc _ _ _)
 .intro b j;simp[aG]at j;have:(w.drew.alloc (.cells (bytesRow t (grownCap w t.size 0 eB)) eB ((bytesRow t (grownCap w t.size 0 eB)).size,(bytesRow t (grownCap w t.size 0 eB)).size+1))).heap.size=w.heap.size+1:=size_alloc _ _;omega
def GX{w:I}{s:Sl}{vs:List V}(k:s.n=vs.length)(j:s.n<=s.c)(e:s.a=none->s.c=0)(d:∀i v,vs[i]? =some v->∃p,s.a=some p/\w.cell? (p.add i)=some v):Rd w s vs:=
 ⟨k,j,λh=>⟨by grind,e h⟩,d⟩
def ArgNums(w:I)(s:Sl):Prop:=∃l:List Int,bF w s l/\l.length<=9223372036854775807/\∀d∈l,-9223372036854775808<=d/\d<=9223372036854775807
def arg_nums_nil(w:I):ArgNums w ⟨none,0,0⟩:=⟨[],Rd.nil w,gs,gs⟩
def arg_nums(w:I)(x:Addr)(len cap:Nat)(zs:List Int)(A:len<=zs.length)(k:len<=cap)(z:cap<=maxLen)(j:∀i,i<zs.length->w.cell? (x.add i)=some (.int .i64 (zs.getD i 0)))(y:∀n∈zs,IntKind.min .i64<=n/\n<=IntKind.max .i64):ArgNums w ⟨some x,len,cap⟩:=by
 refine⟨zs.take len,GX (by grind) k (λh=>by cases h) (λi v d=>?_),?_,λn q=>y n (List.mem_of_mem_take q)⟩
 .rw [List.getElem?_map,List.getElem?_take]at d;split at d
  .have e:i<zs.length:=io
   refine⟨x,rfl,?_⟩;rw[j i e,List.getD_eq_getElem?_getD];rw[aY e]at d ⊢;simpa[bC]using d
  grind
 .have:len<=maxLen:=io
  unfold maxLen at this
  grind
def Vq(w:I)(bs:List UInt8):aC:=λr d=>∃s:Sl,r=ad s.v/\mO d s bs/\af w d/\∀b∈aG s,w.heap.size<=b
def fC(n m:Int):Int:=if n<0 then Int.tmod (0 - (n+1)) m else Int.tmod n m
def kI(n m:Int)(d:1<=m):0<=fC n m/\fC n m<m:=by
 unfold fC;split
 .exact ⟨Int.tmod_nonneg _ io,Int.tmod_lt_of_pos _ io⟩
 .exact ⟨Int.tmod_nonneg _ io,Int.tmod_lt_of_pos _ io⟩
abbrev cF(n:Int):Prop:=-9223372036854775808<=n/\n<=9223372036854775807
def IP(n m:Int)(w:I)(q:1<=m)(d:cF n):
  ai U xS #[.int .i64 n,.int .i64 m] w λr h=>r=ad (.int .i64 (fC n m))/\w=h:=by
 obtain⟨j,k⟩:=d;refine KD.ok ?_;refine bn (λd=>?_) (λd=>?_)
 .have e:n<0:=by simpa using d
  refine⟨io,?_,rfl⟩;rw[show aB .i64 (n+1)=n+1 from bo _ io,show aB .i64 (0 - (n+1))=0 - (n+1)from bo _ io];unfold fC;rw[ag e]
 .have e:¬n<0:=by simpa using d
  refine⟨io,?_,rfl⟩;unfold fC;rw[ab e]
def adg{w:I}{s t:Sl}{a b:List Int}(z:bF w s a)(A:bF w t b)(H:a.length<=1000000000000):
  ai U Fq #[s.v,t.v] w λr e=>r=ad (.bool (ak (a=b)))/\af w e:=by
 have j:=bF.len z;have y:=bF.len A;refine oH.ok ?_;refine bn (λd=>?_) (λd=>?_)
 .refine ⟨?_,Fr.refl _ _⟩;have:a≠b:=λh=>by subst h;rw[j,y]at d;simp at d
  simp[this]
 .have hlen:a.length=b.length:=by rw[j,y]at d;simp at d;omega
  have main:∀(n i:Nat),i+n=a.length->a.take i=b.take i->∀e,af w e->oH.L0 s t (i:Int) e λr e=>r=ad (.bool (ak (a=b)))/\af w e:=by
   intro n;induction n with
   |zero=>
    intro i D q e x;refine oH.b' ?_;refine aQ (by rw[j];simp;omega) ⟨?_,x⟩;rw[List.take_of_length_le io,List.take_of_length_le io]at q;simp[q]
   |succ n G=>
    intro i D q e x;have B:a[i]? =some a[i]:=aY io;have C:b[i]? =some b[i]:=aY io;refine oH.b' ?_;have k:af w e.drew:=x.gp (Fr.drew _ _);refine aR (by rw[j];simp;omega) ⟨io,by rw[j];omega,bF.cell (z.cA k) B gs λp _ E=>⟨_,E,io,by rw[y];omega,bF.cell (A.cA k) C gs λJ _ F=>⟨_,F,bn (λd=>?_) (λd=>?_)⟩⟩⟩
    .refine ⟨?_,k⟩;have:a≠b:=λh=>by subst h;simp at d
     simp[this]
    .show oH.L0 s t (aB .i64 ((i:Int)+1)) _ _;rw[show aB .i64 ((i:Int)+1)=((i+1:Nat):Int)from by rw[bo _ io];omega];refine G (i+1) io ?_ _ k;have h:a[i]=b[i]:=by simpa using d
     rw[fJ,fJ,B,C,q,h]
  exact main a.length 0 io gs w (Fr.refl _ _)
def bM{w:I}(D:List En)(e:∀d∈D,d.P w):O F0 w w [] D:=O.start D e
inductive Rx where
 |mk (k:Int) (lo hi:UInt8) (l:List Rx)
inductive J where
 |mk (k:Int) (lo hi:UInt8) (s:Sl) (l:List J)
namespace J
def k:J->Int|.mk k _ _ _ _=>k
def lo:J->UInt8|.mk _ lo _ _ _=>lo
def hi:J->UInt8|.mk _ _ hi _ _=>hi
def s:J->Sl|.mk _ _ _ s _=>s
def l:J->List J|.mk _ _ _ _ l=>l
mutual
def rx:J->Rx|.mk k lo hi _ l=>.mk k lo hi (ao l)
def ao:List J->List Rx
 |[]=>[]
 |t::l=>t.rx::ao l
end
mutual
def sz:J->Nat|.mk _ _ _ _ l=>1+a4 l
def a4:List J->Nat
 |[]=>0
 |t::l=>t.sz+a4 l
end
def c(t:J):List V:=[.int .i64 t.k,.int .u8 (t.lo.toNat:Int),.int .u8 (t.hi.toNat:Int),t.s.v]
abbrev v(t:J):V:=.agg #[.int .i64 t.k,.int .u8 (t.lo.toNat:Int),.int .u8 (t.hi.toNat:Int),t.s.v]
abbrev row(s:Sl)(l:List J):En:=.a3 4 s (l.flatMap c)
mutual
def P(w:I):J->Prop|.mk _ _ _ s l=>bh 4 w s (l.flatMap c)/\Ps w l
def Ps(w:I):List J->Prop
 |[]=>True
 |t::l=>P w t/\Ps w l
end
mutual
def fp:J->List Nat|.mk _ _ _ s l=>(row s l).fp++bc l
def bc:List J->List Nat
 |[]=>[]
 |t::l=>fp t++bc l
end
def qT(t:J):(c t).length=4:=rfl
def hB(l:List J):(l.flatMap c).length=l.length *4:=pV c 4 qT l
def cz{w:I}{s:Sl}{l:List J}(d:bh 4 w s (l.flatMap c)):s.n=l.length:=by have:=d.1;rw[hB]at this;omega
def fW:∀l:List J,ao l=l.map rx
 |[]=>rfl
 |t::l=>by unfold ao;rw[fW l];rfl
mutual
def cw{w w':I}:∀(t:J),(∀b∈t.fp,b<w.heap.size->w'.heap[b]? =w.heap[b]?)->P w t->P w' t
 |.mk k lo hi s l,d,h=>by unfold fp at d;unfold P at h ⊢;exact⟨(row s l).st w w' (λb e=>d b (cm _ e)) h.1,keeps l (λb e=>d b (List.mem_append_right _ e)) h.2⟩
def keeps{w w':I}:∀(l:List J),(∀b∈bc l,b<w.heap.size->w'.heap[b]? =w.heap[b]?)->Ps w l->Ps w' l
 |[],_,_=>by unfold Ps;trivial
 |t::l,d,h=>by unfold bc at d;unfold Ps at h ⊢;exact⟨cw t (λb e=>d b (cm _ e)) h.1,keeps l (λb e=>d b (List.mem_append_right _ e)) h.2⟩
end
mutual
def lt{w:I}:∀(t:J),P w t->∀b∈t.fp,b<w.heap.size
 |.mk k lo hi s l,e,b,d=>by
  unfold fp at d;unfold P at e;rcases aP.1 d with d|d
  .exact (row s l).lt w e.1 b d
  .exact Ff l e.2 b d
def Ff{w:I}:∀(l:List J),Ps w l->∀b∈bc l,b<w.heap.size
 |[],_,b,d=>by unfold bc at d;cases d
 |t::l,e,b,d=>by
  unfold bc at d;unfold Ps at e;rcases aP.1 d with d|d
  .exact lt t e.1 b d
  .exact Ff l e.2 b d
end
def P.cA{w w':I}{t:J}(d:P w t)(f:af w w'):P w' t:=cw t (λb _ e=>f.cw b e id) d
def Ps.cA{w w':I}{l:List J}(d:Ps w l)(f:af w w'):Ps w' l:=keeps l (λb _ e=>f.cw b e id) d
def Ps.get{w:I}:∀{l:List J},Ps w l->∀{i:Nat} {t:J},l[i]? =some t->P w t
 |[],_,i,t,d=>by simp at d
 |a::l,e,0,t,d=>by unfold Ps at e;simp at d;subst d;exact e.1
 |a::l,e,i+1,t,d=>by unfold Ps at e;exact Ps.get e.2 (by simpa using d)
def Ps.mem{w:I}{l:List J}(d:Ps w l){t:J}(e:t∈l):P w t:=by obtain⟨i,hi⟩:=List.mem_iff_getElem?.1 e;exact d.get hi
def jV{w:I}:∀{l:List J},(∀t∈l,P w t)->Ps w l
 |[],_=>by unfold Ps;trivial
 |t::l,d=>by unfold Ps;exact⟨d t gs,jV λh e=>d h (by simp[e])⟩
def bX:∀{l:List J} {b:Nat},b∈bc l↔∃t∈l,b∈t.fp
 |[],b=>by unfold bc;simp
 |t::l,b=>by unfold bc;rw[aP,bX];simp
def eP:∀{l:List J} {t:J},t∈l->t.sz<=a4 l
 |a::l,t,d=>by
  unfold a4;rcases aF.1 d with rfl|d
  .omega
  .have:=eP d;omega
def nr(t:J):1<=t.sz:=by cases t;unfold sz;omega
def gn:∀l:List J,l.length<=a4 l
 |[]=>gs
 |t::l=>by have:=gn l;have:=nr t;unfold a4;simp only[List.length_cons];omega
def P.parts{w:I}{t:J}(d:P w t):bh 4 w t.s (t.l.flatMap c)/\Ps w t.l:=by cases t;unfold P at d;exact d
def gP{t:J}{b:Nat}:b∈t.fp↔b∈(row t.s t.l).fp\/b∈bc t.l:=by cases t;unfold fp;exact aP
def iW(t:J):t.sz=1+a4 t.l:=by cases t;rfl
def fv(t:J):t.rx=.mk t.k t.lo t.hi (ao t.l):=by cases t;rfl
structure ik(w:I)(p:Addr)(i:Nat)(t:J):Prop where
 c0:w.cell? ((p.add (i *4)).add 0)=some (.int .i64 t.k)
 c1:w.cell? ((p.add (i *4)).add 1)=some (.int .u8 (t.lo.toNat:Int))
 c2:w.cell? ((p.add (i *4)).add 2)=some (.int .u8 (t.hi.toNat:Int))
 c3:w.cell? ((p.add (i *4)).add 3)=some t.s.v
def a6{w:I}{s:Sl}{l:List J}(e:bh 4 w s (l.flatMap c)){i:Nat}{t:J}(hi:l[i]? =some t){K:Addr->Prop}(h:∀p,s.a=some p->ik w p i t->K p):dJ s.a K:=
 fN.elem (f:=c) (sz:=4) qT io e.2.2 hi λp j d=>h p j ⟨d 0 _ rfl,d 1 _ rfl,d 2 _ rfl,d 3 _ rfl⟩
def again{w:I}{s:Sl}{l:List J}(q:bh 4 w s (l.flatMap c)){i:Nat}{t:J}(hi:l[i]? =some t){p:Addr}(y:s.a=some p):ik w p i t:=by have h:=a6 q hi (K:=λe=>∃j,s.a=some j/\ik w j i t) (λe d x=>⟨e,d,x⟩);rw[y]at h;obtain⟨e,d,k⟩:=h;cases d;exact k
end J
def _root_.Go.W.En.tree(t:J):En:=⟨mB t.fp,λh=>t.P h,λh k j e=>J.cw t (λb d=>j b (aW.2 d)) e,λh e b d=>J.lt t e b (aW.1 d),s8 _⟩
def _root_.Go.W.En.trees(l:List J):En:=⟨mB (J.bc l),λh=>J.Ps h l,λh k j e=>J.keeps l (λb d=>j b (aW.2 d)) e,λh e b d=>J.Ff l e b (aW.1 d),s8 _⟩
namespace Rx
def k:Rx->Int|.mk k _ _ _=>k
def lo:Rx->UInt8|.mk _ lo _ _=>lo
def hi:Rx->UInt8|.mk _ _ hi _=>hi
def l:Rx->List Rx|.mk _ _ _ l=>l
mutual
def sz:Rx->Nat|.mk _ _ _ l=>1+a4 l
def a4:List Rx->Nat
 |[]=>0
 |t::l=>t.sz+a4 l
end
end Rx
mutual
def J.ez:∀t:J,t.rx.sz=t.sz
 |.mk e lo d s l=>by unfold J.rx Rx.sz J.sz;rw[J.yC l]
def J.yC:∀l:List J,Rx.a4 (J.ao l)=J.a4 l
 |[]=>rfl
 |t::l=>by unfold J.ao Rx.a4 J.a4;rw[J.ez t,J.yC l]
end
namespace DQ
def ok:=aA (ay U Tryz.f244 [] []) aaQ [.I]
end DQ
namespace DP
def ok:=aA (ay U Tryz.f245 [] []) aaP [.Y]
end DP
namespace Kd
def ok:=aA (ay U Tryz.f225 [] []) Nu [.I,.I]
end Kd
namespace Kc
def ok:=aA (ay U Tryz.f226 [] []) Nt [.Y,.Y]
end Kc
namespace wY
def L0:=bq (ay U Tryz.f224 [] []) [0,1,1,1,2] [(3,.I),(6,.s),(7,.I),(8,.I)]
abbrev t1:=bp L0
def b':=bE t1 L0
def ok:=aA t1 Fl [.s]
end wY
namespace R0
def aq:=aA (ay U Tryz.f204 [(1,ls [0,1,2,3,5,6,7,8,10,11,12,13,4,9,14,15,16,17])] [2,3]) eX [.a 4,.I,.Y,.Y,.s,.a 4,.I,.Y,.Y,.s]
end R0
namespace yF
def a1:=bq (ay U Tryz.f227 [] [8,9]) [0,1,1,1,1] [(0,.s),(1,.s),(2,.v [.g eX 0 0]),(11,.s),(12,.I),(13,.I)]
abbrev t1:=bp a1
def bS:=bE t1 a1
def aq:=aA t1 Pb [.s,.s,.g eX 0 0]
end yF
namespace R4
def aq:=aA (ay U Tryz.f202 [] [2,3]) sW [.a 4,.I,.Y,.Y,.s,.a 4,.I,.Y,.Y,.s]
end R4
def cE(a b:Int):Int:=if a<b then -1 else if b<a then 1 else 0
def ew:List Int->Int
 |[]=>0
 |c::l=>if c≠0 then c else ew l
def WY(a b:Int)(w:I):ai U Nu #[.int .i64 a,.int .i64 b] w λr k=>r=ad (.int .i64 (cE a b))/\af w k:=by
 refine Kd.ok (DQ.ok ⟨_,rfl,DQ.ok ⟨_,rfl,?_⟩⟩);have h:(a !=a)=false:=gs
 have j:(b !=b)=false:=gs
 rw[h,j];refine aQ rfl (aQ rfl (aT (λd=>⟨?_,Fr.refl _ _⟩) (λd=>aT (λe=>⟨?_,Fr.refl _ _⟩) (λe=>⟨?_,Fr.refl _ _⟩))))
 .unfold cE;rw[ag d]
 .unfold cE;rw[ab d,ag e]
 .unfold cE;rw[ab d,ab e]
def JS(a b:Int)(w:I):ai U Nt #[.int .u8 a,.int .u8 b] w λr k=>r=ad (.int .i64 (cE a b))/\af w k:=by
 refine Kc.ok (DP.ok ⟨_,rfl,DP.ok ⟨_,rfl,?_⟩⟩);have h:(a !=a)=false:=gs
 have j:(b !=b)=false:=gs
 rw[h,j];refine aQ rfl (aQ rfl (aT (λd=>⟨?_,Fr.refl _ _⟩) (λd=>aT (λe=>⟨?_,Fr.refl _ _⟩) (λe=>⟨?_,Fr.refl _ _⟩))))
 .unfold cE;rw[ag d]
 .unfold cE;rw[ab d,ag e]
 .unfold cE;rw[ab d,ab e]
def abL{w:I}{s:Sl}{l:List Int}(k:bF w s l)(A:l.length<=1000000):ai U Fl #[s.v] w λr j=>r=ad (.int .i64 (ew l))/\af w j:=by
 refine wY.ok ?_;have B:=bF.len k;have loop:∀(d i:Nat),i+d=l.length->ew (l.drop i)=ew l->wY.L0 0 s (s.n:Int) (i:Int) w λr j=>r=ad (.int .i64 (ew l))/\af w j:=by
  intro d;induction d with
  |zero=>
   intro i x e;rw[dy io]at e;exact wY.b' (aQ (a2 io) ⟨by rw[<-e];rfl,Fr.refl _ _⟩)
  |succ d z=>
   intro i x e;have q:l[i]? =some (l[i]'io):=aY io;rw[dw io]at e;generalize l[i]'io=c at q e;refine wY.b' (aR (a5 io) ⟨io,io,bF.cell k q gs λp _ y=>⟨c,y,ct (λh=>?_) (λh=>?_)⟩⟩)
   .refine ⟨?_,Fr.refl _ _⟩;rw[<-e];unfold ew;rw[ag h]
   .rw [bm _ io];refine z (i+1) io ?_;rw[<-e];conv=>rhs;unfold ew
    rw[ab (by simpa using h)]
 exact loop l.length 0 io gs
def abv(w:I)(l:List Int)(n:Nat)(d:n=l.length):bF (w.alloc (.cells (l.map bC).toArray bz)) ⟨some (aa w.heap.size),n,n⟩ l:=
 ⟨by simp[d],bw _,(Row.made w bz n n (l.map bC)).sj⟩
section
variable {M:Nat->Prop} {w0 w:I} {L D:List En} {bs:List Nat}
def _root_.Go.W.O.or(H:O M w0 w L D){l:List Int}{n:Nat}{K:aC}(k:n=l.length)(j:l.length<=1000000)(h:∀d,O M w0 d L D->K (ad (.int .i64 (ew l))) d):
  de w (.cells (l.map bC).toArray bz) λx=>fF bs U Fl #[.slice (some (Addr.mk w.heap.size 0 none)) n n] x K:=
 (H.cA (Fr.alloc _ _ _)).av (abL (s:=⟨some (aa w.heap.size),n,n⟩) (abv w l n k) j) λ_ d q e=>q▸h d e
end
mutual
def bj:Rx->Rx->Int
 |.mk e lo d l,b=>if ew [cE e b.k,cE lo.toNat b.lo.toNat,cE d.toNat b.hi.toNat]≠0 then ew [cE e b.k,cE lo.toNat b.lo.toNat,cE d.toNat b.hi.toNat]else cmpL l b.l
def cmpL:List Rx->List Rx->Int
 |[],[]=>0
 |[],_::_=>-1
 |_::_,[]=>1
 |a::l,b::m=>if bj a b≠0 then bj a b else cmpL l m
end
abbrev Ik(n:Nat):Prop:=∀(a b:J) (w:I),a.sz<=n->a.P w->b.P w->ai U eX #[a.v,b.v] w λr d=>r=ad (.int .i64 (bj a.rx b.rx))/\af w d
def Wr(n:Nat)(hn:n<=1000000)(W:Ik n)(h lb:List J)(j k:Sl)(w:I)(G:bh 4 w j (h.flatMap J.c))(H:bh 4 w k (lb.flatMap J.c))(Z:J.Ps w h)(pb:J.Ps w lb)(hs:J.a4 h<=n):
  ai U Pb #[j.v,k.v,.func (.func eX) #[] #[]] w λr E=>r=ad (.int .i64 (cmpL (J.ao h) (J.ao lb)))/\af w E:=by
 have na:=J.cz G;have nb:=J.cz H;have hl:=J.gn h;have loop:∀(d i:Nat) (A:I),i+d=h.length->i<=lb.length->cmpL (J.ao (h.drop i)) (J.ao (lb.drop i))=cmpL (J.ao h) (J.ao lb)->O F0 w A [] [J.row j h,J.row k lb,.trees h,.trees lb]->
   yF.a1 j k j (j.n:Int) (i:Int) A λr E=>r=ad (.int .i64 (cmpL (J.ao h) (J.ao lb)))/\af w E:=by
  intro d;induction d with
  |zero=>
   intro i A P Q e q;rw[dy io]at e;refine yF.bS (aQ (a2 io) (aT (λM=>⟨?_,q.fr⟩) (λM=>⟨?_,q.fr⟩)))
   .rw [dw io]at e;rw[<-e];rfl
   .rw [dy io]at e;rw[<-e];rfl
  |succ d Y=>
   intro i A P Q e q;have y:h[i]? =some (h[i]'io):=aY io;rw[dw io]at e;generalize h[i]'io=a at y e;refine yF.bS (aR (a5 io) ⟨io,io,?_⟩);refine J.a6 (q.getD 0) y λp hp c=>⟨_,_,_,_,c.c0,c.c1,c.c2,c.c3,q.ax λb8 w2 B=>aT (λN=>B.ae λw3 x=>⟨?_,x.fr⟩) (λS=>⟨io,io,?_⟩)⟩
   .have ac:(k.n:Int)<=(i:Int):=N;rw[dy (by omega:lb.length<=i)]at e;rw[<-e];rfl
   .have ah:¬(k.n:Int)<=(i:Int):=S;have z:lb[i]? =some (lb[i]'io):=aY io;rw[dw (by omega:i<lb.length)]at e;generalize lb[i]'io=b at z e;refine J.a6 (B.getD 1) z λaj T _=>B.ae λw3 x=>?_;have c:=J.again (x.getD 1) z T;refine⟨_,_,_,_,c.c0,c.c1,c.c2,c.c3,x.ax λb9 w4 K=>K.ae λw5 C=>?_⟩;have am:=J.eP (aD y);refine C.av (W a b w5 io (J.Ps.get (C.getD 2) y) (J.Ps.get (C.getD 3) z)) ?_;rintro _ w6 rfl F;have L:cmpL (J.ao (a::h.drop (i+1))) (J.ao (b::lb.drop (i+1)))=if bj a.rx b.rx≠0 then bj a.rx b.rx else cmpL (J.ao (h.drop (i+1))) (J.ao (lb.drop (i+1))):=rfl;rw[L]at e;refine⟨_,rfl,ct (λD=>⟨?_,F.fr⟩) (λD=>?_)⟩
    .rw [ag D]at e;rw[e]
    .rw [ab (by simpa using D)]at e;rw[bm _ io];exact Y (i+1) w6 io io e (F.take 0)
 exact yF.aq (loop h.length 0 w io io gs (bM _ (by
  intro aa e;simp only[aF,aZ,a7]at e;rcases e with rfl|rfl|rfl|rfl
  .exact G
  .exact H
  .exact Z
  .exact pb)))
def Jj:∀n:Nat,n<=1000000->Ik n
 |0,_=>λa b L q _ _=>absurd q (by have:=J.nr a;omega)
 |n+1,Y=>λa b L q x z=>by
  have K:=Jj n io;have Z:=J.iW a;have T:=x.parts;have W:=z.parts;refine R0.aq ((bM [.tree a,.tree b] (by
   intro e w;simp only[aF,aZ,a7]at w;rcases w with rfl|rfl
   .exact x
   .exact z)).ax λQ w1 B=>B.ax λS w2 C=>C.ae λM D=>D.av (WY _ _ M) ?_)
  rintro _ N rfl E;refine⟨_,rfl,E.av (JS _ _ N) ?_⟩;rintro _ O rfl F;refine⟨_,rfl,F.av (JS _ _ O) ?_⟩;rintro _ w6 rfl G;refine⟨_,rfl,G.or (l:=[cE a.k b.k,cE a.lo.toNat b.lo.toNat,cE a.hi.toNat b.hi.toNat]) rfl gs λj d=>?_⟩;have e:bj a.rx b.rx=if ew [cE a.k b.k,cE a.lo.toNat b.lo.toNat,cE a.hi.toNat b.hi.toNat]≠0 then ew [cE a.k b.k,cE a.lo.toNat b.lo.toNat,cE a.hi.toNat b.hi.toNat]else cmpL (J.ao a.l) (J.ao b.l):=by rw[J.fv a,J.fv b];unfold bj;rfl
  refine⟨_,rfl,ct (λh=>⟨?_,d.fr⟩) (λh=>?_)⟩
  .rw [e,ag h]
  .have y:a.P j:=d.getD 0;have A:b.P j:=d.getD 1;refine d.av (Wr n io K a.l b.l a.s b.s j y.parts.1 A.parts.1 y.parts.2 A.parts.2 io) ?_;rintro _ w8 rfl H;refine⟨_,rfl,?_,H.fr⟩;rw[e,ab (by simpa using h)]
def Ji(a b:J)(w:I)(d:a.sz<=1000000)(e:a.P w)(h:b.P w):ai U eX #[a.v,b.v] w λr j=>r=ad (.int .i64 (bj a.rx b.rx))/\af w j:=Jj 1000000 (bw _) a b w d e h
def wS(a b:J)(w:I)(k:a.sz<=1000000)(q:a.P w)(x:b.P w):ai U sW #[a.v,b.v] w λr y=>r=ad (.bool (bj a.rx b.rx==0))/\af w y:=by
 refine R4.aq ((bM [.tree a,.tree b] (by
  intro C e;simp only[aF,aZ,a7]at e;rcases e with rfl|rfl
  .exact q
  .exact x)).ax λA D h=>h.ax λB z d=>d.av (Ji a b z k (d.getD 0) (d.getD 1)) ?_)
 rintro _ E rfl j;exact⟨_,rfl,rfl,j.fr⟩
namespace yr
def cq:=bq (ay U Tryz.f193 [] [2]) [0,1,1,1,2] [(1,.I),(2,.l [.I,.Y,.Y,.s] aS),(5,.I)]
abbrev t1:=bp cq
abbrev bH:=ah t1 [3] [(1,.I)]
abbrev t2:=aj bH
def dF:=bE t2 cq
abbrev aV:=ah t2 [2] [(1,.I),(2,.l [.I,.Y,.Y,.s] aS)]
abbrev t3:=aj aV
def aq:=aA t3 OX [.a 4,.I,.Y,.Y,.s,.I]
end yr
namespace So
def aq:=aA (ay U Tryz.f162 [] [1]) F4 [.a 4,.I,.Y,.Y,.s]
end So
namespace n5
abbrev P0:Ps:=[]
abbrev aV:=ah (ay U Tryz.f194 [] [1,4]) [0,1,1,1,1] P0
abbrev t1:=aj aV
abbrev P1:Ps:=[(1,.l [.I,.Y,.Y,.s] aS)]
abbrev bH:=ah t1 [0,1,1,1,1,1,2] P1
abbrev t2:=aj bH
def i2:=bq t2 [0,1,1,1,3] [(52,.s),(53,.I),(54,.I)]
abbrev t3:=bp i2
def mR:=bE t3 i2
abbrev fB:=ah t3 [3] P1
abbrev t4:=aj fB
abbrev nM:=ah t4 [0,1,7,1,1,1,2] P1
abbrev t5:=aj nM
abbrev rU:=ah t5 [8,1,1,1,2] P0
abbrev t6:=aj rU
abbrev P2:Ps:=[(1,.l [.I,.Y,.Y,.s] aS),(19,.I)]
abbrev lC:=ah t6 [6,1,1,1,2] P2
abbrev t7:=aj lC
abbrev cG:=ah t7 [2,1,1,1,2] P2
abbrev t8:=aj cG
abbrev bg:=ah t8 [2] P1
abbrev t9:=aj bg
def aq:=aA t9 O5 [.a 4,.I,.Y,.Y,.s]
end n5
namespace R2
def aq:=aA (ay U Tryz.f163 [] [1]) OT [.a 4,.I,.Y,.Y,.s]
end R2
namespace yq
def a1:=bq (ay U Tryz.f195 [] [1,2,5]) [0,1,1,1,2] [(1,.l [.I,.Y,.Y,.s] aS),(2,.l [.I,.Y,.Y,.s] aS),(3,.s),(7,.s),(8,.I),(9,.I)]
abbrev t1:=bp a1
def bS:=bE t1 a1
def aq:=aA t1 FR [.a 4,.I,.Y,.Y,.s]
end yq
namespace Sd
def aq:=aA (ay U Tryz.f164 [] [1,2]) O3 [.a 4,.I,.Y,.Y,.s]
end Sd
def gT{w:I}{t:J}(e:t.P w):O F0 w w [] [.tree t]:=bM _ (by intro h d;simp only[aF,aZ,a7]at d;subst d;exact e)
def gu(w:I)(x:Rx)(r:cW)(w':I):Prop:=∃t:J,r=ad t.v/\t.rx=x/\t.P w'/\∀b∈t.fp,w.heap.size<=b
section
variable {M:Nat->Prop} {w0 w:I} {L D:List En} {bs:List Nat}
def _root_.Go.W.O.tw(H:O M w0 w L D)(i j:Nat){ts:List J}{t:J}(hi:D[i]? =some (.trees ts):=by rfl)(h:D[j]? =some (.tree t):=by rfl):O M w0 w L (D++[.trees (ts++[t])]):=by
 refine H.ef _ (Fr.refl _ _) (J.jV λk d=>?_) λb q=>.inr (.inr ?_)
 .rcases aP.1 d with d|d
  .exact J.Ps.mem (H.getD i hi) d
  .simp at d;subst d;exact H.getD j h
 .obtain ⟨k,d,e⟩:=J.bX.1 (aW.1 q);rcases aP.1 d with d|d
  .exact ⟨_,aD hi,aW.2 (J.bX.2 ⟨k,d,e⟩)⟩
  .simp at d;rw[d]at e;exact⟨_,aD h,aW.2 e⟩
def gY{e:aE}{s:Sl}{vs:List V}{b:Nat}(d:b∈(En.a3 4 s vs).fp):b∈(En.row e 4 s vs).fp:=by
 have:b∈(if vs=[]then[]else aG s):=d;split at this
 .grind
 .exact this
def _root_.Go.W.O.tn(H:O M w0 w L D)(i j:Nat){e:aE}{s:Sl}{ts:List J}(k:Int)(lo hi:UInt8)(q:L[i]? =some (.row e 4 s (ts.flatMap J.c)):=by rfl)(x:D[j]? =some (.trees ts):=by rfl):O M w0 w (L.eraseIdx i) (D++[J.row s ts]++[.tree (.mk k lo hi s ts)]):=by
 have y:=H.freeze i (J.row s ts) q (aK.a3 (H.get i q)) λb h=>gY h;refine y.ef _ (Fr.refl _ _) ?_ λb h=>.inr (.inr ?_)
 .show J.P w _;unfold J.P;exact⟨aK.a3 (H.get i q),H.getD j x⟩
 .have d:=aW.1 h;unfold J.fp at d;rcases aP.1 d with d|d
  .grind
  .exact ⟨_,cm _ (aD x),aW.2 d⟩
end
def ux(l:List J):∀u∈l.flatMap J.c,u.oneCell'=true:=λu e=>by obtain⟨h,_,d⟩:=List.mem_flatMap.1 e;simp only[J.c,aF,aZ,a7]at d;rcases d with rfl|rfl|rfl|rfl<;>rfl
def sy:fO U jw aS (.agg #[.int .i64 0,.int .u8 0,.int .u8 0,.slice none 0 0]) 4 40:=⟨by kernel_rfl,by kernel_rfl,rfl,dl,dl⟩
def nS(l:List J)(t:J):(l++[t]).flatMap J.c=l.flatMap J.c++t.c:=gs
def k5(l m:List J):J.ao (l++m)=J.ao l++J.ao m:=by simp[J.fW]
def wb:∀(l m:List J),J.a4 (l++m)=J.a4 l+J.a4 m
 |[],m=>by simp[J.a4]
 |t::l,m=>by show t.sz+J.a4 (l++m)=t.sz+J.a4 l+J.a4 m;rw[wb l m];omega
def BX(l:List J)(i:Nat):J.a4 (l.take i)<=J.a4 l:=by have:=wb (l.take i) (l.drop i);rw[List.take_append_drop]at this;omega
abbrev Vi(n:Nat):Prop:=∀(t:J) (x:Nat) (w:I),t.sz<=n->x<=1000000->t.P w->ai U OX #[t.v,.int .i64 (x:Int)] w λr d=>r=ad (.int .i64 (max ((x:Int) - t.sz) (-1)))/\af w d
def Jw:∀n:Nat,n<=1000000->Vi n
 |0,_=>λt x z A _ _=>absurd A (by have:=J.nr t;omega)
 |n+1,Z=>λt x z A hx S=>by
  have M:=Jw n io;have hs:=J.iW t;have Y:=J.gn t.l;have loop:∀(d i:Nat) (y:Int) (j:Nat) (e:I),i+d=t.l.length->-1<=y->y<=1000000->max (y - J.a4 (t.l.drop i)) (-1)=max ((x:Int) - t.sz) (-1)->O F0 z e [.g j] [.tree t]->
    yr.cq y j t.k t.lo.toNat t.hi.toNat t.s (i:Int) e λr T=>r=ad (.int .i64 (max ((x:Int) - t.sz) (-1)))/\af z T:=by
   intro d;induction d with
   |zero=>
    intro i y j e G H L q h;have Q:=J.cz (show t.P e from h.getD 0).parts.1;rw[dy io]at q;refine yr.dF (aQ (a2 io) ⟨?_,h.fr⟩);rw[<-q];congr 2;simp only[J.a4];omega
   |succ d N=>
    intro i y j e G H L q h;have Q:=J.cz (show t.P e from h.getD 0).parts.1;have w:t.l[i]? =some (t.l[i]'io):=aY io;rw[dw io]at q;generalize t.l[i]'io=a at w q;have aa:=J.eP (aD w);unfold J.a4 at q;refine yr.dF (aR (a5 io) (aT (λB=>⟨io,io,?_⟩) (λB=>⟨?_,h.fr⟩)))
    .have C:t.P e:=h.getD 0;refine J.a6 C.parts.1 w λp hp c=>⟨_,_,_,_,c.c0,c.c1,c.c2,c.c3,?_⟩;have K:0<=y:=B;obtain⟨m,rfl⟩:=Int.eq_ofNat_of_zero_le K;refine h.av (M a m e io io (C.parts.2.get w)) ?_;rintro _ W rfl E;refine⟨_,rfl,?_⟩;rw[bm _ io];refine N (i+1) _ j W io io io ?_ E;omega
    grind
  have F:aB .i64 ((x:Int) - 1)=(x:Int) - 1:=bo _ io;refine yr.aq ((gT S).ax λj e D=>?_);rw[F];refine loop t.l.length 0 _ j e io io io ?_ D
  grind
def Dy(t:J)(w:I)(h:t.sz<=1000000)(j:t.P w):ai U F4 #[t.v] w λr k=>r=ad (.bool (ak (64<t.sz)))/\af w k:=by
 refine So.aq ((gT j).ax λx q d=>d.av (Jw 1000000 (bw _) t 64 q h io (d.getD 0)) ?_);rintro _ y rfl e;refine⟨_,rfl,?_,e.fr⟩;congr 2
 grind
mutual
def cO:Rx->Bool
 |.mk d lo e l=>!(d !=2&&(lo !=0||e !=0))&&(if d=0\/d=1 then l.isEmpty else if d=2 then l.isEmpty&&ak (lo.toNat<=e.toNat)else if d=3\/d=4\/d=5 then dY l else if d=6\/d=7 then l.length==1&&dY l else false)
def dY:List Rx->Bool
 |[]=>true
 |t::l=>cO t&&dY l
end
abbrev Vu(n:Nat):Prop:=∀(t:J) (w:I),t.sz<=n->t.P w->ai U O5 #[t.v] w λr d=>r=ad (.bool (cO t.rx))/\af w d
def D7(l:List J):(J.ao l).isEmpty=((l.length:Int)==0):=by
 rw[J.fW];cases l with
 |nil=>rfl
 |cons a l=>
  grind
def JH:∀n:Nat,n<=1000000->Vu n
 |0,_=>λt q S _=>absurd S (by have:=J.nr t;omega)
 |n+1,C=>λt q S pt=>by
  have ih:=JH n io;have hs:=J.iW t;have hl:=J.gn t.l;have K:=J.cz pt.parts.1;have loop:∀(b:Bool),cO t.rx=(b&&dY (J.ao t.l))->b=true->∀(d i:Nat) (h:I),i+d=t.l.length->dY (J.ao (t.l.drop i))=dY (J.ao t.l)->O F0 q h [] [.tree t]->
    n5.i2 t.s (t.s.n:Int) (i:Int) h λr j=>r=ad (.bool (cO t.rx))/\af q j:=by
   intro b x aa d;subst aa;rw[Bool.true_and]at x;induction d with
   |zero=>
    intro i h ac y A;rw[dy io]at y;refine n5.mR (aQ (a2 io) ⟨?_,A.fr⟩);rw[x,<-y];rfl
   |succ d aj=>
    intro i h ac y A;have B:t.l[i]? =some (t.l[i]'io):=aY io;rw[dw io]at y;generalize t.l[i]'io=a at B y;have an:=J.eP (aD B);have T:(cO a.rx&&dY (J.ao (t.l.drop (i+1))))=dY (J.ao t.l):=y;have am:t.P h:=A.getD 0;refine n5.mR (aR (a5 io) ⟨io,io,?_⟩);refine J.a6 am.parts.1 B λp hp c=>⟨_,_,_,_,c.c0,c.c1,c.c2,c.c3,A.ax λb4 w2 H2=>H2.ae λw3 M=>M.av (ih a w3 io ((show t.P w3 from M.getD 0).parts.2.get B)) ?_⟩;rintro _ w4 rfl N;refine⟨_,rfl,eU (λhf=>⟨?_,N.fr⟩) (λht=>?_)⟩
    .grind
    .rw [bm _ io];rw[ht,Bool.true_and]at T;exact aj (i+1) w4 io T (N.take 0)
  have er:=J.fv t;have nz:∀z:UInt8,((z.toNat:Int) !=0)=(z !=0):=λz=>by
   by_cases W:z=0
   .subst W;rfl
   .have H:(z !=0)=true:=by grind
    rw[H];have:z.toNat≠0:=λh0=>W (UInt8.toNat_inj.1 (by grind))
    grind
  refine n5.aq ((gT pt).ax λw h L=>?_);have out:∀b:Bool,cO t.rx=b->(Ending.returned (.bool b)=ad (.bool (cO t.rx))/\af q h):=λb x=>⟨by rw[x],L.fr⟩;have F:cO t.rx=dY (J.ao t.l)->n5.fB w t.k t.lo.toNat t.hi.toNat t.s h λr j=>r=ad (.bool (cO t.rx))/\af q j:=λx=>loop true (by grind) rfl t.l.length 0 h io gs (L.take 0);have s1:(t.k !=2&&(t.lo !=0||t.hi !=0))=false->n5.bg w t.k t.lo.toNat t.hi.toNat t.s h λr j=>r=ad (.bool (cO t.rx))/\af q j:=by
   intro h0;have eg:cO t.rx=(if t.k=0\/t.k=1 then(J.ao t.l).isEmpty else if t.k=2 then(J.ao t.l).isEmpty&&ak (t.lo.toNat<=t.hi.toNat)else if t.k=3\/t.k=4\/t.k=5 then dY (J.ao t.l)else if t.k=6\/t.k=7 then(J.ao t.l).length==1&&dY (J.ao t.l)else false):=by
    rw[er];unfold cO
    grind
   have s2:t.k=0\/t.k=1->n5.bH w t.k t.lo.toNat t.hi.toNat t.s h λr j=>r=ad (.bool (cO t.rx))/\af q j:=λe=>out _ (by rw[eg,ag e,D7,K]);have s7:t.k=6\/t.k=7->n5.nM w t.k t.lo.toNat t.hi.toNat t.s h λr j=>r=ad (.bool (cO t.rx))/\af q j:=λe=>by
    have e7:cO t.rx=((J.ao t.l).length==1&&dY (J.ao t.l)):=by grind
    have el:(J.ao t.l).length=t.s.n:=by rw[J.fW];grind
    refine ct (λH=>out false ?_) (λH=>F ?_)
    .grind
    grind
   have s6:t.k≠0->t.k≠1->t.k≠2->t.k≠3->t.k≠4->t.k≠5->n5.lC w t.k t.lo.toNat t.hi.toNat t.s t.k h λr j=>r=ad (.bool (cO t.rx))/\af q j:=λD E Y Z k4 k5=>
    aw (λe=>aR (by grind) (s7 (.inl e))) (λk6=>aw (λe=>s7 (.inr e)) (λk7=>out false (by grind)))
   have G:t.k=3\/t.k=4\/t.k=5->cO t.rx=dY (J.ao t.l):=λe=>by grind
   have s3:t.k≠0->t.k≠1->n5.cG w t.k t.lo.toNat t.hi.toNat t.s t.k h λr j=>r=ad (.bool (cO t.rx))/\af q j:=λD E=>
    aw (λe=>by
     have Q:cO t.rx=((J.ao t.l).isEmpty&&ak (t.lo.toNat<=t.hi.toNat)):=by grind
     refine bn (λC=>out _ ?_) (λC=>out false ?_)
     .rw [Q,D7,<-K,C,Bool.true_and]
      grind
     .rw [Q,D7,<-K,C];rfl)
    (λY=>aw (λe=>aR (by grind) (F (G (.inl e)))) (λZ=>aw (λe=>aR (by grind) (F (G (.inr (.inl e))))) (λk4=>aw (λe=>F (G (.inr (.inr e)))) (λk5=>s6 D E Y Z k4 k5))))
   exact aw (λe=>aR (by grind) (s2 (.inl e))) (λD=>aw (λe=>s2 (.inr e)) (λE=>s3 D E))
  have bad:(t.k !=2&&(t.lo !=0||t.hi !=0))=true->cO t.rx=false:=λx=>by
   rw[er];unfold cO
   grind
  refine bn (λh2=>bn (λah=>out false (bad ?_)) (λah=>bn (λab=>out false (bad ?_)) (λab=>s1 ?_))) (λh2=>s1 ?_)
  .grind
  .grind
  .grind
  grind
def iY(x:Rx):Int:=if 64<x.sz then 4 else if cO x then 0 else 1
def Dl(t:J)(w:I)(q:t.sz<=1000000)(x:t.P w):ai U OT #[t.v] w λr y=>r=ad (.int .i64 (iY t.rx))/\af w y:=by
 refine R2.aq ((gT x).ax λB z j=>j.av (Dy t z q (j.getD 0)) ?_);rintro _ A rfl e;refine⟨_,rfl,aT (λd=>⟨?_,e.fr⟩) (λd=>e.av (JH 1000000 (bw _) t A q (e.getD 0)) ?_)⟩
 .unfold iY;rw[J.ez,ag d]
 rintro _ C rfl k;refine⟨_,rfl,eU (λh=>⟨?_,k.fr⟩) (λh=>⟨?_,k.fr⟩)⟩
 .unfold iY;rw[J.ez,ab d,h];rfl
 .unfold iY;rw[J.ez,ab d,h];rfl
abbrev Vj(n:Nat):Prop:=∀(t:J) (w:I),t.sz<=n->t.P w->ai U FR #[t.v] w λr d=>gu w t.rx r d/\af w d
def Jv:∀n:Nat,n<=1000000->Vj n
 |0,_=>λt A G _=>absurd G (by have:=J.nr t;omega)
 |n+1,hn=>λt A G L=>by
  have ih:=Jv n io;have hs:=J.iW t;have hl:=J.gn t.l;have ag:=J.cz L.parts.1;have loop:∀(d i:Nat) (ks:List J) (sl:Sl) (j q:Nat) (x:I),i+d=t.l.length->ks.length=i->J.ao ks=J.ao (t.l.take i)->(∀b∈J.bc ks,A.heap.size<=b)->O F0 A x [.g j,.g q,.row aS 4 sl (ks.flatMap J.c)] [.tree t,.trees ks]->
    yq.a1 j t.k t.lo.toNat t.hi.toNat t.s q 0 0 0 ⟨none,0,0⟩ sl t.s (t.s.n:Int) (i:Int) x λr M=>gu A t.rx r M/\af A M:=by
   intro d;induction d with
   |zero=>
    intro i ks sl j q x Y Z H K B;refine yq.bS (aQ (a2 io) (B.ae λD h=>⟨⟨.mk t.k t.lo t.hi sl ks,rfl,?_,?_,λb e=>?_⟩,h.fr⟩))
    .rw [J.fv t];unfold J.rx
     grind
    .unfold J.P;exact⟨aK.a3 (h.get 2),h.getD 1⟩
    .unfold J.fp at e;rcases aP.1 e with e|e
     .exact (h.new _ (aD (i:=2) rfl) b (gY e)).resolve_right id
     grind
   |succ d aa=>
    intro i ks sl j q x Y Z H K B;have z:t.l[i]? =some (t.l[i]'io):=aY io;generalize t.l[i]'io=a at z;have ah:=J.eP (aD z);have ab:t.P x:=B.getD 0;refine yq.bS (aR (a5 io) ⟨io,io,?_⟩);refine J.a6 ab.parts.1 z λp hp c=>⟨_,_,_,_,c.c0,c.c1,c.c2,c.c3,B.ax λb5 D h=>h.ae λN y=>y.g9 (ih a N io ((show t.P N from y.getD 0).parts.2.get z)) ?_⟩;rintro _ w4 ⟨u,rfl,hu,pu,F⟩ _ Q;have C:=Q.rd (.tree u) pu λb e=>F b (aW.1 e);have ac:=J.cz (C.get 2:aK _ _ _ _ _).a3;refine⟨_,_,_,_,rfl,C.jE 2 sy rfl (λs' w5 T=>?_) io⟩;have W:=(T.tw 1 2).take 3;rw[bm _ io];refine aa (i+1) (ks++[u]) s' j q w5 io (by grind) ?_ ?_ ?_
    .rw [k5,H,fJ,z,k5];simp[J.ao,hu]
    .intro b e;obtain⟨t',w,E⟩:=J.bX.1 e;rcases aP.1 w with w|w
     .exact K b (J.bX.2 ⟨t',w,E⟩)
     .simp at w;rw[w]at E;exact bB y.fr.size (F b E)
    .rw [nS];exact W.forget _ gs
  refine yq.aq ((gT L).ax λj x S=>S.ax λq D h=>?_);have y:=h.h8 aS 4;have C:=y.ef (.trees []) (Fr.refl _ _) (by show J.Ps D [];unfold J.Ps;trivial) (λb e=>by
   have:=aW.1 e;unfold J.bc at this
   grind)
  exact loop t.l.length 0 [] ⟨none,0,0⟩ j q D io rfl rfl (λb e=>by unfold J.bc at e;cases e) C
def WL(t:J)(w:I)(e:t.sz<=1000000)(h:t.P w):ai U FR #[t.v] w λr d=>gu w t.rx r d/\af w d:=Jv 1000000 (bw _) t w e h
def fU:Rx:=.mk 0 0 0 []
def p'(x:Rx):Int:=if 64<x.sz then 4 else 0
def qa(x:Rx):Rx:=if 64<x.sz then fU else x
def Iz(w:I)(x:Rx)(c:Int)(r:cW)(w':I):Prop:=∃t:J,r=ad (.tuple #[t.v,.int .i64 c])/\t.rx=x/\t.P w'/\∀b∈t.fp,w.heap.size<=b
def Qo(w:I):(J.mk 0 0 0 ⟨none,0,0⟩ []).P w:=by unfold J.P J.Ps;exact⟨bh.nil 4 w,trivial⟩
def Qn{b:Nat}(d:b∈(J.mk 0 0 0 ⟨none,0,0⟩ []).fp):False:=by unfold J.fp J.bc at d;simp[En.a3]at d
def W3(t:J)(w:I)(y:t.sz<=1000000)(D:t.P w):ai U O3 #[t.v] w λr z=>Iz w (qa t.rx) (p' t.rx) r z/\af w z:=by
 refine Sd.aq ((gT D).ax λK M B=>B.ax λL F k=>k.av (Dy t F y (k.getD 0)) ?_);rintro _ G rfl h;refine⟨_,rfl,aT (λe=>h.ae λH j=>⟨⟨.mk 0 0 0 ⟨none,0,0⟩ [],?_,?_,Qo _,λb d=>(Qn d).elim⟩,j.fr⟩) (λe=>h.g9 (WL t G y (h.getD 0)) ?_)⟩
 .unfold p';rw[J.ez,ag e];rfl
 .unfold qa;rw[J.ez,ag e];rfl
 rintro _ H ⟨u,rfl,C,E,x⟩ _ A;have j:=A.rd (.tree u) E λb d=>x b (aW.1 d);refine⟨_,_,_,_,rfl,j.ae λN q=>⟨⟨u,?_,?_,q.getD 1,λb d=>bB h.fr.size (x b d)⟩,q.fr⟩⟩
 .unfold p';rw[J.ez,ab e]
 .unfold qa;rw[J.ez,ab e,C]
namespace R5
def aq:=aA (ay U Tryz.f220 [] [2]) vk [.a 4,.I,.Y,.Y,.s,.r]
end R5
namespace yH
def L0:=bq (ay U Tryz.f221 [] []) [0,1,1,1,1] [(0,.s),(1,.f),(7,.I),(8,.I)]
abbrev t1:=bp L0
def b':=bE t1 L0
def ok:=aA t1 Pf [.s,.f]
end yH
namespace Ty
def ok:=aA (ay U Tryz.f200 [] []) Pc [.s,.f]
end Ty
namespace tv
abbrev P0:Ps:=[(0,.s),(1,.v [.g vk 0 1,.r]),(5,.I),(6,.I)]
def a1:=bq (ay U Tryz.f219 [] [7]) [0,1,1,1,3] P0
abbrev t1:=bp a1
abbrev bg:=ah t1 [2,2,1,1,3] P0
abbrev t2:=aj bg
def bS:=bE t2 a1
def aq:=aA t2 Pd [.s,.g vk 0 1,.r]
end tv
namespace o4
def L0:=bq (ay U Tryz.f205 [(6,lr 11),(11,lr 12)] []) [0,1,1,1,2] [(0,.s),(1,.v [.g sW 0 0]),(5,.I)]
abbrev t1:=bp L0
abbrev P0:Ps:=[(0,.s),(1,.v [.g sW 0 0]),(5,.I),(6,.s),(7,.I)]
def L2:=bq t1 [0,1,1,1,1,1,1,2,1,2,1,1,2] P0
abbrev t2:=bp L2
abbrev S3:=ah t2 [2,2,1,1,1,1,1,2,1,2,1,1,2] P0
abbrev t3:=aj S3
def px:=bE t3 L2
abbrev S1:=ah t3 [1,1,1,2,1,2,1,1,2] [(0,.s),(1,.v [.g sW 0 0]),(5,.I),(6,.s)]
abbrev t4:=aj S1
def b':=bE t4 L0
def ok:=aA t4 Pa [.s,.g sW 0 0]
end o4
namespace tj
abbrev P0:Ps:=[(2,.l [.I,.Y,.Y,.s] aS),(3,.r),(5,.s),(9,.s),(10,.I),(11,.I)]
def a1:=bq (ay U Tryz.f199 [] [2,7]) [0,1,1,1,2] P0
abbrev t1:=bp a1
abbrev bg:=ah t1 [3,2,1,1,2] P0
abbrev t2:=aj bg
def bS:=bE t2 a1
def aq:=aA t2 OY [.a 4,.I,.Y,.Y,.s,.a 4,.I,.Y,.Y,.s]
end tj
namespace R7
def aq:=aA (ay U Tryz.f196 [] [1,2]) x9 [.a 4,.I,.Y,.Y,.s]
end R7
namespace R8
def ok:=aA (ay U Tryz.f197 [] []) AR [.a 4,.I,.Y,.Y,.s,.a 4,.I,.Y,.Y,.s]
end R8
namespace G6
abbrev aV:=ah (ay U Tryz.f198 [] [3,4]) [4] [(1,.r),(3,.l [.I,.Y,.Y,.s] aS),(4,.l [.I,.Y,.Y,.s] aS),(5,.s)]
abbrev t1:=aj aV
def aq:=aA t1 AS [.a 4,.I,.Y,.Y,.s,.r,.r]
end G6
namespace R9
def aq:=aA (ay U Tryz.f201 [] [2]) FT [.a 4,.I,.Y,.Y,.s,.r]
end R9
namespace R'
def aq:=aA (ay U Tryz.f206 [] [1,2]) vl [.a 4,.I,.Y,.Y,.s]
end R'
namespace Br
abbrev aV:=ah (ay U Tryz.f207 [] [3,4,5]) [0,1,1,1,2] [(1,.r),(4,.l [.I,.Y,.Y,.s] aS)]
abbrev t1:=aj aV
abbrev bg:=ah t1 [0,1,1,1,3] [(4,.l [.I,.Y,.Y,.s] aS),(5,.l [.I,.Y,.Y,.s] aS)]
abbrev t2:=aj bg
def aq:=aA t2 vm [.a 4,.I,.Y,.Y,.s,.r,.r]
end Br
namespace yt
def L0:=bq (ay U Tryz.f165 [(5,lr 9)] []) [0,1,1,1,2] [(0,.m),(3,.r),(4,.r),(5,.r),(16,.s),(17,.I),(18,.I)]
abbrev t1:=bp L0
def b':=bE t1 L0
def ok:=aA t1 FV [.m,.a 4,.I,.Y,.Y,.s]
end yt
end Go.Proofs.YtkbmpalepmakmabGreatDoor
end
