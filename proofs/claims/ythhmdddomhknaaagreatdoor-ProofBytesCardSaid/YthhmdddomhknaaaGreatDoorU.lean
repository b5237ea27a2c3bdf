import Derived.Test.YthhmdddomhknaaaGreatDoorW
import Derived.KernelRfl
import Derived.Test.YthhmdddomhknaaaGreatDoorProg
import Derived.Lib.AppendStr
import Derived.Laws.IdiomStrings
import Derived.IntWalk
set_option linter.unusedVariables false
set_option linter.defProp false
namespace Go.W
open Go renaming World->J,Calls->ai,Program->aE,Value->aa,TypeId->aC,Ending->ch,FuncId->cB,IntKind->hC
open Go.IntKind renaming wrap->aj
open Go.IntWalk renaming i64_in->aQ
open Go.Builtin renaming append_->dY
open _root_.Bool renaming and_eq_true->bq
open _root_.Nat renaming le_trans->a6,zero_le->dv,beq->bO,lt_of_lt_of_le->kr,beq_eq->ep
open _root_.UInt8 renaming ofNat->cE
open _root_.Int renaming toNat_natCast->bH
open Go.Region renaming wanted->db,ready->eG
open Go.Proofs.Tryz renaming prog->Y
open _root_.Decidable renaming decide->ak
open Go.Ending renaming returned->ae
open List renaming mem_cons->au,getElem?_eq_getElem->a4,append_assoc->cp,mem_cons_of_mem->e8,drop_eq_getElem_cons->dz,getElem?_map->hr,take_add_one->eA,drop_of_length_le->cU,eq_nil_of_length_eq_zero->D0
abbrev Lv:=List (Nat×List aa×aC)
abbrev Sv:=List (Nat×Option (Nat×Nat))
def Sv.get? :Sv->Nat->Option (Nat×Nat)
 |[],_=>none
 |(e,v)::d,t=>bif bO e t then v else Sv.get? d t
def Sv.at(S:Sv):Operand->Option (Nat×Nat)
 |.tmp t=>S.get? t
 |_=>none
def Sv.put(S:Sv)(d:Option Nat)(o:Option (Nat×Nat)):Sv:=match d with
 |some d=>(d,o)::S
 |none=>S
structure TS where
 E:Env
 S:Sv
 L:Lv
 w:J
 d:Bool
abbrev HT:=List (Nat×Option Nat×(J->Prop))
def fG(s:TS)(K:TS->Prop):Prop:=match s.d with
 |true=>loc (hJ s.L) s.w λe=>K ⟨s.E,s.S,s.L,e,false⟩
 |false=>K s
def P4:aa->aa->Bool
 |.int d _,.int e _=>d==e
 |.bool _,.bool _=>true
 |.string _,.string _=>true
 |.slice _ _ _,.slice _ _ _=>true
 |.pointer _,.pointer _=>true
 |.map _,.map _=>true
 |.int ..,_|.bool _,_|.string _,_|.slice ..,_|.pointer _,_|.map _,_=>false
 |_,_=>true
def zp:List aa->List aa->Bool
 |[],[]=>true
 |e::h,v::d=>P4 e v&&zp h d
 |_,_=>false
def Cy(P:aE)(T:aC)(cs:List aa)(j:Nat)(K:aa->Prop):Prop:=
 cF (xo P T)<|match zeroOf P T with
 |.agg d=>cF (zp d.toList ((cs.drop j).take d.size)) (K (.agg ((cs.drop j).take d.size).toArray))
 |.nilFunc=>False
 |e=>match cs[j]? with
  |some v=>cF (P4 e v) (K v)
  |none=>False
def IF(P:aE)(T:aC)(f:Nat):Option Nat:=match P.underlying T with
 |some (.struct d)=>match d[f]? with
  |some f=>match P.info? f.type with
   |some i=>bif bO i.size 0 then none else some f.offset
   |none=>none
  |none=>none
 |_=>none
def RX(P:aE)(o:Oper):Bool:=match o.op with
 |.load ..|.lookup ..=>true
 |.convert s e _=>match P.underlying s,P.underlying e with
  |some (.slice _),some .string=>true
  |some (.pointer _),some .unsafePointer=>true
  |some .unsafePointer,some (.pointer _)=>true
  |_,_=>false
 |.binOp .neq d _ h _=>bif isConst h then false else match P.underlying d with
  |some (.pointer _)=>true
  |_=>false
 |.call {callee:=.builtin .len,args,argTypes}=>match args.toList,argTypes.toList with
  |[_],[d]=>match P.underlying d with
   |some (.map _ _)=>true
   |_=>false
  |_,_=>false
 |_=>false
def zY(P:aE)(o:Oper):Bool:=Cl P o||RX P o
def sH(P:aE)(o:Oper)(s:TS)(K:aa->Option (Nat×Nat)->List (Option Nat×(J->Prop))->TS->Prop):Prop:=
 bif zY P o then fG s λs=>mU P o s.E s.w λv e=>K v none (e.map λd=>(none,d)) s else mU P o s.E s.w λv e=>K v none (e.map λd=>(none,d)) s
def Bj(P:aE)(o:Oper)(s:TS)(K:aa->Option (Nat×Nat)->List (Option Nat×(J->Prop))->TS->Prop):Prop:=
 match o.op with
 |.load h d=>match s.S.at d with
  |some (i,e)=>match s.L[i]? with
   |some X=>Cy P h X.2.1 e λv=>K v none [(some i,λk=>(loadVar h ((ab X.1).add e)).run P k=.ok v k)] s
   |none=>False
  |none=>sH P o s K
 |.move d|.assign d|.nilCheck d=>match s.S.at d with
  |some q=>K ((s.E.val d).getD undef) (some q) [] s
  |none=>sH P o s K
 |.fieldAddr h d f=>match s.S.at d with
  |some (i,e)=>match IF P h f,s.L[i]? with
   |some j,some X=>K (.pointer (some ((ab X.1).add (e+j)))) (some (i,e+j)) [] s
   |_,_=>False
  |none=>sH P o s K
 |_=>sH P o s K
def o5(L:Lv)(w w':J)(p:Prop):Prop:=match L with
 |[]=>p
 |L=>kept (hJ L) w w'/\p
def zn:List aa->Nat->List aa->List aa
 |d,_,[]=>d
 |d,e,v::h=>zn (d.set e v) (e+1) h
def yb(e:List Nat)(d:Option Nat):Bool:=match d with
 |some d=>e.any (bO d)
 |none=>false
def ER(U:List Nat)(p:Addr):List aa->Nat->J->(J->Prop)->Prop
 |[],_,d,e=>e d
 |v::j,i,d,e=>aP d (p.add i) v λh=>kept U d h/\ER U p j (i+1) h e
def Dn(s:TS)(cs:List aa)(T:aC)(K:aa->Option (Nat×Nat)->Option Nat->TS->Prop):Prop:=
 vT (hJ s.L) s.w λb d=>K (.pointer (some (ab b))) (some (s.L.length,0)) none ⟨s.E,s.S,s.L++[(b,cs,T)],d,false⟩
def xG(P:aE)(f:cB)(args:Array aa)(z:aa)(s:TS)(K:aa->J->Prop):Prop:=match s.L with
 |[]=>oS P f args z s.w K
 |d=>ee (hJ d) P f args s.w λe h=>m4 z λv=>e=ae v/\K v h
def BG(P:aE)(k:List Nat)(draw:Bool)(o:Oper)(s:TS)(K:aa->Option (Nat×Nat)->Option Nat->TS->Prop):Prop:=
 match o.op with
 |.store e h q=>match s.S.at h with
  |some (i,j)=>match s.L[i]?,s.E.val q with
   |some X,some v=>cF (v.cells.size==(match P.info? e with |some i=>i.size|none=>0)&&v.cells.toList.all qR&&(P.info? e).isSome&&Nat.ble (j+v.cells.size) X.2.1.length) (K undef none (some i) ⟨s.E,s.S,s.L.set i (X.1,zn X.2.1 j v.cells.toList,X.2.2),s.w,true⟩)
   |_,_=>False
  |none=>fG s λs=>match s.L with
   |[]=>g5 P o s.E s.w λv d=>K v none none ⟨s.E,s.S,s.L,d,false⟩
   |x=>match s.E.val h,s.E.val q with
    |some (.pointer (some p)),some v=>cF (v.cells.size==(match P.info? e with |some i=>i.size|none=>0)&&v.cells.toList.all qR&&(P.info? e).isSome) (ER (hJ x) p v.cells.toList 0 s.w λd=>K undef none none ⟨s.E,s.S,s.L,d,false⟩)
    |_,_=>False
 |.alloc e=>bif yb k o.dst then cF ((P.info? e).bind (·.zero)).isSome (Dn s (zeroOf P e).cells.toList e K)else fG s λs=>g5 P o s.E s.w λv d=>K v none none ⟨s.E,s.S,s.L,d,false⟩
 |.box e h=>bif yb k o.dst then(match s.E.val h with
   |some v=>Dn s v.cells.toList e K
   |none=>False)else fG s λs=>g5 P o s.E s.w λv d=>K v none none ⟨s.E,s.S,s.L,d,false⟩
 |.buildSlice ..|.makeMap ..=>fG s λs=>g5 P o s.E s.w λv d=>K v none none ⟨s.E,s.S,s.L,d,false⟩
 |.call {callee:=.value (.func f),args,..}=>fG s λs=>cF (s.E.dQ o) (bif g3 P f then xG P f (args.map s.E.ev) (zeroOf P o.type) s λv d=>K v none none ⟨s.E,s.S,s.L,d,false⟩
   else vr P f (args.map s.E.ev) (zeroOf P o.type) s.w λv d=>o5 s.L s.w d (K v none none ⟨s.E,s.S,s.L,d,false⟩))
 |.call {callee:=.value (.tmp t),args,..}=>fG s λs=>cF (s.E.dQ o) (match s.E.get? t with
   |some (.func (.func f) first captured)=>cF (g3 P f) (xG P f (first++args.map s.E.ev++captured) (zeroOf P o.type) s λv d=>K v none none ⟨s.E,s.S,s.L,d,false⟩)
   |_=>False)
 |_=>fG s λs=>(bif draw then g5 else so) P o s.E s.w λv d=>o5 s.L s.w d (K v none none ⟨s.E,s.S,s.L,d,false⟩)
def vz(ops:Array Oper)(j:Nat)(w:J):HT->List Prop
 |[]=>[]
 |(i,f,e)::d=>bif ja ops i j||f.isSome then vz ops j w d else e w::vz ops j w d
def ga(ops:Array Oper)(j:Nat):HT->HT
 |[]=>[]
 |(i,f,e)::d=>bif ja ops i j then ga ops j d else(i,f,e)::ga ops j d
def Ee(ops:Array Oper)(j:Nat)(s:TS)(H:HT)(K:TS->Prop):Prop:=
 bif H.any (λp=>!(ja ops p.1 j)&&p.2.1.isNone)then fG s λs=>rV (vz ops j s.w H) (K s)else K s
def stepT(P:aE)(k:List Nat)(ops:Array Oper)(draw:Bool)(i:Nat)(o:Oper)(s:TS)(H:HT)(K:TS->HT->Prop):Prop:=
 bif calm P o then Bj P o s λv e j s=>K ⟨s.E.put o.dst v,s.S.put o.dst e,s.L,s.w,s.d⟩ (bif draw then j.map (λh=>(i,h))++H else H)
 else BG P k draw o s λv e m s=>cF (!((ga ops i H).any λp=>m.isSome&&p.2.1==m)) (Ee ops i s H λs=>K ⟨s.E.put o.dst v,s.S.put o.dst e,s.L,s.w,s.d⟩ (ga ops i H))
def m7(P:aE)(e:List Nat)(ops:Array Oper)(draw:Bool)(i:Nat)(o:Oper)(d:Nat)(want t:Bool)(s:TS)(H:HT)(K:TS->HT->Prop):Prop:=
 bif (t==want)then stepT P e ops draw i o ⟨(d,.bool t)::s.E,s.S,s.L,s.w,s.d⟩ H K else K ⟨Env.put ((d,.bool t)::s.E) o.dst undef,s.S.put o.dst none,s.L,s.w,s.d⟩ (bif calm P o then H else ga ops i H)
def runT(P:aE)(e:List Nat)(ops:Array Oper)(draw:Bool)(K:TS->Prop):List Nat->TS->HT->Prop
 |[],s,_=>K s
 |i::l,s,h=>
  match ops[i]? with
  |none=>False
  |some o=>match o.guard with
   |none=>stepT P e ops draw i o s h λk j=>runT P e ops draw K l k j
   |some (x,want)=>match jx ops x with
    |none=>False
    |some q=>match s.E.get? q with
     |some (.bool t)=>bh t (m7 P e ops draw i o q want true s h λk j=>runT P e ops draw K l k j) (m7 P e ops draw i o q want false s h λk j=>runT P e ops draw K l k j)
     |some (.tuple _)=>runT P e ops draw K l ⟨Env.put s.E o.dst undef,s.S.put o.dst none,s.L,s.w,s.d⟩ (bif calm P o then h else ga ops i h)
     |_=>False
def vx(P:aE)(j:List Nat)(ops:Array Oper)(i:Nat)(s:TS)(H:HT)(e:TS->HT->Prop):Prop:=
 match ops[i]? with
 |none=>False
 |some o=>match o.guard with
  |none=>stepT P j ops true i o s H e
  |some (k,want)=>match jx ops k with
   |none=>False
   |some h=>match s.E.get? h with
    |some (.bool t)=>bh t (m7 P j ops true i o h want true s H e) (m7 P j ops true i o h want false s H e)
    |some (.tuple _)=>e ⟨Env.put s.E o.dst undef,s.S.put o.dst none,s.L,s.w,s.d⟩ (bif calm P o then H else ga ops i H)
    |_=>False
def pI(P:aE)(e:List Nat)(ops:Array Oper)(K:TS->Prop):Tr->TS->HT->Prop
 |.nil,s,_=>K s
 |.one i t,s,d=>vx P e ops i s d λj h=>pI P e ops K t j h
 |.fork a b,s,d=>pI P e ops K a s d/\pI P e ops K b s d
def Tr.sq:List Nat->Tr->Tr
 |[],t=>t
 |i::l,t=>.one i (Tr.sq l t)
def xM(s:TS)(K:TS->Prop):Prop:=match s.L,s.d with
 |[],false=>K ⟨s.E,s.S,s.L,s.w.drew,false⟩
 |_,_=>K ⟨s.E,s.S,s.L,s.w,true⟩
section
variable {P:aE}
structure Inv(s:TS)(w:J):Prop where
 lc:LC w s.L
 rel:if s.d=true then Fr (·∈hJ s.L) s.w w else w=s.w
 sl:∀t i j,s.S.get? t=some (i,j)->∃X,s.L[i]? =some X/\s.E.get? t=some (.pointer (some ((ab X.1).add j)))
def Inv.fG{s:TS}{w:J}{K:TS->Prop}(e:Inv s w)(h:W.fG s K):Inv ⟨s.E,s.S,s.L,w,false⟩ w/\K ⟨s.E,s.S,s.L,w,false⟩:=by
 refine⟨⟨e.lc,by simp,e.sl⟩,?_⟩;unfold W.fG at h;have k:=e.rel;cases j:s.d with
 |true=>
  rw[j]at h k;exact h w (by grind)
 |false=>
  rw[j]at h k;have:w=s.w:=by grind
  obtain⟨q,y,x,A,z⟩:=s
  grind
def Inv.fr{s:TS}{w:J}(e:Inv s w):Fr (·∈hJ s.L) s.w w:=by
 have j:=e.rel;cases h:s.d with
 |true=>grind
 |false=>
  rw[h]at j;have:w=s.w:=by grind
  subst this;exact Fr.refl _ _
def Inv.at{s:TS}{w:J}(d:Inv s w){x:Operand}{i j:Nat}(h:s.S.at x=some (i,j)):∃X,s.L[i]? =some X/\s.E.val x=some (.pointer (some ((ab X.1).add j)))/\w.heap[X.1]? =some (.cells X.2.1.toArray X.2.2 (0,0)):=by
 cases x with
 |tmp t=>
  obtain⟨X,e,k⟩:=d.sl t i j h;exact⟨X,e,k,d.lc.own i X e⟩
 |_=>cases h
def P5:∀{e vs:List aa},zp e vs=true->vs.length=e.length
 |[],[],_=>rfl
 |h::e,v::vs,d=>by unfold zp at d;rw[bq]at d;simp[P5 d.2]
def JI{T:aC}{cs:List aa}{j b:Nat}{ty:aC}{K:aa->Prop}(h:Cy P T cs j K):
  ∃v,K v/\∀d:J,d.heap[b]? =some (.cells cs.toArray ty (0,0))->(loadVar T ((ab b).add j)).run P d=.ok v d:=by
 obtain⟨e,h⟩:=dK h;unfold xo at e;have one:∀(v:aa),cs[j]? =some v->(qa P T==some false)=true->∀d:J,d.heap[b]? =some (.cells cs.toArray ty (0,0))->(loadVar T ((ab b).add j)).run P d=.ok v d:=λv y k d w=>
  wq (by grind) (cellAt (p:=ab b) w rfl (by grind))
 cases z:zeroOf P T with
 |agg E=>
  rw[z]at h e;simp only at h e;obtain⟨B,A⟩:=dK h;rw[bq]at e;obtain⟨k,q⟩:=e;cases x:P.info? T with
  |none=>grind
  |some i=>
   rw[x]at q;simp at q k;refine⟨_,A,λd w=>PH k x (by rw[q,P5 B];simp) λD v C=>?_⟩;rw[add_add];refine cellAt (p:=ab b) w rfl ?_
   grind
 |nilFunc=>grind
 |_=>
  rw[z]at h e;simp only at h;split at h
  .rename_i v y;exact⟨v,(dK h).2,one v y e⟩
  .exact h.elim
def UL{o:Oper}{E:Env}{w w':J}{K:aa->List (J->Prop)->Prop}(h:zY P o=false)(d:mU P o E w K):mU P o E w' K:=by
 unfold zY at h;rw[Bool.or_eq_false_iff]at h;obtain⟨e,h⟩:=h;unfold mU at d ⊢;rw[e]at d ⊢;simp only[cond_false]at d ⊢;unfold xH at d ⊢;unfold RX at h;split at d<;>first |exact d|skip
 all_goals rename_i j
 all_goals rw[j]at h
 .cases h
 .rename_i k _ q;cases k with
  |const c=>grind
  |_=>
   simp only[isConst,cond_false]at h
   grind
 .cases h
 .grind
 grind
def w4(P:aE)(o:Oper)(a:Act)(s:TS)(w:J)(v:aa)(h:Option (Nat×Nat))(Ss:List (Option Nat×(J->Prop)))(s':TS):Prop:=
 Inv s' w/\s'.E=s.E/\s'.S=s.S/\s'.L=s.L/\Calm P o a.eval w v (Ss.map (·.2))/\
 (∀p∈Ss,∀i,p.1=some i->∃X,s.L[i]? =some X/\∀e:J,e.heap[X.1]? =some (.cells X.2.1.toArray X.2.2 (0,0))->p.2 e)/\
 (∀i d,h=some (i,d)->∃X,s.L[i]? =some X/\v=.pointer (some ((ab X.1).add d)))
section
variable {o:Oper} {n:Cx} {a:Act} {s:TS} {w:J} {K:aa->Option (Nat×Nat)->List (Option Nat×(J->Prop))->TS->Prop}
def VU(G:∀y b,o.op≠.select y b)(C:Ag n a s.E)(q:Inv s w)(h:sH P o s K):∃v e d s',K v e d s'/\w4 P o a s w v e d s':=by
 have fin:∀(s':TS),s'.E=s.E->s'.S=s.S->s'.L=s.L->Inv s' w->mU P o s.E w (λv d=>K v none (d.map λj=>(none,j)) s')->∃v e d s',K v e d s'/\w4 P o a s w v e d s':=λs' z A B x D=>by
  obtain⟨v,d,H,N⟩:=xI G C D;refine⟨v,none,_,s',H,x,z,A,B,?_,λp Q i O=>?_,λi T F=>by cases F⟩
  .rw [List.map_map];have:((λI:Option Nat×(J->Prop)=>I.2)∘λj=>((none:Option Nat),j))=id:=rfl;rw[this,List.map_id];omega
  grind
 unfold sH at h;cases k:zY P o with
 |true=>
  rw[k,cond_true]at h;obtain⟨x,M⟩:=q.fG h
  grind
 |false=>
  rw[k,cond_false]at h;exact fin s rfl rfl rfl q (UL k h)
def UJ(hs:∀T b,o.op≠.select T b)(B:Ag n a s.E)(y:Inv s w)(h:Bj P o s K):∃v d A D,K v d A D/\w4 P o a s w v d A D:=by
 have gen:=λh=>VU (P:=P) (K:=K) hs B y h;have same:∀(x:Operand) (d:Nat×Nat),s.S.at x=some d->(∀w,(execOp a.eval o).run P w=.ok (.value (a.eval x)) w\/∀p,a.eval x≠.pointer (some p))->K ((s.E.val x).getD undef) (some d) [] s->∃v d A D,K v d A D/\w4 P o a s w v d A D:=λx d e hr k=>by
  obtain⟨X,F,z,_⟩:=y.at (i:=d.1) (j:=d.2) e;have he:=B.val z;refine⟨_,_,_,s,k,y,rfl,rfl,rfl,⟨λO G=>(by cases G),λI _=>?_⟩,λp H=>(by cases H),λi C M=>?_⟩
  .grind
  grind
 unfold Bj at h;split at h
 .rename_i L x q;split at h
  .rename_i i C e;obtain⟨X,F,z,V⟩:=y.at e;rw[F]at h;obtain⟨v,k,hv⟩:=JI (b:=X.1) (ty:=X.2.2) h;refine⟨v,_,_,s,k,y,rfl,rfl,rfl,⟨λO G=>?_,λI ac=>?_⟩,λp H i' ad=>?_,λi C M=>by cases M⟩
   .grind
   .have:(loadVar L ((ab X.1).add C)).run P I=.ok v I:=ac (λw=>(loadVar L ((ab X.1).add C)).run P w=.ok v w) (by simp);simp[execOp,q,Instr.loadAt,B.val z,Instr.sureAddr,this]
   grind
  grind
 .rename_i x q;split at h
  .rename_i d e;exact same x d e (λw=>.inl (by simp[execOp,q])) h
  grind
 .rename_i x q;split at h
  .rename_i d e;exact same x d e (λw=>.inl (by simp[execOp,q])) h
  grind
 .rename_i x q;split at h
  .rename_i d e;refine same x d e (λw=>?_) h;obtain⟨X,_,z,_⟩:=y.at (i:=d.1) (j:=d.2) e;exact .inl (by simp[execOp,q,B.val z])
  grind
 .rename_i L x f q;split at h
  .rename_i i C e;obtain⟨X,F,z,V⟩:=y.at e;split at h
   .rename_i ae X' k Q;rw[F]at Q;cases Q;refine⟨_,_,_,s,h,y,rfl,rfl,rfl,⟨λO G=>(by cases G),λI _=>?_⟩,λp H=>(by cases H),λi' j' M=>?_⟩
    .unfold IF at k;split at k
     .rename_i fs hu;split at k
      .rename_i fd W;split at k
       .rename_i inf Z;cases N:bO inf.size 0 with
        |true=>grind
        |false=>
         rw[N]at k;cases k;have aa:inf.size≠0:=λU=>by rw[U]at N;cases N
         simp[execOp,q,B.val z,Instr.fieldAt,run_underlying hu,W,Instr.sureAddr,fieldPlace,sizeOf,typeInfo,Z,aa,add_add]
       grind
      grind
     grind
    grind
   grind
  grind
 grind
end
def rD(s:TS)(K:aa->Option (Nat×Nat)->Option Nat->TS->Prop)(v:aa)(w':J):Prop:=
 ∃h m d,K v h m d/\Inv d w'/\d.E=s.E/\d.S=s.S/\(∀i X,s.L[i]? =some X->m≠some i->d.L[i]? =some X)/\
  (∀i e,h=some (i,e)->∃X,d.L[i]? =some X/\v=.pointer (some ((ab X.1).add e)))
def PD{o:Oper}{ρ:Operand->aa}{T:aC}{z:aa}(h:o.op=.alloc T)(e:(P.info? T).bind (·.zero)=some z)(w:J):
  (execOp ρ o).run P w=.ok (.value (.pointer (some (ab w.heap.size)))) (w.alloc (.cells z.cells T)):=by
 cases d:P.info? T with
 |none=>grind
 |some i=>
  rw[d]at e;have j:i.zero=some z:=e;simp[execOp,h,Instr.alloc,zeroValue,typeInfo,d,j,newVar,newRow]
def PF{o:Oper}{ρ:Operand->aa}{T:aC}{x:Operand}(d:o.op=.box T x)(w:J):
  (execOp ρ o).run P w=.ok (.value (.pointer (some (ab w.heap.size)))) (w.alloc (.cells (ρ x).cells T)):=by simp[execOp,d,Instr.box,newVar,newRow]
def WC{L:Lv}{w w':J}{p:Prop}(h:o5 L w w' p)(H:LC w L):LC w' L/\p:=by
 cases L with
 |nil=>exact⟨LC.nil _,h⟩
 |cons d L=>exact⟨H.o5 h.1,h.2⟩
section
variable {o:Oper} {n:Cx} {a:Act} {s:TS} {w:J} {K:aa->Option (Nat×Nat)->Option Nat->TS->Prop}
def G8{f:cB}{args:Array aa}{K:aa->J->Prop}(j:(execOp a.eval o).run P w=.ok (.enter f args) w)(h:ai P f args w λd e=>∃v,d=ae v/\K v e):iz P o a w K:=by
 intro k;unfold Oper.wp;rw[j];simp only[Oper.upon];refine Calls.mono h λd e q=>?_
 grind
def G9{f:cB}{args:Array aa}{z:aa}{K:aa->J->Prop}(k:(execOp a.eval o).run P w=.ok (.enter f args) w)(H:LC w s.L)(q:s.w=w)(h:xG P f args z s K):iz P o a w λv d=>LC d s.L/\K v d:=by
 unfold xG at h;split at h
 .rename_i A;rw[q]at h;refine G8 k (Calls.mono h λx d e=>?_);obtain⟨v,rfl,j⟩:=qv e;exact⟨v,rfl,by rw[A];exact LC.nil _,j⟩
 .rw [q]at h;obtain⟨E,C,B⟩:=h;refine G8 k (Calls.mono B λx d e=>?_);obtain⟨y,D⟩:=e;obtain⟨v,rfl,j⟩:=qv D;exact⟨v,rfl,H.fr y C,j⟩
def Ni{cs:Array aa}{T:aC}(k:(execOp a.eval o).run P w=.ok (.value (.pointer (some (ab w.heap.size)))) (w.alloc (.cells cs T)))(d:Inv s w)(h:Dn s cs.toList T K):iz P o a w (rD s K):=by
 intro q;unfold Oper.wp;rw[k];simp only[Oper.upon];refine⟨_,rfl,_,_,_,h w.heap.size (w.alloc (.cells cs T)) d.fr.size (size_alloc _ _) (d.fr.dA (Fr.alloc _ _ _)),⟨d.lc.push cs T,by simp,λt i j e=>?_⟩,rfl,rfl,λi X z _=>?_,λi j e=>?_⟩
 .obtain ⟨X,x,y⟩:=d.sl t i j e
  grind
 .grind
 .cases e;exact⟨(w.heap.size,cs.toList,T),by simp,by rw[iW]⟩
def Qo{i j b:Nat}{T:aC}{A:J}{K:J->Prop}:∀(vs:List aa) (k:Nat) (w:J) (L:Lv) (cs:List aa),LC w L->L[i]? =some (b,cs,T)->j+k+vs.length<=cs.length->Fr (·∈hJ L) A w->
  (∀d,LC d (L.set i (b,zn cs (j+k) vs,T))->Fr (·∈hJ L) A d->K d)->pA ((ab b).add j) vs k w K
 |[],k,w,L,cs,e,h,z,f,q=>by
  refine q w ?_ f;have:L.set i (b,cs,T)=L:=by
   apply List.ext_getElem?
   grind
  rw[show zn cs (j+k) []=cs from rfl,this];exact e
 |v::vs,k,w,L,cs,e,h,z,f,q=>by
  simp only[List.length_cons]at z;obtain⟨B,C,D,E⟩:=e.set (v:=v) i (j+k) h (by omega) f
  unfold pA;rw[add_add];refine⟨B,C,Qo (i:=i) (T:=T) vs (k+1) _ _ (cs.set (j+k) v) D ?_ (by grind) E λd x y=>?_⟩
  .grind
  .rw [List.set_set]at x;rw[AZ L i h]at y;exact q d x y
def Qn{L:Lv}{p:Addr}{K K':J->Prop}(j:∀h,LC h L->K h->K' h):∀(vs:List aa) (i:Nat) (w:J),LC w L->ER (hJ L) p vs i w K->pA p vs i w K'
 |[],_,w,d,e=>j w d e
 |v::vs,i,w,d,e=>by obtain⟨k,q,x,y⟩:=e;exact⟨k,q,Qn j vs (i+1) _ (d.o5 x) y⟩
def R3{b:Bool}{p:Prop}(d:b=true)(e:p):cF b p:=by subst d;exact e
def HH{E:Env}{T:aC}{x y:Operand}{p:Addr}{v:aa}{K:aa->J->Prop}(e:o.op=.store T x y)(j:E.val x=some (.pointer (some p)))(k:E.val y=some v)(d:(v.cells.size==(match P.info? T with |some i=>i.size|none=>0)&&v.cells.toList.all qR&&(P.info? T).isSome)=true)(h:pA p v.cells.toList 0 w λq=>K undef q):g5 P o E w K:=by unfold g5;rw[e];simp only[j,k];exact R3 d h
def PI{ρ:Operand->aa}{nx:Next}{w':J}(d:(∃e,o.op=.alloc e)\/(∃e A,o.op=.box e A)\/(∃e l p,o.op=.buildSlice e l p)\/(∃e r,o.op=.makeMap e r))(h:(execOp ρ o).run P w=.ok nx w'):ag w w':=by
 rcases d with⟨e,d⟩|⟨e,A,d⟩|⟨e,l,p,d⟩|⟨e,r,d⟩
 .cases q:(P.info? e).bind (·.zero)with
  |some B=>
   rw[PD d q]at h;cases h;exact Fr.alloc _ _ _
  |none=>
   exfalso;cases k:P.info? e with
   |none=>simp[execOp,d,Instr.alloc,zeroValue,typeInfo,k]at h
   |some i=>
    rw[k]at q;have D:i.zero=none:=q;simp[execOp,d,Instr.alloc,zeroValue,typeInfo,k,D]at h
 .rw [PF d]at h;cases h;exact Fr.alloc _ _ _
 .cases j:P.underlying e with
  |none=>simp[execOp,d,Instr.buildSlice,underlying,j]at h
  |some u=>
   cases u<;>first |(simp[execOp,d,Instr.buildSlice,run_underlying j]at h;done)|skip
   rename_i C;cases k:P.info? C with
   |none=>simp[execOp,d,Instr.buildSlice,run_underlying j,sizeOf,typeInfo,k]at h
   |some i=>
    by_cases z:l *i.size>2^24
    .simp [execOp,d,Instr.buildSlice,run_underlying j,sizeOf,typeInfo,k,z]at h
    by_cases y:l *i.size=0
    .simp [execOp,d,Instr.buildSlice,run_underlying j,sizeOf,typeInfo,k,y]at h;split at h
     .simp [newRow]at h;obtain⟨_,rfl⟩:=h;exact Fr.alloc _ _ _
     .simp at h
    .simp [execOp,d,Instr.buildSlice,run_underlying j,sizeOf,typeInfo,k,z,y]at h;cases q:i.zero with
     |none=>simp[zeroValue,typeInfo,k,q]at h
     |some B=>
      simp[zeroValue,typeInfo,k,q]at h;split at h
      .simp [newRow]at h;obtain⟨_,rfl⟩:=h;exact Fr.alloc _ _ _
      .simp at h
 .cases r with
  |none=>
   simp[execOp,d,Instr.makeMap]at h;obtain⟨_,rfl⟩:=h;exact Fr.alloc _ _ _
  |some r=>
   cases j:P.underlying e with
   |none=>simp[execOp,d,Instr.makeMap,underlying,j]at h
   |some u=>
    cases u<;>first |(simp[execOp,d,Instr.makeMap,run_underlying j]at h;done)|skip
    cases x:ρ r with
    |int F B=>
     simp[execOp,d,Instr.makeMap,run_underlying j,x,Go.asInt,Go.asIntOf]at h;obtain⟨_,rfl⟩:=h;exact Fr.alloc _ _ _
    |pointer E=>cases E<;>simp[execOp,d,Instr.makeMap,run_underlying j,x,Go.asInt,Go.asIntOf]at h
    |_=>simp[execOp,d,Instr.makeMap,run_underlying j,x,Go.asInt,Go.asIntOf]at h
def XT{K:aa->J->Prop}(A:∀x b,o.op≠.select x b)(y:Ag n a s.E)(j:(∃d,o.op=.alloc d)\/(∃d B,o.op=.box d B)\/(∃d l p,o.op=.buildSlice d l p)\/(∃d r,o.op=.makeMap d r))(h:g5 P o s.E w K):iz P o a w λv q=>ag w q/\K v q:=by
 have e:oV P o s.E w K:=by
  unfold g5 at h
  grind
 obtain⟨z,e⟩:=dK e;intro C;unfold Oper.wp;rw[y.execOp A z];generalize k:(execOp s.E.ev o).run P w=r at e;split at e
 .simp only[Oper.upon];exact⟨_,rfl,PI j k,e⟩
 .simp only[Oper.upon];exact⟨_,rfl,PI j k,e⟩
 grind
def Ve{draw:Bool}{lv:List Nat}(A:(aa->J->Prop)->Prop)(B:∀K,iz P o a w K->A K)(h1:∀K,(bif draw then g5 else so) P o s.E w K->A K)(F:∀K ab,(∀v d,K v d->ab v d)->A K->A ab)(O:∀cs b,o.op≠.select cs b)(D:Ag n a s.E)(j:Inv s w)(h:BG P lv draw o s K):A (rD s K):=by
 have back:∀v d,LC d s.L->K v none none ⟨s.E,s.S,s.L,d,false⟩->rD s K v d:=λv d C e=>⟨none,none,_,e,⟨C,by simp,j.sl⟩,rfl,rfl,λi X h _=>h,λi ae Z=>by cases Z⟩;have ac:∀v d,o5 s.L w d (K v none none ⟨s.E,s.S,s.L,d,false⟩)->rD s K v d:=λv d e=>by
  obtain⟨C,e⟩:=WC e j.lc
  grind
 have news:((∃q,o.op=.alloc q)\/(∃q H,o.op=.box q H)\/(∃q l p,o.op=.buildSlice q l p)\/(∃q r,o.op=.makeMap q r))->fG s (λs=>g5 P o s.E s.w λv d=>K v none none ⟨s.E,s.S,s.L,d,false⟩)->A (rD s K):=λk h=>by obtain⟨_,z⟩:=j.fG h;exact F _ _ (λv d ⟨f,e⟩=>back v d (j.lc.fr (M:=λ_=>False) f (λ_ _ h=>h)) e) (B _ (XT O D k z))
 unfold BG at h;split at h
 .rename_i q H ak k;split at h
  .rename_i i ae G;obtain⟨X,V,g2,_⟩:=j.at G;split at h
   .rename_i X' v ad hv;rw[V]at ad;cases ad;obtain⟨y,e⟩:=dK h;rw[bq]at y;obtain⟨y,hb⟩:=y;have hb:=Nat.le_of_ble_eq_true hb;refine B _ (mW O D (HH k g2 hv y ?_));refine Qo (i:=i) (T:=X.2.2) _ 0 w s.L X.2.1 j.lc V (by omega) j.fr λd q1 q2=>?_;refine⟨none,some i,_,e,⟨q1,?_,λt Q j' ht=>?_⟩,rfl,rfl,λQ Y hY ag=>?_,λi ae Z=>by cases Z⟩
    .simp only[if_true];rw[AZ s.L i V];exact q2
    .obtain ⟨Y,y1,y2⟩:=j.sl t Q j' ht;by_cases U:i=Q
     .grind
     grind
    .have U:i≠Q:=λU=>ag (by rw[U])
     grind
   grind
  .obtain ⟨_,z⟩:=j.fG h;simp only at z;split at z
   .rename_i hL;exact F _ _ (λv d e=>back v d (hL▸LC.nil _) e) (B _ (mW O D z))
   .split at z
    .rename_i p v G hy;obtain⟨y,e⟩:=dK z;exact F _ _ (λv d e=>e) (B _ (mW O D (HH k G hy y (Qn (K':=rD s K undef) (λd C e=>back _ d C e) _ _ _ j.lc e))))
    grind
 .rename_i q k;cases W:yb lv o.dst with
  |true=>
   rw[W,cond_true]at h;obtain⟨hz,h⟩:=dK h;obtain⟨ai,hz⟩:=Option.isSome_iff_exists.1 hz;have:zeroOf P q=ai:=by unfold zeroOf;grind
   rw[this]at h;exact B _ (Ni (PD k hz w) j h)
  |false=>
   grind
 .rename_i q H k;cases W:yb lv o.dst with
  |true=>
   rw[W,cond_true]at h;split at h
   .rename_i v hv;have:=PF (P:=P) (ρ:=a.eval) k w;rw[D.val hv]at this;exact B _ (Ni this j h)
   grind
  |false=>
   grind
 .grind
 .grind
 .rename_i f args ah k;obtain⟨I',h⟩:=j.fG h;obtain⟨y,h⟩:=dK h;have N:args.map a.eval=args.map s.E.ev:=D.args λH G=>List.all_eq_true.1 y H (by rw[k];simp[Op.operands,Call.operands,G]);cases I:g3 P f with
  |true=>
   rw[I,cond_true]at h;exact F _ _ (λv d ⟨C,e⟩=>back v d C e) (B _ (G9 (s:=⟨s.E,s.S,s.L,w,false⟩) (by simp[execOp,k,resolve,Act.eval,Deferred.ofValue,invoke,N,uO I]) j.lc rfl h))
  |false=>
   rw[I,cond_false]at h;unfold vr at h;obtain⟨v,d,hr,e⟩:=qv h;refine F _ _ ac (B _ λaj=>?_);unfold Oper.wp;have:(execOp a.eval o).run P w=.ok (.value v) d:=by simp[execOp,k,resolve,Act.eval,Deferred.ofValue,invoke,N,hr]
   rw[this];simp only[Oper.upon]
   grind
 .rename_i t args ah k;obtain⟨I',h⟩:=j.fG h;obtain⟨y,h⟩:=dK h;have N:args.map a.eval=args.map s.E.ev:=D.args λH G=>List.all_eq_true.1 y H (by rw[k];simp[Op.operands,Call.operands,G]);split at h
  .rename_i f first captured hf
   obtain⟨I,h⟩:=dK h;have af:a.eval (.tmp t)=.func (.func f) first captured:=D.val (x:=.tmp t) hf
   exact F _ _ (λv d ⟨C,e⟩=>back v d C e) (B _ (G9 (s:=⟨s.E,s.S,s.L,w,false⟩) (by simp[execOp,k,resolve,af,Deferred.ofValue,invoke,N,uO I]) j.lc rfl h))
  grind
 .obtain ⟨_,z⟩:=j.fG h;exact F _ _ ac (h1 _ z)
end
def HI(s:TS)(H:HT)(w:J):Prop:=∀p∈H,p.2.2 w/\∀i,p.2.1=some i->∃X,s.L[i]? =some X/\∀d:J,d.heap[X.1]? =some (.cells X.2.1.toArray X.2.2 (0,0))->p.2.2 d
def eX(H:HT):eu:=H.map λp=>(p.1,p.2.2)
def sJ{ops:Array Oper}{j:Nat}:∀d:HT,da ops j (eX d)=eX (ga ops j d)
 |[]=>rfl
 |(i,f,e)::d=>by
  show da ops j ((i,e)::eX d)=eX (ga ops j ((i,f,e)::d));unfold da ga;cases ja ops i j
  .simp only[cond_false];rw[sJ d];rfl
  .simp only[cond_true];exact sJ d
def m9{ops:Array Oper}{j:Nat}:∀{H:HT} {p},p∈ga ops j H->p∈H/\ja ops p.1 j=false
 |(i,f,h)::H,p,d=>by
  unfold ga at d;cases e:ja ops i j with
  |true=>
   rw[e,cond_true]at d;exact⟨e8 _ (m9 d).1,(m9 d).2⟩
  |false=>
   rw[e,cond_false]at d;rcases au.1 d with rfl|d
   .grind
   .exact ⟨e8 _ (m9 d).1,(m9 d).2⟩
def I4{ops:Array Oper}{j:Nat}{w:J}:∀{H:HT} {p},p∈H->ja ops p.1 j=false->p.2.1=none->p.2.2 w∈vz ops j w H
 |(i,f,k)::H,p,d,h,e=>by
  unfold vz;rcases au.1 d with rfl|d
  .grind
  .have:=I4 (w:=w) d h e
   grind
def Inv.put{s:TS}{w:J}(h:Inv s w)(d:Option Nat){v:aa}{k:Option (Nat×Nat)}(z:∀i e,k=some (i,e)->∃X,s.L[i]? =some X/\v=.pointer (some ((ab X.1).add e))):Inv ⟨s.E.put d v,s.S.put d k,s.L,s.w,s.d⟩ w:=by
 refine⟨h.lc,h.rel,λt i e j=>?_⟩;cases d with
 |none=>exact h.sl t i e j
 |some d=>
  simp only[Sv.put,Sv.get?]at j;simp only[Env.put,Env.get?];cases q:bO d t with
  |true=>
   grind
  |false=>
   rw[q,cond_false]at j;obtain⟨X,x,y⟩:=h.sl t i e j
   grind
def Zm{ops:Array Oper}{j:Nat}{s e:TS}{w w':J}{m:Option Nat}{H:HT}{K:TS->Prop}(G:HI s H w)(x:Inv e w')(N:∀i X,s.L[i]? =some X->m≠some i->e.L[i]? =some X)(O:(!((ga ops j H).any λp=>m.isSome&&p.2.1==m))=true)(h:Ee ops j e H K):
  ∃k,K k/\Inv k w'/\k.E=e.E/\k.S=e.S/\k.L=e.L/\HI k (ga ops j H) w':=by
 have A:∀p∈ga ops j H,∀i,p.2.1=some i->∃X,e.L[i]? =some X/\∀w':J,w'.heap[X.1]? =some (.cells X.2.1.toArray X.2.2 (0,0))->p.2.2 w':=λp d i z=>by
  obtain⟨X,B,C⟩:=(G p (m9 d).1).2 i z
  grind
 have own:∀p∈ga ops j H,∀i,p.2.1=some i->p.2.2 w':=λp d i z=>by obtain⟨X,B,C⟩:=A p d i z;exact C w' (x.lc.own i X B)
 unfold Ee at h;cases q:H.any (λp=>!(ja ops p.1 j)&&p.2.1.isNone)with
 |true=>
  rw[q,cond_true]at h;obtain⟨D,F⟩:=x.fG h;obtain⟨I,M⟩:=rW F;refine⟨_,M,D,rfl,rfl,rfl,λp d=>⟨?_,A p d⟩⟩;cases y:p.2.1 with
  |none=>exact I _ (I4 (m9 d).1 (m9 d).2 y)
  |some i=>grind
 |false=>
  rw[q,cond_false]at h;refine⟨e,h,x,rfl,rfl,rfl,λp d=>⟨?_,A p d⟩⟩;cases y:p.2.1 with
  |none=>
   exfalso;rw[List.any_eq_false]at q;exact q p (m9 d).1 (by rw[(m9 d).2,y];rfl)
  |some i=>grind
section
variable {ops:Array Oper} {n:Cx} {lv:List Nat}
def EW{o:Oper}{a:Act}{s:TS}{w:J}{H:HT}{K:TS->HT->Prop}{draw:Bool}{i:Nat}(A:(aa->J->Prop)->Prop)(C:∀K,iz P o a w K->A K)(D:∀K,(bif draw then g5 else so) P o s.E w K->A K)(k:∀K j,(∀v d,K v d->j v d)->A K->A j)(S:∀B b,o.op≠.select B b)(I:Ag n a s.E)(x:Inv s w)(F:HI s H w)(M:calm P o=false)(h:stepT P lv ops draw i o s H K):
  A λv d=>∃e,K e (ga ops i H)/\Inv e d/\HI e (ga ops i H) d/\e.E=s.E.put o.dst v:=by
 unfold stepT at h;rw[M,cond_false]at h;refine k _ _ (λv d N=>?_) (Ve A C D k S I x h);obtain⟨ac,m,s1,O,y,U,V,G,hq⟩:=N;obtain⟨L,Q⟩:=dK O;obtain⟨s2,T,z,W,Z,f3,q⟩:=Zm F y G L Q;refine⟨_,T,z.put o.dst λi ab h=>?_,q,by grind⟩
 grind
def Qw{o:Oper}{a:Act}{s:TS}{w:J}{H:HT}{K:TS->HT->Prop}{draw:Bool}{i:Nat}(O:∀B b,o.op≠.select B b)(I:Ag n a s.E)(z:Inv s w)(F:HI s H w)(M:calm P o=true)(h:stepT P lv ops draw i o s H K):
  ∃v j e k,K e k/\Inv e w/\HI e k w/\e.E=s.E.put o.dst v/\Calm P o a.eval w v j/\eX k=(bif draw then j.map (λq=>(i,q))++eX H else eX H):=by
 unfold stepT at h;rw[M,cond_true]at h;obtain⟨v,aa,j,e,N,A,C,Q,D,x,T,U⟩:=UJ O I z h;refine⟨v,j.map (·.2),_,_,N,A.put o.dst λi W h=>?_,λp d=>?_,by rw[C],x,?_⟩
 .grind
 .have Z:p∈H->p.2.2 w/\∀i,p.2.1=some i->∃X,e.L[i]? =some X/\∀y:J,y.heap[X.1]? =some (.cells X.2.1.toArray X.2.2 (0,0))->p.2.2 y:=λd=>by rw[D];exact F p d
  cases draw with
  |false=>grind
  |true=>
   rcases List.mem_append.1 d with d|d
   .obtain ⟨q,G,rfl⟩:=List.mem_map.1 d;refine⟨x.1 _ (List.mem_map.2 ⟨q,G,rfl⟩),λV S=>?_⟩
    grind
   grind
 .cases draw with
  |false=>rfl
  |true=>simp[eX]
def Ch{i d:Nat}{o:Oper}{want t:Bool}{s:TS}{H:HT}{K:TS->HT->Prop}{draw:Bool}(h:bh t (m7 P lv ops draw i o d want true s H K) (m7 P lv ops draw i o d want false s H K)):m7 P lv ops draw i o d want t s H K:=by
 cases t
 .exact h
 .exact h
def Inv.same{s:TS}{w:J}(e:Inv s w){d:Nat}{v:aa}(z:s.E.get? d=some v):Inv ⟨(d,v)::s.E,s.S,s.L,s.w,s.d⟩ w:=by
 refine⟨e.lc,e.rel,λt i q k=>?_⟩;obtain⟨X,j,x⟩:=e.sl t i q k;refine⟨X,j,?_⟩;simp only[Env.get?];by_cases h:d=t
 .grind
 .have y:bO d t=false:=by rw[<-Bool.not_eq_true,ep];exact h
  grind
def Inv.skip{s:TS}{w:J}(e:Inv s w)(d:Option Nat):Inv ⟨s.E.put d undef,s.S.put d none,s.L,s.w,s.d⟩ w:=e.put d λi j h=>by cases h
def HI.skip{s s':TS}{w:J}{H:HT}(h:HI s H w)(e:s'.L=s.L):HI s' H w:=λp d=>by rw[e];exact h p d
def HI.drop{s:TS}{w:J}{H:HT}{j:Nat}(h:HI s H w):HI s (ga ops j H) w:=λp d=>h p (m9 d).1
def HI.held{s:TS}{w:J}{H:HT}(h:HI s H w):∀p∈eX H,p.2 w:=λp d=>by obtain⟨j,e,rfl⟩:=List.mem_map.1 d;exact(h j e).1
def zj{K:TS->Prop}{Q:Exit->Act->J->Prop}(q:dR n ops=true):∀(l:List Nat) (s:TS) (w:J) (a:Act),Ag n a s.E->Inv s w->runT P lv ops false K l s []->(∀x y I,Ag n I x.E->Inv x y->K x->Q .normal I y)->wpOpsIn (FW n) 0 P ops Q l a w
 |[],s,w,a,h,k,e,D=>D s w a h k e
 |i::l,s,w,a,h,k,e,D=>by
  have U:=Region.noSelect_spec (ops:=ops) (by unfold dR at q;grind);unfold runT at e;cases j:ops[i]? with
  |none=>grind
  |some o=>
   rw[j]at e;simp only at e;have step:∀(s:TS),Ag n a s.E->Inv s w->db o (yielded ops a.tmps)=true->stepT P lv ops false i o s [] (λx F=>runT P lv ops false K l x F)->wpOpsIn (FW n) 0 P ops Q (i::l) a w:=λs h k G e=>by
    rw[wpOpsIn_cons];cases hc:calm P o with
    |true=>
     obtain⟨v,Ss,x,F,V,H,_,M,aa,ac⟩:=Qw (λB b=>U i o B b j) h k (λp T=>by cases T) hc e;have:F=[]:=by cases F with |nil=>rfl|cons ag l=>cases ac
     subst this;refine z0 (Kv:=λv' y=>v'=v/\y=w) j G ?_ ?_
     .refine iz.in (sZ q j) λW=>?_;unfold Oper.wp;rw[aa.2 w aa.1];exact⟨v,rfl,rfl,rfl⟩
     .rintro v' y ⟨rfl,rfl⟩;exact zj q l x _ _ (by rw[M];exact h.put _ (gH q j)) H V D
    |false=>
     refine z0 j G (EW (draw:=false) (s:=s) (wZ P n o a w) (λK N=>N.in (sZ q j)) (λK N=>HJ (λB b=>U i o B b j) (sZ q j) h N) (λK K' ad hA W=>Oper.wpIn_mono (λI y ⟨v,ab,hv⟩=>⟨v,ab,ad v y hv⟩) (hA W)) (λB b=>U i o B b j) h k (λp T=>by cases T) hc e) λv y ⟨x,V,H,_,M⟩=>?_;exact zj q l x y _ (by rw[M];exact h.put v (gH q j)) H V D
   have skip:∀(s:TS),Ag n a s.E->Inv s w->db o (yielded ops a.tmps)=false->runT P lv ops false K l ⟨s.E.put o.dst undef,s.S.put o.dst none,s.L,s.w,s.d⟩ []->wpOpsIn (FW n) 0 P ops Q (i::l) a w:=λs h k G e=>by rw[wpOpsIn_cons];unfold wpOpIn;simp only[j,G];exact⟨λ_ _=>trivial,zj q l _ w _ (h.put undef (gH q j)) (k.skip o.dst) e D⟩
   have Z:(bif calm P o then([]:HT)else ga ops i [])=[]:=by cases calm P o<;>rfl
   cases A:o.guard with
   |none=>
    rw[A]at e;exact step s h k (by simp[db,A]) e
   |some jw=>
    obtain⟨ae,want⟩:=jw;rw[A]at e;simp only at e;cases O:jx ops ae with
    |none=>grind
    |some af=>
     rw[O]at e;simp only at e;split at e
     .rename_i t z;have hy:=rn h O z;have C:=Ch e;unfold m7 at C;cases hb:(t==want)with
      |true=>
       rw[hb,cond_true]at C;exact step _ (h.same z) (k.same z) (by simp[db,A,hy];grind) C
      |false=>
       rw[hb,cond_false,Z]at C;exact skip _ (h.same z) (k.same z) (by simp[db,A,hy];grind) C
     .rename_i vs z;rw[Z]at e;exact skip s h k (by simp[db,A,rp h O z]) e
     grind
def hd(n:Cx)(K:TS->Prop):Exit->Act->J->Prop
 |.normal,a,d=>∃s,Ag n a s.E/\Inv s d/\K s
 |_,_,_=>False
def Wm{o:Oper}{i:Nat}{H:HT}:(bif calm P o then eX H else da ops i (eX H))=eX (bif calm P o then H else ga ops i H):=by
 cases calm P o
 .exact sJ H
 .rfl
def HI.zq{o:Oper}{i:Nat}{s s':TS}{w:J}{H:HT}(h:HI s H w)(e:s'.L=s.L):HI s' (bif calm P o then H else ga ops i H) w:=by
 cases calm P o
 .exact h.drop.skip e
 .exact h.skip e
def Wh(G:dR n ops=true){K:TS->Prop}{i:Nat}{o:Oper}{s:TS}{w:J}{H:HT}{a:Act}{M:TS->HT->Prop}{x:Array Bool}{fuel:Nat}(k:ops[i]? =some o)(O:(bif calm P o then Region.free .any ops x i&&(eG .any ops x).contains i else eG .any ops x==[i])=true)(e:Ag n a s.E)(q:Inv s w)(j:HI s H w)(h:vx P lv ops i s H M)(next:∀V z y C,Ag n V z.E->Inv z y->HI z C y->M z C->eo P ops (hd n K) fuel (eX C) (x.setIfInBounds i true) V y):eo P ops (hd n K) (fuel+1) (eX H) x a w:=by
 have Q:=Region.noSelect_spec (ops:=ops) (by unfold dR at G;grind);have hQ:∀c a w,hd n K (.panic c) a w=False:=λ_ _ _=>rfl;have step:∀(s:TS),Ag n a s.E->Inv s w->HI s H w->db o (yielded ops a.tmps)=true->stepT P lv ops true i o s H M->eo P ops (hd n K) (fuel+1) (eX H) x a w:=λs e q j ad h=>by
  cases N:calm P o with
  |true=>
   rw[N,cond_true,bq]at O;obtain⟨v,ae,z,C,k1,U,I,W,ac,ab⟩:=Qw (λD b=>Q i o D b k) e q j N h;refine FC (v:=v) (Ss:=ae) k Q (by grind) fuel (eX H) x a w (Region.free_spec k O.1) (by grind) (.inl ⟨ad,λy ah=>ac.2 y ah⟩) ac.1 j.held ?_;rw[cond_true]at ab;rw[<-ab];exact next _ z w C (by rw[W];exact e.put v (gH G k)) U I k1
  |false=>
   rw[N,cond_false]at O;have hr:eG .any ops x=[i]:=by grind
   refine λ_=>⟨λh0=>(by grind),λT hj=>?_⟩;rw[hr]at hj;obtain rfl:=List.mem_singleton.1 hj;refine wV k ad (EW (draw:=true) (s:=s) (iz P o a w) (λK Z=>Z) (λK Z=>mW (λD b=>Q T o D b k) e Z) (λK K' ag hA Q'=>Oper.wp_mono (λV y ⟨v,af,hv⟩=>⟨v,af,ag v y hv⟩) (hA Q')) (λD b=>Q T o D b k) e q j N h) λv y ⟨z,k1,U,I,W⟩=>?_;rw[sJ];exact⟨I.held,next _ z y _ (by rw[W];exact e.put v (gH G k)) U I k1⟩
 have skip:∀(s:TS),Ag n a s.E->Inv s w->HI s H w->db o (yielded ops a.tmps)=false->M ⟨s.E.put o.dst undef,s.S.put o.dst none,s.L,s.w,s.d⟩ (bif calm P o then H else ga ops i H)->eo P ops (hd n K) (fuel+1) (eX H) x a w:=λs e q j hw h=>by refine wy G k O hQ j.held hw ?_;rw[Wm];exact next _ _ w _ (e.put undef (gH G k)) (q.skip o.dst) (j.zq rfl) h
 unfold vx at h;rw[k]at h;simp only at h;cases B:o.guard with
 |none=>
  rw[B]at h;exact step s e q j (by simp[db,B]) h
 |some jw=>
  obtain⟨T,want⟩:=jw;rw[B]at h;simp only at h;cases aa:jx ops T with
  |none=>grind
  |some ai=>
   rw[aa]at h;simp only at h;split at h
   .rename_i t A;have hy:=rn e aa A;have F:=Ch h;unfold m7 at F;cases hb:(t==want)with
    |true=>
     rw[hb,cond_true]at F;exact step _ (e.same A) (q.same A) (j.skip rfl) (by simp[db,B,hy];grind) F
    |false=>
     rw[hb,cond_false]at F;exact skip _ (e.same A) (q.same A) (j.skip rfl) (by simp[db,B,hy];grind) F
   .rename_i vs A;exact skip s e q j (by simp[db,B,rp e aa A]) h
   grind
def Wi(O:dR n ops=true){K:TS->Prop}{i:Nat}{o:Oper}{s:TS}{w:J}{H:HT}{a:Act}{D:TS->HT->Prop}{F:Array Bool}{fuel:Nat}(y:ops[i]? =some o)(U:calm P o=false)(j:Ag n a s.E)(x:Inv s w)(q:HI s H w)(h:vx P lv ops i s H D)(next:∀k B e G,Ag n k B.E->Inv B e->HI B G e->D B G->eo P ops (hd n K) fuel (eX G) (F.setIfInBounds i true) k e):
  wpOp P ops (hd n K) i (λk e=>(∀p∈da ops i (eX H),p.2 e)/\eo P ops (hd n K) fuel (da ops i (eX H)) (F.setIfInBounds i true) k e) a w:=by
 have V:=Region.noSelect_spec (ops:=ops) (by unfold dR at O;grind);have step:∀(s:TS),Ag n a s.E->Inv s w->HI s H w->db o (yielded ops a.tmps)=true->stepT P lv ops true i o s H D->wpOp P ops (hd n K) i (λk e=>(∀p∈da ops i (eX H),p.2 e)/\eo P ops (hd n K) fuel (da ops i (eX H)) (F.setIfInBounds i true) k e) a w:=λs j x q ac h=>by refine wV y ac (EW (draw:=true) (s:=s) (iz P o a w) (λK M=>M) (λK M=>mW (λI b=>V i o I b y) j M) (λK K' ab hA Q'=>Oper.wp_mono (λk e ⟨v,aa,hv⟩=>⟨v,aa,ab v e hv⟩) (hA Q')) (λI b=>V i o I b y) j x q U h) λv e ⟨B,k1,Z,Q,e1⟩=>?_;rw[sJ];exact⟨Q.held,next _ B e _ (by rw[e1];exact j.put v (gH O y)) Z Q k1⟩
 have skip:∀(s:TS),Ag n a s.E->Inv s w->HI s H w->db o (yielded ops a.tmps)=false->D ⟨s.E.put o.dst undef,s.S.put o.dst none,s.L,s.w,s.d⟩ (bif calm P o then H else ga ops i H)->wpOp P ops (hd n K) i (λk e=>(∀p∈da ops i (eX H),p.2 e)/\eo P ops (hd n K) fuel (da ops i (eX H)) (F.setIfInBounds i true) k e) a w:=λs j x q hw h=>by refine EF y q.held hw ?_;rw[U,cond_false]at h;rw[sJ];exact next _ _ w _ (j.put undef (gH O y)) (x.skip o.dst) (q.drop.skip rfl) h
 unfold vx at h;rw[y]at h;simp only at h;cases A:o.guard with
 |none=>
  rw[A]at h;exact step s j x q (by simp[db,A]) h
 |some jw=>
  obtain⟨ad,want⟩:=jw;rw[A]at h;simp only at h;cases N:jx ops ad with
  |none=>grind
  |some ae=>
   rw[N]at h;simp only at h;split at h
   .rename_i t z;have W:=rn j N z;have C:=Ch h;unfold m7 at C;cases T:(t==want)with
    |true=>
     rw[T,cond_true]at C;exact step _ (j.same z) (x.same z) (q.skip rfl) (by simp[db,A,W];grind) C
    |false=>
     rw[T,cond_false]at C;exact skip _ (j.same z) (x.same z) (q.skip rfl) (by simp[db,A,W];grind) C
   .rename_i vs z;exact skip s j x q (by simp[db,A,rp j N z]) h
   grind
def wO(F:dR n ops=true){K:TS->Prop}:∀(t:Tr) (alt:Bool) (e:Array Bool) (s:TS) (w:J) (H:HT) (a:Act) (m:Nat),hS P ops t alt e=true->Ag n a s.E->Inv s w->HI s H w->pI P lv ops K t s H->
  (alt=false->t.len=m->eo P ops (hd n K) m (eX H) e a w)/\
  (alt=true->t.len=m+1->∀i∈t.i0,wpOp P ops (hd n K) i (λy k=>(∀p∈da ops i (eX H),p.2 k)/\eo P ops (hd n K) m (da ops i (eX H)) (e.setIfInBounds i true) y k) a w)
 |.nil,alt,e,s,w,H,a,m,d,z,x,D,h=>by
  unfold hS at d;rw[bq]at d;refine⟨λ_ j=>?_,λC=>?_⟩
  .subst j;exact λ_=>⟨by grind,s,z,x,h⟩
  grind
 |.one i t,alt,e,s,w,H,a,m,d,z,x,D,h=>by
  unfold hS at d;rw[bq]at d;obtain⟨d,aa⟩:=d;cases T:ops[i]? with
  |none=>grind
  |some o=>
   rw[T]at d;simp only at d;unfold pI at h;refine⟨λC j=>?_,λC j ac hj=>?_⟩
   .subst C j;exact Wh F T d z x D h λy V k L M O N Q=>(wO F t false _ V k L y _ aa M O N Q).1 rfl rfl
   .subst C;rw[cond_true]at d;obtain rfl:=List.mem_singleton.1 hj;have S:t.len=m:=by simpa[Tr.len]using j
    exact Wi F T (by grind) z x D h λy V k L M O N Q=>(wO F t false _ V k L y _ aa M O N Q).1 rfl S
 |.fork B I,alt,e,s,w,H,a,m,d,z,x,D,h=>by
  unfold hS at d;simp only[bq]at d;obtain⟨hr,W,U,hy⟩:=d;rw[ep]at W;unfold pI at h;have both:∀q,B.len=q+1->∀i∈(Tr.fork B I).i0,wpOp P ops (hd n K) i (λy k=>(∀p∈da ops i (eX H),p.2 k)/\eo P ops (hd n K) q (da ops i (eX H)) (e.setIfInBounds i true) y k) a w:=λq G i A=>by
   rcases List.mem_append.1 A with A|A
   .exact (wO F B true e s w H a q U z x D h.1).2 rfl G i A
   .exact (wO F I true e s w H a q hy z x D h.2).2 rfl (W▸G) i A
  refine⟨λC j=>?_,λ_ j=>both m j⟩;subst C;obtain⟨q,G⟩:=Ff B e U;have S:m=q+1:=by rw[<-j,<-G];rfl
  subst S;have Z:eG .any ops e=(Tr.fork B I).i0:=by grind
  have ab:(Tr.fork B I).i0≠[]:=by have:=Fe B e U;simp[Tr.i0,this]
  exact λ_=>⟨λh0=>absurd (Z▸h0) ab,λi A=>both q G i (Z▸A)⟩
def Zo{c:Code}{a:Act}{s:TS}{w:J}{K:TS->Prop}(d:qX n c=true)(y:Ag n a s.E)(q:Inv s w)(h:runT P lv (Code.ops c) false K (List.range (Code.ops c).size) s []):fx P n c (hd n K) a w:=by
 unfold qX at d;split at d
 .rename_i id ops x;rw[bq]at d;obtain⟨k,e⟩:=d;have j:x=false:=by grind
  subst j;exact wpIn_region (zj e _ s w a y q h λz B A k e j=>⟨z,k,e,j⟩)
 grind
def Inv.dr{s:TS}{w:J}{K:TS->Prop}(d:Inv s w)(h:xM s K):∃e,K e/\Inv e w.drew/\e.E=s.E:=by
 have lc:LC w.drew s.L:=d.lc.fr (M:=λ_=>False) (Fr.drew _ _) (λ_ _ h=>h);unfold xM at h;split at h
 .rename_i q j;have k:=d.rel;rw[j]at k;have:w=s.w:=by grind
  exact⟨_,h,⟨lc,by grind,d.sl⟩,rfl⟩
 .exact ⟨_,h,⟨lc,by simpa using d.fr.dA (Fr.drew _ _),d.sl⟩,rfl⟩
def Zn{c:Code}{a:Act}{s:TS}{w:J}{K:TS->Prop}{t:Tr}(d:tq P n c t=true)(H:Ag n a s.E)(k:Inv s w)(h:xM s λs=>pI P lv (Code.ops c) K t s []):fx P n c (hd n K) a w:=by
 unfold tq at d;split at d
 .rename_i id ops F;simp only[bq]at d;obtain⟨rfl,B,j,A,e⟩:=d;rw[ep]at e;obtain⟨D,z,q,G⟩:=k.dr h;have x:=(wO j t false _ D w.drew [] a _ A (by grind) q (λp C=>(by cases C)) z).1 rfl e;have y:=zZ _ [] _ _ _ (Down.zero _ _) x;refine wpIn_region_draw λt=>?_;refine rk j (λ⟨_,_,h⟩=>h) _ _ _ ?_;simp only[Region.schedule,B,Bool.true_or,if_true];exact wpAny_sound ops.size t _ a _ y
 grind
end
end
abbrev KT:=Exit->TS->Prop
structure mQ where
 ord:Nat->Option Tr
 pt:List Bool->Option (TS->Prop)
 lv:List Nat
def pc(h:mQ)(e:List Bool)(f:TS->Prop)(s:TS):Prop:=match h.pt e with
 |some d=>fG s d
 |none=>f s
def PQ(h:mQ)(e:List Bool)(f:TS->Prop)(K:KT):KT:=λd s=>match d with
 |.normal=>pc h e f s
 |d=>K d s
def xx(id:Nat)(K:KT):KT:=λd s=>match d with
 |.exit e=>if e=id then K .normal s else K (.exit e) s
 |d=>K d s
def ia(P:aE)(n:Cx)(h:mQ):Code->List Bool->KT->TS->Prop
 |.skip,_,d,s=>d .normal s
 |.region id ops true,_,d,s=>match h.ord id with
  |some t=>cF (tq P n (.region id ops true) t) (xM s λs=>pI P h.lv ops (d .normal) t s [])
  |none=>False
 |.region id ops false,_,d,s=>cF (qX n (.region id ops false)) (runT P h.lv ops false (d .normal) (List.range ops.size) s [])
 |.seq a b,e,d,s=>ia P n h a (false::e) (PQ h (true::e) (ia P n h b (true::e) d) d) s
 |.cond o a b,e,d,s=>gB (s.E.val o) (pc h (false::e) (ia P n h a (false::e) d) s) (pc h (true::e) (ia P n h b (true::e) d) s)
 |.block id a,e,d,s=>ia P n h a (false::e) (xx id d) s
 |.loop _,e,_,s=>pc h e (λ_=>False) s
 |.exit id,_,d,s=>d (.exit id) s
 |.ret,_,d,s=>d .ret s
 |_,_,_,_=>False
section
variable {P:aE} {n:Cx} {tb:mQ}
def fO(P:aE)(n:Cx)(k:Code)(j:Exit->Act->J->Prop):List Bool->Code×(Exit->Act->J->Prop)
 |[]=>(k,j)
 |b::q=>match fO P n k j q,b with
  |(.seq e h,d),false=>(e,Exit.then (fx P n h d) d)
  |(.seq _ h,d),true=>(h,d)
  |(.cond _ e _,d),false=>(e,d)
  |(.cond _ _ h,d),true=>(h,d)
  |(.block id e,d),_=>(e,Exit.inBlock id d)
  |(.loop e,d),_=>(e,Exit.then (l1 P n e d) d)
  |(_,d),_=>(.skip,d)
def rr(P:aE)(n:Cx)(p:Code×(Exit->Act->J->Prop))(a:Act)(w:J):Prop:=match p with
 |(.loop e,d)=>l1 P n e d a w
 |(c,d)=>fx P n c d a w
def rr.wp{c:Code}{Q:Exit->Act->J->Prop}{a:Act}{w:J}(h:rr P n (c,Q) a w):fx P n c Q a w:=by
 unfold rr at h;split at h
 .rename_i j e d;cases d;exact RZ h
 grind
def KQ(n:Cx)(K:KT)(Q:Exit->Act->J->Prop):Prop:=∀d s e a,Ag n a s.E->Inv s e->K d s->Q d a e
def rT(P:aE)(n:Cx)(tb:mQ)(k:Code)(j:Exit->Act->J->Prop):Prop:=∀e d,tb.pt e=some d->∀s h a,Ag n a s.E->Inv s h->d s->rr P n (fO P n k j e) a h
variable {c0:Code} {Q0:Exit->Act->J->Prop}
def v5(y:rT P n tb c0 Q0){d:List Bool}{c:Code}{Q:Exit->Act->J->Prop}(A:fO P n c0 Q0 d=(c,Q)){f:TS->Prop}{s:TS}{w:J}{a:Act}(z:Ag n a s.E)(j:Inv s w)(B:f s->fx P n c Q a w)(h:pc tb d f s):fx P n c Q a w:=by
 unfold pc at h;split at h
 .rename_i e x;obtain⟨k,q⟩:=j.fG h;have:=y d e x ⟨s.E,s.S,s.L,w,false⟩ w a z k q;rw[A]at this;exact this.wp
 grind
def Pn{c:Code}{K:TS->Prop}{Q:Exit->Act->J->Prop}{a:Act}{w:J}(h:fx P n c (hd n K) a w)(k:∀s w a,Ag n a s.E->Inv s w->K s->Q .normal a w):fx P n c Q a w:=
 wpIn_mono h λe j q d=>by
  cases e with
  |normal=>obtain⟨s',hA,hI,hK⟩:=d;grind
  |_=>exact d.elim
def nR(y:rT P n tb c0 Q0):∀(c:Code) (h:List Bool) (K:KT) (Q:Exit->Act->J->Prop) (s:TS) (w:J) (a:Act),fO P n c0 Q0 h=(c,Q)->KQ n K Q->Ag n a s.E->Inv s w->ia P n tb c h K s->fx P n c Q a w
 |.skip,h,K,Q,s,w,a,q,k,e,j,d=>wpIn_skip (k _ _ _ _ e j d)
 |.region id ops true,h,K,Q,s,w,a,q,k,e,j,d=>by
  unfold ia at d;split at d
  .obtain ⟨D,F⟩:=dK d;exact Pn (Zn (c:=.region id ops true) D e j F) λs w a D F M=>k _ _ _ _ D F M
  grind
 |.region id ops false,h,K,Q,s,w,a,q,k,e,j,d=>by unfold ia at d;obtain⟨D,F⟩:=dK d;exact Pn (Zo (c:=.region id ops false) D e j F) λs w a D F M=>k _ _ _ _ D F M
 |.seq z I,h,K,Q,s,w,a,q,k,e,j,d=>by
  unfold ia at d;have H:fO P n c0 Q0 (false::h)=(z,Exit.then (fx P n I Q) Q):=by unfold fO;rw[q]
  have L:fO P n c0 Q0 (true::h)=(I,Q):=by unfold fO;rw[q]
  refine wpIn_seq (nR y z (false::h) _ _ s w a H (λx O S N G B A=>?_) e j d);cases x with
  |normal=>exact v5 y L G B (λC=>nR y I (true::h) K Q O S N L k G B C) A
  |_=>exact k _ _ _ _ G B A
 |.cond o z I,h,K,Q,s,w,a,q,k,e,j,d=>by
  unfold ia at d;have H:fO P n c0 Q0 (false::h)=(z,Q):=by unfold fO;rw[q]
  have L:fO P n c0 Q0 (true::h)=(I,Q):=by unfold fO;rw[q]
  unfold gB at d;split at d
  .rename_i t T;refine wpIn_cond_split (e.val T) (λx=>?_) (λx=>?_)
   .subst x;exact v5 y H e j (λC=>nR y z (false::h) K Q s w a H k e j C) d
   .subst x;exact v5 y L e j (λC=>nR y I (true::h) K Q s w a L k e j C) d
  grind
 |.block id z,h,K,Q,s,w,a,q,k,e,j,d=>by
  unfold ia at d;have H:fO P n c0 Q0 (false::h)=(z,Exit.inBlock id Q):=by unfold fO;rw[q]
  refine wpIn_block (nR y z (false::h) _ _ s w a H (λx O S N G B A=>?_) e j d);cases x with
  |exit U=>
   simp only[xx]at A;simp only[Exit.inBlock];split at A
   .rename_i x;rw[aq x];exact k _ _ _ _ G B A
   .rename_i x;rw[af x];exact k _ _ _ _ G B A
  |_=>exact k _ _ _ _ G B A
 |.loop z,h,K,Q,s,w,a,q,k,e,j,d=>by unfold ia at d;exact v5 y q e j (λC=>C.elim) d
 |.exit id,h,K,Q,s,w,a,q,k,e,j,d=>wpIn_exit (k _ _ _ _ e j d)
 |.ret,h,K,Q,s,w,a,q,k,e,j,d=>wpIn_ret (k _ _ _ _ e j d)
 |.rangeFunc ..,_,_,_,_,_,_,_,_,_,_,d=>d.elim
 |.scope _,_,_,_,_,_,_,_,_,_,_,d=>d.elim
 |.label _,_,_,_,_,_,_,_,_,_,_,d=>d.elim
 |.goto _,_,_,_,_,_,_,_,_,_,_,d=>d.elim
 |.refuse _,_,_,_,_,_,_,_,_,_,_,d=>d.elim
def yp(tb:mQ)(e:List Bool)(K:KT):KT:=λd s=>match d with
 |.normal=>pc tb e (λ_=>False) s
 |d=>K d s
def n2(P:aE)(n:Cx)(tb:mQ)(c0:Code)(k:KT):List Bool->Code×KT
 |[]=>(c0,k)
 |b::j=>match n2 P n tb c0 k j,b with
  |(.seq e h,d),false=>(e,PQ tb (true::j) (ia P n tb h (true::j) d) d)
  |(.seq _ h,d),true=>(h,d)
  |(.cond _ e _,d),false=>(e,d)
  |(.cond _ _ h,d),true=>(h,d)
  |(.block id e,d),_=>(e,xx id d)
  |(.loop e,d),_=>(e,yp tb j d)
  |(_,d),_=>(.skip,d)
def Cv(A:rT P n tb c0 Q0){y:KT}(G:KQ n y Q0):∀e:List Bool,(n2 P n tb c0 y e).1=(fO P n c0 Q0 e).1/\KQ n (n2 P n tb c0 y e).2 (fO P n c0 Q0 e).2
 |[]=>⟨rfl,G⟩
 |b::e=>by
  obtain⟨z,j⟩:=Cv A G e;unfold n2 fO;generalize H:fO P n c0 Q0 e=p at z j;generalize n2 P n tb c0 y e=k at z j;obtain⟨c,F⟩:=p;obtain⟨O,N⟩:=k;simp only at z j;subst z;cases O with
  |seq C D=>
   cases b with
   |false=>
    refine⟨rfl,λw s x a q h d=>?_⟩;cases w with
    |normal=>
     have I:fO P n c0 Q0 (true::e)=(D,F):=by unfold fO;rw[H]
     exact v5 A I q h (λB=>nR A D (true::e) N F s x a I j q h B) d
    |_=>exact j _ _ _ _ q h d
   |true=>grind
  |cond o C D=>grind
  |block id C=>
   cases b<;>(
    refine⟨rfl,λw s x a q h d=>?_⟩;cases w with
    |exit T=>
     simp only[xx]at d;simp only[Exit.inBlock];split at d
     .rename_i w;rw[aq w];exact j _ _ _ _ q h d
     .rename_i w;rw[af w];exact j _ _ _ _ q h d
    |_=>exact j _ _ _ _ q h d)
  |loop C=>
   cases b<;>(
    refine⟨rfl,λw s x a q h d=>?_⟩;cases w with
    |normal=>
     simp only[yp,pc]at d;split at d
     .rename_i K Q;obtain⟨M,B⟩:=h.fG d;have:=A e K Q ⟨s.E,s.S,s.L,x,false⟩ x a q M B;rw[H]at this;exact this
     grind
    |_=>exact j _ _ _ _ q h d)
  |_=>cases b<;>exact⟨rfl,j⟩
def By(P:aE)(n:Cx)(tb:mQ)(c0:Code)(h:KT)(d:List Bool)(s:TS):Prop:=match n2 P n tb c0 h d with
 |(.loop j,e)=>ia P n tb j (false::d) (yp tb d e) s
 |(c,e)=>ia P n tb c d e s
def UW(x:rT P n tb c0 Q0){e:KT}(C:KQ n e Q0){d:List Bool}{s:TS}{w:J}{a:Act}(F:Ag n a s.E)(A:Inv s w)(h:By P n tb c0 e d s):rr P n (fO P n c0 Q0 d) a w:=by
 obtain⟨j,q⟩:=Cv x C d;have D:=Cv x C (false::d);unfold By at h;generalize G:fO P n c0 Q0 d=p at j q;generalize K:n2 P n tb c0 e d=k at h j q;obtain⟨c,z⟩:=p;obtain⟨I,B⟩:=k;simp only at j q;subst j;cases I with
 |loop y=>
  have H:fO P n c0 Q0 (false::d)=(y,Exit.then (l1 P n y z) z):=by unfold fO;rw[G]
  have L:n2 P n tb c0 e (false::d)=(y,yp tb d B):=by unfold n2;rw[K]
  rw[H,L]at D;exact J0 (nR x y (false::d) _ _ s w a H D.2 F A h)
 |_=>exact nR x _ d B z s w a G q F A h
end
section
variable {P:aE}
def oi(P:aE)(s:TS):List ResultVar->(List aa->Prop)->Prop
 |[],d=>d []
 |.tmp t::l,d=>match s.E.get? t with
  |some v=>oi P s l λe=>d (v::e)
  |none=>False
 |.cell j h::l,d=>match s.S.get? j with
  |some (i,k)=>match s.L[i]? with
   |some X=>Cy P h X.2.1 k λv=>oi P s l λe=>d (v::e)
   |none=>False
  |none=>match s.E.get? j with
   |some (.pointer (some p))=>mj P h p s.w λv _=>oi P s l λe=>d (v::e)
   |_=>False
def tu(P:aE)(fn:Func)(R:aH):KT:=λd s=>match d with
 |.normal|.ret=>fG s λs=>oi P s fn.results.toList λe=>R (ae (DP e)) s.w
 |_=>False
def Em{n:Cx}{a:Act}{s:TS}{w:J}(q:Ag n a s.E)(k:Inv s w)(B:s.w=w):∀{l:List ResultVar} {K:List aa->Prop},oi P s l K->
  ∃e,(l.mapM (pq a.tmps)).run P w=.ok e w/\K e
 |[],K,d=>⟨[],by simp,d⟩
 |.tmp t::l,K,d=>by
  unfold oi at d;split at d
  .rename_i v j;obtain⟨e,A,h⟩:=Em q k B d;refine⟨v::e,?_,h⟩;have y:=q.get t v j;simp[List.mapM_cons,pq,A,y]
  grind
 |.cell x C::l,K,d=>by
  have fin:∀(p:Addr) (v:aa),s.E.get? x=some (.pointer (some p))->(loadVar C p).run P w=.ok v w->(oi P s l λe=>K (v::e))->∃e,((ResultVar.cell x C::l).mapM (pq a.tmps)).run P w=.ok e w/\K e:=λp v z j d=>by obtain⟨e,A,h⟩:=Em q k B d;refine⟨v::e,?_,h⟩;have y:=q.get x _ z;simp[List.mapM_cons,pq,A,y,asAddr,j]
  unfold oi at d;split at d
  .rename_i i L I;obtain⟨X,D,F⟩:=k.sl x i L I;rw[D]at d;obtain⟨v,h,j⟩:=JI (b:=X.1) (ty:=X.2.2) d;exact fin _ v F (j w (k.lc.own i X D)) h
  .split at d
   .rename_i p z;rw[B]at d;obtain⟨v,M,d,G,H⟩:=Cz d;exact fin p v z (H w G) d
   grind
def Pt{m:Nat}{fn:Func}{R:aH}:KQ (cx m) (tu P fn R) (bodyPost P fn R):=by
 intro x s h a j k d;have go:(fG s λs=>oi P s fn.results.toList λe=>R (ae (DP e)) s.w)->a.defers=[]/\∃v,(results fn a.tmps).run P h=.ok v h/\R (ae v) h:=λd=>by
  obtain⟨q,y⟩:=k.fG d;obtain⟨e,A,z⟩:=Em (s:=⟨s.E,s.S,s.L,h,false⟩) j q rfl y;refine⟨j.defers,_,?_,z⟩;rw[Pr,<-Array.toArray_toList (xs:=fn.results),List.mapM_toArray];simp only[Sem.run_bind,Sem.run_map,A,Result.andThen_ok,Sem.run_pure];congr 1;cases e with
  |nil=>rfl
  |cons v e=>cases e<;>rfl
 unfold tu at d;cases x with
 |normal=>exact go d
 |ret=>exact go d
 |_=>exact d.elim
def UH{f:cB}{fn:Func}{c:Code}{args:List aa}{w:J}{R:aH}{d:mQ}(q:P.funcs[f]? =some fn)(k:fn.body=some c)(x:Nat.ble args.length fn.ntmps=true)(e:rT P (cx fn.ntmps) d c (bodyPost P fn R))(h:ia P (cx fn.ntmps) d c [] (tu P fn R) ⟨j0 0 args,[],[],w,false⟩):ai P f args.toArray w R:=
 uQ q k x λa j=>nR e c [] _ _ _ w a rfl Pt j ⟨LC.nil _,by simp,λt i y h=>by cases h⟩ h
end
inductive Sh
 |i (k:hC)|b|st|s|p|r|m|v|f
abbrev Sh.T:Sh->Type
 |.i _=>Int
 |.b=>Bool
 |.st=>ByteArray
 |.s=>Sl
 |.p=>Option Addr
 |.r=>Addr
 |.m=>Option Nat
 |.v=>aa
 |.f=>Fv
def Sh.val:(h:Sh)->h.T->aa
 |.i e,d=>.int e d
 |.b,d=>.bool d
 |.st,d=>.string d
 |.s,d=>Sl.v d
 |.p,d=>.pointer d
 |.r,d=>.pointer (some d)
 |.m,d=>.map d
 |.v,d=>d
 |.f,d=>Fv.v d
def Sh.rd(h:Sh)(v:aa)(K:h.T->Prop):Prop:=match h,v,K with
 |.i k,.int q d,K=>cF (q==k) (K d)
 |.b,.bool d,K=>K d
 |.st,.string d,K=>K d
 |.s,.slice a n c,K=>K ⟨a,n,c⟩
 |.p,.pointer d,K=>K d
 |.r,.pointer (some d),K=>K d
 |.m,.map d,K=>K d
 |.v,d,K=>K d
 |.f,.func (.func n) e j,K=>K ⟨n,e,j⟩
 |_,_,_=>False
def Sh.Zk{h:Sh}{v:aa}{K:h.T->Prop}(d:h.rd v K):∃e,v=h.val e/\K e:=by
 unfold Sh.rd at d;split at d<;>first |exact d.elim|skip
 .obtain ⟨j,k⟩:=dK d;have:=eq_of_beq j;subst this;exact⟨_,rfl,k⟩
 all_goals exact⟨_,rfl,d⟩
inductive Tk
 |o (h:Sh)|a (k:Nat)|t (k:Nat)|g (n j k:Nat)
abbrev Tk.I:Tk:=.o (.i .i64)
abbrev Tk.U:Tk:=.o (.i .u64)
abbrev Tk.Y:Tk:=.o (.i .u8)
abbrev Tk.i(k:hC):Tk:=.o (.i k)
abbrev Tk.b:Tk:=.o .b
abbrev Tk.st:Tk:=.o .st
abbrev Tk.s:Tk:=.o .s
abbrev Tk.p:Tk:=.o .p
abbrev Tk.r:Tk:=.o .r
abbrev Tk.m:Tk:=.o .m
abbrev Tk.v:Tk:=.o .v
abbrev Tk.f:Tk:=.o .f
abbrev k8:List Tk->Type->Type
 |[],X=>X
 |.o d::l,X=>d.T->k8 l X
 |.a _::l,X=>k8 l X
 |.t _::l,X=>k8 l X
 |.g _ _ _::l,X=>k8 l X
inductive Sp
 |v (l:List Tk)
 |l (l:List Tk) (T:aC)
abbrev gx:List (Nat×Sp)->Type
 |[]=>J->aH->Prop
 |(_,.v d)::l=>k8 d (gx l)
 |(_,.l d _)::l=>Nat->k8 d (gx l)
def nn:(O:List Tk)->(X:Type)->List aa->k8 O X->(X->Prop)->Prop
 |[],_,[],d,e=>e d
 |.o w::O,X,v::h,d,e=>w.rd v λy=>nn O X h (d y) e
 |.a j::O,X,.agg a::h,d,e=>cF (bO a.toList.length j) (nn O X (a.toList++h) d e)
 |.t j::O,X,.tuple a::h,d,e=>cF (bO a.toList.length j) (nn O X (a.toList++h) d e)
 |.g n x j::O,X,.func (.func m) k q::h,d,e=>cF (bO n m&&bO k.toList.length x&&bO q.toList.length j) (nn O X (k.toList++(q.toList++h)) d e)
 |_,_,_,_,_=>False
def n4:(O:List Tk)->(X:Type)->(List aa->X)->k8 O X
 |[],_,e=>e []
 |.o k::O,X,e=>λq=>n4 O X λd=>e (k.val q::d)
 |.a h::O,X,e=>n4 O X λd=>e (.agg (d.take h).toArray::d.drop h)
 |.t h::O,X,e=>n4 O X λd=>e (.tuple (d.take h).toArray::d.drop h)
 |.g n j h::O,X,e=>n4 O X λd=>e (.func (.func n) (d.take j).toArray ((d.drop j).take h).toArray::(d.drop j).drop h)
def OX:∀{O:List Tk} {X:Type} {vs:List aa} {K:List aa->X} {j:X->Prop},nn O X vs (n4 O X K) j->j (K vs):=by
 intro O;induction O with
 |nil=>
  intro X vs K j d;cases vs with
  |nil=>exact d
  |cons _ _=>exact d.elim
 |cons t O q=>
  intro X vs K j d;cases t with
  |o C=>
   cases vs with
   |nil=>exact d.elim
   |cons v vs=>
    obtain⟨F,rfl,D⟩:=Sh.Zk d;exact q (K:=λvs=>K (C.val F::vs)) D
  |a e=>
   cases vs with
   |nil=>exact d.elim
   |cons v vs=>
    cases v with
    |agg a=>
     obtain⟨h,k⟩:=dK (show cF (bO a.toList.length e) (nn O X (a.toList++vs) _ j)from d);rw[ep]at h;have:=q (K:=λvs=>K (.agg (vs.take e).toArray::vs.drop e)) k;rw[List.take_left' h,List.drop_left' h]at this;omega
    |_=>exact d.elim
  |t e=>
   cases vs with
   |nil=>exact d.elim
   |cons v vs=>
    cases v with
    |tuple a=>
     obtain⟨h,k⟩:=dK (show cF (bO a.toList.length e) (nn O X (a.toList++vs) _ j)from d);rw[ep]at h;have:=q (K:=λvs=>K (.tuple (vs.take e).toArray::vs.drop e)) k;rw[List.take_left' h,List.drop_left' h]at this;omega
    |_=>exact d.elim
  |g n w e=>
   cases vs with
   |nil=>exact d.elim
   |cons v vs=>
    cases v with
    |func B x y=>
     cases B with
     |func m=>
      obtain⟨h,k⟩:=dK (show cF (bO n m&&bO x.toList.length w&&bO y.toList.length e) (nn O X (x.toList++(y.toList++vs)) _ j)from d);rw[bq,bq,ep,ep,ep]at h;obtain⟨⟨E,z⟩,A⟩:=h;have:=q (K:=λvs=>K (.func (.func n) (vs.take w).toArray ((vs.drop w).take e).toArray::(vs.drop w).drop e)) k;rw[List.take_left' z,List.drop_left' z,List.take_left' A,List.drop_left' A,E]at this;omega
     |_=>exact d.elim
    |_=>exact d.elim
def iM:(l:List (Nat×Sp))->Nat->(Env->Sv->Lv->J->aH->Prop)->gx l
 |[],_,d=>d [] [] []
 |(t,.v k)::l,n,d=>n4 k (gx l) λq=>iM l n λe j h=>d ((t,q.headD undef)::e) j h
 |(t,.l k w)::l,n,d=>λb=>n4 k (gx l) λq=>iM l (n+1) λe j h=>d ((t,.pointer (some (ab b)))::e) ((t,some (n,0))::j) ((b,q,w)::h)
def pg:(l:List (Nat×Sp))->gx l->TS->List Nat->J->aH->Prop
 |[],d,_,_,h,e=>d h e
 |(t,.v k)::l,d,s,is,h,e=>match s.E.get? t with
  |some v=>nn k (gx l) [v] d λj=>pg l j s is h e
  |none=>False
 |(t,.l k q)::l,d,s,is,h,e=>match s.S.get? t with
  |some (i,0)=>match s.L[i]? with
   |some X=>cF (bO X.2.2 q&&!is.any (bO i)) (nn k (gx l) X.2.1 (d X.1) λj=>pg l j s (i::is) h e)
   |none=>False
  |_=>False
def IX{E E':Env}{t:Nat}{v:aa}(q:E'.get? t=some v)(h:∀t v,E.get? t=some v->E'.get? t=some v):∀d e,Env.get? ((t,v)::E) d=some e->E'.get? d=some e:=λd e k=>by
 simp only[Env.get?]at k;cases j:bO t d with
 |true=>
  rw[j,cond_true]at k;rw[ep]at j
  grind
 |false=>
  grind
structure AG(s:TS)(n:Nat)(is js:List Nat)(E:Env)(S:Sv):Prop where
 sub:∀t v,E.get? t=some v->s.E.get? t=some v
 nd:js.Nodup
 dj:∀j∈js,j∉is
 lt:∀j∈js,∃X,s.L[j]? =some X
 sl:∀t i k,S.get? t=some (i,k)->n<=i/\∃j,js[i - n]? =some j/\s.S.get? t=some (j,k)/\∃v,E.get? t=some v
def Zd{s:TS}{w:J}(Q:Inv s w){R:aH}:∀{l:List (Nat×Sp)} {n:Nat} {K:Env->Sv->Lv->J->aH->Prop} {is:List Nat},pg l (iM l n K) s is w R->
  ∃h j y,AG s n is y h j/\K h j (y.filterMap λk=>(s.L[k]? :Option (Nat×List aa×aC))) w R:=by
 intro l;induction l with
 |nil=>
  intro n K is d;exact⟨[],[],[],⟨λt v d=>by(simp[Env.get?]at d),.nil,λ_ d=>by grind,λ_ d=>by grind,λt i C d=>by(cases d)⟩,d⟩
 |cons p l O=>
  intro n K is d;obtain⟨t,sp⟩:=p;cases sp with
  |v ts=>
   unfold pg at d;split at d
   .rename_i v hv;have F:=OX (K:=λH=>iM l n λh j E=>K ((t,H.headD undef)::h) j E) d;obtain⟨h,j,y,e,N⟩:=O F;refine⟨(t,v)::h,j,y,⟨IX hv e.sub,e.nd,e.dj,e.lt,λD i C x=>?_⟩,N⟩;obtain⟨B,k,G,V,P,h4⟩:=e.sl D i C x;refine⟨B,k,G,V,?_⟩;simp only[Env.get?]
    grind
   grind
  |l ts S=>
   unfold pg at d;split at d
   .rename_i i M;split at d
    .rename_i X W;obtain⟨B,G⟩:=dK d;rw[bq,ep,Bool.not_eq_true',List.any_eq_false]at B;have F:=OX (K:=λH=>iM l (n+1) λh j E=>K ((t,.pointer (some (ab X.1)))::h) ((t,some (n,0))::j) ((X.1,H,S)::E)) G;obtain⟨h,j,y,e,N⟩:=O F;obtain⟨X',I,Z⟩:=Q.sl t i 0 M;rw[W]at I;cases I;refine⟨(t,.pointer (some (ab X.1)))::h,(t,some (n,0))::j,i::y,⟨IX ?_ e.sub,List.nodup_cons.2 ⟨λA=>e.dj i A (by simp),e.nd⟩,λk q=>?_,λk q=>?_,λD i' C x=>?_⟩,?_⟩
     .rw [Z,iW]
     .rcases au.1 q with rfl|q
      .intro A;have:=B.2 k A;simp at this
      .exact λA=>e.dj k q (e8 _ A)
     .rcases au.1 q with rfl|q
      .grind
      .exact e.lt k q
     .simp only[Sv.get?]at x;cases z:bO t D with
      |true=>
       rw[z,cond_true]at x;rw[ep]at z;subst z;cases x;refine⟨Nat.le_refl _,i,by simp,M,.pointer (some (ab X.1)),?_⟩;simp[Env.get?]
      |false=>
       rw[z,cond_false]at x;obtain⟨g1,k,g2,T,P,U⟩:=e.sl D i' C x;refine⟨by omega,k,?_,T,P,?_⟩
       .grind
       .simp only[Env.get?,z,cond_false];exact U
     grind
    grind
   grind
def AG.inv{s:TS}{w:J}(j:Inv s w){d:List Nat}{E:Env}{S:Sv}(h:AG s 0 [] d E S):Inv ⟨E,S,d.filterMap λe=>(s.L[e]? :Option (Nat×List aa×aC)),w,false⟩ w:=by
 refine⟨j.lc.pick d h.nd,by simp,λt i q A=>?_⟩;obtain⟨-,e,C,x,v,k⟩:=h.sl t i q A;obtain⟨X,D,z⟩:=j.sl t e q x;have:=h.sub t v k;rw[z]at this;cases this;refine⟨X,?_,k⟩;have all:∀(d:List Nat) (i:Nat),(∀e∈d,∃X,s.L[e]? =some X)->d[i]? =some e->(d.filterMap λe=>(s.L[e]? :Option (Nat×List aa×aC)))[i]? =some X:=by
  intro d;induction d with
  |nil=>grind
  |cons a d H=>
   intro i y G;obtain⟨B,F⟩:=y a (by simp)
   grind
 exact all d i h.lt (by omega)
def pR:(O:List Tk)->(X:Type)->(X->X->Prop)->k8 O X->k8 O X->Prop
 |[],_,r,d,e=>r d e
 |.o j::O,X,r,d,e=>∀h:j.T,pR O X r (d h) (e h)
 |.a _::O,X,r,d,e=>pR O X r d e
 |.t _::O,X,r,d,e=>pR O X r d e
 |.g _ _ _::O,X,r,d,e=>pR O X r d e
def uk:(l:List (Nat×Sp))->gx l->gx l->Prop
 |[],d,e=>∀(w:J) (R:aH),d w R->e w R
 |(_,.v h)::l,d,e=>pR h (gx l) (uk l) d e
 |(_,.l h _)::l,d,e=>∀b:Nat,pR h (gx l) (uk l) (d b) (e b)
def I':∀{O:List Tk} {X:Type} {r:X->X->Prop} {h j:List aa->X},(∀e,r (h e) (j e))->pR O X r (n4 O X h) (n4 O X j):=by
 intro O;induction O with
 |nil=>intro X r h j d;exact d []
 |cons t O k=>
  intro X r h j d;cases t with
  |o w=>intro x;exact k λe=>d _
  |a q=>exact k λe=>d _
  |t q=>exact k λe=>d _
  |g n y q=>exact k λe=>d _
def Wo:∀{l:List (Nat×Sp)} {n:Nat} {j k:Env->Sv->Lv->J->aH->Prop},(∀h w q e d,j h w q e d->k h w q e d)->uk l (iM l n j) (iM l n k):=by
 intro l;induction l with
 |nil=>intro n j k x e d;exact x _ _ _ e d
 |cons p l y=>
  intro n j k x;obtain⟨t,z⟩:=p;cases z with
  |v A=>exact I' λB=>y λh w q e d=>x _ _ _ e d
  |l A C=>intro b;exact I' λB=>y λh w q e d=>x _ _ _ e d
structure Fx where
 P:aE
 fn:Func
 ord:List (Nat×Tr)
 lv:List Nat
def Fx.c(X:Fx):Code:=X.fn.body.getD .skip
def Fx.n(X:Fx):Cx:=cx X.fn.ntmps
def CD:List (Nat×Tr)->Nat->Option Tr
 |[],_=>none
 |(i,l)::o,d=>bif bO i d then some l else CD o d
def Fx.at(X:Fx)(d:List Bool)(R:aH)(a:Act)(w:J):Prop:=rr X.P X.n (fO X.P X.n X.c (bodyPost X.P X.fn R) d) a w
def Fx.Sem(X:Fx)(d:List Bool)(E:Env)(S:Sv)(L:Lv)(w:J)(R:aH):Prop:=∀a,Ag X.n a E->Inv ⟨E,S,L,w,false⟩ w->X.at d R a w
structure fY(X:Fx) where
 q:List Bool
 sp:List (Nat×Sp)
 F:gx sp
 ok:∀(R:aH) (s:TS) (w:J) (a:Act),Ag X.n a s.E->Inv s w->pg sp F s [] w R->X.at q R a w
def r1:List Bool->List Bool->Bool
 |[],[]=>true
 |a::l,b::m=>(match a,b with |true,true=>true|false,false=>true|_,_=>false)&&r1 l m
 |_,_=>false
def Gp:∀{l m:List Bool},r1 l m=true->l=m
 |[],[],_=>rfl
 |a::l,b::m,d=>by
  unfold r1 at d;rw[bq]at d;rw[Gp d.2]
  grind
 |[],_::_,d=>by cases d
 |_::_,[],d=>by cases d
def yn{X:Fx}(R:aH):List (fY X)->List Bool->Option (TS->Prop)
 |[],_=>none
 |e::j,h=>bif r1 e.q h then some λs=>match s.d with
  |true=>False
  |false=>pg e.sp e.F s [] s.w R else yn R j h
def Fx.zB(X:Fx)(es:List (fY X))(R:aH):mQ:=⟨CD X.ord,yn R es,X.lv⟩
def Fx.QO{X:Fx}{es:List (fY X)}{R:aH}:rT X.P X.n (X.zB es R) X.c (bodyPost X.P X.fn R):=by
 intro A C x s B a D j h;have e:yn R es A=some C:=x;clear x;induction es with
 |nil=>cases e
 |cons k es G=>
  unfold yn at e;cases y:r1 k.q A with
  |true=>
   rw[y,cond_true]at e;cases e;have:=Gp y;subst this;cases z:s.d with
   |true=>grind
   |false=>
    rw[z]at h;have E:=j.rel;rw[z]at E;have F:B=s.w:=by grind
    rw[<-F]at h;exact k.ok R s B a D j h
  |false=>
   grind
def Fx.ue(X:Fx)(es:List (fY X))(d:List Bool)(E:Env)(S:Sv)(L:Lv)(w:J)(R:aH):Prop:=By X.P X.n (X.zB es R) X.c (tu X.P X.fn R) d ⟨E,S,L,w,false⟩
def Fx.Ht{X:Fx}{es:List (fY X)}{d:List Bool}{E:Env}{S:Sv}{L:Lv}{w:J}{R:aH}(h:X.ue es d E S L w R):X.Sem d E S L w R:=λa j e=>UW (s:=⟨E,S,L,w,false⟩) (Fx.QO (es:=es)) Pt j e h
def HP{X:Fx}{y:List Bool}{z:List (Nat×Sp)}{K:Env->Sv->Lv->J->aH->Prop}(B:∀d e q w R,K d e q w R->X.Sem y d e q w R)(R:aH)(s:TS)(w:J)(a:Act)(j:Ag X.n a s.E)(k:Inv s w)(h:pg z (iM z 0 K) s [] w R):X.at y R a w:=by obtain⟨d,e,D,x,A⟩:=Zd k h;exact B _ _ _ _ _ A a ⟨j.defers,j.size,λt v C=>j.get t v (x.sub t v C)⟩ (x.inv k)
def Vo(X:Fx)(j:List Bool)(h:List (Nat×Sp))(F:gx h)(e:F=iM h 0 (X.Sem j):=by kernel_rfl):fY X:=⟨j,h,F,λq s x a w k d=>by subst e;exact HP (λ_ _ _ _ _ d=>d) q s x a w k d⟩
def Vp(X:Fx)(es:List (fY X))(j:List Bool)(h:List (Nat×Sp))(F:gx h)(e:F=iM h 0 (X.ue es j):=by kernel_rfl):fY X:=⟨j,h,F,λq s x a w k d=>by subst e;exact HP (λ_ _ _ _ _ d=>Fx.Ht d) q s x a w k d⟩
def aaw{X:Fx}(es:List (fY X))(e:List Bool)(d:List (Nat×Sp)):uk d (iM d 0 (X.ue es e)) (iM d 0 (X.Sem e)):=Wo λ_ _ _ _ _ h=>Fx.Ht h
def UE(X:Fx)(es:List (fY X)){f:cB}{args:List aa}{w:J}{R:aH}{T:Prop}(h:T)(j:X.P.funcs[f]? =some X.fn:=by kernel_rfl)(d:X.fn.body=some X.c:=by kernel_rfl)(k:Nat.ble args.length X.fn.ntmps=true:=by kernel_rfl)(e:T=ia X.P X.n (X.zB es R) X.c [] (tu X.P X.fn R) ⟨j0 0 args,[],[],w,false⟩:=by kernel_rfl):ai X.P f args.toArray w R:=
 UH j d k Fx.QO (e▸h)
def Of:Bool->List Nat->List Bool
 |_,[]=>[]
 |b,n::l=>List.replicate n b++Of (!b) l
abbrev nk(l:List Nat):List Bool:=Of true l
abbrev Ps:=List (Nat×Sp)
abbrev ls(l:List Nat):Tr:=Tr.sq l .nil
set_option maxRecDepth 100000
open Go
inductive Oc:Type 1
 |leaf (p:Prop)
 |ex (α:Type) (K:α->Oc)
 |and (p:Prop) (K:Oc)
 |at (b:Bool) (K:Oc)
 |bh (t:Bool) (a b:Oc)
 |nw (U:List Nat) (w:J) (K:Nat->J->Oc)
 |al (w:J) (o:Obj) (K:J->Oc)
 |st (w:J) (p:Addr) (v:aa) (K:J->Oc)
 |lc (U:List Nat) (w:J) (K:J->Oc)
 |dr (w:J) (K:J->Oc)
 |cf (U:List Nat) (P:aE) (f:cB) (xs:Array aa) (w:J) (K:ch->J->Oc)
 |ca (P:aE) (f:cB) (xs:Array aa) (w:J) (K:ch->J->Oc)
 |op (q:Option Addr) (K:Addr->Oc)
 |or (a b:Oc)
 |cj (a b:Oc)
 |all (α:Type) (K:α->Oc)
 |im (K:Oc) (p:Prop)
inductive Nf:Oc->Prop->Prop
 |leaf {p}:Nf (.leaf p) p
 |ex {α K} {Q:α->Prop} (h:∀x,Nf (K x) (Q x)):Nf (.ex α K) (∃x,Q x)
 |and {p K Q} (h:Nf K Q):Nf (.and p K) (p/\Q)
 |at {b K Q} (h:Nf K Q):Nf (.at b K) (cF b Q)
 |bh {t a b A B} (h1:Nf a A) (h2:Nf b B):Nf (.bh t a b) (bh t A B)
 |nw {U w K} {Q:Nat->J->Prop} (h:∀b w1,Nf (K b w1) (Q b w1)):Nf (.nw U w K) (vT U w λb w1=>Q b w1)
 |al {w o K} {Q:J->Prop} (h:∀w1,Nf (K w1) (Q w1)):Nf (.al w o K) (c9 w o λw1=>Q w1)
 |st {w p v K} {Q:J->Prop} (h:∀w1,Nf (K w1) (Q w1)):Nf (.st w p v K) (aP w p v λw1=>Q w1)
 |lc {U w K} {Q:J->Prop} (h:∀w1,Nf (K w1) (Q w1)):Nf (.lc U w K) (loc U w λw1=>Q w1)
 |dr {w K} {Q:J->Prop} (h:∀w1,Nf (K w1) (Q w1)):Nf (.dr w K) (lr w λw1=>Q w1)
 |cf {U P f xs w K} {Q:ch->J->Prop} (h:∀r w1,Nf (K r w1) (Q r w1)):Nf (.cf U P f xs w K) (ee U P f xs w λr w1=>Q r w1)
 |ca {P f xs w K} {Q:ch->J->Prop} (h:∀r w1,Nf (K r w1) (Q r w1)):Nf (.ca P f xs w K) (ai P f xs w λr w1=>Q r w1)
 |op {q K} {Q:Addr->Prop} (h:∀p,Nf (K p) (Q p)):Nf (.op q K) (dM q λp=>Q p)
 |or {a b A B} (h1:Nf a A) (h2:Nf b B):Nf (.or a b) (A\/B)
 |cj {a b A B} (h1:Nf a A) (h2:Nf b B):Nf (.cj a b) (A/\B)
 |all {α K} {Q:α->Prop} (h:∀x,Nf (K x) (Q x)):Nf (.all α K) (∀x,Q x)
 |im {K Q p} (h:Nf K Q):Nf (.im K p) (Q->p)
inductive DV
 |i (k:hC) (x:Int)|kb (x:Bool)|b (x:Bool)|st (x:ByteArray)|sl (s:Sl)|s3 (a:Option Addr) (n c:Nat)
 |p (x:Option Addr)|r (x:Addr) (l:Option (Nat×Nat))|m (x:Option Nat)|v (x:aa)|f (x:Fv)
 |a (l:List DV)|t (l:List DV)|g (n:cB) (U cs:List DV)|nf|ni|fc (t:aC) (x:DV)|u
mutual
def DV.o:DV->(aa->Oc)->Oc
 |.i x e,d=>d (.int x e)
 |.kb e,d=>d (.bool e)
 |.b e,d=>d (.bool e)
 |.st e,d=>d (.string e)
 |.sl s,d=>d s.v
 |.s3 e q w,d=>d (.slice e q w)
 |.p e,d=>d (.pointer e)
 |.r e _,d=>d (.pointer (some e))
 |.m e,d=>d (.map e)
 |.v e,d=>d e
 |.f e,d=>d e.v
 |.a l,d=>DV.os l λk=>d (.agg k.toArray)
 |.t l,d=>DV.os l λk=>d (.tuple k.toArray)
 |.g n h j,d=>DV.os h λh=>DV.os j λj=>d (.func (.func n) h.toArray j.toArray)
 |.nf,d=>d .nilFunc
 |.ni,d=>d .nilIface
 |.fc q e,d=>DV.o e λw=>d (.iface q w)
 |.u,d=>d undef
def DV.os:List DV->(List aa->Oc)->Oc
 |[],d=>d []
 |h::l,d=>DV.o h λv=>DV.os l λe=>d (v::e)
end
def sX:List aa->(List DV->Oc)->Oc
 |[],d=>d []
 |v::l,d=>sX l λh=>d ((match v with
  |.int j e=>.i j e
  |.bool true=>.kb true
  |.bool false=>.kb false
  |.string s=>.st s
  |.slice a n c=>.s3 a n c
  |.pointer (some p)=>.r p none
  |.pointer none=>.p none
  |.map e=>.m e
  |.nilFunc=>.nf
  |.nilIface=>.ni
  |v=>.v v)::h)
def yN(v:aa)(K:DV->Oc):Oc:=match v with
 |.agg d=>sX d.toList λl=>K (.a l)
 |.tuple d=>sX d.toList λl=>K (.t l)
 |.func (.func n) h d=>sX h.toList λh=>sX d.toList λd=>K (.g n h d)
 |.iface t e=>sX [e] λl=>K (.fc t (l.headD .u))
 |.int j e=>K (.i j e)
 |.bool true=>K (.kb true)
 |.bool false=>K (.kb false)
 |.string s=>K (.st s)
 |.slice a n c=>K (.s3 a n c)
 |.pointer (some p)=>K (.r p none)
 |.pointer none=>K (.p none)
 |.map e=>K (.m e)
 |.nilFunc=>K .nf
 |.nilIface=>K .ni
 |v=>K (.v v)
inductive Fc
 |c (p:Addr) (v:aa)|r (s:Sem aa) (v:aa)|n
abbrev DE:=List (Nat×DV)
abbrev DL:=List (Nat×List DV×aC)
abbrev DH:=List (Nat×Option Nat×Fc)
def r3:DL->(List Nat->Oc)->Oc
 |[],d=>d []
 |(b,_,_)::e,d=>r3 e λh=>d (b::h)
def gZ(d:Bool)(L:DL)(w:J)(K:J->Oc):Oc:=match d with
 |true=>r3 L λe=>.lc e w K
 |false=>K w
def getD:DE->Nat->(DV->Oc)->Oc
 |[],_,_=>.leaf False
 |(h,v)::e,t,d=>match bO h t with
  |true=>d v
  |false=>getD e t d
def i4{α:Type}:List α->Nat->Option α
 |[],_=>none
 |a::l,n=>match bO n 0 with
  |true=>some a
  |false=>i4 l (n - 1)
def PU{α:Type}:List α->Nat->α->List α
 |[],_,_=>[]
 |a::l,n,d=>match bO n 0 with
  |true=>d::l
  |false=>a::PU l (n - 1) d
def y3(t:Option Nat)(v:DV)(E:DE)(K:DE->Oc):Oc:=match t with
 |some t=>K ((t,v)::E)
 |none=>K E
def J7:List Nat->Nat->Bool
 |[],_=>false
 |a::l,n=>match bO a n with
  |true=>true
  |false=>J7 l n
def Jo(d:List Nat):Option Nat->Bool
 |some t=>J7 d t
 |none=>false
def dF(E:DE):Operand->(DV->Oc)->Oc
 |.tmp t,d=>getD E t d
 |.const v,d=>yN v d
 |.func f,d=>d (.g f [] [])
 |.global g,d=>d (.r ⟨g,0,none⟩ none)
def oC(E:DE):List Operand->(List DV->Oc)->Oc
 |[],d=>d []
 |h::l,d=>dF E h λv=>oC E l λe=>d (v::e)
def BW(z:aa)(K:DV->Oc):Oc:=match z with
 |.int e _=>.ex Int λd=>K (.i e d)
 |.bool _=>.ex Bool λd=>K (.b d)
 |.string _=>.ex ByteArray λd=>K (.st d)
 |.slice _ _ _=>.ex Sl λd=>K (.sl d)
 |.pointer _=>.ex (Option Addr) λd=>K (.p d)
 |.map _=>.ex (Option Nat) λd=>K (.m d)
 |_=>.ex aa λd=>K (.v d)
def BV:List aa->(List DV->Oc)->Oc
 |[],d=>d []
 |h::j,d=>BW h λv=>BV j λe=>d (v::e)
def It(z:aa)(K:DV->Oc):Oc:=match z with
 |.agg d=>BV d.toList λl=>K (.a l)
 |z=>BW z K
def Iw:List aa->(List DV->Oc)->Oc
 |[],d=>d []
 |h::j,d=>It h λv=>Iw j λe=>d (v::e)
def vp(z:aa)(K:DV->Oc):Oc:=match z with
 |.tuple d=>Iw d.toList λl=>K (.t l)
 |z=>It z K
def Ng:List Nat:=[0,1,2,3,4,5,6,7,8,9,10,11,12,13,14,15,16,17,18,19,20,21,22,23,24,25,26,27,28,29,30,31,32,33,34,35,36,37,38,39,40,41,42,43,44,45,46,47,48,49,50,51,52,53,54,55,56,57,58,59,60,61,62,63]
def IB(p:Addr):List Nat->List DV->(List Fc->Oc)->Oc
 |n::e,v::h,d=>DV.o v λj=>IB p e h λl=>d (.c (p.add n) j::l)
 |_,_,d=>d []
def zk(P:aE)(w:J)(K:Oc):List Fc->Oc
 |[]=>K
 |.c p v::l=>.and (w.cell? p=some v) (zk P w K l)
 |.r s v::l=>.and (s.run P w=.ok v w) (zk P w K l)
 |.n::l=>zk P w K l
def JX(P:aE)(T:aC)(p:Addr)(w:J)(K:DV->List Fc->Oc):Oc:=match P.info? T with
 |some ⟨_,_,_,_,_,_,_,some e,_,_⟩=>match e with
  |.agg q=>BV q.toList λj=>IB p Ng j λk=>zk P w (K (.a j) k) k
  |.nilFunc=>.ex Fv λf=>.and (w.cell? p=some f.v) (K (.f f) [.c p f.v])
  |.nilIface=>.or (.ex aC λt=>.ex aa λd=>.and (w.cell? p=some (.iface t d)) (K (.v (.iface t d)) [.c p (.iface t d)])) (.and (w.cell? p=some .nilIface) (K (.v .nilIface) [.c p .nilIface]))
  |e=>BW e λh=>DV.o h λv=>.and (w.cell? p=some v) (K h [.c p v])
 |_=>.leaf False
def lU{α:Type}:List α->Nat->Nat->List α
 |[],_,_=>[]
 |a::l,d,n=>match bO d 0 with
  |true=>match bO n 0 with
   |true=>[]
   |false=>a::lU l 0 (n - 1)
  |false=>lU l (d - 1) n
def yV:List DV->Nat->List DV->List DV
 |l,_,[]=>l
 |[],_,_=>[]
 |a::l,d,x::e=>match bO d 0 with
  |true=>x::yV l 0 e
  |false=>a::yV l (d - 1) (x::e)
def DV.cs:DV->List DV
 |.a l=>l
 |d=>[d]
def JY(P:aE)(T:aC)(cs:List DV)(j:Nat)(K:DV->Oc):Oc:=match P.info? T with
 |some ⟨_,_,n,_,_,_,_,some d,_,_⟩=>match d with
  |.agg _=>K (.a (lU cs j n))
  |_=>match i4 cs j with
   |some v=>K v
   |none=>.leaf False
 |_=>.leaf False
def k0(P:aE)(T:aC):TypeDesc:=match P.info? T with
 |some ⟨.named _ u,_,_,_,_,_,_,_,_,_⟩=>(match P.info? u with
  |some ⟨d,_,_,_,_,_,_,_,_,_⟩=>d
  |none=>.invalid)
 |some ⟨d,_,_,_,_,_,_,_,_,_⟩=>d
 |none=>.invalid
def tE(P:aE)(T:aC)(K:Nat->Oc):Oc:=match P.info? T with
 |some ⟨_,_,n,_,_,_,_,_,_,_⟩=>K n
 |none=>.leaf False
def z3(P:aE)(T:aC)(K:aa->Oc):Oc:=match P.info? T with
 |some ⟨_,_,_,_,_,_,_,some d,_,_⟩=>K d
 |_=>.leaf False
def IE(P:aE)(T:aC)(f:Nat)(K:aC->Nat->Oc):Oc:=match k0 P T with
 |.struct d=>match i4 d.toList f with
  |some ⟨_,t,off,_,_,_,_⟩=>K t off
  |none=>.leaf False
 |_=>.leaf False
def DV.ri:DV->(Int->Oc)->Oc
 |.i _ e,d=>d e
 |_,_=>.leaf False
def l9(E:DE)(x:Option Operand)(y d:Nat)(K:Nat->Oc):Oc:=match x with
 |none=>K d
 |some o=>dF E o λv=>v.ri λi=>.and (0<=i) (.and (i<=(y:Int)) (K i.toNat))
def tv(P:aE)(s:Sem aa)(z:aa)(w:J)(K:DV->List Fc->Oc):Oc:=match z with
 |.nilFunc=>.ex Fv λf=>.and (s.run P w=.ok f.v w) (K (.f f) [.r s f.v])
 |z=>vp z λd=>DV.o d λv=>.and (s.run P w=.ok v w) (K d [.r s v])
def minD(a b:Nat)(K:Nat->Oc):Oc:=match Nat.ble a b with
 |true=>K a
 |false=>K b
def Tp:hC->Nat
 |.i8|.u8=>8
 |.i16|.u16=>16
 |.i32|.u32=>32
 |_=>64
def PY(d:Bool)(k:hC)(y:Int)(K:Nat->Oc):Oc:=match d with
 |true=>match y with
  |.ofNat m=>minD (@OfNat.ofNat Nat m (instOfNatNat m)) (Tp k) K
  |.negSucc _=>.leaf False
 |false=>.and (¬y<0) (K (min y.toNat k.bits))
def UQ(op:BinOp)(a b:Int)(K:Bool->Oc):Oc:=match op with
 |.eql=>K (a==b)
 |.neq=>K (a !=b)
 |.lss=>K (ak (a<b))
 |.leq=>K (ak (a<=b))
 |.gtr=>K (ak (a>b))
 |.geq=>K (ak (a>=b))
 |_=>.leaf False
def Tn(op:BinOp)(d:Bool)(k:hC)(a b:Int)(K:DV->Oc):Oc:=match op with
 |.add=>K (.i k (k.wrap (a+b)))
 |.sub=>K (.i k (k.wrap (a - b)))
 |.mul=>K (.i k (k.wrap (a *b)))
 |.quo=>match d with
  |true=>K (.i k (k.wrap (a.tdiv b)))
  |false=>.and (b≠0) (K (.i k (k.wrap (a.tdiv b))))
 |.rem=>match d with
  |true=>K (.i k (a.tmod b))
  |false=>.and (b≠0) (K (.i k (a.tmod b)))
 |.and=>K (.i k (lj k a b))
 |.or=>K (.i k (qe k a b))
 |.xor=>K (.i k (mR k a b))
 |.andNot=>K (.i k (SZ k a b))
 |.shl=>PY d k b λn=>K (.i k (k.wrap (a *2^n)))
 |.shr=>PY d k b λn=>K (.i k (a.fdiv (2^n)))
 |op=>UQ op a b λt=>K (.b t)
def To(op:BinOp)(a b:ByteArray)(K:DV->Oc):Oc:=match op with
 |.add=>.and (¬(((a.size+b.size:Nat):Int)>IntKind.i64.max)) (K (.st (a++b)))
 |.eql=>K (.b (a.toList==b.toList))
 |.neq=>K (.b (!(a.toList==b.toList)))
 |.lss=>K (.b (Op.bytesLess a.toList b.toList))
 |.leq=>K (.b (Op.bytesLess a.toList b.toList||a.toList==b.toList))
 |.gtr=>K (.b (!(Op.bytesLess a.toList b.toList||a.toList==b.toList)))
 |.geq=>K (.b (!(Op.bytesLess a.toList b.toList)))
 |_=>.leaf False
def DV.rb:DV->Bool
 |.kb d=>d
 |.b d=>d
 |_=>false
def vn:List DV->List DV->List Field->(Bool->Oc)->Oc
 |e,h,⟨_,_,off,_,_,_,_⟩::j,d=>match i4 e off,i4 h off with
  |some (.i _ a),some (.i _ b)=>vn e h j λr=>d ((a==b)&&r)
  |some (.st a),some (.st b)=>vn e h j λr=>d ((a.toList==b.toList)&&r)
  |some k,some q=>vn e h j λr=>d ((k.rb==q.rb)&&r)
  |_,_=>.leaf False
 |_,_,[],d=>d true
def Cp:Operand->Bool
 |.const _=>true
 |_=>false
def AX(P:aE)(op:BinOp)(T:aC)(x y:Operand)(a b:DV)(w:J)(K:DV->List Fc->Oc):Oc:=match a,b with
 |.i j a,.i _ b=>Tn op (Cp y) j a b λv=>K v []
 |.st a,.st b=>To op a b λv=>K v []
 |.sl s,.s3 none _ _=>match op with
  |.eql=>K (.b s.a.isNone) []
  |_=>K (.b (!s.a.isNone)) []
 |.s3 (some _) _ _,.s3 none _ _=>match op with
  |.eql=>K (.kb false) []
  |_=>K (.kb true) []
 |.s3 a _ _,.s3 none _ _=>match op with
  |.eql=>K (.b a.isNone) []
  |_=>K (.b (!a.isNone)) []
 |.r _ _,.p none=>match op with
  |.eql=>K (.kb false) []
  |_=>K (.kb true) []
 |.m a,.m none=>match op with
  |.eql=>K (.b a.isNone) []
  |_=>K (.b (!a.isNone)) []
 |.a e,.a h=>match k0 P T,op with
  |.struct d,.eql=>vn e h d.toList λr=>K (.b r) []
  |.struct d,_=>vn e h d.toList λr=>K (.b (!r)) []
  |_,_=>.leaf False
 |a,b=>match Cp y,a,b,op with
  |true,.p a,.p none,.eql=>K (.b a.isNone) []
  |true,.p a,.p none,_=>K (.b (!a.isNone)) []
  |_,.p _,_,.neq|_,.r _ _,_,.neq=>DV.o a λa=>DV.o b λb=>tv P (binOp .neq T a b) (.bool true) w K
  |_,_,_,op=>match k0 P T with
   |.interface _=>DV.o a λa=>DV.o b λb=>tv P (I8 op T x y a b) (.bool true) w K
   |.bool=>match op with
    |.eql=>K (.b (a.rb==b.rb)) []
    |_=>K (.b (!(a.rb==b.rb))) []
   |_=>.leaf False
def yu(h:Bool):DV->List DV->(DV->Oc)->Oc
 |r,[],d=>d r
 |.i j r,.i _ e::l,d=>match h with
  |true=>yu h (.i j (if r<e then e else r)) l d
  |false=>yu h (.i j (if e<r then e else r)) l d
 |_,_,_=>.leaf False
def Yl(d:List Field)(n:Nat):Nat:=match i4 d n with
 |some ⟨_,_,off,_,_,_,_⟩=>off
 |none=>0
def y2(E:DE)(off:Nat->Nat):List (Nat×Operand)->List DV->(List DV->Oc)->Oc
 |[],e,d=>d e
 |(i,h)::l,e,d=>dF E h λv=>y2 E off l (yV e (off i) v.cs) d
def vu:List DV->(List DV->Oc)->Oc
 |[],d=>d []
 |v::l,d=>vu l λl=>d (v::l)
def Pq:Nat->List DV->List DV
 |0,_=>[]
 |n+1,l=>l++Pq n l
def Hb(P:aE)(op:Op)(ty:aC)(E:DE)(L:DL)(w:J)(d:Bool)(K:DV->List (Option Nat×Fc)->J->Bool->Oc):Option Oc:=match op with
 |.move e|.assign e=>some (dF E e λv=>K v [] w d)
 |.pick c a b=>some (dF E c λc=>match c with
  |.kb true=>dF E a λv=>K v [] w d
  |.kb false=>dF E b λv=>K v [] w d
  |_=>.leaf False)
 |.load h e=>some (dF E e λa=>match a with
  |.r _ (some (i,G))=>match i4 L i with
   |some (_,A,_)=>JY P h A G λv=>K v [(some i,.n)] w d
   |none=>.leaf False
  |.r p none=>gZ d L w λw=>JX P h p w λv j=>K v (j.map λf=>(none,f)) w false
  |_=>.leaf False)
 |.nilCheck e=>some (dF E e λa=>match a with
  |.p M=>.op M λp=>K (.r p none) [] w d
  |a=>K a [] w d)
 |.fieldAddr h e f=>some (dF E e λa=>match a with
  |.r p l=>IE P h f λ_ off=>match l with
   |some (i,G)=>K (.r (p.add off) (some (i,Nat.add G off))) [] w d
   |none=>K (.r (p.add off) none) [] w d
  |_=>.leaf False)
 |.field h e f=>some (dF E e λa=>match a with
  |.a l=>IE P h f λt off=>match P.info? t with
   |some ⟨_,_,n,_,_,_,_,some B,_,_⟩=>match B with
    |.agg _=>vu (lU l off n) λl=>K (.a l) [] w d
    |_=>match i4 l off with
     |some v=>K v [] w d
     |none=>.leaf False
   |_=>.leaf False
  |_=>.leaf False)
 |.indexAddr h e C=>some (dF E e λa=>dF E C λi=>i.ri λi=>match a,k0 P h with
  |.sl s,.slice k=>tE P k λy=>.and (0<=i) (.and (i<(s.n:Int)) (.op s.a λp=>K (.r (p.add (i.toNat *y)) none) [] w d))
  |.s3 a n _,.slice k=>tE P k λy=>.and (0<=i) (.and (i<(n:Int)) (.op a λp=>K (.r (p.add (i.toNat *y)) none) [] w d))
  |.r p _,.array n k=>tE P k λy=>.and (0<=i) (.and (i<(n:Int)) (K (.r (p.add (i.toNat *y)) none) [] w d))
  |_,_=>.leaf False)
 |.index h e C=>some (dF E e λa=>dF E C λi=>i.ri λi=>match a,k0 P h with
  |.st s,.string=>.and (0<=i) (.ex UInt8 λb=>.and (s[i.toNat]? =some b) (K (.i .u8 (b.toNat:Int)) [] w d))
  |.a A,.array n k=>match k0 P k with
   |.string=>DV.os A λq=>.and (0<=i) (.and (i<(n:Int)) (.ex ByteArray λb=>.and (q.toArray[i.toNat]? =some (.string b)) (K (.st b) [] w d)))
   |_=>DV.os A λq=>.and (0<=i) (.and (i<(n:Int)) (.ex Int λb=>.and (q.toArray[i.toNat]? =some (.int .i64 b)) (K (.i .i64 b) [] w d)))
  |_,_=>.leaf False)
 |.slice h e lo F H=>some (dF E e λa=>match a,k0 P h with
  |.sl s,.slice k=>tE P k λy=>l9 E H s.c s.c λm=>l9 E F m s.n λx=>l9 E lo x 0 λl=>K (.s3 (if m=l then s.a else s.a.map (·.add (l *y))) (x - l) (m - l)) [] w d
  |.s3 a n c,.slice k=>tE P k λy=>l9 E H c c λm=>l9 E F m n λx=>l9 E lo x 0 λl=>K (.s3 (if m=l then a else a.map (·.add (l *y))) (x - l) (m - l)) [] w d
  |.st s,.string=>l9 E F s.size s.size λx=>l9 E lo x 0 λl=>K (.st (s.extract l x)) [] w d
  |.r p _,.array n k=>tE P k λy=>l9 E H n n λm=>l9 E F m n λx=>l9 E lo x 0 λl=>K (.s3 (some (if m=l then p else p.add (l *y))) (x - l) (m - l)) [] w d
  |_,_=>.leaf False)
 |.extract e n=>some (dF E e λa=>match a with
  |.t l=>match i4 l n with
   |some v=>K v [] w d
   |none=>.leaf False
  |_=>.leaf False)
 |.build h I=>some (z3 P h λB=>yN B λB=>match k0 P h with
  |.struct j=>y2 E (Yl j.toList) I.toList B.cs λl=>vu l λl=>K (.a l) [] w d
  |.array _ k=>match P.info? k with
   |some ⟨_,_,n,_,_,_,_,_,_,_⟩=>y2 E (λi=>Nat.mul i n) I.toList B.cs λl=>vu l λl=>K (.a l) [] w d
   |none=>.leaf False
  |_=>.leaf False)
 |.unOp f _ e=>some (dF E e λa=>match f,a with
  |.not,.kb true=>K (.kb false) [] w d
  |.not,.kb false=>K (.kb true) [] w d
  |.not,.b e=>K (.b (!e)) [] w d
  |.neg,.i z e=>K (.i z (z.wrap (0 - e))) [] w d
  |.xor,.i z e=>K (.i z (mR z (if IntKind.signed z then -1 else IntKind.max z) e)) [] w d
  |_,_=>.leaf False)
 |.binOp f h e D _=>some (dF E e λa=>dF E D λb=>match k0 P h,f with
  |.interface _,_|.pointer _,.neq=>match Cp D with
   |true=>AX P f h e D a b w λv j=>K v (j.map λf=>(none,f)) w d
   |false=>gZ d L w λw=>AX P f h e D a b w λv j=>K v (j.map λf=>(none,f)) w false
  |_,_=>AX P f h e D a b w λv j=>K v (j.map λf=>(none,f)) w d)
 |.convert s t e=>match k0 P s,k0 P t with
  |.slice _,.slice _|.string,.slice _=>none
  |.slice _,.string=>some (dF E e λa=>DV.o a λv=>gZ d L w λw=>tv P (convert s t v) (.string (ByteArray.mk #[])) w λv j=>K v (j.map λf=>(none,f)) w false)
  |.pointer _,.unsafePointer|.unsafePointer,.pointer _=>some (dF E e λa=>DV.o a λv=>gZ d L w λw=>tv P (convert s t v) (.pointer none) w λv j=>K v (j.map λf=>(none,f)) w false)
  |_,.int z=>some (dF E e λa=>a.ri λe=>K (.i z (z.wrap e)) [] w d)
  |_,_=>some (dF E e λv=>K v [] w d)
 |.makeInterface h e=>some (dF E e λv=>K (.fc h v) [] w d)
 |.makeFunc (.func n) j A=>some (oC E j.toList λj=>oC E A.toList λA=>K (.g n j A) [] w d)
 |.lookup h e C ok=>some (dF E e λa=>DV.o a λa=>dF E C λb=>DV.o b λb=>gZ d L w λw=>z3 P ty λB=>tv P (Instr.lookup h a b ok) B w λv j=>K v (j.map λf=>(none,f)) w false)
 |.call {callee:=.builtin .len,args,argTypes}=>some (oC E args.toList λq=>match q,argTypes.toList with
  |[v],[h]=>match v,k0 P h with
   |.sl s,_=>K (.i .i64 (s.n:Int)) [] w d
   |.s3 _ n _,_=>K (.i .i64 (n:Int)) [] w d
   |.st s,_=>K (.i .i64 (s.size:Int)) [] w d
   |_,.array n _=>K (.i .i64 (n:Int)) [] w d
   |v,.map _ _=>DV.o v λm=>gZ d L w λw=>tv P (Builtin.len_ #[h] ty #[m]) (.int .i64 0) w λv j=>K v (j.map λf=>(none,f)) w false
   |_,_=>.leaf False
  |_,_=>.leaf False)
 |.call {callee:=.builtin .cap,args,..}=>some (oC E args.toList λq=>match q with
  |[.sl s]=>K (.i .i64 (s.c:Int)) [] w d
  |[.s3 _ _ c]=>K (.i .i64 (c:Int)) [] w d
  |_=>.leaf False)
 |.call {callee:=.builtin .min,args,..}=>some (oC E args.toList λq=>match q with
  |v::q=>yu false v q λv=>K v [] w d
  |_=>.leaf False)
 |.call {callee:=.builtin .max,args,..}=>some (oC E args.toList λq=>match q with
  |v::q=>yu true v q λv=>K v [] w d
  |_=>.leaf False)
 |_=>none
def lD(L:DL)(w w':J)(K:Oc):Oc:=match L with
 |[]=>K
 |L=>r3 L λd=>.and (kept d w w') K
def EY(L:DL)(p:Addr):List Nat->List DV->J->(J->Oc)->Oc
 |n::j,v::k,d,h=>DV.o v λq=>match bO n 0 with
  |true=>.st d p q λe=>lD L d e (EY L p j k e h)
  |false=>.st d (p.add n) q λe=>lD L d e (EY L p j k e h)
 |_,_,d,h=>h d
def se(P:aE)(L:DL)(s:Sem aa)(z:aa)(w:J)(K:DV->J->Oc):Oc:=
 vp z λe=>DV.o e λv=>.ex J λd=>.and (s.run P w=.ok v d) (lD L w d (K e d))
def G7(P:aE)(L:DL)(f:cB)(xs:Array aa)(z:aa)(w:J)(K:DV->J->Oc):Oc:=match L with
 |[]=>.ca P f xs w λr e=>vp z λd=>DV.o d λv=>.and (r=ae v) (K d e)
 |L=>r3 L λh=>.cf h P f xs w λr e=>vp z λd=>DV.o d λv=>.and (r=ae v) (K d e)
def Tu(P:aE)(f:cB):Bool:=match P.funcs[f]? with
 |some fn=>fn.body.isSome
 |none=>false
def Vd(P:aE)(D:List Nat)(dst:Option Nat)(op:Op)(ty:aC)(E:DE)(L:DL)(w:J)(d:Bool)(K:DV->DL->J->Bool->Oc):Oc:=match op with
 |.store _ h M=>dF E h λa=>dF E M λv=>match a with
  |.r _ (some (i,G))=>match i4 L i with
   |some (b,y,j)=>vu (yV y G v.cs) λy=>K .u (PU L i (b,y,j)) w true
   |none=>.leaf False
  |.r p none=>gZ d L w λw=>EY L p Ng v.cs w λe=>K .u L e false
  |_=>.leaf False
 |.alloc j=>z3 P j λq=>yN q λq=>match Jo D dst with
  |true=>r3 L λB=>.nw B w λb e=>K (.r (ab b) (some (L.length,0))) (L++[(b,q.cs,j)]) e false
  |false=>gZ d L w λw=>DV.os q.cs λk=>.al w (.cells k.toArray j) λe=>K (.r (nb w) none) L e false
 |.box j h=>dF E h λq=>match Jo D dst with
  |true=>r3 L λB=>.nw B w λb e=>K (.r (ab b) (some (L.length,0))) (L++[(b,q.cs,j)]) e false
  |false=>gZ d L w λw=>DV.os q.cs λk=>.al w (.cells k.toArray j) λe=>K (.r (nb w) none) L e false
 |.buildSlice j n H=>match k0 P j with
  |.slice C=>match P.info? C with
   |some ⟨_,_,I,_,_,_,_,some q,_,_⟩=>yN q λq=>y2 E (λi=>Nat.mul i I) H.toList (Pq n q.cs) λl=>DV.os l λk=>gZ d L w λw=>.al w (.cells k.toArray C) λe=>K (.s3 (some (nb w)) n n) L e false
   |_=>.leaf False
  |_=>.leaf False
 |.makeMap _ _=>gZ d L w λw=>.al w (.map #[] 0) λe=>K (.m (some w.heap.size)) L e false
 |.mapUpdate j m x v|.insert j m x v=>dF E m λm=>DV.o m λm=>dF E x λx=>DV.o x λx=>dF E v λv=>DV.o v λv=>gZ d L w λw=>
   .ex J λe=>.and ((Instr.mapUpdate j m x v).run P w=.ok () e) (lD L w e (K .u L e false))
 |.call {callee:=.builtin b,args,argTypes}=>oC E args.toList λk=>DV.os k λk=>gZ d L w λw=>match b with
  |.append=>se P L (dY argTypes ty k.toArray) (.slice none 0 0) w λv e=>K v L e false
  |.copy=>se P L (Builtin.copy_ argTypes ty k.toArray) (.int .i64 0) w λv e=>K v L e false
  |.unsafeSliceData=>se P L (Builtin.unsafeSliceData_ argTypes ty k.toArray) (.pointer none) w λv e=>K v L e false
  |.unsafeString=>se P L (Builtin.unsafeString_ argTypes ty k.toArray) (.string (ByteArray.mk #[])) w λv e=>K v L e false
  |.delete=>.ex J λe=>.and ((Builtin.delete_ argTypes ty k.toArray).run P w=.ok undef e) (lD L w e (K .u L e false))
  |.clear=>.ex J λe=>.and ((Builtin.clear_ argTypes ty k.toArray).run P w=.ok (.tuple #[]) e) (lD L w e (K (.t []) L e false))
  |_=>.leaf False
 |.call {callee:=.value h,args,..}=>dF E h λf=>oC E args.toList λk=>z3 P ty λq=>gZ d L w λw=>match f with
  |.g n F y=>DV.os (F++k++y) λA=>match Tu P n with
   |true=>G7 P L n A.toArray q w λv e=>K v L e false
   |false=>vp q λr=>DV.o r λv=>.ex J λe=>.and ((callFunc n A.toArray).run P w=.ok (.value v) e) (lD L w e (K r L e false))
  |.f z=>DV.os k λA=>.at (g3 P z.n) (G7 P L z.n (z.U++A.toArray++z.cs) q w λv e=>K v L e false)
  |_=>.leaf False
 |.makeSlice j l c=>dF E l λl=>DV.o l λl=>dF E c λc=>DV.o c λc=>gZ d L w λw=>se P L (Instr.makeSlice j l c) (.slice none 0 0) w λv e=>K v L e false
 |.convert s t h=>dF E h λh=>DV.o h λh=>gZ d L w λw=>se P L (convert s t h) (.slice none 0 0) w λv e=>K v L e false
 |.range j h=>dF E h λh=>DV.o h λh=>gZ d L w λw=>.ex aa λv=>.ex J λe=>.and ((Instr.range j h).run P w=.ok v e) (lD L w e (K (.v v) L e false))
 |.next it s=>dF E it λh=>DV.o h λit=>gZ d L w λw=>.or (.ex J λe=>.and ((Instr.next it s ty).run P w=.ok (.tuple #[.bool false]) e) (lD L w e (K (.t [.kb false]) L e false)))
   (match s with
    |true=>.ex Int λi=>.ex Int λc=>.ex J λe=>.and ((Instr.next it true ty).run P w=.ok (.tuple #[.bool true,.int .i64 i,.int .i32 c]) e) (lD L w e (K (.t [.kb true,.i .i64 i,.i .i32 c]) L e false))
    |false=>.ex aa λi=>.ex aa λc=>.ex J λe=>.and ((Instr.next it false ty).run P w=.ok (.tuple #[.bool true,i,c]) e) (lD L w e (K (.t [.kb true,.v i,.v c]) L e false)))
 |.entry it=>dF E it λh=>DV.o h λit=>gZ d L w λw=>.ex aa λi=>.ex aa λc=>.ex J λe=>.and ((Instr.entry it).run P w=.ok (.tuple #[i,c]) e) (lD L w e (K (.t [.v i,.v c]) L e false))
 |_=>.leaf False
def uD:List Edge->(Nat->Bool)->Bool
 |[],_=>false
 |⟨_,.textOnly _⟩::l,p=>uD l p
 |⟨_,.gcOnly _⟩::l,p=>uD l p
 |⟨d,_⟩::l,p=>match p d with
  |true=>true
  |false=>uD l p
def yT(ops:List Oper):Nat->Nat->Nat->Bool
 |0,i,h=>match i4 ops h with
  |some ⟨_,_,_,_,e,_⟩=>uD e.toList λd=>bO d i
  |none=>false
 |f+1,i,h=>match i4 ops h with
  |some ⟨_,_,_,_,e,_⟩=>uD e.toList λd=>match bO d i with
   |true=>true
   |false=>yT ops f i d
  |none=>false
def u2(ops:List Oper)(j:Nat):DH->(DH->Oc)->Oc
 |[],e=>e []
 |(i,f,h)::d,e=>match yT ops 4 i j with
  |true=>u2 ops j d e
  |false=>u2 ops j d λd=>e ((i,f,h)::d)
def AP(ops:List Oper)(j:Nat):DH->Bool
 |[]=>false
 |(i,none,_)::d=>match yT ops 4 i j with
  |true=>AP ops j d
  |false=>true
 |_::d=>AP ops j d
def sI(P:aE)(ops:List Oper)(j:Nat)(w:J)(K:Oc):DH->Oc
 |[]=>K
 |(i,none,e)::d=>match yT ops 4 i j with
  |true=>sI P ops j w K d
  |false=>match e with
   |.c p v=>.and (w.cell? p=some v) (sI P ops j w K d)
   |.r s v=>.and (s.run P w=.ok v w) (sI P ops j w K d)
   |.n=>sI P ops j w K d
 |_::d=>sI P ops j w K d
abbrev DJ:=DE->DL->J->Bool->DH->Oc
def Ga(draw:Bool)(i:Nat):List (Option Nat×Fc)->DH->(DH->Oc)->Oc
 |[],d,e=>e d
 |(f,h)::l,d,e=>match draw with
  |true=>Ga draw i l d λd=>e ((i,f,h)::d)
  |false=>e d
def QB(P:aE)(j:List Nat)(ops:List Oper)(draw:Bool)(i:Nat)(o:Oper)(E:DE)(L:DL)(w:J)(d:Bool)(H:DH)(K:DJ):Oc:=match o with
 |⟨dst,op,e,_,_,_⟩=>match Hb P op e E L w d λv h w d=>y3 dst v E λE=>Ga draw i h H λH=>K E L w d H with
  |some r=>r
  |none=>Vd P j dst op e E L w d λv L w d=>match AP ops i H with
   |true=>gZ d L w λw=>sI P ops i w (y3 dst v E λE=>u2 ops i H λH=>K E L w false H) H
   |false=>y3 dst v E λE=>u2 ops i H λH=>K E L w d H
def UI(P:aE)(op:Op)(ty:aC)(E:DE)(L:DL)(w:J):Bool:=match Hb P op ty E L w false λ_ _ _ _=>.leaf True with
 |some _=>true
 |none=>false
def zq(P:aE)(ops:List Oper)(i:Nat)(o:Oper)(E:DE)(L:DL)(w:J)(d:Bool)(H:DH)(K:DJ):Oc:=match o with
 |⟨dst,op,e,_,_,_⟩=>y3 dst .u E λE=>match UI P op e E L w with
  |true=>K E L w d H
  |false=>u2 ops i H λH=>K E L w d H
def Cg(P:aE)(e:List Nat)(ops:List Oper)(draw:Bool)(i:Nat)(o:Oper)(t:Nat)(want b:Bool)(E:DE)(L:DL)(w:J)(d:Bool)(H:DH)(K:DJ):Oc:=match want,b with
 |true,true|false,false=>QB P e ops draw i o ((t,.kb b)::E) L w d H K
 |_,_=>zq P ops i o ((t,.kb b)::E) L w d H K
def headD(P:aE)(e:List Nat)(ops:List Oper)(draw:Bool)(i:Nat)(E:DE)(L:DL)(w:J)(d:Bool)(H:DH)(K:DJ):Oc:=match i4 ops i with
 |none=>.leaf False
 |some o=>match o.guard with
  |none=>QB P e ops draw i o E L w d H K
  |some (h,want)=>match i4 ops h with
   |some ⟨some t,_,_,_,_,_⟩=>getD E t λv=>match v with
    |.kb b=>Cg P e ops draw i o t want b E L w d H K
    |.b b=>.bh b (Cg P e ops draw i o t want true E L w d H K) (Cg P e ops draw i o t want false E L w d H K)
    |_=>zq P ops i o E L w d H K
   |_=>.leaf False
def PL(P:aE)(k:List Nat)(ops:List Oper)(K:DE->DL->J->Bool->Oc):List Oper->Nat->DE->DL->J->Bool->Oc
 |[],_,d,e,j,h=>K d e j h
 |_::l,i,d,e,j,h=>headD P k ops false i d e j h [] λd e j h _=>PL P k ops K l (i+1) d e j h
def zF(P:aE)(q:List Nat)(ops:List Oper)(K:DE->DL->J->Bool->Oc):Tr->DE->DL->J->Bool->DH->Oc
 |.nil,d,e,j,h,_=>K d e j h
 |.one i t,d,e,j,h,k=>headD P q ops true i d e j h k λd e j h k=>zF P q ops K t d e j h k
 |.fork a b,d,e,j,h,k=>.cj (zF P q ops K a d e j h k) (zF P q ops K b d e j h k)
def U'(L:DL)(w:J)(d:Bool)(K:J->Bool->Oc):Oc:=match L,d with
 |[],false=>.dr w λw=>K w false
 |_,_=>K w true
def dc:(O:List Tk)->(X:Type)->List DV->k8 O X->(X->Oc)->Oc
 |[],_,_,d,e=>e d
 |.a _::O,X,.a l::h,d,e=>dc O X (l++h) d e
 |.t _::O,X,.t l::h,d,e=>dc O X (l++h) d e
 |.g _ _ _::O,X,.g _ k q::h,d,e=>dc O X (k++(q++h)) d e
 |.o (.i _)::O,X,.i _ j::h,d,e=>dc O X h (d j) e
 |.o .b::O,X,.b j::h,d,e=>dc O X h (d j) e
 |.o .b::O,X,.kb j::h,d,e=>dc O X h (d j) e
 |.o .st::O,X,.st j::h,d,e=>dc O X h (d j) e
 |.o .s::O,X,.sl j::h,d,e=>dc O X h (d j) e
 |.o .s::O,X,.s3 a n c::h,d,e=>dc O X h (d ⟨a,n,c⟩) e
 |.o .p::O,X,.p j::h,d,e=>dc O X h (d j) e
 |.o .p::O,X,.r j _::h,d,e=>dc O X h (d (some j)) e
 |.o .r::O,X,.r j _::h,d,e=>dc O X h (d j) e
 |.o .m::O,X,.m j::h,d,e=>dc O X h (d j) e
 |.o .f::O,X,.f j::h,d,e=>dc O X h (d j) e
 |.o .f::O,X,.g n k q::h,d,e=>DV.os k λk=>DV.os q λq=>dc O X h (d ⟨n,k.toArray,q.toArray⟩) e
 |.o .v::O,X,v::h,d,e=>DV.o v λj=>dc O X h (d j) e
 |_,_,_,_,_=>.leaf False
def AQ:(l:List (Nat×Sp))->gx l->DE->DL->J->aH->Oc
 |[],e,_,_,j,h=>.leaf (e j h)
 |(t,.v w)::l,e,d,k,j,h=>getD d t λv=>dc w (gx l) [v] e λq=>AQ l q d k j h
 |(t,.l w _)::l,e,d,k,j,h=>getD d t λv=>match v with
  |.r _ (some (i,_))=>match i4 k i with
   |some (b,x,_)=>dc w (gx l) x (e b) λq=>AQ l q d k j h
   |none=>.leaf False
  |_=>.leaf False
abbrev DK:=Exit->DE->DL->J->Bool->Oc
section
variable (X:Fx) (es:List (fY X)) (R:aH)
def nj{X:Fx}(R:aH):List (fY X)->List Bool->DE->DL->J->Bool->Oc->Oc
 |[],_,_,_,_,_,f=>f
 |k::es,w,h,e,d,j,f=>match r1 k.q w with
  |true=>match k with
   |⟨_,y,x,_⟩=>gZ j e d λd=>AQ y x h e d R
  |false=>nj R es w h e d j f
def mV(P:aE)(ord:List (Nat×Tr))(w:List Nat):Code->List Bool->DK->DE->DL->J->Bool->Oc
 |.skip,_,k,h,j,e,d=>k .normal h j e d
 |.region id ops true,_,k,h,j,e,d=>match CD ord id with
  |some t=>U' j e d λe d=>zF P w ops.toList (λh j e d=>k .normal h j e d) t h j e d []
  |none=>.leaf False
 |.region _ ops false,_,k,h,j,e,d=>PL P w ops.toList (λh j e d=>k .normal h j e d) ops.toList 0 h j e d
 |.seq a b,q,k,h,j,e,d=>mV P ord w a (false::q) (λx h j e d=>match x with
  |.normal=>nj R es (true::q) h j e d (mV P ord w b (true::q) k h j e d)
  |x=>k x h j e d) h j e d
 |.cond o a b,q,k,h,j,e,d=>dF h o λv=>match v with
  |.kb true=>nj R es (false::q) h j e d (mV P ord w a (false::q) k h j e d)
  |.kb false=>nj R es (true::q) h j e d (mV P ord w b (true::q) k h j e d)
  |.b t=>.bh t (nj R es (false::q) h j e d (mV P ord w a (false::q) k h j e d)) (nj R es (true::q) h j e d (mV P ord w b (true::q) k h j e d))
  |_=>.leaf False
 |.block id a,q,k,h,j,e,d=>mV P ord w a (false::q) (λx h j e d=>match x with
  |.exit y=>match bO y id with
   |true=>k .normal h j e d
   |false=>k (.exit y) h j e d
  |x=>k x h j e d) h j e d
 |.loop _,q,_,h,j,e,d=>nj R es q h j e d (.leaf False)
 |.exit id,_,k,h,j,e,d=>k (.exit id) h j e d
 |.ret,_,k,h,j,e,d=>k .ret h j e d
 |_,_,_,_,_,_,_=>.leaf False
def zg(P:aE)(E:DE)(L:DL)(w:J):List ResultVar->(List DV->Oc)->Oc
 |[],d=>d []
 |.tmp t::l,d=>getD E t λv=>zg P E L w l λe=>d (v::e)
 |.cell q h::l,d=>getD E q λv=>match v with
  |.r _ (some (i,k))=>match i4 L i with
   |some (_,j,_)=>JY P h j k λv=>zg P E L w l λe=>d (v::e)
   |none=>.leaf False
  |.r p none=>JX P h p w λv _=>zg P E L w l λe=>d (v::e)
  |_=>.leaf False
def Zu(P:aE)(fn:Func):DK:=λq j h e k=>match q with
 |.normal|.ret=>gZ k h e λe=>zg P j h e fn.results.toList λd=>match d with
  |[v]=>DV.o v λv=>.leaf (R (ae v) e)
  |d=>DV.os d λd=>.leaf (R (ae (.tuple d.toArray)) e)
 |_=>.leaf False
def JA(P:aE)(ord:List (Nat×Tr))(C:List Nat)(A:Code)(z:DK):List Bool->Code×DK
 |[]=>(A,z)
 |b::y=>match JA P ord C A z y,b with
  |(.seq w x,d),false=>(w,λe h j q k=>match e with
   |.normal=>nj R es (true::y) h j q k (mV X es R P ord C x (true::y) d h j q k)
   |e=>d e h j q k)
  |(.seq _ x,d),true=>(x,d)
  |(.cond _ w _,d),false=>(w,d)
  |(.cond _ _ x,d),true=>(x,d)
  |(.block id w,d),_=>(w,λe h j q k=>match e with
   |.exit B=>match bO B id with
    |true=>d .normal h j q k
    |false=>d (.exit B) h j q k
   |e=>d e h j q k)
  |(.loop w,d),_=>(w,λe h j q k=>match e with
   |.normal=>nj R es y h j q k (.leaf False)
   |e=>d e h j q k)
  |(_,d),_=>(.skip,d)
def RR(X:Fx)(K:aE->Func->List (Nat×Tr)->List Nat->Oc):Oc:=match X with
 |⟨d,fn,ord,e⟩=>K d fn ord e
def Bz(e:List Bool)(E:DE)(L:DL)(w:J):Oc:=RR X λd fn ord k=>match fn.body with
  |some c=>match JA X es R d ord k c (Zu R d fn) e with
   |(.loop x,h)=>mV X es R d ord k x (false::e) (λj E L w q=>match j with
    |.normal=>nj R es e E L w q (.leaf False)
    |j=>h j E L w q) E L w false
   |(c,h)=>mV X es R d ord k c e h E L w false
  |none=>.leaf False
end
abbrev ha:List Tk->Type->Type
 |[],X=>X
 |.o (.i _)::l,X=>Int->ha l X
 |.o .b::l,X=>Bool->ha l X
 |.o .st::l,X=>ByteArray->ha l X
 |.o .s::l,X=>Sl->ha l X
 |.o .p::l,X=>Option Addr->ha l X
 |.o .r::l,X=>Addr->ha l X
 |.o .m::l,X=>Option Nat->ha l X
 |.o .v::l,X=>aa->ha l X
 |.o .f::l,X=>Fv->ha l X
 |.a _::l,X=>ha l X
 |.t _::l,X=>ha l X
 |.g _ _ _::l,X=>ha l X
abbrev lY:List (Nat×Sp)->Type
 |[]=>J->aH->Prop
 |(_,.v d)::l=>ha d (lY l)
 |(_,.l d _)::l=>Nat->ha d (lY l)
def sa:∀(O:List Tk) (X:Type),k8 O X=ha O X
 |[],_=>rfl
 |.o e::O,X=>by cases e<;>exact congrArg (λd=>_->d) (sa O X)
 |.a _::O,X=>sa O X
 |.t _::O,X=>sa O X
 |.g _ _ _::O,X=>sa O X
def BA:∀l:List (Nat×Sp),gx l=lY l
 |[]=>rfl
 |(_,.v d)::l=>(sa d (gx l)).trans (congrArg (ha d) (BA l))
 |(_,.l d _)::l=>congrArg (λe=>Nat->e) ((sa d (gx l)).trans (congrArg (ha d) (BA l)))
def jU:(O:List Tk)->(X:Type)->ha O X->(List DV->X->Prop)->Prop
 |[],_,h,j=>j [] h
 |.o (.i q)::O,X,h,j=>∀e:Int,jU O X (h e) λd k=>j (.i q e::d) k
 |.o .b::O,X,h,j=>∀e:Bool,jU O X (h e) λd k=>j (.b e::d) k
 |.o .st::O,X,h,j=>∀e:ByteArray,jU O X (h e) λd k=>j (.st e::d) k
 |.o .s::O,X,h,j=>∀e:Sl,jU O X (h e) λd k=>j (.sl e::d) k
 |.o .p::O,X,h,j=>∀e:Option Addr,jU O X (h e) λd k=>j (.p e::d) k
 |.o .r::O,X,h,j=>∀e:Addr,jU O X (h e) λd k=>j (.r e none::d) k
 |.o .m::O,X,h,j=>∀e:Option Nat,jU O X (h e) λd k=>j (.m e::d) k
 |.o .v::O,X,h,j=>∀e:aa,jU O X (h e) λd k=>j (.v e::d) k
 |.o .f::O,X,h,j=>∀e:Fv,jU O X (h e) λd k=>j (.f e::d) k
 |.a q::O,X,h,j=>jU O X h λd k=>j (.a (lU d 0 q)::d.drop q) k
 |.t q::O,X,h,j=>jU O X h λd k=>j (.t (lU d 0 q)::d.drop q) k
 |.g n w q::O,X,h,j=>jU O X h λd k=>j (.g n (lU d 0 w) (lU d w q)::d.drop (w+q)) k
def AB(G:DE->DL->J->aH->Oc):(l:List (Nat×Sp))->lY l->DE->DL->Prop
 |[],d,h,e=>∀(w:J) (R:aH),Nf (G h e w R) (d w R)
 |(t,.v j)::l,d,h,e=>jU j (lY l) d λk d=>match k with
  |v::_=>AB G l d ((t,v)::h) e
  |[]=>False
 |(t,.l j q)::l,d,h,e=>∀b:Nat,jU j (lY l) (d b) λk d=>AB G l d ((t,.r (ab b) (some (e.length,0)))::h) (e++[(b,k,q)])
def jo:(O:List Tk)->(X:Type)->ha O X->(List DV->X->Oc)->Oc
 |[],_,h,j=>j [] h
 |.o (.i q)::O,X,h,j=>.all Int λe=>jo O X (h e) λd k=>j (.i q e::d) k
 |.o .b::O,X,h,j=>.all Bool λe=>jo O X (h e) λd k=>j (.b e::d) k
 |.o .st::O,X,h,j=>.all ByteArray λe=>jo O X (h e) λd k=>j (.st e::d) k
 |.o .s::O,X,h,j=>.all Sl λe=>jo O X (h e) λd k=>j (.sl e::d) k
 |.o .p::O,X,h,j=>.all (Option Addr) λe=>jo O X (h e) λd k=>j (.p e::d) k
 |.o .r::O,X,h,j=>.all Addr λe=>jo O X (h e) λd k=>j (.r e none::d) k
 |.o .m::O,X,h,j=>.all (Option Nat) λe=>jo O X (h e) λd k=>j (.m e::d) k
 |.o .v::O,X,h,j=>.all aa λe=>jo O X (h e) λd k=>j (.v e::d) k
 |.o .f::O,X,h,j=>.all Fv λe=>jo O X (h e) λd k=>j (.f e::d) k
 |.a q::O,X,h,j=>jo O X h λd k=>j (.a (lU d 0 q)::d.drop q) k
 |.t q::O,X,h,j=>jo O X h λd k=>j (.t (lU d 0 q)::d.drop q) k
 |.g n w q::O,X,h,j=>jo O X h λd k=>j (.g n (lU d 0 w) (lU d w q)::d.drop (w+q)) k
def AO(G:DE->DL->J->aH->Oc):(l:List (Nat×Sp))->lY l->DE->DL->Oc
 |[],d,h,e=>.all J λw=>.all aH λq=>.im (G h e w q) (d w q)
 |(t,.v j)::l,d,h,e=>jo j (lY l) d λk d=>match k with
  |v::_=>AO G l d ((t,v)::h) e
  |[]=>.leaf False
 |(t,.l j x)::l,d,h,e=>.all Nat λb=>jo j (lY l) (d b) λk d=>AO G l d ((t,.r (ab b) (some (e.length,0)))::h) (e++[(b,k,x)])
def k1:(O:List Tk)->ha O Unit
 |[]=>()
 |.o (.i _)::O=>λ_=>k1 O
 |.o .b::O=>λ_=>k1 O
 |.o .st::O=>λ_=>k1 O
 |.o .s::O=>λ_=>k1 O
 |.o .p::O=>λ_=>k1 O
 |.o .r::O=>λ_=>k1 O
 |.o .m::O=>λ_=>k1 O
 |.o .v::O=>λ_=>k1 O
 |.o .f::O=>λ_=>k1 O
 |.a _::O=>k1 O
 |.t _::O=>k1 O
 |.g _ _ _::O=>k1 O
def Iq:Nat->List DV->DE
 |_,[]=>[]
 |n,v::d=>(n,v)::Iq (n+1) d
def Ym(X:Fx)(es:List (fY X))(f:cB)(O:List Tk):Oc:=jo O Unit (k1 O) λe _=>.all J λh=>.all aH λd=>RR X λj _ _ _=>DV.os e λk=>.im (Bz X es d [] (Iq 0 e) [] h) (ai j f k.toArray h d)
abbrev At(X:Fx)(_:List (fY X))(_:List Nat)(d:Ps):Type:=lY d
abbrev az(P:aE)(fn:Func)(ord:List (Nat×Tr))(d:List Nat):List (fY ⟨P,fn,ord,d⟩):=[]
section
variable {X:Fx}
abbrev av(es:List (fY X))(e:List Nat)(d:Ps){F:lY d}(_:AB (λh j q k=>Bz X es k (nk e) h j q) d F [] []:=by repeat' first |(intro)|((conv=>arg 1;whnf);first |exact Nf.leaf|apply Nf.bh|apply Nf.and|apply Nf.ex|apply Nf.cf|apply Nf.ca|apply Nf.nw|apply Nf.st|apply Nf.lc|apply Nf.op|apply Nf.all|apply Nf.im|apply Nf.al|apply Nf.dr|apply Nf.at|apply Nf.or|apply Nf.cj)):At X es e d:=F
abbrev bf(es:List (fY X))(e:List Nat)(d:Ps):At X es e d:=cast (BA d) (iM d 0 (X.Sem (nk e)))
abbrev ay{es:List (fY X)}{h:List Nat}{d:Ps}(G:At X es h d){F:gx d}(_:HEq G F:=by exact HEq.rfl)(e:F=iM d 0 (X.ue es (nk h)):=by kernel_rfl):List (fY X):=Vp X es (nk h) d F e::es
abbrev be{es:List (fY X)}{h:List Nat}{d:Ps}(G:At X es h d){F:gx d}(_:HEq G F:=by exact HEq.rfl)(e:F=iM d 0 (X.Sem (nk h)):=by kernel_rfl):List (fY X):=Vo X (nk h) d F e::es
def rq:(O:List Tk)->(List aa->Prop)->Prop
 |[],e=>e []
 |.o k::O,e=>∀q:k.T,rq O λd=>e (k.val q::d)
 |.a h::O,e=>rq O λd=>e (.agg (d.take h).toArray::d.drop h)
 |.t h::O,e=>rq O λd=>e (.tuple (d.take h).toArray::d.drop h)
 |.g n j h::O,e=>rq O λd=>e (.func (.func n) (d.take j).toArray ((d.drop j).take h).toArray::(d.drop j).drop h)
def uC:∀{O:List Tk} {K:List aa->Prop},(∀e,K e)->rq O K
 |[],_,d=>d []
 |.o _::O,_,d=>λ_=>uC (O:=O) λ_=>d _
 |.a _::O,_,d=>uC (O:=O) λ_=>d _
 |.t _::O,_,d=>uC (O:=O) λ_=>d _
 |.g _ _ _::O,_,d=>uC (O:=O) λ_=>d _
def aA(es:List (fY X))(f:cB)(O:List Tk){T:Prop}(_:Nf (Ym X es f O) T:=by repeat' first |(intro)|((conv=>arg 1;whnf);first |exact Nf.leaf|apply Nf.bh|apply Nf.and|apply Nf.ex|apply Nf.cf|apply Nf.ca|apply Nf.nw|apply Nf.st|apply Nf.lc|apply Nf.op|apply Nf.all|apply Nf.im|apply Nf.al|apply Nf.dr|apply Nf.at|apply Nf.or|apply Nf.cj))(k:X.P.funcs[f]? =some X.fn:=by kernel_rfl)(j:X.fn.body=some X.c:=by kernel_rfl)(e:(rq O λd=>∀(w:J) (R:aH),cF (Nat.ble d.length X.fn.ntmps) (ia X.P X.n (X.zB es R) X.c [] (tu X.P X.fn R) ⟨j0 0 d,[],[],w,false⟩)->ai X.P f d.toArray w R)=T:=by kernel_rfl):T:=
 e▸uC λ_ _ _ h=>UE X es (dK h).2 k j (dK h).1 rfl
def bg(es:List (fY X)){w:List (fY X)}{h:List Nat}{d:Ps}(F:At X w h d){T:Prop}(_:Nf (AO (λj k x q=>Bz X es q (nk h) j k x) d F [] []) T:=by repeat' first |(intro)|((conv=>arg 1;whnf);first |exact Nf.leaf|apply Nf.bh|apply Nf.and|apply Nf.ex|apply Nf.cf|apply Nf.ca|apply Nf.nw|apply Nf.st|apply Nf.lc|apply Nf.op|apply Nf.all|apply Nf.im|apply Nf.al|apply Nf.dr|apply Nf.at|apply Nf.or|apply Nf.cj))(e:uk d (iM d 0 (X.ue es (nk h))) (iM d 0 (X.Sem (nk h)))=T:=by kernel_rfl):T:=e▸aaw es (nk h) d
end
end Go.W
set_option maxHeartbeats 2000000
set_option maxRecDepth 100000
namespace Go.Proofs.YthhmdddomhknaaaGreatDoor
open Go renaming World->J,Calls->ai,Program->aE,Value->aa,TypeId->aC,Ending->ch,FuncId->cB,IntKind->hC
open Go.IntKind renaming wrap->aj
open Go.IntWalk renaming i64_in->aQ
open Go.Builtin renaming append_->dY
open _root_.Bool renaming and_eq_true->bq
open _root_.Nat renaming le_trans->a6,zero_le->dv,beq->bO,lt_of_lt_of_le->kr,beq_eq->ep
open _root_.UInt8 renaming ofNat->cE
open _root_.Int renaming toNat_natCast->bH
open Go.Region renaming wanted->db,ready->eG
open Go.Proofs.Tryz renaming prog->Y
open _root_.Decidable renaming decide->ak
open Go.Ending renaming returned->ae
open List renaming mem_cons->au,getElem?_eq_getElem->a4,append_assoc->cp,mem_cons_of_mem->e8,drop_eq_getElem_cons->dz,getElem?_map->hr,take_add_one->eA,drop_of_length_le->cU,eq_nil_of_length_eq_zero->D0
open Go Go.W
def mp{a b:Prop}(h:a)(e:a=b:=by kernel_rfl):b:=e▸h
abbrev hF:=Exit->Act->J->Prop
abbrev pV(P:aE)(n:Nat)(K:Env->J->aH->Prop)(c:Code)(Q:aH->hF):Prop:=∀(R:aH) (E:Env) (w:J),K E w R->WP P (cx n) c (Q R) E w
abbrev Ax(P:aE)(n:Nat)(K:Env->J->aH->Prop)(c:Code)(Q:aH->hF):Prop:=∀(R:aH) (E:Env) (w:J),K E w R->LP P (cx n) c (Q R) E w
abbrev fM(w:J)(p:Addr)(K:Int->Int->Int->Sl->Prop):Prop:=∃d:Int,∃e:Int,∃h:Int,∃j:Sl,w.cell? (p.add 0)=some (.i d)/\w.cell? (p.add 1)=some (.int .u8 e)/\w.cell? (p.add 2)=some (.int .u8 h)/\w.cell? (p.add 3)=some (j.v)/\K d e h j
abbrev JG(w:J)(p:Addr)(K:Int->Int->Int->ByteArray->Int->Prop):Prop:=∃d:Int,∃e:Int,∃h:Int,∃j:ByteArray,∃k:Int,w.cell? (p.add 0)=some (.int .u8 d)/\w.cell? (p.add 1)=some (.int .u8 e)/\w.cell? (p.add 2)=some (.int .u8 h)/\w.cell? (p.add 3)=some (.string j)/\w.cell? (p.add 4)=some (.i k)/\K d e h j k
abbrev JF(w:J)(p:Addr)(K:Int->Int->Int->Prop):Prop:=∃d:Int,∃e:Int,∃h:Int,w.cell? (p.add 0)=some (.i d)/\w.cell? (p.add 1)=some (.i e)/\w.cell? (p.add 2)=some (.i h)/\K d e h
abbrev WR(w:J)(p:Addr)(K:Int->Int->Int->Sl->ByteArray->Sl->Sl->Prop):Prop:=∃d:Int,∃e:Int,∃h:Int,∃j:Sl,∃k:ByteArray,∃q:Sl,∃x:Sl,w.cell? (p.add 0)=some (.i d)/\w.cell? (p.add 1)=some (.i e)/\w.cell? (p.add 2)=some (.i h)/\w.cell? (p.add 3)=some (j.v)/\w.cell? (p.add 4)=some (.string k)/\w.cell? (p.add 5)=some (q.v)/\w.cell? (p.add 6)=some (x.v)/\K d e h j k q x
abbrev JE(w:J)(p:Addr)(K:Sl->Sl->Prop):Prop:=∃d:Sl,∃e:Sl,w.cell? (p.add 0)=some (d.v)/\w.cell? (p.add 1)=some (e.v)/\K d e
abbrev G5(f:cB)(xs:Array aa)(w:J)(K:Bool->J->Prop):Prop:=ai Y f xs w λe h=>∃d:Bool,e=ae (.bool d)/\K d h
abbrev qj(f:cB)(xs:Array aa)(w:J)(K:Int->J->Prop):Prop:=ai Y f xs w λe h=>∃d:Int,e=ae (.i d)/\K d h
abbrev UM(U:List Nat)(f:cB)(xs:Array aa)(w:J)(K:Int->J->Prop):Prop:=ee U Y f xs w λe h=>∃d:Int,e=ae (.i d)/\K d h
abbrev xF(f:cB)(xs:Array aa)(w:J)(K:Int->Int->Int->Sl->J->Prop):Prop:=ai Y f xs w λk q=>∃d:Int,∃e:Int,∃h:Int,∃j:Sl,k=ae (.agg #[.i d,.int .u8 e,.int .u8 h,j.v])/\K d e h j q
abbrev r6(U:List Nat)(f:cB)(xs:Array aa)(w:J)(K:Int->Int->Int->Sl->J->Prop):Prop:=ee U Y f xs w λk q=>∃d:Int,∃e:Int,∃h:Int,∃j:Sl,k=ae (.agg #[.i d,.int .u8 e,.int .u8 h,j.v])/\K d e h j q
abbrev UA(f:cB)(xs:Array aa)(w:J)(K:Int->Int->Int->ByteArray->Int->Int->J->Prop):Prop:=ai Y f xs w λx y=>∃d:Int,∃e:Int,∃h:Int,∃j:ByteArray,∃k:Int,∃q:Int,x=ae (.tuple #[.agg #[.int .u8 d,.int .u8 e,.int .u8 h,.string j,.i k],.i q])/\K d e h j k q y
abbrev UB(f:cB)(xs:Array aa)(w:J)(K:(Option Addr)->J->Prop):Prop:=ai Y f xs w λe h=>∃d:Option Addr,e=ae (.pointer d)/\K d h
abbrev Uz(f:cB)(xs:Array aa)(w:J)(K:aa->J->Prop):Prop:=ai Y f xs w λe h=>∃d:aa,e=ae (d)/\K d h
abbrev UN(U:List Nat)(f:cB)(xs:Array aa)(w:J)(K:Int->Int->Int->Sl->Int->J->Prop):Prop:=ee U Y f xs w λq x=>∃d:Int,∃e:Int,∃h:Int,∃j:Sl,∃k:Int,q=ae (.tuple #[.agg #[.i d,.int .u8 e,.int .u8 h,j.v],.i k])/\K d e h j k x
abbrev G6(f:cB)(xs:Array aa)(w:J)(K:ByteArray->J->Prop):Prop:=ai Y f xs w λe h=>∃d:ByteArray,e=ae (.string d)/\K d h
abbrev Bk(U:List Nat)(f:cB)(xs:Array aa)(w:J)(K:ByteArray->J->Prop):Prop:=ee U Y f xs w λe h=>∃d:ByteArray,e=ae (.string d)/\K d h
abbrev Qq(w:J)(p:Addr)(d e h:aa)(K:J->Prop):Prop:=aP w p d λw=>aP w (p.add 1) e λw=>aP w (p.add 2) h λw=>K w
abbrev kY(w:J)(p:Addr)(d e h j:aa)(K:J->Prop):Prop:=aP w p d λw=>aP w (p.add 1) e λw=>aP w (p.add 2) h λw=>aP w (p.add 3) j λw=>K w
abbrev Qr(w:J)(p:Addr)(d e h j k:aa)(K:J->Prop):Prop:=aP w p d λw=>aP w (p.add 1) e λw=>aP w (p.add 2) h λw=>aP w (p.add 3) j λw=>aP w (p.add 4) k λw=>K w
abbrev aaf(w:J)(p:Addr)(d e h j k q x:aa)(K:J->Prop):Prop:=aP w p d λw=>aP w (p.add 1) e λw=>aP w (p.add 2) h λw=>aP w (p.add 3) j λw=>aP w (p.add 4) k λw=>aP w (p.add 5) q λw=>aP w (p.add 6) x λw=>K w
abbrev kq:Nat:=0
abbrev bN:Nat:=3
abbrev cD:Nat:=5
abbrev fX:Nat:=9
abbrev ix:Nat:=22
abbrev c':Nat:=23
abbrev nB:Nat:=24
abbrev tU:Nat:=25
abbrev e3:Nat:=27
abbrev Rp:Nat:=29
abbrev Fi:Nat:=46
abbrev e4:Nat:=50
abbrev g9:Nat:=52
abbrev ra:Nat:=55
abbrev Fh:Nat:=64
abbrev pJ:Nat:=69
abbrev abb:Nat:=70
abbrev cg:Nat:=78
abbrev cA:Nat:=80
abbrev zK:Nat:=93
abbrev aa':Nat:=109
abbrev aa7:Nat:=129
abbrev dm:Nat:=130
abbrev aN:Nat:=132
abbrev aa9:Nat:=162
abbrev aa8:Nat:=163
abbrev tV:Nat:=165
abbrev zJ:Nat:=177
abbrev Rq:Nat:=180
abbrev oA:Nat:=182
abbrev aa6:Nat:=184
abbrev zI:Nat:=185
abbrev oz:Nat:=190
abbrev aa5:Nat:=202
abbrev iy:Nat:=208
abbrev aT:Nat:=210
abbrev hX:Nat:=219
abbrev aba:Nat:=220
abbrev wR:Nat:=222
abbrev nA:Nat:=227
abbrev jM:Nat:=235
abbrev mD:Nat:=247
abbrev Fg:Nat:=254
abbrev Fj:Nat:=274
abbrev CM:Nat:=3
abbrev Li:Nat:=4
abbrev LA:Nat:=5
abbrev Lz:Nat:=6
abbrev M1:Nat:=7
abbrev vP:Nat:=8
abbrev Kn:Nat:=9
abbrev Lf:Nat:=10
abbrev Lh:Nat:=11
abbrev sR:Nat:=12
abbrev CN:Nat:=13
abbrev Kl:Nat:=14
abbrev Lj:Nat:=15
abbrev CU:Nat:=16
abbrev yw:Nat:=17
abbrev CX:Nat:=18
abbrev M8:Nat:=19
abbrev M9:Nat:=20
abbrev LI:Nat:=21
abbrev LS:Nat:=22
abbrev M7:Nat:=23
abbrev LK:Nat:=24
abbrev LM:Nat:=25
abbrev Mh:Nat:=26
abbrev M6:Nat:=27
abbrev Kp:Nat:=28
abbrev Kr:Nat:=29
abbrev Lg:Nat:=30
abbrev Lk:Nat:=31
abbrev LB:Nat:=32
abbrev Lc:Nat:=33
abbrev K8:Nat:=34
abbrev KS:Nat:=35
abbrev Le:Nat:=36
abbrev Lb:Nat:=37
abbrev LQ:Nat:=38
abbrev LR:Nat:=39
abbrev Na:Nat:=40
abbrev ME:Nat:=41
abbrev vR:Nat:=42
abbrev M4:Nat:=43
abbrev LL:Nat:=44
abbrev LO:Nat:=45
abbrev M2:Nat:=46
abbrev Ks:Nat:=47
abbrev Kt:Nat:=48
abbrev KW:Nat:=49
abbrev Kq:Nat:=50
abbrev LD:Nat:=51
abbrev LJ:Nat:=52
abbrev LF:Nat:=54
abbrev KU:Nat:=55
abbrev K3:Nat:=56
abbrev Kz:Nat:=57
abbrev KY:Nat:=58
abbrev KZ:Nat:=59
abbrev Ld:Nat:=60
abbrev K2:Nat:=61
abbrev KX:Nat:=62
abbrev MF:Nat:=63
abbrev Kf:Nat:=64
abbrev LG:Nat:=65
abbrev MZ:Nat:=66
abbrev Nb:Nat:=67
abbrev vQ:Nat:=68
abbrev MD:Nat:=69
abbrev M3:Nat:=70
abbrev LN:Nat:=71
abbrev MA:Nat:=72
abbrev MB:Nat:=73
abbrev n5:Nat:=74
abbrev o8:Nat:=75
abbrev vM:Nat:=76
abbrev KV:Nat:=77
abbrev K4:Nat:=78
abbrev K7:Nat:=79
abbrev K5:Nat:=80
abbrev La:Nat:=81
abbrev Kw:Nat:=82
abbrev K1:Nat:=83
abbrev MR:Nat:=84
abbrev MJ:Nat:=85
abbrev MH:Nat:=86
abbrev MI:Nat:=87
abbrev Kg:Nat:=88
abbrev Ki:Nat:=89
abbrev M':Nat:=90
abbrev M5:Nat:=91
abbrev Nc:Nat:=92
abbrev Ll:Nat:=93
abbrev Lq:Nat:=94
abbrev CQ:Nat:=95
abbrev Ku:Nat:=96
abbrev KG:Nat:=97
abbrev KH:Nat:=98
abbrev K6:Nat:=99
abbrev K0:Nat:=100
abbrev KR:Nat:=101
abbrev Ky:Nat:=102
abbrev Kx:Nat:=103
abbrev Ko:Nat:=104
abbrev MS:Nat:=105
abbrev Dl:Nat:=106
abbrev MQ:Nat:=107
abbrev XO:Nat:=108
abbrev Ln:Nat:=109
abbrev Lo:Nat:=110
abbrev KJ:Nat:=111
abbrev KD:Nat:=112
abbrev CO:Nat:=113
abbrev KK:Nat:=114
abbrev Km:Nat:=115
abbrev vN:Nat:=116
abbrev KA:Nat:=117
abbrev CS:Nat:=118
abbrev KN:Nat:=119
abbrev CP:Nat:=120
abbrev KB:Nat:=121
abbrev KE:Nat:=122
abbrev ML:Nat:=123
abbrev MX:Nat:=124
abbrev MV:Nat:=125
abbrev MU:Nat:=126
abbrev MT:Nat:=127
abbrev MW:Nat:=128
abbrev Lu:Nat:=129
abbrev Lt:Nat:=130
abbrev Ls:Nat:=131
abbrev KL:Nat:=133
abbrev yx:Nat:=134
abbrev KP:Nat:=135
abbrev vL:Nat:=136
abbrev KF:Nat:=137
abbrev MO:Nat:=138
abbrev M0:Nat:=139
abbrev MY:Nat:=140
abbrev MM:Nat:=141
abbrev yF:Nat:=142
abbrev MN:Nat:=143
abbrev MK:Nat:=144
abbrev MG:Nat:=145
abbrev MP:Nat:=146
abbrev Dm:Nat:=147
abbrev XR:Nat:=148
abbrev Ly:Nat:=149
abbrev Lr:Nat:=150
abbrev KC:Nat:=153
abbrev yz:Nat:=154
abbrev KO:Nat:=155
abbrev LU:Nat:=156
abbrev CY:Nat:=157
abbrev LV:Nat:=158
abbrev KI:Nat:=161
abbrev yy:Nat:=162
abbrev KM:Nat:=163
abbrev Mg:Nat:=164
abbrev De:Nat:=165
abbrev yD:Nat:=166
abbrev Da:Nat:=167
abbrev Di:Nat:=168
abbrev LW:Nat:=169
abbrev Mb:Nat:=170
abbrev Db:Nat:=171
abbrev L8:Nat:=172
abbrev yE:Nat:=173
abbrev CR:Nat:=174
abbrev qI:Nat:=175
abbrev Dh:Nat:=176
abbrev Me:Nat:=177
abbrev Dd:Nat:=178
abbrev Df:Nat:=179
abbrev Ma:Nat:=180
abbrev L9:Nat:=181
abbrev L':Nat:=182
abbrev yC:Nat:=183
abbrev L3:Nat:=184
abbrev Md:Nat:=185
abbrev CZ:Nat:=186
abbrev vO:Nat:=187
abbrev yA:Nat:=188
abbrev yB:Nat:=189
abbrev L7:Nat:=190
abbrev Mk:Nat:=191
abbrev C':Nat:=192
abbrev qH:Nat:=193
abbrev Mn:Nat:=194
abbrev cd:Nat:=195
abbrev Mi:Nat:=196
abbrev sT:Nat:=197
abbrev sU:Nat:=198
abbrev LX:Nat:=199
abbrev CT:Nat:=200
abbrev MC:Nat:=201
abbrev Mf:Nat:=202
abbrev LY:Nat:=203
abbrev Dc:Nat:=204
abbrev Ml:Nat:=205
abbrev sS:Nat:=206
abbrev Mm:Nat:=207
abbrev XS:Nat:=208
abbrev CW:Nat:=209
abbrev CL:Nat:=210
abbrev Kk:Nat:=211
abbrev Kj:Nat:=212
abbrev Mj:Nat:=213
abbrev LZ:Nat:=214
abbrev Lw:Nat:=215
abbrev Mc:Nat:=216
abbrev Dj:Nat:=217
abbrev Mq:Nat:=218
abbrev Mo:Nat:=219
abbrev Mp:Nat:=220
abbrev Mx:Nat:=221
abbrev Mu:Nat:=222
abbrev Mw:Nat:=223
abbrev Mv:Nat:=224
abbrev XQ:Nat:=226
abbrev XP:Nat:=227
abbrev CV:Nat:=228
abbrev My:Nat:=229
abbrev Dk:Nat:=230
abbrev Mz:Nat:=231
abbrev Mr:Nat:=232
abbrev Ms:Nat:=233
abbrev Mt:Nat:=234
namespace HR
noncomputable abbrev t0:=az Y Tryz.f12 [] []
noncomputable abbrev S0:=av t0 [2] [(0,.v [.I]),(1,.v [.I])]
noncomputable abbrev t1:=ay S0
def ok:=aA t1 sR [.I,.I]
end HR
namespace u6
noncomputable abbrev t0:=az Y Tryz.f115 [] []
noncomputable def L0:=bf t0 [0,1,1,1,1] [(0,.v [.s]),(1,.v [.I]),(5,.v [.I])]
noncomputable abbrev t1:=be L0
def bC:=bg t1 L0
def ok:=aA t1 Km [.s,.I]
end u6
namespace su
noncomputable abbrev t0:=az Y Tryz.f104 [(6,ls [0,1,2,3,4,5,6,7,8])] []
noncomputable def L0:=bf t0 [0,1,1,1,2] [(0,.v [.s]),(1,.v [.s]),(5,.v [.I])]
noncomputable abbrev t1:=be L0
def bC:=bg t1 L0
def ok:=aA t1 Ko [.s,.s]
end su
namespace u7
noncomputable abbrev t0:=az Y Tryz.f9 [(6,ls [0,1,2,3,4,5,6,7,8])] []
noncomputable def L0:=bf t0 [0,1,1,1,2] [(0,.v [.s]),(1,.v [.s]),(5,.v [.I])]
noncomputable abbrev t1:=be L0
def bC:=bg t1 L0
def ok:=aA t1 Kn [.s,.s]
end u7
open Go Go.W Go.RowKit Go.Lib
def kH:g0 Y c' cD (.int .u8 0) 1 1:=⟨by kernel_rfl,by kernel_rfl,rfl,by decide,by decide⟩
def ic:g0 Y ix bN (.int .i64 0) 1 8:=⟨by kernel_rfl,by kernel_rfl,rfl,by decide,by decide⟩
abbrev Bytes(w:J)(s:Sl)(U:List UInt8):Prop:=Rd w s (U.map bD)
abbrev eU(w:J)(s:Sl)(U:List UInt8):Prop:=Ow w cD s (U.map bD)
abbrev bo(w:J)(s:Sl)(l:List Int):Prop:=Rd w s (l.map a')
abbrev xf(w:J)(s:Sl)(l:List Int):Prop:=Ow w bN s (l.map a')
def Bytes.len{w:J}{s:Sl}{U:List UInt8}(h:Bytes w s U):s.n=U.length:=by simpa using h.1
def bo.len{w:J}{s:Sl}{U:List Int}(h:bo w s U):s.n=U.length:=by simpa using h.1
def Bytes.cell{w:J}{s:Sl}{U:List UInt8}(h:Bytes w s U){i j:Nat}{b:UInt8}(V:U[i]? =some b)(d:j=i *1){K:Addr->Prop}(e:∀p,s.a=some p->w.cell? (p.add j)=some (.int .u8 (b.toNat:Int))->K p):W.dM s.a K:=
 Rd.get h (i:=i) (v:=bD b) (by simp[V]) d e
def bo.cell{w:J}{s:Sl}{l:List Int}(h:bo w s l){i j:Nat}{b:Int}(V:l[i]? =some b)(d:j=i *1){K:Addr->Prop}(e:∀p,s.a=some p->w.cell? (p.add j)=some (.int .i64 b)->K p):W.dM s.a K:=
 Rd.get h (i:=i) (v:=a' b) (by simp[V]) d e
def Bytes.sub{w:J}{s:Sl}{U:List UInt8}(h:Bytes w s U)(l V:Nat)(e:l<=V)(d:V<=U.length):Bytes w (sub s l V) ((U.take V).drop l):=by
 have:=Rd.sub h l V e (by simpa using d)
 rwa[<-List.map_take,<-List.map_drop]at this
def uG{ty:aC}{w:J}{s src:Sl}{xs h:List UInt8}(B:eU w s xs)(C:Bytes w src h)(A:xs.length+h.length<=140737488355328):
  ∃d e,(dY #[c',c'] ty #[s.v,src.v]).run Y w=.ok d.v e/\eU e d (xs++h)/\Fr (λb=>b∈ax s) w e/\(∀b∈ax d,b∈ax s\/w.heap.size<=b)/\(d.a=none->s.a=none/\h=[]):=by obtain⟨d,e,q,x,y,z,j⟩:=Gg (ty:=ty) kH B C (xy _) (by simpa using A);exact⟨d,e,q,by unfold eU;rw[List.map_append];exact x,y,z,λk=>⟨(j k).1,by simpa using(j k).2⟩⟩
def SQ{ty:aC}{w:J}{s src:Sl}{xs h:List Int}(A:xf w s xs)(B:bo w src h)(C:xs.length+h.length<=10000000000000):
  ∃d e,(dY #[ix,ix] ty #[s.v,src.v]).run Y w=.ok d.v e/\xf e d (xs++h)/\Fr (λb=>b∈ax s) w e/\(∀b∈ax d,b∈ax s\/w.heap.size<=b)/\(d.a=none->s.a=none/\h=[]):=by obtain⟨d,e,q,x,y,z,j⟩:=Gg (ty:=ty) ic A B (qA _) (by simp;omega);exact⟨d,e,q,by unfold xf;rw[List.map_append];exact x,y,z,λk=>⟨(j k).1,by simpa using(j k).2⟩⟩
def NG(w:J)(T:aC)(cs:List aa)(h:cs.length<=1000000):Rd (w.alloc (.cells cs.toArray T)) ⟨some ⟨w.heap.size,0,none⟩,cs.length,cs.length⟩ cs:=(Ow.made w T cs _ rfl h).rd
def Dz(w:J)(b:UInt8):Bytes (w.alloc (.cells #[.int .u8 (b.toNat:Int)] cD)) ⟨some ⟨w.heap.size,0,none⟩,1,1⟩ [b]:=NG w cD [bD b] (by simp)
def one_num(w:J)(b:Int):bo (w.alloc (.cells #[.int .i64 b] bN)) ⟨some ⟨w.heap.size,0,none⟩,1,1⟩ [b]:=NG w bN [a' b] (by simp)
def bl(s:ByteArray):List UInt8:=s.data.toList
def ba(l:List UInt8):ByteArray:=⟨l.toArray⟩
def mS(l:List UInt8):bl (ba l)=l:=rfl
def l8(s:ByteArray):ba (bl s)=s:=rfl
def dH(s:ByteArray):(bl s).length=s.size:=rfl
def cP(l:List UInt8):(ba l).size=l.length:=by simp[ba,ByteArray.size]
def aaz(s:ByteArray):strCells s=(bl s).map bD:=by simp[strCells,bl,bD]
def tM:Tryz.prog.underlying fX=some .string:=by kernel_rfl
def Fl:Tryz.prog.underlying cD=some (.int .u8):=by kernel_rfl
def Gh{ty:aC}{w:J}{s:Sl}{xs:List UInt8}(z:eU w s xs)(t:ByteArray)(hb:xs.length+t.size<=140737488355328):
  ∃d h,(dY #[c',fX] ty #[s.v,.string t]).run Y w=.ok d.v h/\eU h d (xs++bl t)/\Fr (λb=>b∈ax s) w h/\(∀b∈ax d,b∈ax s\/w.heap.size<=b):=by
 obtain⟨i,B,N,E,H⟩:=info_parts kH.V;have K:s.n=xs.length:=by simpa using z.1
 have main:∀base,base<=w.heap.size->w.ownsRow base cD 1 s.v s.n (xs.map bD)->∃y h,(dY #[c',fX] ty #[s.v,.string t]).run Y w=.ok y h/\h.ownsRow base cD 1 y (s.n+t.size) (xs.map bD++strCells t)/\w.grownBy h s.v.ownBlock/\(y=.slice none 0 0↔s.v=.slice none 0 0/\t.size=0):=
  λbase U T=>run_append_own_string (P:=Y) w base c' fX ty cD i kH.ht tM B N E H s.v s.n (xs.map bD) T t (by unfold maxLen;omega) (by omega) U
 obtain⟨y,h,A,M,ac,al⟩:=main 0 (dv _) z.2;have hv:∃d:Sl,y=d.v/\d.n=s.n+t.size:=by
  rcases M.2 with⟨j,x⟩|⟨g,cap,cur,j,_⟩
  .exact ⟨⟨none,0,0⟩,j,by show 0=_;omega⟩
  .exact ⟨⟨_,_,_⟩,j,rfl⟩
 obtain⟨d,rfl,L⟩:=hv;have Z:Fr (λb=>b∈ax s) w h:=by
  refine Fr.grown ac λg e=>?_;rw[NP]at e;cases D:s.a with
  |none=>simp[D]at e
  |some p=>simp[D]at e;simp[ax,D,e]
 refine⟨d,h,A,⟨?_,?_⟩,Z,?_⟩
 .rw [L,K];simp[dH]
 .have x:=M;rw[aaz,<-List.map_append]at x;unfold aK;rw[L];exact x
 .intro g e;rcases z.2.cases with⟨rfl,hx⟩|⟨q,cur,I,ab,ad,ak,W,ah⟩
  .obtain ⟨v2,w2,ag,ae,_,_⟩:=main w.heap.size (Nat.le_refl _) (by rw[hx];exact World.ownsRow_nil w _ _ _);have k:(Result.ok d.v h:Result aa)=.ok v2 w2:=A.symm.trans ag;have Q:=(Result.ok.inj k).1;subst Q;rcases ae.2 with⟨j,_⟩|⟨S,ai,aj,j,x,_⟩
   .have:d.a=none:=(Value.slice.inj j).1;simp[ax,this]at e
   .have:d.a=some ⟨S,0,none⟩:=(Value.slice.inj j).1;simp[ax,this]at e;exact .inr (e▸x)
  .obtain ⟨am,G,F⟩:=s;simp only at I ad W ah K;subst I;by_cases af:G+t.size<=F
   .have C:=run_append_room_string (P:=Y) w c' fX ty cD i kH.ht tM B E q G F cur ab t af (by omega);have k:=A.symm.trans C;have:d.a=some ⟨q,0,none⟩:=(Value.slice.inj (Result.ok.inj k).1).1;simp[ax,this]at e ⊢;exact .inl e
   .have holds:∀O u,(xs.map bD)[O]? =some u->w.cell? ((⟨q,0,none⟩:Addr).add O)=some u:=World.ownsRow.cells (g:=q) z.2 rfl;have C:=run_append_grow_string (P:=Y) w c' fX ty cD i (.int .u8 0) kH.ht tM B N ⟨q,0,none⟩ G F (xs.map bD) (by rw[E];simp;omega) holds t (by omega) (by omega) (growslice_fits (by omega) (by rw[H];omega));have k:=A.symm.trans C;have:d.a=some ⟨w.heap.size,0,none⟩:=(Value.slice.inj (Result.ok.inj k).1).1;simp[ax,this]at e;exact .inr (by omega)
def ma{w:J}{s:Sl}{U:List UInt8}(h:Bytes w s U):(Go.convert c' fX s.v).run Y w=.ok (.string (ba U)) w:=by
 obtain⟨a,n,c⟩:=s;have e:=Bytes.len h;simp only at e;subst e;cases a with
 |none=>
  obtain⟨d,k⟩:=h.2.2.1 rfl;simp only at d k;obtain rfl:U=[]:=D0 d;rw[run_convert_bytes_string (P:=Y) w c' fX cD _ _ _ kH.ht Fl tM];rfl
 |some p=>
  refine run_convert_bytes_back (P:=Y) w c' fX cD p c U kH.ht Fl tM λj x=>?_;obtain⟨z,y,q⟩:=h.2.2.2 j (bD U[j]) (by simp[a4 x]);cases y;exact q
def EX(w:J)(t:ByteArray):∃e d,(Go.convert fX c' (.string t)).run Y w=.ok e.v d/\Bytes d e (bl t)/\ag w d/\(∀b∈ax e,w.heap.size<=b/\b<d.heap.size):=by
 refine⟨⟨some ⟨w.heap.size,0,none⟩,t.size,grownCap w t.size 0 cD⟩,_,run_bytes_of_string (P:=Y) w fX c' cD t tM kH.ht Fl,⟨?_,?_,?_⟩,?_,?_⟩
 .simp [dH]
 .exact grownCap_ge w t.size 0 _
 .refine Row.r' (T:=cD) (.inr ⟨w.heap.size,0,_,_,rfl,j2 w.drew _,λi v h=>?_⟩);rw[Nat.zero_add,bytesRow,Array.getElem?_append];have k:i<t.data.size:=by have:=(List.getElem?_eq_some_iff.1 h).1;simpa[bl]using this
  rw[aq (by simpa using k)];simpa[bl,bD]using h
 .exact (Fr.drew _ w).dA (Fr.alloc _ _ _)
 .intro b j;simp[ax]at j;have:(w.drew.alloc (.cells (bytesRow t (grownCap w t.size 0 cD)) cD ((bytesRow t (grownCap w t.size 0 cD)).size,(bytesRow t (grownCap w t.size 0 cD)).size+1))).heap.size=w.heap.size+1:=size_alloc _ _;omega
def J4{t e:aC}{z:aa}{bytes:Nat}(h:g0 Y t e z 1 bytes)(w:J)(k j:hC)(n:Nat)(F:n *bytes<=140737488355328):
  ∃d,(Instr.makeSlice t (.int k 0) (.int j (n:Int))).run Y w=.ok (.slice (some ⟨w.heap.size,0,none⟩) 0 n) d/\Ow d e ⟨some ⟨w.heap.size,0,none⟩,0,n⟩ []/\ag w d:=by
 obtain⟨i,C,E,D,B⟩:=info_parts h.V;have G:n<=140737488355328:=by have:=Nat.le_mul_of_pos_right n h.hb;omega
 obtain⟨d,x,y,A⟩:=run_make_own (P:=Y) w 0 t e i z 1 h.ht C E D k j n (by rw[B,Nat.mul_comm];omega) (by unfold maxLen;omega) (dv _);exact⟨d,x,⟨rfl,y⟩,Fr.grown A λ_ q=>by cases q⟩
def v'{w:J}{s:Sl}{vs:List aa}(k:s.n=vs.length)(j:s.n<=s.c)(d:s.a=none->s.c=0)(h:∀i v,vs[i]? =some v->∃p,s.a=some p/\w.cell? (p.add i)=some v):Rd w s vs:=
 ⟨k,j,λe=>⟨by have:=d e;omega,d e⟩,h⟩
def ArgNums(w:J)(s:Sl):Prop:=∃l:List Int,bo w s l/\l.length<=9223372036854775807/\∀d∈l,-9223372036854775808<=d/\d<=9223372036854775807
def ArgBytes(w:J)(s:Sl):Prop:=∃l:List UInt8,Bytes w s l/\l.length<=9223372036854775807
def arg_nums_nil(w:J):ArgNums w ⟨none,0,0⟩:=⟨[],Rd.nil w,by simp,by simp⟩
def arg_bytes_nil(w:J):ArgBytes w ⟨none,0,0⟩:=⟨[],Rd.nil w,by simp⟩
def arg_nums(w:J)(x:Addr)(len cap:Nat)(d:List Int)(B:len<=d.length)(q:len<=cap)(A:cap<=maxLen)(k:∀i,i<d.length->w.cell? (x.add i)=some (.int .i64 (d.getD i 0)))(z:∀n∈d,IntKind.min .i64<=n/\n<=IntKind.max .i64):ArgNums w ⟨some x,len,cap⟩:=by
 refine⟨d.take len,v' (by simp;omega) q (λj=>by cases j) (λi v e=>?_),?_,λn y=>z n (List.mem_of_mem_take y)⟩
 .rw [hr,List.getElem?_take]at e;split at e
  .have h:i<d.length:=by omega
   refine⟨x,rfl,?_⟩;rw[k i h,List.getD_eq_getElem?_getD];rw[a4 h]at e ⊢;simpa[a']using e
  .simp at e
 .have:len<=maxLen:=by omega
  unfold maxLen at this;simp;omega
def arg_bytes(w:J)(x:Addr)(len cap:Nat)(d:List Int)(C:len<=d.length)(q:len<=cap)(B:cap<=maxLen)(k:∀i,i<d.length->w.cell? (x.add i)=some (.int .u8 (d.getD i 0)))(y:∀n∈d,IntKind.min .u8<=n/\n<=IntKind.max .u8):ArgBytes w ⟨some x,len,cap⟩:=by
 refine⟨(d.take len).map (λn=>cE n.toNat),v' (by simp;omega) q (λh=>by cases h) (λi v e=>?_),?_⟩
 .rw [hr,hr,List.getElem?_take]at e;split at e
  .have j:i<d.length:=by omega
   refine⟨x,rfl,?_⟩;rw[k i j,List.getD_eq_getElem?_getD];rw[a4 j]at e ⊢;have h:=y d[i] (List.getElem_mem j);have z:0<=d[i]:=h.1;have A:d[i]<=255:=h.2;simp only[Option.map_some,Option.some.injEq]at e;rw[<-e];simp[bD];omega
  .simp at e
 .have:len<=maxLen:=by omega
  unfold maxLen at this;simp;omega
def hH(w:J)(U:List UInt8):aH:=λr d=>∃s:Sl,r=ae s.v/\eU d s U/\ag w d/\∀b∈ax s,w.heap.size<=b
def gz(n m:Int):Int:=if n<0 then Int.tmod (0 - (n+1)) m else Int.tmod n m
def iY(n m:Int)(d:1<=m):0<=gz n m/\gz n m<m:=by
 unfold gz;split
 .exact ⟨Int.tmod_nonneg _ (by omega),Int.tmod_lt_of_pos _ (by omega)⟩
 .exact ⟨Int.tmod_nonneg _ (by omega),Int.tmod_lt_of_pos _ (by omega)⟩
abbrev a7(n:Int):Prop:=-9223372036854775808<=n/\n<=9223372036854775807
def AR(n m:Int)(w:J)(q:1<=m)(h:a7 n):
  ai Y sR #[.int .i64 n,.int .i64 m] w λr e=>r=ae (.int .i64 (gz n m))/\w=e:=by
 obtain⟨j,k⟩:=h;refine HR.ok n m w _ ?_;refine bB (λh=>?_) (λh=>?_)
 .have d:n<0:=by simpa using h
  refine⟨by omega,?_,rfl⟩;rw[show aj .i64 (n+1)=n+1 from aQ _ (by omega),show aj .i64 (0 - (n+1))=0 - (n+1)from aQ _ (by omega)];unfold gz;rw[aq d]
 .have d:¬n<0:=by simpa using h
  refine⟨by omega,?_,rfl⟩;unfold gz;rw[af d]
def ZO{w:J}{s t:Sl}{a b:List Int}(z:bo w s a)(A:bo w t b)(H:a.length<=1000000000000):
  ai Y Ko #[s.v,t.v] w λr e=>r=ae (.bool (ak (a=b)))/\ag w e:=by
 have j:=bo.len z;have y:=bo.len A;refine su.ok s t w _ ?_;refine bB (λd=>?_) (λd=>?_)
 .refine ⟨?_,Fr.refl _ _⟩;have:a≠b:=λh=>by subst h;rw[j,y]at d;simp at d
  simp[this]
 .have hlen:a.length=b.length:=by rw[j,y]at d;simp at d;omega
  have main:∀(n i:Nat),i+n=a.length->a.take i=b.take i->∀e,ag w e->su.L0 s t (i:Int) e λr e=>r=ae (.bool (ak (a=b)))/\ag w e:=by
   intro n;induction n with
   |zero=>
    intro i D q e x;refine su.bC _ _ _ _ _ ?_;refine aZ (by rw[j];simp;omega) ⟨?_,x⟩;rw[List.take_of_length_le (by omega),List.take_of_length_le (by omega)]at q;simp[q]
   |succ n G=>
    intro i D q e x;have B:a[i]? =some a[i]:=a4 (by omega);have C:b[i]? =some b[i]:=a4 (by omega);refine su.bC _ _ _ _ _ ?_;have k:ag w e.drew:=x.dA (Fr.drew _ _);refine a1 (by rw[j];simp;omega) ⟨by omega,by rw[j];omega,bo.cell (z.br k) B (by simp) λp _ E=>⟨_,E,by omega,by rw[y];omega,bo.cell (A.br k) C (by simp) λI _ F=>⟨_,F,bB (λd=>?_) (λd=>?_)⟩⟩⟩
    .refine ⟨?_,k⟩;have:a≠b:=λh=>by subst h;simp at d
     simp[this]
    .show su.L0 s t (aj .i64 ((i:Int)+1)) _ _;rw[show aj .i64 ((i:Int)+1)=((i+1:Nat):Int)from by rw[aQ _ (by omega)];omega];refine G (i+1) (by omega) ?_ _ k;have h:a[i]=b[i]:=by simpa using d
     rw[eA,eA,B,C,q,h]
  exact main a.length 0 (by omega) (by simp) w (Fr.refl _ _)
def dT(n:Nat):List UInt8:=if n<128 then[cE n]else cE (n%128+128)::dT (n / 128)
termination_by n
decreasing_by omega
def lu{n:Nat}(h:n<128):dT n=[cE n]:=by rw[dT,aq h]
def mg{n:Nat}(h:¬n<128):dT n=cE (n%128+128)::dT (n / 128):=by rw[dT,af h]
def Vn(n:Nat):dT n≠[]:=by
 by_cases d:n<128
 .rw [lu d];simp
 .rw [mg d];simp
def HO:∀(d n:Nat),n<2 *128^d->(dT n).length<=d+1
 |0,n,e=>by rw[lu (by omega)];simp
 |d+1,n,e=>by
  by_cases h:n<128
  .rw [lu h];simp
  .rw [mg h];have:=HO d (n / 128) (by rw[Nat.pow_succ]at e;omega);simp;omega
inductive RU where
 |more
 |form
 |ok (n:Nat) (rest:List UInt8)
def iG(k:Nat)(c:UInt8):Bool:=(k==9&&ak (1<c.toNat))||(ak (0<k)&&c.toNat==0)
def iJ:Nat->List UInt8->RU
 |_,[]=>.more
 |d,c::l=>if iG d c then .form else if c.toNat<128 then .ok c.toNat l else
  match iJ (d+1) l with
  |.ok n r=>.ok (c.toNat%128+128 *n) r
  |.more=>.more
  |.form=>.form
def HC:∀(d k n:Nat) (r:List UInt8),k+d=9->n<2 *128^d->(0<k->0<n)->iJ k (dT n++r)=.ok n r
 |d,k,n,r,A,q,y=>by
  by_cases h:n<128
  .rw [lu h];have j:iG k (cE n)=false:=by
    have e:(cE n).toNat=n:=by simp;omega
    unfold iG;rw[e];simp;refine⟨λw=>?_,λx=>by have:=y x;omega⟩;subst w;have:d=0:=by omega
    subst this;simp at q;omega
   have e:(cE n).toNat=n:=by simp;omega
   simp[iJ,j,e,h]
  .rw [mg h];have e:(cE (n%128+128)).toNat=n%128+128:=by simp;omega
   match d with
   |0=>simp at q;omega
   |d+1=>
    have j:iG k (cE (n%128+128))=false:=by unfold iG;rw[e];simp;omega
    have z:=HC d (k+1) (n / 128) r (by omega) (by rw[Nat.pow_succ]at q;omega) (by omega);simp only[List.cons_append,iJ,j,e,z];rw[af (by simp),af (by omega)];congr 1;omega
def xL:∀(d k:Nat) (U:List UInt8) (n:Nat) (r:List UInt8),k+d=9->iJ k U=.ok n r->U=dT n++r/\n<2 *128^d/\(0<k->0<n)
 |_,_,[],_,_,_,e=>by simp[iJ]at e
 |d,k,c::l,n,r,K,e=>by
  have I:=c.toNat_lt;simp only[iJ]at e;cases x:iG k c with
  |true=>rw[x]at e;simp at e
  |false=>
   rw[x]at e;simp at e;have h:=x;unfold iG at h;simp at h;by_cases q:c.toNat<128
   .rw [aq q]at e;injection e with y w
    subst y w;refine⟨by rw[lu q];simp,?_,λE=>by have:=h.2 E;omega⟩
    match d with
    |0=>have:=h.1 (by omega);simp;omega
    |d+1=>rw[Nat.pow_succ];have:=Nat.pow_pos (n:=d) (show 0<128 by omega);omega
   .rw [af q]at e
    match d with
    |0=>have:=h.1 (by omega);omega
    |d+1=>
     cases j:iJ (k+1) l with
     |more=>rw[j]at e;cases e
     |form=>rw[j]at e;cases e
     |ok z F=>
      rw[j]at e;injection e with y w
      obtain⟨A,G,B⟩:=xL d (k+1) l z F (by omega) j;have H:=B (by omega);subst w;refine⟨?_,by rw[Nat.pow_succ];omega,λ_=>by omega⟩;rw[mg (by omega)];have C:n%128+128=c.toNat:=by omega
      have D:n / 128=z:=by omega
      rw[C,D,A];simp
structure RS where
 U:List UInt8
 err:Int
def eS(s:RS):Nat×RS:=
 if s.err≠0 then(0,s)else
 match iJ 0 s.U with
 |.more=>(0,⟨s.U,3⟩)
 |.form=>(0,⟨s.U,2⟩)
 |.ok n r=>(n,⟨r,0⟩)
def zz(n:Int):Nat:=if 0<=n then(2 *n).toNat else(-(2 *n) - 1).toNat
def nC(u:Nat):Int:=if u%2=0 then(u / 2:Nat)else -((u / 2:Nat):Int) - 1
def abd(n:Int):nC (zz n)=n:=by unfold nC zz;split<;>split<;>omega
def abA(u:Nat):zz (nC u)=u:=by unfold nC zz;split<;>split<;>omega
def z5(n:Int)(d:-9223372036854775808<=n)(e:n<=9223372036854775807):zz n<18446744073709551616:=by unfold zz;split<;>omega
def Rv(u:Nat)(h:u<18446744073709551616):-9223372036854775808<=nC u/\nC u<=9223372036854775807:=by unfold nC;split<;>omega
def a3(s:RS):Int×RS:=(nC (eS s).1,(eS s).2)
def hV(s:RS):Nat×RS:=
 let (n,s'):=eS s
 if s'.err≠0 then(0,s')else if s'.U.length<n then(0,⟨s'.U,3⟩)else(n,s')
def bX(s:RS):List UInt8×RS:=
 let (n,s'):=hV s
 if s'.err≠0 then([],s')else(s'.U.take n,⟨s'.U.drop n,0⟩)
def eQ:Nat->RS->List Int×RS
 |0,s=>([],s)
 |n+1,s=>
  let (x,s'):=a3 s
  if s'.err≠0 then([],s')else
  let (l,Ez):=eQ n s'
  if Ez.err≠0 then([],Ez)else(x::l,Ez)
def cI(s:RS):List Int×RS:=
 let (n,s'):=hV s
 if s'.err≠0 then([],s')else eQ n s'
def hU(s:RS):Int:=if s.err≠0 then s.err else if 0<s.U.length then 2 else 0
def bt(n:Int):List UInt8:=dT (zz n)
def df(b:List UInt8):List UInt8:=dT b.length++b
def cH(l:List Int):List UInt8:=dT l.length++l.flatMap bt
def ei(n:Nat)(h:n<18446744073709551616):(dT n).length<=10:=HO 9 n (by simpa using h)
def cR(n:Int)(h:a7 n):(bt n).length<=10:=ei _ (z5 n h.1 h.2)
namespace zP
noncomputable abbrev t0:=az Y Tryz.f139 [] [1]
abbrev P0:Ps:=[]
noncomputable abbrev bM:=av t0 [0,1,1,1,3] P0
noncomputable abbrev t1:=ay bM
noncomputable abbrev bV:=av t1 [0,1,1,1,4] P0
noncomputable abbrev t2:=ay bV
noncomputable abbrev cM:=av t2 [5] P0
noncomputable abbrev t3:=ay cM
noncomputable abbrev bn:=av t3 [3] [(1,.l [.I,.I,.I] cg),(3,.v [.I]),(4,.v [.I]),(5,.v [.b])]
noncomputable abbrev t4:=ay bn
def aB:=aA t4 M0 [.a 3,.I,.I,.I]
end zP
namespace nz
noncomputable abbrev t0:=az Y Tryz.f138 [] []
abbrev P0:Ps:=[]
noncomputable abbrev S0:=av t0 [0,1,1,1,1] P0
noncomputable abbrev t1:=ay S0
abbrev P1:Ps:=[(0,.v [.st]),(3,.v [.I])]
noncomputable def L1:=bf t1 [0,1,1,1,2] P1
noncomputable abbrev t2:=be L1
noncomputable abbrev S4:=av t2 [0,1,3,2,1,2,1,1,2] P0
noncomputable abbrev t3:=ay S4
noncomputable abbrev S5:=av t3 [2,2,1,1,2] P1
noncomputable abbrev t4:=ay S5
noncomputable abbrev S3:=av t4 [2,2,1,2,1,1,2] [(0,.v [.st]),(3,.v [.I]),(4,.v [.Y]),(5,.v [.b])]
noncomputable abbrev t5:=ay S3
noncomputable abbrev S2:=av t5 [1,2,1,2,1,1,2] [(0,.v [.st]),(3,.v [.I]),(4,.v [.Y])]
noncomputable abbrev t6:=ay S2
def fI:=bg t6 L1
def ok:=aA t6 MO [.st]
end nz
namespace wK
noncomputable abbrev t0:=az Y Tryz.f123 [] []
noncomputable abbrev S1:=av t0 [3] [(0,.v [.r]),(3,.v [.b]),(4,.v [.b]),(5,.v [.b]),(6,.v [.b])]
noncomputable abbrev t1:=ay S1
noncomputable abbrev S0:=av t1 [0,1,1,1,1,1,2] [(0,.v [.r]),(3,.v [.b]),(4,.v [.b]),(5,.v [.b])]
noncomputable abbrev t2:=ay S0
noncomputable abbrev S3:=av t2 [0,1,7,1,1,1,2] [(0,.v [.r]),(4,.v [.b]),(5,.v [.b]),(6,.v [.b])]
noncomputable abbrev t3:=ay S3
noncomputable abbrev S2:=av t3 [2,1,1,1,2] [(0,.v [.r]),(3,.v [.b]),(4,.v [.b]),(5,.v [.b]),(6,.v [.b]),(10,.v [.I])]
noncomputable abbrev t4:=ay S2
def ok:=aA t4 ML [.r]
end wK
namespace QW
noncomputable abbrev t0:=az Y Tryz.f144 [] [2]
def aB:=aA t0 MK [.I]
end QW
namespace Re
noncomputable abbrev t0:=az Y Tryz.f140 [] [2]
def aB:=aA t0 MY [.I]
end Re
namespace QY
noncomputable abbrev t0:=az Y Tryz.f143 [] [1]
def aB:=aA t0 MN [.a 3,.I,.I,.I]
end QY
namespace Q'
noncomputable abbrev t0:=az Y Tryz.f146 [] [1]
def aB:=aA t0 MP [.a 3,.I,.I,.I]
end Q'
namespace QX
noncomputable abbrev t0:=az Y Tryz.f141 [] [1]
def aB:=aA t0 MM [.a 3,.I,.I,.I]
end QX
namespace QS
noncomputable abbrev t0:=az Y Tryz.f145 [] [2,3]
def aB:=aA t0 MG [.a 3,.I,.I,.I,.a 3,.I,.I,.I]
end QS
namespace Rb
noncomputable abbrev t0:=az Y Tryz.f142 [] [3,6]
def aB:=aA t0 yF [.a 3,.I,.I,.I,.b,.b]
end Rb
namespace E7
noncomputable abbrev t0:=az Y Tryz.f124 [(7,ls [0,1,2,3,4,5,6,7,8])] []
noncomputable abbrev S0:=av t0 [4] [(0,.v [.r]),(4,.v [.r])]
noncomputable abbrev t1:=ay S0
def ok:=aA t1 MX [.r,.f]
end E7
namespace E6
noncomputable abbrev t0:=az Y Tryz.f125 [(14,ls [0,1,2,3,4,5,6,7,8,9,10,11,12,13,14,15,16,17,18])] [2]
noncomputable abbrev bn:=av t0 [6] [(0,.v [.r]),(2,.l [.I,.I,.I] cg)]
noncomputable abbrev t1:=ay bn
def aB:=aA t1 MV [.r]
end E6
namespace E5
noncomputable abbrev t0:=az Y Tryz.f126 [(4,ls [0,1,2,3,4,5,6,7]),(7,ls [1,0,2,3,4,5,6,7,8,9,10,11,12]),(9,ls [1,2,0,3,4,5,6,7,8]),(14,ls [0,1,2,3,4,5,6,7,8,9,10,11,12,13]),(16,ls [0,1,2,3,4,6,12,13,14,15,16,17,5,7,8,9,10,11,18,19,20,21,22]),(18,ls [0,1,2,3,4,5,6,7,8,9,11,13,14,15,16,17,10,12,18,19,20,21,22,23,24,25,26,27,28,29,30,31,32,33,34,35,36,37,38,39,40,41,42]),(21,ls [0,1,2,3,4,5,6,8,10,11,12,13,14,7,9,15,16,17,18,19,20,21,22,23,24,25,26,27,28,29]),(22,ls [0,1,2,3,4,5,6,7,8,9,10,11,12])] [5,6,7,8,10]
noncomputable abbrev bn:=av t0 [0,1,1,1,1,1,1] [(5,.l [.I,.I,.I] cg),(8,.l [.I,.I,.I] cg)]
noncomputable abbrev t1:=ay bn
abbrev P0:Ps:=[(5,.l [.I,.I,.I] cg),(6,.l [.I,.I,.I] cg),(8,.l [.I,.I,.I] cg)]
noncomputable abbrev bV:=av t1 [0,1,3,1,1,1,1] P0
noncomputable abbrev t2:=ay bV
noncomputable abbrev fK:=av t2 [2,1,7,1,1,1,1] [(5,.l [.I,.I,.I] cg),(6,.l [.I,.I,.I] cg),(7,.l [.I,.I,.I] cg),(8,.l [.I,.I,.I] cg),(10,.l [.I,.I,.I] cg)]
noncomputable abbrev t3:=ay fK
noncomputable abbrev lg:=av t3 [0,1,13,1,1,1,1] [(0,.v [.r]),(5,.l [.I,.I,.I] cg),(8,.l [.I,.I,.I] cg)]
noncomputable abbrev t4:=ay lg
noncomputable abbrev iV:=av t4 [2] P0
noncomputable abbrev t5:=ay iV
abbrev P1:Ps:=[(0,.v [.r]),(5,.l [.I,.I,.I] cg),(6,.l [.I,.I,.I] cg),(7,.l [.I,.I,.I] cg),(8,.l [.I,.I,.I] cg),(14,.v [.I])]
noncomputable abbrev cM:=av t5 [4,1,1,1,1] P1
noncomputable abbrev t6:=ay cM
noncomputable abbrev bM:=av t6 [2,1,1,1,1] P1
noncomputable abbrev t7:=ay bM
def aB:=aA t7 MU [.r,.a 3,.I,.I,.I,.a 3,.I,.I,.I,.a 3,.I,.I,.I]
end E5
namespace zD
noncomputable abbrev t0:=az Y Tryz.f127 [(2,ls [0,1,3,2,4,5,6,7,8,9,10,11,12,13,14]),(6,ls [0,1,2,3,4,5,6,7,8,9]),(10,ls [0,1,2,3,4,5,6,7,8,9,10,11,12,13,14,15,16,17]),(11,ls [0,1,2,3,4,5,6,7,8,9,10,11])] [5,6,7,8,10]
noncomputable abbrev bM:=av t0 [5] [(0,.v [.r]),(5,.l [.I,.I,.I] cg),(7,.l [.I,.I,.I] cg),(8,.l [.I,.I,.I] cg),(10,.l [.I,.I,.I] cg),(11,.v [.b])]
noncomputable abbrev t1:=ay bM
noncomputable abbrev bn:=av t1 [4] [(0,.v [.r]),(5,.l [.I,.I,.I] cg),(6,.l [.I,.I,.I] cg),(7,.l [.I,.I,.I] cg),(8,.l [.I,.I,.I] cg),(10,.l [.I,.I,.I] cg)]
noncomputable abbrev t2:=ay bn
def aB:=aA t2 MT [.r,.a 3,.I,.I,.I,.a 3,.I,.I,.I,.a 3,.I,.I,.I]
end zD
namespace Rc
noncomputable abbrev t0:=az Y Tryz.f128 [(3,ls [1,0,2,3,4,5,6,7]),(5,ls [1,3,4,5,6,7,0,2,8,9,10,11,12,13,14,15,16,17,18,19]),(7,ls [0,1,2,3,4,6,12,13,14,15,16,17,5,7,8,9,10,11,18,19,20,21,22]),(9,ls [0,1,2,3,4,5,6,7,8,9,10,11,12,13,14,15,16,17]),(11,ls [1,0,2,3,4,5,6,7,8,9,10,11]),(13,ls [0,1,2,3,4,6,16,17,18,19,20,21,5,7,8,9,10,11,12,13,14,15,22,23,24,25,26]),(15,ls [1,0,2,3,4,5,6,7,8])] [5,6,7,8]
def aB:=aA t0 MW [.r,.a 3,.I,.I,.I,.a 3,.I,.I,.I,.a 3,.I,.I,.I]
end Rc
namespace pH
noncomputable abbrev t0:=az Y Tryz.f105 [(1,ls [0,1,2,3,4,5,6,7,8,9,10,11,12,13,14,15,16,17])] [6,11]
abbrev P0:Ps:=[(6,.l [.I,.I,.I] cg)]
noncomputable abbrev bn:=av t0 [0,1,1,1,1] P0
noncomputable abbrev t1:=ay bn
noncomputable def cm:=bf t1 [0,1,1,1,3] [(0,.v [.s]),(2,.v [.f]),(4,.v [.r]),(6,.l [.I,.I,.I] cg),(8,.v [.r]),(34,.v [.I]),(35,.v [.I])]
noncomputable abbrev t2:=be cm
noncomputable abbrev bV:=av t2 [0,1,1,1,2,2,2,2,1,1,3] P0
noncomputable abbrev t3:=ay bV
noncomputable abbrev cM:=av t3 [8] [(6,.l [.I,.I,.I] cg),(11,.l [.I,.I,.I] cg),(12,.v [.I])]
noncomputable abbrev t4:=ay cM
def dB:=bg t4 cm
def aB:=aA t4 MS [.s,.a 9,.I,.s,.I,.I,.U,.st,.I,.I,.I,.f]
end pH
namespace P7
noncomputable abbrev t0:=az Y Tryz.f26 [] []
def ok:=aA t0 Mh [.s]
end P7
namespace t'
noncomputable abbrev t0:=az Y Tryz.f40 [] []
noncomputable def L0:=bf t0 [0,2] [(0,.v [.r]),(1,.v [.U])]
noncomputable abbrev t1:=be L0
def bC:=bg t1 L0
def ok:=aA t1 Na [.r,.U]
end t'
namespace RO
noncomputable abbrev t0:=az Y Tryz.f19 [] []
def ok:=aA t0 M8 [.r,.I]
end RO
namespace pL
noncomputable abbrev t0:=az Y Tryz.f42 [] []
noncomputable def L0:=bf t0 [0,1,2] [(0,.v [.r]),(11,.v [.s]),(12,.v [.I]),(13,.v [.I])]
noncomputable abbrev t1:=be L0
def bC:=bg t1 L0
def ok:=aA t1 vR [.r,.s]
end pL
namespace RP
noncomputable abbrev t0:=az Y Tryz.f20 [] []
def ok:=aA t0 M9 [.r,.s]
end RP
namespace RQ
noncomputable abbrev t0:=az Y Tryz.f90 [] []
def ok:=aA t0 M' [.r,.st]
end RQ
namespace RN
noncomputable abbrev t0:=az Y Tryz.f23 [] []
def ok:=aA t0 M7 [.r]
end RN
namespace Rf
noncomputable abbrev t0:=az Y Tryz.f66 [] []
def ok:=aA t0 MZ [.r,.r]
end Rf
namespace Ra
noncomputable abbrev t0:=az Y Tryz.f107 [] []
def ok:=aA t0 MQ [.r]
end Ra
namespace QV
noncomputable abbrev t0:=az Y Tryz.f106 [] [3,5]
def aB:=aA t0 Dl [.st,.r]
end QV
namespace QU
noncomputable abbrev t0:=az Y Tryz.f85 [(1,ls [0,1,2,3,4,5,6,7,8,9,10])] [3,4]
def aB:=aA t0 MJ [.r,.a 9,.I,.s,.I,.I,.U,.st,.I,.I,.I]
end QU
namespace QT
noncomputable abbrev t0:=az Y Tryz.f86 [(1,ls [0,1,2,3,4,5,6,7,8,9,10])] []
def ok:=aA t0 MH [.r,.a 9,.I,.s,.I,.I,.U,.st,.I,.I,.I]
end QT
namespace zC
noncomputable abbrev t0:=az Y Tryz.f87 [(1,ls [0,1,2,3,5,6,7,8,9,4,10]),(3,ls [0,1,2,3,4,5,6,7,8]),(4,ls [0,1,2,3,4,5,6,7,8,9,10])] []
noncomputable abbrev S0:=av t0 [3] [(0,.v [.r]),(3,.v [.r])]
noncomputable abbrev t1:=ay S0
def ok:=aA t1 MI [.r,.a 9,.I,.s,.I,.I,.U,.st,.I,.I,.I]
end zC
namespace wL
noncomputable abbrev t0:=az Y Tryz.f84 [] [1,5]
noncomputable def a2:=bf t0 [0,1,1,1,2] [(3,.v [.r]),(11,.v [.s]),(12,.v [.I]),(13,.v [.I])]
noncomputable abbrev t1:=be a2
def bw:=bg t1 a2
def aB:=aA t1 MR [.a 1,.s]
end wL
namespace wJ
noncomputable abbrev t0:=az Y Tryz.f63 [] [1,5,6]
noncomputable def a2:=bf t0 [0,1,1,1,3] [(3,.v [.p]),(17,.v [.s]),(18,.v [.I]),(19,.v [.I])]
noncomputable abbrev t1:=be a2
def bw:=bg t1 a2
def aB:=aA t1 MF [.a 1,.s]
end wJ
namespace wI
noncomputable abbrev t0:=az Y Tryz.f41 [] [1]
noncomputable def a2:=bf t0 [0,1,1,1,4] [(1,.l [.s] zK),(5,.v [.r]),(18,.v [.I]),(19,.v [.I])]
noncomputable abbrev t1:=be a2
def bw:=bg t1 a2
def aB:=aA t1 ME [.a 1,.s]
end wI
def fg(w:J)(d:Nat)(U:List UInt8)(own:List Nat):Prop:=
 ∃s:Sl,own=d::ax s/\w.heap[d]? =some (.cells #[s.v] ra (0,0))/\eU w s U
def yX{w:J}{e T:aC}{s:Sl}{vs:List aa}(h:Ow w e s vs){b:Nat}{cs:Array aa}{f:Nat×Nat}(d:w.heap[b]? =some (.cells cs T f))(j:e≠T):b∉ax s:=λq=>by
 obtain⟨y,z,k⟩:=h.2.row.tW b q;rw[k]at d;injection d with d
 injection d with _ x _
 exact j x
def fg.lt{w:J}{k:Nat}{U:List UInt8}{own:List Nat}(h:fg w k U own):∀b∈own,b<w.heap.size:=by
 obtain⟨s,rfl,e,j⟩:=h;intro b d;rcases au.1 d with rfl|d
 .exact lt_of_heap e
 .exact j.lt b d
def fg.new(w:J):fg (w.alloc (.cells #[.slice none 0 0] ra)) w.heap.size [] [w.heap.size]:=⟨⟨none,0,0⟩,rfl,j2 w _,Ow.nil _ _⟩
def iE(w:J)(h:Nat)(own:List Nat)(U:List UInt8)(w':J):Prop:=∃d,fg w' h U d/\Fr (·∈own) w w'/\∀e∈d,e∈own\/w.heap.size<=e
def l7(w:J)(e:Nat)(own:List Nat)(U:List UInt8):aH:=λr d=>r=ae (.tuple #[])/\iE w e own U d
def iE.refl{w:J}{d:Nat}{own:List Nat}{U:List UInt8}(h:fg w d U own):iE w d own U w:=⟨own,h,Fr.refl _ _,λ_ h=>.inl h⟩
def iE.then{w w' y:J}{z:Nat}{own x:List Nat}{e:List UInt8}(j:Fr (·∈own) w w')(k:∀d∈x,d∈own\/w.heap.size<=d)(h:iE w' z x e y):iE w z own e y:=by
 obtain⟨B,r,f,o⟩:=h;refine⟨B,r,j.trans f λd q A=>?_,λd q=>?_⟩
 .rcases k d A with h|h
  .exact h
  .omega
 .rcases o d q with h|h
  .exact k d h
  .exact .inr (a6 j.size h)
def FE{w x e:J}{d:Nat}{s s':Sl}{U z:List UInt8}(C:w.heap[d]? =some (.cells #[s.v] ra (0,0)))(G:eU w s U)(k:ag w x)(D:eU e s' z)(A:Fr (·∈ax s) x e)(I:∀b∈ax s',b∈ax s\/x.heap.size<=b):
  (e.cell? ((ab d).add 0)).isSome=true/\e.frozen? ((ab d).add 0)=false/\iE w d (d::ax s) z (e.setCell ((ab d).add 0) s'.v):=by
 have K:d∉ax s:=yX G C (by decide);have j:=A.at (k.at C id) K;have E:(e.setCell ((ab d).add 0) s'.v).heap[d]? =_:=setAt (p:=ab d) (i:=0) (v:=s'.v) j rfl;have B:Fr (·=d) e (e.setCell ((ab d).add 0) s'.v):=Fr.set _ _ _ rfl
 have L:d∉ax s':=yX D j (by decide);refine⟨by rw[cellAt (p:=ab d) j rfl rfl];rfl,frozenAt (p:=ab d) j,d::ax s',⟨s',rfl,E,D.fr B λb H F=>L (F▸H)⟩,?_,?_⟩
 .exact ((k.oc (M:=(·∈d::ax s))).trans A λy _ h=>by simp[h]).trans B λy _ h=>by simp[h]
 .intro y h;rcases au.1 h with rfl|h
  .exact .inl (by simp)
  .rcases I y h with q|q
   .exact .inl (by simp[q])
   .exact .inr (a6 k.size q)
def wW{w:J}{d:Nat}{s:Sl}(e:w.heap[d]? =some (.cells #[s.v] ra (0,0))):w.cell? ((ab d).add 0)=some s.v:=cellAt (p:=ab d) e rfl rfl
def RF{w:J}{e:Nat}{s:Sl}{U:List UInt8}(E:w.heap[e]? =some (.cells #[s.v] ra (0,0)))(j:eU w s U)(H:U.length<100000000000000)(c:UInt8)(K:J->Prop)(D:∀k,iE w e (e::ax s) (U++[c]) k->K k):
  ∃(t15:W.Sl) (d:J),Sem.run Y (dY #[c',c'] c' #[s.v,.slice (some (Addr.mk w.heap.size 0 none)) 1 1]) (w.alloc (.cells #[.int .u8 (c.toNat:Int)] cD))=.ok (t15.v) d/\(d.cell? ((ab e).add 0)).isSome=true/\d.frozen? ((ab e).add 0)=false/\K (d.setCell ((ab e).add 0) (t15.v)):=by have h:ag w (w.alloc (.cells #[.int .u8 (c.toNat:Int)] cD)):=Fr.alloc _ _ _;obtain⟨F,d,z,A,B,C,G⟩:=uG (ty:=c') (j.br h) (Dz w c) (by simp;omega);obtain⟨q,x,y⟩:=FE E j h A B C;exact⟨F,d,z,q,x,D _ y⟩
def abk{j:Nat}(R:aH):∀(n:Nat) (w:J) (U:List UInt8) (own:List Nat),n<18446744073709551616->U.length+(dT n).length<=100000000000000->fg w j U own->(∀d,iE w j own (U++dT n) d->R (ae (.tuple #[])) d)->
  t'.L0 (ab j) (n:Int) w R:=by
 intro n;induction n using Nat.strongRecOn with
 |_ n F=>
  intro w U own L e D A;obtain⟨s,rfl,k,z⟩:=D;refine t'.bC _ _ _ _ ?_;refine bB (λx=>?_) (λx=>?_)
  .have h:¬n<128:=by simp at x;omega
   rw[mg h]at e;have q:aj .u8 (n:Int)=_:=Fk n;refine⟨s,wW k,?_⟩;rw[q,Tc _ (by omega)];have B:((n%256%128+128:Nat):Int)=((cE (n%128+128)).toNat:Int):=by simp;omega
   rw[B];refine RF k z (by simp at e;omega) (cE (n%128+128)) (λd=>t'.L0 (ab j) (Int.fdiv (n:Int) (2^7)) d R) λd y=>?_;show t'.L0 (ab j) (Int.fdiv (n:Int) (2^7)) d R;rw[show((2:Int)^7)=((128:Nat):Int)from rfl,x5 n 128 (by omega)];obtain⟨H,I,C,G⟩:=y;refine F (n / 128) (by omega) d _ H (by omega) (by simp at e ⊢;omega) I λK E=>A K ?_;rw[mg h,show U++cE (n%128+128)::dT (n / 128)=(U++[cE (n%128+128)])++dT (n / 128)by simp];exact E.then C G
  .have h:n<128:=by simp at x;omega
   rw[lu h]at e;have q:aj .u8 (n:Int)=((cE n).toNat:Int):=by rw[Fk];simp
   refine⟨s,wW k,?_⟩;rw[q];refine RF k z (by simp at e;omega) (cE n) (λd=>R (ae (.tuple #[])) d) λd y=>A d ?_;rw[lu h];exact y
def tZ{w:J}{d:Nat}{U:List UInt8}{own:List Nat}(j:fg w d U own)(n:Nat)(e:n<18446744073709551616)(k:U.length<=10000000000000):
  ai Y Na #[.pointer (some (ab d)),.int .u64 (n:Int)] w (l7 w d own (U++dT n)):=
 t'.ok _ _ w _ (abk _ n w U own e (by have:=ei n e;omega) j λq h=>⟨rfl,h⟩)
def abB(n:Int)(h:a7 n):W.mR .u64 (aj .u64 ((aj .u64 n) *2^1)) (aj .u64 (Int.fdiv n (2^63)))=(zz n:Int):=by
 obtain⟨q,w⟩:=h;have k:((2:Int)^63)=9223372036854775808:=rfl;rw[k,Int.fdiv_eq_ediv_of_nonneg _ (by omega),IntKind.wrap_u64,IntKind.wrap_u64,IntKind.wrap_u64];by_cases j:0<=n
 .have d:(n / 9223372036854775808)%18446744073709551616=((0:Nat):Int):=by omega
  have e:(n%18446744073709551616 *2^1)%18446744073709551616=((2 *n).toNat:Int):=by omega
  rw[d,e,Gm _ _ (by omega) (by omega),Nat.xor_zero];unfold zz;rw[aq j]
 .have d:(n / 9223372036854775808)%18446744073709551616=((18446744073709551615:Nat):Int):=by omega
  have e:(n%18446744073709551616 *2^1)%18446744073709551616=((18446744073709551616+2 *n).toNat:Int):=by omega
  rw[d,e,Gm _ _ (by omega) (by omega),abw _ (by omega)];unfold zz;rw[af j];omega
def k2{w:J}{e:Nat}{U:List UInt8}{own:List Nat}(k:fg w e U own)(n:Int)(d:a7 n)(j:U.length<=10000000000000):
  ai Y M8 #[.pointer (some (ab e)),.int .i64 n] w (l7 w e own (U++bt n)):=by refine RO.ok _ _ w _ ?_;rw[abB n d];refine(tZ k (zz n) (z5 n d.1 d.2) j).mono ?_;rintro r q ⟨rfl,h⟩;exact⟨rfl,rfl,h⟩
def abj{w:J}{d:Nat}{U:List UInt8}{own:List Nat}(C:fg w d U own)(t:ByteArray)(K:U.length+t.size<=10000000000000):
  ai Y M' #[.pointer (some (ab d)),.string t] w (l7 w d own (U++df (bl t))):=by refine RQ.ok _ _ w _ ?_;rw[rf _ (by omega)];refine(tZ C t.size (by omega) (by omega)).mono ?_;rintro r H ⟨rfl,M,E,x,D⟩;have L:=ei t.size (by omega);obtain⟨G,rfl,j,h⟩:=E;obtain⟨F,I,y,z,A,B⟩:=Gh (ty:=c') h t (by simp;omega);obtain⟨k,q,e⟩:=FE j h (Fr.refl _ H) z A B;rw[cp]at e;exact⟨rfl,G,wW j,F,I,y,k,q,rfl,e.then x D⟩
def kL:∀(l:List Int),(∀d∈l,a7 d)->(l.flatMap bt).length<=10 *l.length
 |[],_=>by simp
 |d::l,e=>by have q:=cR d (e d (by simp));have h:=kL l λk j=>e k (by simp[j]);simp at h ⊢;omega
def abi{k:Nat}{s:Sl}{l:List Int}(R:aH)(V:∀e∈l,a7 e)(S:l.length<=100000000000):∀(d i:Nat),i+d=l.length->∀(w:J) (U:List UInt8) (own:List Nat),fg w k U own->bo w s l->(∀e∈ax s,e∉own)->(∀e∈ax s,e<w.heap.size)->U.length+10 *d<=10000000000000->
  (∀E,iE w k own (U++(l.drop i).flatMap bt) E->R (ae (.tuple #[])) E)->pL.L0 (ab k) s (l.length:Int) (i:Int) w R:=by
 intro d;induction d with
 |zero=>
  intro i I w U own z h A y H x;refine pL.bC _ _ _ _ _ _ ?_;refine aZ (by simp;omega) (x w ?_);rw[cU (by omega)];simpa using iE.refl z
 |succ d N=>
  intro i I w U own z h A y H x;have K:l[i]? =some l[i]:=a4 (by omega);have C:l[i]∈l:=List.getElem_mem _;refine pL.bC _ _ _ _ _ _ ?_;refine a1 (by simp;omega) ⟨by omega,by rw[bo.len h];omega,bo.cell h K (by simp) λp _ M=>⟨_,M,(k2 z _ (V _ C) (by omega)).mono ?_⟩⟩;rintro r F ⟨rfl,O,P,q,D⟩;refine⟨rfl,?_⟩;show pL.L0 (ab k) s (l.length:Int) (aj .i64 ((i:Int)+1)) F R;rw[bb i (by omega)];have T:=cR _ (V _ C);refine N (i+1) (by omega) F _ O P (h.fr q A) (λe j L=>?_) (λe j=>kr (y e j) q.size) (by simp;omega) λQ G=>x Q ?_
  .rcases D e L with B|B
   .exact A e j B
   .have:=y e j;omega
  .rw [dz (by omega),List.flatMap_cons,<-cp];exact G.then q D
def abh{w:J}{j:Nat}{U:List UInt8}{own:List Nat}(C:fg w j U own){s:Sl}{l:List Int}(x:bo w s l)(y:∀d∈ax s,d∉own)(z:∀d∈ax s,d<w.heap.size)(V:∀d∈l,a7 d)(G:U.length+10 *l.length<=1000000000000):
  ai Y vR #[.pointer (some (ab j)),s.v] w (l7 w j own (U++cH l)):=by
 refine pL.ok _ _ w _ ?_;rw[bo.len x,rf _ (by omega)];refine(tZ C l.length (by omega) (by omega)).mono ?_;rintro r F ⟨rfl,D,E,h,A⟩;have H:=ei l.length (by omega);refine⟨rfl,?_⟩;try dsimp only
 refine abi _ V (by omega) l.length 0 (by omega) F _ D E (x.fr h y) (λd e B=>?_) (λd e=>kr (z d e) h.size) (by simp;omega) λI q=>⟨rfl,?_⟩
 .rcases A d B with k|k
  .exact y d e k
  .have:=z d e;omega
 .rw [List.drop_zero,cp]at q;exact q.then h A
def Hi(s:Sl)(U:List UInt8)(w:J)(j:Bytes w s U)(I:U.length<=140737488355328):ai Y Mh #[s.v] w (λr x=>∃s:Sl,r=ae s.v/\eU x s U/\ag w x/\∀b∈ax s,w.heap.size<=b):=by
 refine P7.ok s w _ ?_;refine bB (λe=>?_) (λe=>?_)
 .have D:U=[]:=by have:=(j.2.2.1 (by simpa using e)).1;exact D0 (by rw[<-Bytes.len j,this])
  subst D;exact⟨⟨none,0,0⟩,rfl,Ow.nil w _,Fr.refl _ _,by simp[ax]⟩
 .show (λd:J=>∃(q:Sl) (h:J),Sem.run Y (dY #[c',c'] c' #[.slice (some (nb w)) 0 0,s.v]) d=.ok (q.v) h/\(∃s:Sl,Ending.returned q.v=ae s.v/\eU h s U/\ag w h/\∀b∈ax s,w.heap.size<=b)) (w.alloc (.cells #[] cD));generalize H:w.alloc (.cells #[] cD)=d;subst H
  let d:=w.alloc (.cells #[] cD)
  have E:eU d ⟨some ⟨w.heap.size,0,none⟩,0,0⟩ []:=Ow.made w cD [] 0 rfl (by omega);have z:Bytes d s U:=j.br (Fr.alloc _ _ _);obtain⟨k,h,G,F,B,A,_⟩:=uG (ty:=c') E z (by simp;omega);refine⟨k,h,G,k,rfl,by simpa using F,?_,?_⟩
  .refine (Fr.alloc (λ_=>False) w _).trans B λL K C=>?_;simp[ax]at C;omega
  .intro b y;rcases A b y with e|e
   .simp [ax]at e;omega
   .have:d.heap.size=w.heap.size+1:=size_alloc _ _;omega
def zW{w:J}{e:Nat}{U:List UInt8}{own:List Nat}(q:fg w e U own)(x:U.length<=100000000000000):
  ai Y M7 #[.pointer (some (ab e))] w (hH w U):=by obtain⟨s,rfl,j,k⟩:=q;refine RN.ok _ w _ ⟨s,wW j,(Hi s U w k.rd (by omega)).mono ?_⟩;rintro r y ⟨d,rfl,h⟩;exact⟨d,rfl,d,rfl,h⟩
namespace RG
noncomputable abbrev t0:=az Y Tryz.f7 [] []
def ok:=aA t0 M1 [.s]
end RG
namespace pK
noncomputable abbrev t0:=az Y Tryz.f27 [(6,ls [0,1,2,3,4,5,6,7,8,9,10,11]),(9,ls [0,1,2,3,4,5,6,7,8,9,10,11,12])] []
noncomputable def L0:=bf t0 [0,1,4] [(0,.v [.r]),(3,.v [.U]),(4,.v [.I])]
noncomputable abbrev t1:=be L0
noncomputable abbrev S1:=av t1 [0,1,1,1,2,4,4] [(0,.v [.r])]
noncomputable abbrev t2:=ay S1
abbrev P0:Ps:=[(0,.v [.r]),(3,.v [.U]),(4,.v [.I]),(5,.v [.Y])]
noncomputable abbrev S3:=av t2 [4,4,4] P0
noncomputable abbrev t3:=ay S3
noncomputable abbrev S2:=av t3 [3,4,4] P0
noncomputable abbrev t4:=ay S2
def bC:=bg t4 L0
def ok:=aA t4 M6 [.r]
end pK
namespace RI
noncomputable abbrev t0:=az Y Tryz.f8 [] []
def ok:=aA t0 vP [.r]
end RI
namespace RH
noncomputable abbrev t0:=az Y Tryz.f46 [(3,ls [0,1,2,3,4,5,6,7,8,9])] []
def ok:=aA t0 M2 [.r]
end RH
namespace RM
noncomputable abbrev t0:=az Y Tryz.f68 [(1,ls [0,1,2,3,4,5,6,7,8,9,10])] []
def ok:=aA t0 vQ [.r]
end RM
namespace ua
noncomputable abbrev t0:=az Y Tryz.f67 [(4,ls [0,1,2,3,4,5,6,7,8,9,10,11,12])] []
noncomputable def L0:=bf t0 [0,1,1,1,5] [(0,.v [.r]),(1,.v [.g vQ 1 0,.r]),(6,.v [.s]),(33,.v [.U]),(34,.v [.U])]
noncomputable abbrev t1:=be L0
def bC:=bg t1 L0
def ok:=aA t1 Nb [.r,.g vQ 1 0,.r]
end ua
namespace ub
noncomputable abbrev t0:=az Y Tryz.f92 [(4,ls [0,1,2,3,4,5,6,7,8,9,10,11,12])] []
noncomputable def L0:=bf t0 [0,1,1,1,5] [(0,.v [.r]),(1,.v [.g vP 1 0,.r]),(6,.v [.s]),(33,.v [.U]),(34,.v [.U])]
noncomputable abbrev t1:=be L0
def bC:=bg t1 L0
def ok:=aA t1 Nc [.r,.g vP 1 0,.r]
end ub
namespace RJ
noncomputable abbrev t0:=az Y Tryz.f70 [] []
def ok:=aA t0 M3 [.r]
end RJ
namespace RL
noncomputable abbrev t0:=az Y Tryz.f91 [] []
def ok:=aA t0 M5 [.r]
end RL
namespace RK
noncomputable abbrev t0:=az Y Tryz.f43 [] []
def ok:=aA t0 M4 [.r]
end RK
def cW(w:J)(rb:Nat)(st:RS)(fp:List Nat):Prop:=
 ∃(s:Sl) (all:List UInt8) (k:Nat),fp=rb::ax s/\w.heap[rb]? =some (.cells #[s.v,.int .i64 (k:Int),.int .i64 st.err] pJ (0,0))/\eU w s all/\k<=all.length/\all.drop k=st.U/\all.length<=1000000000000
def cW.lt{w:J}{rb:Nat}{st:RS}{fp:List Nat}(h:cW w rb st fp):∀b∈fp,b<w.heap.size:=by
 obtain⟨s,all,k,rfl,e,j,_⟩:=h;intro b d;rcases au.1 d with rfl|d
 .exact lt_of_heap e
 .exact j.lt b d
def cW.fr{M:Nat->Prop}{w w':J}{rb:Nat}{st:RS}{fp:List Nat}(h:cW w rb st fp)(d:Fr M w w')(e:∀b∈fp,¬M b):cW w' rb st fp:=by obtain⟨s,all,y,rfl,j,k,q⟩:=h;exact⟨s,all,y,rfl,d.at j (e _ (by simp)),k.fr d λb x=>e b (by simp[x]),q⟩
def cW.br{w w':J}{rb:Nat}{st:RS}{fp:List Nat}(h:cW w rb st fp)(d:ag w w'):cW w' rb st fp:=h.fr d λ_ _ h=>h
def cW.mem{w:J}{rb:Nat}{st:RS}{fp:List Nat}(h:cW w rb st fp):rb∈fp:=by obtain⟨s,all,d,rfl,_⟩:=h;simp
def cW.small{w:J}{rb:Nat}{st:RS}{fp:List Nat}(h:cW w rb st fp):st.U.length<=1000000000000:=by obtain⟨s,all,j,rfl,_,_,_,d,e⟩:=h;rw[<-d];simp;omega
def uy(w:J)(rb:Nat)(fp:List Nat)(v:aa)(st:RS):aH:=λr d=>r=ae v/\cW d rb st fp/\Fr (·=rb) w d
def zb{w:J}{rb:Nat}{s:Sl}{k:Nat}{e:Int}{all:List UInt8}(h:w.heap[rb]? =some (.cells #[s.v,.int .i64 (k:Int),.int .i64 e] pJ (0,0)))(j:eU w s all)(q:k<=all.length)(x:all.length<=1000000000000)(d:Int):
  (w.cell? ((ab rb).add 2)).isSome=true/\w.frozen? ((ab rb).add 2)=false/\cW (w.setCell ((ab rb).add 2) (.int .i64 d)) rb ⟨all.drop k,d⟩ (rb::ax s)/\Fr (·=rb) w (w.setCell ((ab rb).add 2) (.int .i64 d)):=by
 have z:rb∉ax s:=yX j h (by decide);have f:Fr (·=rb) w (w.setCell ((ab rb).add 2) (.int .i64 d)):=Fr.set _ _ _ rfl
 exact⟨by rw[cellAt (p:=ab rb) h rfl rfl];rfl,frozenAt (p:=ab rb) h,⟨s,all,k,rfl,setAt (p:=ab rb) (i:=2) h rfl,j.fr f λb y e=>z (e▸y),q,rfl,x⟩,f⟩
def OV{w:J}{rb:Nat}{s:Sl}{k:Nat}{e:Int}{all:List UInt8}(h:w.heap[rb]? =some (.cells #[s.v,.int .i64 (k:Int),.int .i64 e] pJ (0,0)))(j:eU w s all)(y:all.length<=1000000000000)(d:Nat)(q:d<=all.length)(x:Int)(B:x=d):
  (w.cell? ((ab rb).add 1)).isSome=true/\w.frozen? ((ab rb).add 1)=false/\cW (w.setCell ((ab rb).add 1) (.int .i64 x)) rb ⟨all.drop d,e⟩ (rb::ax s)/\Fr (·=rb) w (w.setCell ((ab rb).add 1) (.int .i64 x)):=by
 subst B;have A:rb∉ax s:=yX j h (by decide);have f:Fr (·=rb) w (w.setCell ((ab rb).add 1) (.int .i64 (d:Int))):=Fr.set _ _ _ rfl
 exact⟨by rw[cellAt (p:=ab rb) h rfl rfl];rfl,frozenAt (p:=ab rb) h,⟨s,all,d,rfl,setAt (p:=ab rb) (i:=1) h rfl,j.fr f λb z e=>A (e▸z),q,rfl,y⟩,f⟩
def tn{w:J}{rb:Nat}{s:Sl}{x y:aa}(h:w.heap[rb]? =some (.cells #[s.v,x,y] pJ (0,0))):w.cell? ((ab rb).add 0)=some s.v:=cellAt (p:=ab rb) h rfl rfl
def pj{w:J}{rb:Nat}{s:Sl}{x y:aa}(h:w.heap[rb]? =some (.cells #[s.v,x,y] pJ (0,0))):w.cell? ((ab rb).add 1)=some x:=cellAt (p:=ab rb) h rfl rfl
def v9{w:J}{rb:Nat}{s:Sl}{x y:aa}(h:w.heap[rb]? =some (.cells #[s.v,x,y] pJ (0,0))):w.cell? ((ab rb).add 2)=some y:=cellAt (p:=ab rb) h rfl rfl
def abl(acc k c:Nat)(C:k<=9)(z:acc<128^k)(B:c<128)(y:k=9->c<=1):
  ¬(aj .i64 (7 *(k:Int)))<0/\W.qe .u64 (acc:Int) (aj .u64 ((aj .u64 ((c:Nat):Int)) *2^(min (Int.toNat (aj .i64 (7 *(k:Int)))) (IntKind.bits .u64))))=((acc+128^k *c:Nat):Int):=by
 have j:aj .i64 (7 *(k:Int))=((7 *k:Nat):Int):=by rw[aQ _ (by omega)];omega
 rw[j];refine⟨by omega,?_⟩;have q:min (Int.toNat ((7 *k:Nat):Int)) (IntKind.bits .u64)=7 *k:=by rw[bH];show min (7 *k) 64=7 *k;omega
 rw[q,rf c (by omega)];have w:(c:Int) *2^(7 *k)=((c *2^(7 *k):Nat):Int):=by rw[Int.natCast_mul,Int.natCast_pow];rfl
 have h:(2:Nat)^(7 *k)=128^k:=by rw[Nat.pow_mul]
 have e:c *2^(7 *k)<18446744073709551616:=by
  by_cases x:k=9
  .subst x;have:=y rfl;have:c *2^(7 *9)<=1 *2^(7 *9):=Nat.mul_le_mul_right _ this;omega
  .have d:(2:Nat)^(7 *k)<=2^56:=Nat.pow_le_pow_right (by omega) (by omega);have:c *2^(7 *k)<=127 *2^56:=Nat.mul_le_mul (by omega) d;omega
 have A:acc<18446744073709551616:=by have d:(128:Nat)^k<=128^9:=Nat.pow_le_pow_right (by omega) (by omega);omega
 rw[w,rf _ e,Tb _ _ A e,Ys acc c (7 *k) (by rw[h];exact z),h,Nat.mul_comm c]
set_option maxRecDepth 100000 in
def Y'{rb:Nat}(R:aH)(all:List UInt8)(p:Nat)(hp:p<=all.length)(U:all.length<=1000000000000)(s:Sl):
  ∀(d k acc:Nat) (w:J),k+d=9->acc<128^k->p+k<=all.length->w.heap[rb]? =some (.cells #[s.v,.int .i64 (p:Int),.int .i64 0] pJ (0,0))->eU w s all->
   (match iJ k ((all.drop p).drop k)with
    |.more=>∀h,cW h rb ⟨all.drop p,3⟩ (rb::ax s)->Fr (·=rb) w h->R (ae (.int .u64 0)) h
    |.form=>∀h,cW h rb ⟨all.drop p,2⟩ (rb::ax s)->Fr (·=rb) w h->R (ae (.int .u64 0)) h
    |.ok n r=>∀h,cW h rb ⟨r,0⟩ (rb::ax s)->Fr (·=rb) w h->R (ae (.int .u64 ((acc+128^k *n:Nat):Int))) h)->
   pK.L0 (ab rb) (acc:Int) (k:Int) w R:=by
 intro d;induction d using Nat.strongRecOn with
 |_ d ih=>
  intro k acc w hk ha ai h1 C j;refine pK.bC _ _ _ _ _ ?_;have hn:s.n=all.length:=by simpa using C.1
  have ew:aj .i64 ((p:Int)+(k:Int))=((p+k:Nat):Int):=by rw[aQ _ (by omega)];omega
  have K:ag w w.drew:=Fr.drew _ w;have A:ag w w.drew.drew:=K.dA (Fr.drew _ _);have Q:=K.at h1 id;have B:=A.at h1 id;refine⟨_,pj Q,_,tn Q,?_⟩;rw[ew,hn];rw[List.drop_drop]at j;refine bB (λe=>?_) (λe=>?_)
  .have he:all.drop (p+k)=[]:=cU (by simp at e;omega);rw[he]at j;simp only[iJ]at j;obtain⟨D,E,F,G⟩:=zb Q (C.br K) hp U 3;exact⟨D,E,j _ F ((K.oc).trans G λ_ _ e=>e)⟩
  .have aa:p+k<all.length:=by simp at e;omega
   have hg:all[p+k]? =some all[p+k]:=a4 aa;rw[dz aa]at j;generalize all[p+k]=c at hg j;have hc:=c.toNat_lt;have H:∀h,Fr (·=rb) w.drew.drew h->Fr (·=rb) w h:=λh f=>A.oc.trans f λ_ _ e=>e;refine⟨_,tn B,_,pj B,?_⟩;rw[ew];refine⟨by omega,by rw[hn];omega,Bytes.cell (C.br A).rd hg (by rw[bH]) λak _ hq=>⟨_,hq,?_⟩⟩;have form:iG k c=true->pK.S1 (ab rb) w.drew.drew R:=λy=>by simp only[iJ,y,if_true]at j;obtain⟨D,E,F,G⟩:=zb B (C.br A) hp U 2;exact⟨D,E,j _ F (H _ G)⟩
   have O:iG k c=false->pK.S2 (ab rb) (acc:Int) (k:Int) (c.toNat:Int) w.drew.drew R:=λy=>by
    have N:=y;unfold iG at N;simp at N;obtain⟨e1,e2⟩:=abl acc k (c.toNat%128) (by omega) ha (by omega) (λz=>by have:=N.1 z;omega);dsimp only[pK.S2,av];rw[Ta c];refine And.intro e1 ?_;rw[e2];obtain⟨v,I⟩:∃v,v=acc+128^k *(c.toNat%128):=⟨_,rfl⟩;rw[<-I];refine bB (λe=>?_) (λe=>?_)
    .have L:c.toNat<128:=by simp at e;omega
     simp only[iJ,y,L,if_true]at j;obtain⟨D,E,F,G⟩:=OV B (C.br A) U (p+k+1) (by omega) (aj .i64 ((p:Int)+(aj .i64 ((k:Int)+1)))) (by rw[aQ ((k:Int)+1) (by omega),aQ _ (by omega)];omega);refine⟨_,pj B,D,E,?_⟩;have:=j _ F (H _ G);rw[Nat.mod_eq_of_lt L]at I;rw[I];exact this
    .have L:¬c.toNat<128:=by simp at e;omega
     show pK.L0 (ab rb) _ (aj .i64 ((k:Int)+1)) w.drew.drew R;rw[bb k (by omega)];have af:k≠9:=λz=>by have:=N.1 z;omega
     refine ih (d - 1) (by omega) (k+1) _ w.drew.drew (by omega) ?_ (by omega) B (C.br A) ?_
     .rw [Nat.pow_succ,I];have:128^k *(c.toNat%128)<=128^k *127:=Nat.mul_le_mul_left _ (by omega);omega
     .rw [List.drop_drop,<-Nat.add_assoc];simp only[iJ,y,L,if_false]at j;cases V:iJ (k+1) (all.drop (p+k+1))with
      |more=>rw[V]at j;exact λh a b=>j h a (H _ b)
      |form=>rw[V]at j;exact λh a b=>j h a (H _ b)
      |ok n r=>
       rw[V]at j;intro h a b;have:=j h a (H _ b);have q:acc+128^k *(c.toNat%128)+128^(k+1) *n=acc+128^k *(c.toNat%128+128 *n):=by rw[Nat.pow_succ,Nat.mul_add,Nat.mul_assoc];omega
       rw[I,q];exact this
   have ac:1<c.toNat->k=9->iG k c=true:=λhx hy=>by unfold iG;rw[aS hx];simp[hy]
   have Z:c.toNat=0->0<k->iG k c=true:=λe P=>by unfold iG;rw[e,aS P];simp
   have W:(k=9->¬1<c.toNat)->(0<k->c.toNat≠0)->iG k c=false:=λe P=>by
    cases y:iG k c with
    |false=>rfl
    |true=>
     unfold iG at y;rw[Bool.or_eq_true,bq,bq]at y;rcases y with⟨S,T⟩|⟨S,T⟩
     .exact absurd (eH T) (e (eq_of_beq S))
     .exact absurd (eq_of_beq T) (P (eH S))
   refine bB (λz=>?_) (λz=>?_)
   .have M:k=9:=by have:=eq_of_beq z;omega
    refine bB (λe=>form (ac (by have:=eH e;omega) M)) (λe=>?_);have ah:=hZ e;refine a1 (aS (by omega)) (bB (λx=>form (Z (by have:=eq_of_beq x;omega) (by omega))) (λx=>O (W (λ_=>by omega) (λ_ q=>by rw[q]at x;simp at x))))
   .have M:k≠9:=λq=>by rw[q]at z;simp at z
    refine bB (λe=>bB (λx=>form (Z (by have:=eq_of_beq x;omega) (by have:=eH e;omega))) (λx=>O (W (λq=>absurd q M) (λ_ q=>by rw[q]at x;simp at x)))) (λe=>O (W (λq=>absurd q M) (λad=>by have:=hZ e;omega)))
def y7{w:J}{rb:Nat}{st:RS}{fp:List Nat}(h:cW w rb st fp):
  ai Y M6 #[.pointer (some (ab rb))] w (uy w rb fp (.int .u64 ((eS st).1:Int)) (eS st).2):=by
 have A:=h;obtain⟨s,all,B,rfl,e,q,x,y,z⟩:=h;refine pK.ok _ w _ ?_;refine⟨_,v9 e,bB (λj=>?_) (λj=>?_)⟩
 .have d:st.err≠0:=by simpa using j
  unfold eS;rw[aq d];exact⟨rfl,A,Fr.refl _ _⟩
 .have d:st.err=0:=by simpa using j
  refine Y' _ all B x z s 9 0 0 w rfl (by simp) (by omega) (by rw[d]at e;exact e) q ?_;unfold eS;rw[af (by simp[d]),List.drop_zero,y];cases C:iJ 0 st.U with
  |more=>exact λk a b=>⟨rfl,a,b⟩
  |form=>exact λk a b=>⟨rfl,a,b⟩
  |ok n r=>
   intro k a b;refine⟨?_,a,b⟩;simp
def tm(st:RS):(eS st).1<18446744073709551616:=by
 unfold eS;split
 .simp
 .split
  .simp
  .simp
  .rename_i n r d;have:=(xL 9 0 _ _ _ rfl d).2.1;simpa using this
def abc(u:Nat)(h:u<18446744073709551616):W.mR .i64 (aj .i64 (Int.fdiv (u:Int) (2^1))) (aj .i64 (0 - (aj .i64 (W.lj .u64 (u:Int) 1))))=nC u:=by
 have e:W.lj .u64 (u:Int) 1=((u%2:Nat):Int):=by have:=S' u 1 h (by omega);rw[Nat.and_one_is_mod]at this;exact this
 rw[e,show((2:Int)^1)=((2:Nat):Int)from rfl,x5 u 2 (by omega),aQ ((u / 2:Nat):Int) (by omega),aQ ((u%2:Nat):Int) (by omega)];unfold nC;split
 .rename_i d;rw[d,aQ _ (by omega)];exact Te _ (by omega)
 .rename_i d;rw[show u%2=1 by omega,aQ _ (by omega)];exact Td _ (by omega)
def kg{w:J}{rb:Nat}{st:RS}{fp:List Nat}(h:cW w rb st fp):
  ai Y vP #[.pointer (some (ab rb))] w (uy w rb fp (.int .i64 (a3 st).1) (a3 st).2):=by
 refine RI.ok _ w _ ?_;refine(y7 h).mono ?_;rintro r e ⟨rfl,d⟩;refine⟨_,rfl,?_⟩;try dsimp only
 rw[abc _ (tm st)];exact⟨rfl,d⟩
def D5{w:J}{rb:Nat}{st:RS}{fp:List Nat}(h:cW w rb st fp):
  ai Y M2 #[.pointer (some (ab rb))] w λr B=>r=ae (.int .i64 (hU st))/\ag w B:=by
 obtain⟨s,all,A,rfl,e,y,C,z,D⟩:=h;have d:ag w w.drew:=Fr.drew _ w;have x:=d.at e id;have F:s.n=all.length:=by simpa using y.1
 have E:st.U.length=all.length - A:=by rw[<-z];simp
 refine RH.ok _ w _ ?_;unfold hU;refine⟨_,v9 e,bB (λj=>?_) (λj=>?_)⟩
 .have k:st.err≠0:=by simpa using j
  rw[aq k];exact⟨_,v9 e,rfl,Fr.refl _ _⟩
 .have k:st.err=0:=by simpa using j
  rw[af (by simp[k])];refine⟨_,pj x,_,tn x,bB (λq=>?_) (λq=>?_)⟩
  .have:=eH q;rw[aq (by omega)];exact⟨rfl,d⟩
  .have:=hZ q;rw[af (by omega)];exact⟨rfl,d⟩
def Y8{w:J}{rb:Nat}{c:UInt8}{l:List UInt8}{e:Int}{fp:List Nat}(h:cW w rb ⟨c::l,e⟩ fp):
  ai Y vQ #[.pointer (some (ab rb))] w (uy w rb fp (.int .u8 (c.toNat:Int)) ⟨l,e⟩):=by
 obtain⟨s,all,k,rfl,z,x,M,d,E⟩:=h;simp only at z d;have j:ag w w.drew:=Fr.drew _ w;have q:=j.at z id;have K:s.n=all.length:=by simpa using x.1
 have A:k<all.length:=by
  by_cases I:k<all.length
  .exact I
  .rw [cU (by omega)]at d;cases d
 rw[dz A]at d;injection d with F G
 have H:all[k]? =some c:=by rw[a4 A,F]
 refine RM.ok _ w _ ?_;refine⟨_,tn q,_,pj q,by omega,by rw[K];omega,Bytes.cell (x.br j).rd H (by rw[bH]) λN _ L=>⟨_,L,?_⟩⟩;obtain⟨B,C,y,D⟩:=OV q (x.br j) E (k+1) (by omega) (aj .i64 ((k:Int)+1)) (bb k (by omega));rw[G]at y;exact⟨_,pj q,B,C,rfl,y,j.oc.trans D λ_ _ h=>h⟩
def D7{w:J}{s:Sl}{U:List UInt8}(B:Bytes w s U)(C:U.length<=1000000000000):
  ai Y M1 #[s.v] w λr z=>∃y x,r=ae (.pointer (some (ab y)))/\cW z y ⟨U,0⟩ x/\ag w z/\∀j∈x,w.heap.size<=j:=by
 refine RG.ok _ w _ ((Hi s U w B (by omega)).mono ?_);rintro r e ⟨d,rfl,A,k,D⟩;have q:ag e (e.alloc (.cells #[d.v,.int .i64 0,.int .i64 0] pJ)):=Fr.alloc _ _ _;refine⟨d,rfl,e.heap.size,e.heap.size::ax d,rfl,⟨d,U,0,rfl,j2 _ _,A.br q,dv _,rfl,C⟩,k.dA q,?_⟩;intro j h;rcases au.1 h with rfl|h
 .exact k.size
 .exact D j h
def pY(w:J)(rb:Nat)(fp:List Nat)(e:aC)(vs:List aa)(st:RS):aH:=λr d=>∃s:Sl,r=ae s.v/\Ow d e s vs/\cW d rb st fp/\Fr (·=rb) w d/\∀h∈ax s,w.heap.size<=h
def za{st:RS}{N:Nat}(h:st.U.length<=N):(eS st).2.U.length<=N:=by
 unfold eS;split
 .exact h
 .split
  .exact h
  .exact h
  .rename_i n r d;have:=(xL 9 0 _ _ _ rfl d).1;rw[this]at h;simp at h ⊢;omega
def Xi{w0:J}{rb:Nat}{fp:List Nat}(I:∀b∈fp,b<w0.heap.size)(V:rb∈fp)(n:Nat)(U:List UInt8)(hn:n<=U.length)(aa:U.length<=1000000000000)(R:aH)(P:∀r M,pY w0 rb fp cD ((U.take n).map bD) ⟨U.drop n,0⟩ r M->R r M):
  ∀(d i:Nat),i+d=n->∀(w:J) (l:Sl),Fr (·=rb) w0 w->cW w rb ⟨U.drop i,0⟩ fp->eU w l (U.take i)->(∀j∈ax l,w0.heap.size<=j)->
   ua.L0 (ab rb) (ab rb) l (n:Int) (i:Int) w R:=by
 intro d;induction d with
 |zero=>
  intro i S w l x e A h;obtain rfl:i=n:=by omega
  refine ua.bC _ _ _ _ _ _ _ (aZ (aW (by omega)) (P _ _ ⟨l,rfl,A,e,x,h⟩))
 |succ d W=>
  intro i S w l x e A h;have K:i<U.length:=by omega
  refine ua.bC _ _ _ _ _ _ _ (a1 (aS (by omega)) ?_);rw[dz K]at e;refine(Y8 e).mono ?_;rintro r k ⟨rfl,H,F⟩;have T:=A.fr F λb z Z=>by have:=h b z;have:=I rb V;omega
  refine⟨_,rfl,?_⟩;have Q:k.cell? ((ab rb).add 2)=some (.int .i64 0):=by obtain⟨s,all,ae,rfl,y,_⟩:=H;exact v9 y
  refine⟨_,Q,aZ rfl ?_⟩;have E:Fr (·=rb) w0 k:=x.trans F λ_ _ e=>e;have q:ag k (k.alloc (.cells #[.int .u8 (U[i].toNat:Int)] cD)):=Fr.alloc _ _ _;obtain⟨C,D,y,N,G,O,_⟩:=uG (ty:=c') (T.br q) (Dz k U[i]) (by simp;omega);refine⟨C,D,y,?_⟩;show ua.L0 (ab rb) (ab rb) C (n:Int) (aj .u64 ((i:Int)+1)) D R;rw[show aj .u64 ((i:Int)+1)=((i+1:Nat):Int)from by rw[IntWalk.u64_in _ (by omega)];omega];have ac:=E.size;have ad:=q.size;refine W (i+1) (by omega) D C ((E.dA q).trans G λj L B=>by have:=h j B;omega) ((H.br q).fr G λb z B=>by have:=h b B;have:=I b z;omega) ?_ λj L=>?_
  .rw [eA,a4 K];exact N
  .rcases O j L with e|e
   .exact h j e
   .omega
def Eb{w:J}{rb:Nat}{st:RS}{fp:List Nat}(h:cW w rb st fp):w.cell? ((ab rb).add 2)=some (.int .i64 st.err):=by obtain⟨s,all,e,rfl,d,_⟩:=h;exact v9 d
def JV{w:J}{rb:Nat}{st:RS}{fp:List Nat}(h:cW w rb st fp):
  ai Y Nb #[.pointer (some (ab rb)),.func (.func vQ) #[.pointer (some (ab rb))] #[]] w (pY w rb fp cD ((bX st).1.map bD) (bX st).2):=by
 refine ua.ok _ _ w _ ((y7 h).mono ?_);rintro r x ⟨rfl,j,y⟩;refine⟨_,rfl,_,Eb j,?_⟩;unfold bX hV;generalize hq:eS st=q at *;obtain⟨n,d⟩:=q;have aa:=tm st;have ac:=j.small;rw[hq]at aa;simp only at *;refine bB (λB=>?_) (λB=>?_)
 .have e:d.err≠0:=by simpa using B
  simp only[aq e];exact⟨⟨none,0,0⟩,rfl,Ow.nil _ _,j,y,by simp[ax]⟩
 .have e:d.err=0:=by simpa using B
  simp only[af (show ¬d.err≠0 by simp[e])];have z:ag x x.drew:=Fr.drew _ _;have W:=j.br z;obtain⟨s,all,k,rfl,A,F,M,G,N⟩:=W;have hn:s.n=all.length:=by simpa using F.1
  have hl:d.U.length=all.length - k:=by rw[<-G];simp
  refine⟨s,tn A,(k:Int),pj A,?_⟩;have P:aj .u64 (aj .i64 (((s.n:Nat):Int) - (k:Int)))=(d.U.length:Int):=by rw[aQ _ (by omega),IntWalk.u64_in _ (by omega)];omega
  rw[P];refine bB (λC=>?_) (λC=>?_)
  .have Z:=eH C;simp only[aq (show d.U.length<n by omega)];obtain⟨I,K,E,L⟩:=zb A F M N 3;rw[G]at E;rw[aq (show(3:Int)≠0 by decide)];exact⟨I,K,⟨none,0,0⟩,rfl,Ow.nil _ _,E,y.trans (z.oc.trans L λ_ _ h=>h) λ_ _ h=>h,by simp[ax]⟩
  .have Z:=hZ C;simp only[af (show ¬d.U.length<n by omega),af (show ¬d.err≠0 by simp[e])];obtain⟨D,Q,S,T⟩:=J4 kH x.drew .i64 .u64 n (by omega);refine⟨⟨some ⟨x.drew.heap.size,0,none⟩,0,n⟩,D,Q,?_⟩;have H:ag x D:=z.dA T;have V:=j.br H;have O:d=⟨d.U,0⟩:=by cases d;simp at e;simp[e]
   refine Xi (w0:=w) (rb:=rb) (fp:=rb::ax s) h.lt h.mem n d.U (by omega) ac _ (λr w' hr=>hr) n 0 (by omega) D _ (y.dA H) (by rw[List.drop_zero,<-O];exact V) S ?_;intro ad hx;simp[ax]at hx;have:=y.size;have:=z.size;omega
def Xk{w0:J}{rb:Nat}{fp:List Nat}(Q:∀b∈fp,b<w0.heap.size)(ac:rb∈fp)(n:Nat)(hn:n<=1000000000000)(R:aH):
  ∀(d i:Nat),i+d=n->∀(w:J) (l:Sl) (xs:List Int) (st:RS),xs.length=i->st.err=0->Fr (·=rb) w0 w->cW w rb st fp->xf w l xs->(∀e∈ax l,w0.heap.size<=e)->
   (∀r C,pY w0 rb fp bN ((if(eQ d st).2.err≠0 then[]else xs++(eQ d st).1).map a') (eQ d st).2 r C->R r C)->
   ub.L0 (ab rb) (ab rb) l (n:Int) (i:Int) w R:=by
 intro d;induction d with
 |zero=>
  intro i Z w l xs st T P E h K x j;obtain rfl:i=n:=by omega
  refine ub.bC _ _ _ _ _ _ _ (aZ (aW (by omega)) (j _ _ ⟨l,rfl,?_,h,E,x⟩));simpa[eQ,P]using K
 |succ d ih=>
  intro i Z w l xs st T P E h K x j;refine ub.bC _ _ _ _ _ _ _ (a1 (aS (by omega)) ?_);refine(kg h).mono ?_;rintro r D ⟨rfl,G,N⟩;have aa:=K.fr N λb H ad=>by have:=x b H;have:=Q rb ac;omega
  have F:Fr (·=rb) w0 D:=E.trans N λ_ _ h=>h;refine⟨_,rfl,_,Eb G,?_⟩;simp only[eQ]at j;generalize a3 st=q at *;obtain⟨e,y⟩:=q;simp only at *;refine bB (λI=>?_) (λI=>?_)
  .have A:y.err≠0:=by simpa using I
   simp only[aq A]at j;exact j _ _ ⟨⟨none,0,0⟩,rfl,Ow.nil _ _,G,F,by simp[ax]⟩
  .have A:y.err=0:=by simpa using I
   simp only[af (show ¬y.err≠0 by simp[A])]at j;have z:ag D (D.alloc (.cells #[.int .i64 e] bN)):=Fr.alloc _ _ _;obtain⟨L,M,U,V,O,W,_⟩:=SQ (ty:=ix) (aa.br z) (one_num D e) (by simp;omega);refine⟨L,M,U,?_⟩;show ub.L0 (ab rb) (ab rb) L (n:Int) (aj .u64 ((i:Int)+1)) M R;rw[show aj .u64 ((i:Int)+1)=((i+1:Nat):Int)from by rw[IntWalk.u64_in _ (by omega)];omega];have ae:=F.size;have ah:=z.size;refine ih (i+1) (by omega) M L _ y (by simp[T]) A ((F.dA z).trans O λe S k=>by have:=x e k;omega) ((G.br z).fr O λb H k=>by have:=x b k;have:=Q b H;omega) V (λe S=>?_) λr C B=>j r C ?_
   .rcases W e S with h|h
    .exact x e h
    .omega
   .by_cases k:(eQ d y).2.err≠0
    .simp only[aq k]at B ⊢;exact B
    .simp only[af k,cp,List.singleton_append]at B ⊢;exact B
def Xj{w:J}{rb:Nat}{st:RS}{fp:List Nat}(h:cW w rb st fp):
  ai Y Nc #[.pointer (some (ab rb)),.func (.func vP) #[.pointer (some (ab rb))] #[]] w (pY w rb fp bN ((cI st).1.map a') (cI st).2):=by
 refine ub.ok _ _ w _ ((y7 h).mono ?_);rintro r z ⟨rfl,e,A⟩;refine⟨_,rfl,_,Eb e,?_⟩;unfold cI hV;generalize hq:eS st=q at *;obtain⟨n,d⟩:=q;have ac:=tm st;have ad:=e.small;rw[hq]at ac;simp only at *;refine bB (λD=>?_) (λD=>?_)
 .have y:d.err≠0:=by simpa using D
  simp only[aq y];exact⟨⟨none,0,0⟩,rfl,Ow.nil _ _,e,A,by simp[ax]⟩
 .have y:d.err=0:=by simpa using D
  simp only[af (show ¬d.err≠0 by simp[y])];have B:ag z z.drew:=Fr.drew _ _;have hd:=e.br B;obtain⟨s,all,k,rfl,C,H,P,I,Q⟩:=hd;have hn:s.n=all.length:=by simpa using H.1
  have hl:d.U.length=all.length - k:=by rw[<-I];simp
  refine⟨s,tn C,(k:Int),pj C,?_⟩;have T:aj .u64 (aj .i64 (((s.n:Nat):Int) - (k:Int)))=(d.U.length:Int):=by rw[aQ _ (by omega),IntWalk.u64_in _ (by omega)];omega
  rw[T];refine bB (λE=>?_) (λE=>?_)
  .have aa:=eH E;simp only[aq (show d.U.length<n by omega)];obtain⟨M,N,G,O⟩:=zb C H P Q 3;rw[I]at G;rw[aq (show(3:Int)≠0 by decide)];exact⟨M,N,⟨none,0,0⟩,rfl,Ow.nil _ _,G,A.trans (B.oc.trans O λ_ _ h=>h) λ_ _ h=>h,by simp[ax]⟩
  .have aa:=hZ E;simp only[af (show ¬d.U.length<n by omega),af (show ¬d.err≠0 by simp[y])];obtain⟨F,V,W,Z⟩:=J4 ic z.drew .i64 .u64 n (by omega);refine⟨⟨some ⟨z.drew.heap.size,0,none⟩,0,n⟩,F,V,?_⟩;have K:ag z F:=B.dA Z;have x:=e.br K;refine Xk (w0:=w) (rb:=rb) (fp:=rb::ax s) h.lt h.mem n (by omega) _ n 0 (by omega) F _ [] d rfl y (A.dA K) x W ?_ ?_
   .intro ae hx;simp[ax]at hx;have:=A.size;have:=B.size;omega
   .intro r w' L;have S:(if(eQ n d).2.err≠0 then[]else[]++(eQ n d).1)=(eQ n d).1:=by
     by_cases j:(eQ n d).2.err≠0
     .rw [aq j];cases n with
      |zero=>rfl
      |succ n=>
       simp only[eQ]at j ⊢;by_cases e:(a3 d).2.err≠0
       .simp only[aq e]
       .simp only[af e]at j ⊢;by_cases x:(eQ n (a3 d).2).2.err≠0
        .simp only[aq x]
        .simp only[af x]at j;exact absurd j x
     .rw [af j];rfl
    rw[S]at L;exact L
def oh{w:J}{rb:Nat}{st:RS}{fp:List Nat}(h:cW w rb st fp):
  ai Y M3 #[.pointer (some (ab rb))] w (pY w rb fp bN ((cI st).1.map a') (cI st).2):=by refine RJ.ok _ w _ ((Xj h).mono ?_);rintro r e ⟨s,rfl,d⟩;exact⟨s,rfl,s,rfl,d⟩
def Y9{w:J}{rb:Nat}{st:RS}{fp:List Nat}(h:cW w rb st fp):
  ai Y M5 #[.pointer (some (ab rb))] w (uy w rb fp (.string (ba (bX st).1)) (bX st).2):=by refine RL.ok _ w _ ((JV h).mono ?_);rintro r q ⟨s,rfl,d,e,j,k⟩;exact⟨s,rfl,_,ma d.rd,rfl,e,j⟩
def Ea(n:Nat)(h:n<18446744073709551616)(r:List UInt8):eS ⟨dT n++r,0⟩=(n,⟨r,0⟩):=by unfold eS;rw[af (by simp),HC 9 0 n r rfl (by simpa using h) (by omega)]
def kh(n:Int)(h:a7 n)(r:List UInt8):a3 ⟨bt n++r,0⟩=(n,⟨r,0⟩):=by unfold a3 bt;rw[Ea _ (z5 n h.1 h.2),abd]
def OF(n:Nat)(h:n<18446744073709551616)(r:List UInt8)(d:n<=r.length):hV ⟨dT n++r,0⟩=(n,⟨r,0⟩):=by unfold hV;rw[Ea n h];simp only[];rw[af (by simp),af (by omega)]
def y'(b:List UInt8)(h:b.length<18446744073709551616)(r:List UInt8):bX ⟨df b++r,0⟩=(b,⟨r,0⟩):=by unfold bX df;rw[cp,OF _ h _ (by simp)];simp
def OI:∀(l:List Int) (r:List UInt8),(∀d∈l,a7 d)->eQ l.length ⟨l.flatMap bt++r,0⟩=(l,⟨r,0⟩)
 |[],r,_=>rfl
 |d::l,r,e=>by simp only[List.length_cons,eQ,List.flatMap_cons,cp];rw[kh d (e d (by simp)),];simp only[];rw[af (by simp),OI l r λj h=>e j (by simp[h])];simp
def xU(n:Nat):1<=(dT n).length:=by
 have:=Vn n;cases d:dT n with
 |nil=>exact absurd d this
 |cons=>simp
def IM:∀(l:List Int),l.length<=(l.flatMap bt).length
 |[]=>by simp
 |d::l=>by have h:=xU (zz d);have e:=IM l;have:(bt d).length=(dT (zz d)).length:=rfl;simp at e ⊢;omega
def ti(l:List Int)(h:l.length<18446744073709551616)(V:∀d∈l,a7 d)(r:List UInt8):cI ⟨cH l++r,0⟩=(l,⟨r,0⟩):=by unfold cI cH;rw[cp,OF _ h _ (by have:=IM l;simp at this ⊢;omega)];simp only[];rw[af (by simp),OI l r V]
def VO{w0 w w':J}{own:List Nat}(F:ag w0 w)(n:∀d∈own,w0.heap.size<=d)(f:Fr (·∈own) w w'):ag w0 w':=F.trn f n
def XU{w0 w:J}{own h:List Nat}(F:ag w0 w)(n:∀d∈own,w0.heap.size<=d)(o:∀d∈h,d∈own\/w.heap.size<=d):∀d∈h,w0.heap.size<=d:=λd j=>by
 rcases o d j with e|e
 .grind
 .exact a6 F.size e
end Go.Proofs.YthhmdddomhknaaaGreatDoor
