import Derived.Test.YthaledkcjibmfaaGreatDoorW
import Derived.KernelRfl
import Derived.Test.YthaledkcjibmfaaGreatDoorProg
import Derived.Lib.AppendStr
import Derived.Laws.IdiomStrings
import Derived.IntWalk
set_option linter.unusedVariables false
set_option linter.defProp false
namespace Go.W
open Go renaming World->J,Calls->ak,Program->aF,Value->ab,TypeId->aC,Ending->cr,FuncId->cD,IntKind->hr
open Go.IntKind renaming wrap->ao
open Go.IntWalk renaming i64_in->aS
open Go.Builtin renaming append_->dW
open _root_.Bool renaming and_eq_true->bf
open _root_.Nat renaming zero_le->dn,beq->bQ,lt_of_lt_of_le->kP,beq_eq->ep
open _root_.UInt8 renaming ofNat->cI
open _root_.Int renaming toNat_natCast->bF
open Go.Region renaming wanted->da,ready->eG
open Go.Proofs.Tryz renaming prog->aa
open _root_.Decidable renaming decide->aq
open Go.Ending renaming returned->ag
open List renaming mem_cons->av,getElem?_eq_getElem->a6,getElem?_eq_some_iff->bO,mem_map->ch,append_assoc->cp,mem_cons_of_mem->dS,drop_eq_getElem_cons->dy,getElem?_map->iM,take_add_one->ej,getElem?_take->jw,drop_of_length_le->dC,eq_nil_of_length_eq_zero->qN
abbrev Lv:=List (Nat×List ab×aC)
abbrev Sv:=List (Nat×Option (Nat×Nat))
def Sv.get? :Sv->Nat->Option (Nat×Nat)
 |[],_=>none
 |(e,v)::d,t=>bif bQ e t then v else Sv.get? d t
def Sv.at(S:Sv):Operand->Option (Nat×Nat)
 |.tmp t=>S.get? t
 |_=>none
def Sv.put(S:Sv)(d:Option Nat)(o:Option (Nat×Nat)):Sv:=match d with
 |some d=>(d,o)::S
 |none=>S
structure TS where
 E:Env
 S:Sv
 L:Lv
 w:J
 d:Bool
abbrev HT:=List (Nat×Option Nat×(J->Prop))
def fG(s:TS)(K:TS->Prop):Prop:=match s.d with
 |true=>loc (g9 s.L) s.w λe=>K ⟨s.E,s.S,s.L,e,false⟩
 |false=>K s
def O8:ab->ab->Bool
 |.int d _,.int e _=>d==e
 |.bool _,.bool _=>true
 |.string _,.string _=>true
 |.slice _ _ _,.slice _ _ _=>true
 |.pointer _,.pointer _=>true
 |.map _,.map _=>true
 |.int ..,_|.bool _,_|.string _,_|.slice ..,_|.pointer _,_|.map _,_=>false
 |_,_=>true
def y':List ab->List ab->Bool
 |[],[]=>true
 |e::h,v::d=>O8 e v&&y' h d
 |_,_=>false
def Cd(P:aF)(T:aC)(cs:List ab)(j:Nat)(K:ab->Prop):Prop:=
 cE (w9 P T)<|match zeroOf P T with
 |.agg d=>cE (y' d.toList ((cs.drop j).take d.size)) (K (.agg ((cs.drop j).take d.size).toArray))
 |.nilFunc=>False
 |e=>match cs[j]? with
  |some v=>cE (O8 e v) (K v)
  |none=>False
def H8(P:aF)(T:aC)(f:Nat):Option Nat:=match P.underlying T with
 |some (.struct d)=>match d[f]? with
  |some f=>match P.info? f.type with
   |some i=>bif bQ i.size 0 then none else some f.offset
   |none=>none
  |none=>none
 |_=>none
def QY(P:aF)(o:Oper):Bool:=match o.op with
 |.load ..|.lookup ..=>true
 |.convert s e _=>match P.underlying s,P.underlying e with
  |some (.slice _),some .string=>true
  |some (.pointer _),some .unsafePointer=>true
  |some .unsafePointer,some (.pointer _)=>true
  |_,_=>false
 |.binOp .neq d _ h _=>bif isConst h then false else match P.underlying d with
  |some (.pointer _)=>true
  |_=>false
 |.call {callee:=.builtin .len,args,argTypes}=>match args.toList,argTypes.toList with
  |[_],[d]=>match P.underlying d with
   |some (.map _ _)=>true
   |_=>false
  |_,_=>false
 |_=>false
def zG(P:aF)(o:Oper):Bool:=B2 P o||QY P o
def sy(P:aF)(o:Oper)(s:TS)(K:ab->Option (Nat×Nat)->List (Option Nat×(J->Prop))->TS->Prop):Prop:=
 bif zG P o then fG s λs=>mI P o s.E s.w λv e=>K v none (e.map λd=>(none,d)) s else mI P o s.E s.w λv e=>K v none (e.map λd=>(none,d)) s
def A0(P:aF)(o:Oper)(s:TS)(K:ab->Option (Nat×Nat)->List (Option Nat×(J->Prop))->TS->Prop):Prop:=
 match o.op with
 |.load h d=>match s.S.at d with
  |some (i,e)=>match s.L[i]? with
   |some X=>Cd P h X.2.1 e λv=>K v none [(some i,λk=>(loadVar h ((ae X.1).add e)).run P k=.ok v k)] s
   |none=>False
  |none=>sy P o s K
 |.move d|.assign d|.nilCheck d=>match s.S.at d with
  |some q=>K ((s.E.val d).getD undef) (some q) [] s
  |none=>sy P o s K
 |.fieldAddr h d f=>match s.S.at d with
  |some (i,e)=>match H8 P h f,s.L[i]? with
   |some j,some X=>K (.pointer (some ((ae X.1).add (e+j)))) (some (i,e+j)) [] s
   |_,_=>False
  |none=>sy P o s K
 |_=>sy P o s K
def oW(L:Lv)(w Y:J)(p:Prop):Prop:=match L with
 |[]=>p
 |L=>kept (g9 L) w Y/\p
def y8:List ab->Nat->List ab->List ab
 |d,_,[]=>d
 |d,e,v::h=>y8 (d.set e v) (e+1) h
def xT(e:List Nat)(d:Option Nat):Bool:=match d with
 |some d=>e.any (bQ d)
 |none=>false
def Ep(V:List Nat)(p:Addr):List ab->Nat->J->(J->Prop)->Prop
 |[],_,d,e=>e d
 |v::j,i,d,e=>aQ d (p.add i) v λh=>kept V d h/\Ep V p j (i+1) h e
def CQ(s:TS)(cs:List ab)(T:aC)(K:ab->Option (Nat×Nat)->Option Nat->TS->Prop):Prop:=
 vH (g9 s.L) s.w λb d=>K (.pointer (some (ae b))) (some (s.L.length,0)) none ⟨s.E,s.S,s.L++[(b,cs,T)],d,false⟩
def xq(P:aF)(f:cD)(args:Array ab)(z:ab)(s:TS)(K:ab->J->Prop):Prop:=match s.L with
 |[]=>oI P f args z s.w K
 |d=>ee (g9 d) P f args s.w λe h=>mS z λv=>e=ag v/\K v h
def Bn(P:aF)(k:List Nat)(draw:Bool)(o:Oper)(s:TS)(K:ab->Option (Nat×Nat)->Option Nat->TS->Prop):Prop:=
 match o.op with
 |.store e h q=>match s.S.at h with
  |some (i,j)=>match s.L[i]?,s.E.val q with
   |some X,some v=>cE (v.cells.size==(match P.info? e with |some i=>i.size|none=>0)&&v.cells.toList.all qK&&(P.info? e).isSome&&Nat.ble (j+v.cells.size) X.2.1.length) (K undef none (some i) ⟨s.E,s.S,s.L.set i (X.1,y8 X.2.1 j v.cells.toList,X.2.2),s.w,true⟩)
   |_,_=>False
  |none=>fG s λs=>match s.L with
   |[]=>gY P o s.E s.w λv d=>K v none none ⟨s.E,s.S,s.L,d,false⟩
   |x=>match s.E.val h,s.E.val q with
    |some (.pointer (some p)),some v=>cE (v.cells.size==(match P.info? e with |some i=>i.size|none=>0)&&v.cells.toList.all qK&&(P.info? e).isSome) (Ep (g9 x) p v.cells.toList 0 s.w λd=>K undef none none ⟨s.E,s.S,s.L,d,false⟩)
    |_,_=>False
 |.alloc e=>bif xT k o.dst then cE ((P.info? e).bind (·.zero)).isSome (CQ s (zeroOf P e).cells.toList e K)else fG s λs=>gY P o s.E s.w λv d=>K v none none ⟨s.E,s.S,s.L,d,false⟩
 |.box e h=>bif xT k o.dst then(match s.E.val h with
   |some v=>CQ s v.cells.toList e K
   |none=>False)else fG s λs=>gY P o s.E s.w λv d=>K v none none ⟨s.E,s.S,s.L,d,false⟩
 |.buildSlice ..|.makeMap ..=>fG s λs=>gY P o s.E s.w λv d=>K v none none ⟨s.E,s.S,s.L,d,false⟩
 |.call {callee:=.value (.func f),args,..}=>fG s λs=>cE (s.E.dQ o) (bif gW P f then xq P f (args.map s.E.ev) (zeroOf P o.type) s λv d=>K v none none ⟨s.E,s.S,s.L,d,false⟩
   else vd P f (args.map s.E.ev) (zeroOf P o.type) s.w λv d=>oW s.L s.w d (K v none none ⟨s.E,s.S,s.L,d,false⟩))
 |.call {callee:=.value (.tmp t),args,..}=>fG s λs=>cE (s.E.dQ o) (match s.E.get? t with
   |some (.func (.func f) first captured)=>cE (gW P f) (xq P f (first++args.map s.E.ev++captured) (zeroOf P o.type) s λv d=>K v none none ⟨s.E,s.S,s.L,d,false⟩)
   |_=>False)
 |_=>fG s λs=>(bif draw then gY else r9) P o s.E s.w λv d=>oW s.L s.w d (K v none none ⟨s.E,s.S,s.L,d,false⟩)
def vm(ops:Array Oper)(j:Nat)(w:J):HT->List Prop
 |[]=>[]
 |(i,f,e)::d=>bif h' ops i j||f.isSome then vm ops j w d else e w::vm ops j w d
def fZ(ops:Array Oper)(j:Nat):HT->HT
 |[]=>[]
 |(i,f,e)::d=>bif h' ops i j then fZ ops j d else(i,f,e)::fZ ops j d
def DN(ops:Array Oper)(j:Nat)(s:TS)(H:HT)(K:TS->Prop):Prop:=
 bif H.any (λp=>!(h' ops p.1 j)&&p.2.1.isNone)then fG s λs=>rM (vm ops j s.w H) (K s)else K s
def stepT(P:aF)(k:List Nat)(ops:Array Oper)(draw:Bool)(i:Nat)(o:Oper)(s:TS)(H:HT)(K:TS->HT->Prop):Prop:=
 bif calm P o then A0 P o s λv e j s=>K ⟨s.E.put o.dst v,s.S.put o.dst e,s.L,s.w,s.d⟩ (bif draw then j.map (λh=>(i,h))++H else H)
 else Bn P k draw o s λv e m s=>cE (!((fZ ops i H).any λp=>m.isSome&&p.2.1==m)) (DN ops i s H λs=>K ⟨s.E.put o.dst v,s.S.put o.dst e,s.L,s.w,s.d⟩ (fZ ops i H))
def mV(P:aF)(e:List Nat)(ops:Array Oper)(draw:Bool)(i:Nat)(o:Oper)(d:Nat)(want t:Bool)(s:TS)(H:HT)(K:TS->HT->Prop):Prop:=
 bif (t==want)then stepT P e ops draw i o ⟨(d,.bool t)::s.E,s.S,s.L,s.w,s.d⟩ H K else K ⟨Env.put ((d,.bool t)::s.E) o.dst undef,s.S.put o.dst none,s.L,s.w,s.d⟩ (bif calm P o then H else fZ ops i H)
def runT(P:aF)(e:List Nat)(ops:Array Oper)(draw:Bool)(K:TS->Prop):List Nat->TS->HT->Prop
 |[],s,_=>K s
 |i::l,s,h=>
  match ops[i]? with
  |none=>False
  |some o=>match o.guard with
   |none=>stepT P e ops draw i o s h λk j=>runT P e ops draw K l k j
   |some (x,want)=>match jo ops x with
    |none=>False
    |some q=>match s.E.get? q with
     |some (.bool t)=>bn t (mV P e ops draw i o q want true s h λk j=>runT P e ops draw K l k j) (mV P e ops draw i o q want false s h λk j=>runT P e ops draw K l k j)
     |some (.tuple _)=>runT P e ops draw K l ⟨Env.put s.E o.dst undef,s.S.put o.dst none,s.L,s.w,s.d⟩ (bif calm P o then h else fZ ops i h)
     |_=>False
def vk(P:aF)(j:List Nat)(ops:Array Oper)(i:Nat)(s:TS)(H:HT)(e:TS->HT->Prop):Prop:=
 match ops[i]? with
 |none=>False
 |some o=>match o.guard with
  |none=>stepT P j ops true i o s H e
  |some (k,want)=>match jo ops k with
   |none=>False
   |some h=>match s.E.get? h with
    |some (.bool t)=>bn t (mV P j ops true i o h want true s H e) (mV P j ops true i o h want false s H e)
    |some (.tuple _)=>e ⟨Env.put s.E o.dst undef,s.S.put o.dst none,s.L,s.w,s.d⟩ (bif calm P o then H else fZ ops i H)
    |_=>False
def py(P:aF)(e:List Nat)(ops:Array Oper)(K:TS->Prop):Tr->TS->HT->Prop
 |.nil,s,_=>K s
 |.one i t,s,d=>vk P e ops i s d λj h=>py P e ops K t j h
 |.fork a b,s,d=>py P e ops K a s d/\py P e ops K b s d
def Tr.sq:List Nat->Tr->Tr
 |[],t=>t
 |i::l,t=>.one i (Tr.sq l t)
def xy(s:TS)(K:TS->Prop):Prop:=match s.L,s.d with
 |[],false=>K ⟨s.E,s.S,s.L,s.w.drew,false⟩
 |_,_=>K ⟨s.E,s.S,s.L,s.w,true⟩
section
variable {P:aF}
structure Inv(s:TS)(w:J):Prop where
 lc:LC w s.L
 rel:if s.d=true then Fr (·∈g9 s.L) s.w w else w=s.w
 sl:∀t i j,s.S.get? t=some (i,j)->∃X,s.L[i]? =some X/\s.E.get? t=some (.pointer (some ((ae X.1).add j)))
def Inv.fG{s:TS}{w:J}{K:TS->Prop}(k:Inv s w)(h:W.fG s K):Inv ⟨s.E,s.S,s.L,w,false⟩ w/\K ⟨s.E,s.S,s.L,w,false⟩:=by
 refine⟨⟨k.lc,by simp,k.sl⟩,?_⟩;unfold W.fG at h;have j:=k.rel;cases e:s.d with
 |true=>
  rw[e]at h j;exact h w (by simpa using j)
 |false=>
  rw[e]at h j;have:w=s.w:=by simpa using j
  obtain⟨q,y,x,A,z⟩:=s;simp only at e this;subst e this;exact h
def Inv.fr{s:TS}{w:J}(j:Inv s w):Fr (·∈g9 s.L) s.w w:=by
 have e:=j.rel;cases h:s.d with
 |true=>rw[h]at e;simpa using e
 |false=>
  rw[h]at e;have:w=s.w:=by simpa using e
  subst this;exact Fr.refl _ _
def Inv.at{s:TS}{w:J}(d:Inv s w){x:Operand}{i j:Nat}(h:s.S.at x=some (i,j)):∃X,s.L[i]? =some X/\s.E.val x=some (.pointer (some ((ae X.1).add j)))/\w.heap[X.1]? =some (.cells X.2.1.toArray X.2.2 (0,0)):=by
 cases x with
 |tmp t=>
  obtain⟨X,e,k⟩:=d.sl t i j h;exact⟨X,e,k,d.lc.own i X e⟩
 |_=>cases h
def O9:∀{e vs:List ab},y' e vs=true->vs.length=e.length
 |[],[],_=>rfl
 |h::e,v::vs,d=>by unfold y' at d;rw[bf]at d;simp[O9 d.2]
def Jb{T:aC}{cs:List ab}{j b:Nat}{ty:aC}{K:ab->Prop}(h:Cd P T cs j K):
  ∃v,K v/\∀d:J,d.heap[b]? =some (.cells cs.toArray ty (0,0))->(loadVar T ((ae b).add j)).run P d=.ok v d:=by
 obtain⟨e,h⟩:=dI h;unfold w9 at e;have one:∀(v:ab),cs[j]? =some v->(pX P T==some false)=true->∀d:J,d.heap[b]? =some (.cells cs.toArray ty (0,0))->(loadVar T ((ae b).add j)).run P d=.ok v d:=λv y q d z=>
  v8 (by simpa using q) (cellAt (p:=ae b) z rfl (by simpa using y))
 cases A:zeroOf P T with
 |agg E=>
  rw[A]at h e;simp only at h e;obtain⟨C,B⟩:=dI h;rw[bf]at e;obtain⟨q,k⟩:=e;cases x:P.info? T with
  |none=>rw[x]at k;simp at k
  |some i=>
   rw[x]at k;simp at k q;refine⟨_,B,λd z=>OR q x (by rw[k,O9 C];simp) λD v w=>?_⟩;rw[add_add];refine cellAt (p:=ae b) z rfl ?_;rw[jw]at w;split at w
   .simpa using w
   .cases w
 |nilFunc=>rw[A]at h;exact h.elim
 |_=>
  rw[A]at h e;simp only at h;split at h
  .rename_i v y;exact⟨v,(dI h).2,one v y e⟩
  .exact h.elim
def T1{o:Oper}{E:Env}{w Y:J}{K:ab->List (J->Prop)->Prop}(h:zG P o=false)(d:mI P o E w K):mI P o E Y K:=by
 unfold zG at h;rw[Bool.or_eq_false_iff]at h;obtain⟨z,h⟩:=h;unfold mI at d ⊢;rw[z]at d ⊢;simp only[cond_false]at d ⊢;unfold xr at d ⊢;unfold QY at h;split at d<;>first |exact d|skip
 all_goals rename_i A
 all_goals rw[A]at h
 .cases h
 .rename_i B _ q;cases B with
  |const c=>exact(q c rfl).elim
  |_=>
   simp only[isConst,cond_false]at h;split
   .rename_i e _ _;simp only[e]at h;cases h
   .split at d
    .rename_i e _ _;simp only[e]at h;cases h
    .exact d
 .cases h
 .split<;>first
   |(rename_i x k _;simp only[x,k]at h;cases h;done)
   |(split at d<;>first
     |(rename_i x k _;simp only[x,k]at h;cases h;done)
     |exact d)
 .split
  .rename_i j y;simp only[j,y]at h d;split
   .rename_i e _;simp only[e]at h;cases h
   .split at d
    .rename_i e _;simp only[e]at h;cases h
    .exact d
  .rename_i q;split at d
   .rename_i j y;exact(q _ _ j y).elim
   .exact d
def wM(P:aF)(o:Oper)(a:Act)(s:TS)(w:J)(v:ab)(h:Option (Nat×Nat))(Ss:List (Option Nat×(J->Prop)))(s':TS):Prop:=
 Inv s' w/\s'.E=s.E/\s'.S=s.S/\s'.L=s.L/\Calm P o a.eval w v (Ss.map (·.2))/\
 (∀p∈Ss,∀i,p.1=some i->∃X,s.L[i]? =some X/\∀e:J,e.heap[X.1]? =some (.cells X.2.1.toArray X.2.2 (0,0))->p.2 e)/\
 (∀i d,h=some (i,d)->∃X,s.L[i]? =some X/\v=.pointer (some ((ae X.1).add d)))
section
variable {o:Oper} {n:Cx} {a:Act} {s:TS} {w:J} {K:ab->Option (Nat×Nat)->List (Option Nat×(J->Prop))->TS->Prop}
def U'(N:∀y b,o.op≠.select y b)(D:Ag n a s.E)(x:Inv s w)(h:sy P o s K):∃v e d s',K v e d s'/\wM P o a s w v e d s':=by
 have fin:∀(s':TS),s'.E=s.E->s'.S=s.S->s'.L=s.L->Inv s' w->mI P o s.E w (λv d=>K v none (d.map λj=>(none,j)) s')->∃v e d s',K v e d s'/\wM P o a s w v e d s':=λs' z A B k F=>by
  obtain⟨v,d,O,G⟩:=xu N D F;refine⟨v,none,_,s',O,k,z,A,B,?_,λp I i H=>?_,λi T M=>by cases M⟩
  .rw [List.map_map];have:((λQ:Option Nat×(J->Prop)=>Q.2)∘λj=>((none:Option Nat),j))=id:=rfl;rw[this,List.map_id];exact G
  .obtain ⟨j,_,rfl⟩:=ch.1 I;cases H
 unfold sy at h;cases q:zG P o with
 |true=>
  rw[q,cond_true]at h;obtain⟨k,C⟩:=x.fG h;exact fin ⟨s.E,s.S,s.L,w,false⟩ rfl rfl rfl k C
 |false=>
  rw[q,cond_false]at h;exact fin s rfl rfl rfl x (T1 q h)
def TZ(hs:∀Y b,o.op≠.select Y b)(F:Ag n a s.E)(z:Inv s w)(h:A0 P o s K):∃v d D L,K v d D L/\wM P o a s w v d D L:=by
 have gen:=λh=>U' (P:=P) (K:=K) hs F z h;have same:∀(x:Operand) (d:Nat×Nat),s.S.at x=some d->(∀w,(execOp a.eval o).run P w=.ok (.value (a.eval x)) w\/∀p,a.eval x≠.pointer (some p))->K ((s.E.val x).getD undef) (some d) [] s->∃v d D L,K v d D L/\wM P o a s w v d D L:=λx d k H e=>by
  obtain⟨X,A,q,_⟩:=z.at (i:=d.1) (j:=d.2) k;have V:=F.val q;refine⟨_,_,_,s,e,z,rfl,rfl,rfl,⟨λQ B=>(by cases B),λM _=>?_⟩,λp C=>(by cases C),λi I G=>?_⟩
  .rcases H M with H|H
   .rw [H,q,V];rfl
   .exact (H _ V).elim
  .cases G;exact⟨X,A,by rw[q];rfl⟩
 unfold A0 at h;split at h
 .rename_i O x y;split at h
  .rename_i i I k;obtain⟨X,A,q,T⟩:=z.at k;rw[A]at h;obtain⟨v,e,W⟩:=Jb (b:=X.1) (ty:=X.2.2) h;refine⟨v,_,_,s,e,z,rfl,rfl,rfl,⟨λQ B=>?_,λM ad=>?_⟩,λp C i' aa=>?_,λi I G=>by cases G⟩
   .simp only[List.map_cons,List.map_nil,av,List.not_mem_nil,aT]at B;subst B;exact W w T
   .have:(loadVar O ((ae X.1).add I)).run P M=.ok v M:=ad (λw=>(loadVar O ((ae X.1).add I)).run P w=.ok v w) (by simp);simp[execOp,y,Instr.loadAt,F.val q,Instr.sureAddr,this]
   .simp only[av,List.not_mem_nil,aT]at C;subst C;cases aa;exact⟨X,A,W⟩
  .exact gen h
 .rename_i x y;split at h
  .rename_i d k;exact same x d k (λw=>.inl (by simp[execOp,y])) h
  .exact gen h
 .rename_i x y;split at h
  .rename_i d k;exact same x d k (λw=>.inl (by simp[execOp,y])) h
  .exact gen h
 .rename_i x y;split at h
  .rename_i d k;refine same x d k (λw=>?_) h;obtain⟨X,_,q,_⟩:=z.at (i:=d.1) (j:=d.2) k;exact .inl (by simp[execOp,y,F.val q])
  .exact gen h
 .rename_i O x f y;split at h
  .rename_i i I k;obtain⟨X,A,q,T⟩:=z.at k;split at h
   .rename_i af X' e U;rw[A]at U;cases U;refine⟨_,_,_,s,h,z,rfl,rfl,rfl,⟨λQ B=>(by cases B),λM _=>?_⟩,λp C=>(by cases C),λi' j' G=>?_⟩
    .unfold H8 at e;split at e
     .rename_i fs hu;split at e
      .rename_i fd hf;split at e
       .rename_i inf ab;cases N:bQ inf.size 0 with
        |true=>rw[N]at e;cases e
        |false=>
         rw[N]at e;cases e;have ac:inf.size≠0:=λZ=>by rw[Z]at N;cases N
         simp[execOp,y,F.val q,Instr.fieldAt,run_underlying hu,hf,Instr.sureAddr,fieldPlace,sizeOf,typeInfo,ab,ac,add_add]
       .cases e
      .cases e
     .cases e
    .cases G;exact⟨X,A,rfl⟩
   .exact h.elim
  .exact gen h
 .exact gen h
end
def rs(s:TS)(K:ab->Option (Nat×Nat)->Option Nat->TS->Prop)(v:ab)(Y:J):Prop:=
 ∃h m d,K v h m d/\Inv d Y/\d.E=s.E/\d.S=s.S/\(∀i X,s.L[i]? =some X->m≠some i->d.L[i]? =some X)/\
  (∀i e,h=some (i,e)->∃X,d.L[i]? =some X/\v=.pointer (some ((ae X.1).add e)))
def OO{o:Oper}{ρ:Operand->ab}{T:aC}{z:ab}(h:o.op=.alloc T)(d:(P.info? T).bind (·.zero)=some z)(w:J):
  (execOp ρ o).run P w=.ok (.value (.pointer (some (ae w.heap.size)))) (w.alloc (.cells z.cells T)):=by
 cases e:P.info? T with
 |none=>rw[e]at d;cases d
 |some i=>
  rw[e]at d;have j:i.zero=some z:=d;simp[execOp,h,Instr.alloc,zeroValue,typeInfo,e,j,newVar,newRow]
def OP{o:Oper}{ρ:Operand->ab}{T:aC}{x:Operand}(d:o.op=.box T x)(w:J):
  (execOp ρ o).run P w=.ok (.value (.pointer (some (ae w.heap.size)))) (w.alloc (.cells (ρ x).cells T)):=by simp[execOp,d,Instr.box,newVar,newRow]
def VR{L:Lv}{w Y:J}{p:Prop}(h:oW L w Y p)(H:LC w L):LC Y L/\p:=by
 cases L with
 |nil=>exact⟨LC.nil _,h⟩
 |cons d L=>exact⟨H.oW h.1,h.2⟩
section
variable {o:Oper} {n:Cx} {a:Act} {s:TS} {w:J} {K:ab->Option (Nat×Nat)->Option Nat->TS->Prop}
def Gz{f:cD}{args:Array ab}{K:ab->J->Prop}(q:(execOp a.eval o).run P w=.ok (.enter f args) w)(h:ak P f args w λd e=>∃v,d=ag v/\K v e):iu P o a w K:=by intro x;unfold Oper.wp;rw[q];simp only[Oper.upon];refine Calls.mono h λd e j=>?_;obtain⟨v,rfl,k⟩:=j;exact⟨v,rfl,k⟩
def GA{f:cD}{args:Array ab}{z:ab}{K:ab->J->Prop}(k:(execOp a.eval o).run P w=.ok (.enter f args) w)(H:LC w s.L)(q:s.w=w)(h:xq P f args z s K):iu P o a w λv d=>LC d s.L/\K v d:=by
 unfold xq at h;split at h
 .rename_i A;rw[q]at h;refine Gz k (Calls.mono h λx d e=>?_);obtain⟨v,rfl,j⟩:=qo e;exact⟨v,rfl,by rw[A];exact LC.nil _,j⟩
 .rw [q]at h;obtain⟨E,C,B⟩:=h;refine Gz k (Calls.mono B λx d e=>?_);obtain⟨y,D⟩:=e;obtain⟨v,rfl,j⟩:=qo D;exact⟨v,rfl,H.fr y C,j⟩
def ML{cs:Array ab}{T:aC}(y:(execOp a.eval o).run P w=.ok (.value (.pointer (some (ae w.heap.size)))) (w.alloc (.cells cs T)))(d:Inv s w)(h:CQ s cs.toList T K):iu P o a w (rs s K):=by
 intro z;unfold Oper.wp;rw[y];simp only[Oper.upon];refine⟨_,rfl,_,_,_,h w.heap.size (w.alloc (.cells cs T)) d.fr.size (size_alloc _ _) (d.fr.dD (Fr.alloc _ _ _)),⟨d.lc.push cs T,by simp,λt i q e=>?_⟩,rfl,rfl,λi X k _=>?_,λi q e=>?_⟩
 .obtain ⟨X,j,x⟩:=d.sl t i q e;exact⟨X,by rw[List.getElem?_append_left (bO.1 j).1];exact j,x⟩
 .rw [List.getElem?_append_left (bO.1 k).1];exact k
 .cases e;exact⟨(w.heap.size,cs.toList,T),by simp,by rw[iS]⟩
def Pt{i j b:Nat}{T:aC}{A:J}{K:J->Prop}:∀(vs:List ab) (k:Nat) (w:J) (L:Lv) (cs:List ab),LC w L->L[i]? =some (b,cs,T)->j+k+vs.length<=cs.length->Fr (·∈g9 L) A w->
  (∀e,LC e (L.set i (b,y8 cs (j+k) vs,T))->Fr (·∈g9 L) A e->K e)->pk ((ae b).add j) vs k w K
 |[],k,w,L,cs,h,d,z,f,q=>by
  refine q w ?_ f;have:L.set i (b,cs,T)=L:=by
   apply List.ext_getElem?;intro m;rw[List.getElem?_set];split
   .rename_i B;subst B;split
    .exact d.symm
    .rename_i C;exact absurd (bO.1 d).1 C
   .rfl
  rw[show y8 cs (j+k) []=cs from rfl,this];exact h
 |v::vs,k,w,L,cs,h,d,z,f,q=>by
  simp only[List.length_cons]at z;obtain⟨D,E,F,G⟩:=h.set (v:=v) i (j+k) d (by omega) f
  unfold pk;rw[add_add];refine⟨D,E,Pt (i:=i) (T:=T) vs (k+1) _ _ (cs.set (j+k) v) F ?_ (by rw[List.length_set];omega) G λe x y=>?_⟩
  .rw [List.getElem?_set_self (bO.1 d).1]
  .rw [List.set_set]at x;rw[AF L i d]at y;exact q e x y
def Pr{L:Lv}{p:Addr}{K K':J->Prop}(j:∀h,LC h L->K h->K' h):∀(vs:List ab) (i:Nat) (w:J),LC w L->Ep (g9 L) p vs i w K->pk p vs i w K'
 |[],_,w,d,e=>j w d e
 |v::vs,i,w,d,e=>by obtain⟨k,q,x,y⟩:=e;exact⟨k,q,Pr j vs (i+1) _ (d.oW x) y⟩
def Re{b:Bool}{p:Prop}(d:b=true)(e:p):cE b p:=by subst d;exact e
def Hd{E:Env}{T:aC}{x y:Operand}{p:Addr}{v:ab}{K:ab->J->Prop}(e:o.op=.store T x y)(j:E.val x=some (.pointer (some p)))(k:E.val y=some v)(d:(v.cells.size==(match P.info? T with |some i=>i.size|none=>0)&&v.cells.toList.all qK&&(P.info? T).isSome)=true)(h:pk p v.cells.toList 0 w λq=>K undef q):gY P o E w K:=by unfold gY;rw[e];simp only[j,k];exact Re d h
def OS{ρ:Operand->ab}{nx:Next}{Y:J}(d:(∃e,o.op=.alloc e)\/(∃e A,o.op=.box e A)\/(∃e l p,o.op=.buildSlice e l p)\/(∃e r,o.op=.makeMap e r))(h:(execOp ρ o).run P w=.ok nx Y):ah w Y:=by
 rcases d with⟨e,d⟩|⟨e,A,d⟩|⟨e,l,p,d⟩|⟨e,r,d⟩
 .cases q:(P.info? e).bind (·.zero)with
  |some B=>
   rw[OO d q]at h;cases h;exact Fr.alloc _ _ _
  |none=>
   exfalso;cases k:P.info? e with
   |none=>simp[execOp,d,Instr.alloc,zeroValue,typeInfo,k]at h
   |some i=>
    rw[k]at q;have D:i.zero=none:=q;simp[execOp,d,Instr.alloc,zeroValue,typeInfo,k,D]at h
 .rw [OP d]at h;cases h;exact Fr.alloc _ _ _
 .cases j:P.underlying e with
  |none=>simp[execOp,d,Instr.buildSlice,underlying,j]at h
  |some u=>
   cases u<;>first |(simp[execOp,d,Instr.buildSlice,run_underlying j]at h;done)|skip
   rename_i C;cases k:P.info? C with
   |none=>simp[execOp,d,Instr.buildSlice,run_underlying j,sizeOf,typeInfo,k]at h
   |some i=>
    by_cases z:l *i.size>2^24
    .simp [execOp,d,Instr.buildSlice,run_underlying j,sizeOf,typeInfo,k,z]at h
    by_cases y:l *i.size=0
    .simp [execOp,d,Instr.buildSlice,run_underlying j,sizeOf,typeInfo,k,y]at h;split at h
     .simp [newRow]at h;obtain⟨_,rfl⟩:=h;exact Fr.alloc _ _ _
     .simp at h
    .simp [execOp,d,Instr.buildSlice,run_underlying j,sizeOf,typeInfo,k,z,y]at h;cases q:i.zero with
     |none=>simp[zeroValue,typeInfo,k,q]at h
     |some B=>
      simp[zeroValue,typeInfo,k,q]at h;split at h
      .simp [newRow]at h;obtain⟨_,rfl⟩:=h;exact Fr.alloc _ _ _
      .simp at h
 .cases r with
  |none=>
   simp[execOp,d,Instr.makeMap]at h;obtain⟨_,rfl⟩:=h;exact Fr.alloc _ _ _
  |some r=>
   cases j:P.underlying e with
   |none=>simp[execOp,d,Instr.makeMap,underlying,j]at h
   |some u=>
    cases u<;>first |(simp[execOp,d,Instr.makeMap,run_underlying j]at h;done)|skip
    cases x:ρ r with
    |int F B=>
     simp[execOp,d,Instr.makeMap,run_underlying j,x,Go.asInt,Go.asIntOf]at h;obtain⟨_,rfl⟩:=h;exact Fr.alloc _ _ _
    |pointer E=>cases E<;>simp[execOp,d,Instr.makeMap,run_underlying j,x,Go.asInt,Go.asIntOf]at h
    |_=>simp[execOp,d,Instr.makeMap,run_underlying j,x,Go.asInt,Go.asIntOf]at h
def W0{K:ab->J->Prop}(B:∀y b,o.op≠.select y b)(z:Ag n a s.E)(e:(∃d,o.op=.alloc d)\/(∃d x,o.op=.box d x)\/(∃d l p,o.op=.buildSlice d l p)\/(∃d r,o.op=.makeMap d r))(h:gY P o s.E w K):iu P o a w λv q=>ah w q/\K v q:=by
 have j:oM P o s.E w K:=by unfold gY at h;rcases e with⟨d,e⟩|⟨d,x,e⟩|⟨d,l,p,e⟩|⟨d,r,e⟩<;>rw[e]at h<;>exact h
 obtain⟨A,j⟩:=dI j;intro C;unfold Oper.wp;rw[z.execOp B A];generalize k:(execOp s.E.ev o).run P w=r at j;split at j
 .simp only[Oper.upon];exact⟨_,rfl,OS e k,j⟩
 .simp only[Oper.upon];exact⟨_,rfl,OS e k,j⟩
 .exact j.elim
def Ut{draw:Bool}{lv:List Nat}(A:(ab->J->Prop)->Prop)(C:∀K,iu P o a w K->A K)(h1:∀K,(bif draw then gY else r9) P o s.E w K->A K)(G:∀K aa,(∀v d,K v d->aa v d)->A K->A aa)(W:∀cs b,o.op≠.select cs b)(D:Ag n a s.E)(k:Inv s w)(h:Bn P lv draw o s K):A (rs s K):=by
 have back:∀v d,LC d s.L->K v none none ⟨s.E,s.S,s.L,d,false⟩->rs s K v d:=λv d B e=>⟨none,none,_,e,⟨B,by simp,k.sl⟩,rfl,rfl,λi X h _=>h,λi af hq=>by cases hq⟩;have ad:∀v d,oW s.L w d (K v none none ⟨s.E,s.S,s.L,d,false⟩)->rs s K v d:=λv d e=>by obtain⟨B,e⟩:=VR e k.lc;exact back v d B e
 have news:((∃q,o.op=.alloc q)\/(∃q F,o.op=.box q F)\/(∃q l p,o.op=.buildSlice q l p)\/(∃q r,o.op=.makeMap q r))->fG s (λs=>gY P o s.E s.w λv d=>K v none none ⟨s.E,s.S,s.L,d,false⟩)->A (rs s K):=λj h=>by obtain⟨_,y⟩:=k.fG h;exact G _ _ (λv d ⟨f,e⟩=>back v d (k.lc.fr (M:=λ_=>False) f (λ_ _ h=>h)) e) (C _ (W0 W D j y))
 unfold Bn at h;split at h
 .rename_i q F al j;split at h
  .rename_i i af H;obtain⟨X,N,g2,_⟩:=k.at H;split at h
   .rename_i X' v ae hv;rw[N]at ae;cases ae;obtain⟨z,e⟩:=dI h;rw[bf]at z;obtain⟨z,Z⟩:=z;have Z:=Nat.le_of_ble_eq_true Z;refine C _ (mM W D (Hd j g2 hv z ?_));refine Pt (i:=i) (T:=X.2.2) _ 0 w s.L X.2.1 k.lc N (by simpa using Z) k.fr λd q1 q2=>?_;refine⟨none,some i,_,e,⟨q1,?_,λt U j' ht=>?_⟩,rfl,rfl,λU ac hY ah=>?_,λi af hq=>by cases hq⟩
    .simp only[if_true];rw[AF s.L i N];exact q2
    .obtain ⟨ac,y1,y2⟩:=k.sl t U j' ht;by_cases I:i=U
     .subst I;rw[N]at y1;cases y1;exact⟨_,List.getElem?_set_self (bO.1 N).1,y2⟩
     .exact ⟨ac,by rw[List.getElem?_set_ne I];exact y1,y2⟩
    .have I:i≠U:=λI=>ah (by rw[I]);show(s.L.set i _)[U]? =_;rw[List.getElem?_set_ne I];exact hY
   .exact h.elim
  .obtain ⟨_,y⟩:=k.fG h;simp only at y;split at y
   .rename_i hL;exact G _ _ (λv d e=>back v d (hL▸LC.nil _) e) (C _ (mM W D y))
   .split at y
    .rename_i p v H hy;obtain⟨z,e⟩:=dI y;exact G _ _ (λv d e=>e) (C _ (mM W D (Hd j H hy z (Pr (K':=rs s K undef) (λd B e=>back _ d B e) _ _ _ k.lc e))))
    .exact y.elim
 .rename_i q j;cases Q:xT lv o.dst with
  |true=>
   rw[Q,cond_true]at h;obtain⟨Y,h⟩:=dI h;obtain⟨aj,Y⟩:=Option.isSome_iff_exists.1 Y;have:zeroOf P q=aj:=by unfold zeroOf;rw[Y];rfl
   rw[this]at h;exact C _ (ML (OO j Y w) k h)
  |false=>
   rw[Q,cond_false]at h;exact news (.inl ⟨q,j⟩) h
 .rename_i q F j;cases Q:xT lv o.dst with
  |true=>
   rw[Q,cond_true]at h;split at h
   .rename_i v hv;have:=OP (P:=P) (ρ:=a.eval) j w;rw[D.val hv]at this;exact C _ (ML this k h)
   .exact h.elim
  |false=>
   rw[Q,cond_false]at h;exact news (.inr (.inl ⟨q,F,j⟩)) h
 .rename_i q l p j;exact news (.inr (.inr (.inl ⟨q,l,p,j⟩))) h
 .rename_i q r j;exact news (.inr (.inr (.inr ⟨q,r,j⟩))) h
 .rename_i f args ai j;obtain⟨I',h⟩:=k.fG h;obtain⟨z,h⟩:=dI h;have V:args.map a.eval=args.map s.E.ev:=D.args λF H=>List.all_eq_true.1 z F (by rw[j];simp[Op.operands,Call.operands,H]);cases O:gW P f with
  |true=>
   rw[O,cond_true]at h;exact G _ _ (λv d ⟨B,e⟩=>back v d B e) (C _ (GA (s:=⟨s.E,s.S,s.L,w,false⟩) (by simp[execOp,j,resolve,Act.eval,Deferred.ofValue,invoke,V,uE O]) k.lc rfl h))
  |false=>
   rw[O,cond_false]at h;unfold vd at h;obtain⟨v,d,hr,e⟩:=qo h;refine G _ _ ad (C _ λak=>?_);unfold Oper.wp;have:(execOp a.eval o).run P w=.ok (.value v) d:=by simp[execOp,j,resolve,Act.eval,Deferred.ofValue,invoke,V,hr]
   rw[this];simp only[Oper.upon];exact⟨_,rfl,e⟩
 .rename_i t args ai j;obtain⟨I',h⟩:=k.fG h;obtain⟨z,h⟩:=dI h;have V:args.map a.eval=args.map s.E.ev:=D.args λF H=>List.all_eq_true.1 z F (by rw[j];simp[Op.operands,Call.operands,H]);split at h
  .rename_i f first captured hf
   obtain⟨O,h⟩:=dI h;have ag:a.eval (.tmp t)=.func (.func f) first captured:=D.val (x:=.tmp t) hf
   exact G _ _ (λv d ⟨B,e⟩=>back v d B e) (C _ (GA (s:=⟨s.E,s.S,s.L,w,false⟩) (by simp[execOp,j,resolve,ag,Deferred.ofValue,invoke,V,uE O]) k.lc rfl h))
  .exact h.elim
 .obtain ⟨_,y⟩:=k.fG h;exact G _ _ ad (h1 _ y)
end
def HI(s:TS)(H:HT)(w:J):Prop:=∀p∈H,p.2.2 w/\∀i,p.2.1=some i->∃X,s.L[i]? =some X/\∀d:J,d.heap[X.1]? =some (.cells X.2.1.toArray X.2.2 (0,0))->p.2.2 d
def eX(H:HT):ey:=H.map λp=>(p.1,p.2.2)
def sB{ops:Array Oper}{j:Nat}:∀d:HT,c' ops j (eX d)=eX (fZ ops j d)
 |[]=>rfl
 |(i,f,e)::d=>by
  show c' ops j ((i,e)::eX d)=eX (fZ ops j ((i,f,e)::d));unfold c' fZ;cases h' ops i j
  .simp only[cond_false];rw[sB d];rfl
  .simp only[cond_true];exact sB d
def mY{ops:Array Oper}{j:Nat}:∀{H:HT} {p},p∈fZ ops j H->p∈H/\h' ops p.1 j=false
 |(i,f,h)::H,p,d=>by
  unfold fZ at d;cases e:h' ops i j with
  |true=>
   rw[e,cond_true]at d;exact⟨dS _ (mY d).1,(mY d).2⟩
  |false=>
   rw[e,cond_false]at d;rcases av.1 d with rfl|d
   .exact ⟨List.mem_cons_self,e⟩
   .exact ⟨dS _ (mY d).1,(mY d).2⟩
def Iw{ops:Array Oper}{j:Nat}{w:J}:∀{H:HT} {p},p∈H->h' ops p.1 j=false->p.2.1=none->p.2.2 w∈vm ops j w H
 |(i,f,k)::H,p,d,h,e=>by
  unfold vm;rcases av.1 d with rfl|d
  .simp only at h e;rw[h,e];exact List.mem_cons_self
  .have:=Iw (w:=w) d h e;cases(h' ops i j||f.isSome)
   .exact dS _ this
   .exact this
def Inv.put{s:TS}{w:J}(j:Inv s w)(d:Option Nat){v:ab}{y:Option (Nat×Nat)}(z:∀i h,y=some (i,h)->∃X,s.L[i]? =some X/\v=.pointer (some ((ae X.1).add h))):Inv ⟨s.E.put d v,s.S.put d y,s.L,s.w,s.d⟩ w:=by
 refine⟨j.lc,j.rel,λt i h e=>?_⟩;cases d with
 |none=>exact j.sl t i h e
 |some d=>
  simp only[Sv.put,Sv.get?]at e;simp only[Env.put,Env.get?];cases x:bQ d t with
  |true=>
   rw[x,cond_true]at e;obtain⟨X,k,q⟩:=z i h e;exact⟨X,k,by simp[q]⟩
  |false=>
   rw[x,cond_false]at e;obtain⟨X,k,q⟩:=j.sl t i h e;exact⟨X,k,by simpa using q⟩
def Yw{ops:Array Oper}{j:Nat}{s e:TS}{w Y:J}{m:Option Nat}{H:HT}{K:TS->Prop}(M:HI s H w)(z:Inv e Y)(N:∀i X,s.L[i]? =some X->m≠some i->e.L[i]? =some X)(D:(!((fZ ops j H).any λp=>m.isSome&&p.2.1==m))=true)(h:DN ops j e H K):
  ∃k,K k/\Inv k Y/\k.E=e.E/\k.S=e.S/\k.L=e.L/\HI k (fZ ops j H) Y:=by
 have C:∀p∈fZ ops j H,∀i,p.2.1=some i->∃X,e.L[i]? =some X/\∀Y:J,Y.heap[X.1]? =some (.cells X.2.1.toArray X.2.2 (0,0))->p.2.2 Y:=λp d i y=>by obtain⟨X,A,B⟩:=(M p (mY d).1).2 i y;refine⟨X,N i X A λG=>?_,B⟩;simp only[Bool.not_eq_true',List.any_eq_false]at D;exact D p d (by rw[G,y];simp)
 have own:∀p∈fZ ops j H,∀i,p.2.1=some i->p.2.2 Y:=λp d i y=>by obtain⟨X,A,B⟩:=C p d i y;exact B Y (z.lc.own i X A)
 unfold DN at h;cases x:H.any (λp=>!(h' ops p.1 j)&&p.2.1.isNone)with
 |true=>
  rw[x,cond_true]at h;obtain⟨F,I⟩:=z.fG h;obtain⟨O,P⟩:=rN I;refine⟨_,P,F,rfl,rfl,rfl,λp d=>⟨?_,C p d⟩⟩;cases q:p.2.1 with
  |none=>exact O _ (Iw (mY d).1 (mY d).2 q)
  |some i=>exact own p d i q
 |false=>
  rw[x,cond_false]at h;refine⟨e,h,z,rfl,rfl,rfl,λp d=>⟨?_,C p d⟩⟩;cases q:p.2.1 with
  |none=>
   exfalso;rw[List.any_eq_false]at x;exact x p (mY d).1 (by rw[(mY d).2,q];rfl)
  |some i=>exact own p d i q
section
variable {ops:Array Oper} {n:Cx} {lv:List Nat}
def Eu{o:Oper}{a:Act}{s:TS}{w:J}{H:HT}{K:TS->HT->Prop}{draw:Bool}{i:Nat}(A:(ab->J->Prop)->Prop)(G:∀K,iu P o a w K->A K)(I:∀K,(bif draw then gY else r9) P o s.E w K->A K)(k:∀K j,(∀v d,K v d->j v d)->A K->A j)(W:∀B b,o.op≠.select B b)(N:Ag n a s.E)(x:Inv s w)(L:HI s H w)(Q:calm P o=false)(h:stepT P lv ops draw i o s H K):
  A λv d=>∃e,K e (fZ ops i H)/\Inv e d/\HI e (fZ ops i H) d/\e.E=s.E.put o.dst v:=by unfold stepT at h;rw[Q,cond_false]at h;refine k _ _ (λv d S=>?_) (Ut A G I k W N x h);obtain⟨aa,m,s1,T,y,C,e2,M,U⟩:=S;obtain⟨O,V⟩:=dI T;obtain⟨s2,Z,z,D,f2,F,q⟩:=Yw L y M O V;refine⟨_,Z,z.put o.dst λi Y h=>?_,q,by rw[D,C]⟩;rw[F];exact U i Y h
def PC{o:Oper}{a:Act}{s:TS}{w:J}{H:HT}{K:TS->HT->Prop}{draw:Bool}{i:Nat}(U:∀F b,o.op≠.select F b)(M:Ag n a s.E)(C:Inv s w)(I:HI s H w)(N:calm P o=true)(h:stepT P lv ops draw i o s H K):
  ∃v k e q,K e q/\Inv e w/\HI e q w/\e.E=s.E.put o.dst v/\Calm P o a.eval w v k/\eX q=(bif draw then k.map (λj=>(i,j))++eX H else eX H):=by
 unfold stepT at h;rw[N,cond_true]at h;obtain⟨v,Z,k,e,Q,D,G,Y,x,z,S,T⟩:=TZ U M C h;refine⟨v,k.map (·.2),_,_,Q,D.put o.dst λi W h=>?_,λp d=>?_,by rw[G],z,?_⟩
 .rw [x];exact T i W h
 .have A:p∈H->p.2.2 w/\∀i,p.2.1=some i->∃X,e.L[i]? =some X/\∀B:J,B.heap[X.1]? =some (.cells X.2.1.toArray X.2.2 (0,0))->p.2.2 B:=λd=>by rw[x];exact I p d
  cases draw with
  |false=>exact A d
  |true=>
   rcases List.mem_append.1 d with d|d
   .obtain ⟨j,y,rfl⟩:=ch.1 d;refine⟨z.1 _ (ch.2 ⟨j,y,rfl⟩),λV O=>?_⟩;simp only;rw[x];exact S j y V O
   .exact A d
 .cases draw with
  |false=>rfl
  |true=>simp[eX]
def BY{i d:Nat}{o:Oper}{want t:Bool}{s:TS}{H:HT}{K:TS->HT->Prop}{draw:Bool}(h:bn t (mV P lv ops draw i o d want true s H K) (mV P lv ops draw i o d want false s H K)):mV P lv ops draw i o d want t s H K:=by
 cases t
 .exact h
 .exact h
def Inv.same{s:TS}{w:J}(e:Inv s w){d:Nat}{v:ab}(x:s.E.get? d=some v):Inv ⟨(d,v)::s.E,s.S,s.L,s.w,s.d⟩ w:=by
 refine⟨e.lc,e.rel,λt i z y=>?_⟩;obtain⟨X,k,h⟩:=e.sl t i z y;refine⟨X,k,?_⟩;simp only[Env.get?];by_cases j:d=t
 .subst j;rw[x]at h;cases h;simp
 .have q:bQ d t=false:=by rw[<-Bool.not_eq_true,ep];exact j
  rw[q,cond_false];exact h
def Inv.skip{s:TS}{w:J}(e:Inv s w)(d:Option Nat):Inv ⟨s.E.put d undef,s.S.put d none,s.L,s.w,s.d⟩ w:=e.put d λi j h=>by cases h
def HI.skip{s s':TS}{w:J}{H:HT}(h:HI s H w)(e:s'.L=s.L):HI s' H w:=λp d=>by rw[e];exact h p d
def HI.drop{s:TS}{w:J}{H:HT}{j:Nat}(h:HI s H w):HI s (fZ ops j H) w:=λp d=>h p (mY d).1
def HI.held{s:TS}{w:J}{H:HT}(h:HI s H w):∀p∈eX H,p.2 w:=λp d=>by obtain⟨j,e,rfl⟩:=ch.1 d;exact(h j e).1
def y4{K:TS->Prop}{Q:Exit->Act->J->Prop}(k:dR n ops=true):∀(l:List Nat) (s:TS) (w:J) (a:Act),Ag n a s.E->Inv s w->runT P lv ops false K l s []->(∀x y N,Ag n N x.E->Inv x y->K x->Q .normal N y)->wpOpsIn (FW n) 0 P ops Q l a w
 |[],s,w,a,h,q,e,D=>D s w a h q e
 |i::l,s,w,a,h,q,e,D=>by
  have V:=Region.noSelect_spec (ops:=ops) (by unfold dR at k;rw[bf]at k;exact k.1);unfold runT at e;cases j:ops[i]? with
  |none=>rw[j]at e;exact e.elim
  |some o=>
   rw[j]at e;simp only at e;have step:∀(s:TS),Ag n a s.E->Inv s w->da o (yielded ops a.tmps)=true->stepT P lv ops false i o s [] (λx F=>runT P lv ops false K l x F)->wpOpsIn (FW n) 0 P ops Q (i::l) a w:=λs h q I e=>by
    rw[wpOpsIn_cons];cases hc:calm P o with
    |true=>
     obtain⟨v,Ss,x,F,W,M,_,O,aa,ac⟩:=PC (λB b=>V i o B b j) h q (λp U=>by cases U) hc e;have:F=[]:=by cases F with |nil=>rfl|cons ag l=>cases ac
     subst this;refine zI (Kv:=λv' y=>v'=v/\y=w) j I ?_ ?_
     .refine iu.in (sQ k j) λY=>?_;unfold Oper.wp;rw[aa.2 w aa.1];exact⟨v,rfl,rfl,rfl⟩
     .rintro v' y ⟨rfl,rfl⟩;exact y4 k l x _ _ (by rw[O];exact h.put _ (gF k j)) M W D
    |false=>
     refine zI j I (Eu (draw:=false) (s:=s) (wL P n o a w) (λK T=>T.in (sQ k j)) (λK T=>He (λB b=>V i o B b j) (sQ k j) h T) (λK K' ad hA Y=>Oper.wpIn_mono (λN y ⟨v,ab,hv⟩=>⟨v,ab,ad v y hv⟩) (hA Y)) (λB b=>V i o B b j) h q (λp U=>by cases U) hc e) λv y ⟨x,W,M,_,O⟩=>?_;exact y4 k l x y _ (by rw[O];exact h.put v (gF k j)) M W D
   have skip:∀(s:TS),Ag n a s.E->Inv s w->da o (yielded ops a.tmps)=false->runT P lv ops false K l ⟨s.E.put o.dst undef,s.S.put o.dst none,s.L,s.w,s.d⟩ []->wpOpsIn (FW n) 0 P ops Q (i::l) a w:=λs h q I e=>by rw[wpOpsIn_cons];unfold wpOpIn;simp only[j,I];exact⟨λ_ _=>trivial,y4 k l _ w _ (h.put undef (gF k j)) (q.skip o.dst) e D⟩
   have Z:(bif calm P o then([]:HT)else fZ ops i [])=[]:=by cases calm P o<;>rfl
   cases A:o.guard with
   |none=>
    rw[A]at e;exact step s h q (by simp[da,A]) e
   |some jw=>
    obtain⟨ae,want⟩:=jw;rw[A]at e;simp only at e;cases H:jo ops ae with
    |none=>rw[H]at e;exact e.elim
    |some af=>
     rw[H]at e;simp only at e;split at e
     .rename_i t z;have hy:=q9 h H z;have C:=BY e;unfold mV at C;cases G:(t==want)with
      |true=>
       rw[G,cond_true]at C;exact step _ (h.same z) (q.same z) (by simp[da,A,hy];simpa using G) C
      |false=>
       rw[G,cond_false,Z]at C;exact skip _ (h.same z) (q.same z) (by simp[da,A,hy];simpa using G) C
     .rename_i vs z;rw[Z]at e;exact skip s h q (by simp[da,A,q' h H z]) e
     .exact e.elim
def g8(n:Cx)(K:TS->Prop):Exit->Act->J->Prop
 |.normal,a,d=>∃s,Ag n a s.E/\Inv s d/\K s
 |_,_,_=>False
def VC{o:Oper}{i:Nat}{H:HT}:(bif calm P o then eX H else c' ops i (eX H))=eX (bif calm P o then H else fZ ops i H):=by
 cases calm P o
 .exact sB H
 .rfl
def HI.za{o:Oper}{i:Nat}{s s':TS}{w:J}{H:HT}(h:HI s H w)(e:s'.L=s.L):HI s' (bif calm P o then H else fZ ops i H) w:=by
 cases calm P o
 .exact h.drop.skip e
 .exact h.skip e
def Vx(A:dR n ops=true){K:TS->Prop}{i:Nat}{o:Oper}{s:TS}{w:J}{H:HT}{a:Act}{N:TS->HT->Prop}{x:Array Bool}{fuel:Nat}(k:ops[i]? =some o)(D:(bif calm P o then Region.free .any ops x i&&(eG .any ops x).contains i else eG .any ops x==[i])=true)(e:Ag n a s.E)(q:Inv s w)(j:HI s H w)(h:vk P lv ops i s H N)(next:∀Y z y F,Ag n Y z.E->Inv z y->HI z F y->N z F->eo P ops (g8 n K) fuel (eX F) (x.setIfInBounds i true) Y y):eo P ops (g8 n K) (fuel+1) (eX H) x a w:=by
 have U:=Region.noSelect_spec (ops:=ops) (by unfold dR at A;rw[bf]at A;exact A.1);have hQ:∀c a w,g8 n K (.panic c) a w=False:=λ_ _ _=>rfl;have step:∀(s:TS),Ag n a s.E->Inv s w->HI s H w->da o (yielded ops a.tmps)=true->stepT P lv ops true i o s H N->eo P ops (g8 n K) (fuel+1) (eX H) x a w:=λs e q j ac h=>by
  cases Q:calm P o with
  |true=>
   rw[Q,cond_true,bf]at D;obtain⟨v,ad,z,F,k1,W,M,Z,ab,aa⟩:=PC (λG b=>U i o G b k) e q j Q h;refine E3 (v:=v) (Ss:=ad) k U (by simp[hQ]) fuel (eX H) x a w (Region.free_spec k D.1) (by simpa using D.2) (.inl ⟨ac,λy ag=>ab.2 y ag⟩) ab.1 j.held ?_;rw[cond_true]at aa;rw[<-aa];exact next _ z w F (by rw[Z];exact e.put v (gF A k)) W M k1
  |false=>
   rw[Q,cond_false]at D;have hr:eG .any ops x=[i]:=by simpa using D
   refine λ_=>⟨λh0=>(by rw[hr]at h0;cases h0),λV hj=>?_⟩;rw[hr]at hj;obtain rfl:=List.mem_singleton.1 hj;refine wI k ac (Eu (draw:=true) (s:=s) (iu P o a w) (λK hK=>hK) (λK hK=>mM (λG b=>U V o G b k) e hK) (λK K' af hA Q'=>Oper.wp_mono (λY y ⟨v,ae,hv⟩=>⟨v,ae,af v y hv⟩) (hA Q')) (λG b=>U V o G b k) e q j Q h) λv y ⟨z,k1,W,M,Z⟩=>?_;rw[sB];exact⟨M.held,next _ z y _ (by rw[Z];exact e.put v (gF A k)) W M k1⟩
 have skip:∀(s:TS),Ag n a s.E->Inv s w->HI s H w->da o (yielded ops a.tmps)=false->N ⟨s.E.put o.dst undef,s.S.put o.dst none,s.L,s.w,s.d⟩ (bif calm P o then H else fZ ops i H)->eo P ops (g8 n K) (fuel+1) (eX H) x a w:=λs e q j hw h=>by refine wc A k D hQ j.held hw ?_;rw[VC];exact next _ _ w _ (e.put undef (gF A k)) (q.skip o.dst) (j.za rfl) h
 unfold vk at h;rw[k]at h;simp only at h;cases C:o.guard with
 |none=>
  rw[C]at h;exact step s e q j (by simp[da,C]) h
 |some jw=>
  obtain⟨V,want⟩:=jw;rw[C]at h;simp only at h;cases T:jo ops V with
  |none=>rw[T]at h;exact h.elim
  |some ah=>
   rw[T]at h;simp only at h;split at h
   .rename_i t B;have hy:=q9 e T B;have I:=BY h;unfold mV at I;cases O:(t==want)with
    |true=>
     rw[O,cond_true]at I;exact step _ (e.same B) (q.same B) (j.skip rfl) (by simp[da,C,hy];simpa using O) I
    |false=>
     rw[O,cond_false]at I;exact skip _ (e.same B) (q.same B) (j.skip rfl) (by simp[da,C,hy];simpa using O) I
   .rename_i vs B;exact skip s e q j (by simp[da,C,q' e T B]) h
   .exact h.elim
def Vy(D:dR n ops=true){K:TS->Prop}{i:Nat}{o:Oper}{s:TS}{w:J}{H:HT}{a:Act}{F:TS->HT->Prop}{M:Array Bool}{fuel:Nat}(y:ops[i]? =some o)(U:calm P o=false)(j:Ag n a s.E)(x:Inv s w)(q:HI s H w)(h:vk P lv ops i s H F)(next:∀k B e N,Ag n k B.E->Inv B e->HI B N e->F B N->eo P ops (g8 n K) fuel (eX N) (M.setIfInBounds i true) k e):
  wpOp P ops (g8 n K) i (λk e=>(∀p∈c' ops i (eX H),p.2 e)/\eo P ops (g8 n K) fuel (c' ops i (eX H)) (M.setIfInBounds i true) k e) a w:=by
 have V:=Region.noSelect_spec (ops:=ops) (by unfold dR at D;rw[bf]at D;exact D.1);have step:∀(s:TS),Ag n a s.E->Inv s w->HI s H w->da o (yielded ops a.tmps)=true->stepT P lv ops true i o s H F->wpOp P ops (g8 n K) i (λk e=>(∀p∈c' ops i (eX H),p.2 e)/\eo P ops (g8 n K) fuel (c' ops i (eX H)) (M.setIfInBounds i true) k e) a w:=λs j x q ac h=>by refine wI y ac (Eu (draw:=true) (s:=s) (iu P o a w) (λK Q=>Q) (λK Q=>mM (λO b=>V i o O b y) j Q) (λK K' ab hA Z=>Oper.wp_mono (λk e ⟨v,aa,hv⟩=>⟨v,aa,ab v e hv⟩) (hA Z)) (λO b=>V i o O b y) j x q U h) λv e ⟨B,k1,Y,T,e1⟩=>?_;rw[sB];exact⟨T.held,next _ B e _ (by rw[e1];exact j.put v (gF D y)) Y T k1⟩
 have skip:∀(s:TS),Ag n a s.E->Inv s w->HI s H w->da o (yielded ops a.tmps)=false->F ⟨s.E.put o.dst undef,s.S.put o.dst none,s.L,s.w,s.d⟩ (bif calm P o then H else fZ ops i H)->wpOp P ops (g8 n K) i (λk e=>(∀p∈c' ops i (eX H),p.2 e)/\eo P ops (g8 n K) fuel (c' ops i (eX H)) (M.setIfInBounds i true) k e) a w:=λs j x q hw h=>by refine Ed y q.held hw ?_;rw[U,cond_false]at h;rw[sB];exact next _ _ w _ (j.put undef (gF D y)) (x.skip o.dst) (q.drop.skip rfl) h
 unfold vk at h;rw[y]at h;simp only at h;cases A:o.guard with
 |none=>
  rw[A]at h;exact step s j x q (by simp[da,A]) h
 |some jw=>
  obtain⟨ad,want⟩:=jw;rw[A]at h;simp only at h;cases I:jo ops ad with
  |none=>rw[I]at h;exact h.elim
  |some ae=>
   rw[I]at h;simp only at h;split at h
   .rename_i t z;have W:=q9 j I z;have C:=BY h;unfold mV at C;cases G:(t==want)with
    |true=>
     rw[G,cond_true]at C;exact step _ (j.same z) (x.same z) (q.skip rfl) (by simp[da,A,W];simpa using G) C
    |false=>
     rw[G,cond_false]at C;exact skip _ (j.same z) (x.same z) (q.skip rfl) (by simp[da,A,W];simpa using G) C
   .rename_i vs z;exact skip s j x q (by simp[da,A,q' j I z]) h
   .exact h.elim
def wC(F:dR n ops=true){K:TS->Prop}:∀(t:Tr) (alt:Bool) (e:Array Bool) (s:TS) (w:J) (H:HT) (a:Act) (m:Nat),hN P ops t alt e=true->Ag n a s.E->Inv s w->HI s H w->py P lv ops K t s H->
  (alt=false->t.len=m->eo P ops (g8 n K) m (eX H) e a w)/\
  (alt=true->t.len=m+1->∀i∈t.iV,wpOp P ops (g8 n K) i (λy k=>(∀p∈c' ops i (eX H),p.2 k)/\eo P ops (g8 n K) m (c' ops i (eX H)) (e.setIfInBounds i true) y k) a w)
 |.nil,alt,e,s,w,H,a,m,d,A,x,D,h=>by
  unfold hN at d;rw[bf]at d;refine⟨λ_ j=>?_,λz=>?_⟩
  .subst j;exact λ_=>⟨by simpa using d.2,s,A,x,h⟩
  .subst z;simp at d
 |.one i t,alt,e,s,w,H,a,m,d,A,x,D,h=>by
  unfold hN at d;rw[bf]at d;obtain⟨d,Z⟩:=d;cases I:ops[i]? with
  |none=>rw[I]at d;cases d
  |some o=>
   rw[I]at d;simp only at d;unfold py at h;refine⟨λz j=>?_,λz j ab hj=>?_⟩
   .subst z j;exact Vx F I d A x D h λy V k M N Q O S=>(wC F t false _ V k M y _ Z N Q O S).1 rfl rfl
   .subst z;rw[cond_true]at d;obtain rfl:=List.mem_singleton.1 hj;have T:t.len=m:=by simpa[Tr.len]using j
    exact Vy F I (by simpa using d) A x D h λy V k M N Q O S=>(wC F t false _ V k M y _ Z N Q O S).1 rfl T
 |.fork C L,alt,e,s,w,H,a,m,d,A,x,D,h=>by
  unfold hN at d;simp only[bf]at d;obtain⟨hr,W,U,hy⟩:=d;rw[ep]at W;unfold py at h;have both:∀q,C.len=q+1->∀i∈(Tr.fork C L).iV,wpOp P ops (g8 n K) i (λy k=>(∀p∈c' ops i (eX H),p.2 k)/\eo P ops (g8 n K) q (c' ops i (eX H)) (e.setIfInBounds i true) y k) a w:=λq G i B=>by
   rcases List.mem_append.1 B with B|B
   .exact (wC F C true e s w H a q U A x D h.1).2 rfl G i B
   .exact (wC F L true e s w H a q hy A x D h.2).2 rfl (W▸G) i B
  refine⟨λz j=>?_,λ_ j=>both m j⟩;subst z;obtain⟨q,G⟩:=EK C e U;have T:m=q+1:=by rw[<-j,<-G];rfl
  subst T;have Y:eG .any ops e=(Tr.fork C L).iV:=by simpa using hr
  have aa:(Tr.fork C L).iV≠[]:=by have:=EJ C e U;simp[Tr.iV,this]
  exact λ_=>⟨λh0=>absurd (Y▸h0) aa,λi B=>both q G i (Y▸B)⟩
def Yy{c:Code}{a:Act}{s:TS}{w:J}{K:TS->Prop}(d:qP n c=true)(y:Ag n a s.E)(q:Inv s w)(h:runT P lv (Code.ops c) false K (List.range (Code.ops c).size) s []):fu P n c (g8 n K) a w:=by
 unfold qP at d;split at d
 .rename_i id ops x;rw[bf]at d;obtain⟨e,j⟩:=d;have k:x=false:=by simpa using e
  subst k;exact wpIn_region (y4 j _ s w a y q h λz B A e j k=>⟨z,e,j,k⟩)
 .cases d
def Inv.dr{s:TS}{w:J}{K:TS->Prop}(d:Inv s w)(h:xy s K):∃e,K e/\Inv e w.drew/\e.E=s.E:=by
 have lc:LC w.drew s.L:=d.lc.fr (M:=λ_=>False) (Fr.drew _ _) (λ_ _ h=>h);unfold xy at h;split at h
 .rename_i q k;have j:=d.rel;rw[k]at j;have:w=s.w:=by simpa using j
  exact⟨_,h,⟨lc,by simp[this],d.sl⟩,rfl⟩
 .exact ⟨_,h,⟨lc,by simpa using d.fr.dD (Fr.drew _ _),d.sl⟩,rfl⟩
def Yx{c:Code}{a:Act}{s:TS}{w:J}{K:TS->Prop}{t:Tr}(d:tc P n c t=true)(A:Ag n a s.E)(k:Inv s w)(h:xy s λs=>py P lv (Code.ops c) K t s []):fu P n c (g8 n K) a w:=by
 unfold tc at d;split at d
 .rename_i id ops H;simp only[bf]at d;obtain⟨rfl,D,j,C,e⟩:=d;rw[ep]at e;obtain⟨G,B,q,x⟩:=k.dr h;have y:=(wC j t false _ G w.drew [] a _ C (by rw[x];exact A) q (λp F=>(by cases F)) B).1 rfl e;have z:=zH _ [] _ _ _ (Down.zero _ _) y;refine wpIn_region_draw λt=>?_;refine q7 j (λ⟨_,_,h⟩=>h) _ _ _ ?_;simp only[Region.schedule,D,Bool.true_or,if_true];exact wpAny_sound ops.size t _ a _ z
 .cases d
end
end
abbrev KT:=Exit->TS->Prop
structure mE where
 ord:Nat->Option Tr
 pt:List Bool->Option (TS->Prop)
 lv:List Nat
def o4(h:mE)(e:List Bool)(f:TS->Prop)(s:TS):Prop:=match h.pt e with
 |some d=>fG s d
 |none=>f s
def OZ(h:mE)(e:List Bool)(f:TS->Prop)(K:KT):KT:=λd s=>match d with
 |.normal=>o4 h e f s
 |d=>K d s
def xh(id:Nat)(K:KT):KT:=λd s=>match d with
 |.exit e=>if e=id then K .normal s else K (.exit e) s
 |d=>K d s
def hZ(P:aF)(n:Cx)(h:mE):Code->List Bool->KT->TS->Prop
 |.skip,_,d,s=>d .normal s
 |.region id ops true,_,d,s=>match h.ord id with
  |some t=>cE (tc P n (.region id ops true) t) (xy s λs=>py P h.lv ops (d .normal) t s [])
  |none=>False
 |.region id ops false,_,d,s=>cE (qP n (.region id ops false)) (runT P h.lv ops false (d .normal) (List.range ops.size) s [])
 |.seq a b,e,d,s=>hZ P n h a (false::e) (OZ h (true::e) (hZ P n h b (true::e) d) d) s
 |.cond o a b,e,d,s=>gA (s.E.val o) (o4 h (false::e) (hZ P n h a (false::e) d) s) (o4 h (true::e) (hZ P n h b (true::e) d) s)
 |.block id a,e,d,s=>hZ P n h a (false::e) (xh id d) s
 |.loop _,e,_,s=>o4 h e (λ_=>False) s
 |.exit id,_,d,s=>d (.exit id) s
 |.ret,_,d,s=>d .ret s
 |_,_,_,_=>False
section
variable {P:aF} {n:Cx} {tb:mE}
def fO(P:aF)(n:Cx)(k:Code)(j:Exit->Act->J->Prop):List Bool->Code×(Exit->Act->J->Prop)
 |[]=>(k,j)
 |b::q=>match fO P n k j q,b with
  |(.seq e h,d),false=>(e,Exit.then (fu P n h d) d)
  |(.seq _ h,d),true=>(h,d)
  |(.cond _ e _,d),false=>(e,d)
  |(.cond _ _ h,d),true=>(h,d)
  |(.block id e,d),_=>(e,Exit.inBlock id d)
  |(.loop e,d),_=>(e,Exit.then (lS P n e d) d)
  |(_,d),_=>(.skip,d)
def rf(P:aF)(n:Cx)(p:Code×(Exit->Act->J->Prop))(a:Act)(w:J):Prop:=match p with
 |(.loop e,d)=>lS P n e d a w
 |(c,d)=>fu P n c d a w
def rf.wp{c:Code}{Q:Exit->Act->J->Prop}{a:Act}{w:J}(h:rf P n (c,Q) a w):fu P n c Q a w:=by
 unfold rf at h;split at h
 .rename_i k e d;cases d;exact Q' h
 .rename_i j e _ d;cases d;exact h
def KQ(n:Cx)(K:KT)(Q:Exit->Act->J->Prop):Prop:=∀d s e a,Ag n a s.E->Inv s e->K d s->Q d a e
def rK(P:aF)(n:Cx)(tb:mE)(k:Code)(j:Exit->Act->J->Prop):Prop:=∀e d,tb.pt e=some d->∀s h a,Ag n a s.E->Inv s h->d s->rf P n (fO P n k j e) a h
variable {c0:Code} {Q0:Exit->Act->J->Prop}
def vO(y:rK P n tb c0 Q0){d:List Bool}{c:Code}{Q:Exit->Act->J->Prop}(B:fO P n c0 Q0 d=(c,Q)){f:TS->Prop}{s:TS}{w:J}{a:Act}(z:Ag n a s.E)(j:Inv s w)(A:f s->fu P n c Q a w)(h:o4 tb d f s):fu P n c Q a w:=by
 unfold o4 at h;split at h
 .rename_i e x;obtain⟨k,q⟩:=j.fG h;have:=y d e x ⟨s.E,s.S,s.L,w,false⟩ w a z k q;rw[B]at this;exact this.wp
 .exact A h
def OA{c:Code}{K:TS->Prop}{Q:Exit->Act->J->Prop}{a:Act}{w:J}(h:fu P n c (g8 n K) a w)(k:∀s w a,Ag n a s.E->Inv s w->K s->Q .normal a w):fu P n c Q a w:=
 wpIn_mono h λj e q d=>by
  cases j with
  |normal=>obtain⟨s',hA,hI,hK⟩:=d;exact k s' q e hA hI hK
  |_=>exact d.elim
def nH(y:rK P n tb c0 Q0):∀(c:Code) (h:List Bool) (K:KT) (Q:Exit->Act->J->Prop) (s:TS) (w:J) (a:Act),fO P n c0 Q0 h=(c,Q)->KQ n K Q->Ag n a s.E->Inv s w->hZ P n tb c h K s->fu P n c Q a w
 |.skip,h,K,Q,s,w,a,q,k,e,j,d=>wpIn_skip (k _ _ _ _ e j d)
 |.region id ops true,h,K,Q,s,w,a,q,k,e,j,d=>by
  unfold hZ at d;split at d
  .obtain ⟨D,F⟩:=dI d;exact OA (Yx (c:=.region id ops true) D e j F) λs w a D F M=>k _ _ _ _ D F M
  .exact d.elim
 |.region id ops false,h,K,Q,s,w,a,q,k,e,j,d=>by unfold hZ at d;obtain⟨D,F⟩:=dI d;exact OA (Yy (c:=.region id ops false) D e j F) λs w a D F M=>k _ _ _ _ D F M
 |.seq z I,h,K,Q,s,w,a,q,k,e,j,d=>by
  unfold hZ at d;have H:fO P n c0 Q0 (false::h)=(z,Exit.then (fu P n I Q) Q):=by unfold fO;rw[q]
  have L:fO P n c0 Q0 (true::h)=(I,Q):=by unfold fO;rw[q]
  refine wpIn_seq (nH y z (false::h) _ _ s w a H (λx O S N G B A=>?_) e j d);cases x with
  |normal=>exact vO y L G B (λC=>nH y I (true::h) K Q O S N L k G B C) A
  |_=>exact k _ _ _ _ G B A
 |.cond o z I,h,K,Q,s,w,a,q,k,e,j,d=>by
  unfold hZ at d;have H:fO P n c0 Q0 (false::h)=(z,Q):=by unfold fO;rw[q]
  have L:fO P n c0 Q0 (true::h)=(I,Q):=by unfold fO;rw[q]
  unfold gA at d;split at d
  .rename_i t T;refine wpIn_cond_split (e.val T) (λx=>?_) (λx=>?_)
   .subst x;exact vO y H e j (λC=>nH y z (false::h) K Q s w a H k e j C) d
   .subst x;exact vO y L e j (λC=>nH y I (true::h) K Q s w a L k e j C) d
  .exact d.elim
 |.block id z,h,K,Q,s,w,a,q,k,e,j,d=>by
  unfold hZ at d;have H:fO P n c0 Q0 (false::h)=(z,Exit.inBlock id Q):=by unfold fO;rw[q]
  refine wpIn_block (nH y z (false::h) _ _ s w a H (λx O S N G B A=>?_) e j d);cases x with
  |exit U=>
   simp only[xh]at A;simp only[Exit.inBlock];split at A
   .rename_i x;rw[aj x];exact k _ _ _ _ G B A
   .rename_i x;rw[af x];exact k _ _ _ _ G B A
  |_=>exact k _ _ _ _ G B A
 |.loop z,h,K,Q,s,w,a,q,k,e,j,d=>by unfold hZ at d;exact vO y q e j (λC=>C.elim) d
 |.exit id,h,K,Q,s,w,a,q,k,e,j,d=>wpIn_exit (k _ _ _ _ e j d)
 |.ret,h,K,Q,s,w,a,q,k,e,j,d=>wpIn_ret (k _ _ _ _ e j d)
 |.rangeFunc ..,_,_,_,_,_,_,_,_,_,_,d=>d.elim
 |.scope _,_,_,_,_,_,_,_,_,_,_,d=>d.elim
 |.label _,_,_,_,_,_,_,_,_,_,_,d=>d.elim
 |.goto _,_,_,_,_,_,_,_,_,_,_,d=>d.elim
 |.refuse _,_,_,_,_,_,_,_,_,_,_,d=>d.elim
def x8(tb:mE)(e:List Bool)(K:KT):KT:=λd s=>match d with
 |.normal=>o4 tb e (λ_=>False) s
 |d=>K d s
def nQ(P:aF)(n:Cx)(tb:mE)(c0:Code)(k:KT):List Bool->Code×KT
 |[]=>(c0,k)
 |b::j=>match nQ P n tb c0 k j,b with
  |(.seq e h,d),false=>(e,OZ tb (true::j) (hZ P n tb h (true::j) d) d)
  |(.seq _ h,d),true=>(h,d)
  |(.cond _ e _,d),false=>(e,d)
  |(.cond _ _ h,d),true=>(h,d)
  |(.block id e,d),_=>(e,xh id d)
  |(.loop e,d),_=>(e,x8 tb j d)
  |(_,d),_=>(.skip,d)
def Cb(A:rK P n tb c0 Q0){y:KT}(G:KQ n y Q0):∀h:List Bool,(nQ P n tb c0 y h).1=(fO P n c0 Q0 h).1/\KQ n (nQ P n tb c0 y h).2 (fO P n c0 Q0 h).2
 |[]=>⟨rfl,G⟩
 |b::h=>by
  obtain⟨z,e⟩:=Cb A G h;unfold nQ fO;generalize H:fO P n c0 Q0 h=p at z e;generalize nQ P n tb c0 y h=k at z e;obtain⟨c,F⟩:=p;obtain⟨O,N⟩:=k;simp only at z e;subst z;cases O with
  |seq C D=>
   cases b with
   |false=>
    refine⟨rfl,λw s x a q j d=>?_⟩;cases w with
    |normal=>
     have I:fO P n c0 Q0 (true::h)=(D,F):=by unfold fO;rw[H]
     exact vO A I q j (λB=>nH A D (true::h) N F s x a I e q j B) d
    |_=>exact e _ _ _ _ q j d
   |true=>exact⟨rfl,e⟩
  |cond o C D=>cases b<;>exact⟨rfl,e⟩
  |block id C=>
   cases b<;>(
    refine⟨rfl,λw s x a q j d=>?_⟩;cases w with
    |exit T=>
     simp only[xh]at d;simp only[Exit.inBlock];split at d
     .rename_i w;rw[aj w];exact e _ _ _ _ q j d
     .rename_i w;rw[af w];exact e _ _ _ _ q j d
    |_=>exact e _ _ _ _ q j d)
  |loop C=>
   cases b<;>(
    refine⟨rfl,λw s x a q j d=>?_⟩;cases w with
    |normal=>
     simp only[x8,o4]at d;split at d
     .rename_i K Q;obtain⟨M,B⟩:=j.fG d;have:=A h K Q ⟨s.E,s.S,s.L,x,false⟩ x a q M B;rw[H]at this;exact this
     .exact d.elim
    |_=>exact e _ _ _ _ q j d)
  |_=>cases b<;>exact⟨rfl,e⟩
def Be(P:aF)(n:Cx)(tb:mE)(c0:Code)(h:KT)(d:List Bool)(s:TS):Prop:=match nQ P n tb c0 h d with
 |(.loop j,e)=>hZ P n tb j (false::d) (x8 tb d e) s
 |(c,e)=>hZ P n tb c d e s
def Ub(x:rK P n tb c0 Q0){e:KT}(C:KQ n e Q0){d:List Bool}{s:TS}{w:J}{a:Act}(F:Ag n a s.E)(A:Inv s w)(h:Be P n tb c0 e d s):rf P n (fO P n c0 Q0 d) a w:=by
 obtain⟨j,q⟩:=Cb x C d;have D:=Cb x C (false::d);unfold Be at h;generalize G:fO P n c0 Q0 d=p at j q;generalize K:nQ P n tb c0 e d=k at h j q;obtain⟨c,z⟩:=p;obtain⟨I,B⟩:=k;simp only at j q;subst j;cases I with
 |loop y=>
  have H:fO P n c0 Q0 (false::d)=(y,Exit.then (lS P n y z) z):=by unfold fO;rw[G]
  have L:nQ P n tb c0 e (false::d)=(y,x8 tb d B):=by unfold nQ;rw[K]
  rw[H,L]at D;exact Jt (nH x y (false::d) _ _ s w a H D.2 F A h)
 |_=>exact nH x _ d B z s w a G q F A h
end
section
variable {P:aF}
def n5(P:aF)(s:TS):List ResultVar->(List ab->Prop)->Prop
 |[],d=>d []
 |.tmp t::l,d=>match s.E.get? t with
  |some v=>n5 P s l λe=>d (v::e)
  |none=>False
 |.cell j h::l,d=>match s.S.get? j with
  |some (i,k)=>match s.L[i]? with
   |some X=>Cd P h X.2.1 k λv=>n5 P s l λe=>d (v::e)
   |none=>False
  |none=>match s.E.get? j with
   |some (.pointer (some p))=>l6 P h p s.w λv _=>n5 P s l λe=>d (v::e)
   |_=>False
def te(P:aF)(fn:Func)(R:aH):KT:=λd s=>match d with
 |.normal|.ret=>fG s λs=>n5 P s fn.results.toList λe=>R (ag (Dn e)) s.w
 |_=>False
def DW{n:Cx}{a:Act}{s:TS}{w:J}(q:Ag n a s.E)(k:Inv s w)(B:s.w=w):∀{l:List ResultVar} {K:List ab->Prop},n5 P s l K->
  ∃e,(l.mapM (pd a.tmps)).run P w=.ok e w/\K e
 |[],K,d=>⟨[],by simp,d⟩
 |.tmp t::l,K,d=>by
  unfold n5 at d;split at d
  .rename_i v j;obtain⟨e,A,h⟩:=DW q k B d;refine⟨v::e,?_,h⟩;have y:=q.get t v j;simp[List.mapM_cons,pd,A,y]
  .exact d.elim
 |.cell x C::l,K,d=>by
  have fin:∀(p:Addr) (v:ab),s.E.get? x=some (.pointer (some p))->(loadVar C p).run P w=.ok v w->(n5 P s l λe=>K (v::e))->∃e,((ResultVar.cell x C::l).mapM (pd a.tmps)).run P w=.ok e w/\K e:=λp v z j d=>by obtain⟨e,A,h⟩:=DW q k B d;refine⟨v::e,?_,h⟩;have y:=q.get x _ z;simp[List.mapM_cons,pd,A,y,asAddr,j]
  unfold n5 at d;split at d
  .rename_i i L I;obtain⟨X,D,F⟩:=k.sl x i L I;rw[D]at d;obtain⟨v,h,j⟩:=Jb (b:=X.1) (ty:=X.2.2) d;exact fin _ v F (j w (k.lc.own i X D)) h
  .split at d
   .rename_i p z;rw[B]at d;obtain⟨v,M,d,G,H⟩:=Ce d;exact fin p v z (H w G) d
   .exact d.elim
def OE{m:Nat}{fn:Func}{R:aH}:KQ (cx m) (te P fn R) (bodyPost P fn R):=by
 intro x s h a j k d;have go:(fG s λs=>n5 P s fn.results.toList λe=>R (ag (Dn e)) s.w)->a.defers=[]/\∃v,(results fn a.tmps).run P h=.ok v h/\R (ag v) h:=λd=>by
  obtain⟨q,y⟩:=k.fG d;obtain⟨e,A,z⟩:=DW (s:=⟨s.E,s.S,s.L,h,false⟩) j q rfl y;refine⟨j.defers,_,?_,z⟩;rw[OD,<-Array.toArray_toList (xs:=fn.results),List.mapM_toArray];simp only[Sem.run_bind,Sem.run_map,A,Result.andThen_ok,Sem.run_pure];congr 1;cases e with
  |nil=>rfl
  |cons v e=>cases e<;>rfl
 unfold te at d;cases x with
 |normal=>exact go d
 |ret=>exact go d
 |_=>exact d.elim
def TX{f:cD}{fn:Func}{c:Code}{args:List ab}{w:J}{R:aH}{d:mE}(q:P.funcs[f]? =some fn)(k:fn.body=some c)(x:Nat.ble args.length fn.ntmps=true)(e:rK P (cx fn.ntmps) d c (bodyPost P fn R))(h:hZ P (cx fn.ntmps) d c [] (te P fn R) ⟨jT 0 args,[],[],w,false⟩):ak P f args.toArray w R:=
 uF q k x λa j=>nH e c [] _ _ _ w a rfl OE j ⟨LC.nil _,by simp,λt i y h=>by cases h⟩ h
end
inductive Sh
 |i (k:hr)|b|st|s|p|r|m|v|f
abbrev Sh.T:Sh->Type
 |.i _=>Int
 |.b=>Bool
 |.st=>ByteArray
 |.s=>Sl
 |.p=>Option Addr
 |.r=>Addr
 |.m=>Option Nat
 |.v=>ab
 |.f=>Fv
def Sh.val:(h:Sh)->h.T->ab
 |.i e,d=>.int e d
 |.b,d=>.bool d
 |.st,d=>.string d
 |.s,d=>Sl.v d
 |.p,d=>.pointer d
 |.r,d=>.pointer (some d)
 |.m,d=>.map d
 |.v,d=>d
 |.f,d=>Fv.v d
def Sh.rd(h:Sh)(v:ab)(K:h.T->Prop):Prop:=match h,v,K with
 |.i k,.int q d,K=>cE (q==k) (K d)
 |.b,.bool d,K=>K d
 |.st,.string d,K=>K d
 |.s,.slice a n c,K=>K ⟨a,n,c⟩
 |.p,.pointer d,K=>K d
 |.r,.pointer (some d),K=>K d
 |.m,.map d,K=>K d
 |.v,d,K=>K d
 |.f,.func (.func n) e j,K=>K ⟨n,e,j⟩
 |_,_,_=>False
def Sh.Yu{h:Sh}{v:ab}{K:h.T->Prop}(d:h.rd v K):∃e,v=h.val e/\K e:=by
 unfold Sh.rd at d;split at d<;>first |exact d.elim|skip
 .obtain ⟨j,k⟩:=dI d;have:=eq_of_beq j;subst this;exact⟨_,rfl,k⟩
 all_goals exact⟨_,rfl,d⟩
inductive Tk
 |o (h:Sh)|a (k:Nat)|t (k:Nat)|g (n j k:Nat)
abbrev Tk.I:Tk:=.o (.i .i64)
abbrev Tk.U:Tk:=.o (.i .u64)
abbrev Tk.Y:Tk:=.o (.i .u8)
abbrev Tk.i(k:hr):Tk:=.o (.i k)
abbrev Tk.b:Tk:=.o .b
abbrev Tk.st:Tk:=.o .st
abbrev Tk.s:Tk:=.o .s
abbrev Tk.p:Tk:=.o .p
abbrev Tk.r:Tk:=.o .r
abbrev Tk.m:Tk:=.o .m
abbrev Tk.v:Tk:=.o .v
abbrev Tk.f:Tk:=.o .f
abbrev kT:List Tk->Type->Type
 |[],X=>X
 |.o d::l,X=>d.T->kT l X
 |.a _::l,X=>kT l X
 |.t _::l,X=>kT l X
 |.g _ _ _::l,X=>kT l X
inductive Sp
 |v (l:List Tk)
 |l (l:List Tk) (T:aC)
abbrev gw:List (Nat×Sp)->Type
 |[]=>J->aH->Prop
 |(_,.v d)::l=>kT d (gw l)
 |(_,.l d _)::l=>Nat->kT d (gw l)
def m9:(O:List Tk)->(X:Type)->List ab->kT O X->(X->Prop)->Prop
 |[],_,[],d,e=>e d
 |.o w::O,X,v::h,d,e=>w.rd v λy=>m9 O X h (d y) e
 |.a j::O,X,.agg a::h,d,e=>cE (bQ a.toList.length j) (m9 O X (a.toList++h) d e)
 |.t j::O,X,.tuple a::h,d,e=>cE (bQ a.toList.length j) (m9 O X (a.toList++h) d e)
 |.g n x j::O,X,.func (.func m) k q::h,d,e=>cE (bQ n m&&bQ k.toList.length x&&bQ q.toList.length j) (m9 O X (k.toList++(q.toList++h)) d e)
 |_,_,_,_,_=>False
def nS:(O:List Tk)->(X:Type)->(List ab->X)->kT O X
 |[],_,e=>e []
 |.o k::O,X,e=>λq=>nS O X λd=>e (k.val q::d)
 |.a h::O,X,e=>nS O X λd=>e (.agg (d.take h).toArray::d.drop h)
 |.t h::O,X,e=>nS O X λd=>e (.tuple (d.take h).toArray::d.drop h)
 |.g n j h::O,X,e=>nS O X λd=>e (.func (.func n) (d.take j).toArray ((d.drop j).take h).toArray::(d.drop j).drop h)
def N5:∀{O:List Tk} {X:Type} {vs:List ab} {K:List ab->X} {j:X->Prop},m9 O X vs (nS O X K) j->j (K vs):=by
 intro O;induction O with
 |nil=>
  intro X vs K j d;cases vs with
  |nil=>exact d
  |cons _ _=>exact d.elim
 |cons t O q=>
  intro X vs K j d;cases t with
  |o C=>
   cases vs with
   |nil=>exact d.elim
   |cons v vs=>
    obtain⟨F,rfl,D⟩:=Sh.Yu d;exact q (K:=λvs=>K (C.val F::vs)) D
  |a e=>
   cases vs with
   |nil=>exact d.elim
   |cons v vs=>
    cases v with
    |agg a=>
     obtain⟨h,k⟩:=dI (show cE (bQ a.toList.length e) (m9 O X (a.toList++vs) _ j)from d);rw[ep]at h;have:=q (K:=λvs=>K (.agg (vs.take e).toArray::vs.drop e)) k;rw[List.take_left' h,List.drop_left' h]at this;exact this
    |_=>exact d.elim
  |t e=>
   cases vs with
   |nil=>exact d.elim
   |cons v vs=>
    cases v with
    |tuple a=>
     obtain⟨h,k⟩:=dI (show cE (bQ a.toList.length e) (m9 O X (a.toList++vs) _ j)from d);rw[ep]at h;have:=q (K:=λvs=>K (.tuple (vs.take e).toArray::vs.drop e)) k;rw[List.take_left' h,List.drop_left' h]at this;exact this
    |_=>exact d.elim
  |g n w e=>
   cases vs with
   |nil=>exact d.elim
   |cons v vs=>
    cases v with
    |func B x y=>
     cases B with
     |func m=>
      obtain⟨h,k⟩:=dI (show cE (bQ n m&&bQ x.toList.length w&&bQ y.toList.length e) (m9 O X (x.toList++(y.toList++vs)) _ j)from d);rw[bf,bf,ep,ep,ep]at h;obtain⟨⟨E,z⟩,A⟩:=h;have:=q (K:=λvs=>K (.func (.func n) (vs.take w).toArray ((vs.drop w).take e).toArray::(vs.drop w).drop e)) k;rw[List.take_left' z,List.drop_left' z,List.take_left' A,List.drop_left' A,E]at this;exact this
     |_=>exact d.elim
    |_=>exact d.elim
def iI:(l:List (Nat×Sp))->Nat->(Env->Sv->Lv->J->aH->Prop)->gw l
 |[],_,d=>d [] [] []
 |(t,.v k)::l,n,d=>nS k (gw l) λq=>iI l n λe j h=>d ((t,q.headD undef)::e) j h
 |(t,.l k w)::l,n,d=>λb=>nS k (gw l) λq=>iI l (n+1) λe j h=>d ((t,.pointer (some (ae b)))::e) ((t,some (n,0))::j) ((b,q,w)::h)
def o8:(l:List (Nat×Sp))->gw l->TS->List Nat->J->aH->Prop
 |[],d,_,_,h,e=>d h e
 |(t,.v k)::l,d,s,is,h,e=>match s.E.get? t with
  |some v=>m9 k (gw l) [v] d λj=>o8 l j s is h e
  |none=>False
 |(t,.l k q)::l,d,s,is,h,e=>match s.S.get? t with
  |some (i,0)=>match s.L[i]? with
   |some X=>cE (bQ X.2.2 q&&!is.any (bQ i)) (m9 k (gw l) X.2.1 (d X.1) λj=>o8 l j s (i::is) h e)
   |none=>False
  |_=>False
def Ip{E E':Env}{t:Nat}{v:ab}(q:E'.get? t=some v)(h:∀t v,E.get? t=some v->E'.get? t=some v):∀e k,Env.get? ((t,v)::E) e=some k->E'.get? e=some k:=λe k d=>by
 simp only[Env.get?]at d;cases j:bQ t e with
 |true=>
  rw[j,cond_true]at d;rw[ep]at j;subst j;cases d;exact q
 |false=>
  rw[j,cond_false]at d;exact h e k d
structure Ak(s:TS)(n:Nat)(is js:List Nat)(E:Env)(S:Sv):Prop where
 sub:∀t v,E.get? t=some v->s.E.get? t=some v
 nd:js.Nodup
 dj:∀j∈js,j∉is
 lt:∀j∈js,∃X,s.L[j]? =some X
 sl:∀t i k,S.get? t=some (i,k)->n<=i/\∃j,js[i - n]? =some j/\s.S.get? t=some (j,k)/\∃v,E.get? t=some v
def Yk{s:TS}{w:J}(U:Inv s w){R:aH}:∀{l:List (Nat×Sp)} {n:Nat} {K:Env->Sv->Lv->J->aH->Prop} {is:List Nat},o8 l (iI l n K) s is w R->
  ∃h j y,Ak s n is y h j/\K h j (y.filterMap λk=>(s.L[k]? :Option (Nat×List ab×aC))) w R:=by
 intro l;induction l with
 |nil=>
  intro n K is d;exact⟨[],[],[],⟨λt v d=>by(simp[Env.get?]at d),.nil,λ_ d=>by(cases d),λ_ d=>by(cases d),λt i E d=>by(cases d)⟩,d⟩
 |cons p l S=>
  intro n K is d;obtain⟨t,sp⟩:=p;cases sp with
  |v ts=>
   unfold o8 at d;split at d
   .rename_i v hv;have G:=N5 (K:=λN=>iI l n λh j F=>K ((t,N.headD undef)::h) j F) d;obtain⟨h,j,y,e,D⟩:=S G;refine⟨(t,v)::h,j,y,⟨Ip hv e.sub,e.nd,e.dj,e.lt,λC i E x=>?_⟩,D⟩;obtain⟨z,k,H,h3,T,h4⟩:=e.sl C i E x;refine⟨z,k,H,h3,?_⟩;simp only[Env.get?];cases bQ t C with
    |true=>exact⟨_,rfl⟩
    |false=>exact⟨_,h4⟩
   .exact d.elim
  |l ts O=>
   unfold o8 at d;split at d
   .rename_i i Q;split at d
    .rename_i X I;obtain⟨z,H⟩:=dI d;rw[bf,ep,Bool.not_eq_true',List.any_eq_false]at z;have G:=N5 (K:=λN=>iI l (n+1) λh j F=>K ((t,.pointer (some (ae X.1)))::h) ((t,some (n,0))::j) ((X.1,N,O)::F)) H;obtain⟨h,j,y,e,D⟩:=S G;obtain⟨X',P,hp⟩:=U.sl t i 0 Q;rw[I]at P;cases P;refine⟨(t,.pointer (some (ae X.1)))::h,(t,some (n,0))::j,i::y,⟨Ip ?_ e.sub,List.nodup_cons.2 ⟨λB=>e.dj i B (by simp),e.nd⟩,λk q=>?_,λk q=>?_,λC M E x=>?_⟩,?_⟩
     .rw [hp,iS]
     .rcases av.1 q with rfl|q
      .intro B;have:=z.2 k B;simp at this
      .exact λB=>e.dj k q (dS _ B)
     .rcases av.1 q with rfl|q
      .exact ⟨X,I⟩
      .exact e.lt k q
     .simp only[Sv.get?]at x;cases A:bQ t C with
      |true=>
       rw[A,cond_true]at x;rw[ep]at A;subst A;cases x;refine⟨Nat.le_refl _,i,by simp,Q,.pointer (some (ae X.1)),?_⟩;simp[Env.get?]
      |false=>
       rw[A,cond_false]at x;obtain⟨g1,k,W,Y,T,Z⟩:=e.sl C M E x;refine⟨by omega,k,?_,Y,T,?_⟩
       .have:M - n=(M - (n+1))+1:=by omega
        rw[this,List.getElem?_cons_succ];exact W
       .simp only[Env.get?,A,cond_false];exact Z
     .have V:(X.1,X.2.1,O)=X:=by rw[<-z.1]
      rw[List.filterMap_cons_some I];simp only[V]at D;exact D
    .exact d.elim
   .exact d.elim
def Ak.inv{s:TS}{w:J}(q:Inv s w){d:List Nat}{E:Env}{S:Sv}(h:Ak s 0 [] d E S):Inv ⟨E,S,d.filterMap λe=>(s.L[e]? :Option (Nat×List ab×aC)),w,false⟩ w:=by
 refine⟨q.lc.pick d h.nd,by simp,λt i z G=>?_⟩;obtain⟨-,e,A,B,v,x⟩:=h.sl t i z G;obtain⟨X,C,F⟩:=q.sl t e z B;have:=h.sub t v x;rw[F]at this;cases this;refine⟨X,?_,x⟩;have all:∀(d:List Nat) (i:Nat),(∀e∈d,∃X,s.L[e]? =some X)->d[i]? =some e->(d.filterMap λe=>(s.L[e]? :Option (Nat×List ab×aC)))[i]? =some X:=by
  intro d;induction d with
  |nil=>intro i _ j;simp at j
  |cons a d H=>
   intro i y j;obtain⟨I,k⟩:=y a (by simp);rw[List.filterMap_cons_some k];cases i with
   |zero=>simp at j;subst j;rw[C]at k;cases k;rfl
   |succ i=>simpa using H i (λe D=>y e (dS _ D)) (by simpa using j)
 exact all d i h.lt (by simpa using A)
def pJ:(O:List Tk)->(X:Type)->(X->X->Prop)->kT O X->kT O X->Prop
 |[],_,r,d,e=>r d e
 |.o j::O,X,r,d,e=>∀h:j.T,pJ O X r (d h) (e h)
 |.a _::O,X,r,d,e=>pJ O X r d e
 |.t _::O,X,r,d,e=>pJ O X r d e
 |.g _ _ _::O,X,r,d,e=>pJ O X r d e
def ua:(l:List (Nat×Sp))->gw l->gw l->Prop
 |[],d,e=>∀(w:J) (R:aH),d w R->e w R
 |(_,.v h)::l,d,e=>pJ h (gw l) (ua l) d e
 |(_,.l h _)::l,d,e=>∀b:Nat,pJ h (gw l) (ua l) (d b) (e b)
def IC:∀{O:List Tk} {X:Type} {r:X->X->Prop} {h j:List ab->X},(∀e,r (h e) (j e))->pJ O X r (nS O X h) (nS O X j):=by
 intro O;induction O with
 |nil=>intro X r h j d;exact d []
 |cons t O k=>
  intro X r h j d;cases t with
  |o w=>intro x;exact k λe=>d _
  |a q=>exact k λe=>d _
  |t q=>exact k λe=>d _
  |g n y q=>exact k λe=>d _
def VE:∀{l:List (Nat×Sp)} {n:Nat} {j k:Env->Sv->Lv->J->aH->Prop},(∀h w q e d,j h w q e d->k h w q e d)->ua l (iI l n j) (iI l n k):=by
 intro l;induction l with
 |nil=>intro n j k x e d;exact x _ _ _ e d
 |cons p l y=>
  intro n j k x;obtain⟨t,z⟩:=p;cases z with
  |v A=>exact IC λB=>y λh w q e d=>x _ _ _ e d
  |l A C=>intro b;exact IC λB=>y λh w q e d=>x _ _ _ e d
structure Fx where
 P:aF
 fn:Func
 ord:List (Nat×Tr)
 lv:List Nat
def Fx.c(X:Fx):Code:=X.fn.body.getD .skip
def Fx.n(X:Fx):Cx:=cx X.fn.ntmps
def Cg:List (Nat×Tr)->Nat->Option Tr
 |[],_=>none
 |(i,l)::o,d=>bif bQ i d then some l else Cg o d
def Fx.at(X:Fx)(d:List Bool)(R:aH)(a:Act)(w:J):Prop:=rf X.P X.n (fO X.P X.n X.c (bodyPost X.P X.fn R) d) a w
def Fx.Sem(X:Fx)(d:List Bool)(E:Env)(S:Sv)(L:Lv)(w:J)(R:aH):Prop:=∀a,Ag X.n a E->Inv ⟨E,S,L,w,false⟩ w->X.at d R a w
structure fX(X:Fx) where
 q:List Bool
 sp:List (Nat×Sp)
 F:gw sp
 ok:∀(R:aH) (s:TS) (w:J) (a:Act),Ag X.n a s.E->Inv s w->o8 sp F s [] w R->X.at q R a w
def rS:List Bool->List Bool->Bool
 |[],[]=>true
 |a::l,b::m=>(match a,b with |true,true=>true|false,false=>true|_,_=>false)&&rS l m
 |_,_=>false
def FR:∀{l m:List Bool},rS l m=true->l=m
 |[],[],_=>rfl
 |a::l,b::m,d=>by unfold rS at d;rw[bf]at d;rw[FR d.2];cases a<;>cases b<;>simp_all
 |[],_::_,d=>by cases d
 |_::_,[],d=>by cases d
def x6{X:Fx}(R:aH):List (fX X)->List Bool->Option (TS->Prop)
 |[],_=>none
 |e::j,h=>bif rS e.q h then some λs=>match s.d with
  |true=>False
  |false=>o8 e.sp e.F s [] s.w R else x6 R j h
def Fx.zk(X:Fx)(es:List (fX X))(R:aH):mE:=⟨Cg X.ord,x6 R es,X.lv⟩
def Fx.PY{X:Fx}{es:List (fX X)}{R:aH}:rK X.P X.n (X.zk es R) X.c (bodyPost X.P X.fn R):=by
 intro B D z s C a E x h;have e:x6 R es B=some D:=z;clear z;induction es with
 |nil=>cases e
 |cons y es G=>
  unfold x6 at e;cases j:rS y.q B with
  |true=>
   rw[j,cond_true]at e;cases e;have:=FR j;subst this;cases k:s.d with
   |true=>rw[k]at h;exact h.elim
   |false=>
    rw[k]at h;have A:=x.rel;rw[k]at A;have F:C=s.w:=by simpa using A
    rw[<-F]at h;exact y.ok R s C a E x h
  |false=>
   rw[j,cond_false]at e;exact G e
def Fx.tV(X:Fx)(es:List (fX X))(d:List Bool)(E:Env)(S:Sv)(L:Lv)(w:J)(R:aH):Prop:=Be X.P X.n (X.zk es R) X.c (te X.P X.fn R) d ⟨E,S,L,w,false⟩
def Fx.GZ{X:Fx}{es:List (fX X)}{d:List Bool}{E:Env}{S:Sv}{L:Lv}{w:J}{R:aH}(h:X.tV es d E S L w R):X.Sem d E S L w R:=λa j e=>Ub (s:=⟨E,S,L,w,false⟩) (Fx.PY (es:=es)) OE j e h
def Hj{X:Fx}{y:List Bool}{z:List (Nat×Sp)}{K:Env->Sv->Lv->J->aH->Prop}(B:∀d e q w R,K d e q w R->X.Sem y d e q w R)(R:aH)(s:TS)(w:J)(a:Act)(j:Ag X.n a s.E)(k:Inv s w)(h:o8 z (iI z 0 K) s [] w R):X.at y R a w:=by obtain⟨d,e,D,x,A⟩:=Yk k h;exact B _ _ _ _ _ A a ⟨j.defers,j.size,λt v C=>j.get t v (x.sub t v C)⟩ (x.inv k)
def UD(X:Fx)(j:List Bool)(h:List (Nat×Sp))(F:gw h)(e:F=iI h 0 (X.Sem j):=by kernel_rfl):fX X:=⟨j,h,F,λq s x a w k d=>by subst e;exact Hj (λ_ _ _ _ _ d=>d) q s x a w k d⟩
def UE(X:Fx)(es:List (fX X))(j:List Bool)(h:List (Nat×Sp))(F:gw h)(e:F=iI h 0 (X.tV es j):=by kernel_rfl):fX X:=⟨j,h,F,λq s x a w k d=>by subst e;exact Hj (λ_ _ _ _ _ d=>Fx.GZ d) q s x a w k d⟩
def ZH{X:Fx}(es:List (fX X))(e:List Bool)(d:List (Nat×Sp)):ua d (iI d 0 (X.tV es e)) (iI d 0 (X.Sem e)):=VE λ_ _ _ _ _ h=>Fx.GZ h
def TU(X:Fx)(es:List (fX X)){f:cD}{args:List ab}{w:J}{R:aH}{T:Prop}(h:T)(j:X.P.funcs[f]? =some X.fn:=by kernel_rfl)(d:X.fn.body=some X.c:=by kernel_rfl)(k:Nat.ble args.length X.fn.ntmps=true:=by kernel_rfl)(e:T=hZ X.P X.n (X.zk es R) X.c [] (te X.P X.fn R) ⟨jT 0 args,[],[],w,false⟩:=by kernel_rfl):ak X.P f args.toArray w R:=
 TX j d k Fx.PY (e▸h)
def Nw:Bool->List Nat->List Bool
 |_,[]=>[]
 |b,n::l=>List.replicate n b++Nw (!b) l
abbrev m7(l:List Nat):List Bool:=Nw true l
abbrev Ps:=List (Nat×Sp)
abbrev ls(l:List Nat):Tr:=Tr.sq l .nil
set_option maxRecDepth 100000
open Go
inductive Oc:Type 1
 |leaf (p:Prop)
 |ex (α:Type) (K:α->Oc)
 |and (p:Prop) (K:Oc)
 |at (b:Bool) (K:Oc)
 |bn (t:Bool) (a b:Oc)
 |nw (V:List Nat) (w:J) (K:Nat->J->Oc)
 |al (w:J) (o:Obj) (K:J->Oc)
 |st (w:J) (p:Addr) (v:ab) (K:J->Oc)
 |lc (V:List Nat) (w:J) (K:J->Oc)
 |dr (w:J) (K:J->Oc)
 |cf (V:List Nat) (P:aF) (f:cD) (xs:Array ab) (w:J) (K:cr->J->Oc)
 |ca (P:aF) (f:cD) (xs:Array ab) (w:J) (K:cr->J->Oc)
 |op (q:Option Addr) (K:Addr->Oc)
 |or (a b:Oc)
 |cj (a b:Oc)
 |all (α:Type) (K:α->Oc)
 |im (K:Oc) (p:Prop)
inductive Nf:Oc->Prop->Prop
 |leaf {p}:Nf (.leaf p) p
 |ex {α K} {Q:α->Prop} (h:∀x,Nf (K x) (Q x)):Nf (.ex α K) (∃x,Q x)
 |and {p K Q} (h:Nf K Q):Nf (.and p K) (p/\Q)
 |at {b K Q} (h:Nf K Q):Nf (.at b K) (cE b Q)
 |bn {t a b A B} (h1:Nf a A) (h2:Nf b B):Nf (.bn t a b) (bn t A B)
 |nw {V w K} {Q:Nat->J->Prop} (h:∀b w1,Nf (K b w1) (Q b w1)):Nf (.nw V w K) (vH V w λb w1=>Q b w1)
 |al {w o K} {Q:J->Prop} (h:∀w1,Nf (K w1) (Q w1)):Nf (.al w o K) (cZ w o λw1=>Q w1)
 |st {w p v K} {Q:J->Prop} (h:∀w1,Nf (K w1) (Q w1)):Nf (.st w p v K) (aQ w p v λw1=>Q w1)
 |lc {V w K} {Q:J->Prop} (h:∀w1,Nf (K w1) (Q w1)):Nf (.lc V w K) (loc V w λw1=>Q w1)
 |dr {w K} {Q:J->Prop} (h:∀w1,Nf (K w1) (Q w1)):Nf (.dr w K) (k4 w λw1=>Q w1)
 |cf {V P f xs w K} {Q:cr->J->Prop} (h:∀r w1,Nf (K r w1) (Q r w1)):Nf (.cf V P f xs w K) (ee V P f xs w λr w1=>Q r w1)
 |ca {P f xs w K} {Q:cr->J->Prop} (h:∀r w1,Nf (K r w1) (Q r w1)):Nf (.ca P f xs w K) (ak P f xs w λr w1=>Q r w1)
 |op {q K} {Q:Addr->Prop} (h:∀p,Nf (K p) (Q p)):Nf (.op q K) (dM q λp=>Q p)
 |or {a b A B} (h1:Nf a A) (h2:Nf b B):Nf (.or a b) (A\/B)
 |cj {a b A B} (h1:Nf a A) (h2:Nf b B):Nf (.cj a b) (A/\B)
 |all {α K} {Q:α->Prop} (h:∀x,Nf (K x) (Q x)):Nf (.all α K) (∀x,Q x)
 |im {K Q p} (h:Nf K Q):Nf (.im K p) (Q->p)
inductive DV
 |i (k:hr) (x:Int)|kb (x:Bool)|b (x:Bool)|st (x:ByteArray)|sl (s:Sl)|s3 (a:Option Addr) (n c:Nat)
 |p (x:Option Addr)|r (x:Addr) (l:Option (Nat×Nat))|m (x:Option Nat)|v (x:ab)|f (x:Fv)
 |a (l:List DV)|t (l:List DV)|g (n:cD) (V cs:List DV)|nf|ni|fc (t:aC) (x:DV)|u
mutual
def DV.o:DV->(ab->Oc)->Oc
 |.i x e,d=>d (.int x e)
 |.kb e,d=>d (.bool e)
 |.b e,d=>d (.bool e)
 |.st e,d=>d (.string e)
 |.sl s,d=>d s.v
 |.s3 e q w,d=>d (.slice e q w)
 |.p e,d=>d (.pointer e)
 |.r e _,d=>d (.pointer (some e))
 |.m e,d=>d (.map e)
 |.v e,d=>d e
 |.f e,d=>d e.v
 |.a l,d=>DV.os l λk=>d (.agg k.toArray)
 |.t l,d=>DV.os l λk=>d (.tuple k.toArray)
 |.g n h j,d=>DV.os h λh=>DV.os j λj=>d (.func (.func n) h.toArray j.toArray)
 |.nf,d=>d .nilFunc
 |.ni,d=>d .nilIface
 |.fc q e,d=>DV.o e λw=>d (.iface q w)
 |.u,d=>d undef
def DV.os:List DV->(List ab->Oc)->Oc
 |[],d=>d []
 |h::l,d=>DV.o h λv=>DV.os l λe=>d (v::e)
end
def sO:List ab->(List DV->Oc)->Oc
 |[],d=>d []
 |v::l,d=>sO l λh=>d ((match v with
  |.int j e=>.i j e
  |.bool true=>.kb true
  |.bool false=>.kb false
  |.string s=>.st s
  |.slice a n c=>.s3 a n c
  |.pointer (some p)=>.r p none
  |.pointer none=>.p none
  |.map e=>.m e
  |.nilFunc=>.nf
  |.nilIface=>.ni
  |v=>.v v)::h)
def yv(v:ab)(K:DV->Oc):Oc:=match v with
 |.agg d=>sO d.toList λl=>K (.a l)
 |.tuple d=>sO d.toList λl=>K (.t l)
 |.func (.func n) h d=>sO h.toList λh=>sO d.toList λd=>K (.g n h d)
 |.iface t e=>sO [e] λl=>K (.fc t (l.headD .u))
 |.int j e=>K (.i j e)
 |.bool true=>K (.kb true)
 |.bool false=>K (.kb false)
 |.string s=>K (.st s)
 |.slice a n c=>K (.s3 a n c)
 |.pointer (some p)=>K (.r p none)
 |.pointer none=>K (.p none)
 |.map e=>K (.m e)
 |.nilFunc=>K .nf
 |.nilIface=>K .ni
 |v=>K (.v v)
inductive Fc
 |c (p:Addr) (v:ab)|r (s:Sem ab) (v:ab)|n
abbrev DE:=List (Nat×DV)
abbrev DL:=List (Nat×List DV×aC)
abbrev DH:=List (Nat×Option Nat×Fc)
def rU:DL->(List Nat->Oc)->Oc
 |[],d=>d []
 |(b,_,_)::e,d=>rU e λh=>d (b::h)
def gT(d:Bool)(L:DL)(w:J)(K:J->Oc):Oc:=match d with
 |true=>rU L λe=>.lc e w K
 |false=>K w
def getD:DE->Nat->(DV->Oc)->Oc
 |[],_,_=>.leaf False
 |(h,v)::e,t,d=>match bQ h t with
  |true=>d v
  |false=>getD e t d
def iX{α:Type}:List α->Nat->Option α
 |[],_=>none
 |a::l,n=>match bQ n 0 with
  |true=>some a
  |false=>iX l (n - 1)
def O2{α:Type}:List α->Nat->α->List α
 |[],_,_=>[]
 |a::l,n,d=>match bQ n 0 with
  |true=>d::l
  |false=>a::O2 l (n - 1) d
def yL(t:Option Nat)(v:DV)(E:DE)(K:DE->Oc):Oc:=match t with
 |some t=>K ((t,v)::E)
 |none=>K E
def JD:List Nat->Nat->Bool
 |[],_=>false
 |a::l,n=>match bQ a n with
  |true=>true
  |false=>JD l n
def IT(d:List Nat):Option Nat->Bool
 |some t=>JD d t
 |none=>false
def dE(E:DE):Operand->(DV->Oc)->Oc
 |.tmp t,d=>getD E t d
 |.const v,d=>yv v d
 |.func f,d=>d (.g f [] [])
 |.global g,d=>d (.r ⟨g,0,none⟩ none)
def oo(E:DE):List Operand->(List DV->Oc)->Oc
 |[],d=>d []
 |h::l,d=>dE E h λv=>oo E l λe=>d (v::e)
def BC(z:ab)(K:DV->Oc):Oc:=match z with
 |.int e _=>.ex Int λd=>K (.i e d)
 |.bool _=>.ex Bool λd=>K (.b d)
 |.string _=>.ex ByteArray λd=>K (.st d)
 |.slice _ _ _=>.ex Sl λd=>K (.sl d)
 |.pointer _=>.ex (Option Addr) λd=>K (.p d)
 |.map _=>.ex (Option Nat) λd=>K (.m d)
 |_=>.ex ab λd=>K (.v d)
def BB:List ab->(List DV->Oc)->Oc
 |[],d=>d []
 |h::j,d=>BC h λv=>BB j λe=>d (v::e)
def HV(z:ab)(K:DV->Oc):Oc:=match z with
 |.agg d=>BB d.toList λl=>K (.a l)
 |z=>BC z K
def HY:List ab->(List DV->Oc)->Oc
 |[],d=>d []
 |h::j,d=>HV h λv=>HY j λe=>d (v::e)
def vb(z:ab)(K:DV->Oc):Oc:=match z with
 |.tuple d=>HY d.toList λl=>K (.t l)
 |z=>HV z K
def MJ:List Nat:=[0,1,2,3,4,5,6,7,8,9,10,11,12,13,14,15,16,17,18,19,20,21,22,23,24,25,26,27,28,29,30,31,32,33,34,35,36,37,38,39,40,41,42,43,44,45,46,47,48,49,50,51,52,53,54,55,56,57,58,59,60,61,62,63]
def H4(p:Addr):List Nat->List DV->(List Fc->Oc)->Oc
 |n::e,v::h,d=>DV.o v λj=>H4 p e h λl=>d (.c (p.add n) j::l)
 |_,_,d=>d []
def y5(P:aF)(w:J)(K:Oc):List Fc->Oc
 |[]=>K
 |.c p v::l=>.and (w.cell? p=some v) (y5 P w K l)
 |.r s v::l=>.and (s.run P w=.ok v w) (y5 P w K l)
 |.n::l=>y5 P w K l
def Jq(P:aF)(T:aC)(p:Addr)(w:J)(K:DV->List Fc->Oc):Oc:=match P.info? T with
 |some ⟨_,_,_,_,_,_,_,some e,_,_⟩=>match e with
  |.agg q=>BB q.toList λj=>H4 p MJ j λk=>y5 P w (K (.a j) k) k
  |.nilFunc=>.ex Fv λf=>.and (w.cell? p=some f.v) (K (.f f) [.c p f.v])
  |.nilIface=>.or (.ex aC λt=>.ex ab λd=>.and (w.cell? p=some (.iface t d)) (K (.v (.iface t d)) [.c p (.iface t d)])) (.and (w.cell? p=some .nilIface) (K (.v .nilIface) [.c p .nilIface]))
  |e=>BC e λh=>DV.o h λv=>.and (w.cell? p=some v) (K h [.c p v])
 |_=>.leaf False
def lJ{α:Type}:List α->Nat->Nat->List α
 |[],_,_=>[]
 |a::l,d,n=>match bQ d 0 with
  |true=>match bQ n 0 with
   |true=>[]
   |false=>a::lJ l 0 (n - 1)
  |false=>lJ l (d - 1) n
def yD:List DV->Nat->List DV->List DV
 |l,_,[]=>l
 |[],_,_=>[]
 |a::l,d,x::e=>match bQ d 0 with
  |true=>x::yD l 0 e
  |false=>a::yD l (d - 1) (x::e)
def DV.cs:DV->List DV
 |.a l=>l
 |d=>[d]
def Jr(P:aF)(T:aC)(cs:List DV)(j:Nat)(K:DV->Oc):Oc:=match P.info? T with
 |some ⟨_,_,n,_,_,_,_,some d,_,_⟩=>match d with
  |.agg _=>K (.a (lJ cs j n))
  |_=>match iX cs j with
   |some v=>K v
   |none=>.leaf False
 |_=>.leaf False
def kL(P:aF)(T:aC):TypeDesc:=match P.info? T with
 |some ⟨.named _ u,_,_,_,_,_,_,_,_,_⟩=>(match P.info? u with
  |some ⟨d,_,_,_,_,_,_,_,_,_⟩=>d
  |none=>.invalid)
 |some ⟨d,_,_,_,_,_,_,_,_,_⟩=>d
 |none=>.invalid
def tn(P:aF)(T:aC)(K:Nat->Oc):Oc:=match P.info? T with
 |some ⟨_,_,n,_,_,_,_,_,_,_⟩=>K n
 |none=>.leaf False
def zL(P:aF)(T:aC)(K:ab->Oc):Oc:=match P.info? T with
 |some ⟨_,_,_,_,_,_,_,some d,_,_⟩=>K d
 |_=>.leaf False
def H7(P:aF)(T:aC)(f:Nat)(K:aC->Nat->Oc):Oc:=match kL P T with
 |.struct d=>match iX d.toList f with
  |some ⟨_,t,off,_,_,_,_⟩=>K t off
  |none=>.leaf False
 |_=>.leaf False
def DV.ri:DV->(Int->Oc)->Oc
 |.i _ e,d=>d e
 |_,_=>.leaf False
def lY(E:DE)(x:Option Operand)(y d:Nat)(K:Nat->Oc):Oc:=match x with
 |none=>K d
 |some o=>dE E o λv=>v.ri λi=>.and (0<=i) (.and (i<=(y:Int)) (K i.toNat))
def tf(P:aF)(s:Sem ab)(z:ab)(w:J)(K:DV->List Fc->Oc):Oc:=match z with
 |.nilFunc=>.ex Fv λf=>.and (s.run P w=.ok f.v w) (K (.f f) [.r s f.v])
 |z=>vb z λd=>DV.o d λv=>.and (s.run P w=.ok v w) (K d [.r s v])
def minD(a b:Nat)(K:Nat->Oc):Oc:=match Nat.ble a b with
 |true=>K a
 |false=>K b
def Sk:hr->Nat
 |.i8|.u8=>8
 |.i16|.u16=>16
 |.i32|.u32=>32
 |_=>64
def O6(d:Bool)(k:hr)(y:Int)(K:Nat->Oc):Oc:=match d with
 |true=>match y with
  |.ofNat m=>minD (@OfNat.ofNat Nat m (instOfNatNat m)) (Sk k) K
  |.negSucc _=>.leaf False
 |false=>.and (¬y<0) (K (min y.toNat k.bits))
def T6(op:BinOp)(a b:Int)(K:Bool->Oc):Oc:=match op with
 |.eql=>K (a==b)
 |.neq=>K (a !=b)
 |.lss=>K (aq (a<b))
 |.leq=>K (aq (a<=b))
 |.gtr=>K (aq (a>b))
 |.geq=>K (aq (a>=b))
 |_=>.leaf False
def Si(op:BinOp)(d:Bool)(k:hr)(a b:Int)(K:DV->Oc):Oc:=match op with
 |.add=>K (.i k (k.wrap (a+b)))
 |.sub=>K (.i k (k.wrap (a - b)))
 |.mul=>K (.i k (k.wrap (a *b)))
 |.quo=>match d with
  |true=>K (.i k (k.wrap (a.tdiv b)))
  |false=>.and (b≠0) (K (.i k (k.wrap (a.tdiv b))))
 |.rem=>match d with
  |true=>K (.i k (a.tmod b))
  |false=>.and (b≠0) (K (.i k (a.tmod b)))
 |.and=>K (.i k (kY k a b))
 |.or=>K (.i k (p9 k a b))
 |.xor=>K (.i k (mF k a b))
 |.andNot=>K (.i k (R3 k a b))
 |.shl=>O6 d k b λn=>K (.i k (k.wrap (a *2^n)))
 |.shr=>O6 d k b λn=>K (.i k (a.fdiv (2^n)))
 |op=>T6 op a b λt=>K (.b t)
def Sj(op:BinOp)(a b:ByteArray)(K:DV->Oc):Oc:=match op with
 |.add=>.and (¬(((a.size+b.size:Nat):Int)>IntKind.i64.max)) (K (.st (a++b)))
 |.eql=>K (.b (a.toList==b.toList))
 |.neq=>K (.b (!(a.toList==b.toList)))
 |.lss=>K (.b (Op.bytesLess a.toList b.toList))
 |.leq=>K (.b (Op.bytesLess a.toList b.toList||a.toList==b.toList))
 |.gtr=>K (.b (!(Op.bytesLess a.toList b.toList||a.toList==b.toList)))
 |.geq=>K (.b (!(Op.bytesLess a.toList b.toList)))
 |_=>.leaf False
def DV.rb:DV->Bool
 |.kb d=>d
 |.b d=>d
 |_=>false
def u':List DV->List DV->List Field->(Bool->Oc)->Oc
 |e,h,⟨_,_,off,_,_,_,_⟩::j,d=>match iX e off,iX h off with
  |some (.i _ a),some (.i _ b)=>u' e h j λr=>d ((a==b)&&r)
  |some (.st a),some (.st b)=>u' e h j λr=>d ((a.toList==b.toList)&&r)
  |some k,some q=>u' e h j λr=>d ((k.rb==q.rb)&&r)
  |_,_=>.leaf False
 |_,_,[],d=>d true
def B6:Operand->Bool
 |.const _=>true
 |_=>false
def AD(P:aF)(op:BinOp)(T:aC)(x y:Operand)(a b:DV)(w:J)(K:DV->List Fc->Oc):Oc:=match a,b with
 |.i j a,.i _ b=>Si op (B6 y) j a b λv=>K v []
 |.st a,.st b=>Sj op a b λv=>K v []
 |.sl s,.s3 none _ _=>match op with
  |.eql=>K (.b s.a.isNone) []
  |_=>K (.b (!s.a.isNone)) []
 |.s3 (some _) _ _,.s3 none _ _=>match op with
  |.eql=>K (.kb false) []
  |_=>K (.kb true) []
 |.s3 a _ _,.s3 none _ _=>match op with
  |.eql=>K (.b a.isNone) []
  |_=>K (.b (!a.isNone)) []
 |.r _ _,.p none=>match op with
  |.eql=>K (.kb false) []
  |_=>K (.kb true) []
 |.m a,.m none=>match op with
  |.eql=>K (.b a.isNone) []
  |_=>K (.b (!a.isNone)) []
 |.a e,.a h=>match kL P T,op with
  |.struct d,.eql=>u' e h d.toList λr=>K (.b r) []
  |.struct d,_=>u' e h d.toList λr=>K (.b (!r)) []
  |_,_=>.leaf False
 |a,b=>match B6 y,a,b,op with
  |true,.p a,.p none,.eql=>K (.b a.isNone) []
  |true,.p a,.p none,_=>K (.b (!a.isNone)) []
  |_,.p _,_,.neq|_,.r _ _,_,.neq=>DV.o a λa=>DV.o b λb=>tf P (binOp .neq T a b) (.bool true) w K
  |_,_,_,op=>match kL P T with
   |.interface _=>DV.o a λa=>DV.o b λb=>tf P (IA op T x y a b) (.bool true) w K
   |.bool=>match op with
    |.eql=>K (.b (a.rb==b.rb)) []
    |_=>K (.b (!(a.rb==b.rb))) []
   |_=>.leaf False
def yc(h:Bool):DV->List DV->(DV->Oc)->Oc
 |r,[],d=>d r
 |.i j r,.i _ e::l,d=>match h with
  |true=>yc h (.i j (if r<e then e else r)) l d
  |false=>yc h (.i j (if e<r then e else r)) l d
 |_,_,_=>.leaf False
def Xx(d:List Field)(n:Nat):Nat:=match iX d n with
 |some ⟨_,_,off,_,_,_,_⟩=>off
 |none=>0
def yK(E:DE)(off:Nat->Nat):List (Nat×Operand)->List DV->(List DV->Oc)->Oc
 |[],e,d=>d e
 |(i,h)::l,e,d=>dE E h λv=>yK E off l (yD e (off i) v.cs) d
def vf:List DV->(List DV->Oc)->Oc
 |[],d=>d []
 |v::l,d=>vf l λl=>d (v::l)
def OC:Nat->List DV->List DV
 |0,_=>[]
 |n+1,l=>l++OC n l
def GD(P:aF)(op:Op)(ty:aC)(E:DE)(L:DL)(w:J)(d:Bool)(K:DV->List (Option Nat×Fc)->J->Bool->Oc):Option Oc:=match op with
 |.move e|.assign e=>some (dE E e λv=>K v [] w d)
 |.pick c a b=>some (dE E c λc=>match c with
  |.kb true=>dE E a λv=>K v [] w d
  |.kb false=>dE E b λv=>K v [] w d
  |_=>.leaf False)
 |.load h e=>some (dE E e λa=>match a with
  |.r _ (some (i,G))=>match iX L i with
   |some (_,A,_)=>Jr P h A G λv=>K v [(some i,.n)] w d
   |none=>.leaf False
  |.r p none=>gT d L w λw=>Jq P h p w λv j=>K v (j.map λf=>(none,f)) w false
  |_=>.leaf False)
 |.nilCheck e=>some (dE E e λa=>match a with
  |.p M=>.op M λp=>K (.r p none) [] w d
  |a=>K a [] w d)
 |.fieldAddr h e f=>some (dE E e λa=>match a with
  |.r p l=>H7 P h f λ_ off=>match l with
   |some (i,G)=>K (.r (p.add off) (some (i,Nat.add G off))) [] w d
   |none=>K (.r (p.add off) none) [] w d
  |_=>.leaf False)
 |.field h e f=>some (dE E e λa=>match a with
  |.a l=>H7 P h f λt off=>match P.info? t with
   |some ⟨_,_,n,_,_,_,_,some B,_,_⟩=>match B with
    |.agg _=>vf (lJ l off n) λl=>K (.a l) [] w d
    |_=>match iX l off with
     |some v=>K v [] w d
     |none=>.leaf False
   |_=>.leaf False
  |_=>.leaf False)
 |.indexAddr h e C=>some (dE E e λa=>dE E C λi=>i.ri λi=>match a,kL P h with
  |.sl s,.slice k=>tn P k λy=>.and (0<=i) (.and (i<(s.n:Int)) (.op s.a λp=>K (.r (p.add (i.toNat *y)) none) [] w d))
  |.s3 a n _,.slice k=>tn P k λy=>.and (0<=i) (.and (i<(n:Int)) (.op a λp=>K (.r (p.add (i.toNat *y)) none) [] w d))
  |.r p _,.array n k=>tn P k λy=>.and (0<=i) (.and (i<(n:Int)) (K (.r (p.add (i.toNat *y)) none) [] w d))
  |_,_=>.leaf False)
 |.index h e C=>some (dE E e λa=>dE E C λi=>i.ri λi=>match a,kL P h with
  |.st s,.string=>.and (0<=i) (.ex UInt8 λb=>.and (s[i.toNat]? =some b) (K (.i .u8 (b.toNat:Int)) [] w d))
  |.a A,.array n k=>match kL P k with
   |.string=>DV.os A λq=>.and (0<=i) (.and (i<(n:Int)) (.ex ByteArray λb=>.and (q.toArray[i.toNat]? =some (.string b)) (K (.st b) [] w d)))
   |_=>DV.os A λq=>.and (0<=i) (.and (i<(n:Int)) (.ex Int λb=>.and (q.toArray[i.toNat]? =some (.int .i64 b)) (K (.i .i64 b) [] w d)))
  |_,_=>.leaf False)
 |.slice h e lo F H=>some (dE E e λa=>match a,kL P h with
  |.sl s,.slice k=>tn P k λy=>lY E H s.c s.c λm=>lY E F m s.n λx=>lY E lo x 0 λl=>K (.s3 (if m=l then s.a else s.a.map (·.add (l *y))) (x - l) (m - l)) [] w d
  |.s3 a n c,.slice k=>tn P k λy=>lY E H c c λm=>lY E F m n λx=>lY E lo x 0 λl=>K (.s3 (if m=l then a else a.map (·.add (l *y))) (x - l) (m - l)) [] w d
  |.st s,.string=>lY E F s.size s.size λx=>lY E lo x 0 λl=>K (.st (s.extract l x)) [] w d
  |.r p _,.array n k=>tn P k λy=>lY E H n n λm=>lY E F m n λx=>lY E lo x 0 λl=>K (.s3 (some (if m=l then p else p.add (l *y))) (x - l) (m - l)) [] w d
  |_,_=>.leaf False)
 |.extract e n=>some (dE E e λa=>match a with
  |.t l=>match iX l n with
   |some v=>K v [] w d
   |none=>.leaf False
  |_=>.leaf False)
 |.build h I=>some (zL P h λB=>yv B λB=>match kL P h with
  |.struct j=>yK E (Xx j.toList) I.toList B.cs λl=>vf l λl=>K (.a l) [] w d
  |.array _ k=>match P.info? k with
   |some ⟨_,_,n,_,_,_,_,_,_,_⟩=>yK E (λi=>Nat.mul i n) I.toList B.cs λl=>vf l λl=>K (.a l) [] w d
   |none=>.leaf False
  |_=>.leaf False)
 |.unOp f _ e=>some (dE E e λa=>match f,a with
  |.not,.kb true=>K (.kb false) [] w d
  |.not,.kb false=>K (.kb true) [] w d
  |.not,.b e=>K (.b (!e)) [] w d
  |.neg,.i z e=>K (.i z (z.wrap (0 - e))) [] w d
  |.xor,.i z e=>K (.i z (mF z (if IntKind.signed z then -1 else IntKind.max z) e)) [] w d
  |_,_=>.leaf False)
 |.binOp f h e D _=>some (dE E e λa=>dE E D λb=>match kL P h,f with
  |.interface _,_|.pointer _,.neq=>match B6 D with
   |true=>AD P f h e D a b w λv j=>K v (j.map λf=>(none,f)) w d
   |false=>gT d L w λw=>AD P f h e D a b w λv j=>K v (j.map λf=>(none,f)) w false
  |_,_=>AD P f h e D a b w λv j=>K v (j.map λf=>(none,f)) w d)
 |.convert s t e=>match kL P s,kL P t with
  |.slice _,.slice _|.string,.slice _=>none
  |.slice _,.string=>some (dE E e λa=>DV.o a λv=>gT d L w λw=>tf P (convert s t v) (.string (ByteArray.mk #[])) w λv j=>K v (j.map λf=>(none,f)) w false)
  |.pointer _,.unsafePointer|.unsafePointer,.pointer _=>some (dE E e λa=>DV.o a λv=>gT d L w λw=>tf P (convert s t v) (.pointer none) w λv j=>K v (j.map λf=>(none,f)) w false)
  |_,.int z=>some (dE E e λa=>a.ri λe=>K (.i z (z.wrap e)) [] w d)
  |_,_=>some (dE E e λv=>K v [] w d)
 |.makeInterface h e=>some (dE E e λv=>K (.fc h v) [] w d)
 |.makeFunc (.func n) j A=>some (oo E j.toList λj=>oo E A.toList λA=>K (.g n j A) [] w d)
 |.lookup h e C ok=>some (dE E e λa=>DV.o a λa=>dE E C λb=>DV.o b λb=>gT d L w λw=>zL P ty λB=>tf P (Instr.lookup h a b ok) B w λv j=>K v (j.map λf=>(none,f)) w false)
 |.call {callee:=.builtin .len,args,argTypes}=>some (oo E args.toList λq=>match q,argTypes.toList with
  |[v],[h]=>match v,kL P h with
   |.sl s,_=>K (.i .i64 (s.n:Int)) [] w d
   |.s3 _ n _,_=>K (.i .i64 (n:Int)) [] w d
   |.st s,_=>K (.i .i64 (s.size:Int)) [] w d
   |_,.array n _=>K (.i .i64 (n:Int)) [] w d
   |v,.map _ _=>DV.o v λm=>gT d L w λw=>tf P (Builtin.len_ #[h] ty #[m]) (.int .i64 0) w λv j=>K v (j.map λf=>(none,f)) w false
   |_,_=>.leaf False
  |_,_=>.leaf False)
 |.call {callee:=.builtin .cap,args,..}=>some (oo E args.toList λq=>match q with
  |[.sl s]=>K (.i .i64 (s.c:Int)) [] w d
  |[.s3 _ _ c]=>K (.i .i64 (c:Int)) [] w d
  |_=>.leaf False)
 |.call {callee:=.builtin .min,args,..}=>some (oo E args.toList λq=>match q with
  |v::q=>yc false v q λv=>K v [] w d
  |_=>.leaf False)
 |.call {callee:=.builtin .max,args,..}=>some (oo E args.toList λq=>match q with
  |v::q=>yc true v q λv=>K v [] w d
  |_=>.leaf False)
 |_=>none
def lh(L:DL)(w Y:J)(K:Oc):Oc:=match L with
 |[]=>K
 |L=>rU L λd=>.and (kept d w Y) K
def Ew(L:DL)(p:Addr):List Nat->List DV->J->(J->Oc)->Oc
 |n::j,v::k,d,h=>DV.o v λq=>match bQ n 0 with
  |true=>.st d p q λe=>lh L d e (Ew L p j k e h)
  |false=>.st d (p.add n) q λe=>lh L d e (Ew L p j k e h)
 |_,_,d,h=>h d
def r5(P:aF)(L:DL)(s:Sem ab)(z:ab)(w:J)(K:DV->J->Oc):Oc:=
 vb z λe=>DV.o e λv=>.ex J λd=>.and (s.run P w=.ok v d) (lh L w d (K e d))
def Gy(P:aF)(L:DL)(f:cD)(xs:Array ab)(z:ab)(w:J)(K:DV->J->Oc):Oc:=match L with
 |[]=>.ca P f xs w λr e=>vb z λd=>DV.o d λv=>.and (r=ag v) (K d e)
 |L=>rU L λh=>.cf h P f xs w λr e=>vb z λd=>DV.o d λv=>.and (r=ag v) (K d e)
def Sr(P:aF)(f:cD):Bool:=match P.funcs[f]? with
 |some fn=>fn.body.isSome
 |none=>false
def Us(P:aF)(D:List Nat)(dst:Option Nat)(op:Op)(ty:aC)(E:DE)(L:DL)(w:J)(d:Bool)(K:DV->DL->J->Bool->Oc):Oc:=match op with
 |.store _ h M=>dE E h λa=>dE E M λv=>match a with
  |.r _ (some (i,G))=>match iX L i with
   |some (b,y,j)=>vf (yD y G v.cs) λy=>K .u (O2 L i (b,y,j)) w true
   |none=>.leaf False
  |.r p none=>gT d L w λw=>Ew L p MJ v.cs w λe=>K .u L e false
  |_=>.leaf False
 |.alloc j=>zL P j λq=>yv q λq=>match IT D dst with
  |true=>rU L λB=>.nw B w λb e=>K (.r (ae b) (some (L.length,0))) (L++[(b,q.cs,j)]) e false
  |false=>gT d L w λw=>DV.os q.cs λk=>.al w (.cells k.toArray j) λe=>K (.r (nb w) none) L e false
 |.box j h=>dE E h λq=>match IT D dst with
  |true=>rU L λB=>.nw B w λb e=>K (.r (ae b) (some (L.length,0))) (L++[(b,q.cs,j)]) e false
  |false=>gT d L w λw=>DV.os q.cs λk=>.al w (.cells k.toArray j) λe=>K (.r (nb w) none) L e false
 |.buildSlice j n H=>match kL P j with
  |.slice C=>match P.info? C with
   |some ⟨_,_,I,_,_,_,_,some q,_,_⟩=>yv q λq=>yK E (λi=>Nat.mul i I) H.toList (OC n q.cs) λl=>DV.os l λk=>gT d L w λw=>.al w (.cells k.toArray C) λe=>K (.s3 (some (nb w)) n n) L e false
   |_=>.leaf False
  |_=>.leaf False
 |.makeMap _ _=>gT d L w λw=>.al w (.map #[] 0) λe=>K (.m (some w.heap.size)) L e false
 |.mapUpdate j m x v|.insert j m x v=>dE E m λm=>DV.o m λm=>dE E x λx=>DV.o x λx=>dE E v λv=>DV.o v λv=>gT d L w λw=>
   .ex J λe=>.and ((Instr.mapUpdate j m x v).run P w=.ok () e) (lh L w e (K .u L e false))
 |.call {callee:=.builtin b,args,argTypes}=>oo E args.toList λk=>DV.os k λk=>gT d L w λw=>match b with
  |.append=>r5 P L (dW argTypes ty k.toArray) (.slice none 0 0) w λv e=>K v L e false
  |.copy=>r5 P L (Builtin.copy_ argTypes ty k.toArray) (.int .i64 0) w λv e=>K v L e false
  |.unsafeSliceData=>r5 P L (Builtin.unsafeSliceData_ argTypes ty k.toArray) (.pointer none) w λv e=>K v L e false
  |.unsafeString=>r5 P L (Builtin.unsafeString_ argTypes ty k.toArray) (.string (ByteArray.mk #[])) w λv e=>K v L e false
  |.delete=>.ex J λe=>.and ((Builtin.delete_ argTypes ty k.toArray).run P w=.ok undef e) (lh L w e (K .u L e false))
  |.clear=>.ex J λe=>.and ((Builtin.clear_ argTypes ty k.toArray).run P w=.ok (.tuple #[]) e) (lh L w e (K (.t []) L e false))
  |_=>.leaf False
 |.call {callee:=.value h,args,..}=>dE E h λf=>oo E args.toList λk=>zL P ty λq=>gT d L w λw=>match f with
  |.g n F y=>DV.os (F++k++y) λA=>match Sr P n with
   |true=>Gy P L n A.toArray q w λv e=>K v L e false
   |false=>vb q λr=>DV.o r λv=>.ex J λe=>.and ((callFunc n A.toArray).run P w=.ok (.value v) e) (lh L w e (K r L e false))
  |.f z=>DV.os k λA=>.at (gW P z.n) (Gy P L z.n (z.V++A.toArray++z.cs) q w λv e=>K v L e false)
  |_=>.leaf False
 |.makeSlice j l c=>dE E l λl=>DV.o l λl=>dE E c λc=>DV.o c λc=>gT d L w λw=>r5 P L (Instr.makeSlice j l c) (.slice none 0 0) w λv e=>K v L e false
 |.convert s t h=>dE E h λh=>DV.o h λh=>gT d L w λw=>r5 P L (convert s t h) (.slice none 0 0) w λv e=>K v L e false
 |.range j h=>dE E h λh=>DV.o h λh=>gT d L w λw=>.ex ab λv=>.ex J λe=>.and ((Instr.range j h).run P w=.ok v e) (lh L w e (K (.v v) L e false))
 |.next it s=>dE E it λh=>DV.o h λit=>gT d L w λw=>.or (.ex J λe=>.and ((Instr.next it s ty).run P w=.ok (.tuple #[.bool false]) e) (lh L w e (K (.t [.kb false]) L e false)))
   (match s with
    |true=>.ex Int λi=>.ex Int λc=>.ex J λe=>.and ((Instr.next it true ty).run P w=.ok (.tuple #[.bool true,.int .i64 i,.int .i32 c]) e) (lh L w e (K (.t [.kb true,.i .i64 i,.i .i32 c]) L e false))
    |false=>.ex ab λi=>.ex ab λc=>.ex J λe=>.and ((Instr.next it false ty).run P w=.ok (.tuple #[.bool true,i,c]) e) (lh L w e (K (.t [.kb true,.v i,.v c]) L e false)))
 |.entry it=>dE E it λh=>DV.o h λit=>gT d L w λw=>.ex ab λi=>.ex ab λc=>.ex J λe=>.and ((Instr.entry it).run P w=.ok (.tuple #[i,c]) e) (lh L w e (K (.t [.v i,.v c]) L e false))
 |_=>.leaf False
def ur:List Edge->(Nat->Bool)->Bool
 |[],_=>false
 |⟨_,.textOnly _⟩::l,p=>ur l p
 |⟨_,.gcOnly _⟩::l,p=>ur l p
 |⟨d,_⟩::l,p=>match p d with
  |true=>true
  |false=>ur l p
def yB(ops:List Oper):Nat->Nat->Nat->Bool
 |0,i,h=>match iX ops h with
  |some ⟨_,_,_,_,e,_⟩=>ur e.toList λd=>bQ d i
  |none=>false
 |f+1,i,h=>match iX ops h with
  |some ⟨_,_,_,_,e,_⟩=>ur e.toList λd=>match bQ d i with
   |true=>true
   |false=>yB ops f i d
  |none=>false
def uQ(ops:List Oper)(j:Nat):DH->(DH->Oc)->Oc
 |[],e=>e []
 |(i,f,h)::d,e=>match yB ops 4 i j with
  |true=>uQ ops j d e
  |false=>uQ ops j d λd=>e ((i,f,h)::d)
def Au(ops:List Oper)(j:Nat):DH->Bool
 |[]=>false
 |(i,none,_)::d=>match yB ops 4 i j with
  |true=>Au ops j d
  |false=>true
 |_::d=>Au ops j d
def sA(P:aF)(ops:List Oper)(j:Nat)(w:J)(K:Oc):DH->Oc
 |[]=>K
 |(i,none,e)::d=>match yB ops 4 i j with
  |true=>sA P ops j w K d
  |false=>match e with
   |.c p v=>.and (w.cell? p=some v) (sA P ops j w K d)
   |.r s v=>.and (s.run P w=.ok v w) (sA P ops j w K d)
   |.n=>sA P ops j w K d
 |_::d=>sA P ops j w K d
abbrev DJ:=DE->DL->J->Bool->DH->Oc
def FB(draw:Bool)(i:Nat):List (Option Nat×Fc)->DH->(DH->Oc)->Oc
 |[],d,e=>e d
 |(f,h)::l,d,e=>match draw with
  |true=>FB draw i l d λd=>e ((i,f,h)::d)
  |false=>e d
def PI(P:aF)(j:List Nat)(ops:List Oper)(draw:Bool)(i:Nat)(o:Oper)(E:DE)(L:DL)(w:J)(d:Bool)(H:DH)(K:DJ):Oc:=match o with
 |⟨dst,op,e,_,_,_⟩=>match GD P op e E L w d λv h w d=>yL dst v E λE=>FB draw i h H λH=>K E L w d H with
  |some r=>r
  |none=>Us P j dst op e E L w d λv L w d=>match Au ops i H with
   |true=>gT d L w λw=>sA P ops i w (yL dst v E λE=>uQ ops i H λH=>K E L w false H) H
   |false=>yL dst v E λE=>uQ ops i H λH=>K E L w d H
def TY(P:aF)(op:Op)(ty:aC)(E:DE)(L:DL)(w:J):Bool:=match GD P op ty E L w false λ_ _ _ _=>.leaf True with
 |some _=>true
 |none=>false
def za(P:aF)(ops:List Oper)(i:Nat)(o:Oper)(E:DE)(L:DL)(w:J)(d:Bool)(H:DH)(K:DJ):Oc:=match o with
 |⟨dst,op,e,_,_,_⟩=>yL dst .u E λE=>match TY P op e E L w with
  |true=>K E L w d H
  |false=>uQ ops i H λH=>K E L w d H
def BX(P:aF)(e:List Nat)(ops:List Oper)(draw:Bool)(i:Nat)(o:Oper)(t:Nat)(want b:Bool)(E:DE)(L:DL)(w:J)(d:Bool)(H:DH)(K:DJ):Oc:=match want,b with
 |true,true|false,false=>PI P e ops draw i o ((t,.kb b)::E) L w d H K
 |_,_=>za P ops i o ((t,.kb b)::E) L w d H K
def headD(P:aF)(e:List Nat)(ops:List Oper)(draw:Bool)(i:Nat)(E:DE)(L:DL)(w:J)(d:Bool)(H:DH)(K:DJ):Oc:=match iX ops i with
 |none=>.leaf False
 |some o=>match o.guard with
  |none=>PI P e ops draw i o E L w d H K
  |some (h,want)=>match iX ops h with
   |some ⟨some t,_,_,_,_,_⟩=>getD E t λv=>match v with
    |.kb b=>BX P e ops draw i o t want b E L w d H K
    |.b b=>.bn b (BX P e ops draw i o t want true E L w d H K) (BX P e ops draw i o t want false E L w d H K)
    |_=>za P ops i o E L w d H K
   |_=>.leaf False
def OV(P:aF)(k:List Nat)(ops:List Oper)(K:DE->DL->J->Bool->Oc):List Oper->Nat->DE->DL->J->Bool->Oc
 |[],_,d,e,j,h=>K d e j h
 |_::l,i,d,e,j,h=>headD P k ops false i d e j h [] λd e j h _=>OV P k ops K l (i+1) d e j h
def zo(P:aF)(q:List Nat)(ops:List Oper)(K:DE->DL->J->Bool->Oc):Tr->DE->DL->J->Bool->DH->Oc
 |.nil,d,e,j,h,_=>K d e j h
 |.one i t,d,e,j,h,k=>headD P q ops true i d e j h k λd e j h k=>zo P q ops K t d e j h k
 |.fork a b,d,e,j,h,k=>.cj (zo P q ops K a d e j h k) (zo P q ops K b d e j h k)
def Uo(L:DL)(w:J)(d:Bool)(K:J->Bool->Oc):Oc:=match L,d with
 |[],false=>.dr w λw=>K w false
 |_,_=>K w true
def dd:(O:List Tk)->(X:Type)->List DV->kT O X->(X->Oc)->Oc
 |[],_,_,d,e=>e d
 |.a _::O,X,.a l::h,d,e=>dd O X (l++h) d e
 |.t _::O,X,.t l::h,d,e=>dd O X (l++h) d e
 |.g _ _ _::O,X,.g _ k q::h,d,e=>dd O X (k++(q++h)) d e
 |.o (.i _)::O,X,.i _ j::h,d,e=>dd O X h (d j) e
 |.o .b::O,X,.b j::h,d,e=>dd O X h (d j) e
 |.o .b::O,X,.kb j::h,d,e=>dd O X h (d j) e
 |.o .st::O,X,.st j::h,d,e=>dd O X h (d j) e
 |.o .s::O,X,.sl j::h,d,e=>dd O X h (d j) e
 |.o .s::O,X,.s3 a n c::h,d,e=>dd O X h (d ⟨a,n,c⟩) e
 |.o .p::O,X,.p j::h,d,e=>dd O X h (d j) e
 |.o .p::O,X,.r j _::h,d,e=>dd O X h (d (some j)) e
 |.o .r::O,X,.r j _::h,d,e=>dd O X h (d j) e
 |.o .m::O,X,.m j::h,d,e=>dd O X h (d j) e
 |.o .f::O,X,.f j::h,d,e=>dd O X h (d j) e
 |.o .f::O,X,.g n k q::h,d,e=>DV.os k λk=>DV.os q λq=>dd O X h (d ⟨n,k.toArray,q.toArray⟩) e
 |.o .v::O,X,v::h,d,e=>DV.o v λj=>dd O X h (d j) e
 |_,_,_,_,_=>.leaf False
def Av:(l:List (Nat×Sp))->gw l->DE->DL->J->aH->Oc
 |[],e,_,_,j,h=>.leaf (e j h)
 |(t,.v w)::l,e,d,k,j,h=>getD d t λv=>dd w (gw l) [v] e λq=>Av l q d k j h
 |(t,.l w _)::l,e,d,k,j,h=>getD d t λv=>match v with
  |.r _ (some (i,_))=>match iX k i with
   |some (b,x,_)=>dd w (gw l) x (e b) λq=>Av l q d k j h
   |none=>.leaf False
  |_=>.leaf False
abbrev DK:=Exit->DE->DL->J->Bool->Oc
section
variable (X:Fx) (es:List (fX X)) (R:aH)
def m6{X:Fx}(R:aH):List (fX X)->List Bool->DE->DL->J->Bool->Oc->Oc
 |[],_,_,_,_,_,f=>f
 |k::es,w,h,e,d,j,f=>match rS k.q w with
  |true=>match k with
   |⟨_,y,x,_⟩=>gT j e d λd=>Av y x h e d R
  |false=>m6 R es w h e d j f
def mK(P:aF)(ord:List (Nat×Tr))(w:List Nat):Code->List Bool->DK->DE->DL->J->Bool->Oc
 |.skip,_,k,h,j,e,d=>k .normal h j e d
 |.region id ops true,_,k,h,j,e,d=>match Cg ord id with
  |some t=>Uo j e d λe d=>zo P w ops.toList (λh j e d=>k .normal h j e d) t h j e d []
  |none=>.leaf False
 |.region _ ops false,_,k,h,j,e,d=>OV P w ops.toList (λh j e d=>k .normal h j e d) ops.toList 0 h j e d
 |.seq a b,q,k,h,j,e,d=>mK P ord w a (false::q) (λx h j e d=>match x with
  |.normal=>m6 R es (true::q) h j e d (mK P ord w b (true::q) k h j e d)
  |x=>k x h j e d) h j e d
 |.cond o a b,q,k,h,j,e,d=>dE h o λv=>match v with
  |.kb true=>m6 R es (false::q) h j e d (mK P ord w a (false::q) k h j e d)
  |.kb false=>m6 R es (true::q) h j e d (mK P ord w b (true::q) k h j e d)
  |.b t=>.bn t (m6 R es (false::q) h j e d (mK P ord w a (false::q) k h j e d)) (m6 R es (true::q) h j e d (mK P ord w b (true::q) k h j e d))
  |_=>.leaf False
 |.block id a,q,k,h,j,e,d=>mK P ord w a (false::q) (λx h j e d=>match x with
  |.exit y=>match bQ y id with
   |true=>k .normal h j e d
   |false=>k (.exit y) h j e d
  |x=>k x h j e d) h j e d
 |.loop _,q,_,h,j,e,d=>m6 R es q h j e d (.leaf False)
 |.exit id,_,k,h,j,e,d=>k (.exit id) h j e d
 |.ret,_,k,h,j,e,d=>k .ret h j e d
 |_,_,_,_,_,_,_=>.leaf False
def y1(P:aF)(E:DE)(L:DL)(w:J):List ResultVar->(List DV->Oc)->Oc
 |[],d=>d []
 |.tmp t::l,d=>getD E t λv=>y1 P E L w l λe=>d (v::e)
 |.cell q h::l,d=>getD E q λv=>match v with
  |.r _ (some (i,k))=>match iX L i with
   |some (_,j,_)=>Jr P h j k λv=>y1 P E L w l λe=>d (v::e)
   |none=>.leaf False
  |.r p none=>Jq P h p w λv _=>y1 P E L w l λe=>d (v::e)
  |_=>.leaf False
def YE(P:aF)(fn:Func):DK:=λq j h e k=>match q with
 |.normal|.ret=>gT k h e λe=>y1 P j h e fn.results.toList λd=>match d with
  |[v]=>DV.o v λv=>.leaf (R (ag v) e)
  |d=>DV.os d λd=>.leaf (R (ag (.tuple d.toArray)) e)
 |_=>.leaf False
def I4(P:aF)(ord:List (Nat×Tr))(C:List Nat)(A:Code)(z:DK):List Bool->Code×DK
 |[]=>(A,z)
 |b::y=>match I4 P ord C A z y,b with
  |(.seq w x,d),false=>(w,λe h j q k=>match e with
   |.normal=>m6 R es (true::y) h j q k (mK X es R P ord C x (true::y) d h j q k)
   |e=>d e h j q k)
  |(.seq _ x,d),true=>(x,d)
  |(.cond _ w _,d),false=>(w,d)
  |(.cond _ _ x,d),true=>(x,d)
  |(.block id w,d),_=>(w,λe h j q k=>match e with
   |.exit B=>match bQ B id with
    |true=>d .normal h j q k
    |false=>d (.exit B) h j q k
   |e=>d e h j q k)
  |(.loop w,d),_=>(w,λe h j q k=>match e with
   |.normal=>m6 R es y h j q k (.leaf False)
   |e=>d e h j q k)
  |(_,d),_=>(.skip,d)
def QU(X:Fx)(K:aF->Func->List (Nat×Tr)->List Nat->Oc):Oc:=match X with
 |⟨d,fn,ord,e⟩=>K d fn ord e
def Bf(e:List Bool)(E:DE)(L:DL)(w:J):Oc:=QU X λd fn ord k=>match fn.body with
  |some c=>match I4 X es R d ord k c (YE R d fn) e with
   |(.loop x,h)=>mK X es R d ord k x (false::e) (λj E L w q=>match j with
    |.normal=>m6 R es e E L w q (.leaf False)
    |j=>h j E L w q) E L w false
   |(c,h)=>mK X es R d ord k c e h E L w false
  |none=>.leaf False
end
abbrev g6:List Tk->Type->Type
 |[],X=>X
 |.o (.i _)::l,X=>Int->g6 l X
 |.o .b::l,X=>Bool->g6 l X
 |.o .st::l,X=>ByteArray->g6 l X
 |.o .s::l,X=>Sl->g6 l X
 |.o .p::l,X=>Option Addr->g6 l X
 |.o .r::l,X=>Addr->g6 l X
 |.o .m::l,X=>Option Nat->g6 l X
 |.o .v::l,X=>ab->g6 l X
 |.o .f::l,X=>Fv->g6 l X
 |.a _::l,X=>g6 l X
 |.t _::l,X=>g6 l X
 |.g _ _ _::l,X=>g6 l X
abbrev lO:List (Nat×Sp)->Type
 |[]=>J->aH->Prop
 |(_,.v d)::l=>g6 d (lO l)
 |(_,.l d _)::l=>Nat->g6 d (lO l)
def r2:∀(O:List Tk) (X:Type),kT O X=g6 O X
 |[],_=>rfl
 |.o e::O,X=>by cases e<;>exact congrArg (λd=>_->d) (r2 O X)
 |.a _::O,X=>r2 O X
 |.t _::O,X=>r2 O X
 |.g _ _ _::O,X=>r2 O X
def Bg:∀l:List (Nat×Sp),gw l=lO l
 |[]=>rfl
 |(_,.v d)::l=>(r2 d (gw l)).trans (congrArg (g6 d) (Bg l))
 |(_,.l d _)::l=>congrArg (λe=>Nat->e) ((r2 d (gw l)).trans (congrArg (g6 d) (Bg l)))
def jL:(O:List Tk)->(X:Type)->g6 O X->(List DV->X->Prop)->Prop
 |[],_,h,j=>j [] h
 |.o (.i q)::O,X,h,j=>∀e:Int,jL O X (h e) λd k=>j (.i q e::d) k
 |.o .b::O,X,h,j=>∀e:Bool,jL O X (h e) λd k=>j (.b e::d) k
 |.o .st::O,X,h,j=>∀e:ByteArray,jL O X (h e) λd k=>j (.st e::d) k
 |.o .s::O,X,h,j=>∀e:Sl,jL O X (h e) λd k=>j (.sl e::d) k
 |.o .p::O,X,h,j=>∀e:Option Addr,jL O X (h e) λd k=>j (.p e::d) k
 |.o .r::O,X,h,j=>∀e:Addr,jL O X (h e) λd k=>j (.r e none::d) k
 |.o .m::O,X,h,j=>∀e:Option Nat,jL O X (h e) λd k=>j (.m e::d) k
 |.o .v::O,X,h,j=>∀e:ab,jL O X (h e) λd k=>j (.v e::d) k
 |.o .f::O,X,h,j=>∀e:Fv,jL O X (h e) λd k=>j (.f e::d) k
 |.a q::O,X,h,j=>jL O X h λd k=>j (.a (lJ d 0 q)::d.drop q) k
 |.t q::O,X,h,j=>jL O X h λd k=>j (.t (lJ d 0 q)::d.drop q) k
 |.g n w q::O,X,h,j=>jL O X h λd k=>j (.g n (lJ d 0 w) (lJ d w q)::d.drop (w+q)) k
def Ah(G:DE->DL->J->aH->Oc):(l:List (Nat×Sp))->lO l->DE->DL->Prop
 |[],d,h,e=>∀(w:J) (R:aH),Nf (G h e w R) (d w R)
 |(t,.v j)::l,d,h,e=>jL j (lO l) d λk d=>match k with
  |v::_=>Ah G l d ((t,v)::h) e
  |[]=>False
 |(t,.l j q)::l,d,h,e=>∀b:Nat,jL j (lO l) (d b) λk d=>Ah G l d ((t,.r (ae b) (some (e.length,0)))::h) (e++[(b,k,q)])
def ji:(O:List Tk)->(X:Type)->g6 O X->(List DV->X->Oc)->Oc
 |[],_,h,j=>j [] h
 |.o (.i q)::O,X,h,j=>.all Int λe=>ji O X (h e) λd k=>j (.i q e::d) k
 |.o .b::O,X,h,j=>.all Bool λe=>ji O X (h e) λd k=>j (.b e::d) k
 |.o .st::O,X,h,j=>.all ByteArray λe=>ji O X (h e) λd k=>j (.st e::d) k
 |.o .s::O,X,h,j=>.all Sl λe=>ji O X (h e) λd k=>j (.sl e::d) k
 |.o .p::O,X,h,j=>.all (Option Addr) λe=>ji O X (h e) λd k=>j (.p e::d) k
 |.o .r::O,X,h,j=>.all Addr λe=>ji O X (h e) λd k=>j (.r e none::d) k
 |.o .m::O,X,h,j=>.all (Option Nat) λe=>ji O X (h e) λd k=>j (.m e::d) k
 |.o .v::O,X,h,j=>.all ab λe=>ji O X (h e) λd k=>j (.v e::d) k
 |.o .f::O,X,h,j=>.all Fv λe=>ji O X (h e) λd k=>j (.f e::d) k
 |.a q::O,X,h,j=>ji O X h λd k=>j (.a (lJ d 0 q)::d.drop q) k
 |.t q::O,X,h,j=>ji O X h λd k=>j (.t (lJ d 0 q)::d.drop q) k
 |.g n w q::O,X,h,j=>ji O X h λd k=>j (.g n (lJ d 0 w) (lJ d w q)::d.drop (w+q)) k
def As(G:DE->DL->J->aH->Oc):(l:List (Nat×Sp))->lO l->DE->DL->Oc
 |[],d,h,e=>.all J λw=>.all aH λq=>.im (G h e w q) (d w q)
 |(t,.v j)::l,d,h,e=>ji j (lO l) d λk d=>match k with
  |v::_=>As G l d ((t,v)::h) e
  |[]=>.leaf False
 |(t,.l j x)::l,d,h,e=>.all Nat λb=>ji j (lO l) (d b) λk d=>As G l d ((t,.r (ae b) (some (e.length,0)))::h) (e++[(b,k,x)])
def kM:(O:List Tk)->g6 O Unit
 |[]=>()
 |.o (.i _)::O=>λ_=>kM O
 |.o .b::O=>λ_=>kM O
 |.o .st::O=>λ_=>kM O
 |.o .s::O=>λ_=>kM O
 |.o .p::O=>λ_=>kM O
 |.o .r::O=>λ_=>kM O
 |.o .m::O=>λ_=>kM O
 |.o .v::O=>λ_=>kM O
 |.o .f::O=>λ_=>kM O
 |.a _::O=>kM O
 |.t _::O=>kM O
 |.g _ _ _::O=>kM O
def HR:Nat->List DV->DE
 |_,[]=>[]
 |n,v::d=>(n,v)::HR (n+1) d
def Xy(X:Fx)(es:List (fX X))(f:cD)(O:List Tk):Oc:=ji O Unit (kM O) λe _=>.all J λh=>.all aH λd=>QU X λj _ _ _=>DV.os e λk=>.im (Bf X es d [] (HR 0 e) [] h) (ak j f k.toArray h d)
abbrev At(X:Fx)(_:List (fX X))(_:List Nat)(d:Ps):Type:=lO d
abbrev aA(P:aF)(fn:Func)(ord:List (Nat×Tr))(d:List Nat):List (fX ⟨P,fn,ord,d⟩):=[]
section
variable {X:Fx}
abbrev ax(es:List (fX X))(e:List Nat)(d:Ps){F:lO d}(_:Ah (λh j q k=>Bf X es k (m7 e) h j q) d F [] []:=by repeat' first |(intro)|((conv=>arg 1;whnf);first |exact Nf.leaf|apply Nf.bn|apply Nf.and|apply Nf.ex|apply Nf.cf|apply Nf.ca|apply Nf.nw|apply Nf.st|apply Nf.lc|apply Nf.op|apply Nf.all|apply Nf.im|apply Nf.al|apply Nf.dr|apply Nf.at|apply Nf.or|apply Nf.cj)):At X es e d:=F
abbrev bj(es:List (fX X))(e:List Nat)(d:Ps):At X es e d:=cast (Bg d) (iI d 0 (X.Sem (m7 e)))
abbrev az{es:List (fX X)}{h:List Nat}{d:Ps}(G:At X es h d){F:gw d}(_:HEq G F:=by exact HEq.rfl)(e:F=iI d 0 (X.tV es (m7 h)):=by kernel_rfl):List (fX X):=UE X es (m7 h) d F e::es
abbrev bh{es:List (fX X)}{h:List Nat}{d:Ps}(G:At X es h d){F:gw d}(_:HEq G F:=by exact HEq.rfl)(e:F=iI d 0 (X.Sem (m7 h)):=by kernel_rfl):List (fX X):=UD X (m7 h) d F e::es
def ra:(O:List Tk)->(List ab->Prop)->Prop
 |[],e=>e []
 |.o k::O,e=>∀q:k.T,ra O λd=>e (k.val q::d)
 |.a h::O,e=>ra O λd=>e (.agg (d.take h).toArray::d.drop h)
 |.t h::O,e=>ra O λd=>e (.tuple (d.take h).toArray::d.drop h)
 |.g n j h::O,e=>ra O λd=>e (.func (.func n) (d.take j).toArray ((d.drop j).take h).toArray::(d.drop j).drop h)
def uq:∀{O:List Tk} {K:List ab->Prop},(∀e,K e)->ra O K
 |[],_,d=>d []
 |.o _::O,_,d=>λ_=>uq (O:=O) λ_=>d _
 |.a _::O,_,d=>uq (O:=O) λ_=>d _
 |.t _::O,_,d=>uq (O:=O) λ_=>d _
 |.g _ _ _::O,_,d=>uq (O:=O) λ_=>d _
def aB(es:List (fX X))(f:cD)(O:List Tk){T:Prop}(_:Nf (Xy X es f O) T:=by repeat' first |(intro)|((conv=>arg 1;whnf);first |exact Nf.leaf|apply Nf.bn|apply Nf.and|apply Nf.ex|apply Nf.cf|apply Nf.ca|apply Nf.nw|apply Nf.st|apply Nf.lc|apply Nf.op|apply Nf.all|apply Nf.im|apply Nf.al|apply Nf.dr|apply Nf.at|apply Nf.or|apply Nf.cj))(k:X.P.funcs[f]? =some X.fn:=by kernel_rfl)(j:X.fn.body=some X.c:=by kernel_rfl)(e:(ra O λd=>∀(w:J) (R:aH),cE (Nat.ble d.length X.fn.ntmps) (hZ X.P X.n (X.zk es R) X.c [] (te X.P X.fn R) ⟨jT 0 d,[],[],w,false⟩)->ak X.P f d.toArray w R)=T:=by kernel_rfl):T:=
 e▸uq λ_ _ _ h=>TU X es (dI h).2 k j (dI h).1 rfl
def bm(es:List (fX X)){w:List (fX X)}{h:List Nat}{d:Ps}(F:At X w h d){T:Prop}(_:Nf (As (λj k x q=>Bf X es q (m7 h) j k x) d F [] []) T:=by repeat' first |(intro)|((conv=>arg 1;whnf);first |exact Nf.leaf|apply Nf.bn|apply Nf.and|apply Nf.ex|apply Nf.cf|apply Nf.ca|apply Nf.nw|apply Nf.st|apply Nf.lc|apply Nf.op|apply Nf.all|apply Nf.im|apply Nf.al|apply Nf.dr|apply Nf.at|apply Nf.or|apply Nf.cj))(e:ua d (iI d 0 (X.tV es (m7 h))) (iI d 0 (X.Sem (m7 h)))=T:=by kernel_rfl):T:=e▸ZH es (m7 h) d
end
end Go.W
set_option maxHeartbeats 2000000
set_option maxRecDepth 100000
namespace Go.Proofs.YthaledkcjibmfaaGreatDoor
open Go renaming World->J,Calls->ak,Program->aF,Value->ab,TypeId->aC,Ending->cr,FuncId->cD,IntKind->hr
open Go.IntKind renaming wrap->ao
open Go.IntWalk renaming i64_in->aS
open Go.Builtin renaming append_->dW
open _root_.Bool renaming and_eq_true->bf
open _root_.Nat renaming zero_le->dn,beq->bQ,lt_of_lt_of_le->kP,beq_eq->ep
open _root_.UInt8 renaming ofNat->cI
open _root_.Int renaming toNat_natCast->bF
open Go.Region renaming wanted->da,ready->eG
open Go.Proofs.Tryz renaming prog->aa
open _root_.Decidable renaming decide->aq
open Go.Ending renaming returned->ag
open List renaming mem_cons->av,getElem?_eq_getElem->a6,getElem?_eq_some_iff->bO,mem_map->ch,append_assoc->cp,mem_cons_of_mem->dS,drop_eq_getElem_cons->dy,getElem?_map->iM,take_add_one->ej,getElem?_take->jw,drop_of_length_le->dC,eq_nil_of_length_eq_zero->qN
open Go Go.W
def mp{a b:Prop}(h:a)(e:a=b:=by kernel_rfl):b:=e▸h
abbrev hx:=Exit->Act->J->Prop
abbrev pN(P:aF)(n:Nat)(K:Env->J->aH->Prop)(c:Code)(Q:aH->hx):Prop:=∀(R:aH) (E:Env) (w:J),K E w R->WP P (cx n) c (Q R) E w
abbrev Ae(P:aF)(n:Nat)(K:Env->J->aH->Prop)(c:Code)(Q:aH->hx):Prop:=∀(R:aH) (E:Env) (w:J),K E w R->LP P (cx n) c (Q R) E w
abbrev fM(w:J)(p:Addr)(K:Int->Int->Int->Sl->Prop):Prop:=∃d:Int,∃e:Int,∃h:Int,∃j:Sl,w.cell? (p.add 0)=some (.i d)/\w.cell? (p.add 1)=some (.int .u8 e)/\w.cell? (p.add 2)=some (.int .u8 h)/\w.cell? (p.add 3)=some (j.v)/\K d e h j
abbrev I'(w:J)(p:Addr)(K:Int->Int->Int->ByteArray->Int->Prop):Prop:=∃d:Int,∃e:Int,∃h:Int,∃j:ByteArray,∃k:Int,w.cell? (p.add 0)=some (.int .u8 d)/\w.cell? (p.add 1)=some (.int .u8 e)/\w.cell? (p.add 2)=some (.int .u8 h)/\w.cell? (p.add 3)=some (.string j)/\w.cell? (p.add 4)=some (.i k)/\K d e h j k
abbrev I9(w:J)(p:Addr)(K:Int->Int->Int->Prop):Prop:=∃d:Int,∃e:Int,∃h:Int,w.cell? (p.add 0)=some (.i d)/\w.cell? (p.add 1)=some (.i e)/\w.cell? (p.add 2)=some (.i h)/\K d e h
abbrev V4(w:J)(p:Addr)(K:Int->Int->Int->Sl->ByteArray->Sl->Sl->Prop):Prop:=∃d:Int,∃e:Int,∃h:Int,∃j:Sl,∃k:ByteArray,∃q:Sl,∃x:Sl,w.cell? (p.add 0)=some (.i d)/\w.cell? (p.add 1)=some (.i e)/\w.cell? (p.add 2)=some (.i h)/\w.cell? (p.add 3)=some (j.v)/\w.cell? (p.add 4)=some (.string k)/\w.cell? (p.add 5)=some (q.v)/\w.cell? (p.add 6)=some (x.v)/\K d e h j k q x
abbrev I8(w:J)(p:Addr)(K:Sl->Sl->Prop):Prop:=∃d:Sl,∃e:Sl,w.cell? (p.add 0)=some (d.v)/\w.cell? (p.add 1)=some (e.v)/\K d e
abbrev Gw(f:cD)(xs:Array ab)(w:J)(K:Bool->J->Prop):Prop:=ak aa f xs w λe h=>∃d:Bool,e=ag (.bool d)/\K d h
abbrev qd(f:cD)(xs:Array ab)(w:J)(K:Int->J->Prop):Prop:=ak aa f xs w λe h=>∃d:Int,e=ag (.i d)/\K d h
abbrev T2(V:List Nat)(f:cD)(xs:Array ab)(w:J)(K:Int->J->Prop):Prop:=ee V aa f xs w λe h=>∃d:Int,e=ag (.i d)/\K d h
abbrev xp(f:cD)(xs:Array ab)(w:J)(K:Int->Int->Int->Sl->J->Prop):Prop:=ak aa f xs w λk q=>∃d:Int,∃e:Int,∃h:Int,∃j:Sl,k=ag (.agg #[.i d,.int .u8 e,.int .u8 h,j.v])/\K d e h j q
abbrev rX(V:List Nat)(f:cD)(xs:Array ab)(w:J)(K:Int->Int->Int->Sl->J->Prop):Prop:=ee V aa f xs w λk q=>∃d:Int,∃e:Int,∃h:Int,∃j:Sl,k=ag (.agg #[.i d,.int .u8 e,.int .u8 h,j.v])/\K d e h j q
abbrev TP(f:cD)(xs:Array ab)(w:J)(K:Int->Int->Int->ByteArray->Int->Int->J->Prop):Prop:=ak aa f xs w λx y=>∃d:Int,∃e:Int,∃h:Int,∃j:ByteArray,∃k:Int,∃q:Int,x=ag (.tuple #[.agg #[.int .u8 d,.int .u8 e,.int .u8 h,.string j,.i k],.i q])/\K d e h j k q y
abbrev TQ(f:cD)(xs:Array ab)(w:J)(K:(Option Addr)->J->Prop):Prop:=ak aa f xs w λe h=>∃d:Option Addr,e=ag (.pointer d)/\K d h
abbrev TO(f:cD)(xs:Array ab)(w:J)(K:ab->J->Prop):Prop:=ak aa f xs w λe h=>∃d:ab,e=ag (d)/\K d h
abbrev T3(V:List Nat)(f:cD)(xs:Array ab)(w:J)(K:Int->Int->Int->Sl->Int->J->Prop):Prop:=ee V aa f xs w λq x=>∃d:Int,∃e:Int,∃h:Int,∃j:Sl,∃k:Int,q=ag (.tuple #[.agg #[.i d,.int .u8 e,.int .u8 h,j.v],.i k])/\K d e h j k x
abbrev Gx(f:cD)(xs:Array ab)(w:J)(K:ByteArray->J->Prop):Prop:=ak aa f xs w λe h=>∃d:ByteArray,e=ag (.string d)/\K d h
abbrev A1(V:List Nat)(f:cD)(xs:Array ab)(w:J)(K:ByteArray->J->Prop):Prop:=ee V aa f xs w λe h=>∃d:ByteArray,e=ag (.string d)/\K d h
abbrev Pv(w:J)(p:Addr)(d e h:ab)(K:J->Prop):Prop:=aQ w p d λw=>aQ w (p.add 1) e λw=>aQ w (p.add 2) h λw=>K w
abbrev kJ(w:J)(p:Addr)(d e h j:ab)(K:J->Prop):Prop:=aQ w p d λw=>aQ w (p.add 1) e λw=>aQ w (p.add 2) h λw=>aQ w (p.add 3) j λw=>K w
abbrev Pw(w:J)(p:Addr)(d e h j k:ab)(K:J->Prop):Prop:=aQ w p d λw=>aQ w (p.add 1) e λw=>aQ w (p.add 2) h λw=>aQ w (p.add 3) j λw=>aQ w (p.add 4) k λw=>K w
abbrev Zr(w:J)(p:Addr)(d e h j k q x:ab)(K:J->Prop):Prop:=aQ w p d λw=>aQ w (p.add 1) e λw=>aQ w (p.add 2) h λw=>aQ w (p.add 3) j λw=>aQ w (p.add 4) k λw=>aQ w (p.add 5) q λw=>aQ w (p.add 6) x λw=>K w
abbrev j':Nat:=0
abbrev bR:Nat:=3
abbrev cL:Nat:=5
abbrev fW:Nat:=9
abbrev iq:Nat:=22
abbrev cV:Nat:=23
abbrev np:Nat:=24
abbrev tJ:Nat:=25
abbrev fH:Nat:=27
abbrev Qs:Nat:=29
abbrev EM:Nat:=32
abbrev il:Nat:=34
abbrev zt:Nat:=42
abbrev e2:Nat:=55
abbrev Qu:Nat:=59
abbrev pA:Nat:=64
abbrev aam:Nat:=70
abbrev cg:Nat:=74
abbrev cA:Nat:=76
abbrev q3:Nat:=94
abbrev aak:Nat:=118
abbrev aaj:Nat:=132
abbrev aai:Nat:=133
abbrev tK:Nat:=135
abbrev aah:Nat:=141
abbrev dk:Nat:=142
abbrev aN:Nat:=144
abbrev aag:Nat:=155
abbrev zr:Nat:=156
abbrev zs:Nat:=182
abbrev Qt:Nat:=185
abbrev oj:Nat:=187
abbrev ir:Nat:=189
abbrev aW:Nat:=191
abbrev oi:Nat:=197
abbrev hR:Nat:=206
abbrev aal:Nat:=207
abbrev wF:Nat:=209
abbrev nn:Nat:=214
abbrev jE:Nat:=222
abbrev aaf:Nat:=226
abbrev mn:Nat:=239
abbrev EL:Nat:=246
abbrev EN:Nat:=270
abbrev Cp:Nat:=3
abbrev KK:Nat:=4
abbrev K0:Nat:=5
abbrev KZ:Nat:=6
abbrev Mw:Nat:=7
abbrev JU:Nat:=8
abbrev KJ:Nat:=9
abbrev L9:Nat:=10
abbrev Mz:Nat:=11
abbrev sJ:Nat:=12
abbrev Cq:Nat:=13
abbrev JR:Nat:=14
abbrev KL:Nat:=15
abbrev Cy:Nat:=16
abbrev ye:Nat:=17
abbrev Ld:Nat:=18
abbrev K6:Nat:=19
abbrev K8:Nat:=20
abbrev La:Nat:=21
abbrev LD:Nat:=22
abbrev JY:Nat:=23
abbrev Kq:Nat:=24
abbrev JX:Nat:=25
abbrev KM:Nat:=26
abbrev vD:Nat:=27
abbrev My:Nat:=28
abbrev MB:Nat:=29
abbrev MA:Nat:=30
abbrev Mx:Nat:=31
abbrev Ma:Nat:=32
abbrev MH:Nat:=33
abbrev vE:Nat:=34
abbrev K1:Nat:=35
abbrev KG:Nat:=36
abbrev KD:Nat:=37
abbrev Kn:Nat:=38
abbrev KI:Nat:=39
abbrev KF:Nat:=40
abbrev JM:Nat:=41
abbrev Le:Nat:=42
abbrev L':Nat:=43
abbrev ME:Nat:=44
abbrev vF:Nat:=45
abbrev Lf:Nat:=46
abbrev MC:Nat:=47
abbrev Lc:Nat:=48
abbrev JZ:Nat:=49
abbrev JW:Nat:=50
abbrev MI:Nat:=51
abbrev Mm:Nat:=52
abbrev Me:Nat:=53
abbrev Mc:Nat:=54
abbrev Md:Nat:=55
abbrev K2:Nat:=56
abbrev K3:Nat:=57
abbrev K7:Nat:=58
abbrev K4:Nat:=60
abbrev Ko:Nat:=61
abbrev Ky:Nat:=62
abbrev J5:Nat:=63
abbrev Ks:Nat:=64
abbrev Kt:Nat:=65
abbrev KH:Nat:=66
abbrev Kx:Nat:=67
abbrev Kr:Nat:=68
abbrev JN:Nat:=69
abbrev JO:Nat:=70
abbrev K5:Nat:=71
abbrev MD:Nat:=72
abbrev Mu:Nat:=73
abbrev MG:Nat:=74
abbrev Lb:Nat:=75
abbrev J0:Nat:=76
abbrev Mn:Nat:=77
abbrev CO:Nat:=78
abbrev Ml:Nat:=79
abbrev L3:Nat:=80
abbrev L7:Nat:=81
abbrev nT:Nat:=82
abbrev o0:Nat:=83
abbrev vA:Nat:=84
abbrev Kp:Nat:=85
abbrev Kz:Nat:=86
abbrev KC:Nat:=87
abbrev KA:Nat:=88
abbrev KE:Nat:=89
abbrev J2:Nat:=90
abbrev Kw:Nat:=91
abbrev WV:Nat:=92
abbrev MF:Nat:=93
abbrev Mg:Nat:=94
abbrev Ms:Nat:=95
abbrev Mq:Nat:=96
abbrev Mp:Nat:=97
abbrev Mo:Nat:=98
abbrev Mr:Nat:=99
abbrev KN:Nat:=100
abbrev KR:Nat:=101
abbrev Ct:Nat:=102
abbrev J1:Nat:=103
abbrev Kb:Nat:=104
abbrev Kc:Nat:=105
abbrev KB:Nat:=106
abbrev Ku:Nat:=107
abbrev Km:Nat:=108
abbrev J4:Nat:=109
abbrev J3:Nat:=110
abbrev JV:Nat:=111
abbrev Mj:Nat:=112
abbrev Mv:Nat:=113
abbrev Mt:Nat:=114
abbrev Mh:Nat:=115
abbrev yn:Nat:=116
abbrev Mi:Nat:=117
abbrev Mf:Nat:=118
abbrev Mb:Nat:=119
abbrev Mk:Nat:=120
abbrev CP:Nat:=121
abbrev KO:Nat:=122
abbrev KP:Nat:=123
abbrev Ke:Nat:=124
abbrev J9:Nat:=125
abbrev Cr:Nat:=126
abbrev Kf:Nat:=127
abbrev JS:Nat:=128
abbrev vB:Nat:=129
abbrev J6:Nat:=130
abbrev Cv:Nat:=131
abbrev Kj:Nat:=132
abbrev Cs:Nat:=133
abbrev J7:Nat:=134
abbrev J':Nat:=135
abbrev Lg:Nat:=136
abbrev CB:Nat:=137
abbrev Lh:Nat:=138
abbrev KW:Nat:=139
abbrev KV:Nat:=140
abbrev KU:Nat:=141
abbrev Kg:Nat:=143
abbrev yf:Nat:=144
abbrev Kl:Nat:=145
abbrev vz:Nat:=146
abbrev Ka:Nat:=147
abbrev LB:Nat:=148
abbrev CI:Nat:=149
abbrev yl:Nat:=150
abbrev CE:Nat:=151
abbrev CL:Nat:=152
abbrev Li:Nat:=153
abbrev Lu:Nat:=154
abbrev CF:Nat:=155
abbrev Lq:Nat:=156
abbrev ym:Nat:=157
abbrev WY:Nat:=158
abbrev KY:Nat:=159
abbrev KS:Nat:=160
abbrev J8:Nat:=163
abbrev yh:Nat:=164
abbrev Kk:Nat:=165
abbrev qB:Nat:=166
abbrev CK:Nat:=167
abbrev Lz:Nat:=168
abbrev CH:Nat:=169
abbrev CJ:Nat:=170
abbrev Lt:Nat:=171
abbrev Lr:Nat:=172
abbrev Ls:Nat:=173
abbrev yk:Nat:=174
abbrev Ln:Nat:=175
abbrev Ly:Nat:=176
abbrev CC:Nat:=177
abbrev vC:Nat:=178
abbrev yi:Nat:=179
abbrev yj:Nat:=180
abbrev Lo:Nat:=181
abbrev LI:Nat:=182
abbrev CD:Nat:=183
abbrev qA:Nat:=184
abbrev LL:Nat:=185
abbrev cd:Nat:=186
abbrev LF:Nat:=187
abbrev sL:Nat:=188
abbrev sM:Nat:=189
abbrev Lj:Nat:=190
abbrev Kd:Nat:=193
abbrev yg:Nat:=194
abbrev Ki:Nat:=195
abbrev L8:Nat:=196
abbrev LA:Nat:=197
abbrev Lk:Nat:=198
abbrev CG:Nat:=199
abbrev LJ:Nat:=200
abbrev sK:Nat:=201
abbrev LK:Nat:=202
abbrev WZ:Nat:=203
abbrev CA:Nat:=204
abbrev Co:Nat:=205
abbrev JQ:Nat:=206
abbrev JP:Nat:=207
abbrev LG:Nat:=208
abbrev Ll:Nat:=209
abbrev Cu:Nat:=210
abbrev KX:Nat:=211
abbrev Lw:Nat:=212
abbrev CM:Nat:=213
abbrev LO:Nat:=214
abbrev LM:Nat:=215
abbrev LN:Nat:=216
abbrev LX:Nat:=217
abbrev LU:Nat:=218
abbrev LW:Nat:=219
abbrev LV:Nat:=220
abbrev WX:Nat:=222
abbrev WW:Nat:=223
abbrev Cw:Nat:=224
abbrev Cz:Nat:=225
abbrev LY:Nat:=226
abbrev CN:Nat:=227
abbrev LZ:Nat:=228
abbrev LQ:Nat:=229
abbrev LR:Nat:=230
abbrev LS:Nat:=231
namespace Hl
noncomputable abbrev t0:=aA aa Tryz.f12 [] []
noncomputable abbrev S0:=ax t0 [2] [(0,.v [.I]),(1,.v [.I])]
noncomputable abbrev t1:=az S0
def ok:=aB t1 sJ [.I,.I]
end Hl
namespace uT
noncomputable abbrev t0:=aA aa Tryz.f128 [] []
noncomputable def L0:=bj t0 [0,1,1,1,1] [(0,.v [.s]),(1,.v [.I]),(5,.v [.I])]
noncomputable abbrev t1:=bh L0
def bE:=bm t1 L0
def ok:=aB t1 JS [.s,.I]
end uT
namespace sa
noncomputable abbrev t0:=aA aa Tryz.f111 [(6,ls [0,1,2,3,4,5,6,7,8])] []
noncomputable def L0:=bj t0 [0,1,1,1,2] [(0,.v [.s]),(1,.v [.s]),(5,.v [.I])]
noncomputable abbrev t1:=bh L0
def bE:=bm t1 L0
def ok:=aB t1 JV [.s,.s]
end sa
namespace uU
noncomputable abbrev t0:=aA aa Tryz.f8 [(6,ls [0,1,2,3,4,5,6,7,8])] []
noncomputable def L0:=bj t0 [0,1,1,1,2] [(0,.v [.s]),(1,.v [.s]),(5,.v [.I])]
noncomputable abbrev t1:=bh L0
def bE:=bm t1 L0
def ok:=aB t1 JU [.s,.s]
end uU
open Go Go.W Go.RowKit Go.Lib
def kq:gU aa cV cL (.int .u8 0) 1 1:=⟨by kernel_rfl,by kernel_rfl,rfl,by decide,by decide⟩
def h4:gU aa iq bR (.int .i64 0) 1 8:=⟨by kernel_rfl,by kernel_rfl,rfl,by decide,by decide⟩
abbrev Bytes(w:J)(s:Sl)(V:List UInt8):Prop:=Rd w s (V.map bC)
abbrev eU(w:J)(s:Sl)(V:List UInt8):Prop:=Ow w cL s (V.map bC)
abbrev bp(w:J)(s:Sl)(l:List Int):Prop:=Rd w s (l.map a')
abbrev wX(w:J)(s:Sl)(l:List Int):Prop:=Ow w bR s (l.map a')
def Bytes.len{w:J}{s:Sl}{V:List UInt8}(h:Bytes w s V):s.n=V.length:=by simpa using h.1
def bp.len{w:J}{s:Sl}{V:List Int}(h:bp w s V):s.n=V.length:=by simpa using h.1
def Bytes.cell{w:J}{s:Sl}{V:List UInt8}(h:Bytes w s V){i j:Nat}{b:UInt8}(U:V[i]? =some b)(d:j=i *1){K:Addr->Prop}(e:∀p,s.a=some p->w.cell? (p.add j)=some (.int .u8 (b.toNat:Int))->K p):W.dM s.a K:=
 Rd.get h (i:=i) (v:=bC b) (by simp[U]) d e
def bp.cell{w:J}{s:Sl}{l:List Int}(h:bp w s l){i j:Nat}{b:Int}(U:l[i]? =some b)(d:j=i *1){K:Addr->Prop}(e:∀p,s.a=some p->w.cell? (p.add j)=some (.int .i64 b)->K p):W.dM s.a K:=
 Rd.get h (i:=i) (v:=a' b) (by simp[U]) d e
def Bytes.sub{w:J}{s:Sl}{V:List UInt8}(h:Bytes w s V)(l U:Nat)(e:l<=U)(d:U<=V.length):Bytes w (sub s l U) ((V.take U).drop l):=by
 have:=Rd.sub h l U e (by simpa using d)
 rwa[<-List.map_take,<-List.map_drop]at this
def uw{ty:aC}{w:J}{s src:Sl}{xs h:List UInt8}(B:eU w s xs)(C:Bytes w src h)(A:xs.length+h.length<=140737488355328):
  ∃d e,(dW #[cV,cV] ty #[s.v,src.v]).run aa w=.ok d.v e/\eU e d (xs++h)/\Fr (λb=>b∈aw s) w e/\(∀b∈aw d,b∈aw s\/w.heap.size<=b)/\(d.a=none->s.a=none/\h=[]):=by obtain⟨d,e,q,x,y,z,j⟩:=FH (ty:=ty) kq B C (xi _) (by simpa using A);exact⟨d,e,q,by unfold eU;rw[List.map_append];exact x,y,z,λk=>⟨(j k).1,by simpa using(j k).2⟩⟩
def RW{ty:aC}{w:J}{s src:Sl}{xs h:List Int}(A:wX w s xs)(B:bp w src h)(C:xs.length+h.length<=10000000000000):
  ∃d e,(dW #[iq,iq] ty #[s.v,src.v]).run aa w=.ok d.v e/\wX e d (xs++h)/\Fr (λb=>b∈aw s) w e/\(∀b∈aw d,b∈aw s\/w.heap.size<=b)/\(d.a=none->s.a=none/\h=[]):=by obtain⟨d,e,q,x,y,z,j⟩:=FH (ty:=ty) h4 A B (qu _) (by simp;omega);exact⟨d,e,q,by unfold wX;rw[List.map_append];exact x,y,z,λk=>⟨(j k).1,by simpa using(j k).2⟩⟩
def M7(w:J)(T:aC)(cs:List ab)(h:cs.length<=1000000):Rd (w.alloc (.cells cs.toArray T)) ⟨some ⟨w.heap.size,0,none⟩,cs.length,cs.length⟩ cs:=(Ow.made w T cs _ rfl h).rd
def C'(w:J)(b:UInt8):Bytes (w.alloc (.cells #[.int .u8 (b.toNat:Int)] cL)) ⟨some ⟨w.heap.size,0,none⟩,1,1⟩ [b]:=M7 w cL [bC b] (by simp)
def one_num(w:J)(b:Int):bp (w.alloc (.cells #[.int .i64 b] bR)) ⟨some ⟨w.heap.size,0,none⟩,1,1⟩ [b]:=M7 w bR [a' b] (by simp)
def bl(s:ByteArray):List UInt8:=s.data.toList
def ba(l:List UInt8):ByteArray:=⟨l.toArray⟩
def mG(l:List UInt8):bl (ba l)=l:=rfl
def lX(s:ByteArray):ba (bl s)=s:=rfl
def dP(s:ByteArray):(bl s).length=s.size:=rfl
def cS(l:List UInt8):(ba l).size=l.length:=by simp[ba,ByteArray.size]
def ZK(s:ByteArray):strCells s=(bl s).map bC:=by simp[strCells,bl,bC]
def tB:Tryz.prog.underlying fW=some .string:=by kernel_rfl
def EP:Tryz.prog.underlying cL=some (.int .u8):=by kernel_rfl
def FI{ty:aC}{w:J}{s:Sl}{xs:List UInt8}(z:eU w s xs)(t:ByteArray)(hb:xs.length+t.size<=140737488355328):
  ∃d h,(dW #[cV,fW] ty #[s.v,.string t]).run aa w=.ok d.v h/\eU h d (xs++bl t)/\Fr (λb=>b∈aw s) w h/\(∀b∈aw d,b∈aw s\/w.heap.size<=b):=by
 obtain⟨i,B,N,E,H⟩:=info_parts kq.U;have K:s.n=xs.length:=by simpa using z.1
 have main:∀base,base<=w.heap.size->w.ownsRow base cL 1 s.v s.n (xs.map bC)->∃y h,(dW #[cV,fW] ty #[s.v,.string t]).run aa w=.ok y h/\h.ownsRow base cL 1 y (s.n+t.size) (xs.map bC++strCells t)/\w.grownBy h s.v.ownBlock/\(y=.slice none 0 0↔s.v=.slice none 0 0/\t.size=0):=
  λbase V T=>run_append_own_string (P:=aa) w base cV fW ty cL i kq.ht tB B N E H s.v s.n (xs.map bC) T t (by unfold maxLen;omega) (by omega) V
 obtain⟨y,h,A,M,ac,al⟩:=main 0 (dn _) z.2;have hv:∃d:Sl,y=d.v/\d.n=s.n+t.size:=by
  rcases M.2 with⟨j,x⟩|⟨g,cap,cur,j,_⟩
  .exact ⟨⟨none,0,0⟩,j,by show 0=_;omega⟩
  .exact ⟨⟨_,_,_⟩,j,rfl⟩
 obtain⟨d,rfl,L⟩:=hv;have Y:Fr (λb=>b∈aw s) w h:=by
  refine Fr.grown ac λg e=>?_;rw[Nh]at e;cases D:s.a with
  |none=>simp[D]at e
  |some p=>simp[D]at e;simp[aw,D,e]
 refine⟨d,h,A,⟨?_,?_⟩,Y,?_⟩
 .rw [L,K];simp[dP]
 .have x:=M;rw[ZK,<-List.map_append]at x;unfold aK;rw[L];exact x
 .intro g e;rcases z.2.cases with⟨rfl,hx⟩|⟨q,cur,I,Z,ad,ak,W,ah⟩
  .obtain ⟨v2,w2,ag,ae,_,_⟩:=main w.heap.size (Nat.le_refl _) (by rw[hx];exact World.ownsRow_nil w _ _ _);have k:(Result.ok d.v h:Result ab)=.ok v2 w2:=A.symm.trans ag;have Q:=(Result.ok.inj k).1;subst Q;rcases ae.2 with⟨j,_⟩|⟨S,ai,aj,j,x,_⟩
   .have:d.a=none:=(Value.slice.inj j).1;simp[aw,this]at e
   .have:d.a=some ⟨S,0,none⟩:=(Value.slice.inj j).1;simp[aw,this]at e;exact .inr (e▸x)
  .obtain ⟨am,G,F⟩:=s;simp only at I ad W ah K;subst I;by_cases af:G+t.size<=F
   .have C:=run_append_room_string (P:=aa) w cV fW ty cL i kq.ht tB B E q G F cur Z t af (by omega);have k:=A.symm.trans C;have:d.a=some ⟨q,0,none⟩:=(Value.slice.inj (Result.ok.inj k).1).1;simp[aw,this]at e ⊢;exact .inl e
   .have holds:∀O u,(xs.map bC)[O]? =some u->w.cell? ((⟨q,0,none⟩:Addr).add O)=some u:=World.ownsRow.cells (g:=q) z.2 rfl;have C:=run_append_grow_string (P:=aa) w cV fW ty cL i (.int .u8 0) kq.ht tB B N ⟨q,0,none⟩ G F (xs.map bC) (by rw[E];simp;omega) holds t (by omega) (by omega) (growslice_fits (by omega) (by rw[H];omega));have k:=A.symm.trans C;have:d.a=some ⟨w.heap.size,0,none⟩:=(Value.slice.inj (Result.ok.inj k).1).1;simp[aw,this]at e;exact .inr (by omega)
def lZ{w:J}{s:Sl}{V:List UInt8}(h:Bytes w s V):(Go.convert cV fW s.v).run aa w=.ok (.string (ba V)) w:=by
 obtain⟨a,n,c⟩:=s;have e:=Bytes.len h;simp only at e;subst e;cases a with
 |none=>
  obtain⟨d,k⟩:=h.2.2.1 rfl;simp only at d k;obtain rfl:V=[]:=qN d;rw[run_convert_bytes_string (P:=aa) w cV fW cL _ _ _ kq.ht EP tB];rfl
 |some p=>
  refine run_convert_bytes_back (P:=aa) w cV fW cL p c V kq.ht EP tB λj x=>?_;obtain⟨z,y,q⟩:=h.2.2.2 j (bC V[j]) (by simp[a6 x]);cases y;exact q
def Ev(w:J)(t:ByteArray):∃e d,(Go.convert fW cV (.string t)).run aa w=.ok e.v d/\Bytes d e (bl t)/\ah w d/\(∀b∈aw e,w.heap.size<=b/\b<d.heap.size):=by
 refine⟨⟨some ⟨w.heap.size,0,none⟩,t.size,grownCap w t.size 0 cL⟩,_,run_bytes_of_string (P:=aa) w fW cV cL t tB kq.ht EP,⟨?_,?_,?_⟩,?_,?_⟩
 .simp [dP]
 .exact grownCap_ge w t.size 0 _
 .refine Row.r1 (T:=cL) (.inr ⟨w.heap.size,0,_,_,rfl,jV w.drew _,λi v h=>?_⟩);rw[Nat.zero_add,bytesRow,Array.getElem?_append];have k:i<t.data.size:=by have:=(bO.1 h).1;simpa[bl]using this
  rw[aj (by simpa using k)];simpa[bl,bC]using h
 .exact (Fr.drew _ w).dD (Fr.alloc _ _ _)
 .intro b j;simp[aw]at j;have:(w.drew.alloc (.cells (bytesRow t (grownCap w t.size 0 cL)) cL ((bytesRow t (grownCap w t.size 0 cL)).size,(bytesRow t (grownCap w t.size 0 cL)).size+1))).heap.size=w.heap.size+1:=size_alloc _ _;omega
def JA{t e:aC}{z:ab}{bytes:Nat}(h:gU aa t e z 1 bytes)(w:J)(k j:hr)(n:Nat)(F:n *bytes<=140737488355328):
  ∃d,(Instr.makeSlice t (.int k 0) (.int j (n:Int))).run aa w=.ok (.slice (some ⟨w.heap.size,0,none⟩) 0 n) d/\Ow d e ⟨some ⟨w.heap.size,0,none⟩,0,n⟩ []/\ah w d:=by
 obtain⟨i,C,E,D,B⟩:=info_parts h.U;have G:n<=140737488355328:=by have:=Nat.le_mul_of_pos_right n h.hb;omega
 obtain⟨d,x,y,A⟩:=run_make_own (P:=aa) w 0 t e i z 1 h.ht C E D k j n (by rw[B,Nat.mul_comm];omega) (by unfold maxLen;omega) (dn _);exact⟨d,x,⟨rfl,y⟩,Fr.grown A λ_ q=>by cases q⟩
def vT{w:J}{s:Sl}{vs:List ab}(k:s.n=vs.length)(j:s.n<=s.c)(d:s.a=none->s.c=0)(h:∀i v,vs[i]? =some v->∃p,s.a=some p/\w.cell? (p.add i)=some v):Rd w s vs:=
 ⟨k,j,λe=>⟨by have:=d e;omega,d e⟩,h⟩
def ArgNums(w:J)(s:Sl):Prop:=∃l:List Int,bp w s l/\l.length<=9223372036854775807/\∀d∈l,-9223372036854775808<=d/\d<=9223372036854775807
def ArgBytes(w:J)(s:Sl):Prop:=∃l:List UInt8,Bytes w s l/\l.length<=9223372036854775807
def arg_nums_nil(w:J):ArgNums w ⟨none,0,0⟩:=⟨[],Rd.nil w,by simp,by simp⟩
def arg_bytes_nil(w:J):ArgBytes w ⟨none,0,0⟩:=⟨[],Rd.nil w,by simp⟩
def arg_nums(w:J)(x:Addr)(len cap:Nat)(d:List Int)(B:len<=d.length)(q:len<=cap)(A:cap<=maxLen)(k:∀i,i<d.length->w.cell? (x.add i)=some (.int .i64 (d.getD i 0)))(z:∀n∈d,IntKind.min .i64<=n/\n<=IntKind.max .i64):ArgNums w ⟨some x,len,cap⟩:=by
 refine⟨d.take len,vT (by simp;omega) q (λj=>by cases j) (λi v e=>?_),?_,λn y=>z n (List.mem_of_mem_take y)⟩
 .rw [iM,jw]at e;split at e
  .have h:i<d.length:=by omega
   refine⟨x,rfl,?_⟩;rw[k i h,List.getD_eq_getElem?_getD];rw[a6 h]at e ⊢;simpa[a']using e
  .simp at e
 .have:len<=maxLen:=by omega
  unfold maxLen at this;simp;omega
def arg_bytes(w:J)(x:Addr)(len cap:Nat)(d:List Int)(C:len<=d.length)(q:len<=cap)(B:cap<=maxLen)(k:∀i,i<d.length->w.cell? (x.add i)=some (.int .u8 (d.getD i 0)))(y:∀n∈d,IntKind.min .u8<=n/\n<=IntKind.max .u8):ArgBytes w ⟨some x,len,cap⟩:=by
 refine⟨(d.take len).map (λn=>cI n.toNat),vT (by simp;omega) q (λh=>by cases h) (λi v e=>?_),?_⟩
 .rw [iM,iM,jw]at e;split at e
  .have j:i<d.length:=by omega
   refine⟨x,rfl,?_⟩;rw[k i j,List.getD_eq_getElem?_getD];rw[a6 j]at e ⊢;have h:=y d[i] (List.getElem_mem j);have z:0<=d[i]:=h.1;have A:d[i]<=255:=h.2;simp only[Option.map_some,Option.some.injEq]at e;rw[<-e];simp[bC];omega
  .simp at e
 .have:len<=maxLen:=by omega
  unfold maxLen at this;simp;omega
def iv(w:J)(V:List UInt8):aH:=λr d=>∃s:Sl,r=ag s.v/\eU d s V/\ah w d/\∀b∈aw s,w.heap.size<=b
def gy(n m:Int):Int:=if n<0 then Int.tmod (0 - (n+1)) m else Int.tmod n m
def iT(n m:Int)(d:1<=m):0<=gy n m/\gy n m<m:=by
 unfold gy;split
 .exact ⟨Int.tmod_nonneg _ (by omega),Int.tmod_lt_of_pos _ (by omega)⟩
 .exact ⟨Int.tmod_nonneg _ (by omega),Int.tmod_lt_of_pos _ (by omega)⟩
abbrev a5(n:Int):Prop:=-9223372036854775808<=n/\n<=9223372036854775807
def Aw(n m:Int)(w:J)(q:1<=m)(h:a5 n):
  ak aa sJ #[.int .i64 n,.int .i64 m] w λr e=>r=ag (.int .i64 (gy n m))/\w=e:=by
 obtain⟨j,k⟩:=h;refine Hl.ok n m w _ ?_;refine bD (λh=>?_) (λh=>?_)
 .have d:n<0:=by simpa using h
  refine⟨by omega,?_,rfl⟩;rw[show ao .i64 (n+1)=n+1 from aS _ (by omega),show ao .i64 (0 - (n+1))=0 - (n+1)from aS _ (by omega)];unfold gy;rw[aj d]
 .have d:¬n<0:=by simpa using h
  refine⟨by omega,?_,rfl⟩;unfold gy;rw[af d]
def YY{w:J}{s t:Sl}{a b:List Int}(z:bp w s a)(A:bp w t b)(H:a.length<=1000000000000):
  ak aa JV #[s.v,t.v] w λr e=>r=ag (.bool (aq (a=b)))/\ah w e:=by
 have j:=bp.len z;have y:=bp.len A;refine sa.ok s t w _ ?_;refine bD (λd=>?_) (λd=>?_)
 .refine ⟨?_,Fr.refl _ _⟩;have:a≠b:=λh=>by subst h;rw[j,y]at d;simp at d
  simp[this]
 .have hlen:a.length=b.length:=by rw[j,y]at d;simp at d;omega
  have main:∀(n i:Nat),i+n=a.length->a.take i=b.take i->∀e,ah w e->sa.L0 s t (i:Int) e λr e=>r=ag (.bool (aq (a=b)))/\ah w e:=by
   intro n;induction n with
   |zero=>
    intro i D q e x;refine sa.bE _ _ _ _ _ ?_;refine a1 (by rw[j];simp;omega) ⟨?_,x⟩;rw[List.take_of_length_le (by omega),List.take_of_length_le (by omega)]at q;simp[q]
   |succ n G=>
    intro i D q e x;have B:a[i]? =some a[i]:=a6 (by omega);have C:b[i]? =some b[i]:=a6 (by omega);refine sa.bE _ _ _ _ _ ?_;have k:ah w e.drew:=x.dD (Fr.drew _ _);refine a3 (by rw[j];simp;omega) ⟨by omega,by rw[j];omega,bp.cell (z.bw k) B (by simp) λp _ E=>⟨_,E,by omega,by rw[y];omega,bp.cell (A.bw k) C (by simp) λI _ F=>⟨_,F,bD (λd=>?_) (λd=>?_)⟩⟩⟩
    .refine ⟨?_,k⟩;have:a≠b:=λh=>by subst h;simp at d
     simp[this]
    .show sa.L0 s t (ao .i64 ((i:Int)+1)) _ _;rw[show ao .i64 ((i:Int)+1)=((i+1:Nat):Int)from by rw[aS _ (by omega)];omega];refine G (i+1) (by omega) ?_ _ k;have h:a[i]=b[i]:=by simpa using d
     rw[ej,ej,B,C,q,h]
  exact main a.length 0 (by omega) (by simp) w (Fr.refl _ _)
def dU(n:Nat):List UInt8:=if n<128 then[cI n]else cI (n%128+128)::dU (n / 128)
termination_by n
decreasing_by omega
def k6{n:Nat}(h:n<128):dU n=[cI n]:=by rw[dU,aj h]
def l2{n:Nat}(h:¬n<128):dU n=cI (n%128+128)::dU (n / 128):=by rw[dU,af h]
def UC(n:Nat):dU n≠[]:=by
 by_cases d:n<128
 .rw [k6 d];simp
 .rw [l2 d];simp
def Hi:∀(d n:Nat),n<2 *128^d->(dU n).length<=d+1
 |0,n,e=>by rw[k6 (by omega)];simp
 |d+1,n,e=>by
  by_cases h:n<128
  .rw [k6 h];simp
  .rw [l2 h];have:=Hi d (n / 128) (by rw[Nat.pow_succ]at e;omega);simp;omega
inductive RU where
 |more
 |form
 |ok (n:Nat) (rest:List UInt8)
def iC(k:Nat)(c:UInt8):Bool:=(k==9&&aq (1<c.toNat))||(aq (0<k)&&c.toNat==0)
def iF:Nat->List UInt8->RU
 |_,[]=>.more
 |d,c::l=>if iC d c then .form else if c.toNat<128 then .ok c.toNat l else
  match iF (d+1) l with
  |.ok n r=>.ok (c.toNat%128+128 *n) r
  |.more=>.more
  |.form=>.form
def G8:∀(d k n:Nat) (r:List UInt8),k+d=9->n<2 *128^d->(0<k->0<n)->iF k (dU n++r)=.ok n r
 |d,k,n,r,A,q,y=>by
  by_cases h:n<128
  .rw [k6 h];have j:iC k (cI n)=false:=by
    have e:(cI n).toNat=n:=by simp;omega
    unfold iC;rw[e];simp;refine⟨λw=>?_,λx=>by have:=y x;omega⟩;subst w;have:d=0:=by omega
    subst this;simp at q;omega
   have e:(cI n).toNat=n:=by simp;omega
   simp[iF,j,e,h]
  .rw [l2 h];have e:(cI (n%128+128)).toNat=n%128+128:=by simp;omega
   match d with
   |0=>simp at q;omega
   |d+1=>
    have j:iC k (cI (n%128+128))=false:=by unfold iC;rw[e];simp;omega
    have z:=G8 d (k+1) (n / 128) r (by omega) (by rw[Nat.pow_succ]at q;omega) (by omega);simp only[List.cons_append,iF,j,e,z];rw[af (by simp),af (by omega)];congr 1;omega
def xx:∀(d k:Nat) (V:List UInt8) (n:Nat) (r:List UInt8),k+d=9->iF k V=.ok n r->V=dU n++r/\n<2 *128^d/\(0<k->0<n)
 |_,_,[],_,_,_,e=>by simp[iF]at e
 |d,k,c::l,n,r,K,e=>by
  have I:=c.toNat_lt;simp only[iF]at e;cases x:iC k c with
  |true=>rw[x]at e;simp at e
  |false=>
   rw[x]at e;simp at e;have h:=x;unfold iC at h;simp at h;by_cases q:c.toNat<128
   .rw [aj q]at e;injection e with y w
    subst y w;refine⟨by rw[k6 q];simp,?_,λE=>by have:=h.2 E;omega⟩
    match d with
    |0=>have:=h.1 (by omega);simp;omega
    |d+1=>rw[Nat.pow_succ];have:=Nat.pow_pos (n:=d) (show 0<128 by omega);omega
   .rw [af q]at e
    match d with
    |0=>have:=h.1 (by omega);omega
    |d+1=>
     cases j:iF (k+1) l with
     |more=>rw[j]at e;cases e
     |form=>rw[j]at e;cases e
     |ok z F=>
      rw[j]at e;injection e with y w
      obtain⟨A,G,B⟩:=xx d (k+1) l z F (by omega) j;have H:=B (by omega);subst w;refine⟨?_,by rw[Nat.pow_succ];omega,λ_=>by omega⟩;rw[l2 (by omega)];have C:n%128+128=c.toNat:=by omega
      have D:n / 128=z:=by omega
      rw[C,D,A];simp
structure RS where
 V:List UInt8
 err:Int
def eS(s:RS):Nat×RS:=
 if s.err≠0 then(0,s)else
 match iF 0 s.V with
 |.more=>(0,⟨s.V,3⟩)
 |.form=>(0,⟨s.V,2⟩)
 |.ok n r=>(n,⟨r,0⟩)
def zz(n:Int):Nat:=if 0<=n then(2 *n).toNat else(-(2 *n) - 1).toNat
def nq(u:Nat):Int:=if u%2=0 then(u / 2:Nat)else -((u / 2:Nat):Int) - 1
def aao(n:Int):nq (zz n)=n:=by unfold nq zz;split<;>split<;>omega
def aaK(u:Nat):zz (nq u)=u:=by unfold nq zz;split<;>split<;>omega
def zM(n:Int)(d:-9223372036854775808<=n)(e:n<=9223372036854775807):zz n<18446744073709551616:=by unfold zz;split<;>omega
def Qy(u:Nat)(h:u<18446744073709551616):-9223372036854775808<=nq u/\nq u<=9223372036854775807:=by unfold nq;split<;>omega
def be(s:RS):Int×RS:=(nq (eS s).1,(eS s).2)
def hO(s:RS):Nat×RS:=
 let (n,s'):=eS s
 if s'.err≠0 then(0,s')else if s'.V.length<n then(0,⟨s'.V,3⟩)else(n,s')
def dc(s:RS):List UInt8×RS:=
 let (n,s'):=hO s
 if s'.err≠0 then([],s')else(s'.V.take n,⟨s'.V.drop n,0⟩)
def eQ:Nat->RS->List Int×RS
 |0,s=>([],s)
 |n+1,s=>
  let (x,s'):=be s
  if s'.err≠0 then([],s')else
  let (l,D8):=eQ n s'
  if D8.err≠0 then([],D8)else(x::l,D8)
def cK(s:RS):List Int×RS:=
 let (n,s'):=hO s
 if s'.err≠0 then([],s')else eQ n s'
def j6(s:RS):Int:=if s.err≠0 then s.err else if 0<s.V.length then 2 else 0
def bL(n:Int):List UInt8:=dU (zz n)
def dJ(b:List UInt8):List UInt8:=dU b.length++b
def cG(l:List Int):List UInt8:=dU l.length++l.flatMap bL
def eI(n:Nat)(h:n<18446744073709551616):(dU n).length<=10:=Hi 9 n (by simpa using h)
def dh(n:Int)(h:a5 n):(bL n).length<=10:=eI _ (zM n h.1 h.2)
namespace zy
noncomputable abbrev t0:=aA aa Tryz.f113 [] [1]
abbrev P0:Ps:=[]
noncomputable abbrev bT:=ax t0 [0,1,1,1,3] P0
noncomputable abbrev t1:=az bT
noncomputable abbrev bU:=ax t1 [0,1,1,1,4] P0
noncomputable abbrev t2:=az bU
noncomputable abbrev cJ:=ax t2 [5] P0
noncomputable abbrev t3:=az cJ
noncomputable abbrev bq:=ax t3 [3] [(1,.l [.I,.I,.I] cg),(3,.v [.I]),(4,.v [.I]),(5,.v [.b])]
noncomputable abbrev t4:=az bq
def aD:=aB t4 Mv [.a 3,.I,.I,.I]
end zy
namespace nl
noncomputable abbrev t0:=aA aa Tryz.f112 [] []
abbrev P0:Ps:=[]
noncomputable abbrev S0:=ax t0 [0,1,1,1,1] P0
noncomputable abbrev t1:=az S0
abbrev P1:Ps:=[(0,.v [.st]),(3,.v [.I])]
noncomputable def L1:=bj t1 [0,1,1,1,2] P1
noncomputable abbrev t2:=bh L1
noncomputable abbrev S4:=ax t2 [0,1,3,2,1,2,1,1,2] P0
noncomputable abbrev t3:=az S4
noncomputable abbrev S5:=ax t3 [2,2,1,1,2] P1
noncomputable abbrev t4:=az S5
noncomputable abbrev S3:=ax t4 [2,2,1,2,1,1,2] [(0,.v [.st]),(3,.v [.I]),(4,.v [.Y]),(5,.v [.b])]
noncomputable abbrev t5:=az S3
noncomputable abbrev S2:=ax t5 [1,2,1,2,1,1,2] [(0,.v [.st]),(3,.v [.I]),(4,.v [.Y])]
noncomputable abbrev t6:=az S2
def fJ:=bm t6 L1
def ok:=aB t6 Mj [.st]
end nl
namespace wx
noncomputable abbrev t0:=aA aa Tryz.f94 [] []
noncomputable abbrev S1:=ax t0 [3] [(0,.v [.r]),(3,.v [.b]),(4,.v [.b]),(5,.v [.b]),(6,.v [.b])]
noncomputable abbrev t1:=az S1
noncomputable abbrev S0:=ax t1 [0,1,1,1,1,1,2] [(0,.v [.r]),(3,.v [.b]),(4,.v [.b]),(5,.v [.b])]
noncomputable abbrev t2:=az S0
noncomputable abbrev S3:=ax t2 [0,1,7,1,1,1,2] [(0,.v [.r]),(4,.v [.b]),(5,.v [.b]),(6,.v [.b])]
noncomputable abbrev t3:=az S3
noncomputable abbrev S2:=ax t3 [2,1,1,1,2] [(0,.v [.r]),(3,.v [.b]),(4,.v [.b]),(5,.v [.b]),(6,.v [.b]),(10,.v [.I])]
noncomputable abbrev t4:=az S2
def ok:=aB t4 Mg [.r]
end wx
namespace P'
noncomputable abbrev t0:=aA aa Tryz.f118 [] [2]
def aD:=aB t0 Mf [.I]
end P'
namespace Qh
noncomputable abbrev t0:=aA aa Tryz.f114 [] [2]
def aD:=aB t0 Mt [.I]
end Qh
namespace Qb
noncomputable abbrev t0:=aA aa Tryz.f117 [] [1]
def aD:=aB t0 Mi [.a 3,.I,.I,.I]
end Qb
namespace Qd
noncomputable abbrev t0:=aA aa Tryz.f120 [] [1]
def aD:=aB t0 Mk [.a 3,.I,.I,.I]
end Qd
namespace Qa
noncomputable abbrev t0:=aA aa Tryz.f115 [] [1]
def aD:=aB t0 Mh [.a 3,.I,.I,.I]
end Qa
namespace P6
noncomputable abbrev t0:=aA aa Tryz.f119 [] [2,3]
def aD:=aB t0 Mb [.a 3,.I,.I,.I,.a 3,.I,.I,.I]
end P6
namespace Qf
noncomputable abbrev t0:=aA aa Tryz.f116 [] [3,6]
def aD:=aB t0 yn [.a 3,.I,.I,.I,.b,.b]
end Qf
namespace EE
noncomputable abbrev t0:=aA aa Tryz.f95 [(7,ls [0,1,2,3,4,5,6,7,8])] []
noncomputable abbrev S0:=ax t0 [4] [(0,.v [.r]),(4,.v [.r])]
noncomputable abbrev t1:=az S0
def ok:=aB t1 Ms [.r,.f]
end EE
namespace ED
noncomputable abbrev t0:=aA aa Tryz.f96 [(14,ls [0,1,2,3,4,5,6,7,8,9,10,11,12,13,14,15,16,17,18])] [2]
noncomputable abbrev bq:=ax t0 [6] [(0,.v [.r]),(2,.l [.I,.I,.I] cg)]
noncomputable abbrev t1:=az bq
def aD:=aB t1 Mq [.r]
end ED
namespace EC
noncomputable abbrev t0:=aA aa Tryz.f97 [(4,ls [0,1,2,3,4,5,6,7]),(7,ls [1,0,2,3,4,5,6,7,8,9,10,11,12]),(9,ls [1,2,0,3,4,5,6,7,8]),(14,ls [0,1,2,3,4,5,6,7,8,9,10,11,12,13]),(16,ls [0,1,2,3,4,6,12,13,14,15,16,17,5,7,8,9,10,11,18,19,20,21,22]),(18,ls [0,1,2,3,4,5,6,7,8,9,11,13,14,15,16,17,10,12,18,19,20,21,22,23,24,25,26,27,28,29,30,31,32,33,34,35,36,37,38,39,40,41,42]),(21,ls [0,1,2,3,4,5,6,8,10,11,12,13,14,7,9,15,16,17,18,19,20,21,22,23,24,25,26,27,28,29]),(22,ls [0,1,2,3,4,5,6,7,8,9,10,11,12])] [5,6,7,8,10]
noncomputable abbrev bq:=ax t0 [0,1,1,1,1,1,1] [(5,.l [.I,.I,.I] cg),(8,.l [.I,.I,.I] cg)]
noncomputable abbrev t1:=az bq
abbrev P0:Ps:=[(5,.l [.I,.I,.I] cg),(6,.l [.I,.I,.I] cg),(8,.l [.I,.I,.I] cg)]
noncomputable abbrev bU:=ax t1 [0,1,3,1,1,1,1] P0
noncomputable abbrev t2:=az bU
noncomputable abbrev gI:=ax t2 [2,1,7,1,1,1,1] [(5,.l [.I,.I,.I] cg),(6,.l [.I,.I,.I] cg),(7,.l [.I,.I,.I] cg),(8,.l [.I,.I,.I] cg),(10,.l [.I,.I,.I] cg)]
noncomputable abbrev t3:=az gI
noncomputable abbrev jM:=ax t3 [0,1,13,1,1,1,1] [(0,.v [.r]),(5,.l [.I,.I,.I] cg),(8,.l [.I,.I,.I] cg)]
noncomputable abbrev t4:=az jM
noncomputable abbrev hC:=ax t4 [2] P0
noncomputable abbrev t5:=az hC
abbrev P1:Ps:=[(0,.v [.r]),(5,.l [.I,.I,.I] cg),(6,.l [.I,.I,.I] cg),(7,.l [.I,.I,.I] cg),(8,.l [.I,.I,.I] cg),(14,.v [.I])]
noncomputable abbrev cJ:=ax t5 [4,1,1,1,1] P1
noncomputable abbrev t6:=az cJ
noncomputable abbrev bT:=ax t6 [2,1,1,1,1] P1
noncomputable abbrev t7:=az bT
def aD:=aB t7 Mp [.r,.a 3,.I,.I,.I,.a 3,.I,.I,.I,.a 3,.I,.I,.I]
end EC
namespace zm
noncomputable abbrev t0:=aA aa Tryz.f98 [(2,ls [0,1,3,2,4,5,6,7,8,9,10,11,12,13,14]),(6,ls [0,1,2,3,4,5,6,7,8,9]),(10,ls [0,1,2,3,4,5,6,7,8,9,10,11,12,13,14,15,16,17]),(11,ls [0,1,2,3,4,5,6,7,8,9,10,11])] [5,6,7,8,10]
noncomputable abbrev bT:=ax t0 [5] [(0,.v [.r]),(5,.l [.I,.I,.I] cg),(7,.l [.I,.I,.I] cg),(8,.l [.I,.I,.I] cg),(10,.l [.I,.I,.I] cg),(11,.v [.b])]
noncomputable abbrev t1:=az bT
noncomputable abbrev bq:=ax t1 [4] [(0,.v [.r]),(5,.l [.I,.I,.I] cg),(6,.l [.I,.I,.I] cg),(7,.l [.I,.I,.I] cg),(8,.l [.I,.I,.I] cg),(10,.l [.I,.I,.I] cg)]
noncomputable abbrev t2:=az bq
def aD:=aB t2 Mo [.r,.a 3,.I,.I,.I,.a 3,.I,.I,.I,.a 3,.I,.I,.I]
end zm
namespace Qg
noncomputable abbrev t0:=aA aa Tryz.f99 [(3,ls [1,0,2,3,4,5,6,7]),(5,ls [1,3,4,5,6,7,0,2,8,9,10,11,12,13,14,15,16,17,18,19]),(7,ls [0,1,2,3,4,6,12,13,14,15,16,17,5,7,8,9,10,11,18,19,20,21,22]),(9,ls [0,1,2,3,4,5,6,7,8,9,10,11,12,13,14,15,16,17]),(11,ls [1,0,2,3,4,5,6,7,8,9,10,11]),(13,ls [0,1,2,3,4,6,16,17,18,19,20,21,5,7,8,9,10,11,12,13,14,15,22,23,24,25,26]),(15,ls [1,0,2,3,4,5,6,7,8])] [5,6,7,8]
def aD:=aB t0 Mr [.r,.a 3,.I,.I,.I,.a 3,.I,.I,.I,.a 3,.I,.I,.I]
end Qg
namespace px
noncomputable abbrev t0:=aA aa Tryz.f77 [(1,ls [0,1,2,3,4,5,6,7,8,9,10,11,12,13,14,15,16,17])] [6,11]
abbrev P0:Ps:=[(6,.l [.I,.I,.I] cg)]
noncomputable abbrev bq:=ax t0 [0,1,1,1,1] P0
noncomputable abbrev t1:=az bq
noncomputable def ct:=bj t1 [0,1,1,1,3] [(0,.v [.s]),(2,.v [.f]),(4,.v [.r]),(6,.l [.I,.I,.I] cg),(8,.v [.r]),(34,.v [.I]),(35,.v [.I])]
noncomputable abbrev t2:=bh ct
noncomputable abbrev bU:=ax t2 [0,1,1,1,2,2,2,2,1,1,3] P0
noncomputable abbrev t3:=az bU
noncomputable abbrev cJ:=ax t3 [8] [(6,.l [.I,.I,.I] cg),(11,.l [.I,.I,.I] cg),(12,.v [.I])]
noncomputable abbrev t4:=az cJ
def dX:=bm t4 ct
def aD:=aB t4 Mn [.s,.a 9,.I,.s,.I,.I,.U,.st,.I,.I,.I,.f]
end px
namespace Pa
noncomputable abbrev t0:=aA aa Tryz.f22 [] []
def ok:=aB t0 LD [.s]
end Pa
namespace tP
noncomputable abbrev t0:=aA aa Tryz.f74 [] []
noncomputable def L0:=bj t0 [0,2] [(0,.v [.r]),(1,.v [.U])]
noncomputable abbrev t1:=bh L0
def bE:=bm t1 L0
def ok:=aB t1 MG [.r,.U]
end tP
namespace QR
noncomputable abbrev t0:=aA aa Tryz.f72 [] []
def ok:=aB t0 MD [.r,.I]
end QR
namespace pC
noncomputable abbrev t0:=aA aa Tryz.f45 [] []
noncomputable def L0:=bj t0 [0,1,2] [(0,.v [.r]),(11,.v [.s]),(12,.v [.I]),(13,.v [.I])]
noncomputable abbrev t1:=bh L0
def bE:=bm t1 L0
def ok:=aB t1 vF [.r,.s]
end pC
namespace QS
noncomputable abbrev t0:=aA aa Tryz.f44 [] []
def ok:=aB t0 ME [.r,.s]
end QS
namespace QT
noncomputable abbrev t0:=aA aa Tryz.f93 [] []
def ok:=aB t0 MF [.r,.st]
end QT
namespace QQ
noncomputable abbrev t0:=aA aa Tryz.f47 [] []
def ok:=aB t0 MC [.r]
end QQ
namespace Qi
noncomputable abbrev t0:=aA aa Tryz.f73 [] []
def ok:=aB t0 Mu [.r,.r]
end Qi
namespace Qe
noncomputable abbrev t0:=aA aa Tryz.f79 [] []
def ok:=aB t0 Ml [.r]
end Qe
namespace P9
noncomputable abbrev t0:=aA aa Tryz.f78 [] [3,5]
def aD:=aB t0 CO [.st,.r]
end P9
namespace P8
noncomputable abbrev t0:=aA aa Tryz.f53 [(1,ls [0,1,2,3,4,5,6,7,8,9,10])] [3,4]
def aD:=aB t0 Me [.r,.a 9,.I,.s,.I,.I,.U,.st,.I,.I,.I]
end P8
namespace P7
noncomputable abbrev t0:=aA aa Tryz.f54 [(1,ls [0,1,2,3,4,5,6,7,8,9,10])] []
def ok:=aB t0 Mc [.r,.a 9,.I,.s,.I,.I,.U,.st,.I,.I,.I]
end P7
namespace zl
noncomputable abbrev t0:=aA aa Tryz.f55 [(1,ls [0,1,2,3,5,6,7,8,9,4,10]),(3,ls [0,1,2,3,4,5,6,7,8]),(4,ls [0,1,2,3,4,5,6,7,8,9,10])] []
noncomputable abbrev S0:=ax t0 [3] [(0,.v [.r]),(3,.v [.r])]
noncomputable abbrev t1:=az S0
def ok:=aB t1 Md [.r,.a 9,.I,.s,.I,.I,.U,.st,.I,.I,.I]
end zl
namespace wy
noncomputable abbrev t0:=aA aa Tryz.f52 [] [1,5]
noncomputable def a2:=bj t0 [0,1,1,1,2] [(3,.v [.r]),(11,.v [.s]),(12,.v [.I]),(13,.v [.I])]
noncomputable abbrev t1:=bh a2
def bB:=bm t1 a2
def aD:=aB t1 Mm [.a 1,.s]
end wy
namespace wv
noncomputable abbrev t0:=aA aa Tryz.f32 [] [1,5,6]
noncomputable def a2:=bj t0 [0,1,1,1,3] [(3,.v [.p]),(17,.v [.s]),(18,.v [.I]),(19,.v [.I])]
noncomputable abbrev t1:=bh a2
def bB:=bm t1 a2
def aD:=aB t1 Ma [.a 1,.s]
end wv
namespace wu
noncomputable abbrev t0:=aA aa Tryz.f43 [] [1]
noncomputable def a2:=bj t0 [0,1,1,1,4] [(1,.l [.s] zt),(5,.v [.r]),(18,.v [.I]),(19,.v [.I])]
noncomputable abbrev t1:=bh a2
def bB:=bm t1 a2
def aD:=aB t1 L' [.a 1,.s]
end wu
def fv(w:J)(d:Nat)(V:List UInt8)(own:List Nat):Prop:=
 ∃s:Sl,own=d::aw s/\w.heap[d]? =some (.cells #[s.v] q3 (0,0))/\eU w s V
def yF{w:J}{e T:aC}{s:Sl}{vs:List ab}(h:Ow w e s vs){b:Nat}{cs:Array ab}{f:Nat×Nat}(d:w.heap[b]? =some (.cells cs T f))(j:e≠T):b∉aw s:=λq=>by
 obtain⟨y,z,k⟩:=h.2.row.tL b q;rw[k]at d;injection d with d
 injection d with _ x _
 exact j x
def fv.lt{w:J}{k:Nat}{V:List UInt8}{own:List Nat}(h:fv w k V own):∀b∈own,b<w.heap.size:=by
 obtain⟨s,rfl,e,j⟩:=h;intro b d;rcases av.1 d with rfl|d
 .exact lt_of_heap e
 .exact j.lt b d
def fv.new(w:J):fv (w.alloc (.cells #[.slice none 0 0] q3)) w.heap.size [] [w.heap.size]:=⟨⟨none,0,0⟩,rfl,jV w _,Ow.nil _ _⟩
def iy(w:J)(h:Nat)(own:List Nat)(V:List UInt8)(Y:J):Prop:=∃d,fv Y h V d/\Fr (·∈own) w Y/\∀e∈d,e∈own\/w.heap.size<=e
def lW(w:J)(e:Nat)(own:List Nat)(V:List UInt8):aH:=λr d=>r=ag (.tuple #[])/\iy w e own V d
def iy.refl{w:J}{d:Nat}{own:List Nat}{V:List UInt8}(h:fv w d V own):iy w d own V w:=⟨own,h,Fr.refl _ _,λ_ h=>.inl h⟩
def iy.then{w Y y:J}{z:Nat}{own x:List Nat}{e:List UInt8}(j:Fr (·∈own) w Y)(k:∀d∈x,d∈own\/w.heap.size<=d)(h:iy Y z x e y):iy w z own e y:=by
 obtain⟨B,r,f,o⟩:=h;refine⟨B,r,j.trans f λd q A=>?_,λd q=>?_⟩
 .rcases k d A with h|h
  .exact h
  .omega
 .rcases o d q with h|h
  .exact k d h
  .exact .inr (Nat.le_trans j.size h)
def E5{w x e:J}{d:Nat}{s s':Sl}{V z:List UInt8}(C:w.heap[d]? =some (.cells #[s.v] q3 (0,0)))(G:eU w s V)(k:ah w x)(D:eU e s' z)(A:Fr (·∈aw s) x e)(I:∀b∈aw s',b∈aw s\/x.heap.size<=b):
  (e.cell? ((ae d).add 0)).isSome=true/\e.frozen? ((ae d).add 0)=false/\iy w d (d::aw s) z (e.setCell ((ae d).add 0) s'.v):=by
 have K:d∉aw s:=yF G C (by decide);have j:=A.at (k.at C id) K;have E:(e.setCell ((ae d).add 0) s'.v).heap[d]? =_:=setAt (p:=ae d) (i:=0) (v:=s'.v) j rfl;have B:Fr (·=d) e (e.setCell ((ae d).add 0) s'.v):=Fr.set _ _ _ rfl
 have L:d∉aw s':=yF D j (by decide);refine⟨by rw[cellAt (p:=ae d) j rfl rfl];rfl,frozenAt (p:=ae d) j,d::aw s',⟨s',rfl,E,D.fr B λb H F=>L (F▸H)⟩,?_,?_⟩
 .exact ((k.nZ (M:=(·∈d::aw s))).trans A λy _ h=>by simp[h]).trans B λy _ h=>by simp[h]
 .intro y h;rcases av.1 h with rfl|h
  .exact .inl (by simp)
  .rcases I y h with q|q
   .exact .inl (by simp[q])
   .exact .inr (Nat.le_trans k.size q)
def wJ{w:J}{d:Nat}{s:Sl}(e:w.heap[d]? =some (.cells #[s.v] q3 (0,0))):w.cell? ((ae d).add 0)=some s.v:=cellAt (p:=ae d) e rfl rfl
def QI{w:J}{e:Nat}{s:Sl}{V:List UInt8}(E:w.heap[e]? =some (.cells #[s.v] q3 (0,0)))(j:eU w s V)(H:V.length<100000000000000)(c:UInt8)(K:J->Prop)(D:∀k,iy w e (e::aw s) (V++[c]) k->K k):
  ∃(t15:W.Sl) (d:J),Sem.run aa (dW #[cV,cV] cV #[s.v,.slice (some (Addr.mk w.heap.size 0 none)) 1 1]) (w.alloc (.cells #[.int .u8 (c.toNat:Int)] cL))=.ok (t15.v) d/\(d.cell? ((ae e).add 0)).isSome=true/\d.frozen? ((ae e).add 0)=false/\K (d.setCell ((ae e).add 0) (t15.v)):=by have h:ah w (w.alloc (.cells #[.int .u8 (c.toNat:Int)] cL)):=Fr.alloc _ _ _;obtain⟨F,d,z,A,B,C,G⟩:=uw (ty:=cV) (j.bw h) (C' w c) (by simp;omega);obtain⟨q,x,y⟩:=E5 E j h A B C;exact⟨F,d,z,q,x,D _ y⟩
def aav{j:Nat}(R:aH):∀(n:Nat) (w:J) (V:List UInt8) (own:List Nat),n<18446744073709551616->V.length+(dU n).length<=100000000000000->fv w j V own->(∀d,iy w j own (V++dU n) d->R (ag (.tuple #[])) d)->
  tP.L0 (ae j) (n:Int) w R:=by
 intro n;induction n using Nat.strongRecOn with
 |_ n F=>
  intro w V own L e D A;obtain⟨s,rfl,k,z⟩:=D;refine tP.bE _ _ _ _ ?_;refine bD (λx=>?_) (λx=>?_)
  .have h:¬n<128:=by simp at x;omega
   rw[l2 h]at e;have q:ao .u8 (n:Int)=_:=EO n;refine⟨s,wJ k,?_⟩;rw[q,R7 _ (by omega)];have B:((n%256%128+128:Nat):Int)=((cI (n%128+128)).toNat:Int):=by simp;omega
   rw[B];refine QI k z (by simp at e;omega) (cI (n%128+128)) (λd=>tP.L0 (ae j) (Int.fdiv (n:Int) (2^7)) d R) λd y=>?_;show tP.L0 (ae j) (Int.fdiv (n:Int) (2^7)) d R;rw[show((2:Int)^7)=((128:Nat):Int)from rfl,xN n 128 (by omega)];obtain⟨H,I,C,G⟩:=y;refine F (n / 128) (by omega) d _ H (by omega) (by simp at e ⊢;omega) I λK E=>A K ?_;rw[l2 h,show V++cI (n%128+128)::dU (n / 128)=(V++[cI (n%128+128)])++dU (n / 128)by simp];exact E.then C G
  .have h:n<128:=by simp at x;omega
   rw[k6 h]at e;have q:ao .u8 (n:Int)=((cI n).toNat:Int):=by rw[EO];simp
   refine⟨s,wJ k,?_⟩;rw[q];refine QI k z (by simp at e;omega) (cI n) (λd=>R (ag (.tuple #[])) d) λd y=>A d ?_;rw[k6 h];exact y
def tO{w:J}{d:Nat}{V:List UInt8}{own:List Nat}(j:fv w d V own)(n:Nat)(e:n<18446744073709551616)(k:V.length<=10000000000000):
  ak aa MG #[.pointer (some (ae d)),.int .u64 (n:Int)] w (lW w d own (V++dU n)):=
 tP.ok _ _ w _ (aav _ n w V own e (by have:=eI n e;omega) j λq h=>⟨rfl,h⟩)
def aaL(n:Int)(h:a5 n):W.mF .u64 (ao .u64 ((ao .u64 n) *2^1)) (ao .u64 (Int.fdiv n (2^63)))=(zz n:Int):=by
 obtain⟨q,w⟩:=h;have k:((2:Int)^63)=9223372036854775808:=rfl;rw[k,Int.fdiv_eq_ediv_of_nonneg _ (by omega),IntKind.wrap_u64,IntKind.wrap_u64,IntKind.wrap_u64];by_cases j:0<=n
 .have d:(n / 9223372036854775808)%18446744073709551616=((0:Nat):Int):=by omega
  have e:(n%18446744073709551616 *2^1)%18446744073709551616=((2 *n).toNat:Int):=by omega
  rw[d,e,FP _ _ (by omega) (by omega),Nat.xor_zero];unfold zz;rw[aj j]
 .have d:(n / 9223372036854775808)%18446744073709551616=((18446744073709551615:Nat):Int):=by omega
  have e:(n%18446744073709551616 *2^1)%18446744073709551616=((18446744073709551616+2 *n).toNat:Int):=by omega
  rw[d,e,FP _ _ (by omega) (by omega),aaG _ (by omega)];unfold zz;rw[af j];omega
def lM{w:J}{e:Nat}{V:List UInt8}{own:List Nat}(k:fv w e V own)(n:Int)(d:a5 n)(j:V.length<=10000000000000):
  ak aa MD #[.pointer (some (ae e)),.int .i64 n] w (lW w e own (V++bL n)):=by refine QR.ok _ _ w _ ?_;rw[aaL n d];refine(tO k (zz n) (zM n d.1 d.2) j).mono ?_;rintro r q ⟨rfl,h⟩;exact⟨rfl,rfl,h⟩
def aau{w:J}{d:Nat}{V:List UInt8}{own:List Nat}(C:fv w d V own)(t:ByteArray)(K:V.length+t.size<=10000000000000):
  ak aa MF #[.pointer (some (ae d)),.string t] w (lW w d own (V++dJ (bl t))):=by refine QT.ok _ _ w _ ?_;rw[q4 _ (by omega)];refine(tO C t.size (by omega) (by omega)).mono ?_;rintro r H ⟨rfl,M,E,x,D⟩;have L:=eI t.size (by omega);obtain⟨G,rfl,j,h⟩:=E;obtain⟨F,I,y,z,A,B⟩:=FI (ty:=cV) h t (by simp;omega);obtain⟨k,q,e⟩:=E5 j h (Fr.refl _ H) z A B;rw[cp]at e;exact⟨rfl,G,wJ j,F,I,y,k,q,rfl,e.then x D⟩
def mT:∀(l:List Int),(∀d∈l,a5 d)->(l.flatMap bL).length<=10 *l.length
 |[],_=>by simp
 |d::l,e=>by have q:=dh d (e d (by simp));have h:=mT l λk j=>e k (by simp[j]);simp at h ⊢;omega
def aat{k:Nat}{s:Sl}{l:List Int}(R:aH)(U:∀e∈l,a5 e)(S:l.length<=100000000000):∀(d i:Nat),i+d=l.length->∀(w:J) (V:List UInt8) (own:List Nat),fv w k V own->bp w s l->(∀e∈aw s,e∉own)->(∀e∈aw s,e<w.heap.size)->V.length+10 *d<=10000000000000->
  (∀E,iy w k own (V++(l.drop i).flatMap bL) E->R (ag (.tuple #[])) E)->pC.L0 (ae k) s (l.length:Int) (i:Int) w R:=by
 intro d;induction d with
 |zero=>
  intro i I w V own z h A y H x;refine pC.bE _ _ _ _ _ _ ?_;refine a1 (by simp;omega) (x w ?_);rw[dC (by omega)];simpa using iy.refl z
 |succ d N=>
  intro i I w V own z h A y H x;have K:l[i]? =some l[i]:=a6 (by omega);have C:l[i]∈l:=List.getElem_mem _;refine pC.bE _ _ _ _ _ _ ?_;refine a3 (by simp;omega) ⟨by omega,by rw[bp.len h];omega,bp.cell h K (by simp) λp _ M=>⟨_,M,(lM z _ (U _ C) (by omega)).mono ?_⟩⟩;rintro r F ⟨rfl,O,P,q,D⟩;refine⟨rfl,?_⟩;show pC.L0 (ae k) s (l.length:Int) (ao .i64 ((i:Int)+1)) F R;rw[bd i (by omega)];have T:=dh _ (U _ C);refine N (i+1) (by omega) F _ O P (h.fr q A) (λe j L=>?_) (λe j=>kP (y e j) q.size) (by simp;omega) λQ G=>x Q ?_
  .rcases D e L with B|B
   .exact A e j B
   .have:=y e j;omega
  .rw [dy (by omega),List.flatMap_cons,<-cp];exact G.then q D
def aas{w:J}{j:Nat}{V:List UInt8}{own:List Nat}(C:fv w j V own){s:Sl}{l:List Int}(x:bp w s l)(y:∀d∈aw s,d∉own)(z:∀d∈aw s,d<w.heap.size)(U:∀d∈l,a5 d)(G:V.length+10 *l.length<=1000000000000):
  ak aa vF #[.pointer (some (ae j)),s.v] w (lW w j own (V++cG l)):=by
 refine pC.ok _ _ w _ ?_;rw[bp.len x,q4 _ (by omega)];refine(tO C l.length (by omega) (by omega)).mono ?_;rintro r F ⟨rfl,D,E,h,A⟩;have H:=eI l.length (by omega);refine⟨rfl,?_⟩;try dsimp only
 refine aat _ U (by omega) l.length 0 (by omega) F _ D E (x.fr h y) (λd e B=>?_) (λd e=>kP (z d e) h.size) (by simp;omega) λI q=>⟨rfl,?_⟩
 .rcases A d B with k|k
  .exact y d e k
  .have:=z d e;omega
 .rw [List.drop_zero,cp]at q;exact q.then h A
def GL(s:Sl)(V:List UInt8)(w:J)(j:Bytes w s V)(I:V.length<=140737488355328):ak aa LD #[s.v] w (λr x=>∃s:Sl,r=ag s.v/\eU x s V/\ah w x/\∀b∈aw s,w.heap.size<=b):=by
 refine Pa.ok s w _ ?_;refine bD (λe=>?_) (λe=>?_)
 .have D:V=[]:=by have:=(j.2.2.1 (by simpa using e)).1;exact qN (by rw[<-Bytes.len j,this])
  subst D;exact⟨⟨none,0,0⟩,rfl,Ow.nil w _,Fr.refl _ _,by simp[aw]⟩
 .show (λd:J=>∃(q:Sl) (h:J),Sem.run aa (dW #[cV,cV] cV #[.slice (some (nb w)) 0 0,s.v]) d=.ok (q.v) h/\(∃s:Sl,Ending.returned q.v=ag s.v/\eU h s V/\ah w h/\∀b∈aw s,w.heap.size<=b)) (w.alloc (.cells #[] cL));generalize H:w.alloc (.cells #[] cL)=d;subst H
  let d:=w.alloc (.cells #[] cL)
  have E:eU d ⟨some ⟨w.heap.size,0,none⟩,0,0⟩ []:=Ow.made w cL [] 0 rfl (by omega);have z:Bytes d s V:=j.bw (Fr.alloc _ _ _);obtain⟨k,h,G,F,B,A,_⟩:=uw (ty:=cV) E z (by simp;omega);refine⟨k,h,G,k,rfl,by simpa using F,?_,?_⟩
  .refine (Fr.alloc (λ_=>False) w _).trans B λL K C=>?_;simp[aw]at C;omega
  .intro b y;rcases A b y with e|e
   .simp [aw]at e;omega
   .have:d.heap.size=w.heap.size+1:=size_alloc _ _;omega
def E1{w:J}{e:Nat}{V:List UInt8}{own:List Nat}(q:fv w e V own)(x:V.length<=100000000000000):
  ak aa MC #[.pointer (some (ae e))] w (iv w V):=by obtain⟨s,rfl,j,k⟩:=q;refine QQ.ok _ w _ ⟨s,wJ j,(GL s V w k.rd (by omega)).mono ?_⟩;rintro r y ⟨d,rfl,h⟩;exact⟨d,rfl,d,rfl,h⟩
namespace QJ
noncomputable abbrev t0:=aA aa Tryz.f7 [] []
def ok:=aB t0 Mw [.s]
end QJ
namespace pB
noncomputable abbrev t0:=aA aa Tryz.f29 [(6,ls [0,1,2,3,4,5,6,7,8,9,10,11]),(9,ls [0,1,2,3,4,5,6,7,8,9,10,11,12])] []
noncomputable def L0:=bj t0 [0,1,4] [(0,.v [.r]),(3,.v [.U]),(4,.v [.I])]
noncomputable abbrev t1:=bh L0
noncomputable abbrev S1:=ax t1 [0,1,1,1,2,4,4] [(0,.v [.r])]
noncomputable abbrev t2:=az S1
abbrev P0:Ps:=[(0,.v [.r]),(3,.v [.U]),(4,.v [.I]),(5,.v [.Y])]
noncomputable abbrev S3:=ax t2 [4,4,4] P0
noncomputable abbrev t3:=az S3
noncomputable abbrev S2:=ax t3 [3,4,4] P0
noncomputable abbrev t4:=az S2
def bE:=bm t4 L0
def ok:=aB t4 MB [.r]
end pB
namespace QL
noncomputable abbrev t0:=aA aa Tryz.f27 [] []
def ok:=aB t0 vD [.r]
end QL
namespace QK
noncomputable abbrev t0:=aA aa Tryz.f31 [(3,ls [0,1,2,3,4,5,6,7,8,9])] []
def ok:=aB t0 Mx [.r]
end QK
namespace QP
noncomputable abbrev t0:=aA aa Tryz.f34 [(1,ls [0,1,2,3,4,5,6,7,8,9,10])] []
def ok:=aB t0 vE [.r]
end QP
namespace tQ
noncomputable abbrev t0:=aA aa Tryz.f33 [(4,ls [0,1,2,3,4,5,6,7,8,9,10,11,12])] []
noncomputable def L0:=bj t0 [0,1,1,1,5] [(0,.v [.r]),(1,.v [.g vE 1 0,.r]),(6,.v [.s]),(33,.v [.U]),(34,.v [.U])]
noncomputable abbrev t1:=bh L0
def bE:=bm t1 L0
def ok:=aB t1 MH [.r,.g vE 1 0,.r]
end tQ
namespace tR
noncomputable abbrev t0:=aA aa Tryz.f51 [(4,ls [0,1,2,3,4,5,6,7,8,9,10,11,12])] []
noncomputable def L0:=bj t0 [0,1,1,1,5] [(0,.v [.r]),(1,.v [.g vD 1 0,.r]),(6,.v [.s]),(33,.v [.U]),(34,.v [.U])]
noncomputable abbrev t1:=bh L0
def bE:=bm t1 L0
def ok:=aB t1 MI [.r,.g vD 1 0,.r]
end tR
namespace QM
noncomputable abbrev t0:=aA aa Tryz.f28 [] []
def ok:=aB t0 My [.r]
end QM
namespace QO
noncomputable abbrev t0:=aA aa Tryz.f30 [] []
def ok:=aB t0 MA [.r]
end QO
namespace QN
noncomputable abbrev t0:=aA aa Tryz.f11 [] []
def ok:=aB t0 Mz [.r]
end QN
def c9(w:J)(rb:Nat)(st:RS)(fp:List Nat):Prop:=
 ∃(s:Sl) (all:List UInt8) (k:Nat),fp=rb::aw s/\w.heap[rb]? =some (.cells #[s.v,.int .i64 (k:Int),.int .i64 st.err] pA (0,0))/\eU w s all/\k<=all.length/\all.drop k=st.V/\all.length<=1000000000000
def c9.lt{w:J}{rb:Nat}{st:RS}{fp:List Nat}(h:c9 w rb st fp):∀b∈fp,b<w.heap.size:=by
 obtain⟨s,all,k,rfl,e,j,_⟩:=h;intro b d;rcases av.1 d with rfl|d
 .exact lt_of_heap e
 .exact j.lt b d
def c9.fr{M:Nat->Prop}{w Y:J}{rb:Nat}{st:RS}{fp:List Nat}(h:c9 w rb st fp)(d:Fr M w Y)(e:∀b∈fp,¬M b):c9 Y rb st fp:=by obtain⟨s,all,y,rfl,j,k,q⟩:=h;exact⟨s,all,y,rfl,d.at j (e _ (by simp)),k.fr d λb x=>e b (by simp[x]),q⟩
def c9.bw{w Y:J}{rb:Nat}{st:RS}{fp:List Nat}(h:c9 w rb st fp)(d:ah w Y):c9 Y rb st fp:=h.fr d λ_ _ h=>h
def c9.mem{w:J}{rb:Nat}{st:RS}{fp:List Nat}(h:c9 w rb st fp):rb∈fp:=by obtain⟨s,all,d,rfl,_⟩:=h;simp
def c9.small{w:J}{rb:Nat}{st:RS}{fp:List Nat}(h:c9 w rb st fp):st.V.length<=1000000000000:=by obtain⟨s,all,j,rfl,_,_,_,d,e⟩:=h;rw[<-d];simp;omega
def uj(w:J)(rb:Nat)(fp:List Nat)(v:ab)(st:RS):aH:=λr d=>r=ag v/\c9 d rb st fp/\Fr (·=rb) w d
def yW{w:J}{rb:Nat}{s:Sl}{k:Nat}{e:Int}{all:List UInt8}(h:w.heap[rb]? =some (.cells #[s.v,.int .i64 (k:Int),.int .i64 e] pA (0,0)))(j:eU w s all)(q:k<=all.length)(x:all.length<=1000000000000)(d:Int):
  (w.cell? ((ae rb).add 2)).isSome=true/\w.frozen? ((ae rb).add 2)=false/\c9 (w.setCell ((ae rb).add 2) (.int .i64 d)) rb ⟨all.drop k,d⟩ (rb::aw s)/\Fr (·=rb) w (w.setCell ((ae rb).add 2) (.int .i64 d)):=by
 have z:rb∉aw s:=yF j h (by decide);have f:Fr (·=rb) w (w.setCell ((ae rb).add 2) (.int .i64 d)):=Fr.set _ _ _ rfl
 exact⟨by rw[cellAt (p:=ae rb) h rfl rfl];rfl,frozenAt (p:=ae rb) h,⟨s,all,k,rfl,setAt (p:=ae rb) (i:=2) h rfl,j.fr f λb y e=>z (e▸y),q,rfl,x⟩,f⟩
def N3{w:J}{rb:Nat}{s:Sl}{k:Nat}{e:Int}{all:List UInt8}(h:w.heap[rb]? =some (.cells #[s.v,.int .i64 (k:Int),.int .i64 e] pA (0,0)))(j:eU w s all)(y:all.length<=1000000000000)(d:Nat)(q:d<=all.length)(x:Int)(B:x=d):
  (w.cell? ((ae rb).add 1)).isSome=true/\w.frozen? ((ae rb).add 1)=false/\c9 (w.setCell ((ae rb).add 1) (.int .i64 x)) rb ⟨all.drop d,e⟩ (rb::aw s)/\Fr (·=rb) w (w.setCell ((ae rb).add 1) (.int .i64 x)):=by
 subst B;have A:rb∉aw s:=yF j h (by decide);have f:Fr (·=rb) w (w.setCell ((ae rb).add 1) (.int .i64 (d:Int))):=Fr.set _ _ _ rfl
 exact⟨by rw[cellAt (p:=ae rb) h rfl rfl];rfl,frozenAt (p:=ae rb) h,⟨s,all,d,rfl,setAt (p:=ae rb) (i:=1) h rfl,j.fr f λb z e=>A (e▸z),q,rfl,y⟩,f⟩
def s9{w:J}{rb:Nat}{s:Sl}{x y:ab}(h:w.heap[rb]? =some (.cells #[s.v,x,y] pA (0,0))):w.cell? ((ae rb).add 0)=some s.v:=cellAt (p:=ae rb) h rfl rfl
def o9{w:J}{rb:Nat}{s:Sl}{x y:ab}(h:w.heap[rb]? =some (.cells #[s.v,x,y] pA (0,0))):w.cell? ((ae rb).add 1)=some x:=cellAt (p:=ae rb) h rfl rfl
def vS{w:J}{rb:Nat}{s:Sl}{x y:ab}(h:w.heap[rb]? =some (.cells #[s.v,x,y] pA (0,0))):w.cell? ((ae rb).add 2)=some y:=cellAt (p:=ae rb) h rfl rfl
def aaw(acc k c:Nat)(C:k<=9)(z:acc<128^k)(B:c<128)(y:k=9->c<=1):
  ¬(ao .i64 (7 *(k:Int)))<0/\W.p9 .u64 (acc:Int) (ao .u64 ((ao .u64 ((c:Nat):Int)) *2^(min (Int.toNat (ao .i64 (7 *(k:Int)))) (IntKind.bits .u64))))=((acc+128^k *c:Nat):Int):=by
 have j:ao .i64 (7 *(k:Int))=((7 *k:Nat):Int):=by rw[aS _ (by omega)];omega
 rw[j];refine⟨by omega,?_⟩;have q:min (Int.toNat ((7 *k:Nat):Int)) (IntKind.bits .u64)=7 *k:=by rw[bF];show min (7 *k) 64=7 *k;omega
 rw[q,q4 c (by omega)];have w:(c:Int) *2^(7 *k)=((c *2^(7 *k):Nat):Int):=by rw[Int.natCast_mul,Int.natCast_pow];rfl
 have h:(2:Nat)^(7 *k)=128^k:=by rw[Nat.pow_mul]
 have e:c *2^(7 *k)<18446744073709551616:=by
  by_cases x:k=9
  .subst x;have:=y rfl;have:c *2^(7 *9)<=1 *2^(7 *9):=Nat.mul_le_mul_right _ this;omega
  .have d:(2:Nat)^(7 *k)<=2^56:=Nat.pow_le_pow_right (by omega) (by omega);have:c *2^(7 *k)<=127 *2^56:=Nat.mul_le_mul (by omega) d;omega
 have A:acc<18446744073709551616:=by have d:(128:Nat)^k<=128^9:=Nat.pow_le_pow_right (by omega) (by omega);omega
 rw[w,q4 _ e,R6 _ _ A e,XE acc c (7 *k) (by rw[h];exact z),h,Nat.mul_comm c]
set_option maxRecDepth 100000 in
def Yg{rb:Nat}(R:aH)(all:List UInt8)(p:Nat)(hp:p<=all.length)(U:all.length<=1000000000000)(s:Sl):
  ∀(d k acc:Nat) (w:J),k+d=9->acc<128^k->p+k<=all.length->w.heap[rb]? =some (.cells #[s.v,.int .i64 (p:Int),.int .i64 0] pA (0,0))->eU w s all->
   (match iF k ((all.drop p).drop k)with
    |.more=>∀h,c9 h rb ⟨all.drop p,3⟩ (rb::aw s)->Fr (·=rb) w h->R (ag (.int .u64 0)) h
    |.form=>∀h,c9 h rb ⟨all.drop p,2⟩ (rb::aw s)->Fr (·=rb) w h->R (ag (.int .u64 0)) h
    |.ok n r=>∀h,c9 h rb ⟨r,0⟩ (rb::aw s)->Fr (·=rb) w h->R (ag (.int .u64 ((acc+128^k *n:Nat):Int))) h)->
   pB.L0 (ae rb) (acc:Int) (k:Int) w R:=by
 intro d;induction d using Nat.strongRecOn with
 |_ d ih=>
  intro k acc w hk ha ai h1 C j;refine pB.bE _ _ _ _ _ ?_;have hn:s.n=all.length:=by simpa using C.1
  have Z:ao .i64 ((p:Int)+(k:Int))=((p+k:Nat):Int):=by rw[aS _ (by omega)];omega
  have K:ah w w.drew:=Fr.drew _ w;have A:ah w w.drew.drew:=K.dD (Fr.drew _ _);have Q:=K.at h1 id;have B:=A.at h1 id;refine⟨_,o9 Q,_,s9 Q,?_⟩;rw[Z,hn];rw[List.drop_drop]at j;refine bD (λe=>?_) (λe=>?_)
  .have he:all.drop (p+k)=[]:=dC (by simp at e;omega);rw[he]at j;simp only[iF]at j;obtain⟨D,E,F,G⟩:=yW Q (C.bw K) hp U 3;exact⟨D,E,j _ F ((K.nZ).trans G λ_ _ e=>e)⟩
  .have aa:p+k<all.length:=by simp at e;omega
   have hg:all[p+k]? =some all[p+k]:=a6 aa;rw[dy aa]at j;generalize all[p+k]=c at hg j;have hc:=c.toNat_lt;have H:∀h,Fr (·=rb) w.drew.drew h->Fr (·=rb) w h:=λh f=>A.nZ.trans f λ_ _ e=>e;refine⟨_,s9 B,_,o9 B,?_⟩;rw[Z];refine⟨by omega,by rw[hn];omega,Bytes.cell (C.bw A).rd hg (by rw[bF]) λaj _ hq=>⟨_,hq,?_⟩⟩;have form:iC k c=true->pB.S1 (ae rb) w.drew.drew R:=λy=>by simp only[iF,y,if_true]at j;obtain⟨D,E,F,G⟩:=yW B (C.bw A) hp U 2;exact⟨D,E,j _ F (H _ G)⟩
   have O:iC k c=false->pB.S2 (ae rb) (acc:Int) (k:Int) (c.toNat:Int) w.drew.drew R:=λy=>by
    have N:=y;unfold iC at N;simp at N;obtain⟨e1,e2⟩:=aaw acc k (c.toNat%128) (by omega) ha (by omega) (λz=>by have:=N.1 z;omega);dsimp only[pB.S2,ax];rw[R5 c];refine And.intro e1 ?_;rw[e2];obtain⟨v,I⟩:∃v,v=acc+128^k *(c.toNat%128):=⟨_,rfl⟩;rw[<-I];refine bD (λe=>?_) (λe=>?_)
    .have L:c.toNat<128:=by simp at e;omega
     simp only[iF,y,L,if_true]at j;obtain⟨D,E,F,G⟩:=N3 B (C.bw A) U (p+k+1) (by omega) (ao .i64 ((p:Int)+(ao .i64 ((k:Int)+1)))) (by rw[aS ((k:Int)+1) (by omega),aS _ (by omega)];omega);refine⟨_,o9 B,D,E,?_⟩;have:=j _ F (H _ G);rw[Nat.mod_eq_of_lt L]at I;rw[I];exact this
    .have L:¬c.toNat<128:=by simp at e;omega
     show pB.L0 (ae rb) _ (ao .i64 ((k:Int)+1)) w.drew.drew R;rw[bd k (by omega)];have ad:k≠9:=λz=>by have:=N.1 z;omega
     refine ih (d - 1) (by omega) (k+1) _ w.drew.drew (by omega) ?_ (by omega) B (C.bw A) ?_
     .rw [Nat.pow_succ,I];have:128^k *(c.toNat%128)<=128^k *127:=Nat.mul_le_mul_left _ (by omega);omega
     .rw [List.drop_drop,<-Nat.add_assoc];simp only[iF,y,L,if_false]at j;cases V:iF (k+1) (all.drop (p+k+1))with
      |more=>rw[V]at j;exact λh a b=>j h a (H _ b)
      |form=>rw[V]at j;exact λh a b=>j h a (H _ b)
      |ok n r=>
       rw[V]at j;intro h a b;have:=j h a (H _ b);have q:acc+128^k *(c.toNat%128)+128^(k+1) *n=acc+128^k *(c.toNat%128+128 *n):=by rw[Nat.pow_succ,Nat.mul_add,Nat.mul_assoc];omega
       rw[I,q];exact this
   have ab:1<c.toNat->k=9->iC k c=true:=λhx hy=>by unfold iC;rw[aP hx];simp[hy]
   have Y:c.toNat=0->0<k->iC k c=true:=λe P=>by unfold iC;rw[e,aP P];simp
   have W:(k=9->¬1<c.toNat)->(0<k->c.toNat≠0)->iC k c=false:=λe P=>by
    cases y:iC k c with
    |false=>rfl
    |true=>
     unfold iC at y;rw[Bool.or_eq_true,bf,bf]at y;rcases y with⟨S,T⟩|⟨S,T⟩
     .exact absurd (ew T) (e (eq_of_beq S))
     .exact absurd (eq_of_beq T) (P (ew S))
   refine bD (λz=>?_) (λz=>?_)
   .have M:k=9:=by have:=eq_of_beq z;omega
    refine bD (λe=>form (ab (by have:=ew e;omega) M)) (λe=>?_);have af:=g5 e;refine a3 (aP (by omega)) (bD (λx=>form (Y (by have:=eq_of_beq x;omega) (by omega))) (λx=>O (W (λ_=>by omega) (λ_ q=>by rw[q]at x;simp at x))))
   .have M:k≠9:=λq=>by rw[q]at z;simp at z
    refine bD (λe=>bD (λx=>form (Y (by have:=eq_of_beq x;omega) (by have:=ew e;omega))) (λx=>O (W (λq=>absurd q M) (λ_ q=>by rw[q]at x;simp at x)))) (λe=>O (W (λq=>absurd q M) (λac=>by have:=g5 e;omega)))
def yS{w:J}{rb:Nat}{st:RS}{fp:List Nat}(h:c9 w rb st fp):
  ak aa MB #[.pointer (some (ae rb))] w (uj w rb fp (.int .u64 ((eS st).1:Int)) (eS st).2):=by
 have A:=h;obtain⟨s,all,B,rfl,e,q,x,y,z⟩:=h;refine pB.ok _ w _ ?_;refine⟨_,vS e,bD (λj=>?_) (λj=>?_)⟩
 .have d:st.err≠0:=by simpa using j
  unfold eS;rw[aj d];exact⟨rfl,A,Fr.refl _ _⟩
 .have d:st.err=0:=by simpa using j
  refine Yg _ all B x z s 9 0 0 w rfl (by simp) (by omega) (by rw[d]at e;exact e) q ?_;unfold eS;rw[af (by simp[d]),List.drop_zero,y];cases C:iF 0 st.V with
  |more=>exact λk a b=>⟨rfl,a,b⟩
  |form=>exact λk a b=>⟨rfl,a,b⟩
  |ok n r=>
   intro k a b;refine⟨?_,a,b⟩;simp
def s8(st:RS):(eS st).1<18446744073709551616:=by
 unfold eS;split
 .simp
 .split
  .simp
  .simp
  .rename_i n r d;have:=(xx 9 0 _ _ _ rfl d).2.1;simpa using this
def aan(u:Nat)(h:u<18446744073709551616):W.mF .i64 (ao .i64 (Int.fdiv (u:Int) (2^1))) (ao .i64 (0 - (ao .i64 (W.kY .u64 (u:Int) 1))))=nq u:=by
 have e:W.kY .u64 (u:Int) 1=((u%2:Nat):Int):=by have:=R4 u 1 h (by omega);rw[Nat.and_one_is_mod]at this;exact this
 rw[e,show((2:Int)^1)=((2:Nat):Int)from rfl,xN u 2 (by omega),aS ((u / 2:Nat):Int) (by omega),aS ((u%2:Nat):Int) (by omega)];unfold nq;split
 .rename_i d;rw[d,aS _ (by omega)];exact R9 _ (by omega)
 .rename_i d;rw[show u%2=1 by omega,aS _ (by omega)];exact R8 _ (by omega)
def lx{w:J}{rb:Nat}{st:RS}{fp:List Nat}(h:c9 w rb st fp):
  ak aa vD #[.pointer (some (ae rb))] w (uj w rb fp (.int .i64 (be st).1) (be st).2):=by
 refine QL.ok _ w _ ?_;refine(yS h).mono ?_;rintro r e ⟨rfl,d⟩;refine⟨_,rfl,?_⟩;try dsimp only
 rw[aan _ (s8 st)];exact⟨rfl,d⟩
def NM{w:J}{rb:Nat}{st:RS}{fp:List Nat}(h:c9 w rb st fp):
  ak aa Mx #[.pointer (some (ae rb))] w λr B=>r=ag (.int .i64 (j6 st))/\ah w B:=by
 obtain⟨s,all,A,rfl,e,y,C,z,D⟩:=h;have d:ah w w.drew:=Fr.drew _ w;have x:=d.at e id;have F:s.n=all.length:=by simpa using y.1
 have E:st.V.length=all.length - A:=by rw[<-z];simp
 refine QK.ok _ w _ ?_;unfold j6;refine⟨_,vS e,bD (λj=>?_) (λj=>?_)⟩
 .have k:st.err≠0:=by simpa using j
  rw[aj k];exact⟨_,vS e,rfl,Fr.refl _ _⟩
 .have k:st.err=0:=by simpa using j
  rw[af (by simp[k])];refine⟨_,o9 x,_,s9 x,bD (λq=>?_) (λq=>?_)⟩
  .have:=ew q;rw[aj (by omega)];exact⟨rfl,d⟩
  .have:=g5 q;rw[af (by omega)];exact⟨rfl,d⟩
def Ye{w:J}{rb:Nat}{c:UInt8}{l:List UInt8}{e:Int}{fp:List Nat}(h:c9 w rb ⟨c::l,e⟩ fp):
  ak aa vE #[.pointer (some (ae rb))] w (uj w rb fp (.int .u8 (c.toNat:Int)) ⟨l,e⟩):=by
 obtain⟨s,all,k,rfl,z,x,M,d,E⟩:=h;simp only at z d;have j:ah w w.drew:=Fr.drew _ w;have q:=j.at z id;have K:s.n=all.length:=by simpa using x.1
 have A:k<all.length:=by
  by_cases I:k<all.length
  .exact I
  .rw [dC (by omega)]at d;cases d
 rw[dy A]at d;injection d with F G
 have H:all[k]? =some c:=by rw[a6 A,F]
 refine QP.ok _ w _ ?_;refine⟨_,s9 q,_,o9 q,by omega,by rw[K];omega,Bytes.cell (x.bw j).rd H (by rw[bF]) λN _ L=>⟨_,L,?_⟩⟩;obtain⟨B,C,y,D⟩:=N3 q (x.bw j) E (k+1) (by omega) (ao .i64 ((k:Int)+1)) (bd k (by omega));rw[G]at y;exact⟨_,o9 q,B,C,rfl,y,j.nZ.trans D λ_ _ h=>h⟩
def DA{w:J}{s:Sl}{V:List UInt8}(B:Bytes w s V)(C:V.length<=1000000000000):
  ak aa Mw #[s.v] w λr z=>∃y x,r=ag (.pointer (some (ae y)))/\c9 z y ⟨V,0⟩ x/\ah w z/\∀j∈x,w.heap.size<=j:=by
 refine QJ.ok _ w _ ((GL s V w B (by omega)).mono ?_);rintro r e ⟨d,rfl,A,k,D⟩;have q:ah e (e.alloc (.cells #[d.v,.int .i64 0,.int .i64 0] pA)):=Fr.alloc _ _ _;refine⟨d,rfl,e.heap.size,e.heap.size::aw d,rfl,⟨d,V,0,rfl,jV _ _,A.bw q,dn _,rfl,C⟩,k.dD q,?_⟩;intro j h;rcases av.1 h with rfl|h
 .exact k.size
 .exact D j h
def pR(w:J)(rb:Nat)(fp:List Nat)(e:aC)(vs:List ab)(st:RS):aH:=λr d=>∃s:Sl,r=ag s.v/\Ow d e s vs/\c9 d rb st fp/\Fr (·=rb) w d/\∀h∈aw s,w.heap.size<=h
def yV{st:RS}{N:Nat}(h:st.V.length<=N):(eS st).2.V.length<=N:=by
 unfold eS;split
 .exact h
 .split
  .exact h
  .exact h
  .rename_i n r d;have:=(xx 9 0 _ _ _ rfl d).1;rw[this]at h;simp at h ⊢;omega
def Wp{w0:J}{rb:Nat}{fp:List Nat}(I:∀b∈fp,b<w0.heap.size)(U:rb∈fp)(n:Nat)(V:List UInt8)(hn:n<=V.length)(Z:V.length<=1000000000000)(R:aH)(P:∀r M,pR w0 rb fp cL ((V.take n).map bC) ⟨V.drop n,0⟩ r M->R r M):
  ∀(d i:Nat),i+d=n->∀(w:J) (l:Sl),Fr (·=rb) w0 w->c9 w rb ⟨V.drop i,0⟩ fp->eU w l (V.take i)->(∀j∈aw l,w0.heap.size<=j)->
   tQ.L0 (ae rb) (ae rb) l (n:Int) (i:Int) w R:=by
 intro d;induction d with
 |zero=>
  intro i S w l x e A h;obtain rfl:i=n:=by omega
  refine tQ.bE _ _ _ _ _ _ _ (a1 (aV (by omega)) (P _ _ ⟨l,rfl,A,e,x,h⟩))
 |succ d W=>
  intro i S w l x e A h;have K:i<V.length:=by omega
  refine tQ.bE _ _ _ _ _ _ _ (a3 (aP (by omega)) ?_);rw[dy K]at e;refine(Ye e).mono ?_;rintro r k ⟨rfl,H,F⟩;have T:=A.fr F λb z Y=>by have:=h b z;have:=I rb U;omega
  refine⟨_,rfl,?_⟩;have Q:k.cell? ((ae rb).add 2)=some (.int .i64 0):=by obtain⟨s,all,ac,rfl,y,_⟩:=H;exact vS y
  refine⟨_,Q,a1 rfl ?_⟩;have E:Fr (·=rb) w0 k:=x.trans F λ_ _ e=>e;have q:ah k (k.alloc (.cells #[.int .u8 (V[i].toNat:Int)] cL)):=Fr.alloc _ _ _;obtain⟨C,D,y,N,G,O,_⟩:=uw (ty:=cV) (T.bw q) (C' k V[i]) (by simp;omega);refine⟨C,D,y,?_⟩;show tQ.L0 (ae rb) (ae rb) C (n:Int) (ao .u64 ((i:Int)+1)) D R;rw[show ao .u64 ((i:Int)+1)=((i+1:Nat):Int)from by rw[IntWalk.u64_in _ (by omega)];omega];have aa:=E.size;have ab:=q.size;refine W (i+1) (by omega) D C ((E.dD q).trans G λj L B=>by have:=h j B;omega) ((H.bw q).fr G λb z B=>by have:=h b B;have:=I b z;omega) ?_ λj L=>?_
  .rw [ej,a6 K];exact N
  .rcases O j L with e|e
   .exact h j e
   .omega
def DG{w:J}{rb:Nat}{st:RS}{fp:List Nat}(h:c9 w rb st fp):w.cell? ((ae rb).add 2)=some (.int .i64 st.err):=by obtain⟨s,all,e,rfl,d,_⟩:=h;exact vS d
def Jo{w:J}{rb:Nat}{st:RS}{fp:List Nat}(h:c9 w rb st fp):
  ak aa MH #[.pointer (some (ae rb)),.func (.func vE) #[.pointer (some (ae rb))] #[]] w (pR w rb fp cL ((dc st).1.map bC) (dc st).2):=by
 refine tQ.ok _ _ w _ ((yS h).mono ?_);rintro r x ⟨rfl,j,y⟩;refine⟨_,rfl,_,DG j,?_⟩;unfold dc hO;generalize hq:eS st=q at *;obtain⟨n,d⟩:=q;have Z:=s8 st;have ab:=j.small;rw[hq]at Z;simp only at *;refine bD (λB=>?_) (λB=>?_)
 .have e:d.err≠0:=by simpa using B
  simp only[aj e];exact⟨⟨none,0,0⟩,rfl,Ow.nil _ _,j,y,by simp[aw]⟩
 .have e:d.err=0:=by simpa using B
  simp only[af (show ¬d.err≠0 by simp[e])];have z:ah x x.drew:=Fr.drew _ _;have W:=j.bw z;obtain⟨s,all,k,rfl,A,F,M,G,N⟩:=W;have hn:s.n=all.length:=by simpa using F.1
  have hl:d.V.length=all.length - k:=by rw[<-G];simp
  refine⟨s,s9 A,(k:Int),o9 A,?_⟩;have P:ao .u64 (ao .i64 (((s.n:Nat):Int) - (k:Int)))=(d.V.length:Int):=by rw[aS _ (by omega),IntWalk.u64_in _ (by omega)];omega
  rw[P];refine bD (λC=>?_) (λC=>?_)
  .have Y:=ew C;simp only[aj (show d.V.length<n by omega)];obtain⟨I,K,E,L⟩:=yW A F M N 3;rw[G]at E;rw[aj (show(3:Int)≠0 by decide)];exact⟨I,K,⟨none,0,0⟩,rfl,Ow.nil _ _,E,y.trans (z.nZ.trans L λ_ _ h=>h) λ_ _ h=>h,by simp[aw]⟩
  .have Y:=g5 C;simp only[af (show ¬d.V.length<n by omega),af (show ¬d.err≠0 by simp[e])];obtain⟨D,Q,S,T⟩:=JA kq x.drew .i64 .u64 n (by omega);refine⟨⟨some ⟨x.drew.heap.size,0,none⟩,0,n⟩,D,Q,?_⟩;have H:ah x D:=z.dD T;have U:=j.bw H;have O:d=⟨d.V,0⟩:=by cases d;simp at e;simp[e]
   refine Wp (w0:=w) (rb:=rb) (fp:=rb::aw s) h.lt h.mem n d.V (by omega) ab _ (λr w' hr=>hr) n 0 (by omega) D _ (y.dD H) (by rw[List.drop_zero,<-O];exact U) S ?_;intro ac hx;simp[aw]at hx;have:=y.size;have:=z.size;omega
def Wr{w0:J}{rb:Nat}{fp:List Nat}(Q:∀b∈fp,b<w0.heap.size)(aa:rb∈fp)(n:Nat)(hn:n<=1000000000000)(R:aH):
  ∀(d i:Nat),i+d=n->∀(w:J) (l:Sl) (xs:List Int) (st:RS),xs.length=i->st.err=0->Fr (·=rb) w0 w->c9 w rb st fp->wX w l xs->(∀e∈aw l,w0.heap.size<=e)->
   (∀r C,pR w0 rb fp bR ((if(eQ d st).2.err≠0 then[]else xs++(eQ d st).1).map a') (eQ d st).2 r C->R r C)->
   tR.L0 (ae rb) (ae rb) l (n:Int) (i:Int) w R:=by
 intro d;induction d with
 |zero=>
  intro i Y w l xs st T P E h K x j;obtain rfl:i=n:=by omega
  refine tR.bE _ _ _ _ _ _ _ (a1 (aV (by omega)) (j _ _ ⟨l,rfl,?_,h,E,x⟩));simpa[eQ,P]using K
 |succ d ih=>
  intro i Y w l xs st T P E h K x j;refine tR.bE _ _ _ _ _ _ _ (a3 (aP (by omega)) ?_);refine(lx h).mono ?_;rintro r D ⟨rfl,G,N⟩;have Z:=K.fr N λb H ab=>by have:=x b H;have:=Q rb aa;omega
  have F:Fr (·=rb) w0 D:=E.trans N λ_ _ h=>h;refine⟨_,rfl,_,DG G,?_⟩;simp only[eQ]at j;generalize be st=q at *;obtain⟨e,y⟩:=q;simp only at *;refine bD (λI=>?_) (λI=>?_)
  .have A:y.err≠0:=by simpa using I
   simp only[aj A]at j;exact j _ _ ⟨⟨none,0,0⟩,rfl,Ow.nil _ _,G,F,by simp[aw]⟩
  .have A:y.err=0:=by simpa using I
   simp only[af (show ¬y.err≠0 by simp[A])]at j;have z:ah D (D.alloc (.cells #[.int .i64 e] bR)):=Fr.alloc _ _ _;obtain⟨L,M,U,V,O,W,_⟩:=RW (ty:=iq) (Z.bw z) (one_num D e) (by simp;omega);refine⟨L,M,U,?_⟩;show tR.L0 (ae rb) (ae rb) L (n:Int) (ao .u64 ((i:Int)+1)) M R;rw[show ao .u64 ((i:Int)+1)=((i+1:Nat):Int)from by rw[IntWalk.u64_in _ (by omega)];omega];have ac:=F.size;have ad:=z.size;refine ih (i+1) (by omega) M L _ y (by simp[T]) A ((F.dD z).trans O λe S k=>by have:=x e k;omega) ((G.bw z).fr O λb H k=>by have:=x b k;have:=Q b H;omega) V (λe S=>?_) λr C B=>j r C ?_
   .rcases W e S with h|h
    .exact x e h
    .omega
   .by_cases k:(eQ d y).2.err≠0
    .simp only[aj k]at B ⊢;exact B
    .simp only[af k,cp,List.singleton_append]at B ⊢;exact B
def Wq{w:J}{rb:Nat}{st:RS}{fp:List Nat}(h:c9 w rb st fp):
  ak aa MI #[.pointer (some (ae rb)),.func (.func vD) #[.pointer (some (ae rb))] #[]] w (pR w rb fp bR ((cK st).1.map a') (cK st).2):=by
 refine tR.ok _ _ w _ ((yS h).mono ?_);rintro r z ⟨rfl,e,A⟩;refine⟨_,rfl,_,DG e,?_⟩;unfold cK hO;generalize hq:eS st=q at *;obtain⟨n,d⟩:=q;have ac:=s8 st;have ad:=e.small;rw[hq]at ac;simp only at *;refine bD (λD=>?_) (λD=>?_)
 .have y:d.err≠0:=by simpa using D
  simp only[aj y];exact⟨⟨none,0,0⟩,rfl,Ow.nil _ _,e,A,by simp[aw]⟩
 .have y:d.err=0:=by simpa using D
  simp only[af (show ¬d.err≠0 by simp[y])];have B:ah z z.drew:=Fr.drew _ _;have Z:=e.bw B;obtain⟨s,all,k,rfl,C,H,P,I,Q⟩:=Z;have hn:s.n=all.length:=by simpa using H.1
  have hl:d.V.length=all.length - k:=by rw[<-I];simp
  refine⟨s,s9 C,(k:Int),o9 C,?_⟩;have T:ao .u64 (ao .i64 (((s.n:Nat):Int) - (k:Int)))=(d.V.length:Int):=by rw[aS _ (by omega),IntWalk.u64_in _ (by omega)];omega
  rw[T];refine bD (λE=>?_) (λE=>?_)
  .have ab:=ew E;simp only[aj (show d.V.length<n by omega)];obtain⟨M,N,G,O⟩:=yW C H P Q 3;rw[I]at G;rw[aj (show(3:Int)≠0 by decide)];exact⟨M,N,⟨none,0,0⟩,rfl,Ow.nil _ _,G,A.trans (B.nZ.trans O λ_ _ h=>h) λ_ _ h=>h,by simp[aw]⟩
  .have ab:=g5 E;simp only[af (show ¬d.V.length<n by omega),af (show ¬d.err≠0 by simp[y])];obtain⟨F,U,W,Y⟩:=JA h4 z.drew .i64 .u64 n (by omega);refine⟨⟨some ⟨z.drew.heap.size,0,none⟩,0,n⟩,F,U,?_⟩;have K:ah z F:=B.dD Y;have x:=e.bw K;refine Wr (w0:=w) (rb:=rb) (fp:=rb::aw s) h.lt h.mem n (by omega) _ n 0 (by omega) F _ [] d rfl y (A.dD K) x W ?_ ?_
   .intro ag hx;simp[aw]at hx;have:=A.size;have:=B.size;omega
   .intro r w' L;have S:(if(eQ n d).2.err≠0 then[]else[]++(eQ n d).1)=(eQ n d).1:=by
     by_cases j:(eQ n d).2.err≠0
     .rw [aj j];cases n with
      |zero=>rfl
      |succ n=>
       simp only[eQ]at j ⊢;by_cases e:(be d).2.err≠0
       .simp only[aj e]
       .simp only[af e]at j ⊢;by_cases x:(eQ n (be d).2).2.err≠0
        .simp only[aj x]
        .simp only[af x]at j;exact absurd j x
     .rw [af j];rfl
    rw[S]at L;exact L
def n4{w:J}{rb:Nat}{st:RS}{fp:List Nat}(h:c9 w rb st fp):
  ak aa My #[.pointer (some (ae rb))] w (pR w rb fp bR ((cK st).1.map a') (cK st).2):=by refine QM.ok _ w _ ((Wq h).mono ?_);rintro r e ⟨s,rfl,d⟩;exact⟨s,rfl,s,rfl,d⟩
def Yf{w:J}{rb:Nat}{st:RS}{fp:List Nat}(h:c9 w rb st fp):
  ak aa MA #[.pointer (some (ae rb))] w (uj w rb fp (.string (ba (dc st).1)) (dc st).2):=by refine QO.ok _ w _ ((Jo h).mono ?_);rintro r q ⟨s,rfl,d,e,j,k⟩;exact⟨s,rfl,_,lZ d.rd,rfl,e,j⟩
end Go.Proofs.YthaledkcjibmfaaGreatDoor
