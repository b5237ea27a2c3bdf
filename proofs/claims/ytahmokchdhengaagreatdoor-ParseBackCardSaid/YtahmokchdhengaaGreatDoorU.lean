import Derived.Test.YtahmokchdhengaaGreatDoorW
import Derived.KernelRfl
import Derived.Test.YtahmokchdhengaaGreatDoorProg
import Derived.Lib.AppendStr
import Derived.Laws.IdiomStrings
import Derived.IntWalk
set_option linter.unusedVariables false
set_option linter.defProp false
namespace Go.W
open Go renaming World->J,Calls->aj,Program->aw,Value->aa,TypeId->aD,Ending->cA,FuncId->bU,IntKind->ha
open Go.IntKind renaming wrap->aG
open Go.IntWalk renaming i64_in->bm
open _root_.Bool renaming and_eq_true->a9
open _root_.Nat renaming le_refl->be,le_trans->bp,beq->bG,beq_eq->dZ
open Go.Region renaming wanted->b3,ready->dE
open Go.Proofs.Tryz renaming prog->U
open _root_.Decidable renaming decide->ao
open Go.Ending renaming returned->ae
open List renaming mem_append->aL,mem_cons->aE,not_mem_nil->aZ,mem_of_getElem?->aB,getElem?_eq_getElem->a5,getElem?_eq_some_iff->cr,mem_append_left->bz,mem_append_right->b0,mem_map->cz,mem_singleton->bX,mem_cons_of_mem->cH,drop_eq_getElem_cons->dk,take_add_one->g3,drop_of_length_le->de,take_of_length_le->dM
abbrev Lv:=List (Nat×List aa×aD)
abbrev Sv:=List (Nat×Option (Nat×Nat))
def Sv.get? :Sv->Nat->Option (Nat×Nat)
 |[],_=>none
 |(e,v)::d,t=>bif bG e t then v else Sv.get? d t
def Sv.at(S:Sv):Operand->Option (Nat×Nat)
 |.tmp t=>S.get? t
 |_=>none
def Sv.put(S:Sv)(d:Option Nat)(o:Option (Nat×Nat)):Sv:=match d with
 |some d=>(d,o)::S
 |none=>S
structure TS where
 E:Env
 S:Sv
 L:Lv
 w:J
 d:Bool
abbrev HT:=List (Nat×Option Nat×(J->Prop))
def e9(s:TS)(K:TS->Prop):Prop:=match s.d with
 |true=>loc (gW s.L) s.w λe=>K ⟨s.E,s.S,s.L,e,false⟩
 |false=>K s
def OL:aa->aa->Bool
 |.int d _,.int e _=>d==e
 |.bool _,.bool _=>true
 |.string _,.string _=>true
 |.slice _ _ _,.slice _ _ _=>true
 |.pointer _,.pointer _=>true
 |.map _,.map _=>true
 |.int ..,_|.bool _,_|.string _,_|.slice ..,_|.pointer _,_|.map _,_=>false
 |_,_=>true
def za:List aa->List aa->Bool
 |[],[]=>true
 |e::h,v::d=>OL e v&&za h d
 |_,_=>false
def B7(P:aw)(T:aD)(cs:List aa)(j:Nat)(K:aa->Prop):Prop:=
 cB (wL P T)<|match zeroOf P T with
 |.agg d=>cB (za d.toList ((cs.drop j).take d.size)) (K (.agg ((cs.drop j).take d.size).toArray))
 |.nilFunc=>False
 |e=>match cs[j]? with
  |some v=>cB (OL e v) (K v)
  |none=>False
def H6(P:aw)(T:aD)(f:Nat):Option Nat:=match P.underlying T with
 |some (.struct d)=>match d[f]? with
  |some f=>match P.info? f.type with
   |some i=>bif bG i.size 0 then none else some f.offset
   |none=>none
  |none=>none
 |_=>none
def Qg(P:aw)(o:Oper):Bool:=match o.op with
 |.load ..|.lookup ..=>true
 |.convert s e _=>match P.underlying s,P.underlying e with
  |some (.slice _),some .string=>true
  |some (.pointer _),some .unsafePointer=>true
  |some .unsafePointer,some (.pointer _)=>true
  |_,_=>false
 |.binOp .neq d _ h _=>bif isConst h then false else match P.underlying d with
  |some (.pointer _)=>true
  |_=>false
 |.call {callee:=.builtin .len,args,argTypes}=>match args.toList,argTypes.toList with
  |[_],[d]=>match P.underlying d with
   |some (.map _ _)=>true
   |_=>false
  |_,_=>false
 |_=>false
def zK(P:aw)(o:Oper):Bool:=BO P o||Qg P o
def r9(P:aw)(o:Oper)(s:TS)(K:aa->Option (Nat×Nat)->List (Option Nat×(J->Prop))->TS->Prop):Prop:=
 bif zK P o then e9 s λs=>mG P o s.E s.w λv e=>K v none (e.map λd=>(none,d)) s else mG P o s.E s.w λv e=>K v none (e.map λd=>(none,d)) s
def AV(P:aw)(o:Oper)(s:TS)(K:aa->Option (Nat×Nat)->List (Option Nat×(J->Prop))->TS->Prop):Prop:=
 match o.op with
 |.load h d=>match s.S.at d with
  |some (i,e)=>match s.L[i]? with
   |some X=>B7 P h X.2.1 e λv=>K v none [(some i,λk=>(loadVar h ((ad X.1).add e)).run P k=.ok v k)] s
   |none=>False
  |none=>r9 P o s K
 |.move d|.assign d|.nilCheck d=>match s.S.at d with
  |some q=>K ((s.E.val d).getD undef) (some q) [] s
  |none=>r9 P o s K
 |.fieldAddr h d f=>match s.S.at d with
  |some (i,e)=>match H6 P h f,s.L[i]? with
   |some j,some X=>K (.pointer (some ((ad X.1).add (e+j)))) (some (i,e+j)) [] s
   |_,_=>False
  |none=>r9 P o s K
 |_=>r9 P o s K
def nN(L:Lv)(w V:J)(p:Prop):Prop:=match L with
 |[]=>p
 |L=>kept (gW L) w V/\p
def y8:List aa->Nat->List aa->List aa
 |d,_,[]=>d
 |d,e,v::h=>y8 (d.set e v) (e+1) h
def xB(e:List Nat)(d:Option Nat):Bool:=match d with
 |some d=>e.any (bG d)
 |none=>false
def Eu(bs:List Nat)(p:Addr):List aa->Nat->J->(J->Prop)->Prop
 |[],_,d,e=>e d
 |v::j,i,d,e=>aJ d (p.add i) v λh=>kept bs d h/\Eu bs p j (i+1) h e
abbrev Pk:=Option (aC×List bU)
structure Lk where
 l:List Nat
 pk:Pk
def Pk.of(p:Pk)(f:bU):Option aC:=match p with
 |some (d,l)=>bif l.any (bG f)then some d else none
 |none=>none
def Pk.F(p:Pk):aC:=match p with
 |some (d,_)=>d
 |none=>λ_ _=>False
def lf(bs:List Nat)(P:aw)(f:bU)(args:Array aa)(R:aC)(w:J)(K:aC):Prop:=
 aj P f args w λr d=>(∃c,r=.panicked c/\R (.panicked c) d)\/((∃v,r=ae v)/\kept bs w d/\K r d)
def Dc(s:TS)(cs:List aa)(T:aD)(K:aa->Option (Nat×Nat)->Option Nat->TS->Prop):Prop:=
 sG (gW s.L) s.w λb d=>K (.pointer (some (ad b))) (some (s.L.length,0)) none ⟨s.E,s.S,s.L++[(b,cs,T)],d,false⟩
def w3(P:aw)(q:Pk)(f:bU)(args:Array aa)(h:aa)(s:TS)(K:aa->J->Prop):Prop:=match q.of f with
 |some k=>lf (gW s.L) P f args k s.w λd e=>mQ h λv=>d=ae v/\K v e
 |none=>match s.L with
  |[]=>pT P f args h s.w K
  |j=>fq (gW j) P f args s.w λd e=>mQ h λv=>d=ae v/\K v e
def Bd(P:aw)(j:Lk)(draw:Bool)(o:Oper)(s:TS)(K:aa->Option (Nat×Nat)->Option Nat->TS->Prop):Prop:=
 match o.op with
 |.store e h q=>match s.S.at h with
  |some (i,k)=>match s.L[i]?,s.E.val q with
   |some X,some v=>cB (v.cells.size==(match P.info? e with |some i=>i.size|none=>0)&&v.cells.toList.all sK&&(P.info? e).isSome&&Nat.ble (k+v.cells.size) X.2.1.length) (K undef none (some i) ⟨s.E,s.S,s.L.set i (X.1,y8 X.2.1 k v.cells.toList,X.2.2),s.w,true⟩)
   |_,_=>False
  |none=>e9 s λs=>match s.L with
   |[]=>g0 P o s.E s.w λv d=>K v none none ⟨s.E,s.S,s.L,d,false⟩
   |x=>match s.E.val h,s.E.val q with
    |some (.pointer (some p)),some v=>cB (v.cells.size==(match P.info? e with |some i=>i.size|none=>0)&&v.cells.toList.all sK&&(P.info? e).isSome) (Eu (gW x) p v.cells.toList 0 s.w λd=>K undef none none ⟨s.E,s.S,s.L,d,false⟩)
    |_,_=>False
 |.alloc e=>bif xB j.l o.dst then cB ((P.info? e).bind (·.zero)).isSome (Dc s (zeroOf P e).cells.toList e K)else e9 s λs=>g0 P o s.E s.w λv d=>K v none none ⟨s.E,s.S,s.L,d,false⟩
 |.box e h=>bif xB j.l o.dst then(match s.E.val h with
   |some v=>Dc s v.cells.toList e K
   |none=>False)else e9 s λs=>g0 P o s.E s.w λv d=>K v none none ⟨s.E,s.S,s.L,d,false⟩
 |.buildSlice ..|.makeMap ..=>e9 s λs=>g0 P o s.E s.w λv d=>K v none none ⟨s.E,s.S,s.L,d,false⟩
 |.call {callee:=.value (.func f),args,..}=>e9 s λs=>cB (s.E.eI o) (bif gI P f then w3 P j.pk f (args.map s.E.ev) (zeroOf P o.type) s λv d=>K v none none ⟨s.E,s.S,s.L,d,false⟩
   else xm P f (args.map s.E.ev) (zeroOf P o.type) s.w λv d=>nN s.L s.w d (K v none none ⟨s.E,s.S,s.L,d,false⟩))
 |.call {callee:=.value (.tmp t),args,..}=>e9 s λs=>cB (s.E.eI o) (match s.E.get? t with
   |some (.func (.func f) first captured)=>cB (gI P f) (w3 P j.pk f (first++args.map s.E.ev++captured) (zeroOf P o.type) s λv d=>K v none none ⟨s.E,s.S,s.L,d,false⟩)
   |_=>False)
 |.panic h=>e9 s λs=>match s.E.val h,j.pk with
  |some (.iface t v),some (y,_)=>y (.panicked [{v:=.iface t v,recovered:=false}]) s.w
  |_,_=>False
 |_=>e9 s λs=>(bif draw then g0 else rT) P o s.E s.w λv d=>nN s.L s.w d (K v none none ⟨s.E,s.S,s.L,d,false⟩)
def uV(ops:Array Oper)(j:Nat)(w:J):HT->List Prop
 |[]=>[]
 |(i,f,e)::d=>bif ib ops i j||f.isSome then uV ops j w d else e w::uV ops j w d
def fW(ops:Array Oper)(j:Nat):HT->HT
 |[]=>[]
 |(i,f,e)::d=>bif ib ops i j then fW ops j d else(i,f,e)::fW ops j d
def DW(ops:Array Oper)(j:Nat)(s:TS)(H:HT)(K:TS->Prop):Prop:=
 bif H.any (λp=>!(ib ops p.1 j)&&p.2.1.isNone)then e9 s λs=>rs (uV ops j s.w H) (K s)else K s
def stepT(P:aw)(k:Lk)(ops:Array Oper)(draw:Bool)(i:Nat)(o:Oper)(s:TS)(H:HT)(K:TS->HT->Prop):Prop:=
 bif calm P o then AV P o s λv e j s=>K ⟨s.E.put o.dst v,s.S.put o.dst e,s.L,s.w,s.d⟩ (bif draw then j.map (λh=>(i,h))++H else H)
 else Bd P k draw o s λv e m s=>cB (!((fW ops i H).any λp=>m.isSome&&p.2.1==m)) (DW ops i s H λs=>K ⟨s.E.put o.dst v,s.S.put o.dst e,s.L,s.w,s.d⟩ (fW ops i H))
def mT(P:aw)(e:Lk)(ops:Array Oper)(draw:Bool)(i:Nat)(o:Oper)(d:Nat)(want t:Bool)(s:TS)(H:HT)(K:TS->HT->Prop):Prop:=
 bif (t==want)then stepT P e ops draw i o ⟨(d,.bool t)::s.E,s.S,s.L,s.w,s.d⟩ H K else K ⟨Env.put ((d,.bool t)::s.E) o.dst undef,s.S.put o.dst none,s.L,s.w,s.d⟩ (bif calm P o then H else fW ops i H)
def runT(P:aw)(e:Lk)(ops:Array Oper)(draw:Bool)(K:TS->Prop):List Nat->TS->HT->Prop
 |[],s,_=>K s
 |i::l,s,h=>
  match ops[i]? with
  |none=>False
  |some o=>match o.guard with
   |none=>stepT P e ops draw i o s h λk j=>runT P e ops draw K l k j
   |some (x,want)=>match jC ops x with
    |none=>False
    |some q=>match s.E.get? q with
     |some (.bool t)=>bq t (mT P e ops draw i o q want true s h λk j=>runT P e ops draw K l k j) (mT P e ops draw i o q want false s h λk j=>runT P e ops draw K l k j)
     |some (.tuple _)=>runT P e ops draw K l ⟨Env.put s.E o.dst undef,s.S.put o.dst none,s.L,s.w,s.d⟩ (bif calm P o then h else fW ops i h)
     |_=>False
def uT(P:aw)(j:Lk)(ops:Array Oper)(i:Nat)(s:TS)(H:HT)(e:TS->HT->Prop):Prop:=
 match ops[i]? with
 |none=>False
 |some o=>match o.guard with
  |none=>stepT P j ops true i o s H e
  |some (k,want)=>match jC ops k with
   |none=>False
   |some h=>match s.E.get? h with
    |some (.bool t)=>bq t (mT P j ops true i o h want true s H e) (mT P j ops true i o h want false s H e)
    |some (.tuple _)=>e ⟨Env.put s.E o.dst undef,s.S.put o.dst none,s.L,s.w,s.d⟩ (bif calm P o then H else fW ops i H)
    |_=>False
def pv(P:aw)(e:Lk)(ops:Array Oper)(K:TS->Prop):Tr->TS->HT->Prop
 |.nil,s,_=>K s
 |.one i t,s,d=>uT P e ops i s d λj h=>pv P e ops K t j h
 |.fork a b,s,d=>pv P e ops K a s d/\pv P e ops K b s d
def Tr.sq:List Nat->Tr->Tr
 |[],t=>t
 |i::l,t=>.one i (Tr.sq l t)
def xb(s:TS)(K:TS->Prop):Prop:=match s.L,s.d with
 |[],false=>K ⟨s.E,s.S,s.L,s.w.drew,false⟩
 |_,_=>K ⟨s.E,s.S,s.L,s.w,true⟩
section
variable {P:aw}
structure Inv(s:TS)(w:J):Prop where
 lc:LC w s.L
 rel:if s.d=true then Fr (·∈gW s.L) s.w w else w=s.w
 sl:∀t i j,s.S.get? t=some (i,j)->∃X,s.L[i]? =some X/\s.E.get? t=some (.pointer (some ((ad X.1).add j)))
def Inv.e9{s:TS}{w:J}{K:TS->Prop}(k:Inv s w)(e:W.e9 s K):Inv ⟨s.E,s.S,s.L,w,false⟩ w/\K ⟨s.E,s.S,s.L,w,false⟩:=by
 refine⟨⟨k.lc,by simp,k.sl⟩,?_⟩;unfold W.e9 at e;have j:=k.rel;cases h:s.d with
 |true=>
  rw[h]at e j;exact e w (by simpa using j)
 |false=>
  rw[h]at e j;have:w=s.w:=by simpa using j
  obtain⟨q,y,x,A,z⟩:=s;simp only at h this;subst h this;exact e
def Inv.fr{s:TS}{w:J}(j:Inv s w):Fr (·∈gW s.L) s.w w:=by
 have e:=j.rel;cases h:s.d with
 |true=>rw[h]at e;simpa using e
 |false=>
  rw[h]at e;have:w=s.w:=by simpa using e
  subst this;exact Fr.refl _ _
def Inv.at{s:TS}{w:J}(d:Inv s w){x:Operand}{i j:Nat}(e:s.S.at x=some (i,j)):∃X,s.L[i]? =some X/\s.E.val x=some (.pointer (some ((ad X.1).add j)))/\w.heap[X.1]? =some (.cells X.2.1.toArray X.2.2 (0,0)):=by
 cases x with
 |tmp t=>
  obtain⟨X,h,k⟩:=d.sl t i j e;exact⟨X,h,k,d.lc.own i X h⟩
 |_=>cases e
def OM:∀{e vs:List aa},za e vs=true->vs.length=e.length
 |[],[],_=>rfl
 |h::e,v::vs,d=>by unfold za at d;rw[a9]at d;simp[OM d.2]
def I0{T:aD}{cs:List aa}{j b:Nat}{ty:aD}{K:aa->Prop}(d:B7 P T cs j K):
  ∃v,K v/\∀e:J,e.heap[b]? =some (.cells cs.toArray ty (0,0))->(loadVar T ((ad b).add j)).run P e=.ok v e:=by
 obtain⟨h,d⟩:=dt d;unfold wL at h;have one:∀(v:aa),cs[j]? =some v->(pL P T==some false)=true->∀e:J,e.heap[b]? =some (.cells cs.toArray ty (0,0))->(loadVar T ((ad b).add j)).run P e=.ok v e:=λv y q e z=>
  vM (by simpa using q) (cellAt (p:=ad b) z rfl (by simpa using y))
 cases A:zeroOf P T with
 |agg E=>
  rw[A]at d h;simp only at d h;obtain⟨C,B⟩:=dt d;rw[a9]at h;obtain⟨q,k⟩:=h;cases x:P.info? T with
  |none=>rw[x]at k;simp at k
  |some i=>
   rw[x]at k;simp at k q;refine⟨_,B,λe z=>Oo q x (by rw[k,OM C];simp) λD v w=>?_⟩;rw[add_add];refine cellAt (p:=ad b) z rfl ?_;rw[List.getElem?_take]at w;split at w
   .simpa using w
   .cases w
 |nilFunc=>rw[A]at d;exact d.elim
 |_=>
  rw[A]at d h;simp only at d;split at d
  .rename_i v y;exact⟨v,(dt d).2,one v y h⟩
  .exact d.elim
def SB{o:Oper}{E:Env}{w V:J}{K:aa->List (J->Prop)->Prop}(d:zK P o=false)(e:mG P o E w K):mG P o E V K:=by
 unfold zK at d;rw[Bool.or_eq_false_iff]at d;obtain⟨z,d⟩:=d;unfold mG at e ⊢;rw[z]at e ⊢;simp only[cond_false]at e ⊢;unfold w6 at e ⊢;unfold Qg at d;split at e<;>first |exact e|skip
 all_goals rename_i A
 all_goals rw[A]at d
 .cases d
 .rename_i B _ q;cases B with
  |const c=>exact(q c rfl).elim
  |_=>
   simp only[isConst,cond_false]at d;split
   .rename_i h _ _;simp only[h]at d;cases d
   .split at e
    .rename_i h _ _;simp only[h]at d;cases d
    .exact e
 .cases d
 .split<;>first
   |(rename_i x k _;simp only[x,k]at d;cases d;done)
   |(split at e<;>first
     |(rename_i x k _;simp only[x,k]at d;cases d;done)
     |exact e)
 .split
  .rename_i j y;simp only[j,y]at d e;split
   .rename_i h _;simp only[h]at d;cases d
   .split at e
    .rename_i h _;simp only[h]at d;cases d
    .exact e
  .rename_i q;split at e
   .rename_i j y;exact(q _ _ j y).elim
   .exact e
def wu(P:aw)(o:Oper)(a:Act)(s:TS)(w:J)(v:aa)(q:Option (Nat×Nat))(Ss:List (Option Nat×(J->Prop)))(s':TS):Prop:=
 Inv s' w/\s'.E=s.E/\s'.S=s.S/\s'.L=s.L/\Calm P o a.eval w v (Ss.map (·.2))/\
 (∀p∈Ss,∀i,p.1=some i->∃X,s.L[i]? =some X/\∀e:J,e.heap[X.1]? =some (.cells X.2.1.toArray X.2.2 (0,0))->p.2 e)/\
 (∀i d,q=some (i,d)->∃X,s.L[i]? =some X/\v=.pointer (some ((ad X.1).add d)))
section
variable {o:Oper} {n:Cx} {a:Act} {s:TS} {w:J} {K:aa->Option (Nat×Nat)->List (Option Nat×(J->Prop))->TS->Prop}
def T0(N:∀y b,o.op≠.select y b)(D:Ag n a s.E)(x:Inv s w)(e:r9 P o s K):∃v h d s',K v h d s'/\wu P o a s w v h d s':=by
 have fin:∀(s':TS),s'.E=s.E->s'.S=s.S->s'.L=s.L->Inv s' w->mG P o s.E w (λv d=>K v none (d.map λj=>(none,j)) s')->∃v h d s',K v h d s'/\wu P o a s w v h d s':=λs' z A B k F=>by
  obtain⟨v,d,O,G⟩:=w7 N D F;refine⟨v,none,_,s',O,k,z,A,B,?_,λp I i H=>?_,λi T M=>by cases M⟩
  .rw [List.map_map];have:((λQ:Option Nat×(J->Prop)=>Q.2)∘λj=>((none:Option Nat),j))=id:=rfl;rw[this,List.map_id];exact G
  .obtain ⟨j,_,rfl⟩:=cz.1 I;cases H
 unfold r9 at e;cases q:zK P o with
 |true=>
  rw[q,cond_true]at e;obtain⟨k,C⟩:=x.e9 e;exact fin ⟨s.E,s.S,s.L,w,false⟩ rfl rfl rfl k C
 |false=>
  rw[q,cond_false]at e;exact fin s rfl rfl rfl x (SB q e)
def Sy(hs:∀Z b,o.op≠.select Z b)(F:Ag n a s.E)(z:Inv s w)(d:AV P o s K):∃v q D L,K v q D L/\wu P o a s w v q D L:=by
 have gen:=λd=>T0 (P:=P) (K:=K) hs F z d;have same:∀(x:Operand) (q:Nat×Nat),s.S.at x=some q->(∀w,(execOp a.eval o).run P w=.ok (.value (a.eval x)) w\/∀p,a.eval x≠.pointer (some p))->K ((s.E.val x).getD undef) (some q) [] s->∃v q D L,K v q D L/\wu P o a s w v q D L:=λx q h H e=>by
  obtain⟨X,A,k,_⟩:=z.at (i:=q.1) (j:=q.2) h;have W:=F.val k;refine⟨_,_,_,s,e,z,rfl,rfl,rfl,⟨λQ B=>(by cases B),λM _=>?_⟩,λp C=>(by cases C),λi I G=>?_⟩
  .rcases H M with H|H
   .rw [H,k,W];rfl
   .exact (H _ W).elim
  .cases G;exact⟨X,A,by rw[k];rfl⟩
 unfold AV at d;split at d
 .rename_i O x y;split at d
  .rename_i i I h;obtain⟨X,A,k,T⟩:=z.at h;rw[A]at d;obtain⟨v,e,Y⟩:=I0 (b:=X.1) (ty:=X.2.2) d;refine⟨v,_,_,s,e,z,rfl,rfl,rfl,⟨λQ B=>?_,λM af=>?_⟩,λp C i' ab=>?_,λi I G=>by cases G⟩
   .simp only[List.map_cons,List.map_nil,aE,aZ,a2]at B;subst B;exact Y w T
   .have:(loadVar O ((ad X.1).add I)).run P M=.ok v M:=af (λw=>(loadVar O ((ad X.1).add I)).run P w=.ok v w) (by simp);simp[execOp,y,Instr.loadAt,F.val k,Instr.sureAddr,this]
   .simp only[aE,aZ,a2]at C;subst C;cases ab;exact⟨X,A,Y⟩
  .exact gen d
 .rename_i x y;split at d
  .rename_i q h;exact same x q h (λw=>.inl (by simp[execOp,y])) d
  .exact gen d
 .rename_i x y;split at d
  .rename_i q h;exact same x q h (λw=>.inl (by simp[execOp,y])) d
  .exact gen d
 .rename_i x y;split at d
  .rename_i q h;refine same x q h (λw=>?_) d;obtain⟨X,_,k,_⟩:=z.at (i:=q.1) (j:=q.2) h;exact .inl (by simp[execOp,y,F.val k])
  .exact gen d
 .rename_i O x f y;split at d
  .rename_i i I h;obtain⟨X,A,k,T⟩:=z.at h;split at d
   .rename_i ag X' e V;rw[A]at V;cases V;refine⟨_,_,_,s,d,z,rfl,rfl,rfl,⟨λQ B=>(by cases B),λM _=>?_⟩,λp C=>(by cases C),λi' j' G=>?_⟩
    .unfold H6 at e;split at e
     .rename_i fs hu;split at e
      .rename_i fd hf;split at e
       .rename_i inf ac;cases N:bG inf.size 0 with
        |true=>rw[N]at e;cases e
        |false=>
         rw[N]at e;cases e;have ae:inf.size≠0:=λaa=>by rw[aa]at N;cases N
         simp[execOp,y,F.val k,Instr.fieldAt,run_underlying hu,hf,Instr.sureAddr,fieldPlace,sizeOf,typeInfo,ac,ae,add_add]
       .cases e
      .cases e
     .cases e
    .cases G;exact⟨X,A,rfl⟩
   .exact d.elim
  .exact gen d
 .exact gen d
end
def q'(s:TS)(K:aa->Option (Nat×Nat)->Option Nat->TS->Prop)(v:aa)(V:J):Prop:=
 ∃h m d,K v h m d/\Inv d V/\d.E=s.E/\d.S=s.S/\(∀i X,s.L[i]? =some X->m≠some i->d.L[i]? =some X)/\
  (∀i e,h=some (i,e)->∃X,d.L[i]? =some X/\v=.pointer (some ((ad X.1).add e)))
def Oj{o:Oper}{ρ:Operand->aa}{T:aD}{h:aa}(j:o.op=.alloc T)(d:(P.info? T).bind (·.zero)=some h)(w:J):
  (execOp ρ o).run P w=.ok (.value (.pointer (some (ad w.heap.size)))) (w.alloc (.cells h.cells T)):=by
 cases e:P.info? T with
 |none=>rw[e]at d;cases d
 |some i=>
  rw[e]at d;have k:i.zero=some h:=d;simp[execOp,j,Instr.alloc,zeroValue,typeInfo,e,k,newVar,newRow]
def Ol{o:Oper}{ρ:Operand->aa}{T:aD}{x:Operand}(d:o.op=.box T x)(w:J):
  (execOp ρ o).run P w=.ok (.value (.pointer (some (ad w.heap.size)))) (w.alloc (.cells (ρ x).cells T)):=by simp[execOp,d,Instr.box,newVar,newRow]
def UT{L:Lv}{w V:J}{p:Prop}(d:nN L w V p)(H:LC w L):LC V L/\p:=by
 cases L with
 |nil=>exact⟨LC.nil _,d⟩
 |cons e L=>exact⟨H.nN d.1,d.2⟩
section
variable {o:Oper} {n:Cx} {a:Act} {s:TS} {w:J} {K:aa->Option (Nat×Nat)->Option Nat->TS->Prop}
def GI{f:bU}{args:Array aa}{K:aa->J->Prop}(q:(execOp a.eval o).run P w=.ok (.enter f args) w)(h:aj P f args w λd e=>∃v,d=ae v/\K v e):ir P o a w K:=by intro x;unfold Oper.wp;rw[q];simp only[Oper.upon];refine Calls.mono h λd e j=>?_;obtain⟨v,rfl,k⟩:=j;exact⟨v,rfl,k⟩
def py(F:aC)(P:aw)(o:Oper)(a:Act)(w:J)(K:aa->J->Prop):Prop:=
 ∀e:Exit->Act->J->Prop,(∀c d,F (.panicked c) d->e (.panic c) a d)->o.wp P a w (λh d=>∃v,h=a.put o.dst v/\K v d) e
def ir.p{F:aC}{K:aa->J->Prop}(e:ir P o a w K):py F P o a w K:=λd _=>e d
def GJ{z:Pk}{f:bU}{args:Array aa}{S:aa}{K:aa->J->Prop}(q:(execOp a.eval o).run P w=.ok (.enter f args) w)(H:LC w s.L)(x:s.w=w)(d:w3 P z f args S s K):py z.F P o a w λv h=>LC h s.L/\K v h:=by
 unfold w3 at d;split at d
 .rename_i C e;intro V I;rw[x]at d;unfold Oper.wp;rw[q];simp only[Oper.upon];refine Calls.mono d λA h j=>?_;have E:z.F=C:=by
   unfold Pk.of at e;split at e
   .rename_i W l;cases B:l.any (bG f)with
    |true=>rw[B]at e;cases e;rfl
    |false=>rw[B]at e;cases e
   .cases e
  rcases j with⟨c,rfl,Q⟩|⟨_,N,y⟩
  .exact I c h (by rw[E];exact Q)
  .obtain ⟨v,rfl,k⟩:=oN y;exact⟨v,rfl,H.nN N,k⟩
 split at d
 .rename_i G;rw[x]at d;refine ir.p (GI q (Calls.mono d λA h j=>?_));obtain⟨v,rfl,k⟩:=oN j;exact⟨v,rfl,by rw[G];exact LC.nil _,k⟩
 .rw [x]at d;obtain⟨T,O,M⟩:=d;refine ir.p (GI q (Calls.mono M λA h j=>?_));obtain⟨D,y⟩:=j;obtain⟨v,rfl,k⟩:=oN y;exact⟨v,rfl,H.fr D O,k⟩
def LW{cs:Array aa}{T:aD}(y:(execOp a.eval o).run P w=.ok (.value (.pointer (some (ad w.heap.size)))) (w.alloc (.cells cs T)))(d:Inv s w)(q:Dc s cs.toList T K):ir P o a w (q' s K):=by
 intro z;unfold Oper.wp;rw[y];simp only[Oper.upon];refine⟨_,rfl,_,_,_,q w.heap.size (w.alloc (.cells cs T)) d.fr.size (size_alloc _ _) (d.fr.gE (Fr.alloc _ _ _)),⟨d.lc.push cs T,by simp,λt i k e=>?_⟩,rfl,rfl,λi X j _=>?_,λi k e=>?_⟩
 .obtain ⟨X,h,x⟩:=d.sl t i k e;exact⟨X,by rw[List.getElem?_append_left (cr.1 h).1];exact h,x⟩
 .rw [List.getElem?_append_left (cr.1 j).1];exact j
 .cases e;exact⟨(w.heap.size,cs.toList,T),by simp,by rw[iz]⟩
def O0{i j b:Nat}{T:aD}{A:J}{K:J->Prop}:∀(vs:List aa) (k:Nat) (w:J) (L:Lv) (cs:List aa),LC w L->L[i]? =some (b,cs,T)->j+k+vs.length<=cs.length->Fr (·∈gW L) A w->
  (∀e,LC e (L.set i (b,y8 cs (j+k) vs,T))->Fr (·∈gW L) A e->K e)->qT ((ad b).add j) vs k w K
 |[],k,w,L,cs,h,d,z,f,q=>by
  refine q w ?_ f;have:L.set i (b,cs,T)=L:=by
   apply List.ext_getElem?;intro m;rw[List.getElem?_set];split
   .rename_i B;subst B;split
    .exact d.symm
    .rename_i C;exact absurd (cr.1 d).1 C
   .rfl
  rw[show y8 cs (j+k) []=cs from rfl,this];exact h
 |v::vs,k,w,L,cs,h,d,z,f,q=>by
  simp only[List.length_cons]at z;obtain⟨D,E,F,G⟩:=h.set (v:=v) i (j+k) d (by omega) f
  unfold qT;rw[add_add];refine⟨D,E,O0 (i:=i) (T:=T) vs (k+1) _ _ (cs.set (j+k) v) F ?_ (by rw[List.length_set];omega) G λe x y=>?_⟩
  .rw [List.getElem?_set_self (cr.1 d).1]
  .rw [List.set_set]at x;rw[AA L i d]at y;exact q e x y
def OZ{L:Lv}{p:Addr}{K K':J->Prop}(j:∀h,LC h L->K h->K' h):∀(vs:List aa) (i:Nat) (w:J),LC w L->Eu (gW L) p vs i w K->qT p vs i w K'
 |[],_,w,d,e=>j w d e
 |v::vs,i,w,d,e=>by obtain⟨k,q,x,y⟩:=e;exact⟨k,q,OZ j vs (i+1) _ (d.nN x) y⟩
def Ql{b:Bool}{p:Prop}(d:b=true)(e:p):cB b p:=by subst d;exact e
def Hg{E:Env}{T:aD}{x y:Operand}{p:Addr}{v:aa}{K:aa->J->Prop}(h:o.op=.store T x y)(j:E.val x=some (.pointer (some p)))(k:E.val y=some v)(e:(v.cells.size==(match P.info? T with |some i=>i.size|none=>0)&&v.cells.toList.all sK&&(P.info? T).isSome)=true)(d:qT p v.cells.toList 0 w λq=>K undef q):g0 P o E w K:=by unfold g0;rw[h];simp only[j,k];exact Ql e d
def Oq{ρ:Operand->aa}{nx:Next}{V:J}(e:(∃h,o.op=.alloc h)\/(∃h A,o.op=.box h A)\/(∃h l p,o.op=.buildSlice h l p)\/(∃h r,o.op=.makeMap h r))(d:(execOp ρ o).run P w=.ok nx V):ah w V:=by
 rcases e with⟨h,e⟩|⟨h,A,e⟩|⟨h,l,p,e⟩|⟨h,r,e⟩
 .cases q:(P.info? h).bind (·.zero)with
  |some B=>
   rw[Oj e q]at d;cases d;exact Fr.alloc _ _ _
  |none=>
   exfalso;cases k:P.info? h with
   |none=>simp[execOp,e,Instr.alloc,zeroValue,typeInfo,k]at d
   |some i=>
    rw[k]at q;have D:i.zero=none:=q;simp[execOp,e,Instr.alloc,zeroValue,typeInfo,k,D]at d
 .rw [Ol e]at d;cases d;exact Fr.alloc _ _ _
 .cases j:P.underlying h with
  |none=>simp[execOp,e,Instr.buildSlice,underlying,j]at d
  |some u=>
   cases u<;>first |(simp[execOp,e,Instr.buildSlice,run_underlying j]at d;done)|skip
   rename_i C;cases k:P.info? C with
   |none=>simp[execOp,e,Instr.buildSlice,run_underlying j,sizeOf,typeInfo,k]at d
   |some i=>
    by_cases z:l *i.size>2^24
    .simp [execOp,e,Instr.buildSlice,run_underlying j,sizeOf,typeInfo,k,z]at d
    by_cases y:l *i.size=0
    .simp [execOp,e,Instr.buildSlice,run_underlying j,sizeOf,typeInfo,k,y]at d;split at d
     .simp [newRow]at d;obtain⟨_,rfl⟩:=d;exact Fr.alloc _ _ _
     .simp at d
    .simp [execOp,e,Instr.buildSlice,run_underlying j,sizeOf,typeInfo,k,z,y]at d;cases q:i.zero with
     |none=>simp[zeroValue,typeInfo,k,q]at d
     |some B=>
      simp[zeroValue,typeInfo,k,q]at d;split at d
      .simp [newRow]at d;obtain⟨_,rfl⟩:=d;exact Fr.alloc _ _ _
      .simp at d
 .cases r with
  |none=>
   simp[execOp,e,Instr.makeMap]at d;obtain⟨_,rfl⟩:=d;exact Fr.alloc _ _ _
  |some r=>
   cases j:P.underlying h with
   |none=>simp[execOp,e,Instr.makeMap,underlying,j]at d
   |some u=>
    cases u<;>first |(simp[execOp,e,Instr.makeMap,run_underlying j]at d;done)|skip
    cases x:ρ r with
    |int F B=>
     simp[execOp,e,Instr.makeMap,run_underlying j,x,Go.asInt,Go.asIntOf]at d;obtain⟨_,rfl⟩:=d;exact Fr.alloc _ _ _
    |pointer E=>cases E<;>simp[execOp,e,Instr.makeMap,run_underlying j,x,Go.asInt,Go.asIntOf]at d
    |_=>simp[execOp,e,Instr.makeMap,run_underlying j,x,Go.asInt,Go.asIntOf]at d
def Wi{K:aa->J->Prop}(B:∀y b,o.op≠.select y b)(z:Ag n a s.E)(e:(∃d,o.op=.alloc d)\/(∃d x,o.op=.box d x)\/(∃d l p,o.op=.buildSlice d l p)\/(∃d r,o.op=.makeMap d r))(j:g0 P o s.E w K):ir P o a w λv q=>ah w q/\K v q:=by
 have h:r2 P o s.E w K:=by unfold g0 at j;rcases e with⟨d,e⟩|⟨d,x,e⟩|⟨d,l,p,e⟩|⟨d,r,e⟩<;>rw[e]at j<;>exact j
 obtain⟨A,h⟩:=dt h;intro C;unfold Oper.wp;rw[z.execOp B A];generalize k:(execOp s.E.ev o).run P w=r at h;split at h
 .simp only[Oper.upon];exact⟨_,rfl,Oq e k,h⟩
 .simp only[Oper.upon];exact⟨_,rfl,Oq e k,h⟩
 .exact h.elim
def Tm{draw:Bool}{Z:Lk}(A:(aa->J->Prop)->Prop)(hp:∀K,py Z.pk.F P o a w K->A K)(h1:∀K,(bif draw then g0 else rT) P o s.E w K->A K)(H:∀K ac,(∀v e,K v e->ac v e)->A K->A ac)(hs:∀cs b,o.op≠.select cs b)(D:Ag n a s.E)(k:Inv s w)(d:Bd P Z draw o s K):A (q' s K):=by
 have G:∀K,ir P o a w K->A K:=λK d=>hp K d.p;have back:∀v e,LC e s.L->K v none none ⟨s.E,s.S,s.L,e,false⟩->q' s K v e:=λv e C h=>⟨none,none,_,h,⟨C,by simp,k.sl⟩,rfl,rfl,λi X d _=>d,λi ag hq=>by cases hq⟩;have ae:∀v e,nN s.L w e (K v none none ⟨s.E,s.S,s.L,e,false⟩)->q' s K v e:=λv e h=>by obtain⟨C,h⟩:=UT h k.lc;exact back v e C h
 have news:((∃q,o.op=.alloc q)\/(∃q B,o.op=.box q B)\/(∃q l p,o.op=.buildSlice q l p)\/(∃q r,o.op=.makeMap q r))->e9 s (λs=>g0 P o s.E s.w λv e=>K v none none ⟨s.E,s.S,s.L,e,false⟩)->A (q' s K):=λj d=>by obtain⟨_,y⟩:=k.e9 d;exact H _ _ (λv e ⟨f,h⟩=>back v e (k.lc.fr (M:=λ_=>False) f (λ_ _ d=>d)) h) (G _ (Wi hs D j y))
 unfold Bd at d;split at d
 .rename_i q B ao j;split at d
  .rename_i i ag I;obtain⟨X,O,g2,_⟩:=k.at I;split at d
   .rename_i X' v af W;rw[O]at af;cases af;obtain⟨z,h⟩:=dt d;rw[a9]at z;obtain⟨z,hb⟩:=z;have hb:=Nat.le_of_ble_eq_true hb;refine G _ (mK hs D (Hg j g2 W z ?_));refine O0 (i:=i) (T:=X.2.2) _ 0 w s.L X.2.1 k.lc O (by simpa using hb) k.fr λe q1 q2=>?_;refine⟨none,some i,_,h,⟨q1,?_,λt Y j' ht=>?_⟩,rfl,rfl,λY ad hY ak=>?_,λi ag hq=>by cases hq⟩
    .simp only[if_true];rw[AA s.L i O];exact q2
    .obtain ⟨ad,y1,y2⟩:=k.sl t Y j' ht;by_cases N:i=Y
     .subst N;rw[O]at y1;cases y1;exact⟨_,List.getElem?_set_self (cr.1 O).1,y2⟩
     .exact ⟨ad,by rw[List.getElem?_set_ne N];exact y1,y2⟩
    .have N:i≠Y:=λN=>ak (by rw[N]);show(s.L.set i _)[Y]? =_;rw[List.getElem?_set_ne N];exact hY
   .exact d.elim
  .obtain ⟨_,y⟩:=k.e9 d;simp only at y;split at y
   .rename_i hL;exact H _ _ (λv e h=>back v e (hL▸LC.nil _) h) (G _ (mK hs D y))
   .split at y
    .rename_i p v I hy;obtain⟨z,h⟩:=dt y;exact H _ _ (λv e h=>h) (G _ (mK hs D (Hg j I hy z (OZ (K':=q' s K undef) (λe C h=>back _ e C h) _ _ _ k.lc h))))
    .exact y.elim
 .rename_i q j;cases V:xB Z.l o.dst with
  |true=>
   rw[V,cond_true]at d;obtain⟨hz,d⟩:=dt d;obtain⟨an,hz⟩:=Option.isSome_iff_exists.1 hz;have:zeroOf P q=an:=by unfold zeroOf;rw[hz];rfl
   rw[this]at d;exact G _ (LW (Oj j hz w) k d)
  |false=>
   rw[V,cond_false]at d;exact news (.inl ⟨q,j⟩) d
 .rename_i q B j;cases V:xB Z.l o.dst with
  |true=>
   rw[V,cond_true]at d;split at d
   .rename_i v W;have:=Ol (P:=P) (ρ:=a.eval) j w;rw[D.val W]at this;exact G _ (LW this k d)
   .exact d.elim
  |false=>
   rw[V,cond_false]at d;exact news (.inr (.inl ⟨q,B,j⟩)) d
 .rename_i q l p j;exact news (.inr (.inr (.inl ⟨q,l,p,j⟩))) d
 .rename_i q r j;exact news (.inr (.inr (.inr ⟨q,r,j⟩))) d
 .rename_i f args am j;obtain⟨I',d⟩:=k.e9 d;obtain⟨z,d⟩:=dt d;have ab:args.map a.eval=args.map s.E.ev:=D.args λB I=>List.all_eq_true.1 z B (by rw[j];simp[Op.operands,Call.operands,I]);cases Q:gI P f with
  |true=>
   rw[Q,cond_true]at d;exact H _ _ (λv e ⟨C,h⟩=>back v e C h) (hp _ (GJ (s:=⟨s.E,s.S,s.L,w,false⟩) (by simp[execOp,j,resolve,Act.eval,Deferred.ofValue,invoke,ab,rI Q]) k.lc rfl d))
  |false=>
   rw[Q,cond_false]at d;unfold xm at d;obtain⟨v,e,hr,h⟩:=oN d;refine H _ _ ae (G _ λah=>?_);unfold Oper.wp;have:(execOp a.eval o).run P w=.ok (.value v) e:=by simp[execOp,j,resolve,Act.eval,Deferred.ofValue,invoke,ab,hr]
   rw[this];simp only[Oper.upon];exact⟨_,rfl,h⟩
 .rename_i t args am j;obtain⟨I',d⟩:=k.e9 d;obtain⟨z,d⟩:=dt d;have ab:args.map a.eval=args.map s.E.ev:=D.args λB I=>List.all_eq_true.1 z B (by rw[j];simp[Op.operands,Call.operands,I]);split at d
  .rename_i f first captured hf
   obtain⟨Q,d⟩:=dt d;have aj:a.eval (.tmp t)=.func (.func f) first captured:=D.val (x:=.tmp t) hf
   exact H _ _ (λv e ⟨C,h⟩=>back v e C h) (hp _ (GJ (s:=⟨s.E,s.S,s.L,w,false⟩) (by simp[execOp,j,resolve,aj,Deferred.ofValue,invoke,ab,rI Q]) k.lc rfl d))
  .exact d.elim
 .rename_i B j;obtain⟨I',y⟩:=k.e9 d;split at y
  .rename_i t v R l W al;refine hp _ λah hQ=>?_;have hF:Z.pk.F=R:=by rw[al];rfl
   rw[hF]at hQ;have ai:a.eval B=.iface t v:=D.val W;unfold Oper.wp;have:(execOp a.eval o).run P w=.halt (.panic (.iface t v)) w:=by simp[execOp,j,ai,Instr.panic,goPanic,Sem.run]
   rw[this];exact hQ _ w y
  .exact y.elim
 .obtain ⟨_,y⟩:=k.e9 d;exact H _ _ ae (h1 _ y)
end
def HI(s:TS)(H:HT)(w:J):Prop:=∀p∈H,p.2.2 w/\∀i,p.2.1=some i->∃X,s.L[i]? =some X/\∀d:J,d.heap[X.1]? =some (.cells X.2.1.toArray X.2.2 (0,0))->p.2.2 d
def eV(H:HT):dT:=H.map λp=>(p.1,p.2.2)
def sc{ops:Array Oper}{j:Nat}:∀d:HT,cM ops j (eV d)=eV (fW ops j d)
 |[]=>rfl
 |(i,f,e)::d=>by
  show cM ops j ((i,e)::eV d)=eV (fW ops j ((i,f,e)::d));unfold cM fW;cases ib ops i j
  .simp only[cond_false];rw[sc d];rfl
  .simp only[cond_true];exact sc d
def mX{ops:Array Oper}{j:Nat}:∀{H:HT} {p},p∈fW ops j H->p∈H/\ib ops p.1 j=false
 |(i,f,h)::H,p,d=>by
  unfold fW at d;cases e:ib ops i j with
  |true=>
   rw[e,cond_true]at d;exact⟨cH _ (mX d).1,(mX d).2⟩
  |false=>
   rw[e,cond_false]at d;rcases aE.1 d with rfl|d
   .exact ⟨List.mem_cons_self,e⟩
   .exact ⟨cH _ (mX d).1,(mX d).2⟩
def Io{ops:Array Oper}{j:Nat}{w:J}:∀{H:HT} {p},p∈H->ib ops p.1 j=false->p.2.1=none->p.2.2 w∈uV ops j w H
 |(i,f,k)::H,p,d,h,e=>by
  unfold uV;rcases aE.1 d with rfl|d
  .simp only at h e;rw[h,e];exact List.mem_cons_self
  .have:=Io (w:=w) d h e;cases(ib ops i j||f.isSome)
   .exact cH _ this
   .exact this
def Inv.put{s:TS}{w:J}(j:Inv s w)(d:Option Nat){v:aa}{q:Option (Nat×Nat)}(z:∀i h,q=some (i,h)->∃X,s.L[i]? =some X/\v=.pointer (some ((ad X.1).add h))):Inv ⟨s.E.put d v,s.S.put d q,s.L,s.w,s.d⟩ w:=by
 refine⟨j.lc,j.rel,λt i h e=>?_⟩;cases d with
 |none=>exact j.sl t i h e
 |some d=>
  simp only[Sv.put,Sv.get?]at e;simp only[Env.put,Env.get?];cases y:bG d t with
  |true=>
   rw[y,cond_true]at e;obtain⟨X,k,x⟩:=z i h e;exact⟨X,k,by simp[x]⟩
  |false=>
   rw[y,cond_false]at e;obtain⟨X,k,x⟩:=j.sl t i h e;exact⟨X,k,by simpa using x⟩
def XI{ops:Array Oper}{j:Nat}{s e:TS}{w V:J}{m:Option Nat}{H:HT}{K:TS->Prop}(M:HI s H w)(z:Inv e V)(N:∀i X,s.L[i]? =some X->m≠some i->e.L[i]? =some X)(D:(!((fW ops j H).any λp=>m.isSome&&p.2.1==m))=true)(k:DW ops j e H K):
  ∃h,K h/\Inv h V/\h.E=e.E/\h.S=e.S/\h.L=e.L/\HI h (fW ops j H) V:=by
 have C:∀p∈fW ops j H,∀i,p.2.1=some i->∃X,e.L[i]? =some X/\∀V:J,V.heap[X.1]? =some (.cells X.2.1.toArray X.2.2 (0,0))->p.2.2 V:=λp d i y=>by obtain⟨X,A,B⟩:=(M p (mX d).1).2 i y;refine⟨X,N i X A λG=>?_,B⟩;simp only[Bool.not_eq_true',List.any_eq_false]at D;exact D p d (by rw[G,y];simp)
 have own:∀p∈fW ops j H,∀i,p.2.1=some i->p.2.2 V:=λp d i y=>by obtain⟨X,A,B⟩:=C p d i y;exact B V (z.lc.own i X A)
 unfold DW at k;cases x:H.any (λp=>!(ib ops p.1 j)&&p.2.1.isNone)with
 |true=>
  rw[x,cond_true]at k;obtain⟨F,I⟩:=z.e9 k;obtain⟨O,P⟩:=ru I;refine⟨_,P,F,rfl,rfl,rfl,λp d=>⟨?_,C p d⟩⟩;cases q:p.2.1 with
  |none=>exact O _ (Io (mX d).1 (mX d).2 q)
  |some i=>exact own p d i q
 |false=>
  rw[x,cond_false]at k;refine⟨e,k,z,rfl,rfl,rfl,λp d=>⟨?_,C p d⟩⟩;cases q:p.2.1 with
  |none=>
   exfalso;rw[List.any_eq_false]at x;exact x p (mX d).1 (by rw[(mX d).2,q];rfl)
  |some i=>exact own p d i q
section
variable {ops:Array Oper} {n:Cx} {lv:Lk}
def Ez{o:Oper}{a:Act}{s:TS}{w:J}{H:HT}{K:TS->HT->Prop}{draw:Bool}{i:Nat}(A:(aa->J->Prop)->Prop)(V:∀K,py lv.pk.F P o a w K->A K)(I:∀K,(bif draw then g0 else rT) P o s.E w K->A K)(k:∀K j,(∀v d,K v d->j v d)->A K->A j)(Z:∀B b,o.op≠.select B b)(N:Ag n a s.E)(x:Inv s w)(L:HI s H w)(Q:calm P o=false)(e:stepT P lv ops draw i o s H K):
  A λv d=>∃h,K h (fW ops i H)/\Inv h d/\HI h (fW ops i H) d/\h.E=s.E.put o.dst v:=by unfold stepT at e;rw[Q,cond_false]at e;refine k _ _ (λv d S=>?_) (Tm A V I k Z N x e);obtain⟨ac,m,s1,T,y,C,e2,M,W⟩:=S;obtain⟨O,Y⟩:=dt T;obtain⟨s2,k2,z,D,f2,G,q⟩:=XI L y M O Y;refine⟨_,k2,z.put o.dst λi ab e=>?_,q,by rw[D,C]⟩;rw[G];exact W i ab e
def O3{o:Oper}{a:Act}{s:TS}{w:J}{H:HT}{K:TS->HT->Prop}{draw:Bool}{i:Nat}(V:∀F b,o.op≠.select F b)(M:Ag n a s.E)(C:Inv s w)(I:HI s H w)(N:calm P o=true)(h:stepT P lv ops draw i o s H K):
  ∃v k e q,K e q/\Inv e w/\HI e q w/\e.E=s.E.put o.dst v/\Calm P o a.eval w v k/\eV q=(bif draw then k.map (λj=>(i,j))++eV H else eV H):=by
 unfold stepT at h;rw[N,cond_true]at h;obtain⟨v,aa,k,e,Q,D,G,Z,x,z,S,T⟩:=Sy V M C h;refine⟨v,k.map (·.2),_,_,Q,D.put o.dst λi Y h=>?_,λp d=>?_,by rw[G],z,?_⟩
 .rw [x];exact T i Y h
 .have A:p∈H->p.2.2 w/\∀i,p.2.1=some i->∃X,e.L[i]? =some X/\∀B:J,B.heap[X.1]? =some (.cells X.2.1.toArray X.2.2 (0,0))->p.2.2 B:=λd=>by rw[x];exact I p d
  cases draw with
  |false=>exact A d
  |true=>
   rcases aL.1 d with d|d
   .obtain ⟨j,y,rfl⟩:=cz.1 d;refine⟨z.1 _ (cz.2 ⟨j,y,rfl⟩),λW O=>?_⟩;simp only;rw[x];exact S j y W O
   .exact A d
 .cases draw with
  |false=>rfl
  |true=>simp[eV]
def BK{i d:Nat}{o:Oper}{want t:Bool}{s:TS}{H:HT}{K:TS->HT->Prop}{draw:Bool}(e:bq t (mT P lv ops draw i o d want true s H K) (mT P lv ops draw i o d want false s H K)):mT P lv ops draw i o d want t s H K:=by
 cases t
 .exact e
 .exact e
def Inv.same{s:TS}{w:J}(e:Inv s w){d:Nat}{v:aa}(hd:s.E.get? d=some v):Inv ⟨(d,v)::s.E,s.S,s.L,s.w,s.d⟩ w:=by
 refine⟨e.lc,e.rel,λt i y x=>?_⟩;obtain⟨X,k,h⟩:=e.sl t i y x;refine⟨X,k,?_⟩;simp only[Env.get?];by_cases j:d=t
 .subst j;rw[hd]at h;cases h;simp
 .have q:bG d t=false:=by rw[<-Bool.not_eq_true,dZ];exact j
  rw[q,cond_false];exact h
def Inv.skip{s:TS}{w:J}(e:Inv s w)(d:Option Nat):Inv ⟨s.E.put d undef,s.S.put d none,s.L,s.w,s.d⟩ w:=e.put d λi j h=>by cases h
def HI.skip{s s':TS}{w:J}{H:HT}(d:HI s H w)(e:s'.L=s.L):HI s' H w:=λp h=>by rw[e];exact d p h
def HI.drop{s:TS}{w:J}{H:HT}{j:Nat}(d:HI s H w):HI s (fW ops j H) w:=λp e=>d p (mX e).1
def HI.held{s:TS}{w:J}{H:HT}(d:HI s H w):∀p∈eV H,p.2 w:=λp e=>by obtain⟨j,h,rfl⟩:=cz.1 e;exact(d j h).1
def rn(n:Cx)(F:aC)(Q:Exit->Act->J->Prop):Prop:=∀c (a:Act) w,a.defers=n.ds->F (.panicked c) w->Q (.panic c) a w
def E6(F:aC)(P:aw)(n:Cx)(o:Oper)(a:Act)(w:J)(K:aa->J->Prop):Prop:=
 ∀e:Exit->Act->J->Prop,(∀c d,F (.panicked c) d->e (.panic c) a d)->o.wpIn (FW n) 0 P a w (λh d=>∃v,h=a.put o.dst v/\K v d) e
def Z0{F:aC}{i:Nat}{o:Oper}{a:Act}{w:J}{Kv:aa->J->Prop}{K':Act->J->Prop}{Q:Exit->Act->J->Prop}(h:rn n F Q)(hd:a.defers=n.ds)(q:ops[i]? =some o)(y:b3 o (yielded ops a.tmps)=true)(e:E6 F P n o a w Kv)(k:∀v d,Kv v d->K' (a.put o.dst v) d):wpOpIn (FW n) 0 P ops Q i K' a w:=by unfold wpOpIn;simp only[q,y,if_true];exact Oper.wpIn_mono (λz d=>by rintro⟨v,rfl,x⟩;exact k v d x) (e Q λc d j=>h c a d hd j)
def Qh{F:aC}{i:Nat}{o:Oper}{a:Act}{w:J}{Kv:aa->J->Prop}{K':Act->J->Prop}{Q:Exit->Act->J->Prop}(h:rn n F Q)(hd:a.defers=n.ds)(q:ops[i]? =some o)(y:b3 o (yielded ops a.tmps)=true)(e:py F P o a w Kv)(k:∀v d,Kv v d->K' (a.put o.dst v) d):wpOp P ops Q i K' a w:=by unfold wpOp;simp only[q,y,if_true];exact .inl (Oper.wp_mono (λz d=>by rintro⟨v,rfl,x⟩;exact k v d x) (e Q λc d j=>h c a d hd j))
def yY{K:TS->Prop}{Q:Exit->Act->J->Prop}(I:rn n lv.pk.F Q)(k:di n ops=true):∀(l:List Nat) (s:TS) (w:J) (a:Act),Ag n a s.E->Inv s w->runT P lv ops false K l s []->(∀x y V,Ag n V x.E->Inv x y->K x->Q .normal V y)->wpOpsIn (FW n) 0 P ops Q l a w
 |[],s,w,a,h,q,e,G=>G s w a h q e
 |i::l,s,w,a,h,q,e,G=>by
  have aa:=Region.noSelect_spec (ops:=ops) (by unfold di at k;rw[a9]at k;exact k.1);unfold runT at e;cases j:ops[i]? with
  |none=>rw[j]at e;exact e.elim
  |some o=>
   rw[j]at e;simp only at e;have step:∀(s:TS),Ag n a s.E->Inv s w->b3 o (yielded ops a.tmps)=true->stepT P lv ops false i o s [] (λx H=>runT P lv ops false K l x H)->wpOpsIn (FW n) 0 P ops Q (i::l) a w:=λs h q O e=>by
    rw[wpOpsIn_cons];cases hc:calm P o with
    |true=>
     obtain⟨v,Ss,x,H,k1,T,_,W,ac,ae⟩:=O3 (λC b=>aa i o C b j) h q (λp Z=>by cases Z) hc e;have:H=[]:=by cases H with |nil=>rfl|cons ai l=>cases ae
     subst this;refine E2 (Kv:=λv' y=>v'=v/\y=w) j O ?_ ?_
     .refine ir.in (sM k j) λA=>?_;unfold Oper.wp;rw[ac.2 w ac.1];exact⟨v,rfl,rfl,rfl⟩
     .rintro v' y ⟨rfl,rfl⟩;exact yY I k l x _ _ (by rw[W];exact h.put _ (gz k j)) T k1 G
    |false=>
     refine Z0 I h.defers j O (Ez (draw:=false) (s:=s) (E6 lv.pk.F P n o a w) (λK Y A hq=>E4 (sM k j) (Y A hq)) (λK Y A _=>Hh (λC b=>aa i o C b j) (sM k j) h Y A) (λK K' af hA A hq=>Oper.wpIn_mono (λV y ⟨v,ad,hv⟩=>⟨v,ad,af v y hv⟩) (hA A hq)) (λC b=>aa i o C b j) h q (λp Z=>by cases Z) hc e) λv y ⟨x,k1,T,_,W⟩=>?_;exact yY I k l x y _ (by rw[W];exact h.put v (gz k j)) T k1 G
   have skip:∀(s:TS),Ag n a s.E->Inv s w->b3 o (yielded ops a.tmps)=false->runT P lv ops false K l ⟨s.E.put o.dst undef,s.S.put o.dst none,s.L,s.w,s.d⟩ []->wpOpsIn (FW n) 0 P ops Q (i::l) a w:=λs h q O e=>by rw[wpOpsIn_cons];unfold wpOpIn;simp only[j,O];exact⟨λ_ _=>trivial,yY I k l _ w _ (h.put undef (gz k j)) (q.skip o.dst) e G⟩
   have ab:(bif calm P o then([]:HT)else fW ops i [])=[]:=by cases calm P o<;>rfl
   cases B:o.guard with
   |none=>
    rw[B]at e;exact step s h q (by simp[b3,B]) e
   |some jw=>
    obtain⟨ag,want⟩:=jw;rw[B]at e;simp only at e;cases N:jC ops ag with
    |none=>rw[N]at e;exact e.elim
    |some ah=>
     rw[N]at e;simp only at e;split at e
     .rename_i t z;have hy:=q3 h N z;have D:=BK e;unfold mT at D;cases M:(t==want)with
      |true=>
       rw[M,cond_true]at D;exact step _ (h.same z) (q.same z) (by simp[b3,B,hy];simpa using M) D
      |false=>
       rw[M,cond_false,ab]at D;exact skip _ (h.same z) (q.same z) (by simp[b3,B,hy];simpa using M) D
     .rename_i vs z;rw[ab]at e;exact skip s h q (by simp[b3,B,q4 h N z]) e
     .exact e.elim
def fb(n:Cx)(F:aC)(K:TS->Prop):Exit->Act->J->Prop
 |.normal,a,d=>∃s,Ag n a s.E/\Inv s d/\K s
 |.panic c,a,d=>a.defers=n.ds/\F (.panicked c) d
 |_,_,_=>False
def fb.q{F:aC}{K:TS->Prop}:rn n F (fb n F K):=λ_ _ _ d e=>⟨d,e⟩
def fb.put{F:aC}{K:TS->Prop}{c:List PanicEntry}{a:Act}{w:J}{d:Option Nat}{v:aa}(e:fb n F K (.panic c) (a.put d v) w):fb n F K (.panic c) a w:=by cases d<;>exact e
def Yr{i:Nat}{o:Oper}{a:Act}{w:J}{H:dT}{e:Array Bool}{fuel:Nat}{Q:Exit->Act->J->Prop}(h:di n ops=true)(j:ops[i]? =some o)(d:(bif calm P o then Region.free .any ops e i&&(dE .any ops e).contains i else dE .any ops e==[i])=true)(B:∀c a w,Q (.panic c) (a.put o.dst undef) w->Q (.panic c) a w)(q:∀p∈H,p.2 w)(A:b3 o (yielded ops a.tmps)=false)(next:dO P ops Q fuel (bif calm P o then H else cM ops i H) (e.setIfInBounds i true) (a.put o.dst undef) w):dO P ops Q (fuel+1) H e a w:=by
 have E:=Region.noSelect_spec (ops:=ops) (by unfold di at h;rw[a9]at h;exact h.1);cases x:calm P o with
 |true=>
  rw[x]at d next
  simp only[cond_true]at d next
  rw[a9]at d;exact zL (v:=undef) (Ss:=[]) j E B fuel H e a w (Region.free_spec j d.1) (by simpa using d.2) (.inr ⟨A,rfl⟩) (λF C=>(by cases C)) q (by simpa using next)
 |false=>
  rw[x]at d next
  simp only[cond_false]at d next
  have z:dE .any ops e=[i]:=by simpa using d
  refine λ_=>⟨λk=>(by rw[z]at k;cases k),λG y=>?_⟩;rw[z]at y;obtain rfl:=bX.1 y;unfold wpOp;simp only[j,A];exact⟨λp D=>q p (e6.1 D).1,next⟩
def Uv{o:Oper}{i:Nat}{H:HT}:(bif calm P o then eV H else cM ops i (eV H))=eV (bif calm P o then H else fW ops i H):=by
 cases calm P o
 .exact sc H
 .rfl
def HI.zb{o:Oper}{i:Nat}{s s':TS}{w:J}{H:HT}(d:HI s H w)(e:s'.L=s.L):HI s' (bif calm P o then H else fW ops i H) w:=by
 cases calm P o
 .exact d.drop.skip e
 .exact d.skip e
def Ul(B:di n ops=true){K:TS->Prop}{i:Nat}{o:Oper}{s:TS}{w:J}{H:HT}{a:Act}{Q:TS->HT->Prop}{y:Array Bool}{fuel:Nat}(k:ops[i]? =some o)(G:(bif calm P o then Region.free .any ops y i&&(dE .any ops y).contains i else dE .any ops y==[i])=true)(h:Ag n a s.E)(x:Inv s w)(j:HI s H w)(e:uT P lv ops i s H Q)(next:∀a' A z I,Ag n a' A.E->Inv A z->HI A I z->Q A I->dO P ops (fb n lv.pk.F K) fuel (eV I) (y.setIfInBounds i true) a' z):dO P ops (fb n lv.pk.F K) (fuel+1) (eV H) y a w:=by
 have Y:=Region.noSelect_spec (ops:=ops) (by unfold di at B;rw[a9]at B;exact B.1);have step:∀(s:TS),Ag n a s.E->Inv s w->HI s H w->b3 o (yielded ops a.tmps)=true->stepT P lv ops true i o s H Q->dO P ops (fb n lv.pk.F K) (fuel+1) (eV H) y a w:=λs h x j ac e=>by
  cases V:calm P o with
  |true=>
   rw[V,cond_true,a9]at G;obtain⟨v,ad,A,I,k1,I',O,e1,ab,aa⟩:=O3 (λM b=>Y i o M b k) h x j V e;refine zL (v:=v) (Ss:=ad) k Y (λ_ _ _ e=>e.put) fuel (eV H) y a w (Region.free_spec k G.1) (by simpa using G.2) (.inl ⟨ac,λz ag=>ab.2 z ag⟩) ab.1 j.held ?_;rw[cond_true]at aa;rw[<-aa];exact next _ A w I (by rw[e1];exact h.put v (gz B k)) I' O k1
  |false=>
   rw[V,cond_false]at G;have hr:dE .any ops y=[i]:=by simpa using G
   refine λ_=>⟨λh0=>(by rw[hr]at h0;cases h0),λZ hj=>?_⟩;rw[hr]at hj;obtain rfl:=bX.1 hj;refine Qh fb.q h.defers k ac (Ez (draw:=true) (s:=s) (py lv.pk.F P o a w) (λK hK=>hK) (λK hK=>(mK (λM b=>Y Z o M b k) h hK).p) (λK K' af hA Q' hq=>Oper.wp_mono (λa' z ⟨v,zq,hv⟩=>⟨v,zq,af v z hv⟩) (hA Q' hq)) (λM b=>Y Z o M b k) h x j V e) λv z ⟨A,k1,I',O,e1⟩=>?_;rw[sc];exact⟨O.held,next _ A z _ (by rw[e1];exact h.put v (gz B k)) I' O k1⟩
 have skip:∀(s:TS),Ag n a s.E->Inv s w->HI s H w->b3 o (yielded ops a.tmps)=false->Q ⟨s.E.put o.dst undef,s.S.put o.dst none,s.L,s.w,s.d⟩ (bif calm P o then H else fW ops i H)->dO P ops (fb n lv.pk.F K) (fuel+1) (eV H) y a w:=λs h x j hw e=>by refine Yr B k G (λ_ _ _ e=>e.put) j.held hw ?_;rw[Uv];exact next _ _ w _ (h.put undef (gz B k)) (x.skip o.dst) (j.zb rfl) e
 unfold uT at e;rw[k]at e;simp only at e;cases D:o.guard with
 |none=>
  rw[D]at e;exact step s h x j (by simp[b3,D]) e
 |some jw=>
  obtain⟨Z,want⟩:=jw;rw[D]at e;simp only at e;cases W:jC ops Z with
  |none=>rw[W]at e;exact e.elim
  |some ah=>
   rw[W]at e;simp only at e;split at e
   .rename_i t C;have hy:=q3 h W C;have N:=BK e;unfold mT at N;cases T:(t==want)with
    |true=>
     rw[T,cond_true]at N;exact step _ (h.same C) (x.same C) (j.skip rfl) (by simp[b3,D,hy];simpa using T) N
    |false=>
     rw[T,cond_false]at N;exact skip _ (h.same C) (x.same C) (j.skip rfl) (by simp[b3,D,hy];simpa using T) N
   .rename_i vs C;exact skip s h x j (by simp[b3,D,q4 h W C]) e
   .exact e.elim
def Um(G:di n ops=true){K:TS->Prop}{i:Nat}{o:Oper}{s:TS}{w:J}{H:HT}{a:Act}{I:TS->HT->Prop}{O:Array Bool}{fuel:Nat}(z:ops[i]? =some o)(Y:calm P o=false)(j:Ag n a s.E)(y:Inv s w)(x:HI s H w)(e:uT P lv ops i s H I)(next:∀k C h Q,Ag n k C.E->Inv C h->HI C Q h->I C Q->dO P ops (fb n lv.pk.F K) fuel (eV Q) (O.setIfInBounds i true) k h):
  wpOp P ops (fb n lv.pk.F K) i (λk h=>(∀p∈cM ops i (eV H),p.2 h)/\dO P ops (fb n lv.pk.F K) fuel (cM ops i (eV H)) (O.setIfInBounds i true) k h) a w:=by
 have Z:=Region.noSelect_spec (ops:=ops) (by unfold di at G;rw[a9]at G;exact G.1);have step:∀(s:TS),Ag n a s.E->Inv s w->HI s H w->b3 o (yielded ops a.tmps)=true->stepT P lv ops true i o s H I->wpOp P ops (fb n lv.pk.F K) i (λk h=>(∀p∈cM ops i (eV H),p.2 h)/\dO P ops (fb n lv.pk.F K) fuel (cM ops i (eV H)) (O.setIfInBounds i true) k h) a w:=λs j y x ac e=>by refine Qh fb.q j.defers z ac (Ez (draw:=true) (s:=s) (py lv.pk.F P o a w) (λK V=>V) (λK V=>(mK (λT b=>Z i o T b z) j V).p) (λK K' ab hA Q' hq=>Oper.wp_mono (λk h ⟨v,aa,hv⟩=>⟨v,aa,ab v h hv⟩) (hA Q' hq)) (λT b=>Z i o T b z) j y x Y e) λv h ⟨C,k1,I',W,e1⟩=>?_;rw[sc];exact⟨W.held,next _ C h _ (by rw[e1];exact j.put v (gz G z)) I' W k1⟩
 have skip:∀(s:TS),Ag n a s.E->Inv s w->HI s H w->b3 o (yielded ops a.tmps)=false->I ⟨s.E.put o.dst undef,s.S.put o.dst none,s.L,s.w,s.d⟩ (bif calm P o then H else fW ops i H)->wpOp P ops (fb n lv.pk.F K) i (λk h=>(∀p∈cM ops i (eV H),p.2 h)/\dO P ops (fb n lv.pk.F K) fuel (cM ops i (eV H)) (O.setIfInBounds i true) k h) a w:=λs j y x hw e=>by refine Em z x.held hw ?_;rw[Y,cond_false]at e;rw[sc];exact next _ _ w _ (j.put undef (gz G z)) (y.skip o.dst) (x.drop.skip rfl) e
 unfold uT at e;rw[z]at e;simp only at e;cases B:o.guard with
 |none=>
  rw[B]at e;exact step s j y x (by simp[b3,B]) e
 |some jw=>
  obtain⟨ad,want⟩:=jw;rw[B]at e;simp only at e;cases N:jC ops ad with
  |none=>rw[N]at e;exact e.elim
  |some ae=>
   rw[N]at e;simp only at e;split at e
   .rename_i t A;have hy:=q3 j N A;have D:=BK e;unfold mT at D;cases M:(t==want)with
    |true=>
     rw[M,cond_true]at D;exact step _ (j.same A) (y.same A) (x.skip rfl) (by simp[b3,B,hy];simpa using M) D
    |false=>
     rw[M,cond_false]at D;exact skip _ (j.same A) (y.same A) (x.skip rfl) (by simp[b3,B,hy];simpa using M) D
   .rename_i vs A;exact skip s j y x (by simp[b3,B,q4 j N A]) e
   .exact e.elim
def wa(G:di n ops=true){K:TS->Prop}:∀(t:Tr) (alt:Bool) (e:Array Bool) (s:TS) (w:J) (H:HT) (a:Act) (m:Nat),hN P ops t alt e=true->Ag n a s.E->Inv s w->HI s H w->pv P lv ops K t s H->
  (alt=false->t.len=m->dO P ops (fb n lv.pk.F K) m (eV H) e a w)/\
  (alt=true->t.len=m+1->∀i∈t.i9,wpOp P ops (fb n lv.pk.F K) i (λy k=>(∀p∈cM ops i (eV H),p.2 k)/\dO P ops (fb n lv.pk.F K) m (cM ops i (eV H)) (e.setIfInBounds i true) y k) a w)
 |.nil,alt,e,s,w,H,a,m,d,A,x,D,h=>by
  unfold hN at d;rw[a9]at d;refine⟨λ_ j=>?_,λz=>?_⟩
  .subst j;exact λ_=>⟨by simpa using d.2,s,A,x,h⟩
  .subst z;simp at d
 |.one i t,alt,e,s,w,H,a,m,d,A,x,D,h=>by
  unfold hN at d;rw[a9]at d;obtain⟨d,ab⟩:=d;cases L:ops[i]? with
  |none=>rw[L]at d;cases d
  |some o=>
   rw[L]at d;simp only at d;unfold pv at h;refine⟨λz j=>?_,λz j ad hj=>?_⟩
   .subst z j;exact Ul G L d A x D h λy Y k N O S Q T=>(wa G t false _ Y k N y _ ab O S Q T).1 rfl rfl
   .subst z;rw[cond_true]at d;obtain rfl:=bX.1 hj;have V:t.len=m:=by simpa[Tr.len]using j
    exact Um G L (by simpa using d) A x D h λy Y k N O S Q T=>(wa G t false _ Y k N y _ ab O S Q T).1 rfl V
 |.fork C M,alt,e,s,w,H,a,m,d,A,x,D,h=>by
  unfold hN at d;simp only[a9]at d;obtain⟨hr,Z,W,hy⟩:=d;rw[dZ]at Z;unfold pv at h;have both:∀q,C.len=q+1->∀i∈(Tr.fork C M).i9,wpOp P ops (fb n lv.pk.F K) i (λy k=>(∀p∈cM ops i (eV H),p.2 k)/\dO P ops (fb n lv.pk.F K) q (cM ops i (eV H)) (e.setIfInBounds i true) y k) a w:=λq I i B=>by
   rcases aL.1 B with B|B
   .exact (wa G C true e s w H a q W A x D h.1).2 rfl I i B
   .exact (wa G M true e s w H a q hy A x D h.2).2 rfl (Z▸I) i B
  refine⟨λz j=>?_,λ_ j=>both m j⟩;subst z;obtain⟨q,I⟩:=EP C e W;have V:m=q+1:=by rw[<-j,<-I];rfl
  subst V;have aa:dE .any ops e=(Tr.fork C M).i9:=by simpa using hr
  have ac:(Tr.fork C M).i9≠[]:=by have:=EO C e W;simp[Tr.i9,this]
  exact λ_=>⟨λh0=>absurd (aa▸h0) ac,λi B=>both q I i (aa▸B)⟩
def XL{c:Code}{a:Act}{s:TS}{w:J}{K:TS->Prop}(d:qI n c=true)(z:Ag n a s.E)(k:Inv s w)(y:runT P lv (Code.ops c) false K (List.range (Code.ops c).size) s []):gn P n c (fb n lv.pk.F K) a w:=by
 unfold qI at d;split at d
 .rename_i id ops x;rw[a9]at d;obtain⟨e,h⟩:=d;have j:x=false:=by simpa using e
  subst j;exact wpIn_region (yY fb.q h _ s w a z k y λA C B e h j=>⟨A,e,h,j⟩)
 .cases d
def Inv.dr{s:TS}{w:J}{K:TS->Prop}(e:Inv s w)(d:xb s K):∃h,K h/\Inv h w.drew/\h.E=s.E:=by
 have lc:LC w.drew s.L:=e.lc.fr (M:=λ_=>False) (Fr.drew _ _) (λ_ _ d=>d);unfold xb at d;split at d
 .rename_i q k;have j:=e.rel;rw[k]at j;have:w=s.w:=by simpa using j
  exact⟨_,d,⟨lc,by simp[this],e.sl⟩,rfl⟩
 .exact ⟨_,d,⟨lc,by simpa using e.fr.gE (Fr.drew _ _),e.sl⟩,rfl⟩
def XJ{c:Code}{a:Act}{s:TS}{w:J}{K:TS->Prop}{t:Tr}(d:s4 P n c t=true)(A:Ag n a s.E)(k:Inv s w)(e:xb s λs=>pv P lv (Code.ops c) K t s []):gn P n c (fb n lv.pk.F K) a w:=by
 unfold s4 at d;split at d
 .rename_i id ops I;simp only[a9]at d;obtain⟨rfl,D,j,C,h⟩:=d;rw[dZ]at h;obtain⟨H,B,q,x⟩:=k.dr e;have y:=(wa j t false _ H w.drew [] a _ C (by rw[x];exact A) q (λp G=>(by cases G)) B).1 rfl h;have z:=wm _ [] _ _ _ (Down.zero _ _) y;refine wpIn_region_draw λt=>?_;refine q1 j (λ⟨_,_,e⟩=>e) _ _ _ ?_;simp only[Region.schedule,D,Bool.true_or,if_true];exact wpAny_sound ops.size t _ a _ z
 .cases d
end
end
abbrev KT:=Exit->TS->Prop
structure mD where
 ord:Nat->Option Tr
 pt:List Bool->Option (TS->Prop)
 lv:Lk
def o5(e:mD)(q:List Bool)(f:TS->Prop)(s:TS):Prop:=match e.pt q with
 |some d=>e9 s d
 |none=>f s
def OB(e:mD)(q:List Bool)(f:TS->Prop)(K:KT):KT:=λd s=>match d with
 |.normal=>o5 e q f s
 |d=>K d s
def wV(id:Nat)(K:KT):KT:=λd s=>match d with
 |.exit e=>if e=id then K .normal s else K (.exit e) s
 |d=>K d s
def hZ(P:aw)(n:Cx)(h:mD):Code->List Bool->KT->TS->Prop
 |.skip,_,d,s=>d .normal s
 |.region id ops true,_,d,s=>match h.ord id with
  |some t=>cB (s4 P n (.region id ops true) t) (xb s λs=>pv P h.lv ops (d .normal) t s [])
  |none=>False
 |.region id ops false,_,d,s=>cB (qI n (.region id ops false)) (runT P h.lv ops false (d .normal) (List.range ops.size) s [])
 |.seq a b,e,d,s=>hZ P n h a (false::e) (OB h (true::e) (hZ P n h b (true::e) d) d) s
 |.cond o a b,e,d,s=>hG (s.E.val o) (o5 h (false::e) (hZ P n h a (false::e) d) s) (o5 h (true::e) (hZ P n h b (true::e) d) s)
 |.block id a,e,d,s=>hZ P n h a (false::e) (wV id d) s
 |.loop _,e,_,s=>o5 h e (λ_=>False) s
 |.exit id,_,d,s=>d (.exit id) s
 |.ret,_,d,s=>d .ret s
 |_,_,_,_=>False
section
variable {P:aw} {n:Cx} {tb:mD}
def fN(P:aw)(n:Cx)(k:Code)(j:Exit->Act->J->Prop):List Bool->Code×(Exit->Act->J->Prop)
 |[]=>(k,j)
 |b::q=>match fN P n k j q,b with
  |(.seq e h,d),false=>(e,Exit.then (gn P n h d) d)
  |(.seq _ h,d),true=>(h,d)
  |(.cond _ e _,d),false=>(e,d)
  |(.cond _ _ h,d),true=>(h,d)
  |(.block id e,d),_=>(e,Exit.inBlock id d)
  |(.loop e,d),_=>(e,Exit.then (oC P n e d) d)
  |(_,d),_=>(.skip,d)
def q7(P:aw)(n:Cx)(p:Code×(Exit->Act->J->Prop))(a:Act)(w:J):Prop:=match p with
 |(.loop e,d)=>oC P n e d a w
 |(c,d)=>gn P n c d a w
def q7.wp{c:Code}{Q:Exit->Act->J->Prop}{a:Act}{w:J}(d:q7 P n (c,Q) a w):gn P n c Q a w:=by
 unfold q7 at d;split at d
 .rename_i k h e;cases e;exact Qi d
 .rename_i j h _ e;cases e;exact d
def KQ(n:Cx)(F:aC)(K:KT)(Q:Exit->Act->J->Prop):Prop:=(∀d s e a,Ag n a s.E->Inv s e->K d s->Q d a e)/\rn n F Q
def rp(P:aw)(n:Cx)(tb:mD)(k:Code)(j:Exit->Act->J->Prop):Prop:=∀e d,tb.pt e=some d->∀s h a,Ag n a s.E->Inv s h->d s->q7 P n (fN P n k j e) a h
variable {c0:Code} {Q0:Exit->Act->J->Prop}
def vu(y:rp P n tb c0 Q0){q:List Bool}{c:Code}{Q:Exit->Act->J->Prop}(B:fN P n c0 Q0 q=(c,Q)){f:TS->Prop}{s:TS}{w:J}{a:Act}(z:Ag n a s.E)(h:Inv s w)(A:f s->gn P n c Q a w)(d:o5 tb q f s):gn P n c Q a w:=by
 unfold o5 at d;split at d
 .rename_i e x;obtain⟨j,k⟩:=h.e9 d;have:=y q e x ⟨s.E,s.S,s.L,w,false⟩ w a z j k;rw[B]at this;exact this.wp
 .exact A d
def N3{F:aC}{c:Code}{K:TS->Prop}{Q:Exit->Act->J->Prop}{a:Act}{w:J}(x:rn n F Q)(k:gn P n c (fb n F K) a w)(q:∀s w a,Ag n a s.E->Inv s w->K s->Q .normal a w):gn P n c Q a w:=
 wpIn_mono k λj e h d=>by
  cases j with
  |normal=>obtain⟨s',hA,hI,hK⟩:=d;exact q s' h e hA hI hK
  |panic c=>exact x c e h d.1 d.2
  |_=>exact d.elim
def nG(A:rp P n tb c0 Q0):∀(c:Code) (q:List Bool) (K:KT) (Q:Exit->Act->J->Prop) (s:TS) (w:J) (a:Act),fN P n c0 Q0 q=(c,Q)->KQ n tb.lv.pk.F K Q->Ag n a s.E->Inv s w->hZ P n tb c q K s->gn P n c Q a w
 |.skip,q,K,Q,s,w,a,k,e,h,j,d=>wpIn_skip (e.1 _ _ _ _ h j d)
 |.region id ops true,q,K,Q,s,w,a,k,e,h,j,d=>by
  unfold hZ at d;split at d
  .obtain ⟨y,z⟩:=dt d;exact N3 e.2 (XJ (c:=.region id ops true) y h j z) λs w a y z N=>e.1 _ _ _ _ y z N
  .exact d.elim
 |.region id ops false,q,K,Q,s,w,a,k,e,h,j,d=>by unfold hZ at d;obtain⟨y,z⟩:=dt d;exact N3 e.2 (XL (c:=.region id ops false) y h j z) λs w a y z N=>e.1 _ _ _ _ y z N
 |.seq B L,q,K,Q,s,w,a,k,e,h,j,d=>by
  unfold hZ at d;have I:fN P n c0 Q0 (false::q)=(B,Exit.then (gn P n L Q) Q):=by unfold fN;rw[k]
  have M:fN P n c0 Q0 (true::q)=(L,Q):=by unfold fN;rw[k]
  refine wpIn_seq (nG A B (false::q) _ _ s w a I ⟨λx S T O H D C=>?_,λc a w y z=>e.2 c a w y z⟩ h j d);cases x with
  |normal=>exact vu A M H D (λG=>nG A L (true::q) K Q S T O M e H D G) C
  |_=>exact e.1 _ _ _ _ H D C
 |.cond o B L,q,K,Q,s,w,a,k,e,h,j,d=>by
  unfold hZ at d;have I:fN P n c0 Q0 (false::q)=(B,Q):=by unfold fN;rw[k]
  have M:fN P n c0 Q0 (true::q)=(L,Q):=by unfold fN;rw[k]
  unfold hG at d;split at d
  .rename_i t V;refine wpIn_cond_split (h.val V) (λx=>?_) (λx=>?_)
   .subst x;exact vu A I h j (λG=>nG A B (false::q) K Q s w a I e h j G) d
   .subst x;exact vu A M h j (λG=>nG A L (true::q) K Q s w a M e h j G) d
  .exact d.elim
 |.block id B,q,K,Q,s,w,a,k,e,h,j,d=>by
  unfold hZ at d;have I:fN P n c0 Q0 (false::q)=(B,Exit.inBlock id Q):=by unfold fN;rw[k]
  refine wpIn_block (nG A B (false::q) _ _ s w a I ⟨λx S T O H D C=>?_,λc a w y z=>e.2 c a w y z⟩ h j d);cases x with
  |exit W=>
   simp only[wV]at C;simp only[Exit.inBlock];split at C
   .rename_i x;rw[ag x];exact e.1 _ _ _ _ H D C
   .rename_i x;rw[ab x];exact e.1 _ _ _ _ H D C
  |_=>exact e.1 _ _ _ _ H D C
 |.loop B,q,K,Q,s,w,a,k,e,h,j,d=>by unfold hZ at d;exact vu A k h j (λG=>G.elim) d
 |.exit id,q,K,Q,s,w,a,k,e,h,j,d=>wpIn_exit (e.1 _ _ _ _ h j d)
 |.ret,q,K,Q,s,w,a,k,e,h,j,d=>wpIn_ret (e.1 _ _ _ _ h j d)
 |.rangeFunc ..,_,_,_,_,_,_,_,_,_,_,d=>d.elim
 |.scope _,_,_,_,_,_,_,_,_,_,_,d=>d.elim
 |.label _,_,_,_,_,_,_,_,_,_,_,d=>d.elim
 |.goto _,_,_,_,_,_,_,_,_,_,_,d=>d.elim
 |.refuse _,_,_,_,_,_,_,_,_,_,_,d=>d.elim
def xR(tb:mD)(q:List Bool)(K:KT):KT:=λd s=>match d with
 |.normal=>o5 tb q (λ_=>False) s
 |d=>K d s
def nM(P:aw)(n:Cx)(tb:mD)(c0:Code)(k:KT):List Bool->Code×KT
 |[]=>(c0,k)
 |b::j=>match nM P n tb c0 k j,b with
  |(.seq e h,d),false=>(e,OB tb (true::j) (hZ P n tb h (true::j) d) d)
  |(.seq _ h,d),true=>(h,d)
  |(.cond _ e _,d),false=>(e,d)
  |(.cond _ _ h,d),true=>(h,d)
  |(.block id e,d),_=>(e,wV id d)
  |(.loop e,d),_=>(e,xR tb j d)
  |(_,d),_=>(.skip,d)
def B0(C:rp P n tb c0 Q0){A:KT}(K:KQ n tb.lv.pk.F A Q0):∀h:List Bool,(nM P n tb c0 A h).1=(fN P n c0 Q0 h).1/\KQ n tb.lv.pk.F (nM P n tb c0 A h).2 (fN P n c0 Q0 h).2
 |[]=>⟨rfl,K⟩
 |b::h=>by
  obtain⟨B,d⟩:=B0 C K h;unfold nM fN;generalize M:fN P n c0 Q0 h=p at B d;generalize nM P n tb c0 A h=k at B d;obtain⟨c,I⟩:=p;obtain⟨V,T⟩:=k;simp only at B d;subst B;cases V with
  |seq G H=>
   cases b with
   |false=>
    refine⟨rfl,λx s j a w q e=>?_,λc a j y z=>d.2 c a j y z⟩;cases x with
    |normal=>
     have N:fN P n c0 Q0 (true::h)=(H,I):=by unfold fN;rw[M]
     exact vu C N w q (λD=>nG C H (true::h) T I s j a N d w q D) e
    |_=>exact d.1 _ _ _ _ w q e
   |true=>exact⟨rfl,d⟩
  |cond o G H=>cases b<;>exact⟨rfl,d⟩
  |block id G=>
   cases b<;>(
    refine⟨rfl,λx s j a w q e=>?_,λc a j y z=>d.2 c a j y z⟩;cases x with
    |exit Y=>
     simp only[wV]at e;simp only[Exit.inBlock];split at e
     .rename_i x;rw[ag x];exact d.1 _ _ _ _ w q e
     .rename_i x;rw[ab x];exact d.1 _ _ _ _ w q e
    |_=>exact d.1 _ _ _ _ w q e)
  |loop G=>
   cases b<;>(
    refine⟨rfl,λx s j a w q e=>?_,λc a j y z=>d.2 c a j y z⟩;cases x with
    |normal=>
     simp only[xR,o5]at e;split at e
     .rename_i O W;obtain⟨Q,D⟩:=q.e9 e;have:=C h O W ⟨s.E,s.S,s.L,j,false⟩ j a w Q D;rw[M]at this;exact this
     .exact e.elim
    |_=>exact d.1 _ _ _ _ w q e)
  |_=>cases b<;>exact⟨rfl,d⟩
def A'(P:aw)(n:Cx)(tb:mD)(c0:Code)(e:KT)(q:List Bool)(s:TS):Prop:=match nM P n tb c0 e q with
 |(.loop h,d)=>hZ P n tb h (false::q) (xR tb q d) s
 |(c,d)=>hZ P n tb c q d s
def SP(x:rp P n tb c0 Q0){d:KT}(C:KQ n tb.lv.pk.F d Q0){q:List Bool}{s:TS}{w:J}{a:Act}(G:Ag n a s.E)(A:Inv s w)(e:A' P n tb c0 d q s):q7 P n (fN P n c0 Q0 q) a w:=by
 obtain⟨h,j⟩:=B0 x C q;have D:=B0 x C (false::q);unfold A' at e;generalize H:fN P n c0 Q0 q=p at h j;generalize L:nM P n tb c0 d q=k at e h j;obtain⟨c,z⟩:=p;obtain⟨K,B⟩:=k;simp only at h j;subst h;cases K with
 |loop y=>
  have I:fN P n c0 Q0 (false::q)=(y,Exit.then (oC P n y z) z):=by unfold fN;rw[H]
  have M:nM P n tb c0 d (false::q)=(y,xR tb q B):=by unfold nM;rw[L]
  rw[I,M]at D;exact Jj (nG x y (false::q) _ _ s w a I D.2 G A e)
 |_=>exact nG x _ q B z s w a H j G A e
end
section
variable {P:aw}
def oa(P:aw)(s:TS):List ResultVar->(List aa->Prop)->Prop
 |[],d=>d []
 |.tmp t::l,d=>match s.E.get? t with
  |some v=>oa P s l λe=>d (v::e)
  |none=>False
 |.cell j h::l,d=>match s.S.get? j with
  |some (i,k)=>match s.L[i]? with
   |some X=>B7 P h X.2.1 k λv=>oa P s l λe=>d (v::e)
   |none=>False
  |none=>match s.E.get? j with
   |some (.pointer (some p))=>mU P h p s.w λv _=>oa P s l λe=>d (v::e)
   |_=>False
def s6(P:aw)(fn:Func)(R:aC):KT:=λd s=>match d with
 |.normal|.ret=>e9 s λs=>oa P s fn.results.toList λe=>R (ae (DA e)) s.w
 |_=>False
def D6{n:Cx}{a:Act}{s:TS}{w:J}(q:Ag n a s.E)(k:Inv s w)(B:s.w=w):∀{l:List ResultVar} {K:List aa->Prop},oa P s l K->
  ∃e,(l.mapM (n9 a.tmps)).run P w=.ok e w/\K e
 |[],K,d=>⟨[],by simp,d⟩
 |.tmp t::l,K,d=>by
  unfold oa at d;split at d
  .rename_i v j;obtain⟨e,A,h⟩:=D6 q k B d;refine⟨v::e,?_,h⟩;have y:=q.get t v j;simp[List.mapM_cons,n9,A,y]
  .exact d.elim
 |.cell x C::l,K,d=>by
  have fin:∀(p:Addr) (v:aa),s.E.get? x=some (.pointer (some p))->(loadVar C p).run P w=.ok v w->(oa P s l λe=>K (v::e))->∃e,((ResultVar.cell x C::l).mapM (n9 a.tmps)).run P w=.ok e w/\K e:=λp v z j d=>by obtain⟨e,A,h⟩:=D6 q k B d;refine⟨v::e,?_,h⟩;have y:=q.get x _ z;simp[List.mapM_cons,n9,A,y,asAddr,j]
  unfold oa at d;split at d
  .rename_i i L I;obtain⟨X,D,F⟩:=k.sl x i L I;rw[D]at d;obtain⟨v,h,j⟩:=I0 (b:=X.1) (ty:=X.2.2) d;exact fin _ v F (j w (k.lc.own i X D)) h
  .split at d
   .rename_i p z;rw[B]at d;obtain⟨v,M,d,G,H⟩:=B8 d;exact fin p v z (H w G) d
   .exact d.elim
def N5{m:Nat}{fn:Func}{F R:aC}(B:∀c d,F (.panicked c) d->R (.panicked c) d):KQ (cx m) F (s6 P fn R) (bodyPost P fn R):=by
 refine⟨?_,λc a d z A=>⟨z,B c d A⟩⟩;intro x s d a j k e;have go:(e9 s λs=>oa P s fn.results.toList λh=>R (ae (DA h)) s.w)->a.defers=[]/\∃v,(results fn a.tmps).run P d=.ok v d/\R (ae v) d:=λe=>by
  obtain⟨q,y⟩:=k.e9 e;obtain⟨h,D,C⟩:=D6 (s:=⟨s.E,s.S,s.L,d,false⟩) j q rfl y;refine⟨j.defers,_,?_,C⟩;rw[D4,<-Array.toArray_toList (xs:=fn.results),List.mapM_toArray];simp only[Sem.run_bind,Sem.run_map,D,Result.andThen_ok,Sem.run_pure];congr 1;cases h with
  |nil=>rfl
  |cons v h=>cases h<;>rfl
 unfold s6 at e;cases x with
 |normal=>exact go e
 |ret=>exact go e
 |_=>exact e.elim
def Sw{f:bU}{fn:Func}{c:Code}{args:List aa}{w:J}{R:aC}{e:mD}(h:∀c w,e.lv.pk.F (.panicked c) w->R (.panicked c) w)(x:P.funcs[f]? =some fn)(q:fn.body=some c)(y:Nat.ble args.length fn.ntmps=true)(j:rp P (cx fn.ntmps) e c (bodyPost P fn R))(d:hZ P (cx fn.ntmps) e c [] (s6 P fn R) ⟨jA 0 args,[],[],w,false⟩):aj P f args.toArray w R:=
 ug x q y λa k=>nG j c [] _ _ _ w a rfl (N5 h) k ⟨LC.nil _,by simp,λt i z d=>by cases d⟩ d
end
inductive Sh
 |i (k:ha)|b|st|s|p|r|m|v|f
abbrev Sh.T:Sh->Type
 |.i _=>Int
 |.b=>Bool
 |.st=>ByteArray
 |.s=>Sl
 |.p=>Option Addr
 |.r=>Addr
 |.m=>Option Nat
 |.v=>aa
 |.f=>Fv
def Sh.val:(e:Sh)->e.T->aa
 |.i h,d=>.int h d
 |.b,d=>.bool d
 |.st,d=>.string d
 |.s,d=>Sl.v d
 |.p,d=>.pointer d
 |.r,d=>.pointer (some d)
 |.m,d=>.map d
 |.v,d=>d
 |.f,d=>Fv.v d
def Sh.rd(e:Sh)(v:aa)(K:e.T->Prop):Prop:=match e,v,K with
 |.i k,.int q d,K=>cB (q==k) (K d)
 |.b,.bool d,K=>K d
 |.st,.string d,K=>K d
 |.s,.slice a n c,K=>K ⟨a,n,c⟩
 |.p,.pointer d,K=>K d
 |.r,.pointer (some d),K=>K d
 |.m,.map d,K=>K d
 |.v,d,K=>K d
 |.f,.func (.func n) h j,K=>K ⟨n,h,j⟩
 |_,_,_=>False
def Sh.XH{e:Sh}{v:aa}{K:e.T->Prop}(d:e.rd v K):∃h,v=e.val h/\K h:=by
 unfold Sh.rd at d;split at d<;>first |exact d.elim|skip
 .obtain ⟨j,k⟩:=dt d;have:=eq_of_beq j;subst this;exact⟨_,rfl,k⟩
 all_goals exact⟨_,rfl,d⟩
inductive Tk
 |o (h:Sh)|a (k:Nat)|t (k:Nat)|g (n j k:Nat)
abbrev Tk.I:Tk:=.o (.i .i64)
abbrev Tk.U:Tk:=.o (.i .u64)
abbrev Tk.Y:Tk:=.o (.i .u8)
abbrev Tk.i(k:ha):Tk:=.o (.i k)
abbrev Tk.b:Tk:=.o .b
abbrev Tk.st:Tk:=.o .st
abbrev Tk.s:Tk:=.o .s
abbrev Tk.p:Tk:=.o .p
abbrev Tk.r:Tk:=.o .r
abbrev Tk.m:Tk:=.o .m
abbrev Tk.v:Tk:=.o .v
abbrev Tk.f:Tk:=.o .f
abbrev k6:List Tk->Type->Type
 |[],X=>X
 |.o d::l,X=>d.T->k6 l X
 |.a _::l,X=>k6 l X
 |.t _::l,X=>k6 l X
 |.g _ _ _::l,X=>k6 l X
inductive Sp
 |v (l:List Tk)
 |l (l:List Tk) (T:aD)
abbrev gp:List (Nat×Sp)->Type
 |[]=>J->aC->Prop
 |(_,.v d)::l=>k6 d (gp l)
 |(_,.l d _)::l=>Nat->k6 d (gp l)
def m7:(ts:List Tk)->(X:Type)->List aa->k6 ts X->(X->Prop)->Prop
 |[],_,[],d,e=>e d
 |.o w::ts,X,v::h,d,e=>w.rd v λy=>m7 ts X h (d y) e
 |.a j::ts,X,.agg a::h,d,e=>cB (bG a.toList.length j) (m7 ts X (a.toList++h) d e)
 |.t j::ts,X,.tuple a::h,d,e=>cB (bG a.toList.length j) (m7 ts X (a.toList++h) d e)
 |.g n x j::ts,X,.func (.func m) k q::h,d,e=>cB (bG n m&&bG k.toList.length x&&bG q.toList.length j) (m7 ts X (k.toList++(q.toList++h)) d e)
 |_,_,_,_,_=>False
def nS:(ts:List Tk)->(X:Type)->(List aa->X)->k6 ts X
 |[],_,e=>e []
 |.o k::ts,X,e=>λq=>nS ts X λd=>e (k.val q::d)
 |.a h::ts,X,e=>nS ts X λd=>e (.agg (d.take h).toArray::d.drop h)
 |.t h::ts,X,e=>nS ts X λd=>e (.tuple (d.take h).toArray::d.drop h)
 |.g n j h::ts,X,e=>nS ts X λd=>e (.func (.func n) (d.take j).toArray ((d.drop j).take h).toArray::(d.drop j).drop h)
def Nz:∀{ts:List Tk} {X:Type} {vs:List aa} {K:List aa->X} {j:X->Prop},m7 ts X vs (nS ts X K) j->j (K vs):=by
 intro ts;induction ts with
 |nil=>
  intro X vs K j d;cases vs with
  |nil=>exact d
  |cons _ _=>exact d.elim
 |cons t ts q=>
  intro X vs K j d;cases t with
  |o C=>
   cases vs with
   |nil=>exact d.elim
   |cons v vs=>
    obtain⟨F,rfl,D⟩:=Sh.XH d;exact q (K:=λvs=>K (C.val F::vs)) D
  |a e=>
   cases vs with
   |nil=>exact d.elim
   |cons v vs=>
    cases v with
    |agg a=>
     obtain⟨h,k⟩:=dt (show cB (bG a.toList.length e) (m7 ts X (a.toList++vs) _ j)from d);rw[dZ]at h;have:=q (K:=λvs=>K (.agg (vs.take e).toArray::vs.drop e)) k;rw[List.take_left' h,List.drop_left' h]at this;exact this
    |_=>exact d.elim
  |t e=>
   cases vs with
   |nil=>exact d.elim
   |cons v vs=>
    cases v with
    |tuple a=>
     obtain⟨h,k⟩:=dt (show cB (bG a.toList.length e) (m7 ts X (a.toList++vs) _ j)from d);rw[dZ]at h;have:=q (K:=λvs=>K (.tuple (vs.take e).toArray::vs.drop e)) k;rw[List.take_left' h,List.drop_left' h]at this;exact this
    |_=>exact d.elim
  |g n w e=>
   cases vs with
   |nil=>exact d.elim
   |cons v vs=>
    cases v with
    |func B x y=>
     cases B with
     |func m=>
      obtain⟨h,k⟩:=dt (show cB (bG n m&&bG x.toList.length w&&bG y.toList.length e) (m7 ts X (x.toList++(y.toList++vs)) _ j)from d);rw[a9,a9,dZ,dZ,dZ]at h;obtain⟨⟨E,z⟩,A⟩:=h;have:=q (K:=λvs=>K (.func (.func n) (vs.take w).toArray ((vs.drop w).take e).toArray::(vs.drop w).drop e)) k;rw[List.take_left' z,List.drop_left' z,List.take_left' A,List.drop_left' A,E]at this;exact this
     |_=>exact d.elim
    |_=>exact d.elim
def iK:(l:List (Nat×Sp))->Nat->(Env->Sv->Lv->J->aC->Prop)->gp l
 |[],_,d=>d [] [] []
 |(t,.v k)::l,n,d=>nS k (gp l) λq=>iK l n λe j h=>d ((t,q.headD undef)::e) j h
 |(t,.l k w)::l,n,d=>λb=>nS k (gp l) λq=>iK l (n+1) λe j h=>d ((t,.pointer (some (ad b)))::e) ((t,some (n,0))::j) ((b,q,w)::h)
def o8:(l:List (Nat×Sp))->gp l->TS->List Nat->J->aC->Prop
 |[],d,_,_,h,e=>d h e
 |(t,.v k)::l,d,s,is,h,e=>match s.E.get? t with
  |some v=>m7 k (gp l) [v] d λj=>o8 l j s is h e
  |none=>False
 |(t,.l k q)::l,d,s,is,h,e=>match s.S.get? t with
  |some (i,0)=>match s.L[i]? with
   |some X=>cB (bG X.2.2 q&&!is.any (bG i)) (m7 k (gp l) X.2.1 (d X.1) λj=>o8 l j s (i::is) h e)
   |none=>False
  |_=>False
def Ig{E E':Env}{t:Nat}{v:aa}(q:E'.get? t=some v)(k:∀t v,E.get? t=some v->E'.get? t=some v):∀e j,Env.get? ((t,v)::E) e=some j->E'.get? e=some j:=λe j d=>by
 simp only[Env.get?]at d;cases h:bG t e with
 |true=>
  rw[h,cond_true]at d;rw[dZ]at h;subst h;cases d;exact q
 |false=>
  rw[h,cond_false]at d;exact k e j d
structure z'(s:TS)(n:Nat)(is js:List Nat)(E:Env)(S:Sv):Prop where
 sub:∀t v,E.get? t=some v->s.E.get? t=some v
 nd:js.Nodup
 dj:∀j∈js,j∉is
 lt:∀j∈js,∃X,s.L[j]? =some X
 sl:∀t i k,S.get? t=some (i,k)->n<=i/\∃j,js[i - n]? =some j/\s.S.get? t=some (j,k)/\∃v,E.get? t=some v
def XG{s:TS}{w:J}(V:Inv s w){R:aC}:∀{l:List (Nat×Sp)} {n:Nat} {K:Env->Sv->Lv->J->aC->Prop} {is:List Nat},o8 l (iK l n K) s is w R->
  ∃h j y,z' s n is y h j/\K h j (y.filterMap λk=>(s.L[k]? :Option (Nat×List aa×aD))) w R:=by
 intro l;induction l with
 |nil=>
  intro n K is d;exact⟨[],[],[],⟨λt v d=>by(simp[Env.get?]at d),.nil,λ_ d=>by(cases d),λ_ d=>by(cases d),λt i E d=>by(cases d)⟩,d⟩
 |cons p l S=>
  intro n K is d;obtain⟨t,sp⟩:=p;cases sp with
  |v ts=>
   unfold o8 at d;split at d
   .rename_i v hv;have G:=Nz (K:=λN=>iK l n λh j F=>K ((t,N.headD undef)::h) j F) d;obtain⟨h,j,y,e,D⟩:=S G;refine⟨(t,v)::h,j,y,⟨Ig hv e.sub,e.nd,e.dj,e.lt,λC i E x=>?_⟩,D⟩;obtain⟨z,k,H,h3,T,h4⟩:=e.sl C i E x;refine⟨z,k,H,h3,?_⟩;simp only[Env.get?];cases bG t C with
    |true=>exact⟨_,rfl⟩
    |false=>exact⟨_,h4⟩
   .exact d.elim
  |l ts O=>
   unfold o8 at d;split at d
   .rename_i i Q;split at d
    .rename_i X I;obtain⟨z,H⟩:=dt d;rw[a9,dZ,Bool.not_eq_true',List.any_eq_false]at z;have G:=Nz (K:=λN=>iK l (n+1) λh j F=>K ((t,.pointer (some (ad X.1)))::h) ((t,some (n,0))::j) ((X.1,N,O)::F)) H;obtain⟨h,j,y,e,D⟩:=S G;obtain⟨X',P,hp⟩:=V.sl t i 0 Q;rw[I]at P;cases P;refine⟨(t,.pointer (some (ad X.1)))::h,(t,some (n,0))::j,i::y,⟨Ig ?_ e.sub,List.nodup_cons.2 ⟨λB=>e.dj i B (by simp),e.nd⟩,λk q=>?_,λk q=>?_,λC M E x=>?_⟩,?_⟩
     .rw [hp,iz]
     .rcases aE.1 q with rfl|q
      .intro B;have:=z.2 k B;simp at this
      .exact λB=>e.dj k q (cH _ B)
     .rcases aE.1 q with rfl|q
      .exact ⟨X,I⟩
      .exact e.lt k q
     .simp only[Sv.get?]at x;cases A:bG t C with
      |true=>
       rw[A,cond_true]at x;rw[dZ]at A;subst A;cases x;refine⟨be _,i,by simp,Q,.pointer (some (ad X.1)),?_⟩;simp[Env.get?]
      |false=>
       rw[A,cond_false]at x;obtain⟨g1,k,Y,Z,T,g4⟩:=e.sl C M E x;refine⟨by omega,k,?_,Z,T,?_⟩
       .have:M - n=(M - (n+1))+1:=by omega
        rw[this,List.getElem?_cons_succ];exact Y
       .simp only[Env.get?,A,cond_false];exact g4
     .have W:(X.1,X.2.1,O)=X:=by rw[<-z.1]
      rw[List.filterMap_cons_some I];simp only[W]at D;exact D
    .exact d.elim
   .exact d.elim
def z'.inv{s:TS}{w:J}(q:Inv s w){d:List Nat}{E:Env}{S:Sv}(j:z' s 0 [] d E S):Inv ⟨E,S,d.filterMap λe=>(s.L[e]? :Option (Nat×List aa×aD)),w,false⟩ w:=by
 refine⟨q.lc.pick d j.nd,by simp,λt i z G=>?_⟩;obtain⟨-,e,A,B,v,x⟩:=j.sl t i z G;obtain⟨X,C,F⟩:=q.sl t e z B;have:=j.sub t v x;rw[F]at this;cases this;refine⟨X,?_,x⟩;have all:∀(d:List Nat) (i:Nat),(∀e∈d,∃X,s.L[e]? =some X)->d[i]? =some e->(d.filterMap λe=>(s.L[e]? :Option (Nat×List aa×aD)))[i]? =some X:=by
  intro d;induction d with
  |nil=>intro i _ h;simp at h
  |cons a d H=>
   intro i y h;obtain⟨I,k⟩:=y a (by simp);rw[List.filterMap_cons_some k];cases i with
   |zero=>simp at h;subst h;rw[C]at k;cases k;rfl
   |succ i=>simpa using H i (λe D=>y e (cH _ D)) (by simpa using h)
 exact all d i j.lt (by simpa using A)
def pC:(ts:List Tk)->(X:Type)->(X->X->Prop)->k6 ts X->k6 ts X->Prop
 |[],_,r,d,e=>r d e
 |.o j::ts,X,r,d,e=>∀h:j.T,pC ts X r (d h) (e h)
 |.a _::ts,X,r,d,e=>pC ts X r d e
 |.t _::ts,X,r,d,e=>pC ts X r d e
 |.g _ _ _::ts,X,r,d,e=>pC ts X r d e
def tK:(l:List (Nat×Sp))->gp l->gp l->Prop
 |[],d,e=>∀(w:J) (R:aC),d w R->e w R
 |(_,.v h)::l,d,e=>pC h (gp l) (tK l) d e
 |(_,.l h _)::l,d,e=>∀b:Nat,pC h (gp l) (tK l) (d b) (e b)
def Iw:∀{ts:List Tk} {X:Type} {r:X->X->Prop} {h j:List aa->X},(∀e,r (h e) (j e))->pC ts X r (nS ts X h) (nS ts X j):=by
 intro ts;induction ts with
 |nil=>intro X r h j d;exact d []
 |cons t ts k=>
  intro X r h j d;cases t with
  |o w=>intro x;exact k λe=>d _
  |a q=>exact k λe=>d _
  |t q=>exact k λe=>d _
  |g n y q=>exact k λe=>d _
def Uw:∀{l:List (Nat×Sp)} {n:Nat} {j k:Env->Sv->Lv->J->aC->Prop},(∀h w q e d,j h w q e d->k h w q e d)->tK l (iK l n j) (iK l n k):=by
 intro l;induction l with
 |nil=>intro n j k x e d;exact x _ _ _ e d
 |cons p l y=>
  intro n j k x;obtain⟨t,z⟩:=p;cases z with
  |v A=>exact Iw λB=>y λh w q e d=>x _ _ _ e d
  |l A C=>intro b;exact Iw λB=>y λh w q e d=>x _ _ _ e d
structure Fx where
 P:aw
 fn:Func
 ord:List (Nat×Tr)
 lv:List Nat
 pn:Option (List bU):=none
def Fx.pk(X:Fx)(R:aC):Pk:=match X.pn with
 |some l=>some (R,l)
 |none=>none
def Fx.M1{X:Fx}{R:aC}(c:List PanicEntry)(w:J)(d:(X.pk R).F (.panicked c) w):R (.panicked c) w:=by
 unfold Fx.pk at d;split at d
 .exact d
 .exact d.elim
def Fx.c(X:Fx):Code:=X.fn.body.getD .skip
def Fx.n(X:Fx):Cx:=cx X.fn.ntmps
def Cd:List (Nat×Tr)->Nat->Option Tr
 |[],_=>none
 |(i,l)::o,d=>bif bG i d then some l else Cd o d
def Fx.at(X:Fx)(q:List Bool)(R:aC)(a:Act)(w:J):Prop:=q7 X.P X.n (fN X.P X.n X.c (bodyPost X.P X.fn R) q) a w
def Fx.Sem(X:Fx)(q:List Bool)(E:Env)(S:Sv)(L:Lv)(w:J)(R:aC):Prop:=∀a,Ag X.n a E->Inv ⟨E,S,L,w,false⟩ w->X.at q R a w
structure fT(X:Fx) where
 q:List Bool
 sp:List (Nat×Sp)
 F:gp sp
 ok:∀(R:aC) (s:TS) (w:J) (a:Act),Ag X.n a s.E->Inv s w->o8 sp F s [] w R->X.at q R a w
def rD:List Bool->List Bool->Bool
 |[],[]=>true
 |a::l,b::m=>(match a,b with |true,true=>true|false,false=>true|_,_=>false)&&rD l m
 |_,_=>false
def FV:∀{l m:List Bool},rD l m=true->l=m
 |[],[],_=>rfl
 |a::l,b::m,d=>by unfold rD at d;rw[a9]at d;rw[FV d.2];cases a<;>cases b<;>simp_all
 |[],_::_,d=>by cases d
 |_::_,[],d=>by cases d
def xP{X:Fx}(R:aC):List (fT X)->List Bool->Option (TS->Prop)
 |[],_=>none
 |e::j,h=>bif rD e.q h then some λs=>match s.d with
  |true=>False
  |false=>o8 e.sp e.F s [] s.w R else xP R j h
def Fx.zo(X:Fx)(es:List (fT X))(R:aC):mD:=⟨Cd X.ord,xP R es,X.lv,X.pk R⟩
def Fx.Pm{X:Fx}{es:List (fT X)}{R:aC}:rp X.P X.n (X.zo es R) X.c (bodyPost X.P X.fn R):=by
 intro B D z s C a E x h;have e:xP R es B=some D:=z;clear z;induction es with
 |nil=>cases e
 |cons y es G=>
  unfold xP at e;cases j:rD y.q B with
  |true=>
   rw[j,cond_true]at e;cases e;have:=FV j;subst this;cases k:s.d with
   |true=>rw[k]at h;exact h.elim
   |false=>
    rw[k]at h;have A:=x.rel;rw[k]at A;have F:C=s.w:=by simpa using A
    rw[<-F]at h;exact y.ok R s C a E x h
  |false=>
   rw[j,cond_false]at e;exact G e
def Fx.tJ(X:Fx)(es:List (fT X))(q:List Bool)(E:Env)(S:Sv)(L:Lv)(w:J)(R:aC):Prop:=A' X.P X.n (X.zo es R) X.c (s6 X.P X.fn R) q ⟨E,S,L,w,false⟩
def Fx.G6{X:Fx}{es:List (fT X)}{q:List Bool}{E:Env}{S:Sv}{L:Lv}{w:J}{R:aC}(e:X.tJ es q E S L w R):X.Sem q E S L w R:=λa h d=>SP (s:=⟨E,S,L,w,false⟩) (Fx.Pm (es:=es)) (N5 Fx.M1) h d e
def Hk{X:Fx}{q:List Bool}{y:List (Nat×Sp)}{K:Env->Sv->Lv->J->aC->Prop}(B:∀d e k w R,K d e k w R->X.Sem q d e k w R)(R:aC)(s:TS)(w:J)(a:Act)(h:Ag X.n a s.E)(j:Inv s w)(z:o8 y (iK y 0 K) s [] w R):X.at q R a w:=by obtain⟨d,e,D,x,A⟩:=XG j z;exact B _ _ _ _ _ A a ⟨h.defers,h.size,λt v C=>h.get t v (x.sub t v C)⟩ (x.inv j)
def Tw(X:Fx)(q:List Bool)(h:List (Nat×Sp))(F:gp h)(e:F=iK h 0 (X.Sem q):=by kernel_rfl):fT X:=⟨q,h,F,λk s x a w j d=>by subst e;exact Hk (λ_ _ _ _ _ d=>d) k s x a w j d⟩
def Tx(X:Fx)(es:List (fT X))(q:List Bool)(h:List (Nat×Sp))(F:gp h)(e:F=iK h 0 (X.tJ es q):=by kernel_rfl):fT X:=⟨q,h,F,λk s x a w j d=>by subst e;exact Hk (λ_ _ _ _ _ d=>Fx.G6 d) k s x a w j d⟩
def YY{X:Fx}(es:List (fT X))(q:List Bool)(d:List (Nat×Sp)):tK d (iK d 0 (X.tJ es q)) (iK d 0 (X.Sem q)):=Uw λ_ _ _ _ _ e=>Fx.G6 e
def Sr(X:Fx)(es:List (fT X)){f:bU}{args:List aa}{w:J}{R:aC}{T:Prop}(d:T)(j:X.P.funcs[f]? =some X.fn:=by kernel_rfl)(h:X.fn.body=some X.c:=by kernel_rfl)(k:Nat.ble args.length X.fn.ntmps=true:=by kernel_rfl)(e:T=hZ X.P X.n (X.zo es R) X.c [] (s6 X.P X.fn R) ⟨jA 0 args,[],[],w,false⟩:=by kernel_rfl):aj X.P f args.toArray w R:=
 Sw Fx.M1 j h k Fx.Pm (e▸d)
def M7:Bool->List Nat->List Bool
 |_,[]=>[]
 |b,n::l=>List.replicate n b++M7 (!b) l
abbrev m6(l:List Nat):List Bool:=M7 true l
abbrev Ps:=List (Nat×Sp)
abbrev ls(l:List Nat):Tr:=Tr.sq l .nil
set_option maxRecDepth 100000
open Go
inductive Oc:Type 1
 |leaf (p:Prop)
 |ex (α:Type) (K:α->Oc)
 |and (p:Prop) (K:Oc)
 |at (b:Bool) (K:Oc)
 |bq (t:Bool) (a b:Oc)
 |nw (bs:List Nat) (w:J) (K:Nat->J->Oc)
 |al (w:J) (o:Obj) (K:J->Oc)
 |st (w:J) (p:Addr) (v:aa) (K:J->Oc)
 |lc (bs:List Nat) (w:J) (K:J->Oc)
 |dr (w:J) (K:J->Oc)
 |cf (bs:List Nat) (P:aw) (f:bU) (xs:Array aa) (w:J) (K:cA->J->Oc)
 |ca (P:aw) (f:bU) (xs:Array aa) (w:J) (K:cA->J->Oc)
 |cp (bs:List Nat) (P:aw) (f:bU) (xs:Array aa) (R:aC) (w:J) (K:cA->J->Oc)
 |op (q:Option Addr) (K:Addr->Oc)
 |or (a b:Oc)
 |cj (a b:Oc)
 |all (α:Type) (K:α->Oc)
 |im (K:Oc) (p:Prop)
inductive Nf:Oc->Prop->Prop
 |leaf {p}:Nf (.leaf p) p
 |ex {α K} {Q:α->Prop} (h:∀x,Nf (K x) (Q x)):Nf (.ex α K) (∃x,Q x)
 |and {p K Q} (h:Nf K Q):Nf (.and p K) (p/\Q)
 |at {b K Q} (h:Nf K Q):Nf (.at b K) (cB b Q)
 |bq {t a b A B} (h1:Nf a A) (h2:Nf b B):Nf (.bq t a b) (bq t A B)
 |nw {bs w K} {Q:Nat->J->Prop} (h:∀b w1,Nf (K b w1) (Q b w1)):Nf (.nw bs w K) (sG bs w λb w1=>Q b w1)
 |al {w o K} {Q:J->Prop} (h:∀w1,Nf (K w1) (Q w1)):Nf (.al w o K) (cS w o λw1=>Q w1)
 |st {w p v K} {Q:J->Prop} (h:∀w1,Nf (K w1) (Q w1)):Nf (.st w p v K) (aJ w p v λw1=>Q w1)
 |lc {bs w K} {Q:J->Prop} (h:∀w1,Nf (K w1) (Q w1)):Nf (.lc bs w K) (loc bs w λw1=>Q w1)
 |dr {w K} {Q:J->Prop} (h:∀w1,Nf (K w1) (Q w1)):Nf (.dr w K) (rS w λw1=>Q w1)
 |cf {bs P f xs w K} {Q:cA->J->Prop} (h:∀r w1,Nf (K r w1) (Q r w1)):Nf (.cf bs P f xs w K) (fq bs P f xs w λr w1=>Q r w1)
 |ca {P f xs w K} {Q:cA->J->Prop} (h:∀r w1,Nf (K r w1) (Q r w1)):Nf (.ca P f xs w K) (aj P f xs w λr w1=>Q r w1)
 |cp {bs P f xs R w K} {Q:cA->J->Prop} (h:∀r w1,Nf (K r w1) (Q r w1)):Nf (.cp bs P f xs R w K) (lf bs P f xs R w λr w1=>Q r w1)
 |op {q K} {Q:Addr->Prop} (h:∀p,Nf (K p) (Q p)):Nf (.op q K) (dJ q λp=>Q p)
 |or {a b A B} (h1:Nf a A) (h2:Nf b B):Nf (.or a b) (A\/B)
 |cj {a b A B} (h1:Nf a A) (h2:Nf b B):Nf (.cj a b) (A/\B)
 |all {α K} {Q:α->Prop} (h:∀x,Nf (K x) (Q x)):Nf (.all α K) (∀x,Q x)
 |im {K Q p} (h:Nf K Q):Nf (.im K p) (Q->p)
inductive DV
 |i (k:ha) (x:Int)|kb (x:Bool)|b (x:Bool)|st (x:ByteArray)|sl (s:Sl)|s3 (a:Option Addr) (n c:Nat)
 |p (x:Option Addr)|r (x:Addr) (l:Option (Nat×Nat))|m (x:Option Nat)|v (x:aa)|f (x:Fv)
 |a (l:List DV)|t (l:List DV)|g (n:bU) (bs cs:List DV)|nf|ni|fc (t:aD) (x:DV)|u
mutual
def DV.o:DV->(aa->Oc)->Oc
 |.i x e,d=>d (.int x e)
 |.kb e,d=>d (.bool e)
 |.b e,d=>d (.bool e)
 |.st e,d=>d (.string e)
 |.sl s,d=>d s.v
 |.s3 e q w,d=>d (.slice e q w)
 |.p e,d=>d (.pointer e)
 |.r e _,d=>d (.pointer (some e))
 |.m e,d=>d (.map e)
 |.v e,d=>d e
 |.f e,d=>d e.v
 |.a l,d=>DV.os l λk=>d (.agg k.toArray)
 |.t l,d=>DV.os l λk=>d (.tuple k.toArray)
 |.g n h j,d=>DV.os h λh=>DV.os j λj=>d (.func (.func n) h.toArray j.toArray)
 |.nf,d=>d .nilFunc
 |.ni,d=>d .nilIface
 |.fc q e,d=>DV.o e λw=>d (.iface q w)
 |.u,d=>d undef
def DV.os:List DV->(List aa->Oc)->Oc
 |[],d=>d []
 |h::l,d=>DV.o h λv=>DV.os l λe=>d (v::e)
end
def sJ:List aa->(List DV->Oc)->Oc
 |[],d=>d []
 |v::l,d=>sJ l λh=>d ((match v with
  |.int j e=>.i j e
  |.bool true=>.kb true
  |.bool false=>.kb false
  |.string s=>.st s
  |.slice a n c=>.s3 a n c
  |.pointer (some p)=>.r p none
  |.pointer none=>.p none
  |.map e=>.m e
  |.nilFunc=>.nf
  |.nilIface=>.ni
  |v=>.v v)::h)
def ys(v:aa)(K:DV->Oc):Oc:=match v with
 |.agg d=>sJ d.toList λl=>K (.a l)
 |.tuple d=>sJ d.toList λl=>K (.t l)
 |.func (.func n) h d=>sJ h.toList λh=>sJ d.toList λd=>K (.g n h d)
 |.iface t e=>sJ [e] λl=>K (.fc t (l.headD .u))
 |.int j e=>K (.i j e)
 |.bool true=>K (.kb true)
 |.bool false=>K (.kb false)
 |.string s=>K (.st s)
 |.slice a n c=>K (.s3 a n c)
 |.pointer (some p)=>K (.r p none)
 |.pointer none=>K (.p none)
 |.map e=>K (.m e)
 |.nilFunc=>K .nf
 |.nilIface=>K .ni
 |v=>K (.v v)
inductive Fc
 |c (p:Addr) (v:aa)|r (s:Sem aa) (v:aa)|n
abbrev DE:=List (Nat×DV)
abbrev DL:=List (Nat×List DV×aD)
abbrev DH:=List (Nat×Option Nat×Fc)
def pO:DL->(List Nat->Oc)->Oc
 |[],d=>d []
 |(b,_,_)::e,d=>pO e λh=>d (b::h)
def gD(d:Bool)(L:DL)(w:J)(K:J->Oc):Oc:=match d with
 |true=>pO L λe=>.lc e w K
 |false=>K w
def getD:DE->Nat->(DV->Oc)->Oc
 |[],_,_=>.leaf False
 |(h,v)::e,t,d=>match bG h t with
  |true=>d v
  |false=>getD e t d
def ja{α:Type}:List α->Nat->Option α
 |[],_=>none
 |a::l,n=>match bG n 0 with
  |true=>some a
  |false=>ja l (n - 1)
def OF{α:Type}:List α->Nat->α->List α
 |[],_,_=>[]
 |a::l,n,d=>match bG n 0 with
  |true=>d::l
  |false=>a::OF l (n - 1) d
def yI(t:Option Nat)(v:DV)(E:DE)(K:DE->Oc):Oc:=match t with
 |some t=>K ((t,v)::E)
 |none=>K E
def Ju:List Nat->Nat->Bool
 |[],_=>false
 |a::l,n=>match bG a n with
  |true=>true
  |false=>Ju l n
def IF(d:List Nat):Option Nat->Bool
 |some t=>Ju d t
 |none=>false
def dg(E:DE):Operand->(DV->Oc)->Oc
 |.tmp t,d=>getD E t d
 |.const v,d=>ys v d
 |.func f,d=>d (.g f [] [])
 |.global g,d=>d (.r ⟨g,0,none⟩ none)
def ot(E:DE):List Operand->(List DV->Oc)->Oc
 |[],d=>d []
 |h::l,d=>dg E h λv=>ot E l λe=>d (v::e)
def Br(h:aa)(K:DV->Oc):Oc:=match h with
 |.int e _=>.ex Int λd=>K (.i e d)
 |.bool _=>.ex Bool λd=>K (.b d)
 |.string _=>.ex ByteArray λd=>K (.st d)
 |.slice _ _ _=>.ex Sl λd=>K (.sl d)
 |.pointer _=>.ex (Option Addr) λd=>K (.p d)
 |.map _=>.ex (Option Nat) λd=>K (.m d)
 |_=>.ex aa λd=>K (.v d)
def Bq:List aa->(List DV->Oc)->Oc
 |[],d=>d []
 |h::j,d=>Br h λv=>Bq j λe=>d (v::e)
def HS(d:aa)(K:DV->Oc):Oc:=match d with
 |.agg e=>Bq e.toList λl=>K (.a l)
 |d=>Br d K
def HW:List aa->(List DV->Oc)->Oc
 |[],d=>d []
 |h::j,d=>HS h λv=>HW j λe=>d (v::e)
def r3(d:aa)(K:DV->Oc):Oc:=match d with
 |.tuple e=>HW e.toList λl=>K (.t l)
 |d=>HS d K
def LN:List Nat:=[0,1,2,3,4,5,6,7,8,9,10,11,12,13,14,15,16,17,18,19,20,21,22,23,24,25,26,27,28,29,30,31,32,33,34,35,36,37,38,39,40,41,42,43,44,45,46,47,48,49,50,51,52,53,54,55,56,57,58,59,60,61,62,63]
def H0(p:Addr):List Nat->List DV->(List Fc->Oc)->Oc
 |n::e,v::h,d=>DV.o v λj=>H0 p e h λl=>d (.c (p.add n) j::l)
 |_,_,d=>d []
def y5(P:aw)(w:J)(K:Oc):List Fc->Oc
 |[]=>K
 |.c p v::l=>.and (w.cell? p=some v) (y5 P w K l)
 |.r s v::l=>.and (s.run P w=.ok v w) (y5 P w K l)
 |.n::l=>y5 P w K l
def Jg(P:aw)(T:aD)(p:Addr)(w:J)(K:DV->List Fc->Oc):Oc:=match P.info? T with
 |some ⟨_,_,_,_,_,_,_,some e,_,_⟩=>match e with
  |.agg q=>Bq q.toList λj=>H0 p LN j λk=>y5 P w (K (.a j) k) k
  |.nilFunc=>.ex Fv λf=>.and (w.cell? p=some f.v) (K (.f f) [.c p f.v])
  |.nilIface=>.or (.ex aD λt=>.ex aa λd=>.and (w.cell? p=some (.iface t d)) (K (.v (.iface t d)) [.c p (.iface t d)])) (.and (w.cell? p=some .nilIface) (K (.v .nilIface) [.c p .nilIface]))
  |e=>Br e λh=>DV.o h λv=>.and (w.cell? p=some v) (K h [.c p v])
 |_=>.leaf False
def lK{α:Type}:List α->Nat->Nat->List α
 |[],_,_=>[]
 |a::l,d,n=>match bG d 0 with
  |true=>match bG n 0 with
   |true=>[]
   |false=>a::lK l 0 (n - 1)
  |false=>lK l (d - 1) n
def yA:List DV->Nat->List DV->List DV
 |l,_,[]=>l
 |[],_,_=>[]
 |a::l,d,x::e=>match bG d 0 with
  |true=>x::yA l 0 e
  |false=>a::yA l (d - 1) (x::e)
def DV.cs:DV->List DV
 |.a l=>l
 |d=>[d]
def Jh(P:aw)(T:aD)(cs:List DV)(j:Nat)(K:DV->Oc):Oc:=match P.info? T with
 |some ⟨_,_,n,_,_,_,_,some d,_,_⟩=>match d with
  |.agg _=>K (.a (lK cs j n))
  |_=>match ja cs j with
   |some v=>K v
   |none=>.leaf False
 |_=>.leaf False
def k1(P:aw)(T:aD):TypeDesc:=match P.info? T with
 |some ⟨.named _ u,_,_,_,_,_,_,_,_,_⟩=>(match P.info? u with
  |some ⟨d,_,_,_,_,_,_,_,_,_⟩=>d
  |none=>.invalid)
 |some ⟨d,_,_,_,_,_,_,_,_,_⟩=>d
 |none=>.invalid
def tf(P:aw)(T:aD)(K:Nat->Oc):Oc:=match P.info? T with
 |some ⟨_,_,n,_,_,_,_,_,_,_⟩=>K n
 |none=>.leaf False
def zO(P:aw)(T:aD)(K:aa->Oc):Oc:=match P.info? T with
 |some ⟨_,_,_,_,_,_,_,some d,_,_⟩=>K d
 |_=>.leaf False
def H5(P:aw)(T:aD)(f:Nat)(K:aD->Nat->Oc):Oc:=match k1 P T with
 |.struct d=>match ja d.toList f with
  |some ⟨_,t,off,_,_,_,_⟩=>K t off
  |none=>.leaf False
 |_=>.leaf False
def DV.ri:DV->(Int->Oc)->Oc
 |.i _ e,d=>d e
 |_,_=>.leaf False
def l1(E:DE)(x:Option Operand)(y d:Nat)(K:Nat->Oc):Oc:=match x with
 |none=>K d
 |some o=>dg E o λv=>v.ri λi=>.and (0<=i) (.and (i<=(y:Int)) (K i.toNat))
def s7(P:aw)(s:Sem aa)(d:aa)(w:J)(K:DV->List Fc->Oc):Oc:=match d with
 |.nilFunc=>.ex Fv λf=>.and (s.run P w=.ok f.v w) (K (.f f) [.r s f.v])
 |d=>r3 d λe=>DV.o e λv=>.and (s.run P w=.ok v w) (K e [.r s v])
def minD(a b:Nat)(K:Nat->Oc):Oc:=match Nat.ble a b with
 |true=>K a
 |false=>K b
def Ri:ha->Nat
 |.i8|.u8=>8
 |.i16|.u16=>16
 |.i32|.u32=>32
 |_=>64
def OJ(d:Bool)(k:ha)(y:Int)(K:Nat->Oc):Oc:=match d with
 |true=>match y with
  |.ofNat m=>minD (@OfNat.ofNat Nat m (instOfNatNat m)) (Ri k) K
  |.negSucc _=>.leaf False
 |false=>.and (¬y<0) (K (min y.toNat k.bits))
def SH(op:BinOp)(a b:Int)(K:Bool->Oc):Oc:=match op with
 |.eql=>K (a==b)
 |.neq=>K (a !=b)
 |.lss=>K (ao (a<b))
 |.leq=>K (ao (a<=b))
 |.gtr=>K (ao (a>b))
 |.geq=>K (ao (a>=b))
 |_=>.leaf False
def Rg(op:BinOp)(d:Bool)(k:ha)(a b:Int)(K:DV->Oc):Oc:=match op with
 |.add=>K (.i k (k.wrap (a+b)))
 |.sub=>K (.i k (k.wrap (a - b)))
 |.mul=>K (.i k (k.wrap (a *b)))
 |.quo=>match d with
  |true=>K (.i k (k.wrap (a.tdiv b)))
  |false=>.and (b≠0) (K (.i k (k.wrap (a.tdiv b))))
 |.rem=>match d with
  |true=>K (.i k (a.tmod b))
  |false=>.and (b≠0) (K (.i k (a.tmod b)))
 |.and=>K (.i k (pN k a b))
 |.or=>K (.i k (rB k a b))
 |.xor=>K (.i k (FQ k a b))
 |.andNot=>K (.i k (Rb k a b))
 |.shl=>OJ d k b λn=>K (.i k (k.wrap (a *2^n)))
 |.shr=>OJ d k b λn=>K (.i k (a.fdiv (2^n)))
 |op=>SH op a b λt=>K (.b t)
def Rh(op:BinOp)(a b:ByteArray)(K:DV->Oc):Oc:=match op with
 |.add=>.and (¬(((a.size+b.size:Nat):Int)>IntKind.i64.max)) (K (.st (a++b)))
 |.eql=>K (.b (a.toList==b.toList))
 |.neq=>K (.b (!(a.toList==b.toList)))
 |.lss=>K (.b (Op.bytesLess a.toList b.toList))
 |.leq=>K (.b (Op.bytesLess a.toList b.toList||a.toList==b.toList))
 |.gtr=>K (.b (!(Op.bytesLess a.toList b.toList||a.toList==b.toList)))
 |.geq=>K (.b (!(Op.bytesLess a.toList b.toList)))
 |_=>.leaf False
def DV.rb:DV->Bool
 |.kb d=>d
 |.b d=>d
 |_=>false
def uJ:List DV->List DV->List Field->(Bool->Oc)->Oc
 |e,h,⟨_,_,off,_,_,_,_⟩::j,d=>match ja e off,ja h off with
  |some (.i _ a),some (.i _ b)=>uJ e h j λr=>d ((a==b)&&r)
  |some (.st a),some (.st b)=>uJ e h j λr=>d ((a.toList==b.toList)&&r)
  |some k,some q=>uJ e h j λr=>d ((k.rb==q.rb)&&r)
  |_,_=>.leaf False
 |_,_,[],d=>d true
def BU:Operand->Bool
 |.const _=>true
 |_=>false
def Ax(P:aw)(op:BinOp)(T:aD)(x y:Operand)(a b:DV)(w:J)(K:DV->List Fc->Oc):Oc:=match a,b with
 |.i j a,.i _ b=>Rg op (BU y) j a b λv=>K v []
 |.st a,.st b=>Rh op a b λv=>K v []
 |.sl s,.s3 none _ _=>match op with
  |.eql=>K (.b s.a.isNone) []
  |_=>K (.b (!s.a.isNone)) []
 |.s3 (some _) _ _,.s3 none _ _=>match op with
  |.eql=>K (.kb false) []
  |_=>K (.kb true) []
 |.s3 a _ _,.s3 none _ _=>match op with
  |.eql=>K (.b a.isNone) []
  |_=>K (.b (!a.isNone)) []
 |.r _ _,.p none=>match op with
  |.eql=>K (.kb false) []
  |_=>K (.kb true) []
 |.m a,.m none=>match op with
  |.eql=>K (.b a.isNone) []
  |_=>K (.b (!a.isNone)) []
 |.a e,.a h=>match k1 P T,op with
  |.struct d,.eql=>uJ e h d.toList λr=>K (.b r) []
  |.struct d,_=>uJ e h d.toList λr=>K (.b (!r)) []
  |_,_=>.leaf False
 |a,b=>match BU y,a,b,op with
  |true,.p a,.p none,.eql=>K (.b a.isNone) []
  |true,.p a,.p none,_=>K (.b (!a.isNone)) []
  |_,.p _,_,.neq|_,.r _ _,_,.neq=>DV.o a λa=>DV.o b λb=>s7 P (binOp .neq T a b) (.bool true) w K
  |_,_,_,op=>match k1 P T with
   |.interface _=>DV.o a λa=>DV.o b λb=>s7 P (xz op T x y a b) (.bool true) w K
   |.bool=>match op with
    |.eql=>K (.b (a.rb==b.rb)) []
    |_=>K (.b (!(a.rb==b.rb))) []
   |_=>.leaf False
def xX(h:Bool):DV->List DV->(DV->Oc)->Oc
 |r,[],d=>d r
 |.i j r,.i _ e::l,d=>match h with
  |true=>xX h (.i j (if r<e then e else r)) l d
  |false=>xX h (.i j (if e<r then e else r)) l d
 |_,_,_=>.leaf False
def WL(d:List Field)(n:Nat):Nat:=match ja d n with
 |some ⟨_,_,off,_,_,_,_⟩=>off
 |none=>0
def yH(E:DE)(off:Nat->Nat):List (Nat×Operand)->List DV->(List DV->Oc)->Oc
 |[],e,d=>d e
 |(i,h)::l,e,d=>dg E h λv=>yH E off l (yA e (off i) v.cs) d
def uQ:List DV->(List DV->Oc)->Oc
 |[],d=>d []
 |v::l,d=>uQ l λl=>d (v::l)
def N4:Nat->List DV->List DV
 |0,_=>[]
 |n+1,l=>l++N4 n l
def GN(P:aw)(op:Op)(ty:aD)(E:DE)(L:DL)(w:J)(d:Bool)(K:DV->List (Option Nat×Fc)->J->Bool->Oc):Option Oc:=match op with
 |.move e|.assign e=>some (dg E e λv=>K v [] w d)
 |.pick c a b=>some (dg E c λc=>match c with
  |.kb true=>dg E a λv=>K v [] w d
  |.kb false=>dg E b λv=>K v [] w d
  |_=>.leaf False)
 |.load h e=>some (dg E e λa=>match a with
  |.r _ (some (i,G))=>match ja L i with
   |some (_,A,_)=>Jh P h A G λv=>K v [(some i,.n)] w d
   |none=>.leaf False
  |.r p none=>gD d L w λw=>Jg P h p w λv j=>K v (j.map λf=>(none,f)) w false
  |_=>.leaf False)
 |.nilCheck e=>some (dg E e λa=>match a with
  |.p M=>.op M λp=>K (.r p none) [] w d
  |a=>K a [] w d)
 |.fieldAddr h e f=>some (dg E e λa=>match a with
  |.r p l=>H5 P h f λ_ off=>match l with
   |some (i,G)=>K (.r (p.add off) (some (i,Nat.add G off))) [] w d
   |none=>K (.r (p.add off) none) [] w d
  |_=>.leaf False)
 |.field h e f=>some (dg E e λa=>match a with
  |.a l=>H5 P h f λt off=>match P.info? t with
   |some ⟨_,_,n,_,_,_,_,some B,_,_⟩=>match B with
    |.agg _=>uQ (lK l off n) λl=>K (.a l) [] w d
    |_=>match ja l off with
     |some v=>K v [] w d
     |none=>.leaf False
   |_=>.leaf False
  |_=>.leaf False)
 |.indexAddr h e C=>some (dg E e λa=>dg E C λi=>i.ri λi=>match a,k1 P h with
  |.sl s,.slice k=>tf P k λy=>.and (0<=i) (.and (i<(s.n:Int)) (.op s.a λp=>K (.r (p.add (i.toNat *y)) none) [] w d))
  |.s3 a n _,.slice k=>tf P k λy=>.and (0<=i) (.and (i<(n:Int)) (.op a λp=>K (.r (p.add (i.toNat *y)) none) [] w d))
  |.r p _,.array n k=>tf P k λy=>.and (0<=i) (.and (i<(n:Int)) (K (.r (p.add (i.toNat *y)) none) [] w d))
  |_,_=>.leaf False)
 |.index h e C=>some (dg E e λa=>dg E C λi=>i.ri λi=>match a,k1 P h with
  |.st s,.string=>.and (0<=i) (.ex UInt8 λb=>.and (s[i.toNat]? =some b) (K (.i .u8 (b.toNat:Int)) [] w d))
  |.a A,.array n k=>match k1 P k with
   |.string=>DV.os A λq=>.and (0<=i) (.and (i<(n:Int)) (.ex ByteArray λb=>.and (q.toArray[i.toNat]? =some (.string b)) (K (.st b) [] w d)))
   |_=>DV.os A λq=>.and (0<=i) (.and (i<(n:Int)) (.ex Int λb=>.and (q.toArray[i.toNat]? =some (.int .i64 b)) (K (.i .i64 b) [] w d)))
  |_,_=>.leaf False)
 |.slice h e lo F H=>some (dg E e λa=>match a,k1 P h with
  |.sl s,.slice k=>tf P k λy=>l1 E H s.c s.c λm=>l1 E F m s.n λx=>l1 E lo x 0 λl=>K (.s3 (if m=l then s.a else s.a.map (·.add (l *y))) (x - l) (m - l)) [] w d
  |.s3 a n c,.slice k=>tf P k λy=>l1 E H c c λm=>l1 E F m n λx=>l1 E lo x 0 λl=>K (.s3 (if m=l then a else a.map (·.add (l *y))) (x - l) (m - l)) [] w d
  |.st s,.string=>l1 E F s.size s.size λx=>l1 E lo x 0 λl=>K (.st (s.extract l x)) [] w d
  |.r p _,.array n k=>tf P k λy=>l1 E H n n λm=>l1 E F m n λx=>l1 E lo x 0 λl=>K (.s3 (some (if m=l then p else p.add (l *y))) (x - l) (m - l)) [] w d
  |_,_=>.leaf False)
 |.extract e n=>some (dg E e λa=>match a with
  |.t l=>match ja l n with
   |some v=>K v [] w d
   |none=>.leaf False
  |_=>.leaf False)
 |.build h I=>some (zO P h λB=>ys B λB=>match k1 P h with
  |.struct j=>yH E (WL j.toList) I.toList B.cs λl=>uQ l λl=>K (.a l) [] w d
  |.array _ k=>match P.info? k with
   |some ⟨_,_,n,_,_,_,_,_,_,_⟩=>yH E (λi=>Nat.mul i n) I.toList B.cs λl=>uQ l λl=>K (.a l) [] w d
   |none=>.leaf False
  |_=>.leaf False)
 |.unOp f _ e=>some (dg E e λa=>match f,a with
  |.not,.kb true=>K (.kb false) [] w d
  |.not,.kb false=>K (.kb true) [] w d
  |.not,.b e=>K (.b (!e)) [] w d
  |.neg,.i z e=>K (.i z (z.wrap (0 - e))) [] w d
  |.xor,.i z e=>K (.i z (FQ z (if IntKind.signed z then -1 else IntKind.max z) e)) [] w d
  |_,_=>.leaf False)
 |.binOp f h e D _=>some (dg E e λa=>dg E D λb=>match k1 P h,f with
  |.interface _,_|.pointer _,.neq=>match BU D with
   |true=>Ax P f h e D a b w λv j=>K v (j.map λf=>(none,f)) w d
   |false=>gD d L w λw=>Ax P f h e D a b w λv j=>K v (j.map λf=>(none,f)) w false
  |_,_=>Ax P f h e D a b w λv j=>K v (j.map λf=>(none,f)) w d)
 |.convert s t e=>match k1 P s,k1 P t with
  |.slice _,.slice _|.string,.slice _=>none
  |.slice _,.string=>some (dg E e λa=>DV.o a λv=>gD d L w λw=>s7 P (convert s t v) (.string (ByteArray.mk #[])) w λv j=>K v (j.map λf=>(none,f)) w false)
  |.pointer _,.unsafePointer|.unsafePointer,.pointer _=>some (dg E e λa=>DV.o a λv=>gD d L w λw=>s7 P (convert s t v) (.pointer none) w λv j=>K v (j.map λf=>(none,f)) w false)
  |_,.int z=>some (dg E e λa=>a.ri λe=>K (.i z (z.wrap e)) [] w d)
  |_,_=>some (dg E e λv=>K v [] w d)
 |.makeInterface h e=>some (dg E e λv=>K (.fc h v) [] w d)
 |.makeFunc (.func n) j A=>some (ot E j.toList λj=>ot E A.toList λA=>K (.g n j A) [] w d)
 |.lookup h e C ok=>some (dg E e λa=>DV.o a λa=>dg E C λb=>DV.o b λb=>gD d L w λw=>zO P ty λB=>s7 P (Instr.lookup h a b ok) B w λv j=>K v (j.map λf=>(none,f)) w false)
 |.call {callee:=.builtin .len,args,argTypes}=>some (ot E args.toList λq=>match q,argTypes.toList with
  |[v],[h]=>match v,k1 P h with
   |.sl s,_=>K (.i .i64 (s.n:Int)) [] w d
   |.s3 _ n _,_=>K (.i .i64 (n:Int)) [] w d
   |.st s,_=>K (.i .i64 (s.size:Int)) [] w d
   |_,.array n _=>K (.i .i64 (n:Int)) [] w d
   |v,.map _ _=>DV.o v λm=>gD d L w λw=>s7 P (Builtin.len_ #[h] ty #[m]) (.int .i64 0) w λv j=>K v (j.map λf=>(none,f)) w false
   |_,_=>.leaf False
  |_,_=>.leaf False)
 |.call {callee:=.builtin .cap,args,..}=>some (ot E args.toList λq=>match q with
  |[.sl s]=>K (.i .i64 (s.c:Int)) [] w d
  |[.s3 _ _ c]=>K (.i .i64 (c:Int)) [] w d
  |_=>.leaf False)
 |.call {callee:=.builtin .min,args,..}=>some (ot E args.toList λq=>match q with
  |v::q=>xX false v q λv=>K v [] w d
  |_=>.leaf False)
 |.call {callee:=.builtin .max,args,..}=>some (ot E args.toList λq=>match q with
  |v::q=>xX true v q λv=>K v [] w d
  |_=>.leaf False)
 |_=>none
def ly(L:DL)(w V:J)(K:Oc):Oc:=match L with
 |[]=>K
 |L=>pO L λd=>.and (kept d w V) K
def EB(L:DL)(p:Addr):List Nat->List DV->J->(J->Oc)->Oc
 |n::j,v::k,d,h=>DV.o v λq=>match bG n 0 with
  |true=>.st d p q λe=>ly L d e (EB L p j k e h)
  |false=>.st d (p.add n) q λe=>ly L d e (EB L p j k e h)
 |_,_,d,h=>h d
def rQ(P:aw)(L:DL)(s:Sem aa)(h:aa)(w:J)(K:DV->J->Oc):Oc:=
 r3 h λe=>DV.o e λv=>.ex J λd=>.and (s.run P w=.ok v d) (ly L w d (K e d))
def GH(P:aw)(q:Pk)(L:DL)(f:bU)(xs:Array aa)(j:aa)(w:J)(K:DV->J->Oc):Oc:=match q.of f with
 |some k=>pO L λh=>.cp h P f xs k w λr e=>r3 j λd=>DV.o d λv=>.and (r=ae v) (K d e)
 |none=>match L with
  |[]=>.ca P f xs w λr e=>r3 j λd=>DV.o d λv=>.and (r=ae v) (K d e)
  |L=>pO L λh=>.cf h P f xs w λr e=>r3 j λd=>DV.o d λv=>.and (r=ae v) (K d e)
def Rn(P:aw)(f:bU):Bool:=match P.funcs[f]? with
 |some fn=>fn.body.isSome
 |none=>false
def Tl(P:aw)(z:Lk)(dst:Option Nat)(op:Op)(ty:aD)(E:DE)(L:DL)(w:J)(d:Bool)(K:DV->DL->J->Bool->Oc):Oc:=match op with
 |.store _ h N=>dg E h λa=>dg E N λv=>match a with
  |.r _ (some (i,H))=>match ja L i with
   |some (b,y,j)=>uQ (yA y H v.cs) λy=>K .u (OF L i (b,y,j)) w true
   |none=>.leaf False
  |.r p none=>gD d L w λw=>EB L p LN v.cs w λe=>K .u L e false
  |_=>.leaf False
 |.alloc j=>zO P j λq=>ys q λq=>match IF z.l dst with
  |true=>pO L λC=>.nw C w λb e=>K (.r (ad b) (some (L.length,0))) (L++[(b,q.cs,j)]) e false
  |false=>gD d L w λw=>DV.os q.cs λk=>.al w (.cells k.toArray j) λe=>K (.r (nb w) none) L e false
 |.box j h=>dg E h λq=>match IF z.l dst with
  |true=>pO L λC=>.nw C w λb e=>K (.r (ad b) (some (L.length,0))) (L++[(b,q.cs,j)]) e false
  |false=>gD d L w λw=>DV.os q.cs λk=>.al w (.cells k.toArray j) λe=>K (.r (nb w) none) L e false
 |.buildSlice j n I=>match k1 P j with
  |.slice D=>match P.info? D with
   |some ⟨_,_,M,_,_,_,_,some q,_,_⟩=>ys q λq=>yH E (λi=>Nat.mul i M) I.toList (N4 n q.cs) λl=>DV.os l λk=>gD d L w λw=>.al w (.cells k.toArray D) λe=>K (.s3 (some (nb w)) n n) L e false
   |_=>.leaf False
  |_=>.leaf False
 |.makeMap _ _=>gD d L w λw=>.al w (.map #[] 0) λe=>K (.m (some w.heap.size)) L e false
 |.mapUpdate j m x v|.insert j m x v=>dg E m λm=>DV.o m λm=>dg E x λx=>DV.o x λx=>dg E v λv=>DV.o v λv=>gD d L w λw=>
   .ex J λe=>.and ((Instr.mapUpdate j m x v).run P w=.ok () e) (ly L w e (K .u L e false))
 |.call {callee:=.builtin b,args,argTypes}=>ot E args.toList λk=>DV.os k λk=>gD d L w λw=>match b with
  |.append=>rQ P L (Builtin.append_ argTypes ty k.toArray) (.slice none 0 0) w λv e=>K v L e false
  |.copy=>rQ P L (Builtin.copy_ argTypes ty k.toArray) (.int .i64 0) w λv e=>K v L e false
  |.unsafeSliceData=>rQ P L (Builtin.unsafeSliceData_ argTypes ty k.toArray) (.pointer none) w λv e=>K v L e false
  |.unsafeString=>rQ P L (Builtin.unsafeString_ argTypes ty k.toArray) (.string (ByteArray.mk #[])) w λv e=>K v L e false
  |.delete=>.ex J λe=>.and ((Builtin.delete_ argTypes ty k.toArray).run P w=.ok undef e) (ly L w e (K .u L e false))
  |.clear=>.ex J λe=>.and ((Builtin.clear_ argTypes ty k.toArray).run P w=.ok (.tuple #[]) e) (ly L w e (K (.t []) L e false))
  |_=>.leaf False
 |.call {callee:=.value h,args,..}=>dg E h λf=>ot E args.toList λk=>zO P ty λq=>gD d L w λw=>match f with
  |.g n G y=>DV.os (G++k++y) λB=>match Rn P n with
   |true=>GH P z.pk L n B.toArray q w λv e=>K v L e false
   |false=>r3 q λr=>DV.o r λv=>.ex J λe=>.and ((callFunc n B.toArray).run P w=.ok (.value v) e) (ly L w e (K r L e false))
  |.f A=>DV.os k λB=>.at (gI P A.n) (GH P z.pk L A.n (A.bs++B.toArray++A.cs) q w λv e=>K v L e false)
  |_=>.leaf False
 |.makeSlice j l c=>dg E l λl=>DV.o l λl=>dg E c λc=>DV.o c λc=>gD d L w λw=>rQ P L (Instr.makeSlice j l c) (.slice none 0 0) w λv e=>K v L e false
 |.convert s t h=>dg E h λh=>DV.o h λh=>gD d L w λw=>rQ P L (convert s t h) (.slice none 0 0) w λv e=>K v L e false
 |.range j h=>dg E h λh=>DV.o h λh=>gD d L w λw=>.ex aa λv=>.ex J λe=>.and ((Instr.range j h).run P w=.ok v e) (ly L w e (K (.v v) L e false))
 |.next it s=>dg E it λh=>DV.o h λit=>gD d L w λw=>.or (.ex J λe=>.and ((Instr.next it s ty).run P w=.ok (.tuple #[.bool false]) e) (ly L w e (K (.t [.kb false]) L e false)))
   (match s with
    |true=>.ex Int λi=>.ex Int λc=>.ex J λe=>.and ((Instr.next it true ty).run P w=.ok (.tuple #[.bool true,.int .i64 i,.int .i32 c]) e) (ly L w e (K (.t [.kb true,.i .i64 i,.i .i32 c]) L e false))
    |false=>.ex aa λi=>.ex aa λc=>.ex J λe=>.and ((Instr.next it false ty).run P w=.ok (.tuple #[.bool true,i,c]) e) (ly L w e (K (.t [.kb true,.v i,.v c]) L e false)))
 |.entry it=>dg E it λh=>DV.o h λit=>gD d L w λw=>.ex aa λi=>.ex aa λc=>.ex J λe=>.and ((Instr.entry it).run P w=.ok (.tuple #[i,c]) e) (ly L w e (K (.t [.v i,.v c]) L e false))
 |.panic h=>dg E h λv=>DV.o v λv=>gD d L w λw=>match z.pk with
  |some (F,_)=>.leaf (F (.panicked [{v:=v,recovered:=false}]) w)
  |none=>.leaf False
 |_=>.leaf False
def tZ:List Edge->(Nat->Bool)->Bool
 |[],_=>false
 |⟨_,.textOnly _⟩::l,p=>tZ l p
 |⟨_,.gcOnly _⟩::l,p=>tZ l p
 |⟨d,_⟩::l,p=>match p d with
  |true=>true
  |false=>tZ l p
def yy(ops:List Oper):Nat->Nat->Nat->Bool
 |0,i,h=>match ja ops h with
  |some ⟨_,_,_,_,e,_⟩=>tZ e.toList λd=>bG d i
  |none=>false
 |f+1,i,h=>match ja ops h with
  |some ⟨_,_,_,_,e,_⟩=>tZ e.toList λd=>match bG d i with
   |true=>true
   |false=>yy ops f i d
  |none=>false
def uw(ops:List Oper)(j:Nat):DH->(DH->Oc)->Oc
 |[],e=>e []
 |(i,f,h)::d,e=>match yy ops 4 i j with
  |true=>uw ops j d e
  |false=>uw ops j d λd=>e ((i,f,h)::d)
def Ap(ops:List Oper)(j:Nat):DH->Bool
 |[]=>false
 |(i,none,_)::d=>match yy ops 4 i j with
  |true=>Ap ops j d
  |false=>true
 |_::d=>Ap ops j d
def sb(P:aw)(ops:List Oper)(j:Nat)(w:J)(K:Oc):DH->Oc
 |[]=>K
 |(i,none,e)::d=>match yy ops 4 i j with
  |true=>sb P ops j w K d
  |false=>match e with
   |.c p v=>.and (w.cell? p=some v) (sb P ops j w K d)
   |.r s v=>.and (s.run P w=.ok v w) (sb P ops j w K d)
   |.n=>sb P ops j w K d
 |_::d=>sb P ops j w K d
abbrev DJ:=DE->DL->J->Bool->DH->Oc
def Fz(draw:Bool)(i:Nat):List (Option Nat×Fc)->DH->(DH->Oc)->Oc
 |[],d,e=>e d
 |(f,h)::l,d,e=>match draw with
  |true=>Fz draw i l d λd=>e ((i,f,h)::d)
  |false=>e d
def O6(P:aw)(j:Lk)(ops:List Oper)(draw:Bool)(i:Nat)(o:Oper)(E:DE)(L:DL)(w:J)(d:Bool)(H:DH)(K:DJ):Oc:=match o with
 |⟨dst,op,e,_,_,_⟩=>match GN P op e E L w d λv h w d=>yI dst v E λE=>Fz draw i h H λH=>K E L w d H with
  |some r=>r
  |none=>Tl P j dst op e E L w d λv L w d=>match Ap ops i H with
   |true=>gD d L w λw=>sb P ops i w (yI dst v E λE=>uw ops i H λH=>K E L w false H) H
   |false=>yI dst v E λE=>uw ops i H λH=>K E L w d H
def Sx(P:aw)(op:Op)(ty:aD)(E:DE)(L:DL)(w:J):Bool:=match GN P op ty E L w false λ_ _ _ _=>.leaf True with
 |some _=>true
 |none=>false
def zb(P:aw)(ops:List Oper)(i:Nat)(o:Oper)(E:DE)(L:DL)(w:J)(d:Bool)(H:DH)(K:DJ):Oc:=match o with
 |⟨dst,op,e,_,_,_⟩=>yI dst .u E λE=>match Sx P op e E L w with
  |true=>K E L w d H
  |false=>uw ops i H λH=>K E L w d H
def BJ(P:aw)(e:Lk)(ops:List Oper)(draw:Bool)(i:Nat)(o:Oper)(t:Nat)(want b:Bool)(E:DE)(L:DL)(w:J)(d:Bool)(H:DH)(K:DJ):Oc:=match want,b with
 |true,true|false,false=>O6 P e ops draw i o ((t,.kb b)::E) L w d H K
 |_,_=>zb P ops i o ((t,.kb b)::E) L w d H K
def headD(P:aw)(e:Lk)(ops:List Oper)(draw:Bool)(i:Nat)(E:DE)(L:DL)(w:J)(d:Bool)(H:DH)(K:DJ):Oc:=match ja ops i with
 |none=>.leaf False
 |some o=>match o.guard with
  |none=>O6 P e ops draw i o E L w d H K
  |some (h,want)=>match ja ops h with
   |some ⟨some t,_,_,_,_,_⟩=>getD E t λv=>match v with
    |.kb b=>BJ P e ops draw i o t want b E L w d H K
    |.b b=>.bq b (BJ P e ops draw i o t want true E L w d H K) (BJ P e ops draw i o t want false E L w d H K)
    |_=>zb P ops i o E L w d H K
   |_=>.leaf False
def Ou(P:aw)(k:Lk)(ops:List Oper)(K:DE->DL->J->Bool->Oc):List Oper->Nat->DE->DL->J->Bool->Oc
 |[],_,d,e,j,h=>K d e j h
 |_::l,i,d,e,j,h=>headD P k ops false i d e j h [] λd e j h _=>Ou P k ops K l (i+1) d e j h
def zu(P:aw)(q:Lk)(ops:List Oper)(K:DE->DL->J->Bool->Oc):Tr->DE->DL->J->Bool->DH->Oc
 |.nil,d,e,j,h,_=>K d e j h
 |.one i t,d,e,j,h,k=>headD P q ops true i d e j h k λd e j h k=>zu P q ops K t d e j h k
 |.fork a b,d,e,j,h,k=>.cj (zu P q ops K a d e j h k) (zu P q ops K b d e j h k)
def Tj(L:DL)(w:J)(d:Bool)(K:J->Bool->Oc):Oc:=match L,d with
 |[],false=>.dr w λw=>K w false
 |_,_=>K w true
def eb:(ts:List Tk)->(X:Type)->List DV->k6 ts X->(X->Oc)->Oc
 |[],_,_,d,e=>e d
 |.a _::ts,X,.a l::h,d,e=>eb ts X (l++h) d e
 |.t _::ts,X,.t l::h,d,e=>eb ts X (l++h) d e
 |.g _ _ _::ts,X,.g _ k q::h,d,e=>eb ts X (k++(q++h)) d e
 |.o (.i _)::ts,X,.i _ j::h,d,e=>eb ts X h (d j) e
 |.o .b::ts,X,.b j::h,d,e=>eb ts X h (d j) e
 |.o .b::ts,X,.kb j::h,d,e=>eb ts X h (d j) e
 |.o .st::ts,X,.st j::h,d,e=>eb ts X h (d j) e
 |.o .s::ts,X,.sl j::h,d,e=>eb ts X h (d j) e
 |.o .s::ts,X,.s3 a n c::h,d,e=>eb ts X h (d ⟨a,n,c⟩) e
 |.o .p::ts,X,.p j::h,d,e=>eb ts X h (d j) e
 |.o .p::ts,X,.r j _::h,d,e=>eb ts X h (d (some j)) e
 |.o .r::ts,X,.r j _::h,d,e=>eb ts X h (d j) e
 |.o .m::ts,X,.m j::h,d,e=>eb ts X h (d j) e
 |.o .f::ts,X,.f j::h,d,e=>eb ts X h (d j) e
 |.o .f::ts,X,.g n k q::h,d,e=>DV.os k λk=>DV.os q λq=>eb ts X h (d ⟨n,k.toArray,q.toArray⟩) e
 |.o .v::ts,X,v::h,d,e=>DV.o v λj=>eb ts X h (d j) e
 |_,_,_,_,_=>.leaf False
def Aq:(l:List (Nat×Sp))->gp l->DE->DL->J->aC->Oc
 |[],e,_,_,j,h=>.leaf (e j h)
 |(t,.v w)::l,e,d,k,j,h=>getD d t λv=>eb w (gp l) [v] e λq=>Aq l q d k j h
 |(t,.l w _)::l,e,d,k,j,h=>getD d t λv=>match v with
  |.r _ (some (i,_))=>match ja k i with
   |some (b,x,_)=>eb w (gp l) x (e b) λq=>Aq l q d k j h
   |none=>.leaf False
  |_=>.leaf False
abbrev DK:=Exit->DE->DL->J->Bool->Oc
section
variable (X:Fx) (es:List (fT X)) (R:aC)
def m5{X:Fx}(R:aC):List (fT X)->List Bool->DE->DL->J->Bool->Oc->Oc
 |[],_,_,_,_,_,f=>f
 |k::es,w,h,e,d,j,f=>match rD k.q w with
  |true=>match k with
   |⟨_,y,x,_⟩=>gD j e d λd=>Aq y x h e d R
  |false=>m5 R es w h e d j f
def mI(P:aw)(ord:List (Nat×Tr))(w:Lk):Code->List Bool->DK->DE->DL->J->Bool->Oc
 |.skip,_,k,h,j,e,d=>k .normal h j e d
 |.region id ops true,_,k,h,j,e,d=>match Cd ord id with
  |some t=>Tj j e d λe d=>zu P w ops.toList (λh j e d=>k .normal h j e d) t h j e d []
  |none=>.leaf False
 |.region _ ops false,_,k,h,j,e,d=>Ou P w ops.toList (λh j e d=>k .normal h j e d) ops.toList 0 h j e d
 |.seq a b,q,k,h,j,e,d=>mI P ord w a (false::q) (λx h j e d=>match x with
  |.normal=>m5 R es (true::q) h j e d (mI P ord w b (true::q) k h j e d)
  |x=>k x h j e d) h j e d
 |.cond o a b,q,k,h,j,e,d=>dg h o λv=>match v with
  |.kb true=>m5 R es (false::q) h j e d (mI P ord w a (false::q) k h j e d)
  |.kb false=>m5 R es (true::q) h j e d (mI P ord w b (true::q) k h j e d)
  |.b t=>.bq t (m5 R es (false::q) h j e d (mI P ord w a (false::q) k h j e d)) (m5 R es (true::q) h j e d (mI P ord w b (true::q) k h j e d))
  |_=>.leaf False
 |.block id a,q,k,h,j,e,d=>mI P ord w a (false::q) (λx h j e d=>match x with
  |.exit y=>match bG y id with
   |true=>k .normal h j e d
   |false=>k (.exit y) h j e d
  |x=>k x h j e d) h j e d
 |.loop _,q,_,h,j,e,d=>m5 R es q h j e d (.leaf False)
 |.exit id,_,k,h,j,e,d=>k (.exit id) h j e d
 |.ret,_,k,h,j,e,d=>k .ret h j e d
 |_,_,_,_,_,_,_=>.leaf False
def yT(P:aw)(E:DE)(L:DL)(w:J):List ResultVar->(List DV->Oc)->Oc
 |[],d=>d []
 |.tmp t::l,d=>getD E t λv=>yT P E L w l λe=>d (v::e)
 |.cell q h::l,d=>getD E q λv=>match v with
  |.r _ (some (i,k))=>match ja L i with
   |some (_,j,_)=>Jh P h j k λv=>yT P E L w l λe=>d (v::e)
   |none=>.leaf False
  |.r p none=>Jg P h p w λv _=>yT P E L w l λe=>d (v::e)
  |_=>.leaf False
def XQ(P:aw)(fn:Func):DK:=λq j h e k=>match q with
 |.normal|.ret=>gD k h e λe=>yT P j h e fn.results.toList λd=>match d with
  |[v]=>DV.o v λv=>.leaf (R (ae v) e)
  |d=>DV.os d λd=>.leaf (R (ae (.tuple d.toArray)) e)
 |_=>.leaf False
def IM(P:aw)(ord:List (Nat×Tr))(C:Lk)(A:Code)(z:DK):List Bool->Code×DK
 |[]=>(A,z)
 |b::y=>match IM P ord C A z y,b with
  |(.seq w x,d),false=>(w,λe h j q k=>match e with
   |.normal=>m5 R es (true::y) h j q k (mI X es R P ord C x (true::y) d h j q k)
   |e=>d e h j q k)
  |(.seq _ x,d),true=>(x,d)
  |(.cond _ w _,d),false=>(w,d)
  |(.cond _ _ x,d),true=>(x,d)
  |(.block id w,d),_=>(w,λe h j q k=>match e with
   |.exit B=>match bG B id with
    |true=>d .normal h j q k
    |false=>d (.exit B) h j q k
   |e=>d e h j q k)
  |(.loop w,d),_=>(w,λe h j q k=>match e with
   |.normal=>m5 R es y h j q k (.leaf False)
   |e=>d e h j q k)
  |(_,d),_=>(.skip,d)
def Qd(R:aC)(X:Fx)(K:aw->Func->List (Nat×Tr)->Lk->Oc):Oc:=match X with
 |⟨d,fn,ord,e,some l⟩=>K d fn ord ⟨e,some (R,l)⟩
 |⟨d,fn,ord,e,none⟩=>K d fn ord ⟨e,none⟩
def Ba(q:List Bool)(E:DE)(L:DL)(w:J):Oc:=Qd R X λd fn ord j=>match fn.body with
  |some c=>match IM X es R d ord j c (XQ R d fn) q with
   |(.loop x,e)=>mI X es R d ord j x (false::q) (λh E L w k=>match h with
    |.normal=>m5 R es q E L w k (.leaf False)
    |h=>e h E L w k) E L w false
   |(c,e)=>mI X es R d ord j c q e E L w false
  |none=>.leaf False
end
abbrev hg:List Tk->Type->Type
 |[],X=>X
 |.o (.i _)::l,X=>Int->hg l X
 |.o .b::l,X=>Bool->hg l X
 |.o .st::l,X=>ByteArray->hg l X
 |.o .s::l,X=>Sl->hg l X
 |.o .p::l,X=>Option Addr->hg l X
 |.o .r::l,X=>Addr->hg l X
 |.o .m::l,X=>Option Nat->hg l X
 |.o .v::l,X=>aa->hg l X
 |.o .f::l,X=>Fv->hg l X
 |.a _::l,X=>hg l X
 |.t _::l,X=>hg l X
 |.g _ _ _::l,X=>hg l X
abbrev lT:List (Nat×Sp)->Type
 |[]=>J->aC->Prop
 |(_,.v d)::l=>hg d (lT l)
 |(_,.l d _)::l=>Nat->hg d (lT l)
def rO:∀(ts:List Tk) (X:Type),k6 ts X=hg ts X
 |[],_=>rfl
 |.o e::ts,X=>by cases e<;>exact congrArg (λd=>_->d) (rO ts X)
 |.a _::ts,X=>rO ts X
 |.t _::ts,X=>rO ts X
 |.g _ _ _::ts,X=>rO ts X
def Bb:∀l:List (Nat×Sp),gp l=lT l
 |[]=>rfl
 |(_,.v d)::l=>(rO d (gp l)).trans (congrArg (hg d) (Bb l))
 |(_,.l d _)::l=>congrArg (λe=>Nat->e) ((rO d (gp l)).trans (congrArg (hg d) (Bb l)))
def jU:(ts:List Tk)->(X:Type)->hg ts X->(List DV->X->Prop)->Prop
 |[],_,h,j=>j [] h
 |.o (.i q)::ts,X,h,j=>∀e:Int,jU ts X (h e) λd k=>j (.i q e::d) k
 |.o .b::ts,X,h,j=>∀e:Bool,jU ts X (h e) λd k=>j (.b e::d) k
 |.o .st::ts,X,h,j=>∀e:ByteArray,jU ts X (h e) λd k=>j (.st e::d) k
 |.o .s::ts,X,h,j=>∀e:Sl,jU ts X (h e) λd k=>j (.sl e::d) k
 |.o .p::ts,X,h,j=>∀e:Option Addr,jU ts X (h e) λd k=>j (.p e::d) k
 |.o .r::ts,X,h,j=>∀e:Addr,jU ts X (h e) λd k=>j (.r e none::d) k
 |.o .m::ts,X,h,j=>∀e:Option Nat,jU ts X (h e) λd k=>j (.m e::d) k
 |.o .v::ts,X,h,j=>∀e:aa,jU ts X (h e) λd k=>j (.v e::d) k
 |.o .f::ts,X,h,j=>∀e:Fv,jU ts X (h e) λd k=>j (.f e::d) k
 |.a q::ts,X,h,j=>jU ts X h λd k=>j (.a (lK d 0 q)::d.drop q) k
 |.t q::ts,X,h,j=>jU ts X h λd k=>j (.t (lK d 0 q)::d.drop q) k
 |.g n w q::ts,X,h,j=>jU ts X h λd k=>j (.g n (lK d 0 w) (lK d w q)::d.drop (w+q)) k
def z8(G:DE->DL->J->aC->Oc):(l:List (Nat×Sp))->lT l->DE->DL->Prop
 |[],d,h,e=>∀(w:J) (R:aC),Nf (G h e w R) (d w R)
 |(t,.v j)::l,d,h,e=>jU j (lT l) d λk d=>match k with
  |v::_=>z8 G l d ((t,v)::h) e
  |[]=>False
 |(t,.l j q)::l,d,h,e=>∀b:Nat,jU j (lT l) (d b) λk d=>z8 G l d ((t,.r (ad b) (some (e.length,0)))::h) (e++[(b,k,q)])
def jw:(ts:List Tk)->(X:Type)->hg ts X->(List DV->X->Oc)->Oc
 |[],_,h,j=>j [] h
 |.o (.i q)::ts,X,h,j=>.all Int λe=>jw ts X (h e) λd k=>j (.i q e::d) k
 |.o .b::ts,X,h,j=>.all Bool λe=>jw ts X (h e) λd k=>j (.b e::d) k
 |.o .st::ts,X,h,j=>.all ByteArray λe=>jw ts X (h e) λd k=>j (.st e::d) k
 |.o .s::ts,X,h,j=>.all Sl λe=>jw ts X (h e) λd k=>j (.sl e::d) k
 |.o .p::ts,X,h,j=>.all (Option Addr) λe=>jw ts X (h e) λd k=>j (.p e::d) k
 |.o .r::ts,X,h,j=>.all Addr λe=>jw ts X (h e) λd k=>j (.r e none::d) k
 |.o .m::ts,X,h,j=>.all (Option Nat) λe=>jw ts X (h e) λd k=>j (.m e::d) k
 |.o .v::ts,X,h,j=>.all aa λe=>jw ts X (h e) λd k=>j (.v e::d) k
 |.o .f::ts,X,h,j=>.all Fv λe=>jw ts X (h e) λd k=>j (.f e::d) k
 |.a q::ts,X,h,j=>jw ts X h λd k=>j (.a (lK d 0 q)::d.drop q) k
 |.t q::ts,X,h,j=>jw ts X h λd k=>j (.t (lK d 0 q)::d.drop q) k
 |.g n w q::ts,X,h,j=>jw ts X h λd k=>j (.g n (lK d 0 w) (lK d w q)::d.drop (w+q)) k
def An(G:DE->DL->J->aC->Oc):(l:List (Nat×Sp))->lT l->DE->DL->Oc
 |[],d,h,e=>.all J λw=>.all aC λq=>.im (G h e w q) (d w q)
 |(t,.v j)::l,d,h,e=>jw j (lT l) d λk d=>match k with
  |v::_=>An G l d ((t,v)::h) e
  |[]=>.leaf False
 |(t,.l j x)::l,d,h,e=>.all Nat λb=>jw j (lT l) (d b) λk d=>An G l d ((t,.r (ad b) (some (e.length,0)))::h) (e++[(b,k,x)])
def k2:(ts:List Tk)->hg ts Unit
 |[]=>()
 |.o (.i _)::ts=>λ_=>k2 ts
 |.o .b::ts=>λ_=>k2 ts
 |.o .st::ts=>λ_=>k2 ts
 |.o .s::ts=>λ_=>k2 ts
 |.o .p::ts=>λ_=>k2 ts
 |.o .r::ts=>λ_=>k2 ts
 |.o .m::ts=>λ_=>k2 ts
 |.o .v::ts=>λ_=>k2 ts
 |.o .f::ts=>λ_=>k2 ts
 |.a _::ts=>k2 ts
 |.t _::ts=>k2 ts
 |.g _ _ _::ts=>k2 ts
def HO:Nat->List DV->DE
 |_,[]=>[]
 |n,v::d=>(n,v)::HO (n+1) d
def WM(X:Fx)(es:List (fT X))(f:bU)(ts:List Tk):Oc:=jw ts Unit (k2 ts) λe _=>.all J λh=>.all aC λd=>Qd d X λj _ _ _=>DV.os e λk=>.im (Ba X es d [] (HO 0 e) [] h) (aj j f k.toArray h d)
abbrev At(X:Fx)(_:List (fT X))(_:List Nat)(d:Ps):Type:=lT d
abbrev aA(P:aw)(fn:Func)(ord:List (Nat×Tr))(d:List Nat)(e:Option (List bU):=none):List (fT ⟨P,fn,ord,d,e⟩):=[]
section
variable {X:Fx}
abbrev ai(es:List (fT X))(q:List Nat)(d:Ps){F:lT d}(_:z8 (λe h k j=>Ba X es j (m6 q) e h k) d F [] []:=by repeat' first |(intro)|((conv=>arg 1;whnf);first |exact Nf.leaf|apply Nf.bq|apply Nf.and|apply Nf.ex|apply Nf.cf|apply Nf.ca|apply Nf.cp|apply Nf.nw|apply Nf.st|apply Nf.lc|apply Nf.op|apply Nf.all|apply Nf.im|apply Nf.al|apply Nf.dr|apply Nf.at|apply Nf.or|apply Nf.cj)):At X es q d:=F
abbrev bu(es:List (fT X))(q:List Nat)(d:Ps):At X es q d:=cast (Bb d) (iK d 0 (X.Sem (m6 q)))
abbrev ak{es:List (fT X)}{q:List Nat}{d:Ps}(G:At X es q d){F:gp d}(_:HEq G F:=by exact HEq.rfl)(e:F=iK d 0 (X.tJ es (m6 q)):=by kernel_rfl):List (fT X):=Tx X es (m6 q) d F e::es
abbrev bt{es:List (fT X)}{q:List Nat}{d:Ps}(G:At X es q d){F:gp d}(_:HEq G F:=by exact HEq.rfl)(e:F=iK d 0 (X.Sem (m6 q)):=by kernel_rfl):List (fT X):=Tw X (m6 q) d F e::es
def q6:(ts:List Tk)->(List aa->Prop)->Prop
 |[],e=>e []
 |.o k::ts,e=>∀q:k.T,q6 ts λd=>e (k.val q::d)
 |.a h::ts,e=>q6 ts λd=>e (.agg (d.take h).toArray::d.drop h)
 |.t h::ts,e=>q6 ts λd=>e (.tuple (d.take h).toArray::d.drop h)
 |.g n j h::ts,e=>q6 ts λd=>e (.func (.func n) (d.take j).toArray ((d.drop j).take h).toArray::(d.drop j).drop h)
def tY:∀{ts:List Tk} {K:List aa->Prop},(∀e,K e)->q6 ts K
 |[],_,d=>d []
 |.o _::ts,_,d=>λ_=>tY (ts:=ts) λ_=>d _
 |.a _::ts,_,d=>tY (ts:=ts) λ_=>d _
 |.t _::ts,_,d=>tY (ts:=ts) λ_=>d _
 |.g _ _ _::ts,_,d=>tY (ts:=ts) λ_=>d _
def aF(es:List (fT X))(f:bU)(ts:List Tk){T:Prop}(_:Nf (WM X es f ts) T:=by repeat' first |(intro)|((conv=>arg 1;whnf);first |exact Nf.leaf|apply Nf.bq|apply Nf.and|apply Nf.ex|apply Nf.cf|apply Nf.ca|apply Nf.cp|apply Nf.nw|apply Nf.st|apply Nf.lc|apply Nf.op|apply Nf.all|apply Nf.im|apply Nf.al|apply Nf.dr|apply Nf.at|apply Nf.or|apply Nf.cj))(k:X.P.funcs[f]? =some X.fn:=by kernel_rfl)(j:X.fn.body=some X.c:=by kernel_rfl)(e:(q6 ts λd=>∀(w:J) (R:aC),cB (Nat.ble d.length X.fn.ntmps) (hZ X.P X.n (X.zo es R) X.c [] (s6 X.P X.fn R) ⟨jA 0 d,[],[],w,false⟩)->aj X.P f d.toArray w R)=T:=by kernel_rfl):T:=
 e▸tY λ_ _ _ h=>Sr X es (dt h).2 k j (dt h).1 rfl
def bH(es:List (fT X)){w:List (fT X)}{q:List Nat}{d:Ps}(F:At X w q d){T:Prop}(_:Nf (An (λh j x k=>Ba X es k (m6 q) h j x) d F [] []) T:=by repeat' first |(intro)|((conv=>arg 1;whnf);first |exact Nf.leaf|apply Nf.bq|apply Nf.and|apply Nf.ex|apply Nf.cf|apply Nf.ca|apply Nf.cp|apply Nf.nw|apply Nf.st|apply Nf.lc|apply Nf.op|apply Nf.all|apply Nf.im|apply Nf.al|apply Nf.dr|apply Nf.at|apply Nf.or|apply Nf.cj))(e:tK d (iK d 0 (X.tJ es (m6 q))) (iK d 0 (X.Sem (m6 q)))=T:=by kernel_rfl):T:=e▸YY es (m6 q) d
end
end Go.W
set_option maxHeartbeats 2000000
set_option maxRecDepth 100000
namespace Go.Proofs.YtahmokchdhengaaGreatDoor
open Go renaming World->J,Calls->aj,Program->aw,Value->aa,TypeId->aD,Ending->cA,FuncId->bU,IntKind->ha
open Go.IntKind renaming wrap->aG
open Go.IntWalk renaming i64_in->bm
open _root_.Bool renaming and_eq_true->a9
open _root_.Nat renaming le_refl->be,le_trans->bp,beq->bG,beq_eq->dZ
open Go.Region renaming wanted->b3,ready->dE
open Go.Proofs.Tryz renaming prog->U
open _root_.Decidable renaming decide->ao
open Go.Ending renaming returned->ae
open List renaming mem_append->aL,mem_cons->aE,not_mem_nil->aZ,mem_of_getElem?->aB,getElem?_eq_getElem->a5,getElem?_eq_some_iff->cr,mem_append_left->bz,mem_append_right->b0,mem_map->cz,mem_singleton->bX,mem_cons_of_mem->cH,drop_eq_getElem_cons->dk,take_add_one->g3,drop_of_length_le->de,take_of_length_le->dM
open Go Go.W
def mp{a b:Prop}(d:a)(e:a=b:=by kernel_rfl):b:=e▸d
abbrev jT:=Exit->Act->J->Prop
abbrev Fg(P:aw)(n:Nat)(K:Env->J->aC->Prop)(c:Code)(Q:aC->jT):Prop:=∀(R:aC) (E:Env) (w:J),K E w R->WP P (cx n) c (Q R) E w
abbrev Fj(P:aw)(n:Nat)(K:Env->J->aC->Prop)(c:Code)(Q:aC->jT):Prop:=∀(R:aC) (E:Env) (w:J),K E w R->LP P (cx n) c (Q R) E w
abbrev iJ(w:J)(p:Addr)(K:Int->Int->Int->Sl->Prop):Prop:=∃d:Int,∃e:Int,∃h:Int,∃j:Sl,w.cell? (p.add 0)=some (.i d)/\w.cell? (p.add 1)=some (.int .u8 e)/\w.cell? (p.add 2)=some (.int .u8 h)/\w.cell? (p.add 3)=some (j.v)/\K d e h j
abbrev IY(w:J)(p:Addr)(K:Int->Int->Int->ByteArray->Int->Prop):Prop:=∃d:Int,∃e:Int,∃h:Int,∃j:ByteArray,∃k:Int,w.cell? (p.add 0)=some (.int .u8 d)/\w.cell? (p.add 1)=some (.int .u8 e)/\w.cell? (p.add 2)=some (.int .u8 h)/\w.cell? (p.add 3)=some (.string j)/\w.cell? (p.add 4)=some (.i k)/\K d e h j k
abbrev IW(w:J)(p:Addr)(K:Int->Int->Int->Prop):Prop:=∃d:Int,∃e:Int,∃h:Int,w.cell? (p.add 0)=some (.i d)/\w.cell? (p.add 1)=some (.i e)/\w.cell? (p.add 2)=some (.i h)/\K d e h
abbrev IX(w:J)(p:Addr)(K:Int->ByteArray->Int->Prop):Prop:=∃d:Int,∃e:ByteArray,∃h:Int,w.cell? (p.add 0)=some (.i d)/\w.cell? (p.add 1)=some (.string e)/\w.cell? (p.add 2)=some (.i h)/\K d e h
abbrev Vd(w:J)(p:Addr)(K:Int->Int->Prop):Prop:=∃d:Int,∃e:Int,w.cell? (p.add 0)=some (.i d)/\w.cell? (p.add 1)=some (.i e)/\K d e
abbrev GF(f:bU)(xs:Array aa)(w:J)(K:Bool->J->Prop):Prop:=aj U f xs w λe h=>∃d:Bool,e=ae (.bool d)/\K d h
abbrev Sn(f:bU)(xs:Array aa)(w:J)(K:Int->J->Prop):Prop:=aj U f xs w λe h=>∃d:Int,e=ae (.i d)/\K d h
abbrev SD(bs:List Nat)(f:bU)(xs:Array aa)(w:J)(K:Int->J->Prop):Prop:=fq bs U f xs w λe h=>∃d:Int,e=ae (.i d)/\K d h
abbrev w2(f:bU)(xs:Array aa)(w:J)(K:Int->Int->Int->Sl->J->Prop):Prop:=aj U f xs w λk q=>∃d:Int,∃e:Int,∃h:Int,∃j:Sl,k=ae (.agg #[.i d,.int .u8 e,.int .u8 h,j.v])/\K d e h j q
abbrev rK(bs:List Nat)(f:bU)(xs:Array aa)(w:J)(K:Int->Int->Int->Sl->J->Prop):Prop:=fq bs U f xs w λk q=>∃d:Int,∃e:Int,∃h:Int,∃j:Sl,k=ae (.agg #[.i d,.int .u8 e,.int .u8 h,j.v])/\K d e h j q
abbrev So(f:bU)(xs:Array aa)(w:J)(K:Int->Int->Int->ByteArray->Int->Int->J->Prop):Prop:=aj U f xs w λx y=>∃d:Int,∃e:Int,∃h:Int,∃j:ByteArray,∃k:Int,∃q:Int,x=ae (.tuple #[.agg #[.int .u8 d,.int .u8 e,.int .u8 h,.string j,.i k],.i q])/\K d e h j k q y
abbrev Sq(f:bU)(xs:Array aa)(w:J)(K:(Option Addr)->J->Prop):Prop:=aj U f xs w λe h=>∃d:Option Addr,e=ae (.pointer d)/\K d h
abbrev AT(f:bU)(xs:Array aa)(w:J)(K:aa->J->Prop):Prop:=aj U f xs w λe h=>∃d:aa,e=ae (d)/\K d h
abbrev SE(bs:List Nat)(f:bU)(xs:Array aa)(w:J)(K:Int->Int->Int->Sl->Int->J->Prop):Prop:=fq bs U f xs w λq x=>∃d:Int,∃e:Int,∃h:Int,∃j:Sl,∃k:Int,q=ae (.tuple #[.agg #[.i d,.int .u8 e,.int .u8 h,j.v],.i k])/\K d e h j k x
abbrev GG(f:bU)(xs:Array aa)(w:J)(K:ByteArray->J->Prop):Prop:=aj U f xs w λe h=>∃d:ByteArray,e=ae (.string d)/\K d h
abbrev AW(bs:List Nat)(f:bU)(xs:Array aa)(w:J)(K:ByteArray->J->Prop):Prop:=fq bs U f xs w λe h=>∃d:ByteArray,e=ae (.string d)/\K d h
abbrev zg(w:J)(p:Addr)(d e h:aa)(K:J->Prop):Prop:=aJ w p d λw=>aJ w (p.add 1) e λw=>aJ w (p.add 2) h λw=>K w
abbrev ml(w:J)(p:Addr)(d e h j:aa)(K:J->Prop):Prop:=aJ w p d λw=>aJ w (p.add 1) e λw=>aJ w (p.add 2) h λw=>aJ w (p.add 3) j λw=>K w
abbrev O1(w:J)(p:Addr)(d e h j k:aa)(K:J->Prop):Prop:=aJ w p d λw=>aJ w (p.add 1) e λw=>aJ w (p.add 2) h λw=>aJ w (p.add 3) j λw=>aJ w (p.add 4) k λw=>K w
abbrev mu:Nat:=0
abbrev ER:Nat:=1
abbrev bn:Nat:=3
abbrev ZE:Nat:=4
abbrev g7:Nat:=5
abbrev fk:Nat:=9
abbrev ZL:Nat:=22
abbrev ZJ:Nat:=23
abbrev lM:Nat:=27
abbrev gF:Nat:=28
abbrev bR:Nat:=36
abbrev bI:Nat:=38
abbrev pw:Nat:=47
abbrev mx:Nat:=50
abbrev cX:Nat:=56
abbrev zy:Nat:=58
abbrev EU:Nat:=59
abbrev ET:Nat:=60
abbrev PX:Nat:=61
abbrev ZI:Nat:=63
abbrev iW:Nat:=81
abbrev ZK:Nat:=84
abbrev ZF:Nat:=93
abbrev ik:Nat:=96
abbrev jS:Nat:=100
abbrev tB:Nat:=107
abbrev cY:Nat:=111
abbrev aH:Nat:=113
abbrev ZH:Nat:=133
abbrev ZM:Nat:=134
abbrev il:Nat:=136
abbrev PW:Nat:=141
abbrev ZD:Nat:=148
abbrev zw:Nat:=149
abbrev k0:Nat:=166
abbrev zx:Nat:=180
abbrev PV:Nat:=183
abbrev oq:Nat:=186
abbrev iq:Nat:=198
abbrev aO:Nat:=200
abbrev ZG:Nat:=207
abbrev hQ:Nat:=216
abbrev ZN:Nat:=217
abbrev wh:Nat:=219
abbrev nk:Nat:=224
abbrev jR:Nat:=232
abbrev mw:Nat:=250
abbrev ES:Nat:=257
abbrev Ck:Nat:=3
abbrev Kb:Nat:=4
abbrev vb:Nat:=5
abbrev KJ:Nat:=6
abbrev Kt:Nat:=7
abbrev Lp:Nat:=8
abbrev JH:Nat:=9
abbrev Ko:Nat:=10
abbrev Kl:Nat:=11
abbrev J6:Nat:=12
abbrev Kq:Nat:=13
abbrev Kn:Nat:=14
abbrev Ky:Nat:=15
abbrev KK:Nat:=16
abbrev Wb:Nat:=17
abbrev Cv:Nat:=18
abbrev oY:Nat:=19
abbrev kK:Nat:=20
abbrev Cl:Nat:=21
abbrev Kr:Nat:=22
abbrev Ks:Nat:=23
abbrev Ku:Nat:=24
abbrev Kw:Nat:=25
abbrev Lq:Nat:=26
abbrev LB:Nat:=27
abbrev Cu:Nat:=28
abbrev Cm:Nat:=29
abbrev J7:Nat:=30
abbrev Kf:Nat:=31
abbrev JN:Nat:=32
abbrev J':Nat:=33
abbrev Ka:Nat:=34
abbrev Kp:Nat:=35
abbrev Ke:Nat:=36
abbrev J9:Nat:=37
abbrev KC:Nat:=38
abbrev KG:Nat:=39
abbrev KL:Nat:=40
abbrev Lr:Nat:=41
abbrev sB:Nat:=42
abbrev KO:Nat:=43
abbrev nV:Nat:=44
abbrev iL:Nat:=45
abbrev CD:Nat:=46
abbrev CF:Nat:=47
abbrev sA:Nat:=48
abbrev Cz:Nat:=49
abbrev LD:Nat:=50
abbrev CW:Nat:=51
abbrev LA:Nat:=52
abbrev CH:Nat:=53
abbrev nT:Nat:=54
abbrev oW:Nat:=55
abbrev vd:Nat:=56
abbrev J8:Nat:=57
abbrev Kg:Nat:=58
abbrev Kk:Nat:=59
abbrev Ki:Nat:=60
abbrev Km:Nat:=61
abbrev JK:Nat:=62
abbrev Kd:Nat:=63
abbrev ql:Nat:=64
abbrev nU:Nat:=65
abbrev CV:Nat:=66
abbrev vf:Nat:=67
abbrev KF:Nat:=68
abbrev KH:Nat:=69
abbrev KA:Nat:=70
abbrev KD:Nat:=71
abbrev KN:Nat:=72
abbrev yc:Nat:=73
abbrev Ll:Nat:=74
abbrev Lo:Nat:=75
abbrev KM:Nat:=76
abbrev CE:Nat:=77
abbrev Cw:Nat:=78
abbrev Lu:Nat:=79
abbrev LK:Nat:=80
abbrev LI:Nat:=81
abbrev LG:Nat:=82
abbrev LF:Nat:=83
abbrev LJ:Nat:=84
abbrev Lf:Nat:=85
abbrev Cy:Nat:=86
abbrev Cp:Nat:=87
abbrev JJ:Nat:=88
abbrev JV:Nat:=89
abbrev JW:Nat:=90
abbrev Kj:Nat:=91
abbrev Kc:Nat:=92
abbrev J5:Nat:=93
abbrev JM:Nat:=94
abbrev JL:Nat:=95
abbrev Ct:Nat:=96
abbrev KE:Nat:=97
abbrev Kz:Nat:=98
abbrev V9:Nat:=99
abbrev La:Nat:=101
abbrev oX:Nat:=102
abbrev vh:Nat:=103
abbrev CG:Nat:=104
abbrev Ly:Nat:=105
abbrev LM:Nat:=106
abbrev LL:Nat:=107
abbrev Lw:Nat:=108
abbrev yj:Nat:=109
abbrev Lx:Nat:=110
abbrev Lt:Nat:=111
abbrev Ls:Nat:=112
abbrev Lz:Nat:=113
abbrev CX:Nat:=114
abbrev CA:Nat:=115
abbrev CB:Nat:=116
abbrev CJ:Nat:=117
abbrev JY:Nat:=118
abbrev JR:Nat:=119
abbrev Cn:Nat:=120
abbrev JZ:Nat:=121
abbrev JI:Nat:=122
abbrev ve:Nat:=123
abbrev JO:Nat:=124
abbrev Cr:Nat:=125
abbrev J2:Nat:=126
abbrev Co:Nat:=127
abbrev JP:Nat:=128
abbrev JS:Nat:=129
abbrev sx:Nat:=130
abbrev Lm:Nat:=131
abbrev sy:Nat:=132
abbrev KB:Nat:=133
abbrev Kx:Nat:=134
abbrev Lj:Nat:=140
abbrev KP:Nat:=141
abbrev CK:Nat:=142
abbrev KR:Nat:=143
abbrev yd:Nat:=144
abbrev CC:Nat:=145
abbrev CI:Nat:=146
abbrev J0:Nat:=147
abbrev x':Nat:=148
abbrev J4:Nat:=149
abbrev vc:Nat:=150
abbrev JU:Nat:=151
abbrev Ln:Nat:=152
abbrev V8:Nat:=156
abbrev K8:Nat:=157
abbrev CR:Nat:=158
abbrev yh:Nat:=159
abbrev CN:Nat:=160
abbrev CU:Nat:=161
abbrev KS:Nat:=162
abbrev K3:Nat:=163
abbrev CO:Nat:=164
abbrev KZ:Nat:=165
abbrev yi:Nat:=166
abbrev JQ:Nat:=167
abbrev yb:Nat:=168
abbrev J3:Nat:=169
abbrev qn:Nat:=172
abbrev CT:Nat:=173
abbrev K6:Nat:=174
abbrev CQ:Nat:=175
abbrev CS:Nat:=176
abbrev K2:Nat:=177
abbrev K0:Nat:=178
abbrev K1:Nat:=179
abbrev yg:Nat:=180
abbrev KX:Nat:=181
abbrev K5:Nat:=182
abbrev CL:Nat:=183
abbrev vi:Nat:=184
abbrev ye:Nat:=185
abbrev yf:Nat:=186
abbrev KY:Nat:=187
abbrev Ld:Nat:=188
abbrev CM:Nat:=189
abbrev qm:Nat:=190
abbrev Lh:Nat:=191
abbrev eB:Nat:=192
abbrev Lb:Nat:=193
abbrev sD:Nat:=194
abbrev sE:Nat:=195
abbrev KU:Nat:=196
abbrev JX:Nat:=197
abbrev ya:Nat:=198
abbrev J1:Nat:=199
abbrev K7:Nat:=201
abbrev KV:Nat:=202
abbrev CP:Nat:=203
abbrev Le:Nat:=204
abbrev sC:Nat:=205
abbrev Lg:Nat:=206
abbrev Wc:Nat:=207
abbrev KI:Nat:=208
abbrev Cj:Nat:=209
abbrev JG:Nat:=210
abbrev JF:Nat:=211
abbrev Lc:Nat:=212
abbrev KW:Nat:=213
abbrev Cq:Nat:=214
abbrev K4:Nat:=219
abbrev Li:Nat:=220
abbrev Wa:Nat:=229
abbrev V7:Nat:=230
abbrev V6:Nat:=231
abbrev Cs:Nat:=232
namespace Hm
noncomputable abbrev t0:=aA U Tryz.f5 [] []
noncomputable abbrev S0:=ai t0 [2] [(0,.v [.I]),(1,.v [.I])]
noncomputable abbrev t1:=ak S0
def ok:=aF t1 vb [.I,.I]
end Hm
namespace uy
noncomputable abbrev t0:=aA U Tryz.f122 [] []
noncomputable def L0:=bu t0 [0,1,1,1,1] [(0,.v [.s]),(1,.v [.I]),(5,.v [.I])]
noncomputable abbrev t1:=bt L0
def cU:=bH t1 L0
def ok:=aF t1 JI [.s,.I]
end uy
namespace mN
noncomputable abbrev t0:=aA U Tryz.f29 [(6,ls [0,1,2,3,4,5,6,7,8])] []
noncomputable def L0:=bu t0 [0,1,1,1,2] [(0,.v [.s]),(1,.v [.s]),(5,.v [.I])]
noncomputable abbrev t1:=bt L0
def cU:=bH t1 L0
def ok:=aF t1 Cm [.s,.s]
end mN
open Go Go.W Go.RowKit Go.Lib
def oL:fS U tB g7 (.int .u8 0) 1 1:=⟨by kernel_rfl,by kernel_rfl,rfl,by decide,by decide⟩
def rU:fS U ZL bn (.int .i64 0) 1 8:=⟨by kernel_rfl,by kernel_rfl,rfl,by decide,by decide⟩
abbrev Bytes(w:J)(s:Sl)(bs:List UInt8):Prop:=Rd w s (bs.map i4)
abbrev bW(w:J)(s:Sl)(l:List Int):Prop:=Rd w s (l.map ct)
def Bytes.len{w:J}{s:Sl}{bs:List UInt8}(d:Bytes w s bs):s.n=bs.length:=by simpa using d.1
def bW.len{w:J}{s:Sl}{bs:List Int}(d:bW w s bs):s.n=bs.length:=by simpa using d.1
def Bytes.cell{w:J}{s:Sl}{bs:List UInt8}(d:Bytes w s bs){i j:Nat}{b:UInt8}(hi:bs[i]? =some b)(e:j=i *1){K:Addr->Prop}(h:∀p,s.a=some p->w.cell? (p.add j)=some (.int .u8 (b.toNat:Int))->K p):W.dJ s.a K:=
 Rd.get d (i:=i) (v:=i4 b) (by simp[hi]) e h
def bW.cell{w:J}{s:Sl}{l:List Int}(d:bW w s l){i j:Nat}{b:Int}(hi:l[i]? =some b)(e:j=i *1){K:Addr->Prop}(h:∀p,s.a=some p->w.cell? (p.add j)=some (.int .i64 b)->K p):W.dJ s.a K:=
 Rd.get d (i:=i) (v:=ct b) (by simp[hi]) e h
def bl(s:ByteArray):List UInt8:=s.data.toList
def ba(l:List UInt8):ByteArray:=⟨l.toArray⟩
def kC(l:List UInt8):bl (ba l)=l:=rfl
def jx(s:ByteArray):ba (bl s)=s:=rfl
def c9(s:ByteArray):(bl s).length=s.size:=rfl
def bC(l:List UInt8):(ba l).size=l.length:=by simp[ba,ByteArray.size]
def zl:Tryz.prog.underlying fk=some .string:=by kernel_rfl
def EW:Tryz.prog.underlying g7=some (.int .u8):=by kernel_rfl
def rE{w:J}{s:Sl}{bs:List UInt8}(d:Bytes w s bs):(Go.convert tB fk s.v).run U w=.ok (.string (ba bs)) w:=by
 obtain⟨a,n,c⟩:=s;have h:=Bytes.len d;simp only at h;subst h;cases a with
 |none=>
  obtain⟨e,k⟩:=d.2.2.1 rfl;simp only at e k;obtain rfl:bs=[]:=List.eq_nil_of_length_eq_zero e;rw[run_convert_bytes_string (P:=U) w tB fk g7 _ _ _ oL.ht EW zl];rfl
 |some p=>
  refine run_convert_bytes_back (P:=U) w tB fk g7 p c bs oL.ht EW zl λj x=>?_;obtain⟨z,y,q⟩:=d.2.2.2 j (i4 bs[j]) (by simp[a5 x]);cases y;exact q
def O9(w:J)(t:ByteArray):∃e d,(Go.convert fk tB (.string t)).run U w=.ok e.v d/\Bytes d e (bl t)/\ah w d/\(∀b∈aN e,w.heap.size<=b/\b<d.heap.size):=by
 refine⟨⟨some ⟨w.heap.size,0,none⟩,t.size,grownCap w t.size 0 g7⟩,_,run_bytes_of_string (P:=U) w fk tB g7 t zl oL.ht EW,⟨?_,?_,?_⟩,?_,?_⟩
 .simp [c9]
 .exact grownCap_ge w t.size 0 _
 .refine Row.p9 (T:=g7) (.inr ⟨w.heap.size,0,_,_,rfl,oR w.drew _,λi v h=>?_⟩);rw[Nat.zero_add,bytesRow,Array.getElem?_append];have k:i<t.data.size:=by have:=(cr.1 h).1;simpa[bl]using this
  rw[ag (by simpa using k)];simpa[bl,i4]using h
 .exact (Fr.drew _ w).gE (Fr.alloc _ _ _)
 .intro b j;simp[aN]at j;have:(w.drew.alloc (.cells (bytesRow t (grownCap w t.size 0 g7)) g7 ((bytesRow t (grownCap w t.size 0 g7)).size,(bytesRow t (grownCap w t.size 0 g7)).size+1))).heap.size=w.heap.size+1:=size_alloc _ _;omega
def DU{w:J}{s:Sl}{vs:List aa}(k:s.n=vs.length)(j:s.n<=s.c)(d:s.a=none->s.c=0)(h:∀i v,vs[i]? =some v->∃p,s.a=some p/\w.cell? (p.add i)=some v):Rd w s vs:=
 ⟨k,j,λe=>⟨by have:=d e;omega,d e⟩,h⟩
def ArgNums(w:J)(s:Sl):Prop:=∃l:List Int,bW w s l/\l.length<=9223372036854775807/\∀d∈l,-9223372036854775808<=d/\d<=9223372036854775807
def arg_nums_nil(w:J):ArgNums w ⟨none,0,0⟩:=⟨[],Rd.nil w,by simp,by simp⟩
def arg_nums(w:J)(x:Addr)(len cap:Nat)(zs:List Int)(A:len<=zs.length)(k:len<=cap)(z:cap<=maxLen)(j:∀i,i<zs.length->w.cell? (x.add i)=some (.int .i64 (zs.getD i 0)))(y:∀n∈zs,IntKind.min .i64<=n/\n<=IntKind.max .i64):ArgNums w ⟨some x,len,cap⟩:=by
 refine⟨zs.take len,DU (by simp;omega) k (λh=>by cases h) (λi v d=>?_),?_,λn q=>y n (List.mem_of_mem_take q)⟩
 .rw [List.getElem?_map,List.getElem?_take]at d;split at d
  .have e:i<zs.length:=by omega
   refine⟨x,rfl,?_⟩;rw[j i e,List.getD_eq_getElem?_getD];rw[a5 e]at d ⊢;simpa[ct]using d
  .simp at d
 .have:len<=maxLen:=by omega
  unfold maxLen at this;simp;omega
def gv(n m:Int):Int:=if n<0 then Int.tmod (0 - (n+1)) m else Int.tmod n m
def ky(n m:Int)(d:1<=m):0<=gv n m/\gv n m<m:=by
 unfold gv;split
 .exact ⟨Int.tmod_nonneg _ (by omega),Int.tmod_lt_of_pos _ (by omega)⟩
 .exact ⟨Int.tmod_nonneg _ (by omega),Int.tmod_lt_of_pos _ (by omega)⟩
abbrev dx(n:Int):Prop:=-9223372036854775808<=n/\n<=9223372036854775807
def FH(n m:Int)(w:J)(q:1<=m)(d:dx n):
  aj U vb #[.int .i64 n,.int .i64 m] w λr h=>r=ae (.int .i64 (gv n m))/\w=h:=by
 obtain⟨j,k⟩:=d;refine Hm.ok n m w _ ?_;refine bh (λd=>?_) (λd=>?_)
 .have e:n<0:=by simpa using d
  refine⟨by omega,?_,rfl⟩;rw[show aG .i64 (n+1)=n+1 from bm _ (by omega),show aG .i64 (0 - (n+1))=0 - (n+1)from bm _ (by omega)];unfold gv;rw[ag e]
 .have e:¬n<0:=by simpa using d
  refine⟨by omega,?_,rfl⟩;unfold gv;rw[ab e]
def Yl{w:J}{s t:Sl}{a b:List Int}(z:bW w s a)(A:bW w t b)(H:a.length<=1000000000000):
  aj U Cm #[s.v,t.v] w λr e=>r=ae (.bool (ao (a=b)))/\ah w e:=by
 have j:=bW.len z;have y:=bW.len A;refine mN.ok s t w _ ?_;refine bh (λd=>?_) (λd=>?_)
 .refine ⟨?_,Fr.refl _ _⟩;have:a≠b:=λh=>by subst h;rw[j,y]at d;simp at d
  simp[this]
 .have hlen:a.length=b.length:=by rw[j,y]at d;simp at d;omega
  have main:∀(n i:Nat),i+n=a.length->a.take i=b.take i->∀e,ah w e->mN.L0 s t (i:Int) e λr e=>r=ae (.bool (ao (a=b)))/\ah w e:=by
   intro n;induction n with
   |zero=>
    intro i D q e x;refine mN.cU _ _ _ _ _ ?_;refine aV (by rw[j];simp;omega) ⟨?_,x⟩;rw[dM (by omega),dM (by omega)]at q;simp[q]
   |succ n G=>
    intro i D q e x;have B:a[i]? =some a[i]:=a5 (by omega);have C:b[i]? =some b[i]:=a5 (by omega);refine mN.cU _ _ _ _ _ ?_;have k:ah w e.drew:=x.gE (Fr.drew _ _);refine aT (by rw[j];simp;omega) ⟨by omega,by rw[j];omega,bW.cell (z.cd k) B (by simp) λp _ E=>⟨_,E,by omega,by rw[y];omega,bW.cell (A.cd k) C (by simp) λI _ F=>⟨_,F,bh (λd=>?_) (λd=>?_)⟩⟩⟩
    .refine ⟨?_,k⟩;have:a≠b:=λh=>by subst h;simp at d
     simp[this]
    .show mN.L0 s t (aG .i64 ((i:Int)+1)) _ _;rw[show aG .i64 ((i:Int)+1)=((i+1:Nat):Int)from by rw[bm _ (by omega)];omega];refine G (i+1) (by omega) ?_ _ k;have h:a[i]=b[i]:=by simpa using d
     rw[g3,g3,B,C,q,h]
  exact main a.length 0 (by omega) (by simp) w (Fr.refl _ _)
def bO{w:J}(D:List En)(e:∀d∈D,d.P w):O F0 w w [] D:=O.start D e
inductive Rx where
 |mk (k:Int) (lo hi:UInt8) (l:List Rx)
inductive I where
 |mk (k:Int) (lo hi:UInt8) (s:Sl) (l:List I)
namespace I
def k:I->Int|.mk k _ _ _ _=>k
def lo:I->UInt8|.mk _ lo _ _ _=>lo
def hi:I->UInt8|.mk _ _ hi _ _=>hi
def s:I->Sl|.mk _ _ _ s _=>s
def l:I->List I|.mk _ _ _ _ l=>l
mutual
def rx:I->Rx|.mk k lo hi _ l=>.mk k lo hi (aq l)
def aq:List I->List Rx
 |[]=>[]
 |t::l=>t.rx::aq l
end
mutual
def sz:I->Nat|.mk _ _ _ _ l=>1+aY l
def aY:List I->Nat
 |[]=>0
 |t::l=>t.sz+aY l
end
def c(t:I):List aa:=[.int .i64 t.k,.int .u8 (t.lo.toNat:Int),.int .u8 (t.hi.toNat:Int),t.s.v]
abbrev v(t:I):aa:=.agg #[.int .i64 t.k,.int .u8 (t.lo.toNat:Int),.int .u8 (t.hi.toNat:Int),t.s.v]
abbrev row(s:Sl)(l:List I):En:=.a7 4 s (l.flatMap c)
mutual
def P(w:J):I->Prop|.mk _ _ _ s l=>br 4 w s (l.flatMap c)/\Ps w l
def Ps(w:J):List I->Prop
 |[]=>True
 |t::l=>P w t/\Ps w l
end
mutual
def fp:I->List Nat|.mk _ _ _ s l=>(row s l).fp++a8 l
def a8:List I->List Nat
 |[]=>[]
 |t::l=>fp t++a8 l
end
def oJ(t:I):(c t).length=4:=rfl
def gZ(l:List I):(l.flatMap c).length=l.length *4:=nJ c 4 oJ l
def cb{w:J}{s:Sl}{l:List I}(d:br 4 w s (l.flatMap c)):s.n=l.length:=by have:=d.1;rw[gZ]at this;omega
def fi:∀l:List I,aq l=l.map rx
 |[]=>rfl
 |t::l=>by unfold aq;rw[fi l];rfl
mutual
def ck{w V:J}:∀(t:I),(∀b∈t.fp,b<w.heap.size->V.heap[b]? =w.heap[b]?)->P w t->P V t
 |.mk k lo hi s l,d,h=>by unfold fp at d;unfold P at h ⊢;exact⟨(row s l).st w V (λb e=>d b (bz _ e)) h.1,keeps l (λb e=>d b (b0 _ e)) h.2⟩
def keeps{w V:J}:∀(l:List I),(∀b∈a8 l,b<w.heap.size->V.heap[b]? =w.heap[b]?)->Ps w l->Ps V l
 |[],_,_=>by unfold Ps;trivial
 |t::l,d,h=>by unfold a8 at d;unfold Ps at h ⊢;exact⟨ck t (λb e=>d b (bz _ e)) h.1,keeps l (λb e=>d b (b0 _ e)) h.2⟩
end
mutual
def lt{w:J}:∀(t:I),P w t->∀b∈t.fp,b<w.heap.size
 |.mk k lo hi s l,e,b,d=>by
  unfold fp at d;unfold P at e;rcases aL.1 d with d|d
  .exact (row s l).lt w e.1 b d
  .exact Ce l e.2 b d
def Ce{w:J}:∀(l:List I),Ps w l->∀b∈a8 l,b<w.heap.size
 |[],_,b,d=>by unfold a8 at d;cases d
 |t::l,e,b,d=>by
  unfold a8 at d;unfold Ps at e;rcases aL.1 d with d|d
  .exact lt t e.1 b d
  .exact Ce l e.2 b d
end
def P.cd{w V:J}{t:I}(d:P w t)(f:ah w V):P V t:=ck t (λb _ e=>f.ck b e id) d
def Ps.cd{w V:J}{l:List I}(d:Ps w l)(f:ah w V):Ps V l:=keeps l (λb _ e=>f.ck b e id) d
def Ps.get{w:J}:∀{l:List I},Ps w l->∀{i:Nat} {t:I},l[i]? =some t->P w t
 |[],_,i,t,d=>by simp at d
 |a::l,e,0,t,d=>by unfold Ps at e;simp at d;subst d;exact e.1
 |a::l,e,i+1,t,d=>by unfold Ps at e;exact Ps.get e.2 (by simpa using d)
def Ps.mem{w:J}{l:List I}(d:Ps w l){t:I}(e:t∈l):P w t:=by obtain⟨i,hi⟩:=List.mem_iff_getElem?.1 e;exact d.get hi
def iP{w:J}:∀{l:List I},(∀t∈l,P w t)->Ps w l
 |[],_=>by unfold Ps;trivial
 |t::l,d=>by unfold Ps;exact⟨d t (by simp),iP λh e=>d h (by simp[e])⟩
def bK:∀{l:List I} {b:Nat},b∈a8 l↔∃t∈l,b∈t.fp
 |[],b=>by unfold a8;simp
 |t::l,b=>by unfold a8;rw[aL,bK];simp
def ef:∀{l:List I} {t:I},t∈l->t.sz<=aY l
 |a::l,t,d=>by
  unfold aY;rcases aE.1 d with rfl|d
  .omega
  .have:=ef d;omega
def lJ(t:I):1<=t.sz:=by cases t;unfold sz;omega
def fB:∀l:List I,l.length<=aY l
 |[]=>by simp
 |t::l=>by have:=fB l;have:=lJ t;unfold aY;simp only[List.length_cons];omega
def P.parts{w:J}{t:I}(d:P w t):br 4 w t.s (t.l.flatMap c)/\Ps w t.l:=by cases t;unfold P at d;exact d
def fY{t:I}{b:Nat}:b∈t.fp↔b∈(row t.s t.l).fp\/b∈a8 t.l:=by cases t;unfold fp;exact aL
def hP(t:I):t.sz=1+aY t.l:=by cases t;rfl
def eW(t:I):t.rx=.mk t.k t.lo t.hi (aq t.l):=by cases t;rfl
structure hc(w:J)(p:Addr)(i:Nat)(t:I):Prop where
 c0:w.cell? ((p.add (i *4)).add 0)=some (.int .i64 t.k)
 c1:w.cell? ((p.add (i *4)).add 1)=some (.int .u8 (t.lo.toNat:Int))
 c2:w.cell? ((p.add (i *4)).add 2)=some (.int .u8 (t.hi.toNat:Int))
 c3:w.cell? ((p.add (i *4)).add 3)=some t.s.v
def a3{w:J}{s:Sl}{l:List I}(e:br 4 w s (l.flatMap c)){i:Nat}{t:I}(hi:l[i]? =some t){K:Addr->Prop}(h:∀p,s.a=some p->hc w p i t->K p):dJ s.a K:=
 fD.elem (f:=c) (sz:=4) oJ (by omega) e.2.2 hi λp j d=>h p j ⟨d 0 _ rfl,d 1 _ rfl,d 2 _ rfl,d 3 _ rfl⟩
def again{w:J}{s:Sl}{l:List I}(q:br 4 w s (l.flatMap c)){i:Nat}{t:I}(hi:l[i]? =some t){p:Addr}(y:s.a=some p):hc w p i t:=by have h:=a3 q hi (K:=λe=>∃j,s.a=some j/\hc w j i t) (λe d x=>⟨e,d,x⟩);rw[y]at h;obtain⟨e,d,k⟩:=h;cases d;exact k
end I
def _root_.Go.W.En.tree(t:I):En:=⟨lF t.fp,λh=>t.P h,λh k j e=>I.ck t (λb d=>j b (a4.2 d)) e,λh e b d=>I.lt t e b (a4.1 d),sH _⟩
def _root_.Go.W.En.trees(l:List I):En:=⟨lF (I.a8 l),λh=>I.Ps h l,λh k j e=>I.keeps l (λb d=>j b (a4.2 d)) e,λh e b d=>I.Ce l e b (a4.1 d),sH _⟩
namespace Rx
def k:Rx->Int|.mk k _ _ _=>k
def lo:Rx->UInt8|.mk _ lo _ _=>lo
def hi:Rx->UInt8|.mk _ _ hi _=>hi
def l:Rx->List Rx|.mk _ _ _ l=>l
mutual
def sz:Rx->Nat|.mk _ _ _ l=>1+aY l
def aY:List Rx->Nat
 |[]=>0
 |t::l=>t.sz+aY l
end
end Rx
mutual
def I.dR:∀t:I,t.rx.sz=t.sz
 |.mk e lo d s l=>by unfold I.rx Rx.sz I.sz;rw[I.vO l]
def I.vO:∀l:List I,Rx.aY (I.aq l)=I.aY l
 |[]=>rfl
 |t::l=>by unfold I.aq Rx.aY I.aY;rw[I.dR t,I.vO l]
end
namespace A4
noncomputable abbrev t0:=aA U Tryz.f230 [] []
def ok:=aF t0 V7 [.I]
end A4
namespace A3
noncomputable abbrev t0:=aA U Tryz.f231 [] []
def ok:=aF t0 V6 [.Y]
end A3
namespace G3
noncomputable abbrev t0:=aA U Tryz.f210 [] []
def ok:=aF t0 JG [.I,.I]
end G3
namespace G2
noncomputable abbrev t0:=aA U Tryz.f211 [] []
def ok:=aF t0 JF [.Y,.Y]
end G2
namespace ui
noncomputable abbrev t0:=aA U Tryz.f209 [] []
noncomputable def L0:=bu t0 [0,1,1,1,2] [(3,.v [.I]),(6,.v [.s]),(7,.v [.I]),(8,.v [.I])]
noncomputable abbrev t1:=bt L0
def cU:=bH t1 L0
def ok:=aF t1 Cj [.s]
end ui
namespace NC
noncomputable abbrev t0:=aA U Tryz.f192 [(1,ls [0,1,2,3,5,6,7,8,10,11,12,13,4,9,14,15,16,17])] [2,3]
def au:=aF t0 eB [.a 4,.I,.Y,.Y,.s,.a 4,.I,.Y,.Y,.s]
end NC
namespace vR
noncomputable abbrev t0:=aA U Tryz.f212 [] [8,9]
noncomputable def a0:=bu t0 [0,1,1,1,1] [(0,.v [.s]),(1,.v [.s]),(2,.v [.g eB 0 0]),(11,.v [.s]),(12,.v [.I]),(13,.v [.I])]
noncomputable abbrev t1:=bt a0
def bJ:=bH t1 a0
def au:=aF t1 Lc [.s,.s,.g eB 0 0]
end vR
namespace NI
noncomputable abbrev t0:=aA U Tryz.f190 [] [2,3]
def au:=aF t0 qm [.a 4,.I,.Y,.Y,.s,.a 4,.I,.Y,.Y,.s]
end NI
def cq(a b:Int):Int:=if a<b then -1 else if b<a then 1 else 0
def dQ:List Int->Int
 |[]=>0
 |c::l=>if c≠0 then c else dQ l
def RX(a b:Int)(w:J):aj U JG #[.int .i64 a,.int .i64 b] w λr k=>r=ae (.int .i64 (cq a b))/\ah w k:=by
 refine G3.ok _ _ w _ (A4.ok _ _ _ ⟨_,rfl,A4.ok _ _ _ ⟨_,rfl,?_⟩⟩);have h:(a !=a)=false:=by simp
 have j:(b !=b)=false:=by simp
 rw[h,j];refine aV rfl (aV rfl (aS (λd=>⟨?_,Fr.refl _ _⟩) (λd=>aS (λe=>⟨?_,Fr.refl _ _⟩) (λe=>⟨?_,Fr.refl _ _⟩))))
 .unfold cq;rw[ag d]
 .unfold cq;rw[ab d,ag e]
 .unfold cq;rw[ab d,ab e]
def GD(a b:Int)(w:J):aj U JF #[.int .u8 a,.int .u8 b] w λr k=>r=ae (.int .i64 (cq a b))/\ah w k:=by
 refine G2.ok _ _ w _ (A3.ok _ _ _ ⟨_,rfl,A3.ok _ _ _ ⟨_,rfl,?_⟩⟩);have h:(a !=a)=false:=by simp
 have j:(b !=b)=false:=by simp
 rw[h,j];refine aV rfl (aV rfl (aS (λd=>⟨?_,Fr.refl _ _⟩) (λd=>aS (λe=>⟨?_,Fr.refl _ _⟩) (λe=>⟨?_,Fr.refl _ _⟩))))
 .unfold cq;rw[ag d]
 .unfold cq;rw[ab d,ag e]
 .unfold cq;rw[ab d,ab e]
def WY{w:J}{s:Sl}{l:List Int}(k:bW w s l)(A:l.length<=1000000):aj U Cj #[s.v] w λr j=>r=ae (.int .i64 (dQ l))/\ah w j:=by
 refine ui.ok _ w _ ?_;have B:=bW.len k;have loop:∀(d i:Nat),i+d=l.length->dQ (l.drop i)=dQ l->ui.L0 0 s ((s.n:Nat):Int) (i:Int) w λr j=>r=ae (.int .i64 (dQ l))/\ah w j:=by
  intro d;induction d with
  |zero=>
   intro i x e;rw[de (by omega)]at e;exact ui.cU _ _ _ _ _ _ (aV (aP (by omega)) ⟨by rw[<-e];rfl,Fr.refl _ _⟩)
  |succ d z=>
   intro i x e;have q:l[i]? =some (l[i]'(by omega)):=a5 (by omega);rw[dk (by omega)]at e;generalize l[i]'(by omega)=c at q e;refine ui.cU _ _ _ _ _ _ (aT (aM (by omega)) ⟨by omega,by omega,bW.cell k q (by simp) λp _ y=>⟨c,y,bY (λh=>?_) (λh=>?_)⟩⟩)
   .refine ⟨?_,Fr.refl _ _⟩;rw[<-e];unfold dQ;rw[ag h]
   .rw [bw _ (by omega)];refine z (i+1) (by omega) ?_;rw[<-e];conv=>rhs;unfold dQ
    rw[ab (by simpa using h)]
 exact loop l.length 0 (by omega) (by simp)
def WI(w:J)(l:List Int)(n:Nat)(d:n=l.length):bW (w.alloc (.cells (l.map ct).toArray bn)) ⟨some (ad w.heap.size),n,n⟩ l:=
 ⟨by simp[d],be _,(Row.made w bn n n (l.map ct)).p9⟩
section
variable {M:Nat->Prop} {w0 w:J} {L D:List En} {bs:List Nat}
def _root_.Go.W.O.or(H:O M w0 w L D){l:List Int}{n:Nat}{K:aC}(k:n=l.length)(j:l.length<=1000000)(h:∀d,O M w0 d L D->K (ae (.int .i64 (dQ l))) d):
  cS w (.cells (l.map ct).toArray bn) λx=>fq bs U Cj #[.slice (some (Addr.mk w.heap.size 0 none)) n n] x K:=
 (H.cd (Fr.alloc _ _ _)).av (WY (s:=⟨some (ad w.heap.size),n,n⟩) (WI w l n k) j) λ_ d q e=>q▸h d e
end
mutual
def bd:Rx->Rx->Int
 |.mk e lo d l,b=>if dQ [cq e b.k,cq lo.toNat b.lo.toNat,cq d.toNat b.hi.toNat]≠0 then dQ [cq e b.k,cq lo.toNat b.lo.toNat,cq d.toNat b.hi.toNat]else cmpL l b.l
def cmpL:List Rx->List Rx->Int
 |[],[]=>0
 |[],_::_=>-1
 |_::_,[]=>1
 |a::l,b::m=>if bd a b≠0 then bd a b else cmpL l m
end
abbrev E9(n:Nat):Prop:=∀(a b:I) (w:J),a.sz<=n->a.P w->b.P w->aj U eB #[a.v,b.v] w λr d=>r=ae (.int .i64 (bd a.rx b.rx))/\ah w d
def Rr(n:Nat)(hn:n<=1000000)(V:E9 n)(h lb:List I)(j k:Sl)(w:J)(G:br 4 w j (h.flatMap I.c))(H:br 4 w k (lb.flatMap I.c))(Y:I.Ps w h)(Z:I.Ps w lb)(hs:I.aY h<=n):
  aj U Lc #[j.v,k.v,.func (.func eB) #[] #[]] w λr E=>r=ae (.int .i64 (cmpL (I.aq h) (I.aq lb)))/\ah w E:=by
 have na:=I.cb G;have nb:=I.cb H;have hl:=I.fB h;have loop:∀(d i:Nat) (A:J),i+d=h.length->i<=lb.length->cmpL (I.aq (h.drop i)) (I.aq (lb.drop i))=cmpL (I.aq h) (I.aq lb)->O F0 w A [] [I.row j h,I.row k lb,.trees h,.trees lb]->
   vR.a0 j k j ((j.n:Nat):Int) (i:Int) A λr E=>r=ae (.int .i64 (cmpL (I.aq h) (I.aq lb)))/\ah w E:=by
  intro d;induction d with
  |zero=>
   intro i A P Q e q;rw[de (by omega)]at e;refine vR.bJ _ _ _ _ _ _ _ (aV (aP (by omega)) (aS (λM=>⟨?_,q.fr⟩) (λM=>⟨?_,q.fr⟩)))
   .rw [dk (by omega)]at e;rw[<-e];rfl
   .rw [de (by omega)]at e;rw[<-e];rfl
  |succ d W=>
   intro i A P Q e q;have y:h[i]? =some (h[i]'(by omega)):=a5 (by omega);rw[dk (by omega)]at e;generalize h[i]'(by omega)=a at y e;refine vR.bJ _ _ _ _ _ _ _ (aT (aM (by omega)) ⟨by omega,by omega,?_⟩);refine I.a3 (q.getD 0) y λp hp c=>⟨_,_,_,_,c.c0,c.c1,c.c2,c.c3,q.ay λb8 w2 B=>aS (λN=>B.af λw3 x=>⟨?_,x.fr⟩) (λS=>⟨by omega,by omega,?_⟩)⟩
   .have ac:((k.n:Nat):Int)<=(i:Int):=N;rw[de (by omega:lb.length<=i)]at e;rw[<-e];rfl
   .have ad:¬((k.n:Nat):Int)<=(i:Int):=S;have z:lb[i]? =some (lb[i]'(by omega)):=a5 (by omega);rw[dk (by omega:i<lb.length)]at e;generalize lb[i]'(by omega)=b at z e;refine I.a3 (B.getD 1) z λai T _=>B.af λw3 x=>?_;have c:=I.again (x.getD 1) z T;refine⟨_,_,_,_,c.c0,c.c1,c.c2,c.c3,x.ay λb9 w4 K=>K.af λw5 C=>?_⟩;have ak:=I.ef (aB y);refine C.av (V a b w5 (by omega) (I.Ps.get (C.getD 2) y) (I.Ps.get (C.getD 3) z)) ?_;rintro _ w6 rfl F;have L:cmpL (I.aq (a::h.drop (i+1))) (I.aq (b::lb.drop (i+1)))=if bd a.rx b.rx≠0 then bd a.rx b.rx else cmpL (I.aq (h.drop (i+1))) (I.aq (lb.drop (i+1))):=rfl;rw[L]at e;refine⟨_,rfl,bY (λD=>⟨?_,F.fr⟩) (λD=>?_)⟩
    .rw [ag D]at e;rw[e]
    .rw [ab (by simpa using D)]at e;rw[bw _ (by omega)];exact W (i+1) w6 (by omega) (by omega) e (F.take 0)
 exact vR.au _ _ w _ (loop h.length 0 w (by omega) (by omega) (by simp) (bO _ (by
  intro aa e;simp only[aE,aZ,a2]at e;rcases e with rfl|rfl|rfl|rfl
  .exact G
  .exact H
  .exact Y
  .exact Z)))
def F6:∀n:Nat,n<=1000000->E9 n
 |0,_=>λa b B q _ _=>absurd q (by have:=I.lJ a;omega)
 |n+1,W=>λa b B q x z=>by
  have L:=F6 n (by omega);have Y:=I.hP a;have T:=x.parts;have V:=z.parts;refine NC.au _ _ _ _ _ _ _ _ B _ ((bO [.tree a,.tree b] (by
   intro e w;simp only[aE,aZ,a2]at w;rcases w with rfl|rfl
   .exact x
   .exact z)).ay λQ Z C=>C.ay λS w2 D=>D.af λM E=>E.av (RX _ _ M) ?_)
  rintro _ N rfl F;refine⟨_,rfl,F.av (GD _ _ N) ?_⟩;rintro _ O rfl G;refine⟨_,rfl,G.av (GD _ _ O) ?_⟩;rintro _ w6 rfl H;refine⟨_,rfl,H.or (l:=[cq a.k b.k,cq a.lo.toNat b.lo.toNat,cq a.hi.toNat b.hi.toNat]) rfl (by simp) λj d=>?_⟩;have e:bd a.rx b.rx=if dQ [cq a.k b.k,cq a.lo.toNat b.lo.toNat,cq a.hi.toNat b.hi.toNat]≠0 then dQ [cq a.k b.k,cq a.lo.toNat b.lo.toNat,cq a.hi.toNat b.hi.toNat]else cmpL (I.aq a.l) (I.aq b.l):=by rw[I.eW a,I.eW b];unfold bd;rfl
  refine⟨_,rfl,bY (λh=>⟨?_,d.fr⟩) (λh=>?_)⟩
  .rw [e,ag h]
  .have y:a.P j:=d.getD 0;have A:b.P j:=d.getD 1;refine d.av (Rr n (by omega) L a.l b.l a.s b.s j y.parts.1 A.parts.1 y.parts.2 A.parts.2 (by omega)) ?_;rintro _ w8 rfl K;refine⟨_,rfl,?_,K.fr⟩;rw[e,ab (by simpa using h)]
def F5(a b:I)(w:J)(d:a.sz<=1000000)(e:a.P w)(h:b.P w):aj U eB #[a.v,b.v] w λr j=>r=ae (.int .i64 (bd a.rx b.rx))/\ah w j:=F6 1000000 (be _) a b w d e h
def ud(a b:I)(w:J)(k:a.sz<=1000000)(q:a.P w)(x:b.P w):aj U qm #[a.v,b.v] w λr y=>r=ae (.bool (bd a.rx b.rx==0))/\ah w y:=by
 refine NI.au _ _ _ _ _ _ _ _ w _ ((bO [.tree a,.tree b] (by
  intro C e;simp only[aE,aZ,a2]at e;rcases e with rfl|rfl
  .exact q
  .exact x)).ay λA D h=>h.ay λB z d=>d.av (F5 a b z k (d.getD 0) (d.getD 1)) ?_)
 rintro _ E rfl j;exact⟨_,rfl,rfl,j.fr⟩
namespace vD
noncomputable abbrev t0:=aA U Tryz.f181 [] [2]
noncomputable def b5:=bu t0 [0,1,1,1,2] [(1,.v [.I]),(2,.l [.I,.Y,.Y,.s] aO),(5,.v [.I])]
noncomputable abbrev t1:=bt b5
noncomputable abbrev bA:=ai t1 [3] [(1,.v [.I])]
noncomputable abbrev t2:=ak bA
def dy:=bH t2 b5
noncomputable abbrev aX:=ai t2 [2] [(1,.v [.I]),(2,.l [.I,.Y,.Y,.s] aO)]
noncomputable abbrev t3:=ak aX
def au:=aF t3 KX [.a 4,.I,.Y,.Y,.s,.I]
end vD
namespace N2
noncomputable abbrev t0:=aA U Tryz.f161 [] [1]
def au:=aF t0 CU [.a 4,.I,.Y,.Y,.s]
end N2
namespace mf
noncomputable abbrev t0:=aA U Tryz.f182 [] [1,4]
abbrev P0:Ps:=[]
noncomputable abbrev aX:=ai t0 [0,1,1,1,1] P0
noncomputable abbrev t1:=ak aX
abbrev P1:Ps:=[(1,.l [.I,.Y,.Y,.s] aO)]
noncomputable abbrev bA:=ai t1 [0,1,1,1,1,1,2] P1
noncomputable abbrev t2:=ak bA
noncomputable def hU:=bu t2 [0,1,1,1,3] [(52,.v [.s]),(53,.v [.I]),(54,.v [.I])]
noncomputable abbrev t3:=bt hU
def k8:=bH t3 hU
noncomputable abbrev fG:=ai t3 [3] P1
noncomputable abbrev t4:=ak fG
noncomputable abbrev lX:=ai t4 [0,1,7,1,1,1,2] P1
noncomputable abbrev t5:=ak lX
noncomputable abbrev pI:=ai t5 [8,1,1,1,2] P0
noncomputable abbrev t6:=ak pI
abbrev P2:Ps:=[(1,.l [.I,.Y,.Y,.s] aO),(19,.v [.I])]
noncomputable abbrev jV:=ai t6 [6,1,1,1,2] P2
noncomputable abbrev t7:=ak jV
noncomputable abbrev cv:=ai t7 [2,1,1,1,2] P2
noncomputable abbrev t8:=ak cv
noncomputable abbrev bb:=ai t8 [2] P1
noncomputable abbrev t9:=ak bb
def au:=aF t9 K5 [.a 4,.I,.Y,.Y,.s]
end mf
namespace NG
noncomputable abbrev t0:=aA U Tryz.f162 [] [1]
def au:=aF t0 KS [.a 4,.I,.Y,.Y,.s]
end NG
namespace vC
noncomputable abbrev t0:=aA U Tryz.f183 [] [1,2,5]
noncomputable def a0:=bu t0 [0,1,1,1,2] [(1,.l [.I,.Y,.Y,.s] aO),(2,.l [.I,.Y,.Y,.s] aO),(3,.v [.s]),(7,.v [.s]),(8,.v [.I]),(9,.v [.I])]
noncomputable abbrev t1:=bt a0
def bJ:=bH t1 a0
def au:=aF t1 CL [.a 4,.I,.Y,.Y,.s]
end vC
namespace NS
noncomputable abbrev t0:=aA U Tryz.f163 [] [1,2]
def au:=aF t0 K3 [.a 4,.I,.Y,.Y,.s]
end NS
def ga{w:J}{t:I}(e:t.P w):O F0 w w [] [.tree t]:=bO _ (by intro h d;simp only[aE,aZ,a2]at d;subst d;exact e)
def fF(w:J)(x:Rx)(r:cA)(V:J):Prop:=∃t:I,r=ae t.v/\t.rx=x/\t.P V/\∀b∈t.fp,w.heap.size<=b
section
variable {M:Nat->Prop} {w0 w:J} {L D:List En} {bs:List Nat}
def _root_.Go.W.O.qQ(H:O M w0 w L D)(i j:Nat){ts:List I}{t:I}(hi:D[i]? =some (.trees ts):=by rfl)(h:D[j]? =some (.tree t):=by rfl):O M w0 w L (D++[.trees (ts++[t])]):=by
 refine H.ek _ (Fr.refl _ _) (I.iP λk d=>?_) λb q=>.inr (.inr ?_)
 .rcases aL.1 d with d|d
  .exact I.Ps.mem (H.getD i hi) d
  .simp at d;subst d;exact H.getD j h
 .obtain ⟨k,d,e⟩:=I.bK.1 (a4.1 q);rcases aL.1 d with d|d
  .exact ⟨_,aB hi,a4.2 (I.bK.2 ⟨k,d,e⟩)⟩
  .simp at d;rw[d]at e;exact⟨_,aB h,a4.2 e⟩
def gh{e:aD}{s:Sl}{vs:List aa}{b:Nat}(d:b∈(En.a7 4 s vs).fp):b∈(En.row e 4 s vs).fp:=by
 have:b∈(if vs=[]then[]else aN s):=d;split at this
 .cases this
 .exact this
def _root_.Go.W.O.qL(H:O M w0 w L D)(i j:Nat){e:aD}{s:Sl}{ts:List I}(k:Int)(lo hi:UInt8)(q:L[i]? =some (.row e 4 s (ts.flatMap I.c)):=by rfl)(x:D[j]? =some (.trees ts):=by rfl):O M w0 w (L.eraseIdx i) (D++[I.row s ts]++[.tree (.mk k lo hi s ts)]):=by
 have y:=H.freeze i (I.row s ts) q (aK.a7 (H.get i q)) λb h=>gh h;refine y.ek _ (Fr.refl _ _) ?_ λb h=>.inr (.inr ?_)
 .show I.P w _;unfold I.P;exact⟨aK.a7 (H.get i q),H.getD j x⟩
 .have d:=a4.1 h;unfold I.fp at d;rcases aL.1 d with d|d
  .exact ⟨_,b0 _ (by simp),d⟩
  .exact ⟨_,bz _ (aB x),a4.2 d⟩
end
def rG(l:List I):∀u∈l.flatMap I.c,u.oneCell'=true:=λu e=>by obtain⟨h,_,d⟩:=List.mem_flatMap.1 e;simp only[I.c,aE,aZ,a2]at d;rcases d with rfl|rfl|rfl|rfl<;>rfl
def qa:fS U iq aO (.agg #[.int .i64 0,.int .u8 0,.int .u8 0,.slice none 0 0]) 4 40:=⟨by kernel_rfl,by kernel_rfl,rfl,by decide,by decide⟩
def lj(l:List I)(t:I):(l++[t]).flatMap I.c=l.flatMap I.c++t.c:=by simp
def jK(l m:List I):I.aq (l++m)=I.aq l++I.aq m:=by simp[I.fi]
def tt:∀(l m:List I),I.aY (l++m)=I.aY l+I.aY m
 |[],m=>by simp[I.aY]
 |t::l,m=>by show t.sz+I.aY (l++m)=t.sz+I.aY l+I.aY m;rw[tt l m];omega
def zm(l:List I)(i:Nat):I.aY (l.take i)<=I.aY l:=by have:=tt (l.take i) (l.drop i);rw[List.take_append_drop]at this;omega
abbrev Qo(n:Nat):Prop:=∀(t:I) (x:Nat) (w:J),t.sz<=n->x<=1000000->t.P w->aj U KX #[t.v,.int .i64 (x:Int)] w λr d=>r=ae (.int .i64 (max ((x:Int) - t.sz) (-1)))/\ah w d
def Gh:∀n:Nat,n<=1000000->Qo n
 |0,_=>λt x z B _ _=>absurd B (by have:=I.lJ t;omega)
 |n+1,Z=>λt x z B hx T=>by
  have N:=Gh n (by omega);have K:=I.hP t;have Y:=I.fB t.l;have loop:∀(d i:Nat) (y:Int) (q:Nat) (e:J),i+d=t.l.length->-1<=y->y<=1000000->max (y - I.aY (t.l.drop i)) (-1)=max ((x:Int) - t.sz) (-1)->O F0 z e [.g q] [.tree t]->
    vD.b5 y q t.k t.lo.toNat t.hi.toNat t.s (i:Int) e λr V=>r=ae (.int .i64 (max ((x:Int) - t.sz) (-1)))/\ah z V:=by
   intro d;induction d with
   |zero=>
    intro i y q e H L M h j;have S:=I.cb (show t.P e from j.getD 0).parts.1;rw[de (by omega)]at h;refine vD.dy _ _ _ _ _ _ _ _ _ (aV (aP (by omega)) ⟨?_,j.fr⟩);rw[<-h];congr 2;simp only[I.aY];omega
   |succ d Q=>
    intro i y q e H L M h j;have S:=I.cb (show t.P e from j.getD 0).parts.1;have w:t.l[i]? =some (t.l[i]'(by omega)):=a5 (by omega);rw[dk (by omega)]at h;generalize t.l[i]'(by omega)=a at w h;have aa:=I.ef (aB w);unfold I.aY at h;refine vD.dy _ _ _ _ _ _ _ _ _ (aT (aM (by omega)) (aS (λA=>⟨by omega,by omega,?_⟩) (λA=>⟨?_,j.fr⟩)))
    .have D:t.P e:=j.getD 0;refine I.a3 D.parts.1 w λp hp c=>⟨_,_,_,_,c.c0,c.c1,c.c2,c.c3,?_⟩;have C:0<=y:=A;obtain⟨m,rfl⟩:=Int.eq_ofNat_of_zero_le C;refine j.av (N a m e (by omega) (by omega) (D.parts.2.get w)) ?_;rintro _ W rfl F;refine⟨_,rfl,?_⟩;rw[bw _ (by omega)];refine Q (i+1) _ q W (by omega) (by omega) (by omega) ?_ F;rw[<-h];omega
    .have C:¬0<=y:=A;rw[<-h];have:y=-1:=by omega
     subst this;congr 2;omega
  have G:aG .i64 ((x:Int) - 1)=(x:Int) - 1:=bm _ (by omega);refine vD.au _ _ _ _ _ z _ ((ga T).ay λq e E=>?_);rw[G];refine loop t.l.length 0 _ q e (by omega) (by omega) (by omega) ?_ E;rw[List.drop_zero,K];omega
def AS(t:I)(w:J)(h:t.sz<=1000000)(j:t.P w):aj U CU #[t.v] w λr k=>r=ae (.bool (ao (64<t.sz)))/\ah w k:=by refine N2.au _ _ _ _ w _ ((ga j).ay λx q d=>d.av (Gh 1000000 (be _) t 64 q h (by omega) (d.getD 0)) ?_);rintro _ y rfl e;refine⟨_,rfl,?_,e.fr⟩;congr 2;exact decide_eq_decide.2 (by omega)
mutual
def cE:Rx->Bool
 |.mk d lo e l=>!(d !=2&&(lo !=0||e !=0))&&(if d=0\/d=1 then l.isEmpty else if d=2 then l.isEmpty&&ao (lo.toNat<=e.toNat)else if d=3\/d=4\/d=5 then dA l else if d=6\/d=7 then l.length==1&&dA l else false)
def dA:List Rx->Bool
 |[]=>true
 |t::l=>cE t&&dA l
end
abbrev Qy(n:Nat):Prop:=∀(t:I) (w:J),t.sz<=n->t.P w->aj U K5 #[t.v] w λr d=>r=ae (.bool (cE t.rx))/\ah w d
def Bg(l:List I):(I.aq l).isEmpty=(((l.length:Nat):Int)==0):=by
 rw[I.fi];cases l with
 |nil=>rfl
 |cons a l=>
  simp;omega
def Gu:∀n:Nat,n<=1000000->Qy n
 |0,_=>λt q aa _=>absurd aa (by have:=I.lJ t;omega)
 |n+1,E=>λt q aa pt=>by
  have ih:=Gu n (by omega);have hs:=I.hP t;have hl:=I.fB t.l;have H:=I.cb pt.parts.1;have loop:∀(b:Bool),cE t.rx=(b&&dA (I.aq t.l))->b=true->∀(d i:Nat) (h:J),i+d=t.l.length->dA (I.aq (t.l.drop i))=dA (I.aq t.l)->O F0 q h [] [.tree t]->
    mf.hU t.s ((t.s.n:Nat):Int) (i:Int) h λr j=>r=ae (.bool (cE t.rx))/\ah q j:=by
   intro b w ac d;subst ac;rw[Bool.true_and]at w;induction d with
   |zero=>
    intro i h ad y B;rw[de (by omega)]at y;refine mf.k8 _ _ _ _ _ (aV (aP (by omega)) ⟨?_,B.fr⟩);rw[w,<-y];rfl
   |succ d ai=>
    intro i h ad y B;have D:t.l[i]? =some (t.l[i]'(by omega)):=a5 (by omega);rw[dk (by omega)]at y;generalize t.l[i]'(by omega)=a at D y;have ak:=I.ef (aB D);have S:(cE a.rx&&dA (I.aq (t.l.drop (i+1))))=dA (I.aq t.l):=y;have aj:t.P h:=B.getD 0;refine mf.k8 _ _ _ _ _ (aT (aM (by omega)) ⟨by omega,by omega,?_⟩);refine I.a3 aj.parts.1 D λp hp c=>⟨_,_,_,_,c.c0,c.c1,c.c2,c.c3,B.ay λb4 w2 H2=>H2.af λw3 Z=>Z.av (ih a w3 (by omega) ((show t.P w3 from Z.getD 0).parts.2.get D)) ?_⟩;rintro _ w4 rfl H4;refine⟨_,rfl,ey (λhf=>⟨?_,H4.fr⟩) (λht=>?_)⟩
    .rw [w,<-S,hf];rfl
    .rw [bw _ (by omega)];rw[ht,Bool.true_and]at S;exact ai (i+1) w4 (by omega) S (H4.take 0)
  have er:=I.eW t;have K:∀z:UInt8,(((z.toNat:Nat):Int) !=0)=(z !=0):=λz=>by
   by_cases W:z=0
   .subst W;rfl
   .have Q:(z !=0)=true:=by simpa using W
    rw[Q];have:z.toNat≠0:=λN=>W (UInt8.toNat_inj.1 (by simpa using N));simp;omega
  refine mf.au _ _ _ _ q _ ((ga pt).ay λx h Y=>?_);have out:∀b:Bool,cE t.rx=b->(Ending.returned (.bool b)=ae (.bool (cE t.rx))/\ah q h):=λb w=>⟨by rw[w],Y.fr⟩;have L:cE t.rx=dA (I.aq t.l)->mf.fG x t.k t.lo.toNat t.hi.toNat t.s h λr j=>r=ae (.bool (cE t.rx))/\ah q j:=λw=>loop true (by rw[w];rfl) rfl t.l.length 0 h (by omega) (by simp) (Y.take 0);have s1:(t.k !=2&&(t.lo !=0||t.hi !=0))=false->mf.bb x t.k t.lo.toNat t.hi.toNat t.s h λr j=>r=ae (.bool (cE t.rx))/\ah q j:=by
   intro N;have A:cE t.rx=(if t.k=0\/t.k=1 then(I.aq t.l).isEmpty else if t.k=2 then(I.aq t.l).isEmpty&&ao (t.lo.toNat<=t.hi.toNat)else if t.k=3\/t.k=4\/t.k=5 then dA (I.aq t.l)else if t.k=6\/t.k=7 then(I.aq t.l).length==1&&dA (I.aq t.l)else false):=by rw[er];unfold cE;rw[N];rfl
   have s2:t.k=0\/t.k=1->mf.bA x t.k t.lo.toNat t.hi.toNat t.s h λr j=>r=ae (.bool (cE t.rx))/\ah q j:=λe=>out _ (by rw[A,ag e,Bg,H]);have s7:t.k=6\/t.k=7->mf.lX x t.k t.lo.toNat t.hi.toNat t.s h λr j=>r=ae (.bool (cE t.rx))/\ah q j:=λe=>by
    have e7:cE t.rx=((I.aq t.l).length==1&&dA (I.aq t.l)):=by rw[A,ab (by omega),ab (by omega),ab (by omega),ag e]
    have el:(I.aq t.l).length=t.s.n:=by rw[I.fi];simp[H]
    refine bY (λQ=>out false ?_) (λQ=>L ?_)
    .rw [e7,el];have:(t.s.n==1)=false:=by simp;omega
     rw[this];rfl
    .rw [e7,el];have:(t.s.n==1)=true:=by simp;omega
     rw[this];rfl
   have s6:t.k≠0->t.k≠1->t.k≠2->t.k≠3->t.k≠4->t.k≠5->mf.jV x t.k t.lo.toNat t.hi.toNat t.s t.k h λr j=>r=ae (.bool (cE t.rx))/\ah q j:=λF G k2 k3 k4 k5=>
    ax (λe=>aT (by simp[e]) (s7 (.inl e))) (λk6=>ax (λe=>s7 (.inr e)) (λk7=>out false (by rw[A,ab (by omega),ab (by omega),ab (by omega),ab (by omega)])))
   have M:t.k=3\/t.k=4\/t.k=5->cE t.rx=dA (I.aq t.l):=λe=>by rw[A,ab (by omega),ab (by omega),ag e]
   have s3:t.k≠0->t.k≠1->mf.cv x t.k t.lo.toNat t.hi.toNat t.s t.k h λr j=>r=ae (.bool (cE t.rx))/\ah q j:=λF G=>
    ax (λe=>by
     have e2:cE t.rx=((I.aq t.l).isEmpty&&ao (t.lo.toNat<=t.hi.toNat)):=by rw[A,ab (by omega),ag e]
     refine bh (λE=>out _ ?_) (λE=>out false ?_)
     .rw [e2,Bg,<-H,E,Bool.true_and];exact decide_eq_decide.2 (by omega)
     .rw [e2,Bg,<-H,E];rfl)
    (λk2=>ax (λe=>aT (by simp[e]) (L (M (.inl e)))) (λk3=>ax (λe=>aT (by simp[e]) (L (M (.inr (.inl e))))) (λk4=>ax (λe=>L (M (.inr (.inr e)))) (λk5=>s6 F G k2 k3 k4 k5))))
   exact ax (λe=>aT (by simp[e]) (s2 (.inl e))) (λF=>ax (λe=>s2 (.inr e)) (λG=>s3 F G))
  have bad:(t.k !=2&&(t.lo !=0||t.hi !=0))=true->cE t.rx=false:=λw=>by rw[er];unfold cE;rw[w];rfl
  refine bh (λC=>bh (λV=>out false (bad ?_)) (λV=>bh (λT=>out false (bad ?_)) (λT=>s1 ?_))) (λC=>s1 ?_)
  .rw [C,<-K,V];rfl
  .rw [C,<-K t.hi,T];simp
  .rw [<-K,<-K,V,T];simp
  .rw [C];rfl
def hR(x:Rx):Int:=if 64<x.sz then 4 else if cE x then 0 else 1
def AG(t:I)(w:J)(q:t.sz<=1000000)(x:t.P w):aj U KS #[t.v] w λr y=>r=ae (.int .i64 (hR t.rx))/\ah w y:=by
 refine NG.au _ _ _ _ w _ ((ga x).ay λB z j=>j.av (AS t z q (j.getD 0)) ?_);rintro _ A rfl e;refine⟨_,rfl,aS (λd=>⟨?_,e.fr⟩) (λd=>e.av (Gu 1000000 (be _) t A q (e.getD 0)) ?_)⟩
 .unfold hR;rw[I.dR,ag d]
 rintro _ C rfl k;refine⟨_,rfl,ey (λh=>⟨?_,k.fr⟩) (λh=>⟨?_,k.fr⟩)⟩
 .unfold hR;rw[I.dR,ab d,h];rfl
 .unfold hR;rw[I.dR,ab d,h];rfl
abbrev Qp(n:Nat):Prop:=∀(t:I) (w:J),t.sz<=n->t.P w->aj U CL #[t.v] w λr d=>fF w t.rx r d/\ah w d
def Gg:∀n:Nat,n<=1000000->Qp n
 |0,_=>λt x K _=>absurd K (by have:=I.lJ t;omega)
 |n+1,hn=>λt x K M=>by
  have ih:=Gg n (by omega);have hs:=I.hP t;have hl:=I.fB t.l;have nr:=I.cb M.parts.1;have loop:∀(d i:Nat) (ks:List I) (sl:Sl) (j q:Nat) (y:J),i+d=t.l.length->ks.length=i->I.aq ks=I.aq (t.l.take i)->(∀b∈I.a8 ks,x.heap.size<=b)->O F0 x y [.g j,.g q,.row aO 4 sl (ks.flatMap I.c)] [.tree t,.trees ks]->
    vC.a0 j t.k t.lo.toNat t.hi.toNat t.s q 0 0 0 ⟨none,0,0⟩ sl t.s ((t.s.n:Nat):Int) (i:Int) y λr N=>fF x t.rx r N/\ah x N:=by
   intro d;induction d with
   |zero=>
    intro i ks sl j q y Y L F G B;refine vC.bJ _ _ _ _ _ _ _ _ _ _ _ _ _ _ _ _ (aV (aP (by omega)) (B.af λD h=>⟨⟨.mk t.k t.lo t.hi sl ks,rfl,?_,?_,λb e=>?_⟩,h.fr⟩))
    .rw [I.eW t];unfold I.rx;rw[F,dM (by omega)]
    .unfold I.P;exact⟨aK.a7 (h.get 2),h.getD 1⟩
    .unfold I.fp at e;rcases aL.1 e with e|e
     .exact (h.new _ (aB (i:=2) rfl) b (gh e)).resolve_right id
     .exact G b e
   |succ d aa=>
    intro i ks sl j q y Y L F G B;have A:t.l[i]? =some (t.l[i]'(by omega)):=a5 (by omega);generalize t.l[i]'(by omega)=a at A;have ad:=I.ef (aB A);have ab:t.P y:=B.getD 0;refine vC.bJ _ _ _ _ _ _ _ _ _ _ _ _ _ _ _ _ (aT (aM (by omega)) ⟨by omega,by omega,?_⟩);refine I.a3 ab.parts.1 A λp hp c=>⟨_,_,_,_,c.c0,c.c1,c.c2,c.c3,B.ay λb5 D h=>h.af λQ z=>z.gY (ih a Q (by omega) ((show t.P Q from z.getD 0).parts.2.get A)) ?_⟩;rintro _ w4 ⟨u,rfl,Z,pu,H⟩ _ S;have C:=S.rd (.tree u) pu λb e=>H b (a4.1 e);have ac:=I.cb (C.get 2:aK _ _ _ _ _).a7;refine⟨_,_,_,_,rfl,C.iA 2 qa rfl (λs' w5 V=>?_) (by omega)⟩;have W:=(V.qQ 1 2).take 3;rw[bw _ (by omega)];refine aa (i+1) (ks++[u]) s' j q w5 (by omega) (by simp[L]) ?_ ?_ ?_
    .rw [jK,F,g3,A,jK];simp[I.aq,Z]
    .intro b e;obtain⟨t',w,E⟩:=I.bK.1 e;rcases aL.1 w with w|w
     .exact G b (I.bK.2 ⟨t',w,E⟩)
     .simp at w;rw[w]at E;exact bp z.fr.size (H b E)
    .rw [lj];exact W.forget _ (by simp)
  refine vC.au _ _ _ _ x _ ((ga M).ay λj y T=>T.ay λq D h=>?_);have z:=h.h' aO 4;have C:=z.ek (.trees []) (Fr.refl _ _) (by show I.Ps D [];unfold I.Ps;trivial) (λb e=>by have:=a4.1 e;unfold I.a8 at this;cases this)
  exact loop t.l.length 0 [] ⟨none,0,0⟩ j q D (by omega) rfl rfl (λb e=>by unfold I.a8 at e;cases e) C
def RK(t:I)(w:J)(e:t.sz<=1000000)(h:t.P w):aj U CL #[t.v] w λr d=>fF w t.rx r d/\ah w d:=Gg 1000000 (be _) t w e h
def fh:Rx:=.mk 0 0 0 []
def nP(x:Rx):Int:=if 64<x.sz then 4 else 0
def nQ(x:Rx):Rx:=if 64<x.sz then fh else x
def Ft(w:J)(x:Rx)(c:Int)(r:cA)(V:J):Prop:=∃t:I,r=ae (.tuple #[t.v,.int .i64 c])/\t.rx=x/\t.P V/\∀b∈t.fp,w.heap.size<=b
def Mb(w:J):(I.mk 0 0 0 ⟨none,0,0⟩ []).P w:=by unfold I.P I.Ps;exact⟨br.nil 4 w,trivial⟩
def Ma{b:Nat}(d:b∈(I.mk 0 0 0 ⟨none,0,0⟩ []).fp):False:=by unfold I.fp I.a8 at d;simp[En.a7]at d
def R1(t:I)(w:J)(y:t.sz<=1000000)(D:t.P w):aj U K3 #[t.v] w λr z=>Ft w (nQ t.rx) (nP t.rx) r z/\ah w z:=by
 refine NS.au _ _ _ _ w _ ((ga D).ay λK M B=>B.ay λL F k=>k.av (AS t F y (k.getD 0)) ?_);rintro _ G rfl h;refine⟨_,rfl,aS (λe=>h.af λH j=>⟨⟨.mk 0 0 0 ⟨none,0,0⟩ [],?_,?_,Mb _,λb d=>(Ma d).elim⟩,j.fr⟩) (λe=>h.gY (RK t G y (h.getD 0)) ?_)⟩
 .unfold nP;rw[I.dR,ag e];rfl
 .unfold nQ;rw[I.dR,ag e];rfl
 rintro _ H ⟨u,rfl,C,E,x⟩ _ A;have j:=A.rd (.tree u) E λb d=>x b (a4.1 d);refine⟨_,_,_,_,rfl,j.af λN q=>⟨⟨u,?_,?_,q.getD 1,λb d=>bp h.fr.size (x b d)⟩,q.fr⟩⟩
 .unfold nP;rw[I.dR,ab e]
 .unfold nQ;rw[I.dR,ab e,C]
namespace NJ
noncomputable abbrev t0:=aA U Tryz.f205 [] [2]
def au:=aF t0 sC [.a 4,.I,.Y,.Y,.s,.r]
end NJ
namespace vT
noncomputable abbrev t0:=aA U Tryz.f206 [] []
noncomputable def L0:=bu t0 [0,1,1,1,1] [(0,.v [.s]),(1,.v [.f]),(7,.v [.I]),(8,.v [.I])]
noncomputable abbrev t1:=bt L0
def cU:=bH t1 L0
def ok:=aF t1 Lg [.s,.f]
end vT
namespace OP
noncomputable abbrev t0:=aA U Tryz.f188 [] []
def ok:=aF t0 Ld [.s,.f]
end OP
namespace qP
noncomputable abbrev t0:=aA U Tryz.f204 [] [7]
abbrev P0:Ps:=[(0,.v [.s]),(1,.v [.g sC 0 1,.r]),(5,.v [.I]),(6,.v [.I])]
noncomputable def a0:=bu t0 [0,1,1,1,3] P0
noncomputable abbrev t1:=bt a0
noncomputable abbrev bb:=ai t1 [2,2,1,1,3] P0
noncomputable abbrev t2:=ak bb
def bJ:=bH t2 a0
def au:=aF t2 Le [.s,.g sC 0 1,.r]
end qP
namespace mj
noncomputable abbrev t0:=aA U Tryz.f193 [(6,ls [0,1,2,3,4,5,6,7,8,9,10]),(11,ls [0,1,2,3,4,5,6,7,8,9,10,11])] []
noncomputable def L0:=bu t0 [0,1,1,1,2] [(0,.v [.s]),(1,.v [.g qm 0 0]),(5,.v [.I])]
noncomputable abbrev t1:=bt L0
abbrev P0:Ps:=[(0,.v [.s]),(1,.v [.g qm 0 0]),(5,.v [.I]),(6,.v [.s]),(7,.v [.I])]
noncomputable def L2:=bu t1 [0,1,1,1,1,1,1,2,1,2,1,1,2] P0
noncomputable abbrev t2:=bt L2
noncomputable abbrev S3:=ai t2 [2,2,1,1,1,1,1,2,1,2,1,1,2] P0
noncomputable abbrev t3:=ak S3
def ny:=bH t3 L2
noncomputable abbrev S1:=ai t3 [1,1,1,2,1,2,1,1,2] [(0,.v [.s]),(1,.v [.g qm 0 0]),(5,.v [.I]),(6,.v [.s])]
noncomputable abbrev t4:=ak S1
def cU:=bH t4 L0
def ok:=aF t4 Lb [.s,.g qm 0 0]
end mj
namespace qJ
noncomputable abbrev t0:=aA U Tryz.f187 [] [2,7]
abbrev P0:Ps:=[(2,.l [.I,.Y,.Y,.s] aO),(3,.v [.r]),(5,.v [.s]),(9,.v [.s]),(10,.v [.I]),(11,.v [.I])]
noncomputable def a0:=bu t0 [0,1,1,1,2] P0
noncomputable abbrev t1:=bt a0
noncomputable abbrev bb:=ai t1 [3,2,1,1,2] P0
noncomputable abbrev t2:=ak bb
def bJ:=bH t2 a0
def au:=aF t2 KY [.a 4,.I,.Y,.Y,.s,.a 4,.I,.Y,.Y,.s]
end qJ
namespace NL
noncomputable abbrev t0:=aA U Tryz.f184 [] [1,2]
def au:=aF t0 vi [.a 4,.I,.Y,.Y,.s]
end NL
namespace NM
noncomputable abbrev t0:=aA U Tryz.f185 [] []
def ok:=aF t0 ye [.a 4,.I,.Y,.Y,.s,.a 4,.I,.Y,.Y,.s]
end NM
namespace D0
noncomputable abbrev t0:=aA U Tryz.f186 [] [3,4]
noncomputable abbrev aX:=ai t0 [4] [(1,.v [.r]),(3,.l [.I,.Y,.Y,.s] aO),(4,.l [.I,.Y,.Y,.s] aO),(5,.v [.s])]
noncomputable abbrev t1:=ak aX
def au:=aF t1 yf [.a 4,.I,.Y,.Y,.s,.r,.r]
end D0
namespace NN
noncomputable abbrev t0:=aA U Tryz.f189 [] [2]
def au:=aF t0 CM [.a 4,.I,.Y,.Y,.s,.r]
end NN
namespace NO
noncomputable abbrev t0:=aA U Tryz.f194 [] [1,2]
def au:=aF t0 sD [.a 4,.I,.Y,.Y,.s]
end NO
namespace yR
noncomputable abbrev t0:=aA U Tryz.f195 [] [3,4,5]
noncomputable abbrev aX:=ai t0 [0,1,1,1,2] [(1,.v [.r]),(4,.l [.I,.Y,.Y,.s] aO)]
noncomputable abbrev t1:=ak aX
noncomputable abbrev bb:=ai t1 [0,1,1,1,3] [(4,.l [.I,.Y,.Y,.s] aO),(5,.l [.I,.Y,.Y,.s] aO)]
noncomputable abbrev t2:=ak bb
def au:=aF t2 sE [.a 4,.I,.Y,.Y,.s,.r,.r]
end yR
namespace vF
noncomputable abbrev t0:=aA U Tryz.f164 [(5,ls [0,1,2,3,4,5,6,7,8])] []
noncomputable def L0:=bu t0 [0,1,1,1,2] [(0,.v [.m]),(3,.v [.r]),(4,.v [.r]),(5,.v [.r]),(16,.v [.s]),(17,.v [.I]),(18,.v [.I])]
noncomputable abbrev t1:=bt L0
def cU:=bH t1 L0
def ok:=aF t1 CO [.m,.a 4,.I,.Y,.Y,.s]
end vF
end Go.Proofs.YtahmokchdhengaaGreatDoor
