import Derived.Test.YtnaglpcbkhjpnabGreatDoorW
import Derived.KernelRfl
import Derived.Test.YtnaglpcbkhjpnabGreatDoorProg
import Derived.Lib.AppendStr
import Derived.Laws.IdiomStrings
import Derived.IntWalk
set_option linter.unusedVariables false
set_option linter.defProp false
noncomputable section
namespace Go.W
open Go renaming World->J,Calls->ai,Program->aJ,Value->aa,TypeId->aE,Ending->bW,FuncId->cR,IntKind->ix
open Go.IntKind renaming wrap->aj
open Go.IntWalk renaming i64_in->aQ
open Go.Builtin renaming append_->eA
open _root_.Bool renaming and_eq_true->bH
open _root_.Nat renaming zero_le->dW,beq->cm,lt_of_lt_of_le->m8,beq_eq->eS
open _root_.UInt8 renaming ofNat->db
open _root_.Int renaming toNat_natCast->bB
open Go.Region renaming wanted->dC,ready->fa
open Go.Proofs.Tryz renaming prog->V
open _root_.Decidable renaming decide->av
open Go.Ending renaming returned->ae
open List renaming mem_cons->aq,getElem?_eq_getElem->a',append_assoc->ck,mem_cons_of_mem->e6,drop_eq_getElem_cons->dz,take_add_one->dV,drop_of_length_le->c9,eq_nil_of_length_eq_zero->vC
abbrev Lv:=List (Nat×List aa×aE)
abbrev Sv:=List (Nat×Option (Nat×Nat))
def Sv.get? :Sv->Nat->Option (Nat×Nat)
 |[],_=>none
 |(h,v)::d,t=>bif cm h t then v else Sv.get? d t
def Sv.at(S:Sv):Operand->Option (Nat×Nat)
 |.tmp t=>S.get? t
 |_=>none
def Sv.put(S:Sv)(d:Option Nat)(o:Option (Nat×Nat)):Sv:=match d with
 |some d=>(d,o)::S
 |none=>S
structure TS where
 E:Env
 S:Sv
 L:Lv
 w:J
 d:Bool
abbrev HT:=List (Nat×Option Nat×(J->Prop))
def fM(s:TS)(K:TS->Prop):Prop:=match s.d with
 |true=>loc (iE s.L) s.w λh=>K ⟨s.E,s.S,s.L,h,false⟩
 |false=>K s
def UW:aa->aa->Bool
 |.int d _,.int h _=>d==h
 |.bool _,.bool _=>true
 |.string _,.string _=>true
 |.slice _ _ _,.slice _ _ _=>true
 |.pointer _,.pointer _=>true
 |.map _,.map _=>true
 |.int ..,_|.bool _,_|.string _,_|.slice ..,_|.pointer _,_|.map _,_=>false
 |_,_=>true
def BP:List aa->List aa->Bool
 |[],[]=>true
 |h::j,v::d=>UW h v&&BP j d
 |_,_=>false
def FI(P:aJ)(T:aE)(cs:List aa)(j:Nat)(K:aa->Prop):Prop:=
 cS (zE P T)<|match zeroOf P T with
 |.agg d=>cS (BP d.toList ((cs.drop j).take d.size)) (K (.agg ((cs.drop j).take d.size).toArray))
 |.nilFunc=>False
 |h=>match cs[j]? with
  |some v=>cS (UW h v) (K v)
  |none=>False
def L8(P:aJ)(T:aE)(f:Nat):Option Nat:=match P.underlying T with
 |some (.struct d)=>match d[f]? with
  |some f=>match P.info? f.type with
   |some i=>bif cm i.size 0 then none else some f.offset
   |none=>none
  |none=>none
 |_=>none
def W4(P:aJ)(o:Oper):Bool:=match o.op with
 |.load ..|.lookup ..=>true
 |.convert s h _=>match P.underlying s,P.underlying h with
  |some (.slice _),some .string=>true
  |some (.pointer _),some .unsafePointer=>true
  |some .unsafePointer,some (.pointer _)=>true
  |_,_=>false
 |.binOp .neq d _ j _=>bif isConst j then false else match P.underlying d with
  |some (.pointer _)=>true
  |_=>false
 |.call {callee:=.builtin .len,args,argTypes}=>match args.toList,argTypes.toList with
  |[_],[d]=>match P.underlying d with
   |some (.map _ _)=>true
   |_=>false
  |_,_=>false
 |_=>false
def Cs(P:aJ)(o:Oper):Bool:=Fo P o||W4 P o
def uY(P:aJ)(o:Oper)(s:TS)(K:aa->Option (Nat×Nat)->List (Option Nat×(J->Prop))->TS->Prop):Prop:=
 bif Cs P o then fM s λs=>oc P o s.E s.w λv h=>K v none (h.map λd=>(none,d)) s else oc P o s.E s.w λv h=>K v none (h.map λd=>(none,d)) s
def D'(P:aJ)(o:Oper)(s:TS)(K:aa->Option (Nat×Nat)->List (Option Nat×(J->Prop))->TS->Prop):Prop:=
 match o.op with
 |.load j d=>match s.S.at d with
  |some (i,h)=>match s.L[i]? with
   |some X=>FI P j X.2.1 h λv=>K v none [(some i,λq=>(loadVar j ((ab X.1).add h)).run P q=.ok v q)] s
   |none=>False
  |none=>uY P o s K
 |.move d|.assign d|.nilCheck d=>match s.S.at d with
  |some w=>K ((s.E.val d).getD undef) (some w) [] s
  |none=>uY P o s K
 |.fieldAddr j d f=>match s.S.at d with
  |some (i,h)=>match L8 P j f,s.L[i]? with
   |some k,some X=>K (.pointer (some ((ab X.1).add (h+k)))) (some (i,h+k)) [] s
   |_,_=>False
  |none=>uY P o s K
 |_=>uY P o s K
def qN(L:Lv)(w Y:J)(p:Prop):Prop:=match L with
 |[]=>p
 |L=>kept (iE L) w Y/\p
def BN:List aa->Nat->List aa->List aa
 |d,_,[]=>d
 |d,h,v::j=>BN (d.set h v) (h+1) j
def As(h:List Nat)(d:Option Nat):Bool:=match d with
 |some d=>h.any (cm d)
 |none=>false
def H5(U:List Nat)(p:Addr):List aa->Nat->J->(J->Prop)->Prop
 |[],_,d,h=>h d
 |v::k,i,d,h=>aS d (p.add i) v λj=>kept U d j/\H5 U p k (i+1) j h
def GD(s:TS)(cs:List aa)(T:aE)(K:aa->Option (Nat×Nat)->Option Nat->TS->Prop):Prop:=
 yk (iE s.L) s.w λb d=>K (.pointer (some (ab b))) (some (s.L.length,0)) none ⟨s.E,s.S,s.L++[(b,cs,T)],d,false⟩
def zU(P:aJ)(f:cR)(args:Array aa)(z:aa)(s:TS)(K:aa->J->Prop):Prop:=match s.L with
 |[]=>qy P f args z s.w K
 |d=>ep (iE d) P f args s.w λe h=>oq z λv=>e=ae v/\K v h
def EA(P:aJ)(q:List Nat)(draw:Bool)(o:Oper)(s:TS)(K:aa->Option (Nat×Nat)->Option Nat->TS->Prop):Prop:=
 match o.op with
 |.store h j x=>match s.S.at j with
  |some (i,k)=>match s.L[i]?,s.E.val x with
   |some X,some v=>cS (v.cells.size==(match P.info? h with |some i=>i.size|none=>0)&&v.cells.toList.all sT&&(P.info? h).isSome&&Nat.ble (k+v.cells.size) X.2.1.length) (K undef none (some i) ⟨s.E,s.S,s.L.set i (X.1,BN X.2.1 k v.cells.toList,X.2.2),s.w,true⟩)
   |_,_=>False
  |none=>fM s λs=>match s.L with
   |[]=>hW P o s.E s.w λv d=>K v none none ⟨s.E,s.S,s.L,d,false⟩
   |y=>match s.E.val j,s.E.val x with
    |some (.pointer (some p)),some v=>cS (v.cells.size==(match P.info? h with |some i=>i.size|none=>0)&&v.cells.toList.all sT&&(P.info? h).isSome) (H5 (iE y) p v.cells.toList 0 s.w λd=>K undef none none ⟨s.E,s.S,s.L,d,false⟩)
    |_,_=>False
 |.alloc h=>bif As q o.dst then cS ((P.info? h).bind (·.zero)).isSome (GD s (zeroOf P h).cells.toList h K)else fM s λs=>hW P o s.E s.w λv d=>K v none none ⟨s.E,s.S,s.L,d,false⟩
 |.box h j=>bif As q o.dst then(match s.E.val j with
   |some v=>GD s v.cells.toList h K
   |none=>False)else fM s λs=>hW P o s.E s.w λv d=>K v none none ⟨s.E,s.S,s.L,d,false⟩
 |.buildSlice ..|.makeMap ..=>fM s λs=>hW P o s.E s.w λv d=>K v none none ⟨s.E,s.S,s.L,d,false⟩
 |.call {callee:=.value (.func f),args,..}=>fM s λs=>cS (s.E.ek o) (bif hS P f then zU P f (args.map s.E.ev) (zeroOf P o.type) s λv d=>K v none none ⟨s.E,s.S,s.L,d,false⟩
   else xR P f (args.map s.E.ev) (zeroOf P o.type) s.w λv d=>qN s.L s.w d (K v none none ⟨s.E,s.S,s.L,d,false⟩))
 |.call {callee:=.value (.tmp t),args,..}=>fM s λs=>cS (s.E.ek o) (match s.E.get? t with
   |some (.func (.func f) first captured)=>cS (hS P f) (zU P f (first++args.map s.E.ev++captured) (zeroOf P o.type) s λv d=>K v none none ⟨s.E,s.S,s.L,d,false⟩)
   |_=>False)
 |_=>fM s λs=>(bif draw then hW else uH) P o s.E s.w λv d=>qN s.L s.w d (K v none none ⟨s.E,s.S,s.L,d,false⟩)
def xY(ops:Array Oper)(j:Nat)(w:J):HT->List Prop
 |[]=>[]
 |(i,f,h)::d=>bif jX ops i j||f.isSome then xY ops j w d else h w::xY ops j w d
def gR(ops:Array Oper)(j:Nat):HT->HT
 |[]=>[]
 |(i,f,h)::d=>bif jX ops i j then gR ops j d else(i,f,h)::gR ops j d
def Hq(ops:Array Oper)(j:Nat)(s:TS)(H:HT)(K:TS->Prop):Prop:=
 bif H.any (λp=>!(jX ops p.1 j)&&p.2.1.isNone)then fM s λs=>uc (xY ops j s.w H) (K s)else K s
def stepT(P:aJ)(q:List Nat)(ops:Array Oper)(draw:Bool)(i:Nat)(o:Oper)(s:TS)(H:HT)(K:TS->HT->Prop):Prop:=
 bif calm P o then D' P o s λv h k s=>K ⟨s.E.put o.dst v,s.S.put o.dst h,s.L,s.w,s.d⟩ (bif draw then k.map (λj=>(i,j))++H else H)
 else EA P q draw o s λv h m s=>cS (!((gR ops i H).any λp=>m.isSome&&p.2.1==m)) (Hq ops i s H λs=>K ⟨s.E.put o.dst v,s.S.put o.dst h,s.L,s.w,s.d⟩ (gR ops i H))
def ow(P:aJ)(h:List Nat)(ops:Array Oper)(draw:Bool)(i:Nat)(o:Oper)(d:Nat)(want t:Bool)(s:TS)(H:HT)(K:TS->HT->Prop):Prop:=
 bif (t==want)then stepT P h ops draw i o ⟨(d,.bool t)::s.E,s.S,s.L,s.w,s.d⟩ H K else K ⟨Env.put ((d,.bool t)::s.E) o.dst undef,s.S.put o.dst none,s.L,s.w,s.d⟩ (bif calm P o then H else gR ops i H)
def runT(P:aJ)(h:List Nat)(ops:Array Oper)(draw:Bool)(K:TS->Prop):List Nat->TS->HT->Prop
 |[],s,_=>K s
 |i::l,s,j=>
  match ops[i]? with
  |none=>False
  |some o=>match o.guard with
   |none=>stepT P h ops draw i o s j λq k=>runT P h ops draw K l q k
   |some (y,want)=>match km ops y with
    |none=>False
    |some x=>match s.E.get? x with
     |some (.bool t)=>bA t (ow P h ops draw i o x want true s j λq k=>runT P h ops draw K l q k) (ow P h ops draw i o x want false s j λq k=>runT P h ops draw K l q k)
     |some (.tuple _)=>runT P h ops draw K l ⟨Env.put s.E o.dst undef,s.S.put o.dst none,s.L,s.w,s.d⟩ (bif calm P o then j else gR ops i j)
     |_=>False
def xW(P:aJ)(k:List Nat)(ops:Array Oper)(i:Nat)(s:TS)(H:HT)(h:TS->HT->Prop):Prop:=
 match ops[i]? with
 |none=>False
 |some o=>match o.guard with
  |none=>stepT P k ops true i o s H h
  |some (q,want)=>match km ops q with
   |none=>False
   |some j=>match s.E.get? j with
    |some (.bool t)=>bA t (ow P k ops true i o j want true s H h) (ow P k ops true i o j want false s H h)
    |some (.tuple _)=>h ⟨Env.put s.E o.dst undef,s.S.put o.dst none,s.L,s.w,s.d⟩ (bif calm P o then H else gR ops i H)
    |_=>False
def rq(P:aJ)(h:List Nat)(ops:Array Oper)(K:TS->Prop):Tr->TS->HT->Prop
 |.nil,s,_=>K s
 |.one i t,s,d=>xW P h ops i s d λk j=>rq P h ops K t k j
 |.fork a b,s,d=>rq P h ops K a s d/\rq P h ops K b s d
def Tr.sq:List Nat->Tr->Tr
 |[],t=>t
 |i::l,t=>.one i (Tr.sq l t)
def z2(s:TS)(K:TS->Prop):Prop:=match s.L,s.d with
 |[],false=>K ⟨s.E,s.S,s.L,s.w.drew,false⟩
 |_,_=>K ⟨s.E,s.S,s.L,s.w,true⟩
section
variable {P:aJ}
structure Inv(s:TS)(w:J):Prop where
 lc:LC w s.L
 rel:if s.d=true then Fr (·∈iE s.L) s.w w else w=s.w
 sl:∀t i j,s.S.get? t=some (i,j)->∃X,s.L[i]? =some X/\s.E.get? t=some (.pointer (some ((ab X.1).add j)))
def Inv.fM{s:TS}{w:J}{K:TS->Prop}(j:Inv s w)(h:W.fM s K):Inv ⟨s.E,s.S,s.L,w,false⟩ w/\K ⟨s.E,s.S,s.L,w,false⟩:=by
 refine⟨⟨j.lc,ws,j.sl⟩,?_⟩;unfold W.fM at h;have q:=j.rel;cases k:s.d with
 |true=>
  rw[k]at h q;exact h w (by grind)
 |false=>
  rw[k]at h q;have:w=s.w:=by grind
  obtain⟨x,z,y,B,A⟩:=s
  grind
def Inv.fr{s:TS}{w:J}(h:Inv s w):Fr (·∈iE s.L) s.w w:=by
 have k:=h.rel;cases j:s.d with
 |true=>grind
 |false=>
  rw[j]at k;have:w=s.w:=by grind
  subst this;exact Fr.refl _ _
def Inv.at{s:TS}{w:J}(d:Inv s w){x:Operand}{i j:Nat}(h:s.S.at x=some (i,j)):∃X,s.L[i]? =some X/\s.E.val x=some (.pointer (some ((ab X.1).add j)))/\w.heap[X.1]? =some (.cells X.2.1.toArray X.2.2 (0,0)):=by
 cases x with
 |tmp t=>
  obtain⟨X,k,q⟩:=d.sl t i j h;exact⟨X,k,q,d.lc.own i X k⟩
 |_=>cases h
def UX:∀{h vs:List aa},BP h vs=true->vs.length=h.length
 |[],[],_=>rfl
 |j::h,v::vs,d=>by unfold BP at d;rw[bH]at d;simp[UX d.2]
def Np{T:aE}{cs:List aa}{j b:Nat}{ty:aE}{K:aa->Prop}(h:FI P T cs j K):
  ∃v,K v/\∀d:J,d.heap[b]? =some (.cells cs.toArray ty (0,0))->(loadVar T ((ab b).add j)).run P d=.ok v d:=by
 obtain⟨k,h⟩:=ee h;unfold zE at k;have one:∀(v:aa),cs[j]? =some v->(rT P T==some false)=true->∀d:J,d.heap[b]? =some (.cells cs.toArray ty (0,0))->(loadVar T ((ab b).add j)).run P d=.ok v d:=λv z q d x=>
  yL (by grind) (cellAt (p:=ab b) x rfl (by grind))
 cases A:zeroOf P T with
 |agg F=>
  rw[A]at h k;simp only at h k;obtain⟨C,B⟩:=ee h;rw[bH]at k;obtain⟨q,w⟩:=k;cases y:P.info? T with
  |none=>grind
  |some i=>
   rw[y]at w;simp at w q;refine⟨_,B,λd x=>Uz q y (by rw[w,UX C];simp) λE v D=>?_⟩;rw[add_add];refine cellAt (p:=ab b) x rfl ?_
   grind
 |nilFunc=>grind
 |_=>
  rw[A]at h k;simp only at h;split at h
  .rename_i v z;exact⟨v,(ee h).2,one v z k⟩
  .exact h.elim
def ZT{o:Oper}{E:Env}{w Y:J}{K:aa->List (J->Prop)->Prop}(h:Cs P o=false)(d:oc P o E w K):oc P o E Y K:=by
 unfold Cs at h;rw[Bool.or_eq_false_iff]at h;obtain⟨j,h⟩:=h;unfold oc at d ⊢;rw[j]at d ⊢;simp only[cond_false]at d ⊢;unfold zV at d ⊢;unfold W4 at h;split at d<;>first |exact d|skip
 all_goals rename_i k
 all_goals rw[k]at h
 .cases h
 .rename_i q _ x;cases q with
  |const c=>grind
  |_=>
   simp only[isConst,cond_false]at h
   grind
 .cases h
 .grind
 grind
def zl(P:aJ)(o:Oper)(a:Act)(s:TS)(w:J)(v:aa)(j:Option (Nat×Nat))(Ss:List (Option Nat×(J->Prop)))(s':TS):Prop:=
 Inv s' w/\s'.E=s.E/\s'.S=s.S/\s'.L=s.L/\Calm P o a.eval w v (Ss.map (·.2))/\
 (∀p∈Ss,∀i,p.1=some i->∃X,s.L[i]? =some X/\∀h:J,h.heap[X.1]? =some (.cells X.2.1.toArray X.2.2 (0,0))->p.2 h)/\
 (∀i d,j=some (i,d)->∃X,s.L[i]? =some X/\v=.pointer (some ((ab X.1).add d)))
section
variable {o:Oper} {n:Cx} {a:Act} {s:TS} {w:J} {K:aa->Option (Nat×Nat)->List (Option Nat×(J->Prop))->TS->Prop}
def aa2(H:∀z b,o.op≠.select z b)(D:Ag n a s.E)(x:Inv s w)(h:uY P o s K):∃v j d s',K v j d s'/\zl P o a s w v j d s':=by
 have fin:∀(s':TS),s'.E=s.E->s'.S=s.S->s'.L=s.L->Inv s' w->oc P o s.E w (λv d=>K v none (d.map λk=>(none,k)) s')->∃v j d s',K v j d s'/\zl P o a s w v j d s':=λs' A B C y F=>by
  obtain⟨v,d,I,O⟩:=zW H D F;refine⟨v,none,_,s',I,y,A,B,C,?_,λp T i Q=>?_,λi U G=>by cases G⟩
  .rw [List.map_map];have:((λM:Option Nat×(J->Prop)=>M.2)∘λk=>((none:Option Nat),k))=id:=rfl;rw[this,List.map_id];omega
  grind
 unfold uY at h;cases q:Cs P o with
 |true=>
  rw[q,cond_true]at h;obtain⟨y,N⟩:=x.fM h
  grind
 |false=>
  rw[q,cond_false]at h;exact fin s rfl rfl rfl x (ZT q h)
def ZR(hs:∀U b,o.op≠.select U b)(C:Ag n a s.E)(z:Inv s w)(h:D' P o s K):∃v d B F,K v d B F/\zl P o a s w v d B F:=by
 have gen:=λh=>aa2 (P:=P) (K:=K) hs C z h;have same:∀(x:Operand) (d:Nat×Nat),s.S.at x=some d->(∀w,(execOp a.eval o).run P w=.ok (.value (a.eval x)) w\/∀p,a.eval x≠.pointer (some p))->K ((s.E.val x).getD undef) (some d) [] s->∃v d B F,K v d B F/\zl P o a s w v d B F:=λx d k hr q=>by
  obtain⟨X,G,A,_⟩:=z.at (i:=d.1) (j:=d.2) k;have he:=C.val A;refine⟨_,_,_,s,q,z,rfl,rfl,rfl,⟨λQ H=>(by cases H),λL _=>?_⟩,λp I=>(by cases I),λi D N=>?_⟩
  .grind
  grind
 unfold D' at h;split at h
 .rename_i M x y;split at h
  .rename_i i D k;obtain⟨X,G,A,W⟩:=z.at k;rw[G]at h;obtain⟨v,q,hv⟩:=Np (b:=X.1) (ty:=X.2.2) h;refine⟨v,_,_,s,q,z,rfl,rfl,rfl,⟨λQ H=>?_,λL ac=>?_⟩,λp I i' ad=>?_,λi D N=>by cases N⟩
   .grind
   .have:(loadVar M ((ab X.1).add D)).run P L=.ok v L:=ac (λw=>(loadVar M ((ab X.1).add D)).run P w=.ok v w) ws;simp[execOp,y,Instr.loadAt,C.val A,Instr.sureAddr,this]
   grind
  grind
 .rename_i x y;split at h
  .rename_i d k;exact same x d k (λw=>.inl (by simp[execOp,y])) h
  grind
 .rename_i x y;split at h
  .rename_i d k;exact same x d k (λw=>.inl (by simp[execOp,y])) h
  grind
 .rename_i x y;split at h
  .rename_i d k;refine same x d k (λw=>?_) h;obtain⟨X,_,A,_⟩:=z.at (i:=d.1) (j:=d.2) k;exact .inl (by simp[execOp,y,C.val A])
  grind
 .rename_i M x f y;split at h
  .rename_i i D k;obtain⟨X,G,A,W⟩:=z.at k;split at h
   .rename_i ae X' q T;rw[G]at T;cases T;refine⟨_,_,_,s,h,z,rfl,rfl,rfl,⟨λQ H=>(by cases H),λL _=>?_⟩,λp I=>(by cases I),λi' j' N=>?_⟩
    .unfold L8 at q;split at q
     .rename_i fs hu;split at q
      .rename_i fd Y;split at q
       .rename_i inf Z;cases O:cm inf.size 0 with
        |true=>grind
        |false=>
         rw[O]at q;cases q;have aa:inf.size≠0:=λe=>by rw[e]at O;cases O
         simp[execOp,y,C.val A,Instr.fieldAt,run_underlying hu,Y,Instr.sureAddr,fieldPlace,sizeOf,typeInfo,Z,aa,add_add]
       grind
      grind
     grind
    grind
   grind
  grind
 grind
end
def tN(s:TS)(K:aa->Option (Nat×Nat)->Option Nat->TS->Prop)(v:aa)(Y:J):Prop:=
 ∃j m d,K v j m d/\Inv d Y/\d.E=s.E/\d.S=s.S/\(∀i X,s.L[i]? =some X->m≠some i->d.L[i]? =some X)/\
  (∀i h,j=some (i,h)->∃X,d.L[i]? =some X/\v=.pointer (some ((ab X.1).add h)))
def Uw{o:Oper}{ρ:Operand->aa}{T:aE}{z:aa}(j:o.op=.alloc T)(h:(P.info? T).bind (·.zero)=some z)(w:J):
  (execOp ρ o).run P w=.ok (.value (.pointer (some (ab w.heap.size)))) (w.alloc (.cells z.cells T)):=by
 cases d:P.info? T with
 |none=>grind
 |some i=>
  rw[d]at h;have k:i.zero=some z:=h;simp[execOp,j,Instr.alloc,zeroValue,typeInfo,d,k,newVar,newRow]
def Ux{o:Oper}{ρ:Operand->aa}{T:aE}{x:Operand}(d:o.op=.box T x)(w:J):
  (execOp ρ o).run P w=.ok (.value (.pointer (some (ab w.heap.size)))) (w.alloc (.cells (ρ x).cells T)):=by simp[execOp,d,Instr.box,newVar,newRow]
def abV{L:Lv}{w Y:J}{p:Prop}(h:qN L w Y p)(H:LC w L):LC Y L/\p:=by
 cases L with
 |nil=>exact⟨LC.nil _,h⟩
 |cons d L=>exact⟨H.qN h.1,h.2⟩
section
variable {o:Oper} {n:Cx} {a:Act} {s:TS} {w:J} {K:aa->Option (Nat×Nat)->Option Nat->TS->Prop}
def J'{f:cR}{args:Array aa}{K:aa->J->Prop}(j:(execOp a.eval o).run P w=.ok (.enter f args) w)(h:ai P f args w λe d=>∃v,e=ae v/\K v d):jl P o a w K:=by
 intro k;unfold Oper.wp;rw[j];simp only[Oper.upon];refine Calls.mono h λe d q=>?_
 grind
def Ka{f:cR}{args:Array aa}{z:aa}{K:aa->J->Prop}(q:(execOp a.eval o).run P w=.ok (.enter f args) w)(H:LC w s.L)(x:s.w=w)(h:zU P f args z s K):jl P o a w λv d=>LC d s.L/\K v d:=by
 unfold zU at h;split at h
 .rename_i A;rw[x]at h;refine J' q (Calls.mono h λe d j=>?_);obtain⟨v,rfl,k⟩:=se j;exact⟨v,rfl,by rw[A];exact LC.nil _,k⟩
 .rw [x]at h;obtain⟨E,C,B⟩:=h;refine J' q (Calls.mono B λe d j=>?_);obtain⟨y,D⟩:=j;obtain⟨v,rfl,k⟩:=se D;exact⟨v,rfl,H.fr y C,k⟩
def RH{cs:Array aa}{T:aE}(q:(execOp a.eval o).run P w=.ok (.value (.pointer (some (ab w.heap.size)))) (w.alloc (.cells cs T)))(d:Inv s w)(h:GD s cs.toList T K):jl P o a w (tN s K):=by
 intro x;unfold Oper.wp;rw[q];simp only[Oper.upon];refine⟨_,rfl,_,_,_,h w.heap.size (w.alloc (.cells cs T)) d.fr.size (size_alloc _ _) (d.fr.dO (Fr.alloc _ _ _)),⟨d.lc.push cs T,ws,λt i k j=>?_⟩,rfl,rfl,λi X A _=>?_,λi k j=>?_⟩
 .obtain ⟨X,y,z⟩:=d.sl t i k j
  grind
 .grind
 .cases j;exact⟨(w.heap.size,cs.toList,T),ws,by rw[jq]⟩
def Vp{i j b:Nat}{T:aE}{B:J}{K:J->Prop}:∀(vs:List aa) (k:Nat) (w:J) (L:Lv) (cs:List aa),LC w L->L[i]? =some (b,cs,T)->j+k+vs.length<=cs.length->Fr (·∈iE L) B w->
  (∀d,LC d (L.set i (b,BN cs (j+k) vs,T))->Fr (·∈iE L) B d->K d)->ra ((ab b).add j) vs k w K
 |[],k,w,L,cs,h,q,A,f,x=>by
  refine x w ?_ f;have:L.set i (b,cs,T)=L:=by
   apply List.ext_getElem?
   grind
  rw[show BN cs (j+k) []=cs from rfl,this];exact h
 |v::vs,k,w,L,cs,h,q,A,f,x=>by
  simp only[List.length_cons]at A;obtain⟨C,D,E,F⟩:=h.set (v:=v) i (j+k) q co f
  unfold ra;rw[add_add];refine⟨C,D,Vp (i:=i) (T:=T) vs (k+1) _ _ (cs.set (j+k) v) E ?_ (by grind) F λd y z=>?_⟩
  .grind
  .rw [List.set_set]at y;rw[DM L i q]at z;exact x d y z
def Vo{L:Lv}{p:Addr}{K K':J->Prop}(k:∀j,LC j L->K j->K' j):∀(vs:List aa) (i:Nat) (w:J),LC w L->H5 (iE L) p vs i w K->ra p vs i w K'
 |[],_,w,d,h=>k w d h
 |v::vs,i,w,d,h=>by obtain⟨q,x,y,z⟩:=h;exact⟨q,x,Vo k vs (i+1) _ (d.qN y) z⟩
def W'{b:Bool}{p:Prop}(d:b=true)(h:p):cS b p:=by subst d;exact h
def KN{E:Env}{T:aE}{x y:Operand}{p:Addr}{v:aa}{K:aa->J->Prop}(j:o.op=.store T x y)(k:E.val x=some (.pointer (some p)))(q:E.val y=some v)(d:(v.cells.size==(match P.info? T with |some i=>i.size|none=>0)&&v.cells.toList.all sT&&(P.info? T).isSome)=true)(h:ra p v.cells.toList 0 w λz=>K undef z):hW P o E w K:=by unfold hW;rw[j];simp only[k,q];exact W' d h
def UA{ρ:Operand->aa}{nx:Next}{Y:J}(d:(∃j,o.op=.alloc j)\/(∃j B,o.op=.box j B)\/(∃j l p,o.op=.buildSlice j l p)\/(∃j r,o.op=.makeMap j r))(h:(execOp ρ o).run P w=.ok nx Y):af w Y:=by
 rcases d with⟨j,d⟩|⟨j,B,d⟩|⟨j,l,p,d⟩|⟨j,r,d⟩
 .cases x:(P.info? j).bind (·.zero)with
  |some C=>
   rw[Uw d x]at h;cases h;exact Fr.alloc _ _ _
  |none=>
   exfalso;cases q:P.info? j with
   |none=>simp[execOp,d,Instr.alloc,zeroValue,typeInfo,q]at h
   |some i=>
    rw[q]at x;have D:i.zero=none:=x;simp[execOp,d,Instr.alloc,zeroValue,typeInfo,q,D]at h
 .rw [Ux d]at h;cases h;exact Fr.alloc _ _ _
 .cases k:P.underlying j with
  |none=>simp[execOp,d,Instr.buildSlice,underlying,k]at h
  |some u=>
   cases u<;>first |(simp[execOp,d,Instr.buildSlice,run_underlying k]at h;done)|skip
   rename_i e;cases q:P.info? e with
   |none=>simp[execOp,d,Instr.buildSlice,run_underlying k,sizeOf,typeInfo,q]at h
   |some i=>
    by_cases A:l *i.size>2^24
    .simp [execOp,d,Instr.buildSlice,run_underlying k,sizeOf,typeInfo,q,A]at h
    by_cases z:l *i.size=0
    .simp [execOp,d,Instr.buildSlice,run_underlying k,sizeOf,typeInfo,q,z]at h;split at h
     .simp [newRow]at h;obtain⟨_,rfl⟩:=h;exact Fr.alloc _ _ _
     .simp at h
    .simp [execOp,d,Instr.buildSlice,run_underlying k,sizeOf,typeInfo,q,A,z]at h;cases x:i.zero with
     |none=>simp[zeroValue,typeInfo,q,x]at h
     |some C=>
      simp[zeroValue,typeInfo,q,x]at h;split at h
      .simp [newRow]at h;obtain⟨_,rfl⟩:=h;exact Fr.alloc _ _ _
      .simp at h
 .cases r with
  |none=>
   simp[execOp,d,Instr.makeMap]at h;obtain⟨_,rfl⟩:=h;exact Fr.alloc _ _ _
  |some r=>
   cases k:P.underlying j with
   |none=>simp[execOp,d,Instr.makeMap,underlying,k]at h
   |some u=>
    cases u<;>first |(simp[execOp,d,Instr.makeMap,run_underlying k]at h;done)|skip
    cases y:ρ r with
    |int F C=>
     simp[execOp,d,Instr.makeMap,run_underlying k,y,Go.asInt,Go.asIntOf]at h;obtain⟨_,rfl⟩:=h;exact Fr.alloc _ _ _
    |pointer E=>cases E<;>simp[execOp,d,Instr.makeMap,run_underlying k,y,Go.asInt,Go.asIntOf]at h
    |_=>simp[execOp,d,Instr.makeMap,run_underlying k,y,Go.asInt,Go.asIntOf]at h
def ade{K:aa->J->Prop}(B:∀y b,o.op≠.select y b)(z:Ag n a s.E)(k:(∃d,o.op=.alloc d)\/(∃d C,o.op=.box d C)\/(∃d l p,o.op=.buildSlice d l p)\/(∃d r,o.op=.makeMap d r))(h:hW P o s.E w K):jl P o a w λv x=>af w x/\K v x:=by
 have j:qC P o s.E w K:=by
  unfold hW at h
  grind
 obtain⟨A,j⟩:=ee j;intro D;unfold Oper.wp;rw[z.execOp B A];generalize q:(execOp s.E.ev o).run P w=r at j;split at j
 .simp only[Oper.upon];exact⟨_,rfl,UA k q,j⟩
 .simp only[Oper.upon];exact⟨_,rfl,UA k q,j⟩
 grind
def aam{draw:Bool}{lv:List Nat}(A:(aa->J->Prop)->Prop)(C:∀K,jl P o a w K->A K)(h1:∀K,(bif draw then hW else uH) P o s.E w K->A K)(G:∀K ab,(∀v d,K v d->ab v d)->A K->A ab)(Q:∀cs b,o.op≠.select cs b)(F:Ag n a s.E)(k:Inv s w)(h:EA P lv draw o s K):A (tN s K):=by
 have back:∀v d,LC d s.L->K v none none ⟨s.E,s.S,s.L,d,false⟩->tN s K v d:=λv d D j=>⟨none,none,_,j,⟨D,ws,k.sl⟩,rfl,rfl,λi X h _=>h,λi ae Z=>by cases Z⟩;have ac:∀v d,qN s.L w d (K v none none ⟨s.E,s.S,s.L,d,false⟩)->tN s K v d:=λv d j=>by
  obtain⟨D,j⟩:=abV j k.lc
  grind
 have news:((∃y,o.op=.alloc y)\/(∃y I,o.op=.box y I)\/(∃y l p,o.op=.buildSlice y l p)\/(∃y r,o.op=.makeMap y r))->fM s (λs=>hW P o s.E s.w λv d=>K v none none ⟨s.E,s.S,s.L,d,false⟩)->A (tN s K):=λq h=>by obtain⟨_,B⟩:=k.fM h;exact G _ _ (λv d ⟨f,j⟩=>back v d (k.lc.fr (M:=λ_=>False) f (λ_ _ h=>h)) j) (C _ (ade Q F q B))
 unfold EA at h;split at h
 .rename_i y I al q;split at h
  .rename_i i ae H;obtain⟨X,W,g2,_⟩:=k.at H;split at h
   .rename_i X' v ad hv;rw[W]at ad;cases ad;obtain⟨z,j⟩:=ee h;rw[bH]at z;obtain⟨z,hb⟩:=z;have hb:=Nat.le_of_ble_eq_true hb;refine C _ (og Q F (KN q g2 hv z ?_));refine Vp (i:=i) (T:=X.2.2) _ 0 w s.L X.2.1 k.lc W co k.fr λd q1 q2=>?_;refine⟨none,some i,_,j,⟨q1,?_,λt U j' ht=>?_⟩,rfl,rfl,λU af hY ah=>?_,λi ae Z=>by cases Z⟩
    .simp only[if_true];rw[DM s.L i W];exact q2
    .obtain ⟨af,y1,y2⟩:=k.sl t U j' ht;by_cases e:i=U
     .grind
     grind
    .have e:i≠U:=λe=>ah (by rw[e])
     grind
   grind
  .obtain ⟨_,B⟩:=k.fM h;simp only at B;split at B
   .rename_i hL;exact G _ _ (λv d j=>back v d (hL▸LC.nil _) j) (C _ (og Q F B))
   .split at B
    .rename_i p v H hy;obtain⟨z,j⟩:=ee B;exact G _ _ (λv d j=>j) (C _ (og Q F (KN q H hy z (Vo (K':=tN s K undef) (λd D j=>back _ d D j) _ _ _ k.lc j))))
    grind
 .rename_i y q;cases Y:As lv o.dst with
  |true=>
   rw[Y,cond_true]at h;obtain⟨hz,h⟩:=ee h;obtain⟨aj,hz⟩:=Option.isSome_iff_exists.1 hz;have:zeroOf P y=aj:=by unfold zeroOf;grind
   rw[this]at h;exact C _ (RH (Uw q hz w) k h)
  |false=>
   grind
 .rename_i y I q;cases Y:As lv o.dst with
  |true=>
   rw[Y,cond_true]at h;split at h
   .rename_i v hv;have:=Ux (P:=P) (ρ:=a.eval) q w;rw[F.val hv]at this;exact C _ (RH this k h)
   grind
  |false=>
   grind
 .grind
 .grind
 .rename_i f args ai q;obtain⟨I',h⟩:=k.fM h;obtain⟨z,h⟩:=ee h;have O:args.map a.eval=args.map s.E.ev:=F.args λI H=>List.all_eq_true.1 z I (by rw[q];simp[Op.operands,Call.operands,H]);cases N:hS P f with
  |true=>
   rw[N,cond_true]at h;exact G _ _ (λv d ⟨D,j⟩=>back v d D j) (C _ (Ka (s:=⟨s.E,s.S,s.L,w,false⟩) (by simp[execOp,q,resolve,Act.eval,Deferred.ofValue,invoke,O,xb N]) k.lc rfl h))
  |false=>
   rw[N,cond_false]at h;unfold xR at h;obtain⟨v,d,hr,j⟩:=se h;refine G _ _ ac (C _ λak=>?_);unfold Oper.wp;have:(execOp a.eval o).run P w=.ok (.value v) d:=by simp[execOp,q,resolve,Act.eval,Deferred.ofValue,invoke,O,hr]
   rw[this];simp only[Oper.upon]
   grind
 .rename_i t args ai q;obtain⟨I',h⟩:=k.fM h;obtain⟨z,h⟩:=ee h;have O:args.map a.eval=args.map s.E.ev:=F.args λI H=>List.all_eq_true.1 z I (by rw[q];simp[Op.operands,Call.operands,H]);split at h
  .rename_i f first captured hf
   obtain⟨N,h⟩:=ee h;have ag:a.eval (.tmp t)=.func (.func f) first captured:=F.val (x:=.tmp t) hf
   exact G _ _ (λv d ⟨D,j⟩=>back v d D j) (C _ (Ka (s:=⟨s.E,s.S,s.L,w,false⟩) (by simp[execOp,q,resolve,ag,Deferred.ofValue,invoke,O,xb N]) k.lc rfl h))
  grind
 .obtain ⟨_,B⟩:=k.fM h;exact G _ _ ac (h1 _ B)
end
def HI(s:TS)(H:HT)(w:J):Prop:=∀p∈H,p.2.2 w/\∀i,p.2.1=some i->∃X,s.L[i]? =some X/\∀d:J,d.heap[X.1]? =some (.cells X.2.1.toArray X.2.2 (0,0))->p.2.2 d
def fB(H:HT):eU:=H.map λp=>(p.1,p.2.2)
def u0{ops:Array Oper}{j:Nat}:∀d:HT,dw ops j (fB d)=fB (gR ops j d)
 |[]=>rfl
 |(i,f,h)::d=>by
  show dw ops j ((i,h)::fB d)=fB (gR ops j ((i,f,h)::d));unfold dw gR;cases jX ops i j
  .simp only[cond_false];rw[u0 d];rfl
  .simp only[cond_true];exact u0 d
def oB{ops:Array Oper}{j:Nat}:∀{H:HT} {p},p∈gR ops j H->p∈H/\jX ops p.1 j=false
 |(i,f,k)::H,p,d=>by
  unfold gR at d;cases h:jX ops i j with
  |true=>
   rw[h,cond_true]at d;exact⟨e6 _ (oB d).1,(oB d).2⟩
  |false=>
   rw[h,cond_false]at d;rcases aq.1 d with rfl|d
   .grind
   .exact ⟨e6 _ (oB d).1,(oB d).2⟩
def Mv{ops:Array Oper}{j:Nat}{w:J}:∀{H:HT} {p},p∈H->jX ops p.1 j=false->p.2.1=none->p.2.2 w∈xY ops j w H
 |(i,f,q)::H,p,d,k,h=>by
  unfold xY;rcases aq.1 d with rfl|d
  .grind
  .have:=Mv (w:=w) d k h
   grind
def Inv.put{s:TS}{w:J}(j:Inv s w)(d:Option Nat){v:aa}{q:Option (Nat×Nat)}(A:∀i h,q=some (i,h)->∃X,s.L[i]? =some X/\v=.pointer (some ((ab X.1).add h))):Inv ⟨s.E.put d v,s.S.put d q,s.L,s.w,s.d⟩ w:=by
 refine⟨j.lc,j.rel,λt i h k=>?_⟩;cases d with
 |none=>exact j.sl t i h k
 |some d=>
  simp only[Sv.put,Sv.get?]at k;simp only[Env.put,Env.get?];cases x:cm d t with
  |true=>
   grind
  |false=>
   rw[x,cond_false]at k;obtain⟨X,y,z⟩:=j.sl t i h k
   grind
def aeQ{ops:Array Oper}{j:Nat}{s k:TS}{w Y:J}{m:Option Nat}{H:HT}{K:TS->Prop}(I:HI s H w)(y:Inv k Y)(O:∀i X,s.L[i]? =some X->m≠some i->k.L[i]? =some X)(P:(!((gR ops j H).any λp=>m.isSome&&p.2.1==m))=true)(h:Hq ops j k H K):
  ∃q,K q/\Inv q Y/\q.E=k.E/\q.S=k.S/\q.L=k.L/\HI q (gR ops j H) Y:=by
 have B:∀p∈gR ops j H,∀i,p.2.1=some i->∃X,k.L[i]? =some X/\∀Y:J,Y.heap[X.1]? =some (.cells X.2.1.toArray X.2.2 (0,0))->p.2.2 Y:=λp d i A=>by
  obtain⟨X,C,D⟩:=(I p (oB d).1).2 i A
  grind
 have own:∀p∈gR ops j H,∀i,p.2.1=some i->p.2.2 Y:=λp d i A=>by obtain⟨X,C,D⟩:=B p d i A;exact D Y (y.lc.own i X C)
 unfold Hq at h;cases x:H.any (λp=>!(jX ops p.1 j)&&p.2.1.isNone)with
 |true=>
  rw[x,cond_true]at h;obtain⟨F,G⟩:=y.fM h;obtain⟨M,N⟩:=ud G;refine⟨_,N,F,rfl,rfl,rfl,λp d=>⟨?_,B p d⟩⟩;cases z:p.2.1 with
  |none=>exact M _ (Mv (oB d).1 (oB d).2 z)
  |some i=>grind
 |false=>
  rw[x,cond_false]at h;refine⟨k,h,y,rfl,rfl,rfl,λp d=>⟨?_,B p d⟩⟩;cases z:p.2.1 with
  |none=>
   exfalso;rw[List.any_eq_false]at x;exact x p (oB d).1 (by rw[(oB d).2,z];rfl)
  |some i=>grind
section
variable {ops:Array Oper} {n:Cx} {lv:List Nat}
def Ia{o:Oper}{a:Act}{s:TS}{w:J}{H:HT}{K:TS->HT->Prop}{draw:Bool}{i:Nat}(A:(aa->J->Prop)->Prop)(D:∀K,jl P o a w K->A K)(F:∀K,(bif draw then hW else uH) P o s.E w K->A K)(q:∀K k,(∀v d,K v d->k v d)->A K->A k)(T:∀C b,o.op≠.select C b)(L:Ag n a s.E)(y:Inv s w)(G:HI s H w)(N:calm P o=false)(h:stepT P lv ops draw i o s H K):
  A λv d=>∃j,K j (gR ops i H)/\Inv j d/\HI j (gR ops i H) d/\j.E=s.E.put o.dst v:=by
 unfold stepT at h;rw[N,cond_false]at h;refine q _ _ (λv d O=>?_) (aam A D F q T L y h);obtain⟨ac,m,s1,Q,z,W,Y,I,hq⟩:=O;obtain⟨M,S⟩:=ee Q;obtain⟨s2,U,B,Z,f2,f3,x⟩:=aeQ G z I M S;refine⟨_,U,B.put o.dst λi ab h=>?_,x,by grind⟩
 grind
def VC{o:Oper}{a:Act}{s:TS}{w:J}{H:HT}{K:TS->HT->Prop}{draw:Bool}{i:Nat}(Q:∀C b,o.op≠.select C b)(M:Ag n a s.E)(A:Inv s w)(G:HI s H w)(N:calm P o=true)(h:stepT P lv ops draw i o s H K):
  ∃v k j q,K j q/\Inv j w/\HI j q w/\j.E=s.E.put o.dst v/\Calm P o a.eval w v k/\fB q=(bif draw then k.map (λx=>(i,x))++fB H else fB H):=by
 unfold stepT at h;rw[N,cond_true]at h;obtain⟨v,ab,k,j,O,B,D,S,F,y,U,W⟩:=ZR Q M A h;refine⟨v,k.map (·.2),_,_,O,B.put o.dst λi Z h=>?_,λp d=>?_,by rw[D],y,?_⟩
 .grind
 .have aa:p∈H->p.2.2 w/\∀i,p.2.1=some i->∃X,j.L[i]? =some X/\∀z:J,z.heap[X.1]? =some (.cells X.2.1.toArray X.2.2 (0,0))->p.2.2 z:=λd=>by rw[F];exact G p d
  cases draw with
  |false=>grind
  |true=>
   rcases List.mem_append.1 d with d|d
   .obtain ⟨x,I,rfl⟩:=List.mem_map.1 d;refine⟨y.1 _ (List.mem_map.2 ⟨x,I,rfl⟩),λY T=>?_⟩
    grind
   grind
 .cases draw with
  |false=>rfl
  |true=>simp[fB]
def Fi{i d:Nat}{o:Oper}{want t:Bool}{s:TS}{H:HT}{K:TS->HT->Prop}{draw:Bool}(h:bA t (ow P lv ops draw i o d want true s H K) (ow P lv ops draw i o d want false s H K)):ow P lv ops draw i o d want t s H K:=by
 cases t
 .exact h
 .exact h
def Inv.same{s:TS}{w:J}(h:Inv s w){d:Nat}{v:aa}(z:s.E.get? d=some v):Inv ⟨(d,v)::s.E,s.S,s.L,s.w,s.d⟩ w:=by
 refine⟨h.lc,h.rel,λt i q k=>?_⟩;obtain⟨X,j,x⟩:=h.sl t i q k;refine⟨X,j,?_⟩;simp only[Env.get?];by_cases e:d=t
 .grind
 .have y:cm d t=false:=by rw[<-Bool.not_eq_true,eS];exact e
  grind
def Inv.skip{s:TS}{w:J}(h:Inv s w)(d:Option Nat):Inv ⟨s.E.put d undef,s.S.put d none,s.L,s.w,s.d⟩ w:=h.put d λi k j=>by cases j
def HI.skip{s s':TS}{w:J}{H:HT}(h:HI s H w)(e:s'.L=s.L):HI s' H w:=λp d=>by rw[e];exact h p d
def HI.drop{s:TS}{w:J}{H:HT}{j:Nat}(h:HI s H w):HI s (gR ops j H) w:=λp d=>h p (oB d).1
def HI.held{s:TS}{w:J}{H:HT}(h:HI s H w):∀p∈fB H,p.2 w:=λp d=>by obtain⟨k,j,rfl⟩:=List.mem_map.1 d;exact(h k j).1
def BI{K:TS->Prop}{Q:Exit->Act->J->Prop}(x:eo n ops=true):∀(l:List Nat) (s:TS) (w:J) (a:Act),Ag n a s.E->Inv s w->runT P lv ops false K l s []->(∀y z M,Ag n M y.E->Inv y z->K y->Q .normal M z)->wpOpsIn (FW n) 0 P ops Q l a w
 |[],s,w,a,j,q,h,F=>F s w a j q h
 |i::l,s,w,a,j,q,h,F=>by
  have W:=Region.noSelect_spec (ops:=ops) (by unfold eo at x;grind);unfold runT at h;cases k:ops[i]? with
  |none=>grind
  |some o=>
   rw[k]at h;simp only at h;have step:∀(s:TS),Ag n a s.E->Inv s w->dC o (yielded ops a.tmps)=true->stepT P lv ops false i o s [] (λy G=>runT P lv ops false K l y G)->wpOpsIn (FW n) 0 P ops Q (i::l) a w:=λs j q H h=>by
    rw[wpOpsIn_cons];cases hc:calm P o with
    |true=>
     obtain⟨v,Ss,y,G,Y,I,_,N,ab,ac⟩:=VC (λC b=>W i o C b k) j q (λp U=>by cases U) hc h;have:G=[]:=by cases G with |nil=>rfl|cons ag l=>cases ac
     subst this;refine Cu (Kv:=λv' z=>v'=v/\z=w) k H ?_ ?_
     .refine jl.in (vm x k) λZ=>?_;unfold Oper.wp;rw[ab.2 w ab.1];exact⟨v,rfl,rfl,rfl⟩
     .rintro v' z ⟨rfl,rfl⟩;exact BI x l y _ _ (by rw[N];exact j.put _ (hn x k)) I Y F
    |false=>
     refine Cu k H (Ia (draw:=false) (s:=s) (zk P n o a w) (λK O=>O.in (vm x k)) (λK O=>KO (λC b=>W i o C b k) (vm x k) j O) (λK K' ad hA Z=>Oper.wpIn_mono (λM z ⟨v,e,hv⟩=>⟨v,e,ad v z hv⟩) (hA Z)) (λC b=>W i o C b k) j q (λp U=>by cases U) hc h) λv z ⟨y,Y,I,_,N⟩=>?_;exact BI x l y z _ (by rw[N];exact j.put v (hn x k)) I Y F
   have skip:∀(s:TS),Ag n a s.E->Inv s w->dC o (yielded ops a.tmps)=false->runT P lv ops false K l ⟨s.E.put o.dst undef,s.S.put o.dst none,s.L,s.w,s.d⟩ []->wpOpsIn (FW n) 0 P ops Q (i::l) a w:=λs j q H h=>by rw[wpOpsIn_cons];unfold wpOpIn;simp only[k,H];exact⟨λ_ _=>trivial,BI x l _ w _ (j.put undef (hn x k)) (q.skip o.dst) h F⟩
   have aa:(bif calm P o then([]:HT)else gR ops i [])=[]:=by cases calm P o<;>rfl
   cases B:o.guard with
   |none=>
    rw[B]at h;exact step s j q (by simp[dC,B]) h
   |some jw=>
    obtain⟨ae,want⟩:=jw;rw[B]at h;simp only at h;cases T:km ops ae with
    |none=>grind
    |some af=>
     rw[T]at h;simp only at h;split at h
     .rename_i t A;have hy:=tB j T A;have D:=Fi h;unfold ow at D;cases hb:(t==want)with
      |true=>
       rw[hb,cond_true]at D;exact step _ (j.same A) (q.same A) (by simp[dC,B,hy];grind) D
      |false=>
       rw[hb,cond_false,aa]at D;exact skip _ (j.same A) (q.same A) (by simp[dC,B,hy];grind) D
     .rename_i vs A;rw[aa]at h;exact skip s j q (by simp[dC,B,tC j T A]) h
     grind
def h7(n:Cx)(K:TS->Prop):Exit->Act->J->Prop
 |.normal,a,d=>∃s,Ag n a s.E/\Inv s d/\K s
 |_,_,_=>False
def abx{o:Oper}{i:Nat}{H:HT}:(bif calm P o then fB H else dw ops i (fB H))=fB (bif calm P o then H else gR ops i H):=by
 cases calm P o
 .exact u0 H
 .rfl
def HI.BQ{o:Oper}{i:Nat}{s s':TS}{w:J}{H:HT}(h:HI s H w)(e:s'.L=s.L):HI s' (bif calm P o then H else gR ops i H) w:=by
 cases calm P o
 .exact h.drop.skip e
 .exact h.skip e
def abr(I:eo n ops=true){K:TS->Prop}{i:Nat}{o:Oper}{s:TS}{w:J}{H:HT}{a:Act}{N:TS->HT->Prop}{y:Array Bool}{fuel:Nat}(q:ops[i]? =some o)(Q:(bif calm P o then Region.free .any ops y i&&(fa .any ops y).contains i else fa .any ops y==[i])=true)(j:Ag n a s.E)(x:Inv s w)(k:HI s H w)(h:xW P lv ops i s H N)(next:∀Y A z D,Ag n Y A.E->Inv A z->HI A D z->N A D->eR P ops (h7 n K) fuel (fB D) (y.setIfInBounds i true) Y z):eR P ops (h7 n K) (fuel+1) (fB H) y a w:=by
 have T:=Region.noSelect_spec (ops:=ops) (by unfold eo at I;grind);have hQ:∀c a w,h7 n K (.panic c) a w=False:=λ_ _ _=>rfl;have step:∀(s:TS),Ag n a s.E->Inv s w->HI s H w->dC o (yielded ops a.tmps)=true->stepT P lv ops true i o s H N->eR P ops (h7 n K) (fuel+1) (fB H) y a w:=λs j x k ac h=>by
  cases O:calm P o with
  |true=>
   rw[O,cond_true,bH]at Q;obtain⟨v,ad,A,D,k1,W,M,Z,ab,aa⟩:=VC (λF b=>T i o F b q) j x k O h;refine IJ (v:=v) (Ss:=ad) q T (by grind) fuel (fB H) y a w (Region.free_spec q Q.1) (by grind) (.inl ⟨ac,λz af=>ab.2 z af⟩) ab.1 k.held ?_;rw[cond_true]at aa;rw[<-aa];exact next _ A w D (by rw[Z];exact j.put v (hn I q)) W M k1
  |false=>
   rw[O,cond_false]at Q;have hr:fa .any ops y=[i]:=by grind
   refine λ_=>⟨λh0=>(by grind),λU hj=>?_⟩;rw[hr]at hj;obtain rfl:=List.mem_singleton.1 hj;refine zg q ac (Ia (draw:=true) (s:=s) (jl P o a w) (λK hK=>hK) (λK hK=>og (λF b=>T U o F b q) j hK) (λK K' ae hA Q'=>Oper.wp_mono (λY z ⟨v,e,hv⟩=>⟨v,e,ae v z hv⟩) (hA Q')) (λF b=>T U o F b q) j x k O h) λv z ⟨A,k1,W,M,Z⟩=>?_;rw[u0];exact⟨M.held,next _ A z _ (by rw[Z];exact j.put v (hn I q)) W M k1⟩
 have skip:∀(s:TS),Ag n a s.E->Inv s w->HI s H w->dC o (yielded ops a.tmps)=false->N ⟨s.E.put o.dst undef,s.S.put o.dst none,s.L,s.w,s.d⟩ (bif calm P o then H else gR ops i H)->eR P ops (h7 n K) (fuel+1) (fB H) y a w:=λs j x k hw h=>by refine yQ I q Q hQ k.held hw ?_;rw[abx];exact next _ _ w _ (j.put undef (hn I q)) (x.skip o.dst) (k.BQ rfl) h
 unfold xW at h;rw[q]at h;simp only at h;cases C:o.guard with
 |none=>
  rw[C]at h;exact step s j x k (by simp[dC,C]) h
 |some jw=>
  obtain⟨U,want⟩:=jw;rw[C]at h;simp only at h;cases hd:km ops U with
  |none=>grind
  |some ag=>
   rw[hd]at h;simp only at h;split at h
   .rename_i t B;have hy:=tB j hd B;have G:=Fi h;unfold ow at G;cases hb:(t==want)with
    |true=>
     rw[hb,cond_true]at G;exact step _ (j.same B) (x.same B) (k.skip rfl) (by simp[dC,C,hy];grind) G
    |false=>
     rw[hb,cond_false]at G;exact skip _ (j.same B) (x.same B) (k.skip rfl) (by simp[dC,C,hy];grind) G
   .rename_i vs B;exact skip s j x k (by simp[dC,C,tC j hd B]) h
   grind
def abt(Q:eo n ops=true){K:TS->Prop}{i:Nat}{o:Oper}{s:TS}{w:J}{H:HT}{a:Act}{F:TS->HT->Prop}{G:Array Bool}{fuel:Nat}(z:ops[i]? =some o)(W:calm P o=false)(k:Ag n a s.E)(y:Inv s w)(x:HI s H w)(h:xW P lv ops i s H F)(next:∀q C j I,Ag n q C.E->Inv C j->HI C I j->F C I->eR P ops (h7 n K) fuel (fB I) (G.setIfInBounds i true) q j):
  wpOp P ops (h7 n K) i (λq j=>(∀p∈dw ops i (fB H),p.2 j)/\eR P ops (h7 n K) fuel (dw ops i (fB H)) (G.setIfInBounds i true) q j) a w:=by
 have Y:=Region.noSelect_spec (ops:=ops) (by unfold eo at Q;grind);have step:∀(s:TS),Ag n a s.E->Inv s w->HI s H w->dC o (yielded ops a.tmps)=true->stepT P lv ops true i o s H F->wpOp P ops (h7 n K) i (λq j=>(∀p∈dw ops i (fB H),p.2 j)/\eR P ops (h7 n K) fuel (dw ops i (fB H)) (G.setIfInBounds i true) q j) a w:=λs k y x ab h=>by refine zg z ab (Ia (draw:=true) (s:=s) (jl P o a w) (λK N=>N) (λK N=>og (λM b=>Y i o M b z) k N) (λK K' aa hA Q'=>Oper.wp_mono (λq j ⟨v,e,hv⟩=>⟨v,e,aa v j hv⟩) (hA Q')) (λM b=>Y i o M b z) k y x W h) λv j ⟨C,k1,I',T,e1⟩=>?_;rw[u0];exact⟨T.held,next _ C j _ (by rw[e1];exact k.put v (hn Q z)) I' T k1⟩
 have skip:∀(s:TS),Ag n a s.E->Inv s w->HI s H w->dC o (yielded ops a.tmps)=false->F ⟨s.E.put o.dst undef,s.S.put o.dst none,s.L,s.w,s.d⟩ (bif calm P o then H else gR ops i H)->wpOp P ops (h7 n K) i (λq j=>(∀p∈dw ops i (fB H),p.2 j)/\eR P ops (h7 n K) fuel (dw ops i (fB H)) (G.setIfInBounds i true) q j) a w:=λs k y x hw h=>by refine HS z x.held hw ?_;rw[W,cond_false]at h;rw[u0];exact next _ _ w _ (k.put undef (hn Q z)) (y.skip o.dst) (x.drop.skip rfl) h
 unfold xW at h;rw[z]at h;simp only at h;cases B:o.guard with
 |none=>
  rw[B]at h;exact step s k y x (by simp[dC,B]) h
 |some jw=>
  obtain⟨ac,want⟩:=jw;rw[B]at h;simp only at h;cases O:km ops ac with
  |none=>grind
  |some ad=>
   rw[O]at h;simp only at h;split at h
   .rename_i t A;have Z:=tB k O A;have D:=Fi h;unfold ow at D;cases U:(t==want)with
    |true=>
     rw[U,cond_true]at D;exact step _ (k.same A) (y.same A) (x.skip rfl) (by simp[dC,B,Z];grind) D
    |false=>
     rw[U,cond_false]at D;exact skip _ (k.same A) (y.same A) (x.skip rfl) (by simp[dC,B,Z];grind) D
   .rename_i vs A;exact skip s k y x (by simp[dC,B,tC k O A]) h
   grind
def y7(F:eo n ops=true){K:TS->Prop}:∀(t:Tr) (alt:Bool) (h:Array Bool) (s:TS) (w:J) (H:HT) (a:Act) (m:Nat),iO P ops t alt h=true->Ag n a s.E->Inv s w->HI s H w->rq P lv ops K t s H->
  (alt=false->t.len=m->eR P ops (h7 n K) m (fB H) h a w)/\
  (alt=true->t.len=m+1->∀i∈t.jP,wpOp P ops (h7 n K) i (λz q=>(∀p∈dw ops i (fB H),p.2 q)/\eR P ops (h7 n K) m (dw ops i (fB H)) (h.setIfInBounds i true) z q) a w)
 |.nil,alt,h,s,w,H,a,m,d,A,y,D,j=>by
  unfold iO at d;rw[bH]at d;refine⟨λ_ k=>?_,λe=>?_⟩
  .subst k;exact λ_=>⟨by grind,s,A,y,j⟩
  grind
 |.one i t,alt,h,s,w,H,a,m,d,A,y,D,j=>by
  unfold iO at d;rw[bH]at d;obtain⟨d,aa⟩:=d;cases T:ops[i]? with
  |none=>grind
  |some o=>
   rw[T]at d;simp only at d;unfold rq at j;refine⟨λe k=>?_,λe k ac hj=>?_⟩
   .subst e k;exact abr F T d A y D j λz W q L M O N Q=>(y7 F t false _ W q L z _ aa M O N Q).1 rfl rfl
   .subst e;rw[cond_true]at d;obtain rfl:=List.mem_singleton.1 hj;have S:t.len=m:=by simpa[Tr.len]using k
    exact abt F T (by grind) A y D j λz W q L M O N Q=>(y7 F t false _ W q L z _ aa M O N Q).1 rfl S
 |.fork C I,alt,h,s,w,H,a,m,d,A,y,D,j=>by
  unfold iO at d;simp only[bH]at d;obtain⟨hr,Y,U,hy⟩:=d;rw[eS]at Y;unfold rq at j;have both:∀x,C.len=x+1->∀i∈(Tr.fork C I).jP,wpOp P ops (h7 n K) i (λz q=>(∀p∈dw ops i (fB H),p.2 q)/\eR P ops (h7 n K) x (dw ops i (fB H)) (h.setIfInBounds i true) z q) a w:=λx G i B=>by
   rcases List.mem_append.1 B with B|B
   .exact (y7 F C true h s w H a x U A y D j.1).2 rfl G i B
   .exact (y7 F I true h s w H a x hy A y D j.2).2 rfl (Y▸G) i B
  refine⟨λe k=>?_,λ_ k=>both m k⟩;subst e;obtain⟨x,G⟩:=It C h U;have S:m=x+1:=by rw[<-k,<-G];rfl
  subst S;have Z:fa .any ops h=(Tr.fork C I).jP:=by grind
  have ab:(Tr.fork C I).jP≠[]:=by have:=Is C h U;simp[Tr.jP,this]
  exact λ_=>⟨λh0=>absurd (Z▸h0) ab,λi B=>both x G i (Z▸B)⟩
def aeS{c:Code}{a:Act}{s:TS}{w:J}{K:TS->Prop}(d:s5 n c=true)(z:Ag n a s.E)(x:Inv s w)(h:runT P lv (Code.ops c) false K (List.range (Code.ops c).size) s []):gj P n c (h7 n K) a w:=by
 unfold s5 at d;split at d
 .rename_i id ops y;rw[bH]at d;obtain⟨q,j⟩:=d;have k:y=false:=by grind
  subst k;exact wpIn_region (BI j _ s w a z x h λA C B q j k=>⟨A,q,j,k⟩)
 grind
def Inv.dr{s:TS}{w:J}{K:TS->Prop}(d:Inv s w)(h:z2 s K):∃j,K j/\Inv j w.drew/\j.E=s.E:=by
 have lc:LC w.drew s.L:=d.lc.fr (M:=λ_=>False) (Fr.drew _ _) (λ_ _ h=>h);unfold z2 at h;split at h
 .rename_i x k;have q:=d.rel;rw[k]at q;have:w=s.w:=by grind
  exact⟨_,h,⟨lc,by grind,d.sl⟩,rfl⟩
 .exact ⟨_,h,⟨lc,by simpa using d.fr.dO (Fr.drew _ _),d.sl⟩,rfl⟩
def aeR{c:Code}{a:Act}{s:TS}{w:J}{K:TS->Prop}{t:Tr}(d:vJ P n c t=true)(H:Ag n a s.E)(q:Inv s w)(h:z2 s λs=>rq P lv (Code.ops c) K t s []):gj P n c (h7 n K) a w:=by
 unfold vJ at d;split at d
 .rename_i id ops G;simp only[bH]at d;obtain⟨rfl,C,k,B,j⟩:=d;rw[eS]at j;obtain⟨F,A,x,e⟩:=q.dr h;have y:=(y7 k t false _ F w.drew [] a _ B (by grind) x (λp D=>(by cases D)) A).1 rfl j;have z:=Ct _ [] _ _ _ (Down.zero _ _) y;refine wpIn_region_draw λt=>?_;refine tz k (λ⟨_,_,h⟩=>h) _ _ _ ?_;simp only[Region.schedule,C,Bool.true_or,if_true];exact wpAny_sound ops.size t _ a _ z
 grind
end
end
abbrev KT:=Exit->TS->Prop
structure n5 where
 ord:Nat->Option Tr
 pt:List Bool->Option (TS->Prop)
 lv:List Nat
def qY(j:n5)(h:List Bool)(f:TS->Prop)(s:TS):Prop:=match j.pt h with
 |some d=>fM s d
 |none=>f s
def UL(h:n5)(d:List Bool)(f:TS->Prop)(K:KT):KT:=λe s=>match e with
 |.normal=>qY h d f s
 |e=>K e s
def zL(id:Nat)(K:KT):KT:=λe s=>match e with
 |.exit d=>if d=id then K .normal s else K (.exit d) s
 |e=>K e s
def i0(P:aJ)(n:Cx)(j:n5):Code->List Bool->KT->TS->Prop
 |.skip,_,d,s=>d .normal s
 |.region id ops true,_,d,s=>match j.ord id with
  |some t=>cS (vJ P n (.region id ops true) t) (z2 s λs=>rq P j.lv ops (d .normal) t s [])
  |none=>False
 |.region id ops false,_,d,s=>cS (s5 n (.region id ops false)) (runT P j.lv ops false (d .normal) (List.range ops.size) s [])
 |.seq a b,h,d,s=>i0 P n j a (false::h) (UL j (true::h) (i0 P n j b (true::h) d) d) s
 |.cond o a b,h,d,s=>g9 (s.E.val o) (qY j (false::h) (i0 P n j a (false::h) d) s) (qY j (true::h) (i0 P n j b (true::h) d) s)
 |.block id a,h,d,s=>i0 P n j a (false::h) (zL id d) s
 |.loop _,h,_,s=>qY j h (λ_=>False) s
 |.exit id,_,d,s=>d (.exit id) s
 |.ret,_,d,s=>d .ret s
 |_,_,_,_=>False
section
variable {P:aJ} {n:Cx} {tb:n5}
def gE(P:aJ)(n:Cx)(q:Code)(k:Exit->Act->J->Prop):List Bool->Code×(Exit->Act->J->Prop)
 |[]=>(q,k)
 |b::w=>match gE P n q k w,b with
  |(.seq h j,d),false=>(h,Exit.then (gj P n j d) d)
  |(.seq _ j,d),true=>(j,d)
  |(.cond _ h _,d),false=>(h,d)
  |(.cond _ _ j,d),true=>(j,d)
  |(.block id h,d),_=>(h,Exit.inBlock id d)
  |(.loop h,d),_=>(h,Exit.then (nc P n h d) d)
  |(_,d),_=>(.skip,d)
def tE(P:aJ)(n:Cx)(p:Code×(Exit->Act->J->Prop))(a:Act)(w:J):Prop:=match p with
 |(.loop h,d)=>nc P n h d a w
 |(c,d)=>gj P n c d a w
def tE.wp{c:Code}{Q:Exit->Act->J->Prop}{a:Act}{w:J}(h:tE P n (c,Q) a w):gj P n c Q a w:=by
 unfold tE at h;split at h
 .rename_i j d e;cases e;exact W6 h
 grind
def KQ(n:Cx)(K:KT)(Q:Exit->Act->J->Prop):Prop:=∀e s d a,Ag n a s.E->Inv s d->K e s->Q e a d
def ua(P:aJ)(n:Cx)(tb:n5)(q:Code)(k:Exit->Act->J->Prop):Prop:=∀h d,tb.pt h=some d->∀s j a,Ag n a s.E->Inv s j->d s->tE P n (gE P n q k h) a j
variable {c0:Code} {Q0:Exit->Act->J->Prop}
def yx(z:ua P n tb c0 Q0){d:List Bool}{c:Code}{Q:Exit->Act->J->Prop}(B:gE P n c0 Q0 d=(c,Q)){f:TS->Prop}{s:TS}{w:J}{a:Act}(A:Ag n a s.E)(k:Inv s w)(C:f s->gj P n c Q a w)(h:qY tb d f s):gj P n c Q a w:=by
 unfold qY at h;split at h
 .rename_i j y;obtain⟨q,x⟩:=k.fM h;have:=z d j y ⟨s.E,s.S,s.L,w,false⟩ w a A q x;rw[B]at this;exact this.wp
 grind
def Ue{c:Code}{K:TS->Prop}{Q:Exit->Act->J->Prop}{a:Act}{w:J}(h:gj P n c (h7 n K) a w)(k:∀s w a,Ag n a s.E->Inv s w->K s->Q .normal a w):gj P n c Q a w:=
 wpIn_mono h λe j q d=>by
  cases e with
  |normal=>obtain⟨s',hA,hI,hK⟩:=d;grind
  |_=>exact d.elim
def pj(y:ua P n tb c0 Q0):∀(c:Code) (j:List Bool) (K:KT) (Q:Exit->Act->J->Prop) (s:TS) (w:J) (a:Act),gE P n c0 Q0 j=(c,Q)->KQ n K Q->Ag n a s.E->Inv s w->i0 P n tb c j K s->gj P n c Q a w
 |.skip,j,K,Q,s,w,a,x,q,h,k,d=>wpIn_skip (q _ _ _ _ h k d)
 |.region id ops true,j,K,Q,s,w,a,x,q,h,k,d=>by
  unfold i0 at d;split at d
  .obtain ⟨D,F⟩:=ee d;exact Ue (aeR (c:=.region id ops true) D h k F) λs w a D F M=>q _ _ _ _ D F M
  grind
 |.region id ops false,j,K,Q,s,w,a,x,q,h,k,d=>by unfold i0 at d;obtain⟨D,F⟩:=ee d;exact Ue (aeS (c:=.region id ops false) D h k F) λs w a D F M=>q _ _ _ _ D F M
 |.seq z I,j,K,Q,s,w,a,x,q,h,k,d=>by
  unfold i0 at d;have H:gE P n c0 Q0 (false::j)=(z,Exit.then (gj P n I Q) Q):=by unfold gE;rw[x]
  have L:gE P n c0 Q0 (true::j)=(I,Q):=by unfold gE;rw[x]
  refine wpIn_seq (pj y z (false::j) _ _ s w a H (λe O S N G B A=>?_) h k d);cases e with
  |normal=>exact yx y L G B (λC=>pj y I (true::j) K Q O S N L q G B C) A
  |_=>exact q _ _ _ _ G B A
 |.cond o z I,j,K,Q,s,w,a,x,q,h,k,d=>by
  unfold i0 at d;have H:gE P n c0 Q0 (false::j)=(z,Q):=by unfold gE;rw[x]
  have L:gE P n c0 Q0 (true::j)=(I,Q):=by unfold gE;rw[x]
  unfold g9 at d;split at d
  .rename_i t T;refine wpIn_cond_split (h.val T) (λe=>?_) (λe=>?_)
   .subst e;exact yx y H h k (λC=>pj y z (false::j) K Q s w a H q h k C) d
   .subst e;exact yx y L h k (λC=>pj y I (true::j) K Q s w a L q h k C) d
  grind
 |.block id z,j,K,Q,s,w,a,x,q,h,k,d=>by
  unfold i0 at d;have H:gE P n c0 Q0 (false::j)=(z,Exit.inBlock id Q):=by unfold gE;rw[x]
  refine wpIn_block (pj y z (false::j) _ _ s w a H (λe O S N G B A=>?_) h k d);cases e with
  |exit U=>
   simp only[zL]at A;simp only[Exit.inBlock];split at A
   .rename_i e;rw[au e];exact q _ _ _ _ G B A
   .rename_i e;rw[ag e];exact q _ _ _ _ G B A
  |_=>exact q _ _ _ _ G B A
 |.loop z,j,K,Q,s,w,a,x,q,h,k,d=>by unfold i0 at d;exact yx y x h k (λC=>C.elim) d
 |.exit id,j,K,Q,s,w,a,x,q,h,k,d=>wpIn_exit (q _ _ _ _ h k d)
 |.ret,j,K,Q,s,w,a,x,q,h,k,d=>wpIn_ret (q _ _ _ _ h k d)
 |.rangeFunc ..,_,_,_,_,_,_,_,_,_,_,d=>d.elim
 |.scope _,_,_,_,_,_,_,_,_,_,_,d=>d.elim
 |.label _,_,_,_,_,_,_,_,_,_,_,d=>d.elim
 |.goto _,_,_,_,_,_,_,_,_,_,_,d=>d.elim
 |.refuse _,_,_,_,_,_,_,_,_,_,_,d=>d.elim
def AK(tb:n5)(d:List Bool)(K:KT):KT:=λe s=>match e with
 |.normal=>qY tb d (λ_=>False) s
 |e=>K e s
def pB(P:aJ)(n:Cx)(tb:n5)(c0:Code)(q:KT):List Bool->Code×KT
 |[]=>(c0,q)
 |b::k=>match pB P n tb c0 q k,b with
  |(.seq h j,d),false=>(h,UL tb (true::k) (i0 P n tb j (true::k) d) d)
  |(.seq _ j,d),true=>(j,d)
  |(.cond _ h _,d),false=>(h,d)
  |(.cond _ _ j,d),true=>(j,d)
  |(.block id h,d),_=>(h,zL id d)
  |(.loop h,d),_=>(h,AK tb k d)
  |(_,d),_=>(.skip,d)
def FF(A:ua P n tb c0 Q0){y:KT}(G:KQ n y Q0):∀h:List Bool,(pB P n tb c0 y h).1=(gE P n c0 Q0 h).1/\KQ n (pB P n tb c0 y h).2 (gE P n c0 Q0 h).2
 |[]=>⟨rfl,G⟩
 |b::h=>by
  obtain⟨z,q⟩:=FF A G h;unfold pB gE;generalize H:gE P n c0 Q0 h=p at z q;generalize pB P n tb c0 y h=k at z q;obtain⟨c,F⟩:=p;obtain⟨O,N⟩:=k;simp only at z q;subst z;cases O with
  |seq C D=>
   cases b with
   |false=>
    refine⟨rfl,λe s x a w j d=>?_⟩;cases e with
    |normal=>
     have I:gE P n c0 Q0 (true::h)=(D,F):=by unfold gE;rw[H]
     exact yx A I w j (λB=>pj A D (true::h) N F s x a I q w j B) d
    |_=>exact q _ _ _ _ w j d
   |true=>grind
  |cond o C D=>grind
  |block id C=>
   cases b<;>(
    refine⟨rfl,λe s x a w j d=>?_⟩;cases e with
    |exit T=>
     simp only[zL]at d;simp only[Exit.inBlock];split at d
     .rename_i e;rw[au e];exact q _ _ _ _ w j d
     .rename_i e;rw[ag e];exact q _ _ _ _ w j d
    |_=>exact q _ _ _ _ w j d)
  |loop C=>
   cases b<;>(
    refine⟨rfl,λe s x a w j d=>?_⟩;cases e with
    |normal=>
     simp only[AK,qY]at d;split at d
     .rename_i K Q;obtain⟨M,B⟩:=j.fM d;have:=A h K Q ⟨s.E,s.S,s.L,x,false⟩ x a w M B;rw[H]at this;exact this
     grind
    |_=>exact q _ _ _ _ w j d)
  |_=>cases b<;>exact⟨rfl,q⟩
def Ep(P:aJ)(n:Cx)(tb:n5)(c0:Code)(j:KT)(d:List Bool)(s:TS):Prop:=match pB P n tb c0 j d with
 |(.loop k,h)=>i0 P n tb k (false::d) (AK tb d h) s
 |(c,h)=>i0 P n tb c d h s
def Z3(y:ua P n tb c0 Q0){j:KT}(D:KQ n j Q0){d:List Bool}{s:TS}{w:J}{a:Act}(G:Ag n a s.E)(B:Inv s w)(h:Ep P n tb c0 j d s):tE P n (gE P n c0 Q0 d) a w:=by
 obtain⟨q,x⟩:=FF y D d;have F:=FF y D (false::d);unfold Ep at h;generalize H:gE P n c0 Q0 d=p at q x;generalize L:pB P n tb c0 j d=k at h q x;obtain⟨c,A⟩:=p;obtain⟨K,C⟩:=k;simp only at q x;subst q;cases K with
 |loop z=>
  have I:gE P n c0 Q0 (false::d)=(z,Exit.then (nc P n z A) A):=by unfold gE;rw[H]
  have M:pB P n tb c0 j (false::d)=(z,AK tb d C):=by unfold pB;rw[L]
  rw[I,M]at F;exact NL (pj y z (false::d) _ _ s w a I F.2 G B h)
 |_=>exact pj y _ d C A s w a H x G B h
end
section
variable {P:aJ}
def pQ(P:aJ)(s:TS):List ResultVar->(List aa->Prop)->Prop
 |[],d=>d []
 |.tmp t::l,d=>match s.E.get? t with
  |some v=>pQ P s l λh=>d (v::h)
  |none=>False
 |.cell k j::l,d=>match s.S.get? k with
  |some (i,q)=>match s.L[i]? with
   |some X=>FI P j X.2.1 q λv=>pQ P s l λh=>d (v::h)
   |none=>False
  |none=>match s.E.get? k with
   |some (.pointer (some p))=>nC P j p s.w λv _=>pQ P s l λh=>d (v::h)
   |_=>False
def vL(P:aJ)(fn:Func)(R:aK):KT:=λe s=>match e with
 |.normal|.ret=>fM s λs=>pQ P s fn.results.toList λd=>R (ae (G5 d)) s.w
 |_=>False
def Hy{n:Cx}{a:Act}{s:TS}{w:J}(x:Ag n a s.E)(q:Inv s w)(C:s.w=w):∀{l:List ResultVar} {K:List aa->Prop},pQ P s l K->
  ∃h,(l.mapM (q7 a.tmps)).run P w=.ok h w/\K h
 |[],K,d=>⟨[],ws,d⟩
 |.tmp t::l,K,d=>by
  unfold pQ at d;split at d
  .rename_i v k;obtain⟨h,B,j⟩:=Hy x q C d;refine⟨v::h,?_,j⟩;have z:=x.get t v k;simp[List.mapM_cons,q7,B,z]
  grind
 |.cell y D::l,K,d=>by
  have fin:∀(p:Addr) (v:aa),s.E.get? y=some (.pointer (some p))->(loadVar D p).run P w=.ok v w->(pQ P s l λh=>K (v::h))->∃h,((ResultVar.cell y D::l).mapM (q7 a.tmps)).run P w=.ok h w/\K h:=λp v A k d=>by obtain⟨h,B,j⟩:=Hy x q C d;refine⟨v::h,?_,j⟩;have z:=x.get y _ A;simp[List.mapM_cons,q7,B,z,asAddr,k]
  unfold pQ at d;split at d
  .rename_i i M L;obtain⟨X,F,G⟩:=q.sl y i M L;rw[F]at d;obtain⟨v,j,k⟩:=Np (b:=X.1) (ty:=X.2.2) d;exact fin _ v G (k w (q.lc.own i X F)) j
  .split at d
   .rename_i p A;rw[C]at d;obtain⟨v,N,d,H,I⟩:=FK d;exact fin p v A (I w H) d
   grind
def Ui{m:Nat}{fn:Func}{R:aK}:KQ (cx m) (vL P fn R) (bodyPost P fn R):=by
 intro e s j a k q d;have go:(fM s λs=>pQ P s fn.results.toList λh=>R (ae (G5 h)) s.w)->a.defers=[]/\∃v,(results fn a.tmps).run P j=.ok v j/\R (ae v) j:=λd=>by
  obtain⟨x,y⟩:=q.fM d;obtain⟨h,A,z⟩:=Hy (s:=⟨s.E,s.S,s.L,j,false⟩) k x rfl y;refine⟨k.defers,_,?_,z⟩;rw[Uh,<-Array.toArray_toList (xs:=fn.results),List.mapM_toArray];simp only[Sem.run_bind,Sem.run_map,A,Result.andThen_ok,Sem.run_pure];congr 1;cases h with
  |nil=>rfl
  |cons v h=>cases h<;>rfl
 unfold vL at d;cases e with
 |normal=>exact go d
 |ret=>exact go d
 |_=>exact d.elim
def ZP{f:cR}{fn:Func}{c:Code}{args:List aa}{w:J}{R:aK}{d:n5}(x:P.funcs[f]? =some fn)(q:fn.body=some c)(y:Nat.ble args.length fn.ntmps=true)(j:ua P (cx fn.ntmps) d c (bodyPost P fn R))(h:i0 P (cx fn.ntmps) d c [] (vL P fn R) ⟨kV 0 args,[],[],w,false⟩):ai P f args.toArray w R:=
 xc x q y λa k=>pj j c [] _ _ _ w a rfl Ui k ⟨LC.nil _,ws,λt i z h=>by cases h⟩ h
end
inductive Sh
 |i (k:ix)|b|st|s|p|r|m|v|f
abbrev Sh.T:Sh->Type
 |.i _=>Int
 |.b=>Bool
 |.st=>ByteArray
 |.s=>Sl
 |.p=>Option Addr
 |.r=>Addr
 |.m=>Option Nat
 |.v=>aa
 |.f=>Fv
def Sh.val:(h:Sh)->h.T->aa
 |.i j,d=>.int j d
 |.b,d=>.bool d
 |.st,d=>.string d
 |.s,d=>Sl.v d
 |.p,d=>.pointer d
 |.r,d=>.pointer (some d)
 |.m,d=>.map d
 |.v,d=>d
 |.f,d=>Fv.v d
def Sh.rd(h:Sh)(v:aa)(K:h.T->Prop):Prop:=match h,v,K with
 |.i q,.int w d,K=>cS (w==q) (K d)
 |.b,.bool d,K=>K d
 |.st,.string d,K=>K d
 |.s,.slice a n c,K=>K ⟨a,n,c⟩
 |.p,.pointer d,K=>K d
 |.r,.pointer (some d),K=>K d
 |.m,.map d,K=>K d
 |.v,d,K=>K d
 |.f,.func (.func n) j k,K=>K ⟨n,j,k⟩
 |_,_,_=>False
def Sh.aeO{h:Sh}{v:aa}{K:h.T->Prop}(d:h.rd v K):∃j,v=h.val j/\K j:=by
 unfold Sh.rd at d;split at d<;>first |exact d.elim|skip
 .obtain ⟨k,q⟩:=ee d;have:=eq_of_beq k;subst this;exact⟨_,rfl,q⟩
 all_goals exact⟨_,rfl,d⟩
inductive Tk
 |o (h:Sh)|a (k:Nat)|t (k:Nat)|g (n j k:Nat)
abbrev Tk.I:Tk:=.o (.i .i64)
abbrev Tk.U:Tk:=.o (.i .u64)
abbrev Tk.Y:Tk:=.o (.i .u8)
abbrev Tk.i(k:ix):Tk:=.o (.i k)
abbrev Tk.b:Tk:=.o .b
abbrev Tk.st:Tk:=.o .st
abbrev Tk.s:Tk:=.o .s
abbrev Tk.p:Tk:=.o .p
abbrev Tk.r:Tk:=.o .r
abbrev Tk.m:Tk:=.o .m
abbrev Tk.v:Tk:=.o .v
abbrev Tk.f:Tk:=.o .f
abbrev mw:List Tk->Type->Type
 |[],X=>X
 |.o d::l,X=>d.T->mw l X
 |.a _::l,X=>mw l X
 |.t _::l,X=>mw l X
 |.g _ _ _::l,X=>mw l X
inductive Sp
 |v (l:List Tk)
 |l (l:List Tk) (T:aE)
abbrev Sp.I:Sp:=.v [.I]
abbrev Sp.U:Sp:=.v [.U]
abbrev Sp.Y:Sp:=.v [.Y]
abbrev Sp.b:Sp:=.v [.b]
abbrev Sp.st:Sp:=.v [.st]
abbrev Sp.s:Sp:=.v [.s]
abbrev Sp.p:Sp:=.v [.p]
abbrev Sp.r:Sp:=.v [.r]
abbrev Sp.m:Sp:=.v [.m]
abbrev Sp.f:Sp:=.v [.f]
abbrev g6:List (Nat×Sp)->Type
 |[]=>J->aK->Prop
 |(_,.v d)::l=>mw d (g6 l)
 |(_,.l d _)::l=>Nat->mw d (g6 l)
def oM:(O:List Tk)->(X:Type)->List aa->mw O X->(X->Prop)->Prop
 |[],_,[],d,h=>h d
 |.o x::O,X,v::j,d,h=>x.rd v λz=>oM O X j (d z) h
 |.a k::O,X,.agg a::j,d,h=>cS (cm a.toList.length k) (oM O X (a.toList++j) d h)
 |.t k::O,X,.tuple a::j,d,h=>cS (cm a.toList.length k) (oM O X (a.toList++j) d h)
 |.g n y k::O,X,.func (.func m) q w::j,d,h=>cS (cm n m&&cm q.toList.length y&&cm w.toList.length k) (oM O X (q.toList++(w.toList++j)) d h)
 |_,_,_,_,_=>False
def pC:(O:List Tk)->(X:Type)->(List aa->X)->mw O X
 |[],_,h=>h []
 |.o q::O,X,h=>λw=>pC O X λd=>h (q.val w::d)
 |.a j::O,X,h=>pC O X λd=>h (.agg (d.take j).toArray::d.drop j)
 |.t j::O,X,h=>pC O X λd=>h (.tuple (d.take j).toArray::d.drop j)
 |.g n k j::O,X,h=>pC O X λd=>h (.func (.func n) (d.take k).toArray ((d.drop k).take j).toArray::(d.drop k).drop j)
def TN:∀{O:List Tk} {X:Type} {vs:List aa} {K:List aa->X} {k:X->Prop},oM O X vs (pC O X K) k->k (K vs):=by
 intro O;induction O with
 |nil=>
  intro X vs K k d;cases vs with
  |nil=>exact d
  |cons _ _=>exact d.elim
 |cons t O w=>
  intro X vs K k d;cases t with
  |o D=>
   cases vs with
   |nil=>exact d.elim
   |cons v vs=>
    obtain⟨G,rfl,E⟩:=Sh.aeO d;exact w (K:=λvs=>K (D.val G::vs)) E
  |a h=>
   cases vs with
   |nil=>exact d.elim
   |cons v vs=>
    cases v with
    |agg a=>
     obtain⟨j,q⟩:=ee (show cS (cm a.toList.length h) (oM O X (a.toList++vs) _ k)from d);rw[eS]at j;have:=w (K:=λvs=>K (.agg (vs.take h).toArray::vs.drop h)) q;rw[List.take_left' j,List.drop_left' j]at this;omega
    |_=>exact d.elim
  |t h=>
   cases vs with
   |nil=>exact d.elim
   |cons v vs=>
    cases v with
    |tuple a=>
     obtain⟨j,q⟩:=ee (show cS (cm a.toList.length h) (oM O X (a.toList++vs) _ k)from d);rw[eS]at j;have:=w (K:=λvs=>K (.tuple (vs.take h).toArray::vs.drop h)) q;rw[List.take_left' j,List.drop_left' j]at this;omega
    |_=>exact d.elim
  |g n x h=>
   cases vs with
   |nil=>exact d.elim
   |cons v vs=>
    cases v with
    |func C y z=>
     cases C with
     |func m=>
      obtain⟨j,q⟩:=ee (show cS (cm n m&&cm y.toList.length x&&cm z.toList.length h) (oM O X (y.toList++(z.toList++vs)) _ k)from d);rw[bH,bH,eS,eS,eS]at j;obtain⟨⟨F,A⟩,B⟩:=j;have:=w (K:=λvs=>K (.func (.func n) (vs.take x).toArray ((vs.drop x).take h).toArray::(vs.drop x).drop h)) q;rw[List.take_left' A,List.drop_left' A,List.take_left' B,List.drop_left' B,F]at this;omega
     |_=>exact d.elim
    |_=>exact d.elim
def jB:(l:List (Nat×Sp))->Nat->(Env->Sv->Lv->J->aK->Prop)->g6 l
 |[],_,d=>d [] [] []
 |(t,.v q)::l,n,d=>pC q (g6 l) λw=>jB l n λh k j=>d ((t,w.headD undef)::h) k j
 |(t,.l q x)::l,n,d=>λb=>pC q (g6 l) λw=>jB l (n+1) λh k j=>d ((t,.pointer (some (ab b)))::h) ((t,some (n,0))::k) ((b,w,x)::j)
def q2:(l:List (Nat×Sp))->g6 l->TS->List Nat->J->aK->Prop
 |[],d,_,_,j,h=>d j h
 |(t,.v q)::l,d,s,is,j,h=>match s.E.get? t with
  |some v=>oM q (g6 l) [v] d λk=>q2 l k s is j h
  |none=>False
 |(t,.l q w)::l,d,s,is,j,h=>match s.S.get? t with
  |some (i,0)=>match s.L[i]? with
   |some X=>cS (cm X.2.2 w&&!is.any (cm i)) (oM q (g6 l) X.2.1 (d X.1) λk=>q2 l k s (i::is) j h)
   |none=>False
  |_=>False
def Mo{E E':Env}{t:Nat}{v:aa}(w:E'.get? t=some v)(h:∀t v,E.get? t=some v->E'.get? t=some v):∀d j,Env.get? ((t,v)::E) d=some j->E'.get? d=some j:=λd j q=>by
 simp only[Env.get?]at q;cases k:cm t d with
 |true=>
  rw[k,cond_true]at q;rw[eS]at k
  grind
 |false=>
  grind
structure Dk(s:TS)(n:Nat)(is js:List Nat)(E:Env)(S:Sv):Prop where
 sub:∀t v,E.get? t=some v->s.E.get? t=some v
 nd:js.Nodup
 dj:∀j∈js,j∉is
 lt:∀j∈js,∃X,s.L[j]? =some X
 sl:∀t i k,S.get? t=some (i,k)->n<=i/\∃j,js[i - n]? =some j/\s.S.get? t=some (j,k)/\∃v,E.get? t=some v
def aeH{s:TS}{w:J}(S:Inv s w){R:aK}:∀{l:List (Nat×Sp)} {n:Nat} {K:Env->Sv->Lv->J->aK->Prop} {is:List Nat},q2 l (jB l n K) s is w R->
  ∃j k z,Dk s n is z j k/\K j k (z.filterMap λq=>(s.L[q]? :Option (Nat×List aa×aE))) w R:=by
 intro l;induction l with
 |nil=>
  intro n K is d;exact⟨[],[],[],⟨λt v d=>by(simp[Env.get?]at d),.nil,λ_ d=>by grind,λ_ d=>by grind,λt i D d=>by(cases d)⟩,d⟩
 |cons p l P=>
  intro n K is d;obtain⟨t,sp⟩:=p;cases sp with
  |v ts=>
   unfold q2 at d;split at d
   .rename_i v hv;have G:=TN (K:=λI=>jB l n λj k F=>K ((t,I.headD undef)::j) k F) d;obtain⟨j,k,z,h,O⟩:=P G;refine⟨(t,v)::j,k,z,⟨Mo hv h.sub,h.nd,h.dj,h.lt,λE i D y=>?_⟩,O⟩;obtain⟨C,q,H,Y,Q,h4⟩:=h.sl E i D y;refine⟨C,q,H,Y,?_⟩;simp only[Env.get?]
    grind
   grind
  |l ts T=>
   unfold q2 at d;split at d
   .rename_i i N;split at d
    .rename_i X Z;obtain⟨C,H⟩:=ee d;rw[bH,eS,Bool.not_eq_true',List.any_eq_false]at C;have G:=TN (K:=λI=>jB l (n+1) λj k F=>K ((t,.pointer (some (ab X.1)))::j) ((t,some (n,0))::k) ((X.1,I,T)::F)) H;obtain⟨j,k,z,h,O⟩:=P G;obtain⟨X',M,hp⟩:=S.sl t i 0 N;rw[Z]at M;cases M;refine⟨(t,.pointer (some (ab X.1)))::j,(t,some (n,0))::k,i::z,⟨Mo ?_ h.sub,List.nodup_cons.2 ⟨λB=>h.dj i B ws,h.nd⟩,λq x=>?_,λq x=>?_,λE i' D y=>?_⟩,?_⟩
     .rw [hp,jq]
     .rcases aq.1 x with rfl|x
      .intro B;have:=C.2 q B;simp at this
      .exact λB=>h.dj q x (e6 _ B)
     .rcases aq.1 x with rfl|x
      .grind
      .exact h.lt q x
     .simp only[Sv.get?]at y;cases A:cm t E with
      |true=>
       rw[A,cond_true]at y;rw[eS]at A;subst A;cases y;refine⟨Nat.le_refl _,i,ws,N,.pointer (some (ab X.1)),?_⟩;simp[Env.get?]
      |false=>
       rw[A,cond_false]at y;obtain⟨g1,q,g2,U,Q,W⟩:=h.sl E i' D y;refine⟨co,q,?_,U,Q,?_⟩
       .grind
       .simp only[Env.get?,A,cond_false];exact W
     grind
    grind
   grind
def Dk.inv{s:TS}{w:J}(k:Inv s w){d:List Nat}{E:Env}{S:Sv}(h:Dk s 0 [] d E S):Inv ⟨E,S,d.filterMap λj=>(s.L[j]? :Option (Nat×List aa×aE)),w,false⟩ w:=by
 refine⟨k.lc.pick d h.nd,ws,λt i x B=>?_⟩;obtain⟨-,j,D,y,v,q⟩:=h.sl t i x B;obtain⟨X,F,A⟩:=k.sl t j x y;have:=h.sub t v q;rw[A]at this;cases this;refine⟨X,?_,q⟩;have all:∀(d:List Nat) (i:Nat),(∀j∈d,∃X,s.L[j]? =some X)->d[i]? =some j->(d.filterMap λj=>(s.L[j]? :Option (Nat×List aa×aE)))[i]? =some X:=by
  intro d;induction d with
  |nil=>grind
  |cons a d I=>
   intro i z H;obtain⟨C,G⟩:=z a ws
   grind
 exact all d i h.lt co
def rE:(O:List Tk)->(X:Type)->(X->X->Prop)->mw O X->mw O X->Prop
 |[],_,r,d,h=>r d h
 |.o k::O,X,r,d,h=>∀j:k.T,rE O X r (d j) (h j)
 |.a _::O,X,r,d,h=>rE O X r d h
 |.t _::O,X,r,d,h=>rE O X r d h
 |.g _ _ _::O,X,r,d,h=>rE O X r d h
def wD:(l:List (Nat×Sp))->g6 l->g6 l->Prop
 |[],d,h=>∀(w:J) (R:aK),d w R->h w R
 |(_,.v j)::l,d,h=>rE j (g6 l) (wD l) d h
 |(_,.l j _)::l,d,h=>∀b:Nat,rE j (g6 l) (wD l) (d b) (h b)
def MG:∀{O:List Tk} {X:Type} {r:X->X->Prop} {j k:List aa->X},(∀h,r (j h) (k h))->rE O X r (pC O X j) (pC O X k):=by
 intro O;induction O with
 |nil=>intro X r j k d;exact d []
 |cons t O q=>
  intro X r j k d;cases t with
  |o y=>intro x;exact q λh=>d _
  |a w=>exact q λh=>d _
  |t w=>exact q λh=>d _
  |g n z w=>exact q λh=>d _
def abE:∀{l:List (Nat×Sp)} {n:Nat} {k q:Env->Sv->Lv->J->aK->Prop},(∀j x w h d,k j x w h d->q j x w h d)->wD l (jB l n k) (jB l n q):=by
 intro l;induction l with
 |nil=>intro n k q y h d;exact y _ _ _ h d
 |cons p l z=>
  intro n k q y;obtain⟨t,A⟩:=p;cases A with
  |v B=>exact MG λC=>z λj x w h d=>y _ _ _ h d
  |l B D=>intro b;exact MG λC=>z λj x w h d=>y _ _ _ h d
structure Fx where
 P:aJ
 fn:Func
 ord:List (Nat×Tr)
 lv:List Nat
def Fx.c(X:Fx):Code:=X.fn.body.getD .skip
def Fx.n(X:Fx):Cx:=cx X.fn.ntmps
def FT:List (Nat×Tr)->Nat->Option Tr
 |[],_=>none
 |(i,l)::o,d=>bif cm i d then some l else FT o d
def Fx.at(X:Fx)(d:List Bool)(R:aK)(a:Act)(w:J):Prop:=tE X.P X.n (gE X.P X.n X.c (bodyPost X.P X.fn R) d) a w
def Fx.Sem(X:Fx)(d:List Bool)(E:Env)(S:Sv)(L:Lv)(w:J)(R:aK):Prop:=∀a,Ag X.n a E->Inv ⟨E,S,L,w,false⟩ w->X.at d R a w
structure gM(X:Fx) where
 q:List Bool
 sp:List (Nat×Sp)
 F:g6 sp
 ok:∀(R:aK) (s:TS) (w:J) (a:Act),Ag X.n a s.E->Inv s w->q2 sp F s [] w R->X.at q R a w
def uj:List Bool->List Bool->Bool
 |[],[]=>true
 |a::l,b::m=>(match a,b with |true,true=>true|false,false=>true|_,_=>false)&&uj l m
 |_,_=>false
def Jt:∀{l m:List Bool},uj l m=true->l=m
 |[],[],_=>rfl
 |a::l,b::m,d=>by
  unfold uj at d;rw[bH]at d;rw[Jt d.2]
  grind
 |[],_::_,d=>by cases d
 |_::_,[],d=>by cases d
def AI{X:Fx}(R:aK):List (gM X)->List Bool->Option (TS->Prop)
 |[],_=>none
 |e::j,h=>bif uj e.q h then some λs=>match s.d with
  |true=>False
  |false=>q2 e.sp e.F s [] s.w R else AI R j h
def Fx.B3(X:Fx)(es:List (gM X))(R:aK):n5:=⟨FT X.ord,AI R es,X.lv⟩
def Fx.V6{X:Fx}{es:List (gM X)}{R:aK}:ua X.P X.n (X.B3 es R) X.c (bodyPost X.P X.fn R):=by
 intro A C x s B a D k j;have h:AI R es A=some C:=x;clear x;induction es with
 |nil=>cases h
 |cons e es G=>
  unfold AI at h;cases y:uj e.q A with
  |true=>
   rw[y,cond_true]at h;cases h;have:=Jt y;subst this;cases z:s.d with
   |true=>grind
   |false=>
    rw[z]at j;have E:=k.rel;rw[z]at E;have F:B=s.w:=by grind
    rw[<-F]at j;exact e.ok R s B a D k j
  |false=>
   grind
def Fx.wv(X:Fx)(es:List (gM X))(d:List Bool)(E:Env)(S:Sv)(L:Lv)(w:J)(R:aK):Prop:=Ep X.P X.n (X.B3 es R) X.c (vL X.P X.fn R) d ⟨E,S,L,w,false⟩
def Fx.Kw{X:Fx}{es:List (gM X)}{d:List Bool}{E:Env}{S:Sv}{L:Lv}{w:J}{R:aK}(h:X.wv es d E S L w R):X.Sem d E S L w R:=λa k j=>Z3 (s:=⟨E,S,L,w,false⟩) (Fx.V6 (es:=es)) Ui k j h
def KW{X:Fx}{z:List Bool}{A:List (Nat×Sp)}{K:Env->Sv->Lv->J->aK->Prop}(C:∀d j x w R,K d j x w R->X.Sem z d j x w R)(R:aK)(s:TS)(w:J)(a:Act)(k:Ag X.n a s.E)(q:Inv s w)(h:q2 A (jB A 0 K) s [] w R):X.at z R a w:=by obtain⟨d,j,F,y,B⟩:=aeH q h;exact C _ _ _ _ _ B a ⟨k.defers,k.size,λt v D=>k.get t v (y.sub t v D)⟩ (y.inv q)
def aav(X:Fx)(j:List Bool)(h:List (Nat×Sp))(F:g6 h)(e:F=jB h 0 (X.Sem j):=by kernel_rfl):gM X:=⟨j,h,F,λq s x a w k d=>by subst e;exact KW (λ_ _ _ _ _ d=>d) q s x a w k d⟩
def aaw(X:Fx)(es:List (gM X))(j:List Bool)(h:List (Nat×Sp))(F:g6 h)(e:F=jB h 0 (X.wv es j):=by kernel_rfl):gM X:=⟨j,h,F,λq s x a w k d=>by subst e;exact KW (λ_ _ _ _ _ d=>Fx.Kw d) q s x a w k d⟩
def af4{X:Fx}(es:List (gM X))(h:List Bool)(d:List (Nat×Sp)):wD d (jB d 0 (X.wv es h)) (jB d 0 (X.Sem h)):=abE λ_ _ _ _ _ j=>Fx.Kw j
def ZM(X:Fx)(es:List (gM X)){f:cR}{args:List aa}{w:J}{R:aK}{T:Prop}(h:T)(j:X.P.funcs[f]? =some X.fn:=by kernel_rfl)(d:X.fn.body=some X.c:=by kernel_rfl)(k:Nat.ble args.length X.fn.ntmps=true:=by kernel_rfl)(e:T=i0 X.P X.n (X.B3 es R) X.c [] (vL X.P X.fn R) ⟨kV 0 args,[],[],w,false⟩:=by kernel_rfl):ai X.P f args.toArray w R:=
 ZP j d k Fx.V6 (e▸h)
def SW:Bool->List Nat->List Bool
 |_,[]=>[]
 |b,n::l=>List.replicate n b++SW (!b) l
abbrev oK(l:List Nat):List Bool:=SW true l
abbrev Ps:=List (Nat×Sp)
abbrev ls(l:List Nat):Tr:=Tr.sq l .nil
abbrev lr(n:Nat):Tr:=ls (List.range n)
set_option maxRecDepth 100000
open Go
inductive Oc:Type 1
 |leaf (p:Prop)
 |ex (α:Type) (K:α->Oc)
 |and (p:Prop) (K:Oc)
 |at (b:Bool) (K:Oc)
 |bA (t:Bool) (a b:Oc)
 |nw (U:List Nat) (w:J) (K:Nat->J->Oc)
 |al (w:J) (o:Obj) (K:J->Oc)
 |st (w:J) (p:Addr) (v:aa) (K:J->Oc)
 |lc (U:List Nat) (w:J) (K:J->Oc)
 |dr (w:J) (K:J->Oc)
 |cf (U:List Nat) (P:aJ) (f:cR) (xs:Array aa) (w:J) (K:bW->J->Oc)
 |ca (P:aJ) (f:cR) (xs:Array aa) (w:J) (K:bW->J->Oc)
 |op (q:Option Addr) (K:Addr->Oc)
 |or (a b:Oc)
 |cj (a b:Oc)
 |all (α:Type) (K:α->Oc)
 |im (K:Oc) (p:Prop)
inductive Nf:Oc->Prop->Prop
 |leaf {p}:Nf (.leaf p) p
 |ex {α K} {Q:α->Prop} (h:∀x,Nf (K x) (Q x)):Nf (.ex α K) (∃x,Q x)
 |and {p K Q} (h:Nf K Q):Nf (.and p K) (p/\Q)
 |at {b K Q} (h:Nf K Q):Nf (.at b K) (cS b Q)
 |bA {t a b A B} (h1:Nf a A) (h2:Nf b B):Nf (.bA t a b) (bA t A B)
 |nw {U w K} {Q:Nat->J->Prop} (h:∀b w1,Nf (K b w1) (Q b w1)):Nf (.nw U w K) (yk U w λb w1=>Q b w1)
 |al {w o K} {Q:J->Prop} (h:∀w1,Nf (K w1) (Q w1)):Nf (.al w o K) (dG w o λw1=>Q w1)
 |st {w p v K} {Q:J->Prop} (h:∀w1,Nf (K w1) (Q w1)):Nf (.st w p v K) (aS w p v λw1=>Q w1)
 |lc {U w K} {Q:J->Prop} (h:∀w1,Nf (K w1) (Q w1)):Nf (.lc U w K) (loc U w λw1=>Q w1)
 |dr {w K} {Q:J->Prop} (h:∀w1,Nf (K w1) (Q w1)):Nf (.dr w K) (mF w λw1=>Q w1)
 |cf {U P f xs w K} {Q:bW->J->Prop} (h:∀r w1,Nf (K r w1) (Q r w1)):Nf (.cf U P f xs w K) (ep U P f xs w λr w1=>Q r w1)
 |ca {P f xs w K} {Q:bW->J->Prop} (h:∀r w1,Nf (K r w1) (Q r w1)):Nf (.ca P f xs w K) (ai P f xs w λr w1=>Q r w1)
 |op {q K} {Q:Addr->Prop} (h:∀p,Nf (K p) (Q p)):Nf (.op q K) (eh q λp=>Q p)
 |or {a b A B} (h1:Nf a A) (h2:Nf b B):Nf (.or a b) (A\/B)
 |cj {a b A B} (h1:Nf a A) (h2:Nf b B):Nf (.cj a b) (A/\B)
 |all {α K} {Q:α->Prop} (h:∀x,Nf (K x) (Q x)):Nf (.all α K) (∀{x},Q x)
 |im {K Q p} (h:Nf K Q):Nf (.im K p) (Q->p)
inductive DV
 |i (k:ix) (x:Int)|kb (x:Bool)|b (x:Bool)|st (x:ByteArray)|sl (s:Sl)|s3 (a:Option Addr) (n c:Nat)
 |p (x:Option Addr)|r (x:Addr) (l:Option (Nat×Nat))|m (x:Option Nat)|v (x:aa)|f (x:Fv)
 |a (l:List DV)|t (l:List DV)|g (n:cR) (U cs:List DV)|nf|ni|fc (t:aE) (x:DV)|u
mutual
def DV.o:DV->(aa->Oc)->Oc
 |.i y h,d=>d (.int y h)
 |.kb h,d=>d (.bool h)
 |.b h,d=>d (.bool h)
 |.st h,d=>d (.string h)
 |.sl s,d=>d s.v
 |.s3 h w x,d=>d (.slice h w x)
 |.p h,d=>d (.pointer h)
 |.r h _,d=>d (.pointer (some h))
 |.m h,d=>d (.map h)
 |.v h,d=>d h
 |.f h,d=>d h.v
 |.a l,d=>DV.os l λq=>d (.agg q.toArray)
 |.t l,d=>DV.os l λq=>d (.tuple q.toArray)
 |.g n j k,d=>DV.os j λj=>DV.os k λk=>d (.func (.func n) j.toArray k.toArray)
 |.nf,d=>d .nilFunc
 |.ni,d=>d .nilIface
 |.fc w h,d=>DV.o h λx=>d (.iface w x)
 |.u,d=>d undef
def DV.os:List DV->(List aa->Oc)->Oc
 |[],d=>d []
 |j::l,d=>DV.o j λv=>DV.os l λh=>d (v::h)
end
def vk:List aa->(List DV->Oc)->Oc
 |[],d=>d []
 |v::l,d=>vk l λj=>d ((match v with
  |.int k h=>.i k h
  |.bool true=>.kb true
  |.bool false=>.kb false
  |.string s=>.st s
  |.slice a n c=>.s3 a n c
  |.pointer (some p)=>.r p none
  |.pointer none=>.p none
  |.map h=>.m h
  |.nilFunc=>.nf
  |.nilIface=>.ni
  |v=>.v v)::j)
def A9(v:aa)(K:DV->Oc):Oc:=match v with
 |.agg d=>vk d.toList λl=>K (.a l)
 |.tuple d=>vk d.toList λl=>K (.t l)
 |.func (.func n) j d=>vk j.toList λj=>vk d.toList λd=>K (.g n j d)
 |.iface t h=>vk [h] λl=>K (.fc t (l.headD .u))
 |.int k h=>K (.i k h)
 |.bool true=>K (.kb true)
 |.bool false=>K (.kb false)
 |.string s=>K (.st s)
 |.slice a n c=>K (.s3 a n c)
 |.pointer (some p)=>K (.r p none)
 |.pointer none=>K (.p none)
 |.map h=>K (.m h)
 |.nilFunc=>K .nf
 |.nilIface=>K .ni
 |v=>K (.v v)
inductive Fc
 |c (p:Addr) (v:aa)|r (s:Sem aa) (v:aa)|n
abbrev DE:=List (Nat×DV)
abbrev DL:=List (Nat×List DV×aE)
abbrev DH:=List (Nat×Option Nat×Fc)
def uq:DL->(List Nat->Oc)->Oc
 |[],d=>d []
 |(b,_,_)::h,d=>uq h λj=>d (b::j)
def hP(d:Bool)(L:DL)(w:J)(K:J->Oc):Oc:=match d with
 |true=>uq L λh=>.lc h w K
 |false=>K w
def getD:DE->Nat->(DV->Oc)->Oc
 |[],_,_=>.leaf False
 |(j,v)::h,t,d=>match cm j t with
  |true=>d v
  |false=>getD h t d
def jT{α:Type}:List α->Nat->Option α
 |[],_=>none
 |a::l,n=>match cm n 0 with
  |true=>some a
  |false=>jT l (n - 1)
def UO{α:Type}:List α->Nat->α->List α
 |[],_,_=>[]
 |a::l,n,d=>match cm n 0 with
  |true=>d::l
  |false=>a::UO l (n - 1) d
def Bn(t:Option Nat)(v:DV)(E:DE)(K:DE->Oc):Oc:=match t with
 |some t=>K ((t,v)::E)
 |none=>K E
def NV:List Nat->Nat->Bool
 |[],_=>false
 |a::l,n=>match cm a n with
  |true=>true
  |false=>NV l n
def M1(d:List Nat):Option Nat->Bool
 |some t=>NV d t
 |none=>false
def ea(E:DE):Operand->(DV->Oc)->Oc
 |.tmp t,d=>getD E t d
 |.const v,d=>A9 v d
 |.func f,d=>d (.g f [] [])
 |.global g,d=>d (.r ⟨g,0,none⟩ none)
def qa(E:DE):List Operand->(List DV->Oc)->Oc
 |[],d=>d []
 |j::l,d=>ea E j λv=>qa E l λh=>d (v::h)
def ER(z:aa)(K:DV->Oc):Oc:=match z with
 |.int h _=>.ex Int λd=>K (.i h d)
 |.bool _=>.ex Bool λd=>K (.b d)
 |.string _=>.ex ByteArray λd=>K (.st d)
 |.slice _ _ _=>.ex Sl λd=>K (.sl d)
 |.pointer _=>.ex (Option Addr) λd=>K (.p d)
 |.map _=>.ex (Option Nat) λd=>K (.m d)
 |_=>.ex aa λd=>K (.v d)
def EP:List aa->(List DV->Oc)->Oc
 |[],d=>d []
 |j::k,d=>ER j λv=>EP k λh=>d (v::h)
def LM(z:aa)(K:DV->Oc):Oc:=match z with
 |.agg d=>EP d.toList λl=>K (.a l)
 |z=>ER z K
def LQ:List aa->(List DV->Oc)->Oc
 |[],d=>d []
 |j::k,d=>LM j λv=>LQ k λh=>d (v::h)
def xP(z:aa)(K:DV->Oc):Oc:=match z with
 |.tuple d=>LQ d.toList λl=>K (.t l)
 |z=>LM z K
def RF:List Nat:=[0,1,2,3,4,5,6,7,8,9,10,11,12,13,14,15,16,17,18,19,20,21,22,23,24,25,26,27,28,29,30,31,32,33,34,35,36,37,38,39,40,41,42,43,44,45,46,47,48,49,50,51,52,53,54,55,56,57,58,59,60,61,62,63]
def LX(p:Addr):List Nat->List DV->(List Fc->Oc)->Oc
 |n::h,v::j,d=>DV.o v λk=>LX p h j λl=>d (.c (p.add n) k::l)
 |_,_,d=>d []
def BJ(P:aJ)(w:J)(K:Oc):List Fc->Oc
 |[]=>K
 |.c p v::l=>.and (w.cell? p=some v) (BJ P w K l)
 |.r s v::l=>.and (s.run P w=.ok v w) (BJ P w K l)
 |.n::l=>BJ P w K l
def NI(P:aJ)(T:aE)(p:Addr)(w:J)(K:DV->List Fc->Oc):Oc:=match P.info? T with
 |some ⟨_,_,_,_,_,_,_,some h,_,_⟩=>match h with
  |.agg x=>EP x.toList λk=>LX p RF k λq=>BJ P w (K (.a k) q) q
  |.nilFunc=>.ex Fv λf=>.and (w.cell? p=some f.v) (K (.f f) [.c p f.v])
  |.nilIface=>.or (.ex aE λt=>.ex aa λd=>.and (w.cell? p=some (.iface t d)) (K (.v (.iface t d)) [.c p (.iface t d)])) (.and (w.cell? p=some .nilIface) (K (.v .nilIface) [.c p .nilIface]))
  |h=>ER h λj=>DV.o j λv=>.and (w.cell? p=some v) (K j [.c p v])
 |_=>.leaf False
def m5{α:Type}:List α->Nat->Nat->List α
 |[],_,_=>[]
 |a::l,d,n=>match cm d 0 with
  |true=>match cm n 0 with
   |true=>[]
   |false=>a::m5 l 0 (n - 1)
  |false=>m5 l (d - 1) n
def Be:List DV->Nat->List DV->List DV
 |l,_,[]=>l
 |[],_,_=>[]
 |a::l,d,x::h=>match cm d 0 with
  |true=>x::Be l 0 h
  |false=>a::Be l (d - 1) (x::h)
def DV.cs:DV->List DV
 |.a l=>l
 |d=>[d]
def NJ(P:aJ)(T:aE)(cs:List DV)(j:Nat)(K:DV->Oc):Oc:=match P.info? T with
 |some ⟨_,_,n,_,_,_,_,some d,_,_⟩=>match d with
  |.agg _=>K (.a (m5 cs j n))
  |_=>match jT cs j with
   |some v=>K v
   |none=>.leaf False
 |_=>.leaf False
def ml(P:aJ)(T:aE):TypeDesc:=match P.info? T with
 |some ⟨.named _ u,_,_,_,_,_,_,_,_,_⟩=>(match P.info? u with
  |some ⟨d,_,_,_,_,_,_,_,_,_⟩=>d
  |none=>.invalid)
 |some ⟨d,_,_,_,_,_,_,_,_,_⟩=>d
 |none=>.invalid
def vT(P:aJ)(T:aE)(K:Nat->Oc):Oc:=match P.info? T with
 |some ⟨_,_,n,_,_,_,_,_,_,_⟩=>K n
 |none=>.leaf False
def Cy(P:aJ)(T:aE)(K:aa->Oc):Oc:=match P.info? T with
 |some ⟨_,_,_,_,_,_,_,some d,_,_⟩=>K d
 |_=>.leaf False
def L7(P:aJ)(T:aE)(f:Nat)(K:aE->Nat->Oc):Oc:=match ml P T with
 |.struct d=>match jT d.toList f with
  |some ⟨_,t,off,_,_,_,_⟩=>K t off
  |none=>.leaf False
 |_=>.leaf False
def DV.ri:DV->(Int->Oc)->Oc
 |.i _ h,d=>d h
 |_,_=>.leaf False
def np(E:DE)(x:Option Operand)(y d:Nat)(K:Nat->Oc):Oc:=match x with
 |none=>K d
 |some o=>ea E o λv=>v.ri λi=>.and (0<=i) (.and (i<=(y:Int)) (K i.toNat))
def vM(P:aJ)(s:Sem aa)(z:aa)(w:J)(K:DV->List Fc->Oc):Oc:=match z with
 |.nilFunc=>.ex Fv λf=>.and (s.run P w=.ok f.v w) (K (.f f) [.r s f.v])
 |z=>xP z λd=>DV.o d λv=>.and (s.run P w=.ok v w) (K d [.r s v])
def minD(a b:Nat)(K:Nat->Oc):Oc:=match Nat.ble a b with
 |true=>K a
 |false=>K b
def Yp:ix->Nat
 |.i8|.u8=>8
 |.i16|.u16=>16
 |.i32|.u32=>32
 |_=>64
def UT(d:Bool)(k:ix)(y:Int)(K:Nat->Oc):Oc:=match d with
 |true=>match y with
  |.ofNat m=>minD (@OfNat.ofNat Nat m (instOfNatNat m)) (Yp k) K
  |.negSucc _=>.leaf False
 |false=>.and (¬y<0) (K (min y.toNat k.bits))
def ZY(op:BinOp)(a b:Int)(K:Bool->Oc):Oc:=match op with
 |.eql=>K (a==b)
 |.neq=>K (a !=b)
 |.lss=>K (av (a<b))
 |.leq=>K (av (a<=b))
 |.gtr=>K (av (a>b))
 |.geq=>K (av (a>=b))
 |_=>.leaf False
def Yn(op:BinOp)(d:Bool)(k:ix)(a b:Int)(K:DV->Oc):Oc:=match op with
 |.add=>K (.i k (k.wrap (a+b)))
 |.sub=>K (.i k (k.wrap (a - b)))
 |.mul=>K (.i k (k.wrap (a *b)))
 |.quo=>match d with
  |true=>K (.i k (k.wrap (a.tdiv b)))
  |false=>.and (b≠0) (K (.i k (k.wrap (a.tdiv b))))
 |.rem=>match d with
  |true=>K (.i k (a.tmod b))
  |false=>.and (b≠0) (K (.i k (a.tmod b)))
 |.and=>K (.i k (kP k a b))
 |.or=>K (.i k (n8 k a b))
 |.xor=>K (.i k (n9 k a b))
 |.andNot=>K (.i k (X8 k a b))
 |.shl=>UT d k b λn=>K (.i k (k.wrap (a *2^n)))
 |.shr=>UT d k b λn=>K (.i k (a.fdiv (2^n)))
 |op=>ZY op a b λt=>K (.b t)
def Yo(op:BinOp)(a b:ByteArray)(K:DV->Oc):Oc:=match op with
 |.add=>.and (¬(((a.size+b.size:Nat):Int)>IntKind.i64.max)) (K (.st (a++b)))
 |.eql=>K (.b (a.toList==b.toList))
 |.neq=>K (.b (!(a.toList==b.toList)))
 |.lss=>K (.b (Op.bytesLess a.toList b.toList))
 |.leq=>K (.b (Op.bytesLess a.toList b.toList||a.toList==b.toList))
 |.gtr=>K (.b (!(Op.bytesLess a.toList b.toList||a.toList==b.toList)))
 |.geq=>K (.b (!(Op.bytesLess a.toList b.toList)))
 |_=>.leaf False
def DV.rb:DV->Bool
 |.kb d=>d
 |.b d=>d
 |_=>false
def xN:List DV->List DV->List Field->(Bool->Oc)->Oc
 |h,j,⟨_,_,off,_,_,_,_⟩::k,d=>match jT h off,jT j off with
  |some (.i _ a),some (.i _ b)=>xN h j k λr=>d ((a==b)&&r)
  |some (.st a),some (.st b)=>xN h j k λr=>d ((a.toList==b.toList)&&r)
  |some q,some w=>xN h j k λr=>d ((q.rb==w.rb)&&r)
  |_,_=>.leaf False
 |_,_,[],d=>d true
def Fw:Operand->Bool
 |.const _=>true
 |_=>false
def DG(P:aJ)(op:BinOp)(T:aE)(x y:Operand)(a b:DV)(w:J)(K:DV->List Fc->Oc):Oc:=match a,b with
 |.i k a,.i _ b=>Yn op (Fw y) k a b λv=>K v []
 |.st a,.st b=>Yo op a b λv=>K v []
 |.sl s,.s3 none _ _=>match op with
  |.eql=>K (.b s.a.isNone) []
  |_=>K (.b (!s.a.isNone)) []
 |.s3 (some _) _ _,.s3 none _ _=>match op with
  |.eql=>K (.kb false) []
  |_=>K (.kb true) []
 |.s3 a _ _,.s3 none _ _=>match op with
  |.eql=>K (.b a.isNone) []
  |_=>K (.b (!a.isNone)) []
 |.r _ _,.p none=>match op with
  |.eql=>K (.kb false) []
  |_=>K (.kb true) []
 |.m a,.m none=>match op with
  |.eql=>K (.b a.isNone) []
  |_=>K (.b (!a.isNone)) []
 |.a h,.a j=>match ml P T,op with
  |.struct d,.eql=>xN h j d.toList λr=>K (.b r) []
  |.struct d,_=>xN h j d.toList λr=>K (.b (!r)) []
  |_,_=>.leaf False
 |a,b=>match Fw y,a,b,op with
  |true,.p a,.p none,.eql=>K (.b a.isNone) []
  |true,.p a,.p none,_=>K (.b (!a.isNone)) []
  |_,.p _,_,.neq|_,.r _ _,_,.neq=>DV.o a λa=>DV.o b λb=>vM P (binOp .neq T a b) (.bool true) w K
  |_,_,_,op=>match ml P T with
   |.interface _=>DV.o a λa=>DV.o b λb=>vM P (kY op T x y a b) (.bool true) w K
   |.bool=>match op with
    |.eql=>K (.b (a.rb==b.rb)) []
    |_=>K (.b (!(a.rb==b.rb))) []
   |_=>.leaf False
def AP(j:Bool):DV->List DV->(DV->Oc)->Oc
 |r,[],d=>d r
 |.i k r,.i _ h::l,d=>match j with
  |true=>AP j (.i k (if r<h then h else r)) l d
  |false=>AP j (.i k (if h<r then h else r)) l d
 |_,_,_=>.leaf False
def adH(d:List Field)(n:Nat):Nat:=match jT d n with
 |some ⟨_,_,off,_,_,_,_⟩=>off
 |none=>0
def Bj(E:DE)(off:Nat->Nat):List (Nat×Operand)->List DV->(List DV->Oc)->Oc
 |[],h,d=>d h
 |(i,j)::l,h,d=>ea E j λv=>Bj E off l (Be h (off i) v.cs) d
def xT:List DV->(List DV->Oc)->Oc
 |[],d=>d []
 |v::l,d=>xT l λl=>d (v::l)
def Ug:Nat->List DV->List DV
 |0,_=>[]
 |n+1,l=>l++Ug n l
def Kd(P:aJ)(op:Op)(ty:aE)(E:DE)(L:DL)(w:J)(d:Bool)(K:DV->List (Option Nat×Fc)->J->Bool->Oc):Option Oc:=match op with
 |.move h|.assign h=>some (ea E h λv=>K v [] w d)
 |.pick c a b=>some (ea E c λc=>match c with
  |.kb true=>ea E a λv=>K v [] w d
  |.kb false=>ea E b λv=>K v [] w d
  |_=>.leaf False)
 |.load j h=>some (ea E h λa=>match a with
  |.r _ (some (i,G))=>match jT L i with
   |some (_,A,_)=>NJ P j A G λv=>K v [(some i,.n)] w d
   |none=>.leaf False
  |.r p none=>hP d L w λw=>NI P j p w λv k=>K v (k.map λf=>(none,f)) w false
  |_=>.leaf False)
 |.nilCheck h=>some (ea E h λa=>match a with
  |.p M=>.op M λp=>K (.r p none) [] w d
  |a=>K a [] w d)
 |.fieldAddr j h f=>some (ea E h λa=>match a with
  |.r p l=>L7 P j f λ_ off=>match l with
   |some (i,G)=>K (.r (p.add off) (some (i,Nat.add G off))) [] w d
   |none=>K (.r (p.add off) none) [] w d
  |_=>.leaf False)
 |.field j h f=>some (ea E h λa=>match a with
  |.a l=>L7 P j f λt off=>match P.info? t with
   |some ⟨_,_,n,_,_,_,_,some B,_,_⟩=>match B with
    |.agg _=>xT (m5 l off n) λl=>K (.a l) [] w d
    |_=>match jT l off with
     |some v=>K v [] w d
     |none=>.leaf False
   |_=>.leaf False
  |_=>.leaf False)
 |.indexAddr j h C=>some (ea E h λa=>ea E C λi=>i.ri λi=>match a,ml P j with
  |.sl s,.slice e=>vT P e λy=>.and (0<=i) (.and (i<(s.n:Int)) (.op s.a λp=>K (.r (p.add (i.toNat *y)) none) [] w d))
  |.s3 a n _,.slice e=>vT P e λy=>.and (0<=i) (.and (i<(n:Int)) (.op a λp=>K (.r (p.add (i.toNat *y)) none) [] w d))
  |.r p _,.array n e=>vT P e λy=>.and (0<=i) (.and (i<(n:Int)) (K (.r (p.add (i.toNat *y)) none) [] w d))
  |_,_=>.leaf False)
 |.index j h C=>some (ea E h λa=>ea E C λi=>i.ri λi=>match a,ml P j with
  |.st s,.string=>.and (0<=i) (.ex UInt8 λb=>.and (s[i.toNat]? =some b) (K (.i .u8 (b.toNat:Int)) [] w d))
  |.a A,.array n e=>match ml P e with
   |.string=>DV.os A λq=>.and (0<=i) (.and (i<(n:Int)) (.ex ByteArray λb=>.and (q.toArray[i.toNat]? =some (.string b)) (K (.st b) [] w d)))
   |_=>DV.os A λq=>.and (0<=i) (.and (i<(n:Int)) (.ex Int λb=>.and (q.toArray[i.toNat]? =some (.int .i64 b)) (K (.i .i64 b) [] w d)))
  |_,_=>.leaf False)
 |.slice j h lo F H=>some (ea E h λa=>match a,ml P j with
  |.sl s,.slice e=>vT P e λy=>np E H s.c s.c λm=>np E F m s.n λx=>np E lo x 0 λl=>K (.s3 (if m=l then s.a else s.a.map (·.add (l *y))) (x - l) (m - l)) [] w d
  |.s3 a n c,.slice e=>vT P e λy=>np E H c c λm=>np E F m n λx=>np E lo x 0 λl=>K (.s3 (if m=l then a else a.map (·.add (l *y))) (x - l) (m - l)) [] w d
  |.st s,.string=>np E F s.size s.size λx=>np E lo x 0 λl=>K (.st (s.extract l x)) [] w d
  |.r p _,.array n e=>vT P e λy=>np E H n n λm=>np E F m n λx=>np E lo x 0 λl=>K (.s3 (some (if m=l then p else p.add (l *y))) (x - l) (m - l)) [] w d
  |_,_=>.leaf False)
 |.extract h n=>some (ea E h λa=>match a with
  |.t l=>match jT l n with
   |some v=>K v [] w d
   |none=>.leaf False
  |_=>.leaf False)
 |.build j I=>some (Cy P j λB=>A9 B λB=>match ml P j with
  |.struct k=>Bj E (adH k.toList) I.toList B.cs λl=>xT l λl=>K (.a l) [] w d
  |.array _ e=>match P.info? e with
   |some ⟨_,_,n,_,_,_,_,_,_,_⟩=>Bj E (λi=>Nat.mul i n) I.toList B.cs λl=>xT l λl=>K (.a l) [] w d
   |none=>.leaf False
  |_=>.leaf False)
 |.unOp f _ h=>some (ea E h λa=>match f,a with
  |.not,.kb true=>K (.kb false) [] w d
  |.not,.kb false=>K (.kb true) [] w d
  |.not,.b h=>K (.b (!h)) [] w d
  |.neg,.i z h=>K (.i z (z.wrap (0 - h))) [] w d
  |.xor,.i z h=>K (.i z (n9 z (if IntKind.signed z then -1 else IntKind.max z) h)) [] w d
  |_,_=>.leaf False)
 |.binOp f j h D _=>some (ea E h λa=>ea E D λb=>match ml P j,f with
  |.interface _,_|.pointer _,.neq=>match Fw D with
   |true=>DG P f j h D a b w λv k=>K v (k.map λf=>(none,f)) w d
   |false=>hP d L w λw=>DG P f j h D a b w λv k=>K v (k.map λf=>(none,f)) w false
  |_,_=>DG P f j h D a b w λv k=>K v (k.map λf=>(none,f)) w d)
 |.convert s t h=>match ml P s,ml P t with
  |.slice _,.slice _|.string,.slice _=>none
  |.slice _,.string=>some (ea E h λa=>DV.o a λv=>hP d L w λw=>vM P (convert s t v) (.string (ByteArray.mk #[])) w λv k=>K v (k.map λf=>(none,f)) w false)
  |.pointer _,.unsafePointer|.unsafePointer,.pointer _=>some (ea E h λa=>DV.o a λv=>hP d L w λw=>vM P (convert s t v) (.pointer none) w λv k=>K v (k.map λf=>(none,f)) w false)
  |_,.int z=>some (ea E h λa=>a.ri λh=>K (.i z (z.wrap h)) [] w d)
  |_,_=>some (ea E h λv=>K v [] w d)
 |.makeInterface j h=>some (ea E h λv=>K (.fc j v) [] w d)
 |.makeFunc (.func n) k A=>some (qa E k.toList λk=>qa E A.toList λA=>K (.g n k A) [] w d)
 |.lookup j h C ok=>some (ea E h λa=>DV.o a λa=>ea E C λb=>DV.o b λb=>hP d L w λw=>Cy P ty λB=>vM P (Instr.lookup j a b ok) B w λv k=>K v (k.map λf=>(none,f)) w false)
 |.call {callee:=.builtin .len,args,argTypes}=>some (qa E args.toList λq=>match q,argTypes.toList with
  |[v],[j]=>match v,ml P j with
   |.sl s,_=>K (.i .i64 (s.n:Int)) [] w d
   |.s3 _ n _,_=>K (.i .i64 (n:Int)) [] w d
   |.st s,_=>K (.i .i64 (s.size:Int)) [] w d
   |_,.array n _=>K (.i .i64 (n:Int)) [] w d
   |v,.map _ _=>DV.o v λm=>hP d L w λw=>vM P (Builtin.len_ #[j] ty #[m]) (.int .i64 0) w λv k=>K v (k.map λf=>(none,f)) w false
   |_,_=>.leaf False
  |_,_=>.leaf False)
 |.call {callee:=.builtin .cap,args,..}=>some (qa E args.toList λq=>match q with
  |[.sl s]=>K (.i .i64 (s.c:Int)) [] w d
  |[.s3 _ _ c]=>K (.i .i64 (c:Int)) [] w d
  |_=>.leaf False)
 |.call {callee:=.builtin .min,args,..}=>some (qa E args.toList λq=>match q with
  |v::q=>AP false v q λv=>K v [] w d
  |_=>.leaf False)
 |.call {callee:=.builtin .max,args,..}=>some (qa E args.toList λq=>match q with
  |v::q=>AP true v q λv=>K v [] w d
  |_=>.leaf False)
 |_=>none
def mM(L:DL)(w Y:J)(K:Oc):Oc:=match L with
 |[]=>K
 |L=>uq L λd=>.and (kept d w Y) K
def Ic(L:DL)(p:Addr):List Nat->List DV->J->(J->Oc)->Oc
 |n::k,v::q,d,j=>DV.o v λw=>match cm n 0 with
  |true=>.st d p w λh=>mM L d h (Ic L p k q h j)
  |false=>.st d (p.add n) w λh=>mM L d h (Ic L p k q h j)
 |_,_,d,j=>j d
def uD(P:aJ)(L:DL)(s:Sem aa)(z:aa)(w:J)(K:DV->J->Oc):Oc:=
 xP z λh=>DV.o h λv=>.ex J λd=>.and (s.run P w=.ok v d) (mM L w d (K h d))
def J9(P:aJ)(L:DL)(f:cR)(xs:Array aa)(z:aa)(w:J)(K:DV->J->Oc):Oc:=match L with
 |[]=>.ca P f xs w λr h=>xP z λd=>DV.o d λv=>.and (r=ae v) (K d h)
 |L=>uq L λj=>.cf j P f xs w λr h=>xP z λd=>DV.o d λv=>.and (r=ae v) (K d h)
def Yt(P:aJ)(f:cR):Bool:=match P.funcs[f]? with
 |some fn=>fn.body.isSome
 |none=>false
def aal(P:aJ)(D:List Nat)(dst:Option Nat)(op:Op)(ty:aE)(E:DE)(L:DL)(w:J)(d:Bool)(K:DV->DL->J->Bool->Oc):Oc:=match op with
 |.store _ j M=>ea E j λa=>ea E M λv=>match a with
  |.r _ (some (i,G))=>match jT L i with
   |some (b,z,k)=>xT (Be z G v.cs) λz=>K .u (UO L i (b,z,k)) w true
   |none=>.leaf False
  |.r p none=>hP d L w λw=>Ic L p RF v.cs w λh=>K .u L h false
  |_=>.leaf False
 |.alloc k=>Cy P k λx=>A9 x λx=>match M1 D dst with
  |true=>uq L λC=>.nw C w λb h=>K (.r (ab b) (some (L.length,0))) (L++[(b,x.cs,k)]) h false
  |false=>hP d L w λw=>DV.os x.cs λq=>.al w (.cells q.toArray k) λh=>K (.r (nb w) none) L h false
 |.box k j=>ea E j λx=>match M1 D dst with
  |true=>uq L λC=>.nw C w λb h=>K (.r (ab b) (some (L.length,0))) (L++[(b,x.cs,k)]) h false
  |false=>hP d L w λw=>DV.os x.cs λq=>.al w (.cells q.toArray k) λh=>K (.r (nb w) none) L h false
 |.buildSlice k n H=>match ml P k with
  |.slice e=>match P.info? e with
   |some ⟨_,_,I,_,_,_,_,some x,_,_⟩=>A9 x λx=>Bj E (λi=>Nat.mul i I) H.toList (Ug n x.cs) λl=>DV.os l λq=>hP d L w λw=>.al w (.cells q.toArray e) λh=>K (.s3 (some (nb w)) n n) L h false
   |_=>.leaf False
  |_=>.leaf False
 |.makeMap _ _=>hP d L w λw=>.al w (.map #[] 0) λh=>K (.m (some w.heap.size)) L h false
 |.mapUpdate k m y v|.insert k m y v=>ea E m λm=>DV.o m λm=>ea E y λy=>DV.o y λy=>ea E v λv=>DV.o v λv=>hP d L w λw=>
   .ex J λh=>.and ((Instr.mapUpdate k m y v).run P w=.ok () h) (mM L w h (K .u L h false))
 |.call {callee:=.builtin b,args,argTypes}=>qa E args.toList λq=>DV.os q λq=>hP d L w λw=>match b with
  |.append=>uD P L (eA argTypes ty q.toArray) (.slice none 0 0) w λv h=>K v L h false
  |.copy=>uD P L (Builtin.copy_ argTypes ty q.toArray) (.int .i64 0) w λv h=>K v L h false
  |.unsafeSliceData=>uD P L (Builtin.unsafeSliceData_ argTypes ty q.toArray) (.pointer none) w λv h=>K v L h false
  |.unsafeString=>uD P L (Builtin.unsafeString_ argTypes ty q.toArray) (.string (ByteArray.mk #[])) w λv h=>K v L h false
  |.delete=>.ex J λh=>.and ((Builtin.delete_ argTypes ty q.toArray).run P w=.ok undef h) (mM L w h (K .u L h false))
  |.clear=>.ex J λh=>.and ((Builtin.clear_ argTypes ty q.toArray).run P w=.ok (.tuple #[]) h) (mM L w h (K (.t []) L h false))
  |_=>.leaf False
 |.call {callee:=.value j,args,..}=>ea E j λf=>qa E args.toList λq=>Cy P ty λx=>hP d L w λw=>match f with
  |.g n F z=>DV.os (F++q++z) λB=>match Yt P n with
   |true=>J9 P L n B.toArray x w λv h=>K v L h false
   |false=>xP x λr=>DV.o r λv=>.ex J λh=>.and ((callFunc n B.toArray).run P w=.ok (.value v) h) (mM L w h (K r L h false))
  |.f A=>DV.os q λB=>.at (hS P A.n) (J9 P L A.n (A.U++B.toArray++A.cs) x w λv h=>K v L h false)
  |_=>.leaf False
 |.makeSlice k l c=>ea E l λl=>DV.o l λl=>ea E c λc=>DV.o c λc=>hP d L w λw=>uD P L (Instr.makeSlice k l c) (.slice none 0 0) w λv h=>K v L h false
 |.convert s t j=>ea E j λj=>DV.o j λj=>hP d L w λw=>uD P L (convert s t j) (.slice none 0 0) w λv h=>K v L h false
 |.range k j=>ea E j λj=>DV.o j λj=>hP d L w λw=>.ex aa λv=>.ex J λh=>.and ((Instr.range k j).run P w=.ok v h) (mM L w h (K (.v v) L h false))
 |.next it s=>ea E it λj=>DV.o j λit=>hP d L w λw=>.or (.ex J λh=>.and ((Instr.next it s ty).run P w=.ok (.tuple #[.bool false]) h) (mM L w h (K (.t [.kb false]) L h false)))
   (match s with
    |true=>.ex Int λi=>.ex Int λc=>.ex J λh=>.and ((Instr.next it true ty).run P w=.ok (.tuple #[.bool true,.int .i64 i,.int .i32 c]) h) (mM L w h (K (.t [.kb true,.i .i64 i,.i .i32 c]) L h false))
    |false=>.ex aa λi=>.ex aa λc=>.ex J λh=>.and ((Instr.next it false ty).run P w=.ok (.tuple #[.bool true,i,c]) h) (mM L w h (K (.t [.kb true,.v i,.v c]) L h false)))
 |.entry it=>ea E it λj=>DV.o j λit=>hP d L w λw=>.ex aa λi=>.ex aa λc=>.ex J λh=>.and ((Instr.entry it).run P w=.ok (.tuple #[i,c]) h) (mM L w h (K (.t [.v i,.v c]) L h false))
 |_=>.leaf False
def wW:List Edge->(Nat->Bool)->Bool
 |[],_=>false
 |⟨_,.textOnly _⟩::l,p=>wW l p
 |⟨_,.gcOnly _⟩::l,p=>wW l p
 |⟨e,_⟩::l,p=>match p e with
  |true=>true
  |false=>wW l p
def Bc(ops:List Oper):Nat->Nat->Nat->Bool
 |0,i,h=>match jT ops h with
  |some ⟨_,_,_,_,d,_⟩=>wW d.toList λe=>cm e i
  |none=>false
 |f+1,i,h=>match jT ops h with
  |some ⟨_,_,_,_,d,_⟩=>wW d.toList λe=>match cm e i with
   |true=>true
   |false=>Bc ops f i e
  |none=>false
def xr(ops:List Oper)(j:Nat):DH->(DH->Oc)->Oc
 |[],h=>h []
 |(i,f,k)::d,h=>match Bc ops 4 i j with
  |true=>xr ops j d h
  |false=>xr ops j d λd=>h ((i,f,k)::d)
def Dw(ops:List Oper)(j:Nat):DH->Bool
 |[]=>false
 |(i,none,_)::d=>match Bc ops 4 i j with
  |true=>Dw ops j d
  |false=>true
 |_::d=>Dw ops j d
def uZ(P:aJ)(ops:List Oper)(j:Nat)(w:J)(K:Oc):DH->Oc
 |[]=>K
 |(i,none,h)::d=>match Bc ops 4 i j with
  |true=>uZ P ops j w K d
  |false=>match h with
   |.c p v=>.and (w.cell? p=some v) (uZ P ops j w K d)
   |.r s v=>.and (s.run P w=.ok v w) (uZ P ops j w K d)
   |.n=>uZ P ops j w K d
 |_::d=>uZ P ops j w K d
abbrev DJ:=DE->DL->J->Bool->DH->Oc
def Jd(draw:Bool)(i:Nat):List (Option Nat×Fc)->DH->(DH->Oc)->Oc
 |[],d,h=>h d
 |(f,j)::l,d,h=>match draw with
  |true=>Jd draw i l d λd=>h ((i,f,j)::d)
  |false=>h d
def VI(P:aJ)(k:List Nat)(ops:List Oper)(draw:Bool)(i:Nat)(o:Oper)(E:DE)(L:DL)(w:J)(d:Bool)(H:DH)(K:DJ):Oc:=match o with
 |⟨dst,op,h,_,_,_⟩=>match Kd P op h E L w d λv j w d=>Bn dst v E λE=>Jd draw i j H λH=>K E L w d H with
  |some r=>r
  |none=>aal P k dst op h E L w d λv L w d=>match Dw ops i H with
   |true=>hP d L w λw=>uZ P ops i w (Bn dst v E λE=>xr ops i H λH=>K E L w false H) H
   |false=>Bn dst v E λE=>xr ops i H λH=>K E L w d H
def ZQ(P:aJ)(op:Op)(ty:aE)(E:DE)(L:DL)(w:J):Bool:=match Kd P op ty E L w false λ_ _ _ _=>.leaf True with
 |some _=>true
 |none=>false
def BQ(P:aJ)(ops:List Oper)(i:Nat)(o:Oper)(E:DE)(L:DL)(w:J)(d:Bool)(H:DH)(K:DJ):Oc:=match o with
 |⟨dst,op,h,_,_,_⟩=>Bn dst .u E λE=>match ZQ P op h E L w with
  |true=>K E L w d H
  |false=>xr ops i H λH=>K E L w d H
def Fh(P:aJ)(h:List Nat)(ops:List Oper)(draw:Bool)(i:Nat)(o:Oper)(t:Nat)(want b:Bool)(E:DE)(L:DL)(w:J)(d:Bool)(H:DH)(K:DJ):Oc:=match want,b with
 |true,true|false,false=>VI P h ops draw i o ((t,.kb b)::E) L w d H K
 |_,_=>BQ P ops i o ((t,.kb b)::E) L w d H K
def headD(P:aJ)(h:List Nat)(ops:List Oper)(draw:Bool)(i:Nat)(E:DE)(L:DL)(w:J)(d:Bool)(H:DH)(K:DJ):Oc:=match jT ops i with
 |none=>.leaf False
 |some o=>match o.guard with
  |none=>VI P h ops draw i o E L w d H K
  |some (j,want)=>match jT ops j with
   |some ⟨some t,_,_,_,_,_⟩=>getD E t λv=>match v with
    |.kb b=>Fh P h ops draw i o t want b E L w d H K
    |.b b=>.bA b (Fh P h ops draw i o t want true E L w d H K) (Fh P h ops draw i o t want false E L w d H K)
    |_=>BQ P ops i o E L w d H K
   |_=>.leaf False
def UD(P:aJ)(q:List Nat)(ops:List Oper)(K:DE->DL->J->Bool->Oc):List Oper->Nat->DE->DL->J->Bool->Oc
 |[],_,d,h,k,j=>K d h k j
 |_::l,i,d,h,k,j=>headD P q ops false i d h k j [] λd h k j _=>UD P q ops K l (i+1) d h k j
def B7(P:aJ)(w:List Nat)(ops:List Oper)(K:DE->DL->J->Bool->Oc):Tr->DE->DL->J->Bool->DH->Oc
 |.nil,d,h,k,j,_=>K d h k j
 |.one i t,d,h,k,j,q=>headD P w ops true i d h k j q λd h k j q=>B7 P w ops K t d h k j q
 |.fork a b,d,h,k,j,q=>.cj (B7 P w ops K a d h k j q) (B7 P w ops K b d h k j q)
def aag(L:DL)(w:J)(d:Bool)(K:J->Bool->Oc):Oc:=match L,d with
 |[],false=>.dr w λw=>K w false
 |_,_=>K w true
def dp:(O:List Tk)->(X:Type)->List DV->mw O X->(X->Oc)->Oc
 |[],_,_,d,h=>h d
 |.a _::O,X,.a l::j,d,h=>dp O X (l++j) d h
 |.t _::O,X,.t l::j,d,h=>dp O X (l++j) d h
 |.g _ _ _::O,X,.g _ q w::j,d,h=>dp O X (q++(w++j)) d h
 |.o (.i _)::O,X,.i _ k::j,d,h=>dp O X j (d k) h
 |.o .b::O,X,.b k::j,d,h=>dp O X j (d k) h
 |.o .b::O,X,.kb k::j,d,h=>dp O X j (d k) h
 |.o .st::O,X,.st k::j,d,h=>dp O X j (d k) h
 |.o .s::O,X,.sl k::j,d,h=>dp O X j (d k) h
 |.o .s::O,X,.s3 a n c::j,d,h=>dp O X j (d ⟨a,n,c⟩) h
 |.o .p::O,X,.p k::j,d,h=>dp O X j (d k) h
 |.o .p::O,X,.r k _::j,d,h=>dp O X j (d (some k)) h
 |.o .r::O,X,.r k _::j,d,h=>dp O X j (d k) h
 |.o .m::O,X,.m k::j,d,h=>dp O X j (d k) h
 |.o .f::O,X,.f k::j,d,h=>dp O X j (d k) h
 |.o .f::O,X,.g n q w::j,d,h=>DV.os q λq=>DV.os w λw=>dp O X j (d ⟨n,q.toArray,w.toArray⟩) h
 |.o .v::O,X,v::j,d,h=>DV.o v λk=>dp O X j (d k) h
 |_,_,_,_,_=>.leaf False
def Dx:(l:List (Nat×Sp))->g6 l->DE->DL->J->aK->Oc
 |[],h,_,_,k,j=>.leaf (h k j)
 |(t,.v x)::l,h,d,q,k,j=>getD d t λv=>dp x (g6 l) [v] h λw=>Dx l w d q k j
 |(t,.l x _)::l,h,d,q,k,j=>getD d t λv=>match v with
  |.r _ (some (i,_))=>match jT q i with
   |some (b,y,_)=>dp x (g6 l) y (h b) λw=>Dx l w d q k j
   |none=>.leaf False
  |_=>.leaf False
abbrev DK:=Exit->DE->DL->J->Bool->Oc
section
variable (X:Fx) (es:List (gM X)) (R:aK)
def oJ{X:Fx}(R:aK):List (gM X)->List Bool->DE->DL->J->Bool->Oc->Oc
 |[],_,_,_,_,_,f=>f
 |e::es,w,j,h,d,k,f=>match uj e.q w with
  |true=>match e with
   |⟨_,y,x,_⟩=>hP k h d λd=>Dx y x j h d R
  |false=>oJ R es w j h d k f
def od(P:aJ)(ord:List (Nat×Tr))(x:List Nat):Code->List Bool->DK->DE->DL->J->Bool->Oc
 |.skip,_,q,j,k,h,d=>q .normal j k h d
 |.region id ops true,_,q,j,k,h,d=>match FT ord id with
  |some t=>aag k h d λh d=>B7 P x ops.toList (λj k h d=>q .normal j k h d) t j k h d []
  |none=>.leaf False
 |.region _ ops false,_,q,j,k,h,d=>UD P x ops.toList (λj k h d=>q .normal j k h d) ops.toList 0 j k h d
 |.seq a b,w,q,j,k,h,d=>od P ord x a (false::w) (λe j k h d=>match e with
  |.normal=>oJ R es (true::w) j k h d (od P ord x b (true::w) q j k h d)
  |e=>q e j k h d) j k h d
 |.cond o a b,w,q,j,k,h,d=>ea j o λv=>match v with
  |.kb true=>oJ R es (false::w) j k h d (od P ord x a (false::w) q j k h d)
  |.kb false=>oJ R es (true::w) j k h d (od P ord x b (true::w) q j k h d)
  |.b t=>.bA t (oJ R es (false::w) j k h d (od P ord x a (false::w) q j k h d)) (oJ R es (true::w) j k h d (od P ord x b (true::w) q j k h d))
  |_=>.leaf False
 |.block id a,w,q,j,k,h,d=>od P ord x a (false::w) (λe j k h d=>match e with
  |.exit y=>match cm y id with
   |true=>q .normal j k h d
   |false=>q (.exit y) j k h d
  |e=>q e j k h d) j k h d
 |.loop _,w,_,j,k,h,d=>oJ R es w j k h d (.leaf False)
 |.exit id,_,q,j,k,h,d=>q (.exit id) j k h d
 |.ret,_,q,j,k,h,d=>q .ret j k h d
 |_,_,_,_,_,_,_=>.leaf False
def BE(P:aJ)(E:DE)(L:DL)(w:J):List ResultVar->(List DV->Oc)->Oc
 |[],d=>d []
 |.tmp t::l,d=>getD E t λv=>BE P E L w l λh=>d (v::h)
 |.cell x j::l,d=>getD E x λv=>match v with
  |.r _ (some (i,q))=>match jT L i with
   |some (_,k,_)=>NJ P j k q λv=>BE P E L w l λh=>d (v::h)
   |none=>.leaf False
  |.r p none=>NI P j p w λv _=>BE P E L w l λh=>d (v::h)
  |_=>.leaf False
def aeY(P:aJ)(fn:Func):DK:=λe k j h q=>match e with
 |.normal|.ret=>hP q j h λh=>BE P k j h fn.results.toList λd=>match d with
  |[v]=>DV.o v λv=>.leaf (R (ae v) h)
  |d=>DV.os d λd=>.leaf (R (ae (.tuple d.toArray)) h)
 |_=>.leaf False
def Ng(P:aJ)(ord:List (Nat×Tr))(C:List Nat)(A:Code)(z:DK):List Bool->Code×DK
 |[]=>(A,z)
 |b::y=>match Ng P ord C A z y,b with
  |(.seq w x,d),false=>(w,λe h j q k=>match e with
   |.normal=>oJ R es (true::y) h j q k (od X es R P ord C x (true::y) d h j q k)
   |e=>d e h j q k)
  |(.seq _ x,d),true=>(x,d)
  |(.cond _ w _,d),false=>(w,d)
  |(.cond _ _ x,d),true=>(x,d)
  |(.block id w,d),_=>(w,λe h j q k=>match e with
   |.exit B=>match cm B id with
    |true=>d .normal h j q k
    |false=>d (.exit B) h j q k
   |e=>d e h j q k)
  |(.loop w,d),_=>(w,λe h j q k=>match e with
   |.normal=>oJ R es y h j q k (.leaf False)
   |e=>d e h j q k)
  |(_,d),_=>(.skip,d)
def W0(X:Fx)(K:aJ->Func->List (Nat×Tr)->List Nat->Oc):Oc:=match X with
 |⟨d,fn,ord,h⟩=>K d fn ord h
def Er(h:List Bool)(E:DE)(L:DL)(w:J):Oc:=W0 X λd fn ord k=>match fn.body with
  |some c=>match Ng X es R d ord k c (aeY R d fn) h with
   |(.loop x,j)=>od X es R d ord k x (false::h) (λe E L w q=>match e with
    |.normal=>oJ R es h E L w q (.leaf False)
    |e=>j e E L w q) E L w false
   |(c,j)=>od X es R d ord k c h j E L w false
  |none=>.leaf False
end
abbrev h5:List Tk->Type->Type
 |[],X=>X
 |.o (.i _)::l,X=>Int->h5 l X
 |.o .b::l,X=>Bool->h5 l X
 |.o .st::l,X=>ByteArray->h5 l X
 |.o .s::l,X=>Sl->h5 l X
 |.o .p::l,X=>Option Addr->h5 l X
 |.o .r::l,X=>Addr->h5 l X
 |.o .m::l,X=>Option Nat->h5 l X
 |.o .v::l,X=>aa->h5 l X
 |.o .f::l,X=>Fv->h5 l X
 |.a _::l,X=>h5 l X
 |.t _::l,X=>h5 l X
 |.g _ _ _::l,X=>h5 l X
abbrev m':List (Nat×Sp)->Type
 |[]=>J->aK->Prop
 |(_,.v d)::l=>h5 d (m' l)
 |(_,.l d _)::l=>Nat->h5 d (m' l)
def uA:∀(O:List Tk) (X:Type),mw O X=h5 O X
 |[],_=>rfl
 |.o h::O,X=>by cases h<;>exact congrArg (λd=>_->d) (uA O X)
 |.a _::O,X=>uA O X
 |.t _::O,X=>uA O X
 |.g _ _ _::O,X=>uA O X
def Es:∀l:List (Nat×Sp),g6 l=m' l
 |[]=>rfl
 |(_,.v d)::l=>(uA d (g6 l)).trans (congrArg (h5 d) (Es l))
 |(_,.l d _)::l=>congrArg (λh=>Nat->h) ((uA d (g6 l)).trans (congrArg (h5 d) (Es l)))
def kM:(O:List Tk)->(X:Type)->h5 O X->(List DV->X->Prop)->Prop
 |[],_,j,k=>k [] j
 |.o (.i w)::O,X,j,k=>∀h:Int,kM O X (j h) λd q=>k (.i w h::d) q
 |.o .b::O,X,j,k=>∀h:Bool,kM O X (j h) λd q=>k (.b h::d) q
 |.o .st::O,X,j,k=>∀h:ByteArray,kM O X (j h) λd q=>k (.st h::d) q
 |.o .s::O,X,j,k=>∀h:Sl,kM O X (j h) λd q=>k (.sl h::d) q
 |.o .p::O,X,j,k=>∀h:Option Addr,kM O X (j h) λd q=>k (.p h::d) q
 |.o .r::O,X,j,k=>∀h:Addr,kM O X (j h) λd q=>k (.r h none::d) q
 |.o .m::O,X,j,k=>∀h:Option Nat,kM O X (j h) λd q=>k (.m h::d) q
 |.o .v::O,X,j,k=>∀h:aa,kM O X (j h) λd q=>k (.v h::d) q
 |.o .f::O,X,j,k=>∀h:Fv,kM O X (j h) λd q=>k (.f h::d) q
 |.a w::O,X,j,k=>kM O X j λd q=>k (.a (m5 d 0 w)::d.drop w) q
 |.t w::O,X,j,k=>kM O X j λd q=>k (.t (m5 d 0 w)::d.drop w) q
 |.g n x w::O,X,j,k=>kM O X j λd q=>k (.g n (m5 d 0 x) (m5 d x w)::d.drop (x+w)) q
def Dd(G:DE->DL->J->aK->Oc):(l:List (Nat×Sp))->m' l->DE->DL->Prop
 |[],d,j,h=>∀(w:J) (R:aK),Nf (G j h w R) (d w R)
 |(t,.v k)::l,d,j,h=>kM k (m' l) d λq d=>match q with
  |v::_=>Dd G l d ((t,v)::j) h
  |[]=>False
 |(t,.l k x)::l,d,j,h=>∀b:Nat,kM k (m' l) (d b) λq d=>Dd G l d ((t,.r (ab b) (some (h.length,0)))::j) (h++[(b,q,x)])
def ka:(O:List Tk)->(X:Type)->h5 O X->(List DV->X->Oc)->Oc
 |[],_,j,k=>k [] j
 |.o (.i w)::O,X,j,k=>.all Int λh=>ka O X (j h) λd q=>k (.i w h::d) q
 |.o .b::O,X,j,k=>.all Bool λh=>ka O X (j h) λd q=>k (.b h::d) q
 |.o .st::O,X,j,k=>.all ByteArray λh=>ka O X (j h) λd q=>k (.st h::d) q
 |.o .s::O,X,j,k=>.all Sl λh=>ka O X (j h) λd q=>k (.sl h::d) q
 |.o .p::O,X,j,k=>.all (Option Addr) λh=>ka O X (j h) λd q=>k (.p h::d) q
 |.o .r::O,X,j,k=>.all Addr λh=>ka O X (j h) λd q=>k (.r h none::d) q
 |.o .m::O,X,j,k=>.all (Option Nat) λh=>ka O X (j h) λd q=>k (.m h::d) q
 |.o .v::O,X,j,k=>.all aa λh=>ka O X (j h) λd q=>k (.v h::d) q
 |.o .f::O,X,j,k=>.all Fv λh=>ka O X (j h) λd q=>k (.f h::d) q
 |.a w::O,X,j,k=>ka O X j λd q=>k (.a (m5 d 0 w)::d.drop w) q
 |.t w::O,X,j,k=>ka O X j λd q=>k (.t (m5 d 0 w)::d.drop w) q
 |.g n x w::O,X,j,k=>ka O X j λd q=>k (.g n (m5 d 0 x) (m5 d x w)::d.drop (x+w)) q
def Du(G:DE->DL->J->aK->Oc):(l:List (Nat×Sp))->m' l->DE->DL->Oc
 |[],d,j,h=>.all J λx=>.all aK λw=>.im (G j h x w) (d x w)
 |(t,.v k)::l,d,j,h=>ka k (m' l) d λq d=>match q with
  |v::_=>Du G l d ((t,v)::j) h
  |[]=>.leaf False
 |(t,.l k y)::l,d,j,h=>.all Nat λb=>ka k (m' l) (d b) λq d=>Du G l d ((t,.r (ab b) (some (h.length,0)))::j) (h++[(b,q,y)])
def mm:(O:List Tk)->h5 O Unit
 |[]=>()
 |.o (.i _)::O=>λ_=>mm O
 |.o .b::O=>λ_=>mm O
 |.o .st::O=>λ_=>mm O
 |.o .s::O=>λ_=>mm O
 |.o .p::O=>λ_=>mm O
 |.o .r::O=>λ_=>mm O
 |.o .m::O=>λ_=>mm O
 |.o .v::O=>λ_=>mm O
 |.o .f::O=>λ_=>mm O
 |.a _::O=>mm O
 |.t _::O=>mm O
 |.g _ _ _::O=>mm O
def LB:Nat->List DV->DE
 |_,[]=>[]
 |n,v::d=>(n,v)::LB (n+1) d
def okD(X:Fx)(es:List (gM X))(f:cR)(O:List Tk):Oc:=ka O Unit (mm O) λh _=>.all J λj=>.all aK λd=>W0 X λk _ _ _=>DV.os h λq=>.im (Er X es d [] (LB 0 h) [] j) (ai k f q.toArray j d)
abbrev At(X:Fx)(_:List (gM X))(_:List Nat)(d:Ps):Type:=m' d
abbrev ax(P:aJ)(fn:Func)(ord:List (Nat×Tr))(d:List Nat):List (gM ⟨P,fn,ord,d⟩):=[]
section
variable {X:Fx}
abbrev ak(es:List (gM X))(h:List Nat)(d:Ps){F:m' d}(_:Dd (λj k w q=>Er X es q (oK h) j k w) d F [] []:=by repeat' first |(intro)|((conv=>arg 1;whnf);first |exact Nf.leaf|apply Nf.bA|apply Nf.and|apply Nf.ex|apply Nf.cf|apply Nf.ca|apply Nf.nw|apply Nf.st|apply Nf.lc|apply Nf.op|apply Nf.all|apply Nf.im|apply Nf.al|apply Nf.dr|apply Nf.at|apply Nf.or|apply Nf.cj)):At X es h d:=F
abbrev bh(es:List (gM X))(h:List Nat)(d:Ps):At X es h d:=cast (Es d) (jB d 0 (X.Sem (oK h)))
abbrev ao{es:List (gM X)}{h:List Nat}{d:Ps}(G:At X es h d){F:g6 d}(_:HEq G F:=by exact HEq.rfl)(e:F=jB d 0 (X.wv es (oK h)):=by kernel_rfl):List (gM X):=aaw X es (oK h) d F e::es
abbrev bg{es:List (gM X)}{h:List Nat}{d:Ps}(G:At X es h d){F:g6 d}(_:HEq G F:=by exact HEq.rfl)(e:F=jB d 0 (X.Sem (oK h)):=by kernel_rfl):List (gM X):=aav X (oK h) d F e::es
def tD:(O:List Tk)->(List aa->Prop)->Prop
 |[],h=>h []
 |.o q::O,h=>∀w:q.T,tD O λd=>h (q.val w::d)
 |.a j::O,h=>tD O λd=>h (.agg (d.take j).toArray::d.drop j)
 |.t j::O,h=>tD O λd=>h (.tuple (d.take j).toArray::d.drop j)
 |.g n k j::O,h=>tD O λd=>h (.func (.func n) (d.take k).toArray ((d.drop k).take j).toArray::(d.drop k).drop j)
def wV:∀{O:List Tk} {K:List aa->Prop},(∀h,K h)->tD O K
 |[],_,d=>d []
 |.o _::O,_,d=>λ_=>wV (O:=O) λ_=>d _
 |.a _::O,_,d=>wV (O:=O) λ_=>d _
 |.t _::O,_,d=>wV (O:=O) λ_=>d _
 |.g _ _ _::O,_,d=>wV (O:=O) λ_=>d _
def ay(es:List (gM X))(f:cR)(O:List Tk){T:Prop}(_:Nf (okD X es f O) T:=by repeat' first |(intro)|((conv=>arg 1;whnf);first |exact Nf.leaf|apply Nf.bA|apply Nf.and|apply Nf.ex|apply Nf.cf|apply Nf.ca|apply Nf.nw|apply Nf.st|apply Nf.lc|apply Nf.op|apply Nf.all|apply Nf.im|apply Nf.al|apply Nf.dr|apply Nf.at|apply Nf.or|apply Nf.cj))(k:X.P.funcs[f]? =some X.fn:=by kernel_rfl)(j:X.fn.body=some X.c:=by kernel_rfl)(e:(tD O λd=>∀(w:J) (R:aK),cS (Nat.ble d.length X.fn.ntmps) (i0 X.P X.n (X.B3 es R) X.c [] (vL X.P X.fn R) ⟨kV 0 d,[],[],w,false⟩)->ai X.P f d.toArray w R)=T:=by kernel_rfl):T:=
 e▸wV λ_ _ _ h=>ZM X es (ee h).2 k j (ee h).1 rfl
def bm(es:List (gM X)){w:List (gM X)}{h:List Nat}{d:Ps}(F:At X w h d){T:Prop}(_:Nf (Du (λj k x q=>Er X es q (oK h) j k x) d F [] []) T:=by repeat' first |(intro)|((conv=>arg 1;whnf);first |exact Nf.leaf|apply Nf.bA|apply Nf.and|apply Nf.ex|apply Nf.cf|apply Nf.ca|apply Nf.nw|apply Nf.st|apply Nf.lc|apply Nf.op|apply Nf.all|apply Nf.im|apply Nf.al|apply Nf.dr|apply Nf.at|apply Nf.or|apply Nf.cj))(e:wD d (jB d 0 (X.wv es (oK h))) (jB d 0 (X.Sem (oK h)))=T:=by kernel_rfl):T:=e▸af4 es (oK h) d
end
end Go.W
set_option maxHeartbeats 2000000
set_option maxRecDepth 100000
namespace Go.Proofs.YtnaglpcbkhjpnabGreatDoor
open Go renaming World->J,Calls->ai,Program->aJ,Value->aa,TypeId->aE,Ending->bW,FuncId->cR,IntKind->ix
open Go.IntKind renaming wrap->aj
open Go.IntWalk renaming i64_in->aQ
open Go.Builtin renaming append_->eA
open _root_.Bool renaming and_eq_true->bH
open _root_.Nat renaming zero_le->dW,beq->cm,lt_of_lt_of_le->m8,beq_eq->eS
open _root_.UInt8 renaming ofNat->db
open _root_.Int renaming toNat_natCast->bB
open Go.Region renaming wanted->dC,ready->fa
open Go.Proofs.Tryz renaming prog->V
open _root_.Decidable renaming decide->av
open Go.Ending renaming returned->ae
open List renaming mem_cons->aq,getElem?_eq_getElem->a',append_assoc->ck,mem_cons_of_mem->e6,drop_eq_getElem_cons->dz,take_add_one->dV,drop_of_length_le->c9,eq_nil_of_length_eq_zero->vC
open Go Go.W
def mp{a b:Prop}(h:a)(e:a=b:=by kernel_rfl):b:=e▸h
abbrev iA:=Exit->Act->J->Prop
abbrev rI(P:aJ)(n:Nat)(K:Env->J->aK->Prop)(c:Code)(Q:aK->iA):Prop:=∀(R:aK) (E:Env) (w:J),K E w R->WP P (cx n) c (Q R) E w
abbrev Da(P:aJ)(n:Nat)(K:Env->J->aK->Prop)(c:Code)(Q:aK->iA):Prop:=∀(R:aK) (E:Env) (w:J),K E w R->LP P (cx n) c (Q R) E w
abbrev gC(w:J)(p:Addr)(K:Int->Int->Int->Sl->Prop):Prop:=∃d:Int,∃h:Int,∃j:Int,∃k:Sl,w.cell? (p.add 0)=some (.i d)/\w.cell? (p.add 1)=some (.int .u8 h)/\w.cell? (p.add 2)=some (.int .u8 j)/\w.cell? (p.add 3)=some (k.v)/\K d h j k
abbrev Nn(w:J)(p:Addr)(K:Int->Int->Int->ByteArray->Int->Prop):Prop:=∃d:Int,∃h:Int,∃j:Int,∃k:ByteArray,∃q:Int,w.cell? (p.add 0)=some (.int .u8 d)/\w.cell? (p.add 1)=some (.int .u8 h)/\w.cell? (p.add 2)=some (.int .u8 j)/\w.cell? (p.add 3)=some (.string k)/\w.cell? (p.add 4)=some (.i q)/\K d h j k q
abbrev Nm(w:J)(p:Addr)(K:Int->Int->Int->Prop):Prop:=∃d:Int,∃h:Int,∃j:Int,w.cell? (p.add 0)=some (.i d)/\w.cell? (p.add 1)=some (.i h)/\w.cell? (p.add 2)=some (.i j)/\K d h j
abbrev ab'(w:J)(p:Addr)(K:Int->Int->Int->Sl->ByteArray->Sl->Sl->Prop):Prop:=∃d:Int,∃h:Int,∃j:Int,∃k:Sl,∃q:ByteArray,∃x:Sl,∃y:Sl,w.cell? (p.add 0)=some (.i d)/\w.cell? (p.add 1)=some (.i h)/\w.cell? (p.add 2)=some (.i j)/\w.cell? (p.add 3)=some (k.v)/\w.cell? (p.add 4)=some (.string q)/\w.cell? (p.add 5)=some (x.v)/\w.cell? (p.add 6)=some (y.v)/\K d h j k q x y
abbrev Nl(w:J)(p:Addr)(K:Sl->Sl->Prop):Prop:=∃d:Sl,∃h:Sl,w.cell? (p.add 0)=some (d.v)/\w.cell? (p.add 1)=some (h.v)/\K d h
abbrev J7(f:cR)(xs:Array aa)(w:J)(K:Bool->J->Prop):Prop:=ai V f xs w λh j=>∃d:Bool,h=ae (.bool d)/\K d j
abbrev r0(f:cR)(xs:Array aa)(w:J)(K:Int->J->Prop):Prop:=ai V f xs w λh j=>∃d:Int,h=ae (.i d)/\K d j
abbrev ZU(U:List Nat)(f:cR)(xs:Array aa)(w:J)(K:Int->J->Prop):Prop:=ep U V f xs w λh j=>∃d:Int,h=ae (.i d)/\K d j
abbrev zS(f:cR)(xs:Array aa)(w:J)(K:Int->Int->Int->Sl->J->Prop):Prop:=ai V f xs w λq x=>∃d:Int,∃h:Int,∃j:Int,∃k:Sl,q=ae (.agg #[.i d,.int .u8 h,.int .u8 j,k.v])/\K d h j k x
abbrev uv(U:List Nat)(f:cR)(xs:Array aa)(w:J)(K:Int->Int->Int->Sl->J->Prop):Prop:=ep U V f xs w λq x=>∃d:Int,∃h:Int,∃j:Int,∃k:Sl,q=ae (.agg #[.i d,.int .u8 h,.int .u8 j,k.v])/\K d h j k x
abbrev ZI(f:cR)(xs:Array aa)(w:J)(K:Int->Int->Int->ByteArray->Int->Int->J->Prop):Prop:=ai V f xs w λy z=>∃d:Int,∃h:Int,∃j:Int,∃k:ByteArray,∃q:Int,∃x:Int,y=ae (.tuple #[.agg #[.int .u8 d,.int .u8 h,.int .u8 j,.string k,.i q],.i x])/\K d h j k q x z
abbrev ZJ(f:cR)(xs:Array aa)(w:J)(K:(Option Addr)->J->Prop):Prop:=ai V f xs w λh j=>∃d:Option Addr,h=ae (.pointer d)/\K d j
abbrev ZH(f:cR)(xs:Array aa)(w:J)(K:aa->J->Prop):Prop:=ai V f xs w λh j=>∃d:aa,h=ae (d)/\K d j
abbrev ZV(U:List Nat)(f:cR)(xs:Array aa)(w:J)(K:Int->Int->Int->Sl->Int->J->Prop):Prop:=ep U V f xs w λx y=>∃d:Int,∃h:Int,∃j:Int,∃k:Sl,∃q:Int,x=ae (.tuple #[.agg #[.i d,.int .u8 h,.int .u8 j,k.v],.i q])/\K d h j k q y
abbrev J8(f:cR)(xs:Array aa)(w:J)(K:ByteArray->J->Prop):Prop:=ai V f xs w λh j=>∃d:ByteArray,h=ae (.string d)/\K d j
abbrev Ea(U:List Nat)(f:cR)(xs:Array aa)(w:J)(K:ByteArray->J->Prop):Prop:=ep U V f xs w λh j=>∃d:ByteArray,h=ae (.string d)/\K d j
abbrev Vr(w:J)(p:Addr)(d h j:aa)(K:J->Prop):Prop:=aS w p d λw=>aS w (p.add 1) h λw=>aS w (p.add 2) j λw=>K w
abbrev mi(w:J)(p:Addr)(d h j k:aa)(K:J->Prop):Prop:=aS w p d λw=>aS w (p.add 1) h λw=>aS w (p.add 2) j λw=>aS w (p.add 3) k λw=>K w
abbrev Vs(w:J)(p:Addr)(d h j k q:aa)(K:J->Prop):Prop:=aS w p d λw=>aS w (p.add 1) h λw=>aS w (p.add 2) j λw=>aS w (p.add 3) k λw=>aS w (p.add 4) q λw=>K w
abbrev afP(w:J)(p:Addr)(d h j k q x y:aa)(K:J->Prop):Prop:=aS w p d λw=>aS w (p.add 1) h λw=>aS w (p.add 2) j λw=>aS w (p.add 3) k λw=>aS w (p.add 4) q λw=>aS w (p.add 5) x λw=>aS w (p.add 6) y λw=>K w
abbrev ll:Nat:=0
abbrev cb:Nat:=3
abbrev agL:Nat:=4
abbrev cJ:Nat:=5
abbrev dv:Nat:=9
abbrev jj:Nat:=22
abbrev oY:Nat:=23
abbrev wc:Nat:=24
abbrev eL:Nat:=26
abbrev Wx:Nat:=28
abbrev dB:Nat:=33
abbrev Ca:Nat:=39
abbrev Iw:Nat:=45
abbrev dD:Nat:=49
abbrev fw:Nat:=51
abbrev Cb:Nat:=55
abbrev tt:Nat:=65
abbrev Iv:Nat:=75
abbrev cF:Nat:=83
abbrev agS:Nat:=84
abbrev cP:Nat:=86
abbrev agK:Nat:=101
abbrev agQ:Nat:=123
abbrev agP:Nat:=141
abbrev rs:Nat:=150
abbrev dP:Nat:=156
abbrev aV:Nat:=158
abbrev agN:Nat:=168
abbrev agM:Nat:=169
abbrev wg:Nat:=171
abbrev ln:Nat:=183
abbrev agJ:Nat:=198
abbrev B9:Nat:=199
abbrev p0:Nat:=204
abbrev B':Nat:=216
abbrev Wy:Nat:=219
abbrev p9:Nat:=221
abbrev agI:Nat:=227
abbrev we:Nat:=234
abbrev jk:Nat:=243
abbrev aZ:Nat:=245
abbrev iS:Nat:=263
abbrev agR:Nat:=264
abbrev za:Nat:=266
abbrev oX:Nat:=271
abbrev kE:Nat:=279
abbrev agO:Nat:=287
abbrev nP:Nat:=299
abbrev Iu:Nat:=306
abbrev Ix:Nat:=329
abbrev F6:Nat:=3
abbrev O':Nat:=4
abbrev Gh:Nat:=5
abbrev Gg:Nat:=6
abbrev PC:Nat:=7
abbrev PB:Nat:=8
abbrev Pa:Nat:=9
abbrev O8:Nat:=10
abbrev O9:Nat:=11
abbrev N9:Nat:=12
abbrev Pb:Nat:=13
abbrev Gc:Nat:=14
abbrev AR:Nat:=15
abbrev Gi:Nat:=16
abbrev QS:Nat:=17
abbrev PD:Nat:=18
abbrev PN:Nat:=19
abbrev PK:Nat:=20
abbrev PF:Nat:=21
abbrev Gz:Nat:=22
abbrev AV:Nat:=23
abbrev Rz:Nat:=24
abbrev RA:Nat:=25
abbrev PM:Nat:=26
abbrev PY:Nat:=27
abbrev Ry:Nat:=28
abbrev PQ:Nat:=29
abbrev PT:Nat:=30
abbrev Pd:Nat:=31
abbrev Pc:Nat:=32
abbrev ON:Nat:=33
abbrev O7:Nat:=34
abbrev Ob:Nat:=35
abbrev O5:Nat:=36
abbrev vb:Nat:=37
abbrev O2:Nat:=38
abbrev OZ:Nat:=39
abbrev OK:Nat:=40
abbrev O4:Nat:=41
abbrev O1:Nat:=42
abbrev PW:Nat:=43
abbrev PX:Nat:=44
abbrev QT:Nat:=45
abbrev Rn:Nat:=46
abbrev QF:Nat:=47
abbrev QH:Nat:=48
abbrev Ge:Nat:=49
abbrev Gj:Nat:=50
abbrev Gk:Nat:=51
abbrev RC:Nat:=52
abbrev yi:Nat:=53
abbrev Qm:Nat:=54
abbrev Rp:Nat:=55
abbrev yg:Nat:=56
abbrev Ru:Nat:=57
abbrev PR:Nat:=58
abbrev PV:Nat:=59
abbrev Rq:Nat:=60
abbrev N':Nat:=61
abbrev Oe:Nat:=62
abbrev Of:Nat:=63
abbrev Oh:Nat:=64
abbrev Og:Nat:=65
abbrev Pf:Nat:=66
abbrev O6:Nat:=67
abbrev Pe:Nat:=68
abbrev OL:Nat:=69
abbrev OU:Nat:=70
abbrev Oo:Nat:=71
abbrev OP:Nat:=72
abbrev OQ:Nat:=73
abbrev O3:Nat:=74
abbrev OT:Nat:=75
abbrev OO:Nat:=76
abbrev N4:Nat:=77
abbrev PL:Nat:=78
abbrev Rf:Nat:=79
abbrev QX:Nat:=80
abbrev QV:Nat:=81
abbrev QW:Nat:=82
abbrev RB:Nat:=83
abbrev Pg:Nat:=84
abbrev Pl:Nat:=85
abbrev vc:Nat:=86
abbrev PJ:Nat:=87
abbrev PG:Nat:=88
abbrev PI:Nat:=89
abbrev PO:Nat:=90
abbrev QR:Nat:=91
abbrev PH:Nat:=92
abbrev Rw:Nat:=93
abbrev RD:Nat:=94
abbrev yh:Nat:=95
abbrev Rr:Nat:=96
abbrev PU:Nat:=97
abbrev Oi:Nat:=98
abbrev pD:Nat:=99
abbrev qS:Nat:=100
abbrev yd:Nat:=101
abbrev OM:Nat:=102
abbrev OV:Nat:=103
abbrev OY:Nat:=104
abbrev OW:Nat:=105
abbrev O0:Nat:=106
abbrev Ol:Nat:=107
abbrev OS:Nat:=108
abbrev N5:Nat:=109
abbrev N6:Nat:=110
abbrev Rg:Nat:=111
abbrev GA:Nat:=112
abbrev Re:Nat:=113
abbrev Ph:Nat:=114
abbrev Pk:Nat:=115
abbrev QM:Nat:=116
abbrev QN:Nat:=117
abbrev QP:Nat:=118
abbrev Rv:Nat:=119
abbrev QG:Nat:=120
abbrev RE:Nat:=121
abbrev F9:Nat:=122
abbrev Oj:Nat:=123
abbrev Oz:Nat:=124
abbrev OA:Nat:=125
abbrev OX:Nat:=126
abbrev OR:Nat:=127
abbrev OJ:Nat:=128
abbrev On:Nat:=129
abbrev Om:Nat:=130
abbrev Od:Nat:=131
abbrev ac7:Nat:=132
abbrev QZ:Nat:=133
abbrev Rl:Nat:=134
abbrev Rj:Nat:=135
abbrev Ri:Nat:=136
abbrev Rh:Nat:=137
abbrev Rk:Nat:=138
abbrev Pu:Nat:=139
abbrev Pt:Nat:=140
abbrev Pq:Nat:=141
abbrev Pw:Nat:=143
abbrev Px:Nat:=144
abbrev QQ:Nat:=145
abbrev Pj:Nat:=146
abbrev QK:Nat:=147
abbrev OC:Nat:=148
abbrev Ov:Nat:=149
abbrev F7:Nat:=150
abbrev OD:Nat:=151
abbrev Oa:Nat:=152
abbrev ye:Nat:=153
abbrev Oq:Nat:=154
abbrev Ga:Nat:=155
abbrev OG:Nat:=156
abbrev F8:Nat:=157
abbrev Ot:Nat:=158
abbrev Ox:Nat:=159
abbrev Rb:Nat:=160
abbrev Ro:Nat:=161
abbrev Rm:Nat:=162
abbrev Q':Nat:=163
abbrev A1:Nat:=164
abbrev Ra:Nat:=165
abbrev QY:Nat:=166
abbrev QU:Nat:=167
abbrev Rc:Nat:=168
abbrev GB:Nat:=169
abbrev ac':Nat:=170
abbrev PA:Nat:=171
abbrev Po:Nat:=172
abbrev Pz:Nat:=175
abbrev Py:Nat:=176
abbrev QL:Nat:=178
abbrev QO:Nat:=179
abbrev Pm:Nat:=180
abbrev QJ:Nat:=181
abbrev QI:Nat:=182
abbrev OE:Nat:=185
abbrev AS:Nat:=186
abbrev OI:Nat:=187
abbrev yc:Nat:=188
abbrev Oy:Nat:=189
abbrev PZ:Nat:=190
abbrev Gl:Nat:=191
abbrev P6:Nat:=192
abbrev Gd:Nat:=200
abbrev Pn:Nat:=201
abbrev Pv:Nat:=202
abbrev Ou:Nat:=204
abbrev AU:Nat:=205
abbrev OH:Nat:=206
abbrev Ql:Nat:=207
abbrev Gt:Nat:=208
abbrev AZ:Nat:=209
abbrev Gp:Nat:=210
abbrev Gw:Nat:=211
abbrev P7:Nat:=212
abbrev Qg:Nat:=213
abbrev Gq:Nat:=214
abbrev Qc:Nat:=215
abbrev A0:Nat:=216
abbrev Pr:Nat:=219
abbrev OB:Nat:=221
abbrev AT:Nat:=222
abbrev OF:Nat:=223
abbrev sI:Nat:=224
abbrev Gv:Nat:=225
abbrev Qj:Nat:=226
abbrev Gs:Nat:=227
abbrev Gu:Nat:=228
abbrev Qf:Nat:=229
abbrev Qd:Nat:=230
abbrev Qe:Nat:=231
abbrev AY:Nat:=232
abbrev Qa:Nat:=233
abbrev Qi:Nat:=234
abbrev Gm:Nat:=235
abbrev yf:Nat:=236
abbrev AW:Nat:=237
abbrev AX:Nat:=238
abbrev Qb:Nat:=239
abbrev Qp:Nat:=240
abbrev Gn:Nat:=241
abbrev sH:Nat:=242
abbrev Qs:Nat:=243
abbrev cE:Nat:=244
abbrev Qn:Nat:=245
abbrev ve:Nat:=246
abbrev vf:Nat:=247
abbrev P8:Nat:=248
abbrev F':Nat:=249
abbrev Qk:Nat:=250
abbrev P9:Nat:=251
abbrev Gr:Nat:=252
abbrev Qq:Nat:=253
abbrev vd:Nat:=254
abbrev Qr:Nat:=255
abbrev ada:Nat:=256
abbrev Gf:Nat:=257
abbrev F5:Nat:=258
abbrev N8:Nat:=259
abbrev N7:Nat:=260
abbrev Qo:Nat:=261
abbrev P':Nat:=262
abbrev Gb:Nat:=263
abbrev Qh:Nat:=264
abbrev Gx:Nat:=265
abbrev Qv:Nat:=266
abbrev Qt:Nat:=267
abbrev Qu:Nat:=268
abbrev QC:Nat:=269
abbrev Qz:Nat:=270
abbrev QB:Nat:=271
abbrev QA:Nat:=272
abbrev ac9:Nat:=274
abbrev ac8:Nat:=275
abbrev QD:Nat:=276
abbrev Gy:Nat:=277
abbrev QE:Nat:=278
abbrev Qw:Nat:=279
abbrev Qx:Nat:=280
abbrev Qy:Nat:=281
namespace KZ
abbrev S0:=ak (ax V Tryz.f37 [] []) [2] [(0,.I),(1,.I)]
abbrev t1:=ao S0
def ok:=ay t1 vb [.I,.I]
end KZ
namespace xw
def L0:=bh (ax V Tryz.f152 [] []) [0,1,1,1,1] [(0,.s),(1,.I),(5,.I)]
abbrev t1:=bg L0
def bE:=bm t1 L0
def ok:=ay t1 Oa [.s,.I]
end xw
namespace uK
def L0:=bh (ax V Tryz.f131 [(6,lr 9)] []) [0,1,1,1,2] [(0,.s),(1,.s),(5,.I)]
abbrev t1:=bg L0
def bE:=bm t1 L0
def ok:=ay t1 Od [.s,.s]
end uK
namespace xx
def L0:=bh (ax V Tryz.f35 [(6,lr 9)] []) [0,1,1,1,2] [(0,.s),(1,.s),(5,.I)]
abbrev t1:=bg L0
def bE:=bm t1 L0
def ok:=ay t1 Ob [.s,.s]
end xx
open Go Go.W Go.RowKit Go.Lib
def jz:g7 V dB cJ (.int .u8 0) 1 1:=⟨by kernel_rfl,by kernel_rfl,rfl,md,md⟩
def iH:g7 V jj cb (.int .i64 0) 1 8:=⟨by kernel_rfl,by kernel_rfl,rfl,md,md⟩
abbrev Bytes(w:J)(s:Sl)(U:List UInt8):Prop:=Rd w s (U.map bL)
abbrev e0(w:J)(s:Sl)(U:List UInt8):Prop:=Ow w cJ s (U.map bL)
abbrev bx(w:J)(s:Sl)(l:List Int):Prop:=Rd w s (l.map a5)
abbrev zv(w:J)(s:Sl)(l:List Int):Prop:=Ow w cb s (l.map a5)
def Bytes.len{w:J}{s:Sl}{U:List UInt8}(h:Bytes w s U):s.n=U.length:=by simpa using h.1
def bx.len{w:J}{s:Sl}{U:List Int}(h:bx w s U):s.n=U.length:=by simpa using h.1
def Bytes.cell{w:J}{s:Sl}{U:List UInt8}(h:Bytes w s U){i j:Nat}{b:UInt8}(hi:U[i]? =some b)(d:j=i *1){K:Addr->Prop}(k:∀p,s.a=some p->w.cell? (p.add j)=some (.int .u8 (b.toNat:Int))->K p):W.eh s.a K:=
 Rd.get h (i:=i) (v:=bL b) (by simp[hi]) d k
def bx.cell{w:J}{s:Sl}{l:List Int}(h:bx w s l){i j:Nat}{b:Int}(hi:l[i]? =some b)(d:j=i *1){K:Addr->Prop}(k:∀p,s.a=some p->w.cell? (p.add j)=some (.int .i64 b)->K p):W.eh s.a K:=
 Rd.get h (i:=i) (v:=a5 b) (by simp[hi]) d k
def wY{ty:aE}{w:J}{s src:Sl}{xs ys:List UInt8}(B:e0 w s xs)(C:Bytes w src ys)(A:xs.length+ys.length<=140737488355328):
  ∃d h,(eA #[dB,dB] ty #[s.v,src.v]).run V w=.ok d.v h/\e0 h d (xs++ys)/\Fr (λb=>b∈az s) w h/\(∀b∈az d,b∈az s\/w.heap.size<=b)/\(d.a=none->s.a=none/\ys=[]):=by obtain⟨d,h,q,x,y,z,j⟩:=Jj (ty:=ty) jz B C (zM _) (by simpa using A);exact⟨d,h,q,by unfold e0;rw[List.map_append];exact x,y,z,λk=>⟨(j k).1,by simpa using(j k).2⟩⟩
def X0{ty:aE}{w:J}{s src:Sl}{xs ys:List Int}(A:zv w s xs)(B:bx w src ys)(C:xs.length+ys.length<=10000000000000):
  ∃d h,(eA #[jj,jj] ty #[s.v,src.v]).run V w=.ok d.v h/\zv h d (xs++ys)/\Fr (λb=>b∈az s) w h/\(∀b∈az d,b∈az s\/w.heap.size<=b)/\(d.a=none->s.a=none/\ys=[]):=by obtain⟨d,h,q,x,y,z,j⟩:=Jj (ty:=ty) iH A B (su _) (by simp;omega);exact⟨d,h,q,by unfold zv;rw[List.map_append];exact x,y,z,λk=>⟨(j k).1,by simpa using(j k).2⟩⟩
def Sb(w:J)(T:aE)(cs:List aa)(h:cs.length<=1000000):Rd (w.alloc (.cells cs.toArray T)) ⟨some ⟨w.heap.size,0,none⟩,cs.length,cs.length⟩ cs:=(Ow.made w T cs _ rfl h).rd
def GS(w:J)(b:UInt8):Bytes (w.alloc (.cells #[.int .u8 (b.toNat:Int)] cJ)) ⟨some ⟨w.heap.size,0,none⟩,1,1⟩ [b]:=Sb w cJ [bL b] ws
def one_num(w:J)(b:Int):bx (w.alloc (.cells #[.int .i64 b] cb)) ⟨some ⟨w.heap.size,0,none⟩,1,1⟩ [b]:=Sb w cb [a5 b] ws
def bl(s:ByteArray):List UInt8:=s.data.toList
def ba(l:List UInt8):ByteArray:=⟨l.toArray⟩
def gm(l:List UInt8):bl (ba l)=l:=rfl
def jt(s:ByteArray):ba (bl s)=s:=rfl
def dY(s:ByteArray):(bl s).length=s.size:=rfl
def bU(l:List UInt8):(ba l).size=l.length:=by simp[ba,ByteArray.size]
def agc(s:ByteArray):strCells s=(bl s).map bL:=by simp[strCells,bl,bL]
def vZ:Tryz.prog.underlying dv=some .string:=by kernel_rfl
def Iz:Tryz.prog.underlying cJ=some (.int .u8):=by kernel_rfl
def Jk{ty:aE}{w:J}{s:Sl}{xs:List UInt8}(A:e0 w s xs)(t:ByteArray)(hb:xs.length+t.size<=140737488355328):
  ∃d j,(eA #[dB,dv] ty #[s.v,.string t]).run V w=.ok d.v j/\e0 j d (xs++bl t)/\Fr (λb=>b∈az s) w j/\(∀b∈az d,b∈az s\/w.heap.size<=b):=by
 obtain⟨i,C,O,F,I⟩:=info_parts jz.hi;have L:s.n=xs.length:=by simpa using A.1
 have main:∀base,base<=w.heap.size->w.ownsRow base cJ 1 s.v s.n (xs.map bL)->∃z j,(eA #[dB,dv] ty #[s.v,.string t]).run V w=.ok z j/\j.ownsRow base cJ 1 z (s.n+t.size) (xs.map bL++strCells t)/\w.grownBy j s.v.ownBlock/\(z=.slice none 0 0↔s.v=.slice none 0 0/\t.size=0):=
  λbase W U=>run_append_own_string (P:=V) w base dB dv ty cJ i jz.ht vZ C O F I s.v s.n (xs.map bL) U t (by unfold maxLen;omega) co W
 obtain⟨z,j,B,N,ac,al⟩:=main 0 (dW _) A.2;have hv:∃d:Sl,z=d.v/\d.n=s.n+t.size:=by
  rcases N.2 with⟨k,y⟩|⟨g,cap,cur,k,_⟩
  .exact ⟨⟨none,0,0⟩,k,by show 0=_;omega⟩
  .exact ⟨⟨_,_,_⟩,k,rfl⟩
 obtain⟨d,rfl,M⟩:=hv;have Z:Fr (λb=>b∈az s) w j:=by
  refine Fr.grown ac λg h=>?_;rw[Sm]at h;cases E:s.a with
  |none=>simp[E]at h
  |some p=>simp[E]at h;simp[az,E,h]
 refine⟨d,j,B,⟨?_,?_⟩,Z,?_⟩
 .rw [M,L];simp[dY]
 .have y:=N;rw[agc,<-List.map_append]at y;unfold aG;rw[M];exact y
 .intro g h;rcases A.2.cases with⟨rfl,hx⟩|⟨x,cur,K,ab,ad,ak,Y,ah⟩
  .obtain ⟨v2,w2,ag,ae,_,_⟩:=main w.heap.size (Nat.le_refl _) (by rw[hx];exact World.ownsRow_nil w _ _ _);have q:(Result.ok d.v j:Result aa)=.ok v2 w2:=B.symm.trans ag;have S:=(Result.ok.inj q).1;subst S;rcases ae.2 with⟨k,_⟩|⟨T,ai,aj,k,y,_⟩
   .have:d.a=none:=(Value.slice.inj k).1;simp[az,this]at h
   .have:d.a=some ⟨T,0,none⟩:=(Value.slice.inj k).1;simp[az,this]at h;exact .inr (h▸y)
  .obtain ⟨am,H,G⟩:=s;simp only at K ad Y ah L;subst K;by_cases af:H+t.size<=G
   .have D:=run_append_room_string (P:=V) w dB dv ty cJ i jz.ht vZ C F x H G cur ab t af co;have q:=B.symm.trans D;have:d.a=some ⟨x,0,none⟩:=(Value.slice.inj (Result.ok.inj q).1).1;simp[az,this]at h ⊢;exact .inl h
   .have holds:∀Q u,(xs.map bL)[Q]? =some u->w.cell? ((⟨x,0,none⟩:Addr).add Q)=some u:=World.ownsRow.cells (g:=x) A.2 rfl;have D:=run_append_grow_string (P:=V) w dB dv ty cJ i (.int .u8 0) jz.ht vZ C O ⟨x,0,none⟩ H G (xs.map bL) (by rw[F];simp;omega) holds t co co (growslice_fits co (by rw[I];omega));have q:=B.symm.trans D;have:d.a=some ⟨w.heap.size,0,none⟩:=(Value.slice.inj (Result.ok.inj q).1).1;simp[az,this]at h;exact .inr co
def kR{w:J}{s:Sl}{U:List UInt8}(h:Bytes w s U):(Go.convert dB dv s.v).run V w=.ok (.string (ba U)) w:=by
 obtain⟨a,n,c⟩:=s;have j:=Bytes.len h;simp only at j;subst j;cases a with
 |none=>
  obtain⟨d,q⟩:=h.2.2.1 rfl;simp only at d q;obtain rfl:U=[]:=vC d;rw[run_convert_bytes_string (P:=V) w dB dv cJ _ _ _ jz.ht Iz vZ];rfl
 |some p=>
  refine run_convert_bytes_back (P:=V) w dB dv cJ p c U jz.ht Iz vZ λk y=>?_;obtain⟨A,z,x⟩:=h.2.2.2 k (bL U[k]) (by simp[a' y]);cases z;exact x
def yX(w:J)(t:ByteArray):∃h d,(Go.convert dv dB (.string t)).run V w=.ok h.v d/\Bytes d h (bl t)/\af w d/\(∀b∈az h,w.heap.size<=b/\b<d.heap.size):=by
 refine⟨⟨some ⟨w.heap.size,0,none⟩,t.size,grownCap w t.size 0 cJ⟩,_,run_bytes_of_string (P:=V) w dv dB cJ t vZ jz.ht Iz,⟨?_,?_,?_⟩,?_,?_⟩
 .simp [dY]
 .exact grownCap_ge w t.size 0 _
 .refine Row.uz (T:=cJ) (.inr ⟨w.heap.size,0,_,_,rfl,kX w.drew _,λi v j=>?_⟩);rw[Nat.zero_add,bytesRow,Array.getElem?_append];have q:i<t.data.size:=by have:=(List.getElem?_eq_some_iff.1 j).1;simpa[bl]using this
  rw[au (by simpa using q)];simpa[bl,bL]using j
 .exact (Fr.drew _ w).dO (Fr.alloc _ _ _)
 .intro b k;simp[az]at k;have:(w.drew.alloc (.cells (bytesRow t (grownCap w t.size 0 cJ)) cJ ((bytesRow t (grownCap w t.size 0 cJ)).size,(bytesRow t (grownCap w t.size 0 cJ)).size+1))).heap.size=w.heap.size+1:=size_alloc _ _;omega
def NS{t e:aE}{z:aa}{bytes:Nat}(h:g7 V t e z 1 bytes)(w:J)(k j:ix)(n:Nat)(F:n *bytes<=140737488355328):
  ∃d,(Instr.makeSlice t (.int k 0) (.int j (n:Int))).run V w=.ok (.slice (some ⟨w.heap.size,0,none⟩) 0 n) d/\Ow d e ⟨some ⟨w.heap.size,0,none⟩,0,n⟩ []/\af w d:=by
 obtain⟨i,C,E,D,B⟩:=info_parts h.hi;have G:n<=140737488355328:=by have:=Nat.le_mul_of_pos_right n h.hb;omega
 obtain⟨d,x,y,A⟩:=run_make_own (P:=V) w 0 t e i z 1 h.ht C E D k j n (by rw[B,Nat.mul_comm];omega) (by unfold maxLen;omega) (dW _);exact⟨d,x,⟨rfl,y⟩,Fr.grown A λ_ q=>by cases q⟩
def By{w:J}{s:Sl}{vs:List aa}(q:s.n=vs.length)(k:s.n<=s.c)(d:s.a=none->s.c=0)(h:∀i v,vs[i]? =some v->∃p,s.a=some p/\w.cell? (p.add i)=some v):Rd w s vs:=
 ⟨q,k,λj=>⟨by have:=d j;omega,d j⟩,h⟩
def ArgNums(w:J)(s:Sl):Prop:=∃l:List Int,bx w s l/\l.length<=9223372036854775807/\∀d∈l,-9223372036854775808<=d/\d<=9223372036854775807
def arg_nums_nil(w:J):ArgNums w ⟨none,0,0⟩:=⟨[],Rd.nil w,ws,ws⟩
def arg_nums(w:J)(x:Addr)(len cap:Nat)(d:List Int)(C:len<=d.length)(y:len<=cap)(B:cap<=maxLen)(q:∀i,i<d.length->w.cell? (x.add i)=some (.int .i64 (d.getD i 0)))(A:∀n∈d,IntKind.min .i64<=n/\n<=IntKind.max .i64):ArgNums w ⟨some x,len,cap⟩:=by
 refine⟨d.take len,By (by simp;omega) y (λk=>by cases k) (λi v h=>?_),?_,λn z=>A n (List.mem_of_mem_take z)⟩
 .rw [List.getElem?_map,List.getElem?_take]at h;split at h
  .have j:i<d.length:=co
   refine⟨x,rfl,?_⟩;rw[q i j,List.getD_eq_getElem?_getD];rw[a' j]at h ⊢;simpa[a5]using h
  .simp at h
 .have:len<=maxLen:=co
  unfold maxLen at this;simp;omega
def iV(w:J)(U:List UInt8):aK:=λr d=>∃s:Sl,r=ae s.v/\e0 d s U/\af w d/\∀b∈az s,w.heap.size<=b
def hB(n m:Int):Int:=if n<0 then Int.tmod (0 - (n+1)) m else Int.tmod n m
def kc(n m:Int)(d:1<=m):0<=hB n m/\hB n m<m:=by
 unfold hB;split
 .exact ⟨Int.tmod_nonneg _ co,Int.tmod_lt_of_pos _ co⟩
 .exact ⟨Int.tmod_nonneg _ co,Int.tmod_lt_of_pos _ co⟩
abbrev aY(n:Int):Prop:=-9223372036854775808<=n/\n<=9223372036854775807
def Dz(n m:Int)(w:J)(x:1<=m)(h:aY n):
  ai V vb #[.int .i64 n,.int .i64 m] w λr j=>r=ae (.int .i64 (hB n m))/\w=j:=by
 obtain⟨k,q⟩:=h;refine KZ.ok ?_;refine bT (λh=>?_) (λh=>?_)
 .have d:n<0:=by simpa using h
  refine⟨co,?_,rfl⟩;rw[show aj .i64 (n+1)=n+1 from aQ _ co,show aj .i64 (0 - (n+1))=0 - (n+1)from aQ _ co];unfold hB;rw[au d]
 .have d:¬n<0:=by simpa using h
  refine⟨co,?_,rfl⟩;unfold hB;rw[ag d]
def afo{w:J}{s t:Sl}{a b:List Int}(z:bx w s a)(A:bx w t b)(H:a.length<=1000000000000):
  ai V Od #[s.v,t.v] w λr h=>r=ae (.bool (av (a=b)))/\af w h:=by
 have j:=bx.len z;have y:=bx.len A;refine uK.ok ?_;refine bT (λd=>?_) (λd=>?_)
 .refine ⟨?_,Fr.refl _ _⟩;have:a≠b:=λe=>by subst e;rw[j,y]at d;simp at d
  simp[this]
 .have hlen:a.length=b.length:=by rw[j,y]at d;simp at d;omega
  have main:∀(n i:Nat),i+n=a.length->a.take i=b.take i->∀h,af w h->uK.L0 s t (i:Int) h λr h=>r=ae (.bool (av (a=b)))/\af w h:=by
   intro n;induction n with
   |zero=>
    intro i D q h x;refine uK.bE ?_;refine aN (by rw[j];simp;omega) ⟨?_,x⟩;rw[List.take_of_length_le co,List.take_of_length_le co]at q;simp[q]
   |succ n G=>
    intro i D q h x;have B:a[i]? =some a[i]:=a' co;have C:b[i]? =some b[i]:=a' co;refine uK.bE ?_;have k:af w h.drew:=x.dO (Fr.drew _ _);refine aM (by rw[j];simp;omega) ⟨co,by rw[j];omega,bx.cell (z.bz k) B ws λp _ E=>⟨_,E,co,by rw[y];omega,bx.cell (A.bz k) C ws λI _ F=>⟨_,F,bT (λd=>?_) (λd=>?_)⟩⟩⟩
    .refine ⟨?_,k⟩;have:a≠b:=λe=>by subst e;simp at d
     simp[this]
    .show uK.L0 s t (aj .i64 ((i:Int)+1)) _ _;rw[show aj .i64 ((i:Int)+1)=((i+1:Nat):Int)from by rw[aQ _ co];omega];refine G (i+1) co ?_ _ k;have e:a[i]=b[i]:=by simpa using d
     rw[dV,dV,B,C,q,e]
  exact main a.length 0 co ws w (Fr.refl _ _)
def ew(n:Nat):List UInt8:=if n<128 then[db n]else db (n%128+128)::ew (n / 128)
termination_by n
decreasing_by omega
def mG{n:Nat}(h:n<128):ew n=[db n]:=by rw[ew,au h]
def ny{n:Nat}(h:¬n<128):ew n=db (n%128+128)::ew (n / 128):=by rw[ew,ag h]
def aau(n:Nat):ew n≠[]:=by
 by_cases d:n<128
 .rw [mG d];simp
 .rw [ny d];simp
def KV:∀(d n:Nat),n<2 *128^d->(ew n).length<=d+1
 |0,n,h=>by rw[mG co];simp
 |d+1,n,h=>by
  by_cases j:n<128
  .rw [mG j];simp
  .rw [ny j];have:=KV d (n / 128) (by rw[Nat.pow_succ]at h;omega);simp;omega
inductive RU where
 |more
 |form
 |ok (n:Nat) (rest:List UInt8)
def ju(k:Nat)(c:UInt8):Bool:=(k==9&&av (1<c.toNat))||(av (0<k)&&c.toNat==0)
def jy:Nat->List UInt8->RU
 |_,[]=>.more
 |d,c::l=>if ju d c then .form else if c.toNat<128 then .ok c.toNat l else
  match jy (d+1) l with
  |.ok n r=>.ok (c.toNat%128+128 *n) r
  |.more=>.more
  |.form=>.form
def KH:∀(d k n:Nat) (r:List UInt8),k+d=9->n<2 *128^d->(0<k->0<n)->jy k (ew n++r)=.ok n r
 |d,k,n,r,A,q,y=>by
  by_cases h:n<128
  .rw [mG h];have j:ju k (db n)=false:=by
    have e:(db n).toNat=n:=by simp;omega
    unfold ju;rw[e];simp;refine⟨λw=>?_,λx=>by have:=y x;omega⟩;subst w;have:d=0:=co
    subst this;simp at q;omega
   have e:(db n).toNat=n:=by simp;omega
   simp[jy,j,e,h]
  .rw [ny h];have e:(db (n%128+128)).toNat=n%128+128:=by simp;omega
   match d with
   |0=>simp at q;omega
   |d+1=>
    have j:ju k (db (n%128+128))=false:=by unfold ju;rw[e];simp;omega
    have z:=KH d (k+1) (n / 128) r co (by rw[Nat.pow_succ]at q;omega) co;simp only[List.cons_append,jy,j,e,z];rw[ag ws,ag co];congr 1;omega
def z0:∀(d k:Nat) (U:List UInt8) (n:Nat) (r:List UInt8),k+d=9->jy k U=.ok n r->U=ew n++r/\n<2 *128^d/\(0<k->0<n)
 |_,_,[],_,_,_,h=>by simp[jy]at h
 |d,k,c::l,n,r,L,h=>by
  have K:=c.toNat_lt;simp only[jy]at h;cases y:ju k c with
  |true=>rw[y]at h;simp at h
  |false=>
   rw[y]at h;simp at h;have j:=y;unfold ju at j;simp at j;by_cases w:c.toNat<128
   .rw [au w]at h;injection h with z x
    subst z x;refine⟨by rw[mG w];simp,?_,λF=>by have:=j.2 F;omega⟩
    match d with
    |0=>have:=j.1 co;simp;omega
    |d+1=>rw[Nat.pow_succ];have:=Nat.pow_pos (n:=d) (show 0<128 by omega);omega
   .rw [ag w]at h
    match d with
    |0=>have:=j.1 co;omega
    |d+1=>
     cases q:jy (k+1) l with
     |more=>rw[q]at h;cases h
     |form=>rw[q]at h;cases h
     |ok A G=>
      rw[q]at h;injection h with z x
      obtain⟨B,H,C⟩:=z0 d (k+1) l A G co q;have I:=C co;subst x;refine⟨?_,by rw[Nat.pow_succ];omega,λ_=>co⟩;rw[ny co];have D:n%128+128=c.toNat:=co
      have E:n / 128=A:=co
      rw[D,E,B];simp
structure RS where
 U:List UInt8
 err:Int
def ft(s:RS):Nat×RS:=
 if s.err≠0 then(0,s)else
 match jy 0 s.U with
 |.more=>(0,⟨s.U,3⟩)
 |.form=>(0,⟨s.U,2⟩)
 |.ok n r=>(n,⟨r,0⟩)
def zz(n:Int):Nat:=if 0<=n then(2 *n).toNat else(-(2 *n) - 1).toNat
def oZ(u:Nat):Int:=if u%2=0 then(u / 2:Nat)else -((u / 2:Nat):Int) - 1
def agW(n:Int):oZ (zz n)=n:=by unfold oZ zz;split<;>split<;>omega
def ahk(u:Nat):zz (oZ u)=u:=by unfold oZ zz;split<;>split<;>omega
def Cz(n:Int)(d:-9223372036854775808<=n)(h:n<=9223372036854775807):zz n<18446744073709551616:=by unfold zz;split<;>omega
def WD(u:Nat)(h:u<18446744073709551616):-9223372036854775808<=oZ u/\oZ u<=9223372036854775807:=by unfold oZ;split<;>omega
def bd(s:RS):Int×RS:=(oZ (ft s).1,(ft s).2)
def iQ(s:RS):Nat×RS:=
 let (n,s'):=ft s
 if s'.err≠0 then(0,s')else if s'.U.length<n then(0,⟨s'.U,3⟩)else(n,s')
def cA(s:RS):List UInt8×RS:=
 let (n,s'):=iQ s
 if s'.err≠0 then([],s')else(s'.U.take n,⟨s'.U.drop n,0⟩)
def fo:Nat->RS->List Int×RS
 |0,s=>([],s)
 |n+1,s=>
  let (x,s'):=bd s
  if s'.err≠0 then([],s')else
  let (l,HL):=fo n s'
  if HL.err≠0 then([],HL)else(x::l,HL)
def c'(s:RS):List Int×RS:=
 let (n,s'):=iQ s
 if s'.err≠0 then([],s')else fo n s'
def iP(s:RS):Int:=if s.err≠0 then s.err else if 0<s.U.length then 2 else 0
def bJ(n:Int):List UInt8:=ew (zz n)
def dF(b:List UInt8):List UInt8:=ew b.length++b
def cY(l:List Int):List UInt8:=ew l.length++l.flatMap bJ
def eM(n:Nat)(h:n<18446744073709551616):(ew n).length<=10:=KV 9 n (by simpa using h)
def dk(n:Int)(h:aY n):(bJ n).length<=10:=eM _ (Cz n h.1 h.2)
namespace Ch
abbrev P0:Ps:=[]
abbrev b3:=ak (ax V Tryz.f161 [] [1]) [0,1,1,1,3] P0
abbrev t1:=ao b3
abbrev cd:=ak t1 [0,1,1,1,4] P0
abbrev t2:=ao cd
abbrev dc:=ak t2 [5] P0
abbrev t3:=ao dc
abbrev bt:=ak t3 [3] [(1,.l [.I,.I,.I] cF),(3,.I),(4,.I),(5,.b)]
abbrev t4:=ao bt
def aC:=ay t4 Ro [.a 3,.I,.I,.I]
end Ch
namespace oW
abbrev P0:Ps:=[]
abbrev S0:=ak (ax V Tryz.f160 [] []) [0,1,1,1,1] P0
abbrev t1:=ao S0
abbrev P1:Ps:=[(0,.st),(3,.I)]
def L1:=bh t1 [0,1,1,1,2] P1
abbrev t2:=bg L1
abbrev S4:=ak t2 [0,1,3,2,1,2,1,1,2] P0
abbrev t3:=ao S4
abbrev S5:=ak t3 [2,2,1,1,2] P1
abbrev t4:=ao S5
abbrev S3:=ak t4 [2,2,1,2,1,1,2] [(0,.st),(3,.I),(4,.Y),(5,.b)]
abbrev t5:=ao S3
abbrev S2:=ak t5 [1,2,1,2,1,1,2] [(0,.st),(3,.I),(4,.Y)]
abbrev t6:=ao S2
def fO:=bm t6 L1
def ok:=ay t6 Rb [.st]
end oW
namespace y3
abbrev S1:=ak (ax V Tryz.f133 [] []) [3] [(0,.r),(3,.b),(4,.b),(5,.b),(6,.b)]
abbrev t1:=ao S1
abbrev S0:=ak t1 [0,1,1,1,1,1,2] [(0,.r),(3,.b),(4,.b),(5,.b)]
abbrev t2:=ao S0
abbrev S3:=ak t2 [0,1,7,1,1,1,2] [(0,.r),(4,.b),(5,.b),(6,.b)]
abbrev t3:=ao S3
abbrev S2:=ak t3 [2,1,1,1,2] [(0,.r),(3,.b),(4,.b),(5,.b),(6,.b),(10,.I)]
abbrev t4:=ao S2
def ok:=ay t4 QZ [.r]
end y3
namespace Wd
def aC:=ay (ax V Tryz.f166 [] [2]) QY [.I]
end Wd
namespace Wl
def aC:=ay (ax V Tryz.f162 [] [2]) Rm [.I]
end Wl
namespace Wf
def aC:=ay (ax V Tryz.f165 [] [1]) Ra [.a 3,.I,.I,.I]
end Wf
namespace Wh
def aC:=ay (ax V Tryz.f168 [] [1]) Rc [.a 3,.I,.I,.I]
end Wh
namespace We
def aC:=ay (ax V Tryz.f163 [] [1]) Q' [.a 3,.I,.I,.I]
end We
namespace V'
def aC:=ay (ax V Tryz.f167 [] [2,3]) QU [.a 3,.I,.I,.I,.a 3,.I,.I,.I]
end V'
namespace Wj
def aC:=ay (ax V Tryz.f164 [] [3,6]) A1 [.a 3,.I,.I,.I,.b,.b]
end Wj
namespace Im
abbrev S0:=ak (ax V Tryz.f134 [(7,lr 9)] []) [4] [(0,.r),(4,.r)]
abbrev t1:=ao S0
def ok:=ay t1 Rl [.r,.f]
end Im
namespace Il
abbrev bt:=ak (ax V Tryz.f135 [(14,lr 19)] [2]) [6] [(0,.r),(2,.l [.I,.I,.I] cF)]
abbrev t1:=ao bt
def aC:=ay t1 Rj [.r]
end Il
namespace Ik
abbrev bt:=ak (ax V Tryz.f136 [(4,lr 8),(7,ls [1,0,2,3,4,5,6,7,8,9,10,11,12]),(9,ls [1,2,0,3,4,5,6,7,8]),(14,lr 14),(16,ls [0,1,2,3,4,6,12,13,14,15,16,17,5,7,8,9,10,11,18,19,20,21,22]),(18,ls [0,1,2,3,4,5,6,7,8,9,11,13,14,15,16,17,10,12,18,19,20,21,22,23,24,25,26,27,28,29,30,31,32,33,34,35,36,37,38,39,40,41,42]),(21,ls [0,1,2,3,4,5,6,8,10,11,12,13,14,7,9,15,16,17,18,19,20,21,22,23,24,25,26,27,28,29]),(22,lr 13)] [5,6,7,8,10]) [0,1,1,1,1,1,1] [(5,.l [.I,.I,.I] cF),(8,.l [.I,.I,.I] cF)]
abbrev t1:=ao bt
abbrev P0:Ps:=[(5,.l [.I,.I,.I] cF),(6,.l [.I,.I,.I] cF),(8,.l [.I,.I,.I] cF)]
abbrev cd:=ak t1 [0,1,3,1,1,1,1] P0
abbrev t2:=ao cd
abbrev hx:=ak t2 [2,1,7,1,1,1,1] [(5,.l [.I,.I,.I] cF),(6,.l [.I,.I,.I] cF),(7,.l [.I,.I,.I] cF),(8,.l [.I,.I,.I] cF),(10,.l [.I,.I,.I] cF)]
abbrev t3:=ao hx
abbrev mz:=ak t3 [0,1,13,1,1,1,1] [(0,.r),(5,.l [.I,.I,.I] cF),(8,.l [.I,.I,.I] cF)]
abbrev t4:=ao mz
abbrev jN:=ak t4 [2] P0
abbrev t5:=ao jN
abbrev P1:Ps:=[(0,.r),(5,.l [.I,.I,.I] cF),(6,.l [.I,.I,.I] cF),(7,.l [.I,.I,.I] cF),(8,.l [.I,.I,.I] cF),(14,.I)]
abbrev dc:=ak t5 [4,1,1,1,1] P1
abbrev t6:=ao dc
abbrev b3:=ak t6 [2,1,1,1,1] P1
abbrev t7:=ao b3
def aC:=ay t7 Ri [.r,.a 3,.I,.I,.I,.a 3,.I,.I,.I,.a 3,.I,.I,.I]
end Ik
namespace B5
abbrev b3:=ak (ax V Tryz.f137 [(2,ls [0,1,3,2,4,5,6,7,8,9,10,11,12,13,14]),(6,lr 10),(10,lr 18),(11,lr 12)] [5,6,7,8,10]) [5] [(0,.r),(5,.l [.I,.I,.I] cF),(7,.l [.I,.I,.I] cF),(8,.l [.I,.I,.I] cF),(10,.l [.I,.I,.I] cF),(11,.b)]
abbrev t1:=ao b3
abbrev bt:=ak t1 [4] [(0,.r),(5,.l [.I,.I,.I] cF),(6,.l [.I,.I,.I] cF),(7,.l [.I,.I,.I] cF),(8,.l [.I,.I,.I] cF),(10,.l [.I,.I,.I] cF)]
abbrev t2:=ao bt
def aC:=ay t2 Rh [.r,.a 3,.I,.I,.I,.a 3,.I,.I,.I,.a 3,.I,.I,.I]
end B5
namespace Wk
def aC:=ay (ax V Tryz.f138 [(3,ls [1,0,2,3,4,5,6,7]),(5,ls [1,3,4,5,6,7,0,2,8,9,10,11,12,13,14,15,16,17,18,19]),(7,ls [0,1,2,3,4,6,12,13,14,15,16,17,5,7,8,9,10,11,18,19,20,21,22]),(9,lr 18),(11,ls [1,0,2,3,4,5,6,7,8,9,10,11]),(13,ls [0,1,2,3,4,6,16,17,18,19,20,21,5,7,8,9,10,11,12,13,14,15,22,23,24,25,26]),(15,ls [1,0,2,3,4,5,6,7,8])] [5,6,7,8]) Rk [.r,.a 3,.I,.I,.I,.a 3,.I,.I,.I,.a 3,.I,.I,.I]
end Wk
namespace rp
abbrev P0:Ps:=[(6,.l [.I,.I,.I] cF)]
abbrev bt:=ak (ax V Tryz.f111 [(1,lr 18)] [6,11]) [0,1,1,1,1] P0
abbrev t1:=ao bt
def cy:=bh t1 [0,1,1,1,3] [(0,.s),(2,.f),(4,.r),(6,.l [.I,.I,.I] cF),(8,.r),(34,.I),(35,.I)]
abbrev t2:=bg cy
abbrev cd:=ak t2 [0,1,1,1,2,2,2,2,1,1,3] P0
abbrev t3:=ao cd
abbrev dc:=ak t3 [8] [(6,.l [.I,.I,.I] cF),(11,.l [.I,.I,.I] cF),(12,.I)]
abbrev t4:=ao dc
def dH:=bm t4 cy
def aC:=ay t4 Rg [.s,.a 9,.I,.s,.I,.I,.U,.st,.I,.I,.I,.f]
end rp
namespace U0
def ok:=ay (ax V Tryz.f54 [] []) Qm [.s]
end U0
namespace wk
def L0:=bh (ax V Tryz.f52 [] []) [0,2] [(0,.r),(1,.U)]
abbrev t1:=bg L0
def bE:=bm t1 L0
def ok:=ay t1 RC [.r,.U]
end wk
namespace WX
def ok:=ay (ax V Tryz.f24 [] []) Rz [.r,.I]
end WX
namespace ry
def L0:=bh (ax V Tryz.f53 [] []) [0,1,2] [(0,.r),(11,.s),(12,.I),(13,.I)]
abbrev t1:=bg L0
def bE:=bm t1 L0
def ok:=ay t1 yi [.r,.s]
end ry
namespace WY
def ok:=ay (ax V Tryz.f25 [] []) RA [.r,.s]
end WY
namespace WZ
def ok:=ay (ax V Tryz.f83 [] []) RB [.r,.st]
end WZ
namespace WW
def ok:=ay (ax V Tryz.f28 [] []) Ry [.r]
end WW
namespace Wm
def ok:=ay (ax V Tryz.f46 [] []) Rn [.r,.r]
end Wm
namespace Wi
def ok:=ay (ax V Tryz.f113 [] []) Re [.r]
end Wi
namespace Wc
def aC:=ay (ax V Tryz.f112 [] [3,5]) GA [.st,.r]
end Wc
namespace Wb
def aC:=ay (ax V Tryz.f80 [(1,lr 11)] [3,4]) QX [.r,.a 9,.I,.s,.I,.I,.U,.st,.I,.I,.I]
end Wb
namespace Wa
def ok:=ay (ax V Tryz.f81 [(1,lr 11)] []) QV [.r,.a 9,.I,.s,.I,.I,.U,.st,.I,.I,.I]
end Wa
namespace B4
abbrev S0:=ak (ax V Tryz.f82 [(1,ls [0,1,2,3,5,6,7,8,9,4,10]),(3,lr 9),(4,lr 11)] []) [3] [(0,.r),(3,.r)]
abbrev t1:=ao S0
def ok:=ay t1 QW [.r,.a 9,.I,.s,.I,.I,.U,.st,.I,.I,.I]
end B4
namespace y4
def a6:=bh (ax V Tryz.f79 [] [1,5]) [0,1,1,1,2] [(3,.r),(11,.s),(12,.I),(13,.I)]
abbrev t1:=bg a6
def bD:=bm t1 a6
def aC:=ay t1 Rf [.a 1,.s]
end y4
namespace y2
def a6:=bh (ax V Tryz.f45 [] [1,5,6]) [0,1,1,1,3] [(3,.p),(17,.s),(18,.I),(19,.I)]
abbrev t1:=bg a6
def bD:=bm t1 a6
def aC:=ay t1 QT [.a 1,.s]
end y2
namespace y1
def a6:=bh (ax V Tryz.f17 [] [1]) [0,1,1,1,4] [(1,.l [.s] Cb),(5,.r),(18,.I),(19,.I)]
abbrev t1:=bg a6
def bD:=bm t1 a6
def aC:=ay t1 QS [.a 1,.s]
end y1
def fQ(w:J)(d:Nat)(U:List UInt8)(own:List Nat):Prop:=
 ∃s:Sl,own=d::az s/\w.heap[d]? =some (.cells #[s.v] tt (0,0))/\e0 w s U
def Bg{w:J}{e T:aE}{s:Sl}{vs:List aa}(h:Ow w e s vs){b:Nat}{cs:Array aa}{f:Nat×Nat}(d:w.heap[b]? =some (.cells cs T f))(j:e≠T):b∉az s:=λq=>by
 obtain⟨y,z,k⟩:=h.2.row.wh b q;rw[k]at d;injection d with d
 injection d with _ x _
 exact j x
def fQ.lt{w:J}{q:Nat}{U:List UInt8}{own:List Nat}(h:fQ w q U own):∀b∈own,b<w.heap.size:=by
 obtain⟨s,rfl,j,k⟩:=h;intro b d;rcases aq.1 d with rfl|d
 .exact lt_of_heap j
 .exact k.lt b d
def fQ.new(w:J):fQ (w.alloc (.cells #[.slice none 0 0] tt)) w.heap.size [] [w.heap.size]:=⟨⟨none,0,0⟩,rfl,kX w _,Ow.nil _ _⟩
def jo(w:J)(j:Nat)(own:List Nat)(U:List UInt8)(Y:J):Prop:=∃d,fQ Y j U d/\Fr (·∈own) w Y/\∀h∈d,h∈own\/w.heap.size<=h
def nn(w:J)(h:Nat)(own:List Nat)(U:List UInt8):aK:=λr d=>r=ae (.tuple #[])/\jo w h own U d
def jo.refl{w:J}{d:Nat}{own:List Nat}{U:List UInt8}(h:fQ w d U own):jo w d own U w:=⟨own,h,Fr.refl _ _,λ_ h=>.inl h⟩
def jo.then{w Y z:J}{A:Nat}{own y:List Nat}{j:List UInt8}(k:Fr (·∈own) w Y)(q:∀d∈y,d∈own\/w.heap.size<=d)(h:jo Y A y j z):jo w A own j z:=by
 obtain⟨C,r,f,o⟩:=h;refine⟨C,r,k.trans f λd x B=>?_,λd x=>?_⟩
 .rcases q d B with h|h
  .exact h
  .omega
 .rcases o d x with h|h
  .exact q d h
  .exact .inr (Nat.le_trans k.size h)
def IL{w y h:J}{d:Nat}{s s':Sl}{U A:List UInt8}(D:w.heap[d]? =some (.cells #[s.v] tt (0,0)))(G:e0 w s U)(q:af w y)(E:e0 h s' A)(B:Fr (·∈az s) y h)(I:∀b∈az s',b∈az s\/y.heap.size<=b):
  (h.cell? ((ab d).add 0)).isSome=true/\h.frozen? ((ab d).add 0)=false/\jo w d (d::az s) A (h.setCell ((ab d).add 0) s'.v):=by
 have K:d∉az s:=Bg G D md;have k:=B.at (q.at D id) K;have F:(h.setCell ((ab d).add 0) s'.v).heap[d]? =_:=setAt (p:=ab d) (i:=0) (v:=s'.v) k rfl;have C:Fr (·=d) h (h.setCell ((ab d).add 0) s'.v):=Fr.set _ _ _ rfl
 have L:d∉az s':=Bg E k md;refine⟨by rw[cellAt (p:=ab d) k rfl rfl];rfl,frozenAt (p:=ab d) k,d::az s',⟨s',rfl,F,E.fr C λb H e=>L (e▸H)⟩,?_,?_⟩
 .exact ((q.pI (M:=(·∈d::az s))).trans B λz _ j=>by simp[j]).trans C λz _ j=>by simp[j]
 .intro z j;rcases aq.1 j with rfl|j
  .exact .inl ws
  .rcases I z j with x|x
   .exact .inl (by simp[x])
   .exact .inr (Nat.le_trans q.size x)
def zh{w:J}{d:Nat}{s:Sl}(h:w.heap[d]? =some (.cells #[s.v] tt (0,0))):w.cell? ((ab d).add 0)=some s.v:=cellAt (p:=ab d) h rfl rfl
def WN{w:J}{h:Nat}{s:Sl}{U:List UInt8}(F:w.heap[h]? =some (.cells #[s.v] tt (0,0)))(k:e0 w s U)(I:U.length<100000000000000)(c:UInt8)(K:J->Prop)(E:∀q,jo w h (h::az s) (U++[c]) q->K q):
  ∃(t15:W.Sl) (d:J),Sem.run V (eA #[dB,dB] dB #[s.v,.slice (some (Addr.mk w.heap.size 0 none)) 1 1]) (w.alloc (.cells #[.int .u8 (c.toNat:Int)] cJ))=.ok (t15.v) d/\(d.cell? ((ab h).add 0)).isSome=true/\d.frozen? ((ab h).add 0)=false/\K (d.setCell ((ab h).add 0) (t15.v)):=by have j:af w (w.alloc (.cells #[.int .u8 (c.toNat:Int)] cJ)):=Fr.alloc _ _ _;obtain⟨G,d,A,B,C,D,H⟩:=wY (ty:=dB) (k.bz j) (GS w c) (by simp;omega);obtain⟨x,y,z⟩:=IL F k j B C D;exact⟨G,d,A,x,y,E _ z⟩
def ag6{k:Nat}(R:aK):∀(n:Nat) (w:J) (U:List UInt8) (own:List Nat),n<18446744073709551616->U.length+(ew n).length<=100000000000000->fQ w k U own->(∀d,jo w k own (U++ew n) d->R (ae (.tuple #[])) d)->
  wk.L0 (ab k) (n:Int) w R:=by
 intro n;induction n using Nat.strongRecOn with
 |_ n F=>
  intro w U own L h D A;obtain⟨s,rfl,q,z⟩:=D;refine wk.bE ?_;refine bT (λx=>?_) (λx=>?_)
  .have j:¬n<128:=by simp at x;omega
   rw[ny j]at h;have e:aj .u8 (n:Int)=_:=Iy n;refine⟨s,zh q,?_⟩;rw[e,Yb _ co];have B:((n%256%128+128:Nat):Int)=((db (n%128+128)).toNat:Int):=by simp;omega
   rw[B];refine WN q z (by simp at h;omega) (db (n%128+128)) (λd=>wk.L0 (ab k) (Int.fdiv (n:Int) (2^7)) d R) λd y=>?_;show wk.L0 (ab k) (Int.fdiv (n:Int) (2^7)) d R;rw[show((2:Int)^7)=((128:Nat):Int)from rfl,Ak n 128 co];obtain⟨H,I,C,G⟩:=y;refine F (n / 128) co d _ H co (by simp at h ⊢;omega) I λK E=>A K ?_;rw[ny j,show U++db (n%128+128)::ew (n / 128)=(U++[db (n%128+128)])++ew (n / 128)by simp];exact E.then C G
  .have j:n<128:=by simp at x;omega
   rw[mG j]at h;have e:aj .u8 (n:Int)=((db n).toNat:Int):=by rw[Iy];simp
   refine⟨s,zh q,?_⟩;rw[e];refine WN q z (by simp at h;omega) (db n) (λd=>R (ae (.tuple #[])) d) λd y=>A d ?_;rw[mG j];exact y
def wj{w:J}{d:Nat}{U:List UInt8}{own:List Nat}(k:fQ w d U own)(n:Nat)(h:n<18446744073709551616)(q:U.length<=10000000000000):
  ai V RC #[.pointer (some (ab d)),.int .u64 (n:Int)] w (nn w d own (U++ew n)):=
 wk.ok (ag6 _ n w U own h (by have:=eM n h;omega) k λx j=>⟨rfl,j⟩)
def ahl(n:Int)(h:aY n):W.n9 .u64 (aj .u64 ((aj .u64 n) *2^1)) (aj .u64 (Int.fdiv n (2^63)))=(zz n:Int):=by
 obtain⟨w,x⟩:=h;have q:((2:Int)^63)=9223372036854775808:=rfl;rw[q,Int.fdiv_eq_ediv_of_nonneg _ co,IntKind.wrap_u64,IntKind.wrap_u64,IntKind.wrap_u64];by_cases k:0<=n
 .have d:(n / 9223372036854775808)%18446744073709551616=((0:Nat):Int):=co
  have j:(n%18446744073709551616 *2^1)%18446744073709551616=((2 *n).toNat:Int):=co
  rw[d,j,Jp _ _ co co,Nat.xor_zero];unfold zz;rw[au k]
 .have d:(n / 9223372036854775808)%18446744073709551616=((18446744073709551615:Nat):Int):=co
  have j:(n%18446744073709551616 *2^1)%18446744073709551616=((18446744073709551616+2 *n).toNat:Int):=co
  rw[d,j,Jp _ _ co co,ahg _ co];unfold zz;rw[ag k];omega
def mn{w:J}{h:Nat}{U:List UInt8}{own:List Nat}(q:fQ w h U own)(n:Int)(d:aY n)(k:U.length<=10000000000000):
  ai V Rz #[.pointer (some (ab h)),.int .i64 n] w (nn w h own (U++bJ n)):=by refine WX.ok ?_;rw[ahl n d];refine(wj q (zz n) (Cz n d.1 d.2) k).mono ?_;rintro r x ⟨rfl,j⟩;exact⟨rfl,rfl,j⟩
def ag5{w:J}{d:Nat}{U:List UInt8}{own:List Nat}(D:fQ w d U own)(t:ByteArray)(L:U.length+t.size<=10000000000000):
  ai V RB #[.pointer (some (ab d)),.string t] w (nn w d own (U++dF (bl t))):=by refine WZ.ok ?_;rw[tu _ co];refine(wj D t.size co co).mono ?_;rintro r I ⟨rfl,N,F,y,E⟩;have M:=eM t.size co;obtain⟨H,rfl,k,j⟩:=F;obtain⟨G,K,z,A,B,C⟩:=Jk (ty:=dB) j t (by simp;omega);obtain⟨q,x,h⟩:=IL k j (Fr.refl _ I) A B C;rw[ck]at h;exact⟨rfl,H,zh k,G,K,z,q,x,rfl,h.then y E⟩
def lO:∀(l:List Int),(∀d∈l,aY d)->(l.flatMap bJ).length<=10 *l.length
 |[],_=>ws
 |d::l,h=>by have w:=dk d (h d ws);have j:=lO l λq k=>h q (by simp[k]);simp at j ⊢;omega
def ag4{q:Nat}{s:Sl}{l:List Int}(R:aK)(hi:∀h∈l,aY h)(T:l.length<=100000000000):∀(d i:Nat),i+d=l.length->∀(w:J) (U:List UInt8) (own:List Nat),fQ w q U own->bx w s l->(∀h∈az s,h∉own)->(∀h∈az s,h<w.heap.size)->U.length+10 *d<=10000000000000->
  (∀F,jo w q own (U++(l.drop i).flatMap bJ) F->R (ae (.tuple #[])) F)->ry.L0 (ab q) s (l.length:Int) (i:Int) w R:=by
 intro d;induction d with
 |zero=>
  intro i K w U own A j B z I y;refine ry.bE ?_;refine aN (by simp;omega) (y w ?_);rw[c9 co];simpa using jo.refl A
 |succ d O=>
  intro i K w U own A j B z I y;have L:l[i]? =some l[i]:=a' co;have D:l[i]∈l:=List.getElem_mem _;refine ry.bE ?_;refine aM (by simp;omega) ⟨co,by rw[bx.len j];omega,bx.cell j L ws λp _ N=>⟨_,N,(mn A _ (hi _ D) co).mono ?_⟩⟩;rintro r G ⟨rfl,P,Q,x,E⟩;refine⟨rfl,?_⟩;show ry.L0 (ab q) s (l.length:Int) (aj .i64 ((i:Int)+1)) G R;rw[bc i co];have W:=dk _ (hi _ D);refine O (i+1) co G _ P Q (j.fr x B) (λh k M=>?_) (λh k=>m8 (z h k) x.size) (by simp;omega) λS H=>y S ?_
  .rcases E h M with C|C
   .exact B h k C
   .have:=z h k;omega
  .rw [dz co,List.flatMap_cons,<-ck];exact H.then x E
def ag3{w:J}{k:Nat}{U:List UInt8}{own:List Nat}(D:fQ w k U own){s:Sl}{l:List Int}(y:bx w s l)(z:∀d∈az s,d∉own)(A:∀d∈az s,d<w.heap.size)(hi:∀d∈l,aY d)(H:U.length+10 *l.length<=1000000000000):
  ai V yi #[.pointer (some (ab k)),s.v] w (nn w k own (U++cY l)):=by
 refine ry.ok ?_;rw[bx.len y,tu _ co];refine(wj D l.length co co).mono ?_;rintro r G ⟨rfl,E,F,j,B⟩;have I:=eM l.length co;refine⟨rfl,?_⟩;try dsimp only
 refine ag4 _ hi co l.length 0 co G _ E F (y.fr j z) (λd h C=>?_) (λd h=>m8 (A d h) j.size) (by simp;omega) λK x=>⟨rfl,?_⟩
 .rcases B d C with q|q
  .exact z d h q
  .have:=A d h;omega
 .rw [List.drop_zero,ck]at x;exact x.then j B
def Kk(s:Sl)(U:List UInt8)(w:J)(k:Bytes w s U)(K:U.length<=140737488355328):ai V Qm #[s.v] w (λr y=>∃s:Sl,r=ae s.v/\e0 y s U/\af w y/\∀b∈az s,w.heap.size<=b):=by
 refine U0.ok ?_;refine bT (λh=>?_) (λh=>?_)
 .have E:U=[]:=by have:=(k.2.2.1 (by simpa using h)).1;exact vC (by rw[<-Bytes.len k,this])
  subst E;exact⟨⟨none,0,0⟩,rfl,Ow.nil w _,Fr.refl _ _,by simp[az]⟩
 .show (λd:J=>∃(x:Sl) (j:J),Sem.run V (eA #[dB,dB] dB #[.slice (some (nb w)) 0 0,s.v]) d=.ok (x.v) j/\(∃s:Sl,Ending.returned x.v=ae s.v/\e0 j s U/\af w j/\∀b∈az s,w.heap.size<=b)) (w.alloc (.cells #[] cJ));generalize I:w.alloc (.cells #[] cJ)=d;subst I
  let d:=w.alloc (.cells #[] cJ)
  have F:e0 d ⟨some ⟨w.heap.size,0,none⟩,0,0⟩ []:=Ow.made w cJ [] 0 rfl co;have A:Bytes d s U:=k.bz (Fr.alloc _ _ _);obtain⟨q,j,H,G,C,B,_⟩:=wY (ty:=dB) F A (by simp;omega);refine⟨q,j,H,q,rfl,by simpa using G,?_,?_⟩
  .refine (Fr.alloc (λ_=>False) w _).trans C λM L D=>?_;simp[az]at D;omega
  .intro b z;rcases B b z with h|h
   .simp [az]at h;omega
   .have:d.heap.size=w.heap.size+1:=size_alloc _ _;omega
def Co{w:J}{h:Nat}{U:List UInt8}{own:List Nat}(x:fQ w h U own)(y:U.length<=100000000000000):
  ai V Ry #[.pointer (some (ab h))] w (iV w U):=by obtain⟨s,rfl,k,q⟩:=x;refine WW.ok ⟨s,zh k,(Kk s U w q.rd co).mono ?_⟩;rintro r z ⟨d,rfl,j⟩;exact⟨d,rfl,d,rfl,j⟩
namespace WO
def ok:=ay (ax V Tryz.f55 [] []) Rp [.s]
end WO
namespace rv
def L0:=bh (ax V Tryz.f93 [(6,lr 12),(9,lr 13)] []) [0,1,4] [(0,.r),(3,.U),(4,.I)]
abbrev t1:=bg L0
abbrev S1:=ak t1 [0,1,1,1,2,4,4] [(0,.r)]
abbrev t2:=ao S1
abbrev P0:Ps:=[(0,.r),(3,.U),(4,.I),(5,.Y)]
abbrev S3:=ak t2 [4,4,4] P0
abbrev t3:=ao S3
abbrev S2:=ak t3 [3,4,4] P0
abbrev t4:=ao S2
def bE:=bm t4 L0
def ok:=ay t4 Rw [.r]
end rv
namespace WR
def ok:=ay (ax V Tryz.f56 [] []) yg [.r]
end WR
namespace WQ
def ok:=ay (ax V Tryz.f60 [(3,lr 10)] []) Rq [.r]
end WQ
namespace WV
def ok:=ay (ax V Tryz.f95 [(1,lr 11)] []) yh [.r]
end WV
namespace wo
def L0:=bh (ax V Tryz.f94 [(4,lr 13)] []) [0,1,1,1,5] [(0,.r),(1,.v [.g yh 1 0,.r]),(6,.s),(33,.U),(34,.U)]
abbrev t1:=bg L0
def bE:=bm t1 L0
def ok:=ay t1 RD [.r,.g yh 1 0,.r]
end wo
namespace wq
def L0:=bh (ax V Tryz.f121 [(4,lr 13)] []) [0,1,1,1,5] [(0,.r),(1,.v [.g yg 1 0,.r]),(6,.s),(33,.U),(34,.U)]
abbrev t1:=bg L0
def bE:=bm t1 L0
def ok:=ay t1 RE [.r,.g yg 1 0,.r]
end wq
namespace WS
def ok:=ay (ax V Tryz.f96 [] []) Rr [.r]
end WS
namespace WU
def ok:=ay (ax V Tryz.f119 [] []) Rv [.r]
end WU
namespace WT
def ok:=ay (ax V Tryz.f57 [] []) Ru [.r]
end WT
def dn(w:J)(rb:Nat)(st:RS)(fp:List Nat):Prop:=
 ∃(s:Sl) (all:List UInt8) (k:Nat),fp=rb::az s/\w.heap[rb]? =some (.cells #[s.v,.int .i64 (k:Int),.int .i64 st.err] rs (0,0))/\e0 w s all/\k<=all.length/\all.drop k=st.U/\all.length<=1000000000000
def dn.lt{w:J}{rb:Nat}{st:RS}{fp:List Nat}(h:dn w rb st fp):∀b∈fp,b<w.heap.size:=by
 obtain⟨s,all,q,rfl,j,k,_⟩:=h;intro b d;rcases aq.1 d with rfl|d
 .exact lt_of_heap j
 .exact k.lt b d
def dn.fr{M:Nat->Prop}{w Y:J}{rb:Nat}{st:RS}{fp:List Nat}(h:dn w rb st fp)(d:Fr M w Y)(j:∀b∈fp,¬M b):dn Y rb st fp:=by obtain⟨s,all,z,rfl,k,q,x⟩:=h;exact⟨s,all,z,rfl,d.at k (j _ ws),q.fr d λb y=>j b (by simp[y]),x⟩
def dn.bz{w Y:J}{rb:Nat}{st:RS}{fp:List Nat}(h:dn w rb st fp)(d:af w Y):dn Y rb st fp:=h.fr d λ_ _ h=>h
def dn.mem{w:J}{rb:Nat}{st:RS}{fp:List Nat}(h:dn w rb st fp):rb∈fp:=by obtain⟨s,all,d,rfl,_⟩:=h;simp
def dn.small{w:J}{rb:Nat}{st:RS}{fp:List Nat}(h:dn w rb st fp):st.U.length<=1000000000000:=by obtain⟨s,all,k,rfl,_,_,_,d,j⟩:=h;rw[<-d];simp;omega
def wP(w:J)(rb:Nat)(fp:List Nat)(v:aa)(st:RS):aK:=λr d=>r=ae v/\dn d rb st fp/\Fr (·=rb) w d
def Bx{w:J}{rb:Nat}{s:Sl}{k:Nat}{e:Int}{all:List UInt8}(h:w.heap[rb]? =some (.cells #[s.v,.int .i64 (k:Int),.int .i64 e] rs (0,0)))(j:e0 w s all)(q:k<=all.length)(x:all.length<=1000000000000)(d:Int):
  (w.cell? ((ab rb).add 2)).isSome=true/\w.frozen? ((ab rb).add 2)=false/\dn (w.setCell ((ab rb).add 2) (.int .i64 d)) rb ⟨all.drop k,d⟩ (rb::az s)/\Fr (·=rb) w (w.setCell ((ab rb).add 2) (.int .i64 d)):=by
 have z:rb∉az s:=Bg j h md;have f:Fr (·=rb) w (w.setCell ((ab rb).add 2) (.int .i64 d)):=Fr.set _ _ _ rfl
 exact⟨by rw[cellAt (p:=ab rb) h rfl rfl];rfl,frozenAt (p:=ab rb) h,⟨s,all,k,rfl,setAt (p:=ab rb) (i:=2) h rfl,j.fr f λb y e=>z (e▸y),q,rfl,x⟩,f⟩
def TL{w:J}{rb:Nat}{s:Sl}{k:Nat}{e:Int}{all:List UInt8}(h:w.heap[rb]? =some (.cells #[s.v,.int .i64 (k:Int),.int .i64 e] rs (0,0)))(j:e0 w s all)(y:all.length<=1000000000000)(d:Nat)(q:d<=all.length)(x:Int)(B:x=d):
  (w.cell? ((ab rb).add 1)).isSome=true/\w.frozen? ((ab rb).add 1)=false/\dn (w.setCell ((ab rb).add 1) (.int .i64 x)) rb ⟨all.drop d,e⟩ (rb::az s)/\Fr (·=rb) w (w.setCell ((ab rb).add 1) (.int .i64 x)):=by
 subst B;have A:rb∉az s:=Bg j h md;have f:Fr (·=rb) w (w.setCell ((ab rb).add 1) (.int .i64 (d:Int))):=Fr.set _ _ _ rfl
 exact⟨by rw[cellAt (p:=ab rb) h rfl rfl];rfl,frozenAt (p:=ab rb) h,⟨s,all,d,rfl,setAt (p:=ab rb) (i:=1) h rfl,j.fr f λb z e=>A (e▸z),q,rfl,y⟩,f⟩
def vI{w:J}{rb:Nat}{s:Sl}{x y:aa}(h:w.heap[rb]? =some (.cells #[s.v,x,y] rs (0,0))):w.cell? ((ab rb).add 0)=some s.v:=cellAt (p:=ab rb) h rfl rfl
def q3{w:J}{rb:Nat}{s:Sl}{x y:aa}(h:w.heap[rb]? =some (.cells #[s.v,x,y] rs (0,0))):w.cell? ((ab rb).add 1)=some x:=cellAt (p:=ab rb) h rfl rfl
def yz{w:J}{rb:Nat}{s:Sl}{x y:aa}(h:w.heap[rb]? =some (.cells #[s.v,x,y] rs (0,0))):w.cell? ((ab rb).add 2)=some y:=cellAt (p:=ab rb) h rfl rfl
def ag8(acc k c:Nat)(D:k<=9)(A:acc<128^k)(C:c<128)(z:k=9->c<=1):
  ¬(aj .i64 (7 *(k:Int)))<0/\W.n8 .u64 (acc:Int) (aj .u64 ((aj .u64 (c:Int)) *2^(min (Int.toNat (aj .i64 (7 *(k:Int)))) (IntKind.bits .u64))))=((acc+128^k *c:Nat):Int):=by
 have q:aj .i64 (7 *(k:Int))=((7 *k:Nat):Int):=by rw[aQ _ co];omega
 rw[q];refine⟨co,?_⟩;have w:min (Int.toNat ((7 *k:Nat):Int)) (IntKind.bits .u64)=7 *k:=by rw[bB];show min (7 *k) 64=7 *k;omega
 rw[w,tu c co];have x:(c:Int) *2^(7 *k)=((c *2^(7 *k):Nat):Int):=by rw[Int.natCast_mul,Int.natCast_pow];rfl
 have j:(2:Nat)^(7 *k)=128^k:=by rw[Nat.pow_mul]
 have h:c *2^(7 *k)<18446744073709551616:=by
  by_cases y:k=9
  .subst y;have:=z rfl;have:c *2^(7 *9)<=1 *2^(7 *9):=Nat.mul_le_mul_right _ this;omega
  .have d:(2:Nat)^(7 *k)<=2^56:=Nat.pow_le_pow_right co co;have:c *2^(7 *k)<=127 *2^56:=Nat.mul_le_mul co d;omega
 have B:acc<18446744073709551616:=by have d:(128:Nat)^k<=128^9:=Nat.pow_le_pow_right co co;omega
 rw[x,tu _ h,Ya _ _ B h,adO acc c (7 *k) (by rw[j];exact A),j,Nat.mul_comm c]
set_option maxRecDepth 100000 in
def aeD{rb:Nat}(R:aK)(all:List UInt8)(p:Nat)(hp:p<=all.length)(U:all.length<=1000000000000)(s:Sl):
  ∀(d k acc:Nat) (w:J),k+d=9->acc<128^k->p+k<=all.length->w.heap[rb]? =some (.cells #[s.v,.int .i64 (p:Int),.int .i64 0] rs (0,0))->e0 w s all->
   (match jy k ((all.drop p).drop k)with
    |.more=>∀j,dn j rb ⟨all.drop p,3⟩ (rb::az s)->Fr (·=rb) w j->R (ae (.int .u64 0)) j
    |.form=>∀j,dn j rb ⟨all.drop p,2⟩ (rb::az s)->Fr (·=rb) w j->R (ae (.int .u64 0)) j
    |.ok n r=>∀j,dn j rb ⟨r,0⟩ (rb::az s)->Fr (·=rb) w j->R (ae (.int .u64 ((acc+128^k *n:Nat):Int))) j)->
   rv.L0 (ab rb) (acc:Int) (k:Int) w R:=by
 intro d;induction d using Nat.strongRecOn with
 |_ d ih=>
  intro k acc w hk ha ai h1 C q;refine rv.bE ?_;have hn:s.n=all.length:=by simpa using C.1
  have ew:aj .i64 ((p:Int)+(k:Int))=((p+k:Nat):Int):=by rw[aQ _ co];omega
  have K:af w w.drew:=Fr.drew _ w;have A:af w w.drew.drew:=K.dO (Fr.drew _ _);have Q:=K.at h1 id;have B:=A.at h1 id;refine⟨_,q3 Q,_,vI Q,?_⟩;rw[ew,hn];rw[List.drop_drop]at q;refine bT (λh=>?_) (λh=>?_)
  .have he:all.drop (p+k)=[]:=c9 (by simp at h;omega);rw[he]at q;simp only[jy]at q;obtain⟨D,E,F,G⟩:=Bx Q (C.bz K) hp U 3;exact⟨D,E,q _ F ((K.pI).trans G λ_ _ h=>h)⟩
  .have aa:p+k<all.length:=by simp at h;omega
   have hg:all[p+k]? =some all[p+k]:=a' aa;rw[dz aa]at q;generalize all[p+k]=c at hg q;have hc:=c.toNat_lt;have H:∀j,Fr (·=rb) w.drew.drew j->Fr (·=rb) w j:=λj f=>A.pI.trans f λ_ _ h=>h;refine⟨_,vI B,_,q3 B,?_⟩;rw[ew];refine⟨co,by rw[hn];omega,Bytes.cell (C.bz A).rd hg (by rw[bB]) λal _ hq=>⟨_,hq,?_⟩⟩;have form:ju k c=true->rv.S1 (ab rb) w.drew.drew R:=λy=>by simp only[jy,y,if_true]at q;obtain⟨D,E,F,G⟩:=Bx B (C.bz A) hp U 2;exact⟨D,E,q _ F (H _ G)⟩
   have O:ju k c=false->rv.S2 (ab rb) (acc:Int) (k:Int) (c.toNat:Int) w.drew.drew R:=λy=>by
    have N:=y;unfold ju at N;simp at N;obtain⟨e1,e2⟩:=ag8 acc k (c.toNat%128) co ha co (λz=>by have:=N.1 z;omega);dsimp only[rv.S2,ak];rw[X' c];refine And.intro e1 ?_;rw[e2];obtain⟨v,I⟩:∃v,v=acc+128^k *(c.toNat%128):=⟨_,rfl⟩;rw[<-I];refine bT (λh=>?_) (λh=>?_)
    .have L:c.toNat<128:=by simp at h;omega
     simp only[jy,y,L,if_true]at q;obtain⟨D,E,F,G⟩:=TL B (C.bz A) U (p+k+1) co (aj .i64 ((p:Int)+(aj .i64 ((k:Int)+1)))) (by rw[aQ ((k:Int)+1) co,aQ _ co];omega);refine⟨_,q3 B,D,E,?_⟩;have:=q _ F (H _ G);rw[Nat.mod_eq_of_lt L]at I;rw[I];exact this
    .have L:¬c.toNat<128:=by simp at h;omega
     show rv.L0 (ab rb) _ (aj .i64 ((k:Int)+1)) w.drew.drew R;rw[bc k co];have ag:k≠9:=λz=>by have:=N.1 z;omega
     refine ih (d - 1) co (k+1) _ w.drew.drew co ?_ co B (C.bz A) ?_
     .rw [Nat.pow_succ,I];have:128^k *(c.toNat%128)<=128^k *127:=Nat.mul_le_mul_left _ co;omega
     .rw [List.drop_drop,<-Nat.add_assoc];simp only[jy,y,L,if_false]at q;cases W:jy (k+1) (all.drop (p+k+1))with
      |more=>rw[W]at q;exact λj a b=>q j a (H _ b)
      |form=>rw[W]at q;exact λj a b=>q j a (H _ b)
      |ok n r=>
       rw[W]at q;intro j a b;have:=q j a (H _ b);have e:acc+128^k *(c.toNat%128)+128^(k+1) *n=acc+128^k *(c.toNat%128+128 *n):=by rw[Nat.pow_succ,Nat.mul_add,Nat.mul_assoc];omega
       rw[I,e];exact this
   have ac:1<c.toNat->k=9->ju k c=true:=λhx hy=>by unfold ju;rw[aR hx];simp[hy]
   have Z:c.toNat=0->0<k->ju k c=true:=λh P=>by unfold ju;rw[h,aR P];simp
   have Y:(k=9->¬1<c.toNat)->(0<k->c.toNat≠0)->ju k c=false:=λh P=>by
    cases y:ju k c with
    |false=>rfl
    |true=>
     unfold ju at y;rw[Bool.or_eq_true,bH,bH]at y;rcases y with⟨S,T⟩|⟨S,T⟩
     .exact absurd (eT T) (h (eq_of_beq S))
     .exact absurd (eq_of_beq T) (P (eT S))
   refine bT (λz=>?_) (λz=>?_)
   .have M:k=9:=by have:=eq_of_beq z;omega
    refine bT (λh=>form (ac (by have:=eT h;omega) M)) (λh=>?_);have ah:=iy h;refine aM (aR co) (bT (λx=>form (Z (by have:=eq_of_beq x;omega) co)) (λx=>O (Y (λ_=>co) (λ_ e=>by rw[e]at x;simp at x))))
   .have M:k≠9:=λe=>by rw[e]at z;simp at z
    refine bT (λh=>bT (λx=>form (Z (by have:=eq_of_beq x;omega) (by have:=eT h;omega))) (λx=>O (Y (λe=>absurd e M) (λ_ e=>by rw[e]at x;simp at x)))) (λh=>O (Y (λe=>absurd e M) (λad=>by have:=iy h;omega)))
def Bs{w:J}{rb:Nat}{st:RS}{fp:List Nat}(h:dn w rb st fp):
  ai V Rw #[.pointer (some (ab rb))] w (wP w rb fp (.int .u64 ((ft st).1:Int)) (ft st).2):=by
 have B:=h;obtain⟨s,all,C,rfl,j,x,y,z,A⟩:=h;refine rv.ok ?_;refine⟨_,yz j,bT (λk=>?_) (λk=>?_)⟩
 .have d:st.err≠0:=by simpa using k
  unfold ft;rw[au d];exact⟨rfl,B,Fr.refl _ _⟩
 .have d:st.err=0:=by simpa using k
  refine aeD _ all C y A s 9 0 0 w rfl ws co (by rw[d]at j;exact j) x ?_;unfold ft;rw[ag (by simp[d]),List.drop_zero,z];cases D:jy 0 st.U with
  |more=>exact λq a b=>⟨rfl,a,b⟩
  |form=>exact λq a b=>⟨rfl,a,b⟩
  |ok n r=>
   intro q a b;refine⟨?_,a,b⟩;simp
def vH(st:RS):(ft st).1<18446744073709551616:=by
 unfold ft;split
 .simp
 .split
  .simp
  .simp
  .rename_i n r d;have:=(z0 9 0 _ _ _ rfl d).2.1;simpa using this
def agV(u:Nat)(h:u<18446744073709551616):W.n9 .i64 (aj .i64 (Int.fdiv (u:Int) (2^1))) (aj .i64 (0 - (aj .i64 (W.kP .u64 (u:Int) 1))))=oZ u:=by
 have j:W.kP .u64 (u:Int) 1=((u%2:Nat):Int):=by have:=X9 u 1 h co;rw[Nat.and_one_is_mod]at this;exact this
 rw[j,show((2:Int)^1)=((2:Nat):Int)from rfl,Ak u 2 co,aQ ((u / 2:Nat):Int) co,aQ ((u%2:Nat):Int) co];unfold oZ;split
 .rename_i d;rw[d,aQ _ co];exact Yd _ co
 .rename_i d;rw[show u%2=1 by omega,aQ _ co];exact Yc _ co
def lZ{w:J}{rb:Nat}{st:RS}{fp:List Nat}(h:dn w rb st fp):
  ai V yg #[.pointer (some (ab rb))] w (wP w rb fp (.int .i64 (bd st).1) (bd st).2):=by
 refine WR.ok ?_;refine(Bs h).mono ?_;rintro r j ⟨rfl,d⟩;refine⟨_,rfl,?_⟩;try dsimp only
 rw[agV _ (vH st)];exact⟨rfl,d⟩
def Hh{w:J}{rb:Nat}{st:RS}{fp:List Nat}(h:dn w rb st fp):
  ai V Rq #[.pointer (some (ab rb))] w λr C=>r=ae (.int .i64 (iP st))/\af w C:=by
 obtain⟨s,all,B,rfl,j,z,D,A,E⟩:=h;have d:af w w.drew:=Fr.drew _ w;have y:=d.at j id;have G:s.n=all.length:=by simpa using z.1
 have F:st.U.length=all.length - B:=by rw[<-A];simp
 refine WQ.ok ?_;unfold iP;refine⟨_,yz j,bT (λk=>?_) (λk=>?_)⟩
 .have q:st.err≠0:=by simpa using k
  rw[au q];exact⟨_,yz j,rfl,Fr.refl _ _⟩
 .have q:st.err=0:=by simpa using k
  rw[ag (by simp[q])];refine⟨_,q3 y,_,vI y,bT (λx=>?_) (λx=>?_)⟩
  .have:=eT x;rw[au co];exact⟨rfl,d⟩
  .have:=iy x;rw[ag co];exact⟨rfl,d⟩
def aeB{w:J}{rb:Nat}{c:UInt8}{l:List UInt8}{e:Int}{fp:List Nat}(h:dn w rb ⟨c::l,e⟩ fp):
  ai V yh #[.pointer (some (ab rb))] w (wP w rb fp (.int .u8 (c.toNat:Int)) ⟨l,e⟩):=by
 obtain⟨s,all,k,rfl,z,x,M,d,E⟩:=h;simp only at z d;have j:af w w.drew:=Fr.drew _ w;have q:=j.at z id;have K:s.n=all.length:=by simpa using x.1
 have A:k<all.length:=by
  by_cases I:k<all.length
  .exact I
  .rw [c9 co]at d;cases d
 rw[dz A]at d;injection d with F G
 have H:all[k]? =some c:=by rw[a' A,F]
 refine WV.ok ?_;refine⟨_,vI q,_,q3 q,co,by rw[K];omega,Bytes.cell (x.bz j).rd H (by rw[bB]) λN _ L=>⟨_,L,?_⟩⟩;obtain⟨B,C,y,D⟩:=TL q (x.bz j) E (k+1) co (aj .i64 ((k:Int)+1)) (bc k co);rw[G]at y;exact⟨_,q3 q,B,C,rfl,y,j.pI.trans D λ_ _ h=>h⟩
def Tl{w:J}{s:Sl}{U:List UInt8}(C:Bytes w s U)(D:U.length<=1000000000000):
  ai V Rp #[s.v] w λr A=>∃z y,r=ae (.pointer (some (ab z)))/\dn A z ⟨U,0⟩ y/\af w A/\∀k∈y,w.heap.size<=k:=by
 refine WO.ok ((Kk s U w C co).mono ?_);rintro r h ⟨d,rfl,B,q,E⟩;have x:af h (h.alloc (.cells #[d.v,.int .i64 0,.int .i64 0] rs)):=Fr.alloc _ _ _;refine⟨d,rfl,h.heap.size,h.heap.size::az d,rfl,⟨d,U,0,rfl,kX _ _,B.bz x,dW _,rfl,D⟩,q.dO x,?_⟩;intro k j;rcases aq.1 j with rfl|j
 .exact q.size
 .exact E k j
def rO(w:J)(rb:Nat)(fp:List Nat)(e:aE)(vs:List aa)(st:RS):aK:=λr d=>∃s:Sl,r=ae s.v/\Ow d e s vs/\dn d rb st fp/\Fr (·=rb) w d/\∀h∈az s,w.heap.size<=h
def Bw{st:RS}{N:Nat}(h:st.U.length<=N):(ft st).2.U.length<=N:=by
 unfold ft;split
 .exact h
 .split
  .exact h
  .exact h
  .rename_i n r d;have:=(z0 9 0 _ _ _ rfl d).1;rw[this]at h;simp at h ⊢;omega
def acF{w0:J}{rb:Nat}{fp:List Nat}(K:∀b∈fp,b<w0.heap.size)(Y:rb∈fp)(n:Nat)(U:List UInt8)(hn:n<=U.length)(aa:U.length<=1000000000000)(R:aK)(Q:∀r N,rO w0 rb fp cJ ((U.take n).map bL) ⟨U.drop n,0⟩ r N->R r N):
  ∀(d i:Nat),i+d=n->∀(w:J) (l:Sl),Fr (·=rb) w0 w->dn w rb ⟨U.drop i,0⟩ fp->e0 w l (U.take i)->(∀k∈az l,w0.heap.size<=k)->
   wo.L0 (ab rb) (ab rb) l (n:Int) (i:Int) w R:=by
 intro d;induction d with
 |zero=>
  intro i T w l y h B j;obtain rfl:i=n:=co
  refine wo.bE (aN (aW co) (Q _ _ ⟨l,rfl,B,h,y,j⟩))
 |succ d Z=>
  intro i T w l y h B j;have L:i<U.length:=co
  refine wo.bE (aM (aR co) ?_);rw[dz L]at h;refine(aeB h).mono ?_;rintro r q ⟨rfl,I,G⟩;have W:=B.fr G λb A e=>by have:=j b A;have:=K rb Y;omega
  refine⟨_,rfl,?_⟩;have S:q.cell? ((ab rb).add 2)=some (.int .i64 0):=by obtain⟨s,all,ae,rfl,z,_⟩:=I;exact yz z
  refine⟨_,S,aN rfl ?_⟩;have F:Fr (·=rb) w0 q:=y.trans G λ_ _ h=>h;have x:af q (q.alloc (.cells #[.int .u8 (U[i].toNat:Int)] cJ)):=Fr.alloc _ _ _;obtain⟨D,E,z,O,H,P,_⟩:=wY (ty:=dB) (W.bz x) (GS q U[i]) (by simp;omega);refine⟨D,E,z,?_⟩;show wo.L0 (ab rb) (ab rb) D (n:Int) (aj .u64 ((i:Int)+1)) E R;rw[show aj .u64 ((i:Int)+1)=((i+1:Nat):Int)from by rw[IntWalk.u64_in _ co];omega];have ac:=F.size;have ad:=x.size;refine Z (i+1) co E D ((F.dO x).trans H λk M C=>by have:=j k C;omega) ((I.bz x).fr H λb A C=>by have:=j b C;have:=K b A;omega) ?_ λk M=>?_
  .rw [dV,a' L];exact O
  .rcases P k M with h|h
   .exact j k h
   .omega
def Hn{w:J}{rb:Nat}{st:RS}{fp:List Nat}(h:dn w rb st fp):w.cell? ((ab rb).add 2)=some (.int .i64 st.err):=by obtain⟨s,all,j,rfl,d,_⟩:=h;exact yz d
def ND{w:J}{rb:Nat}{st:RS}{fp:List Nat}(h:dn w rb st fp):
  ai V RD #[.pointer (some (ab rb)),.func (.func yh) #[.pointer (some (ab rb))] #[]] w (rO w rb fp cJ ((cA st).1.map bL) (cA st).2):=by
 refine wo.ok ((Bs h).mono ?_);rintro r y ⟨rfl,x,z⟩;refine⟨_,rfl,_,Hn x,?_⟩;unfold cA iQ;generalize hq:ft st=q at *;obtain⟨n,d⟩:=q;have ac:=vH st;have ad:=x.small;rw[hq]at ac;simp only at *;refine bT (λC=>?_) (λC=>?_)
 .have j:d.err≠0:=by simpa using C
  simp only[au j];exact⟨⟨none,0,0⟩,rfl,Ow.nil _ _,x,z,by simp[az]⟩
 .have j:d.err=0:=by simpa using C
  simp only[ag (show ¬d.err≠0 by simp[j])];have A:af y y.drew:=Fr.drew _ _;have Z:=x.bz A;obtain⟨s,all,k,rfl,B,G,N,H,O⟩:=Z;have hn:s.n=all.length:=by simpa using G.1
  have hl:d.U.length=all.length - k:=by rw[<-H];simp
  refine⟨s,vI B,(k:Int),q3 B,?_⟩;have Q:aj .u64 (aj .i64 ((s.n:Int) - (k:Int)))=(d.U.length:Int):=by rw[aQ _ co,IntWalk.u64_in _ co];omega
  rw[Q];refine bT (λD=>?_) (λD=>?_)
  .have aa:=eT D;simp only[au (show d.U.length<n by omega)];obtain⟨K,L,F,M⟩:=Bx B G N O 3;rw[H]at F;rw[au (show(3:Int)≠0 by decide)];exact⟨K,L,⟨none,0,0⟩,rfl,Ow.nil _ _,F,z.trans (A.pI.trans M λ_ _ h=>h) λ_ _ h=>h,by simp[az]⟩
  .have aa:=iy D;simp only[ag (show ¬d.U.length<n by omega),ag (show ¬d.err≠0 by simp[j])];obtain⟨E,S,T,W⟩:=NS jz y.drew .i64 .u64 n co;refine⟨⟨some ⟨y.drew.heap.size,0,none⟩,0,n⟩,E,S,?_⟩;have I:af y E:=A.dO W;have Y:=x.bz I;have P:d=⟨d.U,0⟩:=by cases d;simp at j;simp[j]
   refine acF (w0:=w) (rb:=rb) (fp:=rb::az s) h.lt h.mem n d.U co ad _ (λr w' hr=>hr) n 0 co E _ (z.dO I) (by rw[List.drop_zero,<-P];exact Y) T ?_;intro ae hx;simp[az]at hx;have:=z.size;have:=A.size;omega
def acH{w0:J}{rb:Nat}{fp:List Nat}(S:∀b∈fp,b<w0.heap.size)(ac:rb∈fp)(n:Nat)(hn:n<=1000000000000)(R:aK):
  ∀(d i:Nat),i+d=n->∀(w:J) (l:Sl) (xs:List Int) (st:RS),xs.length=i->st.err=0->Fr (·=rb) w0 w->dn w rb st fp->zv w l xs->(∀h∈az l,w0.heap.size<=h)->
   (∀r D,rO w0 rb fp cb ((if(fo d st).2.err≠0 then[]else xs++(fo d st).1).map a5) (fo d st).2 r D->R r D)->
   wq.L0 (ab rb) (ab rb) l (n:Int) (i:Int) w R:=by
 intro d;induction d with
 |zero=>
  intro i hi w l xs st U Q F j L y k;obtain rfl:i=n:=co
  refine wq.bE (aN (aW co) (k _ _ ⟨l,rfl,?_,j,F,y⟩));simpa[fo,Q]using L
 |succ d ih=>
  intro i hi w l xs st U Q F j L y k;refine wq.bE (aM (aR co) ?_);refine(lZ j).mono ?_;rintro r E ⟨rfl,H,O⟩;have aa:=L.fr O λb I e=>by have:=y b I;have:=S rb ac;omega
  have G:Fr (·=rb) w0 E:=F.trans O λ_ _ j=>j;refine⟨_,rfl,_,Hn H,?_⟩;simp only[fo]at k;generalize bd st=q at *;obtain⟨h,z⟩:=q;simp only at *;refine bT (λK=>?_) (λK=>?_)
  .have B:z.err≠0:=by simpa using K
   simp only[au B]at k;exact k _ _ ⟨⟨none,0,0⟩,rfl,Ow.nil _ _,H,G,by simp[az]⟩
  .have B:z.err=0:=by simpa using K
   simp only[ag (show ¬z.err≠0 by simp[B])]at k;have A:af E (E.alloc (.cells #[.int .i64 h] cb)):=Fr.alloc _ _ _;obtain⟨M,N,W,Y,P,Z,_⟩:=X0 (ty:=jj) (aa.bz A) (one_num E h) (by simp;omega);refine⟨M,N,W,?_⟩;show wq.L0 (ab rb) (ab rb) M (n:Int) (aj .u64 ((i:Int)+1)) N R;rw[show aj .u64 ((i:Int)+1)=((i+1:Nat):Int)from by rw[IntWalk.u64_in _ co];omega];have ad:=G.size;have ae:=A.size;refine ih (i+1) co N M _ z (by simp[U]) B ((G.dO A).trans P λh T x=>by have:=y h x;omega) ((H.bz A).fr P λb I x=>by have:=y b x;have:=S b I;omega) Y (λh T=>?_) λr D C=>k r D ?_
   .rcases Z h T with j|j
    .exact y h j
    .omega
   .by_cases x:(fo d z).2.err≠0
    .simp only[au x]at C ⊢;exact C
    .simp only[ag x,ck,List.singleton_append]at C ⊢;exact C
def acG{w:J}{rb:Nat}{st:RS}{fp:List Nat}(h:dn w rb st fp):
  ai V RE #[.pointer (some (ab rb)),.func (.func yg) #[.pointer (some (ab rb))] #[]] w (rO w rb fp cb ((c' st).1.map a5) (c' st).2):=by
 refine wq.ok ((Bs h).mono ?_);rintro r A ⟨rfl,j,B⟩;refine⟨_,rfl,_,Hn j,?_⟩;unfold c' iQ;generalize hq:ft st=q at *;obtain⟨n,d⟩:=q;have ac:=vH st;have ad:=j.small;rw[hq]at ac;simp only at *;refine bT (λE=>?_) (λE=>?_)
 .have z:d.err≠0:=by simpa using E
  simp only[au z];exact⟨⟨none,0,0⟩,rfl,Ow.nil _ _,j,B,by simp[az]⟩
 .have z:d.err=0:=by simpa using E
  simp only[ag (show ¬d.err≠0 by simp[z])];have C:af A A.drew:=Fr.drew _ _;have hd:=j.bz C;obtain⟨s,all,k,rfl,D,I,Q,K,S⟩:=hd;have hn:s.n=all.length:=by simpa using I.1
  have hl:d.U.length=all.length - k:=by rw[<-K];simp
  refine⟨s,vI D,(k:Int),q3 D,?_⟩;have T:aj .u64 (aj .i64 ((s.n:Int) - (k:Int)))=(d.U.length:Int):=by rw[aQ _ co,IntWalk.u64_in _ co];omega
  rw[T];refine bT (λF=>?_) (λF=>?_)
  .have aa:=eT F;simp only[au (show d.U.length<n by omega)];obtain⟨N,O,H,P⟩:=Bx D I Q S 3;rw[K]at H;rw[au (show(3:Int)≠0 by decide)];exact⟨N,O,⟨none,0,0⟩,rfl,Ow.nil _ _,H,B.trans (C.pI.trans P λ_ _ h=>h) λ_ _ h=>h,by simp[az]⟩
  .have aa:=iy F;simp only[ag (show ¬d.U.length<n by omega),ag (show ¬d.err≠0 by simp[z])];obtain⟨G,W,Y,Z⟩:=NS iH A.drew .i64 .u64 n co;refine⟨⟨some ⟨A.drew.heap.size,0,none⟩,0,n⟩,G,W,?_⟩;have L:af A G:=C.dO Z;have y:=j.bz L;refine acH (w0:=w) (rb:=rb) (fp:=rb::az s) h.lt h.mem n co _ n 0 co G _ [] d rfl z (B.dO L) y Y ?_ ?_
   .intro ae hx;simp[az]at hx;have:=B.size;have:=C.size;omega
   .intro r w' M;have e:(if(fo n d).2.err≠0 then[]else[]++(fo n d).1)=(fo n d).1:=by
     by_cases x:(fo n d).2.err≠0
     .rw [au x];cases n with
      |zero=>rfl
      |succ n=>
       simp only[fo]at x ⊢;by_cases j:(bd d).2.err≠0
       .simp only[au j]
       .simp only[ag j]at x ⊢;by_cases y:(fo n (bd d).2).2.err≠0
        .simp only[au y]
        .simp only[ag y]at x;exact absurd x y
     .rw [ag x];rfl
    rw[e]at M;exact M
def pP{w:J}{rb:Nat}{st:RS}{fp:List Nat}(h:dn w rb st fp):
  ai V Rr #[.pointer (some (ab rb))] w (rO w rb fp cb ((c' st).1.map a5) (c' st).2):=by refine WS.ok ((acG h).mono ?_);rintro r j ⟨s,rfl,d⟩;exact⟨s,rfl,s,rfl,d⟩
def aeC{w:J}{rb:Nat}{st:RS}{fp:List Nat}(h:dn w rb st fp):
  ai V Rv #[.pointer (some (ab rb))] w (wP w rb fp (.string (ba (cA st).1)) (cA st).2):=by refine WU.ok ((ND h).mono ?_);rintro r x ⟨s,rfl,d,j,k,q⟩;exact⟨s,rfl,_,kR d.rd,rfl,j,k⟩
end Go.Proofs.YtnaglpcbkhjpnabGreatDoor
end
