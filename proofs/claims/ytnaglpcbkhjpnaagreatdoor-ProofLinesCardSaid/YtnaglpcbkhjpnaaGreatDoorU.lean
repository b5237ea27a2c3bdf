import Derived.Test.YtnaglpcbkhjpnaaGreatDoorW
import Derived.KernelRfl
import Derived.Test.YtnaglpcbkhjpnaaGreatDoorProg
import Derived.Lib.AppendStr
import Derived.Laws.IdiomStrings
import Derived.IntWalk
set_option linter.unusedVariables false
set_option linter.defProp false
namespace Go.W
open Go renaming World->J,Calls->aj,Program->aH,Value->aa,TypeId->aC,Ending->cE,FuncId->cW,IntKind->ik
open Go.IntKind renaming wrap->ah
open Go.IntWalk renaming i64_in->aN
open Go.Builtin renaming append_->eu
open _root_.Bool renaming and_eq_true->bH
open _root_.Nat renaming zero_le->dI,beq->cg,lt_of_lt_of_le->mT,beq_eq->eO
open _root_.UInt8 renaming ofNat->c9
open _root_.Int renaming toNat_natCast->bo
open Go.Region renaming wanted->dv,ready->e4
open Go.Proofs.Tryz renaming prog->V
open _root_.Decidable renaming decide->au
open Go.Ending renaming returned->ae
open List renaming mem_cons->aq,getElem?_eq_getElem->a',append_assoc->cN,mem_cons_of_mem->fF,drop_eq_getElem_cons->dw,take_add_one->dM,drop_of_length_le->du,eq_nil_of_length_eq_zero->G3
abbrev Lv:=List (Nat×List aa×aC)
abbrev Sv:=List (Nat×Option (Nat×Nat))
def Sv.get? :Sv->Nat->Option (Nat×Nat)
 |[],_=>none
 |(h,v)::d,t=>bif cg h t then v else Sv.get? d t
def Sv.at(S:Sv):Operand->Option (Nat×Nat)
 |.tmp t=>S.get? t
 |_=>none
def Sv.put(S:Sv)(d:Option Nat)(o:Option (Nat×Nat)):Sv:=match d with
 |some d=>(d,o)::S
 |none=>S
structure TS where
 E:Env
 S:Sv
 L:Lv
 w:J
 d:Bool
abbrev HT:=List (Nat×Option Nat×(J->Prop))
def fG(s:TS)(K:TS->Prop):Prop:=match s.d with
 |true=>loc (iw s.L) s.w λh=>K ⟨s.E,s.S,s.L,h,false⟩
 |false=>K s
def T8:aa->aa->Bool
 |.int d _,.int h _=>d==h
 |.bool _,.bool _=>true
 |.string _,.string _=>true
 |.slice _ _ _,.slice _ _ _=>true
 |.pointer _,.pointer _=>true
 |.map _,.map _=>true
 |.int ..,_|.bool _,_|.string _,_|.slice ..,_|.pointer _,_|.map _,_=>false
 |_,_=>true
def BC:List aa->List aa->Bool
 |[],[]=>true
 |h::j,v::d=>T8 h v&&BC j d
 |_,_=>false
def Fy(P:aH)(T:aC)(cs:List aa)(j:Nat)(K:aa->Prop):Prop:=
 cS (zp P T)<|match zeroOf P T with
 |.agg d=>cS (BC d.toList ((cs.drop j).take d.size)) (K (.agg ((cs.drop j).take d.size).toArray))
 |.nilFunc=>False
 |h=>match cs[j]? with
  |some v=>cS (T8 h v) (K v)
  |none=>False
def LF(P:aH)(T:aC)(f:Nat):Option Nat:=match P.underlying T with
 |some (.struct d)=>match d[f]? with
  |some f=>match P.info? f.type with
   |some i=>bif cg i.size 0 then none else some f.offset
   |none=>none
  |none=>none
 |_=>none
def V9(P:aH)(o:Oper):Bool:=match o.op with
 |.load ..|.lookup ..=>true
 |.convert s h _=>match P.underlying s,P.underlying h with
  |some (.slice _),some .string=>true
  |some (.pointer _),some .unsafePointer=>true
  |some .unsafePointer,some (.pointer _)=>true
  |_,_=>false
 |.binOp .neq d _ j _=>bif isConst j then false else match P.underlying d with
  |some (.pointer _)=>true
  |_=>false
 |.call {callee:=.builtin .len,args,argTypes}=>match args.toList,argTypes.toList with
  |[_],[d]=>match P.underlying d with
   |some (.map _ _)=>true
   |_=>false
  |_,_=>false
 |_=>false
def Ci(P:aH)(o:Oper):Bool:=Fa P o||V9 P o
def uT(P:aH)(o:Oper)(s:TS)(K:aa->Option (Nat×Nat)->List (Option Nat×(J->Prop))->TS->Prop):Prop:=
 bif Ci P o then fG s λs=>n0 P o s.E s.w λv h=>K v none (h.map λd=>(none,d)) s else n0 P o s.E s.w λv h=>K v none (h.map λd=>(none,d)) s
def DY(P:aH)(o:Oper)(s:TS)(K:aa->Option (Nat×Nat)->List (Option Nat×(J->Prop))->TS->Prop):Prop:=
 match o.op with
 |.load j d=>match s.S.at d with
  |some (i,h)=>match s.L[i]? with
   |some X=>Fy P j X.2.1 h λv=>K v none [(some i,λq=>(loadVar j ((ab X.1).add h)).run P q=.ok v q)] s
   |none=>False
  |none=>uT P o s K
 |.move d|.assign d|.nilCheck d=>match s.S.at d with
  |some w=>K ((s.E.val d).getD undef) (some w) [] s
  |none=>uT P o s K
 |.fieldAddr j d f=>match s.S.at d with
  |some (i,h)=>match LF P j f,s.L[i]? with
   |some k,some X=>K (.pointer (some ((ab X.1).add (h+k)))) (some (i,h+k)) [] s
   |_,_=>False
  |none=>uT P o s K
 |_=>uT P o s K
def qx(L:Lv)(w Y:J)(p:Prop):Prop:=match L with
 |[]=>p
 |L=>kept (iw L) w Y/\p
def BA:List aa->Nat->List aa->List aa
 |d,_,[]=>d
 |d,h,v::j=>BA (d.set h v) (h+1) j
def Ai(h:List Nat)(d:Option Nat):Bool:=match d with
 |some d=>h.any (cg d)
 |none=>false
def HO(bs:List Nat)(p:Addr):List aa->Nat->J->(J->Prop)->Prop
 |[],_,d,h=>h d
 |v::k,i,d,h=>aS d (p.add i) v λj=>kept bs d j/\HO bs p k (i+1) j h
def Gt(s:TS)(cs:List aa)(T:aC)(K:aa->Option (Nat×Nat)->Option Nat->TS->Prop):Prop:=
 x9 (iw s.L) s.w λb d=>K (.pointer (some (ab b))) (some (s.L.length,0)) none ⟨s.E,s.S,s.L++[(b,cs,T)],d,false⟩
def zI(P:aH)(f:cW)(args:Array aa)(z:aa)(s:TS)(K:aa->J->Prop):Prop:=match s.L with
 |[]=>qh P f args z s.w K
 |d=>eJ (iw d) P f args s.w λe h=>oa z λv=>e=ae v/\K v h
def Ep(P:aH)(q:List Nat)(draw:Bool)(o:Oper)(s:TS)(K:aa->Option (Nat×Nat)->Option Nat->TS->Prop):Prop:=
 match o.op with
 |.store h j x=>match s.S.at j with
  |some (i,k)=>match s.L[i]?,s.E.val x with
   |some X,some v=>cS (v.cells.size==(match P.info? h with |some i=>i.size|none=>0)&&v.cells.toList.all sJ&&(P.info? h).isSome&&Nat.ble (k+v.cells.size) X.2.1.length) (K undef none (some i) ⟨s.E,s.S,s.L.set i (X.1,BA X.2.1 k v.cells.toList,X.2.2),s.w,true⟩)
   |_,_=>False
  |none=>fG s λs=>match s.L with
   |[]=>hL P o s.E s.w λv d=>K v none none ⟨s.E,s.S,s.L,d,false⟩
   |y=>match s.E.val j,s.E.val x with
    |some (.pointer (some p)),some v=>cS (v.cells.size==(match P.info? h with |some i=>i.size|none=>0)&&v.cells.toList.all sJ&&(P.info? h).isSome) (HO (iw y) p v.cells.toList 0 s.w λd=>K undef none none ⟨s.E,s.S,s.L,d,false⟩)
    |_,_=>False
 |.alloc h=>bif Ai q o.dst then cS ((P.info? h).bind (·.zero)).isSome (Gt s (zeroOf P h).cells.toList h K)else fG s λs=>hL P o s.E s.w λv d=>K v none none ⟨s.E,s.S,s.L,d,false⟩
 |.box h j=>bif Ai q o.dst then(match s.E.val j with
   |some v=>Gt s v.cells.toList h K
   |none=>False)else fG s λs=>hL P o s.E s.w λv d=>K v none none ⟨s.E,s.S,s.L,d,false⟩
 |.buildSlice ..|.makeMap ..=>fG s λs=>hL P o s.E s.w λv d=>K v none none ⟨s.E,s.S,s.L,d,false⟩
 |.call {callee:=.value (.func f),args,..}=>fG s λs=>cS (s.E.ef o) (bif hG P f then zI P f (args.map s.E.ev) (zeroOf P o.type) s λv d=>K v none none ⟨s.E,s.S,s.L,d,false⟩
   else xG P f (args.map s.E.ev) (zeroOf P o.type) s.w λv d=>qx s.L s.w d (K v none none ⟨s.E,s.S,s.L,d,false⟩))
 |.call {callee:=.value (.tmp t),args,..}=>fG s λs=>cS (s.E.ef o) (match s.E.get? t with
   |some (.func (.func f) first captured)=>cS (hG P f) (zI P f (first++args.map s.E.ev++captured) (zeroOf P o.type) s λv d=>K v none none ⟨s.E,s.S,s.L,d,false⟩)
   |_=>False)
 |_=>fG s λs=>(bif draw then hL else uD) P o s.E s.w λv d=>qx s.L s.w d (K v none none ⟨s.E,s.S,s.L,d,false⟩)
def xN(ops:Array Oper)(j:Nat)(w:J):HT->List Prop
 |[]=>[]
 |(i,f,h)::d=>bif jS ops i j||f.isSome then xN ops j w d else h w::xN ops j w d
def gD(ops:Array Oper)(j:Nat):HT->HT
 |[]=>[]
 |(i,f,h)::d=>bif jS ops i j then gD ops j d else(i,f,h)::gD ops j d
def Hb(ops:Array Oper)(j:Nat)(s:TS)(H:HT)(K:TS->Prop):Prop:=
 bif H.any (λp=>!(jS ops p.1 j)&&p.2.1.isNone)then fG s λs=>tY (xN ops j s.w H) (K s)else K s
def stepT(P:aH)(q:List Nat)(ops:Array Oper)(draw:Bool)(i:Nat)(o:Oper)(s:TS)(H:HT)(K:TS->HT->Prop):Prop:=
 bif calm P o then DY P o s λv h k s=>K ⟨s.E.put o.dst v,s.S.put o.dst h,s.L,s.w,s.d⟩ (bif draw then k.map (λj=>(i,j))++H else H)
 else Ep P q draw o s λv h m s=>cS (!((gD ops i H).any λp=>m.isSome&&p.2.1==m)) (Hb ops i s H λs=>K ⟨s.E.put o.dst v,s.S.put o.dst h,s.L,s.w,s.d⟩ (gD ops i H))
def oe(P:aH)(h:List Nat)(ops:Array Oper)(draw:Bool)(i:Nat)(o:Oper)(d:Nat)(want t:Bool)(s:TS)(H:HT)(K:TS->HT->Prop):Prop:=
 bif (t==want)then stepT P h ops draw i o ⟨(d,.bool t)::s.E,s.S,s.L,s.w,s.d⟩ H K else K ⟨Env.put ((d,.bool t)::s.E) o.dst undef,s.S.put o.dst none,s.L,s.w,s.d⟩ (bif calm P o then H else gD ops i H)
def runT(P:aH)(h:List Nat)(ops:Array Oper)(draw:Bool)(K:TS->Prop):List Nat->TS->HT->Prop
 |[],s,_=>K s
 |i::l,s,j=>
  match ops[i]? with
  |none=>False
  |some o=>match o.guard with
   |none=>stepT P h ops draw i o s j λq k=>runT P h ops draw K l q k
   |some (y,want)=>match kn ops y with
    |none=>False
    |some x=>match s.E.get? x with
     |some (.bool t)=>bt t (oe P h ops draw i o x want true s j λq k=>runT P h ops draw K l q k) (oe P h ops draw i o x want false s j λq k=>runT P h ops draw K l q k)
     |some (.tuple _)=>runT P h ops draw K l ⟨Env.put s.E o.dst undef,s.S.put o.dst none,s.L,s.w,s.d⟩ (bif calm P o then j else gD ops i j)
     |_=>False
def xL(P:aH)(k:List Nat)(ops:Array Oper)(i:Nat)(s:TS)(H:HT)(h:TS->HT->Prop):Prop:=
 match ops[i]? with
 |none=>False
 |some o=>match o.guard with
  |none=>stepT P k ops true i o s H h
  |some (q,want)=>match kn ops q with
   |none=>False
   |some j=>match s.E.get? j with
    |some (.bool t)=>bt t (oe P k ops true i o j want true s H h) (oe P k ops true i o j want false s H h)
    |some (.tuple _)=>h ⟨Env.put s.E o.dst undef,s.S.put o.dst none,s.L,s.w,s.d⟩ (bif calm P o then H else gD ops i H)
    |_=>False
def q7(P:aH)(h:List Nat)(ops:Array Oper)(K:TS->Prop):Tr->TS->HT->Prop
 |.nil,s,_=>K s
 |.one i t,s,d=>xL P h ops i s d λk j=>q7 P h ops K t k j
 |.fork a b,s,d=>q7 P h ops K a s d/\q7 P h ops K b s d
def Tr.sq:List Nat->Tr->Tr
 |[],t=>t
 |i::l,t=>.one i (Tr.sq l t)
def zP(s:TS)(K:TS->Prop):Prop:=match s.L,s.d with
 |[],false=>K ⟨s.E,s.S,s.L,s.w.drew,false⟩
 |_,_=>K ⟨s.E,s.S,s.L,s.w,true⟩
section
variable {P:aH}
structure Inv(s:TS)(w:J):Prop where
 lc:LC w s.L
 rel:if s.d=true then Fr (·∈iw s.L) s.w w else w=s.w
 sl:∀t i j,s.S.get? t=some (i,j)->∃X,s.L[i]? =some X/\s.E.get? t=some (.pointer (some ((ab X.1).add j)))
def Inv.fG{s:TS}{w:J}{K:TS->Prop}(j:Inv s w)(h:W.fG s K):Inv ⟨s.E,s.S,s.L,w,false⟩ w/\K ⟨s.E,s.S,s.L,w,false⟩:=by
 refine⟨⟨j.lc,ws,j.sl⟩,?_⟩;unfold W.fG at h;have q:=j.rel;cases k:s.d with
 |true=>
  rw[k]at h q;exact h w (by grind)
 |false=>
  rw[k]at h q;have:w=s.w:=by grind
  obtain⟨x,z,y,B,A⟩:=s
  grind
def Inv.fr{s:TS}{w:J}(h:Inv s w):Fr (·∈iw s.L) s.w w:=by
 have k:=h.rel;cases j:s.d with
 |true=>grind
 |false=>
  rw[j]at k;have:w=s.w:=by grind
  subst this;exact Fr.refl _ _
def Inv.at{s:TS}{w:J}(d:Inv s w){x:Operand}{i j:Nat}(h:s.S.at x=some (i,j)):∃X,s.L[i]? =some X/\s.E.val x=some (.pointer (some ((ab X.1).add j)))/\w.heap[X.1]? =some (.cells X.2.1.toArray X.2.2 (0,0)):=by
 cases x with
 |tmp t=>
  obtain⟨X,k,q⟩:=d.sl t i j h;exact⟨X,k,q,d.lc.own i X k⟩
 |_=>cases h
def T':∀{h vs:List aa},BC h vs=true->vs.length=h.length
 |[],[],_=>rfl
 |j::h,v::vs,d=>by unfold BC at d;rw[bH]at d;simp[T' d.2]
def M6{T:aC}{cs:List aa}{j b:Nat}{ty:aC}{K:aa->Prop}(h:Fy P T cs j K):
  ∃v,K v/\∀d:J,d.heap[b]? =some (.cells cs.toArray ty (0,0))->(loadVar T ((ab b).add j)).run P d=.ok v d:=by
 obtain⟨k,h⟩:=dZ h;unfold zp at k;have one:∀(v:aa),cs[j]? =some v->(rK P T==some false)=true->∀d:J,d.heap[b]? =some (.cells cs.toArray ty (0,0))->(loadVar T ((ab b).add j)).run P d=.ok v d:=λv z q d x=>
  yw (by grind) (cellAt (p:=ab b) x rfl (by grind))
 cases A:zeroOf P T with
 |agg F=>
  rw[A]at h k;simp only at h k;obtain⟨C,B⟩:=dZ h;rw[bH]at k;obtain⟨q,w⟩:=k;cases y:P.info? T with
  |none=>grind
  |some i=>
   rw[y]at w;simp at w q;refine⟨_,B,λd x=>TL q y (by rw[w,T' C];simp) λE v D=>?_⟩;rw[add_add];refine cellAt (p:=ab b) x rfl ?_
   grind
 |nilFunc=>grind
 |_=>
  rw[A]at h k;simp only at h;split at h
  .rename_i v z;exact⟨v,(dZ h).2,one v z k⟩
  .exact h.elim
def YX{o:Oper}{E:Env}{w Y:J}{K:aa->List (J->Prop)->Prop}(h:Ci P o=false)(d:n0 P o E w K):n0 P o E Y K:=by
 unfold Ci at h;rw[Bool.or_eq_false_iff]at h;obtain⟨j,h⟩:=h;unfold n0 at d ⊢;rw[j]at d ⊢;simp only[cond_false]at d ⊢;unfold zK at d ⊢;unfold V9 at h;split at d<;>first |exact d|skip
 all_goals rename_i k
 all_goals rw[k]at h
 .cases h
 .rename_i q _ x;cases q with
  |const c=>grind
  |_=>
   simp only[isConst,cond_false]at h
   grind
 .cases h
 .grind
 grind
def y6(P:aH)(o:Oper)(a:Act)(s:TS)(w:J)(v:aa)(j:Option (Nat×Nat))(Ss:List (Option Nat×(J->Prop)))(s':TS):Prop:=
 Inv s' w/\s'.E=s.E/\s'.S=s.S/\s'.L=s.L/\Calm P o a.eval w v (Ss.map (·.2))/\
 (∀p∈Ss,∀i,p.1=some i->∃X,s.L[i]? =some X/\∀h:J,h.heap[X.1]? =some (.cells X.2.1.toArray X.2.2 (0,0))->p.2 h)/\
 (∀i d,j=some (i,d)->∃X,s.L[i]? =some X/\v=.pointer (some ((ab X.1).add d)))
section
variable {o:Oper} {n:Cx} {a:Act} {s:TS} {w:J} {K:aa->Option (Nat×Nat)->List (Option Nat×(J->Prop))->TS->Prop}
def Z6(H:∀z b,o.op≠.select z b)(D:Ag n a s.E)(x:Inv s w)(h:uT P o s K):∃v j d s',K v j d s'/\y6 P o a s w v j d s':=by
 have fin:∀(s':TS),s'.E=s.E->s'.S=s.S->s'.L=s.L->Inv s' w->n0 P o s.E w (λv d=>K v none (d.map λk=>(none,k)) s')->∃v j d s',K v j d s'/\y6 P o a s w v j d s':=λs' A B C y F=>by
  obtain⟨v,d,I,O⟩:=zL H D F;refine⟨v,none,_,s',I,y,A,B,C,?_,λp T i Q=>?_,λi U G=>by cases G⟩
  .rw [List.map_map];have:((λM:Option Nat×(J->Prop)=>M.2)∘λk=>((none:Option Nat),k))=id:=rfl;rw[this,List.map_id];omega
  grind
 unfold uT at h;cases q:Ci P o with
 |true=>
  rw[q,cond_true]at h;obtain⟨y,N⟩:=x.fG h
  grind
 |false=>
  rw[q,cond_false]at h;exact fin s rfl rfl rfl x (YX q h)
def YV(hs:∀U b,o.op≠.select U b)(C:Ag n a s.E)(z:Inv s w)(h:DY P o s K):∃v d B F,K v d B F/\y6 P o a s w v d B F:=by
 have gen:=λh=>Z6 (P:=P) (K:=K) hs C z h;have same:∀(x:Operand) (d:Nat×Nat),s.S.at x=some d->(∀w,(execOp a.eval o).run P w=.ok (.value (a.eval x)) w\/∀p,a.eval x≠.pointer (some p))->K ((s.E.val x).getD undef) (some d) [] s->∃v d B F,K v d B F/\y6 P o a s w v d B F:=λx d k hr q=>by
  obtain⟨X,G,A,_⟩:=z.at (i:=d.1) (j:=d.2) k;have he:=C.val A;refine⟨_,_,_,s,q,z,rfl,rfl,rfl,⟨λQ H=>(by cases H),λL _=>?_⟩,λp I=>(by cases I),λi D N=>?_⟩
  .grind
  grind
 unfold DY at h;split at h
 .rename_i M x y;split at h
  .rename_i i D k;obtain⟨X,G,A,W⟩:=z.at k;rw[G]at h;obtain⟨v,q,hv⟩:=M6 (b:=X.1) (ty:=X.2.2) h;refine⟨v,_,_,s,q,z,rfl,rfl,rfl,⟨λQ H=>?_,λL ac=>?_⟩,λp I i' ad=>?_,λi D N=>by cases N⟩
   .grind
   .have:(loadVar M ((ab X.1).add D)).run P L=.ok v L:=ac (λw=>(loadVar M ((ab X.1).add D)).run P w=.ok v w) ws;simp[execOp,y,Instr.loadAt,C.val A,Instr.sureAddr,this]
   grind
  grind
 .rename_i x y;split at h
  .rename_i d k;exact same x d k (λw=>.inl (by simp[execOp,y])) h
  grind
 .rename_i x y;split at h
  .rename_i d k;exact same x d k (λw=>.inl (by simp[execOp,y])) h
  grind
 .rename_i x y;split at h
  .rename_i d k;refine same x d k (λw=>?_) h;obtain⟨X,_,A,_⟩:=z.at (i:=d.1) (j:=d.2) k;exact .inl (by simp[execOp,y,C.val A])
  grind
 .rename_i M x f y;split at h
  .rename_i i D k;obtain⟨X,G,A,W⟩:=z.at k;split at h
   .rename_i ae X' q T;rw[G]at T;cases T;refine⟨_,_,_,s,h,z,rfl,rfl,rfl,⟨λQ H=>(by cases H),λL _=>?_⟩,λp I=>(by cases I),λi' j' N=>?_⟩
    .unfold LF at q;split at q
     .rename_i fs hu;split at q
      .rename_i fd Y;split at q
       .rename_i inf Z;cases O:cg inf.size 0 with
        |true=>grind
        |false=>
         rw[O]at q;cases q;have aa:inf.size≠0:=λe=>by rw[e]at O;cases O
         simp[execOp,y,C.val A,Instr.fieldAt,run_underlying hu,Y,Instr.sureAddr,fieldPlace,sizeOf,typeInfo,Z,aa,add_add]
       grind
      grind
     grind
    grind
   grind
  grind
 grind
end
def tG(s:TS)(K:aa->Option (Nat×Nat)->Option Nat->TS->Prop)(v:aa)(Y:J):Prop:=
 ∃j m d,K v j m d/\Inv d Y/\d.E=s.E/\d.S=s.S/\(∀i X,s.L[i]? =some X->m≠some i->d.L[i]? =some X)/\
  (∀i h,j=some (i,h)->∃X,d.L[i]? =some X/\v=.pointer (some ((ab X.1).add h)))
def TI{o:Oper}{ρ:Operand->aa}{T:aC}{z:aa}(j:o.op=.alloc T)(h:(P.info? T).bind (·.zero)=some z)(w:J):
  (execOp ρ o).run P w=.ok (.value (.pointer (some (ab w.heap.size)))) (w.alloc (.cells z.cells T)):=by
 cases d:P.info? T with
 |none=>grind
 |some i=>
  rw[d]at h;have k:i.zero=some z:=h;simp[execOp,j,Instr.alloc,zeroValue,typeInfo,d,k,newVar,newRow]
def TJ{o:Oper}{ρ:Operand->aa}{T:aC}{x:Operand}(d:o.op=.box T x)(w:J):
  (execOp ρ o).run P w=.ok (.value (.pointer (some (ab w.heap.size)))) (w.alloc (.cells (ρ x).cells T)):=by simp[execOp,d,Instr.box,newVar,newRow]
def aaW{L:Lv}{w Y:J}{p:Prop}(h:qx L w Y p)(H:LC w L):LC Y L/\p:=by
 cases L with
 |nil=>exact⟨LC.nil _,h⟩
 |cons d L=>exact⟨H.qx h.1,h.2⟩
section
variable {o:Oper} {n:Cx} {a:Act} {s:TS} {w:J} {K:aa->Option (Nat×Nat)->Option Nat->TS->Prop}
def JR{f:cW}{args:Array aa}{K:aa->J->Prop}(j:(execOp a.eval o).run P w=.ok (.enter f args) w)(h:aj P f args w λe d=>∃v,e=ae v/\K v d):ja P o a w K:=by
 intro k;unfold Oper.wp;rw[j];simp only[Oper.upon];refine Calls.mono h λe d q=>?_
 grind
def JS{f:cW}{args:Array aa}{z:aa}{K:aa->J->Prop}(q:(execOp a.eval o).run P w=.ok (.enter f args) w)(H:LC w s.L)(x:s.w=w)(h:zI P f args z s K):ja P o a w λv d=>LC d s.L/\K v d:=by
 unfold zI at h;split at h
 .rename_i A;rw[x]at h;refine JR q (Calls.mono h λe d j=>?_);obtain⟨v,rfl,k⟩:=r4 j;exact⟨v,rfl,by rw[A];exact LC.nil _,k⟩
 .rw [x]at h;obtain⟨E,C,B⟩:=h;refine JR q (Calls.mono B λe d j=>?_);obtain⟨y,D⟩:=j;obtain⟨v,rfl,k⟩:=r4 D;exact⟨v,rfl,H.fr y C,k⟩
def Ra{cs:Array aa}{T:aC}(q:(execOp a.eval o).run P w=.ok (.value (.pointer (some (ab w.heap.size)))) (w.alloc (.cells cs T)))(d:Inv s w)(h:Gt s cs.toList T K):ja P o a w (tG s K):=by
 intro x;unfold Oper.wp;rw[q];simp only[Oper.upon];refine⟨_,rfl,_,_,_,h w.heap.size (w.alloc (.cells cs T)) d.fr.size (size_alloc _ _) (d.fr.dN (Fr.alloc _ _ _)),⟨d.lc.push cs T,ws,λt i k j=>?_⟩,rfl,rfl,λi X A _=>?_,λi k j=>?_⟩
 .obtain ⟨X,y,z⟩:=d.sl t i k j
  grind
 .grind
 .cases j;exact⟨(w.heap.size,cs.toList,T),ws,by rw[jg]⟩
def Uz{i j b:Nat}{T:aC}{B:J}{K:J->Prop}:∀(vs:List aa) (k:Nat) (w:J) (L:Lv) (cs:List aa),LC w L->L[i]? =some (b,cs,T)->j+k+vs.length<=cs.length->Fr (·∈iw L) B w->
  (∀d,LC d (L.set i (b,BA cs (j+k) vs,T))->Fr (·∈iw L) B d->K d)->qW ((ab b).add j) vs k w K
 |[],k,w,L,cs,h,q,A,f,x=>by
  refine x w ?_ f;have:L.set i (b,cs,T)=L:=by
   apply List.ext_getElem?
   grind
  rw[show BA cs (j+k) []=cs from rfl,this];exact h
 |v::vs,k,w,L,cs,h,q,A,f,x=>by
  simp only[List.length_cons]at A;obtain⟨C,D,E,F⟩:=h.set (v:=v) i (j+k) q co f
  unfold qW;rw[add_add];refine⟨C,D,Uz (i:=i) (T:=T) vs (k+1) _ _ (cs.set (j+k) v) E ?_ (by grind) F λd y z=>?_⟩
  .grind
  .rw [List.set_set]at y;rw[Dx L i q]at z;exact x d y z
def Uy{L:Lv}{p:Addr}{K K':J->Prop}(k:∀j,LC j L->K j->K' j):∀(vs:List aa) (i:Nat) (w:J),LC w L->HO (iw L) p vs i w K->qW p vs i w K'
 |[],_,w,d,h=>k w d h
 |v::vs,i,w,d,h=>by obtain⟨q,x,y,z⟩:=h;exact⟨q,x,Uy k vs (i+1) _ (d.qx y) z⟩
def Wf{b:Bool}{p:Prop}(d:b=true)(h:p):cS b p:=by subst d;exact h
def Ku{E:Env}{T:aC}{x y:Operand}{p:Addr}{v:aa}{K:aa->J->Prop}(j:o.op=.store T x y)(k:E.val x=some (.pointer (some p)))(q:E.val y=some v)(d:(v.cells.size==(match P.info? T with |some i=>i.size|none=>0)&&v.cells.toList.all sJ&&(P.info? T).isSome)=true)(h:qW p v.cells.toList 0 w λz=>K undef z):hL P o E w K:=by unfold hL;rw[j];simp only[k,q];exact Wf d h
def TM{ρ:Operand->aa}{nx:Next}{Y:J}(d:(∃j,o.op=.alloc j)\/(∃j B,o.op=.box j B)\/(∃j l p,o.op=.buildSlice j l p)\/(∃j r,o.op=.makeMap j r))(h:(execOp ρ o).run P w=.ok nx Y):af w Y:=by
 rcases d with⟨j,d⟩|⟨j,B,d⟩|⟨j,l,p,d⟩|⟨j,r,d⟩
 .cases x:(P.info? j).bind (·.zero)with
  |some C=>
   rw[TI d x]at h;cases h;exact Fr.alloc _ _ _
  |none=>
   exfalso;cases q:P.info? j with
   |none=>simp[execOp,d,Instr.alloc,zeroValue,typeInfo,q]at h
   |some i=>
    rw[q]at x;have D:i.zero=none:=x;simp[execOp,d,Instr.alloc,zeroValue,typeInfo,q,D]at h
 .rw [TJ d]at h;cases h;exact Fr.alloc _ _ _
 .cases k:P.underlying j with
  |none=>simp[execOp,d,Instr.buildSlice,underlying,k]at h
  |some u=>
   cases u<;>first |(simp[execOp,d,Instr.buildSlice,run_underlying k]at h;done)|skip
   rename_i e;cases q:P.info? e with
   |none=>simp[execOp,d,Instr.buildSlice,run_underlying k,sizeOf,typeInfo,q]at h
   |some i=>
    by_cases A:l *i.size>2^24
    .simp [execOp,d,Instr.buildSlice,run_underlying k,sizeOf,typeInfo,q,A]at h
    by_cases z:l *i.size=0
    .simp [execOp,d,Instr.buildSlice,run_underlying k,sizeOf,typeInfo,q,z]at h;split at h
     .simp [newRow]at h;obtain⟨_,rfl⟩:=h;exact Fr.alloc _ _ _
     .simp at h
    .simp [execOp,d,Instr.buildSlice,run_underlying k,sizeOf,typeInfo,q,A,z]at h;cases x:i.zero with
     |none=>simp[zeroValue,typeInfo,q,x]at h
     |some C=>
      simp[zeroValue,typeInfo,q,x]at h;split at h
      .simp [newRow]at h;obtain⟨_,rfl⟩:=h;exact Fr.alloc _ _ _
      .simp at h
 .cases r with
  |none=>
   simp[execOp,d,Instr.makeMap]at h;obtain⟨_,rfl⟩:=h;exact Fr.alloc _ _ _
  |some r=>
   cases k:P.underlying j with
   |none=>simp[execOp,d,Instr.makeMap,underlying,k]at h
   |some u=>
    cases u<;>first |(simp[execOp,d,Instr.makeMap,run_underlying k]at h;done)|skip
    cases y:ρ r with
    |int F C=>
     simp[execOp,d,Instr.makeMap,run_underlying k,y,Go.asInt,Go.asIntOf]at h;obtain⟨_,rfl⟩:=h;exact Fr.alloc _ _ _
    |pointer E=>cases E<;>simp[execOp,d,Instr.makeMap,run_underlying k,y,Go.asInt,Go.asIntOf]at h
    |_=>simp[execOp,d,Instr.makeMap,run_underlying k,y,Go.asInt,Go.asIntOf]at h
def acb{K:aa->J->Prop}(B:∀y b,o.op≠.select y b)(z:Ag n a s.E)(k:(∃d,o.op=.alloc d)\/(∃d C,o.op=.box d C)\/(∃d l p,o.op=.buildSlice d l p)\/(∃d r,o.op=.makeMap d r))(h:hL P o s.E w K):ja P o a w λv x=>af w x/\K v x:=by
 have j:ql P o s.E w K:=by
  unfold hL at h
  grind
 obtain⟨A,j⟩:=dZ j;intro D;unfold Oper.wp;rw[z.execOp B A];generalize q:(execOp s.E.ev o).run P w=r at j;split at j
 .simp only[Oper.upon];exact⟨_,rfl,TM k q,j⟩
 .simp only[Oper.upon];exact⟨_,rfl,TM k q,j⟩
 grind
def Zq{draw:Bool}{lv:List Nat}(A:(aa->J->Prop)->Prop)(C:∀K,ja P o a w K->A K)(h1:∀K,(bif draw then hL else uD) P o s.E w K->A K)(G:∀K ab,(∀v d,K v d->ab v d)->A K->A ab)(Q:∀cs b,o.op≠.select cs b)(F:Ag n a s.E)(k:Inv s w)(h:Ep P lv draw o s K):A (tG s K):=by
 have back:∀v d,LC d s.L->K v none none ⟨s.E,s.S,s.L,d,false⟩->tG s K v d:=λv d D j=>⟨none,none,_,j,⟨D,ws,k.sl⟩,rfl,rfl,λi X h _=>h,λi ae Z=>by cases Z⟩;have ac:∀v d,qx s.L w d (K v none none ⟨s.E,s.S,s.L,d,false⟩)->tG s K v d:=λv d j=>by
  obtain⟨D,j⟩:=aaW j k.lc
  grind
 have news:((∃y,o.op=.alloc y)\/(∃y I,o.op=.box y I)\/(∃y l p,o.op=.buildSlice y l p)\/(∃y r,o.op=.makeMap y r))->fG s (λs=>hL P o s.E s.w λv d=>K v none none ⟨s.E,s.S,s.L,d,false⟩)->A (tG s K):=λq h=>by obtain⟨_,B⟩:=k.fG h;exact G _ _ (λv d ⟨f,j⟩=>back v d (k.lc.fr (M:=λ_=>False) f (λ_ _ h=>h)) j) (C _ (acb Q F q B))
 unfold Ep at h;split at h
 .rename_i y I am q;split at h
  .rename_i i ae H;obtain⟨X,W,g2,_⟩:=k.at H;split at h
   .rename_i X' v ad hv;rw[W]at ad;cases ad;obtain⟨z,j⟩:=dZ h;rw[bH]at z;obtain⟨z,hb⟩:=z;have hb:=Nat.le_of_ble_eq_true hb;refine C _ (n5 Q F (Ku q g2 hv z ?_));refine Uz (i:=i) (T:=X.2.2) _ 0 w s.L X.2.1 k.lc W co k.fr λd q1 q2=>?_;refine⟨none,some i,_,j,⟨q1,?_,λt U j' ht=>?_⟩,rfl,rfl,λU af hY ai=>?_,λi ae Z=>by cases Z⟩
    .simp only[if_true];rw[Dx s.L i W];exact q2
    .obtain ⟨af,y1,y2⟩:=k.sl t U j' ht;by_cases e:i=U
     .grind
     grind
    .have e:i≠U:=λe=>ai (by rw[e])
     grind
   grind
  .obtain ⟨_,B⟩:=k.fG h;simp only at B;split at B
   .rename_i ag;exact G _ _ (λv d j=>back v d (ag▸LC.nil _) j) (C _ (n5 Q F B))
   .split at B
    .rename_i p v H hy;obtain⟨z,j⟩:=dZ B;exact G _ _ (λv d j=>j) (C _ (n5 Q F (Ku q H hy z (Uy (K':=tG s K undef) (λd D j=>back _ d D j) _ _ _ k.lc j))))
    grind
 .rename_i y q;cases Y:Ai lv o.dst with
  |true=>
   rw[Y,cond_true]at h;obtain⟨hz,h⟩:=dZ h;obtain⟨ak,hz⟩:=Option.isSome_iff_exists.1 hz;have:zeroOf P y=ak:=by unfold zeroOf;grind
   rw[this]at h;exact C _ (Ra (TI q hz w) k h)
  |false=>
   grind
 .rename_i y I q;cases Y:Ai lv o.dst with
  |true=>
   rw[Y,cond_true]at h;split at h
   .rename_i v hv;have:=TJ (P:=P) (ρ:=a.eval) q w;rw[F.val hv]at this;exact C _ (Ra this k h)
   grind
  |false=>
   grind
 .grind
 .grind
 .rename_i f args aj q;obtain⟨I',h⟩:=k.fG h;obtain⟨z,h⟩:=dZ h;have O:args.map a.eval=args.map s.E.ev:=F.args λI H=>List.all_eq_true.1 z I (by rw[q];simp[Op.operands,Call.operands,H]);cases N:hG P f with
  |true=>
   rw[N,cond_true]at h;exact G _ _ (λv d ⟨D,j⟩=>back v d D j) (C _ (JS (s:=⟨s.E,s.S,s.L,w,false⟩) (by simp[execOp,q,resolve,Act.eval,Deferred.ofValue,invoke,O,wV N]) k.lc rfl h))
  |false=>
   rw[N,cond_false]at h;unfold xG at h;obtain⟨v,d,hr,j⟩:=r4 h;refine G _ _ ac (C _ λal=>?_);unfold Oper.wp;have:(execOp a.eval o).run P w=.ok (.value v) d:=by simp[execOp,q,resolve,Act.eval,Deferred.ofValue,invoke,O,hr]
   rw[this];simp only[Oper.upon]
   grind
 .rename_i t args aj q;obtain⟨I',h⟩:=k.fG h;obtain⟨z,h⟩:=dZ h;have O:args.map a.eval=args.map s.E.ev:=F.args λI H=>List.all_eq_true.1 z I (by rw[q];simp[Op.operands,Call.operands,H]);split at h
  .rename_i f first captured hf
   obtain⟨N,h⟩:=dZ h;have ah:a.eval (.tmp t)=.func (.func f) first captured:=F.val (x:=.tmp t) hf
   exact G _ _ (λv d ⟨D,j⟩=>back v d D j) (C _ (JS (s:=⟨s.E,s.S,s.L,w,false⟩) (by simp[execOp,q,resolve,ah,Deferred.ofValue,invoke,O,wV N]) k.lc rfl h))
  grind
 .obtain ⟨_,B⟩:=k.fG h;exact G _ _ ac (h1 _ B)
end
def HI(s:TS)(H:HT)(w:J):Prop:=∀p∈H,p.2.2 w/\∀i,p.2.1=some i->∃X,s.L[i]? =some X/\∀d:J,d.heap[X.1]? =some (.cells X.2.1.toArray X.2.2 (0,0))->p.2.2 d
def ft(H:HT):eQ:=H.map λp=>(p.1,p.2.2)
def uV{ops:Array Oper}{j:Nat}:∀d:HT,dt ops j (ft d)=ft (gD ops j d)
 |[]=>rfl
 |(i,f,h)::d=>by
  show dt ops j ((i,h)::ft d)=ft (gD ops j ((i,f,h)::d));unfold dt gD;cases jS ops i j
  .simp only[cond_false];rw[uV d];rfl
  .simp only[cond_true];exact uV d
def oi{ops:Array Oper}{j:Nat}:∀{H:HT} {p},p∈gD ops j H->p∈H/\jS ops p.1 j=false
 |(i,f,k)::H,p,d=>by
  unfold gD at d;cases h:jS ops i j with
  |true=>
   rw[h,cond_true]at d;exact⟨fF _ (oi d).1,(oi d).2⟩
  |false=>
   rw[h,cond_false]at d;rcases aq.1 d with rfl|d
   .grind
   .exact ⟨fF _ (oi d).1,(oi d).2⟩
def Md{ops:Array Oper}{j:Nat}{w:J}:∀{H:HT} {p},p∈H->jS ops p.1 j=false->p.2.1=none->p.2.2 w∈xN ops j w H
 |(i,f,q)::H,p,d,k,h=>by
  unfold xN;rcases aq.1 d with rfl|d
  .grind
  .have:=Md (w:=w) d k h
   grind
def Inv.put{s:TS}{w:J}(j:Inv s w)(d:Option Nat){v:aa}{q:Option (Nat×Nat)}(A:∀i h,q=some (i,h)->∃X,s.L[i]? =some X/\v=.pointer (some ((ab X.1).add h))):Inv ⟨s.E.put d v,s.S.put d q,s.L,s.w,s.d⟩ w:=by
 refine⟨j.lc,j.rel,λt i h k=>?_⟩;cases d with
 |none=>exact j.sl t i h k
 |some d=>
  simp only[Sv.put,Sv.get?]at k;simp only[Env.put,Env.get?];cases x:cg d t with
  |true=>
   grind
  |false=>
   rw[x,cond_false]at k;obtain⟨X,y,z⟩:=j.sl t i h k
   grind
def adG{ops:Array Oper}{j:Nat}{s k:TS}{w Y:J}{m:Option Nat}{H:HT}{K:TS->Prop}(I:HI s H w)(y:Inv k Y)(O:∀i X,s.L[i]? =some X->m≠some i->k.L[i]? =some X)(P:(!((gD ops j H).any λp=>m.isSome&&p.2.1==m))=true)(h:Hb ops j k H K):
  ∃q,K q/\Inv q Y/\q.E=k.E/\q.S=k.S/\q.L=k.L/\HI q (gD ops j H) Y:=by
 have B:∀p∈gD ops j H,∀i,p.2.1=some i->∃X,k.L[i]? =some X/\∀Y:J,Y.heap[X.1]? =some (.cells X.2.1.toArray X.2.2 (0,0))->p.2.2 Y:=λp d i A=>by
  obtain⟨X,C,D⟩:=(I p (oi d).1).2 i A
  grind
 have own:∀p∈gD ops j H,∀i,p.2.1=some i->p.2.2 Y:=λp d i A=>by obtain⟨X,C,D⟩:=B p d i A;exact D Y (y.lc.own i X C)
 unfold Hb at h;cases x:H.any (λp=>!(jS ops p.1 j)&&p.2.1.isNone)with
 |true=>
  rw[x,cond_true]at h;obtain⟨F,G⟩:=y.fG h;obtain⟨M,N⟩:=tZ G;refine⟨_,N,F,rfl,rfl,rfl,λp d=>⟨?_,B p d⟩⟩;cases z:p.2.1 with
  |none=>exact M _ (Md (oi d).1 (oi d).2 z)
  |some i=>grind
 |false=>
  rw[x,cond_false]at h;refine⟨k,h,y,rfl,rfl,rfl,λp d=>⟨?_,B p d⟩⟩;cases z:p.2.1 with
  |none=>
   exfalso;rw[List.any_eq_false]at x;exact x p (oi d).1 (by rw[(oi d).2,z];rfl)
  |some i=>grind
section
variable {ops:Array Oper} {n:Cx} {lv:List Nat}
def HW{o:Oper}{a:Act}{s:TS}{w:J}{H:HT}{K:TS->HT->Prop}{draw:Bool}{i:Nat}(A:(aa->J->Prop)->Prop)(D:∀K,ja P o a w K->A K)(F:∀K,(bif draw then hL else uD) P o s.E w K->A K)(q:∀K k,(∀v d,K v d->k v d)->A K->A k)(T:∀C b,o.op≠.select C b)(L:Ag n a s.E)(y:Inv s w)(G:HI s H w)(N:calm P o=false)(h:stepT P lv ops draw i o s H K):
  A λv d=>∃j,K j (gD ops i H)/\Inv j d/\HI j (gD ops i H) d/\j.E=s.E.put o.dst v:=by
 unfold stepT at h;rw[N,cond_false]at h;refine q _ _ (λv d O=>?_) (Zq A D F q T L y h);obtain⟨ac,m,s1,Q,z,W,Y,I,hq⟩:=O;obtain⟨M,S⟩:=dZ Q;obtain⟨s2,U,B,Z,f2,f3,x⟩:=adG G z I M S;refine⟨_,U,B.put o.dst λi ab h=>?_,x,by grind⟩
 grind
def UL{o:Oper}{a:Act}{s:TS}{w:J}{H:HT}{K:TS->HT->Prop}{draw:Bool}{i:Nat}(Q:∀C b,o.op≠.select C b)(M:Ag n a s.E)(A:Inv s w)(G:HI s H w)(N:calm P o=true)(h:stepT P lv ops draw i o s H K):
  ∃v k j q,K j q/\Inv j w/\HI j q w/\j.E=s.E.put o.dst v/\Calm P o a.eval w v k/\ft q=(bif draw then k.map (λx=>(i,x))++ft H else ft H):=by
 unfold stepT at h;rw[N,cond_true]at h;obtain⟨v,ab,k,j,O,B,D,S,F,y,U,W⟩:=YV Q M A h;refine⟨v,k.map (·.2),_,_,O,B.put o.dst λi Z h=>?_,λp d=>?_,by rw[D],y,?_⟩
 .grind
 .have aa:p∈H->p.2.2 w/\∀i,p.2.1=some i->∃X,j.L[i]? =some X/\∀z:J,z.heap[X.1]? =some (.cells X.2.1.toArray X.2.2 (0,0))->p.2.2 z:=λd=>by rw[F];exact G p d
  cases draw with
  |false=>grind
  |true=>
   rcases List.mem_append.1 d with d|d
   .obtain ⟨x,I,rfl⟩:=List.mem_map.1 d;refine⟨y.1 _ (List.mem_map.2 ⟨x,I,rfl⟩),λY T=>?_⟩
    grind
   grind
 .cases draw with
  |false=>rfl
  |true=>simp[ft]
def E6{i d:Nat}{o:Oper}{want t:Bool}{s:TS}{H:HT}{K:TS->HT->Prop}{draw:Bool}(h:bt t (oe P lv ops draw i o d want true s H K) (oe P lv ops draw i o d want false s H K)):oe P lv ops draw i o d want t s H K:=by
 cases t
 .exact h
 .exact h
def Inv.same{s:TS}{w:J}(h:Inv s w){d:Nat}{v:aa}(z:s.E.get? d=some v):Inv ⟨(d,v)::s.E,s.S,s.L,s.w,s.d⟩ w:=by
 refine⟨h.lc,h.rel,λt i q k=>?_⟩;obtain⟨X,j,x⟩:=h.sl t i q k;refine⟨X,j,?_⟩;simp only[Env.get?];by_cases e:d=t
 .grind
 .have y:cg d t=false:=by rw[<-Bool.not_eq_true,eO];exact e
  grind
def Inv.skip{s:TS}{w:J}(h:Inv s w)(d:Option Nat):Inv ⟨s.E.put d undef,s.S.put d none,s.L,s.w,s.d⟩ w:=h.put d λi k j=>by cases j
def HI.skip{s s':TS}{w:J}{H:HT}(h:HI s H w)(e:s'.L=s.L):HI s' H w:=λp d=>by rw[e];exact h p d
def HI.drop{s:TS}{w:J}{H:HT}{j:Nat}(h:HI s H w):HI s (gD ops j H) w:=λp d=>h p (oi d).1
def HI.held{s:TS}{w:J}{H:HT}(h:HI s H w):∀p∈ft H,p.2 w:=λp d=>by obtain⟨k,j,rfl⟩:=List.mem_map.1 d;exact(h k j).1
def Bw{K:TS->Prop}{Q:Exit->Act->J->Prop}(x:eg n ops=true):∀(l:List Nat) (s:TS) (w:J) (a:Act),Ag n a s.E->Inv s w->runT P lv ops false K l s []->(∀y z M,Ag n M y.E->Inv y z->K y->Q .normal M z)->wpOpsIn (FW n) 0 P ops Q l a w
 |[],s,w,a,j,q,h,F=>F s w a j q h
 |i::l,s,w,a,j,q,h,F=>by
  have W:=Region.noSelect_spec (ops:=ops) (by unfold eg at x;grind);unfold runT at h;cases k:ops[i]? with
  |none=>grind
  |some o=>
   rw[k]at h;simp only at h;have step:∀(s:TS),Ag n a s.E->Inv s w->dv o (yielded ops a.tmps)=true->stepT P lv ops false i o s [] (λy G=>runT P lv ops false K l y G)->wpOpsIn (FW n) 0 P ops Q (i::l) a w:=λs j q H h=>by
    rw[wpOpsIn_cons];cases hc:calm P o with
    |true=>
     obtain⟨v,Ss,y,G,Y,I,_,N,ab,ac⟩:=UL (λC b=>W i o C b k) j q (λp U=>by cases U) hc h;have:G=[]:=by cases G with |nil=>rfl|cons ag l=>cases ac
     subst this;refine Ck (Kv:=λv' z=>v'=v/\z=w) k H ?_ ?_
     .refine ja.in (vi x k) λZ=>?_;unfold Oper.wp;rw[ab.2 w ab.1];exact⟨v,rfl,rfl,rfl⟩
     .rintro v' z ⟨rfl,rfl⟩;exact Bw x l y _ _ (by rw[N];exact j.put _ (g5 x k)) I Y F
    |false=>
     refine Ck k H (HW (draw:=false) (s:=s) (y5 P n o a w) (λK O=>O.in (vi x k)) (λK O=>Kw (λC b=>W i o C b k) (vi x k) j O) (λK K' ad hA Z=>Oper.wpIn_mono (λM z ⟨v,e,hv⟩=>⟨v,e,ad v z hv⟩) (hA Z)) (λC b=>W i o C b k) j q (λp U=>by cases U) hc h) λv z ⟨y,Y,I,_,N⟩=>?_;exact Bw x l y z _ (by rw[N];exact j.put v (g5 x k)) I Y F
   have skip:∀(s:TS),Ag n a s.E->Inv s w->dv o (yielded ops a.tmps)=false->runT P lv ops false K l ⟨s.E.put o.dst undef,s.S.put o.dst none,s.L,s.w,s.d⟩ []->wpOpsIn (FW n) 0 P ops Q (i::l) a w:=λs j q H h=>by rw[wpOpsIn_cons];unfold wpOpIn;simp only[k,H];exact⟨λ_ _=>trivial,Bw x l _ w _ (j.put undef (g5 x k)) (q.skip o.dst) h F⟩
   have aa:(bif calm P o then([]:HT)else gD ops i [])=[]:=by cases calm P o<;>rfl
   cases B:o.guard with
   |none=>
    rw[B]at h;exact step s j q (by simp[dv,B]) h
   |some jw=>
    obtain⟨ae,want⟩:=jw;rw[B]at h;simp only at h;cases T:kn ops ae with
    |none=>grind
    |some af=>
     rw[T]at h;simp only at h;split at h
     .rename_i t A;have hy:=tq j T A;have D:=E6 h;unfold oe at D;cases hb:(t==want)with
      |true=>
       rw[hb,cond_true]at D;exact step _ (j.same A) (q.same A) (by simp[dv,B,hy];grind) D
      |false=>
       rw[hb,cond_false,aa]at D;exact skip _ (j.same A) (q.same A) (by simp[dv,B,hy];grind) D
     .rename_i vs A;rw[aa]at h;exact skip s j q (by simp[dv,B,tt j T A]) h
     grind
def hV(n:Cx)(K:TS->Prop):Exit->Act->J->Prop
 |.normal,a,d=>∃s,Ag n a s.E/\Inv s d/\K s
 |_,_,_=>False
def aay{o:Oper}{i:Nat}{H:HT}:(bif calm P o then ft H else dt ops i (ft H))=ft (bif calm P o then H else gD ops i H):=by
 cases calm P o
 .exact uV H
 .rfl
def HI.BD{o:Oper}{i:Nat}{s s':TS}{w:J}{H:HT}(h:HI s H w)(e:s'.L=s.L):HI s' (bif calm P o then H else gD ops i H) w:=by
 cases calm P o
 .exact h.drop.skip e
 .exact h.skip e
def aat(I:eg n ops=true){K:TS->Prop}{i:Nat}{o:Oper}{s:TS}{w:J}{H:HT}{a:Act}{N:TS->HT->Prop}{y:Array Bool}{fuel:Nat}(q:ops[i]? =some o)(Q:(bif calm P o then Region.free .any ops y i&&(e4 .any ops y).contains i else e4 .any ops y==[i])=true)(j:Ag n a s.E)(x:Inv s w)(k:HI s H w)(h:xL P lv ops i s H N)(next:∀Y A z D,Ag n Y A.E->Inv A z->HI A D z->N A D->eN P ops (hV n K) fuel (ft D) (y.setIfInBounds i true) Y z):eN P ops (hV n K) (fuel+1) (ft H) y a w:=by
 have T:=Region.noSelect_spec (ops:=ops) (by unfold eg at I;grind);have hQ:∀c a w,hV n K (.panic c) a w=False:=λ_ _ _=>rfl;have step:∀(s:TS),Ag n a s.E->Inv s w->HI s H w->dv o (yielded ops a.tmps)=true->stepT P lv ops true i o s H N->eN P ops (hV n K) (fuel+1) (ft H) y a w:=λs j x k ac h=>by
  cases O:calm P o with
  |true=>
   rw[O,cond_true,bH]at Q;obtain⟨v,ad,A,D,k1,W,M,Z,ab,aa⟩:=UL (λF b=>T i o F b q) j x k O h;refine Is (v:=v) (Ss:=ad) q T (by grind) fuel (ft H) y a w (Region.free_spec q Q.1) (by grind) (.inl ⟨ac,λz af=>ab.2 z af⟩) ab.1 k.held ?_;rw[cond_true]at aa;rw[<-aa];exact next _ A w D (by rw[Z];exact j.put v (g5 I q)) W M k1
  |false=>
   rw[O,cond_false]at Q;have hr:e4 .any ops y=[i]:=by grind
   refine λ_=>⟨λh0=>(by grind),λU hj=>?_⟩;rw[hr]at hj;obtain rfl:=List.mem_singleton.1 hj;refine y2 q ac (HW (draw:=true) (s:=s) (ja P o a w) (λK hK=>hK) (λK hK=>n5 (λF b=>T U o F b q) j hK) (λK K' ae hA Q'=>Oper.wp_mono (λY z ⟨v,e,hv⟩=>⟨v,e,ae v z hv⟩) (hA Q')) (λF b=>T U o F b q) j x k O h) λv z ⟨A,k1,W,M,Z⟩=>?_;rw[uV];exact⟨M.held,next _ A z _ (by rw[Z];exact j.put v (g5 I q)) W M k1⟩
 have skip:∀(s:TS),Ag n a s.E->Inv s w->HI s H w->dv o (yielded ops a.tmps)=false->N ⟨s.E.put o.dst undef,s.S.put o.dst none,s.L,s.w,s.d⟩ (bif calm P o then H else gD ops i H)->eN P ops (hV n K) (fuel+1) (ft H) y a w:=λs j x k hw h=>by refine yB I q Q hQ k.held hw ?_;rw[aay];exact next _ _ w _ (j.put undef (g5 I q)) (x.skip o.dst) (k.BD rfl) h
 unfold xL at h;rw[q]at h;simp only at h;cases C:o.guard with
 |none=>
  rw[C]at h;exact step s j x k (by simp[dv,C]) h
 |some jw=>
  obtain⟨U,want⟩:=jw;rw[C]at h;simp only at h;cases hd:kn ops U with
  |none=>grind
  |some ag=>
   rw[hd]at h;simp only at h;split at h
   .rename_i t B;have hy:=tq j hd B;have G:=E6 h;unfold oe at G;cases hb:(t==want)with
    |true=>
     rw[hb,cond_true]at G;exact step _ (j.same B) (x.same B) (k.skip rfl) (by simp[dv,C,hy];grind) G
    |false=>
     rw[hb,cond_false]at G;exact skip _ (j.same B) (x.same B) (k.skip rfl) (by simp[dv,C,hy];grind) G
   .rename_i vs B;exact skip s j x k (by simp[dv,C,tt j hd B]) h
   grind
def aau(Q:eg n ops=true){K:TS->Prop}{i:Nat}{o:Oper}{s:TS}{w:J}{H:HT}{a:Act}{F:TS->HT->Prop}{G:Array Bool}{fuel:Nat}(z:ops[i]? =some o)(W:calm P o=false)(k:Ag n a s.E)(y:Inv s w)(x:HI s H w)(h:xL P lv ops i s H F)(next:∀q C j I,Ag n q C.E->Inv C j->HI C I j->F C I->eN P ops (hV n K) fuel (ft I) (G.setIfInBounds i true) q j):
  wpOp P ops (hV n K) i (λq j=>(∀p∈dt ops i (ft H),p.2 j)/\eN P ops (hV n K) fuel (dt ops i (ft H)) (G.setIfInBounds i true) q j) a w:=by
 have Y:=Region.noSelect_spec (ops:=ops) (by unfold eg at Q;grind);have step:∀(s:TS),Ag n a s.E->Inv s w->HI s H w->dv o (yielded ops a.tmps)=true->stepT P lv ops true i o s H F->wpOp P ops (hV n K) i (λq j=>(∀p∈dt ops i (ft H),p.2 j)/\eN P ops (hV n K) fuel (dt ops i (ft H)) (G.setIfInBounds i true) q j) a w:=λs k y x ab h=>by refine y2 z ab (HW (draw:=true) (s:=s) (ja P o a w) (λK N=>N) (λK N=>n5 (λM b=>Y i o M b z) k N) (λK K' aa hA Q'=>Oper.wp_mono (λq j ⟨v,e,hv⟩=>⟨v,e,aa v j hv⟩) (hA Q')) (λM b=>Y i o M b z) k y x W h) λv j ⟨C,k1,I',T,e1⟩=>?_;rw[uV];exact⟨T.held,next _ C j _ (by rw[e1];exact k.put v (g5 Q z)) I' T k1⟩
 have skip:∀(s:TS),Ag n a s.E->Inv s w->HI s H w->dv o (yielded ops a.tmps)=false->F ⟨s.E.put o.dst undef,s.S.put o.dst none,s.L,s.w,s.d⟩ (bif calm P o then H else gD ops i H)->wpOp P ops (hV n K) i (λq j=>(∀p∈dt ops i (ft H),p.2 j)/\eN P ops (hV n K) fuel (dt ops i (ft H)) (G.setIfInBounds i true) q j) a w:=λs k y x hw h=>by refine HC z x.held hw ?_;rw[W,cond_false]at h;rw[uV];exact next _ _ w _ (k.put undef (g5 Q z)) (y.skip o.dst) (x.drop.skip rfl) h
 unfold xL at h;rw[z]at h;simp only at h;cases B:o.guard with
 |none=>
  rw[B]at h;exact step s k y x (by simp[dv,B]) h
 |some jw=>
  obtain⟨ac,want⟩:=jw;rw[B]at h;simp only at h;cases O:kn ops ac with
  |none=>grind
  |some ad=>
   rw[O]at h;simp only at h;split at h
   .rename_i t A;have Z:=tq k O A;have D:=E6 h;unfold oe at D;cases U:(t==want)with
    |true=>
     rw[U,cond_true]at D;exact step _ (k.same A) (y.same A) (x.skip rfl) (by simp[dv,B,Z];grind) D
    |false=>
     rw[U,cond_false]at D;exact skip _ (k.same A) (y.same A) (x.skip rfl) (by simp[dv,B,Z];grind) D
   .rename_i vs A;exact skip s k y x (by simp[dv,B,tt k O A]) h
   grind
def yR(F:eg n ops=true){K:TS->Prop}:∀(t:Tr) (alt:Bool) (h:Array Bool) (s:TS) (w:J) (H:HT) (a:Act) (m:Nat),iG P ops t alt h=true->Ag n a s.E->Inv s w->HI s H w->q7 P lv ops K t s H->
  (alt=false->t.len=m->eN P ops (hV n K) m (ft H) h a w)/\
  (alt=true->t.len=m+1->∀i∈t.jJ,wpOp P ops (hV n K) i (λz q=>(∀p∈dt ops i (ft H),p.2 q)/\eN P ops (hV n K) m (dt ops i (ft H)) (h.setIfInBounds i true) z q) a w)
 |.nil,alt,h,s,w,H,a,m,d,A,y,D,j=>by
  unfold iG at d;rw[bH]at d;refine⟨λ_ k=>?_,λe=>?_⟩
  .subst k;exact λ_=>⟨by grind,s,A,y,j⟩
  grind
 |.one i t,alt,h,s,w,H,a,m,d,A,y,D,j=>by
  unfold iG at d;rw[bH]at d;obtain⟨d,aa⟩:=d;cases T:ops[i]? with
  |none=>grind
  |some o=>
   rw[T]at d;simp only at d;unfold q7 at j;refine⟨λe k=>?_,λe k ac hj=>?_⟩
   .subst e k;exact aat F T d A y D j λz W q L M O N Q=>(yR F t false _ W q L z _ aa M O N Q).1 rfl rfl
   .subst e;rw[cond_true]at d;obtain rfl:=List.mem_singleton.1 hj;have S:t.len=m:=by simpa[Tr.len]using k
    exact aau F T (by grind) A y D j λz W q L M O N Q=>(yR F t false _ W q L z _ aa M O N Q).1 rfl S
 |.fork C I,alt,h,s,w,H,a,m,d,A,y,D,j=>by
  unfold iG at d;simp only[bH]at d;obtain⟨hr,Y,U,hy⟩:=d;rw[eO]at Y;unfold q7 at j;have both:∀x,C.len=x+1->∀i∈(Tr.fork C I).jJ,wpOp P ops (hV n K) i (λz q=>(∀p∈dt ops i (ft H),p.2 q)/\eN P ops (hV n K) x (dt ops i (ft H)) (h.setIfInBounds i true) z q) a w:=λx G i B=>by
   rcases List.mem_append.1 B with B|B
   .exact (yR F C true h s w H a x U A y D j.1).2 rfl G i B
   .exact (yR F I true h s w H a x hy A y D j.2).2 rfl (Y▸G) i B
  refine⟨λe k=>?_,λ_ k=>both m k⟩;subst e;obtain⟨x,G⟩:=Ie C h U;have S:m=x+1:=by rw[<-k,<-G];rfl
  subst S;have Z:e4 .any ops h=(Tr.fork C I).jJ:=by grind
  have ab:(Tr.fork C I).jJ≠[]:=by have:=Ic C h U;simp[Tr.jJ,this]
  exact λ_=>⟨λh0=>absurd (Z▸h0) ab,λi B=>both x G i (Z▸B)⟩
def adI{c:Code}{a:Act}{s:TS}{w:J}{K:TS->Prop}(d:sU n c=true)(z:Ag n a s.E)(x:Inv s w)(h:runT P lv (Code.ops c) false K (List.range (Code.ops c).size) s []):fT P n c (hV n K) a w:=by
 unfold sU at d;split at d
 .rename_i id ops y;rw[bH]at d;obtain⟨q,j⟩:=d;have k:y=false:=by grind
  subst k;exact wpIn_region (Bw j _ s w a z x h λA C B q j k=>⟨A,q,j,k⟩)
 grind
def Inv.dr{s:TS}{w:J}{K:TS->Prop}(d:Inv s w)(h:zP s K):∃j,K j/\Inv j w.drew/\j.E=s.E:=by
 have lc:LC w.drew s.L:=d.lc.fr (M:=λ_=>False) (Fr.drew _ _) (λ_ _ h=>h);unfold zP at h;split at h
 .rename_i x k;have q:=d.rel;rw[k]at q;have:w=s.w:=by grind
  exact⟨_,h,⟨lc,by grind,d.sl⟩,rfl⟩
 .exact ⟨_,h,⟨lc,by simpa using d.fr.dN (Fr.drew _ _),d.sl⟩,rfl⟩
def adH{c:Code}{a:Act}{s:TS}{w:J}{K:TS->Prop}{t:Tr}(d:vA P n c t=true)(H:Ag n a s.E)(q:Inv s w)(h:zP s λs=>q7 P lv (Code.ops c) K t s []):fT P n c (hV n K) a w:=by
 unfold vA at d;split at d
 .rename_i id ops G;simp only[bH]at d;obtain⟨rfl,C,k,B,j⟩:=d;rw[eO]at j;obtain⟨F,A,x,e⟩:=q.dr h;have y:=(yR k t false _ F w.drew [] a _ B (by grind) x (λp D=>(by cases D)) A).1 rfl j;have z:=Cj _ [] _ _ _ (Down.zero _ _) y;refine wpIn_region_draw λt=>?_;refine tm k (λ⟨_,_,h⟩=>h) _ _ _ ?_;simp only[Region.schedule,C,Bool.true_or,if_true];exact wpAny_sound ops.size t _ a _ z
 grind
end
end
abbrev KT:=Exit->TS->Prop
structure nU where
 ord:Nat->Option Tr
 pt:List Bool->Option (TS->Prop)
 lv:List Nat
def qI(j:nU)(h:List Bool)(f:TS->Prop)(s:TS):Prop:=match j.pt h with
 |some d=>fG s d
 |none=>f s
def TY(h:nU)(d:List Bool)(f:TS->Prop)(K:KT):KT:=λe s=>match e with
 |.normal=>qI h d f s
 |e=>K e s
def zy(id:Nat)(K:KT):KT:=λe s=>match e with
 |.exit d=>if d=id then K .normal s else K (.exit d) s
 |e=>K e s
def iR(P:aH)(n:Cx)(j:nU):Code->List Bool->KT->TS->Prop
 |.skip,_,d,s=>d .normal s
 |.region id ops true,_,d,s=>match j.ord id with
  |some t=>cS (vA P n (.region id ops true) t) (zP s λs=>q7 P j.lv ops (d .normal) t s [])
  |none=>False
 |.region id ops false,_,d,s=>cS (sU n (.region id ops false)) (runT P j.lv ops false (d .normal) (List.range ops.size) s [])
 |.seq a b,h,d,s=>iR P n j a (false::h) (TY j (true::h) (iR P n j b (true::h) d) d) s
 |.cond o a b,h,d,s=>gX (s.E.val o) (qI j (false::h) (iR P n j a (false::h) d) s) (qI j (true::h) (iR P n j b (true::h) d) s)
 |.block id a,h,d,s=>iR P n j a (false::h) (zy id d) s
 |.loop _,h,_,s=>qI j h (λ_=>False) s
 |.exit id,_,d,s=>d (.exit id) s
 |.ret,_,d,s=>d .ret s
 |_,_,_,_=>False
section
variable {P:aH} {n:Cx} {tb:nU}
def gk(P:aH)(n:Cx)(q:Code)(k:Exit->Act->J->Prop):List Bool->Code×(Exit->Act->J->Prop)
 |[]=>(q,k)
 |b::w=>match gk P n q k w,b with
  |(.seq h j,d),false=>(h,Exit.then (fT P n j d) d)
  |(.seq _ j,d),true=>(j,d)
  |(.cond _ h _,d),false=>(h,d)
  |(.cond _ _ j,d),true=>(j,d)
  |(.block id h,d),_=>(h,Exit.inBlock id d)
  |(.loop h,d),_=>(h,Exit.then (mX P n h d) d)
  |(_,d),_=>(.skip,d)
def tv(P:aH)(n:Cx)(p:Code×(Exit->Act->J->Prop))(a:Act)(w:J):Prop:=match p with
 |(.loop h,d)=>mX P n h d a w
 |(c,d)=>fT P n c d a w
def tv.wp{c:Code}{Q:Exit->Act->J->Prop}{a:Act}{w:J}(h:tv P n (c,Q) a w):fT P n c Q a w:=by
 unfold tv at h;split at h
 .rename_i j d e;cases e;exact Wa h
 grind
def KQ(n:Cx)(K:KT)(Q:Exit->Act->J->Prop):Prop:=∀e s d a,Ag n a s.E->Inv s d->K e s->Q e a d
def tW(P:aH)(n:Cx)(tb:nU)(q:Code)(k:Exit->Act->J->Prop):Prop:=∀h d,tb.pt h=some d->∀s j a,Ag n a s.E->Inv s j->d s->tv P n (gk P n q k h) a j
variable {c0:Code} {Q0:Exit->Act->J->Prop}
def yg(z:tW P n tb c0 Q0){d:List Bool}{c:Code}{Q:Exit->Act->J->Prop}(B:gk P n c0 Q0 d=(c,Q)){f:TS->Prop}{s:TS}{w:J}{a:Act}(A:Ag n a s.E)(k:Inv s w)(C:f s->fT P n c Q a w)(h:qI tb d f s):fT P n c Q a w:=by
 unfold qI at h;split at h
 .rename_i j y;obtain⟨q,x⟩:=k.fG h;have:=z d j y ⟨s.E,s.S,s.L,w,false⟩ w a A q x;rw[B]at this;exact this.wp
 grind
def Tp{c:Code}{K:TS->Prop}{Q:Exit->Act->J->Prop}{a:Act}{w:J}(h:fT P n c (hV n K) a w)(k:∀s w a,Ag n a s.E->Inv s w->K s->Q .normal a w):fT P n c Q a w:=
 wpIn_mono h λe j q d=>by
  cases e with
  |normal=>obtain⟨s',hA,hI,hK⟩:=d;grind
  |_=>exact d.elim
def o3(y:tW P n tb c0 Q0):∀(c:Code) (j:List Bool) (K:KT) (Q:Exit->Act->J->Prop) (s:TS) (w:J) (a:Act),gk P n c0 Q0 j=(c,Q)->KQ n K Q->Ag n a s.E->Inv s w->iR P n tb c j K s->fT P n c Q a w
 |.skip,j,K,Q,s,w,a,x,q,h,k,d=>wpIn_skip (q _ _ _ _ h k d)
 |.region id ops true,j,K,Q,s,w,a,x,q,h,k,d=>by
  unfold iR at d;split at d
  .obtain ⟨D,F⟩:=dZ d;exact Tp (adH (c:=.region id ops true) D h k F) λs w a D F M=>q _ _ _ _ D F M
  grind
 |.region id ops false,j,K,Q,s,w,a,x,q,h,k,d=>by unfold iR at d;obtain⟨D,F⟩:=dZ d;exact Tp (adI (c:=.region id ops false) D h k F) λs w a D F M=>q _ _ _ _ D F M
 |.seq z I,j,K,Q,s,w,a,x,q,h,k,d=>by
  unfold iR at d;have H:gk P n c0 Q0 (false::j)=(z,Exit.then (fT P n I Q) Q):=by unfold gk;rw[x]
  have L:gk P n c0 Q0 (true::j)=(I,Q):=by unfold gk;rw[x]
  refine wpIn_seq (o3 y z (false::j) _ _ s w a H (λe O S N G B A=>?_) h k d);cases e with
  |normal=>exact yg y L G B (λC=>o3 y I (true::j) K Q O S N L q G B C) A
  |_=>exact q _ _ _ _ G B A
 |.cond o z I,j,K,Q,s,w,a,x,q,h,k,d=>by
  unfold iR at d;have H:gk P n c0 Q0 (false::j)=(z,Q):=by unfold gk;rw[x]
  have L:gk P n c0 Q0 (true::j)=(I,Q):=by unfold gk;rw[x]
  unfold gX at d;split at d
  .rename_i t T;refine wpIn_cond_split (h.val T) (λe=>?_) (λe=>?_)
   .subst e;exact yg y H h k (λC=>o3 y z (false::j) K Q s w a H q h k C) d
   .subst e;exact yg y L h k (λC=>o3 y I (true::j) K Q s w a L q h k C) d
  grind
 |.block id z,j,K,Q,s,w,a,x,q,h,k,d=>by
  unfold iR at d;have H:gk P n c0 Q0 (false::j)=(z,Exit.inBlock id Q):=by unfold gk;rw[x]
  refine wpIn_block (o3 y z (false::j) _ _ s w a H (λe O S N G B A=>?_) h k d);cases e with
  |exit U=>
   simp only[zy]at A;simp only[Exit.inBlock];split at A
   .rename_i e;rw[av e];exact q _ _ _ _ G B A
   .rename_i e;rw[ag e];exact q _ _ _ _ G B A
  |_=>exact q _ _ _ _ G B A
 |.loop z,j,K,Q,s,w,a,x,q,h,k,d=>by unfold iR at d;exact yg y x h k (λC=>C.elim) d
 |.exit id,j,K,Q,s,w,a,x,q,h,k,d=>wpIn_exit (q _ _ _ _ h k d)
 |.ret,j,K,Q,s,w,a,x,q,h,k,d=>wpIn_ret (q _ _ _ _ h k d)
 |.rangeFunc ..,_,_,_,_,_,_,_,_,_,_,d=>d.elim
 |.scope _,_,_,_,_,_,_,_,_,_,_,d=>d.elim
 |.label _,_,_,_,_,_,_,_,_,_,_,d=>d.elim
 |.goto _,_,_,_,_,_,_,_,_,_,_,d=>d.elim
 |.refuse _,_,_,_,_,_,_,_,_,_,_,d=>d.elim
def Ax(tb:nU)(d:List Bool)(K:KT):KT:=λe s=>match e with
 |.normal=>qI tb d (λ_=>False) s
 |e=>K e s
def pd(P:aH)(n:Cx)(tb:nU)(c0:Code)(q:KT):List Bool->Code×KT
 |[]=>(c0,q)
 |b::k=>match pd P n tb c0 q k,b with
  |(.seq h j,d),false=>(h,TY tb (true::k) (iR P n tb j (true::k) d) d)
  |(.seq _ j,d),true=>(j,d)
  |(.cond _ h _,d),false=>(h,d)
  |(.cond _ _ j,d),true=>(j,d)
  |(.block id h,d),_=>(h,zy id d)
  |(.loop h,d),_=>(h,Ax tb k d)
  |(_,d),_=>(.skip,d)
def Ft(A:tW P n tb c0 Q0){y:KT}(G:KQ n y Q0):∀h:List Bool,(pd P n tb c0 y h).1=(gk P n c0 Q0 h).1/\KQ n (pd P n tb c0 y h).2 (gk P n c0 Q0 h).2
 |[]=>⟨rfl,G⟩
 |b::h=>by
  obtain⟨z,q⟩:=Ft A G h;unfold pd gk;generalize H:gk P n c0 Q0 h=p at z q;generalize pd P n tb c0 y h=k at z q;obtain⟨c,F⟩:=p;obtain⟨O,N⟩:=k;simp only at z q;subst z;cases O with
  |seq C D=>
   cases b with
   |false=>
    refine⟨rfl,λe s x a w j d=>?_⟩;cases e with
    |normal=>
     have I:gk P n c0 Q0 (true::h)=(D,F):=by unfold gk;rw[H]
     exact yg A I w j (λB=>o3 A D (true::h) N F s x a I q w j B) d
    |_=>exact q _ _ _ _ w j d
   |true=>grind
  |cond o C D=>grind
  |block id C=>
   cases b<;>(
    refine⟨rfl,λe s x a w j d=>?_⟩;cases e with
    |exit T=>
     simp only[zy]at d;simp only[Exit.inBlock];split at d
     .rename_i e;rw[av e];exact q _ _ _ _ w j d
     .rename_i e;rw[ag e];exact q _ _ _ _ w j d
    |_=>exact q _ _ _ _ w j d)
  |loop C=>
   cases b<;>(
    refine⟨rfl,λe s x a w j d=>?_⟩;cases e with
    |normal=>
     simp only[Ax,qI]at d;split at d
     .rename_i K Q;obtain⟨M,B⟩:=j.fG d;have:=A h K Q ⟨s.E,s.S,s.L,x,false⟩ x a w M B;rw[H]at this;exact this
     grind
    |_=>exact q _ _ _ _ w j d)
  |_=>cases b<;>exact⟨rfl,q⟩
def Ed(P:aH)(n:Cx)(tb:nU)(c0:Code)(j:KT)(d:List Bool)(s:TS):Prop:=match pd P n tb c0 j d with
 |(.loop k,h)=>iR P n tb k (false::d) (Ax tb d h) s
 |(c,h)=>iR P n tb c d h s
def Y9(y:tW P n tb c0 Q0){j:KT}(D:KQ n j Q0){d:List Bool}{s:TS}{w:J}{a:Act}(G:Ag n a s.E)(B:Inv s w)(h:Ed P n tb c0 j d s):tv P n (gk P n c0 Q0 d) a w:=by
 obtain⟨q,x⟩:=Ft y D d;have F:=Ft y D (false::d);unfold Ed at h;generalize H:gk P n c0 Q0 d=p at q x;generalize L:pd P n tb c0 j d=k at h q x;obtain⟨c,A⟩:=p;obtain⟨K,C⟩:=k;simp only at q x;subst q;cases K with
 |loop z=>
  have I:gk P n c0 Q0 (false::d)=(z,Exit.then (mX P n z A) A):=by unfold gk;rw[H]
  have M:pd P n tb c0 j (false::d)=(z,Ax tb d C):=by unfold pd;rw[L]
  rw[I,M]at F;exact Nr (o3 y z (false::d) _ _ s w a I F.2 G B h)
 |_=>exact o3 y _ d C A s w a H x G B h
end
section
variable {P:aH}
def pB(P:aH)(s:TS):List ResultVar->(List aa->Prop)->Prop
 |[],d=>d []
 |.tmp t::l,d=>match s.E.get? t with
  |some v=>pB P s l λh=>d (v::h)
  |none=>False
 |.cell k j::l,d=>match s.S.get? k with
  |some (i,q)=>match s.L[i]? with
   |some X=>Fy P j X.2.1 q λv=>pB P s l λh=>d (v::h)
   |none=>False
  |none=>match s.E.get? k with
   |some (.pointer (some p))=>nc P j p s.w λv _=>pB P s l λh=>d (v::h)
   |_=>False
def vC(P:aH)(fn:Func)(R:aJ):KT:=λe s=>match e with
 |.normal|.ret=>fG s λs=>pB P s fn.results.toList λd=>R (ae (GU d)) s.w
 |_=>False
def Hj{n:Cx}{a:Act}{s:TS}{w:J}(x:Ag n a s.E)(q:Inv s w)(C:s.w=w):∀{l:List ResultVar} {K:List aa->Prop},pB P s l K->
  ∃h,(l.mapM (qS a.tmps)).run P w=.ok h w/\K h
 |[],K,d=>⟨[],ws,d⟩
 |.tmp t::l,K,d=>by
  unfold pB at d;split at d
  .rename_i v k;obtain⟨h,B,j⟩:=Hj x q C d;refine⟨v::h,?_,j⟩;have z:=x.get t v k;simp[List.mapM_cons,qS,B,z]
  grind
 |.cell y D::l,K,d=>by
  have fin:∀(p:Addr) (v:aa),s.E.get? y=some (.pointer (some p))->(loadVar D p).run P w=.ok v w->(pB P s l λh=>K (v::h))->∃h,((ResultVar.cell y D::l).mapM (qS a.tmps)).run P w=.ok h w/\K h:=λp v A k d=>by obtain⟨h,B,j⟩:=Hj x q C d;refine⟨v::h,?_,j⟩;have z:=x.get y _ A;simp[List.mapM_cons,qS,B,z,asAddr,k]
  unfold pB at d;split at d
  .rename_i i M L;obtain⟨X,F,G⟩:=q.sl y i M L;rw[F]at d;obtain⟨v,j,k⟩:=M6 (b:=X.1) (ty:=X.2.2) d;exact fin _ v G (k w (q.lc.own i X F)) j
  .split at d
   .rename_i p A;rw[C]at d;obtain⟨v,N,d,H,I⟩:=Fz d;exact fin p v A (I w H) d
   grind
def Tu{m:Nat}{fn:Func}{R:aJ}:KQ (cx m) (vC P fn R) (bodyPost P fn R):=by
 intro e s j a k q d;have go:(fG s λs=>pB P s fn.results.toList λh=>R (ae (GU h)) s.w)->a.defers=[]/\∃v,(results fn a.tmps).run P j=.ok v j/\R (ae v) j:=λd=>by
  obtain⟨x,y⟩:=q.fG d;obtain⟨h,A,z⟩:=Hj (s:=⟨s.E,s.S,s.L,j,false⟩) k x rfl y;refine⟨k.defers,_,?_,z⟩;rw[Tt,<-Array.toArray_toList (xs:=fn.results),List.mapM_toArray];simp only[Sem.run_bind,Sem.run_map,A,Result.andThen_ok,Sem.run_pure];congr 1;cases h with
  |nil=>rfl
  |cons v h=>cases h<;>rfl
 unfold vC at d;cases e with
 |normal=>exact go d
 |ret=>exact go d
 |_=>exact d.elim
def YT{f:cW}{fn:Func}{c:Code}{args:List aa}{w:J}{R:aJ}{d:nU}(x:P.funcs[f]? =some fn)(q:fn.body=some c)(y:Nat.ble args.length fn.ntmps=true)(j:tW P (cx fn.ntmps) d c (bodyPost P fn R))(h:iR P (cx fn.ntmps) d c [] (vC P fn R) ⟨kS 0 args,[],[],w,false⟩):aj P f args.toArray w R:=
 wW x q y λa k=>o3 j c [] _ _ _ w a rfl Tu k ⟨LC.nil _,ws,λt i z h=>by cases h⟩ h
end
inductive Sh
 |i (k:ik)|b|st|s|p|r|m|v|f
abbrev Sh.T:Sh->Type
 |.i _=>Int
 |.b=>Bool
 |.st=>ByteArray
 |.s=>Sl
 |.p=>Option Addr
 |.r=>Addr
 |.m=>Option Nat
 |.v=>aa
 |.f=>Fv
def Sh.val:(h:Sh)->h.T->aa
 |.i j,d=>.int j d
 |.b,d=>.bool d
 |.st,d=>.string d
 |.s,d=>Sl.v d
 |.p,d=>.pointer d
 |.r,d=>.pointer (some d)
 |.m,d=>.map d
 |.v,d=>d
 |.f,d=>Fv.v d
def Sh.rd(h:Sh)(v:aa)(K:h.T->Prop):Prop:=match h,v,K with
 |.i q,.int w d,K=>cS (w==q) (K d)
 |.b,.bool d,K=>K d
 |.st,.string d,K=>K d
 |.s,.slice a n c,K=>K ⟨a,n,c⟩
 |.p,.pointer d,K=>K d
 |.r,.pointer (some d),K=>K d
 |.m,.map d,K=>K d
 |.v,d,K=>K d
 |.f,.func (.func n) j k,K=>K ⟨n,j,k⟩
 |_,_,_=>False
def Sh.adE{h:Sh}{v:aa}{K:h.T->Prop}(d:h.rd v K):∃j,v=h.val j/\K j:=by
 unfold Sh.rd at d;split at d<;>first |exact d.elim|skip
 .obtain ⟨k,q⟩:=dZ d;have:=eq_of_beq k;subst this;exact⟨_,rfl,q⟩
 all_goals exact⟨_,rfl,d⟩
inductive Tk
 |o (h:Sh)|a (k:Nat)|t (k:Nat)|g (n j k:Nat)
abbrev Tk.I:Tk:=.o (.i .i64)
abbrev Tk.U:Tk:=.o (.i .u64)
abbrev Tk.Y:Tk:=.o (.i .u8)
abbrev Tk.i(k:ik):Tk:=.o (.i k)
abbrev Tk.b:Tk:=.o .b
abbrev Tk.st:Tk:=.o .st
abbrev Tk.s:Tk:=.o .s
abbrev Tk.p:Tk:=.o .p
abbrev Tk.r:Tk:=.o .r
abbrev Tk.m:Tk:=.o .m
abbrev Tk.v:Tk:=.o .v
abbrev Tk.f:Tk:=.o .f
abbrev mj:List Tk->Type->Type
 |[],X=>X
 |.o d::l,X=>d.T->mj l X
 |.a _::l,X=>mj l X
 |.t _::l,X=>mj l X
 |.g _ _ _::l,X=>mj l X
inductive Sp
 |v (l:List Tk)
 |l (l:List Tk) (T:aC)
abbrev gV:List (Nat×Sp)->Type
 |[]=>J->aJ->Prop
 |(_,.v d)::l=>mj d (gV l)
 |(_,.l d _)::l=>Nat->mj d (gV l)
def oA:(U:List Tk)->(X:Type)->List aa->mj U X->(X->Prop)->Prop
 |[],_,[],d,h=>h d
 |.o x::U,X,v::j,d,h=>x.rd v λz=>oA U X j (d z) h
 |.a k::U,X,.agg a::j,d,h=>cS (cg a.toList.length k) (oA U X (a.toList++j) d h)
 |.t k::U,X,.tuple a::j,d,h=>cS (cg a.toList.length k) (oA U X (a.toList++j) d h)
 |.g n y k::U,X,.func (.func m) q w::j,d,h=>cS (cg n m&&cg q.toList.length y&&cg w.toList.length k) (oA U X (q.toList++(w.toList++j)) d h)
 |_,_,_,_,_=>False
def pf:(U:List Tk)->(X:Type)->(List aa->X)->mj U X
 |[],_,h=>h []
 |.o q::U,X,h=>λw=>pf U X λd=>h (q.val w::d)
 |.a j::U,X,h=>pf U X λd=>h (.agg (d.take j).toArray::d.drop j)
 |.t j::U,X,h=>pf U X λd=>h (.tuple (d.take j).toArray::d.drop j)
 |.g n k j::U,X,h=>pf U X λd=>h (.func (.func n) (d.take k).toArray ((d.drop k).take j).toArray::(d.drop k).drop j)
def SN:∀{U:List Tk} {X:Type} {vs:List aa} {K:List aa->X} {k:X->Prop},oA U X vs (pf U X K) k->k (K vs):=by
 intro U;induction U with
 |nil=>
  intro X vs K k d;cases vs with
  |nil=>exact d
  |cons _ _=>exact d.elim
 |cons t U w=>
  intro X vs K k d;cases t with
  |o D=>
   cases vs with
   |nil=>exact d.elim
   |cons v vs=>
    obtain⟨G,rfl,E⟩:=Sh.adE d;exact w (K:=λvs=>K (D.val G::vs)) E
  |a h=>
   cases vs with
   |nil=>exact d.elim
   |cons v vs=>
    cases v with
    |agg a=>
     obtain⟨j,q⟩:=dZ (show cS (cg a.toList.length h) (oA U X (a.toList++vs) _ k)from d);rw[eO]at j;have:=w (K:=λvs=>K (.agg (vs.take h).toArray::vs.drop h)) q;rw[List.take_left' j,List.drop_left' j]at this;omega
    |_=>exact d.elim
  |t h=>
   cases vs with
   |nil=>exact d.elim
   |cons v vs=>
    cases v with
    |tuple a=>
     obtain⟨j,q⟩:=dZ (show cS (cg a.toList.length h) (oA U X (a.toList++vs) _ k)from d);rw[eO]at j;have:=w (K:=λvs=>K (.tuple (vs.take h).toArray::vs.drop h)) q;rw[List.take_left' j,List.drop_left' j]at this;omega
    |_=>exact d.elim
  |g n x h=>
   cases vs with
   |nil=>exact d.elim
   |cons v vs=>
    cases v with
    |func C y z=>
     cases C with
     |func m=>
      obtain⟨j,q⟩:=dZ (show cS (cg n m&&cg y.toList.length x&&cg z.toList.length h) (oA U X (y.toList++(z.toList++vs)) _ k)from d);rw[bH,bH,eO,eO,eO]at j;obtain⟨⟨F,A⟩,B⟩:=j;have:=w (K:=λvs=>K (.func (.func n) (vs.take x).toArray ((vs.drop x).take h).toArray::(vs.drop x).drop h)) q;rw[List.take_left' A,List.drop_left' A,List.take_left' B,List.drop_left' B,F]at this;omega
     |_=>exact d.elim
    |_=>exact d.elim
def ju:(l:List (Nat×Sp))->Nat->(Env->Sv->Lv->J->aJ->Prop)->gV l
 |[],_,d=>d [] [] []
 |(t,.v q)::l,n,d=>pf q (gV l) λw=>ju l n λh k j=>d ((t,w.headD undef)::h) k j
 |(t,.l q x)::l,n,d=>λb=>pf q (gV l) λw=>ju l (n+1) λh k j=>d ((t,.pointer (some (ab b)))::h) ((t,some (n,0))::k) ((b,w,x)::j)
def qN:(l:List (Nat×Sp))->gV l->TS->List Nat->J->aJ->Prop
 |[],d,_,_,j,h=>d j h
 |(t,.v q)::l,d,s,is,j,h=>match s.E.get? t with
  |some v=>oA q (gV l) [v] d λk=>qN l k s is j h
  |none=>False
 |(t,.l q w)::l,d,s,is,j,h=>match s.S.get? t with
  |some (i,0)=>match s.L[i]? with
   |some X=>cS (cg X.2.2 w&&!is.any (cg i)) (oA q (gV l) X.2.1 (d X.1) λk=>qN l k s (i::is) j h)
   |none=>False
  |_=>False
def LY{E E':Env}{t:Nat}{v:aa}(w:E'.get? t=some v)(h:∀t v,E.get? t=some v->E'.get? t=some v):∀d j,Env.get? ((t,v)::E) d=some j->E'.get? d=some j:=λd j q=>by
 simp only[Env.get?]at q;cases k:cg t d with
 |true=>
  rw[k,cond_true]at q;rw[eO]at k
  grind
 |false=>
  grind
structure CZ(s:TS)(n:Nat)(is js:List Nat)(E:Env)(S:Sv):Prop where
 sub:∀t v,E.get? t=some v->s.E.get? t=some v
 nd:js.Nodup
 dj:∀j∈js,j∉is
 lt:∀j∈js,∃X,s.L[j]? =some X
 sl:∀t i k,S.get? t=some (i,k)->n<=i/\∃j,js[i - n]? =some j/\s.S.get? t=some (j,k)/\∃v,E.get? t=some v
def adw{s:TS}{w:J}(S:Inv s w){R:aJ}:∀{l:List (Nat×Sp)} {n:Nat} {K:Env->Sv->Lv->J->aJ->Prop} {is:List Nat},qN l (ju l n K) s is w R->
  ∃j k z,CZ s n is z j k/\K j k (z.filterMap λq=>(s.L[q]? :Option (Nat×List aa×aC))) w R:=by
 intro l;induction l with
 |nil=>
  intro n K is d;exact⟨[],[],[],⟨λt v d=>by(simp[Env.get?]at d),.nil,λ_ d=>by grind,λ_ d=>by grind,λt i D d=>by(cases d)⟩,d⟩
 |cons p l P=>
  intro n K is d;obtain⟨t,sp⟩:=p;cases sp with
  |v ts=>
   unfold qN at d;split at d
   .rename_i v hv;have G:=SN (K:=λI=>ju l n λj k F=>K ((t,I.headD undef)::j) k F) d;obtain⟨j,k,z,h,O⟩:=P G;refine⟨(t,v)::j,k,z,⟨LY hv h.sub,h.nd,h.dj,h.lt,λE i D y=>?_⟩,O⟩;obtain⟨C,q,H,Y,Q,h4⟩:=h.sl E i D y;refine⟨C,q,H,Y,?_⟩;simp only[Env.get?]
    grind
   grind
  |l ts T=>
   unfold qN at d;split at d
   .rename_i i N;split at d
    .rename_i X Z;obtain⟨C,H⟩:=dZ d;rw[bH,eO,Bool.not_eq_true',List.any_eq_false]at C;have G:=SN (K:=λI=>ju l (n+1) λj k F=>K ((t,.pointer (some (ab X.1)))::j) ((t,some (n,0))::k) ((X.1,I,T)::F)) H;obtain⟨j,k,z,h,O⟩:=P G;obtain⟨X',M,hp⟩:=S.sl t i 0 N;rw[Z]at M;cases M;refine⟨(t,.pointer (some (ab X.1)))::j,(t,some (n,0))::k,i::z,⟨LY ?_ h.sub,List.nodup_cons.2 ⟨λB=>h.dj i B ws,h.nd⟩,λq x=>?_,λq x=>?_,λE i' D y=>?_⟩,?_⟩
     .rw [hp,jg]
     .rcases aq.1 x with rfl|x
      .intro B;have:=C.2 q B;simp at this
      .exact λB=>h.dj q x (fF _ B)
     .rcases aq.1 x with rfl|x
      .grind
      .exact h.lt q x
     .simp only[Sv.get?]at y;cases A:cg t E with
      |true=>
       rw[A,cond_true]at y;rw[eO]at A;subst A;cases y;refine⟨Nat.le_refl _,i,ws,N,.pointer (some (ab X.1)),?_⟩;simp[Env.get?]
      |false=>
       rw[A,cond_false]at y;obtain⟨g1,q,g2,U,Q,W⟩:=h.sl E i' D y;refine⟨co,q,?_,U,Q,?_⟩
       .grind
       .simp only[Env.get?,A,cond_false];exact W
     grind
    grind
   grind
def CZ.inv{s:TS}{w:J}(k:Inv s w){d:List Nat}{E:Env}{S:Sv}(h:CZ s 0 [] d E S):Inv ⟨E,S,d.filterMap λj=>(s.L[j]? :Option (Nat×List aa×aC)),w,false⟩ w:=by
 refine⟨k.lc.pick d h.nd,ws,λt i x B=>?_⟩;obtain⟨-,j,D,y,v,q⟩:=h.sl t i x B;obtain⟨X,F,A⟩:=k.sl t j x y;have:=h.sub t v q;rw[A]at this;cases this;refine⟨X,?_,q⟩;have all:∀(d:List Nat) (i:Nat),(∀j∈d,∃X,s.L[j]? =some X)->d[i]? =some j->(d.filterMap λj=>(s.L[j]? :Option (Nat×List aa×aC)))[i]? =some X:=by
  intro d;induction d with
  |nil=>grind
  |cons a d I=>
   intro i z H;obtain⟨C,G⟩:=z a ws
   grind
 exact all d i h.lt co
def rr:(U:List Tk)->(X:Type)->(X->X->Prop)->mj U X->mj U X->Prop
 |[],_,r,d,h=>r d h
 |.o k::U,X,r,d,h=>∀j:k.T,rr U X r (d j) (h j)
 |.a _::U,X,r,d,h=>rr U X r d h
 |.t _::U,X,r,d,h=>rr U X r d h
 |.g _ _ _::U,X,r,d,h=>rr U X r d h
def wk:(l:List (Nat×Sp))->gV l->gV l->Prop
 |[],d,h=>∀(w:J) (R:aJ),d w R->h w R
 |(_,.v j)::l,d,h=>rr j (gV l) (wk l) d h
 |(_,.l j _)::l,d,h=>∀b:Nat,rr j (gV l) (wk l) (d b) (h b)
def Mo:∀{U:List Tk} {X:Type} {r:X->X->Prop} {j k:List aa->X},(∀h,r (j h) (k h))->rr U X r (pf U X j) (pf U X k):=by
 intro U;induction U with
 |nil=>intro X r j k d;exact d []
 |cons t U q=>
  intro X r j k d;cases t with
  |o y=>intro x;exact q λh=>d _
  |a w=>exact q λh=>d _
  |t w=>exact q λh=>d _
  |g n z w=>exact q λh=>d _
def aaF:∀{l:List (Nat×Sp)} {n:Nat} {k q:Env->Sv->Lv->J->aJ->Prop},(∀j x w h d,k j x w h d->q j x w h d)->wk l (ju l n k) (ju l n q):=by
 intro l;induction l with
 |nil=>intro n k q y h d;exact y _ _ _ h d
 |cons p l z=>
  intro n k q y;obtain⟨t,A⟩:=p;cases A with
  |v B=>exact Mo λC=>z λj x w h d=>y _ _ _ h d
  |l B D=>intro b;exact Mo λC=>z λj x w h d=>y _ _ _ h d
structure Fx where
 P:aH
 fn:Func
 ord:List (Nat×Tr)
 lv:List Nat
def Fx.c(X:Fx):Code:=X.fn.body.getD .skip
def Fx.n(X:Fx):Cx:=cx X.fn.ntmps
def FF:List (Nat×Tr)->Nat->Option Tr
 |[],_=>none
 |(i,l)::o,d=>bif cg i d then some l else FF o d
def Fx.at(X:Fx)(d:List Bool)(R:aJ)(a:Act)(w:J):Prop:=tv X.P X.n (gk X.P X.n X.c (bodyPost X.P X.fn R) d) a w
def Fx.Sem(X:Fx)(d:List Bool)(E:Env)(S:Sv)(L:Lv)(w:J)(R:aJ):Prop:=∀a,Ag X.n a E->Inv ⟨E,S,L,w,false⟩ w->X.at d R a w
structure gw(X:Fx) where
 q:List Bool
 sp:List (Nat×Sp)
 F:gV sp
 ok:∀(R:aJ) (s:TS) (w:J) (a:Act),Ag X.n a s.E->Inv s w->qN sp F s [] w R->X.at q R a w
def ue:List Bool->List Bool->Bool
 |[],[]=>true
 |a::l,b::m=>(match a,b with |true,true=>true|false,false=>true|_,_=>false)&&ue l m
 |_,_=>false
def I':∀{l m:List Bool},ue l m=true->l=m
 |[],[],_=>rfl
 |a::l,b::m,d=>by
  unfold ue at d;rw[bH]at d;rw[I' d.2]
  grind
 |[],_::_,d=>by cases d
 |_::_,[],d=>by cases d
def Av{X:Fx}(R:aJ):List (gw X)->List Bool->Option (TS->Prop)
 |[],_=>none
 |e::j,h=>bif ue e.q h then some λs=>match s.d with
  |true=>False
  |false=>qN e.sp e.F s [] s.w R else Av R j h
def Fx.BU(X:Fx)(es:List (gw X))(R:aJ):nU:=⟨FF X.ord,Av R es,X.lv⟩
def Fx.Vd{X:Fx}{es:List (gw X)}{R:aJ}:tW X.P X.n (X.BU es R) X.c (bodyPost X.P X.fn R):=by
 intro A C x s B a D k j;have h:Av R es A=some C:=x;clear x;induction es with
 |nil=>cases h
 |cons e es G=>
  unfold Av at h;cases y:ue e.q A with
  |true=>
   rw[y,cond_true]at h;cases h;have:=I' y;subst this;cases z:s.d with
   |true=>grind
   |false=>
    rw[z]at j;have E:=k.rel;rw[z]at E;have F:B=s.w:=by grind
    rw[<-F]at j;exact e.ok R s B a D k j
  |false=>
   grind
def Fx.wc(X:Fx)(es:List (gw X))(d:List Bool)(E:Env)(S:Sv)(L:Lv)(w:J)(R:aJ):Prop:=Ed X.P X.n (X.BU es R) X.c (vC X.P X.fn R) d ⟨E,S,L,w,false⟩
def Fx.Kc{X:Fx}{es:List (gw X)}{d:List Bool}{E:Env}{S:Sv}{L:Lv}{w:J}{R:aJ}(h:X.wc es d E S L w R):X.Sem d E S L w R:=λa k j=>Y9 (s:=⟨E,S,L,w,false⟩) (Fx.Vd (es:=es)) Tu k j h
def KC{X:Fx}{z:List Bool}{A:List (Nat×Sp)}{K:Env->Sv->Lv->J->aJ->Prop}(C:∀d j x w R,K d j x w R->X.Sem z d j x w R)(R:aJ)(s:TS)(w:J)(a:Act)(k:Ag X.n a s.E)(q:Inv s w)(h:qN A (ju A 0 K) s [] w R):X.at z R a w:=by obtain⟨d,j,F,y,B⟩:=adw q h;exact C _ _ _ _ _ B a ⟨k.defers,k.size,λt v D=>k.get t v (y.sub t v D)⟩ (y.inv q)
def Zz(X:Fx)(j:List Bool)(h:List (Nat×Sp))(F:gV h)(e:F=ju h 0 (X.Sem j):=by kernel_rfl):gw X:=⟨j,h,F,λq s x a w k d=>by subst e;exact KC (λ_ _ _ _ _ d=>d) q s x a w k d⟩
def ZA(X:Fx)(es:List (gw X))(j:List Bool)(h:List (Nat×Sp))(F:gV h)(e:F=ju h 0 (X.wc es j):=by kernel_rfl):gw X:=⟨j,h,F,λq s x a w k d=>by subst e;exact KC (λ_ _ _ _ _ d=>Fx.Kc d) q s x a w k d⟩
def aeW{X:Fx}(es:List (gw X))(h:List Bool)(d:List (Nat×Sp)):wk d (ju d 0 (X.wc es h)) (ju d 0 (X.Sem h)):=aaF λ_ _ _ _ _ j=>Fx.Kc j
def YQ(X:Fx)(es:List (gw X)){f:cW}{args:List aa}{w:J}{R:aJ}{T:Prop}(h:T)(j:X.P.funcs[f]? =some X.fn:=by kernel_rfl)(d:X.fn.body=some X.c:=by kernel_rfl)(k:Nat.ble args.length X.fn.ntmps=true:=by kernel_rfl)(e:T=iR X.P X.n (X.BU es R) X.c [] (vC X.P X.fn R) ⟨kS 0 args,[],[],w,false⟩:=by kernel_rfl):aj X.P f args.toArray w R:=
 YT j d k Fx.Vd (e▸h)
def Sa:Bool->List Nat->List Bool
 |_,[]=>[]
 |b,n::l=>List.replicate n b++Sa (!b) l
abbrev ox(l:List Nat):List Bool:=Sa true l
abbrev Ps:=List (Nat×Sp)
abbrev ls(l:List Nat):Tr:=Tr.sq l .nil
abbrev lr(n:Nat):Tr:=ls (List.range n)
set_option maxRecDepth 100000
open Go
inductive Oc:Type 1
 |leaf (p:Prop)
 |ex (α:Type) (K:α->Oc)
 |and (p:Prop) (K:Oc)
 |at (b:Bool) (K:Oc)
 |bt (t:Bool) (a b:Oc)
 |nw (bs:List Nat) (w:J) (K:Nat->J->Oc)
 |al (w:J) (o:Obj) (K:J->Oc)
 |st (w:J) (p:Addr) (v:aa) (K:J->Oc)
 |lc (bs:List Nat) (w:J) (K:J->Oc)
 |dr (w:J) (K:J->Oc)
 |cf (bs:List Nat) (P:aH) (f:cW) (xs:Array aa) (w:J) (K:cE->J->Oc)
 |ca (P:aH) (f:cW) (xs:Array aa) (w:J) (K:cE->J->Oc)
 |op (q:Option Addr) (K:Addr->Oc)
 |or (a b:Oc)
 |cj (a b:Oc)
 |all (α:Type) (K:α->Oc)
 |im (K:Oc) (p:Prop)
inductive Nf:Oc->Prop->Prop
 |leaf {p}:Nf (.leaf p) p
 |ex {α K} {Q:α->Prop} (h:∀x,Nf (K x) (Q x)):Nf (.ex α K) (∃x,Q x)
 |and {p K Q} (h:Nf K Q):Nf (.and p K) (p/\Q)
 |at {b K Q} (h:Nf K Q):Nf (.at b K) (cS b Q)
 |bt {t a b A B} (h1:Nf a A) (h2:Nf b B):Nf (.bt t a b) (bt t A B)
 |nw {bs w K} {Q:Nat->J->Prop} (h:∀b w1,Nf (K b w1) (Q b w1)):Nf (.nw bs w K) (x9 bs w λb w1=>Q b w1)
 |al {w o K} {Q:J->Prop} (h:∀w1,Nf (K w1) (Q w1)):Nf (.al w o K) (dz w o λw1=>Q w1)
 |st {w p v K} {Q:J->Prop} (h:∀w1,Nf (K w1) (Q w1)):Nf (.st w p v K) (aS w p v λw1=>Q w1)
 |lc {bs w K} {Q:J->Prop} (h:∀w1,Nf (K w1) (Q w1)):Nf (.lc bs w K) (loc bs w λw1=>Q w1)
 |dr {w K} {Q:J->Prop} (h:∀w1,Nf (K w1) (Q w1)):Nf (.dr w K) (mw w λw1=>Q w1)
 |cf {bs P f xs w K} {Q:cE->J->Prop} (h:∀r w1,Nf (K r w1) (Q r w1)):Nf (.cf bs P f xs w K) (eJ bs P f xs w λr w1=>Q r w1)
 |ca {P f xs w K} {Q:cE->J->Prop} (h:∀r w1,Nf (K r w1) (Q r w1)):Nf (.ca P f xs w K) (aj P f xs w λr w1=>Q r w1)
 |op {q K} {Q:Addr->Prop} (h:∀p,Nf (K p) (Q p)):Nf (.op q K) (dV q λp=>Q p)
 |or {a b A B} (h1:Nf a A) (h2:Nf b B):Nf (.or a b) (A\/B)
 |cj {a b A B} (h1:Nf a A) (h2:Nf b B):Nf (.cj a b) (A/\B)
 |all {α K} {Q:α->Prop} (h:∀x,Nf (K x) (Q x)):Nf (.all α K) (∀x,Q x)
 |im {K Q p} (h:Nf K Q):Nf (.im K p) (Q->p)
inductive DV
 |i (k:ik) (x:Int)|kb (x:Bool)|b (x:Bool)|st (x:ByteArray)|sl (s:Sl)|s3 (a:Option Addr) (n c:Nat)
 |p (x:Option Addr)|r (x:Addr) (l:Option (Nat×Nat))|m (x:Option Nat)|v (x:aa)|f (x:Fv)
 |a (l:List DV)|t (l:List DV)|g (n:cW) (bs cs:List DV)|nf|ni|fc (t:aC) (x:DV)|u
mutual
def DV.o:DV->(aa->Oc)->Oc
 |.i y h,d=>d (.int y h)
 |.kb h,d=>d (.bool h)
 |.b h,d=>d (.bool h)
 |.st h,d=>d (.string h)
 |.sl s,d=>d s.v
 |.s3 h w x,d=>d (.slice h w x)
 |.p h,d=>d (.pointer h)
 |.r h _,d=>d (.pointer (some h))
 |.m h,d=>d (.map h)
 |.v h,d=>d h
 |.f h,d=>d h.v
 |.a l,d=>DV.os l λq=>d (.agg q.toArray)
 |.t l,d=>DV.os l λq=>d (.tuple q.toArray)
 |.g n j k,d=>DV.os j λj=>DV.os k λk=>d (.func (.func n) j.toArray k.toArray)
 |.nf,d=>d .nilFunc
 |.ni,d=>d .nilIface
 |.fc w h,d=>DV.o h λx=>d (.iface w x)
 |.u,d=>d undef
def DV.os:List DV->(List aa->Oc)->Oc
 |[],d=>d []
 |j::l,d=>DV.o j λv=>DV.os l λh=>d (v::h)
end
def vf:List aa->(List DV->Oc)->Oc
 |[],d=>d []
 |v::l,d=>vf l λj=>d ((match v with
  |.int k h=>.i k h
  |.bool true=>.kb true
  |.bool false=>.kb false
  |.string s=>.st s
  |.slice a n c=>.s3 a n c
  |.pointer (some p)=>.r p none
  |.pointer none=>.p none
  |.map h=>.m h
  |.nilFunc=>.nf
  |.nilIface=>.ni
  |v=>.v v)::j)
def AY(v:aa)(K:DV->Oc):Oc:=match v with
 |.agg d=>vf d.toList λl=>K (.a l)
 |.tuple d=>vf d.toList λl=>K (.t l)
 |.func (.func n) j d=>vf j.toList λj=>vf d.toList λd=>K (.g n j d)
 |.iface t h=>vf [h] λl=>K (.fc t (l.headD .u))
 |.int k h=>K (.i k h)
 |.bool true=>K (.kb true)
 |.bool false=>K (.kb false)
 |.string s=>K (.st s)
 |.slice a n c=>K (.s3 a n c)
 |.pointer (some p)=>K (.r p none)
 |.pointer none=>K (.p none)
 |.map h=>K (.m h)
 |.nilFunc=>K .nf
 |.nilIface=>K .ni
 |v=>K (.v v)
inductive Fc
 |c (p:Addr) (v:aa)|r (s:Sem aa) (v:aa)|n
abbrev DE:=List (Nat×DV)
abbrev DL:=List (Nat×List DV×aC)
abbrev DH:=List (Nat×Option Nat×Fc)
def ui:DL->(List Nat->Oc)->Oc
 |[],d=>d []
 |(b,_,_)::h,d=>ui h λj=>d (b::j)
def hx(d:Bool)(L:DL)(w:J)(K:J->Oc):Oc:=match d with
 |true=>ui L λh=>.lc h w K
 |false=>K w
def getD:DE->Nat->(DV->Oc)->Oc
 |[],_,_=>.leaf False
 |(j,v)::h,t,d=>match cg j t with
  |true=>d v
  |false=>getD h t d
def jN{α:Type}:List α->Nat->Option α
 |[],_=>none
 |a::l,n=>match cg n 0 with
  |true=>some a
  |false=>jN l (n - 1)
def T1{α:Type}:List α->Nat->α->List α
 |[],_,_=>[]
 |a::l,n,d=>match cg n 0 with
  |true=>d::l
  |false=>a::T1 l (n - 1) d
def Bc(t:Option Nat)(v:DV)(E:DE)(K:DE->Oc):Oc:=match t with
 |some t=>K ((t,v)::E)
 |none=>K E
def NC:List Nat->Nat->Bool
 |[],_=>false
 |a::l,n=>match cg a n with
  |true=>true
  |false=>NC l n
def MJ(d:List Nat):Option Nat->Bool
 |some t=>NC d t
 |none=>false
def dU(E:DE):Operand->(DV->Oc)->Oc
 |.tmp t,d=>getD E t d
 |.const v,d=>AY v d
 |.func f,d=>d (.g f [] [])
 |.global g,d=>d (.r ⟨g,0,none⟩ none)
def pO(E:DE):List Operand->(List DV->Oc)->Oc
 |[],d=>d []
 |j::l,d=>dU E j λv=>pO E l λh=>d (v::h)
def EF(z:aa)(K:DV->Oc):Oc:=match z with
 |.int h _=>.ex Int λd=>K (.i h d)
 |.bool _=>.ex Bool λd=>K (.b d)
 |.string _=>.ex ByteArray λd=>K (.st d)
 |.slice _ _ _=>.ex Sl λd=>K (.sl d)
 |.pointer _=>.ex (Option Addr) λd=>K (.p d)
 |.map _=>.ex (Option Nat) λd=>K (.m d)
 |_=>.ex aa λd=>K (.v d)
def EE:List aa->(List DV->Oc)->Oc
 |[],d=>d []
 |j::k,d=>EF j λv=>EE k λh=>d (v::h)
def Ll(z:aa)(K:DV->Oc):Oc:=match z with
 |.agg d=>EE d.toList λl=>K (.a l)
 |z=>EF z K
def Lr:List aa->(List DV->Oc)->Oc
 |[],d=>d []
 |j::k,d=>Ll j λv=>Lr k λh=>d (v::h)
def xE(z:aa)(K:DV->Oc):Oc:=match z with
 |.tuple d=>Lr d.toList λl=>K (.t l)
 |z=>Ll z K
def QZ:List Nat:=[0,1,2,3,4,5,6,7,8,9,10,11,12,13,14,15,16,17,18,19,20,21,22,23,24,25,26,27,28,29,30,31,32,33,34,35,36,37,38,39,40,41,42,43,44,45,46,47,48,49,50,51,52,53,54,55,56,57,58,59,60,61,62,63]
def Lz(p:Addr):List Nat->List DV->(List Fc->Oc)->Oc
 |n::h,v::j,d=>DV.o v λk=>Lz p h j λl=>d (.c (p.add n) k::l)
 |_,_,d=>d []
def Bx(P:aH)(w:J)(K:Oc):List Fc->Oc
 |[]=>K
 |.c p v::l=>.and (w.cell? p=some v) (Bx P w K l)
 |.r s v::l=>.and (s.run P w=.ok v w) (Bx P w K l)
 |.n::l=>Bx P w K l
def No(P:aH)(T:aC)(p:Addr)(w:J)(K:DV->List Fc->Oc):Oc:=match P.info? T with
 |some ⟨_,_,_,_,_,_,_,some h,_,_⟩=>match h with
  |.agg x=>EE x.toList λk=>Lz p QZ k λq=>Bx P w (K (.a k) q) q
  |.nilFunc=>.ex Fv λf=>.and (w.cell? p=some f.v) (K (.f f) [.c p f.v])
  |.nilIface=>.or (.ex aC λt=>.ex aa λd=>.and (w.cell? p=some (.iface t d)) (K (.v (.iface t d)) [.c p (.iface t d)])) (.and (w.cell? p=some .nilIface) (K (.v .nilIface) [.c p .nilIface]))
  |h=>EF h λj=>DV.o j λv=>.and (w.cell? p=some v) (K j [.c p v])
 |_=>.leaf False
def mQ{α:Type}:List α->Nat->Nat->List α
 |[],_,_=>[]
 |a::l,d,n=>match cg d 0 with
  |true=>match cg n 0 with
   |true=>[]
   |false=>a::mQ l 0 (n - 1)
  |false=>mQ l (d - 1) n
def A4:List DV->Nat->List DV->List DV
 |l,_,[]=>l
 |[],_,_=>[]
 |a::l,d,x::h=>match cg d 0 with
  |true=>x::A4 l 0 h
  |false=>a::A4 l (d - 1) (x::h)
def DV.cs:DV->List DV
 |.a l=>l
 |d=>[d]
def Np(P:aH)(T:aC)(cs:List DV)(j:Nat)(K:DV->Oc):Oc:=match P.info? T with
 |some ⟨_,_,n,_,_,_,_,some d,_,_⟩=>match d with
  |.agg _=>K (.a (mQ cs j n))
  |_=>match jN cs j with
   |some v=>K v
   |none=>.leaf False
 |_=>.leaf False
def me(P:aH)(T:aC):TypeDesc:=match P.info? T with
 |some ⟨.named _ u,_,_,_,_,_,_,_,_,_⟩=>(match P.info? u with
  |some ⟨d,_,_,_,_,_,_,_,_,_⟩=>d
  |none=>.invalid)
 |some ⟨d,_,_,_,_,_,_,_,_,_⟩=>d
 |none=>.invalid
def vK(P:aH)(T:aC)(K:Nat->Oc):Oc:=match P.info? T with
 |some ⟨_,_,n,_,_,_,_,_,_,_⟩=>K n
 |none=>.leaf False
def Co(P:aH)(T:aC)(K:aa->Oc):Oc:=match P.info? T with
 |some ⟨_,_,_,_,_,_,_,some d,_,_⟩=>K d
 |_=>.leaf False
def LD(P:aH)(T:aC)(f:Nat)(K:aC->Nat->Oc):Oc:=match me P T with
 |.struct d=>match jN d.toList f with
  |some ⟨_,t,off,_,_,_,_⟩=>K t off
  |none=>.leaf False
 |_=>.leaf False
def DV.ri:DV->(Int->Oc)->Oc
 |.i _ h,d=>d h
 |_,_=>.leaf False
def m3(E:DE)(x:Option Operand)(y d:Nat)(K:Nat->Oc):Oc:=match x with
 |none=>K d
 |some o=>dU E o λv=>v.ri λi=>.and (0<=i) (.and (i<=(y:Int)) (K i.toNat))
def vD(P:aH)(s:Sem aa)(z:aa)(w:J)(K:DV->List Fc->Oc):Oc:=match z with
 |.nilFunc=>.ex Fv λf=>.and (s.run P w=.ok f.v w) (K (.f f) [.r s f.v])
 |z=>xE z λd=>DV.o d λv=>.and (s.run P w=.ok v w) (K d [.r s v])
def minD(a b:Nat)(K:Nat->Oc):Oc:=match Nat.ble a b with
 |true=>K a
 |false=>K b
def Xv:ik->Nat
 |.i8|.u8=>8
 |.i16|.u16=>16
 |.i32|.u32=>32
 |_=>64
def T6(d:Bool)(k:ik)(y:Int)(K:Nat->Oc):Oc:=match d with
 |true=>match y with
  |.ofNat m=>minD (@OfNat.ofNat Nat m (instOfNatNat m)) (Xv k) K
  |.negSucc _=>.leaf False
 |false=>.and (¬y<0) (K (min y.toNat k.bits))
def Y2(op:BinOp)(a b:Int)(K:Bool->Oc):Oc:=match op with
 |.eql=>K (a==b)
 |.neq=>K (a !=b)
 |.lss=>K (au (a<b))
 |.leq=>K (au (a<=b))
 |.gtr=>K (au (a>b))
 |.geq=>K (au (a>=b))
 |_=>.leaf False
def Xt(op:BinOp)(d:Bool)(k:ik)(a b:Int)(K:DV->Oc):Oc:=match op with
 |.add=>K (.i k (k.wrap (a+b)))
 |.sub=>K (.i k (k.wrap (a - b)))
 |.mul=>K (.i k (k.wrap (a *b)))
 |.quo=>match d with
  |true=>K (.i k (k.wrap (a.tdiv b)))
  |false=>.and (b≠0) (K (.i k (k.wrap (a.tdiv b))))
 |.rem=>match d with
  |true=>K (.i k (a.tmod b))
  |false=>.and (b≠0) (K (.i k (a.tmod b)))
 |.and=>K (.i k (kN k a b))
 |.or=>K (.i k (nX k a b))
 |.xor=>K (.i k (nY k a b))
 |.andNot=>K (.i k (Xd k a b))
 |.shl=>T6 d k b λn=>K (.i k (k.wrap (a *2^n)))
 |.shr=>T6 d k b λn=>K (.i k (a.fdiv (2^n)))
 |op=>Y2 op a b λt=>K (.b t)
def Xu(op:BinOp)(a b:ByteArray)(K:DV->Oc):Oc:=match op with
 |.add=>.and (¬(((a.size+b.size:Nat):Int)>IntKind.i64.max)) (K (.st (a++b)))
 |.eql=>K (.b (a.toList==b.toList))
 |.neq=>K (.b (!(a.toList==b.toList)))
 |.lss=>K (.b (Op.bytesLess a.toList b.toList))
 |.leq=>K (.b (Op.bytesLess a.toList b.toList||a.toList==b.toList))
 |.gtr=>K (.b (!(Op.bytesLess a.toList b.toList||a.toList==b.toList)))
 |.geq=>K (.b (!(Op.bytesLess a.toList b.toList)))
 |_=>.leaf False
def DV.rb:DV->Bool
 |.kb d=>d
 |.b d=>d
 |_=>false
def xC:List DV->List DV->List Field->(Bool->Oc)->Oc
 |h,j,⟨_,_,off,_,_,_,_⟩::k,d=>match jN h off,jN j off with
  |some (.i _ a),some (.i _ b)=>xC h j k λr=>d ((a==b)&&r)
  |some (.st a),some (.st b)=>xC h j k λr=>d ((a.toList==b.toList)&&r)
  |some q,some w=>xC h j k λr=>d ((q.rb==w.rb)&&r)
  |_,_=>.leaf False
 |_,_,[],d=>d true
def Fi:Operand->Bool
 |.const _=>true
 |_=>false
def Dv(P:aH)(op:BinOp)(T:aC)(x y:Operand)(a b:DV)(w:J)(K:DV->List Fc->Oc):Oc:=match a,b with
 |.i k a,.i _ b=>Xt op (Fi y) k a b λv=>K v []
 |.st a,.st b=>Xu op a b λv=>K v []
 |.sl s,.s3 none _ _=>match op with
  |.eql=>K (.b s.a.isNone) []
  |_=>K (.b (!s.a.isNone)) []
 |.s3 (some _) _ _,.s3 none _ _=>match op with
  |.eql=>K (.kb false) []
  |_=>K (.kb true) []
 |.s3 a _ _,.s3 none _ _=>match op with
  |.eql=>K (.b a.isNone) []
  |_=>K (.b (!a.isNone)) []
 |.r _ _,.p none=>match op with
  |.eql=>K (.kb false) []
  |_=>K (.kb true) []
 |.m a,.m none=>match op with
  |.eql=>K (.b a.isNone) []
  |_=>K (.b (!a.isNone)) []
 |.a h,.a j=>match me P T,op with
  |.struct d,.eql=>xC h j d.toList λr=>K (.b r) []
  |.struct d,_=>xC h j d.toList λr=>K (.b (!r)) []
  |_,_=>.leaf False
 |a,b=>match Fi y,a,b,op with
  |true,.p a,.p none,.eql=>K (.b a.isNone) []
  |true,.p a,.p none,_=>K (.b (!a.isNone)) []
  |_,.p _,_,.neq|_,.r _ _,_,.neq=>DV.o a λa=>DV.o b λb=>vD P (binOp .neq T a b) (.bool true) w K
  |_,_,_,op=>match me P T with
   |.interface _=>DV.o a λa=>DV.o b λb=>vD P (kV op T x y a b) (.bool true) w K
   |.bool=>match op with
    |.eql=>K (.b (a.rb==b.rb)) []
    |_=>K (.b (!(a.rb==b.rb))) []
   |_=>.leaf False
def AE(j:Bool):DV->List DV->(DV->Oc)->Oc
 |r,[],d=>d r
 |.i k r,.i _ h::l,d=>match j with
  |true=>AE j (.i k (if r<h then h else r)) l d
  |false=>AE j (.i k (if h<r then h else r)) l d
 |_,_,_=>.leaf False
def acG(d:List Field)(n:Nat):Nat:=match jN d n with
 |some ⟨_,_,off,_,_,_,_⟩=>off
 |none=>0
def A9(E:DE)(off:Nat->Nat):List (Nat×Operand)->List DV->(List DV->Oc)->Oc
 |[],h,d=>d h
 |(i,j)::l,h,d=>dU E j λv=>A9 E off l (A4 h (off i) v.cs) d
def xI:List DV->(List DV->Oc)->Oc
 |[],d=>d []
 |v::l,d=>xI l λl=>d (v::l)
def Ts:Nat->List DV->List DV
 |0,_=>[]
 |n+1,l=>l++Ts n l
def JW(P:aH)(op:Op)(ty:aC)(E:DE)(L:DL)(w:J)(d:Bool)(K:DV->List (Option Nat×Fc)->J->Bool->Oc):Option Oc:=match op with
 |.move h|.assign h=>some (dU E h λv=>K v [] w d)
 |.pick c a b=>some (dU E c λc=>match c with
  |.kb true=>dU E a λv=>K v [] w d
  |.kb false=>dU E b λv=>K v [] w d
  |_=>.leaf False)
 |.load j h=>some (dU E h λa=>match a with
  |.r _ (some (i,G))=>match jN L i with
   |some (_,A,_)=>Np P j A G λv=>K v [(some i,.n)] w d
   |none=>.leaf False
  |.r p none=>hx d L w λw=>No P j p w λv k=>K v (k.map λf=>(none,f)) w false
  |_=>.leaf False)
 |.nilCheck h=>some (dU E h λa=>match a with
  |.p M=>.op M λp=>K (.r p none) [] w d
  |a=>K a [] w d)
 |.fieldAddr j h f=>some (dU E h λa=>match a with
  |.r p l=>LD P j f λ_ off=>match l with
   |some (i,G)=>K (.r (p.add off) (some (i,Nat.add G off))) [] w d
   |none=>K (.r (p.add off) none) [] w d
  |_=>.leaf False)
 |.field j h f=>some (dU E h λa=>match a with
  |.a l=>LD P j f λt off=>match P.info? t with
   |some ⟨_,_,n,_,_,_,_,some B,_,_⟩=>match B with
    |.agg _=>xI (mQ l off n) λl=>K (.a l) [] w d
    |_=>match jN l off with
     |some v=>K v [] w d
     |none=>.leaf False
   |_=>.leaf False
  |_=>.leaf False)
 |.indexAddr j h C=>some (dU E h λa=>dU E C λi=>i.ri λi=>match a,me P j with
  |.sl s,.slice e=>vK P e λy=>.and (0<=i) (.and (i<(s.n:Int)) (.op s.a λp=>K (.r (p.add (i.toNat *y)) none) [] w d))
  |.s3 a n _,.slice e=>vK P e λy=>.and (0<=i) (.and (i<(n:Int)) (.op a λp=>K (.r (p.add (i.toNat *y)) none) [] w d))
  |.r p _,.array n e=>vK P e λy=>.and (0<=i) (.and (i<(n:Int)) (K (.r (p.add (i.toNat *y)) none) [] w d))
  |_,_=>.leaf False)
 |.index j h C=>some (dU E h λa=>dU E C λi=>i.ri λi=>match a,me P j with
  |.st s,.string=>.and (0<=i) (.ex UInt8 λb=>.and (s[i.toNat]? =some b) (K (.i .u8 (b.toNat:Int)) [] w d))
  |.a A,.array n e=>match me P e with
   |.string=>DV.os A λq=>.and (0<=i) (.and (i<(n:Int)) (.ex ByteArray λb=>.and (q.toArray[i.toNat]? =some (.string b)) (K (.st b) [] w d)))
   |_=>DV.os A λq=>.and (0<=i) (.and (i<(n:Int)) (.ex Int λb=>.and (q.toArray[i.toNat]? =some (.int .i64 b)) (K (.i .i64 b) [] w d)))
  |_,_=>.leaf False)
 |.slice j h lo F H=>some (dU E h λa=>match a,me P j with
  |.sl s,.slice e=>vK P e λy=>m3 E H s.c s.c λm=>m3 E F m s.n λx=>m3 E lo x 0 λl=>K (.s3 (if m=l then s.a else s.a.map (·.add (l *y))) (x - l) (m - l)) [] w d
  |.s3 a n c,.slice e=>vK P e λy=>m3 E H c c λm=>m3 E F m n λx=>m3 E lo x 0 λl=>K (.s3 (if m=l then a else a.map (·.add (l *y))) (x - l) (m - l)) [] w d
  |.st s,.string=>m3 E F s.size s.size λx=>m3 E lo x 0 λl=>K (.st (s.extract l x)) [] w d
  |.r p _,.array n e=>vK P e λy=>m3 E H n n λm=>m3 E F m n λx=>m3 E lo x 0 λl=>K (.s3 (some (if m=l then p else p.add (l *y))) (x - l) (m - l)) [] w d
  |_,_=>.leaf False)
 |.extract h n=>some (dU E h λa=>match a with
  |.t l=>match jN l n with
   |some v=>K v [] w d
   |none=>.leaf False
  |_=>.leaf False)
 |.build j I=>some (Co P j λB=>AY B λB=>match me P j with
  |.struct k=>A9 E (acG k.toList) I.toList B.cs λl=>xI l λl=>K (.a l) [] w d
  |.array _ e=>match P.info? e with
   |some ⟨_,_,n,_,_,_,_,_,_,_⟩=>A9 E (λi=>Nat.mul i n) I.toList B.cs λl=>xI l λl=>K (.a l) [] w d
   |none=>.leaf False
  |_=>.leaf False)
 |.unOp f _ h=>some (dU E h λa=>match f,a with
  |.not,.kb true=>K (.kb false) [] w d
  |.not,.kb false=>K (.kb true) [] w d
  |.not,.b h=>K (.b (!h)) [] w d
  |.neg,.i z h=>K (.i z (z.wrap (0 - h))) [] w d
  |.xor,.i z h=>K (.i z (nY z (if IntKind.signed z then -1 else IntKind.max z) h)) [] w d
  |_,_=>.leaf False)
 |.binOp f j h D _=>some (dU E h λa=>dU E D λb=>match me P j,f with
  |.interface _,_|.pointer _,.neq=>match Fi D with
   |true=>Dv P f j h D a b w λv k=>K v (k.map λf=>(none,f)) w d
   |false=>hx d L w λw=>Dv P f j h D a b w λv k=>K v (k.map λf=>(none,f)) w false
  |_,_=>Dv P f j h D a b w λv k=>K v (k.map λf=>(none,f)) w d)
 |.convert s t h=>match me P s,me P t with
  |.slice _,.slice _|.string,.slice _=>none
  |.slice _,.string=>some (dU E h λa=>DV.o a λv=>hx d L w λw=>vD P (convert s t v) (.string (ByteArray.mk #[])) w λv k=>K v (k.map λf=>(none,f)) w false)
  |.pointer _,.unsafePointer|.unsafePointer,.pointer _=>some (dU E h λa=>DV.o a λv=>hx d L w λw=>vD P (convert s t v) (.pointer none) w λv k=>K v (k.map λf=>(none,f)) w false)
  |_,.int z=>some (dU E h λa=>a.ri λh=>K (.i z (z.wrap h)) [] w d)
  |_,_=>some (dU E h λv=>K v [] w d)
 |.makeInterface j h=>some (dU E h λv=>K (.fc j v) [] w d)
 |.makeFunc (.func n) k A=>some (pO E k.toList λk=>pO E A.toList λA=>K (.g n k A) [] w d)
 |.lookup j h C ok=>some (dU E h λa=>DV.o a λa=>dU E C λb=>DV.o b λb=>hx d L w λw=>Co P ty λB=>vD P (Instr.lookup j a b ok) B w λv k=>K v (k.map λf=>(none,f)) w false)
 |.call {callee:=.builtin .len,args,argTypes}=>some (pO E args.toList λq=>match q,argTypes.toList with
  |[v],[j]=>match v,me P j with
   |.sl s,_=>K (.i .i64 (s.n:Int)) [] w d
   |.s3 _ n _,_=>K (.i .i64 (n:Int)) [] w d
   |.st s,_=>K (.i .i64 (s.size:Int)) [] w d
   |_,.array n _=>K (.i .i64 (n:Int)) [] w d
   |v,.map _ _=>DV.o v λm=>hx d L w λw=>vD P (Builtin.len_ #[j] ty #[m]) (.int .i64 0) w λv k=>K v (k.map λf=>(none,f)) w false
   |_,_=>.leaf False
  |_,_=>.leaf False)
 |.call {callee:=.builtin .cap,args,..}=>some (pO E args.toList λq=>match q with
  |[.sl s]=>K (.i .i64 (s.c:Int)) [] w d
  |[.s3 _ _ c]=>K (.i .i64 (c:Int)) [] w d
  |_=>.leaf False)
 |.call {callee:=.builtin .min,args,..}=>some (pO E args.toList λq=>match q with
  |v::q=>AE false v q λv=>K v [] w d
  |_=>.leaf False)
 |.call {callee:=.builtin .max,args,..}=>some (pO E args.toList λq=>match q with
  |v::q=>AE true v q λv=>K v [] w d
  |_=>.leaf False)
 |_=>none
def mD(L:DL)(w Y:J)(K:Oc):Oc:=match L with
 |[]=>K
 |L=>ui L λd=>.and (kept d w Y) K
def HY(L:DL)(p:Addr):List Nat->List DV->J->(J->Oc)->Oc
 |n::k,v::q,d,j=>DV.o v λw=>match cg n 0 with
  |true=>.st d p w λh=>mD L d h (HY L p k q h j)
  |false=>.st d (p.add n) w λh=>mD L d h (HY L p k q h j)
 |_,_,d,j=>j d
def uz(P:aH)(L:DL)(s:Sem aa)(z:aa)(w:J)(K:DV->J->Oc):Oc:=
 xE z λh=>DV.o h λv=>.ex J λd=>.and (s.run P w=.ok v d) (mD L w d (K h d))
def JQ(P:aH)(L:DL)(f:cW)(xs:Array aa)(z:aa)(w:J)(K:DV->J->Oc):Oc:=match L with
 |[]=>.ca P f xs w λr h=>xE z λd=>DV.o d λv=>.and (r=ae v) (K d h)
 |L=>ui L λj=>.cf j P f xs w λr h=>xE z λd=>DV.o d λv=>.and (r=ae v) (K d h)
def Xz(P:aH)(f:cW):Bool:=match P.funcs[f]? with
 |some fn=>fn.body.isSome
 |none=>false
def Zp(P:aH)(D:List Nat)(dst:Option Nat)(op:Op)(ty:aC)(E:DE)(L:DL)(w:J)(d:Bool)(K:DV->DL->J->Bool->Oc):Oc:=match op with
 |.store _ j M=>dU E j λa=>dU E M λv=>match a with
  |.r _ (some (i,G))=>match jN L i with
   |some (b,z,k)=>xI (A4 z G v.cs) λz=>K .u (T1 L i (b,z,k)) w true
   |none=>.leaf False
  |.r p none=>hx d L w λw=>HY L p QZ v.cs w λh=>K .u L h false
  |_=>.leaf False
 |.alloc k=>Co P k λx=>AY x λx=>match MJ D dst with
  |true=>ui L λC=>.nw C w λb h=>K (.r (ab b) (some (L.length,0))) (L++[(b,x.cs,k)]) h false
  |false=>hx d L w λw=>DV.os x.cs λq=>.al w (.cells q.toArray k) λh=>K (.r (nb w) none) L h false
 |.box k j=>dU E j λx=>match MJ D dst with
  |true=>ui L λC=>.nw C w λb h=>K (.r (ab b) (some (L.length,0))) (L++[(b,x.cs,k)]) h false
  |false=>hx d L w λw=>DV.os x.cs λq=>.al w (.cells q.toArray k) λh=>K (.r (nb w) none) L h false
 |.buildSlice k n H=>match me P k with
  |.slice e=>match P.info? e with
   |some ⟨_,_,I,_,_,_,_,some x,_,_⟩=>AY x λx=>A9 E (λi=>Nat.mul i I) H.toList (Ts n x.cs) λl=>DV.os l λq=>hx d L w λw=>.al w (.cells q.toArray e) λh=>K (.s3 (some (nb w)) n n) L h false
   |_=>.leaf False
  |_=>.leaf False
 |.makeMap _ _=>hx d L w λw=>.al w (.map #[] 0) λh=>K (.m (some w.heap.size)) L h false
 |.mapUpdate k m y v|.insert k m y v=>dU E m λm=>DV.o m λm=>dU E y λy=>DV.o y λy=>dU E v λv=>DV.o v λv=>hx d L w λw=>
   .ex J λh=>.and ((Instr.mapUpdate k m y v).run P w=.ok () h) (mD L w h (K .u L h false))
 |.call {callee:=.builtin b,args,argTypes}=>pO E args.toList λq=>DV.os q λq=>hx d L w λw=>match b with
  |.append=>uz P L (eu argTypes ty q.toArray) (.slice none 0 0) w λv h=>K v L h false
  |.copy=>uz P L (Builtin.copy_ argTypes ty q.toArray) (.int .i64 0) w λv h=>K v L h false
  |.unsafeSliceData=>uz P L (Builtin.unsafeSliceData_ argTypes ty q.toArray) (.pointer none) w λv h=>K v L h false
  |.unsafeString=>uz P L (Builtin.unsafeString_ argTypes ty q.toArray) (.string (ByteArray.mk #[])) w λv h=>K v L h false
  |.delete=>.ex J λh=>.and ((Builtin.delete_ argTypes ty q.toArray).run P w=.ok undef h) (mD L w h (K .u L h false))
  |.clear=>.ex J λh=>.and ((Builtin.clear_ argTypes ty q.toArray).run P w=.ok (.tuple #[]) h) (mD L w h (K (.t []) L h false))
  |_=>.leaf False
 |.call {callee:=.value j,args,..}=>dU E j λf=>pO E args.toList λq=>Co P ty λx=>hx d L w λw=>match f with
  |.g n F z=>DV.os (F++q++z) λB=>match Xz P n with
   |true=>JQ P L n B.toArray x w λv h=>K v L h false
   |false=>xE x λr=>DV.o r λv=>.ex J λh=>.and ((callFunc n B.toArray).run P w=.ok (.value v) h) (mD L w h (K r L h false))
  |.f A=>DV.os q λB=>.at (hG P A.n) (JQ P L A.n (A.bs++B.toArray++A.cs) x w λv h=>K v L h false)
  |_=>.leaf False
 |.makeSlice k l c=>dU E l λl=>DV.o l λl=>dU E c λc=>DV.o c λc=>hx d L w λw=>uz P L (Instr.makeSlice k l c) (.slice none 0 0) w λv h=>K v L h false
 |.convert s t j=>dU E j λj=>DV.o j λj=>hx d L w λw=>uz P L (convert s t j) (.slice none 0 0) w λv h=>K v L h false
 |.range k j=>dU E j λj=>DV.o j λj=>hx d L w λw=>.ex aa λv=>.ex J λh=>.and ((Instr.range k j).run P w=.ok v h) (mD L w h (K (.v v) L h false))
 |.next it s=>dU E it λj=>DV.o j λit=>hx d L w λw=>.or (.ex J λh=>.and ((Instr.next it s ty).run P w=.ok (.tuple #[.bool false]) h) (mD L w h (K (.t [.kb false]) L h false)))
   (match s with
    |true=>.ex Int λi=>.ex Int λc=>.ex J λh=>.and ((Instr.next it true ty).run P w=.ok (.tuple #[.bool true,.int .i64 i,.int .i32 c]) h) (mD L w h (K (.t [.kb true,.i .i64 i,.i .i32 c]) L h false))
    |false=>.ex aa λi=>.ex aa λc=>.ex J λh=>.and ((Instr.next it false ty).run P w=.ok (.tuple #[.bool true,i,c]) h) (mD L w h (K (.t [.kb true,.v i,.v c]) L h false)))
 |.entry it=>dU E it λj=>DV.o j λit=>hx d L w λw=>.ex aa λi=>.ex aa λc=>.ex J λh=>.and ((Instr.entry it).run P w=.ok (.tuple #[i,c]) h) (mD L w h (K (.t [.v i,.v c]) L h false))
 |_=>.leaf False
def wJ:List Edge->(Nat->Bool)->Bool
 |[],_=>false
 |⟨_,.textOnly _⟩::l,p=>wJ l p
 |⟨_,.gcOnly _⟩::l,p=>wJ l p
 |⟨e,_⟩::l,p=>match p e with
  |true=>true
  |false=>wJ l p
def A2(ops:List Oper):Nat->Nat->Nat->Bool
 |0,i,h=>match jN ops h with
  |some ⟨_,_,_,_,d,_⟩=>wJ d.toList λe=>cg e i
  |none=>false
 |f+1,i,h=>match jN ops h with
  |some ⟨_,_,_,_,d,_⟩=>wJ d.toList λe=>match cg e i with
   |true=>true
   |false=>A2 ops f i e
  |none=>false
def xe(ops:List Oper)(j:Nat):DH->(DH->Oc)->Oc
 |[],h=>h []
 |(i,f,k)::d,h=>match A2 ops 4 i j with
  |true=>xe ops j d h
  |false=>xe ops j d λd=>h ((i,f,k)::d)
def Dk(ops:List Oper)(j:Nat):DH->Bool
 |[]=>false
 |(i,none,_)::d=>match A2 ops 4 i j with
  |true=>Dk ops j d
  |false=>true
 |_::d=>Dk ops j d
def uU(P:aH)(ops:List Oper)(j:Nat)(w:J)(K:Oc):DH->Oc
 |[]=>K
 |(i,none,h)::d=>match A2 ops 4 i j with
  |true=>uU P ops j w K d
  |false=>match h with
   |.c p v=>.and (w.cell? p=some v) (uU P ops j w K d)
   |.r s v=>.and (s.run P w=.ok v w) (uU P ops j w K d)
   |.n=>uU P ops j w K d
 |_::d=>uU P ops j w K d
abbrev DJ:=DE->DL->J->Bool->DH->Oc
def IV(draw:Bool)(i:Nat):List (Option Nat×Fc)->DH->(DH->Oc)->Oc
 |[],d,h=>h d
 |(f,j)::l,d,h=>match draw with
  |true=>IV draw i l d λd=>h ((i,f,j)::d)
  |false=>h d
def UR(P:aH)(k:List Nat)(ops:List Oper)(draw:Bool)(i:Nat)(o:Oper)(E:DE)(L:DL)(w:J)(d:Bool)(H:DH)(K:DJ):Oc:=match o with
 |⟨dst,op,h,_,_,_⟩=>match JW P op h E L w d λv j w d=>Bc dst v E λE=>IV draw i j H λH=>K E L w d H with
  |some r=>r
  |none=>Zp P k dst op h E L w d λv L w d=>match Dk ops i H with
   |true=>hx d L w λw=>uU P ops i w (Bc dst v E λE=>xe ops i H λH=>K E L w false H) H
   |false=>Bc dst v E λE=>xe ops i H λH=>K E L w d H
def YU(P:aH)(op:Op)(ty:aC)(E:DE)(L:DL)(w:J):Bool:=match JW P op ty E L w false λ_ _ _ _=>.leaf True with
 |some _=>true
 |none=>false
def BD(P:aH)(ops:List Oper)(i:Nat)(o:Oper)(E:DE)(L:DL)(w:J)(d:Bool)(H:DH)(K:DJ):Oc:=match o with
 |⟨dst,op,h,_,_,_⟩=>Bc dst .u E λE=>match YU P op h E L w with
  |true=>K E L w d H
  |false=>xe ops i H λH=>K E L w d H
def E5(P:aH)(h:List Nat)(ops:List Oper)(draw:Bool)(i:Nat)(o:Oper)(t:Nat)(want b:Bool)(E:DE)(L:DL)(w:J)(d:Bool)(H:DH)(K:DJ):Oc:=match want,b with
 |true,true|false,false=>UR P h ops draw i o ((t,.kb b)::E) L w d H K
 |_,_=>BD P ops i o ((t,.kb b)::E) L w d H K
def headD(P:aH)(h:List Nat)(ops:List Oper)(draw:Bool)(i:Nat)(E:DE)(L:DL)(w:J)(d:Bool)(H:DH)(K:DJ):Oc:=match jN ops i with
 |none=>.leaf False
 |some o=>match o.guard with
  |none=>UR P h ops draw i o E L w d H K
  |some (j,want)=>match jN ops j with
   |some ⟨some t,_,_,_,_,_⟩=>getD E t λv=>match v with
    |.kb b=>E5 P h ops draw i o t want b E L w d H K
    |.b b=>.bt b (E5 P h ops draw i o t want true E L w d H K) (E5 P h ops draw i o t want false E L w d H K)
    |_=>BD P ops i o E L w d H K
   |_=>.leaf False
def TP(P:aH)(q:List Nat)(ops:List Oper)(K:DE->DL->J->Bool->Oc):List Oper->Nat->DE->DL->J->Bool->Oc
 |[],_,d,h,k,j=>K d h k j
 |_::l,i,d,h,k,j=>headD P q ops false i d h k j [] λd h k j _=>TP P q ops K l (i+1) d h k j
def BY(P:aH)(w:List Nat)(ops:List Oper)(K:DE->DL->J->Bool->Oc):Tr->DE->DL->J->Bool->DH->Oc
 |.nil,d,h,k,j,_=>K d h k j
 |.one i t,d,h,k,j,q=>headD P w ops true i d h k j q λd h k j q=>BY P w ops K t d h k j q
 |.fork a b,d,h,k,j,q=>.cj (BY P w ops K a d h k j q) (BY P w ops K b d h k j q)
def Zk(L:DL)(w:J)(d:Bool)(K:J->Bool->Oc):Oc:=match L,d with
 |[],false=>.dr w λw=>K w false
 |_,_=>K w true
def dm:(U:List Tk)->(X:Type)->List DV->mj U X->(X->Oc)->Oc
 |[],_,_,d,h=>h d
 |.a _::U,X,.a l::j,d,h=>dm U X (l++j) d h
 |.t _::U,X,.t l::j,d,h=>dm U X (l++j) d h
 |.g _ _ _::U,X,.g _ q w::j,d,h=>dm U X (q++(w++j)) d h
 |.o (.i _)::U,X,.i _ k::j,d,h=>dm U X j (d k) h
 |.o .b::U,X,.b k::j,d,h=>dm U X j (d k) h
 |.o .b::U,X,.kb k::j,d,h=>dm U X j (d k) h
 |.o .st::U,X,.st k::j,d,h=>dm U X j (d k) h
 |.o .s::U,X,.sl k::j,d,h=>dm U X j (d k) h
 |.o .s::U,X,.s3 a n c::j,d,h=>dm U X j (d ⟨a,n,c⟩) h
 |.o .p::U,X,.p k::j,d,h=>dm U X j (d k) h
 |.o .p::U,X,.r k _::j,d,h=>dm U X j (d (some k)) h
 |.o .r::U,X,.r k _::j,d,h=>dm U X j (d k) h
 |.o .m::U,X,.m k::j,d,h=>dm U X j (d k) h
 |.o .f::U,X,.f k::j,d,h=>dm U X j (d k) h
 |.o .f::U,X,.g n q w::j,d,h=>DV.os q λq=>DV.os w λw=>dm U X j (d ⟨n,q.toArray,w.toArray⟩) h
 |.o .v::U,X,v::j,d,h=>DV.o v λk=>dm U X j (d k) h
 |_,_,_,_,_=>.leaf False
def Dl:(l:List (Nat×Sp))->gV l->DE->DL->J->aJ->Oc
 |[],h,_,_,k,j=>.leaf (h k j)
 |(t,.v x)::l,h,d,q,k,j=>getD d t λv=>dm x (gV l) [v] h λw=>Dl l w d q k j
 |(t,.l x _)::l,h,d,q,k,j=>getD d t λv=>match v with
  |.r _ (some (i,_))=>match jN q i with
   |some (b,y,_)=>dm x (gV l) y (h b) λw=>Dl l w d q k j
   |none=>.leaf False
  |_=>.leaf False
abbrev DK:=Exit->DE->DL->J->Bool->Oc
section
variable (X:Fx) (es:List (gw X)) (R:aJ)
def ow{X:Fx}(R:aJ):List (gw X)->List Bool->DE->DL->J->Bool->Oc->Oc
 |[],_,_,_,_,_,f=>f
 |e::es,w,j,h,d,k,f=>match ue e.q w with
  |true=>match e with
   |⟨_,y,x,_⟩=>hx k h d λd=>Dl y x j h d R
  |false=>ow R es w j h d k f
def n2(P:aH)(ord:List (Nat×Tr))(x:List Nat):Code->List Bool->DK->DE->DL->J->Bool->Oc
 |.skip,_,q,j,k,h,d=>q .normal j k h d
 |.region id ops true,_,q,j,k,h,d=>match FF ord id with
  |some t=>Zk k h d λh d=>BY P x ops.toList (λj k h d=>q .normal j k h d) t j k h d []
  |none=>.leaf False
 |.region _ ops false,_,q,j,k,h,d=>TP P x ops.toList (λj k h d=>q .normal j k h d) ops.toList 0 j k h d
 |.seq a b,w,q,j,k,h,d=>n2 P ord x a (false::w) (λe j k h d=>match e with
  |.normal=>ow R es (true::w) j k h d (n2 P ord x b (true::w) q j k h d)
  |e=>q e j k h d) j k h d
 |.cond o a b,w,q,j,k,h,d=>dU j o λv=>match v with
  |.kb true=>ow R es (false::w) j k h d (n2 P ord x a (false::w) q j k h d)
  |.kb false=>ow R es (true::w) j k h d (n2 P ord x b (true::w) q j k h d)
  |.b t=>.bt t (ow R es (false::w) j k h d (n2 P ord x a (false::w) q j k h d)) (ow R es (true::w) j k h d (n2 P ord x b (true::w) q j k h d))
  |_=>.leaf False
 |.block id a,w,q,j,k,h,d=>n2 P ord x a (false::w) (λe j k h d=>match e with
  |.exit y=>match cg y id with
   |true=>q .normal j k h d
   |false=>q (.exit y) j k h d
  |e=>q e j k h d) j k h d
 |.loop _,w,_,j,k,h,d=>ow R es w j k h d (.leaf False)
 |.exit id,_,q,j,k,h,d=>q (.exit id) j k h d
 |.ret,_,q,j,k,h,d=>q .ret j k h d
 |_,_,_,_,_,_,_=>.leaf False
def Br(P:aH)(E:DE)(L:DL)(w:J):List ResultVar->(List DV->Oc)->Oc
 |[],d=>d []
 |.tmp t::l,d=>getD E t λv=>Br P E L w l λh=>d (v::h)
 |.cell x j::l,d=>getD E x λv=>match v with
  |.r _ (some (i,q))=>match jN L i with
   |some (_,k,_)=>Np P j k q λv=>Br P E L w l λh=>d (v::h)
   |none=>.leaf False
  |.r p none=>No P j p w λv _=>Br P E L w l λh=>d (v::h)
  |_=>.leaf False
def adP(P:aH)(fn:Func):DK:=λe k j h q=>match e with
 |.normal|.ret=>hx q j h λh=>Br P k j h fn.results.toList λd=>match d with
  |[v]=>DV.o v λv=>.leaf (R (ae v) h)
  |d=>DV.os d λd=>.leaf (R (ae (.tuple d.toArray)) h)
 |_=>.leaf False
def MX(P:aH)(ord:List (Nat×Tr))(C:List Nat)(A:Code)(z:DK):List Bool->Code×DK
 |[]=>(A,z)
 |b::y=>match MX P ord C A z y,b with
  |(.seq w x,d),false=>(w,λe h j q k=>match e with
   |.normal=>ow R es (true::y) h j q k (n2 X es R P ord C x (true::y) d h j q k)
   |e=>d e h j q k)
  |(.seq _ x,d),true=>(x,d)
  |(.cond _ w _,d),false=>(w,d)
  |(.cond _ _ x,d),true=>(x,d)
  |(.block id w,d),_=>(w,λe h j q k=>match e with
   |.exit B=>match cg B id with
    |true=>d .normal h j q k
    |false=>d (.exit B) h j q k
   |e=>d e h j q k)
  |(.loop w,d),_=>(w,λe h j q k=>match e with
   |.normal=>ow R es y h j q k (.leaf False)
   |e=>d e h j q k)
  |(_,d),_=>(.skip,d)
def V6(X:Fx)(K:aH->Func->List (Nat×Tr)->List Nat->Oc):Oc:=match X with
 |⟨d,fn,ord,h⟩=>K d fn ord h
def Ee(h:List Bool)(E:DE)(L:DL)(w:J):Oc:=V6 X λd fn ord k=>match fn.body with
  |some c=>match MX X es R d ord k c (adP R d fn) h with
   |(.loop x,j)=>n2 X es R d ord k x (false::h) (λe E L w q=>match e with
    |.normal=>ow R es h E L w q (.leaf False)
    |e=>j e E L w q) E L w false
   |(c,j)=>n2 X es R d ord k c h j E L w false
  |none=>.leaf False
end
abbrev hS:List Tk->Type->Type
 |[],X=>X
 |.o (.i _)::l,X=>Int->hS l X
 |.o .b::l,X=>Bool->hS l X
 |.o .st::l,X=>ByteArray->hS l X
 |.o .s::l,X=>Sl->hS l X
 |.o .p::l,X=>Option Addr->hS l X
 |.o .r::l,X=>Addr->hS l X
 |.o .m::l,X=>Option Nat->hS l X
 |.o .v::l,X=>aa->hS l X
 |.o .f::l,X=>Fv->hS l X
 |.a _::l,X=>hS l X
 |.t _::l,X=>hS l X
 |.g _ _ _::l,X=>hS l X
abbrev mV:List (Nat×Sp)->Type
 |[]=>J->aJ->Prop
 |(_,.v d)::l=>hS d (mV l)
 |(_,.l d _)::l=>Nat->hS d (mV l)
def uw:∀(U:List Tk) (X:Type),mj U X=hS U X
 |[],_=>rfl
 |.o h::U,X=>by cases h<;>exact congrArg (λd=>_->d) (uw U X)
 |.a _::U,X=>uw U X
 |.t _::U,X=>uw U X
 |.g _ _ _::U,X=>uw U X
def Ef:∀l:List (Nat×Sp),gV l=mV l
 |[]=>rfl
 |(_,.v d)::l=>(uw d (gV l)).trans (congrArg (hS d) (Ef l))
 |(_,.l d _)::l=>congrArg (λh=>Nat->h) ((uw d (gV l)).trans (congrArg (hS d) (Ef l)))
def kK:(U:List Tk)->(X:Type)->hS U X->(List DV->X->Prop)->Prop
 |[],_,j,k=>k [] j
 |.o (.i w)::U,X,j,k=>∀h:Int,kK U X (j h) λd q=>k (.i w h::d) q
 |.o .b::U,X,j,k=>∀h:Bool,kK U X (j h) λd q=>k (.b h::d) q
 |.o .st::U,X,j,k=>∀h:ByteArray,kK U X (j h) λd q=>k (.st h::d) q
 |.o .s::U,X,j,k=>∀h:Sl,kK U X (j h) λd q=>k (.sl h::d) q
 |.o .p::U,X,j,k=>∀h:Option Addr,kK U X (j h) λd q=>k (.p h::d) q
 |.o .r::U,X,j,k=>∀h:Addr,kK U X (j h) λd q=>k (.r h none::d) q
 |.o .m::U,X,j,k=>∀h:Option Nat,kK U X (j h) λd q=>k (.m h::d) q
 |.o .v::U,X,j,k=>∀h:aa,kK U X (j h) λd q=>k (.v h::d) q
 |.o .f::U,X,j,k=>∀h:Fv,kK U X (j h) λd q=>k (.f h::d) q
 |.a w::U,X,j,k=>kK U X j λd q=>k (.a (mQ d 0 w)::d.drop w) q
 |.t w::U,X,j,k=>kK U X j λd q=>k (.t (mQ d 0 w)::d.drop w) q
 |.g n x w::U,X,j,k=>kK U X j λd q=>k (.g n (mQ d 0 x) (mQ d x w)::d.drop (x+w)) q
def CV(G:DE->DL->J->aJ->Oc):(l:List (Nat×Sp))->mV l->DE->DL->Prop
 |[],d,j,h=>∀(w:J) (R:aJ),Nf (G j h w R) (d w R)
 |(t,.v k)::l,d,j,h=>kK k (mV l) d λq d=>match q with
  |v::_=>CV G l d ((t,v)::j) h
  |[]=>False
 |(t,.l k x)::l,d,j,h=>∀b:Nat,kK k (mV l) (d b) λq d=>CV G l d ((t,.r (ab b) (some (h.length,0)))::j) (h++[(b,q,x)])
def j':(U:List Tk)->(X:Type)->hS U X->(List DV->X->Oc)->Oc
 |[],_,j,k=>k [] j
 |.o (.i w)::U,X,j,k=>.all Int λh=>j' U X (j h) λd q=>k (.i w h::d) q
 |.o .b::U,X,j,k=>.all Bool λh=>j' U X (j h) λd q=>k (.b h::d) q
 |.o .st::U,X,j,k=>.all ByteArray λh=>j' U X (j h) λd q=>k (.st h::d) q
 |.o .s::U,X,j,k=>.all Sl λh=>j' U X (j h) λd q=>k (.sl h::d) q
 |.o .p::U,X,j,k=>.all (Option Addr) λh=>j' U X (j h) λd q=>k (.p h::d) q
 |.o .r::U,X,j,k=>.all Addr λh=>j' U X (j h) λd q=>k (.r h none::d) q
 |.o .m::U,X,j,k=>.all (Option Nat) λh=>j' U X (j h) λd q=>k (.m h::d) q
 |.o .v::U,X,j,k=>.all aa λh=>j' U X (j h) λd q=>k (.v h::d) q
 |.o .f::U,X,j,k=>.all Fv λh=>j' U X (j h) λd q=>k (.f h::d) q
 |.a w::U,X,j,k=>j' U X j λd q=>k (.a (mQ d 0 w)::d.drop w) q
 |.t w::U,X,j,k=>j' U X j λd q=>k (.t (mQ d 0 w)::d.drop w) q
 |.g n x w::U,X,j,k=>j' U X j λd q=>k (.g n (mQ d 0 x) (mQ d x w)::d.drop (x+w)) q
def Di(G:DE->DL->J->aJ->Oc):(l:List (Nat×Sp))->mV l->DE->DL->Oc
 |[],d,j,h=>.all J λx=>.all aJ λw=>.im (G j h x w) (d x w)
 |(t,.v k)::l,d,j,h=>j' k (mV l) d λq d=>match q with
  |v::_=>Di G l d ((t,v)::j) h
  |[]=>.leaf False
 |(t,.l k y)::l,d,j,h=>.all Nat λb=>j' k (mV l) (d b) λq d=>Di G l d ((t,.r (ab b) (some (h.length,0)))::j) (h++[(b,q,y)])
def mf:(U:List Tk)->hS U Unit
 |[]=>()
 |.o (.i _)::U=>λ_=>mf U
 |.o .b::U=>λ_=>mf U
 |.o .st::U=>λ_=>mf U
 |.o .s::U=>λ_=>mf U
 |.o .p::U=>λ_=>mf U
 |.o .r::U=>λ_=>mf U
 |.o .m::U=>λ_=>mf U
 |.o .v::U=>λ_=>mf U
 |.o .f::U=>λ_=>mf U
 |.a _::U=>mf U
 |.t _::U=>mf U
 |.g _ _ _::U=>mf U
def Ld:Nat->List DV->DE
 |_,[]=>[]
 |n,v::d=>(n,v)::Ld (n+1) d
def okD(X:Fx)(es:List (gw X))(f:cW)(U:List Tk):Oc:=j' U Unit (mf U) λh _=>.all J λj=>.all aJ λd=>V6 X λk _ _ _=>DV.os h λq=>.im (Ee X es d [] (Ld 0 h) [] j) (aj k f q.toArray j d)
abbrev At(X:Fx)(_:List (gw X))(_:List Nat)(d:Ps):Type:=mV d
abbrev ay(P:aH)(fn:Func)(ord:List (Nat×Tr))(d:List Nat):List (gw ⟨P,fn,ord,d⟩):=[]
section
variable {X:Fx}
abbrev ak(es:List (gw X))(h:List Nat)(d:Ps){F:mV d}(_:CV (λj k w q=>Ee X es q (ox h) j k w) d F [] []:=by repeat' first |(intro)|((conv=>arg 1;whnf);first |exact Nf.leaf|apply Nf.bt|apply Nf.and|apply Nf.ex|apply Nf.cf|apply Nf.ca|apply Nf.nw|apply Nf.st|apply Nf.lc|apply Nf.op|apply Nf.all|apply Nf.im|apply Nf.al|apply Nf.dr|apply Nf.at|apply Nf.or|apply Nf.cj)):At X es h d:=F
abbrev bg(es:List (gw X))(h:List Nat)(d:Ps):At X es h d:=cast (Ef d) (ju d 0 (X.Sem (ox h)))
abbrev ao{es:List (gw X)}{h:List Nat}{d:Ps}(G:At X es h d){F:gV d}(_:HEq G F:=by exact HEq.rfl)(e:F=ju d 0 (X.wc es (ox h)):=by kernel_rfl):List (gw X):=ZA X es (ox h) d F e::es
abbrev bf{es:List (gw X)}{h:List Nat}{d:Ps}(G:At X es h d){F:gV d}(_:HEq G F:=by exact HEq.rfl)(e:F=ju d 0 (X.Sem (ox h)):=by kernel_rfl):List (gw X):=Zz X (ox h) d F e::es
def tu:(U:List Tk)->(List aa->Prop)->Prop
 |[],h=>h []
 |.o q::U,h=>∀w:q.T,tu U λd=>h (q.val w::d)
 |.a j::U,h=>tu U λd=>h (.agg (d.take j).toArray::d.drop j)
 |.t j::U,h=>tu U λd=>h (.tuple (d.take j).toArray::d.drop j)
 |.g n k j::U,h=>tu U λd=>h (.func (.func n) (d.take k).toArray ((d.drop k).take j).toArray::(d.drop k).drop j)
def wI:∀{U:List Tk} {K:List aa->Prop},(∀h,K h)->tu U K
 |[],_,d=>d []
 |.o _::U,_,d=>λ_=>wI (U:=U) λ_=>d _
 |.a _::U,_,d=>wI (U:=U) λ_=>d _
 |.t _::U,_,d=>wI (U:=U) λ_=>d _
 |.g _ _ _::U,_,d=>wI (U:=U) λ_=>d _
def az(es:List (gw X))(f:cW)(U:List Tk){T:Prop}(_:Nf (okD X es f U) T:=by repeat' first |(intro)|((conv=>arg 1;whnf);first |exact Nf.leaf|apply Nf.bt|apply Nf.and|apply Nf.ex|apply Nf.cf|apply Nf.ca|apply Nf.nw|apply Nf.st|apply Nf.lc|apply Nf.op|apply Nf.all|apply Nf.im|apply Nf.al|apply Nf.dr|apply Nf.at|apply Nf.or|apply Nf.cj))(k:X.P.funcs[f]? =some X.fn:=by kernel_rfl)(j:X.fn.body=some X.c:=by kernel_rfl)(e:(tu U λd=>∀(w:J) (R:aJ),cS (Nat.ble d.length X.fn.ntmps) (iR X.P X.n (X.BU es R) X.c [] (vC X.P X.fn R) ⟨kS 0 d,[],[],w,false⟩)->aj X.P f d.toArray w R)=T:=by kernel_rfl):T:=
 e▸wI λ_ _ _ h=>YQ X es (dZ h).2 k j (dZ h).1 rfl
def bj(es:List (gw X)){w:List (gw X)}{h:List Nat}{d:Ps}(F:At X w h d){T:Prop}(_:Nf (Di (λj k x q=>Ee X es q (ox h) j k x) d F [] []) T:=by repeat' first |(intro)|((conv=>arg 1;whnf);first |exact Nf.leaf|apply Nf.bt|apply Nf.and|apply Nf.ex|apply Nf.cf|apply Nf.ca|apply Nf.nw|apply Nf.st|apply Nf.lc|apply Nf.op|apply Nf.all|apply Nf.im|apply Nf.al|apply Nf.dr|apply Nf.at|apply Nf.or|apply Nf.cj))(e:wk d (ju d 0 (X.wc es (ox h))) (ju d 0 (X.Sem (ox h)))=T:=by kernel_rfl):T:=e▸aeW es (ox h) d
end
end Go.W
set_option maxHeartbeats 2000000
set_option maxRecDepth 100000
namespace Go.Proofs.YtnaglpcbkhjpnaaGreatDoor
open Go renaming World->J,Calls->aj,Program->aH,Value->aa,TypeId->aC,Ending->cE,FuncId->cW,IntKind->ik
open Go.IntKind renaming wrap->ah
open Go.IntWalk renaming i64_in->aN
open Go.Builtin renaming append_->eu
open _root_.Bool renaming and_eq_true->bH
open _root_.Nat renaming zero_le->dI,beq->cg,lt_of_lt_of_le->mT,beq_eq->eO
open _root_.UInt8 renaming ofNat->c9
open _root_.Int renaming toNat_natCast->bo
open Go.Region renaming wanted->dv,ready->e4
open Go.Proofs.Tryz renaming prog->V
open _root_.Decidable renaming decide->au
open Go.Ending renaming returned->ae
open List renaming mem_cons->aq,getElem?_eq_getElem->a',append_assoc->cN,mem_cons_of_mem->fF,drop_eq_getElem_cons->dw,take_add_one->dM,drop_of_length_le->du,eq_nil_of_length_eq_zero->G3
open Go Go.W
def mp{a b:Prop}(h:a)(e:a=b:=by kernel_rfl):b:=e▸h
abbrev ir:=Exit->Act->J->Prop
abbrev rz(P:aH)(n:Nat)(K:Env->J->aJ->Prop)(c:Code)(Q:aJ->ir):Prop:=∀(R:aJ) (E:Env) (w:J),K E w R->WP P (cx n) c (Q R) E w
abbrev CS(P:aH)(n:Nat)(K:Env->J->aJ->Prop)(c:Code)(Q:aJ->ir):Prop:=∀(R:aJ) (E:Env) (w:J),K E w R->LP P (cx n) c (Q R) E w
abbrev gi(w:J)(p:Addr)(K:Int->Int->Int->Sl->Prop):Prop:=∃d:Int,∃h:Int,∃j:Int,∃k:Sl,w.cell? (p.add 0)=some (.i d)/\w.cell? (p.add 1)=some (.int .u8 h)/\w.cell? (p.add 2)=some (.int .u8 j)/\w.cell? (p.add 3)=some (k.v)/\K d h j k
abbrev M4(w:J)(p:Addr)(K:Int->Int->Int->ByteArray->Int->Prop):Prop:=∃d:Int,∃h:Int,∃j:Int,∃k:ByteArray,∃q:Int,w.cell? (p.add 0)=some (.int .u8 d)/\w.cell? (p.add 1)=some (.int .u8 h)/\w.cell? (p.add 2)=some (.int .u8 j)/\w.cell? (p.add 3)=some (.string k)/\w.cell? (p.add 4)=some (.i q)/\K d h j k q
abbrev M3(w:J)(p:Addr)(K:Int->Int->Int->Prop):Prop:=∃d:Int,∃h:Int,∃j:Int,w.cell? (p.add 0)=some (.i d)/\w.cell? (p.add 1)=some (.i h)/\w.cell? (p.add 2)=some (.i j)/\K d h j
abbrev abb(w:J)(p:Addr)(K:Int->Int->Int->Sl->ByteArray->Sl->Sl->Prop):Prop:=∃d:Int,∃h:Int,∃j:Int,∃k:Sl,∃q:ByteArray,∃x:Sl,∃y:Sl,w.cell? (p.add 0)=some (.i d)/\w.cell? (p.add 1)=some (.i h)/\w.cell? (p.add 2)=some (.i j)/\w.cell? (p.add 3)=some (k.v)/\w.cell? (p.add 4)=some (.string q)/\w.cell? (p.add 5)=some (x.v)/\w.cell? (p.add 6)=some (y.v)/\K d h j k q x y
abbrev M2(w:J)(p:Addr)(K:Sl->Sl->Prop):Prop:=∃d:Sl,∃h:Sl,w.cell? (p.add 0)=some (d.v)/\w.cell? (p.add 1)=some (h.v)/\K d h
abbrev JO(f:cW)(xs:Array aa)(w:J)(K:Bool->J->Prop):Prop:=aj V f xs w λh j=>∃d:Bool,h=ae (.bool d)/\K d j
abbrev rR(f:cW)(xs:Array aa)(w:J)(K:Int->J->Prop):Prop:=aj V f xs w λh j=>∃d:Int,h=ae (.i d)/\K d j
abbrev YY(bs:List Nat)(f:cW)(xs:Array aa)(w:J)(K:Int->J->Prop):Prop:=eJ bs V f xs w λh j=>∃d:Int,h=ae (.i d)/\K d j
abbrev zG(f:cW)(xs:Array aa)(w:J)(K:Int->Int->Int->Sl->J->Prop):Prop:=aj V f xs w λq x=>∃d:Int,∃h:Int,∃j:Int,∃k:Sl,q=ae (.agg #[.i d,.int .u8 h,.int .u8 j,k.v])/\K d h j k x
abbrev um(bs:List Nat)(f:cW)(xs:Array aa)(w:J)(K:Int->Int->Int->Sl->J->Prop):Prop:=eJ bs V f xs w λq x=>∃d:Int,∃h:Int,∃j:Int,∃k:Sl,q=ae (.agg #[.i d,.int .u8 h,.int .u8 j,k.v])/\K d h j k x
abbrev YM(f:cW)(xs:Array aa)(w:J)(K:Int->Int->Int->ByteArray->Int->Int->J->Prop):Prop:=aj V f xs w λy z=>∃d:Int,∃h:Int,∃j:Int,∃k:ByteArray,∃q:Int,∃x:Int,y=ae (.tuple #[.agg #[.int .u8 d,.int .u8 h,.int .u8 j,.string k,.i q],.i x])/\K d h j k q x z
abbrev YN(f:cW)(xs:Array aa)(w:J)(K:(Option Addr)->J->Prop):Prop:=aj V f xs w λh j=>∃d:Option Addr,h=ae (.pointer d)/\K d j
abbrev YL(f:cW)(xs:Array aa)(w:J)(K:aa->J->Prop):Prop:=aj V f xs w λh j=>∃d:aa,h=ae (d)/\K d j
abbrev YZ(bs:List Nat)(f:cW)(xs:Array aa)(w:J)(K:Int->Int->Int->Sl->Int->J->Prop):Prop:=eJ bs V f xs w λx y=>∃d:Int,∃h:Int,∃j:Int,∃k:Sl,∃q:Int,x=ae (.tuple #[.agg #[.i d,.int .u8 h,.int .u8 j,k.v],.i q])/\K d h j k q y
abbrev JP(f:cW)(xs:Array aa)(w:J)(K:ByteArray->J->Prop):Prop:=aj V f xs w λh j=>∃d:ByteArray,h=ae (.string d)/\K d j
abbrev DZ(bs:List Nat)(f:cW)(xs:Array aa)(w:J)(K:ByteArray->J->Prop):Prop:=eJ bs V f xs w λh j=>∃d:ByteArray,h=ae (.string d)/\K d j
abbrev UB(w:J)(p:Addr)(d h j:aa)(K:J->Prop):Prop:=aS w p d λw=>aS w (p.add 1) h λw=>aS w (p.add 2) j λw=>K w
abbrev ma(w:J)(p:Addr)(d h j k:aa)(K:J->Prop):Prop:=aS w p d λw=>aS w (p.add 1) h λw=>aS w (p.add 2) j λw=>aS w (p.add 3) k λw=>K w
abbrev UC(w:J)(p:Addr)(d h j k q:aa)(K:J->Prop):Prop:=aS w p d λw=>aS w (p.add 1) h λw=>aS w (p.add 2) j λw=>aS w (p.add 3) k λw=>aS w (p.add 4) q λw=>K w
abbrev aeI(w:J)(p:Addr)(d h j k q x y:aa)(K:J->Prop):Prop:=aS w p d λw=>aS w (p.add 1) h λw=>aS w (p.add 2) j λw=>aS w (p.add 3) k λw=>aS w (p.add 4) q λw=>aS w (p.add 5) x λw=>aS w (p.add 6) y λw=>K w
abbrev lj:Nat:=0
abbrev b':Nat:=3
abbrev afH:Nat:=4
abbrev cJ:Nat:=5
abbrev cY:Nat:=9
abbrev i9:Nat:=22
abbrev oM:Nat:=23
abbrev vX:Nat:=24
abbrev e2:Nat:=26
abbrev B2:Nat:=28
abbrev Ig:Nat:=30
abbrev gT:Nat:=32
abbrev VG:Nat:=33
abbrev dD:Nat:=47
abbrev dx:Nat:=50
abbrev B3:Nat:=63
abbrev cA:Nat:=67
abbrev afO:Nat:=68
abbrev cQ:Nat:=70
abbrev ti:Nat:=94
abbrev afG:Nat:=102
abbrev afM:Nat:=104
abbrev afL:Nat:=114
abbrev dE:Nat:=133
abbrev aT:Nat:=135
abbrev ll:Nat:=156
abbrev afJ:Nat:=159
abbrev afI:Nat:=160
abbrev vZ:Nat:=162
abbrev q9:Nat:=181
abbrev afF:Nat:=187
abbrev B0:Nat:=188
abbrev pL:Nat:=193
abbrev B1:Nat:=203
abbrev VH:Nat:=206
abbrev pM:Nat:=208
abbrev vY:Nat:=213
abbrev afE:Nat:=223
abbrev i':Nat:=238
abbrev aZ:Nat:=240
abbrev afK:Nat:=252
abbrev iJ:Nat:=257
abbrev afN:Nat:=258
abbrev yV:Nat:=260
abbrev oL:Nat:=265
abbrev kA:Nat:=273
abbrev nD:Nat:=290
abbrev If:Nat:=297
abbrev Ih:Nat:=316
abbrev FQ:Nat:=3
abbrev OS:Nat:=4
abbrev OQ:Nat:=5
abbrev F6:Nat:=6
abbrev OT:Nat:=7
abbrev OR:Nat:=8
abbrev FR:Nat:=9
abbrev u7:Nat:=10
abbrev F7:Nat:=11
abbrev OU:Nat:=12
abbrev F2:Nat:=13
abbrev AG:Nat:=14
abbrev OW:Nat:=15
abbrev OV:Nat:=16
abbrev Ou:Nat:=17
abbrev OP:Nat:=18
abbrev Gn:Nat:=19
abbrev AK:Nat:=20
abbrev F8:Nat:=21
abbrev NU:Nat:=22
abbrev ON:Nat:=23
abbrev Qr:Nat:=24
abbrev Pg:Nat:=25
abbrev Pq:Nat:=26
abbrev Pn:Nat:=27
abbrev Ph:Nat:=28
abbrev OK:Nat:=29
abbrev OH:Nat:=30
abbrev Oo:Nat:=31
abbrev OM:Nat:=32
abbrev OJ:Nat:=33
abbrev NS:Nat:=34
abbrev NW:Nat:=35
abbrev NX:Nat:=36
abbrev NZ:Nat:=37
abbrev NY:Nat:=38
abbrev OY:Nat:=39
abbrev F4:Nat:=40
abbrev F9:Nat:=41
abbrev F':Nat:=42
abbrev Pt:Nat:=43
abbrev Pu:Nat:=44
abbrev OO:Nat:=45
abbrev OX:Nat:=46
abbrev Qs:Nat:=47
abbrev QU:Nat:=48
abbrev QM:Nat:=49
abbrev QT:Nat:=50
abbrev Qe:Nat:=51
abbrev Qg:Nat:=52
abbrev Oq:Nat:=53
abbrev OC:Nat:=54
abbrev N5:Nat:=55
abbrev Ox:Nat:=56
abbrev Oy:Nat:=57
abbrev OL:Nat:=58
abbrev OB:Nat:=59
abbrev Ov:Nat:=60
abbrev N0:Nat:=61
abbrev u9:Nat:=62
abbrev Pm:Nat:=63
abbrev Pj:Nat:=64
abbrev Pl:Nat:=65
abbrev Pr:Nat:=66
abbrev Qq:Nat:=67
abbrev Pk:Nat:=68
abbrev NN:Nat:=69
abbrev Po:Nat:=70
abbrev QE:Nat:=71
abbrev Qw:Nat:=72
abbrev Qu:Nat:=73
abbrev Qv:Nat:=74
abbrev QW:Nat:=75
abbrev Gr:Nat:=76
abbrev QV:Nat:=77
abbrev PO:Nat:=78
abbrev OZ:Nat:=79
abbrev O3:Nat:=80
abbrev pg:Nat:=81
abbrev qC:Nat:=82
abbrev x3:Nat:=83
abbrev Ot:Nat:=84
abbrev OD:Nat:=85
abbrev OG:Nat:=86
abbrev OE:Nat:=87
abbrev OI:Nat:=88
abbrev N2:Nat:=89
abbrev OA:Nat:=90
abbrev Ql:Nat:=91
abbrev Qm:Nat:=92
abbrev Qo:Nat:=93
abbrev QO:Nat:=94
abbrev x6:Nat:=95
abbrev QQ:Nat:=96
abbrev QS:Nat:=97
abbrev QR:Nat:=98
abbrev QP:Nat:=99
abbrev Qf:Nat:=100
abbrev NO:Nat:=101
abbrev NP:Nat:=102
abbrev QF:Nat:=103
abbrev Gp:Nat:=104
abbrev QD:Nat:=105
abbrev O0:Nat:=106
abbrev O2:Nat:=107
abbrev FV:Nat:=108
abbrev N1:Nat:=109
abbrev Ob:Nat:=110
abbrev Od:Nat:=111
abbrev OF:Nat:=112
abbrev Oz:Nat:=113
abbrev On:Nat:=114
abbrev N4:Nat:=115
abbrev N3:Nat:=116
abbrev NV:Nat:=117
abbrev Pb:Nat:=118
abbrev Pc:Nat:=119
abbrev Qp:Nat:=120
abbrev QY:Nat:=121
abbrev QX:Nat:=122
abbrev x7:Nat:=123
abbrev O1:Nat:=124
abbrev Qj:Nat:=125
abbrev ab6:Nat:=126
abbrev Qy:Nat:=127
abbrev QK:Nat:=128
abbrev QI:Nat:=129
abbrev QH:Nat:=130
abbrev QG:Nat:=131
abbrev QJ:Nat:=132
abbrev O':Nat:=133
abbrev O9:Nat:=134
abbrev O7:Nat:=135
abbrev Of:Nat:=137
abbrev N9:Nat:=138
abbrev FT:Nat:=139
abbrev Og:Nat:=140
abbrev NT:Nat:=141
abbrev x4:Nat:=142
abbrev N6:Nat:=143
abbrev FZ:Nat:=144
abbrev Oj:Nat:=145
abbrev FU:Nat:=146
abbrev N7:Nat:=147
abbrev N':Nat:=148
abbrev Pe:Nat:=149
abbrev Pd:Nat:=150
abbrev Qk:Nat:=152
abbrev Qn:Nat:=153
abbrev O4:Nat:=154
abbrev Qi:Nat:=155
abbrev Qh:Nat:=156
abbrev QB:Nat:=159
abbrev QN:Nat:=160
abbrev QL:Nat:=161
abbrev Qz:Nat:=162
abbrev AQ:Nat:=163
abbrev QA:Nat:=164
abbrev Qx:Nat:=165
abbrev Qt:Nat:=166
abbrev QC:Nat:=167
abbrev Gq:Nat:=168
abbrev ab9:Nat:=169
abbrev Pf:Nat:=170
abbrev O6:Nat:=171
abbrev Oh:Nat:=174
abbrev AH:Nat:=175
abbrev Om:Nat:=176
abbrev xZ:Nat:=177
abbrev Oa:Nat:=178
abbrev F3:Nat:=184
abbrev O5:Nat:=185
abbrev Pa:Nat:=186
abbrev Pv:Nat:=188
abbrev Ga:Nat:=189
abbrev Pw:Nat:=190
abbrev N8:Nat:=193
abbrev AJ:Nat:=194
abbrev Ol:Nat:=195
abbrev O8:Nat:=198
abbrev PN:Nat:=200
abbrev Gh:Nat:=201
abbrev AO:Nat:=202
abbrev Gd:Nat:=203
abbrev Gk:Nat:=204
abbrev Px:Nat:=205
abbrev PI:Nat:=206
abbrev Ge:Nat:=207
abbrev PD:Nat:=208
abbrev AP:Nat:=209
abbrev Oe:Nat:=210
abbrev AI:Nat:=211
abbrev Oi:Nat:=212
abbrev sw:Nat:=213
abbrev Gj:Nat:=214
abbrev PL:Nat:=215
abbrev Gg:Nat:=216
abbrev Gi:Nat:=217
abbrev PH:Nat:=218
abbrev PF:Nat:=219
abbrev PG:Nat:=220
abbrev AN:Nat:=221
abbrev PB:Nat:=222
abbrev PK:Nat:=223
abbrev Gb:Nat:=224
abbrev x5:Nat:=225
abbrev AL:Nat:=226
abbrev AM:Nat:=227
abbrev PC:Nat:=228
abbrev PT:Nat:=229
abbrev Gc:Nat:=230
abbrev sv:Nat:=231
abbrev PW:Nat:=232
abbrev cz:Nat:=233
abbrev PQ:Nat:=234
abbrev va:Nat:=235
abbrev vb:Nat:=236
abbrev Py:Nat:=237
abbrev FY:Nat:=238
abbrev PM:Nat:=239
abbrev Pz:Nat:=240
abbrev Gf:Nat:=241
abbrev PU:Nat:=242
abbrev u':Nat:=243
abbrev PV:Nat:=244
abbrev ab':Nat:=245
abbrev F5:Nat:=246
abbrev FP:Nat:=247
abbrev NR:Nat:=248
abbrev NQ:Nat:=249
abbrev PR:Nat:=250
abbrev PA:Nat:=251
abbrev F1:Nat:=252
abbrev PJ:Nat:=253
abbrev Gl:Nat:=254
abbrev PZ:Nat:=255
abbrev PX:Nat:=256
abbrev PY:Nat:=257
abbrev Qb:Nat:=258
abbrev P9:Nat:=259
abbrev Qa:Nat:=260
abbrev P':Nat:=261
abbrev ab8:Nat:=263
abbrev ab7:Nat:=264
abbrev Qc:Nat:=265
abbrev Gm:Nat:=266
abbrev Qd:Nat:=267
abbrev P6:Nat:=268
abbrev P7:Nat:=269
abbrev P8:Nat:=270
namespace KE
noncomputable abbrev S0:=ak (ay V Tryz.f10 [] []) [2] [(0,.v [.I]),(1,.v [.I])]
noncomputable abbrev t1:=ao S0
def ok:=az t1 u7 [.I,.I]
end KE
namespace xj
noncomputable def L0:=bg (ay V Tryz.f141 [] []) [0,1,1,1,1] [(0,.v [.s]),(1,.v [.I]),(5,.v [.I])]
noncomputable abbrev t1:=bf L0
def bC:=bj t1 L0
def ok:=az t1 NT [.s,.I]
end xj
namespace uG
noncomputable def L0:=bg (ay V Tryz.f117 [(6,lr 9)] []) [0,1,1,1,2] [(0,.v [.s]),(1,.v [.s]),(5,.v [.I])]
noncomputable abbrev t1:=bf L0
def bC:=bj t1 L0
def ok:=az t1 NV [.s,.s]
end uG
namespace xk
noncomputable def L0:=bg (ay V Tryz.f22 [(6,lr 9)] []) [0,1,1,1,2] [(0,.v [.s]),(1,.v [.s]),(5,.v [.I])]
noncomputable abbrev t1:=bf L0
def bC:=bj t1 L0
def ok:=az t1 NU [.s,.s]
end xk
open Go Go.W Go.RowKit Go.Lib
def jo:gW V dx cJ (.int .u8 0) 1 1:=⟨by kernel_rfl,by kernel_rfl,rfl,md,md⟩
def iy:gW V i9 b' (.int .i64 0) 1 8:=⟨by kernel_rfl,by kernel_rfl,rfl,md,md⟩
abbrev Bytes(w:J)(s:Sl)(bs:List UInt8):Prop:=Rd w s (bs.map cq)
abbrev e6(w:J)(s:Sl)(bs:List UInt8):Prop:=Ow w cJ s (bs.map cq)
abbrev bq(w:J)(s:Sl)(l:List Int):Prop:=Rd w s (l.map aY)
abbrev zh(w:J)(s:Sl)(l:List Int):Prop:=Ow w b' s (l.map aY)
def Bytes.len{w:J}{s:Sl}{bs:List UInt8}(h:Bytes w s bs):s.n=bs.length:=by simpa using h.1
def bq.len{w:J}{s:Sl}{bs:List Int}(h:bq w s bs):s.n=bs.length:=by simpa using h.1
def Bytes.cell{w:J}{s:Sl}{bs:List UInt8}(h:Bytes w s bs){i j:Nat}{b:UInt8}(hi:bs[i]? =some b)(d:j=i *1){K:Addr->Prop}(k:∀p,s.a=some p->w.cell? (p.add j)=some (.int .u8 (b.toNat:Int))->K p):W.dV s.a K:=
 Rd.get h (i:=i) (v:=cq b) (by simp[hi]) d k
def bq.cell{w:J}{s:Sl}{l:List Int}(h:bq w s l){i j:Nat}{b:Int}(hi:l[i]? =some b)(d:j=i *1){K:Addr->Prop}(k:∀p,s.a=some p->w.cell? (p.add j)=some (.int .i64 b)->K p):W.dV s.a K:=
 Rd.get h (i:=i) (v:=aY b) (by simp[hi]) d k
def zs{ty:aC}{w:J}{s src:Sl}{xs ys:List UInt8}(B:e6 w s xs)(C:Bytes w src ys)(A:xs.length+ys.length<=140737488355328):
  ∃d h,(eu #[dx,dx] ty #[s.v,src.v]).run V w=.ok d.v h/\e6 h d (xs++ys)/\Fr (λb=>b∈ax s) w h/\(∀b∈ax d,b∈ax s\/w.heap.size<=b)/\(d.a=none->s.a=none/\ys=[]):=by obtain⟨d,h,q,x,y,z,j⟩:=I1 (ty:=ty) jo B C (zA _) (by simpa using A);exact⟨d,h,q,by unfold e6;rw[List.map_append];exact x,y,z,λk=>⟨(j k).1,by simpa using(j k).2⟩⟩
def W3{ty:aC}{w:J}{s src:Sl}{xs ys:List Int}(A:zh w s xs)(B:bq w src ys)(C:xs.length+ys.length<=10000000000000):
  ∃d h,(eu #[i9,i9] ty #[s.v,src.v]).run V w=.ok d.v h/\zh h d (xs++ys)/\Fr (λb=>b∈ax s) w h/\(∀b∈ax d,b∈ax s\/w.heap.size<=b)/\(d.a=none->s.a=none/\ys=[]):=by obtain⟨d,h,q,x,y,z,j⟩:=I1 (ty:=ty) iy A B (r9 _) (by simp;omega);exact⟨d,h,q,by unfold zh;rw[List.map_append];exact x,y,z,λk=>⟨(j k).1,by simpa using(j k).2⟩⟩
def RH(w:J)(T:aC)(cs:List aa)(h:cs.length<=1000000):Rd (w.alloc (.cells cs.toArray T)) ⟨some ⟨w.heap.size,0,none⟩,cs.length,cs.length⟩ cs:=(Ow.made w T cs _ rfl h).rd
def GF(w:J)(b:UInt8):Bytes (w.alloc (.cells #[.int .u8 (b.toNat:Int)] cJ)) ⟨some ⟨w.heap.size,0,none⟩,1,1⟩ [b]:=RH w cJ [cq b] ws
def one_num(w:J)(b:Int):bq (w.alloc (.cells #[.int .i64 b] b')) ⟨some ⟨w.heap.size,0,none⟩,1,1⟩ [b]:=RH w b' [aY b] ws
def bl(s:ByteArray):List UInt8:=s.data.toList
def ba(l:List UInt8):ByteArray:=⟨l.toArray⟩
def gC(l:List UInt8):bl (ba l)=l:=rfl
def jk(s:ByteArray):ba (bl s)=s:=rfl
def dQ(s:ByteArray):(bl s).length=s.size:=rfl
def bQ(l:List UInt8):(ba l).size=l.length:=by simp[ba,ByteArray.size]
def ae8(s:ByteArray):strCells s=(bl s).map cq:=by simp[strCells,bl,cq]
def vP:Tryz.prog.underlying cY=some .string:=by kernel_rfl
def Ij:Tryz.prog.underlying cJ=some (.int .u8):=by kernel_rfl
def I2{ty:aC}{w:J}{s:Sl}{xs:List UInt8}(A:e6 w s xs)(t:ByteArray)(hb:xs.length+t.size<=140737488355328):
  ∃d j,(eu #[dx,cY] ty #[s.v,.string t]).run V w=.ok d.v j/\e6 j d (xs++bl t)/\Fr (λb=>b∈ax s) w j/\(∀b∈ax d,b∈ax s\/w.heap.size<=b):=by
 obtain⟨i,C,O,F,I⟩:=info_parts jo.hi;have L:s.n=xs.length:=by simpa using A.1
 have main:∀base,base<=w.heap.size->w.ownsRow base cJ 1 s.v s.n (xs.map cq)->∃z j,(eu #[dx,cY] ty #[s.v,.string t]).run V w=.ok z j/\j.ownsRow base cJ 1 z (s.n+t.size) (xs.map cq++strCells t)/\w.grownBy j s.v.ownBlock/\(z=.slice none 0 0↔s.v=.slice none 0 0/\t.size=0):=
  λbase W U=>run_append_own_string (P:=V) w base dx cY ty cJ i jo.ht vP C O F I s.v s.n (xs.map cq) U t (by unfold maxLen;omega) co W
 obtain⟨z,j,B,N,ac,al⟩:=main 0 (dI _) A.2;have hv:∃d:Sl,z=d.v/\d.n=s.n+t.size:=by
  rcases N.2 with⟨k,y⟩|⟨g,cap,cur,k,_⟩
  .exact ⟨⟨none,0,0⟩,k,by show 0=_;omega⟩
  .exact ⟨⟨_,_,_⟩,k,rfl⟩
 obtain⟨d,rfl,M⟩:=hv;have Z:Fr (λb=>b∈ax s) w j:=by
  refine Fr.grown ac λg h=>?_;rw[RP]at h;cases E:s.a with
  |none=>simp[E]at h
  |some p=>simp[E]at h;simp[ax,E,h]
 refine⟨d,j,B,⟨?_,?_⟩,Z,?_⟩
 .rw [M,L];simp[dQ]
 .have y:=N;rw[ae8,<-List.map_append]at y;unfold aF;rw[M];exact y
 .intro g h;rcases A.2.cases with⟨rfl,hx⟩|⟨x,cur,K,ab,ad,ak,Y,ah⟩
  .obtain ⟨v2,w2,ag,ae,_,_⟩:=main w.heap.size (Nat.le_refl _) (by rw[hx];exact World.ownsRow_nil w _ _ _);have q:(Result.ok d.v j:Result aa)=.ok v2 w2:=B.symm.trans ag;have S:=(Result.ok.inj q).1;subst S;rcases ae.2 with⟨k,_⟩|⟨T,ai,aj,k,y,_⟩
   .have:d.a=none:=(Value.slice.inj k).1;simp[ax,this]at h
   .have:d.a=some ⟨T,0,none⟩:=(Value.slice.inj k).1;simp[ax,this]at h;exact .inr (h▸y)
  .obtain ⟨am,H,G⟩:=s;simp only at K ad Y ah L;subst K;by_cases af:H+t.size<=G
   .have D:=run_append_room_string (P:=V) w dx cY ty cJ i jo.ht vP C F x H G cur ab t af co;have q:=B.symm.trans D;have:d.a=some ⟨x,0,none⟩:=(Value.slice.inj (Result.ok.inj q).1).1;simp[ax,this]at h ⊢;exact .inl h
   .have holds:∀Q u,(xs.map cq)[Q]? =some u->w.cell? ((⟨x,0,none⟩:Addr).add Q)=some u:=World.ownsRow.cells (g:=x) A.2 rfl;have D:=run_append_grow_string (P:=V) w dx cY ty cJ i (.int .u8 0) jo.ht vP C O ⟨x,0,none⟩ H G (xs.map cq) (by rw[F];simp;omega) holds t co co (growslice_fits co (by rw[I];omega));have q:=B.symm.trans D;have:d.a=some ⟨w.heap.size,0,none⟩:=(Value.slice.inj (Result.ok.inj q).1).1;simp[ax,this]at h;exact .inr co
def lD{w:J}{s:Sl}{bs:List UInt8}(h:Bytes w s bs):(Go.convert dx cY s.v).run V w=.ok (.string (ba bs)) w:=by
 obtain⟨a,n,c⟩:=s;have j:=Bytes.len h;simp only at j;subst j;cases a with
 |none=>
  obtain⟨d,q⟩:=h.2.2.1 rfl;simp only at d q;obtain rfl:bs=[]:=G3 d;rw[run_convert_bytes_string (P:=V) w dx cY cJ _ _ _ jo.ht Ij vP];rfl
 |some p=>
  refine run_convert_bytes_back (P:=V) w dx cY cJ p c bs jo.ht Ij vP λk y=>?_;obtain⟨A,z,x⟩:=h.2.2.2 k (cq bs[k]) (by simp[a' y]);cases z;exact x
def BR(w:J)(t:ByteArray):∃h d,(Go.convert cY dx (.string t)).run V w=.ok h.v d/\Bytes d h (bl t)/\af w d/\(∀b∈ax h,w.heap.size<=b/\b<d.heap.size):=by
 refine⟨⟨some ⟨w.heap.size,0,none⟩,t.size,grownCap w t.size 0 cJ⟩,_,run_bytes_of_string (P:=V) w cY dx cJ t vP jo.ht Ij,⟨?_,?_,?_⟩,?_,?_⟩
 .simp [dQ]
 .exact grownCap_ge w t.size 0 _
 .refine Row.uu (T:=cJ) (.inr ⟨w.heap.size,0,_,_,rfl,kU w.drew _,λi v j=>?_⟩);rw[Nat.zero_add,bytesRow,Array.getElem?_append];have q:i<t.data.size:=by have:=(List.getElem?_eq_some_iff.1 j).1;simpa[bl]using this
  rw[av (by simpa using q)];simpa[bl,cq]using j
 .exact (Fr.drew _ w).dN (Fr.alloc _ _ _)
 .intro b k;simp[ax]at k;have:(w.drew.alloc (.cells (bytesRow t (grownCap w t.size 0 cJ)) cJ ((bytesRow t (grownCap w t.size 0 cJ)).size,(bytesRow t (grownCap w t.size 0 cJ)).size+1))).heap.size=w.heap.size+1:=size_alloc _ _;omega
def Nz{t e:aC}{z:aa}{bytes:Nat}(h:gW V t e z 1 bytes)(w:J)(k j:ik)(n:Nat)(F:n *bytes<=140737488355328):
  ∃d,(Instr.makeSlice t (.int k 0) (.int j (n:Int))).run V w=.ok (.slice (some ⟨w.heap.size,0,none⟩) 0 n) d/\Ow d e ⟨some ⟨w.heap.size,0,none⟩,0,n⟩ []/\af w d:=by
 obtain⟨i,C,E,D,B⟩:=info_parts h.hi;have G:n<=140737488355328:=by have:=Nat.le_mul_of_pos_right n h.hb;omega
 obtain⟨d,x,y,A⟩:=run_make_own (P:=V) w 0 t e i z 1 h.ht C E D k j n (by rw[B,Nat.mul_comm];omega) (by unfold maxLen;omega) (dI _);exact⟨d,x,⟨rfl,y⟩,Fr.grown A λ_ q=>by cases q⟩
def Bl{w:J}{s:Sl}{vs:List aa}(q:s.n=vs.length)(k:s.n<=s.c)(d:s.a=none->s.c=0)(h:∀i v,vs[i]? =some v->∃p,s.a=some p/\w.cell? (p.add i)=some v):Rd w s vs:=
 ⟨q,k,λj=>⟨by have:=d j;omega,d j⟩,h⟩
def ArgNums(w:J)(s:Sl):Prop:=∃l:List Int,bq w s l/\l.length<=9223372036854775807/\∀d∈l,-9223372036854775808<=d/\d<=9223372036854775807
def arg_nums_nil(w:J):ArgNums w ⟨none,0,0⟩:=⟨[],Rd.nil w,ws,ws⟩
def arg_nums(w:J)(x:Addr)(len cap:Nat)(d:List Int)(C:len<=d.length)(y:len<=cap)(B:cap<=maxLen)(q:∀i,i<d.length->w.cell? (x.add i)=some (.int .i64 (d.getD i 0)))(A:∀n∈d,IntKind.min .i64<=n/\n<=IntKind.max .i64):ArgNums w ⟨some x,len,cap⟩:=by
 refine⟨d.take len,Bl (by simp;omega) y (λk=>by cases k) (λi v h=>?_),?_,λn z=>A n (List.mem_of_mem_take z)⟩
 .rw [List.getElem?_map,List.getElem?_take]at h;split at h
  .have j:i<d.length:=co
   refine⟨x,rfl,?_⟩;rw[q i j,List.getD_eq_getElem?_getD];rw[a' j]at h ⊢;simpa[aY]using h
  .simp at h
 .have:len<=maxLen:=co
  unfold maxLen at this;simp;omega
def jc(w:J)(bs:List UInt8):aJ:=λr d=>∃s:Sl,r=ae s.v/\e6 d s bs/\af w d/\∀b∈ax s,w.heap.size<=b
def gA(n m:Int):Int:=if n<0 then Int.tmod (0 - (n+1)) m else Int.tmod n m
def ji(n m:Int)(d:1<=m):0<=gA n m/\gA n m<m:=by
 unfold gA;split
 .exact ⟨Int.tmod_nonneg _ co,Int.tmod_lt_of_pos _ co⟩
 .exact ⟨Int.tmod_nonneg _ co,Int.tmod_lt_of_pos _ co⟩
abbrev aX(n:Int):Prop:=-9223372036854775808<=n/\n<=9223372036854775807
def Dn(n m:Int)(w:J)(x:1<=m)(h:aX n):
  aj V u7 #[.int .i64 n,.int .i64 m] w λr j=>r=ae (.int .i64 (gA n m))/\w=j:=by
 obtain⟨k,q⟩:=h;refine KE.ok n m w _ ?_;refine bP (λh=>?_) (λh=>?_)
 .have d:n<0:=by simpa using h
  refine⟨co,?_,rfl⟩;rw[show ah .i64 (n+1)=n+1 from aN _ co,show ah .i64 (0 - (n+1))=0 - (n+1)from aN _ co];unfold gA;rw[av d]
 .have d:¬n<0:=by simpa using h
  refine⟨co,?_,rfl⟩;unfold gA;rw[ag d]
def aeg{w:J}{s t:Sl}{a b:List Int}(z:bq w s a)(A:bq w t b)(H:a.length<=1000000000000):
  aj V NV #[s.v,t.v] w λr h=>r=ae (.bool (au (a=b)))/\af w h:=by
 have j:=bq.len z;have y:=bq.len A;refine uG.ok s t w _ ?_;refine bP (λd=>?_) (λd=>?_)
 .refine ⟨?_,Fr.refl _ _⟩;have:a≠b:=λe=>by subst e;rw[j,y]at d;simp at d
  simp[this]
 .have hlen:a.length=b.length:=by rw[j,y]at d;simp at d;omega
  have main:∀(n i:Nat),i+n=a.length->a.take i=b.take i->∀h,af w h->uG.L0 s t (i:Int) h λr h=>r=ae (.bool (au (a=b)))/\af w h:=by
   intro n;induction n with
   |zero=>
    intro i D q h x;refine uG.bC _ _ _ _ _ ?_;refine aP (by rw[j];simp;omega) ⟨?_,x⟩;rw[List.take_of_length_le co,List.take_of_length_le co]at q;simp[q]
   |succ n G=>
    intro i D q h x;have B:a[i]? =some a[i]:=a' co;have C:b[i]? =some b[i]:=a' co;refine uG.bC _ _ _ _ _ ?_;have k:af w h.drew:=x.dN (Fr.drew _ _);refine aM (by rw[j];simp;omega) ⟨co,by rw[j];omega,bq.cell (z.br k) B ws λp _ E=>⟨_,E,co,by rw[y];omega,bq.cell (A.br k) C ws λI _ F=>⟨_,F,bP (λd=>?_) (λd=>?_)⟩⟩⟩
    .refine ⟨?_,k⟩;have:a≠b:=λe=>by subst e;simp at d
     simp[this]
    .show uG.L0 s t (ah .i64 ((i:Int)+1)) _ _;rw[show ah .i64 ((i:Int)+1)=((i+1:Nat):Int)from by rw[aN _ co];omega];refine G (i+1) co ?_ _ k;have e:a[i]=b[i]:=by simpa using d
     rw[dM,dM,B,C,q,e]
  exact main a.length 0 co ws w (Fr.refl _ _)
def eF(n:Nat):List UInt8:=if n<128 then[c9 n]else c9 (n%128+128)::eF (n / 128)
termination_by n
decreasing_by omega
def mx{n:Nat}(h:n<128):eF n=[c9 n]:=by rw[eF,av h]
def m8{n:Nat}(h:¬n<128):eF n=c9 (n%128+128)::eF (n / 128):=by rw[eF,ag h]
def Zy(n:Nat):eF n≠[]:=by
 by_cases d:n<128
 .rw [mx d];simp
 .rw [m8 d];simp
def KB:∀(d n:Nat),n<2 *128^d->(eF n).length<=d+1
 |0,n,h=>by rw[mx co];simp
 |d+1,n,h=>by
  by_cases j:n<128
  .rw [mx j];simp
  .rw [m8 j];have:=KB d (n / 128) (by rw[Nat.pow_succ]at h;omega);simp;omega
inductive RU where
 |more
 |form
 |ok (n:Nat) (rest:List UInt8)
def jl(k:Nat)(c:UInt8):Bool:=(k==9&&au (1<c.toNat))||(au (0<k)&&c.toNat==0)
def jI:Nat->List UInt8->RU
 |_,[]=>.more
 |d,c::l=>if jl d c then .form else if c.toNat<128 then .ok c.toNat l else
  match jI (d+1) l with
  |.ok n r=>.ok (c.toNat%128+128 *n) r
  |.more=>.more
  |.form=>.form
def Ko:∀(d k n:Nat) (r:List UInt8),k+d=9->n<2 *128^d->(0<k->0<n)->jI k (eF n++r)=.ok n r
 |d,k,n,r,A,q,y=>by
  by_cases h:n<128
  .rw [mx h];have j:jl k (c9 n)=false:=by
    have e:(c9 n).toNat=n:=by simp;omega
    unfold jl;rw[e];simp;refine⟨λw=>?_,λx=>by have:=y x;omega⟩;subst w;have:d=0:=co
    subst this;simp at q;omega
   have e:(c9 n).toNat=n:=by simp;omega
   simp[jI,j,e,h]
  .rw [m8 h];have e:(c9 (n%128+128)).toNat=n%128+128:=by simp;omega
   match d with
   |0=>simp at q;omega
   |d+1=>
    have j:jl k (c9 (n%128+128))=false:=by unfold jl;rw[e];simp;omega
    have z:=Ko d (k+1) (n / 128) r co (by rw[Nat.pow_succ]at q;omega) co;simp only[List.cons_append,jI,j,e,z];rw[ag ws,ag co];congr 1;omega
def Ej:∀(d k:Nat) (bs:List UInt8) (n:Nat) (r:List UInt8),k+d=9->jI k bs=.ok n r->bs=eF n++r/\n<2 *128^d/\(0<k->0<n)
 |_,_,[],_,_,_,h=>by simp[jI]at h
 |d,k,c::l,n,r,L,h=>by
  have K:=c.toNat_lt;simp only[jI]at h;cases y:jl k c with
  |true=>rw[y]at h;simp at h
  |false=>
   rw[y]at h;simp at h;have j:=y;unfold jl at j;simp at j;by_cases w:c.toNat<128
   .rw [av w]at h;injection h with z x
    subst z x;refine⟨by rw[mx w];simp,?_,λF=>by have:=j.2 F;omega⟩
    match d with
    |0=>have:=j.1 co;simp;omega
    |d+1=>rw[Nat.pow_succ];have:=Nat.pow_pos (n:=d) (show 0<128 by omega);omega
   .rw [ag w]at h
    match d with
    |0=>have:=j.1 co;omega
    |d+1=>
     cases q:jI (k+1) l with
     |more=>rw[q]at h;cases h
     |form=>rw[q]at h;cases h
     |ok A G=>
      rw[q]at h;injection h with z x
      obtain⟨B,H,C⟩:=Ej d (k+1) l A G co q;have I:=C co;subst x;refine⟨?_,by rw[Nat.pow_succ];omega,λ_=>co⟩;rw[m8 co];have D:n%128+128=c.toNat:=co
      have E:n / 128=A:=co
      rw[D,E,B];simp
structure RS where
 bs:List UInt8
 err:Int
def g8(s:RS):Nat×RS:=
 if s.err≠0 then(0,s)else
 match jI 0 s.bs with
 |.more=>(0,⟨s.bs,3⟩)
 |.form=>(0,⟨s.bs,2⟩)
 |.ok n r=>(n,⟨r,0⟩)
def zz(n:Int):Nat:=if 0<=n then(2 *n).toNat else(-(2 *n) - 1).toNat
def q'(u:Nat):Int:=if u%2=0 then(u / 2:Nat)else -((u / 2:Nat):Int) - 1
def afS(n:Int):q' (zz n)=n:=by unfold q' zz;split<;>split<;>omega
def Cp(n:Int)(d:-9223372036854775808<=n)(h:n<=9223372036854775807):zz n<18446744073709551616:=by unfold zz;split<;>omega
def VM(u:Nat)(h:u<18446744073709551616):-9223372036854775808<=q' u/\q' u<=9223372036854775807:=by unfold q';split<;>omega
def bT(s:RS):Int×RS:=(q' (g8 s).1,(g8 s).2)
def nq(s:RS):Nat×RS:=
 let (n,s'):=g8 s
 if s'.err≠0 then(0,s')else if s'.bs.length<n then(0,⟨s'.bs,3⟩)else(n,s')
def fZ(s:RS):List UInt8×RS:=
 let (n,s'):=nq s
 if s'.err≠0 then([],s')else(s'.bs.take n,⟨s'.bs.drop n,0⟩)
def gL:Nat->RS->List Int×RS
 |0,s=>([],s)
 |n+1,s=>
  let (x,s'):=bT s
  if s'.err≠0 then([],s')else
  let (l,Hv):=gL n s'
  if Hv.err≠0 then([],Hv)else(x::l,Hv)
def gp(s:RS):List Int×RS:=
 let (n,s'):=nq s
 if s'.err≠0 then([],s')else gL n s'
def sQ(s:RS):Int:=if s.err≠0 then s.err else if 0<s.bs.length then 2 else 0
def cd(n:Int):List UInt8:=eF (zz n)
def ea(b:List UInt8):List UInt8:=eF b.length++b
def dS(l:List Int):List UInt8:=eF l.length++l.flatMap cd
def ek(n:Nat)(h:n<18446744073709551616):(eF n).length<=10:=KB 9 n (by simpa using h)
def da(n:Int)(h:aX n):(cd n).length<=10:=ek _ (Cp n h.1 h.2)
namespace B9
abbrev P0:Ps:=[]
noncomputable abbrev bW:=ak (ay V Tryz.f160 [] [1]) [0,1,1,1,3] P0
noncomputable abbrev t1:=ao bW
noncomputable abbrev cb:=ak t1 [0,1,1,1,4] P0
noncomputable abbrev t2:=ao cb
noncomputable abbrev cX:=ak t2 [5] P0
noncomputable abbrev t3:=ao cX
noncomputable abbrev bD:=ak t3 [3] [(1,.l [.I,.I,.I] cA),(3,.v [.I]),(4,.v [.I]),(5,.v [.b])]
noncomputable abbrev t4:=ao bD
def aD:=az t4 QN [.a 3,.I,.I,.I]
end B9
namespace oK
abbrev P0:Ps:=[]
noncomputable abbrev S0:=ak (ay V Tryz.f159 [] []) [0,1,1,1,1] P0
noncomputable abbrev t1:=ao S0
abbrev P1:Ps:=[(0,.v [.st]),(3,.v [.I])]
noncomputable def L1:=bg t1 [0,1,1,1,2] P1
noncomputable abbrev t2:=bf L1
noncomputable abbrev S4:=ak t2 [0,1,3,2,1,2,1,1,2] P0
noncomputable abbrev t3:=ao S4
noncomputable abbrev S5:=ak t3 [2,2,1,1,2] P1
noncomputable abbrev t4:=ao S5
noncomputable abbrev S3:=ak t4 [2,2,1,2,1,1,2] [(0,.v [.st]),(3,.v [.I]),(4,.v [.Y]),(5,.v [.b])]
noncomputable abbrev t5:=ao S3
noncomputable abbrev S2:=ak t5 [1,2,1,2,1,1,2] [(0,.v [.st]),(3,.v [.I]),(4,.v [.Y])]
noncomputable abbrev t6:=ao S2
def fH:=bj t6 L1
def ok:=az t6 QB [.st]
end oK
namespace yN
noncomputable abbrev S1:=ak (ay V Tryz.f127 [] []) [3] [(0,.v [.r]),(3,.v [.b]),(4,.v [.b]),(5,.v [.b]),(6,.v [.b])]
noncomputable abbrev t1:=ao S1
noncomputable abbrev S0:=ak t1 [0,1,1,1,1,1,2] [(0,.v [.r]),(3,.v [.b]),(4,.v [.b]),(5,.v [.b])]
noncomputable abbrev t2:=ao S0
noncomputable abbrev S3:=ak t2 [0,1,7,1,1,1,2] [(0,.v [.r]),(4,.v [.b]),(5,.v [.b]),(6,.v [.b])]
noncomputable abbrev t3:=ao S3
noncomputable abbrev S2:=ak t3 [2,1,1,1,2] [(0,.v [.r]),(3,.v [.b]),(4,.v [.b]),(5,.v [.b]),(6,.v [.b]),(10,.v [.I])]
noncomputable abbrev t4:=ao S2
def ok:=az t4 Qy [.r]
end yN
namespace Vm
def aD:=az (ay V Tryz.f165 [] [2]) Qx [.I]
end Vm
namespace Vu
def aD:=az (ay V Tryz.f161 [] [2]) QL [.I]
end Vu
namespace Vo
def aD:=az (ay V Tryz.f164 [] [1]) QA [.a 3,.I,.I,.I]
end Vo
namespace Vq
def aD:=az (ay V Tryz.f167 [] [1]) QC [.a 3,.I,.I,.I]
end Vq
namespace Vn
def aD:=az (ay V Tryz.f162 [] [1]) Qz [.a 3,.I,.I,.I]
end Vn
namespace Vi
def aD:=az (ay V Tryz.f166 [] [2,3]) Qt [.a 3,.I,.I,.I,.a 3,.I,.I,.I]
end Vi
namespace Vs
def aD:=az (ay V Tryz.f163 [] [3,6]) AQ [.a 3,.I,.I,.I,.b,.b]
end Vs
namespace H8
noncomputable abbrev S0:=ak (ay V Tryz.f128 [(7,lr 9)] []) [4] [(0,.v [.r]),(4,.v [.r])]
noncomputable abbrev t1:=ao S0
def ok:=az t1 QK [.r,.f]
end H8
namespace H7
noncomputable abbrev bD:=ak (ay V Tryz.f129 [(14,lr 19)] [2]) [6] [(0,.v [.r]),(2,.l [.I,.I,.I] cA)]
noncomputable abbrev t1:=ao bD
def aD:=az t1 QI [.r]
end H7
namespace H6
noncomputable abbrev bD:=ak (ay V Tryz.f130 [(4,lr 8),(7,ls [1,0,2,3,4,5,6,7,8,9,10,11,12]),(9,ls [1,2,0,3,4,5,6,7,8]),(14,lr 14),(16,ls [0,1,2,3,4,6,12,13,14,15,16,17,5,7,8,9,10,11,18,19,20,21,22]),(18,ls [0,1,2,3,4,5,6,7,8,9,11,13,14,15,16,17,10,12,18,19,20,21,22,23,24,25,26,27,28,29,30,31,32,33,34,35,36,37,38,39,40,41,42]),(21,ls [0,1,2,3,4,5,6,8,10,11,12,13,14,7,9,15,16,17,18,19,20,21,22,23,24,25,26,27,28,29]),(22,lr 13)] [5,6,7,8,10]) [0,1,1,1,1,1,1] [(5,.l [.I,.I,.I] cA),(8,.l [.I,.I,.I] cA)]
noncomputable abbrev t1:=ao bD
abbrev P0:Ps:=[(5,.l [.I,.I,.I] cA),(6,.l [.I,.I,.I] cA),(8,.l [.I,.I,.I] cA)]
noncomputable abbrev cb:=ak t1 [0,1,3,1,1,1,1] P0
noncomputable abbrev t2:=ao cb
noncomputable abbrev fU:=ak t2 [2,1,7,1,1,1,1] [(5,.l [.I,.I,.I] cA),(6,.l [.I,.I,.I] cA),(7,.l [.I,.I,.I] cA),(8,.l [.I,.I,.I] cA),(10,.l [.I,.I,.I] cA)]
noncomputable abbrev t3:=ao fU
noncomputable abbrev jF:=ak t3 [0,1,13,1,1,1,1] [(0,.v [.r]),(5,.l [.I,.I,.I] cA),(8,.l [.I,.I,.I] cA)]
noncomputable abbrev t4:=ao jF
noncomputable abbrev hW:=ak t4 [2] P0
noncomputable abbrev t5:=ao hW
abbrev P1:Ps:=[(0,.v [.r]),(5,.l [.I,.I,.I] cA),(6,.l [.I,.I,.I] cA),(7,.l [.I,.I,.I] cA),(8,.l [.I,.I,.I] cA),(14,.v [.I])]
noncomputable abbrev cX:=ak t5 [4,1,1,1,1] P1
noncomputable abbrev t6:=ao cX
noncomputable abbrev bW:=ak t6 [2,1,1,1,1] P1
noncomputable abbrev t7:=ao bW
def aD:=az t7 QH [.r,.a 3,.I,.I,.I,.a 3,.I,.I,.I,.a 3,.I,.I,.I]
end H6
namespace BW
noncomputable abbrev bW:=ak (ay V Tryz.f131 [(2,ls [0,1,3,2,4,5,6,7,8,9,10,11,12,13,14]),(6,lr 10),(10,lr 18),(11,lr 12)] [5,6,7,8,10]) [5] [(0,.v [.r]),(5,.l [.I,.I,.I] cA),(7,.l [.I,.I,.I] cA),(8,.l [.I,.I,.I] cA),(10,.l [.I,.I,.I] cA),(11,.v [.b])]
noncomputable abbrev t1:=ao bW
noncomputable abbrev bD:=ak t1 [4] [(0,.v [.r]),(5,.l [.I,.I,.I] cA),(6,.l [.I,.I,.I] cA),(7,.l [.I,.I,.I] cA),(8,.l [.I,.I,.I] cA),(10,.l [.I,.I,.I] cA)]
noncomputable abbrev t2:=ao bD
def aD:=az t2 QG [.r,.a 3,.I,.I,.I,.a 3,.I,.I,.I,.a 3,.I,.I,.I]
end BW
namespace Vt
def aD:=az (ay V Tryz.f132 [(3,ls [1,0,2,3,4,5,6,7]),(5,ls [1,3,4,5,6,7,0,2,8,9,10,11,12,13,14,15,16,17,18,19]),(7,ls [0,1,2,3,4,6,12,13,14,15,16,17,5,7,8,9,10,11,18,19,20,21,22]),(9,lr 18),(11,ls [1,0,2,3,4,5,6,7,8,9,10,11]),(13,ls [0,1,2,3,4,6,16,17,18,19,20,21,5,7,8,9,10,11,12,13,14,15,22,23,24,25,26]),(15,ls [1,0,2,3,4,5,6,7,8])] [5,6,7,8]) QJ [.r,.a 3,.I,.I,.I,.a 3,.I,.I,.I,.a 3,.I,.I,.I]
end Vt
namespace q3
abbrev P0:Ps:=[(6,.l [.I,.I,.I] cA)]
noncomputable abbrev bD:=ak (ay V Tryz.f103 [(1,lr 18)] [6,11]) [0,1,1,1,1] P0
noncomputable abbrev t1:=ao bD
noncomputable def cv:=bg t1 [0,1,1,1,3] [(0,.v [.s]),(2,.v [.f]),(4,.v [.r]),(6,.l [.I,.I,.I] cA),(8,.v [.r]),(34,.v [.I]),(35,.v [.I])]
noncomputable abbrev t2:=bf cv
noncomputable abbrev cb:=ak t2 [0,1,1,1,2,2,2,2,1,1,3] P0
noncomputable abbrev t3:=ao cb
noncomputable abbrev cX:=ak t3 [8] [(6,.l [.I,.I,.I] cA),(11,.l [.I,.I,.I] cA),(12,.v [.I])]
noncomputable abbrev t4:=ao cX
def dO:=bj t4 cv
def aD:=az t4 QF [.s,.a 9,.I,.s,.I,.I,.U,.st,.I,.I,.I,.f]
end q3
namespace Uc
def ok:=az (ay V Tryz.f78 [] []) PO [.s]
end Uc
namespace v8
noncomputable def L0:=bg (ay V Tryz.f75 [] []) [0,2] [(0,.v [.r]),(1,.v [.U])]
noncomputable abbrev t1:=bf L0
def bC:=bj t1 L0
def ok:=az t1 QW [.r,.U]
end v8
namespace V4
def ok:=az (ay V Tryz.f48 [] []) QU [.r,.I]
end V4
namespace rh
noncomputable def L0:=bg (ay V Tryz.f76 [] []) [0,1,2] [(0,.v [.r]),(11,.v [.s]),(12,.v [.I]),(13,.v [.I])]
noncomputable abbrev t1:=bf L0
def bC:=bj t1 L0
def ok:=az t1 Gr [.r,.s]
end rh
namespace V5
def ok:=az (ay V Tryz.f77 [] []) QV [.r,.st]
end V5
namespace V3
def ok:=az (ay V Tryz.f50 [] []) QT [.r]
end V3
namespace Vv
def ok:=az (ay V Tryz.f49 [] []) QM [.r,.r]
end Vv
namespace Vr
def ok:=az (ay V Tryz.f105 [] []) QD [.r]
end Vr
namespace Vl
def aD:=az (ay V Tryz.f104 [] [3,5]) Gp [.st,.r]
end Vl
namespace Vk
def aD:=az (ay V Tryz.f72 [(1,lr 11)] [3,4]) Qw [.r,.a 9,.I,.s,.I,.I,.U,.st,.I,.I,.I]
end Vk
namespace Vj
def ok:=az (ay V Tryz.f73 [(1,lr 11)] []) Qu [.r,.a 9,.I,.s,.I,.I,.U,.st,.I,.I,.I]
end Vj
namespace BV
noncomputable abbrev S0:=ak (ay V Tryz.f74 [(1,ls [0,1,2,3,5,6,7,8,9,4,10]),(3,lr 9),(4,lr 11)] []) [3] [(0,.v [.r]),(3,.v [.r])]
noncomputable abbrev t1:=ao S0
def ok:=az t1 Qv [.r,.a 9,.I,.s,.I,.I,.U,.st,.I,.I,.I]
end BV
namespace yO
noncomputable def a8:=bg (ay V Tryz.f71 [] [1,5]) [0,1,1,1,2] [(3,.v [.r]),(11,.v [.s]),(12,.v [.I]),(13,.v [.I])]
noncomputable abbrev t1:=bf a8
def bJ:=bj t1 a8
def aD:=az t1 QE [.a 1,.s]
end yO
namespace yM
noncomputable def a8:=bg (ay V Tryz.f47 [] [1,5,6]) [0,1,1,1,3] [(3,.v [.p]),(17,.v [.s]),(18,.v [.I]),(19,.v [.I])]
noncomputable abbrev t1:=bf a8
def bJ:=bj t1 a8
def aD:=az t1 Qs [.a 1,.s]
end yM
namespace yL
noncomputable def a8:=bg (ay V Tryz.f24 [] [1]) [0,1,1,1,4] [(1,.l [.s] B3),(5,.v [.r]),(18,.v [.I]),(19,.v [.I])]
noncomputable abbrev t1:=bf a8
def bJ:=bj t1 a8
def aD:=az t1 Qr [.a 1,.s]
end yL
def hd(w:J)(d:Nat)(bs:List UInt8)(own:List Nat):Prop:=
 ∃s:Sl,own=d::ax s/\w.heap[d]? =some (.cells #[s.v] ti (0,0))/\e6 w s bs
def A6{w:J}{e T:aC}{s:Sl}{vs:List aa}(h:Ow w e s vs){b:Nat}{cs:Array aa}{f:Nat×Nat}(d:w.heap[b]? =some (.cells cs T f))(j:e≠T):b∉ax s:=λq=>by
 obtain⟨y,z,k⟩:=h.2.row.v3 b q;rw[k]at d;injection d with d
 injection d with _ x _
 exact j x
def hd.lt{w:J}{q:Nat}{bs:List UInt8}{own:List Nat}(h:hd w q bs own):∀b∈own,b<w.heap.size:=by
 obtain⟨s,rfl,j,k⟩:=h;intro b d;rcases aq.1 d with rfl|d
 .exact lt_of_heap j
 .exact k.lt b d
def hd.new(w:J):hd (w.alloc (.cells #[.slice none 0 0] ti)) w.heap.size [] [w.heap.size]:=⟨⟨none,0,0⟩,rfl,kU w _,Ow.nil _ _⟩
def jf(w:J)(j:Nat)(own:List Nat)(bs:List UInt8)(Y:J):Prop:=∃d,hd Y j bs d/\Fr (·∈own) w Y/\∀h∈d,h∈own\/w.heap.size<=h
def qb(w:J)(h:Nat)(own:List Nat)(bs:List UInt8):aJ:=λr d=>r=ae (.tuple #[])/\jf w h own bs d
def jf.refl{w:J}{d:Nat}{own:List Nat}{bs:List UInt8}(h:hd w d bs own):jf w d own bs w:=⟨own,h,Fr.refl _ _,λ_ h=>.inl h⟩
def jf.then{w Y z:J}{A:Nat}{own y:List Nat}{j:List UInt8}(k:Fr (·∈own) w Y)(q:∀d∈y,d∈own\/w.heap.size<=d)(h:jf Y A y j z):jf w A own j z:=by
 obtain⟨C,r,f,o⟩:=h;refine⟨C,r,k.trans f λd x B=>?_,λd x=>?_⟩
 .rcases q d B with h|h
  .exact h
  .omega
 .rcases o d x with h|h
  .exact q d h
  .exact .inr (Nat.le_trans k.size h)
def Wb{w y h:J}{d:Nat}{s s':Sl}{bs A:List UInt8}(D:w.heap[d]? =some (.cells #[s.v] ti (0,0)))(G:e6 w s bs)(q:af w y)(E:e6 h s' A)(B:Fr (·∈ax s) y h)(I:∀b∈ax s',b∈ax s\/y.heap.size<=b):
  (h.cell? ((ab d).add 0)).isSome=true/\h.frozen? ((ab d).add 0)=false/\jf w d (d::ax s) A (h.setCell ((ab d).add 0) s'.v):=by
 have K:d∉ax s:=A6 G D md;have k:=B.at (q.at D id) K;have F:(h.setCell ((ab d).add 0) s'.v).heap[d]? =_:=setAt (p:=ab d) (i:=0) (v:=s'.v) k rfl;have C:Fr (·=d) h (h.setCell ((ab d).add 0) s'.v):=Fr.set _ _ _ rfl
 have L:d∉ax s':=A6 E k md;refine⟨by rw[cellAt (p:=ab d) k rfl rfl];rfl,frozenAt (p:=ab d) k,d::ax s',⟨s',rfl,F,E.fr C λb H e=>L (e▸H)⟩,?_,?_⟩
 .exact ((q.po (M:=(·∈d::ax s))).trans B λz _ j=>by simp[j]).trans C λz _ j=>by simp[j]
 .intro z j;rcases aq.1 j with rfl|j
  .exact .inl ws
  .rcases I z j with x|x
   .exact .inl (by simp[x])
   .exact .inr (Nat.le_trans q.size x)
def Cm{w:J}{d:Nat}{s:Sl}(h:w.heap[d]? =some (.cells #[s.v] ti (0,0))):w.cell? ((ab d).add 0)=some s.v:=cellAt (p:=ab d) h rfl rfl
def VW{w:J}{h:Nat}{s:Sl}{bs:List UInt8}(F:w.heap[h]? =some (.cells #[s.v] ti (0,0)))(k:e6 w s bs)(I:bs.length<100000000000000)(c:UInt8)(K:J->Prop)(E:∀q,jf w h (h::ax s) (bs++[c]) q->K q):
  ∃(t15:W.Sl) (d:J),Sem.run V (eu #[dx,dx] dx #[s.v,.slice (some (Addr.mk w.heap.size 0 none)) 1 1]) (w.alloc (.cells #[.int .u8 (c.toNat:Int)] cJ))=.ok (t15.v) d/\(d.cell? ((ab h).add 0)).isSome=true/\d.frozen? ((ab h).add 0)=false/\K (d.setCell ((ab h).add 0) (t15.v)):=by have j:af w (w.alloc (.cells #[.int .u8 (c.toNat:Int)] cJ)):=Fr.alloc _ _ _;obtain⟨G,d,A,B,C,D,H⟩:=zs (ty:=dx) (k.br j) (GF w c) (by simp;omega);obtain⟨x,y,z⟩:=Wb F k j B C D;exact⟨G,d,A,x,y,E _ z⟩
def af3{k:Nat}(R:aJ):∀(n:Nat) (w:J) (bs:List UInt8) (own:List Nat),n<18446744073709551616->bs.length+(eF n).length<=100000000000000->hd w k bs own->(∀d,jf w k own (bs++eF n) d->R (ae (.tuple #[])) d)->
  v8.L0 (ab k) (n:Int) w R:=by
 intro n;induction n using Nat.strongRecOn with
 |_ n F=>
  intro w bs own L h D A;obtain⟨s,rfl,q,z⟩:=D;refine v8.bC _ _ _ _ ?_;refine bP (λx=>?_) (λx=>?_)
  .have j:¬n<128:=by simp at x;omega
   rw[m8 j]at h;have e:ah .u8 (n:Int)=_:=Ii n;refine⟨s,Cm q,?_⟩;rw[e,Xh _ co];have B:((n%256%128+128:Nat):Int)=((c9 (n%128+128)).toNat:Int):=by simp;omega
   rw[B];refine VW q z (by simp at h;omega) (c9 (n%128+128)) (λd=>v8.L0 (ab k) (Int.fdiv (n:Int) (2^7)) d R) λd y=>?_;show v8.L0 (ab k) (Int.fdiv (n:Int) (2^7)) d R;rw[show((2:Int)^7)=((128:Nat):Int)from rfl,z9 n 128 co];obtain⟨H,I,C,G⟩:=y;refine F (n / 128) co d _ H co (by simp at h ⊢;omega) I λK E=>A K ?_;rw[m8 j,show bs++c9 (n%128+128)::eF (n / 128)=(bs++[c9 (n%128+128)])++eF (n / 128)by simp];exact E.then C G
  .have j:n<128:=by simp at x;omega
   rw[mx j]at h;have e:ah .u8 (n:Int)=((c9 n).toNat:Int):=by rw[Ii];simp
   refine⟨s,Cm q,?_⟩;rw[e];refine VW q z (by simp at h;omega) (c9 n) (λd=>R (ae (.tuple #[])) d) λd y=>A d ?_;rw[mx j];exact y
def yZ{w:J}{d:Nat}{bs:List UInt8}{own:List Nat}(k:hd w d bs own)(n:Nat)(h:n<18446744073709551616)(q:bs.length<=10000000000000):
  aj V QW #[.pointer (some (ab d)),.int .u64 (n:Int)] w (qb w d own (bs++eF n)):=
 v8.ok _ _ w _ (af3 _ n w bs own h (by have:=ek n h;omega) k λx j=>⟨rfl,j⟩)
def agi(n:Int)(h:aX n):W.nY .u64 (ah .u64 ((ah .u64 n) *2^1)) (ah .u64 (Int.fdiv n (2^63)))=(zz n:Int):=by
 obtain⟨w,x⟩:=h;have q:((2:Int)^63)=9223372036854775808:=rfl;rw[q,Int.fdiv_eq_ediv_of_nonneg _ co,IntKind.wrap_u64,IntKind.wrap_u64,IntKind.wrap_u64];by_cases k:0<=n
 .have d:(n / 9223372036854775808)%18446744073709551616=((0:Nat):Int):=co
  have j:(n%18446744073709551616 *2^1)%18446744073709551616=((2 *n).toNat:Int):=co
  rw[d,j,I7 _ _ co co,Nat.xor_zero];unfold zz;rw[av k]
 .have d:(n / 9223372036854775808)%18446744073709551616=((18446744073709551615:Nat):Int):=co
  have j:(n%18446744073709551616 *2^1)%18446744073709551616=((18446744073709551616+2 *n).toNat:Int):=co
  rw[d,j,I7 _ _ co co,agd _ co];unfold zz;rw[ag k];omega
def ra{w:J}{h:Nat}{bs:List UInt8}{own:List Nat}(q:hd w h bs own)(n:Int)(d:aX n)(k:bs.length<=10000000000000):
  aj V QU #[.pointer (some (ab h)),.int .i64 n] w (qb w h own (bs++cd n)):=by refine V4.ok _ _ w _ ?_;rw[agi n d];refine(yZ q (zz n) (Cp n d.1 d.2) k).mono ?_;rintro r x ⟨rfl,j⟩;exact⟨rfl,rfl,j⟩
def af2{w:J}{d:Nat}{bs:List UInt8}{own:List Nat}(D:hd w d bs own)(t:ByteArray)(L:bs.length+t.size<=10000000000000):
  aj V QV #[.pointer (some (ab d)),.string t] w (qb w d own (bs++ea (bl t))):=by refine V5.ok _ _ w _ ?_;rw[v5 _ co];refine(yZ D t.size co co).mono ?_;rintro r I ⟨rfl,N,F,y,E⟩;have M:=ek t.size co;obtain⟨H,rfl,k,j⟩:=F;obtain⟨G,K,z,A,B,C⟩:=I2 (ty:=dx) j t (by simp;omega);obtain⟨q,x,h⟩:=Wb k j (Fr.refl _ I) A B C;rw[cN]at h;exact⟨rfl,H,Cm k,G,K,z,q,x,rfl,h.then y E⟩
def km:∀(l:List Int),(∀d∈l,aX d)->(l.flatMap cd).length<=10 *l.length
 |[],_=>ws
 |d::l,h=>by have w:=da d (h d ws);have j:=km l λq k=>h q (by simp[k]);simp at j ⊢;omega
def af1{q:Nat}{s:Sl}{l:List Int}(R:aJ)(hi:∀h∈l,aX h)(T:l.length<=100000000000):∀(d i:Nat),i+d=l.length->∀(w:J) (bs:List UInt8) (own:List Nat),hd w q bs own->bq w s l->(∀h∈ax s,h∉own)->(∀h∈ax s,h<w.heap.size)->bs.length+10 *d<=10000000000000->
  (∀F,jf w q own (bs++(l.drop i).flatMap cd) F->R (ae (.tuple #[])) F)->rh.L0 (ab q) s (l.length:Int) (i:Int) w R:=by
 intro d;induction d with
 |zero=>
  intro i K w bs own A j B z I y;refine rh.bC _ _ _ _ _ _ ?_;refine aP (by simp;omega) (y w ?_);rw[du co];simpa using jf.refl A
 |succ d O=>
  intro i K w bs own A j B z I y;have L:l[i]? =some l[i]:=a' co;have D:l[i]∈l:=List.getElem_mem _;refine rh.bC _ _ _ _ _ _ ?_;refine aM (by simp;omega) ⟨co,by rw[bq.len j];omega,bq.cell j L ws λp _ N=>⟨_,N,(ra A _ (hi _ D) co).mono ?_⟩⟩;rintro r G ⟨rfl,P,Q,x,E⟩;refine⟨rfl,?_⟩;show rh.L0 (ab q) s (l.length:Int) (ah .i64 ((i:Int)+1)) G R;rw[bb i co];have U:=da _ (hi _ D);refine O (i+1) co G _ P Q (j.fr x B) (λh k M=>?_) (λh k=>mT (z h k) x.size) (by simp;omega) λS H=>y S ?_
  .rcases E h M with C|C
   .exact B h k C
   .have:=z h k;omega
  .rw [dw co,List.flatMap_cons,<-cN];exact H.then x E
def afZ{w:J}{k:Nat}{bs:List UInt8}{own:List Nat}(D:hd w k bs own){s:Sl}{l:List Int}(y:bq w s l)(z:∀d∈ax s,d∉own)(A:∀d∈ax s,d<w.heap.size)(hi:∀d∈l,aX d)(H:bs.length+10 *l.length<=1000000000000):
  aj V Gr #[.pointer (some (ab k)),s.v] w (qb w k own (bs++dS l)):=by
 refine rh.ok _ _ w _ ?_;rw[bq.len y,v5 _ co];refine(yZ D l.length co co).mono ?_;rintro r G ⟨rfl,E,F,j,B⟩;have I:=ek l.length co;refine⟨rfl,?_⟩;try dsimp only
 refine af1 _ hi co l.length 0 co G _ E F (y.fr j z) (λd h C=>?_) (λd h=>mT (A d h) j.size) (by simp;omega) λK x=>⟨rfl,?_⟩
 .rcases B d C with q|q
  .exact z d h q
  .have:=A d h;omega
 .rw [List.drop_zero,cN]at x;exact x.then j B
def J2(s:Sl)(bs:List UInt8)(w:J)(k:Bytes w s bs)(K:bs.length<=140737488355328):aj V PO #[s.v] w (λr y=>∃s:Sl,r=ae s.v/\e6 y s bs/\af w y/\∀b∈ax s,w.heap.size<=b):=by
 refine Uc.ok s w _ ?_;refine bP (λh=>?_) (λh=>?_)
 .have E:bs=[]:=by have:=(k.2.2.1 (by simpa using h)).1;exact G3 (by rw[<-Bytes.len k,this])
  subst E;exact⟨⟨none,0,0⟩,rfl,Ow.nil w _,Fr.refl _ _,by simp[ax]⟩
 .show (λd:J=>∃(x:Sl) (j:J),Sem.run V (eu #[dx,dx] dx #[.slice (some (nb w)) 0 0,s.v]) d=.ok (x.v) j/\(∃s:Sl,Ending.returned x.v=ae s.v/\e6 j s bs/\af w j/\∀b∈ax s,w.heap.size<=b)) (w.alloc (.cells #[] cJ));generalize I:w.alloc (.cells #[] cJ)=d;subst I
  let d:=w.alloc (.cells #[] cJ)
  have F:e6 d ⟨some ⟨w.heap.size,0,none⟩,0,0⟩ []:=Ow.made w cJ [] 0 rfl co;have A:Bytes d s bs:=k.br (Fr.alloc _ _ _);obtain⟨q,j,H,G,C,B,_⟩:=zs (ty:=dx) F A (by simp;omega);refine⟨q,j,H,q,rfl,by simpa using G,?_,?_⟩
  .refine (Fr.alloc (λ_=>False) w _).trans C λM L D=>?_;simp[ax]at D;omega
  .intro b z;rcases B b z with h|h
   .simp [ax]at h;omega
   .have:d.heap.size=w.heap.size+1:=size_alloc _ _;omega
def VV{w:J}{h:Nat}{bs:List UInt8}{own:List Nat}(x:hd w h bs own)(y:bs.length<=100000000000000):
  aj V QT #[.pointer (some (ab h))] w (jc w bs):=by obtain⟨s,rfl,k,q⟩:=x;refine V3.ok _ w _ ⟨s,Cm k,(J2 s bs w q.rd co).mono ?_⟩;rintro r z ⟨d,rfl,j⟩;exact⟨d,rfl,d,rfl,j⟩
namespace VX
def ok:=az (ay V Tryz.f94 [] []) QO [.s]
end VX
namespace rf
noncomputable def L0:=bg (ay V Tryz.f97 [(6,lr 12),(9,lr 13)] []) [0,1,4] [(0,.v [.r]),(3,.v [.U]),(4,.v [.I])]
noncomputable abbrev t1:=bf L0
noncomputable abbrev S1:=ak t1 [0,1,1,1,2,4,4] [(0,.v [.r])]
noncomputable abbrev t2:=ao S1
abbrev P0:Ps:=[(0,.v [.r]),(3,.v [.U]),(4,.v [.I]),(5,.v [.Y])]
noncomputable abbrev S3:=ak t2 [4,4,4] P0
noncomputable abbrev t3:=ao S3
noncomputable abbrev S2:=ak t3 [3,4,4] P0
noncomputable abbrev t4:=ao S2
def bC:=bj t4 L0
def ok:=az t4 QS [.r]
end rf
namespace VZ
def ok:=az (ay V Tryz.f95 [] []) x6 [.r]
end VZ
namespace VY
def ok:=az (ay V Tryz.f99 [(3,lr 10)] []) QP [.r]
end VY
namespace V2
def ok:=az (ay V Tryz.f123 [(1,lr 11)] []) x7 [.r]
end V2
namespace v9
noncomputable def L0:=bg (ay V Tryz.f122 [(4,lr 13)] []) [0,1,1,1,5] [(0,.v [.r]),(1,.v [.g x7 1 0,.r]),(6,.v [.s]),(33,.v [.U]),(34,.v [.U])]
noncomputable abbrev t1:=bf L0
def bC:=bj t1 L0
def ok:=az t1 QX [.r,.g x7 1 0,.r]
end v9
namespace v'
noncomputable def L0:=bg (ay V Tryz.f121 [(4,lr 13)] []) [0,1,1,1,5] [(0,.v [.r]),(1,.v [.g x6 1 0,.r]),(6,.v [.s]),(33,.v [.U]),(34,.v [.U])]
noncomputable abbrev t1:=bf L0
def bC:=bj t1 L0
def ok:=az t1 QY [.r,.g x6 1 0,.r]
end v'
namespace V0
def ok:=az (ay V Tryz.f96 [] []) QQ [.r]
end V0
namespace V1
def ok:=az (ay V Tryz.f98 [] []) QR [.r]
end V1
def ei(w:J)(rb:Nat)(st:RS)(fp:List Nat):Prop:=
 ∃(s:Sl) (all:List UInt8) (k:Nat),fp=rb::ax s/\w.heap[rb]? =some (.cells #[s.v,.int .i64 (k:Int),.int .i64 st.err] q9 (0,0))/\e6 w s all/\k<=all.length/\all.drop k=st.bs/\all.length<=1000000000000
def ei.lt{w:J}{rb:Nat}{st:RS}{fp:List Nat}(h:ei w rb st fp):∀b∈fp,b<w.heap.size:=by
 obtain⟨s,all,q,rfl,j,k,_⟩:=h;intro b d;rcases aq.1 d with rfl|d
 .exact lt_of_heap j
 .exact k.lt b d
def ei.fr{M:Nat->Prop}{w Y:J}{rb:Nat}{st:RS}{fp:List Nat}(h:ei w rb st fp)(d:Fr M w Y)(j:∀b∈fp,¬M b):ei Y rb st fp:=by obtain⟨s,all,z,rfl,k,q,x⟩:=h;exact⟨s,all,z,rfl,d.at k (j _ ws),q.fr d λb y=>j b (by simp[y]),x⟩
def ei.br{w Y:J}{rb:Nat}{st:RS}{fp:List Nat}(h:ei w rb st fp)(d:af w Y):ei Y rb st fp:=h.fr d λ_ _ h=>h
def ei.mem{w:J}{rb:Nat}{st:RS}{fp:List Nat}(h:ei w rb st fp):rb∈fp:=by obtain⟨s,all,d,rfl,_⟩:=h;simp
def ei.small{w:J}{rb:Nat}{st:RS}{fp:List Nat}(h:ei w rb st fp):st.bs.length<=1000000000000:=by obtain⟨s,all,k,rfl,_,_,_,d,j⟩:=h;rw[<-d];simp;omega
def wD(w:J)(rb:Nat)(fp:List Nat)(v:aa)(st:RS):aJ:=λr d=>r=ae v/\ei d rb st fp/\Fr (·=rb) w d
def Bk{w:J}{rb:Nat}{s:Sl}{k:Nat}{e:Int}{all:List UInt8}(h:w.heap[rb]? =some (.cells #[s.v,.int .i64 (k:Int),.int .i64 e] q9 (0,0)))(j:e6 w s all)(q:k<=all.length)(x:all.length<=1000000000000)(d:Int):
  (w.cell? ((ab rb).add 2)).isSome=true/\w.frozen? ((ab rb).add 2)=false/\ei (w.setCell ((ab rb).add 2) (.int .i64 d)) rb ⟨all.drop k,d⟩ (rb::ax s)/\Fr (·=rb) w (w.setCell ((ab rb).add 2) (.int .i64 d)):=by
 have z:rb∉ax s:=A6 j h md;have f:Fr (·=rb) w (w.setCell ((ab rb).add 2) (.int .i64 d)):=Fr.set _ _ _ rfl
 exact⟨by rw[cellAt (p:=ab rb) h rfl rfl];rfl,frozenAt (p:=ab rb) h,⟨s,all,k,rfl,setAt (p:=ab rb) (i:=2) h rfl,j.fr f λb y e=>z (e▸y),q,rfl,x⟩,f⟩
def SJ{w:J}{rb:Nat}{s:Sl}{k:Nat}{e:Int}{all:List UInt8}(h:w.heap[rb]? =some (.cells #[s.v,.int .i64 (k:Int),.int .i64 e] q9 (0,0)))(j:e6 w s all)(y:all.length<=1000000000000)(d:Nat)(q:d<=all.length)(x:Int)(B:x=d):
  (w.cell? ((ab rb).add 1)).isSome=true/\w.frozen? ((ab rb).add 1)=false/\ei (w.setCell ((ab rb).add 1) (.int .i64 x)) rb ⟨all.drop d,e⟩ (rb::ax s)/\Fr (·=rb) w (w.setCell ((ab rb).add 1) (.int .i64 x)):=by
 subst B;have A:rb∉ax s:=A6 j h md;have f:Fr (·=rb) w (w.setCell ((ab rb).add 1) (.int .i64 (d:Int))):=Fr.set _ _ _ rfl
 exact⟨by rw[cellAt (p:=ab rb) h rfl rfl];rfl,frozenAt (p:=ab rb) h,⟨s,all,d,rfl,setAt (p:=ab rb) (i:=1) h rfl,j.fr f λb z e=>A (e▸z),q,rfl,y⟩,f⟩
def vz{w:J}{rb:Nat}{s:Sl}{x y:aa}(h:w.heap[rb]? =some (.cells #[s.v,x,y] q9 (0,0))):w.cell? ((ab rb).add 0)=some s.v:=cellAt (p:=ab rb) h rfl rfl
def qO{w:J}{rb:Nat}{s:Sl}{x y:aa}(h:w.heap[rb]? =some (.cells #[s.v,x,y] q9 (0,0))):w.cell? ((ab rb).add 1)=some x:=cellAt (p:=ab rb) h rfl rfl
def yj{w:J}{rb:Nat}{s:Sl}{x y:aa}(h:w.heap[rb]? =some (.cells #[s.v,x,y] q9 (0,0))):w.cell? ((ab rb).add 2)=some y:=cellAt (p:=ab rb) h rfl rfl
def af5(acc k c:Nat)(D:k<=9)(A:acc<128^k)(C:c<128)(z:k=9->c<=1):
  ¬(ah .i64 (7 *(k:Int)))<0/\W.nX .u64 (acc:Int) (ah .u64 ((ah .u64 (c:Int)) *2^(min (Int.toNat (ah .i64 (7 *(k:Int)))) (IntKind.bits .u64))))=((acc+128^k *c:Nat):Int):=by
 have q:ah .i64 (7 *(k:Int))=((7 *k:Nat):Int):=by rw[aN _ co];omega
 rw[q];refine⟨co,?_⟩;have w:min (Int.toNat ((7 *k:Nat):Int)) (IntKind.bits .u64)=7 *k:=by rw[bo];show min (7 *k) 64=7 *k;omega
 rw[w,v5 c co];have x:(c:Int) *2^(7 *k)=((c *2^(7 *k):Nat):Int):=by rw[Int.natCast_mul,Int.natCast_pow];rfl
 have j:(2:Nat)^(7 *k)=128^k:=by rw[Nat.pow_mul]
 have h:c *2^(7 *k)<18446744073709551616:=by
  by_cases y:k=9
  .subst y;have:=z rfl;have:c *2^(7 *9)<=1 *2^(7 *9):=Nat.mul_le_mul_right _ this;omega
  .have d:(2:Nat)^(7 *k)<=2^56:=Nat.pow_le_pow_right co co;have:c *2^(7 *k)<=127 *2^56:=Nat.mul_le_mul co d;omega
 have B:acc<18446744073709551616:=by have d:(128:Nat)^k<=128^9:=Nat.pow_le_pow_right co co;omega
 rw[x,v5 _ h,Xg _ _ B h,acN acc c (7 *k) (by rw[j];exact A),j,Nat.mul_comm c]
set_option maxRecDepth 100000 in
def ads{rb:Nat}(R:aJ)(all:List UInt8)(p:Nat)(hp:p<=all.length)(U:all.length<=1000000000000)(s:Sl):
  ∀(d k acc:Nat) (w:J),k+d=9->acc<128^k->p+k<=all.length->w.heap[rb]? =some (.cells #[s.v,.int .i64 (p:Int),.int .i64 0] q9 (0,0))->e6 w s all->
   (match jI k ((all.drop p).drop k)with
    |.more=>∀j,ei j rb ⟨all.drop p,3⟩ (rb::ax s)->Fr (·=rb) w j->R (ae (.int .u64 0)) j
    |.form=>∀j,ei j rb ⟨all.drop p,2⟩ (rb::ax s)->Fr (·=rb) w j->R (ae (.int .u64 0)) j
    |.ok n r=>∀j,ei j rb ⟨r,0⟩ (rb::ax s)->Fr (·=rb) w j->R (ae (.int .u64 ((acc+128^k *n:Nat):Int))) j)->
   rf.L0 (ab rb) (acc:Int) (k:Int) w R:=by
 intro d;induction d using Nat.strongRecOn with
 |_ d ih=>
  intro k acc w hk ha aj h1 C q;refine rf.bC _ _ _ _ _ ?_;have hn:s.n=all.length:=by simpa using C.1
  have ew:ah .i64 ((p:Int)+(k:Int))=((p+k:Nat):Int):=by rw[aN _ co];omega
  have K:af w w.drew:=Fr.drew _ w;have A:af w w.drew.drew:=K.dN (Fr.drew _ _);have Q:=K.at h1 id;have B:=A.at h1 id;refine⟨_,qO Q,_,vz Q,?_⟩;rw[ew,hn];rw[List.drop_drop]at q;refine bP (λh=>?_) (λh=>?_)
  .have he:all.drop (p+k)=[]:=du (by simp at h;omega);rw[he]at q;simp only[jI]at q;obtain⟨D,E,F,G⟩:=Bk Q (C.br K) hp U 3;exact⟨D,E,q _ F ((K.po).trans G λ_ _ h=>h)⟩
  .have aa:p+k<all.length:=by simp at h;omega
   have hg:all[p+k]? =some all[p+k]:=a' aa;rw[dw aa]at q;generalize all[p+k]=c at hg q;have hc:=c.toNat_lt;have H:∀j,Fr (·=rb) w.drew.drew j->Fr (·=rb) w j:=λj f=>A.po.trans f λ_ _ h=>h;refine⟨_,vz B,_,qO B,?_⟩;rw[ew];refine⟨co,by rw[hn];omega,Bytes.cell (C.br A).rd hg (by rw[bo]) λal _ hq=>⟨_,hq,?_⟩⟩;have form:jl k c=true->rf.S1 (ab rb) w.drew.drew R:=λy=>by simp only[jI,y,if_true]at q;obtain⟨D,E,F,G⟩:=Bk B (C.br A) hp U 2;exact⟨D,E,q _ F (H _ G)⟩
   have O:jl k c=false->rf.S2 (ab rb) (acc:Int) (k:Int) (c.toNat:Int) w.drew.drew R:=λy=>by
    have N:=y;unfold jl at N;simp at N;obtain⟨e1,e2⟩:=af5 acc k (c.toNat%128) co ha co (λz=>by have:=N.1 z;omega);dsimp only[rf.S2,ak];rw[Xf c];refine And.intro e1 ?_;rw[e2];obtain⟨v,I⟩:∃v,v=acc+128^k *(c.toNat%128):=⟨_,rfl⟩;rw[<-I];refine bP (λh=>?_) (λh=>?_)
    .have L:c.toNat<128:=by simp at h;omega
     simp only[jI,y,L,if_true]at q;obtain⟨D,E,F,G⟩:=SJ B (C.br A) U (p+k+1) co (ah .i64 ((p:Int)+(ah .i64 ((k:Int)+1)))) (by rw[aN ((k:Int)+1) co,aN _ co];omega);refine⟨_,qO B,D,E,?_⟩;have:=q _ F (H _ G);rw[Nat.mod_eq_of_lt L]at I;rw[I];exact this
    .have L:¬c.toNat<128:=by simp at h;omega
     show rf.L0 (ab rb) _ (ah .i64 ((k:Int)+1)) w.drew.drew R;rw[bb k co];have ag:k≠9:=λz=>by have:=N.1 z;omega
     refine ih (d - 1) co (k+1) _ w.drew.drew co ?_ co B (C.br A) ?_
     .rw [Nat.pow_succ,I];have:128^k *(c.toNat%128)<=128^k *127:=Nat.mul_le_mul_left _ co;omega
     .rw [List.drop_drop,<-Nat.add_assoc];simp only[jI,y,L,if_false]at q;cases W:jI (k+1) (all.drop (p+k+1))with
      |more=>rw[W]at q;exact λj a b=>q j a (H _ b)
      |form=>rw[W]at q;exact λj a b=>q j a (H _ b)
      |ok n r=>
       rw[W]at q;intro j a b;have:=q j a (H _ b);have e:acc+128^k *(c.toNat%128)+128^(k+1) *n=acc+128^k *(c.toNat%128+128 *n):=by rw[Nat.pow_succ,Nat.mul_add,Nat.mul_assoc];omega
       rw[I,e];exact this
   have ac:1<c.toNat->k=9->jl k c=true:=λhx hy=>by unfold jl;rw[aQ hx];simp[hy]
   have Z:c.toNat=0->0<k->jl k c=true:=λh P=>by unfold jl;rw[h,aQ P];simp
   have Y:(k=9->¬1<c.toNat)->(0<k->c.toNat≠0)->jl k c=false:=λh P=>by
    cases y:jl k c with
    |false=>rfl
    |true=>
     unfold jl at y;rw[Bool.or_eq_true,bH,bH]at y;rcases y with⟨S,T⟩|⟨S,T⟩
     .exact absurd (eP T) (h (eq_of_beq S))
     .exact absurd (eq_of_beq T) (P (eP S))
   refine bP (λz=>?_) (λz=>?_)
   .have M:k=9:=by have:=eq_of_beq z;omega
    refine bP (λh=>form (ac (by have:=eP h;omega) M)) (λh=>?_);have ai:=il h;refine aM (aQ co) (bP (λx=>form (Z (by have:=eq_of_beq x;omega) co)) (λx=>O (Y (λ_=>co) (λ_ e=>by rw[e]at x;simp at x))))
   .have M:k≠9:=λe=>by rw[e]at z;simp at z
    refine bP (λh=>bP (λx=>form (Z (by have:=eq_of_beq x;omega) (by have:=eP h;omega))) (λx=>O (Y (λe=>absurd e M) (λ_ e=>by rw[e]at x;simp at x)))) (λh=>O (Y (λe=>absurd e M) (λad=>by have:=il h;omega)))
def Bh{w:J}{rb:Nat}{st:RS}{fp:List Nat}(h:ei w rb st fp):
  aj V QS #[.pointer (some (ab rb))] w (wD w rb fp (.int .u64 ((g8 st).1:Int)) (g8 st).2):=by
 have B:=h;obtain⟨s,all,C,rfl,j,x,y,z,A⟩:=h;refine rf.ok _ w _ ?_;refine⟨_,yj j,bP (λk=>?_) (λk=>?_)⟩
 .have d:st.err≠0:=by simpa using k
  unfold g8;rw[av d];exact⟨rfl,B,Fr.refl _ _⟩
 .have d:st.err=0:=by simpa using k
  refine ads _ all C y A s 9 0 0 w rfl ws co (by rw[d]at j;exact j) x ?_;unfold g8;rw[ag (by simp[d]),List.drop_zero,z];cases D:jI 0 st.bs with
  |more=>exact λq a b=>⟨rfl,a,b⟩
  |form=>exact λq a b=>⟨rfl,a,b⟩
  |ok n r=>
   intro q a b;refine⟨?_,a,b⟩;simp
def vy(st:RS):(g8 st).1<18446744073709551616:=by
 unfold g8;split
 .simp
 .split
  .simp
  .simp
  .rename_i n r d;have:=(Ej 9 0 _ _ _ rfl d).2.1;simpa using this
def afR(u:Nat)(h:u<18446744073709551616):W.nY .i64 (ah .i64 (Int.fdiv (u:Int) (2^1))) (ah .i64 (0 - (ah .i64 (W.kN .u64 (u:Int) 1))))=q' u:=by
 have j:W.kN .u64 (u:Int) 1=((u%2:Nat):Int):=by have:=Xe u 1 h co;rw[Nat.and_one_is_mod]at this;exact this
 rw[j,show((2:Int)^1)=((2:Nat):Int)from rfl,z9 u 2 co,aN ((u / 2:Nat):Int) co,aN ((u%2:Nat):Int) co];unfold q';split
 .rename_i d;rw[d,aN _ co];exact Xj _ co
 .rename_i d;rw[show u%2=1 by omega,aN _ co];exact Xi _ co
def qM{w:J}{rb:Nat}{st:RS}{fp:List Nat}(h:ei w rb st fp):
  aj V x6 #[.pointer (some (ab rb))] w (wD w rb fp (.int .i64 (bT st).1) (bT st).2):=by
 refine VZ.ok _ w _ ?_;refine(Bh h).mono ?_;rintro r j ⟨rfl,d⟩;refine⟨_,rfl,?_⟩;try dsimp only
 rw[afR _ (vy st)];exact⟨rfl,d⟩
def adn{w:J}{rb:Nat}{st:RS}{fp:List Nat}(h:ei w rb st fp):
  aj V QP #[.pointer (some (ab rb))] w λr C=>r=ae (.int .i64 (sQ st))/\af w C:=by
 obtain⟨s,all,B,rfl,j,z,D,A,E⟩:=h;have d:af w w.drew:=Fr.drew _ w;have y:=d.at j id;have G:s.n=all.length:=by simpa using z.1
 have F:st.bs.length=all.length - B:=by rw[<-A];simp
 refine VY.ok _ w _ ?_;unfold sQ;refine⟨_,yj j,bP (λk=>?_) (λk=>?_)⟩
 .have q:st.err≠0:=by simpa using k
  rw[av q];exact⟨_,yj j,rfl,Fr.refl _ _⟩
 .have q:st.err=0:=by simpa using k
  rw[ag (by simp[q])];refine⟨_,qO y,_,vz y,bP (λx=>?_) (λx=>?_)⟩
  .have:=eP x;rw[av co];exact⟨rfl,d⟩
  .have:=il x;rw[ag co];exact⟨rfl,d⟩
def adp{w:J}{rb:Nat}{c:UInt8}{l:List UInt8}{e:Int}{fp:List Nat}(h:ei w rb ⟨c::l,e⟩ fp):
  aj V x7 #[.pointer (some (ab rb))] w (wD w rb fp (.int .u8 (c.toNat:Int)) ⟨l,e⟩):=by
 obtain⟨s,all,k,rfl,z,x,M,d,E⟩:=h;simp only at z d;have j:af w w.drew:=Fr.drew _ w;have q:=j.at z id;have K:s.n=all.length:=by simpa using x.1
 have A:k<all.length:=by
  by_cases I:k<all.length
  .exact I
  .rw [du co]at d;cases d
 rw[dw A]at d;injection d with F G
 have H:all[k]? =some c:=by rw[a' A,F]
 refine V2.ok _ w _ ?_;refine⟨_,vz q,_,qO q,co,by rw[K];omega,Bytes.cell (x.br j).rd H (by rw[bo]) λN _ L=>⟨_,L,?_⟩⟩;obtain⟨B,C,y,D⟩:=SJ q (x.br j) E (k+1) co (ah .i64 ((k:Int)+1)) (bb k co);rw[G]at y;exact⟨_,qO q,B,C,rfl,y,j.po.trans D λ_ _ h=>h⟩
def adq{w:J}{s:Sl}{bs:List UInt8}(C:Bytes w s bs)(D:bs.length<=1000000000000):
  aj V QO #[s.v] w λr A=>∃z y,r=ae (.pointer (some (ab z)))/\ei A z ⟨bs,0⟩ y/\af w A/\∀k∈y,w.heap.size<=k:=by
 refine VX.ok _ w _ ((J2 s bs w C co).mono ?_);rintro r h ⟨d,rfl,B,q,E⟩;have x:af h (h.alloc (.cells #[d.v,.int .i64 0,.int .i64 0] q9)):=Fr.alloc _ _ _;refine⟨d,rfl,h.heap.size,h.heap.size::ax d,rfl,⟨d,bs,0,rfl,kU _ _,B.br x,dI _,rfl,D⟩,q.dN x,?_⟩;intro k j;rcases aq.1 j with rfl|j
 .exact q.size
 .exact E k j
def tQ(w:J)(rb:Nat)(fp:List Nat)(e:aC)(vs:List aa)(st:RS):aJ:=λr d=>∃s:Sl,r=ae s.v/\Ow d e s vs/\ei d rb st fp/\Fr (·=rb) w d/\∀h∈ax s,w.heap.size<=h
def Bj{st:RS}{N:Nat}(h:st.bs.length<=N):(g8 st).2.bs.length<=N:=by
 unfold g8;split
 .exact h
 .split
  .exact h
  .exact h
  .rename_i n r d;have:=(Ej 9 0 _ _ _ rfl d).1;rw[this]at h;simp at h ⊢;omega
def abC{w0:J}{rb:Nat}{fp:List Nat}(K:∀b∈fp,b<w0.heap.size)(W:rb∈fp)(n:Nat)(bs:List UInt8)(hn:n<=bs.length)(Z:bs.length<=1000000000000)(R:aJ)(Q:∀r N,tQ w0 rb fp cJ ((bs.take n).map cq) ⟨bs.drop n,0⟩ r N->R r N):
  ∀(d i:Nat),i+d=n->∀(w:J) (l:Sl),Fr (·=rb) w0 w->ei w rb ⟨bs.drop i,0⟩ fp->e6 w l (bs.take i)->(∀k∈ax l,w0.heap.size<=k)->
   v9.L0 (ab rb) (ab rb) l (n:Int) (i:Int) w R:=by
 intro d;induction d with
 |zero=>
  intro i T w l y h B j;obtain rfl:i=n:=co
  refine v9.bC _ _ _ _ _ _ _ (aP (aV co) (Q _ _ ⟨l,rfl,B,h,y,j⟩))
 |succ d Y=>
  intro i T w l y h B j;have L:i<bs.length:=co
  refine v9.bC _ _ _ _ _ _ _ (aM (aQ co) ?_);rw[dw L]at h;refine(adp h).mono ?_;rintro r q ⟨rfl,I,G⟩;have U:=B.fr G λb A e=>by have:=j b A;have:=K rb W;omega
  refine⟨_,rfl,?_⟩;have S:q.cell? ((ab rb).add 2)=some (.int .i64 0):=by obtain⟨s,all,ad,rfl,z,_⟩:=I;exact yj z
  refine⟨_,S,aP rfl ?_⟩;have F:Fr (·=rb) w0 q:=y.trans G λ_ _ h=>h;have x:af q (q.alloc (.cells #[.int .u8 (bs[i].toNat:Int)] cJ)):=Fr.alloc _ _ _;obtain⟨D,E,z,O,H,P,_⟩:=zs (ty:=dx) (U.br x) (GF q bs[i]) (by simp;omega);refine⟨D,E,z,?_⟩;show v9.L0 (ab rb) (ab rb) D (n:Int) (ah .u64 ((i:Int)+1)) E R;rw[show ah .u64 ((i:Int)+1)=((i+1:Nat):Int)from by rw[IntWalk.u64_in _ co];omega];have aa:=F.size;have ac:=x.size;refine Y (i+1) co E D ((F.dN x).trans H λk M C=>by have:=j k C;omega) ((I.br x).fr H λb A C=>by have:=j b C;have:=K b A;omega) ?_ λk M=>?_
  .rw [dM,a' L];exact O
  .rcases P k M with h|h
   .exact j k h
   .omega
def G'{w:J}{rb:Nat}{st:RS}{fp:List Nat}(h:ei w rb st fp):w.cell? ((ab rb).add 2)=some (.int .i64 st.err):=by obtain⟨s,all,j,rfl,d,_⟩:=h;exact yj d
def abB{w:J}{rb:Nat}{st:RS}{fp:List Nat}(h:ei w rb st fp):
  aj V QX #[.pointer (some (ab rb)),.func (.func x7) #[.pointer (some (ab rb))] #[]] w (tQ w rb fp cJ ((fZ st).1.map cq) (fZ st).2):=by
 refine v9.ok _ _ w _ ((Bh h).mono ?_);rintro r y ⟨rfl,x,z⟩;refine⟨_,rfl,_,G' x,?_⟩;unfold fZ nq;generalize hq:g8 st=q at *;obtain⟨n,d⟩:=q;have aa:=vy st;have ac:=x.small;rw[hq]at aa;simp only at *;refine bP (λC=>?_) (λC=>?_)
 .have j:d.err≠0:=by simpa using C
  simp only[av j];exact⟨⟨none,0,0⟩,rfl,Ow.nil _ _,x,z,by simp[ax]⟩
 .have j:d.err=0:=by simpa using C
  simp only[ag (show ¬d.err≠0 by simp[j])];have A:af y y.drew:=Fr.drew _ _;have Y:=x.br A;obtain⟨s,all,k,rfl,B,G,N,H,O⟩:=Y;have hn:s.n=all.length:=by simpa using G.1
  have hl:d.bs.length=all.length - k:=by rw[<-H];simp
  refine⟨s,vz B,(k:Int),qO B,?_⟩;have Q:ah .u64 (ah .i64 ((s.n:Int) - (k:Int)))=(d.bs.length:Int):=by rw[aN _ co,IntWalk.u64_in _ co];omega
  rw[Q];refine bP (λD=>?_) (λD=>?_)
  .have Z:=eP D;simp only[av (show d.bs.length<n by omega)];obtain⟨K,L,F,M⟩:=Bk B G N O 3;rw[H]at F;rw[av (show(3:Int)≠0 by decide)];exact⟨K,L,⟨none,0,0⟩,rfl,Ow.nil _ _,F,z.trans (A.po.trans M λ_ _ h=>h) λ_ _ h=>h,by simp[ax]⟩
  .have Z:=il D;simp only[ag (show ¬d.bs.length<n by omega),ag (show ¬d.err≠0 by simp[j])];obtain⟨E,S,T,U⟩:=Nz jo y.drew .i64 .u64 n co;refine⟨⟨some ⟨y.drew.heap.size,0,none⟩,0,n⟩,E,S,?_⟩;have I:af y E:=A.dN U;have W:=x.br I;have P:d=⟨d.bs,0⟩:=by cases d;simp at j;simp[j]
   refine abC (w0:=w) (rb:=rb) (fp:=rb::ax s) h.lt h.mem n d.bs co ac _ (λr w' hr=>hr) n 0 co E _ (z.dN I) (by rw[List.drop_zero,<-P];exact W) T ?_;intro ad hx;simp[ax]at hx;have:=z.size;have:=A.size;omega
def abE{w0:J}{rb:Nat}{fp:List Nat}(S:∀b∈fp,b<w0.heap.size)(ac:rb∈fp)(n:Nat)(hn:n<=1000000000000)(R:aJ):
  ∀(d i:Nat),i+d=n->∀(w:J) (l:Sl) (xs:List Int) (st:RS),xs.length=i->st.err=0->Fr (·=rb) w0 w->ei w rb st fp->zh w l xs->(∀h∈ax l,w0.heap.size<=h)->
   (∀r D,tQ w0 rb fp b' ((if(gL d st).2.err≠0 then[]else xs++(gL d st).1).map aY) (gL d st).2 r D->R r D)->
   v'.L0 (ab rb) (ab rb) l (n:Int) (i:Int) w R:=by
 intro d;induction d with
 |zero=>
  intro i hi w l xs st U Q F j L y k;obtain rfl:i=n:=co
  refine v'.bC _ _ _ _ _ _ _ (aP (aV co) (k _ _ ⟨l,rfl,?_,j,F,y⟩));simpa[gL,Q]using L
 |succ d ih=>
  intro i hi w l xs st U Q F j L y k;refine v'.bC _ _ _ _ _ _ _ (aM (aQ co) ?_);refine(qM j).mono ?_;rintro r E ⟨rfl,H,O⟩;have aa:=L.fr O λb I e=>by have:=y b I;have:=S rb ac;omega
  have G:Fr (·=rb) w0 E:=F.trans O λ_ _ j=>j;refine⟨_,rfl,_,G' H,?_⟩;simp only[gL]at k;generalize bT st=q at *;obtain⟨h,z⟩:=q;simp only at *;refine bP (λK=>?_) (λK=>?_)
  .have B:z.err≠0:=by simpa using K
   simp only[av B]at k;exact k _ _ ⟨⟨none,0,0⟩,rfl,Ow.nil _ _,H,G,by simp[ax]⟩
  .have B:z.err=0:=by simpa using K
   simp only[ag (show ¬z.err≠0 by simp[B])]at k;have A:af E (E.alloc (.cells #[.int .i64 h] b')):=Fr.alloc _ _ _;obtain⟨M,N,W,Y,P,Z,_⟩:=W3 (ty:=i9) (aa.br A) (one_num E h) (by simp;omega);refine⟨M,N,W,?_⟩;show v'.L0 (ab rb) (ab rb) M (n:Int) (ah .u64 ((i:Int)+1)) N R;rw[show ah .u64 ((i:Int)+1)=((i+1:Nat):Int)from by rw[IntWalk.u64_in _ co];omega];have ad:=G.size;have ae:=A.size;refine ih (i+1) co N M _ z (by simp[U]) B ((G.dN A).trans P λh T x=>by have:=y h x;omega) ((H.br A).fr P λb I x=>by have:=y b x;have:=S b I;omega) Y (λh T=>?_) λr D C=>k r D ?_
   .rcases Z h T with j|j
    .exact y h j
    .omega
   .by_cases x:(gL d z).2.err≠0
    .simp only[av x]at C ⊢;exact C
    .simp only[ag x,cN,List.singleton_append]at C ⊢;exact C
def abD{w:J}{rb:Nat}{st:RS}{fp:List Nat}(h:ei w rb st fp):
  aj V QY #[.pointer (some (ab rb)),.func (.func x6) #[.pointer (some (ab rb))] #[]] w (tQ w rb fp b' ((gp st).1.map aY) (gp st).2):=by
 refine v'.ok _ _ w _ ((Bh h).mono ?_);rintro r A ⟨rfl,j,B⟩;refine⟨_,rfl,_,G' j,?_⟩;unfold gp nq;generalize hq:g8 st=q at *;obtain⟨n,d⟩:=q;have ac:=vy st;have ad:=j.small;rw[hq]at ac;simp only at *;refine bP (λE=>?_) (λE=>?_)
 .have z:d.err≠0:=by simpa using E
  simp only[av z];exact⟨⟨none,0,0⟩,rfl,Ow.nil _ _,j,B,by simp[ax]⟩
 .have z:d.err=0:=by simpa using E
  simp only[ag (show ¬d.err≠0 by simp[z])];have C:af A A.drew:=Fr.drew _ _;have Z:=j.br C;obtain⟨s,all,k,rfl,D,I,Q,K,S⟩:=Z;have hn:s.n=all.length:=by simpa using I.1
  have hl:d.bs.length=all.length - k:=by rw[<-K];simp
  refine⟨s,vz D,(k:Int),qO D,?_⟩;have T:ah .u64 (ah .i64 ((s.n:Int) - (k:Int)))=(d.bs.length:Int):=by rw[aN _ co,IntWalk.u64_in _ co];omega
  rw[T];refine bP (λF=>?_) (λF=>?_)
  .have aa:=eP F;simp only[av (show d.bs.length<n by omega)];obtain⟨N,O,H,P⟩:=Bk D I Q S 3;rw[K]at H;rw[av (show(3:Int)≠0 by decide)];exact⟨N,O,⟨none,0,0⟩,rfl,Ow.nil _ _,H,B.trans (C.po.trans P λ_ _ h=>h) λ_ _ h=>h,by simp[ax]⟩
  .have aa:=il F;simp only[ag (show ¬d.bs.length<n by omega),ag (show ¬d.err≠0 by simp[z])];obtain⟨G,U,W,Y⟩:=Nz iy A.drew .i64 .u64 n co;refine⟨⟨some ⟨A.drew.heap.size,0,none⟩,0,n⟩,G,U,?_⟩;have L:af A G:=C.dN Y;have y:=j.br L;refine abE (w0:=w) (rb:=rb) (fp:=rb::ax s) h.lt h.mem n co _ n 0 co G _ [] d rfl z (B.dN L) y W ?_ ?_
   .intro ae hx;simp[ax]at hx;have:=B.size;have:=C.size;omega
   .intro r w' M;have e:(if(gL n d).2.err≠0 then[]else[]++(gL n d).1)=(gL n d).1:=by
     by_cases x:(gL n d).2.err≠0
     .rw [av x];cases n with
      |zero=>rfl
      |succ n=>
       simp only[gL]at x ⊢;by_cases j:(bT d).2.err≠0
       .simp only[av j]
       .simp only[ag j]at x ⊢;by_cases y:(gL n (bT d).2).2.err≠0
        .simp only[av y]
        .simp only[ag y]at x;exact absurd x y
     .rw [ag x];rfl
    rw[e]at M;exact M
def ado{w:J}{rb:Nat}{st:RS}{fp:List Nat}(h:ei w rb st fp):
  aj V QQ #[.pointer (some (ab rb))] w (tQ w rb fp b' ((gp st).1.map aY) (gp st).2):=by refine V0.ok _ w _ ((abD h).mono ?_);rintro r j ⟨s,rfl,d⟩;exact⟨s,rfl,s,rfl,d⟩
def adr{w:J}{rb:Nat}{st:RS}{fp:List Nat}(h:ei w rb st fp):
  aj V QR #[.pointer (some (ab rb))] w (wD w rb fp (.string (ba (fZ st).1)) (fZ st).2):=by refine V1.ok _ w _ ((abB h).mono ?_);rintro r x ⟨s,rfl,d,j,k,q⟩;exact⟨s,rfl,_,lD d.rd,rfl,j,k⟩
end Go.Proofs.YtnaglpcbkhjpnaaGreatDoor
