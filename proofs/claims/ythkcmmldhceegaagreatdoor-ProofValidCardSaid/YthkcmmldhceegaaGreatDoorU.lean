import Derived.Test.YthkcmmldhceegaaGreatDoorW
import Derived.KernelRfl
import Derived.Test.YthkcmmldhceegaaGreatDoorProg
import Derived.Lib.AppendStr
import Derived.Laws.IdiomStrings
import Derived.IntWalk
import Derived.Lib.Bytealg
set_option linter.unusedVariables false
set_option linter.defProp false
namespace Go.W
open Go renaming World->C,Calls->ah,Program->aR,Value->ab,TypeId->aF,FuncId->bW,IntKind->iH
open Go.IntKind renaming wrap->ad
open _root_.Int renaming toNat->ae,tmod->bw
open Go.IntWalk renaming i64_in->bf
open Go.Builtin renaming append_->bg
open Go.Sem renaming run->a'
open _root_.Bool renaming and_eq_true->bC
open _root_.Nat renaming le_refl->b',le_trans->bB,zero_le->fj,beq->cv,beq_eq->ez
open _root_.Array renaming replicate->gI
open Go.Region renaming wanted->cU,ready->eA
open Go.Proofs.Tryz renaming prog->V
open _root_.Decidable renaming decide->af
open Go.Ending renaming returned->U
open List renaming mem_append->a6,mem_cons->ay,not_mem_nil->aW,mem_of_getElem?->aE,getElem?_eq_getElem->a9,mem_append_left->bS,length_append->cC,length_cons->e8,length_nil->hZ,mem_singleton->cO,flatMap_cons->dT,mem_iff_getElem?->g5,mem_cons_of_mem->eb,drop_eq_getElem_cons->dZ,take_add_one->eI,drop_of_length_le->c9
abbrev Lv:=List (Nat×List ab×aF)
abbrev Sv:=List (Nat×Option (Nat×Nat))
def Sv.get? :Sv->Nat->Option (Nat×Nat)
 |[],_=>none
 |(d,v)::c,t=>bif cv d t then v else Sv.get? c t
def Sv.at(S:Sv):Operand->Option (Nat×Nat)
 |.tmp t=>S.get? t
 |_=>none
def Sv.put(S:Sv)(d:Option Nat)(o:Option (Nat×Nat)):Sv:=match d with
 |some d=>(d,o)::S
 |none=>S
structure TS where
 E:Env
 S:Sv
 L:Lv
 w:C
 d:Bool
abbrev HT:=List (Nat×Option Nat×(C->Prop))
def fH(s:TS)(K:TS->Prop):Prop:=match s.d with
 |true=>loc (hM s.L) s.w λc=>K ⟨s.E,s.S,s.L,c,false⟩
 |false=>K s
def Ln:ab->ab->Bool
 |.int c _,.int d _=>c==d
 |.bool _,.bool _=>true
 |.string _,.string _=>true
 |.slice _ _ _,.slice _ _ _=>true
 |.pointer _,.pointer _=>true
 |.map _,.map _=>true
 |.int ..,_|.bool _,_|.string _,_|.slice ..,_|.pointer _,_|.map _,_=>false
 |_,_=>true
def yM:List ab->List ab->Bool
 |[],[]=>true
 |d::e,v::c=>Ln d v&&yM e c
 |_,_=>false
def BK(P:aR)(T:aF)(cs:List ab)(j:Nat)(K:ab->Prop):Prop:=
 cF (v' P T)<|match zeroOf P T with
 |.agg c=>cF (yM c.toList ((cs.drop j).take c.size)) (K (.agg ((cs.drop j).take c.size).toArray))
 |.nilFunc=>False
 |d=>match cs[j]? with
  |some v=>cF (Ln d v) (K v)
  |none=>False
def HW(P:aR)(T:aF)(f:Nat):Option Nat:=match P.underlying T with
 |some (.struct c)=>match c[f]? with
  |some f=>match P.info? f.type with
   |some i=>bif cv i.size 0 then none else some f.offset
   |none=>none
  |none=>none
 |_=>none
def MV(P:aR)(o:Oper):Bool:=match o.op with
 |.load ..|.lookup ..=>true
 |.convert s d _=>match P.underlying s,P.underlying d with
  |some (.slice _),some .string=>true
  |some (.pointer _),some .unsafePointer=>true
  |some .unsafePointer,some (.pointer _)=>true
  |_,_=>false
 |.binOp .neq c _ e _=>bif isConst e then false else match P.underlying c with
  |some (.pointer _)=>true
  |_=>false
 |.call {callee:=.builtin .len,args,argTypes}=>match args.toList,argTypes.toList with
  |[_],[c]=>match P.underlying c with
   |some (.map _ _)=>true
   |_=>false
  |_,_=>false
 |_=>false
def zh(P:aR)(o:Oper):Bool:=By P o||MV P o
def rP(P:aR)(o:Oper)(s:TS)(K:ab->Option (Nat×Nat)->List (Option Nat×(C->Prop))->TS->Prop):Prop:=
 bif zh P o then fH s λs=>me P o s.E s.w λv d=>K v none (d.map λc=>(none,c)) s else me P o s.E s.w λv d=>K v none (d.map λc=>(none,c)) s
def Av(P:aR)(o:Oper)(s:TS)(K:ab->Option (Nat×Nat)->List (Option Nat×(C->Prop))->TS->Prop):Prop:=
 match o.op with
 |.load e c=>match s.S.at c with
  |some (i,d)=>match s.L[i]? with
   |some X=>BK P e X.2.1 d λv=>K v none [(some i,λj=>(loadVar e ((ag X.1).add d)).run P j=.ok v j)] s
   |none=>False
  |none=>rP P o s K
 |.move c|.assign c|.nilCheck c=>match s.S.at c with
  |some k=>K ((s.E.val c).getD undef) (some k) [] s
  |none=>rP P o s K
 |.fieldAddr e c f=>match s.S.at c with
  |some (i,d)=>match HW P e f,s.L[i]? with
   |some h,some X=>K (.pointer (some ((ag X.1).add (d+h)))) (some (i,d+h)) [] s
   |_,_=>False
  |none=>rP P o s K
 |_=>rP P o s K
def oi(L:Lv)(w w':C)(p:Prop):Prop:=match L with
 |[]=>p
 |L=>kept (hM L) w w'/\p
def yJ:List ab->Nat->List ab->List ab
 |c,_,[]=>c
 |c,d,v::e=>yJ (c.set d v) (d+1) e
def wY(c:List Nat)(d:Option Nat):Bool:=match d with
 |some d=>c.any (cv d)
 |none=>false
def Es(bs:List Nat)(p:Addr):List ab->Nat->C->(C->Prop)->Prop
 |[],_,c,d=>d c
 |v::h,i,c,d=>ao c (p.add i) v λe=>kept bs c e/\Es bs p h (i+1) e d
def Dm(s:TS)(cs:List ab)(T:aF)(K:ab->Option (Nat×Nat)->Option Nat->TS->Prop):Prop:=
 aP (hM s.L) s.w λb c=>K (.pointer (some (ag b))) (some (s.L.length,0)) none ⟨s.E,s.S,s.L++[(b,cs,T)],c,false⟩
def wy(P:aR)(f:bW)(args:Array ab)(c:ab)(s:TS)(K:ab->C->Prop):Prop:=match s.L with
 |[]=>nY P f args c s.w K
 |d=>cV (hM d) P f args s.w λe h=>mj c λv=>e=U v/\K v h
def AU(P:aR)(j:List Nat)(draw:Bool)(o:Oper)(s:TS)(K:ab->Option (Nat×Nat)->Option Nat->TS->Prop):Prop:=
 match o.op with
 |.store d e k=>match s.S.at e with
  |some (i,h)=>match s.L[i]?,s.E.val k with
   |some X,some v=>cF (v.cells.size==(match P.info? d with |some i=>i.size|none=>0)&&v.cells.toList.all qn&&(P.info? d).isSome&&Nat.ble (h+v.cells.size) X.2.1.length) (K undef none (some i) ⟨s.E,s.S,s.L.set i (X.1,yJ X.2.1 h v.cells.toList,X.2.2),s.w,true⟩)
   |_,_=>False
  |none=>fH s λs=>match s.L with
   |[]=>gZ P o s.E s.w λv c=>K v none none ⟨s.E,s.S,s.L,c,false⟩
   |n=>match s.E.val e,s.E.val k with
    |some (.pointer (some p)),some v=>cF (v.cells.size==(match P.info? d with |some i=>i.size|none=>0)&&v.cells.toList.all qn&&(P.info? d).isSome) (Es (hM n) p v.cells.toList 0 s.w λc=>K undef none none ⟨s.E,s.S,s.L,c,false⟩)
    |_,_=>False
 |.alloc d=>bif wY j o.dst then cF ((P.info? d).bind (·.zero)).isSome (Dm s (zeroOf P d).cells.toList d K)else fH s λs=>gZ P o s.E s.w λv c=>K v none none ⟨s.E,s.S,s.L,c,false⟩
 |.box d e=>bif wY j o.dst then(match s.E.val e with
   |some v=>Dm s v.cells.toList d K
   |none=>False)else fH s λs=>gZ P o s.E s.w λv c=>K v none none ⟨s.E,s.S,s.L,c,false⟩
 |.buildSlice ..|.makeMap ..=>fH s λs=>gZ P o s.E s.w λv c=>K v none none ⟨s.E,s.S,s.L,c,false⟩
 |.call {callee:=.value (.func f),args,..}=>fH s λs=>cF (s.E.dQ o) (bif gx P f then wy P f (args.map s.E.ev) (zeroOf P o.type) s λv c=>K v none none ⟨s.E,s.S,s.L,c,false⟩
   else ud P f (args.map s.E.ev) (zeroOf P o.type) s.w λv c=>oi s.L s.w c (K v none none ⟨s.E,s.S,s.L,c,false⟩))
 |.call {callee:=.value (.tmp t),args,..}=>fH s λs=>cF (s.E.dQ o) (match s.E.get? t with
   |some (.func (.func f) first captured)=>cF (gx P f) (wy P f (first++args.map s.E.ev++captured) (zeroOf P o.type) s λv c=>K v none none ⟨s.E,s.S,s.L,c,false⟩)
   |_=>False)
 |_=>fH s λs=>(bif draw then gZ else rz) P o s.E s.w λv c=>oi s.L s.w c (K v none none ⟨s.E,s.S,s.L,c,false⟩)
def uk(ops:Array Oper)(j:Nat)(w:C):HT->List Prop
 |[]=>[]
 |(i,f,d)::c=>bif iU ops i j||f.isSome then uk ops j w c else d w::uk ops j w c
def fZ(ops:Array Oper)(j:Nat):HT->HT
 |[]=>[]
 |(i,f,d)::c=>bif iU ops i j then fZ ops j c else(i,f,d)::fZ ops j c
def DT(ops:Array Oper)(j:Nat)(s:TS)(H:HT)(K:TS->Prop):Prop:=
 bif H.any (λp=>!(iU ops p.1 j)&&p.2.1.isNone)then fH s λs=>rf (uk ops j s.w H) (K s)else K s
def stepT(P:aR)(j:List Nat)(ops:Array Oper)(draw:Bool)(i:Nat)(o:Oper)(s:TS)(H:HT)(K:TS->HT->Prop):Prop:=
 bif calm P o then Av P o s λv c h s=>K ⟨s.E.put o.dst v,s.S.put o.dst c,s.L,s.w,s.d⟩ (bif draw then h.map (λe=>(i,e))++H else H)
 else AU P j draw o s λv c m s=>cF (!((fZ ops i H).any λp=>m.isSome&&p.2.1==m)) (DT ops i s H λs=>K ⟨s.E.put o.dst v,s.S.put o.dst c,s.L,s.w,s.d⟩ (fZ ops i H))
def mm(P:aR)(c:List Nat)(ops:Array Oper)(draw:Bool)(i:Nat)(o:Oper)(d:Nat)(want t:Bool)(s:TS)(H:HT)(K:TS->HT->Prop):Prop:=
 bif (t==want)then stepT P c ops draw i o ⟨(d,.bool t)::s.E,s.S,s.L,s.w,s.d⟩ H K else K ⟨Env.put ((d,.bool t)::s.E) o.dst undef,s.S.put o.dst none,s.L,s.w,s.d⟩ (bif calm P o then H else fZ ops i H)
def runT(P:aR)(c:List Nat)(ops:Array Oper)(draw:Bool)(K:TS->Prop):List Nat->TS->HT->Prop
 |[],s,_=>K s
 |i::l,s,e=>
  match ops[i]? with
  |none=>False
  |some o=>match o.guard with
   |none=>stepT P c ops draw i o s e λj h=>runT P c ops draw K l j h
   |some (n,want)=>match je ops n with
    |none=>False
    |some k=>match s.E.get? k with
     |some (.bool t)=>Y t (mm P c ops draw i o k want true s e λj h=>runT P c ops draw K l j h) (mm P c ops draw i o k want false s e λj h=>runT P c ops draw K l j h)
     |some (.tuple _)=>runT P c ops draw K l ⟨Env.put s.E o.dst undef,s.S.put o.dst none,s.L,s.w,s.d⟩ (bif calm P o then e else fZ ops i e)
     |_=>False
def ui(P:aR)(h:List Nat)(ops:Array Oper)(i:Nat)(s:TS)(H:HT)(c:TS->HT->Prop):Prop:=
 match ops[i]? with
 |none=>False
 |some o=>match o.guard with
  |none=>stepT P h ops true i o s H c
  |some (j,want)=>match je ops j with
   |none=>False
   |some e=>match s.E.get? e with
    |some (.bool t)=>Y t (mm P h ops true i o e want true s H c) (mm P h ops true i o e want false s H c)
    |some (.tuple _)=>c ⟨Env.put s.E o.dst undef,s.S.put o.dst none,s.L,s.w,s.d⟩ (bif calm P o then H else fZ ops i H)
    |_=>False
def oX(P:aR)(d:List Nat)(ops:Array Oper)(K:TS->Prop):Tr->TS->HT->Prop
 |.nil,s,_=>K s
 |.one i t,s,c=>ui P d ops i s c λh e=>oX P d ops K t h e
 |.fork a b,s,c=>oX P d ops K a s c/\oX P d ops K b s c
def Tr.sq:List Nat->Tr->Tr
 |[],t=>t
 |i::l,t=>.one i (Tr.sq l t)
def wG(s:TS)(K:TS->Prop):Prop:=match s.L,s.d with
 |[],false=>K ⟨s.E,s.S,s.L,s.w.drew,false⟩
 |_,_=>K ⟨s.E,s.S,s.L,s.w,true⟩
section
variable {P:aR}
structure Inv(s:TS)(w:C):Prop where
 lc:LC w s.L
 rel:if s.d=true then Fr (·∈hM s.L) s.w w else w=s.w
 sl:∀t i j,s.S.get? t=some (i,j)->∃X,s.L[i]? =some X/\s.E.get? t=some (.pointer (some ((ag X.1).add j)))
def Inv.fH{s:TS}{w:C}{K:TS->Prop}(c:Inv s w)(h:W.fH s K):Inv ⟨s.E,s.S,s.L,w,false⟩ w/\K ⟨s.E,s.S,s.L,w,false⟩:=by
 refine⟨⟨c.lc,by simp,c.sl⟩,?_⟩;unfold W.fH at h;have j:=c.rel;cases e:s.d with
 |true=>
  rw[e]at h j;exact h w (by grind)
 |false=>
  rw[e]at h j;have:w=s.w:=by grind
  obtain⟨k,q,n,x,u⟩:=s
  grind
def Inv.fr{s:TS}{w:C}(c:Inv s w):Fr (·∈hM s.L) s.w w:=by
 have h:=c.rel;cases e:s.d with
 |true=>grind
 |false=>
  rw[e]at h;have:w=s.w:=by grind
  subst this;exact Fr.refl _ _
def Inv.at{s:TS}{w:C}(c:Inv s w){x:Operand}{i j:Nat}(h:s.S.at x=some (i,j)):∃X,s.L[i]? =some X/\s.E.val x=some (.pointer (some ((ag X.1).add j)))/\w.heap[X.1]? =some (.cells X.2.1.toArray X.2.2 (0,0)):=by
 cases x with
 |tmp t=>
  obtain⟨X,d,e⟩:=c.sl t i j h;exact⟨X,d,e,c.lc.own i X d⟩
 |_=>cases h
def Lo:∀{d vs:List ab},yM d vs=true->vs.length=d.length
 |[],[],_=>rfl
 |e::d,v::vs,c=>by unfold yM at c;rw[bC]at c;simp[Lo c.2]
def IV{T:aF}{cs:List ab}{j b:Nat}{ty:aF}{K:ab->Prop}(h:BK P T cs j K):
  ∃v,K v/\∀c:C,c.heap[b]? =some (.cells cs.toArray ty (0,0))->(loadVar T ((ag b).add j)).run P c=.ok v c:=by
 obtain⟨d,h⟩:=dU h;unfold v' at d;have one:∀(v:ab),cs[j]? =some v->(pd P T==some false)=true->∀c:C,c.heap[b]? =some (.cells cs.toArray ty (0,0))->(loadVar T ((ag b).add j)).run P c=.ok v c:=λv u e c n=>
  vl (by grind) (cellAt (p:=ag b) n rfl (by grind))
 cases w:zeroOf P T with
 |agg B=>
  rw[w]at h d;simp only at h d;obtain⟨y,x⟩:=dU h;rw[bC]at d;obtain⟨e,k⟩:=d;cases q:P.info? T with
  |none=>grind
  |some i=>
   rw[q]at k;simp at k e;refine⟨_,x,λc n=>K7 e q (by rw[k,Lo y];simp) λA v z=>?_⟩;rw[add_add];refine cellAt (p:=ag b) n rfl ?_
   grind
 |nilFunc=>grind
 |_=>
  rw[w]at h d;simp only at h;split at h
  .rename_i v u;exact⟨v,(dU h).2,one v u d⟩
  .exact h.elim
def Pp{o:Oper}{E:Env}{w w':C}{K:ab->List (C->Prop)->Prop}(h:zh P o=false)(c:me P o E w K):me P o E w' K:=by
 unfold zh at h;rw[Bool.or_eq_false_iff]at h;obtain⟨d,h⟩:=h;unfold me at c ⊢;rw[d]at c ⊢;simp only[cond_false]at c ⊢;unfold wz at c ⊢;unfold MV at h;split at c<;>first |exact c|skip
 all_goals rename_i e
 all_goals rw[e]at h
 .cases h
 .rename_i j _ n;cases j with
  |const k=>grind
  |_=>
   simp only[isConst,cond_false]at h
   grind
 .cases h
 .grind
 grind
def vT(P:aR)(o:Oper)(a:Act)(s:TS)(w:C)(v:ab)(h:Option (Nat×Nat))(Ss:List (Option Nat×(C->Prop)))(c:TS):Prop:=
 Inv c w/\c.E=s.E/\c.S=s.S/\c.L=s.L/\Calm P o a.eval w v (Ss.map (·.2))/\
 (∀p∈Ss,∀i,p.1=some i->∃X,s.L[i]? =some X/\∀e:C,e.heap[X.1]? =some (.cells X.2.1.toArray X.2.2 (0,0))->p.2 e)/\
 (∀i d,h=some (i,d)->∃X,s.L[i]? =some X/\v=.pointer (some ((ag X.1).add d)))
section
variable {o:Oper} {n:Cx} {a:Act} {s:TS} {w:C} {K:ab->Option (Nat×Nat)->List (Option Nat×(C->Prop))->TS->Prop}
def QC(G:∀x b,o.op≠.select x b)(B:Ag n a s.E)(q:Inv s w)(h:rP P o s K):∃v e d c,K v e d c/\vT P o a s w v e d c:=by
 have fin:∀(c:TS),c.E=s.E->c.S=s.S->c.L=s.L->Inv c w->me P o s.E w (λv d=>K v none (d.map λj=>(none,j)) c)->∃v e d c,K v e d c/\vT P o a s w v e d c:=λc y z A u D=>by
  obtain⟨v,d,H,M⟩:=wA G B D;refine⟨v,none,_,c,H,u,y,z,A,?_,λp O i N=>?_,λi Q F=>by cases F⟩
  .rw [List.map_map];have:((λI:Option Nat×(C->Prop)=>I.2)∘λj=>((none:Option Nat),j))=id:=rfl;rw[this,List.map_id];omega
  grind
 unfold rP at h;cases k:zh P o with
 |true=>
  rw[k,cond_true]at h;obtain⟨u,J⟩:=q.fH h
  grind
 |false=>
  rw[k,cond_false]at h;exact fin s rfl rfl rfl q (Pp k h)
def Pn(hs:∀O b,o.op≠.select O b)(z:Ag n a s.E)(q:Inv s w)(h:Av P o s K):∃v c y B,K v c y B/\vT P o a s w v c y B:=by
 have gen:=λh=>QC (P:=P) (K:=K) hs z q h;have same:∀(x:Operand) (c:Nat×Nat),s.S.at x=some c->(∀w,(execOp a.eval o).run P w=.ok (.value (a.eval x)) w\/∀p,a.eval x≠.pointer (some p))->K ((s.E.val x).getD undef) (some c) [] s->∃v c y B,K v c y B/\vT P o a s w v c y B:=λx c d hr e=>by
  obtain⟨X,D,u,_⟩:=q.at (i:=c.1) (j:=c.2) d;have he:=z.val u;refine⟨_,_,_,s,e,q,rfl,rfl,rfl,⟨λM F=>(by cases F),λH _=>?_⟩,λp G=>(by cases G),λi A J=>?_⟩
  .grind
  grind
 unfold Av at h;split at h
 .rename_i I x k;split at h
  .rename_i i A d;obtain⟨X,D,u,T⟩:=q.at d;rw[D]at h;obtain⟨v,e,hv⟩:=IV (b:=X.1) (ty:=X.2.2) h;refine⟨v,_,_,s,e,q,rfl,rfl,rfl,⟨λM F=>?_,λH aa=>?_⟩,λp G i' ab=>?_,λi A J=>by cases J⟩
   .grind
   .have:(loadVar I ((ag X.1).add A)).run P H=.ok v H:=aa (λw=>(loadVar I ((ag X.1).add A)).run P w=.ok v w) (by simp);simp[execOp,k,Instr.loadAt,z.val u,Instr.sureAddr,this]
   grind
  grind
 .rename_i x k;split at h
  .rename_i c d;exact same x c d (λw=>.inl (by simp[execOp,k])) h
  grind
 .rename_i x k;split at h
  .rename_i c d;exact same x c d (λw=>.inl (by simp[execOp,k])) h
  grind
 .rename_i x k;split at h
  .rename_i c d;refine same x c d (λw=>?_) h;obtain⟨X,_,u,_⟩:=q.at (i:=c.1) (j:=c.2) d;exact .inl (by simp[execOp,k,z.val u])
  grind
 .rename_i I x f k;split at h
  .rename_i i A d;obtain⟨X,D,u,T⟩:=q.at d;split at h
   .rename_i ac X' e N;rw[D]at N;cases N;refine⟨_,_,_,s,h,q,rfl,rfl,rfl,⟨λM F=>(by cases F),λH _=>?_⟩,λp G=>(by cases G),λi' j' J=>?_⟩
    .unfold HW at e;split at e
     .rename_i fs hu;split at e
      .rename_i fd W;split at e
       .rename_i inf Y;cases L:cv inf.size 0 with
        |true=>grind
        |false=>
         rw[L]at e;cases e;have Z:inf.size≠0:=λQ=>by rw[Q]at L;cases L
         simp[execOp,k,z.val u,Instr.fieldAt,run_underlying hu,W,Instr.sureAddr,fieldPlace,sizeOf,typeInfo,Y,Z,add_add]
       grind
      grind
     grind
    grind
   grind
  grind
 grind
end
def qY(s:TS)(K:ab->Option (Nat×Nat)->Option Nat->TS->Prop)(v:ab)(w':C):Prop:=
 ∃e m c,K v e m c/\Inv c w'/\c.E=s.E/\c.S=s.S/\(∀i X,s.L[i]? =some X->m≠some i->c.L[i]? =some X)/\
  (∀i d,e=some (i,d)->∃X,c.L[i]? =some X/\v=.pointer (some ((ag X.1).add d)))
def K4{o:Oper}{ρ:Operand->ab}{T:aF}{c:ab}(h:o.op=.alloc T)(e:(P.info? T).bind (·.zero)=some c)(w:C):
  (execOp ρ o).run P w=.ok (.value (.pointer (some (ag w.heap.size)))) (w.alloc (.cells c.cells T)):=by
 cases d:P.info? T with
 |none=>grind
 |some i=>
  rw[d]at e;have j:i.zero=some c:=e;simp[execOp,h,Instr.alloc,zeroValue,typeInfo,d,j,newVar,newRow]
def K5{o:Oper}{ρ:Operand->ab}{T:aF}{x:Operand}(c:o.op=.box T x)(w:C):
  (execOp ρ o).run P w=.ok (.value (.pointer (some (ag w.heap.size)))) (w.alloc (.cells (ρ x).cells T)):=by simp[execOp,c,Instr.box,newVar,newRow]
def Ru{L:Lv}{w w':C}{p:Prop}(h:oi L w w' p)(H:LC w L):LC w' L/\p:=by
 cases L with
 |nil=>exact⟨LC.nil _,h⟩
 |cons c L=>exact⟨H.oi h.1,h.2⟩
section
variable {o:Oper} {n:Cx} {a:Act} {s:TS} {w:C} {K:ab->Option (Nat×Nat)->Option Nat->TS->Prop}
def GC{f:bW}{args:Array ab}{K:ab->C->Prop}(e:(execOp a.eval o).run P w=.ok (.enter f args) w)(h:ah P f args w λc d=>∃v,c=U v/\K v d):im P o a w K:=by
 intro j;unfold Oper.wp;rw[e];simp only[Oper.upon];refine Calls.mono h λc d k=>?_
 grind
def GD{f:bW}{args:Array ab}{A:ab}{K:ab->C->Prop}(j:(execOp a.eval o).run P w=.ok (.enter f args) w)(H:LC w s.L)(k:s.w=w)(h:wy P f args A s K):im P o a w λv c=>LC c s.L/\K v c:=by
 unfold wy at h;split at h
 .rename_i u;rw[k]at h;refine GC j (Calls.mono h λn c d=>?_);obtain⟨v,rfl,e⟩:=pO d;exact⟨v,rfl,by rw[u];exact LC.nil _,e⟩
 .rw [k]at h;obtain⟨B,y,x⟩:=h;refine GC j (Calls.mono x λn c d=>?_);obtain⟨q,z⟩:=d;obtain⟨v,rfl,e⟩:=pO z;exact⟨v,rfl,H.fr q y,e⟩
def Js{cs:Array ab}{T:aF}(j:(execOp a.eval o).run P w=.ok (.value (.pointer (some (ag w.heap.size)))) (w.alloc (.cells cs T)))(c:Inv s w)(h:Dm s cs.toList T K):im P o a w (qY s K):=by
 intro k;unfold Oper.wp;rw[j];simp only[Oper.upon];refine⟨_,rfl,_,_,_,h w.heap.size (w.alloc (.cells cs T)) c.fr.size (size_alloc _ _) (c.fr.ew (Fr.alloc _ _ _)),⟨c.lc.push cs T,by simp,λt i e d=>?_⟩,rfl,rfl,λi X u _=>?_,λi e d=>?_⟩
 .obtain ⟨X,n,q⟩:=c.sl t i e d
  grind
 .grind
 .cases d;exact⟨(w.heap.size,cs.toList,T),by simp,by rw[kD]⟩
def LI{i j b:Nat}{T:aF}{x:C}{K:C->Prop}:∀(vs:List ab) (k:Nat) (w:C) (L:Lv) (cs:List ab),LC w L->L[i]? =some (b,cs,T)->j+k+vs.length<=cs.length->Fr (·∈hM L) x w->
  (∀c,LC c (L.set i (b,yJ cs (j+k) vs,T))->Fr (·∈hM L) x c->K c)->oQ ((ag b).add j) vs k w K
 |[],k,w,L,cs,d,e,u,f,h=>by
  refine h w ?_ f;have:L.set i (b,cs,T)=L:=by
   apply List.ext_getElem?
   grind
  rw[show yJ cs (j+k) []=cs from rfl,this];exact d
 |v::vs,k,w,L,cs,d,e,u,f,h=>by
  simp only[e8]at u;obtain⟨y,z,A,B⟩:=d.set (v:=v) i (j+k) e (by omega) f
  unfold oQ;rw[add_add];refine⟨y,z,LI (i:=i) (T:=T) vs (k+1) _ _ (cs.set (j+k) v) A ?_ (by grind) B λc n q=>?_⟩
  .grind
  .rw [List.set_set]at n;rw[Aa L i e]at q;exact h c n q
def LG{L:Lv}{p:Addr}{K K':C->Prop}(h:∀e,LC e L->K e->K' e):∀(vs:List ab) (i:Nat) (w:C),LC w L->Es (hM L) p vs i w K->oQ p vs i w K'
 |[],_,w,c,d=>h w c d
 |v::vs,i,w,c,d=>by obtain⟨j,k,n,q⟩:=d;exact⟨j,k,LG h vs (i+1) _ (c.oi n) q⟩
def M4{b:Bool}{p:Prop}(c:b=true)(d:p):cF b p:=by subst c;exact d
def Hb{E:Env}{T:aF}{x y:Operand}{p:Addr}{v:ab}{K:ab->C->Prop}(d:o.op=.store T x y)(e:E.val x=some (.pointer (some p)))(j:E.val y=some v)(c:(v.cells.size==(match P.info? T with |some i=>i.size|none=>0)&&v.cells.toList.all qn&&(P.info? T).isSome)=true)(h:oQ p v.cells.toList 0 w λk=>K undef k):gZ P o E w K:=by unfold gZ;rw[d];simp only[e,j];exact M4 c h
def K8{ρ:Operand->ab}{nx:Next}{w':C}(c:(∃d,o.op=.alloc d)\/(∃d y,o.op=.box d y)\/(∃d l p,o.op=.buildSlice d l p)\/(∃d r,o.op=.makeMap d r))(h:(execOp ρ o).run P w=.ok nx w'):aj w w':=by
 rcases c with⟨d,c⟩|⟨d,y,c⟩|⟨d,l,p,c⟩|⟨d,r,c⟩
 .cases k:(P.info? d).bind (·.zero)with
  |some z=>
   rw[K4 c k]at h;cases h;exact Fr.alloc _ _ _
  |none=>
   exfalso;cases j:P.info? d with
   |none=>simp[execOp,c,Instr.alloc,zeroValue,typeInfo,j]at h
   |some i=>
    rw[j]at k;have B:i.zero=none:=k;simp[execOp,c,Instr.alloc,zeroValue,typeInfo,j,B]at h
 .rw [K5 c]at h;cases h;exact Fr.alloc _ _ _
 .cases e:P.underlying d with
  |none=>simp[execOp,c,Instr.buildSlice,underlying,e]at h
  |some q=>
   cases q<;>first |(simp[execOp,c,Instr.buildSlice,run_underlying e]at h;done)|skip
   rename_i A;cases j:P.info? A with
   |none=>simp[execOp,c,Instr.buildSlice,run_underlying e,sizeOf,typeInfo,j]at h
   |some i=>
    by_cases x:l *i.size>2^24
    .simp [execOp,c,Instr.buildSlice,run_underlying e,sizeOf,typeInfo,j,x]at h
    by_cases u:l *i.size=0
    .simp [execOp,c,Instr.buildSlice,run_underlying e,sizeOf,typeInfo,j,u]at h;split at h
     .simp [newRow]at h;obtain⟨_,rfl⟩:=h;exact Fr.alloc _ _ _
     .simp at h
    .simp [execOp,c,Instr.buildSlice,run_underlying e,sizeOf,typeInfo,j,x,u]at h;cases k:i.zero with
     |none=>simp[zeroValue,typeInfo,j,k]at h
     |some z=>
      simp[zeroValue,typeInfo,j,k]at h;split at h
      .simp [newRow]at h;obtain⟨_,rfl⟩:=h;exact Fr.alloc _ _ _
      .simp at h
 .cases r with
  |none=>
   simp[execOp,c,Instr.makeMap]at h;obtain⟨_,rfl⟩:=h;exact Fr.alloc _ _ _
  |some r=>
   cases e:P.underlying d with
   |none=>simp[execOp,c,Instr.makeMap,underlying,e]at h
   |some q=>
    cases q<;>first |(simp[execOp,c,Instr.makeMap,run_underlying e]at h;done)|skip
    cases n:ρ r with
    |int E z=>
     simp[execOp,c,Instr.makeMap,run_underlying e,n,Go.asInt,Go.asIntOf]at h;obtain⟨_,rfl⟩:=h;exact Fr.alloc _ _ _
    |pointer D=>cases D<;>simp[execOp,c,Instr.makeMap,run_underlying e,n,Go.asInt,Go.asIntOf]at h
    |_=>simp[execOp,c,Instr.makeMap,run_underlying e,n,Go.asInt,Go.asIntOf]at h
def Sx{K:ab->C->Prop}(y:∀q b,o.op≠.select q b)(u:Ag n a s.E)(e:(∃c,o.op=.alloc c)\/(∃c z,o.op=.box c z)\/(∃c l p,o.op=.buildSlice c l p)\/(∃c r,o.op=.makeMap c r))(h:gZ P o s.E w K):im P o a w λv k=>aj w k/\K v k:=by
 have d:n7 P o s.E w K:=by
  unfold gZ at h
  grind
 obtain⟨x,d⟩:=dU d;intro A;unfold Oper.wp;rw[u.execOp y x];generalize j:(execOp s.E.ev o).run P w=r at d;split at d
 .simp only[Oper.upon];exact⟨_,rfl,K8 e j,d⟩
 .simp only[Oper.upon];exact⟨_,rfl,K8 e j,d⟩
 grind
def PT{draw:Bool}{lv:List Nat}(A:(ab->C->Prop)->Prop)(y:∀K,im P o a w K->A K)(h1:∀K,(bif draw then gZ else rz) P o s.E w K->A K)(D:∀K aa,(∀v c,K v c->aa v c)->A K->A aa)(J:∀cs b,o.op≠.select cs b)(B:Ag n a s.E)(e:Inv s w)(h:AU P lv draw o s K):A (qY s K):=by
 have back:∀v c,LC c s.L->K v none none ⟨s.E,s.S,s.L,c,false⟩->qY s K v c:=λv c z d=>⟨none,none,_,d,⟨z,by simp,e.sl⟩,rfl,rfl,λi X h _=>h,λi ae Y=>by cases Y⟩;have ac:∀v c,oi s.L w c (K v none none ⟨s.E,s.S,s.L,c,false⟩)->qY s K v c:=λv c d=>by
  obtain⟨z,d⟩:=Ru d e.lc
  grind
 have news:((∃k,o.op=.alloc k)\/(∃k G,o.op=.box k G)\/(∃k l p,o.op=.buildSlice k l p)\/(∃k r,o.op=.makeMap k r))->fH s (λs=>gZ P o s.E s.w λv c=>K v none none ⟨s.E,s.S,s.L,c,false⟩)->A (qY s K):=λj h=>by obtain⟨_,u⟩:=e.fH h;exact D _ _ (λv c ⟨f,d⟩=>back v c (e.lc.fr (M:=λ_=>False) f (λ_ _ h=>h)) d) (y _ (Sx J B j u))
 unfold AU at h;split at h
 .rename_i k G al j;split at h
  .rename_i i ae F;obtain⟨X,Q,g2,_⟩:=e.at F;split at h
   .rename_i X' v ad Z;rw[Q]at ad;cases ad;obtain⟨q,d⟩:=dU h;rw[bC]at q;obtain⟨q,hb⟩:=q;have hb:=Nat.le_of_ble_eq_true hb;refine y _ (mf J B (Hb j g2 Z q ?_));refine LI (i:=i) (T:=X.2.2) _ 0 w s.L X.2.1 e.lc Q (by omega) e.fr λc q1 q2=>?_;refine⟨none,some i,_,d,⟨q1,?_,λt N j' ht=>?_⟩,rfl,rfl,λN af hY ah=>?_,λi ae Y=>by cases Y⟩
    .simp only[if_true];rw[Aa s.L i Q];exact q2
    .obtain ⟨af,y1,y2⟩:=e.sl t N j' ht;by_cases O:i=N
     .grind
     grind
    .have O:i≠N:=λO=>ah (by rw[O])
     grind
   grind
  .obtain ⟨_,u⟩:=e.fH h;simp only at u;split at u
   .rename_i hL;exact D _ _ (λv c d=>back v c (hL▸LC.nil _) d) (y _ (mf J B u))
   .split at u
    .rename_i p v F hy;obtain⟨q,d⟩:=dU u;exact D _ _ (λv c d=>d) (y _ (mf J B (Hb j F hy q (LG (K':=qY s K undef) (λc z d=>back _ c z d) _ _ _ e.lc d))))
    grind
 .rename_i k j;cases W:wY lv o.dst with
  |true=>
   rw[W,cond_true]at h;obtain⟨hz,h⟩:=dU h;obtain⟨aj,hz⟩:=Option.isSome_iff_exists.1 hz;have:zeroOf P k=aj:=by unfold zeroOf;grind
   rw[this]at h;exact y _ (Js (K4 j hz w) e h)
  |false=>
   grind
 .rename_i k G j;cases W:wY lv o.dst with
  |true=>
   rw[W,cond_true]at h;split at h
   .rename_i v Z;have:=K5 (P:=P) (ρ:=a.eval) j w;rw[B.val Z]at this;exact y _ (Js this e h)
   grind
  |false=>
   grind
 .grind
 .grind
 .rename_i f args ai j;obtain⟨I',h⟩:=e.fH h;obtain⟨q,h⟩:=dU h;have I:args.map a.eval=args.map s.E.ev:=B.args λG F=>List.all_eq_true.1 q G (by rw[j];simp[Op.operands,Call.operands,F]);cases H:gx P f with
  |true=>
   rw[H,cond_true]at h;exact D _ _ (λv c ⟨z,d⟩=>back v c z d) (y _ (GD (s:=⟨s.E,s.S,s.L,w,false⟩) (by simp[execOp,j,resolve,Act.eval,Deferred.ofValue,invoke,I,tC H]) e.lc rfl h))
  |false=>
   rw[H,cond_false]at h;unfold ud at h;obtain⟨v,c,hr,d⟩:=pO h;refine D _ _ ac (y _ λak=>?_);unfold Oper.wp;have:(execOp a.eval o).run P w=.ok (.value v) c:=by simp[execOp,j,resolve,Act.eval,Deferred.ofValue,invoke,I,hr]
   rw[this];simp only[Oper.upon]
   grind
 .rename_i t args ai j;obtain⟨I',h⟩:=e.fH h;obtain⟨q,h⟩:=dU h;have I:args.map a.eval=args.map s.E.ev:=B.args λG F=>List.all_eq_true.1 q G (by rw[j];simp[Op.operands,Call.operands,F]);split at h
  .rename_i f first captured hf
   obtain⟨H,h⟩:=dU h;have ag:a.eval (.tmp t)=.func (.func f) first captured:=B.val (x:=.tmp t) hf
   exact D _ _ (λv c ⟨z,d⟩=>back v c z d) (y _ (GD (s:=⟨s.E,s.S,s.L,w,false⟩) (by simp[execOp,j,resolve,ag,Deferred.ofValue,invoke,I,tC H]) e.lc rfl h))
  grind
 .obtain ⟨_,u⟩:=e.fH h;exact D _ _ ac (h1 _ u)
end
def HI(s:TS)(H:HT)(w:C):Prop:=∀p∈H,p.2.2 w/\∀i,p.2.1=some i->∃X,s.L[i]? =some X/\∀c:C,c.heap[X.1]? =some (.cells X.2.1.toArray X.2.2 (0,0))->p.2.2 c
def e3(H:HT):eB:=H.map λp=>(p.1,p.2.2)
def rQ{ops:Array Oper}{j:Nat}:∀c:HT,dc ops j (e3 c)=e3 (fZ ops j c)
 |[]=>rfl
 |(i,f,d)::c=>by
  show dc ops j ((i,d)::e3 c)=e3 (fZ ops j ((i,f,d)::c));unfold dc fZ;cases iU ops i j
  .simp only[cond_false];rw[rQ c];rfl
  .simp only[cond_true];exact rQ c
def mq{ops:Array Oper}{j:Nat}:∀{H:HT} {p},p∈fZ ops j H->p∈H/\iU ops p.1 j=false
 |(i,f,e)::H,p,c=>by
  unfold fZ at c;cases d:iU ops i j with
  |true=>
   rw[d,cond_true]at c;exact⟨eb _ (mq c).1,(mq c).2⟩
  |false=>
   rw[d,cond_false]at c;rcases ay.1 c with rfl|c
   .grind
   .exact ⟨eb _ (mq c).1,(mq c).2⟩
def Ih{ops:Array Oper}{j:Nat}{w:C}:∀{H:HT} {p},p∈H->iU ops p.1 j=false->p.2.1=none->p.2.2 w∈uk ops j w H
 |(i,f,h)::H,p,c,e,d=>by
  unfold uk;rcases ay.1 c with rfl|c
  .grind
  .have:=Ih (w:=w) c e d
   grind
def Inv.put{s:TS}{w:C}(e:Inv s w)(d:Option Nat){v:ab}{j:Option (Nat×Nat)}(u:∀i c,j=some (i,c)->∃X,s.L[i]? =some X/\v=.pointer (some ((ag X.1).add c))):Inv ⟨s.E.put d v,s.S.put d j,s.L,s.w,s.d⟩ w:=by
 refine⟨e.lc,e.rel,λt i c h=>?_⟩;cases d with
 |none=>exact e.sl t i c h
 |some d=>
  simp only[Sv.put,Sv.get?]at h;simp only[Env.put,Env.get?];cases k:cv d t with
  |true=>
   grind
  |false=>
   rw[k,cond_false]at h;obtain⟨X,n,q⟩:=e.sl t i c h
   grind
def TR{ops:Array Oper}{j:Nat}{s d:TS}{w w':C}{m:Option Nat}{H:HT}{K:TS->Prop}(D:HI s H w)(n:Inv d w')(I:∀i X,s.L[i]? =some X->m≠some i->d.L[i]? =some X)(J:(!((fZ ops j H).any λp=>m.isSome&&p.2.1==m))=true)(h:DT ops j d H K):
  ∃e,K e/\Inv e w'/\e.E=d.E/\e.S=d.S/\e.L=d.L/\HI e (fZ ops j H) w':=by
 have x:∀p∈fZ ops j H,∀i,p.2.1=some i->∃X,d.L[i]? =some X/\∀w':C,w'.heap[X.1]? =some (.cells X.2.1.toArray X.2.2 (0,0))->p.2.2 w':=λp c i u=>by
  obtain⟨X,y,z⟩:=(D p (mq c).1).2 i u
  grind
 have own:∀p∈fZ ops j H,∀i,p.2.1=some i->p.2.2 w':=λp c i u=>by obtain⟨X,y,z⟩:=x p c i u;exact z w' (n.lc.own i X y)
 unfold DT at h;cases k:H.any (λp=>!(iU ops p.1 j)&&p.2.1.isNone)with
 |true=>
  rw[k,cond_true]at h;obtain⟨A,B⟩:=n.fH h;obtain⟨F,G⟩:=rh B;refine⟨_,G,A,rfl,rfl,rfl,λp c=>⟨?_,x p c⟩⟩;cases q:p.2.1 with
  |none=>exact F _ (Ih (mq c).1 (mq c).2 q)
  |some i=>grind
 |false=>
  rw[k,cond_false]at h;refine⟨d,h,n,rfl,rfl,rfl,λp c=>⟨?_,x p c⟩⟩;cases q:p.2.1 with
  |none=>
   exfalso;rw[List.any_eq_false]at k;exact k p (mq c).1 (by rw[(mq c).2,q];rfl)
  |some i=>grind
section
variable {ops:Array Oper} {n:Cx} {lv:List Nat}
def Ew{o:Oper}{a:Act}{s:TS}{w:C}{H:HT}{K:TS->HT->Prop}{draw:Bool}{i:Nat}(A:(ab->C->Prop)->Prop)(z:∀K,im P o a w K->A K)(B:∀K,(bif draw then gZ else rz) P o s.E w K->A K)(j:∀K e,(∀v c,K v c->e v c)->A K->A e)(O:∀y b,o.op≠.select y b)(G:Ag n a s.E)(q:Inv s w)(D:HI s H w)(J:calm P o=false)(h:stepT P lv ops draw i o s H K):
  A λv c=>∃d,K d (fZ ops i H)/\Inv d c/\HI d (fZ ops i H) c/\d.E=s.E.put o.dst v:=by
 unfold stepT at h;rw[J,cond_false]at h;refine j _ _ (λv c L=>?_) (PT A z B j O G q h);obtain⟨ac,m,s1,M,u,S,T,F,hq⟩:=L;obtain⟨I,N⟩:=dU M;obtain⟨s2,Q,x,W,Y,Z,k⟩:=TR D u F I N;refine⟨_,Q,x.put o.dst λi aa h=>?_,k,by grind⟩
 grind
def LR{o:Oper}{a:Act}{s:TS}{w:C}{H:HT}{K:TS->HT->Prop}{draw:Bool}{i:Nat}(M:∀z b,o.op≠.select z b)(G:Ag n a s.E)(x:Inv s w)(D:HI s H w)(I:calm P o=true)(h:stepT P lv ops draw i o s H K):
  ∃v e d j,K d j/\Inv d w/\HI d j w/\d.E=s.E.put o.dst v/\Calm P o a.eval w v e/\e3 j=(bif draw then e.map (λk=>(i,k))++e3 H else e3 H):=by
 unfold stepT at h;rw[I,cond_true]at h;obtain⟨v,Z,e,d,J,y,A,N,B,q,Q,S⟩:=Pn M G x h;refine⟨v,e.map (·.2),_,_,J,y.put o.dst λi W h=>?_,λp c=>?_,by rw[A],q,?_⟩
 .grind
 .have Y:p∈H->p.2.2 w/\∀i,p.2.1=some i->∃X,d.L[i]? =some X/\∀u:C,u.heap[X.1]? =some (.cells X.2.1.toArray X.2.2 (0,0))->p.2.2 u:=λc=>by rw[B];exact D p c
  cases draw with
  |false=>grind
  |true=>
   rcases a6.1 c with c|c
   .obtain ⟨k,F,rfl⟩:=List.mem_map.1 c;refine⟨q.1 _ (List.mem_map.2 ⟨k,F,rfl⟩),λT O=>?_⟩
    grind
   grind
 .cases draw with
  |false=>rfl
  |true=>simp[e3]
def Bt{i d:Nat}{o:Oper}{want t:Bool}{s:TS}{H:HT}{K:TS->HT->Prop}{draw:Bool}(h:Y t (mm P lv ops draw i o d want true s H K) (mm P lv ops draw i o d want false s H K)):mm P lv ops draw i o d want t s H K:=by
 cases t
 .exact h
 .exact h
def Inv.same{s:TS}{w:C}(c:Inv s w){d:Nat}{v:ab}(u:s.E.get? d=some v):Inv ⟨(d,v)::s.E,s.S,s.L,s.w,s.d⟩ w:=by
 refine⟨c.lc,c.rel,λt i k j=>?_⟩;obtain⟨X,h,n⟩:=c.sl t i k j;refine⟨X,h,?_⟩;simp only[Env.get?];by_cases e:d=t
 .grind
 .have q:cv d t=false:=by rw[<-Bool.not_eq_true,ez];exact e
  grind
def Inv.skip{s:TS}{w:C}(c:Inv s w)(d:Option Nat):Inv ⟨s.E.put d undef,s.S.put d none,s.L,s.w,s.d⟩ w:=c.put d λi h e=>by cases e
def HI.skip{s c:TS}{w:C}{H:HT}(h:HI s H w)(e:c.L=s.L):HI c H w:=λp d=>by rw[e];exact h p d
def HI.drop{s:TS}{w:C}{H:HT}{j:Nat}(h:HI s H w):HI s (fZ ops j H) w:=λp c=>h p (mq c).1
def HI.held{s:TS}{w:C}{H:HT}(h:HI s H w):∀p∈e3 H,p.2 w:=λp c=>by obtain⟨e,d,rfl⟩:=List.mem_map.1 c;exact(h e d).1
def yG{K:TS->Prop}{Q:Exit->Act->C->Prop}(k:dS n ops=true):∀(l:List Nat) (s:TS) (w:C) (a:Act),Ag n a s.E->Inv s w->runT P lv ops false K l s []->(∀q u H,Ag n H q.E->Inv q u->K q->Q .normal H u)->wpOpsIn (FW n) 0 P ops Q l a w
 |[],s,w,a,e,j,c,B=>B s w a e j c
 |i::l,s,w,a,e,j,c,B=>by
  have O:=Region.noSelect_spec (ops:=ops) (by unfold dS at k;grind);unfold runT at c;cases h:ops[i]? with
  |none=>grind
  |some o=>
   rw[h]at c;simp only at c;have step:∀(s:TS),Ag n a s.E->Inv s w->cU o (yielded ops a.tmps)=true->stepT P lv ops false i o s [] (λq D=>runT P lv ops false K l q D)->wpOpsIn (FW n) 0 P ops Q (i::l) a w:=λs e j F c=>by
    rw[wpOpsIn_cons];cases hc:calm P o with
    |true=>
     obtain⟨v,Ss,q,D,T,G,_,I,aa,ac⟩:=LR (λz b=>O i o z b h) e j (λp N=>by cases N) hc c;have:D=[]:=by cases D with |nil=>rfl|cons ag l=>cases ac
     subst this;refine zj (Kv:=λv' u=>v'=v/\u=w) h F ?_ ?_
     .refine im.in (sb k h) λW=>?_;unfold Oper.wp;rw[aa.2 w aa.1];exact⟨v,rfl,rfl,rfl⟩
     .rintro v' u ⟨rfl,rfl⟩;exact yG k l q _ _ (by rw[I];exact e.put _ (gF k h)) G T B
    |false=>
     refine zj h F (Ew (draw:=false) (s:=s) (vS P n o a w) (λK J=>J.in (sb k h)) (λK J=>Hc (λz b=>O i o z b h) (sb k h) e J) (λK K' ad hA W=>Oper.wpIn_mono (λH u ⟨v,ab,hv⟩=>⟨v,ab,ad v u hv⟩) (hA W)) (λz b=>O i o z b h) e j (λp N=>by cases N) hc c) λv u ⟨q,T,G,_,I⟩=>?_;exact yG k l q u _ (by rw[I];exact e.put v (gF k h)) G T B
   have skip:∀(s:TS),Ag n a s.E->Inv s w->cU o (yielded ops a.tmps)=false->runT P lv ops false K l ⟨s.E.put o.dst undef,s.S.put o.dst none,s.L,s.w,s.d⟩ []->wpOpsIn (FW n) 0 P ops Q (i::l) a w:=λs e j F c=>by rw[wpOpsIn_cons];unfold wpOpIn;simp only[h,F];exact⟨λ_ _=>trivial,yG k l _ w _ (e.put undef (gF k h)) (j.skip o.dst) c B⟩
   have Y:(bif calm P o then([]:HT)else fZ ops i [])=[]:=by cases calm P o<;>rfl
   cases y:o.guard with
   |none=>
    rw[y]at c;exact step s e j (by simp[cU,y]) c
   |some jw=>
    obtain⟨ae,want⟩:=jw;rw[y]at c;simp only at c;cases M:je ops ae with
    |none=>grind
    |some af=>
     rw[M]at c;simp only at c;split at c
     .rename_i t x;have hy:=qN e M x;have A:=Bt c;unfold mm at A;cases Z:(t==want)with
      |true=>
       rw[Z,cond_true]at A;exact step _ (e.same x) (j.same x) (by simp[cU,y,hy];grind) A
      |false=>
       rw[Z,cond_false,Y]at A;exact skip _ (e.same x) (j.same x) (by simp[cU,y,hy];grind) A
     .rename_i vs x;rw[Y]at c;exact skip s e j (by simp[cU,y,qO e M x]) c
     grind
def hf(n:Cx)(K:TS->Prop):Exit->Act->C->Prop
 |.normal,a,c=>∃s,Ag n a s.E/\Inv s c/\K s
 |_,_,_=>False
def Rb{o:Oper}{i:Nat}{H:HT}:(bif calm P o then e3 H else dc ops i (e3 H))=e3 (bif calm P o then H else fZ ops i H):=by
 cases calm P o
 .exact rQ H
 .rfl
def HI.Uq{o:Oper}{i:Nat}{s c:TS}{w:C}{H:HT}(h:HI s H w)(e:c.L=s.L):HI c (bif calm P o then H else fZ ops i H) w:=by
 cases calm P o
 .exact h.drop.skip e
 .exact h.skip e
def QX(F:dS n ops=true){K:TS->Prop}{i:Nat}{o:Oper}{s:TS}{w:C}{H:HT}{a:Act}{I:TS->HT->Prop}{q:Array Bool}{fuel:Nat}(j:ops[i]? =some o)(M:(bif calm P o then Region.free .any ops q i&&(eA .any ops q).contains i else eA .any ops q==[i])=true)(c:Ag n a s.E)(k:Inv s w)(e:HI s H w)(h:ui P lv ops i s H I)(next:∀T x u A,Ag n T x.E->Inv x u->HI x A u->I x A->ey P ops (hf n K) fuel (e3 A) (q.setIfInBounds i true) T u):ey P ops (hf n K) (fuel+1) (e3 H) q a w:=by
 have N:=Region.noSelect_spec (ops:=ops) (by unfold dS at F;grind);have hQ:∀ae a w,hf n K (.panic ae) a w=False:=λ_ _ _=>rfl;have step:∀(s:TS),Ag n a s.E->Inv s w->HI s H w->cU o (yielded ops a.tmps)=true->stepT P lv ops true i o s H I->ey P ops (hf n K) (fuel+1) (e3 H) q a w:=λs c k e ac h=>by
  cases J:calm P o with
  |true=>
   rw[J,cond_true,bC]at M;obtain⟨v,ad,x,A,k1,Q,G,W,ab,aa⟩:=LR (λB b=>N i o B b j) c k e J h;refine E2 (v:=v) (Ss:=ad) j N (by grind) fuel (e3 H) q a w (Region.free_spec j M.1) (by grind) (.inl ⟨ac,λu ah=>ab.2 u ah⟩) ab.1 e.held ?_;rw[cond_true]at aa;rw[<-aa];exact next _ x w A (by rw[W];exact c.put v (gF F j)) Q G k1
  |false=>
   rw[J,cond_false]at M;have hr:eA .any ops q=[i]:=by grind
   refine λ_=>⟨λh0=>(by grind),λO hj=>?_⟩;rw[hr]at hj;obtain rfl:=cO.1 hj;refine vP j ac (Ew (draw:=true) (s:=s) (im P o a w) (λK Y=>Y) (λK Y=>mf (λB b=>N O o B b j) c Y) (λK K' ag hA Q'=>Oper.wp_mono (λT u ⟨v,af,hv⟩=>⟨v,af,ag v u hv⟩) (hA Q')) (λB b=>N O o B b j) c k e J h) λv u ⟨x,k1,Q,G,W⟩=>?_;rw[rQ];exact⟨G.held,next _ x u _ (by rw[W];exact c.put v (gF F j)) Q G k1⟩
 have skip:∀(s:TS),Ag n a s.E->Inv s w->HI s H w->cU o (yielded ops a.tmps)=false->I ⟨s.E.put o.dst undef,s.S.put o.dst none,s.L,s.w,s.d⟩ (bif calm P o then H else fZ ops i H)->ey P ops (hf n K) (fuel+1) (e3 H) q a w:=λs c k e hw h=>by refine vr F j M hQ e.held hw ?_;rw[Rb];exact next _ _ w _ (c.put undef (gF F j)) (k.skip o.dst) (e.Uq rfl) h
 unfold ui at h;rw[j]at h;simp only at h;cases z:o.guard with
 |none=>
  rw[z]at h;exact step s c k e (by simp[cU,z]) h
 |some jw=>
  obtain⟨O,want⟩:=jw;rw[z]at h;simp only at h;cases Z:je ops O with
  |none=>grind
  |some ai=>
   rw[Z]at h;simp only at h;split at h
   .rename_i t y;have hy:=qN c Z y;have D:=Bt h;unfold mm at D;cases hb:(t==want)with
    |true=>
     rw[hb,cond_true]at D;exact step _ (c.same y) (k.same y) (e.skip rfl) (by simp[cU,z,hy];grind) D
    |false=>
     rw[hb,cond_false]at D;exact skip _ (c.same y) (k.same y) (e.skip rfl) (by simp[cU,z,hy];grind) D
   .rename_i vs y;exact skip s c k e (by simp[cU,z,qO c Z y]) h
   grind
def QY(M:dS n ops=true){K:TS->Prop}{i:Nat}{o:Oper}{s:TS}{w:C}{H:HT}{a:Act}{B:TS->HT->Prop}{D:Array Bool}{fuel:Nat}(u:ops[i]? =some o)(Q:calm P o=false)(e:Ag n a s.E)(q:Inv s w)(k:HI s H w)(h:ui P lv ops i s H B)(next:∀j z c F,Ag n j z.E->Inv z c->HI z F c->B z F->ey P ops (hf n K) fuel (e3 F) (D.setIfInBounds i true) j c):
  wpOp P ops (hf n K) i (λj c=>(∀p∈dc ops i (e3 H),p.2 c)/\ey P ops (hf n K) fuel (dc ops i (e3 H)) (D.setIfInBounds i true) j c) a w:=by
 have T:=Region.noSelect_spec (ops:=ops) (by unfold dS at M;grind);have step:∀(s:TS),Ag n a s.E->Inv s w->HI s H w->cU o (yielded ops a.tmps)=true->stepT P lv ops true i o s H B->wpOp P ops (hf n K) i (λj c=>(∀p∈dc ops i (e3 H),p.2 c)/\ey P ops (hf n K) fuel (dc ops i (e3 H)) (D.setIfInBounds i true) j c) a w:=λs e q k ac h=>by refine vP u ac (Ew (draw:=true) (s:=s) (im P o a w) (λK I=>I) (λK I=>mf (λG b=>T i o G b u) e I) (λK K' ab hA Z=>Oper.wp_mono (λj c ⟨v,aa,hv⟩=>⟨v,aa,ab v c hv⟩) (hA Z)) (λG b=>T i o G b u) e q k Q h) λv c ⟨z,k1,Y,N,e1⟩=>?_;rw[rQ];exact⟨N.held,next _ z c _ (by rw[e1];exact e.put v (gF M u)) Y N k1⟩
 have skip:∀(s:TS),Ag n a s.E->Inv s w->HI s H w->cU o (yielded ops a.tmps)=false->B ⟨s.E.put o.dst undef,s.S.put o.dst none,s.L,s.w,s.d⟩ (bif calm P o then H else fZ ops i H)->wpOp P ops (hf n K) i (λj c=>(∀p∈dc ops i (e3 H),p.2 c)/\ey P ops (hf n K) fuel (dc ops i (e3 H)) (D.setIfInBounds i true) j c) a w:=λs e q k hw h=>by refine Eg u k.held hw ?_;rw[Q,cond_false]at h;rw[rQ];exact next _ _ w _ (e.put undef (gF M u)) (q.skip o.dst) (k.drop.skip rfl) h
 unfold ui at h;rw[u]at h;simp only at h;cases y:o.guard with
 |none=>
  rw[y]at h;exact step s e q k (by simp[cU,y]) h
 |some jw=>
  obtain⟨ad,want⟩:=jw;rw[y]at h;simp only at h;cases J:je ops ad with
  |none=>grind
  |some ae=>
   rw[J]at h;simp only at h;split at h
   .rename_i t x;have W:=qN e J x;have A:=Bt h;unfold mm at A;cases O:(t==want)with
    |true=>
     rw[O,cond_true]at A;exact step _ (e.same x) (q.same x) (k.skip rfl) (by simp[cU,y,W];grind) A
    |false=>
     rw[O,cond_false]at A;exact skip _ (e.same x) (q.same x) (k.skip rfl) (by simp[cU,y,W];grind) A
   .rename_i vs x;exact skip s e q k (by simp[cU,y,qO e J x]) h
   grind
def vG(D:dS n ops=true){K:TS->Prop}:∀(t:Tr) (alt:Bool) (d:Array Bool) (s:TS) (w:C) (H:HT) (a:Act) (m:Nat),hY P ops t alt d=true->Ag n a s.E->Inv s w->HI s H w->oX P lv ops K t s H->
  (alt=false->t.len=m->ey P ops (hf n K) m (e3 H) d a w)/\
  (alt=true->t.len=m+1->∀i∈t.iO,wpOp P ops (hf n K) i (λu j=>(∀p∈dc ops i (e3 H),p.2 j)/\ey P ops (hf n K) m (dc ops i (e3 H)) (d.setIfInBounds i true) u j) a w)
 |.nil,alt,d,s,w,H,a,m,c,x,q,B,e=>by
  unfold hY at c;rw[bC]at c;refine⟨λ_ h=>?_,λA=>?_⟩
  .subst h;exact λ_=>⟨by grind,s,x,q,e⟩
  grind
 |.one i t,alt,d,s,w,H,a,m,c,x,q,B,e=>by
  unfold hY at c;rw[bC]at c;obtain⟨c,Z⟩:=c;cases Q:ops[i]? with
  |none=>grind
  |some o=>
   rw[Q]at c;simp only at c;unfold oX at e;refine⟨λA h=>?_,λA h ab hj=>?_⟩
   .subst A h;exact QX D Q c x q B e λu T j I J M L N=>(vG D t false _ T j I u _ Z J M L N).1 rfl rfl
   .subst A;rw[cond_true]at c;obtain rfl:=cO.1 hj;have O:t.len=m:=by simpa[Tr.len]using h
    exact QY D Q (by grind) x q B e λu T j I J M L N=>(vG D t false _ T j I u _ Z J M L N).1 rfl O
 |.fork z G,alt,d,s,w,H,a,m,c,x,q,B,e=>by
  unfold hY at c;simp only[bC]at c;obtain⟨hr,W,S,hy⟩:=c;rw[ez]at W;unfold oX at e;have both:∀k,z.len=k+1->∀i∈(Tr.fork z G).iO,wpOp P ops (hf n K) i (λu j=>(∀p∈dc ops i (e3 H),p.2 j)/\ey P ops (hf n K) k (dc ops i (e3 H)) (d.setIfInBounds i true) u j) a w:=λk F i y=>by
   rcases a6.1 y with y|y
   .exact (vG D z true d s w H a k S x q B e.1).2 rfl F i y
   .exact (vG D G true d s w H a k hy x q B e.2).2 rfl (W▸F) i y
  refine⟨λA h=>?_,λ_ h=>both m h⟩;subst A;obtain⟨k,F⟩:=EJ z d S;have O:m=k+1:=by rw[<-h,<-F];rfl
  subst O;have Y:eA .any ops d=(Tr.fork z G).iO:=by grind
  have aa:(Tr.fork z G).iO≠[]:=by have:=EI z d S;simp[Tr.iO,this]
  exact λ_=>⟨λh0=>absurd (Y▸h0) aa,λi y=>both k F i (Y▸y)⟩
def TU{c:Code}{a:Act}{s:TS}{w:C}{K:TS->Prop}(d:qt n c=true)(x:Ag n a s.E)(q:Inv s w)(h:runT P lv (Code.ops c) false K (List.range (Code.ops c).size) s []):fB P n c (hf n K) a w:=by
 unfold qt at d;split at d
 .rename_i id ops u;rw[bC]at d;obtain⟨k,e⟩:=d;have j:u=false:=by grind
  subst j;exact wpIn_region (yG e _ s w a x q h λy A z k e j=>⟨y,k,e,j⟩)
 grind
def Inv.dr{s:TS}{w:C}{K:TS->Prop}(c:Inv s w)(h:wG s K):∃d,K d/\Inv d w.drew/\d.E=s.E:=by
 have e:LC w.drew s.L:=c.lc.fr (M:=λ_=>False) (Fr.drew _ _) (λ_ _ h=>h);unfold wG at h;split at h
 .rename_i n j;have k:=c.rel;rw[j]at k;have:w=s.w:=by grind
  exact⟨_,h,⟨e,by grind,c.sl⟩,rfl⟩
 .exact ⟨_,h,⟨e,by simpa using c.fr.ew (Fr.drew _ _),c.sl⟩,rfl⟩
def TT{c:Code}{a:Act}{s:TS}{w:C}{K:TS->Prop}{t:Tr}(d:sw P n c t=true)(H:Ag n a s.E)(k:Inv s w)(h:wG s λs=>oX P lv (Code.ops c) K t s []):fB P n c (hf n K) a w:=by
 unfold sw at d;split at d
 .rename_i id ops F;simp only[bC]at d;obtain⟨rfl,A,j,z,e⟩:=d;rw[ez]at e;obtain⟨D,y,q,G⟩:=k.dr h;have u:=(vG j t false _ D w.drew [] a _ z (by grind) q (λp B=>(by cases B)) y).1 rfl e;have x:=zi _ [] _ _ _ (Down.zero _ _) u;refine wpIn_region_draw λt=>?_;refine qL j (λ⟨_,_,h⟩=>h) _ _ _ ?_;simp only[Region.schedule,A,Bool.true_or,if_true];exact wpAny_sound ops.size t _ a _ x
 grind
end
end
abbrev KT:=Exit->TS->Prop
structure ma where
 ord:Nat->Option Tr
 pt:List Bool->Option (TS->Prop)
 lv:List Nat
def oF(e:ma)(d:List Bool)(f:TS->Prop)(s:TS):Prop:=match e.pt d with
 |some c=>fH s c
 |none=>f s
def Lf(e:ma)(d:List Bool)(f:TS->Prop)(K:KT):KT:=λc s=>match c with
 |.normal=>oF e d f s
 |c=>K c s
def wk(id:Nat)(K:KT):KT:=λc s=>match c with
 |.exit d=>if d=id then K .normal s else K (.exit d) s
 |c=>K c s
def ix(P:aR)(n:Cx)(e:ma):Code->List Bool->KT->TS->Prop
 |.skip,_,c,s=>c .normal s
 |.region id ops true,_,c,s=>match e.ord id with
  |some t=>cF (sw P n (.region id ops true) t) (wG s λs=>oX P e.lv ops (c .normal) t s [])
  |none=>False
 |.region id ops false,_,c,s=>cF (qt n (.region id ops false)) (runT P e.lv ops false (c .normal) (List.range ops.size) s [])
 |.seq a b,d,c,s=>ix P n e a (false::d) (Lf e (true::d) (ix P n e b (true::d) c) c) s
 |.cond o a b,d,c,s=>gy (s.E.val o) (oF e (false::d) (ix P n e a (false::d) c) s) (oF e (true::d) (ix P n e b (true::d) c) s)
 |.block id a,d,c,s=>ix P n e a (false::d) (wk id c) s
 |.loop _,d,_,s=>oF e d (λ_=>False) s
 |.exit id,_,c,s=>c (.exit id) s
 |.ret,_,c,s=>c .ret s
 |_,_,_,_=>False
section
variable {P:aR} {n:Cx} {tb:ma}
def fO(P:aR)(n:Cx)(j:Code)(h:Exit->Act->C->Prop):List Bool->Code×(Exit->Act->C->Prop)
 |[]=>(j,h)
 |b::k=>match fO P n j h k,b with
  |(.seq d e,c),false=>(d,Exit.then (fB P n e c) c)
  |(.seq _ e,c),true=>(e,c)
  |(.cond _ d _,c),false=>(d,c)
  |(.cond _ _ e,c),true=>(e,c)
  |(.block id d,c),_=>(d,Exit.inBlock id c)
  |(.loop d,c),_=>(d,Exit.then (k' P n d c) c)
  |(_,c),_=>(.skip,c)
def qQ(P:aR)(n:Cx)(p:Code×(Exit->Act->C->Prop))(a:Act)(w:C):Prop:=match p with
 |(.loop e,c)=>k' P n e c a w
 |(d,c)=>fB P n d c a w
def qQ.wp{c:Code}{Q:Exit->Act->C->Prop}{a:Act}{w:C}(h:qQ P n (c,Q) a w):fB P n c Q a w:=by
 unfold qQ at h;split at h
 .rename_i j e d;cases d;exact MX h
 grind
def KQ(n:Cx)(K:KT)(Q:Exit->Act->C->Prop):Prop:=∀c s d a,Ag n a s.E->Inv s d->K c s->Q c a d
def q'(P:aR)(n:Cx)(tb:ma)(j:Code)(h:Exit->Act->C->Prop):Prop:=∀d c,tb.pt d=some c->∀s e a,Ag n a s.E->Inv s e->c s->qQ P n (fO P n j h d) a e
variable {c0:Code} {Q0:Exit->Act->C->Prop}
def u5(x:q' P n tb c0 Q0){d:List Bool}{c:Code}{Q:Exit->Act->C->Prop}(z:fO P n c0 Q0 d=(c,Q)){f:TS->Prop}{s:TS}{w:C}{a:Act}(y:Ag n a s.E)(j:Inv s w)(A:f s->fB P n c Q a w)(h:oF tb d f s):fB P n c Q a w:=by
 unfold oF at h;split at h
 .rename_i e u;obtain⟨k,q⟩:=j.fH h;have:=x d e u ⟨s.E,s.S,s.L,w,false⟩ w a y k q;rw[z]at this;exact this.wp
 grind
def KR{c:Code}{K:TS->Prop}{Q:Exit->Act->C->Prop}{a:Act}{w:C}(h:fB P n c (hf n K) a w)(k:∀s w a,Ag n a s.E->Inv s w->K s->Q .normal a w):fB P n c Q a w:=
 wpIn_mono h λe j q d=>by
  cases e with
  |normal=>obtain⟨s',hA,hI,hK⟩:=d;grind
  |_=>exact d.elim
def m6(x:q' P n tb c0 Q0):∀(c:Code) (h:List Bool) (K:KT) (Q:Exit->Act->C->Prop) (s:TS) (w:C) (a:Act),fO P n c0 Q0 h=(c,Q)->KQ n K Q->Ag n a s.E->Inv s w->ix P n tb c h K s->fB P n c Q a w
 |.skip,h,K,Q,s,w,a,q,k,e,j,d=>wpIn_skip (k _ _ _ _ e j d)
 |.region id ops true,h,K,Q,s,w,a,q,k,e,j,d=>by
  unfold ix at d;split at d
  .obtain ⟨D,F⟩:=dU d;exact KR (TT (c:=.region id ops true) D e j F) λs w a D F L=>k _ _ _ _ D F L
  grind
 |.region id ops false,h,K,Q,s,w,a,q,k,e,j,d=>by unfold ix at d;obtain⟨D,F⟩:=dU d;exact KR (TU (c:=.region id ops false) D e j F) λs w a D F L=>k _ _ _ _ D F L
 |.seq y I,h,K,Q,s,w,a,q,k,e,j,d=>by
  unfold ix at d;have H:fO P n c0 Q0 (false::h)=(y,Exit.then (fB P n I Q) Q):=by unfold fO;rw[q]
  have J:fO P n c0 Q0 (true::h)=(I,Q):=by unfold fO;rw[q]
  refine wpIn_seq (m6 x y (false::h) _ _ s w a H (λu N O M G A z=>?_) e j d);cases u with
  |normal=>exact u5 x J G A (λB=>m6 x I (true::h) K Q N O M J k G A B) z
  |_=>exact k _ _ _ _ G A z
 |.cond o y I,h,K,Q,s,w,a,q,k,e,j,d=>by
  unfold ix at d;have H:fO P n c0 Q0 (false::h)=(y,Q):=by unfold fO;rw[q]
  have J:fO P n c0 Q0 (true::h)=(I,Q):=by unfold fO;rw[q]
  unfold gy at d;split at d
  .rename_i t S;refine wpIn_cond_split (e.val S) (λu=>?_) (λu=>?_)
   .subst u;exact u5 x H e j (λB=>m6 x y (false::h) K Q s w a H k e j B) d
   .subst u;exact u5 x J e j (λB=>m6 x I (true::h) K Q s w a J k e j B) d
  grind
 |.block id y,h,K,Q,s,w,a,q,k,e,j,d=>by
  unfold ix at d;have H:fO P n c0 Q0 (false::h)=(y,Exit.inBlock id Q):=by unfold fO;rw[q]
  refine wpIn_block (m6 x y (false::h) _ _ s w a H (λu N O M G A z=>?_) e j d);cases u with
  |exit T=>
   simp only[wk]at z;simp only[Exit.inBlock];split at z
   .rename_i u;rw[aA u];exact k _ _ _ _ G A z
   .rename_i u;rw[aq u];exact k _ _ _ _ G A z
  |_=>exact k _ _ _ _ G A z
 |.loop y,h,K,Q,s,w,a,q,k,e,j,d=>by unfold ix at d;exact u5 x q e j (λB=>B.elim) d
 |.exit id,h,K,Q,s,w,a,q,k,e,j,d=>wpIn_exit (k _ _ _ _ e j d)
 |.ret,h,K,Q,s,w,a,q,k,e,j,d=>wpIn_ret (k _ _ _ _ e j d)
 |.rangeFunc ..,_,_,_,_,_,_,_,_,_,_,d=>d.elim
 |.scope _,_,_,_,_,_,_,_,_,_,_,d=>d.elim
 |.label _,_,_,_,_,_,_,_,_,_,_,d=>d.elim
 |.goto _,_,_,_,_,_,_,_,_,_,_,d=>d.elim
 |.refuse _,_,_,_,_,_,_,_,_,_,_,d=>d.elim
def xb(tb:ma)(d:List Bool)(K:KT):KT:=λc s=>match c with
 |.normal=>oF tb d (λ_=>False) s
 |c=>K c s
def ni(P:aR)(n:Cx)(tb:ma)(c0:Code)(j:KT):List Bool->Code×KT
 |[]=>(c0,j)
 |b::h=>match ni P n tb c0 j h,b with
  |(.seq d e,c),false=>(d,Lf tb (true::h) (ix P n tb e (true::h) c) c)
  |(.seq _ e,c),true=>(e,c)
  |(.cond _ d _,c),false=>(d,c)
  |(.cond _ _ e,c),true=>(e,c)
  |(.block id d,c),_=>(d,wk id c)
  |(.loop d,c),_=>(d,xb tb h c)
  |(_,c),_=>(.skip,c)
def BI(y:q' P n tb c0 Q0){w:KT}(F:KQ n w Q0):∀d:List Bool,(ni P n tb c0 w d).1=(fO P n c0 Q0 d).1/\KQ n (ni P n tb c0 w d).2 (fO P n c0 Q0 d).2
 |[]=>⟨rfl,F⟩
 |b::d=>by
  obtain⟨x,h⟩:=BI y F d;unfold ni fO;generalize G:fO P n c0 Q0 d=p at x h;generalize ni P n tb c0 w d=k at x h;obtain⟨O,D⟩:=p;obtain⟨M,K⟩:=k;simp only at x h;subst x;cases M with
  |seq A B=>
   cases b with
   |false=>
    refine⟨rfl,λq s u a j e c=>?_⟩;cases q with
    |normal=>
     have H:fO P n c0 Q0 (true::d)=(B,D):=by unfold fO;rw[G]
     exact u5 y H j e (λz=>m6 y B (true::d) K D s u a H h j e z) c
    |_=>exact h _ _ _ _ j e c
   |true=>grind
  |cond o A B=>grind
  |block id A=>
   cases b<;>(
    refine⟨rfl,λq s u a j e c=>?_⟩;cases q with
    |exit Q=>
     simp only[wk]at c;simp only[Exit.inBlock];split at c
     .rename_i q;rw[aA q];exact h _ _ _ _ j e c
     .rename_i q;rw[aq q];exact h _ _ _ _ j e c
    |_=>exact h _ _ _ _ j e c)
  |loop A=>
   cases b<;>(
    refine⟨rfl,λq s u a j e c=>?_⟩;cases q with
    |normal=>
     simp only[xb,oF]at c;split at c
     .rename_i I N;obtain⟨J,z⟩:=e.fH c;have:=y d I N ⟨s.E,s.S,s.L,u,false⟩ u a j J z;rw[G]at this;exact this
     grind
    |_=>exact h _ _ _ _ j e c)
  |_=>cases b<;>exact⟨rfl,h⟩
def AO(P:aR)(n:Cx)(tb:ma)(c0:Code)(e:KT)(c:List Bool)(s:TS):Prop:=match ni P n tb c0 e c with
 |(.loop j,d)=>ix P n tb j (false::c) (xb tb c d) s
 |(h,d)=>ix P n tb h c d s
def PG(q:q' P n tb c0 Q0){d:KT}(A:KQ n d Q0){c:List Bool}{s:TS}{w:C}{a:Act}(D:Ag n a s.E)(y:Inv s w)(h:AO P n tb c0 d c s):qQ P n (fO P n c0 Q0 c) a w:=by
 obtain⟨e,j⟩:=BI q A c;have B:=BI q A (false::c);unfold AO at h;generalize F:fO P n c0 Q0 c=p at e j;generalize I:ni P n tb c0 d c=k at h e j;obtain⟨K,x⟩:=p;obtain⟨H,z⟩:=k;simp only at e j;subst e;cases H with
 |loop u=>
  have G:fO P n c0 Q0 (false::c)=(u,Exit.then (k' P n u x) x):=by unfold fO;rw[F]
  have J:ni P n tb c0 d (false::c)=(u,xb tb c z):=by unfold ni;rw[I]
  rw[G,J]at B;exact I7 (m6 q u (false::c) _ _ s w a G B.2 D y h)
 |_=>exact m6 q _ c z x s w a F j D y h
end
section
variable {P:aR}
def nC(P:aR)(s:TS):List ResultVar->(List ab->Prop)->Prop
 |[],c=>c []
 |.tmp t::l,c=>match s.E.get? t with
  |some v=>nC P s l λd=>c (v::d)
  |none=>False
 |.cell h e::l,c=>match s.S.get? h with
  |some (i,j)=>match s.L[i]? with
   |some X=>BK P e X.2.1 j λv=>nC P s l λd=>c (v::d)
   |none=>False
  |none=>match s.E.get? h with
   |some (.pointer (some p))=>lC P e p s.w λv _=>nC P s l λd=>c (v::d)
   |_=>False
def vf(P:aR)(fn:Func)(R:aa):KT:=λc s=>match c with
 |.normal|.ret=>fH s λs=>nC P s fn.results.toList λd=>R (U (DK d)) s.w
 |_=>False
def D2{n:Cx}{a:Act}{s:TS}{w:C}(k:Ag n a s.E)(j:Inv s w)(z:s.w=w):∀{l:List ResultVar} {K:List ab->Prop},nC P s l K->
  ∃d,(l.mapM (oN a.tmps)).run P w=.ok d w/\K d
 |[],K,c=>⟨[],by simp,c⟩
 |.tmp t::l,K,c=>by
  unfold nC at c;split at c
  .rename_i v h;obtain⟨d,y,e⟩:=D2 k j z c;refine⟨v::d,?_,e⟩;have u:=k.get t v h;simp[List.mapM_cons,oN,y,u]
  grind
 |.cell q A::l,K,c=>by
  have fin:∀(p:Addr) (v:ab),s.E.get? q=some (.pointer (some p))->(loadVar A p).run P w=.ok v w->(nC P s l λd=>K (v::d))->∃d,((ResultVar.cell q A::l).mapM (oN a.tmps)).run P w=.ok d w/\K d:=λp v x h c=>by obtain⟨d,y,e⟩:=D2 k j z c;refine⟨v::d,?_,e⟩;have u:=k.get q _ x;simp[List.mapM_cons,oN,y,u,asAddr,h]
  unfold nC at c;split at c
  .rename_i i I H;obtain⟨X,B,D⟩:=j.sl q i I H;rw[B]at c;obtain⟨v,e,h⟩:=IV (b:=X.1) (ty:=X.2.2) c;exact fin _ v D (h w (j.lc.own i X B)) e
  .split at c
   .rename_i p x;rw[z]at c;obtain⟨v,J,c,F,G⟩:=BM c;exact fin p v x (G w F) c
   grind
def KU{m:Nat}{fn:Func}{R:aa}:KQ (cx m) (vf P fn R) (bodyPost P fn R):=by
 intro n s e a h j c;have go:(fH s λs=>nC P s fn.results.toList λd=>R (U (DK d)) s.w)->a.defers=[]/\∃v,(results fn a.tmps).run P e=.ok v e/\R (U v) e:=λc=>by
  obtain⟨k,q⟩:=j.fH c;obtain⟨d,x,u⟩:=D2 (s:=⟨s.E,s.S,s.L,e,false⟩) h k rfl q;refine⟨h.defers,_,?_,u⟩;rw[KS,<-Array.toArray_toList (xs:=fn.results),List.mapM_toArray];simp only[Sem.run_bind,Sem.run_map,x,Result.andThen_ok,Sem.run_pure];congr 1;cases d with
  |nil=>rfl
  |cons v d=>cases d<;>rfl
 unfold vf at c;cases n with
 |normal=>exact go c
 |ret=>exact go c
 |_=>exact c.elim
def Pm{f:bW}{fn:Func}{c:Code}{args:List ab}{w:C}{R:aa}{d:ma}(n:P.funcs[f]? =some fn)(k:fn.body=some c)(q:Nat.ble args.length fn.ntmps=true)(e:q' P (cx fn.ntmps) d c (bodyPost P fn R))(h:ix P (cx fn.ntmps) d c [] (vf P fn R) ⟨ke 0 args,[],[],w,false⟩):ah P f args.toArray w R:=
 tD n k q λa j=>m6 e c [] _ _ _ w a rfl KU j ⟨LC.nil _,by simp,λt i u h=>by cases h⟩ h
end
inductive Sh
 |i (k:iH)|b|st|s|p|r|m|v|f
def Sh.T:Sh->Type
 |.i _=>Int
 |.b=>Bool
 |.st=>ByteArray
 |.s=>J
 |.p=>Option Addr
 |.r=>Addr
 |.m=>Option Nat
 |.v=>ab
 |.f=>Fv
def Sh.val:(h:Sh)->h.T->ab
 |.i d,c=>.int d c
 |.b,c=>.bool c
 |.st,c=>.string c
 |.s,c=>J.v c
 |.p,c=>.pointer c
 |.r,c=>.pointer (some c)
 |.m,c=>.map c
 |.v,c=>c
 |.f,c=>Fv.v c
def Sh.rd(h:Sh)(v:ab)(K:h.T->Prop):Prop:=match h,v,K with
 |.i n,.int q c,K=>cF (q==n) (K c)
 |.b,.bool c,K=>K c
 |.st,.string c,K=>K c
 |.s,.slice a d j,K=>K ⟨a,d,j⟩
 |.p,.pointer c,K=>K c
 |.r,.pointer (some c),K=>K c
 |.m,.map c,K=>K c
 |.v,c,K=>K c
 |.f,.func (.func d) e k,K=>K ⟨d,e,k⟩
 |_,_,_=>False
def Sh.TQ{h:Sh}{v:ab}{K:h.T->Prop}(c:h.rd v K):∃d,v=h.val d/\K d:=by
 unfold Sh.rd at c;split at c<;>first |exact c.elim|skip
 .obtain ⟨e,j⟩:=dU c;have:=eq_of_beq e;subst this;exact⟨_,rfl,j⟩
 all_goals exact⟨_,rfl,c⟩
inductive Tk
 |o (h:Sh)|a (k:Nat)|t (k:Nat)|g (n j k:Nat)
abbrev Tk.I:Tk:=.o (.i .i64)
abbrev Tk.U:Tk:=.o (.i .u64)
abbrev Tk.Y:Tk:=.o (.i .u8)
abbrev Tk.i(k:iH):Tk:=.o (.i k)
abbrev Tk.b:Tk:=.o .b
abbrev Tk.st:Tk:=.o .st
abbrev Tk.s:Tk:=.o .s
abbrev Tk.p:Tk:=.o .p
abbrev Tk.r:Tk:=.o .r
abbrev Tk.m:Tk:=.o .m
abbrev Tk.v:Tk:=.o .v
abbrev Tk.f:Tk:=.o .f
def l5:List Tk->Type->Type
 |[],X=>X
 |.o c::l,X=>c.T->l5 l X
 |.a _::l,X=>l5 l X
 |.t _::l,X=>l5 l X
 |.g _ _ _::l,X=>l5 l X
inductive Sp
 |v (l:List Tk)
 |l (l:List Tk) (T:aF)
def i5:List (Nat×Sp)->Type
 |[]=>C->aa->Prop
 |(_,.v c)::l=>l5 c (i5 l)
 |(_,.l c _)::l=>Nat->l5 c (i5 l)
def mB:(ts:List Tk)->(X:Type)->List ab->l5 ts X->(X->Prop)->Prop
 |[],_,[],c,d=>d c
 |.o n::ts,X,v::e,c,d=>n.rd v λw=>mB ts X e (c w) d
 |.a h::ts,X,.agg a::e,c,d=>cF (cv a.toList.length h) (mB ts X (a.toList++e) c d)
 |.t h::ts,X,.tuple a::e,c,d=>cF (cv a.toList.length h) (mB ts X (a.toList++e) c d)
 |.g u q h::ts,X,.func (.func m) j k::e,c,d=>cF (cv u m&&cv j.toList.length q&&cv k.toList.length h) (mB ts X (j.toList++(k.toList++e)) c d)
 |_,_,_,_,_=>False
def nj:(ts:List Tk)->(X:Type)->(List ab->X)->l5 ts X
 |[],_,d=>d []
 |.o j::ts,X,d=>λn=>nj ts X λc=>d (j.val n::c)
 |.a e::ts,X,d=>nj ts X λc=>d (.agg (c.take e).toArray::c.drop e)
 |.t e::ts,X,d=>nj ts X λc=>d (.tuple (c.take e).toArray::c.drop e)
 |.g k h e::ts,X,d=>nj ts X λc=>d (.func (.func k) (c.take h).toArray ((c.drop h).take e).toArray::(c.drop h).drop e)
def Kp:∀{ts:List Tk} {X:Type} {vs:List ab} {K:List ab->X} {h:X->Prop},mB ts X vs (nj ts X K) h->h (K vs):=by
 intro ts;induction ts with
 |nil=>
  intro X vs K h c;cases vs with
  |nil=>exact c
  |cons _ _=>exact c.elim
 |cons t ts k=>
  intro X vs K h c;cases t with
  |o A=>
   cases vs with
   |nil=>exact c.elim
   |cons v vs=>
    obtain⟨E,rfl,B⟩:=Sh.TQ c;exact k (K:=λvs=>K (A.val E::vs)) B
  |a d=>
   cases vs with
   |nil=>exact c.elim
   |cons v vs=>
    cases v with
    |agg a=>
     obtain⟨e,j⟩:=dU (show cF (cv a.toList.length d) (mB ts X (a.toList++vs) _ h)from c);rw[ez]at e;have:=k (K:=λvs=>K (.agg (vs.take d).toArray::vs.drop d)) j;rw[List.take_left' e,List.drop_left' e]at this;omega
    |_=>exact c.elim
  |t d=>
   cases vs with
   |nil=>exact c.elim
   |cons v vs=>
    cases v with
    |tuple a=>
     obtain⟨e,j⟩:=dU (show cF (cv a.toList.length d) (mB ts X (a.toList++vs) _ h)from c);rw[ez]at e;have:=k (K:=λvs=>K (.tuple (vs.take d).toArray::vs.drop d)) j;rw[List.take_left' e,List.drop_left' e]at this;omega
    |_=>exact c.elim
  |g y n d=>
   cases vs with
   |nil=>exact c.elim
   |cons v vs=>
    cases v with
    |func z q u=>
     cases z with
     |func m=>
      obtain⟨e,j⟩:=dU (show cF (cv y m&&cv q.toList.length n&&cv u.toList.length d) (mB ts X (q.toList++(u.toList++vs)) _ h)from c);rw[bC,bC,ez,ez,ez]at e;obtain⟨⟨D,w⟩,x⟩:=e;have:=k (K:=λvs=>K (.func (.func y) (vs.take n).toArray ((vs.drop n).take d).toArray::(vs.drop n).drop d)) j;rw[List.take_left' w,List.drop_left' w,List.take_left' x,List.drop_left' x,D]at this;omega
     |_=>exact c.elim
    |_=>exact c.elim
def bz:(l:List (Nat×Sp))->Nat->(Env->Sv->Lv->C->aa->Prop)->i5 l
 |[],_,c=>c [] [] []
 |(t,.v k)::l,d,c=>nj k (i5 l) λn=>bz l d λe j h=>c ((t,n.headD undef)::e) j h
 |(t,.l k q)::l,d,c=>λb=>nj k (i5 l) λn=>bz l (d+1) λe j h=>c ((t,.pointer (some (ag b)))::e) ((t,some (d,0))::j) ((b,n,q)::h)
def oJ:(l:List (Nat×Sp))->i5 l->TS->List Nat->C->aa->Prop
 |[],c,_,_,e,d=>c e d
 |(t,.v j)::l,c,s,is,e,d=>match s.E.get? t with
  |some v=>mB j (i5 l) [v] c λh=>oJ l h s is e d
  |none=>False
 |(t,.l j k)::l,c,s,is,e,d=>match s.S.get? t with
  |some (i,0)=>match s.L[i]? with
   |some X=>cF (cv X.2.2 k&&!is.any (cv i)) (mB j (i5 l) X.2.1 (c X.1) λh=>oJ l h s (i::is) e d)
   |none=>False
  |_=>False
def Ia{E E':Env}{t:Nat}{v:ab}(k:E'.get? t=some v)(h:∀t v,E.get? t=some v->E'.get? t=some v):∀c d,Env.get? ((t,v)::E) c=some d->E'.get? c=some d:=λc d j=>by
 simp only[Env.get?]at j;cases e:cv t c with
 |true=>
  rw[e,cond_true]at j;rw[ez]at e
  grind
 |false=>
  grind
structure zS(s:TS)(n:Nat)(is js:List Nat)(E:Env)(S:Sv):Prop where
 sub:∀t v,E.get? t=some v->s.E.get? t=some v
 nd:js.Nodup
 dj:∀j∈js,j∉is
 lt:∀j∈js,∃X,s.L[j]? =some X
 sl:∀t i k,S.get? t=some (i,k)->n<=i/\∃j,js[i - n]? =some j/\s.S.get? t=some (j,k)/\∃v,E.get? t=some v
def TP{s:TS}{w:C}(O:Inv s w){R:aa}:∀{l:List (Nat×Sp)} {n:Nat} {K:Env->Sv->Lv->C->aa->Prop} {is:List Nat},oJ l (bz l n K) s is w R->
  ∃e h u,zS s n is u e h/\K e h (u.filterMap λj=>(s.L[j]? :Option (Nat×List ab×aF))) w R:=by
 intro l;induction l with
 |nil=>
  intro n K is c;exact⟨[],[],[],⟨λt v c=>by(simp[Env.get?]at c),.nil,λ_ c=>by grind,λ_ c=>by grind,λt i A c=>by(cases c)⟩,c⟩
 |cons p l M=>
  intro n K is c;obtain⟨t,sp⟩:=p;cases sp with
  |v ts=>
   unfold oJ at c;split at c
   .rename_i v Z;have E:=Kp (K:=λG=>bz l n λe h D=>K ((t,G.headD undef)::e) h D) c;obtain⟨e,h,u,d,J⟩:=M E;refine⟨(t,v)::e,h,u,⟨Ia Z d.sub,d.nd,d.dj,d.lt,λB i A q=>?_⟩,J⟩;obtain⟨z,j,F,T,N,h4⟩:=d.sl B i A q;refine⟨z,j,F,T,?_⟩;simp only[Env.get?]
    grind
   grind
  |l ts P=>
   unfold oJ at c;split at c
   .rename_i i I;split at c
    .rename_i X W;obtain⟨z,F⟩:=dU c;rw[bC,ez,Bool.not_eq_true',List.any_eq_false]at z;have E:=Kp (K:=λG=>bz l (n+1) λe h D=>K ((t,.pointer (some (ag X.1)))::e) ((t,some (n,0))::h) ((X.1,G,P)::D)) F;obtain⟨e,h,u,d,J⟩:=M E;obtain⟨X',H,Y⟩:=O.sl t i 0 I;rw[W]at H;cases H;refine⟨(t,.pointer (some (ag X.1)))::e,(t,some (n,0))::h,i::u,⟨Ia ?_ d.sub,List.nodup_cons.2 ⟨λy=>d.dj i y (by simp),d.nd⟩,λj k=>?_,λj k=>?_,λB i' A q=>?_⟩,?_⟩
     .rw [Y,kD]
     .rcases ay.1 k with rfl|k
      .intro y;have:=z.2 j y;simp at this
      .exact λy=>d.dj j k (eb _ y)
     .rcases ay.1 k with rfl|k
      .grind
      .exact d.lt j k
     .simp only[Sv.get?]at q;cases x:cv t B with
      |true=>
       rw[x,cond_true]at q;rw[ez]at x;subst x;cases q;refine⟨b' _,i,by simp,I,.pointer (some (ag X.1)),?_⟩;simp[Env.get?]
      |false=>
       rw[x,cond_false]at q;obtain⟨g1,j,g2,Q,N,S⟩:=d.sl B i' A q;refine⟨by omega,j,?_,Q,N,?_⟩
       .grind
       .simp only[Env.get?,x,cond_false];exact S
     grind
    grind
   grind
def zS.inv{s:TS}{w:C}(e:Inv s w){c:List Nat}{E:Env}{S:Sv}(h:zS s 0 [] c E S):Inv ⟨E,S,c.filterMap λd=>(s.L[d]? :Option (Nat×List ab×aF)),w,false⟩ w:=by
 refine⟨e.lc.pick c h.nd,by simp,λt i k x=>?_⟩;obtain⟨-,d,z,n,v,j⟩:=h.sl t i k x;obtain⟨X,A,u⟩:=e.sl t d k n;have:=h.sub t v j;rw[u]at this;cases this;refine⟨X,?_,j⟩;have all:∀(c:List Nat) (i:Nat),(∀d∈c,∃X,s.L[d]? =some X)->c[i]? =some d->(c.filterMap λd=>(s.L[d]? :Option (Nat×List ab×aF)))[i]? =some X:=by
  intro c;induction c with
  |nil=>grind
  |cons a c F=>
   intro i q D;obtain⟨y,B⟩:=q a (by simp)
   grind
 exact all c i h.lt (by omega)
def o4:(ts:List Tk)->(X:Type)->(X->X->Prop)->l5 ts X->l5 ts X->Prop
 |[],_,r,c,d=>r c d
 |.o h::ts,X,r,c,d=>∀e:h.T,o4 ts X r (c e) (d e)
 |.a _::ts,X,r,c,d=>o4 ts X r c d
 |.t _::ts,X,r,c,d=>o4 ts X r c d
 |.g _ _ _::ts,X,r,c,d=>o4 ts X r c d
def vW:(l:List (Nat×Sp))->i5 l->i5 l->Prop
 |[],c,d=>∀(w:C) (R:aa),c w R->d w R
 |(_,.v e)::l,c,d=>o4 e (i5 l) (vW l) c d
 |(_,.l e _)::l,c,d=>∀b:Nat,o4 e (i5 l) (vW l) (c b) (d b)
def Io:∀{ts:List Tk} {X:Type} {r:X->X->Prop} {e h:List ab->X},(∀d,r (e d) (h d))->o4 ts X r (nj ts X e) (nj ts X h):=by
 intro ts;induction ts with
 |nil=>intro X r e h c;exact c []
 |cons t ts j=>
  intro X r e h c;cases t with
  |o n=>intro x;exact j λd=>c _
  |a k=>exact j λd=>c _
  |t k=>exact j λd=>c _
  |g u q k=>exact j λd=>c _
def Re:∀{l:List (Nat×Sp)} {n:Nat} {h j:Env->Sv->Lv->C->aa->Prop},(∀e q k d c,h e q k d c->j e q k d c)->vW l (bz l n h) (bz l n j):=by
 intro l;induction l with
 |nil=>intro n h j u d c;exact u _ _ _ d c
 |cons p l w=>
  intro n h j u;obtain⟨t,x⟩:=p;cases x with
  |v y=>exact Io λz=>w λe q k d c=>u _ _ _ d c
  |l y A=>intro b;exact Io λz=>w λe q k d c=>u _ _ _ d c
structure Fx where
 P:aR
 fn:Func
 ord:List (Nat×Tr)
 lv:List Nat
def Fx.c(X:Fx):Code:=X.fn.body.getD .skip
def Fx.n(X:Fx):Cx:=cx X.fn.ntmps
def I4:List (Nat×Tr)->Nat->Option Tr
 |[],_=>none
 |(i,l)::o,c=>bif cv i c then some l else I4 o c
def Fx.at(X:Fx)(d:List Bool)(R:aa)(a:Act)(w:C):Prop:=qQ X.P X.n (fO X.P X.n X.c (bodyPost X.P X.fn R) d) a w
def Fx.Sem(X:Fx)(c:List Bool)(E:Env)(S:Sv)(L:Lv)(w:C)(R:aa):Prop:=∀a,Ag X.n a E->Inv ⟨E,S,L,w,false⟩ w->X.at c R a w
structure l6(X:Fx) where
 q:List Bool
 sp:List (Nat×Sp)
 F:i5 sp
 ok:∀(R:aa) (s:TS) (w:C) (a:Act),Ag X.n a s.E->Inv s w->oJ sp F s [] w R->X.at q R a w
def tz:List Bool->List Bool->Bool
 |[],[]=>true
 |a::l,b::m=>(match a,b with |true,true=>true|false,false=>true|_,_=>false)&&tz l m
 |_,_=>false
def FL:∀{l m:List Bool},tz l m=true->l=m
 |[],[],_=>rfl
 |a::l,b::m,c=>by
  unfold tz at c;rw[bC]at c;rw[FL c.2]
  grind
 |[],_::_,c=>by cases c
 |_::_,[],c=>by cases c
def w9{X:Fx}(R:aa):List (l6 X)->List Bool->Option (TS->Prop)
 |[],_=>none
 |c::h,e=>bif tz c.q e then some λs=>match s.d with
  |true=>False
  |false=>oJ c.sp c.F s [] s.w R else w9 R h e
def Fx.EA(X:Fx)(es:List (l6 X))(R:aa):ma:=⟨I4 X.ord,w9 R es,X.lv⟩
def Fx.Mb{X:Fx}{es:List (l6 X)}{R:aa}:q' X.P X.n (X.EA es R) X.c (bodyPost X.P X.fn R):=by
 intro z B u s A a D j h;have e:w9 R es z=some B:=u;clear u;induction es with
 |nil=>cases e
 |cons k es G=>
  unfold w9 at e;cases x:tz k.q z with
  |true=>
   rw[x,cond_true]at e;cases e;have:=FL x;subst this;cases y:s.d with
   |true=>grind
   |false=>
    rw[y]at h;have E:=j.rel;rw[y]at E;have F:A=s.w:=by grind
    rw[<-F]at h;exact k.ok R s A a D j h
  |false=>
   grind
def Fx.zE(X:Fx)(es:List (l6 X))(d:List Bool)(E:Env)(S:Sv)(L:Lv)(w:C)(R:aa):Prop:=AO X.P X.n (X.EA es R) X.c (vf X.P X.fn R) d ⟨E,S,L,w,false⟩
def Fx.GZ{X:Fx}{es:List (l6 X)}{c:List Bool}{E:Env}{S:Sv}{L:Lv}{w:C}{R:aa}(h:X.zE es c E S L w R):X.Sem c E S L w R:=λa e d=>PG (s:=⟨E,S,L,w,false⟩) (Fx.Mb (es:=es)) KU e d h
def Hh{X:Fx}{u:List Bool}{x:List (Nat×Sp)}{K:Env->Sv->Lv->C->aa->Prop}(z:∀c d k w R,K c d k w R->X.Sem u c d k w R)(R:aa)(s:TS)(w:C)(a:Act)(e:Ag X.n a s.E)(j:Inv s w)(h:oJ x (bz x 0 K) s [] w R):X.at u R a w:=by obtain⟨c,d,B,q,y⟩:=TP j h;exact z _ _ _ _ _ y a ⟨e.defers,e.size,λt v A=>e.get t v (q.sub t v A)⟩ (q.inv j)
def bK(X:Fx)(h:List Bool)(d:List (Nat×Sp))(F:i5 d)(e:F=bz d 0 (X.Sem h):=by kernel_rfl):l6 X:=⟨h,d,F,λk s q a n j c=>by subst e;exact Hh (λ_ _ _ _ _ c=>c) k s q a n j c⟩
def aC(X:Fx)(es:List (l6 X))(h:List Bool)(d:List (Nat×Sp))(F:i5 d)(e:F=bz d 0 (X.zE es h):=by kernel_rfl):l6 X:=⟨h,d,F,λk s q a n j c=>by subst e;exact Hh (λ_ _ _ _ _ c=>Fx.GZ c) k s q a n j c⟩
def bL{X:Fx}(es:List (l6 X))(d:List Bool)(c:List (Nat×Sp)):vW c (bz c 0 (X.zE es d)) (bz c 0 (X.Sem d)):=Re λ_ _ _ _ _ e=>Fx.GZ e
def aM(X:Fx)(es:List (l6 X)){f:bW}{args:List ab}{w:C}{R:aa}{T:Prop}(h:T)(j:X.P.funcs[f]? =some X.fn:=by kernel_rfl)(d:X.fn.body=some X.c:=by kernel_rfl)(k:Nat.ble args.length X.fn.ntmps=true:=by kernel_rfl)(e:T=ix X.P X.n (X.EA es R) X.c [] (vf X.P X.fn R) ⟨ke 0 args,[],[],w,false⟩:=by kernel_rfl):ah X.P f args.toArray w R:=
 Pm j d k Fx.Mb (e▸h)
def J':Bool->List Nat->List Bool
 |_,[]=>[]
 |b,c::l=>List.replicate c b++J' (!b) l
abbrev ai(l:List Nat):List Bool:=J' true l
abbrev Ps:=List (Nat×Sp)
abbrev ls(l:List Nat):Tr:=Tr.sq l .nil
end Go.W
set_option maxRecDepth 100000
set_option maxHeartbeats 2000000
namespace Go.Proofs.YthkcmmldhceegaaGreatDoor
open Go renaming World->C,Calls->ah,Program->aR,Value->ab,TypeId->aF,FuncId->bW,IntKind->iH
open Go.IntKind renaming wrap->ad
open _root_.Int renaming toNat->ae,tmod->bw
open Go.IntWalk renaming i64_in->bf
open Go.Builtin renaming append_->bg
open Go.Sem renaming run->a'
open _root_.Bool renaming and_eq_true->bC
open _root_.Nat renaming le_refl->b',le_trans->bB,zero_le->fj,beq->cv,beq_eq->ez
open _root_.Array renaming replicate->gI
open Go.Region renaming wanted->cU,ready->eA
open Go.Proofs.Tryz renaming prog->V
open _root_.Decidable renaming decide->af
open Go.Ending renaming returned->U
open List renaming mem_append->a6,mem_cons->ay,not_mem_nil->aW,mem_of_getElem?->aE,getElem?_eq_getElem->a9,mem_append_left->bS,length_append->cC,length_cons->e8,length_nil->hZ,mem_singleton->cO,flatMap_cons->dT,mem_iff_getElem?->g5,mem_cons_of_mem->eb,drop_eq_getElem_cons->dZ,take_add_one->eI,drop_of_length_le->c9
open Go Go.W
def mp{a b:Prop}(h:a)(e:a=b:=by kernel_rfl):b:=e▸h
abbrev hF:=Exit->Act->C->Prop
abbrev o8(P:aR)(n:Nat)(K:Env->C->aa->Prop)(c:Code)(Q:aa->hF):Prop:=∀(R:aa) (E:Env) (w:C),K E w R->WP P (cx n) c (Q R) E w
abbrev zN(P:aR)(n:Nat)(K:Env->C->aa->Prop)(c:Code)(Q:aa->hF):Prop:=∀(R:aa) (E:Env) (w:C),K E w R->LP P (cx n) c (Q R) E w
abbrev bH(w:C)(p:Addr)(K:Int->Int->Int->J->Prop):Prop:=∃c:Int,∃d:Int,∃e:Int,∃h:J,w.cell? (p.add 0)=some (.i c)/\w.cell? (p.add 1)=some (.int .u8 d)/\w.cell? (p.add 2)=some (.int .u8 e)/\w.cell? (p.add 3)=some (h.v)/\K c d e h
abbrev IT(w:C)(p:Addr)(K:Int->Int->Int->ByteArray->Int->Prop):Prop:=∃c:Int,∃d:Int,∃e:Int,∃h:ByteArray,∃j:Int,w.cell? (p.add 0)=some (.int .u8 c)/\w.cell? (p.add 1)=some (.int .u8 d)/\w.cell? (p.add 2)=some (.int .u8 e)/\w.cell? (p.add 3)=some (.string h)/\w.cell? (p.add 4)=some (.i j)/\K c d e h j
abbrev cG(w:C)(p:Addr)(K:Int->Int->Int->Prop):Prop:=∃c:Int,∃d:Int,∃e:Int,w.cell? (p.add 0)=some (.i c)/\w.cell? (p.add 1)=some (.i d)/\w.cell? (p.add 2)=some (.i e)/\K c d e
abbrev pY(w:C)(p:Addr)(K:Int->J->Int->Int->Int->ByteArray->Int->Int->Int->Prop):Prop:=∃c:Int,∃d:J,∃e:Int,∃h:Int,∃j:Int,∃k:ByteArray,∃n:Int,∃q:Int,∃x:Int,w.cell? (p.add 0)=some (.i c)/\w.cell? (p.add 1)=some (d.v)/\w.cell? (p.add 2)=some (.i e)/\w.cell? (p.add 3)=some (.i h)/\w.cell? (p.add 4)=some (.u j)/\w.cell? (p.add 5)=some (.string k)/\w.cell? (p.add 6)=some (.i n)/\w.cell? (p.add 7)=some (.i q)/\w.cell? (p.add 8)=some (.i x)/\K c d e h j k n q x
abbrev oj(w:C)(p:Addr)(K:Int->Int->Int->J->ByteArray->J->J->Prop):Prop:=∃c:Int,∃d:Int,∃e:Int,∃h:J,∃j:ByteArray,∃k:J,∃n:J,w.cell? (p.add 0)=some (.i c)/\w.cell? (p.add 1)=some (.i d)/\w.cell? (p.add 2)=some (.i e)/\w.cell? (p.add 3)=some (h.v)/\w.cell? (p.add 4)=some (.string j)/\w.cell? (p.add 5)=some (k.v)/\w.cell? (p.add 6)=some (n.v)/\K c d e h j k n
abbrev pX(w:C)(p:Addr)(K:J->J->J->J->Prop):Prop:=∃c:J,∃d:J,∃e:J,∃h:J,w.cell? (p.add 0)=some (c.v)/\w.cell? (p.add 1)=some (d.v)/\w.cell? (p.add 2)=some (e.v)/\w.cell? (p.add 3)=some (h.v)/\K c d e h
abbrev rV(w:C)(p:Addr)(K:J->J->Prop):Prop:=∃c:J,∃d:J,w.cell? (p.add 0)=some (c.v)/\w.cell? (p.add 1)=some (d.v)/\K c d
abbrev gL(f:bW)(xs:Array ab)(w:C)(K:Bool->C->Prop):Prop:=ah V f xs w λd e=>∃c:Bool,d=U (.bool c)/\K c e
abbrev bP(bs:List Nat)(f:bW)(xs:Array ab)(w:C)(K:Bool->C->Prop):Prop:=cV bs V f xs w λd e=>∃c:Bool,d=U (.bool c)/\K c e
abbrev en(f:bW)(xs:Array ab)(w:C)(K:Int->C->Prop):Prop:=ah V f xs w λd e=>∃c:Int,d=U (.i c)/\K c e
abbrev bG(bs:List Nat)(f:bW)(xs:Array ab)(w:C)(K:Int->C->Prop):Prop:=cV bs V f xs w λd e=>∃c:Int,d=U (.i c)/\K c e
abbrev ll(f:bW)(xs:Array ab)(w:C)(K:Int->Int->Int->J->C->Prop):Prop:=ah V f xs w λj k=>∃c:Int,∃d:Int,∃e:Int,∃h:J,j=U (.agg #[.i c,.int .u8 d,.int .u8 e,h.v])/\K c d e h k
abbrev eT(bs:List Nat)(f:bW)(xs:Array ab)(w:C)(K:Int->Int->Int->J->C->Prop):Prop:=cV bs V f xs w λj k=>∃c:Int,∃d:Int,∃e:Int,∃h:J,j=U (.agg #[.i c,.int .u8 d,.int .u8 e,h.v])/\K c d e h k
abbrev rp(f:bW)(xs:Array ab)(w:C)(K:J->C->Prop):Prop:=ah V f xs w λd e=>∃c:J,d=U (c.v)/\K c e
abbrev iv(bs:List Nat)(f:bW)(xs:Array ab)(w:C)(K:J->C->Prop):Prop:=cV bs V f xs w λd e=>∃c:J,d=U (c.v)/\K c e
abbrev e0(f:bW)(xs:Array ab)(w:C)(K:C->Prop):Prop:=ah V f xs w λc d=>c=U (.tuple #[])/\K d
abbrev fY(bs:List Nat)(f:bW)(xs:Array ab)(w:C)(K:C->Prop):Prop:=cV bs V f xs w λc d=>c=U (.tuple #[])/\K d
abbrev Pe(f:bW)(xs:Array ab)(w:C)(K:Int->Int->C->Prop):Prop:=ah V f xs w λe h=>∃c:Int,∃d:Int,e=U (.tuple #[.i c,.i d])/\K c d h
abbrev Pg(f:bW)(xs:Array ab)(w:C)(K:Int->Bool->C->Prop):Prop:=ah V f xs w λe h=>∃c:Int,∃d:Bool,e=U (.tuple #[.i c,.bool d])/\K c d h
abbrev Px(bs:List Nat)(f:bW)(xs:Array ab)(w:C)(K:Int->Bool->C->Prop):Prop:=cV bs V f xs w λe h=>∃c:Int,∃d:Bool,e=U (.tuple #[.i c,.bool d])/\K c d h
abbrev Az(bs:List Nat)(f:bW)(xs:Array ab)(w:C)(K:Int->Int->Bool->C->Prop):Prop:=cV bs V f xs w λh j=>∃c:Int,∃d:Int,∃e:Bool,h=U (.tuple #[.int .u8 c,.i d,.bool e])/\K c d e j
abbrev Ph(f:bW)(xs:Array ab)(w:C)(K:Int->Int->Int->ByteArray->Int->Int->C->Prop):Prop:=ah V f xs w λn q=>∃c:Int,∃d:Int,∃e:Int,∃h:ByteArray,∃j:Int,∃k:Int,n=U (.tuple #[.agg #[.int .u8 c,.int .u8 d,.int .u8 e,.string h,.i j],.i k])/\K c d e h j k q
abbrev GB(f:bW)(xs:Array ab)(w:C)(K:(Option Addr)->C->Prop):Prop:=ah V f xs w λd e=>∃c:Option Addr,d=U (.pointer c)/\K c e
abbrev wC(bs:List Nat)(f:bW)(xs:Array ab)(w:C)(K:(Option Addr)->C->Prop):Prop:=cV bs V f xs w λd e=>∃c:Option Addr,d=U (.pointer c)/\K c e
abbrev O9(f:bW)(xs:Array ab)(w:C)(K:ab->C->Prop):Prop:=ah V f xs w λd e=>∃c:ab,d=U (c)/\K c e
abbrev O'(f:bW)(xs:Array ab)(w:C)(K:Int->Int->Int->J->Int->C->Prop):Prop:=ah V f xs w λk n=>∃c:Int,∃d:Int,∃e:Int,∃h:J,∃j:Int,k=U (.tuple #[.agg #[.i c,.int .u8 d,.int .u8 e,h.v],.i j])/\K c d e h j n
abbrev tE(bs:List Nat)(f:bW)(xs:Array ab)(w:C)(K:Int->Int->Int->J->Int->C->Prop):Prop:=cV bs V f xs w λk n=>∃c:Int,∃d:Int,∃e:Int,∃h:J,∃j:Int,k=U (.tuple #[.agg #[.i c,.int .u8 d,.int .u8 e,h.v],.i j])/\K c d e h j n
abbrev Pt(bs:List Nat)(f:bW)(xs:Array ab)(w:C)(K:(Option Nat)->C->Prop):Prop:=cV bs V f xs w λd e=>∃c:Option Nat,d=U (.map c)/\K c e
abbrev As(f:bW)(xs:Array ab)(w:C)(K:Int->C->Prop):Prop:=ah V f xs w λd e=>∃c:Int,d=U (.int .u8 c)/\K c e
abbrev Ax(bs:List Nat)(f:bW)(xs:Array ab)(w:C)(K:Int->Int->C->Prop):Prop:=cV bs V f xs w λe h=>∃c:Int,∃d:Int,e=U (.tuple #[.int .u8 c,.i d])/\K c d h
abbrev mc(f:bW)(xs:Array ab)(w:C)(K:ByteArray->C->Prop):Prop:=ah V f xs w λd e=>∃c:ByteArray,d=U (.string c)/\K c e
abbrev eM(bs:List Nat)(f:bW)(xs:Array ab)(w:C)(K:ByteArray->C->Prop):Prop:=cV bs V f xs w λd e=>∃c:ByteArray,d=U (.string c)/\K c e
abbrev Gy(f:bW)(xs:Array ab)(w:C)(K:Int->Int->Int->J->Int->Int->C->Prop):Prop:=ah V f xs w λn q=>∃c:Int,∃d:Int,∃e:Int,∃h:J,∃j:Int,∃k:Int,n=U (.tuple #[.agg #[.i c,.int .u8 d,.int .u8 e,h.v],.i j,.i k])/\K c d e h j k q
abbrev pv(f:bW)(xs:Array ab)(w:C)(K:Int->Int->Int->C->Prop):Prop:=ah V f xs w λh j=>∃c:Int,∃d:Int,∃e:Int,h=U (.agg #[.i c,.i d,.i e])/\K c d e j
abbrev cJ(bs:List Nat)(f:bW)(xs:Array ab)(w:C)(K:Int->Int->Int->C->Prop):Prop:=cV bs V f xs w λh j=>∃c:Int,∃d:Int,∃e:Int,h=U (.agg #[.i c,.i d,.i e])/\K c d e j
abbrev Pu(bs:List Nat)(f:bW)(xs:Array ab)(w:C)(K:Int->Int->Int->Bool->C->Prop):Prop:=cV bs V f xs w λj k=>∃c:Int,∃d:Int,∃e:Int,∃h:Bool,j=U (.tuple #[.agg #[.i c,.i d,.i e],.bool h])/\K c d e h k
abbrev Pa(f:bW)(xs:Array ab)(w:C)(K:Int->Int->Int->Int->C->Prop):Prop:=ah V f xs w λj k=>∃c:Int,∃d:Int,∃e:Int,∃h:Int,j=U (.tuple #[.agg #[.i c,.i d,.i e],.i h])/\K c d e h k
abbrev cW(bs:List Nat)(f:bW)(xs:Array ab)(w:C)(K:Int->Int->Int->Int->C->Prop):Prop:=cV bs V f xs w λj k=>∃c:Int,∃d:Int,∃e:Int,∃h:Int,j=U (.tuple #[.agg #[.i c,.i d,.i e],.i h])/\K c d e h k
abbrev Pv(bs:List Nat)(f:bW)(xs:Array ab)(w:C)(K:J->Int->Int->C->Prop):Prop:=cV bs V f xs w λh j=>∃c:J,∃d:Int,∃e:Int,h=U (.tuple #[c.v,.i d,.i e])/\K c d e j
abbrev Pb(f:bW)(xs:Array ab)(w:C)(K:Int->J->Int->Int->Int->ByteArray->Int->Int->Int->C->Prop):Prop:=ah V f xs w λy z=>∃c:Int,∃d:J,∃e:Int,∃h:Int,∃j:Int,∃k:ByteArray,∃n:Int,∃q:Int,∃x:Int,y=U (.agg #[.i c,d.v,.i e,.i h,.u j,.string k,.i n,.i q,.i x])/\K c d e h j k n q x z
abbrev Pw(bs:List Nat)(f:bW)(xs:Array ab)(w:C)(K:Int->J->Int->Int->Int->ByteArray->Int->Int->Int->C->Prop):Prop:=cV bs V f xs w λy z=>∃c:Int,∃d:J,∃e:Int,∃h:Int,∃j:Int,∃k:ByteArray,∃n:Int,∃q:Int,∃x:Int,y=U (.agg #[.i c,d.v,.i e,.i h,.u j,.string k,.i n,.i q,.i x])/\K c d e h j k n q x z
abbrev Pc(f:bW)(xs:Array ab)(w:C)(K:ByteArray->Int->C->Prop):Prop:=ah V f xs w λe h=>∃c:ByteArray,∃d:Int,e=U (.tuple #[.string c,.i d])/\K c d h
abbrev Ay(bs:List Nat)(f:bW)(xs:Array ab)(w:C)(K:ByteArray->Int->C->Prop):Prop:=cV bs V f xs w λe h=>∃c:ByteArray,∃d:Int,e=U (.tuple #[.string c,.i d])/\K c d h
abbrev Gz(f:bW)(xs:Array ab)(w:C)(K:J->ByteArray->C->Prop):Prop:=ah V f xs w λe h=>∃c:J,∃d:ByteArray,e=U (.tuple #[c.v,.string d])/\K c d h
abbrev GA(f:bW)(xs:Array ab)(w:C)(K:J->Int->C->Prop):Prop:=ah V f xs w λe h=>∃c:J,∃d:Int,e=U (.tuple #[c.v,.i d])/\K c d h
abbrev GH(bs:List Nat)(f:bW)(xs:Array ab)(w:C)(K:J->Int->C->Prop):Prop:=cV bs V f xs w λe h=>∃c:J,∃d:Int,e=U (.tuple #[c.v,.i d])/\K c d h
abbrev Pd(f:bW)(xs:Array ab)(w:C)(K:J->J->C->Prop):Prop:=ah V f xs w λe h=>∃c:J,∃d:J,e=U (.agg #[c.v,d.v])/\K c d h
abbrev tF(bs:List Nat)(f:bW)(xs:Array ab)(w:C)(K:J->J->C->Prop):Prop:=cV bs V f xs w λe h=>∃c:J,∃d:J,e=U (.agg #[c.v,d.v])/\K c d h
abbrev uh(w:C)(p:Addr)(c d e:ab)(K:Unit->Prop):Prop:=w.cell? (p.add 0)=some c/\w.cell? (p.add 1)=some d/\w.cell? (p.add 2)=some e/\K ()
abbrev Bu(w:C)(p:Addr)(c d e h j k n q u:ab)(K:Unit->Prop):Prop:=w.cell? (p.add 0)=some c/\w.cell? (p.add 1)=some d/\w.cell? (p.add 2)=some e/\w.cell? (p.add 3)=some h/\w.cell? (p.add 4)=some j/\w.cell? (p.add 5)=some k/\w.cell? (p.add 6)=some n/\w.cell? (p.add 7)=some q/\w.cell? (p.add 8)=some u/\K ()
abbrev qC(w:C)(p:Addr)(c d e:ab)(K:C->Prop):Prop:=ao w p c λw=>ao w (p.add 1) d λw=>ao w (p.add 2) e λw=>K w
abbrev g8(w:C)(p:Addr)(c d e h:ab)(K:C->Prop):Prop:=ao w p c λw=>ao w (p.add 1) d λw=>ao w (p.add 2) e λw=>ao w (p.add 3) h λw=>K w
abbrev LK(w:C)(p:Addr)(c d e h j:ab)(K:C->Prop):Prop:=ao w p c λw=>ao w (p.add 1) d λw=>ao w (p.add 2) e λw=>ao w (p.add 3) h λw=>ao w (p.add 4) j λw=>K w
abbrev UL(w:C)(p:Addr)(c d e h j k n:ab)(K:C->Prop):Prop:=ao w p c λw=>ao w (p.add 1) d λw=>ao w (p.add 2) e λw=>ao w (p.add 3) h λw=>ao w (p.add 4) j λw=>ao w (p.add 5) k λw=>ao w (p.add 6) n λw=>K w
abbrev i1:Nat:=0
abbrev bp:Nat:=3
abbrev db:Nat:=5
abbrev da:Nat:=9
abbrev cp:Nat:=22
abbrev ju:Nat:=23
abbrev gu:Nat:=24
abbrev ec:Nat:=26
abbrev MA:Nat:=30
abbrev bM:Nat:=32
abbrev c':Nat:=38
abbrev g9:Nat:=40
abbrev dk:Nat:=48
abbrev VB:Nat:=51
abbrev b3:Nat:=53
abbrev bV:Nat:=55
abbrev lW:Nat:=58
abbrev VA:Nat:=67
abbrev Vy:Nat:=89
abbrev y4:Nat:=96
abbrev Vz:Nat:=99
abbrev bI:Nat:=111
abbrev aL:Nat:=113
abbrev EN:Nat:=118
abbrev EM:Nat:=119
abbrev qI:Nat:=121
abbrev Vx:Nat:=139
abbrev vJ:Nat:=140
abbrev lT:Nat:=145
abbrev mK:Nat:=152
abbrev EK:Nat:=155
abbrev lU:Nat:=157
abbrev Vw:Nat:=166
abbrev cE:Nat:=173
abbrev aV:Nat:=175
abbrev hB:Nat:=186
abbrev y5:Nat:=187
abbrev vK:Nat:=189
abbrev mJ:Nat:=194
abbrev i2:Nat:=202
abbrev lV:Nat:=215
abbrev EL:Nat:=222
abbrev B5:Nat:=3
abbrev Cv:Nat:=4
abbrev uH:Nat:=5
abbrev Cw:Nat:=6
abbrev CG:Nat:=7
abbrev uI:Nat:=8
abbrev ow:Nat:=9
abbrev CH:Nat:=10
abbrev xD:Nat:=11
abbrev B6:Nat:=12
abbrev xF:Nat:=13
abbrev xw:Nat:=14
abbrev ou:Nat:=15
abbrev eO:Nat:=16
abbrev Cy:Nat:=17
abbrev xE:Nat:=18
abbrev iR:Nat:=19
abbrev r8:Nat:=20
abbrev xL:Nat:=21
abbrev xO:Nat:=22
abbrev r7:Nat:=23
abbrev x6:Nat:=24
abbrev r1:Nat:=25
abbrev qe:Nat:=26
abbrev CI:Nat:=27
abbrev uJ:Nat:=28
abbrev xM:Nat:=29
abbrev xN:Nat:=30
abbrev Cm:Nat:=31
abbrev xB:Nat:=32
abbrev Cr:Nat:=33
abbrev xz:Nat:=34
abbrev Ck:Nat:=35
abbrev Ct:Nat:=36
abbrev xA:Nat:=37
abbrev xx:Nat:=38
abbrev qf:Nat:=39
abbrev mu:Nat:=40
abbrev CS:Nat:=41
abbrev x7:Nat:=42
abbrev yc:Nat:=43
abbrev CZ:Nat:=44
abbrev x5:Nat:=45
abbrev xj:Nat:=46
abbrev CJ:Nat:=47
abbrev r0:Nat:=48
abbrev xu:Nat:=49
abbrev Cu:Nat:=50
abbrev xC:Nat:=51
abbrev fi:Nat:=52
abbrev lI:Nat:=53
abbrev Cb:Nat:=54
abbrev xv:Nat:=55
abbrev uG:Nat:=56
abbrev Cs:Nat:=57
abbrev Dd:Nat:=58
abbrev Da:Nat:=59
abbrev C':Nat:=60
abbrev x9:Nat:=61
abbrev Dl:Nat:=62
abbrev Cz:Nat:=63
abbrev CC:Nat:=64
abbrev B1:Nat:=65
abbrev xk:Nat:=66
abbrev Cn:Nat:=67
abbrev Cp:Nat:=68
abbrev Co:Nat:=69
abbrev Cq:Nat:=70
abbrev B9:Nat:=71
abbrev Cl:Nat:=72
abbrev mr:Nat:=73
abbrev jj:Nat:=74
abbrev qd:Nat:=75
abbrev uF:Nat:=76
abbrev De:Nat:=77
abbrev x':Nat:=78
abbrev yb:Nat:=79
abbrev CA:Nat:=80
abbrev CB:Nat:=81
abbrev Jn:Nat:=82
abbrev xy:Nat:=83
abbrev Cj:Nat:=84
abbrev Ca:Nat:=85
abbrev B':Nat:=86
abbrev B8:Nat:=87
abbrev uB:Nat:=88
abbrev uA:Nat:=89
abbrev xo:Nat:=90
abbrev Cf:Nat:=91
abbrev Db:Nat:=92
abbrev Dk:Nat:=93
abbrev Di:Nat:=94
abbrev Dh:Nat:=95
abbrev Df:Nat:=96
abbrev Dj:Nat:=97
abbrev xJ:Nat:=98
abbrev xI:Nat:=99
abbrev xH:Nat:=100
abbrev Jo:Nat:=101
abbrev B7:Nat:=102
abbrev lH:Nat:=103
abbrev Cc:Nat:=104
abbrev qa:Nat:=105
abbrev qc:Nat:=106
abbrev p':Nat:=107
abbrev Cd:Nat:=108
abbrev Ce:Nat:=109
abbrev xp:Nat:=110
abbrev uD:Nat:=111
abbrev nk:Nat:=112
abbrev Cg:Nat:=113
abbrev Dc:Nat:=114
abbrev yd:Nat:=115
abbrev oA:Nat:=116
abbrev uT:Nat:=117
abbrev dC:Nat:=118
abbrev nr:Nat:=119
abbrev ib:Nat:=120
abbrev x8:Nat:=121
abbrev ic:Nat:=122
abbrev ya:Nat:=123
abbrev Jp:Nat:=124
abbrev xK:Nat:=125
abbrev CD:Nat:=126
abbrev Ch:Nat:=129
abbrev rY:Nat:=130
abbrev nl:Nat:=131
abbrev ov:Nat:=132
abbrev xn:Nat:=133
abbrev CK:Nat:=134
abbrev xP:Nat:=135
abbrev CL:Nat:=136
abbrev uC:Nat:=139
abbrev rZ:Nat:=140
abbrev uE:Nat:=141
abbrev Jq:Nat:=142
abbrev CQ:Nat:=143
abbrev oy:Nat:=144
abbrev r4:Nat:=145
abbrev uR:Nat:=146
abbrev xQ:Nat:=147
abbrev CP:Nat:=148
abbrev uP:Nat:=149
abbrev CO:Nat:=150
abbrev nq:Nat:=151
abbrev rX:Nat:=152
abbrev qb:Nat:=153
abbrev Ci:Nat:=154
abbrev oz:Nat:=155
abbrev CR:Nat:=156
abbrev xZ:Nat:=157
abbrev uQ:Nat:=158
abbrev r5:Nat:=159
abbrev xW:Nat:=160
abbrev xU:Nat:=161
abbrev xV:Nat:=162
abbrev np:Nat:=163
abbrev xR:Nat:=164
abbrev xY:Nat:=165
abbrev uM:Nat:=166
abbrev uN:Nat:=167
abbrev xS:Nat:=168
abbrev uO:Nat:=169
abbrev CN:Nat:=170
abbrev CV:Nat:=171
abbrev xT:Nat:=172
abbrev kj:Nat:=173
abbrev CX:Nat:=174
abbrev dR:Nat:=175
abbrev CT:Nat:=176
abbrev r2:Nat:=177
abbrev r3:Nat:=178
abbrev CM:Nat:=179
abbrev xq:Nat:=180
abbrev uS:Nat:=181
abbrev r6:Nat:=182
abbrev uK:Nat:=183
abbrev ox:Nat:=184
abbrev CW:Nat:=185
abbrev nn:Nat:=186
abbrev x3:Nat:=187
abbrev x4:Nat:=188
abbrev CF:Nat:=189
abbrev xm:Nat:=190
abbrev B2:Nat:=191
abbrev xl:Nat:=192
abbrev CU:Nat:=193
abbrev uL:Nat:=194
abbrev xr:Nat:=195
abbrev CE:Nat:=196
abbrev xX:Nat:=197
abbrev CY:Nat:=198
abbrev So:Nat:=199
abbrev Sm:Nat:=200
abbrev Sn:Nat:=201
abbrev Sw:Nat:=202
abbrev Sq:Nat:=203
abbrev Su:Nat:=204
abbrev Sr:Nat:=205
abbrev B4:Nat:=207
abbrev B3:Nat:=208
abbrev xG:Nat:=209
namespace Hj
noncomputable abbrev X:Fx:=⟨V,Tryz.f16,[],[]⟩
abbrev P0:Ps:=[(0,.v [.I]),(1,.v [.I])]
abbrev S0(d c:Int)(w:C)(R:aa):Prop:=
 c≠0/\R (U (.i (bw d c))) w
noncomputable def aT:=aC X [] (ai [2]) P0 S0
def ok(c d:Int)(w:C)(R:aa)(h:Y (af (c<0)) (S0 (ad .i64 (0 - (ad .i64 (c+1)))) d w R) (S0 c d w R)):ah V eO #[.i c,.i d] w R:=aM X [aT] h
end Hj
namespace tR
noncomputable abbrev X:Fx:=⟨V,Tryz.f102,[],[]⟩
abbrev P0:Ps:=[(0,.v [.s]),(1,.v [.I]),(5,.v [.I])]
def L0(d:J)(e c:Int)(w:C)(R:aa):Prop:=bz P0 0 (X.Sem (ai [0,1,1,1,1])) d e c w R
noncomputable def az:=bK X (ai [0,1,1,1,1]) P0 L0
def cf:∀(d:J) (e c:Int) (w:C) (R:aa) (h:Y (af (c<((d.n:Nat):Int))) (aw d c λj=>∃t15:Int,w.cell? (j.add (ae c *1))=some (.i t15)/\
 Y (t15==e) (R (U (.bool true)) w) (L0 d e (ad .i64 (c+1)) w R)) (R (U (.bool false)) w)),L0 d e c w R:=mp (bL (X:=X) [az] (ai [0,1,1,1,1]) P0)
def ok(c:J)(d:Int)(w:C)(R:aa)(h:L0 c d 0 w R):ah V B7 #[c.v,.i d] w R:=aM X [az] h
end tR
namespace rA
noncomputable abbrev X:Fx:=⟨V,Tryz.f87,[(6,ls [0,1,2,3,4,5,6,7,8])],[]⟩
abbrev P0:Ps:=[(0,.v [.s]),(1,.v [.s]),(5,.v [.I])]
def L0(c d:J)(e:Int)(w:C)(R:aa):Prop:=bz P0 0 (X.Sem (ai [0,1,1,1,2])) c d e w R
noncomputable def az:=bK X (ai [0,1,1,1,2]) P0 L0
def cf:∀(d j:J) (c:Int) (w:C) (R:aa) (h:Y (af (c<((d.n:Nat):Int))) (dM w λe=>aw d c λk=>∃t20:Int,e.cell? (k.add (ae c *1))=some (.i t20)/\
 aw j c λq=>∃t24:Int,e.cell? (q.add (ae c *1))=some (.i t24)/\
 Y (t20 !=t24) (R (U (.bool false)) e) (L0 d j (ad .i64 (c+1)) e R)) (R (U (.bool true)) w)),L0 d j c w R:=mp (bL (X:=X) [az] (ai [0,1,1,1,2]) P0)
def ok(c d:J)(w:C)(R:aa)(h:Y (((c.n:Nat):Int) !=((d.n:Nat):Int)) (R (U (.bool false)) w) (L0 c d 0 w R)):ah V B8 #[c.v,d.v] w R:=aM X [az] h
end rA
open Go Go.W Go.RowKit Go.Lib
def kH:gJ V bM db (.int .u8 0) 1 1:=⟨by kernel_rfl,by kernel_rfl,rfl,by decide,by decide⟩
def h':gJ V cp bp (.int .i64 0) 1 8:=⟨by kernel_rfl,by kernel_rfl,rfl,by decide,by decide⟩
abbrev Bytes(w:C)(s:J)(bs:List UInt8):Prop:=Rd w s (bs.map dG)
abbrev jx(w:C)(s:J)(bs:List UInt8):Prop:=Ow w db s (bs.map dG)
abbrev bo(w:C)(s:J)(l:List Int):Prop:=Rd w s (l.map bd)
def Bytes.len{w:C}{s:J}{bs:List UInt8}(h:Bytes w s bs):s.n=bs.length:=by simpa using h.1
def bo.len{w:C}{s:J}{bs:List Int}(h:bo w s bs):s.n=bs.length:=by simpa using h.1
def Bytes.cell{w:C}{s:J}{bs:List UInt8}(h:Bytes w s bs){i j:Nat}{b:UInt8}(hi:bs[i]? =some b)(c:j=i *1){K:Addr->Prop}(d:∀p,s.a=some p->w.cell? (p.add j)=some (.int .u8 (b.toNat:Int))->K p):W.cd s.a K:=
 Rd.get h (i:=i) (v:=dG b) (by simp[hi]) c d
def bo.cell{w:C}{s:J}{l:List Int}(h:bo w s l){i j:Nat}{b:Int}(hi:l[i]? =some b)(c:j=i *1){K:Addr->Prop}(d:∀p,s.a=some p->w.cell? (p.add j)=some (.int .i64 b)->K p):W.cd s.a K:=
 Rd.get h (i:=i) (v:=bd b) (by simp[hi]) c d
def z2{ty:aF}{w:C}{s src:J}{xs e:List UInt8}(y:jx w s xs)(z:Bytes w src e)(x:xs.length+e.length<=140737488355328):
  ∃c d,(bg #[bM,bM] ty #[s.v,src.v]).run V w=.ok c.v d/\jx d c (xs++e)/\Fr (λb=>b∈aO s) w d/\(∀b∈aO c,b∈aO s\/w.heap.size<=b)/\(c.a=none->s.a=none/\e=[]):=by obtain⟨c,d,k,n,q,u,h⟩:=NK (ty:=ty) kH y z (FQ _) (by simpa using x);exact⟨c,d,k,by unfold jx;rw[List.map_append];exact n,q,u,λj=>⟨(h j).1,by simpa using(h j).2⟩⟩
def Th(w:C)(T:aF)(cs:List ab)(h:cs.length<=1000000):Rd (w.alloc (.cells cs.toArray T)) ⟨some ⟨w.heap.size,0,none⟩,cs.length,cs.length⟩ cs:=(Ow.made w T cs _ rfl h).rd
def Tg(w:C)(b:UInt8):Bytes (w.alloc (.cells #[.int .u8 (b.toNat:Int)] db)) ⟨some ⟨w.heap.size,0,none⟩,1,1⟩ [b]:=Th w db [dG b] (by simp)
def bl(s:ByteArray):List UInt8:=s.data.toList
def ba(l:List UInt8):ByteArray:=⟨l.toArray⟩
def nW(l:List UInt8):bl (ba l)=l:=rfl
def mW(s:ByteArray):ba (bl s)=s:=rfl
def eS(s:ByteArray):(bl s).length=s.size:=rfl
def de(l:List UInt8):(ba l).size=l.length:=by simp[ba,ByteArray.size]
def U0(s:ByteArray):strCells s=(bl s).map dG:=by simp[strCells,bl,dG]
def sM:Tryz.prog.underlying da=some .string:=by kernel_rfl
def EP:Tryz.prog.underlying db=some (.int .u8):=by kernel_rfl
def FD{ty:aF}{w:C}{s:J}{xs:List UInt8}(x:jx w s xs)(t:ByteArray)(hb:xs.length+t.size<=140737488355328):
  ∃c e,(bg #[bM,da] ty #[s.v,.string t]).run V w=.ok c.v e/\jx e c (xs++bl t)/\Fr (λb=>b∈aO s) w e/\(∀b∈aO c,b∈aO s\/w.heap.size<=b):=by
 obtain⟨i,z,M,D,G⟩:=info_parts kH.hi;have I:s.n=xs.length:=by simpa using x.1
 have main:∀base,base<=w.heap.size->w.ownsRow base db 1 s.v s.n (xs.map dG)->∃u e,(bg #[bM,da] ty #[s.v,.string t]).run V w=.ok u e/\e.ownsRow base db 1 u (s.n+t.size) (xs.map dG++strCells t)/\w.grownBy e s.v.ownBlock/\(u=.slice none 0 0↔s.v=.slice none 0 0/\t.size=0):=
  λbase W T=>run_append_own_string (P:=V) w base bM da ty db i kH.ht sM z M D G s.v s.n (xs.map dG) T t (by unfold maxLen;omega) (by omega) W
 obtain⟨u,e,y,L,ac,al⟩:=main 0 (fj _) x.2;have hv:∃c:J,u=c.v/\c.n=s.n+t.size:=by
  rcases L.2 with⟨h,q⟩|⟨g,cap,cur,h,_⟩
  .exact ⟨⟨none,0,0⟩,h,by show 0=_;omega⟩
  .exact ⟨⟨_,_,_⟩,h,rfl⟩
 obtain⟨c,rfl,K⟩:=hv;have Z:Fr (λb=>b∈aO s) w e:=by
  refine Fr.grown ac λg d=>?_;rw[JV]at d;cases B:s.a with
  |none=>simp[B]at d
  |some p=>simp[B]at d;simp[aO,B,d]
 refine⟨c,e,y,⟨?_,?_⟩,Z,?_⟩
 .rw [K,I];simp[eS]
 .have q:=L;rw[U0,<-List.map_append]at q;unfold aG;rw[K];exact q
 .intro g d;rcases x.2.cases with⟨rfl,hx⟩|⟨k,cur,H,aa,ad,ak,Y,ah⟩
  .obtain ⟨v2,w2,ag,ae,_,_⟩:=main w.heap.size (b' _) (by rw[hx];exact World.ownsRow_nil w _ _ _);have j:(Result.ok c.v e:Result ab)=.ok v2 w2:=y.symm.trans ag;have Q:=(Result.ok.inj j).1;subst Q;rcases ae.2 with⟨h,_⟩|⟨S,ai,aj,h,q,_⟩
   .have:c.a=none:=(Value.slice.inj h).1;simp[aO,this]at d
   .have:c.a=some ⟨S,0,none⟩:=(Value.slice.inj h).1;simp[aO,this]at d;exact .inr (d▸q)
  .obtain ⟨am,F,E⟩:=s;simp only at H ad Y ah I;subst H;by_cases af:F+t.size<=E
   .have A:=run_append_room_string (P:=V) w bM da ty db i kH.ht sM z D k F E cur aa t af (by omega);have j:=y.symm.trans A;have:c.a=some ⟨k,0,none⟩:=(Value.slice.inj (Result.ok.inj j).1).1;simp[aO,this]at d ⊢;exact .inl d
   .have holds:∀N O,(xs.map dG)[N]? =some O->w.cell? ((⟨k,0,none⟩:Addr).add N)=some O:=World.ownsRow.cells (g:=k) x.2 rfl;have A:=run_append_grow_string (P:=V) w bM da ty db i (.int .u8 0) kH.ht sM z M ⟨k,0,none⟩ F E (xs.map dG) (by rw[D];simp;omega) holds t (by omega) (by omega) (growslice_fits (by omega) (by rw[G];omega));have j:=y.symm.trans A;have:c.a=some ⟨w.heap.size,0,none⟩:=(Value.slice.inj (Result.ok.inj j).1).1;simp[aO,this]at d;exact .inr (by omega)
def lk{w:C}{s:J}{bs:List UInt8}(h:Bytes w s bs):(Go.convert bM da s.v).run V w=.ok (.string (ba bs)) w:=by
 obtain⟨a,x,j⟩:=s;have d:=Bytes.len h;simp only at d;subst d;cases a with
 |none=>
  obtain⟨c,k⟩:=h.2.2.1 rfl;simp only at c k;obtain rfl:bs=[]:=List.eq_nil_of_length_eq_zero c;rw[run_convert_bytes_string (P:=V) w bM da db _ _ _ kH.ht EP sM];rfl
 |some p=>
  refine run_convert_bytes_back (P:=V) w bM da db p j bs kH.ht EP sM λe q=>?_;obtain⟨y,u,n⟩:=h.2.2.2 e (dG bs[e]) (by simp[a9 q]);cases u;exact n
def U3(w:C)(t:ByteArray):∃d c,(Go.convert da bM (.string t)).run V w=.ok d.v c/\Bytes c d (bl t)/\aj w c/\(∀b∈aO d,w.heap.size<=b/\b<c.heap.size):=by
 refine⟨⟨some ⟨w.heap.size,0,none⟩,t.size,grownCap w t.size 0 db⟩,_,run_bytes_of_string (P:=V) w da bM db t sM kH.ht EP,⟨?_,?_,?_⟩,?_,?_⟩
 .simp [eS]
 .exact grownCap_ge w t.size 0 _
 .refine Row.pC (T:=db) (.inr ⟨w.heap.size,0,_,_,rfl,kM w.drew _,λi v e=>?_⟩);rw[Nat.zero_add,bytesRow,Array.getElem?_append];have j:i<t.data.size:=by have:=(List.getElem?_eq_some_iff.1 e).1;simpa[bl]using this
  rw[aA (by simpa using j)];simpa[bl,dG]using e
 .exact (Fr.drew _ w).ew (Fr.alloc _ _ _)
 .intro b h;simp[aO]at h;have:(w.drew.alloc (.cells (bytesRow t (grownCap w t.size 0 db)) db ((bytesRow t (grownCap w t.size 0 db)).size,(bytesRow t (grownCap w t.size 0 db)).size+1))).heap.size=w.heap.size+1:=size_alloc _ _;omega
def Sd{t e:aF}{k:ab}{bytes:Nat}(d:gJ V t e k 1 bytes)(w:C)(j h:iH)(n:Nat)(E:n *bytes<=140737488355328):
  ∃c,(Instr.makeSlice t (.int j 0) (.int h (n:Int))).run V w=.ok (.slice (some ⟨w.heap.size,0,none⟩) 0 n) c/\Ow c e ⟨some ⟨w.heap.size,0,none⟩,0,n⟩ []/\aj w c:=by
 obtain⟨i,A,D,B,z⟩:=info_parts d.hi;have F:n<=140737488355328:=by have:=Nat.le_mul_of_pos_right n d.hb;omega
 obtain⟨c,u,x,y⟩:=run_make_own (P:=V) w 0 t e i k 1 d.ht A D B j h n (by rw[z,Nat.mul_comm];omega) (by unfold maxLen;omega) (fj _);exact⟨c,u,⟨rfl,x⟩,Fr.grown y λ_ q=>by cases q⟩
def yy{w:C}{s:J}{vs:List ab}(k:s.n=vs.length)(j:s.n<=s.c)(d:s.a=none->s.c=0)(h:∀i v,vs[i]? =some v->∃p,s.a=some p/\w.cell? (p.add i)=some v):Rd w s vs:=
 ⟨k,j,λe=>⟨by have:=d e;omega,d e⟩,h⟩
def ArgNums(w:C)(s:J):Prop:=∃l:List Int,bo w s l/\l.length<=9223372036854775807/\∀c∈l,-9223372036854775808<=c/\c<=9223372036854775807
def arg_nums_nil(w:C):ArgNums w ⟨none,0,0⟩:=⟨[],Rd.nil w,by simp,by simp⟩
def arg_nums(w:C)(x:Addr)(len cap:Nat)(c:List Int)(z:len<=c.length)(n:len<=cap)(y:cap<=maxLen)(k:∀i,i<c.length->w.cell? (x.add i)=some (.int .i64 (c.getD i 0)))(u:∀e∈c,IntKind.min .i64<=e/\e<=IntKind.max .i64):ArgNums w ⟨some x,len,cap⟩:=by
 refine⟨c.take len,yy (by simp;omega) n (λj=>by cases j) (λi v d=>?_),?_,λe q=>u e (List.mem_of_mem_take q)⟩
 .rw [List.getElem?_map,List.getElem?_take]at d;split at d
  .have h:i<c.length:=by omega
   refine⟨x,rfl,?_⟩;rw[k i h,List.getD_eq_getElem?_getD];rw[a9 h]at d ⊢;simpa[bd]using d
  .simp at d
 .have:len<=maxLen:=by omega
  unfold maxLen at this;simp;omega
def Nk(w:C)(bs:List UInt8):aa:=λr c=>∃s:J,r=U s.v/\jx c s bs/\aj w c/\∀b∈aO s,w.heap.size<=b
def fe(n m:Int):Int:=if n<0 then bw (0 - (n+1)) m else bw n m
def hj(n m:Int)(c:1<=m):0<=fe n m/\fe n m<m:=by
 unfold fe;split
 .exact ⟨Int.tmod_nonneg _ (by omega),Int.tmod_lt_of_pos _ (by omega)⟩
 .exact ⟨Int.tmod_nonneg _ (by omega),Int.tmod_lt_of_pos _ (by omega)⟩
abbrev bn(n:Int):Prop:=-9223372036854775808<=n/\n<=9223372036854775807
def z3(n m:Int)(w:C)(k:1<=m)(h:bn n):
  ah V eO #[.int .i64 n,.int .i64 m] w λr d=>r=U (.int .i64 (fe n m))/\w=d:=by
 obtain⟨e,j⟩:=h;refine Hj.ok n m w _ ?_;refine cK (λh=>?_) (λh=>?_)
 .have c:n<0:=by simpa using h
  refine⟨by omega,?_,rfl⟩;rw[show ad .i64 (n+1)=n+1 from bf _ (by omega),show ad .i64 (0 - (n+1))=0 - (n+1)from bf _ (by omega)];unfold fe;rw[aA c]
 .have c:¬n<0:=by simpa using h
  refine⟨by omega,?_,rfl⟩;unfold fe;rw[aq c]
def Uj{w:C}{s t:J}{a b:List Int}(x:bo w s a)(y:bo w t b)(G:a.length<=1000000000000):
  ah V B8 #[s.v,t.v] w λr d=>r=U (.bool (af (a=b)))/\aj w d:=by
 have h:=bo.len x;have u:=bo.len y;refine rA.ok s t w _ ?_;refine cK (λc=>?_) (λc=>?_)
 .refine ⟨?_,Fr.refl _ _⟩;have:a≠b:=λe=>by subst e;rw[h,u]at c;simp at c
  simp[this]
 .have hlen:a.length=b.length:=by rw[h,u]at c;simp at c;omega
  have main:∀(n i:Nat),i+n=a.length->a.take i=b.take i->∀d,aj w d->rA.L0 s t (i:Int) d λr d=>r=U (.bool (af (a=b)))/\aj w d:=by
   intro n;induction n with
   |zero=>
    intro i B k d q;refine rA.cf _ _ _ _ _ ?_;refine bb (by rw[h];simp;omega) ⟨?_,q⟩;rw[List.take_of_length_le (by omega),List.take_of_length_le (by omega)]at k;simp[k]
   |succ n F=>
    intro i B k d q;have z:a[i]? =some a[i]:=a9 (by omega);have A:b[i]? =some b[i]:=a9 (by omega);refine rA.cf _ _ _ _ _ ?_;have j:aj w d.drew:=q.ew (Fr.drew _ _);refine a8 (by rw[h];simp;omega) ⟨by omega,by rw[h];omega,bo.cell (x.ct j) z (by simp) λp _ D=>⟨_,D,by omega,by rw[u];omega,bo.cell (y.ct j) A (by simp) λH _ E=>⟨_,E,cK (λc=>?_) (λc=>?_)⟩⟩⟩
    .refine ⟨?_,j⟩;have:a≠b:=λe=>by subst e;simp at c
     simp[this]
    .show rA.L0 s t (ad .i64 ((i:Int)+1)) _ _;rw[show ad .i64 ((i:Int)+1)=((i+1:Nat):Int)from by rw[bf _ (by omega)];omega];refine F (i+1) (by omega) ?_ _ j;have e:a[i]=b[i]:=by simpa using c
     rw[eI,eI,z,A,k,e]
  exact main a.length 0 (by omega) (by simp) w (Fr.refl _ _)
def gY(d:Nat):UInt8:=UInt8.ofNat (48+d)
def ur(c:UInt8):Bool:=af (48<=c.toNat)&&af (c.toNat<=57)
def cg(n:Nat):List UInt8:=if n<10 then[gY n]else cg (n / 10)++[gY (n%10)]
termination_by n
def cr(n:Int):List UInt8:=if n<0 then 45::cg n.natAbs else cg n.natAbs
def AT:∀c<10,(gY c).toNat=48+c:=by decide
def G9:∀c<10,ur (gY c)=true:=by decide
def m7{n:Nat}(h:n<10):cg n=[gY n]:=by rw[cg,aA h]
def rv{n:Nat}(h:¬n<10):cg n=cg (n / 10)++[gY (n%10)]:=by rw[cg,aq h]
def AP(n:Nat):∀d∈cg n,ur d=true:=by
 induction n using Nat.strongRecOn with
 |_ n h=>
  by_cases e:n<10
  .rw [m7 e];intro d c;rw[cO.1 c];exact G9 n e
  .rw [rv e];intro d c;rcases a6.1 c with c|c
   .exact h (n / 10) (by omega) d c
   .rw [cO.1 c];exact G9 _ (Nat.mod_lt _ (by omega))
def sU(a:Nat)(l:List UInt8):Nat:=l.foldl (λa c=>10 *a+(c.toNat - 48)) a
def VD(a:Nat)(l:List UInt8)(c:UInt8):sU a (l++[c])=10 *sU a l+(c.toNat - 48):=by unfold sU;rw[List.foldl_append];rfl
def ET(n:Nat):sU 0 (cg n)=n:=by
 induction n using Nat.strongRecOn with
 |_ n d=>
  by_cases c:n<10
  .rw [m7 c];show 10 *0+((gY n).toNat - 48)=n;rw[AT n c];omega
  .rw [rv c,VD,d (n / 10) (by omega),AT _ (Nat.mod_lt _ (by omega))];omega
def AQ(n:Nat):cg n≠[]:=by
 by_cases c:n<10
 .rw [m7 c];simp
 .rw [rv c];simp
def wF{n k:Nat}(q:1<=k)(h:n<10^k):(cg n).length<=k:=by
 induction k generalizing n with
 |zero=>omega
 |succ k j=>
  by_cases d:n<10
  .rw [m7 d];simp
  .have e:1<=k:=by
    rcases Nat.eq_zero_or_pos k with c|c
    .subst c;rw[Nat.zero_add,Nat.pow_one]at h;omega
    .exact c
   have:n / 10<10^k:=by rw[Nat.div_lt_iff_lt_mul (by omega),<-Nat.pow_succ];exact h
   rw[rv d,cC];have:=j e this;simp only[e8,hZ];omega
def PO(n:Nat):cg n=(List.range (cg n).length).map λc=>gY (n / 10^((cg n).length - 1 - c)%10):=by
 induction n using Nat.strongRecOn with
 |_ n j=>
  by_cases d:n<10
  .rw [m7 d];show _=[gY (n / 10^0%10)];rw[Nat.pow_zero,Nat.div_one,Nat.mod_eq_of_lt d]
  .have i:=j (n / 10) (by omega);rw[rv d,cC,e8,hZ,Nat.zero_add,List.range_succ,List.map_append];have q:1<=(cg (n / 10)).length:=by
    cases h:cg (n / 10)with
    |nil=>exact absurd h (AQ _)
    |cons k l=>simp
   congr 1
   .conv=>lhs;rw[i]
    refine List.map_congr_left λc e=>?_;have e:=List.mem_range.1 e;rw[Nat.div_div_eq_div_mul,<-Nat.pow_succ',show((cg (n / 10)).length - 1 - c).succ=(cg (n / 10)).length+1 - 1 - c by omega]
   .simp
def ES(l:List UInt8)(h:∀c∈l,ur c=true):sU 0 l<10^l.length:=by
 have gen:∀(r l:List UInt8),(∀c∈r,ur c=true)->∀a,a<10^l.length->sU a r<10^(l.length+r.length):=by
  intro r;induction r with
  |nil=>intro l _ a d;exact d
  |cons c r q=>
   intro l j a d;have e:=j c (by simp);unfold ur at e;simp only[bC,decide_eq_true_eq]at e;have:=q (l++[c]) (λk n=>j k (by simp[n])) (10 *a+(c.toNat - 48)) (by rw[cC,e8,hZ,Nat.zero_add,Nat.pow_succ];omega);rw[cC,e8,hZ,Nat.zero_add,Nat.add_assoc,Nat.add_comm 1]at this;exact this
 simpa using gen l [] h 0 (by simp)
def nh:List Int->List UInt8
 |[]=>[]
 |[c]=>cr c
 |c::m::r=>cr c++32::nh (m::r)
def eN(l:List Int):List UInt8:=40::nh l++[41]
def BF(n m:Int)(r:List Int):nh (n::m::r)=cr n++32::nh (m::r):=rfl
structure dz where
 kind:Int
 node:Int
 dD:Int
 params:List Int
 nm:ByteArray
 cY:List Int
 hints:List Int
def qK:List (List UInt8):=[[103,97,116,101],[97,115,115,101,114,116],[97,120,105,111,109],[101,113,117,97,108],[108,101,109,109,97],[114,101,115,111,108,118,101]]
def lY(k:Int):List UInt8:=qK.getD k.toNat []
def nt(s:dz):List UInt8:=if bl s.nm=[]then[45]else bl s.nm
def uv(s:dz):List UInt8:=lY s.kind++32::(cr s.node++32::(cr s.dD++32::(nt s++32::(eN s.params++32::(eN s.hints++32::eN s.cY)))))
end Go.Proofs.YthkcmmldhceegaaGreatDoor
namespace Go.W
open Go renaming World->C,Calls->ah,Program->aR,Value->ab,TypeId->aF,FuncId->bW,IntKind->iH
open Go.IntKind renaming wrap->ad
open _root_.Int renaming toNat->ae,tmod->bw
open Go.IntWalk renaming i64_in->bf
open Go.Builtin renaming append_->bg
open Go.Sem renaming run->a'
open _root_.Bool renaming and_eq_true->bC
open _root_.Nat renaming le_refl->b',le_trans->bB,zero_le->fj,beq->cv,beq_eq->ez
open _root_.Array renaming replicate->gI
open Go.Region renaming wanted->cU,ready->eA
open Go.Proofs.Tryz renaming prog->V
open _root_.Decidable renaming decide->af
open Go.Ending renaming returned->U
open List renaming mem_append->a6,mem_cons->ay,not_mem_nil->aW,mem_of_getElem?->aE,getElem?_eq_getElem->a9,mem_append_left->bS,length_append->cC,length_cons->e8,length_nil->hZ,mem_singleton->cO,flatMap_cons->dT,mem_iff_getElem?->g5,mem_cons_of_mem->eb,drop_eq_getElem_cons->dZ,take_add_one->eI,drop_of_length_le->c9
def DI{w:C}{e:aF}{sz:Nat}{s:J}{vs:List ab}(h:aG w e sz s vs)(i:Nat)(hi:i<vs.length)(v:ab):
  ∃p,s.a=some p/\p.block∈aO s/\(w.cell? (p.add i)).isSome=true/\w.frozen? (p.add i)=false/\aG (w.setCell (p.add i) v) e sz s (vs.set i v)/\Fr (·∈aO s) w (w.setCell (p.add i) v):=by
 have B:=h.len;rcases h.cases with⟨rfl,rfl⟩|⟨g,cur,d,j,k,u,x,y⟩
 .simp at hi
 .have D:s.n *sz<=s.c *sz:=Nat.mul_le_mul_right _ k;have z:i<cur.size:=by omega
  have q:g∈aO s:=by simp[aO,d]
  refine⟨⟨g,0,none⟩,d,q,?_,frozenAt (p:=⟨g,0,none⟩) j,?_,Fr.set _ _ _ (by rw[iM];exact q)⟩
  .rw [cellAt (p:=⟨g,0,none⟩) (v:=cur[i]) j rfl (by simp[z])];rfl
  .refine ⟨by simpa using h.1,.inr ⟨g,s.c,cur.setIfInBounds i v,?_,fj _,?_,k,u,by simpa using x,?_⟩⟩
   .obtain ⟨a,E,A⟩:=s;simp only at d;subst d;rfl
   .have:=setAt (p:=⟨g,0,none⟩) (i:=i) (v:=v) j rfl;simpa using this
   .rw [Array.toList_setIfInBounds,List.take_set,y]
section
variable {M:Nat->Prop} {w0 w:C} {L D:List En} {bs:List Nat}
def Z.Bq(H:Z M w0 w L D){i:Nat}{e:aF}{sz:Nat}{s:J}{xs:List ab}(hi:L[i]? =some (.row e sz s xs)){b:Nat}(q:En.g b∈L):b∉aO s:=λj=>by
 obtain⟨x,c⟩:=g5.1 q;by_cases h:i=x
 .subst h;rw[hi]at c;have k:En.row e sz s xs=En.g b:=Option.some.inj c;have n:(En.row e sz s xs).P=(En.g b).P:=by rw[k]
  have d:(En.g b).P ({w with heap:=gI (b+1) (.map #[] 0)}):=by show b<_;simp
  rw[<-n]at d;obtain⟨y,f,u⟩:=(aG.row (show aG ({w with heap:=gI (b+1) (.map #[] 0)}) e sz s xs from d)).sT b j;simp at u
 .exact m8 H.nd hi c h b j (by simp[En.g])
def Z.mG(H:Z M w0 w L D)(i a c:Nat){e:aF}{sz:Nat}{s:J}{xs:List ab}{v:ab}{p:Addr}{K:C->Prop}(hi:L[i]? =some (.row e sz s xs))(y:s.a=some p)(u:a+c<xs.length)(q:∀j,Z M w0 j (L.set i (.row e sz s (xs.set (a+c) v))) D->K j)(bZ:∀b∈bs,En.g b∈L:=by simp):ao w ((p.add a).add c) v λk=>kept bs w k/\K k:=by obtain⟨F,h,E,z,A,B,n⟩:=DI (H.get i hi) (a+c) u v;rw[y]at h;cases h;rw[add_add];refine⟨z,A,λb d=>?_,q _ (H.g' i (.row e sz s (xs.set (a+c) v)) hi n B (λb d=>.inl d))⟩;exact n.cA b (H.own _ (bZ b d)) λx=>H.Bq hi (bZ b d) x
end
def ik:List Bool->List En->List En
 |true::m,a::l=>a::ik m l
 |false::m,_::l=>ik m l
 |_,_=>[]
def sF:∀(m:List Bool) (l:List En),(ik m l).Sublist l
 |[],l=>by unfold ik;exact List.nil_sublist _
 |true::m,[]=>by unfold ik;exact List.nil_sublist _
 |false::m,[]=>by unfold ik;exact List.nil_sublist _
 |true::m,a::l=>by unfold ik;exact(sF m l).cons_cons a
 |false::m,a::l=>by unfold ik;exact(sF m l).cons a
def U6{α β:Type}{f:α->List β}{l m:List α}(h:l.Sublist m):(l.flatMap f).Sublist (m.flatMap f):=by
 induction h with
 |slnil=>exact List.Sublist.refl _
 |cons a _ c=>rw[dT];exact c.trans (List.sublist_append_right _ _)
 |cons_cons a _ c=>rw[dT,dT];exact(List.Sublist.refl _).append c
def Z.ik{M:Nat->Prop}{w0 w:C}{L D:List En}(H:Z M w0 w L D)(m:List Bool):Z M w0 w (ik m L) D:=
 ⟨H.fr,λc d=>H.own c ((sF m L).subset d),H.rd,λc d=>H.new c ((sF m L).subset d),(U6 (sF m L)).nodup H.nd,λc d b h e j=>H.dj c d b h e ((sF m L).subset j)⟩
def kZ{s:J}{vs:List ab}{n:Nat}(h:∀b∈aO s,n<=b):∀b∈(En.rd s vs).fp,n<=b:=λb c=>by
 have:b∈(if vs=[]then[]else aO s):=c;split at this
 .cases this
 .exact h b this
def pR{M:Nat->Prop}{w0 w:C}{L D:List En}(H:Z M w0 w L D){i:Nat}{e:En}(hi:L[i]? =some e)(n:∀(b:Nat),¬e.P ({w with heap:=gI (b+1) (.map #[] 0)})){b:Nat}(j:En.g b∈L):b∉e.fp:=by
 obtain⟨q,c⟩:=g5.1 j;by_cases d:i=q
 .subst d;rw[hi]at c;have h:e=En.g b:=Option.some.inj c;exfalso;refine n b ?_;rw[h];show b<_;simp
 .intro k;exact m8 H.nd hi c d b k (by simp[En.g])
section
variable {M:Nat->Prop} {w0 w:C} {L D:List En} {bs:List Nat}
def Z.qB(H:Z M w0 w L D)(i j:Nat){e:aF}{sz:Nat}{s:J}{xs:List ab}{v:ab}{p:Addr}{K:C->Prop}(hi:L[i]? =some (.row e sz s xs))(y:s.a=some p)(u:j<xs.length)(q:∀h,Z M w0 h (L.set i (.row e sz s (xs.set j v))) D->K h)(bZ:∀b∈bs,En.g b∈L:=by simp):ao w (p.add j) v λk=>kept bs w k/\K k:=by obtain⟨F,d,E,z,A,B,n⟩:=DI (H.get i hi) j u v;rw[y]at d;cases d;refine⟨z,A,λb c=>?_,q _ (H.g' i (.row e sz s (xs.set j v)) hi n B (λb c=>.inl c))⟩;exact n.cA b (H.own _ (bZ b c)) λx=>H.Bq hi (bZ b c) x
end
def qo{p:Addr}{K:Addr->Prop}(h:K p):cd (some p) K:=h
end Go.W
namespace Go.Proofs.YthkcmmldhceegaaGreatDoor
open Go renaming World->C,Calls->ah,Program->aR,Value->ab,TypeId->aF,FuncId->bW,IntKind->iH
open Go.IntKind renaming wrap->ad
open _root_.Int renaming toNat->ae,tmod->bw
open Go.IntWalk renaming i64_in->bf
open Go.Builtin renaming append_->bg
open Go.Sem renaming run->a'
open _root_.Bool renaming and_eq_true->bC
open _root_.Nat renaming le_refl->b',le_trans->bB,zero_le->fj,beq->cv,beq_eq->ez
open _root_.Array renaming replicate->gI
open Go.Region renaming wanted->cU,ready->eA
open Go.Proofs.Tryz renaming prog->V
open _root_.Decidable renaming decide->af
open Go.Ending renaming returned->U
open List renaming mem_append->a6,mem_cons->ay,not_mem_nil->aW,mem_of_getElem?->aE,getElem?_eq_getElem->a9,mem_append_left->bS,length_append->cC,length_cons->e8,length_nil->hZ,mem_singleton->cO,flatMap_cons->dT,mem_iff_getElem?->g5,mem_cons_of_mem->eb,drop_eq_getElem_cons->dZ,take_add_one->eI,drop_of_length_le->c9
open Go Go.W
def bN{w:C}(D:List En)(h:∀c∈D,c.P w):Z F0 w w [] D:=Z.start D h
inductive Rx where
 |mk (k:Int) (lo hi:UInt8) (l:List Rx)
inductive I where
 |mk (k:Int) (lo hi:UInt8) (s:J) (l:List I)
namespace I
def k:I->Int|.mk k _ _ _ _=>k
def lo:I->UInt8|.mk _ lo _ _ _=>lo
def hi:I->UInt8|.mk _ _ hi _ _=>hi
def s:I->J|.mk _ _ _ s _=>s
def l:I->List I|.mk _ _ _ _ l=>l
mutual
def rx:I->Rx|.mk k lo hi _ l=>.mk k lo hi (au l)
def au:List I->List Rx
 |[]=>[]
 |t::l=>t.rx::au l
end
mutual
def sz:I->Nat|.mk _ _ _ _ l=>1+bc l
def bc:List I->Nat
 |[]=>0
 |t::l=>t.sz+bc l
end
def c(t:I):List ab:=[.int .i64 t.k,.int .u8 (t.lo.toNat:Int),.int .u8 (t.hi.toNat:Int),t.s.v]
abbrev v(t:I):ab:=.agg #[.int .i64 t.k,.int .u8 (t.lo.toNat:Int),.int .u8 (t.hi.toNat:Int),t.s.v]
abbrev row(s:J)(l:List I):En:=.bh 4 s (l.flatMap c)
mutual
def P(w:C):I->Prop|.mk _ _ _ s l=>bF 4 w s (l.flatMap c)/\Ps w l
def Ps(w:C):List I->Prop
 |[]=>True
 |t::l=>P w t/\Ps w l
end
mutual
def fp:I->List Nat|.mk _ _ _ s l=>(row s l).fp++bm l
def bm:List I->List Nat
 |[]=>[]
 |t::l=>fp t++bm l
end
def jE(t:I):(c t).length=4:=rfl
def ee(l:List I):(l.flatMap c).length=l.length *4:=nc c 4 jE l
def cu{w:C}{s:J}{l:List I}(h:bF 4 w s (l.flatMap c)):s.n=l.length:=by have:=h.1;rw[ee]at this;omega
def fy:∀l:List I,au l=l.map rx
 |[]=>rfl
 |t::l=>by unfold au;rw[fy l];rfl
mutual
def cA{w w':C}:∀(t:I),(∀b∈t.fp,b<w.heap.size->w'.heap[b]? =w.heap[b]?)->P w t->P w' t
 |.mk k lo hi s l,c,e=>by unfold fp at c;unfold P at e ⊢;exact⟨(row s l).st w w' (λb d=>c b (bS _ d)) e.1,keeps l (λb d=>c b (List.mem_append_right _ d)) e.2⟩
def keeps{w w':C}:∀(l:List I),(∀b∈bm l,b<w.heap.size->w'.heap[b]? =w.heap[b]?)->Ps w l->Ps w' l
 |[],_,_=>by unfold Ps;trivial
 |t::l,c,e=>by unfold bm at c;unfold Ps at e ⊢;exact⟨cA t (λb d=>c b (bS _ d)) e.1,keeps l (λb d=>c b (List.mem_append_right _ d)) e.2⟩
end
mutual
def lt{w:C}:∀(t:I),P w t->∀b∈t.fp,b<w.heap.size
 |.mk k lo hi s l,d,b,c=>by
  unfold fp at c;unfold P at d;rcases a6.1 c with c|c
  .exact (row s l).lt w d.1 b c
  .exact BX l d.2 b c
def BX{w:C}:∀(l:List I),Ps w l->∀b∈bm l,b<w.heap.size
 |[],_,b,c=>by unfold bm at c;cases c
 |t::l,d,b,c=>by
  unfold bm at c;unfold Ps at d;rcases a6.1 c with c|c
  .exact lt t d.1 b c
  .exact BX l d.2 b c
end
def P.ct{w w':C}{t:I}(h:P w t)(f:aj w w'):P w' t:=cA t (λb _ c=>f.cA b c id) h
def Ps.ct{w w':C}{l:List I}(h:Ps w l)(f:aj w w'):Ps w' l:=keeps l (λb _ c=>f.cA b c id) h
def Ps.get{w:C}:∀{l:List I},Ps w l->∀{i:Nat} {t:I},l[i]? =some t->P w t
 |[],_,i,t,c=>by simp at c
 |a::l,d,0,t,c=>by unfold Ps at d;simp at c;subst c;exact d.1
 |a::l,d,i+1,t,c=>by unfold Ps at d;exact Ps.get d.2 (by simpa using c)
def Ps.mem{w:C}{l:List I}(h:Ps w l){t:I}(c:t∈l):P w t:=by obtain⟨i,hi⟩:=g5.1 c;exact h.get hi
def iE{w:C}:∀{l:List I},(∀t∈l,P w t)->Ps w l
 |[],_=>by unfold Ps;trivial
 |t::l,c=>by unfold Ps;exact⟨c t (by simp),iE λe d=>c e (by simp[d])⟩
def bX:∀{l:List I} {b:Nat},b∈bm l↔∃t∈l,b∈t.fp
 |[],b=>by unfold bm;simp
 |t::l,b=>by unfold bm;rw[a6,bX];simp
def eG:∀{l:List I} {t:I},t∈l->t.sz<=bc l
 |a::l,t,c=>by
  unfold bc;rcases ay.1 c with rfl|c
  .omega
  .have:=eG c;omega
def k4(t:I):1<=t.sz:=by cases t;unfold sz;omega
def fI:∀l:List I,l.length<=bc l
 |[]=>by simp
 |t::l=>by have:=fI l;have:=k4 t;unfold bc;simp only[e8];omega
def P.parts{w:C}{t:I}(h:P w t):bF 4 w t.s (t.l.flatMap c)/\Ps w t.l:=by cases t;unfold P at h;exact h
def gb{t:I}{b:Nat}:b∈t.fp↔b∈(row t.s t.l).fp\/b∈bm t.l:=by cases t;unfold fp;exact a6
def h2(t:I):t.sz=1+bc t.l:=by cases t;rfl
def e9(t:I):t.rx=.mk t.k t.lo t.hi (au t.l):=by cases t;rfl
structure fJ(w:C)(p:Addr)(i:Nat)(t:I):Prop where
 c0:w.cell? ((p.add (i *4)).add 0)=some (.int .i64 t.k)
 c1:w.cell? ((p.add (i *4)).add 1)=some (.int .u8 (t.lo.toNat:Int))
 c2:w.cell? ((p.add (i *4)).add 2)=some (.int .u8 (t.hi.toNat:Int))
 c3:w.cell? ((p.add (i *4)).add 3)=some t.s.v
def di{w:C}{s:J}{l:List I}(h:bF 4 w s (l.flatMap c)){i:Nat}{t:I}(hi:l[i]? =some t){K:Addr->Prop}(e:∀p,s.a=some p->fJ w p i t->K p):cd s.a K:=
 eY.elem (f:=c) (sz:=4) jE (by omega) h.2.2 hi λp j d=>e p j ⟨d 0 _ rfl,d 1 _ rfl,d 2 _ rfl,d 3 _ rfl⟩
def again{w:C}{s:J}{l:List I}(h:bF 4 w s (l.flatMap c)){i:Nat}{t:I}(hi:l[i]? =some t){p:Addr}(u:s.a=some p):fJ w p i t:=by have j:=di h hi (K:=λe=>∃k,s.a=some k/\fJ w k i t) (λe d q=>⟨e,d,q⟩);rw[u]at j;obtain⟨e,d,n⟩:=j;cases d;exact n
end I
def _root_.Go.W.En.tree(t:I):En:=⟨jS t.fp,λe=>t.P e,λe j h d=>I.cA t (λb c=>h b (a4.2 c)) d,λe d b c=>I.lt t d b (a4.1 c),oC _⟩
def _root_.Go.W.En.trees(l:List I):En:=⟨jS (I.bm l),λe=>I.Ps e l,λe j h d=>I.keeps l (λb c=>h b (a4.2 c)) d,λe d b c=>I.BX l d b (a4.1 c),oC _⟩
namespace Rx
def k:Rx->Int|.mk k _ _ _=>k
def lo:Rx->UInt8|.mk _ lo _ _=>lo
def hi:Rx->UInt8|.mk _ _ hi _=>hi
def l:Rx->List Rx|.mk _ _ _ l=>l
mutual
def sz:Rx->Nat|.mk _ _ _ l=>1+bc l
def bc:List Rx->Nat
 |[]=>0
 |t::l=>t.sz+bc l
end
end Rx
mutual
def I.eF:∀t:I,t.rx.sz=t.sz
 |.mk d lo c s l=>by unfold I.rx Rx.sz I.sz;rw[I.vn l]
def I.vn:∀l:List I,Rx.bc (I.au l)=I.bc l
 |[]=>rfl
 |t::l=>by unfold I.au Rx.bc I.bc;rw[I.eF t,I.vn l]
end
namespace AI
noncomputable abbrev X:Fx:=⟨V,Tryz.f207,[],[]⟩
def ok(c:Int)(w:C)(R:aa)(h:R (U (.bool (c !=c))) w):ah V B4 #[.i c] w R:=aM X [] h
end AI
namespace AH
noncomputable abbrev X:Fx:=⟨V,Tryz.f208,[],[]⟩
def ok(c:Int)(w:C)(R:aa)(h:R (U (.bool (c !=c))) w):ah V B3 #[.int .u8 c] w R:=aM X [] h
end AH
namespace GW
noncomputable abbrev X:Fx:=⟨V,Tryz.f191,[],[]⟩
def ok(d e:Int)(w:C)(R:aa)(h:gL B4 #[.i d] w λj k=>gL B4 #[.i e] k λt10 c=>Y j (Y t10 (R (U (.i 0)) c) (R (U (.i (-1))) c)) (Y t10 (R (U (.i 1)) c) (Y (af (d<e)) (R (U (.i (-1))) c) (Y (af (d>e)) (R (U (.i 1)) c) (R (U (.i 0)) c))))):ah V B2 #[.i d,.i e] w R:=aM X [] h
end GW
namespace GV
noncomputable abbrev X:Fx:=⟨V,Tryz.f192,[],[]⟩
def ok(d e:Int)(w:C)(R:aa)(h:gL B3 #[.int .u8 d] w λj k=>gL B3 #[.int .u8 e] k λt10 c=>Y j (Y t10 (R (U (.i 0)) c) (R (U (.i (-1))) c)) (Y t10 (R (U (.i 1)) c) (Y (af (d<e)) (R (U (.i (-1))) c) (Y (af (d>e)) (R (U (.i 1)) c) (R (U (.i 0)) c))))):ah V xl #[.int .u8 d,.int .u8 e] w R:=aM X [] h
end GV
namespace tI
noncomputable abbrev X:Fx:=⟨V,Tryz.f190,[],[]⟩
abbrev P0:Ps:=[(3,.v [.I]),(6,.v [.s]),(7,.v [.I]),(8,.v [.I])]
def L0(h:Int)(c:J)(d e:Int)(w:C)(R:aa):Prop:=bz P0 0 (X.Sem (ai [0,1,1,1,2])) h c d e w R
noncomputable def az:=bK X (ai [0,1,1,1,2]) P0 L0
def cf:∀(d:Int) (e:J) (j c:Int) (w:C) (R:aa) (h:Y (af (c<j)) (aw e c λk=>∃t11:Int,w.cell? (k.add (ae c *1))=some (.i t11)/\
 Y (t11 !=d) (R (U (.i t11)) w) (L0 d e j (ad .i64 (c+1)) w R)) (R (U (.i d)) w)),L0 d e j c w R:=mp (bL (X:=X) [az] (ai [0,1,1,1,2]) P0)
def ok(c:J)(w:C)(R:aa)(h:L0 0 c ((c.n:Nat):Int) 0 w R):ah V xm #[c.v] w R:=aM X [az] h
end tI
namespace Kq
noncomputable abbrev X:Fx:=⟨V,Tryz.f175,[(1,ls [0,1,2,3,5,6,7,8,10,11,12,13,4,9,14,15,16,17])],[2,3]⟩
def aB(e j k:Int)(n:J)(q u x:Int)(y:J)(w:C)(R:aa)(h:aP [] w λc B=>
 aP [c] B λd D=>
 loc [c,d] D λE=>bG [c,d] B2 #[.i e,.i q] E λt10 F=>bG [c,d] xl #[.int .u8 j,.int .u8 u] F λt15 G=>bG [c,d] xl #[.int .u8 k,.int .u8 x] G λt20 z=>aK z (.cells #[.i t10,.i t15,.i t20] bp) λH=>
 bG [c,d] xm #[.slice (some (nb z)) 3 3] H λt22 A=>Y (t22 !=0) (R (U (.i t22)) A) (bG [c,d] CU #[n.v,y.v,.func (.func dR) #[] #[]] A λt30 I=>R (U (.i t30)) I)):ah V dR #[.agg #[.i e,.int .u8 j,.int .u8 k,n.v],.agg #[.i q,.int .u8 u,.int .u8 x,y.v]] w R:=aM X [] h
end Kq
namespace vt
noncomputable abbrev X:Fx:=⟨V,Tryz.f193,[],[8,9]⟩
abbrev P0:Ps:=[(0,.v [.s]),(1,.v [.s]),(2,.v [.g dR 0 0]),(11,.v [.s]),(12,.v [.I]),(13,.v [.I])]
def aH(c d t11:J)(t12 t13:Int)(w:C)(R:aa):Prop:=bz P0 0 (X.Sem (ai [0,1,1,1,1])) c d t11 t12 t13 w R
noncomputable def az:=bK X (ai [0,1,1,1,1]) P0 aH
def bD:∀(j d t11:J) (t12 t13:Int) (w:C) (R:aa) (h:Y (af (t13<t12)) (aw t11 t13 λx=>bH w (x.add (ae t13 *4)) λy z A B=>aP [] w λc q=>
 Y (af (t13>=((d.n:Nat):Int))) (loc [c] q λe=>R (U (.i 1)) e) (aw d t13 λD=>loc [c] q λe=>bH e (D.add (ae t13 *4)) λE F G H=>aP [c] e λk K=>
 loc [c,k] K λI=>bG [c,k] dR #[.agg #[.i y,.int .u8 z,.int .u8 A,B.v],.agg #[.i E,.int .u8 F,.int .u8 G,H.v]] I λt29 u=>Y (t29 !=0) (R (U (.i t29)) u) (aH j d t11 t12 (ad .i64 (t13+1)) u R))) (Y (af (((j.n:Nat):Int)<((d.n:Nat):Int))) (R (U (.i (-1))) w) (R (U (.i 0)) w))),aH j d t11 t12 t13 w R:=mp (bL (X:=X) [az] (ai [0,1,1,1,1]) P0)
def aB(c d:J)(w:C)(R:aa)(h:aH c d c ((c.n:Nat):Int) 0 w R):ah V CU #[c.v,d.v,.func (.func dR) #[] #[]] w R:=aM X [az] h
end vt
namespace Kw
noncomputable abbrev X:Fx:=⟨V,Tryz.f173,[],[2,3]⟩
def aB(c d e:Int)(j:J)(k n q:Int)(u:J)(w:C)(R:aa)(h:aP [] w λx A=>
 aP [x] A λy B=>
 bG [x,y] dR #[.agg #[.i c,.int .u8 d,.int .u8 e,j.v],.agg #[.i k,.int .u8 n,.int .u8 q,u.v]] B λz D=>R (U (.bool (z==0))) D):ah V kj #[.agg #[.i c,.int .u8 d,.int .u8 e,j.v],.agg #[.i k,.int .u8 n,.int .u8 q,u.v]] w R:=aM X [] h
end Kw
def cz(a b:Int):Int:=if a<b then -1 else if b<a then 1 else 0
def eo:List Int->Int
 |[]=>0
 |c::l=>if c≠0 then c else eo l
def OH(a b:Int)(w:C):ah V B2 #[.int .i64 a,.int .i64 b] w λr j=>r=U (.int .i64 (cz a b))/\aj w j:=by
 refine GW.ok _ _ w _ (AI.ok _ _ _ ⟨_,rfl,AI.ok _ _ _ ⟨_,rfl,?_⟩⟩);have e:(a !=a)=false:=by simp
 have h:(b !=b)=false:=by simp
 rw[e,h];refine bb rfl (bb rfl (aQ (λc=>⟨?_,Fr.refl _ _⟩) (λc=>aQ (λd=>⟨?_,Fr.refl _ _⟩) (λd=>⟨?_,Fr.refl _ _⟩))))
 .unfold cz;rw[aA c]
 .unfold cz;rw[aq c,aA d]
 .unfold cz;rw[aq c,aq d]
def Gx(a b:Int)(w:C):ah V xl #[.int .u8 a,.int .u8 b] w λr j=>r=U (.int .i64 (cz a b))/\aj w j:=by
 refine GV.ok _ _ w _ (AH.ok _ _ _ ⟨_,rfl,AH.ok _ _ _ ⟨_,rfl,?_⟩⟩);have e:(a !=a)=false:=by simp
 have h:(b !=b)=false:=by simp
 rw[e,h];refine bb rfl (bb rfl (aQ (λc=>⟨?_,Fr.refl _ _⟩) (λc=>aQ (λd=>⟨?_,Fr.refl _ _⟩) (λd=>⟨?_,Fr.refl _ _⟩))))
 .unfold cz;rw[aA c]
 .unfold cz;rw[aq c,aA d]
 .unfold cz;rw[aq c,aq d]
def Tl{w:C}{s:J}{l:List Int}(h:bo w s l)(z:l.length<=1000000):ah V xm #[s.v] w λr k=>r=U (.int .i64 (eo l))/\aj w k:=by
 refine tI.ok _ w _ ?_;have A:=bo.len h;have loop:∀(d i:Nat),i+d=l.length->eo (l.drop i)=eo l->tI.L0 0 s ((s.n:Nat):Int) (i:Int) w λr k=>r=U (.int .i64 (eo l))/\aj w k:=by
  intro d;induction d with
  |zero=>
   intro i u e;rw[c9 (by omega)]at e;exact tI.cf _ _ _ _ _ _ (bb (a2 (by omega)) ⟨by rw[<-e];rfl,Fr.refl _ _⟩)
  |succ d y=>
   intro i u e;have q:l[i]? =some (l[i]'(by omega)):=a9 (by omega);rw[dZ (by omega)]at e;generalize l[i]'(by omega)=c at q e;refine tI.cf _ _ _ _ _ _ (a8 (a0 (by omega)) ⟨by omega,by omega,bo.cell h q (by simp) λp _ x=>⟨c,x,cD (λj=>?_) (λj=>?_)⟩⟩)
   .refine ⟨?_,Fr.refl _ _⟩;rw[<-e];unfold eo;rw[aA j]
   .rw [bA _ (by omega)];refine y (i+1) (by omega) ?_;rw[<-e];conv=>rhs;unfold eo
    rw[aq (by simpa using j)]
 exact loop l.length 0 (by omega) (by simp)
def S'(w:C)(l:List Int)(n:Nat)(c:n=l.length):bo (w.alloc (.cells (l.map bd).toArray bp)) ⟨some (ag w.heap.size),n,n⟩ l:=
 ⟨by simp[c],b' _,(Row.made w bp n n (l.map bd)).pC⟩
section
variable {M:Nat->Prop} {w0 w:C} {L D:List En} {bs:List Nat}
def _root_.Go.W.Z.or(H:Z M w0 w L D){l:List Int}{n:Nat}{K:aa}(j:n=l.length)(h:l.length<=1000000)(e:∀c,Z M w0 c L D->K (U (.int .i64 (eo l))) c):
  aK w (.cells (l.map bd).toArray bp) λq=>cV bs V xm #[.slice (some (Addr.mk w.heap.size 0 none)) n n] q K:=
 (H.ct (Fr.alloc _ _ _)).ax (Tl (s:=⟨some (ag w.heap.size),n,n⟩) (S' w l n j) h) λ_ c k d=>k▸e c d
end
mutual
def br:Rx->Rx->Int
 |.mk d lo c l,b=>if eo [cz d b.k,cz lo.toNat b.lo.toNat,cz c.toNat b.hi.toNat]≠0 then eo [cz d b.k,cz lo.toNat b.lo.toNat,cz c.toNat b.hi.toNat]else cmpL l b.l
def cmpL:List Rx->List Rx->Int
 |[],[]=>0
 |[],_::_=>-1
 |_::_,[]=>1
 |a::l,b::m=>if br a b≠0 then br a b else cmpL l m
end
abbrev Fc(n:Nat):Prop:=∀(a b:I) (w:C),a.sz<=n->a.P w->b.P w->ah V dR #[a.v,b.v] w λr c=>r=U (.int .i64 (br a.rx b.rx))/\aj w c
def N7(n:Nat)(hn:n<=1000000)(W:Fc n)(h lb:List I)(k q:J)(w:C)(H:bF 4 w k (h.flatMap I.c))(K:bF 4 w q (lb.flatMap I.c))(pa:I.Ps w h)(pb:I.Ps w lb)(hs:I.bc h<=n):
  ah V CU #[k.v,q.v,.func (.func dR) #[] #[]] w λr F=>r=U (.int .i64 (cmpL (I.au h) (I.au lb)))/\aj w F:=by
 have na:=I.cu H;have nb:=I.cu K;have hl:=I.fI h;have loop:∀(d i:Nat) (A:C),i+d=h.length->i<=lb.length->cmpL (I.au (h.drop i)) (I.au (lb.drop i))=cmpL (I.au h) (I.au lb)->Z F0 w A [] [I.row k h,I.row q lb,.trees h,.trees lb]->
   vt.aH k q k ((k.n:Nat):Int) (i:Int) A λr F=>r=U (.int .i64 (cmpL (I.au h) (I.au lb)))/\aj w F:=by
  intro d;induction d with
  |zero=>
   intro i A P Q e u;rw[c9 (by omega)]at e;refine vt.bD _ _ _ _ _ _ _ (bb (a2 (by omega)) (aQ (λN=>⟨?_,u.fr⟩) (λN=>⟨?_,u.fr⟩)))
   .rw [dZ (by omega)]at e;rw[<-e];rfl
   .rw [c9 (by omega)]at e;rw[<-e];rfl
  |succ d Y=>
   intro i A P Q e u;have y:h[i]? =some (h[i]'(by omega)):=a9 (by omega);rw[dZ (by omega)]at e;generalize h[i]'(by omega)=a at y e;refine vt.bD _ _ _ _ _ _ _ (a8 (a0 (by omega)) ⟨by omega,by omega,?_⟩);refine I.di (u.getD 0) y λp hp j=>⟨_,_,_,_,j.c0,j.c1,j.c2,j.c3,u.aN λb8 w2 B=>aQ (λO=>B.ak λw3 x=>⟨?_,x.fr⟩) (λS=>⟨by omega,by omega,?_⟩)⟩
   .have ab:((q.n:Nat):Int)<=(i:Int):=O;rw[c9 (by omega:lb.length<=i)]at e;rw[<-e];rfl
   .have ac:¬((q.n:Nat):Int)<=(i:Int):=S;have z:lb[i]? =some (lb[i]'(by omega)):=a9 (by omega);rw[dZ (by omega:i<lb.length)]at e;generalize lb[i]'(by omega)=b at z e;refine I.di (B.getD 1) z λad T _=>B.ak λw3 x=>?_;have j:=I.again (x.getD 1) z T;refine⟨_,_,_,_,j.c0,j.c1,j.c2,j.c3,x.aN λb9 w4 L=>L.ak λw5 D=>?_⟩;have ae:=I.eG (aE y);refine D.ax (W a b w5 (by omega) (I.Ps.get (D.getD 2) y) (I.Ps.get (D.getD 3) z)) ?_;rintro _ w6 rfl G;have M:cmpL (I.au (a::h.drop (i+1))) (I.au (b::lb.drop (i+1)))=if br a.rx b.rx≠0 then br a.rx b.rx else cmpL (I.au (h.drop (i+1))) (I.au (lb.drop (i+1))):=rfl;rw[M]at e;refine⟨_,rfl,cD (λE=>⟨?_,G.fr⟩) (λE=>?_)⟩
    .rw [aA E]at e;rw[e]
    .rw [aq (by simpa using E)]at e;rw[bA _ (by omega)];exact Y (i+1) w6 (by omega) (by omega) e (G.take 0)
 exact vt.aB _ _ w _ (loop h.length 0 w (by omega) (by omega) (by simp) (bN _ (by
  intro aa e;simp only[ay,aW,a3]at e;rcases e with rfl|rfl|rfl|rfl
  .exact H
  .exact K
  .exact pa
  .exact pb)))
def FT:∀c:Nat,c<=1000000->Fc c
 |0,_=>λa b z n _ _=>absurd n (by have:=I.k4 a;omega)
 |c+1,T=>λa b z n u x=>by
  have J:=FT c (by omega);have W:=I.h2 a;have Q:=u.parts;have S:=x.parts;refine Kq.aB _ _ _ _ _ _ _ _ z _ ((bN [.tree a,.tree b] (by
   intro e q;simp only[ay,aW,a3]at q;rcases q with rfl|rfl
   .exact u
   .exact x)).aN λN Y A=>A.aN λO Z B=>B.ak λK D=>D.ax (OH _ _ K) ?_)
  rintro _ L rfl E;refine⟨_,rfl,E.ax (Gx _ _ L) ?_⟩;rintro _ M rfl F;refine⟨_,rfl,F.ax (Gx _ _ M) ?_⟩;rintro _ w6 rfl G;refine⟨_,rfl,G.or (l:=[cz a.k b.k,cz a.lo.toNat b.lo.toNat,cz a.hi.toNat b.hi.toNat]) rfl (by simp) λj d=>?_⟩;have e:br a.rx b.rx=if eo [cz a.k b.k,cz a.lo.toNat b.lo.toNat,cz a.hi.toNat b.hi.toNat]≠0 then eo [cz a.k b.k,cz a.lo.toNat b.lo.toNat,cz a.hi.toNat b.hi.toNat]else cmpL (I.au a.l) (I.au b.l):=by rw[I.e9 a,I.e9 b];unfold br;rfl
  refine⟨_,rfl,cD (λh=>⟨?_,d.fr⟩) (λh=>?_)⟩
  .rw [e,aA h]
  .have w:a.P j:=d.getD 0;have y:b.P j:=d.getD 1;refine d.ax (N7 c (by omega) J a.l b.l a.s b.s j w.parts.1 y.parts.1 w.parts.2 y.parts.2 (by omega)) ?_;rintro _ w8 rfl H;refine⟨_,rfl,?_,H.fr⟩;rw[e,aq (by simpa using h)]
def FR(a b:I)(w:C)(h:a.sz<=1000000)(c:a.P w)(d:b.P w):ah V dR #[a.v,b.v] w λr e=>r=U (.int .i64 (br a.rx b.rx))/\aj w e:=FT 1000000 (b' _) a b w h c d
def tA(a b:I)(w:C)(h:a.sz<=1000000)(k:a.P w)(n:b.P w):ah V kj #[a.v,b.v] w λr q=>r=U (.bool (br a.rx b.rx==0))/\aj w q:=by
 refine Kw.aB _ _ _ _ _ _ _ _ w _ ((bN [.tree a,.tree b] (by
  intro z d;simp only[ay,aW,a3]at d;rcases d with rfl|rfl
  .exact k
  .exact n)).aN λx A e=>e.aN λy u c=>c.ax (FR a b u h (c.getD 0) (c.getD 1)) ?_)
 rintro _ B rfl j;exact⟨_,rfl,rfl,j.fr⟩
namespace vb
noncomputable abbrev X:Fx:=⟨V,Tryz.f164,[],[2]⟩
abbrev P0:Ps:=[(1,.v [.I]),(2,.l [.I,.Y,.Y,.s] aV),(5,.v [.I])]
def bO(d:Int)(e:Nat)(h j k:Int)(n:J)(c:Int)(w:C)(R:aa):Prop:=bz P0 0 (X.Sem (ai [0,1,1,1,2])) d e h j k n c w R
noncomputable def bx:=bK X (ai [0,1,1,1,2]) P0 bO
abbrev P1:Ps:=[(1,.v [.I])]
abbrev aY(c:Int)(w:C)(R:aa):Prop:=
 R (U (.i c)) w
noncomputable def a1:=aC X [bx] (ai [3]) P1 aY
def eh:∀(d:Int) (j:Nat) (k q u:Int) (e:J) (c:Int) (w:C) (R:aa) (h:Y (af (c<((e.n:Nat):Int))) (Y (af (d>=0)) (aw e c λx=>bH w (x.add (ae c *4)) λy z A B=>bG [j] xR #[.agg #[.i y,.int .u8 z,.int .u8 A,B.v],.i d] w λt25 D=>bO t25 j k q u e (ad .i64 (c+1)) D R) (aY d w R)) (aY d w R)),bO d j k q u e c w R:=mp (bL (X:=X) [a1,bx] (ai [0,1,1,1,2]) P0)
abbrev P2:Ps:=[(1,.v [.I]),(2,.l [.I,.Y,.Y,.s] aV)]
abbrev aS(c:Int)(d:Nat)(e h j:Int)(k:J)(w:C)(R:aa):Prop:=
 bO c d e h j k 0 w R
noncomputable def aT:=aC X [a1,bx] (ai [2]) P2 aS
def aB(d e j:Int)(k:J)(c:Int)(w:C)(R:aa)(h:aP [] w λn q=>
 aS (ad .i64 (c - 1)) n d e j k q R):ah V xR #[.agg #[.i d,.int .u8 e,.int .u8 j,k.v],.i c] w R:=aM X [aT,a1,bx] h
end vb
namespace KP
noncomputable abbrev X:Fx:=⟨V,Tryz.f146,[],[1]⟩
def aB(c d e:Int)(j:J)(w:C)(R:aa)(h:aP [] w λk q=>
 bG [k] xR #[.agg #[.i c,.int .u8 d,.int .u8 e,j.v],.i 64] q λn u=>R (U (.bool (af (n<0)))) u):ah V uR #[.agg #[.i c,.int .u8 d,.int .u8 e,j.v]] w R:=aM X [] h
end KP
namespace lO
noncomputable abbrev X:Fx:=⟨V,Tryz.f165,[],[1,4]⟩
abbrev P0:Ps:=[]
abbrev aS(w:C)(R:aa):Prop:=
 R (U (.bool false)) w
noncomputable def aT:=aC X [] (ai [0,1,1,1,1]) P0 aS
abbrev P1:Ps:=[(1,.l [.I,.Y,.Y,.s] aV)]
abbrev aY(d:Nat)(e h j:Int)(c:J)(w:C)(R:aa):Prop:=
 R (U (.bool (((c.n:Nat):Int)==0))) w
noncomputable def a1:=aC X [aT] (ai [0,1,1,1,1,1,2]) P1 aY
abbrev P2:Ps:=[(52,.v [.s]),(53,.v [.I]),(54,.v [.I])]
def hG(t52:J)(t53 t54:Int)(w:C)(R:aa):Prop:=bz P2 0 (X.Sem (ai [0,1,1,1,3])) t52 t53 t54 w R
noncomputable def ff:=bK X (ai [0,1,1,1,3]) P2 hG
def mT:∀(t52:J) (t53 t54:Int) (w:C) (R:aa) (h:Y (af (t54<t53)) (aw t52 t54 λe=>bH w (e.add (ae t54 *4)) λj k n q=>aP [] w λc u=>
 loc [c] u λx=>bP [c] xY #[.agg #[.i j,.int .u8 k,.int .u8 n,q.v]] x λt59 d=>Y (!t59) (R (U (.bool false)) d) (hG t52 t53 (ad .i64 (t54+1)) d R)) (R (U (.bool true)) w)),hG t52 t53 t54 w R:=mp (bL (X:=X) [ff,a1,aT] (ai [0,1,1,1,3]) P2)
abbrev cq(d:Nat)(e h j:Int)(c:J)(w:C)(R:aa):Prop:=
 hG c ((c.n:Nat):Int) 0 w R
noncomputable def bq:=aC X [ff,a1,aT] (ai [3]) P1 cq
abbrev hJ(d:Nat)(e h j:Int)(c:J)(w:C)(R:aa):Prop:=
 Y (((c.n:Nat):Int) !=1) (R (U (.bool false)) w) (cq d e h j c w R)
noncomputable def dH:=aC X [bq,ff,a1,aT] (ai [0,1,7,1,1,1,2]) P1 hJ
abbrev j5(w:C)(R:aa):Prop:=
 R (U (.bool false)) w
noncomputable def e1:=aC X [dH,bq,ff,a1,aT] (ai [8,1,1,1,2]) P0 j5
abbrev P3:Ps:=[(1,.l [.I,.Y,.Y,.s] aV),(19,.v [.I])]
abbrev dV(c:Nat)(d e h:Int)(j:J)(t19:Int)(w:C)(R:aa):Prop:=
 Y (t19==6) (Y (t19==6) (hJ c d e h j w R) (j5 w R)) (Y (t19==7) (hJ c d e h j w R) (j5 w R))
noncomputable def df:=aC X [e1,dH,bq,ff,a1,aT] (ai [6,1,1,1,2]) P3 dV
abbrev be(h:Nat)(j c d:Int)(e:J)(t19:Int)(w:C)(R:aa):Prop:=
 Y (t19==2) (Y (((e.n:Nat):Int)==0) (R (U (.bool (af (c<=d)))) w) (R (U (.bool false)) w)) (Y (t19==3) (Y (t19==3) (cq h j c d e w R) (dV h j c d e t19 w R)) (Y (t19==4) (Y (t19==4) (cq h j c d e w R) (dV h j c d e t19 w R)) (Y (t19==5) (cq h j c d e w R) (dV h j c d e t19 w R))))
noncomputable def a7:=aC X [df,e1,dH,bq,ff,a1,aT] (ai [2,1,1,1,2]) P3 be
abbrev aZ(d:Nat)(c e h:Int)(j:J)(w:C)(R:aa):Prop:=
 Y (c==0) (Y (c==0) (aY d c e h j w R) (be d c e h j c w R)) (Y (c==1) (aY d c e h j w R) (be d c e h j c w R))
noncomputable def aX:=aC X [a7,df,e1,dH,bq,ff,a1,aT] (ai [2]) P1 aZ
def aB(c d e:Int)(k:J)(w:C)(R:aa)(h:aP [] w λn j=>
 Y (c !=2) (Y (d !=0) (aS j R) (Y (e !=0) (aS j R) (aZ n c d e k j R))) (aZ n c d e k j R)):ah V xY #[.agg #[.i c,.int .u8 d,.int .u8 e,k.v]] w R:=aM X [aX,a7,df,e1,dH,bq,ff,a1,aT] h
end lO
namespace Kt
noncomputable abbrev X:Fx:=⟨V,Tryz.f147,[],[1]⟩
def aB(c d e:Int)(j:J)(w:C)(R:aa)(h:aP [] w λk y=>
 bP [k] uR #[.agg #[.i c,.int .u8 d,.int .u8 e,j.v]] y λu n=>Y u (R (U (.i 4)) n) (bP [k] xY #[.agg #[.i c,.int .u8 d,.int .u8 e,j.v]] n λx q=>Y (!x) (R (U (.i 1)) q) (R (U (.i 0)) q))):ah V xQ #[.agg #[.i c,.int .u8 d,.int .u8 e,j.v]] w R:=aM X [] h
end Kt
namespace va
noncomputable abbrev X:Fx:=⟨V,Tryz.f166,[],[1,2,5]⟩
abbrev P0:Ps:=[(1,.l [.I,.Y,.Y,.s] aV),(2,.l [.I,.Y,.Y,.s] aV),(3,.v [.s]),(7,.v [.s]),(8,.v [.I]),(9,.v [.I])]
def aH(d:Nat)(e h j:Int)(k:J)(t2:Nat)(n q u:Int)(x c y:J)(z A:Int)(w:C)(R:aa):Prop:=bz P0 0 (X.Sem (ai [0,1,1,1,2])) d e h j k t2 n q u x c y z A w R
noncomputable def az:=bK X (ai [0,1,1,1,2]) P0 aH
def bD:∀(c:Nat) (k n q:Int) (z:J) (t2:Nat) (A B D:Int) (E j u:J) (x d:Int) (w:C) (R:aa) (h:Y (af (d<x)) (aw u d λH=>bH w (H.add (ae d *4)) λI K L M=>aP [c,t2] w λe T=>
 loc [c,t2,e] T λW=>eT [c,t2,e] uM #[.agg #[.i I,.int .u8 K,.int .u8 L,M.v]] W λN O P Q F=>aK F (.cells #[.i N,.int .u8 O,.int .u8 P,Q.v] aV) λG=>
 ∃(t17:J) (y:C),a' V (bg #[cE,cE] cE #[j.v,.slice (some (nb F)) 1 1]) G=.ok (t17.v) y/\kept [c,t2,e] G y/\aH c k n q z t2 A B D E t17 u x (ad .i64 (d+1)) y R) (loc [c,t2] w λS=>R (U (.agg #[.i k,.int .u8 n,.int .u8 q,j.v])) S)),aH c k n q z t2 A B D E j u x d w R:=mp (bL (X:=X) [az] (ai [0,1,1,1,2]) P0)
def aB(e j k:Int)(c:J)(w:C)(R:aa)(h:aP [] w λd u=>
 aP [d] u λq x=>
 aH d e j k c q 0 0 0 ⟨none,0,0⟩ ⟨none,0,0⟩ c ((c.n:Nat):Int) 0 x R):ah V uM #[.agg #[.i e,.int .u8 j,.int .u8 k,c.v]] w R:=aM X [az] h
end va
namespace KG
noncomputable abbrev X:Fx:=⟨V,Tryz.f148,[],[1,2]⟩
def aB(e j k:Int)(n:J)(w:C)(R:aa)(h:aP [] w λc B=>
 aP [c] B λd E=>
 bP [c,d] uR #[.agg #[.i e,.int .u8 j,.int .u8 k,n.v]] E λu q=>Y u (loc [c,d] q λF=>R (U (.tuple #[.agg #[.i 0,.int .u8 0,.int .u8 0,.slice none 0 0],.i 4])) F) (eT [c,d] uM #[.agg #[.i e,.int .u8 j,.int .u8 k,n.v]] q λx y z A G=>loc [c,d] G λD=>R (U (.tuple #[.agg #[.i x,.int .u8 y,.int .u8 z,A.v],.i 0])) D)):ah V CP #[.agg #[.i e,.int .u8 j,.int .u8 k,n.v]] w R:=aM X [] h
end KG
def gE{w:C}{t:I}(h:t.P w):Z F0 w w [] [.tree t]:=bN _ (by intro d c;simp only[ay,aW,a3]at c;subst c;exact h)
def fL(w:C)(x:Rx)(r:Ending)(w':C):Prop:=∃t:I,r=U t.v/\t.rx=x/\t.P w'/\∀b∈t.fp,w.heap.size<=b
section
variable {M:Nat->Prop} {w0 w:C} {L D:List En} {bs:List Nat}
def _root_.Go.W.Z.qA(H:Z M w0 w L D)(i j:Nat){ts:List I}{t:I}(hi:D[i]? =some (.trees ts):=by rfl)(e:D[j]? =some (.tree t):=by rfl):Z M w0 w L (D++[.trees (ts++[t])]):=by
 refine H.gv _ (Fr.refl _ _) (I.iE λh c=>?_) λb k=>.inr (.inr ?_)
 .rcases a6.1 c with c|c
  .exact I.Ps.mem (H.getD i hi) c
  .simp at c;subst c;exact H.getD j e
 .obtain ⟨h,c,d⟩:=I.bX.1 (a4.1 k);rcases a6.1 c with c|c
  .exact ⟨_,aE hi,a4.2 (I.bX.2 ⟨h,c,d⟩)⟩
  .simp at c;rw[c]at d;exact⟨_,aE e,a4.2 d⟩
def gi{e:aF}{s:J}{vs:List ab}{b:Nat}(h:b∈(En.bh 4 s vs).fp):b∈(En.row e 4 s vs).fp:=by
 have:b∈(if vs=[]then[]else aO s):=h;split at this
 .grind
 .exact this
def _root_.Go.W.Z.qw(H:Z M w0 w L D)(i j:Nat){e:aF}{s:J}{ts:List I}(k:Int)(lo hi:UInt8)(n:L[i]? =some (.row e 4 s (ts.flatMap I.c)):=by rfl)(q:D[j]? =some (.trees ts):=by rfl):Z M w0 w (L.eraseIdx i) (D++[I.row s ts]++[.tree (.mk k lo hi s ts)]):=by
 have u:=H.freeze i (I.row s ts) n (aG.bh (H.get i n)) λb h=>gi h;refine u.gv _ (Fr.refl _ _) ?_ λb h=>.inr (.inr ?_)
 .show I.P w _;unfold I.P;exact⟨aG.bh (H.get i n),H.getD j q⟩
 .have d:=a4.1 h;unfold I.fp at d;rcases a6.1 d with d|d
  .grind
  .exact ⟨_,bS _ (aE q),a4.2 d⟩
end
def rn(l:List I):∀e∈l.flatMap I.c,e.oneCell'=true:=λe h=>by obtain⟨j,_,d⟩:=List.mem_flatMap.1 h;simp only[I.c,ay,aW,a3]at d;rcases d with rfl|rfl|rfl|rfl<;>rfl
def pH:gJ V cE aV (.agg #[.int .i64 0,.int .u8 0,.int .u8 0,.slice none 0 0]) 4 40:=⟨by kernel_rfl,by kernel_rfl,rfl,by decide,by decide⟩
def lr(l:List I)(t:I):(l++[t]).flatMap I.c=l.flatMap I.c++t.c:=by simp
def jm(l m:List I):I.au (l++m)=I.au l++I.au m:=by simp[I.fy]
def sO:∀(l m:List I),I.bc (l++m)=I.bc l+I.bc m
 |[],m=>by simp[I.bc]
 |t::l,m=>by show t.sz+I.bc (l++m)=t.sz+I.bc l+I.bc m;rw[sO l m];omega
def yY(l:List I)(i:Nat):I.bc (l.take i)<=I.bc l:=by have:=sO (l.take i) (l.drop i);rw[List.take_append_drop]at this;omega
abbrev Na(n:Nat):Prop:=∀(t:I) (x:Nat) (w:C),t.sz<=n->x<=1000000->t.P w->ah V xR #[t.v,.int .i64 (x:Int)] w λr c=>r=U (.int .i64 (max ((x:Int) - t.sz) (-1)))/\aj w c
def Gb:∀u:Nat,u<=1000000->Na u
 |0,_=>λt x w z _ _=>absurd z (by have:=I.k4 t;omega)
 |u+1,W=>λt x w z hx O=>by
  have L:=Gb u (by omega);have hs:=I.h2 t;have T:=I.fI t.l;have loop:∀(d i:Nat) (y:Int) (h:Nat) (c:C),i+d=t.l.length->-1<=y->y<=1000000->max (y - I.bc (t.l.drop i)) (-1)=max ((x:Int) - t.sz) (-1)->Z F0 w c [.g h] [.tree t]->
    vb.bO y h t.k t.lo.toNat t.hi.toNat t.s (i:Int) c λr Q=>r=U (.int .i64 (max ((x:Int) - t.sz) (-1)))/\aj w Q:=by
   intro d;induction d with
   |zero=>
    intro i y h c G H K j e;have N:=I.cu (show t.P c from e.getD 0).parts.1;rw[c9 (by omega)]at j;refine vb.eh _ _ _ _ _ _ _ _ _ (bb (a2 (by omega)) ⟨?_,e.fr⟩);rw[<-j];congr 2;simp only[I.bc];omega
   |succ d M=>
    intro i y h c G H K j e;have N:=I.cu (show t.P c from e.getD 0).parts.1;have q:t.l[i]? =some (t.l[i]'(by omega)):=a9 (by omega);rw[dZ (by omega)]at j;generalize t.l[i]'(by omega)=a at q j;have aa:=I.eG (aE q);unfold I.bc at j;refine vb.eh _ _ _ _ _ _ _ _ _ (a8 (a0 (by omega)) (aQ (λA=>⟨by omega,by omega,?_⟩) (λA=>⟨?_,e.fr⟩)))
    .have B:t.P c:=e.getD 0;refine I.di B.parts.1 q λp Y n=>⟨_,_,_,_,n.c0,n.c1,n.c2,n.c3,?_⟩;have J:0<=y:=A;obtain⟨m,rfl⟩:=Int.eq_ofNat_of_zero_le J;refine e.ax (L a m c (by omega) (by omega) (B.parts.2.get q)) ?_;rintro _ S rfl E;refine⟨_,rfl,?_⟩;rw[bA _ (by omega)];refine M (i+1) _ h S (by omega) (by omega) (by omega) ?_ E;omega
    grind
  have F:ad .i64 ((x:Int) - 1)=(x:Int) - 1:=bf _ (by omega);refine vb.aB _ _ _ _ _ w _ ((gE O).aN λh c D=>?_);rw[F];refine loop t.l.length 0 _ h c (by omega) (by omega) (by omega) ?_ D
  grind
def Ar(t:I)(w:C)(h:t.sz<=1000000)(e:t.P w):ah V uR #[t.v] w λr j=>r=U (.bool (af (64<t.sz)))/\aj w j:=by
 refine KP.aB _ _ _ _ w _ ((gE e).aN λn k c=>c.ax (Gb 1000000 (b' _) t 64 k h (by omega) (c.getD 0)) ?_);rintro _ q rfl d;refine⟨_,rfl,?_,d.fr⟩;congr 2
 grind
mutual
def cM:Rx->Bool
 |.mk c lo d l=>!(c !=2&&(lo !=0||d !=0))&&(if c=0\/c=1 then l.isEmpty else if c=2 then l.isEmpty&&af (lo.toNat<=d.toNat)else if c=3\/c=4\/c=5 then dX l else if c=6\/c=7 then l.length==1&&dX l else false)
def dX:List Rx->Bool
 |[]=>true
 |t::l=>cM t&&dX l
end
abbrev No(n:Nat):Prop:=∀(t:I) (w:C),t.sz<=n->t.P w->ah V xY #[t.v] w λr c=>r=U (.bool (cM t.rx))/\aj w c
def AY(l:List I):(I.au l).isEmpty=(((l.length:Nat):Int)==0):=by
 rw[I.fy];cases l with
 |nil=>rfl
 |cons a l=>
  grind
def Gp:∀F:Nat,F<=1000000->No F
 |0,_=>λt j Q _=>absurd Q (by have:=I.k4 t;omega)
 |F+1,B=>λt j Q pt=>by
  have ih:=Gp F (by omega);have hs:=I.h2 t;have hl:=I.fI t.l;have K:=I.cu pt.parts.1;have loop:∀(b:Bool),cM t.rx=(b&&dX (I.au t.l))->b=true->∀(d i:Nat) (e:C),i+d=t.l.length->dX (I.au (t.l.drop i))=dX (I.au t.l)->Z F0 j e [] [.tree t]->
    lO.hG t.s ((t.s.n:Nat):Int) (i:Int) e λr h=>r=U (.bool (cM t.rx))/\aj j h:=by
   intro b u ac d;subst ac;rw[Bool.true_and]at u;induction d with
   |zero=>
    intro i e ae w y;rw[c9 (by omega)]at w;refine lO.mT _ _ _ _ _ (bb (a2 (by omega)) ⟨?_,y.fr⟩);rw[u,<-w];rfl
   |succ d ah=>
    intro i e ae w y;have A:t.l[i]? =some (t.l[i]'(by omega)):=a9 (by omega);rw[dZ (by omega)]at w;generalize t.l[i]'(by omega)=a at A w;have al:=I.eG (aE A);have S:(cM a.rx&&dX (I.au (t.l.drop (i+1))))=dX (I.au t.l):=w;have ai:t.P e:=y.getD 0;refine lO.mT _ _ _ _ _ (a8 (a0 (by omega)) ⟨by omega,by omega,?_⟩);refine I.di ai.parts.1 A λp hp z=>⟨_,_,_,_,z.c0,z.c1,z.c2,z.c3,y.aN λb4 w2 H2=>H2.ak λw3 M=>M.ax (ih a w3 (by omega) ((show t.P w3 from M.getD 0).parts.2.get A)) ?_⟩;rintro _ w4 rfl N;refine⟨_,rfl,eJ (λhf=>⟨?_,N.fr⟩) (λht=>?_)⟩
    .grind
    .rw [bA _ (by omega)];rw[ht,Bool.true_and]at S;exact ah (i+1) w4 (by omega) S (N.take 0)
  have er:=I.e9 t;have nz:∀x:UInt8,(((x.toNat:Nat):Int) !=0)=(x !=0):=λx=>by
   by_cases T:x=0
   .subst T;rfl
   .have J:(x !=0)=true:=by grind
    rw[J];have:x.toNat≠0:=λh0=>T (UInt8.toNat_inj.1 (by grind))
    grind
  refine lO.aB _ _ _ _ j _ ((gE pt).aN λq e L=>?_);have out:∀b:Bool,cM t.rx=b->(Ending.returned (.bool b)=U (.bool (cM t.rx))/\aj j e):=λb u=>⟨by rw[u],L.fr⟩;have G:cM t.rx=dX (I.au t.l)->lO.cq q t.k t.lo.toNat t.hi.toNat t.s e λr h=>r=U (.bool (cM t.rx))/\aj j h:=λu=>loop true (by grind) rfl t.l.length 0 e (by omega) (by simp) (L.take 0);have s1:(t.k !=2&&(t.lo !=0||t.hi !=0))=false->lO.aZ q t.k t.lo.toNat t.hi.toNat t.s e λr h=>r=U (.bool (cM t.rx))/\aj j h:=by
   intro h0;have eg:cM t.rx=(if t.k=0\/t.k=1 then(I.au t.l).isEmpty else if t.k=2 then(I.au t.l).isEmpty&&af (t.lo.toNat<=t.hi.toNat)else if t.k=3\/t.k=4\/t.k=5 then dX (I.au t.l)else if t.k=6\/t.k=7 then(I.au t.l).length==1&&dX (I.au t.l)else false):=by
    rw[er];unfold cM
    grind
   have s2:t.k=0\/t.k=1->lO.aY q t.k t.lo.toNat t.hi.toNat t.s e λr h=>r=U (.bool (cM t.rx))/\aj j h:=λc=>out _ (by rw[eg,aA c,AY,K]);have s7:t.k=6\/t.k=7->lO.hJ q t.k t.lo.toNat t.hi.toNat t.s e λr h=>r=U (.bool (cM t.rx))/\aj j h:=λc=>by
    have e7:cM t.rx=((I.au t.l).length==1&&dX (I.au t.l)):=by grind
    have el:(I.au t.l).length=t.s.n:=by rw[I.fy];grind
    refine cD (λJ=>out false ?_) (λJ=>G ?_)
    .grind
    grind
   have s6:t.k≠0->t.k≠1->t.k≠2->t.k≠3->t.k≠4->t.k≠5->lO.dV q t.k t.lo.toNat t.hi.toNat t.s t.k e λr h=>r=U (.bool (cM t.rx))/\aj j h:=λD E W Y aa k5=>
    aJ (λc=>a8 (by grind) (s7 (.inl c))) (λk6=>aJ (λc=>s7 (.inr c)) (λk7=>out false (by grind)))
   have H:t.k=3\/t.k=4\/t.k=5->cM t.rx=dX (I.au t.l):=λc=>by grind
   have s3:t.k≠0->t.k≠1->lO.be q t.k t.lo.toNat t.hi.toNat t.s t.k e λr h=>r=U (.bool (cM t.rx))/\aj j h:=λD E=>
    aJ (λc=>by
     have O:cM t.rx=((I.au t.l).isEmpty&&af (t.lo.toNat<=t.hi.toNat)):=by grind
     refine cK (λB=>out _ ?_) (λB=>out false ?_)
     .rw [O,AY,<-K,B,Bool.true_and]
      grind
     .rw [O,AY,<-K,B];rfl)
    (λW=>aJ (λc=>a8 (by grind) (G (H (.inl c)))) (λY=>aJ (λc=>a8 (by grind) (G (H (.inr (.inl c))))) (λaa=>aJ (λc=>G (H (.inr (.inr c)))) (λk5=>s6 D E W Y aa k5))))
   exact aJ (λc=>a8 (by grind) (s2 (.inl c))) (λD=>aJ (λc=>s2 (.inr c)) (λE=>s3 D E))
  have bad:(t.k !=2&&(t.lo !=0||t.hi !=0))=true->cM t.rx=false:=λu=>by
   rw[er];unfold cM
   grind
  refine cK (λab=>cK (λag=>out false (bad ?_)) (λag=>cK (λad=>out false (bad ?_)) (λad=>s1 ?_))) (λab=>s1 ?_)
  .grind
  .grind
  .grind
  grind
def jv(x:Rx):Int:=if 64<x.sz then 4 else if cM x then 0 else 1
def F6(t:I)(w:C)(h:t.sz<=1000000)(n:t.P w):ah V xQ #[t.v] w λr q=>r=U (.int .i64 (jv t.rx))/\aj w q:=by
 refine Kt.aB _ _ _ _ w _ ((gE n).aN λy u j=>j.ax (Ar t u h (j.getD 0)) ?_);rintro _ x rfl d;refine⟨_,rfl,aQ (λc=>⟨?_,d.fr⟩) (λc=>d.ax (Gp 1000000 (b' _) t x h (d.getD 0)) ?_)⟩
 .unfold jv;rw[I.eF,aA c]
 rintro _ z rfl k;refine⟨_,rfl,eJ (λe=>⟨?_,k.fr⟩) (λe=>⟨?_,k.fr⟩)⟩
 .unfold jv;rw[I.eF,aq c,e];rfl
 .unfold jv;rw[I.eF,aq c,e];rfl
abbrev Nb(n:Nat):Prop:=∀(t:I) (w:C),t.sz<=n->t.P w->ah V uM #[t.v] w λr c=>fL w t.rx r c/\aj w c
def Ga:∀F:Nat,F<=1000000->Nb F
 |0,_=>λt w L _=>absurd L (by have:=I.k4 t;omega)
 |F+1,hn=>λt w L O=>by
  have ih:=Ga F (by omega);have hs:=I.h2 t;have hl:=I.fI t.l;have nr:=I.cu O.parts.1;have loop:∀(d i:Nat) (ks:List I) (A:J) (j q:Nat) (x:C),i+d=t.l.length->ks.length=i->I.au ks=I.au (t.l.take i)->(∀b∈I.bm ks,w.heap.size<=b)->Z F0 w x [.g j,.g q,.row aV 4 A (ks.flatMap I.c)] [.tree t,.trees ks]->
    va.aH j t.k t.lo.toNat t.hi.toNat t.s q 0 0 0 ⟨none,0,0⟩ A t.s ((t.s.n:Nat):Int) (i:Int) x λr S=>fL w t.rx r S/\aj w S:=by
   intro d;induction d with
   |zero=>
    intro i ks A j q x aa hk M N B;refine va.bD _ _ _ _ _ _ _ _ _ _ _ _ _ _ _ _ (bb (a2 (by omega)) (B.ak λG h=>⟨⟨.mk t.k t.lo t.hi A ks,rfl,?_,?_,λb e=>?_⟩,h.fr⟩))
    .rw [I.e9 t];unfold I.rx
     grind
    .unfold I.P;exact⟨aG.bh (h.get 2),h.getD 1⟩
    .unfold I.fp at e;rcases a6.1 e with e|e
     .exact (h.new _ (aE (i:=2) rfl) b (gi e)).resolve_right id
     grind
   |succ d ab=>
    intro i ks A j q x aa hk M N B;have z:t.l[i]? =some (t.l[i]'(by omega)):=a9 (by omega);generalize t.l[i]'(by omega)=a at z;have ae:=I.eG (aE z);have ac:t.P x:=B.getD 0;refine va.bD _ _ _ _ _ _ _ _ _ _ _ _ _ _ _ _ (a8 (a0 (by omega)) ⟨by omega,by omega,?_⟩);refine I.di ac.parts.1 z λp hp E=>⟨_,_,_,_,E.c0,E.c1,E.c2,E.c3,B.aN λb5 G h=>h.ak λT y=>y.jF (ih a T (by omega) ((show t.P T from y.getD 0).parts.2.get z)) ?_⟩;rintro _ w4 ⟨Q,rfl,hu,pu,K⟩ _ W;have D:=W.rd (.tree Q) pu λb e=>K b (a4.1 e);have ad:=I.cu (D.get 2:aG _ _ _ _ _).bh;refine⟨_,_,_,_,rfl,D.hL 2 pH rfl (λs' w5 H5=>?_) (by omega)⟩;have H6:=(H5.qA 1 2).take 3;rw[bA _ (by omega)];refine ab (i+1) (ks++[Q]) s' j q w5 (by omega) (by grind) ?_ ?_ ?_
    .rw [jm,M,eI,z,jm];simp[I.au,hu]
    .intro b e;obtain⟨t',u,H⟩:=I.bX.1 e;rcases a6.1 u with u|u
     .exact N b (I.bX.2 ⟨t',u,H⟩)
     .simp at u;rw[u]at H;exact bB y.fr.size (K b H)
    .rw [lr];exact H6.forget _ (by simp)
  refine va.aB _ _ _ _ w _ ((gE O).aN λj x Y=>Y.aN λq G h=>?_);have y:=h.gP aV 4;have D:=y.gv (.trees []) (Fr.refl _ _) (by show I.Ps G [];unfold I.Ps;trivial) (λb e=>by
   have:=a4.1 e;unfold I.bm at this
   grind)
  exact loop t.l.length 0 [] ⟨none,0,0⟩ j q G (by omega) rfl rfl (λb e=>by unfold I.bm at e;cases e) D
def Ou(t:I)(w:C)(h:t.sz<=1000000)(d:t.P w):ah V uM #[t.v] w λr c=>fL w t.rx r c/\aj w c:=Ga 1000000 (b' _) t w h d
def fx:Rx:=.mk 0 0 0 []
def oo(x:Rx):Int:=if 64<x.sz then 4 else 0
def oq(x:Rx):Rx:=if 64<x.sz then fx else x
def Fq(w:C)(x:Rx)(c:Int)(r:Ending)(w':C):Prop:=∃t:I,r=U (.tuple #[t.v,.int .i64 c])/\t.rx=x/\t.P w'/\∀b∈t.fp,w.heap.size<=b
def JA(w:C):(I.mk 0 0 0 ⟨none,0,0⟩ []).P w:=by unfold I.P I.Ps;exact⟨bF.nil 4 w,trivial⟩
def Jz{b:Nat}(h:b∈(I.mk 0 0 0 ⟨none,0,0⟩ []).fp):False:=by unfold I.fp I.bm at h;simp[En.bh]at h
def OL(t:I)(w:C)(h:t.sz<=1000000)(B:t.P w):ah V CP #[t.v] w λr x=>Fq w (oq t.rx) (oo t.rx) r x/\aj w x:=by
 refine KG.aB _ _ _ _ w _ ((gE B).aN λH K z=>z.aN λJ E k=>k.ax (Ar t E h (k.getD 0)) ?_);rintro _ F rfl e;refine⟨_,rfl,aQ (λd=>e.ak λG j=>⟨⟨.mk 0 0 0 ⟨none,0,0⟩ [],?_,?_,JA _,λb c=>(Jz c).elim⟩,j.fr⟩) (λd=>e.jF (Ou t F h (e.getD 0)) ?_)⟩
 .unfold oo;rw[I.eF,aA d];rfl
 .unfold oq;rw[I.eF,aA d];rfl
 rintro _ G ⟨u,rfl,A,D,q⟩ _ y;have j:=y.rd (.tree u) D λb c=>q b (a4.1 c);refine⟨_,_,_,_,rfl,j.ak λL n=>⟨⟨u,?_,?_,n.getD 1,λb c=>bB e.fr.size (q b c)⟩,n.fr⟩⟩
 .unfold oo;rw[I.eF,aq d]
 .unfold oq;rw[I.eF,aq d,A]
namespace Kx
noncomputable abbrev X:Fx:=⟨V,Tryz.f186,[],[2]⟩
def aB(c d e:Int)(j:J)(k:Addr)(w:C)(R:aa)(h:aP [] w λq n=>
 bH n k λu x y z=>bP [q] kj #[.agg #[.i c,.int .u8 d,.int .u8 e,j.v],.agg #[.i u,.int .u8 x,.int .u8 y,z.v]] n λA B=>R (U (.bool A)) B):ah V nn #[.agg #[.i c,.int .u8 d,.int .u8 e,j.v],.pointer (some k)] w R:=aM X [] h
end Kx
namespace vu
noncomputable abbrev X:Fx:=⟨V,Tryz.f187,[],[]⟩
abbrev P0:Ps:=[(0,.v [.s]),(1,.v [.f]),(7,.v [.I]),(8,.v [.I])]
def L0(d:J)(c:Fv)(e h:Int)(w:C)(R:aa):Prop:=bz P0 0 (X.Sem (ai [0,1,1,1,1])) d c e h w R
noncomputable def az:=bK X (ai [0,1,1,1,1]) P0 L0
def cf:∀(e:J) (c:Fv) (j d:Int) (w:C) (R:aa) (h:Y (af (d<j)) (aw e d λu=>bH w (u.add (ae d *4)) λx y z A=>cF (gx V c.n) (ah V c.n (c.bs++#[.agg #[.i x,.int .u8 y,.int .u8 z,A.v]]++c.cs) w λq k=>∃t16:Bool,q=U (.bool t16)/\
 Y t16 (R (U (.i d)) k) (L0 e c j (ad .i64 (d+1)) k R))) (R (U (.i (-1))) w)),L0 e c j d w R:=mp (bL (X:=X) [az] (ai [0,1,1,1,1]) P0)
def ok(c:J)(d:Fv)(w:C)(R:aa)(h:L0 c d ((c.n:Nat):Int) 0 w R):ah V x3 #[c.v,d.v] w R:=aM X [az] h
end vu
namespace Lr
noncomputable abbrev X:Fx:=⟨V,Tryz.f171,[],[]⟩
def ok(d:J)(c:Fv)(w:C)(R:aa)(h:en x3 #[d.v,c.v] w λe j=>R (U (.bool (af (e>=0)))) j):ah V CV #[d.v,c.v] w R:=aM X [] h
end Lr
namespace qz
noncomputable abbrev X:Fx:=⟨V,Tryz.f185,[],[7]⟩
abbrev P0:Ps:=[(0,.v [.s]),(1,.v [.g nn 0 1,.r]),(5,.v [.I]),(6,.v [.I])]
def aH(h:J)(c:Addr)(d e:Int)(w:C)(R:aa):Prop:=bz P0 0 (X.Sem (ai [0,1,1,1,3])) h c d e w R
noncomputable def az:=bK X (ai [0,1,1,1,3]) P0 aH
abbrev aZ(h:J)(c:Addr)(d e:Int)(w:C)(R:aa):Prop:=
 aH h c d (ad .i64 (e+1)) w R
noncomputable def aX:=aC X [az] (ai [2,2,1,1,3]) P0 aZ
def bD:∀(e:J) (q:Addr) (d k:Int) (w:C) (R:aa) (h:Y (af (k<((e.n:Nat):Int))) (aw e k λI=>bH w (I.add (ae k *4)) λB D E F=>aP [] w λj K=>
 loc [j] K λL=>bP [j] nn #[.agg #[.i B,.int .u8 D,.int .u8 E,F.v],.pointer (some q)] L λt28 y=>Y (!t28) (aw e d λu=>ao y (u.add (ae d *4)) (.i B) λz=>kept [j] y z/\
 ao z ((u.add (ae d *4)).add 1) (.int .u8 D) λA=>kept [j] z A/\
 ao A ((u.add (ae d *4)).add 2) (.int .u8 E) λx=>kept [j] A x/\
 ao x ((u.add (ae d *4)).add 3) (F.v) λG=>kept [j] x G/\
 aZ e q (ad .i64 (d+1)) k G R) (aZ e q d k y R)) ((0:Int)<=d/\d<=((e.n:Nat):Int)/\∃(H:C),a' V (Builtin.clear_ #[cE] i1 #[.slice (if e.c=(ae d)then e.a else e.a.map (·.add ((ae d) *4))) (e.n - (ae d)) (e.c - (ae d))]) w=.ok (.tuple #[]) H/\(0:Int)<=d/\d<=((e.c:Nat):Int)/\R (U (.slice (if e.c=0 then e.a else e.a.map (·.add (0 *4))) ((ae d) - 0) (e.c - 0))) H)),aH e q d k w R:=mp (bL (X:=X) [aX,az] (ai [0,1,1,1,3]) P0)
def aB(c:J)(d:Addr)(w:C)(R:aa)(h:en x3 #[c.v,.func (.func nn) #[] #[.pointer (some d)]] w λt10 e=>Y (t10==(-1)) (R (U (c.v)) e) (aH c d t10 (ad .i64 (t10+1)) e R)):ah V CW #[c.v,.func (.func nn) #[] #[.pointer (some d)]] w R:=aM X [aX,az] h
end qz
namespace mF
noncomputable abbrev X:Fx:=⟨V,Tryz.f176,[(6,ls [0,1,2,3,4,5,6,7,8,9,10]),(11,ls [0,1,2,3,4,5,6,7,8,9,10,11])],[]⟩
abbrev P0:Ps:=[(0,.v [.s]),(1,.v [.g kj 0 0]),(5,.v [.I])]
def L0(d:J)(c:Int)(w:C)(R:aa):Prop:=bz P0 0 (X.Sem (ai [0,1,1,1,2])) d c w R
noncomputable def az:=bK X (ai [0,1,1,1,2]) P0 L0
abbrev P1:Ps:=[(0,.v [.s]),(1,.v [.g kj 0 0]),(5,.v [.I]),(6,.v [.s]),(7,.v [.I])]
def L2(e:J)(d:Int)(h:J)(c:Int)(w:C)(R:aa):Prop:=bz P1 0 (X.Sem (ai [0,1,1,1,1,1,1,2,1,2,1,1,2])) e d h c w R
noncomputable def dB:=bK X (ai [0,1,1,1,1,1,1,2,1,2,1,1,2]) P1 L2
abbrev S3(e:J)(d:Int)(h:J)(c:Int)(w:C)(R:aa):Prop:=
 L2 e d h (ad .i64 (c+1)) w R
noncomputable def a7:=aC X [dB,az] (ai [2,2,1,1,1,1,1,2,1,2,1,1,2]) P1 S3
def tf:∀(d:J) (e:Int) (k:J) (j:Int) (w:C) (R:aa) (h:Y (af (j<((k.n:Nat):Int))) (dM w λq=>aw k j λy=>bH q (y.add (ae j *4)) λz A B D=>aw k (ad .i64 (j - 1)) λE=>bH q (E.add (ae (ad .i64 (j - 1)) *4)) λF G H I=>gL kj #[.agg #[.i z,.int .u8 A,.int .u8 B,D.v],.agg #[.i F,.int .u8 G,.int .u8 H,I.v]] q λt48 u=>Y (!t48) (aw k j λK=>bH u (K.add (ae j *4)) λL M N O=>aw d e λP=>g8 u (P.add (ae e *4)) (.i L) (.int .u8 M) (.int .u8 N) (O.v) λQ=>S3 d (ad .i64 (e+1)) k j Q R) (S3 d e k j u R)) ((0:Int)<=e/\e<=((d.n:Nat):Int)/\∃(x:C),a' V (Builtin.clear_ #[cE] i1 #[.slice (if d.c=(ae e)then d.a else d.a.map (·.add ((ae e) *4))) (d.n - (ae e)) (d.c - (ae e))]) w=.ok (.tuple #[]) x/\(0:Int)<=e/\e<=((d.c:Nat):Int)/\R (U (.slice (if d.c=0 then d.a else d.a.map (·.add (0 *4))) ((ae e) - 0) (d.c - 0))) x)),L2 d e k j w R:=mp (bL (X:=X) [a7,dB,az] (ai [0,1,1,1,1,1,1,2,1,2,1,1,2]) P1)
abbrev P2:Ps:=[(0,.v [.s]),(1,.v [.g kj 0 0]),(5,.v [.I]),(6,.v [.s])]
abbrev S1(d:J)(c:Int)(e:J)(w:C)(R:aa):Prop:=
 L2 d c e 1 w R
noncomputable def aX:=aC X [a7,dB,az] (ai [1,1,1,2,1,2,1,1,2]) P2 S1
def cf:∀(e:J) (d:Int) (w:C) (R:aa) (h:Y (af (d<((e.n:Nat):Int))) (dM w λj=>aw e d λq=>bH j (q.add (ae d *4)) λu x y z=>aw e (ad .i64 (d - 1)) λA=>bH j (A.add (ae (ad .i64 (d - 1)) *4)) λB D E F=>gL kj #[.agg #[.i u,.int .u8 x,.int .u8 y,z.v],.agg #[.i B,.int .u8 D,.int .u8 E,F.v]] j λt28 k=>Y t28 ((0:Int)<=d/\d<=((e.n:Nat):Int)/\S1 e d ⟨(if e.c=(ae d)then e.a else e.a.map (·.add ((ae d) *4))),(e.n - (ae d)),(e.c - (ae d))⟩ k R) (L0 e (ad .i64 (d+1)) k R)) (R (U (e.v)) w)),L0 e d w R:=mp (bL (X:=X) [aX,a7,dB,az] (ai [0,1,1,1,2]) P0)
def ok(c:J)(w:C)(R:aa)(h:Y (af (((c.n:Nat):Int)<2)) (R (U (c.v)) w) (L0 c 1 w R)):ah V CT #[c.v,.func (.func kj) #[] #[]] w R:=aM X [aX,a7,dB,az] h
end mF
namespace qu
noncomputable abbrev X:Fx:=⟨V,Tryz.f170,[],[2,7]⟩
abbrev P0:Ps:=[(2,.l [.I,.Y,.Y,.s] aV),(3,.v [.r]),(5,.v [.s]),(9,.v [.s]),(10,.v [.I]),(11,.v [.I])]
def aH(d:Nat)(e h j:Int)(k:J)(q:Addr)(c n:J)(t10 t11:Int)(w:C)(R:aa):Prop:=bz P0 0 (X.Sem (ai [0,1,1,1,2])) d e h j k q c n t10 t11 w R
noncomputable def az:=bK X (ai [0,1,1,1,2]) P0 aH
abbrev aZ(d:Nat)(e h j:Int)(k:J)(q:Addr)(c n:J)(t10 t11:Int)(w:C)(R:aa):Prop:=
 aH d e h j k q c n t10 (ad .i64 (t11+1)) w R
noncomputable def aX:=aC X [az] (ai [3,2,1,1,2]) P0 aZ
def bD:∀(c:Nat) (k u x:Int) (y:J) (q:Addr) (j n:J) (t10 t11:Int) (w:C) (R:aa) (h:Y (af (t11<t10)) (aw n t11 λG=>bH w (G.add (ae t11 *4)) λB H I D=>aP [c] w λe E=>
 Y (B==k) (loc [c,e] E λd=>∃(t23:J) (A:C),a' V (bg #[cE,cE] cE #[j.v,D.v]) d=.ok (t23.v) A/\kept [c,e] d A/\aZ c k u x y q t23 n t10 t11 A R) (loc [c,e] E λd=>aK d (.cells #[.i B,.int .u8 H,.int .u8 I,D.v] aV) λF=>
 ∃(t27:J) (z:C),a' V (bg #[cE,cE] cE #[j.v,.slice (some (nb d)) 1 1]) F=.ok (t27.v) z/\kept [c,e] F z/\aZ c k u x y q t27 n t10 t11 z R)) (iv [c] CW #[j.v,.func (.func nn) #[] #[.pointer (some q)]] w λt31 K=>R (U (t31.v)) K)),aH c k u x y q j n t10 t11 w R:=mp (bL (X:=X) [aX,az] (ai [0,1,1,1,2]) P0)
def aB(d e j:Int)(c:J)(k q u:Int)(x:J)(w:C)(R:aa)(h:aP [] w λz y=>
 aK y (.cells #[.i k,.int .u8 q,.int .u8 u,x.v] aV) λA=>
 aH z d e j c (nb y) ⟨none,0,0⟩ c ((c.n:Nat):Int) 0 A R):ah V CN #[.agg #[.i d,.int .u8 e,.int .u8 j,c.v],.agg #[.i k,.int .u8 q,.int .u8 u,x.v]] w R:=aM X [aX,az] h
end qu
namespace Kz
noncomputable abbrev X:Fx:=⟨V,Tryz.f167,[],[1,2]⟩
def aB(d e j:Int)(k:J)(w:C)(R:aa)(h:aP [] w λc q=>
 aP [c] q λn u=>
 loc [c,n] u λx=>R (U (.agg #[.i d,.int .u8 e,.int .u8 j,k.v])) x):ah V uN #[.agg #[.i d,.int .u8 e,.int .u8 j,k.v]] w R:=aM X [] h
end Kz
namespace KA
noncomputable abbrev X:Fx:=⟨V,Tryz.f168,[],[]⟩
def ok(c d e:Int)(j:J)(n q u:Int)(x:J)(w:C)(R:aa)(h:aK w (.cells #[.i c,.int .u8 d,.int .u8 e,j.v] aV) λk=>
 aK k (.cells #[.i n,.int .u8 q,.int .u8 u,x.v] aV) λy=>
 R (U (.func (.func uO) #[] #[.pointer (some (nb w)),.pointer (some (nb k))])) y):ah V xS #[.agg #[.i c,.int .u8 d,.int .u8 e,j.v],.agg #[.i n,.int .u8 q,.int .u8 u,x.v]] w R:=aM X [] h
end KA
namespace DW
noncomputable abbrev X:Fx:=⟨V,Tryz.f169,[],[3,4]⟩
abbrev P0:Ps:=[(1,.v [.r]),(3,.l [.I,.Y,.Y,.s] aV),(4,.l [.I,.Y,.Y,.s] aV),(5,.v [.s])]
abbrev aS(h:Addr)(d:Nat)(e G H:Int)(I:J)(t4:Nat)(K L M:Int)(N c:J)(w:C)(R:aa):Prop:=
 Y (((c.n:Nat):Int)==0) (bH w h λj k q u=>loc [d,t4] w λE=>R (U (.agg #[.i j,.int .u8 k,.int .u8 q,u.v])) E) (Y (((c.n:Nat):Int)==1) (aw c 0 λx=>bH w (x.add (ae 0 *4)) λy z A B=>loc [d,t4] w λF=>R (U (.agg #[.i y,.int .u8 z,.int .u8 A,B.v])) F) (loc [d,t4] w λD=>R (U (.agg #[.i e,.int .u8 0,.int .u8 0,c.v])) D))
noncomputable def aT:=aC X [] (ai [4]) P0 aS
def aB(e j k:Int)(n:J)(q t2:Addr)(w:C)(R:aa)(h:aP [] w λc I=>
 aP [c] I λd y=>
 bH y q λE F G H=>iv [c,d] CN #[.agg #[.i e,.int .u8 j,.int .u8 k,n.v],.agg #[.i E,.int .u8 F,.int .u8 G,H.v]] y λu L=>bP [c,d] CV #[u.v,.func (.func xT) #[] #[.pointer (some t2)]] L λt11 x=>Y t11 (bH x t2 λz A B D=>loc [c,d] x λM=>R (U (.agg #[.i z,.int .u8 A,.int .u8 B,D.v])) M) (Y (e !=3) (fY [c,d] CX #[u.v,.func (.func dR) #[] #[]] x λN=>iv [c,d] CT #[u.v,.func (.func kj) #[] #[]] N λt19 K=>aS q c e j k n d 0 0 0 ⟨none,0,0⟩ t19 K R) (aS q c e j k n d 0 0 0 ⟨none,0,0⟩ u x R))):ah V uO #[.agg #[.i e,.int .u8 j,.int .u8 k,n.v],.pointer (some q),.pointer (some t2)] w R:=aM X [aT] h
end DW
namespace KB
noncomputable abbrev X:Fx:=⟨V,Tryz.f172,[],[2]⟩
def aB(c d e:Int)(j:J)(k:Addr)(w:C)(R:aa)(h:aP [] w λq n=>
 bH n k λu x y z=>bP [q] kj #[.agg #[.i c,.int .u8 d,.int .u8 e,j.v],.agg #[.i u,.int .u8 x,.int .u8 y,z.v]] n λA B=>R (U (.bool A)) B):ah V xT #[.agg #[.i c,.int .u8 d,.int .u8 e,j.v],.pointer (some k)] w R:=aM X [] h
end KB
namespace KC
noncomputable abbrev X:Fx:=⟨V,Tryz.f177,[],[1,2]⟩
def aB(k n q:Int)(d:J)(w:C)(R:aa)(h:aP [] w λe F=>
 aP [e] F λj c=>
 aw d 0 λE=>∃u:Int,c.cell? ((E.add (ae 0 *4)).add 0)=some (.i u)/\
 Y (u==6) (aw d 0 λx=>∃t13:J,c.cell? ((x.add (ae 0 *4)).add 3)=some (t13.v)/\
 aw t13 0 λy=>bH c (y.add (ae 0 *4)) λz A B D=>loc [e,j] c λH=>R (U (.agg #[.i z,.int .u8 A,.int .u8 B,D.v])) H) (loc [e,j] c λG=>R (U (.agg #[.i k,.int .u8 n,.int .u8 q,d.v])) G)):ah V r2 #[.agg #[.i k,.int .u8 n,.int .u8 q,d.v]] w R:=aM X [] h
end KC
namespace yC
noncomputable abbrev X:Fx:=⟨V,Tryz.f178,[],[3,4,5]⟩
abbrev P0:Ps:=[(1,.v [.r]),(4,.l [.I,.Y,.Y,.s] aV)]
abbrev aS(c:Addr)(t4:Nat)(n q u:Int)(x:J)(w:C)(R:aa):Prop:=
 bH w c λd e h j=>loc [t4] w λk=>R (U (.agg #[.i d,.int .u8 e,.int .u8 h,j.v])) k
noncomputable def aT:=aC X [] (ai [0,1,1,1,2]) P0 aS
abbrev P1:Ps:=[(4,.l [.I,.Y,.Y,.s] aV),(5,.l [.I,.Y,.Y,.s] aV)]
abbrev aZ(t4:Nat)(n q u:Int)(x:J)(c:Nat)(d e h:Int)(j:J)(w:C)(R:aa):Prop:=
 loc [t4,c] w λk=>R (U (.agg #[.i d,.int .u8 e,.int .u8 h,j.v])) k
noncomputable def aX:=aC X [aT] (ai [0,1,1,1,3]) P1 aZ
def aB(A B D:Int)(q:J)(u t2:Addr)(w:C)(R:aa)(h:aP [] w λd M=>
 aP [d] M λc E=>
 aw q 0 λL=>bH E (L.add (ae 0 *4)) λk x y z=>aP [d,c] E λe n=>
 Y (k==0) (loc [d,c,e] n λj=>aS u c 0 0 0 ⟨none,0,0⟩ j R) (Y (k==1) (loc [d,c,e] n λj=>aS u c 0 0 0 ⟨none,0,0⟩ j R) (Y (k==7) (loc [d,c,e] n λj=>aZ c 0 0 0 ⟨none,0,0⟩ e k x y z j R) (loc [d,c,e] n λj=>bH j t2 λG H I K=>bP [d,c,e] kj #[.agg #[.i k,.int .u8 x,.int .u8 y,z.v],.agg #[.i G,.int .u8 H,.int .u8 I,K.v]] j λt25 F=>Y t25 (aZ c 0 0 0 ⟨none,0,0⟩ e k x y z F R) (loc [d,c,e] F λN=>R (U (.agg #[.i A,.int .u8 B,.int .u8 D,q.v])) N))))):ah V r3 #[.agg #[.i A,.int .u8 B,.int .u8 D,q.v],.pointer (some u),.pointer (some t2)] w R:=aM X [aX,aT] h
end yC
namespace vd
noncomputable abbrev X:Fx:=⟨V,Tryz.f149,[(5,ls [0,1,2,3,4,5,6,7,8])],[]⟩
abbrev P0:Ps:=[(0,.v [.m]),(3,.v [.r]),(4,.v [.r]),(5,.v [.r]),(16,.v [.s]),(17,.v [.I]),(18,.v [.I])]
def L0(f0:Option Nat)(d t4 c:Addr)(t16:J)(t17 t18:Int)(w:C)(R:aa):Prop:=bz P0 0 (X.Sem (ai [0,1,1,1,2])) f0 d t4 c t16 t17 t18 w R
noncomputable def az:=bK X (ai [0,1,1,1,2]) P0 L0
def cf:∀(f0:Option Nat) (e t4 c:Addr) (t16:J) (t17 t18:Int) (w:C) (R:aa) (h:Y (af (t18<t17)) (aw t16 t18 λI=>bH w (I.add (ae t18 *4)) λK L M N=>aK w (.cells #[.i 0,.int .u8 0,.int .u8 0,.slice none 0 0] aV) λw8=>
 g8 w8 (nb w) (.i K) (.int .u8 L) (.int .u8 M) (N.v) λal=>dM al λj=>∃t23:J,j.cell? (c.add 3)=some (t23.v)/\
 bH j (nb w) λO P Q S=>ll uP #[.map f0,.agg #[.i O,.int .u8 P,.int .u8 Q,S.v]] j λT W Z ab k=>k.cell? (c.add 3)=some (t23.v)/\aK k (.cells #[.i T,.int .u8 W,.int .u8 Z,ab.v] aV) λz=>
 z.cell? (c.add 3)=some (t23.v)/\∃(t28:J) (A:C),a' V (bg #[cE,cE] cE #[t23.v,.slice (some (nb k)) 1 1]) z=.ok (t28.v) A/\ao A (c.add 3) (t28.v) λam=>
 L0 f0 e t4 c t16 t17 (ad .i64 (t18+1)) am R) (∃t33:Int,w.cell? (e.add 0)=some (.i t33)/\
 ∃d:Fv,a' V (Instr.lookup i2 (.map f0) (.i t33) false) w=.ok (d.v) w/\bH w c λac ag aj ak=>cF (gx V d.n) (ah V d.n (d.bs++#[.agg #[.i ac,.int .u8 ag,.int .u8 aj,ak.v]]++d.cs) w λH an=>∃q:Int,∃u:Int,∃x:Int,∃y:J,H=U (.agg #[.i q,.int .u8 u,.int .u8 x,y.v])/\
 g8 an t4 (.i q) (.int .u8 u) (.int .u8 x) (y.v) λB=>bH B t4 λD E F G=>R (U (.agg #[.i D,.int .u8 E,.int .u8 F,G.v])) B))),L0 f0 e t4 c t16 t17 t18 w R:=mp (bL (X:=X) [az] (ai [0,1,1,1,2]) P0)
def ok(f0:Option Nat)(d e j:Int)(k:J)(w:C)(R:aa)(h:aK w (.cells #[.i d,.int .u8 e,.int .u8 j,k.v] aV) λu=>
 aK u (.cells #[.i 0,.int .u8 0,.int .u8 0,.slice none 0 0] aV) λc=>
 ∃q:Int,c.cell? ((nb w).add 0)=some (.i q)/\
 ∃t11:Int,c.cell? ((nb w).add 1)=some (.int .u8 t11)/\
 ∃t13:Int,c.cell? ((nb w).add 2)=some (.int .u8 t13)/\
 aK c (.cells #[.i 0,.int .u8 0,.int .u8 0,.slice none 0 0] aV) λy=>
 g8 y (nb c) (.i q) (.int .u8 t11) (.int .u8 t13) (.slice none 0 0) λx=>∃t16:J,x.cell? ((nb w).add 3)=some (t16.v)/\
 L0 f0 (nb w) (nb u) (nb c) t16 ((t16.n:Nat):Int) 0 x R):ah V uP #[.map f0,.agg #[.i d,.int .u8 e,.int .u8 j,k.v]] w R:=aM X [az] h
end vd
end Go.Proofs.YthkcmmldhceegaaGreatDoor
