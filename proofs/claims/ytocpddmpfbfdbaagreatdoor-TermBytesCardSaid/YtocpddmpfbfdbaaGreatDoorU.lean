import Derived.Test.YtocpddmpfbfdbaaGreatDoorW
import Derived.KernelRfl
import Derived.Test.YtocpddmpfbfdbaaGreatDoorProg
import Derived.Lib.AppendStr
import Derived.Laws.IdiomStrings
import Derived.IntWalk
set_option linter.unusedVariables false
set_option linter.defProp false
namespace Go.W
open Go renaming World->I,Calls->ai,Program->aM,Value->ae,TypeId->aG,Ending->dA,FuncId->bJ,IntKind->jv
open Go.IntKind renaming wrap->ab
open _root_.Int renaming toNat->ag,tmod->dP
open Go.IntWalk renaming i64_in->a4
open Go.Builtin renaming append_->bb
open Go.Sem renaming run->a6
open _root_.Bool renaming and_eq_true->bn
open _root_.Nat renaming le_refl->bB,le_trans->bH,zero_le->dv,beq->cm,mul_le_mul_right->kZ,beq_eq->ek
open _root_.Array renaming replicate->fy
open Go.Region renaming wanted->cX,ready->en
open Go.Proofs.Tryz renaming prog->U
open _root_.Decidable renaming decide->ah
open Go.Ending renaming returned->V
open List renaming mem_append->a5,mem_cons->aB,not_mem_nil->a1,mem_of_getElem?->aI,getElem?_eq_getElem->bc,getElem?_eq_some_iff->cD,mem_append_left->cW,mem_append_right->eP,mem_flatMap->ch,mem_map->cQ,length_take->dL,flatMap_append->dh,flatMap_cons->cO,mem_cons_of_mem->ec,length_set->uy,drop_eq_getElem_cons->dq,getElem?_map->yg,take_add_one->gC,drop_drop->ux,getElem?_take->kc,getElem?_set_self->hU,getElem?_set_ne->yh,drop_of_length_le->dt,take_of_length_le->e1
abbrev Lv:=List (Nat×List ae×aG)
abbrev Sv:=List (Nat×Option (Nat×Nat))
def Sv.get? :Sv->Nat->Option (Nat×Nat)
 |[],_=>none
 |(d,v)::c,t=>bif cm d t then v else Sv.get? c t
def Sv.at (S:Sv):Operand->Option (Nat×Nat)
 |.tmp t=>S.get? t
 |_=>none
def Sv.put (S:Sv) (d:Option Nat) (o:Option (Nat×Nat)):Sv:=match d with
 |some d=>(d,o)::S
 |none=>S
structure TS where
 E:Env
 S:Sv
 L:Lv
 w:I
 d:Bool
abbrev HT:=List (Nat×Option Nat×(I->Prop))
def fx (s:TS) (K:TS->Prop):Prop:=match s.d with
 |true=>loc (g0 s.L) s.w λc=>K ⟨s.E,s.S,s.L,c,false⟩
 |false=>K s
def KD:ae->ae->Bool
 |.int c _,.int d _=>c==d
 |.bool _,.bool _=>true
 |.string _,.string _=>true
 |.slice _ _ _,.slice _ _ _=>true
 |.pointer _,.pointer _=>true
 |.map _,.map _=>true
 |.int ..,_|.bool _,_|.string _,_|.slice ..,_|.pointer _,_|.map _,_=>false
 |_,_=>true
def yw:List ae->List ae->Bool
 |[],[]=>true
 |d::e,v::c=>KD d v&&yw e c
 |_,_=>false
def A9 (P:aM) (T:aG) (cs:List ae) (j:Nat) (K:ae->Prop):Prop:=
 cH (vJ P T)<|match zeroOf P T with
 |.agg c=>cH (yw c.toList ((cs.drop j).take c.size)) (K (.agg ((cs.drop j).take c.size).toArray))
 |.nilFunc=>False
 |d=>match cs[j]? with
  |some v=>cH (KD d v) (K v)
  |none=>False
def Hf (P:aM) (T:aG) (f:Nat):Option Nat:=match P.underlying T with
 |some (.struct c)=>match c[f]? with
  |some f=>match P.info? f.type with
   |some i=>bif cm i.size 0 then none else some f.offset
   |none=>none
  |none=>none
 |_=>none
def Mw (P:aM) (o:Oper):Bool:=match o.op with
 |.load ..|.lookup ..=>true
 |.convert s d _=>match P.underlying s,P.underlying d with
  |some (.slice _),some .string=>true
  |some (.pointer _),some .unsafePointer=>true
  |some .unsafePointer,some (.pointer _)=>true
  |_,_=>false
 |.binOp .neq c _ e _=>bif isConst e then false else match P.underlying c with
  |some (.pointer _)=>true
  |_=>false
 |.call {callee:=.builtin .len,args,argTypes}=>match args.toList,argTypes.toList with
  |[_],[c]=>match P.underlying c with
   |some (.map _ _)=>true
   |_=>false
  |_,_=>false
 |_=>false
def y0 (P:aM) (o:Oper):Bool:=AY P o||Mw P o
def rj (P:aM) (o:Oper) (s:TS) (K:ae->Option (Nat×Nat)->List (Option Nat×(I->Prop))->TS->Prop):Prop:=
 bif y0 P o then fx s λs=>lY P o s.E s.w λv d=>K v none (d.map λc=>(none,c)) s else lY P o s.E s.w λv d=>K v none (d.map λc=>(none,c)) s
def zZ (P:aM) (o:Oper) (s:TS) (K:ae->Option (Nat×Nat)->List (Option Nat×(I->Prop))->TS->Prop):Prop:=
 match o.op with
 |.load e c=>match s.S.at c with
  |some (i,d)=>match s.L[i]? with
   |some X=>A9 P e X.2.1 d λv=>K v none [(some i,λj=>(loadVar e ((aj X.1).add d)).run P j=.ok v j)] s
   |none=>False
  |none=>rj P o s K
 |.move c|.assign c|.nilCheck c=>match s.S.at c with
  |some k=>K ((s.E.val c).getD undef) (some k) [] s
  |none=>rj P o s K
 |.fieldAddr e c f=>match s.S.at c with
  |some (i,d)=>match Hf P e f,s.L[i]? with
   |some h,some X=>K (.pointer (some ((aj X.1).add (d+h)))) (some (i,d+h)) [] s
   |_,_=>False
  |none=>rj P o s K
 |_=>rj P o s K
def n9 (L:Lv) (w w':I) (p:Prop):Prop:=match L with
 |[]=>p
 |L=>kept (g0 L) w w'/\p
def yu:List ae->Nat->List ae->List ae
 |c,_,[]=>c
 |c,d,v::e=>yu (c.set d v) (d+1) e
def wJ (lv:List Nat) (d:Option Nat):Bool:=match d with
 |some d=>lv.any (cm d)
 |none=>false
def DU (bs:List Nat) (p:Addr):List ae->Nat->I->(I->Prop)->Prop
 |[],_,c,d=>d c
 |v::h,i,c,d=>av c (p.add i) v λe=>kept bs c e/\DU bs p h (i+1) e d
def CB (s:TS) (cs:List ae) (T:aG) (K:ae->Option (Nat×Nat)->Option Nat->TS->Prop):Prop:=
 aJ (g0 s.L) s.w λb c=>K (.pointer (some (aj b))) (some (s.L.length,0)) none ⟨s.E,s.S,s.L++[(b,cs,T)],c,false⟩
def v7 (P:aM) (f:bJ) (args:Array ae) (z:ae) (s:TS) (K:ae->I->Prop):Prop:=match s.L with
 |[]=>o' P f args z s.w K
 |c=>cU (g0 c) P f args s.w λd e=>m3 z λv=>d=V v/\K v e
def Al (P:aM) (lv:List Nat) (draw:Bool) (o:Oper) (s:TS) (K:ae->Option (Nat×Nat)->Option Nat->TS->Prop):Prop:=
 match o.op with
 |.store d e j=>match s.S.at e with
  |some (i,h)=>match s.L[i]?,s.E.val j with
   |some X,some v=>cH (v.cells.size==(match P.info? d with |some i=>i.size|none=>0)&&v.cells.toList.all rI&&(P.info? d).isSome&&Nat.ble (h+v.cells.size) X.2.1.length) (K undef none (some i) ⟨s.E,s.S,s.L.set i (X.1,yu X.2.1 h v.cells.toList,X.2.2),s.w,true⟩)
   |_,_=>False
  |none=>fx s λs=>match s.L with
   |[]=>gH P o s.E s.w λv c=>K v none none ⟨s.E,s.S,s.L,c,false⟩
   |k=>match s.E.val e,s.E.val j with
    |some (.pointer (some p)),some v=>cH (v.cells.size==(match P.info? d with |some i=>i.size|none=>0)&&v.cells.toList.all rI&&(P.info? d).isSome) (DU (g0 k) p v.cells.toList 0 s.w λc=>K undef none none ⟨s.E,s.S,s.L,c,false⟩)
    |_,_=>False
 |.alloc d=>bif wJ lv o.dst then cH ((P.info? d).bind (·.zero)).isSome (CB s (zeroOf P d).cells.toList d K) else fx s λs=>gH P o s.E s.w λv c=>K v none none ⟨s.E,s.S,s.L,c,false⟩
 |.box d e=>bif wJ lv o.dst then (match s.E.val e with
   |some v=>CB s v.cells.toList d K
   |none=>False) else fx s λs=>gH P o s.E s.w λv c=>K v none none ⟨s.E,s.S,s.L,c,false⟩
 |.buildSlice ..|.makeMap ..=>fx s λs=>gH P o s.E s.w λv c=>K v none none ⟨s.E,s.S,s.L,c,false⟩
 |.call {callee:=.value (.func f),args,..}=>fx s λs=>cH (s.E.eA o) (bif gF P f then v7 P f (args.map s.E.ev) (zeroOf P o.type) s λv c=>K v none none ⟨s.E,s.S,s.L,c,false⟩
   else wz P f (args.map s.E.ev) (zeroOf P o.type) s.w λv c=>n9 s.L s.w c (K v none none ⟨s.E,s.S,s.L,c,false⟩))
 |.call {callee:=.value (.tmp t),args,..}=>fx s λs=>cH (s.E.eA o) (match s.E.get? t with
   |some (.func (.func f) first captured)=>cH (gF P f) (v7 P f (first++args.map s.E.ev++captured) (zeroOf P o.type) s λv c=>K v none none ⟨s.E,s.S,s.L,c,false⟩)
   |_=>False)
 |_=>fx s λs=>(bif draw then gH else qY) P o s.E s.w λv c=>n9 s.L s.w c (K v none none ⟨s.E,s.S,s.L,c,false⟩)
def tw (ops:Array Oper) (j:Nat) (w:I):HT->List Prop
 |[]=>[]
 |(i,f,d)::c=>bif hQ ops i j||f.isSome then tw ops j w c else d w::tw ops j w c
def fV (ops:Array Oper) (j:Nat):HT->HT
 |[]=>[]
 |(i,f,d)::c=>bif hQ ops i j then fV ops j c else (i,f,d)::fV ops j c
def Dk (ops:Array Oper) (j:Nat) (s:TS) (H:HT) (K:TS->Prop):Prop:=
 bif H.any (λp=>!(hQ ops p.1 j)&&p.2.1.isNone) then fx s λs=>qK (tw ops j s.w H) (K s) else K s
def stepT (P:aM) (lv:List Nat) (ops:Array Oper) (draw:Bool) (i:Nat) (o:Oper) (s:TS) (H:HT) (K:TS->HT->Prop):Prop:=
 bif calm P o then zZ P o s λv c h s=>K ⟨s.E.put o.dst v,s.S.put o.dst c,s.L,s.w,s.d⟩ (bif draw then h.map (λe=>(i,e))++H else H)
 else Al P lv draw o s λv c m s=>cH (!((fV ops i H).any λp=>m.isSome&&p.2.1==m)) (Dk ops i s H λs=>K ⟨s.E.put o.dst v,s.S.put o.dst c,s.L,s.w,s.d⟩ (fV ops i H))
def l7 (P:aM) (lv:List Nat) (ops:Array Oper) (draw:Bool) (i:Nat) (o:Oper) (d:Nat) (want t:Bool) (s:TS) (H:HT) (K:TS->HT->Prop):Prop:=
 bif (t==want) then stepT P lv ops draw i o ⟨(d,.bool t)::s.E,s.S,s.L,s.w,s.d⟩ H K else K ⟨Env.put ((d,.bool t)::s.E) o.dst undef,s.S.put o.dst none,s.L,s.w,s.d⟩ (bif calm P o then H else fV ops i H)
def runT (P:aM) (lv:List Nat) (ops:Array Oper) (draw:Bool) (K:TS->Prop):List Nat->TS->HT->Prop
 |[],s,_=>K s
 |i::l,s,c=>
  match ops[i]? with
  |none=>False
  |some o=>match o.guard with
   |none=>stepT P lv ops draw i o s c λh e=>runT P lv ops draw K l h e
   |some (k,want)=>match jd ops k with
    |none=>False
    |some j=>match s.E.get? j with
     |some (.bool t)=>Y t (l7 P lv ops draw i o j want true s c λh e=>runT P lv ops draw K l h e) (l7 P lv ops draw i o j want false s c λh e=>runT P lv ops draw K l h e)
     |some (.tuple _)=>runT P lv ops draw K l ⟨Env.put s.E o.dst undef,s.S.put o.dst none,s.L,s.w,s.d⟩ (bif calm P o then c else fV ops i c)
     |_=>False
def tu (P:aM) (lv:List Nat) (ops:Array Oper) (i:Nat) (s:TS) (H:HT) (c:TS->HT->Prop):Prop:=
 match ops[i]? with
 |none=>False
 |some o=>match o.guard with
  |none=>stepT P lv ops true i o s H c
  |some (h,want)=>match jd ops h with
   |none=>False
   |some e=>match s.E.get? e with
    |some (.bool t)=>Y t (l7 P lv ops true i o e want true s H c) (l7 P lv ops true i o e want false s H c)
    |some (.tuple _)=>c ⟨Env.put s.E o.dst undef,s.S.put o.dst none,s.L,s.w,s.d⟩ (bif calm P o then H else fV ops i H)
    |_=>False
def oK (P:aM) (lv:List Nat) (ops:Array Oper) (K:TS->Prop):Tr->TS->HT->Prop
 |.nil,s,_=>K s
 |.one i t,s,c=>tu P lv ops i s c λe d=>oK P lv ops K t e d
 |.fork a b,s,c=>oK P lv ops K a s c/\oK P lv ops K b s c
def Tr.sq:List Nat->Tr->Tr
 |[],t=>t
 |i::l,t=>.one i (Tr.sq l t)
def wc (s:TS) (K:TS->Prop):Prop:=match s.L,s.d with
 |[],false=>K ⟨s.E,s.S,s.L,s.w.drew,false⟩
 |_,_=>K ⟨s.E,s.S,s.L,s.w,true⟩
section
variable {P:aM}
structure Inv (s:TS) (w:I):Prop where
 lc:LC w s.L
 rel:if s.d=true then Fr (·∈g0 s.L) s.w w else w=s.w
 sl:∀t i j,s.S.get? t=some (i,j)->∃X,s.L[i]? =some X/\s.E.get? t=some (.pointer (some ((aj X.1).add j)))
def Inv.fx {s:TS} {w:I} {K:TS->Prop} (j:Inv s w) (c:W.fx s K):Inv ⟨s.E,s.S,s.L,w,false⟩ w/\K ⟨s.E,s.S,s.L,w,false⟩:=by
 refine ⟨⟨j.lc,by simp,j.sl⟩,?_⟩;unfold W.fx at c;have h:=j.rel;cases e:s.d with
 |true=>
  rw [e] at c h;exact c w (by simpa using h)
 |false=>
  rw [e] at c h;have:w=s.w:=by simpa using h
  obtain ⟨k,q,n,x,u⟩:=s;simp only at e this;subst e this;exact c
def Inv.fr {s:TS} {w:I} (h:Inv s w):Fr (·∈g0 s.L) s.w w:=by
 have c:=h.rel;cases e:s.d with
 |true=>rw [e] at c;simpa using c
 |false=>
  rw [e] at c;have:w=s.w:=by simpa using c
  subst this;exact Fr.refl _ _
def Inv.at {s:TS} {w:I} (c:Inv s w) {x:Operand} {i j:Nat} (d:s.S.at x=some (i,j)):∃X,s.L[i]? =some X/\s.E.val x=some (.pointer (some ((aj X.1).add j)))/\w.heap[X.1]? =some (.cells X.2.1.toArray X.2.2 (0,0)):=by
 cases x with
 |tmp t=>
  obtain ⟨X,e,h⟩:=c.sl t i j d;exact ⟨X,e,h,c.lc.own i X e⟩
 |_=>cases d
def KE:∀{zs vs:List ae},yw zs vs=true->vs.length=zs.length
 |[],[],_=>rfl
 |d::zs,v::vs,c=>by unfold yw at c;rw [bn] at c;simp [KE c.2]
def H7 {T:aG} {cs:List ae} {j b:Nat} {ty:aG} {K:ae->Prop} (c:A9 P T cs j K):
  ∃v,K v/\∀d:I,d.heap[b]? =some (.cells cs.toArray ty (0,0))->(loadVar T ((aj b).add j)).run P d=.ok v d:=by
 obtain ⟨e,c⟩:=dB c;unfold vJ at e;have one:∀(v:ae),cs[j]? =some v->(o0 P T==some false)=true->∀d:I,d.heap[b]? =some (.cells cs.toArray ty (0,0))->(loadVar T ((aj b).add j)).run P d=.ok v d:=λv u k d w=>
  uN (by simpa using k) (cellAt (p:=aj b) w rfl (by simpa using u))
 cases x:zeroOf P T with
 |agg B=>
  rw [x] at c e;simp only at c e;obtain ⟨z,y⟩:=dB c;rw [bn] at e;obtain ⟨k,h⟩:=e;cases q:P.info? T with
  |none=>rw [q] at h;simp at h
  |some i=>
   rw [q] at h;simp at h k;refine ⟨_,y,λd w=>Kq k q (by rw [h,KE z];simp) λA v n=>?_⟩;rw [add_add];refine cellAt (p:=aj b) w rfl ?_;rw [kc] at n;split at n
   .simpa using n
   .cases n
 |nilFunc=>rw [x] at c;exact c.elim
 |_=>
  rw [x] at c e;simp only at c;split at c
  .rename_i v u;exact ⟨v,(dB c).2,one v u e⟩
  .exact c.elim
def OP {o:Oper} {E:Env} {w w':I} {K:ae->List (I->Prop)->Prop} (c:y0 P o=false) (d:lY P o E w K):lY P o E w' K:=by
 unfold y0 at c;rw [Bool.or_eq_false_iff] at c;obtain ⟨x,c⟩:=c;unfold lY at d ⊢;rw [x] at d ⊢;simp only [cond_false] at d ⊢;unfold v8 at d ⊢;unfold Mw at c;split at d<;>first |exact d|skip
 all_goals rename_i y
 all_goals rw [y] at c
 .cases c
 .rename_i z _ k;cases z with
  |const u=>exact (k u rfl).elim
  |_=>
   simp only [isConst,cond_false] at c;split
   .rename_i e _ _;simp only [e] at c;cases c
   .split at d
    .rename_i e _ _;simp only [e] at c;cases c
    .exact d
 .cases c
 .split<;>first
   |(rename_i n j _;simp only [n,j] at c;cases c;done)
   |(split at d<;>first
     |(rename_i n j _;simp only [n,j] at c;cases c;done)
     |exact d)
 .split
  .rename_i h q;simp only [h,q] at c d;split
   .rename_i e _;simp only [e] at c;cases c
   .split at d
    .rename_i e _;simp only [e] at c;cases c
    .exact d
  .rename_i k;split at d
   .rename_i h q;exact (k _ _ h q).elim
   .exact d
def vt (P:aM) (o:Oper) (a:Act) (s:TS) (w:I) (v:ae) (e:Option (Nat×Nat)) (Ss:List (Option Nat×(I->Prop))) (s':TS):Prop:=
 Inv s' w/\s'.E=s.E/\s'.S=s.S/\s'.L=s.L/\Calm P o a.eval w v (Ss.map (·.2))/\
 (∀p∈Ss,∀i,p.1=some i->∃X,s.L[i]? =some X/\∀d:I,d.heap[X.1]? =some (.cells X.2.1.toArray X.2.2 (0,0))->p.2 d)/\
 (∀i c,e=some (i,c)->∃X,s.L[i]? =some X/\v=.pointer (some ((aj X.1).add c)))
section
variable {o:Oper} {n:Cx} {a:Act} {s:TS} {w:I} {K:ae->Option (Nat×Nat)->List (Option Nat×(I->Prop))->TS->Prop}
def PY (J:∀u b,o.op≠.select u b) (B:Ag n a s.E) (q:Inv s w) (d:rj P o s K):∃v e c s',K v e c s'/\vt P o a s w v e c s':=by
 have fin:∀(s':TS),s'.E=s.E->s'.S=s.S->s'.L=s.L->Inv s' w->lY P o s.E w (λv c=>K v none (c.map λh=>(none,h)) s')->∃v e c s',K v e c s'/\vt P o a s w v e c s':=λs' x y z j C=>by
  obtain ⟨v,c,M,D⟩:=v9 J B C;refine ⟨v,none,_,s',M,j,x,y,z,?_,λp G i F=>?_,λi O H=>by cases H⟩
  .rw [List.map_map];have:((λN:Option Nat×(I->Prop)=>N.2)∘λh=>((none:Option Nat),h))=id:=rfl;rw [this,List.map_id];exact D
  .obtain ⟨h,_,rfl⟩:=cQ.1 G;cases F
 unfold rj at d;cases k:y0 P o with
 |true=>
  rw [k,cond_true] at d;obtain ⟨j,A⟩:=q.fx d;exact fin ⟨s.E,s.S,s.L,w,false⟩ rfl rfl rfl j A
 |false=>
  rw [k,cond_false] at d;exact fin s rfl rfl rfl q (OP k d)
def ON (hs:∀Y b,o.op≠.select Y b) (C:Ag n a s.E) (u:Inv s w) (c:zZ P o s K):∃v d B H,K v d B H/\vt P o a s w v d B H:=by
 have gen:=λc=>PY (P:=P) (K:=K) hs C u c;have same:∀(x:Operand) (d:Nat×Nat),s.S.at x=some d->(∀w,(execOp a.eval o).run P w=.ok (.value (a.eval x)) w\/∀p,a.eval x≠.pointer (some p))->K ((s.E.val x).getD undef) (some d) [] s->∃v d B H,K v d B H/\vt P o a s w v d B H:=λx d h F e=>by
  obtain ⟨X,y,k,_⟩:=u.at (i:=d.1) (j:=d.2) h;have T:=C.val k;refine ⟨_,_,_,s,e,u,rfl,rfl,rfl,⟨λN z=>(by cases z),λJ _=>?_⟩,λp A=>(by cases A),λi G D=>?_⟩
  .rcases F J with F|F
   .rw [F,k,T];rfl
   .exact (F _ T).elim
  .cases D;exact ⟨X,y,by rw [k];rfl⟩
 unfold zZ at c;split at c
 .rename_i M x q;split at c
  .rename_i i G h;obtain ⟨X,y,k,O⟩:=u.at h;rw [y] at c;obtain ⟨v,e,W⟩:=H7 (b:=X.1) (ty:=X.2.2) c;refine ⟨v,_,_,s,e,u,rfl,rfl,rfl,⟨λN z=>?_,λJ ad=>?_⟩,λp A i' aa=>?_,λi G D=>by cases D⟩
   .simp only [List.map_cons,List.map_nil,aB,a1,a7] at z;subst z;exact W w O
   .have:(loadVar M ((aj X.1).add G)).run P J=.ok v J:=ad (λw=>(loadVar M ((aj X.1).add G)).run P w=.ok v w) (by simp);simp [execOp,q,Instr.loadAt,C.val k,Instr.sureAddr,this]
   .simp only [aB,a1,a7] at A;subst A;cases aa;exact ⟨X,y,W⟩
  .exact gen c
 .rename_i x q;split at c
  .rename_i d h;exact same x d h (λw=>.inl (by simp [execOp,q])) c
  .exact gen c
 .rename_i x q;split at c
  .rename_i d h;exact same x d h (λw=>.inl (by simp [execOp,q])) c
  .exact gen c
 .rename_i x q;split at c
  .rename_i d h;refine same x d h (λw=>?_) c;obtain ⟨X,_,k,_⟩:=u.at (i:=d.1) (j:=d.2) h;exact .inl (by simp [execOp,q,C.val k])
  .exact gen c
 .rename_i M x f q;split at c
  .rename_i i G h;obtain ⟨X,y,k,O⟩:=u.at h;split at c
   .rename_i ae X' e Q;rw [y] at Q;cases Q;refine ⟨_,_,_,s,c,u,rfl,rfl,rfl,⟨λN z=>(by cases z),λJ _=>?_⟩,λp A=>(by cases A),λi' j' D=>?_⟩
    .unfold Hf at e;split at e
     .rename_i fs hu;split at e
      .rename_i fd hf;split at e
       .rename_i inf ab;cases L:cm inf.size 0 with
        |true=>rw [L] at e;cases e
        |false=>
         rw [L] at e;cases e;have ac:inf.size≠0:=λZ=>by rw [Z] at L;cases L
         simp [execOp,q,C.val k,Instr.fieldAt,run_underlying hu,hf,Instr.sureAddr,fieldPlace,sizeOf,typeInfo,ab,ac,add_add]
       .cases e
      .cases e
     .cases e
    .cases D;exact ⟨X,y,rfl⟩
   .exact c.elim
  .exact gen c
 .exact gen c
end
def qv (s:TS) (K:ae->Option (Nat×Nat)->Option Nat->TS->Prop) (v:ae) (w':I):Prop:=
 ∃e m c,K v e m c/\Inv c w'/\c.E=s.E/\c.S=s.S/\(∀i X,s.L[i]? =some X->m≠some i->c.L[i]? =some X)/\
  (∀i d,e=some (i,d)->∃X,c.L[i]? =some X/\v=.pointer (some ((aj X.1).add d)))
def Kn {o:Oper} {ρ:Operand->ae} {T:aG} {z:ae} (e:o.op=.alloc T) (c:(P.info? T).bind (·.zero)=some z) (w:I):
  (execOp ρ o).run P w=.ok (.value (.pointer (some (aj w.heap.size)))) (w.alloc (.cells z.cells T)):=by
 cases d:P.info? T with
 |none=>rw [d] at c;cases c
 |some i=>
  rw [d] at c;have h:i.zero=some z:=c;simp [execOp,e,Instr.alloc,zeroValue,typeInfo,d,h,newVar,newRow]
def Ko {o:Oper} {ρ:Operand->ae} {T:aG} {x:Operand} (c:o.op=.box T x) (w:I):
  (execOp ρ o).run P w=.ok (.value (.pointer (some (aj w.heap.size)))) (w.alloc (.cells (ρ x).cells T)):=by simp [execOp,c,Instr.box,newVar,newRow]
def QE {L:Lv} {w w':I} {p:Prop} (c:n9 L w w' p) (H:LC w L):LC w' L/\p:=by
 cases L with
 |nil=>exact ⟨LC.nil _,c⟩
 |cons d L=>exact ⟨H.n9 c.1,c.2⟩
section
variable {o:Oper} {n:Cx} {a:Act} {s:TS} {w:I} {K:ae->Option (Nat×Nat)->Option Nat->TS->Prop}
def FQ {f:bJ} {args:Array ae} {K:ae->I->Prop} (k:(execOp a.eval o).run P w=.ok (.enter f args) w) (e:ai P f args w λc d=>∃v,c=V v/\K v d):h0 P o a w K:=by intro n;unfold Oper.wp;rw [k];simp only [Oper.upon];refine Calls.mono e λc d h=>?_;obtain ⟨v,rfl,j⟩:=h;exact ⟨v,rfl,j⟩
def FR {f:bJ} {args:Array ae} {z:ae} {K:ae->I->Prop} (j:(execOp a.eval o).run P w=.ok (.enter f args) w) (H:LC w s.L) (k:s.w=w) (c:v7 P f args z s K):h0 P o a w λv d=>LC d s.L/\K v d:=by
 unfold v7 at c;split at c
 .rename_i u;rw [k] at c;refine FQ j (Calls.mono c λn d e=>?_);obtain ⟨v,rfl,h⟩:=pk e;exact ⟨v,rfl,by rw [u];exact LC.nil _,h⟩
 .rw [k] at c;obtain ⟨B,y,x⟩:=c;refine FQ j (Calls.mono x λn d e=>?_);obtain ⟨q,A⟩:=e;obtain ⟨v,rfl,h⟩:=pk A;exact ⟨v,rfl,H.fr q y,h⟩
def Ix {cs:Array ae} {T:aG} (q:(execOp a.eval o).run P w=.ok (.value (.pointer (some (aj w.heap.size)))) (w.alloc (.cells cs T))) (c:Inv s w) (k:CB s cs.toList T K):h0 P o a w (qv s K):=by
 intro u;unfold Oper.wp;rw [q];simp only [Oper.upon];refine ⟨_,rfl,_,_,_,k w.heap.size (w.alloc (.cells cs T)) c.fr.size (size_alloc _ _) (c.fr.cR (Fr.alloc _ _ _)),⟨c.lc.push cs T,by simp,λt i j d=>?_⟩,rfl,rfl,λi X h _=>?_,λi j d=>?_⟩
 .obtain ⟨X,e,n⟩:=c.sl t i j d;exact ⟨X,by rw [List.getElem?_append_left (cD.1 e).1];exact e,n⟩
 .rw [List.getElem?_append_left (cD.1 h).1];exact h
 .cases d;exact ⟨(w.heap.size,cs.toList,T),by simp,by rw [hf]⟩
def KW {i j b:Nat} {T:aG} {x:I} {K:I->Prop}:∀(vs:List ae) (k:Nat) (w:I) (L:Lv) (cs:List ae),LC w L->L[i]? =some (b,cs,T)->j+k+vs.length<=cs.length->Fr (·∈g0 L) x w->
  (∀d,LC d (L.set i (b,yu cs (j+k) vs,T))->Fr (·∈g0 L) x d->K d)->p' ((aj b).add j) vs k w K
 |[],k,w,L,cs,e,c,u,f,h=>by
  refine h w ?_ f;have:L.set i (b,cs,T)=L:=by
   apply List.ext_getElem?;intro m;rw [List.getElem?_set];split
   .rename_i y;subst y;split
    .exact c.symm
    .rename_i z;exact absurd (cD.1 c).1 z
   .rfl
  rw [show yu cs (j+k) []=cs from rfl,this];exact e
 |v::vs,k,w,L,cs,e,c,u,f,h=>by
  simp only [List.length_cons] at u;obtain ⟨A,B,C,D⟩:=e.set (v:=v) i (j+k) c (by omega) f
  unfold p';rw [add_add];refine ⟨A,B,KW (i:=i) (T:=T) vs (k+1) _ _ (cs.set (j+k) v) C ?_ (by rw [uy];omega) D λd n q=>?_⟩
  .rw [hU (cD.1 c).1]
  .rw [List.set_set] at n;rw [zA L i c] at q;exact h d n q
def KV {L:Lv} {p:Addr} {K K':I->Prop} (h:∀e,LC e L->K e->K' e):∀(vs:List ae) (i:Nat) (w:I),LC w L->DU (g0 L) p vs i w K->p' p vs i w K'
 |[],_,w,c,d=>h w c d
 |v::vs,i,w,c,d=>by obtain ⟨j,k,n,q⟩:=d;exact ⟨j,k,KV h vs (i+1) _ (c.n9 n) q⟩
def ME {b:Bool} {p:Prop} (c:b=true) (d:p):cH b p:=by subst c;exact d
def Gq {E:Env} {T:aG} {x y:Operand} {p:Addr} {v:ae} {K:ae->I->Prop} (e:o.op=.store T x y) (h:E.val x=some (.pointer (some p))) (j:E.val y=some v)
  (d:(v.cells.size==(match P.info? T with |some i=>i.size|none=>0)&&v.cells.toList.all rI&&(P.info? T).isSome)=true) (c:p' p v.cells.toList 0 w λk=>K undef k):gH P o E w K:=by unfold gH;rw [e];simp only [h,j];exact ME d c
def Kr {ρ:Operand->ae} {nx:Next} {w':I} (d:(∃e,o.op=.alloc e)\/(∃e y,o.op=.box e y)\/(∃e l p,o.op=.buildSlice e l p)\/(∃e r,o.op=.makeMap e r)) (c:(execOp ρ o).run P w=.ok nx w'):ao w w':=by
 rcases d with ⟨e,d⟩|⟨e,y,d⟩|⟨e,l,p,d⟩|⟨e,r,d⟩
 .cases k:(P.info? e).bind (·.zero) with
  |some z=>
   rw [Kn d k] at c;cases c;exact Fr.alloc _ _ _
  |none=>
   exfalso;cases j:P.info? e with
   |none=>simp [execOp,d,Instr.alloc,zeroValue,typeInfo,j] at c
   |some i=>
    rw [j] at k;have B:i.zero=none:=k;simp [execOp,d,Instr.alloc,zeroValue,typeInfo,j,B] at c
 .rw [Ko d] at c;cases c;exact Fr.alloc _ _ _
 .cases h:P.underlying e with
  |none=>simp [execOp,d,Instr.buildSlice,underlying,h] at c
  |some q=>
   cases q<;>first |(simp [execOp,d,Instr.buildSlice,run_underlying h] at c;done)|skip
   rename_i A;cases j:P.info? A with
   |none=>simp [execOp,d,Instr.buildSlice,run_underlying h,sizeOf,typeInfo,j] at c
   |some i=>
    by_cases x:l *i.size>2^24
    .simp [execOp,d,Instr.buildSlice,run_underlying h,sizeOf,typeInfo,j,x] at c
    by_cases u:l *i.size=0
    .simp [execOp,d,Instr.buildSlice,run_underlying h,sizeOf,typeInfo,j,u] at c;split at c
     .simp [newRow] at c;obtain ⟨_,rfl⟩:=c;exact Fr.alloc _ _ _
     .simp at c
    .simp [execOp,d,Instr.buildSlice,run_underlying h,sizeOf,typeInfo,j,x,u] at c;cases k:i.zero with
     |none=>simp [zeroValue,typeInfo,j,k] at c
     |some z=>
      simp [zeroValue,typeInfo,j,k] at c;split at c
      .simp [newRow] at c;obtain ⟨_,rfl⟩:=c;exact Fr.alloc _ _ _
      .simp at c
 .cases r with
  |none=>
   simp [execOp,d,Instr.makeMap] at c;obtain ⟨_,rfl⟩:=c;exact Fr.alloc _ _ _
  |some r=>
   cases h:P.underlying e with
   |none=>simp [execOp,d,Instr.makeMap,underlying,h] at c
   |some q=>
    cases q<;>first |(simp [execOp,d,Instr.makeMap,run_underlying h] at c;done)|skip
    cases n:ρ r with
    |int D z=>
     simp [execOp,d,Instr.makeMap,run_underlying h,n,Go.asInt,Go.asIntOf] at c;obtain ⟨_,rfl⟩:=c;exact Fr.alloc _ _ _
    |pointer C=>cases C<;>simp [execOp,d,Instr.makeMap,run_underlying h,n,Go.asInt,Go.asIntOf] at c
    |_=>simp [execOp,d,Instr.makeMap,run_underlying h,n,Go.asInt,Go.asIntOf] at c
def RG {K:ae->I->Prop} (z:∀u b,o.op≠.select u b) (x:Ag n a s.E) (d:(∃c,o.op=.alloc c)\/(∃c q,o.op=.box c q)\/(∃c l p,o.op=.buildSlice c l p)\/(∃c r,o.op=.makeMap c r)) (h:gH P o s.E w K):h0 P o a w λv k=>ao w k/\K v k:=by
 have e:q' P o s.E w K:=by unfold gH at h;rcases d with ⟨c,d⟩|⟨c,q,d⟩|⟨c,l,p,d⟩|⟨c,r,d⟩<;>rw [d] at h<;>exact h
 obtain ⟨y,e⟩:=dB e;intro A;unfold Oper.wp;rw [x.execOp z y];generalize j:(execOp s.E.ev o).run P w=r at e;split at e
 .simp only [Oper.upon];exact ⟨_,rfl,Kr d j,e⟩
 .simp only [Oper.upon];exact ⟨_,rfl,Kr d j,e⟩
 .exact e.elim
def Ph {draw:Bool} {lv:List Nat} (A:(ae->I->Prop)->Prop) (z:∀K,h0 P o a w K->A K) (h1:∀K,(bif draw then gH else qY) P o s.E w K->A K) (D:∀K aa,(∀v d,K v d->aa v d)->A K->A aa)
  (W:∀cs b,o.op≠.select cs b) (B:Ag n a s.E) (j:Inv s w) (c:Al P lv draw o s K):A (qv s K):=by
 have back:∀v d,LC d s.L->K v none none ⟨s.E,s.S,s.L,d,false⟩->qv s K v d:=λv d y e=>⟨none,none,_,e,⟨y,by simp,j.sl⟩,rfl,rfl,λi X c _=>c,λi af hq=>by cases hq⟩;have ac:∀v d,n9 s.L w d (K v none none ⟨s.E,s.S,s.L,d,false⟩)->qv s K v d:=λv d e=>by obtain ⟨y,e⟩:=QE e j.lc;exact back v d y e
 have news:((∃k,o.op=.alloc k)\/(∃k C,o.op=.box k C)\/(∃k l p,o.op=.buildSlice k l p)\/(∃k r,o.op=.makeMap k r))->fx s (λs=>gH P o s.E s.w λv d=>K v none none ⟨s.E,s.S,s.L,d,false⟩)->A (qv s K):=λh c=>by obtain ⟨_,q⟩:=j.fx c;exact D _ _ (λv d ⟨f,e⟩=>back v d (j.lc.fr (M:=λ_=>False) f (λ_ _ c=>c)) e) (z _ (RG W B h q))
 unfold Al at c;split at c
 .rename_i k C al h;split at c
  .rename_i i af F;obtain ⟨X,H,g2,_⟩:=j.at F;split at c
   .rename_i X' v ad hv;rw [H] at ad;cases ad;obtain ⟨u,e⟩:=dB c;rw [bn] at u;obtain ⟨u,Z⟩:=u;have Z:=Nat.le_of_ble_eq_true Z;refine z _ (l0 W B (Gq h g2 hv u ?_));refine KW (i:=i) (T:=X.2.2) _ 0 w s.L X.2.1 j.lc H (by simpa using Z) j.fr λd q1 q2=>?_;refine ⟨none,some i,_,e,⟨q1,?_,λt O j' ht=>?_⟩,rfl,rfl,λO ab hY ah=>?_,λi af hq=>by cases hq⟩
    .simp only [if_true];rw [zA s.L i H];exact q2
    .obtain ⟨ab,y1,y2⟩:=j.sl t O j' ht;by_cases G:i=O
     .subst G;rw [H] at y1;cases y1;exact ⟨_,hU (cD.1 H).1,y2⟩
     .exact ⟨ab,by rw [yh G];exact y1,y2⟩
    .have G:i≠O:=λG=>ah (by rw [G]);show (s.L.set i _)[O]? =_;rw [yh G];exact hY
   .exact c.elim
  .obtain ⟨_,q⟩:=j.fx c;simp only at q;split at q
   .rename_i hL;exact D _ _ (λv d e=>back v d (hL▸LC.nil _) e) (z _ (l0 W B q))
   .split at q
    .rename_i p v F hy;obtain ⟨u,e⟩:=dB q;exact D _ _ (λv d e=>e) (z _ (l0 W B (Gq h F hy u (KV (K':=qv s K undef) (λd y e=>back _ d y e) _ _ _ j.lc e))))
    .exact q.elim
 .rename_i k h;cases N:wJ lv o.dst with
  |true=>
   rw [N,cond_true] at c;obtain ⟨Y,c⟩:=dB c;obtain ⟨aj,Y⟩:=Option.isSome_iff_exists.1 Y;have:zeroOf P k=aj:=by unfold zeroOf;rw [Y];rfl
   rw [this] at c;exact z _ (Ix (Kn h Y w) j c)
  |false=>
   rw [N,cond_false] at c;exact news (.inl ⟨k,h⟩) c
 .rename_i k C h;cases N:wJ lv o.dst with
  |true=>
   rw [N,cond_true] at c;split at c
   .rename_i v hv;have:=Ko (P:=P) (ρ:=a.eval) h w;rw [B.val hv] at this;exact z _ (Ix this j c)
   .exact c.elim
  |false=>
   rw [N,cond_false] at c;exact news (.inr (.inl ⟨k,C,h⟩)) c
 .rename_i k l p h;exact news (.inr (.inr (.inl ⟨k,l,p,h⟩))) c
 .rename_i k r h;exact news (.inr (.inr (.inr ⟨k,r,h⟩))) c
 .rename_i f args ai h;obtain ⟨I',c⟩:=j.fx c;obtain ⟨u,c⟩:=dB c;have Q:args.map a.eval=args.map s.E.ev:=B.args λC F=>List.all_eq_true.1 u C (by rw [h];simp [Op.operands,Call.operands,F]);cases J:gF P f with
  |true=>
   rw [J,cond_true] at c;exact D _ _ (λv d ⟨y,e⟩=>back v d y e) (z _ (FR (s:=⟨s.E,s.S,s.L,w,false⟩) (by simp [execOp,h,resolve,Act.eval,Deferred.ofValue,invoke,Q,sO J]) j.lc rfl c))
  |false=>
   rw [J,cond_false] at c;unfold wz at c;obtain ⟨v,d,hr,e⟩:=pk c;refine D _ _ ac (z _ λak=>?_);unfold Oper.wp;have:(execOp a.eval o).run P w=.ok (.value v) d:=by simp [execOp,h,resolve,Act.eval,Deferred.ofValue,invoke,Q,hr]
   rw [this];simp only [Oper.upon];exact ⟨_,rfl,e⟩
 .rename_i t args ai h;obtain ⟨I',c⟩:=j.fx c;obtain ⟨u,c⟩:=dB c;have Q:args.map a.eval=args.map s.E.ev:=B.args λC F=>List.all_eq_true.1 u C (by rw [h];simp [Op.operands,Call.operands,F]);split at c
  .rename_i f first captured hf
   obtain ⟨J,c⟩:=dB c;have ag:a.eval (.tmp t)=.func (.func f) first captured:=B.val (x:=.tmp t) hf
   exact D _ _ (λv d ⟨y,e⟩=>back v d y e) (z _ (FR (s:=⟨s.E,s.S,s.L,w,false⟩) (by simp [execOp,h,resolve,ag,Deferred.ofValue,invoke,Q,sO J]) j.lc rfl c))
  .exact c.elim
 .obtain ⟨_,q⟩:=j.fx c;exact D _ _ ac (h1 _ q)
end
def HI (s:TS) (H:HT) (w:I):Prop:=∀p∈H,p.2.2 w/\∀i,p.2.1=some i->∃X,s.L[i]? =some X/\∀c:I,c.heap[X.1]? =some (.cells X.2.1.toArray X.2.2 (0,0))->p.2.2 c
def eN (H:HT):ea:=H.map λp=>(p.1,p.2.2)
def rp {ops:Array Oper} {j:Nat}:∀c:HT,cV ops j (eN c)=eN (fV ops j c)
 |[]=>rfl
 |(i,f,d)::c=>by
  show cV ops j ((i,d)::eN c)=eN (fV ops j ((i,f,d)::c));unfold cV fV;cases hQ ops i j
  .simp only [cond_false];rw [rp c];rfl
  .simp only [cond_true];exact rp c
def me {ops:Array Oper} {j:Nat}:∀{H:HT} {p},p∈fV ops j H->p∈H/\hQ ops p.1 j=false
 |(i,f,e)::H,p,c=>by
  unfold fV at c;cases d:hQ ops i j with
  |true=>
   rw [d,cond_true] at c;exact ⟨ec _ (me c).1,(me c).2⟩
  |false=>
   rw [d,cond_false] at c;rcases aB.1 c with rfl|c
   .exact ⟨List.mem_cons_self,d⟩
   .exact ⟨ec _ (me c).1,(me c).2⟩
def HC {ops:Array Oper} {j:Nat} {w:I}:∀{H:HT} {p},p∈H->hQ ops p.1 j=false->p.2.1=none->p.2.2 w∈tw ops j w H
 |(i,f,h)::H,p,c,e,d=>by
  unfold tw;rcases aB.1 c with rfl|c
  .simp only at e d;rw [e,d];exact List.mem_cons_self
  .have:=HC (w:=w) c e d;cases (hQ ops i j||f.isSome)
   .exact ec _ this
   .exact this
def Inv.put {s:TS} {w:I} (h:Inv s w) (d:Option Nat) {v:ae} {q:Option (Nat×Nat)} (u:∀i e,q=some (i,e)->∃X,s.L[i]? =some X/\v=.pointer (some ((aj X.1).add e))):Inv ⟨s.E.put d v,s.S.put d q,s.L,s.w,s.d⟩ w:=by
 refine ⟨h.lc,h.rel,λt i e c=>?_⟩;cases d with
 |none=>exact h.sl t i e c
 |some d=>
  simp only [Sv.put,Sv.get?] at c;simp only [Env.put,Env.get?];cases n:cm d t with
  |true=>
   rw [n,cond_true] at c;obtain ⟨X,j,k⟩:=u i e c;exact ⟨X,j,by simp [k]⟩
  |false=>
   rw [n,cond_false] at c;obtain ⟨X,j,k⟩:=h.sl t i e c;exact ⟨X,j,by simpa using k⟩
def Tl {ops:Array Oper} {j:Nat} {s d:TS} {w w':I} {m:Option Nat} {H:HT} {K:TS->Prop} (F:HI s H w) (u:Inv d w') (G:∀i X,s.L[i]? =some X->m≠some i->d.L[i]? =some X)
  (A:(!((fV ops j H).any λp=>m.isSome&&p.2.1==m))=true) (h:Dk ops j d H K):
  ∃e,K e/\Inv e w'/\e.E=d.E/\e.S=d.S/\e.L=d.L/\HI e (fV ops j H) w':=by
 have z:∀p∈fV ops j H,∀i,p.2.1=some i->∃X,d.L[i]? =some X/\∀w':I,w'.heap[X.1]? =some (.cells X.2.1.toArray X.2.2 (0,0))->p.2.2 w':=λp c i q=>by obtain ⟨X,x,y⟩:=(F p (me c).1).2 i q;refine ⟨X,G i X x λC=>?_,y⟩;simp only [Bool.not_eq_true',List.any_eq_false] at A;exact A p c (by rw [C,q];simp)
 have own:∀p∈fV ops j H,∀i,p.2.1=some i->p.2.2 w':=λp c i q=>by obtain ⟨X,x,y⟩:=z p c i q;exact y w' (u.lc.own i X x)
 unfold Dk at h;cases n:H.any (λp=>!(hQ ops p.1 j)&&p.2.1.isNone) with
 |true=>
  rw [n,cond_true] at h;obtain ⟨B,D⟩:=u.fx h;obtain ⟨J,M⟩:=qL D;refine ⟨_,M,B,rfl,rfl,rfl,λp c=>⟨?_,z p c⟩⟩;cases k:p.2.1 with
  |none=>exact J _ (HC (me c).1 (me c).2 k)
  |some i=>exact own p c i k
 |false=>
  rw [n,cond_false] at h;refine ⟨d,h,u,rfl,rfl,rfl,λp c=>⟨?_,z p c⟩⟩;cases k:p.2.1 with
  |none=>
   exfalso;rw [List.any_eq_false] at n;exact n p (me c).1 (by rw [(me c).2,k];rfl)
  |some i=>exact own p c i k
section
variable {ops:Array Oper} {n:Cx} {lv:List Nat}
def DX {o:Oper} {a:Act} {s:TS} {w:I} {H:HT} {K:TS->HT->Prop} {draw:Bool} {i:Nat} (A:(ae->I->Prop)->Prop) (D:∀K,h0 P o a w K->A K) (F:∀K,(bif draw then gH else qY) P o s.E w K->A K) (j:∀K h,(∀v c,K v c->h v c)->A K->A h)
  (W:∀y b,o.op≠.select y b) (L:Ag n a s.E) (q:Inv s w) (G:HI s H w) (N:calm P o=false) (d:stepT P lv ops draw i o s H K):
  A λv c=>∃e,K e (fV ops i H)/\Inv e c/\HI e (fV ops i H) c/\e.E=s.E.put o.dst v:=by unfold stepT at d;rw [N,cond_false] at d;refine j _ _ (λv c O=>?_) (Ph A D F j W L q d);obtain ⟨aa,m,s1,Q,u,z,e2,J,S⟩:=O;obtain ⟨M,T⟩:=dB Q;obtain ⟨s2,Z,x,B,f2,C,k⟩:=Tl G u J M T;refine ⟨_,Z,x.put o.dst λi Y d=>?_,k,by rw [B,z]⟩;rw [C];exact S i Y d
def K1 {o:Oper} {a:Act} {s:TS} {w:I} {H:HT} {K:TS->HT->Prop} {draw:Bool} {i:Nat} (S:∀C b,o.op≠.select C b) (G:Ag n a s.E) (A:Inv s w) (F:HI s H w) (J:calm P o=true) (e:stepT P lv ops draw i o s H K):
  ∃v j d k,K d k/\Inv d w/\HI d k w/\d.E=s.E.put o.dst v/\Calm P o a.eval w v j/\eN k=(bif draw then j.map (λh=>(i,h))++eN H else eN H):=by
 unfold stepT at e;rw [J,cond_true] at e;obtain ⟨v,Z,j,d,N,B,D,Y,q,x,O,Q⟩:=ON S G A e;refine ⟨v,j.map (·.2),_,_,N,B.put o.dst λi W e=>?_,λp c=>?_,by rw [D],x,?_⟩
 .rw [q];exact Q i W e
 .have y:p∈H->p.2.2 w/\∀i,p.2.1=some i->∃X,d.L[i]? =some X/\∀z:I,z.heap[X.1]? =some (.cells X.2.1.toArray X.2.2 (0,0))->p.2.2 z:=λc=>by rw [q];exact F p c
  cases draw with
  |false=>exact y c
  |true=>
   rcases a5.1 c with c|c
   .obtain ⟨h,u,rfl⟩:=cQ.1 c;refine ⟨x.1 _ (cQ.2 ⟨h,u,rfl⟩),λT M=>?_⟩;simp only;rw [q];exact O h u T M
   .exact y c
 .cases draw with
  |false=>rfl
  |true=>simp [eN]
def AT {i d:Nat} {o:Oper} {want t:Bool} {s:TS} {H:HT} {K:TS->HT->Prop} {draw:Bool} (c:Y t (l7 P lv ops draw i o d want true s H K) (l7 P lv ops draw i o d want false s H K)):l7 P lv ops draw i o d want t s H K:=by
 cases t
 .exact c
 .exact c
def Inv.same {s:TS} {w:I} (c:Inv s w) {d:Nat} {v:ae} (n:s.E.get? d=some v):Inv ⟨(d,v)::s.E,s.S,s.L,s.w,s.d⟩ w:=by
 refine ⟨c.lc,c.rel,λt i u q=>?_⟩;obtain ⟨X,j,e⟩:=c.sl t i u q;refine ⟨X,j,?_⟩;simp only [Env.get?];by_cases h:d=t
 .subst h;rw [n] at e;cases e;simp
 .have k:cm d t=false:=by rw [<-Bool.not_eq_true,ek];exact h
  rw [k,cond_false];exact e
def Inv.skip {s:TS} {w:I} (c:Inv s w) (d:Option Nat):Inv ⟨s.E.put d undef,s.S.put d none,s.L,s.w,s.d⟩ w:=c.put d λi h e=>by cases e
def HI.skip {s s':TS} {w:I} {H:HT} (c:HI s H w) (e:s'.L=s.L):HI s' H w:=λp d=>by rw [e];exact c p d
def HI.drop {s:TS} {w:I} {H:HT} {j:Nat} (c:HI s H w):HI s (fV ops j H) w:=λp d=>c p (me d).1
def HI.held {s:TS} {w:I} {H:HT} (c:HI s H w):∀p∈eN H,p.2 w:=λp d=>by obtain ⟨h,e,rfl⟩:=cQ.1 d;exact (c h e).1
def ys {K:TS->Prop} {Q:Exit->Act->I->Prop} (j:dz n ops=true):∀(l:List Nat) (s:TS) (w:I) (a:Act),Ag n a s.E->Inv s w->runT P lv ops false K l s []->(∀q u J,Ag n J q.E->Inv q u->K q->Q .normal J u)->wpOpsIn (FW n) 0 P ops Q l a w
 |[],s,w,a,e,k,c,B=>B s w a e k c
 |i::l,s,w,a,e,k,c,B=>by
  have T:=Region.noSelect_spec (ops:=ops) (by unfold dz at j;rw [bn] at j;exact j.1);unfold runT at c;cases h:ops[i]? with
  |none=>rw [h] at c;exact c.elim
  |some o=>
   rw [h] at c;simp only at c;have step:∀(s:TS),Ag n a s.E->Inv s w->cX o (yielded ops a.tmps)=true->stepT P lv ops false i o s [] (λq C=>runT P lv ops false K l q C)->wpOpsIn (FW n) 0 P ops Q (i::l) a w:=λs e k G c=>by
    rw [wpOpsIn_cons];cases hc:calm P o with
    |true=>
     obtain ⟨v,Ss,q,C,W,H,_,M,aa,ac⟩:=K1 (λz b=>T i o z b h) e k (λp O=>by cases O) hc c;have:C=[]:=by cases C with |nil=>rfl|cons ag l=>cases ac
     subst this;refine y2 (Kv:=λv' u=>v'=v/\u=w) h G ?_ ?_
     .refine h0.in (rL j h) λY=>?_;unfold Oper.wp;rw [aa.2 w aa.1];exact ⟨v,rfl,rfl,rfl⟩
     .rintro v' u ⟨rfl,rfl⟩;exact ys j l q _ _ (by rw [M];exact e.put _ (gu j h)) H W B
    |false=>
     refine y2 h G (DX (draw:=false) (s:=s) (vq P n o a w) (λK N=>N.in (rL j h)) (λK N=>Gr (λz b=>T i o z b h) (rL j h) e N) (λK K' ad hA Y=>Oper.wpIn_mono (λJ u ⟨v,ab,hv⟩=>⟨v,ab,ad v u hv⟩) (hA Y)) (λz b=>T i o z b h) e k (λp O=>by cases O) hc c) λv u ⟨q,W,H,_,M⟩=>?_;exact ys j l q u _ (by rw [M];exact e.put v (gu j h)) H W B
   have skip:∀(s:TS),Ag n a s.E->Inv s w->cX o (yielded ops a.tmps)=false->runT P lv ops false K l ⟨s.E.put o.dst undef,s.S.put o.dst none,s.L,s.w,s.d⟩ []->wpOpsIn (FW n) 0 P ops Q (i::l) a w:=λs e k G c=>by rw [wpOpsIn_cons];unfold wpOpIn;simp only [h,G];exact ⟨λ_ _=>trivial,ys j l _ w _ (e.put undef (gu j h)) (k.skip o.dst) c B⟩
   have Z:(bif calm P o then ([]:HT) else fV ops i [])=[]:=by cases calm P o<;>rfl
   cases y:o.guard with
   |none=>
    rw [y] at c;exact step s e k (by simp [cX,y]) c
   |some jw=>
    obtain ⟨ae,want⟩:=jw;rw [y] at c;simp only at c;cases F:jd ops ae with
    |none=>rw [F] at c;exact c.elim
    |some af=>
     rw [F] at c;simp only at c;split at c
     .rename_i t x;have hy:=qm e F x;have A:=AT c;unfold l7 at A;cases D:(t==want) with
      |true=>
       rw [D,cond_true] at A;exact step _ (e.same x) (k.same x) (by simp [cX,y,hy];simpa using D) A
      |false=>
       rw [D,cond_false,Z] at A;exact skip _ (e.same x) (k.same x) (by simp [cX,y,hy];simpa using D) A
     .rename_i vs x;rw [Z] at c;exact skip s e k (by simp [cX,y,qn e F x]) c
     .exact c.elim
def gY (n:Cx) (K:TS->Prop):Exit->Act->I->Prop
 |.normal,a,c=>∃s,Ag n a s.E/\Inv s c/\K s
 |_,_,_=>False
def Qw {o:Oper} {i:Nat} {H:HT}:(bif calm P o then eN H else cV ops i (eN H))=eN (bif calm P o then H else fV ops i H):=by
 cases calm P o
 .exact rp H
 .rfl
def HI.T2 {o:Oper} {i:Nat} {s s':TS} {w:I} {H:HT} (c:HI s H w) (e:s'.L=s.L):HI s' (bif calm P o then H else fV ops i H) w:=by
 cases calm P o
 .exact c.drop.skip e
 .exact c.skip e
def Qr (y:dz n ops=true) {K:TS->Prop} {i:Nat} {o:Oper} {s:TS} {w:I} {H:HT} {a:Act} {J:TS->HT->Prop} {q:Array Bool} {fuel:Nat} (j:ops[i]? =some o)
  (B:(bif calm P o then Region.free .any ops q i&&(en .any ops q).contains i else en .any ops q==[i])=true) (e:Ag n a s.E) (k:Inv s w) (h:HI s H w) (c:tu P lv ops i s H J)
  (next:∀Y x u C,Ag n Y x.E->Inv x u->HI x C u->J x C->d' P ops (gY n K) fuel (eN C) (q.setIfInBounds i true) Y u):d' P ops (gY n K) (fuel+1) (eN H) q a w:=by
 have Q:=Region.noSelect_spec (ops:=ops) (by unfold dz at y;rw [bn] at y;exact y.1);have hQ:∀af a w,gY n K (.panic af) a w=False:=λ_ _ _=>rfl;have step:∀(s:TS),Ag n a s.E->Inv s w->HI s H w->cX o (yielded ops a.tmps)=true->stepT P lv ops true i o s H J->d' P ops (gY n K) (fuel+1) (eN H) q a w:=λs e k h ad c=>by
  cases N:calm P o with
  |true=>
   rw [N,cond_true,bn] at B;obtain ⟨v,ae,x,C,k1,W,G,Z,ac,ab⟩:=K1 (λD b=>Q i o D b j) e k h N c;refine Es (v:=v) (Ss:=ae) j Q (by simp [hQ]) fuel (eN H) q a w (Region.free_spec j B.1) (by simpa using B.2) (.inl ⟨ad,λu ai=>ac.2 u ai⟩) ac.1 h.held ?_;rw [cond_true] at ab;rw [<-ab];exact next _ x w C (by rw [Z];exact e.put v (gu y j)) W G k1
  |false=>
   rw [N,cond_false] at B;have hr:en .any ops q=[i]:=by simpa using B
   refine λ_=>⟨λaa=>(by rw [hr] at aa;cases aa),λT hj=>?_⟩;rw [hr] at hj;obtain rfl:=List.mem_singleton.1 hj;refine vn j ad (DX (draw:=true) (s:=s) (h0 P o a w) (λK hK=>hK) (λK hK=>l0 (λD b=>Q T o D b j) e hK) (λK K' ah hA Q'=>Oper.wp_mono (λY u ⟨v,ag,hv⟩=>⟨v,ag,ah v u hv⟩) (hA Q')) (λD b=>Q T o D b j) e k h N c) λv u ⟨x,k1,W,G,Z⟩=>?_;rw [rp];exact ⟨G.held,next _ x u _ (by rw [Z];exact e.put v (gu y j)) W G k1⟩
 have skip:∀(s:TS),Ag n a s.E->Inv s w->HI s H w->cX o (yielded ops a.tmps)=false->J ⟨s.E.put o.dst undef,s.S.put o.dst none,s.L,s.w,s.d⟩ (bif calm P o then H else fV ops i H)->d' P ops (gY n K) (fuel+1) (eN H) q a w:=λs e k h hw c=>by refine uS y j B hQ h.held hw ?_;rw [Qw];exact next _ _ w _ (e.put undef (gu y j)) (k.skip o.dst) (h.T2 rfl) c
 unfold tu at c;rw [j] at c;simp only at c;cases A:o.guard with
 |none=>
  rw [A] at c;exact step s e k h (by simp [cX,A]) c
 |some jw=>
  obtain ⟨T,want⟩:=jw;rw [A] at c;simp only at c;cases O:jd ops T with
  |none=>rw [O] at c;exact c.elim
  |some aj=>
   rw [O] at c;simp only at c;split at c
   .rename_i t z;have hy:=qm e O z;have F:=AT c;unfold l7 at F;cases M:(t==want) with
    |true=>
     rw [M,cond_true] at F;exact step _ (e.same z) (k.same z) (h.skip rfl) (by simp [cX,A,hy];simpa using M) F
    |false=>
     rw [M,cond_false] at F;exact skip _ (e.same z) (k.same z) (h.skip rfl) (by simp [cX,A,hy];simpa using M) F
   .rename_i vs z;exact skip s e k h (by simp [cX,A,qn e O z]) c
   .exact c.elim
def Qs (B:dz n ops=true) {K:TS->Prop} {i:Nat} {o:Oper} {s:TS} {w:I} {H:HT} {a:Act} {C:TS->HT->Prop} {G:Array Bool} {fuel:Nat} (u:ops[i]? =some o)
  (Q:calm P o=false) (h:Ag n a s.E) (q:Inv s w) (k:HI s H w) (c:tu P lv ops i s H C)
  (next:∀j z e J,Ag n j z.E->Inv z e->HI z J e->C z J->d' P ops (gY n K) fuel (eN J) (G.setIfInBounds i true) j e):
  wpOp P ops (gY n K) i (λj e=>(∀p∈cV ops i (eN H),p.2 e)/\d' P ops (gY n K) fuel (cV ops i (eN H)) (G.setIfInBounds i true) j e) a w:=by
 have T:=Region.noSelect_spec (ops:=ops) (by unfold dz at B;rw [bn] at B;exact B.1);have step:∀(s:TS),Ag n a s.E->Inv s w->HI s H w->cX o (yielded ops a.tmps)=true->stepT P lv ops true i o s H C->wpOp P ops (gY n K) i (λj e=>(∀p∈cV ops i (eN H),p.2 e)/\d' P ops (gY n K) fuel (cV ops i (eN H)) (G.setIfInBounds i true) j e) a w:=λs h q k ac c=>by refine vn u ac (DX (draw:=true) (s:=s) (h0 P o a w) (λK N=>N) (λK N=>l0 (λM b=>T i o M b u) h N) (λK K' ab hA Z=>Oper.wp_mono (λj e ⟨v,aa,hv⟩=>⟨v,aa,ab v e hv⟩) (hA Z)) (λM b=>T i o M b u) h q k Q c) λv e ⟨z,k1,Y,O,e1⟩=>?_;rw [rp];exact ⟨O.held,next _ z e _ (by rw [e1];exact h.put v (gu B u)) Y O k1⟩
 have skip:∀(s:TS),Ag n a s.E->Inv s w->HI s H w->cX o (yielded ops a.tmps)=false->C ⟨s.E.put o.dst undef,s.S.put o.dst none,s.L,s.w,s.d⟩ (bif calm P o then H else fV ops i H)->wpOp P ops (gY n K) i (λj e=>(∀p∈cV ops i (eN H),p.2 e)/\d' P ops (gY n K) fuel (cV ops i (eN H)) (G.setIfInBounds i true) j e) a w:=λs h q k hw c=>by refine DJ u k.held hw ?_;rw [Q,cond_false] at c;rw [rp];exact next _ _ w _ (h.put undef (gu B u)) (q.skip o.dst) (k.drop.skip rfl) c
 unfold tu at c;rw [u] at c;simp only at c;cases y:o.guard with
 |none=>
  rw [y] at c;exact step s h q k (by simp [cX,y]) c
 |some jw=>
  obtain ⟨ad,want⟩:=jw;rw [y] at c;simp only at c;cases F:jd ops ad with
  |none=>rw [F] at c;exact c.elim
  |some ae=>
   rw [F] at c;simp only at c;split at c
   .rename_i t x;have W:=qm h F x;have A:=AT c;unfold l7 at A;cases D:(t==want) with
    |true=>
     rw [D,cond_true] at A;exact step _ (h.same x) (q.same x) (k.skip rfl) (by simp [cX,y,W];simpa using D) A
    |false=>
     rw [D,cond_false] at A;exact skip _ (h.same x) (q.same x) (k.skip rfl) (by simp [cX,y,W];simpa using D) A
   .rename_i vs x;exact skip s h q k (by simp [cX,y,qn h F x]) c
   .exact c.elim
def vd (C:dz n ops=true) {K:TS->Prop}:∀(t:Tr) (alt:Bool) (d:Array Bool) (s:TS) (w:I) (H:HT) (a:Act) (m:Nat),hy P ops t alt d=true->Ag n a s.E->Inv s w->HI s H w->oK P lv ops K t s H->
  (alt=false->t.len=m->d' P ops (gY n K) m (eN H) d a w)/\
  (alt=true->t.len=m+1->∀i∈t.iJ,wpOp P ops (gY n K) i (λu j=>(∀p∈cV ops i (eN H),p.2 j)/\d' P ops (gY n K) m (cV ops i (eN H)) (d.setIfInBounds i true) u j) a w)
 |.nil,alt,d,s,w,H,a,m,c,y,q,B,e=>by
  unfold hy at c;rw [bn] at c;refine ⟨λ_ h=>?_,λx=>?_⟩
  .subst h;exact λ_=>⟨by simpa using c.2,s,y,q,e⟩
  .subst x;simp at c
 |.one i t,alt,d,s,w,H,a,m,c,y,q,B,e=>by
  unfold hy at c;rw [bn] at c;obtain ⟨c,Z⟩:=c;cases F:ops[i]? with
  |none=>rw [F] at c;cases c
  |some o=>
   rw [F] at c;simp only at c;unfold oK at e;refine ⟨λx h=>?_,λx h ac hj=>?_⟩
   .subst x h;exact Qr C F c y q B e λu T j J L N M O=>(vd C t false _ T j J u _ Z L N M O).1 rfl rfl
   .subst x;rw [cond_true] at c;obtain rfl:=List.mem_singleton.1 hj;have Q:t.len=m:=by simpa [Tr.len] using h
    exact Qs C F (by simpa using c) y q B e λu T j J L N M O=>(vd C t false _ T j J u _ Z L N M O).1 rfl Q
 |.fork A G,alt,d,s,w,H,a,m,c,y,q,B,e=>by
  unfold hy at c;simp only [bn] at c;obtain ⟨hr,W,S,ab⟩:=c;rw [ek] at W;unfold oK at e;have both:∀k,A.len=k+1->∀i∈(Tr.fork A G).iJ,wpOp P ops (gY n K) i (λu j=>(∀p∈cV ops i (eN H),p.2 j)/\d' P ops (gY n K) k (cV ops i (eN H)) (d.setIfInBounds i true) u j) a w:=λk D i z=>by
   rcases a5.1 z with z|z
   .exact (vd C A true d s w H a k S y q B e.1).2 rfl D i z
   .exact (vd C G true d s w H a k ab y q B e.2).2 rfl (W▸D) i z
  refine ⟨λx h=>?_,λ_ h=>both m h⟩;subst x;obtain ⟨k,D⟩:=Ef A d S;have Q:m=k+1:=by rw [<-h,<-D];rfl
  subst Q;have Y:en .any ops d=(Tr.fork A G).iJ:=by simpa using hr
  have aa:(Tr.fork A G).iJ≠[]:=by have:=Ee A d S;simp [Tr.iJ,this]
  exact λ_=>⟨λh0=>absurd (Y▸h0) aa,λi z=>both k D i (Y▸z)⟩
def Tn {c:Code} {a:Act} {s:TS} {w:I} {K:TS->Prop} (d:pP n c=true) (x:Ag n a s.E) (k:Inv s w) (u:runT P lv (Code.ops c) false K (List.range (Code.ops c).size) s []):e3 P n c (gY n K) a w:=by
 unfold pP at d;split at d
 .rename_i id ops q;rw [bn] at d;obtain ⟨e,h⟩:=d;have j:q=false:=by simpa using e
  subst j;exact wpIn_region (ys h _ s w a x k u λy A z e h j=>⟨y,e,h,j⟩)
 .cases d
def Inv.dr {s:TS} {w:I} {K:TS->Prop} (d:Inv s w) (c:wc s K):∃e,K e/\Inv e w.drew/\e.E=s.E:=by
 have j:LC w.drew s.L:=d.lc.fr (M:=λ_=>False) (Fr.drew _ _) (λ_ _ c=>c);unfold wc at c;split at c
 .rename_i n k;have h:=d.rel;rw [k] at h;have:w=s.w:=by simpa using h
  exact ⟨_,c,⟨j,by simp [this],d.sl⟩,rfl⟩
 .exact ⟨_,c,⟨j,by simpa using d.fr.cR (Fr.drew _ _),d.sl⟩,rfl⟩
def Tm {c:Code} {a:Act} {s:TS} {w:I} {K:TS->Prop} {t:Tr} (d:rS P n c t=true) (z:Ag n a s.E) (k:Inv s w) (e:wc s λs=>oK P lv (Code.ops c) K t s []):e3 P n c (gY n K) a w:=by
 unfold rS at d;split at d
 .rename_i id ops G;simp only [bn] at d;obtain ⟨rfl,C,j,B,h⟩:=d;rw [ek] at h;obtain ⟨F,A,q,u⟩:=k.dr e;have x:=(vd j t false _ F w.drew [] a _ B (by rw [u];exact z) q (λp D=>(by cases D)) A).1 rfl h;have y:=y1 _ [] _ _ _ (Down.zero _ _) x;refine wpIn_region_draw λt=>?_;refine qk j (λ⟨_,_,e⟩=>e) _ _ _ ?_;simp only [Region.schedule,C,Bool.true_or,if_true];exact wpAny_sound ops.size t _ a _ y
 .cases d
end
end
abbrev KT:=Exit->TS->Prop
structure lT where
 ord:Nat->Option Tr
 pt:List Bool->Option (TS->Prop)
 lv:List Nat
def ou (tb:lT) (d:List Bool) (f:TS->Prop) (s:TS):Prop:=match tb.pt d with
 |some c=>fx s c
 |none=>f s
def Kw (tb:lT) (d:List Bool) (f:TS->Prop) (K:KT):KT:=λc s=>match c with
 |.normal=>ou tb d f s
 |c=>K c s
def vR (id:Nat) (K:KT):KT:=λc s=>match c with
 |.exit d=>if d=id then K .normal s else K (.exit d) s
 |c=>K c s
def ih (P:aM) (n:Cx) (tb:lT):Code->List Bool->KT->TS->Prop
 |.skip,_,c,s=>c .normal s
 |.region id ops true,_,c,s=>match tb.ord id with
  |some t=>cH (rS P n (.region id ops true) t) (wc s λs=>oK P tb.lv ops (c .normal) t s [])
  |none=>False
 |.region id ops false,_,c,s=>cH (pP n (.region id ops false)) (runT P tb.lv ops false (c .normal) (List.range ops.size) s [])
 |.seq a b,d,c,s=>ih P n tb a (false::d) (Kw tb (true::d) (ih P n tb b (true::d) c) c) s
 |.cond o a b,d,c,s=>g1 (s.E.val o) (ou tb (false::d) (ih P n tb a (false::d) c) s) (ou tb (true::d) (ih P n tb b (true::d) c) s)
 |.block id a,d,c,s=>ih P n tb a (false::d) (vR id c) s
 |.loop _,d,_,s=>ou tb d (λ_=>False) s
 |.exit id,_,c,s=>c (.exit id) s
 |.ret,_,c,s=>c .ret s
 |_,_,_,_=>False
section
variable {P:aM} {n:Cx} {tb:lT}
def fH (P:aM) (n:Cx) (j:Code) (h:Exit->Act->I->Prop):List Bool->Code×(Exit->Act->I->Prop)
 |[]=>(j,h)
 |b::k=>match fH P n j h k,b with
  |(.seq d e,c),false=>(d,Exit.then (e3 P n e c) c)
  |(.seq _ e,c),true=>(e,c)
  |(.cond _ d _,c),false=>(d,c)
  |(.cond _ _ e,c),true=>(e,c)
  |(.block id d,c),_=>(d,Exit.inBlock id c)
  |(.loop d,c),_=>(d,Exit.then (jy P n d c) c)
  |(_,c),_=>(.skip,c)
def qo (P:aM) (n:Cx) (p:Code×(Exit->Act->I->Prop)) (a:Act) (w:I):Prop:=match p with
 |(.loop e,c)=>jy P n e c a w
 |(d,c)=>e3 P n d c a w
def qo.wp {c:Code} {Q:Exit->Act->I->Prop} {a:Act} {w:I} (d:qo P n (c,Q) a w):e3 P n c Q a w:=by
 unfold qo at d;split at d
 .rename_i k h e;cases e;exact My d
 .rename_i j h _ e;cases e;exact d
def KQ (n:Cx) (K:KT) (Q:Exit->Act->I->Prop):Prop:=∀c s d a,Ag n a s.E->Inv s d->K c s->Q c a d
def qJ (P:aM) (n:Cx) (tb:lT) (j:Code) (h:Exit->Act->I->Prop):Prop:=∀d c,tb.pt d=some c->∀s e a,Ag n a s.E->Inv s e->c s->qo P n (fH P n j h d) a e
variable {c0:Code} {Q0:Exit->Act->I->Prop}
def uu (x:qJ P n tb c0 Q0) {e:List Bool} {c:Code} {Q:Exit->Act->I->Prop} (A:fH P n c0 Q0 e=(c,Q)) {f:TS->Prop} {s:TS} {w:I} {a:Act} (y:Ag n a s.E) (j:Inv s w) (z:f s->e3 P n c Q a w) (d:ou tb e f s):e3 P n c Q a w:=by
 unfold ou at d;split at d
 .rename_i h u;obtain ⟨k,q⟩:=j.fx d;have:=x e h u ⟨s.E,s.S,s.L,w,false⟩ w a y k q;rw [A] at this;exact this.wp
 .exact z d
def J' {c:Code} {K:TS->Prop} {Q:Exit->Act->I->Prop} {a:Act} {w:I} (j:e3 P n c (gY n K) a w) (k:∀s w a,Ag n a s.E->Inv s w->K s->Q .normal a w):e3 P n c Q a w:=
 wpIn_mono j λh e q d=>by
  cases h with
  |normal=>obtain ⟨s',hA,hI,hK⟩:=d;exact k s' q e hA hI hK
  |_=>exact d.elim
def m0 (x:qJ P n tb c0 Q0):∀(c:Code) (h:List Bool) (K:KT) (Q:Exit->Act->I->Prop) (s:TS) (w:I) (a:Act),fH P n c0 Q0 h=(c,Q)->KQ n K Q->Ag n a s.E->Inv s w->ih P n tb c h K s->e3 P n c Q a w
 |.skip,h,K,Q,s,w,a,q,k,e,j,d=>wpIn_skip (k _ _ _ _ e j d)
 |.region id ops true,h,K,Q,s,w,a,q,k,e,j,d=>by
  unfold ih at d;split at d
  .obtain ⟨C,D⟩:=dB d;exact J' (Tm (c:=.region id ops true) C e j D) λs w a C D L=>k _ _ _ _ C D L
  .exact d.elim
 |.region id ops false,h,K,Q,s,w,a,q,k,e,j,d=>by unfold ih at d;obtain ⟨C,D⟩:=dB d;exact J' (Tn (c:=.region id ops false) C e j D) λs w a C D L=>k _ _ _ _ C D L
 |.seq y H,h,K,Q,s,w,a,q,k,e,j,d=>by
  unfold ih at d;have G:fH P n c0 Q0 (false::h)=(y,Exit.then (e3 P n H Q) Q):=by unfold fH;rw [q]
  have J:fH P n c0 Q0 (true::h)=(H,Q):=by unfold fH;rw [q]
  refine wpIn_seq (m0 x y (false::h) _ _ s w a G (λu N O M F A z=>?_) e j d);cases u with
  |normal=>exact uu x J F A (λB=>m0 x H (true::h) K Q N O M J k F A B) z
  |_=>exact k _ _ _ _ F A z
 |.cond o y H,h,K,Q,s,w,a,q,k,e,j,d=>by
  unfold ih at d;have G:fH P n c0 Q0 (false::h)=(y,Q):=by unfold fH;rw [q]
  have J:fH P n c0 Q0 (true::h)=(H,Q):=by unfold fH;rw [q]
  unfold g1 at d;split at d
  .rename_i t S;refine wpIn_cond_split (e.val S) (λu=>?_) (λu=>?_)
   .subst u;exact uu x G e j (λB=>m0 x y (false::h) K Q s w a G k e j B) d
   .subst u;exact uu x J e j (λB=>m0 x H (true::h) K Q s w a J k e j B) d
  .exact d.elim
 |.block id y,h,K,Q,s,w,a,q,k,e,j,d=>by
  unfold ih at d;have G:fH P n c0 Q0 (false::h)=(y,Exit.inBlock id Q):=by unfold fH;rw [q]
  refine wpIn_block (m0 x y (false::h) _ _ s w a G (λu N O M F A z=>?_) e j d);cases u with
  |exit T=>
   simp only [vR] at z;simp only [Exit.inBlock];split at z
   .rename_i u;rw [aq u];exact k _ _ _ _ F A z
   .rename_i u;rw [af u];exact k _ _ _ _ F A z
  |_=>exact k _ _ _ _ F A z
 |.loop y,h,K,Q,s,w,a,q,k,e,j,d=>by unfold ih at d;exact uu x q e j (λB=>B.elim) d
 |.exit id,h,K,Q,s,w,a,q,k,e,j,d=>wpIn_exit (k _ _ _ _ e j d)
 |.ret,h,K,Q,s,w,a,q,k,e,j,d=>wpIn_ret (k _ _ _ _ e j d)
 |.rangeFunc ..,_,_,_,_,_,_,_,_,_,_,d=>d.elim
 |.scope _,_,_,_,_,_,_,_,_,_,_,d=>d.elim
 |.label _,_,_,_,_,_,_,_,_,_,_,d=>d.elim
 |.goto _,_,_,_,_,_,_,_,_,_,_,d=>d.elim
 |.refuse _,_,_,_,_,_,_,_,_,_,_,d=>d.elim
def wS (tb:lT) (d:List Bool) (K:KT):KT:=λc s=>match c with
 |.normal=>ou tb d (λ_=>False) s
 |c=>K c s
def m6 (P:aM) (n:Cx) (tb:lT) (c0:Code) (j:KT):List Bool->Code×KT
 |[]=>(c0,j)
 |b::h=>match m6 P n tb c0 j h,b with
  |(.seq d e,c),false=>(d,Kw tb (true::h) (ih P n tb e (true::h) c) c)
  |(.seq _ e,c),true=>(e,c)
  |(.cond _ d _,c),false=>(d,c)
  |(.cond _ _ e,c),true=>(e,c)
  |(.block id d,c),_=>(d,vR id c)
  |(.loop d,c),_=>(d,wS tb h c)
  |(_,c),_=>(.skip,c)
def A7 (y:qJ P n tb c0 Q0) {w:KT} (D:KQ n w Q0):∀e:List Bool,(m6 P n tb c0 w e).1=(fH P n c0 Q0 e).1/\KQ n (m6 P n tb c0 w e).2 (fH P n c0 Q0 e).2
 |[]=>⟨rfl,D⟩
 |b::e=>by
  obtain ⟨x,d⟩:=A7 y D e;unfold m6 fH;generalize F:fH P n c0 Q0 e=p at x d;generalize m6 P n tb c0 w e=k at x d;obtain ⟨O,C⟩:=p;obtain ⟨M,K⟩:=k;simp only at x d;subst x;cases M with
  |seq A B=>
   cases b with
   |false=>
    refine ⟨rfl,λq s u a j h c=>?_⟩;cases q with
    |normal=>
     have G:fH P n c0 Q0 (true::e)=(B,C):=by unfold fH;rw [F]
     exact uu y G j h (λz=>m0 y B (true::e) K C s u a G d j h z) c
    |_=>exact d _ _ _ _ j h c
   |true=>exact ⟨rfl,d⟩
  |cond o A B=>cases b<;>exact ⟨rfl,d⟩
  |block id A=>
   cases b<;>(
    refine ⟨rfl,λq s u a j h c=>?_⟩;cases q with
    |exit Q=>
     simp only [vR] at c;simp only [Exit.inBlock];split at c
     .rename_i q;rw [aq q];exact d _ _ _ _ j h c
     .rename_i q;rw [af q];exact d _ _ _ _ j h c
    |_=>exact d _ _ _ _ j h c)
  |loop A=>
   cases b<;>(
    refine ⟨rfl,λq s u a j h c=>?_⟩;cases q with
    |normal=>
     simp only [wS,ou] at c;split at c
     .rename_i H N;obtain ⟨J,z⟩:=h.fx c;have:=y e H N ⟨s.E,s.S,s.L,u,false⟩ u a j J z;rw [F] at this;exact this
     .exact c.elim
    |_=>exact d _ _ _ _ j h c)
  |_=>cases b<;>exact ⟨rfl,d⟩
def Aj (P:aM) (n:Cx) (tb:lT) (c0:Code) (e:KT) (c:List Bool) (s:TS):Prop:=match m6 P n tb c0 e c with
 |(.loop j,d)=>ih P n tb j (false::c) (wS tb c d) s
 |(h,d)=>ih P n tb h c d s
def O2 (q:qJ P n tb c0 Q0) {d:KT} (A:KQ n d Q0) {c:List Bool} {s:TS} {w:I} {a:Act} (C:Ag n a s.E) (y:Inv s w) (e:Aj P n tb c0 d c s):qo P n (fH P n c0 Q0 c) a w:=by
 obtain ⟨h,j⟩:=A7 q A c;have B:=A7 q A (false::c);unfold Aj at e;generalize D:fH P n c0 Q0 c=p at h j;generalize H:m6 P n tb c0 d c=k at e h j;obtain ⟨K,x⟩:=p;obtain ⟨G,z⟩:=k;simp only at h j;subst h;cases G with
 |loop u=>
  have F:fH P n c0 Q0 (false::c)=(u,Exit.then (jy P n u x) x):=by unfold fH;rw [D]
  have J:m6 P n tb c0 d (false::c)=(u,wS tb c z):=by unfold m6;rw [H]
  rw [F,J] at B;exact Ih (m0 q u (false::c) _ _ s w a F B.2 C y e)
 |_=>exact m0 q _ c z x s w a D j C y e
end
section
variable {P:aM}
def nu (P:aM) (s:TS):List ResultVar->(List ae->Prop)->Prop
 |[],c=>c []
 |.tmp t::l,c=>match s.E.get? t with
  |some v=>nu P s l λd=>c (v::d)
  |none=>False
 |.cell h e::l,c=>match s.S.get? h with
  |some (i,j)=>match s.L[i]? with
   |some X=>A9 P e X.2.1 j λv=>nu P s l λd=>c (v::d)
   |none=>False
  |none=>match s.E.get? h with
   |some (.pointer (some p))=>ma P e p s.w λv _=>nu P s l λd=>c (v::d)
   |_=>False
def uH (P:aM) (fn:Func) (R:aa):KT:=λc s=>match c with
 |.normal|.ret=>fx s λs=>nu P s fn.results.toList λd=>R (V (CZ d)) s.w
 |_=>False
def Dt {n:Cx} {a:Act} {s:TS} {w:I} (k:Ag n a s.E) (j:Inv s w) (z:s.w=w):∀{l:List ResultVar} {K:List ae->Prop},nu P s l K->
  ∃d,(l.mapM (oD a.tmps)).run P w=.ok d w/\K d
 |[],K,c=>⟨[],by simp,c⟩
 |.tmp t::l,K,c=>by
  unfold nu at c;split at c
  .rename_i v h;obtain ⟨d,y,e⟩:=Dt k j z c;refine ⟨v::d,?_,e⟩;have u:=k.get t v h;simp [List.mapM_cons,oD,y,u]
  .exact c.elim
 |.cell q A::l,K,c=>by
  have fin:∀(p:Addr) (v:ae),s.E.get? q=some (.pointer (some p))->(loadVar A p).run P w=.ok v w->(nu P s l λd=>K (v::d))->∃d,((ResultVar.cell q A::l).mapM (oD a.tmps)).run P w=.ok d w/\K d:=λp v x h c=>by obtain ⟨d,y,e⟩:=Dt k j z c;refine ⟨v::d,?_,e⟩;have u:=k.get q _ x;simp [List.mapM_cons,oD,y,u,asAddr,h]
  unfold nu at c;split at c
  .rename_i i H G;obtain ⟨X,B,C⟩:=j.sl q i H G;rw [B] at c;obtain ⟨v,e,h⟩:=H7 (b:=X.1) (ty:=X.2.2) c;exact fin _ v C (h w (j.lc.own i X B)) e
  .split at c
   .rename_i p x;rw [z] at c;obtain ⟨v,J,c,D,F⟩:=A' c;exact fin p v x (F w D) c
   .exact c.elim
def Kc {m:Nat} {fn:Func} {R:aa}:KQ (cx m) (uH P fn R) (bodyPost P fn R):=by
 intro n s e a h j c;have go:(fx s λs=>nu P s fn.results.toList λd=>R (V (CZ d)) s.w)->a.defers=[]/\∃v,(results fn a.tmps).run P e=.ok v e/\R (V v) e:=λc=>by
  obtain ⟨k,q⟩:=j.fx c;obtain ⟨d,x,u⟩:=Dt (s:=⟨s.E,s.S,s.L,e,false⟩) h k rfl q;refine ⟨h.defers,_,?_,u⟩;rw [Kb,<-Array.toArray_toList (xs:=fn.results),List.mapM_toArray];simp only [Sem.run_bind,Sem.run_map,x,Result.andThen_ok,Sem.run_pure];congr 1;cases d with
  |nil=>rfl
  |cons v d=>cases d<;>rfl
 unfold uH at c;cases n with
 |normal=>exact go c
 |ret=>exact go c
 |_=>exact c.elim
def OM {f:bJ} {fn:Func} {c:Code} {args:List ae} {w:I} {R:aa} {tb:lT} (k:P.funcs[f]? =some fn) (j:fn.body=some c) (n:Nat.ble args.length fn.ntmps=true)
  (e:qJ P (cx fn.ntmps) tb c (bodyPost P fn R)) (d:ih P (cx fn.ntmps) tb c [] (uH P fn R) ⟨ja 0 args,[],[],w,false⟩):ai P f args.toArray w R:=
 sQ k j n λa h=>m0 e c [] _ _ _ w a rfl Kc h ⟨LC.nil _,by simp,λt i q d=>by cases d⟩ d
end
inductive Sh
 |i (k:jv)|b|st|s|p|r|m|v|f
def Sh.T:Sh->Type
 |.i _=>Int
 |.b=>Bool
 |.st=>ByteArray
 |.s=>O
 |.p=>Option Addr
 |.r=>Addr
 |.m=>Option Nat
 |.v=>ae
 |.f=>Fv
def Sh.val:(d:Sh)->d.T->ae
 |.i e,c=>.int e c
 |.b,c=>.bool c
 |.st,c=>.string c
 |.s,c=>O.v c
 |.p,c=>.pointer c
 |.r,c=>.pointer (some c)
 |.m,c=>.map c
 |.v,c=>c
 |.f,c=>Fv.v c
def Sh.rd (e:Sh) (v:ae) (K:e.T->Prop):Prop:=match e,v,K with
 |.i n,.int q c,K=>cH (q==n) (K c)
 |.b,.bool c,K=>K c
 |.st,.string c,K=>K c
 |.s,.slice a d j,K=>K ⟨a,d,j⟩
 |.p,.pointer c,K=>K c
 |.r,.pointer (some c),K=>K c
 |.m,.map c,K=>K c
 |.v,c,K=>K c
 |.f,.func (.func d) h k,K=>K ⟨d,h,k⟩
 |_,_,_=>False
def Sh.Tj {d:Sh} {v:ae} {K:d.T->Prop} (c:d.rd v K):∃e,v=d.val e/\K e:=by
 unfold Sh.rd at c;split at c<;>first |exact c.elim|skip
 .obtain ⟨h,j⟩:=dB c;have:=eq_of_beq h;subst this;exact ⟨_,rfl,j⟩
 all_goals exact ⟨_,rfl,c⟩
inductive Tk
 |o (h:Sh)|a (k:Nat)|t (k:Nat)|g (n j k:Nat)
abbrev Tk.I:Tk:=.o (.i .i64)
abbrev Tk.U:Tk:=.o (.i .u64)
abbrev Tk.Y:Tk:=.o (.i .u8)
abbrev Tk.i (k:jv):Tk:=.o (.i k)
abbrev Tk.b:Tk:=.o .b
abbrev Tk.st:Tk:=.o .st
abbrev Tk.s:Tk:=.o .s
abbrev Tk.p:Tk:=.o .p
abbrev Tk.r:Tk:=.o .r
abbrev Tk.m:Tk:=.o .m
abbrev Tk.v:Tk:=.o .v
abbrev Tk.f:Tk:=.o .f
def lN:List Tk->Type->Type
 |[],X=>X
 |.o c::l,X=>c.T->lN l X
 |.a _::l,X=>lN l X
 |.t _::l,X=>lN l X
 |.g _ _ _::l,X=>lN l X
inductive Sp
 |v (l:List Tk)
 |l (l:List Tk) (T:aG)
def i2:List (Nat×Sp)->Type
 |[]=>I->aa->Prop
 |(_,.v c)::l=>lN c (i2 l)
 |(_,.l c _)::l=>Nat->lN c (i2 l)
def mu:(ts:List Tk)->(X:Type)->List ae->lN ts X->(X->Prop)->Prop
 |[],_,[],c,d=>d c
 |.o n::ts,X,v::e,c,d=>n.rd v λw=>mu ts X e (c w) d
 |.a h::ts,X,.agg a::e,c,d=>cH (cm a.toList.length h) (mu ts X (a.toList++e) c d)
 |.t h::ts,X,.tuple a::e,c,d=>cH (cm a.toList.length h) (mu ts X (a.toList++e) c d)
 |.g u q h::ts,X,.func (.func m) j k::e,c,d=>cH (cm u m&&cm j.toList.length q&&cm k.toList.length h) (mu ts X (j.toList++(k.toList++e)) c d)
 |_,_,_,_,_=>False
def m':(ts:List Tk)->(X:Type)->(List ae->X)->lN ts X
 |[],_,d=>d []
 |.o j::ts,X,d=>λn=>m' ts X λc=>d (j.val n::c)
 |.a e::ts,X,d=>m' ts X λc=>d (.agg (c.take e).toArray::c.drop e)
 |.t e::ts,X,d=>m' ts X λc=>d (.tuple (c.take e).toArray::c.drop e)
 |.g k h e::ts,X,d=>m' ts X λc=>d (.func (.func k) (c.take h).toArray ((c.drop h).take e).toArray::(c.drop h).drop e)
def JI:∀{ts:List Tk} {X:Type} {vs:List ae} {K:List ae->X} {h:X->Prop},mu ts X vs (m' ts X K) h->h (K vs):=by
 intro ts;induction ts with
 |nil=>
  intro X vs K h c;cases vs with
  |nil=>exact c
  |cons _ _=>exact c.elim
 |cons t ts k=>
  intro X vs K h c;cases t with
  |o A=>
   cases vs with
   |nil=>exact c.elim
   |cons v vs=>
    obtain ⟨D,rfl,B⟩:=Sh.Tj c;exact k (K:=λvs=>K (A.val D::vs)) B
  |a d=>
   cases vs with
   |nil=>exact c.elim
   |cons v vs=>
    cases v with
    |agg a=>
     obtain ⟨e,j⟩:=dB (show cH (cm a.toList.length d) (mu ts X (a.toList++vs) _ h) from c);rw [ek] at e;have:=k (K:=λvs=>K (.agg (vs.take d).toArray::vs.drop d)) j;rw [List.take_left' e,List.drop_left' e] at this;exact this
    |_=>exact c.elim
  |t d=>
   cases vs with
   |nil=>exact c.elim
   |cons v vs=>
    cases v with
    |tuple a=>
     obtain ⟨e,j⟩:=dB (show cH (cm a.toList.length d) (mu ts X (a.toList++vs) _ h) from c);rw [ek] at e;have:=k (K:=λvs=>K (.tuple (vs.take d).toArray::vs.drop d)) j;rw [List.take_left' e,List.drop_left' e] at this;exact this
    |_=>exact c.elim
  |g y n d=>
   cases vs with
   |nil=>exact c.elim
   |cons v vs=>
    cases v with
    |func z q u=>
     cases z with
     |func m=>
      obtain ⟨e,j⟩:=dB (show cH (cm y m&&cm q.toList.length n&&cm u.toList.length d) (mu ts X (q.toList++(u.toList++vs)) _ h) from c);rw [bn,bn,ek,ek,ek] at e;obtain ⟨⟨C,w⟩,x⟩:=e;have:=k (K:=λvs=>K (.func (.func y) (vs.take n).toArray ((vs.drop n).take d).toArray::(vs.drop n).drop d)) j;rw [List.take_left' w,List.drop_left' w,List.take_left' x,List.drop_left' x,C] at this;exact this
     |_=>exact c.elim
    |_=>exact c.elim
def br:(l:List (Nat×Sp))->Nat->(Env->Sv->Lv->I->aa->Prop)->i2 l
 |[],_,c=>c [] [] []
 |(t,.v k)::l,d,c=>m' k (i2 l) λn=>br l d λe j h=>c ((t,n.headD undef)::e) j h
 |(t,.l k q)::l,d,c=>λb=>m' k (i2 l) λn=>br l (d+1) λe j h=>c ((t,.pointer (some (aj b)))::e) ((t,some (d,0))::j) ((b,n,q)::h)
def ow:(l:List (Nat×Sp))->i2 l->TS->List Nat->I->aa->Prop
 |[],c,_,_,e,d=>c e d
 |(t,.v j)::l,c,s,is,e,d=>match s.E.get? t with
  |some v=>mu j (i2 l) [v] c λh=>ow l h s is e d
  |none=>False
 |(t,.l j k)::l,c,s,is,e,d=>match s.S.get? t with
  |some (i,0)=>match s.L[i]? with
   |some X=>cH (cm X.2.2 k&&!is.any (cm i)) (mu j (i2 l) X.2.1 (c X.1) λh=>ow l h s (i::is) e d)
   |none=>False
  |_=>False
def Ht {E E':Env} {t:Nat} {v:ae} (k:E'.get? t=some v) (j:∀t v,E.get? t=some v->E'.get? t=some v):∀d h,Env.get? ((t,v)::E) d=some h->E'.get? d=some h:=λd h c=>by
 simp only [Env.get?] at c;cases e:cm t d with
 |true=>
  rw [e,cond_true] at c;rw [ek] at e;subst e;cases c;exact k
 |false=>
  rw [e,cond_false] at c;exact j d h c
structure zh (s:TS) (n:Nat) (is js:List Nat) (E:Env) (S:Sv):Prop where
 sub:∀t v,E.get? t=some v->s.E.get? t=some v
 nd:js.Nodup
 dj:∀j∈js,j∉is
 lt:∀j∈js,∃X,s.L[j]? =some X
 sl:∀t i k,S.get? t=some (i,k)->n<=i/\∃j,js[i - n]? =some j/\s.S.get? t=some (j,k)/\∃v,E.get? t=some v
def Ta {s:TS} {w:I} (S:Inv s w) {R:aa}:∀{l:List (Nat×Sp)} {n:Nat} {K:Env->Sv->Lv->I->aa->Prop} {is:List Nat},ow l (br l n K) s is w R->
  ∃e h u,zh s n is u e h/\K e h (u.filterMap λj=>(s.L[j]? :Option (Nat×List ae×aG))) w R:=by
 intro l;induction l with
 |nil=>
  intro n K is c;exact ⟨[],[],[],⟨λt v c=>by (simp [Env.get?] at c),.nil,λ_ c=>by (cases c),λ_ c=>by (cases c),λt i C c=>by (cases c)⟩,c⟩
 |cons p l P=>
  intro n K is c;obtain ⟨t,sp⟩:=p;cases sp with
  |v ts=>
   unfold ow at c;split at c
   .rename_i v hv;have E:=JI (K:=λJ=>br l n λe h D=>K ((t,J.headD undef)::e) h D) c;obtain ⟨e,h,u,d,B⟩:=P E;refine ⟨(t,v)::e,h,u,⟨Ht hv d.sub,d.nd,d.dj,d.lt,λA i C q=>?_⟩,B⟩;obtain ⟨x,j,F,h3,Q,h4⟩:=d.sl A i C q;refine ⟨x,j,F,h3,?_⟩;simp only [Env.get?];cases cm t A with
    |true=>exact ⟨_,rfl⟩
    |false=>exact ⟨_,h4⟩
   .exact c.elim
  |l ts M=>
   unfold ow at c;split at c
   .rename_i i O;split at c
    .rename_i X G;obtain ⟨x,F⟩:=dB c;rw [bn,ek,Bool.not_eq_true',List.any_eq_false] at x;have E:=JI (K:=λJ=>br l (n+1) λe h D=>K ((t,.pointer (some (aj X.1)))::e) ((t,some (n,0))::h) ((X.1,J,M)::D)) F;obtain ⟨e,h,u,d,B⟩:=P E;obtain ⟨X',N,hp⟩:=S.sl t i 0 O;rw [G] at N;cases N;refine ⟨(t,.pointer (some (aj X.1)))::e,(t,some (n,0))::h,i::u,⟨Ht ?_ d.sub,List.nodup_cons.2 ⟨λz=>d.dj i z (by simp),d.nd⟩,λj k=>?_,λj k=>?_,λA H C q=>?_⟩,?_⟩
     .rw [hp,hf]
     .rcases aB.1 k with rfl|k
      .intro z;have:=x.2 j z;simp at this
      .exact λz=>d.dj j k (ec _ z)
     .rcases aB.1 k with rfl|k
      .exact ⟨X,G⟩
      .exact d.lt j k
     .simp only [Sv.get?] at q;cases y:cm t A with
      |true=>
       rw [y,cond_true] at q;rw [ek] at y;subst y;cases q;refine ⟨bB _,i,by simp,O,.pointer (some (aj X.1)),?_⟩;simp [Env.get?]
      |false=>
       rw [y,cond_false] at q;obtain ⟨g1,j,W,Y,Q,Z⟩:=d.sl A H C q;refine ⟨by omega,j,?_,Y,Q,?_⟩
       .have:H - n=(H - (n+1))+1:=by omega
        rw [this,List.getElem?_cons_succ];exact W
       .simp only [Env.get?,y,cond_false];exact Z
     .have T:(X.1,X.2.1,M)=X:=by rw [<-x.1]
      rw [List.filterMap_cons_some G];simp only [T] at B;exact B
    .exact c.elim
   .exact c.elim
def zh.inv {s:TS} {w:I} (k:Inv s w) {c:List Nat} {E:Env} {S:Sv} (h:zh s 0 [] c E S):Inv ⟨E,S,c.filterMap λd=>(s.L[d]? :Option (Nat×List ae×aG)),w,false⟩ w:=by
 refine ⟨k.lc.pick c h.nd,by simp,λt i u C=>?_⟩;obtain ⟨-,d,x,y,v,n⟩:=h.sl t i u C;obtain ⟨X,z,B⟩:=k.sl t d u y;have:=h.sub t v n;rw [B] at this;cases this;refine ⟨X,?_,n⟩;have all:∀(c:List Nat) (i:Nat),(∀d∈c,∃X,s.L[d]? =some X)->c[i]? =some d->(c.filterMap λd=>(s.L[d]? :Option (Nat×List ae×aG)))[i]? =some X:=by
  intro c;induction c with
  |nil=>intro i _ e;simp at e
  |cons a c D=>
   intro i q e;obtain ⟨F,j⟩:=q a (by simp);rw [List.filterMap_cons_some j];cases i with
   |zero=>simp at e;subst e;rw [z] at j;cases j;rfl
   |succ i=>simpa using D i (λd A=>q d (ec _ A)) (by simpa using e)
 exact all c i h.lt (by simpa using x)
def oS:(ts:List Tk)->(X:Type)->(X->X->Prop)->lN ts X->lN ts X->Prop
 |[],_,r,c,d=>r c d
 |.o h::ts,X,r,c,d=>∀e:h.T,oS ts X r (c e) (d e)
 |.a _::ts,X,r,c,d=>oS ts X r c d
 |.t _::ts,X,r,c,d=>oS ts X r c d
 |.g _ _ _::ts,X,r,c,d=>oS ts X r c d
def vw:(l:List (Nat×Sp))->i2 l->i2 l->Prop
 |[],c,d=>∀(w:I) (R:aa),c w R->d w R
 |(_,.v e)::l,c,d=>oS e (i2 l) (vw l) c d
 |(_,.l e _)::l,c,d=>∀b:Nat,oS e (i2 l) (vw l) (c b) (d b)
def HK:∀{ts:List Tk} {X:Type} {r:X->X->Prop} {e h:List ae->X},(∀d,r (e d) (h d))->oS ts X r (m' ts X e) (m' ts X h):=by
 intro ts;induction ts with
 |nil=>intro X r e h c;exact c []
 |cons t ts j=>
  intro X r e h c;cases t with
  |o n=>intro x;exact j λd=>c _
  |a k=>exact j λd=>c _
  |t k=>exact j λd=>c _
  |g u q k=>exact j λd=>c _
def Qy:∀{l:List (Nat×Sp)} {n:Nat} {h j:Env->Sv->Lv->I->aa->Prop},(∀e q k d c,h e q k d c->j e q k d c)->vw l (br l n h) (br l n j):=by
 intro l;induction l with
 |nil=>intro n h j u d c;exact u _ _ _ d c
 |cons p l w=>
  intro n h j u;obtain ⟨t,x⟩:=p;cases x with
  |v y=>exact HK λz=>w λe q k d c=>u _ _ _ d c
  |l y A=>intro b;exact HK λz=>w λe q k d c=>u _ _ _ d c
structure Fx where
 P:aM
 fn:Func
 ord:List (Nat×Tr)
 lv:List Nat
def Fx.c (X:Fx):Code:=X.fn.body.getD .skip
def Fx.n (X:Fx):Cx:=cx X.fn.ntmps
def Ie:List (Nat×Tr)->Nat->Option Tr
 |[],_=>none
 |(i,l)::o,c=>bif cm i c then some l else Ie o c
def Fx.at (X:Fx) (d:List Bool) (R:aa) (a:Act) (w:I):Prop:=qo X.P X.n (fH X.P X.n X.c (bodyPost X.P X.fn R) d) a w
def Fx.Sem (X:Fx) (c:List Bool) (E:Env) (S:Sv) (L:Lv) (w:I) (R:aa):Prop:=∀a,Ag X.n a E->Inv ⟨E,S,L,w,false⟩ w->X.at c R a w
structure lO (X:Fx) where
 q:List Bool
 sp:List (Nat×Sp)
 F:i2 sp
 ok:∀(R:aa) (s:TS) (w:I) (a:Act),Ag X.n a s.E->Inv s w->ow sp F s [] w R->X.at q R a w
def sL:List Bool->List Bool->Bool
 |[],[]=>true
 |a::l,b::m=>(match a,b with |true,true=>true|false,false=>true|_,_=>false)&&sL l m
 |_,_=>false
def E8:∀{l m:List Bool},sL l m=true->l=m
 |[],[],_=>rfl
 |a::l,b::m,c=>by unfold sL at c;rw [bn] at c;rw [E8 c.2];cases a<;>cases b<;>simp_all
 |[],_::_,c=>by cases c
 |_::_,[],c=>by cases c
def wR {X:Fx} (R:aa):List (lO X)->List Bool->Option (TS->Prop)
 |[],_=>none
 |c::h,e=>bif sL c.q e then some λs=>match s.d with
  |true=>False
  |false=>ow c.sp c.F s [] s.w R else wR R h e
def Fx.D6 (X:Fx) (es:List (lO X)) (R:aa):lT:=⟨Ie X.ord,wR R es,X.lv⟩
def Fx.Lk {X:Fx} {es:List (lO X)} {R:aa}:qJ X.P X.n (X.D6 es R) X.c (bodyPost X.P X.fn R):=by
 intro A C y s B a D u h;have e:wR R es A=some C:=y;clear y;induction es with
 |nil=>cases e
 |cons x es F=>
  unfold wR at e;cases j:sL x.q A with
  |true=>
   rw [j,cond_true] at e;cases e;have:=E8 j;subst this;cases k:s.d with
   |true=>rw [k] at h;exact h.elim
   |false=>
    rw [k] at h;have z:=u.rel;rw [k] at z;have E:B=s.w:=by simpa using z
    rw [<-E] at h;exact x.ok R s B a D u h
  |false=>
   rw [j,cond_false] at e;exact F e
def Fx.y7 (X:Fx) (es:List (lO X)) (d:List Bool) (E:Env) (S:Sv) (L:Lv) (w:I) (R:aa):Prop:=Aj X.P X.n (X.D6 es R) X.c (uH X.P X.fn R) d ⟨E,S,L,w,false⟩
def Fx.Gd {X:Fx} {es:List (lO X)} {c:List Bool} {E:Env} {S:Sv} {L:Lv} {w:I} {R:aa} (e:X.y7 es c E S L w R):X.Sem c E S L w R:=λa h d=>O2 (s:=⟨E,S,L,w,false⟩) (Fx.Lk (es:=es)) Kc h d e
def Gz {X:Fx} {q:List Bool} {u:List (Nat×Sp)} {K:Env->Sv->Lv->I->aa->Prop} (z:∀c d j w R,K c d j w R->X.Sem q c d j w R) (R:aa) (s:TS) (w:I) (a:Act) (e:Ag X.n a s.E) (h:Inv s w) (x:ow u (br u 0 K) s [] w R):X.at q R a w:=by obtain ⟨c,d,B,k,y⟩:=Ta h x;exact z _ _ _ _ _ y a ⟨e.defers,e.size,λt v A=>e.get t v (k.sub t v A)⟩ (k.inv h)
def bD (X:Fx) (h:List Bool) (d:List (Nat×Sp)) (F:i2 d) (e:F=br d 0 (X.Sem h):=by kernel_rfl):lO X:=⟨h,d,F,λk s q a n j c=>by subst e;exact Gz (λ_ _ _ _ _ c=>c) k s q a n j c⟩
def aC (X:Fx) (es:List (lO X)) (h:List Bool) (d:List (Nat×Sp)) (F:i2 d) (e:F=br d 0 (X.y7 es h):=by kernel_rfl):lO X:=⟨h,d,F,λk s q a n j c=>by subst e;exact Gz (λ_ _ _ _ _ c=>Fx.Gd c) k s q a n j c⟩
def bF {X:Fx} (es:List (lO X)) (d:List Bool) (c:List (Nat×Sp)):vw c (br c 0 (X.y7 es d)) (br c 0 (X.Sem d)):=Qy λ_ _ _ _ _ e=>Fx.Gd e
def aE (X:Fx) (es:List (lO X)) {f:bJ} {args:List ae} {w:I} {R:aa} {T:Prop} (d:T) (j:X.P.funcs[f]? =some X.fn:=by kernel_rfl) (h:X.fn.body=some X.c:=by kernel_rfl) (k:Nat.ble args.length X.fn.ntmps=true:=by kernel_rfl)
  (e:T=ih X.P X.n (X.D6 es R) X.c [] (uH X.P X.fn R) ⟨ja 0 args,[],[],w,false⟩:=by kernel_rfl):ai X.P f args.toArray w R:=
 OM j h k Fx.Lk (e▸d)
def Jc:Bool->List Nat->List Bool
 |_,[]=>[]
 |b,c::l=>List.replicate c b++Jc (!b) l
abbrev ak (l:List Nat):List Bool:=Jc true l
abbrev Ps:=List (Nat×Sp)
abbrev ls (l:List Nat):Tr:=Tr.sq l .nil
end Go.W
set_option maxRecDepth 100000
set_option maxHeartbeats 2000000
namespace Go.Proofs.YtocpddmpfbfdbaaGreatDoor
open Go renaming World->I,Calls->ai,Program->aM,Value->ae,TypeId->aG,Ending->dA,FuncId->bJ,IntKind->jv
open Go.IntKind renaming wrap->ab
open _root_.Int renaming toNat->ag,tmod->dP
open Go.IntWalk renaming i64_in->a4
open Go.Builtin renaming append_->bb
open Go.Sem renaming run->a6
open _root_.Bool renaming and_eq_true->bn
open _root_.Nat renaming le_refl->bB,le_trans->bH,zero_le->dv,beq->cm,mul_le_mul_right->kZ,beq_eq->ek
open _root_.Array renaming replicate->fy
open Go.Region renaming wanted->cX,ready->en
open Go.Proofs.Tryz renaming prog->U
open _root_.Decidable renaming decide->ah
open Go.Ending renaming returned->V
open List renaming mem_append->a5,mem_cons->aB,not_mem_nil->a1,mem_of_getElem?->aI,getElem?_eq_getElem->bc,getElem?_eq_some_iff->cD,mem_append_left->cW,mem_append_right->eP,mem_flatMap->ch,mem_map->cQ,length_take->dL,flatMap_append->dh,flatMap_cons->cO,mem_cons_of_mem->ec,length_set->uy,drop_eq_getElem_cons->dq,getElem?_map->yg,take_add_one->gC,drop_drop->ux,getElem?_take->kc,getElem?_set_self->hU,getElem?_set_ne->yh,drop_of_length_le->dt,take_of_length_le->e1
open Go Go.W
def mp {a b:Prop} (c:a) (e:a=b:=by kernel_rfl):b:=e▸c
abbrev e5:=Exit->Act->I->Prop
abbrev sA (P:aM) (n:Nat) (K:Env->I->aa->Prop) (c:Code) (Q:aa->e5):Prop:=∀(R:aa) (E:Env) (w:I),K E w R->WP P (cx n) c (Q R) E w
abbrev ze (P:aM) (n:Nat) (K:Env->I->aa->Prop) (c:Code) (Q:aa->e5):Prop:=∀(R:aa) (E:Env) (w:I),K E w R->LP P (cx n) c (Q R) E w
abbrev aV (w:I) (p:Addr) (K:Int->Int->Int->O->Prop):Prop:=∃c:Int,∃d:Int,∃e:Int,∃h:O,w.cell? (p.add 0)=some (.i c)/\w.cell? (p.add 1)=some (.int .u8 d)/\w.cell? (p.add 2)=some (.int .u8 e)/\w.cell? (p.add 3)=some (h.v)/\K c d e h
abbrev H5 (w:I) (p:Addr) (K:Int->Int->Int->ByteArray->Int->Prop):Prop:=∃c:Int,∃d:Int,∃e:Int,∃h:ByteArray,∃j:Int,w.cell? (p.add 0)=some (.int .u8 c)/\w.cell? (p.add 1)=some (.int .u8 d)/\w.cell? (p.add 2)=some (.int .u8 e)/\w.cell? (p.add 3)=some (.string h)/\w.cell? (p.add 4)=some (.i j)/\K c d e h j
abbrev cr (w:I) (p:Addr) (K:Int->Int->Int->Prop):Prop:=∃c:Int,∃d:Int,∃e:Int,w.cell? (p.add 0)=some (.i c)/\w.cell? (p.add 1)=some (.i d)/\w.cell? (p.add 2)=some (.i e)/\K c d e
abbrev lu (w:I) (p:Addr) (K:Int->O->Int->Int->Int->ByteArray->Int->Int->Int->Prop):Prop:=∃c:Int,∃d:O,∃e:Int,∃h:Int,∃j:Int,∃k:ByteArray,∃n:Int,∃q:Int,∃x:Int,w.cell? (p.add 0)=some (.i c)/\w.cell? (p.add 1)=some (d.v)/\w.cell? (p.add 2)=some (.i e)/\w.cell? (p.add 3)=some (.i h)/\w.cell? (p.add 4)=some (.u j)/\w.cell? (p.add 5)=some (.string k)/\w.cell? (p.add 6)=some (.i n)/\w.cell? (p.add 7)=some (.i q)/\w.cell? (p.add 8)=some (.i x)/\K c d e h j k n q x
abbrev gk (f:bJ) (xs:Array ae) (w:I) (K:Bool->I->Prop):Prop:=ai U f xs w λd e=>∃c:Bool,d=V (.bool c)/\K c e
abbrev bM (bs:List Nat) (f:bJ) (xs:Array ae) (w:I) (K:Bool->I->Prop):Prop:=cU bs U f xs w λd e=>∃c:Bool,d=V (.bool c)/\K c e
abbrev di (f:bJ) (xs:Array ae) (w:I) (K:Int->I->Prop):Prop:=ai U f xs w λd e=>∃c:Int,d=V (.i c)/\K c e
abbrev b0 (bs:List Nat) (f:bJ) (xs:Array ae) (w:I) (K:Int->I->Prop):Prop:=cU bs U f xs w λd e=>∃c:Int,d=V (.i c)/\K c e
abbrev k' (f:bJ) (xs:Array ae) (w:I) (K:Int->Int->Int->O->I->Prop):Prop:=ai U f xs w λj k=>∃c:Int,∃d:Int,∃e:Int,∃h:O,j=V (.agg #[.i c,.int .u8 d,.int .u8 e,h.v])/\K c d e h k
abbrev ez (bs:List Nat) (f:bJ) (xs:Array ae) (w:I) (K:Int->Int->Int->O->I->Prop):Prop:=cU bs U f xs w λj k=>∃c:Int,∃d:Int,∃e:Int,∃h:O,j=V (.agg #[.i c,.int .u8 d,.int .u8 e,h.v])/\K c d e h k
abbrev kA (f:bJ) (xs:Array ae) (w:I) (K:O->I->Prop):Prop:=ai U f xs w λd e=>∃c:O,d=V (c.v)/\K c e
abbrev fU (bs:List Nat) (f:bJ) (xs:Array ae) (w:I) (K:O->I->Prop):Prop:=cU bs U f xs w λd e=>∃c:O,d=V (c.v)/\K c e
abbrev eX (f:bJ) (xs:Array ae) (w:I) (K:I->Prop):Prop:=ai U f xs w λc d=>c=V (.tuple #[])/\K d
abbrev lZ (bs:List Nat) (f:bJ) (xs:Array ae) (w:I) (K:I->Prop):Prop:=cU bs U f xs w λc d=>c=V (.tuple #[])/\K d
abbrev v5 (f:bJ) (xs:Array ae) (w:I) (K:Int->Int->I->Prop):Prop:=ai U f xs w λe h=>∃c:Int,∃d:Int,e=V (.tuple #[.i c,.i d])/\K c d h
abbrev OH (f:bJ) (xs:Array ae) (w:I) (K:Int->Bool->I->Prop):Prop:=ai U f xs w λe h=>∃c:Int,∃d:Bool,e=V (.tuple #[.i c,.bool d])/\K c d h
abbrev OW (bs:List Nat) (f:bJ) (xs:Array ae) (w:I) (K:Int->Bool->I->Prop):Prop:=cU bs U f xs w λe h=>∃c:Int,∃d:Bool,e=V (.tuple #[.i c,.bool d])/\K c d h
abbrev z2 (bs:List Nat) (f:bJ) (xs:Array ae) (w:I) (K:Int->Int->Bool->I->Prop):Prop:=cU bs U f xs w λh j=>∃c:Int,∃d:Int,∃e:Bool,h=V (.tuple #[.int .u8 c,.i d,.bool e])/\K c d e j
abbrev OI (f:bJ) (xs:Array ae) (w:I) (K:Int->Int->Int->ByteArray->Int->Int->I->Prop):Prop:=ai U f xs w λn q=>∃c:Int,∃d:Int,∃e:Int,∃h:ByteArray,∃j:Int,∃k:Int,n=V (.tuple #[.agg #[.int .u8 c,.int .u8 d,.int .u8 e,.string h,.i j],.i k])/\K c d e h j k q
abbrev FP (f:bJ) (xs:Array ae) (w:I) (K:(Option Addr)->I->Prop):Prop:=ai U f xs w λd e=>∃c:Option Addr,d=V (.pointer c)/\K c e
abbrev qR (bs:List Nat) (f:bJ) (xs:Array ae) (w:I) (K:(Option Addr)->I->Prop):Prop:=cU bs U f xs w λd e=>∃c:Option Addr,d=V (.pointer c)/\K c e
abbrev zV (f:bJ) (xs:Array ae) (w:I) (K:ae->I->Prop):Prop:=ai U f xs w λd e=>∃c:ae,d=V (c)/\K c e
abbrev OC (f:bJ) (xs:Array ae) (w:I) (K:Int->Int->Int->O->Int->I->Prop):Prop:=ai U f xs w λk n=>∃c:Int,∃d:Int,∃e:Int,∃h:O,∃j:Int,k=V (.tuple #[.agg #[.i c,.int .u8 d,.int .u8 e,h.v],.i j])/\K c d e h j n
abbrev sR (bs:List Nat) (f:bJ) (xs:Array ae) (w:I) (K:Int->Int->Int->O->Int->I->Prop):Prop:=cU bs U f xs w λk n=>∃c:Int,∃d:Int,∃e:Int,∃h:O,∃j:Int,k=V (.tuple #[.agg #[.i c,.int .u8 d,.int .u8 e,h.v],.i j])/\K c d e h j n
abbrev OR (bs:List Nat) (f:bJ) (xs:Array ae) (w:I) (K:(Option Nat)->I->Prop):Prop:=cU bs U f xs w λd e=>∃c:Option Nat,d=V (.map c)/\K c e
abbrev v3 (f:bJ) (xs:Array ae) (w:I) (K:Int->I->Prop):Prop:=ai U f xs w λd e=>∃c:Int,d=V (.int .u8 c)/\K c e
abbrev z0 (bs:List Nat) (f:bJ) (xs:Array ae) (w:I) (K:Int->Int->I->Prop):Prop:=cU bs U f xs w λe h=>∃c:Int,∃d:Int,e=V (.tuple #[.int .u8 c,.i d])/\K c d h
abbrev qQ (f:bJ) (xs:Array ae) (w:I) (K:ByteArray->I->Prop):Prop:=ai U f xs w λd e=>∃c:ByteArray,d=V (.string c)/\K c e
abbrev fT (bs:List Nat) (f:bJ) (xs:Array ae) (w:I) (K:ByteArray->I->Prop):Prop:=cU bs U f xs w λd e=>∃c:ByteArray,d=V (.string c)/\K c e
abbrev FO (f:bJ) (xs:Array ae) (w:I) (K:Int->Int->Int->O->Int->Int->I->Prop):Prop:=ai U f xs w λn q=>∃c:Int,∃d:Int,∃e:Int,∃h:O,∃j:Int,∃k:Int,n=V (.tuple #[.agg #[.i c,.int .u8 d,.int .u8 e,h.v],.i j,.i k])/\K c d e h j k q
abbrev o8 (f:bJ) (xs:Array ae) (w:I) (K:Int->Int->Int->I->Prop):Prop:=ai U f xs w λh j=>∃c:Int,∃d:Int,∃e:Int,h=V (.agg #[.i c,.i d,.i e])/\K c d e j
abbrev cA (bs:List Nat) (f:bJ) (xs:Array ae) (w:I) (K:Int->Int->Int->I->Prop):Prop:=cU bs U f xs w λh j=>∃c:Int,∃d:Int,∃e:Int,h=V (.agg #[.i c,.i d,.i e])/\K c d e j
abbrev OS (bs:List Nat) (f:bJ) (xs:Array ae) (w:I) (K:Int->Int->Int->Bool->I->Prop):Prop:=cU bs U f xs w λj k=>∃c:Int,∃d:Int,∃e:Int,∃h:Bool,j=V (.tuple #[.agg #[.i c,.i d,.i e],.bool h])/\K c d e h k
abbrev OD (f:bJ) (xs:Array ae) (w:I) (K:Int->Int->Int->Int->I->Prop):Prop:=ai U f xs w λj k=>∃c:Int,∃d:Int,∃e:Int,∃h:Int,j=V (.tuple #[.agg #[.i c,.i d,.i e],.i h])/\K c d e h k
abbrev cE (bs:List Nat) (f:bJ) (xs:Array ae) (w:I) (K:Int->Int->Int->Int->I->Prop):Prop:=cU bs U f xs w λj k=>∃c:Int,∃d:Int,∃e:Int,∃h:Int,j=V (.tuple #[.agg #[.i c,.i d,.i e],.i h])/\K c d e h k
abbrev OT (bs:List Nat) (f:bJ) (xs:Array ae) (w:I) (K:O->Int->Int->I->Prop):Prop:=cU bs U f xs w λh j=>∃c:O,∃d:Int,∃e:Int,h=V (.tuple #[c.v,.i d,.i e])/\K c d e j
abbrev OE (f:bJ) (xs:Array ae) (w:I) (K:Int->O->Int->Int->Int->ByteArray->Int->Int->Int->I->Prop):Prop:=ai U f xs w λy z=>∃c:Int,∃d:O,∃e:Int,∃h:Int,∃j:Int,∃k:ByteArray,∃n:Int,∃q:Int,∃x:Int,y=V (.agg #[.i c,d.v,.i e,.i h,.u j,.string k,.i n,.i q,.i x])/\K c d e h j k n q x z
abbrev OU (bs:List Nat) (f:bJ) (xs:Array ae) (w:I) (K:Int->O->Int->Int->Int->ByteArray->Int->Int->Int->I->Prop):Prop:=cU bs U f xs w λy z=>∃c:Int,∃d:O,∃e:Int,∃h:Int,∃j:Int,∃k:ByteArray,∃n:Int,∃q:Int,∃x:Int,y=V (.agg #[.i c,d.v,.i e,.i h,.u j,.string k,.i n,.i q,.i x])/\K c d e h j k n q x z
abbrev OF (f:bJ) (xs:Array ae) (w:I) (K:O->Int->Int->I->Prop):Prop:=ai U f xs w λh j=>∃c:O,∃d:Int,∃e:Int,h=V (.tuple #[.agg #[c.v],.i d,.i e])/\K c d e j
abbrev FY (bs:List Nat) (f:bJ) (xs:Array ae) (w:I) (K:O->Int->Int->I->Prop):Prop:=cU bs U f xs w λh j=>∃c:O,∃d:Int,∃e:Int,h=V (.tuple #[.agg #[c.v],.i d,.i e])/\K c d e j
abbrev FZ (bs:List Nat) (f:bJ) (xs:Array ae) (w:I) (K:ByteArray->Int->I->Prop):Prop:=cU bs U f xs w λe h=>∃c:ByteArray,∃d:Int,e=V (.tuple #[.string c,.i d])/\K c d h
abbrev z1 (bs:List Nat) (f:bJ) (xs:Array ae) (w:I) (K:O->Int->I->Prop):Prop:=cU bs U f xs w λe h=>∃c:O,∃d:Int,e=V (.tuple #[c.v,.i d])/\K c d h
abbrev j2 (f:bJ) (xs:Array ae) (w:I) (K:Int->I->Prop):Prop:=ai U f xs w λd e=>∃c:Int,d=V (.u c)/\K c e
abbrev v' (bs:List Nat) (f:bJ) (xs:Array ae) (w:I) (K:Int->I->Prop):Prop:=cU bs U f xs w λd e=>∃c:Int,d=V (.u c)/\K c e
abbrev OG (f:bJ) (xs:Array ae) (w:I) (K:O->Int->I->Prop):Prop:=ai U f xs w λe h=>∃c:O,∃d:Int,e=V (.tuple #[.agg #[c.v],.i d])/\K c d h
abbrev OV (bs:List Nat) (f:bJ) (xs:Array ae) (w:I) (K:O->Int->I->Prop):Prop:=cU bs U f xs w λe h=>∃c:O,∃d:Int,e=V (.tuple #[.agg #[c.v],.i d])/\K c d h
abbrev tt (w:I) (p:Addr) (c d e:ae) (K:Unit->Prop):Prop:=w.cell? (p.add 0)=some c/\w.cell? (p.add 1)=some d/\w.cell? (p.add 2)=some e/\K ()
abbrev Qq (w:I) (p:Addr) (c d e h j k n q u:ae) (K:Unit->Prop):Prop:=w.cell? (p.add 0)=some c/\w.cell? (p.add 1)=some d/\w.cell? (p.add 2)=some e/\w.cell? (p.add 3)=some h/\w.cell? (p.add 4)=some j/\w.cell? (p.add 5)=some k/\w.cell? (p.add 6)=some n/\w.cell? (p.add 7)=some q/\w.cell? (p.add 8)=some u/\K ()
abbrev qa (w:I) (p:Addr) (c d e:ae) (K:I->Prop):Prop:=av w p c λw=>av w (p.add 1) d λw=>av w (p.add 2) e λw=>K w
abbrev cJ (w:I) (p:Addr) (c d e h:ae) (K:I->Prop):Prop:=av w p c λw=>av w (p.add 1) d λw=>av w (p.add 2) e λw=>av w (p.add 3) h λw=>K w
abbrev KY (w:I) (p:Addr) (c d e h j:ae) (K:I->Prop):Prop:=av w p c λw=>av w (p.add 1) d λw=>av w (p.add 2) e λw=>av w (p.add 3) h λw=>av w (p.add 4) j λw=>K w
abbrev kn:Nat:=0
abbrev bX:Nat:=3
abbrev b':Nat:=5
abbrev dy:Nat:=9
abbrev eI:Nat:=22
abbrev aH:Nat:=23
abbrev dZ:Nat:=24
abbrev kV:Nat:=28
abbrev LV:Nat:=29
abbrev nF:Nat:=39
abbrev b3:Nat:=49
abbrev bC:Nat:=51
abbrev nH:Nat:=59
abbrev nG:Nat:=74
abbrev yL:Nat:=89
abbrev U2:Nat:=94
abbrev bG:Nat:=119
abbrev aF:Nat:=121
abbrev Ej:Nat:=126
abbrev Ei:Nat:=127
abbrev qh:Nat:=129
abbrev U1:Nat:=138
abbrev vh:Nat:=139
abbrev mC:Nat:=150
abbrev Eg:Nat:=153
abbrev lK:Nat:=155
abbrev cw:Nat:=166
abbrev aK:Nat:=168
abbrev g8:Nat:=178
abbrev yM:Nat:=179
abbrev vi:Nat:=181
abbrev mB:Nat:=186
abbrev iW:Nat:=194
abbrev lL:Nat:=205
abbrev Eh:Nat:=212
abbrev yN:Nat:=237
abbrev Bn:Nat:=3
abbrev xh:Nat:=4
abbrev gL:Nat:=5
abbrev ug:Nat:=6
abbrev BH:Nat:=7
abbrev xJ:Nat:=8
abbrev xU:Nat:=9
abbrev jh:Nat:=10
abbrev BJ:Nat:=11
abbrev Ch:Nat:=12
abbrev xm:Nat:=13
abbrev oc:Nat:=14
abbrev BK:Nat:=15
abbrev Bo:Nat:=16
abbrev BQ:Nat:=17
abbrev xk:Nat:=18
abbrev BG:Nat:=19
abbrev BS:Nat:=20
abbrev xl:Nat:=21
abbrev xL:Nat:=22
abbrev mh:Nat:=23
abbrev xS:Nat:=24
abbrev xV:Nat:=25
abbrev mf:Nat:=26
abbrev Br:Nat:=27
abbrev ru:Nat:=28
abbrev Bs:Nat:=29
abbrev Cv:Nat:=30
abbrev rG:Nat:=31
abbrev Cw:Nat:=32
abbrev Cu:Nat:=33
abbrev xC:Nat:=34
abbrev xi:Nat:=35
abbrev xn:Nat:=36
abbrev BT:Nat:=37
abbrev rA:Nat:=38
abbrev xf:Nat:=39
abbrev uf:Nat:=40
abbrev uh:Nat:=41
abbrev e0:Nat:=42
abbrev lB:Nat:=43
abbrev Bx:Nat:=44
abbrev xg:Nat:=45
abbrev tS:Nat:=46
abbrev BR:Nat:=47
abbrev Cm:Nat:=48
abbrev Cj:Nat:=49
abbrev Ci:Nat:=50
abbrev xN:Nat:=51
abbrev rH:Nat:=52
abbrev xW:Nat:=53
abbrev Cy:Nat:=54
abbrev Bt:Nat:=55
abbrev CA:Nat:=56
abbrev Cz:Nat:=57
abbrev pD:Nat:=58
abbrev Bq:Nat:=59
abbrev iM:Nat:=60
abbrev oe:Nat:=61
abbrev BM:Nat:=62
abbrev BO:Nat:=63
abbrev BN:Nat:=64
abbrev BP:Nat:=65
abbrev Bu:Nat:=66
abbrev Co:Nat:=67
abbrev B3:Nat:=68
abbrev xR:Nat:=69
abbrev xK:Nat:=70
abbrev mg:Nat:=71
abbrev jg:Nat:=72
abbrev pC:Nat:=73
abbrev tR:Nat:=74
abbrev xO:Nat:=75
abbrev xQ:Nat:=76
abbrev xj:Nat:=77
abbrev BI:Nat:=78
abbrev BF:Nat:=79
abbrev Bw:Nat:=80
abbrev Bv:Nat:=81
abbrev Cn:Nat:=82
abbrev Ck:Nat:=83
abbrev Ct:Nat:=84
abbrev Cr:Nat:=85
abbrev Cq:Nat:=86
abbrev Cp:Nat:=87
abbrev Cs:Nat:=88
abbrev tM:Nat:=89
abbrev tL:Nat:=90
abbrev xb:Nat:=91
abbrev BB:Nat:=92
abbrev Bp:Nat:=93
abbrev lA:Nat:=94
abbrev By:Nat:=95
abbrev py:Nat:=96
abbrev pB:Nat:=97
abbrev px:Nat:=98
abbrev Bz:Nat:=99
abbrev BA:Nat:=100
abbrev B8:Nat:=101
abbrev Cl:Nat:=102
abbrev xT:Nat:=103
abbrev oj:Nat:=104
abbrev ui:Nat:=105
abbrev dm:Nat:=106
abbrev ni:Nat:=107
abbrev hN:Nat:=108
abbrev xM:Nat:=109
abbrev hO:Nat:=110
abbrev xP:Nat:=111
abbrev xc:Nat:=112
abbrev tP:Nat:=113
abbrev na:Nat:=114
abbrev BC:Nat:=115
abbrev BD:Nat:=116
abbrev ry:Nat:=117
abbrev nc:Nat:=118
abbrev od:Nat:=119
abbrev xa:Nat:=120
abbrev BV:Nat:=121
abbrev xp:Nat:=122
abbrev BW:Nat:=123
abbrev tO:Nat:=124
abbrev rz:Nat:=125
abbrev tQ:Nat:=126
abbrev Iv:Nat:=127
abbrev B1:Nat:=128
abbrev oh:Nat:=129
abbrev rD:Nat:=130
abbrev ub:Nat:=131
abbrev xq:Nat:=132
abbrev B0:Nat:=133
abbrev t':Nat:=134
abbrev BZ:Nat:=135
abbrev nh:Nat:=136
abbrev rv:Nat:=137
abbrev pA:Nat:=138
abbrev BE:Nat:=139
abbrev oi:Nat:=140
abbrev B2:Nat:=141
abbrev xB:Nat:=142
abbrev ua:Nat:=143
abbrev rE:Nat:=144
abbrev xy:Nat:=145
abbrev xw:Nat:=146
abbrev xx:Nat:=147
abbrev ng:Nat:=148
abbrev xr:Nat:=149
abbrev xA:Nat:=150
abbrev tW:Nat:=151
abbrev tY:Nat:=152
abbrev xu:Nat:=153
abbrev tZ:Nat:=154
abbrev BY:Nat:=155
abbrev B6:Nat:=156
abbrev xv:Nat:=157
abbrev j':Nat:=158
abbrev B9:Nat:=159
abbrev bj:Nat:=160
abbrev B4:Nat:=161
abbrev rB:Nat:=162
abbrev rC:Nat:=163
abbrev BX:Nat:=164
abbrev xd:Nat:=165
abbrev ue:Nat:=166
abbrev rF:Nat:=167
abbrev tU:Nat:=168
abbrev og:Nat:=169
abbrev B7:Nat:=170
abbrev nf:Nat:=171
abbrev xD:Nat:=172
abbrev xH:Nat:=173
abbrev tT:Nat:=174
abbrev w9:Nat:=175
abbrev Bk:Nat:=176
abbrev w7:Nat:=177
abbrev B5:Nat:=178
abbrev tV:Nat:=179
abbrev xe:Nat:=180
abbrev BU:Nat:=181
abbrev xz:Nat:=182
abbrev xE:Nat:=183
abbrev Cb:Nat:=184
abbrev B':Nat:=185
abbrev Ca:Nat:=186
abbrev Cf:Nat:=187
abbrev Cc:Nat:=188
abbrev Ce:Nat:=189
abbrev Cd:Nat:=190
abbrev Iu:Nat:=192
abbrev Bm:Nat:=193
abbrev Bl:Nat:=194
abbrev xo:Nat:=195
abbrev xI:Nat:=196
abbrev xG:Nat:=197
abbrev Cg:Nat:=198
abbrev uc:Nat:=199
abbrev xF:Nat:=200
abbrev ud:Nat:=201
namespace GB
noncomputable abbrev X:Fx:=⟨U,Tryz.f5,[],[]⟩
abbrev S0 (d c:Int) (w:I) (R:aa):Prop:=
 c≠0/\R (V (.i (dP d c))) w
noncomputable def bf:=aC X [] (ak [2]) [(0,.v [.I]),(1,.v [.I])] S0
def ok (c d:Int) (w:I) (R:aa) (e:Y (ah (c<0)) (S0 (ab .i64 (0 - (ab .i64 (c+1)))) d w R) (S0 c d w R)):ai U gL #[.i c,.i d] w R:=aE X [bf] e
end GB
namespace s3
noncomputable abbrev X:Fx:=⟨U,Tryz.f93,[],[]⟩
abbrev P0:Ps:=[(0,.v [.s]),(1,.v [.I]),(5,.v [.I])]
def L0 (d:O) (e c:Int) (w:I) (R:aa):Prop:=br P0 0 (X.Sem (ak [0,1,1,1,1])) d e c w R
noncomputable def aZ:=bD X (ak [0,1,1,1,1]) P0 L0
def b5:∀(d:O) (e c:Int) (w:I) (R:aa) (j:Y (ah (c<((d.n:Nat):Int))) (aw d c λh=>∃t15:Int,w.cell? (h.add (ag c *1))=some (.i t15)/\
 Y (t15==e) (R (V (.bool true)) w) (L0 d e (ab .i64 (c+1)) w R)) (R (V (.bool false)) w)),L0 d e c w R:=mp (bF (X:=X) [aZ] (ak [0,1,1,1,1]) P0)
def ok (c:O) (d:Int) (w:I) (R:aa) (e:L0 c d 0 w R):ai U Bp #[c.v,.i d] w R:=aE X [aZ] e
end s3
namespace q1
noncomputable abbrev X:Fx:=⟨U,Tryz.f59,[(6,ls [0,1,2,3,4,5,6,7,8])],[]⟩
abbrev P0:Ps:=[(0,.v [.s]),(1,.v [.s]),(5,.v [.I])]
def L0 (c d:O) (e:Int) (w:I) (R:aa):Prop:=br P0 0 (X.Sem (ak [0,1,1,1,2])) c d e w R
noncomputable def aZ:=bD X (ak [0,1,1,1,2]) P0 L0
def b5:∀(d h:O) (c:Int) (w:I) (R:aa) (q:Y (ah (c<((d.n:Nat):Int))) (bY w λe=>aw d c λj=>∃t20:Int,e.cell? (j.add (ag c *1))=some (.i t20)/\
 aw h c λk=>∃t24:Int,e.cell? (k.add (ag c *1))=some (.i t24)/\
 Y (t20 !=t24) (R (V (.bool false)) e) (L0 d h (ab .i64 (c+1)) e R)) (R (V (.bool true)) w)),L0 d h c w R:=mp (bF (X:=X) [aZ] (ak [0,1,1,1,2]) P0)
def ok (c d:O) (w:I) (R:aa) (e:Y (((c.n:Nat):Int) !=((d.n:Nat):Int)) (R (V (.bool false)) w) (L0 c d 0 w R)):ai U Bq #[c.v,d.v] w R:=aE X [aZ] e
end q1
open Go Go.W Go.RowKit Go.Lib
def l1:gy U aH b' (.int .u8 0) 1 1:=⟨by kernel_rfl,by kernel_rfl,rfl,by decide,by decide⟩
def qZ:gy U eI bX (.int .i64 0) 1 8:=⟨by kernel_rfl,by kernel_rfl,rfl,by decide,by decide⟩
abbrev Bytes (w:I) (s:O) (bs:List UInt8):Prop:=Rd w s (bs.map dD)
abbrev eU (w:I) (s:O) (bs:List UInt8):Prop:=Ow w b' s (bs.map dD)
abbrev bS (w:I) (s:O) (l:List Int):Prop:=Rd w s (l.map dp)
abbrev qC (w:I) (s:O) (l:List Int):Prop:=Ow w bX s (l.map dp)
def Bytes.len {w:I} {s:O} {bs:List UInt8} (c:Bytes w s bs):s.n=bs.length:=by simpa using c.1
def bS.len {w:I} {s:O} {bs:List Int} (c:bS w s bs):s.n=bs.length:=by simpa using c.1
def Bytes.cell {w:I} {s:O} {bs:List UInt8} (c:Bytes w s bs) {i j:Nat} {b:UInt8} (hi:bs[i]? =some b) (d:j=i *1) {K:Addr->Prop} (e:∀p,s.a=some p->w.cell? (p.add j)=some (.int .u8 (b.toNat:Int))->K p):W.ct s.a K:=
 Rd.get c (i:=i) (v:=dD b) (by simp [hi]) d e
def bS.cell {w:I} {s:O} {l:List Int} (c:bS w s l) {i j:Nat} {b:Int} (hi:l[i]? =some b) (d:j=i *1) {K:Addr->Prop} (e:∀p,s.a=some p->w.cell? (p.add j)=some (.int .i64 b)->K p):W.ct s.a K:=
 Rd.get c (i:=i) (v:=dp b) (by simp [hi]) d e
def Bytes.sub {w:I} {s:O} {bs:List UInt8} (c:Bytes w s bs) (l hi:Nat) (e:l<=hi) (d:hi<=bs.length):Bytes w (sub s l hi) ((bs.take hi).drop l):=by
 have:=Rd.sub c l hi e (by simpa using d)
 rwa [<-List.map_take,<-List.map_drop] at this
def vM {ty:aG} {w:I} {s src:O} {xs e:List UInt8} (y:eU w s xs) (z:Bytes w src e) (x:xs.length+e.length<=140737488355328):
  ∃c d,(bb #[aH,aH] ty #[s.v,src.v]).run U w=.ok c.v d/\eU d c (xs++e)/\Fr (λb=>b∈ay s) w d/\(∀b∈ay c,b∈ay s\/w.heap.size<=b)/\(c.a=none->s.a=none/\e=[]):=by obtain ⟨c,d,k,n,q,u,h⟩:=EZ (ty:=ty) l1 y z (Fc _) (by simpa using x);exact ⟨c,d,k,by unfold eU;rw [List.map_append];exact n,q,u,λj=>⟨(h j).1,by simpa using (h j).2⟩⟩
def zr {ty:aG} {w:I} {s src:O} {xs e:List Int} (x:qC w s xs) (y:bS w src e) (z:xs.length+e.length<=10000000000000):
  ∃c d,(bb #[eI,eI] ty #[s.v,src.v]).run U w=.ok c.v d/\qC d c (xs++e)/\Fr (λb=>b∈ay s) w d/\(∀b∈ay c,b∈ay s\/w.heap.size<=b)/\(c.a=none->s.a=none/\e=[]):=by obtain ⟨c,d,k,n,q,u,h⟩:=EZ (ty:=ty) qZ x y (HQ _) (by simp;omega);exact ⟨c,d,k,by unfold qC;rw [List.map_append];exact n,q,u,λj=>⟨(h j).1,by simpa using (h j).2⟩⟩
def IV (w:I) (T:aG) (cs:List ae) (c:cs.length<=1000000):Rd (w.alloc (.cells cs.toArray T)) ⟨some ⟨w.heap.size,0,none⟩,cs.length,cs.length⟩ cs:=(Ow.made w T cs _ rfl c).rd
def CN (w:I) (b:UInt8):Bytes (w.alloc (.cells #[.int .u8 (b.toNat:Int)] b')) ⟨some ⟨w.heap.size,0,none⟩,1,1⟩ [b]:=IV w b' [dD b] (by simp)
def one_num (w:I) (b:Int):bS (w.alloc (.cells #[.int .i64 b] bX)) ⟨some ⟨w.heap.size,0,none⟩,1,1⟩ [b]:=IV w bX [dp b] (by simp)
def bl (s:ByteArray):List UInt8:=s.data.toList
def ba (l:List UInt8):ByteArray:=⟨l.toArray⟩
def nT (l:List UInt8):bl (ba l)=l:=rfl
def o3 (s:ByteArray):ba (bl s)=s:=rfl
def ep (s:ByteArray):(bl s).length=s.size:=rfl
def cT (l:List UInt8):(ba l).size=l.length:=by simp [ba,ByteArray.size]
def Us (s:ByteArray):strCells s=(bl s).map dD:=by simp [strCells,bl,dD]
def r2:Tryz.prog.underlying dy=some .string:=by kernel_rfl
def El:Tryz.prog.underlying b'=some (.int .u8):=by kernel_rfl
def Nb {ty:aG} {w:I} {s:O} {xs:List UInt8} (x:eU w s xs) (t:ByteArray) (hb:xs.length+t.size<=140737488355328):
  ∃c e,(bb #[aH,dy] ty #[s.v,.string t]).run U w=.ok c.v e/\eU e c (xs++bl t)/\Fr (λb=>b∈ay s) w e/\(∀b∈ay c,b∈ay s\/w.heap.size<=b):=by
 obtain ⟨i,z,L,C,F⟩:=info_parts l1.hi;have H:s.n=xs.length:=by simpa using x.1
 have main:∀base,base<=w.heap.size->w.ownsRow base b' 1 s.v s.n (xs.map dD)->∃u e,(bb #[aH,dy] ty #[s.v,.string t]).run U w=.ok u e/\e.ownsRow base b' 1 u (s.n+t.size) (xs.map dD++strCells t)/\w.grownBy e s.v.ownBlock/\(u=.slice none 0 0↔s.v=.slice none 0 0/\t.size=0):=
  λbase W T=>run_append_own_string (P:=U) w base aH dy ty b' i l1.ht r2 z L C F s.v s.n (xs.map dD) T t (by unfold maxLen;omega) (by omega) W
 obtain ⟨u,e,y,K,ab,al⟩:=main 0 (dv _) x.2;have hv:∃c:O,u=c.v/\c.n=s.n+t.size:=by
  rcases K.2 with ⟨h,q⟩|⟨g,cap,cur,h,_⟩
  .exact ⟨⟨none,0,0⟩,h,by show 0=_;omega⟩
  .exact ⟨⟨_,_,_⟩,h,rfl⟩
 obtain ⟨c,rfl,J⟩:=hv;have Z:Fr (λb=>b∈ay s) w e:=by
  refine Fr.grown ab λg d=>?_;rw [I5] at d;cases B:s.a with
  |none=>simp [B] at d
  |some p=>simp [B] at d;simp [ay,B,d]
 refine ⟨c,e,y,⟨?_,?_⟩,Z,?_⟩
 .rw [J,H];simp [ep]
 .have q:=K;rw [Us,<-List.map_append] at q;unfold aS;rw [J];exact q
 .intro g d;rcases x.2.cases with ⟨rfl,hx⟩|⟨k,cur,G,aa,ac,ak,Y,ah⟩
  .obtain ⟨v2,w2,ag,ad,_,_⟩:=main w.heap.size (bB _) (by rw [hx];exact World.ownsRow_nil w _ _ _);have j:(Result.ok c.v e:Result ae)=.ok v2 w2:=y.symm.trans ag;have Q:=(Result.ok.inj j).1;subst Q;rcases ad.2 with ⟨h,_⟩|⟨S,ai,aj,h,q,_⟩
   .have:c.a=none:=(Value.slice.inj h).1;simp [ay,this] at d
   .have:c.a=some ⟨S,0,none⟩:=(Value.slice.inj h).1;simp [ay,this] at d;exact .inr (d▸q)
  .obtain ⟨am,E,D⟩:=s;simp only at G ac Y ah H;subst G;by_cases af:E+t.size<=D
   .have A:=run_append_room_string (P:=U) w aH dy ty b' i l1.ht r2 z C k E D cur aa t af (by omega);have j:=y.symm.trans A;have:c.a=some ⟨k,0,none⟩:=(Value.slice.inj (Result.ok.inj j).1).1;simp [ay,this] at d ⊢;exact .inl d
   .have holds:∀M N,(xs.map dD)[M]? =some N->w.cell? ((⟨k,0,none⟩:Addr).add M)=some N:=World.ownsRow.cells (g:=k) x.2 rfl;have A:=run_append_grow_string (P:=U) w aH dy ty b' i (.int .u8 0) l1.ht r2 z L ⟨k,0,none⟩ E D (xs.map dD) (by rw [C];simp;omega) holds t (by omega) (by omega) (growslice_fits (by omega) (by rw [F];omega));have j:=y.symm.trans A;have:c.a=some ⟨w.heap.size,0,none⟩:=(Value.slice.inj (Result.ok.inj j).1).1;simp [ay,this] at d;exact .inr (by omega)
def lX {w:I} {s:O} {bs:List UInt8} (c:Bytes w s bs):(Go.convert aH dy s.v).run U w=.ok (.string (ba bs)) w:=by
 obtain ⟨a,x,j⟩:=s;have e:=Bytes.len c;simp only at e;subst e;cases a with
 |none=>
  obtain ⟨d,k⟩:=c.2.2.1 rfl;simp only at d k;obtain rfl:bs=[]:=List.eq_nil_of_length_eq_zero d;rw [run_convert_bytes_string (P:=U) w aH dy b' _ _ _ l1.ht El r2];rfl
 |some p=>
  refine run_convert_bytes_back (P:=U) w aH dy b' p j bs l1.ht El r2 λh q=>?_;obtain ⟨y,u,n⟩:=c.2.2.2 h (dD bs[h]) (by simp [bc q]);cases u;exact n
def K6 (w:I) (t:ByteArray):∃d c,(Go.convert dy aH (.string t)).run U w=.ok d.v c/\Bytes c d (bl t)/\ao w c/\(∀b∈ay d,w.heap.size<=b/\b<c.heap.size):=by
 refine ⟨⟨some ⟨w.heap.size,0,none⟩,t.size,grownCap w t.size 0 b'⟩,_,run_bytes_of_string (P:=U) w dy aH b' t r2 l1.ht El,⟨?_,?_,?_⟩,?_,?_⟩
 .simp [ep]
 .exact grownCap_ge w t.size 0 _
 .refine Row.qV (T:=b') (.inr ⟨w.heap.size,0,_,_,rfl,gJ w.drew _,λi v e=>?_⟩);rw [Nat.zero_add,bytesRow,Array.getElem?_append];have j:i<t.data.size:=by have:=(cD.1 e).1;simpa [bl] using this
  rw [aq (by simpa using j)];simpa [bl,dD] using e
 .exact (Fr.drew _ w).cR (Fr.alloc _ _ _)
 .intro b h;simp [ay] at h;have:(w.drew.alloc (.cells (bytesRow t (grownCap w t.size 0 b')) b' ((bytesRow t (grownCap w t.size 0 b')).size,(bytesRow t (grownCap w t.size 0 b')).size+1))).heap.size=w.heap.size+1:=size_alloc _ _;omega
def Bh {t e:aG} {z:ae} {bytes:Nat} (d:gy U t e z 1 bytes) (w:I) (j h:jv) (n:Nat) (D:n *bytes<=140737488355328):
  ∃c,(Instr.makeSlice t (.int j 0) (.int h (n:Int))).run U w=.ok (.slice (some ⟨w.heap.size,0,none⟩) 0 n) c/\Ow c e ⟨some ⟨w.heap.size,0,none⟩,0,n⟩ []/\ao w c:=by
 obtain ⟨i,A,C,B,y⟩:=info_parts d.hi;have E:n<=140737488355328:=by have:=Nat.le_mul_of_pos_right n d.hb;omega
 obtain ⟨c,q,u,x⟩:=run_make_own (P:=U) w 0 t e i z 1 d.ht A C B j h n (by rw [y,Nat.mul_comm];omega) (by unfold maxLen;omega) (dv _);exact ⟨c,q,⟨rfl,u⟩,Fr.grown x λ_ k=>by cases k⟩
def ym {w:I} {s:O} {vs:List ae} (k:s.n=vs.length) (j:s.n<=s.c) (d:s.a=none->s.c=0) (h:∀i v,vs[i]? =some v->∃p,s.a=some p/\w.cell? (p.add i)=some v):Rd w s vs:=
 ⟨k,j,λe=>⟨by have:=d e;omega,d e⟩,h⟩
def ArgNums (w:I) (s:O):Prop:=∃l:List Int,bS w s l/\l.length<=9223372036854775807/\∀c∈l,-9223372036854775808<=c/\c<=9223372036854775807
def ArgBytes (w:I) (s:O):Prop:=∃l:List UInt8,Bytes w s l/\l.length<=9223372036854775807
def arg_nums_nil (w:I):ArgNums w ⟨none,0,0⟩:=⟨[],Rd.nil w,by simp,by simp⟩
def arg_bytes_nil (w:I):ArgBytes w ⟨none,0,0⟩:=⟨[],Rd.nil w,by simp⟩
def arg_nums (w:I) (x:Addr) (len cap:Nat) (zs:List Int) (y:len<=zs.length) (k:len<=cap) (u:cap<=maxLen) (j:∀i,i<zs.length->w.cell? (x.add i)=some (.int .i64 (zs.getD i 0))) (q:∀d∈zs,IntKind.min .i64<=d/\d<=IntKind.max .i64):ArgNums w ⟨some x,len,cap⟩:=by
 refine ⟨zs.take len,ym (by simp;omega) k (λh=>by cases h) (λi v c=>?_),?_,λd n=>q d (List.mem_of_mem_take n)⟩
 .rw [yg,kc] at c;split at c
  .have e:i<zs.length:=by omega
   refine ⟨x,rfl,?_⟩;rw [j i e,List.getD_eq_getElem?_getD];rw [bc e] at c ⊢;simpa [dp] using c
  .simp at c
 .have:len<=maxLen:=by omega
  unfold maxLen at this;simp;omega
def arg_bytes (w:I) (x:Addr) (len cap:Nat) (zs:List Int) (z:len<=zs.length) (k:len<=cap) (y:cap<=maxLen) (j:∀i,i<zs.length->w.cell? (x.add i)=some (.int .u8 (zs.getD i 0))) (n:∀e∈zs,IntKind.min .u8<=e/\e<=IntKind.max .u8):ArgBytes w ⟨some x,len,cap⟩:=by
 refine ⟨(zs.take len).map (λe=>UInt8.ofNat e.toNat),ym (by simp;omega) k (λd=>by cases d) (λi v c=>?_),?_⟩
 .rw [yg,yg,kc] at c;split at c
  .have h:i<zs.length:=by omega
   refine ⟨x,rfl,?_⟩;rw [j i h,List.getD_eq_getElem?_getD];rw [bc h] at c ⊢;have d:=n zs[i] (List.getElem_mem h);have q:0<=zs[i]:=d.1;have u:zs[i]<=255:=d.2;simp only [Option.map_some,Option.some.injEq] at c;rw [<-c];simp [dD];omega
  .simp at c
 .have:len<=maxLen:=by omega
  unfold maxLen at this;simp;omega
def kv (w:I) (bs:List UInt8):aa:=λr c=>∃s:O,r=V s.v/\eU c s bs/\ao w c/\∀b∈ay s,w.heap.size<=b
def fS (n m:Int):Int:=if n<0 then dP (0 - (n+1)) m else dP n m
def jC (n m:Int) (c:1<=m):0<=fS n m/\fS n m<m:=by
 unfold fS;split
 .exact ⟨Int.tmod_nonneg _ (by omega),Int.tmod_lt_of_pos _ (by omega)⟩
 .exact ⟨Int.tmod_nonneg _ (by omega),Int.tmod_lt_of_pos _ (by omega)⟩
abbrev cp (n:Int):Prop:=-9223372036854775808<=n/\n<=9223372036854775807
def E1 (n m:Int) (w:I) (k:1<=m) (c:cp n):
  ai U gL #[.int .i64 n,.int .i64 m] w λr e=>r=V (.int .i64 (fS n m))/\w=e:=by
 obtain ⟨h,j⟩:=c;refine GB.ok n m w _ ?_;refine bE (λc=>?_) (λc=>?_)
 .have d:n<0:=by simpa using c
  refine ⟨by omega,?_,rfl⟩;rw [show ab .i64 (n+1)=n+1 from a4 _ (by omega),show ab .i64 (0 - (n+1))=0 - (n+1) from a4 _ (by omega)];unfold fS;rw [aq d]
 .have d:¬n<0:=by simpa using c
  refine ⟨by omega,?_,rfl⟩;unfold fS;rw [af d]
def TU {w:I} {s t:O} {a b:List Int} (x:bS w s a) (y:bS w t b) (F:a.length<=1000000000000):
  ai U Bq #[s.v,t.v] w λr d=>r=V (.bool (ah (a=b)))/\ao w d:=by
 have h:=bS.len x;have u:=bS.len y;refine q1.ok s t w _ ?_;refine bE (λc=>?_) (λc=>?_)
 .refine ⟨?_,Fr.refl _ _⟩;have:a≠b:=λe=>by subst e;rw [h,u] at c;simp at c
  simp [this]
 .have hlen:a.length=b.length:=by rw [h,u] at c;simp at c;omega
  have main:∀(n i:Nat),i+n=a.length->a.take i=b.take i->∀d,ao w d->q1.L0 s t (i:Int) d λr d=>r=V (.bool (ah (a=b)))/\ao w d:=by
   intro n;induction n with
   |zero=>
    intro i B k d q;refine q1.b5 _ _ _ _ _ ?_;refine a9 (by rw [h];simp;omega) ⟨?_,q⟩;rw [e1 (by omega),e1 (by omega)] at k;simp [k]
   |succ n E=>
    intro i B k d q;have z:a[i]? =some a[i]:=bc (by omega);have A:b[i]? =some b[i]:=bc (by omega);refine q1.b5 _ _ _ _ _ ?_;have j:ao w d.drew:=q.cR (Fr.drew _ _);refine bd (by rw [h];simp;omega) ⟨by omega,by rw [h];omega,bS.cell (x.bA j) z (by simp) λp _ C=>⟨_,C,by omega,by rw [u];omega,bS.cell (y.bA j) A (by simp) λG _ D=>⟨_,D,bE (λc=>?_) (λc=>?_)⟩⟩⟩
    .refine ⟨?_,j⟩;have:a≠b:=λe=>by subst e;simp at c
     simp [this]
    .show q1.L0 s t (ab .i64 ((i:Int)+1)) _ _;rw [show ab .i64 ((i:Int)+1)=((i+1:Nat):Int) from by rw [a4 _ (by omega)];omega];refine E (i+1) (by omega) ?_ _ j;have e:a[i]=b[i]:=by simpa using c
     rw [gC,gC,z,A,k,e]
  exact main a.length 0 (by omega) (by simp) w (Fr.refl _ _)
def bZ {w:I} (D:List En) (d:∀c∈D,c.P w):LH F0 w w [] D:=LH.start D d
inductive Rx where
 |mk (k:Int) (lo hi:UInt8) (l:List Rx)
inductive J where
 |mk (k:Int) (lo hi:UInt8) (s:O) (l:List J)
namespace J
def k:J->Int|.mk k _ _ _ _=>k
def lo:J->UInt8|.mk _ lo _ _ _=>lo
def hi:J->UInt8|.mk _ _ hi _ _=>hi
def s:J->O|.mk _ _ _ s _=>s
def l:J->List J|.mk _ _ _ _ l=>l
mutual
def rx:J->Rx|.mk k lo hi _ l=>.mk k lo hi (ax l)
def ax:List J->List Rx
 |[]=>[]
 |t::l=>t.rx::ax l
end
mutual
def sz:J->Nat|.mk _ _ _ _ l=>1+aU l
def aU:List J->Nat
 |[]=>0
 |t::l=>t.sz+aU l
end
def c (t:J):List ae:=[.int .i64 t.k,.int .u8 (t.lo.toNat:Int),.int .u8 (t.hi.toNat:Int),t.s.v]
abbrev v (t:J):ae:=.agg #[.int .i64 t.k,.int .u8 (t.lo.toNat:Int),.int .u8 (t.hi.toNat:Int),t.s.v]
abbrev row (s:O) (l:List J):En:=.bz 4 s (l.flatMap c)
mutual
def P (w:I):J->Prop|.mk _ _ _ s l=>bL 4 w s (l.flatMap c)/\Ps w l
def Ps (w:I):List J->Prop
 |[]=>True
 |t::l=>P w t/\Ps w l
end
mutual
def fp:J->List Nat|.mk _ _ _ s l=>(row s l).fp++a' l
def a':List J->List Nat
 |[]=>[]
 |t::l=>fp t++a' l
end
def mX (t:J):(c t).length=4:=rfl
def gl (l:List J):(l.flatMap c).length=l.length *4:=rf c 4 mX l
def cj {w:I} {s:O} {l:List J} (d:bL 4 w s (l.flatMap c)):s.n=l.length:=by have:=d.1;rw [gl] at this;omega
def fh:∀l:List J,ax l=l.map rx
 |[]=>rfl
 |t::l=>by unfold ax;rw [fh l];rfl
mutual
def ck {w w':I}:∀(t:J),(∀b∈t.fp,b<w.heap.size->w'.heap[b]? =w.heap[b]?)->P w t->P w' t
 |.mk k lo hi s l,c,e=>by unfold fp at c;unfold P at e ⊢;exact ⟨(row s l).st w w' (λb d=>c b (cW _ d)) e.1,keeps l (λb d=>c b (eP _ d)) e.2⟩
def keeps {w w':I}:∀(l:List J),(∀b∈a' l,b<w.heap.size->w'.heap[b]? =w.heap[b]?)->Ps w l->Ps w' l
 |[],_,_=>by unfold Ps;trivial
 |t::l,c,e=>by unfold a' at c;unfold Ps at e ⊢;exact ⟨ck t (λb d=>c b (cW _ d)) e.1,keeps l (λb d=>c b (eP _ d)) e.2⟩
end
mutual
def lt {w:I}:∀(t:J),P w t->∀b∈t.fp,b<w.heap.size
 |.mk k lo hi s l,d,b,c=>by
  unfold fp at c;unfold P at d;rcases a5.1 c with c|c
  .exact (row s l).lt w d.1 b c
  .exact Be l d.2 b c
def Be {w:I}:∀(l:List J),Ps w l->∀b∈a' l,b<w.heap.size
 |[],_,b,c=>by unfold a' at c;cases c
 |t::l,d,b,c=>by
  unfold a' at c;unfold Ps at d;rcases a5.1 c with c|c
  .exact lt t d.1 b c
  .exact Be l d.2 b c
end
def P.bA {w w':I} {t:J} (c:P w t) (f:ao w w'):P w' t:=ck t (λb _ d=>f.ck b d id) c
def Ps.bA {w w':I} {l:List J} (c:Ps w l) (f:ao w w'):Ps w' l:=keeps l (λb _ d=>f.ck b d id) c
def Ps.get {w:I}:∀{l:List J},Ps w l->∀{i:Nat} {t:J},l[i]? =some t->P w t
 |[],_,i,t,c=>by simp at c
 |a::l,d,0,t,c=>by unfold Ps at d;simp at c;subst c;exact d.1
 |a::l,d,i+1,t,c=>by unfold Ps at d;exact Ps.get d.2 (by simpa using c)
def Ps.mem {w:I} {l:List J} (c:Ps w l) {t:J} (d:t∈l):P w t:=by obtain ⟨i,hi⟩:=List.mem_iff_getElem?.1 d;exact c.get hi
def hS {w:I}:∀{l:List J},(∀t∈l,P w t)->Ps w l
 |[],_=>by unfold Ps;trivial
 |t::l,c=>by unfold Ps;exact ⟨c t (by simp),hS λe d=>c e (by simp [d])⟩
def bR:∀{l:List J} {b:Nat},b∈a' l↔∃t∈l,b∈t.fp
 |[],b=>by unfold a';simp
 |t::l,b=>by unfold a';rw [a5,bR];simp
def dV:∀{l:List J} {t:J},t∈l->t.sz<=aU l
 |a::l,t,c=>by
  unfold aU;rcases aB.1 c with rfl|c
  .omega
  .have:=dV c;omega
def kS (t:J):1<=t.sz:=by cases t;unfold sz;omega
def fi:∀l:List J,l.length<=aU l
 |[]=>by simp
 |t::l=>by have:=fi l;have:=kS t;unfold aU;simp only [List.length_cons];omega
def P.parts {w:I} {t:J} (d:P w t):bL 4 w t.s (t.l.flatMap c)/\Ps w t.l:=by cases t;unfold P at d;exact d
def fX {t:J} {b:Nat}:b∈t.fp↔b∈(row t.s t.l).fp\/b∈a' t.l:=by cases t;unfold fp;exact a5
def hC (t:J):t.sz=1+aU t.l:=by cases t;rfl
def eQ (t:J):t.rx=.mk t.k t.lo t.hi (ax t.l):=by cases t;rfl
structure iB (w:I) (p:Addr) (i:Nat) (t:J):Prop where
 c0:w.cell? ((p.add (i *4)).add 0)=some (.int .i64 t.k)
 c1:w.cell? ((p.add (i *4)).add 1)=some (.int .u8 (t.lo.toNat:Int))
 c2:w.cell? ((p.add (i *4)).add 2)=some (.int .u8 (t.hi.toNat:Int))
 c3:w.cell? ((p.add (i *4)).add 3)=some t.s.v
def cY {w:I} {s:O} {l:List J} (e:bL 4 w s (l.flatMap c)) {i:Nat} {t:J} (hi:l[i]? =some t) {K:Addr->Prop} (h:∀p,s.a=some p->iB w p i t->K p):ct s.a K:=
 fB.elem (f:=c) (sz:=4) mX (by omega) e.2.2 hi λp j d=>h p j ⟨d 0 _ rfl,d 1 _ rfl,d 2 _ rfl,d 3 _ rfl⟩
def again {w:I} {s:O} {l:List J} (n:bL 4 w s (l.flatMap c)) {i:Nat} {t:J} (hi:l[i]? =some t) {p:Addr} (u:s.a=some p):iB w p i t:=by have h:=cY n hi (K:=λe=>∃j,s.a=some j/\iB w j i t) (λe d q=>⟨e,d,q⟩);rw [u] at h;obtain ⟨e,d,k⟩:=h;cases d;exact k
end J
def _root_.Go.W.En.tree (t:J):En:=⟨jj t.fp,λe=>t.P e,λe j h d=>J.ck t (λb c=>h b (aT.2 c)) d,λe d b c=>J.lt t d b (aT.1 c),nk _⟩
def _root_.Go.W.En.trees (l:List J):En:=⟨jj (J.a' l),λe=>J.Ps e l,λe j h d=>J.keeps l (λb c=>h b (aT.2 c)) d,λe d b c=>J.Be l d b (aT.1 c),nk _⟩
namespace Rx
def k:Rx->Int|.mk k _ _ _=>k
def lo:Rx->UInt8|.mk _ lo _ _=>lo
def hi:Rx->UInt8|.mk _ _ hi _=>hi
def l:Rx->List Rx|.mk _ _ _ l=>l
mutual
def sz:Rx->Nat|.mk _ _ _ l=>1+aU l
def aU:List Rx->Nat
 |[]=>0
 |t::l=>t.sz+aU l
end
end Rx
mutual
def J.ed:∀t:J,t.rx.sz=t.sz
 |.mk d lo c s l=>by unfold J.rx Rx.sz J.sz;rw [J.uP l]
def J.uP:∀l:List J,Rx.aU (J.ax l)=J.aU l
 |[]=>rfl
 |t::l=>by unfold J.ax Rx.aU J.aU;rw [J.ed t,J.uP l]
end
namespace Aa
noncomputable abbrev X:Fx:=⟨U,Tryz.f193,[],[]⟩
def ok (c:Int) (w:I) (R:aa) (d:R (V (.bool (c !=c))) w):ai U Bm #[.i c] w R:=aE X [] d
end Aa
namespace z'
noncomputable abbrev X:Fx:=⟨U,Tryz.f194,[],[]⟩
def ok (c:Int) (w:I) (R:aa) (d:R (V (.bool (c !=c))) w):ai U Bl #[.int .u8 c] w R:=aE X [] d
end z'
namespace Gb
noncomputable abbrev X:Fx:=⟨U,Tryz.f176,[],[]⟩
def ok (d e:Int) (w:I) (R:aa) (h:gk Bm #[.i d] w λj k=>gk Bm #[.i e] k λt10 c=>Y j (Y t10 (R (V (.i 0)) c) (R (V (.i (-1))) c)) (Y t10 (R (V (.i 1)) c) (Y (ah (d<e)) (R (V (.i (-1))) c) (Y (ah (d>e)) (R (V (.i 1)) c) (R (V (.i 0)) c))))):ai U Bk #[.i d,.i e] w R:=aE X [] h
end Gb
namespace Ga
noncomputable abbrev X:Fx:=⟨U,Tryz.f177,[],[]⟩
def ok (d e:Int) (w:I) (R:aa) (h:gk Bl #[.int .u8 d] w λj k=>gk Bl #[.int .u8 e] k λt10 c=>Y j (Y t10 (R (V (.i 0)) c) (R (V (.i (-1))) c)) (Y t10 (R (V (.i 1)) c) (Y (ah (d<e)) (R (V (.i (-1))) c) (Y (ah (d>e)) (R (V (.i 1)) c) (R (V (.i 0)) c))))):ai U w7 #[.int .u8 d,.int .u8 e] w R:=aE X [] h
end Ga
namespace sU
noncomputable abbrev X:Fx:=⟨U,Tryz.f175,[],[]⟩
abbrev P0:Ps:=[(3,.v [.I]),(6,.v [.s]),(7,.v [.I]),(8,.v [.I])]
def L0 (h:Int) (c:O) (d e:Int) (w:I) (R:aa):Prop:=br P0 0 (X.Sem (ak [0,1,1,1,2])) h c d e w R
noncomputable def aZ:=bD X (ak [0,1,1,1,2]) P0 L0
def b5:∀(d:Int) (e:O) (h c:Int) (w:I) (R:aa) (k:Y (ah (c<h)) (aw e c λj=>∃t11:Int,w.cell? (j.add (ag c *1))=some (.i t11)/\
 Y (t11 !=d) (R (V (.i t11)) w) (L0 d e h (ab .i64 (c+1)) w R)) (R (V (.i d)) w)),L0 d e h c w R:=mp (bF (X:=X) [aZ] (ak [0,1,1,1,2]) P0)
def ok (c:O) (w:I) (R:aa) (d:L0 0 c ((c.n:Nat):Int) 0 w R):ai U w9 #[c.v] w R:=aE X [aZ] d
end sU
namespace JK
noncomputable abbrev X:Fx:=⟨U,Tryz.f160,[(1,ls [0,1,2,3,5,6,7,8,10,11,12,13,4,9,14,15,16,17])],[2,3]⟩
def aD (e h j:Int) (k:O) (n q u:Int) (x:O) (w:I) (R:aa) (A:aJ [] w λc B=>
 aJ [c] B λd C=>
 loc [c,d] C λD=>b0 [c,d] Bk #[.i e,.i n] D λt10 E=>b0 [c,d] w7 #[.int .u8 h,.int .u8 q] E λt15 F=>b0 [c,d] w7 #[.int .u8 j,.int .u8 u] F λt20 y=>aN y (.cells #[.i t10,.i t15,.i t20] bX) λG=>
 b0 [c,d] w9 #[.slice (some (nb y)) 3 3] G λt22 z=>Y (t22 !=0) (R (V (.i t22)) z) (b0 [c,d] B5 #[k.v,x.v,.func (.func bj) #[] #[]] z λt30 H=>R (V (.i t30)) H)):ai U bj #[.agg #[.i e,.int .u8 h,.int .u8 j,k.v],.agg #[.i n,.int .u8 q,.int .u8 u,x.v]] w R:=aE X [] A
end JK
namespace uT
noncomputable abbrev X:Fx:=⟨U,Tryz.f178,[],[8,9]⟩
abbrev P0:Ps:=[(0,.v [.s]),(1,.v [.s]),(2,.v [.g bj 0 0]),(11,.v [.s]),(12,.v [.I]),(13,.v [.I])]
def aP (c d t11:O) (t12 t13:Int) (w:I) (R:aa):Prop:=br P0 0 (X.Sem (ak [0,1,1,1,1])) c d t11 t12 t13 w R
noncomputable def aZ:=bD X (ak [0,1,1,1,1]) P0 aP
def bW:∀(h d t11:O) (t12 t13:Int) (w:I) (R:aa) (J:Y (ah (t13<t12)) (aw t11 t13 λu=>aV w (u.add (ag t13 *4)) λx y z A=>aJ [] w λc k=>
 Y (ah (t13>=((d.n:Nat):Int))) (loc [c] k λe=>R (V (.i 1)) e) (aw d t13 λB=>loc [c] k λe=>aV e (B.add (ag t13 *4)) λC D E F=>aJ [c] e λj H=>
 loc [c,j] H λG=>b0 [c,j] bj #[.agg #[.i x,.int .u8 y,.int .u8 z,A.v],.agg #[.i C,.int .u8 D,.int .u8 E,F.v]] G λt29 q=>Y (t29 !=0) (R (V (.i t29)) q) (aP h d t11 t12 (ab .i64 (t13+1)) q R))) (Y (ah (((h.n:Nat):Int)<((d.n:Nat):Int))) (R (V (.i (-1))) w) (R (V (.i 0)) w))),aP h d t11 t12 t13 w R:=mp (bF (X:=X) [aZ] (ak [0,1,1,1,1]) P0)
def aD (c d:O) (w:I) (R:aa) (e:aP c d c ((c.n:Nat):Int) 0 w R):ai U B5 #[c.v,d.v,.func (.func bj) #[] #[]] w R:=aE X [aZ] e
end uT
namespace JP
noncomputable abbrev X:Fx:=⟨U,Tryz.f158,[],[2,3]⟩
def aD (c d e:Int) (h:O) (j k n:Int) (q:O) (w:I) (R:aa) (y:aJ [] w λu A=>
 aJ [u] A λx B=>
 b0 [u,x] bj #[.agg #[.i c,.int .u8 d,.int .u8 e,h.v],.agg #[.i j,.int .u8 k,.int .u8 n,q.v]] B λz C=>R (V (.bool (z==0))) C):ai U j' #[.agg #[.i c,.int .u8 d,.int .u8 e,h.v],.agg #[.i j,.int .u8 k,.int .u8 n,q.v]] w R:=aE X [] y
end JP
def cv (a b:Int):Int:=if a<b then -1 else if b<a then 1 else 0
def dU:List Int->Int
 |[]=>0
 |c::l=>if c≠0 then c else dU l
def N8 (a b:Int) (w:I):ai U Bk #[.int .i64 a,.int .i64 b] w λr j=>r=V (.int .i64 (cv a b))/\ao w j:=by
 refine Gb.ok _ _ w _ (Aa.ok _ _ _ ⟨_,rfl,Aa.ok _ _ _ ⟨_,rfl,?_⟩⟩);have e:(a !=a)=false:=by simp
 have h:(b !=b)=false:=by simp
 rw [e,h];refine a9 rfl (a9 rfl (aR (λc=>⟨?_,Fr.refl _ _⟩) (λc=>aR (λd=>⟨?_,Fr.refl _ _⟩) (λd=>⟨?_,Fr.refl _ _⟩))))
 .unfold cv;rw [aq c]
 .unfold cv;rw [af c,aq d]
 .unfold cv;rw [af c,af d]
def FN (a b:Int) (w:I):ai U w7 #[.int .u8 a,.int .u8 b] w λr j=>r=V (.int .i64 (cv a b))/\ao w j:=by
 refine Ga.ok _ _ w _ (z'.ok _ _ _ ⟨_,rfl,z'.ok _ _ _ ⟨_,rfl,?_⟩⟩);have e:(a !=a)=false:=by simp
 have h:(b !=b)=false:=by simp
 rw [e,h];refine a9 rfl (a9 rfl (aR (λc=>⟨?_,Fr.refl _ _⟩) (λc=>aR (λd=>⟨?_,Fr.refl _ _⟩) (λd=>⟨?_,Fr.refl _ _⟩))))
 .unfold cv;rw [aq c]
 .unfold cv;rw [af c,aq d]
 .unfold cv;rw [af c,af d]
def Sj {w:I} {s:O} {l:List Int} (k:bS w s l) (z:l.length<=1000000):ai U w9 #[s.v] w λr j=>r=V (.int .i64 (dU l))/\ao w j:=by
 refine sU.ok _ w _ ?_;have A:=bS.len k;have loop:∀(d i:Nat),i+d=l.length->dU (l.drop i)=dU l->sU.L0 0 s ((s.n:Nat):Int) (i:Int) w λr j=>r=V (.int .i64 (dU l))/\ao w j:=by
  intro d;induction d with
  |zero=>
   intro i u e;rw [dt (by omega)] at e;exact sU.b5 _ _ _ _ _ _ (a9 (a0 (by omega)) ⟨by rw [<-e];rfl,Fr.refl _ _⟩)
  |succ d y=>
   intro i u e;have q:l[i]? =some (l[i]'(by omega)):=bc (by omega);rw [dq (by omega)] at e;generalize l[i]'(by omega)=c at q e;refine sU.b5 _ _ _ _ _ _ (bd (aW (by omega)) ⟨by omega,by omega,bS.cell k q (by simp) λp _ x=>⟨c,x,dG (λh=>?_) (λh=>?_)⟩⟩)
   .refine ⟨?_,Fr.refl _ _⟩;rw [<-e];unfold dU;rw [aq h]
   .rw [bw _ (by omega)];refine y (i+1) (by omega) ?_;rw [<-e];conv=>rhs;unfold dU
    rw [af (by simpa using h)]
 exact loop l.length 0 (by omega) (by simp)
def R9 (w:I) (l:List Int) (n:Nat) (c:n=l.length):bS (w.alloc (.cells (l.map dp).toArray bX)) ⟨some (aj w.heap.size),n,n⟩ l:=
 ⟨by simp [c],bB _,(Row.made w bX n n (l.map dp)).qV⟩
section
variable {M:Nat->Prop} {w0 w:I} {L D:List En} {bs:List Nat}
def _root_.Go.W.LH.or (H:LH M w0 w L D) {l:List Int} {n:Nat} {K:aa} (j:n=l.length) (h:l.length<=1000000) (e:∀c,LH M w0 c L D->K (V (.int .i64 (dU l))) c):
  aN w (.cells (l.map dp).toArray bX) λq=>cU bs U w9 #[.slice (some (Addr.mk w.heap.size 0 none)) n n] q K:=
 (H.bA (Fr.alloc _ _ _)).aA (Sj (s:=⟨some (aj w.heap.size),n,n⟩) (R9 w l n j) h) λ_ c k d=>k▸e c d
end
mutual
def a8:Rx->Rx->Int
 |.mk d lo c l,b=>if dU [cv d b.k,cv lo.toNat b.lo.toNat,cv c.toNat b.hi.toNat]≠0 then dU [cv d b.k,cv lo.toNat b.lo.toNat,cv c.toNat b.hi.toNat] else cmpL l b.l
def cmpL:List Rx->List Rx->Int
 |[],[]=>0
 |[],_::_=>-1
 |_::_,[]=>1
 |a::l,b::m=>if a8 a b≠0 then a8 a b else cmpL l m
end
abbrev Ey (n:Nat):Prop:=∀(a b:J) (w:I),a.sz<=n->a.P w->b.P w->ai U bj #[a.v,b.v] w λr c=>r=V (.int .i64 (a8 a.rx b.rx))/\ao w c
def NG (n:Nat) (hn:n<=1000000) (T:Ey n) (h lb:List J) (k sb:O) (w:I) (F:bL 4 w k (h.flatMap J.c)) (G:bL 4 w sb (lb.flatMap J.c)) (Y:J.Ps w h) (Z:J.Ps w lb) (hs:J.aU h<=n):
  ai U B5 #[k.v,sb.v,.func (.func bj) #[] #[]] w λr D=>r=V (.int .i64 (cmpL (J.ax h) (J.ax lb)))/\ao w D:=by
 have na:=J.cj F;have nb:=J.cj G;have hl:=J.fi h;have loop:∀(d i:Nat) (z:I),i+d=h.length->i<=lb.length->cmpL (J.ax (h.drop i)) (J.ax (lb.drop i))=cmpL (J.ax h) (J.ax lb)->LH F0 w z [] [J.row k h,J.row sb lb,.trees h,.trees lb]->
   uT.aP k sb k ((k.n:Nat):Int) (i:Int) z λr D=>r=V (.int .i64 (cmpL (J.ax h) (J.ax lb)))/\ao w D:=by
  intro d;induction d with
  |zero=>
   intro i z N P e q;rw [dt (by omega)] at e;refine uT.bW _ _ _ _ _ _ _ (a9 (a0 (by omega)) (aR (λL=>⟨?_,q.fr⟩) (λL=>⟨?_,q.fr⟩)))
   .rw [dq (by omega)] at e;rw [<-e];rfl
   .rw [dt (by omega)] at e;rw [<-e];rfl
  |succ d W=>
   intro i z N P e q;have x:h[i]? =some (h[i]'(by omega)):=bc (by omega);rw [dq (by omega)] at e;generalize h[i]'(by omega)=a at x e;refine uT.bW _ _ _ _ _ _ _ (bd (aW (by omega)) ⟨by omega,by omega,?_⟩);refine J.cY (q.getD 0) x λp hp j=>⟨_,_,_,_,j.c0,j.c1,j.c2,j.c3,q.aL λb8 w2 A=>aR (λM=>A.au λw3 u=>⟨?_,u.fr⟩) (λQ=>⟨by omega,by omega,?_⟩)⟩
   .have ab:((sb.n:Nat):Int)<=(i:Int):=M;rw [dt (by omega:lb.length<=i)] at e;rw [<-e];rfl
   .have ac:¬((sb.n:Nat):Int)<=(i:Int):=Q;have y:lb[i]? =some (lb[i]'(by omega)):=bc (by omega);rw [dq (by omega:i<lb.length)] at e;generalize lb[i]'(by omega)=b at y e;refine J.cY (A.getD 1) y λad S _=>A.au λw3 u=>?_;have j:=J.again (u.getD 1) y S;refine ⟨_,_,_,_,j.c0,j.c1,j.c2,j.c3,u.aL λb9 w4 H=>H.au λw5 B=>?_⟩;have ae:=J.dV (aI x);refine B.aA (T a b w5 (by omega) (J.Ps.get (B.getD 2) x) (J.Ps.get (B.getD 3) y)) ?_;rintro _ w6 rfl E;have K:cmpL (J.ax (a::h.drop (i+1))) (J.ax (b::lb.drop (i+1)))=if a8 a.rx b.rx≠0 then a8 a.rx b.rx else cmpL (J.ax (h.drop (i+1))) (J.ax (lb.drop (i+1))):=rfl;rw [K] at e;refine ⟨_,rfl,dG (λC=>⟨?_,E.fr⟩) (λC=>?_)⟩
    .rw [aq C] at e;rw [e]
    .rw [af (by simpa using C)] at e;rw [bw _ (by omega)];exact W (i+1) w6 (by omega) (by omega) e (E.take 0)
 exact uT.aD _ _ w _ (loop h.length 0 w (by omega) (by omega) (by simp) (bZ _ (by
  intro aa e;simp only [aB,a1,a7] at e;rcases e with rfl|rfl|rfl|rfl
  .exact F
  .exact G
  .exact Y
  .exact Z)))
def Fe:∀c:Nat,c<=1000000->Ey c
 |0,_=>λa b z n _ _=>absurd n (by have:=J.kS a;omega)
 |c+1,T=>λa b z n u x=>by
  have H:=Fe c (by omega);have W:=J.hC a;have Q:=u.parts;have S:=x.parts;refine JK.aD _ _ _ _ _ _ _ _ z _ ((bZ [.tree a,.tree b] (by
   intro e q;simp only [aB,a1,a7] at q;rcases q with rfl|rfl
   .exact u
   .exact x)).aL λN Y A=>A.aL λO Z B=>B.au λK C=>C.aA (N8 _ _ K) ?_)
  rintro _ L rfl D;refine ⟨_,rfl,D.aA (FN _ _ L) ?_⟩;rintro _ M rfl E;refine ⟨_,rfl,E.aA (FN _ _ M) ?_⟩;rintro _ w6 rfl F;refine ⟨_,rfl,F.or (l:=[cv a.k b.k,cv a.lo.toNat b.lo.toNat,cv a.hi.toNat b.hi.toNat]) rfl (by simp) λj d=>?_⟩;have e:a8 a.rx b.rx=if dU [cv a.k b.k,cv a.lo.toNat b.lo.toNat,cv a.hi.toNat b.hi.toNat]≠0 then dU [cv a.k b.k,cv a.lo.toNat b.lo.toNat,cv a.hi.toNat b.hi.toNat] else cmpL (J.ax a.l) (J.ax b.l):=by rw [J.eQ a,J.eQ b];unfold a8;rfl
  refine ⟨_,rfl,dG (λh=>⟨?_,d.fr⟩) (λh=>?_)⟩
  .rw [e,aq h]
  .have w:a.P j:=d.getD 0;have y:b.P j:=d.getD 1;refine d.aA (NG c (by omega) H a.l b.l a.s b.s j w.parts.1 y.parts.1 w.parts.2 y.parts.2 (by omega)) ?_;rintro _ w8 rfl G;refine ⟨_,rfl,?_,G.fr⟩;rw [e,af (by simpa using h)]
def vT (a b:J) (w:I) (c:a.sz<=1000000) (d:a.P w) (e:b.P w):ai U bj #[a.v,b.v] w λr h=>r=V (.int .i64 (a8 a.rx b.rx))/\ao w h:=Fe 1000000 (bB _) a b w c d e
def sM (a b:J) (w:I) (j:a.sz<=1000000) (k:a.P w) (n:b.P w):ai U j' #[a.v,b.v] w λr q=>r=V (.bool (a8 a.rx b.rx==0))/\ao w q:=by
 refine JP.aD _ _ _ _ _ _ _ _ w _ ((bZ [.tree a,.tree b] (by
  intro z d;simp only [aB,a1,a7] at d;rcases d with rfl|rfl
  .exact k
  .exact n)).aL λx A e=>e.aL λy u c=>c.aA (vT a b u j (c.getD 0) (c.getD 1)) ?_)
 rintro _ B rfl h;exact ⟨_,rfl,rfl,h.fr⟩
namespace uD
noncomputable abbrev X:Fx:=⟨U,Tryz.f149,[],[2]⟩
abbrev P0:Ps:=[(1,.v [.I]),(2,.l [.I,.Y,.Y,.s] aK),(5,.v [.I])]
def b6 (d:Int) (e:Nat) (h j k:Int) (n:O) (c:Int) (w:I) (R:aa):Prop:=br P0 0 (X.Sem (ak [0,1,1,1,2])) d e h j k n c w R
noncomputable def cC:=bD X (ak [0,1,1,1,2]) P0 b6::[]
abbrev aY (c:Int) (w:I) (R:aa):Prop:=
 R (V (.i c)) w
noncomputable def bm:=aC X cC (ak [3]) [(1,.v [.I])] aY::cC
def eV:∀(d:Int) (h:Nat) (j k q:Int) (e:O) (c:Int) (w:I) (R:aa) (C:Y (ah (c<((e.n:Nat):Int))) (Y (ah (d>=0)) (aw e c λu=>aV w (u.add (ag c *4)) λx y z A=>b0 [h] xr #[.agg #[.i x,.int .u8 y,.int .u8 z,A.v],.i d] w λt25 B=>b6 t25 h j k q e (ab .i64 (c+1)) B R) (aY d w R)) (aY d w R)),b6 d h j k q e c w R:=mp (bF (X:=X) bm (ak [0,1,1,1,2]) P0)
abbrev aQ (c:Int) (d:Nat) (e h j:Int) (k:O) (w:I) (R:aa):Prop:=
 b6 c d e h j k 0 w R
noncomputable def bf:=aC X bm (ak [2]) [(1,.v [.I]),(2,.l [.I,.Y,.Y,.s] aK)] aQ::bm
def aD (d e h:Int) (j:O) (c:Int) (w:I) (R:aa) (n:aJ [] w λk q=>
 aQ (ab .i64 (c - 1)) k d e h j q R):ai U xr #[.agg #[.i d,.int .u8 e,.int .u8 h,j.v],.i c] w R:=aE X bf n
end uD
namespace J9
noncomputable abbrev X:Fx:=⟨U,Tryz.f131,[],[1]⟩
def aD (c d e:Int) (h:O) (w:I) (R:aa) (k:aJ [] w λj q=>
 b0 [j] xr #[.agg #[.i c,.int .u8 d,.int .u8 e,h.v],.i 64] q λn u=>R (V (.bool (ah (n<0)))) u):ai U ub #[.agg #[.i c,.int .u8 d,.int .u8 e,h.v]] w R:=aE X [] k
end J9
namespace lE
noncomputable abbrev X:Fx:=⟨U,Tryz.f150,[],[1,4]⟩
abbrev P0:Ps:=[]
abbrev aQ (w:I) (R:aa):Prop:=
 R (V (.bool false)) w
noncomputable def bf:=aC X [] (ak [0,1,1,1,1]) P0 aQ::[]
abbrev P1:Ps:=[(1,.l [.I,.Y,.Y,.s] aK)]
abbrev aY (d:Nat) (e h j:Int) (c:O) (w:I) (R:aa):Prop:=
 R (V (.bool (((c.n:Nat):Int)==0))) w
noncomputable def bm:=aC X bf (ak [0,1,1,1,1,1,2]) P1 aY::bf
abbrev P2:Ps:=[(52,.v [.s]),(53,.v [.I]),(54,.v [.I])]
def hc (t52:O) (t53 t54:Int) (w:I) (R:aa):Prop:=br P2 0 (X.Sem (ak [0,1,1,1,3])) t52 t53 t54 w R
noncomputable def lh:=bD X (ak [0,1,1,1,3]) P2 hc::bm
def mP:∀(t52:O) (t53 t54:Int) (w:I) (R:aa) (x:Y (ah (t54<t53)) (aw t52 t54 λe=>aV w (e.add (ag t54 *4)) λh j k n=>aJ [] w λc q=>
 loc [c] q λu=>bM [c] xA #[.agg #[.i h,.int .u8 j,.int .u8 k,n.v]] u λt59 d=>Y (!t59) (R (V (.bool false)) d) (hc t52 t53 (ab .i64 (t54+1)) d R)) (R (V (.bool true)) w)),hc t52 t53 t54 w R:=mp (bF (X:=X) lh (ak [0,1,1,1,3]) P2)
abbrev cB (d:Nat) (e h j:Int) (c:O) (w:I) (R:aa):Prop:=
 hc c ((c.n:Nat):Int) 0 w R
noncomputable def cZ:=aC X lh (ak [3]) P1 cB::lh
abbrev jz (d:Nat) (e h j:Int) (c:O) (w:I) (R:aa):Prop:=
 Y (((c.n:Nat):Int) !=1) (R (V (.bool false)) w) (cB d e h j c w R)
noncomputable def gG:=aC X cZ (ak [0,1,7,1,1,1,2]) P1 jz::cZ
abbrev nO (w:I) (R:aa):Prop:=
 R (V (.bool false)) w
noncomputable def lj:=aC X gG (ak [8,1,1,1,2]) P0 nO::gG
abbrev P3:Ps:=[(1,.l [.I,.Y,.Y,.s] aK),(19,.v [.I])]
abbrev fj (c:Nat) (d e h:Int) (j:O) (t19:Int) (w:I) (R:aa):Prop:=
 Y (t19==6) (Y (t19==6) (jz c d e h j w R) (nO w R)) (Y (t19==7) (jz c d e h j w R) (nO w R))
noncomputable def hh:=aC X lj (ak [6,1,1,1,2]) P3 fj::lj
abbrev bh (h:Nat) (j c d:Int) (e:O) (t19:Int) (w:I) (R:aa):Prop:=
 Y (t19==2) (Y (((e.n:Nat):Int)==0) (R (V (.bool (ah (c<=d)))) w) (R (V (.bool false)) w)) (Y (t19==3) (Y (t19==3) (cB h j c d e w R) (fj h j c d e t19 w R)) (Y (t19==4) (Y (t19==4) (cB h j c d e w R) (fj h j c d e t19 w R)) (Y (t19==5) (cB h j c d e w R) (fj h j c d e t19 w R))))
noncomputable def bt:=aC X hh (ak [2,1,1,1,2]) P3 bh::hh
abbrev a2 (d:Nat) (c e h:Int) (j:O) (w:I) (R:aa):Prop:=
 Y (c==0) (Y (c==0) (aY d c e h j w R) (bh d c e h j c w R)) (Y (c==1) (aY d c e h j w R) (bh d c e h j c w R))
noncomputable def bg:=aC X bt (ak [2]) P1 a2::bt
def aD (c d e:Int) (j:O) (w:I) (R:aa) (n:aJ [] w λk h=>
 Y (c !=2) (Y (d !=0) (aQ h R) (Y (e !=0) (aQ h R) (a2 k c d e j h R))) (a2 k c d e j h R)):ai U xA #[.agg #[.i c,.int .u8 d,.int .u8 e,j.v]] w R:=aE X bg n
end lE
namespace JN
noncomputable abbrev X:Fx:=⟨U,Tryz.f132,[],[1]⟩
def aD (c d e:Int) (h:O) (w:I) (R:aa) (q:aJ [] w λj y=>
 bM [j] ub #[.agg #[.i c,.int .u8 d,.int .u8 e,h.v]] y λu k=>Y u (R (V (.i 4)) k) (bM [j] xA #[.agg #[.i c,.int .u8 d,.int .u8 e,h.v]] k λx n=>Y (!x) (R (V (.i 1)) n) (R (V (.i 0)) n))):ai U xq #[.agg #[.i c,.int .u8 d,.int .u8 e,h.v]] w R:=aE X [] q
end JN
namespace uC
noncomputable abbrev X:Fx:=⟨U,Tryz.f151,[],[1,2,5]⟩
abbrev P0:Ps:=[(1,.l [.I,.Y,.Y,.s] aK),(2,.l [.I,.Y,.Y,.s] aK),(3,.v [.s]),(7,.v [.s]),(8,.v [.I]),(9,.v [.I])]
def aP (d:Nat) (e h j:Int) (k:O) (t2:Nat) (n q u:Int) (x c y:O) (z A:Int) (w:I) (R:aa):Prop:=br P0 0 (X.Sem (ak [0,1,1,1,2])) d e h j k t2 n q u x c y z A w R
noncomputable def aZ:=bD X (ak [0,1,1,1,2]) P0 aP
def bW:∀(c:Nat) (j k n:Int) (y:O) (t2:Nat) (z A B:Int) (C h q:O) (u d:Int) (w:I) (R:aa) (W:Y (ah (d<u)) (aw q d λF=>aV w (F.add (ag d *4)) λG H J K=>aJ [c,t2] w λe S=>
 loc [c,t2,e] S λT=>ez [c,t2,e] tW #[.agg #[.i G,.int .u8 H,.int .u8 J,K.v]] T λL M N P D=>aN D (.cells #[.i L,.int .u8 M,.int .u8 N,P.v] aK) λE=>
 ∃(t17:O) (x:I),a6 U (bb #[cw,cw] cw #[h.v,.slice (some (nb D)) 1 1]) E=.ok (t17.v) x/\kept [c,t2,e] E x/\aP c j k n y t2 z A B C t17 q u (ab .i64 (d+1)) x R) (loc [c,t2] w λQ=>R (V (.agg #[.i j,.int .u8 k,.int .u8 n,h.v])) Q)),aP c j k n y t2 z A B C h q u d w R:=mp (bF (X:=X) [aZ] (ak [0,1,1,1,2]) P0)
def aD (e h j:Int) (c:O) (w:I) (R:aa) (q:aJ [] w λd u=>
 aJ [d] u λk x=>
 aP d e h j c k 0 0 0 ⟨none,0,0⟩ ⟨none,0,0⟩ c ((c.n:Nat):Int) 0 x R):ai U tW #[.agg #[.i e,.int .u8 h,.int .u8 j,c.v]] w R:=aE X [aZ] q
end uC
namespace J0
noncomputable abbrev X:Fx:=⟨U,Tryz.f133,[],[1,2]⟩
def aD (e h j:Int) (k:O) (w:I) (R:aa) (q:aJ [] w λc B=>
 aJ [c] B λd D=>
 bM [c,d] ub #[.agg #[.i e,.int .u8 h,.int .u8 j,k.v]] D λu n=>Y u (loc [c,d] n λE=>R (V (.tuple #[.agg #[.i 0,.int .u8 0,.int .u8 0,.slice none 0 0],.i 4])) E) (ez [c,d] tW #[.agg #[.i e,.int .u8 h,.int .u8 j,k.v]] n λx y z A F=>loc [c,d] F λC=>R (V (.tuple #[.agg #[.i x,.int .u8 y,.int .u8 z,A.v],.i 0])) C)):ai U B0 #[.agg #[.i e,.int .u8 h,.int .u8 j,k.v]] w R:=aE X [] q
end J0
def gq {w:I} {t:J} (d:t.P w):LH F0 w w [] [.tree t]:=bZ _ (by intro e c;simp only [aB,a1,a7] at c;subst c;exact d)
def fD (w:I) (x:Rx) (r:dA) (w':I):Prop:=∃t:J,r=V t.v/\t.rx=x/\t.P w'/\∀b∈t.fp,w.heap.size<=b
section
variable {M:Nat->Prop} {w0 w:I} {L D:List En} {bs:List Nat}
def _root_.Go.W.LH.p9 (H:LH M w0 w L D) (i j:Nat) {ts:List J} {t:J} (hi:D[i]? =some (.trees ts):=by rfl) (e:D[j]? =some (.tree t):=by rfl):LH M w0 w L (D++[.trees (ts++[t])]):=by
 refine H.fo _ (Fr.refl _ _) (J.hS λh c=>?_) λb k=>.inr (.inr ?_)
 .rcases a5.1 c with c|c
  .exact J.Ps.mem (H.getD i hi) c
  .simp at c;subst c;exact H.getD j e
 .obtain ⟨h,c,d⟩:=J.bR.1 (aT.1 k);rcases a5.1 c with c|c
  .exact ⟨_,aI hi,aT.2 (J.bR.2 ⟨h,c,d⟩)⟩
  .simp at c;rw [c] at d;exact ⟨_,aI e,aT.2 d⟩
def gb {e:aG} {s:O} {vs:List ae} {b:Nat} (c:b∈(En.bz 4 s vs).fp):b∈(En.row e 4 s vs).fp:=by
 have:b∈(if vs=[] then [] else ay s):=c;split at this
 .cases this
 .exact this
def _root_.Go.W.LH.pS (H:LH M w0 w L D) (i j:Nat) {e:aG} {s:O} {ts:List J} (k:Int) (lo hi:UInt8) (n:L[i]? =some (.row e 4 s (ts.flatMap J.c)):=by rfl) (q:D[j]? =some (.trees ts):=by rfl):LH M w0 w (L.eraseIdx i) (D++[J.row s ts]++[.tree (.mk k lo hi s ts)]):=by
 have u:=H.freeze i (J.row s ts) n (aS.bz (H.get i n)) λb h=>gb h;refine u.fo _ (Fr.refl _ _) ?_ λb h=>.inr (.inr ?_)
 .show J.P w _;unfold J.P;exact ⟨aS.bz (H.get i n),H.getD j q⟩
 .have d:=aT.1 h;unfold J.fp at d;rcases a5.1 d with d|d
  .exact ⟨_,eP _ (by simp),d⟩
  .exact ⟨_,cW _ (aI q),aT.2 d⟩
end
def qP (l:List J):∀e∈l.flatMap J.c,e.oneCell'=true:=λe h=>by obtain ⟨j,_,d⟩:=ch.1 h;simp only [J.c,aB,a1,a7] at d;rcases d with rfl|rfl|rfl|rfl<;>rfl
def pf:gy U cw aK (.agg #[.int .i64 0,.int .u8 0,.int .u8 0,.slice none 0 0]) 4 40:=⟨by kernel_rfl,by kernel_rfl,rfl,by decide,by decide⟩
def kD (l:List J) (t:J):(l++[t]).flatMap J.c=l.flatMap J.c++t.c:=by simp
def jm (l m:List J):J.ax (l++m)=J.ax l++J.ax m:=by simp [J.fh]
def r6:∀(l m:List J),J.aU (l++m)=J.aU l+J.aU m
 |[],m=>by simp [J.aU]
 |t::l,m=>by show t.sz+J.aU (l++m)=t.sz+J.aU l+J.aU m;rw [r6 l m];omega
def yD (l:List J) (i:Nat):J.aU (l.take i)<=J.aU l:=by have:=r6 (l.take i) (l.drop i);rw [List.take_append_drop] at this;omega
abbrev MG (n:Nat):Prop:=∀(t:J) (x:Nat) (w:I),t.sz<=n->x<=1000000->t.P w->ai U xr #[t.v,.int .i64 (x:Int)] w λr c=>r=V (.int .i64 (max ((x:Int) - t.sz) (-1)))/\ao w c
def Fq:∀u:Nat,u<=1000000->MG u
 |0,_=>λt x w A _ _=>absurd A (by have:=J.kS t;omega)
 |u+1,Y=>λt x w A hx Q=>by
  have M:=Fq u (by omega);have H:=J.hC t;have W:=J.fi t.l;have loop:∀(d i:Nat) (y:Int) (j:Nat) (c:I),i+d=t.l.length->-1<=y->y<=1000000->max (y - J.aU (t.l.drop i)) (-1)=max ((x:Int) - t.sz) (-1)->LH F0 w c [.g j] [.tree t]->
    uD.b6 y j t.k t.lo.toNat t.hi.toNat t.s (i:Int) c λr S=>r=V (.int .i64 (max ((x:Int) - t.sz) (-1)))/\ao w S:=by
   intro d;induction d with
   |zero=>
    intro i y j c G K L e h;have O:=J.cj (show t.P c from h.getD 0).parts.1;rw [dt (by omega)] at e;refine uD.eV _ _ _ _ _ _ _ _ _ (a9 (a0 (by omega)) ⟨?_,h.fr⟩);rw [<-e];congr 2;simp only [J.aU];omega
   |succ d N=>
    intro i y j c G K L e h;have O:=J.cj (show t.P c from h.getD 0).parts.1;have q:t.l[i]? =some (t.l[i]'(by omega)):=bc (by omega);rw [dq (by omega)] at e;generalize t.l[i]'(by omega)=a at q e;have aa:=J.dV (aI q);unfold J.aU at e;refine uD.eV _ _ _ _ _ _ _ _ _ (bd (aW (by omega)) (aR (λz=>⟨by omega,by omega,?_⟩) (λz=>⟨?_,h.fr⟩)))
    .have C:t.P c:=h.getD 0;refine J.cY C.parts.1 q λp Z n=>⟨_,_,_,_,n.c0,n.c1,n.c2,n.c3,?_⟩;have B:0<=y:=z;obtain ⟨m,rfl⟩:=Int.eq_ofNat_of_zero_le B;refine h.aA (M a m c (by omega) (by omega) (C.parts.2.get q)) ?_;rintro _ T rfl E;refine ⟨_,rfl,?_⟩;rw [bw _ (by omega)];refine N (i+1) _ j T (by omega) (by omega) (by omega) ?_ E;rw [<-e];omega
    .have B:¬0<=y:=z;rw [<-e];have:y=-1:=by omega
     subst this;congr 2;omega
  have F:ab .i64 ((x:Int) - 1)=(x:Int) - 1:=a4 _ (by omega);refine uD.aD _ _ _ _ _ w _ ((gq Q).aL λj c D=>?_);rw [F];refine loop t.l.length 0 _ j c (by omega) (by omega) (by omega) ?_ D;rw [List.drop_zero,H];omega
def zU (t:J) (w:I) (e:t.sz<=1000000) (h:t.P w):ai U ub #[t.v] w λr j=>r=V (.bool (ah (64<t.sz)))/\ao w j:=by refine J9.aD _ _ _ _ w _ ((gq h).aL λn k c=>c.aA (Fq 1000000 (bB _) t 64 k e (by omega) (c.getD 0)) ?_);rintro _ q rfl d;refine ⟨_,rfl,?_,d.fr⟩;congr 2;exact decide_eq_decide.2 (by omega)
mutual
def cq:Rx->Bool
 |.mk c lo d l=>!(c !=2&&(lo !=0||d !=0))&&(if c=0\/c=1 then l.isEmpty else if c=2 then l.isEmpty&&ah (lo.toNat<=d.toNat) else if c=3\/c=4\/c=5 then dk l else if c=6\/c=7 then l.length==1&&dk l else false)
def dk:List Rx->Bool
 |[]=>true
 |t::l=>cq t&&dk l
end
abbrev MV (n:Nat):Prop:=∀(t:J) (w:I),t.sz<=n->t.P w->ai U xA #[t.v] w λr c=>r=V (.bool (cq t.rx))/\ao w c
def Ao (l:List J):(J.ax l).isEmpty=(((l.length:Nat):Int)==0):=by
 rw [J.fh];cases l with
 |nil=>rfl
 |cons a l=>
  simp;omega
def FD:∀G:Nat,G<=1000000->MV G
 |0,_=>λt j aa _=>absurd aa (by have:=J.kS t;omega)
 |G+1,D=>λt j aa pt=>by
  have ih:=FD G (by omega);have hs:=J.hC t;have hl:=J.fi t.l;have H:=J.cj pt.parts.1;have loop:∀(b:Bool),cq t.rx=(b&&dk (J.ax t.l))->b=true->∀(d i:Nat) (e:I),i+d=t.l.length->dk (J.ax (t.l.drop i))=dk (J.ax t.l)->LH F0 j e [] [.tree t]->
    lE.hc t.s ((t.s.n:Nat):Int) (i:Int) e λr h=>r=V (.bool (cq t.rx))/\ao j h:=by
   intro b q ab d;subst ab;rw [Bool.true_and] at q;induction d with
   |zero=>
    intro i e ac w z;rw [dt (by omega)] at w;refine lE.mP _ _ _ _ _ (a9 (a0 (by omega)) ⟨?_,z.fr⟩);rw [q,<-w];rfl
   |succ d ad=>
    intro i e ac w z;have C:t.l[i]? =some (t.l[i]'(by omega)):=bc (by omega);rw [dq (by omega)] at w;generalize t.l[i]'(by omega)=a at C w;have ag:=J.dV (aI C);have Q:(cq a.rx&&dk (J.ax (t.l.drop (i+1))))=dk (J.ax t.l):=w;have ae:t.P e:=z.getD 0;refine lE.mP _ _ _ _ _ (bd (aW (by omega)) ⟨by omega,by omega,?_⟩);refine J.cY ae.parts.1 C λp hp A=>⟨_,_,_,_,A.c0,A.c1,A.c2,A.c3,z.aL λb4 w2 H2=>H2.au λw3 Z=>Z.aA (ih a w3 (by omega) ((show t.P w3 from Z.getD 0).parts.2.get C)) ?_⟩;rintro _ w4 rfl H4;refine ⟨_,rfl,dM (λhf=>⟨?_,H4.fr⟩) (λht=>?_)⟩
    .rw [q,<-Q,hf];rfl
    .rw [bw _ (by omega)];rw [ht,Bool.true_and] at Q;exact ad (i+1) w4 (by omega) Q (H4.take 0)
  have er:=J.eQ t;have K:∀x:UInt8,(((x.toNat:Nat):Int) !=0)=(x !=0):=λx=>by
   by_cases W:x=0
   .subst W;rfl
   .have O:(x !=0)=true:=by simpa using W
    rw [O];have:x.toNat≠0:=λN=>W (UInt8.toNat_inj.1 (by simpa using N));simp;omega
  refine lE.aD _ _ _ _ j _ ((gq pt).aL λu e Y=>?_);have out:∀b:Bool,cq t.rx=b->(Ending.returned (.bool b)=V (.bool (cq t.rx))/\ao j e):=λb q=>⟨by rw [q],Y.fr⟩;have L:cq t.rx=dk (J.ax t.l)->lE.cB u t.k t.lo.toNat t.hi.toNat t.s e λr h=>r=V (.bool (cq t.rx))/\ao j h:=λq=>loop true (by rw [q];rfl) rfl t.l.length 0 e (by omega) (by simp) (Y.take 0);have s1:(t.k !=2&&(t.lo !=0||t.hi !=0))=false->lE.a2 u t.k t.lo.toNat t.hi.toNat t.s e λr h=>r=V (.bool (cq t.rx))/\ao j h:=by
   intro N;have y:cq t.rx=(if t.k=0\/t.k=1 then (J.ax t.l).isEmpty else if t.k=2 then (J.ax t.l).isEmpty&&ah (t.lo.toNat<=t.hi.toNat) else if t.k=3\/t.k=4\/t.k=5 then dk (J.ax t.l) else if t.k=6\/t.k=7 then (J.ax t.l).length==1&&dk (J.ax t.l) else false):=by rw [er];unfold cq;rw [N];rfl
   have s2:t.k=0\/t.k=1->lE.aY u t.k t.lo.toNat t.hi.toNat t.s e λr h=>r=V (.bool (cq t.rx))/\ao j h:=λc=>out _ (by rw [y,aq c,Ao,H]);have s7:t.k=6\/t.k=7->lE.jz u t.k t.lo.toNat t.hi.toNat t.s e λr h=>r=V (.bool (cq t.rx))/\ao j h:=λc=>by
    have e7:cq t.rx=((J.ax t.l).length==1&&dk (J.ax t.l)):=by rw [y,af (by omega),af (by omega),af (by omega),aq c]
    have el:(J.ax t.l).length=t.s.n:=by rw [J.fh];simp [H]
    refine dG (λO=>out false ?_) (λO=>L ?_)
    .rw [e7,el];have:(t.s.n==1)=false:=by simp;omega
     rw [this];rfl
    .rw [e7,el];have:(t.s.n==1)=true:=by simp;omega
     rw [this];rfl
   have s6:t.k≠0->t.k≠1->t.k≠2->t.k≠3->t.k≠4->t.k≠5->lE.fj u t.k t.lo.toNat t.hi.toNat t.s t.k e λr h=>r=V (.bool (cq t.rx))/\ao j h:=λE F k2 k3 k4 k5=>
    aO (λc=>bd (by simp [c]) (s7 (.inl c))) (λk6=>aO (λc=>s7 (.inr c)) (λk7=>out false (by rw [y,af (by omega),af (by omega),af (by omega),af (by omega)])))
   have M:t.k=3\/t.k=4\/t.k=5->cq t.rx=dk (J.ax t.l):=λc=>by rw [y,af (by omega),af (by omega),aq c]
   have s3:t.k≠0->t.k≠1->lE.bh u t.k t.lo.toNat t.hi.toNat t.s t.k e λr h=>r=V (.bool (cq t.rx))/\ao j h:=λE F=>
    aO (λc=>by
     have e2:cq t.rx=((J.ax t.l).isEmpty&&ah (t.lo.toNat<=t.hi.toNat)):=by rw [y,af (by omega),aq c]
     refine bE (λD=>out _ ?_) (λD=>out false ?_)
     .rw [e2,Ao,<-H,D,Bool.true_and];exact decide_eq_decide.2 (by omega)
     .rw [e2,Ao,<-H,D];rfl)
    (λk2=>aO (λc=>bd (by simp [c]) (L (M (.inl c)))) (λk3=>aO (λc=>bd (by simp [c]) (L (M (.inr (.inl c))))) (λk4=>aO (λc=>L (M (.inr (.inr c)))) (λk5=>s6 E F k2 k3 k4 k5))))
   exact aO (λc=>bd (by simp [c]) (s2 (.inl c))) (λE=>aO (λc=>s2 (.inr c)) (λF=>s3 E F))
  have bad:(t.k !=2&&(t.lo !=0||t.hi !=0))=true->cq t.rx=false:=λq=>by rw [er];unfold cq;rw [q];rfl
  refine bE (λB=>bE (λT=>out false (bad ?_)) (λT=>bE (λS=>out false (bad ?_)) (λS=>s1 ?_))) (λB=>s1 ?_)
  .rw [B,<-K,T];rfl
  .rw [B,<-K t.hi,S];simp
  .rw [<-K,<-K,T,S];simp
  .rw [B];rfl
def iY (x:Rx):Int:=if 64<x.sz then 4 else if cq x then 0 else 1
def Fk (t:J) (w:I) (k:t.sz<=1000000) (n:t.P w):ai U xq #[t.v] w λr q=>r=V (.int .i64 (iY t.rx))/\ao w q:=by
 refine JN.aD _ _ _ _ w _ ((gq n).aL λy u h=>h.aA (zU t u k (h.getD 0)) ?_);rintro _ x rfl d;refine ⟨_,rfl,aR (λc=>⟨?_,d.fr⟩) (λc=>d.aA (FD 1000000 (bB _) t x k (d.getD 0)) ?_)⟩
 .unfold iY;rw [J.ed,aq c]
 rintro _ z rfl j;refine ⟨_,rfl,dM (λe=>⟨?_,j.fr⟩) (λe=>⟨?_,j.fr⟩)⟩
 .unfold iY;rw [J.ed,af c,e];rfl
 .unfold iY;rw [J.ed,af c,e];rfl
abbrev MH (n:Nat):Prop:=∀(t:J) (w:I),t.sz<=n->t.P w->ai U tW #[t.v] w λr c=>fD w t.rx r c/\ao w c
def Fp:∀E:Nat,E<=1000000->MH E
 |0,_=>λt w M _=>absurd M (by have:=J.kS t;omega)
 |E+1,hn=>λt w M Q=>by
  have ih:=Fp E (by omega);have hs:=J.hC t;have hl:=J.fi t.l;have nr:=J.cj Q.parts.1;have loop:∀(d i:Nat) (ks:List J) (A:O) (j q:Nat) (x:I),i+d=t.l.length->ks.length=i->J.ax ks=J.ax (t.l.take i)->(∀b∈J.a' ks,w.heap.size<=b)->LH F0 w x [.g j,.g q,.row aK 4 A (ks.flatMap J.c)] [.tree t,.trees ks]->
    uC.aP j t.k t.lo.toNat t.hi.toNat t.s q 0 0 0 ⟨none,0,0⟩ A t.s ((t.s.n:Nat):Int) (i:Int) x λr T=>fD w t.rx r T/\ao w T:=by
   intro d;induction d with
   |zero=>
    intro i ks A j q x aa N H K B;refine uC.bW _ _ _ _ _ _ _ _ _ _ _ _ _ _ _ _ (a9 (a0 (by omega)) (B.au λF h=>⟨⟨.mk t.k t.lo t.hi A ks,rfl,?_,?_,λb e=>?_⟩,h.fr⟩))
    .rw [J.eQ t];unfold J.rx;rw [H,e1 (by omega)]
    .unfold J.P;exact ⟨aS.bz (h.get 2),h.getD 1⟩
    .unfold J.fp at e;rcases a5.1 e with e|e
     .exact (h.new _ (aI (i:=2) rfl) b (gb e)).resolve_right id
     .exact K b e
   |succ d ab=>
    intro i ks A j q x aa N H K B;have z:t.l[i]? =some (t.l[i]'(by omega)):=bc (by omega);generalize t.l[i]'(by omega)=a at z;have ae:=J.dV (aI z);have ac:t.P x:=B.getD 0;refine uC.bW _ _ _ _ _ _ _ _ _ _ _ _ _ _ _ _ (bd (aW (by omega)) ⟨by omega,by omega,?_⟩);refine J.cY ac.parts.1 z λp hp D=>⟨_,_,_,_,D.c0,D.c1,D.c2,D.c3,B.aL λb5 F h=>h.au λW y=>y.jF (ih a W (by omega) ((show t.P W from y.getD 0).parts.2.get z)) ?_⟩;rintro _ w4 ⟨S,rfl,hu,pu,L⟩ _ Y;have C:=Y.rd (.tree S) pu λb e=>L b (aT.1 e);have ad:=J.cj (C.get 2:aS _ _ _ _ _).bz;refine ⟨_,_,_,_,rfl,C.i5 2 pf rfl (λs' w5 H5=>?_) (by omega)⟩;have H6:=(H5.p9 1 2).take 3;rw [bw _ (by omega)];refine ab (i+1) (ks++[S]) s' j q w5 (by omega) (by simp [N]) ?_ ?_ ?_
    .rw [jm,H,gC,z,jm];simp [J.ax,hu]
    .intro b e;obtain ⟨t',u,G⟩:=J.bR.1 e;rcases a5.1 u with u|u
     .exact K b (J.bR.2 ⟨t',u,G⟩)
     .simp at u;rw [u] at G;exact bH y.fr.size (L b G)
    .rw [kD];exact H6.forget _ (by simp)
  refine uC.aD _ _ _ _ w _ ((gq Q).aL λj x Z=>Z.aL λq F h=>?_);have y:=h.jP aK 4;have C:=y.fo (.trees []) (Fr.refl _ _) (by show J.Ps F [];unfold J.Ps;trivial) (λb e=>by have:=aT.1 e;unfold J.a' at this;cases this)
  exact loop t.l.length 0 [] ⟨none,0,0⟩ j q F (by omega) rfl rfl (λb e=>by unfold J.a' at e;cases e) C
def NW (t:J) (w:I) (d:t.sz<=1000000) (e:t.P w):ai U tW #[t.v] w λr c=>fD w t.rx r c/\ao w c:=Fp 1000000 (bB _) t w d e
def fg:Rx:=.mk 0 0 0 []
def m7 (x:Rx):Int:=if 64<x.sz then 4 else 0
def mc (x:Rx):Rx:=if 64<x.sz then fg else x
def EN (w:I) (x:Rx) (c:Int) (r:dA) (w':I):Prop:=∃t:J,r=V (.tuple #[t.v,.int .i64 c])/\t.rx=x/\t.P w'/\∀b∈t.fp,w.heap.size<=b
def II (w:I):(J.mk 0 0 0 ⟨none,0,0⟩ []).P w:=by unfold J.P J.Ps;exact ⟨bL.nil 4 w,trivial⟩
def IG {b:Nat} (c:b∈(J.mk 0 0 0 ⟨none,0,0⟩ []).fp):False:=by unfold J.fp J.a' at c;simp [En.bz] at c
def Ob (t:J) (w:I) (q:t.sz<=1000000) (B:t.P w):ai U B0 #[t.v] w λr x=>EN w (mc t.rx) (m7 t.rx) r x/\ao w x:=by
 refine J0.aD _ _ _ _ w _ ((gq B).aL λG K z=>z.aL λH D j=>j.aA (zU t D q (j.getD 0)) ?_);rintro _ E rfl e;refine ⟨_,rfl,aR (λd=>e.au λF h=>⟨⟨.mk 0 0 0 ⟨none,0,0⟩ [],?_,?_,II _,λb c=>(IG c).elim⟩,h.fr⟩) (λd=>e.jF (NW t E q (e.getD 0)) ?_)⟩
 .unfold m7;rw [J.ed,aq d];rfl
 .unfold mc;rw [J.ed,aq d];rfl
 rintro _ F ⟨u,rfl,A,C,n⟩ _ y;have h:=y.rd (.tree u) C λb c=>n b (aT.1 c);refine ⟨_,_,_,_,rfl,h.au λL k=>⟨⟨u,?_,?_,k.getD 1,λb c=>bH e.fr.size (n b c)⟩,k.fr⟩⟩
 .unfold m7;rw [J.ed,af d]
 .unfold mc;rw [J.ed,af d,A]
namespace JQ
noncomputable abbrev X:Fx:=⟨U,Tryz.f171,[],[2]⟩
def aD (c d e:Int) (h:O) (j:Addr) (w:I) (R:aa) (q:aJ [] w λn k=>
 aV k j λu x y z=>bM [n] j' #[.agg #[.i c,.int .u8 d,.int .u8 e,h.v],.agg #[.i u,.int .u8 x,.int .u8 y,z.v]] k λA B=>R (V (.bool A)) B):ai U nf #[.agg #[.i c,.int .u8 d,.int .u8 e,h.v],.pointer (some j)] w R:=aE X [] q
end JQ
namespace uV
noncomputable abbrev X:Fx:=⟨U,Tryz.f172,[],[]⟩
abbrev P0:Ps:=[(0,.v [.s]),(1,.v [.f]),(7,.v [.I]),(8,.v [.I])]
def L0 (d:O) (c:Fv) (e h:Int) (w:I) (R:aa):Prop:=br P0 0 (X.Sem (ak [0,1,1,1,1])) d c e h w R
noncomputable def aZ:=bD X (ak [0,1,1,1,1]) P0 L0
def b5:∀(e:O) (c:Fv) (h d:Int) (w:I) (R:aa) (A:Y (ah (d<h)) (aw e d λq=>aV w (q.add (ag d *4)) λu x y z=>cH (gF U c.n) (ai U c.n (c.bs++#[.agg #[.i u,.int .u8 x,.int .u8 y,z.v]]++c.cs) w λk j=>∃t16:Bool,k=V (.bool t16)/\
 Y t16 (R (V (.i d)) j) (L0 e c h (ab .i64 (d+1)) j R))) (R (V (.i (-1))) w)),L0 e c h d w R:=mp (bF (X:=X) [aZ] (ak [0,1,1,1,1]) P0)
def ok (c:O) (d:Fv) (w:I) (R:aa) (e:L0 c d ((c.n:Nat):Int) 0 w R):ai U xD #[c.v,d.v] w R:=aE X [aZ] e
end uV
namespace KI
noncomputable abbrev X:Fx:=⟨U,Tryz.f156,[],[]⟩
def ok (d:O) (c:Fv) (w:I) (R:aa) (e:di xD #[d.v,c.v] w λh j=>R (V (.bool (ah (h>=0)))) j):ai U B6 #[d.v,c.v] w R:=aE X [] e
end KI
namespace pZ
noncomputable abbrev X:Fx:=⟨U,Tryz.f170,[],[7]⟩
abbrev P0:Ps:=[(0,.v [.s]),(1,.v [.g nf 0 1,.r]),(5,.v [.I]),(6,.v [.I])]
def aP (h:O) (c:Addr) (d e:Int) (w:I) (R:aa):Prop:=br P0 0 (X.Sem (ak [0,1,1,1,3])) h c d e w R
noncomputable def aZ:=bD X (ak [0,1,1,1,3]) P0 aP::[]
abbrev a2 (h:O) (c:Addr) (d e:Int) (w:I) (R:aa):Prop:=
 aP h c d (ab .i64 (e+1)) w R
noncomputable def bg:=aC X aZ (ak [2,2,1,1,3]) P0 a2::aZ
def bW:∀(e:O) (k:Addr) (d j:Int) (w:I) (R:aa) (K:Y (ah (j<((e.n:Nat):Int))) (aw e j λG=>aV w (G.add (ag j *4)) λA B C D=>aJ [] w λh H=>
 loc [h] H λJ=>bM [h] nf #[.agg #[.i A,.int .u8 B,.int .u8 C,D.v],.pointer (some k)] J λt28 x=>Y (!t28) (aw e d λq=>av x (q.add (ag d *4)) (.i A) λy=>kept [h] x y/\
 av y ((q.add (ag d *4)).add 1) (.int .u8 B) λz=>kept [h] y z/\
 av z ((q.add (ag d *4)).add 2) (.int .u8 C) λu=>kept [h] z u/\
 av u ((q.add (ag d *4)).add 3) (D.v) λE=>kept [h] u E/\
 a2 e k (ab .i64 (d+1)) j E R) (a2 e k d j x R)) ((0:Int)<=d/\d<=((e.n:Nat):Int)/\∃(F:I),a6 U (Builtin.clear_ #[cw] kn #[.slice (if e.c=(ag d) then e.a else e.a.map (·.add ((ag d) *4))) (e.n - (ag d)) (e.c - (ag d))]) w=.ok (.tuple #[]) F/\(0:Int)<=d/\d<=((e.c:Nat):Int)/\R (V (.slice (if e.c=0 then e.a else e.a.map (·.add (0 *4))) ((ag d) - 0) (e.c - 0))) F)),aP e k d j w R:=mp (bF (X:=X) bg (ak [0,1,1,1,3]) P0)
def aD (c:O) (d:Addr) (w:I) (R:aa) (h:di xD #[c.v,.func (.func nf) #[] #[.pointer (some d)]] w λt10 e=>Y (t10==(-1)) (R (V (c.v)) e) (aP c d t10 (ab .i64 (t10+1)) e R)):ai U B7 #[c.v,.func (.func nf) #[] #[.pointer (some d)]] w R:=aE X bg h
end pZ
namespace lH
noncomputable abbrev X:Fx:=⟨U,Tryz.f161,[(6,ls [0,1,2,3,4,5,6,7,8,9,10]),(11,ls [0,1,2,3,4,5,6,7,8,9,10,11])],[]⟩
abbrev P0:Ps:=[(0,.v [.s]),(1,.v [.g j' 0 0]),(5,.v [.I])]
def L0 (d:O) (c:Int) (w:I) (R:aa):Prop:=br P0 0 (X.Sem (ak [0,1,1,1,2])) d c w R
noncomputable def aZ:=bD X (ak [0,1,1,1,2]) P0 L0::[]
abbrev P1:Ps:=[(0,.v [.s]),(1,.v [.g j' 0 0]),(5,.v [.I]),(6,.v [.s]),(7,.v [.I])]
def L2 (e:O) (d:Int) (h:O) (c:Int) (w:I) (R:aa):Prop:=br P1 0 (X.Sem (ak [0,1,1,1,1,1,1,2,1,2,1,1,2])) e d h c w R
noncomputable def hJ:=bD X (ak [0,1,1,1,1,1,1,2,1,2,1,1,2]) P1 L2::aZ
abbrev S3 (e:O) (d:Int) (h:O) (c:Int) (w:I) (R:aa):Prop:=
 L2 e d h (ab .i64 (c+1)) w R
noncomputable def bt:=aC X hJ (ak [2,2,1,1,1,1,1,2,1,2,1,1,2]) P1 S3::hJ
def mO:∀(d:O) (e:Int) (j:O) (h:Int) (w:I) (R:aa) (Q:Y (ah (h<((j.n:Nat):Int))) (bY w λk=>aw j h λx=>aV k (x.add (ag h *4)) λy z A B=>aw j (ab .i64 (h - 1)) λC=>aV k (C.add (ag (ab .i64 (h - 1)) *4)) λD E F G=>gk j' #[.agg #[.i y,.int .u8 z,.int .u8 A,B.v],.agg #[.i D,.int .u8 E,.int .u8 F,G.v]] k λt48 q=>Y (!t48) (aw j h λH=>aV q (H.add (ag h *4)) λJ K L M=>aw d e λN=>cJ q (N.add (ag e *4)) (.i J) (.int .u8 K) (.int .u8 L) (M.v) λP=>S3 d (ab .i64 (e+1)) j h P R) (S3 d e j h q R)) ((0:Int)<=e/\e<=((d.n:Nat):Int)/\∃(u:I),a6 U (Builtin.clear_ #[cw] kn #[.slice (if d.c=(ag e) then d.a else d.a.map (·.add ((ag e) *4))) (d.n - (ag e)) (d.c - (ag e))]) w=.ok (.tuple #[]) u/\(0:Int)<=e/\e<=((d.c:Nat):Int)/\R (V (.slice (if d.c=0 then d.a else d.a.map (·.add (0 *4))) ((ag e) - 0) (d.c - 0))) u)),L2 d e j h w R:=mp (bF (X:=X) bt (ak [0,1,1,1,1,1,1,2,1,2,1,1,2]) P1)
abbrev S1 (d:O) (c:Int) (e:O) (w:I) (R:aa):Prop:=
 L2 d c e 1 w R
noncomputable def bg:=aC X bt (ak [1,1,1,2,1,2,1,1,2]) [(0,.v [.s]),(1,.v [.g j' 0 0]),(5,.v [.I]),(6,.v [.s])] S1::bt
def b5:∀(e:O) (d:Int) (w:I) (R:aa) (E:Y (ah (d<((e.n:Nat):Int))) (bY w λh=>aw e d λk=>aV h (k.add (ag d *4)) λq u x y=>aw e (ab .i64 (d - 1)) λz=>aV h (z.add (ag (ab .i64 (d - 1)) *4)) λA B C D=>gk j' #[.agg #[.i q,.int .u8 u,.int .u8 x,y.v],.agg #[.i A,.int .u8 B,.int .u8 C,D.v]] h λt28 j=>Y t28 ((0:Int)<=d/\d<=((e.n:Nat):Int)/\S1 e d ⟨(if e.c=(ag d) then e.a else e.a.map (·.add ((ag d) *4))),(e.n - (ag d)),(e.c - (ag d))⟩ j R) (L0 e (ab .i64 (d+1)) j R)) (R (V (e.v)) w)),L0 e d w R:=mp (bF (X:=X) bg (ak [0,1,1,1,2]) P0)
def ok (c:O) (w:I) (R:aa) (d:Y (ah (((c.n:Nat):Int)<2)) (R (V (c.v)) w) (L0 c 1 w R)):ai U B4 #[c.v,.func (.func j') #[] #[]] w R:=aE X bg d
end lH
namespace pQ
noncomputable abbrev X:Fx:=⟨U,Tryz.f155,[],[2,7]⟩
abbrev P0:Ps:=[(2,.l [.I,.Y,.Y,.s] aK),(3,.v [.r]),(5,.v [.s]),(9,.v [.s]),(10,.v [.I]),(11,.v [.I])]
def aP (d:Nat) (e h j:Int) (k:O) (q:Addr) (c n:O) (t10 t11:Int) (w:I) (R:aa):Prop:=br P0 0 (X.Sem (ak [0,1,1,1,2])) d e h j k q c n t10 t11 w R
noncomputable def aZ:=bD X (ak [0,1,1,1,2]) P0 aP::[]
abbrev a2 (d:Nat) (e h j:Int) (k:O) (q:Addr) (c n:O) (t10 t11:Int) (w:I) (R:aa):Prop:=
 aP d e h j k q c n t10 (ab .i64 (t11+1)) w R
noncomputable def bg:=aC X aZ (ak [3,2,1,1,2]) P0 a2::aZ
def bW:∀(c:Nat) (j q u:Int) (x:O) (n:Addr) (h k:O) (t10 t11:Int) (w:I) (R:aa) (J:Y (ah (t11<t10)) (aw k t11 λE=>aV w (E.add (ag t11 *4)) λA F G B=>aJ [c] w λe C=>
 Y (A==j) (loc [c,e] C λd=>∃(t23:O) (z:I),a6 U (bb #[cw,cw] cw #[h.v,B.v]) d=.ok (t23.v) z/\kept [c,e] d z/\a2 c j q u x n t23 k t10 t11 z R) (loc [c,e] C λd=>aN d (.cells #[.i A,.int .u8 F,.int .u8 G,B.v] aK) λD=>
 ∃(t27:O) (y:I),a6 U (bb #[cw,cw] cw #[h.v,.slice (some (nb d)) 1 1]) D=.ok (t27.v) y/\kept [c,e] D y/\a2 c j q u x n t27 k t10 t11 y R)) (fU [c] B7 #[h.v,.func (.func nf) #[] #[.pointer (some n)]] w λt31 H=>R (V (t31.v)) H)),aP c j q u x n h k t10 t11 w R:=mp (bF (X:=X) bg (ak [0,1,1,1,2]) P0)
def aD (d e h:Int) (c:O) (j k q:Int) (u:O) (w:I) (R:aa) (z:aJ [] w λy x=>
 aN x (.cells #[.i j,.int .u8 k,.int .u8 q,u.v] aK) λA=>
 aP y d e h c (nb x) ⟨none,0,0⟩ c ((c.n:Nat):Int) 0 A R):ai U BY #[.agg #[.i d,.int .u8 e,.int .u8 h,c.v],.agg #[.i j,.int .u8 k,.int .u8 q,u.v]] w R:=aE X bg z
end pQ
namespace JS
noncomputable abbrev X:Fx:=⟨U,Tryz.f152,[],[1,2]⟩
def aD (d e h:Int) (j:O) (w:I) (R:aa) (n:aJ [] w λc q=>
 aJ [c] q λk u=>
 loc [c,k] u λx=>R (V (.agg #[.i d,.int .u8 e,.int .u8 h,j.v])) x):ai U tY #[.agg #[.i d,.int .u8 e,.int .u8 h,j.v]] w R:=aE X [] n
end JS
namespace JU
noncomputable abbrev X:Fx:=⟨U,Tryz.f153,[],[]⟩
def ok (c d e:Int) (h:O) (k n q:Int) (u:O) (w:I) (R:aa) (x:aN w (.cells #[.i c,.int .u8 d,.int .u8 e,h.v] aK) λj=>
 aN j (.cells #[.i k,.int .u8 n,.int .u8 q,u.v] aK) λy=>
 R (V (.func (.func tZ) #[] #[.pointer (some (nb w)),.pointer (some (nb j))])) y):ai U xu #[.agg #[.i c,.int .u8 d,.int .u8 e,h.v],.agg #[.i k,.int .u8 n,.int .u8 q,u.v]] w R:=aE X [] x
end JU
namespace Dn
noncomputable abbrev X:Fx:=⟨U,Tryz.f154,[],[3,4]⟩
abbrev aQ (h:Addr) (d:Nat) (e F G:Int) (H:O) (t4:Nat) (J K L:Int) (M c:O) (w:I) (R:aa):Prop:=
 Y (((c.n:Nat):Int)==0) (aV w h λj k q u=>loc [d,t4] w λD=>R (V (.agg #[.i j,.int .u8 k,.int .u8 q,u.v])) D) (Y (((c.n:Nat):Int)==1) (aw c 0 λx=>aV w (x.add (ag 0 *4)) λy z A B=>loc [d,t4] w λE=>R (V (.agg #[.i y,.int .u8 z,.int .u8 A,B.v])) E) (loc [d,t4] w λC=>R (V (.agg #[.i e,.int .u8 0,.int .u8 0,c.v])) C))
noncomputable def bf:=aC X [] (ak [4]) [(1,.v [.r]),(3,.l [.I,.Y,.Y,.s] aK),(4,.l [.I,.Y,.Y,.s] aK),(5,.v [.s])] aQ
def aD (e h j:Int) (k:O) (n t2:Addr) (w:I) (R:aa) (y:aJ [] w λc H=>
 aJ [c] H λd x=>
 aV x n λD E F G=>fU [c,d] BY #[.agg #[.i e,.int .u8 h,.int .u8 j,k.v],.agg #[.i D,.int .u8 E,.int .u8 F,G.v]] x λq K=>bM [c,d] B6 #[q.v,.func (.func xv) #[] #[.pointer (some t2)]] K λt11 u=>Y t11 (aV u t2 λz A B C=>loc [c,d] u λL=>R (V (.agg #[.i z,.int .u8 A,.int .u8 B,C.v])) L) (Y (e !=3) (lZ [c,d] B9 #[q.v,.func (.func bj) #[] #[]] u λM=>fU [c,d] B4 #[q.v,.func (.func j') #[] #[]] M λt19 J=>aQ n c e h j k d 0 0 0 ⟨none,0,0⟩ t19 J R) (aQ n c e h j k d 0 0 0 ⟨none,0,0⟩ q u R))):ai U tZ #[.agg #[.i e,.int .u8 h,.int .u8 j,k.v],.pointer (some n),.pointer (some t2)] w R:=aE X [bf] y
end Dn
namespace JV
noncomputable abbrev X:Fx:=⟨U,Tryz.f157,[],[2]⟩
def aD (c d e:Int) (h:O) (j:Addr) (w:I) (R:aa) (q:aJ [] w λn k=>
 aV k j λu x y z=>bM [n] j' #[.agg #[.i c,.int .u8 d,.int .u8 e,h.v],.agg #[.i u,.int .u8 x,.int .u8 y,z.v]] k λA B=>R (V (.bool A)) B):ai U xv #[.agg #[.i c,.int .u8 d,.int .u8 e,h.v],.pointer (some j)] w R:=aE X [] q
end JV
namespace JW
noncomputable abbrev X:Fx:=⟨U,Tryz.f162,[],[1,2]⟩
def aD (j k n:Int) (d:O) (w:I) (R:aa) (u:aJ [] w λe E=>
 aJ [e] E λh c=>
 aw d 0 λD=>∃q:Int,c.cell? ((D.add (ag 0 *4)).add 0)=some (.i q)/\
 Y (q==6) (aw d 0 λx=>∃t13:O,c.cell? ((x.add (ag 0 *4)).add 3)=some (t13.v)/\
 aw t13 0 λy=>aV c (y.add (ag 0 *4)) λz A B C=>loc [e,h] c λG=>R (V (.agg #[.i z,.int .u8 A,.int .u8 B,C.v])) G) (loc [e,h] c λF=>R (V (.agg #[.i j,.int .u8 k,.int .u8 n,d.v])) F)):ai U rB #[.agg #[.i j,.int .u8 k,.int .u8 n,d.v]] w R:=aE X [] u
end JW
namespace yo
noncomputable abbrev X:Fx:=⟨U,Tryz.f163,[],[3,4,5]⟩
abbrev aQ (c:Addr) (t4:Nat) (n q u:Int) (x:O) (w:I) (R:aa):Prop:=
 aV w c λd e h j=>loc [t4] w λk=>R (V (.agg #[.i d,.int .u8 e,.int .u8 h,j.v])) k
noncomputable def bf:=aC X [] (ak [0,1,1,1,2]) [(1,.v [.r]),(4,.l [.I,.Y,.Y,.s] aK)] aQ::[]
abbrev a2 (t4:Nat) (n q u:Int) (x:O) (c:Nat) (d e h:Int) (j:O) (w:I) (R:aa):Prop:=
 loc [t4,c] w λk=>R (V (.agg #[.i d,.int .u8 e,.int .u8 h,j.v])) k
noncomputable def bg:=aC X bf (ak [0,1,1,1,3]) [(4,.l [.I,.Y,.Y,.s] aK),(5,.l [.I,.Y,.Y,.s] aK)] a2::bf
def aD (z A B:Int) (n:O) (q t2:Addr) (w:I) (R:aa) (E:aJ [] w λd L=>
 aJ [d] L λc C=>
 aw n 0 λK=>aV C (K.add (ag 0 *4)) λj u x y=>aJ [d,c] C λe k=>
 Y (j==0) (loc [d,c,e] k λh=>aQ q c 0 0 0 ⟨none,0,0⟩ h R) (Y (j==1) (loc [d,c,e] k λh=>aQ q c 0 0 0 ⟨none,0,0⟩ h R) (Y (j==7) (loc [d,c,e] k λh=>a2 c 0 0 0 ⟨none,0,0⟩ e j u x y h R) (loc [d,c,e] k λh=>aV h t2 λF G H J=>bM [d,c,e] j' #[.agg #[.i j,.int .u8 u,.int .u8 x,y.v],.agg #[.i F,.int .u8 G,.int .u8 H,J.v]] h λt25 D=>Y t25 (a2 c 0 0 0 ⟨none,0,0⟩ e j u x y D R) (loc [d,c,e] D λM=>R (V (.agg #[.i z,.int .u8 A,.int .u8 B,n.v])) M))))):ai U rC #[.agg #[.i z,.int .u8 A,.int .u8 B,n.v],.pointer (some q),.pointer (some t2)] w R:=aE X bg E
end yo
namespace uF
noncomputable abbrev X:Fx:=⟨U,Tryz.f134,[(5,ls [0,1,2,3,4,5,6,7,8])],[]⟩
abbrev P0:Ps:=[(0,.v [.m]),(3,.v [.r]),(4,.v [.r]),(5,.v [.r]),(16,.v [.s]),(17,.v [.I]),(18,.v [.I])]
def L0 (f0:Option Nat) (d t4 c:Addr) (t16:O) (t17 t18:Int) (w:I) (R:aa):Prop:=br P0 0 (X.Sem (ak [0,1,1,1,2])) f0 d t4 c t16 t17 t18 w R
noncomputable def aZ:=bD X (ak [0,1,1,1,2]) P0 L0
def b5:∀(f0:Option Nat) (e t4 c:Addr) (t16:O) (t17 t18:Int) (w:I) (R:aa) (an:Y (ah (t18<t17)) (aw t16 t18 λG=>aV w (G.add (ag t18 *4)) λH J K L=>aN w (.cells #[.i 0,.int .u8 0,.int .u8 0,.slice none 0 0] aK) λw8=>
 cJ w8 (nb w) (.i H) (.int .u8 J) (.int .u8 K) (L.v) λaj=>bY aj λh=>∃t23:O,h.cell? (c.add 3)=some (t23.v)/\
 aV h (nb w) λM N P Q=>k' t' #[.map f0,.agg #[.i M,.int .u8 N,.int .u8 P,Q.v]] h λS T W Z j=>j.cell? (c.add 3)=some (t23.v)/\aN j (.cells #[.i S,.int .u8 T,.int .u8 W,Z.v] aK) λy=>
 y.cell? (c.add 3)=some (t23.v)/\∃(t28:O) (z:I),a6 U (bb #[cw,cw] cw #[t23.v,.slice (some (nb j)) 1 1]) y=.ok (t28.v) z/\av z (c.add 3) (t28.v) λal=>
 L0 f0 e t4 c t16 t17 (ab .i64 (t18+1)) al R) (∃t33:Int,w.cell? (e.add 0)=some (.i t33)/\
 ∃d:Fv,a6 U (Instr.lookup iW (.map f0) (.i t33) false) w=.ok (d.v) w/\aV w c λac ad ae af=>cH (gF U d.n) (ai U d.n (d.bs++#[.agg #[.i ac,.int .u8 ad,.int .u8 ae,af.v]]++d.cs) w λF am=>∃k:Int,∃q:Int,∃u:Int,∃x:O,F=V (.agg #[.i k,.int .u8 q,.int .u8 u,x.v])/\
 cJ am t4 (.i k) (.int .u8 q) (.int .u8 u) (x.v) λA=>aV A t4 λB C D E=>R (V (.agg #[.i B,.int .u8 C,.int .u8 D,E.v])) A))),L0 f0 e t4 c t16 t17 t18 w R:=mp (bF (X:=X) [aZ] (ak [0,1,1,1,2]) P0)
def ok (f0:Option Nat) (d e h:Int) (j:O) (w:I) (R:aa) (x:aN w (.cells #[.i d,.int .u8 e,.int .u8 h,j.v] aK) λq=>
 aN q (.cells #[.i 0,.int .u8 0,.int .u8 0,.slice none 0 0] aK) λc=>
 ∃k:Int,c.cell? ((nb w).add 0)=some (.i k)/\
 ∃t11:Int,c.cell? ((nb w).add 1)=some (.int .u8 t11)/\
 ∃t13:Int,c.cell? ((nb w).add 2)=some (.int .u8 t13)/\
 aN c (.cells #[.i 0,.int .u8 0,.int .u8 0,.slice none 0 0] aK) λy=>
 cJ y (nb c) (.i k) (.int .u8 t11) (.int .u8 t13) (.slice none 0 0) λu=>∃t16:O,u.cell? ((nb w).add 3)=some (t16.v)/\
 L0 f0 (nb w) (nb q) (nb c) t16 ((t16.n:Nat):Int) 0 u R):ai U t' #[.map f0,.agg #[.i d,.int .u8 e,.int .u8 h,j.v]] w R:=aE X [aZ] x
end uF
def KA {w:I} {g:Nat} {cur:Array ae} {t:aG} (c:w.heap[g]? =some (.cells cur t (0,0))) (vs:Array ae):w.setRow g vs=w.putObj g (.cells vs t (0,0)):=by
 unfold World.setRow World.putObj;congr 1;apply Array.ext_getElem?;intro i;rw [Array.getElem?_modify,Array.getElem?_setIfInBounds];by_cases d:g=i
 .subst d;have:=iK c;simp [this,(Array.getElem?_eq_some_iff.1 c).2]
 .simp [d]
def ET (g k:Nat):(⟨g,0,none⟩:Addr).add k=⟨g,k,none⟩:=by unfold Addr.add;split<;>simp_all
def Gj {P:aM} {t ty e:aG} {z:ae} {sz bytes:Nat} (q:gy P t e z sz bytes) (h1:∀T∈z.cells.toList,T.oneCell'=true) (ai:z.cells.size=sz) {w:I} {s:O} {vs:List ae} (J:aS w e sz s vs) (l:Nat) (F:l<=s.n):
  ∃w',(Builtin.clear_ #[t] ty #[.slice (if s.c=l then s.a else s.a.map (·.add (l *sz))) (s.n - l) (s.c - l)]).run P w=.ok (.tuple #[]) w'/\
   aS w' e sz ⟨if s.c=0 then s.a else s.a.map (·.add (0 *sz)),l - 0,s.c - 0⟩ (vs.take (l *sz))/\Fr (·∈ay s) w w':=by
 have hlen:=J.len;obtain ⟨S,d,h⟩:=s;simp only at F hlen;have ag:∀x:Option Addr,(if h=0 then x else x.map (·.add (0 *sz)))=x:=λx=>by
  split
  .rfl
  .cases x with
   |none=>rfl
   |some p=>rw [Nat.zero_mul,Option.map_some,hf]
 rw [ag,Nat.sub_zero,Nat.sub_zero];have H:∀(w':I) (g:Nat) (k:Array ae),S=some ⟨g,0,none⟩->d<=h->h<=maxLen->w'.heap[g]? =some (.cells k e (0,0))->k.size=h *sz->k.toList.take (l *sz)=vs.take (l *sz)->aS w' e sz ⟨S,l,h⟩ (vs.take (l *sz)):=by intro w' g k C ao hc j N ah;subst C;have A:l *sz<=d *sz:=kZ _ F;refine ⟨by rw [dL,hlen,Nat.min_eq_left A],.inr ⟨g,h,k,rfl,dv _,j,by show l<=h;omega,hc,N,ah⟩⟩
 rcases J.cases with ⟨hs,rfl⟩|⟨g,cur,C,j,B,E,u,K⟩
 .cases hs;have:l=0:=by omega
  subst this;refine ⟨w,?_,?_,Fr.refl _ _⟩
  .simp [Builtin.clear_,run_underlying q.ht]
  .simpa using aS.nil w e sz
 .simp only at C B E u K;subst C;have A:l *sz<=d *sz:=kZ _ F;have W:d *sz<=h *sz:=kZ _ B;have Q:cur.toList.take (l *sz)=vs.take (l *sz):=by rw [<-K,List.take_take,Nat.min_eq_left A]
  by_cases hn:d - l=0
  .refine ⟨w,?_,H w g cur rfl B E j u Q,Fr.refl _ _⟩;rw [hn];by_cases D:h=l
   .simp [Builtin.clear_,run_underlying q.ht,D]
   .simp [Builtin.clear_,run_underlying q.ht,D]
  .have D:h≠l:=by omega
   obtain ⟨inf,ac,hz,N,am⟩:=info_parts q.hi;have aj:(zeroValue e).run P w=.ok z w:=by simp [zeroValue,typeInfo,ac,hz]
   have L:(Builtin.zeroCells z.cells (d - l)).toList.length=(d - l) *sz:=by simp [Builtin.zeroCells,ai]
   have af:∀v∈(Builtin.zeroCells z.cells (d - l)).toList,v.oneCell'=true:=by
    intro v G;unfold Builtin.zeroCells at G;rw [Array.toList_map,cQ] at G;obtain ⟨ak,hj,rfl⟩:=G;by_cases Y:0<z.cells.size
    .have ad:ak%z.cells.size<z.cells.size:=Nat.mod_lt _ Y;rw [getElem!_pos z.cells _ ad];exact h1 _ (by simp)
    .have Z:z.cells.size=0:=by omega
     simp [Z] at hj
   have an:(d - l) *sz=d *sz - l *sz:=Nat.sub_mul _ _ _;have ab:l *sz+0+(Builtin.zeroCells z.cells (d - l)).toList.length<=cur.size:=by rw [L,u];omega
   have M:=run_storeCells_at (P:=P) g (l *sz) e (Builtin.zeroCells z.cells (d - l)).toList 0 cur w j ab af;refine ⟨_,?_,H _ g (cur.toList.take (l *sz+0)++(Builtin.zeroCells z.cells (d - l)).toList++cur.toList.drop (l *sz+0+(Builtin.zeroCells z.cells (d - l)).toList.length)).toArray rfl B E (setRow_heap w g cur _ e _ j) ?_ ?_,?_⟩
   .obtain ⟨m,hm⟩:∃m,d - l=m+1:=⟨d - l - 1,by omega⟩;have aa:(⟨g,0,none⟩:Addr).add (l *sz)=⟨g,l *sz,none⟩:=ET g (l *sz);rw [hm] at M ⊢;simp [Builtin.clear_,run_underlying q.ht,D,aa,aj,M]
   .simp only [List.size_toArray,List.length_append,dL,List.length_drop,L,Array.length_toList,u];generalize (d - l) *sz=al at *;generalize d *sz=y at *;generalize h *sz=T at *;generalize l *sz=v at *;omega
   .simp only [List.append_assoc,Nat.add_zero];rw [List.take_append_of_le_length (by rw [dL,Array.length_toList,u];exact Nat.le_min.2 ⟨bB _,bH A W⟩),List.take_take,Nat.min_self]
    exact Q
   .rw [KA j];exact (Fr.put w g _).mono λal _ e=>by simp [ay,e]
def MC:∀d∈(Value.agg #[.int .i64 0,.int .u8 0,.int .u8 0,.slice none 0 0]).cells.toList,d.oneCell'=true:=by intro d c;simp only [Value.cells,aB,a1,a7] at c;rcases c with rfl|rfl|rfl|rfl<;>rfl
def PM {l:List J} {k:Nat} {t:J} (h:k<l.length):((((l.flatMap J.c).set (k *4+0) (.int .i64 t.k)).set (k *4+1) (.int .u8 (t.lo.toNat:Int))).set (k *4+2) (.int .u8 (t.hi.toNat:Int))).set (k *4+3) t.s.v=(l.set k t).flatMap J.c:=by
 induction l generalizing k with
 |nil=>simp at h
 |cons a l n=>
  cases k with
  |zero=>simp [J.c]
  |succ k=>
   have j:k<l.length:=by simpa using h
   have d:∀e,(k+1) *4+e=(k *4+e)+4:=λe=>by omega
   rw [d 0,d 1,d 2,d 3,cO,List.set_cons_succ,cO,<-n j];simp [J.c]
section
variable {M:Nat->Prop} {w0 w:I} {L D:List En} {bs:List Nat}
def _root_.Go.W.LH.K5 (H:LH M w0 w L D) (i k:Nat) {s:O} {ts:List J} {t:J} {p:Addr} {K:I->Prop} (hi:L[i]? =some (.row aK 4 s (ts.flatMap J.c))) (x:s.a=some p) (hk:k<ts.length)
  (hK:∀w',LH M w0 w' (L.set i (.row aK 4 s ((ts.set k t).flatMap J.c))) D->K w') (z:∀b∈bs,En.g b∈L:=by simp):
  av w (p.add (k *4)) (.int .i64 t.k) λd=>kept bs w d/\av d ((p.add (k *4)).add 1) (.int .u8 (t.lo.toNat:Int)) λh=>kept bs d h/\av h ((p.add (k *4)).add 2) (.int .u8 (t.hi.toNat:Int)) λj=>kept bs h j/\av j ((p.add (k *4)).add 3) t.s.v λu=>kept bs j u/\K u:=by
 have hlen:(ts.flatMap J.c).length=ts.length *4:=J.gl ts;have A:=(cD.1 hi).1;have G:∀{e:En} {b:Nat},(∀(d:I) (y:Nat),¬e.P ({d with heap:=fy (y+1) (.map #[] 0)}:I))->En.g b∈L->En.g b∈L.set i e:=by
  intro e b ac n;obtain ⟨aa,B⟩:=List.mem_iff_getElem?.1 n;by_cases Z:i=aa
  .subst Z;rw [hi] at B;exfalso;have e1:En.row aK 4 s (ts.flatMap J.c)=En.g b:=Option.some.inj B;have Y:(En.g b).P ({w with heap:=fy (b+1) (.map #[] 0)}):=by show b<_;simp
   rw [<-e1] at Y;by_cases E:ay s=[]
   .have:s.a=none:=by unfold ay at E;split at E<;>simp_all
    rw [x] at this;cases this
   .obtain ⟨ab,F⟩:=List.exists_mem_of_ne_nil _ E;obtain ⟨cs,f,q⟩:=(aS.row (show aS ({w with heap:=fy (b+1) (.map #[] 0)}) aK 4 s _ from Y)).qi ab F;rw [Array.getElem?_replicate] at q;split at q<;>cases q
  .refine aI (i:=aa) ?_;rw [yh Z];exact B
 have C:∀(vs:List ae) (d:I) (y:Nat),¬(En.row aK 4 s vs).P ({d with heap:=fy (y+1) (.map #[] 0)}:I):=by
  intro vs d y h0;have F:p.block∈ay s:=by simp [ay,x]
  obtain ⟨cs,f,q⟩:=(aS.row (show aS ({d with heap:=fy (y+1) (.map #[] 0)}) aK 4 s vs from h0)).qi _ F;rw [Array.getElem?_replicate] at q;split at q<;>cases q
 have T:=H.r3 (bs:=bs) i (k *4) 0 (v:=.int .i64 t.k) (p:=p) (K:=λd=>av d ((p.add (k *4)).add 1) (.int .u8 (t.lo.toNat:Int)) λh=>kept bs d h/\av h ((p.add (k *4)).add 2) (.int .u8 (t.hi.toNat:Int)) λj=>kept bs h j/\av j ((p.add (k *4)).add 3) t.s.v λu=>kept bs j u/\K u) hi x (by rw [hlen];omega) (λd H1=>?_) z
 .rw [hf] at T;exact T
 refine H1.r3 (bs:=bs) i (k *4) 1 (by rw [hU A]) x (by rw [uy,hlen];omega) (λh N=>?_) (λb n=>G (C _) (z b n));rw [List.set_set] at N;refine N.r3 (bs:=bs) i (k *4) 2 (by rw [hU A]) x (by simp only [uy,hlen];omega) (λj Q=>?_) (λb n=>G (C _) (z b n));rw [List.set_set] at Q;refine Q.r3 (bs:=bs) i (k *4) 3 (by rw [hU A]) x (by simp only [uy,hlen];omega) (λu S=>?_) (λb n=>G (C _) (z b n));rw [List.set_set,PM hk] at S;exact hK u S
def _root_.Go.W.LH.Ut (H:LH M w0 w L D) (i k:Nat) {s:O} {ts:List J} {t:J} {p:Addr} {K:I->Prop} (hi:L[i]? =some (.row aK 4 s (ts.flatMap J.c))) (n:s.a=some p) (j:k<ts.length)
  (h:∀e,LH M w0 e (L.set i (.row aK 4 s ((ts.set k t).flatMap J.c))) D->K e):
  av w (p.add (k *4)) (.int .i64 t.k) λq=>av q ((p.add (k *4)).add 1) (.int .u8 (t.lo.toNat:Int)) λu=>av u ((p.add (k *4)).add 2) (.int .u8 (t.hi.toNat:Int)) λx=>av x ((p.add (k *4)).add 3) t.s.v K:=by have d:=H.K5 (bs:=[]) (K:=K) i k hi n j h (by simp);exact ⟨d.1,d.2.1,d.2.2.2.1,d.2.2.2.2.1,d.2.2.2.2.2.2.1,d.2.2.2.2.2.2.2.1,d.2.2.2.2.2.2.2.2.2.1,d.2.2.2.2.2.2.2.2.2.2.1,d.2.2.2.2.2.2.2.2.2.2.2.2⟩
end
def CV {w:I} {s:O} {l:List J} (d:aS w aK 4 s (l.flatMap J.c)) {i:Nat} {t:J} (hi:l[i]? =some t) {K:Addr->Prop} (e:∀p,s.a=some p->J.iB w p i t->K p):ct s.a K:=J.cY d.bz hi e
section
variable {M:Nat->Prop} {w0 w:I} {L D:List En}
def _root_.Go.W.LH.el (H:LH M w0 w L D) (i k:Nat) {s:O} {ts:List J} {t:J} {X:Int} {K:Int->Int->Int->O->Prop} (q:X=(k:Int)) (h:ts[k]? =some t) (n:K t.k t.lo.toNat t.hi.toNat t.s) (hi:L[i]? =some (.row aK 4 s (ts.flatMap J.c)):=by rfl):
  aw s X λp=>∃a b d:Int,∃e:O,w.cell? ((p.add (ag X *4)).add 0)=some (.i a)/\w.cell? ((p.add (ag X *4)).add 1)=some (.int .u8 b)/\w.cell? ((p.add (ag X *4)).add 2)=some (.int .u8 d)/\w.cell? ((p.add (ag X *4)).add 3)=some e.v/\K a b d e:=by subst q;have j:aS w aK 4 s (ts.flatMap J.c):=H.get i hi;have x:=J.cj j.bz;have u:=(cD.1 h).1;exact ⟨by omega,by omega,CV j h λp y d=>⟨_,_,_,_,d.c0,d.c1,d.c2,d.c3,n⟩⟩
def _root_.Go.W.LH.sZ (H:LH M w0 w L D) (i k:Nat) {s:O} {ts:List J} {t:J} {X:Int} {K:I->Prop} (n:X=(k:Int)) (d:k<ts.length) (j:∀h,LH M w0 h (L.set i (.row aK 4 s ((ts.set k t).flatMap J.c))) D->K h) (hi:L[i]? =some (.row aK 4 s (ts.flatMap J.c)):=by rfl):
  aw s X λp=>av w (p.add (ag X *4)) (.i t.k) λx=>av x ((p.add (ag X *4)).add 1) (.int .u8 (t.lo.toNat:Int)) λy=>av y ((p.add (ag X *4)).add 2) (.int .u8 (t.hi.toNat:Int)) λz=>av z ((p.add (ag X *4)).add 3) t.s.v K:=by subst n;have e:aS w aK 4 s (ts.flatMap J.c):=H.get i hi;have B:=J.cj e.bz;have q:ts[k]? =some ts[k]:=bc d;exact ⟨by omega,by omega,CV e q λp u A=>H.Ut i k hi u d j⟩
end
def AX {j:Nat} (c:1<=j) (d:j<=1000000000):ab .i64 ((j:Int) - 1)=((j - 1:Nat):Int):=by rw [a4 _ (by omega)];omega
abbrev dE (b:Nat) (u:J):En:=.c b u.c aK
def Ic {w:I} {k u:J} {b:Nat} (h:k.P w) (j:u.P w) (e:w.heap[b]? =some (.cells u.c.toArray aK (0,0))):LH F0 w w [] [.tree k,.tree u,dE b u]:=bZ _ (by
 intro n d;simp only [aB,a1,a7] at d;rcases d with rfl|rfl|rfl
 .exact h
 .exact j
 .exact e)
def Fw (k u:J) (b:Nat) (w:I) (h:k.sz<=1000000) (n:k.P w) (q:u.P w) (j:w.heap[b]? =some (.cells u.c.toArray aK (0,0))):ai U nf #[k.v,.pointer (some (aj b))] w λr x=>r=V (.bool (a8 k.rx u.rx==0))/\ao w x:=by refine JQ.aD _ _ _ _ _ w _ ((Ic n q j).aL λz y d=>⟨_,_,_,u.s,d.eh 2 0,d.eh 2 1,d.eh 2 2,d.eh 2 3,d.aA (sM k u y h (d.getD 0) (d.getD 1)) ?_⟩);rintro _ A rfl e;exact ⟨_,rfl,rfl,e.fr⟩
def N6 (k u:J) (b:Nat) (w:I) (h:k.sz<=1000000) (n:k.P w) (q:u.P w) (j:w.heap[b]? =some (.cells u.c.toArray aK (0,0))):ai U xv #[k.v,.pointer (some (aj b))] w λr x=>r=V (.bool (a8 k.rx u.rx==0))/\ao w x:=by refine JV.aD _ _ _ _ _ w _ ((Ic n q j).aL λz y d=>⟨_,_,_,u.s,d.eh 2 0,d.eh 2 1,d.eh 2 2,d.eh 2 3,d.aA (sM k u y h (d.getD 0) (d.getD 1)) ?_⟩);rintro _ A rfl e;exact ⟨_,rfl,rfl,e.fr⟩
def N5 (k:J) (w:I) (h:k.P w):ai U tY #[k.v] w λr j=>r=V k.v/\ao w j:=by refine JS.aD _ _ _ _ w _ ((gq h).aL λn u c=>c.aL λq x d=>d.au λy e=>⟨rfl,e.fr⟩)
def kH (c:J->Bool):List J->Nat->Int
 |[],_=>-1
 |a::l,i=>if c a then (i:Int) else kH c l (i+1)
def HF (c:J->Bool):∀(l:List J) (i:Nat),ah (kH c l i>=0)=l.any c
 |[],i=>rfl
 |a::l,i=>by
  unfold kH;rw [List.any_cons];cases d:c a with
  |true=>simp
  |false=>simpa using HF c l (i+1)
def Fg (s:O) (l:List J) (f:Fv) (h:J->Bool) (D:List En) (w:I) (Q:l.length<=1000000) (E:bL 4 w s (l.flatMap J.c)) (F:∀z∈D,z.P w) (G:gF U f.n=true)
  (H:∀j t,t∈l->LH F0 w j [] (J.row s l::D)->ai U f.n (f.bs++#[t.v]++f.cs) j λr M=>r=V (.bool (h t))/\ao j M):
  ai U xD #[s.v,f.v] w λr j=>r=V (.int .i64 (kH h l 0))/\ao w j:=by
 have T:=J.cj E;have loop:∀(d i:Nat) (u:I),i+d=l.length->kH h (l.drop i) i=kH h l 0->LH F0 w u [] (J.row s l::D)->uV.L0 s f ((s.n:Nat):Int) (i:Int) u λr j=>r=V (.int .i64 (kH h l 0))/\ao w j:=by
  intro d;induction d with
  |zero=>
   intro i u K e q;rw [dt (by omega)] at e;exact uV.b5 _ _ _ _ _ _ (a9 (a0 (by omega)) ⟨by rw [<-e];rfl,q.fr⟩)
  |succ d L=>
   intro i u K e q;have A:l[i]? =some (l[i]'(by omega)):=bc (by omega);rw [dq (by omega:i<l.length)] at e;generalize l[i]'(by omega)=x at A e;refine uV.b5 _ _ _ _ _ _ (bd (aW (by omega)) ⟨by omega,by omega,J.cY (q.getD 0) A λp S y=>⟨x.k,x.lo.toNat,x.hi.toNat,x.s,y.c0,y.c1,y.c2,y.c3,?_⟩⟩);rw [G];refine (show cH true _ from ?_);refine q.call (H u x (aI A) q) ?_;rintro _ N rfl C;have e:(if h x then (i:Int) else kH h (l.drop (i+1)) (i+1))=kH h l 0:=e;refine ⟨_,rfl,bE (λB=>⟨?_,C.fr⟩) (λB=>?_)⟩
   .rw [aq B] at e;rw [e]
   .rw [af (by rw [B];simp)] at e;rw [bw _ (by omega)];exact L (i+1) N (by omega) e C
 refine uV.ok _ _ w _ (loop l.length 0 w (by omega) (by simp) (bZ _ (λz e=>?_)));rcases aB.1 e with rfl|e
 .exact E
 .exact F z e
def NH (s:O) (l:List J) (f:Fv) (e:J->Bool) (D:List En) (w:I) (x:l.length<=1000000) (y:bL 4 w s (l.flatMap J.c)) (k:∀h∈D,h.P w) (q:gF U f.n=true)
  (u:∀d t,t∈l->LH F0 w d [] (J.row s l::D)->ai U f.n (f.bs++#[t.v]++f.cs) d λr z=>r=V (.bool (e t))/\ao d z):
  ai U B6 #[s.v,f.v] w λr d=>r=V (.bool (l.any e))/\ao w d:=by refine KI.ok _ _ w _ ((Fg s l f e D w x y k q u).mono ?_);rintro _ A ⟨rfl,j⟩;refine ⟨_,rfl,?_,j⟩;rw [HF]
def HG (c:J->Bool):∀(l:List J) (k:Nat),(kH c l k=-1/\∀t∈l,c t=false)\/∃m a,l[m]? =some a/\c a=true/\kH c l k=((k+m:Nat):Int)/\∀t∈l.take m,c t=false
 |[],k=>.inl ⟨rfl,by simp⟩
 |a::l,k=>by
  unfold kH;cases h:c a with
  |true=>exact .inr ⟨0,a,rfl,h,by simp,by simp⟩
  |false=>
   rcases HG c l (k+1) with ⟨d,e⟩|⟨m,q,d,e,j,n⟩
   .exact .inl ⟨by simpa using d,by simpa [h] using e⟩
   .refine .inr ⟨m+1,q,by simpa using d,e,?_,?_⟩
    .simp only [j,Bool.false_eq_true,if_false];omega
    .simp only [List.take_succ_cons,aB,forall_eq_or_imp];exact ⟨h,n⟩
section
variable {M:Nat->Prop} {w0 w:I} {L D:List En} {bs:List Nat}
def _root_.Go.W.LH.zY (H:LH M w0 w L D) (i:Nat) {P:aM} {g:bJ} {args:Array ae} {A K:aa} {e:aG} {sz:Nat} {s:O} {xs:List ae} (hi:L[i]? =some (.row e sz s xs))
  (n:ai P g args w λr c=>A r c/\Fr (·∈ay s) w c) (x:∀r c,A r c->(∀d:En,d.P c->(∀b∈d.fp,b∈ay s\/w.heap.size<=b)->LH M w0 c (L.set i d) D)->K r c) (k:∀b∈bs,En.g b∈L:=by simp):cU bs P g args w K:=
 ⟨(·∈ay s),λb j=>H.wF hi (k b j),n.mono λr c ⟨h,f⟩=>⟨f,x r c h λd q u=>H.g9 i d hi f q u⟩⟩
def _root_.Go.W.LH.off (H:LH M w0 w L D) (i j:Nat) {e:aG} {sz:Nat} {s:O} {xs:List ae} {d:En} (hi:L[i]? =some (.row e sz s xs):=by rfl) (k:D[j]? =some d:=by rfl):∀c∈ay s,c∉d.fp:=λc n h=>
 H.dj d (aI k) c h _ (aI hi) n
end
def sE (s:O) (l:List J) (r:dA) (w w':I):Prop:=∃d:O,r=V d.v/\aS w' aK 4 d (l.flatMap J.c)/\∀e∈ay d,e∈ay s
def wP {w:I} {s:O} {l:List J} (D:List En) (n:aS w aK 4 s (l.flatMap J.c)) (j:∀d∈D,d.P w/\∀u∈ay s,u∉d.fp):LH (·∈ay s) w w [.row aK 4 s (l.flatMap J.c)] D:=
 LH.u1 _ _ (by
  intro d e;simp only [aB,a1,a7] at e;subst e;exact ⟨n,λb h=>h⟩) (by
  simp only [cO,List.flatMap_nil,List.append_nil];exact (En.row aK 4 s (l.flatMap J.c)).nd) (λd e=>⟨(j d e).1,λb h x k=>by simp only [aB,a1,a7] at k;subst k;exact λq=>(j d e).2 b q h⟩)
def Ln {α:Type} {l:List α} {i:Nat} {a:α} (c:i<l.length):(l.set i a).take (i+1)=l.take i++[a]:=by rw [gC,hU c,List.take_set_of_le (bB _)];rfl
def NI (s:O) (l:List J) (u:J) (b:Nat) (w:I) (hl:J.aU l<=1000000) (Q:aS w aK 4 s (l.flatMap J.c)) (pl:J.Ps w l) (pu:u.P w) (hb:w.heap[b]? =some (.cells u.c.toArray aK (0,0)))
  (N:∀h∈ay s,h∉J.a' l/\h∉u.fp/\h≠b):
  ai U B7 #[s.v,.func (.func nf) #[] #[.pointer (some (aj b))]] w λr y=>sE s (l.filter λt=>!(a8 t.rx u.rx==0)) r w y/\Fr (·∈ay s) w y:=by
 have nr:=J.cj Q.bz;have ll:=J.fi l;have kt:∀t∈l,t.sz<=1000000:=λt x=>bH (J.dV x) hl;have S:LH (·∈ay s) w w [.row aK 4 s (l.flatMap J.c)] [.trees l,.tree u,dE b u]:=wP _ Q (by
  intro W Z;simp only [aB,a1,a7] at Z;rcases Z with rfl|rfl|rfl
  .exact ⟨pl,λh e A=>(N h e).1 (aT.1 A)⟩
  .exact ⟨pu,λh e A=>(N h e).2.1 (aT.1 A)⟩
  .exact ⟨hb,λh e A=>(N h e).2.2 (by simpa [dE,En.c,En.ob] using A)⟩)
 have loop:∀(d i j:Nat) (cur:List J) (B:I),j+d=l.length->i<j->cur.length=l.length->cur.drop j=l.drop j->cur.take i=(l.take j).filter (λt=>!(a8 t.rx u.rx==0))->LH (·∈ay s) w B [.row aK 4 s (cur.flatMap J.c)] [.trees l,.tree u,dE b u]->
   pZ.aP s (aj b) (i:Int) (j:Int) B λr y=>sE s (l.filter λt=>!(a8 t.rx u.rx==0)) r w y/\Fr (·∈ay s) w y:=by
  intro d;induction d with
  |zero=>
   intro i j cur B hj ag M G K n;refine pZ.bW _ _ _ _ _ _ (a9 (a0 (by omega)) ⟨by omega,by omega,?_⟩);have ah:=(n.get 0:aS _ _ _ _ _).cap;obtain ⟨w2,z,C,F⟩:=Gj (ty:=kn) pf MC rfl (n.get 0) i (by omega);refine ⟨w2,z,by omega,by omega,⟨⟨if s.c=0 then s.a else s.a.map (·.add (0 *4)),i - 0,s.c - 0⟩,rfl,?_,λh e=>?_⟩,n.fr.trans F λh _ ae=>ae⟩
   .have W:(cur.flatMap J.c).take (i *4)=(l.filter λt=>!(a8 t.rx u.rx==0)).flatMap J.c:=by
     have ad:(cur.flatMap J.c).take (i *4)=(cur.take i).flatMap J.c:=by
      have:=J.gl (cur.take i);conv=>lhs;rw [<-List.take_append_drop i cur,dh]
      rw [List.take_append_of_le_length (by rw [this,dL];omega),e1 (by rw [this,dL];omega)]
     rw [ad,K,e1 (by omega)]
    rw [<-W];exact C
   .simp only [ay] at e ⊢;split at e
    .rename_i p q;split at q
     .rw [q];exact e
     .cases ab:s.a with
      |none=>rw [ab] at q;cases q
      |some al=>
       rw [ab] at q;simp only [Option.map_some,Option.some.injEq] at q;subst q;rw [iF] at e;exact e
    .cases e
  |succ d ac=>
   intro i j cur B hj ag M G K n;have H:l[j]? =some (l[j]'(by omega)):=bc (by omega);generalize ak:l[j]'(by omega)=a at H;have af:cur[j]? =some a:=by
    have:(cur.drop j)[0]? =(l.drop j)[0]?:=by rw [G]
    simpa [List.getElem?_drop,H] using this
   have Y:=aI H;have aa:l.take (j+1)=l.take j++[a]:=by rw [gC,H];rfl
   refine pZ.bW _ _ _ _ _ _ (bd (aW (by omega)) ⟨by omega,by omega,CV (n.get 0) af λp q E=>⟨a.k,a.lo.toNat,a.hi.toNat,a.s,E.c0,E.c1,E.c2,E.c3,?_⟩⟩);refine n.aL (λb7 w2 H2=>H2.au λw3 D=>?_);refine D.aA (Fw a u b w3 (kt a Y) ((show J.Ps w3 l from D.getD 0).mem Y) (D.getD 1) (D.getD 2)) ?_;rintro _ w4 rfl T;refine ⟨_,rfl,dM (λhf=>⟨by omega,by omega,?_⟩) (λx=>?_)⟩
   .rw [q];refine (show ct (some p) _ from ?_);refine T.K5 0 i (t:=a) (ts:=cur) rfl q (by omega) (λw5 H5=>?_);show pZ.aP _ _ _ _ _ _;rw [bw _ (by omega),bw _ (by omega)];refine ac (i+1) (j+1) (cur.set i a) w5 (by omega) (by omega) (by simpa using M) ?_ ?_ (H5.take 1)
    .rw [List.drop_set_of_lt (by omega),<-ux,G,ux]
    .rw [Ln (by omega),K,aa,List.filter_append];simp [hf]
   .show pZ.aP _ _ _ _ _ _;rw [bw _ (by omega)];refine ac i (j+1) cur w4 (by omega) (by omega) M ?_ ?_ (T.take 1)
    .rw [<-ux,G,ux]
    .rw [K,aa,List.filter_append];simp [x]
 refine pZ.aD _ _ w _ ?_;have hI:=Fg s l ⟨nf,#[],#[.pointer (some (aj b))]⟩ (λt=>a8 t.rx u.rx==0) [.trees l,.tree u,dE b u] w (by omega) Q.bz (S.rd) (by kernel_rfl) (λy t x L=>Fw t u b y (kt t x) ((show J.Ps y l from L.getD 1).mem x) (L.getD 2) (L.getD 3));refine S.call hI ?_;rintro _ B rfl n;rcases HG (λt=>a8 t.rx u.rx==0) l 0 with ⟨z,C⟩|⟨m,a,z,C,F,h4⟩
 .refine ⟨_,rfl,bd (by rw [z];rfl) ⟨⟨s,rfl,?_,λh e=>e⟩,n.fr⟩⟩;rw [List.filter_eq_self.2 (λt x=>by rw [C t x];rfl)];exact n.get 0
 .have A:m<l.length:=(cD.1 z).1;refine ⟨_,rfl,a9 (by rw [F];exact beq_eq_false_iff_ne.2 (by omega)) ?_⟩;rw [F,Nat.zero_add,bw _ (by omega)];refine loop (l.length - (m+1)) m (m+1) l B (by omega) (by omega) rfl rfl ?_ n;rw [gC,z,List.filter_append,List.filter_eq_self.2 (λt x=>by rw [h4 t x];rfl)];simp only [Option.toList_some,List.filter_cons,C];simp
def eC (x k:J):List J:=if k.k=x.k then k.l else [k]
def A8 (u:J) (t:J):Bool:=!(a8 t.rx u.rx==0)
def fW (x u:J):List J:=(x.l.flatMap (eC x)).filter (A8 u)
structure Sub (x:J) (l:List J):Prop where
 P:∀w:I,x.P w->∀t∈l,t.P w
 fp:∀t∈l,∀b∈t.fp,b∈x.fp
def Sub.part {x:J} {t:J} (d:t∈x.l):Sub x [t]:=⟨λk h j c=>by
  simp at c;subst c;exact h.parts.2.mem d,λj c b e=>by simp at c;subst c;exact J.fX.2 (.inr (J.bR.2 ⟨_,d,e⟩))⟩
def Sub.open {x k:J} (c:k∈x.l):Sub x (eC x k):=by
 unfold eC;split
 .exact ⟨λj h t d=>((h.parts.2.mem c).parts.2).mem d,λt d b e=>J.fX.2 (.inr (J.bR.2 ⟨k,c,J.fX.2 (.inr (J.bR.2 ⟨t,d,e⟩))⟩))⟩
 .exact .part c
def Sub.flat {x:J} {l:List J} (h:∀d∈l,d∈x.l):Sub x (l.flatMap (eC x)):=⟨λk j t c=>by
  obtain ⟨d,e,c⟩:=ch.1 c;exact (Sub.open (h d e)).P k j t c,λt c=>by obtain ⟨d,e,c⟩:=ch.1 c;exact (Sub.open (h d e)).fp t c⟩
def Sub.sub {x:J} {l m:List J} (d:Sub x l) (e:∀t∈m,t∈l):Sub x m:=⟨λj h t c=>d.P j h t (e t c),λt c=>d.fp t (e t c)⟩
def Sub.Ps {x:J} {l:List J} (c:Sub x l) {w:I} (d:x.P w):J.Ps w l:=J.hS (c.P w d)
def Sub.a' {x:J} {l:List J} (d:Sub x l) {b:Nat} (c:b∈J.a' l):b∈x.fp:=by obtain ⟨t,e,c⟩:=J.bR.1 c;exact d.fp t e b c
def Sub.fW (x u:J):Sub x (fW x u):=(Sub.flat (λ_ c=>c)).sub λ_ c=>(List.mem_filter.1 c).1
def r7 (x:J):∀l:List J,J.aU (l.flatMap (eC x))<=J.aU l
 |[]=>bB _
 |c::l=>by
  have d:J.aU (eC x c)<=c.sz:=by
   unfold eC;split
   .rw [J.hC c];omega
   .simp [J.aU]
  rw [cO,r6];have:=r7 x l;show _<=c.sz+J.aU l;omega
def Lc (c:J->Bool):∀l:List J,J.aU (l.filter c)<=J.aU l
 |[]=>bB _
 |d::l=>by
  have:=Lc c l;rw [List.filter_cons];split
  .unfold J.aU;omega
  .show _<=d.sz+J.aU l;omega
def UA (x u:J):J.aU (fW x u)+1<=x.sz:=by have c:=Lc (A8 u) (x.l.flatMap (eC x));have d:=r7 x x.l;rw [J.hC x];unfold fW;omega
def zl (w:I) (l:List J) (r:dA) (w':I):Prop:=∃d:O,r=V d.v/\aS w' aK 4 d (l.flatMap J.c)/\∀e∈ay d,w.heap.size<=e
def N3 (x u:J) (w:I) (ah:x.sz<=1000000) (px:x.P w) (pu:u.P w):ai U BY #[x.v,u.v] w λr w'=>zl w (fW x u) r w'/\ao w w':=by
 have hs:=J.hC x;have hl:=J.fi x.l;have nr:=J.cj px.parts.1;have loop:∀(d i:Nat) (acc:List J) (D:O) (h q:Nat) (z:I),i+d=x.l.length->acc=(x.l.take i).flatMap (eC x)->LH F0 w z [.g h,.c q u.c aK,.row aK 4 D (acc.flatMap J.c)] [.tree x,.tree u]->
   pQ.aP h x.k x.lo.toNat x.hi.toNat x.s (aj q) D x.s ((x.s.n:Nat):Int) (i:Int) z λr w'=>zl w (fW x u) r w'/\ao w w':=by
  intro d;induction d with
  |zero=>
   intro i acc D h q z aa B e;have Y:Sub x acc:=by rw [B];exact Sub.flat λal C=>List.mem_of_mem_take C
   have ad:J.aU acc<=J.aU x.l:=by rw [B,e1 (by omega)];exact r7 x x.l
   refine pQ.bW _ _ _ _ _ _ _ _ _ _ _ _ (a9 (a0 (by omega)) ?_);refine e.zY 2 rfl (NI D acc u q z (by omega) (e.get 2) (Y.Ps (e.getD 0)) (e.getD 1) (e.ob 1) (λW N=>⟨λy=>e.off 2 0 rfl rfl W N (aT.2 (Y.a' y)),λy=>e.off 2 1 rfl rfl W N (aT.2 y),λy=>?_⟩)) ?_
   .exact m1 e.nd (i:=2) rfl (j:=1) rfl (by omega) W N (by simp [En.c,En.ob,y])
   rintro _ Q ⟨s',rfl,M,hb⟩ hH;have A:=hH (.row aK 4 s' ((acc.filter (A8 u)).flatMap J.c)) M λb L=>.inl (hb b L);refine ⟨s',rfl,⟨s',rfl,?_,λb L=>(A.new _ (aI (i:=2) rfl) b L).resolve_right id⟩,A.fr⟩;rw [B,e1 (by omega)] at M;exact M
  |succ d ae=>
   intro i acc D h q z aa B e;have H:x.l[i]? =some (x.l[i]'(by omega)):=bc (by omega);generalize x.l[i]'(by omega)=a at H;have y:=aI H;have ag:x.P z:=e.getD 0;have an:=J.dV y;have ad:J.aU acc<=J.aU x.l:=by have h1:=r7 x (x.l.take i);have h2:=yD x.l i;rw [B];omega
   have ac:acc++eC x a=(x.l.take (i+1)).flatMap (eC x):=by rw [gC,H,dh,B];simp
   have am:=J.cj (e.get 2:aS _ _ _ _ _).bz;have ab:=J.fi acc;have tail:∀(s':O) (w':I),LH F0 w w' [.g h,.c q u.c aK,.row aK 4 s' ((acc++eC x a).flatMap J.c)] [.tree x,.tree u]->pQ.a2 h x.k x.lo.toNat x.hi.toNat x.s (aj q) s' x.s ((x.s.n:Nat):Int) (i:Int) w' λr w'=>zl w (fW x u) r w'/\ao w w':=by intro s' w' H';show pQ.aP _ _ _ _ _ _ _ _ _ _ _ _;rw [bw _ (by omega)];exact ae (i+1) _ s' h q w' (by omega) ac H'
   refine pQ.bW _ _ _ _ _ _ _ _ _ _ _ _ (bd (aW (by omega)) ⟨by omega,by omega,J.cY ag.parts.1 H λp hp F=>⟨_,_,_,_,F.c0,F.c1,F.c2,F.c3,?_⟩⟩);refine e.aL λb7 Q A=>aO (λC=>A.au λS E=>?_) (λC=>A.au λS E=>?_)
   .have pa:a.P S:=(show x.P S from E.getD 0).parts.2.mem y;have na:=J.cj pa.parts.1;have ab:=J.fi a.l;have ak:=J.hC a;refine E.j0 2 pf (xs:=acc.flatMap J.c) (src:=a.s) (news:=a.l.flatMap J.c) rfl pa.parts.1 (qP _) (by omega) (λs' T K=>?_);refine tail s' T ?_;have G:eC x a=a.l:=aq C;rw [G,dh];exact K.take 3
   .refine E.i5 2 pf (xs:=acc.flatMap J.c) rfl (λs' T K=>?_) (by omega);refine tail s' T ?_;have G:eC x a=[a]:=af C;rw [G,kD];exact K.take 3
 refine pQ.aD _ _ _ _ _ _ _ _ w _ ((bZ [.tree x,.tree u] (by
  intro G Z;simp only [aB,a1,a7] at Z;rcases Z with rfl|rfl
  .exact px
  .exact pu)).aL λh z H1=>H1.nw λQ _ A=>?_)
 exact loop x.l.length 0 [] ⟨none,0,0⟩ h z.heap.size Q (by omega) rfl (A.jP aK 4)
def z7 (a b:Int):cv b a=-cv a b:=by
 have s:∀a b:Int,(cv a b=-1/\a<b)\/(cv a b=1/\b<a)\/(cv a b=0/\a=b):=λa b=>by
  unfold cv;split
  .exact .inl ⟨rfl,by omega⟩
  .split
   .exact .inr (.inl ⟨rfl,by omega⟩)
   .exact .inr (.inr ⟨rfl,by omega⟩)
 rcases s a b with c|c|c<;>rcases s b a with d|d|d<;>omega
def CT (c d:Int) (l m:List Int) (e:d=-c) (h:dU m=-dU l):dU (d::m)=-dU (c::l):=by
 show (if d≠0 then d else dU m)=-(if c≠0 then c else dU l);split
 .rw [aq (by omega)];exact e
 .rw [af (by omega)];exact h
def uq (c:Int):dU [c]=c:=by show (if c≠0 then c else 0)=c;split<;>omega
def qS (k:Int) (lo hi:UInt8) (l:List Rx) (b:Rx):a8 (.mk k lo hi l) b=dU [cv k b.k,cv lo.toNat b.lo.toNat,cv hi.toNat b.hi.toNat,cmpL l b.l]:=by
 unfold a8;generalize cv k b.k=c0;generalize cv lo.toNat b.lo.toNat=c1;generalize cv hi.toNat b.hi.toNat=c2;generalize cmpL l b.l=c3;simp only [dU];by_cases c:c0=0
 .by_cases d:c1=0
  .by_cases e:c2=0
   .by_cases h:c3=0<;>simp [c,d,e,h]
   .simp [c,d,e]
  .simp [c,d]
 .simp [c]
mutual
def i7:∀a b:Rx,a8 b a=-a8 a b
 |.mk h lo d l,.mk j k e c=>by rw [qS,qS];exact CT _ _ _ _ (z7 _ _) (CT _ _ _ _ (z7 _ _) (CT _ _ _ _ (z7 _ _) (by rw [uq,uq];exact F8 l c)))
def F8:∀a b:List Rx,cmpL b a=-cmpL a b
 |[],[]=>by unfold cmpL;rfl
 |[],_::_=>by unfold cmpL;rfl
 |_::_,[]=>by unfold cmpL;rfl
 |c::l,d::m=>by
  have e:=i7 c d;have h:=F8 l m;show (if a8 d c≠0 then a8 d c else cmpL m l)=-(if a8 c d≠0 then a8 c d else cmpL l m);split
  .rw [aq (by omega)];exact e
  .rw [af (by omega)];exact h
end
structure oZ (x y z:Int):Prop where
 le:x<=0->y<=0->z<=0
 lt:x<0->y<=0->z<0
 Vy:x<=0->y<0->z<0
 eq:x=0->y=0->z=0
def z8 (a b c:Int):oZ (cv a b) (cv b c) (cv a c):=by
 have s:∀a b:Int,(cv a b=-1/\a<b)\/(cv a b=1/\b<a)\/(cv a b=0/\a=b):=λa b=>by
  unfold cv;split
  .exact .inl ⟨rfl,by omega⟩
  .split
   .exact .inr (.inl ⟨rfl,by omega⟩)
   .exact .inr (.inr ⟨rfl,by omega⟩)
 rcases s a b with d|d|d<;>rcases s b c with e|e|e<;>rcases s a c with h|h|h<;>constructor<;>omega
def yJ {x y z n q u:Int} (E:oZ x y z) (F:oZ n q u):oZ (if x≠0 then x else n) (if y≠0 then y else q) (if z≠0 then z else u):=by
 obtain ⟨G,e,j,w⟩:=E;obtain ⟨A,B,C,D⟩:=F;by_cases k:x=0
 .by_cases h:y=0
  .have H:=w k h;rw [af (by omega),af (by omega),af (by omega)];exact ⟨A,B,C,D⟩
  .rw [af (by omega:¬x≠0),aq h];constructor
   .intro c d;have:=j (by omega) (by omega);rw [aq (by omega)];omega
   .intro c d;have:=j (by omega) (by omega);rw [aq (by omega)];omega
   .intro c d;have:=j (by omega) (by omega);rw [aq (by omega)];omega
   .intro c d;omega
 .rw [aq k];by_cases h:y=0
  .rw [af (by omega:¬y≠0)];constructor
   .intro c d;have:=e (by omega) (by omega);rw [aq (by omega)];omega
   .intro c d;have:=e (by omega) (by omega);rw [aq (by omega)];omega
   .intro c d;have:=e (by omega) (by omega);rw [aq (by omega)];omega
   .intro c d;omega
  .rw [aq h];constructor
   .intro c d;have:=e (by omega) (by omega);rw [aq (by omega)];omega
   .intro c d;have:=e (by omega) (by omega);rw [aq (by omega)];omega
   .intro c d;have:=e (by omega) (by omega);rw [aq (by omega)];omega
   .intro c d;omega
mutual
def sT:∀a b e:Rx,oZ (a8 a b) (a8 b e) (a8 a e)
 |.mk n lo h l,.mk q w j c,.mk u x k d=>by
  rw [qS,qS,qS];have:=F9 l c d;exact yJ (z8 _ _ _) (yJ (z8 _ _ _) (yJ (z8 _ _ _) (by show oZ (dU [cmpL l c]) (dU [cmpL c d]) (dU [cmpL l d]);rw [uq,uq,uq];exact this)))
def F9:∀a b h:List Rx,oZ (cmpL a b) (cmpL b h) (cmpL a h)
 |[],[],[]=>by unfold cmpL;constructor<;>omega
 |[],[],_::_=>by unfold cmpL;constructor<;>omega
 |[],_::_,[]=>by unfold cmpL;constructor<;>omega
 |_::_,[],[]=>by unfold cmpL;constructor<;>omega
 |_::_,[],_::_=>by have c:∀(x:Rx) (l:List Rx),cmpL (x::l) []=1:=λ_ _=>rfl;have d:∀(x:Rx) (l:List Rx),cmpL [] (x::l)=-1:=λ_ _=>rfl;rw [c,d];constructor<;>omega
 |[],e::m,k::j=>by have d:∀(x:Rx) (l:List Rx),cmpL [] (x::l)=-1:=λ_ _=>rfl;rw [d,d];constructor<;>omega
 |x::l,e::m,[]=>by have c:∀(x:Rx) (l:List Rx),cmpL (x::l) []=1:=λ_ _=>rfl;rw [c,c];constructor<;>omega
 |x::l,e::m,k::j=>yJ (sT x e k) (F9 l m j)
end
end Go.Proofs.YtocpddmpfbfdbaaGreatDoor
