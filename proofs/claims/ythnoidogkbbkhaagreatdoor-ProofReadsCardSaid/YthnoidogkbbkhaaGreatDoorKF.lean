import Derived.Test.YthnoidogkbbkhaaGreatDoorKR
import Derived.Test.YthnoidogkbbkhaaGreatDoorR1
import Derived.Test.YthnoidogkbbkhaaGreatDoorTP
set_option linter.unusedVariables false
set_option maxRecDepth 100000
set_option maxHeartbeats 1000000
namespace Go.Proofs.YthnoidogkbbkhaaGreatDoor
open List renaming mem_append->qmA,mem_cons->qmC,not_mem_nil->qnM,mem_of_getElem?->qmG,getElem?_eq_getElem->qgE,getElem?_eq_some_iff->qgS,mem_append_left->qmL,mem_append_right->qmR,mem_flatMap->qmF,mem_singleton->qmS,flatMap_cons->qfC,getElem?_set_ne->qgSN
open Go Go.W
section
variable {P:Program} {o:Oper} {E E0:Env} {w:World} {K:Env->World->Prop}
def SameOn (op:Op) (E E0:Env):Prop:=∀x∈op.operands.toList,∃u,E.val x=some u/\E0.val x=some u
theorem same_covers {op:Op} (h:SameOn op E E0) (ho:o.op=op):E.covers o=true:=by
 unfold Env.covers
 rw [ho]
 exact List.all_eq_true.2 λx hx=>by
  obtain ⟨u,h1,_⟩:=h x hx
  rw [h1];rfl
theorem same_exec {op:Op} (h:SameOn op E E0) (ho:o.op=op) (hs:∀cs b,op≠.select cs b):execOp E.ev o=execOp E0.ev o:=
 execOp_congr o (by rw [ho];exact hs) λx hx=>by
  rw [ho] at hx
  obtain ⟨u,h1,h2⟩:=h x (by simpa using hx)
  simp [Env.ev,h1,h2]
theorem st_pu {op:Op} {ty:TypeId} {v:Value} (ho:o.op=op) (ht:o.type=ty) (h:SameOn op E E0) (hs:∀cs b,op≠.select cs b)
  (hp:∀dst pos after guard (K:Env->World->Prop),stepI P ⟨dst,op,ty,pos,after,guard⟩ E w K=pureVC P ⟨dst,op,ty,pos,after,guard⟩ E λv _=>K (E.put dst v) w)
  (hr:∀dst pos after guard,pureRun P (execOp E0.ev ⟨dst,op,ty,pos,after,guard⟩)=some (.value v)) (hk:K (E.put o.dst v) w):stepI P o E w K:=by
 have h1:=same_covers h ho
 have h2:=same_exec h ho hs
 obtain ⟨dst,op',ty',pos,after,guard⟩:=o
 simp only at ho ht
 subst ho ht
 rw [hp]
 unfold pureVC
 rw [h1,h2,hr]
 exact hk
theorem st_ev {op:Op} {ty:TypeId} {v:Value} {w':World} (ho:o.op=op) (ht:o.type=ty) (h:SameOn op E E0) (hs:∀cs b,op≠.select cs b)
  (hp:∀dst pos after guard (K:Env->World->Prop),stepI P ⟨dst,op,ty,pos,after,guard⟩ E w K=evalVC P ⟨dst,op,ty,pos,after,guard⟩ E w λv w'=>K (E.put dst v) w')
  (hr:∀dst pos after guard,(execOp E0.ev ⟨dst,op,ty,pos,after,guard⟩).run P w=.ok (.value v) w') (hk:K (E.put o.dst v) w'):stepI P o E w K:=by
 have h1:=same_covers h ho
 have h2:=same_exec h ho hs
 obtain ⟨dst,op',ty',pos,after,guard⟩:=o
 simp only at ho ht
 subst ho ht
 rw [hp]
 unfold evalVC
 rw [h1,h2,hr]
 exact hk
end
theorem st_call3 {P:Program} {o:Oper} {E:Env} {w:World} {K:Env->World->Prop} {f a b:Nat} {c:Value} {ts:Array TypeId} {ty:TypeId} {x y:Value} (ho:o.op=.call ⟨.value (.func f),#[.tmp a,.tmp b,.const c],ts⟩) (ht:o.type=ty) (ha:E.get? a=some x) (hb:E.get? b=some y) (_hc:c=c) (hcl:callable P f=true)
  (h:Calls P f #[x,y,c] w λe w'=>exAny (zeroOf P ty) λv=>e=.returned v/\K (E.put o.dst v) w'):stepI P o E w K:=by
 obtain ⟨dst,op,ty',pos,after,guard⟩:=o
 simp only at ho ht
 subst ho ht
 show AndT (E.covers ⟨dst,.call ⟨.value (.func f),#[.tmp a,.tmp b,.const c],ts⟩,ty',pos,after,guard⟩) (bif callable P f then callVC P f ((#[Operand.tmp a,.tmp b,.const c]).map E.ev) (zeroOf P ty') w (λv w'=>K (E.put dst v) w') else extVC P f ((#[Operand.tmp a,.tmp b,.const c]).map E.ev) (zeroOf P ty') w (λv w'=>K (E.put dst v) w'))
 have hcv:E.covers ⟨dst,.call ⟨.value (.func f),#[.tmp a,.tmp b,.const c],ts⟩,ty',pos,after,guard⟩=true:=by simp [Env.covers,Op.operands,Call.operands,Env.val,ha,hb]
 have e1:E.ev (.tmp a)=x:=by simp [Env.ev,Env.val,ha]
 have e2:E.ev (.tmp b)=y:=by simp [Env.ev,Env.val,hb]
 have e3:E.ev (.const c)=c:=rfl
 rw [hcv,hcl]
 simp only [List.map_toArray,List.map_cons,List.map_nil,e1,e2,e3]
 exact h
def Held1 (T:List (Nat×Nat×(Value->Prop))) (L:Nat->Bool) (E:Env):Prop:=∀q∈T,(q.1=0\/L (q.1 - 1)=true)->∃v,E.get? q.2.1=some v/\q.2.2 v
theorem Held1.get {T:List (Nat×Nat×(Value->Prop))} {L:Nat->Bool} {E:Env} (h:Held1 T L E) {i d:Nat} {p:Value->Prop} (hq:(i,d,p)∈T) (hi:i=0\/L (i - 1)=true):∃v,E.get? d=some v/\p v:=h _ hq hi
theorem Held1.fill {T:List (Nat×Nat×(Value->Prop))} {L:Nat->Bool} {E:Env} (h:Held1 T L E) {i d:Nat} {v:Value} (h1:∀q∈T,q.2.1=d->q.1=i+1/\q.2.2 v) (h2:∀q∈T,q.1=i+1->q.2.1=d):Held1 T (setB L i) (E.put (some d) v):=by
 intro q hq hc
 by_cases hd:q.2.1=d
 .exact ⟨v,by rw [hd];exact get_put,(h1 q hq hd).2⟩
 .rw [get_put_ne (λe=>hd e.symm)]
  by_cases h0:q.1=0
  .exact h q hq (.inl h0)
  .refine h q hq (.inr ?_)
   have hc:=hc.resolve_left h0
   rwa [setB_ne (λhe=>hd (h2 q hq (by omega)))] at hc
theorem Held1.pass19 {T:List (Nat×Nat×(Value->Prop))} {L:Nat->Bool} {E:Env} (h:Held1 T L E) {i:Nat} {v:Value} (h1:∀q∈T,q.1≠i+1):Held1 T (setB L i) (E.put none v):=by
 intro q hq hc
 show ∃v,E.get? q.2.1=some v/\q.2.2 v
 refine h q hq ?_
 by_cases h0:q.1=0
 .exact .inl h0
 .have hc:=hc.resolve_left h0
  have:=h1 q hq
  rw [setB_ne (by omega)] at hc
  exact .inr hc
theorem st_app {P:Program} {o:Oper} {E:Env} {w:World} {K:Env->World->Prop} {a b:Nat} {ts:Array TypeId} {ty:TypeId} {s t:Sl} (ho:o.op=.call ⟨.builtin .append,#[.tmp a,.tmp b],ts⟩) (ht:o.type=ty) (ha:E.get? a=some s.v) (hb:E.get? b=some t.v)
  (h:∃s' w',(Builtin.append_ ts ty #[s.v,t.v]).run P w=.ok (Sl.v s') w'/\K (E.put o.dst s'.v) w'):stepI P o E w K:=by
 obtain ⟨dst,op,ty',pos,after,guard⟩:=o
 simp only at ho ht
 subst ho ht
 have hcv:E.covers ⟨dst,.call ⟨.builtin .append,#[.tmp a,.tmp b],ts⟩,ty',pos,after,guard⟩=true:=by simp [Env.covers,Op.operands,Call.operands,Env.val,ha,hb]
 have e1:E.ev (.tmp a)=s.v:=by simp [Env.ev,Env.val,ha]
 have e2:E.ev (.tmp b)=t.v:=by simp [Env.ev,Env.val,hb]
 show AndT (E.covers ⟨dst,.call ⟨.builtin .append,#[.tmp a,.tmp b],ts⟩,ty',pos,after,guard⟩) (∃s':Sl,∃w',(Builtin.append_ ts ty' ((#[Operand.tmp a,.tmp b]).map E.ev)).run P w=.ok s'.v w'/\K (E.put dst s'.v) w')
 rw [hcv]
 simp only [List.map_toArray,List.map_cons,List.map_nil,e1,e2]
 exact h
theorem st_sto {P:Program} {o:Oper} {E:Env} {w:World} {K:Env->World->Prop} {T:TypeId} {a b:Nat} {p:Addr} {s:Sl} (ho:o.op=.store T (.tmp a) (.tmp b)) (ha:E.get? a=some (.pointer (some p))) (hb:E.get? b=some s.v) (hi:(1==(match P.info? T with |some i=>i.size|none=>0)&&true&&(P.info? T).isSome)=true)
  (h:stV w (p.add 0) s.v λw'=>K (E.put o.dst undef) w'):stepI P o E w K:=by
 obtain ⟨dst,op,ty',pos,after,guard⟩:=o
 simp only at ho
 subst ho
 show (match E.val (.tmp a),E.val (.tmp b) with
  |some (.pointer (some p)),some v=>AndT (v.cells.size==(match P.info? T with |some i=>i.size|none=>0)&&v.cells.toList.all oneCell&&(P.info? T).isSome) (stVC p v.cells.toList 0 w λw'=>K (E.put dst undef) w')
  |_,_=>False)
 rw [show E.val (.tmp a)=some (.pointer (some p)) from ha,show E.val (.tmp b)=some s.v from hb]
 show AndT (1==(match P.info? T with |some i=>i.size|none=>0)&&true&&(P.info? T).isSome) _
 rw [hi]
 exact h
def fsTab:List (Op×Option Nat×TypeId×List Nat):=[
 (.fieldAddr ty_api_Proof (.tmp 5) 0,some 17,ty_,[]),
 (.load ty_sl_api_LemmaProof (.tmp 17),some 18,ty_sl_api_LemmaProof,[0]),
 (.build ty_api_Sort #[(1,.const (.int .i64 1))],some 19,ty_api_Sort,[]),
 (.build ty_api_Node #[(0,.const (.int .i64 0)),(5,.const (.string (ByteArray.mk #[118,48]))),(6,.tmp 19)],some 20,ty_api_Node,[2]),
 (.buildSlice ty_sl_api_Node 1 #[(0,.tmp 20)],some 21,ty_sl_api_Node,[3]),
 (.buildSlice ty_sl_int 1 #[(0,.const (.int .i64 0))],some 22,ty_sl_int,[]),
 (.move (.tmp 0),some 23,ty_sl_int,[]),
 (.move (.tmp 6),some 24,ty_int,[]),
 (.binOp .add ty_int (.const (.int .i64 1)) (.tmp 24) ty_int,some 25,ty_int,[7]),
 (.call ⟨.value (.func n_enthymemeref01_Pick),#[.tmp 23,.tmp 25,.const (.int .i64 2)],#[ty_sl_int,ty_int,ty_int]⟩,some 26,ty_int,[6,8]),
 (.binOp .add ty_int (.const (.int .i64 2)) (.tmp 26) ty_int,some 27,ty_int,[9]),
 (.buildSlice ty_sl_int 1 #[(0,.tmp 27)],some 28,ty_sl_int,[10]),
 (.buildSlice ty_sl_int 1 #[(0,.const (.int .i64 2))],some 29,ty_sl_int,[]),
 (.build ty_api_Step #[(0,.const (.int .i64 1)),(4,.const (.string (ByteArray.mk #[104,48]))),(5,.tmp 29)],some 30,ty_api_Step,[12]),
 (.buildSlice ty_sl_api_Step 1 #[(0,.tmp 30)],some 31,ty_sl_api_Step,[13]),
 (.build ty_api_LemmaProof #[(0,.tmp 21),(1,.tmp 22),(2,.tmp 28),(3,.tmp 31)],some 32,ty_api_LemmaProof,[4,5,11,14]),
 (.buildSlice ty_sl_api_LemmaProof 1 #[(0,.tmp 32)],some 33,ty_sl_api_LemmaProof,[15]),
 (.call ⟨.builtin .append,#[.tmp 18,.tmp 33],#[ty_sl_api_LemmaProof,ty_sl_api_LemmaProof]⟩,some 34,ty_sl_api_LemmaProof,[1,16,9]),
 (.fieldAddr ty_api_Proof (.tmp 5) 0,some 35,ty_,[0,1,2,3,4,5,6,7,8,9,10,11,12,13,14,15,16,17]),
 (.store ty_sl_api_LemmaProof (.tmp 35) (.tmp 34),none,ty_,[18,17,17,0,1,2,3,4,5,6,7,8,9,10,11,12,13,14,15,16,17])]
abbrev fsNode:Value:=.agg #[.i 0,.slice none 0 0,.i 0,.i 0,.u 0,.string (ByteArray.mk #[118,48]),.i 0,.i 1,.i 0]
abbrev fsStep (s:Sl):Value:=.agg #[.i 1,.i 0,.i 0,.slice none 0 0,.string (ByteArray.mk #[104,48]),s.v,.slice none 0 0]
abbrev isSl (v:Value):Prop:=∃s:Sl,v=s.v
abbrev isI (v:Value):Prop:=∃n:Int,v=.i n
def fsT (mo:Int) (t4:Addr) (l0:Sl) (out5:Addr) (i6:Int) (lem:Sl):List (Nat×Nat×(Value->Prop)):=[(0,1,(·=.i mo)),(0,4,(·=.pointer (some t4))),(0,0,(·=l0.v)),(0,5,(·=.pointer (some out5))),(0,6,(·=.i i6)),
 (1,17,(·=.pointer (some (out5.add 0)))),(2,18,(·=lem.v)),(3,19,(·=.agg #[.i 0,.i 1,.i 0])),(4,20,(·=fsNode)),(5,21,isSl),(6,22,isSl),(7,23,(·=l0.v)),(8,24,isI),(9,25,isI),(10,26,isI),(11,27,isI),(12,28,isSl),(13,29,isSl),
 (14,30,λv=>∃s:Sl,v=fsStep s),(15,31,isSl),(16,32,λv=>∃a b c d:Sl,v=.agg #[a.v,b.v,c.v,d.v]),(17,33,isSl),(18,34,isSl),(19,35,(·=.pointer (some (out5.add 0))))]
structure Lm where
 g:Sl
 h:Sl
 c:Sl
 s:Sl
def Lm.cs (x:Lm):List Value:=[x.g.v,x.h.v,x.c.v,x.s.v]
theorem Lm.len (l:List Lm):(l.flatMap Lm.cs).length=l.length *4:=flat_length Lm.cs 4 (λ_=>rfl) l
theorem Lm.one {l:List Lm}:∀u∈l.flatMap Lm.cs,u.oneCell'=true:=by
 intro u hu
 obtain ⟨d,_,hu⟩:=qmF.1 hu
 simp only [Lm.cs,qmC,qnM,or_false] at hu
 rcases hu with rfl|rfl|rfl|rfl<;>rfl
theorem el_lem:ElemOk Tryz.prog ty_sl_api_LemmaProof ty_api_LemmaProof (.agg #[.slice none 0 0,.slice none 0 0,.slice none 0 0,.slice none 0 0]) 4 96:=⟨by kernel_rfl,by kernel_rfl,rfl,by decide,by decide⟩
abbrev fsL (b4 b5:Nat) (lem:Sl) (ls:List Lm) (st:Sl) (ds:List Sp):List En:=[.c b4 [(⟨none,0,0⟩:Sl).v,(⟨none,0,0⟩:Sl).v] ty_api_Proof,.c b5 [lem.v,st.v] ty_api_Proof,.row ty_api_LemmaProof 4 lem (ls.flatMap Lm.cs),.row ty_api_Step 7 st (ds.flatMap Sp.c)]
section
variable {w0:World} {mo:Int} {b4 b5:Nat} {l0 lem st:Sl} {i6:Int} {ls:List Lm} {ds:List Sp} {D:List En}
def depsF (i:Nat):List Nat:=(fsTab.map λr=>r.2.2.2).getD i []
structure FsJ (w0:World) (mo:Int) (b4 b5:Nat) (l0 lem st:Sl) (i6:Int) (ls:List Lm) (ds:List Sp) (D:List En) (L:Nat->Bool) (E:Env) (w:World):Prop where
 t:Held1 (fsT mo (at0 b4) l0 (at0 b5) i6 lem) L E
 cl:∀i,L i=true->∀j∈depsF i,L j=true
 ph:(L 17=false/\L 19=false/\LH F0 w0 w (fsL b4 b5 lem ls st ds) D/\(L 16=true->∃(b:Nat) (x:Lm),E.get? 33=some (.slice (some (at0 b)) 1 1)/\w.heap[b]? =some (.cells x.cs.toArray ty_api_LemmaProof (0,0))))\/
  ((∀j,j<17->L j=true)/\L 17=true/\L 19=false/\∃(s:Sl) (x:Lm),E.get? 34=some s.v/\LH F0 w0 w [.c b4 [(⟨none,0,0⟩:Sl).v,(⟨none,0,0⟩:Sl).v] ty_api_Proof,.c b5 [lem.v,st.v] ty_api_Proof,.row ty_api_LemmaProof 4 s ((ls++[x]).flatMap Lm.cs),.row ty_api_Step 7 st (ds.flatMap Sp.c)] D)\/
  ((∀j,j<17->L j=true)/\L 17=true/\L 19=true/\∃(s:Sl) (x:Lm),LH F0 w0 w (fsL b4 b5 s (ls++[x]) st ds) D)
theorem cl_set {L:Nat->Bool} {i:Nat} (h:∀i,L i=true->∀j∈depsF i,L j=true) (hd:∀j∈depsF i,L j=true):∀k,setB L i k=true->∀j∈depsF k,setB L i j=true:=by
 intro k hk j hj
 have g:L j=true:=by
  by_cases hki:k=i
  .subst hki;exact hd j hj
  .rw [setB_ne hki] at hk;exact h k hk j hj
 simp [setB,g]
theorem FsJ.a {L:Nat->Bool} {E:Env} {w w':World} (h:FsJ w0 mo b4 b5 l0 lem st i6 ls ds D L E w) (i d:Nat) (v:Value) (hi:i<16) (hdep:∀j∈depsF i,L j=true) (hL:L i=false) (hd:d≠33) (f:Fr0 w w')
  (h1:∀q∈fsT mo (at0 b4) l0 (at0 b5) i6 lem,q.2.1=d->q.1=i+1/\q.2.2 v) (h2:∀q∈fsT mo (at0 b4) l0 (at0 b5) i6 lem,q.1=i+1->q.2.1=d):FsJ w0 mo b4 b5 l0 lem st i6 ls ds D (setB L i) (E.put (some d) v) w':=by
 refine ⟨h.t.fill h1 h2,cl_set h.cl hdep,?_⟩
 rcases h.ph with ⟨a1,a2,H,a3⟩|⟨a1,_⟩|⟨a1,_⟩
 .refine .inl ⟨by rw [setB_ne (by omega),a1],by rw [setB_ne (by omega),a2],H.fr0 f,λh16=>?_⟩
  rw [setB_ne (by omega)] at h16
  obtain ⟨b,x,e1,e2⟩:=a3 h16
  exact ⟨b,x,by rw [get_put_ne hd,e1],f.at e2 id⟩
 .rw [a1 i (by omega)] at hL;cases hL
 .rw [a1 i (by omega)] at hL;cases hL
theorem same1 {op:Op} {a:Nat} {E:Env} {v:Value} (h:∀x∈op.operands.toList,x=.tmp a\/∃c,x=.const c) (he:E.get? a=some v):SameOn op E [(a,v)]:=λx hx=>by
 rcases h x hx with rfl|⟨c,rfl⟩
 .exact ⟨v,he,by simp [Env.val,Env.get?]⟩
 .exact ⟨c,rfl,rfl⟩
theorem same0 {op:Op} {E:Env} (h:∀x∈op.operands.toList,∃c,x=.const c):SameOn op E []:=λx hx=>by
 obtain ⟨c,rfl⟩:=h x hx
 exact ⟨c,rfl,rfl⟩
theorem fs_rows (hls:ls.length<=1000) (hnums:∀w',LH F0 w0 w' (fsL b4 b5 lem ls st ds) D->∃xs,Nums w' l0 xs/\∀x∈xs,I64 x):allI (RowI Tryz.prog (FsJ w0 mo b4 b5 l0 lem st i6 ls ds D)) fsTab 0:=
 ⟨λL E w' o ho hd ht hi hdep hJ=>by
   obtain ⟨_,g5,rfl⟩:=hJ.t.get (i:=0) (d:=5) (p:=(·=.pointer (some (at0 b5)))) (by simp [fsT]) (.inl rfl)
   refine st_pu ho ht (same1 (by simp [Op.operands]) g5) (by simp) (λ_ _ _ _ _=>rfl) (λ_ _ _ _=>by kernel_rfl) (v:=.pointer (some ((at0 b5).add 0))) ?_
   rw [hd]
   exact hJ.a 0 17 _ (by omega) hdep hi (by omega) (Fr.refl _ _) (by simp [fsT]) (by simp [fsT]),
  λL E w' o ho hd ht hi hdep hJ=>by
   obtain ⟨_,g17,rfl⟩:=hJ.t.get (i:=1) (d:=17) (p:=(·=.pointer (some ((at0 b5).add 0)))) (by simp [fsT]) (.inr (hdep 0 (by simp)))
   have e:(ldVC Tryz.prog ty_sl_api_LemmaProof ((at0 b5).add 0) w' λv _=>FsJ w0 mo b4 b5 l0 lem st i6 ls ds D (setB L 1) (E.put o.dst v) w')=(∃s:Sl,w'.cell? ((at0 b5).add 0)=some s.v/\FsJ w0 mo b4 b5 l0 lem st i6 ls ds D (setB L 1) (E.put o.dst s.v) w'):=by kernel_rfl
   refine st_ld ho g17 (e▸⟨lem,?_,?_⟩)
   .rcases hJ.ph with ⟨_,_,H,_⟩|⟨a1,_⟩|⟨a1,_⟩
    .exact H.ld 1 0
    .rw [a1 1 (by omega)] at hi;cases hi
    .rw [a1 1 (by omega)] at hi;cases hi
   .rw [hd]
    exact hJ.a 1 18 _ (by omega) hdep hi (by omega) (Fr.refl _ _) (by simp [fsT]) (by simp [fsT]),
  λL E w' o ho hd ht hi hdep hJ=>by
   refine st_pu ho ht (same0 (by simp [Op.operands])) (by simp) (λ_ _ _ _ _=>rfl) (λ_ _ _ _=>by kernel_rfl) (v:=.agg #[.i 0,.i 1,.i 0]) ?_
   rw [hd]
   exact hJ.a 2 19 _ (by omega) hdep hi (by omega) (Fr.refl _ _) (by simp [fsT]) (by simp [fsT]),
  λL E w' o ho hd ht hi hdep hJ=>by
   obtain ⟨_,g,rfl⟩:=hJ.t.get (i:=3) (d:=19) (p:=(·=.agg #[.i 0,.i 1,.i 0])) (by simp [fsT]) (.inr (hdep 2 (by simp)))
   refine st_pu ho ht (same1 (by simp [Op.operands]) g) (by simp) (λ_ _ _ _ _=>rfl) (λ_ _ _ _=>by kernel_rfl) (v:=fsNode) ?_
   rw [hd]
   exact hJ.a 3 20 _ (by omega) hdep hi (by omega) (Fr.refl _ _) (by simp [fsT]) (by simp [fsT]),
  λL E w' o ho hd ht hi hdep hJ=>by
   obtain ⟨_,g,rfl⟩:=hJ.t.get (i:=4) (d:=20) (p:=(·=fsNode)) (by simp [fsT]) (.inr (hdep 3 (by simp)))
   refine st_ev ho ht (same1 (by simp [Op.operands]) g) (by simp) (λ_ _ _ _ _=>rfl) (λ_ _ _ _=>by kernel_rfl) (v:=.slice (some (at0 w'.heap.size)) 1 1) (w':=w'.alloc (.cells #[.i 0,.slice none 0 0,.i 0,.i 0,.u 0,.string (ByteArray.mk #[118,48]),.i 0,.i 1,.i 0] ty_api_Node)) ?_
   rw [hd]
   exact hJ.a 4 21 _ (by omega) hdep hi (by omega) (Fr.alloc _ _ _) (by simp [fsT];exact ⟨⟨some (at0 w'.heap.size),1,1⟩,rfl⟩) (by simp [fsT]),
  λL E w' o ho hd ht hi hdep hJ=>by
   refine st_ev ho ht (same0 (by simp [Op.operands])) (by simp) (λ_ _ _ _ _=>rfl) (λ_ _ _ _=>by kernel_rfl) (v:=.slice (some (at0 w'.heap.size)) 1 1) (w':=w'.alloc (.cells #[.i 0] ty_int)) ?_
   rw [hd]
   exact hJ.a 5 22 _ (by omega) hdep hi (by omega) (Fr.alloc _ _ _) (by simp [fsT];exact ⟨⟨some (at0 w'.heap.size),1,1⟩,rfl⟩) (by simp [fsT]),
  λL E w' o ho hd ht hi hdep hJ=>by
   obtain ⟨_,g,rfl⟩:=hJ.t.get (i:=0) (d:=0) (p:=(·=l0.v)) (by simp [fsT]) (.inl rfl)
   refine st_mv (.inl ho) g ?_
   rw [hd]
   exact hJ.a 6 23 _ (by omega) hdep hi (by omega) (Fr.refl _ _) (by simp [fsT]) (by simp [fsT]),
  λL E w' o ho hd ht hi hdep hJ=>by
   obtain ⟨_,g,rfl⟩:=hJ.t.get (i:=0) (d:=6) (p:=(·=.i i6)) (by simp [fsT]) (.inl rfl)
   refine st_mv (.inl ho) g ?_
   rw [hd]
   exact hJ.a 7 24 _ (by omega) hdep hi (by omega) (Fr.refl _ _) (by simp [fsT];exact ⟨_,rfl⟩) (by simp [fsT]),
  λL E w' o ho hd ht hi hdep hJ=>by
   obtain ⟨_,g,n,rfl⟩:=hJ.t.get (i:=8) (d:=24) (p:=isI) (by simp [fsT]) (.inr (hdep 7 (by simp)))
   refine st_pu ho ht (same1 (by simp [Op.operands]) g) (by simp) (λ_ _ _ _ _=>rfl) (λ_ _ _ _=>by kernel_rfl) (v:=.i (IntKind.wrap .i64 (1+n))) ?_
   rw [hd]
   exact hJ.a 8 25 _ (by omega) hdep hi (by omega) (Fr.refl _ _) (by simp [fsT];exact ⟨_,rfl⟩) (by simp [fsT]),
  λL E w' o ho hd ht hi hdep hJ=>by
   obtain ⟨_,g,rfl⟩:=hJ.t.get (i:=7) (d:=23) (p:=(·=l0.v)) (by simp [fsT]) (.inr (hdep 6 (by simp)))
   obtain ⟨_,g',n,rfl⟩:=hJ.t.get (i:=9) (d:=25) (p:=isI) (by simp [fsT]) (.inr (hdep 8 (by simp)))
   obtain ⟨xs,hx,hxi⟩:=hnums w' (by
    rcases hJ.ph with ⟨_,_,H,_⟩|⟨a1,_⟩|⟨a1,_⟩
    .exact H
    .rw [a1 9 (by omega)] at hi;cases hi
    .rw [a1 9 (by omega)] at hi;cases hi)
   refine st_call3 ho ht g g' rfl (by kernel_rfl) ((c_Pick hx hxi n 2 (by omega)).mono ?_)
   rintro _ w2 ⟨⟨k,rfl,_⟩,f⟩
   rw [show zeroOf Tryz.prog ty_int=.i 0 from by kernel_rfl]
   refine ⟨k,rfl,?_⟩
   rw [hd]
   exact hJ.a 9 26 _ (by omega) hdep hi (by omega) f (by simp [fsT];exact ⟨_,rfl⟩) (by simp [fsT]),
  λL E w' o ho hd ht hi hdep hJ=>by
   obtain ⟨_,g,n,rfl⟩:=hJ.t.get (i:=10) (d:=26) (p:=isI) (by simp [fsT]) (.inr (hdep 9 (by simp)))
   refine st_pu ho ht (same1 (by simp [Op.operands]) g) (by simp) (λ_ _ _ _ _=>rfl) (λ_ _ _ _=>by kernel_rfl) (v:=.i (IntKind.wrap .i64 (2+n))) ?_
   rw [hd]
   exact hJ.a 10 27 _ (by omega) hdep hi (by omega) (Fr.refl _ _) (by simp [fsT];exact ⟨_,rfl⟩) (by simp [fsT]),
  λL E w' o ho hd ht hi hdep hJ=>by
   obtain ⟨_,g,n,rfl⟩:=hJ.t.get (i:=11) (d:=27) (p:=isI) (by simp [fsT]) (.inr (hdep 10 (by simp)))
   refine st_ev ho ht (same1 (by simp [Op.operands]) g) (by simp) (λ_ _ _ _ _=>rfl) (λ_ _ _ _=>by kernel_rfl) (v:=.slice (some (at0 w'.heap.size)) 1 1) (w':=w'.alloc (.cells #[.i n] ty_int)) ?_
   rw [hd]
   exact hJ.a 11 28 _ (by omega) hdep hi (by omega) (Fr.alloc _ _ _) (by simp [fsT];exact ⟨⟨some (at0 w'.heap.size),1,1⟩,rfl⟩) (by simp [fsT]),
  λL E w' o ho hd ht hi hdep hJ=>by
   refine st_ev ho ht (same0 (by simp [Op.operands])) (by simp) (λ_ _ _ _ _=>rfl) (λ_ _ _ _=>by kernel_rfl) (v:=.slice (some (at0 w'.heap.size)) 1 1) (w':=w'.alloc (.cells #[.i 2] ty_int)) ?_
   rw [hd]
   exact hJ.a 12 29 _ (by omega) hdep hi (by omega) (Fr.alloc _ _ _) (by simp [fsT];exact ⟨⟨some (at0 w'.heap.size),1,1⟩,rfl⟩) (by simp [fsT]),
  λL E w' o ho hd ht hi hdep hJ=>by
   obtain ⟨_,g,s,rfl⟩:=hJ.t.get (i:=13) (d:=29) (p:=isSl) (by simp [fsT]) (.inr (hdep 12 (by simp)))
   refine st_pu ho ht (same1 (by simp [Op.operands]) g) (by simp) (λ_ _ _ _ _=>rfl) (λ_ _ _ _=>by kernel_rfl) (v:=fsStep s) ?_
   rw [hd]
   exact hJ.a 13 30 _ (by omega) hdep hi (by omega) (Fr.refl _ _) (by simp [fsT];exact ⟨s,rfl,rfl,rfl⟩) (by simp [fsT]),
  λL E w' o ho hd ht hi hdep hJ=>by
   obtain ⟨_,g,s,rfl⟩:=hJ.t.get (i:=14) (d:=30) (p:=λv=>∃s:Sl,v=fsStep s) (by simp [fsT]) (.inr (hdep 13 (by simp)))
   refine st_ev ho ht (same1 (by simp [Op.operands]) g) (by simp) (λ_ _ _ _ _=>rfl) (λ_ _ _ _=>by kernel_rfl) (v:=.slice (some (at0 w'.heap.size)) 1 1) (w':=w'.alloc (.cells #[.i 1,.i 0,.i 0,.slice none 0 0,.string (ByteArray.mk #[104,48]),s.v,.slice none 0 0] ty_api_Step)) ?_
   rw [hd]
   exact hJ.a 14 31 _ (by omega) hdep hi (by omega) (Fr.alloc _ _ _) (by simp [fsT];exact ⟨⟨some (at0 w'.heap.size),1,1⟩,rfl⟩) (by simp [fsT]),
  λL E w' o ho hd ht hi hdep hJ=>by
   obtain ⟨_,g1,a,rfl⟩:=hJ.t.get (i:=5) (d:=21) (p:=isSl) (by simp [fsT]) (.inr (hdep 4 (by simp)))
   obtain ⟨_,g2,b,rfl⟩:=hJ.t.get (i:=6) (d:=22) (p:=isSl) (by simp [fsT]) (.inr (hdep 5 (by simp)))
   obtain ⟨_,g3,c,rfl⟩:=hJ.t.get (i:=12) (d:=28) (p:=isSl) (by simp [fsT]) (.inr (hdep 11 (by simp)))
   obtain ⟨_,g4,d,rfl⟩:=hJ.t.get (i:=15) (d:=31) (p:=isSl) (by simp [fsT]) (.inr (hdep 14 (by simp)))
   refine st_pu ho ht (E0:=[(21,a.v),(22,b.v),(28,c.v),(31,d.v)]) (λx hx=>?_) (by simp) (λ_ _ _ _ _=>rfl) (λ_ _ _ _=>by kernel_rfl) (v:=.agg #[a.v,b.v,c.v,d.v]) ?_
   .have hx:x=.tmp 21\/x=.tmp 22\/x=.tmp 28\/x=.tmp 31:=by simpa [Op.operands] using hx
    rcases hx with rfl|rfl|rfl|rfl
    .exact ⟨_,g1,rfl⟩
    .exact ⟨_,g2,rfl⟩
    .exact ⟨_,g3,rfl⟩
    .exact ⟨_,g4,rfl⟩
   rw [hd]
   exact hJ.a 15 32 _ (by omega) hdep hi (by omega) (Fr.refl _ _) (by simp [fsT];exact ⟨⟨a,rfl,rfl,rfl⟩,⟨b,rfl,rfl,rfl⟩,⟨c,rfl,rfl,rfl⟩,d,rfl,rfl,rfl⟩) (by simp [fsT]),
  λL E w' o ho hd ht hi hdep hJ=>by
   obtain ⟨_,g,a,b,c,d,rfl⟩:=hJ.t.get (i:=16) (d:=32) (p:=λv=>∃a b c d:Sl,v=.agg #[a.v,b.v,c.v,d.v]) (by simp [fsT]) (.inr (hdep 15 (by simp)))
   refine st_ev ho ht (same1 (by simp [Op.operands]) g) (by simp) (λ_ _ _ _ _=>rfl) (λ_ _ _ _=>by kernel_rfl) (v:=.slice (some (at0 w'.heap.size)) 1 1) (w':=w'.alloc (.cells #[a.v,b.v,c.v,d.v] ty_api_LemmaProof)) ?_
   rw [hd]
   refine ⟨hJ.t.fill (by simp [fsT];exact ⟨⟨some (at0 w'.heap.size),1,1⟩,rfl⟩) (by simp [fsT]),cl_set hJ.cl hdep,?_⟩
   rcases hJ.ph with ⟨a1,a2,H,a3⟩|⟨a1,_⟩|⟨a1,_⟩
   .exact .inl ⟨by rw [setB_ne (by omega),a1],by rw [setB_ne (by omega),a2],H.fr0 (Fr.alloc _ _ _),λ_=>⟨w'.heap.size,⟨a,b,c,d⟩,get_put,heap_new w' _⟩⟩
   .rw [a1 16 (by omega)] at hi;cases hi
   .rw [a1 16 (by omega)] at hi;exact Bool.noConfusion hi,
  λL E w' o ho hd ht hi hdep hJ=>by
   obtain ⟨_,g18,rfl⟩:=hJ.t.get (i:=2) (d:=18) (p:=(·=lem.v)) (by simp [fsT]) (.inr (hdep 1 (by simp)))
   rcases hJ.ph with ⟨a1,a2,H,a3⟩|⟨_,a1,_⟩|⟨_,a1,_⟩
   .obtain ⟨b,x,e1,e2⟩:=a3 (hdep 16 (by simp))
    have hn:=(H.get 2:OwnRow _ _ _ _ _).len
    rw [Lm.len] at hn
    refine st_app ho ht g18 e1 (s:=lem) (t:=⟨some (at0 b),1,1⟩) (H.ap 2 el_lem (src:=⟨some (at0 b),1,1⟩) (news:=x.cs) rfl (row_n (n:=1) (sz:=4) (cs:=x.cs) e2 rfl).2.2 rfl (λu hu=>Lm.one (l:=[x]) u (by simpa using hu)) (by show (lem.n+1) *96<=_;omega) λs' w2 H2 _ _=>?_)
    rw [hd]
    refine ⟨hJ.t.fill (by simp [fsT];exact ⟨s',rfl⟩) (by simp [fsT]),cl_set hJ.cl hdep,.inr (.inl ⟨λj hj=>?_,setB_eq,by rw [setB_ne (by omega),a2],s',x,get_put,?_⟩)⟩
    .rw [setB_ne (by omega)]
     have c16:=hJ.cl 16 (hdep 16 (by simp))
     have c15:=hJ.cl 15 (c16 15 (by decide))
     have c4:=hJ.cl 4 (c15 4 (by decide))
     have c3:=hJ.cl 3 (c4 3 (by decide))
     have c11:=hJ.cl 11 (c15 11 (by decide))
     have c10:=hJ.cl 10 (c11 10 (by decide))
     have c9:=hJ.cl 9 (c10 9 (by decide))
     have c8:=hJ.cl 8 (c9 8 (by decide))
     have c14:=hJ.cl 14 (c15 14 (by decide))
     have c13:=hJ.cl 13 (c14 13 (by decide))
     have c1:=hJ.cl 1 (hdep 1 (by simp))
     match j,hj with
     |0,_=>exact c1 0 (by decide)
     |1,_=>exact hdep 1 (by simp)
     |2,_=>exact c3 2 (by decide)
     |3,_=>exact c4 3 (by decide)
     |4,_=>exact c15 4 (by decide)
     |5,_=>exact c15 5 (by decide)
     |6,_=>exact c9 6 (by decide)
     |7,_=>exact c8 7 (by decide)
     |8,_=>exact c9 8 (by decide)
     |9,_=>exact c10 9 (by decide)
     |10,_=>exact c11 10 (by decide)
     |11,_=>exact c15 11 (by decide)
     |12,_=>exact c13 12 (by decide)
     |13,_=>exact c14 13 (by decide)
     |14,_=>exact c15 14 (by decide)
     |15,_=>exact c16 15 (by decide)
     |16,_=>exact hdep 16 (by simp)
     |j+17,h=>exact absurd h (by omega)
    .have e:(ls++[x]).flatMap Lm.cs=ls.flatMap Lm.cs++x.cs:=by simp
     rw [e]
     exact H2
   .rw [a1] at hi;cases hi
   .rw [a1] at hi;exact Bool.noConfusion hi,
  λL E w' o ho hd ht hi hdep hJ=>by
   obtain ⟨_,g5,rfl⟩:=hJ.t.get (i:=0) (d:=5) (p:=(·=.pointer (some (at0 b5)))) (by simp [fsT]) (.inl rfl)
   refine st_pu ho ht (same1 (by simp [Op.operands]) g5) (by simp) (λ_ _ _ _ _=>rfl) (λ_ _ _ _=>by kernel_rfl) (v:=.pointer (some ((at0 b5).add 0))) ?_
   rw [hd]
   refine ⟨hJ.t.fill (by simp [fsT]) (by simp [fsT]),cl_set hJ.cl hdep,?_⟩
   rcases hJ.ph with ⟨a1,_⟩|⟨a1,a2,a3,s,x,a4,a5⟩|⟨a1,a2,a3,a4⟩
   .rw [hdep 17 (by simp)] at a1;cases a1
   .exact .inr (.inl ⟨λj hj=>by rw [setB_ne (by omega)];exact a1 j hj,by rw [setB_ne (by omega),a2],by rw [setB_ne (by omega),a3],s,x,by rw [get_put_ne (by omega),a4],a5⟩)
   .exact .inr (.inr ⟨λj hj=>by rw [setB_ne (by omega)];exact a1 j hj,by rw [setB_ne (by omega),a2],by rw [setB_ne (by omega),a3],a4⟩),
  λL E w' o ho hd ht hi hdep hJ=>by
   obtain ⟨_,g35,rfl⟩:=hJ.t.get (i:=19) (d:=35) (p:=(·=.pointer (some ((at0 b5).add 0)))) (by simp [fsT]) (.inr (hdep 18 (by simp)))
   rcases hJ.ph with ⟨a1,_⟩|⟨a1,a2,a3,s,x,a4,H⟩|⟨a1,a2,a3,a4⟩
   .rw [hdep 17 (by simp)] at a1;cases a1
   .refine st_sto ho g35 a4 (by kernel_rfl) ?_
    rw [add_add]
    refine H.st 1 0 rfl λw2 H2=>?_
    rw [hd]
    refine ⟨hJ.t.pass19 (by simp [fsT]),cl_set hJ.cl hdep,.inr (.inr ⟨λj hj=>by rw [setB_ne (by omega)];exact a1 j hj,by rw [setB_ne (by omega),a2],setB_eq,s,x,H2⟩)⟩
   .rw [a3] at hi;exact Bool.noConfusion hi,
  trivial⟩
theorem fs_region {w:World} {R:Post} (H:LH F0 w0 w (fsL b4 b5 lem ls st ds) D) (hls:ls.length<=1000) (hnums:∀w',LH F0 w0 w' (fsL b4 b5 lem ls st ds) D->∃xs,Nums w' l0 xs/\∀x∈xs,I64 x) {t13:Int}
  (hk:∀s x w',LH F0 w0 w' (fsL b4 b5 s (ls++[x]) st ds) D->enthymemeref25_first.S1 l0 mo (at0 b4) (at0 b5) i6 w' R):
  igK Tryz.prog enthymemeref25_first.C11 (λE w=>enthymemeref25_first.KE_S1 E w R) [(14,.bool (decide (i6<t13))),(13,.i t13),(12,l0.v),(11,.i i6),(0,l0.v),(1,.i mo),(4,.pointer (some (at0 b4))),(5,.pointer (some (at0 b5))),(6,.i i6)] w:=by
 refine ig_tab fsTab (by kernel_rfl) (FsJ w0 mo b4 b5 l0 lem st i6 ls ds D) ⟨λq hq hc=>?_,λi h=>(by cases h),.inl ⟨rfl,rfl,H.drew,λh=>(by cases h)⟩⟩ (fs_rows hls hnums) λL E w' hL hJ=>?_
 .have hc:q.1=0:=hc.resolve_right (by simp)
  simp only [fsT,qmC,qnM,or_false] at hq
  rcases hq with rfl|rfl|rfl|rfl|rfl|rfl|rfl|rfl|rfl|rfl|rfl|rfl|rfl|rfl|rfl|rfl|rfl|rfl|rfl|rfl|rfl|rfl|rfl|rfl<;>first |(exact ⟨_,rfl,rfl⟩)|(exact Nat.noConfusion hc)
 .rcases hJ.ph with ⟨a1,_⟩|⟨_,_,a3,_⟩|⟨_,_,_,s,x,H'⟩
  .rw [hL 17 (by decide)] at a1;cases a1
  .rw [hL 19 (by decide)] at a3;cases a3
  .obtain ⟨_,e0,rfl⟩:=hJ.t.get (i:=0) (d:=0) (p:=(·=l0.v)) (by simp [fsT]) (.inl rfl)
   obtain ⟨_,e1,rfl⟩:=hJ.t.get (i:=0) (d:=1) (p:=(·=.i mo)) (by simp [fsT]) (.inl rfl)
   obtain ⟨_,e4,rfl⟩:=hJ.t.get (i:=0) (d:=4) (p:=(·=.pointer (some (at0 b4)))) (by simp [fsT]) (.inl rfl)
   obtain ⟨_,e5,rfl⟩:=hJ.t.get (i:=0) (d:=5) (p:=(·=.pointer (some (at0 b5)))) (by simp [fsT]) (.inl rfl)
   obtain ⟨_,e6,rfl⟩:=hJ.t.get (i:=0) (d:=6) (p:=(·=.i i6)) (by simp [fsT]) (.inl rfl)
   unfold enthymemeref25_first.KE_S1
   rw [e0,e1,e4,e5,e6]
   exact hk s x w' H'
end
def nmsL:List ByteArray:=[ba [],ba [97],ba [98],ba [99],ba [100,100]]
structure GenS (pl i lem:Nat) (s:Stp):Prop where
 kind:0<=s.kind/\s.kind<=5
 node:I64 s.node/\(s.kind=4->0<=s.node/\s.node<(lem:Int))
 rule:I64 s.rule
 params:(∀x∈s.params,I64 x)/\s.params.length<=pl
 lits:clauseE s.lits=0/\(∀x∈s.lits,I64 x)/\s.lits.length<=3
 hints:(∀x∈s.hints,0<=x/\x<(i:Int))/\s.hints.length<=2
 nm:s.nm∈nmsL
theorem sl_more' {M:Nat->Prop} {w0 w:World} {L D D1:List En} {l:List Sp} {d:Sp} (H:LH M w0 w L D1) (hs:∀e∈D,e∈D1) (hl:slE l∈D1) (hd:∀e∈[d.pE,d.hE,d.lE],e∈D1\/(e.fp=[]/\∀w,e.P w)):LH M w0 w L (D++[slE (l++[d])]):=by
 have hnew:∀e∈spL (l++[d]),e∈spL l\/e∈[d.pE,d.hE,d.lE]:=λe he=>by
  simp only [spL,List.flatMap_append,qmA,qfC,List.flatMap_nil,List.append_nil] at he
  exact he
 refine H.mapD _ λe he=>?_
 rcases qmA.1 he with he|he
 .exact ⟨λh=>h e (hs e he),λb hb=>⟨e,hs e he,hb⟩⟩
 .rw [qmS.1 he]
  refine ⟨λh e he=>?_,λb hb=>?_⟩
  .rcases hnew e he with he|he
   .exact h (slE l) hl e he
   .exact (hd e he).elim (h e) λh=>h.2 w
  .obtain ⟨e,he,hbe⟩:=all_fp.1 hb
   rcases hnew e he with he|he
   .exact ⟨slE l,hl,all_fp.2 ⟨e,he,hbe⟩⟩
   .rcases hd e he with h|h
    .exact ⟨e,h,hbe⟩
    .rw [h.1] at hbe;cases hbe
theorem nil_ok:(En.rd ⟨none,0,0⟩ (([]:List Int).map intV)).fp=[]/\∀w,(En.rd ⟨none,0,0⟩ (([]:List Int).map intV)).P w:=⟨by simp [En.rd],λw=>Rd.nil w⟩
def FirstP (w0:World) (D:List En) (most:Nat) (r:Ending) (w':World):Prop:=∃(lem st:Sl) (ls:List Lm) (ds:List Sp),r=.returned (.agg #[lem.v,st.v])/\LH F0 w0 w' [.row ty_api_LemmaProof 4 lem (ls.flatMap Lm.cs),.row ty_api_Step 7 st (ds.flatMap Sp.c)] (D++[slE ds])/\
 (∀b∈(slE ds).fp,w0.heap.size<=b)/\ls.length<=2/\ds.length<=most/\∀i d,ds[i]? =some d->GenS 1 i ls.length d.x
abbrev s9E (b9:Nat) (x:Stp) (p l h:Sl):En:=.c b9 [.i x.kind,.i x.node,.i x.rule,p.v,.string x.nm,l.v,h.v] ty_api_Step
section
variable {w0:World} {most b4 b5 b9:Nat} {l0 lem st:Sl} {xs:List Int} {ls:List Lm} {ds:List Sp} {D:List En}
theorem tm_nat (n m:Nat):Int.tmod (n:Int) (m:Int)=((n%m:Nat):Int):=rfl
abbrev FsH (w0:World) (b4 b5:Nat) (lem:Sl) (ls:List Lm) (st:Sl) (ds:List Sp) (D:List En) (w:World):Prop:=LH F0 w0 w (fsL b4 b5 lem ls st ds) (D++[slE ds])
theorem fs_S6 {i7:Nat} {x:Stp} {p l h:Sl} {D1:List En} {w:World} {R:Post} (hi:i7<=1000000) (hdl:ds.length<=1000000) (H:LH F0 w0 w (fsL b4 b5 lem ls st ds++[s9E b9 x p l h]) D1) (hs:∀e∈D,e∈D1) (hl:slE ds∈D1)
  (hd:∀e∈[Sp.pE ⟨x,p,l,h⟩,Sp.hE ⟨x,p,l,h⟩,Sp.lE ⟨x,p,l,h⟩],(e∈D1\/(e.fp=[]/\∀w,e.P w)))
  (hk:∀st' w',FsH w0 b4 b5 lem ls st' (ds++[⟨x,p,l,h⟩]) D w'->enthymemeref25_first.L2 l0 most (at0 b4) (at0 b5) ((i7+1:Nat):Int) w' R):
  enthymemeref25_first.S6 l0 most (at0 b4) (at0 b5) (i7:Int) (at0 b9) w R:=by
 have hn:=(H.get 3:OwnRow _ _ _ _ _).len
 rw [Sp.cs_len] at hn
 refine ⟨st,H.ld 1 1,_,_,_,_,_,_,_,H.ld 4 0,H.ld 4 1,H.ld 4 2,H.ld 4 3,H.ld 4 4,H.ld 4 5,H.ld 4 6,H.ap1 3 el_step rfl (λst' w2 H2 _ _=>H2.st 1 1 rfl λw3 H3=>?_) (by omega)⟩
 rw [i64_next _ (by omega)]
 refine hk st' w3 (sl_more' (l:=ds) (d:=(⟨x,p,l,h⟩:Sp)) ?_ hs hl hd)
 have e:(ds++[(⟨x,p,l,h⟩:Sp)]).flatMap Sp.c=ds.flatMap Sp.c++Sp.c ⟨x,p,l,h⟩:=by simp
 have H4:=H3.take 4
 unfold fsL
 rw [e]
 exact H4
structure Pre (w0:World) (b4 b5 b9:Nat) (lem:Sl) (ls:List Lm) (st:Sl) (ds:List Sp) (D:List En) (i7:Nat) (x:Stp) (p l:Sl) (w:World):Prop where
 g:GenS 1 i7 ls.length x/\x.hints=[]
 H:∃D1,LH F0 w0 w (fsL b4 b5 lem ls st ds++[s9E b9 x p l ⟨none,0,0⟩]) D1/\(∀e∈D,e∈D1)/\slE ds∈D1/\(∀e∈[Sp.pE ⟨x,p,l,⟨none,0,0⟩⟩,Sp.lE ⟨x,p,l,⟨none,0,0⟩⟩],(e∈D1\/(e.fp=[]/\∀w,e.P w))/\∀b∈e.fp,w0.heap.size<=b)
theorem fs_S4 {i7 n:Nat} {x:Stp} {p l:Sl} {w:World} {R:Post} (hi:i7<=1000000) (hn:n<=1073741824) (hdl:ds.length<=1000000) (Y:Pre w0 b4 b5 b9 lem ls st ds D i7 x p l w)
  (hk:∀(d:Sp) st' w',GenS 1 i7 ls.length d.x->(∀e∈[d.pE,d.hE,d.lE],∀b∈e.fp,w0.heap.size<=b)->FsH w0 b4 b5 lem ls st' (ds++[d]) D w'->enthymemeref25_first.L2 l0 most (at0 b4) (at0 b5) ((i7+1:Nat):Int) w' R):
  enthymemeref25_first.S4 l0 most (at0 b4) (at0 b5) (i7:Int) (n:Int) (at0 b9) w R:=by
 obtain ⟨⟨hg,hh0⟩,D1,H,hs,hl,hpl⟩:=Y
 have hp:=hpl _ (List.mem_cons_self ..)
 have hl':=hpl _ (List.mem_cons_of_mem _ (List.mem_cons_self ..))
 have S6:enthymemeref25_first.S6 l0 most (at0 b4) (at0 b5) (i7:Int) (at0 b9) w R:=by
  refine fs_S6 (x:=x) (p:=p) (l:=l) (h:=⟨none,0,0⟩) hi hdl H hs hl (λe he=>?_) λst' w' H'=>hk ⟨x,p,l,⟨none,0,0⟩⟩ st' w' hg (λe he=>?_) H'
  .simp only [qmC,qnM,or_false] at he
   rcases he with rfl|rfl|rfl
   .exact hp.1
   .refine .inr ?_
    show (En.rd ⟨none,0,0⟩ (x.hints.map intV)).fp=[]/\∀w,(En.rd ⟨none,0,0⟩ (x.hints.map intV)).P w
    rw [hh0];exact nil_ok
   .exact hl'.1
  .simp only [qmC,qnM,or_false] at he
   rcases he with rfl|rfl|rfl
   .exact hp.2
   .intro b hb
    have hb:b∈(En.rd ⟨none,0,0⟩ (x.hints.map intV)).fp:=hb
    rw [hh0,nil_ok.1] at hb
    cases hb
   .exact hl'.2
 refine sel_dec (λhi0=>?_) (λ_=>S6)
 have S5:enthymemeref25_first.S5 l0 most (at0 b4) (at0 b5) (i7:Int) (n:Int) (at0 b9) w R:=by
  have en8:IntKind.wrap .i64 (Int.tdiv (n:Int) 8)=((n / 8:Nat):Int):=by rw [show Int.tdiv (n:Int) 8=((n / 8:Nat):Int) from rfl,IntWalk.i64_in _ (by omega)]
  have en64:IntKind.wrap .i64 (Int.tdiv (n:Int) 64)=((n / 64:Nat):Int):=by rw [show Int.tdiv (n:Int) 64=((n / 64:Nat):Int) from rfl,IntWalk.i64_in _ (by omega)]
  have en256:IntKind.wrap .i64 (Int.tdiv (n:Int) 256)=((n / 256:Nat):Int):=by rw [show Int.tdiv (n:Int) 256=((n / 256:Nat):Int) from rfl,IntWalk.i64_in _ (by omega)]
  have fin:∀(hs2:List Int) (h:Sl) (w2:World),(∀y∈hs2,0<=y/\y<(i7:Int))->hs2.length<=2->LH F0 w0 w2 (fsL b4 b5 lem ls st ds++[s9E b9 x p l h,.row ty_int 1 h (hs2.map intV)]) D1->enthymemeref25_first.S6 l0 most (at0 b4) (at0 b5) (i7:Int) (at0 b9) w2 R:=by
   intro hs2 h w2 hy h2 H2
   have hfr:∀b∈blkL h,w0.heap.size<=b:=λb hb=>(H2.new _ (qmG (i:=5) rfl) b hb).resolve_right id
   have H3:LH F0 w0 w2 (fsL b4 b5 lem ls st ds++[s9E b9 x p l h]) (D1++[.rd h (hs2.map intV)]):=H2.freeze 5 (.rd h (hs2.map intV)) rfl (OwnRow.rd1 (H2.get 5)) λb hb=>row_fp' hb
   let x':Stp:=⟨x.kind,x.node,x.rule,x.params,x.nm,x.lits,hs2⟩
   refine fs_S6 (x:=x') (p:=p) (l:=l) (h:=h) hi hdl H3 (λe he=>qmL _ (hs e he)) (qmL _ hl) (λe he=>?_) λst' w' H'=>hk ⟨x',p,l,h⟩ st' w' ⟨hg.kind,hg.node,hg.rule,hg.params,hg.lits,⟨hy,h2⟩,hg.nm⟩ (λe he=>?_) H'
   .simp only [qmC,qnM,or_false] at he
    rcases he with rfl|rfl|rfl
    .exact hp.1.imp (λh=>qmL _ h) id
    .exact .inl (qmR _ (qmS.2 rfl))
    .exact hl'.1.imp (λh=>qmL _ h) id
   .simp only [qmC,qnM,or_false] at he
    rcases he with rfl|rfl|rfl
    .exact hp.2
    .exact rd_fp hfr
    .exact hl'.2
  have hm1:n / 8%i7<i7:=Nat.mod_lt _ (by omega)
  have hm2:n / 256%i7<i7:=Nat.mod_lt _ (by omega)
  have H0:LH F0 w0 w (fsL b4 b5 lem ls st ds++[s9E b9 x p l ⟨none,0,0⟩,.row ty_int 1 ⟨none,0,0⟩ []]) D1:=H.nilrow ty_int 1
  refine H0.dr λw1 H1=>⟨⟨none,0,0⟩,H1.ld 4 6,by omega,?_⟩
  rw [en8,en64,en256,tm_nat,tm_nat]
  refine H1.nwx λw2 _ H2 hx2=>⟨H2.ld 4 6,H2.ap 5 el_ints (s:=⟨none,0,0⟩) (src:=⟨some (at0 w1.heap.size),1,1⟩) (news:=[.i ((n / 8%i7:Nat):Int)]) rfl (row_n (n:=1) (sz:=1) (cs:=[.i ((n / 8%i7:Nat):Int)]) hx2 rfl).2.2 rfl (by simp [Value.oneCell']) (by show (0+1) *8<=_;omega) λh1 w3 H3 hn1 _=>H3.st 4 6 rfl λw4 H4=>?_⟩
  have H4':LH F0 w0 w4 (fsL b4 b5 lem ls st ds++[s9E b9 x p l h1,.row ty_int 1 h1 ([((n / 8%i7:Nat):Int)].map intV)]) D1:=H4
  refine sel_dec (λ_=>H4'.dr λw5 H5=>⟨h1,H5.ld 4 6,by omega,?_⟩) (λ_=>fin [((n / 8%i7:Nat):Int)] h1 w4 (λy hy=>by rw [qmS.1 hy];omega) (by simp) H4')
  refine H5.nwx λw6 _ H6 hx6=>⟨H6.ld 4 6,H6.ap 5 el_ints (s:=h1) (src:=⟨some (at0 w5.heap.size),1,1⟩) (news:=[.i ((n / 256%i7:Nat):Int)]) rfl (row_n (n:=1) (sz:=1) (cs:=[.i ((n / 256%i7:Nat):Int)]) hx6 rfl).2.2 rfl (by simp [Value.oneCell']) (by show (h1.n+1) *8<=_;rw [hn1];show (0+1+1) *8<=_;omega) λh2 w7 H7 _ _=>H7.st 4 6 rfl λw8 H8=>?_⟩
  exact fin [((n / 8%i7:Nat):Int),((n / 256%i7:Nat):Int)] h2 w8 (by
   intro y hy
   simp only [qmC,qnM,or_false] at hy
   rcases hy with rfl|rfl<;>omega) (by simp) H8
 exact ⟨x.kind,H.ld 4 0,sel_eq (λ_=>S5) (λ_=>⟨x.kind,H.ld 4 0,sel_eq (λ_=>S5) (λ_=>S6)⟩)⟩
theorem lit_ok {c:Int} (h:c=2\/c=-2\/c=3\/c=-3):clauseE [c]=0/\(∀x∈[c],I64 x)/\[c].length<=3:=by
 refine ⟨?_,λx hx=>?_,by simp⟩
 .rcases h with rfl|rfl|rfl|rfl<;>decide
 .rw [qmS.1 hx];omega
theorem i64_0:I64 0:=by decide
theorem fs_S3 {i7 n k m:Nat} {c:Int} {l:Sl} {D1:List En} {w:World} {R:Post} (hi:i7<=1000000) (hn:n<=1073741824) (hdl:ds.length<=1000000) (hlm:ls.length<=1000) (hk5:k<=5) (hm:m<=2) (hc:c=2\/c=-2\/c=3\/c=-3)
  (H:LH F0 w0 w (fsL b4 b5 lem ls st ds++[s9E b9 ⟨(k:Int),(m:Int),0,[],ba [],[c],[]⟩ ⟨none,0,0⟩ l ⟨none,0,0⟩]) D1) (hs:∀e∈D,e∈D1) (hsl:slE ds∈D1) (hl:En.rd l ([c].map intV)∈D1) (hlf:∀b∈(En.rd l ([c].map intV)).fp,w0.heap.size<=b)
  (hk:∀(d:Sp) st' w',GenS 1 i7 ls.length d.x->(∀e∈[d.pE,d.hE,d.lE],∀b∈e.fp,w0.heap.size<=b)->FsH w0 b4 b5 lem ls st' (ds++[d]) D w'->enthymemeref25_first.L2 l0 most (at0 b4) (at0 b5) ((i7+1:Nat):Int) w' R):
  enthymemeref25_first.S3 l0 most (at0 b4) (at0 b5) (i7:Int) (n:Int) (at0 b9) w R:=by
 have hlo:=lit_ok hc
 have hnl:lem.n=ls.length:=by have:=(H.get 2:OwnRow _ _ _ _ _).len;rw [Lm.len] at this;omega
 have two:∀{w':World} {x:Stp},x.params=[]->x.lits=[c]->∀e∈[Sp.pE ⟨x,⟨none,0,0⟩,l,⟨none,0,0⟩⟩,Sp.lE ⟨x,⟨none,0,0⟩,l,⟨none,0,0⟩⟩],(e∈D1\/(e.fp=[]/\∀w,e.P w))/\∀b∈e.fp,w0.heap.size<=b:=by
  intro w' x h1 h2 e he
  simp only [qmC,qnM,or_false] at he
  rcases he with rfl|rfl
  .have e:Sp.pE ⟨x,⟨none,0,0⟩,l,⟨none,0,0⟩⟩=.rd ⟨none,0,0⟩ (([]:List Int).map intV):=by show En.rd ⟨none,0,0⟩ (x.params.map intV)=_;rw [h1]
   rw [e]
   exact ⟨.inr nil_ok,λb hb=>by rw [nil_ok.1] at hb;cases hb⟩
  .have e:Sp.lE ⟨x,⟨none,0,0⟩,l,⟨none,0,0⟩⟩=.rd l ([c].map intV):=by show En.rd l (x.lits.map intV)=_;rw [h2]
   rw [e]
   exact ⟨.inl hl,hlf⟩
 have nms:∀j<4,∃nm,nm∈nmsL/\(#[.string (ByteArray.mk #[97]),.string (ByteArray.mk #[98]),.string (ByteArray.mk #[99]),.string (ByteArray.mk #[100,100])]:Array Value)[j]? =some (.string nm):=by
  intro j hj
  match j,hj with
  |0,_=>exact ⟨_,.tail _ (.head _),rfl⟩
  |1,_=>exact ⟨_,.tail _ (.tail _ (.head _)),rfl⟩
  |2,_=>exact ⟨_,.tail _ (.tail _ (.tail _ (.head _))),rfl⟩
  |3,_=>exact ⟨_,.tail _ (.tail _ (.tail _ (.tail _ (.head _)))),rfl⟩
 have nm0:ba []∈nmsL:=.head _
 refine ⟨(k:Int),H.ld 4 0,sel_eq (λh1=>?_) (λh1=>sel_eq (λh2=>?_) (λh2=>sel_eq (λh4=>?_) (λh4=>?_)))⟩
 .
  obtain ⟨nm,hnm,hg⟩:=nms (n%4) (Nat.mod_lt _ (by omega))
  refine H.nwx λw1 _ H1 hx1=>⟨by rw [show Int.tmod (n:Int) 4=((n%4:Nat):Int) from rfl];omega,by rw [show Int.tmod (n:Int) 4=((n%4:Nat):Int) from rfl];show _<(4:Int);omega,optP_mk ⟨nm,?_,H1.st 4 4 rfl λw2 H2=>?_⟩⟩
  .rw [show Int.tmod (n:Int) 4=((n%4:Nat):Int) from rfl,Int.toNat_natCast,Nat.mul_one]
   exact cellAt (p:=at0 w.heap.size) hx1 rfl (by simpa using hg)
  .exact fs_S4 (x:=⟨(k:Int),(m:Int),0,[],nm,[c],[]⟩) (p:=⟨none,0,0⟩) (l:=l) hi hn hdl ⟨⟨⟨⟨by show (0:Int)<=k;omega,by show (k:Int)<=5;omega⟩,⟨by show I64 (m:Int);omega,λh=>by have h:(k:Int)=4:=h;omega⟩,i64_0,⟨by simp,by simp⟩,hlo,⟨by simp,by simp⟩,hnm⟩,rfl⟩,D1,H2,hs,hsl,two (w':=w) rfl rfl⟩ hk
 .
  have hr:Int.tmod (n:Int) 2=((n%2:Nat):Int):=rfl
  have hq:Int.tmod (IntKind.wrap .i64 (Int.tdiv (n:Int) 2)) 3=((n / 2%3:Nat):Int):=by rw [show Int.tdiv (n:Int) 2=((n / 2:Nat):Int) from rfl,IntWalk.i64_in _ (by omega)];rfl
  rw [hr,hq]
  refine H.st 4 2 rfl λw3 H3=>H3.nwrow (n:=1) (sz:=1) (cs:=[((n / 2%3:Nat):Int)].map intV) rfl (by decide) λw4 H4=>?_
  have hfr:∀b∈blkL ⟨some (at0 w3.heap.size),1,1⟩,w0.heap.size<=b:=λb hb=>(H4.new _ (qmG (i:=5) rfl) b hb).resolve_right id
  have H5:LH F0 w0 w4 (fsL b4 b5 lem ls st ds++[s9E b9 ⟨(k:Int),(m:Int),((n%2:Nat):Int),[],ba [],[c],[]⟩ ⟨none,0,0⟩ l ⟨none,0,0⟩]) (D1++[.rd ⟨some (at0 w3.heap.size),1,1⟩ ([((n / 2%3:Nat):Int)].map intV)]):=H4.freeze 5 (.rd ⟨some (at0 w3.heap.size),1,1⟩ ([((n / 2%3:Nat):Int)].map intV)) rfl (OwnRow.rd1 (H4.get 5)) λb hb=>row_fp' hb
  refine H5.st 4 3 rfl λw5 H6=>?_
  refine fs_S4 (x:=⟨(k:Int),(m:Int),((n%2:Nat):Int),[((n / 2%3:Nat):Int)],ba [],[c],[]⟩) (p:=⟨some (at0 w3.heap.size),1,1⟩) (l:=l) hi hn hdl ⟨⟨⟨⟨by show (0:Int)<=k;omega,by show (k:Int)<=5;omega⟩,⟨by show I64 (m:Int);omega,λh=>by have h:(k:Int)=4:=h;omega⟩,by show I64 ((n%2:Nat):Int);omega,⟨λy hy=>by rw [qmS.1 hy];omega,by simp⟩,hlo,⟨by simp,by simp⟩,nm0⟩,rfl⟩,_,H6,λe he=>qmL _ (hs e he),qmL _ hsl,λe he=>?_⟩ hk
  simp only [qmC,qnM,or_false] at he
  rcases he with rfl|rfl
  .exact ⟨.inl (qmR _ (qmS.2 rfl)),rd_fp hfr⟩
  .exact ⟨.inl (qmL _ hl),hlf⟩
 .
  refine ⟨lem,H.ld 1 0,sel_eq (λh0=>H.st 4 0 rfl λw6 H6=>?_) (λh0=>⟨lem,H.ld 1 0,h0,H.st 4 1 rfl λw7 H7=>?_⟩)⟩
  .exact fs_S4 (x:=⟨0,(m:Int),0,[],ba [],[c],[]⟩) (p:=⟨none,0,0⟩) (l:=l) hi hn hdl ⟨⟨⟨⟨by show (0:Int)<=0;omega,by show (0:Int)<=5;omega⟩,⟨by show I64 (m:Int);omega,λh=>by cases h⟩,i64_0,⟨by simp,by simp⟩,hlo,⟨by simp,by simp⟩,nm0⟩,rfl⟩,D1,H6,hs,hsl,two (w':=w) rfl rfl⟩ hk
  .have e:Int.tmod (n:Int) ((lem.n:Nat):Int)=((n%ls.length:Nat):Int):=by rw [hnl];rfl
   have hl0:0<ls.length:=by omega
   have hlt:n%ls.length<ls.length:=Nat.mod_lt _ hl0
   rw [e] at H7
   exact fs_S4 (x:=⟨(k:Int),((n%ls.length:Nat):Int),0,[],ba [],[c],[]⟩) (p:=⟨none,0,0⟩) (l:=l) hi hn hdl ⟨⟨⟨⟨by show (0:Int)<=k;omega,by show (k:Int)<=5;omega⟩,⟨by show I64 ((n%ls.length:Nat):Int);omega,λ_=>by show (0:Int)<=((n%ls.length:Nat):Int)/\((n%ls.length:Nat):Int)<_;omega⟩,i64_0,⟨by simp,by simp⟩,hlo,⟨by simp,by simp⟩,nm0⟩,rfl⟩,D1,H7,hs,hsl,two (w':=w) rfl rfl⟩ hk
 .exact fs_S4 (x:=⟨(k:Int),(m:Int),0,[],ba [],[c],[]⟩) (p:=⟨none,0,0⟩) (l:=l) hi hn hdl ⟨⟨⟨⟨by show (0:Int)<=k;omega,by show (k:Int)<=5;omega⟩,⟨by show I64 (m:Int);omega,λh=>absurd h h4⟩,i64_0,⟨by simp,by simp⟩,hlo,⟨by simp,by simp⟩,nm0⟩,rfl⟩,D1,H,hs,hsl,two (w':=w) rfl rfl⟩ hk
theorem fs_L2 (hx:∀y∈xs,I64 y) (hxl:xs.length<=9223372036854775807) (hmost:most<=1000) (hD:En.rd l0 (xs.map intV)∈D) (hlm:ls.length<=2):∀(k i7:Nat) (st:Sl) (ds:List Sp) (w:World),i7+k=most->ds.length=i7->(∀i d,ds[i]? =some d->GenS 1 i ls.length d.x)->(∀b∈(slE ds).fp,w0.heap.size<=b)->FsH w0 b4 b5 lem ls st ds D w->
  enthymemeref25_first.L2 l0 most (at0 b4) (at0 b5) (i7:Int) w λr w'=>FirstP w0 D most r w':=by
 intro k
 have done:∀(i7:Nat) (st:Sl) (ds:List Sp) (w:World),ds.length<=most->(∀i d,ds[i]? =some d->GenS 1 i ls.length d.x)->(∀b∈(slE ds).fp,w0.heap.size<=b)->FsH w0 b4 b5 lem ls st ds D w->enthymemeref25_first.S7 (at0 b4) (at0 b5) w λr w'=>FirstP w0 D most r w':=by
  intro i7 st ds w hdl hg hf H
  refine ⟨lem,st,H.ld 1 0,H.ld 1 1,H.st0 0 rfl λw1 H1=>H1.st 0 1 rfl λw2 H2=>⟨lem,st,H2.ld 0 0,H2.ld 0 1,lem,st,ls,ds,rfl,?_,hf,hlm,hdl,hg⟩⟩
  exact H2.sieve [false,false,true,true]
 induction k with
 |zero=>
  intro i7 st ds w hk hd hg hf H
  have hn:=Nums.len (H.rd _ (qmL _ hD):Nums w l0 xs)
  exact enthymemeref25_first.L2_step _ _ _ _ _ _ _ (sel_dec (λ_=>sel_false (decide_eq_false (by omega)) (done i7 st ds w (by omega) hg hf H)) (λ_=>done i7 st ds w (by omega) hg hf H))
 |succ k ih=>
  intro i7 st ds w hk hd hg hf H
  have hnum:Nums w l0 xs:=H.rd _ (qmL _ hD)
  have hn:=Nums.len hnum
  refine enthymemeref25_first.L2_step _ _ _ _ _ _ _ (sel_dec (λhlt=>sel_true (decide_eq_true (by omega)) ?_) (λ_=>done i7 st ds w (by omega) hg hf H))
  have hgx:xs[i7]? =some xs[i7]:=qgE (by omega)
  generalize xs[i7]=y at hgx
  have hy:=hx y (qmG hgx)
  refine ⟨by omega,by omega,Nums.cell hnum hgx (by rw [Int.toNat_natCast]) λq _ hq=>⟨y,hq,H.call (n_around y 1073741824 w (by omega) hy) ?_⟩⟩
  rintro _ w1 rfl H1
  obtain ⟨r1,r2⟩:=aroundI_range y 1073741824 (by omega)
  obtain ⟨t,ht⟩:=Int.eq_ofNat_of_zero_le r1
  rw [ht] at r2 ⊢
  have e18:Int.tmod (IntKind.wrap .i64 (Int.tdiv (t:Int) 18)) 4=((t / 18%4:Nat):Int):=by rw [show Int.tdiv (t:Int) 18=((t / 18:Nat):Int) from rfl,IntWalk.i64_in _ (by omega)];rfl
  have e6:Int.tmod (t:Int) 6=((t%6:Nat):Int):=rfl
  have e63:Int.tmod (IntKind.wrap .i64 (Int.tdiv (t:Int) 6)) 3=((t / 6%3:Nat):Int):=by rw [show Int.tdiv (t:Int) 6=((t / 6:Nat):Int) from rfl,IntWalk.i64_in _ (by omega)];rfl
  have e72:IntKind.wrap .i64 (Int.tdiv (t:Int) 72)=((t / 72:Nat):Int):=by rw [show Int.tdiv (t:Int) 72=((t / 72:Nat):Int) from rfl,IntWalk.i64_in _ (by omega)]
  have lts:∀j<4,∃c:Int,(c=2\/c=-2\/c=3\/c=-3)/\(#[.i 2,.i (-2),.i 3,.i (-3)]:Array Value)[j]? =some (.i c):=by
   intro j hj
   match j,hj with
   |0,_=>exact ⟨2,.inl rfl,rfl⟩
   |1,_=>exact ⟨-2,.inr (.inl rfl),rfl⟩
   |2,_=>exact ⟨3,.inr (.inr (.inl rfl)),rfl⟩
   |3,_=>exact ⟨-3,.inr (.inr (.inr rfl)),rfl⟩
  obtain ⟨c,hc,hcg⟩:=lts (t / 18%4) (Nat.mod_lt _ (by omega))
  refine ⟨(t:Int),rfl,?_⟩
  dsimp only
  rw [e18,e6,e63,e72]
  refine H1.nwx λw2 _ H2 hx2=>⟨by omega,by show ((t / 18%4:Nat):Int)<4;omega,optP_mk ⟨c,?_,?_⟩⟩
  .rw [Int.toNat_natCast,Nat.mul_one]
   exact cellAt (p:=at0 w1.heap.size) hx2 rfl (by simpa using hcg)
  refine H2.nwrow (n:=1) (sz:=1) (cs:=[c].map intV) rfl (by decide) λw3 H3=>?_
  have hfr:∀b∈blkL ⟨some (at0 w2.heap.size),1,1⟩,w0.heap.size<=b:=λb hb=>(H3.new _ (qmG (i:=4) rfl) b hb).resolve_right id
  have H4:LH F0 w0 w3 (fsL b4 b5 lem ls st ds) (D++[slE ds]++[.rd ⟨some (at0 w2.heap.size),1,1⟩ ([c].map intV)]):=H3.freeze 4 (.rd ⟨some (at0 w2.heap.size),1,1⟩ ([c].map intV)) rfl (OwnRow.rd1 (H3.get 4)) λb hb=>row_fp' hb
  refine H4.nw λw4 _ H5=>H5.st7 4 rfl λw5 H6=>?_
  refine fs_S3 (k:=t%6) (m:=t / 6%3) (n:=t / 72) (c:=c) (l:=⟨some (at0 w2.heap.size),1,1⟩) (by omega) (by omega) (by omega) (by omega) (by omega) (by omega) hc H6 (λe he=>qmL _ (qmL _ he)) (qmL _ (qmR _ (qmS.2 rfl))) (qmR _ (qmS.2 rfl)) (rd_fp hfr) λd st' w' hgd hfd H'=>?_
  refine ih (i7+1) st' (ds++[d]) w' (by omega) (by simp [hd]) (λi e he=>?_) (λb hb=>?_) H'
  .rw [List.getElem?_append] at he
   split at he
   .exact hg i e he
   .rename_i hni
    have:i - ds.length=0:=by
     rcases Nat.eq_zero_or_pos (i - ds.length) with h|h
     .exact h
     .rw [List.getElem?_eq_none (by simp;omega)] at he;cases he
    rw [this] at he
    have he:d=e:=by simpa using he
    have hi:i=i7:=by omega
    rw [<-he,hi];exact hgd
  .obtain ⟨x,hxm,hqx⟩:=all_fp.1 hb
   simp only [spL,List.flatMap_append,qmA,qfC,List.flatMap_nil,List.append_nil] at hxm
   rcases hxm with hxm|hxm
   .exact hf b (all_fp.2 ⟨x,hxm,hqx⟩)
   .exact hfd x hxm b hqx
end
theorem c_first {w:World} {D:List En} {l0:Sl} {xs:List Int} (hx:∀y∈xs,I64 y) (hxl:xs.length<=9223372036854775807) {most:Nat} (hmost:most<=1000) (hD:En.rd l0 (xs.map intV)∈D) (H:LH F0 w w [] D):
  Calls Tryz.prog n_enthymemeref25_first #[l0.v,.i (most:Int)] w λr w'=>FirstP w D most r w':=by
 refine enthymemeref25_first.ok _ _ w _ (H.nw λw1 _ H1=>H1.nw λw2 _ H2=>H2.st0 1 rfl λw3 H3=>H3.st 1 1 rfl λw4 H4=>?_)
 have nil:∀{L:List En} {w':World},LH F0 w w' L D->LH F0 w w' L (D++[slE []]):=λH=>H.mapD _ λe he=>by
  rcases qmA.1 he with he|he
  .exact ⟨λh=>h e he,λb hb=>⟨e,he,hb⟩⟩
  .rw [qmS.1 he]
   exact ⟨λ_=>λe he=>by simp [spL] at he,λb hb=>by
    obtain ⟨e,he,_⟩:=all_fp.1 hb
    simp [spL] at he⟩
 have H5:=(H4.nilrow ty_api_LemmaProof 4).nilrow ty_api_Step 7
 have loop:∀(k i:Nat) (lem:Sl) (ls:List Lm) (w':World),i+k=2->ls.length=i->LH F0 w w' (fsL w.heap.size w1.heap.size lem ls ⟨none,0,0⟩ []) D->enthymemeref25_first.L0 l0 most (at0 w.heap.size) (at0 w1.heap.size) (i:Int) w' λr w'=>FirstP w D most r w':=by
  intro k
  have next:∀(lem:Sl) (ls:List Lm) (w':World),ls.length<=2->LH F0 w w' (fsL w.heap.size w1.heap.size lem ls ⟨none,0,0⟩ []) D->enthymemeref25_first.L2 l0 most (at0 w.heap.size) (at0 w1.heap.size) 0 w' λr w'=>FirstP w D most r w':=λlem ls w' hl H'=>
   fs_L2 hx hxl hmost hD hl most 0 ⟨none,0,0⟩ [] w' (by omega) rfl (λi d h=>by simp at h) (λb hb=>by
    obtain ⟨e,he,_⟩:=all_fp.1 hb
    simp [spL] at he) (nil H')
  induction k with
  |zero=>
   intro i lem ls w' hk hl H'
   refine enthymemeref25_first.L0_step _ _ _ _ _ _ _ (H'.call (c_Pick (H'.rd _ hD) hx 0 3 (by omega)) ?_)
   rintro _ w2 ⟨t,rfl,t1,t2⟩ H6
   exact ⟨_,rfl,sel_false (decide_eq_false (by omega)) (next lem ls w2 (by omega) H6)⟩
  |succ k ih=>
   intro i lem ls w' hk hl H'
   refine enthymemeref25_first.L0_step _ _ _ _ _ _ _ (H'.call (c_Pick (H'.rd _ hD) hx 0 3 (by omega)) ?_)
   rintro _ w2 ⟨t,rfl,t1,t2⟩ H6
   refine ⟨_,rfl,sel_dec (λ_=>?_) (λ_=>next lem ls w2 (by omega) H6)⟩
   refine fs_region H6 (by omega) (λw'' H''=>⟨xs,H''.rd _ hD,hx⟩) λs x w3 H7=>?_
   show enthymemeref25_first.L0 _ _ _ _ (IntKind.wrap .i64 _) _ _
   rw [i64_next _ (by omega)]
   exact ih (i+1) s (ls++[x]) w3 (by omega) (by simp [hl]) H7
 exact loop 2 0 ⟨none,0,0⟩ [] w4 rfl rfl H5
theorem _root_.Go.W.LH.embed0 {M:Nat->Prop} {w0 w w':World} {G L' D X:List En} (H:LH M w0 w G D) (H':LH F0 w w' L' (D++X)) (hX:∀e∈X,∀b∈e.fp,w.heap.size<=b):LH M w0 w' (G++L') (D++X):=by
 have H1:LH M w0 w (G++[]) D:=by rw [List.append_nil];exact H
 refine H1.embed (L:=[]) ⟨H'.fr.mono λ_ _ h=>h.elim,H'.own,H'.rd,λe he b hb=>(H'.new e he b hb).imp id λh=>h.elim,H'.nd,H'.dj⟩ λe he b hb=>?_
 rcases qmA.1 he with he|he
 .exact .inr ⟨e,he,hb⟩
 .exact .inl (hX e he b hb)
section
variable {w0:World} {b6 b7:Nat} {m1 lem st:Sl} {ms:List Int} {D:List En}
abbrev smL (b6 b7:Nat) (lem:Sl) (ls:List Lm) (st:Sl) (ds:List Sp):List En:=[.g b6,.g b7,.row ty_api_LemmaProof 4 lem (ls.flatMap Lm.cs),.row ty_api_Step 7 st (ds.flatMap Sp.c)]
theorem Lm.set {l:List Lm} {i:Nat} (hi:i<l.length) (x:Lm):((((l.flatMap Lm.cs).set (i *4+0) x.g.v).set (i *4+1) x.h.v).set (i *4+2) x.c.v).set (i *4+3) x.s.v=(l.set i x).flatMap Lm.cs:=by
 induction l generalizing i with
 |nil=>simp at hi
 |cons a l ih=>
  cases i with
  |zero=>simp [Lm.cs]
  |succ i=>
   have h4:a.cs.length=4:=rfl
   have hi:i<l.length:=by simpa using hi
   have e:∀j,(i+1) *4+j=a.cs.length+(i *4+j):=λj=>by rw [h4];omega
   simp only [qfC,List.set_cons_succ,e]
   rw [List.set_append_right _ _ (by omega),List.set_append_right _ _ (by simp),List.set_append_right _ _ (by simp),List.set_append_right _ _ (by simp)]
   simp only [Nat.add_sub_cancel_left]
   rw [ih hi]
theorem sm_lem {X:List En} {ls:List Lm} {ds:List Sp} {w:World} {i:Nat} {K:World->Prop} {bs:List Nat} (x:Lm) (H:LH F0 w0 w (smL b6 b7 lem ls st ds++X) D) (hi:i<ls.length) (hbs:∀b∈bs,En.g b∈[En.g b6,En.g b7]++X)
  (hK:∀w',LH F0 w0 w' (smL b6 b7 lem (ls.set i x) st ds++X) D->K w'):
  (0:Int)<=(i:Int)/\(i:Int)<((lem.n:Nat):Int)/\optP lem.a λp=>stV w (p.add (Int.toNat (i:Int) *4)) x.g.v λw1=>kept bs w w1/\stV w1 ((p.add (Int.toNat (i:Int) *4)).add 1) x.h.v λw2=>kept bs w1 w2/\stV w2 ((p.add (Int.toNat (i:Int) *4)).add 2) x.c.v λw3=>kept bs w2 w3/\stV w3 ((p.add (Int.toNat (i:Int) *4)).add 3) x.s.v λw4=>kept bs w3 w4/\K w4:=by
 have ho:OwnRow w ty_api_LemmaProof 4 lem (ls.flatMap Lm.cs):=H.get 2
 have hn:=ho.len
 have hll:=Lm.len ls
 rw [hll] at hn
 have hb:∀(e1 e2:En),∀b∈bs,En.g b∈(En.g b6::En.g b7::e1::e2::X):=λe1 e2 b h=>by
  have:=hbs b h
  simp only [List.cons_append,List.nil_append,qmC] at this ⊢
  rcases this with h|h|h
  .exact .inl h
  .exact .inr (.inl h)
  .exact .inr (.inr (.inr (.inr h)))
 obtain ⟨p,hp⟩:∃p,lem.a=some p:=by
  rcases ho.cases with ⟨h1,h2⟩|⟨g,cur,ha,_⟩
  .rw [h2] at hll;simp at hll;omega
  .exact ⟨_,ha⟩
 rw [Int.toNat_natCast]
 refine ⟨by omega,by omega,optP_of hp (H.st1 2 (i *4) rfl hp (by omega) (hbs:=hb _ _) λw1 H1=>H1.strow 2 (i *4) 1 rfl hp (by simp only [List.length_set];omega) (hbs:=hb _ _) λw2 H2=>H2.strow 2 (i *4) 2 rfl hp (by simp only [List.length_set];omega) (hbs:=hb _ _) λw3 H3=>H3.strow 2 (i *4) 3 rfl hp (by simp only [List.length_set];omega) (hbs:=hb _ _) λw4 H4=>hK w4 ?_)⟩
 unfold smL
 rw [<-Lm.set hi x]
 exact H4
theorem Sp.set {l:List Sp} {i:Nat} {d:Sp} (hi:l[i]? =some d) (j:Nat) (hj:j<7) (v:Value) (d':Sp) (hd:d'.c=d.c.set j v):(l.flatMap Sp.c).set (i *7+j) v=(l.set i d').flatMap Sp.c:=by
 induction l generalizing i with
 |nil=>simp at hi
 |cons a l ih=>
  cases i with
  |zero=>
   simp only [List.getElem?_cons_zero,Option.some.injEq] at hi
   subst hi
   simp only [qfC,List.set_cons_zero,Nat.zero_mul,Nat.zero_add]
   rw [List.set_append_left _ _ (by rw [Sp.c_len];exact hj),hd]
  |succ i=>
   have h7:a.c.length=7:=rfl
   simp only [List.getElem?_cons_succ] at hi
   have e:(i+1) *7+j=a.c.length+(i *7+j):=by rw [h7];omega
   simp only [qfC,List.set_cons_succ,e]
   rw [List.set_append_right _ _ (by omega),Nat.add_sub_cancel_left,ih hi]
theorem sm_st {X:List En} {ls:List Lm} {ds:List Sp} {w:World} {i:Nat} {d d':Sp} {K:World->Prop} (H:LH F0 w0 w (smL b6 b7 lem ls st ds++X) D) (hi:ds[i]? =some d) (j:Nat) (hj:j<7) (v:Value) (hd:d'.c=d.c.set j v)
  (hK:∀w',LH F0 w0 w' (smL b6 b7 lem ls st (ds.set i d')++X) D->K w'):
  (0:Int)<=(i:Int)/\(i:Int)<((st.n:Nat):Int)/\optP st.a λp=>stV w ((p.add (Int.toNat (i:Int) *7)).add j) v λw1=>kept [b6,b7] w w1/\K w1:=by
 have ho:OwnRow w ty_api_Step 7 st (ds.flatMap Sp.c):=H.get 3
 have hn:=ho.len
 have hll:=Sp.cs_len ds
 have hil:=(qgS.1 hi).1
 rw [hll] at hn
 obtain ⟨p,hp⟩:∃p,st.a=some p:=by
  rcases ho.cases with ⟨h1,h2⟩|⟨g,cur,ha,_⟩
  .rw [h2] at hll;simp at hll;omega
  .exact ⟨_,ha⟩
 rw [Int.toNat_natCast]
 refine ⟨by omega,by omega,optP_of hp (H.strow 3 (i *7) j rfl hp (by omega) λw1 H1=>hK w1 ?_)⟩
 unfold smL
 rw [<-Sp.set hi j hj v d' hd]
 exact H1
structure SmJ (w0:World) (lems:Nat) (ds:List Sp):Prop where
 g:∀i d,ds[i]? =some d->GenS 2 i lems d.x
 f:∀b∈(slE ds).fp,w0.heap.size<=b
theorem clauseE_nil:clauseE []=0:=by decide
theorem mem_spL_set {ds:List Sp} {i:Nat} {d':Sp} {e:En} (he:e∈spL (ds.set i d')):e∈spL ds\/e∈[d'.pE,d'.hE,d'.lE]:=by
 obtain ⟨d,hd,he'⟩:=qmF.1 he
 rcases List.mem_or_eq_of_mem_set hd with h|h
 .exact .inl (qmF.2 ⟨d,h,he'⟩)
 .rw [h] at he';exact .inr he'
theorem sl_set {M:Nat->Prop} {w:World} {L D:List En} {ds:List Sp} {i:Nat} {d':Sp} (H:LH M w0 w L D) (hl:slE ds∈D) (D':List En) (hD:∀e∈D',e∈D) (hd:∀e∈[d'.pE,d'.hE,d'.lE],(e∈D\/e∈spL ds)\/(e.fp=[]/\∀w,e.P w)):LH M w0 w L (D'++[slE (ds.set i d')]):=by
 refine H.mapD _ λe he=>?_
 rcases qmA.1 he with he|he
 .exact ⟨λh=>h e (hD e he),λb hb=>⟨e,hD e he,hb⟩⟩
 .rw [qmS.1 he]
  refine ⟨λh e he=>?_,λb hb=>?_⟩
  .rcases mem_spL_set he with he|he
   .exact h (slE ds) hl e he
   .rcases hd e he with (h'|h')|h'
    .exact h e h'
    .exact h (slE ds) hl e h'
    .exact h'.2 w
  .obtain ⟨e,he,hbe⟩:=all_fp.1 hb
   rcases mem_spL_set he with he|he
   .exact ⟨slE ds,hl,all_fp.2 ⟨e,he,hbe⟩⟩
   .rcases hd e he with (h'|h')|h'
    .exact ⟨e,h',hbe⟩
    .exact ⟨slE ds,hl,all_fp.2 ⟨e,h',hbe⟩⟩
    .rw [h'.1] at hbe;cases hbe
theorem SmJ.set {lems:Nat} {ds:List Sp} {i:Nat} {d':Sp} (h:SmJ w0 lems ds) (hi:i<ds.length) (hg:GenS 2 i lems d'.x) (hf:∀e∈[d'.pE,d'.hE,d'.lE],e∈spL ds\/∀b∈e.fp,w0.heap.size<=b):SmJ w0 lems (ds.set i d'):=by
 refine ⟨λj d hd=>?_,λb hb=>?_⟩
 .rw [List.getElem?_set] at hd
  split at hd
  .rename_i e
   subst e
   cases hd;exact hg
  .exact h.g j d hd
 .obtain ⟨e,he,hbe⟩:=all_fp.1 hb
  rcases mem_spL_set he with he|he
  .exact h.f b (all_fp.2 ⟨e,he,hbe⟩)
  .rcases hf e he with h'|h'
   .exact h.f b (all_fp.2 ⟨e,h',hbe⟩)
   .exact h' b hbe
abbrev SmH (w0:World) (b6 b7:Nat) (lem:Sl) (ls:List Lm) (st:Sl) (ds:List Sp) (D:List En) (w:World):Prop:=LH F0 w0 w (smL b6 b7 lem ls st ds) (D++[slE ds])/\SmJ w0 ls.length ds
section
variable {ls:List Lm} {R:Post}
theorem sm_S7 {i n:Nat} {ds:List Sp} {d:Sp} {w:World} (hi:ds[i]? =some d) (hin:i<1000000) (Y:SmH w0 b6 b7 lem ls st ds D w)
  (hk:∀ds' w',ds'.length=ds.length->(∀j,j≠i->ds'[j]? =ds[j]?)->SmH w0 b6 b7 lem ls st ds' D w'->enthymemeref25_Some.L4T m1 b6 ⟨none,0,0⟩ ⟨none,0,0⟩ b7 lem st ((i+1:Nat):Int) w' R):
  enthymemeref25_Some.S7T m1 b6 ⟨none,0,0⟩ ⟨none,0,0⟩ b7 lem st (i:Int) (n:Int) w R:=by
 obtain ⟨H,J⟩:=Y
 have hg:=J.g i d hi
 have hil:=(qgS.1 hi).1
 have nx:∀ds' w',ds'.length=ds.length->(∀j,j≠i->ds'[j]? =ds[j]?)->SmH w0 b6 b7 lem ls st ds' D w'->enthymemeref25_Some.S8T m1 b6 ⟨none,0,0⟩ ⟨none,0,0⟩ b7 lem st (i:Int) w' R:=λds' w' h1 h3 h2=>by
  have:=hk ds' w' h1 h3 h2
  rw [<-i64_next i (by omega)] at this
  exact this
 refine sel_eq (λ_=>?_) (λ_=>nx ds w rfl (λ_ _=>rfl) ⟨H,J⟩)
 let d':Sp:=⟨⟨d.x.kind,d.x.node,d.x.rule,d.x.params,d.x.nm,[],d.x.hints⟩,d.p,⟨none,0,0⟩,d.h⟩
 have hm:=qmG hi
 have hsp:∀e∈[d.pE,d.hE,d.lE],e∈spL ds:=λe he=>qmF.2 ⟨d,hm,he⟩
 refine sm_st (X:=[]) H hi 5 (by omega) (.slice none 0 0) (d':=d') rfl λw1 H1=>nx (ds.set i d') w1 (by simp) (λj hj=>qgSN (by omega)) ⟨?_,J.set hil ⟨hg.kind,hg.node,hg.rule,hg.params,⟨clauseE_nil,by simp [d'],by simp [d']⟩,hg.hints,hg.nm⟩ λe he=>?_⟩
 .refine sl_set H1 (by simp) D (λe he=>qmL _ he) λe he=>?_
  simp only [qmC,qnM,or_false] at he
  rcases he with rfl|rfl|rfl
  .exact .inl (.inr (hsp d.pE (by simp)))
  .exact .inl (.inr (hsp d.hE (by simp)))
  .exact .inr nil_ok
 .simp only [qmC,qnM,or_false] at he
  rcases he with rfl|rfl|rfl
  .exact .inl (hsp d.pE (by simp))
  .exact .inl (hsp d.hE (by simp))
  .exact .inr λb hb=>by rw [show (d'.lE).fp=[] from nil_ok.1] at hb;cases hb
theorem sm_S6 {i n:Nat} {ds:List Sp} {d:Sp} {w:World} (hi:ds[i]? =some d) (hin:i<1000000) (hn:n<1048576) (Y:SmH w0 b6 b7 lem ls st ds D w)
  (hk:∀ds' w',ds'.length=ds.length->(∀j,j≠i->ds'[j]? =ds[j]?)->SmH w0 b6 b7 lem ls st ds' D w'->enthymemeref25_Some.L4T m1 b6 ⟨none,0,0⟩ ⟨none,0,0⟩ b7 lem st ((i+1:Nat):Int) w' R):
  enthymemeref25_Some.S6T m1 b6 ⟨none,0,0⟩ ⟨none,0,0⟩ b7 lem st (i:Int) (n:Int) w R:=by
 obtain ⟨H,J⟩:=Y
 have hg:=J.g i d hi
 have hil:=(qgS.1 hi).1
 refine sel_eq (λ_=>?_) (λ_=>sm_S7 hi hin ⟨H,J⟩ hk)
 have e:IntKind.wrap .i64 (0 - (n:Int))=-(n:Int):=by rw [IntWalk.i64_in _ (by omega)];omega
 rw [e]
 let d':Sp:=⟨⟨d.x.kind,d.x.node,-(n:Int),d.x.params,d.x.nm,d.x.lits,d.x.hints⟩,d.p,d.l,d.h⟩
 have hm:=qmG hi
 have hsp:∀e∈[d'.pE,d'.hE,d'.lE],e∈spL ds:=λe he=>qmF.2 ⟨d,hm,he⟩
 refine sm_st (X:=[]) H hi 2 (by omega) (.i (-(n:Int))) (d':=d') rfl λw1 H1=>sm_S7 (ds:=ds.set i d') (d:=d') (by simp [hil]) hin ⟨?_,J.set hil ⟨hg.kind,hg.node,⟨by show _<=-(n:Int);omega,by show -(n:Int)<=_;omega⟩,hg.params,hg.lits,hg.hints,hg.nm⟩ λe he=>.inl (hsp e he)⟩ λds' w' h1 h3 h2=>hk ds' w' (by rw [h1];simp) (λj hj=>by rw [h3 j hj,qgSN (by omega)]) h2
 exact sl_set H1 (by simp) D (λe he=>qmL _ he) λe he=>.inl (.inr (hsp e he))
end
end
set_option maxHeartbeats 2000000
section
variable {w0:World} {b6 b7:Nat} {m1 lem st:Sl} {D:List En} {ls:List Lm} {R:Post}
theorem rdn1 {w:World} {s:Sl} {l:List Int} (h:Nums w s l):RdN 1 w s (l.map intV):=⟨by rw [h.1,Nat.mul_one],h.2.1,h.2.2⟩
theorem five_get (n:Int) (j:Nat) (hj:j<5) (hn:0<=n/\n<=1048576):∃y:Int,I64 y/\([.i n,.i (-n),.i 9223372036854775807,.i (-9223372036854775808),.i 0]:List Value)[j]? =some (.i y):=by
 match j,hj with
 |0,_=>exact ⟨n,by omega,rfl⟩
 |1,_=>exact ⟨-n,by omega,rfl⟩
 |2,_=>exact ⟨_,by decide,rfl⟩
 |3,_=>exact ⟨_,by decide,rfl⟩
 |4,_=>exact ⟨_,by decide,rfl⟩
theorem sm_S5 {i n:Nat} {ds:List Sp} {d:Sp} {w:World} (hi:ds[i]? =some d) (hin:i<1000000) (hn:n<1048576) (Y:SmH w0 b6 b7 lem ls st ds D w) (h1p:d.x.params.length<=1)
  (hk:∀ds' w',ds'.length=ds.length->(∀j,j≠i->ds'[j]? =ds[j]?)->SmH w0 b6 b7 lem ls st ds' D w'->enthymemeref25_Some.L4T m1 b6 ⟨none,0,0⟩ ⟨none,0,0⟩ b7 lem st ((i+1:Nat):Int) w' R):
  enthymemeref25_Some.S5T m1 b6 ⟨none,0,0⟩ ⟨none,0,0⟩ b7 lem st (i:Int) (n:Int) w R:=by
 obtain ⟨H,J⟩:=Y
 have hg:=J.g i d hi
 have hil:=(qgS.1 hi).1
 have hm:=qmG hi
 have hsp:∀e∈[d.pE,d.hE,d.lE],e∈spL ds:=λe he=>qmF.2 ⟨d,hm,he⟩
 refine sel_eq (λ_=>?_) (λ_=>sm_S6 hi hin hn ⟨H,J⟩ hk)
 have ht5:IntKind.wrap .i64 (Int.tdiv (n:Int) 5)=((n / 5:Nat):Int):=by rw [show Int.tdiv (n:Int) 5=((n / 5:Nat):Int) from rfl,IntWalk.i64_in _ (by omega)]
 have ht55:Int.tmod ((n / 5:Nat):Int) 5=((n / 5%5:Nat):Int):=rfl
 have hneg:IntKind.wrap .i64 (0 - (n:Int))=-(n:Int):=by rw [IntWalk.i64_in _ (by omega)];omega
 have hj5:n / 5%5<5:=Nat.mod_lt _ (by omega)
 obtain ⟨y,hy,hfy⟩:=five_get (n:Int) (n / 5%5) hj5 (by omega)
 have row:∀{w':World} {X:List En},LH F0 w0 w' (smL b6 b7 lem ls st ds++X) (D++[slE ds])->SPr w' st ds:=λH'=>⟨(H'.get 3:OwnRow _ _ _ _ _).rdn,spL_P.1 (H'.rd (slE ds) (by simp))⟩
 have hst:=(row (X:=[]) H).n
 refine ⟨by omega,by omega,(row (X:=[]) H).get' hi λp hp _=>?_⟩
 have cellp:∀{w':World} {X:List En},LH F0 w0 w' (smL b6 b7 lem ls st ds++X) (D++[slE ds])->w'.cell? ((p.add (Int.toNat (i:Int) *7)).add 3)=some d.p.v:=λH'=>by
  rw [Int.toNat_natCast];exact ((row H').again hi hp).c3
 have prm:∀{w':World} {X:List En},LH F0 w0 w' (smL b6 b7 lem ls st ds++X) (D++[slE ds])->RdN 1 w' d.p (d.x.params.map intV):=λH'=>rdn1 ((row H').2 d hm).1
 have hpn:d.p.n=d.x.params.length:=Nums.len ((row (X:=[]) H).2 d hm).1
 have fin:∀(t:Sl) (w':World),LH F0 w0 w' (smL b6 b7 lem ls st ds++[.row ty_int 1 t ((d.x.params++[y]).map intV)]) (D++[slE ds])->
   (0:Int)<=(i:Int)/\(i:Int)<((st.n:Nat):Int)/\optP st.a λq=>stV w' ((q.add (Int.toNat (i:Int) *7)).add 3) t.v λw7=>kept [b6,b7] w' w7/\enthymemeref25_Some.S6T m1 b6 ⟨none,0,0⟩ ⟨none,0,0⟩ b7 lem st (i:Int) (n:Int) w7 R:=by
  intro t w' H'
  have hfr:∀b∈blkL t,w0.heap.size<=b:=λb hb=>(H'.new _ (qmG (i:=4) rfl) b hb).resolve_right id
  let d':Sp:=⟨⟨d.x.kind,d.x.node,d.x.rule,d.x.params++[y],d.x.nm,d.x.lits,d.x.hints⟩,t,d.l,d.h⟩
  refine sm_st (X:=[.row ty_int 1 t ((d.x.params++[y]).map intV)]) H' hi 3 (by omega) t.v (d':=d') rfl λw7 H7=>?_
  have H8:LH F0 w0 w7 (smL b6 b7 lem ls st (ds.set i d')) (D++[slE ds]++[.rd t ((d.x.params++[y]).map intV)]):=H7.freeze 4 (.rd t ((d.x.params++[y]).map intV)) rfl (OwnRow.rd1 (H7.get 4)) λb hb=>row_fp' hb
  refine sm_S6 (ds:=ds.set i d') (d:=d') (by simp [hil]) hin hn ⟨?_,J.set hil ⟨hg.kind,hg.node,hg.rule,⟨λz hz=>?_,by show (d.x.params++[y]).length<=2;simp;omega⟩,hg.lits,hg.hints,hg.nm⟩ λe he=>?_⟩ λds' w' h1 h3 h2=>hk ds' w' (by rw [h1];simp) (λj hj=>by rw [h3 j hj,qgSN (by omega)]) h2
  .refine sl_set H8 (by simp) D (λe he=>by simp [he]) λe he=>?_
   simp only [qmC,qnM,or_false] at he
   rcases he with rfl|rfl|rfl
   .exact .inl (.inl (qmR _ (qmS.2 rfl)))
   .exact .inl (.inr (hsp d.hE (by simp)))
   .exact .inl (.inr (hsp d.lE (by simp)))
  .have hz:z∈d.x.params++[y]:=hz
   rcases qmA.1 hz with h|h
   .exact hg.params.1 z h
   .rw [qmS.1 h];exact hy
  .simp only [qmC,qnM,or_false] at he
   rcases he with rfl|rfl|rfl
   .exact .inr (rd_fp hfr)
   .exact .inl (hsp d.hE (by simp))
   .exact .inl (hsp d.lE (by simp))
 refine H.locg λw1 H1=>⟨d.p,cellp (X:=[]) H1,?_⟩
 rw [hneg,ht5,ht55,Int.toNat_natCast (n / 5%5)]
 have i0:(0:Int)<=((n / 5%5:Nat):Int):=by omega
 have i5:((n / 5%5:Nat):Int)<((5:Nat):Int):=by omega
 have pb:(0+d.p.n) *8<=140737488355328:=by omega
 have fiveE:∀{b:Nat} {w':World} {L:List En} (k:Nat),LH F0 w0 w' L (D++[slE ds])->L[k]? =some (.c b [.i (n:Int),.i (-(n:Int)),.i 9223372036854775807,.i (-9223372036854775808),.i 0] ty_int)->w'.cell? ((at0 b).add (n / 5%5 *1))=some (.i y):=λk H' hL=>by
  rw [Nat.mul_one];exact H'.ld k _ hL hfy
 have len1:∀{w':World} {L:List En} {t:Sl} (k:Nat),LH F0 w0 w' L (D++[slE ds])->L[k]? =some (.row ty_int 1 t (d.x.params.map intV))->(t.n+1) *8<=140737488355328:=λk H' hL=>by
  have:=(H'.get k hL:OwnRow _ _ _ _ _).len
  simp only [List.length_map,Nat.mul_one] at this
  omega
 have em:d.x.params.map intV++[Value.i y]=(d.x.params++[y]).map intV:=by rw [List.map_append];rfl
 refine ⟨H1.nwrow (n:=0) (sz:=1) (cs:=[]) rfl (by decide) λw2 H2=>⟨cellp (X:=[_]) H2,?_,?_⟩,H1.nw λw2 _ H2=>⟨cellp (X:=[_]) H2,i0,i5,optP_mk ⟨y,fiveE 4 H2 rfl,?_,?_⟩⟩⟩
 .
  refine H2.apT 4 el_ints (s:=⟨some (at0 w1.heap.size),0,0⟩) (src:=d.p) (news:=d.x.params.map intV) rfl (prm (X:=[_]) H2) (intV_one _) pb λt w3 H3=>?_
  refine H3.nw λw4 _ H4=>⟨i0,i5,optP_mk ⟨y,fiveE 5 H4 rfl,H4.nw λw5 _ H5=>?_⟩⟩
  refine H5.apT 4 el_ints (s:=t) (src:=⟨some (at0 w4.heap.size),1,1⟩) (news:=[.i y]) rfl (row_n (H5.get 6) rfl) (by simp [Value.oneCell']) (len1 4 H5 rfl) λt' w6 H6=>fin t' w6 ?_
  rw [<-em]
  exact H6.take 5
 .refine H2.nw λw8 _ H8=>⟨cellp (X:=[_,_]) H8,i0,i5,optP_mk ⟨y,fiveE 5 H8 rfl,?_,?_⟩⟩
  .
   refine H8.apT 4 el_ints (s:=⟨some (at0 w1.heap.size),0,0⟩) (src:=d.p) (news:=d.x.params.map intV) rfl (prm (X:=[_,_]) H8) (intV_one _) pb λt w9 H9=>?_
   refine ⟨fiveE 5 H9 rfl,H9.nw λw10 _ H10=>?_⟩
   refine H10.apT 4 el_ints (s:=t) (src:=⟨some (at0 w9.heap.size),1,1⟩) (news:=[.i y]) rfl (row_n (H10.get 6) rfl) (by simp [Value.oneCell']) (len1 4 H10 rfl) λt' w6 H6=>fin t' w6 ?_
   rw [<-em]
   exact H6.take 5
  .
   refine H8.nw λw13 _ H13=>⟨cellp (X:=[_,_,_]) H13,?_⟩
   refine H13.apT 4 el_ints (s:=⟨some (at0 w1.heap.size),0,0⟩) (src:=d.p) (news:=d.x.params.map intV) rfl (prm (X:=[_,_,_]) H13) (intV_one _) pb λt w14 H14=>?_
   refine H14.apT 4 el_ints (s:=t) (src:=⟨some (at0 w8.heap.size),1,1⟩) (news:=[.i y]) rfl (row_n (H14.get 6) rfl) (by simp [Value.oneCell']) (len1 4 H14 rfl) λt' w6 H6=>fin t' w6 ?_
   rw [<-em]
   exact H6.take 5
 .refine H2.nwrow (n:=0) (sz:=1) (cs:=[]) rfl (by decide) λw3 H3=>⟨fiveE 4 H3 rfl,cellp (X:=[_,_]) H3,?_,?_⟩
  .
   refine H3.apT 5 el_ints (s:=⟨some (at0 w2.heap.size),0,0⟩) (src:=d.p) (news:=d.x.params.map intV) rfl (prm (X:=[_,_]) H3) (intV_one _) pb λt w9 H9=>?_
   refine ⟨fiveE 4 H9 rfl,H9.nw λw10 _ H10=>?_⟩
   refine H10.apT 5 el_ints (s:=t) (src:=⟨some (at0 w9.heap.size),1,1⟩) (news:=[.i y]) rfl (row_n (H10.get 6) rfl) (by simp [Value.oneCell']) (len1 5 H10 rfl) λt' w6 H6=>fin t' w6 ?_
   rw [<-em]
   exact H6.sieve [true,true,true,true,false,true,false]
  .
   refine H3.nw λw13 _ H13=>⟨cellp (X:=[_,_,_]) H13,?_⟩
   refine H13.apT 5 el_ints (s:=⟨some (at0 w2.heap.size),0,0⟩) (src:=d.p) (news:=d.x.params.map intV) rfl (prm (X:=[_,_,_]) H13) (intV_one _) pb λt w14 H14=>?_
   refine H14.apT 5 el_ints (s:=t) (src:=⟨some (at0 w3.heap.size),1,1⟩) (news:=[.i y]) rfl (row_n (H14.get 6) rfl) (by simp [Value.oneCell']) (len1 5 H14 rfl) λt' w6 H6=>fin t' w6 ?_
   rw [<-em]
   exact H6.sieve [true,true,true,true,false,true,false]
 .
  refine H2.nw λw3 _ H3=>⟨cellp (X:=[_,_]) H3,H3.nwrow (n:=0) (sz:=1) (cs:=[]) rfl (by decide) λw4 H4=>⟨cellp (X:=[_,_,_]) H4,?_⟩⟩
  refine H4.apT 6 el_ints (s:=⟨some (at0 w3.heap.size),0,0⟩) (src:=d.p) (news:=d.x.params.map intV) rfl (prm (X:=[_,_,_]) H4) (intV_one _) pb λt w14 H14=>?_
  refine H14.apT 6 el_ints (s:=t) (src:=⟨some (at0 w2.heap.size),1,1⟩) (news:=[.i y]) rfl (row_n (H14.get 5) rfl) (by simp [Value.oneCell']) (len1 6 H14 rfl) λt' w6 H6=>fin t' w6 ?_
  rw [<-em]
  exact H6.sieve [true,true,true,true,false,false,true]
theorem lits_ok (a b:Nat) (ha:a<4) (hb:b<1000):clauseE [2,-3 - (a:Int),9+(b:Int)]=0/\(∀x∈[2,-3 - (a:Int),9+(b:Int)],I64 x):=by
 have q1:litB 2=true:=by decide
 have q2:litB (-3 - (a:Int))=true:=litB_iff.2 (by omega)
 have q3:litB (9+(b:Int))=true:=litB_iff.2 (by omega)
 have e:[2,-3 - (a:Int),9+(b:Int)].all litB=true:=by rw [List.all_cons,List.all_cons,List.all_cons,q1,q2,q3];rfl
 have e2:incB [2,-3 - (a:Int),9+(b:Int)]=true:=by
  unfold incB
  rw [decide_eq_true (by omega),Bool.true_and]
  unfold incB
  rw [decide_eq_true (by omega)];rfl
 have e1:listE [2,-3 - (a:Int),9+(b:Int)]=0:=by
  unfold listE
  rw [if_neg (by simp only [List.length_cons,List.length_nil];omega),e]
  rfl
 refine ⟨by unfold clauseE;rw [e1,e2];rfl,λx hx=>?_⟩
 simp only [qmC,qnM,or_false] at hx
 rcases hx with rfl|rfl|rfl<;>omega
theorem sm_L4 {ms:List Int} {dl:Nat} (hdl0:dl<=1000) (hx:∀y∈ms,I64 y) (hm:En.rd m1 (ms.map intV)∈D)
  (hk:∀ds w',ds.length=dl->SmH w0 b6 b7 lem ls st ds D w'->∀w'',LH F0 w0 w'' (smL b6 b7 lem ls st ds) (D++[slE ds])->R (.returned (.agg #[lem.v,st.v])) w''):∀(k i:Nat) (ds:List Sp) (w:World),i+k=ds.length->ds.length=dl->(∀j d,i<=j->ds[j]? =some d->d.x.params.length<=1)->SmH w0 b6 b7 lem ls st ds D w->
  enthymemeref25_Some.L4T m1 b6 ⟨none,0,0⟩ ⟨none,0,0⟩ b7 lem st (i:Int) w R:=by
 intro k
 induction k with
 |zero=>
  intro i ds w hik hdl hp Y
  have hn:=SPr.n (w:=w) (s:=st) (l:=ds) ⟨(Y.1.get 3:OwnRow _ _ _ _ _).rdn,spL_P.1 (Y.1.rd (slE ds) (by simp))⟩
  exact enthymemeref25_Some.L4T_step _ _ _ _ _ _ _ _ _ _ (sel_false (decide_eq_false (by omega)) (Y.1.locg λw1 H1=>hk ds w hdl Y w1 H1))
 |succ k ih=>
  intro i ds w hik hdl hp Y
  have hn:=SPr.n (w:=w) (s:=st) (l:=ds) ⟨(Y.1.get 3:OwnRow _ _ _ _ _).rdn,spL_P.1 (Y.1.rd (slE ds) (by simp))⟩
  obtain ⟨d,hi⟩:∃d,ds[i]? =some d:=⟨ds[i],qgE (by omega)⟩
  have hil:=(qgS.1 hi).1
  have hm2:En.rd m1 (ms.map intV)∈D++[slE ds]:=qmL _ hm
  have nx:∀ds1:List Sp,ds1.length=ds.length->(∀j,j≠i->ds1[j]? =ds[j]?)->∀ds' w',ds'.length=ds1.length->(∀j,j≠i->ds'[j]? =ds1[j]?)->SmH w0 b6 b7 lem ls st ds' D w'->enthymemeref25_Some.L4T m1 b6 ⟨none,0,0⟩ ⟨none,0,0⟩ b7 lem st ((i+1:Nat):Int) w' R:=λds1 e1 e2 ds' w' h1 h2 Y'=>
   ih (i+1) ds' w' (by omega) (by omega) (λj d hj hd=>hp j d (by omega) (by rw [<-e2 j (by omega),<-h2 j (by omega)];exact hd)) Y'
  refine enthymemeref25_Some.L4T_step _ _ _ _ _ _ _ _ _ _ (sel_true (decide_eq_true (by omega)) (Y.1.callg (c_Pick (Y.1.rd _ hm2) hx _ 1048576 (by omega)) ?_))
  rintro _ w1 ⟨n',rfl,n1,n2⟩ H1
  obtain ⟨n,rfl⟩:=Int.eq_ofNat_of_zero_le n1
  have Y1:SmH w0 b6 b7 lem ls st ds D w1:=⟨H1,Y.2⟩
  have hg:=Y.2.g i d hi
  refine ⟨_,rfl,sel_eq (λ_=>?_) (λ_=>sm_S5 hi (by omega) (by omega) Y1 (hp i d (Nat.le_refl _) hi) (nx ds rfl λ_ _=>rfl))⟩
  have e4:IntKind.wrap .i64 (-3 - Int.tmod (n:Int) 4)=-3 - ((n%4:Nat):Int):=by rw [show Int.tmod (n:Int) 4=((n%4:Nat):Int) from rfl,IntWalk.i64_in _ (by omega)]
  have e9:IntKind.wrap .i64 (9+Int.tmod (n:Int) 1000)=9+((n%1000:Nat):Int):=by rw [show Int.tmod (n:Int) 1000=((n%1000:Nat):Int) from rfl,IntWalk.i64_in _ (by omega)]
  rw [e4,e9]
  obtain ⟨lo1,lo2⟩:=lits_ok (n%4) (n%1000) (Nat.mod_lt _ (by omega)) (Nat.mod_lt _ (by omega))
  obtain ⟨lv,hlv⟩:∃lv,lv=[2,-3 - ((n%4:Nat):Int),9+((n%1000:Nat):Int)]:=⟨_,rfl⟩
  have elv:(#[.i 2,.i (-3 - ((n%4:Nat):Int)),.i (9+((n%1000:Nat):Int))]:Array Value)=(lv.map intV).toArray:=by rw [hlv];rfl
  rw [<-hlv] at lo1 lo2
  have hl3:lv.length=3:=by rw [hlv];rfl
  rw [elv]
  refine H1.nwrow (n:=3) (sz:=1) (cs:=lv.map intV) (by simp [hl3]) (by decide) λw2 H2=>?_
  have hfr:∀b∈blkL ⟨some (at0 w1.heap.size),3,3⟩,w0.heap.size<=b:=λb hb=>(H2.new _ (qmG (i:=4) rfl) b hb).resolve_right id
  let d':Sp:=⟨⟨d.x.kind,d.x.node,d.x.rule,d.x.params,d.x.nm,lv,d.x.hints⟩,d.p,⟨some (at0 w1.heap.size),3,3⟩,d.h⟩
  have hsp:∀e∈[d.pE,d.hE,d.lE],e∈spL ds:=λe he=>qmF.2 ⟨d,qmG hi,he⟩
  refine sm_st (X:=[.row ty_int 1 ⟨some (at0 w1.heap.size),3,3⟩ (lv.map intV)]) H2 hi 5 (by omega) (.slice (some (at0 w1.heap.size)) 3 3) (d':=d') rfl λw7 H7=>?_
  have H8:LH F0 w0 w7 (smL b6 b7 lem ls st (ds.set i d')) (D++[slE ds]++[.rd ⟨some (at0 w1.heap.size),3,3⟩ (lv.map intV)]):=H7.freeze 4 (.rd ⟨some (at0 w1.heap.size),3,3⟩ (lv.map intV)) rfl (OwnRow.rd1 (H7.get 4)) λb hb=>row_fp' hb
  refine sm_S5 (ds:=ds.set i d') (d:=d') (by simp [hil]) (by omega) (by omega) ⟨?_,Y.2.set hil ⟨hg.kind,hg.node,hg.rule,hg.params,⟨lo1,lo2,by show lv.length<=3;omega⟩,hg.hints,hg.nm⟩ λe he=>?_⟩ (hp i d (Nat.le_refl _) hi) (nx (ds.set i d') (by simp) λj hj=>qgSN (by omega))
  .refine sl_set H8 (by simp) D (λe he=>by simp [he]) λe he=>?_
   simp only [qmC,qnM,or_false] at he
   rcases he with rfl|rfl|rfl
   .exact .inl (.inr (hsp d.pE (by simp)))
   .exact .inl (.inr (hsp d.hE (by simp)))
   .exact .inl (.inl (qmR _ (qmS.2 rfl)))
  .simp only [qmC,qnM,or_false] at he
   rcases he with rfl|rfl|rfl
   .exact .inl (hsp d.pE (by simp))
   .exact .inl (hsp d.hE (by simp))
   .exact .inr (rd_fp hfr)
theorem sm_L1 {g9 x0 x1:Sl} {b10 i8:Nat} {ds xd:List Sp} {ms:List Int} {D1:List En} (hi8:i8<ls.length) (hls:ls.length<=1000) (hx:∀y∈ms,I64 y) (hm:En.rd m1 (ms.map intV)∈D) (hgn:1<=g9.n) (hxd:xd.length<=1000)
  (hD1:∀e∈D++[slE ds],e∈D1)
  (hk:∀ls' w',ls'.length=ls.length->LH F0 w0 w' (smL b6 b7 lem ls' st ds) (D++[slE ds])->enthymemeref25_Some.L0T m1 b6 ⟨none,0,0⟩ ⟨none,0,0⟩ b7 lem st ((i8+1:Nat):Int) w' R):
  ∀(k k12:Nat) (s11:Sl) (vs:List Value) (w:World),k12+k=xd.length->vs.length=k12 *7->LH F0 w0 w (smL b6 b7 lem ls st ds++[.row ty_api_Step 7 x1 (xd.flatMap Sp.c),.g b10,.row ty_api_Step 7 s11 vs]) D1->
  enthymemeref25_Some.L1T m1 b6 ⟨none,0,0⟩ ⟨none,0,0⟩ b7 lem st (i8:Int) g9 b10 x0 x1 s11 (k12:Int) w R:=by
 have gs:∀(Z:List En) (e1 e2 e3:En),∀b∈[b6,b7,b10],En.g b∈(En.g b6::En.g b7::e1::e2::e3::En.g b10::Z):=λZ e1 e2 e3 b h=>by
  simp only [qmC,qnM,or_false] at h
  rcases h with rfl|rfl|rfl<;>simp
 have gm:∀(Z:List En) (e1:En),∀b∈[b6,b7,b10],En.g b∈[En.g b6,En.g b7]++(e1::En.g b10::Z):=λZ e1 b h=>by
  simp only [qmC,qnM,or_false] at h
  rcases h with rfl|rfl|rfl<;>simp
 have e1:∀t:Int,(#[.i t,.i 0]:Array Value)=([.i t,.i 0]:List Value).toArray:=λ_=>rfl
 have fin:∀(x:Lm) (w':World) (Z:List En),LH F0 w0 w' (smL b6 b7 lem (ls.set i8 x) st ds++Z) D1->enthymemeref25_Some.S3T m1 b6 ⟨none,0,0⟩ ⟨none,0,0⟩ b7 lem st (i8:Int) w' R:=λx w' Z H'=>by
  have H2:=hk (ls.set i8 x) w' (by simp) ((H'.take 4).mapD _ λe he=>⟨λh=>h e (hD1 e he),λb hb=>⟨e,hD1 e he,hb⟩⟩)
  rw [<-i64_next i8 (by omega)] at H2
  exact H2
 intro k
 induction k with
 |zero=>
  intro k12 s11 vs w hk12 hvs H
  have hn:=(H.get 4:OwnRow _ _ _ _ _).len
  rw [Sp.cs_len] at hn
  refine enthymemeref25_Some.L1T_step _ _ _ _ _ _ _ _ _ _ _ _ _ _ _ _ (sel_false (decide_eq_false (by omega)) ⟨H.locg (hbs:=gs _ _ _ _) λw1 H1=>?_,H.locg (hbs:=gs _ _ _ _) λw1 H1=>?_⟩)
  .refine H1.callg (c_Pick (H1.rd _ (hD1 _ (qmL _ hm))) hx _ _ (by omega)) ?_
   rintro _ w2 ⟨t,rfl,t1,t2⟩ H2
   refine ⟨_,rfl,H2.nw λw3 _ H3=>H3.nw λw4 _ H4=>?_,H2.nw λw3 _ H3=>H3.nw λw4 _ H4=>?_⟩
   .exact sm_lem ⟨g9,⟨some (at0 w2.heap.size),2,2⟩,⟨some (at0 w3.heap.size),2,2⟩,s11⟩ (X:=[_,_,_]) (H4.take 7) hi8 (gm _ _) λw5 H5=>fin _ w5 _ H5
   .exact sm_lem ⟨g9,⟨some (at0 w3.heap.size),2,2⟩,⟨some (at0 w2.heap.size),2,2⟩,s11⟩ (X:=[_,_,_]) (H4.take 7) hi8 (gm _ _) λw5 H5=>fin _ w5 _ H5
  .refine H1.nw λw2 _ H2=>(LH.take H2 7).callg (c_Pick (H2.rd _ (hD1 _ (qmL _ hm))) hx _ _ (by omega)) ?_
   rintro _ w3 ⟨t,rfl,t1,t2⟩ H3
   refine ⟨_,rfl,H3.nw λw4 _ H4=>?_⟩
   exact sm_lem ⟨g9,⟨some (at0 w3.heap.size),2,2⟩,⟨some (at0 w1.heap.size),2,2⟩,s11⟩ (X:=[_,_,_]) (H4.take 7) hi8 (gm _ _) λw5 H5=>fin _ w5 _ H5
 |succ k ih=>
  intro k12 s11 vs w hk12 hvs H
  have ho:OwnRow w ty_api_Step 7 x1 (xd.flatMap Sp.c):=H.get 4
  have hn:=ho.len
  rw [Sp.cs_len] at hn
  have hs:=(H.get 6:OwnRow _ _ _ _ _).len
  have hs:vs.length=s11.n *7:=hs
  obtain ⟨d,hi⟩:∃d,xd[k12]? =some d:=⟨xd[k12],qgE (by omega)⟩
  have nx:∀(a:Int) (b13:Nat) (w':World),LH F0 w0 w' (smL b6 b7 lem ls st ds++[.row ty_api_Step 7 x1 (xd.flatMap Sp.c),.g b10,.row ty_api_Step 7 s11 vs,.g b13]) D1->
    enthymemeref25_Some.S2T m1 b6 ⟨none,0,0⟩ ⟨none,0,0⟩ b7 lem st (i8:Int) g9 b10 x0 x1 s11 (k12:Int) b13 a d.x.node d.x.rule d.p d.x.nm d.l d.h w' R:=λa b13 w' H'=>by
   refine H'.ap1T 6 el_step rfl (λs' w2 H2=>?_) (by omega) (hbs:=λb h=>?_)
   .rw [i64_next _ (by omega)]
    exact ih (k12+1) s' _ w2 (by omega) (by simp [hvs];omega) (H2.take 7)
   .simp only [qmC,qnM,or_false] at h
    rcases h with rfl|rfl|rfl|rfl<;>simp
  refine enthymemeref25_Some.L1T_step _ _ _ _ _ _ _ _ _ _ _ _ _ _ _ _ (sel_true (decide_eq_true (by omega)) ⟨by omega,by omega,CRow.elem (f:=Sp.c) (sz:=7) Sp.c_len (by omega) ho.rdn.2.2 hi λp hp hc=>⟨_,_,_,_,_,_,_,hc 0 _ rfl,hc 1 _ rfl,hc 2 _ rfl,hc 3 _ rfl,hc 4 _ rfl,hc 5 _ rfl,hc 6 _ rfl,H.newg (hbs:=gs _ _ _ _) λb13 w1 H1=>?_⟩⟩)
  have gl:∀b∈[b6,b7,b10,b13],En.g b∈smL b6 b7 lem ls st ds++[.row ty_api_Step 7 x1 (xd.flatMap Sp.c),.g b10,.row ty_api_Step 7 s11 vs]++[.g b13]:=λb h=>by
   simp only [qmC,qnM,or_false] at h
   rcases h with rfl|rfl|rfl|rfl<;>simp
  exact sel_dec (λ_=>H1.locg (hbs:=gl) λw2 H2=>nx 5 b13 w2 H2) (λ_=>H1.locg (hbs:=gl) λw2 H2=>nx d.x.kind b13 w2 H2)
end
def SomeP (w0:World) (D:List En) (most:Nat) (r:Ending) (w':World):Prop:=∃(lem st:Sl) (ls:List Lm) (ds:List Sp),r=.returned (.agg #[lem.v,st.v])/\LH F0 w0 w' [.row ty_api_LemmaProof 4 lem (ls.flatMap Lm.cs),.row ty_api_Step 7 st (ds.flatMap Sp.c)] (D++[slE ds])/\SmJ w0 ls.length ds/\ds.length<=most
theorem sm_L0 {w0:World} {b6 b7:Nat} {m1 lem st:Sl} {ms:List Int} {D:List En} {ds:List Sp} {most:Nat} (hx:∀y∈ms,I64 y) (hml:ms.length<=9223372036854775807) (hm:En.rd m1 (ms.map intV)∈D) (hdl:ds.length<=1000) (hmost:ds.length<=most)
  (h1p:∀(i:Nat) (d:Sp),ds[i]? =some d->d.x.params.length<=1):
  ∀(k i:Nat) (ls:List Lm) (w:World),i+k=ls.length->ls.length<=1000->SmH w0 b6 b7 lem ls st ds D w->enthymemeref25_Some.L0T m1 b6 ⟨none,0,0⟩ ⟨none,0,0⟩ b7 lem st (i:Int) w λr w'=>SomeP w0 D most r w':=by
 have hm2:En.rd m1 (ms.map intV)∈D++[slE ds]:=qmL _ hm
 intro k
 induction k with
 |zero=>
  intro i ls w hik hls Y
  have ho:OwnRow w ty_api_LemmaProof 4 lem (ls.flatMap Lm.cs):=Y.1.get 2
  have hn:=ho.len
  rw [Lm.len] at hn
  refine enthymemeref25_Some.L0T_step _ _ _ _ _ _ _ _ _ _ (sel_false (decide_eq_false (by omega)) ?_)
  refine sm_L4 (m1:=m1) hdl hx hm (λds' w' hl' Y' w'' H''=>?_) ds.length 0 ds w (by omega) rfl (λj d _ hd=>h1p j d hd) Y
  exact ⟨lem,st,ls,ds',rfl,H''.sieve [false,false,true,true],Y'.2,by omega⟩
 |succ k ih=>
  intro i ls w hik hls Y
  have ho:OwnRow w ty_api_LemmaProof 4 lem (ls.flatMap Lm.cs):=Y.1.get 2
  have hn:=ho.len
  rw [Lm.len] at hn
  refine enthymemeref25_Some.L0T_step _ _ _ _ _ _ _ _ _ _ (sel_true (decide_eq_true (by omega)) (Y.1.callg (c_Pick (Y.1.rd _ hm2) hx _ 3 (by omega)) ?_))
  rintro _ w1 ⟨t,rfl,t1,t2⟩ H1
  refine ⟨_,rfl,H1.callg (c_Made (H1.rd _ hm2) hx (by omega) t 4 (by omega)) ?_⟩
  rintro _ w2 ⟨g9,gl,rfl,_,g1,g2,hgp,_⟩ H2
  have hgn:(gl.flatMap Nd.c).length=g9.n *9:=hgp.1.1
  rw [flat_length Nd.c 9 (λ_=>rfl) gl] at hgn
  refine ⟨_,rfl,callF0 ((c_first (D:=D++[slE ds]) (w:=w2) hx hml (most:=4) (by omega) hm2 (lh0 _ H2.rd)).mono ?_)⟩
  rintro _ w3 ⟨x0,x1,xls,xd,rfl,H3,hf,_,hxd,_⟩
  have H4:=H2.embed0 H3 λe he=>by rw [qmS.1 he];exact hf
  refine ⟨H3.fr,_,_,rfl,H4.newg λb10 w4 H5=>H5.locg λw5 H6=>?_⟩
  have H7:=(H6.nilrow ty_api_Step 7).sieve [true,true,true,true,false,true,true,true]
  refine sm_L1 (ls:=ls) (xd:=xd) (D1:=D++[slE ds]++[slE xd]) (by omega) hls hx hm (by omega) (by omega) (λe he=>qmL _ he) (λls' w' hl' H'=>?_) xd.length 0 ⟨none,0,0⟩ [] w5 (by omega) rfl H7
  exact ih (i+1) ls' w' (by omega) (by omega) ⟨H',by rw [hl'];exact Y.2⟩
theorem c_Some {w:World} {D:List En} {l0 m1:Sl} {xs ms:List Int} (hx:∀y∈xs,I64 y) (hxl:xs.length<=9223372036854775807) (hy:∀y∈ms,I64 y) (hml:ms.length<=9223372036854775807) {most:Nat} (hmost:most<=1000) (hD:En.rd l0 (xs.map intV)∈D) (hm:En.rd m1 (ms.map intV)∈D) (H:LH F0 w w [] D):
  Calls Tryz.prog n_enthymemeref25_Some #[l0.v,m1.v,.i (most:Int)] w λr w'=>SomeP w D most r w':=by
 refine enthymemeref25_Some.okT _ _ _ w _ (H.newg λb6 w1 H1=>?_)
 refine callF0 ((c_first (D:=D) (w:=w1) hx hxl hmost hD (lh0 _ H1.rd)).mono ?_)
 rintro _ w2 ⟨lem,st,ls,ds,rfl,H2,hf,hls,hds,hg⟩
 have H3:=H1.embed0 H2 λe he=>by rw [qmS.1 he];exact hf
 refine ⟨H2.fr,_,_,rfl,H3.newg λb7 w3 H4=>H4.locg λw4 H5=>?_⟩
 have H6:LH F0 w w4 (smL b6 b7 lem ls st ds) (D++[slE ds]):=H5.perm (.cons _ (List.perm_append_comm (l₁:=[_,_]) (l₂:=[En.g b7])))
 refine sm_L0 hy hml hm (by omega) hds (λi d h=>(hg i d h).params.2) ls.length 0 ls w4 (by omega) (by omega) ⟨H6,λi d h=>?_,λb hb=>Nat.le_trans H1.fr.size (hf b hb)⟩
 have:=hg i d h
 exact ⟨this.kind,this.node,this.rule,⟨this.params.1,by have:=this.params.2;omega⟩,this.lits,this.hints,this.nm⟩
end Go.Proofs.YthnoidogkbbkhaaGreatDoor
