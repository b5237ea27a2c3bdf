import Derived.Test.YthkcmmldhceegaaGreatDoorT8
import Derived.Test.YthkcmmldhceegaaGreatDoorW
import Derived.Test.YthkcmmldhceegaaGreatDoorU
import Derived.Test.YthkcmmldhceegaaGreatDoorG9
import Derived.MapKept
import Derived.Laws.CopyRow
import Derived.Test.YthkcmmldhceegaaGreatDoorT3
set_option linter.unusedVariables false
set_option maxRecDepth 100000
set_option maxHeartbeats 2000000
set_option linter.defProp false
namespace Go.Proofs.YthkcmmldhceegaaGreatDoor
open Go renaming World->C,Calls->ah,Program->aR,Value->ab,TypeId->aF,Ending->cQ
open Go.IntKind renaming wrap->ad
open _root_.Int renaming toNat->ae,tdiv->bE,tmod->bw,toNat_natCast->bT
open _root_.ByteArray renaming mk->av
open Go.IntWalk renaming i64_in->bf
open Go.Builtin renaming append_->bg
open Go.Sem renaming run->a'
open _root_.Nat renaming le_trans->bB,lt_of_lt_of_le->iI
open _root_.UInt8 renaming ofNat->dP
open Go.Proofs.Tryz renaming prog->V
open _root_.Decidable renaming decide->af
open Go.Ending renaming returned->U
open List renaming mem_append->a6,mem_cons->ay,not_mem_nil->aW,mem_of_getElem?->aE,getElem?_eq_getElem->a9,getElem?_eq_some_iff->dh,mem_flatMap->cj,length_append->cC,mem_of_mem_take->kW,append_assoc->jU,length_take->g4,flatMap_append->ea,flatMap_cons->dT,mem_cons_of_mem->eb,drop_eq_getElem_cons->dZ,nil_append->h0,cons_append->iF,take_add_one->eI,drop_of_length_le->c9
open Go Go.W
section
variable {w0:C} {b6 b7:Nat} {m1 aD st:J} {D:List En} {ls:List Lm} {R:aa}
def Kn{w:C}{s:J}{l:List Int}(h:bo w s l):bF 1 w s (l.map bd):=⟨by rw[h.1,Nat.mul_one],h.2.1,h.2.2⟩
def Ql(n:Int)(j:Nat)(d:j<5)(e:0<=n/\n<=1048576):∃c:Int,bn c/\([.i n,.i (-n),.i 9223372036854775807,.i (-9223372036854775808),.i 0]:List ab)[j]? =some (.i c):=by
 match j,d with
 |0,_=>exact⟨n,by omega,rfl⟩
 |1,_=>exact⟨-n,by omega,rfl⟩
 |2,_=>exact⟨_,by decide,rfl⟩
 |3,_=>exact⟨_,by decide,rfl⟩
 |4,_=>exact⟨_,by decide,rfl⟩
def Lt{i n:Nat}{ds:List Sp}{d:Sp}{w:C}(hi:ds[i]? =some d)(ai:i<1000000)(hn:n<1048576)(am:kC w0 b6 b7 aD ls st ds D w)(aC:d.x.params.length<=1)(hk:∀Y w',Y.length=ds.length->(∀ac,ac≠i->Y[ac]? =ds[ac]?)->kC w0 b6 b7 aD ls st Y D w'->gz.mS m1 b6 ⟨none,0,0⟩ ⟨none,0,0⟩ b7 aD st ((i+1:Nat):Int) w' R):
  gz.eC m1 b6 ⟨none,0,0⟩ ⟨none,0,0⟩ b7 aD st (i:Int) (n:Int) w R:=by
 obtain⟨T,af⟩:=am;have I:=af.g i d hi;have aq:=(dh.1 hi).1;have hm:=aE hi;have aH:∀aa∈[d.pE,d.hE,d.lE],aa∈jq ds:=λaa O=>cj.2 ⟨d,hm,O⟩;refine aJ (λ_=>?_) (λ_=>Lu hi ai hn ⟨T,af⟩ hk);have av:ad .i64 (bE (n:Int) 5)=((n / 5:Nat):Int):=by rw[show bE (n:Int) 5=((n / 5:Nat):Int)from rfl,bf _ (by omega)]
 have ax:bw ((n / 5:Nat):Int) 5=((n / 5%5:Nat):Int):=rfl;have au:ad .i64 (0 - (n:Int))=-(n:Int):=by rw[bf _ (by omega)];omega
 have ar:n / 5%5<5:=Nat.mod_lt _ (by omega);obtain⟨e,hy,ap⟩:=Ql (n:Int) (n / 5%5) ar (by omega);have row:∀{w':C} {X:List En},Z F0 w0 w' (eL b6 b7 aD ls st ds++X) (D++[cP ds])->fk w' st ds:=λj=>⟨(j.get 3:aG _ _ _ _ _).bh,sG.1 (j.rd (cP ds) (by simp))⟩;have aI:=(row (X:=[]) T).n;refine⟨by omega,by omega,(row (X:=[]) T).get' hi λp hp _=>?_⟩;have E:∀{w':C} {X:List En},Z F0 w0 w' (eL b6 b7 aD ls st ds++X) (D++[cP ds])->w'.cell? ((p.add (ae (i:Int) *7)).add 3)=some d.p.v:=λj=>by rw[bT];exact((row j).again hi hp).c3
 have S:∀{w':C} {X:List En},Z F0 w0 w' (eL b6 b7 aD ls st ds++X) (D++[cP ds])->bF 1 w' d.p (d.x.params.map bd):=λj=>Kn ((row j).2 d hm).1;have aF:d.p.n=d.x.params.length:=bo.len ((row (X:=[]) T).2 d hm).1;have fin:∀(t:J) (w':C),Z F0 w0 w' (eL b6 b7 aD ls st ds++[.row bp 1 t ((d.x.params++[e]).map bd)]) (D++[cP ds])->
   aw st (i:Int) λaz=>ao w' ((az.add (ae (i:Int) *7)).add 3) t.v λw7=>kept [b6,b7] w' w7/\gz.dV m1 b6 ⟨none,0,0⟩ ⟨none,0,0⟩ b7 aD st (i:Int) (n:Int) w7 R:=by
  intro t w' j;have an:∀b∈aO t,w0.heap.size<=b:=λb hb=>(j.new _ (aE (i:=4) rfl) b hb).resolve_right id
  let ab:Sp:=⟨⟨d.x.kind,d.x.node,d.x.dD,d.x.params++[e],d.x.nm,d.x.cY,d.x.hints⟩,t,d.l,d.h⟩
  refine yP (X:=[.row bp 1 t ((d.x.params++[e]).map bd)]) j hi 3 (by omega) t.v (d':=ab) rfl λw7 H7=>?_;have H:Z F0 w0 w7 (eL b6 b7 aD ls st (ds.set i ab)) (D++[cP ds]++[.rd t ((d.x.params++[e]).map bd)]):=H7.freeze 4 (.rd t ((d.x.params++[e]).map bd)) rfl (aG.fR (H7.get 4)) λb hb=>iX hb;refine Lu (ds:=ds.set i ab) (d:=ab) (by grind) ai hn ⟨?_,af.set aq ⟨I.kind,I.node,I.dD,⟨λal hz=>?_,by grind⟩,I.cY,I.hints,I.nm⟩ λaa O=>?_⟩ λY w' h1 h3 h2=>hk Y w' (by grind) (λac hj=>by grind) h2
  .refine yN H (by simp) D (λaa O=>by grind) λaa O=>?_
   grind
  .have hz:al∈d.x.params++[e]:=hz;rcases a6.1 hz with ah|ah
   .exact I.params.1 al ah
   grind
  .simp only[ay,aW,a3]at O;rcases O with rfl|rfl|rfl
   .exact .inr (kZ an)
   .grind
   grind
 refine T.ak λw1 H1=>⟨d.p,E (X:=[]) H1,?_⟩;rw[au,av,ax,bT (n / 5%5)];have i0:(0:Int)<=((n / 5%5:Nat):Int):=by omega
 have i5:((n / 5%5:Nat):Int)<((5:Nat):Int):=by omega
 have Q:(0+d.p.n) *8<=140737488355328:=by omega
 have N:∀{b:Nat} {w':C} {L:List En} (k:Nat),Z F0 w0 w' L (D++[cP ds])->L[k]? =some (.c b [.i (n:Int),.i (-(n:Int)),.i 9223372036854775807,.i (-9223372036854775808),.i 0] bp)->w'.cell? ((ag b).add (n / 5%5 *1))=some (.i e):=λk j hL=>by rw[Nat.mul_one];exact j.ld k _ hL ap
 have P:∀{w':C} {L:List En} {t:J} (k:Nat),Z F0 w0 w' L (D++[cP ds])->L[k]? =some (.row bp 1 t (d.x.params.map bd))->(t.n+1) *8<=140737488355328:=λk j hL=>by
  have:=(j.get k hL:aG _ _ _ _ _).len
  grind
 have M:d.x.params.map bd++[Value.i e]=(d.x.params++[e]).map bd:=by rw[List.map_append];rfl
 refine⟨H1.cB (n:=0) (sz:=1) (cs:=[]) rfl (by decide) λw2 B=>⟨E (X:=[_]) B,?_,?_⟩,H1.nw λw2 _ B=>⟨E (X:=[_]) B,i0,i5,qo ⟨e,N 4 B rfl,?_,?_⟩⟩⟩
 .
  refine B.ep 4 h' (s:=⟨some (ag w1.heap.size),0,0⟩) (src:=d.p) (news:=d.x.params.map bd) rfl (S (X:=[_]) B) (pV _) Q λt w3 A=>?_;refine A.nw λw4 _ K=>⟨i0,i5,qo ⟨e,N 5 K rfl,K.nw λw5 _ H5=>?_⟩⟩;refine H5.ep 4 h' (s:=t) (src:=⟨some (ag w4.heap.size),1,1⟩) (news:=[.i e]) rfl (lP (H5.get 6) rfl) (by simp[Value.oneCell']) (P 4 H5 rfl) λy z u=>fin y z ?_;rw[<-M];exact u.take 5
 .refine B.nw λw8 _ H=>⟨E (X:=[_,_]) H,i0,i5,qo ⟨e,N 5 H rfl,?_,?_⟩⟩
  .
   refine H.ep 4 h' (s:=⟨some (ag w1.heap.size),0,0⟩) (src:=d.p) (news:=d.x.params.map bd) rfl (S (X:=[_,_]) H) (pV _) Q λt w9 W=>?_;refine⟨N 5 W rfl,W.nw λaA _ F=>?_⟩;refine F.ep 4 h' (s:=t) (src:=⟨some (ag w9.heap.size),1,1⟩) (news:=[.i e]) rfl (lP (F.get 6) rfl) (by simp[Value.oneCell']) (P 4 F rfl) λy z u=>fin y z ?_;rw[<-M];exact u.take 5
  .
   refine H.nw λaB _ G=>⟨E (X:=[_,_,_]) G,?_⟩;refine G.ep 4 h' (s:=⟨some (ag w1.heap.size),0,0⟩) (src:=d.p) (news:=d.x.params.map bd) rfl (S (X:=[_,_,_]) G) (pV _) Q λt aj q=>?_;refine q.ep 4 h' (s:=t) (src:=⟨some (ag w8.heap.size),1,1⟩) (news:=[.i e]) rfl (lP (q.get 6) rfl) (by simp[Value.oneCell']) (P 4 q rfl) λy z u=>fin y z ?_;rw[<-M];exact u.take 5
 .refine B.cB (n:=0) (sz:=1) (cs:=[]) rfl (by decide) λw3 A=>⟨N 4 A rfl,E (X:=[_,_]) A,?_,?_⟩
  .
   refine A.ep 5 h' (s:=⟨some (ag w2.heap.size),0,0⟩) (src:=d.p) (news:=d.x.params.map bd) rfl (S (X:=[_,_]) A) (pV _) Q λt w9 W=>?_;refine⟨N 4 W rfl,W.nw λaA _ F=>?_⟩;refine F.ep 5 h' (s:=t) (src:=⟨some (ag w9.heap.size),1,1⟩) (news:=[.i e]) rfl (lP (F.get 6) rfl) (by simp[Value.oneCell']) (P 5 F rfl) λy z u=>fin y z ?_;rw[<-M];exact u.ik [true,true,true,true,false,true,false]
  .
   refine A.nw λaB _ G=>⟨E (X:=[_,_,_]) G,?_⟩;refine G.ep 5 h' (s:=⟨some (ag w2.heap.size),0,0⟩) (src:=d.p) (news:=d.x.params.map bd) rfl (S (X:=[_,_,_]) G) (pV _) Q λt aj q=>?_;refine q.ep 5 h' (s:=t) (src:=⟨some (ag w3.heap.size),1,1⟩) (news:=[.i e]) rfl (lP (q.get 6) rfl) (by simp[Value.oneCell']) (P 5 q rfl) λy z u=>fin y z ?_;rw[<-M];exact u.ik [true,true,true,true,false,true,false]
 .
  refine B.nw λw3 _ A=>⟨E (X:=[_,_]) A,A.cB (n:=0) (sz:=1) (cs:=[]) rfl (by decide) λw4 K=>⟨E (X:=[_,_,_]) K,?_⟩⟩;refine K.ep 6 h' (s:=⟨some (ag w3.heap.size),0,0⟩) (src:=d.p) (news:=d.x.params.map bd) rfl (S (X:=[_,_,_]) K) (pV _) Q λt aj q=>?_;refine q.ep 6 h' (s:=t) (src:=⟨some (ag w2.heap.size),1,1⟩) (news:=[.i e]) rfl (lP (q.get 5) rfl) (by simp[Value.oneCell']) (P 6 q rfl) λy z u=>fin y z ?_;rw[<-M];exact u.ik [true,true,true,true,false,false,true]
def R1(a b:Nat)(j:a<4)(k:b<1000):fq [2,-3 - (a:Int),9+(b:Int)]=0/\(∀c∈[2,-3 - (a:Int),9+(b:Int)],bn c):=by
 have q:iQ 2=true:=by decide
 have u:iQ (-3 - (a:Int))=true:=ot.2 (by omega);have w:iQ (9+(b:Int))=true:=ot.2 (by omega);have d:[2,-3 - (a:Int),9+(b:Int)].all iQ=true:=by grind
 have h:jg [2,-3 - (a:Int),9+(b:Int)]=true:=by unfold jg;rw[a0 (by omega),Bool.true_and];unfold jg;rw[a0 (by omega)];rfl
 have e:hX [2,-3 - (a:Int),9+(b:Int)]=0:=by
  unfold hX
  grind
 refine⟨by unfold fq;grind,λc n=>?_⟩
 grind
def Ut{ms:List Int}{K:Nat}(aj:K<=1000)(hx:∀ai∈ms,bn ai)(hm:En.rd m1 (ms.map bd)∈D)(hk:∀ds B,ds.length=K->kC w0 b6 b7 aD ls st ds D B->∀T,Z F0 w0 T (eL b6 b7 aD ls st ds) (D++[cP ds])->R (U (.agg #[aD.v,st.v])) T):∀(k i:Nat) (ds:List Sp) (w:C),i+k=ds.length->ds.length=K->(∀e c,i<=e->ds[e]? =some c->c.x.params.length<=1)->kC w0 b6 b7 aD ls st ds D w->
  gz.mS m1 b6 ⟨none,0,0⟩ ⟨none,0,0⟩ b7 aD st (i:Int) w R:=by
 intro k;induction k with
 |zero=>
  intro i ds w ae O J j;have hn:=fk.n (w:=w) (s:=st) (l:=ds) ⟨(j.1.get 3:aG _ _ _ _ _).bh,sG.1 (j.1.rd (cP ds) (by simp))⟩;exact gz.Fj _ _ _ _ _ _ _ _ _ _ (bb (a2 (by omega)) (j.1.ak λu I=>hk ds w O j u I))
 |succ k ih=>
  intro i ds w ae O J j;have hn:=fk.n (w:=w) (s:=st) (l:=ds) ⟨(j.1.get 3:aG _ _ _ _ _).bh,sG.1 (j.1.rd (cP ds) (by simp))⟩;obtain⟨c,y⟩:∃c,ds[i]? =some c:=⟨ds[i],a9 (by omega)⟩;have af:=(dh.1 y).1;have ah:En.rd m1 (ms.map bd)∈D++[cP ds]:=List.mem_append_left _ hm;have nx:∀G:List Sp,G.length=ds.length->(∀e,e≠i->G[e]? =ds[e]?)->∀F B,F.length=G.length->(∀e,e≠i->F[e]? =G[e]?)->kC w0 b6 b7 aD ls st F D B->gz.mS m1 b6 ⟨none,0,0⟩ ⟨none,0,0⟩ b7 aD st ((i+1:Nat):Int) B R:=λG e1 e2 F B h1 h2 Y=>
   ih (i+1) F B (by omega) (by omega) (λe c hj hd=>J e c (by omega) (by rw[<-e2 e (by omega),<-h2 e (by omega)];exact hd)) Y
  refine gz.Fj _ _ _ _ _ _ _ _ _ _ (a8 (a0 (by omega)) (j.1.ax (pn (j.1.rd _ ah) hx _ 1048576 (by omega)) ?_));rintro _ u ⟨n',rfl,n1,n2⟩ I;obtain⟨n,rfl⟩:=Int.eq_ofNat_of_zero_le n1;have Y1:kC w0 b6 b7 aD ls st ds D u:=⟨I,j.2⟩;have A:=j.2.g i c y;refine⟨_,rfl,aJ (λ_=>?_) (λ_=>Lt y (by omega) (by omega) Y1 (J i c (Nat.le_refl _) y) (nx ds rfl λ_ _=>rfl))⟩;have e4:ad .i64 (-3 - bw (n:Int) 4)=-3 - ((n%4:Nat):Int):=by rw[show bw (n:Int) 4=((n%4:Nat):Int)from rfl,bf _ (by omega)]
  have e9:ad .i64 (9+bw (n:Int) 1000)=9+((n%1000:Nat):Int):=by rw[show bw (n:Int) 1000=((n%1000:Nat):Int)from rfl,bf _ (by omega)]
  rw[e4,e9];obtain⟨Q,S⟩:=R1 (n%4) (n%1000) (Nat.mod_lt _ (by omega)) (Nat.mod_lt _ (by omega));obtain⟨q,P⟩:∃q,q=[2,-3 - ((n%4:Nat):Int),9+((n%1000:Nat):Int)]:=⟨_,rfl⟩;have aa:(#[.i 2,.i (-3 - ((n%4:Nat):Int)),.i (9+((n%1000:Nat):Int))]:Array ab)=(q.map bd).toArray:=by rw[P];rfl
  rw[<-P]at Q S;have al:q.length=3:=by grind
  rw[aa];refine I.cB (n:=3) (sz:=1) (cs:=q.map bd) (by grind) (by decide) λw2 M=>?_;have ac:∀b∈aO ⟨some (ag u.heap.size),3,3⟩,w0.heap.size<=b:=λb L=>(M.new _ (aE (i:=4) rfl) b L).resolve_right id
  let E:Sp:=⟨⟨c.x.kind,c.x.node,c.x.dD,c.x.params,c.x.nm,q,c.x.hints⟩,c.p,⟨some (ag u.heap.size),3,3⟩,c.h⟩
  have am:∀H∈[c.pE,c.hE,c.lE],H∈jq ds:=λH z=>cj.2 ⟨c,aE y,z⟩;refine yP (X:=[.row bp 1 ⟨some (ag u.heap.size),3,3⟩ (q.map bd)]) M y 5 (by omega) (.slice (some (ag u.heap.size)) 3 3) (d':=E) rfl λw7 N=>?_;have W:Z F0 w0 w7 (eL b6 b7 aD ls st (ds.set i E)) (D++[cP ds]++[.rd ⟨some (ag u.heap.size),3,3⟩ (q.map bd)]):=N.freeze 4 (.rd ⟨some (ag u.heap.size),3,3⟩ (q.map bd)) rfl (aG.fR (N.get 4)) λb L=>iX L;refine Lt (ds:=ds.set i E) (d:=E) (by grind) (by omega) (by omega) ⟨?_,j.2.set af ⟨A.kind,A.node,A.dD,A.params,⟨Q,S,by grind⟩,A.hints,A.nm⟩ λH z=>?_⟩ (J i c (Nat.le_refl _) y) (nx (ds.set i E) (by simp) λe hj=>List.getElem?_set_ne (by omega))
  .refine yN W (by simp) D (λH z=>by grind) λH z=>?_
   grind
  .simp only[ay,aW,a3]at z;rcases z with rfl|rfl|rfl
   .grind
   .grind
   .exact .inr (kZ ac)
end
def hR(n:Nat):List UInt8:=if n<128 then[dP n]else dP (n%128+128)::hR (n / 128)
termination_by n
decreasing_by omega
def n2{n:Nat}(h:n<128):hR n=[dP n]:=by rw[hR,aA h]
def pK{n:Nat}(h:¬n<128):hR n=dP (n%128+128)::hR (n / 128):=by rw[hR,aq h]
def Hg:∀(d n:Nat),n<2 *128^d->(hR n).length<=d+1
 |0,n,c=>by rw[n2 (by omega)];simp
 |d+1,n,c=>by
  by_cases e:n<128
  .rw [n2 e];simp
  .rw [pK e];have:=Hg d (n / 128) (by rw[Nat.pow_succ]at c;omega);simp;omega
def zz(n:Int):Nat:=if 0<=n then(2 *n).toNat else(-(2 *n) - 1).toNat
def M3(n:Int)(c:-9223372036854775808<=n)(d:n<=9223372036854775807):zz n<18446744073709551616:=by unfold zz;split<;>omega
def hQ(n:Int):List UInt8:=hR (zz n)
def kI(b:List UInt8):List UInt8:=hR b.length++b
def kb(l:List Int):List UInt8:=hR l.length++l.flatMap hQ
def hS(n:Nat)(h:n<18446744073709551616):(hR n).length<=10:=Hg 9 n (by simpa using h)
def e2(n:Int)(h:bn n):(hQ n).length<=10:=hS _ (M3 n h.1 h.2)
namespace y'
noncomputable abbrev X:Fx:=⟨V,Tryz.f115,[],[1]⟩
abbrev P0:Ps:=[]
abbrev aZ(w:C)(R:aa):Prop:=
 R (U (.i 9)) w
noncomputable def aX:=aC X [] (ai [0,1,1,1,3]) P0 aZ
abbrev aY(w:C)(R:aa):Prop:=
 R (U (.i 9)) w
noncomputable def a1:=aC X [aX] (ai [0,1,1,1,4]) P0 aY
abbrev be(w:C)(R:aa):Prop:=
 R (U (.i 0)) w
noncomputable def a7:=aC X [a1,aX] (ai [5]) P0 be
abbrev P1:Ps:=[(1,.l [.I,.I,.I] b3),(3,.v [.I]),(4,.v [.I]),(5,.v [.b])]
abbrev aS(k:Nat)(n e c h j:Int)(d:Bool)(w:C)(R:aa):Prop:=
 Y (af (e<h)) (aZ w R) (Y (af (e>j)) (aZ w R) (Y d (Y (af (c<1)) (aY w R) (Y (af (c>16)) (aY w R) (Y (!d) (Y (c !=0) (aY w R) (be w R)) (be w R)))) (Y (!d) (Y (c !=0) (aY w R) (be w R)) (be w R))))
noncomputable def aT:=aC X [a7,a1,aX] (ai [3]) P1 aS
def aB(c d e:Int)(w:C)(R:aa)(h:aP [] w λk j=>
 Y (c==0) (aS k c d e 1 64 false j R) (Y (c==1) (aS k c d e 0 64 false j R) (Y (c==2) (aS k c d e 1 64 true j R) (Y (c==3) (aS k c d e 0 64 true j R) (R (U (.i 9)) j))))):ah V yd #[.agg #[.i c,.i d,.i e]] w R:=aM X [aT,a7,a1,aX] h
end y'
namespace mI
noncomputable abbrev X:Fx:=⟨V,Tryz.f114,[],[]⟩
abbrev P0:Ps:=[]
abbrev S0(w:C)(R:aa):Prop:=
 R (U (.bool false)) w
noncomputable def aT:=aC X [] (ai [0,1,1,1,1]) P0 S0
abbrev P1:Ps:=[(0,.v [.st]),(3,.v [.I])]
def L1(d:ByteArray)(c:Int)(w:C)(R:aa):Prop:=bz P1 0 (X.Sem (ai [0,1,1,1,2])) d c w R
noncomputable def bx:=bK X (ai [0,1,1,1,2]) P1 L1
abbrev S4(w:C)(R:aa):Prop:=
 R (U (.bool false)) w
noncomputable def bq:=aC X [bx,aT] (ai [0,1,3,2,1,2,1,1,2]) P0 S4
abbrev S5(d:ByteArray)(c:Int)(w:C)(R:aa):Prop:=
 L1 d (ad .i64 (c+1)) w R
noncomputable def cw:=aC X [bq,bx,aT] (ai [2,2,1,1,2]) P1 S5
abbrev P2:Ps:=[(0,.v [.st]),(3,.v [.I]),(4,.v [.Y]),(5,.v [.b])]
abbrev S3(e:ByteArray)(c d:Int)(h:Bool)(w:C)(R:aa):Prop:=
 Y (!h) (Y (c==0) (S4 w R) (Y (d !=45) (Y (af (d<48)) (S4 w R) (Y (af (d>57)) (S4 w R) (S5 e c w R))) (S5 e c w R))) (S5 e c w R)
noncomputable def a7:=aC X [cw,bq,bx,aT] (ai [2,2,1,2,1,1,2]) P2 S3
abbrev P3:Ps:=[(0,.v [.st]),(3,.v [.I]),(4,.v [.Y])]
abbrev S2(e:ByteArray)(d c:Int)(w:C)(R:aa):Prop:=
 Y (af (c>=97)) (S3 e d c (af (c<=122)) w R) (S3 e d c false w R)
noncomputable def a1:=aC X [a7,cw,bq,bx,aT] (ai [1,2,1,2,1,1,2]) P3 S2
def j3:∀(d:ByteArray) (c:Int) (w:C) (R:aa) (h:Y (af (c<((d.size:Nat):Int))) ((0:Int)<=c/\∃e:UInt8,d[ae c]? =some e/\S2 d c ((e.toNat:Nat):Int) w R) (R (U (.bool true)) w)),L1 d c w R:=mp (bL (X:=X) [a1,a7,cw,bq,bx,aT] (ai [0,1,1,1,2]) P1)
def ok(c:ByteArray)(w:C)(R:aa)(h:Y (af (((c.size:Nat):Int)<1)) (S0 w R) (Y (af (((c.size:Nat):Int)>16)) (S0 w R) (L1 c 0 w R))):ah V Dc #[.string c] w R:=aM X [a1,a7,cw,bq,bx,aT] h
end mI
namespace vC
noncomputable abbrev X:Fx:=⟨V,Tryz.f92,[],[]⟩
abbrev P0:Ps:=[(0,.v [.r]),(3,.v [.b]),(4,.v [.b]),(5,.v [.b]),(6,.v [.b])]
abbrev S1(c:Addr)(F h e d:Bool)(w:C)(R:aa):Prop:=
 Y F (Y h (Y e (Y d (R (U (.bool true)) w) (∃t57:ByteArray,w.cell? (c.add 5)=some (.string t57)/\
 R (U (.bool (t57.toList==(av #[]).toList))) w)) (∃t47:Int,w.cell? (c.add 4)=some (.u t47)/\
 Y (t47==0) (Y d (R (U (.bool true)) w) (∃x:ByteArray,w.cell? (c.add 5)=some (.string x)/\
 R (U (.bool (x.toList==(av #[]).toList))) w)) (R (U (.bool false)) w))) (∃t37:Int,w.cell? (c.add 3)=some (.i t37)/\
 Y (t37==0) (Y e (Y d (R (U (.bool true)) w) (∃y:ByteArray,w.cell? (c.add 5)=some (.string y)/\
 R (U (.bool (y.toList==(av #[]).toList))) w)) (∃k:Int,w.cell? (c.add 4)=some (.u k)/\
 Y (k==0) (Y d (R (U (.bool true)) w) (∃z:ByteArray,w.cell? (c.add 5)=some (.string z)/\
 R (U (.bool (z.toList==(av #[]).toList))) w)) (R (U (.bool false)) w))) (R (U (.bool false)) w))) (∃t28:Int,w.cell? (c.add 2)=some (.i t28)/\
 Y (t28==0) (Y h (Y e (Y d (R (U (.bool true)) w) (∃A:ByteArray,w.cell? (c.add 5)=some (.string A)/\
 R (U (.bool (A.toList==(av #[]).toList))) w)) (∃n:Int,w.cell? (c.add 4)=some (.u n)/\
 Y (n==0) (Y d (R (U (.bool true)) w) (∃B:ByteArray,w.cell? (c.add 5)=some (.string B)/\
 R (U (.bool (B.toList==(av #[]).toList))) w)) (R (U (.bool false)) w))) (∃j:Int,w.cell? (c.add 3)=some (.i j)/\
 Y (j==0) (Y e (Y d (R (U (.bool true)) w) (∃D:ByteArray,w.cell? (c.add 5)=some (.string D)/\
 R (U (.bool (D.toList==(av #[]).toList))) w)) (∃q:Int,w.cell? (c.add 4)=some (.u q)/\
 Y (q==0) (Y d (R (U (.bool true)) w) (∃E:ByteArray,w.cell? (c.add 5)=some (.string E)/\
 R (U (.bool (E.toList==(av #[]).toList))) w)) (R (U (.bool false)) w))) (R (U (.bool false)) w))) (R (U (.bool false)) w))
noncomputable def aX:=aC X [] (ai [3]) P0 S1
abbrev P1:Ps:=[(0,.v [.r]),(3,.v [.b]),(4,.v [.b]),(5,.v [.b])]
abbrev S0(h:Addr)(d c e:Bool)(w:C)(R:aa):Prop:=
 S1 h d c e true w R
noncomputable def aT:=aC X [aX] (ai [0,1,1,1,1,1,2]) P1 S0
abbrev P2:Ps:=[(0,.v [.r]),(4,.v [.b]),(5,.v [.b]),(6,.v [.b])]
abbrev S3(h:Addr)(c e d:Bool)(w:C)(R:aa):Prop:=
 S1 h true c e d w R
noncomputable def a7:=aC X [aT,aX] (ai [0,1,7,1,1,1,2]) P2 S3
abbrev P3:Ps:=[(0,.v [.r]),(3,.v [.b]),(4,.v [.b]),(5,.v [.b]),(6,.v [.b]),(10,.v [.I])]
abbrev S2(d:Addr)(j e h c:Bool)(t10:Int)(w:C)(R:aa):Prop:=
 Y (t10==1) (S1 d j e true c w R) (Y (t10==21) (S1 d true true h c w R) (Y (t10==22) (Y (t10==22) (S3 d e h c w R) (S1 d j e h c w R)) (Y (t10==23) (Y (t10==23) (S3 d e h c w R) (S1 d j e h c w R)) (Y (t10==28) (S3 d e h c w R) (S1 d j e h c w R)))))
noncomputable def a1:=aC X [a7,aT,aX] (ai [2,1,1,1,2]) P3 S2
def ok(c:Addr)(w:C)(R:aa)(h:∃t10:Int,w.cell? (c.add 0)=some (.i t10)/\
 Y (t10==0) (Y (t10==0) (S0 c false false false w R) (S2 c false false false false t10 w R)) (Y (t10==2) (Y (t10==2) (S0 c false false false w R) (S2 c false false false false t10 w R)) (Y (t10==33) (S0 c false false false w R) (S2 c false false false false t10 w R)))):ah V Db #[.pointer (some c)] w R:=aM X [a1,a7,aT,aX] h
end vC
namespace Mj
noncomputable abbrev X:Fx:=⟨V,Tryz.f120,[],[2]⟩
def aB(c:Int)(w:C)(R:aa)(h:aP [] w λd e=>
 loc [d] e λj=>R (U (.agg #[.i 0,.i c,.i 0])) j):ah V ib #[.i c] w R:=aM X [] h
end Mj
namespace Mr
noncomputable abbrev X:Fx:=⟨V,Tryz.f116,[],[2]⟩
def aB(c:Int)(w:C)(R:aa)(h:aP [] w λd e=>
 loc [d] e λj=>R (U (.agg #[.i 1,.i c,.i 0])) j):ah V oA #[.i c] w R:=aM X [] h
end Mr
namespace Ml
noncomputable abbrev X:Fx:=⟨V,Tryz.f119,[],[1]⟩
def aB(c d e:Int)(w:C)(R:aa)(h:aP [] w λk j=>
 R (U (.bool (c==0))) j):ah V nr #[.agg #[.i c,.i d,.i e]] w R:=aM X [] h
end Ml
namespace Mn
noncomputable abbrev X:Fx:=⟨V,Tryz.f122,[],[1]⟩
def aB(c d e:Int)(w:C)(R:aa)(h:aP [] w λk j=>
 R (U (.bool (c==1))) j):ah V ic #[.agg #[.i c,.i d,.i e]] w R:=aM X [] h
end Mn
namespace Mk
noncomputable abbrev X:Fx:=⟨V,Tryz.f117,[],[1]⟩
def aB(c e j:Int)(w:C)(R:aa)(h:aP [] w λk d=>
 Y (c==2) (R (U (.bool true)) d) (R (U (.bool (c==3))) d)):ah V uT #[.agg #[.i c,.i e,.i j]] w R:=aM X [] h
end Mk
namespace Mf
noncomputable abbrev X:Fx:=⟨V,Tryz.f121,[],[2,3]⟩
def aB(d e j k n q:Int)(w:C)(R:aa)(h:aP [] w λc z=>
 aP [c] z λu x=>
 Y ((d==k)&&((e==n)&&((j==q)&&true))) (R (U (.bool true)) x) (bP [c,u] ic #[.agg #[.i d,.i e,.i j]] x λt10 y=>Y t10 (bP [c,u] ic #[.agg #[.i k,.i n,.i q]] y λt13 A=>R (U (.bool t13)) A) (R (U (.bool false)) y))):ah V x8 #[.agg #[.i d,.i e,.i j],.agg #[.i k,.i n,.i q]] w R:=aM X [] h
end Mf
namespace Mp
noncomputable abbrev X:Fx:=⟨V,Tryz.f118,[],[3,6]⟩
def aB(d e j:Int)(u q:Bool)(w:C)(R:aa)(h:aP [] w λc x=>
 aP [c] x λk n=>
 Y (!u) (loc [c,k] n λz=>R (U (.tuple #[.agg #[.i d,.i e,.i j],.i 9])) z) (Y (!q) (loc [c,k] n λA=>R (U (.tuple #[.agg #[.i d,.i e,.i j],.i 5])) A) (loc [c,k] n λy=>R (U (.tuple #[.agg #[.i d,.i e,.i j],.i 0])) y))):ah V dC #[.agg #[.i d,.i e,.i j],.bool u,.bool q] w R:=aM X [] h
end Mp
namespace EE
noncomputable abbrev X:Fx:=⟨V,Tryz.f93,[(7,ls [0,1,2,3,4,5,6,7,8])],[]⟩
abbrev P0:Ps:=[(0,.v [.r]),(4,.v [.r])]
abbrev S0(d t4:Addr)(w:C)(R:aa):Prop:=
 cG w (d.add 6) λk n q=>qC w t4 (.i k) (.i n) (.i q) λc=>cG c t4 λe h j=>R (U (.tuple #[.agg #[.i e,.i h,.i j],.i 0])) c
noncomputable def aT:=aC X [] (ai [4]) P0 S0
def ok(c:Addr)(e:Fv)(w:C)(R:aa)(h:aK w (.cells #[.i 0,.i 0,.i 0] b3) λE=>
 ∃t12:ByteArray,E.cell? (c.add 5)=some (.string t12)/\
 gL Dc #[.string t12] E λt13 u=>Y (!t13) (cG u (c.add 6) λJ K L=>qC u (nb w) (.i J) (.i K) (.i L) λG=>cG G (nb w) λj k q=>R (U (.tuple #[.agg #[.i j,.i k,.i q],.i 6])) G) (cG u (c.add 6) λM N O=>en yd #[.agg #[.i M,.i N,.i O]] u λt23 x=>Y (t23 !=0) (cG x (c.add 6) λP Q S=>qC x (nb w) (.i P) (.i Q) (.i S) λH=>cG H (nb w) λj k q=>R (U (.tuple #[.agg #[.i j,.i k,.i q],.i t23])) H) (∃t36:ByteArray,x.cell? (c.add 5)=some (.string t36)/\
 cF (gx V e.n) (ah V e.n (e.bs++#[.string t36]++e.cs) x λI y=>∃z:Int,∃A:Int,∃B:Int,∃D:Bool,I=U (.tuple #[.agg #[.i z,.i A,.i B],.bool D])/\
 aK y (.cells #[.i 0,.i 0,.i 0] b3) λai=>
 qC ai (nb y) (.i z) (.i A) (.i B) λaj=>dM aj λd=>Y D (cG d (nb y) λT W Z=>cG d (c.add 6) λab ac ad=>Y (!((T==ab)&&((W==ac)&&((Z==ad)&&true)))) (cG d (c.add 6) λae af ag=>qC d (nb w) (.i ae) (.i af) (.i ag) λF=>cG F (nb w) λj k q=>R (U (.tuple #[.agg #[.i j,.i k,.i q],.i 8])) F) (S0 c (nb w) d R)) (S0 c (nb w) d R))))):ah V Dk #[.pointer (some c),e.v] w R:=aM X [aT] h
end EE
namespace ED
noncomputable abbrev X:Fx:=⟨V,Tryz.f94,[(14,ls [0,1,2,3,4,5,6,7,8,9,10,11,12,13,14,15,16,17,18])],[2]⟩
abbrev P0:Ps:=[(0,.v [.r]),(2,.l [.I,.I,.I] b3)]
abbrev aS(c:Addr)(t2:Nat)(k n q:Int)(w:C)(R:aa):Prop:=
 cG w (c.add 6) λd e h=>loc [t2] w λj=>R (U (.tuple #[.agg #[.i d,.i e,.i h],.i 0])) j
noncomputable def aT:=aC X [] (ai [6]) P0 aS
def aB(c:Addr)(w:C)(R:aa)(h:aP [] w λd j=>
 ∃q:Int,j.cell? (c.add 0)=some (.i q)/\
 Y (q==2) (∃t13:ByteArray,j.cell? (c.add 5)=some (.string t13)/\
 Y (af (((t13.size:Nat):Int)>64)) (cG j (c.add 6) λx y z=>loc [d] j λw4=>R (U (.tuple #[.agg #[.i x,.i y,.i z],.i 5])) w4) (∃t23:ByteArray,j.cell? (c.add 5)=some (.string t23)/\
 cJ [d] oA #[.i ((t23.size:Nat):Int)] j λA B D w5=>loc [d] w5 λw8=>R (U (.tuple #[.agg #[.i A,.i B,.i D],.i 0])) w8)) (cG j (c.add 6) λE F G=>bG [d] yd #[.agg #[.i E,.i F,.i G]] j λt30 e=>Y (t30 !=0) (cG e (c.add 6) λH I J=>loc [d] e λai=>R (U (.tuple #[.agg #[.i H,.i I,.i J],.i t30])) ai) (∃t41:Int,e.cell? (c.add 0)=some (.i t41)/\
 Y (t41==3) (cG e (c.add 6) λK L M=>bP [d] uT #[.agg #[.i K,.i L,.i M]] e λt47 n=>Y (!t47) (cG n (c.add 6) λN O P=>loc [d] n λaj=>R (U (.tuple #[.agg #[.i N,.i O,.i P],.i 9])) aj) (cG n (c.add 6) λQ S T=>loc [d] n λak=>R (U (.tuple #[.agg #[.i Q,.i S,.i T],.i 0])) ak)) (∃t61:Int,e.cell? ((c.add 6).add 0)=some (.i t61)/\
 Y (t61 !=0) (cG e (c.add 6) λW Z ab=>loc [d] e λal=>R (U (.tuple #[.agg #[.i W,.i Z,.i ab],.i 9])) al) (loc [d] e λk=>∃t71:Int,k.cell? ((c.add 6).add 1)=some (.i t71)/\
 Y (af (t71<64)) (∃t77:Int,k.cell? (c.add 4)=some (.u t77)/\
 ∃t82:Int,k.cell? ((c.add 6).add 1)=some (.i t82)/\
 ¬t82<0/\Y ((Int.fdiv t77 (2^(min (ae t82) (IntKind.bits .u64)))) !=0) (cG k (c.add 6) λac ad ag=>loc [d] k λam=>R (U (.tuple #[.agg #[.i ac,.i ad,.i ag],.i 5])) am) (aS c d 0 0 0 k R)) (aS c d 0 0 0 k R)))))):ah V Di #[.pointer (some c)] w R:=aM X [aT] h
end ED
namespace EC
noncomputable abbrev X:Fx:=⟨V,Tryz.f95,[(4,ls [0,1,2,3,4,5,6,7]),(7,ls [1,0,2,3,4,5,6,7,8,9,10,11,12]),(9,ls [1,2,0,3,4,5,6,7,8]),(14,ls [0,1,2,3,4,5,6,7,8,9,10,11,12,13]),(16,ls [0,1,2,3,4,6,12,13,14,15,16,17,5,7,8,9,10,11,18,19,20,21,22]),(18,ls [0,1,2,3,4,5,6,7,8,9,11,13,14,15,16,17,10,12,18,19,20,21,22,23,24,25,26,27,28,29,30,31,32,33,34,35,36,37,38,39,40,41,42]),(21,ls [0,1,2,3,4,5,6,8,10,11,12,13,14,7,9,15,16,17,18,19,20,21,22,23,24,25,26,27,28,29]),(22,ls [0,1,2,3,4,5,6,7,8,9,10,11,12])],[5,6,7,8,10]⟩
abbrev P0:Ps:=[(5,.l [.I,.I,.I] b3),(8,.l [.I,.I,.I] b3)]
abbrev aS(d:Nat)(e h j:Int)(c:Nat)(B D E:Int)(w:C)(R:aa):Prop:=
 loc [d,c] w λx=>bP [d,c] nr #[.agg #[.i e,.i h,.i j]] x λt20 y=>cW [d,c] dC #[.agg #[.i e,.i h,.i j],.bool t20,.bool true] y λk n q u z=>loc [d,c] z λA=>R (U (.tuple #[.agg #[.i k,.i n,.i q],.i u])) A
noncomputable def aT:=aC X [] (ai [0,1,1,1,1,1,1]) P0 aS
abbrev P1:Ps:=[(5,.l [.I,.I,.I] b3),(6,.l [.I,.I,.I] b3),(8,.l [.I,.I,.I] b3)]
abbrev aY(d:Nat)(q u x:Int)(e:Nat)(N O P:Int)(c:Nat)(Q S T:Int)(w:C)(R:aa):Prop:=
 loc [d,e,c] w λH=>cJ [d,e,c] ib #[.i 1] H λh j k J=>bP [d,e,c] nr #[.agg #[.i q,.i u,.i x]] J λt29 n=>Y t29 (cW [d,e,c] dC #[.agg #[.i h,.i j,.i k],.bool ((q==N)&&((u==O)&&((x==P)&&true))),.bool true] n λy z A B K=>loc [d,e,c] K λL=>R (U (.tuple #[.agg #[.i y,.i z,.i A],.i B])) L) (cW [d,e,c] dC #[.agg #[.i h,.i j,.i k],.bool false,.bool true] n λD E F G M=>loc [d,e,c] M λI=>R (U (.tuple #[.agg #[.i D,.i E,.i F],.i G])) I)
noncomputable def a1:=aC X [aT] (ai [0,1,3,1,1,1,1]) P1 aY
abbrev P2:Ps:=[(5,.l [.I,.I,.I] b3),(6,.l [.I,.I,.I] b3),(7,.l [.I,.I,.I] b3),(8,.l [.I,.I,.I] b3),(10,.l [.I,.I,.I] b3)]
abbrev cq(e:Nat)(P Q S:Int)(h:Nat)(T W Z:Int)(j:Nat)(ab ac ad:Int)(d:Nat)(ae af ag:Int)(c:Nat)(k n q:Int)(w:C)(R:aa):Prop:=
 loc [e,h,j,d,c] w λJ=>cJ [e,h,j,d,c] ib #[.i 1] J λx y z u=>Y ((P==x)&&((Q==y)&&((S==z)&&true))) (bP [e,h,j,d,c] x8 #[.agg #[.i T,.i W,.i Z],.agg #[.i ab,.i ac,.i ad]] u λt69 L=>cW [e,h,j,d,c] dC #[.agg #[.i k,.i n,.i q],.bool t69,.bool true] L λA B D E M=>loc [e,h,j,d,c] M λN=>R (U (.tuple #[.agg #[.i A,.i B,.i D],.i E])) N) (cW [e,h,j,d,c] dC #[.agg #[.i k,.i n,.i q],.bool false,.bool true] u λF G H I O=>loc [e,h,j,d,c] O λK=>R (U (.tuple #[.agg #[.i F,.i G,.i H],.i I])) K)
noncomputable def bq:=aC X [a1,aT] (ai [2,1,7,1,1,1,1]) P2 cq
abbrev P3:Ps:=[(0,.v [.r]),(5,.l [.I,.I,.I] b3),(8,.l [.I,.I,.I] b3)]
abbrev eC(e:Addr)(d:Nat)(L k M:Int)(c:Nat)(N O P:Int)(w:C)(R:aa):Prop:=
 loc [d,c] w λj=>∃t148:Int,j.cell? (e.add 2)=some (.i t148)/\
 ∃t156:Int,j.cell? (e.add 2)=some (.i t156)/\
 cJ [d,c] ib #[.i (ad .i64 (k+t148))] j λn q u x=>x.cell? (e.add 2)=some (.i t156)/\bP [d,c] nr #[.agg #[.i L,.i k,.i M]] x λt152 h=>h.cell? (e.add 2)=some (.i t156)/\Y (af (1<=t156)) (∃t162:Int,h.cell? (e.add 2)=some (.i t162)/\
 cW [d,c] dC #[.agg #[.i n,.i q,.i u],.bool t152,.bool (af (t162<=(ad .i64 (64 - k))))] h λy z A B I=>loc [d,c] I λJ=>R (U (.tuple #[.agg #[.i y,.i z,.i A],.i B])) J) (cW [d,c] dC #[.agg #[.i n,.i q,.i u],.bool t152,.bool false] h λD E F G K=>loc [d,c] K λH=>R (U (.tuple #[.agg #[.i D,.i E,.i F],.i G])) H)
noncomputable def cw:=aC X [bq,a1,aT] (ai [0,1,13,1,1,1,1]) P3 eC
abbrev dV(d:Nat)(h j k:Int)(e:Nat)(J K L:Int)(c:Nat)(M N O:Int)(w:C)(R:aa):Prop:=
 loc [d,e,c] w λE=>bP [d,e,c] nr #[.agg #[.i h,.i j,.i k]] E λt173 n=>Y t173 (cW [d,e,c] dC #[.agg #[.i h,.i j,.i k],.bool ((h==J)&&((j==K)&&((k==L)&&true))),.bool true] n λq u x y G=>loc [d,e,c] G λH=>R (U (.tuple #[.agg #[.i q,.i u,.i x],.i y])) H) (cW [d,e,c] dC #[.agg #[.i h,.i j,.i k],.bool false,.bool true] n λz A B D I=>loc [d,e,c] I λF=>R (U (.tuple #[.agg #[.i z,.i A,.i B],.i D])) F)
noncomputable def df:=aC X [cw,bq,a1,aT] (ai [2]) P1 dV
abbrev P4:Ps:=[(0,.v [.r]),(5,.l [.I,.I,.I] b3),(6,.l [.I,.I,.I] b3),(7,.l [.I,.I,.I] b3),(8,.l [.I,.I,.I] b3),(14,.v [.I])]
abbrev be(n:Addr)(d:Nat)(q k u:Int)(e:Nat)(x j y:Int)(h:Nat)(H F I:Int)(c:Nat)(A B D t14:Int)(w:C)(R:aa):Prop:=
 Y (t14==18) (loc [d,e,h,c] w λw1=>cJ [d,e,h,c] ib #[.i 1] w1 λan ao ap w2=>bP [d,e,h,c] x8 #[.agg #[.i q,.i k,.i u],.agg #[.i x,.i j,.i y]] w2 λt43 w3=>cW [d,e,h,c] dC #[.agg #[.i an,.i ao,.i ap],.bool t43,.bool true] w3 λaq ar au av w4=>loc [d,e,h,c] w4 λw7=>R (U (.tuple #[.agg #[.i aq,.i ar,.i au],.i av])) w7) (Y (t14==19) (aP [d,e,h,c] w λz w8=>
 loc [d,e,h,c,z] w8 λaH=>bP [d,e,h,c,z] ic #[.agg #[.i x,.i j,.i y]] aH λt51 P=>Y t51 (bP [d,e,h,c,z] ic #[.agg #[.i H,.i F,.i I]] P λt54 Q=>Y t54 (cJ [d,e,h,c,z] oA #[.i (if j<F then F else j)] Q λaw ax ay aI=>loc [d,e,h,c,z] aI λaJ=>cq d q k u e x j y h H F I c A B D z aw ax ay aJ R) (cq d q k u e x j y h H F I c A B D z x j y Q R)) (cq d q k u e x j y h H F I c A B D z x j y P R)) (Y (t14==20) (loc [d,e,h,c] w λaK=>cJ [d,e,h,c] ib #[.i (ad .i64 (k+j))] aK λM N O aL=>bP [d,e,h,c] nr #[.agg #[.i q,.i k,.i u]] aL λt83 S=>Y t83 (bP [d,e,h,c] nr #[.agg #[.i x,.i j,.i y]] S λt86 aM=>cW [d,e,h,c] dC #[.agg #[.i M,.i N,.i O],.bool t86,.bool (af ((ad .i64 (k+j))<=64))] aM λaz aA aB aC aN=>loc [d,e,h,c] aN λaO=>R (U (.tuple #[.agg #[.i az,.i aA,.i aB],.i aC])) aO) (cW [d,e,h,c] dC #[.agg #[.i M,.i N,.i O],.bool false,.bool (af ((ad .i64 (k+j))<=64))] S λaD aE aF aG aQ=>loc [d,e,h,c] aQ λaR=>R (U (.tuple #[.agg #[.i aD,.i aE,.i aF],.i aG])) aR)) (Y (t14==21) (loc [d,e,h,c] w λG=>∃t102:Int,G.cell? (n.add 2)=some (.i t102)/\
 ∃t106:Int,G.cell? (n.add 3)=some (.i t106)/\
 ∃t115:Int,G.cell? (n.add 3)=some (.i t115)/\
 cJ [d,e,h,c] ib #[.i (ad .i64 ((ad .i64 (t102 - t106))+1))] G λJ K L T=>T.cell? (n.add 3)=some (.i t115)/\bP [d,e,h,c] nr #[.agg #[.i q,.i k,.i u]] T λt111 E=>E.cell? (n.add 3)=some (.i t115)/\Y (af (0<=t115)) (∃t121:Int,E.cell? (n.add 3)=some (.i t121)/\
 ∃t125:Int,E.cell? (n.add 2)=some (.i t125)/\
 Y (af (t121<=t125)) (∃t132:Int,E.cell? (n.add 2)=some (.i t132)/\
 cW [d,e,h,c] dC #[.agg #[.i J,.i K,.i L],.bool t111,.bool (af (t132<k))] E λW Z ab ac aS=>loc [d,e,h,c] aS λaT=>R (U (.tuple #[.agg #[.i W,.i Z,.i ab],.i ac])) aT) (cW [d,e,h,c] dC #[.agg #[.i J,.i K,.i L],.bool t111,.bool false] E λae ag ah ai aU=>loc [d,e,h,c] aU λaV=>R (U (.tuple #[.agg #[.i ae,.i ag,.i ah],.i ai])) aV)) (cW [d,e,h,c] dC #[.agg #[.i J,.i K,.i L],.bool t111,.bool false] E λaj ak al am aW=>loc [d,e,h,c] aW λaX=>R (U (.tuple #[.agg #[.i aj,.i ak,.i al],.i am])) aX)) (Y (t14==22) (Y (t14==22) (eC n d q k u c A B D w R) (dV d q k u e x j y c A B D w R)) (Y (t14==23) (eC n d q k u c A B D w R) (dV d q k u e x j y c A B D w R))))))
noncomputable def a7:=aC X [df,cw,bq,a1,aT] (ai [4,1,1,1,1]) P4 be
abbrev aZ(A:Addr)(j:Nat)(k n q:Int)(u:Nat)(x y z:Int)(B:Nat)(D E F:Int)(c:Nat)(d e h t14:Int)(w:C)(R:aa):Prop:=
 Y (t14==16) (Y (t14==16) (aY j k n q u x y z c d e h w R) (be A j k n q u x y z B D E F c d e h t14 w R)) (Y (t14==17) (aY j k n q u x y z c d e h w R) (be A j k n q u x y z B D E F c d e h t14 w R))
noncomputable def aX:=aC X [a7,df,cw,bq,a1,aT] (ai [2,1,1,1,1]) P4 aZ
def aB(u:Addr)(e j k y z A B D E:Int)(w:C)(R:aa)(h:aP [] w λc F=>
 aP [c] F λn G=>
 aP [c,n] G λx H=>
 aP [c,n,x] H λq d=>
 ∃t14:Int,d.cell? (u.add 0)=some (.i t14)/\
 Y (t14==4) (Y (t14==4) (aS c e j k q 0 0 0 d R) (aZ u c e j k n y z A x B D E q 0 0 0 t14 d R)) (Y (t14==5) (aS c e j k q 0 0 0 d R) (aZ u c e j k n y z A x B D E q 0 0 0 t14 d R))):ah V Dh #[.pointer (some u),.agg #[.i e,.i j,.i k],.agg #[.i y,.i z,.i A],.agg #[.i B,.i D,.i E]] w R:=aM X [aX,a7,df,cw,bq,a1,aT] h
end EC
namespace y0
noncomputable abbrev X:Fx:=⟨V,Tryz.f96,[(2,ls [0,1,3,2,4,5,6,7,8,9,10,11,12,13,14]),(6,ls [0,1,2,3,4,5,6,7,8,9]),(10,ls [0,1,2,3,4,5,6,7,8,9,10,11,12,13,14,15,16,17]),(11,ls [0,1,2,3,4,5,6,7,8,9,10,11])],[5,6,7,8,10]⟩
abbrev P0:Ps:=[(0,.v [.r]),(5,.l [.I,.I,.I] b3),(7,.l [.I,.I,.I] b3),(8,.l [.I,.I,.I] b3),(10,.l [.I,.I,.I] b3),(11,.v [.b])]
abbrev aZ(G:Addr)(e:Nat)(j k n:Int)(h:Nat)(E y F:Int)(d:Nat)(ax ay az:Int)(c:Nat)(z A B:Int)(q:Bool)(w:C)(R:aa):Prop:=
 ∃t51:Int,w.cell? (G.add 0)=some (.i t51)/\
 Y (t51==24) (cW [e,h,d,c] dC #[.agg #[.i z,.i A,.i B],.bool q,.bool true] w λH I J K w1=>loc [e,h,d,c] w1 λw4=>R (U (.tuple #[.agg #[.i H,.i I,.i J],.i K])) w4) (Y (j==3) (Y q (loc [e,h,d,c] w λx=>bP [e,h,d,c] ic #[.agg #[.i E,.i y,.i F]] x λt65 D=>Y t65 (cW [e,h,d,c] dC #[.agg #[.i j,.i k,.i n],.bool (af (y<=k)),.bool true] D λL M N O w7=>loc [e,h,d,c] w7 λam=>R (U (.tuple #[.agg #[.i L,.i M,.i N],.i O])) am) (cW [e,h,d,c] dC #[.agg #[.i j,.i k,.i n],.bool false,.bool true] D λP Q S T an=>loc [e,h,d,c] an λao=>R (U (.tuple #[.agg #[.i P,.i Q,.i S],.i T])) ao)) (loc [e,h,d,c] w λx=>cW [e,h,d,c] dC #[.agg #[.i j,.i k,.i n],.bool false,.bool true] x λW Z ab ac ap=>loc [e,h,d,c] ap λaq=>R (U (.tuple #[.agg #[.i W,.i Z,.i ab],.i ac])) aq)) (Y q (loc [e,h,d,c] w λu=>cW [e,h,d,c] dC #[.agg #[.i j,.i k,.i n],.bool ((E==z)&&((y==A)&&((F==B)&&true))),.bool true] u λad ae ag ah ar=>loc [e,h,d,c] ar λau=>R (U (.tuple #[.agg #[.i ad,.i ae,.i ag],.i ah])) au) (loc [e,h,d,c] w λu=>cW [e,h,d,c] dC #[.agg #[.i j,.i k,.i n],.bool false,.bool true] u λai aj ak al av=>loc [e,h,d,c] av λaw=>R (U (.tuple #[.agg #[.i ai,.i aj,.i ak],.i al])) aw)))
noncomputable def aX:=aC X [] (ai [5]) P0 aZ
abbrev P1:Ps:=[(0,.v [.r]),(5,.l [.I,.I,.I] b3),(6,.l [.I,.I,.I] b3),(7,.l [.I,.I,.I] b3),(8,.l [.I,.I,.I] b3),(10,.l [.I,.I,.I] b3)]
abbrev aS(z:Addr)(e:Nat)(k n j:Int)(q:Nat)(N O P:Int)(h:Nat)(F G H:Int)(d:Nat)(A B D:Int)(c:Nat)(u x y:Int)(w:C)(R:aa):Prop:=
 loc [e,q,h,d,c] w λL=>bP [e,q,h,d,c] uT #[.agg #[.i k,.i n,.i j]] L λt40 E=>Y t40 (cJ [e,q,h,d,c] ib #[.i j] E λI J K M=>aZ z e k n j h F G H d A B D c u x y ((N==I)&&((O==J)&&((P==K)&&true))) M R) (aZ z e k n j h F G H d A B D c u x y false E R)
noncomputable def aT:=aC X [aX] (ai [4]) P1 aS
def aB(x:Addr)(q k u y z A E F G:Int)(w:C)(R:aa)(h:aP [] w λc w1=>
 aP [c] w1 λd w2=>
 aP [c,d] w2 λe w3=>
 aP [c,d,e] w3 λj D=>
 ∃t15:Int,D.cell? (x.add 0)=some (.i t15)/\
 Y (t15==26) (loc [c,d,e,j] D λw5=>cJ [c,d,e,j] ib #[.i u] w5 λH I J w6=>bP [c,d,e,j] uT #[.agg #[.i q,.i k,.i u]] w6 λt21 L=>Y t21 (cW [c,d,e,j] dC #[.agg #[.i H,.i I,.i J],.bool ((q==y)&&((k==z)&&((u==A)&&true))),.bool true] L λM N O P w8=>loc [c,d,e,j] w8 λag=>R (U (.tuple #[.agg #[.i M,.i N,.i O],.i P])) ag) (cW [c,d,e,j] dC #[.agg #[.i H,.i I,.i J],.bool false,.bool true] L λQ S T W ai=>loc [c,d,e,j] ai λaj=>R (U (.tuple #[.agg #[.i Q,.i S,.i T],.i W])) aj)) (cJ [c,d,e,j] ib #[.i k] D λZ ab ac ak=>aP [c,d,e,j] ak λn K=>
 Y (q==3) (loc [c,d,e,j,n] K λB=>cJ [c,d,e,j,n] oA #[.i k] B λad ae af al=>loc [c,d,e,j,n] al λam=>aS x c q k u d y z A e E F G j 0 0 0 n ad ae af am R) (loc [c,d,e,j,n] K λB=>aS x c q k u d y z A e E F G j 0 0 0 n Z ab ac B R))):ah V Df #[.pointer (some x),.agg #[.i q,.i k,.i u],.agg #[.i y,.i z,.i A],.agg #[.i E,.i F,.i G]] w R:=aM X [aT,aX] h
end y0
namespace Mq
noncomputable abbrev X:Fx:=⟨V,Tryz.f97,[(3,ls [1,0,2,3,4,5,6,7]),(5,ls [1,3,4,5,6,7,0,2,8,9,10,11,12,13,14,15,16,17,18,19]),(7,ls [0,1,2,3,4,6,12,13,14,15,16,17,5,7,8,9,10,11,18,19,20,21,22]),(9,ls [0,1,2,3,4,5,6,7,8,9,10,11,12,13,14,15,16,17]),(11,ls [1,0,2,3,4,5,6,7,8,9,10,11]),(13,ls [0,1,2,3,4,6,16,17,18,19,20,21,5,7,8,9,10,11,12,13,14,15,22,23,24,25,26]),(15,ls [1,0,2,3,4,5,6,7,8])],[5,6,7,8]⟩
def aB(y:Addr)(n k q A x B I z J:Int)(w:C)(R:aa)(h:aP [] w λc w1=>
 aP [c] w1 λd w2=>
 aP [c,d] w2 λe w3=>
 aP [c,d,e] w3 λj u=>
 ∃t13:Int,u.cell? (y.add 0)=some (.i t13)/\
 Y (t13==27) (loc [c,d,e,j] u λw5=>cJ [c,d,e,j] ib #[.i 7] w5 λaO aQ aR w6=>bP [c,d,e,j] ic #[.agg #[.i n,.i k,.i q]] w6 λt18 w7=>cW [c,d,e,j] dC #[.agg #[.i aO,.i aQ,.i aR],.bool t18,.bool true] w7 λaS aT aU aV w8=>loc [c,d,e,j] w8 λbD=>R (U (.tuple #[.agg #[.i aS,.i aT,.i aU],.i aV])) bD) (Y (t13==28) (loc [c,d,e,j] u λW=>∃t30:Int,W.cell? (y.add 2)=some (.i t30)/\
 cJ [c,d,e,j] ib #[.i 8] W λK L M Z=>Z.cell? (y.add 2)=some (.i t30)/\bP [c,d,e,j] ic #[.agg #[.i n,.i k,.i q]] Z λt26 D=>D.cell? (y.add 2)=some (.i t30)/\Y (af (0<=t30)) (∃t36:Int,D.cell? (y.add 2)=some (.i t36)/\
 cW [c,d,e,j] dC #[.agg #[.i K,.i L,.i M],.bool t26,.bool (af (t36<64))] D λaW aX aY aZ bE=>loc [c,d,e,j] bE λbF=>R (U (.tuple #[.agg #[.i aW,.i aX,.i aY],.i aZ])) bF) (cW [c,d,e,j] dC #[.agg #[.i K,.i L,.i M],.bool t26,.bool false] D λa0 a1 a2 a3 bG=>loc [c,d,e,j] bG λbH=>R (U (.tuple #[.agg #[.i a0,.i a1,.i a2],.i a3])) bH)) (Y (t13==29) (loc [c,d,e,j] u λbI=>cJ [c,d,e,j] oA #[.i (ad .i64 (k+x))] bI λN O P bJ=>bP [c,d,e,j] ic #[.agg #[.i n,.i k,.i q]] bJ λt51 ab=>Y t51 (bP [c,d,e,j] ic #[.agg #[.i A,.i x,.i B]] ab λt54 bK=>cW [c,d,e,j] dC #[.agg #[.i N,.i O,.i P],.bool t54,.bool (af ((ad .i64 (k+x))<=64))] bK λa4 a5 a6 a7 bL=>loc [c,d,e,j] bL λbM=>R (U (.tuple #[.agg #[.i a4,.i a5,.i a6],.i a7])) bM) (cW [c,d,e,j] dC #[.agg #[.i N,.i O,.i P],.bool false,.bool (af ((ad .i64 (k+x))<=64))] ab λa8 a9 ba bb bN=>loc [c,d,e,j] bN λbO=>R (U (.tuple #[.agg #[.i a8,.i a9,.i ba],.i bb])) bO)) (Y (t13==30) (loc [c,d,e,j] u λbQ=>bP [c,d,e,j] ic #[.agg #[.i n,.i k,.i q]] bQ λt69 ac=>Y t69 (cJ [c,d,e,j] ib #[.i 7] ac λbc bd be ae=>Y ((A==bc)&&((x==bd)&&((B==be)&&true))) (cJ [c,d,e,j] ib #[.i 7] ae λbf bg bh bR=>cW [c,d,e,j] dC #[.agg #[.i n,.i k,.i q],.bool ((I==bf)&&((z==bg)&&((J==bh)&&true))),.bool true] bR λbi bj bk bl bS=>loc [c,d,e,j] bS λbT=>R (U (.tuple #[.agg #[.i bi,.i bj,.i bk],.i bl])) bT) (cW [c,d,e,j] dC #[.agg #[.i n,.i k,.i q],.bool false,.bool true] ae λbm bn bo bp bU=>loc [c,d,e,j] bU λbV=>R (U (.tuple #[.agg #[.i bm,.i bn,.i bo],.i bp])) bV)) (cW [c,d,e,j] dC #[.agg #[.i n,.i k,.i q],.bool false,.bool true] ac λbq br bs bt bW=>loc [c,d,e,j] bW λbX=>R (U (.tuple #[.agg #[.i bq,.i br,.i bs],.i bt])) bX)) (Y (t13==31) (loc [c,d,e,j] u λbY=>cJ [c,d,e,j] ib #[.i 7] bY λQ S T bZ=>bP [c,d,e,j] ic #[.agg #[.i n,.i k,.i q]] bZ λt87 ag=>Y t87 (bP [c,d,e,j] ic #[.agg #[.i A,.i x,.i B]] ag λt90 b0=>cW [c,d,e,j] dC #[.agg #[.i Q,.i S,.i T],.bool t90,.bool true] b0 λbu bv bw bx b1=>loc [c,d,e,j] b1 λb2=>R (U (.tuple #[.agg #[.i bu,.i bv,.i bw],.i bx])) b2) (cW [c,d,e,j] dC #[.agg #[.i Q,.i S,.i T],.bool false,.bool true] ag λbz bA bB bC b3=>loc [c,d,e,j] b3 λb4=>R (U (.tuple #[.agg #[.i bz,.i bA,.i bB],.i bC])) b4)) (Y (t13==32) (loc [c,d,e,j] u λb9=>cJ [c,d,e,j] oA #[.i (ad .i64 (k+z))] b9 λE F G ca=>bP [c,d,e,j] ic #[.agg #[.i n,.i k,.i q]] ca λt104 ai=>Y t104 (bP [c,d,e,j] ic #[.agg #[.i A,.i x,.i B]] ai λt107 aj=>Y t107 (bP [c,d,e,j] ic #[.agg #[.i I,.i z,.i J]] aj λt111 cb=>cW [c,d,e,j] dC #[.agg #[.i E,.i F,.i G],.bool t111,.bool (af ((ad .i64 (k+z))<=64))] cb λal am an ao cc=>loc [c,d,e,j] cc λcd=>R (U (.tuple #[.agg #[.i al,.i am,.i an],.i ao])) cd) (cW [c,d,e,j] dC #[.agg #[.i E,.i F,.i G],.bool false,.bool (af ((ad .i64 (k+z))<=64))] aj λap aq ar au ce=>loc [c,d,e,j] ce λcf=>R (U (.tuple #[.agg #[.i ap,.i aq,.i ar],.i au])) cf)) (cW [c,d,e,j] dC #[.agg #[.i E,.i F,.i G],.bool false,.bool (af ((ad .i64 (k+z))<=64))] ai λav aw ax ay cg=>loc [c,d,e,j] cg λch=>R (U (.tuple #[.agg #[.i av,.i aw,.i ax],.i ay])) ch)) (Y (t13==34) (loc [c,d,e,j] u λci=>cJ [c,d,e,j] oA #[.i 1] ci λaz aA aC cj=>cJ [c,d,e,j] ib #[.i 8] cj λaD aE aF ck=>cW [c,d,e,j] dC #[.agg #[.i az,.i aA,.i aC],.bool ((n==aD)&&((k==aE)&&((q==aF)&&true))),.bool true] ck λaG aH aI aJ cl=>loc [c,d,e,j] cl λcm=>R (U (.tuple #[.agg #[.i aG,.i aH,.i aI],.i aJ])) cm) (bP [c,d,e,j] ic #[.agg #[.i n,.i k,.i q]] u λt132 H=>Y (!t132) (loc [c,d,e,j] H λcn=>R (U (.tuple #[.agg #[.i n,.i k,.i q],.i 9])) cn) (∃t138:ByteArray,H.cell? (y.add 5)=some (.string t138)/\
 bP [c,d,e,j] ya #[.string t138] H λt139 ak=>Y (!t139) (loc [c,d,e,j] ak λco=>R (U (.tuple #[.agg #[.i n,.i k,.i q],.i 2])) co) (cJ [c,d,e,j] ib #[.i 1] ak λaK aL aN cp=>loc [c,d,e,j] cp λcq=>R (U (.tuple #[.agg #[.i aK,.i aL,.i aN],.i 0])) cq)))))))))):ah V Dj #[.pointer (some y),.agg #[.i n,.i k,.i q],.agg #[.i A,.i x,.i B],.agg #[.i I,.i z,.i J]] w R:=aM X [] h
end Mq
namespace oW
noncomputable abbrev X:Fx:=⟨V,Tryz.f77,[(1,ls [0,1,2,3,4,5,6,7,8,9,10,11,12,13,14,15,16,17])],[6,11]⟩
abbrev P0:Ps:=[(6,.l [.I,.I,.I] b3)]
abbrev aS(c:Nat)(e h j:Int)(w:C)(R:aa):Prop:=
 loc [c] w λd=>R (U (.tuple #[.agg #[.i 0,.i 0,.i 0],.i 1])) d
noncomputable def aT:=aC X [] (ai [0,1,1,1,1]) P0 aS
abbrev P1:Ps:=[(0,.v [.s]),(2,.v [.f]),(4,.v [.r]),(6,.l [.I,.I,.I] b3),(8,.v [.r]),(34,.v [.I]),(35,.v [.I])]
def bO(h:J)(d:Fv)(e:Addr)(j:Nat)(k n q:Int)(c:Addr)(t34 t35:Int)(w:C)(R:aa):Prop:=bz P1 0 (X.Sem (ai [0,1,1,1,3])) h d e j k n q c t34 t35 w R
noncomputable def bx:=bK X (ai [0,1,1,1,3]) P1 bO
abbrev aY(c:Nat)(e h j:Int)(w:C)(R:aa):Prop:=
 loc [c] w λd=>R (U (.tuple #[.agg #[.i 0,.i 0,.i 0],.i 1])) d
noncomputable def a1:=aC X [bx,aT] (ai [0,1,1,1,2,2,2,2,1,1,3]) P0 aY
abbrev P2:Ps:=[(6,.l [.I,.I,.I] b3),(11,.l [.I,.I,.I] b3),(12,.v [.I])]
abbrev be(e:Nat)(u x y:Int)(d:Nat)(h j k c:Int)(w:C)(R:aa):Prop:=
 Y (c !=0) (loc [e,d] w λn=>R (U (.tuple #[.agg #[.i 0,.i 0,.i 0],.i c])) n) (loc [e,d] w λq=>R (U (.tuple #[.agg #[.i h,.i j,.i k],.i 0])) q)
noncomputable def a7:=aC X [a1,bx,aT] (ai [8]) P2 be
def eh:∀(y:J) (z:Fv) (k:Addr) (c:Nat) (q u x:Int) (j:Addr) (t34 t35:Int) (w:C) (R:aa) (h:Y (af (t35<t34)) (∃t39:J,w.cell? (k.add 1)=some (t39.v)/\
 aw t39 t35 λak=>∃t42:Int,w.cell? (ak.add (ae t35 *1))=some (.i t42)/\
 Y (af (t42<0)) (aY c q u x w R) (Y (af (t42>=((y.n:Nat):Int))) (aY c q u x w R) (aw y t42 λal=>cG w ((al.add (ae t42 *9)).add 6) λam an ap=>(0:Int)<=t35/\t35<((3:Nat):Int)/\ao w (j.add (ae t35 *3)) (.i am) λA=>kept [c] w A/\
 ao A ((j.add (ae t35 *3)).add 1) (.i an) λB=>kept [c] A B/\
 ao B ((j.add (ae t35 *3)).add 2) (.i ap) λD=>kept [c] B D/\
 bO y z k c q u x j t34 (ad .i64 (t35+1)) D R))) (bP [c] Db #[.pointer (some k)] w λt60 E=>Y (!t60) (loc [c] E λaW=>R (U (.tuple #[.agg #[.i 0,.i 0,.i 0],.i 1])) aW) (aP [c] E λe d=>
 ∃t75:Int,d.cell? (k.add 0)=some (.i t75)/\
 Y (t75==0) (cW [c,e] Dk #[.pointer (some k),z.v] d λaG aH aI aJ aX=>loc [c,e] aX λaZ=>be c q u x e aG aH aI aJ aZ R) (∃t84:Int,d.cell? (k.add 0)=some (.i t84)/\
 Y (af (t84<=3)) (cW [c,e] Di #[.pointer (some k)] d λaK aL aM aN a0=>loc [c,e] a0 λa2=>be c q u x e aK aL aM aN a2 R) (∃t92:Int,d.cell? (k.add 0)=some (.i t92)/\
 Y (af (t92<=23)) ((0:Int)<=0/\0<((3:Nat):Int)/\cG d (j.add (ae 0 *3)) λaO aQ aR=>(0:Int)<=1/\1<((3:Nat):Int)/\cG d (j.add (ae 1 *3)) λaS aU aV=>(0:Int)<=2/\2<((3:Nat):Int)/\cG d (j.add (ae 2 *3)) λF G H=>cW [c,e] Dh #[.pointer (some k),.agg #[.i aO,.i aQ,.i aR],.agg #[.i aS,.i aU,.i aV],.agg #[.i F,.i G,.i H]] d λI K L M a3=>loc [c,e] a3 λa4=>be c q u x e I K L M a4 R) (∃t106:Int,d.cell? (k.add 0)=some (.i t106)/\
 Y (af (t106<=26)) ((0:Int)<=0/\0<((3:Nat):Int)/\cG d (j.add (ae 0 *3)) λN O P=>(0:Int)<=1/\1<((3:Nat):Int)/\cG d (j.add (ae 1 *3)) λQ S T=>(0:Int)<=2/\2<((3:Nat):Int)/\cG d (j.add (ae 2 *3)) λW Z ab=>cW [c,e] Df #[.pointer (some k),.agg #[.i N,.i O,.i P],.agg #[.i Q,.i S,.i T],.agg #[.i W,.i Z,.i ab]] d λac ag ah aj a5=>loc [c,e] a5 λa6=>be c q u x e ac ag ah aj a6 R) ((0:Int)<=0/\0<((3:Nat):Int)/\cG d (j.add (ae 0 *3)) λaq ar au=>(0:Int)<=1/\1<((3:Nat):Int)/\cG d (j.add (ae 1 *3)) λav ax ay=>(0:Int)<=2/\2<((3:Nat):Int)/\cG d (j.add (ae 2 *3)) λaz aA aB=>cW [c,e] Dj #[.pointer (some k),.agg #[.i aq,.i ar,.i au],.agg #[.i av,.i ax,.i ay],.agg #[.i az,.i aA,.i aB]] d λaC aD aE aF a8=>loc [c,e] a8 λa9=>be c q u x e aC aD aE aF a9 R))))))),bO y z k c q u x j t34 t35 w R:=mp (bL (X:=X) [a7,a1,bx,aT] (ai [0,1,1,1,3]) P1)
def aB(E:J)(j:Int)(k:J)(q x y:Int)(z:ByteArray)(A B D:Int)(e:Fv)(w:C)(R:aa)(h:aK w (.cells #[.i j,k.v,.i q,.i x,.u y,.string z,.i A,.i B,.i D] bV) λG=>
 aP [] G λd H=>
 loc [d] H λc=>∃t14:Int,c.cell? ((nb w).add 0)=some (.i t14)/\
 Y (af (t14<0)) (aS d 0 0 0 c R) (∃t18:Int,c.cell? ((nb w).add 0)=some (.i t18)/\
 Y (af (t18>=35)) (aS d 0 0 0 c R) (∃t23:J,c.cell? ((nb w).add 1)=some (t23.v)/\
 ∃t26:Int,c.cell? ((nb w).add 0)=some (.i t26)/\
 (0:Int)<=t26/\t26<((35:Nat):Int)/\∃t28:Int,c.cell? ((Addr.mk 1 0 none).add (ae t26 *1))=some (.i t28)/\
 Y (((t23.n:Nat):Int) !=t28) (aS d 0 0 0 c R) (aK c (.cells #[.i 0,.i 0,.i 0,.i 0,.i 0,.i 0,.i 0,.i 0,.i 0] vJ) λF=>
 ∃t33:J,F.cell? ((nb w).add 1)=some (t33.v)/\
 bO E e (nb w) d 0 0 0 (nb c) ((t33.n:Nat):Int) 0 F R)))):ah V De #[E.v,.agg #[.i j,k.v,.i q,.i x,.u y,.string z,.i A,.i B,.i D],e.v] w R:=aM X [a7,a1,bx,aT] h
end oW
namespace Lq
noncomputable abbrev X:Fx:=⟨V,Tryz.f41,[],[]⟩
def ok(c:J)(w:C)(R:aa)(h:Y c.a.isNone (R (U (.slice none 0 0)) w) (aK w (.cells #[] db) λj=>
 ∃(d:J) (e:C),a' V (bg #[bM,bM] bM #[.slice (some (nb w)) 0 0,c.v]) j=.ok (d.v) e/\R (U (d.v)) e)):ah V CS #[c.v] w R:=aM X [] h
end Lq
namespace sX
noncomputable abbrev X:Fx:=⟨V,Tryz.f39,[],[]⟩
abbrev P0:Ps:=[(0,.v [.r]),(1,.v [.U])]
def L0(d:Addr)(c:Int)(w:C)(R:aa):Prop:=bz P0 0 (X.Sem (ai [0,2])) d c w R
noncomputable def az:=bK X (ai [0,2]) P0 L0
def cf:∀(c:Addr) (d:Int) (w:C) (R:aa) (h:Y (af (d>=128)) (∃t10:J,w.cell? (c.add 0)=some (t10.v)/\
 aK w (.cells #[.int .u8 (tu .u8 (ad .u8 d) 128)] db) λk=>
 ∃(t15:J) (e:C),a' V (bg #[bM,bM] bM #[t10.v,.slice (some (nb w)) 1 1]) k=.ok (t15.v) e/\ao e (c.add 0) (t15.v) λn=>
 L0 c (Int.fdiv d (2^(7))) n R) (∃t24:J,w.cell? (c.add 0)=some (t24.v)/\
 aK w (.cells #[.int .u8 (ad .u8 d)] db) λq=>
 ∃(t28:J) (j:C),a' V (bg #[bM,bM] bM #[t24.v,.slice (some (nb w)) 1 1]) q=.ok (t28.v) j/\ao j (c.add 0) (t28.v) λu=>
 R (U (.tuple #[])) u)),L0 c d w R:=mp (bL (X:=X) [az] (ai [0,2]) P0)
def ok(d:Addr)(c:Int)(w:C)(R:aa)(h:L0 d c w R):ah V qf #[.pointer (some d),.u c] w R:=aM X [az] h
end sX
namespace MP
noncomputable abbrev X:Fx:=⟨V,Tryz.f19,[],[]⟩
def ok(d:Addr)(c:Int)(w:C)(R:aa)(h:e0 qf #[.pointer (some d),.u (wi .u64 (ad .u64 ((ad .u64 c) *2^(1))) (ad .u64 (Int.fdiv c (2^(63)))))] w λe=>R (U (.tuple #[])) e):ah V iR #[.pointer (some d),.i c] w R:=aM X [] h
end MP
namespace oZ
noncomputable abbrev X:Fx:=⟨V,Tryz.f40,[],[]⟩
abbrev P0:Ps:=[(0,.v [.r]),(11,.v [.s]),(12,.v [.I]),(13,.v [.I])]
def L0(c:Addr)(t11:J)(t12 t13:Int)(w:C)(R:aa):Prop:=bz P0 0 (X.Sem (ai [0,1,2])) c t11 t12 t13 w R
noncomputable def az:=bK X (ai [0,1,2]) P0 L0
def cf:∀(c:Addr) (t11:J) (t12 t13:Int) (w:C) (R:aa) (h:Y (af (t13<t12)) (aw t11 t13 λd=>∃t16:Int,w.cell? (d.add (ae t13 *1))=some (.i t16)/\
 e0 iR #[.pointer (some c),.i t16] w λe=>L0 c t11 t12 (ad .i64 (t13+1)) e R) (R (U (.tuple #[])) w)),L0 c t11 t12 t13 w R:=mp (bL (X:=X) [az] (ai [0,1,2]) P0)
def ok(d:Addr)(c:J)(w:C)(R:aa)(h:e0 qf #[.pointer (some d),.u (ad .u64 ((c.n:Nat):Int))] w λe=>L0 d c ((c.n:Nat):Int) 0 e R):ah V mu #[.pointer (some d),c.v] w R:=aM X [az] h
end oZ
namespace MQ
noncomputable abbrev X:Fx:=⟨V,Tryz.f20,[],[]⟩
def ok(c:Addr)(d:J)(w:C)(R:aa)(h:e0 qf #[.pointer (some c),.u (ad .u64 ((d.n:Nat):Int))] w λe=>∃t13:J,e.cell? (c.add 0)=some (t13.v)/\
 ∃(t15:J) (j:C),a' V (bg #[bM,bM] bM #[t13.v,d.v]) e=.ok (t15.v) j/\ao j (c.add 0) (t15.v) λk=>
 R (U (.tuple #[])) k):ah V r8 #[.pointer (some c),d.v] w R:=aM X [] h
end MQ
namespace MR
noncomputable abbrev X:Fx:=⟨V,Tryz.f62,[],[]⟩
def ok(c:Addr)(d:ByteArray)(w:C)(R:aa)(h:e0 qf #[.pointer (some c),.u (ad .u64 ((d.size:Nat):Int))] w λe=>∃t13:J,e.cell? (c.add 0)=some (t13.v)/\
 ∃(t15:J) (j:C),a' V (bg #[bM,da] bM #[t13.v,.string d]) e=.ok (t15.v) j/\ao j (c.add 0) (t15.v) λk=>
 R (U (.tuple #[])) k):ah V Dl #[.pointer (some c),.string d] w R:=aM X [] h
end MR
namespace MO
noncomputable abbrev X:Fx:=⟨V,Tryz.f23,[],[]⟩
def ok(d:Addr)(w:C)(R:aa)(h:∃c:J,w.cell? (d.add 0)=some (c.v)/\
 rp CS #[c.v] w λe j=>R (U (e.v)) j):ah V r7 #[.pointer (some d)] w R:=aM X [] h
end MO
namespace Ms
noncomputable abbrev X:Fx:=⟨V,Tryz.f43,[],[]⟩
def ok(d c:Addr)(w:C)(R:aa)(h:∃e:Int,w.cell? (c.add 0)=some (.i e)/\
 e0 iR #[.pointer (some d),.i e] w λj=>∃t14:J,j.cell? (c.add 1)=some (t14.v)/\
 e0 mu #[.pointer (some d),t14.v] j λk=>∃t20:Int,k.cell? (c.add 2)=some (.i t20)/\
 e0 iR #[.pointer (some d),.i t20] k λn=>∃t26:Int,n.cell? (c.add 3)=some (.i t26)/\
 e0 iR #[.pointer (some d),.i t26] n λq=>∃t32:Int,q.cell? (c.add 4)=some (.u t32)/\
 e0 qf #[.pointer (some d),.u t32] q λx=>∃t38:ByteArray,x.cell? (c.add 5)=some (.string t38)/\
 e0 Dl #[.pointer (some d),.string t38] x λy=>∃t45:Int,y.cell? ((c.add 6).add 0)=some (.i t45)/\
 e0 iR #[.pointer (some d),.i t45] y λz=>∃t52:Int,z.cell? ((c.add 6).add 1)=some (.i t52)/\
 e0 iR #[.pointer (some d),.i t52] z λA=>∃t59:Int,A.cell? ((c.add 6).add 2)=some (.i t59)/\
 e0 iR #[.pointer (some d),.i t59] A λB=>R (U (.tuple #[])) B):ah V yc #[.pointer (some d),.pointer (some c)] w R:=aM X [] h
end Ms
namespace Mo
noncomputable abbrev X:Fx:=⟨V,Tryz.f79,[],[]⟩
def ok(d:Addr)(w:C)(R:aa)(h:aK w (.cells #[.slice none 0 0] lW) λk=>
 e0 yc #[.pointer (some (nb w)),.pointer (some d)] k λn=>rp r7 #[.pointer (some (nb w))] n λj c=>∃e:ByteArray,a' V (Go.convert bM da (j.v)) c=.ok (.string e) c/\R (U (.string e)) c):ah V yb #[.pointer (some d)] w R:=aM X [] h
end Mo
namespace Mi
noncomputable abbrev X:Fx:=⟨V,Tryz.f78,[],[3,5]⟩
def aB(e:ByteArray)(j:Addr)(w:C)(R:aa)(h:aP [] w λd c=>
 ∃x:Option Addr,c.cell? j=some (.pointer x)/\
 cd x λz=>∃t11:Option Nat,c.cell? (z.add 2)=some (.map t11)/\
 ∃k:Int,∃n:Int,∃q:Int,∃u:Bool,a' V (Instr.lookup EM (.map t11) (.string e) true) c=.ok (.tuple #[.agg #[.i k,.i n,.i q],.bool u]) c/\aP [d] c λy A=>
 loc [d,y] A λB=>R (U (.tuple #[.agg #[.i k,.i n,.i q],.bool u])) B):ah V x' #[.string e,.pointer (some j)] w R:=aM X [] h
end Mi
namespace Mh
noncomputable abbrev X:Fx:=⟨V,Tryz.f59,[(1,ls [0,1,2,3,4,5,6,7,8,9,10])],[3,4]⟩
def aB(j:Addr)(k:Int)(n:J)(q x y:Int)(z:ByteArray)(A B D:Int)(w:C)(R:aa)(h:aK w (.cells #[.pointer (some j)] Vz) λM=>
 aP [] M λc N=>
 aP [c] N λd O=>
 loc [c,d] O λe=>∃E:Option Addr,e.cell? (nb w)=some (.pointer E)/\
 cd E λL=>∃F:J,e.cell? (L.add 0)=some (F.v)/\
 cW [c,d] De #[F.v,.agg #[.i k,n.v,.i q,.i x,.u y,.string z,.i A,.i B,.i D],.func (.func x') #[] #[.pointer (some (nb w))]] e λG H I K P=>loc [c,d] P λQ=>R (U (.tuple #[.agg #[.i G,.i H,.i I],.i K])) Q):ah V Da #[.pointer (some j),.agg #[.i k,n.v,.i q,.i x,.u y,.string z,.i A,.i B,.i D]] w R:=aM X [] h
end Mh
namespace Mg
noncomputable abbrev X:Fx:=⟨V,Tryz.f60,[(1,ls [0,1,2,3,4,5,6,7,8,9,10])],[]⟩
def ok(d:Addr)(e:Int)(j:J)(k n q:Int)(x:ByteArray)(y z A:Int)(w:C)(R:aa)(h:aK w (.cells #[.i e,j.v,.i k,.i n,.u q,.string x,.i y,.i z,.i A] bV) λF=>
 dM F λE=>∃t12:Option Nat,E.cell? (d.add 1)=some (.map t12)/\
 mc yb #[.pointer (some (nb w))] E λt13 c=>c.cell? (d.add 1)=some (.map t12)/\∃B:Int,∃D:Bool,a' V (Instr.lookup EN (.map t12) (.string t13) true) c=.ok (.tuple #[.i B,.bool D]) c/\R (U (.tuple #[.i B,.bool D])) c):ah V C' #[.pointer (some d),.agg #[.i e,j.v,.i k,.i n,.u q,.string x,.i y,.i z,.i A]] w R:=aM X [] h
end Mg
namespace EB
noncomputable abbrev X:Fx:=⟨V,Tryz.f61,[(1,ls [0,1,2,3,5,6,7,8,9,4,10]),(3,ls [0,1,2,3,4,5,6,7,8]),(4,ls [0,1,2,3,4,5,6,7,8,9,10])],[]⟩
abbrev P0:Ps:=[(0,.v [.r]),(3,.v [.r])]
abbrev S0(c k:Addr)(w:C)(R:aa):Prop:=
 dM w λd=>∃t30:J,d.cell? (c.add 0)=some (t30.v)/\
 pY d k λq x y z A B D E F=>aK d (.cells #[.i q,x.v,.i y,.i z,.u A,.string B,.i D,.i E,.i F] bV) λe=>
 e.cell? (c.add 0)=some (t30.v)/\∃(t33:J) (h:C),a' V (bg #[c',c'] c' #[t30.v,.slice (some (nb d)) 1 1]) e=.ok (t33.v) h/\ao h (c.add 0) (t33.v) λj=>
 ∃t39:J,j.cell? (c.add 0)=some (t39.v)/\
 R (U (.i (ad .i64 (((t39.n:Nat):Int) - 1)))) j
noncomputable def aT:=aC X [] (ai [3]) P0 S0
def ok(c:Addr)(x:Int)(y:J)(z A B:Int)(D:ByteArray)(E F G:Int)(w:C)(R:aa)(h:aK w (.cells #[.i x,y.v,.i z,.i A,.u B,.string D,.i E,.i F,.i G] bV) λN=>
 dM N λk=>∃j:Option Nat,k.cell? (c.add 1)=some (.map j)/\
 ∃t13:J,k.cell? (c.add 0)=some (t13.v)/\
 mc yb #[.pointer (some (nb w))] k λM q=>q.cell? (c.add 0)=some (t13.v)/\q.cell? (c.add 1)=some (.map j)/\∃(d:C),a' V (Instr.mapUpdate EN (.map j) (.string M) (.i ((t13.n:Nat):Int))) q=.ok () d/\∃t16:Int,d.cell? ((nb w).add 0)=some (.i t16)/\
 Y (t16==0) (dM d λe=>∃t21:Option Nat,e.cell? (c.add 2)=some (.map t21)/\
 ∃t23:ByteArray,e.cell? ((nb w).add 5)=some (.string t23)/\
 cG e ((nb w).add 6) λI K L=>∃(H:C),a' V (Instr.mapUpdate EM (.map t21) (.string t23) (.agg #[.i I,.i K,.i L])) e=.ok () H/\S0 c (nb w) H R) (S0 c (nb w) d R)):ah V x9 #[.pointer (some c),.agg #[.i x,y.v,.i z,.i A,.u B,.string D,.i E,.i F,.i G]] w R:=aM X [aT] h
end EB
namespace vD
noncomputable abbrev X:Fx:=⟨V,Tryz.f58,[],[1,5]⟩
abbrev P0:Ps:=[(3,.v [.r]),(11,.v [.s]),(12,.v [.I]),(13,.v [.I])]
def aH(c:Addr)(t11:J)(t12 t13:Int)(w:C)(R:aa):Prop:=bz P0 0 (X.Sem (ai [0,1,1,1,2])) c t11 t12 t13 w R
noncomputable def az:=bK X (ai [0,1,1,1,2]) P0 aH
def bD:∀(c:Addr) (t11:J) (t12 t13:Int) (w:C) (R:aa) (h:Y (af (t13<t12)) (aw t11 t13 λe=>pY w (e.add (ae t13 *9)) λj k n q x y z A B=>aP [] w λd F=>
 loc [d] F λD=>bG [d] x9 #[.pointer (some c),.agg #[.i j,k.v,.i n,.i q,.u x,.string y,.i z,.i A,.i B]] D λt19 E=>aH c t11 t12 (ad .i64 (t13+1)) E R) (R (U (.pointer (some c))) w)),aH c t11 t12 t13 w R:=mp (bL (X:=X) [az] (ai [0,1,1,1,2]) P0)
def aB(c:J)(w:C)(R:aa)(h:aP [] w λq d=>
 aK d (.map #[] 0) λe=>
 aK e (.map #[] 0) λj=>
 aK j (.cells #[.slice none 0 0,.map (some d.heap.size),.map (some e.heap.size)] qI) λk=>
 aH (nb j) c ((c.n:Nat):Int) 0 k R):ah V Dd #[.agg #[c.v]] w R:=aM X [az] h
end vD
namespace vB
noncomputable abbrev X:Fx:=⟨V,Tryz.f42,[],[1,5,6]⟩
abbrev P0:Ps:=[(3,.v [.p]),(17,.v [.s]),(18,.v [.I]),(19,.v [.I])]
def aH(c:Option Addr)(t17:J)(t18 t19:Int)(w:C)(R:aa):Prop:=bz P0 0 (X.Sem (ai [0,1,1,1,3])) c t17 t18 t19 w R
noncomputable def az:=bK X (ai [0,1,1,1,3]) P0 aH
def bD:∀(d:Option Addr) (t17:J) (t18 t19:Int) (w:C) (R:aa) (h:Y (af (t19<t18)) (aw t17 t19 λH=>pY w (H.add (ae t19 *9)) λx y z A B D k n q=>aP [] w λc Q=>
 loc [c] Q λN=>cW [c] Da #[.pointer d,.agg #[.i x,y.v,.i z,.i A,.u B,.string D,.i k,.i n,.i q]] N λI K L F O=>aP [c] O λe E=>
 Y (F !=0) (loc [c,e] E λj=>R (U (.i F)) j) (Y (!((I==k)&&((K==n)&&((L==q)&&true)))) (loc [c,e] E λj=>R (U (.i 9)) j) (loc [c,e] E λj=>Px [c,e] C' #[.pointer d,.agg #[.i x,y.v,.i z,.i A,.u B,.string D,.i k,.i n,.i q]] j λS M G=>Y M (R (U (.i 8)) G) (bG [c,e] x9 #[.pointer d,.agg #[.i x,y.v,.i z,.i A,.u B,.string D,.i k,.i n,.i q]] G λt45 P=>aH d t17 t18 (ad .i64 (t19+1)) P R)))) (R (U (.i 0)) w)),aH d t17 t18 t19 w R:=mp (bL (X:=X) [az] (ai [0,1,1,1,3]) P0)
def aB(c:J)(w:C)(R:aa)(h:aP [] w λe d=>
 Y (af (((c.n:Nat):Int)>4096)) (R (U (.i 4)) d) (wC [e] Dd #[.agg #[.slice none 0 0]] d λt15 j=>aH t15 c ((c.n:Nat):Int) 0 j R)):ah V x7 #[.agg #[c.v]] w R:=aM X [az] h
end vB
namespace vA
noncomputable abbrev X:Fx:=⟨V,Tryz.f24,[],[1]⟩
abbrev P0:Ps:=[(1,.l [.s] VA),(5,.v [.r]),(18,.v [.I]),(19,.v [.I])]
def aH(c:Nat)(d:J)(e:Addr)(t18 t19:Int)(w:C)(R:aa):Prop:=bz P0 0 (X.Sem (ai [0,1,1,1,4])) c d e t18 t19 w R
noncomputable def az:=bK X (ai [0,1,1,1,4]) P0 aH
def bD:∀(c:Nat) (e:J) (d:Addr) (t18 t19:Int) (w:C) (R:aa) (h:Y (af (t19<t18)) (aw e t19 λj=>fY [c] yc #[.pointer (some d),.pointer (some (j.add (ae t19 *9)))] w λk=>aH c e d t18 (ad .i64 (t19+1)) k R) (iv [c] r7 #[.pointer (some d)] w λt28 n=>R (U (.tuple #[t28.v,.i 0])) n)),aH c e d t18 t19 w R:=mp (bL (X:=X) [az] (ai [0,1,1,1,4]) P0)
def aB(c:J)(w:C)(R:aa)(h:aP [] w λe k=>
 bG [e] x7 #[.agg #[c.v]] k λj d=>Y (j !=0) (R (U (.tuple #[.slice none 0 0,.i j])) d) (aK d (.cells #[.slice none 0 0] lW) λq=>
 fY [e] iR #[.pointer (some (nb d)),.i ((c.n:Nat):Int)] q λu=>aH e c (nb d) ((c.n:Nat):Int) 0 u R)):ah V x6 #[.agg #[c.v]] w R:=aM X [az] h
end vA
def fc(w:C)(c:Nat)(bs:List UInt8)(own:List Nat):Prop:=
 ∃s:J,own=c::aO s/\w.heap[c]? =some (.cells #[s.v] lW (0,0))/\jx w s bs
def JU{w:C}{e T:aF}{s:J}{vs:List ab}(h:Ow w e s vs){b:Nat}{cs:Array ab}{f:Nat×Nat}(c:w.heap[b]? =some (.cells cs T f))(d:e≠T):b∉aO s:=λk=>by
 obtain⟨q,u,j⟩:=h.2.row.sT b k;rw[j]at c;injection c with c
 injection c with _ n _
 exact d n
def fc.lt{w:C}{j:Nat}{bs:List UInt8}{own:List Nat}(h:fc w j bs own):∀b∈own,b<w.heap.size:=by
 obtain⟨s,rfl,d,e⟩:=h;intro b c;rcases ay.1 c with rfl|c
 .exact lt_of_heap d
 .exact e.lt b c
def fc.new(w:C):fc (w.alloc (.cells #[.slice none 0 0] lW)) w.heap.size [] [w.heap.size]:=⟨⟨none,0,0⟩,rfl,kM w _,Ow.nil _ _⟩
def hh(w:C)(e:Nat)(own:List Nat)(bs:List UInt8)(w':C):Prop:=∃c,fc w' e bs c/\Fr (·∈own) w w'/\∀d∈c,d∈own\/w.heap.size<=d
def mV(w:C)(d:Nat)(own:List Nat)(bs:List UInt8):aa:=λr c=>r=U (.tuple #[])/\hh w d own bs c
def hh.refl{w:C}{c:Nat}{own:List Nat}{bs:List UInt8}(h:fc w c bs own):hh w c own bs w:=⟨own,h,Fr.refl _ _,λ_ h=>.inl h⟩
def hh.then{w w' q:C}{u:Nat}{own n:List Nat}{d:List UInt8}(e:Fr (·∈own) w w')(j:∀c∈n,c∈own\/w.heap.size<=c)(h:hh w' u n d q):hh w u own d q:=by
 obtain⟨y,r,f,o⟩:=h;refine⟨y,r,e.trans f λc k x=>?_,λc k=>?_⟩
 .rcases j c x with h|h
  .exact h
  .omega
 .rcases o c k with h|h
  .exact j c h
  .exact .inr (bB e.size h)
def E4{w q e:C}{c:Nat}{s d:J}{bs x:List UInt8}(A:w.heap[c]? =some (.cells #[s.v] lW (0,0)))(F:jx w s bs)(k:aj w q)(B:jx e d x)(y:Fr (·∈aO s) q e)(H:∀b∈aO d,b∈aO s\/q.heap.size<=b):
  (e.cell? ((ag c).add 0)).isSome=true/\e.frozen? ((ag c).add 0)=false/\hh w c (c::aO s) x (e.setCell ((ag c).add 0) d.v):=by
 have I:c∉aO s:=JU F A (by decide);have j:=y.at (k.at A id) I;have D:(e.setCell ((ag c).add 0) d.v).heap[c]? =_:=setAt (p:=ag c) (i:=0) (v:=d.v) j rfl;have z:Fr (·=c) e (e.setCell ((ag c).add 0) d.v):=Fr.set _ _ _ rfl
 have K:c∉aO d:=JU B j (by decide);refine⟨by rw[cellAt (p:=ag c) j rfl rfl];rfl,frozenAt (p:=ag c) j,c::aO d,⟨d,rfl,D,B.fr z λb G E=>K (E▸G)⟩,?_,?_⟩
 .exact ((k.Dw (M:=(·∈c::aO s))).trans y λu _ h=>by simp[h]).trans z λu _ h=>by simp[h]
 .intro u h;rcases ay.1 h with rfl|h
  .exact .inl (by simp)
  .rcases H u h with n|n
   .exact .inl (by simp[n])
   .exact .inr (bB k.size n)
def vQ{w:C}{c:Nat}{s:J}(d:w.heap[c]? =some (.cells #[s.v] lW (0,0))):w.cell? ((ag c).add 0)=some s.v:=cellAt (p:=ag c) d rfl rfl
def MN{w:C}{e:Nat}{s:J}{bs:List UInt8}(D:w.heap[e]? =some (.cells #[s.v] lW (0,0)))(j:jx w s bs)(G:bs.length<100000000000000)(c:UInt8)(K:C->Prop)(B:∀k,hh w e (e::aO s) (bs++[c]) k->K k):
  ∃(t15:W.J) (d:C),a' V (bg #[bM,bM] bM #[s.v,.slice (some (Addr.mk w.heap.size 0 none)) 1 1]) (w.alloc (.cells #[.int .u8 (c.toNat:Int)] db))=.ok (t15.v) d/\(d.cell? ((ag e).add 0)).isSome=true/\d.frozen? ((ag e).add 0)=false/\K (d.setCell ((ag e).add 0) (t15.v)):=by have h:aj w (w.alloc (.cells #[.int .u8 (c.toNat:Int)] db)):=Fr.alloc _ _ _;obtain⟨E,d,x,y,z,A,F⟩:=z2 (ty:=bM) (j.ct h) (Tg w c) (by simp;omega);obtain⟨n,q,u⟩:=E4 D j h y z A;exact⟨E,d,x,n,q,B _ u⟩
def VK{h:Nat}(R:aa):∀(n:Nat) (w:C) (bs:List UInt8) (own:List Nat),n<18446744073709551616->bs.length+(hR n).length<=100000000000000->fc w h bs own->(∀c,hh w h own (bs++hR n) c->R (U (.tuple #[])) c)->
  sX.L0 (ag h) (n:Int) w R:=by
 intro n;induction n using Nat.strongRecOn with
 |_ n E=>
  intro w bs own J d B y;obtain⟨s,rfl,j,x⟩:=B;refine sX.cf _ _ _ _ ?_;refine cK (λq=>?_) (λq=>?_)
  .have e:¬n<128:=by simp at q;omega
   rw[pK e]at d;have k:ad .u8 (n:Int)=_:=MD n;refine⟨s,vQ j,?_⟩;rw[k,NR _ (by omega)];have z:((n%256%128+128:Nat):Int)=((dP (n%128+128)).toNat:Int):=by simp;omega
   rw[z];refine MN j x (by simp at d;omega) (dP (n%128+128)) (λc=>sX.L0 (ag h) (Int.fdiv (n:Int) (2^7)) c R) λc u=>?_;show sX.L0 (ag h) (Int.fdiv (n:Int) (2^7)) c R;rw[show((2:Int)^7)=((128:Nat):Int)from rfl,wR n 128 (by omega)];obtain⟨G,H,A,F⟩:=u;refine E (n / 128) (by omega) c _ G (by omega) (by simp at d ⊢;omega) H λI D=>y I ?_;rw[pK e,show bs++dP (n%128+128)::hR (n / 128)=(bs++[dP (n%128+128)])++hR (n / 128)by simp];exact D.then A F
  .have e:n<128:=by simp at q;omega
   rw[n2 e]at d;have k:ad .u8 (n:Int)=((dP n).toNat:Int):=by rw[MD];simp
   refine⟨s,vQ j,?_⟩;rw[k];refine MN j x (by simp at d;omega) (dP n) (λc=>R (U (.tuple #[])) c) λc u=>y c ?_;rw[n2 e];exact u
def sW{w:C}{c:Nat}{bs:List UInt8}{own:List Nat}(h:fc w c bs own)(n:Nat)(d:n<18446744073709551616)(j:bs.length<=10000000000000):
  ah V qf #[.pointer (some (ag c)),.int .u64 (n:Int)] w (mV w c own (bs++hR n)):=
 sX.ok _ _ w _ (VK _ n w bs own d (by have:=hS n d;omega) h λk e=>⟨rfl,e⟩)
def VX(n:Int)(h:bn n):W.wi .u64 (ad .u64 ((ad .u64 n) *2^1)) (ad .u64 (Int.fdiv n (2^63)))=(zz n:Int):=by
 obtain⟨k,q⟩:=h;have j:((2:Int)^63)=9223372036854775808:=rfl;rw[j,Int.fdiv_eq_ediv_of_nonneg _ (by omega),IntKind.wrap_u64,IntKind.wrap_u64,IntKind.wrap_u64];by_cases e:0<=n
 .have c:(n / 9223372036854775808)%18446744073709551616=((0:Nat):Int):=by omega
  have d:(n%18446744073709551616 *2^1)%18446744073709551616=((2 *n).toNat:Int):=by omega
  rw[c,d,FI _ _ (by omega) (by omega),Nat.xor_zero];unfold zz;rw[aA e]
 .have c:(n / 9223372036854775808)%18446744073709551616=((18446744073709551615:Nat):Int):=by omega
  have d:(n%18446744073709551616 *2^1)%18446744073709551616=((18446744073709551616+2 *n).toNat:Int):=by omega
  rw[c,d,FI _ _ (by omega) (by omega),VT _ (by omega)];unfold zz;rw[aq e];omega
def nK{w:C}{d:Nat}{bs:List UInt8}{own:List Nat}(j:fc w d bs own)(n:Int)(c:bn n)(h:bs.length<=10000000000000):
  ah V iR #[.pointer (some (ag d)),.int .i64 n] w (mV w d own (bs++hQ n)):=by refine MP.ok _ _ w _ ?_;rw[VX n c];refine(sW j (zz n) (M3 n c.1 c.2) h).mono ?_;rintro r k ⟨rfl,e⟩;exact⟨rfl,rfl,e⟩
def VJ{w:C}{c:Nat}{bs:List UInt8}{own:List Nat}(z:fc w c bs own)(t:ByteArray)(H:bs.length+t.size<=10000000000000):
  ah V Dl #[.pointer (some (ag c)),.string t] w (mV w c own (bs++kI (bl t))):=by refine MR.ok _ _ w _ ?_;rw[EO _ (by omega)];refine(sW z t.size (by omega) (by omega)).mono ?_;rintro r F ⟨rfl,J,B,n,A⟩;have I:=hS t.size (by omega);obtain⟨E,rfl,h,e⟩:=B;obtain⟨D,G,q,u,x,y⟩:=FD (ty:=bM) e t (by simp;omega);obtain⟨j,k,d⟩:=E4 h e (Fr.refl _ F) u x y;rw[jU]at d;exact⟨rfl,E,vQ h,D,G,q,j,k,rfl,d.then n A⟩
def rM:∀(l:List Int),(∀c∈l,bn c)->(l.flatMap hQ).length<=10 *l.length
 |[],_=>by simp
 |c::l,d=>by have k:=e2 c (d c (by simp));have e:=rM l λj h=>d j (by simp[h]);simp at e ⊢;omega
def VH{j:Nat}{s:J}{l:List Int}(R:aa)(hi:∀c∈l,bn c)(P:l.length<=100000000000):∀(d i:Nat),i+d=l.length->∀(w:C) (bs:List UInt8) (own:List Nat),fc w j bs own->bo w s l->(∀c∈aO s,c∉own)->(∀c∈aO s,c<w.heap.size)->bs.length+10 *d<=10000000000000->
  (∀B,hh w j own (bs++(l.drop i).flatMap hQ) B->R (U (.tuple #[])) B)->oZ.L0 (ag j) s (l.length:Int) (i:Int) w R:=by
 intro d;induction d with
 |zero=>
  intro i G w bs own u e x q F n;refine oZ.cf _ _ _ _ _ _ ?_;refine bb (by simp;omega) (n w ?_);rw[c9 (by omega)];simpa using hh.refl u
 |succ d L=>
  intro i G w bs own u e x q F n;have H:l[i]? =some l[i]:=a9 (by omega);have z:l[i]∈l:=List.getElem_mem _;refine oZ.cf _ _ _ _ _ _ ?_;refine a8 (by simp;omega) ⟨by omega,by rw[bo.len e];omega,bo.cell e H (by simp) λp _ K=>⟨_,K,(nK u _ (hi _ z) (by omega)).mono ?_⟩⟩;rintro r D ⟨rfl,M,N,k,A⟩;refine⟨rfl,?_⟩;show oZ.L0 (ag j) s (l.length:Int) (ad .i64 ((i:Int)+1)) D R;rw[bA i (by omega)];have Q:=e2 _ (hi _ z);refine L (i+1) (by omega) D _ M N (e.fr k x) (λc h I=>?_) (λc h=>iI (q c h) k.size) (by simp;omega) λO E=>n O ?_
  .rcases A c I with y|y
   .exact x c h y
   .have:=q c h;omega
  .rw [dZ (by omega),dT,<-jU];exact E.then k A
def VG{w:C}{h:Nat}{bs:List UInt8}{own:List Nat}(z:fc w h bs own){s:J}{l:List Int}(n:bo w s l)(q:∀c∈aO s,c∉own)(u:∀c∈aO s,c<w.heap.size)(hi:∀c∈l,bn c)(E:bs.length+10 *l.length<=1000000000000):
  ah V mu #[.pointer (some (ag h)),s.v] w (mV w h own (bs++kb l)):=by
 refine oZ.ok _ _ w _ ?_;rw[bo.len n,EO _ (by omega)];refine(sW z l.length (by omega) (by omega)).mono ?_;rintro r D ⟨rfl,A,B,e,x⟩;have F:=hS l.length (by omega);refine⟨rfl,?_⟩;dsimp only;refine VH _ hi (by omega) l.length 0 (by omega) D _ A B (n.fr e q) (λc d y=>?_) (λc d=>iI (u c d) e.size) (by simp;omega) λG k=>⟨rfl,?_⟩
 .rcases x c y with j|j
  .exact q c d j
  .have:=u c d;omega
 .rw [List.drop_zero,jU]at k;exact k.then e x
def PA(s:J)(bs:List UInt8)(w:C)(h:Bytes w s bs)(G:bs.length<=140737488355328):ah V CS #[s.v] w (λr n=>∃s:J,r=U s.v/\jx n s bs/\aj w n/\∀b∈aO s,w.heap.size<=b):=by
 refine Lq.ok s w _ ?_;refine cK (λd=>?_) (λd=>?_)
 .have A:bs=[]:=by have:=(h.2.2.1 (by simpa using d)).1;exact List.eq_nil_of_length_eq_zero (by rw[<-Bytes.len h,this])
  subst A;exact⟨⟨none,0,0⟩,rfl,Ow.nil w _,Fr.refl _ _,by simp[aO]⟩
 .show (λc:C=>∃(k:J) (e:C),a' V (bg #[bM,bM] bM #[.slice (some (nb w)) 0 0,s.v]) c=.ok (k.v) e/\(∃s:J,Ending.returned k.v=U s.v/\jx e s bs/\aj w e/\∀b∈aO s,w.heap.size<=b)) (w.alloc (.cells #[] db));generalize F:w.alloc (.cells #[] db)=c;subst F
  let c:=w.alloc (.cells #[] db)
  have B:jx c ⟨some ⟨w.heap.size,0,none⟩,0,0⟩ []:=Ow.made w db [] 0 rfl (by omega);have u:Bytes c s bs:=h.ct (Fr.alloc _ _ _);obtain⟨j,e,E,D,y,x,_⟩:=z2 (ty:=bM) B u (by simp;omega);refine⟨j,e,E,j,rfl,by simpa using D,?_,?_⟩
  .refine (Fr.alloc (λ_=>False) w _).trans y λI H z=>?_;simp[aO]at z;omega
  .intro b q;rcases x b q with d|d
   .simp [aO]at d;omega
   .have:c.heap.size=w.heap.size+1:=size_alloc _ _;omega
def zg{w:C}{d:Nat}{bs:List UInt8}{own:List Nat}(k:fc w d bs own)(n:bs.length<=100000000000000):
  ah V r7 #[.pointer (some (ag d))] w (Nk w bs):=by obtain⟨s,rfl,h,j⟩:=k;refine MO.ok _ w _ ⟨s,vQ h,(PA s bs w j.rd (by omega)).mono ?_⟩;rintro r q ⟨c,rfl,e⟩;exact⟨c,rfl,c,rfl,e⟩
set_option maxHeartbeats 1000000
def ei(w:C)(p:Addr)(d:Nd):Prop:=∀i v,(Nd.c d)[i]? =some v->w.cell? (p.add i)=some v
def ei.st{w w':C}{p:Addr}{d:Nd}(h:ei w p d)(k:p.block<w.heap.size->w'.heap[p.block]? =w.heap[p.block]?):ei w' p d:=λi v j=>by have c:=h i v j;have e:=m3 c;rw[iM]at e;unfold World.cell? at c ⊢;rw[iM]at c ⊢;rw[k e];exact c
def ei.lt{w:C}{p:Addr}{d:Nd}(h:ei w p d):p.block<w.heap.size:=by
 have:=m3 (h 0 _ rfl)
 rwa[iM]at this
def _root_.Go.W.En.iS(p:Addr)(d:Nd):En:=⟨[p.block],λe=>ei e p d,λe k j c=>c.st (j p.block (by simp)),λe c b h=>by simp at h;subst h;exact ei.lt c,by simp⟩
def ye{w:C}{b:Nat}{d:Nd}{T:aF}(h:w.heap[b]? =some (.cells (Nd.c d).toArray T (0,0))):ei w (ag b) d:=λi v e=>cellAt (p:=ag b) h rfl (by simpa using e)
section
variable {w:C} {p:Addr} {d:Nd} (h:ei w p d)
include h
def ei.c0:w.cell? (p.add 0)=some (.i d.x.op):=h 0 _ rfl
def ei.c1:w.cell? (p.add 1)=some d.ks.v:=h 1 _ rfl
def ei.c2:w.cell? (p.add 2)=some (.i d.x.n):=h 2 _ rfl
def ei.c3:w.cell? (p.add 3)=some (.i d.x.m):=h 3 _ rfl
def ei.c4:w.cell? (p.add 4)=some (.u d.x.u):=h 4 _ rfl
def ei.c5:w.cell? (p.add 5)=some (.string d.x.tx):=h 5 _ rfl
def ei.s0:w.cell? ((p.add 6).add 0)=some (.i d.x.st.k):=by rw[add_add];exact h 6 _ rfl
def ei.s1:w.cell? ((p.add 6).add 1)=some (.i d.x.st.n):=by rw[add_add];exact h 7 _ rfl
def ei.s2:w.cell? ((p.add 6).add 2)=some (.i d.x.st.x):=by rw[add_add];exact h 8 _ rfl
end
def iY(n:Int)(w:C):ah V ib #[.i n] w λr e=>r=U (dO (bJ n))/\aj w e:=
 Mj.aB _ w _ ((bN [] (by simp)).aN λb h c=>c.ak λj d=>⟨rfl,d.fr⟩)
def sQ(n:Int)(w:C):ah V oA #[.i n] w λr e=>r=U (dO (eW n))/\aj w e:=
 Mr.aB _ w _ ((bN [] (by simp)).aN λb h c=>c.ak λj d=>⟨rfl,d.fr⟩)
def qF(s:bt)(w:C):ah V nr #[dO s] w λr d=>r=U (.bool (s.k==0))/\aj w d:=
 Ml.aB _ _ _ w _ ((bN [] (by simp)).aN λb e c=>⟨rfl,c.fr⟩)
def iZ(s:bt)(w:C):ah V ic #[dO s] w λr d=>r=U (.bool (s.k==1))/\aj w d:=
 Mn.aB _ _ _ w _ ((bN [] (by simp)).aN λb e c=>⟨rfl,c.fr⟩)
def Ez(s:bt)(w:C):ah V uT #[dO s] w λr e=>r=U (.bool (ek s))/\aj w e:=
 Mk.aB _ _ _ w _ ((bN [] (by simp)).aN λb h d=>aJ (λc=>⟨by unfold ek;rw[c];rfl,d.fr⟩) (λc=>⟨by unfold ek;rw[beq_eq_false_iff_ne.2 c];rfl,d.fr⟩))
def L9(x y:bt)(w:C):ah V x8 #[dO x,dO y] w λr q=>r=U (.bool (af (x=y)||(x.k==1&&y.k==1)))/\aj w q:=by refine Mf.aB _ _ _ _ _ _ w _ ((bN [] (by simp)).aN λb B j=>j.aN λA u e=>mE (a:=x) (b:=y) (λc=>⟨by rw[a0 c];rfl,e.fr⟩) (λc=>e.ax (iZ x u) ?_));rintro _ z rfl h;rw[a2 c,Bool.false_or];refine⟨_,rfl,aJ (λd=>h.ax (iZ y z) ?_) (λd=>⟨by rw[beq_eq_false_iff_ne.2 d];rfl,h.fr⟩)⟩;rintro _ D rfl n;exact⟨_,rfl,by rw[d];rfl,n.fr⟩
def DZ(c ranges:Bool):Int:=if c=true then(if ranges=true then 0 else 5)else 9
def Vj(s:bt)(j ranges:Bool)(w:C):ah V dC #[dO s,.bool j,.bool ranges] w λr q=>r=gk (s,DZ j ranges)/\aj w q:=by refine Mp.aB _ _ _ _ _ w _ ((bN [] (by simp)).aN λb x n=>n.aN λu y e=>eJ (λd=>e.ak λk c=>⟨by rw[d];rfl,c.fr⟩) (λd=>eJ (λh=>e.ak λk c=>⟨by rw[d,h];rfl,c.fr⟩) (λh=>e.ak λk c=>⟨by rw[d,h];rfl,c.fr⟩)))
def L8(s:bt)(w:C):ah V yd #[dO s] w λr q=>r=U (.int .i64 (gV s))/\aj w q:=by
 refine y'.aB _ _ _ w _ ((bN [] (by simp)).aN λF B E=>?_);have G:cb s=true->(Ending.returned (Value.int .i64 0)=U (.int .i64 (gV s))/\aj w B):=λh=>⟨by unfold gV;rw[aA h],E.fr⟩;have bad:cb s=false->(Ending.returned (Value.int .i64 9)=U (.int .i64 (gV s))/\aj w B):=λh=>⟨by unfold gV;rw[aq (by simp[h])],E.fr⟩;have plain:∀least:Int,(∀d:least<=s.n,s.n<=64->s.x=0->cb s=true)->(¬(least<=s.n/\s.n<=64/\s.x=0)->cb s=false)->y'.aS F s.k s.n s.x least 64 false B λr q=>r=U (.int .i64 (gV s))/\aj w q:=by intro least d c;exact aQ (λh=>bad (c (by omega))) (λh=>aQ (λD=>bad (c (by omega))) (λD=>bb rfl (a8 rfl (cD (λe=>bad (c (λH=>e H.2.2))) (λe=>G (d (by omega) (by omega) e))))))
 have array:∀least:Int,(∀d:least<=s.n,s.n<=64->1<=s.x->s.x<=16->cb s=true)->(¬(least<=s.n/\s.n<=64/\1<=s.x/\s.x<=16)->cb s=false)->y'.aS F s.k s.n s.x least 64 true B λr q=>r=U (.int .i64 (gV s))/\aj w q:=by intro least d c;exact aQ (λh=>bad (c (by omega))) (λh=>aQ (λD=>bad (c (by omega))) (λD=>a8 rfl (aQ (λe=>bad (c (by omega))) (λe=>aQ (λj=>bad (c (by omega))) (λj=>bb rfl (G (d (by omega) (by omega) (by omega) (by omega))))))))
 refine aJ (λu=>plain 1 (λd c e=>?_) (λh=>?_)) (λu=>aJ (λy=>plain 0 (λd c e=>?_) (λh=>?_)) (λy=>aJ (λz=>array 1 (λd c e j=>?_) (λh=>?_)) (λz=>aJ (λA=>array 0 (λd c e j=>?_) (λh=>?_)) (λA=>bad ?_))))
 .unfold cb;simp[u,d,c,e]
 .unfold cb;rw[u];simp;omega
 .unfold cb;simp[y,d,c,e]
 .unfold cb;rw[y];simp;omega
 .unfold cb;simp[z,d,c,e,j]
 .unfold cb;rw[z];simp;omega
 .unfold cb;simp[A,d,c,e,j]
 .unfold cb;rw[A];simp;omega
 .unfold cb;simp[u,y,z,A]
def U2{s:ByteArray}{i:Nat}(h:i<s.size):s[i]? =some (gQ (bl s) i):=by
 have d:i<(bl s).length:=h;have c:gQ (bl s) i=(bl s)[i]:=by unfold gQ;rw[List.getD_eq_getElem?_getD,a9 d];rfl
 rw[c,getElem?_pos s i h];rfl
def Vf(s:ByteArray)(w:C):ah V Dc #[.string s] w λr j=>r=U (.bool (gg (bl s)))/\aj w j:=by
 have h:(bl s).length=s.size:=eS s;have lJ:∀(c:UInt8) (m:List UInt8),gg (c::m)=(af (m.length<=15)&&e4 c&&m.all cT):=λ_ _=>rfl;cases q:bl s with
 |nil=>
  have k:s.size=0:=by rw[<-h,q];rfl
  exact mI.ok s w _ (a8 (a0 (by omega)) ⟨rfl,Fr.refl _ _⟩)
 |cons c m=>
  have N:s.size=m.length+1:=by rw[<-h,q];rfl
  have E:gQ (bl s) 0=c:=by rw[q];rfl
  refine mI.ok s w _ (bb (a2 (by omega)) (aQ (λe=>⟨?_,Fr.refl _ _⟩) (λe=>?_)))
  .rw [lJ,a2 (by omega)];rfl
  have H:gg (c::m)=(e4 c&&m.all cT):=by rw[lJ,a0 (by omega:m.length<=15),Bool.true_and]
  rw[H];have loop:∀(d i:Nat),i+d=s.size->(e4 c&&m.all cT)=(if i=0 then(e4 c&&m.all cT)else((bl s).drop i).all cT)->mI.L1 s (i:Int) w λr j=>r=U (.bool (e4 c&&m.all cT))/\aj w j:=by
   intro d;induction d with
   |zero=>
    intro i K n;rw[c9 (by omega),aq (by omega)]at n;exact mI.j3 _ _ _ _ (bb (a2 (by omega)) ⟨by rw[n];rfl,Fr.refl _ _⟩)
   |succ d M=>
    intro i K n;have F:=U2 (show i<s.size by omega);have G:(bl s).drop i=gQ (bl s) i::(bl s).drop (i+1):=by rw[dZ (by omega:i<(bl s).length)];unfold gQ;rw[List.getD_eq_getElem?_getD,a9 (by omega:i<(bl s).length)];rfl
    have go:(if i=0 then e4 (gQ (bl s) i)else cT (gQ (bl s) i))=true->mI.S5 s (i:Int) w λr j=>r=U (.bool (e4 c&&m.all cT))/\aj w j:=λe=>by
     show mI.L1 s (ad .i64 ((i:Int)+1)) w _;rw[bA _ (by omega)];refine M (i+1) (by omega) ?_;rw[aq (by omega)];by_cases k:i=0
     .subst k;rw[aA rfl,E]at e;rw[e,Bool.true_and];rw[q];rfl
     .rw [aq k]at e n;rw[n,G,List.all_cons,e,Bool.true_and]
    have stop:(if i=0 then e4 (gQ (bl s) i)else cT (gQ (bl s) i))=false->mI.S4 w λr j=>r=U (.bool (e4 c&&m.all cT))/\aj w j:=λe=>by
     refine⟨?_,Fr.refl _ _⟩;by_cases k:i=0
     .subst k;rw[aA rfl,E]at e;rw[e,Bool.false_and]
     .rw [aq k]at e n;rw[n,G,List.all_cons,e,Bool.false_and]
    generalize gQ (bl s) i=x at F go stop;have D:∀l:Bool,l=e4 x->mI.S3 s (i:Int) ((x.toNat:Nat):Int) l w λr j=>r=U (.bool (e4 c&&m.all cT))/\aj w j:=by
     intro l h;refine eJ (λJ=>?_) (λB=>go ?_)
     .rw [J]at h;refine aJ (λk=>stop ?_) (λk=>?_)
      .rw [aA (by omega),<-h]
      have L:i≠0:=by omega
      rw[aq L]at go stop;have u:cT x=((af (48<=x.toNat)&&af (x.toNat<=57))||x==45):=by unfold cT;rw[<-h,Bool.false_or]
      refine cD (λA=>aQ (λz=>stop ?_) (λz=>aQ (λI=>stop ?_) (λI=>go ?_))) (λA=>go ?_)
      .rw [u,a2 (show ¬48<=x.toNat by omega)];have:(x==45)=false:=beq_eq_false_iff_ne.2 λy=>A (by subst y;rfl);rw[this];rfl
      .rw [u,a2 (show ¬x.toNat<=57 by omega),Bool.and_false];have:(x==45)=false:=beq_eq_false_iff_ne.2 λy=>A (by subst y;rfl);rw[this];rfl
      .rw [u,a0 (show 48<=x.toNat by omega),a0 (show x.toNat<=57 by omega)];rfl
      .have:x=45:=UInt8.toNat_inj.1 (by have:((45:UInt8).toNat:Int)=45:=rfl;omega);rw[u,this];rfl
     .rw [B]at h;split
      .exact h.symm
      .unfold cT;rw[<-h];rfl
    have B:((i:Int)).toNat=i:=bT i;refine mI.j3 _ _ _ _ (a8 (a0 (by omega)) ⟨by omega,x,by rw[B];exact F,aQ (λz=>D _ ?_) (λz=>D _ ?_)⟩)
    .unfold e4;rw[a0 (show 97<=x.toNat by omega),Bool.true_and];exact decide_eq_decide.2 (by omega)
    .unfold e4;rw[a2 (show ¬97<=x.toNat by omega),Bool.false_and]
  exact loop s.size 0 (by omega) (by rw[aA rfl])
def PY(t:ByteArray):(t.toList==(av #[]).toList)=af (t=ba []):=y3 _ _
def Ve{w:C}{p:Addr}{d:Nd}(h:ei w p d):ah V Db #[.pointer (some p)] w λr q=>r=U (.bool (iT d.x))/\aj w q:=by
 have D:∀a b e c:Bool,vC.S1 p a b e c w λr q=>r=U (.bool ((a||d.x.n==0)&&(b||d.x.m==0)&&(e||d.x.u==0)&&(c||af (d.x.tx=ba []))))/\aj w q:=by
  intro a b e c;cases a<;>cases b<;>cases e<;>cases c;all_goals repeat (first |refine bb rfl ?_|refine a8 rfl ?_|refine⟨_,h.c2,aJ (λj=>?_) (λj=>⟨by rw[beq_eq_false_iff_ne.2 j];simp,Fr.refl _ _⟩)⟩|refine⟨_,h.c3,aJ (λk=>?_) (λk=>⟨by rw[beq_eq_false_iff_ne.2 k];simp,Fr.refl _ _⟩)⟩|refine⟨_,h.c4,aJ (λz=>?_) (λz=>⟨by rw[beq_eq_false_iff_ne.2 z];simp,Fr.refl _ _⟩)⟩|refine⟨_,h.c5,?_,Fr.refl _ _⟩)
  all_goals first |exact⟨by simp[*],Fr.refl _ _⟩|(rw[PY];simp[*])
 have fin:∀a b e c:Bool,a=od d.x.op->b=(d.x.op==21)->e=(d.x.op==1)->c=oe d.x.op->vC.S1 p a b e c w λr q=>r=U (.bool (iT d.x))/\aj w q:=by rintro a b e c rfl rfl rfl rfl;exact D _ _ _ _
 have I:∀A:Int,d.x.op≠A->(d.x.op==A)=false:=λA H=>beq_eq_false_iff_ne.2 H;have E:∀c:Bool,c=oe d.x.op->vC.S2 p false false false c d.x.op w λr q=>r=U (.bool (iT d.x))/\aj w q:=by intro c y;refine aJ (λF=>fin _ _ _ _ ?_ ?_ ?_ y) (λF=>aJ (λj=>fin _ _ _ _ ?_ ?_ ?_ y) (λj=>aJ (λk=>a8 (beq_iff_eq.2 k) (fin _ _ _ _ ?_ ?_ ?_ y)) (λk=>aJ (λz=>a8 (beq_iff_eq.2 z) (fin _ _ _ _ ?_ ?_ ?_ y)) (λz=>aJ (λG=>fin _ _ _ _ ?_ ?_ ?_ y) (λG=>fin _ _ _ _ ?_ ?_ ?_ y)))));all_goals first |(rw[‹d.x.op=_›];rfl)|(simp[od, *])
 refine vC.ok p w _ ⟨_,h.c0,aJ (λB=>a8 (beq_iff_eq.2 B) (fin _ _ _ _ ?_ ?_ ?_ ?_)) (λB=>aJ (λj=>a8 (beq_iff_eq.2 j) (fin _ _ _ _ ?_ ?_ ?_ ?_)) (λj=>aJ (λk=>fin _ _ _ _ ?_ ?_ ?_ ?_) (λk=>E _ ?_)))⟩;all_goals first |(rw[‹d.x.op=_›];rfl)|(unfold oe;simp[*])
def gh(n:Nx):List UInt8:=hQ n.op++(kb n.kids++(hQ n.n++(hQ n.m++(hR n.u.toNat++(kI (bl n.tx)++(hQ n.st.k++(hQ n.st.n++hQ n.st.x)))))))
structure lj(x:Nx):Prop where
 op:bn x.op
 ks:∀k∈x.kids,bn k
 kl:x.kids.length<=1000000000
 n:bn x.n
 m:bn x.m
 u:0<=x.u/\x.u<18446744073709551616
 tx:x.tx.size<=1000000000
 sk:bn x.st.k
 sn:bn x.st.n
 sx:bn x.st.x
def SK{n:Nx}(W:lj n):(gh n).length<=20000000000:=by have d:=e2 _ W.op;have e:=rM _ W.ks;have h:=e2 _ W.n;have j:=e2 _ W.m;have k:=hS n.u.toNat (by have:=W.u;omega);have q:=e2 _ W.sk;have w:=e2 _ W.sn;have x:=e2 _ W.sx;have y:=hS n.kids.length (by have:=W.kl;omega);have c:=hS (bl n.tx).length (by have:=W.tx;rw[eS];omega);have z:=W.kl;have A:=W.tx;have B:=eS n.tx;unfold gh kb kI;simp only[cC];omega
def nL{P:aR}{f:FuncId}{args:Array ab}{w0 w:C}{d:Nat}{e:List Nat}{bs j:List UInt8}(h:hh w0 d e bs w)(x:∀own,fc w d bs own->(∀n∈own,n∈e\/w0.heap.size<=n)->ah P f args w (mV w d own j)){K:C->Prop}(u:∀c,hh w0 d e j c->K c):
  ah P f args w λr c=>r=U (.tuple #[])/\K c:=by obtain⟨own,z,y,k⟩:=h;refine(x own z k).mono ?_;rintro r c ⟨rfl,q⟩;exact⟨rfl,u c (hh.then y k q)⟩
def MM{w:C}{h:Nat}{bs:List UInt8}{own:List Nat}(q:fc w h bs own){s:J}{l:List Int}(d:bo w s l)(x:∀c∈(En.rd s (l.map bd)).fp,c∉own)(hi:∀c∈l,bn c)(y:bs.length+10 *l.length<=1000000000000):
  ah V mu #[.pointer (some (ag h)),s.v] w (mV w h own (bs++kb l)):=by
 by_cases j:l=[]
 .subst j;have z:s.n=0:=bo.len d;refine oZ.ok _ _ w _ ?_;rw[z];refine(sW q 0 (by omega) (by omega)).mono ?_;rintro r A ⟨rfl,u⟩;refine⟨rfl,oZ.cf _ _ _ _ _ _ (bb (by decide) ⟨rfl,?_⟩)⟩;simpa[kb]using u
 .have k:(En.rd s (l.map bd)).fp=aO s:=by show(if l.map bd=[]then[]else aO s)=_;rw[aq (by simpa using j)]
  exact VG q d (λc e=>x c (k▸e)) (λc e=>(En.rd s (l.map bd)).lt w d c (k▸e)) hi y
def Ma{w:C}{c:Nat}{bs:List UInt8}{own:List Nat}(S:fc w c bs own){p:Addr}{d:Nd}(J:ei w p d)(H:d.P w)(L:p.block∉own)(G:∀e∈(dY d).fp,e∉own)(W:lj d.x)(I:bs.length<=100000000000):
  ah V yc #[.pointer (some (ag c)),.pointer (some p)] w (mV w c own (bs++gh d.x)):=by
 have at_:∀{j:List UInt8} {w':C},hh w c own j w'->ei w' p d:=λ⟨_,_,f,_⟩=>J.st λN=>f.cA _ N L
 have Y:∀{j:List UInt8} {w':C},hh w c own j w'->bo w' d.ks d.x.kids:=λ⟨_,_,f,_⟩=>(dY d).st w _ (λb M I=>f.cA _ I (G b M)) H;have k1:=e2 _ W.op;have k2:=rM _ W.ks;have k3:=e2 _ W.n;have k4:=e2 _ W.m;have T:d.x.u=((d.x.u.toNat:Nat):Int):=by have:=W.u;omega
 have k5:=hS d.x.u.toNat (by have:=W.u;omega);have k6:=e2 _ W.sk;have k7:=e2 _ W.sn;have k9:=hS d.x.kids.length (by have:=W.kl;omega);have Z:=hS (bl d.x.tx).length (by have:=W.tx;rw[eS];omega);have m1:=W.kl;have m2:=W.tx;have m3:=eS d.x.tx;have lL:(kb d.x.kids).length<=10000000010:=by unfold kb;simp only[cC];omega
 have lR:(kI (bl d.x.tx)).length<=1000000010:=by unfold kI;simp only[cC];omega
 refine Ms.ok _ _ w _ ⟨_,J.c0,nL (hh.refl S) (λo r _=>nK r _ W.op (by omega)) λw1 h=>⟨_,(at_ h).c1,nL h (λo r Q=>MM r (Y h) (λe K O=>?_) W.ks (by simp only[cC];omega)) λw2 k=>⟨_,(at_ k).c2,nL k (λo r _=>nK r _ W.n (by simp only[cC];omega)) λw3 q=>⟨_,(at_ q).c3,nL q (λo r _=>nK r _ W.m (by simp only[cC];omega)) λw4 y=>⟨_,(at_ y).c4,?_⟩⟩⟩⟩⟩
 .rcases Q e O with F|F
  .exact G e K F
  .have:=(dY d).lt w H e K;omega
 rw[T];refine nL y (λo r _=>sW r d.x.u.toNat (by have:=W.u;omega) (by simp only[cC];omega)) λw5 z=>⟨_,(at_ z).c5,nL z (λo r _=>VJ r d.x.tx (by simp only[cC];omega)) λw6 A=>⟨_,(at_ A).s0,nL A (λo r _=>nK r _ W.sk (by simp only[cC];omega)) λw7 B=>⟨_,(at_ B).s1,nL B (λo r _=>nK r _ W.sn (by simp only[cC];omega)) λw8 D=>⟨_,(at_ D).s2,nL D (λo r _=>nK r _ W.sx (by simp only[cC];omega)) λw9 E=>⟨rfl,?_⟩⟩⟩⟩⟩;unfold gh;simp only[jU]at E;exact E
def L'{w:C}{p:Addr}{d:Nd}(h:ei w p d)(e:d.P w)(W:lj d.x):
  ah V yb #[.pointer (some p)] w λr D=>r=U (.string (ba (gh d.x)))/\aj w D:=by refine Mo.ok _ w _ ?_;have c:aj w (w.alloc (.cells #[.slice none 0 0] lW)):=Fr.alloc _ _ _;have lt:=SK W;refine(Ma (fc.new w) (h.st λz=>c.cA _ z id) ((dY d).st w _ (λb E y=>c.cA _ y id) e) (by have:=ei.lt h;simp;omega) (λn j=>by have:=(dY d).lt w e n j;simp;omega) W (by simp)).mono ?_;rintro r H ⟨rfl,G,k,q,F⟩;rw[h0]at k;refine⟨rfl,(zg k (by omega)).mono ?_⟩;rintro r I ⟨s,rfl,B,u,_⟩;refine⟨s,rfl,_,lk B.rd,rfl,?_⟩;exact(c.trans q λn j A=>by simp at A;omega).ew u
def y6{a b:Nat}(c:a<256)(d:b<256)(h:dP a=dP b):a=b:=by have:=congrArg UInt8.toNat h;simp at this;omega
def wK:∀(n m:Nat) (r s:List UInt8),hR n++r=hR m++s->n=m/\r=s:=by
 intro n;induction n using Nat.strongRecOn with
 |_ n j=>
  intro m r s c;by_cases e:n<128<;>by_cases d:m<128
  .rw [n2 e,n2 d]at c;simp only[iF,h0,List.cons.injEq]at c;exact⟨y6 (by omega) (by omega) c.1,c.2⟩
  .rw [n2 e,pK d]at c;simp only[iF,h0,List.cons.injEq]at c;have:=y6 (by omega) (by omega) c.1;omega
  .rw [pK e,n2 d]at c;simp only[iF,h0,List.cons.injEq]at c;have:=y6 (by omega) (by omega) c.1;omega
  .rw [pK e,pK d]at c;simp only[iF,List.cons.injEq]at c;have k:=y6 (by omega) (by omega) c.1;have h:=j (n / 128) (by omega) _ _ _ c.2;exact⟨by omega,h.2⟩
def VW{a b:Int}(h:zz a=zz b):a=b:=by unfold zz at h;split at h<;>split at h<;>omega
def pJ{n m:Int}{r s:List UInt8}(h:hQ n++r=hQ m++s):n=m/\r=s:=by have:=wK _ _ _ _ h;exact⟨VW this.1,this.2⟩
def H3:∀{a b:List Int} {r s:List UInt8},a.length=b.length->a.flatMap hQ++r=b.flatMap hQ++s->a=b/\r=s
 |[],[],_,_,_,d=>⟨rfl,d⟩
 |[],_::_,_,_,c,_=>by simp at c
 |_::_,[],_,_,c,_=>by simp at c
 |n::a,q::b,r,s,c,d=>by simp only[dT,jU]at d;obtain⟨e,h⟩:=pJ d;obtain⟨j,k⟩:=H3 (a:=a) (b:=b) (by simpa using c) h;exact⟨by rw[e,j],k⟩
def PZ{a b:List Int}{r s:List UInt8}(h:kb a++r=kb b++s):a=b/\r=s:=by unfold kb at h;simp only[jU]at h;obtain⟨c,d⟩:=wK _ _ _ _ h;exact H3 c d
def P9{a b r s:List UInt8}(h:kI a++r=kI b++s):a=b/\r=s:=by unfold kI at h;simp only[jU]at h;obtain⟨c,d⟩:=wK _ _ _ _ h;exact List.append_inj d c
def SJ{n m:Nx}(Z:0<=n.u)(Y:0<=m.u)(h:gh n=gh m):n=m:=by
 unfold gh at h;obtain⟨c,h⟩:=pJ h;obtain⟨d,h⟩:=PZ h;obtain⟨e,h⟩:=pJ h;obtain⟨j,h⟩:=pJ h;obtain⟨A,h⟩:=wK _ _ _ _ h;obtain⟨k,h⟩:=P9 h;obtain⟨q,h⟩:=pJ h;obtain⟨w,h⟩:=pJ h;have x:=(pJ (r:=[]) (s:=[]) (by simpa using h)).1;have y:n.u=m.u:=by omega
 have z:n.tx=m.tx:=by
  have:=congrArg ba k
  rwa[mW,mW]at this
 obtain⟨B,D,E,F,G,H,⟨I,J,K⟩⟩:=n;obtain⟨L,M,N,O,P,Q,⟨S,T,W⟩⟩:=m;simp only at c d e j y z q w x;clear A k;subst c d e j y z q w x;rfl
def jM(n:Nx):ByteArray:=ba (gh n)
def Rv{n m:Nx}(d:0<=n.u)(c:0<=m.u)(h:jM n=jM m):n=m:=by
 refine SJ d c ?_;have:=congrArg bl h;unfold jM at this
 rwa[nW,nW]at this
def jC(es:Array MapEntry)(ms:List (ByteArray×ab)):Prop:=es.toList.map (λc=>(c.key,c.val))=ms.map λp=>(Value.string p.1,p.2)
def jn(ms:List (ByteArray×ab))(k:ByteArray):Option ab:=(ms.find? λp=>af (p.1=k)).map (·.2)
def NY(a b:ByteArray):(a==b)=af (b=a):=by
 cases c:af (b=a)with
 |true=>rw[hC c];exact(Go.MapKept.bytes_beq _ _).2 rfl
 |false=>
  cases d:(a==b)with
  |false=>rfl
  |true=>exact absurd ((Go.MapKept.bytes_beq _ _).1 d).symm (qP c)
def Bg{k:ByteArray}:∀{es:List MapEntry} {ms:List (ByteArray×ab)} {i:Nat},es.map (λe=>(e.key,e.val))=ms.map (λp=>(Value.string p.1,p.2))->
  Instr.findNow .string (.string k) es i=some ((ms.findIdx? λp=>af (p.1=k)).bind λd=>(ms[d]?).map λp=>(i+d,p.2))
 |[],[],i,_=>rfl
 |[],_::_,_,c=>by simp at c
 |_::_,[],_,c=>by simp at c
 |e::es,p::ms,i,c=>by
  simp only[List.map_cons,List.cons.injEq,Prod.mk.injEq]at c;obtain⟨⟨n,q⟩,u⟩:=c;have w:=Bg (k:=k) (i:=i+1) u;unfold Instr.findNow;simp only[n,Instr.sameNow,NY];by_cases h:p.1=k
  .have j:af (p.1=k)=true:=a0 h;simp[List.findIdx?_cons,h,q]
  .have j:af (p.1=k)=false:=a2 h;simp only[w,List.findIdx?_cons,j,Bool.false_eq_true,if_false];congr 1;cases x:ms.findIdx? (λp=>af (p.1=k))with
   |none=>simp
   |some d=>simp[Nat.add_assoc,Nat.add_comm 1 d]
def Lk{ms:List (ByteArray×ab)}{k:ByteArray}{i:Nat}:(((ms.findIdx? λp=>af (p.1=k)).bind λc=>(ms[c]?).map λp=>(i+c,p.2)).map (·.2))=jn ms k:=by
 unfold jn;induction ms generalizing i with
 |nil=>rfl
 |cons p ms h=>
  by_cases d:p.1=k
  .simp [List.findIdx?_cons,d]
  .have e:af (p.1=k)=false:=a2 d;simp only[List.findIdx?_cons,e,Bool.false_eq_true,if_false,List.find?_cons];rw[<-h (i:=i+1)];cases j:ms.findIdx? (λp=>af (p.1=k))with
   |none=>simp
   |some c=>simp[Function.comp_def]
structure v5(P:aR)(T kt et:aF)(z:ab):Prop where
 hT:P.underlying T=some (.map kt et)
 hk:P.underlying kt=some .string
 hz:(P.info? et).map (·.zero)=some (some z)
def GJ{P:aR}{c:aF}(d:P.underlying c=some .string)(b:Bool)(k:ByteArray)(w:C):(Instr.checkKey b 10000 c (.string k)).run P w=.ok () w:=by unfold Instr.checkKey;simp[run_underlying d]
def I6{P:aR}{T A q:aF}{n:ab}(d:v5 P T A q n){w:C}{e:Nat}{es:Array MapEntry}{clock:Nat}{ms:List (ByteArray×ab)}(y:w.heap[e]? =some (.map es clock))(z:jC es ms)(k:ByteArray):
  (Instr.lookup T (.map (some e)) (.string k) true).run P w=.ok (.tuple #[(jn ms k).getD n,.bool (jn ms k).isSome]) w:=by
 have u:=Bg (k:=k) (i:=0) z;have x:(getObj e).run P w=.ok (.map es clock) w:=by simp[getObj,a',y]
 have c:=Lk (ms:=ms) (k:=k) (i:=0);unfold Instr.lookup Instr.findKey;simp only[Sem.run_bind,run_underlying d.hT,Result.andThen_ok,x,Sem.run_pure,GJ d.hk,run_underlying d.hk,u];cases h:((ms.findIdx? λp=>af (p.1=k)).bind λj=>(ms[j]?).map λp=>(0+j,p.2))with
 |none=>rw[h]at c;simp[<-c,M2 d.hz]
 |some B=>rw[h]at c;simp[<-c]
def MF{P:aR}{T E x:aF}{F:ab}(j:v5 P T E x F){w:C}{c:Nat}{es:Array MapEntry}{clock:Nat}{ms:List (ByteArray×ab)}(e:w.heap[c]? =some (.map es clock))(h:jC es ms)(k:ByteArray)(v:ab)(B:jn ms k=none):
  ∃d n,(Instr.mapUpdate T (.map (some c)) (.string k) v).run P w=.ok () d/\d.heap[c]? =some (.map n (clock+1))/\jC n (ms++[(k,v)])/\Fr (λb=>b=c) w d/\d.heap.size=w.heap.size:=by
 have y:=Bg (k:=k) (i:=0) h;have z:(getObj c).run P w=.ok (.map es clock) w:=by simp[getObj,a',e]
 have q:=Lk (ms:=ms) (k:=k) (i:=0);have A:=lt_of_heap e;have D:((ms.findIdx? λp=>af (p.1=k)).bind λu=>(ms[u]?).map λp=>(0+u,p.2))=none:=by rw[B]at q;simpa using q
 refine⟨{w with heap:=w.heap.setIfInBounds c (.map (es.push {key:=.string k,val:=v,born:=clock}) (clock+1))},es.push {key:=.string k,val:=v,born:=clock},?_,by simp[A],?_,Fr.setObj w c _ rfl,by simp⟩
 .unfold Instr.mapUpdate Instr.findKey;simp only[Sem.run_bind,run_underlying j.hT,Result.andThen_ok,z,GJ j.hk,run_underlying j.hk,y,D];simp[setObj,a',e]
 .unfold jC at h ⊢;simp[h]
def iD:List Nx->Nat->List (ByteArray×ab)
 |[],_=>[]
 |c::g,i=>(jM c,.i (i:Int))::iD g (i+1)
def J6(n:Nx):∀(g:List Nx) (i:Nat),iD (g++[n]) i=iD g i++[(jM n,.i ((i+g.length:Nat):Int))]
 |[],i=>by simp[iD]
 |c::g,i=>by have:=J6 n g (i+1);simp only[iF,iD,this,List.length_cons];rw[show i+1+g.length=i+(g.length+1)by omega]
def DM{n:Nx}(j:0<=n.u):∀{g:List Nx} {i:Nat},(∀c∈g,0<=c.u)->jn (iD g i) (jM n)=(gO n g i).map λk:Nat=>.i (k:Int)
 |[],i,_=>rfl
 |c::g,i,h=>by
  have q:=DM j (g:=g) (i:=i+1) λd w=>h d (by simp[w]);unfold jn at q ⊢;unfold iD gO;by_cases e:c=n
  .subst e;simp
  .have x:¬jM c=jM n:=λd=>e (Rv (h c (by simp)) j d);rw[aq e,List.find?_cons];simp only[a2 x];exact q
def h4:List Nx->List (ByteArray×ab)
 |[]=>[]
 |c::g=>if c.op=0 then(c.tx,dO c.st)::h4 g else h4 g
def MI(n:Nx):∀(g:List Nx),h4 (g++[n])=h4 g++(if n.op=0 then[(n.tx,dO n.st)]else[])
 |[]=>by unfold h4;simp only[h0,h4]
 |c::g=>by have:=MI n g;simp only[iF,h4,this];split<;>simp
def EY(t:ByteArray):∀(g:List Nx),jn (h4 g) t=(jw g t).map dO
 |[]=>rfl
 |j::g=>by
  have h:=EY t g;unfold jn at h ⊢;unfold h4 jw;by_cases c:j.op=0
  .rw [aA c,List.find?_cons];by_cases d:j.tx=t
   .rw [aA ⟨c,d⟩];simp[d]
   .rw [aq (λe=>d e.2)];simp only[a2 d];exact h
  .rw [aq c,aq (λe=>c e.1)];exact h
def iJ(s:bt)(e:Int)(r:cQ):Prop:=∃(t:bt) (c:Int),r=gk (t,c)/\c=e/\(e=0->t=s)
def w7{w:C}{p:Addr}{d:Nd}(h:ei w p d):Z F0 w w [] [.iS p d]:=bN _ (by intro e c;simp only[ay,aW,a3]at c;subst c;exact h)
def ia(n:Nx)(x y c:bt):Int:=if dm n.op x y c=false then 9 else if jV n x y c=false then 5 else if n.op=33/\m0 n.tx=false then 2 else 0
def TW{n:Nx}{x y e t:bt}{c ranges:Bool}(q:n.op≠33)(h:c=dm n.op x y e)(j:c=true->ranges=jV n x y e)(k:c=true->ranges=true->t=hx n x y e):iJ (hx n x y e) (ia n x y e) (gk (t,DZ c ranges)):=by
 refine⟨t,_,rfl,?_,λd=>?_⟩
 .unfold DZ ia;rw[<-h];cases c with
  |false=>rfl
  |true=>
   rw[<-j rfl];cases ranges with
   |false=>rfl
   |true=>simp[q]
 .unfold ia at d;rw[<-h]at d;cases c with
  |false=>simp at d
  |true=>
   rw[<-j rfl]at d;cases ranges with
   |false=>simp at d
   |true=>exact k rfl rfl
section
variable {M:Nat->Prop} {w0 w:C} {L D:List En} {bs N2:List Nat}
def eg(H:Z F0 w0 w L D){n:Nx}{x y d:bt}(t:bt)(c ranges:Bool)(A:n.op≠33)(q:c=dm n.op x y d)(u:c=true->ranges=jV n x y d)(z:c=true->ranges=true->t=hx n x y d)(bZ:∀b∈bs,En.g b∈L:=by simp):
  cV N2 V dC #[dO t,.bool c,.bool ranges] w λr B=>∃a b e h:Int,r=U (.tuple #[.agg #[.i a,.i b,.i e],.i h])/\loc bs B λE=>iJ (hx n x y d) (ia n x y d) (U (.tuple #[.agg #[.i a,.i b,.i e],.i h]))/\aj w0 E:=by refine H.ax (Vj t c ranges w) ?_;rintro _ F rfl j;exact⟨_,_,_,_,rfl,j.ak (λG k=>⟨TW A q u z,k.fr⟩) bZ⟩
end
def nN(s:bt):Prop:=0<=s.n/\s.n<=64
def VE{s:bt}(h:cb s=true):nN s:=⟨(k5 h).1,(k5 h).2.1⟩
def Jy:nN cZ:=⟨by decide,by decide⟩
def Vd{w:C}{p:Addr}{d:Nd}{x y e:bt}(h:ei w p d)(h4:4<=d.x.op)(al:d.x.op<=23)(am:nN x)(hy:nN y)(hn:bn d.x.n)(hm:bn d.x.m):
  ah V Dh #[.pointer (some p),dO x,dO y,dO e] w λr w'=>iJ (hx d.x x y e) (ia d.x x y e) r/\aj w w':=by
 refine EC.aB _ _ _ _ _ _ _ _ _ _ w _ ((w7 h).aN λb5 w1 H1=>H1.aN λb6 w2 H2=>H2.aN λb7 w3 H3=>H3.aN λb8 w4 G=>?_);obtain⟨⟨T,kids,j,m,N,M,st⟩,aa⟩:=d;have D:∀{A:C} {L:List En},Z F0 w A L [.iS p ⟨⟨T,kids,j,m,N,M,st⟩,aa⟩]->ei A p ⟨⟨T,kids,j,m,N,M,st⟩,aa⟩:=λag=>ag.getD 0;simp only at h4 al hn hm;refine⟨T,(D G).c0,?_⟩;obtain⟨au,av⟩:=am;obtain⟨aw,ay⟩:=hy;obtain⟨ap,ar⟩:=hn;obtain⟨an,ao⟩:=hm;have two:∀(c:Bool),c=true->c=true:=λ_ h=>h;rcases sa (by omega) (by omega:T<=34)with rfl|rfl|rfl|rfl|rfl|rfl|rfl|rfl|rfl|rfl|rfl|rfl|rfl|rfl|rfl|rfl|rfl|rfl|rfl|rfl|rfl|rfl|rfl|rfl|rfl|rfl|rfl|rfl|rfl|rfl|rfl|rfl|rfl|rfl|rfl
 iterate 4 omega
 rotate_left 20
 iterate 11 omega
 all_goals repeat (first |refine bb rfl ?_|refine a8 rfl ?_)
 iterate 2
  .refine G.ak λA u=>u.ax (qF x A) ?_;rintro _ E rfl z;exact⟨_,rfl,eg z x _ true (by simp) rfl (λ_=>rfl) (λ_ _=>rfl)⟩
 iterate 10
  .refine G.ak λA u=>u.ax (qF x A) ?_;rintro _ E rfl z;refine⟨_,rfl,aJ (λB=>?_) (λB=>?_)⟩
   .refine eg z x _ true (by simp) ?_ (λ_=>rfl) (λ_ _=>rfl);rw[jX];show _=(x.k==0&&af (x=y));rw[B];rfl
   .refine eg z x _ true (by simp) ?_ (λ_=>rfl) (λ_ _=>rfl);show _=(x.k==0&&af (x=y));rw[beq_eq_false_iff_ne.2 B];rfl
 iterate 2
  .refine G.ak λA u=>u.ax (iY 1 A) ?_;rintro _ E rfl z;refine⟨_,_,_,rfl,z.ax (qF x E) ?_⟩;rintro _ H rfl q;refine⟨_,rfl,aJ (λB=>?_) (λB=>?_)⟩
   .refine eg q (bJ 1) _ true (by simp) ?_ (λ_=>rfl) (λ_ _=>rfl);rw[jX];show _=(x.k==0&&af (x=y));rw[B];rfl
   .refine eg q (bJ 1) _ true (by simp) ?_ (λ_=>rfl) (λ_ _=>rfl);show _=(x.k==0&&af (x=y));rw[beq_eq_false_iff_ne.2 B];rfl
 .refine G.ak λA u=>u.ax (iY 1 A) ?_;rintro _ E rfl z;refine⟨_,_,_,rfl,z.ax (L9 x y E) ?_⟩;rintro _ H rfl q;exact⟨_,rfl,eg q (bJ 1) _ true (by simp) rfl (λ_=>rfl) (λ_ _=>rfl)⟩
 .refine G.aN λac A u=>u.ak λE z=>z.ax (iZ y E) ?_;rintro _ H rfl q;have Y:∀(t:bt) (I:C),((af (y=e)||(y.k==1&&e.k==1))=true->t=if y.k=1 then eW (if y.n<e.n then e.n else y.n)else y)->Z F0 w I [.g b5,.g b6,.g b7,.g b8,.g ac] [.iS p ⟨⟨19,kids,j,m,N,M,st⟩,aa⟩]->EC.cq b5 x.k x.n x.x b6 y.k y.n y.x b7 e.k e.n e.x b8 0 0 0 ac t.k t.n t.x I λr w'=>iJ (hx ⟨19,kids,j,m,N,M,st⟩ x y e) (ia ⟨19,kids,j,m,N,M,st⟩ x y e) r/\aj w w':=by
   intro t I ht J;refine J.ak λw9 W=>W.ax (iY 1 w9) ?_;rintro _ ab rfl Q;have O:dm 19 x y e=(af (x=bJ 1)&&(af (y=e)||(y.k==1&&e.k==1))):=rfl;refine⟨_,_,_,rfl,mE (a:=x) (b:=bJ 1) (λhe=>Q.ax (L9 y e ab) ?_) (λhe=>?_)⟩
   .rintro _ az rfl ai;refine⟨_,rfl,eg ai t _ true (by simp) ?_ (λ_=>rfl) (λh _=>ht h)⟩;show _=dm 19 x y e;rw[O,a0 he];rfl
   .refine eg Q t _ true (by simp) ?_ (λ_=>rfl) (λh _=>by cases h);show _=dm 19 x y e;rw[O,a2 he];rfl
  have yes:∀t:bt,y.k=1->e.k=1->t=eW (if y.n<e.n then e.n else y.n)->((af (y=e)||(y.k==1&&e.k==1))=true->t=if y.k=1 then eW (if y.n<e.n then e.n else y.n)else y):=λt h1 _ h3 _=>by rw[aA h1,h3]
  refine⟨_,rfl,aJ (λB=>q.ax (iZ e H) ?_) (λB=>Y y H (λ_=>by rw[aq B]) q)⟩;rintro _ I rfl J;refine⟨_,rfl,aJ (λS=>J.ax (sQ _ I) ?_) (λS=>Y y I (λhf=>?_) J)⟩
  .rintro _ w9 rfl W;exact⟨_,_,_,rfl,W.ak λab Q=>Y (eW (if y.n<e.n then e.n else y.n)) ab (yes _ B S rfl) Q⟩
  .rw [beq_eq_false_iff_ne.2 S,Bool.and_false,Bool.or_false]at hf;have:=hC hf;exact absurd (by rw[<-this];exact B) S
 .have e1:ad .i64 (x.n+y.n)=x.n+y.n:=bf _ (by omega);have O:dm 20 x y e=(x.k==0&&y.k==0):=rfl;refine G.ak λA u=>?_;rw[e1];refine u.ax (iY _ A) ?_;rintro _ E rfl z;refine⟨_,_,_,rfl,z.ax (qF x E) ?_⟩;rintro _ H rfl q;refine⟨_,rfl,aJ (λB=>q.ax (qF y H) ?_) (λB=>?_)⟩
  .rintro _ I rfl J;refine⟨_,rfl,eg J (bJ (x.n+y.n)) _ _ (by simp) ?_ (λ_=>rfl) (λ_ _=>rfl)⟩;show _=dm 20 x y e;rw[O,B];rfl
  .refine eg q (bJ (x.n+y.n)) _ _ (by simp) ?_ (λh=>by cases h) (λh _=>by cases h);show _=dm 20 x y e;rw[O,beq_eq_false_iff_ne.2 B];rfl
 .have hr:jV ⟨21,kids,j,m,N,M,st⟩ x y e=(af (0<=m)&&af (m<=j)&&af (j<x.n)):=rfl;refine G.ak λA u=>⟨_,(D u).c2,_,(D u).c3,_,(D u).c3,u.ax (iY _ A) ?_⟩;rintro _ E rfl z;refine⟨_,_,_,rfl,(D z).c3,z.ax (qF x E) ?_⟩;rintro _ H rfl q;refine⟨_,rfl,(D q).c3,aQ (λF=>⟨_,(D q).c3,_,(D q).c2,aQ (λP=>⟨_,(D q).c2,eg q (bJ _) _ _ (by simp) rfl (λ_=>?_) (λ_ K=>?_)⟩) (λP=>eg q (bJ _) _ _ (by simp) rfl (λ_=>?_) (λ_ h=>by cases h))⟩) (λF=>eg q (bJ _) _ _ (by simp) rfl (λ_=>?_) (λ_ h=>by cases h))⟩
  .rw [hr,a0 (show 0<=m from F),a0 (show m<=j from P)];rfl
  .have F:0<=m:=F;have P:m<=j:=P;have K:j<x.n:=hC K;show bJ (ad .i64 (ad .i64 (j - m)+1))=bJ (j - m+1);rw[bf (j - m) (by omega),bf _ (by omega)]
  .rw [hr,a2 (show ¬m<=j from P),Bool.and_false];rfl
  .rw [hr,a2 (show ¬0<=m from F)];rfl
 iterate 2
  .have ae:ad .i64 (64 - x.n)=64 - x.n:=bf _ (by omega);refine G.ak λA u=>⟨_,(D u).c2,_,(D u).c2,u.ax (iY _ A) ?_⟩;rintro _ E rfl z;refine⟨_,_,_,rfl,(D z).c2,z.ax (qF x E) ?_⟩;rintro _ H rfl q;refine⟨_,rfl,(D q).c2,aQ (λF=>⟨_,(D q).c2,eg q (bJ _) _ _ (by simp) rfl (λ_=>?_) (λ_ K=>?_)⟩) (λF=>eg q (bJ _) _ _ (by simp) rfl (λ_=>?_) (λ_ h=>by cases h))⟩
   .show _=(af (1<=j)&&af (j<=64 - x.n));rw[ae,a0 (show 1<=j from F)];rfl
   .have F:1<=j:=F;rw[ae]at K;have K:j<=64 - x.n:=hC K;show bJ (ad .i64 (x.n+j))=bJ (x.n+j);rw[bf _ (by omega)]
   .show _=(af (1<=j)&&af (j<=64 - x.n));rw[a2 (show ¬1<=j from F)];rfl
def UZ{x y c:bt}(h:ek x=true):dm 25 x y c=(af (y=bJ x.x)&&(if x.k=3 then c.k==1&&af (c.n<=x.n)else af (c=hP x))):=by
 show(ek x&&af (y=bJ x.x)&&(af (c=hP x)||(x.k==3&&c.k==1&&af (c.n<=x.n))))=_;rw[h,Bool.true_and];congr 1;by_cases d:x.k=3
 .rw [aA d,d];have j:hP x=eW x.n:=by unfold hP;rw[aq (by omega)]
  rw[j];by_cases e:c=eW x.n
  .subst e;simp[eW]
  .rw [a2 e];rfl
 .rw [aq d,beq_eq_false_iff_ne.2 d];simp
def Vc{w:C}{p:Addr}{d:Nd}{x y c:bt}(h:ei w p d)(h4:24<=d.x.op)(ai:d.x.op<=26):
  ah V Df #[.pointer (some p),dO x,dO y,dO c] w λr H=>iJ (hx d.x x y c) (ia d.x x y c) r/\aj w H:=by
 refine y0.aB _ _ _ _ _ _ _ _ _ _ w _ ((w7 h).aN λI w1 H1=>H1.aN λT w2 H2=>H2.aN λJ w3 H3=>H3.aN λK w4 Q=>?_);have ae:∀{N:C} {L:List En},Z F0 w N L [.iS p d]->ei N p d:=λag=>ag.getD 0;refine⟨_,(ae Q).c0,aJ (λM=>Q.ak λN H5=>H5.ax (iY x.x N) ?_) (λM=>Q.ax (iY x.n w4) ?_)⟩
 .rintro _ w6 rfl S;refine⟨_,_,_,rfl,S.ax (Ez x w6) ?_⟩;rintro _ D rfl e;have fe:dm d.x.op x y c=(ek x&&af (x=y)):=by rw[M];rfl
  have B:jV d.x x y c=true:=by unfold jV;rw[M];rfl
  have E:hx d.x x y c=bJ x.x:=by unfold hx;rw[M];rfl
  refine⟨_,rfl,cK (λq=>?_) (λq=>?_)⟩
  .refine eg e (bJ x.x) _ true (by omega) ?_ (λ_=>B.symm) (λ_ _=>E.symm);rw[fe,jX,q];rfl
  .refine eg e (bJ x.x) _ true (by omega) ?_ (λ_=>B.symm) (λ_ _=>E.symm);rw[fe,q];rfl
 rintro _ w6 rfl S;have B:jV d.x x y c=true:=by unfold jV;rw[aq (by omega),aq (by omega),aq (by omega),aq (by omega),aq (by omega)]
 have S1:∀(t:bt) (u:Nat) (f:Bool) (D:C),f=(ek x&&af (y=bJ x.x))->(ek x=true->t=hP x)->Z F0 w D [.g I,.g T,.g J,.g K,.g u] [.iS p d]->y0.aZ p I x.k x.n x.x J c.k c.n c.x K 0 0 0 u t.k t.n t.x f D λr H=>iJ (hx d.x x y c) (ia d.x x y c) r/\aj w H:=by
  intro t u f D z G e;refine⟨_,(ae e).c0,aJ (λY=>?_) (λY=>?_)⟩
  .refine eg e t f true (by omega) ?_ (λ_=>B.symm) (λhh _=>?_)
   .rw [z,Y];rfl
   .rw [z]at hh;simp only[Bool.and_eq_true]at hh;rw[G hh.1];unfold hx;rw[Y];rfl
  have aa:d.x.op=25:=by omega
  have E:hx d.x x y c=x:=by unfold hx;rw[aa];rfl
  have ff:f=false->dm d.x.op x y c=false:=λh=>by rw[aa];show(ek x&&af (y=bJ x.x)&&(af (c=hP x)||(x.k==3&&c.k==1&&af (c.n<=x.n))))=_;rw[<-z,h];rfl
  have ft:f=true->ek x=true/\dm d.x.op x y c=(if x.k=3 then c.k==1&&af (c.n<=x.n)else af (c=hP x)):=λh=>by rw[h]at z;have z:=z.symm;simp only[Bool.and_eq_true]at z;refine⟨z.1,?_⟩;rw[aa,UZ z.1,z.2,Bool.true_and]
  refine aJ (λq=>cK (λac=>e.ak λA j=>j.ax (iZ c A) ?_) (λab=>e.ak λA j=>eg j x _ true (by omega) (ff ab).symm (λ_=>B.symm) (λ_ _=>E.symm))) (λq=>cK (λac=>e.ak λA j=>eg j x _ true (by omega) ?_ (λ_=>B.symm) (λ_ _=>E.symm)) (λab=>e.ak λA j=>eg j x _ true (by omega) (ff ab).symm (λ_=>B.symm) (λ_ _=>E.symm)))
  .rintro _ O rfl F;have:=(ft ac).2;rw[aA q]at this;refine⟨_,rfl,aJ (λhz=>eg F x _ true (by omega) ?_ (λ_=>B.symm) (λ_ _=>E.symm)) (λhz=>eg F x _ true (by omega) ?_ (λ_=>B.symm) (λ_ _=>E.symm))⟩
   .rw [this,hz];rfl
   .rw [this,beq_eq_false_iff_ne.2 hz];rfl
  .have W:=ft ac;rw[aq q]at W;rw[W.2,jX,G W.1]
 have S0:∀(t:bt) (u:Nat) (D:C),(ek x=true->t=hP x)->Z F0 w D [.g I,.g T,.g J,.g K,.g u] [.iS p d]->y0.aS p I x.k x.n x.x T y.k y.n y.x J c.k c.n c.x K 0 0 0 u t.k t.n t.x D λr H=>iJ (hx d.x x y c) (ia d.x x y c) r/\aj w H:=by intro t u D G e;refine e.ak λA j=>j.ax (Ez x A) ?_;rintro _ O rfl F;refine⟨_,rfl,cK (λq=>F.ax (iY x.x O) ?_) (λq=>S1 t u false O (by rw[q];rfl) G F)⟩;rintro _ ad rfl P;exact⟨_,_,_,rfl,S1 t u _ ad (by rw[q];exact jX y (bJ x.x)) G P⟩
 refine⟨_,_,_,rfl,S.aN λu D e=>aJ (λq=>e.ak λA j=>j.ax (sQ x.n A) ?_) (λq=>e.ak λA j=>S0 (bJ x.n) u A (λha=>?_) j)⟩
 .rintro _ O rfl F;exact⟨_,_,_,rfl,F.ak λad P=>S0 (eW x.n) u ad (λ_=>by unfold hP;rw[aq (by omega)]) P⟩
 .unfold ek at ha;simp only[Bool.or_eq_true,beq_iff_eq]at ha;unfold hP;rw[aA (by omega)]
def zP(t:ByteArray):Prop:=∀c,ah V ya #[.string t] c λr d=>r=U (.bool (m0 t))/\aj c d
def Vl{w:C}{p:Addr}{d:Nd}{x y c:bt}(h:ei w p d)(ae:27<=d.x.op)(ag:d.x.op<=34)(al:nN x)(hy:nN y)(hz:nN c)(hN:d.x.op=33->zP d.x.tx):
  ah V Dj #[.pointer (some p),dO x,dO y,dO c] w λr w'=>iJ (hx d.x x y c) (ia d.x x y c) r/\aj w w':=by
 refine Mq.aB _ _ _ _ _ _ _ _ _ _ w _ ((w7 h).aN λb5 w1 H1=>H1.aN λb6 w2 H2=>H2.aN λb7 w3 H3=>H3.aN λb8 w4 I=>?_);obtain⟨⟨G,kids,D,m,J,H,st⟩,T⟩:=d;have N:∀{u:C} {L:List En},Z F0 w u L [.iS p ⟨⟨G,kids,D,m,J,H,st⟩,T⟩]->ei u p ⟨⟨G,kids,D,m,J,H,st⟩,T⟩:=λaa=>aa.getD 0;simp only at ae ag hN;refine⟨G,(N I).c0,?_⟩;obtain⟨am,an⟩:=al;obtain⟨ao,ap⟩:=hy;obtain⟨ar,au⟩:=hz;have ai:G=27\/G=28\/G=29\/G=30\/G=31\/G=32\/G=33\/G=34:=by omega
 rcases ai with rfl|rfl|rfl|rfl|rfl|rfl|rfl|rfl;all_goals repeat (first |refine bb rfl ?_|refine a8 rfl ?_)
 .refine I.ak λu z=>z.ax (iY 7 u) ?_;rintro _ A rfl j;refine⟨_,_,_,rfl,j.ax (iZ x A) ?_⟩;rintro _ F rfl e;exact⟨_,rfl,eg e (bJ 7) _ true (by simp) rfl (λ_=>rfl) (λ_ _=>rfl)⟩
 .have hr:jV ⟨28,kids,D,m,J,H,st⟩ x y c=(af (0<=D)&&af (D<=63)):=rfl;refine I.ak λu z=>⟨_,(N z).c2,z.ax (iY 8 u) ?_⟩;rintro _ A rfl j;refine⟨_,_,_,rfl,(N j).c2,j.ax (iZ x A) ?_⟩;rintro _ F rfl e;refine⟨_,rfl,(N e).c2,aQ (λQ=>⟨_,(N e).c2,eg e (bJ 8) _ _ (by simp) rfl (λ_=>?_) (λ_ _=>rfl)⟩) (λQ=>eg e (bJ 8) _ _ (by simp) rfl (λ_=>?_) (λ_ h=>by cases h))⟩
  .rw [hr,a0 (show 0<=D from Q),Bool.true_and];exact decide_eq_decide.2 (by show D<64↔D<=63;omega)
  .rw [hr,a2 (show ¬0<=D from Q)];rfl
 .have P:ad .i64 (x.n+y.n)=x.n+y.n:=bf _ (by omega);have B:dm 29 x y c=(x.k==1&&y.k==1):=rfl;refine I.ak λu z=>?_;rw[P];refine z.ax (sQ _ u) ?_;rintro _ A rfl j;refine⟨_,_,_,rfl,j.ax (iZ x A) ?_⟩;rintro _ F rfl e;refine⟨_,rfl,aJ (λq=>e.ax (iZ y F) ?_) (λq=>?_)⟩
  .rintro _ K rfl E;refine⟨_,rfl,eg E (eW (x.n+y.n)) _ _ (by simp) ?_ (λ_=>rfl) (λ_ _=>rfl)⟩;show _=dm 29 x y c;rw[B,q];rfl
  .refine eg e (eW (x.n+y.n)) _ _ (by simp) ?_ (λh=>by cases h) (λh _=>by cases h);show _=dm 29 x y c;rw[B,beq_eq_false_iff_ne.2 q];rfl
 .have B:dm 30 x y c=(x.k==1&&af (y=bJ 7)&&af (c=bJ 7)):=rfl;refine I.ak λu z=>z.ax (iZ x u) ?_;rintro _ A rfl j;refine⟨_,rfl,aJ (λq=>j.ax (iY 7 A) ?_) (λq=>eg j x _ true (by simp) ?_ (λ_=>rfl) (λ_ _=>rfl))⟩
  .rintro _ F rfl e;refine⟨_,_,_,rfl,mE (a:=y) (b:=bJ 7) (λM=>e.ax (iY 7 F) ?_) (λM=>eg e x _ true (by simp) ?_ (λ_=>rfl) (λ_ _=>rfl))⟩
   .rintro _ K rfl E;refine⟨_,_,_,rfl,eg E x _ true (by simp) ?_ (λ_=>rfl) (λ_ _=>rfl)⟩;show _=dm 30 x y c;rw[B,q,a0 M];exact jX c (bJ 7)
   .show _=dm 30 x y c;rw[B,a2 M,Bool.and_false];rfl
  .show _=dm 30 x y c;rw[B,beq_eq_false_iff_ne.2 q];rfl
 .have B:dm 31 x y c=(x.k==1&&y.k==1):=rfl;refine I.ak λu z=>z.ax (iY 7 u) ?_;rintro _ A rfl j;refine⟨_,_,_,rfl,j.ax (iZ x A) ?_⟩;rintro _ F rfl e;refine⟨_,rfl,aJ (λq=>e.ax (iZ y F) ?_) (λq=>?_)⟩
  .rintro _ K rfl E;refine⟨_,rfl,eg E (bJ 7) _ true (by simp) ?_ (λ_=>rfl) (λ_ _=>rfl)⟩;show _=dm 31 x y c;rw[B,q];rfl
  .refine eg e (bJ 7) _ true (by simp) ?_ (λ_=>rfl) (λ_ _=>rfl);show _=dm 31 x y c;rw[B,beq_eq_false_iff_ne.2 q];rfl
 .have P:ad .i64 (x.n+c.n)=x.n+c.n:=bf _ (by omega);have B:dm 32 x y c=(x.k==1&&y.k==1&&c.k==1):=rfl;refine I.ak λu z=>?_;rw[P];refine z.ax (sQ _ u) ?_;rintro _ A rfl j;refine⟨_,_,_,rfl,j.ax (iZ x A) ?_⟩;rintro _ F rfl e;have no:∀{K:C} {L:List En} {bs ab:List Nat},Z F0 w K L [.iS p ⟨⟨32,kids,D,m,J,H,st⟩,T⟩]->(∀b∈bs,En.g b∈L)->dm 32 x y c=false->cV ab V dC #[dO (eW (x.n+c.n)),.bool false,.bool (af (x.n+c.n<=64))] K λr u=>∃a b W Y:Int,r=U (.tuple #[.agg #[.i a,.i b,.i W],.i Y])/\loc bs u λA=>iJ (hx ⟨32,kids,D,m,J,H,st⟩ x y c) (ia ⟨32,kids,D,m,J,H,st⟩ x y c) (U (.tuple #[.agg #[.i a,.i b,.i W],.i Y]))/\aj w A:=λE hb hf=>eg E _ _ _ (by simp) hf.symm (λh=>by cases h) (λh _=>by cases h) hb;refine⟨_,rfl,aJ (λq=>e.ax (iZ y F) ?_) (λq=>no e (by simp) ?_)⟩
  .rintro _ K rfl E;refine⟨_,rfl,aJ (λS=>E.ax (iZ c K) ?_) (λS=>no E (by simp) ?_)⟩
   .rintro _ w9 rfl H9;refine⟨_,rfl,eg H9 (eW (x.n+c.n)) _ _ (by simp) ?_ (λ_=>rfl) (λ_ _=>rfl)⟩;show _=dm 32 x y c;rw[B,q,S];rfl
   .rw [B,beq_eq_false_iff_ne.2 S,Bool.and_false];rfl
  .rw [B,beq_eq_false_iff_ne.2 q];rfl
 .have B:dm 33 x y c=(x.k==1):=rfl;have ac:jV ⟨33,kids,D,m,J,H,st⟩ x y c=true:=rfl;refine I.ax (iZ x w4) ?_;rintro _ u rfl z;refine⟨_,rfl,eJ (λq=>z.ak λA j=>⟨⟨x,9,rfl,?_,λh=>?_⟩,j.fr⟩) (λq=>⟨H,(N z).c5,z.ax (hN rfl u) ?_⟩)⟩
  .unfold ia;rw[show dm (33:Int) x y c=false from q];rfl
  .unfold ia at h;rw[show dm (33:Int) x y c=false from q]at h;cases h
  .rintro _ A rfl j;have M:ia ⟨33,kids,D,m,J,H,st⟩ x y c=if m0 H=false then 2 else 0:=by unfold ia;rw[show dm (33:Int) x y c=true from q,ac];simp
   refine⟨_,rfl,eJ (λO=>j.ak λF e=>⟨⟨x,2,rfl,?_,λh=>?_⟩,e.fr⟩) (λO=>j.ax (iY 1 A) ?_)⟩
   .rw [M,aA O]
   .rw [M,aA O]at h;cases h
   .rintro _ F rfl e;exact⟨_,_,_,rfl,e.ak λK E=>⟨⟨bJ 1,0,rfl,by rw[M,aq (by rw[O];simp)],λ_=>rfl⟩,E.fr⟩⟩
 .refine I.ak λu z=>z.ax (sQ 1 u) ?_;rintro _ A rfl j;refine⟨_,_,_,rfl,j.ax (iY 8 A) ?_⟩;rintro _ F rfl e;exact⟨_,_,_,rfl,eg e (eW 1) _ true (by simp) (jX x (bJ 8)) (λ_=>rfl) (λ_ _=>rfl)⟩
def Qe(u n:Int)(h:0<=u)(k:0<=n)(w:n<64):((Int.fdiv u (2^(min (ae n) (IntKind.bits .u64)))) !=0)=af (2^n.toNat<=u):=by
 have e:min (ae n) (IntKind.bits .u64)=n.toNat:=by show min n.toNat 64=_;omega
 rw[e];have c:(0:Int)<2^n.toNat:=Int.pow_pos (by decide);generalize(2:Int)^n.toNat=q at c;have j:=Int.fdiv_eq_ediv_of_nonneg u (by omega:0<=q);rw[j];by_cases d:q<=u
 .rw [a0 d];have:1<=u / q:=by rw[Int.le_ediv_iff_mul_le c];omega
  simp only[bne_iff_ne,ne_eq];omega
 .rw [a2 d];rw[Int.ediv_eq_zero_of_lt h (by omega)];rfl
def Vi{w:C}{p:Addr}{d:Nd}(g:List Nx)(h:ei w p d)(P:1<=d.x.op)(h3:d.x.op<=3)(hu:0<=d.x.u):
  ah V Di #[.pointer (some p)] w λr T=>iJ (cH g d.x).1 (cH g d.x).2 r/\aj w T:=by
 refine ED.aB _ w _ ((w7 h).aN λF W y=>?_);have c:∀{z:C} {L:List En},Z F0 w z L [.iS p d]->ei z p d:=λaa=>aa.getD 0;have er:∀(t:bt) (e:Int) (z:C),e≠0->(cH g d.x)=(cZ,e)->Z F0 w z [.g F] [.iS p d]->loc [F] z λI=>iJ (cH g d.x).1 (cH g d.x).2 (U (.tuple #[.agg #[.i t.k,.i t.n,.i t.x],.i e]))/\aj w I:=λt e z h0 B N=>N.ak λI O=>⟨⟨t,e,rfl,by rw[B],λh=>by rw[B]at h;exact absurd h h0⟩,O.fr⟩;have ok:∀(t:bt) (z:C),(cH g d.x)=(t,0)->Z F0 w z [.g F] [.iS p d]->loc [F] z λI=>iJ (cH g d.x).1 (cH g d.x).2 (U (.tuple #[.agg #[.i t.k,.i t.n,.i t.x],.i 0]))/\aj w I:=λt z B N=>N.ak λI O=>⟨⟨t,0,rfl,by rw[B],λ_=>by rw[B]⟩,O.fr⟩;refine⟨_,(c y).c0,aJ (λJ=>?_) (λJ=>?_)⟩
 .refine ⟨_,(c y).c5,aQ (λhs=>⟨_,_,_,(c y).s0,(c y).s1,(c y).s2,er d.x.st 5 W (by decide) ?_ y⟩) (λhs=>⟨_,(c y).c5,y.ax (sQ _ W) ?_⟩)⟩
  .unfold cH;rw[aA J,aA (by omega)]
  .rintro _ H rfl q;refine⟨_,_,_,rfl,ok (eW d.x.tx.size) H ?_ q⟩;unfold cH;rw[aA J,aq (by omega)]
 have A:cH g d.x=if cb d.x.st=false then(cZ,9)else
   if d.x.op=1/\d.x.st.k≠0\/d.x.op=3/\ek d.x.st=false then(cZ,9)else
   if d.x.op=1/\kE d.x.u d.x.st.n=true then(cZ,5)else(d.x.st,0):=by
  unfold cH;rw[aq J,aq (λh=>by omega)];have:¬(d.x.op=0/\qH g d.x=true):=λh=>by omega
  simp only[this,if_false]
 refine⟨_,_,_,(c y).s0,(c y).s1,(c y).s2,y.ax (L8 d.x.st W) ?_⟩;rintro _ H rfl q;refine⟨_,rfl,Ee (λG=>⟨_,_,_,(c q).s0,(c q).s1,(c q).s2,?_⟩) (λG=>?_)⟩
 .have:gV d.x.st=9:=by unfold gV;rw[G];rfl
  rw[this];exact er d.x.st 9 H (by decide) (by rw[A,aA G]) q
 rw[aq (by rw[G];simp)]at A;refine⟨_,(c q).c0,aJ (λh3=>⟨_,_,_,(c q).s0,(c q).s1,(c q).s2,q.ax (Ez d.x.st H) ?_⟩) (λab=>?_)⟩
 .rintro _ E rfl j;refine⟨_,rfl,eJ (λQ=>⟨_,_,_,(c j).s0,(c j).s1,(c j).s2,er d.x.st 9 E (by decide) ?_ j⟩) (λQ=>⟨_,_,_,(c j).s0,(c j).s1,(c j).s2,ok d.x.st E ?_ j⟩)⟩
  .rw [A,aA (.inr ⟨h3,Q⟩)]
  .rw [A,aq (by rintro(h|h);omega;rw[Q]at h;cases h.2),aq (by rintro⟨h,_⟩;omega)]
 have P:d.x.op=1:=by omega
 refine⟨_,(c q).s0,cD (λM=>⟨_,_,_,(c q).s0,(c q).s1,(c q).s2,er d.x.st 9 H (by decide) ?_ q⟩) (λM=>q.ak λE j=>?_)⟩
 .rw [A,aA (.inl ⟨P,M⟩)]
 rw[aq (by rintro(h|h);exact h.2 M;omega)]at A;obtain⟨v1,v2,_⟩:=sV G M;have Y:cH g d.x=(d.x.st,0)->ED.aS p F 0 0 0 E λr T=>iJ (cH g d.x).1 (cH g d.x).2 r/\aj w T:=λB=>⟨_,_,_,(c j).s0,(c j).s1,(c j).s2,ok d.x.st E B j⟩;refine⟨_,(c j).s1,aQ (λK=>⟨_,(c j).c4,_,(c j).s1,by omega,?_⟩) (λK=>Y ?_)⟩
 .rw [Qe _ _ hu (by omega) K];refine aQ (λS=>⟨_,_,_,(c j).s0,(c j).s1,(c j).s2,er d.x.st 5 E (by decide) ?_ j⟩) (λS=>Y ?_)
  .rw [A,aA ⟨P,by unfold kE;rw[a0 K,a0 S];rfl⟩]
  .rw [A,aq];rintro⟨_,D⟩;unfold kE at D;rw[a2 S,Bool.and_false]at D;cases D
 .rw [A,aq];rintro⟨_,D⟩;unfold kE at D;rw[a2 K]at D;cases D
def rW(g:List Nx)(t:ByteArray):cQ:=match jw g t with
 |some s=>U (.tuple #[dO s,.bool true])
 |none=>U (.tuple #[dO cZ,.bool false])
def Vm{w:C}{p:Addr}{d:Nd}{D:List En}(g:List Nx)(F:Fv)(H:Z F0 w w [] (.iS p d::D))(hc:gx V F.n=true)(hl:∀B:C,(∀e∈D,e.P B)->ah V F.n (F.bs++#[.string d.x.tx]++F.cs) B λr ae=>r=rW g d.x.tx/\aj B ae)(h0:d.x.op=0):
  ah V Dk #[.pointer (some p),F.v] w λr B=>iJ (cH g d.x).1 (cH g d.x).2 r/\aj w B:=by
 have h:∀{q:C} {L:List En},Z F0 w q L (.iS p d::D)->ei q p d:=λH=>H.getD 0;have y:cH g d.x=if gg (bl d.x.tx)=false then(cZ,6)else if cb d.x.st=false then(cZ,9)else if qH g d.x=true then(cZ,8)else(d.x.st,0):=by unfold cH;rw[aq (by omega)];simp[h0]
 have fin:∀(e:Int) (q:C) (L:List En) (i:Nat) (b:Nat) (E c1 c2:ab),Z F0 w q L (.iS p d::D)->L[i]? =some (.c b [E,c1,c2] b3)->cH g d.x=(if e=0 then d.x.st else cZ,e)->qC q (ag b) (.i d.x.st.k) (.i d.x.st.n) (.i d.x.st.x) λT=>cG T (ag b) λa0 a1 a2=>iJ (cH g d.x).1 (cH g d.x).2 (U (.tuple #[.agg #[.i a0,.i a1,.i a2],.i e]))/\aj w T:=by
  intro e q L i b E c1 c2 u K J;refine u.Er i K λT I=>?_;have Q:(L.set i (.c b [Value.i d.x.st.k,.i d.x.st.n,.i d.x.st.x] b3))[i]? =some (.c b [Value.i d.x.st.k,.i d.x.st.n,.i d.x.st.x] b3):=by rw[List.getElem?_set_self (dh.1 K).1]
  refine⟨_,_,_,I.ld i 0 Q,I.ld i 1 Q,I.ld i 2 Q,⟨d.x.st,e,rfl,by rw[J],λaa=>?_⟩,I.fr⟩;rw[J]at aa ⊢;rw[aA aa]
 refine EE.ok p F w _ (H.nw λw1 _ W=>⟨_,(h W).c5,W.call (Vf d.x.tx w1) ?_⟩);rintro _ w2 rfl z;refine⟨_,rfl,eJ (λS=>⟨_,_,_,(h z).s0,(h z).s1,(h z).s2,fin 6 w2 _ 0 _ _ _ _ z rfl (by rw[y,aA S];rfl)⟩) (λS=>⟨_,_,_,(h z).s0,(h z).s1,(h z).s2,z.call (L8 d.x.st w2) ?_⟩)⟩;rw[aq (by rw[S];simp)]at y;rintro _ w3 rfl A;refine⟨_,rfl,Ee (λM=>⟨_,_,_,(h A).s0,(h A).s1,(h A).s2,?_⟩) (λM=>⟨_,(h A).c5,?_⟩)⟩
 .have:gV d.x.st=9:=by unfold gV;rw[M];rfl
  rw[this];exact fin 9 w3 _ 0 _ _ _ _ A rfl (by rw[y,aA M];rfl)
 rw[aq (by rw[M];simp)]at y;rw[hc];refine(show cF true _ from ?_);refine A.call (hl w3 (λe J=>A.rd e (eb _ J))) ?_;rintro _ w4 rfl Y;have G:∀(q:C) (L:List En) (E c1 c2:ab),Z F0 w q L (.iS p d::D)->L[0]? =some (.c w.heap.size [E,c1,c2] b3)->qH g d.x=false->EE.S0 p (ag w.heap.size) q λr B=>iJ (cH g d.x).1 (cH g d.x).2 r/\aj w B:=λq L E c1 c2 u K ht=>⟨_,_,_,(h u).s0,(h u).s1,(h u).s2,fin 0 q L 0 _ E c1 c2 u K (by rw[y,aq (by rw[ht];simp)];rfl)⟩;unfold qH at y G;unfold rW;cases hs:jw g d.x.tx with
 |none=>
  rw[hs]at y G;refine⟨cZ.k,cZ.n,cZ.x,false,rfl,Y.nw λq _ u=>u.Er 1 rfl λw8 O=>O.dr λN j=>bb rfl ?_⟩;exact G N _ _ _ _ j rfl rfl
 |some t=>
  rw[hs]at y G;refine⟨t.k,t.n,t.x,true,rfl,Y.nw λq _ u=>u.Er 1 rfl λw8 O=>O.dr λN j=>a8 rfl ⟨_,_,_,j.ld 1 0,j.ld 1 1,j.ld 1 2,_,_,_,(h j).s0,(h j).s1,(h j).s2,vo (a:=t) (b:=d.x.st) (λad=>⟨_,_,_,(h j).s0,(h j).s1,(h j).s2,fin 8 N _ 0 _ _ _ _ j rfl ?_⟩) (λac=>G N _ _ _ _ j rfl ?_)⟩⟩
  .rw [y,aA (by simp[ad])];rfl
  .simp [ac]
def w3:List Int:=[0,0,0,0,1,1,2,2,2,2,2,2,2,2,2,2,2,2,2,3,2,1,1,1,2,3,2,1,1,2,3,2,3,1,1]
abbrev dd:En:=.rd ⟨some (ag 1),35,35⟩ (w3.map bd)
def Rr{op:Int}(c:0<=op)(d:op<=34):w3[op.toNat]? =some (cS op):=by rcases sa c d with rfl|rfl|rfl|rfl|rfl|rfl|rfl|rfl|rfl|rfl|rfl|rfl|rfl|rfl|rfl|rfl|rfl|rfl|rfl|rfl|rfl|rfl|rfl|rfl|rfl|rfl|rfl|rfl|rfl|rfl|rfl|rfl|rfl|rfl|rfl<;>rfl
section
variable {M:Nat->Prop} {w0 w:C} {L D:List En} {bs:List Nat}
def _root_.Go.W.Z.qD(H:Z M w0 w L D)(i a c:Nat){b:Nat}{vs:List ab}{T:aF}{v:ab}{K:C->Prop}(hi:L[i]? =some (.c b vs T))(q:∀h,Z M w0 h (L.set i (.c b (vs.set (a+c) v) T)) D->K h)(u:a+c<vs.length:=by simp[gm])(bZ:∀b∈bs,En.g b∈L:=by simp):
  ao w (((ag b).add a).add c) v λj=>kept bs w j/\K j:=by rw[add_add];obtain⟨x,y,A,z⟩:=yK (H.ob i hi) (a+c) (by omega) v;obtain⟨_,_,n⟩:=H.set (v:=v) i (a+c) hi u;refine⟨x,y,λd e=>?_,q _ n⟩;refine z.cA d (H.own _ (bZ d e)) λk=>?_;have:=pR H hi (wu w b vs T) (bZ d e);exact this (by rw[k];exact po.2 rfl)
def _root_.Go.W.Z.Ev(H:Z M w0 w L D)(i a:Nat){b:Nat}{vs:List ab}{T:aF}{v:ab}{K:C->Prop}(hi:L[i]? =some (.c b vs T))(h:∀d,Z M w0 d (L.set i (.c b (vs.set a v) T)) D->K d)(j:a<vs.length:=by simp[gm])(bZ:∀b∈bs,En.g b∈L:=by simp):
  ao w ((ag b).add a) v λe=>kept bs w e/\K e:=by
 have:=H.qD (v:=v) (K:=K) i a 0 hi h j bZ
 rwa[kD]at this
end
def UF{g:List Nx}{n:Nx}(h:(cS n.op==(n.kids.length:Int)&&n.kids.all (fv g)&&iT n)=true)(c:¬n.op<=3):ck g n=if ia n (b0 g n 0) (b0 g n 1) (b0 g n 2)≠0 then(cZ,ia n (b0 g n 0) (b0 g n 1) (b0 g n 2))else(hx n (b0 g n 0) (b0 g n 1) (b0 g n 2),0):=by
 unfold ck ia;rw[h,aq (by simp),aq c]
 grind
def RJ{g:List Nx}{n:Nx}(h:(cH g n).2≠0):cH g n=(cZ,(cH g n).2):=by
 unfold cH at h ⊢
 grind
structure q9(d:Nx):Prop where
 kl:d.kids.length<=1000000000
 n:bn d.n
 m:bn d.m
 u:0<=d.u
 tx:d.op=33->zP d.tx
abbrev tM(a b c:bt):List ab:=gm a++gm b++gm c
def lX(g:List Nx)(n:Nx)(i j:Nat):bt:=if j<i then b0 g n j else cZ
def RF{g:List Nx}{n:Nx}{j:Nat}(h:n.kids.length<=j):b0 g n j=cZ:=by
 unfold b0
 grind
def RE{l:List Nd}{n:Nx}{i:Nat}{k:Int}{e:Nd}(d:n.kids[i]? =some k)(c:l[k.toNat]? =some e):b0 (xs l) n i=e.x.st:=by
 unfold b0
 grind
def RD{g:List Nx}{n:Nx}(e:∀c∈g,cb c.st=true)(j:Nat):nN (b0 g n j):=by
 unfold b0;split
 .split
  .rename_i d;exact VE (e _ (aE d))
  .exact Jy
 .exact Jy
def Vk{w:C}{s:J}{l:List Nd}{d:Nd}{D:List En}(Y:Fv)(H:Z F0 w w [] (.gr s l::dY d::dd::D))(hc:gx V Y.n=true)(hl:∀A:C,(∀e∈D,e.P A)->ah V Y.n (Y.bs++#[.string d.x.tx]++Y.cs) A λr aF=>r=rW (xs l) d.x.tx/\aj A aF)(ho:q9 d.x)(aS:l.length<=1000000000)(hv:∀e∈xs l,cb e.st=true):
  ah V De #[s.v,d.v,Y.v] w λr A=>r=gk (ck (xs l) d.x)/\aj w A:=by
 have hn:=g0 (bU.1 (H.getD 0));have aT:(xs l).length=l.length:=by grind
 have aP:d.ks.n=d.x.kids.length:=bo.len (H.getD 1);have aO:=ho.kl;refine oW.aB s _ _ _ _ _ _ _ _ _ Y w _ (H.nw λw1 _ H1=>H1.aN λK w2 H2=>H2.ak λO G=>?_);have y:∀{F:C} {L:List En},Z F0 w F (.c w.heap.size d.c bV::L) (.gr s l::dY d::dd::D)->ei F (ag w.heap.size) d:=λH=>ye (H.ob 0);have G:Z F0 w O [.c w.heap.size d.c bV,.g K] (.gr s l::dY d::dd::D):=G;have fail:(cS d.x.op==(d.x.kids.length:Int)&&d.x.kids.all (fv (xs l))&&iT d.x)=false->∀{F:C} {L:List En} {bs:List Nat},Z F0 w F L (.gr s l::dY d::dd::D)->(∀b∈bs,En.g b∈L)->loc bs F λQ=>(λr A=>r=gk (ck (xs l) d.x)/\aj w A) (U (.tuple #[.agg #[.i 0,.i 0,.i 0],.i 1])) Q:=λhf _ _ _ B hb=>B.ak (λQ I=>⟨by unfold ck;rw[aA hf];rfl,I.fr⟩) hb;have kN:∀al:Int,al<0\/34<al->cS al=-1:=λal aH=>by unfold cS;omega
 refine⟨_,(y G).c0,aQ (λh0=>fail ?_ G (by simp)) (λh0=>⟨_,(y G).c0,aQ (λaC=>fail ?_ G (by simp)) (λaC=>⟨_,(y G).c1,_,(y G).c0,by omega,by omega,cS d.x.op,?_,cD (λai=>fail ?_ G (by simp)) (λaK=>?_)⟩)⟩)⟩
 .grind
 .grind
 .have hk:bo O ⟨some (ag 1),35,35⟩ w3:=G.getD 2;exact(show W.cd (some (ag 1)) λp=>O.cell? (p.add (ae d.x.op *1))=some (.int .i64 (cS d.x.op))from hk.cell (Rr (by omega) (by omega)) rfl λp _ hc=>hc)
 .grind
 have aM:(cS d.x.op==(d.x.kids.length:Int))=true:=by grind
 have aL:d.x.kids.length<=3:=by
  have:cS d.x.op<=3:=by unfold cS;omega
  omega
 refine G.nw λw4 _ H4=>⟨_,(y H4).c1,?_⟩;have loop:∀(m i:Nat) (F:C),i+m=d.x.kids.length->d.x.kids.all (fv (xs l))=(d.x.kids.drop i).all (fv (xs l))->Z F0 w F [.c w.heap.size d.c bV,.g K,.c O.heap.size (tM (lX (xs l) d.x i 0) (lX (xs l) d.x i 1) (lX (xs l) d.x i 2)) vJ] (.gr s l::dY d::dd::D)->
   oW.bO s Y (ag w.heap.size) K 0 0 0 (ag O.heap.size) ((d.ks.n:Nat):Int) (i:Int) F λr A=>r=gk (ck (xs l) d.x)/\aj w A:=by
  intro m;induction m with
  |zero=>
   intro i F hi aa B;rw[c9 (by omega)]at aa;have e0:∀N,lX (xs l) d.x i N=b0 (xs l) d.x N:=λN=>by
    unfold lX;split
    .rfl
    .exact (RF (by omega)).symm
   rw[e0,e0,e0]at B;refine oW.eh _ _ _ _ _ _ _ _ _ _ _ _ (bb (a2 (by omega)) (B.ax (Ve (y B)) ?_));rintro _ Q rfl I;refine⟨_,rfl,eJ (λhf=>fail (by grind) I (by simp)) (λhf=>I.aN λaf w7 h=>?_)⟩;have ar:(cS d.x.op==(d.x.kids.length:Int)&&d.x.kids.all (fv (xs l))&&iT d.x)=true:=by grind
   have h:Z F0 w w7 [.c w.heap.size d.c bV,.g K,.c O.heap.size (tM (b0 (xs l) d.x 0) (b0 (xs l) d.x 1) (b0 (xs l) d.x 2)) vJ,.g af] (.gr s l::dY d::dd::D):=h;have fin:∀(T:bt) (E:Int) (t:bt) (e:Int) (j:C),ck (xs l) d.x=(if E≠0 then(cZ,E)else(T,0))->e=E->(E=0->t=T)->Z F0 w j [.c w.heap.size d.c bV,.g K,.c O.heap.size (tM (b0 (xs l) d.x 0) (b0 (xs l) d.x 1) (b0 (xs l) d.x 2)) vJ,.g af] (.gr s l::dY d::dd::D)->
     loc [K,af] j λw9=>oW.be K 0 0 0 af t.k t.n t.x e w9 λr A=>r=gk (ck (xs l) d.x)/\aj w A:=by
    intro T E t e j hs z M q;subst z;refine q.ak λw9 H9=>cD (λai=>H9.ak λaG an=>⟨by rw[hs,aA ai];rfl,an.fr⟩) (λh0=>H9.ak λaG an=>⟨?_,an.fr⟩)
    grind
   have az:d.x.op<=3->ck (xs l) d.x=(if(cH (xs l) d.x).2≠0 then(cZ,(cH (xs l) d.x).2)else((cH (xs l) d.x).1,0)):=λh3=>by
    unfold ck;rw[ar,aq (by simp),aA h3];split
    .rename_i ai;exact RJ ai
    grind
   have ac:=λN=>RD (n:=d.x) hv N;refine⟨_,(y h).c0,aJ (λau=>?_) (λau=>⟨_,(y h).c0,aQ (λap=>?_) (λap=>⟨_,(y h).c0,aQ (λav=>?_) (λav=>⟨_,(y h).c0,aQ (λaw=>?_) (λaw=>?_)⟩)⟩)⟩)⟩
   .have Hv:Z F0 w7 w7 [] (.iS (ag w.heap.size) d::D):=bN _ (by
     intro e z;rcases ay.1 z with rfl|z
     .exact y h
     .exact h.rd e (eb _ (eb _ (eb _ z))))
    refine h.ax (Vm (xs l) Y Hv hc hl au) ?_;rintro _ j ⟨t,e,rfl,z,M⟩ q;exact⟨_,_,_,_,rfl,fin _ _ t e j (az (by omega)) z M q⟩
   .refine h.ax (Vi (xs l) (y h) (by omega) ap ho.u) ?_;rintro _ j ⟨t,e,rfl,z,M⟩ q;exact⟨_,_,_,_,rfl,fin _ _ t e j (az ap) z M q⟩
   all_goals
    have rest:=UF ar (by omega);have S:∀(a c:Nat) (v:ab),(tM (b0 (xs l) d.x 0) (b0 (xs l) d.x 1) (b0 (xs l) d.x 2))[a+c]? =some v->w7.cell? (((ag O.heap.size).add a).add c)=some v:=λa c v hv=>by rw[add_add];exact h.ld 2 (a+c) rfl hv
    refine⟨by omega,by decide,(b0 (xs l) d.x 0).k,(b0 (xs l) d.x 0).n,(b0 (xs l) d.x 0).x,S 0 0 _ rfl,S 0 1 _ rfl,S 0 2 _ rfl,by omega,by decide,(b0 (xs l) d.x 1).k,(b0 (xs l) d.x 1).n,(b0 (xs l) d.x 1).x,S 3 0 _ rfl,S 3 1 _ rfl,S 3 2 _ rfl,by omega,by decide,(b0 (xs l) d.x 2).k,(b0 (xs l) d.x 2).n,(b0 (xs l) d.x 2).x,S 6 0 _ rfl,S 6 1 _ rfl,S 6 2 _ rfl,?_⟩
   .refine h.ax (Vd (y h) (by omega) av (ac 0) (ac 1) ho.n ho.m) ?_;rintro _ j ⟨t,e,rfl,z,M⟩ q;exact⟨_,_,_,_,rfl,fin _ _ t e j rest z M q⟩
   .refine h.ax (Vc (y h) (by omega) aw) ?_;rintro _ j ⟨t,e,rfl,z,M⟩ q;exact⟨_,_,_,_,rfl,fin _ _ t e j rest z M q⟩
   .refine h.ax (Vl (y h) (by omega) (by omega) (ac 0) (ac 1) (ac 2) ho.tx) ?_;rintro _ j ⟨t,e,rfl,z,M⟩ q;exact⟨_,_,_,_,rfl,fin _ _ t e j rest z M q⟩
  |succ m ih=>
   intro i F hi aa B;have hg:d.x.kids[i]? =some (d.x.kids[i]'(by omega)):=a9 (by omega);rw[dZ (by omega:i<d.x.kids.length),List.all_cons]at aa;generalize d.x.kids[i]'(by omega)=x at hg aa;have bad:fv (xs l) x=false->oW.aY K 0 0 0 F λr A=>r=gk (ck (xs l) d.x)/\aj w A:=λhx=>fail (by grind) B (by simp);refine oW.eh _ _ _ _ _ _ _ _ _ _ _ _ (a8 (a0 (by omega)) ⟨_,(y B).c1,by omega,by omega,(show bo F d.ks d.x.kids from B.getD 1).cell hg (by omega) λp hp aD=>⟨x,aD,aQ (λh1=>bad ?_) (λh1=>aQ (λh2=>bad ?_) (λh2=>?_))⟩⟩)
   .unfold fv;grind
   .unfold fv;grind
   have ao:l[x.toNat]? =some (l[x.toNat]'(by omega)):=a9 (by omega);generalize l[x.toNat]'(by omega)=e at ao;have aR:=RE hg ao;refine gN (bU.1 (B.getD 0)) (i:=x.toNat) (by omega) ao λaU hq c=>⟨_,_,_,c.s0,c.s1,c.s2,by omega,by omega,?_⟩;have aI:d.x.kids.all (fv (xs l))=(d.x.kids.drop (i+1)).all (fv (xs l)):=by
    rw[aa];unfold fv
    grind
   have am:∀Q,Z F0 w Q [.c w.heap.size d.c bV,.g K,.c O.heap.size (tM (lX (xs l) d.x (i+1) 0) (lX (xs l) d.x (i+1) 1) (lX (xs l) d.x (i+1) 2)) vJ] (.gr s l::dY d::dd::D)->oW.bO s Y (ag w.heap.size) K 0 0 0 (ag O.heap.size) ((d.ks.n:Nat):Int) (ad .i64 ((i:Int)+1)) Q λr A=>r=gk (ck (xs l) d.x)/\aj w A:=λQ I=>by
    rw[bA _ (by omega)]
    grind
   have aE:i=0\/i=1\/i=2:=by omega
   have up:∀N,lX (xs l) d.x (i+1) N=if N=i then e.x.st else lX (xs l) d.x i N:=λN=>by
    unfold lX
    grind
   rw[up 0,up 1,up 2]at am;rcases aE with rfl|rfl|rfl
   .exact B.Ev 2 0 rfl λQ I=>I.qD 2 0 1 rfl λw7 h=>h.qD 2 0 2 rfl λj q=>am j q
   .exact B.Ev 2 3 rfl λQ I=>I.qD 2 3 1 rfl λw7 h=>h.qD 2 3 2 rfl λj q=>am j q
   .exact B.Ev 2 6 rfl λQ I=>I.qD 2 6 1 rfl λw7 h=>h.qD 2 6 2 rfl λj q=>am j q
 exact loop d.x.kids.length 0 w4 (by omega) (by simp) H4
def QW{w:C}{s:J}{l:List Nd}(h:GP w s l){i:Nat}{d:Nd}(hi:l[i]? =some d){K:Addr->Prop}{X:Int}(e:X=(i:Int))(k:∀p,s.a=some p->ei w (p.add (ae X *9)) d->K p):aw s X K:=by have u:=g0 h;have q:=(dh.1 hi).1;subst e;exact⟨by omega,by omega,eY.elem (f:=Nd.c) (sz:=9) Nd.jE (by omega) h.1.2.2 hi λp n j=>k p n j⟩
abbrev kA(d:Nat)(s:J)(mp mv:Nat)(l:List Nd)(hV:Array MapEntry)(c1:Nat)(ho:Array MapEntry)(c2:Nat):List En:=
 [.c d [s.v,.map (some mp),.map (some mv)] qI,.row bV 9 s (l.flatMap Nd.c),.ob mp (.map hV c1),.ob mv (.map ho c2)]
def hD(w:C)(c:Nat)(l:List Nd)(own:List Nat):Prop:=∃(s:J) (mp mv:Nat) (hV:Array MapEntry) (c1:Nat) (ho:Array MapEntry) (c2:Nat),own=(kA c s mp mv l hV c1 ho c2).flatMap (·.fp)/\own.Nodup/\(∀d∈kA c s mp mv l hV c1 ho c2,d.P w)/\jC hV (iD (xs l) 0)/\jC ho (h4 (xs l))
def qR(w:C)(e:Nat)(own:List Nat)(l:List Nd)(w':C):Prop:=∃c,hD w' e l c/\Fr (·∈own) w w'/\∀d∈c,d∈own\/w.heap.size<=d
def hD.open{w:C}{e:Nat}{l:List Nd}{own:List Nat}(h:hD w e l own)(D:List En)(k:∀c∈D,c.P w/\∀b∈c.fp,b∉own):
  ∃(s:J) (mp mv:Nat) (hV:Array MapEntry) (c1:Nat) (ho:Array MapEntry) (c2:Nat),jC hV (iD (xs l) 0)/\jC ho (h4 (xs l))/\Z (·∈own) w w (kA e s mp mv l hV c1 ho c2) D:=by
 obtain⟨s,mp,mv,hV,c1,ho,c2,q,E,z,x,y⟩:=h;have n:∀c∈kA e s mp mv l hV c1 ho c2,∀b∈c.fp,b∈own:=λc d b j=>by rw[q];exact cj.2 ⟨c,d,j⟩
 exact⟨s,mp,mv,hV,c1,ho,c2,x,y,Z.sK _ _ (λc d=>⟨z c d,n c d⟩) (q▸E) (λc d=>⟨(k c d).1,λb j u A B=>(k c d).2 b j (n u A b B)⟩)⟩
def hD.close{w w':C}{c:Nat}{l:List Nd}{own:List Nat}{s:J}{mp mv:Nat}{hV:Array MapEntry}{c1:Nat}{ho:Array MapEntry}{c2:Nat}{D:List En}(H:Z (·∈own) w w' (kA c s mp mv l hV c1 ho c2) D)(e:jC hV (iD (xs l) 0))(h:jC ho (h4 (xs l))):qR w c own l w':=
 ⟨_,⟨s,mp,mv,hV,c1,ho,c2,rfl,H.nd,H.own,e,h⟩,H.fr,λq n=>by obtain⟨d,k,j⟩:=cj.1 n;exact(H.new d k q j).symm⟩
def Jc:v5 V EN da bp (.int .i64 0):=⟨by kernel_rfl,by kernel_rfl,by kernel_rfl⟩
def Jd:v5 V EM da b3 (.agg #[.int .i64 0,.int .i64 0,.int .i64 0]):=⟨by kernel_rfl,by kernel_rfl,by kernel_rfl⟩
def _root_.Go.W.En.cl(p:Addr)(v:ab):En:=⟨[p.block],λd=>d.cell? p=some v,λd k h c=>by have j:=m3 c;unfold World.cell? at c ⊢;rw[h p.block (by simp) j];exact c,λd c b e=>by simp at e;subst e;exact m3 c,by simp⟩
def R3{l:List Nd}(t:ByteArray):∃(a b c:Int) (y:Bool),((jn (h4 (xs l)) t).getD (.agg #[.int .i64 0,.int .i64 0,.int .i64 0]))=.agg #[.i a,.i b,.i c]/\(jn (h4 (xs l)) t).isSome=y/\rW (xs l) t=U (.tuple #[.agg #[.i a,.i b,.i c],.bool y]):=by
 rw[EY];unfold rW;cases jw (xs l) t with
 |none=>exact⟨0,0,0,false,rfl,rfl,rfl⟩
 |some s=>exact⟨s.k,s.n,s.x,true,rfl,rfl,rfl⟩
def NT{w:C}{d:Nat}{l:List Nd}{s:J}{mp mv:Nat}{hV:Array MapEntry}{c1:Nat}{ho:Array MapEntry}{c2:Nat}{j:Addr}(h:∀k∈kA d s mp mv l hV c1 ho c2,k.P w)(B:jC ho (h4 (xs l)))(D:w.cell? j=some (.pointer (some (ag d))))(t:ByteArray):
  ah V x' #[.string t,.pointer (some j)] w λr E=>r=rW (xs l) t/\aj w E:=by
 have n:Z F0 w w [] (kA d s mp mv l hV c1 ho c2++[.cl j (.pointer (some (ag d)))]):=bN _ (by
  intro k c;rcases a6.1 c with c|c
  .exact h k c
  .simp only[ay,aW,a3]at c;subst c;exact D)
 obtain⟨a,b,x,F,y,z,A⟩:=R3 (l:=l) t;refine Mi.aB t j w _ (n.aN λG I e=>⟨_,e.getD 4,qo ⟨some mv,cellAt (p:=ag d) (e.getD 0) rfl rfl,a,b,x,F,?_,e.aN λH K q=>q.ak λL u=>⟨A.symm,u.fr⟩⟩⟩);rw[I6 Jd (e.getD 3) B t,y,z]
def NV{w:C}{n:Nat}{l:List Nd}{own:List Nat}{d:Nd}(h:hD w n l own)(S:∀k∈l,k.P w)(O:d.P w)(Q:dd.P w)(W:q9 d.x)(T:l.length<=1000000000)(hv:∀k∈xs l,cb k.st=true):
  ah V Da #[.pointer (some (ag n)),d.v] w λr E=>r=gk (ck (xs l) d.x)/\aj w E:=by
 obtain⟨s,mp,D,y,q,z,u,_,_,A,_,N⟩:=h;have Y:aG w bV 9 s (l.flatMap Nd.c):=A _ (aE (i:=1) rfl);have G:Z F0 w w [] (kA n s mp D l y q z u++[.gr s l,dY d,dd]):=bN _ (by
  intro k j;rcases a6.1 j with j|j
  .exact A k j
  .simp only[ay,aW,a3]at j;rcases j with rfl|rfl|rfl
   .exact bU.2 ⟨Y.bh,S⟩
   .exact O
   .exact Q)
 refine Mh.aB _ _ _ _ _ _ _ _ _ _ w _ (G.nw λw1 _ H=>H.aN λb3 w2 I=>I.aN λb4 w3 J=>J.ak λF e=>⟨_,e.jO 0,qo ⟨s,cellAt (p:=ag n) (e.getD 0) rfl rfl,?_⟩⟩);have M:Z F0 F F [] (.gr s l::dY d::dd::(kA n s mp D l y q z u++[.cl (ag w.heap.size) (.pointer (some (ag n)))])):=bN _ (by
  intro k j;simp only[iF,h0,ay,aW,a3]at j;rcases j with rfl|rfl|rfl|rfl|rfl|rfl|rfl|rfl
  .exact e.getD 4
  .exact e.getD 5
  .exact e.getD 6
  .exact e.getD 0
  .exact e.getD 1
  .exact e.getD 2
  .exact e.getD 3
  .exact e.jO 0)
 refine e.ax (Vk ⟨x',#[],#[.pointer (some (ag w.heap.size))]⟩ M (by kernel_rfl) (λE B=>?_) W T hv) ?_
 .exact NT (λk j=>B k (List.mem_append_left _ j)) N (B (.cl (ag w.heap.size) (.pointer (some (ag n)))) (by simp)) d.x.tx
 .rintro _ w5 rfl K;exact⟨_,_,_,_,rfl,K.ak λw6 L=>⟨rfl,L.fr⟩⟩
def na(g:List Nx)(n:Nx):Int×Bool:=match gO n g 0 with
 |some i=>((i:Int),true)
 |none=>(0,false)
def find_eq{g:List Nx}{n:Nx}(d:0<=n.u)(e:∀c∈g,0<=c.u):(jn (iD g 0) (jM n)).getD (.int .i64 0)=.i (na g n).1/\(jn (iD g 0) (jM n)).isSome=(na g n).2:=by
 rw[DM d e];unfold na;cases gO n g 0 with
 |none=>exact⟨rfl,rfl⟩
 |some i=>exact⟨rfl,rfl⟩
def NS{w:C}{e:Nat}{l:List Nd}{own:List Nat}{d:Nd}(h:hD w e l own)(I:d.P w)(W:lj d.x)(J:∀n∈xs l,0<=n.u):
  ah V C' #[.pointer (some (ag e)),d.v] w λr L=>r=U (.tuple #[.i (na (xs l) d.x).1,.bool (na (xs l) d.x).2])/\aj w L:=by
 obtain⟨s,mp,K,E,z,F,A,_,_,H,G,_⟩:=h;have q:Z F0 w w [] (kA e s mp K l E z F A++[dY d]):=bN _ (by
  intro n c;rcases a6.1 c with c|c
  .exact H n c
  .simp only[ay,aW,a3]at c;subst c;exact I)
 refine Mg.ok _ _ _ _ _ _ _ _ _ _ w _ (q.nw λM _ y=>y.dr λN j=>⟨some mp,cellAt (p:=ag e) (j.getD 0) rfl rfl,j.call (L' (d:=d) (ye (j.ob 0)) (j.getD 4) W) ?_⟩);rintro _ O rfl k;obtain⟨B,D⟩:=find_eq W.u.1 J;refine⟨_,rfl,cellAt (p:=ag e) (k.getD 0) rfl rfl,(na (xs l) d.x).1,(na (xs l) d.x).2,?_,rfl,k.fr⟩;have:=I6 Jc (k.getD 2) G (jM d.x);rw[B,D]at this;exact this
def FK{w:C}{z:Nat}{l:List Nd}{own:List Nat}{d:Nd}(h:hD w z l own)(hd:d.P w)(af:∀b∈(dY d).fp,b∉own)(W:lj d.x)(hu:∀A∈xs l,0<=A.u)(hl:l.length<=100000)(ai:d.x∉xs l)(ak:d.x.op=0->jw (xs l) d.x.tx=none):
  ah V x9 #[.pointer (some (ag z)),d.v] w λr Y=>r=U (.i (l.length:Int))/\qR w z own (l++[d]) Y:=by
 obtain⟨s,mp,H,am,L,ae,N,h1,h2,aa⟩:=h.open [dY d] (by intro A he;simp only[ay,aW,a3]at he;subst he;exact⟨hd,af⟩)
 have hn:s.n=l.length:=Nd.cu (show bF 9 w s (l.flatMap Nd.c)from(show aG w bV 9 s (l.flatMap Nd.c)from aa.get 1).bh);have g1:jn (iD (xs l) 0) (jM d.x)=none:=by
  rw[DM W.u.1 hu];cases hi:gO d.x (xs l) 0 with
  |none=>rfl
  |some i=>
   have:=(uo hi).2;exact absurd (aE this) ai
 have ac:xs (l++[d])=xs l++[d.x]:=by simp[xs]
 have p1:iD (xs (l++[d])) 0=iD (xs l) 0++[(jM d.x,.i (l.length:Int))]:=by rw[ac,J6];simp[xs]
 have p2:h4 (xs (l++[d]))=h4 (xs l)++(if d.x.op=0 then[(d.x.tx,dO d.x.st)]else[]):=by rw[ac,MI]
 have ab:∀(F:Array MapEntry) (M:Nat) (y:Array MapEntry) (O S:Nat) (J:C),jC F (iD (xs (l++[d])) 0)->jC y (h4 (xs (l++[d])))->Z (·∈own) w J (kA z s mp H l F M y O++[.c S d.c bV]) [dY d]->
   EB.S0 (ag z) (ag S) J λr Y=>r=U (.i (l.length:Int))/\qR w z own (l++[d]) Y:=by
  intro F M y O S J I q2 K;refine K.dr λw2 e=>⟨s,e.ld 0 0,?_⟩;refine⟨d.x.op,d.ks,d.x.n,d.x.m,d.x.u,d.x.tx,d.x.st.k,d.x.st.n,d.x.st.x,e.ld 4 0,e.ld 4 1,e.ld 4 2,e.ld 4 3,e.ld 4 4,e.ld 4 5,e.ld 4 6,e.ld 4 7,e.ld 4 8,e.nw λw3 _ j=>⟨j.ld 0 0,?_⟩⟩;have ad:bF 9 w3 ⟨some (ag w2.heap.size),1,1⟩ ([d].flatMap Nd.c):=by rw[show[d].flatMap Nd.c=d.c by simp];exact pk (T:=bV) (j.ob 5) rfl
  refine j.ap 1 ja (src:=⟨some (ag w2.heap.size),1,1⟩) rfl ad.2.2 ad.1 lK (by simp only;omega) (λs' w4 B aj _=>B.st 0 0 rfl (λw5 q=>⟨s',q.ld 0 0,?_⟩));refine⟨?_,hD.close (s:=s') (mp:=mp) (mv:=H) (hV:=F) (c1:=M) (ho:=y) (c2:=O) (D:=[dY d]) ?_ I q2⟩
  .rw [aj,bf _ (by simp only;omega)];simp only;rw[hn];congr 2;omega
  .have:=q.take 4;unfold kA;rw[show(l++[d]).flatMap Nd.c=l.flatMap Nd.c++[d].flatMap Nd.c from ea];exact this
 refine EB.ok _ _ _ _ _ _ _ _ _ _ w _ (aa.nw λJ _ K=>K.dr λw2 e=>⟨some mp,e.ld 0 1,s,e.ld 0 0,e.call (L' (d:=d) (ye (e.ob 4)) (e.getD 0) W) ?_⟩);rintro _ w3 rfl j;obtain⟨w4,E,u1,u2,u3,u4,_⟩:=MF Jc (j.ob 2) h1 (jM d.x) (.i ((s.n:Nat):Int)) g1;have B:=j.g' 2 (.ob mp (.map E (L+1))) rfl (u4.mono λal _ A=>by simp[En.ob,A]) u2 (λb Q=>.inl Q);have I:jC E (iD (xs (l++[d])) 0):=by rw[p1,<-hn];exact u3
 refine⟨_,rfl,j.ld 0 0,j.ld 0 1,w4,u1,d.x.op,B.ld 4 0,aJ (λG=>?_) (λG=>?_)⟩
 .refine B.dr λw5 q=>⟨some H,q.ld 0 2,d.x.tx,q.ld 4 5,?_⟩;have g2:jn (h4 (xs l)) d.x.tx=none:=by rw[EY,ak G];rfl
  obtain⟨w6,y,v1,v2,v3,v4,_⟩:=MF Jd (q.ob 3) h2 d.x.tx (dO d.x.st) g2;have H6:=q.g' 3 (.ob H (.map y (N+1))) rfl (v4.mono λal _ A=>by simp[En.ob,A]) v2 (λb Q=>.inl Q);have a:=ye (d:=d) (q.ob 4);refine⟨d.x.st.k,d.x.st.n,d.x.st.x,a.s0,a.s1,a.s2,w6,v1,ab E (L+1) y (N+1) w.heap.size w6 I ?_ H6⟩;rw[p2,aA G];exact v3
 .refine ab E (L+1) ae N w.heap.size w4 I ?_ B;rw[p2,aq G,List.append_nil];exact h2
def hD.st{w w':C}{d:Nat}{l:List Nd}{own:List Nat}(h:hD w d l own)(k:∀b∈own,b<w.heap.size->w'.heap[b]? =w.heap[b]?):hD w' d l own:=by obtain⟨s,mp,F,u,n,x,q,j,E,A,y,z⟩:=h;exact⟨s,mp,F,u,n,x,q,j,E,λc e=>c.st w w' (λb B D=>k b (by rw[j];exact cj.2 ⟨c,e,B⟩) D) (A c e),y,z⟩
def hD.lt{w:C}{e:Nat}{l:List Nd}{own:List Nat}(h:hD w e l own):∀b∈own,b<w.heap.size:=by obtain⟨s,mp,D,x,q,y,u,n,B,j,z,A⟩:=h;intro b c;rw[n]at c;obtain⟨d,k,c⟩:=cj.1 c;exact d.lt w (j d k) b c
def _root_.Go.W.En.bu(h:Nat)(own:List Nat)(l:List Nd):En:=⟨jS own,λe=>hD e h l own,λe k j d=>d.st λb c=>j b (a4.2 c),λe d b c=>d.lt b (a4.1 c),oC _⟩
def N4(w:C)(c:Nat)(own:List Nat)(l:List Nd)(b:Nat):¬(En.bu c own l).P ({w with heap:=Array.replicate (b+1) (.map #[] 0)}):=by rintro⟨s,mp,z,k,h,n,j,y,x,e,q,u⟩;have d:=e _ (aE (i:=0) rfl);exact wu w c _ qI b d
section
variable {M:Nat->Prop} {w0 w:C} {L D:List En} {bs:List Nat}
def _root_.Go.W.Z.N3(H:Z M w0 w L D)(i:Nat){c:Nat}{own:List Nat}{l e:List Nd}{w':C}(hi:L[i]? =some (.bu c own l))(h:qR w c own e w'):∃d,Z M w0 w' (L.set i (.bu c d e)) D/\hD w' c e d:=by obtain⟨d,r,f,o⟩:=h;exact⟨d,H.g' i (.bu c d e) hi (f.mono λn _ k=>a4.2 k) r (λb j=>(o b (a4.1 j)).imp a4.2 id),r⟩
def _root_.Go.W.Z.FP(H:Z M w0 w L D)(i:Nat){d:Nat}{own:List Nat}{l j:List Nd}{P:aR}{g:FuncId}{args:Array ab}{A:cQ->Prop}{K:aa}(hi:L[i]? =some (.bu d own l))(u:ah P g args w λr c=>A r/\qR w d own j c)(x:∀r c e,A r->Z M w0 c (L.set i (.bu d e j)) D->K r c)(bZ:∀b∈bs,En.g b∈L:=by simp):cV bs P g args w K:=
 ⟨(·∈own),λb q y=>pR H hi (N4 w d own l) (bZ b q) (a4.2 y),u.mono λr c ⟨n,h⟩=>by obtain⟨_,_,f,_⟩:=id h;obtain⟨e,k,_⟩:=H.N3 i hi h;exact⟨f,x r c e n k⟩⟩
end
def hD.nil(w:C):qR w (w.heap.size+2) [] [] ((((w.alloc (.map #[] 0)).alloc (.map #[] 0)).alloc (.cells #[.slice none 0 0,.map (some w.heap.size),.map (some (w.heap.size+1))] qI))):=by
 have k:(w.alloc (.map #[] 0)).heap.size=w.heap.size+1:=size_alloc _ _;have u:((w.alloc (.map #[] 0)).alloc (.map #[] 0)).heap.size=w.heap.size+2:=by rw[size_alloc,k]
 have n:(w.alloc (.map #[] 0)).heap[w.heap.size]? =some (.map #[] 0):=kM w _;have q:=(Fr.alloc F0 (w.alloc (.map #[] 0)) (.map #[] 0)).at n id;have j:=kM (w.alloc (.map #[] 0)) (.map #[] 0);rw[k]at j;have c:=Fr.alloc F0 ((w.alloc (.map #[] 0)).alloc (.map #[] 0)) (.cells #[.slice none 0 0,.map (some w.heap.size),.map (some (w.heap.size+1))] qI);have e:=kM ((w.alloc (.map #[] 0)).alloc (.map #[] 0)) (.cells #[.slice none 0 0,.map (some w.heap.size),.map (some (w.heap.size+1))] qI);rw[u]at e;have f:aj w (((w.alloc (.map #[] 0)).alloc (.map #[] 0)).alloc (.cells #[.slice none 0 0,.map (some w.heap.size),.map (some (w.heap.size+1))] qI)):=((Fr.alloc F0 w _).ew (Fr.alloc F0 _ _)).ew c;refine⟨_,⟨⟨none,0,0⟩,w.heap.size,w.heap.size+1,#[],0,#[],0,rfl,?_,λy h=>?_,rfl,rfl⟩,f.Dw,λx d=>?_⟩
 .show ([w.heap.size+2]++([]++([w.heap.size]++([w.heap.size+1]++[])))).Nodup;simp
 .simp only[ay,aW,a3]at h;rcases h with rfl|rfl|rfl|rfl
  .exact e
  .exact aG.nil _ _ _
  .exact c.at q id
  .exact c.at j id
 .have d:x∈[w.heap.size+2]++([]++([w.heap.size]++([w.heap.size+1]++[]))):=d;simp at d;right;omega
def MJ{g:List Nx}(h:Vg g):∀i d,g[i]? =some d->d∉g.take i:=by
 induction h with
 |nil=>intro i d c;simp at c
 |@snoc g u n q j k=>
  intro i d c;rcases Nat.lt_or_ge i g.length with e|e
  .rw [List.getElem?_append_left e]at c;rw[List.take_append_of_le_length (by omega)];exact k i d c
  .rw [List.getElem?_append_right e]at c;have:i - g.length=0:=by have:=(dh.1 c).1;simp at this;omega
   rw[this]at c;simp at c;subst c;rw[show i=g.length by omega,List.take_left];exact j
def MK{g:List Nx}(h:Vg g){i:Nat}{d:Nx}(c:g[i]? =some d)(q:d.op=0):jw (g.take i) d.tx=none:=by
 cases x:jw (g.take i) d.tx with
 |none=>rfl
 |some s=>
  obtain⟨j,e,k,n,_⟩:=EW x;obtain⟨y,u⟩:=List.mem_iff_getElem?.1 (kW e);have w:=h.vars j (kW e) k d (aE c) q n;have:=var_eq (h.Ek y j u) (h.Ek i d c) k q n w;exact absurd (this▸e) (MJ h i d c)
def NU{w:C}{s:J}{l:List Nd}(h:GP w s l)(P:Vg (xs l))(O:∀c∈xs l,lj c)(hl:l.length<=100000):
  ah V Dd #[.agg #[s.v]] w λr E=>(∃e own,r=U (.pointer (some (ag e)))/\hD E e l own/\∀A∈own,w.heap.size<=A)/\aj w E:=by
 have hn:=g0 h;have Q:Z F0 w w [] [.gr s l]:=bN _ (by intro M D;simp only[ay,aW,a3]at D;subst D;exact bU.2 h)
 have loop:∀(m i z e:Nat) (own:List Nat) (j:C),i+m=l.length->Z F0 w j [.g z,.bu e own (l.take i)] [.gr s l]->
   vD.aH (ag e) s ((s.n:Nat):Int) (i:Int) j λr E=>(∃e own,r=U (.pointer (some (ag e)))/\hD E e l own/\∀A∈own,w.heap.size<=A)/\aj w E:=by
  intro m;induction m with
  |zero=>
   intro i z e own j hi y;refine vD.bD _ _ _ _ _ _ (bb (a2 (by omega)) ⟨⟨e,own,rfl,?_,λA L=>(y.new _ (aE (i:=1) rfl) A (a4.2 L)).resolve_right id⟩,y.fr⟩);have:=y.get 1;rw[List.take_of_length_le (by omega)]at this;exact this
  |succ m ih=>
   intro i z e own j hi y;have B:l[i]? =some (l[i]'(by omega)):=a9 (by omega);generalize l[i]'(by omega)=c at B;refine vD.bD _ _ _ _ _ _ (a8 (a0 (by omega)) (gN (bU.1 (y.getD 0)) rfl B λp hp q=>⟨c.x.op,c.ks,c.x.n,c.x.m,c.x.u,c.x.tx,c.x.st.k,c.x.st.n,c.x.st.x,q.c0,q.c1,q.c2,q.c3,q.c4,q.c5,q.c6,q.c7,q.c8,y.aN λb5 w2 G=>G.ak λw3 F=>?_⟩));have K:=aE B;have N:=sZ B;have H:xs (l.take i)=(xs l).take i:=by simp[xs,List.map_take]
   have W:l.take (i+1)=l.take i++[c]:=by rw[eI,B];rfl
   refine F.FP 1 rfl (FK (l:=l.take i) (d:=c) (F.get 1) ((bU.1 (F.getD 0)).2 c K) (λb I hm=>F.dj (.gr s l) (by simp) b (oc.2 (.inr ⟨c,K,I⟩)) (.bu e own (l.take i)) (by simp) (a4.2 hm)) (O _ (List.mem_map.2 ⟨c,K,rfl⟩)) (λM D=>(O M (by rw[H]at D;exact kW D)).u.1) (by rw[g4];omega) (by rw[H];exact MJ P i c.x N) (λY=>by rw[H];exact MK P N Y)) ?_;rintro _ w4 aa rfl S;refine⟨_,rfl,?_⟩;rw[bA _ (by omega)];refine ih (i+1) z e aa w4 (by omega) ?_;rw[W];exact S.take 2
 refine vD.aB s w _ (Q.aN λz j y=>?_);obtain⟨own,r,f,o⟩:=hD.nil j;have G:=(y.fresh (f.mono λA _ L=>by cases L)).own (.bu (j.heap.size+2) own []) r (λb I=>(o b (a4.1 I)).resolve_left (by simp));have T:((j.alloc (.map #[] 0)).alloc (.map #[] 0)).heap.size=j.heap.size+2:=by rw[size_alloc,size_alloc]
 have:=loop l.length 0 z (j.heap.size+2) own _ (by omega) G;have s1:(j.alloc (.map #[] 0)).heap.size=j.heap.size+1:=size_alloc _ _;rw[<-T,<-s1]at this;exact this
def ky:List Nx->List Nx->Int
 |_,[]=>0
 |g,c::r=>if(ck g c).2≠0 then(ck g c).2 else if(ck g c).1≠c.st then 9 else if c∈g then 8 else ky (g++[c]) r
def ML(g:List Nx)(n:Nx)(r:List Nx):ky g (n::r)=if(ck g n).2≠0 then(ck g n).2 else if(ck g n).1≠n.st then 9 else if n∈g then 8 else ky (g++[n]) r:=rfl
def iG(g:List Nx):Int:=if 4096<g.length then 4 else ky [] g
def Qj{g:List Nx}{n:Nx}:(na g n).2=af (n∈g):=by
 unfold na;cases c:gO n g 0 with
 |none=>exact(a2 (wX c)).symm
 |some i=>exact(a0 (aE (uo c).2)).symm
def L7{w:C}{s:J}{l:List Nd}(h:GP w s l)(hk:dd.P w)(E:l.length<=4096->∀c∈l,q9 c.x/\lj c.x):
  ah V x7 #[.agg #[s.v]] w λr Y=>r=U (.i (iG (xs l)))/\aj w Y:=by
 have hn:=g0 h;have ai:(xs l).length=l.length:=by simp[xs]
 have ab:Z F0 w w [] [.gr s l,dd]:=bN _ (by
  intro K F;simp only[ay,aW,a3]at F;rcases F with rfl|rfl
  .exact bU.2 h
  .exact hk)
 refine vB.aB s w _ (ab.aN λD G y=>aQ (λac=>⟨by unfold iG;rw[aA (by omega)],y.fr⟩) (λac=>?_));have E:=E (by omega);have ae:iG (xs l)=ky [] (xs l):=by unfold iG;rw[aq (by omega)]
 rw[ae];have loop:∀(m i D e:Nat) (own:List Nat) (G:C),i+m=l.length->Vg ((xs l).take i)->ky ((xs l).take i) ((xs l).drop i)=ky [] (xs l)->Z F0 w G [.g D,.bu e own (l.take i)] [.gr s l,dd]->
   vB.aH (some (ag e)) s ((s.n:Nat):Int) (i:Int) G λr Y=>r=U (.i (ky [] (xs l)))/\aj w Y:=by
  intro m;induction m with
  |zero=>
   intro i D e own G hi W q y;refine vB.bD _ _ _ _ _ _ (bb (a2 (by omega)) ⟨?_,y.fr⟩);rw[<-q,c9 (by omega)];rfl
  |succ m ih=>
   intro i D e own G hi W q y;have M:l[i]? =some (l[i]'(by omega)):=a9 (by omega);have hx:(xs l).drop i=(l[i]'(by omega)).x::(xs l).drop (i+1):=by rw[dZ (by omega:i<(xs l).length)];simp[xs]
   generalize l[i]'(by omega)=c at M hx;have B:=aE M;have gx:=sZ M;have L:xs (l.take i)=(xs l).take i:=by simp[xs,List.map_take]
   have es:l.take (i+1)=l.take i++[c]:=by rw[eI,M];rfl
   have ex:(xs l).take (i+1)=(xs l).take i++[c.x]:=by rw[eI,gx];rfl
   rw[hx,ML]at q;have hu:∀K∈xs (l.take i),0<=K.u:=λK F=>by obtain⟨a,ha,rfl⟩:=List.mem_map.1 F;exact(E a (kW ha)).2.u.1
   refine vB.bD _ _ _ _ _ _ (a8 (a0 (by omega)) (gN (bU.1 (y.getD 0)) rfl M λp hp j=>⟨c.x.op,c.ks,c.x.n,c.x.m,c.x.u,c.x.tx,c.x.st.k,c.x.st.n,c.x.st.x,j.c0,j.c1,j.c2,j.c3,j.c4,j.c5,j.c6,j.c7,j.c8,y.aN λb5 w2 Q=>Q.ak λw3 H=>?_⟩));refine H.ax (NV (l:=l.take i) (d:=c) (H.get 1) (λK F=>(bU.1 (H.getD 0)).2 K (kW F)) ((bU.1 (H.getD 0)).2 c B) (H.getD 1) (E c B).1 (by rw[g4];omega) (by rw[L];exact W.val)) ?_;rintro _ w4 rfl H4;rw[L];refine⟨_,_,_,_,rfl,H4.aN λb6 w5 S=>cD (λA=>S.ak λw6 z=>⟨by rw[<-q,aA A],z.fr⟩) (λA=>vo (a:=(ck ((xs l).take i) c.x).1) (b:=c.x.st) (λO=>S.ak λw6 z=>⟨by rw[<-q,aq (λh=>h A),aA O],z.fr⟩) (λO=>S.ak λw6 z=>?_))⟩;rw[aq (λh=>h A),aq (λh=>h O)]at q;refine z.ax (NS (l:=l.take i) (d:=c) (z.get 1) ((bU.1 (z.getD 0)).2 c B) (E c B).2 hu) ?_;rintro _ w7 rfl I;refine⟨_,_,rfl,?_⟩;rw[Qj,L];refine aQ (λN=>⟨by rw[<-q,aA N],I.fr⟩) (λN=>?_);rw[aq N]at q;have aa:Vg ((xs l).take (i+1)):=by rw[ex];exact .snoc W (by rw[<-O,<-A]) N
   have gt:((xs l).take (i+1))[i]? =some c.x:=by rw[List.getElem?_take,aA (by omega)];exact gx
   have ad:((xs l).take (i+1)).take i=(xs l).take i:=by rw[List.take_take];congr 1;omega
   refine I.FP 1 rfl (FK (l:=l.take i) (d:=c) (I.get 1) ((bU.1 (I.getD 0)).2 c B) (λb T hm=>I.dj (.gr s l) (by simp) b (oc.2 (.inr ⟨c,B,T⟩)) (.bu e own (l.take i)) (by simp) (a4.2 hm)) (E c B).2 hu (by rw[g4];omega) (by rw[L];exact N) (λA=>by rw[L,<-ad];exact MK aa gt A)) ?_;rintro _ w8 af rfl H8;refine⟨_,rfl,?_⟩;rw[bA _ (by omega)];refine ih (i+1) D e af w8 (by omega) aa (by rw[ex];exact q) ?_;rw[es];exact H8.take 2
 refine y.jF (NU (s:=⟨none,0,0⟩) (l:=[]) ⟨bF.nil 9 G,by simp⟩ .nil (by simp[xs]) (by simp)) ?_;rintro _ w2 ⟨e,own,rfl,r,o⟩ _ F2;have Q:=F2.own (.bu e own []) r (λb T=>o b (a4.1 T));exact⟨_,rfl,loop l.length 0 D e own w2 (by omega) .nil rfl Q⟩
namespace rF
noncomputable abbrev X:Fx:=⟨V,Tryz.f31,[(6,(.sq [0,1,2,3,4,5,6] (.fork (ls [7,8,9,10,11,12,13]) (ls [11,7,8,9,10,12,13])))),(9,ls [0,1,2,3,4,5,6]),(11,ls [0,1,2,3,4,5,6,7,8])],[4]⟩
abbrev P0:Ps:=[(0,.v [.s]),(3,.v [.I])]
def aH(c:J)(d:Int)(w:C)(R:aa):Prop:=bz P0 0 (X.Sem (ai [0,1,1,1,2])) c d w R
noncomputable def az:=bK X (ai [0,1,1,1,2]) P0 aH
abbrev P1:Ps:=[(0,.v [.s]),(3,.v [.I]),(4,.l [.I,.I,.I] b3),(5,.v [.I])]
abbrev aZ(d:J)(e:Int)(h:Nat)(x y z k:Int)(w:C)(R:aa):Prop:=
 Y (k !=0) (R (U (.i k)) w) (aw d e λA=>loc [h] w λj=>cG j ((A.add (ae e *9)).add 6) λB D E=>Y (!((x==B)&&((y==D)&&((z==E)&&true)))) (R (U (.i 9)) j) ((0:Int)<=e/\e<=((d.c:Nat):Int)/\aw d e λF=>loc [h] j λn=>pY n (F.add (ae e *9)) λG H I K L M N O P=>bG [h] xu #[.slice (if d.c=0 then d.a else d.a.map (·.add (0 *9))) ((ae e) - 0) (d.c - 0),.agg #[.i G,H.v,.i I,.i K,.u L,.string M,.i N,.i O,.i P]] n λt43 q=>Y (af (t43>=0)) (R (U (.i 8)) q) (aH d (ad .i64 (e+1)) q R)))
noncomputable def aX:=aC X [az] (ai [1,2,1,2,1,1,2]) P1 aZ
def bD:∀(d:J) (e:Int) (w:C) (R:aa) (h:Y (af (e<((d.n:Nat):Int))) (dM w λF=>(0:Int)<=e/\e<=((d.c:Nat):Int)/\aw d e λH=>pY F (H.add (ae e *9)) λk q x y z A B D E=>((Pa r0 #[.slice (if d.c=0 then d.a else d.a.map (·.add (0 *9))) ((ae e) - 0) (d.c - 0),.agg #[.i k,q.v,.i x,.i y,.u z,.string A,.i B,.i D,.i E]] F λK L M N W=>aP [] W λG Z=>
 loc [G] Z λw6=>aZ d e G K L M N w6 R)/\(aP [] F λj I=>
 Bu I (H.add (ae e *9)) (.i k) (q.v) (.i x) (.i y) (.u z) (.string A) (.i B) (.i D) (.i E) λ_=>cW [j] r0 #[.slice (if d.c=0 then d.a else d.a.map (·.add (0 *9))) ((ae e) - 0) (d.c - 0),.agg #[.i k,q.v,.i x,.i y,.u z,.string A,.i B,.i D,.i E]] I λO P Q S w8=>loc [j] w8 λT=>aZ d e j O P Q S T R))) (R (U (.i 0)) w)),aH d e w R:=mp (bL (X:=X) [aX,az] (ai [0,1,1,1,2]) P0)
def aB(c:J)(w:C)(R:aa)(h:Y (af (((c.n:Nat):Int)>4096)) (R (U (.i 4)) w) (aH c 0 w R)):ah V Cm #[c.v] w R:=aM X [aX,az] h
end rF
def Bs{w:C}{s:J}{l:List Nd}(h:GP w s l)(i:Nat)(hi:i<=l.length):GP w (mH 9 s 0 i) (l.take i):=by
 have q:=g0 h;have d:=h.1.sub 0 i (Nat.zero_le _) (by omega);refine⟨?_,λe k=>h.2 e (kW k)⟩;rw[Nat.zero_mul,List.drop_zero]at d;have:(l.take i).flatMap Nd.c=(l.flatMap Nd.c).take (i *9):=by
  have j:l.flatMap Nd.c=(l.take i).flatMap Nd.c++(l.drop i).flatMap Nd.c:=by rw[<-ea,List.take_append_drop]
  have n:((l.take i).flatMap Nd.c).length=i *9:=by rw[Nd.ee,g4,Nat.min_eq_left hi]
  rw[j,<-n,List.take_left]
 rw[this];exact d
def OT{w:C}{s:J}{l:List Nd}(h:GP w s l)(G:l.length<=4096->∀d∈l,nS d.x)(hc:l.length<=1000000):
  ah V Cm #[s.v] w λr K=>r=U (.i (iG (xs l)))/\aj w K:=by
 have hn:=g0 h;have ag:(xs l).length=l.length:=by simp[xs]
 have W:Z F0 w w [] [.gr s l]:=bN _ (by intro aa M;simp only[ay,aW,a3]at M;subst M;exact bU.2 h)
 refine rF.aB s w _ (aQ (λac=>⟨by unfold iG;rw[aA (by omega)],W.fr⟩) (λac=>?_));have G:=G (by omega);have ad:iG (xs l)=ky [] (xs l):=by unfold iG;rw[aq (by omega)]
 rw[ad];have loop:∀(m i:Nat) (O:C),i+m=l.length->Vg ((xs l).take i)->ky ((xs l).take i) ((xs l).drop i)=ky [] (xs l)->Z F0 w O [] [.gr s l]->
   rF.aH s (i:Int) O λr K=>r=U (.i (ky [] (xs l)))/\aj w K:=by
  intro m;induction m with
  |zero=>
   intro i O hi N z Q;refine rF.bD _ _ _ _ (bb (a2 (by omega)) ⟨?_,Q.fr⟩);rw[<-z,c9 (by omega)];rfl
  |succ m ih=>
   intro i O hi N z Q;have y:l[i]? =some (l[i]'(by omega)):=a9 (by omega);have hx:(xs l).drop i=(l[i]'(by omega)).x::(xs l).drop (i+1):=by rw[dZ (by omega:i<(xs l).length)];simp[xs]
   generalize l[i]'(by omega)=d at y hx;have H:=aE y;have gx:=sZ y;have E:xs (l.take i)=(xs l).take i:=by simp[xs,List.map_take]
   have ex:(xs l).take (i+1)=(xs l).take i++[d.x]:=by rw[eI,gx];rfl
   have af:s.n<=s.c:=h.1.2.1;rw[hx,ML]at z;have S:s9 (xs (l.take i)):=⟨by rw[E,g4];unfold eZ;omega,by rw[E];exact N.val,by rw[E];exact N.vars⟩;have Y:∀(b:Nat) (P:C),Z F0 w P [.g b] [.gr s l]->rF.aZ s (i:Int) b (ck ((xs l).take i) d.x).1.k (ck ((xs l).take i) d.x).1.n (ck ((xs l).take i) d.x).1.x (ck ((xs l).take i) d.x).2 P λr K=>r=U (.i (ky [] (xs l)))/\aj w K:=by
    intro b P q;refine cD (λF=>⟨by rw[<-z,aA F],q.fr⟩) (λF=>gN (bU.1 (q.getD 0)) rfl y λp T _=>q.ak λw3 j=>?_);have e:=ng (bU.1 (j.getD 0)) y T (X:=(i:Int)) rfl;refine⟨d.x.st.k,d.x.st.n,d.x.st.x,e.s0,e.s1,e.s2,vo (a:=(ck ((xs l).take i) d.x).1) (b:=d.x.st) (λI=>⟨by rw[<-z,aq (λh=>h F),aA I],j.fr⟩) (λI=>⟨by omega,by omega,gN (bU.1 (j.getD 0)) rfl y λA hq _=>j.ak λw4 B=>?_⟩)⟩;rw[aq (λh=>h F),aq (λh=>h I)]at z;have e:=ng (bU.1 (B.getD 0)) y hq (X:=(i:Int)) rfl;refine⟨d.x.op,d.ks,d.x.n,d.x.m,d.x.u,d.x.tx,d.x.st.k,d.x.st.n,d.x.st.x,e.c0,e.c1,e.c2,e.c3,e.c4,e.c5,e.c6,e.c7,e.c8,?_⟩;have A:=FU (Bs (bU.1 (B.getD 0)) i (by omega)) ((bU.1 (B.getD 0)).2 d H) S (G d H) (λaa M=>(G aa (kW M)).kl);rw[E,show lA ((xs l).take i) d.x=gO d.x ((xs l).take i) 0 by unfold lA;rw[aA F,I];rfl]at A
    refine B.ax A ?_;rintro _ L rfl D;refine⟨_,rfl,?_⟩;cases ab:gO d.x ((xs l).take i) 0 with
    |some ae=>
     have hm:=aE (uo ab).2;exact a8 (a0 (Int.natCast_nonneg ae)) ⟨by rw[<-z,aA hm],D.fr⟩
    |none=>
     have h2:=wX ab;rw[aq h2]at z;refine bb (by decide) ?_;rw[bA _ (by omega)];exact ih (i+1) L (by omega) (by rw[ex];exact .snoc N (by rw[<-I,<-F]) h2) (by rw[ex];exact z) (D.take 0)
   refine rF.bD _ _ _ _ (a8 (a0 (by omega)) (Q.dr λP q=>⟨by omega,by omega,gN (bU.1 (q.getD 0)) rfl y λp T e=>⟨d.x.op,d.ks,d.x.n,d.x.m,d.x.u,d.x.tx,d.x.st.k,d.x.st.n,d.x.st.x,e.c0,e.c1,e.c2,e.c3,e.c4,e.c5,e.c6,e.c7,e.c8,?_,?_⟩⟩))
   .have A:=wo (Bs (bU.1 (q.getD 0)) i (by omega)) ((bU.1 (q.getD 0)).2 d H) S (G d H);rw[E]at A;refine q.call A ?_;rintro _ w3 rfl j;exact⟨_,_,_,_,rfl,j.aN λb w4 B=>B.ak λL D=>Y b L D⟩
   .refine q.aN λb w3 j=>?_;have e:=ng (bU.1 (j.getD 0)) y T (X:=(i:Int)) rfl;refine⟨e.c0,e.c1,e.c2,e.c3,e.c4,e.c5,e.c6,e.c7,e.c8,?_⟩;have A:=wo (Bs (bU.1 (j.getD 0)) i (by omega)) ((bU.1 (j.getD 0)).2 d H) S (G d H);rw[E]at A;refine j.ax A ?_;rintro _ w4 rfl B;exact⟨_,_,_,_,rfl,B.ak λL D=>Y b L D⟩
 exact loop l.length 0 w (by omega) .nil rfl W
def _root_.Go.W.En.wr(j:Nat)(bs:List UInt8)(own:List Nat):En:=⟨jS own,λd=>fc d j bs own,λd u q h=>(by obtain⟨s,rfl,k,e⟩:=h;have n:∀b∈j::aO s,u.heap[b]? =d.heap[b]?:=λb c=>q b (a4.2 c) (fc.lt ⟨s,rfl,k,e⟩ b c);exact⟨s,rfl,(n j (by simp)).trans k,e.1,e.2.cA λb c _=>n b (by simp[c])⟩),λd h b c=>h.lt b (a4.1 c),oC _⟩
def MY(d:Nat)(bs:List UInt8)(own:List Nat)(w:C)(b:Nat):¬(En.wr d bs own).P ({w with heap:=Array.replicate (b+1) (.map #[] 0)}):=by rintro⟨s,_,c,_⟩;simp[Array.getElem?_replicate]at c
section
variable {M:Nat->Prop} {w0 w:C} {L D:List En} {bs:List Nat}
def _root_.Go.W.Z.wm(H:Z M w0 w L D)(i:Nat){c:Nat}{l j:List UInt8}{own:List Nat}{g:FuncId}{args:Array ab}{K:aa}(hi:L[i]? =some (.wr c l own))(k:fc w c l own->ah V g args w (mV w c own j))(n:∀e d,Z M w0 e (L.set i (.wr c j d)) D->K (U (.tuple #[])) e)(bZ:∀b∈bs,En.g b∈L:=by simp):cV bs V g args w K:=by
 refine⟨(·∈own),λb h q=>?_,(k (H.get i hi)).mono λr e ⟨u,d,y,f,o⟩=>⟨f,?_⟩⟩
 .exact pR H hi (MY c l own w) (bZ b h) (a4.2 q)
 .subst u;refine n e d (H.g' i (.wr c j d) hi (f.mono λz _ x=>a4.2 x) y λb h=>?_);exact(o b (a4.1 h)).imp a4.2 id
def _root_.Go.W.Z.Dn(H:Z M w0 w L D){K:C->Prop}(e:∀c,Z M w0 c (L++[.wr w.heap.size [] [w.heap.size]]) D->K c):aK w (.cells #[.slice none 0 0] lW) K:=
 e _ (H.push _ (Fr.alloc _ _ _) (fc.new w) λb d=>by have:=a4.1 d;simp at this;omega)
end
def kJ(g:List Nx):List UInt8:=hQ g.length++g.flatMap gh
def yh{e:Nat}:∀{g:List Nx},(∀c∈g,(gh c).length<=e)->(g.flatMap gh).length<=e *g.length
 |[],_=>by simp
 |c::g,d=>by have k:=yh (g:=g) λh j=>d h (by simp[j]);have n:=d c (by simp);simp only[dT,cC,List.length_cons];rw[Nat.mul_add,Nat.mul_one];omega
def Fe(g:List Nx)(w:C)(r:cQ)(w':C):Prop:=∃t:J,r=U (.tuple #[t.v,.i (iG g)])/\(iG g=0->jx w' t (kJ g)/\∀b∈aO t,w.heap.size<=b)
def L6{w:C}{s:J}{l:List Nd}(h:GP w s l)(hk:dd.P w)(y:l.length<=4096->∀d∈l,q9 d.x/\lj d.x)(hz:∀d∈xs l,(gh d).length<=1000000):
  ah V x6 #[.agg #[s.v]] w λr k=>Fe (xs l) w r k/\aj w k:=by
 have N:=g0 h;have af:(xs l).length=l.length:=by simp[xs]
 have W:Z F0 w w [] [.gr s l,dd]:=bN _ (by
  intro I z;simp only[ay,aW,a3]at z;rcases z with rfl|rfl
  .exact bU.2 h
  .exact hk)
 refine vA.aB s w _ (W.aN λE w1 B=>B.ax (L7 (bU.1 (B.getD 0)) (B.getD 1) y) ?_);rintro _ A rfl H;refine⟨_,rfl,cD (λj=>⟨⟨⟨none,0,0⟩,rfl,λh=>absurd h j⟩,H.fr⟩) (λj=>H.Dn λw3 Y=>?_)⟩;have ac:l.length<=4096:=by
  rcases Nat.lt_or_ge 4096 l.length with h|h
  .unfold iG at j;rw[aA (by omega)]at j;cases j
  .exact h
 have y:=y ac;have Q:∀i,(((xs l).take i).flatMap gh).length<=4096000000:=λi=>by
  have:=yh (g:=(xs l).take i) λd hd=>hz d (kW hd);rw[g4]at this;have h2:min i (xs l).length<=4096:=by omega
  omega
 have M:bn ((s.n:Nat):Int):=⟨by omega,by omega⟩;have z:=e2 _ M;rw[N]at z;refine Y.wm 1 rfl (λr=>nK r _ M (by simp)) λS own D=>?_;have D:Z F0 w S [.g E,.wr A.heap.size (hQ ((l.length:Nat):Int)++((xs l).take 0).flatMap gh) own] [.gr s l,dd]:=by rw[List.take_zero,List.flatMap_nil,List.append_nil,<-N];exact D
 have loop:∀(m i:Nat) (own:List Nat) (q:C),i+m=l.length->Z F0 w q [.g E,.wr A.heap.size (hQ ((l.length:Nat):Int)++((xs l).take i).flatMap gh) own] [.gr s l,dd]->
   vA.aH E s (ag A.heap.size) ((s.n:Nat):Int) (i:Int) q λr k=>Fe (xs l) w r k/\aj w k:=by
  intro m;induction m with
  |zero=>
   intro i own q ab e;refine vA.bD _ _ _ _ _ _ _ (bb (a2 (by omega)) ?_);have ak:fc q A.heap.size (hQ ((l.length:Nat):Int)++((xs l).take i).flatMap gh) own:=e.get 1;refine h7 ((zg ak (by have:=Q i;simp only[cC];omega)).mono ?_);rintro _ T ⟨t,rfl,O,K,hf⟩;rw[List.take_of_length_le (by omega)]at O;refine⟨K,t,rfl,⟨t,by rw[j],λ_=>⟨?_,λb F=>bB e.fr.size (hf b F)⟩⟩,e.fr.ew K⟩;unfold kJ;rw[af];exact O
  |succ m ih=>
   intro i own q ab e;have u:l[i]? =some (l[i]'(by omega)):=a9 (by omega);generalize l[i]'(by omega)=d at u;have G:=aE u;have gx:=sZ u;have ex:(xs l).take (i+1)=(xs l).take i++[d.x]:=by rw[eI,gx];rfl
   refine vA.bD _ _ _ _ _ _ _ (a8 (a0 (by omega)) (QW (bU.1 (e.getD 0)) u rfl λp hp aa=>?_));have L:∀b,b∈(En.gr s l).fp->b∉own:=λb F hm=>e.dj (.gr s l) (by simp) b F _ (aE (i:=1) rfl) (a4.2 hm);have ad:(p.add (ae (i:Int) *9)).block∈(En.gr s l).fp:=by refine oc.2 (.inl ?_);show _∈(if l.flatMap Nd.c=[]then[]else aO s);rw[aq (λI=>by have:=congrArg List.length I;rw[Nd.ee]at this;simp at this;omega)];simp[aO,hp,iM]
   refine e.wm 1 rfl (λr=>Ma r aa ((bU.1 (e.getD 0)).2 d G) (L _ ad) (λal hx=>L al (oc.2 (.inr ⟨d,G,hx⟩))) (y d G).2 (by have:=Q i;simp only[cC];omega)) λT ai H6=>⟨rfl,?_⟩;rw[bA _ (by omega)];refine ih (i+1) ai T (by omega) ?_;rw[ex,ea,<-jU,dT,List.flatMap_nil,List.append_nil];exact H6
 exact⟨rfl,loop l.length 0 own S (by omega) D⟩
def SM{n:Nx}(W:lj n)(z:n.kids.length<=100)(A:n.tx.size<=1000):(gh n).length<=1000000:=by have d:=e2 _ W.op;have e:=rM _ W.ks;have h:=e2 _ W.n;have j:=e2 _ W.m;have k:=hS n.u.toNat (by have:=W.u;omega);have q:=e2 _ W.sk;have w:=e2 _ W.sn;have x:=e2 _ W.sx;have y:=hS n.kids.length (by omega);have c:=hS (bl n.tx).length (by rw[eS];omega);have B:=eS n.tx;unfold gh kb kI;simp only[cC];omega
end Go.Proofs.YthkcmmldhceegaaGreatDoor
