import Derived.Test.YtocpddmpfbfdbaaGreatDoorRF
import Derived.Test.YtocpddmpfbfdbaaGreatDoorPT
import Derived.Test.YtocpddmpfbfdbaaGreatDoorU
import Derived.Test.YtocpddmpfbfdbaaGreatDoorT4
set_option linter.unusedVariables false
set_option maxRecDepth 100000
set_option maxHeartbeats 1000000
set_option linter.defProp false
namespace Go.Proofs.YtocpddmpfbfdbaaGreatDoor
open Go renaming World->I,Calls->ai,LoopState->e4
open Go.IntKind renaming wrap->ab
open _root_.Int renaming toNat->ag,tdiv->cz,tmod->dP,toNat_natCast->dJ
open _root_.ByteArray renaming mk->az
open Go.IntWalk renaming i64_in->a4
open Go.Builtin renaming append_->bb
open Go.Sem renaming run->a6
open _root_.Nat renaming le_trans->bH,zero_le->dv
open _root_.UInt8 renaming ofNat->cS
open _root_.Option.some renaming inj->fQ
open Go.Proofs.Tryz renaming prog->U
open _root_.Decidable renaming decide->ah
open Go.Ending renaming returned->V
open List renaming mem_cons->aB,not_mem_nil->a1,mem_of_getElem?->aI,getElem?_eq_getElem->bc,mem_map->cQ,length_append->cd,length_nil->iP,append_assoc->cN,length_take->dL,length_drop->iO,flatMap_cons->cO,length_map->nr,drop_eq_getElem_cons->dq,nil_append->hV,drop_of_length_le->dt,take_of_length_le->e1
open Go Go.W
def y3 (x:Int):cp (ab .i64 x):=by rw [IntKind.wrap_i64];omega
structure MdV (d:Nx):Prop extends MdN d where
 nv:d.op≠0
def k4 (w:I) (r:Ending) (w':I):Prop:=∃c:Nd,r=V c.v/\MdV c.x/\c.P w'/\∀b∈ay c.ks,w.heap.size<=b
def Rz {op n m u:Int} {d:ByteArray} {st:bq} {ks:List Int} (c:MdV ⟨op,[],n,m,u,d,st⟩) (e:ks.length<=3):MdV ⟨op,ks,n,m,u,d,st⟩:=⟨⟨c.CQ,c.CR,e,c.n,c.m,c.u,c.tx,c.re⟩,c.nv⟩
def QG (op:Int):-1<=cM op/\cM op<=3:=by unfold cM;repeat' split<;>omega
section
variable {w:I} {s:O} {l:List Nd} {n1 m2 k3:Int} {b8 j1:Nat}
def RX (hm:cp m2) (C:cp k3) (hl:l.length<=dQ) {op n m u:Int} {G:ByteArray} {st:bq} (hd:MdV ⟨op,[],n,m,u,G,st⟩) (many:Nat) (aq:many<=3) (x:Int) (ae:-1<=x) (af:x<(l.length:Int)):
  ∀(d i:Nat) (q:O) (ks:List Int) (E:I),i+d=many->ks.length=i->(∀P∈ks,0<=P/\P<(l.length:Int))->LH F0 w E [.g b8,.g j1,pI q ks] [.gr s l]->
   il.hc s m2 k3 b8 0 ⟨none,0,0⟩ 0 0 0 (az #[]) 0 0 0 j1 op q n m u G st.k st.n st.x x (many:Int) (i:Int) E λr A=>k4 w r A/\ao w A:=by
 intro d;unfold dQ at hl;induction d with
 |zero=>
  intro i q ks E hi hlen aa B;refine il.mP _ _ _ _ _ _ _ _ _ _ _ _ _ _ _ _ _ _ _ _ _ _ _ _ _ _ _ _ (a9 (a0 (by omega)) (B.au λH y=>⟨⟨⟨⟨op,ks,n,m,u,G,st⟩,q⟩,rfl,Rz hd (by omega),uo (y.get 2),λb hb=>(y.new _ (aI (i:=2) rfl) b hb).resolve_right id⟩,y.fr⟩))
 |succ d ih=>
  intro i q ks E hi hlen aa B;have Y:∀(D:Int) (H:I) (L:List En),-1<=D->D<(l.length:Int)->LH F0 w H [.g b8,.g j1,pI q ks] [.gr s l]->il.jz s m2 k3 b8 0 ⟨none,0,0⟩ 0 0 0 (az #[]) 0 0 0 j1 op q n m u G st.k st.n st.x x (many:Int) (i:Int) D H λr A=>k4 w r A/\ao w A:=by
   intro D H L h1 h2 y;refine aR (λh0=>y.au λS z=>⟨⟨⟨⟨-1,[],0,0,0,ba [],cF⟩,⟨none,0,0⟩⟩,rfl,⟨⟨by decide,by decide,by decide,by decide,by decide,by decide,λ_=>by decide,λai=>by cases ai⟩,by decide⟩,Rd.nil S,λb hb=>by cases hb⟩,z.fr⟩) (λh0=>?_);refine y.i5 2 qZ rfl (λs' S z=>?_) (by have:=x3 (y.get 2);omega);have ah:LH F0 w S [.g b8,.g j1,pI s' (ks++[D])] [.gr s l]:=by rw [pI,List.map_append];exact z
   refine ah.au λc h=>?_;rw [bw _ (by omega)];refine ih (i+1) s' (ks++[D]) c (by omega) (by simp [hlen]) (λP C=>?_) h;rcases List.mem_append.1 C with C|C
   .exact aa P C
   .simp only [aB,a1,a7] at C;omega
  refine il.mP _ _ _ _ _ _ _ _ _ _ _ _ _ _ _ _ _ _ _ _ _ _ _ _ _ _ _ _ (bd (aW (by omega)) (aR (λaj=>aR (λal=>?_) (λal=>Y x E [] ae af B)) (λaj=>Y x E [] ae af B)));obtain ⟨T,rfl⟩:∃T:Nat,x=(T:Int):=⟨x.toNat,by omega⟩;refine B.aA (Oz (be.1 (B.getD 0)) op T (i:Int) m2 (by omega) hm) ?_;rintro _ H ⟨t,rfl⟩ y;refine ⟨_,_,_,rfl,y.aL λac S z=>?_⟩;have W:∀(t:bq) (c:I),LH F0 w c [.g b8,.g j1,pI q ks,.g ac] [.gr s l]->il.fj s m2 k3 b8 0 ⟨none,0,0⟩ 0 0 0 (az #[]) 0 0 0 j1 op q n m u G st.k st.n st.x (T:Int) (many:Int) (i:Int) ac t.k t.n t.x c λr A=>k4 w r A/\ao w A:=by intro t c h;have e5:ab .i64 (5 *(i:Int))=5 *(i:Int):=a4 _ (by omega);have e6:ab .i64 (1+5 *(i:Int))=1+5 *(i:Int):=a4 _ (by omega);refine ⟨by rw [e5,e6];omega,h.au λw5 J=>J.aA (zG (be.1 (J.getD 0)) t _ (y3 _) (by unfold dQ;exact hl)) ?_⟩;rintro _ w6 ⟨ap,rfl,am,an⟩ H6;exact ⟨_,rfl,Y ap w6 [] am an (H6.take 3)⟩
  refine aO (λho=>aO (λh2=>?_) (λh2=>z.au λc h=>W t c h)) (λho=>z.au λc h=>W t c h);have hn:=x3 (z.get 2);have M:ks[1]? =some (ks[1]'(by omega)):=bc (by omega);have ak:=aa _ (aI M);generalize ks[1]'(by omega)=kk at M ak;refine ⟨by omega,by omega,(uo (z.get 2)).cell M (j:=ag 1 *1) rfl λp hp _=>z.au λc h=>?_⟩;have ad:l[kk.toNat]? =some (l[kk.toNat]'(by omega)):=bc (by omega);generalize l[kk.toNat]'(by omega)=e at ad;have F:c.cell? (p.add (ag 1 *1))=some (.int .i64 kk):=by have:=(uo (h.get 2)).cell M (j:=ag 1 *1) rfl (K:=λQ=>∃q',q.a=some q'/\c.cell? (q'.add (ag 1 *1))=some (.int .i64 kk)) (λQ N F=>⟨Q,N,F⟩);rw [hp] at this;obtain ⟨Q,N,F⟩:=this;cases N;exact F
  exact ⟨kk,F,fa (be.1 (h.getD 0)) (i:=kk.toNat) (by omega) ad λQ N Z=>⟨_,_,_,Z.s0,Z.s1,Z.s2,h.au λw5 J=>W e.x.st w5 J⟩⟩
def RY (Z:cp n1) (S:cp m2) (Q:cp k3) (C:l.length<=dQ) {op n m u:Int} {h:ByteArray} {st:bq} (N:MdV ⟨op,[],n,m,u,h,st⟩) (x:Int) (aa:0<=x) (T:x<(l.length:Int)) (G:I) (H:LH F0 w G [.g b8,.g j1] [.gr s l]):
  il.aY s n1 m2 k3 b8 0 ⟨none,0,0⟩ 0 0 0 (az #[]) 0 0 0 j1 op ⟨none,0,0⟩ n m u h st.k st.n st.x x G λr e=>k4 w r e/\ao w e:=by
 refine H.aA (Fh op G) ?_;rintro _ y rfl j;have hr:=QG op;have M:∀(x:Int) (c:I),-1<=x->x<(l.length:Int)->LH F0 w c [.g b8,.g j1] [.gr s l]->il.cB s m2 k3 b8 0 ⟨none,0,0⟩ 0 0 0 (az #[]) 0 0 0 j1 op ⟨none,0,0⟩ n m u h st.k st.n st.x x (cM op) c λr e=>k4 w r e/\ao w e:=by
  intro x c A B q;have d:=q.jP bX 1;by_cases Y:cM op<0
  .refine il.mP _ _ _ _ _ _ _ _ _ _ _ _ _ _ _ _ _ _ _ _ _ _ _ _ _ _ _ _ (a9 (a0 (by omega)) (d.au λy j=>⟨⟨⟨⟨op,[],n,m,u,h,st⟩,⟨none,0,0⟩⟩,rfl,N,Rd.nil y,λb P=>by cases P⟩,j.fr⟩))
  .have O:cM op=(((cM op).toNat:Nat):Int):=by omega
   show il.hc _ _ _ _ _ _ _ _ _ _ _ _ _ _ _ _ _ _ _ _ _ _ _ _ (cM op) 0 _ _;rw [O];exact RX S Q C N (cM op).toNat (by omega) x A B (cM op).toNat 0 ⟨none,0,0⟩ [] c (by omega) rfl (by simp) d
 have L:∀(x:Int) (c:I),-1<=x->x<(l.length:Int)->LH F0 w c [.g b8,.g j1] [.gr s l]->il.bh s n1 m2 k3 b8 0 ⟨none,0,0⟩ 0 0 0 (az #[]) 0 0 0 j1 op ⟨none,0,0⟩ n m u h st.k st.n st.x x (cM op) c λr e=>k4 w r e/\ao w e:=by intro x c A B q;refine aO (λD=>q.aA (e7 8 c) ?_) (λD=>M x c A B q);rintro _ W rfl d;refine ⟨_,_,_,rfl,d.aA (zG (be.1 (d.getD 0)) (bI 8) _ (y3 _) C) ?_⟩;rintro _ J ⟨K,rfl,E,F⟩ z;exact ⟨_,rfl,M K J E F z⟩
 refine ⟨_,rfl,aO (λD=>j.aA (e7 1 y) ?_) (λD=>L x y (by omega) T j)⟩;rintro _ W rfl d;refine ⟨_,_,_,rfl,d.aA (zG (be.1 (d.getD 0)) (bI 1) _ (y3 _) C) ?_⟩;rintro _ J ⟨K,rfl,E,F⟩ z;exact ⟨_,rfl,L K J E F z⟩
end
def opsL:List Int:=[4,5,6,7,8,9,10,11,12,13,14,15,16,17,18,19,20,21,22,23,24,25,26,27,28,29,30,31,32,33,34,1,2,3,18,18,16,6,24,25]
def Sf {i:Nat} {op:Int} (d:opsL[i]? =some op):1<=op/\op<=34:=by
 have e:(opsL.all λc=>ah (1<=c)&&ah (c<=34))=true:=by decide
 have:=List.all_eq_true.1 e op (aI d);simpa using this
def r':List ByteArray:=[ba [],ba [97],ba [97,98],ba [98],ba [0],ba [97,97]]
def U0 {i:Nat} {t:ByteArray} (c:r'[i]? =some t):t.size<=16:=by
 have d:(r'.all λe=>ah (e.size<=16))=true:=by decide
 have:=List.all_eq_true.1 d t (aI c);simpa using this
def FA {w:I} {s:O} {l:List Nd} (A:GP w s l) (aF:1<=l.length) (hl:l.length<=dQ) (hv:∀ap∈l,bT ap.x.st=true) (C d B:Int) (hn:cp C) (M:cp d) (hk:cp B):
  ai U xk #[s.v,.i C,.i d,.i B] w λr y=>k4 w r y/\ao w y:=by
 have hs:=fu A;refine il.aD _ _ _ _ w _ ((Bb A).aL λL w1 H1=>H1.nw λw2 _ H2=>H2.aA (iL C 40 w2 (by omega) hn) ?_);have hr:=jC C 40 (by omega);generalize fS C 40=am at hr;rintro _ w3 rfl H3;obtain ⟨j,rfl⟩:∃j:Nat,am=(j:Int):=⟨am.toNat,by omega⟩;have ae:opsL[j]? =some (opsL[j]'(by show j<40;omega)):=bc _;have ah:=Sf ae;generalize opsL[j]'(by show j<40;omega)=op at ae ah;have ac:bS w3 ⟨some (aj w1.heap.size),40,40⟩ opsL:=o4 (T:=bX) (H3.ob 1) rfl;refine ⟨_,rfl,by omega,by show (j:Int)<40;omega,ac.cell ae (by omega) λp hp Q=>⟨op,Q,H3.aL λJ w4 H4=>H4.au λw5 H5=>H5.aA (iL _ _ w5 (by omega) (y3 _)) ?_⟩⟩;have ay:=jC (ab .i64 (cz C 64)) ((s.n:Nat):Int) (by omega);generalize fS (ab .i64 (cz C 64)) ((s.n:Nat):Int)=N at ay;rintro _ G rfl D;have H:∀{n m u:Int} {tx:ByteArray} {st:bq} {z:I},MdV ⟨op,[],n,m,u,tx,st⟩->LH F0 w z [.g L,.g J] [.gr s l]->il.aY s C d B L 0 ⟨none,0,0⟩ 0 0 0 (az #[]) 0 0 0 J op ⟨none,0,0⟩ n m u tx st.k st.n st.x N z λr y=>k4 w r y/\ao w y:=λhd h=>RY hn M hk hl hd N (by omega) (by omega) _ h;have D:LH F0 w G [.g L,.g J] [.gr s l]:=D.lG [true,false,true];have em:az #[]=ba []:=rfl;have base:∀{n m u:Int} {tx:ByteArray} {st:bq},0<=n/\n<=100->0<=m/\m<=100->0<=u/\u<=1000->(op≠33->tx.size<=16)->(op=33->∃af,tx=ba (kT af))->MdV ⟨op,[],n,m,u,tx,st⟩:=λh1 h2 h3 h4 h5=>⟨⟨by show -1<=op;omega,ah.2,by simp,h1,h2,h3,h4,h5⟩,by show op≠0;omega⟩;have zz:(0:Int)<=0/\(0:Int)<=100:=by decide
 have W:(0:Int)<=0/\(0:Int)<=1000:=by decide
 refine ⟨_,rfl,aO (λh1=>?_) (λh1=>aO (λh2=>?_) (λh2=>aO (λh3=>?_) (λh3=>aO (λh4=>?_) (λh4=>?_))))⟩
 .refine D.aA (iL d 3 G (by omega) M) ?_;have ar:=jC d 3 (by omega);generalize fS d 3=v at ar;rintro _ z rfl h;refine ⟨_,rfl,?_⟩;have S1:∀(F:Int),1<=F->F<=7->il.a2 s C d B L 0 ⟨none,0,0⟩ 0 0 0 (az #[]) 0 0 0 J op ⟨none,0,0⟩ 0 0 0 (az #[]) 0 0 0 N F z λr y=>k4 w r y/\ao w y:=by
   intro F h5 h6;refine h.aA (e7 F z) ?_;rintro _ E rfl q;have Q:∃c:Nat,(if 3<F then (3:Int) else F)=(c:Int)/\1<=c/\c<=3:=⟨(if 3<F then (3:Int) else F).toNat,by split<;>omega,by split<;>omega,by split<;>omega⟩;obtain ⟨c,Q,aC,aE⟩:=Q;rw [Q];have ec:ab .u64 (c:Int)=(c:Int):=IntWalk.u64_in _ (by omega);rw [ec];have ep:∃S:Int,ab .i64 (1 *2^min (ag (c:Int)) (IntKind.bits .i64))=S/\1<=S/\S<=8:=by
    have:c=1\/c=2\/c=3:=by omega
    rcases this with rfl|rfl|rfl
    .exact ⟨2,by decide,by decide,by decide⟩
    .exact ⟨4,by decide,by decide,by decide⟩
    .exact ⟨8,by decide,by decide,by decide⟩
   obtain ⟨S,eq,q1,q2⟩:=ep;rw [eq];refine ⟨_,_,_,rfl,by omega,q.au λw9 P=>P.aA (iL B S w9 (by omega) hk) ?_⟩;have ax:=jC B S (by omega);generalize fS B S=a at ax;rintro _ aB rfl ad;have ea:ab .u64 a=a:=IntWalk.u64_in _ (by omega);refine ⟨_,rfl,ad.au λaH an=>?_⟩;rw [ea];exact H (st:=bI F) (base zz zz (by omega) (λ_=>by decide) (λA=>by omega)) an
  have Y:ab .i64 (1+v)=1+v:=a4 _ (by omega);show il.aQ s C d B L 0 ⟨none,0,0⟩ 0 0 0 _ 0 0 0 J op ⟨none,0,0⟩ 0 0 0 _ 0 0 0 N (ab .i64 (1+v)) z _;rw [Y];exact aO (λ_=>S1 7 (by decide) (by decide)) (λ_=>S1 _ (by omega) (by omega))
 .refine D.nw λz _ h=>h.aA (iL d 6 z (by omega) M) ?_;have av:=jC d 6 (by omega);generalize fS d 6=v at av;rintro _ E rfl q;obtain ⟨i,rfl⟩:∃i:Nat,v=(i:Int):=⟨v.toNat,by omega⟩;have Z:r'[i]? =some (r'[i]'(by show i<6;omega)):=bc _;have al:=U0 Z;generalize r'[i]'(by show i<6;omega)=t at Z al;have ac:Rd E ⟨some (aj G.heap.size),6,6⟩ (r'.map Value.string):=qO (T:=dy) (q.ob 2) rfl;refine ⟨_,rfl,by omega,by show (i:Int)<6;omega,Rd.get ac (i:=i) (v:=.string t) (by simp [Z]) (by omega) λp hp Q=>⟨t,Q,q.au λw9 P=>?_⟩⟩;exact H (st:=cF) (base zz zz W (λ_=>al) (λA=>by omega)) (P.take 2)
 .refine D.nw λz _ h=>h.aA (iL d 2 z (by omega) M) ?_;have aa:=jC d 2 (by omega);generalize fS d 2=v at aa;rintro _ E rfl q;obtain ⟨i,rfl⟩:∃i:Nat,v=(i:Int):=⟨v.toNat,by omega⟩;have Z:([⟨2,2,1⟩,⟨3,1,1⟩]:List bq)[i]? =some (([⟨2,2,1⟩,⟨3,1,1⟩]:List bq)[i]'(by show i<2;omega)):=bc _;generalize ([⟨2,2,1⟩,⟨3,1,1⟩]:List bq)[i]'(by show i<2;omega)=t at Z;have ac:bL 3 E ⟨some (aj G.heap.size),2,2⟩ (([⟨2,2,1⟩,⟨3,1,1⟩]:List bq).flatMap gi):=vS (T:=b3) (q.ob 2) rfl;obtain ⟨g1,g2,g3⟩:=dY ac rfl Z (K:=λp=>cr E (p.add (ag (i:Int) *3)) λa b c=>loc [L,J] E λw9=>il.aY s C d B L 0 ⟨none,0,0⟩ 0 0 0 (az #[]) 0 0 0 J op ⟨none,0,0⟩ 0 0 0 (az #[]) a b c N w9 λr y=>k4 w r y/\ao w y) (λp hp c=>⟨_,_,_,c.c0,c.c1,c.c2,q.au λw9 P=>H (st:=t) (base zz zz W (λ_=>by decide) (λA=>by omega)) (P.take 2)⟩);exact ⟨_,rfl,g1,g2,g3⟩
 .obtain ⟨xn,rfl⟩:∃xn:Nat,N=(xn:Int):=⟨N.toNat,by omega⟩;have hg:l[xn]? =some (l[xn]'(by omega)):=bc (by omega);generalize l[xn]'(by omega)=e at hg;have aG:=kW (hv e (aI hg));refine fa (be.1 (D.getD 0)) rfl hg λp hp c=>⟨_,c.s1,D.aA (iL d _ G (by split<;>omega) M) ?_⟩;have ak:=jC d (if 1<e.x.st.n then e.x.st.n else 1) (by split<;>omega);generalize fS d (if 1<e.x.st.n then e.x.st.n else 1)=a at ak;have ha:a<64:=by have:=ak.2;split at this<;>omega
  rintro _ z rfl h;have Y:ab .i64 (a+1)=a+1:=a4 _ (by omega);refine ⟨_,rfl,h.au λE q=>q.aA (iL B _ E (by rw [Y];omega) hk) ?_⟩;rw [Y];have aw:=jC B (a+1) (by omega);generalize fS B (a+1)=b at aw;rintro _ w9 rfl P;exact ⟨_,rfl,P.au λaB ad=>H (st:=cF) (base (by omega) (by omega) W (λ_=>by decide) (λA=>by omega)) ad⟩
 have S8:op≠33->il.nO s C d B L 0 ⟨none,0,0⟩ 0 0 0 (az #[]) 0 0 0 J op ⟨none,0,0⟩ 0 0 0 (az #[]) 0 0 0 N G λr y=>k4 w r y/\ao w y:=by intro aq;refine D.aA (iL d 2 G (by omega) M) ?_;have aa:=jC d 2 (by omega);generalize fS d 2=v at aa;rintro _ z rfl h;have Y:ab .i64 (1+v)=1+v:=a4 _ (by omega);refine ⟨_,rfl,h.au λE q=>?_⟩;rw [Y];exact H (st:=cF) (base (by omega) zz W (λ_=>by decide) (λA=>absurd A aq)) q
 refine aO (λh5=>bd (beq_iff_eq.2 h5) (S8 (by omega))) (λh5=>aO (λh6=>S8 (by omega)) (λh6=>aO (λh7=>?_) (λh7=>aO (λh8=>D.aA (NS d M G) ?_) (λh8=>H (st:=cF) (base zz zz W (λ_=>by decide) (λA=>absurd A h8)) D))))
 .refine D.aA (iL d 3 G (by omega) M) ?_;have aa:=jC d 3 (by omega);generalize fS d 3=v at aa;rintro _ z rfl h;exact ⟨_,rfl,h.au λE q=>H (st:=cF) (base (by omega) zz W (λ_=>by decide) (λA=>by omega)) q⟩
 .rintro _ z ⟨af,rfl⟩ h;exact ⟨_,rfl,h.au λE q=>H (st:=cF) (base zz zz W (λA=>absurd h8 A) (λ_=>⟨af,rfl⟩)) q⟩
def MdN.ok {d:Nx} (c:MdN d):mR d:=by
 refine ⟨by have:=c.kl;unfold dQ;omega,?_,?_,λe=>?_⟩
 .have:=c.n;exact ⟨by omega,by omega⟩
 .have:=c.m;exact ⟨by omega,by omega⟩
 .exact (IP (.inr (c.re e))).1
def iD.ok {g:List Nx} (c:iD g) (d:g.length<=dQ):ss g:=⟨d,c.vg.val,c.vg.vars⟩
def M3 (g:List Nx) (n:Nx):(eo g n).1.length<=g.length+1:=by
 unfold eo;split
 .simp
 .split
  .simp
  .split
   .simp
   .simp
def zo {g:List Nx} {n:Nx} (c:(eo g n).2.2=0):(bU g n).2=0/\∃k:Nat,(eo g n).2.1=(k:Int)/\(eo g n).1[k]? =some (eS n (bU g n).1)/\((eo g n).1=g\/(eS n (bU g n).1∉g/\(eo g n).1=g++[eS n (bU g n).1]/\k=g.length)):=by
 unfold eo at c ⊢;split at c
 .rename_i d;exact absurd c d
 rename_i d;have d:(bU g n).2=0:=by omega
 refine ⟨d,?_⟩;rw [af (by omega)];cases e:eB (eS n (bU g n).1) g 0 with
 |some i=>
  have:=tB e;rw [Nat.sub_zero] at this;exact ⟨i,rfl,this.2,.inl rfl⟩
 |none=>
  rw [e] at c;dsimp only at c ⊢;split at c
  .cases c
  .rename_i h;rw [af h];exact ⟨g.length,rfl,by simp,.inr ⟨wI e,rfl,rfl⟩⟩
def M6 {g:List Nx} {n:Nx} (d:Vg g) (e:(eo g n).2.2=0):Vg (eo g n).1:=by
 obtain ⟨h,q,_,_,c⟩:=zo e;rcases c with c|⟨j,k,_⟩
 .rw [c];exact d
 .rw [k];exact .snoc d (H' (by rw [<-h])) j
def M4 {g:List Nx} {n:Nx} (h:iD g) (d:MdN n) (k:(eo g n).2.2=0):iD (eo g n).1:=by
 refine ⟨M6 h.vg k,λj c=>?_⟩;obtain ⟨w,y,_,_,e⟩:=zo k;rcases e with e|⟨x,q,_⟩
 .rw [e] at c;exact h.nd j c
 .rw [q] at c;rcases List.mem_append.1 c with c|c
  .exact h.nd j c
  .simp only [aB,a1,a7] at c;subst c;exact ⟨d.CQ,d.CR,d.kl,d.n,d.m,d.u,d.tx,d.re⟩
def iD.kl {l:List Nd} (d:iD (xs l)):∀c∈l,c.x.kids.length<=dQ:=λc e=>by have:=(d.nd c.x (cQ.2 ⟨c,e,rfl⟩)).kl;unfold dQ;omega
def qA (w:I) (kind:Int) (d:Nat) (r:Ending) (w':I):Prop:=∃(s:O) (l:List Nd),r=V s.v/\iD (xs l)/\1<=l.length/\l.length<=10+d/\GP w' s l/\(∀b∈(En.gr s l).fp,w.heap.size<=b)/\∀c∈xs l,c.op=0->c∈xs (gj kind)
def M5 {g:List Nx} {n e:Nx} (h:n.op≠0) (c:e∈(eo g n).1) (d:e.op=0):e∈g:=by
 unfold eo at c;split at c
 .cases c
 .split at c
  .exact c
  .split at c
   .cases c
   .rcases List.mem_append.1 c with c|c
    .exact c
    .rw [List.mem_singleton.1 c] at d;exact absurd d h
def MQ (w:I) (c:Nat) (r:Ending) (w':I):Prop:=∃(s:O) (l:List Nd),r=V s.v/\iD (xs l)/\1<=l.length/\l.length<=10+c/\GP w' s l/\∀b∈(En.gr s l).fp,w.heap.size<=b
def NN {w:I} {ls:O} {c:List Int} (hr:bS w ls c) (ac:∀x∈c,cp x) (aV:c.length<=9223372036854775807) (kind:Int) (y:Nat) (hm:y<=1000):
  ai U xh #[ls.v,.i kind,.i (y:Int)] w λr q=>qA w kind y r q/\ao w q:=by
 have hn:=bS.len hr;have loop:∀(m i:Nat) (h:O) (l:List Nd) (S:I),i+m=y->iD (xs l)->(∀d∈xs l,d.op=0->d∈xs (gj kind))->1<=l.length->l.length<=10+i->(∀b∈(En.gr h l).fp,w.heap.size<=b)->LH F0 w S [] [.rd ls (c.map dp),.gr h l]->
   l4.aP ls kind (y:Int) h ((3 *i:Nat):Int) S λr q=>qA w kind y r q/\ao w q:=by
  intro m;have e3:ab .i64 (3 *(y:Int))=3 *(y:Int):=a4 _ (by omega);induction m with
  |zero=>
   intro i h l S hi B Q J h2 N G;have fin:l4.bh h S λr q=>qA w kind y r q/\ao w q:=⟨⟨h,l,rfl,B,J,by omega,be.1 (G.getD 1),N,Q⟩,G.fr⟩;exact l4.bW _ _ _ _ _ _ _ (aR (λ_=>a9 (a0 (by rw [e3];omega)) fin) (λ_=>fin))
  |succ m ih=>
   intro i h l S hi B Q J h2 N G;have fin:l4.bh h S λr q=>qA w kind y r q/\ao w q:=⟨⟨h,l,rfl,B,J,by omega,be.1 (G.getD 1),N,Q⟩,G.fr⟩;have aM:ab .i64 (((3 *i:Nat):Int)+1)=((3 *i+1:Nat):Int):=a4 _ (by omega);have aN:ab .i64 (((3 *i:Nat):Int)+2)=((3 *i+2:Nat):Int):=a4 _ (by omega);have aQ:ab .i64 (((3 *i:Nat):Int)+3)=((3 *(i+1):Nat):Int):=a4 _ (by omega);have next:∀(aa:O) (e:List Nd) (C:I),iD (xs e)->(∀d∈xs e,d.op=0->d∈xs (gj kind))->1<=e.length->e.length<=10+(i+1)->(∀b∈(En.gr aa e).fp,w.heap.size<=b)->LH F0 w C [] [.rd ls (c.map dp),.gr aa e]->l4.aY ls kind (y:Int) aa ((3 *i:Nat):Int) C λr q=>qA w kind y r q/\ao w q:=by intro aa e C Z gv g2 g3 g4 E;show l4.aP ls kind (y:Int) aa (ab .i64 (((3 *i:Nat):Int)+3)) C _;rw [aQ];exact ih (i+1) aa e C (by omega) Z gv g2 g3 g4 E
   have S1:∀(T:Nat) (d:Nd) (H:I) (L:List En),En.g T∈L->MdV d.x->d.P H->(∀b∈ay d.ks,w.heap.size<=b)->LH F0 w H L [.rd ls (c.map dp),.gr h l,cc d]->l4.a2 ls kind (y:Int) h ((3 *i:Nat):Int) T d.x.op d.ks d.x.n d.x.m d.x.u d.x.tx d.x.st.k d.x.st.n d.x.st.x H λr q=>qA w kind y r q/\ao w q:=by
    intro T d H L aS z pd Y D;have aK:(xs l).length=l.length:=by simp [xs]
    have D:LH F0 w H [] [.rd ls (c.map dp),.gr h l,cc d]:=D.take 0;refine iH ((Oh (be.1 (D.getD 1)) pd (B.ok (by rw [aK];unfold dQ;omega)) z.toMdN.ok B.kl).mono ?_);rintro _ w4 ⟨⟨s',rfl,⟨e,ae,G',F'⟩⟩,f4⟩;have af:∀b∈(En.gr s' e).fp,w.heap.size<=b:=λb F=>by
     rcases F' b F with (A|A)|A
     .exact N b A
     .exact oA Y b A
     .exact bH D.fr.size A
    have H4:=D.bA f4;have ap:LH F0 w w4 [] [.rd ls (c.map dp),.gr s' e]:=(D.fo (.gr s' e) f4 (be.2 G') (λb F=>by
     rcases F' b F with (A|A)|A
     .exact .inr (.inr ⟨_,aI (i:=1) rfl,A⟩)
     .exact .inr (.inr ⟨_,aI (i:=2) rfl,A⟩)
     .exact .inl A)).forget _ (by simp)
    have aq:∀{w6:I},LH F0 w w6 [] [.rd ls (c.map dp),.gr h l,cc d]->LH F0 w w6 [] [.rd ls (c.map dp),.gr h l]:=λG=>G.forget _ (by simp);refine ⟨f4,_,_,_,rfl,aO (λh0=>?_) (λh0=>next h l w4 B Q J (by omega) N (aq H4))⟩;obtain ⟨_,M,aA,av,_⟩:=zo h0;have am:iD (xs e):=by rw [ae];exact M4 B z.toMdN h0
    have aJ:∀W∈xs e,W.op=0->W∈xs (gj kind):=λW he A=>by rw [ae] at he;exact Q W (M5 z.nv he A) A
    have aE:e.length<=10+(i+1):=by have:=M3 (xs l) d.x;rw [<-ae] at this;simp only [xs,nr] at this;omega
    rw [<-ae] at av;have ad:M<e.length:=by have:=(List.getElem?_eq_some_iff.1 av).1;simpa [xs] using this
    have al:e[M]? =some (e[M]'ad):=bc ad;generalize e[M]'ad=W at al;rw [aA];refine fa (be.1 (ap.getD 1)) rfl al λp hp aj=>⟨_,_,_,aj.s0,aj.s1,aj.s2,?_⟩;refine iH ((OA kind W.x.st w4).mono ?_);rintro _ C ⟨⟨b,rfl⟩,f5⟩;have E:=ap.bA f5;have ag:=aq (H4.bA f5);refine ⟨f5,_,rfl,bE (λ_=>?_) (λ_=>next h l C B Q J (by omega) N ag)⟩;refine fa (be.1 (E.getD 1)) rfl al λp' aX c'=>⟨_,c'.s1,aR (λ_=>?_) (λ_=>next h l C B Q J (by omega) N ag)⟩;have aC:∀(i:Nat) (d:Nd),e[i]? =some d->d.x.kids.length<=1000000/\∀M∈d.x.kids,0<=M/\M<(i:Int):=λi d z=>by have ar:=nK z;have:=(am.nd d.x (aI ar)).kl;exact ⟨by omega,am.vg.kids ar⟩
    refine iH ((FL (be.1 (E.getD 1)) aC (M+1) M (by omega) ad C (Fr.refl _ _)).mono ?_);rintro _ w6 ⟨⟨aZ,rfl⟩,f6⟩;have f6:ao C w6:=f6;exact ⟨f6,_,rfl,aR (λ_=>next s' e w6 am aJ (by omega) aE af (E.bA f6)) (λ_=>next h l w6 B Q J (by omega) N (ag.bA f6))⟩
   refine l4.bW _ _ _ _ _ _ _ ?_;rw [aM,aN,e3];refine aR (λaU=>bd (aW (by omega)) (G.dr λw2 H2=>?_)) (λ_=>fin);have ak:bS w2 ls c:=H2.getD 0;have g0:c[3 *i]? =some (c[3 *i]'(by omega)):=bc (by omega);have Z:c[3 *i+1]? =some (c[3 *i+1]'(by omega)):=bc (by omega);have g2:c[3 *i+2]? =some (c[3 *i+2]'(by omega)):=bc (by omega);generalize c[3 *i]'(by omega)=x0 at g0;generalize c[3 *i+1]'(by omega)=x1 at Z;generalize c[3 *i+2]'(by omega)=x2 at g2;refine ⟨by omega,by omega,ak.cell g0 (by omega) λp0 aF c0=>⟨x0,c0,by omega,by omega,ak.cell Z (by omega) λp1 aG c1=>⟨x1,c1,by omega,by omega,ak.cell g2 (by omega) λp2 aH c2=>⟨x2,c2,?_,?_⟩⟩⟩⟩
   .have ah:=FA (be.1 (H2.getD 1)) J (by unfold dQ;omega) (λd z=>B.vg.val d.x (cQ.2 ⟨d,z,rfl⟩)) x0 x1 x2 (ac _ (aI g0)) (ac _ (aI Z)) (ac _ (aI g2));refine H2.sP ah ?_;rintro _ H ⟨d,rfl,z,pd,Y⟩ _ F3;have D:=F3.rd (cc d) pd (oA Y);refine ⟨_,_,_,_,_,_,_,_,_,rfl,D.aL λT w4 H4=>H4.au λC E=>?_⟩;exact S1 T d C _ (by simp) z (E.getD 2) (λb F=>bH H2.fr.size (Y b F)) E
   .refine H2.aL λT H D=>?_;have az:bS H ls c:=D.getD 0;have again:∀{j:Nat} {x:Int} {p:Addr} {X:Nat},c[j]? =some x->ls.a=some p->X=j *1->H.cell? (p.add X)=some (.int .i64 x):=by intro j x p X B hp hX;have:=az.cell B hX (K:=λan=>∃q',ls.a=some q'/\H.cell? (q'.add X)=some (.int .i64 x)) (λan hq hc=>⟨an,hq,hc⟩);rw [hp] at this;obtain ⟨an,hq,hc⟩:=this;cases hq;exact hc
    have ah:=FA (be.1 (D.getD 1)) J (by unfold dQ;omega) (λd z=>B.vg.val d.x (cQ.2 ⟨d,z,rfl⟩)) x0 x1 x2 (ac _ (aI g0)) (ac _ (aI Z)) (ac _ (aI g2));refine ⟨again g2 aH (by omega),again Z aG (by omega),again g0 aF (by omega),D.jF ah ?_⟩;rintro _ w4 ⟨d,rfl,z,pd,Y⟩ _ F4;have H4:=F4.rd (cc d) pd (oA Y);refine ⟨_,_,_,_,_,_,_,_,_,rfl,H4.au λC E=>?_⟩;exact S1 T d C _ (by simp) z (E.getD 2) (λb F=>bH D.fr.size (Y b F)) E
 refine l4.aD _ _ _ w _ ((Ov kind w).mono ?_);rintro _ S ⟨⟨s,rfl,⟨l,hl,ax,aw⟩⟩,f1⟩;have hlen:=Um kind;have aT:l.length=(gj kind).length:=by have:=congrArg List.length hl;simpa [xs] using this
 have af:∀b∈(En.gr s l).fp,w.heap.size<=b:=λb F=>(aw b F).resolve_left id;have G:LH F0 w w [] [.rd ls (c.map dp)]:=bZ _ (by intro W he;simp only [aB,a1,a7] at he;subst he;exact hr)
 have H1:=G.fo (.gr s l) f1 (be.2 ax) (λb F=>.inl (af b F));exact ⟨s,rfl,loop y 0 s l S (by omega) (by rw [hl];exact Un kind) (λd z _=>hl▸z) (by omega) (by omega) af H1⟩
def NM {w:I} {ls:O} {d:List Int} (A:bS w ls d) (z:∀B∈d,cp B) (y:d.length<=9223372036854775807) (kind:Int) (c:Nat) (x:c<=1000):
  ai U xh #[ls.v,.i kind,.i (c:Int)] w λr e=>MQ w c r e/\ao w e:=
 (NN A z y kind c x).mono λ_ _ ⟨⟨s,l,h,j,k,n,q,u,_⟩,f⟩=>⟨⟨s,l,h,j,k,n,q,u⟩,f⟩
structure vF (c:Nat) (d:Nx):Prop where
 kl:d.kids.length<=c
 n:cp d.n
 m:cp d.m
 u:0<=d.u
 tx:d.op=33->zg d.tx
def MdN.sp {d:Nx} (c:MdN d):vF 3 d:=⟨c.kl,⟨by have:=c.n;omega,by have:=c.n;omega⟩,⟨by have:=c.m;omega,by have:=c.m;omega⟩,c.u.1,λe=>.inr (c.re e)⟩
def vF.RZ {c:Nat} {d:Nx} (e:vF c d) (j:c<=100):mR d:=⟨by have:=e.kl;unfold dQ;omega,e.n,e.m,λh=>(IP (e.tx h)).1⟩
def NR {w:I} {s t:O} {l m:List Nd} (B:GP w s l) (g:GP w t m) (j:xs l=xs m) (K:l.length<=dQ) (J:∀c∈l,c.x.kids.length<=dQ):
  ai U BJ #[s.v,t.v] w λr A=>r=V (.bool true)/\ao w A:=by
 have S:=fu B;have Q:=fu g;have P:l.length=m.length:=by have:=congrArg List.length j;simpa [xs] using this
 unfold dQ at K;have D:LH F0 w w [] [.gr s l,.gr t m]:=bZ _ (by
  intro c j;simp only [aB,a1,a7] at j;rcases j with rfl|rfl
  .exact be.2 B
  .exact be.2 g)
 have loop:∀(k i:Nat) (y:I),i+k=l.length->LH F0 w y [] [.gr s l,.gr t m]->tg.L0 s t (i:Int) y λr A=>r=V (.bool true)/\ao w A:=by
  intro k;induction k with
  |zero=>
   intro i y H z;exact tg.b5 _ _ _ _ _ (a9 (a0 (by omega)) ⟨rfl,z.fr⟩)
  |succ k M=>
   intro i y H z;have h:l[i]? =some (l[i]'(by omega)):=bc (by omega);have q:m[i]? =some (m[i]'(by omega)):=bc (by omega);generalize l[i]'(by omega)=a at h;generalize m[i]'(by omega)=b at q;have G:a.x=b.x:=by have C:=nK h;have F:=nK q;rw [j,F] at C;exact (fQ C).symm
   refine tg.b5 _ _ _ _ _ (bd (aW (by omega)) (z.dr λZ e=>fa (be.1 (e.getD 0)) rfl h λp T d=>?_));refine ⟨a.x.op,a.ks,a.x.n,a.x.m,a.x.u,a.x.tx,a.x.st.k,a.x.st.n,a.x.st.x,d.c0,d.c1,d.c2,d.c3,d.c4,d.c5,d.c6,d.c7,d.c8,fa (be.1 (e.getD 1)) rfl q λY W c=>?_⟩;refine ⟨b.x.op,b.ks,b.x.n,b.x.m,b.x.u,b.x.tx,b.x.st.k,b.x.st.n,b.x.st.x,c.c0,c.c1,c.c2,c.c3,c.c4,c.c5,c.c6,c.c7,c.c8,?_⟩;refine e.call (Fj ((be.1 (e.getD 0)).2 a (aI h)) ((be.1 (e.getD 1)).2 b (aI q)) (J a (aI h))) ?_;rintro _ N rfl E;refine ⟨_,rfl,a9 (by rw [aW G];rfl) ?_⟩;rw [bw _ (by omega)];exact M (i+1) N (by omega) E
 refine tg.ok s t w _ (dG (λL=>absurd (by omega) L) (λ_=>loop l.length 0 w (by omega) D))
structure y9 (c:Nat) (d:Nx):Prop where
 sp:vF c d
 wd:fk d
 tl:d.tx.size<=1000
def y9.small {c:Nat} {d:Nx} (e:y9 c d) (h:c<=100):(df d).length<=1000000:=RV e.wd (by have:=e.sp.kl;omega) e.tl
def iD.gd {g:List Nx} (e:iD g) (F:g.length<=1000):∀d∈g,y9 3 d:=by
 intro d h;have c:=e.nd d h;obtain ⟨i,w⟩:=List.mem_iff_getElem?.1 h;have E:=(List.getElem?_eq_some_iff.1 w).1;have j:=e.vg.kids w;have H:=Em.1 (e.vg.val d h);have G:d.tx.size<=100:=by
  by_cases q:d.op=33
  .obtain ⟨k,j⟩:=c.re q;rw [j,cT];have:=LM k;omega
  .have:=c.tx q;omega
 have y:=c.CQ;have z:=c.CR;have A:=c.kl;have B:=c.n;have C:=c.m;have D:=c.u;exact ⟨c.sp,⟨⟨by omega,by omega⟩,λk x=>by have:=j k x;exact ⟨by omega,by omega⟩,by omega,⟨by omega,by omega⟩,⟨by omega,by omega⟩,⟨by omega,by omega⟩,by omega,⟨by omega,by omega⟩,⟨by omega,by omega⟩,⟨by omega,by omega⟩⟩,by omega⟩
def Mc:∀{r g:List Nx},Vg (g++r)->jt g r=0
 |[],_,_=>rfl
 |j::r,g,c=>by
  have h:(g++j::r)[g.length]? =some j:=by simp
  have d:=c.ok _ _ h;have e:=Er c _ _ h;rw [List.take_left] at d e;rw [yU,d,af (λc=>c rfl),af (λc=>c rfl),af e];exact Mc (by rw [cN];exact c)
def U' {g:List Nx} (c:Vg g) (d:g.length<=4096):gR g=0:=by unfold gR;rw [af (by omega)];exact Mc (by rwa [hV])
def Uc {g:List Nx} {n:Nx} (c:(bU g n).2=0) (d:n.op=33):jG n.tx=true:=by
 unfold bU at c;split at c
 .cases c
 .rw [af (by omega)] at c;split at c
  .cases c
  .split at c
   .cases c
   .split at c
    .cases c
    .rename_i e;cases h:jG n.tx with
     |true=>rfl
     |false=>exact absurd ⟨d,h⟩ e
def Mb:∀{r g:List Nx},jt g r=0->∀d∈r,d.op=33->jG d.tx=true
 |[],_,_,d,e,_=>by cases e
 |n::r,g,c,d,e,j=>by
  rw [yU] at c;split at c
  .rename_i h;exact absurd c h
  .rename_i h;split at c
   .cases c
   .split at c
    .cases c
    .rcases aB.1 e with k|e
     .subst k;exact Uc (by simpa using h) j
     .exact Mb c d e j
def Md {g:List Nx} (c:gR g=0):g.length<=4096/\∀d∈g,d.op=33->jG d.tx=true:=by
 unfold gR at c;split at c
 .cases c
 .rename_i e;exact ⟨by omega,Mb c⟩
structure EB (g:List Nx):Prop where
 w:∀d∈g,fk d
 n:∀d∈g,mR d
 z:∀d∈g,(df d).length<=1000000
def RQ {g:List Nx} {d:Nx} (c:d∈g):(df d).length<=(ho g).length:=by
 have:(df d).length<=(g.flatMap df).length:=by
  induction g with
  |nil=>cases c
  |cons a g h=>
   rw [cO,cd];rcases aB.1 c with e|c
   .subst e;omega
   .have:=h c;omega
 unfold ho;rw [cd];omega
def Pa {bs:List UInt8} (C:bs.length<=100000) (q:(fq bs).2=0):EB (fq bs).1:=by
 obtain ⟨u,w⟩:=Gl q;obtain ⟨B,y⟩:=Md w;have k:∀d∈(fq bs).1,fk d/\d.kids.length<=bs.length/\d.tx.size<=bs.length:=by
  have h:=(oy ⟨bs,0⟩).2;have ok:=JD (bQ ⟨bs,0⟩).1.toNat (bQ ⟨bs,0⟩).2 (bH h (by show bs.length<=_;omega));have h:(bQ ⟨bs,0⟩).2.bs.length<=bs.length:=h;intro d c;unfold fq at c;split at c
  .cases c
  .split at c
   .cases c
   .split at c
    .cases c
    .obtain ⟨e,z,A⟩:=ok d c;exact ⟨e,by omega,by omega⟩
 refine ⟨λd c=>(k d c).1,λd c=>?_,λd c=>?_⟩
 .obtain ⟨e,z,A⟩:=k d c;refine ⟨by unfold dQ;omega,e.n,e.m,λx=>⟨by omega,?_⟩⟩;have j:=y d c x;rw [j];exact R0 j
 .have:=RQ c;rw [u] at this;omega
def RW {n:Nx} (W:fk n) (z:n.kids.length<=3) (A:n.tx.size<=100):(df n).length<=300:=by have d:=eM _ W.op;have e:=tm _ W.ks;have h:=eM _ W.n;have j:=eM _ W.m;have k:=hl n.u.toNat (by have:=W.u;omega);have q:=eM _ W.sk;have w:=eM _ W.sn;have x:=eM _ W.sx;have y:=hl n.kids.length (by omega);have c:=hl (bl n.tx).length (by rw [ep];omega);have B:=ep n.tx;unfold df g2 hL;simp only [cd];omega
def iD.Qo {g:List Nx} (h:iD g) (q:g.length<=1000):EB g/\(ho g).length<=10+300 *g.length/\gR g=0:=by
 have e:=h.gd q;have w:∀c∈g,c.tx.size<=100:=λc d=>by
  have k:=h.nd c d;by_cases j:c.op=33
  .obtain ⟨u,n⟩:=k.re j;rw [n,cT];have:=LM u;omega
  .have:=k.tx j;omega
 refine ⟨⟨λc d=>(e c d).wd,λc d=>(e c d).sp.RZ (by omega),λc d=>(e c d).small (by omega)⟩,?_,U' h.vg (by omega)⟩;have x:=CD (z:=300) (g:=g) λc d=>RW (e c d).wd (h.nd c d).kl (w c d);have y:=eM (g.length:Int) ⟨by omega,by omega⟩;unfold ho;rw [cd];omega
set_option maxHeartbeats 2000000
namespace GC
noncomputable abbrev X:Fx:=⟨U,Tryz.f14,[],[]⟩
def ok (d:O) (e:Int) (w:I) (R:aa) (j:(0:Int)<=(if e<((d.n:Nat):Int) then e else ((d.n:Nat):Int))/\(if e<((d.n:Nat):Int) then e else ((d.n:Nat):Int))<=((d.c:Nat):Int)/\∃(t13:O) (h:I),a6 U (bb #[aH,aH] aH #[.slice none 0 0,.slice (if d.c=0 then d.a else d.a.map (·.add (0 *1))) ((ag (if e<((d.n:Nat):Int) then e else ((d.n:Nat):Int))) - 0) (d.c - 0)]) w=.ok (t13.v) h/\R (V (t13.v)) h):ai U oc #[d.v,.i e] w R:=aE X [] j
end GC
namespace GG
noncomputable abbrev X:Fx:=⟨U,Tryz.f55,[],[]⟩
def ok (c:Int) (w:I) (R:aa) (d:Y (ah (c<0)) (R (V (.u (ab .u64 ((ab .u64 (2 *(ab .u64 (ab .i64 (0 - (ab .i64 (c+1)))))))+1)))) w) (R (V (.u (ab .u64 (2 *(ab .u64 c))))) w)):ai U Bt #[.i c] w R:=aE X [] d
end GG
namespace s4
noncomputable abbrev X:Fx:=⟨U,Tryz.f28,[],[]⟩
abbrev P0:Ps:=[(0,.v [.U]),(3,.v [.s])]
def L0 (c:Int) (d:O) (w:I) (R:aa):Prop:=br P0 0 (X.Sem (ak [0,2,2])) c d w R
noncomputable def aZ:=bD X (ak [0,2,2]) P0 L0
def b5:∀(c:Int) (d:O) (w:I) (R:aa) (n:Y (ah (c>127)) (aN w (.cells #[.int .u8 (ab .u8 (ab .u64 (128+(dP c 128))))] b') λj=>
 ∃(t12:O) (e:I),a6 U (bb #[aH,aH] aH #[d.v,.slice (some (nb w)) 1 1]) j=.ok (t12.v) e/\L0 (ab .u64 (cz c 128)) t12 e R) (aN w (.cells #[.int .u8 (ab .u8 c)] b') λk=>
 ∃(t19:O) (h:I),a6 U (bb #[aH,aH] aH #[d.v,.slice (some (nb w)) 1 1]) k=.ok (t19.v) h/\R (V (t19.v)) h)),L0 c d w R:=mp (bF (X:=X) [aZ] (ak [0,2,2]) P0)
def ok (c:Int) (w:I) (R:aa) (d:L0 c ⟨none,0,0⟩ w R):ai U ru #[.u c] w R:=aE X [aZ] d
end s4
namespace GD
noncomputable abbrev X:Fx:=⟨U,Tryz.f26,[],[]⟩
def ok (c:Int) (w:I) (R:aa) (d:j2 Bt #[.i c] w λe j=>kA ru #[.u e] j λh k=>R (V (h.v)) k):ai U mf #[.i c] w R:=aE X [] d
end GD
namespace q2
noncomputable abbrev X:Fx:=⟨U,Tryz.f27,[],[]⟩
abbrev P0:Ps:=[(0,.v [.s]),(3,.v [.s]),(4,.v [.I])]
def L0 (d e:O) (c:Int) (w:I) (R:aa):Prop:=br P0 0 (X.Sem (ak [0,1,1,1,2])) d e c w R
noncomputable def aZ:=bD X (ak [0,1,1,1,2]) P0 L0
def b5:∀(d e:O) (c:Int) (w:I) (R:aa) (q:Y (ah (c<((d.n:Nat):Int))) (aw d c λj=>∃t19:Int,w.cell? (j.add (ag c *1))=some (.i t19)/\
 kA mf #[.i t19] w λt20 k=>∃(t21:O) (h:I),a6 U (bb #[aH,aH] aH #[e.v,t20.v]) k=.ok (t21.v) h/\L0 d t21 (ab .i64 (c+1)) h R) (R (V (e.v)) w)),L0 d e c w R:=mp (bF (X:=X) [aZ] (ak [0,1,1,1,2]) P0)
def ok (c:O) (w:I) (R:aa) (d:kA ru #[.u (ab .u64 ((c.n:Nat):Int))] w λe h=>L0 c e 0 h R):ai U Br #[c.v] w R:=aE X [aZ] d
end q2
namespace GF
noncomputable abbrev X:Fx:=⟨U,Tryz.f29,[],[]⟩
def ok (c:O) (w:I) (R:aa) (h:kA ru #[.u (ab .u64 ((c.n:Nat):Int))] w λj k=>∃(d:O) (e:I),a6 U (bb #[aH,aH] aH #[j.v,c.v]) k=.ok (d.v) e/\R (V (d.v)) e):ai U Bs #[c.v] w R:=aE X [] h
end GF
namespace te
noncomputable abbrev X:Fx:=⟨U,Tryz.f7,[],[5]⟩
abbrev P0:Ps:=[(0,.v [.s]),(3,.v [.s]),(4,.v [.I])]
def aP (c e:O) (d:Int) (w:I) (R:aa):Prop:=br P0 0 (X.Sem (ak [0,1,1,1,2])) c e d w R
noncomputable def aZ:=bD X (ak [0,1,1,1,2]) P0 aP
def bW:∀(e j:O) (d:Int) (w:I) (R:aa) (aj:Y (ah (d<((e.n:Nat):Int))) (aw e d λP=>lu w (P.add (ag d *9)) λQ S T W Z ac ad ae af=>aJ [] w λc w2=>
 loc [c] w2 λai=>fU [c] mf #[.i Q] ai λt22 E=>∃(t23:O) (k:I),a6 U (bb #[aH,aH] aH #[j.v,t22.v]) E=.ok (t23.v) k/\kept [c] E k/\fU [c] Br #[S.v] k λt27 F=>∃(t28:O) (q:I),a6 U (bb #[aH,aH] aH #[t23.v,t27.v]) F=.ok (t28.v) q/\kept [c] F q/\fU [c] mf #[.i T] q λt32 G=>∃(t33:O) (x:I),a6 U (bb #[aH,aH] aH #[t28.v,t32.v]) G=.ok (t33.v) x/\kept [c] G x/\fU [c] mf #[.i W] x λt37 H=>∃(t38:O) (y:I),a6 U (bb #[aH,aH] aH #[t33.v,t37.v]) H=.ok (t38.v) y/\kept [c] H y/\fU [c] ru #[.u Z] y λt42 J=>∃(t43:O) (h:I),a6 U (bb #[aH,aH] aH #[t38.v,t42.v]) J=.ok (t43.v) h/\kept [c] J h/\∃(t47:O) (z:I),a6 U (Go.convert dy aH (.string ac)) h=.ok (t47.v) z/\kept [c] h z/\fU [c] Bs #[t47.v] z λt48 K=>∃(t49:O) (A:I),a6 U (bb #[aH,aH] aH #[t43.v,t48.v]) K=.ok (t49.v) A/\kept [c] K A/\fU [c] mf #[.i ad] A λt54 L=>∃(t55:O) (B:I),a6 U (bb #[aH,aH] aH #[t49.v,t54.v]) L=.ok (t55.v) B/\kept [c] L B/\fU [c] mf #[.i ae] B λt60 M=>∃(t61:O) (C:I),a6 U (bb #[aH,aH] aH #[t55.v,t60.v]) M=.ok (t61.v) C/\kept [c] M C/\fU [c] mf #[.i af] C λt66 N=>∃(t67:O) (D:I),a6 U (bb #[aH,aH] aH #[t61.v,t66.v]) N=.ok (t67.v) D/\kept [c] N D/\aP e t67 (ab .i64 (d+1)) D R) (R (V (j.v)) w)),aP e j d w R:=mp (bF (X:=X) [aZ] (ak [0,1,1,1,2]) P0)
def aD (c:O) (w:I) (R:aa) (d:kA mf #[.i ((c.n:Nat):Int)] w λe h=>aP c e 0 h R):ai U BH #[c.v] w R:=aE X [aZ] d
end te
def wG {w0 w:I} {s src:O} {xs h:List UInt8} (F:ao w0 w) (x:eU w s xs) (j:∀e∈ay s,w0.heap.size<=e) (y:Bytes w src h) (z:xs.length+h.length<=100000000000000):
  ∃c d,(bb #[aH,aH] aH #[s.v,src.v]).run U w=.ok c.v d/\eU d c (xs++h)/\ao w0 d/\(∀e∈ay c,w0.heap.size<=e):=by obtain ⟨c,d,k,n,q,u,_⟩:=vM (ty:=aH) x y (by omega);exact ⟨c,d,k,n,PW F j q,RH F j u⟩
def Hy {w0 w:I} {s:O} {xs:List UInt8} (F:ao w0 w) (n:eU w s xs) (k:∀h∈ay s,w0.heap.size<=h) (c:UInt8) (q:xs.length<=10000000000000):
  ∃d e,(bb #[aH,aH] aH #[s.v,.slice (some (Addr.mk w.heap.size 0 none)) 1 1]).run U (w.alloc (.cells #[.int .u8 (c.toNat:Int)] b'))=.ok d.v e/\eU e d (xs++[c])/\ao w0 e/\(∀h∈ay d,w0.heap.size<=h):=by have j:ao w (w.alloc (.cells #[.int .u8 (c.toNat:Int)] b')):=Fr.alloc _ _ _;exact wG (src:=⟨some ⟨w.heap.size,0,none⟩,1,1⟩) (F.cR j) (n.bA j) k (CN w c) (by simp;omega)
def Pf {w0:I}:∀(n:Nat) (w:I) (out:O) (bs:List UInt8),n<18446744073709551616->bs.length+(dF n).length<=100->ao w0 w->eU w out bs->(∀D∈ay out,w0.heap.size<=D)->
  s4.L0 (n:Int) out w (kv w0 (bs++dF n)):=by
 intro n;induction n using Nat.strongRecOn with
 |_ n C=>
  intro w out bs E d y z A;refine s4.b5 _ _ _ _ (bE (λu=>?_) (λu=>?_))
  .have x:¬n<128:=by have:=ef u;omega
   rw [lk x] at d ⊢;have B:ab .u8 (ab .u64 (128+(dP (n:Int) 128)))=((cS (n%128+128)).toNat:Int):=by rw [IntWalk.rem_in _ _ (by omega),IntWalk.u64_in _ (by omega),IntWalk.u8_in _ (by omega)];simp;omega
   rw [B];obtain ⟨c,e,h,j,k,q⟩:=Hy y z A (cS (n%128+128)) (by simp at d;omega);refine ⟨c,e,h,?_⟩;show s4.L0 (ab .u64 (cz (n:Int) 128)) c e _;rw [IntWalk.u64_quo _ _ (by omega),show ((n:Int) / 128)=((n / 128:Nat):Int) from rfl,show bs++cS (n%128+128)::dF (n / 128)=(bs++[cS (n%128+128)])++dF (n / 128) by simp];exact C (n / 128) (by omega) e c _ (by omega) (by simp at d ⊢;omega) k j q
  .have x:n<128:=by have:=gS u;omega
   rw [kF x] at d ⊢;rw [show ab .u8 (n:Int)=((cS n).toNat:Int) from by rw [Ek];simp];obtain ⟨c,e,h,j,k,q⟩:=Hy y z A (cS n) (by simp at d;omega);exact ⟨c,e,h,c,rfl,j,k,q⟩
def wg (n:Nat) (c:n<18446744073709551616) (w:I):ai U ru #[.int .u64 (n:Int)] w (kv w (dF n)):=by have:=hl n c;exact s4.ok _ w _ (Pf n w ⟨none,0,0⟩ [] c (by simp;omega) (Fr.refl _ _) (Ow.nil _ _) (by simp [ay]))
def Pg (n:Int) (e:cp n) (w:I):ai U Bt #[.int .i64 n] w λr h=>r=V (.int .u64 (zz n:Int))/\w=h:=by
 obtain ⟨j,k⟩:=e;refine GG.ok _ w _ (bE (λc=>?_) (λc=>?_))
 .have d:=ef c;refine ⟨?_,rfl⟩;rw [a4 (n+1) (by omega),a4 _ (by omega),IntWalk.u64_in (0 - (n+1)) (by omega),IntWalk.u64_in (2 *(0 - (n+1))) (by omega),IntWalk.u64_in _ (by omega)];congr 2;unfold zz;rw [af (by omega)];omega
 .have d:=gS c;refine ⟨?_,rfl⟩;rw [IntWalk.u64_in n (by omega),IntWalk.u64_in _ (by omega)];congr 2;unfold zz;rw [aq (by omega)];omega
def nW (n:Int) (c:cp n) (w:I):ai U mf #[.int .i64 n] w (kv w (cL n)):=by refine GD.ok _ w _ ((Pg n c w).mono ?_);rintro r e ⟨rfl,rfl⟩;refine ⟨_,rfl,(wg (zz n) (y6 n c.1 c.2) w).mono ?_⟩;rintro r e ⟨s,rfl,d⟩;exact ⟨s,rfl,s,rfl,d⟩
def Pe {w:I} {s:O} {b:List UInt8} (d:Bytes w s b) (y:b.length<=1000000000):ai U Bs #[s.v] w (kv w (hL b)):=by refine GF.ok _ w _ ?_;rw [Bytes.len d,mD _ (by omega)];refine (wg b.length (by omega) w).mono ?_;rintro r z ⟨t,rfl,u,c,q⟩;have:=hl b.length (by omega);obtain ⟨e,x,h,j,k,n⟩:=wG c u q (d.bA c) (by omega);exact ⟨t,rfl,e,x,h,e,rfl,j,k,n⟩
def Pd {w0:I} {s:O} {l:List Int} (x:bS w0 s l) (hi:∀q∈l,cp q) (K:l.length<=1000000000):∀(d i:Nat),i+d=l.length->∀(w:I) (out:O) (bs:List UInt8),bs.length<=10+10 *i->ao w0 w->eU w out bs->(∀q∈ay out,w0.heap.size<=q)->
  q2.L0 s out (i:Int) w (kv w0 (bs++(l.drop i).flatMap cL)):=by
 have L:=bS.len x;intro d;induction d with
 |zero=>
  intro i E w out bs D c h j;refine q2.b5 _ _ _ _ _ (a9 (a0 (by omega)) ?_);rw [dt (by omega)];exact ⟨out,rfl,by simpa using h,c,j⟩
 |succ d H=>
  intro i E w out bs D c h j;have e:i<l.length:=by omega
  have F:l[i]? =some l[i]:=bc e;have y:=hi _ (List.getElem_mem e);refine q2.b5 _ _ _ _ _ (bd (aW (by omega)) ⟨by omega,by omega,bS.cell (x.bA c) F (by rw [dJ]) λp _ G=>⟨_,G,(nW _ y w).mono ?_⟩⟩);rintro r N ⟨t,rfl,J,u,M⟩;have:=eM _ y;obtain ⟨k,n,z,A,B,C⟩:=wG (c.cR u) (h.bA u) j J.rd (by omega);refine ⟨t,rfl,k,n,z,?_⟩;show q2.L0 s k (ab .i64 ((i:Int)+1)) n _;rw [bw i (by omega),dq e,cO,<-cN];exact H (i+1) (by omega) n k _ (by simp;omega) B A C
def Pc {w:I} {s:O} {l:List Int} (c:bS w s l) (hi:∀n∈l,cp n) (e:l.length<=1000000000):ai U Br #[s.v] w (kv w (g2 l)):=by refine q2.ok _ w _ ?_;rw [bS.len c,mD _ (by omega)];refine (wg l.length (by omega) w).mono ?_;rintro r k ⟨t,rfl,j,d,h⟩;have q:=hl l.length (by omega);refine ⟨t,rfl,?_⟩;have:=Pd c hi e l.length 0 (by omega) k t _ (by omega) d j h;rw [List.drop_zero] at this;exact this
namespace AU
noncomputable abbrev X:Fx:=⟨U,Tryz.f61,[],[]⟩
abbrev S0 (c:Int) (w:I) (R:aa):Prop:=
 R (V (.u (i6 .u64 c (Int.fdiv c (2^(32)))))) w
noncomputable def bf:=aC X [] (ak [2]) [(5,.v [.U])] S0
def ok (c d:Int) (w:I) (R:aa) (e:S0 (ab .u64 ((i6 .u64 c d) *11400714819323198485)) w R):ai U oe #[.u c,.u d] w R:=aE X [bf] e
end AU
namespace HB
noncomputable abbrev X:Fx:=⟨U,Tryz.f36,[],[]⟩
def ok (c:O) (w:I) (R:aa) (d:aN w (.cells #[c.v] aH) λe=>
 R (V (.func (.func iM) #[] #[.pointer (some (nb w))])) e):ai U xn #[c.v] w R:=aE X [] d
end HB
namespace l8
noncomputable def C0:Code:=(Tryz.f60.body).getD .skip
noncomputable def C1:=C0.sn
noncomputable def C2:=C1.fs
noncomputable def C3:=C2.fs
abbrev Q0 (R:aa):e5:=(bodyPost U Tryz.f60 R)
abbrev Q1 (R:aa):e5:=(Exit.inBlock 0 (Q0 R))
def L0 (e:Nat) (d:Addr) (c:Int) (w:I) (R:aa):Prop:=LP U (cx 40) C3 (Q1 R) [(0,.func (.yield e) #[] #[]),(1,.pointer (some d)),(3,.i c)] w
def nM (E:Env) (w:I) (R:aa):Prop:=W.o2 (Env.get? E 0) λe=>W.cf (Env.get? E 1) λd=>W.asInt .i64 (Env.get? E 3) λc=>L0 e d c w R
def qy:ze U 40 nM C3 Q1:=by intro w u z d;obtain ⟨A,k,e⟩:=W.sH d;obtain ⟨y,n,h⟩:=W.cu e;obtain ⟨x,q,j⟩:=W.eK h;intro a c;exact j a (c.cons k (c.cons n (c.cons q c.nil)))
noncomputable def C4:=C3.sn
noncomputable def C5:=C4.fs
noncomputable def C6:=C5.fs
noncomputable def C7:=C6.sn
noncomputable def C8:=C7.fs
noncomputable def C9:=C8.sn
noncomputable def gT:=C9.fs
noncomputable def fA:=gT.fs
noncomputable def iz:=C4.sn
abbrev Q2 (R:aa):e5:=(Exit.then (e3 U (cx 40) iz (Exit.then (jy U (cx 40) C3 (Q1 R)) (Q1 R))) (Exit.then (jy U (cx 40) C3 (Q1 R)) (Q1 R)))
noncomputable def iZ:=C7.sn
abbrev Q3 (R:aa):e5:=(Exit.then (e3 U (cx 40) iZ (Exit.inBlock 1 (Q2 R))) (Exit.inBlock 1 (Q2 R)))
abbrev Q4 (R:aa):e5:=(Exit.inBlock 2 (Q3 R))
def L1 (j:Nat) (e:Addr) (c h d:Int) (w:I) (R:aa):Prop:=LP U (cx 40) fA (Q4 R) [(0,.func (.yield j) #[] #[]),(1,.pointer (some e)),(3,.i c),(4,.u h),(5,.i d)] w
def y' (E:Env) (w:I) (R:aa):Prop:=W.o2 (Env.get? E 0) λj=>W.cf (Env.get? E 1) λe=>W.asInt .i64 (Env.get? E 3) λc=>W.asInt .u64 (Env.get? E 4) λh=>W.asInt .i64 (Env.get? E 5) λd=>L1 j e c h d w R
def ED:ze U 40 y' fA Q4:=by intro A z E d;obtain ⟨G,q,e⟩:=W.sH d;obtain ⟨D,u,h⟩:=W.cu e;obtain ⟨B,w,j⟩:=W.eK h;obtain ⟨F,x,k⟩:=W.eK j;obtain ⟨C,y,n⟩:=W.eK k;intro a c;exact n a (c.cons q (c.cons u (c.cons w (c.cons x (c.cons y c.nil)))))
noncomputable def jw:=fA.sn
noncomputable def gU:=jw.sn
abbrev Q5 (R:aa):e5:=(Exit.then (jy U (cx 40) fA (Q4 R)) (Q4 R))
abbrev S2 (j:Nat) (e:Addr) (c h d:Int) (w:I) (R:aa):Prop:=
 L1 j e c h (ab .i64 (d+1)) w R
def k1 (E:Env) (w:I) (R:aa):Prop:=W.o2 (Env.get? E 0) λj=>W.cf (Env.get? E 1) λe=>W.asInt .i64 (Env.get? E 3) λc=>W.asInt .u64 (Env.get? E 4) λh=>W.asInt .i64 (Env.get? E 5) λd=>S2 j e c h d w R
def oT:sA U 40 k1 gU Q5:=by intro e d h j;obtain ⟨M,A,q⟩:=W.sH j;obtain ⟨J,B,w⟩:=W.cu q;obtain ⟨G,C,x⟩:=W.eK w;obtain ⟨L,D,y⟩:=W.eK x;obtain ⟨H,F,z⟩:=W.eK y;exact λa c=>WP.at (E:=[(0,.func (.yield M) #[] #[]),(1,.pointer (some J)),(3,.i G),(4,.u L),(5,.i H)]) (rg gU (K:=λd h=>y' d h e) (by kernel_rfl) (mp z) λ_ _ a k n=>ED e _ _ n a k) (c.cons A (c.cons B (c.cons C (c.cons D (c.cons F c.nil)))))
abbrev Q6 (R:aa):e5:=(Exit.inBlock 1 (Q2 R))
noncomputable def gV:=iZ.sn
noncomputable def jZ:=gV.fs
noncomputable def jx:=gV.sn
abbrev S3 (d:Nat) (h:Addr) (e j:Int) (w:I) (R:aa):Prop:=
 kY U d #[.u j] w λ(t38:Bool) c=>Y (!t38) (R (V (.tuple #[])) c) (L0 d h (ab .i64 (e+8)) c R)
def mN (E:Env) (w:I) (R:aa):Prop:=W.o2 (Env.get? E 0) λh=>W.cf (Env.get? E 1) λd=>W.asInt .i64 (Env.get? E 3) λc=>W.asInt .u64 (Env.get? E 4) λe=>S3 h d c e w R
def oU:sA U 40 mN iZ Q6:=by intro k d e n;obtain ⟨H,z,q⟩:=W.sH n;obtain ⟨F,A,w⟩:=W.cu q;obtain ⟨D,B,x⟩:=W.eK w;obtain ⟨G,C,y⟩:=W.eK x;exact λa j=>WP.at (E:=[(0,.func (.yield H) #[] #[]),(1,.pointer (some F)),(3,.i D),(4,.u G)]) (sr iZ (K:=λd e=>g1 (Env.val d (.tmp 39)) (jU U Tryz.f60 d e (λv=>k (V v) e)) (rV U iz (λd e=>nM d e k) d e)) (mp y) λ_ _ c=>(cn gV c (λc=>(rt jZ λa h=>rU h c)) (λc=>(sk jx λa h=>nx h (rg iz (by kernel_rfl) c λ_ _ a h c=>qy k _ _ c a h))))) (j.cons z (j.cons A (j.cons B (j.cons C j.nil))))
noncomputable def i0:=fA.fs
noncomputable def iA:=jw.fs
noncomputable def h2:=iA.fs
noncomputable def kp:=i0.sn
noncomputable def mG:=kp.fs
noncomputable def oO:=kp.sn
def fC (q:Nat) (h:Addr) (e k d:Int) (w:I) (R:aa) (y:Y (ah (d<8)) (∃t18:O,w.cell? h=some (t18.v)/\
 Y (ah ((ab .i64 (e+d))<((t18.n:Nat):Int))) (∃t25:O,w.cell? h=some (t25.v)/\
 aw t25 (ab .i64 (e+d)) λz=>∃t30:Int,w.cell? (z.add (ag (ab .i64 (e+d)) *1))=some (.int .u8 t30)/\
 ¬(ab .i64 (8 *d))<0/\S2 q h e (k9 .u64 k (ab .u64 ((ab .u64 t30) *2^(min (ag (ab .i64 (8 *d))) (IntKind.bits .u64))))) d w R) (S3 q h e k w R)) (S3 q h e k w R)):L1 q h e k d w R:=
 LP.step (n:=(cx 40)) (c:=fA) (E:=[(0,.func (.yield q) #[] #[]),(1,.pointer (some h)),(3,.i e),(4,.u k),(5,.i d)]) (w:=w) (sq fA (sr i0 (show (λ(E:Env) (w:I)=>dN U i0 (λE w=>g1 (Env.val E (.tmp 21)) (rV U h2 (λE w=>k1 E w R) E w) (mN E w R)) E w) [(0,.func (.yield q) #[] #[]),(1,.pointer (some h)),(3,.i e),(4,.u k),(5,.i d)] w from mp y) λ_ _ j=>(cn kp j (λj=>(sk mG λa x=>nx x (sq jw (bk iA 3 (by kernel_rfl) (rg h2 (by kernel_rfl) j λ_ _ a x j=>nx x (oT R _ _ j)))))) (λj=>(xt oO 2 (by kernel_rfl) λa x=>nx x (oU R _ _ j))))))
noncomputable def mH:=C3.fs
noncomputable def mI:=mH.sn
noncomputable def mJ:=mI.fs
noncomputable def oP:=mI.sn
def b5 (j:Nat) (h:Addr) (e:Int) (w:I) (R:aa) (u:∃q:O,w.cell? h=some (q.v)/\
 Y (ah (e<((q.n:Nat):Int))) (L1 j h e 0 0 w R) (R (V (.tuple #[])) w)):L0 j h e w R:=
 LP.step (n:=(cx 40)) (c:=C3) (E:=[(0,.func (.yield j) #[] #[]),(1,.pointer (some h)),(3,.i e)]) (w:=w) (sq C3 (sr mH (show (λ(E:Env) (w:I)=>dN U mH (λE w=>g1 (Env.val E (.tmp 9)) (dN U C6 (λE w=>dN U C8 (λE w=>y' E w R) E w) E w) (jU U Tryz.f60 E w (λv=>R (V v) w))) E w) [(0,.func (.yield j) #[] #[]),(1,.pointer (some h)),(3,.i e)] w from mp u) λ_ _ d=>(cn mI d (λd=>(sk mJ λa k=>nx k (sq C4 (bk C5 1 (by kernel_rfl) (sr C6 d λ_ _ d=>(sq C7 (sr C8 d λ_ _ d=>(bk C9 2 (by kernel_rfl) (lp gT (by kernel_rfl) (ED R _ _ d)))))))))) (λd=>(xt oP 0 (by kernel_rfl) λa k=>rU k d)))))
def ok (e:Nat) (d:Addr) (w:I) (R:aa) (h:L0 e d 0 w R):ai U iM #[.func (.yield e) #[] #[],.pointer (some d)] w R:=
 sQ (R:=R) (fn:=Tryz.f60) (c:=C0) (args:=[.func (.yield e) #[] #[],.pointer (some d)]) (by kernel_rfl) (by kernel_rfl) (by kernel_rfl) (sr C0 (show (λ(E:Env) (w:I)=>dN U C0 (λE w=>nM E w R) E w) (ja 0 [.func (.yield e) #[] #[],.pointer (some d)]) w from mp h) λ_ _ j=>(bk C1 0 (by kernel_rfl) (lp C2 (by kernel_rfl) (qy R _ _ j))))
end l8
namespace jL
noncomputable def C0:Code:=(Tryz.f37.body).getD .skip
noncomputable def C1:=C0.sn
noncomputable def C2:=C1.sn
noncomputable def C3:=C2.fs
noncomputable def C4:=C3.sn
noncomputable def C5:=C4.fs
noncomputable def C6:=W.Code.zv C5
noncomputable def C7:=W.Code.zy C5
noncomputable def C8:=C7.fs
abbrev Q0 (l_:Nat) (c:Loop) (R:aa):Exit->Act->I->Prop:=(roundPost U l_ R)
abbrev Q1 (l_:Nat) (c:Loop) (R:aa):Exit->Act->I->Prop:=(Exit.inBlock 1 (Q0 l_ c R))
abbrev S2 (l_:Nat) (c:e4->Option Code->Obj) (d:Addr) (k:Int) (w:I) (R:aa):Prop:=
 ∃t13:Int,w.cell? d=some (.u t13)/\
 j2 oe #[.u t13,.u k] w λt15 e=>av e d (.u t15) λh=>
 g6 h l_ (c .busy none) (c .ready none) λj=>R (V (.bool true)) j
def k1 (l_:Nat) (c:e4->Option Code->Obj) (E:Env) (w:I) (R:aa):Prop:=W.cf (Env.get? E 5) λd=>W.asInt .u64 (Env.get? E 6) λe=>S2 l_ c d e w R
def oT (l_:Nat) (d:Loop) (R:aa) (E:Env) (w:I) (j:k1 l_ (lo d) E w R):WP U ⟨39,[],some l_⟩ C8 (Q1 l_ d R) E w:=by obtain ⟨z,x,k⟩:=W.cu j;obtain ⟨B,y,q⟩:=W.eK k;exact λa e=>WP.at (n:=⟨39,[],some l_⟩) (E:=[(5,.pointer (some z)),(6,.u B)]) (WP.gN (c:=C8) (λE w=>g6 w l_ ((lo d) .busy none) ((lo d) .ready none) λA=>R (V (.bool true)) A) (by kernel_rfl) (mp q) λ_ _ a C h=>Dw (a:=a) (h).1 (h).2) (e.cons x (e.cons y e.nil))
abbrev Q2 (l_:Nat) (c:Loop) (R:aa):Exit->Act->I->Prop:=(oX U 39 l_ c C7 (roundPost U l_ R))
abbrev S1 (l_:Nat) (c:e4->Option Code->Obj) (d:Addr) (t12:Int) (w:I) (R:aa):Prop:=
 g6 w l_ (c .ready none) (c .busy none) λe=>S2 l_ c d t12 e R
def sv (l_:Nat) (c:e4->Option Code->Obj) (E:Env) (w:I) (R:aa):Prop:=W.cf (Env.get? E 5) λd=>W.asInt .u64 (Env.get? E 12) λt12=>S1 l_ c d t12 w R
def sw (l_:Nat) (d:Loop) (R:aa) (E:Env) (w:I) (j:sv l_ (lo d) E w R):WP U ⟨39,[],some l_⟩ C6 (Q2 l_ d R) E w:=by obtain ⟨B,A,q⟩:=W.cu j;obtain ⟨t12,z,y⟩:=W.eK q;exact λa e=>WP.at (n:=⟨39,[],some l_⟩) (E:=[(5,.pointer (some B)),(12,.u t12)]) (WP.gN (c:=C6) (λE w=>w.heap[l_]? =some (lo d .ready none)/\((λw=>k1 l_ (lo d) E w R) (w.putObj l_ (lo d .busy none)))) (by kernel_rfl) (mp y) λ_ _ a k h=>⟨(h).1,(WP.block (c:=C7) (x:=C8) (id:=1) (by kernel_rfl) (oT l_ d R _ _ (h).2)) a k⟩) (e.cons A (e.cons z e.nil))
abbrev mF (l_:Nat) (c:e4->Option Code->Obj) (j:ByteArray) (h:O) (d k:Addr) (e:Int) (w:I) (R:aa):Prop:=
 S1 l_ c d e w R
def sG (l_:Nat) (c:Loop) (e:ByteArray) (d:O) (h j:Addr) (k:Int) (w:I) (R:aa) (n:mF l_ (lo c) e d h j k w R):WP U ⟨39,[],some l_⟩ C6 (oX U 39 l_ c C7 (roundPost U l_ R)) (mo [(0,.string e),(1,d.v),(5,.pointer (some h)),(11,.func (.func iM) #[] #[.pointer (some j)])] [12] [.u k]) w:=
 (sw l_ c R _ _ (mp n))
noncomputable def C9:=C2.sn
noncomputable def gT:=C9.sn
noncomputable def fA:=gT.sn
noncomputable def iz:=fA.fs
noncomputable def iZ:=iz.sn
noncomputable def jw:=iZ.fs
noncomputable def gU:=jw.fs
noncomputable def gV:=fA.sn
abbrev Q3 (R:aa):e5:=(Exit.then (e3 U (cx 39) gV (bodyPostM Fence.wide 0 U Tryz.f37 R)) (bodyPostM Fence.wide 0 U Tryz.f37 R))
abbrev Q4 (R:aa):e5:=(Exit.inBlock 2 (Q3 R))
def L6 (c:Nat) (d:Addr) (t26:O) (t27 t28:Int) (w:I) (R:aa):Prop:=LP U (marked 39 c) gU (Q4 R) [(5,.pointer (some d)),(26,t26.v),(27,.i t27),(28,.i t28)] w
def za (c:Nat) (E:Env) (w:I) (R:aa):Prop:=W.cf (Env.get? E 5) λd=>W.asSlice (Env.get? E 26) λt26=>W.asInt .i64 (Env.get? E 27) λt27=>W.asInt .i64 (Env.get? E 28) λt28=>L6 c d t26 t27 t28 w R
def EE (d:Nat) (R:aa) (E:Env) (w:I) (e:za d E w R):LP U (marked 39 d) gU (Q4 R) E w:=by obtain ⟨z,y,h⟩:=W.cu e;obtain ⟨t26,q,j⟩:=W.k6 h;obtain ⟨t27,u,k⟩:=W.eK j;obtain ⟨t28,x,n⟩:=W.eK k;intro a c;exact n a (c.cons y (c.cons q (c.cons u (c.cons x c.nil))))
noncomputable def jZ:=gU.sn
noncomputable def jx:=jZ.sn
noncomputable def i0:=jx.sn
abbrev Q5 (R:aa):e5:=(Exit.then (jy U (cx 39) gU (Q4 R)) (Q4 R))
abbrev qG (c:Nat) (d:Addr) (t26:O) (t27 t28:Int) (w:I) (R:aa):Prop:=
 L6 c d t26 t27 (ab .i64 (t28+1)) w R
def EF (c:Nat) (E:Env) (w:I) (R:aa):Prop:=W.cf (Env.get? E 5) λd=>W.asSlice (Env.get? E 26) λt26=>W.asInt .i64 (Env.get? E 27) λt27=>W.asInt .i64 (Env.get? E 28) λt28=>qG c d t26 t27 t28 w R
def MJ (d:Nat) (R:aa) (E:Env) (w:I) (h:EF d E w R):WP U (marked 39 d) i0 (Q5 R) E w:=by obtain ⟨D,C,q⟩:=W.cu h;obtain ⟨t26,z,u⟩:=W.k6 q;obtain ⟨t27,A,x⟩:=W.eK u;obtain ⟨t28,B,y⟩:=W.eK x;exact λa e=>WP.at (n:=(marked 39 d)) (E:=[(5,.pointer (some D)),(26,t26.v),(27,.i t27),(28,.i t28)]) (WP.gN (c:=i0) (λE w=>za d E w R) (by kernel_rfl) (mp y) λ_ _ a j k=>EE d R _ _ k a j) (e.cons C (e.cons z (e.cons A (e.cons B e.nil))))
noncomputable def iA:=jx.fs
noncomputable def h2:=iA.fs
noncomputable def kp:=h2.sn
abbrev Q6 (R:aa):e5:=(Exit.then (e3 U (cx 39) i0 (Exit.then (jy U (cx 39) gU (Q4 R)) (Q4 R))) (Exit.then (jy U (cx 39) gU (Q4 R)) (Q4 R)))
abbrev Q7 (R:aa):e5:=(Exit.inBlock 3 (Q6 R))
abbrev S9 (d:Nat) (c:Addr) (e:Int) (t26:O) (t27 t28:Int) (w:I) (R:aa):Prop:=
 ∃t32:Int,w.cell? c=some (.u t32)/\
 j2 oe #[.u t32,.u (ab .u64 e)] w λt35 h=>av h c (.u t35) λj=>
 qG d c t26 t27 t28 j R
def EJ (c:Nat) (E:Env) (w:I) (R:aa):Prop:=W.cf (Env.get? E 5) λe=>W.asInt .i64 (Env.get? E 8) λd=>W.asSlice (Env.get? E 26) λt26=>W.asInt .i64 (Env.get? E 27) λt27=>W.asInt .i64 (Env.get? E 28) λt28=>S9 c e d t26 t27 t28 w R
def MN (e:Nat) (R:aa) (E:Env) (w:I) (h:EJ e E w R):WP U (marked 39 e) kp (Q7 R) E w:=by obtain ⟨H,D,q⟩:=W.cu h;obtain ⟨G,F,u⟩:=W.eK q;obtain ⟨t26,A,x⟩:=W.k6 u;obtain ⟨t27,B,y⟩:=W.eK x;obtain ⟨t28,C,z⟩:=W.eK y;exact λa d=>WP.at (n:=(marked 39 e)) (E:=[(5,.pointer (some H)),(8,.i G),(26,t26.v),(27,.i t27),(28,.i t28)]) (WP.gN (c:=kp) (λE w=>EF e E w R) (by kernel_rfl) (mp z) λ_ _ a j k=>(MJ e R _ _ k) a j) (d.cons D (d.cons F (d.cons A (d.cons B (d.cons C d.nil)))))
noncomputable def mG:=h2.fs
abbrev S8 (c:Nat) (d:Addr) (t26:O) (t27 t28:Int) (w:I) (R:aa):Prop:=
 aw t26 t28 λe=>∃t31:Int,w.cell? (e.add (ag t28 *1))=some (.i t31)/\
 S9 c d t31 t26 t27 t28 w R
def EI (c:Nat) (E:Env) (w:I) (R:aa):Prop:=W.cf (Env.get? E 5) λd=>W.asSlice (Env.get? E 26) λt26=>W.asInt .i64 (Env.get? E 27) λt27=>W.asInt .i64 (Env.get? E 28) λt28=>S8 c d t26 t27 t28 w R
def MM (d:Nat) (R:aa) (E:Env) (w:I) (h:EI d E w R):WP U (marked 39 d) h2 (Q7 R) E w:=by obtain ⟨G,F,q⟩:=W.cu h;obtain ⟨t26,B,u⟩:=W.k6 q;obtain ⟨t27,C,z⟩:=W.eK u;obtain ⟨t28,D,A⟩:=W.eK z;exact λa e=>WP.at (n:=(marked 39 d)) (E:=[(5,.pointer (some G)),(26,t26.v),(27,.i t27),(28,.i t28)]) (WP.seq (c:=h2) (x:=mG) (y:=kp) (by kernel_rfl)<|WP.gN (c:=mG) (λE w=>EJ d E w R) (by kernel_rfl) (mp A) λ_ _ a j k=>(MN d R _ _ k) a j) (e.cons F (e.cons B (e.cons C (e.cons D e.nil))))
abbrev Q8 (R:aa):e5:=(bodyPostM Fence.wide 0 U Tryz.f37 R)
noncomputable def oO:=gV.fs
noncomputable def mH:=gV.sn
abbrev EP (c:Nat) (d:Addr) (w:I) (R:aa):Prop:=
 ∃t37:Int,w.cell? d=some (.u t37)/\
 j2 oe #[.u t37,.u 0] w λt38 e=>g6 e c (.deferred (some [])) (.deferred none) λh=>R (V (.u t38)) h
def EG (c:Nat) (E:Env) (w:I) (R:aa):Prop:=W.cf (Env.get? E 5) λd=>EP c d w R
def MK (d:Nat) (R:aa) (E:Env) (w:I) (j:EG d E w R):WP U (marked 39 d) gV (Q8 R) E w:=by obtain ⟨z,u,q⟩:=W.cu j;exact λa h=>WP.at (n:=(marked 39 d)) (E:=[(5,.pointer (some z))]) (WP.seq (c:=gV) (x:=oO) (y:=mH) (by kernel_rfl)<|WP.gN (c:=oO) (λE w=>uI U Tryz.f37 E w d R) (by kernel_rfl) (mp q) λ_ _ a e k=>(WP.ret (c:=mH) (by kernel_rfl) λa e=>uJ e k) a e) (h.cons u h.nil)
noncomputable def mI:=gU.fs
noncomputable def mJ:=jZ.fs
noncomputable def oP:=mJ.fs
noncomputable def qq:=mJ.sn
abbrev S7 (c:Nat) (d:Addr) (t26:O) (t27 t28:Int) (w:I) (R:aa):Prop:=
 Y (ah (t28<t27)) (S8 c d t26 t27 t28 w R) (EP c d w R)
def vy (c:Nat) (E:Env) (w:I) (R:aa):Prop:=W.cf (Env.get? E 5) λd=>W.asSlice (Env.get? E 26) λt26=>W.asInt .i64 (Env.get? E 27) λt27=>W.asInt .i64 (Env.get? E 28) λt28=>S7 c d t26 t27 t28 w R
def zd (d:Nat) (R:aa) (E:Env) (w:I) (k:vy d E w R):WP U (marked 39 d) gU (Q5 R) E w:=by obtain ⟨G,F,q⟩:=W.cu k;obtain ⟨t26,B,u⟩:=W.k6 q;obtain ⟨t27,C,z⟩:=W.eK u;obtain ⟨t28,D,A⟩:=W.eK z;exact λa j=>WP.at (n:=(marked 39 d)) (E:=[(5,.pointer (some G)),(26,t26.v),(27,.i t27),(28,.i t28)]) (WP.seq (c:=gU) (x:=mI) (y:=jZ) (by kernel_rfl)<|WP.gN (c:=mI) (λE w=>g1 (Env.val E (.tmp 29)) (EI d E w R) (EG d E w R)) (by kernel_rfl) (mp A) λ_ _ a e h=>(WP.seq (c:=jZ) (x:=mJ) (y:=jx) (by kernel_rfl) (WP.g1 (c:=mJ) (x:=oP) (y:=qq) (o:=.tmp 29) (by kernel_rfl) (λh=>(WP.skip (c:=oP) (by kernel_rfl) λa e=>(WP.seq (c:=jx) (x:=iA) (y:=i0) (by kernel_rfl) (WP.block (c:=iA) (x:=h2) (id:=3) (by kernel_rfl) (MM d R _ _ h))) a e)) (λh=>(WP.exit (c:=qq) (id:=2) (by kernel_rfl) λa e=>(MK d R _ _ h) a e)) h)) a e) (j.cons F (j.cons B (j.cons C (j.cons D j.nil))))
def qz (d:Nat) (e:Addr) (t26:O) (t27 t28:Int) (w:I) (R:aa) (h:S7 d e t26 t27 t28 w R):L6 d e t26 t27 t28 w R:=
 LP.step (n:=(marked 39 d)) (c:=gU) (E:=[(5,.pointer (some e)),(26,t26.v),(27,.i t27),(28,.i t28)]) (w:=w) (zd d R _ _ (mp h))
noncomputable def qs:=iz.fs
abbrev S5 (d:Nat) (c:O) (e:Addr) (w:I) (R:aa):Prop:=
 L6 d e c ((c.n:Nat):Int) 0 w R
def sy (c:Nat) (E:Env) (w:I) (R:aa):Prop:=W.asSlice (Env.get? E 1) λd=>W.cf (Env.get? E 5) λe=>S5 c d e w R
def zc (d:Nat) (R:aa) (E:Env) (w:I) (h:sy d E w R):WP U (marked 39 d) iz (Q3 R) E w:=by obtain ⟨B,z,q⟩:=W.k6 h;obtain ⟨C,A,u⟩:=W.cu q;exact λa e=>WP.at (n:=(marked 39 d)) (E:=[(1,B.v),(5,.pointer (some C))]) (WP.seq (c:=iz) (x:=qs) (y:=iZ) (by kernel_rfl)<|WP.gN (c:=qs) (λE w=>za d E w R) (by kernel_rfl) (mp u) λ_ _ a j k=>(WP.block (c:=iZ) (x:=jw) (id:=2) (by kernel_rfl) (WP.loop (c:=jw) (x:=gU) (by kernel_rfl) (EE d R _ _ k))) a j) (e.cons z (e.cons A e.nil))
noncomputable def qt:=gT.fs
abbrev S4 (e:Nat) (d:O) (c:Addr) (w:I) (R:aa):Prop:=
 ∃t21:Int,w.cell? c=some (.u t21)/\
 j2 oe #[.u t21,.u (ab .u64 ((d.n:Nat):Int))] w λt25 h=>av h c (.u t25) λj=>
 S5 e d c j R
def vx (c:Nat) (E:Env) (w:I) (R:aa):Prop:=W.asSlice (Env.get? E 1) λd=>W.cf (Env.get? E 5) λe=>S4 c d e w R
def zb (d:Nat) (R:aa) (E:Env) (w:I) (h:vx d E w R):WP U (marked 39 d) gT (Q8 R) E w:=by obtain ⟨B,z,q⟩:=W.k6 h;obtain ⟨C,A,u⟩:=W.cu q;exact λa e=>WP.at (n:=(marked 39 d)) (E:=[(1,B.v),(5,.pointer (some C))]) (WP.seq (c:=gT) (x:=qt) (y:=fA) (by kernel_rfl)<|WP.gN (c:=qt) (λE w=>sy d E w R) (by kernel_rfl) (mp u) λ_ _ a j k=>(WP.seq (c:=fA) (x:=iz) (y:=gV) (by kernel_rfl) (zc d R _ _ k)) a j) (e.cons z (e.cons A e.nil))
noncomputable def vr:=C9.fs
abbrev S3 (d:Nat) (h:ByteArray) (e:O) (c:Addr) (w:I) (R:aa):Prop:=
 ∃t16:Int,w.cell? c=some (.u t16)/\
 j2 oe #[.u t16,.u (ab .u64 ((h.size:Nat):Int))] w λt20 j=>av j c (.u t20) λk=>
 S4 d e c k R
def mN (c:Nat) (E:Env) (w:I) (R:aa):Prop:=W.k7 (Env.get? E 0) λe=>W.asSlice (Env.get? E 1) λd=>W.cf (Env.get? E 5) λh=>S3 c e d h w R
def oU (d:Nat) (R:aa) (E:Env) (w:I) (h:mN d E w R):WP U (marked 39 d) C9 (Q8 R) E w:=by obtain ⟨F,A,q⟩:=W.mS h;obtain ⟨D,B,u⟩:=W.k6 q;obtain ⟨G,C,z⟩:=W.cu u;exact λa e=>WP.at (n:=(marked 39 d)) (E:=[(0,.string F),(1,D.v),(5,.pointer (some G))]) (WP.seq (c:=C9) (x:=vr) (y:=gT) (by kernel_rfl)<|WP.gN (c:=vr) (λE w=>vx d E w R) (by kernel_rfl) (mp z) λ_ _ a j k=>(zb d R _ _ k) a j) (e.cons A (e.cons B (e.cons C e.nil)))
abbrev S0 (q:ByteArray) (n:O) (x y:Addr) (w:I) (R:aa):Prop:=
 ∀c:e4->Option Code->Obj,(∀(z:Int) (h:I) (j:Bool->I->Prop),h.heap[w.heap.size+1]? =some (c .ready none)->mF (w.heap.size+1) c q n x y z h (λd B=>∃k:Bool,d=V (.bool k)/\j k B)->kY U (w.heap.size+1) #[.u z] h j)->
 ai U iM #[.func (.yield (w.heap.size+1)) #[] #[],.pointer (some y)] ((w.alloc (.deferred (some []))).alloc (c .ready none)) λd C=>(∃A,d=V A)/\qE C (w.heap.size+1) c (λe=>S3 w.heap.size q n x e R) (λD e=>False) (λe=>False)
abbrev Q9 (R:aa):e5:=(Exit.then (e3 U (cx 39) C9 (bodyPostM Fence.wide 0 U Tryz.f37 R)) (bodyPostM Fence.wide 0 U Tryz.f37 R))
abbrev MW (R:aa):e5:=(Exit.inBlock 0 (Q9 R))
def mM (E:Env) (w:I) (R:aa):Prop:=W.k7 (Env.get? E 0) λd=>W.asSlice (Env.get? E 1) λc=>W.cf (Env.get? E 5) λe=>W.nS iM (Env.get? E 11) λn j=>W.jD n<|W.kz j λq k=>W.cf (some q) λh=>W.jD k<|S0 d c e h w R
def su:sA U 39 mM C5 MW:=by
 intro y aa A j;obtain ⟨q,Q,F⟩:=W.mS j;obtain ⟨k,S,G⟩:=W.k6 F;obtain ⟨w,Y,H⟩:=W.cu G;obtain ⟨ae,ac,T,J⟩:=W.zu H;obtain ⟨rfl,K⟩:=W.o1 J;obtain ⟨af,ad,rfl,L⟩:=W.nR K;obtain ⟨x,C,M⟩:=W.cu L;obtain rfl:=fQ C;obtain ⟨rfl,N⟩:=W.o1 M;exact λa e=>WP.at (n:=(cx 39)) (E:=[(0,.string q),(1,k.v),(5,.pointer (some w)),(11,.func (.func iM) #[] #[.pointer (some x)])]) (WP.range (m:=39) (c:=C5) (g:=.tmp 11) (ps:=#[12]) (assign:=C6) (body:=C7) (gf:=iM) (lb:=#[.pointer (some x)]) (λh=>S3 A.heap.size q k w h y) (λab h=>False) (λh=>False) (by kernel_rfl) rfl (by kernel_rfl)
  (λh d a D=>(oU A.heap.size y _ _ (mp d)) a D)
  (λ_ _ d=>d.elim)
  (λ_ d=>d.elim)
  (λz Z=>N (lo z) (λB w_ K_ P O=>Ev (args:=[.u B]) Z P rfl (by kernel_rfl) (λ_ _ j=>j) (sG _ z q k w x B w_ _ O)))) (e.cons Q (e.cons S (e.cons Y (e.cons T e.nil))))
def ok (e:ByteArray) (h:O) (w:I) (R:aa) (k:aN w (.cells #[.u 0] nF) λA=>
 av A (nb w) (.u 0) λB=>
 ∃(t10:O) (j:I),a6 U (Go.convert dy aH (.string e)) B=.ok (t10.v) j/\zV xn #[t10.v] j λt11 C=>W.nS iM (some t11) λy q=>W.jD y<|W.kz q λz x=>W.cf (some z) λn=>W.jD x<|S0 e h (nb w) n C R):ai U BT #[.string e,h.v] w R:=
 zW (R:=R) (fn:=Tryz.f37) (c:=C0) (args:=[.string e,h.v]) (by kernel_rfl) (by kernel_rfl) (by kernel_rfl) (sr C0 (show (λ(E:Env) (w:I)=>dN U C0 (λE w=>dN U C1 (λE w=>dN U C3 (λE w=>mM E w R) E w) E w) E w) (ja 0 [.string e,h.v]) w from mp k) λ_ _ d=>(sr C1 d λ_ _ d=>(sq C2 (sr C3 d λ_ _ d=>(bk C4 0 (by kernel_rfl) (su R _ _ d))))))
end jL
namespace wH
noncomputable def C0:Code:=(Tryz.f13.body).getD .skip
noncomputable def C1:=C0.sn
noncomputable def C2:=C1.sn
noncomputable def C3:=C2.fs
noncomputable def C4:=C3.sn
noncomputable def C5:=C4.fs
noncomputable def C6:=W.Code.zv C5
noncomputable def C7:=W.Code.zy C5
noncomputable def C8:=C7.fs
abbrev Q0 (l_:Nat) (c:Loop) (R:aa):Exit->Act->I->Prop:=(roundPost U l_ R)
abbrev Q1 (l_:Nat) (c:Loop) (R:aa):Exit->Act->I->Prop:=(Exit.inBlock 1 (Q0 l_ c R))
abbrev S2 (l_:Nat) (d:e4->Option Code->Obj) (c:Addr) (n:Int) (w:I) (R:aa):Prop:=
 ∃t15:O,w.cell? c=some (t15.v)/\
 aN w (.cells #[.i (ab .i64 n)] bX) λh=>
 ∃(t19:O) (e:I),a6 U (bb #[eI,eI] eI #[t15.v,.slice (some (nb w)) 1 1]) h=.ok (t19.v) e/\av e c (t19.v) λj=>
 g6 j l_ (d .busy none) (d .ready none) λk=>R (V (.bool true)) k
def k1 (l_:Nat) (d:e4->Option Code->Obj) (E:Env) (w:I) (R:aa):Prop:=W.cf (Env.get? E 5) λc=>W.asInt .u64 (Env.get? E 6) λe=>S2 l_ d c e w R
def oT (l_:Nat) (d:Loop) (R:aa) (E:Env) (w:I) (j:k1 l_ (lo d) E w R):WP U ⟨27,[],some l_⟩ C8 (Q1 l_ d R) E w:=by obtain ⟨z,x,k⟩:=W.cu j;obtain ⟨B,y,q⟩:=W.eK k;exact λa e=>WP.at (n:=⟨27,[],some l_⟩) (E:=[(5,.pointer (some z)),(6,.u B)]) (WP.gN (c:=C8) (λE w=>g6 w l_ ((lo d) .busy none) ((lo d) .ready none) λA=>R (V (.bool true)) A) (by kernel_rfl) (mp q) λ_ _ a C h=>Dw (a:=a) (h).1 (h).2) (e.cons x (e.cons y e.nil))
abbrev Q2 (l_:Nat) (c:Loop) (R:aa):Exit->Act->I->Prop:=(oX U 27 l_ c C7 (roundPost U l_ R))
abbrev S1 (l_:Nat) (c:e4->Option Code->Obj) (d:Addr) (t14:Int) (w:I) (R:aa):Prop:=
 g6 w l_ (c .ready none) (c .busy none) λe=>S2 l_ c d t14 e R
def sv (l_:Nat) (d:e4->Option Code->Obj) (E:Env) (w:I) (R:aa):Prop:=W.cf (Env.get? E 5) λc=>W.asInt .u64 (Env.get? E 14) λt14=>S1 l_ d c t14 w R
def sw (l_:Nat) (d:Loop) (R:aa) (E:Env) (w:I) (j:sv l_ (lo d) E w R):WP U ⟨27,[],some l_⟩ C6 (Q2 l_ d R) E w:=by obtain ⟨B,A,q⟩:=W.cu j;obtain ⟨t14,z,y⟩:=W.eK q;exact λa e=>WP.at (n:=⟨27,[],some l_⟩) (E:=[(5,.pointer (some B)),(14,.u t14)]) (WP.gN (c:=C6) (λE w=>w.heap[l_]? =some (lo d .ready none)/\((λw=>k1 l_ (lo d) E w R) (w.putObj l_ (lo d .busy none)))) (by kernel_rfl) (mp y) λ_ _ a k h=>⟨(h).1,(WP.block (c:=C7) (x:=C8) (id:=1) (by kernel_rfl) (oT l_ d R _ _ (h).2)) a k⟩) (e.cons A (e.cons z e.nil))
abbrev mF (l_:Nat) (d:e4->Option Code->Obj) (j:ByteArray) (h:O) (c k:Addr) (e:Int) (w:I) (R:aa):Prop:=
 S1 l_ d c e w R
def sG (l_:Nat) (c:Loop) (h:ByteArray) (d:O) (e j:Addr) (k:Int) (w:I) (R:aa) (n:mF l_ (lo c) h d e j k w R):WP U ⟨27,[],some l_⟩ C6 (oX U 27 l_ c C7 (roundPost U l_ R)) (mo [(0,.string h),(1,d.v),(5,.pointer (some e)),(13,.func (.func iM) #[] #[.pointer (some j)])] [14] [.u k]) w:=
 (sw l_ c R _ _ (mp n))
noncomputable def C9:=C2.sn
abbrev Q3 (R:aa):e5:=(bodyPostM Fence.wide 0 U Tryz.f13 R)
noncomputable def gT:=C9.fs
noncomputable def fA:=C9.sn
abbrev S3 (d:Nat) (j:ByteArray) (e:O) (h:Addr) (w:I) (R:aa):Prop:=
 ∃t21:O,w.cell? h=some (t21.v)/\
 aN w (.cells #[.i ((e.n:Nat):Int)] bX) λk=>
 ∃(t25:O) (c:I),a6 U (bb #[eI,eI] eI #[t21.v,.slice (some (nb w)) 1 1]) k=.ok (t25.v) c/\j2 BT #[.string j,t25.v] c λt26 q=>g6 q d (.deferred (some [])) (.deferred none) λx=>R (V (.u t26)) x
def mN (c:Nat) (E:Env) (w:I) (R:aa):Prop:=W.k7 (Env.get? E 0) λh=>W.asSlice (Env.get? E 1) λd=>W.cf (Env.get? E 5) λe=>S3 c h d e w R
def oU (d:Nat) (R:aa) (E:Env) (w:I) (k:mN d E w R):WP U (marked 27 d) C9 (Q3 R) E w:=by obtain ⟨G,B,u⟩:=W.mS k;obtain ⟨j,C,z⟩:=W.k6 u;obtain ⟨F,D,A⟩:=W.cu z;exact λa e=>WP.at (n:=(marked 27 d)) (E:=[(0,.string G),(1,j.v),(5,.pointer (some F))]) (WP.seq (c:=C9) (x:=gT) (y:=fA) (by kernel_rfl)<|WP.gN (c:=gT) (λE w=>uI U Tryz.f13 E w d R) (by kernel_rfl) (mp A) λ_ _ a h q=>(WP.ret (c:=fA) (by kernel_rfl) λa h=>uJ h q) a h) (e.cons B (e.cons C (e.cons D e.nil)))
abbrev S0 (x:ByteArray) (k:O) (q y:Addr) (w:I) (R:aa):Prop:=
 ∀c:e4->Option Code->Obj,(∀(z:Int) (h:I) (j:Bool->I->Prop),h.heap[w.heap.size+1]? =some (c .ready none)->mF (w.heap.size+1) c x k q y z h (λd B=>∃n:Bool,d=V (.bool n)/\j n B)->kY U (w.heap.size+1) #[.u z] h j)->
 ai U iM #[.func (.yield (w.heap.size+1)) #[] #[],.pointer (some y)] ((w.alloc (.deferred (some []))).alloc (c .ready none)) λd C=>(∃A,d=V A)/\qE C (w.heap.size+1) c (λe=>S3 w.heap.size x k q e R) (λD e=>False) (λe=>False)
abbrev Q4 (R:aa):e5:=(Exit.then (e3 U (cx 27) C9 (bodyPostM Fence.wide 0 U Tryz.f13 R)) (bodyPostM Fence.wide 0 U Tryz.f13 R))
abbrev Q5 (R:aa):e5:=(Exit.inBlock 0 (Q4 R))
def mM (E:Env) (w:I) (R:aa):Prop:=W.k7 (Env.get? E 0) λe=>W.asSlice (Env.get? E 1) λc=>W.cf (Env.get? E 5) λd=>W.nS iM (Env.get? E 13) λn j=>W.jD n<|W.kz j λq k=>W.cf (some q) λh=>W.jD k<|S0 e c d h w R
def su:sA U 27 mM C5 Q5:=by
 intro y aa A k;obtain ⟨w,Q,F⟩:=W.mS k;obtain ⟨j,S,G⟩:=W.k6 F;obtain ⟨q,Y,H⟩:=W.cu G;obtain ⟨ae,ac,T,J⟩:=W.zu H;obtain ⟨rfl,K⟩:=W.o1 J;obtain ⟨af,ad,rfl,L⟩:=W.nR K;obtain ⟨x,C,M⟩:=W.cu L;obtain rfl:=fQ C;obtain ⟨rfl,N⟩:=W.o1 M;exact λa e=>WP.at (n:=(cx 27)) (E:=[(0,.string w),(1,j.v),(5,.pointer (some q)),(13,.func (.func iM) #[] #[.pointer (some x)])]) (WP.range (m:=27) (c:=C5) (g:=.tmp 13) (ps:=#[14]) (assign:=C6) (body:=C7) (gf:=iM) (lb:=#[.pointer (some x)]) (λh=>S3 A.heap.size w j q h y) (λab h=>False) (λh=>False) (by kernel_rfl) rfl (by kernel_rfl)
  (λh d a D=>(oU A.heap.size y _ _ (mp d)) a D)
  (λ_ _ d=>d.elim)
  (λ_ d=>d.elim)
  (λz Z=>N (lo z) (λB w_ K_ P O=>Ev (args:=[.u B]) Z P rfl (by kernel_rfl) (λ_ _ k=>k) (sG _ z w j q x B w_ _ O)))) (e.cons Q (e.cons S (e.cons Y (e.cons T e.nil))))
def ok (h:ByteArray) (d:O) (w:I) (R:aa) (k:∃(t11:O) (j:I),a6 U (Instr.makeSlice eI (.i 0) (.i (ab .i64 ((ab .i64 (cz ((d.n:Nat):Int) 8))+2)))) w=.ok (t11.v) j/\aN j (.cells #[.slice none 0 0] eI) λA=>
 av A (nb j) (t11.v) λB=>
 zV xn #[d.v] B λt13 C=>W.nS iM (some t13) λy u=>W.jD y<|W.kz u λz x=>W.cf (some z) λq=>W.jD x<|S0 h d (nb j) q C R):ai U xm #[.string h,d.v] w R:=
 zW (R:=R) (fn:=Tryz.f13) (c:=C0) (args:=[.string h,d.v]) (by kernel_rfl) (by kernel_rfl) (by kernel_rfl) (sr C0 (show (λ(E:Env) (w:I)=>dN U C0 (λE w=>dN U C1 (λE w=>dN U C3 (λE w=>mM E w R) E w) E w) E w) (ja 0 [.string h,d.v]) w from mp k) λ_ _ e=>(sr C1 e λ_ _ e=>(sq C2 (sr C3 e λ_ _ e=>(bk C4 0 (by kernel_rfl) (su R _ _ e))))))
end wH
def je:List UInt8->Nat
 |[]=>0
 |c::l=>c.toNat+256 *je l
def Ba:∀(l:List UInt8),je l<256^l.length
 |[]=>by simp [je]
 |c::l=>by have d:=Ba l;have e:=c.toNat_lt;rw [je,List.length_cons,Nat.pow_succ];omega
def H8:∀(l:List UInt8) (c:UInt8),je (l++[c])=je l+c.toNat *256^l.length
 |[],c=>by simp [je]
 |d::l,c=>by rw [List.cons_append,je,H8 l c,je,List.length_cons,Nat.pow_succ];rw [Nat.mul_add,<-Nat.mul_assoc,Nat.mul_comm 256 c.toNat,Nat.mul_assoc,Nat.mul_comm 256 (256^l.length)];omega
def words (bs:List UInt8):List Nat:=if bs=[] then [] else je (bs.take 8)::words (bs.drop 8)
termination_by bs.length
decreasing_by
 rename_i c;have:0<bs.length:=List.length_pos_iff.2 c;simp;omega
def Mu:words []=[]:=by rw [words];simp
def Ms {bs:List UInt8} (c:bs≠[]):words bs=je (bs.take 8)::words (bs.drop 8):=by rw [words,af c]
def Vj (bs:List UInt8):(words bs).length<=bs.length:=by
 induction hn:bs.length using Nat.strongRecOn generalizing bs with
 |_ h d=>
  by_cases c:bs=[]
  .subst c;rw [Mu];simp
  .rw [Ms c];have e:0<bs.length:=List.length_pos_iff.2 c;have:=d (bs.drop 8).length (by simp;omega) (bs.drop 8) rfl;simp at this ⊢;omega
def jf (s x:Nat):Nat:=let m:=((s^^^x) *11400714819323198485)%18446744073709551616;m^^^(m / 4294967296)
def wZ (s x:Nat):jf s x<18446744073709551616:=by unfold jf;have c:((s^^^x) *11400714819323198485)%18446744073709551616<2^64:=Nat.mod_lt _ (by omega);exact Nat.xor_lt_two_pow c (Nat.lt_of_le_of_lt (Nat.div_le_self _ _) c)
def nI (n:Int):Nat:=(n%18446744073709551616).toNat
def DY (label:List UInt8) (l:List Int):Nat:=
 jf ((l.map nI).foldl jf (jf (jf ((words label).foldl jf 0) label.length) l.length)) 0
def AW (u:Nat):Int:=ab .i64 (u:Int)
def zF (label b:List UInt8):Nat:=DY label ((words b).map AW++[(b.length:Int)])
def HA (s x:Nat) (c:s<18446744073709551616) (d:x<18446744073709551616) (w:I):ai U oe #[.int .u64 (s:Int),.int .u64 (x:Int)] w λr h=>r=V (.int .u64 (jf s x:Int))/\w=h:=by
 refine AU.ok _ _ w _ ?_;unfold AU.S0;have j:s^^^x<2^64:=Nat.xor_lt_two_pow c d;rw [vP s x c d];have e:ab .u64 (((s^^^x:Nat):Int) *11400714819323198485)=((((s^^^x) *11400714819323198485)%18446744073709551616:Nat):Int):=by rw [IntKind.wrap_u64];omega
 rw [e,show ((2:Int)^32)=((4294967296:Nat):Int) from rfl,AB _ _ (by omega),vP _ _ (by omega) (by omega)];exact ⟨rfl,rfl⟩
def Vi (acc k c:Nat) (x:k<8) (u:acc<256^k) (w:c<256):
  ¬(ab .i64 (8 *(k:Int)))<0/\W.k9 .u64 (acc:Int) (ab .u64 ((ab .u64 ((c:Nat):Int)) *2^(min (ag (ab .i64 (8 *(k:Int)))) (IntKind.bits .u64))))=((acc+c *256^k:Nat):Int):=by
 have h:ab .i64 (8 *(k:Int))=((8 *k:Nat):Int):=by rw [a4 _ (by omega)];omega
 rw [h];refine ⟨by omega,?_⟩;have j:min (ag ((8 *k:Nat):Int)) (IntKind.bits .u64)=8 *k:=by rw [dJ];show min (8 *k) 64=8 *k;omega
 rw [j,mD c (by omega)];have n:(c:Int) *2^(8 *k)=((c *2^(8 *k):Nat):Int):=by rw [Int.natCast_mul,Int.natCast_pow];rfl
 have d:(2:Nat)^(8 *k)=256^k:=by rw [Nat.pow_mul]
 have q:(256:Nat)^k<=256^7:=Nat.pow_le_pow_right (by omega) (by omega);have e:c *2^(8 *k)<18446744073709551616:=by rw [d];have:c *256^k<=255 *256^7:=Nat.mul_le_mul (by omega) q;omega
 rw [n,mD _ e,E5 _ _ (by omega) e,IY acc c (8 *k) (by rw [d];exact u),d]
def Mt {tb l:Nat} {s:O} {bs:List UInt8} (af:bs.length<=1000000000000) (e:List Nat->I->Prop) (H:∀pre W,e pre W->W.cell? (aj tb)=some s.v/\Bytes W s bs)
  (T:∀(pre:List Nat) (x:Nat) (W:I),e pre W->x<18446744073709551616->pre.length<bs.length->kY U l #[.int .u64 (x:Int)] W λb u=>b=true/\e (pre++[x]) u) (w:I) (Q:e [] w):
  ai U iM #[.func (.yield l) #[] #[],.pointer (some (aj tb))] w λr G=>r=V (.tuple #[])/\e (words bs) G:=by
 refine l8.ok _ _ w _ ?_;have inner:∀(i:Nat) (pre:List Nat) (W:I),i<bs.length->e pre W->∀(d k:Nat),k+d=8->∀acc:Nat,acc=je ((bs.drop i).take k)->∀n:aa,
   (l8.S3 l (aj tb) (i:Int) ((je ((bs.drop i).take 8):Nat):Int) W n)->l8.L1 l (aj tb) (i:Int) (acc:Int) (k:Int) W n:=by
  intro i pre W Z j d;obtain ⟨A,z⟩:=H pre W j;have K:=Bytes.len z;induction d with
  |zero=>
   intro k hk acc q n y;obtain rfl:k=8:=by omega
   subst q;exact l8.fC _ _ _ _ _ _ _ (a9 rfl y)
  |succ d F=>
   intro k hk acc q n y;have P:ab .i64 ((i:Int)+(k:Int))=((i+k:Nat):Int):=by rw [a4 _ (by omega)];omega
   refine l8.fC _ _ _ _ _ _ _ (bd (aW (by omega)) ⟨s,A,?_⟩);rw [P,K];refine bE (λh=>?_) (λh=>?_)
   .have E:i+k<bs.length:=by have:=ef h;omega
    have D:bs[i+k]? =some bs[i+k]:=bc E;have L:(bs.drop i).take (k+1)=(bs.drop i).take k++[bs[i+k]]:=by rw [List.take_add_one,List.getElem?_drop,D];rfl
    generalize bs[i+k]=c at D L;refine ⟨s,A,by omega,by omega,Bytes.cell z D (by rw [dJ]) λp _ hp=>⟨_,hp,?_⟩⟩;have hlen:((bs.drop i).take k).length=k:=by rw [dL,iO];omega
    have Y:acc<256^k:=by rw [q];have:=Ba ((bs.drop i).take k);rwa [hlen] at this
    obtain ⟨M,N⟩:=Vi acc k c.toNat (by omega) Y c.toNat_lt;refine And.intro M ?_;rw [N];show l8.L1 l (aj tb) (i:Int) ((acc+c.toNat *256^k:Nat):Int) (ab .i64 ((k:Int)+1)) W n;rw [bw k (by omega)];refine F (k+1) (by omega) _ ?_ n y;rw [L,H8,hlen,q]
   .have J:bs.length<=i+k:=by have:=gS h;omega
    have C:(bs.drop i).take k=(bs.drop i).take 8:=by rw [e1 (by rw [iO];omega),e1 (by rw [iO];omega)]
    rw [q,C];exact y
 have outer:∀(d i:Nat),bs.length<=i+d->i<=bs.length+7->∀(pre:List Nat) (W:I),pre.length<=i->pre++words (bs.drop i)=words bs->e pre W->
   l8.L0 l (aj tb) (i:Int) W λr G=>r=V (.tuple #[])/\e (words bs) G:=by
  intro d;induction d using Nat.strongRecOn with
  |_ d F=>
   intro i hd Z pre W ag B j;obtain ⟨A,z⟩:=H pre W j;have K:=Bytes.len z;refine l8.b5 _ _ _ _ _ ⟨s,A,bE (λh=>?_) (λh=>?_)⟩
   .have E:i<bs.length:=by have:=ef h;omega
    have ae:bs.drop i≠[]:=λC=>by have:=congrArg List.length C;rw [iO,iP] at this;omega
    refine inner i pre W E j 8 0 rfl 0 (by simp [je]) _ ?_;have ad:je ((bs.drop i).take 8)<18446744073709551616:=by
     have h1:=Ba ((bs.drop i).take 8);have S:((bs.drop i).take 8).length<=8:=by rw [dL];omega
     have h3:(256:Nat)^((bs.drop i).take 8).length<=256^8:=Nat.pow_le_pow_right (by omega) S;omega
    refine Vt (T pre _ W j ad (by omega)) ?_;rintro b u ⟨rfl,ac⟩;refine a9 rfl ?_;show l8.L0 l (aj tb) (ab .i64 ((i:Int)+8)) u _;rw [show ab .i64 ((i:Int)+8)=((i+8:Nat):Int) from by rw [a4 _ (by omega)];omega];refine F (d - 8) (by omega) (i+8) (by omega) (by omega) _ u (by simp;omega) ?_ ac;rw [Ms ae,List.drop_drop] at B;rw [cN];exact B
   .have J:bs.length<=i:=by have:=gS h;omega
    rw [dt J,Mu,List.append_nil] at B;rw [B] at j;exact ⟨rfl,j⟩
 exact outer bs.length 0 (by omega) (by omega) [] w (by simp) (by simp) Q
def rJ {w:I} {b:Nat} {v:Value} {T:TypeId} (c:w.heap[b]? =some (.cells #[v] T (0,0))):w.cell? (aj b)=some v:=by
 have:=cellAt (p:=aj b) (i:=0) (v:=v) c rfl rfl
 rwa [hf] at this
def x7 {w:I} {b:Nat} {v:Value} {T:TypeId} (c:w.heap[b]? =some (.cells #[v] T (0,0))) (u:Value):
  (w.cell? (aj b)).isSome=true/\w.frozen? (aj b)=false/\(w.setCell (aj b) u).heap[b]? =some (.cells #[u] T (0,0))/\Fr (·=b) w (w.setCell (aj b) u):=by
 have:=pY c 0 (by simp) u
 rwa [hf] at this
def U3 (n:Int):nI n<18446744073709551616:=by unfold nI;omega
def Ho (l:List Nat):∀s,s<18446744073709551616->l.foldl jf s<18446744073709551616:=by
 induction l with
 |nil=>exact λs c=>c
 |cons e l d=>exact λs _=>d _ (wZ s e)
def Mv {w:I} {s:O}:ai U xn #[s.v] w λr c=>r=V (.func (.func iM) #[] #[.pointer (some (aj w.heap.size))])/\w.alloc (.cells #[s.v] aH)=c:=by refine HB.ok _ w _ ?_;exact ⟨rfl,rfl⟩
def yC {w:I} {sb v x:Nat} (e:w.heap[sb]? =some (.cells #[.int .u64 (v:Int)] nF (0,0))) (u:v<18446744073709551616) (y:x<18446744073709551616) (K:I->Prop)
  (q:∀d,d.heap[sb]? =some (.cells #[.int .u64 ((jf v x:Nat):Int)] nF (0,0))->Fr (·=sb) w d->K d):
  ∃t:Int,w.cell? (aj sb)=some (.int .u64 t)/\ai U oe #[.int .u64 t,.int .u64 (x:Int)] w λz c=>∃t15:Int,z=V (.int .u64 t15)/\(c.cell? (aj sb)).isSome=true/\c.frozen? (aj sb)=false/\K (c.setCell (aj sb) (.int .u64 t15)):=by refine ⟨v,rJ e,(HA v x u y w).mono ?_⟩;rintro r c ⟨rfl,rfl⟩;obtain ⟨h,j,k,n⟩:=x7 e (.int .u64 ((jf v x:Nat):Int));exact ⟨_,rfl,h,j,q _ k n⟩
def Ux {w0:I} {D sb:Nat} {s:O} {l:List Int} (L:l.length<=1000000000000) (y:bS w0 s l) (B:w0.heap[D]? =some (.deferred (some []))) (E:D≠sb) (H:∀x∈ay s,x≠sb) (R:aa):
  ∀(d i:Nat),i+d=l.length->∀(w:I) (v:Nat),v<18446744073709551616->Fr (·=sb) w0 w->w.heap[sb]? =some (.cells #[.int .u64 (v:Int)] nF (0,0))->
   (∀c,Fr (λx=>x=sb\/x=D) w0 c->R (V (.int .u64 ((jf (((l.drop i).map nI).foldl jf v) 0:Nat):Int))) c)->jL.L6 D (aj sb) s (l.length:Int) (i:Int) w R:=by
 have M:=bS.len y;intro d;induction d with
 |zero=>
  intro i G w v n e k j;refine jL.qz _ _ _ _ _ _ _ (a9 (a0 (by omega)) ?_);refine ⟨v,rJ k,(HA v 0 n (by omega) w).mono ?_⟩;rintro r N ⟨rfl,rfl⟩;have C:=e.at B E;have:=j _ ((e.mono λx _ h=>.inl h).trans (Fr.put w D (.deferred none)) λx _ h=>.inr h);rw [dt (by omega)] at this;exact ⟨_,rfl,C,this⟩
 |succ d K=>
  intro i G w v n e k j;have u:i<l.length:=by omega
  have q:l[i]? =some l[i]:=bc u;have F:(l.drop i).map nI=nI l[i]::(l.drop (i+1)).map nI:=by rw [dq u];rfl
  rw [F] at j;generalize l[i]=x at q j;refine jL.qz _ _ _ _ _ _ _ (bd (aW (by omega)) ⟨by omega,by omega,bS.cell (y.fr e H) q (by rw [dJ]) λp _ J=>⟨_,J,?_⟩⟩);unfold jL.S9;rw [show ab .u64 x=((nI x:Nat):Int) from by rw [IntKind.wrap_u64];unfold nI;omega];refine yC k n (U3 x) (λc=>jL.qG D (aj sb) s (l.length:Int) (i:Int) c _) λc A z=>?_;show jL.L6 D (aj sb) s (l.length:Int) (ab .i64 ((i:Int)+1)) c _;rw [bw i (by omega)];exact K (i+1) (by omega) c _ (wZ _ _) (e.trans z λ_ _ h=>h) A j
def Qp {w:I} {s:O} {l:List Int} (label:ByteArray) (T:bS w s l) (af:∀d∈ay s,d<w.heap.size) (hl:l.length<=1000000000000) (ae:label.size<=1000000000000):
  ai U BT #[.string label,s.v] w λr e=>r=V (.int .u64 ((DY (bl label) l:Nat):Int))/\ao w e:=by
 refine jL.ok _ _ w _ ?_
 let z:=w.alloc (.cells #[.u 0] nF)
 have f1:ao w z:=Fr.alloc _ _ _;have s1:z.heap.size=w.heap.size+1:=size_alloc _ _;have c1:z.heap[w.heap.size]? =some (.cells #[.int .u64 0] nF (0,0)):=gJ _ _;obtain ⟨a1,a2,K,B⟩:=x7 c1 (.int .u64 0);refine ⟨a1,a2,?_⟩;generalize z.setCell (aj w.heap.size) (.int .u64 0)=w2 at K B;have F2:ao w w2:=f1.kU B λd j=>by omega
 have s2:=B.size;obtain ⟨t,h,g1,t3,C,n3⟩:=K6 w2 label;have s3:=C.size;refine ⟨t,h,g1,Mv.mono ?_⟩;rintro r c ⟨rfl,rfl⟩;have N:ao h (h.alloc (.cells #[t.v] aH)):=Fr.alloc _ _ _;have s4:(h.alloc (.cells #[t.v] aH)).heap.size=h.heap.size+1:=size_alloc _ _;have L:(h.alloc (.cells #[t.v] aH)).heap[h.heap.size]? =some (.cells #[t.v] aH (0,0)):=gJ _ _;generalize h.alloc (.cells #[t.v] aH)=c at N s4 L;refine ⟨_,rfl,?_⟩;show jL.S0 label s (aj w.heap.size) (aj h.heap.size) c _;intro o ag;have E:ao c (c.alloc (.deferred (some []))):=Fr.alloc _ _ _;have s5:(c.alloc (.deferred (some []))).heap.size=c.heap.size+1:=size_alloc _ _;have M:(c.alloc (.deferred (some []))).heap[c.heap.size]? =some (.deferred (some [])):=gJ _ _;generalize c.alloc (.deferred (some []))=w5 at E s5 M;have x:ao w5 (w5.alloc (o .ready none)):=Fr.alloc _ _ _;have s6:(w5.alloc (o .ready none)).heap.size=w5.heap.size+1:=size_alloc _ _;have Z:(w5.alloc (o .ready none)).heap[c.heap.size+1]? =some (o .ready none):=by rw [<-s5];exact gJ _ _
 generalize w5.alloc (o .ready none)=w6 at x s6 Z;have A:ao h w6:=N.cR (E.cR x);have c6:w6.heap[w.heap.size]? =some (.cells #[.int .u64 0] nF (0,0)):=A.at (C.at K id) id;have t6:Bytes w6 t (bl label):=t3.bA A;have b6:=(E.cR x).at L id;have d6:=x.at M id;refine (Mt (tb:=h.heap.size) (s:=t) (bs:=bl label) (by rw [ep];exact ae)
  (λpre W=>Fr (λd=>d=w.heap.size\/d=c.heap.size+1) w6 W/\W.heap[w.heap.size]? =some (.cells #[.int .u64 ((pre.foldl jf 0:Nat):Int)] nF (0,0))/\W.heap[c.heap.size+1]? =some (o .ready none))
  (λpre W ⟨n,_,_⟩=>⟨rJ (n.at b6 (by omega)),t6.fr n λd k=>by have:=n3 d k;omega⟩)
  (λpre d W ⟨n,hc,F⟩ k ah=>?_) w6 ⟨Fr.refl _ _,c6,Z⟩).mono ?_
 .refine ag _ W _ F ?_;refine ⟨F,?_⟩;have hb:=uv F (o .busy none);have Q:=Fr.put W (c.heap.size+1) (o .busy none);refine yC (Q.at hc (by omega)) (Ho pre 0 (by omega)) k (λe=>e.heap[c.heap.size+1]? =some (o .busy none)/\∃J:Bool,Ending.returned (.bool true)=V (.bool J)/\J=true/\Fr (λd=>d=w.heap.size\/d=c.heap.size+1) w6 (e.putObj (c.heap.size+1) (o .ready none))/\(e.putObj (c.heap.size+1) (o .ready none)).heap[w.heap.size]? =some (.cells #[.int .u64 (((pre++[d]).foldl jf 0:Nat):Int)] nF (0,0))/\(e.putObj (c.heap.size+1) (o .ready none)).heap[c.heap.size+1]? =some (o .ready none)) λe ad q=>?_;have S:=q.at hb (by omega);refine ⟨S,true,rfl,rfl,?_,?_,uv S _⟩
  .exact ((n.trans Q λab _ j=>.inr j).trans q λab _ j=>.inl j).trans (Fr.put _ _ _) λab _ j=>.inr j
  .rw [List.foldl_append,List.foldl_cons,List.foldl_nil];exact (Fr.put e (c.heap.size+1) _).at ad (by omega)
 .rintro r w7 ⟨rfl,H,c7,r7⟩;refine ⟨⟨_,rfl⟩,.inl ⟨r7,?_⟩⟩;have y:=Fr.put w7 (c.heap.size+1) (o .exhausted none);generalize w7.putObj (c.heap.size+1) (o .exhausted none)=w8 at y;have c8:=y.at c7 (by omega);have d8:=y.at (H.at d6 (by omega)) (by omega);have F8:ao w w8:=by have F6:ao w w6:=F2.cR (C.cR A);exact (F6.kU H λd k=>by omega).kU y λd j=>by omega
  unfold jL.S3;rw [mD _ (by omega)];refine yC c8 (Ho _ 0 (by omega)) (by omega) (λe=>jL.S4 c.heap.size s (aj w.heap.size) e _) λw9 c9 P=>?_;have Y:=bS.len T;unfold jL.S4;rw [Y,mD _ (by omega)];refine yC c9 (wZ _ _) (by omega) (λe=>jL.S5 c.heap.size s (aj w.heap.size) e _) λaa ac f10=>?_;have G:ao w aa:=(F8.kU P λd j=>by omega).kU f10 λd j=>by omega
  have d10:=f10.at (P.at d8 (by omega)) (by omega);unfold jL.S5;rw [Y];refine Ux (D:=c.heap.size) (sb:=w.heap.size) hl (T.bA G) d10 (by omega) (λd k j=>by have:=af d k;omega) _ l.length 0 (by omega) aa _ (wZ _ _) (Fr.refl _ _) ac λe q=>⟨?_,G.kU q λd k=>by omega⟩;unfold DY;rw [List.drop_zero,ep]
def Hz {w:I} {s:O} {bs:List UInt8} (label:ByteArray) (hs:Bytes w s bs) (al:∀x∈ay s,x<w.heap.size) (hl:bs.length<=100000000000) (ah:label.size<=1000000000000):
  ai U xm #[.string label,s.v] w λr w'=>r=V (.int .u64 ((zF (bl label) bs:Nat):Int))/\ao w w':=by
 have hn:=Bytes.len hs;refine wH.ok _ _ w _ ?_;have ec:ab .i64 ((ab .i64 (cz ((s.n:Nat):Int) 8))+2)=((bs.length / 8+2:Nat):Int):=by rw [hn,IntWalk.i64_quo _ _ (by omega),a4 _ (by omega)];omega
 rw [ec];obtain ⟨h,g1,o1,f1⟩:=Bh qZ w .i64 .i64 (bs.length / 8+2) (by omega);refine ⟨⟨some ⟨w.heap.size,0,none⟩,0,bs.length / 8+2⟩,h,g1,?_⟩
 let Q:=h.alloc (.cells #[.slice none 0 0] eI)
 have f2:ao h Q:=Fr.alloc _ _ _;have s2:Q.heap.size=h.heap.size+1:=size_alloc _ _;have c2:Q.heap[h.heap.size]? =some (.cells #[.slice none 0 0] eI (0,0)):=gJ _ _;obtain ⟨T,Y,c3,M⟩:=x7 c2 (.slice (some ⟨w.heap.size,0,none⟩) 0 (bs.length / 8+2));refine ⟨T,Y,?_⟩;generalize Q.setCell (aj h.heap.size) (.slice (some ⟨w.heap.size,0,none⟩) 0 (bs.length / 8+2))=w3 at c3 M;have s1:=f1.size;have s3:=M.size;have o3:qC w3 ⟨some ⟨w.heap.size,0,none⟩,0,bs.length / 8+2⟩ []:=(o1.bA f2).fr M λx y d=>by have:=o1.lt x y;omega
 have F3:ao w w3:=(f1.cR f2).kU M λx d=>by omega
 refine Mv.mono ?_;rintro r j ⟨rfl,rfl⟩;have f4:ao w3 (w3.alloc (.cells #[s.v] aH)):=Fr.alloc _ _ _;have s4:(w3.alloc (.cells #[s.v] aH)).heap.size=w3.heap.size+1:=size_alloc _ _;have c4:(w3.alloc (.cells #[s.v] aH)).heap[w3.heap.size]? =some (.cells #[s.v] aH (0,0)):=gJ _ _;generalize w3.alloc (.cells #[s.v] aH)=j at f4 s4 c4;refine ⟨_,rfl,?_⟩;show wH.S0 label s (aj h.heap.size) (aj w3.heap.size) j _;intro o aa;have Z:ao j (j.alloc (.deferred (some []))):=Fr.alloc _ _ _;have s5:(j.alloc (.deferred (some []))).heap.size=j.heap.size+1:=size_alloc _ _;have d5:(j.alloc (.deferred (some []))).heap[j.heap.size]? =some (.deferred (some [])):=gJ _ _;generalize j.alloc (.deferred (some []))=w5 at Z s5 d5;have N:ao w5 (w5.alloc (o .ready none)):=Fr.alloc _ _ _;have s6:(w5.alloc (o .ready none)).heap.size=w5.heap.size+1:=size_alloc _ _;have r6:(w5.alloc (o .ready none)).heap[j.heap.size+1]? =some (o .ready none):=by rw [<-s5];exact gJ _ _
 generalize w5.alloc (o .ready none)=w6 at N s6 r6;have S:ao w3 w6:=f4.cR (Z.cR N);have F6:ao w w6:=F3.cR S;have b6:=(Z.cR N).at c4 id;have d6:=N.at d5 id;have ag:=hs.bA F6;obtain ⟨l,ak⟩:∃l,l=j.heap.size+1:=⟨_,rfl⟩;obtain ⟨q,ad⟩:∃q,q=h.heap.size:=⟨_,rfl⟩;rw [<-ak] at aa r6 ⊢;rw [<-ad] at aa ⊢;obtain ⟨L,K⟩:∃L:List Nat->I->Prop,L=λpre W=>∃t:O,W.heap[q]? =some (.cells #[t.v] eI (0,0))/\qC W t (pre.map AW)/\(∀x∈ay t,(w.heap.size<=x/\x<h.heap.size)\/w6.heap.size<=x)/\pre.length<=bs.length/\Fr (λx=>x=q\/x=l\/(w.heap.size<=x/\x<h.heap.size)) w6 W/\W.heap[l]? =some (o .ready none):=⟨_,rfl⟩;have J0:L [] w6:=by rw [K];refine ⟨_,S.at (ad▸c3) id,o3.bA S,λx y=>.inl ?_,by simp,Fr.refl _ _,r6⟩;simp [ay] at y;have:=o1.lt x (by simp [ay,y]);omega
 have jb:∀{W:I},Fr (λx=>x=q\/x=l\/(w.heap.size<=x/\x<h.heap.size)) w6 W->W.cell? (aj w3.heap.size)=some s.v/\Bytes W s bs:=λk=>⟨rJ (k.at b6 (by omega)),ag.fr k λx y=>by have:=al x y;omega⟩;refine (Mt (tb:=w3.heap.size) (s:=s) (bs:=bs) (by omega) L (λpre W z=>by rw [K] at z;obtain ⟨_,_,_,_,_,k,_⟩:=z;exact jb k) (λpre x W z y aq=>?_) w6 J0).mono ?_
 .rw [K] at z;obtain ⟨t,h1,h2,D,h4,k,J⟩:=z;refine aa _ W _ J ⟨J,?_⟩;have hb:=uv J (o .busy none);have H:=Fr.put W l (o .busy none);have hF:=k.size;have av:q<w6.heap.size:=by omega
  have F:∀c∈ay t,c≠l/\c≠q:=λc e=>by have:=D c e;omega
  show wH.S2 l o (aj q) (x:Int) (W.putObj l (o .busy none)) _;generalize W.putObj l (o .busy none)=W1 at hb H;have an:=H.size;have v1:=H.at h1 (by omega);have am:=h2.fr H λc e d=>(F c e).1 d;refine ⟨t,rJ v1,?_⟩
  let W2:=W1.alloc (.cells #[.i (ab .i64 (x:Int))] bX)
  have G:ao W1 W2:=Fr.alloc _ _ _;obtain ⟨C,W3,q1,P,E,q4,_⟩:=zr (ty:=eI) (src:=⟨some ⟨W1.heap.size,0,none⟩,1,1⟩) (am.bA G) (one_num W1 (AW x)) (by simp;omega);have v3:=E.at (G.at v1 id) λB=>(F q B).2 rfl;obtain ⟨T,Y,c8,u⟩:=x7 v3 C.v;have l3:=u.at (E.at (G.at hb id) λB=>(F l B).1 rfl) (by omega);refine ⟨C,W3,q1,T,Y,l3,true,rfl,rfl,?_⟩;rw [K];have A:=Fr.put (W3.setCell (aj q) C.v) l (o .ready none);have ap:W1.heap.size<=W2.heap.size:=G.size;have ac:∀c∈ay C,((w.heap.size<=c/\c<h.heap.size)\/w6.heap.size<=c):=λc e=>by
   rcases q4 c e with z|z
   .exact D c z
   .right;omega
  refine ⟨C,A.at c8 (by omega),?_,ac,by simp;omega,?_,uv l3 _⟩
  .rw [List.map_append];exact (P.fr u λc e d=>by have:=ac c e;omega).fr A λc e d=>by have:=ac c e;omega
  .refine ((((k.trans H λc _ d=>.inr (.inl d)).cR G).trans E λc e B=>?_).trans u λc _ d=>.inl d).trans A λc _ d=>.inr (.inl d);have:=D c B;omega
 .rintro r w7 ⟨rfl,h7⟩;rw [K] at h7;obtain ⟨t,h1,h2,D,h4,k,J⟩:=h7;refine ⟨⟨_,rfl⟩,.inl ⟨J,?_⟩⟩;have u:=Fr.put w7 l (o .exhausted none);generalize w7.putObj l (o .exhausted none)=w8 at u;have hF:=k.size;have ar:=u.size;have F:∀c∈ay t,c≠l/\c≠q/\c≠j.heap.size:=λc e=>by have:=D c e;omega
  have v8:=u.at h1 (by omega);have o8:=h2.fr u λc e d=>(F c e).1 d;have d8:=u.at (k.at d6 (by omega)) (by omega);have F8:ao w w8:=(F6.kU k λx y=>by omega).kU u λx d=>by omega
  refine ⟨t,rJ v8,?_⟩
  let w9:=w8.alloc (.cells #[.i ((s.n:Nat):Int)] bX)
  have A:ao w8 w9:=Fr.alloc _ _ _;have au:=Vj bs;obtain ⟨C,ae,q1,P,E,q4,_⟩:=zr (ty:=eI) (src:=⟨some ⟨w8.heap.size,0,none⟩,1,1⟩) (o8.bA A) (one_num w8 ((s.n:Nat):Int)) (by simp;omega);have d10:=E.at (A.at d8 id) λB=>(F _ B).2.2 rfl;have af:ao w ae:=(F8.cR A).kU E λx y=>by have:=D x y;omega
  refine ⟨C,ae,q1,(Qp label P.rd P.lt (by simp;omega) ah).mono ?_⟩;rintro r aw ⟨rfl,f11⟩;have d11:=f11.at d10 id;refine ⟨_,rfl,d11,?_,(af.cR f11).kU (Fr.put _ _ _) λx d=>by omega⟩;unfold zF;rw [hn]
def Oi {w:I} {s:O} {l:List Nd} (G:GP w s l) (hW:∀c∈l,fk c.x) (hz:∀c∈l,(df c.x).length<=1000000) (hl:l.length<=4096):
  ai U BH #[s.v] w (kv w (ho (xs l))):=by
 have hn:=fu G;have ak:(xs l).length=l.length:=by simp [xs]
 have P:LH F0 w w [] [.gr s l]:=bZ _ (by intro ap j;simp only [aB,a1,a7] at j;subst j;exact be.2 G)
 have H:cp ((l.length:Nat):Int):=⟨by omega,by omega⟩;have h0:=eM _ H;have loop:∀(m i:Nat) (out:O) (o:List UInt8) (q:I),i+m=l.length->o.length<=10+1000000 *i->o++((xs l).drop i).flatMap df=ho (xs l)->LH F0 w q [.by out o] [.gr s l]->
   te.aP s out (i:Int) q (kv w (ho (xs l))):=by
  intro m;induction m with
  |zero=>
   intro i out o q ah aj j h;refine te.bW _ _ _ _ _ (a9 (a0 (by omega)) ⟨out,rfl,?_,h.fr,λb C=>(h.new _ (aI (i:=0) rfl) b C).resolve_right id⟩);rw [dt (by omega),List.flatMap_nil,List.append_nil] at j;rw [<-j];exact jk (h.get 0)
  |succ m ih=>
   intro i out o q ah aj j h;have B:l[i]? =some (l[i]'(by omega)):=bc (by omega);have J:(xs l).drop i=(l[i]'(by omega)).x::(xs l).drop (i+1):=by rw [dq (by omega:i<(xs l).length)];simp [xs]
   generalize l[i]'(by omega)=c at B J;have D:=aI B;have W:=hW c D;have hlen:=hz c D;have aq:=hlen;have hu:=W.u;unfold df at hlen;simp only [cd] at hlen;refine te.bW _ _ _ _ _ (bd (aW (by omega)) (fa (be.1 (h.getD 0)) rfl B λp hp e=>⟨c.x.op,c.ks,c.x.n,c.x.m,c.x.u,c.x.tx,c.x.st.k,c.x.st.n,c.x.st.x,e.c0,e.c1,e.c2,e.c3,e.c4,e.c5,e.c6,e.c7,e.c8,h.aL λF w2 z=>z.au λM A=>?_⟩));have A:LH F0 w M [.by out o,.g F] [.gr s l]:=A;refine A.lf (nW _ W.op M) λt w4 H4 _ d _=>⟨t,rfl,H4.eW 0 rfl d.rd (by omega) λo1 w5 E=>?_⟩;refine E.lf (Pc ((be.1 (E.getD 0)).2 c D) W.ks W.kl) λt w6 H6 _ d _=>⟨t,rfl,H6.eW 0 rfl d.rd (by simp only [cd];omega) λo2 w7 H7=>?_⟩;refine H7.lf (nW _ W.n w7) λt w8 H8 _ d _=>⟨t,rfl,H8.eW 0 rfl d.rd (by simp only [cd];omega) λo3 w9 H9=>?_⟩;refine H9.lf (nW _ W.m w9) λt av Q _ d _=>⟨t,rfl,Q.eW 0 rfl d.rd (by simp only [cd];omega) λo4 al S=>?_⟩;have eu:c.x.u=((c.x.u.toNat:Nat):Int):=by omega
   rw [eu];refine S.lf (wg c.x.u.toNat (by omega) al) λt aw T _ d _=>⟨t,rfl,T.eW 0 rfl d.rd (by simp only [cd];omega) λo5 ax Y=>?_⟩;refine Y.str c.x.tx λtb ay Z C=>?_;have ar:=W.tx;refine Z.lf (Pe C (by rw [ep];omega)) λt az aa _ d _=>⟨t,rfl,aa.eW 0 rfl d.rd (by simp only [cd];omega) λo6 am ab=>?_⟩;refine ab.lf (nW _ W.sk am) λt aA ac _ d _=>⟨t,rfl,ac.eW 0 rfl d.rd (by simp only [cd];omega) λo7 an ad=>?_⟩;refine ad.lf (nW _ W.sn an) λt aC ae _ d _=>⟨t,rfl,ae.eW 0 rfl d.rd (by simp only [cd];omega) λo8 ao af=>?_⟩;refine af.lf (nW _ W.sx ao) λt aE ag _ d _=>⟨t,rfl,ag.eW 0 rfl d.rd (by simp only [cd];omega) λK L y=>?_⟩;have e1:o++cL c.x.op++g2 c.x.kids++cL c.x.n++cL c.x.m++dF c.x.u.toNat++hL (bl c.x.tx)++cL c.x.st.k++cL c.x.st.n++cL c.x.st.x=o++df c.x:=by unfold df;simp only [cN]
   have y:LH F0 w L [.by K (o++cL c.x.op++g2 c.x.kids++cL c.x.n++cL c.x.m++dF c.x.u.toNat++hL (bl c.x.tx)++cL c.x.st.k++cL c.x.st.n++cL c.x.st.x),.g F] [.gr s l]:=y;rw [e1] at y;rw [bw _ (by omega)];refine ih (i+1) K (o++df c.x) L (by omega) (by rw [cd];omega) ?_ (y.take 1);rw [<-j,J,cO,cN]
 refine te.aD s w _ ?_;rw [hn];refine P.OJ (nW _ H w) λt q h N d nt=>⟨t,rfl,?_⟩;have z:=N.own (.by t (cL ((l.length:Nat):Int))) d.2 nt;exact loop l.length 0 t _ q (by omega) (by omega) (by rw [List.drop_zero];unfold ho;rw [ak]) z
def UC {w:I} {s:O} {l:List Nd} (y:GP w s l) (B:c'.P w) (A:l.length<=4096->∀c∈l,jB c.x/\fk c.x) (D:∀c∈xs l,(df c).length<=1000000) (j:gR (xs l)=0) (hlen:(ho (xs l)).length<=100000000000):
  ai U Ch #[.agg #[s.v]] w λr E=>r=V (.u ((zF [103,114,97,112,104] (ho (xs l)):Nat):Int))/\ao w E:=by
 have k:LH F0 w w [] [.gr s l,c']:=bZ _ (by
  intro G h;simp only [aB,a1,a7] at h;rcases h with rfl|rfl
  .exact be.2 y
  .exact B)
 refine Lp.aD s w _ (k.aL λF H d=>d.aA (D2 (be.1 (d.getD 0)) (d.getD 1) A D) ?_);rintro _ J ⟨t,rfl,C⟩ n;obtain ⟨e,_⟩:=C j;refine ⟨_,_,rfl,dG (λz=>absurd j z) (λ_=>n.aA (Hz (az #[103,114,97,112,104]) e.rd e.lt hlen (by decide)) ?_)⟩;rintro _ K rfl q;exact ⟨_,rfl,rfl,q.fr⟩
def PF {w:I} {s:O} {bs:List UInt8} (c:Bytes w s bs) (m:Nat) (C:m<=100000000000000):
  ai U oc #[s.v,.i (m:Int)] w (kv w (bs.take m)):=by
 have z:=Bytes.len c;have B:=c.2.1;refine GC.ok s m w _ ?_;have h:(if (m:Int)<((s.n:Nat):Int) then (m:Int) else ((s.n:Nat):Int))=((min m bs.length:Nat):Int):=by rw [z];split<;>omega
 rw [h];refine ⟨by omega,by omega,?_⟩;have d:=Bytes.sub c 0 (min m bs.length) (by omega) (by omega);have j:(List.take (min m bs.length) bs).drop 0=bs.take m:=by
  rw [List.drop_zero];by_cases y:m<=bs.length
  .rw [Nat.min_eq_left y]
  .rw [Nat.min_eq_right (by omega),e1 (Nat.le_refl _),e1 (by omega)]
 rw [j] at d;obtain ⟨e,A,k,q,u,x⟩:=wG (s:=⟨none,0,0⟩) (xs:=[]) (Fr.refl _ w) (Ow.nil w b') (by simp [ay]) d (by simp;omega);exact ⟨e,A,k,e,rfl,q,u,x⟩
def kJ:Nx:=⟨0,[],0,0,0,ba [120],⟨0,8,0⟩⟩
def tH:Nx:=⟨4,[0],0,0,0,ba [],cF⟩
def rr:Nx:=⟨4,[0],0,0,0,ba [],⟨0,8,0⟩⟩
def Bc:Nx:=⟨20,[0,1],0,0,0,ba [],cF⟩
def Bd:Nx:=⟨21,[0],8,0,0,ba [],cF⟩
def Rc:eo [] kJ=([kJ],0,0):=by kernel_rfl
def Re:eo [kJ] tH=([kJ,rr],1,0):=by kernel_rfl
def Rf:eo [kJ,rr] tH=([kJ,rr],1,0):=by kernel_rfl
def Rg:bU [kJ,rr] Bc=(⟨0,16,0⟩,0):=by kernel_rfl
def Rh:bU [kJ,rr] Bd=(cF,5):=by kernel_rfl
def yI {d:Nx} (h:d.kids.length<=2) (j:0<=d.n/\d.n<=8) (k:d.m=0) (q:d.u=0) (e:d.op≠33):jB d:=⟨by omega,⟨by omega,by omega⟩,⟨by omega,by omega⟩,by omega,λc=>absurd c e⟩
def tX:jB kJ:=yI (by decide) (by decide) rfl rfl (by decide)
def tN:jB tH:=yI (by decide) (by decide) rfl rfl (by decide)
def UB:jB Bc:=yI (by decide) (by decide) rfl rfl (by decide)
def tE:jB Bd:=yI (by decide) (by decide) rfl rfl (by decide)
def rn {g:List Nx} (h:∀e∈g,bT e.st=true/\e.kids.length<=1) {l:List Nd} (j:xs l=g):(∀c∈xs l,bT c.st=true)/\∀c∈l,c.x.kids.length<=1000000000:=by subst j;exact ⟨λc d=>(h c d).1,λc d=>by have:=(h c.x (cQ.2 ⟨c,d,rfl⟩)).2;omega⟩
def Eu {g:List Nx} {l:List Nd} (c:xs l=g):l.length=g.length:=by rw [<-c];simp [xs]
def Oc (w:I) (F:c'.P w):ai U Bo #[] w λr w'=>r=V (.bool true)/\ao w w':=by
 have Y:LH F0 w w [] [c']:=bZ _ (by intro ar E;simp only [aB,a1,a7] at E;subst E;exact F)
 have Q:∀w:I,GP w ⟨none,0,0⟩ []:=λw=>⟨bL.nil 9 w,by simp⟩;have G:∀e∈([kJ]:List Nx),bT e.st=true/\e.kids.length<=1:=by decide
 have z:∀e∈([kJ,rr]:List Nx),bT e.st=true/\e.kids.length<=1:=by decide
 have q1:=D1 (d:=⟨kJ,⟨none,0,0⟩⟩) (Q w) (Rd.nil w) F tX (by decide) (by simp [xs]) (by simp);refine GA.aD w _ (q1.mono ?_);rintro _ w1 ⟨⟨g1,rfl,⟨l1,k,S,M⟩⟩,f1⟩;rw [show xs []=([]:List Nx) from rfl,Rc] at k ⊢;have n1:=Eu k;have Z:=Y.fo (.gr g1 l1) f1 (be.2 S) (λb j=>.inl ((M b j).resolve_left λc=>by
  rcases j7.1 c with c|⟨e,hd,_⟩
  .cases c
  .cases hd))
 refine ⟨_,_,_,rfl,Z.aL λb1 w2 H2=>H2.au λK H3=>H3.nw λw4 _ x=>?_⟩;have k0:bS w4 ⟨some (aj K.heap.size),1,1⟩ [0]:=o4 (T:=bX) (x.ob 1) rfl;have q2:=D1 (d:=⟨tH,⟨some (aj K.heap.size),1,1⟩⟩) (be.1 (x.getD 1)) k0 (x.getD 0) tN (by rw [n1];decide) (rn G k).1 (rn G k).2;refine iH (q2.mono ?_);rintro _ w5 ⟨⟨g2,rfl,⟨l2,n,W,N⟩⟩,C⟩;rw [k,Re] at n ⊢;have n2:=Eu n;have H5:=x.fo (.gr g2 l2) C (be.2 W) (λb j=>(N b j).elim (λc=>.inr (.inr ⟨_,aI (i:=1) rfl,c⟩)) .inl);refine ⟨C,_,_,_,rfl,H5.aL λb4 w6 H6=>H6.au λL H7=>H7.nw λw8 _ y=>?_⟩;have k1:bS w8 ⟨some (aj L.heap.size),1,1⟩ [0]:=o4 (T:=bX) (y.ob 3) rfl;have q3:=D1 (d:=⟨tH,⟨some (aj L.heap.size),1,1⟩⟩) (be.1 (y.getD 2)) k1 (y.getD 0) tN (by rw [n2];decide) (rn z n).1 (rn z n).2;refine iH (q3.mono ?_);rintro _ w9 ⟨⟨g3,rfl,⟨l3,h,B,O⟩⟩,D⟩;rw [n,Rf] at h ⊢;have A:=Eu h;have H9:=y.fo (.gr g3 l3) D (be.2 B) (λb j=>(O b j).elim (λc=>.inr (.inr ⟨_,aI (i:=2) rfl,c⟩)) .inl);have ak:=fu B;refine ⟨D,_,_,_,rfl,H9.aL λb7 av aa=>a9 rfl (a9 rfl (a9 rfl (a9 rfl (a9 rfl (dG (λal=>absurd (by rw [ak,A];rfl) al) (λ_=>aa.au λH ab=>ab.nw λam _ q=>?_))))))⟩;have k2:bS am ⟨some (aj H.heap.size),2,2⟩ [0,1]:=o4 (T:=bX) (q.ob 5) rfl;have q4:=D3 (d:=⟨Bc,⟨some (aj H.heap.size),2,2⟩⟩) (be.1 (q.getD 3)) k2 (q.getD 0) UB (by rw [A];decide) (rn z h).1;refine q.aA q4 ?_;rintro _ aw rfl ac;rw [h,Rg];refine ⟨_,_,_,_,rfl,ac.aL λap ax ad=>ad.au λJ ae=>ae.nw λan _ u=>?_⟩;have k3:bS an ⟨some (aj J.heap.size),1,1⟩ [0]:=o4 (T:=bX) (u.ob 7) rfl;have q5:=D3 (d:=⟨Bd,⟨some (aj J.heap.size),1,1⟩⟩) (be.1 (u.getD 3)) k3 (u.getD 0) tE (by rw [A];decide) (rn z h).1;refine u.aA q5 ?_;rintro _ ay rfl af;rw [h,Rh];exact ⟨_,_,_,_,rfl,af.aL λaq az ag=>bd rfl (bd rfl (ag.au λaC ah=>⟨rfl,ah.fr⟩))⟩
namespace wo
noncomputable abbrev X:Fx:=⟨U,Tryz.f3,[(13,ls [0,1,2,3,5,6,7,8,4,9,10]),(14,(.sq [0,2,3,5,7,10,11,12] (.fork (.sq [1] (.fork (.sq [4] (.fork (ls [6,8,9,13,14]) (ls [8,6,9,13,14]))) (ls [8,4,6,9,13,14]))) (.fork (.sq [4] (.fork (.sq [1] (.fork (ls [6,8,9,13,14]) (ls [8,6,9,13,14]))) (ls [8,1,6,9,13,14]))) (.sq [8] (.fork (ls [1,4,6,9,13,14]) (ls [4,1,6,9,13,14]))))))),(23,ls [0,1,2,3,4,5,6,7,8,9,10,11,12,13,14,15,16,17])],[12,16,24]⟩
abbrev P0:Ps:=[]
abbrev aQ (w:I) (R:aa):Prop:=
 R (V (.bool false)) w
noncomputable def bf:=aC X [] (ak [0,1,1,1,7]) P0 aQ::[]
abbrev P1:Ps:=[(22,.v [.s]),(23,.v [.I])]
def kq (d:O) (c:Int) (w:I) (R:aa):Prop:=br P1 0 (X.Sem (ak [0,1,1,1,14])) d c w R
noncomputable def hJ:=bD X (ak [0,1,1,1,14]) P1 kq::bf
abbrev bh (w:I) (R:aa):Prop:=
 R (V (.bool false)) w
noncomputable def bt:=aC X hJ (ak [0,1,1,2,1,1,1,2,1,2,1,1,14]) P0 bh::hJ
abbrev cB (d:O) (c:Int) (w:I) (R:aa):Prop:=
 kq d (ab .i64 (c+1)) w R
noncomputable def cZ:=aC X bt (ak [2,2,1,1,14]) P1 cB::bt
abbrev gZ (w:I) (R:aa):Prop:=
 R (V (.bool false)) w
noncomputable def eY:=aC X cZ (ak [0,1,4,2,1,2,1,1,14]) P0 gZ::cZ
def sB:∀(j:O) (e:Int) (w:I) (R:aa) (F:Y (ah (e<5)) (aw j e λz=>∃t129:O,w.cell? (z.add (ag e *1))=some (t129.v)/\
 OG xJ #[t129.v] w λq u D=>aJ [] D λd k=>
 Y (u !=0) (Y (u !=2) (loc [d] k λh=>bh h R) (Y (((q.n:Nat):Int) !=0) (loc [d] k λh=>bh h R) (loc [d] k λh=>cB j e h R))) (loc [d] k λh=>z1 [d] ug #[.agg #[q.v]] h λA B x=>Y (B !=0) (loc [d] x λc=>gZ c R) (loc [d] x λc=>∃t152:ByteArray,a6 U (Go.convert aH dy (A.v)) c=.ok (.string t152) c/\aw j e λC=>∃t156:O,c.cell? (C.add (ag e *1))=some (t156.v)/\
 ∃t157:ByteArray,a6 U (Go.convert aH dy (t156.v)) c=.ok (.string t157) c/\Y (!(t152.toList==t157.toList)) (gZ c R) (b0 [d] BK #[q.v] c λt163 y=>Y (t163 !=0) (gZ y R) (cB j e y R))))) (gk Bo #[] w λt166 E=>R (V (.bool t166)) E)),kq j e w R:=mp (bF (X:=X) eY (ak [0,1,1,1,14]) P1)
abbrev a2 (c:O) (w:I) (R:aa):Prop:=
 kq c 0 w R
noncomputable def bg:=aC X eY (ak [14]) [(22,.v [.s])] a2::eY
def aD (l0:O) (af ae:Int) (q:O) (j:Int) (w:I) (R:aa) (aZ:di gL #[.i af,.i 3] w λt30 w1=>kA xh #[l0.v,.i t30,.i 8] w1 λt31 w2=>aJ [] w2 λd w3=>
 loc [d] w3 λw4=>z1 [d] ug #[.agg #[t31.v]] w4 λZ a4 w5=>fU [d] BH #[t31.v] w5 λt40 w6=>OV [d] xJ #[Z.v] w6 λa5 a7 w7=>aJ [d] w7 λe w8=>
 loc [d,e] w8 λw9=>qR [d,e] xU #[Z.v] w9 λt47 k=>Y (a4 !=0) (aQ k R) (Y (a7 !=0) (aQ k R) (Y t47.isNone (aQ k R) (∃t60:ByteArray,a6 U (Go.convert aH dy (Z.v)) k=.ok (.string t60) k/\∃t62:ByteArray,a6 U (Go.convert aH dy (t40.v)) k=.ok (.string t62) k/\Y (!(t60.toList==t62.toList)) (aQ k R) (b0 [d,e] jh #[.pointer t47] k λt67 aC=>Y (t67 !=((t31.n:Nat):Int)) (aQ aC R) (bM [d,e] BJ #[a5.v,t31.v] aC λt76 aF=>Y (!t76) (aQ aF R) (v' [d,e] Ch #[.agg #[t31.v]] aF λt81 a9=>v' [d,e] xm #[.string (az #[103,114,97,112,104]),t40.v] a9 λt83 aG=>Y (t81 !=t83) (aQ aG R) (b0 [d,e] gL #[.i ae,.i ((t40.n:Nat):Int)] aG λt89 aI=>aN aI (.cells #[] b') λaK=>
 ∃(t92:O) (y:I),a6 U (bb #[aH,aH] aH #[.slice (some (nb aI)) 0 0,t40.v]) aK=.ok (t92.v) y/\kept [d,e] aK y/\aw t92 t89 λa8=>av y (a8.add (ag t89 *1)) (.int .u8 j) λaL=>kept [d,e] y aL/\
 (0:Int)<=t89/\t89<=((t40.c:Nat):Int)/\(0:Int)<=(ab .i64 (t89+1))/\(ab .i64 (t89+1))<=((t40.n:Nat):Int)/\loc [d,e] aL λaM=>∃(t101:O) (z:I),a6 U (bb #[aH,aH] aH #[.slice none 0 0,.slice (if t40.c=0 then t40.a else t40.a.map (·.add (0 *1))) ((ag t89) - 0) (t40.c - 0)]) aM=.ok (t101.v) z/\kept [d,e] aM z/\∃(t106:O) (u:I),a6 U (bb #[aH,aH] aH #[t101.v,.slice (if t40.c=(ag (ab .i64 (t89+1))) then t40.a else t40.a.map (·.add ((ag (ab .i64 (t89+1))) *1))) (t40.n - (ag (ab .i64 (t89+1)))) (t40.c - (ag (ab .i64 (t89+1))))]) z=.ok (t106.v) u/\kept [d,e] z u/\(0:Int)<=t89/\t89<=((t40.c:Nat):Int)/\((loc [d,e] u λh=>fU [d,e] oc #[q.v,.i 80] h λt108 x=>((aN x (.cells #[] b') λA=>
 ((∃(t113:O) (B:I),a6 U (bb #[aH,aH] aH #[.slice (some (nb x)) 0 0,t40.v]) A=.ok (t113.v) B/\kept [d,e] A B/\aN B (.cells #[.int .u8 j] b') λaO=>
 ∃(t116:O) (C:I),a6 U (bb #[aH,aH] aH #[t113.v,.slice (some (nb B)) 1 1]) aO=.ok (t116.v) C/\kept [d,e] aO C/\aN C (.cells #[t108.v,t92.v,t106.v,t116.v,.slice (if t40.c=0 then t40.a else t40.a.map (·.add (0 *1))) ((ag t89) - 0) (t40.c - 0)] aH) λba=>
 a2 ⟨some (nb C),5,5⟩ ba R)/\(aN A (.cells #[.int .u8 j] b') λaP=>
 ∃(aj:O) (D:I),a6 U (bb #[aH,aH] aH #[.slice (some (nb x)) 0 0,t40.v]) aP=.ok (aj.v) D/\kept [d,e] aP D/\∃(aq:O) (E:I),a6 U (bb #[aH,aH] aH #[aj.v,.slice (some (nb A)) 1 1]) D=.ok (aq.v) E/\kept [d,e] D E/\aN E (.cells #[t108.v,t92.v,t106.v,aq.v,.slice (if t40.c=0 then t40.a else t40.a.map (·.add (0 *1))) ((ag t89) - 0) (t40.c - 0)] aH) λbc=>
 a2 ⟨some (nb E),5,5⟩ bc R)))/\(aN x (.cells #[.int .u8 j] b') λaR=>
 aN aR (.cells #[] b') λaS=>
 ∃(ak:O) (F:I),a6 U (bb #[aH,aH] aH #[.slice (some (nb aR)) 0 0,t40.v]) aS=.ok (ak.v) F/\kept [d,e] aS F/\∃(ar:O) (G:I),a6 U (bb #[aH,aH] aH #[ak.v,.slice (some (nb x)) 1 1]) F=.ok (ar.v) G/\kept [d,e] F G/\aN G (.cells #[t108.v,t92.v,t106.v,ar.v,.slice (if t40.c=0 then t40.a else t40.a.map (·.add (0 *1))) ((ag t89) - 0) (t40.c - 0)] aH) λbd=>
 a2 ⟨some (nb G),5,5⟩ bd R)))/\((loc [d,e] u λh=>aN h (.cells #[] b') λac=>
 ((fU [d,e] oc #[q.v,.i 80] ac λah H=>((∃(al:O) (J:I),a6 U (bb #[aH,aH] aH #[.slice (some (nb h)) 0 0,t40.v]) H=.ok (al.v) J/\kept [d,e] H J/\aN J (.cells #[.int .u8 j] b') λaT=>
 ∃(au:O) (K:I),a6 U (bb #[aH,aH] aH #[al.v,.slice (some (nb J)) 1 1]) aT=.ok (au.v) K/\kept [d,e] aT K/\aN K (.cells #[ah.v,t92.v,t106.v,au.v,.slice (if t40.c=0 then t40.a else t40.a.map (·.add (0 *1))) ((ag t89) - 0) (t40.c - 0)] aH) λbe=>
 a2 ⟨some (nb K),5,5⟩ be R)/\(aN H (.cells #[.int .u8 j] b') λaU=>
 ∃(am:O) (L:I),a6 U (bb #[aH,aH] aH #[.slice (some (nb h)) 0 0,t40.v]) aU=.ok (am.v) L/\kept [d,e] aU L/\∃(ax:O) (M:I),a6 U (bb #[aH,aH] aH #[am.v,.slice (some (nb H)) 1 1]) L=.ok (ax.v) M/\kept [d,e] L M/\aN M (.cells #[ah.v,t92.v,t106.v,ax.v,.slice (if t40.c=0 then t40.a else t40.a.map (·.add (0 *1))) ((ag t89) - 0) (t40.c - 0)] aH) λbf=>
 a2 ⟨some (nb M),5,5⟩ bf R)))/\(aN ac (.cells #[.int .u8 j] b') λbh=>
 fU [d,e] oc #[q.v,.i 80] bh λa0 aV=>∃(an:O) (N:I),a6 U (bb #[aH,aH] aH #[.slice (some (nb h)) 0 0,t40.v]) aV=.ok (an.v) N/\kept [d,e] aV N/\∃(ay:O) (P:I),a6 U (bb #[aH,aH] aH #[an.v,.slice (some (nb ac)) 1 1]) N=.ok (ay.v) P/\kept [d,e] N P/\aN P (.cells #[a0.v,t92.v,t106.v,ay.v,.slice (if t40.c=0 then t40.a else t40.a.map (·.add (0 *1))) ((ag t89) - 0) (t40.c - 0)] aH) λbi=>
 a2 ⟨some (nb P),5,5⟩ bi R)))/\(loc [d,e] u λh=>aN h (.cells #[.int .u8 j] b') λad=>
 ((fU [d,e] oc #[q.v,.i 80] ad λa1 aW=>aN aW (.cells #[] b') λaX=>
 ∃(ao:O) (Q:I),a6 U (bb #[aH,aH] aH #[.slice (some (nb aW)) 0 0,t40.v]) aX=.ok (ao.v) Q/\kept [d,e] aX Q/\∃(aA:O) (S:I),a6 U (bb #[aH,aH] aH #[ao.v,.slice (some (nb h)) 1 1]) Q=.ok (aA.v) S/\kept [d,e] Q S/\aN S (.cells #[a1.v,t92.v,t106.v,aA.v,.slice (if t40.c=0 then t40.a else t40.a.map (·.add (0 *1))) ((ag t89) - 0) (t40.c - 0)] aH) λbj=>
 a2 ⟨some (nb S),5,5⟩ bj R)/\(aN ad (.cells #[] b') λbk=>
 fU [d,e] oc #[q.v,.i 80] bk λa3 aY=>∃(ap:O) (T:I),a6 U (bb #[aH,aH] aH #[.slice (some (nb ad)) 0 0,t40.v]) aY=.ok (ap.v) T/\kept [d,e] aY T/\∃(aB:O) (W:I),a6 U (bb #[aH,aH] aH #[ap.v,.slice (some (nb h)) 1 1]) T=.ok (aB.v) W/\kept [d,e] T W/\aN W (.cells #[a3.v,t92.v,t106.v,aB.v,.slice (if t40.c=0 then t40.a else t40.a.map (·.add (0 *1))) ((ag t89) - 0) (t40.c - 0)] aH) λbl=>
 a2 ⟨some (nb W),5,5⟩ bl R))))))))))))):ai U Bn #[l0.v,.i af,.i ae,q.v,.int .u8 j] w R:=aE X bg aZ
end wo
namespace ER
abbrev sm (w:I):aa:=λr c=>r=V (.bool true)/\ao w c
abbrev vG (row:O) (l:List (O×List UInt8)):En:=.all (.rd row (l.map λp=>p.1.v)::l.map λp=>.rd p.1 (p.2.map W.dD))
def Ec {w:I} {row:O} {l:List (O×List UInt8)} (c:(vG row l).P w):Rd w row (l.map λp=>p.1.v):=c _ List.mem_cons_self
def LS {w:I} {row:O} {l:List (O×List UInt8)} (c:(vG row l).P w) {i:Nat} {s:O} {b:List UInt8} (hi:l[i]? =some (s,b)):Bytes w s b:=
 c (.rd s (b.map W.dD)) (List.mem_cons_of_mem _ (cQ.2 ⟨(s,b),aI hi,rfl⟩))
section
variable {w:I}
open wo in
def loop (tr:O) (lt:List (O×List UInt8)) (aa:∀p∈lt,p.2.length<=100000) (ht:lt.length=5):
  ∀(d i:Nat) (y:I),i+d=5->LH F0 w y [] [c',vG tr lt]->kq tr (i:Int) y (sm w):=by
 intro d;induction d with
 |zero=>
  intro i y hi c;refine sB _ _ _ _ (a9 (a0 (by omega)) (c.call (Oc y (c.getD 0)) ?_));rintro _ w2 rfl E;exact ⟨_,rfl,rfl,E.fr⟩
 |succ d ih=>
  intro i y hi c;have ac:=(Ec (c.getD 1)).1;simp only [nr] at ac;have u:lt[i]? =some (lt[i]'(by omega)):=bc (by omega);have C:=aa _ (aI u);generalize lt[i]'(by omega)=p at u C;obtain ⟨s,b⟩:=p;have C:b.length<=100000:=C;have P:(lt.map λp=>p.1.v)[i]? =some s.v:=by rw [List.getElem?_map,u];rfl
  have next:∀{j:I} {L D:List En},LH F0 w j L ([c',vG tr lt]++D)->cB tr (i:Int) j (sm w):=λ{j} {L} {D} e=>by show kq _ _ _ _;rw [bw _ (by omega)];exact ih (i+1) j (by omega) ((e.take 0).forget _ (by intro ae N;simp only [aB,a1,a7] at N;rcases N with rfl|rfl<;>simp))
  refine sB _ _ _ _ (bd (aW (by omega)) ⟨by omega,by omega,(Ec (c.getD 1)).get P rfl λp hp G=>⟨_,G,c.sP (Ld (LS (c.getD 1) u) (by omega) (c.getD 0)) ?_⟩⟩);rintro _ w2 ⟨t,l,rfl,H,J,Y⟩ _ Z;have E:=Z.rd (.gr t l) (be.2 J) Y;have hn:=fu J;have Q:(xs l).length=l.length:=by simp [xs]
  refine ⟨_,_,rfl,E.aL λad w3 K=>?_⟩;by_cases B:(fq b).2=0
  .obtain ⟨M,q⟩:=Gl B;have A:=Pa C B;rw [<-H] at M q A;have hlen:=(Md q).1;have F:∀d∈l,fk d.x/\mR d.x:=λd h=>⟨A.w _ (cQ.2 ⟨d,h,rfl⟩),A.n _ (cQ.2 ⟨d,h,rfl⟩)⟩;rw [B];refine a9 rfl (K.au λj e=>e.jF (D2 (be.1 (e.getD 2)) (e.getD 0) (λ_ d h=>⟨(F d h).1.tok,(F d h).1⟩) A.z) ?_);rintro _ w5 ⟨T,rfl,ab⟩ _ F5;obtain ⟨S,nb⟩:=ab q;rw [M] at S;rw [q];have H5:=F5.rd (.rd T (b.map W.dD)) S.rd (oA nb);refine ⟨_,_,rfl,a9 rfl (H5.au λw6 k=>?_)⟩;refine ⟨_,lX (show Bytes w6 T b from k.getD 3),by omega,by omega,(Ec (k.getD 1)).get P rfl λp hp G=>⟨_,G,_,lX (LS (k.getD 1) u),a9 (by simp) (k.aA (Ol (be.1 (k.getD 2)) (λ_ d h=>(F d h).2) (by omega)) ?_)⟩⟩;rintro _ w7 rfl H7;rw [q];exact ⟨_,rfl,a9 rfl (next (D:=[_,_]) H7)⟩
  .have hb:=O9 B;rw [hb] at H ⊢;have l0:t.n=0:=by have:xs l=[]:=H;rw [this] at Q;simp at Q;omega
   refine bd rfl (a9 rfl (a9 (by rw [l0];rfl) (K.au λj e=>next (D:=[_]) e)))
def Up {M:Nat->Prop} {w0 w:I} {L D:List En} {bs:List Nat} (H:LH M w0 w L D) (i:Nat) {s:O} {l:List UInt8} (j:Nat) (c:UInt8) {K:I->Prop} (hi:L[i]? =some (.by s l)) (x:j<l.length) (u:∀h,LH M w0 h (L.set i (.by s (l.set j c))) D->K h) (e:∀b∈bs,En.g b∈L:=by simp):
  ct s.a λp=>av w (p.add (j *1)) (.int .u8 (c.toNat:Int)) λk=>kept bs w k/\K k:=by
 obtain ⟨p,z,C,A,B,n,q⟩:=CX (H.get i hi) (j *1) (by simpa using x) (W.dD c);rw [z];refine ⟨A,B,λb d=>?_,u _ (H.g9 i (.by s (l.set j c)) hi q ?_ (λb d=>.inl d))⟩
 .exact q.ck b (H.own _ (e b d)) λy=>H.wF hi (e b d) y
 .rw [Nat.mul_one,<-List.map_set] at n;rw [Nat.mul_one];exact n
open wo in
def fin {w':I} {L D:List En} {h f x y z:O} {E j X q Z:List UInt8} (H:LH F0 w w' L D) (K:c'∈D) (u:En.rd h (E.map W.dD)∈D) (J:En.by f j∈L) (N:En.by x X∈L) (P:En.by y q∈L) (Q:En.by z Z∈L)
  (lE:E.length<=100000) (S:j.length<=100000) (T:X.length<=100000) (Y:q.length<=100000) (lZ:Z.length<=100000) (k:Nat) (M:k<=E.length):
  aN w' (.cells #[f.v,x.v,y.v,z.v,.slice (if h.c=0 then h.a else h.a.map (·.add (0 *1))) ((ag (k:Int)) - 0) (h.c - 0)] aH) λA=>a2 ⟨some (Addr.mk w'.heap.size 0 none),5,5⟩ A (sm w):=by
 rw [dJ];refine H.eb (e:=aH) (sz:=1) (n:=5) (cs:=[f.v,x.v,y.v,z.v,(sub h 0 k).v]) rfl (by decide) λA d=>?_;have B:=Bytes.sub (show Bytes A h E from d.rd _ u) 0 k (dv _) M;rw [List.drop_zero] at B;refine loop ⟨some (aj w'.heap.size),5,5⟩ [(f,j),(x,X),(y,q),(z,Z),(sub h 0 k,E.take k)] ?_ rfl 5 0 A rfl ⟨d.fr,by simp,?_,by simp,by simp,by simp⟩
 .intro p F;simp only [aB,a1,a7] at F;rcases F with rfl|rfl|rfl|rfl|rfl
  .exact S
  .exact T
  .exact Y
  .exact lZ
  .simp;omega
 .intro G C;simp only [aB,a1,a7] at C;rcases C with rfl|rfl
  .exact d.rd _ K
  .intro G u;simp only [List.map_cons,List.map_nil,aB,a1,a7] at u;rcases u with rfl|rfl|rfl|rfl|rfl|rfl
   .exact aS.Jr (d.own (.row aH 1 ⟨some (aj w'.heap.size),5,5⟩ _) (by simp))
   .exact (jk (d.own (.by f j) (by simp [J]))).rd
   .exact (jk (d.own (.by x X) (by simp [N]))).rd
   .exact (jk (d.own (.by y q) (by simp [P]))).rd
   .exact (jk (d.own (.by z Z) (by simp [Q]))).rd
   .exact B
end
open wo in
def law (w:I) (hk:c'.P w) (ls:O) (kind at_:Int) (raw:O) (c:Int) (w0:ArgNums w ls) (w1:cp kind) (w2:cp at_) (w3:ArgBytes w raw) (w4:0<=c/\c<=255):
  ai U Bn #[ls.v,.i kind,.i at_,raw.v,.int .u8 c] w (sm w):=by
 obtain ⟨aP,ba,a6,a8⟩:=w0;obtain ⟨ac,bc,_⟩:=w3;obtain ⟨C,rfl⟩:∃C:UInt8,c=(C.toNat:Int):=⟨cS c.toNat,by rw [UInt8.toNat_ofNat'];omega⟩;have ad:LH F0 w w [] [.rd ls (aP.map dp),c',.rd raw (ac.map W.dD)]:=bZ _ (by
  intro al he;simp only [aB,a1,a7] at he;rcases he with rfl|rfl|rfl
  .exact ba
  .exact hk
  .exact bc)
 refine aD ls kind at_ raw (C.toNat:Int) w _ (ad.call (iL kind 3 w (by omega) w1) ?_)
 rintro _ v1 rfl H1;refine ⟨_,rfl,H1.sP (NM (H1.getD 0) a8 a6 (fS kind 3) 8 (by omega)) ?_⟩;rintro _ v2 ⟨s,l,rfl,a0,bq,br,aJ,aR⟩ _ F2;have H2:=F2.rd (.gr s l) (be.2 aJ) aR;have bd:=fu aJ;have bh:(xs l).length=l.length:=by simp [xs]
 obtain ⟨gd,hE,hv⟩:=a0.Qo (by omega);have gx:∀G∈l,fk G.x:=λG hd=>gd.w _ (cQ.2 ⟨G,hd,rfl⟩);have gT:l.length<=4096->∀G∈l,jB G.x/\fk G.x:=λ_ G hd=>⟨(gx G hd).tok,gx G hd⟩;obtain ⟨h,T⟩:∃h,h=ho (xs l):=⟨_,rfl⟩;have dec:fq h=(xs l,0):=by rw [T];exact O' gd.w (by omega) hv
 have a5:cp ((xs l).length:Int):=⟨by omega,by omega⟩;have eI:(bQ ⟨h,0⟩).1=((xs l).length:Int):=by rw [T];unfold ho;rw [nt _ a5]
 have lE:h.length<=90000:=by rw [T];omega
 have pE:1<=h.length:=by have:=Gy (zz ((xs l).length:Int));rw [T];unfold ho cL;rw [cd];omega
 refine ⟨s,rfl,H2.aL λao v3 H3=>H3.au λv4 H4=>H4.jF (D2 (be.1 (H4.getD 3)) (H4.getD 1) gT gd.z) ?_⟩;rintro _ v5 ⟨te,rfl,bf⟩ _ F5;obtain ⟨ob,nb⟩:=bf hv;rw [<-T] at ob;rw [hv];have H5:=F5.rd (.rd te (h.map W.dD)) ob.rd (oA nb);refine ⟨_,_,rfl,H5.lf (Oi (be.1 (H5.getD 3)) gx (λG hd=>gd.z _ (cQ.2 ⟨G,hd,rfl⟩)) (by omega)) λd v6 _ F6 he ne=>⟨d,rfl,?_⟩⟩;rw [<-T] at he;have H6:=F6.rd (.rd d (h.map W.dD)) he.rd (oA ne);refine H6.jF (Ld (show Bytes v6 te h from H6.getD 4) (by omega) (H6.getD 1)) ?_;rw [dec];rintro _ v7 ⟨td,ld,rfl,hx,Gd,Fd⟩ _ F7;have hx:xs ld=xs l:=hx;have H7:=F7.rd (.gr td ld) (be.2 Gd) Fd;refine ⟨_,_,rfl,H7.aL λap v8 H8=>H8.au λv9 H9=>iH ((Jp (show Bytes v9 te h from H9.getD 4) (by omega)).mono ?_)⟩;rintro _ v10 ⟨rb,fp,rfl,bm,f10,nf⟩;have ar:=H9.push (.kO rb ⟨h,0⟩ fp) f10 bm (λbk hq=>nf bk (aT.1 hq));refine ⟨f10,some (aj rb),rfl,a9 rfl (a9 rfl (a9 rfl ⟨_,lX (show Bytes v10 te h from ar.getD 4),_,lX (show Bytes v10 d h from ar.getD 5),a9 (by simp) ?_⟩))⟩;refine ar.rm 2 rfl (λhr=>ns hr) λv11 av=>⟨_,rfl,a9 (by rw [eI,bd,bh];simp) ?_⟩;have aZ:∀al∈ld,al.x.kids.length<=dQ:=λal he=>by have:al.x∈xs l:=hx▸cQ.2 ⟨al,he,rfl⟩;exact (gd.n _ this).kl
 have bs:ld.length=l.length:=by have:=congrArg List.length hx;simpa [xs] using this
 refine av.aA (NR (l:=ld) (m:=l) (be.1 (av.getD 6)) (be.1 (av.getD 3)) hx (by unfold dQ;omega) aZ) ?_;rintro _ bt rfl aw;refine ⟨_,rfl,a9 rfl (aw.aA (UC (be.1 (aw.getD 3)) (aw.getD 1) gT gd.z hv (by rw [<-T];omega)) ?_)⟩;rintro _ aF rfl ax;rw [<-T];have aY:∀N∈ay d,N<aF.heap.size:=λN bg=>by refine (En.rd d (h.map W.dD)).lt aF (ax.getD 5) N ?_;show N∈(if h.map W.dD=[] then [] else ay d);rw [af (λaX=>by have h3:=congrArg List.length aX;rw [nr,iP] at h3;omega)];exact bg
 refine ⟨_,rfl,ax.aA (Hz (az #[103,114,97,112,104]) (show Bytes aF d h from ax.getD 5) aY (by omega) (by decide)) ?_⟩;rintro _ aG rfl aC;refine ⟨_,rfl,a9 (by simp [show bl (az #[103,114,97,112,104])=[103,114,97,112,104] from rfl]) ?_⟩;have nE:=Bytes.len (show Bytes aG d h from aC.getD 5);have cE:d.n<=d.c:=(show Bytes aG d h from aC.getD 5).2.1;refine aC.aA (iL at_ ((d.n:Nat):Int) aG (by omega) w2) ?_;have bb:=jC at_ ((d.n:Nat):Int) (by omega)
 generalize fS at_ ((d.n:Nat):Int)=z0 at bb
 obtain ⟨k,rfl⟩:∃k:Nat,z0=(k:Int):=⟨z0.toNat,by omega⟩;rintro _ aQ rfl aE;obtain ⟨u,hD⟩:∃u:List En,u=[.rd ls (aP.map dp),c',.rd raw (ac.map W.dD),.gr s l,.rd te (h.map W.dD),.rd d (h.map W.dD),.gr td ld]:=⟨_,rfl⟩;have mk:c'∈u:=by simp [hD]
 have mr:En.rd raw (ac.map W.dD)∈u:=by simp [hD]
 have me:En.rd d (h.map W.dD)∈u:=by simp [hD]
 have aE:LH F0 w aQ [.g ao,.g ap] u:=by rw [hD];exact aE.take 2
 have F:∀{w':I} {L:List En},LH F0 w w' L u->Bytes w' d h:=λad=>ad.rd _ me;have ek:ab .i64 ((k:Int)+1)=((k+1:Nat):Int):=bw _ (by omega);have H:([]:List UInt8).length+h.length<=100000000000000:=by simp only [iP];omega
 have Y:h.length+[C].length<=100000000000000:=by simp only [List.length_singleton];omega
 refine ⟨_,rfl,aE.eb (e:=b') (sz:=1) (n:=0) (cs:=[]) rfl (by decide) λbu aK=>?_⟩;refine aK.eW 2 (s:=⟨some (aj aQ.heap.size),0,0⟩) (l:=[]) (src:=d) rfl (F aK) H λN bv aM=>?_;have nx:=(jk (aM.get 2)).1;simp only [nr,hV] at nx;refine ⟨by omega,by omega,Up aM 2 k C rfl (by simp;omega) λbx aU=>⟨by omega,by omega,?_⟩⟩;rw [ek];refine ⟨by omega,by omega,aU.au λbn an=>?_⟩;have an:LH F0 w bn [.g ao,.g ap,.by N (h.set k C)] u:=an;have bi:(h.set k C).length<=100000:=by rw [List.length_set];omega
 have lZ:(h++[C]).length<=100000:=by simp only [cd,List.length_singleton];omega
 have lF:(ac.take 80).length<=100000:=by rw [dL];omega
 have s1:=Bytes.sub (F an) 0 k (dv _) (by omega);rw [List.drop_zero] at s1;refine (an.jP b' 1).eW 3 (s:=⟨none,0,0⟩) (l:=[]) (src:=sub d 0 k) rfl s1 (by simp only [iP,dL];omega) λy1 v20 aO=>?_;have s2:=Bytes.sub (F aO) (k+1) d.n (by omega) (by omega);refine aO.eW 3 (s:=y1) (src:=sub d (k+1) d.n) rfl s2 (by simp only [hV,dL,iO];omega) λaI bo ae=>⟨by omega,by omega,?_⟩;obtain ⟨ak,hY⟩:∃ak,ak=[]++h.take k++(h.take d.n).drop (k+1):=⟨_,rfl⟩;have lY:ak.length<=100000:=by rw [hY];simp only [hV,cd,dL,iO];omega
 have ae:LH F0 w bo [.g ao,.g ap,.by N (h.set k C),.by aI ak] u:=by rw [hY];exact ae
 have am:∀{w':I} {L:List En} {K:aa},LH F0 w w' L u->(∀t D,LH F0 w D (L++[.by t (ac.take 80)]) u->K (V t.v) D)->cU [ao,ap] U oc #[raw.v,.i 80] w' K:=λH' hK=>H'.lf (PF (H'.rd _ mr) 80 (by omega)) λt D _ aS ht bj=>hK t D (aS.own (.by t _) ht.2 bj);have ah:∀{w':I} {L:List En} {K:I->Prop},LH F0 w w' L u->(∀D,LH F0 w D (L++[.by ⟨some (aj w'.heap.size),0,0⟩ []]) u->K D)->aN w' (.cells #[] b') K:=λH' hK=>H'.eb (e:=b') (sz:=1) (n:=0) (cs:=[]) rfl (by decide) λD aq=>hK D aq;have Z:∀{w':I} {L:List En} {K:I->Prop},LH F0 w w' L u->(∀D,LH F0 w D (L++[.by ⟨some (aj w'.heap.size),1,1⟩ [C]]) u->K D)->aN w' (.cells #[.int .u8 (C.toNat:Int)] b') K:=λH' hK=>H'.eb (e:=b') (sz:=1) (n:=1) (cs:=[W.dD C]) rfl (by decide) λD aq=>hK D aq;have S:∀{w':I} {L:List En} (f z:O),LH F0 w w' L u->En.by f (ac.take 80)∈L->En.by N (h.set k C)∈L->En.by aI ak∈L->En.by z (h++[C])∈L->
   aN w' (.cells #[f.v,N.v,aI.v,z.v,.slice (if d.c=0 then d.a else d.a.map (·.add (0 *1))) ((ag (k:Int)) - 0) (d.c - 0)] aH) λbp=>a2 ⟨some (Addr.mk w'.heap.size 0 none),5,5⟩ bp (sm w):=λf z ad aV aW a3 a4=>fin (E:=h) ad mk me aV aW a3 a4 (by omega) lF bi lY lZ k (by omega)
 refine ⟨ae.au λu1 J1=>am J1 λf u2 Q=>⟨f,rfl,ah Q λJ y=>⟨?_,Z y λM q=>?_⟩,Z Q λJ y=>ah y λM q=>?_⟩,ae.au λu1 J1=>ah J1 λu2 Q=>⟨am Q λf J y=>⟨f,rfl,?_,Z y λM q=>?_⟩,Z Q λJ y=>am y λf M q=>⟨f,rfl,?_⟩⟩,ae.au λu1 J1=>Z J1 λu2 Q=>⟨am Q λf J y=>⟨f,rfl,ah y λM q=>?_⟩,ah Q λJ y=>am y λf M q=>⟨f,rfl,?_⟩⟩⟩
 .refine y.eW 5 (s:=⟨some (aj u2.heap.size),0,0⟩) (l:=[]) (src:=d) rfl (F y) H λB M q=>Z q λu5 j=>?_;refine j.eW 5 (s:=B) (src:=⟨some (aj M.heap.size),1,1⟩) rfl (jk (j.get 6)).rd Y λz u6 A=>?_;exact S f z A (by simp) (by simp) (by simp) (by simp)
 .refine q.eW 5 (s:=⟨some (aj u2.heap.size),0,0⟩) (l:=[]) (src:=d) rfl (F q) H λB u5 j=>?_;refine j.eW 5 (s:=B) (src:=⟨some (aj J.heap.size),1,1⟩) rfl (jk (j.get 6)).rd Y λz u6 A=>?_;exact S f z A (by simp) (by simp) (by simp) (by simp)
 .refine q.eW 6 (s:=⟨some (aj J.heap.size),0,0⟩) (l:=[]) (src:=d) rfl (F q) H λB u5 j=>?_;refine j.eW 6 (s:=B) (src:=⟨some (aj u2.heap.size),1,1⟩) rfl (jk (j.get 5)).rd Y λz u6 A=>?_;exact S f z A (by simp) (by simp) (by simp) (by simp)
 .refine y.eW 4 (s:=⟨some (aj u1.heap.size),0,0⟩) (l:=[]) (src:=d) rfl (F y) H λB M q=>Z q λu5 j=>?_;refine j.eW 4 (s:=B) (src:=⟨some (aj M.heap.size),1,1⟩) rfl (jk (j.get 6)).rd Y λz u6 A=>?_;exact S f z A (by simp) (by simp) (by simp) (by simp)
 .refine q.eW 4 (s:=⟨some (aj u1.heap.size),0,0⟩) (l:=[]) (src:=d) rfl (F q) H λB u5 j=>?_;refine j.eW 4 (s:=B) (src:=⟨some (aj J.heap.size),1,1⟩) rfl (jk (j.get 6)).rd Y λz u6 A=>?_;exact S f z A (by simp) (by simp) (by simp) (by simp)
 .refine q.eW 4 (s:=⟨some (aj u1.heap.size),0,0⟩) (l:=[]) (src:=d) rfl (F q) H λB u5 j=>?_;refine j.eW 4 (s:=B) (src:=⟨some (aj u2.heap.size),1,1⟩) rfl (jk (j.get 5)).rd Y λz u6 A=>?_;exact S f z A (by simp) (by simp) (by simp) (by simp)
 .refine q.eW 6 (s:=⟨some (aj J.heap.size),0,0⟩) (l:=[]) (src:=d) rfl (F q) H λB u5 j=>?_;refine j.eW 6 (s:=B) (src:=⟨some (aj u1.heap.size),1,1⟩) rfl (jk (j.get 4)).rd Y λz u6 A=>?_;exact S f z A (by simp) (by simp) (by simp) (by simp)
 .refine q.eW 5 (s:=⟨some (aj u2.heap.size),0,0⟩) (l:=[]) (src:=d) rfl (F q) H λB u5 j=>?_;refine j.eW 5 (s:=B) (src:=⟨some (aj u1.heap.size),1,1⟩) rfl (jk (j.get 4)).rd Y λz u6 A=>?_;exact S f z A (by simp) (by simp) (by simp) (by simp)
end ER
def termBytes_walk (W:I) (d:laidMetH U [("enthymeme/term.kidCounts",Rows.laid_enthymeme_term_kidCounts)] W) (ls:O) (kind at_:Int) (raw:O) (c:Int) (w0:ArgNums W ls) (h:cp kind) (j:cp at_) (k:ArgBytes W raw) (n:0<=c/\c<=255):
  ai U Bn #[ls.v,.i kind,.i at_,raw.v,.int .u8 c] W λr e=>r=V (.bool true)/\ao W e:=ER.law W (QD d) ls kind at_ raw c w0 h j k n
end Go.Proofs.YtocpddmpfbfdbaaGreatDoor
