import Derived.Test.YtkbmpalepmakmabGreatDoorOW
import Derived.Test.YtkbmpalepmakmabGreatDoorTA
import Derived.Test.YtkbmpalepmakmabGreatDoorW
import Derived.Test.YtkbmpalepmakmabGreatDoorU
import Derived.Test.YtkbmpalepmakmabGreatDoorT1
import Derived.Test.YtkbmpalepmakmabGreatDoorN6
import Derived.Lib.LaidTab
import Derived.Lib.LaidU8
import Derived.LaidByTextLater
import Derived.MakeChecks
import Derived.FnData
import Derived.OpenShut
import Derived.Test.YtkbmpalepmakmabGreatDoorRows
set_option linter.unusedVariables false
set_option maxRecDepth 100000
set_option maxHeartbeats 1000000
set_option linter.defProp false
noncomputable section
namespace Go.Proofs.YtkbmpalepmakmabGreatDoor
open Go renaming World->I,Calls->ai,Program->au,Value->V
open Go.IntKind renaming wrap->aB
open _root_.Int renaming toNat->a0,tdiv->dV,tmod->eI,toNat_natCast->bR
open _root_.ByteArray renaming mk->a'
open Go.IntWalk renaming i64_in->bo
open _root_.Bool renaming and_eq_true->bd
open _root_.Nat renaming le_refl->bw,le_trans->bB,zero_le->dc,lt_of_lt_of_le->pe
open _root_.UInt8 renaming ofNat->cX
open _root_.Option.some renaming inj->ed
open Go.Proofs.Tryz renaming prog->U
open _root_.Decidable renaming decide->ak
open Go.Ending renaming returned->ad
open List renaming mem_append->aP,mem_cons->aF,not_mem_nil->aZ,mem_of_getElem?->aD,getElem?_eq_getElem->aY,getElem?_eq_some_iff->cL,mem_flatMap->ck,mem_map->dA,length_append->bG,length_cons->cC,length_nil->jm,mem_of_mem_take->nh,append_assoc->cU,mem_singleton->cy,length_take->jW,flatMap_append->dK,flatMap_cons->dz,mem_iff_getElem?->iB,mem_cons_of_mem->cP,mem_cons_self->hJ,drop_eq_getElem_cons->dw,all_eq_true->dS,append_nil->cQ,nil_append->lV,cons_append->gE,take_add_one->fJ,map_append->ey,drop_of_length_le->dy
open Go Go.W
def b6.oW{l:List UInt8}{K:List TK}(k:b6 l K):b6 (40::l) ((0,[])::K):=λr p h q d=>by obtain⟨e,j,w⟩:=k r (p+1) h q (by rw[cC]at d;rw[Nat.add_assoc,Nat.add_comm 1];exact d);exact⟨⟨0,[],p⟩::e,by rw[List.map_cons,j];rfl,.tok (i:=p) (l:=40::(l++r)) (u:=1) rfl w⟩
def b6.cls{l:List UInt8}{K:List TK}(k:b6 l K):b6 (41::l) ((1,[])::K):=λr p h q d=>by obtain⟨e,j,w⟩:=k r (p+1) h q (by rw[cC]at d;rw[Nat.add_assoc,Nat.add_comm 1];exact d);exact⟨⟨1,[],p⟩::e,by rw[List.map_cons,j];rfl,.tok (i:=p) (l:=41::(l++r)) (u:=1) rfl w⟩
def aaf{u l:List UInt8}{p:Nat}{k:List aI}(j:bt false (u++l)=u.length+bt false l)(w:Lex (p+u.length) l k):Lex p (u++l) k:=by
 have e:(u++l).drop (bt false (u++l))=l.drop (bt false l):=by rw[j,<-List.drop_drop,List.drop_left]
 cases w with
 |fin h=>
  have d:p+u.length+bt false l=p+bt false (u++l):=by rw[j];omega
  rw[d];exact .fin (by rw[e];exact h)
 |tok h q=>
  have d:p+u.length+bt false l=p+bt false (u++l):=by rw[j];omega
  rw[d]at q ⊢;exact .tok (by rw[e];exact h) (by rw[e];exact q)
def b6.pre{u l:List UInt8}{K:List TK}(w:∀r,bt false (u++r)=u.length+bt false r)(k:b6 l K):b6 (u++l) K:=λr p h q d=>by obtain⟨e,j,x⟩:=k r (p+u.length) h q (by rw[bG,<-Nat.add_assoc]at d;exact d);exact⟨e,j,by rw[cU];exact aaf (w _) x⟩
def b6.nl{l:List UInt8}{K:List TK}(d:b6 l K):b6 (10::l) K:=.pre (u:=[10]) (λr=>by show(if lg 10 then 1+bt false r else _)=_;rw[ag dl];rfl) d
def b6.wd{t l:List UInt8}{K:List TK}{k:Int}(d:b6 t [(k,t)])(h:b6 l K)(e:lA l):b6 (t++l) ((k,t)::K):=d.app h e
def iv{c:UInt8}{l:List UInt8}(d:m4 c=true):lA (c::l):=m3 d
def pI(t:List UInt8)(K:List TK):Bool:=match tokens t with
 |.ok d=>ak (d.dropLast.map kt=K)
 |.bad _ _=>false
def b6.lit{t l:List UInt8}{K j:List TK}(d:pI t K=true)(z:b6 l j):b6 (t++10::l) (K++j):=λr p x A k=>by
 unfold pI at d;cases e:tokens t with
 |bad a C=>rw[e]at d;cases d
 |ok h=>
  rw[e]at d;have d:h.dropLast.map kt=K:=e4 d;obtain⟨w,y,B⟩:=z r (p+(t.length+1)) x A (by rw[bG,cC]at k;rw[show p+(t.length+1)+l.length=p+(t.length+(l.length+1))by omega];exact k);have q:=MJ (xI e).1 p;rw[Nat.zero_add]at q;have:=aad q B io;refine⟨(h.map (tu p)).dropLast++w,?_,?_⟩
  .rw [ey,y,<-d,<-List.map_dropLast,List.map_map];rfl
  .rw [cU,cU];exact this
def pO(d:Nx):List UInt8:=[40,100,101,99,108,97,114,101,32]++bl d.tx++32::jZ d.st++[41,10]
def w5(L:List Nx):List UInt8:=L.flatMap pO
def Fi:List UInt8:=[40,100,101,102,105,110,101,32,40,109,109,32,40,97,32,40,98,118,32,50,41,41,32,40,113,32,40,98,118,32,50,41,41,41,32,40,97,100,100,32,97,32,40,109,117,108,32,113,32,98,41,41,41,10,40,100,101,102,105,110,101,32,40,111,110,101,41,32,40,117,108,116,32,40,109,109,32,97,32,98,41,32,98,41,41,40,100,101,102,105,110,101,32,40,110,110,32,40,99,32,40,98,118,32,49,41,41,41,32,40,111,114,32,99,32,111,110,101,41,41,32,59,32,116,104,114,101,101]
def k2(L:List Nx):List UInt8:=w5 L++Fi
def XG:pI (k2 (xs fX)) (lS (xs fX))=true:=by kernel_rfl
def XH:pI (k2 (xs (fX++hO))) (lS (xs (fX++hO)))=true:=by kernel_rfl
def XI:pI (k2 (xs (fX++hO++iD))) (lS (xs (fX++hO++iD)))=true:=by kernel_rfl
def XJ(kind:Int):pI (k2 (xs (bN kind))) (lS (xs (bN kind)))=true:=by
 unfold bN;by_cases d:kind>0
 .rw [ag d];by_cases e:kind>1
  .rw [ag e];exact XI
  .rw [ab e,cQ];exact XH
 .rw [ab d,ab io,cQ,cQ];exact XG
def rC(n:Nat)(t:List UInt8):List UInt8:=
 if n=0 then 40::(ji++32::(t++[41]))else if n=1 then 40::([97,110,100]++32::(gX++32::(t++[41])))else
 if n=2 then[40,101,113,32,40,109,109,32,98,32,97,41,32,40,110,117,109,32,50,32,50,41,41]else t
def nq(n:Nat)(r:List UInt8):List UInt8:=if n=0 then r else if n=1 then 40::([112,117,115,104]++41::r)else if n=2 then 40::([112,111,112]++41::r)else
 if n=3 then 40::([99,104,101,99,107]++32::([49,48,48]++41::r))else 40::([114,101,116,114,97,99,116]++32::([112,48]++41::r))
def ur(e:Bool)(nm t r:List UInt8):List UInt8:=40::(mV e++32::(nm++32::(t++41::10::r)))
def oz(g:List Nx):Nat->List (Nat×Nat)->List UInt8
 |_,[]=>[]
 |i,a::al=>ur (ak (a.2 / 10%3=2)) (112::bU i) (rC (a.2 / 2%5) (eT (a.1+1) g a.1)) (nq (a.2 / 30%5) (oz g (i+1) al))
def j2{t:List UInt8}{k:Int}(d:(t.head?.any hP&&t.all bV&&ak (fH t=(k,0)))=true):b6 t [(k,t)]:=by
 simp only[bd,decide_eq_true_eq]at d;refine sQ ?_ (λh e=>dS.1 d.1.2 h e) d.2;cases t with
 |nil=>simp at d
 |cons c l=>exact⟨c,l,rfl,by simpa using d.1.1⟩
def aeB{t:List UInt8}{K:List TK}(d:b6 t K)(n:Nat):b6 (rC n t) (nA n K):=by
 unfold rC nA;have e:b6 (t++[41]) (K++[(1,[])]):=d.app Aq (iv dl);split
 .exact .oW (.wd (j2 dl) e.sp (iv dl))
 split
 .exact .oW (.wd (j2 dl) (.sp (.wd (j2 dl) e.sp (iv dl))) (iv dl))
 split
 .have h:b6 [50] [(4,[50])]:=j2 dl;exact .oW (.wd (t:=[101,113]) (j2 dl) (.sp (.oW (.wd (t:=gU) (j2 dl) (.sp (.wd (t:=[98]) (j2 dl) (.sp (.wd (t:=[97]) (j2 dl) (.cls (.sp (.oW (.wd (t:=[110,117,109]) (j2 dl) (.sp (.wd h (.sp (.wd h (.cls (.cls .nil)) (iv dl))) (iv dl))) (iv dl))))) (iv dl))) (iv dl))) (iv dl)))) (iv dl))
 .exact d
def ad9{r:List UInt8}{K:List TK}(d:b6 r K)(n:Nat):b6 (nq n r) (qy n++K):=by
 unfold nq qy;split
 .exact d
 split
 .exact .oW (.wd (t:=[112,117,115,104]) (j2 dl) d.cls (iv dl))
 split
 .exact .oW (.wd (t:=[112,111,112]) (j2 dl) d.cls (iv dl))
 split
 .exact .oW (.wd (t:=[99,104,101,99,107]) (j2 dl) (.sp (.wd (t:=[49,48,48]) (j2 dl) d.cls (iv dl))) (iv dl))
 .exact .oW (.wd (t:=[114,101,116,114,97,99,116]) (j2 dl) (.sp (.wd (t:=[112,48]) (j2 dl) d.cls (iv dl))) (iv dl))
def abP:∀i<100,b6 (112::bU i) [(2,112::bU i)]:=by
 have d:∀i<100,((112::bU i).head?.any hP&&(112::bU i).all bV&&ak (fH (112::bU i)=(2,0)))=true:=by decide+kernel
 exact λi e=>j2 (d i e)
def V0{e:Bool}{nm t r:List UInt8}{KT K:List TK}(h:b6 nm [(2,nm)])(j:b6 t KT)(k:b6 r K):b6 (ur e nm t r) (i7 e nm KT++K):=by
 have q:b6 (mV e) [(2,mV e)]:=by cases e<;>exact j2 dl
 have:=b6.oW (.wd q (.sp (.wd h (.sp (j.app (.cls k.nl) (iv dl))) (iv dl))) (iv dl));have d:i7 e nm KT++K=(0,[])::(2,mV e)::(2,nm)::(KT++(1,[])::K):=by unfold i7;simp
 rw[d];exact this
def IY{g:List Nx}(e:Vg g):∀(al:List (Nat×Nat)) (i:Nat),i+al.length<=100->(∀a∈al,a.1<g.length)->b6 (oz g i al) (l8 g i al)
 |[],_,_,_=>.nil
 |a::al,i,j,d=>by rw[cC]at j;exact V0 (abP i io) (aeB (Qw e _ _ (Nat.lt_succ_self _) (d a hJ)) _) (ad9 (IY e al (i+1) io λb h=>d b (cP _ h)) _)
def o5(L g:List Nx)(al:List (Nat×Nat)):List UInt8:=k2 L++10::oz g 0 al
def jr(L g:List Nx)(al:List (Nat×Nat)):List TK:=lS L++l8 g 0 al
def ads{g:List Nx}(h:Vg g){L:List Nx}(d:pI (k2 L) (lS L)=true){al:List (Nat×Nat)}(j:al.length<=100)(e:∀a∈al,a.1<g.length):b6 (o5 L g al) (jr L g al):=
 .lit d (IY h al 0 io e)
def b6.ll{l:List UInt8}{K:List TK}(j:b6 l K):∃d,Lex 0 l (d++[⟨6,[],l.length⟩])/\d.map kt=K:=by obtain⟨d,h,e⟩:=j [] 0 [⟨6,[],0+l.length+0⟩] (.inl rfl) (.fin rfl);rw[cQ]at e;rw[show 0+l.length+0=l.length by omega]at e;exact⟨d,e,h⟩
def Tb{T:List aI}{n:Nat}{K:List TK}{y:bJ}{t:List UInt8}(h:cY T n K dT y)(w:n<=K.length)(d:T.map kt=K++[(6,t)]):hM T (T.length+1) dT=.ok y:=by
 have j:cg T 0 K:=⟨[(6,t)],by rw[List.drop_zero];exact d⟩;obtain⟨a,b⟩:=h j;have q:T.length=K.length+1:=by have:=congrArg List.length d;simpa using this
 have k:cg T y.s.p [(6,t)]:=by have:cg T 0 (K++[(6,t)]):=⟨[],by rw[List.drop_zero,cQ];exact d⟩;rw[a];exact this.app.2
 have e:T.length+1=(T.length - n)+1+n:=io
 rw[e,b];exact adh k _
def adt{L g:List Nx}(k:n4 L=true)(z:Vg L)(E:L.length<=10)(M:Vg g)(K:∀d∈g,0<=d.u/\d.u<18446744073709551616)(H:g.length<=60)(B:∀d∈g,d.op=0->d∈L){al:List (Nat×Nat)}(Q:al.length<=4)(F:∀a∈al,∃d,g[a.1]? =some d/\d.st=aO 1/\bY (a.1+1) g a.1<=401):
  ∃n w,n<=(jr L g al).length/\(∀e,ou L e->cY e n (jr L g al) dT w)/\oi (ou L) L g w 1720:=by
 obtain⟨q,N,C,O⟩:=Rp k;have j:oi (ou L) L g (oY L) 0:=⟨⟨by rw[q];exact z,[],by rw[q,cQ],λP G=>(by cases G)⟩,ab1 k,λd A j=>C d (B d A j),by rw[q];omega,io⟩;have S:8<=sT.length:=dl
 have J:(lS L).length=(kM L).length+sT.length:=bG;obtain⟨n,w,D,y,h⟩:=IZ M K H (λe (x:ou L e)=>by have:=x.len;omega) al 0 (oY L) 0 j io F;have A:L.length<=(kM L).length:=by
  unfold kM;clear h y D j O C N q J B E z k;induction L with
  |nil=>exact bw _
  |cons d L T=>
   rw[dz,bG,cC];have:1<=(kN (bl d.tx) d.st).length:=by unfold kN;simp
   omega
 refine⟨L.length+3+n,w,?_,λe x=>(ab2 k e).app (y e x),⟨h.go,h.ev,h.vs,by have:=h.gl;omega,by have:=h.tm;omega⟩⟩;unfold jr;rw[bG];omega
def tO(b:Nat):En:=.c b (nD.map λt=>.string (ba t)) eH
def WI(w:I):ai U Oy #[] w λr e=>(∃b,r=ad (.slice (some (aa b)) 35 35)/\w.heap.size<=b/\(tO b).P e)/\af w e:=
 K7.ok ((O.start (M:=F0) [] gs).nw λh _ d=>⟨⟨_,rfl,bw _,d.get 0⟩,d.fr⟩)
def tz(b c:Nat):En:=.all [.c b (lf.map λd=>.string (ba d.2)) eH,.c c (lf.map λd=>.i d.1) bz]
def Xi(w:I):ai U Oz #[] w λr h=>(∃b c,r=ad (.tuple #[.slice (some (aa b)) 7 7,.slice (some (aa c)) 7 7])/\(∀j∈(tz b c).fp,w.heap.size<=j)/\(tz b c).P h)/\af w h:=
 K8.ok ((O.start (M:=F0) [] gs).nw λA y k=>k.nw λB z d=>⟨⟨_,_,rfl,λj q=>by
  have:=aW.1 q;simp[En.ob]at this;omega,λx e=>by
  simp only[aF,aZ,a7]at e;rcases e with rfl|rfl
  .exact d.get 0
  .exact d.get 1⟩,d.fr⟩)
def Gk{w:I}{b i:Nat}{vs:List V}{T:TypeId}{v:V}(d:(En.c b vs T).P w)(hi:vs[i]? =some v):w.cell? ((aa b).add (a0 (i:Int) *1))=some v:=by rw[bR,Nat.mul_one];exact cellAt (p:=aa b) (i:=i) d rfl (by grind)
def abF:∀n<31,lf.foldl (rA ((n+4:Nat):Int)) (nD.getD (n+4) [])=dR ((n+4:Nat):Int):=dl
def ae':∀t∈nD,t.length<=10:=dl
def QG{op:Int}(e:4<=op)(h:op<=34):(dR op).length<=10:=by
 have d:∀n<31,(dR ((n+4:Nat):Int)).length<=10:=dl
 have:=d (op - 4).toNat io
 grind
def Jr{s:Sl}{l:List Nd}(Q:IC (xs l)):∀(n i:Nat),i<n->i<l.length->∀h,GP h s l->ai U Ox #[s.v,.i (i:Int)] h λr y=>r=ad (.string (ba (eT (i+1) (xs l) i)))/\af h y
 |0,i,Y,_,_,_=>absurd Y io
 |n+1,i,Y,hi,h,hP=>by
  have hg:l[i]? =some (l[i]'hi):=aY hi;generalize l[i]'hi=d at hg;have hx:=og hg;have J:=rJ Q.v hx;have aH:=aD hx;have hlen:=Q.l i (by grind);have hu:=Q.u _ aH;have aK:=Q.t _ aH;have hk:=Q.v.sN i d.x hx;have a9:d.x.kids.length<=3:=by have P:=J.ok.kl;have h2:=(E0 d.x.op).2;omega
  have aj:O F0 h h [] [.gr s l]:=bM _ (by intro a1 he;rw[cy.1 he];exact a8.2 hP);have E:eT (i+1) (xs l) i=if d.x.op=0 then bl d.x.tx else if d.x.op=1 then 35::98::fi d.x.u.toNat d.x.st.n.toNat else if d.x.op=2 then jn (bl d.x.tx)else
   if d.x.op=3 then[40,122,101,114,111,32]++jZ d.x.st++[41]else
   40::dR d.x.op++fT d.x++d.x.kids.flatMap (λah=>32::eT i (xs l) ah.toNat)++[41]:=by
   conv=>lhs;unfold eT
   rw[hx]
  generalize eT (i+1) (xs l) i=full at E hlen;obtain⟨g1,g2,g3⟩:=eh (a8.1 (aj.getD 0)) (X:=(i:Int)) rfl hg (K:=λp=>∃C,C=p/\Nd.ik h p (a0 (i:Int)) d) λp hp c=>⟨p,rfl,c⟩;refine jc.aq ⟨g1,g2,rm g3 λp ⟨C,hq,c⟩=>⟨d.x.op,d.ks,d.x.n,d.x.m,d.x.u,d.x.tx,d.x.st.k,d.x.st.n,d.x.st.x,c.c0,c.c1,c.c2,c.c3,c.c4,c.c5,c.c6,c.c7,c.c8,aj.ax λb w1 N=>?_⟩⟩;have N:O F0 h w1 [.g b] [.gr s l]:=N;refine aw (λZ=>N.ae λM F=>?_) (λZ=>aw (λP=>N.ae λM F=>?_) (λP=>aw (λh2=>N.ae λM F=>?_) (λh2=>aw (λh3=>N.ae λM F=>?_) (λh3=>N.ae λM F=>?_))))
  .rw [ag Z]at E;exact⟨by rw[E,j8],F.fr⟩
  .rw [ab Z,ag P]at E;have bh:=rI J.st;have bi:1<=d.x.st.n:=by
    have:=J.st;have a7:=(J.nu P).1;unfold br at this
    grind
   have e1:aB .i64 (d.x.st.n - 1)=(d.x.st.n.toNat:Int) - 1:=by rw[bo _ io];omega
   rw[e1];have:=Ju (w:=h) (b:=b) (x0:=d.x.op) (x1:=d.ks) (x2:=d.x.n) (x3:=d.x.m) (x4:=d.x.u) (x5:=d.x.tx) (x6:=d.x.st.k) (x7:=d.x.st.n) (x8:=d.x.st.x) (L:=[.g b]) (D:=[.gr s l]) (u:=d.x.u.toNat) (n:=d.x.st.n.toNat) io io io (R:=λr y=>r=ad (.string (ba full))/\af h y) (λy H'=>⟨by rw[E],H'.fr⟩) gs d.x.st.n.toNat M (bw _) F;rw[Nat.sub_self,List.take_zero]at this;exact this
  .rw [ab Z,ab P,ag h2]at E;refine F.av (RQ d.x.tx aK M) ?_;rintro _ w3 rfl W;exact⟨_,rfl,by rw[E],W.fr⟩
  .rw [ab Z,ab P,ab h2,ag h3]at E;have bg:=TF d.x.st;refine F.av (JR J.st M) ?_;rintro _ w3 rfl W;refine⟨_,rfl,ov dl (by rw[be];omega),ov (by rw[ByteArray.size_append,be];show 6+_<=_;omega) dl,?_,W.fr⟩;rw[E,<-bT,<-bT];rfl
  rw[ab Z,ab P,ab h2,ab h3]at E;have aJ:=J.op;have bf:=QG (op:=d.x.op) io aJ.2;have aO:(fT d.x).length+2<=full.length:=by grind
  refine F.g9 (WI M) ?_;rintro _ w3 ⟨T,rfl,bj,aV⟩ _ F3;have W:=F3.rd (tO T) aV (λaX hx=>by
   have:aX=T:=by simpa[tO,En.ob]using hx
   omega)
  have aW:(nD.map λt=>Value.string (ba t))[d.x.op.toNat]? =some (.string (ba (nD.getD d.x.op.toNat []))):=by
   have:d.x.op.toNat<nD.length:=by show _<35;omega
   grind
  have bk:(nD.getD d.x.op.toNat []).length<=10:=by
   have:d.x.op.toNat<nD.length:=by grind
   rw[List.getD_eq_getElem?_getD,aY this];exact ae' _ (List.getElem_mem this)
  refine⟨⟨some (aa T),35,35⟩,rfl,aJ.1,by grind,ba (nD.getD d.x.op.toNat []),?_,ov dl (by rw[be];omega),?_⟩
  .have:=Gk (w:=w3) (W.getD 1) aW
   grind
  refine(W.g9 (Xi w3) ?_:);rintro _ w4 ⟨G,H,rfl,aT,aS⟩ _ F4;have H4:=F4.rd (tz G H) aS aT;have H4:O F0 h w4 [.g b] [.gr s l,tO T,tz G H]:=H4;refine⟨⟨some (aa G),7,7⟩,⟨some (aa H),7,7⟩,rfl,?_⟩;have kids:∀(m j:Nat) (o:List UInt8) (e:I),j+m=d.x.kids.length->full=o++(d.x.kids.drop j).flatMap (λah=>32::eT i (xs l) ah.toNat)++[41]->O F0 h e [.g b] [.gr s l]->
    jc.i2 s b d.x.op d.ks d.x.n d.x.m d.x.u d.x.tx d.x.st.k d.x.st.n d.x.st.x (ba o) (j:Int) e λr y=>r=ad (.string (ba full))/\af h y:=by
   intro m;induction m with
   |zero=>
    intro j o e hj B z;have aN:d.ks.n=d.x.kids.length:=bF.len ((a8.1 (z.getD 0)).2 d (aD hg));have am:=congrArg List.length B;simp only[bG]at am;refine jc.mR (aQ (a2 io) ⟨ov (by rw[be];omega) dl,?_,z.fr⟩);rw[B,dy io];rw[show(a' #[41])=ba [41]from rfl,bT];simp
   |succ m ih=>
    intro j o e hj B z;have aI:=(a8.1 (z.getD 0)).2 d (aD hg);have aN:d.ks.n=d.x.kids.length:=bF.len aI;have ar:d.x.kids[j]? =some (d.x.kids[j]'io):=aY io;have aG:d.x.kids.drop j=d.x.kids[j]'io::d.x.kids.drop (j+1):=dw io;generalize d.x.kids[j]'io=ah at ar aG;obtain⟨k0,k1⟩:=hk ah (aD ar);rw[aG,dz]at B;have am:=congrArg List.length B;simp only[bG,cC]at am;obtain⟨kn,rfl⟩:=Int.eq_ofNat_of_zero_le k0;rw[bR,Qv Q.v.sN i kn io (kn+1) io]at B am;refine jc.mR (aR (a5 io) ⟨ov (by rw[be];omega) dl,io,io,bF.cell aI ar io λC hq hc=>⟨(kn:Int),hc,?_⟩⟩);refine z.av (Jr Q n kn io io e (a8.1 (z.getD 0))) ?_;rintro _ q rfl A;refine⟨_,rfl,ov (by rw[ByteArray.size_append,be];show _+1<=_;omega) (by rw[be];omega),?_⟩;show jc.i2 s b d.x.op d.ks d.x.n d.x.m d.x.u d.x.tx d.x.st.k d.x.st.n d.x.st.x _ (aB .i64 ((j:Int)+1)) q _;rw[bm _ io,show(a' #[32])=ba [32]from rfl,bT,bT]
    grind
  have S4:∀e,O F0 h e [.g b] [.gr s l]->jc.fB s b d.x.op d.ks d.x.n d.x.m d.x.u d.x.tx d.x.st.k d.x.st.n d.x.st.x (ba (40::dR d.x.op++fT d.x)) e λr y=>r=ad (.string (ba full))/\af h y:=λe z=>
   kids d.x.kids.length 0 _ e io (by grind) z
  have fin:∀e,O F0 h e [.g b] [.gr s l]->jc.nM s b d.x.op d.ks d.x.n d.x.m d.x.u d.x.tx d.x.st.k d.x.st.n d.x.st.x (ba (40::dR d.x.op)) e (λr y=>r=ad (.string (ba full))/\af h y)\/True:=λ_ _=>.inr trivial;have an:(a' #[32])=ba [32]:=rfl;have hz:(ba (40::dR d.x.op)).size<=11:=by rw[be];grind
  have S7:(d.x.op=22\/d.x.op=23\/d.x.op=28)->∀e,O F0 h e [.g b] [.gr s l]->jc.nM s b d.x.op d.ks d.x.n d.x.m d.x.u d.x.tx d.x.st.k d.x.st.n d.x.st.x (ba (40::dR d.x.op)) e λr y=>r=ad (.string (ba full))/\af h y:=λB e z=>by
   obtain⟨q1,q2⟩:=J.n2 B;have a6:=jI d.x.n.toNat;refine⟨ov io dl,z.av (r6 (w:=e) q1 io) ?_⟩;rintro _ q rfl A;refine⟨_,rfl,ov (by rw[ByteArray.size_append];show _+1<=_;omega) (by rw[be];omega),?_⟩;have S:fT d.x=32::bU d.x.n.toNat:=by unfold fT;grind
   have:=S4 q A;rw[S]at this;rw[an,bT,bT]
   grind
  have S8:¬(d.x.op=21\/d.x.op=22\/d.x.op=23\/d.x.op=28)->∀e,O F0 h e [.g b] [.gr s l]->jc.rU s b d.x.op d.ks d.x.n d.x.m d.x.u d.x.tx d.x.st.k d.x.st.n d.x.st.x (ba (40::dR d.x.op)) d.x.op e λr y=>r=ad (.string (ba full))/\af h y:=λB e z=>by
   refine aw (λaL=>⟨ov io dl,z.av (RQ d.x.tx aK e) ?_⟩) (λaL=>?_)
   .rintro _ q rfl A;have S:fT d.x=32::jn (bl d.x.tx):=by unfold fT;grind
    rw[S,cC]at aO;refine⟨_,rfl,ov (by rw[ByteArray.size_append];show _+1<=_;omega) (by rw[be];omega),?_⟩;have:=S4 q A;rw[S]at this;rw[an,bT,bT]
    grind
   .have S:fT d.x=[]:=by unfold fT;grind
    grind
  have loop:∀(m j:Nat) (o:List UInt8) (e:I),j+m=7->o=(lf.take j).foldl (rA d.x.op) (nD.getD d.x.op.toNat [])->O F0 h e [.g b] [.gr s l,tO T,tz G H]->
    jc.l6 s b d.x.op d.ks d.x.n d.x.m d.x.u d.x.tx d.x.st.k d.x.st.n d.x.st.x (ba (40::o)) ⟨some (aa G),7,7⟩ ⟨some (aa H),7,7⟩ (j:Int) e λr y=>r=ad (.string (ba full))/\af h y:=by
   intro m;induction m with
   |zero=>
    intro j o e hj B z;have h7:j=7:=io
    subst h7;have B:o=dR d.x.op:=by rw[B];have:=abF (d.x.op - 4).toNat io;rw[show((d.x.op - 4).toNat+4)=d.x.op.toNat by omega,show(d.x.op.toNat:Int)=d.x.op by omega]at this;exact this
    subst B;have A:=z.forget [.gr s l] gs;refine jc.qK (aQ (a2 (by grind)) (aw (λaz=>⟨ov io dl,A.ae λq H7=>?_⟩) (λaz=>?_)))
    .obtain ⟨q1,q2,q3⟩:=J.n1 az;have a3:=jI d.x.n.toNat;have a4:=jI d.x.m.toNat;refine H7.av (r6 (w:=q) io io) ?_;rintro _ w7 rfl H8;refine⟨_,rfl,ov (by rw[ByteArray.size_append];show _+1<=_;omega) (by rw[be];omega),ov (by rw[ByteArray.size_append,ByteArray.size_append,be (bU _)];show _+1+_<=_;omega) dl,H8.av (r6 (w:=w7) q1 io) ?_⟩;rintro _ w8 rfl H9;refine⟨_,rfl,ov (by rw[ByteArray.size_append,ByteArray.size_append,ByteArray.size_append,be (bU _)];show _+1+_+1<=_;omega) (by rw[be];omega),?_⟩;have S:fT d.x=32::bU d.x.n.toNat++32::bU d.x.m.toNat:=by unfold fT;grind
     have:=S4 w8 H9;rw[S]at this;rw[an,bT,bT,bT,bT]
     grind
    .refine aw (λao=>aw (λ_=>S7 (.inl ao) e A) (λY=>absurd ao Y)) (λao=>aw (λap=>aw (λ_=>S7 (.inr (.inl ap)) e A) (λY=>absurd ap Y)) (λap=>aw (λaA=>S7 (.inr (.inr aA)) e A) (λaA=>S8 io e A)))
   |succ m ih=>
    intro j o e hj B z;have ac:j<lf.length:=by show j<7;omega
    have hq:lf[j]? =some (lf[j]'ac):=aY ac;have aM:(lf[j]'ac).2.length<=10:=by
     have:∀C∈lf,C.2.length<=10:=dl
     grind
    have aU:lf.take (j+1)=lf.take j++[lf[j]'ac]:=by rw[fJ,hq];rfl
    generalize lf[j]'ac=C at hq aM aU;have bb:(lf.take (j+1)).foldl (rA d.x.op) (nD.getD d.x.op.toNat [])=rA d.x.op o C:=by grind
    have ay:∀{q:I},O F0 h q [.g b] [.gr s l,tO T,tz G H]->q.cell? ((aa H).add (a0 (j:Int) *1))=some (.i C.1)/\q.cell? ((aa G).add (a0 (j:Int) *1))=some (.string (ba C.2)):=λaj=>by have hp:=aj.getD 2;exact⟨Gk (hp _ (aD (i:=1) rfl)) (by grind),Gk (hp _ (aD (i:=0) rfl)) (by grind)⟩
    have aC:∀(o':List UInt8) (q:I),o'=rA d.x.op o C->O F0 h q [.g b] [.gr s l,tO T,tz G H]->jc.cG s b d.x.op d.ks d.x.n d.x.m d.x.u d.x.tx d.x.st.k d.x.st.n d.x.st.x (ba (40::o')) ⟨some (aa G),7,7⟩ ⟨some (aa H),7,7⟩ (j:Int) q λr y=>r=ad (.string (ba full))/\af h y:=λo' q bc A=>by
     show jc.l6 s b d.x.op d.ks d.x.n d.x.m d.x.u d.x.tx d.x.st.k d.x.st.n d.x.st.x _ _ _ (aB .i64 ((j:Int)+1)) q _;rw[bm _ io]
     grind
    refine jc.qK (aR (a5 (by grind)) ⟨io,by grind,z.ae λq A=>⟨C.1,(ay A).1,aw (λhe=>⟨io,by grind,ba C.2,(ay A).2,ov dl (by rw[be];omega),?_⟩) (λhe=>?_)⟩⟩)
    .have:=aC C.2 q (by unfold rA;grind) A;rw[show(a' #[40])=ba [40]from rfl,bT]
     grind
    .exact aC o q (by unfold rA;grind) A
  have:=loop 7 0 _ w4 io rfl H4;rw[show(a' #[40])=ba [40]from rfl,bT]
  grind
def Ma{T:List aI}(q:hX T){s w:aH}{n:Int}(h:dd T s=.ok n w):0<=n/\n<10000000000000:=by
 rcases Nat.lt_or_ge s.p T.length with d|d
 .exact int_lt q d h
 .exfalso;obtain⟨t,y,k,x⟩:=bK h;obtain⟨e,j,_⟩:=qh k;unfold aL at e;rw[List.getD_eq_getElem?_getD,List.getElem?_eq_none d]at e;rw[e]at j;cases j
def Mn{tm:aH->PR Nat}:∀(n:Nat) (s:aH) (l:List Int) (e:aH),gy tm n s=.ok l e->l.length=n
 |0,_,_,_,d=>by cases d;rfl
 |n+1,s,l,e,d=>by obtain⟨y,w,x,h⟩:=bK d;obtain⟨q,z,j,k⟩:=bK h;cases k;rw[cC,Mn n w q _ j]
def abI:∀d∈fu,d.2.2<=3:=dl
def abf{T:List aI}(P:hX T)(O:∀t∈T,t.kind=5->(g2 t.text).2=0->oq (ba (g2 t.text).1))(tm:aH->PR Nat)(wd:List UInt8)(s:aH)(n:Nx)(Q:aH)(e:iT T tm wd s=.ok n Q):j7 n:=by
 obtain⟨k,W,d,K⟩:=bK e;obtain⟨E,Y,L,N⟩:=bK K;cases N;have S:=Mn _ _ _ _ L;have j:cF 0:=⟨io,io⟩;have i:∀{a b:aH} {x:Int},dd T a=.ok x b->cF x/\0<=x:=λe=>by have:=Ma P e;exact⟨⟨io,io⟩,this.1⟩
 have mk:k.2<=3->cF k.1.n->cF k.1.m->0<=k.1.u->(k.1.op=33->oq k.1.tx)->j7 {k.1 with kids:=E}:=λa b c G H=>⟨by show E.length<=_;omega,b,c,G,H⟩;unfold h4 at d;split at d
 .obtain ⟨u,q,h,d⟩:=bK d;obtain⟨m,F,z,d⟩:=bK d;cases d;exact mk (dc _) j j (i h).2 (λe=>by cases e)
 split at d
 .obtain ⟨u,q,h,d⟩:=bK d;cases d;exact mk (dc _) j j (Int.le_refl _) (λe=>by cases e)
 split at d
 .obtain ⟨u,q,h,d⟩:=bK d;obtain⟨m,F,z,d⟩:=bK d;cases d;exact mk (show 1<=3 by decide) (i h).1 (i z).1 (Int.le_refl _) (λe=>by cases e)
 split at d
 .obtain ⟨u,q,h,d⟩:=bK d;cases d;exact mk (show 1<=3 by decide) (i h).1 j (Int.le_refl _) (λe=>by cases e)
 split at d
 .obtain ⟨u,q,h,d⟩:=bK d;cases d;exact mk (show 1<=3 by decide) (i h).1 j (Int.le_refl _) (λe=>by cases e)
 split at d
 .obtain ⟨u,q,h,d⟩:=bK d;cases d;exact mk (show 1<=3 by decide) (i h).1 j (Int.le_refl _) (λe=>by cases e)
 split at d
 .obtain ⟨r,q,h,d⟩:=bK d;cases d;obtain⟨t,F,z,B⟩:=bK h;obtain⟨A,D,_⟩:=qh z;split at B
  .rename_i J;cases B;refine mk (show 1<=3 by decide) j j (Int.le_refl _) (λ_=>O t ?_ D J);rcases Nat.lt_or_ge s.p T.length with C|C
   .rw [A];exact(o9 C).1
   .unfold aL at A;rw[List.getD_eq_getElem?_getD,List.getElem?_eq_none C]at A;rw[A]at D;cases D
  .cases B
 .cases d;refine mk ?_ j j (Int.le_refl _) (λe=>?_)
  .show ((lk fu wd).getD (0,0)).2<=3;cases w:lk fu wd with
   |none=>exact dc _
   |some y=>exact abI (wd,y) (kg w)
  .have e:((lk fu wd).getD (0,0)).1=33:=e;have M:∀y∈fu,y.2.1≠33:=dl
   cases w:lk fu wd with
   |none=>rw[w]at e;cases e
   |some y=>rw[w]at e;exact absurd e (M (wd,y) (kg w))
def wF(t:List UInt8):Prop:=wD (ba t)/\((g2 t).2=0->jS t=true)
def GJ{T:List aI}(y:hX T)(h:∀t∈T,t.kind=5->wF t.text):ow 12 T:=
 ⟨TB,dl,λt e d j x=>aby (h t e d).1 j (by rw[j9];exact x),abf y λt e d k=>by obtain⟨q,w⟩:=h t e d;rw[He (w k)];exact(Gn q).2.1⟩
def aao:(n9.all λt=>(g2 (bl t)).2 !=0)=true:=by kernel_rfl
def aan:(n9.all λt=>Et.contains (bl t))=true:=by kernel_rfl
def aaI{d:Nx}(e:MdN d)(w:d.op=33->mb d.tx=true)(x:d.op=2\/d.op=33):wF (bl d.tx):=by
 rcases x with q|h
 .have j:=e.li q;refine⟨.inl ?_,λk=>?_⟩
  .have:=dS.1 aan _ j;rw[j9];simpa using this
  .have:=dS.1 aao _ j;rw[k]at this;cases this
 .refine ⟨.inr ?_,λ_=>w h⟩;rw[j8];exact e.re h
def Ux{g:List Nx}:∀(n i:Nat) (t:List UInt8),(5,t)∈dM n g i->∃e∈g,(e.op=2\/e.op=33)/\t=bl e.tx
 |0,_,_,d=>by cases d
 |n+1,i,t,d=>by
  unfold dM at d;split at d
  .cases d
  .rename_i e q;have h:=aD q;split at d
   .simp at d
   split at d
   .simp at d
   split at d
   .rename_i j;refine⟨e,h,.inl j,by simpa using d⟩
   split at d
   .exfalso;unfold ej at d;split at d<;>simp at d
   .rcases aP.1 d with d|d
    .rcases aP.1 d with d|d
     .rcases aP.1 d with d|d
      .simp at d
      .unfold gA at d;split at d
       .simp at d
       split at d
       .simp at d
       split at d
       .rename_i k;exact⟨e,h,.inr k,by simpa using d⟩
       .cases d
     .obtain ⟨w,x,d⟩:=ck.1 d;exact Ux n w.toNat t d
    .simp at d
def RP(b:List UInt8):(jn b).length<=4 *b.length+2:=by have:=(Lf b).2;show([34]++b.flatMap g'++[34]).length<=_;rw[bG,bG];simp only[List.length_singleton];omega
def Gi{g:List Nx}(x:Vg g)(A:∀d∈g,MdN d):∀(n i:Nat),i<n->i<g.length->(eT n g i).length<=150 *bY n g i
 |0,i,j,_=>absurd j io
 |n+1,i,j,k=>by
  have h:g[i]? =some (g[i]'k):=aY k;generalize g[i]'k=d at h;have w:=A d (aD h);have B:=rJ x h;have F:=B.op;have D:bY (n+1) g i=d.kids.foldl (λy e=>y+bY n g e.toNat) 1:=by
   conv=>lhs;unfold bY
   rw[h]
  rw[fold_add]at D;have C:d.op≠33->(bl d.tx).length<=16:=λj=>by rw[cR];exact w.tx j
  unfold eT;rw[h,D];dsimp only;have hs:=rI B.st;split
  .have:=C io;omega
  split
  .have:=pD d.u.toNat d.st.n.toNat;simp only[cC];omega
  split
  .have:=C io;have:=RP (bl d.tx);omega
  split
  .have:=TF d.st;simp only[bG,cC,jm];omega
  .rename_i K L M N;have Z:=QG (op:=d.op) io F.2;have Y:(fT d).length<=123:=by
    unfold fT;split
    .have:=jI d.n.toNat;have:=jI d.m.toNat;simp only[bG,cC];omega
    split
    .have:=jI d.n.toNat;simp only[cC];omega
    split
    .rename_i E;have S:=Gl (.inr (w.re E));have:=RP (bl d.tx);rw[cR]at this;simp only[cC];omega
    .simp
   have q:∀(ks:List Int),(∀e∈ks,0<=e/\e<(i:Int))->(ks.flatMap λe=>32::eT n g e.toNat).length<=ks.length+150 *ks.foldl (λy e=>y+bY n g e.toNat) 0:=by
    intro ks;induction ks with
    |nil=>intro _;simp
    |cons e ks H=>
     intro z;have W:=z e hJ;have O:=Gi x A n e.toNat io io;have P:=H λJ G=>z J (cP _ G);rw[dz,bG,List.foldl_cons,fold_add,cC,cC];omega
   have Q:=q d.kids λe q=>x.kids h e q;have T:=w.kl;simp only[bG,cC,jm];omega
def iO(n:Nat):List UInt8:=if n<128 then[cX n]else cX (n%128+128)::iO (n / 128)
termination_by n
decreasing_by omega
def qY{n:Nat}(d:n<128):iO n=[cX n]:=by rw[iO,ag d]
def sB{n:Nat}(d:¬n<128):iO n=cX (n%128+128)::iO (n / 128):=by rw[iO,ab d]
def Kz:∀(d n:Nat),n<2 *128^d->(iO n).length<=d+1
 |0,n,e=>by rw[qY io];simp
 |d+1,n,e=>by
  by_cases h:n<128
  .rw [qY h];simp
  .rw [sB h];have:=Kz d (n / 128) (by rw[Nat.pow_succ]at e;omega);simp;omega
def zz(n:Int):Nat:=if 0<=n then(2 *n).toNat else(-(2 *n) - 1).toNat
def Vd(n:Int)(d:-9223372036854775808<=n)(e:n<=9223372036854775807):zz n<18446744073709551616:=by unfold zz;split<;>omega
def kO(n:Int):List UInt8:=iO (zz n)
def qX(b:List UInt8):List UInt8:=iO b.length++b
def oF(l:List Int):List UInt8:=iO l.length++l.flatMap kO
def oG(n:Nat)(d:n<18446744073709551616):(iO n).length<=10:=Kz 9 n (by simpa using d)
def mi(n:Int)(d:cF n):(kO n).length<=10:=oG _ (Vd n d.1 d.2)
set_option maxHeartbeats 2000000
namespace Tw
def ok:=aA (ay U Tryz.f109 [] []) O9 [.s]
end Tw
namespace wt
def L0:=bq (ay U Tryz.f107 [] []) [0,2] [(0,.r),(1,.U)]
abbrev t1:=bp L0
def b':=bE t1 L0
def ok:=aA t1 PY [.r,.U]
end wt
namespace U3
def ok:=aA (ay U Tryz.f105 [] []) PW [.r,.I]
end U3
namespace rK
def L0:=bq (ay U Tryz.f106 [] []) [0,1,2] [(0,.r),(11,.s),(12,.I),(13,.I)]
abbrev t1:=bp L0
def b':=bE t1 L0
def ok:=aA t1 F9 [.r,.s]
end rK
namespace U4
def ok:=aA (ay U Tryz.f108 [] []) PX [.r,.st]
end U4
namespace U2
def ok:=aA (ay U Tryz.f73 [] []) PV [.r]
end U2
namespace Uu
def ok:=aA (ay U Tryz.f72 [] []) PT [.r,.r]
end Uu
namespace Uo
def ok:=aA (ay U Tryz.f44 [] []) PD [.r]
end Uo
namespace Ui
def aq:=aA (ay U Tryz.f43 [] [3,5]) F7 [.st,.r]
end Ui
namespace Uh
def aq:=aA (ay U Tryz.f21 [(1,lr 11)] [3,4]) Pw [.r,.a 9,.I,.s,.I,.I,.U,.st,.I,.I,.I]
end Uh
namespace Ug
def ok:=aA (ay U Tryz.f22 [(1,lr 11)] []) Pu [.r,.a 9,.I,.s,.I,.I,.U,.st,.I,.I,.I]
end Ug
namespace B0
abbrev S0:=ah (ay U Tryz.f23 [(1,ls [0,1,2,3,5,6,7,8,9,4,10]),(3,lr 9),(4,lr 11)] []) [3] [(0,.r),(3,.r)]
abbrev t1:=aj S0
def ok:=aA t1 Pv [.r,.a 9,.I,.s,.I,.I,.U,.st,.I,.I,.I]
end B0
namespace yQ
def a1:=bq (ay U Tryz.f20 [] [1,5]) [0,1,1,1,2] [(3,.r),(11,.s),(12,.I),(13,.I)]
abbrev t1:=bp a1
def bS:=bE t1 a1
def aq:=aA t1 PF [.a 1,.s]
end yQ
namespace yO
def a1:=bq (ay U Tryz.f7 [] [1,5,6]) [0,1,1,1,3] [(3,.p),(17,.s),(18,.I),(19,.I)]
abbrev t1:=bp a1
def bS:=bE t1 a1
def aq:=aA t1 Pq [.a 1,.s]
end yO
def kF(w:I)(d:Nat)(bs:List UInt8)(own:List Nat):Prop:=
 ∃s:Sl,own=d::aG s/\w.heap[d]? =some (.cells #[s.v] wk (0,0))/\mO w s bs
def QP{w:I}{e T:TypeId}{s:Sl}{vs:List V}(d:Ow w e s vs){b:Nat}{cs:Array V}{f:Nat×Nat}(x:w.heap[b]? =some (.cells cs T f))(q:e≠T):b∉aG s:=λh=>by
 obtain⟨j,k,y⟩:=d.2.row.tL b h
 grind
def kF.new(w:I):kF (w.alloc (.cells #[.slice none 0 0] wk)) w.heap.size [] [w.heap.size]:=⟨⟨none,0,0⟩,rfl,m6 w _,Ow.nil _ _⟩
def jC(w:I)(h:Nat)(own:List Nat)(bs:List UInt8)(w':I):Prop:=∃d,kF w' h bs d/\Fr (·∈own) w w'/\∀e∈d,e∈own\/w.heap.size<=e
def rX(w:I)(e:Nat)(own:List Nat)(bs:List UInt8):aC:=λr d=>r=ad (.tuple #[])/\jC w e own bs d
def jC.refl{w:I}{e:Nat}{own:List Nat}{bs:List UInt8}(d:kF w e bs own):jC w e own bs w:=⟨own,d,Fr.refl _ _,λ_ d=>.inl d⟩
def jC.then{w w' x:I}{y:Nat}{own q:List Nat}{h:List UInt8}(j:Fr (·∈own) w w')(A:∀d∈q,d∈own\/w.heap.size<=d)(e:jC w' y q h x):jC w y own h x:=by
 obtain⟨z,r,f,o⟩:=e;refine⟨z,r,j.trans f λd k B=>?_,λd k=>?_⟩
 .grind
 .rcases o d k with e|e
  .grind
  .exact .inr (bB j.size e)
def Va{w x h:I}{d:Nat}{s e:Sl}{bs z:List UInt8}(D:w.heap[d]? =some (.cells #[s.v] wk (0,0)))(H:mO w s bs)(q:af w x)(E:mO h e z)(A:Fr (·∈aG s) x h)(K:∀b∈aG e,b∈aG s\/x.heap.size<=b):
  (h.cell? ((aa d).add 0)).isSome=true/\h.frozen? ((aa d).add 0)=false/\jC w d (d::aG s) z (h.setCell ((aa d).add 0) e.v):=by
 have L:d∉aG s:=QP H D dl;have k:=A.at (q.at D id) L;have F:(h.setCell ((aa d).add 0) e.v).heap[d]? =_:=setAt (p:=aa d) (i:=0) (v:=e.v) k rfl;have B:Fr (·=d) h (h.setCell ((aa d).add 0) e.v):=Fr.set _ _ _ rfl
 have N:d∉aG e:=QP E k dl;refine⟨by rw[cellAt (p:=aa d) k rfl rfl];rfl,frozenAt (p:=aa d) k,d::aG e,⟨e,rfl,F,E.fr B λb J G=>N (G▸J)⟩,?_,?_⟩
 .exact ((q.A2 (M:=(·∈d::aG s))).trans A λy _ j=>by grind).trans B λy _ j=>by grind
 .intro y j;rcases aF.1 j with rfl|j
  .grind
  .rcases K y j with C|C
   .grind
   .exact .inr (bB q.size C)
def Cn{w:I}{d:Nat}{s:Sl}(e:w.heap[d]? =some (.cells #[s.v] wk (0,0))):w.cell? ((aa d).add 0)=some s.v:=cellAt (p:=aa d) e rfl rfl
def U1{w:I}{d:Nat}{s:Sl}{bs:List UInt8}(z:w.heap[d]? =some (.cells #[s.v] wk (0,0)))(j:mO w s bs)(G:bs.length<100000000000000)(c:UInt8)(K:I->Prop)(F:∀k,jC w d (d::aG s) (bs++[c]) k->K k):
  ∃(t15:W.Sl) (e:I),Sem.run U (Builtin.append_ #[hR,hR] hR #[s.v,.slice (some (Addr.mk w.heap.size 0 none)) 1 1]) (w.alloc (.cells #[.int .u8 (c.toNat:Int)] eB))=.ok (t15.v) e/\(e.cell? ((aa d).add 0)).isSome=true/\e.frozen? ((aa d).add 0)=false/\K (e.setCell ((aa d).add 0) (t15.v)):=by
 have h:af w (w.alloc (.cells #[.int .u8 (c.toNat:Int)] eB)):=Fr.alloc _ _ _;obtain⟨H,e,D,q,x,y,E⟩:=IM (ty:=hR) (j.cA h) (abD w c) (by grind);obtain⟨A,B,C⟩:=Va z j h q x y
 grind
def ae8{h:Nat}(R:aC):∀(n:Nat) (w:I) (bs:List UInt8) (own:List Nat),n<18446744073709551616->bs.length+(iO n).length<=100000000000000->kF w h bs own->(∀d,jC w h own (bs++iO n) d->R (ad (.tuple #[])) d)->
  wt.L0 (aa h) (n:Int) w R:=by
 intro n;induction n using Nat.strongRecOn with
 |_ n F=>
  intro w bs own L z D y;obtain⟨s,rfl,j,x⟩:=D;refine wt.b' ?_;refine bn (λC=>?_) (λC=>?_)
  .have e:¬n<128:=by grind
   rw[sB e]at z;have k:aB .u8 (n:Int)=_:=H3 n;refine⟨s,Cn j,?_⟩;rw[k,V6 _ io];have A:((n%256%128+128:Nat):Int)=((cX (n%128+128)).toNat:Int):=by simp;omega
   rw[A];refine U1 j x (by grind) (cX (n%128+128)) (λd=>wt.L0 (aa h) (Int.fdiv (n:Int) (2^7)) d R) λd q=>?_;show wt.L0 (aa h) (Int.fdiv (n:Int) (2^7)) d R;rw[show((2:Int)^7)=((128:Nat):Int)from rfl,Yy n 128 io];obtain⟨H,J,B,G⟩:=q;refine F (n / 128) io d _ H io (by grind) J λK E=>y K ?_;rw[sB e,show bs++cX (n%128+128)::iO (n / 128)=(bs++[cX (n%128+128)])++iO (n / 128)by simp];exact E.then B G
  .have e:n<128:=by grind
   rw[qY e]at z;have k:aB .u8 (n:Int)=((cX n).toNat:Int):=by rw[H3];simp
   refine⟨s,Cn j,?_⟩;rw[k];refine U1 j x (by grind) (cX n) (λd=>R (ad (.tuple #[])) d) λd q=>y d ?_;rw[qY e];exact q
def y6{w:I}{d:Nat}{bs:List UInt8}{own:List Nat}(j:kF w d bs own)(n:Nat)(e:n<18446744073709551616)(k:bs.length<=10000000000000):
  ai U PY #[.pointer (some (aa d)),.int .u64 (n:Int)] w (rX w d own (bs++iO n)):=
 wt.ok (ae8 _ n w bs own e (by have:=oG n e;omega) j λq h=>⟨rfl,h⟩)
def afm(n:Int)(j:cF n):W.wP .u64 (aB .u64 ((aB .u64 n) *2^1)) (aB .u64 (Int.fdiv n (2^63)))=(zz n:Int):=by
 obtain⟨q,w⟩:=j;have h:((2:Int)^63)=9223372036854775808:=rfl;rw[h,Int.fdiv_eq_ediv_of_nonneg _ io,IntKind.wrap_u64,IntKind.wrap_u64,IntKind.wrap_u64];by_cases k:0<=n
 .have d:(n / 9223372036854775808)%18446744073709551616=((0:Nat):Int):=io
  have e:(n%18446744073709551616 *2^1)%18446744073709551616=((2 *n).toNat:Int):=io
  rw[d,e,I5 _ _ io io,Nat.xor_zero];unfold zz;grind
 .have d:(n / 9223372036854775808)%18446744073709551616=((18446744073709551615:Nat):Int):=io
  have e:(n%18446744073709551616 *2^1)%18446744073709551616=((18446744073709551616+2 *n).toNat:Int):=io
  rw[d,e,I5 _ _ io io,afj _ io];unfold zz;grind
def tN{w:I}{e:Nat}{bs:List UInt8}{own:List Nat}(k:kF w e bs own)(n:Int)(d:cF n)(j:bs.length<=10000000000000):
  ai U PW #[.pointer (some (aa e)),.int .i64 n] w (rX w e own (bs++kO n)):=by refine U3.ok ?_;rw[afm n d];refine(y6 k (zz n) (Vd n d.1 d.2) j).mono ?_;rintro r q ⟨rfl,h⟩;exact⟨rfl,rfl,h⟩
def ae7{w:I}{d:Nat}{bs:List UInt8}{own:List Nat}(C:kF w d bs own)(t:ByteArray)(K:bs.length+t.size<=10000000000000):
  ai U PX #[.pointer (some (aa d)),.string t] w (rX w d own (bs++qX (bl t))):=by refine U4.ok ?_;rw[UK _ io];refine(y6 C t.size io io).mono ?_;rintro r H ⟨rfl,M,E,x,D⟩;have L:=oG t.size io;obtain⟨G,rfl,j,h⟩:=E;obtain⟨F,J,y,z,A,B⟩:=VX (ty:=hR) h t (by grind);obtain⟨k,q,e⟩:=Va j h (Fr.refl _ H) z A B;rw[cU]at e;exact⟨rfl,G,Cn j,F,J,y,k,q,rfl,e.then x D⟩
def Ev:∀(l:List Int),(∀d∈l,cF d)->(l.flatMap kO).length<=10 *l.length
 |[],_=>gs
 |d::l,e=>by
  have j:=mi d (e d gs);have k:=Ev l λh q=>e h (by grind)
  grind
def ae6{j:Nat}{s:Sl}{l:List Int}(R:aC)(hi:∀e∈l,cF e)(P:l.length<=100000000000):∀(d i:Nat),i+d=l.length->∀(w:I) (bs:List UInt8) (own:List Nat),kF w j bs own->bF w s l->(∀e∈aG s,e∉own)->(∀e∈aG s,e<w.heap.size)->bs.length+10 *d<=10000000000000->
  (∀C,jC w j own (bs++(l.drop i).flatMap kO) C->R (ad (.tuple #[])) C)->rK.L0 (aa j) s (l.length:Int) (i:Int) w R:=by
 intro d;induction d with
 |zero=>
  intro i G w bs own x h A y F q;refine rK.b' ?_;refine aQ (by grind) (q w ?_);rw[dy io];simpa using jC.refl x
 |succ d K=>
  intro i G w bs own x h A y F q;have H:l[i]? =some l[i]:=aY io;have z:l[i]∈l:=List.getElem_mem _;refine rK.b' ?_;refine aR (by grind) ⟨io,by rw[bF.len h];omega,bF.cell h H gs λp _ J=>⟨_,J,(tN x _ (hi _ z) io).mono ?_⟩⟩;rintro r D ⟨rfl,M,N,k,L⟩;refine⟨rfl,?_⟩;show rK.L0 (aa j) s (l.length:Int) (aB .i64 ((i:Int)+1)) D R;rw[bm i io];have S:=mi _ (hi _ z);refine K (i+1) io D _ M N (h.fr k A) (λe B Q=>?_) (λe B=>pe (y e B) k.size) (by grind) λO E=>q O ?_
  .grind
  .rw [dw io,dz,<-cU];exact E.then k L
def ae4{w:I}{h:Nat}{bs:List UInt8}{own:List Nat}(y:kF w h bs own){s:Sl}{l:List Int}(k:bF w s l)(hd:∀d∈aG s,d∉own)(x:∀d∈aG s,d<w.heap.size)(hi:∀d∈l,cF d)(D:bs.length+10 *l.length<=1000000000000):
  ai U F9 #[.pointer (some (aa h)),s.v] w (rX w h own (bs++oF l)):=by
 refine rK.ok ?_;rw[bF.len k,UK _ io];refine(y6 y l.length io io).mono ?_;rintro r C ⟨rfl,A,B,e,z⟩;have F:=oG l.length io;refine⟨rfl,?_⟩;try dsimp only
 refine ae6 _ hi io l.length 0 io C _ A B (k.fr e hd) (λd q E=>?_) (λd q=>pe (x d q) e.size) (by grind) λG j=>⟨rfl,?_⟩
 .grind
 .rw [List.drop_zero,cU]at j;exact j.then e z
def XL(s:Sl)(bs:List UInt8)(w:I)(j:Bytes w s bs)(H:bs.length<=140737488355328):ai U O9 #[s.v] w (λr x=>∃s:Sl,r=ad s.v/\mO x s bs/\af w x/\∀b∈aG s,w.heap.size<=b):=by
 refine Tw.ok ?_;refine bn (λe=>?_) (λe=>?_)
 .have D:bs=[]:=by have:=(j.2.2.1 (by simpa using e)).1;exact List.eq_nil_of_length_eq_zero (by rw[<-Bytes.len j,this])
  subst D;exact⟨⟨none,0,0⟩,rfl,Ow.nil w _,Fr.refl _ _,by simp[aG]⟩
 .show (λd:I=>∃(q:Sl) (h:I),Sem.run U (Builtin.append_ #[hR,hR] hR #[.slice (some (nb w)) 0 0,s.v]) d=.ok (q.v) h/\(∃s:Sl,Ending.returned q.v=ad s.v/\mO h s bs/\af w h/\∀b∈aG s,w.heap.size<=b)) (w.alloc (.cells #[] eB));generalize G:w.alloc (.cells #[] eB)=d;subst G
  let d:=w.alloc (.cells #[] eB)
  have E:mO d ⟨some ⟨w.heap.size,0,none⟩,0,0⟩ []:=Ow.made w eB [] 0 rfl io;have z:Bytes d s bs:=j.cA (Fr.alloc _ _ _);obtain⟨k,h,F,J,B,A,_⟩:=IM (ty:=hR) E z (by grind);refine⟨k,h,F,k,rfl,by grind,?_,?_⟩
  .refine (Fr.alloc (λ_=>False) w _).trans B λL K C=>?_;simp[aG]at C;omega
  .intro b y;rcases A b y with e|e
   .simp [aG]at e;omega
   .have:d.heap.size=w.heap.size+1:=size_alloc _ _;omega
def ae3{w:I}{e:Nat}{bs:List UInt8}{own:List Nat}(q:kF w e bs own)(x:bs.length<=100000000000000):
  ai U PV #[.pointer (some (aa e))] w (Vq w bs):=by obtain⟨s,rfl,j,k⟩:=q;refine U2.ok ⟨s,Cn j,(XL s bs w k.rd io).mono ?_⟩;rintro r y ⟨d,rfl,h⟩;exact⟨d,rfl,d,rfl,h⟩
def qj(n:Nx):List UInt8:=kO n.op++(oF n.kids++(kO n.n++(kO n.m++(iO n.u.toNat++(qX (bl n.tx)++(kO n.st.k++(kO n.st.n++kO n.st.x)))))))
structure pB(x:Nx):Prop where
 op:cF x.op
 ks:∀k∈x.kids,cF k
 kl:x.kids.length<=1000000000
 n:cF x.n
 m:cF x.m
 u:0<=x.u/\x.u<18446744073709551616
 tx:x.tx.size<=1000000000
 sk:cF x.st.k
 sn:cF x.st.n
 sx:cF x.st.x
def abe{n:Nx}(W:pB n):(qj n).length<=20000000000:=by have e:=mi _ W.op;have h:=Ev _ W.ks;have j:=mi _ W.n;have k:=mi _ W.m;have q:=oG n.u.toNat (by have:=W.u;omega);have w:=mi _ W.sk;have x:=mi _ W.sn;have y:=mi _ W.sx;have z:=oG n.kids.length (by have:=W.kl;omega);have d:=oG (bl n.tx).length (by have:=W.tx;rw[cR];omega);have A:=W.kl;have B:=W.tx;have C:=cR n.tx;unfold qj oF qX;simp only[bG];omega
def qF{P:au}{f:FuncId}{args:Array V}{w0 w:I}{e:Nat}{h:List Nat}{bs j:List UInt8}(x:jC w0 e h bs w)(A:∀own,kF w e bs own->(∀q∈own,q∈h\/w0.heap.size<=q)->ai P f args w (rX w e own j)){K:I->Prop}(z:∀d,jC w0 e h j d->K d):
  ai P f args w λr d=>r=ad (.tuple #[])/\K d:=by obtain⟨own,C,B,k⟩:=x;refine(A own C k).mono ?_;rintro r d ⟨rfl,y⟩;exact⟨rfl,z d (jC.then B k y)⟩
def ae5{w:I}{j:Nat}{bs:List UInt8}{own:List Nat}(x:kF w j bs own){s:Sl}{l:List Int}(e:bF w s l)(hd:∀d∈(En.rd s (l.map bC)).fp,d∉own)(hi:∀d∈l,cF d)(z:bs.length+10 *l.length<=1000000000000):
  ai U F9 #[.pointer (some (aa j)),s.v] w (rX w j own (bs++oF l)):=by
 by_cases k:l=[]
 .subst k;have A:s.n=0:=bF.len e;refine rK.ok ?_;rw[A];refine(y6 x 0 io io).mono ?_;rintro r B ⟨rfl,y⟩;refine⟨rfl,rK.b' (aQ dl ⟨rfl,?_⟩)⟩;simpa[oF]using y
 .have q:(En.rd s (l.map bC)).fp=aG s:=by show(if l.map bC=[]then[]else aG s)=_;rw[ab (by simpa using k)]
  exact ae4 x e (λd h=>hd d (q▸h)) (λd h=>(En.rd s (l.map bC)).lt w e d (q▸h)) hi z
def aer{w:I}{e:Nat}{bs:List UInt8}{own:List Nat}(S:kF w e bs own){p:Addr}{d:Nd}(J:dG w p d)(hd:d.P w)(L:p.block∉own)(G:∀h∈(bZ d).fp,h∉own)(W:pB d.x)(H:bs.length<=100000000000):
  ai U PT #[.pointer (some (aa e)),.pointer (some p)] w (rX w e own (bs++qj d.x)):=by
 have at_:∀{k:List UInt8} {w':I},jC w e own k w'->dG w' p d:=λ⟨_,_,f,_⟩=>J.st λN=>f.cw _ N L
 have Y:∀{k:List UInt8} {w':I},jC w e own k w'->bF w' d.ks d.x.kids:=λ⟨_,_,f,_⟩=>(bZ d).st w _ (λb M H=>f.cw _ H (G b M)) hd;have k1:=mi _ W.op;have k2:=Ev _ W.ks;have k3:=mi _ W.n;have k4:=mi _ W.m;have T:d.x.u=(d.x.u.toNat:Int):=by have:=W.u;omega
 have k5:=oG d.x.u.toNat (by have:=W.u;omega);have k6:=mi _ W.sk;have k7:=mi _ W.sn;have k9:=oG d.x.kids.length (by have:=W.kl;omega);have Z:=oG (bl d.x.tx).length (by have:=W.tx;rw[cR];omega);have m1:=W.kl;have m2:=W.tx;have m3:=cR d.x.tx;have lL:(oF d.x.kids).length<=10000000010:=by unfold oF;simp only[bG];omega
 have lR:(qX (bl d.x.tx)).length<=1000000010:=by unfold qX;simp only[bG];omega
 refine Uu.ok ⟨_,J.c0,qF (jC.refl S) (λo r _=>tN r _ W.op io) λw1 j=>⟨_,(at_ j).c1,qF j (λo r Q=>ae5 r (Y j) (λh K O=>?_) W.ks (by simp only[bG];omega)) λw2 q=>⟨_,(at_ q).c2,qF q (λo r _=>tN r _ W.n (by simp only[bG];omega)) λw3 y=>⟨_,(at_ y).c3,qF y (λo r _=>tN r _ W.m (by simp only[bG];omega)) λw4 z=>⟨_,(at_ z).c4,?_⟩⟩⟩⟩⟩
 .rcases Q h O with F|F
  .exact G h K F
  .have:=(bZ d).lt w hd h K;omega
 rw[T];refine qF z (λo r _=>y6 r d.x.u.toNat (by have:=W.u;omega) (by simp only[bG];omega)) λw5 A=>⟨_,(at_ A).c5,qF A (λo r _=>ae7 r d.x.tx (by simp only[bG];omega)) λw6 B=>⟨_,(at_ B).s0,qF B (λo r _=>tN r _ W.sk (by simp only[bG];omega)) λw7 C=>⟨_,(at_ C).s1,qF C (λo r _=>tN r _ W.sn (by simp only[bG];omega)) λw8 D=>⟨_,(at_ D).s2,qF D (λo r _=>tN r _ W.sx (by simp only[bG];omega)) λw9 E=>⟨rfl,?_⟩⟩⟩⟩⟩;unfold qj;simp only[cU]at E;exact E
def T7{w:I}{p:Addr}{d:Nd}(h:dG w p d)(hd:d.P w)(W:pB d.x):
  ai U PD #[.pointer (some p)] w λr E=>r=ad (.string (ba (qj d.x)))/\af w E:=by refine Uo.ok ?_;have e:af w (w.alloc (.cells #[.slice none 0 0] wk)):=Fr.alloc _ _ _;have lt:=abe W;refine(aer (kF.new w) (h.st λB=>e.cw _ B id) ((bZ d).st w _ (λb F A=>e.cw _ A id) hd) (by have:=dG.lt h;simp;omega) (λq j=>by have:=(bZ d).lt w hd q j;simp;omega) W gs).mono ?_;rintro r J ⟨rfl,H,k,y,G⟩;rw[lV]at k;refine⟨rfl,(ae3 k io).mono ?_⟩;rintro r K ⟨s,rfl,D,z,_⟩;refine⟨s,rfl,_,r5 D.rd,rfl,?_⟩;exact(e.trans y λq j C=>by simp at C;omega).gp z
def ga(R:ByteArray->Prop)(d:Nx):Prop:=0<=d.u/\d.u<18446744073709551616/\(d.op=33->R d.tx)
def uf(R:ByteArray->Prop)(T:List aI):Prop:=∀t∈T,t.kind=5->(g2 t.text).2=0->R (ba (g2 t.text).1)
section
variable {R:ByteArray->Prop} {T:List aI}
def qM(t:aI)(s:aH):(cH t s).g=s.g:=by
 unfold cH
 grind
def jh{k:Int}{s d:aH}{t:aI}(e:bL T k s=.ok t d):d.g=s.g:=by obtain⟨_,_,rfl⟩:=qh e;exact qM _ _
def oN{s e:aH}{n:Int}(d:dd T s=.ok n e):e.g=s.g:=by obtain⟨_,_,h,d⟩:=bK d;cases d;exact jh h
def HC{s j:aH}{z:aM}(q:iA T s=.ok z j):j.g=s.g:=by
 obtain⟨t,F,w,x⟩:=bK q;obtain⟨J,E,y,d⟩:=bK x;split at d
 .cases d
 obtain⟨K,s3,h,A⟩:=bK d;obtain⟨n,G,B,C⟩:=bK A;obtain⟨_,H,D,e⟩:=bK C;have k:s3.g=E.g:=by
  split at h
  .exact oN h
  grind
 split at e
 .cases e;rw[jh D,oN B,k,jh y,jh w]
 grind
def aey{s q:aH}{t:aI}{k:Int}(w:k≠6)(h:bL T k s=.ok t q):t∈T/\t.kind=k:=by
 obtain⟨e,j,_⟩:=qh h;refine⟨?_,j⟩;rcases Nat.lt_or_ge s.p T.length with d|d
 .rw [e];exact(o9 d).1
 .unfold aL at e
  grind
def Zl(G:hX T)(F:uf R T){w:List UInt8}{s C:aH}{h:Nx×Nat}(e:h4 T w s=.ok h C):C.g=s.g/\ga R h.1:=by
 have i:∀{a b:aH} {x:Int},dd T a=.ok x b->0<=x/\x<18446744073709551616:=λh=>by have:=Ma G h;omega
 have q:∀{op n m:Int} {t:ByteArray} {st:aM},op≠33->ga R ⟨op,[],n,m,0,t,st⟩:=λH=>⟨Int.le_refl _,by grind,λh=>absurd h H⟩;unfold h4 at e;split at e
 .obtain ⟨u,k,d,e⟩:=bK e;obtain⟨m,B,j,e⟩:=bK e;cases e;exact⟨by rw[oN j,oN d],(i d).1,(i d).2,λh=>by cases h⟩
 split at e
 .obtain ⟨u,k,d,e⟩:=bK e;cases e;exact⟨HC d,q dl⟩
 split at e
 .obtain ⟨u,k,d,e⟩:=bK e;obtain⟨m,B,j,e⟩:=bK e;cases e;exact⟨by rw[oN j,oN d],q dl⟩
 split at e
 .obtain ⟨u,k,d,e⟩:=bK e;cases e;exact⟨oN d,q dl⟩
 split at e
 .obtain ⟨u,k,d,e⟩:=bK e;cases e;exact⟨oN d,q dl⟩
 split at e
 .obtain ⟨u,k,d,e⟩:=bK e;cases e;exact⟨oN d,q dl⟩
 split at e
 .obtain ⟨r,k,d,e⟩:=bK e;cases e;obtain⟨t,B,j,z⟩:=bK d;obtain⟨J,K⟩:=aey dl j;split at z
  .rename_i D;cases z;exact⟨jh j,Int.le_refl _,by grind,λ_=>F t J K D⟩
  grind
 .cases e;refine⟨rfl,q λh=>?_⟩;have E:∀y∈fu,y.2.1≠33:=dl
  cases A:lk fu w with
  |none=>grind
  |some y=>rw[A]at h;exact absurd h (E (w,y) (kg A))
def VN{g:List Nx}{n:Nx}(w:ga R n)(d:(bb g n).2.2=0)(x:∀e∈g,ga R e):∀e∈(bb g n).1,ga R e:=by
 unfold bb at d ⊢;split at d
 .grind
 rename_i j;rw[ab j];split at d
 .omega
 .rename_i q;try rw[q]
  split at d
  .cases d
  .rename_i k;rw[ab k];intro e h;rcases aP.1 h with h|h
   .grind
   .rw [cy.1 h];exact w
def zq{s h:aH}{n:Nx}{t:aI}{k:Nat}(w:ga R n)(e:eu s n t=.ok k h)(q:∀d∈s.g,ga R d):∀d∈h.g,ga R d:=by
 unfold eu at e;split at e
 .rename_i j;cases e;exact VN w j q
 grind
def E1{tm:aH->PR Nat}(q:∀s n e,tm s=.ok n e->(∀d∈s.g,ga R d)->∀d∈e.g,ga R d):∀(k:Nat) (s:aH) (l:List Int) (e:aH),gy tm k s=.ok l e->(∀d∈s.g,ga R d)->∀d∈e.g,ga R d
 |0,s,l,e,h,j=>by cases h;exact j
 |k+1,s,l,e,h,j=>by obtain⟨a,w,x,y⟩:=bK h;obtain⟨B,C,z,A⟩:=bK y;cases A;exact E1 q k w B _ z (q s a w x j)
def abt{l:List UInt8}(e:∃d,(l=35::98::d/\1<=d.length/\d.length<=64/\jz 2 d)\/(l=35::120::d/\1<=d.length/\d.length<=16/\jz 16 d)):ga R (hE l):=by
 obtain⟨d,⟨rfl,k,h,j⟩|⟨rfl,k,h,j⟩⟩:=e
 .have:=vJ io j d.length;rw[List.take_length]at this;have h:=Nat.pow_le_pow_right (show 0<2 by omega) h;exact⟨Int.natCast_nonneg _,by show((dh 2 d:Nat):Int)<_;omega,λe=>by cases e⟩
 .have:=vJ io j d.length;rw[List.take_length]at this;have h:=Nat.pow_le_pow_right (show 0<16 by omega) h;exact⟨Int.natCast_nonneg _,by show((dh 16 d:Nat):Int)<_;omega,λe=>by cases e⟩
def Up(z:hX T)(F:uf R T):∀(f:Nat) (E:bW),E.T=T->∀s n e,dE f E s=.ok n e->(∀j∈s.g,ga R j)->∀j∈e.g,ga R j
 |0,E,_,s,n,e,d,_=>by cases d
 |f+1,E,w,s,n,e,d,h=>by
  have H:=Up z F f;have body:∀{E':bW} {m:PM} {az:List Int} {s e:aH} {n:Nat},E'.T=T->hY (dE f) E' m az s=.ok n e->(∀j∈s.g,ga R j)->∀j∈e.g,ga R j:=λ{E' m az s e n} W d h=>by
   obtain⟨Z,Q,B,k⟩:=bK d
   grind
  have d:iE (dE f) E s=.ok n e:=d;unfold iE at d;dsimp only at d;split at d
  .cases d
  rename_i Y;split at d
  .cases d
  have A:({cH (aL E.T s.p) s with tm:=s.tm+1}:aH).g=s.g:=qM _ _;generalize({cH (aL E.T s.p) s with tm:=s.tm+1}:aH)=Q at A d;rw[<-A]at h;split at d
  .unfold kZ at d
   grind
  split at d
  .rename_i q;refine zq (abt (z.n (aL E.T s.p) ?_ q)) d h;rcases Nat.lt_or_ge s.p E.T.length with G|G
   .rw [<-w];exact(o9 G).1
   .unfold aL at q
    grind
  split at d
  .exact zq ⟨Int.le_refl _,by grind,λd=>by cases d⟩ d h
  unfold me at d;split at d
  .cases d
  obtain⟨aa,s2,B,k⟩:=bK d;rw[<-jh B]at h;split at k
  .obtain ⟨nd,s3,q,x⟩:=bK k;obtain⟨_,S,y,C⟩:=bK x;obtain⟨M,s5,D,K⟩:=bK q;obtain⟨N,s6,L,J⟩:=bK K;cases J;rw[w]at D;obtain⟨O,P⟩:=Zl z F D;rw[<-O]at h;have:=E1 (H {E with dp:=E.dp+1} w) _ _ _ _ L h;rw[<-jh y]at this;exact zq (n:={M.1 with kids:=N}) P C this
  .unfold pG at k;split at k
   .cases k
   obtain⟨az,s3,q,x⟩:=bK k;obtain⟨_,S,y,C⟩:=bK x;have:=E1 (H {E with dp:=E.dp+1} w) _ _ _ _ q h;rw[<-jh y]at this
   grind
def QY:∀(f:Nat) (ps:List (List UInt8×aM)) (s:aH) (l:List (List UInt8×aM)) (e:aH),kj T f ps s=.ok l e->e.g=s.g
 |0,_,_,_,_,d=>by cases d
 |f+1,ps,s,l,e,d=>by
  unfold kj at d;dsimp only at d;split at d
  .cases d;exact qM _ _
  split at d
  .cases d
  obtain⟨p,q,h,d⟩:=bK d;split at d
  .cases d
  obtain⟨x,w,j,d⟩:=bK d;obtain⟨_,s3,k,d⟩:=bK d;rw[QY f _ _ _ _ d,jh k,HC j,jh h,qM]
def Tv:∀(f d:Nat) (s:aH) (u:Unit) (h:aH),k8 T f d s=.ok u h->h.g=s.g
 |0,_,_,_,_,e=>by cases e
 |f+1,d,s,u,h,e=>by
  unfold k8 at e;dsimp only at e;split at e
  .cases e
  split at e
  .cases e
  generalize(if(aL T s.p).kind=0 then d+1 else if(aL T s.p).kind=1 then d - 1 else d)=d' at e;split at e
  .cases e;exact qM _ _
  .rw [Tv f _ _ _ _ e,qM]
def XP(L:hX T)(K:uf R T){x y:bJ}(e:kL T x=.ok y)(k:∀j∈x.s.g,ga R j):∀j∈y.s.g,ga R j:=by
 have new:∀{x:bJ} {t:aI} {s:aH},vq T x=.ok t s->s.g=x.s.g:=λB=>(jh (yg (E:=gN T _) B).1);have fin:∀{c:fh} {x1:bJ},((bL T 1 x1.s).s x1 λ_ x=>.ok {x with cs:=x.cs++[c]})=.ok y->(∀j∈x1.s.g,ga R j)->∀j∈y.s.g,ga R j:=λ{c x1} e B=>by obtain⟨_,d,h,e⟩:=df e;cases e;show ∀j∈d.g,_;rw[jh h];exact B
 obtain⟨Q,q,G,e⟩:=df e;rw[<-jh G]at k;dsimp only at e;split at e
 .unfold pP at e;obtain⟨t,d,h,e⟩:=df e;obtain⟨S,s3,z,e⟩:=df e;obtain⟨_,C,A,e⟩:=df e;obtain⟨M,D,w,e⟩:=df e;cases e;have J:d.g=q.g:=new h;rw[<-J,<-show s3.g=d.g from HC z,<-show C.g=s3.g from jh A]at k;exact zq ⟨Int.le_refl _,by grind,λB=>by cases B⟩ w k
 split at e
 .unfold pQ at e;obtain⟨_,d,h,e⟩:=df e;obtain⟨t,s3,z,e⟩:=df e;split at e
  .cases e
  obtain⟨O,C,A,e⟩:=df e;obtain⟨_,D,w,e⟩:=df e;obtain⟨_,F,H,e⟩:=df e;cases e;show ∀j∈F.g,_;rw[show F.g=D.g from jh H,show D.g=C.g from Tv _ _ _ _ _ w,show C.g=s3.g from QY _ _ _ _ _ A,show s3.g=d.g from new z,show d.g=q.g from jh h];exact k
 split at e
 .obtain ⟨t,d,h,e⟩:=df e;obtain⟨n,s3,z,e⟩:=df e;obtain⟨N,P,A,w⟩:=bK z;split at w
  .cases w;refine fin (x1:={x with s:=s3}) e ?_;refine Up L K _ (gN T {x with s:=d}) rfl d n s3 A ?_;rw[show d.g=q.g from jh h];exact k
  grind
 split at e
 .obtain ⟨t,d,h,e⟩:=df e;exact fin (x1:={x with s:=d}) e (by rw[show d.g=q.g from jh h];exact k)
 split at e
 .exact fin (x1:={x with s:=q}) e k
 split at e
 .exact fin (x1:={x with s:=q}) e k
 split at e
 .obtain ⟨n,d,h,e⟩:=df e;split at e
  .cases e
  .exact fin (x1:={x with s:=d}) e (by rw[show d.g=q.g from oN h];exact k)
 grind
def Tc(j:hX T)(w:uf R T):∀(f:Nat) (x y:bJ),hM T f x=.ok y->iK T x->(∀e∈x.s.g,ga R e)->iK T y/\(∃r,y.s.g=x.s.g++r)/\∀e∈y.s.g,ga R e
 |0,_,_,d,_,_=>by cases d
 |f+1,x,y,d,q,z=>by
  unfold hM at d;dsimp only at d;split at d
  .cases d;exact⟨q,⟨[],(cQ _).symm⟩,z⟩
  rename_i C;split at d
  .cases h:kL T {x with s:=cH (aL T x.s.p) x.s}with
   |er a b=>rw[h]at d;cases d
   |ok B=>
    rw[h]at d;have D:=rZ j q.p C;have A:=J' (q.mv D) h;obtain⟨r,k⟩:=A.2.g;obtain⟨a,⟨F,E⟩,b⟩:=Tc j w f B y d A.1 (XP j w h (by show ∀e∈(cH (aL T x.s.p) x.s).g,_;rw[qM];exact z));have k:B.s.g=(cH (aL T x.s.p) x.s).g++r:=k;rw[qM]at k
    grind
  grind
def Q7{l:List UInt8}{y:bJ}(h:jT l=.ok y)(z:∀T,tokens l=.ok T->uf R T):Vg y.s.g/\(∀c∈y.cs,oj y.s.g c)/\∀q∈y.s.g,ga R q:=by
 unfold jT at h;cases k:tokens l with
 |bad a x=>grind
 |ok T=>
  rw[k]at h;have j:=yT k;have C:0<T.length:=by
   obtain⟨D,t,x,_⟩:=j.e
   grind
  obtain⟨a,_,b⟩:=Tc j (z T k) _ _ _ h ⟨C,dc _,.nil,⟨j,λw d=>(by cases d),λw d=>(by cases d),λw d=>(by cases d)⟩,λc A=>(by cases A)⟩ λq B=>(by cases B);exact⟨a.v,a.c,b⟩
end
def aaY{g:List Nx}(w:Vg g)(D:g.length<=4096){d:Nx}(hd:d∈g)(j:ga (λt=>oq t/\t.size<=1000) d):j7 d/\pB d:=by
 obtain⟨i,k⟩:=iB.1 hd;have e:=rJ w k;have H:=rI e.st;have q:=e.ok.ok;have G:=e.op;unfold fa mr mu at q;simp only[bd,Bool.or_eq_true,beq_iff_eq,decide_eq_true_eq]at q;obtain⟨⟨⟨z,A⟩,K⟩,B⟩:=q;have h:d.kids.length<=3:=by have e:=e.ok.kl;unfold b5 at e;omega
 have F:0<=d.n/\d.n<=64:=by
  rcases z with(((o|o)|o)|o)|o
  .have:=e.n1 o;omega
  .have:=e.n2 (.inl o);omega
  .have:=e.n2 (.inr (.inl o));omega
  .have:=e.n2 (.inr (.inr o));omega
  .omega
 have E:0<=d.m/\d.m<=64:=by
  rcases A with o|o
  .have:=e.n1 o;omega
  .omega
 have J:d.tx.size<=1000:=by
  rcases B with((o|o)|o)|o
  .have:=e.nm o;have x:(bl d.tx).length<=16:=by
    unfold iS at this
    grind
   rw[cR]at x;omega
  .have h:=w.ok i d k;unfold bA at h;split at h
   .grind
   rw[ag io]at h;unfold cb at h
   grind
  .exact (j.2.2 o).2
  .rw [o];decide
 have C:=(cL.1 k).1;refine⟨⟨io,⟨io,io⟩,⟨io,io⟩,j.1,λe=>(j.2.2 e).1⟩,⟨⟨io,io⟩,λy h=>?_,io,⟨io,io⟩,⟨io,io⟩,⟨j.1,j.2.1⟩,io,⟨io,io⟩,⟨io,io⟩,⟨io,io⟩⟩⟩;have:=e.ok.ki y h
 grind
def eW.qt{E:bW}{G:List Nx}{t:List UInt8}{k:Nat}(h:(bb G ⟨2,[],0,0,0,ba t,aX⟩).2.2=0)(w:(bb G ⟨2,[],0,0,0,ba t,aX⟩).2.1=(k:Int)):eW E 1 [(5,t)] 1 G k (bb G ⟨2,[],0,0,0,ba t,aX⟩).1:=λf s j e q x=>by obtain⟨f,rfl,_⟩:=o7 j;obtain⟨a,_,d⟩:=yW (f:=f) e dl dl dl io;subst q;rw[d,ab dl,ab dl,ag rfl,a];show(if(bb s.g ⟨2,[],0,0,0,ba t,aX⟩).2.2=0 then PR.ok (bb s.g ⟨2,[],0,0,0,ba t,aX⟩).2.1.toNat _ else _)=_;rw[ag h,w,bR];rfl
def UP{t:ByteArray}:∀{g:List Nx},(∀d∈g,d.op=0->d.tx≠t)->ih g t=none
 |[],_=>rfl
 |d::g,e=>by unfold ih;rw[ab λh=>e d hJ h.1 h.2];exact UP λj k=>e j (cP _ k)
def adO{g:List Nx}{nm:List UInt8}{z:aM}(j:iS nm=true)(q:br z=true)(h:∀d∈g,d.op=0->d.tx≠ba nm):bA g ⟨0,[],0,0,0,ba nm,z⟩=(z,0):=by
 have e:bA g ⟨0,[],0,0,0,ba nm,z⟩=cb g ⟨0,[],0,0,0,ba nm,z⟩:=rfl;rw[e];unfold cb;dsimp only;have k:rE g ⟨0,[],0,0,0,ba nm,z⟩=false:=by unfold rE;rw[UP h]
 rw[ab dl,ab (by rw[j9,j];simp),ab (by rw[q];simp),ab io,ab io,k,ab gs]
def adK(g:List Nx):bA g ⟨2,[],0,0,0,ba [113],aX⟩=(dt 1,0):=rfl
def adG{G:List Nx}{i j:Nat}{d e:Nx}(hd:G[i]? =some d)(h:G[j]? =some e)(sd:d.st=dt 3)(q:e.st=dt 1):bA G {ft 18 with kids:=[(i:Int),(j:Int)]}=(aO 1,0):=by
 unfold bA;rw[E2 (n:={ft 18 with kids:=[(i:Int),(j:Int)]}) rfl hd,Mq (n:={ft 18 with kids:=[(i:Int),(j:Int)]}) rfl h,sd,q];have k:(b5 18==(([(i:Int),(j:Int)]:List Int).length:Int)&&([(i:Int),(j:Int)]:List Int).all (dI G)&&fa {ft 18 with kids:=[(i:Int),(j:Int)]})=true:=by rw[List.all_cons,List.all_cons,xG hd,xG h];rfl
 show(if(b5 18==(([(i:Int),(j:Int)]:List Int).length:Int)&&([(i:Int),(j:Int)]:List Int).all (dI G)&&fa {ft 18 with kids:=[(i:Int),(j:Int)]})=false then(aX,1)else _)=_;rw[k];rfl
def o':List TK:=kN gh (dt 3)++(fR h7 [] [(2,gh)]++i7 false [109,111,114,101] (hZ [101,113] ([(2,h7)]++[(5,[113])])))
def aet{L g:List Nx}{y:bJ}(k:oi (ou L) L g y 1720)(hL:L.length<=10)(hn:∀E∈L,bl E.tx≠gh):∃Z r J c2,(∀d,ou L d->cY d 3 o' y Z)/\Z.s.g=y.s.g++r/\Z.cs=y.cs++[J,c2]/\r.length<=3:=by
 obtain⟨b0,b1,b2,ae,_⟩:=k.ev.b;have aJ:=k.gl;have aL:=k.tm;obtain⟨r0,av,aw⟩:=k.go.up;have ar:∀E∈y.s.g,E.op=0->E.tx≠ba gh:=λE G h0 he=>by
  rw[av]at G;rcases aP.1 G with G|G
  .exact hn E G (by rw[he];rfl)
  .exact aw E G h0
 obtain⟨a0,A,a1,a2,a3,a4,P⟩:=uh (adO (nm:=gh) (z:=dt 3) dl dl ar) io k.go.vg;have N:∀d,cY d 1 (kN gh (dt 3)) y _:=λd=>cY.decl (T:=d) (x:=y) (nm:=gh) (st:=dt 3) k.ev.vn (by rw[ae];rfl) dl a0;generalize aK:(bb y.s.g ⟨0,[],0,0,0,ba gh,dt 3⟩).2.1.toNat=C at N P;rw[a1]at a4 P N;obtain⟨j,B⟩:∃j:bJ,j={y with s:=⟨y.s.p+(kN gh (dt 3)).length,y.s.tm,y.s.g++A⟩,vs:=y.vs++[(gh,C)],cs:=y.cs++[⟨0,gh,dt 3,(C:Int),0⟩]}:=⟨_,rfl⟩;rw[<-B]at N;have ao:∀(vs:List (List UInt8×Nat)) (t:List UInt8) (v:Nat),lk vs t=none->lk (vs++[(t,v)]) t=some v:=by
  intro vs;induction vs with
  |nil=>intro t v _;exact ag rfl
  |cons aH vs Y=>
   intro t v k;unfold lk at k;rw[gE];unfold lk;split
   .rename_i F;rw[ag F]at k;cases k
   .rename_i F;rw[ab F]at k;exact Y t v k
 have ap:∀(vs:List (List UInt8×Nat)) (t u:List UInt8) (v:Nat),u≠t->lk (vs++[(u,v)]) t=lk vs t:=by
  intro vs;induction vs with
  |nil=>intro t u v k;exact ab k
  |cons aH vs Y=>
   intro t u v k;rw[gE];unfold lk;split
   .rfl
   .exact Y t u v k
 have v1:lk j.vs gh=some C:=by rw[B];exact ao _ _ _ k.ev.vn
 have v2:lk j.vs h7=none:=by rw[B];show lk (y.vs++[(gh,C)]) h7=none;rw[ap _ _ _ _ dl];exact k.ev.vw
 have af:j.ms=[(gU,⟨hf,b0,0⟩),(gX,⟨[],b1,1⟩),(ji,⟨mz,b2,2⟩)]:=by rw[B];exact ae
 have am:j.s.g=y.s.g++A:=by rw[B]
 have ax:j.s.tm=y.s.tm:=by rw[B]
 have r2:∀d,cY d 1 (fR h7 [] [(2,gh)]) j (q7 j h7 [] [(2,gh)]):=λd=>cY.defn (T:=d) (x:=j) (nm:=h7) (ps:=[]) (KB:=[(2,gh)]) v2 (by rw[af];rfl) dl dl dl;obtain⟨h,H⟩:∃h:bJ,h=q7 j h7 [] [(2,gh)]:=⟨_,rfl⟩;rw[<-H]at r2;have W:h.ms=[(gU,⟨hf,b0,0⟩),(gX,⟨[],b1,1⟩),(ji,⟨mz,b2,2⟩),(h7,⟨[],j.s.p+5+(eF []).length,3⟩)]:=by rw[H];show j.ms++[(h7,⟨[],j.s.p+5+(eF []).length,j.ms.length⟩)]=_;rw[af];rfl
 have ah:h.vs=j.vs:=by rw[H];rfl
 have an:h.s.g=y.s.g++A:=by rw[H];exact am
 have ay:h.s.tm=y.s.tm:=by rw[H];exact ax
 have aI:(y.s.g++A).length<=1731:=by rw[bG];omega
 obtain⟨c0,D,J,c2,c3,c4,Q⟩:=uh (adK (y.s.g++A)) io a4;generalize aa:(bb (y.s.g++A) ⟨2,[],0,0,0,ba [113],aX⟩).2.1.toNat=K at Q;rw[J]at c4 Q;have aC:(bb (y.s.g++A) ⟨2,[],0,0,0,ba [113],aX⟩).2.1=(K:Int):=by obtain⟨_,az,F,_⟩:=pC c0;rw[F]at aa ⊢;rw[<-aa,bR]
 have aj:=nV (r:=D) P;obtain⟨d0,O,d1,d2,d3,d4,S⟩:=uh (adG aj Q rfl rfl) (by rw[bG];omega) c4;generalize ac:(bb (y.s.g++A++D) {ft 18 with kids:=[(C:Int),(K:Int)]}).2.1.toNat=M at S;rw[d1]at d4 S;have aG:(bb (y.s.g++A++D) {ft 18 with kids:=[(C:Int),(K:Int)]}).2.1=(M:Int):=by obtain⟨_,az,F,_⟩:=pC d0;rw[F]at ac ⊢;rw[<-ac,bR]
 have r3:∀d,cg d (j.s.p+5+(eF []).length) [(2,gh)]->cY d 1 (i7 false [109,111,114,101] (hZ [101,113] ([(2,h7)]++[(5,[113])]))) h _:=λd hb=>by
  have aq:h6 {gN d h with dp:=1} h7=some ⟨[],j.s.p+5+(eF []).length,3⟩:=by
   unfold h6;show(match lk h.ms h7 with
    |some m=>if m.ix<9223372036854775807 then some m else none
    |none=>none)=_
   rw[W];rfl
  have t1:eW {gN d h with dp:=1} 2 [(2,h7)] 2 h.s.g C h.s.g:=.nm (q:=1) (m:=1) rfl (by show lk h.vs h7=none;rw[ah];exact v2) aq rfl hb (.vs rfl (by show lk h.vs gh=_;rw[ah];exact v1));have t2:eW {gN d h with dp:=1} 1 [(5,[113])] 1 h.s.g K (y.s.g++A++D):=by rw[an,<-J];exact .qt c0 aC
  have t3:=hV.cons t1 (hV.cons t2 hV.nil);have t4:eW (gN d h) (max 2 (max 1 0)+1) (hZ [101,113] ([(2,h7)]++[(5,[113])])) (2+(1+0)+1) h.s.g M (y.s.g++A++D++O):=by rw[<-d1];exact .op (op:=18) (w:=[101,113]) rfl rfl (by show 0<64;omega) t3 d0 aG
  exact cY.I3 (T:=d) (e:=false) t4 S rfl (by rw[ay];omega) (by show 3<=_;rw[W];show 3<=4 *(d.length+1)+_;omega) (by rw[W];show 4<=1000;omega)
 refine⟨{h with s:=⟨h.s.p+(i7 false [109,111,114,101] (hZ [101,113] ([(2,h7)]++[(5,[113])]))).length,h.s.tm+(2+(1+0)+1),y.s.g++A++D++O⟩,cs:=h.cs++[⟨1,[109,111,114,101],aX,(M:Int),0⟩]},A++D++O,⟨0,gh,dt 3,(C:Int),0⟩,⟨1,[109,111,114,101],aX,(M:Int),0⟩,λd hT hK=>?_,?_,?_,by rw[bG,bG];omega⟩
 .refine (cY.app (N d) (cY.app (r2 d) (r3 d ?_))) hK;have aA:cg d (y.s.p+(kN gh (dt 3)).length) (fR h7 [] [(2,gh)]++i7 false [109,111,114,101] (hZ [101,113] ([(2,h7)]++[(5,[113])]))):=hK.app.2;have:=zT aA;rw[B];exact this
 .show y.s.g++A++D++O=_;simp
 .show h.cs++[_]=_;rw[H];show j.cs++[_]=_;rw[B];show y.cs++[_]++[_]=_;rw[cU];rfl
def nz:List UInt8:=[40,100,101,99,108,97,114,101,32,110,101,119,32,40,115,116,114,32,51,41,41,40,100,101,102,105,110,101,32,40,110,101,119,101,114,41,32,110,101,119,41,40,97,115,115,101,114,116,32,109,111,114,101,32,40,101,113,32,110,101,119,101,114,32,34,113,34,41,41]
def XK:pI nz o'=true:=by kernel_rfl
def aca:(List.range 1728).all (λd=>Nat.ble (jn (nt d)).length 29)=true:=by kernel_rfl
def ab'(k:Nat):(jn (nt k)).length<=29:=by rw[Uw];exact Nat.le_of_ble_eq_true (dS.1 aca (k%1728) (List.mem_range.2 (Nat.mod_lt _ io)))
def ab9:n9.all (λt=>Nat.ble (jn (bl t)).length 6)=true:=by kernel_rfl
def op7{op:Int}(e:4<=op)(h:op<=34):(dR op).length<=7:=by
 have d:∀n<31,(dR ((n+4:Nat):Int)).length<=7:=dl
 have:=d (op - 4).toNat io
 grind
def TE{s:aM}(e:0<=s.k/\s.k<=3):(jZ s).length<=11/\(ej s).length<=5:=by
 have h:=jI s.x.toNat;have j:=jI s.n.toNat;have d:∀k<4,(hN ((k:Nat):Int)).length<=3:=dl
 have d:=d s.k.toNat io;rw[Int.toNat_of_nonneg e.1]at d;unfold jZ ej
 grind
def ss(g:List Nx)(n i:Nat):Nat:=(eT n g i).length+1+3 *(dM n g i).length
def LA{g:List Nx}{n:Nat}:∀e:List Int,(e.flatMap λd=>32::eT n g d.toNat).length+3 *(e.flatMap λd=>dM n g d.toNat).length=e.foldl (λh d=>h+ss g n d.toNat) 0
 |[]=>rfl
 |d::e=>by have:=LA (g:=g) (n:=n) e;rw[List.foldl_cons,fold_add,dz,dz,bG,bG,cC];unfold ss at this ⊢;omega
def adI{g:List Nx}(x:Vg g){i:Nat}{d:Nx}(hd:g[i]? =some d):(d.op=3->d.st.k≠1)/\(d.op=33->d.st.k=0/\(bf (g.take i) d 0).k=1):=by
 have e:=x.ok i d hd;unfold bA at e;split at e
 .grind
 split at e
 .refine ⟨λj z=>?_,λq=>io⟩;unfold cb at e;rw[ab io,ab io]at e;split at e
  .grind
  .rw [ag (.inr ⟨j,by unfold eg;grind⟩)]at e
   grind
 .rename_i y;refine⟨λj=>io,λq=>?_⟩;split at e
  .grind
  rename_i h;split at e
  .grind
  split at e
  .grind
  have h:eD d.op (bf (g.take i) d 0) (bf (g.take i) d 1) (bf (g.take i) d 2)=true:=by grind
  have w:gZ d (bf (g.take i) d 0) (bf (g.take i) d 1) (bf (g.take i) d 2)=d.st:=congrArg Prod.fst e;rw[q]at h;have h:((bf (g.take i) d 0).k==1)=true:=h;refine⟨?_,by grind⟩;rw[<-w];unfold gZ;rw[ag io];rfl
def D0{g:List Nx}(A:Vg g)(H:∀d∈g,MdN d)(O:∀d∈g,d.op=1->d.st.n<=16):∀(n i:Nat) (d:Nx),i<n->g[i]? =some d->ss g n i+(if d.st.k=1 then 8 else 0)<=39 *bY n g i+6
 |0,i,d,h,_=>absurd h io
 |n+1,i,d,h,q=>by
  have Y:=aD q;have F:=H d Y;have G:=rJ A q;have Z:=G.op;obtain⟨m3,ac⟩:=adI A q;have N:=rI G.st;have aa:(if d.st.k=1 then 8 else 0)<=8:=by grind
  have hz:bY (n+1) g i=d.kids.foldl (λB e=>B+bY n g e.toNat) 1:=by
   conv=>lhs;unfold bY
   rw[q]
  rw[fold_add]at hz;have az:d.op≠33->(bl d.tx).length<=16:=λh=>by rw[cR];exact F.tx h
  generalize K:(if d.st.k=1 then 8 else 0)=e8 at aa ⊢;have aA:1<=bY (n+1) g i:=io
  unfold ss eT dM;rw[q];dsimp only;by_cases J:d.op=0
  .grind
  rw[ab J,ab J];by_cases w:d.op=1
  .rw [ag w,ag w];have:=pD d.u.toNat d.st.n.toNat
   grind
  rw[ab w,ab w];by_cases x:d.op=2
  .rw [ag x,ag x];have:=Nat.le_of_ble_eq_true (dS.1 ab9 _ (F.li x))
   grind
  rw[ab x,ab x];by_cases y:d.op=3
  .rw [ag y,ag y];have z:=m3 y;rw[ab z]at K;have:=TE (s:=d.st) ⟨N.1,N.2.1⟩
   grind
  rw[ab y,ab y];have L:=λe z=>A.kids q e z;have aw:=op7 (op:=d.op) io Z.2;have af:=LA (g:=g) (n:=n) d.kids;have z:∀(ks:List Int),(∀e∈ks,0<=e/\e<(i:Int))->ks.foldl (λB e=>B+ss g n e.toNat) 0<=6 *ks.length+39 *ks.foldl (λB e=>B+bY n g e.toNat) 0:=by
   intro ks;induction ks with
   |nil=>grind
   |cons e ks ih=>
    intro E;have ah:=E e hJ;have Q:=(cL.1 q).1;have D:g[e.toNat]? =some (g[e.toNat]'io):=aY io;have w:=D0 A H O n e.toNat _ io D;have x:=ih λj M=>E j (cP _ M);rw[List.foldl_cons,fold_add,List.foldl_cons,fold_add _ ks (0+bY n g e.toNat),cC];omega
  have aj:=z d.kids L;have am:=F.kl;by_cases C:d.op=33
  .
   obtain⟨k0,k1⟩:=ac C;rw[ab io]at K;have S:=G.ok.kl;have W:d.kids.length=1:=by
    have:b5 d.op=1:=by rw[C];decide
    omega
   obtain⟨j,M⟩:∃j,d.kids=[j]:=List.length_eq_one_iff.1 W;have ax:=L j (by grind);have Q:=(cL.1 q).1;have D:g[j.toNat]? =some (g[j.toNat]'io):=aY io;generalize g[j.toNat]'io=dq at D;have w:=D0 A H O n j.toNat _ io D;have E:dq.st.k=1:=by
    have ae:bf (g.take i) d 0=dq.st:=by
     unfold bf
     grind
    grind
   rw[ag E]at w;obtain⟨kt,T⟩:=F.re C;have ay:(jn (bl d.tx)).length<=29:=by rw[T,j9];exact ab' kt
   have ar:fT d=32::jn (bl d.tx):=by
    unfold fT
    grind
   have an:gA d=[(5,bl d.tx)]:=by
    unfold gA
    grind
   have av:(dR d.op).length=2:=by rw[C];decide
   grind
  .have ao:(fT d).length+3 *(gA d).length<=12:=by
    have hn:=jI d.n.toNat;have ap:=jI d.m.toNat;unfold fT gA
    grind
   have aq:(fT d).length+3 *(gA d).length=0\/d.kids.length=1:=by
    have S:=G.ok.kl;by_cases P:d.op=21\/d.op=22\/d.op=23\/d.op=28
    .right;have:b5 d.op=1:=by rcases P with h|h|h|h<;>rw[h]<;>decide
     omega
    .left;unfold fT gA
     grind
   grind
def cT(l:List UInt8)(K:List TK):Nat:=l.length+3 *K.length
def Ro(kind:Int):cT (k2 (xs (bN kind))) (lS (xs (bN kind)))<=900:=by
 have d:Nat.ble (cT (k2 (xs fX)) (lS (xs fX))) 900=true:=by kernel_rfl
 have e:Nat.ble (cT (k2 (xs (fX++hO))) (lS (xs (fX++hO)))) 900=true:=by kernel_rfl
 have h:Nat.ble (cT (k2 (xs (fX++hO++iD))) (lS (xs (fX++hO++iD)))) 900=true:=by kernel_rfl
 apply Nat.le_of_ble_eq_true;unfold bN
 grind
def IX{g:List Nx}(e:∀(i:Nat),i<g.length->bY (i+1) g i<=401->ss g (i+1) i<=15645):∀(al:List (Nat×Nat)) (i:Nat),i+al.length<=10->(∀a∈al,a.1<g.length/\bY (a.1+1) g a.1<=401)->cT (oz g i al) (l8 g i al)<=15800 *al.length
 |[],_,_,_=>by simp[cT,oz,l8]
 |a::al,i,w,d=>by
  rw[cC]at w;have x:=IX e al (i+1) io λb q=>d b (cP _ q);obtain⟨h,j⟩:=d a hJ;have k:=e a.1 h j;unfold ss at k;have y:=jI i;unfold cT at x ⊢;unfold oz l8 ur i7;have B:(mV (ak (a.2 / 10%3=2))).length<=6:=by cases ak (a.2 / 10%3=2)<;>decide
  have A:(rC (a.2 / 2%5) (eT (a.1+1) g a.1)).length+3 *(nA (a.2 / 2%5) (dM (a.1+1) g a.1)).length<=15645+70:=by
   generalize a.2 / 2%5=n;unfold rC nA;split
   .unfold hZ ji
    grind
   split
   .unfold hZ gX
    grind
   split
   .unfold hZ gU;simp only[bG,cC,jm];omega
   .omega
  have z:∀(n:Nat) (r:List UInt8),(nq n r).length+3 *(qy n).length<=r.length+24:=by
   intro n r;unfold nq qy
   grind
  grind
def adr{g:List Nx}(kind:Int){al:List (Nat×Nat)}(z:al.length<=4)(x:Vg g)(w:∀d∈g,MdN d)(y:∀d∈g,d.op=1->d.st.n<=16)(k:∀a∈al,a.1<g.length/\bY (a.1+1) g a.1<=401):
  cT (o5 (xs (bN kind)) g al) (jr (xs (bN kind)) g al)<=64200:=by
 have h:=Ro kind;have j:=IX (g:=g) (λi e A=>by have q:g[i]? =some (g[i]'e):=aY e;have:=D0 x w y (i+1) i _ (Nat.lt_succ_self _) q;omega) al 0 io k
 unfold cT at h j ⊢;unfold o5 jr
 grind
def fD:List Nd->Nat->List Int
 |[],_=>[]
 |d::l,i=>if d.x.st=aO 1 then(i:Int)::fD l (i+1)else fD l (i+1)
def Jg:∀(l:List Nd) (i:Nat) (k:Int),k∈fD l i->∃(j:Nat) (d:Nd),k=((i+j:Nat):Int)/\l[j]? =some d/\d.x.st=aO 1
 |[],_,_,e=>by cases e
 |d::l,i,k,e=>by
  unfold fD at e;have rest:k∈fD l (i+1)->∃(j:Nat) (h:Nd),k=((i+j:Nat):Int)/\(d::l)[j]? =some h/\h.x.st=aO 1:=λe=>by obtain⟨j,q,a,b,c⟩:=Jg l (i+1) k e;exact⟨j+1,q,by rw[a];omega,b,c⟩
  split at e
  .rename_i w;rcases aF.1 e with e|e
   .exact ⟨0,d,e,rfl,w⟩
   .exact rest e
  .exact rest e
def Wo{w:I}{s:Sl}{l:List Nd}(B:GP w s l)(K:l.length<=dO):
  ai U N1 #[s.v] w λr j=>(∃t:Sl,r=ad t.v/\bF j t (fD l 0)/\∀b∈aG t,w.heap.size<=b)/\af w j:=by
 have S:=gx B;unfold dO at K;have loop:∀(m i:Nat) (t:Sl) (ks:List Int) (k:I),i+m=l.length->ks.length<=i->ks++fD (l.drop i) i=fD l 0->O F0 w k [n3 t ks] [.gr s l]->
   sE.L0 s t (i:Int) k λr j=>(∃t:Sl,r=ad t.v/\bF j t (fD l 0)/\∀b∈aG t,w.heap.size<=b)/\af w j:=by
  intro m;induction m with
  |zero=>
   intro i t ks k H J e h;rw[dy io]at e;have e:ks=fD l 0:=by rw[<-e];exact(cQ _).symm
   rw[<-e];exact sE.b' (aQ (a2 io) ⟨⟨t,rfl,oT (h.get 0),λb F=>(h.new _ (aD (i:=0) rfl) b F).resolve_right id⟩,h.fr⟩)
  |succ m C=>
   intro i t ks k H J e h;have z:l[i]? =some (l[i]'io):=aY io;have G:l.drop i=l[i]'io::l.drop (i+1):=dw io;rw[G]at e;generalize l[i]'io=d at z e;have hlen:=rj (h.get 0);refine sE.b' (aR (a5 io) (h.dr λN A=>eh (a8.1 (A.getD 0)) rfl z λp L c=>⟨_,_,_,c.s0,c.s1,c.s2,A.call (fE 1 N) ?_⟩));rintro _ P rfl q;have c:=xy (a8.1 (q.getD 0)) z L (rfl:((i:Int))=(i:Int));have E:fD (d::l.drop (i+1)) i=if d.x.st=aO 1 then(i:Int)::fD (l.drop (i+1)) (i+1)else fD (l.drop (i+1)) (i+1):=rfl;rw[E]at e;refine⟨_,_,_,rfl,c.s0,c.s1,c.s2,nk (a:=d.x.st) (b:=aO 1) (λy=>?_) (λy=>?_)⟩
   .rw [ag y]at e;refine q.r1 0 sw rfl (λM Q D _ _=>?_) io;dsimp only[sE.S1,ah];rw[bm _ io];exact C (i+1) M (ks++[(i:Int)]) Q io (by simp;omega) (by rw[cU];exact e) (by rw[n3,ey];exact D)
   .rw [ab y]at e;dsimp only[sE.S1,ah];rw[bm _ io];exact C (i+1) t ks P io io e q
 exact sE.ok (loop l.length 0 ⟨none,0,0⟩ [] w io gs rfl ((vc B).h8 bz 1))
def qW(l:List Nx):List UInt8:=l.flatMap λd=>if d.op=0 then pO d else[]
def Wt{w:I}{s:Sl}{l:List Nd}(C:GP w s l)(hl:l.length<=1000)(hv:∀d∈xs l,br d.st=true)(Z:∀d∈xs l,d.tx.size<=64):
  ai U Oq #[s.v] w λr A=>r=ad (.string (ba (qW (xs l))))/\af w A:=by
 have hs:=gx C;have loop:∀(m i:Nat) (t:List UInt8) (k:I),i+m=l.length->t.length<=100 *i->t++qW ((xs l).drop i)=qW (xs l)->O F0 w k [] [.gr s l]->
   sG.L0 s (ba t) (i:Int) k λr A=>r=ad (.string (ba (qW (xs l))))/\af w A:=by
  intro m;induction m with
  |zero=>
   intro i t k T aa e j;rw[dy (by simp[xs];omega)]at e;have e:t=qW (xs l):=by rw[<-e];exact(cQ _).symm
   rw[<-e];exact sG.b' (aQ (a2 io) ⟨rfl,j.fr⟩)
  |succ m H=>
   intro i t k T aa e j;have h:l[i]? =some (l[i]'io):=aY io;generalize l[i]'io=d at h;have G:=og h;have Q:(xs l).drop i=d.x::(xs l).drop (i+1):=by obtain⟨W,S⟩:=cL.1 G;rw[dw W,S]
   have D:=aD G;have aj:=Z _ D;have F:=hv _ D;have E:=rI F;have ae:=(TE (s:=d.x.st) ⟨E.1,E.2.1⟩).1;rw[Q]at e;unfold qW at e;rw[dz]at e;refine sG.b' (aR (a5 io) (eh (a8.1 (j.getD 0)) rfl h λp hp c=>⟨_,c.c0,aw (λz=>?_) (λz=>?_)⟩))
   .rw [ag z]at e;refine j.dr λw2 q=>⟨ov (by rw[be];omega) dl,eh (a8.1 (q.getD 0)) rfl h λp2 Y J=>⟨_,J.c5,ov (by rw[ByteArray.size_append,be];show _+9<=_;omega) io,ov (by rw[ByteArray.size_append,ByteArray.size_append,be];show _+9+_<=_;omega) dl,eh (a8.1 (q.getD 0)) rfl h λp3 ac y=>⟨_,_,_,y.s0,y.s1,y.s2,q.call (JR F w2) ?_⟩⟩⟩;rintro _ w3 rfl B;have K:=xy (a8.1 (B.getD 0)) h Y (rfl:((i:Int))=(i:Int));refine⟨_,rfl,K.c5,ov (by rw[ByteArray.size_append,ByteArray.size_append,ByteArray.size_append,be];show _+9+_+1<=_;omega) (by rw[be];omega),ov (by rw[ByteArray.size_append,ByteArray.size_append,ByteArray.size_append,ByteArray.size_append,be,be];show _+9+_+1+_<=_;omega) dl,?_⟩;dsimp only[sG.S1,ah];rw[bm _ io];have L:ba t++a' #[40,100,101,99,108,97,114,101,32]++d.x.tx++a' #[32]++ba (jZ d.x.st)++a' #[41,10]=ba (t++pO d.x):=by
     unfold pO;have M:a' #[40,100,101,99,108,97,114,101,32]=ba [40,100,101,99,108,97,114,101,32]:=rfl;have N:a' #[32]=ba [32]:=rfl;have P:a' #[41,10]=ba [41,10]:=rfl;rw[M,N,P];conv=>lhs;rw[<-j8 d.x.tx]
     rw[bT,bT,bT,bT,bT];simp
    rw[L];refine H (i+1) (t++pO d.x) w3 io ?_ (by rw[cU];exact e) B;have h5:=cR d.x.tx;unfold pO;simp only[bG,cC,jm];omega
   .rw [ab z]at e;dsimp only[sG.S1,ah];rw[bm _ io];exact H (i+1) t k io io e j
 exact sG.ok (loop l.length 0 [] w io gs rfl (vc C))
def Ye:fO U aeP rF (.agg #[.string (a' #[]),.int .i64 0]) 2 24:=⟨by kernel_rfl,by kernel_rfl,rfl,dl,dl⟩
def g8:Nat->List Nat->List V
 |_,[]=>[]
 |i,k::d=>.string (ba (112::bU i))::.int .i64 (k:Int)::g8 (i+1) d
def IS:∀(ks:List Nat) (i k:Nat),g8 i (ks++[k])=g8 i ks++[.string (ba (112::bU (i+ks.length))),.int .i64 (k:Int)]
 |[],i,k=>rfl
 |d::ks,i,k=>by show _::_::g8 (i+1) (ks++[k])=_::_::(g8 (i+1) ks++_);rw[IS ks (i+1) k,cC,show i+1+ks.length=i+(ks.length+1)by omega]
def C':∀(ks:List Nat) (i:Nat),(g8 i ks).length=2 *ks.length
 |[],_=>rfl
 |d::ks,i=>by show(g8 (i+1) ks).length+1+1=_;rw[C' ks,cC];omega
structure ot(kind:Int)(l:List Nd):Prop where
 md:l7 (xs l)
 len:l.length<=23
 vars:∀d∈xs l,d.op=0->d∈xs (bN kind)
 w:∀d∈xs l,d.op=1->d.st.n<=16
 sz:∀i,i<l.length->bY (i+1) (xs l) i<=401
 up:∃r,xs l=xs (bN kind)++r
def rN(l:List Nd)(k:Nat):Prop:=∃d,(xs l)[k]? =some d/\d.st=aO 1
def zk(w:I)(kind:Int)(many:Nat)(r:Ending)(w':I):Prop:=∃(d:Sl) (l:List Nd) (out:Sl) (ks:List Nat),r=ad (.tuple #[d.v,out.v])/\ot kind l/\GP w' d l/\bh 2 w' out (g8 0 ks)/\ks.length=many/\(∀e∈ks,rN l e)/\(∀b∈(En.gr d l).fp,w.heap.size<=b)/\∀b∈aG out,w.heap.size<=b
def jj(k:Nat):Nx:=⟨4,[(k:Int)],0,0,0,ba [],aX⟩
def adJ{G:List Nx}{k:Nat}{d:Nx}(hd:G[k]? =some d)(h:d.st=aO 1):bA G (jj k)=(aO 1,0):=by
 unfold bA;rw[E2 (n:=jj k) rfl hd,h];have e:(b5 (jj k).op==((jj k).kids.length:Int)&&(jj k).kids.all (dI G)&&fa (jj k))=true:=by show(b5 4==(([(k:Int)]:List Int).length:Int)&&([(k:Int)]:List Int).all (dI G)&&fa (jj k))=true;rw[List.all_cons,xG hd];rfl
 rw[e];rfl
def Qu(k:Nat):MdN (jj k):=⟨by show(-1:Int)<=4;decide,by show(4:Int)<=34;decide,by show 1<=3;decide,by show(0:Int)<=0/\(0:Int)<=100;decide,by show(0:Int)<=0/\(0:Int)<=100;decide,by show(0:Int)<=0/\(0:Int)<=1000;decide,λ_=>by show(ba []).size<=16;decide,λd=>(by cases d),λd=>(by cases d)⟩
def abW{kind:Int}{l j:List Nd}(q:ot kind l)(W:l.length<=22){k:Nat}{d:Nx}(hd:(xs l)[k]? =some d)(D:d.st=aO 1)(Y:bY (k+1) (xs l) k<=400)(h:xs j=(bb (xs l) (jj k)).1):
  (bb (xs l) (jj k)).2.2=0/\ot kind j/\j.length<=l.length+1/\(∃r,xs j=xs l++r)/\∃m:Nat,(bb (xs l) (jj k)).2.1=(m:Int)/\rN j m:=by
 have N:=adJ hd D;have Z:(xs l).length=l.length:=by simp[xs]
 have aa:(xs j).length=j.length:=by simp[xs]
 obtain⟨A,r,y,P,z,Q,E⟩:=uh N io q.md.vg;obtain⟨_,m,G,m2,_⟩:=pC A;rw[y]at h;have J:=congrArg List.length h;rw[bG]at J;have K:l7 (xs j):=by rw[h,<-y];exact IF q.md (Qu k) A
 have T:=(cL.1 hd).1;obtain⟨O,L⟩:=q.up;refine⟨A,⟨K,io,λx e B=>?_,λx e C=>?_,λi S=>?_,⟨O++r,by rw[h,L,cU]⟩⟩,io,⟨r,h⟩,m,G,?_⟩
 .rw [h]at e;rcases aP.1 e with e|e
  .exact q.vars x e B
  .rw [z x e]at B;cases B
 .rw [h]at e;rcases aP.1 e with e|e
  .exact q.w x e C
  .rw [z x e]at C;cases C
 .rcases Nat.lt_or_ge i l.length with F|F
  .rw [h,yN q.md.vg.sN (i+1) i io io (i+1) io];exact q.sz i F
  .have H:(xs j)[i]? =some (eo (jj k) (aO 1)):=by
    rw[h,List.getElem?_append_right io];have:i - (xs l).length=0:=io
    rw[this];have M:r.length=1:=io
    obtain⟨a,rfl⟩:=List.length_eq_one_iff.1 M;rw[z a (List.mem_singleton_self _)];rfl
   have D:bY (i+1) (xs j) i=1+bY i (xs j) k:=by
    conv=>lhs;unfold bY
    rw[H];show List.foldl _ 1 [(k:Int)]=_;rw[List.foldl_cons,List.foldl_nil,bR]
   rw[D,h,yN q.md.vg.sN i k io io (k+1) io];omega
 .rw [G,bR]at E;rw[<-y,]at h;exact⟨_,by rw[h];exact E,rfl⟩
def Mo{k n b:Nat}(d:b∈(bZ ⟨jj k,⟨some (aa n),1,1⟩⟩).fp):b=n:=by simpa[bZ,En.rd,aG,jj]using d
def WB{w:I}{ls ps:Sl}{Y h:List Int}(C:bF w ls Y)(bk:∀ar∈Y,cF ar)(bj:Y.length<=9223372036854775807)(hp:bF w ps h)(bn:∀ar∈h,cF ar)(bS:h.length<=9223372036854775807)(kind:Int):
  ai U N8 #[ls.v,.i kind,ps.v,.i 4] w λr E=>zk w kind (min h.length 4) r E/\af w E:=by
 have H0:O F0 w w [] [.rd ls (Y.map bC),.rd ps (h.map bC)]:=bM _ (by
  intro ax he;simp only[aF,aZ,a7]at he;rcases he with rfl|rfl
  .exact C
  .exact hp)
 have bV:ps.n=h.length:=bF.len hp;refine pT.ok ((Wy C bk bj kind 9 io).mono ?_);rintro _ w1 ⟨⟨q,e,rfl,hg,bL,bO,hP,K,W,_⟩,f1⟩;have H1:=H0.ef (.gr q e) f1 (a8.2 hP) (λb D=>.inl (K b D));have H1:O F0 w w1 [] [.rd ls (Y.map bC),.rd ps (h.map bC),.gr q e]:=H1;refine⟨_,rfl,(Wo (a8.1 (H1.getD 2)) (by unfold dO;omega)).mono ?_⟩;rintro _ w2 ⟨⟨z,rfl,hB,aM⟩,f2⟩;have H2:=H1.ef (.rd z ((fD e 0).map bC)) f2 hB (λb D=>.inl (vM aM b D));have H2:O F0 w w2 [] [.rd ls (Y.map bC),.rd ps (h.map bC),.gr q e,.rd z ((fD e 0).map bC)]:=H2;have H2:O F0 w w2 [] [.rd ps (h.map bC),.gr q e,.rd z ((fD e 0).map bC)]:=H2.forget _ gs;have ay:z.n=(fD e 0).length:=bF.len hB;have bE:1<=(fD e 0).length:=by
  obtain⟨r,C⟩:=W.2.1;have F:(xs e)[2]? =some (mM [99] (aO 1)):=by
   rw[C];have:(xs (bN kind))[2]? =some (mM [99] (aO 1)):=by unfold bN;split<;>split<;>rfl
   exact nV this
  rcases e with _|⟨a,_|⟨b,_|⟨c,e⟩⟩⟩
  .cases F
  .cases F
  .cases F
  .have F:c.x=mM [99] (aO 1):=by have:some c.x=some (mM [99] (aO 1)):=F;exact ed this
   have bu:c.x.st=aO 1:=by rw[F];rfl
   have hm:((2:Nat):Int)∈fD (a::b::c::e) 0:=by
    have e2:((2:Nat):Int)∈fD (c::e) 2:=by unfold fD;rw[ag bu];exact hJ
    have e1:((2:Nat):Int)∈fD (b::c::e) 1:=by
     unfold fD;split
     .exact cP _ e2
     .exact e2
    unfold fD;split
    .exact cP _ e1
    .exact e1
   exact List.length_pos_of_mem hm
 have bH:(fD e 0).length<=1000:=by
  have:∀(l:List Nd) (i:Nat),(fD l i).length<=l.length:=by
   intro l;induction l with
   |nil=>intro i;exact bw _
   |cons d l ih=>
    intro i;unfold fD;have:=ih (i+1);split
    .simp;omega
    .simp;omega
  have:=this e 0;omega
 have aS:ot kind e:=⟨hg,io,W.1,λd hd h1=>by obtain⟨i,S⟩:=iB.1 hd;have a6:=(cL.1 S).1;exact(W.2.2 i (by simpa[xs]using a6)).2 d S,λi S=>by have:=(W.2.2 i S).1;omega,W.2.1⟩
 generalize aL:fD e 0=bl0 at *;have aU:∀k∈bl0,∃(j:Nat) (d:Nx),k=(j:Int)/\j<e.length/\(xs e)[j]? =some d/\d.st=aO 1:=λk hk=>by rw[<-aL]at hk;obtain⟨j,d,a,b,c⟩:=Jg e 0 k hk;exact⟨j,d.x,by rw[a,Nat.zero_add],(cL.1 b).1,og b,c⟩
 have loop:∀(m i:Nat) (q:Sl) (l:List Nd) (out:Sl) (ks:List Nat) (L:I),i+m=min h.length 4->ks.length=i->ot kind l->l.length<=19+i->(∃r,xs l=xs e++r)->(∀k∈ks,rN l k)->(∀b∈(En.gr q l).fp,w.heap.size<=b)->O F0 w L [.row rF 2 out (g8 0 ks)] [.rd ps (h.map bC),.gr q l,.rd z (bl0.map bC)]->
   pT.L0 ps 4 q out z (i:Int) L λr E=>zk w kind (min h.length 4) r E/\af w E:=by
  intro m;induction m with
  |zero=>
   intro i q l out ks L S am Q aW ac ao K J;have fin:pT.S2 q out L λr E=>zk w kind (min h.length 4) r E/\af w E:=by dsimp only[pT.S2,ah];exact⟨⟨q,l,out,ks,rfl,Q,a8.1 (J.getD 1),(J.get 0:aK _ _ _ _ _).a3,io,ao,K,λb D=>(J.new _ (aD (i:=0) rfl) b D).resolve_right id⟩,J.fr⟩
   refine pT.b' (aT (λh1=>aQ (a2 io) fin) (λh1=>fin))
  |succ m ih=>
   intro i q l out ks L S am Q aW ac ao K J;have aj:h[i]? =some (h[i]'io):=aY io;have aC:=bn _ (aD aj);generalize h[i]'io=pv at aj aC;have bp:bF L ps h:=J.getD 0;refine pT.b' (aR (a5 io) (aR (a5 io) ⟨io,io,bp.cell aj io λp _ F=>⟨pv,F,J.call (jO pv 1048576 L io aC) ?_⟩⟩));have bt:=kI pv 1048576 io;generalize fC pv 1048576=aH at bt;obtain⟨y,rfl⟩:∃y:Nat,aH=(y:Int):=⟨aH.toNat,io⟩;rintro _ M rfl H4;obtain⟨bX,hlen⟩:∃n,out.n=n:=⟨_,rfl⟩;have av:∀(ab:Sl) (A:List Nd) (k:Nat) (N:I),ot kind A->A.length<=19+(i+1)->(∃r,xs A=xs l++r)->rN A k->(∀b∈(En.gr ab A).fp,w.heap.size<=b)->O F0 w N [.row rF 2 out (g8 0 ks)] [.rd ps (h.map bC),.gr ab A,.rd z (bl0.map bC)]->
     pT.S1 ps 4 ab out z (i:Int) (k:Int) N λr E=>zk w kind (min h.length 4) r E/\af w E:=by
    intro ab A k N aN aX aG a9 ap P;dsimp only[pT.S1,ah];refine P.call (r6 (n:=(i:Int)) (w:=N) io io) ?_;rintro _ w6 rfl G;have bJ:=jI i;have ax:a' #[112]++ba (bU (i:Int).toNat)=ba (112::bU i):=by rw[bR];exact bT [112] (bU i)
    refine⟨_,rfl,ov dl (by rw[be,bR];omega),?_⟩;rw[ax];have ho:aK w6 rF 2 out (g8 0 ks):=G.get 0;have bl:=ho.len;rw[C']at bl;refine G.r1 0 Ye (s:=out) (xs:=g8 0 ks) rfl (λZ w7 H7 _ _=>?_) io;have bg:∀aq∈ks++[k],rN A aq:=λaq H=>by
     rcases aP.1 H with H|H
     .obtain ⟨d,a,b⟩:=ao aq H;obtain⟨r,C⟩:=aG;exact⟨d,by rw[C];exact nV a,b⟩
     .rw [cy.1 H];exact a9
    obtain⟨bx,bq⟩:=ac;obtain⟨r2,br⟩:=aG;have:=ih (i+1) ab A Z (ks++[k]) w7 io (by simp[am]) aN aX ⟨bx++r2,by rw[br,bq,cU]⟩ bg ap (by rw[IS,am,Nat.zero_add];exact H7);rw[bm _ io];exact this
   have H:bl0.length - 1 - y / 2%bl0.length<bl0.length:=io
   have ae:bl0[bl0.length - 1 - y / 2%bl0.length]? =some (bl0[bl0.length - 1 - y / 2%bl0.length]'H):=aY H;obtain⟨k,d,bc,bf,az,aA⟩:=aU _ (aD ae);rw[bc]at ae;have bP:=Nat.mod_lt (y / 2) (show 0<bl0.length by omega);have e1:aB .i64 (dV (y:Int) 2)=((y / 2:Nat):Int):=by rw[show dV (y:Int) 2=((y / 2:Nat):Int)from rfl];exact bo _ io
   have e2:eI ((y / 2:Nat):Int) (z.n:Int)=((y / 2%bl0.length:Nat):Int):=by rw[ay];rfl
   have e3:aB .i64 ((z.n:Int) - 1)=((bl0.length - 1:Nat):Int):=by rw[ay,bo _ io];omega
   have e4:aB .i64 (((bl0.length - 1:Nat):Int) - ((y / 2%bl0.length:Nat):Int))=((bl0.length - 1 - y / 2%bl0.length:Nat):Int):=by rw[bo _ io];omega
   have e5:eI (y:Int) 2=((y%2:Nat):Int):=rfl;have aV:bF M z bl0:=H4.getD 2;refine⟨_,rfl,io,?_⟩;rw[e1,e2,e3,e4,e5];refine⟨io,io,aV.cell ae io λp _ F=>⟨_,F,aw (λbQ=>?_) (λbK=>?_)⟩⟩
   .refine H4.nw λN _ P=>?_;have an:(xs l)[k]? =some d:=by obtain⟨r,C⟩:=ac;rw[C];exact nV az
    have bh:bY (k+1) (xs l) k<=400:=by
     obtain⟨r,C⟩:=ac;have bW:(xs e).length=e.length:=by simp[xs]
     rw[C,yN hg.vg.sN (k+1) k io io (k+1) io];exact(W.2.2 k bf).1
    have P:O F0 w N [.row rF 2 out (g8 0 ks),.c M.heap.size [.int .i64 (k:Int)] bz] [.rd ps (h.map bC),.gr q l,.rd z (bl0.map bC)]:=P;have G:=P.freeze 1 (bZ ⟨jj k,⟨some (aa M.heap.size),1,1⟩⟩) rfl (zE (l:=[(k:Int)]) (T:=bz) (P.ob 1 rfl) rfl) (λb D=>by rw[Mo D];simp[En.c,En.ob])
    have G:O F0 w N [.row rF 2 out (g8 0 ks)] [.rd ps (h.map bC),.gr q l,.rd z (bl0.map bC),bZ ⟨jj k,⟨some (aa M.heap.size),1,1⟩⟩]:=G;refine(JJ (d:=⟨jj k,⟨some (aa M.heap.size),1,1⟩⟩) (a8.1 (G.getD 1)) (G.getD 3) (Q.md.ok (by simp[xs];unfold dO;omega)) (Qu k).ok Q.md.kl).mono ?_;rintro _ w6 ⟨⟨Z,rfl,⟨A,bi,G',F'⟩⟩,f6⟩;obtain⟨a0,a1,bA,aI,mm,a4,aJ⟩:=abW Q io an aA bh bi;have H7:=G.ef (.gr Z A) f6 (a8.2 G') (λb D=>by
     rcases F' b D with(B|B)|B
     .exact .inr (.inr ⟨_,aD (i:=1) rfl,B⟩)
     .exact .inr (.inr ⟨_,aD (i:=3) rfl,B⟩)
     .exact .inl B)
    have H7:O F0 w w6 [.row rF 2 out (g8 0 ks)] [.rd ps (h.map bC),.gr Z A,.rd z (bl0.map bC)]:=H7.forget _ gs;have ap:∀b∈(En.gr Z A).fp,w.heap.size<=b:=λb D=>by
     have bv:=H4.fr.size;rcases F' b D with(B|B)|B
     .exact K b B
     .rw [Mo B];exact bv
     .exact bB G.fr.size B
    refine⟨_,_,_,rfl,aw (λ_=>?_) (λB=>absurd a0 B)⟩;have a4:(bb (xs l) (⟨jj k,⟨some (aa M.heap.size),1,1⟩⟩:Nd).x).2.1=(mm:Int):=a4;rw[a4];exact av Z A mm w6 a1 io aI aJ ap H7
   .have an:(xs l)[k]? =some d:=by obtain⟨r,C⟩:=ac;rw[C];exact nV az
    exact av q l k M Q io ⟨[],by rw[cQ]⟩ ⟨d,an,aA⟩ K H4
 exact⟨_,rfl,loop (min h.length 4) 0 q e ⟨none,0,0⟩ [] w2 io rfl aS io ⟨[],by rw[cQ]⟩ (λk hk=>(by cases hk)) K (H2.h8 rF 2)⟩
def abX{kind:Int}{l:List Nd}(d:ot kind l):IC (xs l):=by
 have y:(xs l).length=l.length:=by grind
 refine⟨d.md.vg,λe h=>?_,λe h=>?_,λi q=>?_⟩
 .have:=(d.md.nd e h).u;omega
 .have k:=d.md.nd e h;by_cases j:e.op=33
  .have:=Gl (.inr (k.re j));omega
  .have:=k.tx j;omega
 .have w:=Gi d.md.vg d.md.nd (i+1) i (Nat.lt_succ_self _) q;have x:=d.sz i io;omega
def WA{w:I}{ps:Sl}{h:List Int}(e:bF w ps h){i:Nat}{v:Int}(d:h[i]? =some v)(k:cF v):ai U Nz #[ps.v,.i (i:Int),.i 1048576] w λr q=>r=ad (.i (fC v 1048576))/\af w q:=by
 have y:=bF.len e;have x:=(cL.1 d).1;refine KE.ok (aQ (a2 io) (aQ (a2 io) ⟨io,io,e.cell d io λp _ j=>⟨v,j,(jO v 1048576 w io k).mono ?_⟩⟩))
 grind
def IT(q:Nat×Nat):List V:=[.string (ba (112::bU q.1)),.int .i64 (q.2:Int)]
def Da:Nat->List Nat->List (Nat×Nat)
 |_,[]=>[]
 |i,d::e=>(i,d)::Da (i+1) e
def IQ:∀(ks:List Nat) (i:Nat),g8 i ks=(Da i ks).flatMap IT
 |[],_=>rfl
 |d::ks,i=>by show _::_::g8 (i+1) ks=_;rw[IQ ks (i+1)];rfl
def IV:∀(ks:List Nat) (i j k:Nat),ks[j]? =some k->(Da i ks)[j]? =some (i+j,k)
 |e::ks,i,0,k,d=>by rw[List.getElem?_cons_zero]at d;cases d;rfl
 |e::ks,i,j+1,k,d=>by rw[List.getElem?_cons_succ]at d;have:=IV ks (i+1) j k d;rw[show i+(j+1)=i+1+j by omega];exact this
def mU(d:List Int):Nat->List Nat->List (Nat×Nat)
 |_,[]=>[]
 |i,e::h=>(e,(fC (d.getD i 0) 1048576).toNat)::mU d (i+1) h
def IH(d:List Int):∀(ks:List Nat) (i:Nat),(mU d i ks).length=ks.length
 |[],_=>rfl
 |e::ks,i=>by show(mU d (i+1) ks).length+1=_;rw[IH d ks (i+1),cC]
def II(e:List Int):∀(ks:List Nat) (i:Nat) (a:Nat×Nat),a∈mU e i ks->a.1∈ks
 |h::ks,i,a,d=>by
  rcases aF.1 d with rfl|d
  .grind
  .exact cP _ (II e ks (i+1) a d)
def ad8(n:Nat)(r:List UInt8):nq n r=nq n []++r:=by
 unfold nq
 grind
def X4{kind:Int}{l:List Nd}(h:ot kind l):qW (xs l)=w5 (xs (bN kind)):=by
 obtain⟨r,C⟩:=h.up;have B:∀d∈xs (bN kind),d.op=0:=λd j=>by
  obtain⟨k,z,rfl⟩:=dA.1 j;have y:k∈fX++hO++iD:=by
   unfold bN at z
   grind
  simp only[fX,hO,iD,l3,mM,gE,lV,aF,aZ,a7]at y
  grind
 have D:∀d∈r,d.op≠0:=λd j x=>by
  have A:d∈xs l:=by grind
  have G:=h.vars d A x;have F:=H9 h.md.vg
  grind
 unfold qW w5;rw[C,dK];have q:∀e:List Nx,(∀d∈e,d.op=0)->e.flatMap (λd=>if d.op=0 then pO d else[])=e.flatMap pO:=by
  intro e;induction e with
  |nil=>grind
  |cons d e E=>
   grind
 have w:∀e:List Nx,(∀d∈e,d.op≠0)->e.flatMap (λd=>if d.op=0 then pO d else[])=[]:=by
  intro e;induction e with
  |nil=>grind
  |cons d e E=>
   grind
 rw[q _ B,w _ D,cQ]
def py(kind:Int)(r:Ending):Prop:=∃(l:List Nd) (al:List (Nat×Nat)),r=ad (.string (ba (o5 (xs (bN kind)) (xs l) al)))/\ot kind l/\al.length<=4/\∀a∈al,rN l a.1
def WD{w:I}{ls ps:Sl}{ns e:List Int}(hr:bF w ls ns)(a6:∀ar∈ns,cF ar)(a1:ns.length<=9223372036854775807)(hp:bF w ps e)(aC:∀ar∈e,cF ar)(a9:e.length<=9223372036854775807)(kind:Int):
  ai U Ou #[ls.v,.i kind,ps.v] w λr q=>py kind r/\af w q:=by
 have H0:O F0 w w [] [.rd ps (e.map bC)]:=bM _ (by intro T he;rw[cy.1 he];exact hp)
 refine kR.ok ((WB hr a6 a1 hp aC a9 kind).mono ?_);rintro _ w1 ⟨⟨x,l,out,h,rfl,B,hP,hR,bq,am,aX,bs⟩,f1⟩;have bz:(xs l).length=l.length:=by grind
 have hT:=abX B;have aN:∀N∈xs l,N.tx.size<=64:=λN W=>by
  have hm:=B.md.nd N W;by_cases av:N.op=33
  .have:=Gl (.inr (hm.re av));omega
  .have:=hm.tx av;omega
 have bu:out.n=h.length:=by have:=hR.1;rw[C']at this;omega
 have E:=H0.ef (.gr x l) f1 (a8.2 hP) (λb hb=>.inl (aX b hb));have E:O F0 w w1 [] [.rd ps (e.map bC),.gr x l,.a3 2 out (g8 0 h)]:=⟨E.fr,E.own,λg C=>by
  rcases aP.1 (show g∈[En.rd ps (e.map bC),.gr x l]++[.a3 2 out (g8 0 h)]from C)with C|C
  .exact E.rd g C
  .rw [cy.1 C];exact hR,E.new,E.nd,λg C b hb g' bp _=>by grind⟩
 have hlen:∀k∈h,(eT (k+1) (xs l) k).length<=60150:=λk hk=>by obtain⟨N,W,_⟩:=am k hk;have ay:=(cL.1 W).1;have h1:=Gi B.md.vg B.md.nd (k+1) k (Nat.lt_succ_self _) ay;have h2:=B.sz k io;omega
 refine⟨_,_,rfl,E.call (Wt (a8.1 (E.getD 1)) (by have:=B.len;omega) B.md.vg.val aN) ?_⟩;rintro _ w2 rfl H2;rw[X4 B];have aG:=Ro kind;unfold cT k2 at aG;rw[bG]at aG;refine⟨_,rfl,ov (by rw[be];omega) dl,?_⟩;have e0:∀X:ByteArray,X=ba (Fi++[10])->ba (w5 (xs (bN kind)))++X=ba (k2 (xs (bN kind))++[10]):=λX hX=>by
  rw[hX,bT];unfold k2
  grind
 show kR.S0 ps x out (ba (w5 (xs (bN kind)))++ba (Fi++[10])) w2 λr q=>py kind r/\af w q;rw[e0 _ rfl];obtain⟨full,aU⟩:∃full,o5 (xs (bN kind)) (xs l) (mU e 0 h)=full:=⟨_,rfl⟩;have aS:∀o:List UInt8,full=o->py kind (ad (.string (ba o))):=λo ho=>⟨l,mU e 0 h,by grind,B,by rw[IH];omega,λa ha=>am a.1 (II e h 0 a ha)⟩;have loop:∀(z:List Nat) (i:Nat) (o:List UInt8) (Z:I),(∃p,h=p++z/\p.length=i)->o.length<=1000+70000 *i->o++oz (xs l) i (mU e i z)=full->O F0 w Z [] [.rd ps (e.map bC),.gr x l,.a3 2 out (g8 0 h)]->
   kR.L1 ps x out (ba o) (i:Int) Z λr q=>py kind r/\af w q:=by
  intro z;induction z with
  |nil=>
   intro i o Z ap ho H Q;obtain⟨p,T,a7⟩:=ap;rw[cQ]at T;subst T;refine kR.iH (aQ (a2 io) ⟨aS o (by rw[<-H];exact cQ o),Q.fr⟩)
  |cons k z ih=>
   intro i o Z ap ho H Q;obtain⟨p,T,a7⟩:=ap;have an:h[i]? =some k:=by grind
   have ay:=(cL.1 an).1;have az:=aD an;obtain⟨N,W,_⟩:=am k az;have br:=(cL.1 W).1;have a4:=hlen k az;have aq:∀{w9:I},bh 2 w9 out (g8 0 h)->∀{K:Addr->Prop},(∀y,out.a=some y->w9.cell? ((y.add (i *2)).add 0)=some (.string (ba (112::bU i)))->w9.cell? ((y.add (i *2)).add 1)=some (.int .i64 (k:Int))->K y)->dJ out.a K:=λ{w9} hr {K} hk=>by have C:=IV h 0 i k an;rw[Nat.zero_add]at C;have aH:=hr.2.2;rw[IQ]at aH;exact fN.elem (f:=IT) (sz:=2) (λ_=>rfl) io aH C λy hq F=>hk y hq (F 0 _ rfl) (F 1 _ rfl)
   have ao:e[i]? =some (e[i]'io):=aY io;have aA:=aC _ (aD ao);have aV:e.getD i 0=e[i]'io:=by grind
   have aO:mU e i (k::z)=(k,(fC (e.getD i 0) 1048576).toNat)::mU e (i+1) z:=rfl;rw[aO,aV]at H;generalize e[i]'io=pv at ao aA H;refine kR.iH (aR (a5 io) ⟨io,io,aq (Q.getD 2) λy hq c0 c1=>⟨_,c1,Q.call (Jr hT (k+1) k (Nat.lt_succ_self _) io Z (a8.1 (Q.getD 1))) ?_⟩⟩);rintro _ w4 rfl H4;refine⟨_,rfl,H4.call (WA (H4.getD 0) ao aA) ?_⟩;have bc:=kI pv 1048576 io;generalize fC pv 1048576=aI at bc H;obtain⟨n,rfl⟩:∃n:Nat,aI=(n:Int):=⟨aI.toNat,io⟩;rw[bR]at H;rintro _ ac rfl H5;have en:∀m:Nat,1<=m->m<=100->aB .i64 (dV (n:Int) (m:Int))=((n / m:Nat):Int):=λm h1 h2=>by rw[show dV (n:Int) (m:Int)=((n / m:Nat):Int)from rfl];have aW:=Nat.div_le_self n m;generalize n / m=y at aW ⊢;exact bo _ io
   have e2:=en 2 io io;have ag:=en 10 io io;have aj:=en 30 io io;have m5:∀m:Nat,eI (m:Int) 5=((m%5:Nat):Int):=λm=>rfl;have m3:∀m:Nat,eI (m:Int) 3=((m%3:Nat):Int):=λm=>rfl;have bn:=jI i;have aJ:∀(J:List UInt8) (D:I),J.length<=1000+70000 *i+65000->J++nq (n / 30%5) (oz (xs l) (i+1) (mU e (i+1) z))=full->O F0 w D [] [.rd ps (e.map bC),.gr x l,.a3 2 out (g8 0 h)]->
     kR.S4 ps x out (ba J) (i:Int) (n:Int) D λr q=>py kind r/\af w q:=by
    intro J D bt ax H6;dsimp only[kR.S4,ah];refine H6.nw λM _ A=>?_;have aj:aB .i64 (dV (n:Int) 30)=((n / 30:Nat):Int):=aj;rw[aj,m5];have h5:=Nat.mod_lt (n / 30) (show 0<5 by omega);have go:∀(j:Nat) (t:List UInt8),n / 30%5=j->t.length<=20->nq j []=t->M.cell? ((aa D.heap.size).add (j *1))=some (.string (ba t))->(0:Int)<=((n / 30%5:Nat):Int)/\((n / 30%5:Nat):Int)<((5:Nat):Int)/\dJ (some (aa D.heap.size)) λbl=>∃t79:ByteArray,M.cell? (bl.add (a0 ((n / 30%5:Nat):Int) *1))=some (.string t79)/\
      ¬((((ba J).size+t79.size:Nat):Int)>IntKind.i64.max)/\kR.L1 ps x out (ba J++t79) (aB .i64 ((i:Int)+1)) M λr q=>py kind r/\af w q:=by intro j t Y bg hs F;refine⟨io,io,_,by rw[Y,bR];exact F,ov (by rw[be];omega) (by rw[be];omega),?_⟩;rw[bT,bm _ io];rw[Y,ad8,hs,<-cU]at ax;exact ih (i+1) (J++t) M ⟨p++[k],by rw[T,cU];rfl,by rw[bG];grind⟩ (by grind) ax (A.take 0)
    have aM:n / 30%5=0\/n / 30%5=1\/n / 30%5=2\/n / 30%5=3\/n / 30%5=4:=io
    rcases aM with d|d|d|d|d
    .exact go 0 [] d dl rfl (A.ld 0 0)
    .exact go 1 [40,112,117,115,104,41] d dl rfl (A.ld 0 1)
    .exact go 2 [40,112,111,112,41] d dl rfl (A.ld 0 2)
    .exact go 3 [40,99,104,101,99,107,32,49,48,48,41] d dl rfl (A.ld 0 3)
    .exact go 4 [40,114,101,116,114,97,99,116,32,112,48,41] d dl rfl (A.ld 0 4)
   have ae:∀(t:List UInt8) (D:I),t.length<=60200->o++ur (ak (n / 10%3=2)) (112::bU i) t (nq (n / 30%5) (oz (xs l) (i+1) (mU e (i+1) z)))=full->O F0 w D [] [.rd ps (e.map bC),.gr x l,.a3 2 out (g8 0 h)]->
     kR.S3 ps x out (ba o) (i:Int) (ba t) (n:Int) D λr q=>py kind r/\af w q:=by
    intro t D bg aT H6;dsimp only[kR.S3,ah];refine H6.dr λM A=>⟨io,io,aq (A.getD 2) λq2 bb c0 c1=>⟨_,c0,A.nw λP _ S=>?_⟩⟩;have aK:P.cell? ((q2.add (i *2)).add 0)=some (.string (ba (112::bU i))):=by
     have:=aq (S.getD 2) (K:=λy=>∃q',out.a=some q'/\P.cell? ((q'.add (i *2)).add 0)=some (.string (ba (112::bU i)))) (λy hq c0 _=>⟨y,hq,c0⟩);rw[bb]at this;obtain⟨q',bv,F⟩:=this
     grind
    have ag:aB .i64 (dV (n:Int) 10)=((n / 10:Nat):Int):=ag;rw[ag,m3];have h3:=Nat.mod_lt (n / 10) (show 0<3 by omega);refine⟨aK,io,io,?_⟩;have go:∀(j:Nat) (L:List UInt8),n / 10%3=j->L.length<=20->40::mV (ak (j=2))++[32]=L->P.cell? ((aa M.heap.size).add (j *1))=some (.string (ba L))->dJ (some (aa M.heap.size)) λbk=>∃t61:ByteArray,P.cell? (bk.add (a0 ((n / 10%3:Nat):Int) *1))=some (.string t61)/\
      ¬((((ba o).size+t61.size:Nat):Int)>IntKind.i64.max)/\¬((((ba o++t61).size+(ba (112::bU i)).size:Nat):Int)>IntKind.i64.max)/\¬(((((ba o++t61)++ba (112::bU i)).size+(a' #[32]).size:Nat):Int)>IntKind.i64.max)/\¬((((((ba o++t61)++ba (112::bU i))++(a' #[32])).size+(ba t).size:Nat):Int)>IntKind.i64.max)/\¬(((((((ba o++t61)++ba (112::bU i))++(a' #[32]))++ba t).size+(a' #[41,10]).size:Nat):Int)>IntKind.i64.max)/\
      kR.S4 ps x out (((((ba o++t61)++ba (112::bU i))++(a' #[32]))++ba t)++(a' #[41,10])) (i:Int) (n:Int) P λr q=>py kind r/\af w q:=by intro j L Y bx hs F;have bi:a' #[32]=ba [32]:=rfl;have bj:a' #[41,10]=ba [41,10]:=rfl;rw[bi,bj];refine⟨_,by rw[Y,bR];exact F,?_⟩;simp only[bT];refine⟨ov (by rw[be];omega) (by rw[be];omega),ov (by rw[be,bG];omega) (by rw[be,cC];omega),ov (by rw[be];simp only[bG,cC];omega) dl,ov (by rw[be];simp only[bG,cC,jm];omega) (by rw[be];omega),ov (by rw[be];simp only[bG,cC,jm];omega) dl,?_⟩;refine aJ (o++L++112::bU i++[32]++t++[41,10]) P (by simp only[bG,cC,jm];omega) ?_ (S.take 0);rw[<-aT,Y,<-hs];unfold ur;simp
    have aL:n / 10%3=0\/n / 10%3=1\/n / 10%3=2:=io
    rcases aL with d|d|d
    .exact go 0 [40,97,115,115,101,114,116,32] d dl rfl (S.ld 0 0)
    .exact go 1 [40,97,115,115,101,114,116,32] d dl rfl (S.ld 0 1)
    .exact go 2 [40,101,100,105,116,32] d dl rfl (S.ld 0 2)
   refine⟨_,rfl,?_⟩;have e2:aB .i64 (dV (n:Int) 2)=((n / 2:Nat):Int):=e2;rw[e2,m5];have bf:=a4;have G:o++ur (ak (n / 10%3=2)) (112::bU i) (rC (n / 2%5) (eT (k+1) (xs l) k)) (nq (n / 30%5) (oz (xs l) (i+1) (mU e (i+1) z)))=full:=H;show kR.S2 ps x out (ba o) (i:Int) (ba (eT (k+1) (xs l) k)) (n:Int) ((n / 2%5:Nat):Int) ac λr q=>py kind r/\af w q;generalize eT (k+1) (xs l) k=t at bf G;dsimp only[kR.S2,ah];have s1:a' #[40,110,110,32]=ba [40,110,110,32]:=rfl;have s2:a' #[41]=ba [41]:=rfl;have s3:a' #[40,97,110,100,32,111,110,101,32]=ba [40,97,110,100,32,111,110,101,32]:=rfl;have h5:=Nat.mod_lt (n / 2) (show 0<5 by omega);generalize n / 2%5=c at h5 G ⊢;have t0:∀b:List UInt8,(ba [40,110,110,32]++ba t)++ba [41]=ba (40::(ji++32::(t++[41]))):=λ_=>by rw[bT,bT];rfl
   have L:(ba [40,97,110,100,32,111,110,101,32]++ba t)++ba [41]=ba (40::([97,110,100]++32::(gX++32::(t++[41])))):=by rw[bT,bT];rfl
   rw[s1,s2,s3];refine aw (λd=>?_) (λh0=>aw (λd=>?_) (λh1=>aw (λd=>?_) (λh2=>?_)))
   .have d:c=0:=io
    subst d;refine⟨ov dl (by rw[be];omega),ov (by rw[ByteArray.size_append,be,be];simp only[cC,jm];omega) dl,?_⟩;rw[t0 []];exact ae _ ac (by unfold ji;simp only[bG,cC,jm];omega) G H5
   .have d:c=1:=io
    subst d;refine⟨ov dl (by rw[be];omega),ov (by rw[ByteArray.size_append,be,be];simp only[cC,jm];omega) dl,?_⟩;rw[L];exact ae _ ac (by unfold gX;simp only[bG,cC,jm];omega) G H5
   .have d:c=2:=io
    subst d;exact ae [40,101,113,32,40,109,109,32,98,32,97,41,32,40,110,117,109,32,50,32,50,41,41] ac dl G H5
   .have ht:rC c t=t:=by unfold rC;rw[ab io,ab io,ab io]
    rw[ht]at G;exact ae t ac io G H5
 dsimp only[kR.S0,ah];refine loop h 0 (k2 (xs (bN kind))++[10]) w2 ⟨[],rfl,rfl⟩ (by unfold k2;grind) ?_ H2;rw[<-aU];unfold o5;simp
namespace KC
abbrev aV:=ah (ay U Tryz.f11 [] [1,4]) [0,1,1,1,3] []
abbrev t1:=aj aV
def aq:=aA t1 Nv []
end KC
def JN{w:I}{a b:Sl}{l:List Int}(z:bF w a l)(A:bF w b l)(K:l.length<=1000):ai U Fq #[a.v,b.v] w λr q=>r=ad (.bool true)/\af w q:=by
 have N:=bF.len z;have nb:=bF.len A;have C:O F0 w w [] [.rd a (l.map bC),.rd b (l.map bC)]:=bM _ (by
  intro J B;simp only[aF,aZ,a7]at B;rcases B with rfl|rfl
  .exact z
  .exact A)
 have loop:∀(m i:Nat) (d:I),i+m=l.length->O F0 w d [] [.rd a (l.map bC),.rd b (l.map bC)]->oH.L0 a b (i:Int) d λr q=>r=ad (.bool true)/\af w q:=by
  intro m;induction m with
  |zero=>intro i d G e;exact oH.b' (aQ (a2 io) ⟨rfl,e.fr⟩)
  |succ m H=>
   intro i d G e;have k:l[i]? =some (l[i]'io):=aY io;generalize l[i]'io=x at k;refine oH.b' (aR (a5 io) (e.dr λy h=>?_));have E:bF y a l:=h.getD 0;have F:bF y b l:=h.getD 1;refine⟨io,io,E.cell k io λp L c=>⟨x,c,io,io,F.cell k io λP M D=>⟨x,D,ct (λj=>absurd rfl j) (λ_=>?_)⟩⟩⟩;rw[bm _ io];exact H (i+1) y io h
 exact oH.ok (ct (λj=>absurd io j) (λ_=>loop l.length 0 w io C))
def Ax:List UInt8:=[40,100,101,99,108,97,114,101,32,97,32,40,98,118,32,56,41,41,40,100,101,102,105,110,101,32,40,109,32,40,120,32,40,98,118,32,56,41,41,41,32,40,97,100,100,32,120,32,120,41,41,40,97,115,115,101,114,116,32,112,32,40,101,113,32,40,109,32,97,41,32,35,120,48,48,41,41]
def vd:List UInt8:=[40,97,115,115,101,114,116,32,112,32,113,41]
def Fb:List Nx:=[⟨0,[],0,0,0,ba [97],aO 8⟩,⟨9,[0,0],0,0,0,ba [],aO 8⟩,⟨1,[],0,0,0,ba [],aO 8⟩,⟨18,[1,2],0,0,0,ba [],aO 1⟩]
def xL:List fh:=[⟨0,[97],aO 8,0,0⟩,⟨1,[112],aX,3,0⟩]
def aap:(match jT Ax with
  |.ok d=>ak (d.s.g=Fb)&&ak (d.cs=xL)
  |.er _ _=>false)=true:=by kernel_rfl
def aar:(match jT vd with
  |.ok _=>false
  |.er d p=>ak (d=6)&&ak (p=10))=true:=by kernel_rfl
def A0(l:List UInt8):Bool:=match tokens l with
 |.ok d=>d.all λt=>ak (t.kind≠5)
 |.bad _ _=>true
def aaq:A0 Ax=true:=by kernel_rfl
def aas:A0 vd=true:=by kernel_rfl
def Ru{l:List UInt8}(e:A0 l=true):∀d,tokens l=.ok d->ow 12 d:=λd h=>by unfold A0 at e;rw[h]at e;exact GJ (yT h) λt k j=>absurd j (e4 (dS.1 e t k))
def WC{w:I}{s t:Sl}{l m:List Nd}(B:GP w s l)(g:GP w t m)(j:xs l=xs m)(G:l.length<=dO)(F:∀d∈l,d.x.kids.length<=dO):
  ai U N' #[s.v,t.v] w λr A=>r=ad (.bool true)/\af w A:=by
 have Q:=gx B;have P:=gx g;have N:l.length=m.length:=by have:=congrArg List.length j;grind
 unfold dO at G;have C:O F0 w w [] [.gr s l,.gr t m]:=bM _ (by
  intro d j;simp only[aF,aZ,a7]at j;rcases j with rfl|rfl
  .exact a8.2 B
  .exact a8.2 g)
 have loop:∀(k i:Nat) (q:I),i+k=l.length->O F0 w q [] [.gr s l,.gr t m]->xl.L0 s t (i:Int) q λr A=>r=ad (.bool true)/\af w A:=by
  intro k;induction k with
  |zero=>
   intro i q E y;exact xl.b' (aQ (a2 io) ⟨rfl,y.fr⟩)
  |succ k J=>
   intro i q E y;have h:l[i]? =some (l[i]'io):=aY io;have z:m[i]? =some (m[i]'io):=aY io;generalize l[i]'io=a at h;generalize m[i]'io=b at z;have M:a.x=b.x:=by
    have L:=og h
    grind
   refine xl.b' (aR (a5 io) (y.dr λY e=>eh (a8.1 (e.getD 0)) rfl h λp S c=>?_));refine⟨a.x.op,a.ks,a.x.n,a.x.m,a.x.u,a.x.tx,a.x.st.k,a.x.st.n,a.x.st.x,c.c0,c.c1,c.c2,c.c3,c.c4,c.c5,c.c6,c.c7,c.c8,eh (a8.1 (e.getD 1)) rfl z λW T d=>?_⟩;refine⟨b.x.op,b.ks,b.x.n,b.x.m,b.x.u,b.x.tx,b.x.st.k,b.x.st.n,b.x.st.x,d.c0,d.c1,d.c2,d.c3,d.c4,d.c5,d.c6,d.c7,d.c8,?_⟩;refine e.call (Jp ((a8.1 (e.getD 0)).2 a (aD h)) ((a8.1 (e.getD 1)).2 b (aD z)) (F a (aD h))) ?_;rintro _ K rfl D;refine⟨_,rfl,aQ (by grind) ?_⟩;rw[bm _ io];exact J (i+1) K io D
 refine xl.ok (ct (λH=>absurd io H) (λ_=>loop l.length 0 w io C))
structure Cv(w:I)(p:Addr)(i:Nat)(c:fh):Prop where
 c0:w.cell? ((p.add (i *7)).add 0)=some (.i c.k)
 c1:w.cell? ((p.add (i *7)).add 1)=some (.string (ba c.nm))
 c5:w.cell? ((p.add (i *7)).add 5)=some (.i c.nd)
def pK{w:I}{s:Sl}{l:List fh}(d:bh 7 w s (cZ l)):s.n=l.length:=by have:=d.1;rw[zQ]at this;omega
def wX{w:I}{s:Sl}{l:List fh}(e:bh 7 w s (cZ l)){i:Nat}{c:fh}(hi:l[i]? =some c){K:Addr->Prop}(h:∀p,s.a=some p->Cv w p i c->K p):i<s.n/\dJ s.a K:=by have q:=pK e;have k:=(cL.1 hi).1;exact⟨io,fN.elem (f:=pJ) (sz:=7) (λ_=>rfl) io e.2.2 hi λp j d=>h p j ⟨d 0 _ rfl,d 1 _ rfl,d 5 _ rfl⟩⟩
def XN{w:I}{s:Sl}{l:List fh}(q:bh 7 w s (cZ l)){i:Nat}{c:fh}(hi:l[i]? =some c){p:Addr}(y:s.a=some p):Cv w p i c:=by have h:=(wX q hi (K:=λe=>∃j,s.a=some j/\Cv w j i c) λe d x=>⟨e,d,x⟩).2;rw[y]at h;obtain⟨e,d,k⟩:=h;cases d;exact k
def ko(g:Sl)(l:List Nd)(c:Sl)(cs:List fh):En:=.all [.gr g l,.a3 7 c (cZ cs)]
def kp{w:I}{g:Sl}{l:List Nd}{c:Sl}{cs:List fh}(d:(ko g l c cs).P w):GP w g l/\bh 7 w c (cZ cs):=⟨a8.1 (d (.gr g l) gs),d (.a3 7 c (cZ cs)) gs⟩
def Rr{w0 w:I}{L D:List En}(H:O F0 w0 w L D)(k:db∈D){s:ByteArray}(A:s.size<=1000000)(z:∀j,tokens (bl s)=.ok j->ow 12 j){y:bJ}(B:jT (bl s)=.ok y):
  ai U xY #[.string s] w λr q=>∃(g:Sl) (l:List Nd) (c:Sl),r=ad (.tuple #[.agg #[g.v,c.v],.i 0,.i 0])/\xs l=y.s.g/\O F0 w0 q L (D++[ko g l c y.cs]):=by
 refine(Ds (H.rd _ k) A z).mono λr q h=>?_;rw[B]at h;obtain⟨⟨g,l,c,rfl,C,E,F,G,J⟩,f⟩:=h;refine⟨g,l,c,rfl,E,H.ef _ f (λx e=>?_) (λb d=>?_)⟩
 .simp only[aF,aZ,a7]at e;rcases e with rfl|rfl
  .exact a8.2 C
  .exact F.a3
 .have d:=aW.1 d;obtain⟨x,e,d⟩:=ck.1 d;simp only[aF,aZ,a7]at e;rcases e with rfl|rfl
  .exact (G b d).imp id λh=>.inr ⟨_,k,h⟩
  .exact .inl (o1 J b d)
def W4{w:I}(hk:db.P w):ai U Nv #[] w λr w'=>r=ad (.bool true)/\af w w':=by
 have G:O F0 w w [] [db]:=bM _ (by intro y he;rw[cy.1 he];exact hk);have z:=aap;cases Q:jT Ax with
 |er y p=>rw[Q]at z;cases z
 |ok aG=>
  rw[Q]at z;simp only[bd,decide_eq_true_eq]at z;obtain⟨hg,hc⟩:=z;have B:=aar;cases S:jT vd with
  |ok aH=>rw[S]at B;cases B
  |er y p=>
   rw[S]at B;simp only[bd,decide_eq_true_eq]at B;obtain⟨rfl,rfl⟩:=B;refine KC.aq ((Rr G gs (s:=ba Ax) dl (Ru aaq) Q).mono ?_);rintro _ w1 ⟨g,l,c,rfl,N,k⟩;rw[hc]at k;rw[hg]at N;have k:O F0 w w1 [] [db,ko g l c xL]:=k;have ay:l.length=4:=by have:=congrArg List.length N;simpa[xs,Fb]using this
   have W:∀(i:Nat) (d:Nx),Fb[i]? =some d->∃y:Nd,l[i]? =some y/\y.x=d:=λi d C=>by rw[<-N]at C;have C:(l.map Nd.x)[i]? =some d:=C;rw[List.getElem?_map]at C;exact Option.map_eq_some_iff.1 C
   obtain⟨E,ah,x1⟩:=W 1 _ rfl;obtain⟨d2,aw,x2⟩:=W 2 _ rfl;obtain⟨F,aj,x3⟩:=W 3 _ rfl;have RC:∀{w':I} {L:List En},O F0 w w' L [db,ko g l c xL]->GP w' g l/\bh 7 w' c (cZ xL):=λG=>kp (G.getD 1);have az:c.n=2:=pK (RC k).2;have aA:g.n=4:=by rw[gx (RC k).1,ay]
   refine⟨g,c,_,_,rfl,k.ax λb1 w2 H2=>H2.ae λw3 Z=>?_⟩;refine Z.av (A:=λr _=>r=ad (.tuple #[.agg #[.slice none 0 0,.slice none 0 0],.i ((10:Nat):Int),.i 6])) ((Ds (s:=ba vd) (Z.getD 0) dl (Ru aas)).mono λr w' h=>by rw[show bl (ba vd)=vd from rfl,S]at h;exact h) ?_
   rintro _ w4 rfl H4;refine⟨⟨none,0,0⟩,⟨none,0,0⟩,_,_,rfl,H4.ax λb4 w5 D=>?_⟩;refine ct (λh=>absurd rfl h) (λ_=>ct (λh=>absurd rfl h) (λ_=>ct (λh=>absurd rfl h) (λ_=>ct (λh=>absurd rfl h) (λ_=>ct (λh=>absurd io h) (λ_=>ct (λh=>absurd io h) (λ_=>?_))))));have D:O F0 w w5 [.g b1,.g b4] [db,ko g l c xL]:=D;have an:=RC D;refine⟨io,io,(wX an.2 (i:=0) rfl λp j _=>D.ae λw6 H6=>?_).2⟩;have q:=RC H6;refine⟨_,(XN q.2 (i:=0) rfl j).c0,aR rfl ⟨io,io,(wX q.2 (i:=0) rfl λp j e=>⟨_,e.c1,eA (a:=[97]) (b:=[97]) (λ_=>?_) (λh=>absurd rfl h)⟩).2⟩⟩;refine⟨io,io,(wX q.2 (i:=1) rfl λp j e=>⟨_,e.c0,aR rfl ⟨io,io,(wX q.2 (i:=1) rfl λp j e=>⟨_,e.c5,aR rfl ?_⟩).2⟩⟩).2⟩;obtain⟨a1,a2,a3⟩:=eh q.1 (X:=1) (i:=1) rfl ah (K:=λp=>p=p/\Nd.ik w6 p (a0 1) E) λp j e=>⟨rfl,e⟩;refine⟨a1,a2,rm a3 λp e=>⟨_,e.2.c0,aR (by rw[x1];rfl) ⟨a1,a2,rm a3 λp e=>⟨_,e.2.c1,H6.nw λw7 s7 H=>?_⟩⟩⟩⟩;have P7:=RC H;have n1:bF w7 E.ks [0,0]:=by
    have:=P7.1.2 E (aD ah);have M:E.x.kids=[0,0]:=by rw[x1]
    rw[<-M];exact this
   refine H.av (JN (b:=⟨some (aa w6.heap.size),2,2⟩) n1 (qR (T:=bz) (H.ob 2) rfl) dl) ?_;rintro _ Y rfl H8;have P8:=RC H8;obtain⟨ab,ac,ag⟩:=eh P8.1 (X:=2) (i:=2) rfl aw (K:=λp=>p=p/\Nd.ik Y p (a0 2) d2) λp j e=>⟨rfl,e⟩;obtain⟨ao,ap,ar⟩:=eh P8.1 (X:=3) (i:=3) rfl aj (K:=λp=>p=p/\Nd.ik Y p (a0 3) F) λp j e=>⟨rfl,e⟩;refine⟨_,rfl,aR rfl ⟨ab,ac,rm ag λp e=>⟨_,e.2.c0,aR (by rw[x2];rfl) ⟨ab,ac,rm ag λp e=>⟨_,by rw[add_add];exact e.2.c7,aR (by rw[x2];rfl) ⟨ao,ap,rm ar λp e=>⟨_,e.2.c1,H8.nw λw9 s9 J=>?_⟩⟩⟩⟩⟩⟩⟩;have P9:=RC J;have n3:bF w9 F.ks [1,2]:=by
    have:=P9.1.2 F (aD aj);have M:F.x.kids=[1,2]:=by rw[x3]
    rw[<-M];exact this
   refine J.av (JN (b:=⟨some (aa Y.heap.size),2,2⟩) n3 (qR (T:=bz) (J.ob 3) rfl) dl) ?_;rintro _ aC rfl am;exact⟨_,rfl,rfl,am.fr⟩
namespace xn
def L0:=bq (ay U Tryz.f8 [(6,lr 9)] []) [0,1,1,1,2] [(0,.s),(1,.s),(5,.I)]
abbrev t1:=bp L0
def b':=bE t1 L0
def ok:=aA t1 Ot [.s,.s]
end xn
namespace xa
def L0:=bq (ay U Tryz.f9 [(5,lr 30)] []) [0,1,1,1,2] [(0,.s),(3,.s),(4,.I)]
abbrev t1:=bp L0
def b':=bE t1 L0
def ok:=aA t1 Nw [.s]
end xa
namespace sC
abbrev P0:Ps:=[]
abbrev aV:=ah (ay U Tryz.f3 [(15,ls [0,1,3,4,5,6,7,8,2,9,10,11,12,13,14,15,16,17,18,19,20,21,22,23,24,25,26,27,28])] [8,11,15,16]) [0,1,1,1,4] P0
abbrev t1:=aj aV
abbrev P1:Ps:=[(8,.l [.s,.s] UJ),(11,.l [.s,.s] UJ),(14,.I)]
def cq:=bq t1 [0,1,1,1,5] P1
abbrev t2:=bp cq
abbrev bH:=ah t2 [0,1,1,1,1,2,1,2,1,1,5] P0
abbrev t3:=aj bH
abbrev cG:=ah t3 [0,1,4,2,1,2,1,1,5] P0
abbrev t4:=aj cG
abbrev fB:=ah t4 [2,2,1,1,5] P1
abbrev t5:=aj fB
def dF:=bE t5 cq
def aq:=aA t5 Fo [.s,.I,.s]
end sC
def Yi:fO U aeS tK (.agg #[.int .i64 0,.string (a' #[]),.int .i64 0,.int .i64 0,.int .i64 0,.int .i64 0,.int .i64 0]) 7 64:=⟨by kernel_rfl,by kernel_rfl,rfl,dl,dl⟩
structure Vk(w:I)(p:Addr)(i:Nat)(c:fh):Prop where
 c0:w.cell? ((p.add (i *7)).add 0)=some (.i c.k)
 c1:w.cell? ((p.add (i *7)).add 1)=some (.string (ba c.nm))
 c2:w.cell? ((p.add (i *7)).add 2)=some (.i c.st.k)
 c3:w.cell? ((p.add (i *7)).add 3)=some (.i c.st.n)
 c4:w.cell? ((p.add (i *7)).add 4)=some (.i c.st.x)
 c5:w.cell? ((p.add (i *7)).add 5)=some (.i c.nd)
 c6:w.cell? ((p.add (i *7)).add 6)=some (.i c.n)
def qV{w:I}{s:Sl}{l:List fh}(e:bh 7 w s (cZ l)){i:Nat}{c:fh}(hi:l[i]? =some c){K:Addr->Prop}(h:∀p,s.a=some p->Vk w p i c->K p):dJ s.a K:=by have q:=pK e;have k:=(cL.1 hi).1;exact fN.elem (f:=pJ) (sz:=7) (λ_=>rfl) io e.2.2 hi λp j d=>h p j ⟨d 0 _ rfl,d 1 _ rfl,d 2 _ rfl,d 3 _ rfl,d 4 _ rfl,d 5 _ rfl,d 6 _ rfl⟩
def JG{w:I}{s:Sl}{cs:List fh}(D:bh 7 w s (cZ cs))(Q:cs.length<=100000):
  ai U Nw #[s.v] w λr y=>(∃t:Sl,r=ad t.v/\aK y tK 7 t (cZ cs)/\∀b∈aG t,w.heap.size<=b)/\af w y:=by
 have S:=pK D;have F:O F0 w w [] [.a3 7 s (cZ cs)]:=bM _ (by intro C J;rw[cy.1 J];exact D)
 have loop:∀(m i:Nat) (out:Sl) (j:I),i+m=cs.length->O F0 w j [.row tK 7 out (cZ (cs.take i))] [.a3 7 s (cZ cs)]->
   xa.L0 s out (i:Int) j λr y=>(∃t:Sl,r=ad t.v/\aK y tK 7 t (cZ cs)/\∀b∈aG t,w.heap.size<=b)/\af w y:=by
  intro m;induction m with
  |zero=>
   intro i out j K e;have z:aK j tK 7 out (cZ (cs.take i)):=e.get 0;rw[List.take_of_length_le io]at z;exact xa.b' (aQ (a2 io) ⟨⟨out,rfl,z,λb H=>(e.new _ (aD (i:=0) rfl) b H).resolve_right id⟩,e.fr⟩)
  |succ m M=>
   intro i out j K e;have h:cs[i]? =some (cs[i]'io):=aY io;have E:cs.take (i+1)=cs.take i++[cs[i]'io]:=List.take_succ_eq_append_getElem io;generalize cs[i]'io=c at h E;have z:aK j tK 7 out (cZ (cs.take i)):=e.get 0;have L:=z.len;rw[zQ,jW]at L;refine xa.b' (aR (a5 io) (e.dr λN B=>?_));have q:bh 7 N s (cZ cs):=B.getD 0;refine⟨io,io,qV q h λp A d=>⟨_,d.c0,io,io,qV q h λp A d=>⟨_,d.c1,io,io,qV q h λp A d=>⟨c.st.k,c.st.n,c.st.x,by rw[add_add];exact d.c2,by rw[add_add];exact d.c3,by rw[add_add];exact d.c4,io,io,qV q h λp A d=>⟨_,d.c5,io,io,qV q h λp A d=>⟨_,d.c6,?_⟩⟩⟩⟩⟩⟩;refine B.r1 0 Yi (s:=out) rfl (λt P G _ _=>?_) io;have C:cZ (cs.take (i+1))=cZ (cs.take i)++pJ c:=by
    rw[E];unfold cZ
    grind
   rw[bm _ io];exact M (i+1) t P io (by rw[C];exact G)
 exact xa.ok (loop cs.length 0 ⟨none,0,0⟩ w io (F.h8 tK 7))
def Xh{w:I}{a b:Sl}{cs:List fh}(x:bh 7 w a (cZ cs))(y:bh 7 w b (cZ cs))(H:cs.length<=100000):
  ai U Ot #[a.v,b.v] w λr q=>r=ad (.bool true)/\af w q:=by
 have J:=pK x;have nb:=pK y;have A:O F0 w w [] [.a3 7 a (cZ cs),.a3 7 b (cZ cs)]:=bM _ (by
  intro G z;simp only[aF,aZ,a7]at z;rcases z with rfl|rfl
  .exact x
  .exact y)
 have loop:∀(m i:Nat) (e:I),i+m=cs.length->O F0 w e [] [.a3 7 a (cZ cs),.a3 7 b (cZ cs)]->xn.L0 a b (i:Int) e λr q=>r=ad (.bool true)/\af w q:=by
  intro m;induction m with
  |zero=>intro i e C h;exact xn.b' (aQ (a2 io) ⟨rfl,h.fr⟩)
  |succ m E=>
   intro i e C h;have k:cs[i]? =some (cs[i]'io):=aY io;generalize cs[i]'io=c at k;refine xn.b' (aR (a5 io) (h.dr λF j=>⟨io,io,qV (j.getD 0) k λp D d=>⟨_,_,_,_,_,_,_,d.c0,d.c1,d.c2,d.c3,d.c4,d.c5,d.c6,io,io,qV (j.getD 1) k λp D r=>⟨_,_,_,_,_,_,_,r.c0,r.c1,r.c2,r.c3,r.c4,r.c5,r.c6,aQ gs ?_⟩⟩⟩));rw[bm _ io];exact E (i+1) F io j
 exact xn.ok (ct (λB=>absurd io B) (λ_=>loop cs.length 0 w io A))
def XO{T:List aI}{x y:bJ}(e:kL T x=.ok y):y.cs.length<=x.cs.length+1:=by
 have fin:∀{c:fh} {x1:bJ},((bL T 1 x1.s).s x1 λ_ x=>.ok {x with cs:=x.cs++[c]})=.ok y->x1.cs=x.cs->y.cs.length<=x.cs.length+1:=λ{c x1} e h=>by
  obtain⟨_,j,_,e⟩:=df e
  grind
 obtain⟨k,d,_,e⟩:=df e;dsimp only at e;split at e
 .unfold pP at e;obtain⟨_,_,_,e⟩:=df e;obtain⟨_,_,_,e⟩:=df e;obtain⟨_,_,_,e⟩:=df e;obtain⟨_,_,_,e⟩:=df e
  grind
 split at e
 .unfold pQ at e;obtain⟨_,_,_,e⟩:=df e;obtain⟨_,_,_,e⟩:=df e;split at e
  .cases e
  obtain⟨_,_,_,e⟩:=df e;obtain⟨_,_,_,e⟩:=df e;obtain⟨_,_,_,e⟩:=df e
  grind
 split at e
 .obtain ⟨_,_,_,e⟩:=df e;obtain⟨_,_,_,e⟩:=df e;exact fin e rfl
 split at e
 .obtain ⟨_,_,_,e⟩:=df e;exact fin e rfl
 split at e
 .exact fin (x1:={x with s:=d}) e rfl
 split at e
 .exact fin (x1:={x with s:=d}) e rfl
 split at e
 .obtain ⟨_,_,_,e⟩:=df e;split at e
  .cases e
  .exact fin e rfl
 grind
def Ta{T:List aI}:∀(f:Nat) (x y:bJ),hM T f x=.ok y->y.cs.length<=x.cs.length+f
 |0,_,_,d=>by cases d
 |f+1,x,y,d=>by
  unfold hM at d;dsimp only at d;split at d
  .grind
  split at d
  .cases e:kL T {x with s:=cH (aL T x.s.p) x.s}with
   |er a b=>rw[e]at d;cases d
   |ok h=>
    rw[e]at d;have j:=XO e;have k:=Ta f h y d
    grind
  grind
def aaD{l:List UInt8}{y:bJ}(d:jT l=.ok y)(w:l.length<=70000):y.cs.length<=100000:=by
 unfold jT at d;cases e:tokens l with
 |bad a j=>grind
 |ok h=>
  rw[e]at d;have k:=Ta _ _ _ d;have q:=(MH (xI e).1).1
  grind
def YF{kind:Int}{g:List Nx}{al:List (Nat×Nat)}{t:List UInt8}(d:(5,t)∈jr (xs (bN kind)) g al):∃a∈al,(5,t)∈dM (a.1+1) g a.1:=by
 have k:∀e:aM,(5,t)∉ej e:=λe d=>by
  unfold ej at d
  grind
 unfold jr lS at d;rcases aP.1 d with d|d
 .rcases aP.1 d with d|d
  .unfold kM at d;obtain⟨j,_,d⟩:=ck.1 d;unfold kN at d
   grind
  .exact absurd d (by
    have:sT.all (λh=>ak (h.1≠5))=true:=dl
    grind)
 .have:∀(al:List (Nat×Nat)) (i:Nat),(5,t)∈l8 g i al->∃a∈al,(5,t)∈dM (a.1+1) g a.1:=by
   intro al;induction al with
   |nil=>intro i d;cases d
   |cons a al q=>
    intro i d;unfold l8 at d;rcases aP.1 d with d|d
    .refine ⟨a,hJ,?_⟩;unfold i7 at d;generalize a.2 / 2%5=n at d;have d:(5,t)∈nA n (dM (a.1+1) g a.1):=by grind
     unfold nA hZ at d;split at d
     .grind
     split at d
     .grind
     split at d
     .simp at d
     omega
    .rcases aP.1 d with d|d
     .unfold qy at d
      grind
     grind
  grind
def aaF{kind:Int}{l:List Nd}(d:ot kind l){al:List (Nat×Nat)}(z:al.length<=4)(y:∀a∈al,rN l a.1):
  ∃n j,n<=(jr (xs (bN kind)) (xs l) al).length/\(∀h,ou (xs (bN kind)) h->cY h n (jr (xs (bN kind)) (xs l) al) dT j)/\oi (ou (xs (bN kind))) (xs (bN kind)) (xs l) j 1720:=by
 have B:(xs l).length=l.length:=by grind
 have w:(xs (bN kind)).length<=10:=by
  unfold bN;repeat' split
  all_goals decide
 refine adt (Rq kind) (TO kind) w d.md.vg (λe A=>?_) (by have:=d.len;omega) d.vars z λa x=>?_
 .have:=(d.md.nd e A).u;omega
 .obtain ⟨e,k,q⟩:=y a x;exact⟨e,k,q,d.sz _ (by grind)⟩
def ab3{w0 w:I}{L D:List En}(H:O F0 w0 w L D)(z:db∈D){s:ByteArray}(A:s.size<=1000000)(x:∀h,tokens (bl s)=.ok h->ow 12 h){y:bJ}(B:jT (bl s)=.ok y){bs:List Nat}{K:aC}(q:∀(g:Sl) (l:List Nd) (c:Sl) (w':I),xs l=y.s.g->O F0 w0 w' L (D++[ko g l c y.cs])->K (ad (.tuple #[.agg #[g.v,c.v],.i 0,.i 0])) w'):fF bs U xY #[.string s] w K:=by
 refine kK ((Ds (H.rd _ z) A x).mono λr w' j=>?_);rw[B]at j;obtain⟨⟨g,l,c,rfl,C,E,F,J,G⟩,f⟩:=j;refine⟨f,q g l c w' E (H.ef _ f (λk e=>?_) (λb d=>?_))⟩
 .simp only[aF,aZ,a7]at e;rcases e with rfl|rfl
  .exact a8.2 C
  .exact F.a3
 .have d:=aW.1 d;obtain⟨k,e,d⟩:=ck.1 d;simp only[aF,aZ,a7]at e;rcases e with rfl|rfl
  .grind
  .exact .inl (o1 G b d)
def ZH{g:List Nx}(j:Vg g){d:Nx}(hd:d∈g):d.kids.length<=3:=by obtain⟨i,h⟩:=iB.1 hd;have e:=(j.ry i d h).kl;unfold b5 at e;omega
def B'{a b:Nat}(e:a<256)(h:b<256)(d:cX a=cX b):a=b:=by have:=congrArg UInt8.toNat d;simp at this;omega
def zZ:∀(n m:Nat) (r s:List UInt8),iO n++r=iO m++s->n=m/\r=s:=by
 intro n;induction n using Nat.strongRecOn with
 |_ n k=>
  intro m r s d;by_cases h:n<128<;>by_cases e:m<128
  .rw [qY h,qY e]at d;simp only[gE,lV,List.cons.injEq]at d;exact⟨B' io io d.1,d.2⟩
  .rw [qY h,sB e]at d;simp only[gE,lV,List.cons.injEq]at d;have:=B' io io d.1;omega
  .rw [sB h,qY e]at d;simp only[gE,lV,List.cons.injEq]at d;have:=B' io io d.1;omega
  .rw [sB h,sB e]at d;simp only[gE,List.cons.injEq]at d;have q:=B' io io d.1;have j:=k (n / 128) io _ _ _ d.2;exact⟨io,j.2⟩
def afl{a b:Int}(d:zz a=zz b):a=b:=by unfold zz at d;split at d<;>split at d<;>omega
def sA{n m:Int}{r s:List UInt8}(d:kO n++r=kO m++s):n=m/\r=s:=by have:=zZ _ _ _ _ d;exact⟨afl this.1,this.2⟩
def Lz:∀{a b:List Int} {r s:List UInt8},a.length=b.length->a.flatMap kO++r=b.flatMap kO++s->a=b/\r=s
 |[],[],_,_,_,e=>⟨rfl,e⟩
 |[],_::_,_,_,d,_=>by simp at d
 |_::_,[],_,_,d,_=>by simp at d
 |w::a,x::b,r,s,d,e=>by simp only[dz,cU]at e;obtain⟨h,j⟩:=sA e;obtain⟨k,q⟩:=Lz (a:=a) (b:=b) (by simpa using d) j;exact⟨by rw[h,k],q⟩
def Yo{a b:List Int}{r s:List UInt8}(d:oF a++r=oF b++s):a=b/\r=s:=by unfold oF at d;simp only[cU]at d;obtain⟨e,h⟩:=zZ _ _ _ _ d;exact Lz e h
def Yp{a b r s:List UInt8}(d:qX a++r=qX b++s):a=b/\r=s:=by unfold qX at d;simp only[cU]at d;obtain⟨e,h⟩:=zZ _ _ _ _ d;exact List.append_inj h e
def abd{n m:Nx}(hn:0<=n.u)(Z:0<=m.u)(d:qj n=qj m):n=m:=by
 unfold qj at d;obtain⟨e,d⟩:=sA d;obtain⟨h,d⟩:=Yo d;obtain⟨j,d⟩:=sA d;obtain⟨k,d⟩:=sA d;obtain⟨B,d⟩:=zZ _ _ _ _ d;obtain⟨q,d⟩:=Yp d;obtain⟨w,d⟩:=sA d;obtain⟨x,d⟩:=sA d;have y:=(sA (r:=[]) (s:=[]) (by simpa using d)).1;have z:n.u=m.u:=io
 have A:n.tx=m.tx:=by
  have:=congrArg ba q
  rwa[j8,j8]at this
 obtain⟨C,D,E,F,G,H,⟨J,K,L⟩⟩:=n;obtain⟨M,N,O,P,Q,S,⟨T,W,Y⟩⟩:=m;simp only at e h j k z A w x y;clear B q;subst e h j k z A w x y;rfl
def lL(n:Nx):ByteArray:=ba (qj n)
def ZJ{n m:Nx}(h:0<=n.u)(e:0<=m.u)(d:lL n=lL m):n=m:=by
 refine abd h e ?_;have:=congrArg bl d;unfold lL at this
 rwa[j9,j9]at this
def jU:List Nx->Nat->List (ByteArray×V)
 |[],_=>[]
 |d::g,i=>(lL d,.i (i:Int))::jU g (i+1)
def Rm(n:Nx):∀(g:List Nx) (i:Nat),jU (g++[n]) i=jU g i++[(lL n,.i ((i+g.length:Nat):Int))]
 |[],i=>by simp[jU]
 |d::g,i=>by have:=Rm n g (i+1);simp only[gE,jU,this,cC];rw[show i+1+g.length=i+(g.length+1)by omega]
def GI{n:Nx}(q:0<=n.u):∀{g:List Nx} {i:Nat},(∀d∈g,0<=d.u)->hl (jU g i) (lL n)=(fo n g i).map λk:Nat=>.i (k:Int)
 |[],i,_=>rfl
 |d::g,i,j=>by
  have w:=GI q (g:=g) (i:=i+1) λe x=>j e (by simp[x]);unfold hl at w ⊢;unfold jU fo;by_cases h:d=n
  .subst h;simp
  .have y:¬lL d=lL n:=λe=>h (ZJ (j d gs) q e);rw[ab h,List.find?_cons];simp only[a2 y];exact w
def iZ:List Nx->List (ByteArray×V)
 |[]=>[]
 |d::g=>if d.op=0 then(d.tx,dg d.st)::iZ g else iZ g
def UR(n:Nx):∀(g:List Nx),iZ (g++[n])=iZ g++(if n.op=0 then[(n.tx,dg n.st)]else[])
 |[]=>by unfold iZ;simp only[lV,iZ]
 |d::g=>by have:=UR n g;simp only[gE,iZ,this];split<;>simp
def H7(t:ByteArray):∀(g:List Nx),hl (iZ g) t=(ih g t).map dg
 |[]=>rfl
 |k::g=>by
  have j:=H7 t g;unfold hl at j ⊢;unfold iZ ih;by_cases d:k.op=0
  .rw [ag d,List.find?_cons];by_cases e:k.tx=t
   .rw [ag ⟨d,e⟩];simp[e]
   .rw [ab (λh=>e h.2)];simp only[a2 e];exact j
  .rw [ab d,ab (λh=>d h.1)];exact j
abbrev nE(d:Nat)(s:Sl)(mp mv:Nat)(l:List Nd)(iQ:Array MapEntry)(c1:Nat)(iu:Array MapEntry)(c2:Nat):List En:=
 [.c d [s.v,.map (some mp),.map (some mv)] wj,.row bQ 9 s (l.flatMap Nd.c),.ob mp (.map iQ c1),.ob mv (.map iu c2)]
def iG(w:I)(d:Nat)(l:List Nd)(own:List Nat):Prop:=∃(s:Sl) (mp mv:Nat) (iQ:Array MapEntry) (c1:Nat) (iu:Array MapEntry) (c2:Nat),own=(nE d s mp mv l iQ c1 iu c2).flatMap (·.fp)/\own.Nodup/\(∀e∈nE d s mp mv l iQ c1 iu c2,e.P w)/\dH iQ (jU (xs l) 0)/\dH iu (iZ (xs l))
def tV(w:I)(h:Nat)(own:List Nat)(l:List Nd)(w':I):Prop:=∃d,iG w' h l d/\Fr (·∈own) w w'/\∀e∈d,e∈own\/w.heap.size<=e
def iG.open{w:I}{h:Nat}{l:List Nd}{own:List Nat}(y:iG w h l own)(D:List En)(j:∀d∈D,d.P w/\∀b∈d.fp,b∉own):
  ∃(s:Sl) (mp mv:Nat) (iQ:Array MapEntry) (c1:Nat) (iu:Array MapEntry) (c2:Nat),dH iQ (jU (xs l) 0)/\dH iu (iZ (xs l))/\O (·∈own) w w (nE h s mp mv l iQ c1 iu c2) D:=by
 obtain⟨s,mp,mv,iQ,c1,iu,c2,G,F,B,z,A⟩:=y;have q:∀d∈nE h s mp mv l iQ c1 iu c2,∀b∈d.fp,b∈own:=λd e b k=>by grind
 exact⟨s,mp,mv,iQ,c1,iu,c2,z,A,O.o6 _ _ (λd e=>⟨B d e,q d e⟩) (G▸F) (λd e=>⟨(j d e).1,λb k x C E=>(j d e).2 b k (q x C b E)⟩)⟩
def iG.close{w w':I}{d:Nat}{l:List Nd}{own:List Nat}{s:Sl}{mp mv:Nat}{iQ:Array MapEntry}{c1:Nat}{iu:Array MapEntry}{c2:Nat}{D:List En}(H:O (·∈own) w w' (nE d s mp mv l iQ c1 iu c2) D)(h:dH iQ (jU (xs l) 0))(j:dH iu (iZ (xs l))):tV w d own l w':=
 ⟨_,⟨s,mp,mv,iQ,c1,iu,c2,rfl,H.nd,H.own,h,j⟩,H.fr,λy x=>by obtain⟨e,q,k⟩:=ck.1 x;exact(H.new e q y k).symm⟩
def Na:nN U B7 eH bz (.int .i64 0):=⟨by kernel_rfl,by kernel_rfl,by kernel_rfl⟩
def Nc:nN U aeL eH cd (.agg #[.int .i64 0,.int .i64 0,.int .i64 0]):=⟨by kernel_rfl,by kernel_rfl,by kernel_rfl⟩
def _root_.Go.W.En.cl(p:Addr)(v:V):En:=⟨[p.block],λe=>e.cell? p=some v,λe q j d=>by
 have k:=pH d;unfold World.cell? at d ⊢
 grind,λe d b h=>by simp at h;subst h;exact pH d,gs⟩
def aat{l:List Nd}(t:ByteArray):∃(a b c:Int) (y:Bool),((hl (iZ (xs l)) t).getD (.agg #[.int .i64 0,.int .i64 0,.int .i64 0]))=.agg #[.i a,.i b,.i c]/\(hl (iZ (xs l)) t).isSome=y/\n0 (xs l) t=ad (.tuple #[.agg #[.i a,.i b,.i c],.bool y]):=by
 rw[H7];unfold n0;cases ih (xs l) t with
 |none=>exact⟨0,0,0,false,rfl,rfl,rfl⟩
 |some s=>grind
def V8{w:I}{d:Nat}{l:List Nd}{s:Sl}{mp mv:Nat}{iQ:Array MapEntry}{c1:Nat}{iu:Array MapEntry}{c2:Nat}{j:Addr}(J:∀k∈nE d s mp mv l iQ c1 iu c2,k.P w)(C:dH iu (iZ (xs l)))(D:w.cell? j=some (.pointer (some (aa d))))(t:ByteArray):
  ai U F7 #[.string t,.pointer (some j)] w λr E=>r=n0 (xs l) t/\af w E:=by
 have q:O F0 w w [] (nE d s mp mv l iQ c1 iu c2++[.cl j (.pointer (some (aa d)))]):=bM _ (by
  intro k e;rcases aP.1 e with e|e
  .grind
  .simp only[aF,aZ,a7]at e;subst e;exact D)
 obtain⟨a,b,c,F,z,A,B⟩:=aat (l:=l) t;refine Ui.aq (q.ax λG K h=>⟨_,h.getD 4,Gv ⟨some mv,cellAt (p:=aa d) (h.getD 0) rfl rfl,a,b,c,F,?_,h.ax λH L x=>x.ae λM y=>⟨B.symm,y.fr⟩⟩⟩);rw[sR Nc (h.getD 3) C t,z,A]
def V'{w:I}{j:Nat}{l:List Nd}{own:List Nat}{d:Nd}(N:iG w j l own)(T:∀k∈l,k.P w)(hd:d.P w)(hk:db.P w)(Y:j7 d.x)(W:l.length<=1000000000)(hv:∀k∈xs l,br k.st=true):
  ai U Pw #[.pointer (some (aa j)),d.v] w λr D=>r=gG (bA (xs l) d.x)/\af w D:=by
 obtain⟨s,mp,C,z,q,A,y,_,_,S,_,Q⟩:=N;have Z:aK w bQ 9 s (l.flatMap Nd.c):=S _ (aD (i:=1) rfl);have F:O F0 w w [] (nE j s mp C l z q A y++[.gr s l,bZ d,db]):=bM _ (by
  intro k h;rcases aP.1 h with h|h
  .grind
  .simp only[aF,aZ,a7]at h;rcases h with rfl|rfl|rfl
   .exact a8.2 ⟨Z.a3,T⟩
   .exact hd
   omega)
 refine Uh.aq (F.nw λw1 _ G=>G.ax λb3 w2 H=>H.ax λb4 w3 J=>J.ae λE e=>⟨_,e.cB 0,Gv ⟨s,cellAt (p:=aa j) (e.getD 0) rfl rfl,?_⟩⟩);have M:O F0 E E [] (.gr s l::bZ d::db::(nE j s mp C l z q A y++[.cl (aa w.heap.size) (.pointer (some (aa j)))])):=bM _ (by
  intro k h;simp only[gE,lV,aF,aZ,a7]at h;rcases h with rfl|rfl|rfl|rfl|rfl|rfl|rfl|rfl
  .exact e.getD 4
  .exact e.getD 5
  .exact e.getD 6
  .exact e.getD 0
  .exact e.getD 1
  .exact e.getD 2
  .exact e.getD 3
  .exact e.cB 0)
 refine e.av (T8 ⟨F7,#[],#[.pointer (some (aa w.heap.size))]⟩ M (by kernel_rfl) (λD B=>?_) Y W hv) ?_
 .exact V8 (λk h=>B k (List.mem_append_left _ h)) Q (B (.cl (aa w.heap.size) (.pointer (some (aa j)))) gs) d.x.tx
 .rintro _ w5 rfl K;exact⟨_,_,_,_,rfl,K.ae λw6 L=>⟨rfl,L.fr⟩⟩
def pU(g:List Nx)(n:Nx):Int×Bool:=match fo n g 0 with
 |some i=>((i:Int),true)
 |none=>(0,false)
def find_eq{g:List Nx}{n:Nx}(e:0<=n.u)(h:∀d∈g,0<=d.u):(hl (jU g 0) (lL n)).getD (.int .i64 0)=.i (pU g n).1/\(hl (jU g 0) (lL n)).isSome=(pU g n).2:=by
 rw[GI e h];unfold pU
 grind
def V7{w:I}{e:Nat}{l:List Nd}{own:List Nat}{d:Nd}(G:iG w e l own)(hd:d.P w)(W:pB d.x)(J:∀q∈xs l,0<=q.u):
  ai U Pu #[.pointer (some (aa e)),d.v] w λr L=>r=ad (.tuple #[.i (pU (xs l) d.x).1,.bool (pU (xs l) d.x).2])/\af w L:=by
 obtain⟨s,mp,K,E,A,F,B,_,_,M,H,_⟩:=G;have y:O F0 w w [] (nE e s mp K l E A F B++[bZ d]):=bM _ (by
  intro q h;rcases aP.1 h with h|h
  .grind
  .simp only[aF,aZ,a7]at h;subst h;exact hd)
 refine Ug.ok (y.nw λN _ z=>z.dr λQ j=>⟨some mp,cellAt (p:=aa e) (j.getD 0) rfl rfl,j.call (T7 (d:=d) (ya (j.ob 0)) (j.getD 4) W) ?_⟩);rintro _ S rfl k;obtain⟨C,D⟩:=find_eq W.u.1 J;refine⟨_,rfl,cellAt (p:=aa e) (k.getD 0) rfl rfl,(pU (xs l) d.x).1,(pU (xs l) d.x).2,?_,rfl,k.fr⟩;have:=sR Na (k.getD 2) H (lL d.x);rw[C,D]at this;exact this
def I6{w:I}{y:Nat}{l:List Nd}{own:List Nat}{d:Nd}(an:iG w y l own)(hd:d.P w)(ao:∀b∈(bZ d).fp,b∉own)(W:pB d.x)(hu:∀z∈xs l,0<=z.u)(ay:l.length<=100000)(az:d.x∉xs l)(ar:d.x.op=0->ih (xs l) d.x.tx=none):
  ai U Pv #[.pointer (some (aa y)),d.v] w λr Y=>r=ad (.i (l.length:Int))/\tV w y own (l++[d]) Y:=by
 obtain⟨s,mp,F,ax,K,am,M,h1,h2,ac⟩:=an.open [bZ d] (by intro z he;simp only[aF,aZ,a7]at he;subst he;exact⟨hd,ao⟩)
 have hn:s.n=l.length:=Nd.cz (show bh 9 w s (l.flatMap Nd.c)from(show aK w bQ 9 s (l.flatMap Nd.c)from ac.get 1).a3);have g1:hl (jU (xs l) 0) (lL d.x)=none:=by
  rw[GI W.u.1 hu];cases hi:fo d.x (xs l) 0 with
  |none=>rfl
  |some i=>
   have:=(xE hi).2
   grind
 have af:xs (l++[d])=xs l++[d.x]:=by grind
 have p1:jU (xs (l++[d])) 0=jU (xs l) 0++[(lL d.x,.i (l.length:Int))]:=by rw[af,Rm];grind
 have p2:iZ (xs (l++[d]))=iZ (xs l)++(if d.x.op=0 then[(d.x.tx,dg d.x.st)]else[]):=by rw[af,UR]
 have ae:∀(C:Array MapEntry) (L:Nat) (q:Array MapEntry) (N S:Nat) (H:I),dH C (jU (xs (l++[d])) 0)->dH q (iZ (xs (l++[d])))->O (·∈own) w H (nE y s mp F l C L q N++[.c S d.c bQ]) [bZ d]->
   B0.S0 (aa y) (aa S) H λr Y=>r=ad (.i (l.length:Int))/\tV w y own (l++[d]) Y:=by
  intro C L q N S H G q2 J;dsimp only[B0.S0,ah];refine J.dr λZ e=>⟨s,e.ld 0 0,?_⟩;refine⟨d.x.op,d.ks,d.x.n,d.x.m,d.x.u,d.x.tx,d.x.st.k,d.x.st.n,d.x.st.x,e.ld 4 0,e.ld 4 1,e.ld 4 2,e.ld 4 3,e.ld 4 4,e.ld 4 5,e.ld 4 6,e.ld 4 7,e.ld 4 8,e.nw λw3 _ h=>⟨h.ld 0 0,?_⟩⟩;have aj:bh 9 w3 ⟨some (aa Z.heap.size),1,1⟩ ([d].flatMap Nd.c):=by rw[show[d].flatMap Nd.c=d.c by simp];exact uw (T:=bQ) (h.ob 5) rfl
  refine h.ap 1 nT (src:=⟨some (aa Z.heap.size),1,1⟩) rfl aj.2.2 aj.1 ra (by grind) (λs' w4 A aq _=>A.st 0 0 rfl (λw5 j=>⟨s',j.ld 0 0,?_⟩));refine⟨?_,iG.close (s:=s') (mp:=mp) (mv:=F) (iQ:=C) (c1:=L) (iu:=q) (c2:=N) (D:=[bZ d]) ?_ G q2⟩
  .rw [aq,bo _ (by grind)]
   grind
  .have:=j.take 4
   grind
 refine B0.ok (ac.nw λH _ J=>J.dr λZ e=>⟨some mp,e.ld 0 1,s,e.ld 0 0,e.call (T7 (d:=d) (ya (e.ob 4)) (e.getD 0) W) ?_⟩);rintro _ w3 rfl h;obtain⟨w4,B,u1,u2,u3,u4,_⟩:=rH Na (h.ob 2) h1 (lL d.x) (.i (s.n:Int)) g1;have A:=h.fx 2 (.ob mp (.map B (K+1))) rfl (u4.mono λav _ z=>by simp[En.ob,z]) u2 (λb Q=>.inl Q);have G:dH B (jU (xs (l++[d])) 0):=by rw[p1,<-hn];exact u3
 refine⟨_,rfl,h.ld 0 0,h.ld 0 1,w4,u1,d.x.op,A.ld 4 0,aw (λE=>?_) (λE=>?_)⟩
 .refine A.dr λw5 j=>⟨some F,j.ld 0 2,d.x.tx,j.ld 4 5,?_⟩;have g2:hl (iZ (xs l)) d.x.tx=none:=by rw[H7,ar E];rfl
  obtain⟨w6,q,v1,v2,v3,v4,_⟩:=rH Nc (j.ob 3) h2 d.x.tx (dg d.x.st) g2;have H6:=j.fx 3 (.ob F (.map q (M+1))) rfl (v4.mono λav _ z=>by simp[En.ob,z]) v2 (λb Q=>.inl Q);have a:=ya (d:=d) (j.ob 4);refine⟨d.x.st.k,d.x.st.n,d.x.st.x,a.s0,a.s1,a.s2,w6,v1,ae B (K+1) q (M+1) w.heap.size w6 G ?_ H6⟩;rw[p2,ag E];exact v3
 .refine ae B (K+1) am M w.heap.size w4 G ?_ A;rw[p2,ab E,cQ];exact h2
def iG.st{w w':I}{e:Nat}{l:List Nd}{own:List Nat}(A:iG w e l own)(k:∀b∈own,b<w.heap.size->w'.heap[b]? =w.heap[b]?):iG w' e l own:=by obtain⟨s,mp,H,y,q,z,x,j,G,D,B,C⟩:=A;exact⟨s,mp,H,y,q,z,x,j,G,λd h=>d.st w w' (λb E F=>k b (by rw[j];exact ck.2 ⟨d,h,E⟩) F) (D d h),B,C⟩
def iG.lt{w:I}{h:Nat}{l:List Nd}{own:List Nat}(j:iG w h l own):∀b∈own,b<w.heap.size:=by obtain⟨s,mp,F,A,y,B,z,x,E,k,C,D⟩:=j;intro b d;rw[x]at d;obtain⟨e,q,d⟩:=ck.1 d;exact e.lt w (k e q) b d
def _root_.Go.W.En.bu(j:Nat)(own:List Nat)(l:List Nd):En:=⟨mB own,λh=>iG h j l own,λh q k e=>e.st λb d=>k b (aW.2 d),λh e b d=>e.lt b (aW.1 d),s8 _⟩
def Wm(w:I)(d:Nat)(own:List Nat)(l:List Nd)(b:Nat):¬(En.bu d own l).P ({w with heap:=Array.replicate (b+1) (.map #[] 0)}):=by rintro⟨s,mp,C,q,j,x,k,B,A,h,y,z⟩;have e:=h _ (aD (i:=0) rfl);exact zH w d _ wj b e
section
variable {M:Nat->Prop} {w0 w:I} {L D:List En} {bs:List Nat}
def _root_.Go.W.O.Wl(H:O M w0 w L D)(i:Nat){d:Nat}{own:List Nat}{l h:List Nd}{w':I}(hi:L[i]? =some (.bu d own l))(j:tV w d own h w'):∃e,O M w0 w' (L.set i (.bu d e h)) D/\iG w' d h e:=by obtain⟨e,r,f,o⟩:=j;exact⟨e,H.fx i (.bu d e h) hi (f.mono λx _ q=>aW.2 q) r (λb k=>(o b (aW.1 k)).imp aW.2 id),r⟩
def _root_.Go.W.O.Jh(H:O M w0 w L D)(i:Nat){e:Nat}{own:List Nat}{l k:List Nd}{P:au}{g:FuncId}{args:Array V}{A:Ending->Prop}{K:aC}(hi:L[i]? =some (.bu e own l))(B:ai P g args w λr d=>A r/\tV w e own k d)(C:∀r d h,A r->O M w0 d (L.set i (.bu e h k)) D->K r d)(z:∀b∈bs,En.g b∈L:=by simp):fF bs P g args w K:=
 ⟨(·∈own),λb y E=>xw H hi (Wm w e own l) (z b y) (aW.2 E),B.mono λr d ⟨x,j⟩=>by obtain⟨_,_,f,_⟩:=id j;obtain⟨h,q,_⟩:=H.Wl i hi j;exact⟨f,C r d h x q⟩⟩
end
def iG.nil(w:I):tV w (w.heap.size+2) [] [] ((((w.alloc (.map #[] 0)).alloc (.map #[] 0)).alloc (.cells #[.slice none 0 0,.map (some w.heap.size),.map (some (w.heap.size+1))] wj))):=by
 have k:(w.alloc (.map #[] 0)).heap.size=w.heap.size+1:=size_alloc _ _;have y:((w.alloc (.map #[] 0)).alloc (.map #[] 0)).heap.size=w.heap.size+2:=by rw[size_alloc,k]
 have q:(w.alloc (.map #[] 0)).heap[w.heap.size]? =some (.map #[] 0):=m6 w _;have x:=(Fr.alloc F0 (w.alloc (.map #[] 0)) (.map #[] 0)).at q id;have j:=m6 (w.alloc (.map #[] 0)) (.map #[] 0);rw[k]at j;have d:=Fr.alloc F0 ((w.alloc (.map #[] 0)).alloc (.map #[] 0)) (.cells #[.slice none 0 0,.map (some w.heap.size),.map (some (w.heap.size+1))] wj);have c:=m6 ((w.alloc (.map #[] 0)).alloc (.map #[] 0)) (.cells #[.slice none 0 0,.map (some w.heap.size),.map (some (w.heap.size+1))] wj);rw[y]at c;have f:af w (((w.alloc (.map #[] 0)).alloc (.map #[] 0)).alloc (.cells #[.slice none 0 0,.map (some w.heap.size),.map (some (w.heap.size+1))] wj)):=((Fr.alloc F0 w _).gp (Fr.alloc F0 _ _)).gp d;refine⟨_,⟨⟨none,0,0⟩,w.heap.size,w.heap.size+1,#[],0,#[],0,rfl,?_,λA h=>?_,rfl,rfl⟩,f.A2,λz e=>?_⟩
 .show ([w.heap.size+2]++([]++([w.heap.size]++([w.heap.size+1]++[])))).Nodup;simp
 .simp only[aF,aZ,a7]at h;rcases h with rfl|rfl|rfl|rfl
  .exact c
  .exact aK.nil _ _ _
  .exact d.at x id
  .exact d.at j id
 .have e:z∈[w.heap.size+2]++([]++([w.heap.size]++([w.heap.size+1]++[]))):=e;simp at e;right;omega
def US{g:List Nx}(j:Vg g):∀i e,g[i]? =some e->e∉g.take i:=by
 induction j with
 |nil=>intro i e d;simp at d
 |@snoc g n w x k q=>
  intro i e d;rcases Nat.lt_or_ge i g.length with h|h
  .rw [List.getElem?_append_left h]at d;rw[List.take_append_of_le_length io];exact q i e d
  .rw [List.getElem?_append_right h]at d;have:i - g.length=0:=by have:=(cL.1 d).1;simp at this;omega
   rw[this]at d;simp at d;subst d;rw[show i=g.length by omega,List.take_left];exact k
def UT{g:List Nx}(e:Vg g){i:Nat}{d:Nx}(hd:g[i]? =some d)(w:d.op=0):ih (g.take i) d.tx=none:=by
 cases z:ih (g.take i) d.tx with
 |none=>rfl
 |some s=>
  obtain⟨j,h,k,q,_⟩:=H6 z;obtain⟨A,x⟩:=iB.1 (nh h);have y:=e.vars j (nh h) k d (aD hd) w q;have:=var_eq (e.ry A j x) (e.ry i d hd) k w q y;exact absurd (this▸h) (US e i d hd)
def V9{w:I}{s:Sl}{l:List Nd}(M:GP w s l)(P:Vg (xs l))(N:∀e∈xs l,pB e)(hl:l.length<=100000):
  ai U PF #[.agg #[s.v]] w λr C=>(∃h own,r=ad (.pointer (some (aa h)))/\iG C h l own/\∀z∈own,w.heap.size<=z)/\af w C:=by
 have hn:=gx M;have Q:O F0 w w [] [.gr s l]:=bM _ (by intro K B;simp only[aF,aZ,a7]at B;subst B;exact a8.2 M)
 have loop:∀(m i y h:Nat) (own:List Nat) (j:I),i+m=l.length->O F0 w j [.g y,.bu h own (l.take i)] [.gr s l]->
   yQ.a1 (aa h) s (s.n:Int) (i:Int) j λr C=>(∃h own,r=ad (.pointer (some (aa h)))/\iG C h l own/\∀z∈own,w.heap.size<=z)/\af w C:=by
  intro m;induction m with
  |zero=>
   intro i y h own j Z q;refine yQ.bS (aQ (a2 io) ⟨⟨h,own,rfl,?_,λz J=>(q.new _ (aD (i:=1) rfl) z (aW.2 J)).resolve_right id⟩,q.fr⟩);have:=q.get 1;rw[List.take_of_length_le io]at this;exact this
  |succ m ih=>
   intro i y h own j Z q;have A:l[i]? =some (l[i]'io):=aY io;generalize l[i]'io=e at A;refine yQ.bS (aR (a5 io) (eh (a8.1 (q.getD 0)) rfl A λp hp c=>⟨e.x.op,e.ks,e.x.n,e.x.m,e.x.u,e.x.tx,e.x.st.k,e.x.st.n,e.x.st.x,c.c0,c.c1,c.c2,c.c3,c.c4,c.c5,c.c6,c.c7,c.c8,q.ax λb5 w2 E=>E.ae λw3 D=>?_⟩));have H:=aD A;have L:=og A;have F:xs (l.take i)=(xs l).take i:=by simp[xs,List.map_take]
   have W:l.take (i+1)=l.take i++[e]:=by rw[fJ,A];rfl
   refine D.Jh 1 rfl (I6 (l:=l.take i) (d:=e) (D.get 1) ((a8.1 (D.getD 0)).2 e H) (λb G hm=>D.dj (.gr s l) gs b (q5.2 (.inr ⟨e,H,G⟩)) (.bu h own (l.take i)) gs (aW.2 hm)) (N _ (dA.2 ⟨e,H,rfl⟩)) (λK B=>(N K (by rw[F]at B;exact nh B)).u.1) (by rw[jW];omega) (by rw[F];exact US P i e.x L) (λY=>by rw[F];exact UT P L Y)) ?_;rintro _ w4 ab rfl S;refine⟨_,rfl,?_⟩;rw[bm _ io];refine ih (i+1) y h ab w4 io ?_;rw[W];exact S.take 2
 refine yQ.aq (Q.ax λy j q=>?_);obtain⟨own,r,f,o⟩:=iG.nil j;have E:=(q.fresh (f.mono λz _ J=>by cases J)).own (.bu (j.heap.size+2) own []) r (λb G=>(o b (aW.1 G)).resolve_left gs);have T:((j.alloc (.map #[] 0)).alloc (.map #[] 0)).heap.size=j.heap.size+2:=by rw[size_alloc,size_alloc]
 have:=loop l.length 0 y (j.heap.size+2) own _ io E;have s1:(j.alloc (.map #[] 0)).heap.size=j.heap.size+1:=size_alloc _ _;rw[<-T,<-s1]at this;exact this
def qE:List Nx->List Nx->Int
 |_,[]=>0
 |g,n::r=>if(bA g n).2≠0 then(bA g n).2 else if(bA g n).1≠n.st then 9 else if n∈g then 8 else qE (g++[n]) r
def UU(g:List Nx)(n:Nx)(r:List Nx):qE g (n::r)=if(bA g n).2≠0 then(bA g n).2 else if(bA g n).1≠n.st then 9 else if n∈g then 8 else qE (g++[n]) r:=rfl
def wq(g:List Nx):Int:=if 4096<g.length then 4 else qE [] g
def YE{g:List Nx}{n:Nx}:(pU g n).2=ak (n∈g):=by
 unfold pU;cases d:fo n g 0 with
 |none=>exact(a2 (Ae d)).symm
 |some i=>exact(a5 (aD (xE d).2)).symm
def T5{w:I}{s:Sl}{l:List Nd}(q:GP w s l)(hk:db.P w)(D:l.length<=4096->∀e∈l,j7 e.x/\pB e.x):
  ai U Pq #[.agg #[s.v]] w λr Y=>r=ad (.i (wq (xs l)))/\af w Y:=by
 have hn:=gx q;have ap:(xs l).length=l.length:=by simp[xs]
 have ah:O F0 w w [] [.gr s l,db]:=bM _ (by
  intro J E;simp only[aF,aZ,a7]at E;rcases E with rfl|rfl
  .exact a8.2 q
  .exact hk)
 refine yO.aq (ah.ax λC F y=>aT (λaj=>⟨by unfold wq;rw[ag io],y.fr⟩) (λaj=>?_));have D:=D io;have an:wq (xs l)=qE [] (xs l):=by unfold wq;rw[ab io]
 rw[an];have loop:∀(m i C h:Nat) (own:List Nat) (F:I),i+m=l.length->Vg ((xs l).take i)->qE ((xs l).take i) ((xs l).drop i)=qE [] (xs l)->O F0 w F [.g C,.bu h own (l.take i)] [.gr s l,db]->
   yO.a1 (some (aa h)) s (s.n:Int) (i:Int) F λr Y=>r=ad (.i (qE [] (xs l)))/\af w Y:=by
  intro m;induction m with
  |zero=>
   intro i C h own F hi W j y;refine yO.bS (aQ (a2 io) ⟨?_,y.fr⟩);rw[<-j,dy io];rfl
  |succ m ih=>
   intro i C h own F hi W j y;have L:l[i]? =some (l[i]'io):=aY io;have hx:(xs l).drop i=(l[i]'io).x::(xs l).drop (i+1):=by rw[dw (by omega:i<(xs l).length)];simp[xs]
   generalize l[i]'io=e at L hx;have B:=aD L;have Z:=og L;have K:xs (l.take i)=(xs l).take i:=by simp[xs,List.map_take]
   have es:l.take (i+1)=l.take i++[e]:=by rw[fJ,L];rfl
   have ex:(xs l).take (i+1)=(xs l).take i++[e.x]:=by rw[fJ,Z];rfl
   rw[hx,UU]at j;have hu:∀J∈xs (l.take i),0<=J.u:=λJ E=>by obtain⟨a,ha,rfl⟩:=dA.1 E;exact(D a (nh ha)).2.u.1
   refine yO.bS (aR (a5 io) (eh (a8.1 (y.getD 0)) rfl L λp hp c=>⟨e.x.op,e.ks,e.x.n,e.x.m,e.x.u,e.x.tx,e.x.st.k,e.x.st.n,e.x.st.x,c.c0,c.c1,c.c2,c.c3,c.c4,c.c5,c.c6,c.c7,c.c8,y.ax λb5 w2 Q=>Q.ae λw3 G=>?_⟩));refine G.av (V' (l:=l.take i) (d:=e) (G.get 1) (λJ E=>(a8.1 (G.getD 0)).2 J (nh E)) ((a8.1 (G.getD 0)).2 e B) (G.getD 1) (D e B).1 (by rw[jW];omega) (by rw[K];exact W.val)) ?_;rintro _ w4 rfl H4;rw[K];refine⟨_,_,_,_,rfl,H4.ax λb6 w5 S=>ct (λA=>S.ae λw6 z=>⟨by rw[<-j,ag A],z.fr⟩) (λA=>vW (a:=(bA ((xs l).take i) e.x).1) (b:=e.x.st) (λN=>S.ae λw6 z=>⟨by rw[<-j,ab (λq=>q A),ag N],z.fr⟩) (λN=>S.ae λw6 z=>?_))⟩;rw[ab (λq=>q A),ab (λq=>q N)]at j;refine z.av (V7 (l:=l.take i) (d:=e) (z.get 1) ((a8.1 (z.getD 0)).2 e B) (D e B).2 hu) ?_;rintro _ w7 rfl H;refine⟨_,_,rfl,?_⟩;rw[YE,K];refine aT (λM=>⟨by rw[<-j,ag M],H.fr⟩) (λM=>?_);rw[ab M]at j;have ac:Vg ((xs l).take (i+1)):=by rw[ex];exact .snoc W (by rw[<-N,<-A]) M
   have gt:((xs l).take (i+1))[i]? =some e.x:=by rw[List.getElem?_take,ag io];exact Z
   have am:((xs l).take (i+1)).take i=(xs l).take i:=by rw[List.take_take];congr 1;omega
   refine H.Jh 1 rfl (I6 (l:=l.take i) (d:=e) (H.get 1) ((a8.1 (H.getD 0)).2 e B) (λb T hm=>H.dj (.gr s l) gs b (q5.2 (.inr ⟨e,B,T⟩)) (.bu h own (l.take i)) gs (aW.2 hm)) (D e B).2 hu (by rw[jW];omega) (by rw[K];exact M) (λA=>by rw[K,<-am];exact UT ac gt A)) ?_;rintro _ w8 ao rfl H8;refine⟨_,rfl,?_⟩;rw[bm _ io];refine ih (i+1) C h ao w8 io ac (by rw[ex];exact j) ?_;rw[es];exact H8.take 2
 refine y.g9 (V9 (s:=⟨none,0,0⟩) (l:=[]) ⟨bh.nil 9 F,gs⟩ .nil (by simp[xs]) gs) ?_;rintro _ w2 ⟨h,own,rfl,r,o⟩ _ F2;have Q:=F2.own (.bu h own []) r (λb T=>o b (aW.1 T));exact⟨_,rfl,loop l.length 0 C h own w2 io .nil rfl Q⟩
def Zd{w:I}{s:Sl}{l:List Nd}(d:GP w s l)(i:Nat)(hi:i<=l.length):GP w (mI 9 s 0 i) (l.take i):=by
 have x:=gx d;have h:=d.1.sub 0 i (dc _) io;refine⟨?_,λe j=>d.2 e (nh j)⟩;rw[Nat.zero_mul,List.drop_zero]at h;have:(l.take i).flatMap Nd.c=(l.flatMap Nd.c).take (i *9):=by
  have k:l.flatMap Nd.c=(l.take i).flatMap Nd.c++(l.drop i).flatMap Nd.c:=by rw[<-dK,List.take_append_drop]
  have q:((l.take i).flatMap Nd.c).length=i *9:=by rw[Nd.hB,jW,Nat.min_eq_left hi]
  grind
 grind
def XQ{w:I}{s:Sl}{a b:List fh}(d:bh 7 w s (cZ (a++b))):bh 7 w (mI 7 s 0 a.length) (cZ a):=by
 have e:=pK d;rw[bG]at e;have j:=d.sub 0 a.length (dc _) io;have h:cZ (a++b)=cZ a++cZ b:=dK;have k:=zQ a
 grind
def UW:∀(r g:List Nx),Vg (g++r)->qE g r=0
 |[],_,_=>rfl
 |d::r,g,e=>by
  have j:(g++d::r)[g.length]? =some d:=gs
  have h:=e.ok g.length d j;rw[List.take_left]at h;have q:d∉g:=λk=>(List.nodup_append.1 (H9 e)).2.2 d k d hJ rfl;rw[UU,h,ab gs,ab gs,ab q];exact UW r (g++[d]) (by grind)
def UX{g:List Nx}(d:Vg g)(e:g.length<=4096):wq g=0:=by unfold wq;rw[ab io];exact UW g [] d
def abw(g:List Nx)(l:List Nd)(h:xs l=g){i:Nat}{d:Nx}(hd:g[i]? =some d):∃e:Nd,l[i]? =some e/\e.x=d:=by grind
namespace Iv
def valid{w:I}{ls ps:Sl}{ns pk:List Int}{kind:Int}(bJ:∀x∈ns,cF x)(bH:ns.length<=9223372036854775807)(hr:bF w ls ns)(bK:∀x∈pk,cF x)(bL:pk.length<=9223372036854775807)(hp:bF w ps pk)(bE:cF kind)(hk:db.P w):
  ai U Fo #[ls.v,.i kind,ps.v] w λr w'=>r=ad (.bool true)/\af w w':=by
 have bc:O F0 w w [] [db,.rd ls (ns.map bC),.rd ps (pk.map bC)]:=bM _ (by
  intro e he;simp only[aF,aZ,a7]at he;rcases he with rfl|rfl|rfl
  .exact hk
  .exact hr
  .exact hp)
 refine sC.aq (bc.call (jO kind 3 w io bE) ?_);rintro _ w1 rfl H1;refine⟨_,rfl,H1.call (WD (H1.getD 1) bJ bH (H1.getD 2) bK bL _) ?_⟩;rintro _ w2 ⟨l,al,rfl,H,aL,aJ⟩ H2;have H2:=H2.forget [db] gs;have cl:(xs l).length=l.length:=by grind
 generalize fC kind 3=kd at H;have aK:∀a∈al,a.1<(xs l).length:=λa ha=>by
  obtain⟨j,h1,_⟩:=aJ a ha
  grind
 have hc:=adr kd aL H.md.vg H.md.nd H.w λa ha=>⟨aK a ha,H.sz _ (by grind)⟩;have aM:=ads H.md.vg (XJ kd) io aK;obtain⟨aj,hA,bq⟩:=aM.ll;obtain⟨n,h,hn,aU,hI⟩:=aaF H aL aJ;have bu:(xs (bN kd)).length<=10:=by
  unfold bN;repeat' split
  all_goals decide
 have b0:0<(xs (bN kd)).length:=by
  unfold bN;repeat' split
  all_goals decide
 obtain⟨J,r,k1,k2,bU,co,bV,ch⟩:=aet hI bu (Rp (Rq kd)).2.2.2;unfold cT at hc;obtain⟨G,hB,bs⟩:∃G,tokens nz=.ok G/\G.map kt=o'++[(6,[])]:=by
  have d:=XK;unfold pI at d;cases ht:tokens nz with
  |bad a e=>grind
  |ok G=>
   rw[ht]at d;have d:G.dropLast.map kt=o':=e4 d;obtain⟨bZ,hC⟩:=(MI (xI ht).1).1;refine⟨G,rfl,?_⟩;rw[hC,List.dropLast_concat]at d;rw[hC,ey,d];rfl
 have br:=MJ (xI hB).1 (o5 (xs (bN kd)) (xs l) al).length;obtain⟨A2,bp,bn⟩:=aM nz 0 (G.map (tu (o5 (xs (bN kd)) (xs l) al).length)) (.inr ⟨40,_,rfl,dl⟩) br;have aH:(A2++G.map (tu (o5 (xs (bN kd)) (xs l) al).length)).map kt=jr (xs (bN kd)) (xs l) al++(o'++[(6,[])]):=by rw[ey,bp,<-bs,List.map_map];rfl
 have bl:∀t,(5,t)∈o'->t=[113]:=λt d=>by simp[o',kN,fR,i7,hZ,eF,ej,dt]at d;exact d
 have cg:wF [113]:=⟨.inl dl,λd=>absurd d (by decide+kernel)⟩;have aC:∀{s:List UInt8} {T:List aI} {K:List TK},tokens s=.ok T->T.map kt=jr (xs (bN kd)) (xs l) al++K->(∀t,(5,t)∈K->t=[113])->∀t∈T,t.kind=5->wF t.text:=λ{s T K} A bt h5 t ht bk=>by
  have Z:kt t∈jr (xs (bN kd)) (xs l) al++K:=bt▸dA.2 ⟨t,ht,rfl⟩;unfold kt at Z;rw[bk]at Z;rcases aP.1 Z with Z|Z
  .obtain ⟨a,_,d⟩:=YF Z;obtain⟨j,Y,ho,e⟩:=Ux _ _ _ d;rw[e];obtain⟨cu,hj⟩:=iB.1 Y;exact aaI (H.md.nd j Y) (rJ H.md.vg hj).re ho
  grind
 have bO:∀{T:List aI} {x:List UInt8},T.map kt=jr (xs (bN kd)) (xs l) al++[(6,x)]->hM T (T.length+1) dT=.ok h:=λ{T x} hK=>
  Tb (aU T ⟨l8 (xs l) 0 al++[(6,x)],by rw[List.drop_zero,hK];unfold jr;grind⟩) hn hK
 have bP:∀{T:List aI} {x:List UInt8},T.map kt=jr (xs (bN kd)) (xs l) al++(o'++[(6,x)])->hM T (T.length+1) dT=.ok J:=λ{T x} hK=>by have hP:ou (xs (bN kd)) T:=⟨l8 (xs l) 0 al++(o'++[(6,x)]),by rw[List.drop_zero,hK];unfold jr;grind⟩;exact Tb ((aU T hP).app (bU T hP)) (by have h3:3<=o'.length:=dl;grind) (by rw[hK,cU])
 generalize jr (xs (bN kd)) (xs l) al=KK at *;generalize o5 (xs (bN kd)) (xs l) al=S at *;have cb:aj.length=KK.length:=by grind
 have ci:nz.length<=100:=dl
 have ac:tokens S=.ok (aj++[⟨6,[],S.length⟩]):=of_lex hA io;have ag:tokens (S++nz)=.ok (A2++G.map (tu S.length)):=of_lex bn (by grind);have aG:(aj++[(⟨6,[],S.length⟩:aI)]).map kt=KK++[(6,[])]:=by rw[ey,bq];rfl
 have ay:jT S=.ok h:=by unfold jT;rw[ac];exact bO aG
 have aX:jT (S++nz)=.ok J:=by unfold jT;rw[ag];exact bP aH
 have aS:=aC ac aG (λt d=>by grind);have aT:=aC ag aH (λt d=>(aP.1 d).elim (bl t) λd=>by grind);have bv:∀T,tokens S=.ok T->ow 12 T:=λT A=>by rw[ac]at A;cases A;exact GJ (yT ac) aS
 have bx:∀T,tokens (S++nz)=.ok T->ow 12 T:=λT A=>by rw[ag]at A;cases A;exact GJ (yT ag) aT
 have aV:∀{T:List aI},(∀t∈T,t.kind=5->wF t.text)->uf (λt=>oq t/\t.size<=1000) T:=λhq t ht h5 h0=>by
  obtain⟨h1,h2⟩:=hq t ht h5;rw[He (h2 h0)];obtain⟨_,o2,o3⟩:=Gn h1
  grind
 obtain⟨vy,cy,qy⟩:=Q7 ay λT A=>by rw[ac]at A;cases A;exact aV aS
 obtain⟨vz,cz,qz⟩:=Q7 aX λT A=>by rw[ag]at A;cases A;exact aV aT
 have b8:=hI.gl;have cr:J.s.g.length<=1733:=by grind
 have cn:(xs (bN kd)).length<=h.s.g.length:=by
  obtain⟨r0,e,_⟩:=hI.go.up
  grind
 have am:=aaD ay io;have bQ:(ba S).size<=1000000:=by rw[be];omega
 have bS:(ba (S++nz)).size<=1000000:=by rw[be,bG];omega
 refine⟨_,rfl,(Rr H2 gs bQ bv ay).mono ?_⟩;rintro _ w3 ⟨y,B,C,rfl,ar,H3⟩;have bj:ba S++ba nz=ba (S++nz):=bT _ _;refine⟨y,C,_,_,rfl,H3.ax λE w4 H4=>⟨ov io dl,H4.ae λw5 H5=>?_⟩⟩;show fF [E] U xY #[.string (ba S++ba nz)] w5 _;rw[bj];refine ab3 H5 gs bS bx aX λz F D w6 aW Q=>?_;have Q:O F0 w w6 [.g E] [db,ko y B C h.cs,ko z F D J.cs]:=Q;have cc:B.length=h.s.g.length:=by grind
 have cd:F.length=J.s.g.length:=by grind
 have bA:y.n=B.length:=gx (kp (Q.getD 1)).1;have b9:z.n=F.length:=gx (kp (Q.getD 2)).1;have bz:C.n=h.cs.length:=pK (kp (Q.getD 1)).2;have b7:D.n=h.cs.length+2:=by
  have:=pK (kp (Q.getD 2)).2
  grind
 have tv:∀{g:List Nx} {l:List Nd},Vg g->g.length<=4096->(∀j∈g,ga (λt=>oq t/\t.size<=1000) j)->xs l=g->∀j∈l,j7 j.x/\pB j.x:=λhv hl hq hx j Y=>aaY hv hl (by grind) (hq _ (by grind));refine⟨z,D,_,_,rfl,Q.ax λL w7 H7=>ct (λd=>absurd rfl d) (λ_=>ct (λd=>absurd rfl d) (λ_=>H7.ae λw8 H8=>?_))⟩;have H8:O F0 w w8 [.g E,.g L] [db,ko y B C h.cs,ko z F D J.cs]:=H8;refine H8.av (T5 (kp (H8.getD 1)).1 (H8.getD 0) λ_=>tv vy io qy ar) ?_;rintro _ w9 rfl H9;rw[ar,UX vy io];refine⟨_,rfl,ct (λd=>absurd rfl d) (λ_=>H9.av (T5 (kp (H9.getD 2)).1 (H9.getD 0) λ_=>tv vz io qz aW) ?_)⟩;rintro _ bX rfl bf;rw[aW,UX vz io];refine⟨_,rfl,ct (λd=>absurd rfl d) (λ_=>?_)⟩;rw[bo _ io];refine ct (λd=>absurd io d) (λ_=>aQ (a2 (by grind)) ?_);have loop:∀(m i:Nat) (ah:I),i+m=h.cs.length->O F0 w ah [.g E,.g L] [db,ko y B C h.cs,ko z F D J.cs]->sC.cq E y C L z D (i:Int) ah λr w'=>r=ad (.bool true)/\af w w':=by
  intro m;induction m with
  |zero=>
   intro i ah hi W;have b5:=(kp (W.getD 2)).2.2.1;have b6:=(kp (W.getD 2)).1.1.2.1;have ce:y.n<=z.n:=by grind
   refine sC.dF (aQ (a2 io) ⟨io,io,W.ae λa4 M=>?_⟩);refine M.g9 (JG (kp (M.getD 1)).2 am) ?_;rintro _ a6 ⟨t1,rfl,bW,n1⟩ _ a9;have N:=a9.rd (.a3 7 t1 (cZ h.cs)) bW.a3 (o1 n1);have N:O F0 w a6 [.g E,.g L] [db,ko y B C h.cs,ko z F D J.cs,.a3 7 t1 (cZ h.cs)]:=N;have p2:=(kp (N.getD 2)).2;rw[bV]at p2;have p2:=XQ p2;rw[<-bz]at p2;refine⟨_,rfl,N.g9 (JG (s:=mI 7 D 0 C.n) p2 am) ?_⟩;rintro _ a8 ⟨t2,rfl,o2,n2⟩ _ bb;have aa:=bb.rd (.a3 7 t2 (cZ h.cs)) o2.a3 (o1 n2);refine⟨_,rfl,aa.av (Xh (aa.getD 3) (aa.getD 4) am) ?_⟩;rintro _ az rfl ab;have p3:=Zd (kp (ab.getD 2)).1 B.length io;have aN:xs B=xs (F.take B.length):=by
    have:xs (F.take B.length)=(xs F).take B.length:=by simp[xs,List.map_take]
    grind
   rw[<-bA]at p3 aN;refine⟨_,rfl,aR rfl ⟨io,io,ab.av (WC (kp (ab.getD 1)).1 (t:=mI 9 z 0 y.n) p3 aN (by unfold dO;omega) λe he=>?_) ?_⟩⟩
   .have:e.x∈h.s.g:=by grind
    have:=ZH vy this;unfold dO;omega
   rintro _ cw rfl aA;refine⟨_,rfl,aR rfl (aA.av (W4 (aA.getD 0)) ?_)⟩;rintro _ cx rfl bg;exact⟨_,rfl,rfl,bg.fr⟩
  |succ m ih=>
   intro i ah hi W;have hg:h.cs[i]? =some (h.cs[i]'io):=aY io;generalize h.cs[i]'io=c at hg;obtain⟨k1,k2,k3,k4⟩:=cy c (aD hg);obtain⟨q,hq⟩:∃q:Nat,c.nd=(q:Int):=⟨c.nd.toNat,io⟩;have ap:q<h.s.g.length:=io
   rw[hq,bR]at k3 k4;have ao:h.s.g[q]? =some (h.s.g[q]'ap):=aY ap;generalize h.s.g[q]'ap=dx at ao;obtain⟨j,Y,rfl⟩:=abw _ _ ar ao;rw[ao]at k3 k4;refine sC.dF (aR (a5 io) ⟨io,io,qV (kp (W.getD 1)).2 hg λp hp e=>⟨c.k,ba c.nm,c.st.k,c.st.n,c.st.x,c.nd,c.n,e.c0,e.c1,e.c2,e.c3,e.c4,e.c5,e.c6,W.ax λb3 a4 M=>?_⟩⟩);have M:O F0 w a4 [.g E,.g L,.g b3] [db,ko y B C h.cs,ko z F D J.cs]:=M;rw[hq];obtain⟨a1,bh,bi⟩:=eh (kp (M.getD 1)).1 (X:=(q:Int)) rfl Y (K:=λp=>y.a=some p) λp hp c=>hp;refine aQ (a2 io) (aQ (a2 io) ⟨a1,bh,rm bi λp hp=>M.ae λa6 N=>?_⟩);have e:=Nd.again (kp (N.getD 1)).1.1 Y hp;refine⟨j.x.op,j.ks,j.x.n,j.x.m,j.x.u,j.x.tx,j.x.st.k,j.x.st.n,j.x.st.x,e.c0,e.c1,e.c2,e.c3,e.c4,e.c5,e.c6,e.c7,e.c8,N.ax λb4 a8 aa=>?_⟩;have S4:loc [E,L,b3,b4] a8 λbY=>sC.fB E y C L z D (i:Int) bY λr w'=>r=ad (.bool true)/\af w w':=aa.ae λaz ab=>by show sC.cq E y C L z D (aB .i64 ((i:Int)+1)) az _;rw[bm _ io];exact ih (i+1) az io (ab.take 2)
   have bit:(c.k=1\/c.k=2)->j.x.st=aO 1:=λd=>by grind
   refine aw (λd=>?_) (λh1=>aw (λd=>?_) (λh2=>aw (λh0=>?_) (λ_=>S4)))
   .have hb:=bit (.inl d);rw[hb];exact aQ rfl (aw (λh0=>absurd d io) (λ_=>S4))
   .have hb:=bit (.inr d);rw[hb];exact aQ rfl (aw (λh0=>absurd d io) (λ_=>S4))
   .have an:j.x=⟨0,[],0,0,0,ba c.nm,c.st⟩:=ed (k4 h0);have e0:j.x.op=0:=by rw[an]
    have e5:j.x.tx=ba c.nm:=by rw[an]
    have e6:j.x.st=c.st:=by rw[an]
    rw[e0,e5,e6];exact ct (λd=>absurd rfl d) (λ_=>aQ gs (aQ gs S4))
 exact loop h.cs.length 0 bX io bf
end Iv
def aeY{P:au}{W:I}{n:String}{g m:Nat}{cs:Array V}{vs:List V}(h:P.globalNamed n=some g)(q:W.var? P n=some cs)(e:cs.toList=vs)(k:m=vs.length):Rd W ⟨some (aa g),m,m⟩ vs:=by refine GX k (bw _) (λd=>by cases d) λi v j=>⟨aa g,rfl,?_⟩;rw[show(aa g).add i=⟨g,i,none⟩from IG g i,World.var?_cell h q i,<-j,<-e,Array.getElem?_toList]
def ab7{W:I}(j:laidMetH U [("math/bits.deBruijn32tab",Rows.laid_math_bits_deBruijn32tab),("math/bits.deBruijn64tab",Rows.laid_math_bits_deBruijn64tab),("internal/strconv.uint64pow10",Rows.laid_internal_strconv_uint64pow10),("strconv.ErrRange",Rows.laid_strconv_ErrRange),("strconv.ErrSyntax",Rows.laid_strconv_ErrSyntax),("enthymeme/term.kidCounts",Rows.laid_enthymeme_term_kidCounts)] W):db.P W:=by rw[MakeChecks.laidMetH_plain _ _ _ (by kernel_rfl)]at j;obtain⟨g,t,x,fuel,p,h,k,q,w⟩:=Lib.laidMet.reads j (n:="enthymeme/term.kidCounts") (d:=Lib.tabData .i64 Am) (.tail _ (.tail _ (.tail _ (.tail _ (.tail _ (.head _))))));obtain rfl:=ed ((show Tryz.prog.globalNamed "enthymeme/term.kidCounts"=some 0 by kernel_rfl).symm.trans h);obtain rfl:=ed ((show(Tryz.prog.globals[0]?).map (·.type)=some aeI by kernel_rfl).symm.trans k);exact aeY h q (Lib.cells_of_tab (e:=bz) (n:=35) (by kernel_rfl) (by kernel_rfl) (by kernel_rfl) (by kernel_rfl) w) rfl
def parseValid_walk(W:I)(e:laidMetH U [("math/bits.deBruijn32tab",Rows.laid_math_bits_deBruijn32tab),("math/bits.deBruijn64tab",Rows.laid_math_bits_deBruijn64tab),("internal/strconv.uint64pow10",Rows.laid_internal_strconv_uint64pow10),("strconv.ErrRange",Rows.laid_strconv_ErrRange),("strconv.ErrSyntax",Rows.laid_strconv_ErrSyntax),("enthymeme/term.kidCounts",Rows.laid_enthymeme_term_kidCounts)] W)(ls:Sl)(d:Int)(ps:Sl)(w0:ArgNums W ls)(y:cF d)(z:ArgNums W ps):
  ai U Fo #[ls.v,.i d,ps.v] W λr x=>r=ad (.bool true)/\af W x:=by have h:=ab7 e;obtain⟨C,j,A,k⟩:=w0;obtain⟨D,q,B,w⟩:=z;exact Iv.valid k io j w io q y h
end Go.Proofs.YtkbmpalepmakmabGreatDoor
end
