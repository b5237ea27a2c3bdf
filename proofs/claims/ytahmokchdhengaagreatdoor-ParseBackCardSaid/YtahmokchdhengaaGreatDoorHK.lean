import Derived.Test.YtahmokchdhengaaGreatDoorOU
import Derived.Lib.LaidTab
import Derived.Lib.LaidU8
import Derived.LaidByTextLater
import Derived.MakeChecks
import Derived.FnData
import Derived.OpenShut
import Derived.Test.YtahmokchdhengaaGreatDoorRows
set_option linter.unusedVariables false
set_option maxRecDepth 100000
set_option maxHeartbeats 1000000
set_option linter.defProp false
namespace Go.Proofs.YtahmokchdhengaaGreatDoor
open Go renaming World->J
open Go.Proofs.Tryz renaming prog->U
open Go.Ending renaming returned->ae
open List renaming not_mem_nil->aZ,mem_of_getElem?->aB
open Go Go.W
structure zU(w:J)(p:Addr)(i:Nat)(c:hf):Prop where
 c0:w.cell? ((p.add (i *7)).add 0)=some (.i c.k)
 c1:w.cell? ((p.add (i *7)).add 1)=some (.string (ba c.nm))
 c5:w.cell? ((p.add (i *7)).add 5)=some (.i c.nd)
def GZ{w:J}{s:Sl}{l:List hf}(d:br 7 w s (gJ l)):s.n=l.length:=by have:=d.1;rw[GY]at this;omega
def uh{w:J}{s:Sl}{l:List hf}(e:br 7 w s (gJ l)){i:Nat}{c:hf}(hi:l[i]? =some c){K:Addr->Prop}(h:∀p,s.a=some p->zU w p i c->K p):i<s.n/\dJ s.a K:=by have q:=GZ e;have k:=(List.getElem?_eq_some_iff.1 hi).1;exact⟨by omega,fD.elem (f:=pX) (sz:=7) (λ_=>rfl) (by omega) e.2.2 hi λp j d=>h p j ⟨d 0 _ rfl,d 1 _ rfl,d 5 _ rfl⟩⟩
def SI{w:J}{s:Sl}{l:List hf}(q:br 7 w s (gJ l)){i:Nat}{c:hf}(hi:l[i]? =some c){p:Addr}(y:s.a=some p):zU w p i c:=by have h:=(uh q hi (K:=λe=>∃j,s.a=some j/\zU w j i c) λe d x=>⟨e,d,x⟩).2;rw[y]at h;obtain⟨e,d,k⟩:=h;cases d;exact k
def vt(g:Sl)(l:List Nd)(c:Sl)(cs:List hf):En:=.all [.gr g l,.a7 7 c (gJ cs)]
def Xd{w:J}{g:Sl}{l:List Nd}{c:Sl}{cs:List hf}(d:(vt g l c cs).P w):GP w g l/\br 7 w c (gJ cs):=⟨bc.1 (d (.gr g l) (by simp)),d (.a7 7 c (gJ cs)) (by simp)⟩
def Xe{w0 w:J}{L D:List En}(H:O F0 w0 w L D)(k:cO∈D){s:ByteArray}(A:s.size<=1000000)(z:∀j,tokens (bl s)=.ok j->nz 12 j){y:cJ}(B:o4 (bl s)=.ok y):
  Calls U Cu #[.string s] w λr q=>∃(g:Sl) (l:List Nd) (c:Sl),r=ae (.tuple #[.agg #[g.v,c.v],.i 0,.i 0])/\xs l=y.s.g/\O F0 w0 q L (D++[vt g l c y.cs]):=by
 refine(Gs (H.rd _ k) A z).mono λr q h=>?_;rw[B]at h;obtain⟨⟨g,l,c,rfl,C,E,F,G,I⟩,f⟩:=h;refine⟨g,l,c,rfl,E,H.ek _ f (λx e=>?_) (λb d=>?_)⟩
 .simp only[List.mem_cons,aZ,a2]at e;rcases e with rfl|rfl
  .exact bc.2 C
  .exact F.a7
 .have d:=a4.1 d;obtain⟨x,e,d⟩:=List.mem_flatMap.1 d;simp only[List.mem_cons,aZ,a2]at e;rcases e with rfl|rfl
  .exact (G b d).imp id λh=>.inr ⟨_,k,h⟩
  .exact .inl (o9 I b d)
def R2{w:J}(hk:cO.P w):Calls U JH #[] w λr V=>r=ae (.bool true)/\ah w V:=by
 have G:O F0 w w [] [cO]:=bO _ (by intro y he;rw[List.mem_singleton.1 he];exact hk);have z:=VD;cases Q:o4 xO with
 |er y p=>rw[Q]at z;cases z
 |ok az=>
  rw[Q]at z;simp only[Bool.and_eq_true,decide_eq_true_eq]at z;obtain⟨hg,ap⟩:=z;have B:=VF;cases S:o4 ss with
  |ok aA=>rw[S]at B;cases B
  |er y p=>
   rw[S]at B;simp only[Bool.and_eq_true,decide_eq_true_eq]at B;obtain⟨rfl,rfl⟩:=B;refine Hl.au w _ ((Xe G (by simp) (s:=ba xO) (by decide) (M5 VE) Q).mono ?_);rintro _ w1 ⟨g,l,c,rfl,N,k⟩;rw[ap]at k;rw[hg]at N;have k:O F0 w w1 [] [cO,vt g l c u3]:=k;have aq:l.length=4:=by have:=congrArg List.length N;simpa[xs,Cc]using this
   have W:∀(i:Nat) (d:Nx),Cc[i]? =some d->∃y:Nd,l[i]? =some y/\y.x=d:=λi d C=>by rw[<-N]at C;have C:(l.map Nd.x)[i]? =some d:=C;rw[List.getElem?_map]at C;exact Option.map_eq_some_iff.1 C
   obtain⟨E,ag,x1⟩:=W 1 _ rfl;obtain⟨d2,ao,x2⟩:=W 2 _ rfl;obtain⟨F,ai,x3⟩:=W 3 _ rfl;have RC:∀{V:J} {L:List En},O F0 w V L [cO,vt g l c u3]->GP V g l/\br 7 V c (gJ u3):=λG=>Xd (G.getD 1);have ar:c.n=2:=GZ (RC k).2;have aw:g.n=4:=by rw[h6 (RC k).1,aq]
   refine⟨g,c,_,_,rfl,k.ay λb1 w2 H2=>H2.af λw3 Z=>?_⟩;refine Z.av (A:=λr _=>r=ae (.tuple #[.agg #[.slice none 0 0,.slice none 0 0],.i ((10:Nat):Int),.i 6])) ((Gs (s:=ba ss) (Z.getD 0) (by decide) (M5 VG)).mono λr V h=>by rw[show bl (ba ss)=ss from rfl,S]at h;exact h) ?_
   rintro _ w4 rfl H4;refine⟨⟨none,0,0⟩,⟨none,0,0⟩,_,_,rfl,H4.ay λb4 w5 D=>?_⟩;refine bY (λh=>absurd rfl h) (λ_=>bY (λh=>absurd rfl h) (λ_=>bY (λh=>absurd rfl h) (λ_=>bY (λh=>absurd rfl h) (λ_=>bY (λh=>absurd (by omega) h) (λ_=>bY (λh=>absurd (by omega) h) (λ_=>?_))))));have D:O F0 w w5 [.g b1,.g b4] [cO,vt g l c u3]:=D;have ak:=RC D;refine⟨by omega,by omega,(uh ak.2 (i:=0) rfl λp j _=>D.af λw6 H6=>?_).2⟩;have q:=RC H6;refine⟨_,(SI q.2 (i:=0) rfl j).c0,aT rfl ⟨by omega,by omega,(uh q.2 (i:=0) rfl λp j e=>⟨_,e.c1,dS (a:=[97]) (b:=[97]) (λ_=>?_) (λh=>absurd rfl h)⟩).2⟩⟩;refine⟨by omega,by omega,(uh q.2 (i:=1) rfl λp j e=>⟨_,e.c0,aT rfl ⟨by omega,by omega,(uh q.2 (i:=1) rfl λp j e=>⟨_,e.c5,aT rfl ?_⟩).2⟩⟩).2⟩;obtain⟨a1,a2,a3⟩:=e4 q.1 (X:=1) (i:=1) rfl ag (K:=λp=>p=p/\Nd.hc w6 p (Int.toNat 1) E) λp j e=>⟨rfl,e⟩;refine⟨a1,a2,o3 a3 λp e=>⟨_,e.2.c0,aT (by rw[x1];rfl) ⟨a1,a2,o3 a3 λp e=>⟨_,e.2.c1,H6.nw λw7 s7 H=>?_⟩⟩⟩⟩;have P7:=RC H;have n1:bW w7 E.ks [0,0]:=by
    have:=P7.1.2 E (aB ag);have M:E.x.kids=[0,0]:=by rw[x1]
    rw[<-M];exact this
   refine H.av (Gz (b:=⟨some (ad w6.heap.size),2,2⟩) n1 (oH (T:=bn) (H.ob 2) rfl) (by decide)) ?_;rintro _ Y rfl H8;have P8:=RC H8;obtain⟨aa,ab,ac⟩:=e4 P8.1 (X:=2) (i:=2) rfl ao (K:=λp=>p=p/\Nd.hc Y p (Int.toNat 2) d2) λp j e=>⟨rfl,e⟩;obtain⟨al,am,an⟩:=e4 P8.1 (X:=3) (i:=3) rfl ai (K:=λp=>p=p/\Nd.hc Y p (Int.toNat 3) F) λp j e=>⟨rfl,e⟩;refine⟨_,rfl,aT rfl ⟨aa,ab,o3 ac λp e=>⟨_,e.2.c0,aT (by rw[x2];rfl) ⟨aa,ab,o3 ac λp e=>⟨_,by rw[add_add];exact e.2.c7,aT (by rw[x2];rfl) ⟨al,am,o3 an λp e=>⟨_,e.2.c1,H8.nw λw9 s9 I=>?_⟩⟩⟩⟩⟩⟩⟩;have P9:=RC I;have n3:bW w9 F.ks [1,2]:=by
    have:=P9.1.2 F (aB ai);have M:F.x.kids=[1,2]:=by rw[x3]
    rw[<-M];exact this
   refine I.av (Gz (b:=⟨some (ad Y.heap.size),2,2⟩) n3 (oH (T:=bn) (I.ob 3) rfl) (by decide)) ?_;rintro _ ax rfl aj;exact⟨_,rfl,rfl,aj.fr⟩
def VV{kind:Int}{l:List Nd}(d:kv (xs l))(w:VZ kind l)(z:l.length<=30):Fy (xs l):=by
 have A:(xs l).length=l.length:=by simp[xs]
 refine⟨d.vg,λe h=>?_,λe h=>?_,λi q=>?_⟩
 .have:=(d.nd e h).u;omega
 .have k:=d.nd e h;by_cases j:e.op=33
  .have:=Mo (.inr (k.re j));omega
  .have:=k.tx j;omega
 .have x:=Mj d.vg d.nd (i+1) i (Nat.lt_succ_self _) q;have y:=w.2.2 i (by omega);omega
def VU{l:List Nd}(j:kv (xs l)){i:Nat}(hi:i<(xs l).length)(hlen:(ee (i+1) (xs l) i).length<=65536):∀e,tokens (ee (i+1) (xs l) i)=.ok e->nz 12 e:=λe w=>by
 obtain⟨E,q,A,B⟩:=Ml j.vg hi hlen;have x:=w;rw[A]at x;cases x;refine M6 (zr w) λt d h=>?_;rcases List.mem_append.1 d with d|d
 .have k:kt t∈eA (i+1) (xs l) i:=B▸List.mem_map.2 ⟨t,d,rfl⟩;unfold kt at k;rw[h]at k;obtain⟨z,y,D,q⟩:=PH _ _ _ k;rw[q];obtain⟨F,C⟩:=List.mem_iff_getElem?.1 y;exact VY (j.nd z y) (tG j.vg C).re D
 .rw [List.mem_singleton.1 d]at h;cases h
def TJ{g:List Nx}(e:Vg g){i:Nat}{d:Nx}(hd:g[i]? =some d):uO g d=((i:Int),true):=by unfold uO;rw[OW e hd];have h:dD d d.st=d:=rfl;dsimp only;rw[h,It e hd];rfl
namespace Fl
def back{w:J}{ls:Sl}{I:List Int}{kind:Int}(ai:∀an∈I,dx an)(ag:I.length<=9223372036854775807)(hr:bW w ls I)(ac:dx kind)(hk:cO.P w):
  Calls U Ck #[ls.v,.i kind] w λr V=>r=ae (.bool true)/\ah w V:=by
 have ab:O F0 w w [] [cO,.rd ls (I.map ct)]:=bO _ (by
  intro G H;simp only[List.mem_cons,aZ,a2]at H;rcases H with rfl|rfl
  .exact hk
  .exact hr)
 refine ux.au _ _ w _ (ab.call (jG kind 3 w (by omega) ac) ?_);rintro _ w1 rfl W;refine⟨_,rfl,W.w5 (Rz (W.getD 1) ai ag (gv kind 3) 10 (by omega)) ?_⟩;rintro _ w2 ⟨e,l,rfl,j,aq,ar,Y,ad,hz⟩ _ F2;have L:=F2.rd (.gr e l) (bc.2 Y) ad;have L:=L.forget [cO,.gr e l] (by simp);have ax:(xs l).length=l.length:=by simp[xs]
 have Q:=VV j hz (by omega);have ao:e.n=l.length:=h6 Y;refine⟨e,rfl,?_⟩;have loop:∀(m i:Nat) (E:J),i+m=l.length->O F0 w E [] [cO,.gr e l]->ux.a0 e (i:Int) E λr V=>r=ae (.bool true)/\ah w V:=by
  intro m;induction m with
  |zero=>
   intro i E hi q;refine ux.bJ _ _ _ _ (aV (aP (by omega)) (q.call (R2 (q.getD 0)) ?_));rintro _ w4 rfl y;exact⟨_,rfl,rfl,y.fr⟩
  |succ m ih=>
   intro i E hi q;have S:i<(xs l).length:=by omega
   have hlen:=Q.l i S;have ak:=VU j S hlen;obtain⟨s',aj,al⟩:=W5 j.vg Q.u (by omega) S hlen (by have:=hz.2.2 i (by omega);omega);have B:l[i]? =some (l[i]'(by omega)):=List.getElem?_eq_getElem (by omega);generalize l[i]'(by omega)=d at B;have aa:=ou B;refine ux.bJ _ _ _ _ (aT (aM (by omega)) (q.call (Gc Q (i+1) i (Nat.lt_succ_self _) (by omega) E (bc.1 (q.getD 1))) ?_));rintro _ w4 rfl y;refine⟨_,rfl,?_⟩;have Z:bl (ba (ee (i+1) (xs l) i))=ee (i+1) (xs l) i:=kC _;refine(R5 (N:=12) (s:=ba (ee (i+1) (xs l) i)) (bc.1 (y.getD 1)) (y.getD 0) j.vg (by omega) (by rw[bC];omega) (by rw[Z];exact ak)).mono ?_;intro r am hq;rw[Z,aj]at hq;obtain⟨⟨A,C,rfl,q1,D,q3⟩,f5⟩:=hq;rw[al]at D;have M:=y.ek (.gr A C) f5 (bc.2 q1) (λb hb=>(q3 b hb).elim (λh=>.inr (.inr ⟨_,aB (i:=1) rfl,h⟩)) .inl);have M:O F0 w am [] [cO,.gr e l,.gr A C]:=M;have aw:C.length=l.length:=by have:=congrArg List.length D;simpa[xs]using this
   have ap:A.n=C.length:=h6 q1;refine⟨A,_,_,_,rfl,M.ay λb w6 F=>?_⟩;have F:O F0 w w6 [.g b] [cO,.gr e l,.gr A C]:=F;obtain⟨g1,g2,g3⟩:=e4 (bc.1 (F.getD 1)) (X:=(i:Int)) rfl B (K:=λp=>e.a=some p) λp T c=>T;refine⟨g1,g2,o3 g3 λp T=>F.af λw7 z=>?_⟩;have c:=Nd.again (bc.1 (z.getD 1)).1 B T;refine⟨d.x.op,d.ks,d.x.n,d.x.m,d.x.u,d.x.tx,d.x.st.k,d.x.st.n,d.x.st.x,c.c0,c.c1,c.c2,c.c3,c.c4,c.c5,c.c6,c.c7,c.c8,?_⟩;refine z.av (Zc (d:=d) (bc.1 (z.getD 2)) ((bc.1 (z.getD 1)).2 d (aB B)) (z.getD 0) ((j.nd d.x (aB aa)).sp.tok (by omega)) (by omega) (by rw[D];exact j.vg.val) (λG H=>?_)) ?_
   .have:G.x∈xs l:=by rw[<-D];exact List.mem_map.2 ⟨G,H,rfl⟩
    have:=(j.nd G.x this).kl;omega
   rintro _ w8 rfl H8;rw[D,TJ j.vg aa];refine⟨_,_,rfl,bY (λh=>absurd rfl h) (λ_=>bY (λh=>absurd rfl h) (λ_=>aV rfl (bY (λh=>absurd rfl h) (λ_=>bY (λh=>absurd (by omega) h) (λ_=>?_)))))⟩;rw[bw _ (by omega)];exact ih (i+1) w8 (by omega) ((H8.take 0).forget _ (by simp))
 exact loop l.length 0 w2 (by omega) L
end Fl
set_option maxHeartbeats 2000000
def ZR{P:Program}{W:J}{n:String}{g m:Nat}{cs:Array Value}{vs:List Value}(h:P.globalNamed n=some g)(q:W.var? P n=some cs)(e:cs.toList=vs)(k:m=vs.length):Rd W ⟨some (ad g),m,m⟩ vs:=by refine DU k (Nat.le_refl _) (λd=>by cases d) λi v j=>⟨ad g,rfl,?_⟩;rw[show(ad g).add i=⟨g,i,none⟩from FB g i,World.var?_cell h q i,<-j,<-e,Array.getElem?_toList]
def Xj{W:J}(j:laidMetH U [("math/bits.deBruijn32tab",Rows.laid_math_bits_deBruijn32tab),("math/bits.deBruijn64tab",Rows.laid_math_bits_deBruijn64tab),("internal/strconv.uint64pow10",Rows.laid_internal_strconv_uint64pow10),("strconv.ErrRange",Rows.laid_strconv_ErrRange),("strconv.ErrSyntax",Rows.laid_strconv_ErrSyntax),("enthymeme/term.kidCounts",Rows.laid_enthymeme_term_kidCounts)] W):cO.P W:=by rw[MakeChecks.laidMetH_plain _ _ _ (by kernel_rfl)]at j;obtain⟨g,t,x,fuel,p,h,k,q,w⟩:=Lib.laidMet.reads j (n:="enthymeme/term.kidCounts") (d:=Lib.tabData .i64 xE) (.tail _ (.tail _ (.tail _ (.tail _ (.tail _ (.head _))))));obtain rfl:=Option.some.inj ((show Tryz.prog.globalNamed "enthymeme/term.kidCounts"=some 0 by kernel_rfl).symm.trans h);obtain rfl:=Option.some.inj ((show(Tryz.prog.globals[0]?).map (·.type)=some ZD by kernel_rfl).symm.trans k);exact ZR h q (Lib.cells_of_tab (e:=bn) (n:=35) (by kernel_rfl) (by kernel_rfl) (by kernel_rfl) (by kernel_rfl) w) rfl
def parseBack_walk(W:J)(e:laidMetH U [("math/bits.deBruijn32tab",Rows.laid_math_bits_deBruijn32tab),("math/bits.deBruijn64tab",Rows.laid_math_bits_deBruijn64tab),("internal/strconv.uint64pow10",Rows.laid_internal_strconv_uint64pow10),("strconv.ErrRange",Rows.laid_strconv_ErrRange),("strconv.ErrSyntax",Rows.laid_strconv_ErrSyntax),("enthymeme/term.kidCounts",Rows.laid_enthymeme_term_kidCounts)] W)(ls:Sl)(d:Int)(w0:ArgNums W ls)(w:dx d):
  Calls U Ck #[ls.v,.i d] W λr q=>r=ae (.bool true)/\ah W q:=by have h:=Xj e;obtain⟨y,j,x,k⟩:=w0;exact Fl.back k (by omega) j w h
end Go.Proofs.YtahmokchdhengaaGreatDoor
