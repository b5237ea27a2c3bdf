import Derived.Test.YtkbmpalepmakmaaGreatDoorOW
import Derived.Test.YtkbmpalepmakmaaGreatDoorTA
import Derived.Test.YtkbmpalepmakmaaGreatDoorT1
import Derived.Test.YtkbmpalepmakmaaGreatDoorN6
import Derived.Test.YtkbmpalepmakmaaGreatDoorW
import Derived.Test.YtkbmpalepmakmaaGreatDoorU
set_option linter.unusedVariables false
set_option maxRecDepth 100000
set_option maxHeartbeats 1000000
set_option linter.defProp false
noncomputable section
namespace Go.Proofs.YtkbmpalepmakmaaGreatDoor
open Go renaming World->I,Calls->ah,Value->V
open Go.IntKind renaming wrap->aE
open _root_.Int renaming toNat->aY,toNat_natCast->cb
open _root_.ByteArray renaming mk->bh
open _root_.Bool renaming and_eq_true->bf
open _root_.Nat renaming le_refl->bz,le_trans->bI,zero_le->dg,lt_of_lt_of_le->pd
open _root_.UInt8 renaming ofNat->c9
open Go.Proofs.Tryz renaming prog->U
open _root_.Decidable renaming decide->ak
open Go.Ending renaming returned->ab
open List renaming mem_append->aP,mem_cons->aF,not_mem_nil->aW,mem_of_getElem?->ay,getElem?_eq_getElem->a0,getElem?_eq_some_iff->cP,mem_flatMap->b',length_append->bM,length_cons->cD,length_nil->gX,append_assoc->dS,mem_singleton->cK,flatMap_cons->dI,drop_eq_getElem_cons->dG,all_eq_true->dF,append_nil->df,nil_append->lS,cons_append->iJ,drop_of_length_le->dH
open Go Go.W
def cL.opn{l:List UInt8}{K:List TK}(k:cL l K):cL (40::l) ((0,[])::K):=λr p h q d=>by obtain⟨e,j,w⟩:=k r (p+1) h q (by rw[cD]at d;rw[Nat.add_assoc,Nat.add_comm 1];exact d);exact⟨⟨0,[],p⟩::e,by rw[List.map_cons,j];rfl,.tok (i:=p) (l:=40::(l++r)) (u:=1) rfl w⟩
def cL.cls{l:List UInt8}{K:List TK}(k:cL l K):cL (41::l) ((1,[])::K):=λr p h q d=>by obtain⟨e,j,w⟩:=k r (p+1) h q (by rw[cD]at d;rw[Nat.add_assoc,Nat.add_comm 1];exact d);exact⟨⟨1,[],p⟩::e,by rw[List.map_cons,j];rfl,.tok (i:=p) (l:=41::(l++r)) (u:=1) rfl w⟩
def aah{u l:List UInt8}{p:Nat}{k:List aN}(j:cy false (u++l)=u.length+cy false l)(w:Lex (p+u.length) l k):Lex p (u++l) k:=by
 have e:(u++l).drop (cy false (u++l))=l.drop (cy false l):=by rw[j,<-List.drop_drop,List.drop_left]
 cases w with
 |fin h=>
  have d:p+u.length+cy false l=p+cy false (u++l):=by rw[j];omega
  rw[d];exact .fin (by rw[e];exact h)
 |tok h q=>
  have d:p+u.length+cy false l=p+cy false (u++l):=by rw[j];omega
  rw[d]at q ⊢;exact .tok (by rw[e];exact h) (by rw[e];exact q)
def cL.pre{u l:List UInt8}{K:List TK}(w:∀r,cy false (u++r)=u.length+cy false r)(k:cL l K):cL (u++l) K:=λr p h q d=>by obtain⟨e,j,x⟩:=k r (p+u.length) h q (by rw[bM,<-Nat.add_assoc]at d;exact d);exact⟨e,j,by rw[dS];exact aah (w _) x⟩
def cL.nl{l:List UInt8}{K:List TK}(d:cL l K):cL (10::l) K:=.pre (u:=[10]) (λr=>by show(if lW 10 then 1+cy false r else _)=_;rw[ag dl];rfl) d
def LU{c:UInt8}{l:List UInt8}(d:mq c=true):kv (c::l):=m4 d
def pG(d:Nx):List UInt8:=[40,100,101,99,108,97,114,101,32]++bl d.tx++32::jd d.st++[41,10]
def pH(L:List Nx):List UInt8:=L.flatMap pG
def afb{t:List UInt8}{k:Int}(d:(t.head?.any hM&&t.all bw&&ak (eV t=(k,0)))=true):cL t [(k,t)]:=by
 simp only[bf,decide_eq_true_eq]at d;refine sH ?_ (λh e=>dF.1 d.1.2 h e) d.2;cases t with
 |nil=>simp at d
 |cons c l=>exact⟨c,l,rfl,by simpa using d.1.1⟩
def cL.lf{l:List UInt8}{K:List TK}(j:cL l K):∃d,Lex 0 l (d++[⟨6,[],l.length⟩])/\d.map kt=K:=by obtain⟨d,h,e⟩:=j [] 0 [⟨6,[],0+l.length+0⟩] (.inl rfl) (.fin rfl);rw[df]at e;rw[show 0+l.length+0=l.length by omega]at e;exact⟨d,e,h⟩
def Tm{T:List aN}{n:Nat}{K:List TK}{y:bS}{t:List UInt8}(h:fN T n K kh y)(w:n<=K.length)(d:T.map kt=K++[(6,t)]):hf T (T.length+1) kh=.ok y:=by
 have j:cG T 0 K:=⟨[(6,t)],by rw[List.drop_zero];exact d⟩;obtain⟨a,b⟩:=h j;have q:T.length=K.length+1:=by have:=congrArg List.length d;simpa using this
 have k:cG T y.s.p [(6,t)]:=by have:cG T 0 (K++[(6,t)]):=⟨[],by rw[List.drop_zero,df];exact d⟩;rw[a];exact this.app.2
 have e:T.length+1=(T.length - n)+1+n:=io
 rw[e,b];exact adr k _
def tK(b:Nat):En:=.c b (nE.map λt=>.string (ba t)) eD
def WR(w:I):ah U OK #[] w λr e=>(∃b,r=ab (.slice (some (aa b)) 35 35)/\w.heap.size<=b/\(tK b).P e)/\af w e:=
 Lo.ok ((O.start (M:=F0) [] us).nw λh _ d=>⟨⟨_,rfl,bz _,d.get 0⟩,d.fr⟩)
def tj(b c:Nat):En:=.all [.c b (k7.map λd=>.string (ba d.2)) eD,.c c (k7.map λd=>.i d.1) bF]
def Xq(w:I):ah U OL #[] w λr h=>(∃b c,r=ab (.tuple #[.slice (some (aa b)) 7 7,.slice (some (aa c)) 7 7])/\(∀j∈(tj b c).fp,w.heap.size<=j)/\(tj b c).P h)/\af w h:=
 Lp.ok ((O.start (M:=F0) [] us).nw λA y k=>k.nw λB z d=>⟨⟨_,_,rfl,λj q=>by
  have:=aU.1 q;simp[En.ob]at this;omega,λx e=>by
  simp only[aF,aW,a2]at e;rcases e with rfl|rfl
  .exact d.get 0
  .exact d.get 1⟩,d.fr⟩)
def GB{w:I}{b i:Nat}{vs:List V}{T:TypeId}{v:V}(d:(En.c b vs T).P w)(hi:vs[i]? =some v):w.cell? ((aa b).add (aY (i:Int) *1))=some v:=by rw[cb,Nat.mul_one];exact cellAt (p:=aa b) (i:=i) d rfl (by grind)
def abT:∀n<31,k7.foldl (ry ((n+4:Nat):Int)) (nE.getD (n+4) [])=dM ((n+4:Nat):Int):=dl
def afg:∀t∈nE,t.length<=10:=dl
def QT{op:Int}(e:4<=op)(h:op<=34):(dM op).length<=10:=by
 have d:∀n<31,(dM ((n+4:Nat):Int)).length<=10:=dl
 have:=d (op - 4).toNat io
 grind
def Dz{s:Sl}{l:List Nd}(Q:I1 (xs l)):∀(n i:Nat),i<n->i<l.length->∀h,GP h s l->ah U OJ #[s.v,.i (i:Int)] h λr y=>r=ab (.string (ba (eY (i+1) (xs l) i)))/\af h y
 |0,i,Y,_,_,_=>absurd Y io
 |n+1,i,Y,hi,h,hP=>by
  have hg:l[i]? =some (l[i]'hi):=a0 hi;generalize l[i]'hi=d at hg;have hx:=pa hg;have J:=tH Q.v hx;have aH:=ay hx;have hlen:=Q.l i (by grind);have hu:=Q.u _ aH;have aK:=Q.t _ aH;have hk:=Q.v.Am i d.x hx;have a8:d.x.kids.length<=3:=by have P:=J.ok.kl;have h2:=(Fi d.x.op).2;omega
  have aj:O F0 h h [] [.gr s l]:=bZ _ (by intro a1 he;rw[cK.1 he];exact bd.2 hP);have E:eY (i+1) (xs l) i=if d.x.op=0 then bl d.x.tx else if d.x.op=1 then 35::98::e7 d.x.u.toNat d.x.st.n.toNat else if d.x.op=2 then i' (bl d.x.tx)else
   if d.x.op=3 then[40,122,101,114,111,32]++jd d.x.st++[41]else
   40::dM d.x.op++fG d.x++d.x.kids.flatMap (λai=>32::eY i (xs l) ai.toNat)++[41]:=by
   conv=>lhs;unfold eY
   rw[hx]
  generalize eY (i+1) (xs l) i=full at E hlen;obtain⟨g1,g2,g3⟩:=eJ (bd.1 (aj.getD 0)) (X:=(i:Int)) rfl hg (K:=λp=>∃C,C=p/\Nd.h6 h p (aY (i:Int)) d) λp hp c=>⟨p,rfl,c⟩;refine i0.aq ⟨g1,g2,sW g3 λp ⟨C,hq,c⟩=>⟨d.x.op,d.ks,d.x.n,d.x.m,d.x.u,d.x.tx,d.x.st.k,d.x.st.n,d.x.st.x,c.c0,c.c1,c.c2,c.c3,c.c4,c.c5,c.c6,c.c7,c.c8,aj.aw λb w1 N=>?_⟩⟩;have N:O F0 h w1 [.g b] [.gr s l]:=N;refine ax (λZ=>N.ae λM F=>?_) (λZ=>ax (λP=>N.ae λM F=>?_) (λP=>ax (λh2=>N.ae λM F=>?_) (λh2=>ax (λh3=>N.ae λM F=>?_) (λh3=>N.ae λM F=>?_))))
  .rw [ag Z]at E;exact⟨by rw[E,jW],F.fr⟩
  .rw [ad Z,ag P]at E;have bg:=tG J.st;have bi:1<=d.x.st.n:=by
    have:=J.st;have a5:=(J.nu P).1;unfold bx at this
    grind
   have e1:aE .i64 (d.x.st.n - 1)=(d.x.st.n.toNat:Int) - 1:=by rw[IntWalk.i64_in _ io];omega
   rw[e1];have:=JH (w:=h) (b:=b) (x0:=d.x.op) (x1:=d.ks) (x2:=d.x.n) (x3:=d.x.m) (x4:=d.x.u) (x5:=d.x.tx) (x6:=d.x.st.k) (x7:=d.x.st.n) (x8:=d.x.st.x) (L:=[.g b]) (D:=[.gr s l]) (u:=d.x.u.toNat) (n:=d.x.st.n.toNat) io io io (R:=λr y=>r=ab (.string (ba full))/\af h y) (λy H'=>⟨by rw[E],H'.fr⟩) us d.x.st.n.toNat M (bz _) F;rw[Nat.sub_self,List.take_zero]at this;exact this
  .rw [ad Z,ad P,ag h2]at E;refine F.av (RY d.x.tx aK M) ?_;rintro _ w3 rfl W;exact⟨_,rfl,by rw[E],W.fr⟩
  .rw [ad Z,ad P,ad h2,ag h3]at E;have be:=TT d.x.st;refine F.av (J3 J.st M) ?_;rintro _ w3 rfl W;refine⟨_,rfl,ov dl (by rw[bC];omega),ov (by rw[ByteArray.size_append,bC];show 6+_<=_;omega) dl,?_,W.fr⟩;rw[E,<-cg,<-cg];rfl
  rw[ad Z,ad P,ad h2,ad h3]at E;have aJ:=J.op;have bc:=QT (op:=d.x.op) io aJ.2;have aO:(fG d.x).length+2<=full.length:=by grind
  refine F.g5 (WR M) ?_;rintro _ w3 ⟨T,rfl,bj,aV⟩ _ F3;have W:=F3.rd (tK T) aV (λaZ hx=>by
   have:aZ=T:=by simpa[tK,En.ob]using hx
   omega)
  have aX:(nE.map λt=>Value.string (ba t))[d.x.op.toNat]? =some (.string (ba (nE.getD d.x.op.toNat []))):=by
   have:d.x.op.toNat<nE.length:=by show _<35;omega
   grind
  have bk:(nE.getD d.x.op.toNat []).length<=10:=by
   have:d.x.op.toNat<nE.length:=by grind
   rw[List.getD_eq_getElem?_getD,a0 this];exact afg _ (List.getElem_mem this)
  refine⟨⟨some (aa T),35,35⟩,rfl,aJ.1,by grind,ba (nE.getD d.x.op.toNat []),?_,ov dl (by rw[bC];omega),?_⟩
  .have:=GB (w:=w3) (W.getD 1) aX
   grind
  refine(W.g5 (Xq w3) ?_:);rintro _ w4 ⟨G,H,rfl,aS,aQ⟩ _ F4;have H4:=F4.rd (tj G H) aQ aS;have H4:O F0 h w4 [.g b] [.gr s l,tK T,tj G H]:=H4;refine⟨⟨some (aa G),7,7⟩,⟨some (aa H),7,7⟩,rfl,?_⟩;have kids:∀(m j:Nat) (o:List UInt8) (e:I),j+m=d.x.kids.length->full=o++(d.x.kids.drop j).flatMap (λai=>32::eY i (xs l) ai.toNat)++[41]->O F0 h e [.g b] [.gr s l]->
    i0.iQ s b d.x.op d.ks d.x.n d.x.m d.x.u d.x.tx d.x.st.k d.x.st.n d.x.st.x (ba o) (j:Int) e λr y=>r=ab (.string (ba full))/\af h y:=by
   intro m;induction m with
   |zero=>
    intro j o e hj B z;have aN:d.ks.n=d.x.kids.length:=bJ.len ((bd.1 (z.getD 0)).2 d (ay hg));have am:=congrArg List.length B;simp only[bM]at am;refine i0.mQ (aT (a7 io) ⟨ov (by rw[bC];omega) dl,?_,z.fr⟩);rw[B,dH io];rw[show(bh #[41])=ba [41]from rfl,cg];simp
   |succ m ih=>
    intro j o e hj B z;have aI:=(bd.1 (z.getD 0)).2 d (ay hg);have aN:d.ks.n=d.x.kids.length:=bJ.len aI;have ar:d.x.kids[j]? =some (d.x.kids[j]'io):=a0 io;have aG:d.x.kids.drop j=d.x.kids[j]'io::d.x.kids.drop (j+1):=dG io;generalize d.x.kids[j]'io=ai at ar aG;obtain⟨k0,k1⟩:=hk ai (ay ar);rw[aG,dI]at B;have am:=congrArg List.length B;simp only[bM,cD]at am;obtain⟨kn,rfl⟩:=Int.eq_ofNat_of_zero_le k0;rw[cb,QI Q.v.Am i kn io (kn+1) io]at B am;refine i0.mQ (aR (a6 io) ⟨ov (by rw[bC];omega) dl,io,io,bJ.cell aI ar io λC hq hc=>⟨(kn:Int),hc,?_⟩⟩);refine z.av (Dz Q n kn io io e (bd.1 (z.getD 0))) ?_;rintro _ q rfl A;refine⟨_,rfl,ov (by rw[ByteArray.size_append,bC];show _+1<=_;omega) (by rw[bC];omega),?_⟩;show i0.iQ s b d.x.op d.ks d.x.n d.x.m d.x.u d.x.tx d.x.st.k d.x.st.n d.x.st.x _ (aE .i64 ((j:Int)+1)) q _;rw[bt _ io,show(bh #[32])=ba [32]from rfl,cg,cg]
    grind
  have S4:∀e,O F0 h e [.g b] [.gr s l]->i0.gw s b d.x.op d.ks d.x.n d.x.m d.x.u d.x.tx d.x.st.k d.x.st.n d.x.st.x (ba (40::dM d.x.op++fG d.x)) e λr y=>r=ab (.string (ba full))/\af h y:=λe z=>
   kids d.x.kids.length 0 _ e io (by grind) z
  have fin:∀e,O F0 h e [.g b] [.gr s l]->i0.nO s b d.x.op d.ks d.x.n d.x.m d.x.u d.x.tx d.x.st.k d.x.st.n d.x.st.x (ba (40::dM d.x.op)) e (λr y=>r=ab (.string (ba full))/\af h y)\/True:=λ_ _=>.inr trivial;have an:(bh #[32])=ba [32]:=rfl;have hz:(ba (40::dM d.x.op)).size<=11:=by rw[bC];grind
  have S7:(d.x.op=22\/d.x.op=23\/d.x.op=28)->∀e,O F0 h e [.g b] [.gr s l]->i0.nO s b d.x.op d.ks d.x.n d.x.m d.x.u d.x.tx d.x.st.k d.x.st.n d.x.st.x (ba (40::dM d.x.op)) e λr y=>r=ab (.string (ba full))/\af h y:=λB e z=>by
   obtain⟨q1,q2⟩:=J.n2 B;have a4:=lD d.x.n.toNat;refine⟨ov io dl,z.av (uo (w:=e) q1 io) ?_⟩;rintro _ q rfl A;refine⟨_,rfl,ov (by rw[ByteArray.size_append];show _+1<=_;omega) (by rw[bC];omega),?_⟩;have S:fG d.x=32::cV d.x.n.toNat:=by unfold fG;grind
   have:=S4 q A;rw[S]at this;rw[an,cg,cg]
   grind
  have S8:¬(d.x.op=21\/d.x.op=22\/d.x.op=23\/d.x.op=28)->∀e,O F0 h e [.g b] [.gr s l]->i0.rO s b d.x.op d.ks d.x.n d.x.m d.x.u d.x.tx d.x.st.k d.x.st.n d.x.st.x (ba (40::dM d.x.op)) d.x.op e λr y=>r=ab (.string (ba full))/\af h y:=λB e z=>by
   refine ax (λaL=>⟨ov io dl,z.av (RY d.x.tx aK e) ?_⟩) (λaL=>?_)
   .rintro _ q rfl A;have S:fG d.x=32::i' (bl d.x.tx):=by unfold fG;grind
    rw[S,cD]at aO;refine⟨_,rfl,ov (by rw[ByteArray.size_append];show _+1<=_;omega) (by rw[bC];omega),?_⟩;have:=S4 q A;rw[S]at this;rw[an,cg,cg]
    grind
   .have S:fG d.x=[]:=by unfold fG;grind
    grind
  have loop:∀(m j:Nat) (o:List UInt8) (e:I),j+m=7->o=(k7.take j).foldl (ry d.x.op) (nE.getD d.x.op.toNat [])->O F0 h e [.g b] [.gr s l,tK T,tj G H]->
    i0.l7 s b d.x.op d.ks d.x.n d.x.m d.x.u d.x.tx d.x.st.k d.x.st.n d.x.st.x (ba (40::o)) ⟨some (aa G),7,7⟩ ⟨some (aa H),7,7⟩ (j:Int) e λr y=>r=ab (.string (ba full))/\af h y:=by
   intro m;induction m with
   |zero=>
    intro j o e hj B z;have h7:j=7:=io
    subst h7;have B:o=dM d.x.op:=by rw[B];have:=abT (d.x.op - 4).toNat io;rw[show((d.x.op - 4).toNat+4)=d.x.op.toNat by omega,show(d.x.op.toNat:Int)=d.x.op by omega]at this;exact this
    subst B;have A:=z.forget [.gr s l] us;refine i0.qF (aT (a7 (by grind)) (ax (λaA=>⟨ov io dl,A.ae λq H7=>?_⟩) (λaA=>?_)))
    .obtain ⟨q1,q2,q3⟩:=J.n1 aA;have a2:=lD d.x.n.toNat;have a3:=lD d.x.m.toNat;refine H7.av (uo (w:=q) io io) ?_;rintro _ w7 rfl H8;refine⟨_,rfl,ov (by rw[ByteArray.size_append];show _+1<=_;omega) (by rw[bC];omega),ov (by rw[ByteArray.size_append,ByteArray.size_append,bC (cV _)];show _+1+_<=_;omega) dl,H8.av (uo (w:=w7) q1 io) ?_⟩;rintro _ w8 rfl H9;refine⟨_,rfl,ov (by rw[ByteArray.size_append,ByteArray.size_append,ByteArray.size_append,bC (cV _)];show _+1+_+1<=_;omega) (by rw[bC];omega),?_⟩;have S:fG d.x=32::cV d.x.n.toNat++32::cV d.x.m.toNat:=by unfold fG;grind
     have:=S4 w8 H9;rw[S]at this;rw[an,cg,cg,cg,cg]
     grind
    .refine ax (λao=>ax (λ_=>S7 (.inl ao) e A) (λY=>absurd ao Y)) (λao=>ax (λap=>ax (λ_=>S7 (.inr (.inl ap)) e A) (λY=>absurd ap Y)) (λap=>ax (λaB=>S7 (.inr (.inr aB)) e A) (λaB=>S8 io e A)))
   |succ m ih=>
    intro j o e hj B z;have ac:j<k7.length:=by show j<7;omega
    have hq:k7[j]? =some (k7[j]'ac):=a0 ac;have aM:(k7[j]'ac).2.length<=10:=by
     have:∀C∈k7,C.2.length<=10:=dl
     grind
    have aU:k7.take (j+1)=k7.take j++[k7[j]'ac]:=by rw[List.take_add_one,hq];rfl
    generalize k7[j]'ac=C at hq aM aU;have a9:(k7.take (j+1)).foldl (ry d.x.op) (nE.getD d.x.op.toNat [])=ry d.x.op o C:=by grind
    have az:∀{q:I},O F0 h q [.g b] [.gr s l,tK T,tj G H]->q.cell? ((aa H).add (aY (j:Int) *1))=some (.i C.1)/\q.cell? ((aa G).add (aY (j:Int) *1))=some (.string (ba C.2)):=λaj=>by have hp:=aj.getD 2;exact⟨GB (hp _ (ay (i:=1) rfl)) (by grind),GB (hp _ (ay (i:=0) rfl)) (by grind)⟩
    have aC:∀(o':List UInt8) (q:I),o'=ry d.x.op o C->O F0 h q [.g b] [.gr s l,tK T,tj G H]->i0.cM s b d.x.op d.ks d.x.n d.x.m d.x.u d.x.tx d.x.st.k d.x.st.n d.x.st.x (ba (40::o')) ⟨some (aa G),7,7⟩ ⟨some (aa H),7,7⟩ (j:Int) q λr y=>r=ab (.string (ba full))/\af h y:=λo' q bb A=>by
     show i0.l7 s b d.x.op d.ks d.x.n d.x.m d.x.u d.x.tx d.x.st.k d.x.st.n d.x.st.x _ _ _ (aE .i64 ((j:Int)+1)) q _;rw[bt _ io]
     grind
    refine i0.qF (aR (a6 (by grind)) ⟨io,by grind,z.ae λq A=>⟨C.1,(az A).1,ax (λhe=>⟨io,by grind,ba C.2,(az A).2,ov dl (by rw[bC];omega),?_⟩) (λhe=>?_)⟩⟩)
    .have:=aC C.2 q (by unfold ry;grind) A;rw[show(bh #[40])=ba [40]from rfl,cg]
     grind
    .exact aC o q (by unfold ry;grind) A
  have:=loop 7 0 _ w4 io rfl H4;rw[show(bh #[40])=ba [40]from rfl,cg]
  grind
def Mq{T:List aN}(q:hS T){s w:aH}{n:Int}(h:dw T s=.ok n w):0<=n/\n<10000000000000:=by
 rcases Nat.lt_or_ge s.p T.length with d|d
 .exact int_lt q d h
 .exfalso;obtain⟨t,y,k,x⟩:=bT h;obtain⟨e,j,_⟩:=qa k;unfold aK at e;rw[List.getD_eq_getElem?_getD,List.getElem?_eq_none d]at e;rw[e]at j;cases j
def MH{tm:aH->PR Nat}:∀(n:Nat) (s:aH) (l:List Int) (e:aH),gA tm n s=.ok l e->l.length=n
 |0,_,_,_,d=>by cases d;rfl
 |n+1,s,l,e,d=>by obtain⟨y,w,x,h⟩:=bT d;obtain⟨q,z,j,k⟩:=bT h;cases k;rw[cD,MH n w q _ j]
def abY:∀d∈fI,d.2.2<=3:=dl
def abn{T:List aN}(P:hS T)(O:∀t∈T,t.kind=5->(gZ t.text).2=0->rL (ba (gZ t.text).1))(tm:aH->PR Nat)(wd:List UInt8)(s:aH)(n:Nx)(Q:aH)(e:i5 T tm wd s=.ok n Q):kz n:=by
 obtain⟨k,W,d,K⟩:=bT e;obtain⟨E,Y,L,N⟩:=bT K;cases N;have S:=MH _ _ _ _ L;have j:cE 0:=⟨io,io⟩;have i:∀{a b:aH} {x:Int},dw T a=.ok x b->cE x/\0<=x:=λe=>by have:=Mq P e;exact⟨⟨io,io⟩,this.1⟩
 have mk:k.2<=3->cE k.1.n->cE k.1.m->0<=k.1.u->(k.1.op=33->rL k.1.tx)->kz {k.1 with kids:=E}:=λa b c G H=>⟨by show E.length<=_;omega,b,c,G,H⟩;unfold ih at d;split at d
 .obtain ⟨u,q,h,d⟩:=bT d;obtain⟨m,F,z,d⟩:=bT d;cases d;exact mk (dg _) j j (i h).2 (λe=>by cases e)
 split at d
 .obtain ⟨u,q,h,d⟩:=bT d;cases d;exact mk (dg _) j j (Int.le_refl _) (λe=>by cases e)
 split at d
 .obtain ⟨u,q,h,d⟩:=bT d;obtain⟨m,F,z,d⟩:=bT d;cases d;exact mk (show 1<=3 by decide) (i h).1 (i z).1 (Int.le_refl _) (λe=>by cases e)
 split at d
 .obtain ⟨u,q,h,d⟩:=bT d;cases d;exact mk (show 1<=3 by decide) (i h).1 j (Int.le_refl _) (λe=>by cases e)
 split at d
 .obtain ⟨u,q,h,d⟩:=bT d;cases d;exact mk (show 1<=3 by decide) (i h).1 j (Int.le_refl _) (λe=>by cases e)
 split at d
 .obtain ⟨u,q,h,d⟩:=bT d;cases d;exact mk (show 1<=3 by decide) (i h).1 j (Int.le_refl _) (λe=>by cases e)
 split at d
 .obtain ⟨r,q,h,d⟩:=bT d;cases d;obtain⟨t,F,z,B⟩:=bT h;obtain⟨A,D,_⟩:=qa z;split at B
  .rename_i J;cases B;refine mk (show 1<=3 by decide) j j (Int.le_refl _) (λ_=>O t ?_ D J);rcases Nat.lt_or_ge s.p T.length with C|C
   .rw [A];exact(o8 C).1
   .unfold aK at A;rw[List.getD_eq_getElem?_getD,List.getElem?_eq_none C]at A;rw[A]at D;cases D
  .cases B
 .cases d;refine mk ?_ j j (Int.le_refl _) (λe=>?_)
  .show ((lk fI wd).getD (0,0)).2<=3;cases w:lk fI wd with
   |none=>exact dg _
   |some y=>exact abY (wd,y) (j1 w)
  .have e:((lk fI wd).getD (0,0)).1=33:=e;have M:∀y∈fI,y.2.1≠33:=dl
   cases w:lk fI wd with
   |none=>rw[w]at e;cases e
   |some y=>rw[w]at e;exact absurd e (M (wd,y) (j1 w))
def IU(t:List UInt8):Prop:=t' (ba t)/\((gZ t).2=0->jH t=true)
def RG{T:List aN}(y:hS T)(h:∀t∈T,t.kind=5->IU t.text):oz 12 T:=
 ⟨TN,dl,λt e d j x=>abH (h t e d).1 j (by rw[kE];exact x),abn y λt e d k=>by obtain⟨q,w⟩:=h t e d;rw[SI (w k)];exact(GF q).2.1⟩
def aaq:(oj.all λt=>(gZ (bl t)).2 !=0)=true:=by kernel_rfl
def aap:(oj.all λt=>EG.contains (bl t))=true:=by kernel_rfl
def aaN{d:Nx}(e:MdN d)(w:d.op=33->mW d.tx=true)(x:d.op=2\/d.op=33):IU (bl d.tx):=by
 rcases x with q|h
 .have j:=e.li q;refine⟨.inl ?_,λk=>?_⟩
  .have:=dF.1 aap _ j;rw[kE];simpa using this
  .have:=dF.1 aaq _ j;rw[k]at this;cases this
 .refine ⟨.inr ?_,λ_=>w h⟩;rw[jW];exact e.re h
def Ib{g:List Nx}:∀(n i:Nat) (t:List UInt8),(5,t)∈bY n g i->∃e∈g,(e.op=2\/e.op=33)/\t=bl e.tx
 |0,_,_,d=>by cases d
 |n+1,i,t,d=>by
  unfold bY at d;split at d
  .cases d
  .rename_i e q;have h:=ay q;split at d
   .simp at d
   split at d
   .simp at d
   split at d
   .rename_i j;refine⟨e,h,.inl j,by simpa using d⟩
   split at d
   .exfalso;unfold ey at d;split at d<;>simp at d
   .rcases aP.1 d with d|d
    .rcases aP.1 d with d|d
     .rcases aP.1 d with d|d
      .simp at d
      .unfold iE at d;split at d
       .simp at d
       split at d
       .simp at d
       split at d
       .rename_i k;exact⟨e,h,.inr k,by simpa using d⟩
       .cases d
     .obtain ⟨w,x,d⟩:=b'.1 d;exact Ib n w.toNat t d
    .simp at d
def RX(b:List UInt8):(i' b).length<=4 *b.length+2:=by have:=(Lw b).2;show([34]++b.flatMap g6++[34]).length<=_;rw[bM,bM];simp only[List.length_singleton];omega
def QJ{g:List Nx}(x:Vg g)(A:∀d∈g,MdN d):∀(n i:Nat),i<n->i<g.length->(eY n g i).length<=150 *ct n g i
 |0,i,j,_=>absurd j io
 |n+1,i,j,k=>by
  have h:g[i]? =some (g[i]'k):=a0 k;generalize g[i]'k=d at h;have w:=A d (ay h);have B:=tH x h;have F:=B.op;have D:ct (n+1) g i=d.kids.foldl (λy e=>y+ct n g e.toNat) 1:=by
   conv=>lhs;unfold ct
   rw[h]
  rw[fold_add]at D;have C:d.op≠33->(bl d.tx).length<=16:=λj=>by rw[dd];exact w.tx j
  unfold eY;rw[h,D];dsimp only;have hs:=tG B.st;split
  .have:=C io;omega
  split
  .have:=px d.u.toNat d.st.n.toNat;simp only[cD];omega
  split
  .have:=C io;have:=RX (bl d.tx);omega
  split
  .have:=TT d.st;simp only[bM,cD,gX];omega
  .rename_i K L M N;have Z:=QT (op:=d.op) io F.2;have Y:(fG d).length<=123:=by
    unfold fG;split
    .have:=lD d.n.toNat;have:=lD d.m.toNat;simp only[bM,cD];omega
    split
    .have:=lD d.n.toNat;simp only[cD];omega
    split
    .rename_i E;have S:=GC (.inr (w.re E));have:=RX (bl d.tx);rw[dd]at this;simp only[cD];omega
    .simp
   have q:∀(ks:List Int),(∀e∈ks,0<=e/\e<(i:Int))->(ks.flatMap λe=>32::eY n g e.toNat).length<=ks.length+150 *ks.foldl (λy e=>y+ct n g e.toNat) 0:=by
    intro ks;induction ks with
    |nil=>intro _;simp
    |cons e ks H=>
     intro z;have W:=z e List.mem_cons_self;have O:=QJ x A n e.toNat io io;have P:=H λJ G=>z J (List.mem_cons_of_mem _ G);rw[dI,bM,List.foldl_cons,fold_add,cD,cD];omega
   have Q:=q d.kids λe q=>x.kids h e q;have T:=w.kl;simp only[bM,cD,gX];omega
def acn:(List.range 1728).all (λd=>Nat.ble (i' (lZ d)).length 29)=true:=by kernel_rfl
def acm(k:Nat):(i' (lZ k)).length<=29:=by rw[Ia];exact Nat.le_of_ble_eq_true (dF.1 acn (k%1728) (List.mem_range.2 (Nat.mod_lt _ io)))
def ack:oj.all (λt=>Nat.ble (i' (bl t)).length 6)=true:=by kernel_rfl
def TQ{s:aM}(e:0<=s.k/\s.k<=3):(jd s).length<=11/\(ey s).length<=5:=by
 have h:=lD s.x.toNat;have j:=lD s.n.toNat;have d:∀k<4,(hL ((k:Nat):Int)).length<=3:=dl
 have d:=d s.k.toNat io;rw[Int.toNat_of_nonneg e.1]at d;unfold jd ey
 grind
def adR{g:List Nx}(x:Vg g){i:Nat}{d:Nx}(hd:g[i]? =some d):(d.op=3->d.st.k≠1)/\(d.op=33->d.st.k=0/\(a8 (g.take i) d 0).k=1):=by
 have e:=x.ok i d hd;unfold bo at e;split at e
 .grind
 split at e
 .refine ⟨λj z=>?_,λq=>io⟩;unfold b6 at e;rw[ad io,ad io]at e;split at e
  .grind
  .rw [ag (.inr ⟨j,by unfold dV;grind⟩)]at e
   grind
 .rename_i y;refine⟨λj=>io,λq=>?_⟩;split at e
  .grind
  rename_i h;split at e
  .grind
  split at e
  .grind
  have h:ek d.op (a8 (g.take i) d 0) (a8 (g.take i) d 1) (a8 (g.take i) d 2)=true:=by grind
  have w:fX d (a8 (g.take i) d 0) (a8 (g.take i) d 1) (a8 (g.take i) d 2)=d.st:=congrArg Prod.fst e;rw[q]at h;have h:((a8 (g.take i) d 0).k==1)=true:=h;refine⟨?_,by grind⟩;rw[<-w];unfold fX;rw[ag io];rfl
def fo:List Nd->Nat->List Int
 |[],_=>[]
 |d::l,i=>if d.x.st=aZ 1 then(i:Int)::fo l (i+1)else fo l (i+1)
def Jv:∀(l:List Nd) (i:Nat) (k:Int),k∈fo l i->∃(j:Nat) (d:Nd),k=((i+j:Nat):Int)/\l[j]? =some d/\d.x.st=aZ 1
 |[],_,_,e=>by cases e
 |d::l,i,k,e=>by
  unfold fo at e;have rest:k∈fo l (i+1)->∃(j:Nat) (h:Nd),k=((i+j:Nat):Int)/\(d::l)[j]? =some h/\h.x.st=aZ 1:=λe=>by obtain⟨j,q,a,b,c⟩:=Jv l (i+1) k e;exact⟨j+1,q,by rw[a];omega,b,c⟩
  split at e
  .rename_i w;rcases aF.1 e with e|e
   .exact ⟨0,d,e,rfl,w⟩
   .exact rest e
  .exact rest e
def Wz{w:I}{s:Sl}{l:List Nd}(B:GP w s l)(K:l.length<=eG):
  ah U Oh #[s.v] w λr j=>(∃t:Sl,r=ab t.v/\bJ j t (fo l 0)/\∀b∈aG t,w.heap.size<=b)/\af w j:=by
 have S:=gz B;unfold eG at K;have loop:∀(m i:Nat) (t:Sl) (ks:List Int) (k:I),i+m=l.length->ks.length<=i->ks++fo (l.drop i) i=fo l 0->O F0 w k [jI t ks] [.gr s l]->
   sg.L0 s t (i:Int) k λr j=>(∃t:Sl,r=ab t.v/\bJ j t (fo l 0)/\∀b∈aG t,w.heap.size<=b)/\af w j:=by
  intro m;induction m with
  |zero=>
   intro i t ks k H J e h;rw[dH io]at e;have e:ks=fo l 0:=by rw[<-e];exact(df _).symm
   rw[<-e];exact sg.cH (aT (a7 io) ⟨⟨t,rfl,lO (h.get 0),λb F=>(h.new _ (ay (i:=0) rfl) b F).resolve_right id⟩,h.fr⟩)
  |succ m C=>
   intro i t ks k H J e h;have z:l[i]? =some (l[i]'io):=a0 io;have G:l.drop i=l[i]'io::l.drop (i+1):=dG io;rw[G]at e;generalize l[i]'io=d at z e;have hlen:=oW (h.get 0);refine sg.cH (aR (a6 io) (h.dr λN A=>eJ (bd.1 (A.getD 0)) rfl z λp L c=>⟨_,_,_,c.s0,c.s1,c.s2,A.call (fD 1 N) ?_⟩));rintro _ P rfl q;have c:=xk (bd.1 (q.getD 0)) z L (rfl:((i:Int))=(i:Int));have E:fo (d::l.drop (i+1)) i=if d.x.st=aZ 1 then(i:Int)::fo (l.drop (i+1)) (i+1)else fo (l.drop (i+1)) (i+1):=rfl;rw[E]at e;refine⟨_,_,_,rfl,c.s0,c.s1,c.s2,nt (a:=d.x.st) (b:=aZ 1) (λy=>?_) (λy=>?_)⟩
   .rw [ag y]at e;refine q.wG 0 pK rfl (λM Q D _ _=>?_) io;dsimp only[sg.S1,ai];rw[bt _ io];exact C (i+1) M (ks++[(i:Int)]) Q io (by simp;omega) (by rw[dS];exact e) (by rw[jI,List.map_append];exact D)
   .rw [ad y]at e;dsimp only[sg.S1,ai];rw[bt _ io];exact C (i+1) t ks P io io e q
 exact sg.ok (loop l.length 0 ⟨none,0,0⟩ [] w io us rfl ((u7 B).iH bF 1))
def qS(l:List Nx):List UInt8:=l.flatMap λd=>if d.op=0 then pG d else[]
def WE{w:I}{s:Sl}{l:List Nd}(C:GP w s l)(hl:l.length<=1000)(hv:∀d∈xs l,bx d.st=true)(Z:∀d∈xs l,d.tx.size<=64):
  ah U OH #[s.v] w λr A=>r=ab (.string (ba (qS (xs l))))/\af w A:=by
 have hs:=gz C;have loop:∀(m i:Nat) (t:List UInt8) (k:I),i+m=l.length->t.length<=100 *i->t++qS ((xs l).drop i)=qS (xs l)->O F0 w k [] [.gr s l]->
   sj.L0 s (ba t) (i:Int) k λr A=>r=ab (.string (ba (qS (xs l))))/\af w A:=by
  intro m;induction m with
  |zero=>
   intro i t k T aa e j;rw[dH (by simp[xs];omega)]at e;have e:t=qS (xs l):=by rw[<-e];exact(df _).symm
   rw[<-e];exact sj.cH (aT (a7 io) ⟨rfl,j.fr⟩)
  |succ m H=>
   intro i t k T aa e j;have h:l[i]? =some (l[i]'io):=a0 io;generalize l[i]'io=d at h;have G:=pa h;have Q:(xs l).drop i=d.x::(xs l).drop (i+1):=by obtain⟨W,S⟩:=cP.1 G;rw[dG W,S]
   have D:=ay G;have aj:=Z _ D;have F:=hv _ D;have E:=tG F;have ae:=(TQ (s:=d.x.st) ⟨E.1,E.2.1⟩).1;rw[Q]at e;unfold qS at e;rw[dI]at e;refine sj.cH (aR (a6 io) (eJ (bd.1 (j.getD 0)) rfl h λp hp c=>⟨_,c.c0,ax (λz=>?_) (λz=>?_)⟩))
   .rw [ag z]at e;refine j.dr λw2 q=>⟨ov (by rw[bC];omega) dl,eJ (bd.1 (q.getD 0)) rfl h λp2 Y J=>⟨_,J.c5,ov (by rw[ByteArray.size_append,bC];show _+9<=_;omega) io,ov (by rw[ByteArray.size_append,ByteArray.size_append,bC];show _+9+_<=_;omega) dl,eJ (bd.1 (q.getD 0)) rfl h λp3 ac y=>⟨_,_,_,y.s0,y.s1,y.s2,q.call (J3 F w2) ?_⟩⟩⟩;rintro _ w3 rfl B;have K:=xk (bd.1 (B.getD 0)) h Y (rfl:((i:Int))=(i:Int));refine⟨_,rfl,K.c5,ov (by rw[ByteArray.size_append,ByteArray.size_append,ByteArray.size_append,bC];show _+9+_+1<=_;omega) (by rw[bC];omega),ov (by rw[ByteArray.size_append,ByteArray.size_append,ByteArray.size_append,ByteArray.size_append,bC,bC];show _+9+_+1+_<=_;omega) dl,?_⟩;dsimp only[sj.S1,ai];rw[bt _ io];have L:ba t++bh #[40,100,101,99,108,97,114,101,32]++d.x.tx++bh #[32]++ba (jd d.x.st)++bh #[41,10]=ba (t++pG d.x):=by
     unfold pG;have M:bh #[40,100,101,99,108,97,114,101,32]=ba [40,100,101,99,108,97,114,101,32]:=rfl;have N:bh #[32]=ba [32]:=rfl;have P:bh #[41,10]=ba [41,10]:=rfl;rw[M,N,P];conv=>lhs;rw[<-jW d.x.tx]
     rw[cg,cg,cg,cg,cg];simp
    rw[L];refine H (i+1) (t++pG d.x) w3 io ?_ (by rw[dS];exact e) B;have h5:=dd d.x.tx;unfold pG;simp only[bM,cD,gX];omega
   .rw [ad z]at e;dsimp only[sj.S1,ai];rw[bt _ io];exact H (i+1) t k io io e j
 exact sj.ok (loop l.length 0 [] w io us rfl (u7 C))
structure IS(kind:Int)(l:List Nd):Prop where
 md:ed (xs l)
 len:l.length<=23
 vars:∀d∈xs l,d.op=0->d∈xs (cW kind)
 w:∀d∈xs l,d.op=1->d.st.n<=16
 sz:∀i,i<l.length->ct (i+1) (xs l) i<=401
 up:∃r,xs l=xs (cW kind)++r
def j2(k:Nat):Nx:=⟨4,[(k:Int)],0,0,0,ba [],a5⟩
def adT{G:List Nx}{k:Nat}{d:Nx}(hd:G[k]? =some d)(h:d.st=aZ 1):bo G (j2 k)=(aZ 1,0):=by
 unfold bo;rw[MJ (n:=j2 k) rfl hd,h];have e:(ck (j2 k).op==((j2 k).kids.length:Int)&&(j2 k).kids.all (dx G)&&fU (j2 k))=true:=by show(ck 4==(([(k:Int)]:List Int).length:Int)&&([(k:Int)]:List Int).all (dx G)&&fU (j2 k))=true;rw[List.all_cons,Al hd];rfl
 rw[e];rfl
def abv(k:Nat):MdN (j2 k):=⟨by show(-1:Int)<=4;decide,by show(4:Int)<=34;decide,by show 1<=3;decide,by show(0:Int)<=0/\(0:Int)<=100;decide,by show(0:Int)<=0/\(0:Int)<=100;decide,by show(0:Int)<=0/\(0:Int)<=1000;decide,λ_=>by show(ba []).size<=16;decide,λd=>(by cases d),λd=>(by cases d)⟩
def Ext(G d:List Nx):Prop:=∃r,d=G++r
def Ext.SH{G:List Nx}:Ext G G:=⟨[],(df _).symm⟩
def Ext.tr{A d e:List Nx}(h:Ext A d)(j:Ext d e):Ext A e:=by obtain⟨r,rfl⟩:=h;obtain⟨s,rfl⟩:=j;exact⟨r++s,dS _ _ _⟩
def Ext.at{A e:List Nx}(h:Ext A e){i:Nat}{d:Nx}(hd:A[i]? =some d):e[i]? =some d:=by obtain⟨r,rfl⟩:=h;exact Ab hd
def gH(G:List Nx)(n:Nx)(k:Nat)(d:List Nx):Prop:=(a3 G n).2.2=0/\(a3 G n).2.1=(k:Int)/\(a3 G n).1=d
def gH.ext{G e:List Nx}{n:Nx}{k:Nat}(h:gH G n k e):Ext G e:=by
 obtain⟨j,_,rfl⟩:=h;obtain⟨_,_,_,_,d⟩:=oB j;rcases d with d|⟨_,d,_⟩
 .exact ⟨[],by rw[d,df]⟩
 .exact ⟨_,d⟩
def gH.again{G G1 G2:List Nx}{n:Nx}{k:Nat}(d:gH G n k G1)(j:Ext G1 G2)(E:Vg G2)(A:n.op≠0):gH G2 n k G2:=by
 obtain⟨r,z⟩:=d.ext.tr j;obtain⟨q,w,x⟩:=d;obtain⟨e,F,y,h,_⟩:=oB q;rw[w]at y;have C:k=F:=io
 subst C;rw[x]at h;have D:bo G2 n=bo G n:=by rw[z];exact TU e λd=>absurd d A
 have B:=Zn E (j.at h);have:a3 G2 n=(G2,(k:Int),0):=by unfold a3;rw[D,ad (by rw[e];simp),B]
 unfold gH;rw[this];exact⟨rfl,rfl,rfl⟩
def I2{G:List Nx}{n:Nx}{w:aM}(x:bo G n=(w,0))(z:G.length<4096)(q:ed G)(A:MdN n):∃e d,gH G n e d/\d.length<=G.length+1/\ed d/\d[e]? =some (dc n w):=by obtain⟨h,r,y,B,_,_,k⟩:=I4 x z q.vg;obtain⟨_,e,j,_⟩:=oB h;refine⟨e,_,⟨h,j,rfl⟩,by rw[y,bM];omega,zn q A h,?_⟩;rw[j,cb]at k;exact k
def Ml{F:Nat->List Nx->Option (Nat×List Nx)}:∀(ks:List Int) (G:List Nx) (l:List Int) (G1:List Nx),fa F ks G=some (l,G1)->l.length=ks.length
 |[],G,l,G1,d=>by cases d;rfl
 |q::ks,G,l,G1,d=>by obtain⟨a,k,e⟩:=Option.bind_eq_some_iff.1 d;obtain⟨b,h,j⟩:=Option.map_eq_some_iff.1 e;cases j;rw[cD,cD,Ml ks a.2 b.1 b.2 h]
def E2{vs:List (List UInt8×Nat)}{g:List Nx}{f i:Nat}{G G1:List Nx}{k:Nat}(z:dT vs g (f+1) i G=some (k,G1)):∃d,g[i]? =some d/\((d.op=0/\lk vs (bl d.tx)=some k/\G1=G)\/(d.op≠0/\∃l w,fa (dT vs g f) d.kids G=some (l,w)/\gH w (dA d l) k G1)):=by
 obtain⟨d,A,j⟩:=Option.bind_eq_some_iff.1 z;refine⟨d,A,?_⟩;split at j
 .rename_i h;obtain⟨B,q,e⟩:=Option.map_eq_some_iff.1 j;cases e;exact .inl ⟨h,q,rfl⟩
 .rename_i h;obtain⟨a,q,e⟩:=Option.bind_eq_some_iff.1 j;split at e
  .rename_i x;cases e;obtain⟨_,B,y,_⟩:=oB x;exact .inr ⟨h,a.1,a.2,q,x,by rw[y,cb],rfl⟩
  .cases e
def Zs{vs:List (List UInt8×Nat)}{g:List Nx}{f i:Nat}{G G1 G2:List Nx}{k:Nat}{d:Nx}{l:List Int}(hd:g[i]? =some d)(h:d.op≠0)(e:fa (dT vs g f) d.kids G=some (l,G1))(j:gH G1 (dA d l) k G2):dT vs g (f+1) i G=some (k,G2):=by unfold dT;rw[hd];show(if d.op=0 then _ else(fa (dT vs g f) d.kids G).bind _)=_;rw[ad h,e];show(if(a3 G1 (dA d l)).2.2=0 then some ((a3 G1 (dA d l)).2.1.toNat,(a3 G1 (dA d l)).1)else none)=_;obtain⟨a,b,c⟩:=j;rw[ag a,b,c,cb]
def Zr{F:Nat->List Nx->Option (Nat×List Nx)}{k:Int}{ks:List Int}{G G1 G2:List Nx}{q:Nat}{l:List Int}(d:F k.toNat G=some (q,G1))(e:fa F ks G1=some (l,G2)):fa F (k::ks) G=some ((q:Int)::l,G2):=by unfold fa;rw[d];show(fa F ks G1).map _=_;rw[e];rfl
def E0{F:Nat->List Nx->Option (Nat×List Nx)}(e:∀i G h G1,F i G=some (h,G1)->Ext G G1):∀(ks:List Int) (G:List Nx) (l:List Int) (G1:List Nx),fa F ks G=some (l,G1)->Ext G G1
 |[],G,l,G1,d=>by cases d;exact .SH
 |h::ks,G,l,G1,d=>by obtain⟨a,j,k⟩:=Option.bind_eq_some_iff.1 d;obtain⟨b,q,w⟩:=Option.map_eq_some_iff.1 k;cases w;exact(e _ _ _ _ j).tr (E0 e ks a.2 b.1 b.2 q)
def sD{vs:List (List UInt8×Nat)}{g:List Nx}:∀(n i:Nat) (G:List Nx) (k:Nat) (G1:List Nx),dT vs g n i G=some (k,G1)->Ext G G1
 |0,_,_,_,_,d=>by cases d
 |n+1,i,G,k,G1,d=>by
  obtain⟨q,_,⟨_,_,rfl⟩|⟨_,l,j,e,h⟩⟩:=E2 d
  .exact .SH
  .exact (E0 (sD n) _ _ _ _ e).tr h.ext
def Mk{F:Nat->List Nx->Option (Nat×List Nx)}(j:∀i G d G1,F i G=some (d,G1)->Ext G G1)(k:∀i G d G1 G2,F i G=some (d,G1)->Ext G1 G2->Vg G2->F i G2=some (d,G2)):
  ∀(ks:List Int) (G:List Nx) (l:List Int) (G1 G2:List Nx),fa F ks G=some (l,G1)->Ext G1 G2->Vg G2->fa F ks G2=some (l,G2)
 |[],G,l,G1,G2,e,_,_=>by cases e;rfl
 |d::ks,G,l,G1,G2,e,q,w=>by obtain⟨a,x,y⟩:=Option.bind_eq_some_iff.1 e;obtain⟨b,h,z⟩:=Option.map_eq_some_iff.1 y;cases z;exact Zr (k _ _ _ _ G2 x ((E0 j _ _ _ _ h).tr q) w) (Mk j k ks a.2 b.1 b.2 G2 h q w)
def sC{vs:List (List UInt8×Nat)}{g:List Nx}:∀(n i:Nat) (G:List Nx) (k:Nat) (G1 G2:List Nx),dT vs g n i G=some (k,G1)->Ext G1 G2->Vg G2->dT vs g n i G2=some (k,G2)
 |0,_,_,_,_,_,e,_,_=>by cases e
 |n+1,i,G,k,G1,G2,e,x,y=>by
  obtain⟨j,w,⟨d,h,rfl⟩|⟨d,l,z,h,q⟩⟩:=E2 e
  .unfold dT;rw[w];show(if j.op=0 then(lk vs (bl j.tx)).map λk=>(k,G2)else _)=_;rw[ag d,h];rfl
  .exact Zs w d (Mk (sD n) (sC n) _ _ _ _ G2 h (q.ext.tr x) y) (q.again x y d)
def E1{vs:List (List UInt8×Nat)}{g:List Nx}(x:∀q∈g,MdN q):∀(n i:Nat) (G:List Nx) (k:Nat) (G1:List Nx),dT vs g n i G=some (k,G1)->ed G->ed G1
 |0,_,_,_,_,e,_=>by cases e
 |n+1,i,G,k,G1,e,h=>by
  obtain⟨q,A,⟨_,_,rfl⟩|⟨E,l,D,j,w,_,rfl⟩⟩:=E2 e
  .exact h
  have kids:∀(ks:List Int) (G:List Nx) (l:List Int) (G1:List Nx),fa (dT vs g n) ks G=some (l,G1)->ed G->ed G1:=by
   intro ks;induction ks with
   |nil=>intro G l G1 e h;cases e;exact h
   |cons k ks C=>
    intro G l G1 e h;obtain⟨a,j,w⟩:=Option.bind_eq_some_iff.1 e;obtain⟨b,y,z⟩:=Option.map_eq_some_iff.1 w;cases z;exact C _ _ _ y (E1 x n _ _ _ _ j h)
  have d:=x q (ay A);have B:=Ml _ _ _ _ j;exact zn (kids _ _ _ _ j h) ⟨d.xW,d.xX,by show l.length<=3;rw[B];exact d.kl,d.n,d.m,d.u,d.tx,d.re,d.li⟩ w
def jz(i j k:Nat):Nx:=⟨19,[(i:Int),(j:Int),(k:Int)],0,0,0,ba [],a5⟩
def ZO{G:List Nx}{n:Nx}{i:Nat}{a b:Int}{l:List Int}{d:Nx}(e:n.kids=a::b::(i:Int)::l)(hd:G[i]? =some d):a8 G n 2=d.st:=by
 unfold a8;rw[e];show(match G[(i:Int).toNat]? with
  |some d=>d.st
  |none=>a5)=_
 rw[cb,hd]
def adP{G:List Nx}{i j k:Nat}{d e f:Nx}(hd:G[i]? =some d)(h:G[j]? =some e)(q:G[k]? =some f)(sd:d.st=aZ 1)(x:e.st=aZ 1)(y:f.st=aZ 1):bo G (jz i j k)=(aZ 1,0):=by
 unfold bo;rw[MJ (n:=jz i j k) rfl hd,ZN (n:=jz i j k) rfl h,ZO (n:=jz i j k) rfl q,sd,x,y];have w:(ck (jz i j k).op==((jz i j k).kids.length:Int)&&(jz i j k).kids.all (dx G)&&fU (jz i j k))=true:=by show(ck 19==(([(i:Int),(j:Int),(k:Int)]:List Int).length:Int)&&([(i:Int),(j:Int),(k:Int)]:List Int).all (dx G)&&fU (jz i j k))=true;rw[List.all_cons,List.all_cons,List.all_cons,Al hd,Al h,Al q];rfl
 rw[w];rfl
def aaL{op:Int}(e:4<=op/\op<=34/\op≠33){ks:List Int}(h:ks.length<=3):MdN ⟨op,ks,0,0,0,ba [],a5⟩:=⟨by show -1<=op;omega,e.2.1,h,by show(0:Int)<=0/\(0:Int)<=100;decide,by show(0:Int)<=0/\(0:Int)<=100;decide,by show(0:Int)<=0/\(0:Int)<=1000;decide,λ_=>by show(ba []).size<=16;decide,λd=>absurd d e.2.2,λd=>by have d:op=2:=d;omega⟩
def eF(G:List Nx)(k:Nat):Prop:=∃d,G[k]? =some d/\d.st=aZ 1
def eF.up{G d:List Nx}{k:Nat}(h:eF G k)(j:Ext G d):eF d k:=by obtain⟨e,a,b⟩:=h;exact⟨e,j.at a,b⟩
def De{G:List Nx}(z:ed G)(y:G.length<4096){k:Nat}(h:eF G k):∃e d,gH G (j2 k) e d/\d.length<=G.length+1/\ed d/\eF d e:=by obtain⟨A,a,b⟩:=h;obtain⟨e,d,j,q,w,x⟩:=I2 (adT a b) y z (abv k);exact⟨e,d,j,q,w,_,x,rfl⟩
def zl{G:List Nx}(F:ed G)(E:G.length<4096){i j k:Nat}(hi:eF G i)(C:eF G j)(D:eF G k):∃e d,gH G (jz i j k) e d/\d.length<=G.length+1/\ed d/\eF d e:=by obtain⟨H,a,b⟩:=hi;obtain⟨J,h,w⟩:=C;obtain⟨K,q,x⟩:=D;obtain⟨e,d,y,z,A,B⟩:=I2 (adP a h q b w x) E F (aaL io us);exact⟨e,d,y,z,A,_,B,rfl⟩
structure mO(vs:List (List UInt8×Nat))(g L:List Nx)(i j c ka kb kn kp kN k1 kq km kr:Nat)(G1 G2 G3 G4 G5 G6 G7 G8 G9:List Nx):Prop where
 a:dT vs g (i+1) i L=some (ka,G1)
 b:dT vs g (j+1) j G1=some (kb,G2)
 n:gH G2 (j2 ka) kn G3
 p:gH G3 (jz ka kb kn) kp G4
 nn:gH G4 (j2 kn) kN G5
 t:gH G5 (jz kn c kN) k1 G6
 q:gH G6 (jz ka k1 kn) kq G7
 m:gH G7 (j2 c) km G8
 r:gH G8 (jz c kb km) kr G9
 ba:eF G1 ka
 bb:eF G2 kb
 bc:eF L c
 bn:eF G3 kn
 bp:eF G4 kp
 bN:eF G5 kN
 b1:eF G6 k1
 bq:eF G7 kq
 br:eF G9 kr
 v2:Vg G2
 v4:Vg G4
 v5:Vg G5
 v6:Vg G6
 v7:Vg G7
 v8:Vg G8
 md:ed G9
 len:G9.length<=900
def chain{vs:List (List UInt8×Nat)}{g L:List Nx}(A:ed g)(hL:ed L)(ac:rR vs g L){i j c:Nat}(hi:eF g i)(hj:eF g j)(z:eF L c)(hl:L.length+ct (i+1) g i+ct (j+1) g j<=890):
  ∃B kb T W Q P Y S Z E F G H y J K M N,mO vs g L i j c B kb T W Q P Y S Z E F G H y J K M N:=by
 obtain⟨ae,di,sd⟩:=hi;obtain⟨af,ej,se⟩:=hj;obtain⟨B,d,d1,e1,a1,a2,a3,a4,a5,a6,a7⟩:=E5 A.vg (i+1) i L (Nat.lt_succ_self _) (cP.1 di).1 hL.vg ac io;rw[di]at a5;cases a5;have m1:=E1 A.nd _ _ _ _ _ a1 hL;obtain⟨kb,x,d2,e2,b1,b2,b3,b4,b5,b6,b7⟩:=E5 A.vg (j+1) j (L++d) (Nat.lt_succ_self _) (cP.1 ej).1 a3 (ac.app d) (by rw[bM];omega);rw[ej]at b5;cases b5;have m2:=E1 A.nd _ _ _ _ _ b1 m1;have h2:(L++d++x).length<=890:=by rw[bM,bM];omega
 have D:Ext (L++d) (L++d++x):=⟨x,rfl⟩;have ad:Ext L (L++d):=⟨d,rfl⟩;have ba:eF (L++d) B:=⟨e1,a6,by rw[a7,sd]⟩;have O:eF (L++d++x) kb:=⟨e2,b6,by rw[b7,se]⟩;generalize L++d++x=F at *;generalize L++d=E at *;obtain⟨T,G,h,n2,m3,w⟩:=De m2 io (ba.up D);obtain⟨W,H,e,p2,m4,p4⟩:=zl m3 io ((ba.up D).up h.ext) (O.up h.ext) w;obtain⟨Q,y,k,q2,m5,q4⟩:=De m4 io (w.up e.ext);have aa:Ext L y:=ad.tr (D.tr (h.ext.tr (e.ext.tr k.ext)));obtain⟨P,J,q,t2,m6,t4⟩:=zl m5 io ((w.up e.ext).up k.ext) (z.up aa) q4;obtain⟨Y,K,C,u2,m7,u4⟩:=zl m6 io (ba.up (D.tr (h.ext.tr (e.ext.tr (k.ext.tr q.ext))))) t4 (w.up (e.ext.tr (k.ext.tr q.ext)));obtain⟨S,M,w1,w2,m8,w4⟩:=De m7 io (z.up (aa.tr (q.ext.tr C.ext)));obtain⟨Z,N,y1,y2,m9,y4⟩:=zl m8 io (z.up (aa.tr (q.ext.tr (C.ext.tr w1.ext)))) (O.up (h.ext.tr (e.ext.tr (k.ext.tr (q.ext.tr (C.ext.tr w1.ext)))))) w4;exact⟨B,kb,T,W,Q,P,Y,S,Z,E,F,G,H,y,J,K,M,N,⟨a1,b1,h,e,k,q,C,w1,y1,ba,O,z,w,p4,q4,t4,u4,y4,m2.vg,m4.vg,m5.vg,m6.vg,m7.vg,m8.vg,m9,io⟩⟩
def hD:List UInt8:=[110,111,116]
def kQ:List UInt8:=[105,116,101]
def iF:List (List UInt8×aM):=[([97],aZ 1),([99],aZ 1)]
def n9:List TK:=de kQ ([(2,[97])]++([(2,[99])]++de hD [(2,[97])]))
def nk:List (List UInt8×aM):=[([98],aZ 1)]
def vl:List TK:=de fH ([(2,[98])]++de fH (de hD [(2,[98])]++[(2,[99])]))
section
variable {E:b3} {G G1 G2 G3 G4:List Nx} {K K1 K2:List TK} {q q1 q2 m m1 m2 k k1 k2 kn i j:Nat}
def ky.one(d:du E q K m G k G1):ky E q 1 K m G [(k:Int)] G1:=by have:=ky.cons d ky.nil;rw[df,Nat.max_zero]at this;exact this
def ky.two(d:du E q K m G k G1)(e:du E q1 K1 m1 G1 k1 G2):ky E (max q q1) 2 (K++K1) (m+m1) G [(k:Int),(k1:Int)] G2:=.cons d (.one e)
def ky.three(d:du E q K m G k G1)(e:du E q1 K1 m1 G1 k1 G2)(h:du E q2 K2 m2 G2 k2 G3):ky E (max q (max q1 q2)) 3 (K++(K1++K2)) (m+(m1+m2)) G [(k:Int),(k1:Int),(k2:Int)] G3:=.cons d (.two e h)
def du.not(hd:E.dp<64)(d:du {E with dp:=E.dp+1} q K m G k G1)(e:gH G1 (j2 k) kn G2):du E (q+1) (de hD K) (m+1) G kn G2:=by obtain⟨a,b,rfl⟩:=e;exact du.op (op:=4) (w:=hD) rfl rfl hd (.one d) a b
def du.ite(hd:E.dp<64)(d:du {E with dp:=E.dp+1} q K m G i G1)(e:du {E with dp:=E.dp+1} q1 K1 m1 G1 j G2)(h:du {E with dp:=E.dp+1} q2 K2 m2 G2 k G3)(x:gH G3 (jz i j k) kn G4):du E (max q (max q1 q2)+1) (de kQ (K++(K1++K2))) (m+(m1+m2)+1) G kn G4:=by obtain⟨a,b,rfl⟩:=x;exact du.op (op:=19) (w:=kQ) rfl rfl hd (.three d e h) a b
def aaP(hd:E.dp+1<64)(d:E.pm=[([97],i),([99],j)])(e:gH G (j2 i) kn G1)(h:gH G1 (jz i j kn) k G2):du E 3 n9 5 G k G2:=
 .ite (q:=1) (q1:=1) (q2:=2) (m:=1) (m1:=1) (m2:=2) io (.pm (by show lk E.pm _=_;rw[d];rfl)) (.pm (by show lk E.pm _=_;rw[d];rfl)) (.not (q:=1) (m:=1) (by show E.dp+1<64;omega) (.pm (by show lk E.pm _=_;rw[d];rfl)) e) h
def AJ{d:Nat}(D:ik E fH=some ⟨iF,d,0⟩)(C:cG E.T d n9)(hd:E.dp+2<64)(A:du {E with dp:=E.dp+1} q K m G i G1)(B:du {E with dp:=E.dp+1} q1 K1 m1 G1 j G2)(e:eF G2 i)(h:eF G2 j)(F:gH G2 (j2 i) kn G3)(H:gH G3 (jz i j kn) k G4):
  du E (max (max q q1) 3+1) (de fH (K++K1)) (m+m1+5+1) G k G4:=by obtain⟨J,w,x⟩:=e;obtain⟨L,y,z⟩:=h;refine du.call (mc:=⟨iF,d,0⟩) dl io D (.two A B) ?_ C (aaP (E:={E with dp:=E.dp+1,pm:=[([97],i),([99],j)],kn:=0}) (by show E.dp+1+1<64;omega) rfl F H);show jO G2 [([97],aZ 1),([99],aZ 1)] [(i:Int),(j:Int)]=true;unfold jO;rw[cb,w];unfold jO;rw[cb,y];simp[x,z,jO]
end
section
variable {vs:List (List UInt8×Nat)} {g L:List Nx} {i j c ka kb kn kp kN k1 kq km kr:Nat} {G1 G2 G3 G4 G5 G6 G7 G8 G9:List Nx}
def mO.yZ(d:mO vs g L i j c ka kb kn kp kN k1 kq km kr G1 G2 G3 G4 G5 G6 G7 G8 G9):Ext G3 G4:=d.p.ext
def mO.yY(d:mO vs g L i j c ka kb kn kp kN k1 kq km kr G1 G2 G3 G4 G5 G6 G7 G8 G9):Ext G1 G4:=(sD _ _ _ _ _ d.b).tr (d.n.ext.tr d.p.ext)
def mO.wh(d:mO vs g L i j c ka kb kn kp kN k1 kq km kr G1 G2 G3 G4 G5 G6 G7 G8 G9):Ext G4 G6:=d.nn.ext.tr d.t.ext
def mO.xL(d:mO vs g L i j c ka kb kn kp kN k1 kq km kr G1 G2 G3 G4 G5 G6 G7 G8 G9):Ext L G1:=sD _ _ _ _ _ d.a
def aby{E:b3}(d:mO vs g L i j c ka kb kn kp kN k1 kq km kr G1 G2 G3 G4 G5 G6 G7 G8 G9){e h:Nat}(H:ik E kX=some ⟨nk,h,1⟩)(J:lk E.ms fH=some ⟨iF,e,0⟩)(y:cG E.T e n9)(F:cG E.T h vl)(G:lk E.vs [99]=some c)(hd:E.dp+10<64){q m:Nat}{K:List TK}(D:du {E with dp:=E.dp+1} q K m G4 ka G4):du E (max q 5+1) (de kX K) (m+16+1) G4 kq G7:=by
 have A:eF G4 ka:=d.ba.up d.yY;have M:eF G4 kn:=d.bn.up d.yZ;have B:eF G4 c:=d.bc.up (d.xL.tr d.yY);obtain⟨C,k,w⟩:=A;refine du.call (mc:=⟨nk,h,1⟩) (q2:=5) (m2:=16) dl io H (.one D) ?_ F ?_
 .show jO G4 [([98],aZ 1)] [(ka:Int)]=true;unfold jO;rw[cb,k];simp[w,jO]
 .have z:∀x,ik {E with dp:=x,pm:=[([98],ka)],kn:=1} fH=some ⟨iF,e,0⟩:=λx=>by
   unfold ik;show(match lk E.ms fH with
    |some m=>if m.ix<1 then some m else none
    |none=>none)=_
   rw[J];rfl
  refine AJ (E:={E with dp:=E.dp+1,pm:=[([98],ka)],kn:=1}) (q:=1) (q1:=4) (m:=1) (m1:=9) (G1:=G4) (z _) y (by show E.dp+1+2<64;omega) (.pm rfl) (AJ (E:={E with dp:=E.dp+1+1,pm:=[([98],ka)],kn:=1}) (q:=2) (q1:=1) (m:=2) (m1:=1) (G1:=G4) (G2:=G4) (z _) y (by show E.dp+1+1+2<64;omega) (.not (q:=1) (m:=1) (by show E.dp+1+1+1<64;omega) (.pm rfl) (d.n.again d.yZ d.v4 (by show(4:Int)≠0;decide))) (du.vs (E:={E with dp:=E.dp+1+1+1,pm:=[([98],ka)],kn:=1}) rfl G) M B d.nn d.t) ?_ d.b1 (d.n.again (d.yZ.tr d.wh) d.v6 (by show(4:Int)≠0;decide)) d.q;exact eF.up ⟨C,k,w⟩ d.wh
def ui{T:List aN}{x:bS}{nm:List UInt8}{KT:List TK}{q k m:Nat}{G:List Nx}(w:du (eP T x) q KT m x.s.g k G)(y:eF G k)(B:x.s.tm+m<=65536)(A:q<=x.ms.length *(T.length+1)+KT.length)(z:x.ms.length<=1000):
  ∃d,fN T 1 (jr false nm KT) x d/\d.vs=x.vs/\d.ms=x.ms/\d.s.g=G/\d.s.tm=x.s.tm+m/\d.cs=x.cs++[⟨1,nm,a5,(k:Int),0⟩]:=by obtain⟨C,h,j⟩:=y;exact⟨_,fN.Wa (e:=false) w h j B A z,rfl,rfl,rfl,rfl,rfl⟩
def np(d KB:List TK):List TK:=jr false [112] (de fH (d++KB))++(jr false [113] (de kX d)++jr false [114] (de fH ([(2,[99])]++KB)))
def rB(d KB:List TK):List TK:=jr false [112] (de kQ (d++(KB++de hD d)))++(jr false [113] (de kQ (d++(de kQ (de hD d++([(2,[99])]++de hD (de hD d)))++de hD d)))++jr false [114] (de kQ ([(2,[99])]++(KB++de hD [(2,[99])]))))
def xC(kp kq kr:Nat):List fM:=[⟨1,[112],a5,(kp:Int),0⟩,⟨1,[113],a5,(kq:Int),0⟩,⟨1,[114],a5,(kr:Int),0⟩]
def abS(d:mO vs g L i j c ka kb kn kp kN k1 kq km kr G1 G2 G3 G4 G5 G6 G7 G8 G9)(hg:Vg g)(hu:∀S∈g,0<=S.u/\S.u<18446744073709551616)(hi:i<g.length)(Y:j<g.length)(ae:g.length<=30){T:List aN}{x:bS}{K M:Nat}(O:x.vs=vs)(B:x.ms=[(fH,⟨iF,K,0⟩),(kX,⟨nk,M,1⟩)])(A:cG T K n9)(h1:cG T M vl)(W:lk vs [99]=some c)(hx:x.s.g=L)(ht:x.s.tm<=100)(hs:ct (i+1) g i<=1000/\ct (j+1) g j<=1000):
  ∃y,fN T 3 (np (bY (i+1) g i) (bY (j+1) g j)) x y/\y.s.g=G9/\y.cs=x.cs++xC kp kq kr:=by
 have N:x.ms.length=2:=by rw[B];rfl
 have Z:∀{y:bS},y.ms=x.ms->∀e,ik {eP T y with dp:=e} fH=some ⟨iF,K,0⟩:=λ{y} w e=>by
  unfold ik;show(match lk y.ms fH with
   |some m=>if m.ix<9223372036854775807 then some m else none
   |none=>none)=_
  rw[w,B];rfl
 have nn:∀{y:bS},y.ms=x.ms->∀e,ik {eP T y with dp:=e} kX=some ⟨nk,M,1⟩:=λ{y} w e=>by
  unfold ik;show(match lk y.ms kX with
   |some m=>if m.ix<9223372036854775807 then some m else none
   |none=>none)=_
  rw[w,B];rfl
 have F:∀{y:bS} {i k:Nat} {G J:List Nx} (e:Nat),y.vs=vs->i<g.length->dT vs g (i+1) i G=some (k,J)->e<=20->du {eP T y with dp:=e} (bY (i+1) g i).length (bY (i+1) g i) (ct (i+1) g i) G k J:=λ{y i k G J} e w hi aa hd=>du.tx (E:={eP T y with dp:=e}) hg hu hi (by show dT y.vs g _ _ _=_;rw[w];exact aa) (by show e+i<64;omega) (λ_ _ _=>rfl);have ad:5<=T.length:=bI dl A.len;obtain⟨h,r1,H,C,g1,t1,c1⟩:=ui (T:=T) (x:=x) (nm:=[112]) (KT:=de fH (bY (i+1) g i++bY (j+1) g j)) (by rw[hx];exact AJ (E:=eP T x) (Z rfl 0) A (by show 0+2<64;omega) (F (y:=x) 1 O hi d.a io) (F (y:=x) 1 O Y d.b io) (d.ba.up (sD _ _ _ _ _ d.b)) d.bb d.n d.p) d.bp io (by rw[N];unfold de;simp only[cD,bM];omega) io
 rw[O]at H;have l1:h.ms.length=2:=by rw[C,N]
 obtain⟨z,r2,P,D,g2,t2,c2⟩:=ui (T:=T) (x:=h) (nm:=[113]) (KT:=de kX (bY (i+1) g i)) (by rw[g1];exact aby (E:=eP T h) d (nn C 0) (by show lk h.ms fH=_;rw[C,B];rfl) A h1 (by show lk h.vs _=_;rw[H];exact W) (by show 0+10<64;omega) (F (y:=h) 1 H hi (sC _ _ _ _ _ _ d.a d.yY d.v4) io)) d.bq io (by rw[l1];unfold de;simp only[cD,bM,gX];omega) io
 rw[H]at P;have D:=D.trans C;have l2:z.ms.length=2:=by rw[D,N]
 have Q:Ext G2 G7:=d.n.ext.tr (d.p.ext.tr (d.wh.tr d.q.ext));have ac:Ext G1 G7:=(sD _ _ _ _ _ d.b).tr Q;obtain⟨y3,r3,v3,m3,g3,t3,c3⟩:=ui (T:=T) (x:=z) (nm:=[114]) (KT:=de fH ([(2,[99])]++bY (j+1) g j)) (by rw[g2];exact AJ (E:=eP T z) (Z D 0) A (by show 0+2<64;omega) (.vs (k:=c) rfl (by show lk z.vs _=_;rw[P];exact W)) (F (y:=z) 1 P Y (sC _ _ _ _ _ _ d.b Q d.v7) io) (d.bc.up (d.xL.tr ac)) (d.bb.up Q) d.m d.r) d.br io (by rw[l2];unfold de;simp only[cD,bM,gX];omega) io
 exact⟨y3,r1.app (r2.app r3),g3,by rw[c3,c2,c1];simp[xC]⟩
def aeK(d:mO vs g L i j c ka kb kn kp kN k1 kq km kr G1 G2 G3 G4 G5 G6 G7 G8 G9)(hg:Vg g)(hu:∀J∈g,0<=J.u/\J.u<18446744073709551616)(hi:i<g.length)(M:j<g.length)(ag:g.length<=30){T:List aN}{x:bS}(B:x.vs=vs)(N:x.ms=[])(K:lk vs [99]=some c)(hx:x.s.g=L)(ht:x.s.tm<=100)(hs:ct (i+1) g i<=1000/\ct (j+1) g j<=1000):
  ∃y,fN T 3 (rB (bY (i+1) g i) (bY (j+1) g j)) x y/\y.s.g=G9/\y.cs=x.cs++xC kp kq kr:=by
 have ac:x.ms.length=0:=by rw[N];rfl
 have h:∀{y:bS} {i k:Nat} {G C:List Nx} (e:Nat),y.vs=vs->i<g.length->dT vs g (i+1) i G=some (k,C)->e<=20->du {eP T y with dp:=e} (bY (i+1) g i).length (bY (i+1) g i) (ct (i+1) g i) G k C:=λ{y i k G C} e hy hi aa hd=>du.tx (E:={eP T y with dp:=e}) hg hu hi (by show dT y.vs g _ _ _=_;rw[hy];exact aa) (by show e+i<64;omega) (λ_ _ _=>rfl);have P:∀S,(j2 S).op≠0:=λS=>by show(4:Int)≠0;decide
 have ae:Ext G1 G2:=sD _ _ _ _ _ d.b;obtain⟨w,r1,z,F,g1,t1,Z⟩:=ui (T:=T) (x:=x) (nm:=[112]) (KT:=de kQ (bY (i+1) g i++(bY (j+1) g j++de hD (bY (i+1) g i)))) (by rw[hx];exact .ite (E:=eP T x) (by show 0<64;omega) (h (y:=x) 1 B hi d.a io) (h (y:=x) 1 B M d.b io) (.not (by show 0+1<64;omega) (h (y:=x) 2 B hi (sC _ _ _ _ _ _ d.a ae d.v2) io) d.n) d.p) d.bp io (by rw[ac];unfold de;simp only[cD,bM,gX];omega) io
 rw[B]at z;rw[N]at F;have l1:w.ms.length=0:=by rw[F];rfl
 have D:=sC _ _ _ _ _ _ d.a d.yY d.v4;have Y:=sC _ _ _ _ _ _ d.a (d.yY.tr d.wh) d.v6;have Q:=d.n.again d.yZ d.v4 (P _);have ad:=d.n.again (d.yZ.tr d.wh) d.v6 (P _);obtain⟨A,r2,H,O,g2,t2,c2⟩:=ui (T:=T) (x:=w) (nm:=[113]) (KT:=de kQ (bY (i+1) g i++(de kQ (de hD (bY (i+1) g i)++([(2,[99])]++de hD (de hD (bY (i+1) g i))))++de hD (bY (i+1) g i)))) (by
  rw[g1];exact .ite (E:=eP T w) (by show 0<64;omega) (h (y:=w) 1 z hi D io)
   (.ite (by show 0+1<64;omega) (.not (by show 0+1+1<64;omega) (h (y:=w) 3 z hi D io) Q) (.vs (k:=c) rfl (by show lk w.vs _=_;rw[z];exact K)) (.not (by show 0+1+1<64;omega) (.not (by show 0+1+1+1<64;omega) (h (y:=w) 4 z hi D io) Q) d.nn) d.t)
   (.not (by show 0+1<64;omega) (h (y:=w) 2 z hi Y io) ad) d.q) d.bq io (by rw[l1];unfold de;simp only[cD,bM,gX];omega) io
 rw[z]at H;rw[F]at O;have l2:A.ms.length=0:=by rw[O];rfl
 have af:Ext G2 G7:=d.n.ext.tr (d.p.ext.tr (d.wh.tr d.q.ext));obtain⟨y3,r3,v3,m3,g3,t3,c3⟩:=ui (T:=T) (x:=A) (nm:=[114]) (KT:=de kQ ([(2,[99])]++(bY (j+1) g j++de hD [(2,[99])]))) (by
  rw[g2];have W:∀e,lk ({eP T A with dp:=e}:b3).vs [99]=some c:=λe=>by show lk A.vs _=_;rw[H];exact K
  exact .ite (E:=eP T A) (by show 0<64;omega) (.vs (k:=c) rfl (W 1)) (h (y:=A) 1 H M (sC _ _ _ _ _ _ d.b af d.v7) io) (.not (by show 0+1<64;omega) (.vs (k:=c) rfl (W 2)) d.m) d.r) d.br io (by rw[l2];unfold de;simp only[cD,bM,gX];omega) io
 exact⟨y3,r1.app (r2.app r3),g3,by rw[c3,c2,Z];simp[xC]⟩
end
def oR:Nat->List UInt8->Option (List TK)
 |0,_=>none
 |_+1,[]=>some []
 |f+1,c::l=>
  if c=40 then(oR f l).map λd=>(0,[])::d else if c=41 then(oR f l).map λd=>(1,[])::d else if c=32 then oR f l else if c=10 then oR f l else
  if hM c&&ak ((eV ((c::l).takeWhile bw)).2=0)then match l.dropWhile bw with
   |[]=>if bw c then some [((eV ((c::l).takeWhile bw)).1,(c::l).takeWhile bw)]else none
   |x::r=>if bw c&&mq x then(oR f (x::r)).map λd=>((eV ((c::l).takeWhile bw)).1,(c::l).takeWhile bw)::d else none
  else none
def q5:∀(f:Nat) (l:List UInt8) (K:List TK),oR f l=some K->cL l K
 |0,_,_,d=>by cases d
 |_+1,[],K,d=>by cases d;exact .nil
 |f+1,c::l,K,d=>by
  unfold oR at d;split at d
  .rename_i e;obtain⟨j,k,rfl⟩:=Option.map_eq_some_iff.1 d;subst e;exact .opn (q5 f l j k)
  split at d
  .rename_i e;obtain⟨j,k,rfl⟩:=Option.map_eq_some_iff.1 d;subst e;exact .cls (q5 f l j k)
  split at d
  .rename_i e;subst e;exact .sp (q5 f l K d)
  split at d
  .rename_i e;subst e;exact .nl (q5 f l K d)
  split at d
  .rename_i e;simp only[bf,decide_eq_true_eq]at e;have z:bw c=true->cL ((c::l).takeWhile bw) [((eV ((c::l).takeWhile bw)).1,(c::l).takeWhile bw)]:=λh=>by
    refine afb ?_;have A:(c::l).takeWhile bw=c::l.takeWhile bw:=by rw[List.takeWhile_cons,ag h]
    have B:((c::l).takeWhile bw).all bw=true:=List.all_takeWhile;simp only[bf,decide_eq_true_eq];refine⟨⟨?_,B⟩,?_⟩
    .rw [A];simpa using e.1
    .rw [<-e.2]
   have y:bw c=true->(c::l).takeWhile bw++l.dropWhile bw=c::l:=λh=>by rw[List.takeWhile_cons,ag h,iJ,List.takeWhile_append_dropWhile]
   split at d
   .rename_i q;split at d
    .rename_i h;cases d;have:=y h;rw[q,df]at this;have w:=z h;rw[this]at w;rw[this];exact w
    .cases d
   .rename_i x r q;split at d
    .rename_i h;simp only[bf]at h;obtain⟨j,k,rfl⟩:=Option.map_eq_some_iff.1 d;have:=(z h.1).app (q5 f (x::r) j k) ⟨x,r,rfl,h.2⟩;rw[<-q,y h.1]at this;exact this
    .cases d
  .cases d
def A8(L:List Nx):Bool:=A7 kh L&&ak ((L.foldl mZ kh).s.p=(hy L).length)&&(L.foldl mZ kh).ms.isEmpty&&ak ((L.foldl mZ kh).s.tm=0)&&ak ((L.foldl mZ kh).s.g=L)&&
 (lk (L.foldl mZ kh).vs fH).isNone&&(lk (L.foldl mZ kh).vs kX).isNone&&ak (lk (L.foldl mZ kh).vs [99]=some 2)&&ak ((L[2]?).map (·.st)=some (aZ 1))&&
 L.all λd=>match lk (L.foldl mZ kh).vs (bl d.tx)with
  |some e=>ak ((L[e]?).map (·.st)=some d.st)
  |none=>false
def xz:List UInt8:=[40,100,101,102,105,110,101,32,40,109,109,32,40,97,32,40,98,118,32,49,41,41,32,40,99,32,40,98,118,32,49,41,41,41,32,40,105,116,101,32,97,32,99,32,40,110,111,116,32,97,41,41,41,40,100,101,102,105,110,101,32,40,110,110,32,40,98,32,40,98,118,32,49,41,41,41,32,40,109,109,32,98,32,40,109,109,32,40,110,111,116,32,98,41,32,99,41,41,41]
def zi:List UInt8:=[40,97,115,115,101,114,116,32,112,32,40,109,109]
def zj:List UInt8:=[41,41,40,97,115,115,101,114,116,32,113,32,40,110,110]
def zk:List UInt8:=[41,41,40,97,115,115,101,114,116,32,114,32,40,109,109,32,99]
def zy:List UInt8:=[40,97,115,115,101,114,116,32,112,32,40,105,116,101]
def zA:List UInt8:=[41,41,41,40,97,115,115,101,114,116,32,113,32,40,105,116,101]
def zB:List UInt8:=[41,41,41,40,97,115,115,101,114,116,32,114,32,40,105,116,101,32,99]
def nT:List UInt8:=[32,40,110,111,116]
def qt(D A d:List UInt8):List UInt8:=D++xz++zi++32::(A++32::(d++(zj++32::(A++(zk++32::(d++[41,41]))))))
def tv(D A d:List UInt8):List UInt8:=D++zy++32::(A++32::(d++(nT++32::(A++(zA++32::(A++([32,40,105,116,101,32,40,110,111,116]++32::(A++([41,32,99,32,40,110,111,116,32,40,110,111,116]++32::(A++([41,41,41,32,40,110,111,116]++32::(A++(zB++32::(d++[32,40,110,111,116,32,99,41,41,41]))))))))))))))
def zh(w:List UInt8):List TK:=[(0,[]),(2,[97,115,115,101,114,116]),(2,[112]),(0,[]),(2,w)]
def mw:List TK:=m0 fH iF n9++m0 kX nk vl
def qd(L:List Nx):Bool:=ak (oR 1000 (pH L++xz++zi)=some (hy L++mw++zh fH))&&ak (oR 1000 (pH L++zy)=some (hy L++zh kQ))&&A8 L&&Nat.ble (pH L).length 400&&Nat.ble L.length 10
def abK:qd (xs k')=true:=by kernel_rfl
def abL:qd (xs (k'++lY))=true:=by kernel_rfl
def abM:qd (xs (k'++lY++j7))=true:=by kernel_rfl
def abN(kind:Int):qd (xs (cW kind))=true:=by
 unfold cW;by_cases d:kind>0
 .rw [ag d];by_cases e:kind>1
  .rw [ag e];exact abM
  .rw [ad e,df];exact abL
 .rw [ad d,ad io,df,df];exact abK
def aeL{L:List Nx}(h:qd L=true){A k:List UInt8}{q KB:List TK}(e:cL A q)(j:cL k KB):cL (qt (pH L) A k) (hy L++mw++np q KB)/\cL (tv (pH L) A k) (hy L++rB q KB):=by
 unfold qd at h;simp only[bf,decide_eq_true_eq]at h;obtain⟨⟨⟨⟨w,x⟩,_⟩,_⟩,_⟩:=h;have y:=q5 _ _ _ w;have z:=q5 _ _ _ x;have f32:∀l:List UInt8,kv (32::l):=λl=>LU dl;have f41:∀l:List UInt8,kv (41::l):=λl=>LU dl;have d:∀(l:List UInt8) (K:List TK),ak (oR 100 l=some K)=true->cL l K:=λl K h=>q5 100 l K (fk h);have D:=d [41,41] [(1,[]),(1,[])] dl;have B:=d zj [(1,[]),(1,[]),(0,[]),(2,[97,115,115,101,114,116]),(2,[113]),(0,[]),(2,kX)] dl;have C:=d zk [(1,[]),(1,[]),(0,[]),(2,[97,115,115,101,114,116]),(2,[114]),(0,[]),(2,fH),(2,[99])] dl;have E:=d nT [(0,[]),(2,hD)] dl;have F:=d zA [(1,[]),(1,[]),(1,[]),(0,[]),(2,[97,115,115,101,114,116]),(2,[113]),(0,[]),(2,kQ)] dl;have G:=d [32,40,105,116,101,32,40,110,111,116] [(0,[]),(2,kQ),(0,[]),(2,hD)] dl;have H:=d [41,32,99,32,40,110,111,116,32,40,110,111,116] [(1,[]),(2,[99]),(0,[]),(2,hD),(0,[]),(2,hD)] dl;have J:=d [41,41,41,32,40,110,111,116] [(1,[]),(1,[]),(1,[]),(0,[]),(2,hD)] dl;have M:=d zB [(1,[]),(1,[]),(1,[]),(0,[]),(2,[97,115,115,101,114,116]),(2,[114]),(0,[]),(2,kQ),(2,[99])] dl;have N:=d [32,40,110,111,116,32,99,41,41,41] [(0,[]),(2,hD),(2,[99]),(1,[]),(1,[]),(1,[])] dl;constructor
 .have:=y.app (.sp (e.app (.sp (j.app (B.app (.sp (e.app (C.app (.sp (j.app D (f41 _))) (f32 _)) (f41 _))) (f32 _)) (f41 _))) (f32 _))) (f32 _);simpa[qt,np,jr,de,zh,qL]using this
 .have:=z.app (.sp (e.app (.sp (j.app (E.app (.sp (e.app (F.app (.sp (e.app (G.app (.sp (e.app (H.app (.sp (e.app (J.app (.sp (e.app (M.app (.sp (j.app N (f32 _))) (f32 _)) (f41 _))) (f32 _)) (f41 _))) (f32 _)) (f41 _))) (f32 _)) (f32 _))) (f32 _)) (f41 _))) (f32 _)) (f32 _))) (f32 _))) (f32 _);simpa[tv,rB,jr,de,zh,qL]using this
def Ee:∀e:List Nx,e.length<=(hy e).length
 |[]=>dg _
 |d::e=>by
  have j:=Ee e;have h:hy (d::e)=nX (bl d.tx) d.st++hy e:=dI;have:1<=(nX (bl d.tx) d.st).length:=by unfold nX;simp
  rw[h,bM,cD];omega
def aaF{L g:List Nx}(G:qd L=true)(mL:ed L)(C:ed g)(O:g.length<=30)(ai:∀h∈g,h.op=0->h∈L){i j:Nat}(hi:eF g i)(Q:eF g j)(si:ct (i+1) g i<=400)(sj:ct (j+1) g j<=400):
  ∃z K,ed z/\(1<=z.length/\z.length<=900)/\(∀d t,d.map kt=(hy L++mw++np (bY (i+1) g i) (bY (j+1) g j))++[(6,t)]->∃k,hf d (d.length+1) kh=.ok k/\k.s.g=z/\k.cs=K)/\
   ∀d t,d.map kt=(hy L++rB (bY (i+1) g i) (bY (j+1) g j))++[(6,t)]->∃k,hf d (d.length+1) kh=.ok k/\k.s.g=z/\k.cs=K:=by
 unfold qd A8 at G;simp only[bf,Option.isNone_iff_eq_none,decide_eq_true_eq,List.isEmpty_iff]at G;obtain⟨⟨⟨⟨_,_⟩,⟨⟨⟨⟨⟨⟨⟨⟨⟨h1,h2⟩,A⟩,h4⟩,M⟩,v1⟩,v2⟩,v3⟩,g2⟩,hv⟩⟩,_⟩,Z⟩:=G;have Z:=Nat.le_of_ble_eq_true Z;have r0:=λd=>KH (T:=d) L kh h1;generalize L.foldl mZ kh=e at *;have aj:rR e.vs g L:=λh q h0=>by
  have:=dF.1 hv h (ai h q h0);cases W:lk e.vs (bl h.tx)with
  |none=>rw[W]at this;cases this
  |some am=>
   rw[W]at this;obtain⟨F,a,b⟩:=Nw (fk this);exact⟨am,F,rfl,a,b⟩
 obtain⟨h,ac,ad⟩:=Nw g2;obtain⟨ka,kb,kn,kp,kN,k1,kq,km,kr,G1,G2,G3,G4,G5,G6,G7,G8,G9,y⟩:=chain C mL aj hi Q ⟨h,ac,ad⟩ io;have Y:∀h∈g,0<=h.u/\h.u<18446744073709551616:=λh q=>by have:=(C.nd h q).u;omega
 obtain⟨di,ae,_⟩:=hi;obtain⟨dj,af,_⟩:=Q;have P:=(cP.1 ae).1;have S:=(cP.1 af).1;refine⟨G9,e.cs++xC kp kq kr,y.md,⟨by obtain⟨h,aa,_⟩:=y.br;have:=(cP.1 aa).1;omega,y.len⟩,λd t B=>?_,λd t B=>?_⟩
 .have N:cG d 0 (hy L++mw++np (bY (i+1) g i) (bY (j+1) g j)):=⟨[(6,t)],by rw[List.drop_zero];exact B⟩;have q:cG d e.s.p (mw++np (bY (i+1) g i) (bY (j+1) g j)):=by
   rw[dS]at N;have:=N.app.2
   rwa[Nat.zero_add,<-h2]at this
  unfold mw at q;rw[dS]at q;have r1:=fN.defn (T:=d) (x:=e) (nm:=fH) (ps:=iF) (KB:=n9) v1 (by rw[A];rfl) dl dl dl;have r2:=fN.defn (T:=d) (x:=FD e fH iF n9) (nm:=kX) (ps:=nk) (KB:=vl) v2 (by show lk (e.ms++_) _=_;rw[A];rfl) dl dl dl;obtain⟨E,w⟩:∃E,E=FD (FD e fH iF n9) kX nk vl:=⟨_,rfl⟩;have ag:E.ms=[(fH,⟨iF,e.s.p+5+(fV iF).length,0⟩),(kX,⟨nk,e.s.p+(m0 fH iF n9).length+5+(fV nk).length,1⟩)]:=by rw[w];show e.ms++[(fH,⟨iF,e.s.p+5+(fV iF).length,e.ms.length⟩)]++[(kX,⟨nk,e.s.p+(m0 fH iF n9).length+5+(fV nk).length,(e.ms++[(fH,(⟨iF,e.s.p+5+(fV iF).length,e.ms.length⟩:PM))]).length⟩)]=_;rw[A];rfl
  obtain⟨k,D,J,H⟩:=abS y C.vg Y P S O (T:=d) (x:=E) (by rw[w];rfl) ag (KI q) (KI q.app.2) v3 (by rw[w];exact M) (by rw[w];show e.s.tm<=100;omega) ⟨io,io⟩;rw[w]at D;have r:=(r0 d).app (r1.app (r2.app D));have F:hy L++(m0 fH iF n9++(m0 kX nk vl++np (bY (i+1) g i) (bY (j+1) g j)))=hy L++mw++np (bY (i+1) g i) (bY (j+1) g j):=by unfold mw;simp
  rw[F]at r;refine⟨k,Tm r ?_ B,J,by rw[H,w];rfl⟩;have:1<=mw.length:=dl
  unfold mw at this;have q:L.length<=(hy L).length:=Ee L;have ho:10<=(np (bY (i+1) g i) (bY (j+1) g j)).length:=by unfold np jr de;simp;omega
  rw[bM,bM];omega
 .obtain ⟨k,D,J,H⟩:=aeK y C.vg Y P S O (T:=d) (x:=e) rfl A v3 M io ⟨io,io⟩;refine⟨k,Tm ((r0 d).app D) ?_ B,J,H⟩;have q:L.length<=(hy L).length:=Ee L;have ho:10<=(rB (bY (i+1) g i) (bY (j+1) g j)).length:=by unfold rB jr de;simp;omega
  rw[bM];omega
def gk(t:Nat):Int:=[-18,-1,2,2,5,5,8,10,16].getD t 16
def hX(t:Nat):Int:=[18,13,13,10,10,7,7,4,-2].getD t (-2)
def kR(t:Nat):Int:=[18,1,1,1,1,1,1,-3,-11].getD t (-11)
def aeu:∀t<8,-1<=gk (t+1)/\3 *gk t - 14<=gk (t+1)/\2 *gk t - 11<=gk (t+1)/\gk t - 4<=gk (t+1)/\15 - hX t<=gk (t+1)/\hX (t+1)<=13/\hX (t+1)<=11+kR t - gk t/\hX (t+1)<=13 - gk t/\hX (t+1)<=14+2 *hX t/\hX (t+1)<=14+hX t - 2 *gk t/\hX (t+1)<=10+3 *hX t/\hX (t+1)<=14 - gk t+2 *hX t/\kR (t+1)<=1/\kR (t+1)<=12+kR t - 2 *gk t/\kR (t+1)<=14+2 *kR t - gk t/\gk t<=gk (t+1)/\hX (t+1)<=hX t/\kR (t+1)<=kR t/\- hX t<=gk t/\- kR t<=gk t:=dl
def B3:∀t≤8,∀u≤t,gk u<=gk t/\hX t<=hX u/\kR t<=kR u/\- hX t<=gk t/\- kR t<=gk t:=dl
def fb(g:List Nx)(n i:Nat):Int:=((eY n g i).length:Int)+1 - 20 *(ct n g i:Int)
def aav{g:List Nx}{n:Nat}:∀ks:List Int,((ks.flatMap λe=>32::eY n g e.toNat).length:Int)=ks.foldl (λd e=>d+fb g n e.toNat) 0+20 *((ks.foldl (λd e=>d+ct n g e.toNat) 0:Nat):Int):=by
 have j:∀(ks:List Int) (d:Int),ks.foldl (λd e=>d+fb g n e.toNat) d=d+ks.foldl (λd e=>d+fb g n e.toNat) 0:=by
  intro ks;induction ks with
  |nil=>intro d;simp
  |cons e ks h=>intro d;rw[List.foldl_cons,h,List.foldl_cons,h (0+_)];omega
 intro ks;induction ks with
 |nil=>rfl
 |cons e ks h=>
  rw[dI,bM,cD,List.foldl_cons,List.foldl_cons,j,fold_add _ ks (0+_)];unfold fb at h ⊢;omega
def adO{g:List Nx}{d:Nx}{st:aM}(e:bo g d=(st,0))(j:4<=d.op):ek d.op (a8 g d 0) (a8 g d 1) (a8 g d 2)=true/\fX d (a8 g d 0) (a8 g d 1) (a8 g d 2)=st:=by
 unfold bo at e;split at e
 .exact absurd (congrArg Prod.snd e) us
 rw[ad io]at e;split at e
 .exact absurd (congrArg Prod.snd e) us
 rename_i h;split at e
 .exact absurd (congrArg Prod.snd e) us
 split at e
 .exact absurd (congrArg Prod.snd e) us
 exact⟨by simpa using h,congrArg Prod.fst e⟩
def ZT{g:List Nx}{d:Nx}{i j:Nat}{k:Int}{e:Nx}(q:d.kids[j]? =some k)(w:k.toNat<i)(h:g[k.toNat]? =some e):a8 (g.take i) d j=e.st:=by
 unfold a8;rw[q];show(match(g.take i)[k.toNat]? with
  |some d=>d.st
  |none=>a5)=_
 rw[List.getElem?_take_of_lt w,h]
def abW:∀n<31,(dM ((n+4:Nat):Int)).length<=[3,3,3,2,3,3,3,4,4,3,4,4,3,3,2,3,6,7,4,4,6,5,4,3,4,3,3,4,7,2,4].getD n 0:=dl
def abU{o:Int}(d:¬o=0)(e:¬o=1)(h:¬o=2)(j:¬o=3)(q:¬o=33)(k:0<=o/\o<=34):o=4\/o=5\/o=21\/o=22\/o=23\/o=27\/o=28\/o=34\/o=19\/o=25\/o=30\/o=32\/o=24\/o=29\/o=20\/o=26\/o=31\/o=16\/o=17\/o=18\/o=6\/o=7\/o=8\/o=9\/o=10\/o=11\/o=12\/o=13\/o=14\/o=15:=io
def l8(g:List Nx)(n k t:Nat)(d:aM):Prop:=fb g n k<=gk t/\(d.k=1->fb g n k<=- hX t)/\(2<=d.k->fb g n k<=- kR t)
def l8.up{g:List Nx}{n k t u:Nat}{h:aM}(d:l8 g n k t h)(q:t<=u)(j:u<=8):l8 g n k u h:=by obtain⟨a,b,c,_⟩:=B3 u j t q;exact⟨by have:=d.1;omega,λe=>by have:=d.2.1 e;omega,λe=>by have:=d.2.2 e;omega⟩
def Nb{g:List Nx}(C:Vg g)(hm:∀d∈g,MdN d)(W:∀d∈g,d.op=1->d.st.n<=16){s:Nat}(h0:∀i d,g[i]? =some d->i<s->d.op=0)(ac:∀d∈g,d.op=0->(bl d.tx).length=1)(hs:g.length<=s+8):
  ∀(n i:Nat) (d:Nx),i<n->g[i]? =some d->l8 g n i (i+1 - s) d.st
 |0,i,d,e,_=>absurd e io
 |n+1,i,d,e,B=>by
  have Q:=ay B;have aa:=hm d Q;have K:=tH C B;have av:=K.op;have aq:=(cP.1 B).1;have hz:ct (n+1) g i=d.kids.foldl (λq k=>q+ct n g k.toNat) 1:=by
   conv=>lhs;unfold ct
   rw[B]
  rw[fold_add]at hz;have w:eY (n+1) g i=if d.op=0 then bl d.tx else if d.op=1 then 35::98::e7 d.u.toNat d.st.n.toNat else if d.op=2 then i' (bl d.tx)else
    if d.op=3 then[40,122,101,114,111,32]++jd d.st++[41]else 40::dM d.op++fG d++d.kids.flatMap (λk=>32::eY n g k.toNat)++[41]:=by
   conv=>lhs;unfold eY
   rw[B]
  by_cases G:d.op=0
  .rw [ag G]at w;have h1:=ac d Q G;have aG:1<=ct (n+1) g i:=io
   have A:fb g (n+1) i<=-18:=by unfold fb;rw[w,h1];omega
   exact l8.up (t:=0) ⟨A,λ_=>A,λ_=>A⟩ (dg _) io
  rw[ad G]at w;have ax:s<=i:=Nat.le_of_not_lt λe=>G (h0 i d B e);obtain⟨t,ht⟩:∃t,i+1 - s=t+1:=⟨i - s,io⟩;have aw:t<8:=io
  rw[ht];obtain⟨s1,s2,s3,s4,s5,s6,s7,s8,s9,aI,aJ,aK,aL,aN,aO,aQ,_,aR,_,aS⟩:=aeu t aw;obtain⟨_,_,_,u1,u2⟩:=B3 t io t (bz _);obtain⟨_,_,_,u3,u4⟩:=B3 (t+1) io (t+1) (bz _);have af:=tG K.st;by_cases H:d.op=1
  .rw [ag H]at w;have hb:=px d.u.toNat d.st.n.toNat;have W:=W d Q H;have h:=(K.nu H).1;have A:fb g (n+1) i<=-1:=by unfold fb;rw[w];simp only[cD];omega
   exact⟨io,λe=>io,λe=>io⟩
  rw[ad H]at w;by_cases J:d.op=2
  .rw [ag J]at w;have hq:=Nat.le_of_ble_eq_true (dF.1 ack _ (aa.li J));have A:fb g (n+1) i<=-13:=by unfold fb;rw[w];omega
   have h:d.st.k=1:=by
    have h:=C.ok i d B;unfold bo at h;split at h
    .exact absurd (congrArg Prod.snd h) us
    rw[ag io]at h;unfold b6 at h;rw[ag J]at h;split at h
    .exact absurd (congrArg Prod.snd h) us
    .have:=congrArg Prod.fst h;exact congrArg aM.k this.symm
   exact⟨io,λe=>io,λe=>io⟩
  rw[ad J]at w;by_cases O:d.op=3
  .rw [ag O]at w;have hq:=(TQ (s:=d.st) ⟨af.1,af.2.1⟩).1;have h:=(adR C B).1 O;have A:fb g (n+1) i<=-1:=by unfold fb;rw[w];simp only[bM,cD,gX];omega
   exact⟨io,λe=>absurd e h,λe=>io⟩
  rw[ad O]at w;have an:=aav (g:=g) (n:=n) d.kids;have hE:fb g (n+1) i=((dM d.op).length:Int)+((fG d).length:Int) - 17+d.kids.foldl (λq k=>q+fb g n k.toNat) 0:=by unfold fb at an ⊢;rw[w];simp only[bM,cD,gX];omega
  clear an w hz;have Y:∀(j:Nat) (k:Int),d.kids[j]? =some k->l8 g n k.toNat t (a8 (g.take i) d j):=λj k h=>by have az:=C.kids B k (ay h);have aj:g[k.toNat]? =some (g[k.toNat]'io):=a0 io;have:=Nb C hm W h0 ac hs n k.toNat _ io aj;rw[ZT h io aj];exact this.up io io
  obtain⟨P,hr⟩:=adO (C.ok i d B) io;have am:=K.ok.kl;have ae:=abW (d.op - 4).toNat io;rw[show(((d.op - 4).toNat+4:Nat):Int)=d.op by omega]at ae;have aB:=lD d.n.toNat;have aA:=lD d.m.toNat;have Z:=λk=>Y 0 k;have ai:=λk=>Y 1 k;have ap:=λk=>Y 2 k;clear Y;generalize a8 (g.take i) d 0=x at *;generalize a8 (g.take i) d 1=y at *;generalize a8 (g.take i) d 2=q at *;have T:d.st.k=(fX d x y q).k:=by rw[hr]
  have one:d.kids.length=1->∃a,d.kids.foldl (λq k=>q+fb g n k.toNat) 0=fb g n a/\l8 g n a t x:=λA=>by obtain⟨a,ha⟩:=List.length_eq_one_iff.1 A;exact⟨a.toNat,by rw[ha];simp,Z a (by rw[ha];rfl)⟩
  have two:d.kids.length=2->∃a b,d.kids.foldl (λq k=>q+fb g n k.toNat) 0=fb g n a+fb g n b/\l8 g n a t x/\l8 g n b t y:=λA=>by
   match h:d.kids,A with
   |[a,b],_=>exact⟨a.toNat,b.toNat,us,Z a (by rw[h];rfl),ai b (by rw[h];rfl)⟩
  have three:d.kids.length=3->∃a b c,d.kids.foldl (λq k=>q+fb g n k.toNat) 0=fb g n a+fb g n b+fb g n c/\l8 g n a t x/\l8 g n b t y/\l8 g n c t q:=λA=>by
   match h:d.kids,A with
   |[a,b,c],_=>exact⟨a.toNat,b.toNat,c.toNat,us,Z a (by rw[h];rfl),ai b (by rw[h];rfl),ap c (by rw[h];rfl)⟩
  clear Z ai ap;have ao:d.op=33->(fG d).length<=30:=λz=>by
   obtain⟨kt,ar⟩:=aa.re z;have aC:(i' (bl d.tx)).length<=29:=by rw[ar,kE];exact acm kt
   unfold fG;rw[ad io,ad io,ag z,cD];omega
  have S:d.op≠33->(fG d).length=if d.op=21 then 2+(cV d.n.toNat).length+(cV d.m.toNat).length else if d.op=22\/d.op=23\/d.op=28 then 1+(cV d.n.toNat).length else 0:=λz=>by
   unfold fG;split
   .simp only[bM,cD];omega
   split
   .simp only[cD];omega
   .first
     |rfl
     |(rw[ad z];rfl)
  generalize(fG d).length=ml at *;unfold l8 at one two three ⊢;generalize d.kids.foldl (λq k=>q+fb g n k.toNat) 0=F at *;generalize fb g (n+1) i=N at *;generalize(dM d.op).length=ol at *;generalize gk (t+1)=B1 at *;generalize hX (t+1)=S1 at *;generalize kR (t+1)=A1 at *;generalize gk t=B0 at *;generalize hX t=S0 at *;generalize kR t=A0 at *;by_cases z:d.op=33
  .have S:=ao z;simp[z,ck]at am;simp[fX,z,aZ]at T;simp[ek,z]at P;simp[z]at ae;obtain⟨a,E,L,D,M⟩:=one io;have:=D P;exact⟨io,λe=>io,λe=>io⟩
  have S:=S z;have h2:=abU G H J O z av;clear C hm W h0 ac hs B Q aa K aq hr af ao;rcases h2 with e|e|e|e|e|e|e|e|e|e|e|e|e|e|e|e|e|e|e|e|e|e|e|e|e|e|e|e|e|e;all_goals simp[e,ck]at am
  all_goals simp[e]at ae
  all_goals simp[e]at S
  all_goals simp[ek,e,dV]at P
  all_goals simp[fX,e,aZ,e0]at T
  iterate 8
   .obtain ⟨a,E,L,D,M⟩:=one io;exact⟨io,λe=>io,λe=>io⟩
  .obtain ⟨a,b,c,E,⟨L,D,M⟩,⟨q1,q2,q3⟩,⟨r1,r2,r3⟩⟩:=three io;have aH:q.k=y.k:=by
    rcases P.2 with e|e
    .rw [e]
    .omega
   have h:d.st.k=y.k:=by
    rw[T];split
    .rename_i e;exact e.symm
    .rfl
   exact⟨io,λe=>io,λe=>io⟩
  iterate 3
   .obtain ⟨a,b,c,E,⟨L,D,M⟩,⟨q1,q2,q3⟩,⟨r1,r2,r3⟩⟩:=three io;exact⟨io,λe=>io,λe=>io⟩
  .obtain ⟨a,b,E,⟨L,D,M⟩,⟨q1,q2,q3⟩⟩:=two io;have h:d.st.k=0\/d.st.k=1:=by
    rw[T];unfold ib;split
    .exact .inl rfl
    .exact .inr rfl
   exact⟨io,λe=>io,λe=>io⟩
  all_goals
   obtain⟨a,b,E,⟨L,D,M⟩,⟨q1,q2,q3⟩⟩:=two io;exact⟨io,λe=>io,λe=>io⟩
def X4{kind:Int}{l:List Nd}(h:IS kind l):qS (xs l)=pH (xs (cW kind)):=by
 obtain⟨r,C⟩:=h.up;have B:∀d∈xs (cW kind),d.op=0:=λd j=>by
  obtain⟨k,z,rfl⟩:=List.mem_map.1 j;have y:k∈k'++lY++j7:=by
   unfold cW at z
   grind
  simp only[k',lY,j7,l4,ot,iJ,lS,aF,aW,a2]at y
  grind
 have D:∀d∈r,d.op≠0:=λd j x=>by
  have A:d∈xs l:=by grind
  have G:=h.vars d A x;have F:=It h.md.vg
  grind
 unfold qS pH;rw[C,List.flatMap_append];have q:∀e:List Nx,(∀d∈e,d.op=0)->e.flatMap (λd=>if d.op=0 then pG d else[])=e.flatMap pG:=by
  intro e;induction e with
  |nil=>grind
  |cons d e E=>
   grind
 have w:∀e:List Nx,(∀d∈e,d.op≠0)->e.flatMap (λd=>if d.op=0 then pG d else[])=[]:=by
  intro e;induction e with
  |nil=>grind
  |cons d e E=>
   grind
 rw[q _ B,w _ D,df]
set_option maxHeartbeats 2000000
namespace TH
def ok:=aB (aA U Tryz.f133 [] []) Pn [.s]
end TH
namespace we
def L0:=bD (aA U Tryz.f131 [] []) [0,2] [(0,.r),(1,.U)]
abbrev t1:=bB L0
def cH:=bO t1 L0
def ok:=aB t1 Qj [.r,.U]
end we
namespace Va
def ok:=aB (aA U Tryz.f129 [] []) Qh [.r,.I]
end Va
namespace rE
def L0:=bD (aA U Tryz.f130 [] []) [0,1,2] [(0,.r),(11,.s),(12,.I),(13,.I)]
abbrev t1:=bB L0
def cH:=bO t1 L0
def ok:=aB t1 Gp [.r,.s]
end rE
namespace Vb
def ok:=aB (aA U Tryz.f132 [] []) Qi [.r,.st]
end Vb
namespace U'
def ok:=aB (aA U Tryz.f99 [] []) Qg [.r]
end U'
namespace UK
def ok:=aB (aA U Tryz.f98 [] []) Qe [.r,.r]
end UK
namespace UE
def ok:=aB (aA U Tryz.f75 [] []) PX [.r]
end UE
namespace Uy
def aq:=aB (aA U Tryz.f77 [] [3,5]) Gm [.st,.r]
end Uy
namespace Ux
def aq:=aB (aA U Tryz.f48 [(1,lr 11)] [3,4]) PN [.r,.a 9,.I,.s,.I,.I,.U,.st,.I,.I,.I]
end Ux
namespace Uv
def ok:=aB (aA U Tryz.f49 [(1,lr 11)] []) PJ [.r,.a 9,.I,.s,.I,.I,.U,.st,.I,.I,.I]
end Uv
namespace B5
abbrev S0:=ai (aA U Tryz.f47 [(1,ls [0,1,2,3,5,6,7,8,9,4,10]),(3,lr 9),(4,lr 11)] []) [3] [(0,.r),(3,.r)]
abbrev t1:=aj S0
def ok:=aB t1 PL [.r,.a 9,.I,.s,.I,.I,.U,.st,.I,.I,.I]
end B5
namespace yI
def aX:=bD (aA U Tryz.f28 [] [1,5]) [0,1,1,1,2] [(3,.r),(11,.s),(12,.I),(13,.I)]
abbrev t1:=bB aX
def bR:=bO t1 aX
def aq:=aB t1 PZ [.a 1,.s]
end yI
namespace Uu
def aq:=aB (aA U Tryz.f29 [] [3,6]) PI [.r,.a 9,.I,.s,.I,.I,.U,.st,.I,.I,.I]
end Uu
namespace yH
def aX:=bD (aA U Tryz.f30 [] [2,4]) [0,1,1,1,2] [(1,.s),(2,.l [.I,.s,.I,.I,.U,.st,.I,.I,.I] bP),(4,.l [.I,.s,.I,.I,.U,.st,.I,.I,.I] bP),(5,.s),(13,.I),(14,.I)]
abbrev t1:=bB aX
def bR:=bO t1 aX
def aq:=aB t1 PY [.a 9,.I,.s,.I,.I,.U,.st,.I,.I,.I,.s]
end yH
namespace TG
def ok:=aB (aA U Tryz.f50 [] []) Pm [.s]
end TG
namespace Uw
def aq:=aB (aA U Tryz.f31 [(1,lr 9)] [3,4]) PK [.r,.a 1,.s]
end Uw
namespace yF
def aX:=bD (aA U Tryz.f11 [] [2,3,4,10]) [0,1,1,1,3] [(2,.l [.s] l3),(4,.l [.s] l3),(7,.p),(8,.s),(20,.s),(21,.I),(22,.I)]
abbrev t1:=bB aX
def bR:=bO t1 aX
def aq:=aB t1 PD [.a 1,.s,.a 1,.s]
end yF
namespace KU
abbrev aV:=ai (aA U Tryz.f10 [] [1,4]) [0,1,1,1,3] []
abbrev t1:=aj aV
def aq:=aB t1 NQ []
end KU
def JZ{w:I}{a b:Sl}{l:List Int}(z:bJ w a l)(A:bJ w b l)(K:l.length<=1000):ah U FK #[a.v,b.v] w λr q=>r=ab (.bool true)/\af w q:=by
 have N:=bJ.len z;have nb:=bJ.len A;have C:O F0 w w [] [.rd a (l.map bX),.rd b (l.map bX)]:=bZ _ (by
  intro J B;simp only[aF,aW,a2]at B;rcases B with rfl|rfl
  .exact z
  .exact A)
 have loop:∀(m i:Nat) (d:I),i+m=l.length->O F0 w d [] [.rd a (l.map bX),.rd b (l.map bX)]->oJ.L0 a b (i:Int) d λr q=>r=ab (.bool true)/\af w q:=by
  intro m;induction m with
  |zero=>intro i d G e;exact oJ.cH (aT (a7 io) ⟨rfl,e.fr⟩)
  |succ m H=>
   intro i d G e;have k:l[i]? =some (l[i]'io):=a0 io;generalize l[i]'io=x at k;refine oJ.cH (aR (a6 io) (e.dr λy h=>?_));have E:bJ y a l:=h.getD 0;have F:bJ y b l:=h.getD 1;refine⟨io,io,E.cell k io λp L c=>⟨x,c,io,io,F.cell k io λP M D=>⟨x,D,cq (λj=>absurd rfl j) (λ_=>?_)⟩⟩⟩;rw[bt _ io];exact H (i+1) y io h
 exact oJ.ok (cq (λj=>absurd io j) (λ_=>loop l.length 0 w io C))
def Aw:List UInt8:=[40,100,101,99,108,97,114,101,32,97,32,40,98,118,32,56,41,41,40,100,101,102,105,110,101,32,40,109,32,40,120,32,40,98,118,32,56,41,41,41,32,40,97,100,100,32,120,32,120,41,41,40,97,115,115,101,114,116,32,112,32,40,101,113,32,40,109,32,97,41,32,35,120,48,48,41,41]
def u9:List UInt8:=[40,97,115,115,101,114,116,32,112,32,113,41]
def Fw:List Nx:=[⟨0,[],0,0,0,ba [97],aZ 8⟩,⟨9,[0,0],0,0,0,ba [],aZ 8⟩,⟨1,[],0,0,0,ba [],aZ 8⟩,⟨18,[1,2],0,0,0,ba [],aZ 1⟩]
def xw:List fM:=[⟨0,[97],aZ 8,0,0⟩,⟨1,[112],a5,3,0⟩]
def aar:(match kY Aw with
  |.ok d=>ak (d.s.g=Fw)&&ak (d.cs=xw)
  |.er _ _=>false)=true:=by kernel_rfl
def aat:(match kY u9 with
  |.ok _=>false
  |.er d p=>ak (d=6)&&ak (p=10))=true:=by kernel_rfl
def A2(l:List UInt8):Bool:=match tokens l with
 |.ok d=>d.all λt=>ak (t.kind≠5)
 |.bad _ _=>true
def aas:A2 Aw=true:=by kernel_rfl
def aau:A2 u9=true:=by kernel_rfl
def RF{l:List UInt8}(e:A2 l=true):∀d,tokens l=.ok d->oz 12 d:=λd h=>by unfold A2 at e;rw[h]at e;exact RG (B8 h) λt k j=>absurd j (fk (dF.1 e t k))
structure zd(c:Nat)(d:Nx):Prop where
 kl:d.kids.length<=c
 n:cE d.n
 m:cE d.m
 u:0<=d.u
 tx:d.op=33->t' d.tx
def MdN.sp{d:Nx}(e:MdN d):zd 3 d:=⟨e.kl,⟨by have:=e.n;omega,by have:=e.n;omega⟩,⟨by have:=e.m;omega,by have:=e.m;omega⟩,e.u.1,λh=>.inr (e.re h)⟩
def zd.tok{c:Nat}{d:Nx}(e:zd c d)(j:c<=100):kz d:=⟨by have:=e.kl;omega,e.n,e.m,e.u,λh=>(GF (e.tx h)).2.1⟩
def IX(w:I)(Q:Nx->Prop)(r:Ending)(w':I):Prop:=∃d:Nd,r=ab d.v/\Q d.x/\d.P w'/\∀b∈(bE d).fp,w.heap.size<=b
structure CG(w:I)(p:Addr)(i:Nat)(c:fM):Prop where
 c0:w.cell? ((p.add (i *7)).add 0)=some (.i c.k)
 c1:w.cell? ((p.add (i *7)).add 1)=some (.string (ba c.nm))
 c5:w.cell? ((p.add (i *7)).add 5)=some (.i c.nd)
def zQ{w:I}{s:Sl}{l:List fM}(d:bA 7 w s (hx l)):s.n=l.length:=by have:=d.1;rw[Ko]at this;omega
def wQ{w:I}{s:Sl}{l:List fM}(e:bA 7 w s (hx l)){i:Nat}{c:fM}(hi:l[i]? =some c){K:Addr->Prop}(h:∀p,s.a=some p->CG w p i c->K p):i<s.n/\ea s.a K:=by have q:=zQ e;have k:=(cP.1 hi).1;exact⟨io,gb.elem (f:=qR) (sz:=7) (λ_=>rfl) io e.2.2 hi λp j d=>h p j ⟨d 0 _ rfl,d 1 _ rfl,d 5 _ rfl⟩⟩
def Kl{w:I}{s:Sl}{l:List fM}(q:bA 7 w s (hx l)){i:Nat}{c:fM}(hi:l[i]? =some c){p:Addr}(y:s.a=some p):CG w p i c:=by have h:=(wQ q hi (K:=λe=>∃j,s.a=some j/\CG w j i c) λe d x=>⟨e,d,x⟩).2;rw[y]at h;obtain⟨e,d,k⟩:=h;cases d;exact k
def mA(g:Sl)(l:List Nd)(c:Sl)(cs:List fM):En:=.all [.gr g l,.a9 7 c (hx cs)]
def o0{w:I}{g:Sl}{l:List Nd}{c:Sl}{cs:List fM}(d:(mA g l c cs).P w):GP w g l/\bA 7 w c (hx cs):=⟨bd.1 (d (.gr g l) us),d (.a9 7 c (hx cs)) us⟩
def RB{w0 w:I}{L D:List En}(H:O F0 w0 w L D)(k:cJ∈D){s:ByteArray}(A:s.size<=1000000)(z:∀j,tokens (bl s)=.ok j->oz 12 j){y:bS}(B:kY (bl s)=.ok y):
  ah U q8 #[.string s] w λr q=>∃(g:Sl) (l:List Nd) (c:Sl),r=ab (.tuple #[.agg #[g.v,c.v],.i 0,.i 0])/\xs l=y.s.g/\O F0 w0 q L (D++[mA g l c y.cs]):=by
 refine(DI (H.rd _ k) A z).mono λr q h=>?_;rw[B]at h;obtain⟨⟨g,l,c,rfl,C,E,F,G,J⟩,f⟩:=h;refine⟨g,l,c,rfl,E,H.eO _ f (λx e=>?_) (λb d=>?_)⟩
 .simp only[aF,aW,a2]at e;rcases e with rfl|rfl
  .exact bd.2 C
  .exact F.a9
 .have d:=aU.1 d;obtain⟨x,e,d⟩:=b'.1 d;simp only[aF,aW,a2]at e;rcases e with rfl|rfl
  .exact (G b d).imp id λh=>.inr ⟨_,k,h⟩
  .exact .inl (rp J b d)
def Xe{w:I}(hk:cJ.P w):ah U NQ #[] w λr w'=>r=ab (.bool true)/\af w w':=by
 have G:O F0 w w [] [cJ]:=bZ _ (by intro y he;rw[cK.1 he];exact hk);have z:=aar;cases Q:kY Aw with
 |er y p=>rw[Q]at z;cases z
 |ok aG=>
  rw[Q]at z;simp only[bf,decide_eq_true_eq]at z;obtain⟨hg,hc⟩:=z;have B:=aat;cases S:kY u9 with
  |ok aH=>rw[S]at B;cases B
  |er y p=>
   rw[S]at B;simp only[bf,decide_eq_true_eq]at B;obtain⟨rfl,rfl⟩:=B;refine KU.aq ((RB G us (s:=ba Aw) dl (RF aas) Q).mono ?_);rintro _ w1 ⟨g,l,c,rfl,N,k⟩;rw[hc]at k;rw[hg]at N;have k:O F0 w w1 [] [cJ,mA g l c xw]:=k;have az:l.length=4:=by have:=congrArg List.length N;simpa[xs,Fw]using this
   have W:∀(i:Nat) (d:Nx),Fw[i]? =some d->∃y:Nd,l[i]? =some y/\y.x=d:=λi d C=>by rw[<-N]at C;have C:(l.map Nd.x)[i]? =some d:=C;rw[List.getElem?_map]at C;exact Option.map_eq_some_iff.1 C
   obtain⟨E,ai,x1⟩:=W 1 _ rfl;obtain⟨d2,ax,x2⟩:=W 2 _ rfl;obtain⟨F,aj,x3⟩:=W 3 _ rfl;have RC:∀{w':I} {L:List En},O F0 w w' L [cJ,mA g l c xw]->GP w' g l/\bA 7 w' c (hx xw):=λG=>o0 (G.getD 1);have aA:c.n=2:=zQ (RC k).2;have aB:g.n=4:=by rw[gz (RC k).1,az]
   refine⟨g,c,_,_,rfl,k.aw λb1 w2 H2=>H2.ae λw3 Z=>?_⟩;refine Z.av (A:=λr _=>r=ab (.tuple #[.agg #[.slice none 0 0,.slice none 0 0],.i ((10:Nat):Int),.i 6])) ((DI (s:=ba u9) (Z.getD 0) dl (RF aau)).mono λr w' h=>by rw[show bl (ba u9)=u9 from rfl,S]at h;exact h) ?_
   rintro _ w4 rfl H4;refine⟨⟨none,0,0⟩,⟨none,0,0⟩,_,_,rfl,H4.aw λb4 w5 D=>?_⟩;refine cq (λh=>absurd rfl h) (λ_=>cq (λh=>absurd rfl h) (λ_=>cq (λh=>absurd rfl h) (λ_=>cq (λh=>absurd rfl h) (λ_=>cq (λh=>absurd io h) (λ_=>cq (λh=>absurd io h) (λ_=>?_))))));have D:O F0 w w5 [.g b1,.g b4] [cJ,mA g l c xw]:=D;have an:=RC D;refine⟨io,io,(wQ an.2 (i:=0) rfl λp j _=>D.ae λw6 H6=>?_).2⟩;have q:=RC H6;refine⟨_,(Kl q.2 (i:=0) rfl j).c0,aR rfl ⟨io,io,(wQ q.2 (i:=0) rfl λp j e=>⟨_,e.c1,ew (a:=[97]) (b:=[97]) (λ_=>?_) (λh=>absurd rfl h)⟩).2⟩⟩;refine⟨io,io,(wQ q.2 (i:=1) rfl λp j e=>⟨_,e.c0,aR rfl ⟨io,io,(wQ q.2 (i:=1) rfl λp j e=>⟨_,e.c5,aR rfl ?_⟩).2⟩⟩).2⟩;obtain⟨a1,a2,a3⟩:=eJ q.1 (X:=1) (i:=1) rfl ai (K:=λp=>p=p/\Nd.h6 w6 p (aY 1) E) λp j e=>⟨rfl,e⟩;refine⟨a1,a2,sW a3 λp e=>⟨_,e.2.c0,aR (by rw[x1];rfl) ⟨a1,a2,sW a3 λp e=>⟨_,e.2.c1,H6.nw λw7 s7 H=>?_⟩⟩⟩⟩;have P7:=RC H;have n1:bJ w7 E.ks [0,0]:=by
    have:=P7.1.2 E (ay ai);have M:E.x.kids=[0,0]:=by rw[x1]
    rw[<-M];exact this
   refine H.av (JZ (b:=⟨some (aa w6.heap.size),2,2⟩) n1 (qN (T:=bF) (H.ob 2) rfl) dl) ?_;rintro _ Y rfl H8;have P8:=RC H8;obtain⟨ac,ad,ag⟩:=eJ P8.1 (X:=2) (i:=2) rfl ax (K:=λp=>p=p/\Nd.h6 Y p (aY 2) d2) λp j e=>⟨rfl,e⟩;obtain⟨ao,ap,ar⟩:=eJ P8.1 (X:=3) (i:=3) rfl aj (K:=λp=>p=p/\Nd.h6 Y p (aY 3) F) λp j e=>⟨rfl,e⟩;refine⟨_,rfl,aR rfl ⟨ac,ad,sW ag λp e=>⟨_,e.2.c0,aR (by rw[x2];rfl) ⟨ac,ad,sW ag λp e=>⟨_,by rw[add_add];exact e.2.c7,aR (by rw[x2];rfl) ⟨ao,ap,sW ar λp e=>⟨_,e.2.c1,H8.nw λw9 s9 J=>?_⟩⟩⟩⟩⟩⟩⟩;have P9:=RC J;have n3:bJ w9 F.ks [1,2]:=by
    have:=P9.1.2 F (ay aj);have M:F.x.kids=[1,2]:=by rw[x3]
    rw[<-M];exact this
   refine J.av (JZ (b:=⟨some (aa Y.heap.size),2,2⟩) n3 (qN (T:=bF) (J.ob 3) rfl) dl) ?_;rintro _ aC rfl am;exact⟨_,rfl,rfl,am.fr⟩
def aaJ{kind:Int}{l:List Nd}(d:ed (xs l))(w:VZ kind l)(z:l.length<=30):I1 (xs l):=by
 have A:(xs l).length=l.length:=by simp[xs]
 refine⟨d.vg,λe h=>?_,λe h=>?_,λi q=>?_⟩
 .have:=(d.nd e h).u;omega
 .have k:=d.nd e h;by_cases j:e.op=33
  .have:=GC (.inr (k.re j));omega
  .have:=k.tx j;omega
 .have x:=QJ d.vg d.nd (i+1) i (Nat.lt_succ_self _) q;have y:=(w.2.2 i io).1;omega
namespace pL
abbrev P0:Ps:=[]
abbrev bg:=ai (aA U Tryz.f3 [(22,lr 36)] [15,18,21]) [0,1,1,1,9] P0
abbrev t1:=aj bg
abbrev cM:=ai t1 [0,1,1,1,13] P0
abbrev t2:=aj cM
def CR:=bD t2 [0,1,1,1,14] [(15,.l [.s,.s] Cd),(18,.l [.s,.s] Cd),(22,.s),(24,.I)]
abbrev t3:=bB CR
abbrev pv:=ai t3 [0,1,2,2,1,2,1,1,14] P0
abbrev t4:=aj pv
def IL:=bO t4 CR
abbrev bL:=ai t4 [10] [(15,.l [.s,.s] Cd),(17,.I),(18,.l [.s,.s] Cd)]
abbrev t5:=aj bL
abbrev aV:=ai t5 [7] [(11,.st),(12,.st),(13,.st),(14,.st)]
abbrev t6:=aj aV
def aq:=aB t6 FH [.s,.I,.I,.I]
end pL
structure Vs(w:I)(p:Addr)(i:Nat)(c:fM):Prop where
 c0:w.cell? ((p.add (i *7)).add 0)=some (.i c.k)
 c1:w.cell? ((p.add (i *7)).add 1)=some (.string (ba c.nm))
 c2:w.cell? ((p.add (i *7)).add 2)=some (.i c.st.k)
 c3:w.cell? ((p.add (i *7)).add 3)=some (.i c.st.n)
 c4:w.cell? ((p.add (i *7)).add 4)=some (.i c.st.x)
 c5:w.cell? ((p.add (i *7)).add 5)=some (.i c.nd)
 c6:w.cell? ((p.add (i *7)).add 6)=some (.i c.n)
def zP{w:I}{s:Sl}{l:List fM}(e:bA 7 w s (hx l)){i:Nat}{c:fM}(hi:l[i]? =some c){K:Addr->Prop}(h:∀p,s.a=some p->Vs w p i c->K p):ea s.a K:=by have q:=zQ e;have k:=(cP.1 hi).1;exact gb.elem (f:=qR) (sz:=7) (λ_=>rfl) io e.2.2 hi λp j d=>h p j ⟨d 0 _ rfl,d 1 _ rfl,d 2 _ rfl,d 3 _ rfl,d 4 _ rfl,d 5 _ rfl,d 6 _ rfl⟩
def XO{T:List aN}{x y:bS}(e:kH T x=.ok y):y.cs.length<=x.cs.length+1:=by
 have fin:∀{c:fM} {x1:bS},((bU T 1 x1.s).s x1 λ_ x=>.ok {x with cs:=x.cs++[c]})=.ok y->x1.cs=x.cs->y.cs.length<=x.cs.length+1:=λ{c x1} e h=>by
  obtain⟨_,j,_,e⟩:=di e
  grind
 obtain⟨k,d,_,e⟩:=di e;dsimp only at e;split at e
 .unfold pI at e;obtain⟨_,_,_,e⟩:=di e;obtain⟨_,_,_,e⟩:=di e;obtain⟨_,_,_,e⟩:=di e;obtain⟨_,_,_,e⟩:=di e
  grind
 split at e
 .unfold pJ at e;obtain⟨_,_,_,e⟩:=di e;obtain⟨_,_,_,e⟩:=di e;split at e
  .cases e
  obtain⟨_,_,_,e⟩:=di e;obtain⟨_,_,_,e⟩:=di e;obtain⟨_,_,_,e⟩:=di e
  grind
 split at e
 .obtain ⟨_,_,_,e⟩:=di e;obtain⟨_,_,_,e⟩:=di e;exact fin e rfl
 split at e
 .obtain ⟨_,_,_,e⟩:=di e;exact fin e rfl
 split at e
 .exact fin (x1:={x with s:=d}) e rfl
 split at e
 .exact fin (x1:={x with s:=d}) e rfl
 split at e
 .obtain ⟨_,_,_,e⟩:=di e;split at e
  .cases e
  .exact fin e rfl
 grind
def Tl{T:List aN}:∀(f:Nat) (x y:bS),hf T f x=.ok y->y.cs.length<=x.cs.length+f
 |0,_,_,d=>by cases d
 |f+1,x,y,d=>by
  unfold hf at d;dsimp only at d;split at d
  .grind
  split at d
  .cases e:kH T {x with s:=cN (aK T x.s.p) x.s}with
   |er a b=>rw[e]at d;cases d
   |ok h=>
    rw[e]at d;have j:=XO e;have k:=Tl f h y d
    grind
  grind
def aaH{l:List UInt8}{y:bS}(d:kY l=.ok y)(w:l.length<=70000):y.cs.length<=100000:=by
 unfold kY at d;cases e:tokens l with
 |bad a j=>grind
 |ok h=>
  rw[e]at d;have k:=Tl _ _ _ d;have q:=(MY (MZ e).1).1
  grind
def acb{w0 w:I}{L D:List En}(H:O F0 w0 w L D)(z:cJ∈D){s:ByteArray}(A:s.size<=1000000)(x:∀h,tokens (bl s)=.ok h->oz 12 h){y:bS}(B:kY (bl s)=.ok y){bs:List Nat}{K:aC}(q:∀(g:Sl) (l:List Nd) (c:Sl) (w':I),xs l=y.s.g->O F0 w0 w' L (D++[mA g l c y.cs])->K (ab (.tuple #[.agg #[g.v,c.v],.i 0,.i 0])) w'):e8 bs U q8 #[.string s] w K:=by
 refine kG ((DI (H.rd _ z) A x).mono λr w' j=>?_);rw[B]at j;obtain⟨⟨g,l,c,rfl,C,E,F,J,G⟩,f⟩:=j;refine⟨f,q g l c w' E (H.eO _ f (λk e=>?_) (λb d=>?_))⟩
 .simp only[aF,aW,a2]at e;rcases e with rfl|rfl
  .exact bd.2 C
  .exact F.a9
 .have d:=aU.1 d;obtain⟨k,e,d⟩:=b'.1 d;simp only[aF,aW,a2]at e;rcases e with rfl|rfl
  .grind
  .exact .inl (rp G b d)
def iB(n:Nat):List UInt8:=if n<128 then[c9 n]else c9 (n%128+128)::iB (n / 128)
termination_by n
decreasing_by omega
def qU{n:Nat}(d:n<128):iB n=[c9 n]:=by rw[iB,ag d]
def sc{n:Nat}(d:¬n<128):iB n=c9 (n%128+128)::iB (n / 128):=by rw[iB,ad d]
def KR:∀(d n:Nat),n<2 *128^d->(iB n).length<=d+1
 |0,n,e=>by rw[qU io];simp
 |d+1,n,e=>by
  by_cases h:n<128
  .rw [qU h];simp
  .rw [sc h];have:=KR d (n / 128) (by rw[Nat.pow_succ]at e;omega);simp;omega
def zz(n:Int):Nat:=if 0<=n then(2 *n).toNat else(-(2 *n) - 1).toNat
def Vm(n:Int)(d:-9223372036854775808<=n)(e:n<=9223372036854775807):zz n<18446744073709551616:=by unfold zz;split<;>omega
def kI(n:Int):List UInt8:=iB (zz n)
def qT(b:List UInt8):List UInt8:=iB b.length++b
def oH(l:List Int):List UInt8:=iB l.length++l.flatMap kI
def oI(n:Nat)(d:n<18446744073709551616):(iB n).length<=10:=KR 9 n (by simpa using d)
def mh(n:Int)(d:cE n):(kI n).length<=10:=oI _ (Vm n d.1 d.2)
def kB(w:I)(d:Nat)(bs:List UInt8)(own:List Nat):Prop:=
 ∃s:Sl,own=d::aG s/\w.heap[d]? =some (.cells #[s.v] wa (0,0))/\mM w s bs
def Q9{w:I}{e T:TypeId}{s:Sl}{vs:List V}(d:Ow w e s vs){b:Nat}{cs:Array V}{f:Nat×Nat}(x:w.heap[b]? =some (.cells cs T f))(q:e≠T):b∉aG s:=λh=>by
 obtain⟨j,k,y⟩:=d.2.row.tF b h
 grind
def kB.new(w:I):kB (w.alloc (.cells #[.slice none 0 0] wa)) w.heap.size [] [w.heap.size]:=⟨⟨none,0,0⟩,rfl,m8 w _,Ow.nil _ _⟩
def jn(w:I)(h:Nat)(own:List Nat)(bs:List UInt8)(w':I):Prop:=∃d,kB w' h bs d/\Fr (·∈own) w w'/\∀e∈d,e∈own\/w.heap.size<=e
def rS(w:I)(e:Nat)(own:List Nat)(bs:List UInt8):aC:=λr d=>r=ab (.tuple #[])/\jn w e own bs d
def jn.refl{w:I}{e:Nat}{own:List Nat}{bs:List UInt8}(d:kB w e bs own):jn w e own bs w:=⟨own,d,Fr.refl _ _,λ_ d=>.inl d⟩
def jn.then{w w' x:I}{y:Nat}{own q:List Nat}{h:List UInt8}(j:Fr (·∈own) w w')(A:∀d∈q,d∈own\/w.heap.size<=d)(e:jn w' y q h x):jn w y own h x:=by
 obtain⟨z,r,f,o⟩:=e;refine⟨z,r,j.trans f λd k B=>?_,λd k=>?_⟩
 .grind
 .rcases o d k with e|e
  .grind
  .exact .inr (bI j.size e)
def Vj{w x h:I}{d:Nat}{s e:Sl}{bs z:List UInt8}(D:w.heap[d]? =some (.cells #[s.v] wa (0,0)))(H:mM w s bs)(q:af w x)(E:mM h e z)(A:Fr (·∈aG s) x h)(K:∀b∈aG e,b∈aG s\/x.heap.size<=b):
  (h.cell? ((aa d).add 0)).isSome=true/\h.frozen? ((aa d).add 0)=false/\jn w d (d::aG s) z (h.setCell ((aa d).add 0) e.v):=by
 have L:d∉aG s:=Q9 H D dl;have k:=A.at (q.at D id) L;have F:(h.setCell ((aa d).add 0) e.v).heap[d]? =_:=setAt (p:=aa d) (i:=0) (v:=e.v) k rfl;have B:Fr (·=d) h (h.setCell ((aa d).add 0) e.v):=Fr.set _ _ _ rfl
 have N:d∉aG e:=Q9 E k dl;refine⟨by rw[cellAt (p:=aa d) k rfl rfl];rfl,frozenAt (p:=aa d) k,d::aG e,⟨e,rfl,F,E.fr B λb J G=>N (G▸J)⟩,?_,?_⟩
 .exact ((q.A5 (M:=(·∈d::aG s))).trans A λy _ j=>by grind).trans B λy _ j=>by grind
 .intro y j;rcases aF.1 j with rfl|j
  .grind
  .rcases K y j with C|C
   .grind
   .exact .inr (bI q.size C)
def Cy{w:I}{d:Nat}{s:Sl}(e:w.heap[d]? =some (.cells #[s.v] wa (0,0))):w.cell? ((aa d).add 0)=some s.v:=cellAt (p:=aa d) e rfl rfl
def U9{w:I}{d:Nat}{s:Sl}{bs:List UInt8}(z:w.heap[d]? =some (.cells #[s.v] wa (0,0)))(j:mM w s bs)(G:bs.length<100000000000000)(c:UInt8)(K:I->Prop)(F:∀k,jn w d (d::aG s) (bs++[c]) k->K k):
  ∃(t15:W.Sl) (e:I),Sem.run U (Builtin.append_ #[hO,hO] hO #[s.v,.slice (some (Addr.mk w.heap.size 0 none)) 1 1]) (w.alloc (.cells #[.int .u8 (c.toNat:Int)] ez))=.ok (t15.v) e/\(e.cell? ((aa d).add 0)).isSome=true/\e.frozen? ((aa d).add 0)=false/\K (e.setCell ((aa d).add 0) (t15.v)):=by
 have h:af w (w.alloc (.cells #[.int .u8 (c.toNat:Int)] ez)):=Fr.alloc _ _ _;obtain⟨H,e,D,q,x,y,E⟩:=I' (ty:=hO) (j.cB h) (abQ w c) (by grind);obtain⟨A,B,C⟩:=Vj z j h q x y
 grind
def afd{h:Nat}(R:aC):∀(n:Nat) (w:I) (bs:List UInt8) (own:List Nat),n<18446744073709551616->bs.length+(iB n).length<=100000000000000->kB w h bs own->(∀d,jn w h own (bs++iB n) d->R (ab (.tuple #[])) d)->
  we.L0 (aa h) (n:Int) w R:=by
 intro n;induction n using Nat.strongRecOn with
 |_ n F=>
  intro w bs own L z D y;obtain⟨s,rfl,j,x⟩:=D;refine we.cH ?_;refine bm (λC=>?_) (λC=>?_)
  .have e:¬n<128:=by grind
   rw[sc e]at z;have k:aE .u8 (n:Int)=_:=Io n;refine⟨s,Cy j,?_⟩;rw[k,Wf _ io];have A:((n%256%128+128:Nat):Int)=((c9 (n%128+128)).toNat:Int):=by simp;omega
   rw[A];refine U9 j x (by grind) (c9 (n%128+128)) (λd=>we.L0 (aa h) (Int.fdiv (n:Int) (2^7)) d R) λd q=>?_;show we.L0 (aa h) (Int.fdiv (n:Int) (2^7)) d R;rw[show((2:Int)^7)=((128:Nat):Int)from rfl,Yw n 128 io];obtain⟨H,J,B,G⟩:=q;refine F (n / 128) io d _ H io (by grind) J λK E=>y K ?_;rw[sc e,show bs++c9 (n%128+128)::iB (n / 128)=(bs++[c9 (n%128+128)])++iB (n / 128)by simp];exact E.then B G
  .have e:n<128:=by grind
   rw[qU e]at z;have k:aE .u8 (n:Int)=((c9 n).toNat:Int):=by rw[Io];simp
   refine⟨s,Cy j,?_⟩;rw[k];refine U9 j x (by grind) (c9 n) (λd=>R (ab (.tuple #[])) d) λd q=>y d ?_;rw[qU e];exact q
def yV{w:I}{d:Nat}{bs:List UInt8}{own:List Nat}(j:kB w d bs own)(n:Nat)(e:n<18446744073709551616)(k:bs.length<=10000000000000):
  ah U Qj #[.pointer (some (aa d)),.int .u64 (n:Int)] w (rS w d own (bs++iB n)):=
 we.ok (afd _ n w bs own e (by have:=oI n e;omega) j λq h=>⟨rfl,h⟩)
def aft(n:Int)(j:cE n):W.wI .u64 (aE .u64 ((aE .u64 n) *2^1)) (aE .u64 (Int.fdiv n (2^63)))=(zz n:Int):=by
 obtain⟨q,w⟩:=j;have h:((2:Int)^63)=9223372036854775808:=rfl;rw[h,Int.fdiv_eq_ediv_of_nonneg _ io,IntKind.wrap_u64,IntKind.wrap_u64,IntKind.wrap_u64];by_cases k:0<=n
 .have d:(n / 9223372036854775808)%18446744073709551616=((0:Nat):Int):=io
  have e:(n%18446744073709551616 *2^1)%18446744073709551616=((2 *n).toNat:Int):=io
  rw[d,e,Ji _ _ io io,Nat.xor_zero];unfold zz;grind
 .have d:(n / 9223372036854775808)%18446744073709551616=((18446744073709551615:Nat):Int):=io
  have e:(n%18446744073709551616 *2^1)%18446744073709551616=((18446744073709551616+2 *n).toNat:Int):=io
  rw[d,e,Ji _ _ io io,afq _ io];unfold zz;grind
def tJ{w:I}{e:Nat}{bs:List UInt8}{own:List Nat}(k:kB w e bs own)(n:Int)(d:cE n)(j:bs.length<=10000000000000):
  ah U Qh #[.pointer (some (aa e)),.int .i64 n] w (rS w e own (bs++kI n)):=by refine Va.ok ?_;rw[aft n d];refine(yV k (zz n) (Vm n d.1 d.2) j).mono ?_;rintro r q ⟨rfl,h⟩;exact⟨rfl,rfl,h⟩
def afc{w:I}{d:Nat}{bs:List UInt8}{own:List Nat}(C:kB w d bs own)(t:ByteArray)(K:bs.length+t.size<=10000000000000):
  ah U Qi #[.pointer (some (aa d)),.string t] w (rS w d own (bs++qT (bl t))):=by refine Vb.ok ?_;rw[UY _ io];refine(yV C t.size io io).mono ?_;rintro r H ⟨rfl,M,E,x,D⟩;have L:=oI t.size io;obtain⟨G,rfl,j,h⟩:=E;obtain⟨F,J,y,z,A,B⟩:=V9 (ty:=hO) h t (by grind);obtain⟨k,q,e⟩:=Vj j h (Fr.refl _ H) z A B;rw[dS]at e;exact⟨rfl,G,Cy j,F,J,y,k,q,rfl,e.then x D⟩
def EI:∀(l:List Int),(∀d∈l,cE d)->(l.flatMap kI).length<=10 *l.length
 |[],_=>us
 |d::l,e=>by
  have j:=mh d (e d us);have k:=EI l λh q=>e h (by grind)
  grind
def afa{j:Nat}{s:Sl}{l:List Int}(R:aC)(hi:∀e∈l,cE e)(P:l.length<=100000000000):∀(d i:Nat),i+d=l.length->∀(w:I) (bs:List UInt8) (own:List Nat),kB w j bs own->bJ w s l->(∀e∈aG s,e∉own)->(∀e∈aG s,e<w.heap.size)->bs.length+10 *d<=10000000000000->
  (∀C,jn w j own (bs++(l.drop i).flatMap kI) C->R (ab (.tuple #[])) C)->rE.L0 (aa j) s (l.length:Int) (i:Int) w R:=by
 intro d;induction d with
 |zero=>
  intro i G w bs own x h A y F q;refine rE.cH ?_;refine aT (by grind) (q w ?_);rw[dH io];simpa using jn.refl x
 |succ d K=>
  intro i G w bs own x h A y F q;have H:l[i]? =some l[i]:=a0 io;have z:l[i]∈l:=List.getElem_mem _;refine rE.cH ?_;refine aR (by grind) ⟨io,by rw[bJ.len h];omega,bJ.cell h H us λp _ J=>⟨_,J,(tJ x _ (hi _ z) io).mono ?_⟩⟩;rintro r D ⟨rfl,M,N,k,L⟩;refine⟨rfl,?_⟩;show rE.L0 (aa j) s (l.length:Int) (aE .i64 ((i:Int)+1)) D R;rw[bt i io];have S:=mh _ (hi _ z);refine K (i+1) io D _ M N (h.fr k A) (λe B Q=>?_) (λe B=>pd (y e B) k.size) (by grind) λO E=>q O ?_
  .grind
  .rw [dG io,dI,<-dS];exact E.then k L
def ae9{w:I}{h:Nat}{bs:List UInt8}{own:List Nat}(y:kB w h bs own){s:Sl}{l:List Int}(k:bJ w s l)(hd:∀d∈aG s,d∉own)(x:∀d∈aG s,d<w.heap.size)(hi:∀d∈l,cE d)(D:bs.length+10 *l.length<=1000000000000):
  ah U Gp #[.pointer (some (aa h)),s.v] w (rS w h own (bs++oH l)):=by
 refine rE.ok ?_;rw[bJ.len k,UY _ io];refine(yV y l.length io io).mono ?_;rintro r C ⟨rfl,A,B,e,z⟩;have F:=oI l.length io;refine⟨rfl,?_⟩;try dsimp only
 refine afa _ hi io l.length 0 io C _ A B (k.fr e hd) (λd q E=>?_) (λd q=>pd (x d q) e.size) (by grind) λG j=>⟨rfl,?_⟩
 .grind
 .rw [List.drop_zero,dS]at j;exact j.then e z
def XM(s:Sl)(bs:List UInt8)(w:I)(j:Bytes w s bs)(H:bs.length<=140737488355328):ah U Pn #[s.v] w (λr x=>∃s:Sl,r=ab s.v/\mM x s bs/\af w x/\∀b∈aG s,w.heap.size<=b):=by
 refine TH.ok ?_;refine bm (λe=>?_) (λe=>?_)
 .have D:bs=[]:=by have:=(j.2.2.1 (by simpa using e)).1;exact List.eq_nil_of_length_eq_zero (by rw[<-Bytes.len j,this])
  subst D;exact⟨⟨none,0,0⟩,rfl,Ow.nil w _,Fr.refl _ _,by simp[aG]⟩
 .show (λd:I=>∃(q:Sl) (h:I),Sem.run U (Builtin.append_ #[hO,hO] hO #[.slice (some (nb w)) 0 0,s.v]) d=.ok (q.v) h/\(∃s:Sl,Ending.returned q.v=ab s.v/\mM h s bs/\af w h/\∀b∈aG s,w.heap.size<=b)) (w.alloc (.cells #[] ez));generalize G:w.alloc (.cells #[] ez)=d;subst G
  let d:=w.alloc (.cells #[] ez)
  have E:mM d ⟨some ⟨w.heap.size,0,none⟩,0,0⟩ []:=Ow.made w ez [] 0 rfl io;have z:Bytes d s bs:=j.cB (Fr.alloc _ _ _);obtain⟨k,h,F,J,B,A,_⟩:=I' (ty:=hO) E z (by grind);refine⟨k,h,F,k,rfl,by grind,?_,?_⟩
  .refine (Fr.alloc (λ_=>False) w _).trans B λL K C=>?_;simp[aG]at C;omega
  .intro b y;rcases A b y with e|e
   .simp [aG]at e;omega
   .have:d.heap.size=w.heap.size+1:=size_alloc _ _;omega
def ae8{w:I}{e:Nat}{bs:List UInt8}{own:List Nat}(q:kB w e bs own)(x:bs.length<=100000000000000):
  ah U Qg #[.pointer (some (aa e))] w (Vz w bs):=by obtain⟨s,rfl,j,k⟩:=q;refine U'.ok ⟨s,Cy j,(XM s bs w k.rd io).mono ?_⟩;rintro r y ⟨d,rfl,h⟩;exact⟨d,rfl,d,rfl,h⟩
def qc(n:Nx):List UInt8:=kI n.op++(oH n.kids++(kI n.n++(kI n.m++(iB n.u.toNat++(qT (bl n.tx)++(kI n.st.k++(kI n.st.n++kI n.st.x)))))))
structure nQ(x:Nx):Prop where
 op:cE x.op
 ks:∀k∈x.kids,cE k
 kl:x.kids.length<=1000000000
 n:cE x.n
 m:cE x.m
 u:0<=x.u/\x.u<18446744073709551616
 tx:x.tx.size<=1000000000
 sk:cE x.st.k
 sn:cE x.st.n
 sx:cE x.st.x
def abm{n:Nx}(W:nQ n):(qc n).length<=20000000000:=by have e:=mh _ W.op;have h:=EI _ W.ks;have j:=mh _ W.n;have k:=mh _ W.m;have q:=oI n.u.toNat (by have:=W.u;omega);have w:=mh _ W.sk;have x:=mh _ W.sn;have y:=mh _ W.sx;have z:=oI n.kids.length (by have:=W.kl;omega);have d:=oI (bl n.tx).length (by have:=W.tx;rw[dd];omega);have A:=W.kl;have B:=W.tx;have C:=dd n.tx;unfold qc oH qT;simp only[bM];omega
def qA{P:Program}{f:FuncId}{args:Array V}{w0 w:I}{e:Nat}{h:List Nat}{bs j:List UInt8}(x:jn w0 e h bs w)(A:∀own,kB w e bs own->(∀q∈own,q∈h\/w0.heap.size<=q)->ah P f args w (rS w e own j)){K:I->Prop}(z:∀d,jn w0 e h j d->K d):
  ah P f args w λr d=>r=ab (.tuple #[])/\K d:=by obtain⟨own,C,B,k⟩:=x;refine(A own C k).mono ?_;rintro r d ⟨rfl,y⟩;exact⟨rfl,z d (jn.then B k y)⟩
def ae'{w:I}{j:Nat}{bs:List UInt8}{own:List Nat}(x:kB w j bs own){s:Sl}{l:List Int}(e:bJ w s l)(hd:∀d∈(En.rd s (l.map bX)).fp,d∉own)(hi:∀d∈l,cE d)(z:bs.length+10 *l.length<=1000000000000):
  ah U Gp #[.pointer (some (aa j)),s.v] w (rS w j own (bs++oH l)):=by
 by_cases k:l=[]
 .subst k;have A:s.n=0:=bJ.len e;refine rE.ok ?_;rw[A];refine(yV x 0 io io).mono ?_;rintro r B ⟨rfl,y⟩;refine⟨rfl,rE.cH (aT dl ⟨rfl,?_⟩)⟩;simpa[oH]using y
 .have q:(En.rd s (l.map bX)).fp=aG s:=by show(if l.map bX=[]then[]else aG s)=_;rw[ad (by simpa using k)]
  exact ae9 x e (λd h=>hd d (q▸h)) (λd h=>(En.rd s (l.map bX)).lt w e d (q▸h)) hi z
def aex{w:I}{e:Nat}{bs:List UInt8}{own:List Nat}(S:kB w e bs own){p:Addr}{d:Nd}(J:dK w p d)(hd:d.P w)(L:p.block∉own)(G:∀h∈(bE d).fp,h∉own)(W:nQ d.x)(H:bs.length<=100000000000):
  ah U Qe #[.pointer (some (aa e)),.pointer (some p)] w (rS w e own (bs++qc d.x)):=by
 have at_:∀{k:List UInt8} {w':I},jn w e own k w'->dK w' p d:=λ⟨_,_,f,_⟩=>J.st λN=>f.cv _ N L
 have Y:∀{k:List UInt8} {w':I},jn w e own k w'->bJ w' d.ks d.x.kids:=λ⟨_,_,f,_⟩=>(bE d).st w _ (λb M H=>f.cv _ H (G b M)) hd;have k1:=mh _ W.op;have k2:=EI _ W.ks;have k3:=mh _ W.n;have k4:=mh _ W.m;have T:d.x.u=(d.x.u.toNat:Int):=by have:=W.u;omega
 have k5:=oI d.x.u.toNat (by have:=W.u;omega);have k6:=mh _ W.sk;have k7:=mh _ W.sn;have k9:=oI d.x.kids.length (by have:=W.kl;omega);have Z:=oI (bl d.x.tx).length (by have:=W.tx;rw[dd];omega);have m1:=W.kl;have m2:=W.tx;have m3:=dd d.x.tx;have lL:(oH d.x.kids).length<=10000000010:=by unfold oH;simp only[bM];omega
 have lR:(qT (bl d.x.tx)).length<=1000000010:=by unfold qT;simp only[bM];omega
 refine UK.ok ⟨_,J.c0,qA (jn.refl S) (λo r _=>tJ r _ W.op io) λw1 j=>⟨_,(at_ j).c1,qA j (λo r Q=>ae' r (Y j) (λh K O=>?_) W.ks (by simp only[bM];omega)) λw2 q=>⟨_,(at_ q).c2,qA q (λo r _=>tJ r _ W.n (by simp only[bM];omega)) λw3 y=>⟨_,(at_ y).c3,qA y (λo r _=>tJ r _ W.m (by simp only[bM];omega)) λw4 z=>⟨_,(at_ z).c4,?_⟩⟩⟩⟩⟩
 .rcases Q h O with F|F
  .exact G h K F
  .have:=(bE d).lt w hd h K;omega
 rw[T];refine qA z (λo r _=>yV r d.x.u.toNat (by have:=W.u;omega) (by simp only[bM];omega)) λw5 A=>⟨_,(at_ A).c5,qA A (λo r _=>afc r d.x.tx (by simp only[bM];omega)) λw6 B=>⟨_,(at_ B).s0,qA B (λo r _=>tJ r _ W.sk (by simp only[bM];omega)) λw7 C=>⟨_,(at_ C).s1,qA C (λo r _=>tJ r _ W.sn (by simp only[bM];omega)) λw8 D=>⟨_,(at_ D).s2,qA D (λo r _=>tJ r _ W.sx (by simp only[bM];omega)) λw9 E=>⟨rfl,?_⟩⟩⟩⟩⟩;unfold qc;simp only[dS]at E;exact E
def Ul{w:I}{p:Addr}{d:Nd}(h:dK w p d)(hd:d.P w)(W:nQ d.x):
  ah U PX #[.pointer (some p)] w λr E=>r=ab (.string (ba (qc d.x)))/\af w E:=by refine UE.ok ?_;have e:af w (w.alloc (.cells #[.slice none 0 0] wa)):=Fr.alloc _ _ _;have lt:=abm W;refine(aex (kB.new w) (h.st λB=>e.cv _ B id) ((bE d).st w _ (λb F A=>e.cv _ A id) hd) (by have:=dK.lt h;simp;omega) (λq j=>by have:=(bE d).lt w hd q j;simp;omega) W us).mono ?_;rintro r J ⟨rfl,H,k,y,G⟩;rw[lS]at k;refine⟨rfl,(ae8 k io).mono ?_⟩;rintro r K ⟨s,rfl,D,z,_⟩;refine⟨s,rfl,_,rZ D.rd,rfl,?_⟩;exact(e.trans y λq j C=>by simp at C;omega).gq z
def gK(R:ByteArray->Prop)(d:Nx):Prop:=0<=d.u/\d.u<18446744073709551616/\(d.op=33->R d.tx)
def wy(R:ByteArray->Prop)(T:List aN):Prop:=∀t∈T,t.kind=5->(gZ t.text).2=0->R (ba (gZ t.text).1)
section
variable {R:ByteArray->Prop} {T:List aN}
def qH(t:aN)(s:aH):(cN t s).g=s.g:=by
 unfold cN
 grind
def i4{k:Int}{s d:aH}{t:aN}(e:bU T k s=.ok t d):d.g=s.g:=by obtain⟨_,_,rfl⟩:=qa e;exact qH _ _
def oP{s e:aH}{n:Int}(d:dw T s=.ok n e):e.g=s.g:=by obtain⟨_,_,h,d⟩:=bT d;cases d;exact i4 h
def HV{s j:aH}{E:aM}(q:il T s=.ok E j):j.g=s.g:=by
 obtain⟨t,F,w,x⟩:=bT q;obtain⟨J,D,y,d⟩:=bT x;split at d
 .cases d
 obtain⟨K,s3,h,z⟩:=bT d;obtain⟨n,G,A,B⟩:=bT z;obtain⟨_,H,C,e⟩:=bT B;have k:s3.g=D.g:=by
  split at h
  .exact oP h
  grind
 split at e
 .cases e;rw[i4 C,oP A,k,i4 y,i4 w]
 grind
def aeE{s q:aH}{t:aN}{k:Int}(w:k≠6)(h:bU T k s=.ok t q):t∈T/\t.kind=k:=by
 obtain⟨e,j,_⟩:=qa h;refine⟨?_,j⟩;rcases Nat.lt_or_ge s.p T.length with d|d
 .rw [e];exact(o8 d).1
 .unfold aK at e
  grind
def Zg(G:hS T)(F:wy R T){w:List UInt8}{s C:aH}{h:Nx×Nat}(e:ih T w s=.ok h C):C.g=s.g/\gK R h.1:=by
 have i:∀{a b:aH} {x:Int},dw T a=.ok x b->0<=x/\x<18446744073709551616:=λh=>by have:=Mq G h;omega
 have q:∀{op n m:Int} {t:ByteArray} {st:aM},op≠33->gK R ⟨op,[],n,m,0,t,st⟩:=λH=>⟨Int.le_refl _,by grind,λh=>absurd h H⟩;unfold ih at e;split at e
 .obtain ⟨u,k,d,e⟩:=bT e;obtain⟨m,B,j,e⟩:=bT e;cases e;exact⟨by rw[oP j,oP d],(i d).1,(i d).2,λh=>by cases h⟩
 split at e
 .obtain ⟨u,k,d,e⟩:=bT e;cases e;exact⟨HV d,q dl⟩
 split at e
 .obtain ⟨u,k,d,e⟩:=bT e;obtain⟨m,B,j,e⟩:=bT e;cases e;exact⟨by rw[oP j,oP d],q dl⟩
 split at e
 .obtain ⟨u,k,d,e⟩:=bT e;cases e;exact⟨oP d,q dl⟩
 split at e
 .obtain ⟨u,k,d,e⟩:=bT e;cases e;exact⟨oP d,q dl⟩
 split at e
 .obtain ⟨u,k,d,e⟩:=bT e;cases e;exact⟨oP d,q dl⟩
 split at e
 .obtain ⟨r,k,d,e⟩:=bT e;cases e;obtain⟨t,B,j,z⟩:=bT d;obtain⟨J,K⟩:=aeE dl j;split at z
  .rename_i D;cases z;exact⟨i4 j,Int.le_refl _,by grind,λ_=>F t J K D⟩
  grind
 .cases e;refine⟨rfl,q λh=>?_⟩;have E:∀y∈fI,y.2.1≠33:=dl
  cases A:lk fI w with
  |none=>grind
  |some y=>rw[A]at h;exact absurd h (E (w,y) (j1 A))
def VY{g:List Nx}{n:Nx}(w:gK R n)(d:(a3 g n).2.2=0)(x:∀e∈g,gK R e):∀e∈(a3 g n).1,gK R e:=by
 unfold a3 at d ⊢;split at d
 .grind
 rename_i j;rw[ad j];split at d
 .omega
 .rename_i q;try rw[q]
  split at d
  .cases d
  .rename_i k;rw[ad k];intro e h;rcases aP.1 h with h|h
   .grind
   .rw [cK.1 h];exact w
def zm{s h:aH}{n:Nx}{t:aN}{k:Nat}(w:gK R n)(e:ej s n t=.ok k h)(q:∀d∈s.g,gK R d):∀d∈h.g,gK R d:=by
 unfold ej at e;split at e
 .rename_i j;cases e;exact VY w j q
 grind
def Fj{tm:aH->PR Nat}(q:∀s n e,tm s=.ok n e->(∀d∈s.g,gK R d)->∀d∈e.g,gK R d):∀(k:Nat) (s:aH) (l:List Int) (e:aH),gA tm k s=.ok l e->(∀d∈s.g,gK R d)->∀d∈e.g,gK R d
 |0,s,l,e,h,j=>by cases h;exact j
 |k+1,s,l,e,h,j=>by obtain⟨a,w,x,y⟩:=bT h;obtain⟨B,C,z,A⟩:=bT y;cases A;exact Fj q k w B _ z (q s a w x j)
def abD{l:List UInt8}(e:∃d,(l=35::98::d/\1<=d.length/\d.length<=64/\jk 2 d)\/(l=35::120::d/\1<=d.length/\d.length<=16/\jk 16 d)):gK R (hE l):=by
 obtain⟨d,⟨rfl,k,h,j⟩|⟨rfl,k,h,j⟩⟩:=e
 .have:=vB io j d.length;rw[List.take_length]at this;have h:=Nat.pow_le_pow_right (show 0<2 by omega) h;exact⟨Int.natCast_nonneg _,by show((dm 2 d:Nat):Int)<_;omega,λe=>by cases e⟩
 .have:=vB io j d.length;rw[List.take_length]at this;have h:=Nat.pow_le_pow_right (show 0<16 by omega) h;exact⟨Int.natCast_nonneg _,by show((dm 16 d:Nat):Int)<_;omega,λe=>by cases e⟩
def UF(z:hS T)(F:wy R T):∀(f:Nat) (E:b3),E.T=T->∀s n e,dO f E s=.ok n e->(∀j∈s.g,gK R j)->∀j∈e.g,gK R j
 |0,E,_,s,n,e,d,_=>by cases d
 |f+1,E,w,s,n,e,d,h=>by
  have H:=UF z F f;have body:∀{E':b3} {m:PM} {az:List Int} {s e:aH} {n:Nat},E'.T=T->h8 (dO f) E' m az s=.ok n e->(∀j∈s.g,gK R j)->∀j∈e.g,gK R j:=λ{E' m az s e n} W d h=>by
   obtain⟨Z,Q,B,k⟩:=bT d
   grind
  have d:ir (dO f) E s=.ok n e:=d;unfold ir at d;dsimp only at d;split at d
  .cases d
  rename_i Y;split at d
  .cases d
  have A:({cN (aK E.T s.p) s with tm:=s.tm+1}:aH).g=s.g:=qH _ _;generalize({cN (aK E.T s.p) s with tm:=s.tm+1}:aH)=Q at A d;rw[<-A]at h;split at d
  .unfold lK at d
   grind
  split at d
  .rename_i q;refine zm (abD (z.n (aK E.T s.p) ?_ q)) d h;rcases Nat.lt_or_ge s.p E.T.length with G|G
   .rw [<-w];exact(o8 G).1
   .unfold aK at q
    grind
  split at d
  .exact zm ⟨Int.le_refl _,by grind,λd=>by cases d⟩ d h
  unfold mb at d;split at d
  .cases d
  obtain⟨aa,s2,B,k⟩:=bT d;rw[<-i4 B]at h;split at k
  .obtain ⟨nd,s3,q,x⟩:=bT k;obtain⟨_,S,y,C⟩:=bT x;obtain⟨M,s5,D,K⟩:=bT q;obtain⟨N,s6,L,J⟩:=bT K;cases J;rw[w]at D;obtain⟨O,P⟩:=Zg z F D;rw[<-O]at h;have:=Fj (H {E with dp:=E.dp+1} w) _ _ _ _ L h;rw[<-i4 y]at this;exact zm (n:={M.1 with kids:=N}) P C this
  .unfold pB at k;split at k
   .cases k
   obtain⟨az,s3,q,x⟩:=bT k;obtain⟨_,S,y,C⟩:=bT x;have:=Fj (H {E with dp:=E.dp+1} w) _ _ _ _ q h;rw[<-i4 y]at this
   grind
def Rh:∀(f:Nat) (ps:List (List UInt8×aM)) (s:aH) (l:List (List UInt8×aM)) (e:aH),j4 T f ps s=.ok l e->e.g=s.g
 |0,_,_,_,_,d=>by cases d
 |f+1,ps,s,l,e,d=>by
  unfold j4 at d;dsimp only at d;split at d
  .cases d;exact qH _ _
  split at d
  .cases d
  obtain⟨p,q,h,d⟩:=bT d;split at d
  .cases d
  obtain⟨x,w,j,d⟩:=bT d;obtain⟨_,s3,k,d⟩:=bT d;rw[Rh f _ _ _ _ d,i4 k,HV j,i4 h,qH]
def TF:∀(f d:Nat) (s:aH) (u:Unit) (h:aH),k5 T f d s=.ok u h->h.g=s.g
 |0,_,_,_,_,e=>by cases e
 |f+1,d,s,u,h,e=>by
  unfold k5 at e;dsimp only at e;split at e
  .cases e
  split at e
  .cases e
  generalize(if(aK T s.p).kind=0 then d+1 else if(aK T s.p).kind=1 then d - 1 else d)=d' at e;split at e
  .cases e;exact qH _ _
  .rw [TF f _ _ _ _ e,qH]
def XP(L:hS T)(K:wy R T){x y:bS}(e:kH T x=.ok y)(k:∀j∈x.s.g,gK R j):∀j∈y.s.g,gK R j:=by
 have new:∀{x:bS} {t:aN} {s:aH},vj T x=.ok t s->s.g=x.s.g:=λB=>(i4 (xV (E:=eP T _) B).1);have fin:∀{c:fM} {x1:bS},((bU T 1 x1.s).s x1 λ_ x=>.ok {x with cs:=x.cs++[c]})=.ok y->(∀j∈x1.s.g,gK R j)->∀j∈y.s.g,gK R j:=λ{c x1} e B=>by obtain⟨_,d,h,e⟩:=di e;cases e;show ∀j∈d.g,_;rw[i4 h];exact B
 obtain⟨Q,q,G,e⟩:=di e;rw[<-i4 G]at k;dsimp only at e;split at e
 .unfold pI at e;obtain⟨t,d,h,e⟩:=di e;obtain⟨S,s3,z,e⟩:=di e;obtain⟨_,C,A,e⟩:=di e;obtain⟨M,D,w,e⟩:=di e;cases e;have J:d.g=q.g:=new h;rw[<-J,<-show s3.g=d.g from HV z,<-show C.g=s3.g from i4 A]at k;exact zm ⟨Int.le_refl _,by grind,λB=>by cases B⟩ w k
 split at e
 .unfold pJ at e;obtain⟨_,d,h,e⟩:=di e;obtain⟨t,s3,z,e⟩:=di e;split at e
  .cases e
  obtain⟨O,C,A,e⟩:=di e;obtain⟨_,D,w,e⟩:=di e;obtain⟨_,F,H,e⟩:=di e;cases e;show ∀j∈F.g,_;rw[show F.g=D.g from i4 H,show D.g=C.g from TF _ _ _ _ _ w,show C.g=s3.g from Rh _ _ _ _ _ A,show s3.g=d.g from new z,show d.g=q.g from i4 h];exact k
 split at e
 .obtain ⟨t,d,h,e⟩:=di e;obtain⟨n,s3,z,e⟩:=di e;obtain⟨N,P,A,w⟩:=bT z;split at w
  .cases w;refine fin (x1:={x with s:=s3}) e ?_;refine UF L K _ (eP T {x with s:=d}) rfl d n s3 A ?_;rw[show d.g=q.g from i4 h];exact k
  grind
 split at e
 .obtain ⟨t,d,h,e⟩:=di e;exact fin (x1:={x with s:=d}) e (by rw[show d.g=q.g from i4 h];exact k)
 split at e
 .exact fin (x1:={x with s:=q}) e k
 split at e
 .exact fin (x1:={x with s:=q}) e k
 split at e
 .obtain ⟨n,d,h,e⟩:=di e;split at e
  .cases e
  .exact fin (x1:={x with s:=d}) e (by rw[show d.g=q.g from oP h];exact k)
 grind
def Tn(j:hS T)(w:wy R T):∀(f:Nat) (x y:bS),hf T f x=.ok y->iy T x->(∀e∈x.s.g,gK R e)->iy T y/\(∃r,y.s.g=x.s.g++r)/\∀e∈y.s.g,gK R e
 |0,_,_,d,_,_=>by cases d
 |f+1,x,y,d,q,z=>by
  unfold hf at d;dsimp only at d;split at d
  .cases d;exact⟨q,⟨[],(df _).symm⟩,z⟩
  rename_i C;split at d
  .cases h:kH T {x with s:=cN (aK T x.s.p) x.s}with
   |er a b=>rw[h]at d;cases d
   |ok B=>
    rw[h]at d;have D:=rU j q.p C;have A:=Kn (q.mv D) h;obtain⟨r,k⟩:=A.2.g;obtain⟨a,⟨F,E⟩,b⟩:=Tn j w f B y d A.1 (XP j w h (by show ∀e∈(cN (aK T x.s.p) x.s).g,_;rw[qH];exact z));have k:B.s.g=(cN (aK T x.s.p) x.s).g++r:=k;rw[qH]at k
    grind
  grind
def ab7{l:List UInt8}{y:bS}(h:kY l=.ok y)(z:∀T,tokens l=.ok T->wy R T):Vg y.s.g/\(∀c∈y.cs,nJ y.s.g c)/\∀q∈y.s.g,gK R q:=by
 unfold kY at h;cases k:tokens l with
 |bad a x=>grind
 |ok T=>
  rw[k]at h;have j:=B8 k;have C:0<T.length:=by
   obtain⟨D,t,x,_⟩:=j.e
   grind
  obtain⟨a,_,b⟩:=Tn j (z T k) _ _ _ h ⟨C,dg _,.nil,⟨j,λw d=>(by cases d),λw d=>(by cases d),λw d=>(by cases d)⟩,λc A=>(by cases A)⟩ λq B=>(by cases B);exact⟨a.v,a.c,b⟩
end
def Cg{a b:Nat}(e:a<256)(h:b<256)(d:c9 a=c9 b):a=b:=by have:=congrArg UInt8.toNat d;simp at this;omega
def zY:∀(n m:Nat) (r s:List UInt8),iB n++r=iB m++s->n=m/\r=s:=by
 intro n;induction n using Nat.strongRecOn with
 |_ n k=>
  intro m r s d;by_cases h:n<128<;>by_cases e:m<128
  .rw [qU h,qU e]at d;simp only[iJ,lS,List.cons.injEq]at d;exact⟨Cg io io d.1,d.2⟩
  .rw [qU h,sc e]at d;simp only[iJ,lS,List.cons.injEq]at d;have:=Cg io io d.1;omega
  .rw [sc h,qU e]at d;simp only[iJ,lS,List.cons.injEq]at d;have:=Cg io io d.1;omega
  .rw [sc h,sc e]at d;simp only[iJ,List.cons.injEq]at d;have q:=Cg io io d.1;have j:=k (n / 128) io _ _ _ d.2;exact⟨io,j.2⟩
def afs{a b:Int}(d:zz a=zz b):a=b:=by unfold zz at d;split at d<;>split at d<;>omega
def sb{n m:Int}{r s:List UInt8}(d:kI n++r=kI m++s):n=m/\r=s:=by have:=zY _ _ _ _ d;exact⟨afs this.1,this.2⟩
def LS:∀{a b:List Int} {r s:List UInt8},a.length=b.length->a.flatMap kI++r=b.flatMap kI++s->a=b/\r=s
 |[],[],_,_,_,e=>⟨rfl,e⟩
 |[],_::_,_,_,d,_=>by simp at d
 |_::_,[],_,_,d,_=>by simp at d
 |w::a,x::b,r,s,d,e=>by simp only[dI,dS]at e;obtain⟨h,j⟩:=sb e;obtain⟨k,q⟩:=LS (a:=a) (b:=b) (by simpa using d) j;exact⟨by rw[h,k],q⟩
def Ym{a b:List Int}{r s:List UInt8}(d:oH a++r=oH b++s):a=b/\r=s:=by unfold oH at d;simp only[dS]at d;obtain⟨e,h⟩:=zY _ _ _ _ d;exact LS e h
def Yn{a b r s:List UInt8}(d:qT a++r=qT b++s):a=b/\r=s:=by unfold qT at d;simp only[dS]at d;obtain⟨e,h⟩:=zY _ _ _ _ d;exact List.append_inj h e
def abl{n m:Nx}(hn:0<=n.u)(Z:0<=m.u)(d:qc n=qc m):n=m:=by
 unfold qc at d;obtain⟨e,d⟩:=sb d;obtain⟨h,d⟩:=Ym d;obtain⟨j,d⟩:=sb d;obtain⟨k,d⟩:=sb d;obtain⟨B,d⟩:=zY _ _ _ _ d;obtain⟨q,d⟩:=Yn d;obtain⟨w,d⟩:=sb d;obtain⟨x,d⟩:=sb d;have y:=(sb (r:=[]) (s:=[]) (by simpa using d)).1;have z:n.u=m.u:=io
 have A:n.tx=m.tx:=by
  have:=congrArg ba q
  rwa[jW,jW]at this
 obtain⟨C,D,E,F,G,H,⟨J,K,L⟩⟩:=n;obtain⟨M,N,O,P,Q,S,⟨T,W,Y⟩⟩:=m;simp only at e h j k z A w x y;clear B q;subst e h j k z A w x y;rfl
def lI(n:Nx):ByteArray:=ba (qc n)
def ZI{n m:Nx}(h:0<=n.u)(e:0<=m.u)(d:lI n=lI m):n=m:=by
 refine abl h e ?_;have:=congrArg bl d;unfold lI at this
 rwa[kE,kE]at this
def jK:List Nx->Nat->List (ByteArray×V)
 |[],_=>[]
 |d::g,i=>(lI d,.i (i:Int))::jK g (i+1)
def Rz(n:Nx):∀(g:List Nx) (i:Nat),jK (g++[n]) i=jK g i++[(lI n,.i ((i+g.length:Nat):Int))]
 |[],i=>by simp[jK]
 |d::g,i=>by have:=Rz n g (i+1);simp only[iJ,jK,this,cD];rw[show i+1+g.length=i+(g.length+1)by omega]
def G0{n:Nx}(q:0<=n.u):∀{g:List Nx} {i:Nat},(∀d∈g,0<=d.u)->hg (jK g i) (lI n)=(eo n g i).map λk:Nat=>.i (k:Int)
 |[],i,_=>rfl
 |d::g,i,j=>by
  have w:=G0 q (g:=g) (i:=i+1) λe x=>j e (by simp[x]);unfold hg at w ⊢;unfold jK eo;by_cases h:d=n
  .subst h;simp
  .have y:¬lI d=lI n:=λe=>h (ZI (j d us) q e);rw[ad h,List.find?_cons];simp only[a7 y];exact w
def iN:List Nx->List (ByteArray×V)
 |[]=>[]
 |d::g=>if d.op=0 then(d.tx,dk d.st)::iN g else iN g
def U4(n:Nx):∀(g:List Nx),iN (g++[n])=iN g++(if n.op=0 then[(n.tx,dk n.st)]else[])
 |[]=>by unfold iN;simp only[lS,iN]
 |d::g=>by have:=U4 n g;simp only[iJ,iN,this];split<;>simp
def Ir(t:ByteArray):∀(g:List Nx),hg (iN g) t=(ga g t).map dk
 |[]=>rfl
 |k::g=>by
  have j:=Ir t g;unfold hg at j ⊢;unfold iN ga;by_cases d:k.op=0
  .rw [ag d,List.find?_cons];by_cases e:k.tx=t
   .rw [ag ⟨d,e⟩];simp[e]
   .rw [ad (λh=>e h.2)];simp only[a7 e];exact j
  .rw [ad d,ad (λh=>d h.1)];exact j
abbrev nF(d:Nat)(s:Sl)(mp mv:Nat)(l:List Nd)(iD:Array MapEntry)(c1:Nat)(ic:Array MapEntry)(c2:Nat):List En:=
 [.c d [s.v,.map (some mp),.map (some mv)] tE,.row bP 9 s (l.flatMap Nd.c),.ob mp (.map iD c1),.ob mv (.map ic c2)]
def ho(w:I)(d:Nat)(l:List Nd)(own:List Nat):Prop:=∃(s:Sl) (mp mv:Nat) (iD:Array MapEntry) (c1:Nat) (ic:Array MapEntry) (c2:Nat),own=(nF d s mp mv l iD c1 ic c2).flatMap (·.fp)/\own.Nodup/\(∀e∈nF d s mp mv l iD c1 ic c2,e.P w)/\dL iD (jK (xs l) 0)/\dL ic (iN (xs l))
def rH(w:I)(h:Nat)(own:List Nat)(l:List Nd)(w':I):Prop:=∃d,ho w' h l d/\Fr (·∈own) w w'/\∀e∈d,e∈own\/w.heap.size<=e
def ho.open{w:I}{h:Nat}{l:List Nd}{own:List Nat}(y:ho w h l own)(D:List En)(j:∀d∈D,d.P w/\∀b∈d.fp,b∉own):
  ∃(s:Sl) (mp mv:Nat) (iD:Array MapEntry) (c1:Nat) (ic:Array MapEntry) (c2:Nat),dL iD (jK (xs l) 0)/\dL ic (iN (xs l))/\O (·∈own) w w (nF h s mp mv l iD c1 ic c2) D:=by
 obtain⟨s,mp,mv,iD,c1,ic,c2,G,F,B,z,A⟩:=y;have q:∀d∈nF h s mp mv l iD c1 ic c2,∀b∈d.fp,b∈own:=λd e b k=>by grind
 exact⟨s,mp,mv,iD,c1,ic,c2,z,A,O.og _ _ (λd e=>⟨B d e,q d e⟩) (G▸F) (λd e=>⟨(j d e).1,λb k x C E=>(j d e).2 b k (q x C b E)⟩)⟩
def ho.close{w w':I}{d:Nat}{l:List Nd}{own:List Nat}{s:Sl}{mp mv:Nat}{iD:Array MapEntry}{c1:Nat}{ic:Array MapEntry}{c2:Nat}{D:List En}(H:O (·∈own) w w' (nF d s mp mv l iD c1 ic c2) D)(h:dL iD (jK (xs l) 0))(j:dL ic (iN (xs l))):rH w d own l w':=
 ⟨_,⟨s,mp,mv,iD,c1,ic,c2,rfl,H.nd,H.own,h,j⟩,H.fr,λy x=>by obtain⟨e,q,k⟩:=b'.1 x;exact(H.new e q y k).symm⟩
def Nv:nP U Cc eD bF (.int .i64 0):=⟨by kernel_rfl,by kernel_rfl,by kernel_rfl⟩
def Ny:nP U aeR eD cd (.agg #[.int .i64 0,.int .i64 0,.int .i64 0]):=⟨by kernel_rfl,by kernel_rfl,by kernel_rfl⟩
def _root_.Go.W.En.cl(p:Addr)(v:V):En:=⟨[p.block],λe=>e.cell? p=some v,λe q j d=>by
 have k:=pC d;unfold World.cell? at d ⊢
 grind,λe d b h=>by simp at h;subst h;exact pC d,us⟩
def aaw{l:List Nd}(t:ByteArray):∃(a b c:Int) (y:Bool),((hg (iN (xs l)) t).getD (.agg #[.int .i64 0,.int .i64 0,.int .i64 0]))=.agg #[.i a,.i b,.i c]/\(hg (iN (xs l)) t).isSome=y/\n8 (xs l) t=ab (.tuple #[.agg #[.i a,.i b,.i c],.bool y]):=by
 rw[Ir];unfold n8;cases ga (xs l) t with
 |none=>exact⟨0,0,0,false,rfl,rfl,rfl⟩
 |some s=>grind
def Wi{w:I}{d:Nat}{l:List Nd}{s:Sl}{mp mv:Nat}{iD:Array MapEntry}{c1:Nat}{ic:Array MapEntry}{c2:Nat}{j:Addr}(J:∀k∈nF d s mp mv l iD c1 ic c2,k.P w)(C:dL ic (iN (xs l)))(D:w.cell? j=some (.pointer (some (aa d))))(t:ByteArray):
  ah U Gm #[.string t,.pointer (some j)] w λr E=>r=n8 (xs l) t/\af w E:=by
 have q:O F0 w w [] (nF d s mp mv l iD c1 ic c2++[.cl j (.pointer (some (aa d)))]):=bZ _ (by
  intro k e;rcases aP.1 e with e|e
  .grind
  .simp only[aF,aW,a2]at e;subst e;exact D)
 obtain⟨a,b,c,F,z,A,B⟩:=aaw (l:=l) t;refine Uy.aq (q.aw λG K h=>⟨_,h.getD 4,xY ⟨some mv,cellAt (p:=aa d) (h.getD 0) rfl rfl,a,b,c,F,?_,h.aw λH L x=>x.ae λM y=>⟨B.symm,y.fr⟩⟩⟩);rw[sI Ny (h.getD 3) C t,z,A]
def Wk{w:I}{j:Nat}{l:List Nd}{own:List Nat}{d:Nd}(N:ho w j l own)(T:∀k∈l,k.P w)(hd:d.P w)(hk:cJ.P w)(Y:kz d.x)(W:l.length<=1000000000)(hv:∀k∈xs l,bx k.st=true):
  ah U PN #[.pointer (some (aa j)),d.v] w λr D=>r=gF (bo (xs l) d.x)/\af w D:=by
 obtain⟨s,mp,C,z,q,A,y,_,_,S,_,Q⟩:=N;have Z:aJ w bP 9 s (l.flatMap Nd.c):=S _ (ay (i:=1) rfl);have F:O F0 w w [] (nF j s mp C l z q A y++[.gr s l,bE d,cJ]):=bZ _ (by
  intro k h;rcases aP.1 h with h|h
  .grind
  .simp only[aF,aW,a2]at h;rcases h with rfl|rfl|rfl
   .exact bd.2 ⟨Z.a9,T⟩
   .exact hd
   omega)
 refine Ux.aq (F.nw λw1 _ G=>G.aw λb3 w2 H=>H.aw λb4 w3 J=>J.ae λE e=>⟨_,e.cC 0,xY ⟨s,cellAt (p:=aa j) (e.getD 0) rfl rfl,?_⟩⟩);have M:O F0 E E [] (.gr s l::bE d::cJ::(nF j s mp C l z q A y++[.cl (aa w.heap.size) (.pointer (some (aa j)))])):=bZ _ (by
  intro k h;simp only[iJ,lS,aF,aW,a2]at h;rcases h with rfl|rfl|rfl|rfl|rfl|rfl|rfl|rfl
  .exact e.getD 4
  .exact e.getD 5
  .exact e.getD 6
  .exact e.getD 0
  .exact e.getD 1
  .exact e.getD 2
  .exact e.getD 3
  .exact e.cC 0)
 refine e.av (Um ⟨Gm,#[],#[.pointer (some (aa w.heap.size))]⟩ M (by kernel_rfl) (λD B=>?_) Y W hv) ?_
 .exact Wi (λk h=>B k (List.mem_append_left _ h)) Q (B (.cl (aa w.heap.size) (.pointer (some (aa j)))) us) d.x.tx
 .rintro _ w5 rfl K;exact⟨_,_,_,_,rfl,K.ae λw6 L=>⟨rfl,L.fr⟩⟩
def qX(g:List Nx)(n:Nx):Int×Bool:=match eo n g 0 with
 |some i=>((i:Int),true)
 |none=>(0,false)
def find_eq{g:List Nx}{n:Nx}(e:0<=n.u)(h:∀d∈g,0<=d.u):(hg (jK g 0) (lI n)).getD (.int .i64 0)=.i (qX g n).1/\(hg (jK g 0) (lI n)).isSome=(qX g n).2:=by
 rw[G0 e h];unfold qX
 grind
def Wh{w:I}{e:Nat}{l:List Nd}{own:List Nat}{d:Nd}(G:ho w e l own)(hd:d.P w)(W:nQ d.x)(J:∀q∈xs l,0<=q.u):
  ah U PJ #[.pointer (some (aa e)),d.v] w λr L=>r=ab (.tuple #[.i (qX (xs l) d.x).1,.bool (qX (xs l) d.x).2])/\af w L:=by
 obtain⟨s,mp,K,E,A,F,B,_,_,M,H,_⟩:=G;have y:O F0 w w [] (nF e s mp K l E A F B++[bE d]):=bZ _ (by
  intro q h;rcases aP.1 h with h|h
  .grind
  .simp only[aF,aW,a2]at h;subst h;exact hd)
 refine Uv.ok (y.nw λN _ z=>z.dr λQ j=>⟨some mp,cellAt (p:=aa e) (j.getD 0) rfl rfl,j.call (Ul (d:=d) (xQ (j.ob 0)) (j.getD 4) W) ?_⟩);rintro _ S rfl k;obtain⟨C,D⟩:=find_eq W.u.1 J;refine⟨_,rfl,cellAt (p:=aa e) (k.getD 0) rfl rfl,(qX (xs l) d.x).1,(qX (xs l) d.x).2,?_,rfl,k.fr⟩;have:=sI Nv (k.getD 2) H (lI d.x);rw[C,D]at this;exact this
def Jj{w:I}{y:Nat}{l:List Nd}{own:List Nat}{d:Nd}(an:ho w y l own)(hd:d.P w)(ao:∀b∈(bE d).fp,b∉own)(W:nQ d.x)(hu:∀z∈xs l,0<=z.u)(hl:l.length<=100000)(az:d.x∉xs l)(ar:d.x.op=0->ga (xs l) d.x.tx=none):
  ah U PL #[.pointer (some (aa y)),d.v] w λr Y=>r=ab (.i (l.length:Int))/\rH w y own (l++[d]) Y:=by
 obtain⟨s,mp,F,aw,K,am,M,h1,h2,ac⟩:=an.open [bE d] (by intro z he;simp only[aF,aW,a2]at he;subst he;exact⟨hd,ao⟩)
 have hn:s.n=l.length:=Nd.cw (show bA 9 w s (l.flatMap Nd.c)from(show aJ w bP 9 s (l.flatMap Nd.c)from ac.get 1).a9);have g1:hg (jK (xs l) 0) (lI d.x)=none:=by
  rw[G0 W.u.1 hu];cases hi:eo d.x (xs l) 0 with
  |none=>rfl
  |some i=>
   have:=(q4 hi).2
   grind
 have af:xs (l++[d])=xs l++[d.x]:=by grind
 have p1:jK (xs (l++[d])) 0=jK (xs l) 0++[(lI d.x,.i (l.length:Int))]:=by rw[af,Rz];grind
 have p2:iN (xs (l++[d]))=iN (xs l)++(if d.x.op=0 then[(d.x.tx,dk d.x.st)]else[]):=by rw[af,U4]
 have ae:∀(C:Array MapEntry) (L:Nat) (q:Array MapEntry) (N S:Nat) (H:I),dL C (jK (xs (l++[d])) 0)->dL q (iN (xs (l++[d])))->O (·∈own) w H (nF y s mp F l C L q N++[.c S d.c bP]) [bE d]->
   B5.S0 (aa y) (aa S) H λr Y=>r=ab (.i (l.length:Int))/\rH w y own (l++[d]) Y:=by
  intro C L q N S H G q2 J;dsimp only[B5.S0,ai];refine J.dr λZ e=>⟨s,e.ld 0 0,?_⟩;refine⟨d.x.op,d.ks,d.x.n,d.x.m,d.x.u,d.x.tx,d.x.st.k,d.x.st.n,d.x.st.x,e.ld 4 0,e.ld 4 1,e.ld 4 2,e.ld 4 3,e.ld 4 4,e.ld 4 5,e.ld 4 6,e.ld 4 7,e.ld 4 8,e.nw λw3 _ h=>⟨h.ld 0 0,?_⟩⟩;have aj:bA 9 w3 ⟨some (aa Z.heap.size),1,1⟩ ([d].flatMap Nd.c):=by rw[show[d].flatMap Nd.c=d.c by simp];exact um (T:=bP) (h.ob 5) rfl
  refine h.ap 1 nY (src:=⟨some (aa Z.heap.size),1,1⟩) rfl aj.2.2 aj.1 q' (by grind) (λs' w4 A aq _=>A.st 0 0 rfl (λw5 j=>⟨s',j.ld 0 0,?_⟩));refine⟨?_,ho.close (s:=s') (mp:=mp) (mv:=F) (iD:=C) (c1:=L) (ic:=q) (c2:=N) (D:=[bE d]) ?_ G q2⟩
  .rw [aq,IntWalk.i64_in _ (by grind)]
   grind
  .have:=j.take 4
   grind
 refine B5.ok (ac.nw λH _ J=>J.dr λZ e=>⟨some mp,e.ld 0 1,s,e.ld 0 0,e.call (Ul (d:=d) (xQ (e.ob 4)) (e.getD 0) W) ?_⟩);rintro _ w3 rfl h;obtain⟨w4,B,u1,u2,u3,u4,_⟩:=rD Nv (h.ob 2) h1 (lI d.x) (.i (s.n:Int)) g1;have A:=h.fy 2 (.ob mp (.map B (K+1))) rfl (u4.mono λav _ z=>by simp[En.ob,z]) u2 (λb Q=>.inl Q);have G:dL B (jK (xs (l++[d])) 0):=by rw[p1,<-hn];exact u3
 refine⟨_,rfl,h.ld 0 0,h.ld 0 1,w4,u1,d.x.op,A.ld 4 0,ax (λE=>?_) (λE=>?_)⟩
 .refine A.dr λw5 j=>⟨some F,j.ld 0 2,d.x.tx,j.ld 4 5,?_⟩;have g2:hg (iN (xs l)) d.x.tx=none:=by rw[Ir,ar E];rfl
  obtain⟨w6,q,v1,v2,v3,v4,_⟩:=rD Ny (j.ob 3) h2 d.x.tx (dk d.x.st) g2;have H6:=j.fy 3 (.ob F (.map q (M+1))) rfl (v4.mono λav _ z=>by simp[En.ob,z]) v2 (λb Q=>.inl Q);have a:=xQ (d:=d) (j.ob 4);refine⟨d.x.st.k,d.x.st.n,d.x.st.x,a.s0,a.s1,a.s2,w6,v1,ae B (K+1) q (M+1) w.heap.size w6 G ?_ H6⟩;rw[p2,ag E];exact v3
 .refine ae B (K+1) am M w.heap.size w4 G ?_ A;rw[p2,ad E,df];exact h2
end Go.Proofs.YtkbmpalepmakmaaGreatDoor
end
